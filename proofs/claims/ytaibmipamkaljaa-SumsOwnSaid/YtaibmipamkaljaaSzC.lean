/- A part of the proof. -/
import Derived.Test.YtaibmipamkaljaaSzB
set_option linter.unusedVariables false
set_option linter.unusedSimpArgs false
set_option linter.unnecessarySimpa false
section
open Go Go.HL
namespace Go.Proofs.Ytaibmipamkaljaa
set_option maxRecDepth 100000
open Go.Proofs.Try renaming prog → Tp
open Go.HL.HV renaming undef → Ud
noncomputable def B101:Code:=Try.f101.body.getD .skip
abbrev env101 (v0 v1 v2 v3 v4 v10 v11:HV):Env:=[(0,v0),(1,v1),(2,v2),(3,v3),(4,v4),(10,v10),(11,v11)]
theorem o2_a_0 (N:Nat) (db n:Nat) (cap:Option Nat) (H:Heap) (x:Nat) (a:Nat) (b:Nat) {a0:HV} {v0:HV} {a1:HV} {v1:HV} {c0:Int} {H0:Heap} {x0:Int} {H1:Heap} (g0:idxV Tp 35 (.c db n cap) (.i (b:Int))=some (a0)) (g1:loadV Tp H 22 (a0)=some (v0)) (g2:idxV Tp 35 (.c db n cap) (.i (a:Int))=some (a1)) (g3:loadV Tp H 22 (a1)=some (v1)) (g4:∀ kf,N ≤ kf → callN Tp polSl (kf+1) 64 [v0,v1] H=some (.i c0,H0)) (g5:c0 < 0) (g6:loadV Tp H0 3 (.ptr x 0 0 1)=some (.i x0)) (g7:storeV Tp H0 3 (.ptr x 0 0 1) (.i (IntKind.i64.wrap (x0+1)))=some H1):RT polSl 101 (sub [] B101) [(0,.c db n cap),(1,.i (a:Int)),(2,.i (b:Int)),(3,.ptr x 0 0 1),(4,.func 64 [] [])] H .ret (env101 (.c db n cap) (.i (a:Int)) (.i (b:Int)) (.ptr x 0 0 1) (.func 64 [] []) (.i (b:Int)) (.i (a:Int))) H1 :=
  RunsTo.hin N 60 [⟨1,3,a0,H⟩,⟨1,4,v0,H⟩,⟨1,7,a1,H⟩,⟨1,8,v1,H⟩,⟨1,9,.i c0,H0⟩,⟨1,10,.bool true,H0⟩,⟨2,2,.i x0,H0⟩,⟨2,5,.tuple [],H1⟩] fun kf hk=>⟨_,by kernel_rfl,(oP H g0 (oP H g1 (oP H g2 (oP H g3 (oC (g4 kf (by omega)) (oB H0 (decide_eq_true g5) (oP H0 g6 (oS g7 .nil))))))))⟩
theorem o2_a_1 (N:Nat) (db n:Nat) (cap:Option Nat) (H:Heap) (x:Nat) (a:Nat) (b:Nat) {a0:HV} {v0:HV} {a1:HV} {v1:HV} {c0:Int} {H0:Heap} (g0:idxV Tp 35 (.c db n cap) (.i (b:Int))=some (a0)) (g1:loadV Tp H 22 (a0)=some (v0)) (g2:idxV Tp 35 (.c db n cap) (.i (a:Int))=some (a1)) (g3:loadV Tp H 22 (a1)=some (v1)) (g4:∀ kf,N ≤ kf → callN Tp polSl (kf+1) 64 [v0,v1] H=some (.i c0,H0)) (g5:¬ (c0 < 0)):RT polSl 101 (sub [] B101) [(0,.c db n cap),(1,.i (a:Int)),(2,.i (b:Int)),(3,.ptr x 0 0 1),(4,.func 64 [] [])] H .ret (env101 (.c db n cap) (.i (a:Int)) (.i (b:Int)) (.ptr x 0 0 1) (.func 64 [] []) (.i (a:Int)) (.i (b:Int))) H0 :=
  RunsTo.hin N 60 [⟨1,3,a0,H⟩,⟨1,4,v0,H⟩,⟨1,7,a1,H⟩,⟨1,8,v1,H⟩,⟨1,9,.i c0,H0⟩,⟨1,10,.bool false,H0⟩] fun kf hk=>⟨_,by kernel_rfl,(oP H g0 (oP H g1 (oP H g2 (oP H g3 (oC (g4 kf (by omega)) (oB H0 (decide_eq_false g5) .nil))))))⟩
noncomputable def B99:Code:=Try.f99.body.getD .skip
abbrev env99 (v0 v1 v2 v3 v4 v5 v12:HV):Env:=[(0,v0),(1,v1),(2,v2),(3,v3),(4,v4),(5,v5),(12,v12)]
theorem md_a_0 (N:Nat) (db n:Nat) (cap:Option Nat) (H:Heap) (x:Nat) (a:Nat) (b:Nat) (q:Nat) {p0:Int} {p1:Int} {H0:Heap} {p2:Int} {p3:Int} {H1:Heap} {p4:Int} {p5:Int} {H2:Heap} (g0:∀ kf,N ≤ kf → callN Tp polSl (kf+1) 101 [.c db n cap,.i (a:Int),.i (b:Int),.ptr x 0 0 1,.func 64 [] []] H=some (.tuple [.i p0,.i p1],H0)) (g1:∀ kf,N ≤ kf → callN Tp polSl (kf+1) 101 [.c db n cap,.i p1,.i (q:Int),.ptr x 0 0 1,.func 64 [] []] H0=some (.tuple [.i p2,.i p3],H1)) (g2:∀ kf,N ≤ kf → callN Tp polSl (kf+1) 101 [.c db n cap,.i p0,.i p2,.ptr x 0 0 1,.func 64 [] []] H1=some (.tuple [.i p4,.i p5],H2)):RT polSl 99 (sub [] B99) [(0,.c db n cap),(1,.i (a:Int)),(2,.i (b:Int)),(3,.i (q:Int)),(4,.ptr x 0 0 1),(5,.func 64 [] [])] H .ret (env99 (.c db n cap) (.i p4) (.i p5) (.i p3) (.ptr x 0 0 1) (.func 64 [] []) (.i p5)) H2 :=
  RunsTo.hin N 60 [⟨1,5,.tuple [.i p0,.i p1],H0⟩,⟨2,5,.tuple [.i p2,.i p3],H1⟩,⟨3,5,.tuple [.i p4,.i p5],H2⟩] fun kf hk=>⟨_,by kernel_rfl,(oC (g0 kf (by omega)) (oC (g1 kf (by omega)) (oC (g2 kf (by omega)) .nil)))⟩
noncomputable def B98:Code:=Try.f98.body.getD .skip
abbrev env98 (v0 v1 v2 v3 v8:HV):Env:=[(0,v0),(1,v1),(2,v2),(3,v3),(8,v8)]
theorem ma_a_0 (N:Nat) (db n:Nat) (cap:Option Nat) (H:Heap) (x:Nat) (a:Nat) {p0:Int} {H0:Heap} (g0:∀ kf,N ≤ kf → callN Tp polSl (kf+1) 99 [.c db n cap,.i (IntKind.i64.wrap ((a:Int) - 1)),.i (a:Int),.i (IntKind.i64.wrap ((a:Int)+1)),.ptr x 0 0 1,.func 64 [] []] H=some (.i p0,H0)):RT polSl 98 (sub [] B98) [(0,.c db n cap),(1,.i (a:Int)),(2,.ptr x 0 0 1),(3,.func 64 [] [])] H .ret (env98 (.c db n cap) (.i (a:Int)) (.ptr x 0 0 1) (.func 64 [] []) (.i p0)) H0 :=
  RunsTo.hin N 60 [⟨1,8,.i p0,H0⟩] fun kf hk=>⟨_,by kernel_rfl,(oC (g0 kf (by omega)) .nil)⟩
noncomputable def B86:Code:=Try.f86.body.getD .skip
abbrev env86 (v0 v1 v2 v3 v8 v9 v10 v11 v12 v13 v14 v55:HV):Env:=[(0,v0),(1,v1),(2,v2),(3,v3),(8,v8),(9,v9),(10,v10),(11,v11),(12,v12),(13,v13),(14,v14),(55,v55)]
theorem cv_a_0 (N:Nat) (db n:Nat) (cap:Option Nat) (H:Heap) (x:Nat) (a:Nat) (b:Nat) {H0:Heap} {p0:Int} {H1:Heap} {p1:Int} {H2:Heap} {p2:Int} {H3:Heap} {p3:Int} {H4:Heap} {x0:Int} (g0:some (newV (.i 0) H)=some (.ptr x 0 0 1,H0)) (g1:8 ≤ IntKind.i64.wrap ((b:Int) - (a:Int))) (g2:50 ≤ IntKind.i64.wrap ((b:Int) - (a:Int))) (g3:∀ kf,N ≤ kf → callN Tp polSl (kf+1) 98 [.c db n cap,.i (IntKind.i64.wrap ((a:Int)+IntKind.i64.wrap (IntKind.i64.wrap ((IntKind.i64.wrap ((b:Int) - (a:Int)):Int).tdiv 4) * 1))),.ptr x 0 0 1,.func 64 [] []] H0=some (.i p0,H1)) (g4:∀ kf,N ≤ kf → callN Tp polSl (kf+1) 98 [.c db n cap,.i (IntKind.i64.wrap ((a:Int)+IntKind.i64.wrap (IntKind.i64.wrap ((IntKind.i64.wrap ((b:Int) - (a:Int)):Int).tdiv 4) * 2))),.ptr x 0 0 1,.func 64 [] []] H1=some (.i p1,H2)) (g5:∀ kf,N ≤ kf → callN Tp polSl (kf+1) 98 [.c db n cap,.i (IntKind.i64.wrap ((a:Int)+IntKind.i64.wrap (IntKind.i64.wrap ((IntKind.i64.wrap ((b:Int) - (a:Int)):Int).tdiv 4) * 3))),.ptr x 0 0 1,.func 64 [] []] H2=some (.i p2,H3)) (g6:∀ kf,N ≤ kf → callN Tp polSl (kf+1) 99 [.c db n cap,.i p0,.i p1,.i p2,.ptr x 0 0 1,.func 64 [] []] H3=some (.i p3,H4)) (g7:loadV Tp H4 3 (.ptr x 0 0 1)=some (.i x0)) (g8:x0=0):RT polSl 86 (sub [] B86) [(0,.c db n cap),(1,.i (a:Int)),(2,.i (b:Int)),(3,.func 64 [] [])] H .ret (env86 (.c db n cap) (.i (a:Int)) (.i (b:Int)) (.func 64 [] []) (.i p3) (.i 1) (.i (IntKind.i64.wrap ((b:Int) - (a:Int)))) (.ptr x 0 0 1) (.i p0) (.i p3) (.i p2) (.i x0)) H4 :=
  RunsTo.hin N 60 [⟨2,0,.ptr x 0 0 1,H0⟩,⟨6,1,.bool true,H0⟩,⟨7,1,.bool true,H0⟩,⟨8,3,.i p0,H1⟩,⟨9,3,.i p1,H2⟩,⟨10,3,.i p2,H3⟩,⟨11,5,.i p3,H4⟩,⟨12,0,.i x0,H4⟩,⟨14,0,.bool true,H4⟩] fun kf hk=>⟨_,by kernel_rfl,(oC (g0) (oB H0 (decide_eq_true g1) (oB H0 (decide_eq_true g2) (oC (g3 kf (by omega)) (oC (g4 kf (by omega)) (oC (g5 kf (by omega)) (oC (g6 kf (by omega)) (oP H4 g7 (oB H4 (decide_eq_true g8) .nil)))))))))⟩
theorem cv_a_1 (N:Nat) (db n:Nat) (cap:Option Nat) (H:Heap) (x:Nat) (a:Nat) (b:Nat) {H0:Heap} {p0:Int} {H1:Heap} {p1:Int} {H2:Heap} {p2:Int} {H3:Heap} {p3:Int} {H4:Heap} {x0:Int} (g0:some (newV (.i 0) H)=some (.ptr x 0 0 1,H0)) (g1:8 ≤ IntKind.i64.wrap ((b:Int) - (a:Int))) (g2:50 ≤ IntKind.i64.wrap ((b:Int) - (a:Int))) (g3:∀ kf,N ≤ kf → callN Tp polSl (kf+1) 98 [.c db n cap,.i (IntKind.i64.wrap ((a:Int)+IntKind.i64.wrap (IntKind.i64.wrap ((IntKind.i64.wrap ((b:Int) - (a:Int)):Int).tdiv 4) * 1))),.ptr x 0 0 1,.func 64 [] []] H0=some (.i p0,H1)) (g4:∀ kf,N ≤ kf → callN Tp polSl (kf+1) 98 [.c db n cap,.i (IntKind.i64.wrap ((a:Int)+IntKind.i64.wrap (IntKind.i64.wrap ((IntKind.i64.wrap ((b:Int) - (a:Int)):Int).tdiv 4) * 2))),.ptr x 0 0 1,.func 64 [] []] H1=some (.i p1,H2)) (g5:∀ kf,N ≤ kf → callN Tp polSl (kf+1) 98 [.c db n cap,.i (IntKind.i64.wrap ((a:Int)+IntKind.i64.wrap (IntKind.i64.wrap ((IntKind.i64.wrap ((b:Int) - (a:Int)):Int).tdiv 4) * 3))),.ptr x 0 0 1,.func 64 [] []] H2=some (.i p2,H3)) (g6:∀ kf,N ≤ kf → callN Tp polSl (kf+1) 99 [.c db n cap,.i p0,.i p1,.i p2,.ptr x 0 0 1,.func 64 [] []] H3=some (.i p3,H4)) (g7:loadV Tp H4 3 (.ptr x 0 0 1)=some (.i x0)) (g8:¬ (x0=0)) (g9:x0=12):RT polSl 86 (sub [] B86) [(0,.c db n cap),(1,.i (a:Int)),(2,.i (b:Int)),(3,.func 64 [] [])] H .ret (env86 (.c db n cap) (.i (a:Int)) (.i (b:Int)) (.func 64 [] []) (.i p3) (.i 2) (.i (IntKind.i64.wrap ((b:Int) - (a:Int)))) (.ptr x 0 0 1) (.i p0) (.i p3) (.i p2) (.i x0)) H4 :=
  RunsTo.hin N 60 [⟨2,0,.ptr x 0 0 1,H0⟩,⟨6,1,.bool true,H0⟩,⟨7,1,.bool true,H0⟩,⟨8,3,.i p0,H1⟩,⟨9,3,.i p1,H2⟩,⟨10,3,.i p2,H3⟩,⟨11,5,.i p3,H4⟩,⟨12,0,.i x0,H4⟩,⟨14,0,.bool false,H4⟩,⟨16,0,.bool true,H4⟩] fun kf hk=>⟨_,by kernel_rfl,(oC (g0) (oB H0 (decide_eq_true g1) (oB H0 (decide_eq_true g2) (oC (g3 kf (by omega)) (oC (g4 kf (by omega)) (oC (g5 kf (by omega)) (oC (g6 kf (by omega)) (oP H4 g7 (oB H4 (decide_eq_false g8) (oB H4 (decide_eq_true g9) .nil))))))))))⟩
theorem cv_a_2 (N:Nat) (db n:Nat) (cap:Option Nat) (H:Heap) (x:Nat) (a:Nat) (b:Nat) {H0:Heap} {p0:Int} {H1:Heap} {p1:Int} {H2:Heap} {p2:Int} {H3:Heap} {p3:Int} {H4:Heap} {x0:Int} (g0:some (newV (.i 0) H)=some (.ptr x 0 0 1,H0)) (g1:8 ≤ IntKind.i64.wrap ((b:Int) - (a:Int))) (g2:50 ≤ IntKind.i64.wrap ((b:Int) - (a:Int))) (g3:∀ kf,N ≤ kf → callN Tp polSl (kf+1) 98 [.c db n cap,.i (IntKind.i64.wrap ((a:Int)+IntKind.i64.wrap (IntKind.i64.wrap ((IntKind.i64.wrap ((b:Int) - (a:Int)):Int).tdiv 4) * 1))),.ptr x 0 0 1,.func 64 [] []] H0=some (.i p0,H1)) (g4:∀ kf,N ≤ kf → callN Tp polSl (kf+1) 98 [.c db n cap,.i (IntKind.i64.wrap ((a:Int)+IntKind.i64.wrap (IntKind.i64.wrap ((IntKind.i64.wrap ((b:Int) - (a:Int)):Int).tdiv 4) * 2))),.ptr x 0 0 1,.func 64 [] []] H1=some (.i p1,H2)) (g5:∀ kf,N ≤ kf → callN Tp polSl (kf+1) 98 [.c db n cap,.i (IntKind.i64.wrap ((a:Int)+IntKind.i64.wrap (IntKind.i64.wrap ((IntKind.i64.wrap ((b:Int) - (a:Int)):Int).tdiv 4) * 3))),.ptr x 0 0 1,.func 64 [] []] H2=some (.i p2,H3)) (g6:∀ kf,N ≤ kf → callN Tp polSl (kf+1) 99 [.c db n cap,.i p0,.i p1,.i p2,.ptr x 0 0 1,.func 64 [] []] H3=some (.i p3,H4)) (g7:loadV Tp H4 3 (.ptr x 0 0 1)=some (.i x0)) (g8:¬ (x0=0)) (g9:¬ (x0=12)):RT polSl 86 (sub [] B86) [(0,.c db n cap),(1,.i (a:Int)),(2,.i (b:Int)),(3,.func 64 [] [])] H .ret (env86 (.c db n cap) (.i (a:Int)) (.i (b:Int)) (.func 64 [] []) (.i p3) (.i 0) (.i (IntKind.i64.wrap ((b:Int) - (a:Int)))) (.ptr x 0 0 1) (.i p0) (.i p3) (.i p2) (.i x0)) H4 :=
  RunsTo.hin N 60 [⟨2,0,.ptr x 0 0 1,H0⟩,⟨6,1,.bool true,H0⟩,⟨7,1,.bool true,H0⟩,⟨8,3,.i p0,H1⟩,⟨9,3,.i p1,H2⟩,⟨10,3,.i p2,H3⟩,⟨11,5,.i p3,H4⟩,⟨12,0,.i x0,H4⟩,⟨14,0,.bool false,H4⟩,⟨16,0,.bool false,H4⟩] fun kf hk=>⟨_,by kernel_rfl,(oC (g0) (oB H0 (decide_eq_true g1) (oB H0 (decide_eq_true g2) (oC (g3 kf (by omega)) (oC (g4 kf (by omega)) (oC (g5 kf (by omega)) (oC (g6 kf (by omega)) (oP H4 g7 (oB H4 (decide_eq_false g8) (oB H4 (decide_eq_false g9) .nil))))))))))⟩
theorem cv_a_3 (N:Nat) (db n:Nat) (cap:Option Nat) (H:Heap) (x:Nat) (a:Nat) (b:Nat) {H0:Heap} {p0:Int} {H1:Heap} {x0:Int} (g0:some (newV (.i 0) H)=some (.ptr x 0 0 1,H0)) (g1:8 ≤ IntKind.i64.wrap ((b:Int) - (a:Int))) (g2:¬ (50 ≤ IntKind.i64.wrap ((b:Int) - (a:Int)))) (g3:∀ kf,N ≤ kf → callN Tp polSl (kf+1) 99 [.c db n cap,.i (IntKind.i64.wrap ((a:Int)+IntKind.i64.wrap (IntKind.i64.wrap ((IntKind.i64.wrap ((b:Int) - (a:Int)):Int).tdiv 4) * 1))),.i (IntKind.i64.wrap ((a:Int)+IntKind.i64.wrap (IntKind.i64.wrap ((IntKind.i64.wrap ((b:Int) - (a:Int)):Int).tdiv 4) * 2))),.i (IntKind.i64.wrap ((a:Int)+IntKind.i64.wrap (IntKind.i64.wrap ((IntKind.i64.wrap ((b:Int) - (a:Int)):Int).tdiv 4) * 3))),.ptr x 0 0 1,.func 64 [] []] H0=some (.i p0,H1)) (g4:loadV Tp H1 3 (.ptr x 0 0 1)=some (.i x0)) (g5:x0=0):RT polSl 86 (sub [] B86) [(0,.c db n cap),(1,.i (a:Int)),(2,.i (b:Int)),(3,.func 64 [] [])] H .ret (env86 (.c db n cap) (.i (a:Int)) (.i (b:Int)) (.func 64 [] []) (.i p0) (.i 1) (.i (IntKind.i64.wrap ((b:Int) - (a:Int)))) (.ptr x 0 0 1) (.i (IntKind.i64.wrap ((a:Int)+IntKind.i64.wrap (IntKind.i64.wrap ((IntKind.i64.wrap ((b:Int) - (a:Int)):Int).tdiv 4) * 1)))) (.i p0) (.i (IntKind.i64.wrap ((a:Int)+IntKind.i64.wrap (IntKind.i64.wrap ((IntKind.i64.wrap ((b:Int) - (a:Int)):Int).tdiv 4) * 3)))) (.i x0)) H1 :=
  RunsTo.hin N 60 [⟨2,0,.ptr x 0 0 1,H0⟩,⟨6,1,.bool true,H0⟩,⟨7,1,.bool false,H0⟩,⟨11,5,.i p0,H1⟩,⟨12,0,.i x0,H1⟩,⟨14,0,.bool true,H1⟩] fun kf hk=>⟨_,by kernel_rfl,(oC (g0) (oB H0 (decide_eq_true g1) (oB H0 (decide_eq_false g2) (oC (g3 kf (by omega)) (oP H1 g4 (oB H1 (decide_eq_true g5) .nil))))))⟩
theorem cv_a_4 (N:Nat) (db n:Nat) (cap:Option Nat) (H:Heap) (x:Nat) (a:Nat) (b:Nat) {H0:Heap} {p0:Int} {H1:Heap} {x0:Int} (g0:some (newV (.i 0) H)=some (.ptr x 0 0 1,H0)) (g1:8 ≤ IntKind.i64.wrap ((b:Int) - (a:Int))) (g2:¬ (50 ≤ IntKind.i64.wrap ((b:Int) - (a:Int)))) (g3:∀ kf,N ≤ kf → callN Tp polSl (kf+1) 99 [.c db n cap,.i (IntKind.i64.wrap ((a:Int)+IntKind.i64.wrap (IntKind.i64.wrap ((IntKind.i64.wrap ((b:Int) - (a:Int)):Int).tdiv 4) * 1))),.i (IntKind.i64.wrap ((a:Int)+IntKind.i64.wrap (IntKind.i64.wrap ((IntKind.i64.wrap ((b:Int) - (a:Int)):Int).tdiv 4) * 2))),.i (IntKind.i64.wrap ((a:Int)+IntKind.i64.wrap (IntKind.i64.wrap ((IntKind.i64.wrap ((b:Int) - (a:Int)):Int).tdiv 4) * 3))),.ptr x 0 0 1,.func 64 [] []] H0=some (.i p0,H1)) (g4:loadV Tp H1 3 (.ptr x 0 0 1)=some (.i x0)) (g5:¬ (x0=0)) (g6:x0=12):RT polSl 86 (sub [] B86) [(0,.c db n cap),(1,.i (a:Int)),(2,.i (b:Int)),(3,.func 64 [] [])] H .ret (env86 (.c db n cap) (.i (a:Int)) (.i (b:Int)) (.func 64 [] []) (.i p0) (.i 2) (.i (IntKind.i64.wrap ((b:Int) - (a:Int)))) (.ptr x 0 0 1) (.i (IntKind.i64.wrap ((a:Int)+IntKind.i64.wrap (IntKind.i64.wrap ((IntKind.i64.wrap ((b:Int) - (a:Int)):Int).tdiv 4) * 1)))) (.i p0) (.i (IntKind.i64.wrap ((a:Int)+IntKind.i64.wrap (IntKind.i64.wrap ((IntKind.i64.wrap ((b:Int) - (a:Int)):Int).tdiv 4) * 3)))) (.i x0)) H1 :=
  RunsTo.hin N 60 [⟨2,0,.ptr x 0 0 1,H0⟩,⟨6,1,.bool true,H0⟩,⟨7,1,.bool false,H0⟩,⟨11,5,.i p0,H1⟩,⟨12,0,.i x0,H1⟩,⟨14,0,.bool false,H1⟩,⟨16,0,.bool true,H1⟩] fun kf hk=>⟨_,by kernel_rfl,(oC (g0) (oB H0 (decide_eq_true g1) (oB H0 (decide_eq_false g2) (oC (g3 kf (by omega)) (oP H1 g4 (oB H1 (decide_eq_false g5) (oB H1 (decide_eq_true g6) .nil)))))))⟩
theorem cv_a_5 (N:Nat) (db n:Nat) (cap:Option Nat) (H:Heap) (x:Nat) (a:Nat) (b:Nat) {H0:Heap} {p0:Int} {H1:Heap} {x0:Int} (g0:some (newV (.i 0) H)=some (.ptr x 0 0 1,H0)) (g1:8 ≤ IntKind.i64.wrap ((b:Int) - (a:Int))) (g2:¬ (50 ≤ IntKind.i64.wrap ((b:Int) - (a:Int)))) (g3:∀ kf,N ≤ kf → callN Tp polSl (kf+1) 99 [.c db n cap,.i (IntKind.i64.wrap ((a:Int)+IntKind.i64.wrap (IntKind.i64.wrap ((IntKind.i64.wrap ((b:Int) - (a:Int)):Int).tdiv 4) * 1))),.i (IntKind.i64.wrap ((a:Int)+IntKind.i64.wrap (IntKind.i64.wrap ((IntKind.i64.wrap ((b:Int) - (a:Int)):Int).tdiv 4) * 2))),.i (IntKind.i64.wrap ((a:Int)+IntKind.i64.wrap (IntKind.i64.wrap ((IntKind.i64.wrap ((b:Int) - (a:Int)):Int).tdiv 4) * 3))),.ptr x 0 0 1,.func 64 [] []] H0=some (.i p0,H1)) (g4:loadV Tp H1 3 (.ptr x 0 0 1)=some (.i x0)) (g5:¬ (x0=0)) (g6:¬ (x0=12)):RT polSl 86 (sub [] B86) [(0,.c db n cap),(1,.i (a:Int)),(2,.i (b:Int)),(3,.func 64 [] [])] H .ret (env86 (.c db n cap) (.i (a:Int)) (.i (b:Int)) (.func 64 [] []) (.i p0) (.i 0) (.i (IntKind.i64.wrap ((b:Int) - (a:Int)))) (.ptr x 0 0 1) (.i (IntKind.i64.wrap ((a:Int)+IntKind.i64.wrap (IntKind.i64.wrap ((IntKind.i64.wrap ((b:Int) - (a:Int)):Int).tdiv 4) * 1)))) (.i p0) (.i (IntKind.i64.wrap ((a:Int)+IntKind.i64.wrap (IntKind.i64.wrap ((IntKind.i64.wrap ((b:Int) - (a:Int)):Int).tdiv 4) * 3)))) (.i x0)) H1 :=
  RunsTo.hin N 60 [⟨2,0,.ptr x 0 0 1,H0⟩,⟨6,1,.bool true,H0⟩,⟨7,1,.bool false,H0⟩,⟨11,5,.i p0,H1⟩,⟨12,0,.i x0,H1⟩,⟨14,0,.bool false,H1⟩,⟨16,0,.bool false,H1⟩] fun kf hk=>⟨_,by kernel_rfl,(oC (g0) (oB H0 (decide_eq_true g1) (oB H0 (decide_eq_false g2) (oC (g3 kf (by omega)) (oP H1 g4 (oB H1 (decide_eq_false g5) (oB H1 (decide_eq_false g6) .nil)))))))⟩
noncomputable def B94:Code:=Try.f94.body.getD .skip
abbrev env94 (v0 v2:HV):Env:=[(0,v0),(2,v2)]
theorem xs_a_0 (N:Nat) (db n:Nat) (cap:Option Nat) (H:Heap) (x:Nat)  {x0:Int} {x1:Int} {h0:Int} {h1:Int} {H0:Heap} {x2:Int} {x3:Int} {h2:Int} {h3:Int} {H1:Heap} {x4:Int} {x5:Int} {h4:Int} {h5:Int} {H2:Heap} {x6:Int} (g0:loadV Tp H 114 (.ptr x 0 0 1)=some (.int .u64 x0)) (g1:loadV Tp H 114 (.ptr x 0 0 1)=some (.int .u64 x1)) (g2:binV Tp .shl 114 (.int .u64 x1) (.int .u64 13)=some (.int .u64 h0)) (g3:binV Tp .xor 114 (.int .u64 x0) (.int .u64 h0)=some (.int .u64 h1)) (g4:storeV Tp H 114 (.ptr x 0 0 1) (.int .u64 h1)=some H0) (g5:loadV Tp H0 114 (.ptr x 0 0 1)=some (.int .u64 x2)) (g6:loadV Tp H0 114 (.ptr x 0 0 1)=some (.int .u64 x3)) (g7:binV Tp .shr 114 (.int .u64 x3) (.int .u64 7)=some (.int .u64 h2)) (g8:binV Tp .xor 114 (.int .u64 x2) (.int .u64 h2)=some (.int .u64 h3)) (g9:storeV Tp H0 114 (.ptr x 0 0 1) (.int .u64 h3)=some H1) (g10:loadV Tp H1 114 (.ptr x 0 0 1)=some (.int .u64 x4)) (g11:loadV Tp H1 114 (.ptr x 0 0 1)=some (.int .u64 x5)) (g12:binV Tp .shl 114 (.int .u64 x5) (.int .u64 17)=some (.int .u64 h4)) (g13:binV Tp .xor 114 (.int .u64 x4) (.int .u64 h4)=some (.int .u64 h5)) (g14:storeV Tp H1 114 (.ptr x 0 0 1) (.int .u64 h5)=some H2) (g15:loadV Tp H2 114 (.ptr x 0 0 1)=some (.int .u64 x6)):RT polSl 94 (sub [] B94) [(0,.ptr x 0 0 1)] H .ret (env94 (.ptr x 0 0 1) (.int .u64 x6)) H2 :=
  RunsTo.hin N 60 [⟨1,2,.int .u64 x0,H⟩,⟨1,5,.int .u64 x1,H⟩,⟨1,6,.int .u64 h0,H⟩,⟨1,7,.int .u64 h1,H⟩,⟨1,9,.tuple [],H0⟩,⟨2,2,.int .u64 x2,H0⟩,⟨2,5,.int .u64 x3,H0⟩,⟨2,6,.int .u64 h2,H0⟩,⟨2,7,.int .u64 h3,H0⟩,⟨2,9,.tuple [],H1⟩,⟨3,2,.int .u64 x4,H1⟩,⟨3,5,.int .u64 x5,H1⟩,⟨3,6,.int .u64 h4,H1⟩,⟨3,7,.int .u64 h5,H1⟩,⟨3,9,.tuple [],H2⟩,⟨4,2,.int .u64 x6,H2⟩] fun kf hk=>⟨_,by kernel_rfl,(oP H g0 (oP H g1 (oP H g2 (oP H g3 (oS g4 (oP H0 g5 (oP H0 g6 (oP H0 g7 (oP H0 g8 (oS g9 (oP H1 g10 (oP H1 g11 (oP H1 g12 (oP H1 g13 (oS g14 (oP H2 g15 .nil))))))))))))))))⟩
noncomputable def B85:Code:=Try.f85.body.getD .skip
abbrev env85 (v0 v1 v2 v8 v9 v10 v11 v12:HV):Env:=[(0,v0),(1,v1),(2,v2),(8,v8),(9,v9),(10,v10),(11,v11),(12,v12)]
theorem bk_a_0 (N:Nat) (db n:Nat) (cap:Option Nat) (H:Heap) (x:Nat) (a:Nat) (b:Nat):RT polSl 85 (sub [0] B85) [(0,.c db n cap),(1,.i (a:Int)),(2,.i (b:Int)),(3,.func 64 [] [])] H .normal (env85 (.c db n cap) (.i (a:Int)) (.i (b:Int)) (.i (IntKind.i64.wrap ((b:Int) - (a:Int)))) Ud Ud Ud Ud) H :=
  RunsTo.hin N 60 [] fun kf hk=>⟨_,by kernel_rfl,.nil⟩
theorem bk_b_0 (N:Nat) (db n:Nat) (cap:Option Nat) (H:Heap) (x:Nat) (a:Nat) (b:Nat) (k:Nat) {y9 y10 y11 y12:HV}(g0:8 ≤ (k:Int)):RunsTo Tp polSl 85 (sub [1,0] B85) (env85 (.c db n cap) (.i (a:Int)) (.i (b:Int)) (.i (k:Int)) y9 y10 y11 y12) H .normal [0,1,2,8,9,10,11,12,17] [(0,.c db n cap),(1,.i (a:Int)),(2,.i (b:Int)),(8,.i (k:Int)),(9,y9),(10,y10),(11,y11),(12,y12),(17,.bool true)] H :=
  RunsTo.hin N 60 [⟨1,1,.bool true,H⟩] fun kf hk=>⟨_,by kernel_rfl,(oB H (decide_eq_true g0) .nil)⟩
theorem bk_c_0 (N:Nat) (db n:Nat) (cap:Option Nat) (H:Heap) (x:Nat) (a:Nat) (b:Nat) (k:Nat) {y9 y10 y11 y12:HV} {H0:Heap} {H1:Heap} (g0:some (newV (.int .u64 0) H)=some (.ptr x 0 0 1,H0)) (g1:storeV Tp H0 114 (.ptr x 0 0 1) (.int .u64 (IntKind.u64.wrap (k:Int)))=some H1):RT polSl 85 (sub [1,1,0,0] B85) (env85 (.c db n cap) (.i (a:Int)) (.i (b:Int)) (.i (k:Int)) y9 y10 y11 y12) H .normal (env85 (.c db n cap) (.i (a:Int)) (.i (b:Int)) (.i (k:Int)) (.ptr x 0 0 1) y10 y11 y12) H1 :=
  RunsTo.hin N 60 [⟨2,2,.ptr x 0 0 1,H0⟩,⟨2,3,.tuple [],H1⟩] fun kf hk=>⟨_,by kernel_rfl,(oC (g0) (oS g1 .nil))⟩
theorem bk_d_0 (N:Nat) (db n:Nat) (cap:Option Nat) (H:Heap) (x:Nat) (a:Nat) (b:Nat) (k:Nat) {y10 y11 y12:HV} {u0:Int} {H0:Heap} (g0:∀ kf,N ≤ kf → callN Tp polSl (kf+1) 93 [.i (k:Int)] H=some (.int .u64 u0,H0)):RT polSl 85 (sub [1,1,0,1,0] B85) (env85 (.c db n cap) (.i (a:Int)) (.i (b:Int)) (.i (k:Int)) (.ptr x 0 0 1) y10 y11 y12) H .normal (env85 (.c db n cap) (.i (a:Int)) (.i (b:Int)) (.i (k:Int)) (.ptr x 0 0 1) (.int .u64 u0) y11 y12) H0 :=
  RunsTo.hin N 60 [⟨3,1,.int .u64 u0,H0⟩] fun kf hk=>⟨_,by kernel_rfl,(oC (g0 kf (by omega)) .nil)⟩
theorem bk_e_0 (N:Nat) (db n:Nat) (cap:Option Nat) (H:Heap) (x:Nat) (a:Nat) (b:Nat) (k:Nat) (mo:Int) {y11 y12:HV}:RT polSl 85 (sub [1,1,0,1,1,0] B85) (env85 (.c db n cap) (.i (a:Int)) (.i (b:Int)) (.i (k:Int)) (.ptr x 0 0 1) (.int .u64 mo) y11 y12) H .normal (env85 (.c db n cap) (.i (a:Int)) (.i (b:Int)) (.i (k:Int)) (.ptr x 0 0 1) (.int .u64 mo) (.i (IntKind.i64.wrap (IntKind.i64.wrap ((a:Int)+IntKind.i64.wrap (IntKind.i64.wrap (((k:Int):Int).tdiv 4) * 2)) - 1))) y12) H :=
  RunsTo.hin N 60 [] fun kf hk=>⟨_,by kernel_rfl,.nil⟩
theorem bk_f_0 (N:Nat) (db n:Nat) (cap:Option Nat) (H:Heap) (x:Nat) (a:Nat) (b:Nat) (k:Nat) (mo:Int) (i:Nat) {y12:HV} {u0:Int} {H0:Heap} {h0:Int} {a0:HV} {v0:HV} {a1:HV} {v1:HV} {a2:HV} {H1:Heap} {a3:HV} {H2:Heap} (g0:(i:Int) ≤ IntKind.i64.wrap (IntKind.i64.wrap ((a:Int)+IntKind.i64.wrap (IntKind.i64.wrap (((k:Int):Int).tdiv 4) * 2))+1)) (g1:∀ kf,N ≤ kf → callN Tp polSl (kf+1) 94 [.ptr x 0 0 1] H=some (.int .u64 u0,H0)) (g2:binV Tp .and 85 (.int .u64 u0) (.int .u64 (IntKind.u64.wrap (mo - 1)))=some (.int .u64 h0)) (g3:(k:Int) ≤ IntKind.i64.wrap h0) (g4:idxV Tp 35 (.c db n cap) (.i (IntKind.i64.wrap ((a:Int)+IntKind.i64.wrap (IntKind.i64.wrap h0 - (k:Int)))))=some (a0)) (g5:loadV Tp H0 22 (a0)=some (v0)) (g6:idxV Tp 35 (.c db n cap) (.i (i:Int))=some (a1)) (g7:loadV Tp H0 22 (a1)=some (v1)) (g8:idxV Tp 35 (.c db n cap) (.i (i:Int))=some (a2)) (g9:storeV Tp H0 22 (a2) (v0)=some H1) (g10:idxV Tp 35 (.c db n cap) (.i (IntKind.i64.wrap ((a:Int)+IntKind.i64.wrap (IntKind.i64.wrap h0 - (k:Int)))))=some (a3)) (g11:storeV Tp H1 22 (a3) (v1)=some H2):RT polSl 85 (sub [1,1,0,1,1,1,0,0] B85) (env85 (.c db n cap) (.i (a:Int)) (.i (b:Int)) (.i (k:Int)) (.ptr x 0 0 1) (.int .u64 mo) (.i (i:Int)) y12) H .normal (env85 (.c db n cap) (.i (a:Int)) (.i (b:Int)) (.i (k:Int)) (.ptr x 0 0 1) (.int .u64 mo) (.i (IntKind.i64.wrap ((i:Int)+1))) (.i (IntKind.i64.wrap (IntKind.i64.wrap h0 - (k:Int))))) H2 :=
  RunsTo.hin N 60 [⟨5,7,.bool true,H⟩,⟨7,0,.int .u64 u0,H0⟩,⟨7,3,.int .u64 h0,H0⟩,⟨8,2,.bool true,H0⟩,⟨10,10,a0,H0⟩,⟨10,11,v0,H0⟩,⟨10,14,a1,H0⟩,⟨10,15,v1,H0⟩,⟨10,16,a2,H0⟩,⟨10,17,.tuple [],H1⟩,⟨10,18,a3,H1⟩,⟨10,19,.tuple [],H2⟩] fun kf hk=>⟨_,by kernel_rfl,(oB H (decide_eq_true g0) (oC (g1 kf (by omega)) (oP H0 g2 (oB H0 (decide_eq_true g3) (oP H0 g4 (oP H0 g5 (oP H0 g6 (oP H0 g7 (oP H0 g8 (oS g9 (oP H1 g10 (oS g11 .nil))))))))))))⟩
theorem bk_f_1 (N:Nat) (db n:Nat) (cap:Option Nat) (H:Heap) (x:Nat) (a:Nat) (b:Nat) (k:Nat) (mo:Int) (i:Nat) {y12:HV} {u0:Int} {H0:Heap} {h0:Int} {a0:HV} {v0:HV} {a1:HV} {v1:HV} {a2:HV} {H1:Heap} {a3:HV} {H2:Heap} (g0:(i:Int) ≤ IntKind.i64.wrap (IntKind.i64.wrap ((a:Int)+IntKind.i64.wrap (IntKind.i64.wrap (((k:Int):Int).tdiv 4) * 2))+1)) (g1:∀ kf,N ≤ kf → callN Tp polSl (kf+1) 94 [.ptr x 0 0 1] H=some (.int .u64 u0,H0)) (g2:binV Tp .and 85 (.int .u64 u0) (.int .u64 (IntKind.u64.wrap (mo - 1)))=some (.int .u64 h0)) (g3:¬ ((k:Int) ≤ IntKind.i64.wrap h0)) (g4:idxV Tp 35 (.c db n cap) (.i (IntKind.i64.wrap ((a:Int)+IntKind.i64.wrap h0)))=some (a0)) (g5:loadV Tp H0 22 (a0)=some (v0)) (g6:idxV Tp 35 (.c db n cap) (.i (i:Int))=some (a1)) (g7:loadV Tp H0 22 (a1)=some (v1)) (g8:idxV Tp 35 (.c db n cap) (.i (i:Int))=some (a2)) (g9:storeV Tp H0 22 (a2) (v0)=some H1) (g10:idxV Tp 35 (.c db n cap) (.i (IntKind.i64.wrap ((a:Int)+IntKind.i64.wrap h0)))=some (a3)) (g11:storeV Tp H1 22 (a3) (v1)=some H2):RT polSl 85 (sub [1,1,0,1,1,1,0,0] B85) (env85 (.c db n cap) (.i (a:Int)) (.i (b:Int)) (.i (k:Int)) (.ptr x 0 0 1) (.int .u64 mo) (.i (i:Int)) y12) H .normal (env85 (.c db n cap) (.i (a:Int)) (.i (b:Int)) (.i (k:Int)) (.ptr x 0 0 1) (.int .u64 mo) (.i (IntKind.i64.wrap ((i:Int)+1))) (.i (IntKind.i64.wrap h0))) H2 :=
  RunsTo.hin N 60 [⟨5,7,.bool true,H⟩,⟨7,0,.int .u64 u0,H0⟩,⟨7,3,.int .u64 h0,H0⟩,⟨8,2,.bool false,H0⟩,⟨10,10,a0,H0⟩,⟨10,11,v0,H0⟩,⟨10,14,a1,H0⟩,⟨10,15,v1,H0⟩,⟨10,16,a2,H0⟩,⟨10,17,.tuple [],H1⟩,⟨10,18,a3,H1⟩,⟨10,19,.tuple [],H2⟩] fun kf hk=>⟨_,by kernel_rfl,(oB H (decide_eq_true g0) (oC (g1 kf (by omega)) (oP H0 g2 (oB H0 (decide_eq_false g3) (oP H0 g4 (oP H0 g5 (oP H0 g6 (oP H0 g7 (oP H0 g8 (oS g9 (oP H1 g10 (oS g11 .nil))))))))))))⟩
theorem bk_f_2 (N:Nat) (db n:Nat) (cap:Option Nat) (H:Heap) (x:Nat) (a:Nat) (b:Nat) (k:Nat) (mo:Int) (i:Nat) {y12:HV}(g0:¬ ((i:Int) ≤ IntKind.i64.wrap (IntKind.i64.wrap ((a:Int)+IntKind.i64.wrap (IntKind.i64.wrap (((k:Int):Int).tdiv 4) * 2))+1))):RT polSl 85 (sub [1,1,0,1,1,1,0,0] B85) (env85 (.c db n cap) (.i (a:Int)) (.i (b:Int)) (.i (k:Int)) (.ptr x 0 0 1) (.int .u64 mo) (.i (i:Int)) y12) H (.exit 0) (env85 (.c db n cap) (.i (a:Int)) (.i (b:Int)) (.i (k:Int)) (.ptr x 0 0 1) (.int .u64 mo) (.i (i:Int)) y12) H :=
  RunsTo.hin N 60 [⟨5,7,.bool false,H⟩] fun kf hk=>⟨_,by kernel_rfl,(oB H (decide_eq_false g0) .nil)⟩
noncomputable def B70:Code:=Try.f70.body.getD .skip
abbrev env70 (v0 v1 v2 v3 v4 v10 v11 v12 v13 v14 v15 v16 v17 v18 v19 v20:HV):Env:=[(0,v0),(1,v1),(2,v2),(3,v3),(4,v4),(10,v10),(11,v11),(12,v12),(13,v13),(14,v14),(15,v15),(16,v16),(17,v17),(18,v18),(19,v19),(20,v20)]
theorem pq_a_0 (N:Nat) (db n:Nat) (cap:Option Nat) (H:Heap) (x:Nat) (a:Nat) (b:Nat) (lim:Int):RT polSl 70 (sub [0] B70) [(0,.c db n cap),(1,.i (a:Int)),(2,.i (b:Int)),(3,.i lim),(4,.func 64 [] [])] H .normal (env70 (.c db n cap) (.i (a:Int)) (.i (b:Int)) (.i lim) (.func 64 [] []) (.bool true) Ud Ud Ud Ud Ud Ud Ud Ud Ud Ud) H :=
  RunsTo.hin N 60 [] fun kf hk=>⟨_,by kernel_rfl,.nil⟩
theorem pq_b_0 (N:Nat) (db n:Nat) (cap:Option Nat) (H:Heap) (x:Nat) (a:Nat) (b:Nat) (lim:Int) {y10 y11 y12 y13 y14 y15 y16 y17 y18 y19 y20:HV}:RT polSl 70 (sub [1,0] B70) (env70 (.c db n cap) (.i (a:Int)) (.i (b:Int)) (.i lim) (.func 64 [] []) y10 y11 y12 y13 y14 y15 y16 y17 y18 y19 y20) H .normal (env70 (.c db n cap) (.i (a:Int)) (.i (b:Int)) (.i lim) (.func 64 [] []) y10 (.bool true) y12 y13 y14 y15 y16 y17 y18 y19 y20) H :=
  RunsTo.hin N 60 [] fun kf hk=>⟨_,by kernel_rfl,.nil⟩
theorem pq_c_0 (N:Nat) (db n:Nat) (cap:Option Nat) (H:Heap) (x:Nat) (a:Nat) (b:Nat) (lim:Int) {y10 y11 y12 y13 y14 y15 y16 y17 y18 y19 y20:HV}:RT polSl 70 (sub [1,1,0,0,0,0] B70) (env70 (.c db n cap) (.i (a:Int)) (.i (b:Int)) (.i lim) (.func 64 [] []) y10 y11 y12 y13 y14 y15 y16 y17 y18 y19 y20) H .normal (env70 (.c db n cap) (.i (a:Int)) (.i (b:Int)) (.i lim) (.func 64 [] []) y10 y11 (.i (IntKind.i64.wrap ((b:Int) - (a:Int)))) y13 y14 y15 y16 y17 y18 y19 y20) H :=
  RunsTo.hin N 60 [] fun kf hk=>⟨_,by kernel_rfl,.nil⟩
theorem pq_d_0 (N:Nat) (db n:Nat) (cap:Option Nat) (H:Heap) (x:Nat) (a:Nat) (b:Nat) (lim:Int) (k:Nat) {y10 y11 y13 y14 y15 y16 y17 y18 y19 y20:HV} {H0:Heap} (g0:(k:Int) ≤ 12) (g1:∀ kf,N ≤ kf → callN Tp polSl (kf+1) 83 [.c db n cap,.i (a:Int),.i (b:Int),.func 64 [] []] H=some (.tuple [],H0)):RT polSl 70 (sub [1,1,0,0,0,1,0] B70) (env70 (.c db n cap) (.i (a:Int)) (.i (b:Int)) (.i lim) (.func 64 [] []) y10 y11 (.i (k:Int)) y13 y14 y15 y16 y17 y18 y19 y20) H .ret (env70 (.c db n cap) (.i (a:Int)) (.i (b:Int)) (.i lim) (.func 64 [] []) y10 y11 (.i (k:Int)) y13 y14 y15 y16 y17 y18 y19 y20) H0 :=
  RunsTo.hin N 60 [⟨3,1,.bool true,H⟩,⟨4,4,.tuple [],H0⟩] fun kf hk=>⟨_,by kernel_rfl,(oB H (decide_eq_true g0) (oC (g1 kf (by omega)) .nil))⟩
theorem pq_d_1 (N:Nat) (db n:Nat) (cap:Option Nat) (H:Heap) (x:Nat) (a:Nat) (b:Nat) (lim:Int) (k:Nat) {y10 y11 y13 y14 y15 y16 y17 y18 y19 y20:HV}(g0:¬ ((k:Int) ≤ 12)):RT polSl 70 (sub [1,1,0,0,0,1,0] B70) (env70 (.c db n cap) (.i (a:Int)) (.i (b:Int)) (.i lim) (.func 64 [] []) y10 y11 (.i (k:Int)) y13 y14 y15 y16 y17 y18 y19 y20) H .normal (env70 (.c db n cap) (.i (a:Int)) (.i (b:Int)) (.i lim) (.func 64 [] []) y10 y11 (.i (k:Int)) y13 y14 y15 y16 y17 y18 y19 y20) H :=
  RunsTo.hin N 60 [⟨3,1,.bool false,H⟩] fun kf hk=>⟨_,by kernel_rfl,(oB H (decide_eq_false g0) .nil)⟩
theorem pq_e_0 (N:Nat) (db n:Nat) (cap:Option Nat) (H:Heap) (x:Nat) (a:Nat) (b:Nat) (lim:Int) {y10 y11 y12 y13 y14 y15 y16 y17 y18 y19 y20:HV} {H0:Heap} (g0:lim=0) (g1:∀ kf,N ≤ kf → callN Tp polSl (kf+1) 84 [.c db n cap,.i (a:Int),.i (b:Int),.func 64 [] []] H=some (.tuple [],H0)):RT polSl 70 (sub [1,1,0,0,0,1,1,0] B70) (env70 (.c db n cap) (.i (a:Int)) (.i (b:Int)) (.i lim) (.func 64 [] []) y10 y11 y12 y13 y14 y15 y16 y17 y18 y19 y20) H .ret (env70 (.c db n cap) (.i (a:Int)) (.i (b:Int)) (.i lim) (.func 64 [] []) y10 y11 y12 y13 y14 y15 y16 y17 y18 y19 y20) H0 :=
  RunsTo.hin N 60 [⟨5,1,.bool true,H⟩,⟨6,4,.tuple [],H0⟩] fun kf hk=>⟨_,by kernel_rfl,(oB H (decide_eq_true g0) (oC (g1 kf (by omega)) .nil))⟩
theorem pq_e_1 (N:Nat) (db n:Nat) (cap:Option Nat) (H:Heap) (x:Nat) (a:Nat) (b:Nat) (lim:Int) {y10 y11 y12 y13 y14 y15 y16 y17 y18 y19 y20:HV}(g0:¬ (lim=0)):RT polSl 70 (sub [1,1,0,0,0,1,1,0] B70) (env70 (.c db n cap) (.i (a:Int)) (.i (b:Int)) (.i lim) (.func 64 [] []) y10 y11 y12 y13 y14 y15 y16 y17 y18 y19 y20) H .normal (env70 (.c db n cap) (.i (a:Int)) (.i (b:Int)) (.i lim) (.func 64 [] []) y10 y11 y12 y13 y14 y15 y16 y17 y18 y19 y20) H :=
  RunsTo.hin N 60 [⟨5,1,.bool false,H⟩] fun kf hk=>⟨_,by kernel_rfl,(oB H (decide_eq_false g0) .nil)⟩
theorem pq_f_0 (N:Nat) (db n:Nat) (cap:Option Nat) (H:Heap) (x:Nat) (a:Nat) (b:Nat) (lim:Int) {y11 y12 y13 y14 y15 y16 y17 y18 y19 y20:HV}:RT polSl 70 (sub [1,1,0,0,0,1,1,1,0] B70) (env70 (.c db n cap) (.i (a:Int)) (.i (b:Int)) (.i lim) (.func 64 [] []) (.bool true) y11 y12 y13 y14 y15 y16 y17 y18 y19 y20) H .normal (env70 (.c db n cap) (.i (a:Int)) (.i (b:Int)) (.i lim) (.func 64 [] []) (.bool true) y11 y12 y13 y14 y15 y16 y17 y18 y19 y20) H :=
  RunsTo.hin N 60 [] fun kf hk=>⟨_,by kernel_rfl,.nil⟩
theorem pq_g_0 (N:Nat) (db n:Nat) (cap:Option Nat) (H:Heap) (x:Nat) (a:Nat) (b:Nat) (lim:Int) {y11 y12 y13 y14 y15 y16 y17 y18 y19 y20:HV} {H0:Heap} (g0:∀ kf,N ≤ kf → callN Tp polSl (kf+1) 85 [.c db n cap,.i (a:Int),.i (b:Int),.func 64 [] []] H=some (.tuple [],H0)):RT polSl 70 (sub [1,1,0,0,0,1,1,1,0] B70) (env70 (.c db n cap) (.i (a:Int)) (.i (b:Int)) (.i lim) (.func 64 [] []) (.bool false) y11 y12 y13 y14 y15 y16 y17 y18 y19 y20) H .normal (env70 (.c db n cap) (.i (a:Int)) (.i (b:Int)) (.i (IntKind.i64.wrap (lim - 1))) (.func 64 [] []) (.bool false) y11 y12 y13 y14 y15 y16 y17 y18 y19 y20) H0 :=
  RunsTo.hin N 60 [⟨8,4,.tuple [],H0⟩] fun kf hk=>⟨_,by kernel_rfl,(oC (g0 kf (by omega)) .nil)⟩
theorem pq_h_0 (N:Nat) (db n:Nat) (cap:Option Nat) (H:Heap) (x:Nat) (a:Nat) (b:Nat) (lim:Int) {y10 y11 y12 y13 y14 y15 y16 y17 y18 y19 y20:HV} {p0:Int} {p1:Int} {H0:Heap} (g0:∀ kf,N ≤ kf → callN Tp polSl (kf+1) 86 [.c db n cap,.i (a:Int),.i (b:Int),.func 64 [] []] H=some (.tuple [.i p0,.i p1],H0)):RT polSl 70 (sub [1,1,0,0,0,1,1,1,1,0] B70) (env70 (.c db n cap) (.i (a:Int)) (.i (b:Int)) (.i lim) (.func 64 [] []) y10 y11 y12 y13 y14 y15 y16 y17 y18 y19 y20) H .normal (env70 (.c db n cap) (.i (a:Int)) (.i (b:Int)) (.i lim) (.func 64 [] []) y10 y11 y12 (.i p0) (.i p1) y15 y16 y17 y18 y19 y20) H0 :=
  RunsTo.hin N 60 [⟨10,4,.tuple [.i p0,.i p1],H0⟩] fun kf hk=>⟨_,by kernel_rfl,(oC (g0 kf (by omega)) .nil)⟩
theorem pq_i_0 (N:Nat) (db n:Nat) (cap:Option Nat) (H:Heap) (x:Nat) (a:Nat) (b:Nat) (lim:Int) (p:Nat) (h:Int) {y10 y11 y12 y15 y16 y17 y18 y19 y20:HV} {H0:Heap} (g0:h=2) (g1:∀ kf,N ≤ kf → callN Tp polSl (kf+1) 87 [.c db n cap,.i (a:Int),.i (b:Int),.func 64 [] []] H=some (.tuple [],H0)):RT polSl 70 (sub [1,1,0,0,0,1,1,1,1,1,0] B70) (env70 (.c db n cap) (.i (a:Int)) (.i (b:Int)) (.i lim) (.func 64 [] []) y10 y11 y12 (.i (p:Int)) (.i h) y15 y16 y17 y18 y19 y20) H .normal (env70 (.c db n cap) (.i (a:Int)) (.i (b:Int)) (.i lim) (.func 64 [] []) y10 y11 y12 (.i (IntKind.i64.wrap (IntKind.i64.wrap ((b:Int) - 1) - IntKind.i64.wrap ((p:Int) - (a:Int))))) (.i 1) y15 y16 y17 y18 y19 y20) H0 :=
  RunsTo.hin N 60 [⟨11,1,.bool true,H⟩,⟨12,4,.tuple [],H0⟩] fun kf hk=>⟨_,by kernel_rfl,(oB H (decide_eq_true g0) (oC (g1 kf (by omega)) .nil))⟩
theorem pq_i_1 (N:Nat) (db n:Nat) (cap:Option Nat) (H:Heap) (x:Nat) (a:Nat) (b:Nat) (lim:Int) (p:Nat) (h:Int) {y10 y11 y12 y15 y16 y17 y18 y19 y20:HV}(g0:¬ (h=2)):RT polSl 70 (sub [1,1,0,0,0,1,1,1,1,1,0] B70) (env70 (.c db n cap) (.i (a:Int)) (.i (b:Int)) (.i lim) (.func 64 [] []) y10 y11 y12 (.i (p:Int)) (.i h) y15 y16 y17 y18 y19 y20) H .normal (env70 (.c db n cap) (.i (a:Int)) (.i (b:Int)) (.i lim) (.func 64 [] []) y10 y11 y12 (.i (p:Int)) (.i h) y15 y16 y17 y18 y19 y20) H :=
  RunsTo.hin N 60 [⟨11,1,.bool false,H⟩] fun kf hk=>⟨_,by kernel_rfl,(oB H (decide_eq_false g0) .nil)⟩
theorem pq_j_0 (N:Nat) (db n:Nat) (cap:Option Nat) (H:Heap) (x:Nat) (a:Nat) (b:Nat) (lim:Int) (h:Int) {y12 y13 y15 y16 y17 y18 y19 y20:HV} {H0:Heap} (g0:h=1) (g1:∀ kf,N ≤ kf → callN Tp polSl (kf+1) 88 [.c db n cap,.i (a:Int),.i (b:Int),.func 64 [] []] H=some (.bool true,H0)):RT polSl 70 (sub [1,1,0,0,0,1,1,1,1,1,1,0] B70) (env70 (.c db n cap) (.i (a:Int)) (.i (b:Int)) (.i lim) (.func 64 [] []) (.bool true) (.bool true) y12 y13 (.i h) y15 y16 y17 y18 y19 y20) H .ret (env70 (.c db n cap) (.i (a:Int)) (.i (b:Int)) (.i lim) (.func 64 [] []) (.bool true) (.bool true) y12 y13 (.i h) y15 y16 y17 y18 y19 y20) H0 :=
  RunsTo.hin N 60 [⟨15,6,.bool true,H⟩,⟨16,4,.bool true,H0⟩] fun kf hk=>⟨_,by kernel_rfl,(oB H (decide_eq_true g0) (oC (g1 kf (by omega)) .nil))⟩
theorem pq_j_1 (N:Nat) (db n:Nat) (cap:Option Nat) (H:Heap) (x:Nat) (a:Nat) (b:Nat) (lim:Int) (h:Int) {y12 y13 y15 y16 y17 y18 y19 y20:HV} {H0:Heap} (g0:h=1) (g1:∀ kf,N ≤ kf → callN Tp polSl (kf+1) 88 [.c db n cap,.i (a:Int),.i (b:Int),.func 64 [] []] H=some (.bool false,H0)):RT polSl 70 (sub [1,1,0,0,0,1,1,1,1,1,1,0] B70) (env70 (.c db n cap) (.i (a:Int)) (.i (b:Int)) (.i lim) (.func 64 [] []) (.bool true) (.bool true) y12 y13 (.i h) y15 y16 y17 y18 y19 y20) H .normal (env70 (.c db n cap) (.i (a:Int)) (.i (b:Int)) (.i lim) (.func 64 [] []) (.bool true) (.bool true) y12 y13 (.i h) y15 y16 y17 y18 y19 y20) H0 :=
  RunsTo.hin N 60 [⟨15,6,.bool true,H⟩,⟨16,4,.bool false,H0⟩] fun kf hk=>⟨_,by kernel_rfl,(oB H (decide_eq_true g0) (oC (g1 kf (by omega)) .nil))⟩
theorem pq_j_2 (N:Nat) (db n:Nat) (cap:Option Nat) (H:Heap) (x:Nat) (a:Nat) (b:Nat) (lim:Int) (h:Int) {y12 y13 y15 y16 y17 y18 y19 y20:HV}(g0:¬ (h=1)):RT polSl 70 (sub [1,1,0,0,0,1,1,1,1,1,1,0] B70) (env70 (.c db n cap) (.i (a:Int)) (.i (b:Int)) (.i lim) (.func 64 [] []) (.bool true) (.bool true) y12 y13 (.i h) y15 y16 y17 y18 y19 y20) H .normal (env70 (.c db n cap) (.i (a:Int)) (.i (b:Int)) (.i lim) (.func 64 [] []) (.bool true) (.bool true) y12 y13 (.i h) y15 y16 y17 y18 y19 y20) H :=
  RunsTo.hin N 60 [⟨15,6,.bool false,H⟩] fun kf hk=>⟨_,by kernel_rfl,(oB H (decide_eq_false g0) .nil)⟩
theorem pq_k_0 (N:Nat) (db n:Nat) (cap:Option Nat) (H:Heap) (x:Nat) (a:Nat) (b:Nat) (lim:Int) (h:Int) {y12 y13 y15 y16 y17 y18 y19 y20:HV}:RT polSl 70 (sub [1,1,0,0,0,1,1,1,1,1,1,0] B70) (env70 (.c db n cap) (.i (a:Int)) (.i (b:Int)) (.i lim) (.func 64 [] []) (.bool true) (.bool false) y12 y13 (.i h) y15 y16 y17 y18 y19 y20) H .normal (env70 (.c db n cap) (.i (a:Int)) (.i (b:Int)) (.i lim) (.func 64 [] []) (.bool true) (.bool false) y12 y13 (.i h) y15 y16 y17 y18 y19 y20) H :=
  RunsTo.hin N 60 [] fun kf hk=>⟨_,by kernel_rfl,.nil⟩
theorem pq_l_0 (N:Nat) (db n:Nat) (cap:Option Nat) (H:Heap) (x:Nat) (a:Nat) (b:Nat) (lim:Int) (h:Int) {y11 y12 y13 y15 y16 y17 y18 y19 y20:HV}:RT polSl 70 (sub [1,1,0,0,0,1,1,1,1,1,1,0] B70) (env70 (.c db n cap) (.i (a:Int)) (.i (b:Int)) (.i lim) (.func 64 [] []) (.bool false) y11 y12 y13 (.i h) y15 y16 y17 y18 y19 y20) H .normal (env70 (.c db n cap) (.i (a:Int)) (.i (b:Int)) (.i lim) (.func 64 [] []) (.bool false) y11 y12 y13 (.i h) y15 y16 y17 y18 y19 y20) H :=
  RunsTo.hin N 60 [] fun kf hk=>⟨_,by kernel_rfl,.nil⟩
theorem pq_m_0 (N:Nat) (db n:Nat) (cap:Option Nat) (H:Heap) (x:Nat) (a:Nat) (b:Nat) (lim:Int) (p:Nat) {y10 y11 y12 y14 y15 y16 y17 y18 y19 y20:HV} {a0:HV} {v0:HV} {a1:HV} {v1:HV} {c0:Int} {H0:Heap} (g0:0 < (a:Int)) (g1:idxV Tp 35 (.c db n cap) (.i (IntKind.i64.wrap ((a:Int) - 1)))=some (a0)) (g2:loadV Tp H 22 (a0)=some (v0)) (g3:idxV Tp 35 (.c db n cap) (.i (p:Int))=some (a1)) (g4:loadV Tp H 22 (a1)=some (v1)) (g5:∀ kf,N ≤ kf → callN Tp polSl (kf+1) 64 [v0,v1] H=some (.i c0,H0)) (g6:c0 < 0):RT polSl 70 (sub [1,1,0,0,0,1,1,1,1,1,1,1,0] B70) (env70 (.c db n cap) (.i (a:Int)) (.i (b:Int)) (.i lim) (.func 64 [] []) y10 y11 y12 (.i (p:Int)) y14 y15 y16 y17 y18 y19 y20) H .normal (env70 (.c db n cap) (.i (a:Int)) (.i (b:Int)) (.i lim) (.func 64 [] []) y10 y11 y12 (.i (p:Int)) y14 y15 y16 y17 y18 y19 y20) H0 :=
  RunsTo.hin N 60 [⟨17,1,.bool true,H⟩,⟨17,7,a0,H⟩,⟨17,8,v0,H⟩,⟨17,11,a1,H⟩,⟨17,12,v1,H⟩,⟨17,13,.i c0,H0⟩,⟨17,14,.bool true,H0⟩] fun kf hk=>⟨_,by kernel_rfl,(oB H (decide_eq_true g0) (oP H g1 (oP H g2 (oP H g3 (oP H g4 (oC (g5 kf (by omega)) (oB H0 (decide_eq_true g6) .nil)))))))⟩
theorem pq_m_1 (N:Nat) (db n:Nat) (cap:Option Nat) (H:Heap) (x:Nat) (a:Nat) (b:Nat) (lim:Int) (p:Nat) {y10 y11 y12 y14 y15 y16 y17 y18 y19 y20:HV} {a0:HV} {v0:HV} {a1:HV} {v1:HV} {c0:Int} {H0:Heap} {m0:Int} {H1:Heap} (g0:0 < (a:Int)) (g1:idxV Tp 35 (.c db n cap) (.i (IntKind.i64.wrap ((a:Int) - 1)))=some (a0)) (g2:loadV Tp H 22 (a0)=some (v0)) (g3:idxV Tp 35 (.c db n cap) (.i (p:Int))=some (a1)) (g4:loadV Tp H 22 (a1)=some (v1)) (g5:∀ kf,N ≤ kf → callN Tp polSl (kf+1) 64 [v0,v1] H=some (.i c0,H0)) (g6:¬ (c0 < 0)) (g7:∀ kf,N ≤ kf → callN Tp polSl (kf+1) 89 [.c db n cap,.i (a:Int),.i (b:Int),.i (p:Int),.func 64 [] []] H0=some (.i m0,H1)):RT polSl 70 (sub [1,1,0,0,0,1,1,1,1,1,1,1,0] B70) (env70 (.c db n cap) (.i (a:Int)) (.i (b:Int)) (.i lim) (.func 64 [] []) y10 y11 y12 (.i (p:Int)) y14 y15 y16 y17 y18 y19 y20) H (.exit 1) (env70 (.c db n cap) (.i m0) (.i (b:Int)) (.i lim) (.func 64 [] []) y10 y11 y12 (.i (p:Int)) y14 (.i m0) y16 y17 y18 y19 y20) H1 :=
  RunsTo.hin N 60 [⟨17,1,.bool true,H⟩,⟨17,7,a0,H⟩,⟨17,8,v0,H⟩,⟨17,11,a1,H⟩,⟨17,12,v1,H⟩,⟨17,13,.i c0,H0⟩,⟨17,14,.bool false,H0⟩,⟨18,5,.i m0,H1⟩] fun kf hk=>⟨_,by kernel_rfl,(oB H (decide_eq_true g0) (oP H g1 (oP H g2 (oP H g3 (oP H g4 (oC (g5 kf (by omega)) (oB H0 (decide_eq_false g6) (oC (g7 kf (by omega)) .nil))))))))⟩
theorem pq_m_2 (N:Nat) (db n:Nat) (cap:Option Nat) (H:Heap) (x:Nat) (a:Nat) (b:Nat) (lim:Int) (p:Nat) {y10 y11 y12 y14 y15 y16 y17 y18 y19 y20:HV}(g0:¬ (0 < (a:Int))):RT polSl 70 (sub [1,1,0,0,0,1,1,1,1,1,1,1,0] B70) (env70 (.c db n cap) (.i (a:Int)) (.i (b:Int)) (.i lim) (.func 64 [] []) y10 y11 y12 (.i (p:Int)) y14 y15 y16 y17 y18 y19 y20) H .normal (env70 (.c db n cap) (.i (a:Int)) (.i (b:Int)) (.i lim) (.func 64 [] []) y10 y11 y12 (.i (p:Int)) y14 y15 y16 y17 y18 y19 y20) H :=
  RunsTo.hin N 60 [⟨17,1,.bool false,H⟩] fun kf hk=>⟨_,by kernel_rfl,(oB H (decide_eq_false g0) .nil)⟩
theorem pq_n_0 (N:Nat) (db n:Nat) (cap:Option Nat) (H:Heap) (x:Nat) (a:Nat) (b:Nat) (lim:Int) (p:Nat) {y10 y11 y12 y14 y15 y16 y17 y18 y19 y20:HV} {m0:Int} {bb0:Bool} {H0:Heap} (g0:∀ kf,N ≤ kf → callN Tp polSl (kf+1) 90 [.c db n cap,.i (a:Int),.i (b:Int),.i (p:Int),.func 64 [] []] H=some (.tuple [.i m0,.bool bb0],H0)):RT polSl 70 (sub [1,1,0,0,0,1,1,1,1,1,1,1,1,0] B70) (env70 (.c db n cap) (.i (a:Int)) (.i (b:Int)) (.i lim) (.func 64 [] []) y10 y11 y12 (.i (p:Int)) y14 y15 y16 y17 y18 y19 y20) H .normal (env70 (.c db n cap) (.i (a:Int)) (.i (b:Int)) (.i lim) (.func 64 [] []) y10 y11 y12 (.i (p:Int)) y14 y15 (.i m0) (.bool bb0) y18 y19 y20) H0 :=
  RunsTo.hin N 60 [⟨20,5,.tuple [.i m0,.bool bb0],H0⟩] fun kf hk=>⟨_,by kernel_rfl,(oC (g0 kf (by omega)) .nil)⟩
theorem pq_o_0 (N:Nat) (db n:Nat) (cap:Option Nat) (H:Heap) (x:Nat) (a:Nat) (b:Nat) (lim:Int) {y10 y11 y12 y13 y14 y15 y16 y17 y18 y19 y20:HV}:RT polSl 70 (sub [1,1,0,0,0,1,1,1,1,1,1,1,1,1,0] B70) (env70 (.c db n cap) (.i (a:Int)) (.i (b:Int)) (.i lim) (.func 64 [] []) y10 y11 y12 y13 y14 y15 y16 y17 y18 y19 y20) H .normal (env70 (.c db n cap) (.i (a:Int)) (.i (b:Int)) (.i lim) (.func 64 [] []) y10 y17 y12 y13 y14 y15 y16 y17 y18 y19 y20) H :=
  RunsTo.hin N 60 [] fun kf hk=>⟨_,by kernel_rfl,.nil⟩
theorem pq_p_0 (N:Nat) (db n:Nat) (cap:Option Nat) (H:Heap) (x:Nat) (a:Nat) (b:Nat) (lim:Int) (q:Nat) {y10 y11 y12 y13 y14 y15 y17 y18 y19 y20:HV}:RT polSl 70 (sub [1,1,0,0,0,1,1,1,1,1,1,1,1,1,1,0] B70) (env70 (.c db n cap) (.i (a:Int)) (.i (b:Int)) (.i lim) (.func 64 [] []) y10 y11 y12 y13 y14 y15 (.i (q:Int)) y17 y18 y19 y20) H .normal (env70 (.c db n cap) (.i (a:Int)) (.i (b:Int)) (.i lim) (.func 64 [] []) y10 y11 y12 y13 y14 y15 (.i (q:Int)) y17 (.i (IntKind.i64.wrap ((q:Int) - (a:Int)))) (.i (IntKind.i64.wrap ((b:Int) - (q:Int)))) y20) H :=
  RunsTo.hin N 60 [] fun kf hk=>⟨_,by kernel_rfl,.nil⟩
theorem pq_q_0 (N:Nat) (db n:Nat) (cap:Option Nat) (H:Heap) (x:Nat) (a:Nat) (b:Nat) (lim:Int) (k:Nat) {y10 y11 y13 y14 y15 y16 y17 y18 y19 y20:HV}:RT polSl 70 (sub [1,1,0,0,0,1,1,1,1,1,1,1,1,1,1,1,0] B70) (env70 (.c db n cap) (.i (a:Int)) (.i (b:Int)) (.i lim) (.func 64 [] []) y10 y11 (.i (k:Int)) y13 y14 y15 y16 y17 y18 y19 y20) H .normal (env70 (.c db n cap) (.i (a:Int)) (.i (b:Int)) (.i lim) (.func 64 [] []) y10 y11 (.i (k:Int)) y13 y14 y15 y16 y17 y18 y19 (.i (IntKind.i64.wrap (((k:Int):Int).tdiv 8)))) H :=
  RunsTo.hin N 60 [] fun kf hk=>⟨_,by kernel_rfl,.nil⟩
theorem pq_r_0 (N:Nat) (db n:Nat) (cap:Option Nat) (H:Heap) (x:Nat) (a:Nat) (b:Nat) (lim:Int) (q:Nat) (u:Int) (v:Int) (w:Int) {y10 y11 y12 y13 y14 y15 y17:HV} {H0:Heap} (g0:u < v) (g1:w ≤ u) (g2:∀ kf,N ≤ kf → callN Tp polSl (kf+1) 70 [.c db n cap,.i (a:Int),.i (q:Int),.i lim,.func 64 [] []] H=some (.tuple [],H0)):RT polSl 70 (sub [1,1,0,0,0,1,1,1,1,1,1,1,1,1,1,1,1] B70) (env70 (.c db n cap) (.i (a:Int)) (.i (b:Int)) (.i lim) (.func 64 [] []) y10 y11 y12 y13 y14 y15 (.i (q:Int)) y17 (.i u) (.i v) (.i w)) H .normal (env70 (.c db n cap) (.i (IntKind.i64.wrap ((q:Int)+1))) (.i (b:Int)) (.i lim) (.func 64 [] []) (.bool true) y11 y12 y13 y14 y15 (.i (q:Int)) y17 (.i u) (.i v) (.i w)) H0 :=
  RunsTo.hin N 60 [⟨24,2,.bool true,H⟩,⟨25,2,.bool true,H⟩,⟨26,5,.tuple [],H0⟩] fun kf hk=>⟨_,by kernel_rfl,(oB H (decide_eq_true g0) (oB H (decide_eq_true g1) (oC (g2 kf (by omega)) .nil)))⟩
theorem pq_r_1 (N:Nat) (db n:Nat) (cap:Option Nat) (H:Heap) (x:Nat) (a:Nat) (b:Nat) (lim:Int) (q:Nat) (u:Int) (v:Int) (w:Int) {y10 y11 y12 y13 y14 y15 y17:HV} {H0:Heap} (g0:u < v) (g1:¬ (w ≤ u)) (g2:∀ kf,N ≤ kf → callN Tp polSl (kf+1) 70 [.c db n cap,.i (a:Int),.i (q:Int),.i lim,.func 64 [] []] H=some (.tuple [],H0)):RT polSl 70 (sub [1,1,0,0,0,1,1,1,1,1,1,1,1,1,1,1,1] B70) (env70 (.c db n cap) (.i (a:Int)) (.i (b:Int)) (.i lim) (.func 64 [] []) y10 y11 y12 y13 y14 y15 (.i (q:Int)) y17 (.i u) (.i v) (.i w)) H .normal (env70 (.c db n cap) (.i (IntKind.i64.wrap ((q:Int)+1))) (.i (b:Int)) (.i lim) (.func 64 [] []) (.bool false) y11 y12 y13 y14 y15 (.i (q:Int)) y17 (.i u) (.i v) (.i w)) H0 :=
  RunsTo.hin N 60 [⟨24,2,.bool true,H⟩,⟨25,2,.bool false,H⟩,⟨26,5,.tuple [],H0⟩] fun kf hk=>⟨_,by kernel_rfl,(oB H (decide_eq_true g0) (oB H (decide_eq_false g1) (oC (g2 kf (by omega)) .nil)))⟩
theorem pq_r_2 (N:Nat) (db n:Nat) (cap:Option Nat) (H:Heap) (x:Nat) (a:Nat) (b:Nat) (lim:Int) (q:Nat) (u:Int) (v:Int) (w:Int) {y10 y11 y12 y13 y14 y15 y17:HV} {H0:Heap} (g0:¬ (u < v)) (g1:w ≤ v) (g2:∀ kf,N ≤ kf → callN Tp polSl (kf+1) 70 [.c db n cap,.i (IntKind.i64.wrap ((q:Int)+1)),.i (b:Int),.i lim,.func 64 [] []] H=some (.tuple [],H0)):RT polSl 70 (sub [1,1,0,0,0,1,1,1,1,1,1,1,1,1,1,1,1] B70) (env70 (.c db n cap) (.i (a:Int)) (.i (b:Int)) (.i lim) (.func 64 [] []) y10 y11 y12 y13 y14 y15 (.i (q:Int)) y17 (.i u) (.i v) (.i w)) H .normal (env70 (.c db n cap) (.i (a:Int)) (.i (q:Int)) (.i lim) (.func 64 [] []) (.bool true) y11 y12 y13 y14 y15 (.i (q:Int)) y17 (.i u) (.i v) (.i w)) H0 :=
  RunsTo.hin N 60 [⟨24,2,.bool false,H⟩,⟨28,2,.bool true,H⟩,⟨29,6,.tuple [],H0⟩] fun kf hk=>⟨_,by kernel_rfl,(oB H (decide_eq_false g0) (oB H (decide_eq_true g1) (oC (g2 kf (by omega)) .nil)))⟩
theorem pq_r_3 (N:Nat) (db n:Nat) (cap:Option Nat) (H:Heap) (x:Nat) (a:Nat) (b:Nat) (lim:Int) (q:Nat) (u:Int) (v:Int) (w:Int) {y10 y11 y12 y13 y14 y15 y17:HV} {H0:Heap} (g0:¬ (u < v)) (g1:¬ (w ≤ v)) (g2:∀ kf,N ≤ kf → callN Tp polSl (kf+1) 70 [.c db n cap,.i (IntKind.i64.wrap ((q:Int)+1)),.i (b:Int),.i lim,.func 64 [] []] H=some (.tuple [],H0)):RT polSl 70 (sub [1,1,0,0,0,1,1,1,1,1,1,1,1,1,1,1,1] B70) (env70 (.c db n cap) (.i (a:Int)) (.i (b:Int)) (.i lim) (.func 64 [] []) y10 y11 y12 y13 y14 y15 (.i (q:Int)) y17 (.i u) (.i v) (.i w)) H .normal (env70 (.c db n cap) (.i (a:Int)) (.i (q:Int)) (.i lim) (.func 64 [] []) (.bool false) y11 y12 y13 y14 y15 (.i (q:Int)) y17 (.i u) (.i v) (.i w)) H0 :=
  RunsTo.hin N 60 [⟨24,2,.bool false,H⟩,⟨28,2,.bool false,H⟩,⟨29,6,.tuple [],H0⟩] fun kf hk=>⟨_,by kernel_rfl,(oB H (decide_eq_false g0) (oB H (decide_eq_false g1) (oC (g2 kf (by omega)) .nil)))⟩
noncomputable def B63:Code:=Try.f63.body.getD .skip
abbrev env63 (v0 v1 v4:HV):Env:=[(0,v0),(1,v1),(4,v4)]
theorem st_a_0 (N:Nat) (db n:Nat) (cap:Option Nat) (H:Heap) (x:Nat)  {m0:Int} {H0:Heap} {H1:Heap} (g0:∀ kf,N ≤ kf → callN Tp polSl (kf+1) 68 [.int .u64 (IntKind.u64.wrap (n:Int))] H=some (.i m0,H0)) (g1:∀ kf,N ≤ kf → callN Tp polSl (kf+1) 70 [.c db n cap,.i 0,.i (n:Int),.i m0,.func 64 [] []] H0=some (.tuple [],H1)):RT polSl 63 (sub [] B63) [(0,.c db n cap),(1,.func 64 [] [])] H .normal (env63 (.c db n cap) (.func 64 [] []) (.i (n:Int))) H1 :=
  RunsTo.hin N 60 [⟨1,4,.i m0,H0⟩,⟨1,6,.tuple [],H1⟩] fun kf hk=>⟨_,by kernel_rfl,(oC (g0 kf (by omega)) (oC (g1 kf (by omega)) .nil))⟩
end Go.Proofs.Ytaibmipamkaljaa
end
section
open Go Go.HL Go.HL.So
namespace Go.Proofs.Ytaibmipamkaljaa
set_option linter.unusedSectionVars false
open Go.Proofs.Try renaming prog → Tp
open Go.HL.HV renaming undef → Ud
section
variable {α:Type} [Inhabited α] {enc:α → HV} {lt:α → α → Prop} {dom:α → Prop} {H:Heap} {db n:Nat} {cap:Option Nat}
abbrev swB (s:Int):Blk:=.arr 1 [.int .i64 s] true 0
theorem Mm_last (l:List α) (B:Blk):(Mm enc H db l [B])[H.length]?=some B:=by
  unfold Mm
  rw [List.getElem?_append_right (by simp)]
  simp
theorem Mm_set (l:List α) (B B':Blk):(Mm enc H db l [B]).set H.length B'=Mm enc H db l [B']:=by
  unfold Mm
  rw [List.set_append_right _ _ (by simp)]
  simp
theorem mxM (S:So enc lt dom H db n) (l:List α) (B:Blk) (hB:B.mx=0):mxs (Mm enc H db l [B]) ≤ H.length:=by
  have h:=S.mx
  rw [mxs_le] at h ⊢
  intro C hC
  unfold Mm at hC
  rcases List.mem_append.1 hC with hC | hC
  · rcases List.mem_or_eq_of_mem_set hC with hC | rfl
    · exact h C hC
    · show mxA H db ≤ _
      unfold mxA
      cases hb:H[db]? with
      | none=>exact Nat.zero_le _
      | some B=>exact h B (List.mem_of_getElem? hb)
  · rw [List.mem_singleton.1 hC]; omega
theorem gcT (S:So enc lt dom H db n) (l l':List α) (B:Blk) (hB:B.mx=0):gc (Mm enc H db l []).length 0 (Mm enc H db l' [B])=Mm enc H db l' []:=by
  have h:=mxM S l' B hB
  have e:(Mm enc H db l []).length=H.length:=by simp [Mm]
  unfold gc
  rw [e,show max H.length (max 0 (mxs (Mm enc H db l' [B])))=H.length by omega]
  unfold Mm
  rw [List.take_append_of_le_length (by simp),List.take_of_length_le (by simp),List.append_nil]
theorem gcB (l l':List α) (B B':Blk) (r:Nat):gc (Mm enc H db l [B]).length r (Mm enc H db l' [B'])=Mm enc H db l' [B']:=gcM l l' [B] [B'] r rfl
theorem ld_sw (l:List α) (s:Int):loadV Tp (Mm enc H db l [swB s]) 3 (.ptr H.length 0 0 1)=some (.int .i64 s):=load_elem (b:=H.length) (Mm_last l (swB s)) rfl rfl rfl a3 i3
theorem st_sw (l:List α) (s r:Int):storeV Tp (Mm enc H db l [swB s]) 3 (.ptr H.length 0 0 1) (.int .i64 r)=some (Mm enc H db l [swB r]):=by
  have:=store_elem (P:=Tp) (t:=3) (b:=H.length) (i:=0) (tot:=1) (old:=.int .i64 s) (v:=.int .i64 r) (Mm_last (enc:=enc) (db:=db) l (swB s)) rfl rfl rfl (by intro cs h; cases h) z3 rfl rfl (by simp [bnd])
  rw [this,Mm_set]; rfl
theorem new_sw (l:List α) (k:IntKind) (s:Int):newV (.int k s) (Mm enc H db l [])=(.ptr H.length 0 0 1,Mm enc H db l [.arr 1 [.int k s] true 0]):=by
  simp only [newV,cellsOf,bnd,Mm]
  simp
theorem ord2_ok (S:So enc lt dom H db n) {a b:Nat} (ha:a < n) (hb:b < n) {l:List α} (hl:l.length=n) (hD:Dm dom l) (s:Int) :
    ∃ (p q:Nat) (s':Int),ClL 101 [.sl db 0 n cap n 1,.int .i64 (a:Int),.int .i64 (b:Int),.ptr H.length 0 0 1,.func 64 [] []] (Mm enc H db l [swB s]) (.tuple [.int .i64 (p:Int),.int .i64 (q:Int)]) (Mm enc H db l [swB s'])∧((p=a∧q=b) ∨ (p=b∧q=a)):=by
  have hn:=S.nb
  by_cases c:lt (at_ l b) (at_ l a)
  · obtain ⟨cc,N,hN,hc⟩:=S.ct (T:=[swB s]) hl rfl (hD.at (i:=b) (by omega)) (hD.at (i:=a) (by omega)) c
    have t:=o2_a_0 N db n cap (Mm enc H db l [swB s]) H.length a b (ixs (i:=b) rfl hb) (S.ld l _ _ hl hb) (ixs (i:=a) rfl ha) (S.ld l _ _ hl ha) hN hc (ld_sw l s) (st_sw l s _)
    have hc:=CallsTo.shared (P:=Tp) (pol:=polSl) (g:=101) (fn:=Try.f101) (cd:=B101) (args:=[.sl db 0 n cap n 1,.int .i64 (a:Int),.int .i64 (b:Int),.ptr H.length 0 0 1,.func 64 [] []]) (v:=.tuple [.int .i64 (b:Int),.int .i64 (a:Int)]) (by kernel_rfl) (by kernel_rfl) (by kernel_rfl) (by kernel_rfl) t (by kernel_rfl) (by simp) (by kernel_rfl)
    rw [gcB] at hc
    exact ⟨b,a,_,hc,.inr ⟨rfl,rfl⟩⟩
  · obtain ⟨cc,N,hN,hc⟩:=S.cf (T:=[swB s]) hl rfl (hD.at (i:=b) (by omega)) (hD.at (i:=a) (by omega)) c
    have t:=o2_a_1 N db n cap (Mm enc H db l [swB s]) H.length a b (ixs (i:=b) rfl hb) (S.ld l _ _ hl hb) (ixs (i:=a) rfl ha) (S.ld l _ _ hl ha) hN hc
    have hc:=CallsTo.shared (P:=Tp) (pol:=polSl) (g:=101) (fn:=Try.f101) (cd:=B101) (args:=[.sl db 0 n cap n 1,.int .i64 (a:Int),.int .i64 (b:Int),.ptr H.length 0 0 1,.func 64 [] []]) (v:=.tuple [.int .i64 (a:Int),.int .i64 (b:Int)]) (by kernel_rfl) (by kernel_rfl) (by kernel_rfl) (by kernel_rfl) t (by kernel_rfl) (by simp) (by kernel_rfl)
    rw [gcB] at hc
    exact ⟨a,b,_,hc,.inl ⟨rfl,rfl⟩⟩
theorem med_ok (S:So enc lt dom H db n) {a b q:Nat} (ha:a < n) (hb:b < n) (hq:q < n) {l:List α} (hl:l.length=n) (hD:Dm dom l) (s:Int) :
    ∃ (r:Nat) (s':Int),ClL 99 [.sl db 0 n cap n 1,.int .i64 (a:Int),.int .i64 (b:Int),.int .i64 (q:Int),.ptr H.length 0 0 1,.func 64 [] []] (Mm enc H db l [swB s]) (.int .i64 (r:Int)) (Mm enc H db l [swB s'])∧(r=a ∨ r=b ∨ r=q):=by
  obtain ⟨p1,q1,s1,h1,e1⟩:=ord2_ok S (cap:=cap) ha hb hl hD s
  obtain ⟨p2,q2,s2,h2,e2⟩:=ord2_ok S (cap:=cap) (a:=q1) (b:=q) (by omega) hq hl hD s1
  obtain ⟨p3,q3,s3,h3,e3⟩:=ord2_ok S (cap:=cap) (a:=p1) (b:=p2) (by omega) (by omega) hl hD s2
  obtain ⟨N1,h1⟩:=h1.from
  obtain ⟨N2,h2⟩:=h2.from
  obtain ⟨N3,h3⟩:=h3.from
  have t:=md_a_0 (N1+N2+N3) db n cap (Mm enc H db l [swB s]) H.length a b q (fun kf hk=>h1 kf (by omega)) (fun kf hk=>h2 kf (by omega)) (fun kf hk=>h3 kf (by omega))
  have hc:=CallsTo.shared (P:=Tp) (pol:=polSl) (g:=99) (fn:=Try.f99) (cd:=B99) (args:=[.sl db 0 n cap n 1,.int .i64 (a:Int),.int .i64 (b:Int),.int .i64 (q:Int),.ptr H.length 0 0 1,.func 64 [] []]) (v:=.int .i64 (q3:Int)) (by kernel_rfl) (by kernel_rfl) (by kernel_rfl) (by kernel_rfl) t (by kernel_rfl) (by simp) (by kernel_rfl)
  rw [gcB] at hc
  exact ⟨q3,s3,hc,by omega⟩
theorem madj_ok (S:So enc lt dom H db n) {a:Nat} {e:Int} (he:e=(a:Int)) (h1:1 ≤ a) (h2:a+1 < n) {l:List α} (hl:l.length=n) (hD:Dm dom l) (s:Int) :
    ∃ (r:Nat) (s':Int),ClL 98 [.sl db 0 n cap n 1,.int .i64 e,.ptr H.length 0 0 1,.func 64 [] []] (Mm enc H db l [swB s]) (.int .i64 (r:Int)) (Mm enc H db l [swB s'])∧a - 1 ≤ r∧r ≤ a+1:=by
  subst he
  have hn:=S.nb
  obtain ⟨r,s',h,er⟩:=med_ok S (cap:=cap) (a:=a - 1) (b:=a) (q:=a+1) (by omega) (by omega) (by omega) hl hD s
  obtain ⟨N,h⟩:=h.from
  have t:=ma_a_0 N db n cap (Mm enc H db l [swB s]) H.length a (by rw [wrap_pred (by omega) (by omega),wrap_succ (by omega)]; exact h)
  have hc:=CallsTo.shared (P:=Tp) (pol:=polSl) (g:=98) (fn:=Try.f98) (cd:=B98) (args:=[.sl db 0 n cap n 1,.int .i64 (a:Int),.ptr H.length 0 0 1,.func 64 [] []]) (v:=.int .i64 (r:Int)) (by kernel_rfl) (by kernel_rfl) (by kernel_rfl) (by kernel_rfl) t (by kernel_rfl) (by simp) (by kernel_rfl)
  rw [gcB] at hc
  exact ⟨r,s',hc,by omega⟩
theorem cv_idx {a b m:Nat} (hab:a ≤ b) (hb:b ≤ 60000) (hm:m ≤ 3):IntKind.i64.wrap ((a:Int)+IntKind.i64.wrap (IntKind.i64.wrap ((IntKind.i64.wrap ((b:Int) - (a:Int)):Int).tdiv 4) * (m:Int)))=((a+(b - a) / 4 * m:Nat):Int):=by
  have h1:IntKind.i64.wrap ((b:Int) - (a:Int))=((b - a:Nat):Int):=by rw [wrap_id (by omega) (by omega)]; omega
  have h2:((b - a:Nat):Int).tdiv 4=(((b - a) / 4:Nat):Int):=by rw [Int.tdiv_eq_ediv_of_nonneg (by omega)]; omega
  rw [h1,h2,wrap_id (n:=(((b - a) / 4:Nat):Int)) (by omega) (by omega)]
  have h3:(((b - a) / 4:Nat):Int) * (m:Int)=(((b - a) / 4 * m:Nat):Int):=by push_cast; rfl
  have h4:(b - a) / 4 * m ≤ 60000:=by
    have h6:(b - a) / 4 * m ≤ (b - a) / 4 * 3:=Nat.mul_le_mul_left _ hm
    omega
  rw [h3]
  generalize (b - a) / 4 * m=z at h4
  rw [wrap_id (n:=(z:Int)) (by omega) (by omega),wrap_id (by omega) (by omega)]; omega
theorem piv_ok (S:So enc lt dom H db n) {a b:Nat} (hab:a+12 < b) (hb:b ≤ n) {l:List α} (hl:l.length=n) (hD:Dm dom l) :
    ∃ (p:Nat) (h:Int),ClL 86 [.sl db 0 n cap n 1,.int .i64 (a:Int),.int .i64 (b:Int),.func 64 [] []] (Mm enc H db l []) (.tuple [.int .i64 (p:Int),.int .i64 h]) (Mm enc H db l [])∧a ≤ p∧p < b:=by
  have hn:=S.nb
  have i1:=cv_idx (a:=a) (b:=b) (m:=1) (by omega) (by omega) (by omega)
  have i2:=cv_idx (a:=a) (b:=b) (m:=2) (by omega) (by omega) (by omega)
  have i3:=cv_idx (a:=a) (b:=b) (m:=3) (by omega) (by omega) (by omega)
  have hw:IntKind.i64.wrap ((b:Int) - (a:Int))=((b - a:Nat):Int):=(by rw [wrap_id (by omega) (by omega)]; omega)
  have g0:some (newV (.int .i64 0) (Mm enc H db l []))=some (.ptr H.length 0 0 1,Mm enc H db l [swB 0]):=congrArg some (new_sw l .i64 0)
  have fin:∀ (p:Nat) (h:Int) (E:Env) (s:Int),a ≤ p → p < b → RT polSl 86 B86 (args0 [.sl db 0 n cap n 1,.int .i64 (a:Int),.int .i64 (b:Int),.func 64 [] []]) (Mm enc H db l []) .ret E (Mm enc H db l [swB s]) → resultsV Tp Try.f86 E (Mm enc H db l [swB s])=some (.tuple [.int .i64 (p:Int),.int .i64 h]) →
      ∃ (p:Nat) (h:Int),ClL 86 [.sl db 0 n cap n 1,.int .i64 (a:Int),.int .i64 (b:Int),.func 64 [] []] (Mm enc H db l []) (.tuple [.int .i64 (p:Int),.int .i64 h]) (Mm enc H db l [])∧a ≤ p∧p < b:=by
    intro p h E s h1 h2 t hv
    have hc:=CallsTo.shared (P:=Tp) (pol:=polSl) (g:=86) (fn:=Try.f86) (cd:=B86) (args:=[.sl db 0 n cap n 1,.int .i64 (a:Int),.int .i64 (b:Int),.func 64 [] []]) (by kernel_rfl) (by kernel_rfl) (by kernel_rfl) (by kernel_rfl) t (by kernel_rfl) (by simp) hv
    rw [show bnd (.tuple [.int .i64 (p:Int),.int .i64 h])=0 by simp [bnd,bndL],gcT S l l (swB s) rfl] at hc
    exact ⟨p,h,hc,h1,h2⟩
  by_cases c:50 ≤ b - a
  · obtain ⟨r1,s1,h1,e1⟩:=madj_ok S (cap:=cap) (a:=a+(b - a) / 4 * 1) i1 (by omega) (by omega) hl hD 0
    obtain ⟨r2,s2,h2,e2⟩:=madj_ok S (cap:=cap) (a:=a+(b - a) / 4 * 2) i2 (by omega) (by omega) hl hD s1
    obtain ⟨r3,s3,h3,e3⟩:=madj_ok S (cap:=cap) (a:=a+(b - a) / 4 * 3) i3 (by omega) (by omega) hl hD s2
    obtain ⟨r,s,h4,e4⟩:=med_ok S (cap:=cap) (a:=r1) (b:=r2) (q:=r3) (by omega) (by omega) (by omega) hl hD s3
    obtain ⟨N1,h1⟩:=h1.from
    obtain ⟨N2,h2⟩:=h2.from
    obtain ⟨N3,h3⟩:=h3.from
    obtain ⟨N4,h4⟩:=h4.from
    by_cases d1:s=0
    · have t:=cv_a_0 (N1+N2+N3+N4) db n cap (Mm enc H db l []) H.length a b g0 (by rw [hw]; omega) (by rw [hw]; omega) (fun kf hk=>h1 kf (by omega)) (fun kf hk=>h2 kf (by omega)) (fun kf hk=>h3 kf (by omega)) (fun kf hk=>h4 kf (by omega)) (ld_sw l s) d1
      exact fin r 1 _ s (by omega) (by omega) t (by kernel_rfl)
    · by_cases d2:s=12
      · have t:=cv_a_1 (N1+N2+N3+N4) db n cap (Mm enc H db l []) H.length a b g0 (by rw [hw]; omega) (by rw [hw]; omega) (fun kf hk=>h1 kf (by omega)) (fun kf hk=>h2 kf (by omega)) (fun kf hk=>h3 kf (by omega)) (fun kf hk=>h4 kf (by omega)) (ld_sw l s) d1 d2
        exact fin r 2 _ s (by omega) (by omega) t (by kernel_rfl)
      · have t:=cv_a_2 (N1+N2+N3+N4) db n cap (Mm enc H db l []) H.length a b g0 (by rw [hw]; omega) (by rw [hw]; omega) (fun kf hk=>h1 kf (by omega)) (fun kf hk=>h2 kf (by omega)) (fun kf hk=>h3 kf (by omega)) (fun kf hk=>h4 kf (by omega)) (ld_sw l s) d1 d2
        exact fin r 0 _ s (by omega) (by omega) t (by kernel_rfl)
  · obtain ⟨r,s,h4,e4⟩:=med_ok S (cap:=cap) (a:=a+(b - a) / 4 * 1) (b:=a+(b - a) / 4 * 2) (q:=a+(b - a) / 4 * 3) (by omega) (by omega) (by omega) hl hD 0
    obtain ⟨N4,h4⟩:=h4.from
    rw [← i1,← i2,← i3] at h4
    by_cases d1:s=0
    · have t:=cv_a_3 N4 db n cap (Mm enc H db l []) H.length a b g0 (by rw [hw]; omega) (by rw [hw]; omega) h4 (ld_sw l s) d1
      exact fin r 1 _ s (by omega) (by omega) t (by kernel_rfl)
    · by_cases d2:s=12
      · have t:=cv_a_4 N4 db n cap (Mm enc H db l []) H.length a b g0 (by rw [hw]; omega) (by rw [hw]; omega) h4 (ld_sw l s) d1 d2
        exact fin r 2 _ s (by omega) (by omega) t (by kernel_rfl)
      · have t:=cv_a_5 N4 db n cap (Mm enc H db l []) H.length a b g0 (by rw [hw]; omega) (by rw [hw]; omega) h4 (ld_sw l s) d1 d2
        exact fin r 0 _ s (by omega) (by omega) t (by kernel_rfl)
abbrev uB (s:Int):Blk:=.arr 1 [.int .u64 s] true 0
theorem z128s:tySize Tp 114=some 1:=by kernel_rfl
theorem a128s:tyAgg Tp 114=false:=by kernel_rfl
theorem i128s:(Tp.underlying 114).isSome=true:=by kernel_rfl
theorem ld_u (l:List α) (s:Int):loadV Tp (Mm enc H db l [uB s]) 114 (.ptr H.length 0 0 1)=some (.int .u64 s):=load_elem (b:=H.length) (Mm_last l (uB s)) rfl rfl rfl a128s i128s
theorem st_u (l:List α) (s r:Int):storeV Tp (Mm enc H db l [uB s]) 114 (.ptr H.length 0 0 1) (.int .u64 r)=some (Mm enc H db l [uB r]):=by
  have:=store_elem (P:=Tp) (t:=114) (b:=H.length) (i:=0) (tot:=1) (old:=.int .u64 s) (v:=.int .u64 r) (Mm_last (enc:=enc) (db:=db) l (uB s)) rfl rfl rfl (by intro cs h; cases h) z128s rfl rfl (by simp [bnd])
  rw [this,Mm_set]; rfl
theorem bx (a b:Int):∃ r,binV Tp .xor 114 (.int .u64 a) (.int .u64 b)=some (.int .u64 r):=⟨_,rfl⟩
theorem bs13 (a:Int):∃ r,binV Tp .shl 114 (.int .u64 a) (.int .u64 13)=some (.int .u64 r):=⟨_,rfl⟩
theorem bs17 (a:Int):∃ r,binV Tp .shl 114 (.int .u64 a) (.int .u64 17)=some (.int .u64 r):=⟨_,rfl⟩
theorem br7 (a:Int):∃ r,binV Tp .shr 114 (.int .u64 a) (.int .u64 7)=some (.int .u64 r):=⟨_,rfl⟩
theorem xor_ok (l:List α) (s:Int):∃ r,ClL 94 [.ptr H.length 0 0 1] (Mm enc H db l [uB s]) (.int .u64 r) (Mm enc H db l [uB r]):=by
  obtain ⟨h0,e0⟩:=bs13 s
  obtain ⟨h1,e1⟩:=bx s h0
  obtain ⟨h2,e2⟩:=br7 h1
  obtain ⟨h3,e3⟩:=bx h1 h2
  obtain ⟨h4,e4⟩:=bs17 h3
  obtain ⟨h5,e5⟩:=bx h3 h4
  have t:=xs_a_0 0 0 0 none (Mm enc H db l [uB s]) H.length (ld_u l s) (ld_u l s) e0 e1 (st_u l s h1) (ld_u l h1) (ld_u l h1) e2 e3 (st_u l h1 h3) (ld_u l h3) (ld_u l h3) e4 e5 (st_u l h3 h5) (ld_u l h5)
  have hc:=CallsTo.shared (P:=Tp) (pol:=polSl) (g:=94) (fn:=Try.f94) (cd:=B94) (args:=[.ptr H.length 0 0 1]) (v:=.int .u64 h5) (by kernel_rfl) (by kernel_rfl) (by kernel_rfl) (by kernel_rfl) t (by kernel_rfl) (by simp) (by kernel_rfl)
  rw [gcB] at hc
  exact ⟨_,hc⟩
theorem and_u {u:Int} {m:Nat} (hm:m < 9223372036854775808):∃ h:Nat,binV Tp .and 85 (.int .u64 u) (.int .u64 (m:Int))=some (.int .u64 (h:Int))∧h ≤ m:=by
  have e:binV Tp .and 85 (.int .u64 u) (.int .u64 (m:Int))=some (.int .u64 (IntKind.u64.wrap (BitVec.ofInt IntKind.u64.bits u &&& BitVec.ofInt IntKind.u64.bits (m:Int)).toNat)):=rfl
  have hle:(BitVec.ofInt IntKind.u64.bits u &&& BitVec.ofInt IntKind.u64.bits (m:Int)).toNat ≤ m:=by
    rw [BitVec.toNat_and]
    refine Nat.le_trans Nat.and_le_right ?_
    rw [BitVec.toNat_ofInt]
    show ((m:Int) % ((2 ^ 64:Nat):Int)).toNat ≤ m
    omega
  refine ⟨_,?_,hle⟩
  rw [e]
  congr 2
  rw [wrapU64]
  generalize (BitVec.ofInt IntKind.u64.bits u &&& BitVec.ofInt IntKind.u64.bits (m:Int)).toNat=h at hle
  omega
theorem bk_loop (S:So enc lt dom H db n) {a b k m:Nat} (hk:b=a+k) (hk8:8 ≤ k) (hb:b ≤ n) (hm1:1 ≤ m) (hm2:m ≤ 2 * k):∀ (d i:Nat) (l:List α) (s:Int),i+d=a+k / 4 * 2+2 → a+k / 4 * 2 - 1 ≤ i → l.length=n →
    ∃ y5 y6 l' s',RT polSl 85 (sub [1,1,0,1,1,1,0] B85) (env85 (.sl db 0 n cap n 1) (.int .i64 (a:Int)) (.int .i64 (b:Int)) (.int .i64 (k:Int)) (.ptr H.length 0 0 1) (.int .u64 (m:Int)) (.int .i64 (i:Int)) Ud) (Mm enc H db l [uB s]) (.exit 0) (env85 (.sl db 0 n cap n 1) (.int .i64 (a:Int)) (.int .i64 (b:Int)) (.int .i64 (k:Int)) (.ptr H.length 0 0 1) (.int .u64 (m:Int)) y5 y6) (Mm enc H db l' [uB s'])∧Sw a b l l':=by
  have hn:=S.nb
  have e0:IntKind.i64.wrap (((k:Int):Int).tdiv 4)=((k / 4:Nat):Int):=by
    rw [Int.tdiv_eq_ediv_of_nonneg (by omega),wrap_id (by omega) (by omega)]; omega
  have e1:IntKind.i64.wrap ((a:Int)+IntKind.i64.wrap (IntKind.i64.wrap (((k:Int):Int).tdiv 4) * 2))=((a+k / 4 * 2:Nat):Int):=by
    rw [e0,wrap_id (n:=((k / 4:Nat):Int) * 2) (by omega) (by omega),wrap_id (by omega) (by omega)]; omega
  have e2:IntKind.i64.wrap (IntKind.i64.wrap ((a:Int)+IntKind.i64.wrap (IntKind.i64.wrap (((k:Int):Int).tdiv 4) * 2))+1)=((a+k / 4 * 2+1:Nat):Int):=by
    rw [e1,wrap_id (by omega) (by omega)]; omega
  intro d
  induction d with
  | zero =>
    intro i l s hi hi2 hl
    exact ⟨_,_,l,s,lpo (bk_f_2 0 db n cap (Mm enc H db l [uB s]) H.length a b k m i (y12:=Ud) (by rw [e2]; omega)),.refl⟩
  | succ d ih =>
    intro i l s hi hi2 hl
    obtain ⟨u,hx⟩:=xor_ok (enc:=enc) (H:=H) (db:=db) l s
    obtain ⟨N,hN⟩:=hx.from
    have hu:IntKind.u64.wrap ((m:Int) - 1)=((m - 1:Nat):Int):=by rw [wrapU64]; omega
    obtain ⟨h,hand,hh⟩:=and_u (u:=u) (m:=m - 1) (by omega)
    rw [← hu] at hand
    have hwh:IntKind.i64.wrap (h:Int)=(h:Int):=wrap_id (by omega) (by omega)
    have next:∀ o:Nat,o < k → ∀ y,RT polSl 85 (sub [1,1,0,1,1,1,0,0] B85) (env85 (.sl db 0 n cap n 1) (.int .i64 (a:Int)) (.int .i64 (b:Int)) (.int .i64 (k:Int)) (.ptr H.length 0 0 1) (.int .u64 (m:Int)) (.int .i64 (i:Int)) Ud) (Mm enc H db l [uB s]) .normal (env85 (.sl db 0 n cap n 1) (.int .i64 (a:Int)) (.int .i64 (b:Int)) (.int .i64 (k:Int)) (.ptr H.length 0 0 1) (.int .u64 (m:Int)) (.int .i64 (IntKind.i64.wrap ((i:Int)+1))) y) (Mm enc H db (swp l i (a+o)) [uB u]) →
        ∃ y5 y6 l' s',RT polSl 85 (sub [1,1,0,1,1,1,0] B85) (env85 (.sl db 0 n cap n 1) (.int .i64 (a:Int)) (.int .i64 (b:Int)) (.int .i64 (k:Int)) (.ptr H.length 0 0 1) (.int .u64 (m:Int)) (.int .i64 (i:Int)) Ud) (Mm enc H db l [uB s]) (.exit 0) (env85 (.sl db 0 n cap n 1) (.int .i64 (a:Int)) (.int .i64 (b:Int)) (.int .i64 (k:Int)) (.ptr H.length 0 0 1) (.int .u64 (m:Int)) y5 y6) (Mm enc H db l' [uB s'])∧Sw a b l l':=by
      intro o ho y st
      rw [wrap_succ (by omega)] at st
      have sw:Sw a b l (swp l i (a+o)):=Sw.one (by omega) (by omega) (by omega) (by omega)
      obtain ⟨y5,y6,l',s',r,q⟩:=ih (i+1) (swp l i (a+o)) u (by omega) (by omega) (by rw [swp_len]; exact hl)
      exact ⟨y5,y6,l',s',lop (st) (gcM _ _ _ _ _ rfl) (r),sw.trans q⟩
    by_cases c:k ≤ h
    · have e3:IntKind.i64.wrap (IntKind.i64.wrap (h:Int) - (k:Int))=((h - k:Nat):Int):=by rw [hwh,wrap_id (by omega) (by omega)]; omega
      have e4:IntKind.i64.wrap ((a:Int)+IntKind.i64.wrap (IntKind.i64.wrap (h:Int) - (k:Int)))=((a+(h - k):Nat):Int):=by rw [e3,wrap_id (by omega) (by omega)]; omega
      obtain ⟨s1,s2⟩:=S.st2 (T:=[uB u]) hl (i:=i) (j:=a+(h - k)) (by omega) (by omega)
      have st:=bk_f_0 N db n cap (Mm enc H db l [uB s]) H.length a b k m i (y12:=Ud) (by rw [e2]; omega) hN hand (by rw [hwh]; omega) (ixs e4 (by omega)) (S.ld l _ _ hl (by omega)) (ixs (i:=i) rfl (by omega)) (S.ld l _ _ hl (by omega)) (ixs (i:=i) rfl (by omega)) s1 (ixs e4 (by omega)) s2
      exact next (h - k) (by omega) _ st
    · have e4:IntKind.i64.wrap ((a:Int)+IntKind.i64.wrap (h:Int))=((a+h:Nat):Int):=by rw [hwh,wrap_id (by omega) (by omega)]; omega
      obtain ⟨s1,s2⟩:=S.st2 (T:=[uB u]) hl (i:=i) (j:=a+h) (by omega) (by omega)
      have st:=bk_f_1 N db n cap (Mm enc H db l [uB s]) H.length a b k m i (y12:=Ud) (by rw [e2]; omega) hN hand (by rw [hwh]; omega) (ixs e4 (by omega)) (S.ld l _ _ hl (by omega)) (ixs (i:=i) rfl (by omega)) (S.ld l _ _ hl (by omega)) (ixs (i:=i) rfl (by omega)) s1 (ixs e4 (by omega)) s2
      exact next h (by omega) _ st
theorem brk_ok (S:So enc lt dom H db n) {a b:Nat} (hab:a+8 ≤ b) (hb:b ≤ n) {l:List α} (hl:l.length=n) :
    ∃ l',ClL 85 [.sl db 0 n cap n 1,.int .i64 (a:Int),.int .i64 (b:Int),.func 64 [] []] (Mm enc H db l []) (.tuple []) (Mm enc H db l' [])∧Sw a b l l':=by
  have hn:=S.nb
  obtain ⟨k,rfl⟩:∃ k,b=a+k:=⟨b - a,by omega⟩
  have hw:IntKind.i64.wrap (((a+k:Nat):Int) - (a:Int))=(k:Int):=by rw [wrap_id (by omega) (by omega)]; omega
  have t0:=bk_a_0 0 db n cap (Mm enc H db l []) H.length a (a+k)
  rw [hw] at t0
  have t1:=bk_b_0 0 db n cap (Mm enc H db l []) H.length a (a+k) k (y9:=Ud) (y10:=Ud) (y11:=Ud) (y12:=Ud) (by omega)
  have g0:some (newV (.int .u64 0) (Mm enc H db l []))=some (.ptr H.length 0 0 1,Mm enc H db l [uB 0]):=congrArg some (new_sw l .u64 0)
  have t2:=bk_c_0 0 db n cap (Mm enc H db l []) H.length a (a+k) k (y9:=Ud) (y10:=Ud) (y11:=Ud) (y12:=Ud) g0 (st_u l 0 _)
  have hl2:=(lenN_ok (x:=k) (by omega)).1 (by omega)
  have t3:=bk_d_0 0 db n cap (Mm enc H db l [uB (IntKind.u64.wrap (k:Int))]) H.length a (a+k) k (y10:=Ud) (y11:=Ud) (y12:=Ud) (u0:=((2 ^ lenN k:Nat):Int)) (fun kf _=>by
    rw [prim_call (pol:=polSl) (g:=93) (F:=next93) (by kernel_rfl) (rs:=[.int .i64 (k:Int)]) rfl (res:=.int .u64 ((2 ^ lenN k:Nat):Int)) (by simp only [next93]; rw [if_pos (by omega),Int.toNat_natCast])]; rfl)
  generalize 2 ^ lenN k=m at hl2 t3
  have t4:=bk_e_0 0 db n cap (Mm enc H db l [uB (IntKind.u64.wrap (k:Int))]) H.length a (a+k) k (m:Int) (y11:=Ud) (y12:=Ud)
  have e0:IntKind.i64.wrap (((k:Int):Int).tdiv 4)=((k / 4:Nat):Int):=by
    rw [Int.tdiv_eq_ediv_of_nonneg (by omega),wrap_id (by omega) (by omega)]; omega
  have e1:IntKind.i64.wrap (IntKind.i64.wrap ((a:Int)+IntKind.i64.wrap (IntKind.i64.wrap (((k:Int):Int).tdiv 4) * 2)) - 1)=((a+k / 4 * 2 - 1:Nat):Int):=by
    rw [e0,wrap_id (n:=((k / 4:Nat):Int) * 2) (by omega) (by omega),wrap_id (n:=(a:Int)+((k / 4:Nat):Int) * 2) (by omega) (by omega),wrap_id (by omega) (by omega)]; omega
  rw [e1] at t4
  obtain ⟨y5,y6,l',s',r,q⟩:=bk_loop S (cap:=cap) (m:=m) rfl (by omega) hb (by omega) (by omega) 3 (a+k / 4 * 2 - 1) l (IntKind.u64.wrap (k:Int)) (by omega) (Nat.le_refl _) hl
  have t:=sq (t0) (sq (t1) (RunsTo.cond (y:=.tmp 17) (t:=true) (c:=sub [1,1] B85) (a:=sub [1,1,0] B85) (b:=sub [1,1,1] B85) (by kernel_rfl) rfl (sq (t2) (sq (t3) (sq (t4) (bke (c:=sub [1,1,0,1,1,1] B85) (r)) (c:=sub [1,1,0,1,1] B85)) (c:=sub [1,1,0,1] B85)) (c:=sub [1,1,0] B85))) (c:=sub [1] B85)) (c:=B85)
  have hc:=CallsTo.shared (P:=Tp) (pol:=polSl) (g:=85) (fn:=Try.f85) (cd:=B85) (args:=[.sl db 0 n cap n 1,.int .i64 (a:Int),.int .i64 ((a+k:Nat):Int),.func 64 [] []]) (v:=.tuple []) (by kernel_rfl) (by kernel_rfl) (by kernel_rfl) (by kernel_rfl) t (by kernel_rfl) (by simp) (by kernel_rfl)
  rw [show bnd (.tuple [])=0 by rfl,gcT S l l' (uB s') rfl] at hc
  exact ⟨l',hc,q⟩
end
end Go.Proofs.Ytaibmipamkaljaa
end
section
open Go Go.HL Go.HL.So
namespace Go.Proofs.Ytaibmipamkaljaa
set_option linter.unusedSectionVars false
open Go.Proofs.Try renaming prog → Tp
open Go.HL.HV renaming undef → Ud
section
variable {α:Type} [Inhabited α] {enc:α → HV} {lt:α → α → Prop} {dom:α → Prop} {H:Heap} {db n:Nat} {cap:Option Nat}
def PdqOk (enc:α → HV) (lt:α → α → Prop) (dom:α → Prop) (H:Heap) (db n:Nat) (cap:Option Nat) (d:Nat):Prop:=∀ (a b:Nat) (lim:Int) (l:List α),b - a < d → a ≤ b → b ≤ n → 0 ≤ lim → lim ≤ 1000 → l.length=n → Dm dom l → Flo lt a b l →
  ∃ l',ClL 70 [.sl db 0 n cap n 1,.int .i64 (a:Int),.int .i64 (b:Int),.int .i64 lim,.func 64 [] []] (Mm enc H db l []) (.tuple []) (Mm enc H db l' [])∧Sw a b l l'∧Sorted lt a b l'
def Out (enc:α → HV) (lt:α → α → Prop) (dom:α → Prop) (H:Heap) (db n:Nat) (cap:Option Nat) (a b:Nat) (l:List α) (x:X) (E:Env) (l':List α):Prop :=
  Sw a b l l'∧((x=.ret∧Sorted lt a b l') ∨ ((x=.normal ∨ x=.exit 1)∧∃ (a' b':Nat) (lim':Int) (bal' par':Bool) (y2 y3 y4 y5 y6 y7 y8 y9 y10:HV),E=(env70 (.sl db 0 n cap n 1) (.int .i64 (a':Int)) (.int .i64 (b':Int)) (.int .i64 lim') (.func 64 [] []) (.bool bal') (.bool par') y2 y3 y4 y5 y6 y7 y8 y9 y10) ∧
    b' - a' < b - a∧a ≤ a'∧a' ≤ b'∧b' ≤ b∧0 ≤ lim'∧lim' ≤ 1000∧Flo lt a' b' l'∧∀ l'',Sw a' b' l' l'' → Sorted lt a' b' l'' → Sorted lt a b l''))
theorem Out.pre {a b:Nat} {l l1 l':List α} {x:X} {E:Env} (h:Sw a b l l1) (ho:Out enc lt dom H db n cap a b l1 x E l'):Out enc lt dom H db n cap a b l x E l':=⟨h.trans ho.1,ho.2⟩
theorem Flo.part {a b a' b':Nat} {l:List α} (h:Flo lt a b l) (h1:a'=a) (h2:b' ≤ b):Flo lt a' b' l:=by
  subst h1
  exact fun h0 k h3 h4=>h h0 k h3 (by omega)
theorem join (hL:Lin lt) {a b m:Nat} {l:List α} (h1:Sorted lt a m l) (h2:Sorted lt (m+1) b l) (h3:∀ k,a ≤ k → k < m → lt (at_ l k) (at_ l m)) (h4:∀ k,m < k → k < b → ¬ lt (at_ l k) (at_ l m)):Sorted lt a b l:=by
  intro i j q1 q2 q3
  by_cases c1:j < m
  · exact h1 i j q1 q2 c1
  · by_cases c2:j=m
    · subst c2; exact hL.asy _ _ (h3 i q1 q2)
    · by_cases c3:i < m
      · exact hL.tr _ _ _ (hL.asy _ _ (h3 i q1 c3)) (h4 j (by omega) q3)
      · by_cases c4:i=m
        · subst c4; exact h4 j (by omega) q3
        · exact h2 i j (by omega) q2 q3
theorem pq_S (S:So enc lt dom H db n) (hL:Lin lt) {a b k p:Nat} {lim:Int} {bal par:Bool} {h:HV} (hd:PdqOk enc lt dom H db n cap (b - a)) (hp1:a ≤ p) (hp2:p < b) (hb:b ≤ n) (hk:k ≤ n) (hl0:0 ≤ lim) (hl1:lim ≤ 1000) {l:List α} (hl:l.length=n) (hD:Dm dom l) (hF:Flo lt a b l) :
    ∃ x E l',RT polSl 70 (sub [1,1,0,0,0,1,1,1,1,1,1,1,1] B70) (env70 (.sl db 0 n cap n 1) (.int .i64 (a:Int)) (.int .i64 (b:Int)) (.int .i64 lim) (.func 64 [] []) (.bool bal) (.bool par) (.int .i64 (k:Int)) (.int .i64 (p:Int)) h Ud Ud Ud Ud Ud Ud) (Mm enc H db l []) x E (Mm enc H db l' [])∧Out enc lt dom H db n cap a b l x E l':=by
  have hn:=S.nb
  obtain ⟨m,bb,l4,hc,w1,w2,w3,w4⟩:=spart_ok S (cap:=cap) (T:=[]) rfl hb hp1 hp2 hl hD
  obtain ⟨N,hN⟩:=hc.from
  have t1:=pq_n_0 N db n cap (Mm enc H db l []) 0 a b lim p (y10:=.bool bal) (y11:=.bool par) (y12:=.int .i64 (k:Int)) (y14:=h) (y15:=Ud) (y16:=Ud) (y17:=Ud) (y18:=Ud) (y19:=Ud) (y20:=Ud) hN
  have hl4:=sw_len w1 hl
  have hD4:=hD.sw w1 (by omega)
  have hF4:=hF.sw (by omega) w1
  have t2:=pq_o_0 0 db n cap (Mm enc H db l4 []) 0 a b lim (y10:=.bool bal) (y11:=.bool par) (y12:=.int .i64 (k:Int)) (y13:=.int .i64 (p:Int)) (y14:=h) (y15:=Ud) (y16:=.int .i64 (m:Int)) (y17:=.bool bb) (y18:=Ud) (y19:=Ud) (y20:=Ud)
  have t3:=pq_p_0 0 db n cap (Mm enc H db l4 []) 0 a b lim m (y10:=.bool bal) (y11:=.bool bb) (y12:=.int .i64 (k:Int)) (y13:=.int .i64 (p:Int)) (y14:=h) (y15:=Ud) (y17:=.bool bb) (y18:=Ud) (y19:=Ud) (y20:=Ud)
  have e1:IntKind.i64.wrap ((m:Int) - (a:Int))=((m - a:Nat):Int):=(by rw [wrap_id (by omega) (by omega)]; omega)
  have e2:IntKind.i64.wrap ((b:Int) - (m:Int))=((b - m:Nat):Int):=(by rw [wrap_id (by omega) (by omega)]; omega)
  rw [e1,e2] at t3
  have t4:=pq_q_0 0 db n cap (Mm enc H db l4 []) 0 a b lim k (y10:=.bool bal) (y11:=.bool bb) (y13:=.int .i64 (p:Int)) (y14:=h) (y15:=Ud) (y16:=.int .i64 (m:Int)) (y17:=.bool bb) (y18:=.int .i64 ((m - a:Nat):Int)) (y19:=.int .i64 ((b - m:Nat):Int)) (y20:=Ud)
  generalize IntKind.i64.wrap (((k:Int):Int).tdiv 8)=th at t4
  have up:∀ (x:X) (E:Env) (l':List α),RT polSl 70 (sub [1,1,0,0,0,1,1,1,1,1,1,1,1,1,1,1,1] B70) (env70 (.sl db 0 n cap n 1) (.int .i64 (a:Int)) (.int .i64 (b:Int)) (.int .i64 lim) (.func 64 [] []) (.bool bal) (.bool bb) (.int .i64 (k:Int)) (.int .i64 (p:Int)) h Ud (.int .i64 (m:Int)) (.bool bb) (.int .i64 ((m - a:Nat):Int)) (.int .i64 ((b - m:Nat):Int)) (.int .i64 th)) (Mm enc H db l4 []) .normal E (Mm enc H db l' []) → Out enc lt dom H db n cap a b l4 .normal E l' →
      ∃ x E l',RT polSl 70 (sub [1,1,0,0,0,1,1,1,1,1,1,1,1] B70) (env70 (.sl db 0 n cap n 1) (.int .i64 (a:Int)) (.int .i64 (b:Int)) (.int .i64 lim) (.func 64 [] []) (.bool bal) (.bool par) (.int .i64 (k:Int)) (.int .i64 (p:Int)) h Ud Ud Ud Ud Ud Ud) (Mm enc H db l []) x E (Mm enc H db l' [])∧Out enc lt dom H db n cap a b l x E l':=fun x E l' t ho =>
    ⟨_,E,l',sq (t1) (sq (t2) (sq (t3) (sq (t4) (t) (c:=sub [1,1,0,0,0,1,1,1,1,1,1,1,1,1,1,1] B70)) (c:=sub [1,1,0,0,0,1,1,1,1,1,1,1,1,1,1] B70)) (c:=sub [1,1,0,0,0,1,1,1,1,1,1,1,1,1] B70)) (c:=sub [1,1,0,0,0,1,1,1,1,1,1,1,1] B70),Out.pre w1 ho⟩
  by_cases c:((m - a:Nat):Int) < ((b - m:Nat):Int)
  · obtain ⟨l5,hc5,v1,v2⟩:=hd a m lim l4 (by omega) (by omega) (by omega) hl0 hl1 hl4 hD4 (hF4.part rfl (by omega))
    obtain ⟨N5,hN5⟩:=hc5.from
    have hl5:=sw_len v1 hl4
    have e3:IntKind.i64.wrap ((m:Int)+1)=((m+1:Nat):Int):=wrap_succ (by omega)
    have ho:∀ (bl:Bool),Out enc lt dom H db n cap a b l4 .normal (env70 (.sl db 0 n cap n 1) (.int .i64 ((m+1:Nat):Int)) (.int .i64 (b:Int)) (.int .i64 lim) (.func 64 [] []) (.bool bl) (.bool bb) (.int .i64 (k:Int)) (.int .i64 (p:Int)) h Ud (.int .i64 (m:Int)) (.bool bb) (.int .i64 ((m - a:Nat):Int)) (.int .i64 ((b - m:Nat):Int)) (.int .i64 th)) l5:=fun bl=>by
      refine ⟨v1.mono (Nat.le_refl _) (by omega),.inr ⟨.inl rfl,m+1,b,lim,bl,bb,_,_,_,_,_,_,_,_,_,rfl,by omega,by omega,by omega,Nat.le_refl _,hl0,hl1,fun _ k h1 h2=>?_,fun l6 u1 u2=>?_⟩⟩
      · rw [show m+1 - 1=m by omega,v1.out (by omega) (k:=k) (by omega),v1.out (by omega) (k:=m) (by omega)]
        exact w4 k (by omega) h2
      · have em:at_ l6 m=at_ l4 m:=(u1.out (by omega) (k:=m) (by omega)).trans (v1.out (by omega) (k:=m) (by omega))
        refine join hL (m:=m) (fun i j q1 q2 q3=>?_) u2 (fun k q1 q2=>?_) (fun k q1 q2=>?_)
        · rw [u1.out (by omega) (k:=i) (by omega),u1.out (by omega) (k:=j) (by omega)]
          exact v2 i j q1 q2 q3
        · rw [em,u1.out (by omega) (k:=k) (by omega)]
          exact v1.all (by omega) (Q:=fun x=>lt x (at_ l4 m)) (Nat.le_refl _) (Nat.le_refl _) w3 k q1 q2
        · rw [em]
          exact u1.all (by omega) (Q:=fun x=>¬ lt x (at_ l4 m)) (lo:=m+1) (hi:=b) (Nat.le_refl _) (Nat.le_refl _) (fun i h1 h2=>by
            rw [v1.out (by omega) (k:=i) (by omega)]; exact w4 i (by omega) h2) k (by omega) q2
    by_cases c2:th ≤ ((m - a:Nat):Int)
    · have t:=pq_r_0 N5 db n cap (Mm enc H db l4 []) 0 a b lim m _ _ th (y10:=.bool bal) (y11:=.bool bb) (y12:=.int .i64 (k:Int)) (y13:=.int .i64 (p:Int)) (y14:=h) (y15:=Ud) (y17:=.bool bb) c c2 hN5
      rw [e3] at t
      exact up .normal _ l5 t (ho true)
    · have t:=pq_r_1 N5 db n cap (Mm enc H db l4 []) 0 a b lim m _ _ th (y10:=.bool bal) (y11:=.bool bb) (y12:=.int .i64 (k:Int)) (y13:=.int .i64 (p:Int)) (y14:=h) (y15:=Ud) (y17:=.bool bb) c c2 hN5
      rw [e3] at t
      exact up .normal _ l5 t (ho false)
  · have hF5:Flo lt (m+1) b l4:=fun _ k h1 h2=>by rw [show m+1 - 1=m by omega]; exact w4 k (by omega) h2
    obtain ⟨l5,hc5,v1,v2⟩:=hd (m+1) b lim l4 (by omega) (by omega) hb hl0 hl1 hl4 hD4 hF5
    obtain ⟨N5,hN5⟩:=hc5.from
    have hl5:=sw_len v1 hl4
    have e3:IntKind.i64.wrap ((m:Int)+1)=((m+1:Nat):Int):=wrap_succ (by omega)
    rw [← e3] at hN5
    have ho:∀ (bl:Bool),Out enc lt dom H db n cap a b l4 .normal (env70 (.sl db 0 n cap n 1) (.int .i64 (a:Int)) (.int .i64 (m:Int)) (.int .i64 lim) (.func 64 [] []) (.bool bl) (.bool bb) (.int .i64 (k:Int)) (.int .i64 (p:Int)) h Ud (.int .i64 (m:Int)) (.bool bb) (.int .i64 ((m - a:Nat):Int)) (.int .i64 ((b - m:Nat):Int)) (.int .i64 th)) l5:=fun bl=>by
      have hF6:=(hF4.sw (by omega) (v1.mono (a':=a) (by omega) (Nat.le_refl _))).part (b':=m) rfl (by omega)
      refine ⟨v1.mono (by omega) (Nat.le_refl _),.inr ⟨.inl rfl,a,m,lim,bl,bb,_,_,_,_,_,_,_,_,_,rfl,by omega,Nat.le_refl _,by omega,by omega,hl0,hl1,hF6,fun l6 u1 u2=>?_⟩⟩
      have em:at_ l6 m=at_ l4 m:=(u1.out (by omega) (k:=m) (by omega)).trans (v1.out (by omega) (k:=m) (by omega))
      refine join hL (m:=m) u2 (fun i j q1 q2 q3=>?_) (fun k q1 q2=>?_) (fun k q1 q2=>?_)
      · rw [u1.out (by omega) (k:=i) (by omega),u1.out (by omega) (k:=j) (by omega)]
        exact v2 i j q1 q2 q3
      · rw [em]
        exact u1.all (by omega) (Q:=fun x=>lt x (at_ l4 m)) (lo:=a) (hi:=m) (Nat.le_refl _) (Nat.le_refl _) (fun i h1 h2=>by
            rw [v1.out (by omega) (k:=i) (by omega)]; exact w3 i h1 h2) k q1 q2
      · rw [em,u1.out (by omega) (k:=k) (by omega)]
        exact v1.all (by omega) (Q:=fun x=>¬ lt x (at_ l4 m)) (Nat.le_refl _) (Nat.le_refl _) (fun i h1 h2=>w4 i (by omega) h2) k (by omega) q2
    by_cases c2:th ≤ ((b - m:Nat):Int)
    · have t:=pq_r_2 N5 db n cap (Mm enc H db l4 []) 0 a b lim m _ _ th (y10:=.bool bal) (y11:=.bool bb) (y12:=.int .i64 (k:Int)) (y13:=.int .i64 (p:Int)) (y14:=h) (y15:=Ud) (y17:=.bool bb) c c2 hN5
      exact up .normal _ l5 t (ho true)
    · have t:=pq_r_3 N5 db n cap (Mm enc H db l4 []) 0 a b lim m _ _ th (y10:=.bool bal) (y11:=.bool bb) (y12:=.int .i64 (k:Int)) (y13:=.int .i64 (p:Int)) (y14:=h) (y15:=Ud) (y17:=.bool bb) c c2 hN5
      exact up .normal _ l5 t (ho false)
theorem pq_T (S:So enc lt dom H db n) (hL:Lin lt) {a b k p:Nat} {lim:Int} {bal par:Bool} {h:HV} (hd:PdqOk enc lt dom H db n cap (b - a)) (hp1:a ≤ p) (hp2:p < b) (hb:b ≤ n) (hk:k ≤ n) (hl0:0 ≤ lim) (hl1:lim ≤ 1000) {l:List α} (hl:l.length=n) (hD:Dm dom l) (hF:Flo lt a b l) :
    ∃ x E l',RT polSl 70 (sub [1,1,0,0,0,1,1,1,1,1,1,1] B70) (env70 (.sl db 0 n cap n 1) (.int .i64 (a:Int)) (.int .i64 (b:Int)) (.int .i64 lim) (.func 64 [] []) (.bool bal) (.bool par) (.int .i64 (k:Int)) (.int .i64 (p:Int)) h Ud Ud Ud Ud Ud Ud) (Mm enc H db l []) x E (Mm enc H db l' [])∧Out enc lt dom H db n cap a b l x E l':=by
  have hn:=S.nb
  by_cases c0:0 < a
  · have hp:IntKind.i64.wrap ((a:Int) - 1)=((a - 1:Nat):Int):=wrap_pred (by omega) (by omega)
    by_cases c:lt (at_ l (a - 1)) (at_ l p)
    · obtain ⟨cc,N,hN,hc⟩:=S.ct (T:=[]) hl rfl (hD.at (i:=a - 1) (by omega)) (hD.at (i:=p) (by omega)) c
      have t1:=pq_m_0 N db n cap (Mm enc H db l []) 0 a b lim p (y10:=.bool bal) (y11:=.bool par) (y12:=.int .i64 (k:Int)) (y14:=h) (y15:=Ud) (y16:=Ud) (y17:=Ud) (y18:=Ud) (y19:=Ud) (y20:=Ud) (by omega) (ixs hp (by omega)) (S.ld l _ _ hl (by omega)) (ixs (i:=p) rfl (by omega)) (S.ld l _ _ hl (by omega)) hN hc
      obtain ⟨x,E,l',t,ho⟩:=pq_S S hL (cap:=cap) (k:=k) (bal:=bal) (par:=par) (h:=h) hd hp1 hp2 hb hk hl0 hl1 hl hD hF
      exact ⟨x,E,l',sq t1 t (c:=sub [1,1,0,0,0,1,1,1,1,1,1,1] B70),ho⟩
    · obtain ⟨cc,N,hN,hc⟩:=S.cf (T:=[]) hl rfl (hD.at (i:=a - 1) (by omega)) (hD.at (i:=p) (by omega)) c
      obtain ⟨m,l4,hc4,w1,w2,w3,w4⟩:=peq_ok S (cap:=cap) (T:=[]) hL rfl hb hp1 hp2 hl hD
      obtain ⟨N4,hN4⟩:=hc4.from
      have t1:=pq_m_1 (N+N4) db n cap (Mm enc H db l []) 0 a b lim p (y10:=.bool bal) (y11:=.bool par) (y12:=.int .i64 (k:Int)) (y14:=h) (y15:=Ud) (y16:=Ud) (y17:=Ud) (y18:=Ud) (y19:=Ud) (y20:=Ud) (by omega) (ixs hp (by omega)) (S.ld l _ _ hl (by omega)) (ixs (i:=p) rfl (by omega)) (S.ld l _ _ hl (by omega)) (fun kf hk=>hN kf (by omega)) hc (fun kf hk=>hN4 kf (by omega))
      have hlow:∀ k,a ≤ k → k < b → ¬ lt (at_ l4 k) (at_ l (a - 1)):=w1.all (by omega) (Q:=fun x=>¬ lt x (at_ l (a - 1))) (Nat.le_refl _) (Nat.le_refl _) (hF c0)
      refine ⟨_,_,l4,sqo t1 (c:=sub [1,1,0,0,0,1,1,1,1,1,1,1] B70) (b:=sub [1,1,0,0,0,1,1,1,1,1,1,1,1] B70),w1,.inr ⟨.inr rfl,m,b,lim,bal,par,_,_,_,_,_,_,_,_,_,rfl,by omega,by omega,by omega,Nat.le_refl _,hl0,hl1,fun _ k h1 h2=>?_,fun l5 u1 u2=>?_⟩⟩
      · exact hL.tr _ _ _ (w3 (m - 1) (by omega) (by omega)) (hL.asy _ _ (w4 k h1 h2))
      · have hl4:=sw_len w1 hl
        have hr:∀ k,m ≤ k → k < b → lt (at_ l p) (at_ l5 k):=u1.all (by omega) (Q:=fun x=>lt (at_ l p) x) (Nat.le_refl _) (Nat.le_refl _) w4
        intro i j q1 q2 q3
        by_cases c1:j < m
        · rw [u1.out (by omega) (k:=i) (by omega),u1.out (by omega) (k:=j) (by omega)]
          exact hL.tr _ _ _ (hL.tr _ _ _ (w3 i q1 (by omega)) c) (hlow j (by omega) q3)
        · by_cases c2:i < m
          · rw [u1.out (by omega) (k:=i) (by omega)]
            exact hL.tr _ _ _ (w3 i q1 c2) (hL.asy _ _ (hr j (by omega) q3))
          · exact u2 i j (by omega) q2 q3
  · have t1:=pq_m_2 0 db n cap (Mm enc H db l []) 0 a b lim p (y10:=.bool bal) (y11:=.bool par) (y12:=.int .i64 (k:Int)) (y14:=h) (y15:=Ud) (y16:=Ud) (y17:=Ud) (y18:=Ud) (y19:=Ud) (y20:=Ud) (by omega)
    obtain ⟨x,E,l',t,ho⟩:=pq_S S hL (cap:=cap) (k:=k) (bal:=bal) (par:=par) (h:=h) hd hp1 hp2 hb hk hl0 hl1 hl hD hF
    exact ⟨x,E,l',sq t1 t (c:=sub [1,1,0,0,0,1,1,1,1,1,1,1] B70),ho⟩
theorem pq_U (S:So enc lt dom H db n) (hL:Lin lt) {a b k p:Nat} {lim h:Int} {bal par:Bool} (hd:PdqOk enc lt dom H db n cap (b - a)) (hp1:a ≤ p) (hp2:p < b) (hb:b ≤ n) (hk:k ≤ n) (hl0:0 ≤ lim) (hl1:lim ≤ 1000) {l:List α} (hl:l.length=n) (hD:Dm dom l) (hF:Flo lt a b l) :
    ∃ x E l',RT polSl 70 (sub [1,1,0,0,0,1,1,1,1,1,1] B70) (env70 (.sl db 0 n cap n 1) (.int .i64 (a:Int)) (.int .i64 (b:Int)) (.int .i64 lim) (.func 64 [] []) (.bool bal) (.bool par) (.int .i64 (k:Int)) (.int .i64 (p:Int)) (.int .i64 h) Ud Ud Ud Ud Ud Ud) (Mm enc H db l []) x E (Mm enc H db l' [])∧Out enc lt dom H db n cap a b l x E l':=by
  have hn:=S.nb
  have on:∀ (l3:List α),Sw a b l l3 → RT polSl 70 (sub [1,1,0,0,0,1,1,1,1,1,1,0] B70) (env70 (.sl db 0 n cap n 1) (.int .i64 (a:Int)) (.int .i64 (b:Int)) (.int .i64 lim) (.func 64 [] []) (.bool bal) (.bool par) (.int .i64 (k:Int)) (.int .i64 (p:Int)) (.int .i64 h) Ud Ud Ud Ud Ud Ud) (Mm enc H db l []) .normal (env70 (.sl db 0 n cap n 1) (.int .i64 (a:Int)) (.int .i64 (b:Int)) (.int .i64 lim) (.func 64 [] []) (.bool bal) (.bool par) (.int .i64 (k:Int)) (.int .i64 (p:Int)) (.int .i64 h) Ud Ud Ud Ud Ud Ud) (Mm enc H db l3 []) →
      ∃ x E l',RT polSl 70 (sub [1,1,0,0,0,1,1,1,1,1,1] B70) (env70 (.sl db 0 n cap n 1) (.int .i64 (a:Int)) (.int .i64 (b:Int)) (.int .i64 lim) (.func 64 [] []) (.bool bal) (.bool par) (.int .i64 (k:Int)) (.int .i64 (p:Int)) (.int .i64 h) Ud Ud Ud Ud Ud Ud) (Mm enc H db l []) x E (Mm enc H db l' [])∧Out enc lt dom H db n cap a b l x E l':=fun l3 w t1=>by
    obtain ⟨x,E,l',t,ho⟩:=pq_T S hL (cap:=cap) (k:=k) (bal:=bal) (par:=par) (h:=.int .i64 h) hd hp1 hp2 hb hk hl0 hl1 (sw_len w hl) (hD.sw w (by omega)) (hF.sw (by omega) w)
    exact ⟨x,E,l',sq t1 t (c:=sub [1,1,0,0,0,1,1,1,1,1,1] B70),Out.pre w ho⟩
  cases bal with
  | false=>exact on l .refl (pq_l_0 0 db n cap (Mm enc H db l []) 0 a b lim h)
  | true =>
    cases par with
    | false=>exact on l .refl (pq_k_0 0 db n cap (Mm enc H db l []) 0 a b lim h)
    | true =>
      by_cases c:h=1
      · obtain ⟨bb,l3,hc3,w1,w2⟩:=pin_ok S hL (cap:=cap) (T:=[]) rfl (a:=a) (by omega) hb hl hD hF
        obtain ⟨N3,hN3⟩:=hc3.from
        cases bb with
        | true =>
          have t1:=pq_j_0 N3 db n cap (Mm enc H db l []) 0 a b lim h (y12:=.int .i64 (k:Int)) (y13:=.int .i64 (p:Int)) (y15:=Ud) (y16:=Ud) (y17:=Ud) (y18:=Ud) (y19:=Ud) (y20:=Ud) c hN3
          exact ⟨_,_,l3,sqo t1 (c:=sub [1,1,0,0,0,1,1,1,1,1,1] B70) (b:=sub [1,1,0,0,0,1,1,1,1,1,1,1] B70),w1,.inl ⟨rfl,w2 rfl⟩⟩
        | false=>exact on l3 w1 (pq_j_1 N3 db n cap (Mm enc H db l []) 0 a b lim h c hN3)
      · exact on l .refl (pq_j_2 0 db n cap (Mm enc H db l []) 0 a b lim h c)
theorem pq_V (S:So enc lt dom H db n) (hL:Lin lt) {a b k p:Nat} {lim h:Int} {bal par:Bool} (hd:PdqOk enc lt dom H db n cap (b - a)) (hp1:a ≤ p) (hp2:p < b) (hb:b ≤ n) (hk:k ≤ n) (hl0:0 ≤ lim) (hl1:lim ≤ 1000) {l:List α} (hl:l.length=n) (hD:Dm dom l) (hF:Flo lt a b l) :
    ∃ x E l',RT polSl 70 (sub [1,1,0,0,0,1,1,1,1,1] B70) (env70 (.sl db 0 n cap n 1) (.int .i64 (a:Int)) (.int .i64 (b:Int)) (.int .i64 lim) (.func 64 [] []) (.bool bal) (.bool par) (.int .i64 (k:Int)) (.int .i64 (p:Int)) (.int .i64 h) Ud Ud Ud Ud Ud Ud) (Mm enc H db l []) x E (Mm enc H db l' [])∧Out enc lt dom H db n cap a b l x E l':=by
  have hn:=S.nb
  by_cases c:h=2
  · obtain ⟨l2,hc2,w⟩:=rvs_ok S (cap:=cap) (T:=[]) (a:=a) (b:=b) (by omega) hb hl
    obtain ⟨N2,hN2⟩:=hc2.from
    have t1:=pq_i_0 N2 db n cap (Mm enc H db l []) 0 a b lim p h (y10:=.bool bal) (y11:=.bool par) (y12:=.int .i64 (k:Int)) (y15:=Ud) (y16:=Ud) (y17:=Ud) (y18:=Ud) (y19:=Ud) (y20:=Ud) c hN2
    have e1:IntKind.i64.wrap ((b:Int) - 1)=((b - 1:Nat):Int):=wrap_pred (by omega) (by omega)
    have e2:IntKind.i64.wrap ((p:Int) - (a:Int))=((p - a:Nat):Int):=(by rw [wrap_id (by omega) (by omega)]; omega)
    have e3:IntKind.i64.wrap (((b - 1:Nat):Int) - ((p - a:Nat):Int))=((b - 1 - (p - a):Nat):Int):=(by rw [wrap_id (by omega) (by omega)]; omega)
    rw [e1,e2,e3] at t1
    obtain ⟨x,E,l',t,ho⟩:=pq_U S hL (cap:=cap) (k:=k) (p:=b - 1 - (p - a)) (bal:=bal) (par:=par) (h:=1) hd (by omega) (by omega) hb hk hl0 hl1 (sw_len w hl) (hD.sw w (by omega)) (hF.sw (by omega) w)
    exact ⟨x,E,l',sq t1 t (c:=sub [1,1,0,0,0,1,1,1,1,1] B70),Out.pre w ho⟩
  · have t1:=pq_i_1 0 db n cap (Mm enc H db l []) 0 a b lim p h (y10:=.bool bal) (y11:=.bool par) (y12:=.int .i64 (k:Int)) (y15:=Ud) (y16:=Ud) (y17:=Ud) (y18:=Ud) (y19:=Ud) (y20:=Ud) c
    obtain ⟨x,E,l',t,ho⟩:=pq_U S hL (cap:=cap) (k:=k) (p:=p) (bal:=bal) (par:=par) (h:=h) hd hp1 hp2 hb hk hl0 hl1 hl hD hF
    exact ⟨x,E,l',sq t1 t (c:=sub [1,1,0,0,0,1,1,1,1,1] B70),ho⟩
theorem pq_B (S:So enc lt dom H db n) (hL:Lin lt) {a b:Nat} {lim:Int} {bal par:Bool} (hd:PdqOk enc lt dom H db n cap (b - a)) (hab:a ≤ b) (hb:b ≤ n) (hl0:0 ≤ lim) (hl1:lim ≤ 1000) {l:List α} (hl:l.length=n) (hD:Dm dom l) (hF:Flo lt a b l) :
    ∃ x E l',RT polSl 70 (sub [1,1,0,0,0] B70) (env70 (.sl db 0 n cap n 1) (.int .i64 (a:Int)) (.int .i64 (b:Int)) (.int .i64 lim) (.func 64 [] []) (.bool bal) (.bool par) Ud Ud Ud Ud Ud Ud Ud Ud Ud) (Mm enc H db l []) x E (Mm enc H db l' [])∧Out enc lt dom H db n cap a b l x E l':=by
  have hn:=S.nb
  have t0:=pq_c_0 0 db n cap (Mm enc H db l []) 0 a b lim (y10:=.bool bal) (y11:=.bool par) (y12:=Ud) (y13:=Ud) (y14:=Ud) (y15:=Ud) (y16:=Ud) (y17:=Ud) (y18:=Ud) (y19:=Ud) (y20:=Ud)
  have e0:IntKind.i64.wrap ((b:Int) - (a:Int))=((b - a:Nat):Int):=(by rw [wrap_id (by omega) (by omega)]; omega)
  rw [e0] at t0
  by_cases c1:b - a ≤ 12
  · obtain ⟨l',hc,w1,w2⟩:=ins_ok S hL (cap:=cap) (T:=[]) rfl hab hb hl hD
    obtain ⟨N1,hN1⟩:=hc.from
    have t1:=pq_d_0 N1 db n cap (Mm enc H db l []) 0 a b lim (b - a) (y10:=.bool bal) (y11:=.bool par) (y13:=Ud) (y14:=Ud) (y15:=Ud) (y16:=Ud) (y17:=Ud) (y18:=Ud) (y19:=Ud) (y20:=Ud) (by omega) hN1
    exact ⟨_,_,l',sq (t0) (sqo (t1) (c:=sub [1,1,0,0,0,1] B70) (b:=sub [1,1,0,0,0,1,1] B70)) (c:=sub [1,1,0,0,0] B70),w1,.inl ⟨rfl,w2⟩⟩
  have t1:=pq_d_1 0 db n cap (Mm enc H db l []) 0 a b lim (b - a) (y10:=.bool bal) (y11:=.bool par) (y13:=Ud) (y14:=Ud) (y15:=Ud) (y16:=Ud) (y17:=Ud) (y18:=Ud) (y19:=Ud) (y20:=Ud) (by omega)
  by_cases c2:lim=0
  · obtain ⟨l',hc,w1,w2⟩:=heap_ok S hL (cap:=cap) (T:=[]) rfl (a:=a) (by omega) hb hl hD
    obtain ⟨N1,hN1⟩:=hc.from
    have t2:=pq_e_0 N1 db n cap (Mm enc H db l []) 0 a b lim (y10:=.bool bal) (y11:=.bool par) (y12:=.int .i64 ((b - a:Nat):Int)) (y13:=Ud) (y14:=Ud) (y15:=Ud) (y16:=Ud) (y17:=Ud) (y18:=Ud) (y19:=Ud) (y20:=Ud) c2 hN1
    exact ⟨_,_,l',sq (t0) (sq (t1) (sqo (t2) (c:=sub [1,1,0,0,0,1,1] B70) (b:=sub [1,1,0,0,0,1,1,1] B70)) (c:=sub [1,1,0,0,0,1] B70)) (c:=sub [1,1,0,0,0] B70),w1,.inl ⟨rfl,w2⟩⟩
  have t2:=pq_e_1 0 db n cap (Mm enc H db l []) 0 a b lim (y10:=.bool bal) (y11:=.bool par) (y12:=.int .i64 ((b - a:Nat):Int)) (y13:=Ud) (y14:=Ud) (y15:=Ud) (y16:=Ud) (y17:=Ud) (y18:=Ud) (y19:=Ud) (y20:=Ud) c2
  have on:∀ (lim1:Int) (l1:List α),0 ≤ lim1 → lim1 ≤ 1000 → Sw a b l l1 → RT polSl 70 (sub [1,1,0,0,0,1,1,1,0] B70) (env70 (.sl db 0 n cap n 1) (.int .i64 (a:Int)) (.int .i64 (b:Int)) (.int .i64 lim) (.func 64 [] []) (.bool bal) (.bool par) (.int .i64 ((b - a:Nat):Int)) Ud Ud Ud Ud Ud Ud Ud Ud) (Mm enc H db l []) .normal (env70 (.sl db 0 n cap n 1) (.int .i64 (a:Int)) (.int .i64 (b:Int)) (.int .i64 lim1) (.func 64 [] []) (.bool bal) (.bool par) (.int .i64 ((b - a:Nat):Int)) Ud Ud Ud Ud Ud Ud Ud Ud) (Mm enc H db l1 []) →
      ∃ x E l',RT polSl 70 (sub [1,1,0,0,0] B70) (env70 (.sl db 0 n cap n 1) (.int .i64 (a:Int)) (.int .i64 (b:Int)) (.int .i64 lim) (.func 64 [] []) (.bool bal) (.bool par) Ud Ud Ud Ud Ud Ud Ud Ud Ud) (Mm enc H db l []) x E (Mm enc H db l' [])∧Out enc lt dom H db n cap a b l x E l':=fun lim1 l1 hq0 hq1 w t3=>by
    have hl1':=sw_len w hl
    have hD1:=hD.sw w (by omega)
    obtain ⟨p,h,hc,p1,p2⟩:=piv_ok S (cap:=cap) (a:=a) (b:=b) (by omega) hb hl1' hD1
    obtain ⟨N1,hN1⟩:=hc.from
    have t4:=pq_h_0 N1 db n cap (Mm enc H db l1 []) 0 a b lim1 (y10:=.bool bal) (y11:=.bool par) (y12:=.int .i64 ((b - a:Nat):Int)) (y13:=Ud) (y14:=Ud) (y15:=Ud) (y16:=Ud) (y17:=Ud) (y18:=Ud) (y19:=Ud) (y20:=Ud) hN1
    obtain ⟨x,E,l',t,ho⟩:=pq_V S hL (cap:=cap) (k:=b - a) (p:=p) (bal:=bal) (par:=par) (h:=h) hd p1 p2 hb (by omega) hq0 hq1 hl1' hD1 (hF.sw (by omega) w)
    have t5:=sq t4 t (c:=sub [1,1,0,0,0,1,1,1,1] B70)
    have t6:=sq t3 t5 (c:=sub [1,1,0,0,0,1,1,1] B70)
    have t7:=sq t2 t6 (c:=sub [1,1,0,0,0,1,1] B70)
    have t8:=sq t1 t7 (c:=sub [1,1,0,0,0,1] B70)
    exact ⟨x,E,l',sq t0 t8 (c:=sub [1,1,0,0,0] B70),Out.pre w ho⟩
  cases bal with
  | true=>exact on lim l hl0 hl1 .refl (pq_f_0 0 db n cap (Mm enc H db l []) 0 a b lim)
  | false =>
    obtain ⟨l1,hc,w⟩:=brk_ok S (cap:=cap) (a:=a) (b:=b) (by omega) hb hl
    obtain ⟨N1,hN1⟩:=hc.from
    have t3:=pq_g_0 N1 db n cap (Mm enc H db l []) 0 a b lim (y11:=.bool par) (y12:=.int .i64 ((b - a:Nat):Int)) (y13:=Ud) (y14:=Ud) (y15:=Ud) (y16:=Ud) (y17:=Ud) (y18:=Ud) (y19:=Ud) (y20:=Ud) hN1
    rw [wrap_id (n:=lim - 1) (by omega) (by omega)] at t3
    exact on (lim - 1) l1 (by omega) (by omega) w t3
theorem pq_loop (S:So enc lt dom H db n) (hL:Lin lt):∀ (d:Nat) (a b:Nat) (lim:Int) (bal par:Bool) (l:List α),b - a < d → PdqOk enc lt dom H db n cap (b - a) → a ≤ b → b ≤ n → 0 ≤ lim → lim ≤ 1000 → l.length=n → Dm dom l → Flo lt a b l →
    ∃ E l',RT polSl 70 (sub [1,1,0] B70) (env70 (.sl db 0 n cap n 1) (.int .i64 (a:Int)) (.int .i64 (b:Int)) (.int .i64 lim) (.func 64 [] []) (.bool bal) (.bool par) Ud Ud Ud Ud Ud Ud Ud Ud Ud) (Mm enc H db l []) .ret E (Mm enc H db l' [])∧Sw a b l l'∧Sorted lt a b l':=by
  have hn:=S.nb
  intro d
  induction d with
  | zero=>intro a b lim bal par l hd; omega
  | succ d ih =>
    intro a b lim bal par l hd hP hab hb h0 h1 hl hD hF
    obtain ⟨x,E,l1,t,w,ho⟩:=pq_B S hL (cap:=cap) (bal:=bal) (par:=par) hP hab hb h0 h1 hl hD hF
    rcases ho with ⟨rfl,hs⟩ | ⟨hx,a',b',lim',bal',par',y2,y3,y4,y5,y6,y7,y8,y9,y10,rfl,q1,q2,q3,q4,q5,q6,q7,q8⟩
    · exact ⟨_,l1,lpo (RunsTo.block_ret (i:=1) (c:=sub [1,1,0,0] B70) t (by kernel_rfl)),w,hs⟩
    · have st:RT polSl 70 (sub [1,1,0,0] B70) (env70 (.sl db 0 n cap n 1) (.int .i64 (a:Int)) (.int .i64 (b:Int)) (.int .i64 lim) (.func 64 [] []) (.bool bal) (.bool par) Ud Ud Ud Ud Ud Ud Ud Ud Ud) (Mm enc H db l []) .normal (env70 (.sl db 0 n cap n 1) (.int .i64 (a':Int)) (.int .i64 (b':Int)) (.int .i64 lim') (.func 64 [] []) (.bool bal') (.bool par') y2 y3 y4 y5 y6 y7 y8 y9 y10) (Mm enc H db l1 []):=by
        rcases hx with rfl | rfl
        · exact RunsTo.block_normal (i:=1) t (by kernel_rfl)
        · exact bke t
      have hl1:=sw_len w hl
      obtain ⟨E,l2,r,v1,v2⟩:=ih a' b' lim' bal' par' l1 (by omega) (fun a2 b2 lim2 l2 g1=>hP a2 b2 lim2 l2 (by omega)) q3 (by omega) q5 q6 hl1 (hD.sw w (by omega)) q7
      exact ⟨E,l2,lop (st) (gcM _ _ _ _ _ rfl) (r),w.trans (v1.mono q2 q4),q8 l2 v1 v2⟩
theorem pdq_of (S:So enc lt dom H db n) (hL:Lin lt) {a b:Nat} {lim:Int} {l:List α} (hP:PdqOk enc lt dom H db n cap (b - a)) (hab:a ≤ b) (hb:b ≤ n) (h0:0 ≤ lim) (h1:lim ≤ 1000) (hl:l.length=n) (hD:Dm dom l) (hF:Flo lt a b l) :
    ∃ l',ClL 70 [.sl db 0 n cap n 1,.int .i64 (a:Int),.int .i64 (b:Int),.int .i64 lim,.func 64 [] []] (Mm enc H db l []) (.tuple []) (Mm enc H db l' [])∧Sw a b l l'∧Sorted lt a b l':=by
  obtain ⟨E,l',r,q⟩:=pq_loop S hL (cap:=cap) _ a b lim true true l (Nat.lt_succ_self _) hP hab hb h0 h1 hl hD hF
  have t0:=pq_a_0 0 db n cap (Mm enc H db l []) 0 a b lim
  have t1:=pq_b_0 0 db n cap (Mm enc H db l []) 0 a b lim (y10:=.bool true) (y11:=Ud) (y12:=Ud) (y13:=Ud) (y14:=Ud) (y15:=Ud) (y16:=Ud) (y17:=Ud) (y18:=Ud) (y19:=Ud) (y20:=Ud)
  have t:=sq (t0) (sq (t1) (RunsTo.block_ret (i:=0) (c:=sub [1,1] B70) (r) (by kernel_rfl)) (c:=sub [1] B70)) (c:=B70)
  have hc:=CallsTo.shared (P:=Tp) (pol:=polSl) (g:=70) (fn:=Try.f70) (cd:=B70) (args:=[.sl db 0 n cap n 1,.int .i64 (a:Int),.int .i64 (b:Int),.int .i64 lim,.func 64 [] []]) (v:=.tuple []) (by kernel_rfl) (by kernel_rfl) (by kernel_rfl) (by kernel_rfl) t (by kernel_rfl) (by simp) (by kernel_rfl)
  rw [gcM _ _ _ _ _ rfl] at hc
  exact ⟨l',hc,q⟩
theorem pdq_all (S:So enc lt dom H db n) (hL:Lin lt):∀ d,PdqOk enc lt dom H db n cap d
  | 0,_,_,_,_,h=>by omega
  | d+1,a,b,lim,l,h=>fun hab hb h0 h1 hl hD hF=>pdq_of S hL (fun a2 b2 lim2 l2 g=>pdq_all S hL d a2 b2 lim2 l2 (by omega)) hab hb h0 h1 hl hD hF
theorem pdq_ok (S:So enc lt dom H db n) (hL:Lin lt) {lim:Int} (h0:0 ≤ lim) (h1:lim ≤ 1000) {l:List α} (hl:l.length=n) (hD:Dm dom l) :
    ∃ l',ClL 70 [.sl db 0 n cap n 1,.int .i64 0,.int .i64 (n:Int),.int .i64 lim,.func 64 [] []] (Mm enc H db l []) (.tuple []) (Mm enc H db l' [])∧l'.Perm l∧Sorted lt 0 n l':=by
  obtain ⟨l',hc,w,hs⟩:=pdq_all S hL (cap:=cap) (n+1) 0 n lim l (by omega) (Nat.zero_le _) (Nat.le_refl _) h0 h1 hl hD (fun h=>by omega)
  exact ⟨l',hc,w.perm (by omega),hs⟩
end
end Go.Proofs.Ytaibmipamkaljaa
end
section
open Go Go.HL
namespace Go.Proofs.Ytaibmipamkaljaa
def atT (l:List Int) (v:Int):Int:=if v < (l.length:Int) then l.getD v.toNat 0 else 0
def at31:List HV → Option HV:=lnF fun l v=>if 0 ≤ v then some (.int .i64 (atT l v)) else none
def grpA (l:List Int):Int:=2+modW (atT l 1) 11
def grpB (l:List Int):Int:=1+modW (atT l 2) (max 1 (min (24 / grpA l) (144 / (grpA l * grpA l))))
def grpT (l:List Int):List Int:=if l.length < 1 ∨ modW (l.getD 0 0) 2=0 then [2+modW (atT l 1) 23] else [grpA l,grpA l * grpB l]
def group23:List HV → Option HV:=liF fun l=>some (.own 1 ((grpT l).map encI))
end Go.Proofs.Ytaibmipamkaljaa
end
section
open Go Go.HL
namespace Go.Proofs.Ytaibmipamkaljaa
set_option maxRecDepth 100000
open Go.Proofs.Try renaming prog → Tp
open Go.HL.HV renaming undef → Ud
noncomputable def B31:Code:=Try.f31.body.getD .skip
abbrev env31 (v0 v1 v4:HV):Env:=[(0,v0),(1,v1),(4,v4)]
theorem at_0 (l:List HV) (v:Int) (x0:Int) (g0:v < (l.length:Int)) (g1:idxV Tp 22 (.a l) (.i v)=some (.vptr (.i x0))):RT pol 31 (sub [] B31) [(0,.a l),(1,.i v)] [] .ret (env31 (.a l) (.i v) (.i x0)) [] :=
  RunsTo.hin 0 60 [⟨1,3,.bool true,[]⟩,⟨2,2,.vptr (.i x0),[]⟩] fun kf hk=>⟨_,by kernel_rfl,(oB [] (decide_eq_true g0) (oP [] g1 .nil))⟩
theorem at_1 (l:List HV) (v:Int)(g0:¬ (v < (l.length:Int))):RT pol 31 (sub [] B31) [(0,.a l),(1,.i v)] [] .ret (env31 (.a l) (.i v) (.i 0)) [] :=
  RunsTo.hin 0 60 [⟨1,3,.bool false,[]⟩] fun kf hk=>⟨_,by kernel_rfl,(oB [] (decide_eq_false g0) .nil)⟩
theorem res31:Try.f31.results.toList=[.tmp 4]:=by kernel_rfl
theorem at_ok:PrimOk Tp 31 at31:=by
  refine primOk_pure (pol:=pol) (fn:=Try.f31) (cd:=B31) follows_mixed sound (by kernel_rfl) (by kernel_rfl) (fnok pol.prim _ _ (by kernel_rfl)) (by kernel_rfl) ?_
  intro args res h
  obtain ⟨l,v,rfl,hq⟩:=lnF_inv h
  clear h
  split at hq
  case isFalse=>cases hq
  rename_i hv
  cases hq
  by_cases c:v < (l.length:Int)
  · refine ⟨_,_,_,.int .i64 (l.getD v.toNat 0),at_0 (l.map encI) v (l.getD v.toNat 0) (by rw [List.length_map]; exact c) (gxi hv (by omega)),by simp,by simp only [resultsV,res31]; rfl,?_⟩
    rw [atT,if_pos c]; rfl
  · refine ⟨_,_,_,.int .i64 0,at_1 (l.map encI) v (by rw [List.length_map]; exact c),by simp,by simp only [resultsV,res31]; rfl,?_⟩
    rw [atT,if_neg c]; rfl
def polA:Pol:={ pol with prim:=fun g=>if g == 30 then some modF else if g == 31 then some at31 else none }
theorem soundA (n:Nat):CallSound Tp (callN Tp polA n):=sound_prim _ (fun g f h=>by
  split at h
  · rename_i hg; cases h; rw [eq_of_beq hg]; exact mod_ok
  split at h
  · rename_i hg; cases h; rw [eq_of_beq hg]; exact at_ok
  · cases h) n
theorem at_at {pol':Pol} (hp:pol'.prim 31=some at31) (l:List Int) {v:Int} (hv:0 ≤ v) (H:Heap):∀ k,callN Tp pol' (k+1) 31 [.imm .arg 1 (l.map encI),.int .i64 v] H=some (.int .i64 (atT l v),H):=fun k=>by
  have hX:=arg_li H l
  have hN:toArg H 6 (.int .i64 v)=some (.int .i64 v):=rfl
  have hd:mapO decI (l.map encI)=some l:=mapO_map decI_enc l
  rw [prim_call (pol:=pol') (g:=31) (F:=at31) hp (rs:=[.imm .arg 1 (l.map encI),.int .i64 v]) (by simp only [mapO,hX,hN]) (res:=.int .i64 (atT l v)) (by simp only [at31,lnF,hd,if_pos hv])]
  rfl
theorem mod_at {pol':Pol} (hp:pol'.prim 30=some modF) (a:Int) {n:Int} (h0:0 < n) (h1:n < 9223372036854775808) (H:Heap):∀ k,callN Tp pol' (k+1) 30 [.int .i64 a,.int .i64 n] H=some (.int .i64 (modW a n),H):=fun k=>by
  rw [prim_call (pol:=pol') (g:=30) (F:=modF) hp (rs:=[.int .i64 a,.int .i64 n]) rfl (res:=.int .i64 (modW a n)) (by simp only [modF]; rw [if_pos ⟨h0,h1⟩])]
  rfl
theorem quo3 {a b:Int} (hb:b ≠ 0):binV Tp .quo 3 (.int .i64 a) (.int .i64 b)=some (.int .i64 (IntKind.i64.wrap (a.tdiv b))):=by
  simp only [binV,intBin,if_neg hb,if_true]
theorem grpA_bnd (l:List Int):2 ≤ grpA l∧grpA l ≤ 12:=by
  have:=modW_bounds (atT l 1) 11 (by omega) (by omega)
  unfold grpA; omega
theorem div_bnd {a k:Int} (h:0 < k) (ha:0 ≤ a):0 ≤ a / k∧a / k ≤ a:=⟨Int.ediv_nonneg ha (by omega),Int.ediv_le_self _ ha⟩
theorem grpM_bnd (l:List Int):1 ≤ max 1 (min (24 / grpA l) (144 / (grpA l * grpA l)))∧max 1 (min (24 / grpA l) (144 / (grpA l * grpA l))) ≤ 24:=by
  have:=grpA_bnd l
  have:=(div_bnd (a:=24) (k:=grpA l) (by omega) (by omega)).2
  omega
theorem grpB_bnd (l:List Int):1 ≤ grpB l∧grpB l ≤ 24:=by
  have h1:=grpM_bnd l
  have:=modW_bounds (atT l 2) (max 1 (min (24 / grpA l) (144 / (grpA l * grpA l)))) (by omega) (by omega)
  unfold grpB; omega
noncomputable def B23:Code:=Try.f23.body.getD .skip
abbrev env23 (v0 v2 v3 v4:HV):Env:=[(0,v0),(2,v2),(3,v3),(4,v4)]
theorem gp_0 (l:List HV) (av0:Int) (md0:Int) (g0:(l.length:Int) < 1) (g1:∀ kf,callN Tp polA (kf+1) 31 [.a l,.i 1] []=some (.i av0,[])) (g2:∀ kf,callN Tp polA (kf+1) 30 [.i av0,.i 23] []=some (.i md0,[])):RT polA 23 (sub [] B23) [(0,.a l)] [] .ret (env23 (.a l) (.o 0 1) Ud Ud) [.arr 1 [.i (IntKind.i64.wrap (2+md0))] true 0] :=
  RunsTo.hin 0 60 [⟨1,2,.bool true,[]⟩,⟨2,1,.i av0,[]⟩,⟨2,2,.i md0,[]⟩] fun kf hk=>⟨_,by kernel_rfl,(oB [] (decide_eq_true g0) (oC (g1 kf) (oC (g2 kf) .nil)))⟩
theorem gp_1 (l:List HV) (x0:Int) (md0:Int) (av0:Int) (md1:Int) (g0:¬ ((l.length:Int) < 1)) (g1:idxV Tp 22 (.a l) (.i 0)=some (.vptr (.i x0))) (g2:∀ kf,callN Tp polA (kf+1) 30 [.i x0,.i 2] []=some (.i md0,[])) (g3:md0=0) (g4:∀ kf,callN Tp polA (kf+1) 31 [.a l,.i 1] []=some (.i av0,[])) (g5:∀ kf,callN Tp polA (kf+1) 30 [.i av0,.i 23] []=some (.i md1,[])):RT polA 23 (sub [] B23) [(0,.a l)] [] .ret (env23 (.a l) (.o 0 1) Ud Ud) [.arr 1 [.i (IntKind.i64.wrap (2+md1))] true 0] :=
  RunsTo.hin 0 60 [⟨1,2,.bool false,[]⟩,⟨1,5,.vptr (.i x0),[]⟩,⟨1,7,.i md0,[]⟩,⟨1,8,.bool true,[]⟩,⟨2,1,.i av0,[]⟩,⟨2,2,.i md1,[]⟩] fun kf hk=>⟨_,by kernel_rfl,(oB [] (decide_eq_false g0) (oP [] g1 (oC (g2 kf) (oB [] (decide_eq_true g3) (oC (g4 kf) (oC (g5 kf) .nil))))))⟩
theorem gp_2 (l:List HV) (x0:Int) (md0:Int) (av0:Int) (md1:Int) (av1:Int) (md2:Int) (g0:¬ ((l.length:Int) < 1)) (g1:idxV Tp 22 (.a l) (.i 0)=some (.vptr (.i x0))) (g2:∀ kf,callN Tp polA (kf+1) 30 [.i x0,.i 2] []=some (.i md0,[])) (g3:¬ (md0=0)) (g4:∀ kf,callN Tp polA (kf+1) 31 [.a l,.i 1] []=some (.i av0,[])) (g5:∀ kf,callN Tp polA (kf+1) 30 [.i av0,.i 11] []=some (.i md1,[])) (g6:∀ kf,callN Tp polA (kf+1) 31 [.a l,.i 2] []=some (.i av1,[])) (g7:binV Tp .quo 3 (.i 24) (.i (IntKind.i64.wrap (2+md1)))=some (.i (IntKind.i64.wrap ((24:Int).tdiv (IntKind.i64.wrap (2+md1)))))) (g8:binV Tp .quo 3 (.i 144) (.i (IntKind.i64.wrap (IntKind.i64.wrap (2+md1) * IntKind.i64.wrap (2+md1))))=some (.i (IntKind.i64.wrap ((144:Int).tdiv (IntKind.i64.wrap (IntKind.i64.wrap (2+md1) * IntKind.i64.wrap (2+md1))))))) (g9:∀ kf,callN Tp polA (kf+1) 30 [.i av1,.i (max 1 (min (IntKind.i64.wrap ((24:Int).tdiv (IntKind.i64.wrap (2+md1)))) (IntKind.i64.wrap ((144:Int).tdiv (IntKind.i64.wrap (IntKind.i64.wrap (2+md1) * IntKind.i64.wrap (2+md1)))))))] []=some (.i md2,[])):RT polA 23 (sub [] B23) [(0,.a l)] [] .ret (env23 (.a l) (.o 0 2) (.i (IntKind.i64.wrap (2+md1))) (.i (IntKind.i64.wrap (1+md2)))) [.arr 1 [.i (IntKind.i64.wrap (2+md1)),.i (IntKind.i64.wrap (IntKind.i64.wrap (2+md1) * IntKind.i64.wrap (1+md2)))] true 0] :=
  RunsTo.hin 0 60 [⟨1,2,.bool false,[]⟩,⟨1,5,.vptr (.i x0),[]⟩,⟨1,7,.i md0,[]⟩,⟨1,8,.bool false,[]⟩,⟨3,1,.i av0,[]⟩,⟨3,2,.i md1,[]⟩,⟨4,1,.i av1,[]⟩,⟨4,3,.i (IntKind.i64.wrap ((24:Int).tdiv (IntKind.i64.wrap (2+md1)))),[]⟩,⟨4,7,.i (IntKind.i64.wrap ((144:Int).tdiv (IntKind.i64.wrap (IntKind.i64.wrap (2+md1) * IntKind.i64.wrap (2+md1))))),[]⟩,⟨4,10,.i md2,[]⟩] fun kf hk=>⟨_,by kernel_rfl,(oB [] (decide_eq_false g0) (oP [] g1 (oC (g2 kf) (oB [] (decide_eq_false g3) (oC (g4 kf) (oC (g5 kf) (oC (g6 kf) (oP [] g7 (oP [] g8 (oC (g9 kf) .nil))))))))))⟩
theorem res23:Try.f23.results.toList=[.tmp 2]:=by kernel_rfl
theorem group_ok:PrimOk Tp 23 group23:=by
  refine primOk_pure (pol:=polA) (fn:=Try.f23) (cd:=B23) follows_mixed soundA (by kernel_rfl) (by kernel_rfl) (fnok polA.prim _ _ (by kernel_rfl)) (by kernel_rfl) ?_
  intro args res h
  obtain ⟨l,rfl,hq⟩:=liF_inv h
  clear h
  cases hq
  have a1:=at_at (pol':=polA) (by kernel_rfl) l (v:=1) (by omega) []
  have a2:=at_at (pol':=polA) (by kernel_rfl) l (v:=2) (by omega) []
  have m23:=mod_at (pol':=polA) (by kernel_rfl) (atT l 1) (n:=23) (by omega) (by omega) []
  have b23:=modW_bounds (atT l 1) 23 (by omega) (by omega)
  have w23:IntKind.i64.wrap (2+modW (atT l 1) 23)=2+modW (atT l 1) 23:=wrap_id (by omega) (by omega)
  by_cases c:l.length < 1
  · have s:=gp_0 (l.map encI) _ _ (by rw [List.length_map]; omega) a1 m23
    rw [w23] at s
    refine ⟨_,_,_,.sl 0 0 1 (some 1) 1 1,s,by simp,by simp only [resultsV,res23]; rfl,?_⟩
    have e:grpT l=[2+modW (atT l 1) 23]:=by rw [grpT,if_pos (.inl c)]
    rw [e]; rfl
  · have m2:=mod_at (pol':=polA) (by kernel_rfl) (l.getD 0 0) (n:=2) (by omega) (by omega) []
    have g0:=gxi (l:=l) (y:=0) (by omega) (by show 0 < l.length; omega)
    by_cases d:modW (l.getD 0 0) 2=0
    · have s:=gp_1 (l.map encI) _ _ _ _ (by rw [List.length_map]; omega) g0 m2 d a1 m23
      rw [w23] at s
      refine ⟨_,_,_,.sl 0 0 1 (some 1) 1 1,s,by simp,by simp only [resultsV,res23]; rfl,?_⟩
      have e:grpT l=[2+modW (atT l 1) 23]:=by rw [grpT,if_pos (.inr d)]
      rw [e]; rfl
    · have m11:=mod_at (pol':=polA) (by kernel_rfl) (atT l 1) (n:=11) (by omega) (by omega) []
      obtain ⟨hA1,hA2⟩:=grpA_bnd l
      obtain ⟨hB1,hB2⟩:=grpB_bnd l
      obtain ⟨hM1,hM2⟩:=grpM_bnd l
      have wA:IntKind.i64.wrap (2+modW (atT l 1) 11)=grpA l:=wrap_id (by unfold grpA at *; omega) (by unfold grpA at *; omega)
      have hAA:4 ≤ grpA l * grpA l∧grpA l * grpA l ≤ 144:=⟨Int.mul_le_mul hA1 hA1 (by omega) (by omega),Int.mul_le_mul hA2 hA2 (by omega) (by omega)⟩
      have wAA:IntKind.i64.wrap (grpA l * grpA l)=grpA l * grpA l:=wrap_id (by omega) (by omega)
      have t24:(24:Int).tdiv (grpA l)=24 / grpA l:=Int.tdiv_eq_ediv_of_nonneg (by omega)
      have t144:(144:Int).tdiv (grpA l * grpA l)=144 / (grpA l * grpA l):=Int.tdiv_eq_ediv_of_nonneg (by omega)
      have k1:=div_bnd (a:=24) (k:=grpA l) (by omega) (by omega)
      have k2:=div_bnd (a:=144) (k:=grpA l * grpA l) (by omega) (by omega)
      have w24:IntKind.i64.wrap (24 / grpA l)=24 / grpA l:=wrap_id (by omega) (by omega)
      have w144:IntKind.i64.wrap (144 / (grpA l * grpA l))=144 / (grpA l * grpA l):=wrap_id (by omega) (by omega)
      have mB:=mod_at (pol':=polA) (by kernel_rfl) (atT l 2) (n:=max 1 (min (24 / grpA l) (144 / (grpA l * grpA l)))) (by omega) (by omega) []
      have wB:IntKind.i64.wrap (1+modW (atT l 2) (max 1 (min (24 / grpA l) (144 / (grpA l * grpA l)))))=grpB l:=wrap_id (by unfold grpB at *; omega) (by unfold grpB at *; omega)
      have hAB:0 ≤ grpA l * grpB l∧grpA l * grpB l ≤ 12 * 24:=⟨Int.mul_nonneg (by omega) (by omega),Int.mul_le_mul hA2 hB2 (by omega) (by omega)⟩
      have wAB:IntKind.i64.wrap (grpA l * grpB l)=grpA l * grpB l:=wrap_id (by omega) (by omega)
      have s:=gp_2 (l.map encI) _ (modW (l.getD 0 0) 2) (atT l 1) (modW (atT l 1) 11) (atT l 2) (modW (atT l 2) (max 1 (min (24 / grpA l) (144 / (grpA l * grpA l))))) (by rw [List.length_map]; omega) g0 m2 d a1 m11 a2 (by rw [wA]; exact quo3 (by omega)) (by rw [wA,wAA]; exact quo3 (by omega)) (by rw [wA,wAA,t24,t144,w24,w144]; exact mB)
      rw [wA,wB,wAB] at s
      refine ⟨_,_,_,.sl 0 0 2 (some 2) 2 1,s,by simp,by simp only [resultsV,res23]; rfl,?_⟩
      have e:grpT l=[grpA l,grpA l * grpB l]:=by rw [grpT,if_neg (by rintro (h | h); exact c h; exact d h)]
      rw [e]; rfl
end Go.Proofs.Ytaibmipamkaljaa
end
section
open Go Go.HL
namespace Go.Proofs.Ytaibmipamkaljaa
theorem lit_seal' {P:Program} {H:Heap} {t e k b p mx bt:Nat} {zv:HV} {els:List HV} (ht:P.underlying t=some (.slice e)) (hI:(P.info? e).map (fun i=>(i.size,i.bytes,i.zero.map ofConst))=some (1,bt,some zv)) (hc:(cellsOf zv).all cellV=true) (hs:(cellsOf zv).length=1)
    (hb:H[b]?=some (.arr k els true mx)) (hp:els.length=p) (hr:resPL els=true) :
    ∃ w,litV P true false t 1 [(0,.sl b 0 p none p k)] H=some (.imm .lit 1 [.imm .own k els],H.set b (.arr k els w mx)):=by
  by_cases h0:p=0
  · subst h0
    have hn:els=[]:=List.length_eq_zero_iff.1 hp
    subst hn
    refine ⟨true,?_⟩
    have hH:H.set b (.arr k [] true mx)=H:=by
      apply List.ext_getElem?
      intro i
      rw [List.getElem?_set]
      split
      · rename_i hi
        subst hi
        split
        · exact hb.symm
        · rename_i hlt; exact absurd (lt_of_get hb) hlt
      · rfl
    rw [hH]
    cases hi:P.info? e with
    | none=>rw [hi] at hI; cases hI
    | some i =>
      rw [hi] at hI
      simp only [Option.map_some,Option.some.injEq,Prod.mk.injEq] at hI
      obtain ⟨h1,rfl,hz⟩:=hI
      cases hz2:i.zero with
      | none=>rw [hz2] at hz; cases hz
      | some z =>
        rw [hz2] at hz
        simp only [Option.map_some,Option.some.injEq] at hz
        subst hz
        have hse:seals [.sl b 0 0 none 0 k] H=some ([.imm .own k []],H):=by simp only [seals,seal1,if_true]
        simp only [litV,ht,hi,hz2,if_true,List.map_cons,List.map_nil,hse,h1]
        rw [if_pos ⟨by omega,hs,hc,by omega,by simp [cellsOf,cellV],by simp⟩]
        simp [bndL,bnd]
  · exact ⟨false,lit_seal ht hI hc hs hb hp h0 hr⟩
theorem res_O (r:List Int):resP (encO r)=true:=by
  have:resPL (r.map encI)=true:=ints_res r
  simp only [encO,resP,this]; rfl
theorem frz_O {H:Heap} {no:List Nat} (r:List Int):frz H no 4 (encO r)=some (encO r):=by
  show (if resP (encO r) then some (encO r) else none)=_
  rw [res_O]; rfl
theorem encO_bnd:∀ (l:List (List Int)),bndL (l.map encO)=0
  | []=>rfl
  | e :: l=>by simp only [List.map_cons,bndL,encO,bnd,encO_bnd l]; rfl
theorem res_rs {H:Heap} {b k:Nat} {R:List (List Int)} (hb:H[b]?=some (.arr 1 (R.map encO) true 0)) (hk:R.length=k):toRes H false (.sl b 0 k none k 1)=some (.own 1 (R.map encO)):=by
  have hr:=resCell_sl (H:=H) (no:=[b]) (b:=b) (k:=1) (m:=k) (cap:=none) (els:=R.map encO) hb (by simpa using hk) (mapO_self (fun r=>frz_O r) _)
  have ho:ownedAll H false (.sl b 0 k none k 1)=[b]:=by simp [ownedAll,cellsOf,owned,hb]
  simp only [toRes,ho,List.nodup_cons,List.not_mem_nil,not_false_eq_true,List.nodup_nil,and_self,if_true,resVal,hr]
theorem app_O {H:Heap} {b:Nat} {R:List (List Int)} (hb:H[b]?=some (.arr 1 (R.map encO) true 0)) (hlen:R.length ≤ 1000) (r:List Int) :
    appV H 1 24 (.sl b 0 R.length none R.length 1) [encO r]=some (.sl b 0 (R.length+1) none (R.length+1) 1,H.set b (.arr 1 ((R ++ [r]).map encO) true 0)):=by
  have:=app_sl (H:=H) (k:=1) (bytes:=24) (b:=b) (n:=R.length) (mx:=0) (els:=R.map encO) (xs:=[encO r]) hb (by simp) (by simp) (by simp only [roomMax,List.length_singleton]; omega) (encO_bnd [r])
  rw [this]
  simp only [List.map_append,List.map_cons,List.map_nil,List.length_singleton]
def rowE (gl r:List Int):List Int:=(List.range gl.length).map fun (j:Nat)=>modW (atT r (j:Int)) (gl.getD j 0)
def rowsE (gl:List Int) (R:List (List Int)) (c:Int):List (List Int):=(R.take c.toNat).map (rowE gl)
def posG (gl:List Int):Bool:=gl.all fun v=>decide (0 < v∧v < 9223372036854775808)
def rowsF (f:List Int → List (List Int) → Int → Option HV):List HV → Option HV
  | [.imm .arg 1 la,.imm .arg 1 rw,.int .i64 c]=>(match mapO decI la,mapO decR rw with | some l,some R=>f l R c | _,_=>none)
  | _=>none
theorem rowsF_inv {f:List Int → List (List Int) → Int → Option HV} {args:List HV} {res:HV} (h:rowsF f args=some res):∃ l R c,args=[.imm .arg 1 (l.map encI),.imm .arg 1 (R.map encR),.int .i64 c]∧f l R c=some res:=by
  unfold rowsF at h
  split at h
  · rename_i la rw_ c
    split at h
    · rename_i l R hl hR
      exact ⟨l,R,c,by rw [mapO_inv decI_inv hl,mapO_inv decR_inv hR],h⟩
    · cases h
  · cases h
def elements24:List HV → Option HV:=rowsF fun gl R c=>if posG gl=true∧gl.length ≤ 1000∧(R.take c.toNat).length ≤ 900∧0 ≤ c then some (.own 1 ((rowsE gl R c).map encO)) else none
end Go.Proofs.Ytaibmipamkaljaa
end
section
open Go Go.HL
namespace Go.Proofs.Ytaibmipamkaljaa
set_option maxRecDepth 100000
open Go.Proofs.Try renaming prog → Tp
open Go.HL.HV renaming undef → Ud
noncomputable def B24:Code:=Try.f24.body.getD .skip
abbrev env24 (v0 v1 v2 v6 v7 v8 v9 v10:HV):Env:=[(0,v0),(1,v1),(2,v2),(6,v6),(7,v7),(8,v8),(9,v9),(10,v10)]
theorem el_a_0 (gl rw:List HV) (c:Int) :RT polA 24 (sub [0] B24) [(0,.a gl),(1,.a rw),(2,.i c)] [] .normal (env24 (.a gl) (.a rw) (.i c) (.imm .lit 1 []) Ud Ud Ud Ud) [] :=
  RunsTo.hin 0 60 [] fun kf hk=>⟨_,by kernel_rfl,.nil⟩
theorem el_b_0 (gl rw:List HV) (c:Int)  {y7 y8 y9 y10:HV}:RT polA 24 (sub [1,0] B24) (env24 (.a gl) (.a rw) (.i c) (.imm .lit 1 []) y7 y8 y9 y10) [] .normal (env24 (.a gl) (.a rw) (.i c) (.imm .lit 1 []) (.s 0 0) y8 y9 y10) [.b []] :=
  RunsTo.hin 0 60 [] fun kf hk=>⟨_,by kernel_rfl,.nil⟩
theorem el_c_0 (gl rw:List HV) (c:Int) (p:Nat) (out:List HV) {y8 y9 y10:HV}:RT polA 24 (sub [1,1,0,0] B24) (env24 (.a gl) (.a rw) (.i c) (.imm .lit 1 []) (.s 0 p) y8 y9 y10) [.b out] .normal (env24 (.a gl) (.a rw) (.i c) (.imm .lit 1 []) (.s 0 p) (.i 0) y9 y10) [.b out] :=
  RunsTo.hin 0 60 [] fun kf hk=>⟨_,by kernel_rfl,.nil⟩
theorem el_d_0 (gl rw:List HV) (c:Int) (p:Nat) (out:List HV) (i:Nat) {y9 y10:HV}(g0:(i:Int) < (rw.length:Int)) (g1:(i:Int) < c):RT polA 24 (sub [1,1,0,1,0,0,0] B24) (env24 (.a gl) (.a rw) (.i c) (.imm .lit 1 []) (.s 0 p) (.i (i:Int)) y9 y10) [.b out] .normal (env24 (.a gl) (.a rw) (.i c) (.imm .lit 1 []) (.s 0 p) (.i (i:Int)) y9 y10) [.b out] :=
  RunsTo.hin 0 60 [⟨3,3,.bool true,[.b out]⟩,⟨3,7,.bool true,[.b out]⟩] fun kf hk=>⟨_,by kernel_rfl,(oB [.b out] (decide_eq_true g0) (oB [.b out] (decide_eq_true g1) .nil))⟩
theorem el_d_1 (gl rw:List HV) (c:Int) (p:Nat) (out:List HV) (i:Nat) {y9 y10:HV}(g0:(i:Int) < (rw.length:Int)) (g1:¬ ((i:Int) < c)):RT polA 24 (sub [1,1,0,1,0,0,0] B24) (env24 (.a gl) (.a rw) (.i c) (.imm .lit 1 []) (.s 0 p) (.i (i:Int)) y9 y10) [.b out] (.exit 0) (env24 (.a gl) (.a rw) (.i c) (.imm .lit 1 []) (.s 0 p) (.i (i:Int)) y9 y10) [.b out] :=
  RunsTo.hin 0 60 [⟨3,3,.bool true,[.b out]⟩,⟨3,7,.bool false,[.b out]⟩] fun kf hk=>⟨_,by kernel_rfl,(oB [.b out] (decide_eq_true g0) (oB [.b out] (decide_eq_false g1) .nil))⟩
theorem el_d_2 (gl rw:List HV) (c:Int) (p:Nat) (out:List HV) (i:Nat) {y9 y10:HV}(g0:¬ ((i:Int) < (rw.length:Int))):RT polA 24 (sub [1,1,0,1,0,0,0] B24) (env24 (.a gl) (.a rw) (.i c) (.imm .lit 1 []) (.s 0 p) (.i (i:Int)) y9 y10) [.b out] (.exit 0) (env24 (.a gl) (.a rw) (.i c) (.imm .lit 1 []) (.s 0 p) (.i (i:Int)) y9 y10) [.b out] :=
  RunsTo.hin 0 60 [⟨3,3,.bool false,[.b out]⟩] fun kf hk=>⟨_,by kernel_rfl,(oB [.b out] (decide_eq_false g0) .nil)⟩
theorem el_e_0 (gl rw:List HV) (c:Int) (p:Nat) (out:List HV) (i:Nat) {y9 y10:HV}:RT polA 24 (sub [1,1,0,1,0,0,1,0,0,0] B24) (env24 (.a gl) (.a rw) (.i c) (.imm .lit 1 []) (.s 0 p) (.i (i:Int)) y9 y10) [.b out] .normal (env24 (.a gl) (.a rw) (.i c) (.imm .lit 1 []) (.s 0 p) (.i (i:Int)) (.s 1 0) y10) [.b out,.b []] :=
  RunsTo.hin 0 60 [] fun kf hk=>⟨_,by kernel_rfl,.nil⟩
theorem el_f_0 (gl rw:List HV) (c:Int) (p:Nat) (out:List HV) (i:Nat) (q:Nat) (row:List HV) {y10:HV}:RT polA 24 (sub [1,1,0,1,0,0,1,0,0,1,0,0] B24) (env24 (.a gl) (.a rw) (.i c) (.imm .lit 1 []) (.s 0 p) (.i (i:Int)) (.s 1 q) y10) [.b out,.b row] .normal (env24 (.a gl) (.a rw) (.i c) (.imm .lit 1 []) (.s 0 p) (.i (i:Int)) (.s 1 q) (.i 0)) [.b out,.b row] :=
  RunsTo.hin 0 60 [] fun kf hk=>⟨_,by kernel_rfl,.nil⟩
theorem el_g_0 (gl rw:List HV) (c:Int) (p:Nat) (out:List HV) (i:Nat) (q:Nat) (row:List HV) (j:Nat) {l0:List HV} {av0:Int} {x0:Int} {md0:Int} (g0:(j:Int) < (gl.length:Int)) (g1:idxV Tp 35 (.a rw) (.i (i:Int))=some (.vptr (.a l0))) (g2:∀ kf,callN Tp polA (kf+1) 31 [.a l0,.i (j:Int)] [.b out,.b row]=some (.i av0,[.b out,.b row])) (g3:idxV Tp 22 (.a gl) (.i (j:Int))=some (.vptr (.i x0))) (g4:∀ kf,callN Tp polA (kf+1) 30 [.i av0,.i x0] [.b out,.b row]=some (.i md0,[.b out,.b row])) (g5:appV [.b out,.b row] 1 8 (.s 1 q) [.i md0]=some (.sl 1 0 (q+1) none (q+1) 1,[.b out,.arr 1 (row ++ [.i md0]) true 0])) (gS9:((same (.i x0) (.i x0) && sameH ([.b out,.b row]:Heap) [.b out,.b row] && sameH ([.b out,.b row]:Heap) [.b out,.b row]) && true)=true):RT polA 24 (sub [1,1,0,1,0,0,1,0,0,1,0,1,0,0] B24) (env24 (.a gl) (.a rw) (.i c) (.imm .lit 1 []) (.s 0 p) (.i (i:Int)) (.s 1 q) (.i (j:Int))) [.b out,.b row] .normal (env24 (.a gl) (.a rw) (.i c) (.imm .lit 1 []) (.s 0 p) (.i (i:Int)) (.sl 1 0 (q+1) none (q+1) 1) (.i (IntKind.i64.wrap ((j:Int)+1)))) [.b out,.arr 1 (row ++ [.i md0]) true 0] :=
  RunsTo.hin 0 60 [⟨7,3,.bool true,[.b out,.b row]⟩,⟨9,3,.vptr (.a l0),[.b out,.b row]⟩,⟨9,6,.i av0,[.b out,.b row]⟩,⟨9,9,.vptr (.i x0),[.b out,.b row]⟩,⟨9,11,.i md0,[.b out,.b row]⟩,⟨9,13,.sl 1 0 (q+1) none (q+1) 1,[.b out,.arr 1 (row ++ [.i md0]) true 0]⟩] fun kf hk=>⟨_,by kernel_rfl,(oB [.b out,.b row] (decide_eq_true g0) (oC (gS9) (oP [.b out,.b row] g1 (oC (g2 kf) (oP [.b out,.b row] g3 (oC (g4 kf) (oC (g5) .nil)))))))⟩
theorem el_g_1 (gl rw:List HV) (c:Int) (p:Nat) (out:List HV) (i:Nat) (q:Nat) (row:List HV) (j:Nat)(g0:¬ ((j:Int) < (gl.length:Int))):RT polA 24 (sub [1,1,0,1,0,0,1,0,0,1,0,1,0,0] B24) (env24 (.a gl) (.a rw) (.i c) (.imm .lit 1 []) (.s 0 p) (.i (i:Int)) (.s 1 q) (.i (j:Int))) [.b out,.b row] (.exit 2) (env24 (.a gl) (.a rw) (.i c) (.imm .lit 1 []) (.s 0 p) (.i (i:Int)) (.s 1 q) (.i (j:Int))) [.b out,.b row] :=
  RunsTo.hin 0 60 [⟨7,3,.bool false,[.b out,.b row]⟩] fun kf hk=>⟨_,by kernel_rfl,(oB [.b out,.b row] (decide_eq_false g0) .nil)⟩
theorem el_h_0 (gl rw:List HV) (c:Int) (p:Nat) (out:List HV) (i:Nat) (q:Nat) (row:List HV) (j:Nat) {w0:Bool} (g0:litV Tp true false 35 1 [(0,.s 1 q)] [.b out,.b row]=some (.imm .lit 1 [.imm .own 1 row],[.b out,.arr 1 row w0 0])) (g1:appV [.b out,.arr 1 row w0 0] 1 24 (.s 0 p) [.imm .own 1 row]=some (.sl 0 0 (p+1) none (p+1) 1,[.arr 1 (out ++ [.imm .own 1 row]) true 0,.arr 1 row w0 0])):RT polA 24 (sub [1,1,0,1,0,0,1,0,0,1,1] B24) (env24 (.a gl) (.a rw) (.i c) (.imm .lit 1 []) (.s 0 p) (.i (i:Int)) (.s 1 q) (.i (j:Int))) [.b out,.b row] .normal (env24 (.a gl) (.a rw) (.i c) (.imm .lit 1 []) (.sl 0 0 (p+1) none (p+1) 1) (.i (i:Int)) (.s 1 q) (.i (j:Int))) [.arr 1 (out ++ [.imm .own 1 row]) true 0,.arr 1 row w0 0] :=
  RunsTo.hin 0 60 [⟨10,2,.imm .lit 1 [.imm .own 1 row],[.b out,.arr 1 row w0 0]⟩,⟨10,3,.sl 0 0 (p+1) none (p+1) 1,[.arr 1 (out ++ [.imm .own 1 row]) true 0,.arr 1 row w0 0]⟩] fun kf hk=>⟨_,by kernel_rfl,(oC (g0) (oC (g1) .nil))⟩
theorem el_i_0 (gl rw:List HV) (c:Int) (p:Nat) (out:List HV) (i:Nat) (H:Heap) {y9 y10:HV}:RT polA 24 (sub [1,1,0,1,0,0,1,1] B24) (env24 (.a gl) (.a rw) (.i c) (.imm .lit 1 []) (.s 0 p) (.i (i:Int)) y9 y10) H .normal (env24 (.a gl) (.a rw) (.i c) (.imm .lit 1 []) (.s 0 p) (.i (IntKind.i64.wrap ((i:Int)+1))) y9 y10) H :=
  RunsTo.hin 0 60 [] fun kf hk=>⟨_,by kernel_rfl,.nil⟩
theorem el_j_0 (gl rw:List HV) (c:Int) (p:Nat) (out:List HV) (i:Nat) {y9 y10:HV}:RT polA 24 (sub [1,1,1] B24) (env24 (.a gl) (.a rw) (.i c) (.imm .lit 1 []) (.s 0 p) (.i (i:Int)) y9 y10) [.b out] .ret (env24 (.a gl) (.a rw) (.i c) (.s 0 p) (.s 0 p) (.i (i:Int)) y9 y10) [.b out] :=
  RunsTo.hin 0 60 [] fun kf hk=>⟨_,by kernel_rfl,.nil⟩
end Go.Proofs.Ytaibmipamkaljaa
end
section
open Go Go.HL
namespace Go.Proofs.Ytaibmipamkaljaa
open Go.Proofs.Try renaming prog → Tp
open Go.HL.HV renaming undef → Ud
theorem res24:Try.f24.results.toList=[.tmp 6]:=by kernel_rfl
abbrev elE (gl:List Int) (R:List (List Int)) (c:Int) (p i:Nat) (v9 v10:HV):Env:=(env24 (.imm .arg 1 (gl.map encI)) (.imm .arg 1 (R.map encR)) (.int .i64 c) (.imm .lit 1 []) (.sl 0 0 p none p 1) (.int .i64 (i:Int)) v9 v10)
abbrev bO (R:List (List Int)):Blk:=.arr 1 (R.map encO) true 0
def rowP (gl r:List Int) (j:Nat):List Int:=(List.range j).map fun (j:Nat)=>modW (atT r (j:Int)) (gl.getD j 0)
theorem rowP_succ (gl r:List Int) (j:Nat):rowP gl r (j+1)=rowP gl r j ++ [modW (atT r (j:Int)) (gl.getD j 0)]:=by simp [rowP,List.range_succ]
theorem rowP_len (gl r:List Int) (j:Nat):(rowP gl r j).length=j:=by simp [rowP]
section
variable {gl:List Int} {R:List (List Int)} {c:Int}
theorem el_in (hp:posG gl=true) (hl:gl.length ≤ 1000) {i:Nat} (hi:i < R.length) (out:List (List Int)):∀ k j,j+k=gl.length →
    ∃ E,RT polA 24 (sub [1,1,0,1,0,0,1,0,0,1,0,1,0] B24) (elE gl R c out.length i (.sl 1 0 (rowP gl (R.getD i []) j).length none (rowP gl (R.getD i []) j).length 1) (.int .i64 (j:Int))) [bO out,bI (rowP gl (R.getD i []) j)] (.exit 2) E [bO out,bI (rowP gl (R.getD i []) gl.length)] ∧
      E=elE gl R c out.length i (.sl 1 0 (rowP gl (R.getD i []) gl.length).length none (rowP gl (R.getD i []) gl.length).length 1) (.int .i64 (gl.length:Int)):=by
  intro k
  induction k with
  | zero =>
    intro j hj
    have:j=gl.length:=by omega
    subst this
    have s:=el_g_1 (gl.map encI) (R.map encR) c out.length (out.map encO) i (rowP gl (R.getD i []) gl.length).length ((rowP gl (R.getD i []) gl.length).map encI) gl.length (by rw [List.length_map]; omega)
    exact ⟨_,lpo (s) (c:=sub [1,1,0,1,0,0,1,0,0,1,0,1,0] B24),rfl⟩
  | succ k ih =>
    intro j hj
    have hjl:j < gl.length:=by omega
    have hv:=(List.all_eq_true.1 hp) (gl.getD j 0) (by
      have:gl.getD j 0=gl[j]:=by simp [List.getD,List.getElem?_eq_getElem hjl]
      rw [this]; exact List.getElem_mem _)
    have hv:=of_decide_eq_true hv
    have a1:=at_at (pol':=polA) (by kernel_rfl) (R.getD i []) (v:=(j:Int)) (by omega) [bO out,bI (rowP gl (R.getD i []) j)]
    have m1:=mod_at (pol':=polA) (by kernel_rfl) (atT (R.getD i []) (j:Int)) hv.1 hv.2 [bO out,bI (rowP gl (R.getD i []) j)]
    have ap:=app_ints (H:=[bO out,bI (rowP gl (R.getD i []) j)]) (b:=1) (o:=rowP gl (R.getD i []) j) (xs:=[modW (atT (R.getD i []) (j:Int)) (gl.getD j 0)]) rfl (by rw [rowP_len]; simp only [List.length_singleton]; omega) (by simp)
    have hs1:sameH [bO out,bI (rowP gl (R.getD i []) j)] [bO out,bI (rowP gl (R.getD i []) j)]=true:=by
      have e1:∀ v ∈ out.map encO,same v v=true:=by
        intro v hv
        obtain ⟨r,_,rfl⟩:=List.mem_map.1 hv
        have:sameL (r.map encI) (r.map encI)=true:=sameL_all fun v hv=>by
          obtain ⟨a,_,rfl⟩:=List.mem_map.1 hv; simp [encI,same]
        simp [encO,same,this]
      have e2:∀ v ∈ (rowP gl (R.getD i []) j).map encI,same v v=true:=by
        intro v hv
        obtain ⟨a,_,rfl⟩:=List.mem_map.1 hv; simp [encI,same]
      have q1:=sameL_all e1
      have q2:=sameL_all e2
      simp only [bO,bI,sameH,q1,q2,beq_self_eq_true,Bool.and_self]
    have s:=el_g_0 (gl.map encI) (R.map encR) c out.length (out.map encO) i (rowP gl (R.getD i []) j).length ((rowP gl (R.getD i []) j).map encI) j (by rw [List.length_map]; omega) (gr hi) a1 (gx hjl) m1 (ap.trans (by rw [List.length_append,List.length_singleton]; simp only [bI,List.map_append]; rfl)) (by rw [hs1]; simp [same])
    rw [wrap_succ (by omega)] at s
    have e:(rowP gl (R.getD i []) j).map encI ++ [.int .i64 (modW (atT (R.getD i []) (j:Int)) (gl.getD j 0))]=(rowP gl (R.getD i []) (j+1)).map encI:=by rw [rowP_succ,List.map_append]; rfl
    rw [e,show (rowP gl (R.getD i []) j).length+1=(rowP gl (R.getD i []) (j+1)).length by rw [rowP_len,rowP_len]] at s
    obtain ⟨E,h1,h2⟩:=ih (j+1) (by omega)
    exact ⟨E,lop (s) (gc_eq _ rfl) (h1),h2⟩
theorem el_out (hp:posG gl=true) (hl:gl.length ≤ 1000) (hR:(R.take c.toNat).length ≤ 900) (hc:0 ≤ c):∀ k i (out:List (List Int)),i+k=(R.take c.toNat).length → out.length=i →
    ∃ i',RT polA 24 (sub [1,1,0,1,0] B24) (elE gl R c out.length i Ud Ud) [bO out] (.exit 0) (elE gl R c (out ++ ((R.take c.toNat).drop i).map (rowE gl)).length i' Ud Ud) [bO (out ++ ((R.take c.toNat).drop i).map (rowE gl))]:=by
  intro k
  induction k with
  | zero =>
    intro i out hi ho
    rw [List.length_take] at hi
    rw [List.drop_of_length_le (by rw [List.length_take]; omega),List.map_nil,List.append_nil]
    by_cases h:i < R.length
    · have s:=el_d_1 (gl.map encI) (R.map encR) c out.length (out.map encO) i (y9:=Ud) (y10:=Ud) (by rw [List.length_map]; omega) (by omega)
      exact ⟨i,lpo (sqo (s) (c:=sub [1,1,0,1,0,0] B24) (b:=sub [1,1,0,1,0,0,1] B24)) (c:=sub [1,1,0,1,0] B24)⟩
    · have s:=el_d_2 (gl.map encI) (R.map encR) c out.length (out.map encO) i (y9:=Ud) (y10:=Ud) (by rw [List.length_map]; omega)
      exact ⟨i,lpo (sqo (s) (c:=sub [1,1,0,1,0,0] B24) (b:=sub [1,1,0,1,0,0,1] B24)) (c:=sub [1,1,0,1,0] B24)⟩
  | succ k ih =>
    intro i out hi ho
    have hi2:=hi
    rw [List.length_take] at hi2
    have hil:i < R.length:=by omega
    have hd:(R.take c.toNat).drop i=R.getD i [] :: (R.take c.toNat).drop (i+1):=by
      rw [List.drop_eq_getElem_cons (by omega)]
      simp [List.getD,List.getElem?_eq_getElem hil,List.getElem_take]
    have d:=el_d_0 (gl.map encI) (R.map encR) c out.length (out.map encO) i (y9:=Ud) (y10:=Ud) (by rw [List.length_map]; omega) (by omega)
    have e:=el_e_0 (gl.map encI) (R.map encR) c out.length (out.map encO) i (y9:=Ud) (y10:=Ud)
    have f:=el_f_0 (gl.map encI) (R.map encR) c out.length (out.map encO) i 0 [] (y10:=Ud)
    obtain ⟨E,g,rfl⟩:=el_in (c:=c) hp hl hil out gl.length 0 (by omega)
    obtain ⟨w,lt⟩:=lit_seal' (P:=Tp) (H:=[bO out,bI (rowP gl (R.getD i []) gl.length)]) (t:=35) (e:=22) (k:=1) (b:=1) (p:=(rowP gl (R.getD i []) gl.length).length) (mx:=0) (bt:=24) (zv:=.imm .lit 0 []) (els:=(rowP gl (R.getD i []) gl.length).map encI) u35 (by kernel_rfl) (by kernel_rfl) (by kernel_rfl) rfl (by simp) (ints_res _)
    have ap:=app_O (H:=[bO out,.arr 1 ((rowP gl (R.getD i []) gl.length).map encI) w 0]) (b:=0) (R:=out) rfl (by omega) (rowP gl (R.getD i []) gl.length)
    have h:=el_h_0 (gl.map encI) (R.map encR) c out.length (out.map encO) i (rowP gl (R.getD i []) gl.length).length ((rowP gl (R.getD i []) gl.length).map encI) gl.length lt (ap.trans (by simp only [List.map_append]; rfl))
    have s3:=el_i_0 (gl.map encI) (R.map encR) c (out.length+1) (out.map encO) i [.arr 1 (out.map encO ++ [.imm .own 1 ((rowP gl (R.getD i []) gl.length).map encI)]) true 0,.arr 1 ((rowP gl (R.getD i []) gl.length).map encI) w 0] (y9:=.sl 1 0 (rowP gl (R.getD i []) gl.length).length none (rowP gl (R.getD i []) gl.length).length 1) (y10:=.int .i64 (gl.length:Int))
    rw [wrap_succ (by omega)] at s3
    obtain ⟨i',nx⟩:=ih (i+1) (out ++ [rowE gl (R.getD i [])]) (by omega) (by simp; omega)
    have hrow:rowP gl (R.getD i []) gl.length=rowE gl (R.getD i []):=rfl
    have hgc:gc [bO out].length (bndE (elE gl R c (out.length+1) (i+1) Ud Ud)) [.arr 1 (out.map encO ++ [.imm .own 1 ((rowP gl (R.getD i []) gl.length).map encI)]) true 0,.arr 1 ((rowP gl (R.getD i []) gl.length).map encI) w 0]=[bO (out ++ [rowE gl (R.getD i [])])]:=by
      have h1:bndE (elE gl R c (out.length+1) (i+1) Ud Ud) ≤ 1:=by simp only [bndE,bnd]; decide
      unfold gc
      have h3:max [bO out].length (max (bndE (elE gl R c (out.length+1) (i+1) Ud Ud)) (mxs [.arr 1 (out.map encO ++ [.imm .own 1 ((rowP gl (R.getD i []) gl.length).map encI)]) true 0,.arr 1 ((rowP gl (R.getD i []) gl.length).map encI) w 0]))=1:=by
        have:mxs [.arr 1 (out.map encO ++ [.imm .own 1 ((rowP gl (R.getD i []) gl.length).map encI)]) true 0,.arr 1 ((rowP gl (R.getD i []) gl.length).map encI) w 0]=0:=rfl
        rw [this]; simp only [List.length_cons,List.length_nil]; omega
      rw [h3,hrow]
      simp only [bO,List.map_append]
      rfl
    refine ⟨i',?_⟩
    rw [hd,List.map_cons,List.append_cons]
    rw [List.length_append,List.length_singleton] at nx
    have bl:=sq (d) (sq (RunsTo.block_normal (i:=1) (c:=sub [1,1,0,1,0,0,1,0] B24) (sq (e) (sq (sq (f) (bke (c:=sub [1,1,0,1,0,0,1,0,0,1,0,1] B24) (g)) (c:=sub [1,1,0,1,0,0,1,0,0,1,0] B24)) (h) (c:=sub [1,1,0,1,0,0,1,0,0,1] B24)) (c:=sub [1,1,0,1,0,0,1,0,0] B24)) (by kernel_rfl)) (s3) (c:=sub [1,1,0,1,0,0,1] B24)) (c:=sub [1,1,0,1,0,0] B24)
    exact lop (bl) hgc (nx)
theorem elements24_ok:PrimOk Tp 24 elements24:=by
  refine primOk_pure (pol:=polA) (fn:=Try.f24) (cd:=B24) follows_mixed soundA (by kernel_rfl) (by kernel_rfl) (fnok polA.prim _ _ (by kernel_rfl)) (by kernel_rfl) ?_
  intro args res h
  obtain ⟨gl,R,c,rfl,hq⟩:=rowsF_inv h
  clear h
  split at hq
  case isFalse=>cases hq
  rename_i hk
  cases hq
  obtain ⟨hp,hl,hR,hc⟩:=hk
  have a:=el_a_0 (gl.map encI) (R.map encR) c
  have b:=el_b_0 (gl.map encI) (R.map encR) c (y7:=Ud) (y8:=Ud) (y9:=Ud) (y10:=Ud)
  have d:=el_c_0 (gl.map encI) (R.map encR) c 0 [] (y8:=Ud) (y9:=Ud) (y10:=Ud)
  obtain ⟨i',lp⟩:=el_out hp hl hR hc (R.take c.toNat).length 0 [] (by omega) rfl
  rw [List.drop_zero,List.nil_append] at lp
  have z:=el_j_0 (gl.map encI) (R.map encR) c (rowsE gl R c).length ((rowsE gl R c).map encO) i' (y9:=Ud) (y10:=Ud)
  have u:=sq (a) (sq (b) (sq (sq (d) (bke (c:=sub [1,1,0,1] B24) (lp)) (c:=sub [1,1,0] B24)) (z) (c:=sub [1,1] B24)) (c:=sub [1] B24)) (c:=B24)
  exact ⟨_,_,_,.sl 0 0 (rowsE gl R c).length none (rowsE gl R c).length 1,u,by simp,by simp only [resultsV,res24]; rfl,res_rs rfl rfl⟩
end
end Go.Proofs.Ytaibmipamkaljaa
end
section
open Go Go.HL
namespace Go.Proofs.Ytaibmipamkaljaa
def GrL (gl:List Int) (g:Gr) (e:Int):Prop :=
  (∃ m,gl=[m]∧g=(m,1,1)∧e=m∧2 ≤ m∧m ≤ 24) ∨ (∃ a b,gl=[a,b]∧g=(a,b,2)∧e=b∧2 ≤ a∧a ≤ 12∧2 ≤ b∧b ≤ 24∧a * b ≤ 144∧b % a=0)
theorem grp_L (l:List Int):∃ g e,GrL (grpT l) g e:=by
  unfold grpT
  split
  · have:=modW_bounds (atT l 1) 23 (by omega) (by omega)
    exact ⟨_,_,.inl ⟨_,rfl,rfl,rfl,by omega,by omega⟩⟩
  · obtain ⟨hA1,hA2⟩:=grpA_bnd l
    obtain ⟨hB1,_⟩:=grpB_bnd l
    have hAA:4 ≤ grpA l * grpA l∧grpA l * grpA l ≤ 144:=⟨Int.mul_le_mul hA1 hA1 (by omega) (by omega),Int.mul_le_mul hA2 hA2 (by omega) (by omega)⟩
    have k1:1 ≤ 24 / grpA l:=(Int.le_ediv_iff_mul_le (by omega)).2 (by omega)
    have k2:1 ≤ 144 / (grpA l * grpA l):=(Int.le_ediv_iff_mul_le (by omega)).2 (by omega)
    have hb:=modW_bounds (atT l 2) (max 1 (min (24 / grpA l) (144 / (grpA l * grpA l)))) (by omega) (by obtain ⟨h1,h2⟩:=grpM_bnd l; omega)
    have hB:grpB l ≤ 24 / grpA l∧grpB l ≤ 144 / (grpA l * grpA l):=by unfold grpB; omega
    have q1:=(Int.le_ediv_iff_mul_le (by omega:0 < grpA l)).1 hB.1
    have q2:=(Int.le_ediv_iff_mul_le (by omega:0 < grpA l * grpA l)).1 hB.2
    have q3:2 * 1 ≤ grpA l * grpB l:=Int.mul_le_mul hA1 hB1 (by omega) (by omega)
    refine ⟨_,_,.inr ⟨grpA l,grpA l * grpB l,rfl,rfl,rfl,hA1,hA2,by omega,by rw [Int.mul_comm]; exact q1,?_,Int.mul_emod_right _ _⟩⟩
    rw [← Int.mul_assoc,Int.mul_comm]; exact q2
theorem GrL.new {gl:List Int} {g:Gr} {e:Int} (h:GrL gl g e):newGroupT gl=(g,true):=by
  rcases h with ⟨m,rfl,rfl,rfl,h1,h2⟩ | ⟨a,b,rfl,rfl,rfl,h1,h2,h3,h4,h5,h6⟩
  · simp only [newGroupT,in_t ⟨h1,h2⟩,if_true]
  · simp only [newGroupT,in_t (a:=a) (lo:=2) (hi:=24) ⟨h1,by omega⟩,in_t ⟨h3,h4⟩,Bool.and_self,if_true,decide_eq_true h5,decide_eq_true h6]
theorem GrL.ok {gl:List Int} {g:Gr} {e:Int} (h:GrL gl g e):grOk g:=by
  rcases h with ⟨m,rfl,rfl,rfl,h1,h2⟩ | ⟨a,b,rfl,rfl,rfl,h1,h2,h3,h4,h5,h6⟩
  · exact ⟨⟨by show 1 ≤ e; omega,by show e ≤ 1000; omega⟩,by show (1:Int) ≤ 1; omega,by show (1:Int) ≤ 1000; omega⟩
  · exact ⟨⟨by show 1 ≤ a; omega,by show a ≤ 1000; omega⟩,by show 1 ≤ e; omega,by show e ≤ 1000; omega⟩
theorem GrL.pos {gl:List Int} {g:Gr} {e:Int} (h:GrL gl g e):posG gl=true∧1 ≤ gl.length∧gl.length ≤ 2∧(∀ j,j < gl.length → 2 ≤ gl.getD j 0∧gl.getD j 0 ≤ 24)∧gl.getD (gl.length - 1) 0=e∧2 ≤ e∧e ≤ 24:=by
  rcases h with ⟨m,rfl,rfl,rfl,h1,h2⟩ | ⟨a,b,rfl,rfl,rfl,h1,h2,h3,h4,h5,h6⟩
  · refine ⟨?_,by simp,by simp,?_,rfl,h1,h2⟩
    · simp only [posG,List.all_cons,List.all_nil,Bool.and_true]; exact decide_eq_true (by omega)
    · intro j hj
      have:j=0:=by simp at hj; exact hj
      subst this; exact ⟨h1,h2⟩
  · refine ⟨?_,by simp,by simp,?_,rfl,h3,h4⟩
    · simp only [posG,List.all_cons,List.all_nil,Bool.and_true,Bool.and_eq_true]; exact ⟨decide_eq_true (by omega),decide_eq_true (by omega)⟩
    · intro j hj
      match j,hj with
      | 0,_=>exact ⟨h1,by show a ≤ 24; omega⟩
      | 1,_=>exact ⟨h3,h4⟩
      | j+2,hj=>simp only [List.length_cons,List.length_nil] at hj; omega
def elOf (r:List Int):El:=(r.getD 0 0,r.getD 1 0)
def rowOk (gl r:List Int):Prop:=r.length=gl.length∧∀ j,j < gl.length → 0 ≤ r.getD j 0∧r.getD j 0 < gl.getD j 0
theorem GrL.elem {gl:List Int} {g:Gr} {e:Int} (h:GrL gl g e) {r:List Int} (hr:rowOk gl r):elementT g r=(elOf r,true):=by
  obtain ⟨hl,hr⟩:=hr
  rcases h with ⟨m,rfl,rfl,rfl,h1,h2⟩ | ⟨a,b,rfl,rfl,rfl,h1,h2,h3,h4,h5,h6⟩
  · match r,hl with
    | [x],_ =>
      have k:=hr 0 (by simp)
      have k1:0 ≤ x∧x ≤ e - 1:=⟨k.1,by have:=k.2; simp at this; omega⟩
      simp only [elementT,in_t k1,and_self,if_true]; rfl
  · match r,hl with
    | [x,y],_ =>
      have k:=hr 0 (by simp)
      have q:=hr 1 (by simp)
      have k1:0 ≤ x∧x ≤ a - 1:=⟨k.1,by have:=k.2; simp at this; omega⟩
      have k2:0 ≤ y∧y ≤ e - 1:=⟨q.1,by have:=q.2; simp at this; omega⟩
      simp only [elementT,in_t k1,in_t k2,and_self,if_true]; rfl
theorem row_ok {gl:List Int} {g:Gr} {e:Int} (h:GrL gl g e) (x:List Int):rowOk gl (rowE gl x):=by
  refine ⟨by simp [rowE],fun j hj=>?_⟩
  have hb:=h.pos.2.2.2.1 j hj
  have e:(rowE gl x).getD j 0=modW (atT x (j:Int)) (gl.getD j 0):=by
    simp [rowE,List.getD,List.getElem?_map,List.getElem?_range hj]
  rw [e]
  exact modW_bounds _ _ (by omega) (by omega)
def zeroAt (g:Gr) (x:El) (k:Nat):Prop:=((k:Int) * x.1) % g.1=0∧((k:Int) * x.2) % g.2.1=0
def mulT (g:Gr) (x:El) (k:Nat):El:=(((k:Int) * x.1) % g.1,((k:Int) * x.2) % g.2.1)
theorem mulT_zero {g:Gr} {x:El} {k:Nat}:mulT g x k=(0,0) ↔ zeroAt g x k:=by simp [mulT,zeroAt,Prod.ext_iff]
theorem mulT_succ (g:Gr) (x:El) (k:Nat):addT g (mulT g x k) x=mulT g x (k+1):=by
  simp only [addT,mulT,Int.emod_add_emod]
  congr 1 <;> · congr 1; rw [show ((k+1:Nat):Int)=(k:Int)+1 by omega,Int.add_mul]; omega
def isOrd (g:Gr) (x:El) (o:Nat):Prop:=1 ≤ o∧zeroAt g x o∧∀ k,1 ≤ k → k < o → ¬ zeroAt g x k
theorem rch_rep {g:Gr} {x:El} (hx:elOk g x):∀ (o:Nat) (w:Wt),w ∈ (rchT g (List.replicate o x)).headD [] ↔ ∃ j:Nat,j ≤ o∧w=((j:Int),mulT g x j)
  | 0,w=>by
    simp only [List.replicate,rchT,List.headD_cons,List.mem_singleton]
    have m0:mulT g x 0=(0,0):=by simp [mulT]
    constructor
    · rintro rfl; exact ⟨0,Nat.le_refl _,by rw [m0]; rfl⟩
    · rintro ⟨j,h1,rfl⟩
      have:j=0:=by omega
      subst this; rw [m0]; rfl
  | o+1,w=>by
    rw [List.replicate_succ]
    show w ∈ rchStep g x ((rchT g (List.replicate o x)).headD []) ↔ _
    rw [mem_step]
    constructor
    · rintro ⟨u,h1,h2⟩
      obtain ⟨j,h3,rfl⟩:=(rch_rep hx o u).1 h1
      rcases h2 with rfl | rfl
      · exact ⟨j,by omega,rfl⟩
      · exact ⟨j+1,by omega,by rw [rchW,mulT_succ]; rfl⟩
    · rintro ⟨j,h1,rfl⟩
      by_cases c:j ≤ o
      · exact ⟨_,(rch_rep hx o _).2 ⟨j,c,rfl⟩,.inl rfl⟩
      · obtain ⟨i,rfl⟩:∃ i,j=i+1:=⟨j - 1,by omega⟩
        exact ⟨_,(rch_rep hx o _).2 ⟨i,by omega,rfl⟩,.inr (by rw [rchW,mulT_succ]; rfl)⟩
theorem partT_len {g:Gr} (hg:grOk g):∀ (l:List El) (i:Nat) (w:Wt),(∀ x ∈ l,elOk g x) → w ∈ (rchT g l).headD [] → ((partT g l i w).length:Int)=w.1
  | [],i,w,_,h=>by simp [rchT] at h; subst h; rfl
  | x :: l,i,w,hl,h=>by
    have hx:=hl x (by simp)
    have hl':∀ y ∈ l,elOk g y:=fun y hy=>hl y (by simp [hy])
    rw [partT]
    split
    · rename_i c; rw [c]; rfl
    · split
      · rename_i c
        have:=partT_len hg l (i+1) _ hl' c
        simp only [List.length_cons]
        simp only at this
        omega
      · rename_i c
        rcases part_next hg hx h with h' | h'
        · exact absurd h' c
        · exact partT_len hg l (i+1) w hl' h'
theorem shT_eq {g:Gr} {l:List El} {t:El} {o:Nat} (h1:((o:Int),t) ∈ (rchT g l).headD []):∀ (f j:Nat),(∀ k,j ≤ k → k < o → ((k:Int),t) ∉ (rchT g l).headD []) → j ≤ o → o < j+f → shT g l t f j=some (partI g l ((o:Int),t)):=by
  intro f
  induction f with
  | zero=>intro j _ h3 h4; omega
  | succ f ih =>
    intro j h2 h3 h4
    rw [shT]
    by_cases c:j=o
    · subst c; rw [if_pos h1]
    · rw [if_neg (h2 j (Nat.le_refl _) (by omega))]
      exact ih (j+1) (fun k a b=>h2 k (by omega) b) (by omega) (by omega)
theorem GrL.zero {gl:List Int} {g:Gr} {e:Int} (h:GrL gl g e) {r:List Int} (hr:rowOk gl r) {o:Nat} (ho:isOrd g (elOf r) o) (hoe:o ≤ 60):∃ p,zeroT gl (List.replicate o r)=(p,0)∧p.length=o:=by
  have he:=h.elem hr
  have hx:elOk g (elOf r):=by have:=element_el h.ok (l:=r) (by rw [he]); rwa [he] at this
  have hes:elemsT g (List.replicate o r)=some (List.replicate o (elOf r)):=by
    unfold elemsT
    rw [if_pos ⟨by simpa using hoe,by rw [List.all_eq_true]; intro x hx; rw [(List.mem_replicate.1 hx).2,he]⟩,List.map_replicate,he]
  have hz:((o:Int),((0,0):El)) ∈ (rchT g (List.replicate o (elOf r))).headD []:=(rch_rep hx o _).2 ⟨o,Nat.le_refl _,by rw [mulT_zero.2 ho.2.1]⟩
  have hs:=shT_eq hz o 1 (fun k h1 h2 h3=>by
    obtain ⟨j,_,hj⟩:=(rch_rep hx o _).1 h3
    simp only [Prod.mk.injEq] at hj
    have:k=j:=by omega
    subst this
    exact ho.2.2 k h1 h2 (mulT_zero.1 hj.2.symm)) ho.1 (by omega)
  refine ⟨partI g (List.replicate o (elOf r)) ((o:Int),(0,0)),?_,?_⟩
  · simp only [zeroT,h.new,if_true,hes,List.length_replicate,hs,shP]
  · have:=partT_len h.ok (List.replicate o (elOf r)) 0 ((o:Int),(0,0)) (fun x hx'=>by rw [(List.mem_replicate.1 hx').2]; exact hx) hz
    simp only [partI,List.length_map]
    simp only at this
    omega
end Go.Proofs.Ytaibmipamkaljaa
end
section
open Go Go.HL
namespace Go.Proofs.Ytaibmipamkaljaa
open Go.Proofs.Try renaming prog → Tp
open Go.HL.HV renaming undef → Ud
def polAw:Pol:={ pol with shared:=fun g=>sharedT.contains g || g == 54,prim:=fun g=>if g == 49 then some reached49 else if g == 59 then some add59 else none }
set_option maxRecDepth 100000 in
theorem fns_okAw:(Tp.funcs.toList.zipIdx.all fun p=>fnOk { pol with shared:=fun g=>sharedT.contains g || g == 54 } p.2 p.1)=true:=by kernel_rfl
theorem sound_primC (F:FuncId → Option (List HV → Option HV)) (hF:∀ g f,F g=some f → PrimOk Tp g f) (n:Nat):CallSound Tp (callN Tp { pol with shared:=fun g=>sharedT.contains g || g == 54,prim:=F } n) :=
  callN_ok follows_mixed (fun g fn h=>by
    have:=fnOk_prim (pol:={ pol with shared:=fun g=>sharedT.contains g || g == 54 }) (F:=F) g fn
    rw [this]
    exact List.all_eq_true.1 fns_okAw (fn,g) (by
      rw [List.mem_zipIdx_iff_getElem?]
      simpa using h)) hF n
theorem soundAw (n:Nat):CallSound Tp (callN Tp polAw n):=sound_primC _ (fun g f h=>by
  split at h
  · rename_i hg; cases h; rw [eq_of_beq hg]; exact reached_ok
  split at h
  · rename_i hg; cases h; rw [eq_of_beq hg]; exact add_ok
  · cases h) n
set_option maxRecDepth 100000 in
theorem awake_run:callN Tp polAw 400 16 [] []=some (.bool true,[]):=by kernel_rfl
end Go.Proofs.Ytaibmipamkaljaa
end
section
open Go Go.HL
namespace Go.Proofs.Ytaibmipamkaljaa
open Go.Proofs.Try renaming prog → Tp
open Go.HL.HV renaming undef → Ud
theorem awake_prim:PrimOk Tp 16 awakeF:=by
  refine primOk_of (pol:=polAw) soundAw (by kernel_rfl) fun args res h=>?_
  match args,h with
  | [],h =>
    cases h
    exact ⟨400,_,_,false,awake_run,rfl⟩
theorem awake_at {pol':Pol} (hp:pol'.prim 16=some awakeF) (H:Heap):∀ k,callN Tp pol' (k+1) 16 [] H=some (.bool true,H):=fun k=>by
  rw [prim_call (pol:=pol') (g:=16) (F:=awakeF) hp (rs:=[]) rfl (res:=.bool true) rfl]; rfl
theorem group_at {pol':Pol} (hp:pol'.prim 23=some group23) (l:List Int) (H:Heap):∀ k,callN Tp pol' (k+1) 23 [.imm .arg 1 (l.map encI)] H=some (.sl H.length 0 (grpT l).length none (grpT l).length 1,H ++ [bI (grpT l)]):=fun k=>by
  have hX:=arg_li H l
  have hd:mapO decI (l.map encI)=some l:=mapO_map decI_enc l
  rw [prim_call (pol:=pol') (g:=23) (F:=group23) hp (rs:=[.imm .arg 1 (l.map encI)]) (by simp only [mapO,hX]) (res:=.own 1 ((grpT l).map encI)) (by simp only [group23,liF,hd]),recv_ints]
def argI (H:Heap) (v:HV) (l:List Int):Prop:=toArg H 6 v=some (.imm .arg 1 (l.map encI))
theorem elements24_at {pol':Pol} (hp:pol'.prim 24=some elements24) {gl:List Int} {R:List (List Int)} {v1 v2:HV} {c:Int} {H:Heap} (h1:argI H v1 gl) (h2:toArg H 6 v2=some (.imm .arg 1 (R.map encR))) (hk:posG gl=true∧gl.length ≤ 1000∧(R.take c.toNat).length ≤ 900∧0 ≤ c) :
    ∀ k,callN Tp pol' (k+1) 24 [v1,v2,.int .i64 c] H=some (.sl H.length 0 (rowsE gl R c).length none (rowsE gl R c).length 1,H ++ [.arr 1 ((rowsE gl R c).map encO) true 0]):=fun k=>by
  have hc:toArg H 6 (.int .i64 c)=some (.int .i64 c):=rfl
  have hd:mapO decI (gl.map encI)=some gl:=mapO_map decI_enc gl
  have hd2:mapO decR (R.map encR)=some R:=mapO_map decR_enc R
  unfold argI at h1
  rw [prim_call (pol:=pol') (g:=24) (F:=elements24) hp (rs:=[.imm .arg 1 (gl.map encI),.imm .arg 1 (R.map encR),.int .i64 c]) (by simp only [mapO,h1,h2,hc]) (res:=.own 1 ((rowsE gl R c).map encO)) (by simp only [elements24,rowsF,hd,hd2]; rw [if_pos hk]),recv_rows]
theorem zero_at {pol':Pol} (hp:pol'.prim 26=some zero26) {l:List Int} {R:List (List Int)} {v1 v2:HV} {H:Heap} (h1:argI H v1 l) (h2:toArg H 6 v2=some (.imm .arg 1 (R.map encR))) (hR:R.length ≤ 1000) :
    ∀ k,callN Tp pol' (k+1) 26 [v1,v2] H=some (.tuple [.sl H.length 0 (zeroT l R).1.length none (zeroT l R).1.length 1,.int .i64 (zeroT l R).2],H ++ [bI (zeroT l R).1]):=fun k=>by
  have hd:mapO decI (l.map encI)=some l:=mapO_map decI_enc l
  have hd2:mapO decR (R.map encR)=some R:=mapO_map decR_enc R
  unfold argI at h1
  rw [prim_call (pol:=pol') (g:=26) (F:=zero26) hp (rs:=[.imm .arg 1 (l.map encI),.imm .arg 1 (R.map encR)]) (by simp only [mapO,h1,h2]) (res:=.tuple [.own 1 ((zeroT l R).1.map encI),.int .i64 (zeroT l R).2]) (by simp only [zero26,hd,hd2]; rw [if_pos hR]),recv_li1]
end Go.Proofs.Ytaibmipamkaljaa
end
section
open Go Go.HL Go.HL.So
namespace Go.Proofs.Ytaibmipamkaljaa
def ltL (a b:List Int):Prop:=a.getD 0 0 < b.getD 0 0 ∨ (a.getD 0 0=b.getD 0 0∧a.getD 1 0 < b.getD 1 0)
theorem ltL_lin:Lin ltL:=by
  refine ⟨fun x y z h1 h2=>?_,fun x y h=>?_⟩
  · unfold ltL at *; omega
  · unfold ltL at *; omega
theorem cmpL_lt {s:Nat} (hs:s=1 ∨ s=2) {a b:List Int} (ha:a.length=s) (hb:b.length=s):∃ c,cmpL a b=some c∧(c < 0 ↔ ltL a b):=by
  rcases hs with rfl | rfl
  · match a,b,ha,hb with
    | [x],[y],_,_ =>
      refine ⟨_,rfl,?_⟩
      simp only [cmpI,ltL,List.getD_cons_zero]
      have:([x]:List Int).getD 1 0=0:=rfl
      have:([y]:List Int).getD 1 0=0:=rfl
      split
      · simp; omega
      · split <;> simp <;> omega
  · match a,b,ha,hb with
    | [x,x'],[y,y'],_,_ =>
      refine ⟨_,rfl,?_⟩
      have e1:([x,x']:List Int).getD 1 0=x':=rfl
      have e2:([y,y']:List Int).getD 1 0=y':=rfl
      simp only [cmpI,ltL,List.getD_cons_zero,e1,e2]
      by_cases c1:x < y
      · simp [c1]
      · by_cases c2:y < x
        · simp [c1,c2]; omega
        · have e:x=y:=by omega
          subst e
          by_cases c3:x' < y'
          · simp [c3]
          · by_cases c4:y' < x' <;> simp [c3,c4]
theorem mxA_eq {H:Heap} {db k m:Nat} {l:List HV} {w:Bool} (h:H[db]?=some (.arr k l w m)):mxA H db=m:=by
  unfold mxA
  rw [h]; rfl
end Go.Proofs.Ytaibmipamkaljaa
end
section
open Go Go.HL Go.HL.So
namespace Go.Proofs.Ytaibmipamkaljaa
open Go.Proofs.Try renaming prog → Tp
open Go.HL.HV renaming undef → Ud
theorem store_any {P:Program} {H:Heap} {t b i tot k mx:Nat} {els:List HV} {v old:HV} (hb:H[b]?=some (.arr k els true mx)) (ht:tot=els.length) (hi:els[i]?=some old) (ho:cellsOf old=[old]) (hna:∀ cs,old ≠ .agg cs) (hs:tySize P t=some 1) (hc:cellsOf v=[v]) (hcv:cellV v=true) (hv:bnd v ≤ mx) :
    storeV P H t (.ptr b i 0 tot) v=some (H.set b (.arr k (els.set i v) true mx)):=by
  simp only [storeV,hb,hi,ht,hs,hc,ho,List.length_singleton]
  rw [if_pos ⟨trivial,trivial⟩,if_pos ⟨by omega,by simp [hcv],by omega⟩,Nat.max_eq_left hv]
def clD (m b:Nat):Nat:=if b < m then b else 0
theorem clD_lt {m b:Nat} (h:0 < m):clD m b < m:=by unfold clD; split <;> omega
theorem clD_eq {m b:Nat} (h:b < m):clD m b=b:=if_pos h
def encD (s m b:Nat):HV:=.sl (clD m b) 0 s none s 1
def ltD (row:Nat → List Int) (b c:Nat):Prop:=ltL (row b) (row c)
def domD (row:Nat → List Int) (s m:Nat) (H:Heap) (db b:Nat):Prop:=b < m∧b ≠ db∧(row b).length=s∧H[b]?=some (bI (row b))
theorem ltD_lin (row:Nat → List Int):Lin (ltD row):=⟨fun x y z h1 h2=>ltL_lin.tr _ _ _ h1 h2,fun x y h=>ltL_lin.asy _ _ h⟩
theorem So.rows {row:Nat → List Int} {s m:Nat} (hs:s=1 ∨ s=2) {H:Heap} {db n:Nat} (hn:n ≤ 60000) (hd:db < H.length) (hx:mxs H ≤ H.length) (hm:mxA H db=m) (h0:0 < n → 0 < m):So (encD s m) (ltD row) (domD row s m H db) H db n:=by
  have hb:∀ (l:List Nat) (T:Heap),(Mm (encD s m) H db l T)[db]?=some (.arr 1 (l.map (encD s m)) true m):=fun l T=>by
    unfold Mm
    rw [List.getElem?_append_left (by simpa using hd),List.getElem?_set_self hd,hm]
  refine ⟨hn,hd,hx,fun l T i hl hi=>?_,fun l T i x hl hi=>?_,fun l T x y hl hT h1 h2=>?_⟩
  · exact load_elem (b:=db) (hb l T) (by simp [hl]) (by rw [List.getElem?_map,List.getElem?_eq_getElem (by omega)]; simp [at_,List.getD,List.getElem?_eq_getElem (show i < l.length by omega)]) rfl a22 i22
  · have hi':(l.map (encD s m))[i]?=some (encD s m (at_ l i)):=by rw [List.getElem?_map,List.getElem?_eq_getElem (by omega)]; simp [at_,List.getD,List.getElem?_eq_getElem (show i < l.length by omega)]
    have hc:=clD_lt (m:=m) (b:=x) (h0 (by omega))
    have:=store_any (P:=Tp) (t:=22) (b:=db) (tot:=n) (v:=encD s m x) (hb l T) (by simp [hl]) hi' rfl (by intro cs h; cases h) z22 rfl rfl (by simp only [encD,bnd]; omega)
    rw [this]
    congr 1
    unfold Mm
    rw [List.set_append_left _ _ (by simpa using hd),List.set_set,hm]
    congr 2
    rw [List.map_set]
  · obtain ⟨x1,x2,x3,x4⟩:=h1
    obtain ⟨y1,y2,y3,y4⟩:=h2
    obtain ⟨c,c1,c2⟩:=cmpL_lt hs x3 y3
    refine ⟨c,0,fun kf _=>?_,c2⟩
    have look:∀ b,b < m → b ≠ db → H[b]?=some (bI (row b)) → (Mm (encD s m) H db l T)[b]?=some (bI (row b)):=fun b _ hne h=>by
      unfold Mm
      rw [List.getElem?_append_left (by simpa using lt_of_get h),List.getElem?_set_ne (by omega)]
      exact h
    have hx:=arg_sl x3 (look x x1 x2 x4)
    have hy:=arg_sl y3 (look y y1 y2 y4)
    unfold argI at hx hy
    have hd:mapO decI ((row x).map encI)=some (row x):=mapO_map decI_enc _
    have hd2:mapO decI ((row y).map encI)=some (row y):=mapO_map decI_enc _
    rw [prim_call (pol:=polSl) (g:=64) (F:=compare64) (by kernel_rfl) (rs:=[.imm .arg 1 ((row x).map encI),.imm .arg 1 ((row y).map encI)]) (by simp only [mapO,encD,clD_eq x1,clD_eq y1,hx,hy]) (res:=.int .i64 c) (by simp only [compare64,hd,hd2,c1]; rfl)]
    rfl
theorem MmD_self {s m:Nat} {H:Heap} {db:Nat} {l:List Nat} (h:H[db]?=some (.arr 1 (l.map (encD s m)) true m)):Mm (encD s m) H db l []=H:=by
  unfold Mm
  rw [List.append_nil]
  apply List.ext_getElem?
  intro i
  by_cases e:db=i
  · subst e; rw [List.getElem?_set_self (lt_of_get h),h,mxA_eq h]
  · rw [List.getElem?_set_ne e]
theorem sortD_ok {row:Nat → List Int} {s m:Nat} (hs:s=1 ∨ s=2) {H:Heap} {db n:Nat} {cap:Option Nat} {l:List Nat} (hn:n ≤ 60000) (hl:l.length=n) (hb:H[db]?=some (.arr 1 (l.map (encD s m)) true m)) (hx:mxs H ≤ H.length) (hD:∀ b ∈ l,domD row s m H db b) :
    ∃ l',ClL 63 [.sl db 0 n cap n 1,.func 64 [] []] H (.tuple []) (H.set db (.arr 1 (l'.map (encD s m)) true m))∧l'.Perm l∧Sorted (ltD row) 0 l'.length l':=by
  have hd:=lt_of_get hb
  have S:=So.rows (row:=row) hs (n:=n) hn hd hx (mxA_eq hb) (fun h=>by
    obtain ⟨b,l2,rfl⟩:=List.exists_cons_of_ne_nil (l:=l) (fun e=>by rw [e] at hl; simp at hl; omega)
    have:=(hD b (by simp)).1
    omega)
  have hlen:=lenN_ok (x:=n) (by omega)
  obtain ⟨l',hc,h1,h2⟩:=pdq_ok S (ltD_lin row) (cap:=cap) (lim:=(lenN n:Int)) (by omega) (by omega) hl hD
  obtain ⟨N,hN⟩:=hc.from
  rw [MmD_self hb] at hN
  have hu:IntKind.u64.wrap (n:Int)=(n:Int):=by rw [wrapU64]; omega
  have t:=st_a_0 N db n cap H 0 (m0:=(lenN n:Int)) (H0:=H) (fun kf _=>by
    rw [hu,prim_call (pol:=polSl) (g:=68) (F:=len82) (by kernel_rfl) (rs:=[.int .u64 (n:Int)]) rfl (res:=.int .i64 (lenN n:Int)) (by simp only [len82]; rw [if_pos (by omega),Int.toNat_natCast])]; rfl) hN
  have hc2:=CallsTo.shared (P:=Tp) (pol:=polSl) (g:=63) (fn:=Try.f63) (cd:=B63) (args:=[.sl db 0 n cap n 1,.func 64 [] []]) (v:=.tuple []) (by kernel_rfl) (by kernel_rfl) (by kernel_rfl) (by kernel_rfl) t (by kernel_rfl) (by simp) (by kernel_rfl)
  have e:Mm (encD s m) H db l' []=H.set db (.arr 1 (l'.map (encD s m)) true m):=by unfold Mm; rw [List.append_nil,mxA_eq hb]
  rw [e,gc_eq _ (by simp)] at hc2
  exact ⟨l',hc2,h1,by rw [h1.length_eq,hl]; exact h2⟩
end Go.Proofs.Ytaibmipamkaljaa
end
section
open Go Go.HL
namespace Go.Proofs.Ytaibmipamkaljaa
open Go.Proofs.Try renaming prog → Tp
open Go.HL.HV renaming undef → Ud
def cellB (gl x:List Int) (j:Nat):Bool:=decide (0 ≤ x.getD j 0) && decide (x.getD j 0 < gl.getD j 0)
def elB (gl x:List Int):Bool:=decide (x.length=gl.length) && (List.range gl.length).all (cellB gl x)
def element38:List HV → Option HV:=llF fun gl x=>if gl.length ≤ 1000 then some (.bool (elB gl x)) else none
def listB (gl:List Int) (R:List (List Int)):Bool:=R.all (elB gl) && decide (R.length ≤ 60)
def lrF (f:List Int → List (List Int) → Option HV):List HV → Option HV
  | [.imm .arg 1 la,.imm .arg 1 rw]=>(match mapO decI la,mapO decR rw with | some l,some R=>f l R | _,_=>none)
  | _=>none
theorem lrF_inv {f:List Int → List (List Int) → Option HV} {args:List HV} {res:HV} (h:lrF f args=some res):∃ l R,args=[.imm .arg 1 (l.map encI),.imm .arg 1 (R.map encR)]∧f l R=some res:=by
  unfold lrF at h
  split at h
  · rename_i la rw_
    split at h
    · rename_i l R hl hR
      exact ⟨l,R,by rw [mapO_inv decI_inv hl,mapO_inv decR_inv hR],h⟩
    · cases h
  · cases h
def list36:List HV → Option HV:=lrF fun gl R=>if gl.length ≤ 1000∧R.length ≤ 1000 then some (.bool (listB gl R)) else none
def polRl:Pol:={ pol with prim:=fun g=>if g == 38 then some element38 else none }
theorem element38_at {pol':Pol} (hp:pol'.prim 38=some element38) {gl x:List Int} (hl:gl.length ≤ 1000) (H:Heap):∀ k,callN Tp pol' (k+1) 38 [.imm .arg 1 (gl.map encI),.imm .arg 1 (x.map encI)] H=some (.bool (elB gl x),H):=fun k=>by
  have h1:=arg_li H gl
  have h2:=arg_li H x
  have hd:mapO decI (gl.map encI)=some gl:=mapO_map decI_enc gl
  have hd2:mapO decI (x.map encI)=some x:=mapO_map decI_enc x
  rw [prim_call (pol:=pol') (g:=38) (F:=element38) hp (rs:=[.imm .arg 1 (gl.map encI),.imm .arg 1 (x.map encI)]) (by simp only [mapO,h1,h2]) (res:=.bool (elB gl x)) (by simp only [element38,llF,hd,hd2]; rw [if_pos hl])]
  rfl
end Go.Proofs.Ytaibmipamkaljaa
end
section
open Go Go.HL
namespace Go.Proofs.Ytaibmipamkaljaa
set_option maxRecDepth 100000
open Go.Proofs.Try renaming prog → Tp
open Go.HL.HV renaming undef → Ud
noncomputable def B38:Code:=Try.f38.body.getD .skip
abbrev env38 (v0 v1 v4 v5:HV):Env:=[(0,v0),(1,v1),(4,v4),(5,v5)]
theorem re_a_0 (gl xl:List HV) :RT pol 38 (sub [0] B38) [(0,.a gl),(1,.a xl)] [] .normal (env38 (.a gl) (.a xl) (.bool false) Ud) [] :=
  RunsTo.hin 0 60 [] fun kf hk=>⟨_,by kernel_rfl,.nil⟩
theorem re_b_0 (gl xl:List HV)  {y5:HV}(g0:(xl.length:Int)=(gl.length:Int)):RT pol 38 (sub [1,0] B38) (env38 (.a gl) (.a xl) (.bool false) y5) [] .normal (env38 (.a gl) (.a xl) (.bool false) y5) [] :=
  RunsTo.hin 0 60 [⟨1,4,.bool false,[]⟩] fun kf hk=>⟨_,by kernel_rfl,(oB [] (congrArg not (decide_eq_true g0)) .nil)⟩
theorem re_b_1 (gl xl:List HV)  {y5:HV}(g0:¬ ((xl.length:Int)=(gl.length:Int))):RT pol 38 (sub [1,0] B38) (env38 (.a gl) (.a xl) (.bool false) y5) [] .ret (env38 (.a gl) (.a xl) (.bool false) y5) [] :=
  RunsTo.hin 0 60 [⟨1,4,.bool true,[]⟩] fun kf hk=>⟨_,by kernel_rfl,(oB [] (congrArg not (decide_eq_false g0)) .nil)⟩
theorem re_c_0 (gl xl:List HV)  {y5:HV}:RT pol 38 (sub [1,1,0,0] B38) (env38 (.a gl) (.a xl) (.bool false) y5) [] .normal (env38 (.a gl) (.a xl) (.bool false) (.i 0)) [] :=
  RunsTo.hin 0 60 [] fun kf hk=>⟨_,by kernel_rfl,.nil⟩
theorem re_d_0 (gl xl:List HV) (j:Nat) {x0:Int} (g0:(j:Int) < (gl.length:Int)) (g1:idxV Tp 22 (.a xl) (.i (j:Int))=some (.vptr (.i x0))) (g2:x0 < 0):RT pol 38 (sub [1,1,0,1,0,0] B38) (env38 (.a gl) (.a xl) (.bool false) (.i (j:Int))) [] .ret (env38 (.a gl) (.a xl) (.bool false) (.i (j:Int))) [] :=
  RunsTo.hin 0 60 [⟨4,3,.bool true,[]⟩,⟨6,2,.vptr (.i x0),[]⟩,⟨6,4,.bool true,[]⟩] fun kf hk=>⟨_,by kernel_rfl,(oB [] (decide_eq_true g0) (oP [] g1 (oB [] (decide_eq_true g2) .nil)))⟩
theorem re_d_1 (gl xl:List HV) (j:Nat) {x0:Int} {x1:Int} {x2:Int} (g0:(j:Int) < (gl.length:Int)) (g1:idxV Tp 22 (.a xl) (.i (j:Int))=some (.vptr (.i x0))) (g2:¬ (x0 < 0)) (g3:idxV Tp 22 (.a xl) (.i (j:Int))=some (.vptr (.i x1))) (g4:idxV Tp 22 (.a gl) (.i (j:Int))=some (.vptr (.i x2))) (g5:x2 ≤ x1):RT pol 38 (sub [1,1,0,1,0,0] B38) (env38 (.a gl) (.a xl) (.bool false) (.i (j:Int))) [] .ret (env38 (.a gl) (.a xl) (.bool false) (.i (j:Int))) [] :=
  RunsTo.hin 0 60 [⟨4,3,.bool true,[]⟩,⟨6,2,.vptr (.i x0),[]⟩,⟨6,4,.bool false,[]⟩,⟨6,8,.vptr (.i x1),[]⟩,⟨6,12,.vptr (.i x2),[]⟩,⟨6,14,.bool true,[]⟩] fun kf hk=>⟨_,by kernel_rfl,(oB [] (decide_eq_true g0) (oP [] g1 (oB [] (decide_eq_false g2) (oP [] g3 (oP [] g4 (oB [] (decide_eq_true g5) .nil))))))⟩
theorem re_d_2 (gl xl:List HV) (j:Nat) {x0:Int} {x1:Int} {x2:Int} (g0:(j:Int) < (gl.length:Int)) (g1:idxV Tp 22 (.a xl) (.i (j:Int))=some (.vptr (.i x0))) (g2:¬ (x0 < 0)) (g3:idxV Tp 22 (.a xl) (.i (j:Int))=some (.vptr (.i x1))) (g4:idxV Tp 22 (.a gl) (.i (j:Int))=some (.vptr (.i x2))) (g5:¬ (x2 ≤ x1)):RT pol 38 (sub [1,1,0,1,0,0] B38) (env38 (.a gl) (.a xl) (.bool false) (.i (j:Int))) [] .normal (env38 (.a gl) (.a xl) (.bool false) (.i (IntKind.i64.wrap ((j:Int)+1)))) [] :=
  RunsTo.hin 0 60 [⟨4,3,.bool true,[]⟩,⟨6,2,.vptr (.i x0),[]⟩,⟨6,4,.bool false,[]⟩,⟨6,8,.vptr (.i x1),[]⟩,⟨6,12,.vptr (.i x2),[]⟩,⟨6,14,.bool false,[]⟩] fun kf hk=>⟨_,by kernel_rfl,(oB [] (decide_eq_true g0) (oP [] g1 (oB [] (decide_eq_false g2) (oP [] g3 (oP [] g4 (oB [] (decide_eq_false g5) .nil))))))⟩
theorem re_d_3 (gl xl:List HV) (j:Nat)(g0:¬ ((j:Int) < (gl.length:Int))):RT pol 38 (sub [1,1,0,1,0,0] B38) (env38 (.a gl) (.a xl) (.bool false) (.i (j:Int))) [] (.exit 0) (env38 (.a gl) (.a xl) (.bool false) (.i (j:Int))) [] :=
  RunsTo.hin 0 60 [⟨4,3,.bool false,[]⟩] fun kf hk=>⟨_,by kernel_rfl,(oB [] (decide_eq_false g0) .nil)⟩
theorem re_e_0 (gl xl:List HV)  {y5:HV}:RT pol 38 (sub [1,1,1] B38) (env38 (.a gl) (.a xl) (.bool false) y5) [] .ret (env38 (.a gl) (.a xl) (.bool true) y5) [] :=
  RunsTo.hin 0 60 [] fun kf hk=>⟨_,by kernel_rfl,.nil⟩
noncomputable def B36:Code:=Try.f36.body.getD .skip
abbrev env36 (v0 v1 v4 v5:HV):Env:=[(0,v0),(1,v1),(4,v4),(5,v5)]
theorem rl_a_0 (gl rw:List HV) :RT polRl 36 (sub [0] B36) [(0,.a gl),(1,.a rw)] [] .normal (env36 (.a gl) (.a rw) (.bool false) Ud) [] :=
  RunsTo.hin 0 60 [] fun kf hk=>⟨_,by kernel_rfl,.nil⟩
theorem rl_b_0 (gl rw:List HV)  {y5:HV}:RT polRl 36 (sub [1,0,0] B36) (env36 (.a gl) (.a rw) (.bool false) y5) [] .normal (env36 (.a gl) (.a rw) (.bool false) (.i 0)) [] :=
  RunsTo.hin 0 60 [] fun kf hk=>⟨_,by kernel_rfl,.nil⟩
theorem rl_c_0 (gl rw:List HV) (j:Nat) {l0:List HV} (g0:(j:Int) < (rw.length:Int)) (g1:idxV Tp 35 (.a rw) (.i (j:Int))=some (.vptr (.a l0))) (g2:∀ kf,callN Tp polRl (kf+1) 38 [.a gl,.a l0] []=some (.bool true,[])):RT polRl 36 (sub [1,0,1,0,0] B36) (env36 (.a gl) (.a rw) (.bool false) (.i (j:Int))) [] .normal (env36 (.a gl) (.a rw) (.bool false) (.i (IntKind.i64.wrap ((j:Int)+1)))) [] :=
  RunsTo.hin 0 60 [⟨2,3,.bool true,[]⟩,⟨4,3,.vptr (.a l0),[]⟩,⟨4,5,.bool true,[]⟩] fun kf hk=>⟨_,by kernel_rfl,(oB [] (decide_eq_true g0) (oP [] g1 (oC (g2 kf) .nil)))⟩
theorem rl_c_1 (gl rw:List HV) (j:Nat) {l0:List HV} (g0:(j:Int) < (rw.length:Int)) (g1:idxV Tp 35 (.a rw) (.i (j:Int))=some (.vptr (.a l0))) (g2:∀ kf,callN Tp polRl (kf+1) 38 [.a gl,.a l0] []=some (.bool false,[])):RT polRl 36 (sub [1,0,1,0,0] B36) (env36 (.a gl) (.a rw) (.bool false) (.i (j:Int))) [] .ret (env36 (.a gl) (.a rw) (.bool false) (.i (j:Int))) [] :=
  RunsTo.hin 0 60 [⟨2,3,.bool true,[]⟩,⟨4,3,.vptr (.a l0),[]⟩,⟨4,5,.bool false,[]⟩] fun kf hk=>⟨_,by kernel_rfl,(oB [] (decide_eq_true g0) (oP [] g1 (oC (g2 kf) .nil)))⟩
theorem rl_c_2 (gl rw:List HV) (j:Nat)(g0:¬ ((j:Int) < (rw.length:Int))):RT polRl 36 (sub [1,0,1,0,0] B36) (env36 (.a gl) (.a rw) (.bool false) (.i (j:Int))) [] (.exit 0) (env36 (.a gl) (.a rw) (.bool false) (.i (j:Int))) [] :=
  RunsTo.hin 0 60 [⟨2,3,.bool false,[]⟩] fun kf hk=>⟨_,by kernel_rfl,(oB [] (decide_eq_false g0) .nil)⟩
theorem rl_d_0 (gl rw:List HV)  {y5:HV}(g0:(rw.length:Int) ≤ 60):RT polRl 36 (sub [1,1] B36) (env36 (.a gl) (.a rw) (.bool false) y5) [] .ret (env36 (.a gl) (.a rw) (.bool true) y5) [] :=
  RunsTo.hin 0 60 [⟨6,2,.bool true,[]⟩] fun kf hk=>⟨_,by kernel_rfl,(oB [] (decide_eq_true g0) .nil)⟩
theorem rl_d_1 (gl rw:List HV)  {y5:HV}(g0:¬ ((rw.length:Int) ≤ 60)):RT polRl 36 (sub [1,1] B36) (env36 (.a gl) (.a rw) (.bool false) y5) [] .ret (env36 (.a gl) (.a rw) (.bool false) y5) [] :=
  RunsTo.hin 0 60 [⟨6,2,.bool false,[]⟩] fun kf hk=>⟨_,by kernel_rfl,(oB [] (decide_eq_false g0) .nil)⟩
end Go.Proofs.Ytaibmipamkaljaa
end
section
open Go Go.HL
namespace Go.Proofs.Ytaibmipamkaljaa
open Go.Proofs.Try renaming prog → Tp
open Go.HL.HV renaming undef → Ud
theorem res38:Try.f38.results.toList=[.tmp 4]:=by kernel_rfl
abbrev reE (gl x:List Int) (j:Nat):Env:=(env38 (.imm .arg 1 (gl.map encI)) (.imm .arg 1 (x.map encI)) (.bool false) (.int .i64 (j:Int)))
theorem re_loop {gl x:List Int} (hl:gl.length ≤ 1000) (hx:x.length=gl.length):∀ k j,j+k=gl.length →
    ∃ y E,RT pol 38 (sub [1,1,0,1,0] B38) (reE gl x j) [] y E [] ∧
      (((∀ i,j ≤ i → i < gl.length → cellB gl x i=true)∧y=.exit 0∧E=reE gl x gl.length) ∨ ((∃ i,i < gl.length∧cellB gl x i=false)∧y=.ret∧E.get 4=.bool false)):=by
  intro k
  induction k with
  | zero =>
    intro j hj
    have:j=gl.length:=by omega
    subst this
    have s:=re_d_3 (gl.map encI) (x.map encI) gl.length (by rw [List.length_map]; omega)
    exact ⟨_,_,lpo (s) (c:=sub [1,1,0,1,0] B38),.inl ⟨fun i h1 h2=>by omega,rfl,rfl⟩⟩
  | succ k ih =>
    intro j hj
    have hlt:(j:Int) < ((gl.map encI).length:Int):=by rw [List.length_map]; omega
    have gx1:=gx (l:=x) (y:=j) (by omega)
    have gg1:=gx (l:=gl) (y:=j) (by omega)
    by_cases c:x.getD j 0 < 0
    · have s:=re_d_0 (gl.map encI) (x.map encI) j hlt gx1 c
      exact ⟨_,_,lpo (s) (c:=sub [1,1,0,1,0] B38),.inr ⟨⟨j,by omega,by simp only [cellB,decide_eq_false (show ¬ 0 ≤ x.getD j 0 by omega),Bool.false_and]⟩,rfl,rfl⟩⟩
    · by_cases d:gl.getD j 0 ≤ x.getD j 0
      · have s:=re_d_1 (gl.map encI) (x.map encI) j hlt gx1 c gx1 gg1 d
        exact ⟨_,_,lpo (s) (c:=sub [1,1,0,1,0] B38),.inr ⟨⟨j,by omega,by simp only [cellB,decide_eq_false (show ¬ x.getD j 0 < gl.getD j 0 by omega),Bool.and_false]⟩,rfl,rfl⟩⟩
      · have s:=re_d_2 (gl.map encI) (x.map encI) j hlt gx1 c gx1 gg1 d
        rw [wrap_succ (by omega)] at s
        obtain ⟨y,E,h1,h2⟩:=ih (j+1) (by omega)
        refine ⟨y,E,lop (s) (gc_eq _ rfl) (h1),?_⟩
        rcases h2 with ⟨k1,k2⟩ | k2
        · refine .inl ⟨fun i i1 i2=>?_,k2⟩
          by_cases e:i=j
          · subst e
            simp only [cellB,decide_eq_true (show 0 ≤ x.getD i 0 by omega),decide_eq_true (show x.getD i 0 < gl.getD i 0 by omega),Bool.and_self]
          · exact k1 i (by omega) i2
        · exact .inr k2
theorem element38_ok:PrimOk Tp 38 element38:=by
  refine primOk_pure (pol:=pol) (fn:=Try.f38) (cd:=B38) follows_mixed sound (by kernel_rfl) (by kernel_rfl) (fnok pol.prim _ _ (by kernel_rfl)) (by kernel_rfl) ?_
  intro args res h
  obtain ⟨gl,x,rfl,hq⟩:=llF_inv h
  clear h
  split at hq
  case isFalse=>cases hq
  rename_i hl
  cases hq
  have a:=re_a_0 (gl.map encI) (x.map encI)
  by_cases c:x.length=gl.length
  · have b:=re_b_0 (gl.map encI) (x.map encI) (y5:=Ud) (by simp only [List.length_map]; omega)
    have cc:=re_c_0 (gl.map encI) (x.map encI) (y5:=Ud)
    obtain ⟨y,E,lp,h2⟩:=re_loop hl c gl.length 0 (by omega)
    rcases h2 with ⟨k1,rfl,rfl⟩ | ⟨⟨i,i1,i2⟩,rfl,k2⟩
    · have z:=re_e_0 (gl.map encI) (x.map encI) (y5:=.int .i64 (gl.length:Int))
      have u:=sq (a) (sq (b) (sq (sq (cc) (bke (c:=sub [1,1,0,1] B38) (lp)) (c:=sub [1,1,0] B38)) (z) (c:=sub [1,1] B38)) (c:=sub [1] B38)) (c:=B38)
      refine ⟨_,_,_,.bool true,u,by simp,by simp only [resultsV,res38]; rfl,?_⟩
      have e:elB gl x=true:=by
        simp only [elB,decide_eq_true c,Bool.true_and,List.all_eq_true]
        exact fun i hi=>k1 i (by omega) (List.mem_range.1 hi)
      rw [e]; rfl
    · have u:=sq (a) (sq (b) (sqo (sq (cc) (RunsTo.block_ret (i:=0) (c:=sub [1,1,0,1] B38) (lp) (by kernel_rfl)) (c:=sub [1,1,0] B38)) (c:=sub [1,1] B38) (b:=sub [1,1,1] B38)) (c:=sub [1] B38)) (c:=B38)
      refine ⟨_,_,_,.bool false,u,by simp,by simp only [resultsV,res38,mapO,resultV,k2],?_⟩
      have e:elB gl x=false:=by
        have:(List.range gl.length).all (cellB gl x)=false:=by rw [List.all_eq_false]; exact ⟨i,List.mem_range.2 i1,by rw [i2]; simp⟩
        rw [elB,this,Bool.and_false]
      rw [e]; rfl
  · have b:=re_b_1 (gl.map encI) (x.map encI) (y5:=Ud) (by simp only [List.length_map]; omega)
    have u:=sq (a) (sqo (b) (c:=sub [1] B38) (b:=sub [1,1] B38)) (c:=B38)
    refine ⟨_,_,_,.bool false,u,by simp,by simp only [resultsV,res38]; rfl,?_⟩
    rw [elB,decide_eq_false c,Bool.false_and]; rfl
theorem soundRl (n:Nat):CallSound Tp (callN Tp polRl n):=sound_prim _ (fun g f h=>by
  split at h
  · rename_i hg; cases h; rw [eq_of_beq hg]; exact element38_ok
  · cases h) n
theorem res36:Try.f36.results.toList=[.tmp 4]:=by kernel_rfl
abbrev rlE (gl:List Int) (R:List (List Int)) (j:Nat):Env:=(env36 (.imm .arg 1 (gl.map encI)) (.imm .arg 1 (R.map encR)) (.bool false) (.int .i64 (j:Int)))
theorem rl_loop {gl:List Int} {R:List (List Int)} (hl:gl.length ≤ 1000) (hR:R.length ≤ 1000):∀ k j,j+k=R.length →
    ∃ y E,RT polRl 36 (sub [1,0,1,0] B36) (rlE gl R j) [] y E [] ∧
      (((R.drop j).all (elB gl)=true∧y=.exit 0∧E=rlE gl R R.length) ∨ ((R.drop j).all (elB gl)=false∧y=.ret∧E.get 4=.bool false)):=by
  intro k
  induction k with
  | zero =>
    intro j hj
    have:j=R.length:=by omega
    subst this
    have s:=rl_c_2 (gl.map encI) (R.map encR) R.length (by rw [List.length_map]; omega)
    exact ⟨_,_,lpo (s) (c:=sub [1,0,1,0] B36),.inl ⟨by rw [List.drop_length]; rfl,rfl,rfl⟩⟩
  | succ k ih =>
    intro j hj
    have hjl:j < R.length:=by omega
    have hd:R.drop j=R.getD j [] :: R.drop (j+1):=by
      rw [List.drop_eq_getElem_cons hjl]; simp [List.getD,List.getElem?_eq_getElem hjl]
    have hlt:(j:Int) < ((R.map encR).length:Int):=by rw [List.length_map]; omega
    have g1:=gr hjl
    have cl:=element38_at (pol':=polRl) (by kernel_rfl) (gl:=gl) (x:=R.getD j []) hl []
    rw [hd,List.all_cons]
    by_cases c:elB gl (R.getD j [])=true
    · rw [c] at cl
      have s:=rl_c_0 (gl.map encI) (R.map encR) j hlt g1 cl
      rw [wrap_succ (by omega)] at s
      obtain ⟨y,E,h1,h2⟩:=ih (j+1) (by omega)
      refine ⟨y,E,lop (s) (gc_eq _ rfl) (h1),?_⟩
      rw [c,Bool.true_and]; exact h2
    · rw [nb_false c] at cl
      have s:=rl_c_1 (gl.map encI) (R.map encR) j hlt g1 cl
      exact ⟨_,_,lpo (s) (c:=sub [1,0,1,0] B36),.inr ⟨by rw [nb_false c,Bool.false_and],rfl,rfl⟩⟩
theorem list36_ok:PrimOk Tp 36 list36:=by
  refine primOk_pure (pol:=polRl) (fn:=Try.f36) (cd:=B36) follows_mixed soundRl (by kernel_rfl) (by kernel_rfl) (fnok polRl.prim _ _ (by kernel_rfl)) (by kernel_rfl) ?_
  intro args res h
  obtain ⟨gl,R,rfl,hq⟩:=lrF_inv h
  clear h
  split at hq
  case isFalse=>cases hq
  rename_i hk
  cases hq
  have a:=rl_a_0 (gl.map encI) (R.map encR)
  have b:=rl_b_0 (gl.map encI) (R.map encR) (y5:=Ud)
  obtain ⟨y,E,lp,h2⟩:=rl_loop hk.1 hk.2 R.length 0 (by omega)
  rw [List.drop_zero] at h2
  rcases h2 with ⟨k1,rfl,rfl⟩ | ⟨k1,rfl,k2⟩
  · by_cases c:R.length ≤ 60
    · have z:=rl_d_0 (gl.map encI) (R.map encR) (y5:=.int .i64 (R.length:Int)) (by rw [List.length_map]; omega)
      have u:=sq (a) (sq (sq (b) (bke (c:=sub [1,0,1] B36) (lp)) (c:=sub [1,0] B36)) (z) (c:=sub [1] B36)) (c:=B36)
      refine ⟨_,_,_,.bool true,u,by simp,by simp only [resultsV,res36]; rfl,?_⟩
      rw [listB,k1,decide_eq_true c]; rfl
    · have z:=rl_d_1 (gl.map encI) (R.map encR) (y5:=.int .i64 (R.length:Int)) (by rw [List.length_map]; omega)
      have u:=sq (a) (sq (sq (b) (bke (c:=sub [1,0,1] B36) (lp)) (c:=sub [1,0] B36)) (z) (c:=sub [1] B36)) (c:=B36)
      refine ⟨_,_,_,.bool false,u,by simp,by simp only [resultsV,res36]; rfl,?_⟩
      rw [listB,k1,decide_eq_false c]; rfl
  · have u:=sq (a) (sqo (sq (b) (RunsTo.block_ret (i:=0) (c:=sub [1,0,1] B36) (lp) (by kernel_rfl)) (c:=sub [1,0] B36)) (c:=sub [1] B36) (b:=sub [1,1] B36)) (c:=B36)
    refine ⟨_,_,_,.bool false,u,by simp,by simp only [resultsV,res36,mapO,resultV,k2],?_⟩
    rw [listB,k1,Bool.false_and]; rfl
end Go.Proofs.Ytaibmipamkaljaa
end
section
open Go Go.HL
namespace Go.Proofs.Ytaibmipamkaljaa
def sizeT:List Int → Int | [a]=>a | [a,b]=>a * b | _=>0
def codeT:List Int → List Int → Int | [_],[x]=>x | [_,b],[x,y]=>x * b+y | _,_=>0
def decT:List Int → Int → List Int | [_],c=>[c] | [_,b],c=>[c / b,c % b] | _,_=>[]
def lessT:List Int → Int → List Int → List Int | [a],c,[x]=>[(c - x+a) % a] | [a,b],c,[x,y]=>[(c / b - x+a) % a,(c % b - y+b) % b] | _,_,_=>[]
def size40:List HV → Option HV:=liF fun l=>if (newGroupT l).2=true then some (.int .i64 (sizeT l)) else none
def code61:List HV → Option HV:=llF fun l x=>if (newGroupT l).2=true∧elB l x=true then some (.int .i64 (codeT l x)) else none
def decoded41:List HV → Option HV:=lnF fun l c=>if (newGroupT l).2=true∧0 ≤ c∧c < 1000 then some (.own 1 ((decT l c).map encI)) else none
def less60:List HV → Option HV
  | [.imm .arg 1 la,.int .i64 c,.imm .arg 1 lx]=>(match mapO decI la,mapO decI lx with | some l,some x=>if (newGroupT l).2=true∧(0 ≤ c∧c < sizeT l)∧elB l x=true then some (.int .i64 (codeT l (lessT l c x))) else none | _,_=>none)
  | _=>none
theorem less_inv {args:List HV} {res:HV} (h:less60 args=some res):∃ l c x,args=[.imm .arg 1 (l.map encI),.int .i64 c,.imm .arg 1 (x.map encI)]∧((newGroupT l).2=true∧(0 ≤ c∧c < sizeT l)∧elB l x=true)∧res=.int .i64 (codeT l (lessT l c x)):=by
  unfold less60 at h
  split at h
  · rename_i la c lx
    split at h
    · rename_i l x hl hx
      split at h
      · rename_i hk
        cases h
        exact ⟨l,c,x,by rw [mapO_inv decI_inv hl,mapO_inv decI_inv hx],hk,rfl⟩
      · cases h
    · cases h
  · cases h
theorem grp_cases {l:List Int} (h:(newGroupT l).2=true):(∃ a,l=[a]∧2 ≤ a∧a ≤ 24) ∨ (∃ a b,l=[a,b]∧2 ≤ a∧a ≤ 24∧2 ≤ b∧b ≤ 24∧a * b ≤ 144∧b % a=0):=by
  match l with
  | []=>simp [newGroupT] at h
  | [a] =>
    simp only [newGroupT] at h
    split at h
    · rename_i c; have:=of_decide_eq_true c; exact .inl ⟨a,rfl,this.1,this.2⟩
    · cases h
  | [a,b] =>
    simp only [newGroupT] at h
    split at h
    · rename_i c
      rw [Bool.and_eq_true] at c
      have h1:=of_decide_eq_true c.1
      have h2:=of_decide_eq_true c.2
      rw [Bool.and_eq_true] at h
      exact .inr ⟨a,b,rfl,h1.1,h1.2,h2.1,h2.2,of_decide_eq_true h.1,of_decide_eq_true h.2⟩
    · cases h
  | a :: b :: c :: l=>simp [newGroupT] at h
theorem el_one {a:Int} {x:List Int} (h:elB [a] x=true):∃ u,x=[u]∧0 ≤ u∧u < a:=by
  simp only [elB,Bool.and_eq_true,decide_eq_true_eq] at h
  match x,h with
  | [u],h =>
    have:=List.all_eq_true.1 h.2 0 (by simp)
    simp [cellB] at this
    exact ⟨u,rfl,this.1,this.2⟩
theorem el_two {a b:Int} {x:List Int} (h:elB [a,b] x=true):∃ u v,x=[u,v]∧(0 ≤ u∧u < a)∧0 ≤ v∧v < b:=by
  simp only [elB,Bool.and_eq_true,decide_eq_true_eq] at h
  match x,h with
  | [u,v],h =>
    have h0:=List.all_eq_true.1 h.2 0 (by simp)
    have h1:=List.all_eq_true.1 h.2 1 (by simp)
    simp [cellB] at h0 h1
    exact ⟨u,v,rfl,h0,h1⟩
def polLs:Pol:={ pol with prim:=fun g=>if g == 41 then some decoded41 else if g == 61 then some code61 else none }
end Go.Proofs.Ytaibmipamkaljaa
end
section
open Go Go.HL
namespace Go.Proofs.Ytaibmipamkaljaa
set_option maxRecDepth 100000
open Go.Proofs.Try renaming prog → Tp
open Go.HL.HV renaming undef → Ud
noncomputable def B40:Code:=Try.f40.body.getD .skip
abbrev env40 (v0 v2 v3 v4:HV):Env:=[(0,v0),(2,v2),(3,v3),(4,v4)]
theorem sz_a_0 (a:Int):RT pol 40 (sub [] B40) [(0,.a [.i a])] [] .ret (env40 (.a [.i a]) (.i (IntKind.i64.wrap (1 * a))) (.i (IntKind.i64.wrap (1 * a))) (.i 1)) [] :=
  RunsTo.hin 0 60 [] fun kf hk=>⟨_,by kernel_rfl,.nil⟩
theorem sz_b_0 (a b:Int):RT pol 40 (sub [] B40) [(0,.a [.i a,.i b])] [] .ret (env40 (.a [.i a,.i b]) (.i (IntKind.i64.wrap (IntKind.i64.wrap (1 * a) * b))) (.i (IntKind.i64.wrap (IntKind.i64.wrap (1 * a) * b))) (.i 2)) [] :=
  RunsTo.hin 0 60 [] fun kf hk=>⟨_,by kernel_rfl,.nil⟩
noncomputable def B61:Code:=Try.f61.body.getD .skip
abbrev env61 (v0 v1 v4 v5 v6:HV):Env:=[(0,v0),(1,v1),(4,v4),(5,v5),(6,v6)]
theorem co_a_0 (a x:Int):RT pol 61 (sub [] B61) [(0,.a [.i a]),(1,.a [.i x])] [] .ret (env61 (.a [.i a]) (.a [.i x]) (.i (IntKind.i64.wrap (IntKind.i64.wrap (0 * a)+x))) (.i (IntKind.i64.wrap (IntKind.i64.wrap (0 * a)+x))) (.i 1)) [] :=
  RunsTo.hin 0 60 [] fun kf hk=>⟨_,by kernel_rfl,.nil⟩
theorem co_b_0 (a b x y:Int):RT pol 61 (sub [] B61) [(0,.a [.i a,.i b]),(1,.a [.i x,.i y])] [] .ret (env61 (.a [.i a,.i b]) (.a [.i x,.i y]) (.i (IntKind.i64.wrap (IntKind.i64.wrap (IntKind.i64.wrap (IntKind.i64.wrap (0 * a)+x) * b)+y))) (.i (IntKind.i64.wrap (IntKind.i64.wrap (IntKind.i64.wrap (IntKind.i64.wrap (0 * a)+x) * b)+y))) (.i 2)) [] :=
  RunsTo.hin 0 60 [] fun kf hk=>⟨_,by kernel_rfl,.nil⟩
noncomputable def B41:Code:=Try.f41.body.getD .skip
abbrev env41 (v0 v1 v4:HV):Env:=[(0,v0),(1,v1),(4,v4)]
theorem de_a_0 (a c:Int):RT pol 41 (sub [] B41) [(0,.a [.i a]),(1,.i c)] [] .ret (env41 (.a [.i a]) (.i c) (.o 0 1)) [.arr 1 [.i c] true 0] :=
  RunsTo.hin 0 60 [] fun kf hk=>⟨_,by kernel_rfl,.nil⟩
theorem de_b_0 (a b c:Int)(g0:binV Tp .quo 3 (.i c) (.i b)=some (.i (IntKind.i64.wrap ((c:Int).tdiv b)))) (g1:binV Tp .rem 3 (.i c) (.i b)=some (.i ((c:Int).tmod b))):RT pol 41 (sub [] B41) [(0,.a [.i a,.i b]),(1,.i c)] [] .ret (env41 (.a [.i a,.i b]) (.i c) (.o 0 2)) [.arr 1 [.i (IntKind.i64.wrap ((c:Int).tdiv b)),.i ((c:Int).tmod b)] true 0] :=
  RunsTo.hin 0 60 [⟨3,4,.i (IntKind.i64.wrap ((c:Int).tdiv b)),[]⟩,⟨3,9,.i ((c:Int).tmod b),[]⟩] fun kf hk=>⟨_,by kernel_rfl,(oP [] g0 (oP [] g1 .nil))⟩
noncomputable def B60:Code:=Try.f60.body.getD .skip
abbrev env60 (v0 v1 v2 v6 v7 v8:HV):Env:=[(0,v0),(1,v1),(2,v2),(6,v6),(7,v7),(8,v8)]
theorem ls_a_0 (a c x:Int) (d0:Int) (cd0:Int) (g0:∀ kf,callN Tp polLs (kf+1) 41 [.a [.i a],.i c] []=some (.s 0 1,[.arr 1 [.i d0] true 0])) (g1:binV Tp .rem 3 (.i (IntKind.i64.wrap (IntKind.i64.wrap (d0 - x)+a))) (.i a)=some (.i ((IntKind.i64.wrap (IntKind.i64.wrap (d0 - x)+a):Int).tmod a))) (g2:∀ kf,callN Tp polLs (kf+1) 61 [.a [.i a],.s 0 1] [.arr 1 [.i ((IntKind.i64.wrap (IntKind.i64.wrap (d0 - x)+a):Int).tmod a)] true 0]=some (.i cd0,[.arr 1 [.i ((IntKind.i64.wrap (IntKind.i64.wrap (d0 - x)+a):Int).tmod a)] true 0])):RT polLs 60 (sub [] B60) [(0,.a [.i a]),(1,.i c),(2,.a [.i x])] [] .ret (env60 (.a [.i a]) (.i c) (.a [.i x]) (.i cd0) (.s 0 1) (.i 1)) [.arr 1 [.i ((IntKind.i64.wrap (IntKind.i64.wrap (d0 - x)+a):Int).tmod a)] true 0] :=
  RunsTo.hin 0 60 [⟨1,2,.s 0 1,[.arr 1 [.i d0] true 0]⟩,⟨5,20,.i ((IntKind.i64.wrap (IntKind.i64.wrap (d0 - x)+a):Int).tmod a),[.arr 1 [.i d0] true 0]⟩,⟨6,2,.i cd0,[.arr 1 [.i ((IntKind.i64.wrap (IntKind.i64.wrap (d0 - x)+a):Int).tmod a)] true 0]⟩] fun kf hk=>⟨_,by kernel_rfl,(oC (g0 kf) (oP [.arr 1 [.i d0] true 0] g1 (oC (g2 kf) .nil)))⟩
theorem ls_b_0 (a b c x y:Int) (d0:Int) (d1:Int) (cd0:Int) (g0:∀ kf,callN Tp polLs (kf+1) 41 [.a [.i a,.i b],.i c] []=some (.s 0 2,[.arr 1 [.i d0,.i d1] true 0])) (g1:binV Tp .rem 3 (.i (IntKind.i64.wrap (IntKind.i64.wrap (d0 - x)+a))) (.i a)=some (.i ((IntKind.i64.wrap (IntKind.i64.wrap (d0 - x)+a):Int).tmod a))) (g2:binV Tp .rem 3 (.i (IntKind.i64.wrap (IntKind.i64.wrap (d1 - y)+b))) (.i b)=some (.i ((IntKind.i64.wrap (IntKind.i64.wrap (d1 - y)+b):Int).tmod b))) (g3:∀ kf,callN Tp polLs (kf+1) 61 [.a [.i a,.i b],.s 0 2] [.arr 1 [.i ((IntKind.i64.wrap (IntKind.i64.wrap (d0 - x)+a):Int).tmod a),.i ((IntKind.i64.wrap (IntKind.i64.wrap (d1 - y)+b):Int).tmod b)] true 0]=some (.i cd0,[.arr 1 [.i ((IntKind.i64.wrap (IntKind.i64.wrap (d0 - x)+a):Int).tmod a),.i ((IntKind.i64.wrap (IntKind.i64.wrap (d1 - y)+b):Int).tmod b)] true 0])):RT polLs 60 (sub [] B60) [(0,.a [.i a,.i b]),(1,.i c),(2,.a [.i x,.i y])] [] .ret (env60 (.a [.i a,.i b]) (.i c) (.a [.i x,.i y]) (.i cd0) (.s 0 2) (.i 2)) [.arr 1 [.i ((IntKind.i64.wrap (IntKind.i64.wrap (d0 - x)+a):Int).tmod a),.i ((IntKind.i64.wrap (IntKind.i64.wrap (d1 - y)+b):Int).tmod b)] true 0] :=
  RunsTo.hin 0 60 [⟨1,2,.s 0 2,[.arr 1 [.i d0,.i d1] true 0]⟩,⟨5,20,.i ((IntKind.i64.wrap (IntKind.i64.wrap (d0 - x)+a):Int).tmod a),[.arr 1 [.i d0,.i d1] true 0]⟩,⟨5,20,.i ((IntKind.i64.wrap (IntKind.i64.wrap (d1 - y)+b):Int).tmod b),[.arr 1 [.i ((IntKind.i64.wrap (IntKind.i64.wrap (d0 - x)+a):Int).tmod a),.i d1] true 0]⟩,⟨6,2,.i cd0,[.arr 1 [.i ((IntKind.i64.wrap (IntKind.i64.wrap (d0 - x)+a):Int).tmod a),.i ((IntKind.i64.wrap (IntKind.i64.wrap (d1 - y)+b):Int).tmod b)] true 0]⟩] fun kf hk=>⟨_,by kernel_rfl,(oC (g0 kf) (oP [.arr 1 [.i d0,.i d1] true 0] g1 (oP [.arr 1 [.i ((IntKind.i64.wrap (IntKind.i64.wrap (d0 - x)+a):Int).tmod a),.i d1] true 0] g2 (oC (g3 kf) .nil))))⟩
end Go.Proofs.Ytaibmipamkaljaa
end
section
open Go Go.HL
namespace Go.Proofs.Ytaibmipamkaljaa
open Go.Proofs.Try renaming prog → Tp
open Go.HL.HV renaming undef → Ud
theorem res40:Try.f40.results.toList=[.tmp 2]:=by kernel_rfl
theorem mul_b {a b:Int} (h1:2 ≤ a) (h2:2 ≤ b) (h:a * b ≤ 144):0 ≤ a * b:=Int.mul_nonneg (by omega) (by omega)
theorem size_ok:PrimOk Tp 40 size40:=by
  refine primOk_pure (pol:=pol) (fn:=Try.f40) (cd:=B40) follows_mixed sound (by kernel_rfl) (by kernel_rfl) (fnok pol.prim _ _ (by kernel_rfl)) (by kernel_rfl) ?_
  intro args res h
  obtain ⟨l,rfl,hq⟩:=liF_inv h
  clear h
  split at hq
  case isFalse=>cases hq
  rename_i hk
  cases hq
  rcases grp_cases hk with ⟨a,rfl,h1,h2⟩ | ⟨a,b,rfl,h1,h2,h3,h4,h5,h6⟩
  · refine ⟨_,_,_,.int .i64 a,sz_a_0 a,by simp,?_,rfl⟩
    rw [Int.one_mul,wrap_id (by omega) (by omega)]
    simp only [resultsV,res40]; rfl
  · refine ⟨_,_,_,.int .i64 (a * b),sz_b_0 a b,by simp,?_,rfl⟩
    have:=mul_b h1 h3 h5
    rw [Int.one_mul,wrap_id (n:=a) (by omega) (by omega),wrap_id (n:=a * b) (by omega) (by omega)]
    simp only [resultsV,res40]; rfl
theorem res61:Try.f61.results.toList=[.tmp 4]:=by kernel_rfl
theorem cod_b {a b u v:Int} (h1:2 ≤ a) (h2:2 ≤ b) (h:a * b ≤ 144) (hu:0 ≤ u∧u < a) (hv:0 ≤ v∧v < b):0 ≤ u * b∧u * b+v < a * b∧u * b ≤ 144:=by
  have e1:0 ≤ u * b:=Int.mul_nonneg hu.1 (by omega)
  have e2:(u+1) * b ≤ a * b:=Int.mul_le_mul_of_nonneg_right (by omega) (by omega)
  rw [Int.add_mul,Int.one_mul] at e2
  omega
theorem code_ok:PrimOk Tp 61 code61:=by
  refine primOk_pure (pol:=pol) (fn:=Try.f61) (cd:=B61) follows_mixed sound (by kernel_rfl) (by kernel_rfl) (fnok pol.prim _ _ (by kernel_rfl)) (by kernel_rfl) ?_
  intro args res h
  obtain ⟨l,x,rfl,hq⟩:=llF_inv h
  clear h
  split at hq
  case isFalse=>cases hq
  rename_i hk
  cases hq
  rcases grp_cases hk.1 with ⟨a,rfl,h1,h2⟩ | ⟨a,b,rfl,h1,h2,h3,h4,h5,h6⟩
  · obtain ⟨u,rfl,u1,u2⟩:=el_one hk.2
    refine ⟨_,_,_,.int .i64 u,co_a_0 a u,by simp,?_,rfl⟩
    rw [Int.zero_mul,wrap_id (n:=0) (by omega) (by omega),Int.zero_add,wrap_id (n:=u) (by omega) (by omega)]
    simp only [resultsV,res61]; rfl
  · obtain ⟨u,v,rfl,hu,hv⟩:=el_two hk.2
    have cb:=cod_b h1 h3 h5 hu hv
    refine ⟨_,_,_,.int .i64 (u * b+v),co_b_0 a b u v,by simp,?_,rfl⟩
    rw [Int.zero_mul,wrap_id (n:=0) (by omega) (by omega),Int.zero_add,wrap_id (n:=u) (by omega) (by omega),wrap_id (n:=u * b) (by omega) (by omega),wrap_id (n:=u * b+v) (by omega) (by omega)]
    simp only [resultsV,res61]; rfl
theorem res41:Try.f41.results.toList=[.tmp 4]:=by kernel_rfl
theorem decoded_ok:PrimOk Tp 41 decoded41:=by
  refine primOk_pure (pol:=pol) (fn:=Try.f41) (cd:=B41) follows_mixed sound (by kernel_rfl) (by kernel_rfl) (fnok pol.prim _ _ (by kernel_rfl)) (by kernel_rfl) ?_
  intro args res h
  obtain ⟨l,c,rfl,hq⟩:=lnF_inv h
  clear h
  split at hq
  case isFalse=>cases hq
  rename_i hk
  cases hq
  obtain ⟨hk,c0,c1⟩:=hk
  rcases grp_cases hk with ⟨a,rfl,h1,h2⟩ | ⟨a,b,rfl,h1,h2,h3,h4,h5,h6⟩
  · exact ⟨_,_,_,.sl 0 0 1 (some 1) 1 1,de_a_0 a c,by simp,by simp only [resultsV,res41]; rfl,rfl⟩
  · have s:=de_b_0 a b c (quo3 (by omega)) (rem3 (by omega))
    have q1:c.tdiv b=c / b:=Int.tdiv_eq_ediv_of_nonneg c0
    have q2:c.tmod b=c % b:=Int.tmod_eq_emod_of_nonneg c0
    have q3:=Int.ediv_nonneg (a:=c) (b:=b) c0 (by omega)
    have q4:=Int.ediv_le_self b c0
    rw [q1,q2,wrap_id (n:=c / b) (by omega) (by omega)] at s
    exact ⟨_,_,_,.sl 0 0 2 (some 2) 2 1,s,by simp,by simp only [resultsV,res41]; rfl,rfl⟩
theorem soundLs (n:Nat):CallSound Tp (callN Tp polLs n):=sound_prim _ (fun g f h=>by
  split at h
  · rename_i hg; cases h; rw [eq_of_beq hg]; exact decoded_ok
  split at h
  · rename_i hg; cases h; rw [eq_of_beq hg]; exact code_ok
  · cases h) n
theorem decoded_at {pol':Pol} (hp:pol'.prim 41=some decoded41) {l:List Int} {c:Int} (hk:(newGroupT l).2=true∧0 ≤ c∧c < 1000) (H:Heap):∀ k,callN Tp pol' (k+1) 41 [.imm .arg 1 (l.map encI),.int .i64 c] H=some (.sl H.length 0 (decT l c).length none (decT l c).length 1,H ++ [bI (decT l c)]):=fun k=>by
  have h1:=arg_li H l
  have hN:toArg H 6 (.int .i64 c)=some (.int .i64 c):=rfl
  have hd:mapO decI (l.map encI)=some l:=mapO_map decI_enc l
  rw [prim_call (pol:=pol') (g:=41) (F:=decoded41) hp (rs:=[.imm .arg 1 (l.map encI),.int .i64 c]) (by simp only [mapO,h1,hN]) (res:=.own 1 ((decT l c).map encI)) (by simp only [decoded41,lnF,hd]; rw [if_pos hk]),recv_ints]
theorem code_at {pol':Pol} (hp:pol'.prim 61=some code61) {l x:List Int} {v:HV} {H:Heap} (hv:toArg H 6 v=some (.imm .arg 1 (x.map encI))) (hk:(newGroupT l).2=true∧elB l x=true):∀ k,callN Tp pol' (k+1) 61 [.imm .arg 1 (l.map encI),v] H=some (.int .i64 (codeT l x),H):=fun k=>by
  have h1:=arg_li H l
  have hd:mapO decI (l.map encI)=some l:=mapO_map decI_enc l
  have hd2:mapO decI (x.map encI)=some x:=mapO_map decI_enc x
  rw [prim_call (pol:=pol') (g:=61) (F:=code61) hp (rs:=[.imm .arg 1 (l.map encI),.imm .arg 1 (x.map encI)]) (by simp only [mapO,h1,hv]) (res:=.int .i64 (codeT l x)) (by simp only [code61,llF,hd,hd2]; rw [if_pos hk])]
  rfl
theorem res60:Try.f60.results.toList=[.tmp 6]:=by kernel_rfl
theorem mod_in {m:Int} (h:0 < m) (z:Int):0 ≤ z % m∧z % m < m:=⟨Int.emod_nonneg _ (by omega),Int.emod_lt_of_pos _ h⟩
theorem el_mk1 {a u:Int} (h:0 ≤ u∧u < a):elB [a] [u]=true:=by simp [elB,cellB,h.1,h.2]
theorem el_mk2 {a b u v:Int} (h:0 ≤ u∧u < a) (k:0 ≤ v∧v < b):elB [a,b] [u,v]=true:=by simp [elB,cellB,h.1,h.2,k.1,k.2,List.range_succ]
theorem less_ok:PrimOk Tp 60 less60:=by
  refine primOk_pure (pol:=polLs) (fn:=Try.f60) (cd:=B60) follows_mixed soundLs (by kernel_rfl) (by kernel_rfl) (fnok polLs.prim _ _ (by kernel_rfl)) (by kernel_rfl) ?_
  intro args res h
  obtain ⟨l,c,x,rfl,⟨hg,⟨c0,c1⟩,hx⟩,rfl⟩:=less_inv h
  rcases grp_cases hg with ⟨a,rfl,h1,h2⟩ | ⟨a,b,rfl,h1,h2,h3,h4,h5,h6⟩
  · obtain ⟨u,rfl,u1,u2⟩:=el_one hx
    have c1':c < a:=c1
    have dc:=decoded_at (pol':=polLs) (by kernel_rfl) (l:=[a]) (c:=c) ⟨hg,c0,by omega⟩ []
    have w:IntKind.i64.wrap (IntKind.i64.wrap (c - u)+a)=c - u+a:=by rw [wrap_id (n:=c - u) (by omega) (by omega)]; exact wrap_id (by omega) (by omega)
    have t:(c - u+a).tmod a=(c - u+a) % a:=Int.tmod_eq_emod_of_nonneg (by omega)
    have cc:=code_at (pol':=polLs) (by kernel_rfl) (l:=[a]) (x:=[(c - u+a) % a]) (v:=.sl 0 0 1 none 1 1) (H:=[bI [(c - u+a) % a]]) (arg_sl rfl rfl) ⟨hg,el_mk1 (mod_in (by omega) _)⟩
    have s:=ls_a_0 a c u c _ dc (rem3 (by omega)) (by rw [w,t]; exact cc)
    exact ⟨_,_,_,_,s,by simp,by simp only [resultsV,res60]; rfl,rfl⟩
  · obtain ⟨u,v,rfl,hu,hv⟩:=el_two hx
    have c1':c < a * b:=c1
    have dc:=decoded_at (pol':=polLs) (by kernel_rfl) (l:=[a,b]) (c:=c) ⟨hg,c0,by omega⟩ []
    have q3:=Int.ediv_nonneg (a:=c) (b:=b) c0 (by omega)
    have q4:c / b < a:=Int.ediv_lt_of_lt_mul (by omega) c1'
    have q5:=mod_in (m:=b) (by omega) c
    have w:IntKind.i64.wrap (IntKind.i64.wrap (c / b - u)+a)=c / b - u+a:=by rw [wrap_id (n:=c / b - u) (by omega) (by omega)]; exact wrap_id (by omega) (by omega)
    have w2:IntKind.i64.wrap (IntKind.i64.wrap (c % b - v)+b)=c % b - v+b:=by rw [wrap_id (n:=c % b - v) (by omega) (by omega)]; exact wrap_id (by omega) (by omega)
    have t:(c / b - u+a).tmod a=(c / b - u+a) % a:=Int.tmod_eq_emod_of_nonneg (by omega)
    have t2:(c % b - v+b).tmod b=(c % b - v+b) % b:=Int.tmod_eq_emod_of_nonneg (by omega)
    have cc:=code_at (pol':=polLs) (by kernel_rfl) (l:=[a,b]) (x:=[(c / b - u+a) % a,(c % b - v+b) % b]) (v:=.sl 0 0 2 none 2 1) (H:=[bI [(c / b - u+a) % a,(c % b - v+b) % b]]) (arg_sl rfl rfl) ⟨hg,el_mk2 (mod_in (by omega) _) (mod_in (by omega) _)⟩
    have s:=ls_b_0 a b c u v (c / b) (c % b) _ dc (rem3 (by omega)) (rem3 (by omega)) (by rw [w,t,w2,t2]; exact cc)
    exact ⟨_,_,_,_,s,by simp,by simp only [resultsV,res60]; rfl,rfl⟩
end Go.Proofs.Ytaibmipamkaljaa
end
section
open Go Go.HL
namespace Go.Proofs.Ytaibmipamkaljaa
def lessC (gl:List Int) (c:Int) (x:List Int):Int:=codeT gl (lessT gl c x)
def fT (gl:List Int):List (List Int) → Int → Int
  | [],c=>if c=0 then 0 else 1099511627776
  | x :: R,c=>min (fT gl R c) (1+fT gl R (lessC gl c x))
theorem size_bnd {l:List Int} (h:(newGroupT l).2=true):0 < sizeT l∧sizeT l ≤ 144:=by
  rcases grp_cases h with ⟨a,rfl,h1,h2⟩ | ⟨a,b,rfl,h1,h2,h3,h4,h5,h6⟩
  · simp only [sizeT]; omega
  · have:=Int.mul_pos (show 0 < a by omega) (show 0 < b by omega)
    simp only [sizeT]; omega
theorem code_bnd {l x:List Int} (h:(newGroupT l).2=true) (hx:elB l x=true):0 ≤ codeT l x∧codeT l x < sizeT l:=by
  rcases grp_cases h with ⟨a,rfl,h1,h2⟩ | ⟨a,b,rfl,h1,h2,h3,h4,h5,h6⟩
  · obtain ⟨u,rfl,k1,k2⟩:=el_one hx
    exact ⟨k1,k2⟩
  · obtain ⟨u,v,rfl,k1,k2⟩:=el_two hx
    have:=cod_b h1 h3 h5 k1 k2
    simp only [codeT,sizeT]; omega
theorem less_el {l x:List Int} {c:Int} (h:(newGroupT l).2=true) (hx:elB l x=true):elB l (lessT l c x)=true:=by
  rcases grp_cases h with ⟨a,rfl,h1,h2⟩ | ⟨a,b,rfl,h1,h2,h3,h4,h5,h6⟩
  · obtain ⟨u,rfl,k1⟩:=el_one hx
    exact el_mk1 (mod_in (by omega) _)
  · obtain ⟨u,v,rfl,k1,k2⟩:=el_two hx
    exact el_mk2 (mod_in (by omega) _) (mod_in (by omega) _)
end Go.Proofs.Ytaibmipamkaljaa
end
section
open Go Go.HL
namespace Go.Proofs.Ytaibmipamkaljaa
def tE (gl:List Int) (c:Int):El:=match gl with | [_,b]=>(c / b,c % b) | _=>(c,0)
abbrev eE (gl x:List Int):El:=tE gl (codeT gl x)
abbrev els (gl:List Int) (R:List (List Int)):List El:=R.map (eE gl)
abbrev grG (gl:List Int):Gr:=(newGroupT gl).1
theorem in_B {a lo hi:Int} (h:lo ≤ a∧a ≤ hi):inB a lo hi=true:=decide_eq_true h
theorem new_one {a:Int} (h1:2 ≤ a) (h2:a ≤ 24):newGroupT [a]=((a,1,1),true):=by simp only [newGroupT]; rw [if_pos (in_B ⟨h1,h2⟩)]
theorem new_two {a b:Int} (h1:2 ≤ a) (h2:a ≤ 24) (h3:2 ≤ b) (h4:b ≤ 24) (h5:a * b ≤ 144) (h6:b % a=0):newGroupT [a,b]=((a,b,2),true):=by
  simp only [newGroupT]; rw [in_B ⟨h1,h2⟩,in_B ⟨h3,h4⟩,decide_eq_true h5,decide_eq_true h6]; rfl
theorem tE_two {b u v a:Int} (h:0 ≤ v∧v < b):tE [a,b] (u * b+v)=(u,v):=by
  show ((u * b+v) / b,(u * b+v) % b)=_
  rw [Int.add_comm,Int.add_mul_ediv_right _ _ (by omega),Int.add_mul_emod_self_right,Int.ediv_eq_zero_of_lt h.1 h.2,Int.emod_eq_of_lt h.1 h.2,Int.zero_add]
theorem el_E {gl x:List Int} (hg:(newGroupT gl).2=true) (hx:elB gl x=true):elementT (grG gl) x=(eE gl x,true):=by
  rcases grp_cases hg with ⟨a,rfl,h1,h2⟩ | ⟨a,b,rfl,h1,h2,h3,h4,h5,h6⟩
  · obtain ⟨u,rfl,k1,k2⟩:=el_one hx
    simp only [grG,new_one h1 h2,elementT]
    rw [if_pos ⟨trivial,in_B ⟨k1,by omega⟩⟩]; rfl
  · obtain ⟨u,v,rfl,k1,k2⟩:=el_two hx
    simp only [grG,new_two h1 h2 h3 h4 h5 h6,elementT,eE,codeT,tE_two k2]
    rw [if_pos ⟨trivial,in_B ⟨k1.1,by omega⟩⟩,if_pos (in_B ⟨k2.1,by omega⟩)]
theorem grG_ok {gl:List Int} (hg:(newGroupT gl).2=true):grOk (grG gl):=by
  rcases grp_cases hg with ⟨a,rfl,h1,h2⟩ | ⟨a,b,rfl,h1,h2,h3,h4,h5,h6⟩
  · simp only [grG,new_one h1 h2]; exact ⟨⟨by show 1 ≤ a; omega,by show a ≤ 1000; omega⟩,by show (1:Int) ≤ 1; omega,by show (1:Int) ≤ 1000; omega⟩
  · simp only [grG,new_two h1 h2 h3 h4 h5 h6]; exact ⟨⟨by show 1 ≤ a; omega,by show a ≤ 1000; omega⟩,by show 1 ≤ b; omega,by show b ≤ 1000; omega⟩
theorem tE_ok {gl:List Int} (hg:(newGroupT gl).2=true) {c:Int} (hc:0 ≤ c∧c < sizeT gl):elOk (grG gl) (tE gl c):=by
  rcases grp_cases hg with ⟨a,rfl,h1,h2⟩ | ⟨a,b,rfl,h1,h2,h3,h4,h5,h6⟩
  · simp only [grG,new_one h1 h2]; exact ⟨hc,Int.le_refl _,by show (0:Int) < 1; omega⟩
  · have c1:c < a * b:=hc.2
    simp only [grG,new_two h1 h2 h3 h4 h5 h6]
    exact ⟨⟨Int.ediv_nonneg hc.1 (by omega),Int.ediv_lt_of_lt_mul (by omega) c1⟩,Int.emod_nonneg _ (by omega),Int.emod_lt_of_pos _ (by omega)⟩
theorem tE_less {gl x:List Int} (hg:(newGroupT gl).2=true) {c:Int} (hx:elB gl x=true):tE gl (lessC gl c x)=subT (grG gl) (tE gl c) (eE gl x):=by
  rcases grp_cases hg with ⟨a,rfl,h1,h2⟩ | ⟨a,b,rfl,h1,h2,h3,h4,h5,h6⟩
  · obtain ⟨u,rfl,k1,k2⟩:=el_one hx
    simp only [grG,new_one h1 h2]; exact Prod.ext rfl (by show (0:Int)=(0 - 0+1) % 1; decide)
  · obtain ⟨u,v,rfl,k1,k2⟩:=el_two hx
    simp only [grG,new_two h1 h2 h3 h4 h5 h6,eE,lessC,codeT,lessT]
    rw [tE_two (mod_in (by omega) _),tE_two k2]; rfl
theorem eE_ok {gl x:List Int} (hg:(newGroupT gl).2=true) (hx:elB gl x=true):elOk (grG gl) (eE gl x):=tE_ok hg (code_bnd hg hx)
theorem add_subT {g:Gr} (hg:grOk g) {x u:El} (hu:elOk g u):addT g (subT g u x) x=u:=by
  obtain ⟨m0,m1,sz⟩:=g
  obtain ⟨⟨g1,g2⟩,g3,g4⟩:=hg
  obtain ⟨x0,x1⟩:=x
  obtain ⟨u0,u1⟩:=u
  obtain ⟨⟨b1,b2⟩,b3,b4⟩:=hu
  simp only at g1 g2 g3 g4 b1 b2 b3 b4
  have key:∀ (m a b:Int),0 ≤ b → b < m → ((b - a+m) % m+a) % m=b:=by
    intro m a b h3 h4
    rw [Int.emod_add_emod,show b - a+m+a=b+m by omega,Int.add_emod_right]
    exact Int.emod_eq_of_lt h3 h4
  simp only [subT,addT]
  rw [key m0 x0 u0 b1 b2,key m1 x1 u1 b3 b4]
end Go.Proofs.Ytaibmipamkaljaa
end
section
open Go Go.HL
namespace Go.Proofs.Ytaibmipamkaljaa
theorem listB_iff {gl:List Int} {R:List (List Int)}:listB gl R=true ↔ (∀ x ∈ R,elB gl x=true)∧R.length ≤ 60:=by simp [listB,List.all_eq_true]
theorem elems_B {gl:List Int} (hg:(newGroupT gl).2=true) {R:List (List Int)} (h:listB gl R=true):elemsT (grG gl) R=some (els gl R):=by
  obtain ⟨h1,h2⟩:=listB_iff.1 h
  have e1:∀ x ∈ R,elementT (grG gl) x=(eE gl x,true):=fun x hx=>el_E hg (h1 x hx)
  unfold elemsT
  rw [if_pos ⟨h2,List.all_eq_true.2 fun x hx=>by rw [e1 x hx]⟩]
  congr 1
  exact List.map_congr_left fun x hx=>by rw [e1 x hx]
theorem grp_len {gl:List Int} (hg:(newGroupT gl).2=true):1 ≤ gl.length∧gl.length ≤ 2:=by
  rcases grp_cases hg with ⟨a,rfl,_⟩ | ⟨a,b,rfl,_⟩ <;> simp
end Go.Proofs.Ytaibmipamkaljaa
end
section
open Go Go.HL
namespace Go.Proofs.Ytaibmipamkaljaa
open Go.Proofs.Try renaming prog → Tp
open Go.HL.HV renaming undef → Ud
def rowF (gl:List Int) (R:List (List Int)):List Int:=(List.range (sizeT gl).toNat).map fun (c:Nat)=>fT gl R (c:Int)
def FJ (gl:List Int) (s:List (List Int)) (T:List Int) (c:Nat):Prop:=T.length=(sizeT gl).toNat∧∀ j,j < c → T.getD j 0=fT gl s (j:Int)
theorem FJ.put {gl:List Int} {s:List (List Int)} {T:List Int} {c:Nat} (h:FJ gl s T c) (hc:c < (sizeT gl).toNat):FJ gl s (T.set c (fT gl s (c:Int))) (c+1):=by
  refine ⟨by rw [List.length_set]; exact h.1,fun j hj=>?_⟩
  by_cases e:j=c
  · subst e
    simp [List.getD,List.getElem?_set,h.1,hc]
  · have:=h.2 j (by omega)
    simp only [List.getD,List.getElem?_set] at this ⊢
    rw [if_neg (fun h=>e h.symm)]; exact this
theorem FJ.row {gl:List Int} {s:List (List Int)} {T:List Int} (h:FJ gl s T (sizeT gl).toNat):T=rowF gl s:=by
  apply List.ext_getElem
  · rw [h.1]; simp [rowF]
  · intro j h1 h2
    have:=h.2 j (by have:=h.1; omega)
    simp only [rowF,List.getElem_map,List.getElem_range]
    rw [← this]; simp [List.getD,List.getElem?_eq_getElem h1]
theorem less_at {pol':Pol} (hp:pol'.prim 60=some less60) {l x:List Int} {c:Int} (hg:(newGroupT l).2=true) (hc:0 ≤ c∧c < sizeT l) (hx:elB l x=true) (H:Heap):∀ k,callN Tp pol' (k+1) 60 [.imm .arg 1 (l.map encI),.int .i64 c,.imm .arg 1 (x.map encI)] H=some (.int .i64 (lessC l c x),H):=fun k=>by
  have hd:mapO decI (l.map encI)=some l:=mapO_map decI_enc l
  have hd2:mapO decI (x.map encI)=some x:=mapO_map decI_enc x
  have hN:toArg H 6 (.int .i64 c)=some (.int .i64 c):=rfl
  rw [prim_call (pol:=pol') (g:=60) (F:=less60) hp (rs:=[.imm .arg 1 (l.map encI),.int .i64 c,.imm .arg 1 (x.map encI)]) (by simp only [mapO,arg_li,hN]) (res:=.int .i64 (lessC l c x)) (by simp only [less60,hd,hd2]; rw [if_pos ⟨hg,hc,hx⟩]; rfl)]
  rfl
end Go.Proofs.Ytaibmipamkaljaa
end
section
open Go Go.HL
namespace Go.Proofs.Ytaibmipamkaljaa
open Go.Proofs.Try renaming prog → Tp
open Go.HL.HV renaming undef → Ud
def sStep (g:Gr) (x:El) (F:List El):List El:=F.foldl (fun A y=>ins (addT g x y) (ins y A)) [x]
def sumS (g:Gr) (l:List El):List El:=l.foldl (fun F x=>sStep g x F) []
def encS (F:List El):HV:=.imap .own (F.map encX) (F.map fun _=>.bool true)
theorem sfold_mem {g:Gr} {x:El}:∀ (L A:List El) (w:El),w ∈ L.foldl (fun A y=>ins (addT g x y) (ins y A)) A ↔ w ∈ A ∨ ∃ u ∈ L,w=u ∨ w=addT g x u
  | [],A,w=>by simp
  | u :: L,A,w=>by
    rw [List.foldl_cons,sfold_mem L _ w,mem_ins,mem_ins]
    constructor
    · rintro ((h | h | h) | ⟨v,h1,h2⟩)
      · exact .inr ⟨u,by simp,.inr h⟩
      · exact .inr ⟨u,by simp,.inl h⟩
      · exact .inl h
      · exact .inr ⟨v,by simp [h1],h2⟩
    · rintro (h | ⟨v,h1,h2⟩)
      · exact .inl (.inr (.inr h))
      · rcases List.mem_cons.1 h1 with rfl | h1
        · rcases h2 with h2 | h2
          · exact .inl (.inr (.inl h2))
          · exact .inl (.inl h2)
        · exact .inr ⟨v,h1,h2⟩
theorem sfold_nodup {g:Gr} {x:El}:∀ (L A:List El),A.Nodup → (L.foldl (fun A y=>ins (addT g x y) (ins y A)) A).Nodup
  | [],A,h=>h
  | u :: L,A,h=>by
    rw [List.foldl_cons]
    exact sfold_nodup L _ (nodup_ins (nodup_ins h))
theorem mem_sStep {g:Gr} {x:El} {F:List El} {w:El}:w ∈ sStep g x F ↔ w=x ∨ ∃ u ∈ F,w=u ∨ w=addT g x u:=by
  unfold sStep
  rw [sfold_mem]
  simp
theorem nodup_sStep {g:Gr} {x:El} {F:List El}:(sStep g x F).Nodup:=sfold_nodup F [x] (by simp)
theorem sStep_perm {g:Gr} {x:El} {K L:List El} (h:∀ w,w ∈ L ↔ w ∈ K):(sStep g x L).Perm (sStep g x K):=by
  rw [List.perm_ext_iff_of_nodup nodup_sStep nodup_sStep]
  intro a
  rw [mem_sStep,mem_sStep]
  constructor
  · rintro (h1 | ⟨u,h1,h2⟩)
    · exact .inl h1
    · exact .inr ⟨u,(h u).1 h1,h2⟩
  · rintro (h1 | ⟨u,h1,h2⟩)
    · exact .inl h1
    · exact .inr ⟨u,(h u).2 h1,h2⟩
theorem sumS_app (g:Gr) (l:List El) (x:El):sumS g (l ++ [x])=sStep g x (sumS g l):=by simp [sumS]
theorem snocInd {α:Type} {P:List α → Prop} (h0:P []) (h1:∀ l x,P l → P (l ++ [x])):∀ l,P l:=by
  intro l
  rw [← List.reverse_reverse l]
  induction l.reverse with
  | nil=>exact h0
  | cons x m ih=>rw [List.reverse_cons]; exact h1 _ _ ih
theorem sumS_nodup (g:Gr) (l:List El):(sumS g l).Nodup:=by
  refine snocInd (P:=fun l=>(sumS g l).Nodup) (by simp [sumS]) (fun l x _=>?_) l
  show (sumS g (l ++ [x])).Nodup
  rw [sumS_app]; exact nodup_sStep
theorem sumS_ok {g:Gr} (hg:grOk g):∀ (l:List El),(∀ x ∈ l,elOk g x) → ∀ y ∈ sumS g l,elOk g y:=by
  refine snocInd (by simp [sumS]) (fun l x ih hl y hy=>?_)
  rw [sumS_app,mem_sStep] at hy
  have h1:=ih fun z hz=>hl z (by simp [hz])
  rcases hy with rfl | ⟨u,hu,rfl | rfl⟩
  · exact hl _ (by simp)
  · exact h1 _ hu
  · exact addT_ok hg
theorem bG_get {g:Gr} {T:Heap}:loadV Tp (bG g :: T) 66 (.ptr 0 0 0 1)=some (encG g):=load_agg (b:=0) rfl rfl rfl a66 z66
theorem ld64 {H:Heap} {b:Nat} {x:El} (h:H[b]?=some (.arr 2 [encX x] true 0)):loadV Tp H 64 (.ptr b 0 0 1)=some (encX x):=load_agg (b:=b) h rfl rfl a64 z64
section
variable {gl:List Int} {R:List (List Int)} {g:Gr} {l:List El}
abbrev suX (gl:List Int) (R:List (List Int)) (q i:Nat) (v9 v11 v12 v13 v42:HV):Env:=(env39 (.imm .arg 1 (gl.map encI)) (.imm .arg 1 (R.map encR)) (.imm .lit 1 []) (.int .i64 0) (.ptr 0 0 0 1) Ud Ud v9 v11 v12 v13 Ud Ud (.sl 1 0 q none q 2) (.int .i64 (q:Int)) (.int .i64 (i:Int)) v42 Ud)
def ksS:List Nat:=[0,1,4,5,6,11,12,32,33,34,42]
abbrev suI (gl:List Int) (R:List (List Int)) (q i:Nat) (v42:HV):Env:=[(0,.imm .arg 1 (gl.map encI)),(1,.imm .arg 1 (R.map encR)),(4,.imm .lit 1 []),(5,.int .i64 0),(6,.ptr 0 0 0 1),(11,.ptr 2 0 0 1),(12,.map 3),(32,.sl 1 0 q none q 2),(33,.int .i64 (q:Int)),(34,.int .i64 (i:Int)),(42,v42)]
noncomputable def D12:Code:=sub [1,1,1,1,1,1,0,1,0,0,1,1,0,0,1,1,0,0] B39
noncomputable def D13:Code:=sub [1,1,1,1,1,1,0,1,0,0,1,1,0,0,1,1,0,1,0,0,0] B39
noncomputable def D14:Code:=sub [1,1,1,1,1,1,0,1,0,0,1,1,0,0,1,1,0,1,0,0,1,1,0,0] B39
theorem st_box2 (H:Heap) (x:El):storeV Tp (H ++ [.arr 2 [.agg [.int .i64 0,.int .i64 0]] true 0]) 64 (.ptr H.length 0 0 1) (encX x)=some (H ++ [.arr 2 [encX x] true 0]):=by
  have:=store_agg (P:=Tp) (H:=H ++ [.arr 2 [.agg [.int .i64 0,.int .i64 0]] true 0]) (t:=64) (b:=H.length) (i:=0) (tot:=1) (k:=2) (mx:=0) (els:=[.agg [.int .i64 0,.int .i64 0]]) (cs:=[.int .i64 0,.int .i64 0]) (new:=[.int .i64 x.1,.int .i64 x.2])
    (by rw [List.getElem?_append_right (Nat.le_refl _),Nat.sub_self]; rfl) rfl rfl z64 rfl (by simp) rfl rfl
  rw [show encX x=.agg [.int .i64 x.1,.int .i64 x.2] from rfl,this]
  simp
theorem box_in14 (e:Env) (H:Heap) (x:El):evOps Tp polSl 39 14 (regOps D14) [] (callN Tp polSl 1) ((regOps D14).toList.drop 1) (e.put (some 45) (.tuple [encX x,.bool true])) H=some ([(13,.ptr H.length 0 0 1),(46,encX x),(45,.tuple [encX x,.bool true])] ++ e,H ++ [.arr 2 [encX x] true 0]) :=
  evOpsH_ok Tp polSl ((regOps D14).toList.drop 1) 1 _ _ [⟨14,3,.tuple [],H ++ [.arr 2 [encX x] true 0]⟩] (hs':=[])
    (ob:=[(storeV Tp (H ++ [.arr 2 [.agg [.int .i64 0,.int .i64 0]] true 0]) 64 (.ptr H.length 0 0 1) (encX x)).map (fun H=>(HV.tuple [],H))=some (.tuple [],H ++ [.arr 2 [encX x] true 0])]) (by kernel_rfl) (Obls.cons (hintSt (st_box2 H x)) Obls.nil)
theorem pre_in12 {H:Heap} {q i:Nat} (m9 v11 v12 v13 v42:HV) :
    evOps Tp polSl 39 12 (regOps D12) [] (callN Tp polSl 1) ((regOps D12).toList.take 1) (suX gl R q i m9 v11 v12 v13 v42) H=some ((41,m9) :: suX gl R q i m9 v11 v12 v13 v42,H) :=
  evOpsH_ok Tp polSl ((regOps D12).toList.take 1) 0 _ _ [] (hs':=[]) (ob:=[]) (by kernel_rfl) Obls.nil
abbrev bx1 (x:El):Blk:=.arr 2 [encX x] true 0
theorem su_round (hg:grOk g) {q i:Nat} {x y:El} (hx:elOk g x) (hy:elOk g y) {A:List El} {Bk:Blk} (m9 v42:HV) :
    RT polSl 39 (sub [1,1,1,1,1,1,0,1,0,0,1,1,0,0,1,1,0,1,0,0,1,1,0,1] B39) (suX gl R q i m9 (.ptr 2 0 0 1) (.map 3) (.ptr 5 0 0 1) v42) [bG g,bX l,bx1 x,mapK encX A,Bk,bx1 y] .normal (suX gl R q i m9 (.ptr 2 0 0 1) (.map 3) (.ptr 5 0 0 1) v42)
      [bG g,bX l,bx1 x,mapK encX (ins (addT g x y) (ins y A)),Bk,bx1 y]:=by
  have u1:=map_upd keyX (H:=[bG g,bX l,bx1 x,mapK encX A,Bk,bx1 y]) (b:=3) rfl y
  have u2:=map_upd keyX (H:=[bG g,bX l,bx1 x,mapK encX (ins y A),Bk,bx1 y]) (b:=3) rfl (addT g x y)
  have s1:=su_k_0 (gl.map encI) (R.map encR) [bG g,bX l,bx1 x,mapK encX A,Bk,bx1 y] 5 y.1 y.2 m9 q i (y7:=Ud) (y8:=Ud) (y14:=Ud) (y15:=Ud) (y42:=v42) (y57:=Ud) (ld64 rfl) u1
  have s2:=su_l_0 (gl.map encI) (R.map encR) [bG g,bX l,bx1 x,mapK encX (ins y A),Bk,bx1 y] 5 x.1 x.2 y.1 y.2 (addT g x y).1 (addT g x y).2 g.1 g.2.1 g.2.2 m9 q i (y7:=Ud) (y8:=Ud) (y14:=Ud) (y15:=Ud) (y42:=v42) (y57:=Ud) bG_get (ld64 rfl) (ld64 rfl) (add_at (pol':=polSl) (by kernel_rfl) hg hx hy _) u2
  exact sq s1 s2
end
end Go.Proofs.Ytaibmipamkaljaa
end
section
open Go Go.HL
namespace Go.Proofs.Ytaibmipamkaljaa
open Go.Proofs.Try renaming prog → Tp
open Go.HL.HV renaming undef → Ud
section
variable {gl:List Int} {R:List (List Int)} {g:Gr} {l:List El}
theorem bndSI (q i:Nat):bndE (suI gl R q i (.ptr 4 0 0 0)) ≤ 5:=by simp [suI,bndE,bnd,bndL]
theorem gc5 {x y:El} {A:List El} {B':Blk} (hB:B'.mx=0):gc 5 5 [bG g,bX l,bx1 x,mapK encX A,B',bx1 y]=[bG g,bX l,bx1 x,mapK encX A,B']:=by
  unfold gc
  have:mxs [bG g,bX l,bx1 x,mapK encX A,B',bx1 y]=0:=by
    show max 0 (max 0 (max 0 (max 0 (max B'.mx (max 0 0)))))=0
    rw [hB]; rfl
  rw [this]; rfl
theorem su_inner (hg:grOk g) {q i:Nat} {x:El} (hx:elOk g x) {F:List El} (hF:∀ y ∈ F,elOk g y) :
    Trip Tp Try.f39.ntmps (sub [1,1,1,1,1,1,0,1,0,0,1,1,0,0,1,1,0] B39) (suX gl R q i (encS F) (.ptr 2 0 0 1) (.map 3) Ud Ud) [bG g,bX l,bx1 x,mapK encX [x]]
      (fun X e H=>X=.normal∧∃ A Bk,A.Perm (sStep g x F)∧Bk.mx=0∧restr (polSl.keys 39) e=suX gl R q i Ud (.ptr 2 0 0 1) (.map 3) Ud (.ptr 4 0 0 0)∧H=[bG g,bX l,bx1 x,mapK encX A,Bk]):=by
  have hc:sub [1,1,1,1,1,1,0,1,0,0,1,1,0,0,1,1,0] B39=.seq (.region 12 (regOps D12) false) (.block 2 (.loop (.seq (.region 13 (regOps D13) false) (.seq (.cond (.tmp 44) .skip (.exit 2)) (.block 3 (.seq (.region 14 (regOps D14) false) (sub [1,1,1,1,1,1,0,1,0,0,1,1,0,0,1,1,0,1,0,0,1,1,0,1] B39))))))):=by kernel_rfl
  rw [hc]
  refine Trip.range (pol:=polSl) (f:=39) (k:=1) (it:=42) (tm:=41) (tn:=43) (tb:=44) (te:=45) (T:=87) (kt:=64) (et:=4) (oR:=opAt (regOps D12) 1) (oN:=opAt (regOps D13) 0) (oX:=opAt (regOps D13) 1) (oE:=opAt (regOps D14) 0) (pre:=(regOps D12).toList.take 1) (os:=(regOps D14).toList.drop 1)
    (g:=.own) (kl:=F.map encX) (vl:=F.map fun _=>.bool true) (asgA:=[]) (asg2:=[]) ksS
    (I:=fun S Bk e H=>e=suI gl R q i (.ptr 4 0 0 0)∧H=[bG g,bX l,bx1 x,mapK encX (sStep g x (S.map fun j=>F.getD j (0,0))),Bk]∧Bk.mx=0∧sameH [Bk] [Bk]=true)
    soundSl (by kernel_rfl) (by kernel_rfl) (by kernel_rfl) (by kernel_rfl) (by kernel_rfl) (by kernel_rfl) (by kernel_rfl) (by kernel_rfl) (by kernel_rfl) (by kernel_rfl) (by kernel_rfl) (by kernel_rfl) (by kernel_rfl) (by kernel_rfl) (by kernel_rfl) (by kernel_rfl) (by decide)
    (by kernel_rfl) (by kernel_rfl) (by kernel_rfl) (pre_in12 (encS F) _ _ _ _) rfl ?_ ?_ ?_ ?_
  · intro Bk hB hS
    exact ⟨rfl,rfl,hB,hS⟩
  · rintro S Bk e H' ⟨rfl,rfl,_,_⟩
    exact ⟨rfl,rfl⟩
  · rintro S Bk e H' j kv vv ⟨rfl,rfl,hB,hS⟩ hj hjS hnd hkv hvv B' hB' hS'
    rw [List.length_map] at hj
    have hw:F[j]=F.getD j (0,0):=by simp [List.getD,List.getElem?_eq_getElem hj]
    have ekv:kv=encX (F.getD j (0,0)):=by
      rw [List.getElem?_map,List.getElem?_eq_getElem hj] at hkv
      rw [← hw]; exact (Option.some.inj hkv).symm
    have evv:vv=.bool true:=by
      rw [List.getElem?_map,List.getElem?_eq_getElem hj] at hvv
      exact (Option.some.inj hvv).symm
    subst ekv; subst evv
    have hKw:=hF _ (List.getElem_mem hj)
    rw [hw] at hKw
    generalize hww:F.getD j (0,0)=y at *
    refine ⟨_,_,box_in14 _ _ y,?_⟩
    have hround:=su_round (gl:=gl) (R:=R) (l:=l) hg (q:=q) (i:=i) hx hKw (A:=sStep g x (S.map fun j=>F.getD j (0,0))) (Bk:=B') Ud (.ptr 4 0 0 0)
    refine Trip.restrict (polSl.keys 39) ?_
    have hrun:=Trip.run (nt:=Try.f39.ntmps) follows_mixed soundSl (by kernel_rfl) hround
    refine Trip.mono hrun ?_
    rintro X e2 H2 ⟨rfl,rfl,rfl⟩
    refine ⟨rfl,ksS,5,bndSI (gl:=gl) (R:=R) q i,?_⟩
    refine ⟨rfl,?_,hB',hS'⟩
    show gc 5 5 [bG g,bX l,bx1 x,mapK encX _,B',bx1 y]=_
    rw [gc5 hB',List.map_append]
    simp only [List.map_cons,List.map_nil,hww,sStep,List.foldl_append,List.foldl_cons,List.foldl_nil]
  · rintro S Bk e H' ⟨rfl,rfl,hB,hS⟩ hall hlt hnd
    refine ⟨rfl,_,Bk,?_,hB,rfl,rfl⟩
    refine sStep_perm fun w=>?_
    constructor
    · intro hw
      obtain ⟨j,hj,rfl⟩:=List.mem_map.1 hw
      have c:j < F.length:=by simpa using hlt j hj
      have:F.getD j (0,0)=F[j]:=by simp [List.getD,List.getElem?_eq_getElem c]
      rw [this]; exact List.getElem_mem c
    · intro hw
      obtain ⟨j,hj,rfl⟩:=List.getElem_of_mem hw
      refine List.mem_map.2 ⟨j,hall j (by simpa using hj),by simp [List.getD,List.getElem?_eq_getElem hj]⟩
def ksO:List Nat:=[0,1,4,5,6,9,32,33,34]
abbrev suJ (gl:List Int) (R:List (List Int)) (q i:Nat) (v9:HV):Env:=[(0,.imm .arg 1 (gl.map encI)),(1,.imm .arg 1 (R.map encR)),(4,.imm .lit 1 []),(5,.int .i64 0),(6,.ptr 0 0 0 1),(9,v9),(32,.sl 1 0 q none q 2),(33,.int .i64 (q:Int)),(34,.int .i64 (i:Int))]
theorem zipX (X:List El):(X.map encX).zip (X.map fun _=>HV.bool true)=X.map fun w=>(encX w,HV.bool true):=by
  induction X with
  | nil=>rfl
  | cons x X ih=>simp [ih]
theorem conv_map {q i:Nat} {A F:List El} {x:El} {Bk:Blk} (hA:A.Perm F) (hB:Bk.mx=0) :
    Conv Tp 2 (suX gl R q i (.map 3) Ud (.map 3) Ud (.ptr 4 0 0 0)) [bG g,bX l,bx1 x,mapK encX A,Bk] (suJ gl R q i (encS F)) [bG g,bX l]:=by
  have e1:restr ksO (suX gl R q i (.map 3) Ud (.map 3) Ud (.ptr 4 0 0 0))=suJ gl R q i (.map 3):=rfl
  have c1:Conv Tp 2 (suX gl R q i (.map 3) Ud (.map 3) Ud (.ptr 4 0 0 0)) [bG g,bX l,bx1 x,mapK encX A,Bk] (suJ gl R q i (.map 3)) [bG g,bX l,bx1 x,mapK encX A,Bk]:=by
    rw [← e1]; exact Conv.restr ksO
  have e2:gc 2 4 [bG g,bX l,bx1 x,mapK encX A,Bk]=[bG g,bX l,bx1 x] ++ [.map (A.map encX) (A.map fun _=>.bool true) 0]:=by
    unfold gc
    have:mxs [bG g,bX l,bx1 x,mapK encX A,Bk]=0:=by
      show max 0 (max 0 (max 0 (max 0 (max Bk.mx 0))))=0
      rw [hB]; rfl
    rw [this]; rfl
  have c2:=Conv.gc (P:=Tp) (n:=2) (e:=suJ gl R q i (.map 3)) (H:=[bG g,bX l,bx1 x,mapK encX A,Bk]) 4 (by simp [suJ,bndE,bnd,bndL])
  rw [e2] at c2
  have hlen:A.length=F.length:=hA.length_eq
  have c3:=Conv.sealM (P:=Tp) (n:=2) (e:=suJ gl R q i (.map 3)) (H0:=[bG g,bX l,bx1 x]) (ks:=A.map encX) (vs:=A.map fun _=>.bool true) (mx:=0) (mb:=3) (ks':=F.map encX) (vs':=F.map fun _=>.bool true)
    rfl (by omega) (fun v hv=>by obtain ⟨_,_,rfl⟩:=List.mem_map.1 hv; rfl) (by rw [zipX,zipX]; exact (hA.symm).map _) (by simp [hlen]) (by simp [hlen])
    (fun p hp=>by
      simp only [suJ,List.mem_cons,List.not_mem_nil,or_false] at hp
      rcases hp with rfl | rfl | rfl | rfl | rfl | rfl | rfl | rfl | rfl
      · exact .inr (by simp [bnd])
      · exact .inr (by simp [bnd])
      · exact .inr (by simp [bnd])
      · exact .inr (by simp [bnd])
      · exact .inr (by simp [bnd])
      · exact .inl rfl
      · exact .inr (by simp [bnd])
      · exact .inr (by simp [bnd])
      · exact .inr (by simp [bnd]))
    (fun b y hy=>by
      match b,hy with
      | 0,hy=>cases hy; intro v hv; rw [List.mem_singleton] at hv; subst hv; exact .inr (by simp [encG,bnd,bndL])
      | 1,hy =>
        cases hy
        intro v hv
        obtain ⟨z,_,rfl⟩:=List.mem_map.1 hv
        exact .inr (by simp [encX,bnd,bndL])
      | 2,hy=>cases hy; intro v hv; rw [List.mem_singleton] at hv; subst hv; exact .inr (by simp [encX,bnd,bndL])
      | b+3,hy=>simp at hy)
  have e3:([bG g,bX l,bx1 x].map (sealB 3 (.imap .own (F.map encX) (F.map fun _=>.bool true))))=[bG g,bX l,bx1 x]:=by
    have hX:(l.map encX).map (sealV 3 (.imap .own (F.map encX) (F.map fun _=>.bool true)))=l.map encX:=by
      rw [List.map_map]; rfl
    have hb:bndL (l.map encX)=0:=encX_bnd l
    simp only [List.map_cons,List.map_nil,sealB,bX,hX,hb]
    rfl
  rw [e3] at c3
  have e4:sealE 3 (.imap .own (F.map encX) (F.map fun _=>.bool true)) (suJ gl R q i (.map 3))=suJ gl R q i (encS F):=rfl
  rw [e4] at c3
  have c5:=Conv.gc (P:=Tp) (n:=2) (e:=suJ gl R q i (encS F)) (H:=[bG g,bX l,bx1 x]) 2 (by simp [suJ,bndE,bnd,bndL,encS])
  have e5:gc 2 2 [bG g,bX l,bx1 x]=[bG g,bX l]:=rfl
  rw [e5] at c5
  exact ((c1.trans c2).trans c3).trans c5
theorem ix67s {q i:Nat} (hi:i < q):idxV Tp 67 (.sl 1 0 q none q 2) (.int .i64 (i:Int))=some (.ptr 1 i 0 q):=by
  have:=idx_sl (P:=Tp) (t:=67) (b:=1) (len:=q) (tot:=q) (cap:=none) (ik:=.i64) (n:=(i:Int)) u67 z64 (by omega) (by omega)
  rwa [Int.toNat_natCast] at this
theorem ld67 {q i:Nat} (hq:l.length=q) (hi:i < q) {T:Heap}:loadV Tp (bG g :: bX l :: T) 64 (.ptr 1 i 0 q)=some (encX (l.getD i (0,0))) :=
  load_agg (b:=1) (els:=l.map encX) (cs:=[.int .i64 (l.getD i (0,0)).1,.int .i64 (l.getD i (0,0)).2]) rfl (by simp [hq]) (by rw [List.getElem?_map,List.getElem?_eq_getElem (by omega)]; simp [List.getD,List.getElem?_eq_getElem (show i < l.length by omega),encX]) a64 z64
theorem su_body (hg:grOk g) (hl:∀ x ∈ l,elOk g x) {q i:Nat} (hq:l.length=q) (hi:i < q) (hq2:q ≤ 1000) {F:List El} (hF:∀ y ∈ F,elOk g y) :
    Trip Tp Try.f39.ntmps (sub [1,1,1,1,1,1,0,1,0,0] B39) (suJ gl R q i (encS F)) [bG g,bX l] (fun X e H=>X=.normal∧e=suJ gl R q (i+1) (encS (sStep g (l.getD i (0,0)) F))∧H=[bG g,bX l]):=by
  have hx:elOk g (l.getD i (0,0)):=hl _ (by rw [List.getD,List.getElem?_eq_getElem (show i < l.length by omega)]; exact List.getElem_mem _)
  refine Trip.conv (Q:=fun X e H=>X=.normal∧∃ A Bk,A.Perm (sStep g (l.getD i (0,0)) F)∧Bk.mx=0∧e=suX gl R q (i+1) (.map 3) Ud (.map 3) Ud (.ptr 4 0 0 0)∧H=[bG g,bX l,bx1 (l.getD i (0,0)),mapK encX A,Bk]) ?_ (by
    rintro X e' H' ⟨rfl,A,Bk,hA,hB,rfl,rfl⟩
    exact ⟨_,_,conv_map hA hB,rfl,rfl,rfl⟩)
  refine Trip.restrict (polSl.keys 39) ?_
  have s1:=su_h_0 (gl.map encI) (R.map encR) [bG g,bX l] (encS F) q i (y7:=Ud) (y8:=Ud) (y11:=Ud) (y12:=Ud) (y13:=Ud) (y14:=Ud) (y15:=Ud) (y42:=Ud) (y57:=Ud) (by omega)
  refine Trip.seqR (cd:=sub [1,1,1,1,1,1,0,1,0,0] B39) (ca:=sub [1,1,1,1,1,1,0,1,0,0,0] B39) (cb:=sub [1,1,1,1,1,1,0,1,0,0,1] B39) s1 follows_mixed soundSl (by kernel_rfl) (by kernel_rfl) ?_
  have hc:sub [1,1,1,1,1,1,0,1,0,0,1] B39=.seq (sub [1,1,1,1,1,1,0,1,0,0,1,0] B39) (.seq (.block 1 (.seq (sub [1,1,1,1,1,1,0,1,0,0,1,1,0,0,0] B39) (.seq (sub [1,1,1,1,1,1,0,1,0,0,1,1,0,0,1,0] B39) (.seq (sub [1,1,1,1,1,1,0,1,0,0,1,1,0,0,1,1,0] B39) (sub [1,1,1,1,1,1,0,1,0,0,1,1,0,0,1,1,1] B39))))) (sub [1,1,1,1,1,1,0,1,0,0,1,1,1] B39)):=by kernel_rfl
  rw [hc]
  have s2:=su_ht_0 (gl.map encI) (R.map encR) [bG g,bX l] (encS F) q i (y7:=Ud) (y8:=Ud) (y11:=Ud) (y12:=Ud) (y13:=Ud) (y14:=Ud) (y15:=Ud) (y42:=Ud) (y57:=Ud)
  refine Trip.seqR s2 follows_mixed soundSl (by kernel_rfl) rfl ?_
  refine Trip.seq (Q1:=fun X e H=>X=.normal∧∃ A Bk,A.Perm (sStep g (l.getD i (0,0)) F)∧Bk.mx=0∧e=suX gl R q i (.map 3) (.ptr 2 0 0 1) (.map 3) Ud (.ptr 4 0 0 0)∧H=[bG g,bX l,bx1 (l.getD i (0,0)),mapK encX A,Bk]) ?_ ?_ (fun X e1 H1 hx q=>absurd q.1 hx)
  · refine Trip.block ?_
    have s3:=su_i_0 (gl.map encI) (R.map encR) g.1 g.2.1 g.2.2 (l.map encX) (l.getD i (0,0)).1 (l.getD i (0,0)).2 (encS F) q i (y7:=Ud) (y8:=Ud) (y11:=Ud) (y12:=Ud) (y13:=Ud) (y14:=Ud) (y15:=Ud) (y42:=Ud) (y57:=Ud) (ix67s hi) (ld67 hq hi)
    refine Trip.seqR s3 follows_mixed soundSl (by kernel_rfl) rfl ?_
    have up:=map_upd keyX (H:=[bG g,bX l,bx1 (l.getD i (0,0)),mapK encX []]) (b:=3) rfl (l.getD i (0,0))
    have s4:=su_j_0 (gl.map encI) (R.map encR) [bG g,bX l,bx1 (l.getD i (0,0))] (l.getD i (0,0)).1 (l.getD i (0,0)).2 (encS F) q i (y7:=Ud) (y8:=Ud) (y12:=Ud) (y13:=Ud) (y14:=Ud) (y15:=Ud) (y42:=Ud) (y57:=Ud) (H0:=[bG g,bX l,bx1 (l.getD i (0,0)),mapK encX []]) rfl (ld64 rfl) up
    refine Trip.seqR s4 follows_mixed soundSl (by kernel_rfl) rfl ?_
    refine Trip.seq (su_inner hg (q:=q) (i:=i) hx hF) ?_ ?_
    · rintro e1 H1 ⟨_,A,Bk,hA,hB,he,rfl⟩
      refine Trip.restrict (polSl.keys 39) ?_
      rw [he]
      have s5:=su_m_0 (gl.map encI) (R.map encR) [bG g,bX l,bx1 (l.getD i (0,0)),mapK encX A,Bk] Ud q i (y7:=Ud) (y8:=Ud) (y11:=.ptr 2 0 0 1) (y13:=Ud) (y14:=Ud) (y15:=Ud) (y42:=.ptr 4 0 0 0) (y57:=Ud)
      refine (Trip.run follows_mixed soundSl (by kernel_rfl) s5).mono ?_
      rintro X e H ⟨rfl,rfl,rfl⟩
      exact ⟨rfl,A,Bk,hA,hB,rfl,rfl⟩
    · rintro X e1 H1 hX ⟨h,_⟩
      exact absurd h hX
  · rintro e1 H1 ⟨_,A,Bk,hA,hB,rfl,rfl⟩
    have s6:=su_n_0 (gl.map encI) (R.map encR) [bG g,bX l,bx1 (l.getD i (0,0)),mapK encX A,Bk] (.map 3) q i (y7:=Ud) (y8:=Ud) (y11:=.ptr 2 0 0 1) (y12:=.map 3) (y13:=Ud) (y14:=Ud) (y15:=Ud) (y42:=.ptr 4 0 0 0) (y57:=Ud)
    rw [wrap_succ (by omega)] at s6
    refine Trip.mono (Trip.restrict [0,1,4,5,6,9,12,32,33,34,42] (Trip.restrict (polSl.keys 39) (Trip.run follows_mixed soundSl (by kernel_rfl) (su_n_0 (gl.map encI) (R.map encR) [bG g,bX l,bx1 (l.getD i (0,0)),mapK encX A,Bk] (.map 3) q i (y7:=Ud) (y8:=Ud) (y11:=Ud) (y12:=.map 3) (y13:=Ud) (y14:=Ud) (y15:=Ud) (y42:=.ptr 4 0 0 0) (y57:=Ud))))) ?_
    rintro X e H ⟨rfl,rfl,rfl⟩
    exact ⟨rfl,A,Bk,hA,hB,by rw [wrap_succ (by omega)],rfl⟩
end
end Go.Proofs.Ytaibmipamkaljaa
end
section
open Go Go.HL Go.HL.So
namespace Go.Proofs.Ytaibmipamkaljaa
open Go.Proofs.Try renaming prog → Tp
open Go.HL.HV renaming undef → Ud
theorem app_any {H:Heap} {k bytes b n mx:Nat} {els xs:List HV} (hb:H[b]?=some (.arr k els true mx)) (hn:els.length=n) (hx:xs ≠ []) (hr:(n+xs.length) * (bytes+1) ≤ roomMax) :
    appV H k bytes (.sl b 0 n none n k) xs=some (.sl b 0 (n+xs.length) none (n+xs.length) k,H.set b (.arr k (els ++ xs) true (max mx (bndL xs)))):=by
  simp only [appV,if_neg hx,hb]
  rw [if_pos ⟨hn.symm,trivial,trivial,hr⟩]
  simp [hn]
def pairB (g:Gr):List El → Heap
  | []=>[]
  | y :: ys=>.arr 2 [encX y] true 0 :: bI (lstT g y) :: pairB g ys
theorem pairB_len (g:Gr):∀ ys:List El,(pairB g ys).length=2 * ys.length
  | []=>rfl
  | y :: ys=>by simp only [pairB,List.length_cons,pairB_len g ys]; omega
theorem pairB_app (g:Gr) (y:El):∀ ys:List El,pairB g (ys ++ [y])=pairB g ys ++ [.arr 2 [encX y] true 0,bI (lstT g y)]
  | []=>rfl
  | z :: ys=>by simp only [List.cons_append,pairB,pairB_app g y ys]
theorem pairB_row (g:Gr):∀ (ys:List El) (i:Nat),i < ys.length → (pairB g ys)[2 * i+1]?=some (bI (lstT g (ys.getD i (0,0))))
  | y :: ys,0,_=>rfl
  | y :: ys,i+1,h=>by
    have:=pairB_row g ys i (by simpa using h)
    rw [show 2 * (i+1)+1=(2 * i+1)+1+1 by omega]
    simp only [pairB,List.getElem?_cons_succ]
    rw [this]; rfl
theorem pairB_mx (g:Gr):∀ ys:List El,mxs (pairB g ys)=0
  | []=>rfl
  | y :: ys=>by
    show max 0 (max 0 (mxs (pairB g ys)))=0
    rw [pairB_mx g ys]; rfl
def rowRefs (s k:Nat):List HV:=(List.range k).map fun i=>.sl (5+2 * i) 0 s none s 1
theorem rowRefs_succ (s k:Nat):rowRefs s (k+1)=rowRefs s k ++ [.sl (5+2 * k) 0 s none s 1]:=by
  simp only [rowRefs,List.range_succ,List.map_append,List.map_cons,List.map_nil]
theorem info22b:(Tp.info? 22).map (fun i=>(i.size,i.bytes,zeroFits i))=some (1,24,true):=by kernel_rfl
theorem info22z:(Tp.info? 22).map (fun i=>(i.size,i.zero.map ofConst))=some (1,some (.imm .lit 0 [])):=by kernel_rfl
theorem app_row {H:Heap} {b tb n mx mt:Nat} {els:List HV} {v:HV} (hb:H[b]?=some (.arr 1 els true mx)) (hn:els.length=n) (ht:H[tb]?=some (.arr 1 [v] true mt)) (hl:n ≤ 1000) :
    builtinV Tp .append [35,35] [.sl b 0 n none n 1,.sl tb 0 1 (some 1) 1 1] H=some (.sl b 0 (n+1) none (n+1) 1,H.set b (.arr 1 (els ++ [v]) true (max mx (bndL [v])))):=by
  have hi:=info22b
  have hs:srcOf H (.sl tb 0 1 (some 1) 1 1)=some ([v],1):=by
    simp only [srcOf,view,ht]; rfl
  cases hinf:Tp.info? 22 with
  | none=>rw [hinf] at hi; cases hi
  | some inf =>
    rw [hinf] at hi
    simp only [Option.map,Option.some.injEq,Prod.mk.injEq] at hi
    obtain ⟨e1,e2,e3⟩:=hi
    simp only [builtinV,u35,hinf,hs,e1,e2,e3]
    rw [if_pos ⟨.inl trivial,by omega,trivial⟩]
    exact app_any hb hn (by simp) (by simp only [roomMax,List.length_singleton]; omega)
theorem lit_row {H:Heap} {c s:Nat}:litV Tp false false 35 1 [(0,.sl c 0 s none s 1)] H=some (.sl H.length 0 1 (some 1) 1 1,H ++ [.arr 1 [.sl c 0 s none s 1] true (bndL [.sl c 0 s none s 1])]):=by
  have hi:=info22z
  cases hinf:Tp.info? 22 with
  | none=>rw [hinf] at hi; cases hi
  | some inf =>
    rw [hinf] at hi
    simp only [Option.map_some,Option.some.injEq,Prod.mk.injEq] at hi
    obtain ⟨e1,e2⟩:=hi
    cases hz:inf.zero with
    | none=>rw [hz] at e2; cases e2
    | some z =>
      rw [hz] at e2
      simp only [Option.map_some,Option.some.injEq] at e2
      have hb:(bndL [HV.sl c 0 s none s 1] != 0)=true:=by simp [bndL,bnd]
      simp only [litV,u35,hinf,hz,e1,e2,Bool.false_eq_true,if_false,List.map_cons,List.map_nil]
      rw [if_pos (by simp [cellsOf,cellV])]
      simp only [Bool.false_or,hb,if_true]
      rfl
end Go.Proofs.Ytaibmipamkaljaa
end
section
open Go Go.HL Go.HL.So
namespace Go.Proofs.Ytaibmipamkaljaa
open Go.Proofs.Try renaming prog → Tp
open Go.HL.HV renaming undef → Ud
theorem list62_at {pol':Pol} (hp:pol'.prim 62=some list62) {g:Gr} (hs:g.2.2=1 ∨ g.2.2=2) (y:El) (H:Heap):∀ k,callN Tp pol' (k+1) 62 [encG g,encX y] H=some (.sl H.length 0 (lstT g y).length none (lstT g y).length 1,H ++ [bI (lstT g y)]):=fun k=>by
  rw [prim_call (pol:=pol') (g:=62) (F:=list62) hp (rs:=[encG g,encX y]) rfl (res:=.own 1 ((lstT g y).map encI)) (by simp only [list62,decG_enc,decX_enc]; rw [if_pos hs]),recv_ints]
section
variable {gl:List Int} {R:List (List Int)} {g:Gr} {l:List El}
abbrev dHp (g:Gr) (l:List El) (s m:Nat) (Bk:Blk) (ys:List El) (T:Heap):Heap:=bG g :: bX l :: .arr 1 (rowRefs s ys.length) true m :: Bk :: (pairB g ys ++ T)
theorem dHp_len (s m:Nat) (Bk:Blk) (ys:List El) (T:Heap):(dHp g l s m Bk ys T).length=4+2 * ys.length+T.length:=by
  simp only [dHp,List.length_cons,List.length_append,pairB_len]; omega
theorem su_addD (hs:g.2.2=1 ∨ g.2.2=2) {s m:Nat} {ys:List El} {y:El} {Bk:Blk} (ho:ys.length ≤ 1000) (hy:(lstT g y).length=s) :
    RT polSl 39 (sub [1,1,1,1,1,1,1,1,0,1,0,0,1,1,0,1] B39) ((env39 (.imm .arg 1 (gl.map encI)) (.imm .arg 1 (R.map encR)) (.imm .lit 1 []) (.int .i64 0) (.ptr 0 0 0 1) Ud Ud Ud Ud Ud Ud (.sl 2 0 ys.length none ys.length 1) (.ptr (4+2 * ys.length) 0 0 1) Ud Ud Ud Ud (.ptr 3 0 0 0))) (dHp g l s m Bk ys [bx1 y]) .normal
      ((env39 (.imm .arg 1 (gl.map encI)) (.imm .arg 1 (R.map encR)) (.imm .lit 1 []) (.int .i64 0) (.ptr 0 0 0 1) Ud Ud Ud Ud Ud Ud (.sl 2 0 (ys.length+1) none (ys.length+1) 1) (.ptr (4+2 * ys.length) 0 0 1) Ud Ud Ud Ud (.ptr 3 0 0 0))) (bG g :: bX l :: .arr 1 (rowRefs s (ys.length+1)) true (max m (6+2 * ys.length)) :: Bk :: (pairB g ys ++ [bx1 y,bI (lstT g y),.arr 1 [.sl (5+2 * ys.length) 0 s none s 1] true (6+2 * ys.length)])):=by
  have cl:=list62_at (pol':=polSl) (by kernel_rfl) hs y (dHp g l s m Bk ys [bx1 y])
  have e1:(dHp g l s m Bk ys [bx1 y]).length=5+2 * ys.length:=by rw [dHp_len]; simp; omega
  have e2:dHp g l s m Bk ys [bx1 y] ++ [bI (lstT g y)]=dHp g l s m Bk ys [bx1 y,bI (lstT g y)]:=by simp [dHp]
  rw [e1,e2,hy] at cl
  have hbx:(dHp g l s m Bk ys [bx1 y])[4+2 * ys.length]?=some (bx1 y):=by
    rw [show 4+2 * ys.length=2 * ys.length+1+1+1+1 by omega]
    simp only [dHp,List.getElem?_cons_succ]
    rw [← pairB_len g ys]; exact List.getElem?_concat_length
  have lt:=lit_row (H:=dHp g l s m Bk ys [bx1 y,bI (lstT g y)]) (c:=5+2 * ys.length) (s:=s)
  have e3:(dHp g l s m Bk ys [bx1 y,bI (lstT g y)]).length=6+2 * ys.length:=by rw [dHp_len]; simp; omega
  have e4:bndL [HV.sl (5+2 * ys.length) 0 s none s 1]=6+2 * ys.length:=by simp only [bndL,bnd]; omega
  have e5:dHp g l s m Bk ys [bx1 y,bI (lstT g y)] ++ [.arr 1 [.sl (5+2 * ys.length) 0 s none s 1] true (6+2 * ys.length)]=dHp g l s m Bk ys [bx1 y,bI (lstT g y),.arr 1 [.sl (5+2 * ys.length) 0 s none s 1] true (6+2 * ys.length)]:=by simp [dHp]
  rw [e3,e4,e5] at lt
  have htb:(dHp g l s m Bk ys [bx1 y,bI (lstT g y),.arr 1 [.sl (5+2 * ys.length) 0 s none s 1] true (6+2 * ys.length)])[6+2 * ys.length]?=some (.arr 1 [.sl (5+2 * ys.length) 0 s none s 1] true (6+2 * ys.length)):=by
    rw [← e5,← e3]; exact List.getElem?_concat_length
  have ap:=app_row (H:=dHp g l s m Bk ys [bx1 y,bI (lstT g y),.arr 1 [.sl (5+2 * ys.length) 0 s none s 1] true (6+2 * ys.length)]) (b:=2) (tb:=6+2 * ys.length) (n:=ys.length) (els:=rowRefs s ys.length) rfl (by simp [rowRefs]) htb ho
  rw [e4,← rowRefs_succ] at ap
  exact su_q_0 (gl.map encI) (R.map encR) (dHp g l s m Bk ys [bx1 y]) (4+2 * ys.length) (5+2 * ys.length) (6+2 * ys.length) ys.length s g.1 g.2.1 g.2.2 y.1 y.2 [] (y7:=Ud) (y8:=Ud) (y9:=Ud) (y11:=Ud) (y12:=Ud) (y13:=Ud) (y32:=Ud) (y33:=Ud) (y34:=Ud) (y42:=Ud) (y57:=.ptr 3 0 0 0) bG_get (ld64 hbx) cl lt ap
end
end Go.Proofs.Ytaibmipamkaljaa
end
