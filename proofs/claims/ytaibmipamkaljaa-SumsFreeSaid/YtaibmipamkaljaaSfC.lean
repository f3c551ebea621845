/- A part of the proof. -/
import Derived.Test.YtaibmipamkaljaaSfB
set_option linter.unusedVariables false
set_option linter.unusedSimpArgs false
set_option linter.unnecessarySimpa false
section
open Go Go.HL
namespace Go.Proofs.Ytaibmipamkaljaa
set_option maxRecDepth 100000
open Go.Proofs.Try renaming prog → Tp
open Go.HL.HV renaming undef → Ud
noncomputable def B101:Code:=Try.f101.body.getD .skip
abbrev env101 (v0 v1 v2 v3 v4 v10 v11:HV):Env:=[(0,v0),(1,v1),(2,v2),(3,v3),(4,v4),(10,v10),(11,v11)]
theorem o2_a_0 (N:Nat) (db n:Nat) (cap:Option Nat) (H:Heap) (x:Nat) (a:Nat) (b:Nat) {a0:HV} {v0:HV} {a1:HV} {v1:HV} {c0:Int} {H0:Heap} {x0:Int} {H1:Heap} (g0:idxV Tp 35 (.sl db 0 n cap n 1) (.i (b:Int))=some (a0)) (g1:loadV Tp H 22 (a0)=some (v0)) (g2:idxV Tp 35 (.sl db 0 n cap n 1) (.i (a:Int))=some (a1)) (g3:loadV Tp H 22 (a1)=some (v1)) (g4:∀ kf,N ≤ kf → callN Tp polSl (kf+1) 64 [v0,v1] H=some (.i c0,H0)) (g5:c0 < 0) (g6:loadV Tp H0 3 (.ptr x 0 0 1)=some (.i x0)) (g7:storeV Tp H0 3 (.ptr x 0 0 1) (.i (IntKind.i64.wrap (x0+1)))=some H1):RT polSl 101 (sub [] B101) [(0,.sl db 0 n cap n 1),(1,.i (a:Int)),(2,.i (b:Int)),(3,.ptr x 0 0 1),(4,.func 64 [] [])] H .ret (env101 (.sl db 0 n cap n 1) (.i (a:Int)) (.i (b:Int)) (.ptr x 0 0 1) (.func 64 [] []) (.i (b:Int)) (.i (a:Int))) H1 :=
  RunsTo.hin N 60 [⟨1,3,a0,H⟩,⟨1,4,v0,H⟩,⟨1,7,a1,H⟩,⟨1,8,v1,H⟩,⟨1,9,.i c0,H0⟩,⟨1,10,.bool true,H0⟩,⟨2,2,.i x0,H0⟩,⟨2,5,.tuple [],H1⟩] fun kf hk=>⟨_,by kernel_rfl,(oP H g0 (oP H g1 (oP H g2 (oP H g3 (oC (g4 kf (by omega)) (oB H0 (decide_eq_true g5) (oP H0 g6 (oS g7 .nil))))))))⟩
theorem o2_a_1 (N:Nat) (db n:Nat) (cap:Option Nat) (H:Heap) (x:Nat) (a:Nat) (b:Nat) {a0:HV} {v0:HV} {a1:HV} {v1:HV} {c0:Int} {H0:Heap} (g0:idxV Tp 35 (.sl db 0 n cap n 1) (.i (b:Int))=some (a0)) (g1:loadV Tp H 22 (a0)=some (v0)) (g2:idxV Tp 35 (.sl db 0 n cap n 1) (.i (a:Int))=some (a1)) (g3:loadV Tp H 22 (a1)=some (v1)) (g4:∀ kf,N ≤ kf → callN Tp polSl (kf+1) 64 [v0,v1] H=some (.i c0,H0)) (g5:¬ (c0 < 0)):RT polSl 101 (sub [] B101) [(0,.sl db 0 n cap n 1),(1,.i (a:Int)),(2,.i (b:Int)),(3,.ptr x 0 0 1),(4,.func 64 [] [])] H .ret (env101 (.sl db 0 n cap n 1) (.i (a:Int)) (.i (b:Int)) (.ptr x 0 0 1) (.func 64 [] []) (.i (a:Int)) (.i (b:Int))) H0 :=
  RunsTo.hin N 60 [⟨1,3,a0,H⟩,⟨1,4,v0,H⟩,⟨1,7,a1,H⟩,⟨1,8,v1,H⟩,⟨1,9,.i c0,H0⟩,⟨1,10,.bool false,H0⟩] fun kf hk=>⟨_,by kernel_rfl,(oP H g0 (oP H g1 (oP H g2 (oP H g3 (oC (g4 kf (by omega)) (oB H0 (decide_eq_false g5) .nil))))))⟩
noncomputable def B99:Code:=Try.f99.body.getD .skip
abbrev env99 (v0 v1 v2 v3 v4 v5 v12:HV):Env:=[(0,v0),(1,v1),(2,v2),(3,v3),(4,v4),(5,v5),(12,v12)]
theorem md_a_0 (N:Nat) (db n:Nat) (cap:Option Nat) (H:Heap) (x:Nat) (a:Nat) (b:Nat) (q:Nat) {p0:Int} {p1:Int} {H0:Heap} {p2:Int} {p3:Int} {H1:Heap} {p4:Int} {p5:Int} {H2:Heap} (g0:∀ kf,N ≤ kf → callN Tp polSl (kf+1) 101 [.sl db 0 n cap n 1,.i (a:Int),.i (b:Int),.ptr x 0 0 1,.func 64 [] []] H=some (.tuple [.i p0,.i p1],H0)) (g1:∀ kf,N ≤ kf → callN Tp polSl (kf+1) 101 [.sl db 0 n cap n 1,.i p1,.i (q:Int),.ptr x 0 0 1,.func 64 [] []] H0=some (.tuple [.i p2,.i p3],H1)) (g2:∀ kf,N ≤ kf → callN Tp polSl (kf+1) 101 [.sl db 0 n cap n 1,.i p0,.i p2,.ptr x 0 0 1,.func 64 [] []] H1=some (.tuple [.i p4,.i p5],H2)):RT polSl 99 (sub [] B99) [(0,.sl db 0 n cap n 1),(1,.i (a:Int)),(2,.i (b:Int)),(3,.i (q:Int)),(4,.ptr x 0 0 1),(5,.func 64 [] [])] H .ret (env99 (.sl db 0 n cap n 1) (.i p4) (.i p5) (.i p3) (.ptr x 0 0 1) (.func 64 [] []) (.i p5)) H2 :=
  RunsTo.hin N 60 [⟨1,5,.tuple [.i p0,.i p1],H0⟩,⟨2,5,.tuple [.i p2,.i p3],H1⟩,⟨3,5,.tuple [.i p4,.i p5],H2⟩] fun kf hk=>⟨_,by kernel_rfl,(oC (g0 kf (by omega)) (oC (g1 kf (by omega)) (oC (g2 kf (by omega)) .nil)))⟩
noncomputable def B98:Code:=Try.f98.body.getD .skip
abbrev env98 (v0 v1 v2 v3 v8:HV):Env:=[(0,v0),(1,v1),(2,v2),(3,v3),(8,v8)]
theorem ma_a_0 (N:Nat) (db n:Nat) (cap:Option Nat) (H:Heap) (x:Nat) (a:Nat) {p0:Int} {H0:Heap} (g0:∀ kf,N ≤ kf → callN Tp polSl (kf+1) 99 [.sl db 0 n cap n 1,.i (IntKind.i64.wrap ((a:Int) - 1)),.i (a:Int),.i (IntKind.i64.wrap ((a:Int)+1)),.ptr x 0 0 1,.func 64 [] []] H=some (.i p0,H0)):RT polSl 98 (sub [] B98) [(0,.sl db 0 n cap n 1),(1,.i (a:Int)),(2,.ptr x 0 0 1),(3,.func 64 [] [])] H .ret (env98 (.sl db 0 n cap n 1) (.i (a:Int)) (.ptr x 0 0 1) (.func 64 [] []) (.i p0)) H0 :=
  RunsTo.hin N 60 [⟨1,8,.i p0,H0⟩] fun kf hk=>⟨_,by kernel_rfl,(oC (g0 kf (by omega)) .nil)⟩
noncomputable def B86:Code:=Try.f86.body.getD .skip
abbrev env86 (v0 v1 v2 v3 v8 v9 v10 v11 v12 v13 v14 v55:HV):Env:=[(0,v0),(1,v1),(2,v2),(3,v3),(8,v8),(9,v9),(10,v10),(11,v11),(12,v12),(13,v13),(14,v14),(55,v55)]
theorem cv_a_0 (N:Nat) (db n:Nat) (cap:Option Nat) (H:Heap) (x:Nat) (a:Nat) (b:Nat) {H0:Heap} {p0:Int} {H1:Heap} {p1:Int} {H2:Heap} {p2:Int} {H3:Heap} {p3:Int} {H4:Heap} {x0:Int} (g0:some (newV (.i 0) H)=some (.ptr x 0 0 1,H0)) (g1:8 ≤ IntKind.i64.wrap ((b:Int) - (a:Int))) (g2:50 ≤ IntKind.i64.wrap ((b:Int) - (a:Int))) (g3:∀ kf,N ≤ kf → callN Tp polSl (kf+1) 98 [.sl db 0 n cap n 1,.i (IntKind.i64.wrap ((a:Int)+IntKind.i64.wrap (IntKind.i64.wrap ((IntKind.i64.wrap ((b:Int) - (a:Int)):Int).tdiv 4) * 1))),.ptr x 0 0 1,.func 64 [] []] H0=some (.i p0,H1)) (g4:∀ kf,N ≤ kf → callN Tp polSl (kf+1) 98 [.sl db 0 n cap n 1,.i (IntKind.i64.wrap ((a:Int)+IntKind.i64.wrap (IntKind.i64.wrap ((IntKind.i64.wrap ((b:Int) - (a:Int)):Int).tdiv 4) * 2))),.ptr x 0 0 1,.func 64 [] []] H1=some (.i p1,H2)) (g5:∀ kf,N ≤ kf → callN Tp polSl (kf+1) 98 [.sl db 0 n cap n 1,.i (IntKind.i64.wrap ((a:Int)+IntKind.i64.wrap (IntKind.i64.wrap ((IntKind.i64.wrap ((b:Int) - (a:Int)):Int).tdiv 4) * 3))),.ptr x 0 0 1,.func 64 [] []] H2=some (.i p2,H3)) (g6:∀ kf,N ≤ kf → callN Tp polSl (kf+1) 99 [.sl db 0 n cap n 1,.i p0,.i p1,.i p2,.ptr x 0 0 1,.func 64 [] []] H3=some (.i p3,H4)) (g7:loadV Tp H4 3 (.ptr x 0 0 1)=some (.i x0)) (g8:x0=0):RT polSl 86 (sub [] B86) [(0,.sl db 0 n cap n 1),(1,.i (a:Int)),(2,.i (b:Int)),(3,.func 64 [] [])] H .ret (env86 (.sl db 0 n cap n 1) (.i (a:Int)) (.i (b:Int)) (.func 64 [] []) (.i p3) (.i 1) (.i (IntKind.i64.wrap ((b:Int) - (a:Int)))) (.ptr x 0 0 1) (.i p0) (.i p3) (.i p2) (.i x0)) H4 :=
  RunsTo.hin N 60 [⟨2,0,.ptr x 0 0 1,H0⟩,⟨6,1,.bool true,H0⟩,⟨7,1,.bool true,H0⟩,⟨8,3,.i p0,H1⟩,⟨9,3,.i p1,H2⟩,⟨10,3,.i p2,H3⟩,⟨11,5,.i p3,H4⟩,⟨12,0,.i x0,H4⟩,⟨14,0,.bool true,H4⟩] fun kf hk=>⟨_,by kernel_rfl,(oC (g0) (oB H0 (decide_eq_true g1) (oB H0 (decide_eq_true g2) (oC (g3 kf (by omega)) (oC (g4 kf (by omega)) (oC (g5 kf (by omega)) (oC (g6 kf (by omega)) (oP H4 g7 (oB H4 (decide_eq_true g8) .nil)))))))))⟩
theorem cv_a_1 (N:Nat) (db n:Nat) (cap:Option Nat) (H:Heap) (x:Nat) (a:Nat) (b:Nat) {H0:Heap} {p0:Int} {H1:Heap} {p1:Int} {H2:Heap} {p2:Int} {H3:Heap} {p3:Int} {H4:Heap} {x0:Int} (g0:some (newV (.i 0) H)=some (.ptr x 0 0 1,H0)) (g1:8 ≤ IntKind.i64.wrap ((b:Int) - (a:Int))) (g2:50 ≤ IntKind.i64.wrap ((b:Int) - (a:Int))) (g3:∀ kf,N ≤ kf → callN Tp polSl (kf+1) 98 [.sl db 0 n cap n 1,.i (IntKind.i64.wrap ((a:Int)+IntKind.i64.wrap (IntKind.i64.wrap ((IntKind.i64.wrap ((b:Int) - (a:Int)):Int).tdiv 4) * 1))),.ptr x 0 0 1,.func 64 [] []] H0=some (.i p0,H1)) (g4:∀ kf,N ≤ kf → callN Tp polSl (kf+1) 98 [.sl db 0 n cap n 1,.i (IntKind.i64.wrap ((a:Int)+IntKind.i64.wrap (IntKind.i64.wrap ((IntKind.i64.wrap ((b:Int) - (a:Int)):Int).tdiv 4) * 2))),.ptr x 0 0 1,.func 64 [] []] H1=some (.i p1,H2)) (g5:∀ kf,N ≤ kf → callN Tp polSl (kf+1) 98 [.sl db 0 n cap n 1,.i (IntKind.i64.wrap ((a:Int)+IntKind.i64.wrap (IntKind.i64.wrap ((IntKind.i64.wrap ((b:Int) - (a:Int)):Int).tdiv 4) * 3))),.ptr x 0 0 1,.func 64 [] []] H2=some (.i p2,H3)) (g6:∀ kf,N ≤ kf → callN Tp polSl (kf+1) 99 [.sl db 0 n cap n 1,.i p0,.i p1,.i p2,.ptr x 0 0 1,.func 64 [] []] H3=some (.i p3,H4)) (g7:loadV Tp H4 3 (.ptr x 0 0 1)=some (.i x0)) (g8:¬ (x0=0)) (g9:x0=12):RT polSl 86 (sub [] B86) [(0,.sl db 0 n cap n 1),(1,.i (a:Int)),(2,.i (b:Int)),(3,.func 64 [] [])] H .ret (env86 (.sl db 0 n cap n 1) (.i (a:Int)) (.i (b:Int)) (.func 64 [] []) (.i p3) (.i 2) (.i (IntKind.i64.wrap ((b:Int) - (a:Int)))) (.ptr x 0 0 1) (.i p0) (.i p3) (.i p2) (.i x0)) H4 :=
  RunsTo.hin N 60 [⟨2,0,.ptr x 0 0 1,H0⟩,⟨6,1,.bool true,H0⟩,⟨7,1,.bool true,H0⟩,⟨8,3,.i p0,H1⟩,⟨9,3,.i p1,H2⟩,⟨10,3,.i p2,H3⟩,⟨11,5,.i p3,H4⟩,⟨12,0,.i x0,H4⟩,⟨14,0,.bool false,H4⟩,⟨16,0,.bool true,H4⟩] fun kf hk=>⟨_,by kernel_rfl,(oC (g0) (oB H0 (decide_eq_true g1) (oB H0 (decide_eq_true g2) (oC (g3 kf (by omega)) (oC (g4 kf (by omega)) (oC (g5 kf (by omega)) (oC (g6 kf (by omega)) (oP H4 g7 (oB H4 (decide_eq_false g8) (oB H4 (decide_eq_true g9) .nil))))))))))⟩
theorem cv_a_2 (N:Nat) (db n:Nat) (cap:Option Nat) (H:Heap) (x:Nat) (a:Nat) (b:Nat) {H0:Heap} {p0:Int} {H1:Heap} {p1:Int} {H2:Heap} {p2:Int} {H3:Heap} {p3:Int} {H4:Heap} {x0:Int} (g0:some (newV (.i 0) H)=some (.ptr x 0 0 1,H0)) (g1:8 ≤ IntKind.i64.wrap ((b:Int) - (a:Int))) (g2:50 ≤ IntKind.i64.wrap ((b:Int) - (a:Int))) (g3:∀ kf,N ≤ kf → callN Tp polSl (kf+1) 98 [.sl db 0 n cap n 1,.i (IntKind.i64.wrap ((a:Int)+IntKind.i64.wrap (IntKind.i64.wrap ((IntKind.i64.wrap ((b:Int) - (a:Int)):Int).tdiv 4) * 1))),.ptr x 0 0 1,.func 64 [] []] H0=some (.i p0,H1)) (g4:∀ kf,N ≤ kf → callN Tp polSl (kf+1) 98 [.sl db 0 n cap n 1,.i (IntKind.i64.wrap ((a:Int)+IntKind.i64.wrap (IntKind.i64.wrap ((IntKind.i64.wrap ((b:Int) - (a:Int)):Int).tdiv 4) * 2))),.ptr x 0 0 1,.func 64 [] []] H1=some (.i p1,H2)) (g5:∀ kf,N ≤ kf → callN Tp polSl (kf+1) 98 [.sl db 0 n cap n 1,.i (IntKind.i64.wrap ((a:Int)+IntKind.i64.wrap (IntKind.i64.wrap ((IntKind.i64.wrap ((b:Int) - (a:Int)):Int).tdiv 4) * 3))),.ptr x 0 0 1,.func 64 [] []] H2=some (.i p2,H3)) (g6:∀ kf,N ≤ kf → callN Tp polSl (kf+1) 99 [.sl db 0 n cap n 1,.i p0,.i p1,.i p2,.ptr x 0 0 1,.func 64 [] []] H3=some (.i p3,H4)) (g7:loadV Tp H4 3 (.ptr x 0 0 1)=some (.i x0)) (g8:¬ (x0=0)) (g9:¬ (x0=12)):RT polSl 86 (sub [] B86) [(0,.sl db 0 n cap n 1),(1,.i (a:Int)),(2,.i (b:Int)),(3,.func 64 [] [])] H .ret (env86 (.sl db 0 n cap n 1) (.i (a:Int)) (.i (b:Int)) (.func 64 [] []) (.i p3) (.i 0) (.i (IntKind.i64.wrap ((b:Int) - (a:Int)))) (.ptr x 0 0 1) (.i p0) (.i p3) (.i p2) (.i x0)) H4 :=
  RunsTo.hin N 60 [⟨2,0,.ptr x 0 0 1,H0⟩,⟨6,1,.bool true,H0⟩,⟨7,1,.bool true,H0⟩,⟨8,3,.i p0,H1⟩,⟨9,3,.i p1,H2⟩,⟨10,3,.i p2,H3⟩,⟨11,5,.i p3,H4⟩,⟨12,0,.i x0,H4⟩,⟨14,0,.bool false,H4⟩,⟨16,0,.bool false,H4⟩] fun kf hk=>⟨_,by kernel_rfl,(oC (g0) (oB H0 (decide_eq_true g1) (oB H0 (decide_eq_true g2) (oC (g3 kf (by omega)) (oC (g4 kf (by omega)) (oC (g5 kf (by omega)) (oC (g6 kf (by omega)) (oP H4 g7 (oB H4 (decide_eq_false g8) (oB H4 (decide_eq_false g9) .nil))))))))))⟩
theorem cv_a_3 (N:Nat) (db n:Nat) (cap:Option Nat) (H:Heap) (x:Nat) (a:Nat) (b:Nat) {H0:Heap} {p0:Int} {H1:Heap} {x0:Int} (g0:some (newV (.i 0) H)=some (.ptr x 0 0 1,H0)) (g1:8 ≤ IntKind.i64.wrap ((b:Int) - (a:Int))) (g2:¬ (50 ≤ IntKind.i64.wrap ((b:Int) - (a:Int)))) (g3:∀ kf,N ≤ kf → callN Tp polSl (kf+1) 99 [.sl db 0 n cap n 1,.i (IntKind.i64.wrap ((a:Int)+IntKind.i64.wrap (IntKind.i64.wrap ((IntKind.i64.wrap ((b:Int) - (a:Int)):Int).tdiv 4) * 1))),.i (IntKind.i64.wrap ((a:Int)+IntKind.i64.wrap (IntKind.i64.wrap ((IntKind.i64.wrap ((b:Int) - (a:Int)):Int).tdiv 4) * 2))),.i (IntKind.i64.wrap ((a:Int)+IntKind.i64.wrap (IntKind.i64.wrap ((IntKind.i64.wrap ((b:Int) - (a:Int)):Int).tdiv 4) * 3))),.ptr x 0 0 1,.func 64 [] []] H0=some (.i p0,H1)) (g4:loadV Tp H1 3 (.ptr x 0 0 1)=some (.i x0)) (g5:x0=0):RT polSl 86 (sub [] B86) [(0,.sl db 0 n cap n 1),(1,.i (a:Int)),(2,.i (b:Int)),(3,.func 64 [] [])] H .ret (env86 (.sl db 0 n cap n 1) (.i (a:Int)) (.i (b:Int)) (.func 64 [] []) (.i p0) (.i 1) (.i (IntKind.i64.wrap ((b:Int) - (a:Int)))) (.ptr x 0 0 1) (.i (IntKind.i64.wrap ((a:Int)+IntKind.i64.wrap (IntKind.i64.wrap ((IntKind.i64.wrap ((b:Int) - (a:Int)):Int).tdiv 4) * 1)))) (.i p0) (.i (IntKind.i64.wrap ((a:Int)+IntKind.i64.wrap (IntKind.i64.wrap ((IntKind.i64.wrap ((b:Int) - (a:Int)):Int).tdiv 4) * 3)))) (.i x0)) H1 :=
  RunsTo.hin N 60 [⟨2,0,.ptr x 0 0 1,H0⟩,⟨6,1,.bool true,H0⟩,⟨7,1,.bool false,H0⟩,⟨11,5,.i p0,H1⟩,⟨12,0,.i x0,H1⟩,⟨14,0,.bool true,H1⟩] fun kf hk=>⟨_,by kernel_rfl,(oC (g0) (oB H0 (decide_eq_true g1) (oB H0 (decide_eq_false g2) (oC (g3 kf (by omega)) (oP H1 g4 (oB H1 (decide_eq_true g5) .nil))))))⟩
theorem cv_a_4 (N:Nat) (db n:Nat) (cap:Option Nat) (H:Heap) (x:Nat) (a:Nat) (b:Nat) {H0:Heap} {p0:Int} {H1:Heap} {x0:Int} (g0:some (newV (.i 0) H)=some (.ptr x 0 0 1,H0)) (g1:8 ≤ IntKind.i64.wrap ((b:Int) - (a:Int))) (g2:¬ (50 ≤ IntKind.i64.wrap ((b:Int) - (a:Int)))) (g3:∀ kf,N ≤ kf → callN Tp polSl (kf+1) 99 [.sl db 0 n cap n 1,.i (IntKind.i64.wrap ((a:Int)+IntKind.i64.wrap (IntKind.i64.wrap ((IntKind.i64.wrap ((b:Int) - (a:Int)):Int).tdiv 4) * 1))),.i (IntKind.i64.wrap ((a:Int)+IntKind.i64.wrap (IntKind.i64.wrap ((IntKind.i64.wrap ((b:Int) - (a:Int)):Int).tdiv 4) * 2))),.i (IntKind.i64.wrap ((a:Int)+IntKind.i64.wrap (IntKind.i64.wrap ((IntKind.i64.wrap ((b:Int) - (a:Int)):Int).tdiv 4) * 3))),.ptr x 0 0 1,.func 64 [] []] H0=some (.i p0,H1)) (g4:loadV Tp H1 3 (.ptr x 0 0 1)=some (.i x0)) (g5:¬ (x0=0)) (g6:x0=12):RT polSl 86 (sub [] B86) [(0,.sl db 0 n cap n 1),(1,.i (a:Int)),(2,.i (b:Int)),(3,.func 64 [] [])] H .ret (env86 (.sl db 0 n cap n 1) (.i (a:Int)) (.i (b:Int)) (.func 64 [] []) (.i p0) (.i 2) (.i (IntKind.i64.wrap ((b:Int) - (a:Int)))) (.ptr x 0 0 1) (.i (IntKind.i64.wrap ((a:Int)+IntKind.i64.wrap (IntKind.i64.wrap ((IntKind.i64.wrap ((b:Int) - (a:Int)):Int).tdiv 4) * 1)))) (.i p0) (.i (IntKind.i64.wrap ((a:Int)+IntKind.i64.wrap (IntKind.i64.wrap ((IntKind.i64.wrap ((b:Int) - (a:Int)):Int).tdiv 4) * 3)))) (.i x0)) H1 :=
  RunsTo.hin N 60 [⟨2,0,.ptr x 0 0 1,H0⟩,⟨6,1,.bool true,H0⟩,⟨7,1,.bool false,H0⟩,⟨11,5,.i p0,H1⟩,⟨12,0,.i x0,H1⟩,⟨14,0,.bool false,H1⟩,⟨16,0,.bool true,H1⟩] fun kf hk=>⟨_,by kernel_rfl,(oC (g0) (oB H0 (decide_eq_true g1) (oB H0 (decide_eq_false g2) (oC (g3 kf (by omega)) (oP H1 g4 (oB H1 (decide_eq_false g5) (oB H1 (decide_eq_true g6) .nil)))))))⟩
theorem cv_a_5 (N:Nat) (db n:Nat) (cap:Option Nat) (H:Heap) (x:Nat) (a:Nat) (b:Nat) {H0:Heap} {p0:Int} {H1:Heap} {x0:Int} (g0:some (newV (.i 0) H)=some (.ptr x 0 0 1,H0)) (g1:8 ≤ IntKind.i64.wrap ((b:Int) - (a:Int))) (g2:¬ (50 ≤ IntKind.i64.wrap ((b:Int) - (a:Int)))) (g3:∀ kf,N ≤ kf → callN Tp polSl (kf+1) 99 [.sl db 0 n cap n 1,.i (IntKind.i64.wrap ((a:Int)+IntKind.i64.wrap (IntKind.i64.wrap ((IntKind.i64.wrap ((b:Int) - (a:Int)):Int).tdiv 4) * 1))),.i (IntKind.i64.wrap ((a:Int)+IntKind.i64.wrap (IntKind.i64.wrap ((IntKind.i64.wrap ((b:Int) - (a:Int)):Int).tdiv 4) * 2))),.i (IntKind.i64.wrap ((a:Int)+IntKind.i64.wrap (IntKind.i64.wrap ((IntKind.i64.wrap ((b:Int) - (a:Int)):Int).tdiv 4) * 3))),.ptr x 0 0 1,.func 64 [] []] H0=some (.i p0,H1)) (g4:loadV Tp H1 3 (.ptr x 0 0 1)=some (.i x0)) (g5:¬ (x0=0)) (g6:¬ (x0=12)):RT polSl 86 (sub [] B86) [(0,.sl db 0 n cap n 1),(1,.i (a:Int)),(2,.i (b:Int)),(3,.func 64 [] [])] H .ret (env86 (.sl db 0 n cap n 1) (.i (a:Int)) (.i (b:Int)) (.func 64 [] []) (.i p0) (.i 0) (.i (IntKind.i64.wrap ((b:Int) - (a:Int)))) (.ptr x 0 0 1) (.i (IntKind.i64.wrap ((a:Int)+IntKind.i64.wrap (IntKind.i64.wrap ((IntKind.i64.wrap ((b:Int) - (a:Int)):Int).tdiv 4) * 1)))) (.i p0) (.i (IntKind.i64.wrap ((a:Int)+IntKind.i64.wrap (IntKind.i64.wrap ((IntKind.i64.wrap ((b:Int) - (a:Int)):Int).tdiv 4) * 3)))) (.i x0)) H1 :=
  RunsTo.hin N 60 [⟨2,0,.ptr x 0 0 1,H0⟩,⟨6,1,.bool true,H0⟩,⟨7,1,.bool false,H0⟩,⟨11,5,.i p0,H1⟩,⟨12,0,.i x0,H1⟩,⟨14,0,.bool false,H1⟩,⟨16,0,.bool false,H1⟩] fun kf hk=>⟨_,by kernel_rfl,(oC (g0) (oB H0 (decide_eq_true g1) (oB H0 (decide_eq_false g2) (oC (g3 kf (by omega)) (oP H1 g4 (oB H1 (decide_eq_false g5) (oB H1 (decide_eq_false g6) .nil)))))))⟩
noncomputable def B94:Code:=Try.f94.body.getD .skip
abbrev env94 (v0 v2:HV):Env:=[(0,v0),(2,v2)]
theorem xs_a_0 (N:Nat) (db n:Nat) (cap:Option Nat) (H:Heap) (x:Nat)  {x0:Int} {x1:Int} {h0:Int} {h1:Int} {H0:Heap} {x2:Int} {x3:Int} {h2:Int} {h3:Int} {H1:Heap} {x4:Int} {x5:Int} {h4:Int} {h5:Int} {H2:Heap} {x6:Int} (g0:loadV Tp H 114 (.ptr x 0 0 1)=some (.int .u64 x0)) (g1:loadV Tp H 114 (.ptr x 0 0 1)=some (.int .u64 x1)) (g2:binV Tp .shl 114 (.int .u64 x1) (.int .u64 13)=some (.int .u64 h0)) (g3:binV Tp .xor 114 (.int .u64 x0) (.int .u64 h0)=some (.int .u64 h1)) (g4:storeV Tp H 114 (.ptr x 0 0 1) (.int .u64 h1)=some H0) (g5:loadV Tp H0 114 (.ptr x 0 0 1)=some (.int .u64 x2)) (g6:loadV Tp H0 114 (.ptr x 0 0 1)=some (.int .u64 x3)) (g7:binV Tp .shr 114 (.int .u64 x3) (.int .u64 7)=some (.int .u64 h2)) (g8:binV Tp .xor 114 (.int .u64 x2) (.int .u64 h2)=some (.int .u64 h3)) (g9:storeV Tp H0 114 (.ptr x 0 0 1) (.int .u64 h3)=some H1) (g10:loadV Tp H1 114 (.ptr x 0 0 1)=some (.int .u64 x4)) (g11:loadV Tp H1 114 (.ptr x 0 0 1)=some (.int .u64 x5)) (g12:binV Tp .shl 114 (.int .u64 x5) (.int .u64 17)=some (.int .u64 h4)) (g13:binV Tp .xor 114 (.int .u64 x4) (.int .u64 h4)=some (.int .u64 h5)) (g14:storeV Tp H1 114 (.ptr x 0 0 1) (.int .u64 h5)=some H2) (g15:loadV Tp H2 114 (.ptr x 0 0 1)=some (.int .u64 x6)):RT polSl 94 (sub [] B94) [(0,.ptr x 0 0 1)] H .ret (env94 (.ptr x 0 0 1) (.int .u64 x6)) H2 :=
  RunsTo.hin N 60 [⟨1,2,.int .u64 x0,H⟩,⟨1,5,.int .u64 x1,H⟩,⟨1,6,.int .u64 h0,H⟩,⟨1,7,.int .u64 h1,H⟩,⟨1,9,.tuple [],H0⟩,⟨2,2,.int .u64 x2,H0⟩,⟨2,5,.int .u64 x3,H0⟩,⟨2,6,.int .u64 h2,H0⟩,⟨2,7,.int .u64 h3,H0⟩,⟨2,9,.tuple [],H1⟩,⟨3,2,.int .u64 x4,H1⟩,⟨3,5,.int .u64 x5,H1⟩,⟨3,6,.int .u64 h4,H1⟩,⟨3,7,.int .u64 h5,H1⟩,⟨3,9,.tuple [],H2⟩,⟨4,2,.int .u64 x6,H2⟩] fun kf hk=>⟨_,by kernel_rfl,(oP H g0 (oP H g1 (oP H g2 (oP H g3 (oS g4 (oP H0 g5 (oP H0 g6 (oP H0 g7 (oP H0 g8 (oS g9 (oP H1 g10 (oP H1 g11 (oP H1 g12 (oP H1 g13 (oS g14 (oP H2 g15 .nil))))))))))))))))⟩
noncomputable def B85:Code:=Try.f85.body.getD .skip
abbrev env85 (v0 v1 v2 v8 v9 v10 v11 v12:HV):Env:=[(0,v0),(1,v1),(2,v2),(8,v8),(9,v9),(10,v10),(11,v11),(12,v12)]
theorem bk_a_0 (N:Nat) (db n:Nat) (cap:Option Nat) (H:Heap) (x:Nat) (a:Nat) (b:Nat):RT polSl 85 (sub [0] B85) [(0,.sl db 0 n cap n 1),(1,.i (a:Int)),(2,.i (b:Int)),(3,.func 64 [] [])] H .normal (env85 (.sl db 0 n cap n 1) (.i (a:Int)) (.i (b:Int)) (.i (IntKind.i64.wrap ((b:Int) - (a:Int)))) Ud Ud Ud Ud) H :=
  RunsTo.hin N 60 [] fun kf hk=>⟨_,by kernel_rfl,.nil⟩
theorem bk_b_0 (N:Nat) (db n:Nat) (cap:Option Nat) (H:Heap) (x:Nat) (a:Nat) (b:Nat) (k:Nat) {y9 y10 y11 y12:HV}(g0:8 ≤ (k:Int)):RunsTo Tp polSl 85 (sub [1,0] B85) (env85 (.sl db 0 n cap n 1) (.i (a:Int)) (.i (b:Int)) (.i (k:Int)) y9 y10 y11 y12) H .normal [0,1,2,8,9,10,11,12,17] [(0,.sl db 0 n cap n 1),(1,.i (a:Int)),(2,.i (b:Int)),(8,.i (k:Int)),(9,y9),(10,y10),(11,y11),(12,y12),(17,.bool true)] H :=
  RunsTo.hin N 60 [⟨1,1,.bool true,H⟩] fun kf hk=>⟨_,by kernel_rfl,(oB H (decide_eq_true g0) .nil)⟩
theorem bk_c_0 (N:Nat) (db n:Nat) (cap:Option Nat) (H:Heap) (x:Nat) (a:Nat) (b:Nat) (k:Nat) {y9 y10 y11 y12:HV} {H0:Heap} {H1:Heap} (g0:some (newV (.int .u64 0) H)=some (.ptr x 0 0 1,H0)) (g1:storeV Tp H0 114 (.ptr x 0 0 1) (.int .u64 (IntKind.u64.wrap (k:Int)))=some H1):RT polSl 85 (sub [1,1,0,0] B85) (env85 (.sl db 0 n cap n 1) (.i (a:Int)) (.i (b:Int)) (.i (k:Int)) y9 y10 y11 y12) H .normal (env85 (.sl db 0 n cap n 1) (.i (a:Int)) (.i (b:Int)) (.i (k:Int)) (.ptr x 0 0 1) y10 y11 y12) H1 :=
  RunsTo.hin N 60 [⟨2,2,.ptr x 0 0 1,H0⟩,⟨2,3,.tuple [],H1⟩] fun kf hk=>⟨_,by kernel_rfl,(oC (g0) (oS g1 .nil))⟩
theorem bk_d_0 (N:Nat) (db n:Nat) (cap:Option Nat) (H:Heap) (x:Nat) (a:Nat) (b:Nat) (k:Nat) {y10 y11 y12:HV} {u0:Int} {H0:Heap} (g0:∀ kf,N ≤ kf → callN Tp polSl (kf+1) 93 [.i (k:Int)] H=some (.int .u64 u0,H0)):RT polSl 85 (sub [1,1,0,1,0] B85) (env85 (.sl db 0 n cap n 1) (.i (a:Int)) (.i (b:Int)) (.i (k:Int)) (.ptr x 0 0 1) y10 y11 y12) H .normal (env85 (.sl db 0 n cap n 1) (.i (a:Int)) (.i (b:Int)) (.i (k:Int)) (.ptr x 0 0 1) (.int .u64 u0) y11 y12) H0 :=
  RunsTo.hin N 60 [⟨3,1,.int .u64 u0,H0⟩] fun kf hk=>⟨_,by kernel_rfl,(oC (g0 kf (by omega)) .nil)⟩
theorem bk_e_0 (N:Nat) (db n:Nat) (cap:Option Nat) (H:Heap) (x:Nat) (a:Nat) (b:Nat) (k:Nat) (mo:Int) {y11 y12:HV}:RT polSl 85 (sub [1,1,0,1,1,0] B85) (env85 (.sl db 0 n cap n 1) (.i (a:Int)) (.i (b:Int)) (.i (k:Int)) (.ptr x 0 0 1) (.int .u64 mo) y11 y12) H .normal (env85 (.sl db 0 n cap n 1) (.i (a:Int)) (.i (b:Int)) (.i (k:Int)) (.ptr x 0 0 1) (.int .u64 mo) (.i (IntKind.i64.wrap (IntKind.i64.wrap ((a:Int)+IntKind.i64.wrap (IntKind.i64.wrap (((k:Int):Int).tdiv 4) * 2)) - 1))) y12) H :=
  RunsTo.hin N 60 [] fun kf hk=>⟨_,by kernel_rfl,.nil⟩
theorem bk_f_0 (N:Nat) (db n:Nat) (cap:Option Nat) (H:Heap) (x:Nat) (a:Nat) (b:Nat) (k:Nat) (mo:Int) (i:Nat) {y12:HV} {u0:Int} {H0:Heap} {h0:Int} {a0:HV} {v0:HV} {a1:HV} {v1:HV} {a2:HV} {H1:Heap} {a3:HV} {H2:Heap} (g0:(i:Int) ≤ IntKind.i64.wrap (IntKind.i64.wrap ((a:Int)+IntKind.i64.wrap (IntKind.i64.wrap (((k:Int):Int).tdiv 4) * 2))+1)) (g1:∀ kf,N ≤ kf → callN Tp polSl (kf+1) 94 [.ptr x 0 0 1] H=some (.int .u64 u0,H0)) (g2:binV Tp .and 85 (.int .u64 u0) (.int .u64 (IntKind.u64.wrap (mo - 1)))=some (.int .u64 h0)) (g3:(k:Int) ≤ IntKind.i64.wrap h0) (g4:idxV Tp 35 (.sl db 0 n cap n 1) (.i (IntKind.i64.wrap ((a:Int)+IntKind.i64.wrap (IntKind.i64.wrap h0 - (k:Int)))))=some (a0)) (g5:loadV Tp H0 22 (a0)=some (v0)) (g6:idxV Tp 35 (.sl db 0 n cap n 1) (.i (i:Int))=some (a1)) (g7:loadV Tp H0 22 (a1)=some (v1)) (g8:idxV Tp 35 (.sl db 0 n cap n 1) (.i (i:Int))=some (a2)) (g9:storeV Tp H0 22 (a2) (v0)=some H1) (g10:idxV Tp 35 (.sl db 0 n cap n 1) (.i (IntKind.i64.wrap ((a:Int)+IntKind.i64.wrap (IntKind.i64.wrap h0 - (k:Int)))))=some (a3)) (g11:storeV Tp H1 22 (a3) (v1)=some H2):RT polSl 85 (sub [1,1,0,1,1,1,0,0] B85) (env85 (.sl db 0 n cap n 1) (.i (a:Int)) (.i (b:Int)) (.i (k:Int)) (.ptr x 0 0 1) (.int .u64 mo) (.i (i:Int)) y12) H .normal (env85 (.sl db 0 n cap n 1) (.i (a:Int)) (.i (b:Int)) (.i (k:Int)) (.ptr x 0 0 1) (.int .u64 mo) (.i (IntKind.i64.wrap ((i:Int)+1))) (.i (IntKind.i64.wrap (IntKind.i64.wrap h0 - (k:Int))))) H2 :=
  RunsTo.hin N 60 [⟨5,7,.bool true,H⟩,⟨7,0,.int .u64 u0,H0⟩,⟨7,3,.int .u64 h0,H0⟩,⟨8,2,.bool true,H0⟩,⟨10,10,a0,H0⟩,⟨10,11,v0,H0⟩,⟨10,14,a1,H0⟩,⟨10,15,v1,H0⟩,⟨10,16,a2,H0⟩,⟨10,17,.tuple [],H1⟩,⟨10,18,a3,H1⟩,⟨10,19,.tuple [],H2⟩] fun kf hk=>⟨_,by kernel_rfl,(oB H (decide_eq_true g0) (oC (g1 kf (by omega)) (oP H0 g2 (oB H0 (decide_eq_true g3) (oP H0 g4 (oP H0 g5 (oP H0 g6 (oP H0 g7 (oP H0 g8 (oS g9 (oP H1 g10 (oS g11 .nil))))))))))))⟩
theorem bk_f_1 (N:Nat) (db n:Nat) (cap:Option Nat) (H:Heap) (x:Nat) (a:Nat) (b:Nat) (k:Nat) (mo:Int) (i:Nat) {y12:HV} {u0:Int} {H0:Heap} {h0:Int} {a0:HV} {v0:HV} {a1:HV} {v1:HV} {a2:HV} {H1:Heap} {a3:HV} {H2:Heap} (g0:(i:Int) ≤ IntKind.i64.wrap (IntKind.i64.wrap ((a:Int)+IntKind.i64.wrap (IntKind.i64.wrap (((k:Int):Int).tdiv 4) * 2))+1)) (g1:∀ kf,N ≤ kf → callN Tp polSl (kf+1) 94 [.ptr x 0 0 1] H=some (.int .u64 u0,H0)) (g2:binV Tp .and 85 (.int .u64 u0) (.int .u64 (IntKind.u64.wrap (mo - 1)))=some (.int .u64 h0)) (g3:¬ ((k:Int) ≤ IntKind.i64.wrap h0)) (g4:idxV Tp 35 (.sl db 0 n cap n 1) (.i (IntKind.i64.wrap ((a:Int)+IntKind.i64.wrap h0)))=some (a0)) (g5:loadV Tp H0 22 (a0)=some (v0)) (g6:idxV Tp 35 (.sl db 0 n cap n 1) (.i (i:Int))=some (a1)) (g7:loadV Tp H0 22 (a1)=some (v1)) (g8:idxV Tp 35 (.sl db 0 n cap n 1) (.i (i:Int))=some (a2)) (g9:storeV Tp H0 22 (a2) (v0)=some H1) (g10:idxV Tp 35 (.sl db 0 n cap n 1) (.i (IntKind.i64.wrap ((a:Int)+IntKind.i64.wrap h0)))=some (a3)) (g11:storeV Tp H1 22 (a3) (v1)=some H2):RT polSl 85 (sub [1,1,0,1,1,1,0,0] B85) (env85 (.sl db 0 n cap n 1) (.i (a:Int)) (.i (b:Int)) (.i (k:Int)) (.ptr x 0 0 1) (.int .u64 mo) (.i (i:Int)) y12) H .normal (env85 (.sl db 0 n cap n 1) (.i (a:Int)) (.i (b:Int)) (.i (k:Int)) (.ptr x 0 0 1) (.int .u64 mo) (.i (IntKind.i64.wrap ((i:Int)+1))) (.i (IntKind.i64.wrap h0))) H2 :=
  RunsTo.hin N 60 [⟨5,7,.bool true,H⟩,⟨7,0,.int .u64 u0,H0⟩,⟨7,3,.int .u64 h0,H0⟩,⟨8,2,.bool false,H0⟩,⟨10,10,a0,H0⟩,⟨10,11,v0,H0⟩,⟨10,14,a1,H0⟩,⟨10,15,v1,H0⟩,⟨10,16,a2,H0⟩,⟨10,17,.tuple [],H1⟩,⟨10,18,a3,H1⟩,⟨10,19,.tuple [],H2⟩] fun kf hk=>⟨_,by kernel_rfl,(oB H (decide_eq_true g0) (oC (g1 kf (by omega)) (oP H0 g2 (oB H0 (decide_eq_false g3) (oP H0 g4 (oP H0 g5 (oP H0 g6 (oP H0 g7 (oP H0 g8 (oS g9 (oP H1 g10 (oS g11 .nil))))))))))))⟩
theorem bk_f_2 (N:Nat) (db n:Nat) (cap:Option Nat) (H:Heap) (x:Nat) (a:Nat) (b:Nat) (k:Nat) (mo:Int) (i:Nat) {y12:HV}(g0:¬ ((i:Int) ≤ IntKind.i64.wrap (IntKind.i64.wrap ((a:Int)+IntKind.i64.wrap (IntKind.i64.wrap (((k:Int):Int).tdiv 4) * 2))+1))):RT polSl 85 (sub [1,1,0,1,1,1,0,0] B85) (env85 (.sl db 0 n cap n 1) (.i (a:Int)) (.i (b:Int)) (.i (k:Int)) (.ptr x 0 0 1) (.int .u64 mo) (.i (i:Int)) y12) H (.exit 0) (env85 (.sl db 0 n cap n 1) (.i (a:Int)) (.i (b:Int)) (.i (k:Int)) (.ptr x 0 0 1) (.int .u64 mo) (.i (i:Int)) y12) H :=
  RunsTo.hin N 60 [⟨5,7,.bool false,H⟩] fun kf hk=>⟨_,by kernel_rfl,(oB H (decide_eq_false g0) .nil)⟩
noncomputable def B70:Code:=Try.f70.body.getD .skip
abbrev env70 (v0 v1 v2 v3 v4 v10 v11 v12 v13 v14 v15 v16 v17 v18 v19 v20:HV):Env:=[(0,v0),(1,v1),(2,v2),(3,v3),(4,v4),(10,v10),(11,v11),(12,v12),(13,v13),(14,v14),(15,v15),(16,v16),(17,v17),(18,v18),(19,v19),(20,v20)]
theorem pq_a_0 (N:Nat) (db n:Nat) (cap:Option Nat) (H:Heap) (x:Nat) (a:Nat) (b:Nat) (lim:Int):RT polSl 70 (sub [0] B70) [(0,.sl db 0 n cap n 1),(1,.i (a:Int)),(2,.i (b:Int)),(3,.i lim),(4,.func 64 [] [])] H .normal (env70 (.sl db 0 n cap n 1) (.i (a:Int)) (.i (b:Int)) (.i lim) (.func 64 [] []) (.bool true) Ud Ud Ud Ud Ud Ud Ud Ud Ud Ud) H :=
  RunsTo.hin N 60 [] fun kf hk=>⟨_,by kernel_rfl,.nil⟩
theorem pq_b_0 (N:Nat) (db n:Nat) (cap:Option Nat) (H:Heap) (x:Nat) (a:Nat) (b:Nat) (lim:Int) {y10 y11 y12 y13 y14 y15 y16 y17 y18 y19 y20:HV}:RT polSl 70 (sub [1,0] B70) (env70 (.sl db 0 n cap n 1) (.i (a:Int)) (.i (b:Int)) (.i lim) (.func 64 [] []) y10 y11 y12 y13 y14 y15 y16 y17 y18 y19 y20) H .normal (env70 (.sl db 0 n cap n 1) (.i (a:Int)) (.i (b:Int)) (.i lim) (.func 64 [] []) y10 (.bool true) y12 y13 y14 y15 y16 y17 y18 y19 y20) H :=
  RunsTo.hin N 60 [] fun kf hk=>⟨_,by kernel_rfl,.nil⟩
theorem pq_c_0 (N:Nat) (db n:Nat) (cap:Option Nat) (H:Heap) (x:Nat) (a:Nat) (b:Nat) (lim:Int) {y10 y11 y12 y13 y14 y15 y16 y17 y18 y19 y20:HV}:RT polSl 70 (sub [1,1,0,0,0,0] B70) (env70 (.sl db 0 n cap n 1) (.i (a:Int)) (.i (b:Int)) (.i lim) (.func 64 [] []) y10 y11 y12 y13 y14 y15 y16 y17 y18 y19 y20) H .normal (env70 (.sl db 0 n cap n 1) (.i (a:Int)) (.i (b:Int)) (.i lim) (.func 64 [] []) y10 y11 (.i (IntKind.i64.wrap ((b:Int) - (a:Int)))) y13 y14 y15 y16 y17 y18 y19 y20) H :=
  RunsTo.hin N 60 [] fun kf hk=>⟨_,by kernel_rfl,.nil⟩
theorem pq_d_0 (N:Nat) (db n:Nat) (cap:Option Nat) (H:Heap) (x:Nat) (a:Nat) (b:Nat) (lim:Int) (k:Nat) {y10 y11 y13 y14 y15 y16 y17 y18 y19 y20:HV} {H0:Heap} (g0:(k:Int) ≤ 12) (g1:∀ kf,N ≤ kf → callN Tp polSl (kf+1) 83 [.sl db 0 n cap n 1,.i (a:Int),.i (b:Int),.func 64 [] []] H=some (.tuple [],H0)):RT polSl 70 (sub [1,1,0,0,0,1,0] B70) (env70 (.sl db 0 n cap n 1) (.i (a:Int)) (.i (b:Int)) (.i lim) (.func 64 [] []) y10 y11 (.i (k:Int)) y13 y14 y15 y16 y17 y18 y19 y20) H .ret (env70 (.sl db 0 n cap n 1) (.i (a:Int)) (.i (b:Int)) (.i lim) (.func 64 [] []) y10 y11 (.i (k:Int)) y13 y14 y15 y16 y17 y18 y19 y20) H0 :=
  RunsTo.hin N 60 [⟨3,1,.bool true,H⟩,⟨4,4,.tuple [],H0⟩] fun kf hk=>⟨_,by kernel_rfl,(oB H (decide_eq_true g0) (oC (g1 kf (by omega)) .nil))⟩
theorem pq_d_1 (N:Nat) (db n:Nat) (cap:Option Nat) (H:Heap) (x:Nat) (a:Nat) (b:Nat) (lim:Int) (k:Nat) {y10 y11 y13 y14 y15 y16 y17 y18 y19 y20:HV}(g0:¬ ((k:Int) ≤ 12)):RT polSl 70 (sub [1,1,0,0,0,1,0] B70) (env70 (.sl db 0 n cap n 1) (.i (a:Int)) (.i (b:Int)) (.i lim) (.func 64 [] []) y10 y11 (.i (k:Int)) y13 y14 y15 y16 y17 y18 y19 y20) H .normal (env70 (.sl db 0 n cap n 1) (.i (a:Int)) (.i (b:Int)) (.i lim) (.func 64 [] []) y10 y11 (.i (k:Int)) y13 y14 y15 y16 y17 y18 y19 y20) H :=
  RunsTo.hin N 60 [⟨3,1,.bool false,H⟩] fun kf hk=>⟨_,by kernel_rfl,(oB H (decide_eq_false g0) .nil)⟩
theorem pq_e_0 (N:Nat) (db n:Nat) (cap:Option Nat) (H:Heap) (x:Nat) (a:Nat) (b:Nat) (lim:Int) {y10 y11 y12 y13 y14 y15 y16 y17 y18 y19 y20:HV} {H0:Heap} (g0:lim=0) (g1:∀ kf,N ≤ kf → callN Tp polSl (kf+1) 84 [.sl db 0 n cap n 1,.i (a:Int),.i (b:Int),.func 64 [] []] H=some (.tuple [],H0)):RT polSl 70 (sub [1,1,0,0,0,1,1,0] B70) (env70 (.sl db 0 n cap n 1) (.i (a:Int)) (.i (b:Int)) (.i lim) (.func 64 [] []) y10 y11 y12 y13 y14 y15 y16 y17 y18 y19 y20) H .ret (env70 (.sl db 0 n cap n 1) (.i (a:Int)) (.i (b:Int)) (.i lim) (.func 64 [] []) y10 y11 y12 y13 y14 y15 y16 y17 y18 y19 y20) H0 :=
  RunsTo.hin N 60 [⟨5,1,.bool true,H⟩,⟨6,4,.tuple [],H0⟩] fun kf hk=>⟨_,by kernel_rfl,(oB H (decide_eq_true g0) (oC (g1 kf (by omega)) .nil))⟩
theorem pq_e_1 (N:Nat) (db n:Nat) (cap:Option Nat) (H:Heap) (x:Nat) (a:Nat) (b:Nat) (lim:Int) {y10 y11 y12 y13 y14 y15 y16 y17 y18 y19 y20:HV}(g0:¬ (lim=0)):RT polSl 70 (sub [1,1,0,0,0,1,1,0] B70) (env70 (.sl db 0 n cap n 1) (.i (a:Int)) (.i (b:Int)) (.i lim) (.func 64 [] []) y10 y11 y12 y13 y14 y15 y16 y17 y18 y19 y20) H .normal (env70 (.sl db 0 n cap n 1) (.i (a:Int)) (.i (b:Int)) (.i lim) (.func 64 [] []) y10 y11 y12 y13 y14 y15 y16 y17 y18 y19 y20) H :=
  RunsTo.hin N 60 [⟨5,1,.bool false,H⟩] fun kf hk=>⟨_,by kernel_rfl,(oB H (decide_eq_false g0) .nil)⟩
theorem pq_f_0 (N:Nat) (db n:Nat) (cap:Option Nat) (H:Heap) (x:Nat) (a:Nat) (b:Nat) (lim:Int) {y11 y12 y13 y14 y15 y16 y17 y18 y19 y20:HV}:RT polSl 70 (sub [1,1,0,0,0,1,1,1,0] B70) (env70 (.sl db 0 n cap n 1) (.i (a:Int)) (.i (b:Int)) (.i lim) (.func 64 [] []) (.bool true) y11 y12 y13 y14 y15 y16 y17 y18 y19 y20) H .normal (env70 (.sl db 0 n cap n 1) (.i (a:Int)) (.i (b:Int)) (.i lim) (.func 64 [] []) (.bool true) y11 y12 y13 y14 y15 y16 y17 y18 y19 y20) H :=
  RunsTo.hin N 60 [] fun kf hk=>⟨_,by kernel_rfl,.nil⟩
theorem pq_g_0 (N:Nat) (db n:Nat) (cap:Option Nat) (H:Heap) (x:Nat) (a:Nat) (b:Nat) (lim:Int) {y11 y12 y13 y14 y15 y16 y17 y18 y19 y20:HV} {H0:Heap} (g0:∀ kf,N ≤ kf → callN Tp polSl (kf+1) 85 [.sl db 0 n cap n 1,.i (a:Int),.i (b:Int),.func 64 [] []] H=some (.tuple [],H0)):RT polSl 70 (sub [1,1,0,0,0,1,1,1,0] B70) (env70 (.sl db 0 n cap n 1) (.i (a:Int)) (.i (b:Int)) (.i lim) (.func 64 [] []) (.bool false) y11 y12 y13 y14 y15 y16 y17 y18 y19 y20) H .normal (env70 (.sl db 0 n cap n 1) (.i (a:Int)) (.i (b:Int)) (.i (IntKind.i64.wrap (lim - 1))) (.func 64 [] []) (.bool false) y11 y12 y13 y14 y15 y16 y17 y18 y19 y20) H0 :=
  RunsTo.hin N 60 [⟨8,4,.tuple [],H0⟩] fun kf hk=>⟨_,by kernel_rfl,(oC (g0 kf (by omega)) .nil)⟩
theorem pq_h_0 (N:Nat) (db n:Nat) (cap:Option Nat) (H:Heap) (x:Nat) (a:Nat) (b:Nat) (lim:Int) {y10 y11 y12 y13 y14 y15 y16 y17 y18 y19 y20:HV} {p0:Int} {p1:Int} {H0:Heap} (g0:∀ kf,N ≤ kf → callN Tp polSl (kf+1) 86 [.sl db 0 n cap n 1,.i (a:Int),.i (b:Int),.func 64 [] []] H=some (.tuple [.i p0,.i p1],H0)):RT polSl 70 (sub [1,1,0,0,0,1,1,1,1,0] B70) (env70 (.sl db 0 n cap n 1) (.i (a:Int)) (.i (b:Int)) (.i lim) (.func 64 [] []) y10 y11 y12 y13 y14 y15 y16 y17 y18 y19 y20) H .normal (env70 (.sl db 0 n cap n 1) (.i (a:Int)) (.i (b:Int)) (.i lim) (.func 64 [] []) y10 y11 y12 (.i p0) (.i p1) y15 y16 y17 y18 y19 y20) H0 :=
  RunsTo.hin N 60 [⟨10,4,.tuple [.i p0,.i p1],H0⟩] fun kf hk=>⟨_,by kernel_rfl,(oC (g0 kf (by omega)) .nil)⟩
theorem pq_i_0 (N:Nat) (db n:Nat) (cap:Option Nat) (H:Heap) (x:Nat) (a:Nat) (b:Nat) (lim:Int) (p:Nat) (h:Int) {y10 y11 y12 y15 y16 y17 y18 y19 y20:HV} {H0:Heap} (g0:h=2) (g1:∀ kf,N ≤ kf → callN Tp polSl (kf+1) 87 [.sl db 0 n cap n 1,.i (a:Int),.i (b:Int),.func 64 [] []] H=some (.tuple [],H0)):RT polSl 70 (sub [1,1,0,0,0,1,1,1,1,1,0] B70) (env70 (.sl db 0 n cap n 1) (.i (a:Int)) (.i (b:Int)) (.i lim) (.func 64 [] []) y10 y11 y12 (.i (p:Int)) (.i h) y15 y16 y17 y18 y19 y20) H .normal (env70 (.sl db 0 n cap n 1) (.i (a:Int)) (.i (b:Int)) (.i lim) (.func 64 [] []) y10 y11 y12 (.i (IntKind.i64.wrap (IntKind.i64.wrap ((b:Int) - 1) - IntKind.i64.wrap ((p:Int) - (a:Int))))) (.i 1) y15 y16 y17 y18 y19 y20) H0 :=
  RunsTo.hin N 60 [⟨11,1,.bool true,H⟩,⟨12,4,.tuple [],H0⟩] fun kf hk=>⟨_,by kernel_rfl,(oB H (decide_eq_true g0) (oC (g1 kf (by omega)) .nil))⟩
theorem pq_i_1 (N:Nat) (db n:Nat) (cap:Option Nat) (H:Heap) (x:Nat) (a:Nat) (b:Nat) (lim:Int) (p:Nat) (h:Int) {y10 y11 y12 y15 y16 y17 y18 y19 y20:HV}(g0:¬ (h=2)):RT polSl 70 (sub [1,1,0,0,0,1,1,1,1,1,0] B70) (env70 (.sl db 0 n cap n 1) (.i (a:Int)) (.i (b:Int)) (.i lim) (.func 64 [] []) y10 y11 y12 (.i (p:Int)) (.i h) y15 y16 y17 y18 y19 y20) H .normal (env70 (.sl db 0 n cap n 1) (.i (a:Int)) (.i (b:Int)) (.i lim) (.func 64 [] []) y10 y11 y12 (.i (p:Int)) (.i h) y15 y16 y17 y18 y19 y20) H :=
  RunsTo.hin N 60 [⟨11,1,.bool false,H⟩] fun kf hk=>⟨_,by kernel_rfl,(oB H (decide_eq_false g0) .nil)⟩
theorem pq_j_0 (N:Nat) (db n:Nat) (cap:Option Nat) (H:Heap) (x:Nat) (a:Nat) (b:Nat) (lim:Int) (h:Int) {y12 y13 y15 y16 y17 y18 y19 y20:HV} {H0:Heap} (g0:h=1) (g1:∀ kf,N ≤ kf → callN Tp polSl (kf+1) 88 [.sl db 0 n cap n 1,.i (a:Int),.i (b:Int),.func 64 [] []] H=some (.bool true,H0)):RT polSl 70 (sub [1,1,0,0,0,1,1,1,1,1,1,0] B70) (env70 (.sl db 0 n cap n 1) (.i (a:Int)) (.i (b:Int)) (.i lim) (.func 64 [] []) (.bool true) (.bool true) y12 y13 (.i h) y15 y16 y17 y18 y19 y20) H .ret (env70 (.sl db 0 n cap n 1) (.i (a:Int)) (.i (b:Int)) (.i lim) (.func 64 [] []) (.bool true) (.bool true) y12 y13 (.i h) y15 y16 y17 y18 y19 y20) H0 :=
  RunsTo.hin N 60 [⟨15,6,.bool true,H⟩,⟨16,4,.bool true,H0⟩] fun kf hk=>⟨_,by kernel_rfl,(oB H (decide_eq_true g0) (oC (g1 kf (by omega)) .nil))⟩
theorem pq_j_1 (N:Nat) (db n:Nat) (cap:Option Nat) (H:Heap) (x:Nat) (a:Nat) (b:Nat) (lim:Int) (h:Int) {y12 y13 y15 y16 y17 y18 y19 y20:HV} {H0:Heap} (g0:h=1) (g1:∀ kf,N ≤ kf → callN Tp polSl (kf+1) 88 [.sl db 0 n cap n 1,.i (a:Int),.i (b:Int),.func 64 [] []] H=some (.bool false,H0)):RT polSl 70 (sub [1,1,0,0,0,1,1,1,1,1,1,0] B70) (env70 (.sl db 0 n cap n 1) (.i (a:Int)) (.i (b:Int)) (.i lim) (.func 64 [] []) (.bool true) (.bool true) y12 y13 (.i h) y15 y16 y17 y18 y19 y20) H .normal (env70 (.sl db 0 n cap n 1) (.i (a:Int)) (.i (b:Int)) (.i lim) (.func 64 [] []) (.bool true) (.bool true) y12 y13 (.i h) y15 y16 y17 y18 y19 y20) H0 :=
  RunsTo.hin N 60 [⟨15,6,.bool true,H⟩,⟨16,4,.bool false,H0⟩] fun kf hk=>⟨_,by kernel_rfl,(oB H (decide_eq_true g0) (oC (g1 kf (by omega)) .nil))⟩
theorem pq_j_2 (N:Nat) (db n:Nat) (cap:Option Nat) (H:Heap) (x:Nat) (a:Nat) (b:Nat) (lim:Int) (h:Int) {y12 y13 y15 y16 y17 y18 y19 y20:HV}(g0:¬ (h=1)):RT polSl 70 (sub [1,1,0,0,0,1,1,1,1,1,1,0] B70) (env70 (.sl db 0 n cap n 1) (.i (a:Int)) (.i (b:Int)) (.i lim) (.func 64 [] []) (.bool true) (.bool true) y12 y13 (.i h) y15 y16 y17 y18 y19 y20) H .normal (env70 (.sl db 0 n cap n 1) (.i (a:Int)) (.i (b:Int)) (.i lim) (.func 64 [] []) (.bool true) (.bool true) y12 y13 (.i h) y15 y16 y17 y18 y19 y20) H :=
  RunsTo.hin N 60 [⟨15,6,.bool false,H⟩] fun kf hk=>⟨_,by kernel_rfl,(oB H (decide_eq_false g0) .nil)⟩
theorem pq_k_0 (N:Nat) (db n:Nat) (cap:Option Nat) (H:Heap) (x:Nat) (a:Nat) (b:Nat) (lim:Int) (h:Int) {y12 y13 y15 y16 y17 y18 y19 y20:HV}:RT polSl 70 (sub [1,1,0,0,0,1,1,1,1,1,1,0] B70) (env70 (.sl db 0 n cap n 1) (.i (a:Int)) (.i (b:Int)) (.i lim) (.func 64 [] []) (.bool true) (.bool false) y12 y13 (.i h) y15 y16 y17 y18 y19 y20) H .normal (env70 (.sl db 0 n cap n 1) (.i (a:Int)) (.i (b:Int)) (.i lim) (.func 64 [] []) (.bool true) (.bool false) y12 y13 (.i h) y15 y16 y17 y18 y19 y20) H :=
  RunsTo.hin N 60 [] fun kf hk=>⟨_,by kernel_rfl,.nil⟩
theorem pq_l_0 (N:Nat) (db n:Nat) (cap:Option Nat) (H:Heap) (x:Nat) (a:Nat) (b:Nat) (lim:Int) (h:Int) {y11 y12 y13 y15 y16 y17 y18 y19 y20:HV}:RT polSl 70 (sub [1,1,0,0,0,1,1,1,1,1,1,0] B70) (env70 (.sl db 0 n cap n 1) (.i (a:Int)) (.i (b:Int)) (.i lim) (.func 64 [] []) (.bool false) y11 y12 y13 (.i h) y15 y16 y17 y18 y19 y20) H .normal (env70 (.sl db 0 n cap n 1) (.i (a:Int)) (.i (b:Int)) (.i lim) (.func 64 [] []) (.bool false) y11 y12 y13 (.i h) y15 y16 y17 y18 y19 y20) H :=
  RunsTo.hin N 60 [] fun kf hk=>⟨_,by kernel_rfl,.nil⟩
theorem pq_m_0 (N:Nat) (db n:Nat) (cap:Option Nat) (H:Heap) (x:Nat) (a:Nat) (b:Nat) (lim:Int) (p:Nat) {y10 y11 y12 y14 y15 y16 y17 y18 y19 y20:HV} {a0:HV} {v0:HV} {a1:HV} {v1:HV} {c0:Int} {H0:Heap} (g0:0 < (a:Int)) (g1:idxV Tp 35 (.sl db 0 n cap n 1) (.i (IntKind.i64.wrap ((a:Int) - 1)))=some (a0)) (g2:loadV Tp H 22 (a0)=some (v0)) (g3:idxV Tp 35 (.sl db 0 n cap n 1) (.i (p:Int))=some (a1)) (g4:loadV Tp H 22 (a1)=some (v1)) (g5:∀ kf,N ≤ kf → callN Tp polSl (kf+1) 64 [v0,v1] H=some (.i c0,H0)) (g6:c0 < 0):RT polSl 70 (sub [1,1,0,0,0,1,1,1,1,1,1,1,0] B70) (env70 (.sl db 0 n cap n 1) (.i (a:Int)) (.i (b:Int)) (.i lim) (.func 64 [] []) y10 y11 y12 (.i (p:Int)) y14 y15 y16 y17 y18 y19 y20) H .normal (env70 (.sl db 0 n cap n 1) (.i (a:Int)) (.i (b:Int)) (.i lim) (.func 64 [] []) y10 y11 y12 (.i (p:Int)) y14 y15 y16 y17 y18 y19 y20) H0 :=
  RunsTo.hin N 60 [⟨17,1,.bool true,H⟩,⟨17,7,a0,H⟩,⟨17,8,v0,H⟩,⟨17,11,a1,H⟩,⟨17,12,v1,H⟩,⟨17,13,.i c0,H0⟩,⟨17,14,.bool true,H0⟩] fun kf hk=>⟨_,by kernel_rfl,(oB H (decide_eq_true g0) (oP H g1 (oP H g2 (oP H g3 (oP H g4 (oC (g5 kf (by omega)) (oB H0 (decide_eq_true g6) .nil)))))))⟩
theorem pq_m_1 (N:Nat) (db n:Nat) (cap:Option Nat) (H:Heap) (x:Nat) (a:Nat) (b:Nat) (lim:Int) (p:Nat) {y10 y11 y12 y14 y15 y16 y17 y18 y19 y20:HV} {a0:HV} {v0:HV} {a1:HV} {v1:HV} {c0:Int} {H0:Heap} {m0:Int} {H1:Heap} (g0:0 < (a:Int)) (g1:idxV Tp 35 (.sl db 0 n cap n 1) (.i (IntKind.i64.wrap ((a:Int) - 1)))=some (a0)) (g2:loadV Tp H 22 (a0)=some (v0)) (g3:idxV Tp 35 (.sl db 0 n cap n 1) (.i (p:Int))=some (a1)) (g4:loadV Tp H 22 (a1)=some (v1)) (g5:∀ kf,N ≤ kf → callN Tp polSl (kf+1) 64 [v0,v1] H=some (.i c0,H0)) (g6:¬ (c0 < 0)) (g7:∀ kf,N ≤ kf → callN Tp polSl (kf+1) 89 [.sl db 0 n cap n 1,.i (a:Int),.i (b:Int),.i (p:Int),.func 64 [] []] H0=some (.i m0,H1)):RT polSl 70 (sub [1,1,0,0,0,1,1,1,1,1,1,1,0] B70) (env70 (.sl db 0 n cap n 1) (.i (a:Int)) (.i (b:Int)) (.i lim) (.func 64 [] []) y10 y11 y12 (.i (p:Int)) y14 y15 y16 y17 y18 y19 y20) H (.exit 1) (env70 (.sl db 0 n cap n 1) (.i m0) (.i (b:Int)) (.i lim) (.func 64 [] []) y10 y11 y12 (.i (p:Int)) y14 (.i m0) y16 y17 y18 y19 y20) H1 :=
  RunsTo.hin N 60 [⟨17,1,.bool true,H⟩,⟨17,7,a0,H⟩,⟨17,8,v0,H⟩,⟨17,11,a1,H⟩,⟨17,12,v1,H⟩,⟨17,13,.i c0,H0⟩,⟨17,14,.bool false,H0⟩,⟨18,5,.i m0,H1⟩] fun kf hk=>⟨_,by kernel_rfl,(oB H (decide_eq_true g0) (oP H g1 (oP H g2 (oP H g3 (oP H g4 (oC (g5 kf (by omega)) (oB H0 (decide_eq_false g6) (oC (g7 kf (by omega)) .nil))))))))⟩
theorem pq_m_2 (N:Nat) (db n:Nat) (cap:Option Nat) (H:Heap) (x:Nat) (a:Nat) (b:Nat) (lim:Int) (p:Nat) {y10 y11 y12 y14 y15 y16 y17 y18 y19 y20:HV}(g0:¬ (0 < (a:Int))):RT polSl 70 (sub [1,1,0,0,0,1,1,1,1,1,1,1,0] B70) (env70 (.sl db 0 n cap n 1) (.i (a:Int)) (.i (b:Int)) (.i lim) (.func 64 [] []) y10 y11 y12 (.i (p:Int)) y14 y15 y16 y17 y18 y19 y20) H .normal (env70 (.sl db 0 n cap n 1) (.i (a:Int)) (.i (b:Int)) (.i lim) (.func 64 [] []) y10 y11 y12 (.i (p:Int)) y14 y15 y16 y17 y18 y19 y20) H :=
  RunsTo.hin N 60 [⟨17,1,.bool false,H⟩] fun kf hk=>⟨_,by kernel_rfl,(oB H (decide_eq_false g0) .nil)⟩
theorem pq_n_0 (N:Nat) (db n:Nat) (cap:Option Nat) (H:Heap) (x:Nat) (a:Nat) (b:Nat) (lim:Int) (p:Nat) {y10 y11 y12 y14 y15 y16 y17 y18 y19 y20:HV} {m0:Int} {bb0:Bool} {H0:Heap} (g0:∀ kf,N ≤ kf → callN Tp polSl (kf+1) 90 [.sl db 0 n cap n 1,.i (a:Int),.i (b:Int),.i (p:Int),.func 64 [] []] H=some (.tuple [.i m0,.bool bb0],H0)):RT polSl 70 (sub [1,1,0,0,0,1,1,1,1,1,1,1,1,0] B70) (env70 (.sl db 0 n cap n 1) (.i (a:Int)) (.i (b:Int)) (.i lim) (.func 64 [] []) y10 y11 y12 (.i (p:Int)) y14 y15 y16 y17 y18 y19 y20) H .normal (env70 (.sl db 0 n cap n 1) (.i (a:Int)) (.i (b:Int)) (.i lim) (.func 64 [] []) y10 y11 y12 (.i (p:Int)) y14 y15 (.i m0) (.bool bb0) y18 y19 y20) H0 :=
  RunsTo.hin N 60 [⟨20,5,.tuple [.i m0,.bool bb0],H0⟩] fun kf hk=>⟨_,by kernel_rfl,(oC (g0 kf (by omega)) .nil)⟩
theorem pq_o_0 (N:Nat) (db n:Nat) (cap:Option Nat) (H:Heap) (x:Nat) (a:Nat) (b:Nat) (lim:Int) {y10 y11 y12 y13 y14 y15 y16 y17 y18 y19 y20:HV}:RT polSl 70 (sub [1,1,0,0,0,1,1,1,1,1,1,1,1,1,0] B70) (env70 (.sl db 0 n cap n 1) (.i (a:Int)) (.i (b:Int)) (.i lim) (.func 64 [] []) y10 y11 y12 y13 y14 y15 y16 y17 y18 y19 y20) H .normal (env70 (.sl db 0 n cap n 1) (.i (a:Int)) (.i (b:Int)) (.i lim) (.func 64 [] []) y10 y17 y12 y13 y14 y15 y16 y17 y18 y19 y20) H :=
  RunsTo.hin N 60 [] fun kf hk=>⟨_,by kernel_rfl,.nil⟩
theorem pq_p_0 (N:Nat) (db n:Nat) (cap:Option Nat) (H:Heap) (x:Nat) (a:Nat) (b:Nat) (lim:Int) (q:Nat) {y10 y11 y12 y13 y14 y15 y17 y18 y19 y20:HV}:RT polSl 70 (sub [1,1,0,0,0,1,1,1,1,1,1,1,1,1,1,0] B70) (env70 (.sl db 0 n cap n 1) (.i (a:Int)) (.i (b:Int)) (.i lim) (.func 64 [] []) y10 y11 y12 y13 y14 y15 (.i (q:Int)) y17 y18 y19 y20) H .normal (env70 (.sl db 0 n cap n 1) (.i (a:Int)) (.i (b:Int)) (.i lim) (.func 64 [] []) y10 y11 y12 y13 y14 y15 (.i (q:Int)) y17 (.i (IntKind.i64.wrap ((q:Int) - (a:Int)))) (.i (IntKind.i64.wrap ((b:Int) - (q:Int)))) y20) H :=
  RunsTo.hin N 60 [] fun kf hk=>⟨_,by kernel_rfl,.nil⟩
theorem pq_q_0 (N:Nat) (db n:Nat) (cap:Option Nat) (H:Heap) (x:Nat) (a:Nat) (b:Nat) (lim:Int) (k:Nat) {y10 y11 y13 y14 y15 y16 y17 y18 y19 y20:HV}:RT polSl 70 (sub [1,1,0,0,0,1,1,1,1,1,1,1,1,1,1,1,0] B70) (env70 (.sl db 0 n cap n 1) (.i (a:Int)) (.i (b:Int)) (.i lim) (.func 64 [] []) y10 y11 (.i (k:Int)) y13 y14 y15 y16 y17 y18 y19 y20) H .normal (env70 (.sl db 0 n cap n 1) (.i (a:Int)) (.i (b:Int)) (.i lim) (.func 64 [] []) y10 y11 (.i (k:Int)) y13 y14 y15 y16 y17 y18 y19 (.i (IntKind.i64.wrap (((k:Int):Int).tdiv 8)))) H :=
  RunsTo.hin N 60 [] fun kf hk=>⟨_,by kernel_rfl,.nil⟩
theorem pq_r_0 (N:Nat) (db n:Nat) (cap:Option Nat) (H:Heap) (x:Nat) (a:Nat) (b:Nat) (lim:Int) (q:Nat) (u:Int) (v:Int) (w:Int) {y10 y11 y12 y13 y14 y15 y17:HV} {H0:Heap} (g0:u < v) (g1:w ≤ u) (g2:∀ kf,N ≤ kf → callN Tp polSl (kf+1) 70 [.sl db 0 n cap n 1,.i (a:Int),.i (q:Int),.i lim,.func 64 [] []] H=some (.tuple [],H0)):RT polSl 70 (sub [1,1,0,0,0,1,1,1,1,1,1,1,1,1,1,1,1] B70) (env70 (.sl db 0 n cap n 1) (.i (a:Int)) (.i (b:Int)) (.i lim) (.func 64 [] []) y10 y11 y12 y13 y14 y15 (.i (q:Int)) y17 (.i u) (.i v) (.i w)) H .normal (env70 (.sl db 0 n cap n 1) (.i (IntKind.i64.wrap ((q:Int)+1))) (.i (b:Int)) (.i lim) (.func 64 [] []) (.bool true) y11 y12 y13 y14 y15 (.i (q:Int)) y17 (.i u) (.i v) (.i w)) H0 :=
  RunsTo.hin N 60 [⟨24,2,.bool true,H⟩,⟨25,2,.bool true,H⟩,⟨26,5,.tuple [],H0⟩] fun kf hk=>⟨_,by kernel_rfl,(oB H (decide_eq_true g0) (oB H (decide_eq_true g1) (oC (g2 kf (by omega)) .nil)))⟩
theorem pq_r_1 (N:Nat) (db n:Nat) (cap:Option Nat) (H:Heap) (x:Nat) (a:Nat) (b:Nat) (lim:Int) (q:Nat) (u:Int) (v:Int) (w:Int) {y10 y11 y12 y13 y14 y15 y17:HV} {H0:Heap} (g0:u < v) (g1:¬ (w ≤ u)) (g2:∀ kf,N ≤ kf → callN Tp polSl (kf+1) 70 [.sl db 0 n cap n 1,.i (a:Int),.i (q:Int),.i lim,.func 64 [] []] H=some (.tuple [],H0)):RT polSl 70 (sub [1,1,0,0,0,1,1,1,1,1,1,1,1,1,1,1,1] B70) (env70 (.sl db 0 n cap n 1) (.i (a:Int)) (.i (b:Int)) (.i lim) (.func 64 [] []) y10 y11 y12 y13 y14 y15 (.i (q:Int)) y17 (.i u) (.i v) (.i w)) H .normal (env70 (.sl db 0 n cap n 1) (.i (IntKind.i64.wrap ((q:Int)+1))) (.i (b:Int)) (.i lim) (.func 64 [] []) (.bool false) y11 y12 y13 y14 y15 (.i (q:Int)) y17 (.i u) (.i v) (.i w)) H0 :=
  RunsTo.hin N 60 [⟨24,2,.bool true,H⟩,⟨25,2,.bool false,H⟩,⟨26,5,.tuple [],H0⟩] fun kf hk=>⟨_,by kernel_rfl,(oB H (decide_eq_true g0) (oB H (decide_eq_false g1) (oC (g2 kf (by omega)) .nil)))⟩
theorem pq_r_2 (N:Nat) (db n:Nat) (cap:Option Nat) (H:Heap) (x:Nat) (a:Nat) (b:Nat) (lim:Int) (q:Nat) (u:Int) (v:Int) (w:Int) {y10 y11 y12 y13 y14 y15 y17:HV} {H0:Heap} (g0:¬ (u < v)) (g1:w ≤ v) (g2:∀ kf,N ≤ kf → callN Tp polSl (kf+1) 70 [.sl db 0 n cap n 1,.i (IntKind.i64.wrap ((q:Int)+1)),.i (b:Int),.i lim,.func 64 [] []] H=some (.tuple [],H0)):RT polSl 70 (sub [1,1,0,0,0,1,1,1,1,1,1,1,1,1,1,1,1] B70) (env70 (.sl db 0 n cap n 1) (.i (a:Int)) (.i (b:Int)) (.i lim) (.func 64 [] []) y10 y11 y12 y13 y14 y15 (.i (q:Int)) y17 (.i u) (.i v) (.i w)) H .normal (env70 (.sl db 0 n cap n 1) (.i (a:Int)) (.i (q:Int)) (.i lim) (.func 64 [] []) (.bool true) y11 y12 y13 y14 y15 (.i (q:Int)) y17 (.i u) (.i v) (.i w)) H0 :=
  RunsTo.hin N 60 [⟨24,2,.bool false,H⟩,⟨28,2,.bool true,H⟩,⟨29,6,.tuple [],H0⟩] fun kf hk=>⟨_,by kernel_rfl,(oB H (decide_eq_false g0) (oB H (decide_eq_true g1) (oC (g2 kf (by omega)) .nil)))⟩
theorem pq_r_3 (N:Nat) (db n:Nat) (cap:Option Nat) (H:Heap) (x:Nat) (a:Nat) (b:Nat) (lim:Int) (q:Nat) (u:Int) (v:Int) (w:Int) {y10 y11 y12 y13 y14 y15 y17:HV} {H0:Heap} (g0:¬ (u < v)) (g1:¬ (w ≤ v)) (g2:∀ kf,N ≤ kf → callN Tp polSl (kf+1) 70 [.sl db 0 n cap n 1,.i (IntKind.i64.wrap ((q:Int)+1)),.i (b:Int),.i lim,.func 64 [] []] H=some (.tuple [],H0)):RT polSl 70 (sub [1,1,0,0,0,1,1,1,1,1,1,1,1,1,1,1,1] B70) (env70 (.sl db 0 n cap n 1) (.i (a:Int)) (.i (b:Int)) (.i lim) (.func 64 [] []) y10 y11 y12 y13 y14 y15 (.i (q:Int)) y17 (.i u) (.i v) (.i w)) H .normal (env70 (.sl db 0 n cap n 1) (.i (a:Int)) (.i (q:Int)) (.i lim) (.func 64 [] []) (.bool false) y11 y12 y13 y14 y15 (.i (q:Int)) y17 (.i u) (.i v) (.i w)) H0 :=
  RunsTo.hin N 60 [⟨24,2,.bool false,H⟩,⟨28,2,.bool false,H⟩,⟨29,6,.tuple [],H0⟩] fun kf hk=>⟨_,by kernel_rfl,(oB H (decide_eq_false g0) (oB H (decide_eq_false g1) (oC (g2 kf (by omega)) .nil)))⟩
noncomputable def B63:Code:=Try.f63.body.getD .skip
abbrev env63 (v0 v1 v4:HV):Env:=[(0,v0),(1,v1),(4,v4)]
theorem st_a_0 (N:Nat) (db n:Nat) (cap:Option Nat) (H:Heap) (x:Nat)  {m0:Int} {H0:Heap} {H1:Heap} (g0:∀ kf,N ≤ kf → callN Tp polSl (kf+1) 68 [.int .u64 (IntKind.u64.wrap (n:Int))] H=some (.i m0,H0)) (g1:∀ kf,N ≤ kf → callN Tp polSl (kf+1) 70 [.sl db 0 n cap n 1,.i 0,.i (n:Int),.i m0,.func 64 [] []] H0=some (.tuple [],H1)):RT polSl 63 (sub [] B63) [(0,.sl db 0 n cap n 1),(1,.func 64 [] [])] H .normal (env63 (.sl db 0 n cap n 1) (.func 64 [] []) (.i (n:Int))) H1 :=
  RunsTo.hin N 60 [⟨1,4,.i m0,H0⟩,⟨1,6,.tuple [],H1⟩] fun kf hk=>⟨_,by kernel_rfl,(oC (g0 kf (by omega)) (oC (g1 kf (by omega)) .nil))⟩
end Go.Proofs.Ytaibmipamkaljaa
end
section
open Go Go.HL Go.HL.So
namespace Go.Proofs.Ytaibmipamkaljaa
set_option linter.unusedSectionVars false
open Go.Proofs.Try renaming prog → Tp
open Go.HL.HV renaming undef → Ud
section
variable {α:Type} [Inhabited α] {enc:α → HV} {lt:α → α → Prop} {dom:α → Prop} {H:Heap} {db n:Nat} {cap:Option Nat}
abbrev swB (s:Int):Blk:=.arr 1 [.int .i64 s] true 0
theorem Mm_last (l:List α) (B:Blk):(Mm enc H db l [B])[H.length]?=some B:=by
  unfold Mm
  rw [List.getElem?_append_right (by simp)]
  simp
theorem Mm_set (l:List α) (B B':Blk):(Mm enc H db l [B]).set H.length B'=Mm enc H db l [B']:=by
  unfold Mm
  rw [List.set_append_right _ _ (by simp)]
  simp
theorem mxM (S:So enc lt dom H db n) (l:List α) (B:Blk) (hB:B.mx=0):mxs (Mm enc H db l [B]) ≤ H.length:=by
  have h:=S.mx
  rw [mxs_le] at h ⊢
  intro C hC
  unfold Mm at hC
  rcases List.mem_append.1 hC with hC | hC
  · rcases List.mem_or_eq_of_mem_set hC with hC | rfl
    · exact h C hC
    · exact Nat.zero_le _
  · rw [List.mem_singleton.1 hC]; omega
theorem gcT (S:So enc lt dom H db n) (l l':List α) (B:Blk) (hB:B.mx=0):gc (Mm enc H db l []).length 0 (Mm enc H db l' [B])=Mm enc H db l' []:=by
  have h:=mxM S l' B hB
  have e:(Mm enc H db l []).length=H.length:=by simp [Mm]
  unfold gc
  rw [e,show max H.length (max 0 (mxs (Mm enc H db l' [B])))=H.length by omega]
  unfold Mm
  rw [List.take_append_of_le_length (by simp),List.take_of_length_le (by simp),List.append_nil]
theorem gcB (l l':List α) (B B':Blk) (r:Nat):gc (Mm enc H db l [B]).length r (Mm enc H db l' [B'])=Mm enc H db l' [B']:=gcM l l' [B] [B'] r rfl
theorem ld_sw (l:List α) (s:Int):loadV Tp (Mm enc H db l [swB s]) 3 (.ptr H.length 0 0 1)=some (.int .i64 s):=load_elem (b:=H.length) (Mm_last l (swB s)) rfl rfl rfl a3 i3
theorem st_sw (l:List α) (s r:Int):storeV Tp (Mm enc H db l [swB s]) 3 (.ptr H.length 0 0 1) (.int .i64 r)=some (Mm enc H db l [swB r]):=by
  have:=store_elem (P:=Tp) (t:=3) (b:=H.length) (i:=0) (tot:=1) (old:=.int .i64 s) (v:=.int .i64 r) (Mm_last (enc:=enc) (db:=db) l (swB s)) rfl rfl rfl (by intro cs h; cases h) z3 rfl rfl (by simp [bnd])
  rw [this,Mm_set]; rfl
theorem new_sw (l:List α) (k:IntKind) (s:Int):newV (.int k s) (Mm enc H db l [])=(.ptr H.length 0 0 1,Mm enc H db l [.arr 1 [.int k s] true 0]):=by
  simp only [newV,cellsOf,bnd,Mm]
  simp
theorem ord2_ok (S:So enc lt dom H db n) {a b:Nat} (ha:a < n) (hb:b < n) {l:List α} (hl:l.length=n) (hD:Dm dom l) (s:Int) :
    ∃ (p q:Nat) (s':Int),ClL 101 [.sl db 0 n cap n 1,.int .i64 (a:Int),.int .i64 (b:Int),.ptr H.length 0 0 1,.func 64 [] []] (Mm enc H db l [swB s]) (.tuple [.int .i64 (p:Int),.int .i64 (q:Int)]) (Mm enc H db l [swB s'])∧((p=a∧q=b) ∨ (p=b∧q=a)):=by
  have hn:=S.nb
  by_cases c:lt (at_ l b) (at_ l a)
  · obtain ⟨cc,N,hN,hc⟩:=S.ct (T:=[swB s]) hl rfl (hD.at (i:=b) (by omega)) (hD.at (i:=a) (by omega)) c
    have t:=o2_a_0 N db n cap (Mm enc H db l [swB s]) H.length a b (ixs (i:=b) rfl hb) (S.ld l _ _ hl hb) (ixs (i:=a) rfl ha) (S.ld l _ _ hl ha) hN hc (ld_sw l s) (st_sw l s _)
    have hc:=CallsTo.shared (P:=Tp) (pol:=polSl) (g:=101) (fn:=Try.f101) (cd:=B101) (args:=[.sl db 0 n cap n 1,.int .i64 (a:Int),.int .i64 (b:Int),.ptr H.length 0 0 1,.func 64 [] []]) (v:=.tuple [.int .i64 (b:Int),.int .i64 (a:Int)]) (by kernel_rfl) (by kernel_rfl) (by kernel_rfl) (by kernel_rfl) t (by kernel_rfl) (by simp) (by kernel_rfl)
    rw [gcB] at hc
    exact ⟨b,a,_,hc,.inr ⟨rfl,rfl⟩⟩
  · obtain ⟨cc,N,hN,hc⟩:=S.cf (T:=[swB s]) hl rfl (hD.at (i:=b) (by omega)) (hD.at (i:=a) (by omega)) c
    have t:=o2_a_1 N db n cap (Mm enc H db l [swB s]) H.length a b (ixs (i:=b) rfl hb) (S.ld l _ _ hl hb) (ixs (i:=a) rfl ha) (S.ld l _ _ hl ha) hN hc
    have hc:=CallsTo.shared (P:=Tp) (pol:=polSl) (g:=101) (fn:=Try.f101) (cd:=B101) (args:=[.sl db 0 n cap n 1,.int .i64 (a:Int),.int .i64 (b:Int),.ptr H.length 0 0 1,.func 64 [] []]) (v:=.tuple [.int .i64 (a:Int),.int .i64 (b:Int)]) (by kernel_rfl) (by kernel_rfl) (by kernel_rfl) (by kernel_rfl) t (by kernel_rfl) (by simp) (by kernel_rfl)
    rw [gcB] at hc
    exact ⟨a,b,_,hc,.inl ⟨rfl,rfl⟩⟩
theorem med_ok (S:So enc lt dom H db n) {a b q:Nat} (ha:a < n) (hb:b < n) (hq:q < n) {l:List α} (hl:l.length=n) (hD:Dm dom l) (s:Int) :
    ∃ (r:Nat) (s':Int),ClL 99 [.sl db 0 n cap n 1,.int .i64 (a:Int),.int .i64 (b:Int),.int .i64 (q:Int),.ptr H.length 0 0 1,.func 64 [] []] (Mm enc H db l [swB s]) (.int .i64 (r:Int)) (Mm enc H db l [swB s'])∧(r=a ∨ r=b ∨ r=q):=by
  obtain ⟨p1,q1,s1,h1,e1⟩:=ord2_ok S (cap:=cap) ha hb hl hD s
  obtain ⟨p2,q2,s2,h2,e2⟩:=ord2_ok S (cap:=cap) (a:=q1) (b:=q) (by omega) hq hl hD s1
  obtain ⟨p3,q3,s3,h3,e3⟩:=ord2_ok S (cap:=cap) (a:=p1) (b:=p2) (by omega) (by omega) hl hD s2
  obtain ⟨N1,h1⟩:=h1.from
  obtain ⟨N2,h2⟩:=h2.from
  obtain ⟨N3,h3⟩:=h3.from
  have t:=md_a_0 (N1+N2+N3) db n cap (Mm enc H db l [swB s]) H.length a b q (fun kf hk=>h1 kf (by omega)) (fun kf hk=>h2 kf (by omega)) (fun kf hk=>h3 kf (by omega))
  have hc:=CallsTo.shared (P:=Tp) (pol:=polSl) (g:=99) (fn:=Try.f99) (cd:=B99) (args:=[.sl db 0 n cap n 1,.int .i64 (a:Int),.int .i64 (b:Int),.int .i64 (q:Int),.ptr H.length 0 0 1,.func 64 [] []]) (v:=.int .i64 (q3:Int)) (by kernel_rfl) (by kernel_rfl) (by kernel_rfl) (by kernel_rfl) t (by kernel_rfl) (by simp) (by kernel_rfl)
  rw [gcB] at hc
  exact ⟨q3,s3,hc,by omega⟩
theorem madj_ok (S:So enc lt dom H db n) {a:Nat} {e:Int} (he:e=(a:Int)) (h1:1 ≤ a) (h2:a+1 < n) {l:List α} (hl:l.length=n) (hD:Dm dom l) (s:Int) :
    ∃ (r:Nat) (s':Int),ClL 98 [.sl db 0 n cap n 1,.int .i64 e,.ptr H.length 0 0 1,.func 64 [] []] (Mm enc H db l [swB s]) (.int .i64 (r:Int)) (Mm enc H db l [swB s'])∧a - 1 ≤ r∧r ≤ a+1:=by
  subst he
  have hn:=S.nb
  obtain ⟨r,s',h,er⟩:=med_ok S (cap:=cap) (a:=a - 1) (b:=a) (q:=a+1) (by omega) (by omega) (by omega) hl hD s
  obtain ⟨N,h⟩:=h.from
  have t:=ma_a_0 N db n cap (Mm enc H db l [swB s]) H.length a (by rw [wrap_pred (by omega) (by omega),wrap_succ (by omega)]; exact h)
  have hc:=CallsTo.shared (P:=Tp) (pol:=polSl) (g:=98) (fn:=Try.f98) (cd:=B98) (args:=[.sl db 0 n cap n 1,.int .i64 (a:Int),.ptr H.length 0 0 1,.func 64 [] []]) (v:=.int .i64 (r:Int)) (by kernel_rfl) (by kernel_rfl) (by kernel_rfl) (by kernel_rfl) t (by kernel_rfl) (by simp) (by kernel_rfl)
  rw [gcB] at hc
  exact ⟨r,s',hc,by omega⟩
theorem cv_idx {a b m:Nat} (hab:a ≤ b) (hb:b ≤ 60000) (hm:m ≤ 3):IntKind.i64.wrap ((a:Int)+IntKind.i64.wrap (IntKind.i64.wrap ((IntKind.i64.wrap ((b:Int) - (a:Int)):Int).tdiv 4) * (m:Int)))=((a+(b - a) / 4 * m:Nat):Int):=by
  have h1:IntKind.i64.wrap ((b:Int) - (a:Int))=((b - a:Nat):Int):=by rw [wrap_id (by omega) (by omega)]; omega
  have h2:((b - a:Nat):Int).tdiv 4=(((b - a) / 4:Nat):Int):=by rw [Int.tdiv_eq_ediv_of_nonneg (by omega)]; omega
  rw [h1,h2,wrap_id (n:=(((b - a) / 4:Nat):Int)) (by omega) (by omega)]
  have h3:(((b - a) / 4:Nat):Int) * (m:Int)=(((b - a) / 4 * m:Nat):Int):=by push_cast; rfl
  have h4:(b - a) / 4 * m ≤ 60000:=by
    have h6:(b - a) / 4 * m ≤ (b - a) / 4 * 3:=Nat.mul_le_mul_left _ hm
    omega
  rw [h3]
  generalize (b - a) / 4 * m=z at h4
  rw [wrap_id (n:=(z:Int)) (by omega) (by omega),wrap_id (by omega) (by omega)]; omega
theorem piv_ok (S:So enc lt dom H db n) {a b:Nat} (hab:a+12 < b) (hb:b ≤ n) {l:List α} (hl:l.length=n) (hD:Dm dom l) :
    ∃ (p:Nat) (h:Int),ClL 86 [.sl db 0 n cap n 1,.int .i64 (a:Int),.int .i64 (b:Int),.func 64 [] []] (Mm enc H db l []) (.tuple [.int .i64 (p:Int),.int .i64 h]) (Mm enc H db l [])∧a ≤ p∧p < b:=by
  have hn:=S.nb
  have i1:=cv_idx (a:=a) (b:=b) (m:=1) (by omega) (by omega) (by omega)
  have i2:=cv_idx (a:=a) (b:=b) (m:=2) (by omega) (by omega) (by omega)
  have i3:=cv_idx (a:=a) (b:=b) (m:=3) (by omega) (by omega) (by omega)
  have hw:IntKind.i64.wrap ((b:Int) - (a:Int))=((b - a:Nat):Int):=(by rw [wrap_id (by omega) (by omega)]; omega)
  have g0:some (newV (.int .i64 0) (Mm enc H db l []))=some (.ptr H.length 0 0 1,Mm enc H db l [swB 0]):=congrArg some (new_sw l .i64 0)
  have fin:∀ (p:Nat) (h:Int) (E:Env) (s:Int),a ≤ p → p < b → RT polSl 86 B86 (args0 [.sl db 0 n cap n 1,.int .i64 (a:Int),.int .i64 (b:Int),.func 64 [] []]) (Mm enc H db l []) .ret E (Mm enc H db l [swB s]) → resultsV Tp Try.f86 E (Mm enc H db l [swB s])=some (.tuple [.int .i64 (p:Int),.int .i64 h]) →
      ∃ (p:Nat) (h:Int),ClL 86 [.sl db 0 n cap n 1,.int .i64 (a:Int),.int .i64 (b:Int),.func 64 [] []] (Mm enc H db l []) (.tuple [.int .i64 (p:Int),.int .i64 h]) (Mm enc H db l [])∧a ≤ p∧p < b:=by
    intro p h E s h1 h2 t hv
    have hc:=CallsTo.shared (P:=Tp) (pol:=polSl) (g:=86) (fn:=Try.f86) (cd:=B86) (args:=[.sl db 0 n cap n 1,.int .i64 (a:Int),.int .i64 (b:Int),.func 64 [] []]) (by kernel_rfl) (by kernel_rfl) (by kernel_rfl) (by kernel_rfl) t (by kernel_rfl) (by simp) hv
    rw [show bnd (.tuple [.int .i64 (p:Int),.int .i64 h])=0 by simp [bnd,bndL],gcT S l l (swB s) rfl] at hc
    exact ⟨p,h,hc,h1,h2⟩
  by_cases c:50 ≤ b - a
  · obtain ⟨r1,s1,h1,e1⟩:=madj_ok S (cap:=cap) (a:=a+(b - a) / 4 * 1) i1 (by omega) (by omega) hl hD 0
    obtain ⟨r2,s2,h2,e2⟩:=madj_ok S (cap:=cap) (a:=a+(b - a) / 4 * 2) i2 (by omega) (by omega) hl hD s1
    obtain ⟨r3,s3,h3,e3⟩:=madj_ok S (cap:=cap) (a:=a+(b - a) / 4 * 3) i3 (by omega) (by omega) hl hD s2
    obtain ⟨r,s,h4,e4⟩:=med_ok S (cap:=cap) (a:=r1) (b:=r2) (q:=r3) (by omega) (by omega) (by omega) hl hD s3
    obtain ⟨N1,h1⟩:=h1.from
    obtain ⟨N2,h2⟩:=h2.from
    obtain ⟨N3,h3⟩:=h3.from
    obtain ⟨N4,h4⟩:=h4.from
    by_cases d1:s=0
    · have t:=cv_a_0 (N1+N2+N3+N4) db n cap (Mm enc H db l []) H.length a b g0 (by rw [hw]; omega) (by rw [hw]; omega) (fun kf hk=>h1 kf (by omega)) (fun kf hk=>h2 kf (by omega)) (fun kf hk=>h3 kf (by omega)) (fun kf hk=>h4 kf (by omega)) (ld_sw l s) d1
      exact fin r 1 _ s (by omega) (by omega) t (by kernel_rfl)
    · by_cases d2:s=12
      · have t:=cv_a_1 (N1+N2+N3+N4) db n cap (Mm enc H db l []) H.length a b g0 (by rw [hw]; omega) (by rw [hw]; omega) (fun kf hk=>h1 kf (by omega)) (fun kf hk=>h2 kf (by omega)) (fun kf hk=>h3 kf (by omega)) (fun kf hk=>h4 kf (by omega)) (ld_sw l s) d1 d2
        exact fin r 2 _ s (by omega) (by omega) t (by kernel_rfl)
      · have t:=cv_a_2 (N1+N2+N3+N4) db n cap (Mm enc H db l []) H.length a b g0 (by rw [hw]; omega) (by rw [hw]; omega) (fun kf hk=>h1 kf (by omega)) (fun kf hk=>h2 kf (by omega)) (fun kf hk=>h3 kf (by omega)) (fun kf hk=>h4 kf (by omega)) (ld_sw l s) d1 d2
        exact fin r 0 _ s (by omega) (by omega) t (by kernel_rfl)
  · obtain ⟨r,s,h4,e4⟩:=med_ok S (cap:=cap) (a:=a+(b - a) / 4 * 1) (b:=a+(b - a) / 4 * 2) (q:=a+(b - a) / 4 * 3) (by omega) (by omega) (by omega) hl hD 0
    obtain ⟨N4,h4⟩:=h4.from
    rw [← i1,← i2,← i3] at h4
    by_cases d1:s=0
    · have t:=cv_a_3 N4 db n cap (Mm enc H db l []) H.length a b g0 (by rw [hw]; omega) (by rw [hw]; omega) h4 (ld_sw l s) d1
      exact fin r 1 _ s (by omega) (by omega) t (by kernel_rfl)
    · by_cases d2:s=12
      · have t:=cv_a_4 N4 db n cap (Mm enc H db l []) H.length a b g0 (by rw [hw]; omega) (by rw [hw]; omega) h4 (ld_sw l s) d1 d2
        exact fin r 2 _ s (by omega) (by omega) t (by kernel_rfl)
      · have t:=cv_a_5 N4 db n cap (Mm enc H db l []) H.length a b g0 (by rw [hw]; omega) (by rw [hw]; omega) h4 (ld_sw l s) d1 d2
        exact fin r 0 _ s (by omega) (by omega) t (by kernel_rfl)
abbrev uB (s:Int):Blk:=.arr 1 [.int .u64 s] true 0
theorem z128s:tySize Tp 114=some 1:=by kernel_rfl
theorem a128s:tyAgg Tp 114=false:=by kernel_rfl
theorem i128s:(Tp.underlying 114).isSome=true:=by kernel_rfl
theorem ld_u (l:List α) (s:Int):loadV Tp (Mm enc H db l [uB s]) 114 (.ptr H.length 0 0 1)=some (.int .u64 s):=load_elem (b:=H.length) (Mm_last l (uB s)) rfl rfl rfl a128s i128s
theorem st_u (l:List α) (s r:Int):storeV Tp (Mm enc H db l [uB s]) 114 (.ptr H.length 0 0 1) (.int .u64 r)=some (Mm enc H db l [uB r]):=by
  have:=store_elem (P:=Tp) (t:=114) (b:=H.length) (i:=0) (tot:=1) (old:=.int .u64 s) (v:=.int .u64 r) (Mm_last (enc:=enc) (db:=db) l (uB s)) rfl rfl rfl (by intro cs h; cases h) z128s rfl rfl (by simp [bnd])
  rw [this,Mm_set]; rfl
theorem bx (a b:Int):∃ r,binV Tp .xor 114 (.int .u64 a) (.int .u64 b)=some (.int .u64 r):=⟨_,rfl⟩
theorem bs13 (a:Int):∃ r,binV Tp .shl 114 (.int .u64 a) (.int .u64 13)=some (.int .u64 r):=⟨_,rfl⟩
theorem bs17 (a:Int):∃ r,binV Tp .shl 114 (.int .u64 a) (.int .u64 17)=some (.int .u64 r):=⟨_,rfl⟩
theorem br7 (a:Int):∃ r,binV Tp .shr 114 (.int .u64 a) (.int .u64 7)=some (.int .u64 r):=⟨_,rfl⟩
theorem xor_ok (l:List α) (s:Int):∃ r,ClL 94 [.ptr H.length 0 0 1] (Mm enc H db l [uB s]) (.int .u64 r) (Mm enc H db l [uB r]):=by
  obtain ⟨h0,e0⟩:=bs13 s
  obtain ⟨h1,e1⟩:=bx s h0
  obtain ⟨h2,e2⟩:=br7 h1
  obtain ⟨h3,e3⟩:=bx h1 h2
  obtain ⟨h4,e4⟩:=bs17 h3
  obtain ⟨h5,e5⟩:=bx h3 h4
  have t:=xs_a_0 0 0 0 none (Mm enc H db l [uB s]) H.length (ld_u l s) (ld_u l s) e0 e1 (st_u l s h1) (ld_u l h1) (ld_u l h1) e2 e3 (st_u l h1 h3) (ld_u l h3) (ld_u l h3) e4 e5 (st_u l h3 h5) (ld_u l h5)
  have hc:=CallsTo.shared (P:=Tp) (pol:=polSl) (g:=94) (fn:=Try.f94) (cd:=B94) (args:=[.ptr H.length 0 0 1]) (v:=.int .u64 h5) (by kernel_rfl) (by kernel_rfl) (by kernel_rfl) (by kernel_rfl) t (by kernel_rfl) (by simp) (by kernel_rfl)
  rw [gcB] at hc
  exact ⟨_,hc⟩
theorem and_u {u:Int} {m:Nat} (hm:m < 9223372036854775808):∃ h:Nat,binV Tp .and 85 (.int .u64 u) (.int .u64 (m:Int))=some (.int .u64 (h:Int))∧h ≤ m:=by
  have e:binV Tp .and 85 (.int .u64 u) (.int .u64 (m:Int))=some (.int .u64 (IntKind.u64.wrap (BitVec.ofInt IntKind.u64.bits u &&& BitVec.ofInt IntKind.u64.bits (m:Int)).toNat)):=rfl
  have hle:(BitVec.ofInt IntKind.u64.bits u &&& BitVec.ofInt IntKind.u64.bits (m:Int)).toNat ≤ m:=by
    rw [BitVec.toNat_and]
    refine Nat.le_trans Nat.and_le_right ?_
    rw [BitVec.toNat_ofInt]
    show ((m:Int) % ((2 ^ 64:Nat):Int)).toNat ≤ m
    omega
  refine ⟨_,?_,hle⟩
  rw [e]
  congr 2
  rw [wrapU64]
  generalize (BitVec.ofInt IntKind.u64.bits u &&& BitVec.ofInt IntKind.u64.bits (m:Int)).toNat=h at hle
  omega
theorem bk_loop (S:So enc lt dom H db n) {a b k m:Nat} (hk:b=a+k) (hk8:8 ≤ k) (hb:b ≤ n) (hm1:1 ≤ m) (hm2:m ≤ 2 * k):∀ (d i:Nat) (l:List α) (s:Int),i+d=a+k / 4 * 2+2 → a+k / 4 * 2 - 1 ≤ i → l.length=n →
    ∃ y5 y6 l' s',RT polSl 85 (sub [1,1,0,1,1,1,0] B85) (env85 (.sl db 0 n cap n 1) (.int .i64 (a:Int)) (.int .i64 (b:Int)) (.int .i64 (k:Int)) (.ptr H.length 0 0 1) (.int .u64 (m:Int)) (.int .i64 (i:Int)) Ud) (Mm enc H db l [uB s]) (.exit 0) (env85 (.sl db 0 n cap n 1) (.int .i64 (a:Int)) (.int .i64 (b:Int)) (.int .i64 (k:Int)) (.ptr H.length 0 0 1) (.int .u64 (m:Int)) y5 y6) (Mm enc H db l' [uB s'])∧Sw a b l l':=by
  have hn:=S.nb
  have e0:IntKind.i64.wrap (((k:Int):Int).tdiv 4)=((k / 4:Nat):Int):=by
    rw [Int.tdiv_eq_ediv_of_nonneg (by omega),wrap_id (by omega) (by omega)]; omega
  have e1:IntKind.i64.wrap ((a:Int)+IntKind.i64.wrap (IntKind.i64.wrap (((k:Int):Int).tdiv 4) * 2))=((a+k / 4 * 2:Nat):Int):=by
    rw [e0,wrap_id (n:=((k / 4:Nat):Int) * 2) (by omega) (by omega),wrap_id (by omega) (by omega)]; omega
  have e2:IntKind.i64.wrap (IntKind.i64.wrap ((a:Int)+IntKind.i64.wrap (IntKind.i64.wrap (((k:Int):Int).tdiv 4) * 2))+1)=((a+k / 4 * 2+1:Nat):Int):=by
    rw [e1,wrap_id (by omega) (by omega)]; omega
  intro d
  induction d with
  | zero =>
    intro i l s hi hi2 hl
    exact ⟨_,_,l,s,lpo (bk_f_2 0 db n cap (Mm enc H db l [uB s]) H.length a b k m i (y12:=Ud) (by rw [e2]; omega)),.refl⟩
  | succ d ih =>
    intro i l s hi hi2 hl
    obtain ⟨u,hx⟩:=xor_ok (enc:=enc) (H:=H) (db:=db) l s
    obtain ⟨N,hN⟩:=hx.from
    have hu:IntKind.u64.wrap ((m:Int) - 1)=((m - 1:Nat):Int):=by rw [wrapU64]; omega
    obtain ⟨h,hand,hh⟩:=and_u (u:=u) (m:=m - 1) (by omega)
    rw [← hu] at hand
    have hwh:IntKind.i64.wrap (h:Int)=(h:Int):=wrap_id (by omega) (by omega)
    have next:∀ o:Nat,o < k → ∀ y,RT polSl 85 (sub [1,1,0,1,1,1,0,0] B85) (env85 (.sl db 0 n cap n 1) (.int .i64 (a:Int)) (.int .i64 (b:Int)) (.int .i64 (k:Int)) (.ptr H.length 0 0 1) (.int .u64 (m:Int)) (.int .i64 (i:Int)) Ud) (Mm enc H db l [uB s]) .normal (env85 (.sl db 0 n cap n 1) (.int .i64 (a:Int)) (.int .i64 (b:Int)) (.int .i64 (k:Int)) (.ptr H.length 0 0 1) (.int .u64 (m:Int)) (.int .i64 (IntKind.i64.wrap ((i:Int)+1))) y) (Mm enc H db (swp l i (a+o)) [uB u]) →
        ∃ y5 y6 l' s',RT polSl 85 (sub [1,1,0,1,1,1,0] B85) (env85 (.sl db 0 n cap n 1) (.int .i64 (a:Int)) (.int .i64 (b:Int)) (.int .i64 (k:Int)) (.ptr H.length 0 0 1) (.int .u64 (m:Int)) (.int .i64 (i:Int)) Ud) (Mm enc H db l [uB s]) (.exit 0) (env85 (.sl db 0 n cap n 1) (.int .i64 (a:Int)) (.int .i64 (b:Int)) (.int .i64 (k:Int)) (.ptr H.length 0 0 1) (.int .u64 (m:Int)) y5 y6) (Mm enc H db l' [uB s'])∧Sw a b l l':=by
      intro o ho y st
      rw [wrap_succ (by omega)] at st
      have sw:Sw a b l (swp l i (a+o)):=Sw.one (by omega) (by omega) (by omega) (by omega)
      obtain ⟨y5,y6,l',s',r,q⟩:=ih (i+1) (swp l i (a+o)) u (by omega) (by omega) (by rw [swp_len]; exact hl)
      exact ⟨y5,y6,l',s',lop (st) (gcM _ _ _ _ _ rfl) (r),sw.trans q⟩
    by_cases c:k ≤ h
    · have e3:IntKind.i64.wrap (IntKind.i64.wrap (h:Int) - (k:Int))=((h - k:Nat):Int):=by rw [hwh,wrap_id (by omega) (by omega)]; omega
      have e4:IntKind.i64.wrap ((a:Int)+IntKind.i64.wrap (IntKind.i64.wrap (h:Int) - (k:Int)))=((a+(h - k):Nat):Int):=by rw [e3,wrap_id (by omega) (by omega)]; omega
      obtain ⟨s1,s2⟩:=S.st2 (T:=[uB u]) hl (i:=i) (j:=a+(h - k)) (by omega) (by omega)
      have st:=bk_f_0 N db n cap (Mm enc H db l [uB s]) H.length a b k m i (y12:=Ud) (by rw [e2]; omega) hN hand (by rw [hwh]; omega) (ixs e4 (by omega)) (S.ld l _ _ hl (by omega)) (ixs (i:=i) rfl (by omega)) (S.ld l _ _ hl (by omega)) (ixs (i:=i) rfl (by omega)) s1 (ixs e4 (by omega)) s2
      exact next (h - k) (by omega) _ st
    · have e4:IntKind.i64.wrap ((a:Int)+IntKind.i64.wrap (h:Int))=((a+h:Nat):Int):=by rw [hwh,wrap_id (by omega) (by omega)]; omega
      obtain ⟨s1,s2⟩:=S.st2 (T:=[uB u]) hl (i:=i) (j:=a+h) (by omega) (by omega)
      have st:=bk_f_1 N db n cap (Mm enc H db l [uB s]) H.length a b k m i (y12:=Ud) (by rw [e2]; omega) hN hand (by rw [hwh]; omega) (ixs e4 (by omega)) (S.ld l _ _ hl (by omega)) (ixs (i:=i) rfl (by omega)) (S.ld l _ _ hl (by omega)) (ixs (i:=i) rfl (by omega)) s1 (ixs e4 (by omega)) s2
      exact next h (by omega) _ st
theorem brk_ok (S:So enc lt dom H db n) {a b:Nat} (hab:a+8 ≤ b) (hb:b ≤ n) {l:List α} (hl:l.length=n) :
    ∃ l',ClL 85 [.sl db 0 n cap n 1,.int .i64 (a:Int),.int .i64 (b:Int),.func 64 [] []] (Mm enc H db l []) (.tuple []) (Mm enc H db l' [])∧Sw a b l l':=by
  have hn:=S.nb
  obtain ⟨k,rfl⟩:∃ k,b=a+k:=⟨b - a,by omega⟩
  have hw:IntKind.i64.wrap (((a+k:Nat):Int) - (a:Int))=(k:Int):=by rw [wrap_id (by omega) (by omega)]; omega
  have t0:=bk_a_0 0 db n cap (Mm enc H db l []) H.length a (a+k)
  rw [hw] at t0
  have t1:=bk_b_0 0 db n cap (Mm enc H db l []) H.length a (a+k) k (y9:=Ud) (y10:=Ud) (y11:=Ud) (y12:=Ud) (by omega)
  have g0:some (newV (.int .u64 0) (Mm enc H db l []))=some (.ptr H.length 0 0 1,Mm enc H db l [uB 0]):=congrArg some (new_sw l .u64 0)
  have t2:=bk_c_0 0 db n cap (Mm enc H db l []) H.length a (a+k) k (y9:=Ud) (y10:=Ud) (y11:=Ud) (y12:=Ud) g0 (st_u l 0 _)
  have hl2:=(lenN_ok (x:=k) (by omega)).1 (by omega)
  have t3:=bk_d_0 0 db n cap (Mm enc H db l [uB (IntKind.u64.wrap (k:Int))]) H.length a (a+k) k (y10:=Ud) (y11:=Ud) (y12:=Ud) (u0:=((2 ^ lenN k:Nat):Int)) (fun kf _=>by
    rw [prim_call (pol:=polSl) (g:=93) (F:=next93) (by kernel_rfl) (rs:=[.int .i64 (k:Int)]) rfl (res:=.int .u64 ((2 ^ lenN k:Nat):Int)) (by simp only [next93]; rw [if_pos (by omega),Int.toNat_natCast])]; rfl)
  generalize 2 ^ lenN k=m at hl2 t3
  have t4:=bk_e_0 0 db n cap (Mm enc H db l [uB (IntKind.u64.wrap (k:Int))]) H.length a (a+k) k (m:Int) (y11:=Ud) (y12:=Ud)
  have e0:IntKind.i64.wrap (((k:Int):Int).tdiv 4)=((k / 4:Nat):Int):=by
    rw [Int.tdiv_eq_ediv_of_nonneg (by omega),wrap_id (by omega) (by omega)]; omega
  have e1:IntKind.i64.wrap (IntKind.i64.wrap ((a:Int)+IntKind.i64.wrap (IntKind.i64.wrap (((k:Int):Int).tdiv 4) * 2)) - 1)=((a+k / 4 * 2 - 1:Nat):Int):=by
    rw [e0,wrap_id (n:=((k / 4:Nat):Int) * 2) (by omega) (by omega),wrap_id (n:=(a:Int)+((k / 4:Nat):Int) * 2) (by omega) (by omega),wrap_id (by omega) (by omega)]; omega
  rw [e1] at t4
  obtain ⟨y5,y6,l',s',r,q⟩:=bk_loop S (cap:=cap) (m:=m) rfl (by omega) hb (by omega) (by omega) 3 (a+k / 4 * 2 - 1) l (IntKind.u64.wrap (k:Int)) (by omega) (Nat.le_refl _) hl
  have t:=sq (t0) (sq (t1) (RunsTo.cond (y:=.tmp 17) (t:=true) (c:=sub [1,1] B85) (a:=sub [1,1,0] B85) (b:=sub [1,1,1] B85) (by kernel_rfl) rfl (sq (t2) (sq (t3) (sq (t4) (bke (c:=sub [1,1,0,1,1,1] B85) (r)) (c:=sub [1,1,0,1,1] B85)) (c:=sub [1,1,0,1] B85)) (c:=sub [1,1,0] B85))) (c:=sub [1] B85)) (c:=B85)
  have hc:=CallsTo.shared (P:=Tp) (pol:=polSl) (g:=85) (fn:=Try.f85) (cd:=B85) (args:=[.sl db 0 n cap n 1,.int .i64 (a:Int),.int .i64 ((a+k:Nat):Int),.func 64 [] []]) (v:=.tuple []) (by kernel_rfl) (by kernel_rfl) (by kernel_rfl) (by kernel_rfl) t (by kernel_rfl) (by simp) (by kernel_rfl)
  rw [show bnd (.tuple [])=0 by rfl,gcT S l l' (uB s') rfl] at hc
  exact ⟨l',hc,q⟩
end
end Go.Proofs.Ytaibmipamkaljaa
end
section
open Go Go.HL Go.HL.So
namespace Go.Proofs.Ytaibmipamkaljaa
set_option linter.unusedSectionVars false
open Go.Proofs.Try renaming prog → Tp
open Go.HL.HV renaming undef → Ud
section
variable {α:Type} [Inhabited α] {enc:α → HV} {lt:α → α → Prop} {dom:α → Prop} {H:Heap} {db n:Nat} {cap:Option Nat}
def PdqOk (enc:α → HV) (lt:α → α → Prop) (dom:α → Prop) (H:Heap) (db n:Nat) (cap:Option Nat) (d:Nat):Prop:=∀ (a b:Nat) (lim:Int) (l:List α),b - a < d → a ≤ b → b ≤ n → 0 ≤ lim → lim ≤ 1000 → l.length=n → Dm dom l → Flo lt a b l →
  ∃ l',ClL 70 [.sl db 0 n cap n 1,.int .i64 (a:Int),.int .i64 (b:Int),.int .i64 lim,.func 64 [] []] (Mm enc H db l []) (.tuple []) (Mm enc H db l' [])∧Sw a b l l'∧Sorted lt a b l'
def Out (enc:α → HV) (lt:α → α → Prop) (dom:α → Prop) (H:Heap) (db n:Nat) (cap:Option Nat) (a b:Nat) (l:List α) (x:X) (E:Env) (l':List α):Prop :=
  Sw a b l l'∧((x=.ret∧Sorted lt a b l') ∨ ((x=.normal ∨ x=.exit 1)∧∃ (a' b':Nat) (lim':Int) (bal' par':Bool) (y2 y3 y4 y5 y6 y7 y8 y9 y10:HV),E=(env70 (.sl db 0 n cap n 1) (.int .i64 (a':Int)) (.int .i64 (b':Int)) (.int .i64 lim') (.func 64 [] []) (.bool bal') (.bool par') y2 y3 y4 y5 y6 y7 y8 y9 y10) ∧
    b' - a' < b - a∧a ≤ a'∧a' ≤ b'∧b' ≤ b∧0 ≤ lim'∧lim' ≤ 1000∧Flo lt a' b' l'∧∀ l'',Sw a' b' l' l'' → Sorted lt a' b' l'' → Sorted lt a b l''))
theorem Out.pre {a b:Nat} {l l1 l':List α} {x:X} {E:Env} (h:Sw a b l l1) (ho:Out enc lt dom H db n cap a b l1 x E l'):Out enc lt dom H db n cap a b l x E l':=⟨h.trans ho.1,ho.2⟩
theorem Flo.part {a b a' b':Nat} {l:List α} (h:Flo lt a b l) (h1:a'=a) (h2:b' ≤ b):Flo lt a' b' l:=by
  subst h1
  exact fun h0 k h3 h4=>h h0 k h3 (by omega)
theorem join (hL:Lin lt) {a b m:Nat} {l:List α} (h1:Sorted lt a m l) (h2:Sorted lt (m+1) b l) (h3:∀ k,a ≤ k → k < m → lt (at_ l k) (at_ l m)) (h4:∀ k,m < k → k < b → ¬ lt (at_ l k) (at_ l m)):Sorted lt a b l:=by
  intro i j q1 q2 q3
  by_cases c1:j < m
  · exact h1 i j q1 q2 c1
  · by_cases c2:j=m
    · subst c2; exact hL.asy _ _ (h3 i q1 q2)
    · by_cases c3:i < m
      · exact hL.tr _ _ _ (hL.asy _ _ (h3 i q1 c3)) (h4 j (by omega) q3)
      · by_cases c4:i=m
        · subst c4; exact h4 j (by omega) q3
        · exact h2 i j (by omega) q2 q3
theorem pq_S (S:So enc lt dom H db n) (hL:Lin lt) {a b k p:Nat} {lim:Int} {bal par:Bool} {h:HV} (hd:PdqOk enc lt dom H db n cap (b - a)) (hp1:a ≤ p) (hp2:p < b) (hb:b ≤ n) (hk:k ≤ n) (hl0:0 ≤ lim) (hl1:lim ≤ 1000) {l:List α} (hl:l.length=n) (hD:Dm dom l) (hF:Flo lt a b l) :
    ∃ x E l',RT polSl 70 (sub [1,1,0,0,0,1,1,1,1,1,1,1,1] B70) (env70 (.sl db 0 n cap n 1) (.int .i64 (a:Int)) (.int .i64 (b:Int)) (.int .i64 lim) (.func 64 [] []) (.bool bal) (.bool par) (.int .i64 (k:Int)) (.int .i64 (p:Int)) h Ud Ud Ud Ud Ud Ud) (Mm enc H db l []) x E (Mm enc H db l' [])∧Out enc lt dom H db n cap a b l x E l':=by
  have hn:=S.nb
  obtain ⟨m,bb,l4,hc,w1,w2,w3,w4⟩:=spart_ok S (cap:=cap) (T:=[]) rfl hb hp1 hp2 hl hD
  obtain ⟨N,hN⟩:=hc.from
  have t1:=pq_n_0 N db n cap (Mm enc H db l []) 0 a b lim p (y10:=.bool bal) (y11:=.bool par) (y12:=.int .i64 (k:Int)) (y14:=h) (y15:=Ud) (y16:=Ud) (y17:=Ud) (y18:=Ud) (y19:=Ud) (y20:=Ud) hN
  have hl4:=sw_len w1 hl
  have hD4:=hD.sw w1 (by omega)
  have hF4:=hF.sw (by omega) w1
  have t2:=pq_o_0 0 db n cap (Mm enc H db l4 []) 0 a b lim (y10:=.bool bal) (y11:=.bool par) (y12:=.int .i64 (k:Int)) (y13:=.int .i64 (p:Int)) (y14:=h) (y15:=Ud) (y16:=.int .i64 (m:Int)) (y17:=.bool bb) (y18:=Ud) (y19:=Ud) (y20:=Ud)
  have t3:=pq_p_0 0 db n cap (Mm enc H db l4 []) 0 a b lim m (y10:=.bool bal) (y11:=.bool bb) (y12:=.int .i64 (k:Int)) (y13:=.int .i64 (p:Int)) (y14:=h) (y15:=Ud) (y17:=.bool bb) (y18:=Ud) (y19:=Ud) (y20:=Ud)
  have e1:IntKind.i64.wrap ((m:Int) - (a:Int))=((m - a:Nat):Int):=(by rw [wrap_id (by omega) (by omega)]; omega)
  have e2:IntKind.i64.wrap ((b:Int) - (m:Int))=((b - m:Nat):Int):=(by rw [wrap_id (by omega) (by omega)]; omega)
  rw [e1,e2] at t3
  have t4:=pq_q_0 0 db n cap (Mm enc H db l4 []) 0 a b lim k (y10:=.bool bal) (y11:=.bool bb) (y13:=.int .i64 (p:Int)) (y14:=h) (y15:=Ud) (y16:=.int .i64 (m:Int)) (y17:=.bool bb) (y18:=.int .i64 ((m - a:Nat):Int)) (y19:=.int .i64 ((b - m:Nat):Int)) (y20:=Ud)
  generalize IntKind.i64.wrap (((k:Int):Int).tdiv 8)=th at t4
  have up:∀ (x:X) (E:Env) (l':List α),RT polSl 70 (sub [1,1,0,0,0,1,1,1,1,1,1,1,1,1,1,1,1] B70) (env70 (.sl db 0 n cap n 1) (.int .i64 (a:Int)) (.int .i64 (b:Int)) (.int .i64 lim) (.func 64 [] []) (.bool bal) (.bool bb) (.int .i64 (k:Int)) (.int .i64 (p:Int)) h Ud (.int .i64 (m:Int)) (.bool bb) (.int .i64 ((m - a:Nat):Int)) (.int .i64 ((b - m:Nat):Int)) (.int .i64 th)) (Mm enc H db l4 []) .normal E (Mm enc H db l' []) → Out enc lt dom H db n cap a b l4 .normal E l' →
      ∃ x E l',RT polSl 70 (sub [1,1,0,0,0,1,1,1,1,1,1,1,1] B70) (env70 (.sl db 0 n cap n 1) (.int .i64 (a:Int)) (.int .i64 (b:Int)) (.int .i64 lim) (.func 64 [] []) (.bool bal) (.bool par) (.int .i64 (k:Int)) (.int .i64 (p:Int)) h Ud Ud Ud Ud Ud Ud) (Mm enc H db l []) x E (Mm enc H db l' [])∧Out enc lt dom H db n cap a b l x E l':=fun x E l' t ho =>
    ⟨_,E,l',sq (t1) (sq (t2) (sq (t3) (sq (t4) (t) (c:=sub [1,1,0,0,0,1,1,1,1,1,1,1,1,1,1,1] B70)) (c:=sub [1,1,0,0,0,1,1,1,1,1,1,1,1,1,1] B70)) (c:=sub [1,1,0,0,0,1,1,1,1,1,1,1,1,1] B70)) (c:=sub [1,1,0,0,0,1,1,1,1,1,1,1,1] B70),Out.pre w1 ho⟩
  by_cases c:((m - a:Nat):Int) < ((b - m:Nat):Int)
  · obtain ⟨l5,hc5,v1,v2⟩:=hd a m lim l4 (by omega) (by omega) (by omega) hl0 hl1 hl4 hD4 (hF4.part rfl (by omega))
    obtain ⟨N5,hN5⟩:=hc5.from
    have hl5:=sw_len v1 hl4
    have e3:IntKind.i64.wrap ((m:Int)+1)=((m+1:Nat):Int):=wrap_succ (by omega)
    have ho:∀ (bl:Bool),Out enc lt dom H db n cap a b l4 .normal (env70 (.sl db 0 n cap n 1) (.int .i64 ((m+1:Nat):Int)) (.int .i64 (b:Int)) (.int .i64 lim) (.func 64 [] []) (.bool bl) (.bool bb) (.int .i64 (k:Int)) (.int .i64 (p:Int)) h Ud (.int .i64 (m:Int)) (.bool bb) (.int .i64 ((m - a:Nat):Int)) (.int .i64 ((b - m:Nat):Int)) (.int .i64 th)) l5:=fun bl=>by
      refine ⟨v1.mono (Nat.le_refl _) (by omega),.inr ⟨.inl rfl,m+1,b,lim,bl,bb,_,_,_,_,_,_,_,_,_,rfl,by omega,by omega,by omega,Nat.le_refl _,hl0,hl1,fun _ k h1 h2=>?_,fun l6 u1 u2=>?_⟩⟩
      · rw [show m+1 - 1=m by omega,v1.out (by omega) (k:=k) (by omega),v1.out (by omega) (k:=m) (by omega)]
        exact w4 k (by omega) h2
      · have em:at_ l6 m=at_ l4 m:=(u1.out (by omega) (k:=m) (by omega)).trans (v1.out (by omega) (k:=m) (by omega))
        refine join hL (m:=m) (fun i j q1 q2 q3=>?_) u2 (fun k q1 q2=>?_) (fun k q1 q2=>?_)
        · rw [u1.out (by omega) (k:=i) (by omega),u1.out (by omega) (k:=j) (by omega)]
          exact v2 i j q1 q2 q3
        · rw [em,u1.out (by omega) (k:=k) (by omega)]
          exact v1.all (by omega) (Q:=fun x=>lt x (at_ l4 m)) (Nat.le_refl _) (Nat.le_refl _) w3 k q1 q2
        · rw [em]
          exact u1.all (by omega) (Q:=fun x=>¬ lt x (at_ l4 m)) (lo:=m+1) (hi:=b) (Nat.le_refl _) (Nat.le_refl _) (fun i h1 h2=>by
            rw [v1.out (by omega) (k:=i) (by omega)]; exact w4 i (by omega) h2) k (by omega) q2
    by_cases c2:th ≤ ((m - a:Nat):Int)
    · have t:=pq_r_0 N5 db n cap (Mm enc H db l4 []) 0 a b lim m _ _ th (y10:=.bool bal) (y11:=.bool bb) (y12:=.int .i64 (k:Int)) (y13:=.int .i64 (p:Int)) (y14:=h) (y15:=Ud) (y17:=.bool bb) c c2 hN5
      rw [e3] at t
      exact up .normal _ l5 t (ho true)
    · have t:=pq_r_1 N5 db n cap (Mm enc H db l4 []) 0 a b lim m _ _ th (y10:=.bool bal) (y11:=.bool bb) (y12:=.int .i64 (k:Int)) (y13:=.int .i64 (p:Int)) (y14:=h) (y15:=Ud) (y17:=.bool bb) c c2 hN5
      rw [e3] at t
      exact up .normal _ l5 t (ho false)
  · have hF5:Flo lt (m+1) b l4:=fun _ k h1 h2=>by rw [show m+1 - 1=m by omega]; exact w4 k (by omega) h2
    obtain ⟨l5,hc5,v1,v2⟩:=hd (m+1) b lim l4 (by omega) (by omega) hb hl0 hl1 hl4 hD4 hF5
    obtain ⟨N5,hN5⟩:=hc5.from
    have hl5:=sw_len v1 hl4
    have e3:IntKind.i64.wrap ((m:Int)+1)=((m+1:Nat):Int):=wrap_succ (by omega)
    rw [← e3] at hN5
    have ho:∀ (bl:Bool),Out enc lt dom H db n cap a b l4 .normal (env70 (.sl db 0 n cap n 1) (.int .i64 (a:Int)) (.int .i64 (m:Int)) (.int .i64 lim) (.func 64 [] []) (.bool bl) (.bool bb) (.int .i64 (k:Int)) (.int .i64 (p:Int)) h Ud (.int .i64 (m:Int)) (.bool bb) (.int .i64 ((m - a:Nat):Int)) (.int .i64 ((b - m:Nat):Int)) (.int .i64 th)) l5:=fun bl=>by
      have hF6:=(hF4.sw (by omega) (v1.mono (a':=a) (by omega) (Nat.le_refl _))).part (b':=m) rfl (by omega)
      refine ⟨v1.mono (by omega) (Nat.le_refl _),.inr ⟨.inl rfl,a,m,lim,bl,bb,_,_,_,_,_,_,_,_,_,rfl,by omega,Nat.le_refl _,by omega,by omega,hl0,hl1,hF6,fun l6 u1 u2=>?_⟩⟩
      have em:at_ l6 m=at_ l4 m:=(u1.out (by omega) (k:=m) (by omega)).trans (v1.out (by omega) (k:=m) (by omega))
      refine join hL (m:=m) u2 (fun i j q1 q2 q3=>?_) (fun k q1 q2=>?_) (fun k q1 q2=>?_)
      · rw [u1.out (by omega) (k:=i) (by omega),u1.out (by omega) (k:=j) (by omega)]
        exact v2 i j q1 q2 q3
      · rw [em]
        exact u1.all (by omega) (Q:=fun x=>lt x (at_ l4 m)) (lo:=a) (hi:=m) (Nat.le_refl _) (Nat.le_refl _) (fun i h1 h2=>by
            rw [v1.out (by omega) (k:=i) (by omega)]; exact w3 i h1 h2) k q1 q2
      · rw [em,u1.out (by omega) (k:=k) (by omega)]
        exact v1.all (by omega) (Q:=fun x=>¬ lt x (at_ l4 m)) (Nat.le_refl _) (Nat.le_refl _) (fun i h1 h2=>w4 i (by omega) h2) k (by omega) q2
    by_cases c2:th ≤ ((b - m:Nat):Int)
    · have t:=pq_r_2 N5 db n cap (Mm enc H db l4 []) 0 a b lim m _ _ th (y10:=.bool bal) (y11:=.bool bb) (y12:=.int .i64 (k:Int)) (y13:=.int .i64 (p:Int)) (y14:=h) (y15:=Ud) (y17:=.bool bb) c c2 hN5
      exact up .normal _ l5 t (ho true)
    · have t:=pq_r_3 N5 db n cap (Mm enc H db l4 []) 0 a b lim m _ _ th (y10:=.bool bal) (y11:=.bool bb) (y12:=.int .i64 (k:Int)) (y13:=.int .i64 (p:Int)) (y14:=h) (y15:=Ud) (y17:=.bool bb) c c2 hN5
      exact up .normal _ l5 t (ho false)
theorem pq_T (S:So enc lt dom H db n) (hL:Lin lt) {a b k p:Nat} {lim:Int} {bal par:Bool} {h:HV} (hd:PdqOk enc lt dom H db n cap (b - a)) (hp1:a ≤ p) (hp2:p < b) (hb:b ≤ n) (hk:k ≤ n) (hl0:0 ≤ lim) (hl1:lim ≤ 1000) {l:List α} (hl:l.length=n) (hD:Dm dom l) (hF:Flo lt a b l) :
    ∃ x E l',RT polSl 70 (sub [1,1,0,0,0,1,1,1,1,1,1,1] B70) (env70 (.sl db 0 n cap n 1) (.int .i64 (a:Int)) (.int .i64 (b:Int)) (.int .i64 lim) (.func 64 [] []) (.bool bal) (.bool par) (.int .i64 (k:Int)) (.int .i64 (p:Int)) h Ud Ud Ud Ud Ud Ud) (Mm enc H db l []) x E (Mm enc H db l' [])∧Out enc lt dom H db n cap a b l x E l':=by
  have hn:=S.nb
  by_cases c0:0 < a
  · have hp:IntKind.i64.wrap ((a:Int) - 1)=((a - 1:Nat):Int):=wrap_pred (by omega) (by omega)
    by_cases c:lt (at_ l (a - 1)) (at_ l p)
    · obtain ⟨cc,N,hN,hc⟩:=S.ct (T:=[]) hl rfl (hD.at (i:=a - 1) (by omega)) (hD.at (i:=p) (by omega)) c
      have t1:=pq_m_0 N db n cap (Mm enc H db l []) 0 a b lim p (y10:=.bool bal) (y11:=.bool par) (y12:=.int .i64 (k:Int)) (y14:=h) (y15:=Ud) (y16:=Ud) (y17:=Ud) (y18:=Ud) (y19:=Ud) (y20:=Ud) (by omega) (ixs hp (by omega)) (S.ld l _ _ hl (by omega)) (ixs (i:=p) rfl (by omega)) (S.ld l _ _ hl (by omega)) hN hc
      obtain ⟨x,E,l',t,ho⟩:=pq_S S hL (cap:=cap) (k:=k) (bal:=bal) (par:=par) (h:=h) hd hp1 hp2 hb hk hl0 hl1 hl hD hF
      exact ⟨x,E,l',sq t1 t (c:=sub [1,1,0,0,0,1,1,1,1,1,1,1] B70),ho⟩
    · obtain ⟨cc,N,hN,hc⟩:=S.cf (T:=[]) hl rfl (hD.at (i:=a - 1) (by omega)) (hD.at (i:=p) (by omega)) c
      obtain ⟨m,l4,hc4,w1,w2,w3,w4⟩:=peq_ok S (cap:=cap) (T:=[]) hL rfl hb hp1 hp2 hl hD
      obtain ⟨N4,hN4⟩:=hc4.from
      have t1:=pq_m_1 (N+N4) db n cap (Mm enc H db l []) 0 a b lim p (y10:=.bool bal) (y11:=.bool par) (y12:=.int .i64 (k:Int)) (y14:=h) (y15:=Ud) (y16:=Ud) (y17:=Ud) (y18:=Ud) (y19:=Ud) (y20:=Ud) (by omega) (ixs hp (by omega)) (S.ld l _ _ hl (by omega)) (ixs (i:=p) rfl (by omega)) (S.ld l _ _ hl (by omega)) (fun kf hk=>hN kf (by omega)) hc (fun kf hk=>hN4 kf (by omega))
      have hlow:∀ k,a ≤ k → k < b → ¬ lt (at_ l4 k) (at_ l (a - 1)):=w1.all (by omega) (Q:=fun x=>¬ lt x (at_ l (a - 1))) (Nat.le_refl _) (Nat.le_refl _) (hF c0)
      refine ⟨_,_,l4,sqo t1 (c:=sub [1,1,0,0,0,1,1,1,1,1,1,1] B70) (b:=sub [1,1,0,0,0,1,1,1,1,1,1,1,1] B70),w1,.inr ⟨.inr rfl,m,b,lim,bal,par,_,_,_,_,_,_,_,_,_,rfl,by omega,by omega,by omega,Nat.le_refl _,hl0,hl1,fun _ k h1 h2=>?_,fun l5 u1 u2=>?_⟩⟩
      · exact hL.tr _ _ _ (w3 (m - 1) (by omega) (by omega)) (hL.asy _ _ (w4 k h1 h2))
      · have hl4:=sw_len w1 hl
        have hr:∀ k,m ≤ k → k < b → lt (at_ l p) (at_ l5 k):=u1.all (by omega) (Q:=fun x=>lt (at_ l p) x) (Nat.le_refl _) (Nat.le_refl _) w4
        intro i j q1 q2 q3
        by_cases c1:j < m
        · rw [u1.out (by omega) (k:=i) (by omega),u1.out (by omega) (k:=j) (by omega)]
          exact hL.tr _ _ _ (hL.tr _ _ _ (w3 i q1 (by omega)) c) (hlow j (by omega) q3)
        · by_cases c2:i < m
          · rw [u1.out (by omega) (k:=i) (by omega)]
            exact hL.tr _ _ _ (w3 i q1 c2) (hL.asy _ _ (hr j (by omega) q3))
          · exact u2 i j (by omega) q2 q3
  · have t1:=pq_m_2 0 db n cap (Mm enc H db l []) 0 a b lim p (y10:=.bool bal) (y11:=.bool par) (y12:=.int .i64 (k:Int)) (y14:=h) (y15:=Ud) (y16:=Ud) (y17:=Ud) (y18:=Ud) (y19:=Ud) (y20:=Ud) (by omega)
    obtain ⟨x,E,l',t,ho⟩:=pq_S S hL (cap:=cap) (k:=k) (bal:=bal) (par:=par) (h:=h) hd hp1 hp2 hb hk hl0 hl1 hl hD hF
    exact ⟨x,E,l',sq t1 t (c:=sub [1,1,0,0,0,1,1,1,1,1,1,1] B70),ho⟩
theorem pq_U (S:So enc lt dom H db n) (hL:Lin lt) {a b k p:Nat} {lim h:Int} {bal par:Bool} (hd:PdqOk enc lt dom H db n cap (b - a)) (hp1:a ≤ p) (hp2:p < b) (hb:b ≤ n) (hk:k ≤ n) (hl0:0 ≤ lim) (hl1:lim ≤ 1000) {l:List α} (hl:l.length=n) (hD:Dm dom l) (hF:Flo lt a b l) :
    ∃ x E l',RT polSl 70 (sub [1,1,0,0,0,1,1,1,1,1,1] B70) (env70 (.sl db 0 n cap n 1) (.int .i64 (a:Int)) (.int .i64 (b:Int)) (.int .i64 lim) (.func 64 [] []) (.bool bal) (.bool par) (.int .i64 (k:Int)) (.int .i64 (p:Int)) (.int .i64 h) Ud Ud Ud Ud Ud Ud) (Mm enc H db l []) x E (Mm enc H db l' [])∧Out enc lt dom H db n cap a b l x E l':=by
  have hn:=S.nb
  have on:∀ (l3:List α),Sw a b l l3 → RT polSl 70 (sub [1,1,0,0,0,1,1,1,1,1,1,0] B70) (env70 (.sl db 0 n cap n 1) (.int .i64 (a:Int)) (.int .i64 (b:Int)) (.int .i64 lim) (.func 64 [] []) (.bool bal) (.bool par) (.int .i64 (k:Int)) (.int .i64 (p:Int)) (.int .i64 h) Ud Ud Ud Ud Ud Ud) (Mm enc H db l []) .normal (env70 (.sl db 0 n cap n 1) (.int .i64 (a:Int)) (.int .i64 (b:Int)) (.int .i64 lim) (.func 64 [] []) (.bool bal) (.bool par) (.int .i64 (k:Int)) (.int .i64 (p:Int)) (.int .i64 h) Ud Ud Ud Ud Ud Ud) (Mm enc H db l3 []) →
      ∃ x E l',RT polSl 70 (sub [1,1,0,0,0,1,1,1,1,1,1] B70) (env70 (.sl db 0 n cap n 1) (.int .i64 (a:Int)) (.int .i64 (b:Int)) (.int .i64 lim) (.func 64 [] []) (.bool bal) (.bool par) (.int .i64 (k:Int)) (.int .i64 (p:Int)) (.int .i64 h) Ud Ud Ud Ud Ud Ud) (Mm enc H db l []) x E (Mm enc H db l' [])∧Out enc lt dom H db n cap a b l x E l':=fun l3 w t1=>by
    obtain ⟨x,E,l',t,ho⟩:=pq_T S hL (cap:=cap) (k:=k) (bal:=bal) (par:=par) (h:=.int .i64 h) hd hp1 hp2 hb hk hl0 hl1 (sw_len w hl) (hD.sw w (by omega)) (hF.sw (by omega) w)
    exact ⟨x,E,l',sq t1 t (c:=sub [1,1,0,0,0,1,1,1,1,1,1] B70),Out.pre w ho⟩
  cases bal with
  | false=>exact on l .refl (pq_l_0 0 db n cap (Mm enc H db l []) 0 a b lim h)
  | true =>
    cases par with
    | false=>exact on l .refl (pq_k_0 0 db n cap (Mm enc H db l []) 0 a b lim h)
    | true =>
      by_cases c:h=1
      · obtain ⟨bb,l3,hc3,w1,w2⟩:=pin_ok S hL (cap:=cap) (T:=[]) rfl (a:=a) (by omega) hb hl hD hF
        obtain ⟨N3,hN3⟩:=hc3.from
        cases bb with
        | true =>
          have t1:=pq_j_0 N3 db n cap (Mm enc H db l []) 0 a b lim h (y12:=.int .i64 (k:Int)) (y13:=.int .i64 (p:Int)) (y15:=Ud) (y16:=Ud) (y17:=Ud) (y18:=Ud) (y19:=Ud) (y20:=Ud) c hN3
          exact ⟨_,_,l3,sqo t1 (c:=sub [1,1,0,0,0,1,1,1,1,1,1] B70) (b:=sub [1,1,0,0,0,1,1,1,1,1,1,1] B70),w1,.inl ⟨rfl,w2 rfl⟩⟩
        | false=>exact on l3 w1 (pq_j_1 N3 db n cap (Mm enc H db l []) 0 a b lim h c hN3)
      · exact on l .refl (pq_j_2 0 db n cap (Mm enc H db l []) 0 a b lim h c)
theorem pq_V (S:So enc lt dom H db n) (hL:Lin lt) {a b k p:Nat} {lim h:Int} {bal par:Bool} (hd:PdqOk enc lt dom H db n cap (b - a)) (hp1:a ≤ p) (hp2:p < b) (hb:b ≤ n) (hk:k ≤ n) (hl0:0 ≤ lim) (hl1:lim ≤ 1000) {l:List α} (hl:l.length=n) (hD:Dm dom l) (hF:Flo lt a b l) :
    ∃ x E l',RT polSl 70 (sub [1,1,0,0,0,1,1,1,1,1] B70) (env70 (.sl db 0 n cap n 1) (.int .i64 (a:Int)) (.int .i64 (b:Int)) (.int .i64 lim) (.func 64 [] []) (.bool bal) (.bool par) (.int .i64 (k:Int)) (.int .i64 (p:Int)) (.int .i64 h) Ud Ud Ud Ud Ud Ud) (Mm enc H db l []) x E (Mm enc H db l' [])∧Out enc lt dom H db n cap a b l x E l':=by
  have hn:=S.nb
  by_cases c:h=2
  · obtain ⟨l2,hc2,w⟩:=rvs_ok S (cap:=cap) (T:=[]) (a:=a) (b:=b) (by omega) hb hl
    obtain ⟨N2,hN2⟩:=hc2.from
    have t1:=pq_i_0 N2 db n cap (Mm enc H db l []) 0 a b lim p h (y10:=.bool bal) (y11:=.bool par) (y12:=.int .i64 (k:Int)) (y15:=Ud) (y16:=Ud) (y17:=Ud) (y18:=Ud) (y19:=Ud) (y20:=Ud) c hN2
    have e1:IntKind.i64.wrap ((b:Int) - 1)=((b - 1:Nat):Int):=wrap_pred (by omega) (by omega)
    have e2:IntKind.i64.wrap ((p:Int) - (a:Int))=((p - a:Nat):Int):=(by rw [wrap_id (by omega) (by omega)]; omega)
    have e3:IntKind.i64.wrap (((b - 1:Nat):Int) - ((p - a:Nat):Int))=((b - 1 - (p - a):Nat):Int):=(by rw [wrap_id (by omega) (by omega)]; omega)
    rw [e1,e2,e3] at t1
    obtain ⟨x,E,l',t,ho⟩:=pq_U S hL (cap:=cap) (k:=k) (p:=b - 1 - (p - a)) (bal:=bal) (par:=par) (h:=1) hd (by omega) (by omega) hb hk hl0 hl1 (sw_len w hl) (hD.sw w (by omega)) (hF.sw (by omega) w)
    exact ⟨x,E,l',sq t1 t (c:=sub [1,1,0,0,0,1,1,1,1,1] B70),Out.pre w ho⟩
  · have t1:=pq_i_1 0 db n cap (Mm enc H db l []) 0 a b lim p h (y10:=.bool bal) (y11:=.bool par) (y12:=.int .i64 (k:Int)) (y15:=Ud) (y16:=Ud) (y17:=Ud) (y18:=Ud) (y19:=Ud) (y20:=Ud) c
    obtain ⟨x,E,l',t,ho⟩:=pq_U S hL (cap:=cap) (k:=k) (p:=p) (bal:=bal) (par:=par) (h:=h) hd hp1 hp2 hb hk hl0 hl1 hl hD hF
    exact ⟨x,E,l',sq t1 t (c:=sub [1,1,0,0,0,1,1,1,1,1] B70),ho⟩
theorem pq_B (S:So enc lt dom H db n) (hL:Lin lt) {a b:Nat} {lim:Int} {bal par:Bool} (hd:PdqOk enc lt dom H db n cap (b - a)) (hab:a ≤ b) (hb:b ≤ n) (hl0:0 ≤ lim) (hl1:lim ≤ 1000) {l:List α} (hl:l.length=n) (hD:Dm dom l) (hF:Flo lt a b l) :
    ∃ x E l',RT polSl 70 (sub [1,1,0,0,0] B70) (env70 (.sl db 0 n cap n 1) (.int .i64 (a:Int)) (.int .i64 (b:Int)) (.int .i64 lim) (.func 64 [] []) (.bool bal) (.bool par) Ud Ud Ud Ud Ud Ud Ud Ud Ud) (Mm enc H db l []) x E (Mm enc H db l' [])∧Out enc lt dom H db n cap a b l x E l':=by
  have hn:=S.nb
  have t0:=pq_c_0 0 db n cap (Mm enc H db l []) 0 a b lim (y10:=.bool bal) (y11:=.bool par) (y12:=Ud) (y13:=Ud) (y14:=Ud) (y15:=Ud) (y16:=Ud) (y17:=Ud) (y18:=Ud) (y19:=Ud) (y20:=Ud)
  have e0:IntKind.i64.wrap ((b:Int) - (a:Int))=((b - a:Nat):Int):=(by rw [wrap_id (by omega) (by omega)]; omega)
  rw [e0] at t0
  by_cases c1:b - a ≤ 12
  · obtain ⟨l',hc,w1,w2⟩:=ins_ok S hL (cap:=cap) (T:=[]) rfl hab hb hl hD
    obtain ⟨N1,hN1⟩:=hc.from
    have t1:=pq_d_0 N1 db n cap (Mm enc H db l []) 0 a b lim (b - a) (y10:=.bool bal) (y11:=.bool par) (y13:=Ud) (y14:=Ud) (y15:=Ud) (y16:=Ud) (y17:=Ud) (y18:=Ud) (y19:=Ud) (y20:=Ud) (by omega) hN1
    exact ⟨_,_,l',sq (t0) (sqo (t1) (c:=sub [1,1,0,0,0,1] B70) (b:=sub [1,1,0,0,0,1,1] B70)) (c:=sub [1,1,0,0,0] B70),w1,.inl ⟨rfl,w2⟩⟩
  have t1:=pq_d_1 0 db n cap (Mm enc H db l []) 0 a b lim (b - a) (y10:=.bool bal) (y11:=.bool par) (y13:=Ud) (y14:=Ud) (y15:=Ud) (y16:=Ud) (y17:=Ud) (y18:=Ud) (y19:=Ud) (y20:=Ud) (by omega)
  by_cases c2:lim=0
  · obtain ⟨l',hc,w1,w2⟩:=heap_ok S hL (cap:=cap) (T:=[]) rfl (a:=a) (by omega) hb hl hD
    obtain ⟨N1,hN1⟩:=hc.from
    have t2:=pq_e_0 N1 db n cap (Mm enc H db l []) 0 a b lim (y10:=.bool bal) (y11:=.bool par) (y12:=.int .i64 ((b - a:Nat):Int)) (y13:=Ud) (y14:=Ud) (y15:=Ud) (y16:=Ud) (y17:=Ud) (y18:=Ud) (y19:=Ud) (y20:=Ud) c2 hN1
    exact ⟨_,_,l',sq (t0) (sq (t1) (sqo (t2) (c:=sub [1,1,0,0,0,1,1] B70) (b:=sub [1,1,0,0,0,1,1,1] B70)) (c:=sub [1,1,0,0,0,1] B70)) (c:=sub [1,1,0,0,0] B70),w1,.inl ⟨rfl,w2⟩⟩
  have t2:=pq_e_1 0 db n cap (Mm enc H db l []) 0 a b lim (y10:=.bool bal) (y11:=.bool par) (y12:=.int .i64 ((b - a:Nat):Int)) (y13:=Ud) (y14:=Ud) (y15:=Ud) (y16:=Ud) (y17:=Ud) (y18:=Ud) (y19:=Ud) (y20:=Ud) c2
  have on:∀ (lim1:Int) (l1:List α),0 ≤ lim1 → lim1 ≤ 1000 → Sw a b l l1 → RT polSl 70 (sub [1,1,0,0,0,1,1,1,0] B70) (env70 (.sl db 0 n cap n 1) (.int .i64 (a:Int)) (.int .i64 (b:Int)) (.int .i64 lim) (.func 64 [] []) (.bool bal) (.bool par) (.int .i64 ((b - a:Nat):Int)) Ud Ud Ud Ud Ud Ud Ud Ud) (Mm enc H db l []) .normal (env70 (.sl db 0 n cap n 1) (.int .i64 (a:Int)) (.int .i64 (b:Int)) (.int .i64 lim1) (.func 64 [] []) (.bool bal) (.bool par) (.int .i64 ((b - a:Nat):Int)) Ud Ud Ud Ud Ud Ud Ud Ud) (Mm enc H db l1 []) →
      ∃ x E l',RT polSl 70 (sub [1,1,0,0,0] B70) (env70 (.sl db 0 n cap n 1) (.int .i64 (a:Int)) (.int .i64 (b:Int)) (.int .i64 lim) (.func 64 [] []) (.bool bal) (.bool par) Ud Ud Ud Ud Ud Ud Ud Ud Ud) (Mm enc H db l []) x E (Mm enc H db l' [])∧Out enc lt dom H db n cap a b l x E l':=fun lim1 l1 hq0 hq1 w t3=>by
    have hl1':=sw_len w hl
    have hD1:=hD.sw w (by omega)
    obtain ⟨p,h,hc,p1,p2⟩:=piv_ok S (cap:=cap) (a:=a) (b:=b) (by omega) hb hl1' hD1
    obtain ⟨N1,hN1⟩:=hc.from
    have t4:=pq_h_0 N1 db n cap (Mm enc H db l1 []) 0 a b lim1 (y10:=.bool bal) (y11:=.bool par) (y12:=.int .i64 ((b - a:Nat):Int)) (y13:=Ud) (y14:=Ud) (y15:=Ud) (y16:=Ud) (y17:=Ud) (y18:=Ud) (y19:=Ud) (y20:=Ud) hN1
    obtain ⟨x,E,l',t,ho⟩:=pq_V S hL (cap:=cap) (k:=b - a) (p:=p) (bal:=bal) (par:=par) (h:=h) hd p1 p2 hb (by omega) hq0 hq1 hl1' hD1 (hF.sw (by omega) w)
    have t5:=sq t4 t (c:=sub [1,1,0,0,0,1,1,1,1] B70)
    have t6:=sq t3 t5 (c:=sub [1,1,0,0,0,1,1,1] B70)
    have t7:=sq t2 t6 (c:=sub [1,1,0,0,0,1,1] B70)
    have t8:=sq t1 t7 (c:=sub [1,1,0,0,0,1] B70)
    exact ⟨x,E,l',sq t0 t8 (c:=sub [1,1,0,0,0] B70),Out.pre w ho⟩
  cases bal with
  | true=>exact on lim l hl0 hl1 .refl (pq_f_0 0 db n cap (Mm enc H db l []) 0 a b lim)
  | false =>
    obtain ⟨l1,hc,w⟩:=brk_ok S (cap:=cap) (a:=a) (b:=b) (by omega) hb hl
    obtain ⟨N1,hN1⟩:=hc.from
    have t3:=pq_g_0 N1 db n cap (Mm enc H db l []) 0 a b lim (y11:=.bool par) (y12:=.int .i64 ((b - a:Nat):Int)) (y13:=Ud) (y14:=Ud) (y15:=Ud) (y16:=Ud) (y17:=Ud) (y18:=Ud) (y19:=Ud) (y20:=Ud) hN1
    rw [wrap_id (n:=lim - 1) (by omega) (by omega)] at t3
    exact on (lim - 1) l1 (by omega) (by omega) w t3
theorem pq_loop (S:So enc lt dom H db n) (hL:Lin lt):∀ (d:Nat) (a b:Nat) (lim:Int) (bal par:Bool) (l:List α),b - a < d → PdqOk enc lt dom H db n cap (b - a) → a ≤ b → b ≤ n → 0 ≤ lim → lim ≤ 1000 → l.length=n → Dm dom l → Flo lt a b l →
    ∃ E l',RT polSl 70 (sub [1,1,0] B70) (env70 (.sl db 0 n cap n 1) (.int .i64 (a:Int)) (.int .i64 (b:Int)) (.int .i64 lim) (.func 64 [] []) (.bool bal) (.bool par) Ud Ud Ud Ud Ud Ud Ud Ud Ud) (Mm enc H db l []) .ret E (Mm enc H db l' [])∧Sw a b l l'∧Sorted lt a b l':=by
  have hn:=S.nb
  intro d
  induction d with
  | zero=>intro a b lim bal par l hd; omega
  | succ d ih =>
    intro a b lim bal par l hd hP hab hb h0 h1 hl hD hF
    obtain ⟨x,E,l1,t,w,ho⟩:=pq_B S hL (cap:=cap) (bal:=bal) (par:=par) hP hab hb h0 h1 hl hD hF
    rcases ho with ⟨rfl,hs⟩ | ⟨hx,a',b',lim',bal',par',y2,y3,y4,y5,y6,y7,y8,y9,y10,rfl,q1,q2,q3,q4,q5,q6,q7,q8⟩
    · exact ⟨_,l1,lpo (RunsTo.block_ret (i:=1) (c:=sub [1,1,0,0] B70) t (by kernel_rfl)),w,hs⟩
    · have st:RT polSl 70 (sub [1,1,0,0] B70) (env70 (.sl db 0 n cap n 1) (.int .i64 (a:Int)) (.int .i64 (b:Int)) (.int .i64 lim) (.func 64 [] []) (.bool bal) (.bool par) Ud Ud Ud Ud Ud Ud Ud Ud Ud) (Mm enc H db l []) .normal (env70 (.sl db 0 n cap n 1) (.int .i64 (a':Int)) (.int .i64 (b':Int)) (.int .i64 lim') (.func 64 [] []) (.bool bal') (.bool par') y2 y3 y4 y5 y6 y7 y8 y9 y10) (Mm enc H db l1 []):=by
        rcases hx with rfl | rfl
        · exact RunsTo.block_normal (i:=1) t (by kernel_rfl)
        · exact bke t
      have hl1:=sw_len w hl
      obtain ⟨E,l2,r,v1,v2⟩:=ih a' b' lim' bal' par' l1 (by omega) (fun a2 b2 lim2 l2 g1=>hP a2 b2 lim2 l2 (by omega)) q3 (by omega) q5 q6 hl1 (hD.sw w (by omega)) q7
      exact ⟨E,l2,lop (st) (gcM _ _ _ _ _ rfl) (r),w.trans (v1.mono q2 q4),q8 l2 v1 v2⟩
theorem pdq_of (S:So enc lt dom H db n) (hL:Lin lt) {a b:Nat} {lim:Int} {l:List α} (hP:PdqOk enc lt dom H db n cap (b - a)) (hab:a ≤ b) (hb:b ≤ n) (h0:0 ≤ lim) (h1:lim ≤ 1000) (hl:l.length=n) (hD:Dm dom l) (hF:Flo lt a b l) :
    ∃ l',ClL 70 [.sl db 0 n cap n 1,.int .i64 (a:Int),.int .i64 (b:Int),.int .i64 lim,.func 64 [] []] (Mm enc H db l []) (.tuple []) (Mm enc H db l' [])∧Sw a b l l'∧Sorted lt a b l':=by
  obtain ⟨E,l',r,q⟩:=pq_loop S hL (cap:=cap) _ a b lim true true l (Nat.lt_succ_self _) hP hab hb h0 h1 hl hD hF
  have t0:=pq_a_0 0 db n cap (Mm enc H db l []) 0 a b lim
  have t1:=pq_b_0 0 db n cap (Mm enc H db l []) 0 a b lim (y10:=.bool true) (y11:=Ud) (y12:=Ud) (y13:=Ud) (y14:=Ud) (y15:=Ud) (y16:=Ud) (y17:=Ud) (y18:=Ud) (y19:=Ud) (y20:=Ud)
  have t:=sq (t0) (sq (t1) (RunsTo.block_ret (i:=0) (c:=sub [1,1] B70) (r) (by kernel_rfl)) (c:=sub [1] B70)) (c:=B70)
  have hc:=CallsTo.shared (P:=Tp) (pol:=polSl) (g:=70) (fn:=Try.f70) (cd:=B70) (args:=[.sl db 0 n cap n 1,.int .i64 (a:Int),.int .i64 (b:Int),.int .i64 lim,.func 64 [] []]) (v:=.tuple []) (by kernel_rfl) (by kernel_rfl) (by kernel_rfl) (by kernel_rfl) t (by kernel_rfl) (by simp) (by kernel_rfl)
  rw [gcM _ _ _ _ _ rfl] at hc
  exact ⟨l',hc,q⟩
theorem pdq_all (S:So enc lt dom H db n) (hL:Lin lt):∀ d,PdqOk enc lt dom H db n cap d
  | 0,_,_,_,_,h=>by omega
  | d+1,a,b,lim,l,h=>fun hab hb h0 h1 hl hD hF=>pdq_of S hL (fun a2 b2 lim2 l2 g=>pdq_all S hL d a2 b2 lim2 l2 (by omega)) hab hb h0 h1 hl hD hF
theorem pdq_ok (S:So enc lt dom H db n) (hL:Lin lt) {lim:Int} (h0:0 ≤ lim) (h1:lim ≤ 1000) {l:List α} (hl:l.length=n) (hD:Dm dom l) :
    ∃ l',ClL 70 [.sl db 0 n cap n 1,.int .i64 0,.int .i64 (n:Int),.int .i64 lim,.func 64 [] []] (Mm enc H db l []) (.tuple []) (Mm enc H db l' [])∧l'.Perm l∧Sorted lt 0 n l':=by
  obtain ⟨l',hc,w,hs⟩:=pdq_all S hL (cap:=cap) (n+1) 0 n lim l (by omega) (Nat.zero_le _) (Nat.le_refl _) h0 h1 hl hD (fun h=>by omega)
  exact ⟨l',hc,w.perm (by omega),hs⟩
end
end Go.Proofs.Ytaibmipamkaljaa
end
section
open Go Go.HL
namespace Go.Proofs.Ytaibmipamkaljaa
open Go.Proofs.Try renaming prog → Tp
open Go.HL.HV renaming undef → Ud
def polAw:Pol:={ pol with shared:=fun g=>sharedT.contains g || g == 54,prim:=fun g=>if g == 49 then some reached49 else if g == 59 then some add59 else none }
set_option maxRecDepth 100000 in
theorem fns_okAw:(Tp.funcs.toList.zipIdx.all fun p=>fnOk { pol with shared:=fun g=>sharedT.contains g || g == 54 } p.2 p.1)=true:=by kernel_rfl
theorem sound_primC (F:FuncId → Option (List HV → Option HV)) (hF:∀ g f,F g=some f → PrimOk Tp g f) (n:Nat):CallSound Tp (callN Tp { pol with shared:=fun g=>sharedT.contains g || g == 54,prim:=F } n) :=
  callN_ok follows_mixed (fun g fn h=>by
    have:=fnOk_prim (pol:={ pol with shared:=fun g=>sharedT.contains g || g == 54 }) (F:=F) g fn
    rw [this]
    exact List.all_eq_true.1 fns_okAw (fn,g) (by
      rw [List.mem_zipIdx_iff_getElem?]
      simpa using h)) hF n
theorem soundAw (n:Nat):CallSound Tp (callN Tp polAw n):=sound_primC _ (fun g f h=>by
  split at h
  · rename_i hg; cases h; rw [eq_of_beq hg]; exact reached_ok
  split at h
  · rename_i hg; cases h; rw [eq_of_beq hg]; exact add_ok
  · cases h) n
set_option maxRecDepth 100000 in
theorem awake_run:callN Tp polAw 400 16 [] []=some (.bool true,[]):=by kernel_rfl
end Go.Proofs.Ytaibmipamkaljaa
end
section
open Go Go.HL
namespace Go.Proofs.Ytaibmipamkaljaa
open Go.Proofs.Try renaming prog → Tp
open Go.HL.HV renaming undef → Ud
theorem awake_prim:PrimOk Tp 16 awakeF:=by
  refine primOk_of (pol:=polAw) soundAw (by kernel_rfl) fun args res h=>?_
  match args,h with
  | [],h =>
    cases h
    exact ⟨400,_,_,false,awake_run,rfl⟩
theorem awake_at {pol':Pol} (hp:pol'.prim 16=some awakeF) (H:Heap):∀ k,callN Tp pol' (k+1) 16 [] H=some (.bool true,H):=fun k=>by
  rw [prim_call (pol:=pol') (g:=16) (F:=awakeF) hp (rs:=[]) rfl (res:=.bool true) rfl]; rfl
theorem group_at {pol':Pol} (hp:pol'.prim 23=some group23) (l:List Int) (H:Heap):∀ k,callN Tp pol' (k+1) 23 [.imm .arg 1 (l.map encI)] H=some (.sl H.length 0 (grpT l).length none (grpT l).length 1,H ++ [bI (grpT l)]):=fun k=>by
  have hX:=arg_li H l
  have hd:mapO decI (l.map encI)=some l:=mapO_map decI_enc l
  rw [prim_call (pol:=pol') (g:=23) (F:=group23) hp (rs:=[.imm .arg 1 (l.map encI)]) (by simp only [mapO,hX]) (res:=.own 1 ((grpT l).map encI)) (by simp only [group23,liF,hd]),recv_ints]
def argI (H:Heap) (v:HV) (l:List Int):Prop:=toArg H 6 v=some (.imm .arg 1 (l.map encI))
theorem argI_own (H:Heap) (l:List Int):argI H (.imm .own 1 (l.map encI)) l:=by
  show argP (.imm .own 1 (l.map encI))=_
  simp only [argP,argP_ints']
theorem elements24_at {pol':Pol} (hp:pol'.prim 24=some elements24) {gl:List Int} {R:List (List Int)} {v1 v2:HV} {c:Int} {H:Heap} (h1:argI H v1 gl) (h2:toArg H 6 v2=some (.imm .arg 1 (R.map encR))) (hk:posG gl=true∧gl.length ≤ 1000∧(R.take c.toNat).length ≤ 900∧0 ≤ c) :
    ∀ k,callN Tp pol' (k+1) 24 [v1,v2,.int .i64 c] H=some (.sl H.length 0 (rowsE gl R c).length none (rowsE gl R c).length 1,H ++ [.arr 1 ((rowsE gl R c).map encO) true 0]):=fun k=>by
  have hc:toArg H 6 (.int .i64 c)=some (.int .i64 c):=rfl
  have hd:mapO decI (gl.map encI)=some gl:=mapO_map decI_enc gl
  have hd2:mapO decR (R.map encR)=some R:=mapO_map decR_enc R
  unfold argI at h1
  rw [prim_call (pol:=pol') (g:=24) (F:=elements24) hp (rs:=[.imm .arg 1 (gl.map encI),.imm .arg 1 (R.map encR),.int .i64 c]) (by simp only [mapO,h1,h2,hc]) (res:=.own 1 ((rowsE gl R c).map encO)) (by simp only [elements24,rowsF,hd,hd2]; rw [if_pos hk]),recv_rows]
theorem zero_at {pol':Pol} (hp:pol'.prim 26=some zero26) {l:List Int} {R:List (List Int)} {v1 v2:HV} {H:Heap} (h1:argI H v1 l) (h2:toArg H 6 v2=some (.imm .arg 1 (R.map encR))) (hR:R.length ≤ 1000) :
    ∀ k,callN Tp pol' (k+1) 26 [v1,v2] H=some (.tuple [.sl H.length 0 (zeroT l R).1.length none (zeroT l R).1.length 1,.int .i64 (zeroT l R).2],H ++ [bI (zeroT l R).1]):=fun k=>by
  have hd:mapO decI (l.map encI)=some l:=mapO_map decI_enc l
  have hd2:mapO decR (R.map encR)=some R:=mapO_map decR_enc R
  unfold argI at h1
  rw [prim_call (pol:=pol') (g:=26) (F:=zero26) hp (rs:=[.imm .arg 1 (l.map encI),.imm .arg 1 (R.map encR)]) (by simp only [mapO,h1,h2]) (res:=.tuple [.own 1 ((zeroT l R).1.map encI),.int .i64 (zeroT l R).2]) (by simp only [zero26,hd,hd2]; rw [if_pos hR]),recv_li1]
end Go.Proofs.Ytaibmipamkaljaa
end
section
open Go Go.HL Go.HL.So
namespace Go.Proofs.Ytaibmipamkaljaa
open Go.Proofs.Try renaming prog → Tp
open Go.HL.HV renaming undef → Ud
def ltL (a b:List Int):Prop:=a.getD 0 0 < b.getD 0 0 ∨ (a.getD 0 0=b.getD 0 0∧a.getD 1 0 < b.getD 1 0)
theorem ltL_lin:Lin ltL:=by
  refine ⟨fun x y z h1 h2=>?_,fun x y h=>?_⟩
  · unfold ltL at *; omega
  · unfold ltL at *; omega
theorem cmpL_lt {s:Nat} (hs:s=1 ∨ s=2) {a b:List Int} (ha:a.length=s) (hb:b.length=s):∃ c,cmpL a b=some c∧(c < 0 ↔ ltL a b):=by
  rcases hs with rfl | rfl
  · match a,b,ha,hb with
    | [x],[y],_,_ =>
      refine ⟨_,rfl,?_⟩
      simp only [cmpI,ltL,List.getD_cons_zero]
      have:([x]:List Int).getD 1 0=0:=rfl
      have:([y]:List Int).getD 1 0=0:=rfl
      split
      · simp; omega
      · split <;> simp <;> omega
  · match a,b,ha,hb with
    | [x,x'],[y,y'],_,_ =>
      refine ⟨_,rfl,?_⟩
      have e1:([x,x']:List Int).getD 1 0=x':=rfl
      have e2:([y,y']:List Int).getD 1 0=y':=rfl
      simp only [cmpI,ltL,List.getD_cons_zero,e1,e2]
      by_cases c1:x < y
      · simp [c1]
      · by_cases c2:y < x
        · simp [c1,c2]; omega
        · have e:x=y:=by omega
          subst e
          by_cases c3:x' < y'
          · simp [c3]
          · by_cases c4:y' < x' <;> simp [c3,c4]
theorem So.list {s:Nat} (hs:s=1 ∨ s=2) {H:Heap} {db n:Nat} (hn:n ≤ 60000) (hd:db < H.length) (hx:mxs H ≤ H.length):So encO ltL (fun x=>x.length=s) H db n:=by
  have hb:∀ (l:List (List Int)) (T:Heap),(Mm encO H db l T)[db]?=some (.arr 1 (l.map encO) true 0):=fun l T=>by
    unfold Mm
    rw [List.getElem?_append_left (by simpa using hd),List.getElem?_set_self hd]
    rfl
  refine ⟨hn,hd,hx,fun l T i hl hi=>?_,fun l T i x hl hi=>?_,fun l T x y hl hT h1 h2=>?_⟩
  · exact load_elem (b:=db) (hb l T) (by simp [hl]) (by rw [List.getElem?_map,List.getElem?_eq_getElem (by omega)]; simp [at_,List.getD,List.getElem?_eq_getElem (show i < l.length by omega)]) rfl a22 i22
  · have hi':(l.map encO)[i]?=some (encO (at_ l i)):=by rw [List.getElem?_map,List.getElem?_eq_getElem (by omega)]; simp [at_,List.getD,List.getElem?_eq_getElem (show i < l.length by omega)]
    have:=store_elem (P:=Tp) (t:=22) (b:=db) (tot:=n) (v:=encO x) (hb l T) (by simp [hl]) hi' rfl (by intro cs h; cases h) z22 rfl rfl rfl
    rw [this]
    congr 1
    unfold Mm
    rw [List.set_append_left _ _ (by simpa using hd),List.set_set]
    congr 2
    unfold bE
    congr 1
    rw [List.map_set]
  · obtain ⟨c,c1,c2⟩:=cmpL_lt hs h1 h2
    refine ⟨c,0,fun kf _=>?_,c2⟩
    have hx:=argI_own (Mm encO H db l T) x
    have hy:=argI_own (Mm encO H db l T) y
    unfold argI at hx hy
    have hd:mapO decI (x.map encI)=some x:=mapO_map decI_enc x
    have hd2:mapO decI (y.map encI)=some y:=mapO_map decI_enc y
    rw [prim_call (pol:=polSl) (g:=64) (F:=compare64) (by kernel_rfl) (rs:=[.imm .arg 1 (x.map encI),.imm .arg 1 (y.map encI)]) (by simp only [mapO,encO,hx,hy]) (res:=.int .i64 c) (by simp only [compare64,hd,hd2,c1]; rfl)]
    rfl
theorem MmO_self {H:Heap} {db:Nat} {l:List (List Int)} (h:H[db]?=some (.arr 1 (l.map encO) true 0)):Mm encO H db l []=H:=by
  unfold Mm
  rw [List.append_nil]
  apply List.ext_getElem?
  intro i
  by_cases e:db=i
  · subst e; rw [List.getElem?_set_self (lt_of_get h),h]; rfl
  · rw [List.getElem?_set_ne e]
theorem sortL_ok {s:Nat} (hs:s=1 ∨ s=2) {H:Heap} {db n:Nat} {cap:Option Nat} {l:List (List Int)} (hn:n ≤ 60000) (hl:l.length=n) (hb:H[db]?=some (.arr 1 (l.map encO) true 0)) (hx:mxs H ≤ H.length) (hD:∀ x ∈ l,x.length=s) :
    ∃ l',ClL 63 [.sl db 0 n cap n 1,.func 64 [] []] H (.tuple []) (H.set db (.arr 1 (l'.map encO) true 0))∧l'.Perm l∧Sorted ltL 0 l'.length l':=by
  have hd:=lt_of_get hb
  have S:=So.list hs (n:=n) hn hd hx
  have hlen:=lenN_ok (x:=n) (by omega)
  obtain ⟨l',hc,h1,h2⟩:=pdq_ok S ltL_lin (cap:=cap) (lim:=(lenN n:Int)) (by omega) (by omega) hl hD
  obtain ⟨N,hN⟩:=hc.from
  rw [MmO_self hb] at hN
  have hu:IntKind.u64.wrap (n:Int)=(n:Int):=by rw [wrapU64]; omega
  have t:=st_a_0 N db n cap H 0 (m0:=(lenN n:Int)) (H0:=H) (fun kf _=>by
    rw [hu,prim_call (pol:=polSl) (g:=68) (F:=len82) (by kernel_rfl) (rs:=[.int .u64 (n:Int)]) rfl (res:=.int .i64 (lenN n:Int)) (by simp only [len82]; rw [if_pos (by omega),Int.toNat_natCast])]; rfl) hN
  have hc2:=CallsTo.shared (P:=Tp) (pol:=polSl) (g:=63) (fn:=Try.f63) (cd:=B63) (args:=[.sl db 0 n cap n 1,.func 64 [] []]) (v:=.tuple []) (by kernel_rfl) (by kernel_rfl) (by kernel_rfl) (by kernel_rfl) t (by kernel_rfl) (by simp) (by kernel_rfl)
  have e:Mm encO H db l' []=H.set db (.arr 1 (l'.map encO) true 0):=by unfold Mm; rw [List.append_nil]; rfl
  rw [e,gc_eq _ (by simp)] at hc2
  exact ⟨l',hc2,h1,by rw [h1.length_eq,hl]; exact h2⟩
end Go.Proofs.Ytaibmipamkaljaa
end
section
open Go Go.HL
namespace Go.Proofs.Ytaibmipamkaljaa
set_option maxRecDepth 100000
open Go.Proofs.Try renaming prog → Tp
open Go.HL.HV renaming undef → Ud
noncomputable def B39:Code:=Try.f39.body.getD .skip
abbrev env39 (v0 v1 v4 v5 v6 v7 v8 v9 v11 v12 v13 v14 v15 v32 v33 v34 v42 v57:HV):Env:=[(0,v0),(1,v1),(4,v4),(5,v5),(6,v6),(7,v7),(8,v8),(9,v9),(11,v11),(12,v12),(13,v13),(14,v14),(15,v15),(32,v32),(33,v33),(34,v34),(42,v42),(57,v57)]
theorem su_a_0 (l rw:List HV) :RT polSl 39 (sub [0] B39) [(0,.imm .arg 1 l),(1,.imm .arg 1 rw)] [] .normal (env39 (.imm .arg 1 l) (.imm .arg 1 rw) (.imm .lit 1 []) (.i 0) Ud Ud Ud Ud Ud Ud Ud Ud Ud Ud Ud Ud Ud Ud) [] :=
  RunsTo.hin 0 60 [] fun kf hk=>⟨_,by kernel_rfl,.nil⟩
theorem su_b_0 (l rw:List HV)  {y6 y7 y8 y9 y11 y12 y13 y14 y15 y32 y33 y34 y42 y57:HV} {m0:Int} {m1:Int} {sz:Int} (g0:∀ kf,callN Tp polSl (kf+1) 55 [.imm .arg 1 l] []=some (.tuple [.agg [.i m0,.i m1,.i sz],.bool true],[])):RT polSl 39 (sub [1,0] B39) (env39 (.imm .arg 1 l) (.imm .arg 1 rw) (.imm .lit 1 []) (.i 0) y6 y7 y8 y9 y11 y12 y13 y14 y15 y32 y33 y34 y42 y57) [] .normal (env39 (.imm .arg 1 l) (.imm .arg 1 rw) (.imm .lit 1 []) (.i 0) (.ptr 0 0 0 1) (.bool true) y8 y9 y11 y12 y13 y14 y15 y32 y33 y34 y42 y57) [.arr 3 [.agg [.i m0,.i m1,.i sz]] true 0] :=
  RunsTo.hin 0 60 [⟨1,1,.tuple [.agg [.i m0,.i m1,.i sz],.bool true],[]⟩] fun kf hk=>⟨_,by kernel_rfl,(oC (g0 kf) .nil)⟩
theorem su_b_1 (l rw:List HV)  {y6 y7 y8 y9 y11 y12 y13 y14 y15 y32 y33 y34 y42 y57:HV} {m0:Int} {m1:Int} {sz:Int} (g0:∀ kf,callN Tp polSl (kf+1) 55 [.imm .arg 1 l] []=some (.tuple [.agg [.i m0,.i m1,.i sz],.bool false],[])):RT polSl 39 (sub [1,0] B39) (env39 (.imm .arg 1 l) (.imm .arg 1 rw) (.imm .lit 1 []) (.i 0) y6 y7 y8 y9 y11 y12 y13 y14 y15 y32 y33 y34 y42 y57) [] .normal (env39 (.imm .arg 1 l) (.imm .arg 1 rw) (.imm .lit 1 []) (.i 0) (.ptr 0 0 0 1) (.bool false) y8 y9 y11 y12 y13 y14 y15 y32 y33 y34 y42 y57) [.arr 3 [.agg [.i m0,.i m1,.i sz]] true 0] :=
  RunsTo.hin 0 60 [⟨1,1,.tuple [.agg [.i m0,.i m1,.i sz],.bool false],[]⟩] fun kf hk=>⟨_,by kernel_rfl,(oC (g0 kf) .nil)⟩
theorem su_ct_0 (l rw:List HV) (m0 m1 sz:Int) {y8 y9 y11 y12 y13 y14 y15 y32 y33 y34 y42 y57:HV}:RT polSl 39 (sub [1,1,0] B39) (env39 (.imm .arg 1 l) (.imm .arg 1 rw) (.imm .lit 1 []) (.i 0) (.ptr 0 0 0 1) (.bool true) y8 y9 y11 y12 y13 y14 y15 y32 y33 y34 y42 y57) [.arr 3 [.agg [.i m0,.i m1,.i sz]] true 0] .normal (env39 (.imm .arg 1 l) (.imm .arg 1 rw) (.imm .lit 1 []) (.i 0) (.ptr 0 0 0 1) (.bool true) y8 y9 y11 y12 y13 y14 y15 y32 y33 y34 y42 y57) [.arr 3 [.agg [.i m0,.i m1,.i sz]] true 0] :=
  RunsTo.hin 0 60 [] fun kf hk=>⟨_,by kernel_rfl,.nil⟩
theorem su_cf_0 (l rw:List HV) (m0 m1 sz:Int) {y8 y9 y11 y12 y13 y14 y15 y32 y33 y34 y42 y57:HV}:RT polSl 39 (sub [1,1,0] B39) (env39 (.imm .arg 1 l) (.imm .arg 1 rw) (.imm .lit 1 []) (.i 0) (.ptr 0 0 0 1) (.bool false) y8 y9 y11 y12 y13 y14 y15 y32 y33 y34 y42 y57) [.arr 3 [.agg [.i m0,.i m1,.i sz]] true 0] .ret (env39 (.imm .arg 1 l) (.imm .arg 1 rw) (.imm .lit 1 []) (.i 2) (.ptr 0 0 0 1) (.bool false) y8 y9 y11 y12 y13 y14 y15 y32 y33 y34 y42 y57) [.arr 3 [.agg [.i m0,.i m1,.i sz]] true 0] :=
  RunsTo.hin 0 60 [] fun kf hk=>⟨_,by kernel_rfl,.nil⟩
theorem su_d_0 (l rw:List HV) (m0 m1 sz:Int) {y8 y9 y11 y12 y13 y14 y15 y32 y33 y34 y42 y57:HV} {q:Nat} {es:List HV} (g0:∀ kf,callN Tp polSl (kf+1) 56 [.agg [.i m0,.i m1,.i sz],.imm .arg 1 rw] [.arr 3 [.agg [.i m0,.i m1,.i sz]] true 0]=some (.tuple [.sl 1 0 q none q 2,.bool true],[.arr 3 [.agg [.i m0,.i m1,.i sz]] true 0,.arr 2 es true 0])):RT polSl 39 (sub [1,1,1,0] B39) (env39 (.imm .arg 1 l) (.imm .arg 1 rw) (.imm .lit 1 []) (.i 0) (.ptr 0 0 0 1) (.bool true) y8 y9 y11 y12 y13 y14 y15 y32 y33 y34 y42 y57) [.arr 3 [.agg [.i m0,.i m1,.i sz]] true 0] .normal (env39 (.imm .arg 1 l) (.imm .arg 1 rw) (.imm .lit 1 []) (.i 0) (.ptr 0 0 0 1) (.bool true) (.sl 1 0 q none q 2) y9 y11 y12 y13 y14 y15 y32 y33 y34 y42 y57) [.arr 3 [.agg [.i m0,.i m1,.i sz]] true 0,.arr 2 es true 0] :=
  RunsTo.hin 0 60 [⟨4,2,.tuple [.sl 1 0 q none q 2,.bool true],[.arr 3 [.agg [.i m0,.i m1,.i sz]] true 0,.arr 2 es true 0]⟩] fun kf hk=>⟨_,by kernel_rfl,(oC (g0 kf) .nil)⟩
theorem su_d_1 (l rw:List HV) (m0 m1 sz:Int) {y8 y9 y11 y12 y13 y14 y15 y32 y33 y34 y42 y57:HV} {q:Nat} {es:List HV} (g0:∀ kf,callN Tp polSl (kf+1) 56 [.agg [.i m0,.i m1,.i sz],.imm .arg 1 rw] [.arr 3 [.agg [.i m0,.i m1,.i sz]] true 0]=some (.tuple [.sl 1 0 q none q 2,.bool false],[.arr 3 [.agg [.i m0,.i m1,.i sz]] true 0,.arr 2 es true 0])):RT polSl 39 (sub [1,1,1,0] B39) (env39 (.imm .arg 1 l) (.imm .arg 1 rw) (.imm .lit 1 []) (.i 0) (.ptr 0 0 0 1) (.bool true) y8 y9 y11 y12 y13 y14 y15 y32 y33 y34 y42 y57) [.arr 3 [.agg [.i m0,.i m1,.i sz]] true 0] .normal (env39 (.imm .arg 1 l) (.imm .arg 1 rw) (.imm .lit 1 []) (.i 0) (.ptr 0 0 0 1) (.bool false) (.sl 1 0 q none q 2) y9 y11 y12 y13 y14 y15 y32 y33 y34 y42 y57) [.arr 3 [.agg [.i m0,.i m1,.i sz]] true 0,.arr 2 es true 0] :=
  RunsTo.hin 0 60 [⟨4,2,.tuple [.sl 1 0 q none q 2,.bool false],[.arr 3 [.agg [.i m0,.i m1,.i sz]] true 0,.arr 2 es true 0]⟩] fun kf hk=>⟨_,by kernel_rfl,(oC (g0 kf) .nil)⟩
theorem su_et_0 (l rw:List HV) (m0 m1 sz:Int) (q:Nat) (es:List HV) {y9 y11 y12 y13 y14 y15 y32 y33 y34 y42 y57:HV}:RT polSl 39 (sub [1,1,1,1,0] B39) (env39 (.imm .arg 1 l) (.imm .arg 1 rw) (.imm .lit 1 []) (.i 0) (.ptr 0 0 0 1) (.bool true) (.sl 1 0 q none q 2) y9 y11 y12 y13 y14 y15 y32 y33 y34 y42 y57) [.arr 3 [.agg [.i m0,.i m1,.i sz]] true 0,.arr 2 es true 0] .normal (env39 (.imm .arg 1 l) (.imm .arg 1 rw) (.imm .lit 1 []) (.i 0) (.ptr 0 0 0 1) (.bool true) (.sl 1 0 q none q 2) y9 y11 y12 y13 y14 y15 y32 y33 y34 y42 y57) [.arr 3 [.agg [.i m0,.i m1,.i sz]] true 0,.arr 2 es true 0] :=
  RunsTo.hin 0 60 [] fun kf hk=>⟨_,by kernel_rfl,.nil⟩
theorem su_ef_0 (l rw:List HV) (m0 m1 sz:Int) (q:Nat) (es:List HV) {y9 y11 y12 y13 y14 y15 y32 y33 y34 y42 y57:HV}:RT polSl 39 (sub [1,1,1,1,0] B39) (env39 (.imm .arg 1 l) (.imm .arg 1 rw) (.imm .lit 1 []) (.i 0) (.ptr 0 0 0 1) (.bool false) (.sl 1 0 q none q 2) y9 y11 y12 y13 y14 y15 y32 y33 y34 y42 y57) [.arr 3 [.agg [.i m0,.i m1,.i sz]] true 0,.arr 2 es true 0] .ret (env39 (.imm .arg 1 l) (.imm .arg 1 rw) (.imm .lit 1 []) (.i 2) (.ptr 0 0 0 1) (.bool false) (.sl 1 0 q none q 2) y9 y11 y12 y13 y14 y15 y32 y33 y34 y42 y57) [.arr 3 [.agg [.i m0,.i m1,.i sz]] true 0,.arr 2 es true 0] :=
  RunsTo.hin 0 60 [] fun kf hk=>⟨_,by kernel_rfl,.nil⟩
theorem su_f_0 (l rw:List HV)  (H:Heap) (q:Nat) {y7 y9 y11 y12 y13 y14 y15 y32 y33 y34 y42 y57:HV} {H0:Heap} (g0:some (HV.map H.length,H ++ [Blk.map [] [] 0])=some (.map 2,H0)):RT polSl 39 (sub [1,1,1,1,1,0] B39) (env39 (.imm .arg 1 l) (.imm .arg 1 rw) (.imm .lit 1 []) (.i 0) (.ptr 0 0 0 1) y7 (.sl 1 0 q none q 2) y9 y11 y12 y13 y14 y15 y32 y33 y34 y42 y57) H .normal (env39 (.imm .arg 1 l) (.imm .arg 1 rw) (.imm .lit 1 []) (.i 0) (.ptr 0 0 0 1) y7 (.sl 1 0 q none q 2) (.map 2) y11 y12 y13 y14 y15 y32 y33 y34 y42 y57) H0 :=
  RunsTo.hin 0 60 [⟨7,0,.map 2,H0⟩] fun kf hk=>⟨_,by kernel_rfl,(oC (g0) .nil)⟩
theorem su_g_0 (l rw:List HV)  (H:Heap) (q:Nat) (m9:HV) {y7 y11 y12 y13 y14 y15 y32 y33 y34 y42 y57:HV}:RT polSl 39 (sub [1,1,1,1,1,1,0,0] B39) (env39 (.imm .arg 1 l) (.imm .arg 1 rw) (.imm .lit 1 []) (.i 0) (.ptr 0 0 0 1) y7 (.sl 1 0 q none q 2) m9 y11 y12 y13 y14 y15 y32 y33 y34 y42 y57) H .normal (env39 (.imm .arg 1 l) (.imm .arg 1 rw) (.imm .lit 1 []) (.i 0) (.ptr 0 0 0 1) y7 (.sl 1 0 q none q 2) m9 y11 y12 y13 y14 y15 (.sl 1 0 q none q 2) (.i (q:Int)) (.i 0) y42 y57) H :=
  RunsTo.hin 0 60 [] fun kf hk=>⟨_,by kernel_rfl,.nil⟩
theorem su_h_0 (l rw:List HV)  (H:Heap) (m9:HV) (q i:Nat) {y7 y8 y11 y12 y13 y14 y15 y42 y57:HV}(g0:(i:Int) < (q:Int)):RunsTo Tp polSl 39 (sub [1,1,1,1,1,1,0,1,0,0,0] B39) (env39 (.imm .arg 1 l) (.imm .arg 1 rw) (.imm .lit 1 []) (.i 0) (.ptr 0 0 0 1) y7 y8 m9 y11 y12 y13 y14 y15 (.sl 1 0 q none q 2) (.i (q:Int)) (.i (i:Int)) y42 y57) H .normal [0,1,4,5,6,7,8,9,11,12,13,14,15,32,33,34,42,57,35] [(0,.imm .arg 1 l),(1,.imm .arg 1 rw),(4,.imm .lit 1 []),(5,.i 0),(6,.ptr 0 0 0 1),(7,y7),(8,y8),(9,m9),(11,y11),(12,y12),(13,y13),(14,y14),(15,y15),(32,.sl 1 0 q none q 2),(33,.i (q:Int)),(34,.i (i:Int)),(42,y42),(57,y57),(35,.bool true)] H :=
  RunsTo.hin 0 60 [⟨9,0,.bool true,H⟩] fun kf hk=>⟨_,by kernel_rfl,(oB H (decide_eq_true g0) .nil)⟩
theorem su_h_1 (l rw:List HV)  (H:Heap) (m9:HV) (q i:Nat) {y7 y8 y11 y12 y13 y14 y15 y42 y57:HV}(g0:¬ ((i:Int) < (q:Int))):RunsTo Tp polSl 39 (sub [1,1,1,1,1,1,0,1,0,0,0] B39) (env39 (.imm .arg 1 l) (.imm .arg 1 rw) (.imm .lit 1 []) (.i 0) (.ptr 0 0 0 1) y7 y8 m9 y11 y12 y13 y14 y15 (.sl 1 0 q none q 2) (.i (q:Int)) (.i (i:Int)) y42 y57) H .normal [0,1,4,5,6,7,8,9,11,12,13,14,15,32,33,34,42,57,35] [(0,.imm .arg 1 l),(1,.imm .arg 1 rw),(4,.imm .lit 1 []),(5,.i 0),(6,.ptr 0 0 0 1),(7,y7),(8,y8),(9,m9),(11,y11),(12,y12),(13,y13),(14,y14),(15,y15),(32,.sl 1 0 q none q 2),(33,.i (q:Int)),(34,.i (i:Int)),(42,y42),(57,y57),(35,.bool false)] H :=
  RunsTo.hin 0 60 [⟨9,0,.bool false,H⟩] fun kf hk=>⟨_,by kernel_rfl,(oB H (decide_eq_false g0) .nil)⟩
theorem su_ht_0 (l rw:List HV)  (H:Heap) (m9:HV) (q i:Nat) {y7 y8 y11 y12 y13 y14 y15 y42 y57:HV}:RT polSl 39 (sub [1,1,1,1,1,1,0,1,0,0,1,0] B39) [(0,.imm .arg 1 l),(1,.imm .arg 1 rw),(4,.imm .lit 1 []),(5,.i 0),(6,.ptr 0 0 0 1),(7,y7),(8,y8),(9,m9),(11,y11),(12,y12),(13,y13),(14,y14),(15,y15),(32,.sl 1 0 q none q 2),(33,.i (q:Int)),(34,.i (i:Int)),(42,y42),(57,y57),(35,.bool true)] H .normal (env39 (.imm .arg 1 l) (.imm .arg 1 rw) (.imm .lit 1 []) (.i 0) (.ptr 0 0 0 1) y7 y8 m9 y11 y12 y13 y14 y15 (.sl 1 0 q none q 2) (.i (q:Int)) (.i (i:Int)) y42 y57) H :=
  RunsTo.hin 0 60 [] fun kf hk=>⟨_,by kernel_rfl,.nil⟩
theorem su_hf_0 (l rw:List HV)  (H:Heap) (m9:HV) (q i:Nat) {y7 y8 y11 y12 y13 y14 y15 y42 y57:HV}:RT polSl 39 (sub [1,1,1,1,1,1,0,1,0,0,1,0] B39) [(0,.imm .arg 1 l),(1,.imm .arg 1 rw),(4,.imm .lit 1 []),(5,.i 0),(6,.ptr 0 0 0 1),(7,y7),(8,y8),(9,m9),(11,y11),(12,y12),(13,y13),(14,y14),(15,y15),(32,.sl 1 0 q none q 2),(33,.i (q:Int)),(34,.i (i:Int)),(42,y42),(57,y57),(35,.bool false)] H (.exit 0) (env39 (.imm .arg 1 l) (.imm .arg 1 rw) (.imm .lit 1 []) (.i 0) (.ptr 0 0 0 1) y7 y8 m9 y11 y12 y13 y14 y15 (.sl 1 0 q none q 2) (.i (q:Int)) (.i (i:Int)) y42 y57) H :=
  RunsTo.hin 0 60 [] fun kf hk=>⟨_,by kernel_rfl,.nil⟩
theorem su_i_0 (l rw:List HV) (m0 m1 sz:Int) (es:List HV) (x0 x1:Int) (m9:HV) (q i:Nat) {y7 y8 y11 y12 y13 y14 y15 y42 y57:HV}(g0:idxV Tp 67 (.sl 1 0 q none q 2) (.i (i:Int))=some (.ptr 1 i 0 q)) (g1:loadV Tp [.arr 3 [.agg [.i m0,.i m1,.i sz]] true 0,.arr 2 es true 0] 64 (.ptr 1 i 0 q)=some (.agg [.i x0,.i x1])):RT polSl 39 (sub [1,1,1,1,1,1,0,1,0,0,1,1,0,0,0] B39) (env39 (.imm .arg 1 l) (.imm .arg 1 rw) (.imm .lit 1 []) (.i 0) (.ptr 0 0 0 1) y7 y8 m9 y11 y12 y13 y14 y15 (.sl 1 0 q none q 2) (.i (q:Int)) (.i (i:Int)) y42 y57) [.arr 3 [.agg [.i m0,.i m1,.i sz]] true 0,.arr 2 es true 0] .normal (env39 (.imm .arg 1 l) (.imm .arg 1 rw) (.imm .lit 1 []) (.i 0) (.ptr 0 0 0 1) y7 y8 m9 (.ptr 2 0 0 1) y12 y13 y14 y15 (.sl 1 0 q none q 2) (.i (q:Int)) (.i (i:Int)) y42 y57) [.arr 3 [.agg [.i m0,.i m1,.i sz]] true 0,.arr 2 es true 0,.arr 2 [.agg [.i x0,.i x1]] true 0] :=
  RunsTo.hin 0 60 [⟨10,0,.ptr 1 i 0 q,[.arr 3 [.agg [.i m0,.i m1,.i sz]] true 0,.arr 2 es true 0]⟩,⟨10,1,.agg [.i x0,.i x1],[.arr 3 [.agg [.i m0,.i m1,.i sz]] true 0,.arr 2 es true 0]⟩] fun kf hk=>⟨_,by kernel_rfl,(oP [.arr 3 [.agg [.i m0,.i m1,.i sz]] true 0,.arr 2 es true 0] g0 (oP [.arr 3 [.agg [.i m0,.i m1,.i sz]] true 0,.arr 2 es true 0] g1 .nil))⟩
theorem su_j_0 (l rw:List HV)  (H:Heap) (x0 x1:Int) (m9:HV) (q i:Nat) {y7 y8 y12 y13 y14 y15 y42 y57:HV} {H0:Heap} {H1:Heap} (g0:some (HV.map H.length,H ++ [Blk.map [] [] 0])=some (.map 3,H0)) (g1:loadV Tp H0 64 (.ptr 2 0 0 1)=some (.agg [.i x0,.i x1])) (g2:updV Tp false 87 (.map 3) (.agg [.i x0,.i x1]) (.bool true) H0=some H1):RT polSl 39 (sub [1,1,1,1,1,1,0,1,0,0,1,1,0,0,1,0] B39) (env39 (.imm .arg 1 l) (.imm .arg 1 rw) (.imm .lit 1 []) (.i 0) (.ptr 0 0 0 1) y7 y8 m9 (.ptr 2 0 0 1) y12 y13 y14 y15 (.sl 1 0 q none q 2) (.i (q:Int)) (.i (i:Int)) y42 y57) H .normal (env39 (.imm .arg 1 l) (.imm .arg 1 rw) (.imm .lit 1 []) (.i 0) (.ptr 0 0 0 1) y7 y8 m9 (.ptr 2 0 0 1) (.map 3) y13 y14 y15 (.sl 1 0 q none q 2) (.i (q:Int)) (.i (i:Int)) y42 y57) H1 :=
  RunsTo.hin 0 60 [⟨11,0,.map 3,H0⟩,⟨11,1,.agg [.i x0,.i x1],H0⟩,⟨11,2,.tuple [],H1⟩] fun kf hk=>⟨_,by kernel_rfl,(oC (g0) (oP H0 g1 (oS g2 .nil)))⟩
theorem su_k_0 (l rw:List HV)  (H:Heap) (kb:Nat) (w0 w1:Int) (m9:HV) (q i:Nat) {y7 y8 y14 y15 y42 y57:HV} {H0:Heap} (g0:loadV Tp H 64 (.ptr kb 0 0 1)=some (.agg [.i w0,.i w1])) (g1:updV Tp false 87 (.map 3) (.agg [.i w0,.i w1]) (.bool true) H=some H0):RT polSl 39 (sub [1,1,1,1,1,1,0,1,0,0,1,1,0,0,1,1,0,1,0,0,1,1,0,1,0] B39) (env39 (.imm .arg 1 l) (.imm .arg 1 rw) (.imm .lit 1 []) (.i 0) (.ptr 0 0 0 1) y7 y8 m9 (.ptr 2 0 0 1) (.map 3) (.ptr kb 0 0 1) y14 y15 (.sl 1 0 q none q 2) (.i (q:Int)) (.i (i:Int)) y42 y57) H .normal (env39 (.imm .arg 1 l) (.imm .arg 1 rw) (.imm .lit 1 []) (.i 0) (.ptr 0 0 0 1) y7 y8 m9 (.ptr 2 0 0 1) (.map 3) (.ptr kb 0 0 1) y14 y15 (.sl 1 0 q none q 2) (.i (q:Int)) (.i (i:Int)) y42 y57) H0 :=
  RunsTo.hin 0 60 [⟨15,1,.agg [.i w0,.i w1],H⟩,⟨15,2,.tuple [],H0⟩] fun kf hk=>⟨_,by kernel_rfl,(oP H g0 (oS g1 .nil))⟩
theorem su_l_0 (l rw:List HV)  (H:Heap) (kb:Nat) (x0 x1 w0 w1 z0 z1 m0 m1 sz:Int) (m9:HV) (q i:Nat) {y7 y8 y14 y15 y42 y57:HV} {H0:Heap} (g0:loadV Tp H 66 (.ptr 0 0 0 1)=some (.agg [.i m0,.i m1,.i sz])) (g1:loadV Tp H 64 (.ptr 2 0 0 1)=some (.agg [.i x0,.i x1])) (g2:loadV Tp H 64 (.ptr kb 0 0 1)=some (.agg [.i w0,.i w1])) (g3:∀ kf,callN Tp polSl (kf+1) 59 [.agg [.i m0,.i m1,.i sz],.agg [.i x0,.i x1],.agg [.i w0,.i w1]] H=some (.agg [.i z0,.i z1],H)) (g4:updV Tp false 87 (.map 3) (.agg [.i z0,.i z1]) (.bool true) H=some H0):RT polSl 39 (sub [1,1,1,1,1,1,0,1,0,0,1,1,0,0,1,1,0,1,0,0,1,1,0,1,1] B39) (env39 (.imm .arg 1 l) (.imm .arg 1 rw) (.imm .lit 1 []) (.i 0) (.ptr 0 0 0 1) y7 y8 m9 (.ptr 2 0 0 1) (.map 3) (.ptr kb 0 0 1) y14 y15 (.sl 1 0 q none q 2) (.i (q:Int)) (.i (i:Int)) y42 y57) H .normal (env39 (.imm .arg 1 l) (.imm .arg 1 rw) (.imm .lit 1 []) (.i 0) (.ptr 0 0 0 1) y7 y8 m9 (.ptr 2 0 0 1) (.map 3) (.ptr kb 0 0 1) y14 y15 (.sl 1 0 q none q 2) (.i (q:Int)) (.i (i:Int)) y42 y57) H0 :=
  RunsTo.hin 0 60 [⟨16,1,.agg [.i m0,.i m1,.i sz],H⟩,⟨16,2,.agg [.i x0,.i x1],H⟩,⟨16,3,.agg [.i w0,.i w1],H⟩,⟨16,4,.agg [.i z0,.i z1],H⟩,⟨16,5,.tuple [],H0⟩] fun kf hk=>⟨_,by kernel_rfl,(oP H g0 (oP H g1 (oP H g2 (oC (g3 kf) (oS g4 .nil)))))⟩
theorem su_m_0 (l rw:List HV)  (H:Heap) (m9:HV) (q i:Nat) {y7 y8 y11 y13 y14 y15 y42 y57:HV}:RT polSl 39 (sub [1,1,1,1,1,1,0,1,0,0,1,1,0,0,1,1,1] B39) (env39 (.imm .arg 1 l) (.imm .arg 1 rw) (.imm .lit 1 []) (.i 0) (.ptr 0 0 0 1) y7 y8 m9 y11 (.map 3) y13 y14 y15 (.sl 1 0 q none q 2) (.i (q:Int)) (.i (i:Int)) y42 y57) H .normal (env39 (.imm .arg 1 l) (.imm .arg 1 rw) (.imm .lit 1 []) (.i 0) (.ptr 0 0 0 1) y7 y8 (.map 3) y11 (.map 3) y13 y14 y15 (.sl 1 0 q none q 2) (.i (q:Int)) (.i (i:Int)) y42 y57) H :=
  RunsTo.hin 0 60 [] fun kf hk=>⟨_,by kernel_rfl,.nil⟩
theorem su_n_0 (l rw:List HV)  (H:Heap) (m9:HV) (q i:Nat) {y7 y8 y11 y12 y13 y14 y15 y42 y57:HV}:RT polSl 39 (sub [1,1,1,1,1,1,0,1,0,0,1,1,1] B39) (env39 (.imm .arg 1 l) (.imm .arg 1 rw) (.imm .lit 1 []) (.i 0) (.ptr 0 0 0 1) y7 y8 m9 y11 y12 y13 y14 y15 (.sl 1 0 q none q 2) (.i (q:Int)) (.i (i:Int)) y42 y57) H .normal (env39 (.imm .arg 1 l) (.imm .arg 1 rw) (.imm .lit 1 []) (.i 0) (.ptr 0 0 0 1) y7 y8 m9 y11 y12 y13 y14 y15 (.sl 1 0 q none q 2) (.i (q:Int)) (.i (IntKind.i64.wrap ((i:Int)+1))) y42 y57) H :=
  RunsTo.hin 0 60 [] fun kf hk=>⟨_,by kernel_rfl,.nil⟩
theorem su_o_0 (l rw:List HV) (m0 m1 sz:Int) (es:List HV) (m9:HV) {y7 y8 y11 y12 y13 y14 y15 y32 y33 y34 y42 y57:HV}:RT polSl 39 (sub [1,1,1,1,1,1,1,0] B39) (env39 (.imm .arg 1 l) (.imm .arg 1 rw) (.imm .lit 1 []) (.i 0) (.ptr 0 0 0 1) y7 y8 m9 y11 y12 y13 y14 y15 y32 y33 y34 y42 y57) [.arr 3 [.agg [.i m0,.i m1,.i sz]] true 0,.arr 2 es true 0] .normal (env39 (.imm .arg 1 l) (.imm .arg 1 rw) (.imm .lit 1 []) (.i 0) (.ptr 0 0 0 1) y7 y8 m9 y11 y12 y13 (.sl 2 0 0 none 0 1) y15 y32 y33 y34 y42 y57) [.arr 3 [.agg [.i m0,.i m1,.i sz]] true 0,.arr 2 es true 0,.arr 1 [] true 0] :=
  RunsTo.hin 0 60 [] fun kf hk=>⟨_,by kernel_rfl,.nil⟩
theorem su_q_0 (l rw:List HV)  (H:Heap) (kb nb n z:Nat) (m0 m1 sz w0 w1:Int) (lo:List HV) {y7 y8 y9 y11 y12 y13 y32 y33 y34 y42 y57:HV} {H0:Heap} {H1:Heap} {H2:Heap} (g0:loadV Tp H 66 (.ptr 0 0 0 1)=some (.agg [.i m0,.i m1,.i sz])) (g1:loadV Tp H 64 (.ptr kb 0 0 1)=some (.agg [.i w0,.i w1])) (g2:∀ kf,callN Tp polSl (kf+1) 62 [.agg [.i m0,.i m1,.i sz],.agg [.i w0,.i w1]] H=some (.sl nb 0 z none z 1,H0)) (g3:litV Tp true false 35 1 [(0,.sl nb 0 z none z 1)] H0=some (.imm .lit 1 [.imm .own 1 lo],H1)) (g4:appV H1 1 24 (.sl 2 0 n none n 1) [.imm .own 1 lo]=some (.sl 2 0 (n+1) none (n+1) 1,H2)):RT polSl 39 (sub [1,1,1,1,1,1,1,1,0,1,0,0,1,1,0,1] B39) (env39 (.imm .arg 1 l) (.imm .arg 1 rw) (.imm .lit 1 []) (.i 0) (.ptr 0 0 0 1) y7 y8 y9 y11 y12 y13 (.sl 2 0 n none n 1) (.ptr kb 0 0 1) y32 y33 y34 y42 y57) H .normal (env39 (.imm .arg 1 l) (.imm .arg 1 rw) (.imm .lit 1 []) (.i 0) (.ptr 0 0 0 1) y7 y8 y9 y11 y12 y13 (.sl 2 0 (n+1) none (n+1) 1) (.ptr kb 0 0 1) y32 y33 y34 y42 y57) H2 :=
  RunsTo.hin 0 60 [⟨23,1,.agg [.i m0,.i m1,.i sz],H⟩,⟨23,2,.agg [.i w0,.i w1],H⟩,⟨23,3,.sl nb 0 z none z 1,H0⟩,⟨23,4,.imm .lit 1 [.imm .own 1 lo],H1⟩,⟨23,5,.sl 2 0 (n+1) none (n+1) 1,H2⟩] fun kf hk=>⟨_,by kernel_rfl,(oP H g0 (oP H g1 (oC (g2 kf) (oC (g3) (oC (g4) .nil)))))⟩
theorem su_z_0 (N:Nat) (n:Nat) (H:Heap) {y0 y1 y6 y7 y8 y9 y11 y12 y13 y15 y32 y33 y34 y42 y57:HV} {H0:Heap} (g0:∀ kf,N ≤ kf → callN Tp polSl (kf+1) 63 [.sl 2 0 n none n 1,.func 64 [] []] H=some (.tuple [],H0)):RT polSl 39 (sub [1,1,1,1,1,1,1,1,1] B39) (env39 y0 y1 (.imm .lit 1 []) (.i 0) y6 y7 y8 y9 y11 y12 y13 (.sl 2 0 n none n 1) y15 y32 y33 y34 y42 y57) H .ret (env39 y0 y1 (.sl 2 0 n none n 1) (.i 0) y6 y7 y8 y9 y11 y12 y13 (.sl 2 0 n none n 1) y15 y32 y33 y34 y42 y57) H0 :=
  RunsTo.hin N 60 [⟨24,1,.tuple [],H0⟩] fun kf hk=>⟨_,by kernel_rfl,(oC (g0 kf (by omega)) .nil)⟩
end Go.Proofs.Ytaibmipamkaljaa
end
section
open Go Go.HL
namespace Go.Proofs.Ytaibmipamkaljaa
open Go.Proofs.Try renaming prog → Tp
open Go.HL.HV renaming undef → Ud
def cellB (gl x:List Int) (j:Nat):Bool:=decide (0 ≤ x.getD j 0) && decide (x.getD j 0 < gl.getD j 0)
def elB (gl x:List Int):Bool:=decide (x.length=gl.length) && (List.range gl.length).all (cellB gl x)
def element38:List HV → Option HV:=llF fun gl x=>if gl.length ≤ 1000 then some (.bool (elB gl x)) else none
def listB (gl:List Int) (R:List (List Int)):Bool:=R.all (elB gl) && decide (R.length ≤ 60)
def lrF (f:List Int → List (List Int) → Option HV):List HV → Option HV
  | [.imm .arg 1 la,.imm .arg 1 rw]=>(match mapO decI la,mapO decR rw with | some l,some R=>f l R | _,_=>none)
  | _=>none
theorem lrF_inv {f:List Int → List (List Int) → Option HV} {args:List HV} {res:HV} (h:lrF f args=some res):∃ l R,args=[.imm .arg 1 (l.map encI),.imm .arg 1 (R.map encR)]∧f l R=some res:=by
  unfold lrF at h
  split at h
  · rename_i la rw_
    split at h
    · rename_i l R hl hR
      exact ⟨l,R,by rw [mapO_inv decI_inv hl,mapO_inv decR_inv hR],h⟩
    · cases h
  · cases h
def list36:List HV → Option HV:=lrF fun gl R=>if gl.length ≤ 1000∧R.length ≤ 1000 then some (.bool (listB gl R)) else none
def polRl:Pol:={ pol with prim:=fun g=>if g == 38 then some element38 else none }
theorem element38_at {pol':Pol} (hp:pol'.prim 38=some element38) {gl x:List Int} (hl:gl.length ≤ 1000) (H:Heap):∀ k,callN Tp pol' (k+1) 38 [.imm .arg 1 (gl.map encI),.imm .arg 1 (x.map encI)] H=some (.bool (elB gl x),H):=fun k=>by
  have h1:=arg_li H gl
  have h2:=arg_li H x
  have hd:mapO decI (gl.map encI)=some gl:=mapO_map decI_enc gl
  have hd2:mapO decI (x.map encI)=some x:=mapO_map decI_enc x
  rw [prim_call (pol:=pol') (g:=38) (F:=element38) hp (rs:=[.imm .arg 1 (gl.map encI),.imm .arg 1 (x.map encI)]) (by simp only [mapO,h1,h2]) (res:=.bool (elB gl x)) (by simp only [element38,llF,hd,hd2]; rw [if_pos hl])]
  rfl
end Go.Proofs.Ytaibmipamkaljaa
end
section
open Go Go.HL
namespace Go.Proofs.Ytaibmipamkaljaa
set_option maxRecDepth 100000
open Go.Proofs.Try renaming prog → Tp
open Go.HL.HV renaming undef → Ud
noncomputable def B38:Code:=Try.f38.body.getD .skip
abbrev env38 (v0 v1 v4 v5:HV):Env:=[(0,v0),(1,v1),(4,v4),(5,v5)]
theorem re_a_0 (gl xl:List HV) :RT pol 38 (sub [0] B38) [(0,.imm .arg 1 gl),(1,.imm .arg 1 xl)] [] .normal (env38 (.imm .arg 1 gl) (.imm .arg 1 xl) (.bool false) Ud) [] :=
  RunsTo.hin 0 60 [] fun kf hk=>⟨_,by kernel_rfl,.nil⟩
theorem re_b_0 (gl xl:List HV)  {y5:HV}(g0:(xl.length:Int)=(gl.length:Int)):RT pol 38 (sub [1,0] B38) (env38 (.imm .arg 1 gl) (.imm .arg 1 xl) (.bool false) y5) [] .normal (env38 (.imm .arg 1 gl) (.imm .arg 1 xl) (.bool false) y5) [] :=
  RunsTo.hin 0 60 [⟨1,4,.bool false,[]⟩] fun kf hk=>⟨_,by kernel_rfl,(oB [] (congrArg not (decide_eq_true g0)) .nil)⟩
theorem re_b_1 (gl xl:List HV)  {y5:HV}(g0:¬ ((xl.length:Int)=(gl.length:Int))):RT pol 38 (sub [1,0] B38) (env38 (.imm .arg 1 gl) (.imm .arg 1 xl) (.bool false) y5) [] .ret (env38 (.imm .arg 1 gl) (.imm .arg 1 xl) (.bool false) y5) [] :=
  RunsTo.hin 0 60 [⟨1,4,.bool true,[]⟩] fun kf hk=>⟨_,by kernel_rfl,(oB [] (congrArg not (decide_eq_false g0)) .nil)⟩
theorem re_c_0 (gl xl:List HV)  {y5:HV}:RT pol 38 (sub [1,1,0,0] B38) (env38 (.imm .arg 1 gl) (.imm .arg 1 xl) (.bool false) y5) [] .normal (env38 (.imm .arg 1 gl) (.imm .arg 1 xl) (.bool false) (.i 0)) [] :=
  RunsTo.hin 0 60 [] fun kf hk=>⟨_,by kernel_rfl,.nil⟩
theorem re_d_0 (gl xl:List HV) (j:Nat) {x0:Int} (g0:(j:Int) < (gl.length:Int)) (g1:idxV Tp 22 (.imm .arg 1 xl) (.i (j:Int))=some (.vptr (.i x0))) (g2:x0 < 0):RT pol 38 (sub [1,1,0,1,0,0] B38) (env38 (.imm .arg 1 gl) (.imm .arg 1 xl) (.bool false) (.i (j:Int))) [] .ret (env38 (.imm .arg 1 gl) (.imm .arg 1 xl) (.bool false) (.i (j:Int))) [] :=
  RunsTo.hin 0 60 [⟨4,3,.bool true,[]⟩,⟨6,2,.vptr (.i x0),[]⟩,⟨6,4,.bool true,[]⟩] fun kf hk=>⟨_,by kernel_rfl,(oB [] (decide_eq_true g0) (oP [] g1 (oB [] (decide_eq_true g2) .nil)))⟩
theorem re_d_1 (gl xl:List HV) (j:Nat) {x0:Int} {x1:Int} {x2:Int} (g0:(j:Int) < (gl.length:Int)) (g1:idxV Tp 22 (.imm .arg 1 xl) (.i (j:Int))=some (.vptr (.i x0))) (g2:¬ (x0 < 0)) (g3:idxV Tp 22 (.imm .arg 1 xl) (.i (j:Int))=some (.vptr (.i x1))) (g4:idxV Tp 22 (.imm .arg 1 gl) (.i (j:Int))=some (.vptr (.i x2))) (g5:x2 ≤ x1):RT pol 38 (sub [1,1,0,1,0,0] B38) (env38 (.imm .arg 1 gl) (.imm .arg 1 xl) (.bool false) (.i (j:Int))) [] .ret (env38 (.imm .arg 1 gl) (.imm .arg 1 xl) (.bool false) (.i (j:Int))) [] :=
  RunsTo.hin 0 60 [⟨4,3,.bool true,[]⟩,⟨6,2,.vptr (.i x0),[]⟩,⟨6,4,.bool false,[]⟩,⟨6,8,.vptr (.i x1),[]⟩,⟨6,12,.vptr (.i x2),[]⟩,⟨6,14,.bool true,[]⟩] fun kf hk=>⟨_,by kernel_rfl,(oB [] (decide_eq_true g0) (oP [] g1 (oB [] (decide_eq_false g2) (oP [] g3 (oP [] g4 (oB [] (decide_eq_true g5) .nil))))))⟩
theorem re_d_2 (gl xl:List HV) (j:Nat) {x0:Int} {x1:Int} {x2:Int} (g0:(j:Int) < (gl.length:Int)) (g1:idxV Tp 22 (.imm .arg 1 xl) (.i (j:Int))=some (.vptr (.i x0))) (g2:¬ (x0 < 0)) (g3:idxV Tp 22 (.imm .arg 1 xl) (.i (j:Int))=some (.vptr (.i x1))) (g4:idxV Tp 22 (.imm .arg 1 gl) (.i (j:Int))=some (.vptr (.i x2))) (g5:¬ (x2 ≤ x1)):RT pol 38 (sub [1,1,0,1,0,0] B38) (env38 (.imm .arg 1 gl) (.imm .arg 1 xl) (.bool false) (.i (j:Int))) [] .normal (env38 (.imm .arg 1 gl) (.imm .arg 1 xl) (.bool false) (.i (IntKind.i64.wrap ((j:Int)+1)))) [] :=
  RunsTo.hin 0 60 [⟨4,3,.bool true,[]⟩,⟨6,2,.vptr (.i x0),[]⟩,⟨6,4,.bool false,[]⟩,⟨6,8,.vptr (.i x1),[]⟩,⟨6,12,.vptr (.i x2),[]⟩,⟨6,14,.bool false,[]⟩] fun kf hk=>⟨_,by kernel_rfl,(oB [] (decide_eq_true g0) (oP [] g1 (oB [] (decide_eq_false g2) (oP [] g3 (oP [] g4 (oB [] (decide_eq_false g5) .nil))))))⟩
theorem re_d_3 (gl xl:List HV) (j:Nat)(g0:¬ ((j:Int) < (gl.length:Int))):RT pol 38 (sub [1,1,0,1,0,0] B38) (env38 (.imm .arg 1 gl) (.imm .arg 1 xl) (.bool false) (.i (j:Int))) [] (.exit 0) (env38 (.imm .arg 1 gl) (.imm .arg 1 xl) (.bool false) (.i (j:Int))) [] :=
  RunsTo.hin 0 60 [⟨4,3,.bool false,[]⟩] fun kf hk=>⟨_,by kernel_rfl,(oB [] (decide_eq_false g0) .nil)⟩
theorem re_e_0 (gl xl:List HV)  {y5:HV}:RT pol 38 (sub [1,1,1] B38) (env38 (.imm .arg 1 gl) (.imm .arg 1 xl) (.bool false) y5) [] .ret (env38 (.imm .arg 1 gl) (.imm .arg 1 xl) (.bool true) y5) [] :=
  RunsTo.hin 0 60 [] fun kf hk=>⟨_,by kernel_rfl,.nil⟩
noncomputable def B36:Code:=Try.f36.body.getD .skip
abbrev env36 (v0 v1 v4 v5:HV):Env:=[(0,v0),(1,v1),(4,v4),(5,v5)]
theorem rl_a_0 (gl rw:List HV) :RT polRl 36 (sub [0] B36) [(0,.imm .arg 1 gl),(1,.imm .arg 1 rw)] [] .normal (env36 (.imm .arg 1 gl) (.imm .arg 1 rw) (.bool false) Ud) [] :=
  RunsTo.hin 0 60 [] fun kf hk=>⟨_,by kernel_rfl,.nil⟩
theorem rl_b_0 (gl rw:List HV)  {y5:HV}:RT polRl 36 (sub [1,0,0] B36) (env36 (.imm .arg 1 gl) (.imm .arg 1 rw) (.bool false) y5) [] .normal (env36 (.imm .arg 1 gl) (.imm .arg 1 rw) (.bool false) (.i 0)) [] :=
  RunsTo.hin 0 60 [] fun kf hk=>⟨_,by kernel_rfl,.nil⟩
theorem rl_c_0 (gl rw:List HV) (j:Nat) {l0:List HV} (g0:(j:Int) < (rw.length:Int)) (g1:idxV Tp 35 (.imm .arg 1 rw) (.i (j:Int))=some (.vptr (.imm .arg 1 l0))) (g2:∀ kf,callN Tp polRl (kf+1) 38 [.imm .arg 1 gl,.imm .arg 1 l0] []=some (.bool true,[])):RT polRl 36 (sub [1,0,1,0,0] B36) (env36 (.imm .arg 1 gl) (.imm .arg 1 rw) (.bool false) (.i (j:Int))) [] .normal (env36 (.imm .arg 1 gl) (.imm .arg 1 rw) (.bool false) (.i (IntKind.i64.wrap ((j:Int)+1)))) [] :=
  RunsTo.hin 0 60 [⟨2,3,.bool true,[]⟩,⟨4,3,.vptr (.imm .arg 1 l0),[]⟩,⟨4,5,.bool true,[]⟩] fun kf hk=>⟨_,by kernel_rfl,(oB [] (decide_eq_true g0) (oP [] g1 (oC (g2 kf) .nil)))⟩
theorem rl_c_1 (gl rw:List HV) (j:Nat) {l0:List HV} (g0:(j:Int) < (rw.length:Int)) (g1:idxV Tp 35 (.imm .arg 1 rw) (.i (j:Int))=some (.vptr (.imm .arg 1 l0))) (g2:∀ kf,callN Tp polRl (kf+1) 38 [.imm .arg 1 gl,.imm .arg 1 l0] []=some (.bool false,[])):RT polRl 36 (sub [1,0,1,0,0] B36) (env36 (.imm .arg 1 gl) (.imm .arg 1 rw) (.bool false) (.i (j:Int))) [] .ret (env36 (.imm .arg 1 gl) (.imm .arg 1 rw) (.bool false) (.i (j:Int))) [] :=
  RunsTo.hin 0 60 [⟨2,3,.bool true,[]⟩,⟨4,3,.vptr (.imm .arg 1 l0),[]⟩,⟨4,5,.bool false,[]⟩] fun kf hk=>⟨_,by kernel_rfl,(oB [] (decide_eq_true g0) (oP [] g1 (oC (g2 kf) .nil)))⟩
theorem rl_c_2 (gl rw:List HV) (j:Nat)(g0:¬ ((j:Int) < (rw.length:Int))):RT polRl 36 (sub [1,0,1,0,0] B36) (env36 (.imm .arg 1 gl) (.imm .arg 1 rw) (.bool false) (.i (j:Int))) [] (.exit 0) (env36 (.imm .arg 1 gl) (.imm .arg 1 rw) (.bool false) (.i (j:Int))) [] :=
  RunsTo.hin 0 60 [⟨2,3,.bool false,[]⟩] fun kf hk=>⟨_,by kernel_rfl,(oB [] (decide_eq_false g0) .nil)⟩
theorem rl_d_0 (gl rw:List HV)  {y5:HV}(g0:(rw.length:Int) ≤ 60):RT polRl 36 (sub [1,1] B36) (env36 (.imm .arg 1 gl) (.imm .arg 1 rw) (.bool false) y5) [] .ret (env36 (.imm .arg 1 gl) (.imm .arg 1 rw) (.bool true) y5) [] :=
  RunsTo.hin 0 60 [⟨6,2,.bool true,[]⟩] fun kf hk=>⟨_,by kernel_rfl,(oB [] (decide_eq_true g0) .nil)⟩
theorem rl_d_1 (gl rw:List HV)  {y5:HV}(g0:¬ ((rw.length:Int) ≤ 60)):RT polRl 36 (sub [1,1] B36) (env36 (.imm .arg 1 gl) (.imm .arg 1 rw) (.bool false) y5) [] .ret (env36 (.imm .arg 1 gl) (.imm .arg 1 rw) (.bool false) y5) [] :=
  RunsTo.hin 0 60 [⟨6,2,.bool false,[]⟩] fun kf hk=>⟨_,by kernel_rfl,(oB [] (decide_eq_false g0) .nil)⟩
end Go.Proofs.Ytaibmipamkaljaa
end
section
open Go Go.HL
namespace Go.Proofs.Ytaibmipamkaljaa
open Go.Proofs.Try renaming prog → Tp
open Go.HL.HV renaming undef → Ud
theorem res38:Try.f38.results.toList=[.tmp 4]:=by kernel_rfl
abbrev reE (gl x:List Int) (j:Nat):Env:=(env38 (.imm .arg 1 (gl.map encI)) (.imm .arg 1 (x.map encI)) (.bool false) (.int .i64 (j:Int)))
theorem re_loop {gl x:List Int} (hl:gl.length ≤ 1000) (hx:x.length=gl.length):∀ k j,j+k=gl.length →
    ∃ y E,RT pol 38 (sub [1,1,0,1,0] B38) (reE gl x j) [] y E [] ∧
      (((∀ i,j ≤ i → i < gl.length → cellB gl x i=true)∧y=.exit 0∧E=reE gl x gl.length) ∨ ((∃ i,i < gl.length∧cellB gl x i=false)∧y=.ret∧E.get 4=.bool false)):=by
  intro k
  induction k with
  | zero =>
    intro j hj
    have:j=gl.length:=by omega
    subst this
    have s:=re_d_3 (gl.map encI) (x.map encI) gl.length (by rw [List.length_map]; omega)
    exact ⟨_,_,lpo (s) (c:=sub [1,1,0,1,0] B38),.inl ⟨fun i h1 h2=>by omega,rfl,rfl⟩⟩
  | succ k ih =>
    intro j hj
    have hlt:(j:Int) < ((gl.map encI).length:Int):=by rw [List.length_map]; omega
    have gx1:=gx (l:=x) (y:=j) (by omega)
    have gg1:=gx (l:=gl) (y:=j) (by omega)
    by_cases c:x.getD j 0 < 0
    · have s:=re_d_0 (gl.map encI) (x.map encI) j hlt gx1 c
      exact ⟨_,_,lpo (s) (c:=sub [1,1,0,1,0] B38),.inr ⟨⟨j,by omega,by simp only [cellB,decide_eq_false (show ¬ 0 ≤ x.getD j 0 by omega),Bool.false_and]⟩,rfl,rfl⟩⟩
    · by_cases d:gl.getD j 0 ≤ x.getD j 0
      · have s:=re_d_1 (gl.map encI) (x.map encI) j hlt gx1 c gx1 gg1 d
        exact ⟨_,_,lpo (s) (c:=sub [1,1,0,1,0] B38),.inr ⟨⟨j,by omega,by simp only [cellB,decide_eq_false (show ¬ x.getD j 0 < gl.getD j 0 by omega),Bool.and_false]⟩,rfl,rfl⟩⟩
      · have s:=re_d_2 (gl.map encI) (x.map encI) j hlt gx1 c gx1 gg1 d
        rw [wrap_succ (by omega)] at s
        obtain ⟨y,E,h1,h2⟩:=ih (j+1) (by omega)
        refine ⟨y,E,lop (s) (gc_eq _ rfl) (h1),?_⟩
        rcases h2 with ⟨k1,k2⟩ | k2
        · refine .inl ⟨fun i i1 i2=>?_,k2⟩
          by_cases e:i=j
          · subst e
            simp only [cellB,decide_eq_true (show 0 ≤ x.getD i 0 by omega),decide_eq_true (show x.getD i 0 < gl.getD i 0 by omega),Bool.and_self]
          · exact k1 i (by omega) i2
        · exact .inr k2
theorem element38_ok:PrimOk Tp 38 element38:=by
  refine primOk_pure (pol:=pol) (fn:=Try.f38) (cd:=B38) follows_mixed sound (by kernel_rfl) (by kernel_rfl) (fnok pol.prim _ _ (by kernel_rfl)) (by kernel_rfl) ?_
  intro args res h
  obtain ⟨gl,x,rfl,hq⟩:=llF_inv h
  clear h
  split at hq
  case isFalse=>cases hq
  rename_i hl
  cases hq
  have a:=re_a_0 (gl.map encI) (x.map encI)
  by_cases c:x.length=gl.length
  · have b:=re_b_0 (gl.map encI) (x.map encI) (y5:=Ud) (by simp only [List.length_map]; omega)
    have cc:=re_c_0 (gl.map encI) (x.map encI) (y5:=Ud)
    obtain ⟨y,E,lp,h2⟩:=re_loop hl c gl.length 0 (by omega)
    rcases h2 with ⟨k1,rfl,rfl⟩ | ⟨⟨i,i1,i2⟩,rfl,k2⟩
    · have z:=re_e_0 (gl.map encI) (x.map encI) (y5:=.int .i64 (gl.length:Int))
      have u:=sq (a) (sq (b) (sq (sq (cc) (bke (c:=sub [1,1,0,1] B38) (lp)) (c:=sub [1,1,0] B38)) (z) (c:=sub [1,1] B38)) (c:=sub [1] B38)) (c:=B38)
      refine ⟨_,_,_,.bool true,u,by simp,by simp only [resultsV,res38]; rfl,?_⟩
      have e:elB gl x=true:=by
        simp only [elB,decide_eq_true c,Bool.true_and,List.all_eq_true]
        exact fun i hi=>k1 i (by omega) (List.mem_range.1 hi)
      rw [e]; rfl
    · have u:=sq (a) (sq (b) (sqo (sq (cc) (RunsTo.block_ret (i:=0) (c:=sub [1,1,0,1] B38) (lp) (by kernel_rfl)) (c:=sub [1,1,0] B38)) (c:=sub [1,1] B38) (b:=sub [1,1,1] B38)) (c:=sub [1] B38)) (c:=B38)
      refine ⟨_,_,_,.bool false,u,by simp,by simp only [resultsV,res38,mapO,resultV,k2],?_⟩
      have e:elB gl x=false:=by
        have:(List.range gl.length).all (cellB gl x)=false:=by rw [List.all_eq_false]; exact ⟨i,List.mem_range.2 i1,by rw [i2]; simp⟩
        rw [elB,this,Bool.and_false]
      rw [e]; rfl
  · have b:=re_b_1 (gl.map encI) (x.map encI) (y5:=Ud) (by simp only [List.length_map]; omega)
    have u:=sq (a) (sqo (b) (c:=sub [1] B38) (b:=sub [1,1] B38)) (c:=B38)
    refine ⟨_,_,_,.bool false,u,by simp,by simp only [resultsV,res38]; rfl,?_⟩
    rw [elB,decide_eq_false c,Bool.false_and]; rfl
theorem soundRl (n:Nat):CallSound Tp (callN Tp polRl n):=sound_prim _ (fun g f h=>by
  split at h
  · rename_i hg; cases h; rw [eq_of_beq hg]; exact element38_ok
  · cases h) n
theorem res36:Try.f36.results.toList=[.tmp 4]:=by kernel_rfl
abbrev rlE (gl:List Int) (R:List (List Int)) (j:Nat):Env:=(env36 (.imm .arg 1 (gl.map encI)) (.imm .arg 1 (R.map encR)) (.bool false) (.int .i64 (j:Int)))
theorem rl_loop {gl:List Int} {R:List (List Int)} (hl:gl.length ≤ 1000) (hR:R.length ≤ 1000):∀ k j,j+k=R.length →
    ∃ y E,RT polRl 36 (sub [1,0,1,0] B36) (rlE gl R j) [] y E [] ∧
      (((R.drop j).all (elB gl)=true∧y=.exit 0∧E=rlE gl R R.length) ∨ ((R.drop j).all (elB gl)=false∧y=.ret∧E.get 4=.bool false)):=by
  intro k
  induction k with
  | zero =>
    intro j hj
    have:j=R.length:=by omega
    subst this
    have s:=rl_c_2 (gl.map encI) (R.map encR) R.length (by rw [List.length_map]; omega)
    exact ⟨_,_,lpo (s) (c:=sub [1,0,1,0] B36),.inl ⟨by rw [List.drop_length]; rfl,rfl,rfl⟩⟩
  | succ k ih =>
    intro j hj
    have hjl:j < R.length:=by omega
    have hd:R.drop j=R.getD j [] :: R.drop (j+1):=by
      rw [List.drop_eq_getElem_cons hjl]; simp [List.getD,List.getElem?_eq_getElem hjl]
    have hlt:(j:Int) < ((R.map encR).length:Int):=by rw [List.length_map]; omega
    have g1:=gr hjl
    have cl:=element38_at (pol':=polRl) (by kernel_rfl) (gl:=gl) (x:=R.getD j []) hl []
    rw [hd,List.all_cons]
    by_cases c:elB gl (R.getD j [])=true
    · rw [c] at cl
      have s:=rl_c_0 (gl.map encI) (R.map encR) j hlt g1 cl
      rw [wrap_succ (by omega)] at s
      obtain ⟨y,E,h1,h2⟩:=ih (j+1) (by omega)
      refine ⟨y,E,lop (s) (gc_eq _ rfl) (h1),?_⟩
      rw [c,Bool.true_and]; exact h2
    · rw [nb_false c] at cl
      have s:=rl_c_1 (gl.map encI) (R.map encR) j hlt g1 cl
      exact ⟨_,_,lpo (s) (c:=sub [1,0,1,0] B36),.inr ⟨by rw [nb_false c,Bool.false_and],rfl,rfl⟩⟩
theorem list36_ok:PrimOk Tp 36 list36:=by
  refine primOk_pure (pol:=polRl) (fn:=Try.f36) (cd:=B36) follows_mixed soundRl (by kernel_rfl) (by kernel_rfl) (fnok polRl.prim _ _ (by kernel_rfl)) (by kernel_rfl) ?_
  intro args res h
  obtain ⟨gl,R,rfl,hq⟩:=lrF_inv h
  clear h
  split at hq
  case isFalse=>cases hq
  rename_i hk
  cases hq
  have a:=rl_a_0 (gl.map encI) (R.map encR)
  have b:=rl_b_0 (gl.map encI) (R.map encR) (y5:=Ud)
  obtain ⟨y,E,lp,h2⟩:=rl_loop hk.1 hk.2 R.length 0 (by omega)
  rw [List.drop_zero] at h2
  rcases h2 with ⟨k1,rfl,rfl⟩ | ⟨k1,rfl,k2⟩
  · by_cases c:R.length ≤ 60
    · have z:=rl_d_0 (gl.map encI) (R.map encR) (y5:=.int .i64 (R.length:Int)) (by rw [List.length_map]; omega)
      have u:=sq (a) (sq (sq (b) (bke (c:=sub [1,0,1] B36) (lp)) (c:=sub [1,0] B36)) (z) (c:=sub [1] B36)) (c:=B36)
      refine ⟨_,_,_,.bool true,u,by simp,by simp only [resultsV,res36]; rfl,?_⟩
      rw [listB,k1,decide_eq_true c]; rfl
    · have z:=rl_d_1 (gl.map encI) (R.map encR) (y5:=.int .i64 (R.length:Int)) (by rw [List.length_map]; omega)
      have u:=sq (a) (sq (sq (b) (bke (c:=sub [1,0,1] B36) (lp)) (c:=sub [1,0] B36)) (z) (c:=sub [1] B36)) (c:=B36)
      refine ⟨_,_,_,.bool false,u,by simp,by simp only [resultsV,res36]; rfl,?_⟩
      rw [listB,k1,decide_eq_false c]; rfl
  · have u:=sq (a) (sqo (sq (b) (RunsTo.block_ret (i:=0) (c:=sub [1,0,1] B36) (lp) (by kernel_rfl)) (c:=sub [1,0] B36)) (c:=sub [1] B36) (b:=sub [1,1] B36)) (c:=B36)
    refine ⟨_,_,_,.bool false,u,by simp,by simp only [resultsV,res36,mapO,resultV,k2],?_⟩
    rw [listB,k1,Bool.false_and]; rfl
end Go.Proofs.Ytaibmipamkaljaa
end
section
open Go Go.HL
namespace Go.Proofs.Ytaibmipamkaljaa
def sizeT:List Int → Int | [a]=>a | [a,b]=>a * b | _=>0
def codeT:List Int → List Int → Int | [_],[x]=>x | [_,b],[x,y]=>x * b+y | _,_=>0
def decT:List Int → Int → List Int | [_],c=>[c] | [_,b],c=>[c / b,c % b] | _,_=>[]
def lessT:List Int → Int → List Int → List Int | [a],c,[x]=>[(c - x+a) % a] | [a,b],c,[x,y]=>[(c / b - x+a) % a,(c % b - y+b) % b] | _,_,_=>[]
theorem grp_cases {l:List Int} (h:(newGroupT l).2=true):(∃ a,l=[a]∧2 ≤ a∧a ≤ 24) ∨ (∃ a b,l=[a,b]∧2 ≤ a∧a ≤ 24∧2 ≤ b∧b ≤ 24∧a * b ≤ 144∧b % a=0):=by
  match l with
  | []=>simp [newGroupT] at h
  | [a] =>
    simp only [newGroupT] at h
    split at h
    · rename_i c; have:=of_decide_eq_true c; exact .inl ⟨a,rfl,this.1,this.2⟩
    · cases h
  | [a,b] =>
    simp only [newGroupT] at h
    split at h
    · rename_i c
      rw [Bool.and_eq_true] at c
      have h1:=of_decide_eq_true c.1
      have h2:=of_decide_eq_true c.2
      rw [Bool.and_eq_true] at h
      exact .inr ⟨a,b,rfl,h1.1,h1.2,h2.1,h2.2,of_decide_eq_true h.1,of_decide_eq_true h.2⟩
    · cases h
  | a :: b :: c :: l=>simp [newGroupT] at h
theorem el_one {a:Int} {x:List Int} (h:elB [a] x=true):∃ u,x=[u]∧0 ≤ u∧u < a:=by
  simp only [elB,Bool.and_eq_true,decide_eq_true_eq] at h
  match x,h with
  | [u],h =>
    have:=List.all_eq_true.1 h.2 0 (by simp)
    simp [cellB] at this
    exact ⟨u,rfl,this.1,this.2⟩
theorem el_two {a b:Int} {x:List Int} (h:elB [a,b] x=true):∃ u v,x=[u,v]∧(0 ≤ u∧u < a)∧0 ≤ v∧v < b:=by
  simp only [elB,Bool.and_eq_true,decide_eq_true_eq] at h
  match x,h with
  | [u,v],h =>
    have h0:=List.all_eq_true.1 h.2 0 (by simp)
    have h1:=List.all_eq_true.1 h.2 1 (by simp)
    simp [cellB] at h0 h1
    exact ⟨u,v,rfl,h0,h1⟩
end Go.Proofs.Ytaibmipamkaljaa
end
section
open Go Go.HL
namespace Go.Proofs.Ytaibmipamkaljaa
theorem cod_b {a b u v:Int} (h1:2 ≤ a) (h2:2 ≤ b) (h:a * b ≤ 144) (hu:0 ≤ u∧u < a) (hv:0 ≤ v∧v < b):0 ≤ u * b∧u * b+v < a * b∧u * b ≤ 144:=by
  have e1:0 ≤ u * b:=Int.mul_nonneg hu.1 (by omega)
  have e2:(u+1) * b ≤ a * b:=Int.mul_le_mul_of_nonneg_right (by omega) (by omega)
  rw [Int.add_mul,Int.one_mul] at e2
  omega
theorem el_mk1 {a u:Int} (h:0 ≤ u∧u < a):elB [a] [u]=true:=by simp [elB,cellB,h.1,h.2]
theorem el_mk2 {a b u v:Int} (h:0 ≤ u∧u < a) (k:0 ≤ v∧v < b):elB [a,b] [u,v]=true:=by simp [elB,cellB,h.1,h.2,k.1,k.2,List.range_succ]
end Go.Proofs.Ytaibmipamkaljaa
end
section
open Go Go.HL
namespace Go.Proofs.Ytaibmipamkaljaa
def lessC (gl:List Int) (c:Int) (x:List Int):Int:=codeT gl (lessT gl c x)
def fT (gl:List Int):List (List Int) → Int → Int
  | [],c=>if c=0 then 0 else 1099511627776
  | x :: R,c=>min (fT gl R c) (1+fT gl R (lessC gl c x))
theorem size_bnd {l:List Int} (h:(newGroupT l).2=true):0 < sizeT l∧sizeT l ≤ 144:=by
  rcases grp_cases h with ⟨a,rfl,h1,h2⟩ | ⟨a,b,rfl,h1,h2,h3,h4,h5,h6⟩
  · simp only [sizeT]; omega
  · have:=Int.mul_pos (show 0 < a by omega) (show 0 < b by omega)
    simp only [sizeT]; omega
theorem code_bnd {l x:List Int} (h:(newGroupT l).2=true) (hx:elB l x=true):0 ≤ codeT l x∧codeT l x < sizeT l:=by
  rcases grp_cases h with ⟨a,rfl,h1,h2⟩ | ⟨a,b,rfl,h1,h2,h3,h4,h5,h6⟩
  · obtain ⟨u,rfl,k1,k2⟩:=el_one hx
    exact ⟨k1,k2⟩
  · obtain ⟨u,v,rfl,k1,k2⟩:=el_two hx
    have:=cod_b h1 h3 h5 k1 k2
    simp only [codeT,sizeT]; omega
end Go.Proofs.Ytaibmipamkaljaa
end
section
open Go Go.HL
namespace Go.Proofs.Ytaibmipamkaljaa
def tE (gl:List Int) (c:Int):El:=match gl with | [_,b]=>(c / b,c % b) | _=>(c,0)
abbrev eE (gl x:List Int):El:=tE gl (codeT gl x)
abbrev els (gl:List Int) (R:List (List Int)):List El:=R.map (eE gl)
abbrev grG (gl:List Int):Gr:=(newGroupT gl).1
theorem in_B {a lo hi:Int} (h:lo ≤ a∧a ≤ hi):inB a lo hi=true:=decide_eq_true h
theorem new_one {a:Int} (h1:2 ≤ a) (h2:a ≤ 24):newGroupT [a]=((a,1,1),true):=by simp only [newGroupT]; rw [if_pos (in_B ⟨h1,h2⟩)]
theorem new_two {a b:Int} (h1:2 ≤ a) (h2:a ≤ 24) (h3:2 ≤ b) (h4:b ≤ 24) (h5:a * b ≤ 144) (h6:b % a=0):newGroupT [a,b]=((a,b,2),true):=by
  simp only [newGroupT]; rw [in_B ⟨h1,h2⟩,in_B ⟨h3,h4⟩,decide_eq_true h5,decide_eq_true h6]; rfl
theorem tE_two {b u v a:Int} (h:0 ≤ v∧v < b):tE [a,b] (u * b+v)=(u,v):=by
  show ((u * b+v) / b,(u * b+v) % b)=_
  rw [Int.add_comm,Int.add_mul_ediv_right _ _ (by omega),Int.add_mul_emod_self_right,Int.ediv_eq_zero_of_lt h.1 h.2,Int.emod_eq_of_lt h.1 h.2,Int.zero_add]
theorem el_E {gl x:List Int} (hg:(newGroupT gl).2=true) (hx:elB gl x=true):elementT (grG gl) x=(eE gl x,true):=by
  rcases grp_cases hg with ⟨a,rfl,h1,h2⟩ | ⟨a,b,rfl,h1,h2,h3,h4,h5,h6⟩
  · obtain ⟨u,rfl,k1,k2⟩:=el_one hx
    simp only [grG,new_one h1 h2,elementT]
    rw [if_pos ⟨trivial,in_B ⟨k1,by omega⟩⟩]; rfl
  · obtain ⟨u,v,rfl,k1,k2⟩:=el_two hx
    simp only [grG,new_two h1 h2 h3 h4 h5 h6,elementT,eE,codeT,tE_two k2]
    rw [if_pos ⟨trivial,in_B ⟨k1.1,by omega⟩⟩,if_pos (in_B ⟨k2.1,by omega⟩)]
theorem grG_ok {gl:List Int} (hg:(newGroupT gl).2=true):grOk (grG gl):=by
  rcases grp_cases hg with ⟨a,rfl,h1,h2⟩ | ⟨a,b,rfl,h1,h2,h3,h4,h5,h6⟩
  · simp only [grG,new_one h1 h2]; exact ⟨⟨by show 1 ≤ a; omega,by show a ≤ 1000; omega⟩,by show (1:Int) ≤ 1; omega,by show (1:Int) ≤ 1000; omega⟩
  · simp only [grG,new_two h1 h2 h3 h4 h5 h6]; exact ⟨⟨by show 1 ≤ a; omega,by show a ≤ 1000; omega⟩,by show 1 ≤ b; omega,by show b ≤ 1000; omega⟩
theorem tE_ok {gl:List Int} (hg:(newGroupT gl).2=true) {c:Int} (hc:0 ≤ c∧c < sizeT gl):elOk (grG gl) (tE gl c):=by
  rcases grp_cases hg with ⟨a,rfl,h1,h2⟩ | ⟨a,b,rfl,h1,h2,h3,h4,h5,h6⟩
  · simp only [grG,new_one h1 h2]; exact ⟨hc,Int.le_refl _,by show (0:Int) < 1; omega⟩
  · have c1:c < a * b:=hc.2
    simp only [grG,new_two h1 h2 h3 h4 h5 h6]
    exact ⟨⟨Int.ediv_nonneg hc.1 (by omega),Int.ediv_lt_of_lt_mul (by omega) c1⟩,Int.emod_nonneg _ (by omega),Int.emod_lt_of_pos _ (by omega)⟩
theorem eE_ok {gl x:List Int} (hg:(newGroupT gl).2=true) (hx:elB gl x=true):elOk (grG gl) (eE gl x):=tE_ok hg (code_bnd hg hx)
end Go.Proofs.Ytaibmipamkaljaa
end
section
open Go Go.HL
namespace Go.Proofs.Ytaibmipamkaljaa
theorem listB_iff {gl:List Int} {R:List (List Int)}:listB gl R=true ↔ (∀ x ∈ R,elB gl x=true)∧R.length ≤ 60:=by simp [listB,List.all_eq_true]
theorem elems_B {gl:List Int} (hg:(newGroupT gl).2=true) {R:List (List Int)} (h:listB gl R=true):elemsT (grG gl) R=some (els gl R):=by
  obtain ⟨h1,h2⟩:=listB_iff.1 h
  have e1:∀ x ∈ R,elementT (grG gl) x=(eE gl x,true):=fun x hx=>el_E hg (h1 x hx)
  unfold elemsT
  rw [if_pos ⟨h2,List.all_eq_true.2 fun x hx=>by rw [e1 x hx]⟩]
  congr 1
  exact List.map_congr_left fun x hx=>by rw [e1 x hx]
theorem grp_len {gl:List Int} (hg:(newGroupT gl).2=true):1 ≤ gl.length∧gl.length ≤ 2:=by
  rcases grp_cases hg with ⟨a,rfl,_⟩ | ⟨a,b,rfl,_⟩ <;> simp
end Go.Proofs.Ytaibmipamkaljaa
end
section
open Go Go.HL
namespace Go.Proofs.Ytaibmipamkaljaa
def rowF (gl:List Int) (R:List (List Int)):List Int:=(List.range (sizeT gl).toNat).map fun (c:Nat)=>fT gl R (c:Int)
def FJ (gl:List Int) (s:List (List Int)) (T:List Int) (c:Nat):Prop:=T.length=(sizeT gl).toNat∧∀ j,j < c → T.getD j 0=fT gl s (j:Int)
theorem FJ.put {gl:List Int} {s:List (List Int)} {T:List Int} {c:Nat} (h:FJ gl s T c) (hc:c < (sizeT gl).toNat):FJ gl s (T.set c (fT gl s (c:Int))) (c+1):=by
  refine ⟨by rw [List.length_set]; exact h.1,fun j hj=>?_⟩
  by_cases e:j=c
  · subst e
    simp [List.getD,List.getElem?_set,h.1,hc]
  · have:=h.2 j (by omega)
    simp only [List.getD,List.getElem?_set] at this ⊢
    rw [if_neg (fun h=>e h.symm)]; exact this
theorem FJ.row {gl:List Int} {s:List (List Int)} {T:List Int} (h:FJ gl s T (sizeT gl).toNat):T=rowF gl s:=by
  apply List.ext_getElem
  · rw [h.1]; simp [rowF]
  · intro j h1 h2
    have:=h.2 j (by have:=h.1; omega)
    simp only [rowF,List.getElem_map,List.getElem_range]
    rw [← this]; simp [List.getD,List.getElem?_eq_getElem h1]
end Go.Proofs.Ytaibmipamkaljaa
end
section
open Go Go.HL
namespace Go.Proofs.Ytaibmipamkaljaa
open Go.Proofs.Try renaming prog → Tp
open Go.HL.HV renaming undef → Ud
def sStep (g:Gr) (x:El) (F:List El):List El:=F.foldl (fun A y=>ins (addT g x y) (ins y A)) [x]
def sumS (g:Gr) (l:List El):List El:=l.foldl (fun F x=>sStep g x F) []
def encS (F:List El):HV:=.imap .own (F.map encX) (F.map fun _=>.bool true)
theorem sfold_mem {g:Gr} {x:El}:∀ (L A:List El) (w:El),w ∈ L.foldl (fun A y=>ins (addT g x y) (ins y A)) A ↔ w ∈ A ∨ ∃ u ∈ L,w=u ∨ w=addT g x u
  | [],A,w=>by simp
  | u :: L,A,w=>by
    rw [List.foldl_cons,sfold_mem L _ w,mem_ins,mem_ins]
    constructor
    · rintro ((h | h | h) | ⟨v,h1,h2⟩)
      · exact .inr ⟨u,by simp,.inr h⟩
      · exact .inr ⟨u,by simp,.inl h⟩
      · exact .inl h
      · exact .inr ⟨v,by simp [h1],h2⟩
    · rintro (h | ⟨v,h1,h2⟩)
      · exact .inl (.inr (.inr h))
      · rcases List.mem_cons.1 h1 with rfl | h1
        · rcases h2 with h2 | h2
          · exact .inl (.inr (.inl h2))
          · exact .inl (.inl h2)
        · exact .inr ⟨v,h1,h2⟩
theorem sfold_nodup {g:Gr} {x:El}:∀ (L A:List El),A.Nodup → (L.foldl (fun A y=>ins (addT g x y) (ins y A)) A).Nodup
  | [],A,h=>h
  | u :: L,A,h=>by
    rw [List.foldl_cons]
    exact sfold_nodup L _ (nodup_ins (nodup_ins h))
theorem mem_sStep {g:Gr} {x:El} {F:List El} {w:El}:w ∈ sStep g x F ↔ w=x ∨ ∃ u ∈ F,w=u ∨ w=addT g x u:=by
  unfold sStep
  rw [sfold_mem]
  simp
theorem nodup_sStep {g:Gr} {x:El} {F:List El}:(sStep g x F).Nodup:=sfold_nodup F [x] (by simp)
theorem sStep_perm {g:Gr} {x:El} {K L:List El} (h:∀ w,w ∈ L ↔ w ∈ K):(sStep g x L).Perm (sStep g x K):=by
  rw [List.perm_ext_iff_of_nodup nodup_sStep nodup_sStep]
  intro a
  rw [mem_sStep,mem_sStep]
  constructor
  · rintro (h1 | ⟨u,h1,h2⟩)
    · exact .inl h1
    · exact .inr ⟨u,(h u).1 h1,h2⟩
  · rintro (h1 | ⟨u,h1,h2⟩)
    · exact .inl h1
    · exact .inr ⟨u,(h u).2 h1,h2⟩
theorem sumS_app (g:Gr) (l:List El) (x:El):sumS g (l ++ [x])=sStep g x (sumS g l):=by simp [sumS]
theorem snocInd {α:Type} {P:List α → Prop} (h0:P []) (h1:∀ l x,P l → P (l ++ [x])):∀ l,P l:=by
  intro l
  rw [← List.reverse_reverse l]
  induction l.reverse with
  | nil=>exact h0
  | cons x m ih=>rw [List.reverse_cons]; exact h1 _ _ ih
theorem sumS_nodup (g:Gr) (l:List El):(sumS g l).Nodup:=by
  refine snocInd (P:=fun l=>(sumS g l).Nodup) (by simp [sumS]) (fun l x _=>?_) l
  show (sumS g (l ++ [x])).Nodup
  rw [sumS_app]; exact nodup_sStep
theorem sumS_ok {g:Gr} (hg:grOk g):∀ (l:List El),(∀ x ∈ l,elOk g x) → ∀ y ∈ sumS g l,elOk g y:=by
  refine snocInd (by simp [sumS]) (fun l x ih hl y hy=>?_)
  rw [sumS_app,mem_sStep] at hy
  have h1:=ih fun z hz=>hl z (by simp [hz])
  rcases hy with rfl | ⟨u,hu,rfl | rfl⟩
  · exact hl _ (by simp)
  · exact h1 _ hu
  · exact addT_ok hg
theorem bG_get {g:Gr} {T:Heap}:loadV Tp (bG g :: T) 66 (.ptr 0 0 0 1)=some (encG g):=load_agg (b:=0) rfl rfl rfl a66 z66
theorem ld64 {H:Heap} {b:Nat} {x:El} (h:H[b]?=some (.arr 2 [encX x] true 0)):loadV Tp H 64 (.ptr b 0 0 1)=some (encX x):=load_agg (b:=b) h rfl rfl a64 z64
section
variable {gl:List Int} {R:List (List Int)} {g:Gr} {l:List El}
abbrev suX (gl:List Int) (R:List (List Int)) (q i:Nat) (v9 v11 v12 v13 v42:HV):Env:=(env39 (.imm .arg 1 (gl.map encI)) (.imm .arg 1 (R.map encR)) (.imm .lit 1 []) (.int .i64 0) (.ptr 0 0 0 1) Ud Ud v9 v11 v12 v13 Ud Ud (.sl 1 0 q none q 2) (.int .i64 (q:Int)) (.int .i64 (i:Int)) v42 Ud)
def ksS:List Nat:=[0,1,4,5,6,11,12,32,33,34,42]
abbrev suI (gl:List Int) (R:List (List Int)) (q i:Nat) (v42:HV):Env:=[(0,.imm .arg 1 (gl.map encI)),(1,.imm .arg 1 (R.map encR)),(4,.imm .lit 1 []),(5,.int .i64 0),(6,.ptr 0 0 0 1),(11,.ptr 2 0 0 1),(12,.map 3),(32,.sl 1 0 q none q 2),(33,.int .i64 (q:Int)),(34,.int .i64 (i:Int)),(42,v42)]
noncomputable def D12:Code:=sub [1,1,1,1,1,1,0,1,0,0,1,1,0,0,1,1,0,0] B39
noncomputable def D13:Code:=sub [1,1,1,1,1,1,0,1,0,0,1,1,0,0,1,1,0,1,0,0,0] B39
noncomputable def D14:Code:=sub [1,1,1,1,1,1,0,1,0,0,1,1,0,0,1,1,0,1,0,0,1,1,0,0] B39
theorem st_box2 (H:Heap) (x:El):storeV Tp (H ++ [.arr 2 [.agg [.int .i64 0,.int .i64 0]] true 0]) 64 (.ptr H.length 0 0 1) (encX x)=some (H ++ [.arr 2 [encX x] true 0]):=by
  have:=store_agg (P:=Tp) (H:=H ++ [.arr 2 [.agg [.int .i64 0,.int .i64 0]] true 0]) (t:=64) (b:=H.length) (i:=0) (tot:=1) (k:=2) (mx:=0) (els:=[.agg [.int .i64 0,.int .i64 0]]) (cs:=[.int .i64 0,.int .i64 0]) (new:=[.int .i64 x.1,.int .i64 x.2])
    (by rw [List.getElem?_append_right (Nat.le_refl _),Nat.sub_self]; rfl) rfl rfl z64 rfl (by simp) rfl rfl
  rw [show encX x=.agg [.int .i64 x.1,.int .i64 x.2] from rfl,this]
  simp
theorem box_in14 (e:Env) (H:Heap) (x:El):evOps Tp polSl 39 14 (regOps D14) [] (callN Tp polSl 1) ((regOps D14).toList.drop 1) (e.put (some 45) (.tuple [encX x,.bool true])) H=some ([(13,.ptr H.length 0 0 1),(46,encX x),(45,.tuple [encX x,.bool true])] ++ e,H ++ [.arr 2 [encX x] true 0]) :=
  evOpsH_ok Tp polSl ((regOps D14).toList.drop 1) 1 _ _ [⟨14,3,.tuple [],H ++ [.arr 2 [encX x] true 0]⟩] (hs':=[])
    (ob:=[(storeV Tp (H ++ [.arr 2 [.agg [.int .i64 0,.int .i64 0]] true 0]) 64 (.ptr H.length 0 0 1) (encX x)).map (fun H=>(HV.tuple [],H))=some (.tuple [],H ++ [.arr 2 [encX x] true 0])]) (by kernel_rfl) (Obls.cons (hintSt (st_box2 H x)) Obls.nil)
theorem pre_in12 {H:Heap} {q i:Nat} (m9 v11 v12 v13 v42:HV) :
    evOps Tp polSl 39 12 (regOps D12) [] (callN Tp polSl 1) ((regOps D12).toList.take 1) (suX gl R q i m9 v11 v12 v13 v42) H=some ((41,m9) :: suX gl R q i m9 v11 v12 v13 v42,H) :=
  evOpsH_ok Tp polSl ((regOps D12).toList.take 1) 0 _ _ [] (hs':=[]) (ob:=[]) (by kernel_rfl) Obls.nil
abbrev bx1 (x:El):Blk:=.arr 2 [encX x] true 0
theorem su_round (hg:grOk g) {q i:Nat} {x y:El} (hx:elOk g x) (hy:elOk g y) {A:List El} {Bk:Blk} (m9 v42:HV) :
    RT polSl 39 (sub [1,1,1,1,1,1,0,1,0,0,1,1,0,0,1,1,0,1,0,0,1,1,0,1] B39) (suX gl R q i m9 (.ptr 2 0 0 1) (.map 3) (.ptr 5 0 0 1) v42) [bG g,bX l,bx1 x,mapK encX A,Bk,bx1 y] .normal (suX gl R q i m9 (.ptr 2 0 0 1) (.map 3) (.ptr 5 0 0 1) v42)
      [bG g,bX l,bx1 x,mapK encX (ins (addT g x y) (ins y A)),Bk,bx1 y]:=by
  have u1:=map_upd keyX (H:=[bG g,bX l,bx1 x,mapK encX A,Bk,bx1 y]) (b:=3) rfl y
  have u2:=map_upd keyX (H:=[bG g,bX l,bx1 x,mapK encX (ins y A),Bk,bx1 y]) (b:=3) rfl (addT g x y)
  have s1:=su_k_0 (gl.map encI) (R.map encR) [bG g,bX l,bx1 x,mapK encX A,Bk,bx1 y] 5 y.1 y.2 m9 q i (y7:=Ud) (y8:=Ud) (y14:=Ud) (y15:=Ud) (y42:=v42) (y57:=Ud) (ld64 rfl) u1
  have s2:=su_l_0 (gl.map encI) (R.map encR) [bG g,bX l,bx1 x,mapK encX (ins y A),Bk,bx1 y] 5 x.1 x.2 y.1 y.2 (addT g x y).1 (addT g x y).2 g.1 g.2.1 g.2.2 m9 q i (y7:=Ud) (y8:=Ud) (y14:=Ud) (y15:=Ud) (y42:=v42) (y57:=Ud) bG_get (ld64 rfl) (ld64 rfl) (add_at (pol':=polSl) (by kernel_rfl) hg hx hy _) u2
  exact sq s1 s2
end
end Go.Proofs.Ytaibmipamkaljaa
end
section
open Go Go.HL
namespace Go.Proofs.Ytaibmipamkaljaa
open Go.Proofs.Try renaming prog → Tp
open Go.HL.HV renaming undef → Ud
section
variable {gl:List Int} {R:List (List Int)} {g:Gr} {l:List El}
theorem bndSI (q i:Nat):bndE (suI gl R q i (.ptr 4 0 0 0)) ≤ 5:=by simp [suI,bndE,bnd,bndL]
theorem gc5 {x y:El} {A:List El} {B':Blk} (hB:B'.mx=0):gc 5 5 [bG g,bX l,bx1 x,mapK encX A,B',bx1 y]=[bG g,bX l,bx1 x,mapK encX A,B']:=by
  unfold gc
  have:mxs [bG g,bX l,bx1 x,mapK encX A,B',bx1 y]=0:=by
    show max 0 (max 0 (max 0 (max 0 (max B'.mx (max 0 0)))))=0
    rw [hB]; rfl
  rw [this]; rfl
theorem su_inner (hg:grOk g) {q i:Nat} {x:El} (hx:elOk g x) {F:List El} (hF:∀ y ∈ F,elOk g y) :
    Trip Tp Try.f39.ntmps (sub [1,1,1,1,1,1,0,1,0,0,1,1,0,0,1,1,0] B39) (suX gl R q i (encS F) (.ptr 2 0 0 1) (.map 3) Ud Ud) [bG g,bX l,bx1 x,mapK encX [x]]
      (fun X e H=>X=.normal∧∃ A Bk,A.Perm (sStep g x F)∧Bk.mx=0∧restr (polSl.keys 39) e=suX gl R q i Ud (.ptr 2 0 0 1) (.map 3) Ud (.ptr 4 0 0 0)∧H=[bG g,bX l,bx1 x,mapK encX A,Bk]):=by
  have hc:sub [1,1,1,1,1,1,0,1,0,0,1,1,0,0,1,1,0] B39=.seq (.region 12 (regOps D12) false) (.block 2 (.loop (.seq (.region 13 (regOps D13) false) (.seq (.cond (.tmp 44) .skip (.exit 2)) (.block 3 (.seq (.region 14 (regOps D14) false) (sub [1,1,1,1,1,1,0,1,0,0,1,1,0,0,1,1,0,1,0,0,1,1,0,1] B39))))))):=by kernel_rfl
  rw [hc]
  refine Trip.range (pol:=polSl) (f:=39) (k:=1) (it:=42) (tm:=41) (tn:=43) (tb:=44) (te:=45) (T:=87) (kt:=64) (et:=4) (oR:=opAt (regOps D12) 1) (oN:=opAt (regOps D13) 0) (oX:=opAt (regOps D13) 1) (oE:=opAt (regOps D14) 0) (pre:=(regOps D12).toList.take 1) (os:=(regOps D14).toList.drop 1)
    (g:=.own) (kl:=F.map encX) (vl:=F.map fun _=>.bool true) (asgA:=[]) (asg2:=[]) ksS
    (I:=fun S Bk e H=>e=suI gl R q i (.ptr 4 0 0 0)∧H=[bG g,bX l,bx1 x,mapK encX (sStep g x (S.map fun j=>F.getD j (0,0))),Bk]∧Bk.mx=0∧sameH [Bk] [Bk]=true)
    soundSl (by kernel_rfl) (by kernel_rfl) (by kernel_rfl) (by kernel_rfl) (by kernel_rfl) (by kernel_rfl) (by kernel_rfl) (by kernel_rfl) (by kernel_rfl) (by kernel_rfl) (by kernel_rfl) (by kernel_rfl) (by kernel_rfl) (by kernel_rfl) (by kernel_rfl) (by kernel_rfl) (by decide)
    (by kernel_rfl) (by kernel_rfl) (by kernel_rfl) (pre_in12 (encS F) _ _ _ _) rfl ?_ ?_ ?_ ?_
  · intro Bk hB hS
    exact ⟨rfl,rfl,hB,hS⟩
  · rintro S Bk e H' ⟨rfl,rfl,_,_⟩
    exact ⟨rfl,rfl⟩
  · rintro S Bk e H' j kv vv ⟨rfl,rfl,hB,hS⟩ hj hjS hnd hkv hvv B' hB' hS'
    rw [List.length_map] at hj
    have hw:F[j]=F.getD j (0,0):=by simp [List.getD,List.getElem?_eq_getElem hj]
    have ekv:kv=encX (F.getD j (0,0)):=by
      rw [List.getElem?_map,List.getElem?_eq_getElem hj] at hkv
      rw [← hw]; exact (Option.some.inj hkv).symm
    have evv:vv=.bool true:=by
      rw [List.getElem?_map,List.getElem?_eq_getElem hj] at hvv
      exact (Option.some.inj hvv).symm
    subst ekv; subst evv
    have hKw:=hF _ (List.getElem_mem hj)
    rw [hw] at hKw
    generalize hww:F.getD j (0,0)=y at *
    refine ⟨_,_,box_in14 _ _ y,?_⟩
    have hround:=su_round (gl:=gl) (R:=R) (l:=l) hg (q:=q) (i:=i) hx hKw (A:=sStep g x (S.map fun j=>F.getD j (0,0))) (Bk:=B') Ud (.ptr 4 0 0 0)
    refine Trip.restrict (polSl.keys 39) ?_
    have hrun:=Trip.run (nt:=Try.f39.ntmps) follows_mixed soundSl (by kernel_rfl) hround
    refine Trip.mono hrun ?_
    rintro X e2 H2 ⟨rfl,rfl,rfl⟩
    refine ⟨rfl,ksS,5,bndSI (gl:=gl) (R:=R) q i,?_⟩
    refine ⟨rfl,?_,hB',hS'⟩
    show gc 5 5 [bG g,bX l,bx1 x,mapK encX _,B',bx1 y]=_
    rw [gc5 hB',List.map_append]
    simp only [List.map_cons,List.map_nil,hww,sStep,List.foldl_append,List.foldl_cons,List.foldl_nil]
  · rintro S Bk e H' ⟨rfl,rfl,hB,hS⟩ hall hlt hnd
    refine ⟨rfl,_,Bk,?_,hB,rfl,rfl⟩
    refine sStep_perm fun w=>?_
    constructor
    · intro hw
      obtain ⟨j,hj,rfl⟩:=List.mem_map.1 hw
      have c:j < F.length:=by simpa using hlt j hj
      have:F.getD j (0,0)=F[j]:=by simp [List.getD,List.getElem?_eq_getElem c]
      rw [this]; exact List.getElem_mem c
    · intro hw
      obtain ⟨j,hj,rfl⟩:=List.getElem_of_mem hw
      refine List.mem_map.2 ⟨j,hall j (by simpa using hj),by simp [List.getD,List.getElem?_eq_getElem hj]⟩
def ksO:List Nat:=[0,1,4,5,6,9,32,33,34]
abbrev suJ (gl:List Int) (R:List (List Int)) (q i:Nat) (v9:HV):Env:=[(0,.imm .arg 1 (gl.map encI)),(1,.imm .arg 1 (R.map encR)),(4,.imm .lit 1 []),(5,.int .i64 0),(6,.ptr 0 0 0 1),(9,v9),(32,.sl 1 0 q none q 2),(33,.int .i64 (q:Int)),(34,.int .i64 (i:Int))]
theorem zipX (X:List El):(X.map encX).zip (X.map fun _=>HV.bool true)=X.map fun w=>(encX w,HV.bool true):=by
  induction X with
  | nil=>rfl
  | cons x X ih=>simp [ih]
theorem conv_map {q i:Nat} {A F:List El} {x:El} {Bk:Blk} (hA:A.Perm F) (hB:Bk.mx=0) :
    Conv Tp 2 (suX gl R q i (.map 3) Ud (.map 3) Ud (.ptr 4 0 0 0)) [bG g,bX l,bx1 x,mapK encX A,Bk] (suJ gl R q i (encS F)) [bG g,bX l]:=by
  have e1:restr ksO (suX gl R q i (.map 3) Ud (.map 3) Ud (.ptr 4 0 0 0))=suJ gl R q i (.map 3):=rfl
  have c1:Conv Tp 2 (suX gl R q i (.map 3) Ud (.map 3) Ud (.ptr 4 0 0 0)) [bG g,bX l,bx1 x,mapK encX A,Bk] (suJ gl R q i (.map 3)) [bG g,bX l,bx1 x,mapK encX A,Bk]:=by
    rw [← e1]; exact Conv.restr ksO
  have e2:gc 2 4 [bG g,bX l,bx1 x,mapK encX A,Bk]=[bG g,bX l,bx1 x] ++ [.map (A.map encX) (A.map fun _=>.bool true) 0]:=by
    unfold gc
    have:mxs [bG g,bX l,bx1 x,mapK encX A,Bk]=0:=by
      show max 0 (max 0 (max 0 (max 0 (max Bk.mx 0))))=0
      rw [hB]; rfl
    rw [this]; rfl
  have c2:=Conv.gc (P:=Tp) (n:=2) (e:=suJ gl R q i (.map 3)) (H:=[bG g,bX l,bx1 x,mapK encX A,Bk]) 4 (by simp [suJ,bndE,bnd,bndL])
  rw [e2] at c2
  have hlen:A.length=F.length:=hA.length_eq
  have c3:=Conv.sealM (P:=Tp) (n:=2) (e:=suJ gl R q i (.map 3)) (H0:=[bG g,bX l,bx1 x]) (ks:=A.map encX) (vs:=A.map fun _=>.bool true) (mx:=0) (mb:=3) (ks':=F.map encX) (vs':=F.map fun _=>.bool true)
    rfl (by omega) (fun v hv=>by obtain ⟨_,_,rfl⟩:=List.mem_map.1 hv; rfl) (by rw [zipX,zipX]; exact (hA.symm).map _) (by simp [hlen]) (by simp [hlen])
    (fun p hp=>by
      simp only [suJ,List.mem_cons,List.not_mem_nil,or_false] at hp
      rcases hp with rfl | rfl | rfl | rfl | rfl | rfl | rfl | rfl | rfl
      · exact .inr (by simp [bnd])
      · exact .inr (by simp [bnd])
      · exact .inr (by simp [bnd])
      · exact .inr (by simp [bnd])
      · exact .inr (by simp [bnd])
      · exact .inl rfl
      · exact .inr (by simp [bnd])
      · exact .inr (by simp [bnd])
      · exact .inr (by simp [bnd]))
    (fun b y hy=>by
      match b,hy with
      | 0,hy=>cases hy; intro v hv; rw [List.mem_singleton] at hv; subst hv; exact .inr (by simp [encG,bnd,bndL])
      | 1,hy =>
        cases hy
        intro v hv
        obtain ⟨z,_,rfl⟩:=List.mem_map.1 hv
        exact .inr (by simp [encX,bnd,bndL])
      | 2,hy=>cases hy; intro v hv; rw [List.mem_singleton] at hv; subst hv; exact .inr (by simp [encX,bnd,bndL])
      | b+3,hy=>simp at hy)
  have e3:([bG g,bX l,bx1 x].map (sealB 3 (.imap .own (F.map encX) (F.map fun _=>.bool true))))=[bG g,bX l,bx1 x]:=by
    have hX:(l.map encX).map (sealV 3 (.imap .own (F.map encX) (F.map fun _=>.bool true)))=l.map encX:=by
      rw [List.map_map]; rfl
    have hb:bndL (l.map encX)=0:=encX_bnd l
    simp only [List.map_cons,List.map_nil,sealB,bX,hX,hb]
    rfl
  rw [e3] at c3
  have e4:sealE 3 (.imap .own (F.map encX) (F.map fun _=>.bool true)) (suJ gl R q i (.map 3))=suJ gl R q i (encS F):=rfl
  rw [e4] at c3
  have c5:=Conv.gc (P:=Tp) (n:=2) (e:=suJ gl R q i (encS F)) (H:=[bG g,bX l,bx1 x]) 2 (by simp [suJ,bndE,bnd,bndL,encS])
  have e5:gc 2 2 [bG g,bX l,bx1 x]=[bG g,bX l]:=rfl
  rw [e5] at c5
  exact ((c1.trans c2).trans c3).trans c5
theorem ix67s {q i:Nat} (hi:i < q):idxV Tp 67 (.sl 1 0 q none q 2) (.int .i64 (i:Int))=some (.ptr 1 i 0 q):=by
  have:=idx_sl (P:=Tp) (t:=67) (b:=1) (len:=q) (tot:=q) (cap:=none) (ik:=.i64) (n:=(i:Int)) u67 z64 (by omega) (by omega)
  rwa [Int.toNat_natCast] at this
theorem ld67 {q i:Nat} (hq:l.length=q) (hi:i < q) {T:Heap}:loadV Tp (bG g :: bX l :: T) 64 (.ptr 1 i 0 q)=some (encX (l.getD i (0,0))) :=
  load_agg (b:=1) (els:=l.map encX) (cs:=[.int .i64 (l.getD i (0,0)).1,.int .i64 (l.getD i (0,0)).2]) rfl (by simp [hq]) (by rw [List.getElem?_map,List.getElem?_eq_getElem (by omega)]; simp [List.getD,List.getElem?_eq_getElem (show i < l.length by omega),encX]) a64 z64
theorem su_body (hg:grOk g) (hl:∀ x ∈ l,elOk g x) {q i:Nat} (hq:l.length=q) (hi:i < q) (hq2:q ≤ 1000) {F:List El} (hF:∀ y ∈ F,elOk g y) :
    Trip Tp Try.f39.ntmps (sub [1,1,1,1,1,1,0,1,0,0] B39) (suJ gl R q i (encS F)) [bG g,bX l] (fun X e H=>X=.normal∧e=suJ gl R q (i+1) (encS (sStep g (l.getD i (0,0)) F))∧H=[bG g,bX l]):=by
  have hx:elOk g (l.getD i (0,0)):=hl _ (by rw [List.getD,List.getElem?_eq_getElem (show i < l.length by omega)]; exact List.getElem_mem _)
  refine Trip.conv (Q:=fun X e H=>X=.normal∧∃ A Bk,A.Perm (sStep g (l.getD i (0,0)) F)∧Bk.mx=0∧e=suX gl R q (i+1) (.map 3) Ud (.map 3) Ud (.ptr 4 0 0 0)∧H=[bG g,bX l,bx1 (l.getD i (0,0)),mapK encX A,Bk]) ?_ (by
    rintro X e' H' ⟨rfl,A,Bk,hA,hB,rfl,rfl⟩
    exact ⟨_,_,conv_map hA hB,rfl,rfl,rfl⟩)
  refine Trip.restrict (polSl.keys 39) ?_
  have s1:=su_h_0 (gl.map encI) (R.map encR) [bG g,bX l] (encS F) q i (y7:=Ud) (y8:=Ud) (y11:=Ud) (y12:=Ud) (y13:=Ud) (y14:=Ud) (y15:=Ud) (y42:=Ud) (y57:=Ud) (by omega)
  refine Trip.seqR (cd:=sub [1,1,1,1,1,1,0,1,0,0] B39) (ca:=sub [1,1,1,1,1,1,0,1,0,0,0] B39) (cb:=sub [1,1,1,1,1,1,0,1,0,0,1] B39) s1 follows_mixed soundSl (by kernel_rfl) (by kernel_rfl) ?_
  have hc:sub [1,1,1,1,1,1,0,1,0,0,1] B39=.seq (sub [1,1,1,1,1,1,0,1,0,0,1,0] B39) (.seq (.block 1 (.seq (sub [1,1,1,1,1,1,0,1,0,0,1,1,0,0,0] B39) (.seq (sub [1,1,1,1,1,1,0,1,0,0,1,1,0,0,1,0] B39) (.seq (sub [1,1,1,1,1,1,0,1,0,0,1,1,0,0,1,1,0] B39) (sub [1,1,1,1,1,1,0,1,0,0,1,1,0,0,1,1,1] B39))))) (sub [1,1,1,1,1,1,0,1,0,0,1,1,1] B39)):=by kernel_rfl
  rw [hc]
  have s2:=su_ht_0 (gl.map encI) (R.map encR) [bG g,bX l] (encS F) q i (y7:=Ud) (y8:=Ud) (y11:=Ud) (y12:=Ud) (y13:=Ud) (y14:=Ud) (y15:=Ud) (y42:=Ud) (y57:=Ud)
  refine Trip.seqR s2 follows_mixed soundSl (by kernel_rfl) rfl ?_
  refine Trip.seq (Q1:=fun X e H=>X=.normal∧∃ A Bk,A.Perm (sStep g (l.getD i (0,0)) F)∧Bk.mx=0∧e=suX gl R q i (.map 3) (.ptr 2 0 0 1) (.map 3) Ud (.ptr 4 0 0 0)∧H=[bG g,bX l,bx1 (l.getD i (0,0)),mapK encX A,Bk]) ?_ ?_ (fun X e1 H1 hx q=>absurd q.1 hx)
  · refine Trip.block ?_
    have s3:=su_i_0 (gl.map encI) (R.map encR) g.1 g.2.1 g.2.2 (l.map encX) (l.getD i (0,0)).1 (l.getD i (0,0)).2 (encS F) q i (y7:=Ud) (y8:=Ud) (y11:=Ud) (y12:=Ud) (y13:=Ud) (y14:=Ud) (y15:=Ud) (y42:=Ud) (y57:=Ud) (ix67s hi) (ld67 hq hi)
    refine Trip.seqR s3 follows_mixed soundSl (by kernel_rfl) rfl ?_
    have up:=map_upd keyX (H:=[bG g,bX l,bx1 (l.getD i (0,0)),mapK encX []]) (b:=3) rfl (l.getD i (0,0))
    have s4:=su_j_0 (gl.map encI) (R.map encR) [bG g,bX l,bx1 (l.getD i (0,0))] (l.getD i (0,0)).1 (l.getD i (0,0)).2 (encS F) q i (y7:=Ud) (y8:=Ud) (y12:=Ud) (y13:=Ud) (y14:=Ud) (y15:=Ud) (y42:=Ud) (y57:=Ud) (H0:=[bG g,bX l,bx1 (l.getD i (0,0)),mapK encX []]) rfl (ld64 rfl) up
    refine Trip.seqR s4 follows_mixed soundSl (by kernel_rfl) rfl ?_
    refine Trip.seq (su_inner hg (q:=q) (i:=i) hx hF) ?_ ?_
    · rintro e1 H1 ⟨_,A,Bk,hA,hB,he,rfl⟩
      refine Trip.restrict (polSl.keys 39) ?_
      rw [he]
      have s5:=su_m_0 (gl.map encI) (R.map encR) [bG g,bX l,bx1 (l.getD i (0,0)),mapK encX A,Bk] Ud q i (y7:=Ud) (y8:=Ud) (y11:=.ptr 2 0 0 1) (y13:=Ud) (y14:=Ud) (y15:=Ud) (y42:=.ptr 4 0 0 0) (y57:=Ud)
      refine (Trip.run follows_mixed soundSl (by kernel_rfl) s5).mono ?_
      rintro X e H ⟨rfl,rfl,rfl⟩
      exact ⟨rfl,A,Bk,hA,hB,rfl,rfl⟩
    · rintro X e1 H1 hX ⟨h,_⟩
      exact absurd h hX
  · rintro e1 H1 ⟨_,A,Bk,hA,hB,rfl,rfl⟩
    have s6:=su_n_0 (gl.map encI) (R.map encR) [bG g,bX l,bx1 (l.getD i (0,0)),mapK encX A,Bk] (.map 3) q i (y7:=Ud) (y8:=Ud) (y11:=.ptr 2 0 0 1) (y12:=.map 3) (y13:=Ud) (y14:=Ud) (y15:=Ud) (y42:=.ptr 4 0 0 0) (y57:=Ud)
    rw [wrap_succ (by omega)] at s6
    refine Trip.mono (Trip.restrict [0,1,4,5,6,9,12,32,33,34,42] (Trip.restrict (polSl.keys 39) (Trip.run follows_mixed soundSl (by kernel_rfl) (su_n_0 (gl.map encI) (R.map encR) [bG g,bX l,bx1 (l.getD i (0,0)),mapK encX A,Bk] (.map 3) q i (y7:=Ud) (y8:=Ud) (y11:=Ud) (y12:=.map 3) (y13:=Ud) (y14:=Ud) (y15:=Ud) (y42:=.ptr 4 0 0 0) (y57:=Ud))))) ?_
    rintro X e H ⟨rfl,rfl,rfl⟩
    exact ⟨rfl,A,Bk,hA,hB,by rw [wrap_succ (by omega)],rfl⟩
end
end Go.Proofs.Ytaibmipamkaljaa
end
section
open Go Go.HL Go.HL.So
namespace Go.Proofs.Ytaibmipamkaljaa
open Go.Proofs.Try renaming prog → Tp
open Go.HL.HV renaming undef → Ud
theorem res39:Try.f39.results.toList=[.tmp 4,.tmp 5]:=by kernel_rfl
def sumsL (gl:List Int) (F:List El):List (List Int):=((List.range (sizeT gl).toNat).filter fun (c:Nat)=>decide (tE gl (c:Int) ∈ F)).map fun (c:Nat)=>decT gl (c:Int)
theorem strict_extR {α:Type} {lt:α → α → Prop} (asy:∀ x y,lt x y → ¬ lt y x):∀ {l m:List α},l.Pairwise lt → m.Pairwise lt → (∀ x,x ∈ l ↔ x ∈ m) → l=m
  | [],[],_,_,_=>rfl
  | [],y :: m,_,_,h=>absurd ((h y).2 (by simp)) (by simp)
  | x :: l,[],_,_,h=>absurd ((h x).1 (by simp)) (by simp)
  | x :: l,y :: m,hl,hm,h=>by
    obtain ⟨l1,l2⟩:=List.pairwise_cons.1 hl
    obtain ⟨m1,m2⟩:=List.pairwise_cons.1 hm
    have e:x=y:=by
      rcases List.mem_cons.1 ((h x).1 (by simp)) with e | e
      · exact e
      · have a1:=m1 x e
        rcases List.mem_cons.1 ((h y).2 (by simp)) with e2 | e2
        · exact e2.symm
        · exact absurd (l1 y e2) (asy _ _ a1)
    subst e
    rw [strict_extR asy l2 m2 fun z=>?_]
    constructor
    · intro hz
      rcases List.mem_cons.1 ((h z).1 (List.mem_cons_of_mem _ hz)) with e | e
      · subst e; exact absurd (l1 z hz) (asy _ _ (l1 z hz))
      · exact e
    · intro hz
      rcases List.mem_cons.1 ((h z).2 (List.mem_cons_of_mem _ hz)) with e | e
      · subst e; exact absurd (m1 z hz) (asy _ _ (m1 z hz))
      · exact e
theorem ltL_tot {s:Nat} (hs:s=1 ∨ s=2) {a b:List Int} (ha:a.length=s) (hb:b.length=s) (hn:a ≠ b) (h:¬ ltL b a):ltL a b:=by
  unfold ltL at *
  rcases hs with rfl | rfl
  · match a,b,ha,hb with
    | [x],[y],_,_ =>
      have:x ≠ y:=fun e=>hn (by rw [e])
      simp only [List.getD_cons_zero] at h ⊢
      omega
  · match a,b,ha,hb with
    | [x,x'],[y,y'],_,_ =>
      have e1:([x,x']:List Int).getD 1 0=x':=rfl
      have e2:([y,y']:List Int).getD 1 0=y':=rfl
      simp only [List.getD_cons_zero,e1,e2] at h ⊢
      have:¬ (x=y∧x'=y'):=fun e=>hn (by rw [e.1,e.2])
      omega
section
variable {gl:List Int} (hg:(newGroupT gl).2=true)
include hg
theorem grp_s:gl.length=1 ∨ gl.length=2:=by
  have:=grp_len hg; omega
theorem lst_tE {c:Int}:lstT (grG gl) (tE gl c)=decT gl c:=by
  rcases grp_cases hg with ⟨a,rfl,h1,h2⟩ | ⟨a,b,rfl,h1,h2,h3,h4,h5,h6⟩
  · simp only [grG,new_one h1 h2]; rfl
  · simp only [grG,new_two h1 h2 h3 h4 h5 h6]; rfl
theorem lst_len (y:El):(lstT (grG gl) y).length=gl.length:=by
  rcases grp_cases hg with ⟨a,rfl,h1,h2⟩ | ⟨a,b,rfl,h1,h2,h3,h4,h5,h6⟩
  · simp only [grG,new_one h1 h2]; rfl
  · simp only [grG,new_two h1 h2 h3 h4 h5 h6]; rfl
theorem el_code {y:El} (hy:elOk (grG gl) y):∃ c:Int,(0 ≤ c∧c < sizeT gl)∧tE gl c=y:=by
  rcases grp_cases hg with ⟨a,rfl,h1,h2⟩ | ⟨a,b,rfl,h1,h2,h3,h4,h5,h6⟩
  · simp only [grG,new_one h1 h2] at hy
    obtain ⟨⟨y1,y2⟩,y3,y4⟩:=hy
    simp only at y1 y2 y3 y4
    refine ⟨y.1,⟨y1,y2⟩,?_⟩
    show (y.1,(0:Int))=y
    exact Prod.ext rfl (by show (0:Int)=y.2; omega)
  · simp only [grG,new_two h1 h2 h3 h4 h5 h6] at hy
    obtain ⟨hy1,hy2⟩:=hy
    have cb:=cod_b h1 h3 h5 hy1 hy2
    refine ⟨y.1 * b+y.2,⟨by omega,cb.2.1⟩,tE_two hy2⟩
theorem lst_inj {x y:El} (hx:elOk (grG gl) x) (hy:elOk (grG gl) y) (h:lstT (grG gl) x=lstT (grG gl) y):x=y:=by
  rcases grp_cases hg with ⟨a,rfl,h1,h2⟩ | ⟨a,b,rfl,h1,h2,h3,h4,h5,h6⟩
  · simp only [grG,new_one h1 h2] at hx hy h
    obtain ⟨_,x3,x4⟩:=hx
    obtain ⟨_,y3,y4⟩:=hy
    simp only at x3 x4 y3 y4
    simp only [lstT,if_true,List.cons.injEq,and_true] at h
    exact Prod.ext h (by omega)
  · simp only [grG,new_two h1 h2 h3 h4 h5 h6] at h
    simp only [lstT,show ¬ (2:Int)=1 by omega,if_false,List.cons.injEq,and_true] at h
    exact Prod.ext h.1 h.2
theorem decT_lt {c d:Int} (h0:0 ≤ c) (h:c < d):ltL (decT gl c) (decT gl d):=by
  rcases grp_cases hg with ⟨a,rfl,h1,h2⟩ | ⟨a,b,rfl,h1,h2,h3,h4,h5,h6⟩
  · exact .inl h
  · have e1:=Int.mul_ediv_add_emod c b
    have e2:=Int.mul_ediv_add_emod d b
    have f1:=Int.emod_nonneg c (show b ≠ 0 by omega)
    have f2:=Int.emod_lt_of_pos c (show 0 < b by omega)
    have f3:=Int.emod_nonneg d (show b ≠ 0 by omega)
    have f4:=Int.emod_lt_of_pos d (show 0 < b by omega)
    have hle:c / b ≤ d / b:=Int.ediv_le_ediv (by omega) (by omega)
    show c / b < d / b ∨ (c / b=d / b∧c % b < d % b)
    by_cases e:c / b=d / b
    · refine .inr ⟨e,?_⟩
      rw [e] at e1; omega
    · exact .inl (by omega)
theorem sums_sorted {F:List El} (hF:∀ y ∈ F,elOk (grG gl) y) (hnd:F.Nodup) {l:List (List Int)} (hl:l.Perm (F.map (lstT (grG gl)))) (hs:Sorted ltL 0 l.length l):l=sumsL gl F:=by
  have hlen:∀ x ∈ l,x.length=gl.length:=fun x hx=>by
    obtain ⟨y,_,rfl⟩:=List.mem_map.1 (hl.mem_iff.1 hx)
    exact lst_len hg y
  have hnl:l.Nodup:=hl.nodup_iff.2 (by
    clear hl hs hlen
    induction F with
    | nil=>simp
    | cons y F ih =>
      obtain ⟨n1,n2⟩:=List.nodup_cons.1 hnd
      rw [List.map_cons,List.nodup_cons]
      refine ⟨fun h=>?_,ih (fun z hz=>hF z (by simp [hz])) n2⟩
      obtain ⟨z,hz,e⟩:=List.mem_map.1 h
      rw [lst_inj hg (hF z (by simp [hz])) (hF y (by simp)) e] at hz
      exact n1 hz)
  have e:∀ k,(hk:k < l.length) → at_ l k=l[k]:=fun k hk=>by simp [at_,List.getD,List.getElem?_eq_getElem hk]
  have h1:l.Pairwise ltL:=by
    rw [List.pairwise_iff_getElem]
    intro i j hi hj hij
    have:=hs i j (Nat.zero_le _) hij hj
    rw [e i hi,e j hj] at this
    exact ltL_tot (grp_s hg) (hlen _ (List.getElem_mem hi)) (hlen _ (List.getElem_mem hj)) (List.pairwise_iff_getElem.1 hnl i j hi hj hij) this
  have h2:(sumsL gl F).Pairwise ltL:=by
    rw [sumsL,List.pairwise_map]
    exact (List.Pairwise.filter _ List.pairwise_lt_range).imp fun {a b} h=>decT_lt hg (by omega) (by omega)
  refine strict_extR (fun x y h=>ltL_lin.asy x y h) h1 h2 fun x=>?_
  rw [hl.mem_iff]
  simp only [sumsL,List.mem_map,List.mem_filter,List.mem_range,decide_eq_true_eq]
  constructor
  · rintro ⟨y,hy,rfl⟩
    obtain ⟨c,⟨c0,c1⟩,rfl⟩:=el_code hg (hF y hy)
    exact ⟨c.toNat,⟨by omega,by rw [Int.toNat_of_nonneg c0]; exact hy⟩,by rw [Int.toNat_of_nonneg c0,lst_tE hg]⟩
  · rintro ⟨c,⟨_,h⟩,rfl⟩
    exact ⟨_,h,lst_tE hg⟩
end
def sumsT (gl:List Int) (R:List (List Int)):List (List Int) × Int :=
  if (newGroupT gl).2=true then (match elemsT (newGroupT gl).1 R with
    | some els=>(sumsL gl (sumS (newGroupT gl).1 els),0)
    | none=>([],2)) else ([],2)
def sums39:List HV → Option HV
  | [.imm .arg 1 la,.imm .arg 1 rw]=>(match mapO decI la,mapO decR rw with | some l,some R=>if R.length ≤ 1000 then some (.tuple [.own 1 ((sumsT l R).1.map encO),.int .i64 (sumsT l R).2]) else none | _,_=>none)
  | _=>none
theorem sums_inv {args:List HV} {res:HV} (h:sums39 args=some res):∃ (l:List Int) (R:List (List Int)),args=[.imm .arg 1 (l.map encI),.imm .arg 1 (R.map encR)]∧R.length ≤ 1000∧res=.tuple [.own 1 ((sumsT l R).1.map encO),.int .i64 (sumsT l R).2]:=by
  unfold sums39 at h
  split at h
  · split at h
    · rename_i l R hl hR
      split at h
      · rename_i hk
        cases h
        exact ⟨l,R,by rw [mapO_inv decI_inv hl,mapO_inv decR_inv hR],hk,rfl⟩
      · cases h
    · cases h
  · cases h
section
variable {gl:List Int} {R:List (List Int)} {g:Gr} {l:List El}
theorem nodup_lt:∀ (n:Nat) (S:List Nat),S.Nodup → (∀ q ∈ S,q < n) → S.length ≤ n
  | 0,[],_,_=>Nat.le_refl _
  | 0,q :: S,_,h=>absurd (h q (by simp)) (Nat.not_lt_zero _)
  | n+1,S,hn,h=>by
    have h1:=nodup_lt n (S.erase n) (hn.erase n) (fun q hq=>by
      have a:=h q (List.mem_of_mem_erase hq)
      have b:q ≠ n:=fun e=>by
        rw [e,hn.mem_erase_iff] at hq
        exact hq.1 rfl
      omega)
    rw [List.length_erase] at h1
    split at h1 <;> omega
noncomputable def D20:Code:=sub [1,1,1,1,1,1,1,1,0,0] B39
noncomputable def D21:Code:=sub [1,1,1,1,1,1,1,1,0,1,0,0,0] B39
noncomputable def D22:Code:=sub [1,1,1,1,1,1,1,1,0,1,0,0,1,1,0,0] B39
abbrev suY (gl:List Int) (R:List (List Int)) (n:Nat) (v9 v15 v32 v33 v34 v57:HV):Env:=(env39 (.imm .arg 1 (gl.map encI)) (.imm .arg 1 (R.map encR)) (.imm .lit 1 []) (.int .i64 0) (.ptr 0 0 0 1) Ud Ud v9 Ud Ud Ud (.sl 2 0 n none n 1) v15 v32 v33 v34 Ud v57)
def ksF:List Nat:=[0,1,4,5,6,14,57]
abbrev suF (gl:List Int) (R:List (List Int)) (n:Nat):Env:=[(0,.imm .arg 1 (gl.map encI)),(1,.imm .arg 1 (R.map encR)),(4,.imm .lit 1 []),(5,.int .i64 0),(6,.ptr 0 0 0 1),(14,.sl 2 0 n none n 1),(57,.ptr 3 0 0 0)]
theorem box_in22 (e:Env) (H:Heap) (x:El):evOps Tp polSl 39 22 (regOps D22) [] (callN Tp polSl 1) ((regOps D22).toList.drop 1) (e.put (some 60) (.tuple [encX x,.bool true])) H=some ([(15,.ptr H.length 0 0 1),(61,encX x),(60,.tuple [encX x,.bool true])] ++ e,H ++ [.arr 2 [encX x] true 0]) :=
  evOpsH_ok Tp polSl ((regOps D22).toList.drop 1) 1 _ _ [⟨22,3,.tuple [],H ++ [.arr 2 [encX x] true 0]⟩] (hs':=[])
    (ob:=[(storeV Tp (H ++ [.arr 2 [.agg [.int .i64 0,.int .i64 0]] true 0]) 64 (.ptr H.length 0 0 1) (encX x)).map (fun H=>(HV.tuple [],H))=some (.tuple [],H ++ [.arr 2 [encX x] true 0])]) (by kernel_rfl) (Obls.cons (hintSt (st_box2 H x)) Obls.nil)
theorem pre_in20 {H:Heap} {n:Nat} (m9 v32 v33 v34:HV) :
    evOps Tp polSl 39 20 (regOps D20) [] (callN Tp polSl 1) ((regOps D20).toList.take 1) (suY gl R n m9 Ud v32 v33 v34 Ud) H=some ((56,m9) :: suY gl R n m9 Ud v32 v33 v34 Ud,H) :=
  evOpsH_ok Tp polSl ((regOps D20).toList.take 1) 0 _ _ [] (hs':=[]) (ob:=[]) (by kernel_rfl) Obls.nil
theorem list62_at {pol':Pol} (hp:pol'.prim 62=some list62) {g:Gr} (hs:g.2.2=1 ∨ g.2.2=2) (y:El) (H:Heap):∀ k,callN Tp pol' (k+1) 62 [encG g,encX y] H=some (.sl H.length 0 (lstT g y).length none (lstT g y).length 1,H ++ [bI (lstT g y)]):=fun k=>by
  rw [prim_call (pol:=pol') (g:=62) (F:=list62) hp (rs:=[encG g,encX y]) rfl (res:=.own 1 ((lstT g y).map encI)) (by simp only [list62,decG_enc,decX_enc]; rw [if_pos hs]),recv_ints]
theorem su_add (hs:g.2.2=1 ∨ g.2.2=2) {out:List (List Int)} {y:El} {Bk:Blk} (ho:out.length ≤ 1000) :
    ∃ w,RT polSl 39 (sub [1,1,1,1,1,1,1,1,0,1,0,0,1,1,0,1] B39) ((env39 (.imm .arg 1 (gl.map encI)) (.imm .arg 1 (R.map encR)) (.imm .lit 1 []) (.int .i64 0) (.ptr 0 0 0 1) Ud Ud Ud Ud Ud Ud (.sl 2 0 out.length none out.length 1) (.ptr 4 0 0 1) Ud Ud Ud Ud (.ptr 3 0 0 0))) [bG g,bX l,bO out,Bk,bx1 y] .normal
      ((env39 (.imm .arg 1 (gl.map encI)) (.imm .arg 1 (R.map encR)) (.imm .lit 1 []) (.int .i64 0) (.ptr 0 0 0 1) Ud Ud Ud Ud Ud Ud (.sl 2 0 (out.length+1) none (out.length+1) 1) (.ptr 4 0 0 1) Ud Ud Ud Ud (.ptr 3 0 0 0))) [bG g,bX l,bO (out ++ [lstT g y]),Bk,bx1 y,.arr 1 ((lstT g y).map encI) w 0]:=by
  have cl:=list62_at (pol':=polSl) (by kernel_rfl) hs y [bG g,bX l,bO out,Bk,bx1 y]
  obtain ⟨w,lt⟩:=lit_seal' (P:=Tp) (H:=[bG g,bX l,bO out,Bk,bx1 y,bI (lstT g y)]) (t:=35) (e:=22) (k:=1) (b:=5) (p:=(lstT g y).length) (mx:=0) (bt:=24) (zv:=.imm .lit 0 []) (els:=(lstT g y).map encI) u35 (by kernel_rfl) (by kernel_rfl) (by kernel_rfl) rfl (by simp) (ints_res _)
  have ap:=app_O (H:=[bG g,bX l,bO out,Bk,bx1 y,.arr 1 ((lstT g y).map encI) w 0]) (b:=2) (R:=out) rfl ho (lstT g y)
  exact ⟨w,su_q_0 (gl.map encI) (R.map encR) [bG g,bX l,bO out,Bk,bx1 y] 4 5 out.length (lstT g y).length g.1 g.2.1 g.2.2 y.1 y.2 ((lstT g y).map encI) (y7:=Ud) (y8:=Ud) (y9:=Ud) (y11:=Ud) (y12:=Ud) (y13:=Ud) (y32:=Ud) (y33:=Ud) (y34:=Ud) (y42:=Ud) (y57:=.ptr 3 0 0 0) bG_get (ld64 rfl) cl lt ap⟩
theorem gc4f {out:List (List Int)} {y:El} {B':Blk} {els:List HV} {w:Bool} (hB:B'.mx=0):gc 4 4 [bG g,bX l,bO out,B',bx1 y,.arr 1 els w 0]=[bG g,bX l,bO out,B']:=by
  unfold gc
  have:mxs [bG g,bX l,bO out,B',bx1 y,.arr 1 els w 0]=0:=by
    show max 0 (max 0 (max 0 (max B'.mx (max 0 (max 0 0)))))=0
    rw [hB]; rfl
  rw [this]; rfl
theorem su_last (hs:g.2.2=1 ∨ g.2.2=2) {F:List El} (hF:F.length ≤ 900) (v32 v33 v34:HV) :
    Trip Tp Try.f39.ntmps (sub [1,1,1,1,1,1,1,1,0] B39) (suY gl R 0 (encS F) Ud v32 v33 v34 Ud) [bG g,bX l,bO []]
      (fun X e H=>X=.normal∧∃ O Bk,O.Perm (F.map (lstT g))∧Bk.mx=0∧restr (polSl.keys 39) e=suY gl R O.length Ud Ud Ud Ud Ud (.ptr 3 0 0 0)∧H=[bG g,bX l,bO O,Bk]):=by
  have hc:sub [1,1,1,1,1,1,1,1,0] B39=.seq (.region 20 (regOps D20) false) (.block 4 (.loop (.seq (.region 21 (regOps D21) false) (.seq (.cond (.tmp 59) .skip (.exit 4)) (.block 5 (.seq (.region 22 (regOps D22) false) (sub [1,1,1,1,1,1,1,1,0,1,0,0,1,1,0,1] B39))))))):=by kernel_rfl
  rw [hc]
  refine Trip.range (pol:=polSl) (f:=39) (k:=1) (it:=57) (tm:=56) (tn:=58) (tb:=59) (te:=60) (T:=87) (kt:=64) (et:=4) (oR:=opAt (regOps D20) 1) (oN:=opAt (regOps D21) 0) (oX:=opAt (regOps D21) 1) (oE:=opAt (regOps D22) 0) (pre:=(regOps D20).toList.take 1) (os:=(regOps D22).toList.drop 1)
    (g:=.own) (kl:=F.map encX) (vl:=F.map fun _=>.bool true) (asgA:=[]) (asg2:=[]) ksF
    (I:=fun S Bk e H=>e=suF gl R S.length∧H=[bG g,bX l,bO (S.map fun j=>lstT g (F.getD j (0,0))),Bk]∧Bk.mx=0∧∀ q ∈ S,q < F.length)
    soundSl (by kernel_rfl) (by kernel_rfl) (by kernel_rfl) (by kernel_rfl) (by kernel_rfl) (by kernel_rfl) (by kernel_rfl) (by kernel_rfl) (by kernel_rfl) (by kernel_rfl) (by kernel_rfl) (by kernel_rfl) (by kernel_rfl) (by kernel_rfl) (by kernel_rfl) (by kernel_rfl) (by decide)
    (by kernel_rfl) (by kernel_rfl) (by kernel_rfl) (pre_in20 (encS F) _ _ _) rfl ?_ ?_ ?_ ?_
  · intro Bk hB hS
    exact ⟨rfl,rfl,hB,by simp⟩
  · rintro S Bk e H' ⟨rfl,rfl,_,_⟩
    exact ⟨rfl,rfl⟩
  · rintro S Bk e H' j kv vv ⟨rfl,rfl,hB,hS⟩ hj hjS hnd hkv hvv B' hB' hS'
    rw [List.length_map] at hj
    have hw:F[j]=F.getD j (0,0):=by simp [List.getD,List.getElem?_eq_getElem hj]
    have ekv:kv=encX (F.getD j (0,0)):=by
      rw [List.getElem?_map,List.getElem?_eq_getElem hj] at hkv
      rw [← hw]; exact (Option.some.inj hkv).symm
    have evv:vv=.bool true:=by
      rw [List.getElem?_map,List.getElem?_eq_getElem hj] at hvv
      exact (Option.some.inj hvv).symm
    subst ekv; subst evv
    refine ⟨_,_,box_in22 _ _ (F.getD j (0,0)),?_⟩
    obtain ⟨w,hround⟩:=su_add (gl:=gl) (R:=R) (l:=l) (g:=g) hs (out:=S.map fun j=>lstT g (F.getD j (0,0))) (y:=F.getD j (0,0)) (Bk:=B') (by rw [List.length_map]; have:=nodup_lt F.length S hnd hS; omega)
    rw [List.length_map] at hround
    refine Trip.restrict (polSl.keys 39) ?_
    have hrun:=Trip.run (nt:=Try.f39.ntmps) follows_mixed soundSl (by kernel_rfl) hround
    refine Trip.mono hrun ?_
    rintro X e2 H2 ⟨rfl,rfl,rfl⟩
    refine ⟨rfl,ksF,4,by simp [ksF,HL.restr,bndE,bnd,bndL,Env.get],?_⟩
    refine ⟨by rw [List.length_append,List.length_singleton]; rfl,?_,hB',?_⟩
    · show gc 4 4 [bG g,bX l,bO _,B',bx1 _,.arr 1 _ w 0]=_
      rw [gc4f hB',List.map_append,List.map_cons,List.map_nil]
    · intro q hq
      rcases List.mem_append.1 hq with h | h
      · exact hS q h
      · rw [List.mem_singleton] at h; omega
  · rintro S Bk e H' ⟨rfl,rfl,hB,hS⟩ hall hlt hnd
    refine ⟨rfl,_,Bk,?_,hB,?_,rfl⟩
    · have hp:S.Perm (List.range F.length):=by
        rw [List.perm_ext_iff_of_nodup hnd List.nodup_range]
        intro j
        rw [List.mem_range]
        exact ⟨fun h=>by simpa using hlt j h,fun h=>hall j (by simpa using h)⟩
      have e1:(List.range F.length).map (fun j=>lstT g (F.getD j (0,0)))=F.map (lstT g):=by
        apply List.ext_getElem
        · simp
        · intro i h1 h2
          simp at h1
          simp [List.getD,List.getElem?_eq_getElem h1]
      rw [← e1]
      exact hp.map _
    · rw [List.length_map]; rfl
end
end Go.Proofs.Ytaibmipamkaljaa
end
section
open Go Go.HL Go.HL.So
namespace Go.Proofs.Ytaibmipamkaljaa
open Go.Proofs.Try renaming prog → Tp
open Go.HL.HV renaming undef → Ud
section
variable {gl:List Int} (hg:(newGroupT gl).2=true)
include hg
theorem code_dec {c:Int} (hc:0 ≤ c∧c < sizeT gl):codeT gl (decT gl c)=c∧elB gl (decT gl c)=true:=by
  rcases grp_cases hg with ⟨a,rfl,h1,h2⟩ | ⟨a,b,rfl,h1,h2,h3,h4,h5,h6⟩
  · exact ⟨rfl,el_mk1 hc⟩
  · have c1:c < a * b:=hc.2
    have e1:=Int.mul_ediv_add_emod c b
    refine ⟨?_,el_mk2 ⟨Int.ediv_nonneg hc.1 (by omega),Int.ediv_lt_of_lt_mul (by omega) c1⟩ ⟨Int.emod_nonneg _ (by omega),Int.emod_lt_of_pos _ (by omega)⟩⟩
    show c / b * b+c % b=c
    rw [Int.mul_comm]; exact e1
theorem lst_el {y:El} (hy:elOk (grG gl) y):elB gl (lstT (grG gl) y)=true∧eE gl (lstT (grG gl) y)=y:=by
  obtain ⟨c,hc,rfl⟩:=el_code hg hy
  obtain ⟨d1,d2⟩:=code_dec hg hc
  rw [lst_tE hg]
  exact ⟨d2,by rw [eE,d1]⟩
theorem els_few {F:List El} (hF:∀ y ∈ F,elOk (grG gl) y) (hn:F.Nodup):F.length ≤ 144:=by
  have hs:=size_bnd hg
  have key:∀ (F:List El),(∀ y ∈ F,elOk (grG gl) y) → F.Nodup → (F.map fun y=>(codeT gl (lstT (grG gl) y)).toNat).Nodup:=by
    intro F
    induction F with
    | nil=>intro _ _; simp
    | cons y F ih =>
      intro hF hn
      obtain ⟨n1,n2⟩:=List.nodup_cons.1 hn
      rw [List.map_cons,List.nodup_cons]
      refine ⟨fun h=>?_,ih (fun z hz=>hF z (by simp [hz])) n2⟩
      obtain ⟨z,hz,e⟩:=List.mem_map.1 h
      obtain ⟨a1,a2⟩:=lst_el hg (hF z (by simp [hz]))
      obtain ⟨b1,b2⟩:=lst_el hg (hF y (by simp))
      have c1:=code_bnd hg a1
      have c2:=code_bnd hg b1
      have e':codeT gl (lstT (grG gl) z)=codeT gl (lstT (grG gl) y):=by omega
      rw [eE,e'] at a2
      rw [eE] at b2
      rw [a2] at b2
      rw [b2] at hz
      exact n1 hz
  have h:=nodup_lt (sizeT gl).toNat _ (key F hF hn) (fun q hq=>by
    obtain ⟨y,hy,rfl⟩:=List.mem_map.1 hq
    have:=code_bnd hg (lst_el hg (hF y hy)).1
    omega)
  rw [List.length_map] at h
  omega
end
theorem toRes_rs1 {H:Heap} {b k:Nat} {R:List (List Int)} (hb:H[b]?=some (.arr 1 (R.map encO) true 0)) (hk:R.length=k) (x:Int):toRes H false (.tuple [.sl b 0 k none k 1,.int .i64 x])=some (.tuple [.own 1 (R.map encO),.int .i64 x]):=by
  have hr:=resCell_sl (H:=H) (no:=[b]) (b:=b) (k:=1) (m:=k) (cap:=none) (els:=R.map encO) hb (by simpa using hk) (mapO_self (fun r=>frz_O r) _)
  have ho:ownedAll H false (.tuple [.sl b 0 k none k 1,.int .i64 x])=[b]:=by simp [ownedAll,cellsOf,owned,hb]
  simp only [toRes,ho,List.nodup_cons,List.not_mem_nil,not_false_eq_true,List.nodup_nil,and_self,if_true,resVal,mapO,hr]
  rfl
theorem sums_ok:PrimOk Tp 39 sums39:=by
  refine primOk_trip (fn:=Try.f39) (cd:=B39) (deep:=false) (by kernel_rfl) (by kernel_rfl) ?_
  intro args res h
  obtain ⟨gl,R,rfl,hR,rfl⟩:=sums_inv h
  clear h
  have a:=su_a_0 (gl.map encI) (R.map encR)
  have h5:=newGroup_at (pol':=polSl) (by kernel_rfl) gl []
  cases c:(newGroupT gl).2 with
  | false =>
    rw [c] at h5
    have b:=su_b_1 (gl.map encI) (R.map encR) (y6:=Ud) (y7:=Ud) (y8:=Ud) (y9:=Ud) (y11:=Ud) (y12:=Ud) (y13:=Ud) (y14:=Ud) (y15:=Ud) (y32:=Ud) (y33:=Ud) (y34:=Ud) (y42:=Ud) (y57:=Ud) h5
    have s:=su_cf_0 (gl.map encI) (R.map encR) (newGroupT gl).1.1 (newGroupT gl).1.2.1 (newGroupT gl).1.2.2 (y8:=Ud) (y9:=Ud) (y11:=Ud) (y12:=Ud) (y13:=Ud) (y14:=Ud) (y15:=Ud) (y32:=Ud) (y33:=Ud) (y34:=Ud) (y42:=Ud) (y57:=Ud)
    have u:=sq (a) (sq (b) (sqo (s) (c:=sub [1,1] B39) (b:=sub [1,1,1] B39)) (c:=sub [1] B39)) (c:=B39)
    refine (Trip.run follows_mixed soundSl (by kernel_rfl) u).mono ?_
    rintro X e H ⟨rfl,rfl,rfl⟩
    exact ⟨by simp,.tuple [.imm .lit 1 [],.int .i64 2],by simp only [resultsV,res39]; rfl,by rw [sumsT,c]; rfl⟩
  | true =>
    obtain ⟨hgo,hr⟩:=newGroup_gr c
    rw [c] at h5
    have b:=su_b_0 (gl.map encI) (R.map encR) (y6:=Ud) (y7:=Ud) (y8:=Ud) (y9:=Ud) (y11:=Ud) (y12:=Ud) (y13:=Ud) (y14:=Ud) (y15:=Ud) (y32:=Ud) (y33:=Ud) (y34:=Ud) (y42:=Ud) (y57:=Ud) h5
    have ct:=su_ct_0 (gl.map encI) (R.map encR) (newGroupT gl).1.1 (newGroupT gl).1.2.1 (newGroupT gl).1.2.2 (y8:=Ud) (y9:=Ud) (y11:=Ud) (y12:=Ud) (y13:=Ud) (y14:=Ud) (y15:=Ud) (y32:=Ud) (y33:=Ud) (y34:=Ud) (y42:=Ud) (y57:=Ud)
    have h6:=elements_at (pol':=polSl) (by kernel_rfl) hgo hr hR [bGr (newGroupT gl).1]
    cases he:elemsT (newGroupT gl).1 R with
    | none =>
      rw [he] at h6
      have d:=su_d_1 (gl.map encI) (R.map encR) (newGroupT gl).1.1 (newGroupT gl).1.2.1 (newGroupT gl).1.2.2 (y8:=Ud) (y9:=Ud) (y11:=Ud) (y12:=Ud) (y13:=Ud) (y14:=Ud) (y15:=Ud) (y32:=Ud) (y33:=Ud) (y34:=Ud) (y42:=Ud) (y57:=Ud) h6
      have s:=su_ef_0 (gl.map encI) (R.map encR) (newGroupT gl).1.1 (newGroupT gl).1.2.1 (newGroupT gl).1.2.2 0 [] (y9:=Ud) (y11:=Ud) (y12:=Ud) (y13:=Ud) (y14:=Ud) (y15:=Ud) (y32:=Ud) (y33:=Ud) (y34:=Ud) (y42:=Ud) (y57:=Ud)
      have u:=sq (a) (sq (b) (sq (ct) (sq (d) (sqo (s) (c:=sub [1,1,1,1] B39) (b:=sub [1,1,1,1,1] B39)) (c:=sub [1,1,1] B39)) (c:=sub [1,1] B39)) (c:=sub [1] B39)) (c:=B39)
      refine (Trip.run follows_mixed soundSl (by kernel_rfl) u).mono ?_
      rintro X e H ⟨rfl,rfl,rfl⟩
      exact ⟨by simp,.tuple [.imm .lit 1 [],.int .i64 2],by simp only [resultsV,res39]; rfl,by rw [sumsT,c,if_pos rfl,he]; rfl⟩
    | some l =>
      rw [he] at h6
      obtain ⟨k1,k2,k3⟩:=elems_el hgo he
      rw [allEl_iff] at k1
      have d:=su_d_0 (gl.map encI) (R.map encR) (newGroupT gl).1.1 (newGroupT gl).1.2.1 (newGroupT gl).1.2.2 (y8:=Ud) (y9:=Ud) (y11:=Ud) (y12:=Ud) (y13:=Ud) (y14:=Ud) (y15:=Ud) (y32:=Ud) (y33:=Ud) (y34:=Ud) (y42:=Ud) (y57:=Ud) h6
      have et:=su_et_0 (gl.map encI) (R.map encR) (newGroupT gl).1.1 (newGroupT gl).1.2.1 (newGroupT gl).1.2.2 l.length (l.map encX) (y9:=Ud) (y11:=Ud) (y12:=Ud) (y13:=Ud) (y14:=Ud) (y15:=Ud) (y32:=Ud) (y33:=Ud) (y34:=Ud) (y42:=Ud) (y57:=Ud)
      have eG:grG gl=(newGroupT gl).1:=rfl
      have hFo:=sumS_ok hgo l k1
      have hFn:=sumS_nodup (newGroupT gl).1 l
      have hFl:=els_few c hFo hFn
      have hT:sumsT gl R=(sumsL gl (sumS (newGroupT gl).1 l),0):=by rw [sumsT,c,if_pos rfl,he]
      rw [hT]
      have f:=su_f_0 (gl.map encI) (R.map encR) [bG (newGroupT gl).1,bX l] l.length (y7:=.bool true) (y9:=Ud) (y11:=Ud) (y12:=Ud) (y13:=Ud) (y14:=Ud) (y15:=Ud) (y32:=Ud) (y33:=Ud) (y34:=Ud) (y42:=Ud) (y57:=Ud) (H0:=[bG (newGroupT gl).1,bX l,.map [] [] 0]) rfl
      refine Trip.seqR (cd:=B39) (ca:=sub [0] B39) (cb:=sub [1] B39) a follows_mixed soundSl (by kernel_rfl) (by kernel_rfl) ?_
      refine Trip.seqR (cd:=sub [1] B39) (ca:=sub [1,0] B39) (cb:=sub [1,1] B39) b follows_mixed soundSl (by kernel_rfl) (by kernel_rfl) ?_
      refine Trip.seqR (cd:=sub [1,1] B39) (ca:=sub [1,1,0] B39) (cb:=sub [1,1,1] B39) ct follows_mixed soundSl (by kernel_rfl) (by kernel_rfl) ?_
      refine Trip.seqR (cd:=sub [1,1,1] B39) (ca:=sub [1,1,1,0] B39) (cb:=sub [1,1,1,1] B39) d follows_mixed soundSl (by kernel_rfl) (by kernel_rfl) ?_
      refine Trip.seqR (cd:=sub [1,1,1,1] B39) (ca:=sub [1,1,1,1,0] B39) (cb:=sub [1,1,1,1,1] B39) et follows_mixed soundSl (by kernel_rfl) (by kernel_rfl) ?_
      have hc:sub [1,1,1,1,1] B39=.seq (sub [1,1,1,1,1,0] B39) (.seq (.seq (sub [1,1,1,1,1,1,0,0] B39) (.block 0 (.loop (sub [1,1,1,1,1,1,0,1,0,0] B39)))) (.seq (sub [1,1,1,1,1,1,1,0] B39) (.seq (sub [1,1,1,1,1,1,1,1,0] B39) (sub [1,1,1,1,1,1,1,1,1] B39)))):=by kernel_rfl
      rw [hc]
      generalize hgg:(newGroupT gl).1=g at *
      have hc2:Trip Tp Try.f39.ntmps (sub [1,1,1,1,1,0] B39) ((env39 (.imm .arg 1 (gl.map encI)) (.imm .arg 1 (R.map encR)) (.imm .lit 1 []) (.int .i64 0) (.ptr 0 0 0 1) (.bool true) (.sl 1 0 l.length none l.length 2) Ud Ud Ud Ud Ud Ud Ud Ud Ud Ud Ud)) [bG g,bX l] (fun x e H=>x=.normal∧e=(env39 (.imm .arg 1 (gl.map encI)) (.imm .arg 1 (R.map encR)) (.imm .lit 1 []) (.int .i64 0) (.ptr 0 0 0 1) (.bool true) (.sl 1 0 l.length none l.length 2) (encS []) Ud Ud Ud Ud Ud Ud Ud Ud Ud Ud)∧H=[bG g,bX l]):=by
        refine Trip.conv (Trip.run follows_mixed soundSl (by kernel_rfl) f) ?_
        rintro x e H ⟨rfl,rfl,rfl⟩
        refine ⟨_,_,Conv.sealM (P:=Tp) (n:=2) (H0:=[bG g,bX l]) (ks:=[]) (vs:=[]) (ks':=[]) (vs':=[]) (mx:=0) (mb:=2) rfl (Nat.le_refl _) (fun v hv=>by simp at hv) (.refl _) rfl rfl ?_ ?_,rfl,rfl,?_⟩
        · intro q hq
          simp only [List.mem_cons,List.not_mem_nil,or_false] at hq
          rcases hq with rfl | rfl | rfl | rfl | rfl | rfl | rfl | rfl | rfl | rfl | rfl | rfl | rfl | rfl | rfl | rfl | rfl | rfl <;> first | exact .inl rfl | exact .inr (by simp [bnd,bndL])
        · intro b x hx
          match b,hx with
          | 0,hx=>cases hx; intro v hv; rw [List.mem_singleton] at hv; subst hv; exact .inr (by simp [encG,bnd,bndL])
          | 1,hx =>
            cases hx
            intro v hv
            obtain ⟨z,_,rfl⟩:=List.mem_map.1 hv
            exact .inr (by simp [encX,bnd,bndL])
          | b+2,hx=>simp at hx
        · have hX:(l.map encX).map (sealV 2 (.imap .own [] []))=l.map encX:=by rw [List.map_map]; rfl
          have hb:bndL (l.map encX)=0:=encX_bnd l
          simp only [List.map_cons,List.map_nil,sealB,bX,hX,hb]
          rfl
      refine Trip.seq hc2 ?_ (fun x e1 H1 hx q=>absurd q.1 hx)
      rintro e1 H1 ⟨_,rfl,rfl⟩
      have gg:=su_g_0 (gl.map encI) (R.map encR) [bG g,bX l] l.length (encS []) (y7:=.bool true) (y11:=Ud) (y12:=Ud) (y13:=Ud) (y14:=Ud) (y15:=Ud) (y32:=Ud) (y33:=Ud) (y34:=Ud) (y42:=Ud) (y57:=Ud)
      refine Trip.seq (Q1:=fun x e H=>x=.normal∧restr ksO e=suJ gl R l.length l.length (encS (sumS g l))∧H=[bG g,bX l]) ?_ ?_ (fun x e1 H1 hx q=>absurd q.1 hx)
      · refine Trip.seqR gg follows_mixed soundSl (by kernel_rfl) rfl ?_
        refine Trip.block ?_
        refine Trip.restrict ksO ?_
        refine Trip.loop (I:=fun k e H=>k ≤ l.length∧e=suJ gl R l.length (l.length - k) (encS (sumS g (l.take (l.length - k))))∧H=[bG g,bX l]) ?_ (n:=l.length) ⟨Nat.le_refl _,by rw [Nat.sub_self]; rfl,rfl⟩
        rintro k e H ⟨hk,rfl,rfl⟩
        cases k with
        | zero =>
          rw [Nat.sub_zero]
          have s1:=su_h_1 (gl.map encI) (R.map encR) [bG g,bX l] (encS (sumS g (l.take l.length))) l.length l.length (y7:=Ud) (y8:=Ud) (y11:=Ud) (y12:=Ud) (y13:=Ud) (y14:=Ud) (y15:=Ud) (y42:=Ud) (y57:=Ud) (by omega)
          have s2:=su_hf_0 (gl.map encI) (R.map encR) [bG g,bX l] (encS (sumS g (l.take l.length))) l.length l.length (y7:=Ud) (y8:=Ud) (y11:=Ud) (y12:=Ud) (y13:=Ud) (y14:=Ud) (y15:=Ud) (y42:=Ud) (y57:=Ud)
          have hcb:sub [1,1,1,1,1,1,0,1,0,0] B39=.seq (sub [1,1,1,1,1,1,0,1,0,0,0] B39) (.seq (sub [1,1,1,1,1,1,0,1,0,0,1,0] B39) (sub [1,1,1,1,1,1,0,1,0,0,1,1] B39)):=by kernel_rfl
          rw [hcb]
          refine Trip.restrict (polSl.keys 39) ?_
          refine Trip.seqR s1 follows_mixed soundSl (by kernel_rfl) rfl ?_
          refine Trip.seq (Trip.run follows_mixed soundSl (by kernel_rfl) s2) (fun e1 H1 q=>absurd q.1 (by simp)) ?_
          rintro x e1 H1 _ ⟨rfl,rfl,rfl⟩
          exact ⟨rfl,by rw [List.take_length]; rfl,rfl⟩
        | succ p =>
          have hlt:l.length - (p+1) < l.length:=by omega
          have hF2:∀ y ∈ sumS g (l.take (l.length - (p+1))),elOk g y:=sumS_ok hgo _ fun x hx=>k1 x (List.mem_of_mem_take hx)
          have hb:=su_body (gl:=gl) (R:=R) hgo k1 (q:=l.length) (i:=l.length - (p+1)) rfl hlt (by omega) hF2
          refine hb.mono ?_
          rintro x e H ⟨rfl,rfl,rfl⟩
          refine ⟨p,ksO,2,by omega,by simp [suJ,ksO,HL.restr,bndE,bnd,bndL,Env.get,encS],⟨by omega,?_,?_⟩⟩
          · have e1:l.length - (p+1)+1=l.length - p:=by omega
            have e2:l.take (l.length - p)=l.take (l.length - (p+1)) ++ [l.getD (l.length - (p+1)) (0,0)]:=by
              rw [← e1,List.take_add_one]; simp [List.getD,List.getElem?_eq_getElem hlt]
            rw [e1,e2,sumS_app]; rfl
          · unfold gc
            exact List.take_of_length_le (by simp only [List.length_cons,List.length_nil]; omega)
      · rintro e1 H1 ⟨_,he1,rfl⟩
        refine Trip.restrict ksO ?_
        rw [he1]
        refine Trip.restrict (polSl.keys 39) ?_
        have o:=su_o_0 (gl.map encI) (R.map encR) g.1 g.2.1 g.2.2 (l.map encX) (encS (sumS g l)) (y7:=Ud) (y8:=Ud) (y11:=Ud) (y12:=Ud) (y13:=Ud) (y14:=Ud) (y15:=Ud) (y32:=.sl 1 0 l.length none l.length 2) (y33:=.int .i64 (l.length:Int)) (y34:=.int .i64 (l.length:Int)) (y42:=Ud) (y57:=Ud)
        refine Trip.seqR o follows_mixed soundSl (by kernel_rfl) rfl ?_
        refine Trip.seq (su_last (gl:=gl) (R:=R) (l:=l) (g:=g) hr (F:=sumS g l) (by omega) (.sl 1 0 l.length none l.length 2) (.int .i64 (l.length:Int)) (.int .i64 (l.length:Int))) ?_ ?_
        · rintro e2 H2 ⟨_,O,Bk,hO,hB,he2,rfl⟩
          refine Trip.restrict (polSl.keys 39) ?_
          rw [he2]
          have hOl:O.length ≤ 60000:=by rw [hO.length_eq,List.length_map]; omega
          obtain ⟨l',q1,q2,q3⟩:=sortL_ok (grp_s c) (H:=[bG g,bX l,bO O,Bk]) (db:=2) (cap:=none) (l:=O) hOl rfl rfl (by
            show max 0 (max 0 (max 0 (max Bk.mx 0))) ≤ 4
            rw [hB]; decide) (fun x hx=>by
              obtain ⟨y,_,rfl⟩:=List.mem_map.1 (hO.mem_iff.1 hx)
              have:=lst_len c y
              rw [show grG gl=g from hgg] at this
              exact this)
          obtain ⟨N,hN⟩:=q1.from
          have z:=su_z_0 N O.length [bG g,bX l,bO O,Bk] (y0:=.imm .arg 1 (gl.map encI)) (y1:=.imm .arg 1 (R.map encR)) (y6:=.ptr 0 0 0 1) (y7:=Ud) (y8:=Ud) (y9:=Ud) (y11:=Ud) (y12:=Ud) (y13:=Ud) (y15:=Ud) (y32:=Ud) (y33:=Ud) (y34:=Ud) (y42:=Ud) (y57:=.ptr 3 0 0 0) hN
          refine (Trip.run follows_mixed soundSl (by kernel_rfl) z).mono ?_
          rintro X e H ⟨rfl,rfl,rfl⟩
          have hl':l'=sumsL gl (sumS g l):=sums_sorted c (F:=sumS g l) (by rw [show grG gl=g from hgg]; exact hFo) hFn (q2.trans (by rw [show grG gl=g from hgg]; exact hO)) q3
          refine ⟨by simp,.tuple [.sl 2 0 O.length none O.length 1,.int .i64 0],by simp only [resultsV,res39]; rfl,?_⟩
          have:=toRes_rs1 (H:=[bG g,bX l,bO O,Bk].set 2 (.arr 1 (l'.map encO) true 0)) (b:=2) (k:=O.length) (R:=l') rfl q2.length_eq 0
          rw [this,hl']
        · rintro X e1 H1 hX ⟨h,_⟩
          exact absurd h hX
end Go.Proofs.Ytaibmipamkaljaa
end
section
namespace Go.Proofs.Ytaibmipamkaljaa
namespace Ol
abbrev V:=Int × Int × Int
def vadd (a b:V):V:=(a.1+b.1,a.2.1+b.2.1,a.2.2+b.2.2)
theorem vadd_rc (x a d:V):vadd (vadd x d) a=vadd (vadd x a) d:=by
  simp only [vadd]; refine Prod.ext (by show x.1+d.1+a.1=x.1+a.1+d.1; omega) (Prod.ext (by show x.2.1+d.2.1+a.2.1=x.2.1+a.2.1+d.2.1; omega) (by show x.2.2+d.2.2+a.2.2=x.2.2+a.2.2+d.2.2; omega))
theorem vadd_assoc (a b c:V):vadd (vadd a b) c=vadd a (vadd b c):=by
  simp only [vadd]; refine Prod.ext (by show a.1+b.1+c.1=a.1+(b.1+c.1); omega) (Prod.ext (by show a.2.1+b.2.1+c.2.1=a.2.1+(b.2.1+c.2.1); omega) (by show a.2.2+b.2.2+c.2.2=a.2.2+(b.2.2+c.2.2); omega))
theorem vadd_zero (a:V):vadd a (0,0,0)=a:=by simp [vadd]
theorem zero_vadd (a:V):vadd (0,0,0) a=a:=by simp [vadd]
def Dg:Nat → (V → Int) → Prop
  | 0,f=>∀ x,f x=0
  | k+1,f=>∀ h,Dg k (fun x=>f (vadd x h) - f x)
theorem Dg.congr {k:Nat} {f g:V → Int} (hf:Dg k f) (h:∀ x,f x=g x):Dg k g:=by
  have:f=g:=funext h
  exact this ▸ hf
theorem Dg.succ:∀ {k:Nat} {f:V → Int},Dg k f → Dg (k+1) f
  | 0,f,h=>fun d x=>by show f _ - f x=0; rw [h,h]; rfl
  | _+1,_,h=>fun d=>Dg.succ (h d)
theorem Dg.le {k m:Nat} {f:V → Int} (h:Dg k f) (hk:k ≤ m):Dg m f:=by
  induction hk with
  | refl=>exact h
  | step _ ih=>exact ih.succ
theorem Dg.add:∀ {k:Nat} {f g:V → Int},Dg k f → Dg k g → Dg k (fun x=>f x+g x)
  | 0,f,g,h1,h2=>fun x=>by show f x+g x=0; rw [h1,h2]; rfl
  | k+1,f,g,h1,h2=>fun d=>((h1 d).add (h2 d)).congr fun x=>by
    show f _ - f x+(g _ - g x)=f _+g _ - (f x+g x); omega
theorem Dg.shift:∀ {k:Nat} {f:V → Int} (a:V),Dg k f → Dg k (fun x=>f (vadd x a))
  | 0,f,a,h=>fun x=>h _
  | k+1,f,a,h=>fun d=>(Dg.shift a (h d)).congr fun x=>by
    show f (vadd (vadd x a) d) - f (vadd x a)=f (vadd (vadd x d) a) - f (vadd x a)
    rw [vadd_rc]
theorem Dg.mulA:∀ (n:Nat) {a b:Nat} {f g:V → Int},a+b ≤ n → Dg a f → Dg b g → Dg (a+b - 1) (fun x=>f x * g x)
  | n,0,b,f,g,_,h1,_=>Dg.le (k:=0) (fun x=>by show f x * g x=0; rw [h1 x,Int.zero_mul]) (Nat.zero_le _)
  | n,a+1,0,f,g,_,_,h2=>Dg.le (k:=0) (fun x=>by show f x * g x=0; rw [h2 x,Int.mul_zero]) (Nat.zero_le _)
  | 0,a+1,b+1,f,g,hn,_,_=>by omega
  | n+1,a+1,b+1,f,g,hn,h1,h2=>by
    rw [show a+1+(b+1) - 1=(a+b)+1 by omega]
    intro d
    have p:=Dg.mulA n (a:=a+1) (b:=b) (by omega) (h1.shift d) (h2 d)
    have q:=Dg.mulA n (a:=a) (b:=b+1) (by omega) (h1 d) h2
    rw [show a+1+b - 1=a+b by omega] at p
    rw [show a+(b+1) - 1=a+b by omega] at q
    exact (p.add q).congr fun x=>by
      show f (vadd x d) * (g (vadd x d) - g x)+(f (vadd x d) - f x) * g x=f (vadd x d) * g (vadd x d) - f x * g x
      rw [Int.mul_sub,Int.sub_mul]; omega
theorem Dg.mul {a b:Nat} {f g:V → Int} (h1:Dg a f) (h2:Dg b g):Dg (a+b - 1) (fun x=>f x * g x):=Dg.mulA _ (Nat.le_refl _) h1 h2
theorem Dg.const (c:Int):Dg 1 (fun _=>c):=fun d x=>by show c - c=0; omega
theorem Dg.co (f:V → Int) (h:∀ x d,f (vadd x d)=f x+f d):Dg 2 f:=fun d e x=>by
  show f (vadd (vadd x e) d) - f (vadd x e) - (f (vadd x d) - f x)=0
  rw [h,h,h]; omega
theorem Dg.pow {f:V → Int} (h:Dg 2 f):∀ n:Nat,Dg (n+1) (fun x=>f x ^ n)
  | 0=>(Dg.const 1).congr fun x=>(Int.pow_zero _).symm
  | n+1=>by
    have:=(Dg.pow h n).mul h
    rw [show n+1+2 - 1=n+1+1 by omega] at this
    exact this.congr fun x=>(Int.pow_succ _ _).symm
theorem Dg.neg {k:Nat} {f:V → Int} (h:Dg k f):Dg k (fun x=>- f x):=by
  have:=(Dg.const (-1)).mul h
  rw [show 1+k - 1=k by omega] at this
  exact this.congr fun x=>by omega
def fa (f:V → Int) (p:Nat) (x:V):Int:=1 - f x ^ (p - 1)
theorem Dg.fa {f:V → Int} (h:Dg 2 f) {p:Nat} (hp:1 ≤ p):Dg p (fa f p):=by
  have h1:=(h.pow (p - 1)).neg
  rw [show p - 1+1=p by omega] at h1
  exact (((Dg.const 1).le hp).add h1).congr fun x=>by show 1+- (f x ^ (p - 1))=1 - f x ^ (p - 1); omega
def altS (f:V → Int):List V → V → Int
  | [],a=>f a
  | x :: l,a=>altS f l a - altS f l (vadd a x)
theorem altS_sub (f:V → Int) (d:V):∀ (l:List V) (a:V),altS (fun x=>f (vadd x d) - f x) l a=altS f l (vadd a d) - altS f l a
  | [],a=>rfl
  | x :: l,a=>by
    rw [altS,altS_sub f d l a,altS_sub f d l (vadd a x),altS,altS,vadd_rc a d x]; omega
theorem altS_zero:∀ (l:List V) (f:V → Int),Dg l.length f → ∀ a,altS f l a=0
  | [],f,h,a=>h a
  | x :: l,f,h,a=>by
    have:=altS_zero l _ (h x) a
    rw [altS_sub] at this
    rw [altS]; omega
def vsum:List V → V
  | []=>(0,0,0)
  | x :: l=>vadd x (vsum l)
theorem altS_none {f:V → Int} {p:Int} {Z:V → Prop} (hf:∀ y,¬ Z y → f y % p=0):∀ (l:List V) (a:V),(∀ s,s.Sublist l → ¬ Z (vadd a (vsum s))) → altS f l a % p=0
  | [],a,h=>by
    have:=h [] (List.Sublist.refl _)
    rw [vsum,vadd_zero] at this
    exact hf a this
  | x :: l,a,h=>by
    have h1:=altS_none hf l a (fun s hs=>h s (hs.cons x))
    have h2:=altS_none hf l (vadd a x) (fun s hs=>by
      have:=h (x :: s) (hs.cons_cons x)
      rwa [vsum,← vadd_assoc] at this)
    rw [altS,Int.sub_emod,h1,h2]; rfl
theorem altS_one {f:V → Int} {p:Int} {Z:V → Prop} (hf:∀ y,¬ Z y → f y % p=0) (h0:f (0,0,0) % p=1):∀ (l:List V),(∀ s,s.Sublist l → s ≠ [] → ¬ Z (vsum s)) → altS f l (0,0,0) % p=1 % p
  | [],h=>by rw [altS,← h0,Int.emod_emod]
  | x :: l,h=>by
    have h1:=altS_one hf h0 l (fun s hs=>h s (hs.cons x))
    have h2:=altS_none hf l (vadd (0,0,0) x) (fun s hs=>by
      have:=h (x :: s) (hs.cons_cons x) (by simp)
      rwa [zero_vadd])
    rw [altS,Int.sub_emod,h1,h2,Int.sub_zero,Int.emod_emod]
theorem some_zero {f:V → Int} {p:Int} {Z:V → Prop} (hf:∀ y,¬ Z y → f y % p=0) (h0:f (0,0,0) % p=1) (hp:2 ≤ p) {k:Nat} (hd:Dg k f) {l:List V} (hl:k ≤ l.length):∃ s,s.Sublist l∧s ≠ []∧Z (vsum s):=by
  refine Classical.byContradiction fun hn=>?_
  have h1:=altS_one hf h0 l (fun s hs h=>fun hz=>hn ⟨s,hs,h,hz⟩)
  rw [altS_zero l f (hd.le hl)] at h1
  rw [Int.emod_eq_of_lt (show (0:Int) ≤ 1 by omega) (by omega)] at h1
  simp at h1
def PL:List Nat:=[2,3,5,7,11,13,17,19,23]
theorem fermB:(PL.all fun p=>(List.range p).all fun r=>decide ((1 - ((r:Nat):Int) ^ (p - 1)) % (p:Int)=if r=0 then 1 else 0))=true:=by decide +kernel
theorem pow_mod (y p:Int):∀ n:Nat,(y ^ n) % p=((y % p) ^ n) % p
  | 0=>by rw [Int.pow_zero,Int.pow_zero]
  | n+1=>by
    have h:((y % p) ^ n * (y % p)) % p=(((y % p) ^ n % p) * (y % p)) % p:=by rw [Int.mul_emod,Int.emod_emod,Int.mul_emod ((y % p) ^ n % p),Int.emod_emod,Int.emod_emod]
    rw [Int.pow_succ,Int.pow_succ,Int.mul_emod,pow_mod y p n,h]
theorem PL_two {p:Nat} (hp:p ∈ PL):2 ≤ p:=by
  simp only [PL,List.mem_cons,List.mem_nil_iff,or_false] at hp; omega
theorem ferm {p:Nat} (hp:p ∈ PL) (y:Int):(1 - y ^ (p - 1)) % (p:Int)=if y % (p:Int)=0 then 1 else 0:=by
  have h2:=PL_two hp
  have b0:=Int.emod_nonneg y (show (p:Int) ≠ 0 by omega)
  have b1:=Int.emod_lt_of_pos y (show (0:Int) < p by omega)
  have h:=List.all_eq_true.1 (List.all_eq_true.1 fermB p hp) (y % (p:Int)).toNat (by rw [List.mem_range]; omega)
  have h:=of_decide_eq_true h
  rw [Int.toNat_of_nonneg b0] at h
  rw [Int.sub_emod,pow_mod,← Int.sub_emod,h]
  by_cases c:y % (p:Int)=0
  · rw [if_pos c,if_pos (by omega)]
  · rw [if_neg c,if_neg (by omega)]
theorem fa_mod {p:Nat} (hp:p ∈ PL) (f:V → Int) (x:V):fa f p x % (p:Int)=if f x % (p:Int)=0 then 1 else 0:=ferm hp (f x)
theorem mul_mod0 {a b p:Int} (h:a % p=0 ∨ b % p=0):(a * b) % p=0:=by
  rw [Int.mul_emod]
  rcases h with h | h <;> rw [h] <;> simp
theorem mul_mod1 {a b p:Int} (hp:2 ≤ p) (h1:a % p=1) (h2:b % p=1):(a * b) % p=1:=by
  rw [Int.mul_emod,h1,h2]; exact Int.emod_eq_of_lt (by omega) (by omega)
abbrev c1:V → Int:=fun x=>x.1
abbrev c2:V → Int:=fun x=>x.2.1
abbrev c3:V → Int:=fun x=>x.2.2
theorem Dc1:Dg 2 c1:=Dg.co _ fun _ _=>rfl
theorem Dc2:Dg 2 c2:=Dg.co _ fun _ _=>rfl
theorem Dc3:Dg 2 c3:=Dg.co _ fun _ _=>rfl
def s1 (L:List (Int × Int)):Int:=(L.map Prod.fst).sum
def s2 (L:List (Int × Int)):Int:=(L.map Prod.snd).sum
def emb (q:Int × Int):V:=(q.1,q.2,1)
theorem vsum_emb:∀ L:List (Int × Int),vsum (L.map emb)=(s1 L,s2 L,(L.length:Int))
  | []=>rfl
  | q :: L=>by
    rw [List.map_cons,vsum,vsum_emb L]
    simp only [vadd,emb,s1,s2,List.map_cons,List.sum_cons,List.length_cons]
    refine Prod.ext rfl (Prod.ext rfl ?_)
    show 1+(L.length:Int)=((L.length+1:Nat):Int)
    omega
theorem of_emb {L:List (Int × Int)} {Z:V → Prop} (h:∃ s,s.Sublist (L.map emb)∧s ≠ []∧Z (vsum s)):∃ s,s.Sublist L∧s ≠ []∧Z (s1 s,s2 s,(s.length:Int)):=by
  obtain ⟨s,h1,h2,h3⟩:=h
  obtain ⟨t,t1,rfl⟩:=List.sublist_map_iff.1 h1
  exact ⟨t,t1,fun e=>h2 (by rw [e]; rfl),by rwa [vsum_emb] at h3⟩
section
variable {p:Nat} (hp:p ∈ PL)
include hp
theorem one_D {L:List (Int × Int)} (hl:p ≤ L.length):∃ s,s.Sublist L∧s ≠ []∧s2 s % p=0:=by
  have h2:=PL_two hp
  have z0:fa c2 p (0,0,0) % (p:Int)=1:=by rw [fa_mod hp]; exact if_pos (Int.zero_emod _)
  exact of_emb (Z:=fun v=>v.2.1 % p=0) (some_zero (f:=fa c2 p) (fun y hy=>by rw [fa_mod hp,if_neg hy]) z0 (by omega) (Dc2.fa (by omega)) (l:=L.map emb) (by rw [List.length_map]; exact hl))
theorem two_D {L:List (Int × Int)} (hl:2 * p - 1 ≤ L.length):∃ s,s.Sublist L∧s ≠ []∧s1 s % p=0∧s2 s % p=0:=by
  have h2:=PL_two hp
  have z1:fa c1 p (0,0,0) % (p:Int)=1:=by rw [fa_mod hp]; exact if_pos (Int.zero_emod _)
  have z2:fa c2 p (0,0,0) % (p:Int)=1:=by rw [fa_mod hp]; exact if_pos (Int.zero_emod _)
  refine of_emb (Z:=fun v=>v.1 % p=0∧v.2.1 % p=0) (some_zero (Z:=fun v=>v.1 % p=0∧v.2.1 % p=0) (f:=fun x=>fa c1 p x * fa c2 p x) (p:=p) (fun y hy=>?_) (mul_mod1 (by omega) z1 z2) (by omega) (((Dc1.fa (by omega)).mul (Dc2.fa (p:=p) (by omega))).le (m:=2 * p - 1) (by omega)) (l:=L.map emb) (by rw [List.length_map]; exact hl))
  refine mul_mod0 ?_
  rw [fa_mod hp,fa_mod hp]
  by_cases a:y.1 % (p:Int)=0
  · exact .inr (by rw [if_neg (fun b=>hy ⟨a,b⟩)])
  · exact .inl (by rw [if_neg a])
theorem three_D {L:List (Int × Int)} (hl:3 * p - 2 ≤ L.length):∃ s,s.Sublist L∧s ≠ []∧s1 s % p=0∧s2 s % p=0∧(s.length:Int) % p=0:=by
  have h2:=PL_two hp
  have z1:fa c1 p (0,0,0) % (p:Int)=1:=by rw [fa_mod hp]; exact if_pos (Int.zero_emod _)
  have z2:fa c2 p (0,0,0) % (p:Int)=1:=by rw [fa_mod hp]; exact if_pos (Int.zero_emod _)
  have z3:fa c3 p (0,0,0) % (p:Int)=1:=by rw [fa_mod hp]; exact if_pos (Int.zero_emod _)
  refine of_emb (Z:=fun v=>v.1 % p=0∧v.2.1 % p=0∧v.2.2 % p=0) (some_zero (Z:=fun v=>v.1 % p=0∧v.2.1 % p=0∧v.2.2 % p=0) (f:=fun x=>fa c1 p x * fa c2 p x * fa c3 p x) (p:=p) (fun y hy=>?_) (mul_mod1 (by omega) (mul_mod1 (by omega) z1 z2) z3) (by omega) ((((Dc1.fa (by omega)).mul (Dc2.fa (p:=p) (by omega))).mul (Dc3.fa (p:=p) (by omega))).le (m:=3 * p - 2) (by omega)) (l:=L.map emb) (by rw [List.length_map]; exact hl))
  by_cases a:y.1 % (p:Int)=0
  · by_cases b:y.2.1 % (p:Int)=0
    · exact mul_mod0 (.inr (by rw [fa_mod hp,if_neg (fun c=>hy ⟨a,b,c⟩)]))
    · exact mul_mod0 (.inl (mul_mod0 (.inr (by rw [fa_mod hp,if_neg b]))))
  · exact mul_mod0 (.inl (mul_mod0 (.inl (by rw [fa_mod hp,if_neg a]))))
end
theorem sub_compl {α:Type}:∀ {s l:List α},s.Sublist l → ∃ t,t.Sublist l∧(s ++ t).Perm l:=by
  intro s l h
  induction h with
  | slnil=>exact ⟨[],List.Sublist.refl _,List.Perm.refl _⟩
  | cons a _ ih =>
    obtain ⟨t,h1,h2⟩:=ih
    exact ⟨a :: t,h1.cons_cons a,(List.perm_middle).trans (h2.cons a)⟩
  | cons_cons a _ ih =>
    obtain ⟨t,h1,h2⟩:=ih
    exact ⟨t,h1.cons a,h2.cons a⟩
theorem psum {l m:List Int} (h:l.Perm m):l.sum=m.sum:=by
  induction h with
  | nil=>rfl
  | cons x _ ih=>rw [List.sum_cons,List.sum_cons,ih]
  | swap x y l=>simp only [List.sum_cons]; omega
  | trans _ _ h1 h2=>rw [h1,h2]
theorem s1_perm {l m:List (Int × Int)} (h:l.Perm m):s1 l=s1 m:=psum (h.map _)
theorem s2_perm {l m:List (Int × Int)} (h:l.Perm m):s2 l=s2 m:=psum (h.map _)
theorem s1_app (l m:List (Int × Int)):s1 (l ++ m)=s1 l+s1 m:=by simp [s1]
theorem s2_app (l m:List (Int × Int)):s2 (l ++ m)=s2 l+s2 m:=by simp [s2]
theorem mod_diff {a b p:Int} (h:(a+b) % p=0) (h1:a % p=0):b % p=0:=by
  rw [Int.add_emod,h1,Int.zero_add,Int.emod_emod] at h; exact h
theorem eta {p:Nat} (hp:p ∈ PL) {L:List (Int × Int)} (hl:3 * p - 2 ≤ L.length):∃ s,s.Sublist L∧s ≠ []∧s.length ≤ p∧s1 s % p=0∧s2 s % p=0:=by
  have h2:=PL_two hp
  obtain ⟨s,a1,a2,a3,a4,a5⟩:=three_D hp (L:=L.take (3 * p - 2)) (by rw [List.length_take]; omega)
  have sl:=a1.length_le
  rw [List.length_take] at sl
  have sL:s.Sublist L:=a1.trans (List.take_sublist _ _)
  have s0:s.length ≠ 0:=fun e=>a2 (List.length_eq_zero_iff.1 e)
  by_cases c:s.length ≤ p
  · exact ⟨s,sL,a2,c,a3,a4⟩
  · have e2:s.length=2 * p:=by
      obtain ⟨k,hk⟩:=Int.dvd_of_emod_eq_zero a5
      have k1:1 < k:=by
        refine Int.lt_of_mul_lt_mul_left (a:=(p:Int)) ?_ (by omega)
        omega
      have k2:k < 3:=by
        refine Int.lt_of_mul_lt_mul_left (a:=(p:Int)) ?_ (by omega)
        omega
      have:k=2:=by omega
      subst this
      omega
    obtain ⟨t,b1,b2,b3,b4⟩:=two_D hp (L:=s.take (2 * p - 1)) (by rw [List.length_take]; omega)
    have tl:=b1.length_le
    rw [List.length_take] at tl
    have ts:t.Sublist s:=b1.trans (List.take_sublist _ _)
    by_cases d:t.length ≤ p
    · exact ⟨t,ts.trans sL,b2,d,b3,b4⟩
    · obtain ⟨r,r1,r2⟩:=sub_compl ts
      have rl:=r2.length_eq
      rw [List.length_append] at rl
      have q1:=s1_perm r2
      have q2:=s2_perm r2
      rw [s1_app] at q1
      rw [s2_app] at q2
      exact ⟨r,r1.trans sL,fun e=>by rw [e] at rl; simp at rl; omega,by omega,mod_diff (by rw [q1]; exact a3) b3,mod_diff (by rw [q2]; exact a4) b4⟩
theorem blocks {p E F:Nat} {Z:Int → Int → Prop} (hE:∀ L:List (Int × Int),E ≤ L.length → ∃ s,s.Sublist L∧s ≠ []∧s.length ≤ p∧Z (s1 s) (s2 s))
    (hF:∀ L:List (Int × Int),F ≤ L.length → ∃ s,s.Sublist L∧s ≠ []∧Z (s1 s) (s2 s)) (hEF:E ≤ p+F):∀ (K:Nat) (L:List (Int × Int)),p * K+F ≤ L.length →
    ∃ B:List (List (Int × Int)),B.length=K+1∧(∀ b ∈ B,b ≠ []∧Z (s1 b) (s2 b))∧∃ r,(B.flatten ++ r).Perm L
  | 0,L,hl=>by
    obtain ⟨s,h1,h2,h3⟩:=hF L (by omega)
    obtain ⟨t,t1,t2⟩:=sub_compl h1
    exact ⟨[s],rfl,fun b hb=>by rw [List.mem_singleton] at hb; rw [hb]; exact ⟨h2,h3⟩,t,by simpa using t2⟩
  | K+1,L,hl=>by
    rw [Nat.mul_succ] at hl
    obtain ⟨s,h1,h2,h3,h4⟩:=hE L (by omega)
    obtain ⟨t,t1,t2⟩:=sub_compl h1
    have tl:=t2.length_eq
    rw [List.length_append] at tl
    obtain ⟨B,b1,b2,r,b3⟩:=blocks hE hF hEF K t (by omega)
    refine ⟨s :: B,by simp [b1],fun b hb=>?_,r,?_⟩
    · rcases List.mem_cons.1 hb with rfl | hb
      · exact ⟨h2,h4⟩
      · exact b2 b hb
    · rw [List.flatten_cons,List.append_assoc]
      exact (List.Perm.append_left s b3).trans t2
theorem sub_of_perm' {α:Type}:∀ {l m:List α},l.Perm m → ∀ {s:List α},s.Sublist m → ∃ t:List α,t.Perm s∧t.Sublist l:=by
  intro l m h
  induction h with
  | nil=>intro s hs; exact ⟨s,.refl _,hs⟩
  | cons x _ ih =>
    intro s hs
    cases hs with
    | cons _ h=>obtain ⟨t,h1,h2⟩:=ih h; exact ⟨t,h1,h2.cons x⟩
    | cons_cons _ h=>obtain ⟨t,h1,h2⟩:=ih h; exact ⟨x :: t,h1.cons x,h2.cons_cons x⟩
  | swap x y l =>
    intro s hs
    cases hs with
    | cons _ h =>
      cases h with
      | cons _ h=>exact ⟨s,.refl _,(h.cons x).cons y⟩
      | cons_cons _ h=>exact ⟨_,.refl _,(h.cons x).cons_cons y⟩
    | cons_cons _ h =>
      cases h with
      | cons _ h=>exact ⟨_,.refl _,(h.cons_cons x).cons y⟩
      | cons_cons _ h=>exact ⟨_,.swap _ _ _,(h.cons_cons x).cons_cons y⟩
  | trans _ _ h1 h2 =>
    intro s hs
    obtain ⟨t,t1,t2⟩:=h2 hs
    obtain ⟨u,u1,u2⟩:=h1 t2
    exact ⟨u,u1.trans t1,u2⟩
theorem sub_flat {α:Type} {C B:List (List α)} (h:C.Sublist B):C.flatten.Sublist B.flatten:=by
  induction h with
  | slnil=>exact List.Sublist.refl _
  | cons a _ ih=>rw [List.flatten_cons]; exact ih.trans (List.sublist_append_right _ _)
  | cons_cons a _ ih=>rw [List.flatten_cons,List.flatten_cons]; exact List.Sublist.append (List.Sublist.refl _) ih
def Dav (m n:Nat):Prop:=∀ L:List (Int × Int),m+n - 1 ≤ L.length → ∃ s,s.Sublist L∧s ≠ []∧s1 s % m=0∧s2 s % n=0
theorem s_flat {p:Int} (f:Int × Int → Int):∀ (B:List (List (Int × Int))),(∀ b ∈ B,((b.map f).sum) % p=0) → ((B.flatten).map f).sum=p * (B.map fun b=>(b.map f).sum / p).sum
  | [],_=>by simp
  | b :: B,h=>by
    have h1:=h b (by simp)
    have h2:=s_flat f B (fun c hc=>h c (by simp [hc]))
    rw [List.flatten_cons,List.map_append,List.sum_append,h2,List.map_cons,List.sum_cons,Int.mul_add]
    have:=Int.mul_ediv_add_emod ((b.map f).sum) p
    rw [h1] at this
    omega
theorem Dav.step {p m n:Nat} (hp:p ∈ PL) (hm:1 ≤ m) (hn:1 ≤ n) (h:Dav m n):Dav (p * m) (p * n):=by
  have h2:=PL_two hp
  intro L hl
  have hmn:p * m+p * n=p * (m+n - 2)+2 * p:=by
    have e:m+n=(m+n - 2)+2:=by omega
    generalize m+n - 2=k at *
    rw [← Nat.mul_add,e,Nat.mul_add]; omega
  obtain ⟨B,b1,b2,r,b3⟩:=blocks (p:=p) (E:=3 * p - 2) (F:=2 * p - 1) (Z:=fun a b=>a % p=0∧b % p=0) (fun L h=>eta hp h) (fun L h=>two_D hp h) (by omega) (m+n - 2) L (by omega)
  obtain ⟨s,q1,q2,q3,q4⟩:=h (B.map fun b=>(s1 b / p,s2 b / p)) (by rw [List.length_map]; omega)
  obtain ⟨C,e1,rfl⟩:=List.sublist_map_iff.1 q1
  have hC:∀ b ∈ C,b ≠ []∧s1 b % p=0∧s2 b % p=0:=fun b hb=>b2 b (e1.subset hb)
  have u:C.flatten.Sublist (B.flatten ++ r):=(sub_flat e1).trans (List.sublist_append_left _ _)
  obtain ⟨t,t1,t2⟩:=sub_of_perm' b3.symm u
  have f1:=s_flat (p:=(p:Int)) Prod.fst C (fun b hb=>(hC b hb).2.1)
  have f2:=s_flat (p:=(p:Int)) Prod.snd C (fun b hb=>(hC b hb).2.2)
  have g1:s1 t=p * s1 (C.map fun b=>(s1 b / p,s2 b / p)):=by
    rw [s1_perm t1]; show (C.flatten.map Prod.fst).sum=_
    rw [f1]; simp only [s1,List.map_map]; rfl
  have g2:s2 t=p * s2 (C.map fun b=>(s1 b / p,s2 b / p)):=by
    rw [s2_perm t1]; show (C.flatten.map Prod.snd).sum=_
    rw [f2]; simp only [s2,List.map_map]; rfl
  refine ⟨t,t2,fun e=>?_,?_,?_⟩
  · rw [e] at t1
    have hf:C.flatten=[]:=List.Perm.nil_eq t1 |>.symm
    cases C with
    | nil=>exact q2 rfl
    | cons b C =>
      rw [List.flatten_cons,List.append_eq_nil_iff] at hf
      exact (hC b (by simp)).1 hf.1
  · rw [g1]
    obtain ⟨k,hk⟩:=Int.dvd_of_emod_eq_zero q3
    rw [hk]; push_cast; rw [← Int.mul_assoc]; exact Int.mul_emod_right _ _
  · rw [g2]
    obtain ⟨k,hk⟩:=Int.dvd_of_emod_eq_zero q4
    rw [hk]; push_cast; rw [← Int.mul_assoc]; exact Int.mul_emod_right _ _
theorem Dav.step1 {p n:Nat} (hp:p ∈ PL) (hn:1 ≤ n) (h:Dav 1 n):Dav 1 (p * n):=by
  have h2:=PL_two hp
  intro L hl
  have hmn:p * n=p * (n - 1)+p:=by
    rw [← Nat.mul_succ,show (n - 1).succ=n by omega]
  obtain ⟨B,b1,b2,r,b3⟩:=blocks (p:=p) (E:=p) (F:=p) (Z:=fun a b=>b % (p:Int)=0) (fun L h=>by
    obtain ⟨s,a1,a2,a3⟩:=one_D hp (L:=L.take p) (by rw [List.length_take]; omega)
    have sl:=a1.length_le
    rw [List.length_take] at sl
    exact ⟨s,a1.trans (List.take_sublist _ _),a2,by omega,a3⟩) (fun L h=>one_D hp h) (by omega) (n - 1) L (by omega)
  obtain ⟨s,q1,q2,q3,q4⟩:=h (B.map fun b=>(0,s2 b / p)) (by rw [List.length_map]; omega)
  obtain ⟨C,e1,rfl⟩:=List.sublist_map_iff.1 q1
  have hC:∀ b ∈ C,b ≠ []∧s2 b % p=0:=fun b hb=>b2 b (e1.subset hb)
  have u:C.flatten.Sublist (B.flatten ++ r):=(sub_flat e1).trans (List.sublist_append_left _ _)
  obtain ⟨t,t1,t2⟩:=sub_of_perm' b3.symm u
  have f2:=s_flat (p:=(p:Int)) Prod.snd C (fun b hb=>(hC b hb).2)
  have g2:s2 t=p * s2 (C.map fun b=>((0:Int),s2 b / p)):=by
    rw [s2_perm t1]; show (C.flatten.map Prod.snd).sum=_
    rw [f2]; simp only [s2,List.map_map]; rfl
  refine ⟨t,t2,fun e=>?_,?_,?_⟩
  · rw [e] at t1
    have hf:C.flatten=[]:=List.Perm.nil_eq t1 |>.symm
    cases C with
    | nil=>exact q2 rfl
    | cons b C =>
      rw [List.flatten_cons,List.append_eq_nil_iff] at hf
      exact (hC b (by simp)).1 hf.1
  · exact Int.emod_one _
  · rw [g2]
    obtain ⟨k,hk⟩:=Int.dvd_of_emod_eq_zero q4
    rw [hk]; push_cast; rw [← Int.mul_assoc]; exact Int.mul_emod_right _ _
theorem primeB:((List.range 25).all fun n=>decide (n < 2) || PL.any fun p=>decide (n % p=0))=true:=by decide +kernel
theorem dav:∀ n:Nat,1 ≤ n → n ≤ 24 → ∀ m:Nat,1 ≤ m → n % m=0 → Dav m n:=by
  intro n
  induction n using Nat.strongRecOn with
  | ind n ih =>
    intro h1 h24 m hm hd
    have hmn:m ≤ n:=Nat.le_of_dvd (by omega) (Nat.dvd_of_mod_eq_zero hd)
    by_cases c1:n=1
    · have:m=1:=by omega
      subst this; subst c1
      intro L hl
      match L,hl with
      | x :: L,_=>exact ⟨[x],by simp,by simp,Int.emod_one _,Int.emod_one _⟩
    · have key:∀ k,2 ≤ k → k ≤ 24 → ∃ p ∈ PL,k % p=0:=fun k hk hk2=>by
        have:=List.all_eq_true.1 primeB k (by rw [List.mem_range]; omega)
        rw [decide_eq_false (by omega),Bool.false_or,List.any_eq_true] at this
        obtain ⟨p,hp,h⟩:=this
        exact ⟨p,hp,of_decide_eq_true h⟩
      by_cases cm:m=1
      · subst cm
        obtain ⟨p,hp,h⟩:=key n (by omega) h24
        have hp2:=PL_two hp
        have e:n=p * (n / p):=by have:=Nat.div_add_mod n p; omega
        have hq:1 ≤ n / p:=by
          rcases Nat.eq_zero_or_pos (n / p) with z | z
          · rw [z] at e; omega
          · exact z
        have hlt:n / p < n:=Nat.div_lt_self (by omega) (by omega)
        have:=Dav.step1 hp hq (ih (n / p) hlt hq (by omega) 1 (by omega) (Nat.mod_one _))
        rwa [← e] at this
      · obtain ⟨p,hp,h⟩:=key m (by omega) (by omega)
        have hp2:=PL_two hp
        have e:m=p * (m / p):=by have:=Nat.div_add_mod m p; omega
        obtain ⟨q,hq⟩:=Nat.dvd_of_mod_eq_zero hd
        have e2:n=p * (m / p * q):=by rw [← Nat.mul_assoc,← e]; exact hq
        have hmp:1 ≤ m / p:=by
          rcases Nat.eq_zero_or_pos (m / p) with z | z
          · rw [z] at e; omega
          · exact z
        have hpos:1 ≤ m / p * q:=by
          rcases Nat.eq_zero_or_pos (m / p * q) with z | z
          · rw [z] at e2; omega
          · exact z
        have hlt:m / p * q < n:=by
          have:2 * (m / p * q) ≤ p * (m / p * q):=Nat.mul_le_mul_right _ hp2
          omega
        have:=Dav.step hp hmp hpos (ih (m / p * q) hlt hpos (by omega) (m / p) hmp (Nat.mul_mod_right _ _))
        rwa [← e,← e2] at this
end Ol
end Go.Proofs.Ytaibmipamkaljaa
end
