/- A part of the proof. -/
import Derived.Test.YtiejmoglooaalaaP9A
set_option linter.unusedVariables false
set_option linter.unusedSimpArgs false
set_option linter.unnecessarySimpa false
section
open Go Go.HL
namespace Go.Proofs.Ytiejmoglooaalaa
set_option maxRecDepth 100000
open Go.Proofs.Try renaming prog → Tp
open Go.HL.HV renaming undef → Ud
section
variable {xb:Nat}
noncomputable def B99:Code:=Try.f99.body.getD .skip
abbrev env99 (v0 v1 v2 v3 v8 v9:HV):Env:=[(0,v0),(1,v1),(2,v2),(3,v3),(8,v8),(9,v9)]
theorem is_a_0 (N:Nat) (db n:Nat) (cap:Option Nat) (H:Heap) (x:Nat) (a:Nat) (b:Nat):RT polSo 99 (sub [0] B99) [(0,.c db n cap),(1,.i (a:Int)),(2,.i (b:Int)),(3,.func 69 [] [.ptr xb 0 0 1])] H .normal (env99 (.c db n cap) (.i (a:Int)) (.i (b:Int)) (.func 69 [] [.ptr xb 0 0 1]) (.i (IntKind.i64.wrap ((a:Int)+1))) Ud) H :=
  RunsTo.hin N 60 [] fun kf hk=>⟨_,by kernel_rfl,.nil⟩
theorem is_b_0 (N:Nat) (db n:Nat) (cap:Option Nat) (H:Heap) (x:Nat) (a:Nat) (b:Nat) (i:Nat) {y9:HV}(g0:(i:Int) < (b:Int)):RT polSo 99 (sub [1,0,0,0] B99) (env99 (.c db n cap) (.i (a:Int)) (.i (b:Int)) (.func 69 [] [.ptr xb 0 0 1]) (.i (i:Int)) y9) H .normal (env99 (.c db n cap) (.i (a:Int)) (.i (b:Int)) (.func 69 [] [.ptr xb 0 0 1]) (.i (i:Int)) y9) H :=
  RunsTo.hin N 60 [⟨1,2,.bool true,H⟩] fun kf hk=>⟨_,by kernel_rfl,(oB H (decide_eq_true g0) .nil)⟩
theorem is_b_1 (N:Nat) (db n:Nat) (cap:Option Nat) (H:Heap) (x:Nat) (a:Nat) (b:Nat) (i:Nat) {y9:HV}(g0:¬ ((i:Int) < (b:Int))):RT polSo 99 (sub [1,0,0,0] B99) (env99 (.c db n cap) (.i (a:Int)) (.i (b:Int)) (.func 69 [] [.ptr xb 0 0 1]) (.i (i:Int)) y9) H (.exit 0) (env99 (.c db n cap) (.i (a:Int)) (.i (b:Int)) (.func 69 [] [.ptr xb 0 0 1]) (.i (i:Int)) y9) H :=
  RunsTo.hin N 60 [⟨1,2,.bool false,H⟩] fun kf hk=>⟨_,by kernel_rfl,(oB H (decide_eq_false g0) .nil)⟩
theorem is_c_0 (N:Nat) (db n:Nat) (cap:Option Nat) (H:Heap) (x:Nat) (a:Nat) (b:Nat) (i:Nat) {y9:HV}:RT polSo 99 (sub [1,0,0,1,0,0,0] B99) (env99 (.c db n cap) (.i (a:Int)) (.i (b:Int)) (.func 69 [] [.ptr xb 0 0 1]) (.i (i:Int)) y9) H .normal (env99 (.c db n cap) (.i (a:Int)) (.i (b:Int)) (.func 69 [] [.ptr xb 0 0 1]) (.i (i:Int)) (.i (i:Int))) H :=
  RunsTo.hin N 60 [] fun kf hk=>⟨_,by kernel_rfl,.nil⟩
theorem is_d_0 (N:Nat) (db n:Nat) (cap:Option Nat) (H:Heap) (x:Nat) (a:Nat) (b:Nat) (i:Nat) (j:Nat) {a0:HV} {v0:HV} {a1:HV} {v1:HV} {c0:Int} {H0:Heap} {a2:HV} {v2:HV} {a3:HV} {v3:HV} {a4:HV} {H1:Heap} {a5:HV} {H2:Heap} (g0:(a:Int) < (j:Int)) (g1:idxV Tp 24 (.c db n cap) (.i (j:Int))=some (a0)) (g2:loadV Tp H 3 (a0)=some (v0)) (g3:idxV Tp 24 (.c db n cap) (.i (IntKind.i64.wrap ((j:Int) - 1)))=some (a1)) (g4:loadV Tp H 3 (a1)=some (v1)) (g5:∀ kf,N ≤ kf → callN Tp polSo (kf+1) 69 [v0,v1,.ptr xb 0 0 1] H=some (.i c0,H0)) (g6:c0 < 0) (g7:idxV Tp 24 (.c db n cap) (.i (IntKind.i64.wrap ((j:Int) - 1)))=some (a2)) (g8:loadV Tp H0 3 (a2)=some (v2)) (g9:idxV Tp 24 (.c db n cap) (.i (j:Int))=some (a3)) (g10:loadV Tp H0 3 (a3)=some (v3)) (g11:idxV Tp 24 (.c db n cap) (.i (j:Int))=some (a4)) (g12:storeV Tp H0 3 (a4) (v2)=some H1) (g13:idxV Tp 24 (.c db n cap) (.i (IntKind.i64.wrap ((j:Int) - 1)))=some (a5)) (g14:storeV Tp H1 3 (a5) (v3)=some H2):RT polSo 99 (sub [1,0,0,1,0,0,1,0,0] B99) (env99 (.c db n cap) (.i (a:Int)) (.i (b:Int)) (.func 69 [] [.ptr xb 0 0 1]) (.i (i:Int)) (.i (j:Int))) H .normal (env99 (.c db n cap) (.i (a:Int)) (.i (b:Int)) (.func 69 [] [.ptr xb 0 0 1]) (.i (i:Int)) (.i (IntKind.i64.wrap ((j:Int) - 1)))) H2 :=
  RunsTo.hin N 60 [⟨4,2,.bool true,H⟩,⟨4,7,a0,H⟩,⟨4,8,v0,H⟩,⟨4,12,a1,H⟩,⟨4,13,v1,H⟩,⟨4,14,.i c0,H0⟩,⟨4,15,.bool true,H0⟩,⟨6,8,a2,H0⟩,⟨6,9,v2,H0⟩,⟨6,12,a3,H0⟩,⟨6,13,v3,H0⟩,⟨6,14,a4,H0⟩,⟨6,15,.tuple [],H1⟩,⟨6,16,a5,H1⟩,⟨6,17,.tuple [],H2⟩] fun kf hk=>⟨_,by kernel_rfl,(oB H (decide_eq_true g0) (oP H g1 (oP H g2 (oP H g3 (oP H g4 (oC (g5 kf (by omega)) (oB H0 (decide_eq_true g6) (oP H0 g7 (oP H0 g8 (oP H0 g9 (oP H0 g10 (oP H0 g11 (oS g12 (oP H1 g13 (oS g14 .nil)))))))))))))))⟩
theorem is_d_1 (N:Nat) (db n:Nat) (cap:Option Nat) (H:Heap) (x:Nat) (a:Nat) (b:Nat) (i:Nat) (j:Nat) {a0:HV} {v0:HV} {a1:HV} {v1:HV} {c0:Int} {H0:Heap} (g0:(a:Int) < (j:Int)) (g1:idxV Tp 24 (.c db n cap) (.i (j:Int))=some (a0)) (g2:loadV Tp H 3 (a0)=some (v0)) (g3:idxV Tp 24 (.c db n cap) (.i (IntKind.i64.wrap ((j:Int) - 1)))=some (a1)) (g4:loadV Tp H 3 (a1)=some (v1)) (g5:∀ kf,N ≤ kf → callN Tp polSo (kf+1) 69 [v0,v1,.ptr xb 0 0 1] H=some (.i c0,H0)) (g6:¬ (c0 < 0)):RT polSo 99 (sub [1,0,0,1,0,0,1,0,0] B99) (env99 (.c db n cap) (.i (a:Int)) (.i (b:Int)) (.func 69 [] [.ptr xb 0 0 1]) (.i (i:Int)) (.i (j:Int))) H (.exit 2) (env99 (.c db n cap) (.i (a:Int)) (.i (b:Int)) (.func 69 [] [.ptr xb 0 0 1]) (.i (i:Int)) (.i (j:Int))) H0 :=
  RunsTo.hin N 60 [⟨4,2,.bool true,H⟩,⟨4,7,a0,H⟩,⟨4,8,v0,H⟩,⟨4,12,a1,H⟩,⟨4,13,v1,H⟩,⟨4,14,.i c0,H0⟩,⟨4,15,.bool false,H0⟩] fun kf hk=>⟨_,by kernel_rfl,(oB H (decide_eq_true g0) (oP H g1 (oP H g2 (oP H g3 (oP H g4 (oC (g5 kf (by omega)) (oB H0 (decide_eq_false g6) .nil)))))))⟩
theorem is_d_2 (N:Nat) (db n:Nat) (cap:Option Nat) (H:Heap) (x:Nat) (a:Nat) (b:Nat) (i:Nat) (j:Nat)(g0:¬ ((a:Int) < (j:Int))):RT polSo 99 (sub [1,0,0,1,0,0,1,0,0] B99) (env99 (.c db n cap) (.i (a:Int)) (.i (b:Int)) (.func 69 [] [.ptr xb 0 0 1]) (.i (i:Int)) (.i (j:Int))) H (.exit 2) (env99 (.c db n cap) (.i (a:Int)) (.i (b:Int)) (.func 69 [] [.ptr xb 0 0 1]) (.i (i:Int)) (.i (j:Int))) H :=
  RunsTo.hin N 60 [⟨4,2,.bool false,H⟩] fun kf hk=>⟨_,by kernel_rfl,(oB H (decide_eq_false g0) .nil)⟩
theorem is_e_0 (N:Nat) (db n:Nat) (cap:Option Nat) (H:Heap) (x:Nat) (a:Nat) (b:Nat) (i:Nat) {y9:HV}:RT polSo 99 (sub [1,0,0,1,1] B99) (env99 (.c db n cap) (.i (a:Int)) (.i (b:Int)) (.func 69 [] [.ptr xb 0 0 1]) (.i (i:Int)) y9) H .normal (env99 (.c db n cap) (.i (a:Int)) (.i (b:Int)) (.func 69 [] [.ptr xb 0 0 1]) (.i (IntKind.i64.wrap ((i:Int)+1))) y9) H :=
  RunsTo.hin N 60 [] fun kf hk=>⟨_,by kernel_rfl,.nil⟩
noncomputable def B103:Code:=Try.f103.body.getD .skip
abbrev env103 (v0 v1 v2 v8 v9:HV):Env:=[(0,v0),(1,v1),(2,v2),(8,v8),(9,v9)]
theorem rvs_a_0 (N:Nat) (db n:Nat) (cap:Option Nat) (H:Heap) (x:Nat) (a:Nat) (b:Nat):RT polSo 103 (sub [0] B103) [(0,.c db n cap),(1,.i (a:Int)),(2,.i (b:Int)),(3,.func 69 [] [.ptr xb 0 0 1])] H .normal (env103 (.c db n cap) (.i (a:Int)) (.i (b:Int)) (.i (a:Int)) Ud) H :=
  RunsTo.hin N 60 [] fun kf hk=>⟨_,by kernel_rfl,.nil⟩
theorem rvs_b_0 (N:Nat) (db n:Nat) (cap:Option Nat) (H:Heap) (x:Nat) (a:Nat) (b:Nat) (i:Nat) {y9:HV}:RT polSo 103 (sub [1,0] B103) (env103 (.c db n cap) (.i (a:Int)) (.i (b:Int)) (.i (i:Int)) y9) H .normal (env103 (.c db n cap) (.i (a:Int)) (.i (b:Int)) (.i (i:Int)) (.i (IntKind.i64.wrap ((b:Int) - 1)))) H :=
  RunsTo.hin N 60 [] fun kf hk=>⟨_,by kernel_rfl,.nil⟩
theorem rvs_c_0 (N:Nat) (db n:Nat) (cap:Option Nat) (H:Heap) (x:Nat) (a:Nat) (b:Nat) (i:Nat) (j:Nat) {a0:HV} {v0:HV} {a1:HV} {v1:HV} {a2:HV} {H0:Heap} {a3:HV} {H1:Heap} (g0:(i:Int) < (j:Int)) (g1:idxV Tp 24 (.c db n cap) (.i (j:Int))=some (a0)) (g2:loadV Tp H 3 (a0)=some (v0)) (g3:idxV Tp 24 (.c db n cap) (.i (i:Int))=some (a1)) (g4:loadV Tp H 3 (a1)=some (v1)) (g5:idxV Tp 24 (.c db n cap) (.i (i:Int))=some (a2)) (g6:storeV Tp H 3 (a2) (v0)=some H0) (g7:idxV Tp 24 (.c db n cap) (.i (j:Int))=some (a3)) (g8:storeV Tp H0 3 (a3) (v1)=some H1):RT polSo 103 (sub [1,1,0,0] B103) (env103 (.c db n cap) (.i (a:Int)) (.i (b:Int)) (.i (i:Int)) (.i (j:Int))) H .normal (env103 (.c db n cap) (.i (a:Int)) (.i (b:Int)) (.i (IntKind.i64.wrap ((i:Int)+1))) (.i (IntKind.i64.wrap ((j:Int) - 1)))) H1 :=
  RunsTo.hin N 60 [⟨2,2,.bool true,H⟩,⟨3,6,a0,H⟩,⟨3,7,v0,H⟩,⟨3,10,a1,H⟩,⟨3,11,v1,H⟩,⟨3,12,a2,H⟩,⟨3,13,.tuple [],H0⟩,⟨3,14,a3,H0⟩,⟨3,15,.tuple [],H1⟩] fun kf hk=>⟨_,by kernel_rfl,(oB H (decide_eq_true g0) (oP H g1 (oP H g2 (oP H g3 (oP H g4 (oP H g5 (oS g6 (oP H0 g7 (oS g8 .nil)))))))))⟩
theorem rvs_c_1 (N:Nat) (db n:Nat) (cap:Option Nat) (H:Heap) (x:Nat) (a:Nat) (b:Nat) (i:Nat) (j:Nat)(g0:¬ ((i:Int) < (j:Int))):RT polSo 103 (sub [1,1,0,0] B103) (env103 (.c db n cap) (.i (a:Int)) (.i (b:Int)) (.i (i:Int)) (.i (j:Int))) H (.exit 0) (env103 (.c db n cap) (.i (a:Int)) (.i (b:Int)) (.i (i:Int)) (.i (j:Int))) H :=
  RunsTo.hin N 60 [⟨2,2,.bool false,H⟩] fun kf hk=>⟨_,by kernel_rfl,(oB H (decide_eq_false g0) .nil)⟩
noncomputable def B109:Code:=Try.f109.body.getD .skip
abbrev env109 (v0 v1 v2 v3 v4 v10 v11:HV):Env:=[(0,v0),(1,v1),(2,v2),(3,v3),(4,v4),(10,v10),(11,v11)]
theorem sf_a_0 (N:Nat) (db n:Nat) (cap:Option Nat) (H:Heap) (x:Nat) (lo:Nat) (hi:Nat) (fi:Nat):RT polSo 109 (sub [0] B109) [(0,.c db n cap),(1,.i (lo:Int)),(2,.i (hi:Int)),(3,.i (fi:Int)),(4,.func 69 [] [.ptr xb 0 0 1])] H .normal (env109 (.c db n cap) (.i (lo:Int)) (.i (hi:Int)) (.i (fi:Int)) (.func 69 [] [.ptr xb 0 0 1]) (.i (lo:Int)) Ud) H :=
  RunsTo.hin N 60 [] fun kf hk=>⟨_,by kernel_rfl,.nil⟩
theorem sf_b_0 (N:Nat) (db n:Nat) (cap:Option Nat) (H:Heap) (x:Nat) (lo:Nat) (hi:Nat) (fi:Nat) (r:Nat) {y11:HV}(g0:(hi:Int) ≤ IntKind.i64.wrap (IntKind.i64.wrap (2 * (r:Int))+1)):RT polSo 109 (sub [1,0,0] B109) (env109 (.c db n cap) (.i (lo:Int)) (.i (hi:Int)) (.i (fi:Int)) (.func 69 [] [.ptr xb 0 0 1]) (.i (r:Int)) y11) H (.exit 0) (env109 (.c db n cap) (.i (lo:Int)) (.i (hi:Int)) (.i (fi:Int)) (.func 69 [] [.ptr xb 0 0 1]) (.i (r:Int)) (.i (IntKind.i64.wrap (IntKind.i64.wrap (2 * (r:Int))+1)))) H :=
  RunsTo.hin N 60 [⟨2,2,.bool true,H⟩] fun kf hk=>⟨_,by kernel_rfl,(oB H (decide_eq_true g0) .nil)⟩
theorem sf_b_1 (N:Nat) (db n:Nat) (cap:Option Nat) (H:Heap) (x:Nat) (lo:Nat) (hi:Nat) (fi:Nat) (r:Nat) {y11:HV} {a0:HV} {v0:HV} {a1:HV} {v1:HV} {c0:Int} {H0:Heap} {a2:HV} {v2:HV} {a3:HV} {v3:HV} {c1:Int} {H1:Heap} {a4:HV} {v4:HV} {a5:HV} {v5:HV} {a6:HV} {H2:Heap} {a7:HV} {H3:Heap} (g0:¬ ((hi:Int) ≤ IntKind.i64.wrap (IntKind.i64.wrap (2 * (r:Int))+1))) (g1:IntKind.i64.wrap (IntKind.i64.wrap (IntKind.i64.wrap (2 * (r:Int))+1)+1) < (hi:Int)) (g2:idxV Tp 24 (.c db n cap) (.i (IntKind.i64.wrap ((fi:Int)+IntKind.i64.wrap (IntKind.i64.wrap (2 * (r:Int))+1))))=some (a0)) (g3:loadV Tp H 3 (a0)=some (v0)) (g4:idxV Tp 24 (.c db n cap) (.i (IntKind.i64.wrap (IntKind.i64.wrap ((fi:Int)+IntKind.i64.wrap (IntKind.i64.wrap (2 * (r:Int))+1))+1)))=some (a1)) (g5:loadV Tp H 3 (a1)=some (v1)) (g6:∀ kf,N ≤ kf → callN Tp polSo (kf+1) 69 [v0,v1,.ptr xb 0 0 1] H=some (.i c0,H0)) (g7:c0 < 0) (g8:idxV Tp 24 (.c db n cap) (.i (IntKind.i64.wrap ((fi:Int)+(r:Int))))=some (a2)) (g9:loadV Tp H0 3 (a2)=some (v2)) (g10:idxV Tp 24 (.c db n cap) (.i (IntKind.i64.wrap ((fi:Int)+IntKind.i64.wrap (IntKind.i64.wrap (IntKind.i64.wrap (2 * (r:Int))+1)+1))))=some (a3)) (g11:loadV Tp H0 3 (a3)=some (v3)) (g12:∀ kf,N ≤ kf → callN Tp polSo (kf+1) 69 [v2,v3,.ptr xb 0 0 1] H0=some (.i c1,H1)) (g13:c1 < 0) (g14:idxV Tp 24 (.c db n cap) (.i (IntKind.i64.wrap ((fi:Int)+IntKind.i64.wrap (IntKind.i64.wrap (IntKind.i64.wrap (2 * (r:Int))+1)+1))))=some (a4)) (g15:loadV Tp H1 3 (a4)=some (v4)) (g16:idxV Tp 24 (.c db n cap) (.i (IntKind.i64.wrap ((fi:Int)+(r:Int))))=some (a5)) (g17:loadV Tp H1 3 (a5)=some (v5)) (g18:idxV Tp 24 (.c db n cap) (.i (IntKind.i64.wrap ((fi:Int)+(r:Int))))=some (a6)) (g19:storeV Tp H1 3 (a6) (v4)=some H2) (g20:idxV Tp 24 (.c db n cap) (.i (IntKind.i64.wrap ((fi:Int)+IntKind.i64.wrap (IntKind.i64.wrap (IntKind.i64.wrap (2 * (r:Int))+1)+1))))=some (a7)) (g21:storeV Tp H2 3 (a7) (v5)=some H3):RT polSo 109 (sub [1,0,0] B109) (env109 (.c db n cap) (.i (lo:Int)) (.i (hi:Int)) (.i (fi:Int)) (.func 69 [] [.ptr xb 0 0 1]) (.i (r:Int)) y11) H .normal (env109 (.c db n cap) (.i (lo:Int)) (.i (hi:Int)) (.i (fi:Int)) (.func 69 [] [.ptr xb 0 0 1]) (.i (IntKind.i64.wrap (IntKind.i64.wrap (IntKind.i64.wrap (2 * (r:Int))+1)+1))) (.i (IntKind.i64.wrap (IntKind.i64.wrap (IntKind.i64.wrap (2 * (r:Int))+1)+1)))) H3 :=
  RunsTo.hin N 60 [⟨2,2,.bool false,H⟩,⟨3,3,.bool true,H⟩,⟨3,10,a0,H⟩,⟨3,11,v0,H⟩,⟨3,17,a1,H⟩,⟨3,18,v1,H⟩,⟨3,19,.i c0,H0⟩,⟨3,20,.bool true,H0⟩,⟨5,5,a2,H0⟩,⟨5,6,v2,H0⟩,⟨5,11,a3,H0⟩,⟨5,12,v3,H0⟩,⟨5,13,.i c1,H1⟩,⟨5,14,.bool true,H1⟩,⟨6,12,a4,H1⟩,⟨6,13,v4,H1⟩,⟨6,18,a5,H1⟩,⟨6,19,v5,H1⟩,⟨6,20,a6,H1⟩,⟨6,21,.tuple [],H2⟩,⟨6,22,a7,H2⟩,⟨6,23,.tuple [],H3⟩] fun kf hk=>⟨_,by kernel_rfl,(oB H (decide_eq_false g0) (oB H (decide_eq_true g1) (oP H g2 (oP H g3 (oP H g4 (oP H g5 (oC (g6 kf (by omega)) (oB H0 (decide_eq_true g7) (oP H0 g8 (oP H0 g9 (oP H0 g10 (oP H0 g11 (oC (g12 kf (by omega)) (oB H1 (decide_eq_true g13) (oP H1 g14 (oP H1 g15 (oP H1 g16 (oP H1 g17 (oP H1 g18 (oS g19 (oP H2 g20 (oS g21 .nil))))))))))))))))))))))⟩
theorem sf_b_2 (N:Nat) (db n:Nat) (cap:Option Nat) (H:Heap) (x:Nat) (lo:Nat) (hi:Nat) (fi:Nat) (r:Nat) {y11:HV} {a0:HV} {v0:HV} {a1:HV} {v1:HV} {c0:Int} {H0:Heap} {a2:HV} {v2:HV} {a3:HV} {v3:HV} {c1:Int} {H1:Heap} (g0:¬ ((hi:Int) ≤ IntKind.i64.wrap (IntKind.i64.wrap (2 * (r:Int))+1))) (g1:IntKind.i64.wrap (IntKind.i64.wrap (IntKind.i64.wrap (2 * (r:Int))+1)+1) < (hi:Int)) (g2:idxV Tp 24 (.c db n cap) (.i (IntKind.i64.wrap ((fi:Int)+IntKind.i64.wrap (IntKind.i64.wrap (2 * (r:Int))+1))))=some (a0)) (g3:loadV Tp H 3 (a0)=some (v0)) (g4:idxV Tp 24 (.c db n cap) (.i (IntKind.i64.wrap (IntKind.i64.wrap ((fi:Int)+IntKind.i64.wrap (IntKind.i64.wrap (2 * (r:Int))+1))+1)))=some (a1)) (g5:loadV Tp H 3 (a1)=some (v1)) (g6:∀ kf,N ≤ kf → callN Tp polSo (kf+1) 69 [v0,v1,.ptr xb 0 0 1] H=some (.i c0,H0)) (g7:c0 < 0) (g8:idxV Tp 24 (.c db n cap) (.i (IntKind.i64.wrap ((fi:Int)+(r:Int))))=some (a2)) (g9:loadV Tp H0 3 (a2)=some (v2)) (g10:idxV Tp 24 (.c db n cap) (.i (IntKind.i64.wrap ((fi:Int)+IntKind.i64.wrap (IntKind.i64.wrap (IntKind.i64.wrap (2 * (r:Int))+1)+1))))=some (a3)) (g11:loadV Tp H0 3 (a3)=some (v3)) (g12:∀ kf,N ≤ kf → callN Tp polSo (kf+1) 69 [v2,v3,.ptr xb 0 0 1] H0=some (.i c1,H1)) (g13:¬ (c1 < 0)):RT polSo 109 (sub [1,0,0] B109) (env109 (.c db n cap) (.i (lo:Int)) (.i (hi:Int)) (.i (fi:Int)) (.func 69 [] [.ptr xb 0 0 1]) (.i (r:Int)) y11) H .ret (env109 (.c db n cap) (.i (lo:Int)) (.i (hi:Int)) (.i (fi:Int)) (.func 69 [] [.ptr xb 0 0 1]) (.i (r:Int)) (.i (IntKind.i64.wrap (IntKind.i64.wrap (IntKind.i64.wrap (2 * (r:Int))+1)+1)))) H1 :=
  RunsTo.hin N 60 [⟨2,2,.bool false,H⟩,⟨3,3,.bool true,H⟩,⟨3,10,a0,H⟩,⟨3,11,v0,H⟩,⟨3,17,a1,H⟩,⟨3,18,v1,H⟩,⟨3,19,.i c0,H0⟩,⟨3,20,.bool true,H0⟩,⟨5,5,a2,H0⟩,⟨5,6,v2,H0⟩,⟨5,11,a3,H0⟩,⟨5,12,v3,H0⟩,⟨5,13,.i c1,H1⟩,⟨5,14,.bool false,H1⟩] fun kf hk=>⟨_,by kernel_rfl,(oB H (decide_eq_false g0) (oB H (decide_eq_true g1) (oP H g2 (oP H g3 (oP H g4 (oP H g5 (oC (g6 kf (by omega)) (oB H0 (decide_eq_true g7) (oP H0 g8 (oP H0 g9 (oP H0 g10 (oP H0 g11 (oC (g12 kf (by omega)) (oB H1 (decide_eq_false g13) .nil))))))))))))))⟩
theorem sf_b_3 (N:Nat) (db n:Nat) (cap:Option Nat) (H:Heap) (x:Nat) (lo:Nat) (hi:Nat) (fi:Nat) (r:Nat) {y11:HV} {a0:HV} {v0:HV} {a1:HV} {v1:HV} {c0:Int} {H0:Heap} {a2:HV} {v2:HV} {a3:HV} {v3:HV} {c1:Int} {H1:Heap} {a4:HV} {v4:HV} {a5:HV} {v5:HV} {a6:HV} {H2:Heap} {a7:HV} {H3:Heap} (g0:¬ ((hi:Int) ≤ IntKind.i64.wrap (IntKind.i64.wrap (2 * (r:Int))+1))) (g1:IntKind.i64.wrap (IntKind.i64.wrap (IntKind.i64.wrap (2 * (r:Int))+1)+1) < (hi:Int)) (g2:idxV Tp 24 (.c db n cap) (.i (IntKind.i64.wrap ((fi:Int)+IntKind.i64.wrap (IntKind.i64.wrap (2 * (r:Int))+1))))=some (a0)) (g3:loadV Tp H 3 (a0)=some (v0)) (g4:idxV Tp 24 (.c db n cap) (.i (IntKind.i64.wrap (IntKind.i64.wrap ((fi:Int)+IntKind.i64.wrap (IntKind.i64.wrap (2 * (r:Int))+1))+1)))=some (a1)) (g5:loadV Tp H 3 (a1)=some (v1)) (g6:∀ kf,N ≤ kf → callN Tp polSo (kf+1) 69 [v0,v1,.ptr xb 0 0 1] H=some (.i c0,H0)) (g7:¬ (c0 < 0)) (g8:idxV Tp 24 (.c db n cap) (.i (IntKind.i64.wrap ((fi:Int)+(r:Int))))=some (a2)) (g9:loadV Tp H0 3 (a2)=some (v2)) (g10:idxV Tp 24 (.c db n cap) (.i (IntKind.i64.wrap ((fi:Int)+IntKind.i64.wrap (IntKind.i64.wrap (2 * (r:Int))+1))))=some (a3)) (g11:loadV Tp H0 3 (a3)=some (v3)) (g12:∀ kf,N ≤ kf → callN Tp polSo (kf+1) 69 [v2,v3,.ptr xb 0 0 1] H0=some (.i c1,H1)) (g13:c1 < 0) (g14:idxV Tp 24 (.c db n cap) (.i (IntKind.i64.wrap ((fi:Int)+IntKind.i64.wrap (IntKind.i64.wrap (2 * (r:Int))+1))))=some (a4)) (g15:loadV Tp H1 3 (a4)=some (v4)) (g16:idxV Tp 24 (.c db n cap) (.i (IntKind.i64.wrap ((fi:Int)+(r:Int))))=some (a5)) (g17:loadV Tp H1 3 (a5)=some (v5)) (g18:idxV Tp 24 (.c db n cap) (.i (IntKind.i64.wrap ((fi:Int)+(r:Int))))=some (a6)) (g19:storeV Tp H1 3 (a6) (v4)=some H2) (g20:idxV Tp 24 (.c db n cap) (.i (IntKind.i64.wrap ((fi:Int)+IntKind.i64.wrap (IntKind.i64.wrap (2 * (r:Int))+1))))=some (a7)) (g21:storeV Tp H2 3 (a7) (v5)=some H3):RT polSo 109 (sub [1,0,0] B109) (env109 (.c db n cap) (.i (lo:Int)) (.i (hi:Int)) (.i (fi:Int)) (.func 69 [] [.ptr xb 0 0 1]) (.i (r:Int)) y11) H .normal (env109 (.c db n cap) (.i (lo:Int)) (.i (hi:Int)) (.i (fi:Int)) (.func 69 [] [.ptr xb 0 0 1]) (.i (IntKind.i64.wrap (IntKind.i64.wrap (2 * (r:Int))+1))) (.i (IntKind.i64.wrap (IntKind.i64.wrap (2 * (r:Int))+1)))) H3 :=
  RunsTo.hin N 60 [⟨2,2,.bool false,H⟩,⟨3,3,.bool true,H⟩,⟨3,10,a0,H⟩,⟨3,11,v0,H⟩,⟨3,17,a1,H⟩,⟨3,18,v1,H⟩,⟨3,19,.i c0,H0⟩,⟨3,20,.bool false,H0⟩,⟨5,5,a2,H0⟩,⟨5,6,v2,H0⟩,⟨5,11,a3,H0⟩,⟨5,12,v3,H0⟩,⟨5,13,.i c1,H1⟩,⟨5,14,.bool true,H1⟩,⟨6,12,a4,H1⟩,⟨6,13,v4,H1⟩,⟨6,18,a5,H1⟩,⟨6,19,v5,H1⟩,⟨6,20,a6,H1⟩,⟨6,21,.tuple [],H2⟩,⟨6,22,a7,H2⟩,⟨6,23,.tuple [],H3⟩] fun kf hk=>⟨_,by kernel_rfl,(oB H (decide_eq_false g0) (oB H (decide_eq_true g1) (oP H g2 (oP H g3 (oP H g4 (oP H g5 (oC (g6 kf (by omega)) (oB H0 (decide_eq_false g7) (oP H0 g8 (oP H0 g9 (oP H0 g10 (oP H0 g11 (oC (g12 kf (by omega)) (oB H1 (decide_eq_true g13) (oP H1 g14 (oP H1 g15 (oP H1 g16 (oP H1 g17 (oP H1 g18 (oS g19 (oP H2 g20 (oS g21 .nil))))))))))))))))))))))⟩
theorem sf_b_4 (N:Nat) (db n:Nat) (cap:Option Nat) (H:Heap) (x:Nat) (lo:Nat) (hi:Nat) (fi:Nat) (r:Nat) {y11:HV} {a0:HV} {v0:HV} {a1:HV} {v1:HV} {c0:Int} {H0:Heap} {a2:HV} {v2:HV} {a3:HV} {v3:HV} {c1:Int} {H1:Heap} (g0:¬ ((hi:Int) ≤ IntKind.i64.wrap (IntKind.i64.wrap (2 * (r:Int))+1))) (g1:IntKind.i64.wrap (IntKind.i64.wrap (IntKind.i64.wrap (2 * (r:Int))+1)+1) < (hi:Int)) (g2:idxV Tp 24 (.c db n cap) (.i (IntKind.i64.wrap ((fi:Int)+IntKind.i64.wrap (IntKind.i64.wrap (2 * (r:Int))+1))))=some (a0)) (g3:loadV Tp H 3 (a0)=some (v0)) (g4:idxV Tp 24 (.c db n cap) (.i (IntKind.i64.wrap (IntKind.i64.wrap ((fi:Int)+IntKind.i64.wrap (IntKind.i64.wrap (2 * (r:Int))+1))+1)))=some (a1)) (g5:loadV Tp H 3 (a1)=some (v1)) (g6:∀ kf,N ≤ kf → callN Tp polSo (kf+1) 69 [v0,v1,.ptr xb 0 0 1] H=some (.i c0,H0)) (g7:¬ (c0 < 0)) (g8:idxV Tp 24 (.c db n cap) (.i (IntKind.i64.wrap ((fi:Int)+(r:Int))))=some (a2)) (g9:loadV Tp H0 3 (a2)=some (v2)) (g10:idxV Tp 24 (.c db n cap) (.i (IntKind.i64.wrap ((fi:Int)+IntKind.i64.wrap (IntKind.i64.wrap (2 * (r:Int))+1))))=some (a3)) (g11:loadV Tp H0 3 (a3)=some (v3)) (g12:∀ kf,N ≤ kf → callN Tp polSo (kf+1) 69 [v2,v3,.ptr xb 0 0 1] H0=some (.i c1,H1)) (g13:¬ (c1 < 0)):RT polSo 109 (sub [1,0,0] B109) (env109 (.c db n cap) (.i (lo:Int)) (.i (hi:Int)) (.i (fi:Int)) (.func 69 [] [.ptr xb 0 0 1]) (.i (r:Int)) y11) H .ret (env109 (.c db n cap) (.i (lo:Int)) (.i (hi:Int)) (.i (fi:Int)) (.func 69 [] [.ptr xb 0 0 1]) (.i (r:Int)) (.i (IntKind.i64.wrap (IntKind.i64.wrap (2 * (r:Int))+1)))) H1 :=
  RunsTo.hin N 60 [⟨2,2,.bool false,H⟩,⟨3,3,.bool true,H⟩,⟨3,10,a0,H⟩,⟨3,11,v0,H⟩,⟨3,17,a1,H⟩,⟨3,18,v1,H⟩,⟨3,19,.i c0,H0⟩,⟨3,20,.bool false,H0⟩,⟨5,5,a2,H0⟩,⟨5,6,v2,H0⟩,⟨5,11,a3,H0⟩,⟨5,12,v3,H0⟩,⟨5,13,.i c1,H1⟩,⟨5,14,.bool false,H1⟩] fun kf hk=>⟨_,by kernel_rfl,(oB H (decide_eq_false g0) (oB H (decide_eq_true g1) (oP H g2 (oP H g3 (oP H g4 (oP H g5 (oC (g6 kf (by omega)) (oB H0 (decide_eq_false g7) (oP H0 g8 (oP H0 g9 (oP H0 g10 (oP H0 g11 (oC (g12 kf (by omega)) (oB H1 (decide_eq_false g13) .nil))))))))))))))⟩
theorem sf_b_5 (N:Nat) (db n:Nat) (cap:Option Nat) (H:Heap) (x:Nat) (lo:Nat) (hi:Nat) (fi:Nat) (r:Nat) {y11:HV} {a0:HV} {v0:HV} {a1:HV} {v1:HV} {c0:Int} {H0:Heap} {a2:HV} {v2:HV} {a3:HV} {v3:HV} {a4:HV} {H1:Heap} {a5:HV} {H2:Heap} (g0:¬ ((hi:Int) ≤ IntKind.i64.wrap (IntKind.i64.wrap (2 * (r:Int))+1))) (g1:¬ (IntKind.i64.wrap (IntKind.i64.wrap (IntKind.i64.wrap (2 * (r:Int))+1)+1) < (hi:Int))) (g2:idxV Tp 24 (.c db n cap) (.i (IntKind.i64.wrap ((fi:Int)+(r:Int))))=some (a0)) (g3:loadV Tp H 3 (a0)=some (v0)) (g4:idxV Tp 24 (.c db n cap) (.i (IntKind.i64.wrap ((fi:Int)+IntKind.i64.wrap (IntKind.i64.wrap (2 * (r:Int))+1))))=some (a1)) (g5:loadV Tp H 3 (a1)=some (v1)) (g6:∀ kf,N ≤ kf → callN Tp polSo (kf+1) 69 [v0,v1,.ptr xb 0 0 1] H=some (.i c0,H0)) (g7:c0 < 0) (g8:idxV Tp 24 (.c db n cap) (.i (IntKind.i64.wrap ((fi:Int)+IntKind.i64.wrap (IntKind.i64.wrap (2 * (r:Int))+1))))=some (a2)) (g9:loadV Tp H0 3 (a2)=some (v2)) (g10:idxV Tp 24 (.c db n cap) (.i (IntKind.i64.wrap ((fi:Int)+(r:Int))))=some (a3)) (g11:loadV Tp H0 3 (a3)=some (v3)) (g12:idxV Tp 24 (.c db n cap) (.i (IntKind.i64.wrap ((fi:Int)+(r:Int))))=some (a4)) (g13:storeV Tp H0 3 (a4) (v2)=some H1) (g14:idxV Tp 24 (.c db n cap) (.i (IntKind.i64.wrap ((fi:Int)+IntKind.i64.wrap (IntKind.i64.wrap (2 * (r:Int))+1))))=some (a5)) (g15:storeV Tp H1 3 (a5) (v3)=some H2):RT polSo 109 (sub [1,0,0] B109) (env109 (.c db n cap) (.i (lo:Int)) (.i (hi:Int)) (.i (fi:Int)) (.func 69 [] [.ptr xb 0 0 1]) (.i (r:Int)) y11) H .normal (env109 (.c db n cap) (.i (lo:Int)) (.i (hi:Int)) (.i (fi:Int)) (.func 69 [] [.ptr xb 0 0 1]) (.i (IntKind.i64.wrap (IntKind.i64.wrap (2 * (r:Int))+1))) (.i (IntKind.i64.wrap (IntKind.i64.wrap (2 * (r:Int))+1)))) H2 :=
  RunsTo.hin N 60 [⟨2,2,.bool false,H⟩,⟨3,3,.bool false,H⟩,⟨5,5,a0,H⟩,⟨5,6,v0,H⟩,⟨5,11,a1,H⟩,⟨5,12,v1,H⟩,⟨5,13,.i c0,H0⟩,⟨5,14,.bool true,H0⟩,⟨6,12,a2,H0⟩,⟨6,13,v2,H0⟩,⟨6,18,a3,H0⟩,⟨6,19,v3,H0⟩,⟨6,20,a4,H0⟩,⟨6,21,.tuple [],H1⟩,⟨6,22,a5,H1⟩,⟨6,23,.tuple [],H2⟩] fun kf hk=>⟨_,by kernel_rfl,(oB H (decide_eq_false g0) (oB H (decide_eq_false g1) (oP H g2 (oP H g3 (oP H g4 (oP H g5 (oC (g6 kf (by omega)) (oB H0 (decide_eq_true g7) (oP H0 g8 (oP H0 g9 (oP H0 g10 (oP H0 g11 (oP H0 g12 (oS g13 (oP H1 g14 (oS g15 .nil))))))))))))))))⟩
theorem sf_b_6 (N:Nat) (db n:Nat) (cap:Option Nat) (H:Heap) (x:Nat) (lo:Nat) (hi:Nat) (fi:Nat) (r:Nat) {y11:HV} {a0:HV} {v0:HV} {a1:HV} {v1:HV} {c0:Int} {H0:Heap} (g0:¬ ((hi:Int) ≤ IntKind.i64.wrap (IntKind.i64.wrap (2 * (r:Int))+1))) (g1:¬ (IntKind.i64.wrap (IntKind.i64.wrap (IntKind.i64.wrap (2 * (r:Int))+1)+1) < (hi:Int))) (g2:idxV Tp 24 (.c db n cap) (.i (IntKind.i64.wrap ((fi:Int)+(r:Int))))=some (a0)) (g3:loadV Tp H 3 (a0)=some (v0)) (g4:idxV Tp 24 (.c db n cap) (.i (IntKind.i64.wrap ((fi:Int)+IntKind.i64.wrap (IntKind.i64.wrap (2 * (r:Int))+1))))=some (a1)) (g5:loadV Tp H 3 (a1)=some (v1)) (g6:∀ kf,N ≤ kf → callN Tp polSo (kf+1) 69 [v0,v1,.ptr xb 0 0 1] H=some (.i c0,H0)) (g7:¬ (c0 < 0)):RT polSo 109 (sub [1,0,0] B109) (env109 (.c db n cap) (.i (lo:Int)) (.i (hi:Int)) (.i (fi:Int)) (.func 69 [] [.ptr xb 0 0 1]) (.i (r:Int)) y11) H .ret (env109 (.c db n cap) (.i (lo:Int)) (.i (hi:Int)) (.i (fi:Int)) (.func 69 [] [.ptr xb 0 0 1]) (.i (r:Int)) (.i (IntKind.i64.wrap (IntKind.i64.wrap (2 * (r:Int))+1)))) H0 :=
  RunsTo.hin N 60 [⟨2,2,.bool false,H⟩,⟨3,3,.bool false,H⟩,⟨5,5,a0,H⟩,⟨5,6,v0,H⟩,⟨5,11,a1,H⟩,⟨5,12,v1,H⟩,⟨5,13,.i c0,H0⟩,⟨5,14,.bool false,H0⟩] fun kf hk=>⟨_,by kernel_rfl,(oB H (decide_eq_false g0) (oB H (decide_eq_false g1) (oP H g2 (oP H g3 (oP H g4 (oP H g5 (oC (g6 kf (by omega)) (oB H0 (decide_eq_false g7) .nil))))))))⟩
noncomputable def B100:Code:=Try.f100.body.getD .skip
abbrev env100 (v0 v1 v2 v3 v8 v9 v10 v11 v12:HV):Env:=[(0,v0),(1,v1),(2,v2),(3,v3),(8,v8),(9,v9),(10,v10),(11,v11),(12,v12)]
theorem hs_a_0 (N:Nat) (db n:Nat) (cap:Option Nat) (H:Heap) (x:Nat) (a:Nat) (b:Nat):RT polSo 100 (sub [0] B100) [(0,.c db n cap),(1,.i (a:Int)),(2,.i (b:Int)),(3,.func 69 [] [.ptr xb 0 0 1])] H .normal (env100 (.c db n cap) (.i (a:Int)) (.i (b:Int)) (.func 69 [] [.ptr xb 0 0 1]) (.i (a:Int)) Ud Ud Ud Ud) H :=
  RunsTo.hin N 60 [] fun kf hk=>⟨_,by kernel_rfl,.nil⟩
theorem hs_b_0 (N:Nat) (db n:Nat) (cap:Option Nat) (H:Heap) (x:Nat) (a:Nat) (b:Nat) (fi:Nat) {y9 y10 y11 y12:HV}:RT polSo 100 (sub [1,0] B100) (env100 (.c db n cap) (.i (a:Int)) (.i (b:Int)) (.func 69 [] [.ptr xb 0 0 1]) (.i (fi:Int)) y9 y10 y11 y12) H .normal (env100 (.c db n cap) (.i (a:Int)) (.i (b:Int)) (.func 69 [] [.ptr xb 0 0 1]) (.i (fi:Int)) (.i 0) y10 y11 y12) H :=
  RunsTo.hin N 60 [] fun kf hk=>⟨_,by kernel_rfl,.nil⟩
theorem hs_c_0 (N:Nat) (db n:Nat) (cap:Option Nat) (H:Heap) (x:Nat) (a:Nat) (b:Nat) (fi:Nat) {y10 y11 y12:HV}:RT polSo 100 (sub [1,1,0] B100) (env100 (.c db n cap) (.i (a:Int)) (.i (b:Int)) (.func 69 [] [.ptr xb 0 0 1]) (.i (fi:Int)) (.i 0) y10 y11 y12) H .normal (env100 (.c db n cap) (.i (a:Int)) (.i (b:Int)) (.func 69 [] [.ptr xb 0 0 1]) (.i (fi:Int)) (.i 0) (.i (IntKind.i64.wrap ((b:Int) - (a:Int)))) y11 y12) H :=
  RunsTo.hin N 60 [] fun kf hk=>⟨_,by kernel_rfl,.nil⟩
theorem hs_d_0 (N:Nat) (db n:Nat) (cap:Option Nat) (H:Heap) (x:Nat) (a:Nat) (b:Nat) (fi:Nat) (hi:Nat) {y11 y12:HV}:RT polSo 100 (sub [1,1,1,0,0] B100) (env100 (.c db n cap) (.i (a:Int)) (.i (b:Int)) (.func 69 [] [.ptr xb 0 0 1]) (.i (fi:Int)) (.i 0) (.i (hi:Int)) y11 y12) H .normal (env100 (.c db n cap) (.i (a:Int)) (.i (b:Int)) (.func 69 [] [.ptr xb 0 0 1]) (.i (fi:Int)) (.i 0) (.i (hi:Int)) (.i (IntKind.i64.wrap ((IntKind.i64.wrap ((hi:Int) - 1):Int).tdiv 2))) y12) H :=
  RunsTo.hin N 60 [] fun kf hk=>⟨_,by kernel_rfl,.nil⟩
theorem hs_e_0 (N:Nat) (db n:Nat) (cap:Option Nat) (H:Heap) (x:Nat) (a:Nat) (b:Nat) (fi:Nat) (hi:Nat) (x:Int) {y12:HV} {H0:Heap} (g0:0 ≤ x) (g1:∀ kf,N ≤ kf → callN Tp polSo (kf+1) 109 [.c db n cap,.i x,.i (hi:Int),.i (fi:Int),.func 69 [] [.ptr xb 0 0 1]] H=some (.tuple [],H0)):RT polSo 100 (sub [1,1,1,0,1,0,0] B100) (env100 (.c db n cap) (.i (a:Int)) (.i (b:Int)) (.func 69 [] [.ptr xb 0 0 1]) (.i (fi:Int)) (.i 0) (.i (hi:Int)) (.i x) y12) H .normal (env100 (.c db n cap) (.i (a:Int)) (.i (b:Int)) (.func 69 [] [.ptr xb 0 0 1]) (.i (fi:Int)) (.i 0) (.i (hi:Int)) (.i (IntKind.i64.wrap (x - 1))) y12) H0 :=
  RunsTo.hin N 60 [⟨4,1,.bool true,H⟩,⟨6,5,.tuple [],H0⟩] fun kf hk=>⟨_,by kernel_rfl,(oB H (decide_eq_true g0) (oC (g1 kf (by omega)) .nil))⟩
theorem hs_e_1 (N:Nat) (db n:Nat) (cap:Option Nat) (H:Heap) (x:Nat) (a:Nat) (b:Nat) (fi:Nat) (hi:Nat) (x:Int) {y12:HV}(g0:¬ (0 ≤ x)):RT polSo 100 (sub [1,1,1,0,1,0,0] B100) (env100 (.c db n cap) (.i (a:Int)) (.i (b:Int)) (.func 69 [] [.ptr xb 0 0 1]) (.i (fi:Int)) (.i 0) (.i (hi:Int)) (.i x) y12) H (.exit 0) (env100 (.c db n cap) (.i (a:Int)) (.i (b:Int)) (.func 69 [] [.ptr xb 0 0 1]) (.i (fi:Int)) (.i 0) (.i (hi:Int)) (.i x) y12) H :=
  RunsTo.hin N 60 [⟨4,1,.bool false,H⟩] fun kf hk=>⟨_,by kernel_rfl,(oB H (decide_eq_false g0) .nil)⟩
theorem hs_f_0 (N:Nat) (db n:Nat) (cap:Option Nat) (H:Heap) (x:Nat) (a:Nat) (b:Nat) (fi:Nat) (hi:Nat) {y11 y12:HV}:RT polSo 100 (sub [1,1,1,1,0] B100) (env100 (.c db n cap) (.i (a:Int)) (.i (b:Int)) (.func 69 [] [.ptr xb 0 0 1]) (.i (fi:Int)) (.i 0) (.i (hi:Int)) y11 y12) H .normal (env100 (.c db n cap) (.i (a:Int)) (.i (b:Int)) (.func 69 [] [.ptr xb 0 0 1]) (.i (fi:Int)) (.i 0) (.i (hi:Int)) y11 (.i (IntKind.i64.wrap ((hi:Int) - 1)))) H :=
  RunsTo.hin N 60 [] fun kf hk=>⟨_,by kernel_rfl,.nil⟩
theorem hs_g_0 (N:Nat) (db n:Nat) (cap:Option Nat) (H:Heap) (x:Nat) (a:Nat) (b:Nat) (fi:Nat) (x:Int) {y10 y11:HV} {a0:HV} {v0:HV} {a1:HV} {v1:HV} {a2:HV} {H0:Heap} {a3:HV} {H1:Heap} {H2:Heap} (g0:0 ≤ x) (g1:idxV Tp 24 (.c db n cap) (.i (IntKind.i64.wrap ((fi:Int)+x)))=some (a0)) (g2:loadV Tp H 3 (a0)=some (v0)) (g3:idxV Tp 24 (.c db n cap) (.i (fi:Int))=some (a1)) (g4:loadV Tp H 3 (a1)=some (v1)) (g5:idxV Tp 24 (.c db n cap) (.i (fi:Int))=some (a2)) (g6:storeV Tp H 3 (a2) (v0)=some H0) (g7:idxV Tp 24 (.c db n cap) (.i (IntKind.i64.wrap ((fi:Int)+x)))=some (a3)) (g8:storeV Tp H0 3 (a3) (v1)=some H1) (g9:∀ kf,N ≤ kf → callN Tp polSo (kf+1) 109 [.c db n cap,.i 0,.i x,.i (fi:Int),.func 69 [] [.ptr xb 0 0 1]] H1=some (.tuple [],H2)):RT polSo 100 (sub [1,1,1,1,1,0,0] B100) (env100 (.c db n cap) (.i (a:Int)) (.i (b:Int)) (.func 69 [] [.ptr xb 0 0 1]) (.i (fi:Int)) (.i 0) y10 y11 (.i x)) H .normal (env100 (.c db n cap) (.i (a:Int)) (.i (b:Int)) (.func 69 [] [.ptr xb 0 0 1]) (.i (fi:Int)) (.i 0) y10 y11 (.i (IntKind.i64.wrap (x - 1)))) H2 :=
  RunsTo.hin N 60 [⟨8,1,.bool true,H⟩,⟨10,10,a0,H⟩,⟨10,11,v0,H⟩,⟨10,14,a1,H⟩,⟨10,15,v1,H⟩,⟨10,16,a2,H⟩,⟨10,17,.tuple [],H0⟩,⟨10,18,a3,H0⟩,⟨10,19,.tuple [],H1⟩,⟨11,5,.tuple [],H2⟩] fun kf hk=>⟨_,by kernel_rfl,(oB H (decide_eq_true g0) (oP H g1 (oP H g2 (oP H g3 (oP H g4 (oP H g5 (oS g6 (oP H0 g7 (oS g8 (oC (g9 kf (by omega)) .nil))))))))))⟩
theorem hs_g_1 (N:Nat) (db n:Nat) (cap:Option Nat) (H:Heap) (x:Nat) (a:Nat) (b:Nat) (fi:Nat) (x:Int) {y10 y11:HV}(g0:¬ (0 ≤ x)):RT polSo 100 (sub [1,1,1,1,1,0,0] B100) (env100 (.c db n cap) (.i (a:Int)) (.i (b:Int)) (.func 69 [] [.ptr xb 0 0 1]) (.i (fi:Int)) (.i 0) y10 y11 (.i x)) H (.exit 2) (env100 (.c db n cap) (.i (a:Int)) (.i (b:Int)) (.func 69 [] [.ptr xb 0 0 1]) (.i (fi:Int)) (.i 0) y10 y11 (.i x)) H :=
  RunsTo.hin N 60 [⟨8,1,.bool false,H⟩] fun kf hk=>⟨_,by kernel_rfl,(oB H (decide_eq_false g0) .nil)⟩
end
end Go.Proofs.Ytiejmoglooaalaa
end
section
open Go Go.HL Go.HL.So
namespace Go.Proofs.Ytiejmoglooaalaa
set_option linter.unusedSectionVars false
open Go.Proofs.Try renaming prog → Tp
open Go.HL.HV renaming undef → Ud
section
variable {α:Type} [Inhabited α]
def bE (enc:α → HV) (l:List α):Blk:=.arr 1 (l.map enc) true 0
def Mm (enc:α → HV) (H:Heap) (db:Nat) (l:List α) (T:Heap):Heap:=H.set db (bE enc l) ++ T
structure So (xb:Nat) (enc:α → HV) (lt:α → α → Prop) (dom:α → Prop) (H:Heap) (db n:Nat):Prop where
  nb:n ≤ 60000
  hdb:db < H.length
  mx:mxs H ≤ H.length
  ld:∀ (l:List α) (T:Heap) (i:Nat),l.length=n → i < n → loadV Tp (Mm enc H db l T) 3 (.ptr db i 0 n)=some (enc (at_ l i))
  st:∀ (l:List α) (T:Heap) (i:Nat) (x:α),l.length=n → i < n → storeV Tp (Mm enc H db l T) 3 (.ptr db i 0 n) (enc x)=some (Mm enc H db (l.set i x) T)
  call:∀ (l:List α) (T:Heap) (x y:α),l.length=n → mxs T=0 → dom x → dom y → ∃ c N,(∀ kf,N ≤ kf → callN Tp polSo (kf+1) 69 [enc x,enc y,.ptr xb 0 0 1] (Mm enc H db l T)=some (.int .i64 c,Mm enc H db l T))∧(c < 0 ↔ lt x y)
end
section
variable {α:Type} [Inhabited α]
variable {xb:Nat} {enc:α → HV} {lt:α → α → Prop} {dom:α → Prop} {H:Heap} {db n:Nat} {cap:Option Nat}
theorem Mm_len (l l':List α) (T T':Heap) (h:T.length=T'.length):(Mm enc H db l T).length=(Mm enc H db l' T').length:=by simp [Mm,h]
theorem gcM (l l':List α) (T T':Heap) (r:Nat) (h:T.length=T'.length):gc (Mm enc H db l T).length r (Mm enc H db l' T')=Mm enc H db l' T':=gc_eq r (Mm_len l' l T' T h.symm)
theorem u24s:Tp.underlying 24=some (.slice 3):=by kernel_rfl
theorem z3s:tySize Tp 3=some 1:=by kernel_rfl
theorem ixs {i:Nat} {e:Int} (he:e=(i:Int)) (hi:i < n):idxV Tp 24 (.sl db 0 n cap n 1) (.int .i64 e)=some (.ptr db i 0 n):=by
  subst he
  have:=idx_sl (P:=Tp) (t:=24) (b:=db) (len:=n) (tot:=n) (cap:=cap) (ik:=.i64) (n:=(i:Int)) u24s z3s (by omega) (by omega)
  rwa [Int.toNat_natCast] at this
theorem So.ct (S:So xb enc lt dom H db n) {l:List α} {T:Heap} {x y:α} (hl:l.length=n) (hT:mxs T=0) (hx:dom x) (hy:dom y) (h:lt x y):∃ c N,(∀ kf,N ≤ kf → callN Tp polSo (kf+1) 69 [enc x,enc y,.ptr xb 0 0 1] (Mm enc H db l T)=some (.int .i64 c,Mm enc H db l T))∧c < 0:=by
  obtain ⟨c,N,hN,hc⟩:=S.call l T x y hl hT hx hy
  exact ⟨c,N,hN,hc.2 h⟩
theorem So.cf (S:So xb enc lt dom H db n) {l:List α} {T:Heap} {x y:α} (hl:l.length=n) (hT:mxs T=0) (hx:dom x) (hy:dom y) (h:¬ lt x y):∃ c N,(∀ kf,N ≤ kf → callN Tp polSo (kf+1) 69 [enc x,enc y,.ptr xb 0 0 1] (Mm enc H db l T)=some (.int .i64 c,Mm enc H db l T))∧¬ (c < 0):=by
  obtain ⟨c,N,hN,hc⟩:=S.call l T x y hl hT hx hy
  exact ⟨c,N,hN,fun q=>h (hc.1 q)⟩
def Dm (dom:α → Prop) (l:List α):Prop:=∀ x ∈ l,dom x
theorem Dm.at {l:List α} (h:Dm dom l) {i:Nat} (hi:i < l.length):dom (at_ l i):=by
  have:at_ l i=l[i]:=by simp [at_,List.getD,List.getElem?_eq_getElem hi]
  rw [this]; exact h _ (List.getElem_mem hi)
theorem Dm.sw {l l':List α} {a b:Nat} (h:Dm dom l) (hs:Sw a b l l') (hb:b ≤ l.length):Dm dom l':=hs.mem hb h
theorem sw_len {l l':List α} {a b:Nat} (hs:Sw a b l l') (hl:l.length=n):l'.length=n:=hs.len.trans hl
theorem So.st2 (S:So xb enc lt dom H db n) {l:List α} {T:Heap} {i j:Nat} (hl:l.length=n) (hi:i < n) (hj:j < n):storeV Tp (Mm enc H db l T) 3 (.ptr db i 0 n) (enc (at_ l j))=some (Mm enc H db (l.set i (at_ l j)) T)∧storeV Tp (Mm enc H db (l.set i (at_ l j)) T) 3 (.ptr db j 0 n) (enc (at_ l i))=some (Mm enc H db (swp l i j) T) :=
  ⟨S.st l T i _ hl hi,S.st _ T j _ (by simpa using hl) hj⟩
theorem is_in (S:So xb enc lt dom H db n) (hL:Lin lt) {T:Heap} (hT:mxs T=0) {a b i:Nat} (hi:i < n):∀ (j:Nat) (l:List α),l.length=n → j ≤ i → a ≤ j → Dm dom l → Sink lt a (i+1) j l →
    ∃ y l',RT polSo 99 (sub [1,0,0,1,0,0,1,0] B99) (env99 (.sl db 0 n cap n 1) (.int .i64 (a:Int)) (.int .i64 (b:Int)) (.func 69 [] [.ptr xb 0 0 1]) (.int .i64 (i:Int)) (.int .i64 (j:Int))) (Mm enc H db l T) (.exit 2) (env99 (.sl db 0 n cap n 1) (.int .i64 (a:Int)) (.int .i64 (b:Int)) (.func 69 [] [.ptr xb 0 0 1]) (.int .i64 (i:Int)) y) (Mm enc H db l' T)∧Sw a (i+1) l l'∧Sorted lt a (i+1) l':=by
  have hn:=S.nb
  intro j
  induction j with
  | zero =>
    intro l hl hj ha hD hS
    exact ⟨_,l,lpo (is_d_2 (xb:=xb) 0 db n cap (Mm enc H db l T) 0 a b i 0 (by omega)),.refl,sink_end hL hS (.inl (Nat.zero_le _))⟩
  | succ j ih =>
    intro l hl hj ha hD hS
    by_cases c1:a < j+1
    · by_cases c2:lt (at_ l (j+1)) (at_ l j)
      · obtain ⟨cc,N,hN,hc⟩:=S.ct (T:=T) hl hT (hD.at (i:=j+1) (by omega)) (hD.at (i:=j) (by omega)) c2
        obtain ⟨s1,s2⟩:=S.st2 (T:=T) hl (i:=j+1) (j:=j) (by omega) (by omega)
        have sw:Sw a (i+1) l (swp l (j+1) j):=Sw.one (by omega) (by omega) (by omega) (by omega)
        have st:=is_d_0 (xb:=xb) N db n cap (Mm enc H db l T) 0 a b i (j+1) (by omega) (ixs (i:=j+1) (by omega) (by omega)) (S.ld l T (j+1) hl (by omega)) (ixs (i:=j) (by simp only [wrapI64]; omega) (by omega)) (S.ld l T j hl (by omega)) hN hc (ixs (i:=j) (by simp only [wrapI64]; omega) (by omega)) (S.ld l T j hl (by omega)) (ixs (i:=j+1) (by omega) (by omega)) (S.ld l T (j+1) hl (by omega)) (ixs (i:=j+1) (by omega) (by omega)) s1 (ixs (i:=j) (by simp only [wrapI64]; omega) (by omega)) s2
        rw [show IntKind.i64.wrap (((j+1:Nat):Int) - 1)=(j:Int) by simp only [wrapI64]; omega] at st
        obtain ⟨y,l',r,q1,q2⟩:=ih (swp l (j+1) j) (by rw [swp_len]; exact hl) (by omega) (by omega) (hD.sw sw (by omega)) (sink_step hL (j:=j+1) (by omega) (by omega) c1 hS c2)
        exact ⟨y,l',lop (st) (gcM _ _ _ _ _ rfl) (r),sw.trans q1,q2⟩
      · obtain ⟨cc,N,hN,hc⟩:=S.cf (T:=T) hl hT (hD.at (i:=j+1) (by omega)) (hD.at (i:=j) (by omega)) c2
        have st:=is_d_1 (xb:=xb) N db n cap (Mm enc H db l T) 0 a b i (j+1) (by omega) (ixs (i:=j+1) (by omega) (by omega)) (S.ld l T (j+1) hl (by omega)) (ixs (i:=j) (by simp only [wrapI64]; omega) (by omega)) (S.ld l T j hl (by omega)) hN hc
        exact ⟨_,l,lpo (st),.refl,sink_end hL hS (.inr c2)⟩
    · exact ⟨_,l,lpo (is_d_2 (xb:=xb) 0 db n cap (Mm enc H db l T) 0 a b i (j+1) (by omega)),.refl,sink_end hL hS (.inl (by omega))⟩
theorem is_out (S:So xb enc lt dom H db n) (hL:Lin lt) {T:Heap} (hT:mxs T=0) {a b:Nat} (hb:b ≤ n):∀ (d i:Nat) (l:List α),i+d=b → a ≤ i → l.length=n → Dm dom l → Sorted lt a i l →
    ∃ l',RT polSo 99 (sub [1,0] B99) (env99 (.sl db 0 n cap n 1) (.int .i64 (a:Int)) (.int .i64 (b:Int)) (.func 69 [] [.ptr xb 0 0 1]) (.int .i64 (i:Int)) Ud) (Mm enc H db l T) (.exit 0) (env99 (.sl db 0 n cap n 1) (.int .i64 (a:Int)) (.int .i64 (b:Int)) (.func 69 [] [.ptr xb 0 0 1]) (.int .i64 (b:Int)) Ud) (Mm enc H db l' T)∧Sw a b l l'∧Sorted lt a b l':=by
  have hn:=S.nb
  intro d
  induction d with
  | zero =>
    intro i l hi ha hl hD hS
    have:i=b:=by omega
    subst this
    exact ⟨l,lpo (sqo (is_b_1 (xb:=xb) 0 db n cap (Mm enc H db l T) 0 a i i (by omega)) (c:=sub [1,0,0] B99) (b:=sub [1,0,0,1] B99)),.refl,hS⟩
  | succ d ih =>
    intro i l hi ha hl hD hS
    obtain ⟨y,l1,r1,q1,q2⟩:=is_in S hL (cap:=cap) hT (a:=a) (b:=b) (i:=i) (by omega) i l hl (Nat.le_refl _) ha hD (sink_start hS)
    have r1':=lpi (e0:=(env99 (.sl db 0 n cap n 1) (.int .i64 (a:Int)) (.int .i64 (b:Int)) (.func 69 [] [.ptr xb 0 0 1]) (.int .i64 (i:Int)) (.int .i64 (i:Int)))) r1 (b:=sub [1,0,0,1,0,0,1,0,0] B99)
    have st:=sq (is_b_0 (xb:=xb) 0 db n cap (Mm enc H db l T) 0 a b i (by omega) (y9:=Ud)) (sq (RunsTo.block_normal (i:=1) (c:=sub [1,0,0,1,0] B99) (sq (is_c_0 (xb:=xb) 0 db n cap (Mm enc H db l T) 0 a b i) (bke (c:=sub [1,0,0,1,0,0,1] B99) (r1')) (c:=sub [1,0,0,1,0,0] B99)) (by kernel_rfl)) (is_e_0 (xb:=xb) 0 db n cap (Mm enc H db l1 T) 0 a b i) (c:=sub [1,0,0,1] B99)) (c:=sub [1,0,0] B99)
    rw [wrap_succ (by omega)] at st
    obtain ⟨l',r,q3,q4⟩:=ih (i+1) l1 (by omega) (by omega) (sw_len q1 hl) (hD.sw q1 (by omega)) q2
    exact ⟨l',lop (st) (gcM _ _ _ _ _ rfl) (r),(q1.mono (Nat.le_refl _) (by omega)).trans q3,q4⟩
theorem ins_ok (S:So xb enc lt dom H db n) (hL:Lin lt) {T:Heap} (hT:mxs T=0) {a b:Nat} (hab:a ≤ b) (hb:b ≤ n) {l:List α} (hl:l.length=n) (hD:Dm dom l) :
    ∃ l',ClS 99 [.sl db 0 n cap n 1,.int .i64 (a:Int),.int .i64 (b:Int),.func 69 [] [.ptr xb 0 0 1]] (Mm enc H db l T) (.tuple []) (Mm enc H db l' T)∧Sw a b l l'∧Sorted lt a b l':=by
  have hn:=S.nb
  have key:∃ i l',RT polSo 99 (sub [1,0] B99) (env99 (.sl db 0 n cap n 1) (.int .i64 (a:Int)) (.int .i64 (b:Int)) (.func 69 [] [.ptr xb 0 0 1]) (.int .i64 ((a+1:Nat):Int)) Ud) (Mm enc H db l T) (.exit 0) (env99 (.sl db 0 n cap n 1) (.int .i64 (a:Int)) (.int .i64 (b:Int)) (.func 69 [] [.ptr xb 0 0 1]) (.int .i64 i) Ud) (Mm enc H db l' T)∧Sw a b l l'∧Sorted lt a b l':=by
    by_cases c:a+1 ≤ b
    · obtain ⟨l',r,q⟩:=is_out S hL (cap:=cap) hT (a:=a) hb (b - (a+1)) (a+1) l (by omega) (by omega) hl hD (fun p q h1 h2 h3=>by omega)
      exact ⟨_,l',r,q⟩
    · exact ⟨_,l,lpo (sqo (is_b_1 (xb:=xb) 0 db n cap (Mm enc H db l T) 0 a b (a+1) (by omega)) (c:=sub [1,0,0] B99) (b:=sub [1,0,0,1] B99)),.refl,fun p q h1 h2 h3=>by omega⟩
  obtain ⟨i,l',r,q⟩:=key
  have s0:=is_a_0 (xb:=xb) 0 db n cap (Mm enc H db l T) 0 a b
  rw [wrap_succ (by omega)] at s0
  have t:=sq (s0) (bke (c:=sub [1] B99) (r)) (c:=B99)
  have hc:=CallsTo.shared (P:=Tp) (pol:=polSo) (g:=99) (fn:=Try.f99) (cd:=B99) (args:=[.sl db 0 n cap n 1,.int .i64 (a:Int),.int .i64 (b:Int),.func 69 [] [.ptr xb 0 0 1]]) (v:=.tuple []) (by kernel_rfl) (by kernel_rfl) (by kernel_rfl) (by kernel_rfl) t (by kernel_rfl) (by simp) (by kernel_rfl)
  rw [gcM _ _ _ _ _ rfl] at hc
  exact ⟨l',hc,q⟩
theorem rvs_loop (S:So xb enc lt dom H db n) {T:Heap} {a b:Nat} (hb:b ≤ n):∀ (d i j:Nat) (l:List α),j+1 - i ≤ d → a ≤ i → j < b → l.length=n →
    ∃ y1 y2 l',RT polSo 103 (sub [1,1,0] B103) (env103 (.sl db 0 n cap n 1) (.int .i64 (a:Int)) (.int .i64 (b:Int)) (.int .i64 (i:Int)) (.int .i64 (j:Int))) (Mm enc H db l T) (.exit 0) (env103 (.sl db 0 n cap n 1) (.int .i64 (a:Int)) (.int .i64 (b:Int)) y1 y2) (Mm enc H db l' T)∧Sw a b l l':=by
  have hn:=S.nb
  intro d
  induction d with
  | zero =>
    intro i j l hd ha hj hl
    exact ⟨_,_,l,lpo (rvs_c_1 0 db n cap (Mm enc H db l T) 0 a b i j (by omega)),.refl⟩
  | succ d ih =>
    intro i j l hd ha hj hl
    by_cases c:i < j
    · obtain ⟨s1,s2⟩:=S.st2 (T:=T) hl (i:=i) (j:=j) (by omega) (by omega)
      have st:=rvs_c_0 0 db n cap (Mm enc H db l T) 0 a b i j (by omega) (ixs (i:=j) rfl (by omega)) (S.ld l T j hl (by omega)) (ixs (i:=i) rfl (by omega)) (S.ld l T i hl (by omega)) (ixs (i:=i) rfl (by omega)) s1 (ixs (i:=j) rfl (by omega)) s2
      rw [wrap_succ (by omega),wrap_pred (by omega) (by omega)] at st
      have sw:Sw a b l (swp l i j):=Sw.one (by omega) (by omega) (by omega) (by omega)
      obtain ⟨y1,y2,l',r,q⟩:=ih (i+1) (j - 1) (swp l i j) (by omega) (by omega) (by omega) (by rw [swp_len]; exact hl)
      exact ⟨y1,y2,l',lop (st) (gcM _ _ _ _ _ rfl) (r),sw.trans q⟩
    · exact ⟨_,_,l,lpo (rvs_c_1 0 db n cap (Mm enc H db l T) 0 a b i j (by omega)),.refl⟩
theorem rvs_ok (S:So xb enc lt dom H db n) {T:Heap} {a b:Nat} (hab:a < b) (hb:b ≤ n) {l:List α} (hl:l.length=n) :
    ∃ l',ClS 103 [.sl db 0 n cap n 1,.int .i64 (a:Int),.int .i64 (b:Int),.func 69 [] [.ptr xb 0 0 1]] (Mm enc H db l T) (.tuple []) (Mm enc H db l' T)∧Sw a b l l':=by
  have hn:=S.nb
  obtain ⟨y1,y2,l',r,q⟩:=rvs_loop S (cap:=cap) (T:=T) (a:=a) hb (b+1) a (b - 1) l (by omega) (Nat.le_refl _) (by omega) hl
  have s0:=rvs_a_0 (xb:=xb) 0 db n cap (Mm enc H db l T) 0 a b
  have s1:=rvs_b_0 0 db n cap (Mm enc H db l T) 0 a b a (y9:=Ud)
  rw [wrap_pred (by omega) (by omega)] at s1
  have t:=sq (s0) (sq (s1) (bke (c:=sub [1,1] B103) (r)) (c:=sub [1] B103)) (c:=B103)
  have hc:=CallsTo.shared (P:=Tp) (pol:=polSo) (g:=103) (fn:=Try.f103) (cd:=B103) (args:=[.sl db 0 n cap n 1,.int .i64 (a:Int),.int .i64 (b:Int),.func 69 [] [.ptr xb 0 0 1]]) (v:=.tuple []) (by kernel_rfl) (by kernel_rfl) (by kernel_rfl) (by kernel_rfl) t (by kernel_rfl) (by simp) (by kernel_rfl)
  rw [gcM _ _ _ _ _ rfl] at hc
  exact ⟨l',hc,q⟩
end
end Go.Proofs.Ytiejmoglooaalaa
end
section
open Go Go.HL Go.HL.So
namespace Go.Proofs.Ytiejmoglooaalaa
set_option linter.unusedSectionVars false
open Go.Proofs.Try renaming prog → Tp
open Go.HL.HV renaming undef → Ud
section
variable {xb:Nat} {α:Type} [Inhabited α] {enc:α → HV} {lt:α → α → Prop} {dom:α → Prop} {H:Heap} {db n:Nat} {cap:Option Nat}
theorem ClS.from {g:FuncId} {args:List HV} {H H':Heap} {r:HV} (h:ClS g args H r H'):∃ N,∀ kf,N ≤ kf → callN Tp polSo (kf+1) g args H=some (r,H'):=CallsTo.from h
set_option maxHeartbeats 4000000 in
theorem sf_loop (S:So xb enc lt dom H db n) (hL:Lin lt) {T:Heap} (hT:mxs T=0) {lo hi fi:Nat} (hfi:fi+hi ≤ n):∀ (d r:Nat) (l:List α),hi - r ≤ d → lo ≤ r → r < hi+1 → l.length=n → Dm dom l → HpX lt fi lo hi r l →
    ∃ x y1 y2 l',RT polSo 109 (sub [1,0] B109) (env109 (.sl db 0 n cap n 1) (.int .i64 (lo:Int)) (.int .i64 (hi:Int)) (.int .i64 (fi:Int)) (.func 69 [] [.ptr xb 0 0 1]) (.int .i64 (r:Int)) Ud) (Mm enc H db l T) x (env109 (.sl db 0 n cap n 1) (.int .i64 (lo:Int)) (.int .i64 (hi:Int)) (.int .i64 (fi:Int)) (.func 69 [] [.ptr xb 0 0 1]) y1 y2) (Mm enc H db l' T)∧(x=.exit 0 ∨ x=.ret)∧Sw fi (fi+hi) l l'∧Hp lt fi lo hi l':=by
  have hn:=S.nb
  intro d
  induction d with
  | zero =>
    intro r l hd hr hr2 hl hD hX
    exact ⟨_,_,_,l,lpo (sf_b_0 (xb:=xb) 0 db n cap (Mm enc H db l T) 0 lo hi fi r (by rw [wrap_id (n:=2 * (r:Int)) (by omega) (by omega),wrap_id (by omega) (by omega)]; omega)),.inl rfl,.refl,hpx_end hL hX (fun c h1 h2=>by omega)⟩
  | succ d ih =>
    intro r l hd hr hr2 hl hD hX
    by_cases c0:hi ≤ 2 * r+1
    · exact ⟨_,_,_,l,lpo (sf_b_0 (xb:=xb) 0 db n cap (Mm enc H db l T) 0 lo hi fi r (by rw [wrap_id (n:=2 * (r:Int)) (by omega) (by omega),wrap_id (by omega) (by omega)]; omega)),.inl rfl,.refl,hpx_end hL hX (fun c h1 h2=>by omega)⟩
    have e0:IntKind.i64.wrap (2 * (r:Int))=((2 * r:Nat):Int):=(by rw [wrap_id (by omega) (by omega)]; omega)
    have e1:IntKind.i64.wrap (IntKind.i64.wrap (2 * (r:Int))+1)=((2 * r+1:Nat):Int):=by rw [e0,wrap_id (by omega) (by omega)]; omega
    have e2:IntKind.i64.wrap (IntKind.i64.wrap (IntKind.i64.wrap (2 * (r:Int))+1)+1)=((2 * r+2:Nat):Int):=by rw [e1,wrap_id (by omega) (by omega)]; omega
    have f0:IntKind.i64.wrap ((fi:Int)+(r:Int))=((fi+r:Nat):Int):=(by rw [wrap_id (by omega) (by omega)]; omega)
    have f1:IntKind.i64.wrap ((fi:Int)+IntKind.i64.wrap (IntKind.i64.wrap (2 * (r:Int))+1))=((fi+(2 * r+1):Nat):Int):=by rw [e1,wrap_id (by omega) (by omega)]; omega
    have f2:IntKind.i64.wrap ((fi:Int)+IntKind.i64.wrap (IntKind.i64.wrap (IntKind.i64.wrap (2 * (r:Int))+1)+1))=((fi+(2 * r+2):Nat):Int):=by rw [e2,wrap_id (by omega) (by omega)]; omega
    have f3:IntKind.i64.wrap (IntKind.i64.wrap ((fi:Int)+IntKind.i64.wrap (IntKind.i64.wrap (2 * (r:Int))+1))+1)=((fi+(2 * r+2):Nat):Int):=by rw [f1,wrap_id (by omega) (by omega)]; omega
    have w1:fi+r < n:=by omega
    have w2:fi+(2 * r+1) < n:=by omega
    have next:∀ c,(c=2 * r+1 ∨ c=2 * r+2) → c < hi → (∀ c',(c'=2 * r+1 ∨ c'=2 * r+2) → c' < hi → ¬ lt (at_ l (fi+c)) (at_ l (fi+c'))) → lt (at_ l (fi+r)) (at_ l (fi+c)) →
        RT polSo 109 (sub [1,0,0] B109) (env109 (.sl db 0 n cap n 1) (.int .i64 (lo:Int)) (.int .i64 (hi:Int)) (.int .i64 (fi:Int)) (.func 69 [] [.ptr xb 0 0 1]) (.int .i64 (r:Int)) Ud) (Mm enc H db l T) .normal (env109 (.sl db 0 n cap n 1) (.int .i64 (lo:Int)) (.int .i64 (hi:Int)) (.int .i64 (fi:Int)) (.func 69 [] [.ptr xb 0 0 1]) (.int .i64 (c:Int)) (.int .i64 (c:Int))) (Mm enc H db (swp l (fi+r) (fi+c)) T) →
        ∃ x y1 y2 l',RT polSo 109 (sub [1,0] B109) (env109 (.sl db 0 n cap n 1) (.int .i64 (lo:Int)) (.int .i64 (hi:Int)) (.int .i64 (fi:Int)) (.func 69 [] [.ptr xb 0 0 1]) (.int .i64 (r:Int)) Ud) (Mm enc H db l T) x (env109 (.sl db 0 n cap n 1) (.int .i64 (lo:Int)) (.int .i64 (hi:Int)) (.int .i64 (fi:Int)) (.func 69 [] [.ptr xb 0 0 1]) y1 y2) (Mm enc H db l' T)∧(x=.exit 0 ∨ x=.ret)∧Sw fi (fi+hi) l l'∧Hp lt fi lo hi l':=by
      intro c h1 h2 h3 h4 st
      have sw:Sw fi (fi+hi) l (swp l (fi+r) (fi+c)):=Sw.one (by omega) (by omega) (by omega) (by omega)
      obtain ⟨x,y1,y2,l',q,q1,q2,q3⟩:=ih c _ (by omega) (by omega) (by omega) (by rw [swp_len]; exact hl) (hD.sw sw (by omega)) (hpx_step hL (by omega) hX hr h1 h2 h3 h4)
      exact ⟨x,y1,y2,l',lop (st) (gcM _ _ _ _ _ rfl) (q),q1,sw.trans q2,q3⟩
    have ld:=fun k (hk:k < hi)=>S.ld l T (fi+k) hl (by omega)
    by_cases c1:2 * r+2 < hi
    · have w3:fi+(2 * r+2) < n:=by omega
      by_cases c2:lt (at_ l (fi+(2 * r+1))) (at_ l (fi+(2 * r+2)))
      · obtain ⟨cc1,N1,hN1,hc1⟩:=S.ct (T:=T) hl hT (hD.at (i:=fi+(2 * r+1)) (by omega)) (hD.at (i:=fi+(2 * r+2)) (by omega)) c2
        by_cases c3:lt (at_ l (fi+r)) (at_ l (fi+(2 * r+2)))
        · obtain ⟨cc2,N2,hN2,hc2⟩:=S.ct (T:=T) hl hT (hD.at (i:=fi+r) (by omega)) (hD.at (i:=fi+(2 * r+2)) (by omega)) c3
          obtain ⟨s1,s2⟩:=S.st2 (T:=T) hl (i:=fi+r) (j:=fi+(2 * r+2)) (by omega) (by omega)
          have st:=sf_b_1 (xb:=xb) (N1+N2) db n cap (Mm enc H db l T) 0 lo hi fi r (by rw [e1]; omega) (by rw [e2]; omega) (ixs f1 w2) (ld _ (by omega)) (ixs f3 w3) (ld _ (by omega)) (fun kf hk=>hN1 kf (by omega)) hc1
            (ixs f0 w1) (ld r (by omega)) (ixs f2 w3) (ld _ (by omega)) (fun kf hk=>hN2 kf (by omega)) hc2 (ixs f2 w3) (ld _ (by omega)) (ixs f0 w1) (ld r (by omega)) (ixs f0 w1) s1 (ixs f2 w3) s2 (y11:=Ud)
          rw [e2] at st
          exact next (2 * r+2) (by omega) (by omega) (fun c' h1 h2=>by
            rcases h1 with rfl | rfl
            · exact hL.asy _ _ c2
            · exact hL.rf _) c3 st
        · obtain ⟨cc2,N2,hN2,hc2⟩:=S.cf (T:=T) hl hT (hD.at (i:=fi+r) (by omega)) (hD.at (i:=fi+(2 * r+2)) (by omega)) c3
          have st:=sf_b_2 (xb:=xb) (N1+N2) db n cap (Mm enc H db l T) 0 lo hi fi r (by rw [e1]; omega) (by rw [e2]; omega) (ixs f1 w2) (ld _ (by omega)) (ixs f3 w3) (ld _ (by omega)) (fun kf hk=>hN1 kf (by omega)) hc1
            (ixs f0 w1) (ld r (by omega)) (ixs f2 w3) (ld _ (by omega)) (fun kf hk=>hN2 kf (by omega)) hc2 (y11:=Ud)
          exact ⟨_,_,_,l,lpo (st),.inr rfl,.refl,hpx_end hL hX fun c' h1 h2=>by
            rcases h1 with rfl | rfl
            · exact hL.tr _ _ _ (hL.asy _ _ c2) c3
            · exact c3⟩
      · obtain ⟨cc1,N1,hN1,hc1⟩:=S.cf (T:=T) hl hT (hD.at (i:=fi+(2 * r+1)) (by omega)) (hD.at (i:=fi+(2 * r+2)) (by omega)) c2
        by_cases c3:lt (at_ l (fi+r)) (at_ l (fi+(2 * r+1)))
        · obtain ⟨cc2,N2,hN2,hc2⟩:=S.ct (T:=T) hl hT (hD.at (i:=fi+r) (by omega)) (hD.at (i:=fi+(2 * r+1)) (by omega)) c3
          obtain ⟨s1,s2⟩:=S.st2 (T:=T) hl (i:=fi+r) (j:=fi+(2 * r+1)) (by omega) (by omega)
          have st:=sf_b_3 (xb:=xb) (N1+N2) db n cap (Mm enc H db l T) 0 lo hi fi r (by rw [e1]; omega) (by rw [e2]; omega) (ixs f1 w2) (ld _ (by omega)) (ixs f3 w3) (ld _ (by omega)) (fun kf hk=>hN1 kf (by omega)) hc1
            (ixs f0 w1) (ld r (by omega)) (ixs f1 w2) (ld _ (by omega)) (fun kf hk=>hN2 kf (by omega)) hc2 (ixs f1 w2) (ld _ (by omega)) (ixs f0 w1) (ld r (by omega)) (ixs f0 w1) s1 (ixs f1 w2) s2 (y11:=Ud)
          rw [e1] at st
          exact next (2 * r+1) (by omega) (by omega) (fun c' h1 h2=>by
            rcases h1 with rfl | rfl
            · exact hL.rf _
            · exact c2) c3 st
        · obtain ⟨cc2,N2,hN2,hc2⟩:=S.cf (T:=T) hl hT (hD.at (i:=fi+r) (by omega)) (hD.at (i:=fi+(2 * r+1)) (by omega)) c3
          have st:=sf_b_4 (xb:=xb) (N1+N2) db n cap (Mm enc H db l T) 0 lo hi fi r (by rw [e1]; omega) (by rw [e2]; omega) (ixs f1 w2) (ld _ (by omega)) (ixs f3 w3) (ld _ (by omega)) (fun kf hk=>hN1 kf (by omega)) hc1
            (ixs f0 w1) (ld r (by omega)) (ixs f1 w2) (ld _ (by omega)) (fun kf hk=>hN2 kf (by omega)) hc2 (y11:=Ud)
          exact ⟨_,_,_,l,lpo (st),.inr rfl,.refl,hpx_end hL hX fun c' h1 h2=>by
            rcases h1 with rfl | rfl
            · exact c3
            · exact hL.tr _ _ _ c2 c3⟩
    · by_cases c3:lt (at_ l (fi+r)) (at_ l (fi+(2 * r+1)))
      · obtain ⟨cc2,N2,hN2,hc2⟩:=S.ct (T:=T) hl hT (hD.at (i:=fi+r) (by omega)) (hD.at (i:=fi+(2 * r+1)) (by omega)) c3
        obtain ⟨s1,s2⟩:=S.st2 (T:=T) hl (i:=fi+r) (j:=fi+(2 * r+1)) (by omega) (by omega)
        have st:=sf_b_5 (xb:=xb) N2 db n cap (Mm enc H db l T) 0 lo hi fi r (by rw [e1]; omega) (by rw [e2]; omega)
            (ixs f0 w1) (ld r (by omega)) (ixs f1 w2) (ld _ (by omega)) (fun kf hk=>hN2 kf (by omega)) hc2 (ixs f1 w2) (ld _ (by omega)) (ixs f0 w1) (ld r (by omega)) (ixs f0 w1) s1 (ixs f1 w2) s2 (y11:=Ud)
        rw [e1] at st
        exact next (2 * r+1) (by omega) (by omega) (fun c' h1 h2=>by
            have:c'=2 * r+1:=by omega
            subst this
            exact hL.rf _) c3 st
      · obtain ⟨cc2,N2,hN2,hc2⟩:=S.cf (T:=T) hl hT (hD.at (i:=fi+r) (by omega)) (hD.at (i:=fi+(2 * r+1)) (by omega)) c3
        have st:=sf_b_6 (xb:=xb) N2 db n cap (Mm enc H db l T) 0 lo hi fi r (by rw [e1]; omega) (by rw [e2]; omega)
            (ixs f0 w1) (ld r (by omega)) (ixs f1 w2) (ld _ (by omega)) (fun kf hk=>hN2 kf (by omega)) hc2 (y11:=Ud)
        exact ⟨_,_,_,l,lpo (st),.inr rfl,.refl,hpx_end hL hX fun c' h1 h2=>by
            have:c'=2 * r+1:=by omega
            subst this
            exact c3⟩
theorem sift_ok (S:So xb enc lt dom H db n) (hL:Lin lt) {T:Heap} (hT:mxs T=0) {lo hi fi:Nat} (hlo:lo ≤ hi) (hfi:fi+hi ≤ n) {l:List α} (hl:l.length=n) (hD:Dm dom l) (hH:Hp lt fi (lo+1) hi l) :
    ∃ l',ClS 109 [.sl db 0 n cap n 1,.int .i64 (lo:Int),.int .i64 (hi:Int),.int .i64 (fi:Int),.func 69 [] [.ptr xb 0 0 1]] (Mm enc H db l T) (.tuple []) (Mm enc H db l' T)∧Sw fi (fi+hi) l l'∧Hp lt fi lo hi l':=by
  obtain ⟨x,y1,y2,l',r,q1,q2⟩:=sf_loop S hL (cap:=cap) hT hfi (hi+1) lo l (by omega) (Nat.le_refl _) (by omega) hl hD (hpx_start hH)
  have s0:=sf_a_0 (xb:=xb) 0 db n cap (Mm enc H db l T) 0 lo hi fi
  rcases q1 with rfl | rfl
  · have t:=sq (s0) (bke (c:=sub [1] B109) (r)) (c:=B109)
    have hc:=CallsTo.shared (P:=Tp) (pol:=polSo) (g:=109) (fn:=Try.f109) (cd:=B109) (args:=[.sl db 0 n cap n 1,.int .i64 (lo:Int),.int .i64 (hi:Int),.int .i64 (fi:Int),.func 69 [] [.ptr xb 0 0 1]]) (v:=.tuple []) (by kernel_rfl) (by kernel_rfl) (by kernel_rfl) (by kernel_rfl) t (by kernel_rfl) (by simp) (by kernel_rfl)
    rw [gcM _ _ _ _ _ rfl] at hc
    exact ⟨l',hc,q2⟩
  · have t:=sq (s0) (RunsTo.block_ret (i:=0) (c:=sub [1] B109) (r) (by kernel_rfl)) (c:=B109)
    have hc:=CallsTo.shared (P:=Tp) (pol:=polSo) (g:=109) (fn:=Try.f109) (cd:=B109) (args:=[.sl db 0 n cap n 1,.int .i64 (lo:Int),.int .i64 (hi:Int),.int .i64 (fi:Int),.func 69 [] [.ptr xb 0 0 1]]) (v:=.tuple []) (by kernel_rfl) (by kernel_rfl) (by kernel_rfl) (by kernel_rfl) t (by kernel_rfl) (by simp) (by kernel_rfl)
    rw [gcM _ _ _ _ _ rfl] at hc
    exact ⟨l',hc,q2⟩
theorem hs_build (S:So xb enc lt dom H db n) (hL:Lin lt) {T:Heap} (hT:mxs T=0) {a b hi:Nat} (hhi:a+hi ≤ n):∀ (k:Nat) (l:List α),k ≤ hi → l.length=n → Dm dom l → Hp lt a k hi l →
    ∃ l',RT polSo 100 (sub [1,1,1,0,1,0] B100) (env100 (.sl db 0 n cap n 1) (.int .i64 (a:Int)) (.int .i64 (b:Int)) (.func 69 [] [.ptr xb 0 0 1]) (.int .i64 (a:Int)) (.int .i64 0) (.int .i64 (hi:Int)) (.int .i64 ((k:Int) - 1)) Ud) (Mm enc H db l T) (.exit 0) (env100 (.sl db 0 n cap n 1) (.int .i64 (a:Int)) (.int .i64 (b:Int)) (.func 69 [] [.ptr xb 0 0 1]) (.int .i64 (a:Int)) (.int .i64 0) (.int .i64 (hi:Int)) (.int .i64 (-1)) Ud) (Mm enc H db l' T)∧Sw a (a+hi) l l'∧Hp lt a 0 hi l':=by
  have hn:=S.nb
  intro k
  induction k with
  | zero =>
    intro l hk hl hD hH
    exact ⟨l,lpo (hs_e_1 (xb:=xb) 0 db n cap (Mm enc H db l T) 0 a b a hi (((0:Nat):Int) - 1) (by omega)),.refl,hH⟩
  | succ k ih =>
    intro l hk hl hD hH
    obtain ⟨l1,hc,q1,q2⟩:=sift_ok S hL (cap:=cap) hT (lo:=k) (by omega) hhi hl hD hH
    obtain ⟨N,hN⟩:=hc.from
    have st:=hs_e_0 (xb:=xb) N db n cap (Mm enc H db l T) 0 a b a hi (k:Int) (y12:=Ud) (by omega) hN
    rw [show IntKind.i64.wrap ((k:Int) - 1)=(k:Int) - 1 by simp only [wrapI64]; omega] at st
    obtain ⟨l',r,q3,q4⟩:=ih l1 (by omega) (sw_len q1 hl) (hD.sw q1 (by omega)) q2
    rw [show ((k+1:Nat):Int) - 1=(k:Int) by omega]
    exact ⟨l',lop (st) (gcM _ _ _ _ _ rfl) (r),q1.trans q3,q4⟩
theorem hs_take (S:So xb enc lt dom H db n) (hL:Lin lt) {T:Heap} (hT:mxs T=0) {a b hi:Nat} (hhi:a+hi ≤ n):∀ (k:Nat) (l:List α),k ≤ hi → l.length=n → Dm dom l → HsInv lt a hi k l →
    ∃ l',RT polSo 100 (sub [1,1,1,1,1,0] B100) (env100 (.sl db 0 n cap n 1) (.int .i64 (a:Int)) (.int .i64 (b:Int)) (.func 69 [] [.ptr xb 0 0 1]) (.int .i64 (a:Int)) (.int .i64 0) Ud Ud (.int .i64 ((k:Int) - 1))) (Mm enc H db l T) (.exit 2) (env100 (.sl db 0 n cap n 1) (.int .i64 (a:Int)) (.int .i64 (b:Int)) (.func 69 [] [.ptr xb 0 0 1]) (.int .i64 (a:Int)) (.int .i64 0) Ud Ud (.int .i64 (-1))) (Mm enc H db l' T)∧Sw a (a+hi) l l'∧HsInv lt a hi 0 l':=by
  have hn:=S.nb
  intro k
  induction k with
  | zero =>
    intro l hk hl hD hH
    exact ⟨l,lpo (hs_g_1 (xb:=xb) 0 db n cap (Mm enc H db l T) 0 a b a (((0:Nat):Int) - 1) (by omega)),.refl,hH⟩
  | succ k ih =>
    intro l hk hl hD hH
    obtain ⟨p1,p2,p3⟩:=hs_swap hL (by omega) (by omega) hH
    have sw:Sw a (a+hi) l (swp l a (a+k)):=Sw.one (by omega) (by omega) (by omega) (by omega)
    have hl1:=sw_len sw hl
    obtain ⟨l1,hc,q1,q2⟩:=sift_ok S hL (cap:=cap) hT (lo:=0) (hi:=k) (fi:=a) (Nat.zero_le _) (by omega) hl1 (hD.sw sw (by omega)) p1
    obtain ⟨N,hN⟩:=hc.from
    obtain ⟨s1,s2⟩:=S.st2 (T:=T) hl (i:=a) (j:=a+k) (by omega) (by omega)
    have st:=hs_g_0 (xb:=xb) N db n cap (Mm enc H db l T) 0 a b a (k:Int) (y10:=Ud) (y11:=Ud) (by omega) (ixs (i:=a+k) (by simp only [wrapI64]; omega) (by omega)) (S.ld l T _ hl (by omega)) (ixs (i:=a) rfl (by omega)) (S.ld l T _ hl (by omega)) (ixs (i:=a) rfl (by omega)) s1 (ixs (i:=a+k) (by simp only [wrapI64]; omega) (by omega)) s2 hN
    rw [show IntKind.i64.wrap ((k:Int) - 1)=(k:Int) - 1 by simp only [wrapI64]; omega] at st
    have sw2:Sw a (a+hi) l l1:=sw.trans (q1.mono (Nat.le_refl _) (by omega))
    have hI:HsInv lt a hi k l1:=by
      refine ⟨q2,fun p q h1 h2 h3=>?_,fun p q h1 h2 h3=>?_⟩
      · rw [q1.out (by rw [hl1]; omega) (k:=a+p) (by omega),q1.out (by rw [hl1]; omega) (k:=a+q) (by omega)]
        exact p2 p q h1 h2 h3
      · rw [q1.out (by rw [hl1]; omega) (k:=a+q) (by omega)]
        have:=q1.all (by rw [hl1]; omega) (Q:=fun x=>¬ lt (at_ (swp l a (a+k)) (a+q)) x) (lo:=a) (hi:=a+k) (Nat.le_refl _) (Nat.le_refl _) (fun i h4 h5=>by
          obtain ⟨m,rfl⟩:∃ m,i=a+m:=⟨i - a,by omega⟩
          exact p3 m q (by omega) h2 h3)
        exact this (a+p) (by omega) (by omega)
    obtain ⟨l',r,q3,q4⟩:=ih l1 (by omega) (sw_len sw2 hl) (hD.sw sw2 (by omega)) hI
    rw [show ((k+1:Nat):Int) - 1=(k:Int) by omega]
    exact ⟨l',lop (st) (gcM _ _ _ _ _ rfl) (r),sw2.trans q3,q4⟩
theorem heap_ok (S:So xb enc lt dom H db n) (hL:Lin lt) {T:Heap} (hT:mxs T=0) {a b:Nat} (hab:a < b) (hb:b ≤ n) {l:List α} (hl:l.length=n) (hD:Dm dom l) :
    ∃ l',ClS 100 [.sl db 0 n cap n 1,.int .i64 (a:Int),.int .i64 (b:Int),.func 69 [] [.ptr xb 0 0 1]] (Mm enc H db l T) (.tuple []) (Mm enc H db l' T)∧Sw a b l l'∧Sorted lt a b l':=by
  have hn:=S.nb
  obtain ⟨hi,rfl⟩:∃ hi,b=a+hi:=⟨b - a,by omega⟩
  have h0:Hp lt a ((hi - 1) / 2+1) hi l:=fun k c h1 h2 h3=>by omega
  obtain ⟨l1,r1,q1,q2⟩:=hs_build S hL (cap:=cap) hT (b:=a+hi) (by omega) ((hi - 1) / 2+1) l (by omega) hl hD h0
  have hl1:=sw_len q1 hl
  obtain ⟨l2,r2,q3,q4⟩:=hs_take S hL (cap:=cap) hT (b:=a+hi) (by omega) hi l1 (Nat.le_refl _) hl1 (hD.sw q1 (by omega)) ⟨q2,fun p q h1 h2 h3=>by omega,fun p q h1 h2 h3=>by omega⟩
  have s0:=hs_a_0 (xb:=xb) 0 db n cap (Mm enc H db l T) 0 a (a+hi)
  have s1:=hs_b_0 (xb:=xb) 0 db n cap (Mm enc H db l T) 0 a (a+hi) a (y9:=Ud) (y10:=Ud) (y11:=Ud) (y12:=Ud)
  have s2:=hs_c_0 (xb:=xb) 0 db n cap (Mm enc H db l T) 0 a (a+hi) a (y10:=Ud) (y11:=Ud) (y12:=Ud)
  rw [show IntKind.i64.wrap (((a+hi:Nat):Int) - (a:Int))=(hi:Int) by simp only [wrapI64]; omega] at s2
  have s3:=hs_d_0 (xb:=xb) 0 db n cap (Mm enc H db l T) 0 a (a+hi) a hi (y11:=Ud) (y12:=Ud)
  rw [show IntKind.i64.wrap ((IntKind.i64.wrap ((hi:Int) - 1):Int).tdiv 2)=(((hi - 1) / 2+1:Nat):Int) - 1 by
    rw [show IntKind.i64.wrap ((hi:Int) - 1)=((hi - 1:Nat):Int) by simp only [wrapI64]; omega,Int.tdiv_eq_ediv_of_nonneg (by omega)]
    simp only [wrapI64]; omega] at s3
  have r1':=lpi (e0:=(env100 (.sl db 0 n cap n 1) (.int .i64 (a:Int)) (.int .i64 ((a+hi:Nat):Int)) (.func 69 [] [.ptr xb 0 0 1]) (.int .i64 (a:Int)) (.int .i64 0) (.int .i64 (hi:Int)) (.int .i64 ((((hi - 1) / 2+1:Nat):Int) - 1)) Ud)) r1 (b:=sub [1,1,1,0,1,0,0] B100)
  have s4:=hs_f_0 (xb:=xb) 0 db n cap (Mm enc H db l1 T) 0 a (a+hi) a hi (y11:=.int .i64 (-1)) (y12:=Ud)
  rw [show IntKind.i64.wrap ((hi:Int) - 1)=(hi:Int) - 1 by simp only [wrapI64]; omega] at s4
  have r2':=lpi (e0:=(env100 (.sl db 0 n cap n 1) (.int .i64 (a:Int)) (.int .i64 ((a+hi:Nat):Int)) (.func 69 [] [.ptr xb 0 0 1]) (.int .i64 (a:Int)) (.int .i64 0) (.int .i64 (hi:Int)) (.int .i64 (-1)) (.int .i64 ((hi:Int) - 1)))) r2 (b:=sub [1,1,1,1,1,0,0] B100)
  have t:=sq (s0) (sq (s1) (sq (s2) (sq (sq (s3) (bke (c:=sub [1,1,1,0,1] B100) (r1')) (c:=sub [1,1,1,0] B100)) (sq (s4) (bke (c:=sub [1,1,1,1,1] B100) (r2')) (c:=sub [1,1,1,1] B100)) (c:=sub [1,1,1] B100)) (c:=sub [1,1] B100)) (c:=sub [1] B100)) (c:=B100)
  have hc:=CallsTo.shared (P:=Tp) (pol:=polSo) (g:=100) (fn:=Try.f100) (cd:=B100) (args:=[.sl db 0 n cap n 1,.int .i64 (a:Int),.int .i64 ((a+hi:Nat):Int),.func 69 [] [.ptr xb 0 0 1]]) (v:=.tuple []) (by kernel_rfl) (by kernel_rfl) (by kernel_rfl) (by kernel_rfl) t (by kernel_rfl) (by simp) (by kernel_rfl)
  rw [gcM _ _ _ _ _ rfl] at hc
  refine ⟨l2,hc,q1.trans q3,fun i j h1 h2 h3=>?_⟩
  have:=q4.2.1 (i - a) (j - a) (Nat.zero_le _) (by omega) (by omega)
  rwa [show a+(i - a)=i by omega,show a+(j - a)=j by omega] at this
end
end Go.Proofs.Ytiejmoglooaalaa
end
section
open Go Go.HL
namespace Go.Proofs.Ytiejmoglooaalaa
set_option maxRecDepth 100000
open Go.Proofs.Try renaming prog → Tp
open Go.HL.HV renaming undef → Ud
section
variable {xb:Nat}
noncomputable def B106:Code:=Try.f106.body.getD .skip
abbrev env106 (v0 v1 v2 v3 v4 v10 v11 v12 v13:HV):Env:=[(0,v0),(1,v1),(2,v2),(3,v3),(4,v4),(10,v10),(11,v11),(12,v12),(13,v13)]
theorem pt_a_0 (N:Nat) (db n:Nat) (cap:Option Nat) (H:Heap) (x:Nat) (a:Nat) (b:Nat) (p:Nat):RT polSo 106 (sub [0] B106) [(0,.c db n cap),(1,.i (a:Int)),(2,.i (b:Int)),(3,.i (p:Int)),(4,.func 69 [] [.ptr xb 0 0 1])] H .normal (env106 (.c db n cap) (.i (a:Int)) (.i (b:Int)) (.i (p:Int)) (.func 69 [] [.ptr xb 0 0 1]) (.i 0) (.bool false) Ud Ud) H :=
  RunsTo.hin N 60 [] fun kf hk=>⟨_,by kernel_rfl,.nil⟩
theorem pt_b_0 (N:Nat) (db n:Nat) (cap:Option Nat) (H:Heap) (x:Nat) (a:Nat) (b:Nat) (p:Nat) {y12 y13:HV} {a0:HV} {v0:HV} {a1:HV} {v1:HV} {a2:HV} {H0:Heap} {a3:HV} {H1:Heap} (g0:idxV Tp 24 (.c db n cap) (.i (p:Int))=some (a0)) (g1:loadV Tp H 3 (a0)=some (v0)) (g2:idxV Tp 24 (.c db n cap) (.i (a:Int))=some (a1)) (g3:loadV Tp H 3 (a1)=some (v1)) (g4:idxV Tp 24 (.c db n cap) (.i (a:Int))=some (a2)) (g5:storeV Tp H 3 (a2) (v0)=some H0) (g6:idxV Tp 24 (.c db n cap) (.i (p:Int))=some (a3)) (g7:storeV Tp H0 3 (a3) (v1)=some H1):RT polSo 106 (sub [1,0] B106) (env106 (.c db n cap) (.i (a:Int)) (.i (b:Int)) (.i (p:Int)) (.func 69 [] [.ptr xb 0 0 1]) (.i 0) (.bool false) y12 y13) H .normal (env106 (.c db n cap) (.i (a:Int)) (.i (b:Int)) (.i (p:Int)) (.func 69 [] [.ptr xb 0 0 1]) (.i 0) (.bool false) y12 y13) H1 :=
  RunsTo.hin N 60 [⟨1,6,a0,H⟩,⟨1,7,v0,H⟩,⟨1,10,a1,H⟩,⟨1,11,v1,H⟩,⟨1,12,a2,H⟩,⟨1,13,.tuple [],H0⟩,⟨1,14,a3,H0⟩,⟨1,15,.tuple [],H1⟩] fun kf hk=>⟨_,by kernel_rfl,(oP H g0 (oP H g1 (oP H g2 (oP H g3 (oP H g4 (oS g5 (oP H0 g6 (oS g7 .nil))))))))⟩
theorem pt_c_0 (N:Nat) (db n:Nat) (cap:Option Nat) (H:Heap) (x:Nat) (a:Nat) (b:Nat) (p:Nat) {y12 y13:HV}:RT polSo 106 (sub [1,1,0] B106) (env106 (.c db n cap) (.i (a:Int)) (.i (b:Int)) (.i (p:Int)) (.func 69 [] [.ptr xb 0 0 1]) (.i 0) (.bool false) y12 y13) H .normal (env106 (.c db n cap) (.i (a:Int)) (.i (b:Int)) (.i (p:Int)) (.func 69 [] [.ptr xb 0 0 1]) (.i 0) (.bool false) (.i (IntKind.i64.wrap ((a:Int)+1))) (.i (IntKind.i64.wrap ((b:Int) - 1)))) H :=
  RunsTo.hin N 60 [] fun kf hk=>⟨_,by kernel_rfl,.nil⟩
theorem pt_d_0 (N:Nat) (db n:Nat) (cap:Option Nat) (H:Heap) (x:Nat) (a:Nat) (b:Nat) (p:Nat) (i:Nat) (j:Nat) {a0:HV} {v0:HV} {a1:HV} {v1:HV} {c0:Int} {H0:Heap} (g0:(i:Int) ≤ (j:Int)) (g1:idxV Tp 24 (.c db n cap) (.i (i:Int))=some (a0)) (g2:loadV Tp H 3 (a0)=some (v0)) (g3:idxV Tp 24 (.c db n cap) (.i (a:Int))=some (a1)) (g4:loadV Tp H 3 (a1)=some (v1)) (g5:∀ kf,N ≤ kf → callN Tp polSo (kf+1) 69 [v0,v1,.ptr xb 0 0 1] H=some (.i c0,H0)) (g6:c0 < 0):RT polSo 106 (sub [1,1,1,0,0,0] B106) (env106 (.c db n cap) (.i (a:Int)) (.i (b:Int)) (.i (p:Int)) (.func 69 [] [.ptr xb 0 0 1]) (.i 0) (.bool false) (.i (i:Int)) (.i (j:Int))) H .normal (env106 (.c db n cap) (.i (a:Int)) (.i (b:Int)) (.i (p:Int)) (.func 69 [] [.ptr xb 0 0 1]) (.i 0) (.bool false) (.i (IntKind.i64.wrap ((i:Int)+1))) (.i (j:Int))) H0 :=
  RunsTo.hin N 60 [⟨3,2,.bool true,H⟩,⟨3,7,a0,H⟩,⟨3,8,v0,H⟩,⟨3,11,a1,H⟩,⟨3,12,v1,H⟩,⟨3,13,.i c0,H0⟩,⟨3,14,.bool true,H0⟩] fun kf hk=>⟨_,by kernel_rfl,(oB H (decide_eq_true g0) (oP H g1 (oP H g2 (oP H g3 (oP H g4 (oC (g5 kf (by omega)) (oB H0 (decide_eq_true g6) .nil)))))))⟩
theorem pt_d_1 (N:Nat) (db n:Nat) (cap:Option Nat) (H:Heap) (x:Nat) (a:Nat) (b:Nat) (p:Nat) (i:Nat) (j:Nat) {a0:HV} {v0:HV} {a1:HV} {v1:HV} {c0:Int} {H0:Heap} (g0:(i:Int) ≤ (j:Int)) (g1:idxV Tp 24 (.c db n cap) (.i (i:Int))=some (a0)) (g2:loadV Tp H 3 (a0)=some (v0)) (g3:idxV Tp 24 (.c db n cap) (.i (a:Int))=some (a1)) (g4:loadV Tp H 3 (a1)=some (v1)) (g5:∀ kf,N ≤ kf → callN Tp polSo (kf+1) 69 [v0,v1,.ptr xb 0 0 1] H=some (.i c0,H0)) (g6:¬ (c0 < 0)):RT polSo 106 (sub [1,1,1,0,0,0] B106) (env106 (.c db n cap) (.i (a:Int)) (.i (b:Int)) (.i (p:Int)) (.func 69 [] [.ptr xb 0 0 1]) (.i 0) (.bool false) (.i (i:Int)) (.i (j:Int))) H (.exit 0) (env106 (.c db n cap) (.i (a:Int)) (.i (b:Int)) (.i (p:Int)) (.func 69 [] [.ptr xb 0 0 1]) (.i 0) (.bool false) (.i (i:Int)) (.i (j:Int))) H0 :=
  RunsTo.hin N 60 [⟨3,2,.bool true,H⟩,⟨3,7,a0,H⟩,⟨3,8,v0,H⟩,⟨3,11,a1,H⟩,⟨3,12,v1,H⟩,⟨3,13,.i c0,H0⟩,⟨3,14,.bool false,H0⟩] fun kf hk=>⟨_,by kernel_rfl,(oB H (decide_eq_true g0) (oP H g1 (oP H g2 (oP H g3 (oP H g4 (oC (g5 kf (by omega)) (oB H0 (decide_eq_false g6) .nil)))))))⟩
theorem pt_d_2 (N:Nat) (db n:Nat) (cap:Option Nat) (H:Heap) (x:Nat) (a:Nat) (b:Nat) (p:Nat) (i:Nat) (j:Nat)(g0:¬ ((i:Int) ≤ (j:Int))):RT polSo 106 (sub [1,1,1,0,0,0] B106) (env106 (.c db n cap) (.i (a:Int)) (.i (b:Int)) (.i (p:Int)) (.func 69 [] [.ptr xb 0 0 1]) (.i 0) (.bool false) (.i (i:Int)) (.i (j:Int))) H (.exit 0) (env106 (.c db n cap) (.i (a:Int)) (.i (b:Int)) (.i (p:Int)) (.func 69 [] [.ptr xb 0 0 1]) (.i 0) (.bool false) (.i (i:Int)) (.i (j:Int))) H :=
  RunsTo.hin N 60 [⟨3,2,.bool false,H⟩] fun kf hk=>⟨_,by kernel_rfl,(oB H (decide_eq_false g0) .nil)⟩
theorem pt_e_0 (N:Nat) (db n:Nat) (cap:Option Nat) (H:Heap) (x:Nat) (a:Nat) (b:Nat) (p:Nat) (i:Nat) (j:Nat) {a0:HV} {v0:HV} {a1:HV} {v1:HV} {c0:Int} {H0:Heap} (g0:(i:Int) ≤ (j:Int)) (g1:idxV Tp 24 (.c db n cap) (.i (j:Int))=some (a0)) (g2:loadV Tp H 3 (a0)=some (v0)) (g3:idxV Tp 24 (.c db n cap) (.i (a:Int))=some (a1)) (g4:loadV Tp H 3 (a1)=some (v1)) (g5:∀ kf,N ≤ kf → callN Tp polSo (kf+1) 69 [v0,v1,.ptr xb 0 0 1] H=some (.i c0,H0)) (g6:c0 < 0):RT polSo 106 (sub [1,1,1,1,0,0,0] B106) (env106 (.c db n cap) (.i (a:Int)) (.i (b:Int)) (.i (p:Int)) (.func 69 [] [.ptr xb 0 0 1]) (.i 0) (.bool false) (.i (i:Int)) (.i (j:Int))) H (.exit 2) (env106 (.c db n cap) (.i (a:Int)) (.i (b:Int)) (.i (p:Int)) (.func 69 [] [.ptr xb 0 0 1]) (.i 0) (.bool false) (.i (i:Int)) (.i (j:Int))) H0 :=
  RunsTo.hin N 60 [⟨5,2,.bool true,H⟩,⟨5,7,a0,H⟩,⟨5,8,v0,H⟩,⟨5,11,a1,H⟩,⟨5,12,v1,H⟩,⟨5,13,.i c0,H0⟩,⟨5,14,.bool true,H0⟩] fun kf hk=>⟨_,by kernel_rfl,(oB H (decide_eq_true g0) (oP H g1 (oP H g2 (oP H g3 (oP H g4 (oC (g5 kf (by omega)) (oB H0 (decide_eq_true g6) .nil)))))))⟩
theorem pt_e_1 (N:Nat) (db n:Nat) (cap:Option Nat) (H:Heap) (x:Nat) (a:Nat) (b:Nat) (p:Nat) (i:Nat) (j:Nat) {a0:HV} {v0:HV} {a1:HV} {v1:HV} {c0:Int} {H0:Heap} (g0:(i:Int) ≤ (j:Int)) (g1:idxV Tp 24 (.c db n cap) (.i (j:Int))=some (a0)) (g2:loadV Tp H 3 (a0)=some (v0)) (g3:idxV Tp 24 (.c db n cap) (.i (a:Int))=some (a1)) (g4:loadV Tp H 3 (a1)=some (v1)) (g5:∀ kf,N ≤ kf → callN Tp polSo (kf+1) 69 [v0,v1,.ptr xb 0 0 1] H=some (.i c0,H0)) (g6:¬ (c0 < 0)):RT polSo 106 (sub [1,1,1,1,0,0,0] B106) (env106 (.c db n cap) (.i (a:Int)) (.i (b:Int)) (.i (p:Int)) (.func 69 [] [.ptr xb 0 0 1]) (.i 0) (.bool false) (.i (i:Int)) (.i (j:Int))) H .normal (env106 (.c db n cap) (.i (a:Int)) (.i (b:Int)) (.i (p:Int)) (.func 69 [] [.ptr xb 0 0 1]) (.i 0) (.bool false) (.i (i:Int)) (.i (IntKind.i64.wrap ((j:Int) - 1)))) H0 :=
  RunsTo.hin N 60 [⟨5,2,.bool true,H⟩,⟨5,7,a0,H⟩,⟨5,8,v0,H⟩,⟨5,11,a1,H⟩,⟨5,12,v1,H⟩,⟨5,13,.i c0,H0⟩,⟨5,14,.bool false,H0⟩] fun kf hk=>⟨_,by kernel_rfl,(oB H (decide_eq_true g0) (oP H g1 (oP H g2 (oP H g3 (oP H g4 (oC (g5 kf (by omega)) (oB H0 (decide_eq_false g6) .nil)))))))⟩
theorem pt_e_2 (N:Nat) (db n:Nat) (cap:Option Nat) (H:Heap) (x:Nat) (a:Nat) (b:Nat) (p:Nat) (i:Nat) (j:Nat)(g0:¬ ((i:Int) ≤ (j:Int))):RT polSo 106 (sub [1,1,1,1,0,0,0] B106) (env106 (.c db n cap) (.i (a:Int)) (.i (b:Int)) (.i (p:Int)) (.func 69 [] [.ptr xb 0 0 1]) (.i 0) (.bool false) (.i (i:Int)) (.i (j:Int))) H (.exit 2) (env106 (.c db n cap) (.i (a:Int)) (.i (b:Int)) (.i (p:Int)) (.func 69 [] [.ptr xb 0 0 1]) (.i 0) (.bool false) (.i (i:Int)) (.i (j:Int))) H :=
  RunsTo.hin N 60 [⟨5,2,.bool false,H⟩] fun kf hk=>⟨_,by kernel_rfl,(oB H (decide_eq_false g0) .nil)⟩
theorem pt_f_0 (N:Nat) (db n:Nat) (cap:Option Nat) (H:Heap) (x:Nat) (a:Nat) (b:Nat) (p:Nat) (i:Nat) (j:Nat) {a0:HV} {v0:HV} {a1:HV} {v1:HV} {a2:HV} {H0:Heap} {a3:HV} {H1:Heap} (g0:(j:Int) < (i:Int)) (g1:idxV Tp 24 (.c db n cap) (.i (a:Int))=some (a0)) (g2:loadV Tp H 3 (a0)=some (v0)) (g3:idxV Tp 24 (.c db n cap) (.i (j:Int))=some (a1)) (g4:loadV Tp H 3 (a1)=some (v1)) (g5:idxV Tp 24 (.c db n cap) (.i (j:Int))=some (a2)) (g6:storeV Tp H 3 (a2) (v0)=some H0) (g7:idxV Tp 24 (.c db n cap) (.i (a:Int))=some (a3)) (g8:storeV Tp H0 3 (a3) (v1)=some H1):RT polSo 106 (sub [1,1,1,1,1,0] B106) (env106 (.c db n cap) (.i (a:Int)) (.i (b:Int)) (.i (p:Int)) (.func 69 [] [.ptr xb 0 0 1]) (.i 0) (.bool false) (.i (i:Int)) (.i (j:Int))) H .ret (env106 (.c db n cap) (.i (a:Int)) (.i (b:Int)) (.i (p:Int)) (.func 69 [] [.ptr xb 0 0 1]) (.i (j:Int)) (.bool true) (.i (i:Int)) (.i (j:Int))) H1 :=
  RunsTo.hin N 60 [⟨7,2,.bool true,H⟩,⟨8,6,a0,H⟩,⟨8,7,v0,H⟩,⟨8,10,a1,H⟩,⟨8,11,v1,H⟩,⟨8,12,a2,H⟩,⟨8,13,.tuple [],H0⟩,⟨8,14,a3,H0⟩,⟨8,15,.tuple [],H1⟩] fun kf hk=>⟨_,by kernel_rfl,(oB H (decide_eq_true g0) (oP H g1 (oP H g2 (oP H g3 (oP H g4 (oP H g5 (oS g6 (oP H0 g7 (oS g8 .nil)))))))))⟩
theorem pt_f_1 (N:Nat) (db n:Nat) (cap:Option Nat) (H:Heap) (x:Nat) (a:Nat) (b:Nat) (p:Nat) (i:Nat) (j:Nat)(g0:¬ ((j:Int) < (i:Int))):RT polSo 106 (sub [1,1,1,1,1,0] B106) (env106 (.c db n cap) (.i (a:Int)) (.i (b:Int)) (.i (p:Int)) (.func 69 [] [.ptr xb 0 0 1]) (.i 0) (.bool false) (.i (i:Int)) (.i (j:Int))) H .normal (env106 (.c db n cap) (.i (a:Int)) (.i (b:Int)) (.i (p:Int)) (.func 69 [] [.ptr xb 0 0 1]) (.i 0) (.bool false) (.i (i:Int)) (.i (j:Int))) H :=
  RunsTo.hin N 60 [⟨7,2,.bool false,H⟩] fun kf hk=>⟨_,by kernel_rfl,(oB H (decide_eq_false g0) .nil)⟩
theorem pt_g_0 (N:Nat) (db n:Nat) (cap:Option Nat) (H:Heap) (x:Nat) (a:Nat) (b:Nat) (p:Nat) (i:Nat) (j:Nat) {a0:HV} {v0:HV} {a1:HV} {v1:HV} {a2:HV} {H0:Heap} {a3:HV} {H1:Heap} (g0:idxV Tp 24 (.c db n cap) (.i (j:Int))=some (a0)) (g1:loadV Tp H 3 (a0)=some (v0)) (g2:idxV Tp 24 (.c db n cap) (.i (i:Int))=some (a1)) (g3:loadV Tp H 3 (a1)=some (v1)) (g4:idxV Tp 24 (.c db n cap) (.i (i:Int))=some (a2)) (g5:storeV Tp H 3 (a2) (v0)=some H0) (g6:idxV Tp 24 (.c db n cap) (.i (j:Int))=some (a3)) (g7:storeV Tp H0 3 (a3) (v1)=some H1):RT polSo 106 (sub [1,1,1,1,1,1,0] B106) (env106 (.c db n cap) (.i (a:Int)) (.i (b:Int)) (.i (p:Int)) (.func 69 [] [.ptr xb 0 0 1]) (.i 0) (.bool false) (.i (i:Int)) (.i (j:Int))) H .normal (env106 (.c db n cap) (.i (a:Int)) (.i (b:Int)) (.i (p:Int)) (.func 69 [] [.ptr xb 0 0 1]) (.i 0) (.bool false) (.i (i:Int)) (.i (j:Int))) H1 :=
  RunsTo.hin N 60 [⟨10,6,a0,H⟩,⟨10,7,v0,H⟩,⟨10,10,a1,H⟩,⟨10,11,v1,H⟩,⟨10,12,a2,H⟩,⟨10,13,.tuple [],H0⟩,⟨10,14,a3,H0⟩,⟨10,15,.tuple [],H1⟩] fun kf hk=>⟨_,by kernel_rfl,(oP H g0 (oP H g1 (oP H g2 (oP H g3 (oP H g4 (oS g5 (oP H0 g6 (oS g7 .nil))))))))⟩
theorem pt_h_0 (N:Nat) (db n:Nat) (cap:Option Nat) (H:Heap) (x:Nat) (a:Nat) (b:Nat) (p:Nat) (i:Nat) (j:Nat):RT polSo 106 (sub [1,1,1,1,1,1,1,0] B106) (env106 (.c db n cap) (.i (a:Int)) (.i (b:Int)) (.i (p:Int)) (.func 69 [] [.ptr xb 0 0 1]) (.i 0) (.bool false) (.i (i:Int)) (.i (j:Int))) H .normal (env106 (.c db n cap) (.i (a:Int)) (.i (b:Int)) (.i (p:Int)) (.func 69 [] [.ptr xb 0 0 1]) (.i 0) (.bool false) (.i (IntKind.i64.wrap ((i:Int)+1))) (.i (j:Int))) H :=
  RunsTo.hin N 60 [] fun kf hk=>⟨_,by kernel_rfl,.nil⟩
theorem pt_i_0 (N:Nat) (db n:Nat) (cap:Option Nat) (H:Heap) (x:Nat) (a:Nat) (b:Nat) (p:Nat) (i:Nat) (j:Nat):RT polSo 106 (sub [1,1,1,1,1,1,1,1,0] B106) (env106 (.c db n cap) (.i (a:Int)) (.i (b:Int)) (.i (p:Int)) (.func 69 [] [.ptr xb 0 0 1]) (.i 0) (.bool false) (.i (i:Int)) (.i (j:Int))) H .normal (env106 (.c db n cap) (.i (a:Int)) (.i (b:Int)) (.i (p:Int)) (.func 69 [] [.ptr xb 0 0 1]) (.i 0) (.bool false) (.i (i:Int)) (.i (IntKind.i64.wrap ((j:Int) - 1)))) H :=
  RunsTo.hin N 60 [] fun kf hk=>⟨_,by kernel_rfl,.nil⟩
theorem pt_j_0 (N:Nat) (db n:Nat) (cap:Option Nat) (H:Heap) (x:Nat) (a:Nat) (b:Nat) (p:Nat) (i:Nat) (j:Nat) {a0:HV} {v0:HV} {a1:HV} {v1:HV} {c0:Int} {H0:Heap} (g0:(i:Int) ≤ (j:Int)) (g1:idxV Tp 24 (.c db n cap) (.i (i:Int))=some (a0)) (g2:loadV Tp H 3 (a0)=some (v0)) (g3:idxV Tp 24 (.c db n cap) (.i (a:Int))=some (a1)) (g4:loadV Tp H 3 (a1)=some (v1)) (g5:∀ kf,N ≤ kf → callN Tp polSo (kf+1) 69 [v0,v1,.ptr xb 0 0 1] H=some (.i c0,H0)) (g6:c0 < 0):RT polSo 106 (sub [1,1,1,1,1,1,1,1,1,0,0,0,0,0,0,0] B106) (env106 (.c db n cap) (.i (a:Int)) (.i (b:Int)) (.i (p:Int)) (.func 69 [] [.ptr xb 0 0 1]) (.i 0) (.bool false) (.i (i:Int)) (.i (j:Int))) H .normal (env106 (.c db n cap) (.i (a:Int)) (.i (b:Int)) (.i (p:Int)) (.func 69 [] [.ptr xb 0 0 1]) (.i 0) (.bool false) (.i (IntKind.i64.wrap ((i:Int)+1))) (.i (j:Int))) H0 :=
  RunsTo.hin N 60 [⟨13,2,.bool true,H⟩,⟨13,7,a0,H⟩,⟨13,8,v0,H⟩,⟨13,11,a1,H⟩,⟨13,12,v1,H⟩,⟨13,13,.i c0,H0⟩,⟨13,14,.bool true,H0⟩] fun kf hk=>⟨_,by kernel_rfl,(oB H (decide_eq_true g0) (oP H g1 (oP H g2 (oP H g3 (oP H g4 (oC (g5 kf (by omega)) (oB H0 (decide_eq_true g6) .nil)))))))⟩
theorem pt_j_1 (N:Nat) (db n:Nat) (cap:Option Nat) (H:Heap) (x:Nat) (a:Nat) (b:Nat) (p:Nat) (i:Nat) (j:Nat) {a0:HV} {v0:HV} {a1:HV} {v1:HV} {c0:Int} {H0:Heap} (g0:(i:Int) ≤ (j:Int)) (g1:idxV Tp 24 (.c db n cap) (.i (i:Int))=some (a0)) (g2:loadV Tp H 3 (a0)=some (v0)) (g3:idxV Tp 24 (.c db n cap) (.i (a:Int))=some (a1)) (g4:loadV Tp H 3 (a1)=some (v1)) (g5:∀ kf,N ≤ kf → callN Tp polSo (kf+1) 69 [v0,v1,.ptr xb 0 0 1] H=some (.i c0,H0)) (g6:¬ (c0 < 0)):RT polSo 106 (sub [1,1,1,1,1,1,1,1,1,0,0,0,0,0,0,0] B106) (env106 (.c db n cap) (.i (a:Int)) (.i (b:Int)) (.i (p:Int)) (.func 69 [] [.ptr xb 0 0 1]) (.i 0) (.bool false) (.i (i:Int)) (.i (j:Int))) H (.exit 6) (env106 (.c db n cap) (.i (a:Int)) (.i (b:Int)) (.i (p:Int)) (.func 69 [] [.ptr xb 0 0 1]) (.i 0) (.bool false) (.i (i:Int)) (.i (j:Int))) H0 :=
  RunsTo.hin N 60 [⟨13,2,.bool true,H⟩,⟨13,7,a0,H⟩,⟨13,8,v0,H⟩,⟨13,11,a1,H⟩,⟨13,12,v1,H⟩,⟨13,13,.i c0,H0⟩,⟨13,14,.bool false,H0⟩] fun kf hk=>⟨_,by kernel_rfl,(oB H (decide_eq_true g0) (oP H g1 (oP H g2 (oP H g3 (oP H g4 (oC (g5 kf (by omega)) (oB H0 (decide_eq_false g6) .nil)))))))⟩
theorem pt_j_2 (N:Nat) (db n:Nat) (cap:Option Nat) (H:Heap) (x:Nat) (a:Nat) (b:Nat) (p:Nat) (i:Nat) (j:Nat)(g0:¬ ((i:Int) ≤ (j:Int))):RT polSo 106 (sub [1,1,1,1,1,1,1,1,1,0,0,0,0,0,0,0] B106) (env106 (.c db n cap) (.i (a:Int)) (.i (b:Int)) (.i (p:Int)) (.func 69 [] [.ptr xb 0 0 1]) (.i 0) (.bool false) (.i (i:Int)) (.i (j:Int))) H (.exit 6) (env106 (.c db n cap) (.i (a:Int)) (.i (b:Int)) (.i (p:Int)) (.func 69 [] [.ptr xb 0 0 1]) (.i 0) (.bool false) (.i (i:Int)) (.i (j:Int))) H :=
  RunsTo.hin N 60 [⟨13,2,.bool false,H⟩] fun kf hk=>⟨_,by kernel_rfl,(oB H (decide_eq_false g0) .nil)⟩
theorem pt_k_0 (N:Nat) (db n:Nat) (cap:Option Nat) (H:Heap) (x:Nat) (a:Nat) (b:Nat) (p:Nat) (i:Nat) (j:Nat) {a0:HV} {v0:HV} {a1:HV} {v1:HV} {c0:Int} {H0:Heap} (g0:(i:Int) ≤ (j:Int)) (g1:idxV Tp 24 (.c db n cap) (.i (j:Int))=some (a0)) (g2:loadV Tp H 3 (a0)=some (v0)) (g3:idxV Tp 24 (.c db n cap) (.i (a:Int))=some (a1)) (g4:loadV Tp H 3 (a1)=some (v1)) (g5:∀ kf,N ≤ kf → callN Tp polSo (kf+1) 69 [v0,v1,.ptr xb 0 0 1] H=some (.i c0,H0)) (g6:c0 < 0):RT polSo 106 (sub [1,1,1,1,1,1,1,1,1,0,0,0,0,1,0,0,0] B106) (env106 (.c db n cap) (.i (a:Int)) (.i (b:Int)) (.i (p:Int)) (.func 69 [] [.ptr xb 0 0 1]) (.i 0) (.bool false) (.i (i:Int)) (.i (j:Int))) H (.exit 8) (env106 (.c db n cap) (.i (a:Int)) (.i (b:Int)) (.i (p:Int)) (.func 69 [] [.ptr xb 0 0 1]) (.i 0) (.bool false) (.i (i:Int)) (.i (j:Int))) H0 :=
  RunsTo.hin N 60 [⟨15,2,.bool true,H⟩,⟨15,7,a0,H⟩,⟨15,8,v0,H⟩,⟨15,11,a1,H⟩,⟨15,12,v1,H⟩,⟨15,13,.i c0,H0⟩,⟨15,14,.bool true,H0⟩] fun kf hk=>⟨_,by kernel_rfl,(oB H (decide_eq_true g0) (oP H g1 (oP H g2 (oP H g3 (oP H g4 (oC (g5 kf (by omega)) (oB H0 (decide_eq_true g6) .nil)))))))⟩
theorem pt_k_1 (N:Nat) (db n:Nat) (cap:Option Nat) (H:Heap) (x:Nat) (a:Nat) (b:Nat) (p:Nat) (i:Nat) (j:Nat) {a0:HV} {v0:HV} {a1:HV} {v1:HV} {c0:Int} {H0:Heap} (g0:(i:Int) ≤ (j:Int)) (g1:idxV Tp 24 (.c db n cap) (.i (j:Int))=some (a0)) (g2:loadV Tp H 3 (a0)=some (v0)) (g3:idxV Tp 24 (.c db n cap) (.i (a:Int))=some (a1)) (g4:loadV Tp H 3 (a1)=some (v1)) (g5:∀ kf,N ≤ kf → callN Tp polSo (kf+1) 69 [v0,v1,.ptr xb 0 0 1] H=some (.i c0,H0)) (g6:¬ (c0 < 0)):RT polSo 106 (sub [1,1,1,1,1,1,1,1,1,0,0,0,0,1,0,0,0] B106) (env106 (.c db n cap) (.i (a:Int)) (.i (b:Int)) (.i (p:Int)) (.func 69 [] [.ptr xb 0 0 1]) (.i 0) (.bool false) (.i (i:Int)) (.i (j:Int))) H .normal (env106 (.c db n cap) (.i (a:Int)) (.i (b:Int)) (.i (p:Int)) (.func 69 [] [.ptr xb 0 0 1]) (.i 0) (.bool false) (.i (i:Int)) (.i (IntKind.i64.wrap ((j:Int) - 1)))) H0 :=
  RunsTo.hin N 60 [⟨15,2,.bool true,H⟩,⟨15,7,a0,H⟩,⟨15,8,v0,H⟩,⟨15,11,a1,H⟩,⟨15,12,v1,H⟩,⟨15,13,.i c0,H0⟩,⟨15,14,.bool false,H0⟩] fun kf hk=>⟨_,by kernel_rfl,(oB H (decide_eq_true g0) (oP H g1 (oP H g2 (oP H g3 (oP H g4 (oC (g5 kf (by omega)) (oB H0 (decide_eq_false g6) .nil)))))))⟩
theorem pt_k_2 (N:Nat) (db n:Nat) (cap:Option Nat) (H:Heap) (x:Nat) (a:Nat) (b:Nat) (p:Nat) (i:Nat) (j:Nat)(g0:¬ ((i:Int) ≤ (j:Int))):RT polSo 106 (sub [1,1,1,1,1,1,1,1,1,0,0,0,0,1,0,0,0] B106) (env106 (.c db n cap) (.i (a:Int)) (.i (b:Int)) (.i (p:Int)) (.func 69 [] [.ptr xb 0 0 1]) (.i 0) (.bool false) (.i (i:Int)) (.i (j:Int))) H (.exit 8) (env106 (.c db n cap) (.i (a:Int)) (.i (b:Int)) (.i (p:Int)) (.func 69 [] [.ptr xb 0 0 1]) (.i 0) (.bool false) (.i (i:Int)) (.i (j:Int))) H :=
  RunsTo.hin N 60 [⟨15,2,.bool false,H⟩] fun kf hk=>⟨_,by kernel_rfl,(oB H (decide_eq_false g0) .nil)⟩
theorem pt_l_0 (N:Nat) (db n:Nat) (cap:Option Nat) (H:Heap) (x:Nat) (a:Nat) (b:Nat) (p:Nat) (i:Nat) (j:Nat)(g0:(j:Int) < (i:Int)):RT polSo 106 (sub [1,1,1,1,1,1,1,1,1,0,0,0,0,1,1] B106) (env106 (.c db n cap) (.i (a:Int)) (.i (b:Int)) (.i (p:Int)) (.func 69 [] [.ptr xb 0 0 1]) (.i 0) (.bool false) (.i (i:Int)) (.i (j:Int))) H (.exit 4) (env106 (.c db n cap) (.i (a:Int)) (.i (b:Int)) (.i (p:Int)) (.func 69 [] [.ptr xb 0 0 1]) (.i 0) (.bool false) (.i (i:Int)) (.i (j:Int))) H :=
  RunsTo.hin N 60 [⟨17,2,.bool true,H⟩] fun kf hk=>⟨_,by kernel_rfl,(oB H (decide_eq_true g0) .nil)⟩
theorem pt_l_1 (N:Nat) (db n:Nat) (cap:Option Nat) (H:Heap) (x:Nat) (a:Nat) (b:Nat) (p:Nat) (i:Nat) (j:Nat) {a0:HV} {v0:HV} {a1:HV} {v1:HV} {a2:HV} {H0:Heap} {a3:HV} {H1:Heap} (g0:¬ ((j:Int) < (i:Int))) (g1:idxV Tp 24 (.c db n cap) (.i (j:Int))=some (a0)) (g2:loadV Tp H 3 (a0)=some (v0)) (g3:idxV Tp 24 (.c db n cap) (.i (i:Int))=some (a1)) (g4:loadV Tp H 3 (a1)=some (v1)) (g5:idxV Tp 24 (.c db n cap) (.i (i:Int))=some (a2)) (g6:storeV Tp H 3 (a2) (v0)=some H0) (g7:idxV Tp 24 (.c db n cap) (.i (j:Int))=some (a3)) (g8:storeV Tp H0 3 (a3) (v1)=some H1):RT polSo 106 (sub [1,1,1,1,1,1,1,1,1,0,0,0,0,1,1] B106) (env106 (.c db n cap) (.i (a:Int)) (.i (b:Int)) (.i (p:Int)) (.func 69 [] [.ptr xb 0 0 1]) (.i 0) (.bool false) (.i (i:Int)) (.i (j:Int))) H .normal (env106 (.c db n cap) (.i (a:Int)) (.i (b:Int)) (.i (p:Int)) (.func 69 [] [.ptr xb 0 0 1]) (.i 0) (.bool false) (.i (IntKind.i64.wrap ((i:Int)+1))) (.i (IntKind.i64.wrap ((j:Int) - 1)))) H1 :=
  RunsTo.hin N 60 [⟨17,2,.bool false,H⟩,⟨18,6,a0,H⟩,⟨18,7,v0,H⟩,⟨18,10,a1,H⟩,⟨18,11,v1,H⟩,⟨18,12,a2,H⟩,⟨18,13,.tuple [],H0⟩,⟨18,14,a3,H0⟩,⟨18,15,.tuple [],H1⟩] fun kf hk=>⟨_,by kernel_rfl,(oB H (decide_eq_false g0) (oP H g1 (oP H g2 (oP H g3 (oP H g4 (oP H g5 (oS g6 (oP H0 g7 (oS g8 .nil)))))))))⟩
theorem pt_m_0 (N:Nat) (db n:Nat) (cap:Option Nat) (H:Heap) (x:Nat) (a:Nat) (b:Nat) (p:Nat) (i:Nat) (j:Nat) {a0:HV} {v0:HV} {a1:HV} {v1:HV} {a2:HV} {H0:Heap} {a3:HV} {H1:Heap} (g0:idxV Tp 24 (.c db n cap) (.i (a:Int))=some (a0)) (g1:loadV Tp H 3 (a0)=some (v0)) (g2:idxV Tp 24 (.c db n cap) (.i (j:Int))=some (a1)) (g3:loadV Tp H 3 (a1)=some (v1)) (g4:idxV Tp 24 (.c db n cap) (.i (j:Int))=some (a2)) (g5:storeV Tp H 3 (a2) (v0)=some H0) (g6:idxV Tp 24 (.c db n cap) (.i (a:Int))=some (a3)) (g7:storeV Tp H0 3 (a3) (v1)=some H1):RT polSo 106 (sub [1,1,1,1,1,1,1,1,1,1] B106) (env106 (.c db n cap) (.i (a:Int)) (.i (b:Int)) (.i (p:Int)) (.func 69 [] [.ptr xb 0 0 1]) (.i 0) (.bool false) (.i (i:Int)) (.i (j:Int))) H .ret (env106 (.c db n cap) (.i (a:Int)) (.i (b:Int)) (.i (p:Int)) (.func 69 [] [.ptr xb 0 0 1]) (.i (j:Int)) (.bool false) (.i (i:Int)) (.i (j:Int))) H1 :=
  RunsTo.hin N 60 [⟨21,6,a0,H⟩,⟨21,7,v0,H⟩,⟨21,10,a1,H⟩,⟨21,11,v1,H⟩,⟨21,12,a2,H⟩,⟨21,13,.tuple [],H0⟩,⟨21,14,a3,H0⟩,⟨21,15,.tuple [],H1⟩] fun kf hk=>⟨_,by kernel_rfl,(oP H g0 (oP H g1 (oP H g2 (oP H g3 (oP H g4 (oS g5 (oP H0 g6 (oS g7 .nil))))))))⟩
noncomputable def B105:Code:=Try.f105.body.getD .skip
abbrev env105 (v0 v1 v2 v3 v4 v10 v11 v12:HV):Env:=[(0,v0),(1,v1),(2,v2),(3,v3),(4,v4),(10,v10),(11,v11),(12,v12)]
theorem pe_a_0 (N:Nat) (db n:Nat) (cap:Option Nat) (H:Heap) (x:Nat) (a:Nat) (b:Nat) (p:Nat):RT polSo 105 (sub [0] B105) [(0,.c db n cap),(1,.i (a:Int)),(2,.i (b:Int)),(3,.i (p:Int)),(4,.func 69 [] [.ptr xb 0 0 1])] H .normal (env105 (.c db n cap) (.i (a:Int)) (.i (b:Int)) (.i (p:Int)) (.func 69 [] [.ptr xb 0 0 1]) (.i 0) Ud Ud) H :=
  RunsTo.hin N 60 [] fun kf hk=>⟨_,by kernel_rfl,.nil⟩
theorem pe_b_0 (N:Nat) (db n:Nat) (cap:Option Nat) (H:Heap) (x:Nat) (a:Nat) (b:Nat) (p:Nat) {y11 y12:HV} {a0:HV} {v0:HV} {a1:HV} {v1:HV} {a2:HV} {H0:Heap} {a3:HV} {H1:Heap} (g0:idxV Tp 24 (.c db n cap) (.i (p:Int))=some (a0)) (g1:loadV Tp H 3 (a0)=some (v0)) (g2:idxV Tp 24 (.c db n cap) (.i (a:Int))=some (a1)) (g3:loadV Tp H 3 (a1)=some (v1)) (g4:idxV Tp 24 (.c db n cap) (.i (a:Int))=some (a2)) (g5:storeV Tp H 3 (a2) (v0)=some H0) (g6:idxV Tp 24 (.c db n cap) (.i (p:Int))=some (a3)) (g7:storeV Tp H0 3 (a3) (v1)=some H1):RT polSo 105 (sub [1,0] B105) (env105 (.c db n cap) (.i (a:Int)) (.i (b:Int)) (.i (p:Int)) (.func 69 [] [.ptr xb 0 0 1]) (.i 0) y11 y12) H .normal (env105 (.c db n cap) (.i (a:Int)) (.i (b:Int)) (.i (p:Int)) (.func 69 [] [.ptr xb 0 0 1]) (.i 0) y11 y12) H1 :=
  RunsTo.hin N 60 [⟨1,6,a0,H⟩,⟨1,7,v0,H⟩,⟨1,10,a1,H⟩,⟨1,11,v1,H⟩,⟨1,12,a2,H⟩,⟨1,13,.tuple [],H0⟩,⟨1,14,a3,H0⟩,⟨1,15,.tuple [],H1⟩] fun kf hk=>⟨_,by kernel_rfl,(oP H g0 (oP H g1 (oP H g2 (oP H g3 (oP H g4 (oS g5 (oP H0 g6 (oS g7 .nil))))))))⟩
theorem pe_c_0 (N:Nat) (db n:Nat) (cap:Option Nat) (H:Heap) (x:Nat) (a:Nat) (b:Nat) (p:Nat) {y11 y12:HV}:RT polSo 105 (sub [1,1,0] B105) (env105 (.c db n cap) (.i (a:Int)) (.i (b:Int)) (.i (p:Int)) (.func 69 [] [.ptr xb 0 0 1]) (.i 0) y11 y12) H .normal (env105 (.c db n cap) (.i (a:Int)) (.i (b:Int)) (.i (p:Int)) (.func 69 [] [.ptr xb 0 0 1]) (.i 0) (.i (IntKind.i64.wrap ((a:Int)+1))) (.i (IntKind.i64.wrap ((b:Int) - 1)))) H :=
  RunsTo.hin N 60 [] fun kf hk=>⟨_,by kernel_rfl,.nil⟩
theorem pe_d_0 (N:Nat) (db n:Nat) (cap:Option Nat) (H:Heap) (x:Nat) (a:Nat) (b:Nat) (p:Nat) (i:Nat) (j:Nat) {a0:HV} {v0:HV} {a1:HV} {v1:HV} {c0:Int} {H0:Heap} (g0:(i:Int) ≤ (j:Int)) (g1:idxV Tp 24 (.c db n cap) (.i (a:Int))=some (a0)) (g2:loadV Tp H 3 (a0)=some (v0)) (g3:idxV Tp 24 (.c db n cap) (.i (i:Int))=some (a1)) (g4:loadV Tp H 3 (a1)=some (v1)) (g5:∀ kf,N ≤ kf → callN Tp polSo (kf+1) 69 [v0,v1,.ptr xb 0 0 1] H=some (.i c0,H0)) (g6:c0 < 0):RT polSo 105 (sub [1,1,1,0,0,0,0,0,0,0] B105) (env105 (.c db n cap) (.i (a:Int)) (.i (b:Int)) (.i (p:Int)) (.func 69 [] [.ptr xb 0 0 1]) (.i 0) (.i (i:Int)) (.i (j:Int))) H (.exit 2) (env105 (.c db n cap) (.i (a:Int)) (.i (b:Int)) (.i (p:Int)) (.func 69 [] [.ptr xb 0 0 1]) (.i 0) (.i (i:Int)) (.i (j:Int))) H0 :=
  RunsTo.hin N 60 [⟨3,2,.bool true,H⟩,⟨3,7,a0,H⟩,⟨3,8,v0,H⟩,⟨3,11,a1,H⟩,⟨3,12,v1,H⟩,⟨3,13,.i c0,H0⟩,⟨3,14,.bool true,H0⟩] fun kf hk=>⟨_,by kernel_rfl,(oB H (decide_eq_true g0) (oP H g1 (oP H g2 (oP H g3 (oP H g4 (oC (g5 kf (by omega)) (oB H0 (decide_eq_true g6) .nil)))))))⟩
theorem pe_d_1 (N:Nat) (db n:Nat) (cap:Option Nat) (H:Heap) (x:Nat) (a:Nat) (b:Nat) (p:Nat) (i:Nat) (j:Nat) {a0:HV} {v0:HV} {a1:HV} {v1:HV} {c0:Int} {H0:Heap} (g0:(i:Int) ≤ (j:Int)) (g1:idxV Tp 24 (.c db n cap) (.i (a:Int))=some (a0)) (g2:loadV Tp H 3 (a0)=some (v0)) (g3:idxV Tp 24 (.c db n cap) (.i (i:Int))=some (a1)) (g4:loadV Tp H 3 (a1)=some (v1)) (g5:∀ kf,N ≤ kf → callN Tp polSo (kf+1) 69 [v0,v1,.ptr xb 0 0 1] H=some (.i c0,H0)) (g6:¬ (c0 < 0)):RT polSo 105 (sub [1,1,1,0,0,0,0,0,0,0] B105) (env105 (.c db n cap) (.i (a:Int)) (.i (b:Int)) (.i (p:Int)) (.func 69 [] [.ptr xb 0 0 1]) (.i 0) (.i (i:Int)) (.i (j:Int))) H .normal (env105 (.c db n cap) (.i (a:Int)) (.i (b:Int)) (.i (p:Int)) (.func 69 [] [.ptr xb 0 0 1]) (.i 0) (.i (IntKind.i64.wrap ((i:Int)+1))) (.i (j:Int))) H0 :=
  RunsTo.hin N 60 [⟨3,2,.bool true,H⟩,⟨3,7,a0,H⟩,⟨3,8,v0,H⟩,⟨3,11,a1,H⟩,⟨3,12,v1,H⟩,⟨3,13,.i c0,H0⟩,⟨3,14,.bool false,H0⟩] fun kf hk=>⟨_,by kernel_rfl,(oB H (decide_eq_true g0) (oP H g1 (oP H g2 (oP H g3 (oP H g4 (oC (g5 kf (by omega)) (oB H0 (decide_eq_false g6) .nil)))))))⟩
theorem pe_d_2 (N:Nat) (db n:Nat) (cap:Option Nat) (H:Heap) (x:Nat) (a:Nat) (b:Nat) (p:Nat) (i:Nat) (j:Nat)(g0:¬ ((i:Int) ≤ (j:Int))):RT polSo 105 (sub [1,1,1,0,0,0,0,0,0,0] B105) (env105 (.c db n cap) (.i (a:Int)) (.i (b:Int)) (.i (p:Int)) (.func 69 [] [.ptr xb 0 0 1]) (.i 0) (.i (i:Int)) (.i (j:Int))) H (.exit 2) (env105 (.c db n cap) (.i (a:Int)) (.i (b:Int)) (.i (p:Int)) (.func 69 [] [.ptr xb 0 0 1]) (.i 0) (.i (i:Int)) (.i (j:Int))) H :=
  RunsTo.hin N 60 [⟨3,2,.bool false,H⟩] fun kf hk=>⟨_,by kernel_rfl,(oB H (decide_eq_false g0) .nil)⟩
theorem pe_e_0 (N:Nat) (db n:Nat) (cap:Option Nat) (H:Heap) (x:Nat) (a:Nat) (b:Nat) (p:Nat) (i:Nat) (j:Nat) {a0:HV} {v0:HV} {a1:HV} {v1:HV} {c0:Int} {H0:Heap} (g0:(i:Int) ≤ (j:Int)) (g1:idxV Tp 24 (.c db n cap) (.i (a:Int))=some (a0)) (g2:loadV Tp H 3 (a0)=some (v0)) (g3:idxV Tp 24 (.c db n cap) (.i (j:Int))=some (a1)) (g4:loadV Tp H 3 (a1)=some (v1)) (g5:∀ kf,N ≤ kf → callN Tp polSo (kf+1) 69 [v0,v1,.ptr xb 0 0 1] H=some (.i c0,H0)) (g6:c0 < 0):RT polSo 105 (sub [1,1,1,0,0,0,0,1,0,0,0] B105) (env105 (.c db n cap) (.i (a:Int)) (.i (b:Int)) (.i (p:Int)) (.func 69 [] [.ptr xb 0 0 1]) (.i 0) (.i (i:Int)) (.i (j:Int))) H .normal (env105 (.c db n cap) (.i (a:Int)) (.i (b:Int)) (.i (p:Int)) (.func 69 [] [.ptr xb 0 0 1]) (.i 0) (.i (i:Int)) (.i (IntKind.i64.wrap ((j:Int) - 1)))) H0 :=
  RunsTo.hin N 60 [⟨5,2,.bool true,H⟩,⟨5,7,a0,H⟩,⟨5,8,v0,H⟩,⟨5,11,a1,H⟩,⟨5,12,v1,H⟩,⟨5,13,.i c0,H0⟩,⟨5,14,.bool true,H0⟩] fun kf hk=>⟨_,by kernel_rfl,(oB H (decide_eq_true g0) (oP H g1 (oP H g2 (oP H g3 (oP H g4 (oC (g5 kf (by omega)) (oB H0 (decide_eq_true g6) .nil)))))))⟩
theorem pe_e_1 (N:Nat) (db n:Nat) (cap:Option Nat) (H:Heap) (x:Nat) (a:Nat) (b:Nat) (p:Nat) (i:Nat) (j:Nat) {a0:HV} {v0:HV} {a1:HV} {v1:HV} {c0:Int} {H0:Heap} (g0:(i:Int) ≤ (j:Int)) (g1:idxV Tp 24 (.c db n cap) (.i (a:Int))=some (a0)) (g2:loadV Tp H 3 (a0)=some (v0)) (g3:idxV Tp 24 (.c db n cap) (.i (j:Int))=some (a1)) (g4:loadV Tp H 3 (a1)=some (v1)) (g5:∀ kf,N ≤ kf → callN Tp polSo (kf+1) 69 [v0,v1,.ptr xb 0 0 1] H=some (.i c0,H0)) (g6:¬ (c0 < 0)):RT polSo 105 (sub [1,1,1,0,0,0,0,1,0,0,0] B105) (env105 (.c db n cap) (.i (a:Int)) (.i (b:Int)) (.i (p:Int)) (.func 69 [] [.ptr xb 0 0 1]) (.i 0) (.i (i:Int)) (.i (j:Int))) H (.exit 4) (env105 (.c db n cap) (.i (a:Int)) (.i (b:Int)) (.i (p:Int)) (.func 69 [] [.ptr xb 0 0 1]) (.i 0) (.i (i:Int)) (.i (j:Int))) H0 :=
  RunsTo.hin N 60 [⟨5,2,.bool true,H⟩,⟨5,7,a0,H⟩,⟨5,8,v0,H⟩,⟨5,11,a1,H⟩,⟨5,12,v1,H⟩,⟨5,13,.i c0,H0⟩,⟨5,14,.bool false,H0⟩] fun kf hk=>⟨_,by kernel_rfl,(oB H (decide_eq_true g0) (oP H g1 (oP H g2 (oP H g3 (oP H g4 (oC (g5 kf (by omega)) (oB H0 (decide_eq_false g6) .nil)))))))⟩
theorem pe_e_2 (N:Nat) (db n:Nat) (cap:Option Nat) (H:Heap) (x:Nat) (a:Nat) (b:Nat) (p:Nat) (i:Nat) (j:Nat)(g0:¬ ((i:Int) ≤ (j:Int))):RT polSo 105 (sub [1,1,1,0,0,0,0,1,0,0,0] B105) (env105 (.c db n cap) (.i (a:Int)) (.i (b:Int)) (.i (p:Int)) (.func 69 [] [.ptr xb 0 0 1]) (.i 0) (.i (i:Int)) (.i (j:Int))) H (.exit 4) (env105 (.c db n cap) (.i (a:Int)) (.i (b:Int)) (.i (p:Int)) (.func 69 [] [.ptr xb 0 0 1]) (.i 0) (.i (i:Int)) (.i (j:Int))) H :=
  RunsTo.hin N 60 [⟨5,2,.bool false,H⟩] fun kf hk=>⟨_,by kernel_rfl,(oB H (decide_eq_false g0) .nil)⟩
theorem pe_f_0 (N:Nat) (db n:Nat) (cap:Option Nat) (H:Heap) (x:Nat) (a:Nat) (b:Nat) (p:Nat) (i:Nat) (j:Nat)(g0:(j:Int) < (i:Int)):RT polSo 105 (sub [1,1,1,0,0,0,0,1,1] B105) (env105 (.c db n cap) (.i (a:Int)) (.i (b:Int)) (.i (p:Int)) (.func 69 [] [.ptr xb 0 0 1]) (.i 0) (.i (i:Int)) (.i (j:Int))) H (.exit 0) (env105 (.c db n cap) (.i (a:Int)) (.i (b:Int)) (.i (p:Int)) (.func 69 [] [.ptr xb 0 0 1]) (.i 0) (.i (i:Int)) (.i (j:Int))) H :=
  RunsTo.hin N 60 [⟨7,2,.bool true,H⟩] fun kf hk=>⟨_,by kernel_rfl,(oB H (decide_eq_true g0) .nil)⟩
theorem pe_f_1 (N:Nat) (db n:Nat) (cap:Option Nat) (H:Heap) (x:Nat) (a:Nat) (b:Nat) (p:Nat) (i:Nat) (j:Nat) {a0:HV} {v0:HV} {a1:HV} {v1:HV} {a2:HV} {H0:Heap} {a3:HV} {H1:Heap} (g0:¬ ((j:Int) < (i:Int))) (g1:idxV Tp 24 (.c db n cap) (.i (j:Int))=some (a0)) (g2:loadV Tp H 3 (a0)=some (v0)) (g3:idxV Tp 24 (.c db n cap) (.i (i:Int))=some (a1)) (g4:loadV Tp H 3 (a1)=some (v1)) (g5:idxV Tp 24 (.c db n cap) (.i (i:Int))=some (a2)) (g6:storeV Tp H 3 (a2) (v0)=some H0) (g7:idxV Tp 24 (.c db n cap) (.i (j:Int))=some (a3)) (g8:storeV Tp H0 3 (a3) (v1)=some H1):RT polSo 105 (sub [1,1,1,0,0,0,0,1,1] B105) (env105 (.c db n cap) (.i (a:Int)) (.i (b:Int)) (.i (p:Int)) (.func 69 [] [.ptr xb 0 0 1]) (.i 0) (.i (i:Int)) (.i (j:Int))) H .normal (env105 (.c db n cap) (.i (a:Int)) (.i (b:Int)) (.i (p:Int)) (.func 69 [] [.ptr xb 0 0 1]) (.i 0) (.i (IntKind.i64.wrap ((i:Int)+1))) (.i (IntKind.i64.wrap ((j:Int) - 1)))) H1 :=
  RunsTo.hin N 60 [⟨7,2,.bool false,H⟩,⟨8,6,a0,H⟩,⟨8,7,v0,H⟩,⟨8,10,a1,H⟩,⟨8,11,v1,H⟩,⟨8,12,a2,H⟩,⟨8,13,.tuple [],H0⟩,⟨8,14,a3,H0⟩,⟨8,15,.tuple [],H1⟩] fun kf hk=>⟨_,by kernel_rfl,(oB H (decide_eq_false g0) (oP H g1 (oP H g2 (oP H g3 (oP H g4 (oP H g5 (oS g6 (oP H0 g7 (oS g8 .nil)))))))))⟩
theorem pe_g_0 (N:Nat) (db n:Nat) (cap:Option Nat) (H:Heap) (x:Nat) (a:Nat) (b:Nat) (p:Nat) (i:Nat) (j:Nat):RT polSo 105 (sub [1,1,1,1] B105) (env105 (.c db n cap) (.i (a:Int)) (.i (b:Int)) (.i (p:Int)) (.func 69 [] [.ptr xb 0 0 1]) (.i 0) (.i (i:Int)) (.i (j:Int))) H .ret (env105 (.c db n cap) (.i (a:Int)) (.i (b:Int)) (.i (p:Int)) (.func 69 [] [.ptr xb 0 0 1]) (.i (i:Int)) (.i (i:Int)) (.i (j:Int))) H :=
  RunsTo.hin N 60 [] fun kf hk=>⟨_,by kernel_rfl,.nil⟩
noncomputable def B104:Code:=Try.f104.body.getD .skip
abbrev env104 (v0 v1 v2 v3 v8 v9 v10 v11 v12:HV):Env:=[(0,v0),(1,v1),(2,v2),(3,v3),(8,v8),(9,v9),(10,v10),(11,v11),(12,v12)]
theorem pi_a_0 (N:Nat) (db n:Nat) (cap:Option Nat) (H:Heap) (x:Nat) (a:Nat) (b:Nat):RT polSo 104 (sub [0] B104) [(0,.c db n cap),(1,.i (a:Int)),(2,.i (b:Int)),(3,.func 69 [] [.ptr xb 0 0 1])] H .normal (env104 (.c db n cap) (.i (a:Int)) (.i (b:Int)) (.func 69 [] [.ptr xb 0 0 1]) (.bool false) Ud Ud Ud Ud) H :=
  RunsTo.hin N 60 [] fun kf hk=>⟨_,by kernel_rfl,.nil⟩
theorem pi_b_0 (N:Nat) (db n:Nat) (cap:Option Nat) (H:Heap) (x:Nat) (a:Nat) (b:Nat) {y9 y10 y11 y12:HV}:RT polSo 104 (sub [1,0] B104) (env104 (.c db n cap) (.i (a:Int)) (.i (b:Int)) (.func 69 [] [.ptr xb 0 0 1]) (.bool false) y9 y10 y11 y12) H .normal (env104 (.c db n cap) (.i (a:Int)) (.i (b:Int)) (.func 69 [] [.ptr xb 0 0 1]) (.bool false) (.i (IntKind.i64.wrap ((a:Int)+1))) y10 y11 y12) H :=
  RunsTo.hin N 60 [] fun kf hk=>⟨_,by kernel_rfl,.nil⟩
theorem pi_c_0 (N:Nat) (db n:Nat) (cap:Option Nat) (H:Heap) (x:Nat) (a:Nat) (b:Nat) (i:Nat) {y10 y11 y12:HV}:RT polSo 104 (sub [1,1,0,0] B104) (env104 (.c db n cap) (.i (a:Int)) (.i (b:Int)) (.func 69 [] [.ptr xb 0 0 1]) (.bool false) (.i (i:Int)) y10 y11 y12) H .normal (env104 (.c db n cap) (.i (a:Int)) (.i (b:Int)) (.func 69 [] [.ptr xb 0 0 1]) (.bool false) (.i (i:Int)) (.i 0) y11 y12) H :=
  RunsTo.hin N 60 [] fun kf hk=>⟨_,by kernel_rfl,.nil⟩
theorem pi_d_0 (N:Nat) (db n:Nat) (cap:Option Nat) (H:Heap) (x:Nat) (a:Nat) (b:Nat) (i:Nat) (k:Nat) {y11 y12:HV}(g0:(k:Int) < 5):RT polSo 104 (sub [1,1,0,1,0,0,0] B104) (env104 (.c db n cap) (.i (a:Int)) (.i (b:Int)) (.func 69 [] [.ptr xb 0 0 1]) (.bool false) (.i (i:Int)) (.i (k:Int)) y11 y12) H .normal (env104 (.c db n cap) (.i (a:Int)) (.i (b:Int)) (.func 69 [] [.ptr xb 0 0 1]) (.bool false) (.i (i:Int)) (.i (k:Int)) y11 y12) H :=
  RunsTo.hin N 60 [⟨3,1,.bool true,H⟩] fun kf hk=>⟨_,by kernel_rfl,(oB H (decide_eq_true g0) .nil)⟩
theorem pi_d_1 (N:Nat) (db n:Nat) (cap:Option Nat) (H:Heap) (x:Nat) (a:Nat) (b:Nat) (i:Nat) (k:Nat) {y11 y12:HV}(g0:¬ ((k:Int) < 5)):RT polSo 104 (sub [1,1,0,1,0,0,0] B104) (env104 (.c db n cap) (.i (a:Int)) (.i (b:Int)) (.func 69 [] [.ptr xb 0 0 1]) (.bool false) (.i (i:Int)) (.i (k:Int)) y11 y12) H (.exit 0) (env104 (.c db n cap) (.i (a:Int)) (.i (b:Int)) (.func 69 [] [.ptr xb 0 0 1]) (.bool false) (.i (i:Int)) (.i (k:Int)) y11 y12) H :=
  RunsTo.hin N 60 [⟨3,1,.bool false,H⟩] fun kf hk=>⟨_,by kernel_rfl,(oB H (decide_eq_false g0) .nil)⟩
theorem pi_e_0 (N:Nat) (db n:Nat) (cap:Option Nat) (H:Heap) (x:Nat) (a:Nat) (b:Nat) (i:Nat) (k:Nat) {y11 y12:HV} {a0:HV} {v0:HV} {a1:HV} {v1:HV} {c0:Int} {H0:Heap} (g0:(i:Int) < (b:Int)) (g1:idxV Tp 24 (.c db n cap) (.i (i:Int))=some (a0)) (g2:loadV Tp H 3 (a0)=some (v0)) (g3:idxV Tp 24 (.c db n cap) (.i (IntKind.i64.wrap ((i:Int) - 1)))=some (a1)) (g4:loadV Tp H 3 (a1)=some (v1)) (g5:∀ kf,N ≤ kf → callN Tp polSo (kf+1) 69 [v0,v1,.ptr xb 0 0 1] H=some (.i c0,H0)) (g6:c0 < 0):RT polSo 104 (sub [1,1,0,1,0,0,1,0,0,0,0,0] B104) (env104 (.c db n cap) (.i (a:Int)) (.i (b:Int)) (.func 69 [] [.ptr xb 0 0 1]) (.bool false) (.i (i:Int)) (.i (k:Int)) y11 y12) H (.exit 2) (env104 (.c db n cap) (.i (a:Int)) (.i (b:Int)) (.func 69 [] [.ptr xb 0 0 1]) (.bool false) (.i (i:Int)) (.i (k:Int)) y11 y12) H0 :=
  RunsTo.hin N 60 [⟨5,2,.bool true,H⟩,⟨5,7,a0,H⟩,⟨5,8,v0,H⟩,⟨5,12,a1,H⟩,⟨5,13,v1,H⟩,⟨5,14,.i c0,H0⟩,⟨5,15,.bool true,H0⟩] fun kf hk=>⟨_,by kernel_rfl,(oB H (decide_eq_true g0) (oP H g1 (oP H g2 (oP H g3 (oP H g4 (oC (g5 kf (by omega)) (oB H0 (decide_eq_true g6) .nil)))))))⟩
theorem pi_e_1 (N:Nat) (db n:Nat) (cap:Option Nat) (H:Heap) (x:Nat) (a:Nat) (b:Nat) (i:Nat) (k:Nat) {y11 y12:HV} {a0:HV} {v0:HV} {a1:HV} {v1:HV} {c0:Int} {H0:Heap} (g0:(i:Int) < (b:Int)) (g1:idxV Tp 24 (.c db n cap) (.i (i:Int))=some (a0)) (g2:loadV Tp H 3 (a0)=some (v0)) (g3:idxV Tp 24 (.c db n cap) (.i (IntKind.i64.wrap ((i:Int) - 1)))=some (a1)) (g4:loadV Tp H 3 (a1)=some (v1)) (g5:∀ kf,N ≤ kf → callN Tp polSo (kf+1) 69 [v0,v1,.ptr xb 0 0 1] H=some (.i c0,H0)) (g6:¬ (c0 < 0)):RT polSo 104 (sub [1,1,0,1,0,0,1,0,0,0,0,0] B104) (env104 (.c db n cap) (.i (a:Int)) (.i (b:Int)) (.func 69 [] [.ptr xb 0 0 1]) (.bool false) (.i (i:Int)) (.i (k:Int)) y11 y12) H .normal (env104 (.c db n cap) (.i (a:Int)) (.i (b:Int)) (.func 69 [] [.ptr xb 0 0 1]) (.bool false) (.i (IntKind.i64.wrap ((i:Int)+1))) (.i (k:Int)) y11 y12) H0 :=
  RunsTo.hin N 60 [⟨5,2,.bool true,H⟩,⟨5,7,a0,H⟩,⟨5,8,v0,H⟩,⟨5,12,a1,H⟩,⟨5,13,v1,H⟩,⟨5,14,.i c0,H0⟩,⟨5,15,.bool false,H0⟩] fun kf hk=>⟨_,by kernel_rfl,(oB H (decide_eq_true g0) (oP H g1 (oP H g2 (oP H g3 (oP H g4 (oC (g5 kf (by omega)) (oB H0 (decide_eq_false g6) .nil)))))))⟩
theorem pi_e_2 (N:Nat) (db n:Nat) (cap:Option Nat) (H:Heap) (x:Nat) (a:Nat) (b:Nat) (i:Nat) (k:Nat) {y11 y12:HV}(g0:¬ ((i:Int) < (b:Int))):RT polSo 104 (sub [1,1,0,1,0,0,1,0,0,0,0,0] B104) (env104 (.c db n cap) (.i (a:Int)) (.i (b:Int)) (.func 69 [] [.ptr xb 0 0 1]) (.bool false) (.i (i:Int)) (.i (k:Int)) y11 y12) H (.exit 2) (env104 (.c db n cap) (.i (a:Int)) (.i (b:Int)) (.func 69 [] [.ptr xb 0 0 1]) (.bool false) (.i (i:Int)) (.i (k:Int)) y11 y12) H :=
  RunsTo.hin N 60 [⟨5,2,.bool false,H⟩] fun kf hk=>⟨_,by kernel_rfl,(oB H (decide_eq_false g0) .nil)⟩
theorem pi_f_0 (N:Nat) (db n:Nat) (cap:Option Nat) (H:Heap) (x:Nat) (a:Nat) (b:Nat) (i:Nat) (k:Nat) {y11 y12:HV}(g0:(i:Int)=(b:Int)):RT polSo 104 (sub [1,1,0,1,0,0,1,0,0,1,0] B104) (env104 (.c db n cap) (.i (a:Int)) (.i (b:Int)) (.func 69 [] [.ptr xb 0 0 1]) (.bool false) (.i (i:Int)) (.i (k:Int)) y11 y12) H .ret (env104 (.c db n cap) (.i (a:Int)) (.i (b:Int)) (.func 69 [] [.ptr xb 0 0 1]) (.bool true) (.i (i:Int)) (.i (k:Int)) y11 y12) H :=
  RunsTo.hin N 60 [⟨7,2,.bool true,H⟩] fun kf hk=>⟨_,by kernel_rfl,(oB H (decide_eq_true g0) .nil)⟩
theorem pi_f_1 (N:Nat) (db n:Nat) (cap:Option Nat) (H:Heap) (x:Nat) (a:Nat) (b:Nat) (i:Nat) (k:Nat) {y11 y12:HV}(g0:¬ ((i:Int)=(b:Int))):RT polSo 104 (sub [1,1,0,1,0,0,1,0,0,1,0] B104) (env104 (.c db n cap) (.i (a:Int)) (.i (b:Int)) (.func 69 [] [.ptr xb 0 0 1]) (.bool false) (.i (i:Int)) (.i (k:Int)) y11 y12) H .normal (env104 (.c db n cap) (.i (a:Int)) (.i (b:Int)) (.func 69 [] [.ptr xb 0 0 1]) (.bool false) (.i (i:Int)) (.i (k:Int)) y11 y12) H :=
  RunsTo.hin N 60 [⟨7,2,.bool false,H⟩] fun kf hk=>⟨_,by kernel_rfl,(oB H (decide_eq_false g0) .nil)⟩
theorem pi_g_0 (N:Nat) (db n:Nat) (cap:Option Nat) (H:Heap) (x:Nat) (a:Nat) (b:Nat) (i:Nat) (k:Nat) {y11 y12:HV}(g0:IntKind.i64.wrap ((b:Int) - (a:Int)) < 50):RT polSo 104 (sub [1,1,0,1,0,0,1,0,0,1,1,0] B104) (env104 (.c db n cap) (.i (a:Int)) (.i (b:Int)) (.func 69 [] [.ptr xb 0 0 1]) (.bool false) (.i (i:Int)) (.i (k:Int)) y11 y12) H .ret (env104 (.c db n cap) (.i (a:Int)) (.i (b:Int)) (.func 69 [] [.ptr xb 0 0 1]) (.bool false) (.i (i:Int)) (.i (k:Int)) y11 y12) H :=
  RunsTo.hin N 60 [⟨9,3,.bool true,H⟩] fun kf hk=>⟨_,by kernel_rfl,(oB H (decide_eq_true g0) .nil)⟩
theorem pi_g_1 (N:Nat) (db n:Nat) (cap:Option Nat) (H:Heap) (x:Nat) (a:Nat) (b:Nat) (i:Nat) (k:Nat) {y11 y12:HV}(g0:¬ (IntKind.i64.wrap ((b:Int) - (a:Int)) < 50)):RT polSo 104 (sub [1,1,0,1,0,0,1,0,0,1,1,0] B104) (env104 (.c db n cap) (.i (a:Int)) (.i (b:Int)) (.func 69 [] [.ptr xb 0 0 1]) (.bool false) (.i (i:Int)) (.i (k:Int)) y11 y12) H .normal (env104 (.c db n cap) (.i (a:Int)) (.i (b:Int)) (.func 69 [] [.ptr xb 0 0 1]) (.bool false) (.i (i:Int)) (.i (k:Int)) y11 y12) H :=
  RunsTo.hin N 60 [⟨9,3,.bool false,H⟩] fun kf hk=>⟨_,by kernel_rfl,(oB H (decide_eq_false g0) .nil)⟩
theorem pi_h_0 (N:Nat) (db n:Nat) (cap:Option Nat) (H:Heap) (x:Nat) (a:Nat) (b:Nat) (i:Nat) (k:Nat) {y11 y12:HV} {a0:HV} {v0:HV} {a1:HV} {v1:HV} {a2:HV} {H0:Heap} {a3:HV} {H1:Heap} (g0:idxV Tp 24 (.c db n cap) (.i (IntKind.i64.wrap ((i:Int) - 1)))=some (a0)) (g1:loadV Tp H 3 (a0)=some (v0)) (g2:idxV Tp 24 (.c db n cap) (.i (i:Int))=some (a1)) (g3:loadV Tp H 3 (a1)=some (v1)) (g4:idxV Tp 24 (.c db n cap) (.i (i:Int))=some (a2)) (g5:storeV Tp H 3 (a2) (v0)=some H0) (g6:idxV Tp 24 (.c db n cap) (.i (IntKind.i64.wrap ((i:Int) - 1)))=some (a3)) (g7:storeV Tp H0 3 (a3) (v1)=some H1):RT polSo 104 (sub [1,1,0,1,0,0,1,0,0,1,1,1,0] B104) (env104 (.c db n cap) (.i (a:Int)) (.i (b:Int)) (.func 69 [] [.ptr xb 0 0 1]) (.bool false) (.i (i:Int)) (.i (k:Int)) y11 y12) H .normal (env104 (.c db n cap) (.i (a:Int)) (.i (b:Int)) (.func 69 [] [.ptr xb 0 0 1]) (.bool false) (.i (i:Int)) (.i (k:Int)) y11 y12) H1 :=
  RunsTo.hin N 60 [⟨11,8,a0,H⟩,⟨11,9,v0,H⟩,⟨11,12,a1,H⟩,⟨11,13,v1,H⟩,⟨11,14,a2,H⟩,⟨11,15,.tuple [],H0⟩,⟨11,16,a3,H0⟩,⟨11,17,.tuple [],H1⟩] fun kf hk=>⟨_,by kernel_rfl,(oP H g0 (oP H g1 (oP H g2 (oP H g3 (oP H g4 (oS g5 (oP H0 g6 (oS g7 .nil))))))))⟩
theorem pi_i_0 (N:Nat) (db n:Nat) (cap:Option Nat) (H:Heap) (x:Nat) (a:Nat) (b:Nat) (i:Nat) (k:Nat) {y11 y12:HV}(g0:2 ≤ IntKind.i64.wrap ((i:Int) - (a:Int))):RunsTo Tp polSo 104 (sub [1,1,0,1,0,0,1,0,0,1,1,1,1,0,0] B104) (env104 (.c db n cap) (.i (a:Int)) (.i (b:Int)) (.func 69 [] [.ptr xb 0 0 1]) (.bool false) (.i (i:Int)) (.i (k:Int)) y11 y12) H .normal [0,1,2,3,8,9,10,11,12,65] [(0,.c db n cap),(1,.i (a:Int)),(2,.i (b:Int)),(3,.func 69 [] [.ptr xb 0 0 1]),(8,.bool false),(9,.i (i:Int)),(10,.i (k:Int)),(11,y11),(12,y12),(65,.bool true)] H :=
  RunsTo.hin N 60 [⟨12,3,.bool true,H⟩] fun kf hk=>⟨_,by kernel_rfl,(oB H (decide_eq_true g0) .nil)⟩
theorem pi_i_1 (N:Nat) (db n:Nat) (cap:Option Nat) (H:Heap) (x:Nat) (a:Nat) (b:Nat) (i:Nat) (k:Nat) {y11 y12:HV}(g0:¬ (2 ≤ IntKind.i64.wrap ((i:Int) - (a:Int)))):RunsTo Tp polSo 104 (sub [1,1,0,1,0,0,1,0,0,1,1,1,1,0,0] B104) (env104 (.c db n cap) (.i (a:Int)) (.i (b:Int)) (.func 69 [] [.ptr xb 0 0 1]) (.bool false) (.i (i:Int)) (.i (k:Int)) y11 y12) H .normal [0,1,2,3,8,9,10,11,12,65] [(0,.c db n cap),(1,.i (a:Int)),(2,.i (b:Int)),(3,.func 69 [] [.ptr xb 0 0 1]),(8,.bool false),(9,.i (i:Int)),(10,.i (k:Int)),(11,y11),(12,y12),(65,.bool false)] H :=
  RunsTo.hin N 60 [⟨12,3,.bool false,H⟩] fun kf hk=>⟨_,by kernel_rfl,(oB H (decide_eq_false g0) .nil)⟩
theorem pi_j_0 (N:Nat) (db n:Nat) (cap:Option Nat) (H:Heap) (x:Nat) (a:Nat) (b:Nat) (i:Nat) (k:Nat) {y11 y12:HV}:RT polSo 104 (sub [1,1,0,1,0,0,1,0,0,1,1,1,1,0,1,0,0] B104) (env104 (.c db n cap) (.i (a:Int)) (.i (b:Int)) (.func 69 [] [.ptr xb 0 0 1]) (.bool false) (.i (i:Int)) (.i (k:Int)) y11 y12) H .normal (env104 (.c db n cap) (.i (a:Int)) (.i (b:Int)) (.func 69 [] [.ptr xb 0 0 1]) (.bool false) (.i (i:Int)) (.i (k:Int)) (.i (IntKind.i64.wrap ((i:Int) - 1))) y12) H :=
  RunsTo.hin N 60 [] fun kf hk=>⟨_,by kernel_rfl,.nil⟩
theorem pi_k_0 (N:Nat) (db n:Nat) (cap:Option Nat) (H:Heap) (x:Nat) (a:Nat) (b:Nat) (i:Nat) (k:Nat) (j:Nat) {y12:HV} {a0:HV} {v0:HV} {a1:HV} {v1:HV} {c0:Int} {H0:Heap} {a2:HV} {v2:HV} {a3:HV} {v3:HV} {a4:HV} {H1:Heap} {a5:HV} {H2:Heap} (g0:1 ≤ (j:Int)) (g1:idxV Tp 24 (.c db n cap) (.i (j:Int))=some (a0)) (g2:loadV Tp H 3 (a0)=some (v0)) (g3:idxV Tp 24 (.c db n cap) (.i (IntKind.i64.wrap ((j:Int) - 1)))=some (a1)) (g4:loadV Tp H 3 (a1)=some (v1)) (g5:∀ kf,N ≤ kf → callN Tp polSo (kf+1) 69 [v0,v1,.ptr xb 0 0 1] H=some (.i c0,H0)) (g6:c0 < 0) (g7:idxV Tp 24 (.c db n cap) (.i (IntKind.i64.wrap ((j:Int) - 1)))=some (a2)) (g8:loadV Tp H0 3 (a2)=some (v2)) (g9:idxV Tp 24 (.c db n cap) (.i (j:Int))=some (a3)) (g10:loadV Tp H0 3 (a3)=some (v3)) (g11:idxV Tp 24 (.c db n cap) (.i (j:Int))=some (a4)) (g12:storeV Tp H0 3 (a4) (v2)=some H1) (g13:idxV Tp 24 (.c db n cap) (.i (IntKind.i64.wrap ((j:Int) - 1)))=some (a5)) (g14:storeV Tp H1 3 (a5) (v3)=some H2):RT polSo 104 (sub [1,1,0,1,0,0,1,0,0,1,1,1,1,0,1,0,1,0,0] B104) (env104 (.c db n cap) (.i (a:Int)) (.i (b:Int)) (.func 69 [] [.ptr xb 0 0 1]) (.bool false) (.i (i:Int)) (.i (k:Int)) (.i (j:Int)) y12) H .normal (env104 (.c db n cap) (.i (a:Int)) (.i (b:Int)) (.func 69 [] [.ptr xb 0 0 1]) (.bool false) (.i (i:Int)) (.i (k:Int)) (.i (IntKind.i64.wrap ((j:Int) - 1))) y12) H2 :=
  RunsTo.hin N 60 [⟨14,1,.bool true,H⟩,⟨16,3,a0,H⟩,⟨16,4,v0,H⟩,⟨16,8,a1,H⟩,⟨16,9,v1,H⟩,⟨16,10,.i c0,H0⟩,⟨16,11,.bool true,H0⟩,⟨17,8,a2,H0⟩,⟨17,9,v2,H0⟩,⟨17,12,a3,H0⟩,⟨17,13,v3,H0⟩,⟨17,14,a4,H0⟩,⟨17,15,.tuple [],H1⟩,⟨17,16,a5,H1⟩,⟨17,17,.tuple [],H2⟩] fun kf hk=>⟨_,by kernel_rfl,(oB H (decide_eq_true g0) (oP H g1 (oP H g2 (oP H g3 (oP H g4 (oC (g5 kf (by omega)) (oB H0 (decide_eq_true g6) (oP H0 g7 (oP H0 g8 (oP H0 g9 (oP H0 g10 (oP H0 g11 (oS g12 (oP H1 g13 (oS g14 .nil)))))))))))))))⟩
theorem pi_k_1 (N:Nat) (db n:Nat) (cap:Option Nat) (H:Heap) (x:Nat) (a:Nat) (b:Nat) (i:Nat) (k:Nat) (j:Nat) {y12:HV} {a0:HV} {v0:HV} {a1:HV} {v1:HV} {c0:Int} {H0:Heap} (g0:1 ≤ (j:Int)) (g1:idxV Tp 24 (.c db n cap) (.i (j:Int))=some (a0)) (g2:loadV Tp H 3 (a0)=some (v0)) (g3:idxV Tp 24 (.c db n cap) (.i (IntKind.i64.wrap ((j:Int) - 1)))=some (a1)) (g4:loadV Tp H 3 (a1)=some (v1)) (g5:∀ kf,N ≤ kf → callN Tp polSo (kf+1) 69 [v0,v1,.ptr xb 0 0 1] H=some (.i c0,H0)) (g6:¬ (c0 < 0)):RT polSo 104 (sub [1,1,0,1,0,0,1,0,0,1,1,1,1,0,1,0,1,0,0] B104) (env104 (.c db n cap) (.i (a:Int)) (.i (b:Int)) (.func 69 [] [.ptr xb 0 0 1]) (.bool false) (.i (i:Int)) (.i (k:Int)) (.i (j:Int)) y12) H (.exit 4) (env104 (.c db n cap) (.i (a:Int)) (.i (b:Int)) (.func 69 [] [.ptr xb 0 0 1]) (.bool false) (.i (i:Int)) (.i (k:Int)) (.i (j:Int)) y12) H0 :=
  RunsTo.hin N 60 [⟨14,1,.bool true,H⟩,⟨16,3,a0,H⟩,⟨16,4,v0,H⟩,⟨16,8,a1,H⟩,⟨16,9,v1,H⟩,⟨16,10,.i c0,H0⟩,⟨16,11,.bool false,H0⟩] fun kf hk=>⟨_,by kernel_rfl,(oB H (decide_eq_true g0) (oP H g1 (oP H g2 (oP H g3 (oP H g4 (oC (g5 kf (by omega)) (oB H0 (decide_eq_false g6) .nil)))))))⟩
theorem pi_k_2 (N:Nat) (db n:Nat) (cap:Option Nat) (H:Heap) (x:Nat) (a:Nat) (b:Nat) (i:Nat) (k:Nat) (j:Nat) {y12:HV}(g0:¬ (1 ≤ (j:Int))):RT polSo 104 (sub [1,1,0,1,0,0,1,0,0,1,1,1,1,0,1,0,1,0,0] B104) (env104 (.c db n cap) (.i (a:Int)) (.i (b:Int)) (.func 69 [] [.ptr xb 0 0 1]) (.bool false) (.i (i:Int)) (.i (k:Int)) (.i (j:Int)) y12) H (.exit 4) (env104 (.c db n cap) (.i (a:Int)) (.i (b:Int)) (.func 69 [] [.ptr xb 0 0 1]) (.bool false) (.i (i:Int)) (.i (k:Int)) (.i (j:Int)) y12) H :=
  RunsTo.hin N 60 [⟨14,1,.bool false,H⟩] fun kf hk=>⟨_,by kernel_rfl,(oB H (decide_eq_false g0) .nil)⟩
theorem pi_l_0 (N:Nat) (db n:Nat) (cap:Option Nat) (H:Heap) (x:Nat) (a:Nat) (b:Nat) (i:Nat) (k:Nat) {y11 y12:HV}(g0:2 ≤ IntKind.i64.wrap ((b:Int) - (i:Int))):RunsTo Tp polSo 104 (sub [1,1,0,1,0,0,1,0,0,1,1,1,1,1,0] B104) (env104 (.c db n cap) (.i (a:Int)) (.i (b:Int)) (.func 69 [] [.ptr xb 0 0 1]) (.bool false) (.i (i:Int)) (.i (k:Int)) y11 y12) H .normal [0,1,2,3,8,9,10,11,12,104] [(0,.c db n cap),(1,.i (a:Int)),(2,.i (b:Int)),(3,.func 69 [] [.ptr xb 0 0 1]),(8,.bool false),(9,.i (i:Int)),(10,.i (k:Int)),(11,y11),(12,y12),(104,.bool true)] H :=
  RunsTo.hin N 60 [⟨18,3,.bool true,H⟩] fun kf hk=>⟨_,by kernel_rfl,(oB H (decide_eq_true g0) .nil)⟩
theorem pi_l_1 (N:Nat) (db n:Nat) (cap:Option Nat) (H:Heap) (x:Nat) (a:Nat) (b:Nat) (i:Nat) (k:Nat) {y11 y12:HV}(g0:¬ (2 ≤ IntKind.i64.wrap ((b:Int) - (i:Int)))):RunsTo Tp polSo 104 (sub [1,1,0,1,0,0,1,0,0,1,1,1,1,1,0] B104) (env104 (.c db n cap) (.i (a:Int)) (.i (b:Int)) (.func 69 [] [.ptr xb 0 0 1]) (.bool false) (.i (i:Int)) (.i (k:Int)) y11 y12) H .normal [0,1,2,3,8,9,10,11,12,104] [(0,.c db n cap),(1,.i (a:Int)),(2,.i (b:Int)),(3,.func 69 [] [.ptr xb 0 0 1]),(8,.bool false),(9,.i (i:Int)),(10,.i (k:Int)),(11,y11),(12,y12),(104,.bool false)] H :=
  RunsTo.hin N 60 [⟨18,3,.bool false,H⟩] fun kf hk=>⟨_,by kernel_rfl,(oB H (decide_eq_false g0) .nil)⟩
theorem pi_m_0 (N:Nat) (db n:Nat) (cap:Option Nat) (H:Heap) (x:Nat) (a:Nat) (b:Nat) (i:Nat) (k:Nat) {y11 y12:HV}:RT polSo 104 (sub [1,1,0,1,0,0,1,0,0,1,1,1,1,1,1,0,0] B104) (env104 (.c db n cap) (.i (a:Int)) (.i (b:Int)) (.func 69 [] [.ptr xb 0 0 1]) (.bool false) (.i (i:Int)) (.i (k:Int)) y11 y12) H .normal (env104 (.c db n cap) (.i (a:Int)) (.i (b:Int)) (.func 69 [] [.ptr xb 0 0 1]) (.bool false) (.i (i:Int)) (.i (k:Int)) y11 (.i (IntKind.i64.wrap ((i:Int)+1)))) H :=
  RunsTo.hin N 60 [] fun kf hk=>⟨_,by kernel_rfl,.nil⟩
theorem pi_n_0 (N:Nat) (db n:Nat) (cap:Option Nat) (H:Heap) (x:Nat) (a:Nat) (b:Nat) (i:Nat) (k:Nat) (w:Nat) {y11:HV} {a0:HV} {v0:HV} {a1:HV} {v1:HV} {c0:Int} {H0:Heap} {a2:HV} {v2:HV} {a3:HV} {v3:HV} {a4:HV} {H1:Heap} {a5:HV} {H2:Heap} (g0:(w:Int) < (b:Int)) (g1:idxV Tp 24 (.c db n cap) (.i (w:Int))=some (a0)) (g2:loadV Tp H 3 (a0)=some (v0)) (g3:idxV Tp 24 (.c db n cap) (.i (IntKind.i64.wrap ((w:Int) - 1)))=some (a1)) (g4:loadV Tp H 3 (a1)=some (v1)) (g5:∀ kf,N ≤ kf → callN Tp polSo (kf+1) 69 [v0,v1,.ptr xb 0 0 1] H=some (.i c0,H0)) (g6:c0 < 0) (g7:idxV Tp 24 (.c db n cap) (.i (IntKind.i64.wrap ((w:Int) - 1)))=some (a2)) (g8:loadV Tp H0 3 (a2)=some (v2)) (g9:idxV Tp 24 (.c db n cap) (.i (w:Int))=some (a3)) (g10:loadV Tp H0 3 (a3)=some (v3)) (g11:idxV Tp 24 (.c db n cap) (.i (w:Int))=some (a4)) (g12:storeV Tp H0 3 (a4) (v2)=some H1) (g13:idxV Tp 24 (.c db n cap) (.i (IntKind.i64.wrap ((w:Int) - 1)))=some (a5)) (g14:storeV Tp H1 3 (a5) (v3)=some H2):RT polSo 104 (sub [1,1,0,1,0,0,1,0,0,1,1,1,1,1,1,0,1,0,0] B104) (env104 (.c db n cap) (.i (a:Int)) (.i (b:Int)) (.func 69 [] [.ptr xb 0 0 1]) (.bool false) (.i (i:Int)) (.i (k:Int)) y11 (.i (w:Int))) H .normal (env104 (.c db n cap) (.i (a:Int)) (.i (b:Int)) (.func 69 [] [.ptr xb 0 0 1]) (.bool false) (.i (i:Int)) (.i (k:Int)) y11 (.i (IntKind.i64.wrap ((w:Int)+1)))) H2 :=
  RunsTo.hin N 60 [⟨20,2,.bool true,H⟩,⟨22,3,a0,H⟩,⟨22,4,v0,H⟩,⟨22,8,a1,H⟩,⟨22,9,v1,H⟩,⟨22,10,.i c0,H0⟩,⟨22,11,.bool true,H0⟩,⟨23,8,a2,H0⟩,⟨23,9,v2,H0⟩,⟨23,12,a3,H0⟩,⟨23,13,v3,H0⟩,⟨23,14,a4,H0⟩,⟨23,15,.tuple [],H1⟩,⟨23,16,a5,H1⟩,⟨23,17,.tuple [],H2⟩] fun kf hk=>⟨_,by kernel_rfl,(oB H (decide_eq_true g0) (oP H g1 (oP H g2 (oP H g3 (oP H g4 (oC (g5 kf (by omega)) (oB H0 (decide_eq_true g6) (oP H0 g7 (oP H0 g8 (oP H0 g9 (oP H0 g10 (oP H0 g11 (oS g12 (oP H1 g13 (oS g14 .nil)))))))))))))))⟩
theorem pi_n_1 (N:Nat) (db n:Nat) (cap:Option Nat) (H:Heap) (x:Nat) (a:Nat) (b:Nat) (i:Nat) (k:Nat) (w:Nat) {y11:HV} {a0:HV} {v0:HV} {a1:HV} {v1:HV} {c0:Int} {H0:Heap} (g0:(w:Int) < (b:Int)) (g1:idxV Tp 24 (.c db n cap) (.i (w:Int))=some (a0)) (g2:loadV Tp H 3 (a0)=some (v0)) (g3:idxV Tp 24 (.c db n cap) (.i (IntKind.i64.wrap ((w:Int) - 1)))=some (a1)) (g4:loadV Tp H 3 (a1)=some (v1)) (g5:∀ kf,N ≤ kf → callN Tp polSo (kf+1) 69 [v0,v1,.ptr xb 0 0 1] H=some (.i c0,H0)) (g6:¬ (c0 < 0)):RT polSo 104 (sub [1,1,0,1,0,0,1,0,0,1,1,1,1,1,1,0,1,0,0] B104) (env104 (.c db n cap) (.i (a:Int)) (.i (b:Int)) (.func 69 [] [.ptr xb 0 0 1]) (.bool false) (.i (i:Int)) (.i (k:Int)) y11 (.i (w:Int))) H (.exit 6) (env104 (.c db n cap) (.i (a:Int)) (.i (b:Int)) (.func 69 [] [.ptr xb 0 0 1]) (.bool false) (.i (i:Int)) (.i (k:Int)) y11 (.i (w:Int))) H0 :=
  RunsTo.hin N 60 [⟨20,2,.bool true,H⟩,⟨22,3,a0,H⟩,⟨22,4,v0,H⟩,⟨22,8,a1,H⟩,⟨22,9,v1,H⟩,⟨22,10,.i c0,H0⟩,⟨22,11,.bool false,H0⟩] fun kf hk=>⟨_,by kernel_rfl,(oB H (decide_eq_true g0) (oP H g1 (oP H g2 (oP H g3 (oP H g4 (oC (g5 kf (by omega)) (oB H0 (decide_eq_false g6) .nil)))))))⟩
theorem pi_n_2 (N:Nat) (db n:Nat) (cap:Option Nat) (H:Heap) (x:Nat) (a:Nat) (b:Nat) (i:Nat) (k:Nat) (w:Nat) {y11:HV}(g0:¬ ((w:Int) < (b:Int))):RT polSo 104 (sub [1,1,0,1,0,0,1,0,0,1,1,1,1,1,1,0,1,0,0] B104) (env104 (.c db n cap) (.i (a:Int)) (.i (b:Int)) (.func 69 [] [.ptr xb 0 0 1]) (.bool false) (.i (i:Int)) (.i (k:Int)) y11 (.i (w:Int))) H (.exit 6) (env104 (.c db n cap) (.i (a:Int)) (.i (b:Int)) (.func 69 [] [.ptr xb 0 0 1]) (.bool false) (.i (i:Int)) (.i (k:Int)) y11 (.i (w:Int))) H :=
  RunsTo.hin N 60 [⟨20,2,.bool false,H⟩] fun kf hk=>⟨_,by kernel_rfl,(oB H (decide_eq_false g0) .nil)⟩
theorem pi_o_0 (N:Nat) (db n:Nat) (cap:Option Nat) (H:Heap) (x:Nat) (a:Nat) (b:Nat) (i:Nat) (k:Nat) {y11 y12:HV}:RT polSo 104 (sub [1,1,0,1,0,0,1,1] B104) (env104 (.c db n cap) (.i (a:Int)) (.i (b:Int)) (.func 69 [] [.ptr xb 0 0 1]) (.bool false) (.i (i:Int)) (.i (k:Int)) y11 y12) H .normal (env104 (.c db n cap) (.i (a:Int)) (.i (b:Int)) (.func 69 [] [.ptr xb 0 0 1]) (.bool false) (.i (i:Int)) (.i (IntKind.i64.wrap ((k:Int)+1))) y11 y12) H :=
  RunsTo.hin N 60 [] fun kf hk=>⟨_,by kernel_rfl,.nil⟩
theorem pi_p_0 (N:Nat) (db n:Nat) (cap:Option Nat) (H:Heap) (x:Nat) (a:Nat) (b:Nat) (i:Nat) (k:Nat) {y11 y12:HV}:RT polSo 104 (sub [1,1,1] B104) (env104 (.c db n cap) (.i (a:Int)) (.i (b:Int)) (.func 69 [] [.ptr xb 0 0 1]) (.bool false) (.i (i:Int)) (.i (k:Int)) y11 y12) H .ret (env104 (.c db n cap) (.i (a:Int)) (.i (b:Int)) (.func 69 [] [.ptr xb 0 0 1]) (.bool false) (.i (i:Int)) (.i (k:Int)) y11 y12) H :=
  RunsTo.hin N 60 [] fun kf hk=>⟨_,by kernel_rfl,.nil⟩
end
end Go.Proofs.Ytiejmoglooaalaa
end
section
open Go Go.HL Go.HL.So
namespace Go.Proofs.Ytiejmoglooaalaa
set_option linter.unusedSectionVars false
open Go.Proofs.Try renaming prog → Tp
open Go.HL.HV renaming undef → Ud
section
variable {xb:Nat} {α:Type} [Inhabited α] {enc:α → HV} {lt:α → α → Prop} {dom:α → Prop} {H:Heap} {db n:Nat} {cap:Option Nat}
theorem pt1 (S:So xb enc lt dom H db n) {T:Heap} (hT:mxs T=0) {a b p j:Nat} {l:List α} (hl:l.length=n) (hD:Dm dom l):∀ (d i:Nat),j+1 - i ≤ d → a < i → i ≤ j+1 → j < n →
    ∃ i':Nat,RT polSo 106 (sub [1,1,1,0,0] B106) (env106 (.sl db 0 n cap n 1) (.int .i64 (a:Int)) (.int .i64 (b:Int)) (.int .i64 (p:Int)) (.func 69 [] [.ptr xb 0 0 1]) (.int .i64 0) (.bool false) (.int .i64 (i:Int)) (.int .i64 (j:Int))) (Mm enc H db l T) (.exit 0) (env106 (.sl db 0 n cap n 1) (.int .i64 (a:Int)) (.int .i64 (b:Int)) (.int .i64 (p:Int)) (.func 69 [] [.ptr xb 0 0 1]) (.int .i64 0) (.bool false) (.int .i64 (i':Int)) (.int .i64 (j:Int))) (Mm enc H db l T)∧i ≤ i'∧i' ≤ j+1∧(∀ k:Nat,i ≤ k → k < i' → lt (at_ l k) (at_ l a))∧(j < i' ∨ ¬ lt (at_ l i') (at_ l a)):=by
  have hn:=S.nb
  intro d
  induction d with
  | zero =>
    intro i hd hi1 hi2 hj
    exact ⟨i,lpo (pt_d_2 (xb:=xb) 0 db n cap (Mm enc H db l T) 0 a b p i j (by omega)),Nat.le_refl _,by omega,fun k h1 h2=>by omega,.inl (by omega)⟩
  | succ d ih =>
    intro i hd hi1 hi2 hj
    by_cases c0:i ≤ j
    · by_cases c:lt (at_ l i) (at_ l a)
      · obtain ⟨cc,N,hN,hc⟩:=S.ct (T:=T) hl hT (hD.at (i:=i) (by omega)) (hD.at (i:=a) (by omega)) c
        have st:=pt_d_0 (xb:=xb) N db n cap (Mm enc H db l T) 0 a b p i j (by omega) (ixs (i:=i) rfl (by omega)) (S.ld l T i hl (by omega)) (ixs (i:=a) rfl (by omega)) (S.ld l T a hl (by omega)) hN hc
        rw [wrap_succ (by omega)] at st
        obtain ⟨i',r,q1,q2,q3,q4⟩:=ih (i+1) (by omega) (by omega) (by omega) hj
        exact ⟨i',lop (st) (gcM _ _ _ _ _ rfl) (r),by omega,q2,fun k h1 h2=>by
          by_cases e:k=i
          · subst e; exact c
          · exact q3 k (by omega) h2,q4⟩
      · have c':¬ lt (at_ l i) (at_ l a):=c
        obtain ⟨cc,N,hN,hc⟩:=S.cf (T:=T) hl hT (hD.at (i:=i) (by omega)) (hD.at (i:=a) (by omega)) c'
        have st:=pt_d_1 (xb:=xb) N db n cap (Mm enc H db l T) 0 a b p i j (by omega) (ixs (i:=i) rfl (by omega)) (S.ld l T i hl (by omega)) (ixs (i:=a) rfl (by omega)) (S.ld l T a hl (by omega)) hN hc
        exact ⟨i,lpo (st),Nat.le_refl _,by omega,fun k h1 h2=>by omega,Or.inr c'⟩
    · exact ⟨i,lpo (pt_d_2 (xb:=xb) 0 db n cap (Mm enc H db l T) 0 a b p i j (by omega)),Nat.le_refl _,by omega,fun k h1 h2=>by omega,.inl (by omega)⟩
theorem pt2 (S:So xb enc lt dom H db n) {T:Heap} (hT:mxs T=0) {a b p i:Nat} {l:List α} (hl:l.length=n) (hD:Dm dom l):∀ (d j:Nat),j+1 - i ≤ d → a < i → i ≤ j+1 → j < n →
    ∃ j':Nat,RT polSo 106 (sub [1,1,1,1,0,0] B106) (env106 (.sl db 0 n cap n 1) (.int .i64 (a:Int)) (.int .i64 (b:Int)) (.int .i64 (p:Int)) (.func 69 [] [.ptr xb 0 0 1]) (.int .i64 0) (.bool false) (.int .i64 (i:Int)) (.int .i64 (j:Int))) (Mm enc H db l T) (.exit 2) (env106 (.sl db 0 n cap n 1) (.int .i64 (a:Int)) (.int .i64 (b:Int)) (.int .i64 (p:Int)) (.func 69 [] [.ptr xb 0 0 1]) (.int .i64 0) (.bool false) (.int .i64 (i:Int)) (.int .i64 (j':Int))) (Mm enc H db l T)∧j' ≤ j∧i ≤ j'+1∧(∀ k:Nat,j' < k → k ≤ j → ¬ lt (at_ l k) (at_ l a))∧(j' < i ∨ lt (at_ l j') (at_ l a)):=by
  have hn:=S.nb
  intro d
  induction d with
  | zero =>
    intro j hd hi1 hi2 hj
    exact ⟨j,lpo (pt_e_2 (xb:=xb) 0 db n cap (Mm enc H db l T) 0 a b p i j (by omega)),Nat.le_refl _,by omega,fun k h1 h2=>by omega,.inl (by omega)⟩
  | succ d ih =>
    intro j hd hi1 hi2 hj
    by_cases c0:i ≤ j
    · by_cases c:¬ lt (at_ l j) (at_ l a)
      · obtain ⟨cc,N,hN,hc⟩:=S.cf (T:=T) hl hT (hD.at (i:=j) (by omega)) (hD.at (i:=a) (by omega)) c
        have st:=pt_e_1 (xb:=xb) N db n cap (Mm enc H db l T) 0 a b p i j (by omega) (ixs (i:=j) rfl (by omega)) (S.ld l T j hl (by omega)) (ixs (i:=a) rfl (by omega)) (S.ld l T a hl (by omega)) hN hc
        rw [wrap_pred (by omega) (by omega)] at st
        obtain ⟨j',r,q1,q2,q3,q4⟩:=ih (j - 1) (by omega) hi1 (by omega) (by omega)
        exact ⟨j',lop (st) (gcM _ _ _ _ _ rfl) (r),by omega,q2,fun k h1 h2=>by
          by_cases e:k=j
          · subst e; exact c
          · exact q3 k h1 (by omega),q4⟩
      · have c':lt (at_ l j) (at_ l a):=Classical.not_not.1 c
        obtain ⟨cc,N,hN,hc⟩:=S.ct (T:=T) hl hT (hD.at (i:=j) (by omega)) (hD.at (i:=a) (by omega)) c'
        have st:=pt_e_0 (xb:=xb) N db n cap (Mm enc H db l T) 0 a b p i j (by omega) (ixs (i:=j) rfl (by omega)) (S.ld l T j hl (by omega)) (ixs (i:=a) rfl (by omega)) (S.ld l T a hl (by omega)) hN hc
        exact ⟨j,lpo (st),Nat.le_refl _,by omega,fun k h1 h2=>by omega,Or.inr c'⟩
    · exact ⟨j,lpo (pt_e_2 (xb:=xb) 0 db n cap (Mm enc H db l T) 0 a b p i j (by omega)),Nat.le_refl _,by omega,fun k h1 h2=>by omega,.inl (by omega)⟩
theorem pt3 (S:So xb enc lt dom H db n) {T:Heap} (hT:mxs T=0) {a b p j:Nat} {l:List α} (hl:l.length=n) (hD:Dm dom l):∀ (d i:Nat),j+1 - i ≤ d → a < i → i ≤ j+1 → j < n →
    ∃ i':Nat,RT polSo 106 (sub [1,1,1,1,1,1,1,1,1,0,0,0,0,0,0] B106) (env106 (.sl db 0 n cap n 1) (.int .i64 (a:Int)) (.int .i64 (b:Int)) (.int .i64 (p:Int)) (.func 69 [] [.ptr xb 0 0 1]) (.int .i64 0) (.bool false) (.int .i64 (i:Int)) (.int .i64 (j:Int))) (Mm enc H db l T) (.exit 6) (env106 (.sl db 0 n cap n 1) (.int .i64 (a:Int)) (.int .i64 (b:Int)) (.int .i64 (p:Int)) (.func 69 [] [.ptr xb 0 0 1]) (.int .i64 0) (.bool false) (.int .i64 (i':Int)) (.int .i64 (j:Int))) (Mm enc H db l T)∧i ≤ i'∧i' ≤ j+1∧(∀ k:Nat,i ≤ k → k < i' → lt (at_ l k) (at_ l a))∧(j < i' ∨ ¬ lt (at_ l i') (at_ l a)):=by
  have hn:=S.nb
  intro d
  induction d with
  | zero =>
    intro i hd hi1 hi2 hj
    exact ⟨i,lpo (pt_j_2 (xb:=xb) 0 db n cap (Mm enc H db l T) 0 a b p i j (by omega)),Nat.le_refl _,by omega,fun k h1 h2=>by omega,.inl (by omega)⟩
  | succ d ih =>
    intro i hd hi1 hi2 hj
    by_cases c0:i ≤ j
    · by_cases c:lt (at_ l i) (at_ l a)
      · obtain ⟨cc,N,hN,hc⟩:=S.ct (T:=T) hl hT (hD.at (i:=i) (by omega)) (hD.at (i:=a) (by omega)) c
        have st:=pt_j_0 (xb:=xb) N db n cap (Mm enc H db l T) 0 a b p i j (by omega) (ixs (i:=i) rfl (by omega)) (S.ld l T i hl (by omega)) (ixs (i:=a) rfl (by omega)) (S.ld l T a hl (by omega)) hN hc
        rw [wrap_succ (by omega)] at st
        obtain ⟨i',r,q1,q2,q3,q4⟩:=ih (i+1) (by omega) (by omega) (by omega) hj
        exact ⟨i',lop (st) (gcM _ _ _ _ _ rfl) (r),by omega,q2,fun k h1 h2=>by
          by_cases e:k=i
          · subst e; exact c
          · exact q3 k (by omega) h2,q4⟩
      · have c':¬ lt (at_ l i) (at_ l a):=c
        obtain ⟨cc,N,hN,hc⟩:=S.cf (T:=T) hl hT (hD.at (i:=i) (by omega)) (hD.at (i:=a) (by omega)) c'
        have st:=pt_j_1 (xb:=xb) N db n cap (Mm enc H db l T) 0 a b p i j (by omega) (ixs (i:=i) rfl (by omega)) (S.ld l T i hl (by omega)) (ixs (i:=a) rfl (by omega)) (S.ld l T a hl (by omega)) hN hc
        exact ⟨i,lpo (st),Nat.le_refl _,by omega,fun k h1 h2=>by omega,Or.inr c'⟩
    · exact ⟨i,lpo (pt_j_2 (xb:=xb) 0 db n cap (Mm enc H db l T) 0 a b p i j (by omega)),Nat.le_refl _,by omega,fun k h1 h2=>by omega,.inl (by omega)⟩
theorem pt4 (S:So xb enc lt dom H db n) {T:Heap} (hT:mxs T=0) {a b p i:Nat} {l:List α} (hl:l.length=n) (hD:Dm dom l):∀ (d j:Nat),j+1 - i ≤ d → a < i → i ≤ j+1 → j < n →
    ∃ j':Nat,RT polSo 106 (sub [1,1,1,1,1,1,1,1,1,0,0,0,0,1,0,0] B106) (env106 (.sl db 0 n cap n 1) (.int .i64 (a:Int)) (.int .i64 (b:Int)) (.int .i64 (p:Int)) (.func 69 [] [.ptr xb 0 0 1]) (.int .i64 0) (.bool false) (.int .i64 (i:Int)) (.int .i64 (j:Int))) (Mm enc H db l T) (.exit 8) (env106 (.sl db 0 n cap n 1) (.int .i64 (a:Int)) (.int .i64 (b:Int)) (.int .i64 (p:Int)) (.func 69 [] [.ptr xb 0 0 1]) (.int .i64 0) (.bool false) (.int .i64 (i:Int)) (.int .i64 (j':Int))) (Mm enc H db l T)∧j' ≤ j∧i ≤ j'+1∧(∀ k:Nat,j' < k → k ≤ j → ¬ lt (at_ l k) (at_ l a))∧(j' < i ∨ lt (at_ l j') (at_ l a)):=by
  have hn:=S.nb
  intro d
  induction d with
  | zero =>
    intro j hd hi1 hi2 hj
    exact ⟨j,lpo (pt_k_2 (xb:=xb) 0 db n cap (Mm enc H db l T) 0 a b p i j (by omega)),Nat.le_refl _,by omega,fun k h1 h2=>by omega,.inl (by omega)⟩
  | succ d ih =>
    intro j hd hi1 hi2 hj
    by_cases c0:i ≤ j
    · by_cases c:¬ lt (at_ l j) (at_ l a)
      · obtain ⟨cc,N,hN,hc⟩:=S.cf (T:=T) hl hT (hD.at (i:=j) (by omega)) (hD.at (i:=a) (by omega)) c
        have st:=pt_k_1 (xb:=xb) N db n cap (Mm enc H db l T) 0 a b p i j (by omega) (ixs (i:=j) rfl (by omega)) (S.ld l T j hl (by omega)) (ixs (i:=a) rfl (by omega)) (S.ld l T a hl (by omega)) hN hc
        rw [wrap_pred (by omega) (by omega)] at st
        obtain ⟨j',r,q1,q2,q3,q4⟩:=ih (j - 1) (by omega) hi1 (by omega) (by omega)
        exact ⟨j',lop (st) (gcM _ _ _ _ _ rfl) (r),by omega,q2,fun k h1 h2=>by
          by_cases e:k=j
          · subst e; exact c
          · exact q3 k h1 (by omega),q4⟩
      · have c':lt (at_ l j) (at_ l a):=Classical.not_not.1 c
        obtain ⟨cc,N,hN,hc⟩:=S.ct (T:=T) hl hT (hD.at (i:=j) (by omega)) (hD.at (i:=a) (by omega)) c'
        have st:=pt_k_0 (xb:=xb) N db n cap (Mm enc H db l T) 0 a b p i j (by omega) (ixs (i:=j) rfl (by omega)) (S.ld l T j hl (by omega)) (ixs (i:=a) rfl (by omega)) (S.ld l T a hl (by omega)) hN hc
        exact ⟨j,lpo (st),Nat.le_refl _,by omega,fun k h1 h2=>by omega,Or.inr c'⟩
    · exact ⟨j,lpo (pt_k_2 (xb:=xb) 0 db n cap (Mm enc H db l T) 0 a b p i j (by omega)),Nat.le_refl _,by omega,fun k h1 h2=>by omega,.inl (by omega)⟩
theorem pe1 (S:So xb enc lt dom H db n) {T:Heap} (hT:mxs T=0) {a b p j:Nat} {l:List α} (hl:l.length=n) (hD:Dm dom l):∀ (d i:Nat),j+1 - i ≤ d → a < i → i ≤ j+1 → j < n →
    ∃ i':Nat,RT polSo 105 (sub [1,1,1,0,0,0,0,0,0] B105) (env105 (.sl db 0 n cap n 1) (.int .i64 (a:Int)) (.int .i64 (b:Int)) (.int .i64 (p:Int)) (.func 69 [] [.ptr xb 0 0 1]) (.int .i64 0) (.int .i64 (i:Int)) (.int .i64 (j:Int))) (Mm enc H db l T) (.exit 2) (env105 (.sl db 0 n cap n 1) (.int .i64 (a:Int)) (.int .i64 (b:Int)) (.int .i64 (p:Int)) (.func 69 [] [.ptr xb 0 0 1]) (.int .i64 0) (.int .i64 (i':Int)) (.int .i64 (j:Int))) (Mm enc H db l T)∧i ≤ i'∧i' ≤ j+1∧(∀ k:Nat,i ≤ k → k < i' → ¬ lt (at_ l a) (at_ l k))∧(j < i' ∨ lt (at_ l a) (at_ l i')):=by
  have hn:=S.nb
  intro d
  induction d with
  | zero =>
    intro i hd hi1 hi2 hj
    exact ⟨i,lpo (pe_d_2 (xb:=xb) 0 db n cap (Mm enc H db l T) 0 a b p i j (by omega)),Nat.le_refl _,by omega,fun k h1 h2=>by omega,.inl (by omega)⟩
  | succ d ih =>
    intro i hd hi1 hi2 hj
    by_cases c0:i ≤ j
    · by_cases c:¬ lt (at_ l a) (at_ l i)
      · obtain ⟨cc,N,hN,hc⟩:=S.cf (T:=T) hl hT (hD.at (i:=a) (by omega)) (hD.at (i:=i) (by omega)) c
        have st:=pe_d_1 (xb:=xb) N db n cap (Mm enc H db l T) 0 a b p i j (by omega) (ixs (i:=a) rfl (by omega)) (S.ld l T a hl (by omega)) (ixs (i:=i) rfl (by omega)) (S.ld l T i hl (by omega)) hN hc
        rw [wrap_succ (by omega)] at st
        obtain ⟨i',r,q1,q2,q3,q4⟩:=ih (i+1) (by omega) (by omega) (by omega) hj
        exact ⟨i',lop (st) (gcM _ _ _ _ _ rfl) (r),by omega,q2,fun k h1 h2=>by
          by_cases e:k=i
          · subst e; exact c
          · exact q3 k (by omega) h2,q4⟩
      · have c':lt (at_ l a) (at_ l i):=Classical.not_not.1 c
        obtain ⟨cc,N,hN,hc⟩:=S.ct (T:=T) hl hT (hD.at (i:=a) (by omega)) (hD.at (i:=i) (by omega)) c'
        have st:=pe_d_0 (xb:=xb) N db n cap (Mm enc H db l T) 0 a b p i j (by omega) (ixs (i:=a) rfl (by omega)) (S.ld l T a hl (by omega)) (ixs (i:=i) rfl (by omega)) (S.ld l T i hl (by omega)) hN hc
        exact ⟨i,lpo (st),Nat.le_refl _,by omega,fun k h1 h2=>by omega,Or.inr c'⟩
    · exact ⟨i,lpo (pe_d_2 (xb:=xb) 0 db n cap (Mm enc H db l T) 0 a b p i j (by omega)),Nat.le_refl _,by omega,fun k h1 h2=>by omega,.inl (by omega)⟩
theorem pe2 (S:So xb enc lt dom H db n) {T:Heap} (hT:mxs T=0) {a b p i:Nat} {l:List α} (hl:l.length=n) (hD:Dm dom l):∀ (d j:Nat),j+1 - i ≤ d → a < i → i ≤ j+1 → j < n →
    ∃ j':Nat,RT polSo 105 (sub [1,1,1,0,0,0,0,1,0,0] B105) (env105 (.sl db 0 n cap n 1) (.int .i64 (a:Int)) (.int .i64 (b:Int)) (.int .i64 (p:Int)) (.func 69 [] [.ptr xb 0 0 1]) (.int .i64 0) (.int .i64 (i:Int)) (.int .i64 (j:Int))) (Mm enc H db l T) (.exit 4) (env105 (.sl db 0 n cap n 1) (.int .i64 (a:Int)) (.int .i64 (b:Int)) (.int .i64 (p:Int)) (.func 69 [] [.ptr xb 0 0 1]) (.int .i64 0) (.int .i64 (i:Int)) (.int .i64 (j':Int))) (Mm enc H db l T)∧j' ≤ j∧i ≤ j'+1∧(∀ k:Nat,j' < k → k ≤ j → lt (at_ l a) (at_ l k))∧(j' < i ∨ ¬ lt (at_ l a) (at_ l j')):=by
  have hn:=S.nb
  intro d
  induction d with
  | zero =>
    intro j hd hi1 hi2 hj
    exact ⟨j,lpo (pe_e_2 (xb:=xb) 0 db n cap (Mm enc H db l T) 0 a b p i j (by omega)),Nat.le_refl _,by omega,fun k h1 h2=>by omega,.inl (by omega)⟩
  | succ d ih =>
    intro j hd hi1 hi2 hj
    by_cases c0:i ≤ j
    · by_cases c:lt (at_ l a) (at_ l j)
      · obtain ⟨cc,N,hN,hc⟩:=S.ct (T:=T) hl hT (hD.at (i:=a) (by omega)) (hD.at (i:=j) (by omega)) c
        have st:=pe_e_0 (xb:=xb) N db n cap (Mm enc H db l T) 0 a b p i j (by omega) (ixs (i:=a) rfl (by omega)) (S.ld l T a hl (by omega)) (ixs (i:=j) rfl (by omega)) (S.ld l T j hl (by omega)) hN hc
        rw [wrap_pred (by omega) (by omega)] at st
        obtain ⟨j',r,q1,q2,q3,q4⟩:=ih (j - 1) (by omega) hi1 (by omega) (by omega)
        exact ⟨j',lop (st) (gcM _ _ _ _ _ rfl) (r),by omega,q2,fun k h1 h2=>by
          by_cases e:k=j
          · subst e; exact c
          · exact q3 k h1 (by omega),q4⟩
      · have c':¬ lt (at_ l a) (at_ l j):=c
        obtain ⟨cc,N,hN,hc⟩:=S.cf (T:=T) hl hT (hD.at (i:=a) (by omega)) (hD.at (i:=j) (by omega)) c'
        have st:=pe_e_1 (xb:=xb) N db n cap (Mm enc H db l T) 0 a b p i j (by omega) (ixs (i:=a) rfl (by omega)) (S.ld l T a hl (by omega)) (ixs (i:=j) rfl (by omega)) (S.ld l T j hl (by omega)) hN hc
        exact ⟨j,lpo (st),Nat.le_refl _,by omega,fun k h1 h2=>by omega,Or.inr c'⟩
    · exact ⟨j,lpo (pe_e_2 (xb:=xb) 0 db n cap (Mm enc H db l T) 0 a b p i j (by omega)),Nat.le_refl _,by omega,fun k h1 h2=>by omega,.inl (by omega)⟩
theorem swp_ne {l:List α} {i j a:Nat} (hi:i < l.length) (hj:j < l.length) (h1:a ≠ i) (h2:a ≠ j):at_ (swp l i j) a=at_ l a:=by rw [swp_at hi hj,if_neg h2,if_neg h1]
def PI (lt:α → α → Prop) (a b i j:Nat) (l:List α):Prop:=(a < i∧i ≤ j+1∧a ≤ j∧j < b)∧(∀ k,a < k → k < i → lt (at_ l k) (at_ l a))∧∀ k,j < k → k < b → ¬ lt (at_ l k) (at_ l a)
theorem PI.scan {a b i j i' j':Nat} {l:List α} (h:PI lt a b i j l) (h1:i ≤ i') (h2:i' ≤ j+1) (h3:∀ k,i ≤ k → k < i' → lt (at_ l k) (at_ l a)) (h4:j' ≤ j) (h5:i' ≤ j'+1) (h6:∀ k,j' < k → k ≤ j → ¬ lt (at_ l k) (at_ l a)):PI lt a b i' j' l:=by
  obtain ⟨p1,p2,p3⟩:=h
  refine ⟨by omega,fun k q1 q2=>?_,fun k q1 q2=>?_⟩
  · by_cases c:k < i
    · exact p2 k q1 c
    · exact h3 k (by omega) q2
  · by_cases c:j < k
    · exact p3 k c q2
    · exact h6 k q1 (by omega)
theorem PI.swap {a b i j:Nat} {l:List α} (hb:b ≤ l.length) (h:PI lt a b i j l) (hij:i ≤ j) (h1:¬ lt (at_ l i) (at_ l a)) (h2:lt (at_ l j) (at_ l a)):PI lt a b (i+1) (j - 1) (swp l i j):=by
  obtain ⟨p1,p2,p3⟩:=h
  have hne:i ≠ j:=fun e=>by subst e; exact h1 h2
  have e0:at_ (swp l i j) a=at_ l a:=swp_ne (by omega) (by omega) (by omega) (by omega)
  refine ⟨by omega,fun k q1 q2=>?_,fun k q1 q2=>?_⟩
  · rw [e0,swp_at (by omega) (by omega),if_neg (by omega)]
    by_cases c:k=i
    · rw [if_pos c]; exact h2
    · rw [if_neg c]; exact p2 k q1 (by omega)
  · rw [e0,swp_at (by omega) (by omega)]
    by_cases c:k=j
    · rw [if_pos c]; exact h1
    · rw [if_neg c,if_neg (by omega)]; exact p3 k (by omega) q2
theorem PI.done {a b i j:Nat} {l:List α} (hb:b ≤ l.length) (h:PI lt a b i j l) (hij:j < i):(∀ k,a ≤ k → k < j → lt (at_ (swp l j a) k) (at_ (swp l j a) j))∧∀ k,j < k → k < b → ¬ lt (at_ (swp l j a) k) (at_ (swp l j a) j):=by
  obtain ⟨p1,p2,p3⟩:=h
  have ej:at_ (swp l j a) j=at_ l a:=by
    rw [swp_at (by omega) (by omega)]
    by_cases c:j=a
    · rw [if_pos c,c]
    · rw [if_neg c,if_pos rfl]
  refine ⟨fun k q1 q2=>?_,fun k q1 q2=>?_⟩
  · rw [ej,swp_at (by omega) (by omega)]
    by_cases c:k=a
    · rw [if_pos c]; exact p2 j (by omega) (by omega)
    · rw [if_neg c,if_neg (by omega)]; exact p2 k (by omega) (by omega)
  · rw [ej,swp_at (by omega) (by omega),if_neg (by omega),if_neg (by omega)]; exact p3 k q1 q2
theorem pt_main (S:So xb enc lt dom H db n) {T:Heap} (hT:mxs T=0) {a b p:Nat} (hb:b ≤ n):∀ (d i j:Nat) (l:List α),j+1 - i ≤ d → l.length=n → Dm dom l → PI lt a b i j l →
    ∃ (i' j':Nat) (l':List α),RT polSo 106 (sub [1,1,1,1,1,1,1,1,1,0,0] B106) (env106 (.sl db 0 n cap n 1) (.int .i64 (a:Int)) (.int .i64 (b:Int)) (.int .i64 (p:Int)) (.func 69 [] [.ptr xb 0 0 1]) (.int .i64 0) (.bool false) (.int .i64 (i:Int)) (.int .i64 (j:Int))) (Mm enc H db l T) (.exit 4) (env106 (.sl db 0 n cap n 1) (.int .i64 (a:Int)) (.int .i64 (b:Int)) (.int .i64 (p:Int)) (.func 69 [] [.ptr xb 0 0 1]) (.int .i64 0) (.bool false) (.int .i64 (i':Int)) (.int .i64 (j':Int))) (Mm enc H db l' T)∧Sw a b l l'∧PI lt a b i' j' l'∧j' < i':=by
  have hn:=S.nb
  intro d
  induction d with
  | zero =>
    intro i j l hd hl hD hI
    obtain ⟨p1,p2,p3⟩:=id hI
    obtain ⟨i',r1,q1,q2,q3,q4⟩:=pt3 S (cap:=cap) (a:=a) (b:=b) (p:=p) (j:=j) hT hl hD _ i (Nat.le_refl _) p1.1 p1.2.1 (by omega)
    obtain ⟨j',r2,q5,q6,q7,q8⟩:=pt4 S (cap:=cap) (a:=a) (b:=b) (p:=p) hT hl hD _ j (Nat.le_refl _) (i:=i') (by omega) (by omega) (by omega)
    have st:=RunsTo.block_other (i:=5) (c:=sub [1,1,1,1,1,1,1,1,1,0,0,0] B106) (sq (bke (c:=sub [1,1,1,1,1,1,1,1,1,0,0,0,0,0] B106) (r1)) (sq (bke (c:=sub [1,1,1,1,1,1,1,1,1,0,0,0,0,1,0] B106) (r2)) (pt_l_0 (xb:=xb) 0 db n cap (Mm enc H db l T) 0 a b p i' j' (by omega)) (c:=sub [1,1,1,1,1,1,1,1,1,0,0,0,0,1] B106)) (c:=sub [1,1,1,1,1,1,1,1,1,0,0,0,0] B106)) (by simp) (by kernel_rfl)
    exact ⟨i',j',l,lpo (st),.refl,hI.scan q1 q2 q3 q5 q6 q7,by omega⟩
  | succ d ih =>
    intro i j l hd hl hD hI
    obtain ⟨p1,p2,p3⟩:=id hI
    obtain ⟨i',r1,q1,q2,q3,q4⟩:=pt3 S (cap:=cap) (a:=a) (b:=b) (p:=p) (j:=j) hT hl hD _ i (Nat.le_refl _) p1.1 p1.2.1 (by omega)
    obtain ⟨j',r2,q5,q6,q7,q8⟩:=pt4 S (cap:=cap) (a:=a) (b:=b) (p:=p) hT hl hD _ j (Nat.le_refl _) (i:=i') (by omega) (by omega) (by omega)
    have hI':=hI.scan q1 q2 q3 q5 q6 q7
    by_cases c:j' < i'
    · have st:=RunsTo.block_other (i:=5) (c:=sub [1,1,1,1,1,1,1,1,1,0,0,0] B106) (sq (bke (c:=sub [1,1,1,1,1,1,1,1,1,0,0,0,0,0] B106) (r1)) (sq (bke (c:=sub [1,1,1,1,1,1,1,1,1,0,0,0,0,1,0] B106) (r2)) (pt_l_0 (xb:=xb) 0 db n cap (Mm enc H db l T) 0 a b p i' j' (by omega)) (c:=sub [1,1,1,1,1,1,1,1,1,0,0,0,0,1] B106)) (c:=sub [1,1,1,1,1,1,1,1,1,0,0,0,0] B106)) (by simp) (by kernel_rfl)
      exact ⟨i',j',l,lpo (st),.refl,hI',c⟩
    · have q4':=q4.resolve_left (by omega)
      have q8':=q8.resolve_left (by omega)
      obtain ⟨s1,s2⟩:=S.st2 (T:=T) hl (i:=i') (j:=j') (by omega) (by omega)
      have sl:=pt_l_1 (xb:=xb) 0 db n cap (Mm enc H db l T) 0 a b p i' j' (by omega) (ixs (i:=j') rfl (by omega)) (S.ld l T _ hl (by omega)) (ixs (i:=i') rfl (by omega)) (S.ld l T _ hl (by omega)) (ixs (i:=i') rfl (by omega)) s1 (ixs (i:=j') rfl (by omega)) s2
      rw [wrap_succ (by omega),wrap_pred (by omega) (by omega)] at sl
      have st:=RunsTo.block_normal (i:=5) (c:=sub [1,1,1,1,1,1,1,1,1,0,0,0] B106) (sq (bke (c:=sub [1,1,1,1,1,1,1,1,1,0,0,0,0,0] B106) (r1)) (sq (bke (c:=sub [1,1,1,1,1,1,1,1,1,0,0,0,0,1,0] B106) (r2)) (sl) (c:=sub [1,1,1,1,1,1,1,1,1,0,0,0,0,1] B106)) (c:=sub [1,1,1,1,1,1,1,1,1,0,0,0,0] B106)) (by kernel_rfl)
      have sw:Sw a b l (swp l i' j'):=Sw.one (by omega) (by omega) (by omega) (by omega)
      obtain ⟨i2,j2,l',r,w1,w2,w3⟩:=ih (i'+1) (j' - 1) (swp l i' j') (by omega) (by rw [swp_len]; exact hl) (hD.sw sw (by omega)) (hI'.swap (by omega) (by omega) q4' q8')
      exact ⟨i2,j2,l',lop (st) (gcM _ _ _ _ _ rfl) (r),sw.trans w1,w2,w3⟩
theorem part_ok (S:So xb enc lt dom H db n) {T:Heap} (hT:mxs T=0) {a b p:Nat} (hb:b ≤ n) (hp1:a ≤ p) (hp2:p < b) {l:List α} (hl:l.length=n) (hD:Dm dom l) :
    ∃ m bb l',ClS 106 [.sl db 0 n cap n 1,.int .i64 (a:Int),.int .i64 (b:Int),.int .i64 (p:Int),.func 69 [] [.ptr xb 0 0 1]] (Mm enc H db l T) (.tuple [.int .i64 ((m:Nat):Int),.bool bb]) (Mm enc H db l' T)∧Sw a b l l'∧(a ≤ m∧m < b)∧(∀ k,a ≤ k → k < m → lt (at_ l' k) (at_ l' m))∧∀ k,m < k → k < b → ¬ lt (at_ l' k) (at_ l' m):=by
  have hn:=S.nb
  obtain ⟨s1,s2⟩:=S.st2 (T:=T) hl (i:=a) (j:=p) (by omega) (by omega)
  have t0:=pt_a_0 (xb:=xb) 0 db n cap (Mm enc H db l T) 0 a b p
  have t1:=pt_b_0 (xb:=xb) 0 db n cap (Mm enc H db l T) 0 a b p (y12:=Ud) (y13:=Ud) (ixs (i:=p) rfl (by omega)) (S.ld l T _ hl (by omega)) (ixs (i:=a) rfl (by omega)) (S.ld l T _ hl (by omega)) (ixs (i:=a) rfl (by omega)) s1 (ixs (i:=p) rfl (by omega)) s2
  have sw0:Sw a b l (swp l a p):=Sw.one (by omega) (by omega) (by omega) (by omega)
  have hl0:=sw_len sw0 hl
  have hD0:=hD.sw sw0 (by omega)
  generalize swp l a p=l0 at t1 sw0 hl0 hD0 s2
  clear s2
  have t2:=pt_c_0 (xb:=xb) 0 db n cap (Mm enc H db l0 T) 0 a b p (y12:=Ud) (y13:=Ud)
  rw [wrap_succ (by omega),wrap_pred (by omega) (by omega)] at t2
  have hI0:PI lt a b (a+1) (b - 1) l0:=⟨by omega,fun k h1 h2=>by omega,fun k h1 h2=>by omega⟩
  obtain ⟨i,r1,q1,q2,q3,q4⟩:=pt1 S (cap:=cap) (a:=a) (b:=b) (p:=p) (j:=b - 1) hT hl0 hD0 _ (a+1) (Nat.le_refl _) (by omega) (by omega) (by omega)
  obtain ⟨j,r2,q5,q6,q7,q8⟩:=pt2 S (cap:=cap) (a:=a) (b:=b) (p:=p) hT hl0 hD0 _ (b - 1) (Nat.le_refl _) (i:=i) (by omega) (by omega) (by omega)
  have hI:=hI0.scan q1 q2 q3 q5 q6 q7
  have hI':=hI.1
  have fin:∀ (i j:Nat) (l1:List α) (bb:Bool) (E:Env) (H':Heap),Sw a b l l1 → PI lt a b i j l1 → j < i → H'=Mm enc H db (swp l1 j a) T → RT polSo 106 B106 (args0 [.sl db 0 n cap n 1,.int .i64 (a:Int),.int .i64 (b:Int),.int .i64 (p:Int),.func 69 [] [.ptr xb 0 0 1]]) (Mm enc H db l T) .ret E H' → resultsV Tp Try.f106 E H'=some (.tuple [.int .i64 ((j:Nat):Int),.bool bb]) →
      ∃ m bb l',ClS 106 [.sl db 0 n cap n 1,.int .i64 (a:Int),.int .i64 (b:Int),.int .i64 (p:Int),.func 69 [] [.ptr xb 0 0 1]] (Mm enc H db l T) (.tuple [.int .i64 ((m:Nat):Int),.bool bb]) (Mm enc H db l' T)∧Sw a b l l'∧(a ≤ m∧m < b)∧(∀ k,a ≤ k → k < m → lt (at_ l' k) (at_ l' m))∧∀ k,m < k → k < b → ¬ lt (at_ l' k) (at_ l' m):=by
    intro i j l1 bb E H' hs hI hij he t hv
    subst he
    have hI':=hI.1
    have hll:=sw_len hs hl
    have hc:=CallsTo.shared (P:=Tp) (pol:=polSo) (g:=106) (fn:=Try.f106) (cd:=B106) (args:=[.sl db 0 n cap n 1,.int .i64 (a:Int),.int .i64 (b:Int),.int .i64 (p:Int),.func 69 [] [.ptr xb 0 0 1]]) (by kernel_rfl) (by kernel_rfl) (by kernel_rfl) (by kernel_rfl) t (by kernel_rfl) (by simp) hv
    rw [gcM _ _ _ _ _ rfl] at hc
    obtain ⟨w1,w2⟩:=hI.done (by omega) hij
    exact ⟨j,bb,_,hc,hs.step (by omega) (by omega) (Nat.le_refl _) (by omega),by omega,w1,w2⟩
  by_cases c:j < i
  · obtain ⟨s3,s4⟩:=S.st2 (T:=T) hl0 (i:=j) (j:=a) (by omega) (by omega)
    have t3:=pt_f_0 (xb:=xb) 0 db n cap (Mm enc H db l0 T) 0 a b p i j (by omega) (ixs (i:=a) rfl (by omega)) (S.ld l0 T _ hl0 (by omega)) (ixs (i:=j) rfl (by omega)) (S.ld l0 T _ hl0 (by omega)) (ixs (i:=j) rfl (by omega)) s3 (ixs (i:=a) rfl (by omega)) s4
    have t:=sq (t0) (sq (t1) (sq (t2) (sq (bke (c:=sub [1,1,1,0] B106) (r1)) (sq (bke (c:=sub [1,1,1,1,0] B106) (r2)) (sqo (t3) (c:=sub [1,1,1,1,1] B106) (b:=sub [1,1,1,1,1,1] B106)) (c:=sub [1,1,1,1] B106)) (c:=sub [1,1,1] B106)) (c:=sub [1,1] B106)) (c:=sub [1] B106)) (c:=B106)
    exact fin i j l0 true _ _ sw0 hI c rfl t (by kernel_rfl)
  · have q4':=q4.resolve_left (by omega)
    have q8':=q8.resolve_left (by omega)
    obtain ⟨s3,s4⟩:=S.st2 (T:=T) hl0 (i:=i) (j:=j) (by omega) (by omega)
    have t3:=pt_f_1 (xb:=xb) 0 db n cap (Mm enc H db l0 T) 0 a b p i j (by omega)
    have t4:=pt_g_0 (xb:=xb) 0 db n cap (Mm enc H db l0 T) 0 a b p i j (ixs (i:=j) rfl (by omega)) (S.ld l0 T _ hl0 (by omega)) (ixs (i:=i) rfl (by omega)) (S.ld l0 T _ hl0 (by omega)) (ixs (i:=i) rfl (by omega)) s3 (ixs (i:=j) rfl (by omega)) s4
    have sw1:Sw a b l0 (swp l0 i j):=Sw.one (by omega) (by omega) (by omega) (by omega)
    have hl1:=sw_len sw1 hl0
    have hD1:=hD0.sw sw1 (by omega)
    have hI1:=hI.swap (by omega) (by omega) q4' q8'
    generalize swp l0 i j=l1 at t4 sw1 hl1 hD1 hI1 s4
    clear s4
    have t5:=pt_h_0 (xb:=xb) 0 db n cap (Mm enc H db l1 T) 0 a b p i j
    rw [wrap_succ (by omega)] at t5
    have t6:=pt_i_0 (xb:=xb) 0 db n cap (Mm enc H db l1 T) 0 a b p (i+1) j
    rw [wrap_pred (by omega) (by omega)] at t6
    obtain ⟨i2,j2,l2,r3,w1,w2,w3⟩:=pt_main S (cap:=cap) (p:=p) hT hb _ (i+1) (j - 1) l1 (Nat.le_refl _) hl1 hD1 hI1
    have w2':=w2.1
    have hl2:=sw_len w1 hl1
    obtain ⟨s5,s6⟩:=S.st2 (T:=T) hl2 (i:=j2) (j:=a) (by omega) (by omega)
    have t7:=pt_m_0 (xb:=xb) 0 db n cap (Mm enc H db l2 T) 0 a b p i2 j2 (ixs (i:=a) rfl (by omega)) (S.ld l2 T _ hl2 (by omega)) (ixs (i:=j2) rfl (by omega)) (S.ld l2 T _ hl2 (by omega)) (ixs (i:=j2) rfl (by omega)) s5 (ixs (i:=a) rfl (by omega)) s6
    have t:=sq (t0) (sq (t1) (sq (t2) (sq (bke (c:=sub [1,1,1,0] B106) (r1)) (sq (bke (c:=sub [1,1,1,1,0] B106) (r2)) (sq (t3) (sq (t4) (sq (t5) (sq (t6) (sq (bke (c:=sub [1,1,1,1,1,1,1,1,1,0] B106) (r3)) (t7) (c:=sub [1,1,1,1,1,1,1,1,1] B106)) (c:=sub [1,1,1,1,1,1,1,1] B106)) (c:=sub [1,1,1,1,1,1,1] B106)) (c:=sub [1,1,1,1,1,1] B106)) (c:=sub [1,1,1,1,1] B106)) (c:=sub [1,1,1,1] B106)) (c:=sub [1,1,1] B106)) (c:=sub [1,1] B106)) (c:=sub [1] B106)) (c:=B106)
    exact fin i2 j2 l2 false _ _ (sw0.trans (sw1.trans w1)) w2 w3 rfl t (by kernel_rfl)
def PE (lt:α → α → Prop) (a b i j:Nat) (l:List α):Prop:=(a < i∧i ≤ j+1∧a ≤ j∧j < b)∧(∀ k,a < k → k < i → ¬ lt (at_ l a) (at_ l k))∧∀ k,j < k → k < b → lt (at_ l a) (at_ l k)
theorem PE.scan {a b i j i' j':Nat} {l:List α} (h:PE lt a b i j l) (h1:i ≤ i') (h2:i' ≤ j+1) (h3:∀ k,i ≤ k → k < i' → ¬ lt (at_ l a) (at_ l k)) (h4:j' ≤ j) (h5:i' ≤ j'+1) (h6:∀ k,j' < k → k ≤ j → lt (at_ l a) (at_ l k)):PE lt a b i' j' l:=by
  obtain ⟨p1,p2,p3⟩:=h
  refine ⟨by omega,fun k q1 q2=>?_,fun k q1 q2=>?_⟩
  · by_cases c:k < i
    · exact p2 k q1 c
    · exact h3 k (by omega) q2
  · by_cases c:j < k
    · exact p3 k c q2
    · exact h6 k q1 (by omega)
theorem PE.swap {a b i j:Nat} {l:List α} (hb:b ≤ l.length) (h:PE lt a b i j l) (hij:i ≤ j) (h1:lt (at_ l a) (at_ l i)) (h2:¬ lt (at_ l a) (at_ l j)):PE lt a b (i+1) (j - 1) (swp l i j):=by
  obtain ⟨p1,p2,p3⟩:=h
  have hne:i ≠ j:=fun e=>by subst e; exact h2 h1
  have e0:at_ (swp l i j) a=at_ l a:=swp_ne (by omega) (by omega) (by omega) (by omega)
  refine ⟨by omega,fun k q1 q2=>?_,fun k q1 q2=>?_⟩
  · rw [e0,swp_at (by omega) (by omega),if_neg (by omega)]
    by_cases c:k=i
    · rw [if_pos c]; exact h2
    · rw [if_neg c]; exact p2 k q1 (by omega)
  · rw [e0,swp_at (by omega) (by omega)]
    by_cases c:k=j
    · rw [if_pos c]; exact h1
    · rw [if_neg c,if_neg (by omega)]; exact p3 k (by omega) q2
theorem pe_main (S:So xb enc lt dom H db n) {T:Heap} (hT:mxs T=0) {a b p:Nat} (hb:b ≤ n):∀ (d i j:Nat) (l:List α),j+1 - i ≤ d → l.length=n → Dm dom l → PE lt a b i j l →
    ∃ (i' j':Nat) (l':List α),RT polSo 105 (sub [1,1,1,0,0] B105) (env105 (.sl db 0 n cap n 1) (.int .i64 (a:Int)) (.int .i64 (b:Int)) (.int .i64 (p:Int)) (.func 69 [] [.ptr xb 0 0 1]) (.int .i64 0) (.int .i64 (i:Int)) (.int .i64 (j:Int))) (Mm enc H db l T) (.exit 0) (env105 (.sl db 0 n cap n 1) (.int .i64 (a:Int)) (.int .i64 (b:Int)) (.int .i64 (p:Int)) (.func 69 [] [.ptr xb 0 0 1]) (.int .i64 0) (.int .i64 (i':Int)) (.int .i64 (j':Int))) (Mm enc H db l' T)∧Sw a b l l'∧at_ l' a=at_ l a∧PE lt a b i' j' l'∧j' < i':=by
  have hn:=S.nb
  intro d
  induction d with
  | zero =>
    intro i j l hd hl hD hI
    obtain ⟨p1,p2,p3⟩:=id hI
    obtain ⟨i',r1,q1,q2,q3,q4⟩:=pe1 S (cap:=cap) (a:=a) (b:=b) (p:=p) (j:=j) hT hl hD _ i (Nat.le_refl _) p1.1 p1.2.1 (by omega)
    obtain ⟨j',r2,q5,q6,q7,q8⟩:=pe2 S (cap:=cap) (a:=a) (b:=b) (p:=p) hT hl hD _ j (Nat.le_refl _) (i:=i') (by omega) (by omega) (by omega)
    have st:=RunsTo.block_other (i:=1) (c:=sub [1,1,1,0,0,0] B105) (sq (bke (c:=sub [1,1,1,0,0,0,0,0] B105) (r1)) (sq (bke (c:=sub [1,1,1,0,0,0,0,1,0] B105) (r2)) (pe_f_0 (xb:=xb) 0 db n cap (Mm enc H db l T) 0 a b p i' j' (by omega)) (c:=sub [1,1,1,0,0,0,0,1] B105)) (c:=sub [1,1,1,0,0,0,0] B105)) (by simp) (by kernel_rfl)
    exact ⟨i',j',l,lpo (st),.refl,rfl,hI.scan q1 q2 q3 q5 q6 q7,by omega⟩
  | succ d ih =>
    intro i j l hd hl hD hI
    obtain ⟨p1,p2,p3⟩:=id hI
    obtain ⟨i',r1,q1,q2,q3,q4⟩:=pe1 S (cap:=cap) (a:=a) (b:=b) (p:=p) (j:=j) hT hl hD _ i (Nat.le_refl _) p1.1 p1.2.1 (by omega)
    obtain ⟨j',r2,q5,q6,q7,q8⟩:=pe2 S (cap:=cap) (a:=a) (b:=b) (p:=p) hT hl hD _ j (Nat.le_refl _) (i:=i') (by omega) (by omega) (by omega)
    have hI':=hI.scan q1 q2 q3 q5 q6 q7
    by_cases c:j' < i'
    · have st:=RunsTo.block_other (i:=1) (c:=sub [1,1,1,0,0,0] B105) (sq (bke (c:=sub [1,1,1,0,0,0,0,0] B105) (r1)) (sq (bke (c:=sub [1,1,1,0,0,0,0,1,0] B105) (r2)) (pe_f_0 (xb:=xb) 0 db n cap (Mm enc H db l T) 0 a b p i' j' (by omega)) (c:=sub [1,1,1,0,0,0,0,1] B105)) (c:=sub [1,1,1,0,0,0,0] B105)) (by simp) (by kernel_rfl)
      exact ⟨i',j',l,lpo (st),.refl,rfl,hI',c⟩
    · have q4':=q4.resolve_left (by omega)
      have q8':=q8.resolve_left (by omega)
      obtain ⟨s1,s2⟩:=S.st2 (T:=T) hl (i:=i') (j:=j') (by omega) (by omega)
      have sl:=pe_f_1 (xb:=xb) 0 db n cap (Mm enc H db l T) 0 a b p i' j' (by omega) (ixs (i:=j') rfl (by omega)) (S.ld l T _ hl (by omega)) (ixs (i:=i') rfl (by omega)) (S.ld l T _ hl (by omega)) (ixs (i:=i') rfl (by omega)) s1 (ixs (i:=j') rfl (by omega)) s2
      rw [wrap_succ (by omega),wrap_pred (by omega) (by omega)] at sl
      have st:=RunsTo.block_normal (i:=1) (c:=sub [1,1,1,0,0,0] B105) (sq (bke (c:=sub [1,1,1,0,0,0,0,0] B105) (r1)) (sq (bke (c:=sub [1,1,1,0,0,0,0,1,0] B105) (r2)) (sl) (c:=sub [1,1,1,0,0,0,0,1] B105)) (c:=sub [1,1,1,0,0,0,0] B105)) (by kernel_rfl)
      have sw:Sw a b l (swp l i' j'):=Sw.one (by omega) (by omega) (by omega) (by omega)
      have e0:at_ (swp l i' j') a=at_ l a:=swp_ne (by omega) (by omega) (by omega) (by omega)
      obtain ⟨i2,j2,l',r,w1,w0,w2,w3⟩:=ih (i'+1) (j' - 1) (swp l i' j') (by omega) (by rw [swp_len]; exact hl) (hD.sw sw (by omega)) (hI'.swap (by omega) (by omega) q4' q8')
      exact ⟨i2,j2,l',lop (st) (gcM _ _ _ _ _ rfl) (r),sw.trans w1,w0.trans e0,w2,w3⟩
theorem peq_ok (S:So xb enc lt dom H db n) (hL:Lin lt) {T:Heap} (hT:mxs T=0) {a b p:Nat} (hb:b ≤ n) (hp1:a ≤ p) (hp2:p < b) {l:List α} (hl:l.length=n) (hD:Dm dom l) :
    ∃ m l',ClS 105 [.sl db 0 n cap n 1,.int .i64 (a:Int),.int .i64 (b:Int),.int .i64 (p:Int),.func 69 [] [.ptr xb 0 0 1]] (Mm enc H db l T) (.int .i64 ((m:Nat):Int)) (Mm enc H db l' T)∧Sw a b l l'∧(a < m∧m ≤ b)∧(∀ k,a ≤ k → k < m → ¬ lt (at_ l p) (at_ l' k))∧∀ k,m ≤ k → k < b → lt (at_ l p) (at_ l' k):=by
  have hn:=S.nb
  obtain ⟨s1,s2⟩:=S.st2 (T:=T) hl (i:=a) (j:=p) (by omega) (by omega)
  have t0:=pe_a_0 (xb:=xb) 0 db n cap (Mm enc H db l T) 0 a b p
  have t1:=pe_b_0 (xb:=xb) 0 db n cap (Mm enc H db l T) 0 a b p (y11:=Ud) (y12:=Ud) (ixs (i:=p) rfl (by omega)) (S.ld l T _ hl (by omega)) (ixs (i:=a) rfl (by omega)) (S.ld l T _ hl (by omega)) (ixs (i:=a) rfl (by omega)) s1 (ixs (i:=p) rfl (by omega)) s2
  have sw0:Sw a b l (swp l a p):=Sw.one (by omega) (by omega) (by omega) (by omega)
  have e0:at_ (swp l a p) a=at_ l p:=by
    rw [swp_at (by omega) (by omega)]
    by_cases c:a=p
    · rw [if_pos c,c]
    · rw [if_neg c,if_pos rfl]
  have hl0:=sw_len sw0 hl
  have hD0:=hD.sw sw0 (by omega)
  generalize swp l a p=l0 at t1 sw0 hl0 hD0 s2 e0
  clear s2
  have t2:=pe_c_0 (xb:=xb) 0 db n cap (Mm enc H db l0 T) 0 a b p (y11:=Ud) (y12:=Ud)
  rw [wrap_succ (by omega),wrap_pred (by omega) (by omega)] at t2
  have hI0:PE lt a b (a+1) (b - 1) l0:=⟨by omega,fun k h1 h2=>by omega,fun k h1 h2=>by omega⟩
  obtain ⟨i,j,l1,r,w1,w0,w2,w3⟩:=pe_main S (cap:=cap) (p:=p) hT hb _ (a+1) (b - 1) l0 (Nat.le_refl _) hl0 hD0 hI0
  obtain ⟨w4,w5,w6⟩:=w2
  have z:=pe_g_0 (xb:=xb) 0 db n cap (Mm enc H db l1 T) 0 a b p i j
  have t:=sq (t0) (sq (t1) (sq (t2) (sq (bke (c:=sub [1,1,1,0] B105) (r)) (z) (c:=sub [1,1,1] B105)) (c:=sub [1,1] B105)) (c:=sub [1] B105)) (c:=B105)
  have hc:=CallsTo.shared (P:=Tp) (pol:=polSo) (g:=105) (fn:=Try.f105) (cd:=B105) (args:=[.sl db 0 n cap n 1,.int .i64 (a:Int),.int .i64 (b:Int),.int .i64 (p:Int),.func 69 [] [.ptr xb 0 0 1]]) (v:=.int .i64 (i:Int)) (by kernel_rfl) (by kernel_rfl) (by kernel_rfl) (by kernel_rfl) t (by kernel_rfl) (by simp) (by kernel_rfl)
  rw [gcM _ _ _ _ _ rfl] at hc
  refine ⟨i,l1,hc,sw0.trans w1,by omega,fun k h1 h2=>?_,fun k h1 h2=>?_⟩
  · rw [← e0,← w0]
    by_cases c:k=a
    · subst c; exact hL.rf _
    · exact w5 k (by omega) h2
  · rw [← e0,← w0]; exact w6 k (by omega) h2
end
end Go.Proofs.Ytiejmoglooaalaa
end
section
open Go Go.HL Go.HL.So
namespace Go.Proofs.Ytiejmoglooaalaa
set_option linter.unusedSectionVars false
open Go.Proofs.Try renaming prog → Tp
open Go.HL.HV renaming undef → Ud
section
variable {xb:Nat} {α:Type} [Inhabited α] {enc:α → HV} {lt:α → α → Prop} {dom:α → Prop} {H:Heap} {db n:Nat} {cap:Option Nat}
theorem sorted_one {a:Nat} {l:List α}:Sorted lt a (a+1) l:=fun p q h1 h2 h3=>by omega
theorem sorted_more (hL:Lin lt) {a i:Nat} {l:List α} (h:Sorted lt a i l) (hc:¬ lt (at_ l i) (at_ l (i - 1))):Sorted lt a (i+1) l:=fun p q h1 h2 h3=>by
  by_cases e:q=i
  · subst e
    by_cases e2:p=q - 1
    · rw [e2]; exact hc
    · exact hL.tr _ _ _ (h p (q - 1) h1 (by omega) (by omega)) hc
  · exact h p q h1 h2 (by omega)
theorem pi_scan (S:So xb enc lt dom H db n) (hL:Lin lt) {T:Heap} (hT:mxs T=0) {a b k:Nat} (hb:b ≤ n) {l:List α} (hl:l.length=n) (hD:Dm dom l):∀ (d i:Nat),b - i ≤ d → a < i → i ≤ b → Sorted lt a i l →
    ∃ i':Nat,RT polSo 104 (sub [1,1,0,1,0,0,1,0,0,0,0] B104) (env104 (.sl db 0 n cap n 1) (.int .i64 (a:Int)) (.int .i64 (b:Int)) (.func 69 [] [.ptr xb 0 0 1]) (.bool false) (.int .i64 (i:Int)) (.int .i64 (k:Int)) Ud Ud) (Mm enc H db l T) (.exit 2) (env104 (.sl db 0 n cap n 1) (.int .i64 (a:Int)) (.int .i64 (b:Int)) (.func 69 [] [.ptr xb 0 0 1]) (.bool false) (.int .i64 (i':Int)) (.int .i64 (k:Int)) Ud Ud) (Mm enc H db l T)∧(a < i'∧i' ≤ b)∧Sorted lt a i' l∧(i' < b → lt (at_ l i') (at_ l (i' - 1))):=by
  have hn:=S.nb
  intro d
  induction d with
  | zero =>
    intro i hd ha hi hS
    exact ⟨i,lpo (pi_e_2 (xb:=xb) 0 db n cap (Mm enc H db l T) 0 a b i k (by omega)),by omega,hS,fun h=>by omega⟩
  | succ d ih =>
    intro i hd ha hi hS
    by_cases c0:i < b
    · by_cases c:lt (at_ l i) (at_ l (i - 1))
      · obtain ⟨cc,N,hN,hc⟩:=S.ct (T:=T) hl hT (hD.at (i:=i) (by omega)) (hD.at (i:=i - 1) (by omega)) c
        have st:=pi_e_0 (xb:=xb) N db n cap (Mm enc H db l T) 0 a b i k (y11:=Ud) (y12:=Ud) (by omega) (ixs (i:=i) rfl (by omega)) (S.ld l T _ hl (by omega)) (ixs (i:=i - 1) (wrap_pred (by omega) (by omega)) (by omega)) (S.ld l T _ hl (by omega)) hN hc
        exact ⟨i,lpo (st),by omega,hS,fun _=>c⟩
      · obtain ⟨cc,N,hN,hc⟩:=S.cf (T:=T) hl hT (hD.at (i:=i) (by omega)) (hD.at (i:=i - 1) (by omega)) c
        have st:=pi_e_1 (xb:=xb) N db n cap (Mm enc H db l T) 0 a b i k (y11:=Ud) (y12:=Ud) (by omega) (ixs (i:=i) rfl (by omega)) (S.ld l T _ hl (by omega)) (ixs (i:=i - 1) (wrap_pred (by omega) (by omega)) (by omega)) (S.ld l T _ hl (by omega)) hN hc
        rw [wrap_succ (by omega)] at st
        obtain ⟨i',r,q⟩:=ih (i+1) (by omega) (by omega) (by omega) (sorted_more hL hS c)
        exact ⟨i',lop (st) (gcM _ _ _ _ _ rfl) (r),q⟩
    · exact ⟨i,lpo (pi_e_2 (xb:=xb) 0 db n cap (Mm enc H db l T) 0 a b i k (by omega)),by omega,hS,fun h=>by omega⟩
def Flo (lt:α → α → Prop) (a b:Nat) (l:List α):Prop:=0 < a → ∀ k,a ≤ k → k < b → ¬ lt (at_ l k) (at_ l (a - 1))
theorem Flo.sw {a b:Nat} {l l':List α} (h:Flo lt a b l) (hb:b ≤ l.length) (hs:Sw a b l l'):Flo lt a b l':=fun h0=>by
  rw [hs.out hb (k:=a - 1) (by omega)]
  exact hs.all hb (Q:=fun x=>¬ lt x (at_ l (a - 1))) (Nat.le_refl _) (Nat.le_refl _) (h h0)
theorem pi_left (S:So xb enc lt dom H db n) (hL:Lin lt) {T:Heap} (hT:mxs T=0) {a b i k:Nat} (hi:i < b) (hb:b ≤ n):∀ (j:Nat) (l:List α),l.length=n → j < i → a ≤ j → Dm dom l → Flo lt a b l → Sink lt a i j l →
    ∃ y l',RT polSo 104 (sub [1,1,0,1,0,0,1,0,0,1,1,1,1,0,1,0,1,0] B104) (env104 (.sl db 0 n cap n 1) (.int .i64 (a:Int)) (.int .i64 (b:Int)) (.func 69 [] [.ptr xb 0 0 1]) (.bool false) (.int .i64 (i:Int)) (.int .i64 (k:Int)) (.int .i64 (j:Int)) Ud) (Mm enc H db l T) (.exit 4) (env104 (.sl db 0 n cap n 1) (.int .i64 (a:Int)) (.int .i64 (b:Int)) (.func 69 [] [.ptr xb 0 0 1]) (.bool false) (.int .i64 (i:Int)) (.int .i64 (k:Int)) y Ud) (Mm enc H db l' T)∧Sw a i l l'∧Sorted lt a i l':=by
  have hn:=S.nb
  intro j
  induction j with
  | zero =>
    intro l hl hj ha hD hF hS
    exact ⟨_,l,lpo (pi_k_2 (xb:=xb) 0 db n cap (Mm enc H db l T) 0 a b i k 0 (by omega)),.refl,sink_end hL hS (.inl (Nat.zero_le _))⟩
  | succ j ih =>
    intro l hl hj ha hD hF hS
    have hw:IntKind.i64.wrap (((j+1:Nat):Int) - 1)=((j:Nat):Int):=wrap_pred (j:=j+1) (by omega) (by omega)
    by_cases c2:lt (at_ l (j+1)) (at_ l j)
    · have ha':a < j+1:=by
        rcases Nat.lt_or_ge a (j+1) with h | h
        · exact h
        · exfalso
          have e:a=j+1:=by omega
          have:=hF (by omega) (j+1) (by omega) (by omega)
          rw [show a - 1=j by omega] at this
          exact this c2
      obtain ⟨cc,N,hN,hc⟩:=S.ct (T:=T) hl hT (hD.at (i:=j+1) (by omega)) (hD.at (i:=j) (by omega)) c2
      obtain ⟨s1,s2⟩:=S.st2 (T:=T) hl (i:=j+1) (j:=j) (by omega) (by omega)
      have sw:Sw a i l (swp l (j+1) j):=Sw.one (by omega) (by omega) (by omega) (by omega)
      have st:=pi_k_0 (xb:=xb) N db n cap (Mm enc H db l T) 0 a b i k (j+1) (y12:=Ud) (by omega) (ixs (i:=j+1) rfl (by omega)) (S.ld l T _ hl (by omega)) (ixs hw (by omega)) (S.ld l T _ hl (by omega)) hN hc
        (ixs hw (by omega)) (S.ld l T _ hl (by omega)) (ixs (i:=j+1) rfl (by omega)) (S.ld l T _ hl (by omega)) (ixs (i:=j+1) rfl (by omega)) s1 (ixs hw (by omega)) s2
      rw [hw] at st
      obtain ⟨y,l',r,q1,q2⟩:=ih (swp l (j+1) j) (by rw [swp_len]; exact hl) (by omega) (by omega) (hD.sw sw (by omega)) (hF.sw (by omega) (sw.mono (Nat.le_refl _) (by omega))) (sink_step hL (j:=j+1) (by omega) (by omega) ha' hS c2)
      exact ⟨y,l',lop (st) (gcM _ _ _ _ _ rfl) (r),sw.trans q1,q2⟩
    · obtain ⟨cc,N,hN,hc⟩:=S.cf (T:=T) hl hT (hD.at (i:=j+1) (by omega)) (hD.at (i:=j) (by omega)) c2
      have st:=pi_k_1 (xb:=xb) N db n cap (Mm enc H db l T) 0 a b i k (j+1) (y12:=Ud) (by omega) (ixs (i:=j+1) rfl (by omega)) (S.ld l T _ hl (by omega)) (ixs hw (by omega)) (S.ld l T _ hl (by omega)) hN hc
      exact ⟨_,l,lpo (st),.refl,sink_end hL hS (.inr c2)⟩
theorem pi_right (S:So xb enc lt dom H db n) {T:Heap} (hT:mxs T=0) {a b i k:Nat} (hb:b ≤ n):∀ (d w:Nat) (l:List α),b - w ≤ d → l.length=n → i < w → Dm dom l →
    ∃ y l',RT polSo 104 (sub [1,1,0,1,0,0,1,0,0,1,1,1,1,1,1,0,1,0] B104) (env104 (.sl db 0 n cap n 1) (.int .i64 (a:Int)) (.int .i64 (b:Int)) (.func 69 [] [.ptr xb 0 0 1]) (.bool false) (.int .i64 (i:Int)) (.int .i64 (k:Int)) Ud (.int .i64 (w:Int))) (Mm enc H db l T) (.exit 6) (env104 (.sl db 0 n cap n 1) (.int .i64 (a:Int)) (.int .i64 (b:Int)) (.func 69 [] [.ptr xb 0 0 1]) (.bool false) (.int .i64 (i:Int)) (.int .i64 (k:Int)) Ud y) (Mm enc H db l' T)∧Sw i b l l':=by
  have hn:=S.nb
  intro d
  induction d with
  | zero =>
    intro w l hd hl hw hD
    exact ⟨_,l,lpo (pi_n_2 (xb:=xb) 0 db n cap (Mm enc H db l T) 0 a b i k w (by omega)),.refl⟩
  | succ d ih =>
    intro w l hd hl hi hD
    by_cases c0:w < b
    · have hw:IntKind.i64.wrap ((w:Int) - 1)=((w - 1:Nat):Int):=wrap_pred (by omega) (by omega)
      by_cases c:lt (at_ l w) (at_ l (w - 1))
      · obtain ⟨cc,N,hN,hc⟩:=S.ct (T:=T) hl hT (hD.at (i:=w) (by omega)) (hD.at (i:=w - 1) (by omega)) c
        obtain ⟨s1,s2⟩:=S.st2 (T:=T) hl (i:=w) (j:=w - 1) (by omega) (by omega)
        have sw:Sw i b l (swp l w (w - 1)):=Sw.one (by omega) (by omega) (by omega) (by omega)
        have st:=pi_n_0 (xb:=xb) N db n cap (Mm enc H db l T) 0 a b i k w (y11:=Ud) (by omega) (ixs (i:=w) rfl (by omega)) (S.ld l T _ hl (by omega)) (ixs hw (by omega)) (S.ld l T _ hl (by omega)) hN hc
          (ixs hw (by omega)) (S.ld l T _ hl (by omega)) (ixs (i:=w) rfl (by omega)) (S.ld l T _ hl (by omega)) (ixs (i:=w) rfl (by omega)) s1 (ixs hw (by omega)) s2
        rw [wrap_succ (by omega)] at st
        obtain ⟨y,l',r,q1⟩:=ih (w+1) (swp l w (w - 1)) (by omega) (by rw [swp_len]; exact hl) (by omega) (hD.sw sw (by omega))
        exact ⟨y,l',lop (st) (gcM _ _ _ _ _ rfl) (r),sw.trans q1⟩
      · obtain ⟨cc,N,hN,hc⟩:=S.cf (T:=T) hl hT (hD.at (i:=w) (by omega)) (hD.at (i:=w - 1) (by omega)) c
        have st:=pi_n_1 (xb:=xb) N db n cap (Mm enc H db l T) 0 a b i k w (y11:=Ud) (by omega) (ixs (i:=w) rfl (by omega)) (S.ld l T _ hl (by omega)) (ixs hw (by omega)) (S.ld l T _ hl (by omega)) hN hc
        exact ⟨_,l,lpo (st),.refl⟩
    · exact ⟨_,l,lpo (pi_n_2 (xb:=xb) 0 db n cap (Mm enc H db l T) 0 a b i k w (by omega)),.refl⟩
theorem pi_L (S:So xb enc lt dom H db n) (hL:Lin lt) {T:Heap} (hT:mxs T=0) {a b i k:Nat} (hai:a < i) (hi:i < b) (hb:b ≤ n) {l:List α} (hl:l.length=n) (hD:Dm dom l) (hF:Flo lt a b l) (hS:Sorted lt a (i - 1) l) :
    ∃ y l',RT polSo 104 (sub [1,1,0,1,0,0,1,0,0,1,1,1,1,0] B104) (env104 (.sl db 0 n cap n 1) (.int .i64 (a:Int)) (.int .i64 (b:Int)) (.func 69 [] [.ptr xb 0 0 1]) (.bool false) (.int .i64 (i:Int)) (.int .i64 (k:Int)) Ud Ud) (Mm enc H db l T) .normal (env104 (.sl db 0 n cap n 1) (.int .i64 (a:Int)) (.int .i64 (b:Int)) (.func 69 [] [.ptr xb 0 0 1]) (.bool false) (.int .i64 (i:Int)) (.int .i64 (k:Int)) y Ud) (Mm enc H db l' T)∧Sw a i l l'∧Sorted lt a i l':=by
  have hn:=S.nb
  have hw:IntKind.i64.wrap ((i:Int) - (a:Int))=((i - a:Nat):Int):=(by rw [wrap_id (by omega) (by omega)]; omega)
  by_cases c:2 ≤ i - a
  · have t0:=pi_i_0 (xb:=xb) 0 db n cap (Mm enc H db l T) 0 a b i k (y11:=Ud) (y12:=Ud) (by rw [hw]; omega)
    have t1:=pi_j_0 (xb:=xb) 0 db n cap (Mm enc H db l T) 0 a b i k (y11:=Ud) (y12:=Ud)
    rw [wrap_pred (by omega) (by omega)] at t1
    have hk:Sink lt a i (i - 1) l:=by
      have:=sink_start (i:=i - 1) hS
      rwa [show i - 1+1=i by omega] at this
    obtain ⟨y,l',r,q1,q2⟩:=pi_left S hL (cap:=cap) (k:=k) hT hi hb (i - 1) l hl (by omega) (by omega) hD hF hk
    exact ⟨y,l',sq (t0) (RunsTo.cond (y:=.tmp 65) (t:=true) (c:=sub [1,1,0,1,0,0,1,0,0,1,1,1,1,0,1] B104) (a:=sub [1,1,0,1,0,0,1,0,0,1,1,1,1,0,1,0] B104) (b:=sub [1,1,0,1,0,0,1,0,0,1,1,1,1,0,1,1] B104) (by kernel_rfl) rfl (sq (t1) (bke (c:=sub [1,1,0,1,0,0,1,0,0,1,1,1,1,0,1,0,1] B104) (r)) (c:=sub [1,1,0,1,0,0,1,0,0,1,1,1,1,0,1,0] B104))) (c:=sub [1,1,0,1,0,0,1,0,0,1,1,1,1,0] B104),q1,q2⟩
  · have t0:=pi_i_1 (xb:=xb) 0 db n cap (Mm enc H db l T) 0 a b i k (y11:=Ud) (y12:=Ud) (by rw [hw]; omega)
    refine ⟨_,l,sq (t0) (RunsTo.cond (y:=.tmp 65) (t:=false) (c:=sub [1,1,0,1,0,0,1,0,0,1,1,1,1,0,1] B104) (a:=sub [1,1,0,1,0,0,1,0,0,1,1,1,1,0,1,0] B104) (b:=sub [1,1,0,1,0,0,1,0,0,1,1,1,1,0,1,1] B104) (by kernel_rfl) rfl (RunsTo.skip (E:=(env104 (.sl db 0 n cap n 1) (.int .i64 (a:Int)) (.int .i64 (b:Int)) (.func 69 [] [.ptr xb 0 0 1]) (.bool false) (.int .i64 (i:Int)) (.int .i64 (k:Int)) Ud Ud)) (by kernel_rfl) (by kernel_rfl))) (c:=sub [1,1,0,1,0,0,1,0,0,1,1,1,1,0] B104),.refl,?_⟩
    rw [show i=a+1 by omega]; exact sorted_one
theorem pi_R (S:So xb enc lt dom H db n) {T:Heap} (hT:mxs T=0) {a b i k:Nat} {y0:HV} (hi:i < b) (hb:b ≤ n) {l:List α} (hl:l.length=n) (hD:Dm dom l) :
    ∃ y y' l',RT polSo 104 (sub [1,1,0,1,0,0,1,0,0,1,1,1,1,1] B104) (env104 (.sl db 0 n cap n 1) (.int .i64 (a:Int)) (.int .i64 (b:Int)) (.func 69 [] [.ptr xb 0 0 1]) (.bool false) (.int .i64 (i:Int)) (.int .i64 (k:Int)) y0 Ud) (Mm enc H db l T) .normal (env104 (.sl db 0 n cap n 1) (.int .i64 (a:Int)) (.int .i64 (b:Int)) (.func 69 [] [.ptr xb 0 0 1]) (.bool false) (.int .i64 (i:Int)) (.int .i64 (k:Int)) y y') (Mm enc H db l' T)∧Sw i b l l':=by
  have hn:=S.nb
  have hw:IntKind.i64.wrap ((b:Int) - (i:Int))=((b - i:Nat):Int):=(by rw [wrap_id (by omega) (by omega)]; omega)
  by_cases c:2 ≤ b - i
  · have t0:=pi_l_0 (xb:=xb) 0 db n cap (Mm enc H db l T) 0 a b i k (y11:=y0) (y12:=Ud) (by rw [hw]; omega)
    have t1:=pi_m_0 (xb:=xb) 0 db n cap (Mm enc H db l T) 0 a b i k (y11:=y0) (y12:=Ud)
    rw [wrap_succ (by omega)] at t1
    obtain ⟨y,l',r,q1⟩:=pi_right S (cap:=cap) (a:=a) (i:=i) (k:=k) hT hb _ (i+1) l (Nat.le_refl _) hl (by omega) hD
    have r':=lpi (e0:=(env104 (.sl db 0 n cap n 1) (.int .i64 (a:Int)) (.int .i64 (b:Int)) (.func 69 [] [.ptr xb 0 0 1]) (.bool false) (.int .i64 (i:Int)) (.int .i64 (k:Int)) y0 (.int .i64 ((i+1:Nat):Int)))) r (b:=sub [1,1,0,1,0,0,1,0,0,1,1,1,1,1,1,0,1,0,0] B104)
    exact ⟨_,y,l',sq (t0) (RunsTo.cond (y:=.tmp 104) (t:=true) (c:=sub [1,1,0,1,0,0,1,0,0,1,1,1,1,1,1] B104) (a:=sub [1,1,0,1,0,0,1,0,0,1,1,1,1,1,1,0] B104) (b:=sub [1,1,0,1,0,0,1,0,0,1,1,1,1,1,1,1] B104) (by kernel_rfl) rfl (sq (t1) (bke (c:=sub [1,1,0,1,0,0,1,0,0,1,1,1,1,1,1,0,1] B104) (r')) (c:=sub [1,1,0,1,0,0,1,0,0,1,1,1,1,1,1,0] B104))) (c:=sub [1,1,0,1,0,0,1,0,0,1,1,1,1,1] B104),q1⟩
  · have t0:=pi_l_1 (xb:=xb) 0 db n cap (Mm enc H db l T) 0 a b i k (y11:=y0) (y12:=Ud) (by rw [hw]; omega)
    exact ⟨_,_,l,sq (t0) (RunsTo.cond (y:=.tmp 104) (t:=false) (c:=sub [1,1,0,1,0,0,1,0,0,1,1,1,1,1,1] B104) (a:=sub [1,1,0,1,0,0,1,0,0,1,1,1,1,1,1,0] B104) (b:=sub [1,1,0,1,0,0,1,0,0,1,1,1,1,1,1,1] B104) (by kernel_rfl) rfl (RunsTo.skip (E:=(env104 (.sl db 0 n cap n 1) (.int .i64 (a:Int)) (.int .i64 (b:Int)) (.func 69 [] [.ptr xb 0 0 1]) (.bool false) (.int .i64 (i:Int)) (.int .i64 (k:Int)) y0 Ud)) (by kernel_rfl) (by kernel_rfl))) (c:=sub [1,1,0,1,0,0,1,0,0,1,1,1,1,1] B104),.refl⟩
theorem pi_loop (S:So xb enc lt dom H db n) (hL:Lin lt) {T:Heap} (hT:mxs T=0) {a b:Nat} (hb:b ≤ n):∀ (d k i:Nat) (l:List α),k+d=5 → a < i → i ≤ b → l.length=n → Dm dom l → Flo lt a b l → Sorted lt a i l →
    ∃ x E l',RT polSo 104 (sub [1,1,0,1,0] B104) (env104 (.sl db 0 n cap n 1) (.int .i64 (a:Int)) (.int .i64 (b:Int)) (.func 69 [] [.ptr xb 0 0 1]) (.bool false) (.int .i64 (i:Int)) (.int .i64 (k:Int)) Ud Ud) (Mm enc H db l T) x E (Mm enc H db l' T)∧Sw a b l l'∧((x=.exit 0∧∃ y5 y6:Nat,E=(env104 (.sl db 0 n cap n 1) (.int .i64 (a:Int)) (.int .i64 (b:Int)) (.func 69 [] [.ptr xb 0 0 1]) (.bool false) (.int .i64 (y5:Int)) (.int .i64 (y6:Int)) Ud Ud)) ∨ (x=.ret∧∃ bb,resultsV Tp Try.f104 E (Mm enc H db l' T)=some (.bool bb)∧(bb=true → Sorted lt a b l'))):=by
  have hn:=S.nb
  intro d
  induction d with
  | zero =>
    intro k i l hk ha hi hl hD hF hS
    exact ⟨_,_,l,lpo (sqo (pi_d_1 (xb:=xb) 0 db n cap (Mm enc H db l T) 0 a b i k (by omega) (y11:=Ud) (y12:=Ud)) (c:=sub [1,1,0,1,0,0] B104) (b:=sub [1,1,0,1,0,0,1] B104)),.refl,.inl ⟨rfl,_,_,rfl⟩⟩
  | succ d ih =>
    intro k i l hk ha hi hl hD hF hS
    have t0:=pi_d_0 (xb:=xb) 0 db n cap (Mm enc H db l T) 0 a b i k (by omega) (y11:=Ud) (y12:=Ud)
    obtain ⟨i',r,q1,q2,q3⟩:=pi_scan S hL (cap:=cap) (k:=k) hT hb hl hD _ i (Nat.le_refl _) ha hi hS
    by_cases c:i'=b
    · have t1:=pi_f_0 (xb:=xb) 0 db n cap (Mm enc H db l T) 0 a b i' k (by omega) (y11:=Ud) (y12:=Ud)
      have st:=sq (t0) (sqo (RunsTo.block_ret (i:=1) (c:=sub [1,1,0,1,0,0,1,0] B104) (sq (bke (c:=sub [1,1,0,1,0,0,1,0,0,0] B104) (r)) (sqo (t1) (c:=sub [1,1,0,1,0,0,1,0,0,1] B104) (b:=sub [1,1,0,1,0,0,1,0,0,1,1] B104)) (c:=sub [1,1,0,1,0,0,1,0,0] B104)) (by kernel_rfl)) (c:=sub [1,1,0,1,0,0,1] B104) (b:=sub [1,1,0,1,0,0,1,1] B104)) (c:=sub [1,1,0,1,0,0] B104)
      exact ⟨_,_,l,lpo (st),.refl,.inr ⟨rfl,true,by kernel_rfl,fun _=>c ▸ q2⟩⟩
    · have t1:=pi_f_1 (xb:=xb) 0 db n cap (Mm enc H db l T) 0 a b i' k (by omega) (y11:=Ud) (y12:=Ud)
      have hw:IntKind.i64.wrap ((b:Int) - (a:Int))=((b - a:Nat):Int):=(by rw [wrap_id (by omega) (by omega)]; omega)
      by_cases c2:b - a < 50
      · have t2:=pi_g_0 (xb:=xb) 0 db n cap (Mm enc H db l T) 0 a b i' k (by rw [hw]; omega) (y11:=Ud) (y12:=Ud)
        have st:=sq (t0) (sqo (RunsTo.block_ret (i:=1) (c:=sub [1,1,0,1,0,0,1,0] B104) (sq (bke (c:=sub [1,1,0,1,0,0,1,0,0,0] B104) (r)) (sq (t1) (sqo (t2) (c:=sub [1,1,0,1,0,0,1,0,0,1,1] B104) (b:=sub [1,1,0,1,0,0,1,0,0,1,1,1] B104)) (c:=sub [1,1,0,1,0,0,1,0,0,1] B104)) (c:=sub [1,1,0,1,0,0,1,0,0] B104)) (by kernel_rfl)) (c:=sub [1,1,0,1,0,0,1] B104) (b:=sub [1,1,0,1,0,0,1,1] B104)) (c:=sub [1,1,0,1,0,0] B104)
        exact ⟨_,_,l,lpo (st),.refl,.inr ⟨rfl,false,by kernel_rfl,fun h=>by cases h⟩⟩
      · have t2:=pi_g_1 (xb:=xb) 0 db n cap (Mm enc H db l T) 0 a b i' k (by rw [hw]; omega) (y11:=Ud) (y12:=Ud)
        have hp:IntKind.i64.wrap ((i':Int) - 1)=((i' - 1:Nat):Int):=wrap_pred (by omega) (by omega)
        obtain ⟨s1,s2⟩:=S.st2 (T:=T) hl (i:=i') (j:=i' - 1) (by omega) (by omega)
        have t3:=pi_h_0 (xb:=xb) 0 db n cap (Mm enc H db l T) 0 a b i' k (y11:=Ud) (y12:=Ud) (ixs hp (by omega)) (S.ld l T _ hl (by omega)) (ixs (i:=i') rfl (by omega)) (S.ld l T _ hl (by omega)) (ixs (i:=i') rfl (by omega)) s1 (ixs hp (by omega)) s2
        have sw:Sw a b l (swp l i' (i' - 1)):=Sw.one (by omega) (by omega) (by omega) (by omega)
        have hS1:Sorted lt a (i' - 1) (swp l i' (i' - 1)):=fun p q h1 h2 h3=>by
          rw [swp_ne (by omega) (by omega) (by omega) (by omega),swp_ne (by omega) (by omega) (by omega) (by omega)]
          exact q2 p q h1 h2 (by omega)
        have hl1:=sw_len sw hl
        have hD1:=hD.sw sw (by omega)
        have hF1:=hF.sw (by omega) sw
        generalize swp l i' (i' - 1)=l1 at t3 sw hS1 hl1 hD1 hF1 s2
        obtain ⟨y,l2,r2,w1,w2⟩:=pi_L S hL (cap:=cap) (k:=k) hT q1.1 (by omega) hb hl1 hD1 hF1 hS1
        have hl2:=sw_len w1 hl1
        have hD2:=hD1.sw w1 (by omega)
        have hF2:=hF1.sw (by omega) (w1.mono (Nat.le_refl _) (by omega))
        obtain ⟨y',y2,l3,r3,w3⟩:=pi_R S (cap:=cap) (a:=a) (k:=k) (y0:=y) hT (i:=i') (by omega) hb hl2 hD2
        have hl3:=sw_len w3 hl2
        have sw3:Sw a b l2 l3:=w3.mono (by omega) (Nat.le_refl _)
        have hS3:Sorted lt a i' l3:=fun p q h1 h2 h3=>by
          rw [w3.out (by omega) (k:=q) (by omega),w3.out (by omega) (k:=p) (by omega)]
          exact w2 p q h1 h2 h3
        have t6:=pi_o_0 (xb:=xb) 0 db n cap (Mm enc H db l3 T) 0 a b i' k (y11:=y') (y12:=y2)
        rw [wrap_succ (by omega)] at t6
        have st:=sq (t0) (sq (RunsTo.block_normal (i:=1) (c:=sub [1,1,0,1,0,0,1,0] B104) (sq (bke (c:=sub [1,1,0,1,0,0,1,0,0,0] B104) (r)) (sq (t1) (sq (t2) (sq (t3) (sq (r2) (r3) (c:=sub [1,1,0,1,0,0,1,0,0,1,1,1,1] B104)) (c:=sub [1,1,0,1,0,0,1,0,0,1,1,1] B104)) (c:=sub [1,1,0,1,0,0,1,0,0,1,1] B104)) (c:=sub [1,1,0,1,0,0,1,0,0,1] B104)) (c:=sub [1,1,0,1,0,0,1,0,0] B104)) (by kernel_rfl)) (t6) (c:=sub [1,1,0,1,0,0,1] B104)) (c:=sub [1,1,0,1,0,0] B104)
        obtain ⟨x,E,l',rr,z1,z2⟩:=ih (k+1) i' l3 (by omega) q1.1 q1.2 hl3 (hD2.sw w3 (by omega)) (hF2.sw (by omega) sw3) hS3
        exact ⟨x,E,l',lop (st) (gcM _ _ _ _ _ rfl) (rr),sw.trans ((w1.mono (Nat.le_refl _) (by omega)).trans (sw3.trans z1)),z2⟩
theorem pin_ok (S:So xb enc lt dom H db n) (hL:Lin lt) {T:Heap} (hT:mxs T=0) {a b:Nat} (hab:a < b) (hb:b ≤ n) {l:List α} (hl:l.length=n) (hD:Dm dom l) (hF:Flo lt a b l) :
    ∃ bb l',ClS 104 [.sl db 0 n cap n 1,.int .i64 (a:Int),.int .i64 (b:Int),.func 69 [] [.ptr xb 0 0 1]] (Mm enc H db l T) (.bool bb) (Mm enc H db l' T)∧Sw a b l l'∧(bb=true → Sorted lt a b l'):=by
  have hn:=S.nb
  have t0:=pi_a_0 (xb:=xb) 0 db n cap (Mm enc H db l T) 0 a b
  have t1:=pi_b_0 (xb:=xb) 0 db n cap (Mm enc H db l T) 0 a b (y9:=Ud) (y10:=Ud) (y11:=Ud) (y12:=Ud)
  rw [wrap_succ (by omega)] at t1
  have t2:=pi_c_0 (xb:=xb) 0 db n cap (Mm enc H db l T) 0 a b (a+1) (y10:=Ud) (y11:=Ud) (y12:=Ud)
  obtain ⟨x,E,l',r,q1,q2⟩:=pi_loop S hL (cap:=cap) hT hb 5 0 (a+1) l rfl (by omega) (by omega) hl hD hF sorted_one
  rcases q2 with ⟨rfl,y5,y6,rfl⟩ | ⟨rfl,bb,hv,hs⟩
  · have z:=pi_p_0 (xb:=xb) 0 db n cap (Mm enc H db l' T) 0 a b y5 y6 (y11:=Ud) (y12:=Ud)
    have t:=sq (t0) (sq (t1) (sq (sq (t2) (bke (c:=sub [1,1,0,1] B104) (r)) (c:=sub [1,1,0] B104)) (z) (c:=sub [1,1] B104)) (c:=sub [1] B104)) (c:=B104)
    have hc:=CallsTo.shared (P:=Tp) (pol:=polSo) (g:=104) (fn:=Try.f104) (cd:=B104) (args:=[.sl db 0 n cap n 1,.int .i64 (a:Int),.int .i64 (b:Int),.func 69 [] [.ptr xb 0 0 1]]) (v:=.bool false) (by kernel_rfl) (by kernel_rfl) (by kernel_rfl) (by kernel_rfl) t (by kernel_rfl) (by simp) (by kernel_rfl)
    rw [gcM _ _ _ _ _ rfl] at hc
    exact ⟨false,l',hc,q1,fun h=>by cases h⟩
  · have t:=sq (t0) (sq (t1) (sqo (sq (t2) (RunsTo.block_ret (i:=0) (c:=sub [1,1,0,1] B104) (r) (by kernel_rfl)) (c:=sub [1,1,0] B104)) (c:=sub [1,1] B104) (b:=sub [1,1,1] B104)) (c:=sub [1] B104)) (c:=B104)
    have hc:=CallsTo.shared (P:=Tp) (pol:=polSo) (g:=104) (fn:=Try.f104) (cd:=B104) (args:=[.sl db 0 n cap n 1,.int .i64 (a:Int),.int .i64 (b:Int),.func 69 [] [.ptr xb 0 0 1]]) (by kernel_rfl) (by kernel_rfl) (by kernel_rfl) (by kernel_rfl) t (by kernel_rfl) (by simp) hv
    rw [gcM _ _ _ _ _ rfl] at hc
    exact ⟨bb,l',hc,q1,hs⟩
end
end Go.Proofs.Ytiejmoglooaalaa
end
section
open Go Go.HL
namespace Go.Proofs.Ytiejmoglooaalaa
set_option maxRecDepth 100000
open Go.Proofs.Try renaming prog → Tp
open Go.HL.HV renaming undef → Ud
section
variable {xb:Nat}
noncomputable def B112:Code:=Try.f112.body.getD .skip
abbrev env112 (v0 v1 v2 v3 v4 v10 v11:HV):Env:=[(0,v0),(1,v1),(2,v2),(3,v3),(4,v4),(10,v10),(11,v11)]
theorem o2_a_0 (N:Nat) (db n:Nat) (cap:Option Nat) (H:Heap) (x:Nat) (a:Nat) (b:Nat) {a0:HV} {v0:HV} {a1:HV} {v1:HV} {c0:Int} {H0:Heap} {x0:Int} {H1:Heap} (g0:idxV Tp 24 (.c db n cap) (.i (b:Int))=some (a0)) (g1:loadV Tp H 3 (a0)=some (v0)) (g2:idxV Tp 24 (.c db n cap) (.i (a:Int))=some (a1)) (g3:loadV Tp H 3 (a1)=some (v1)) (g4:∀ kf,N ≤ kf → callN Tp polSo (kf+1) 69 [v0,v1,.ptr xb 0 0 1] H=some (.i c0,H0)) (g5:c0 < 0) (g6:loadV Tp H0 3 (.ptr x 0 0 1)=some (.i x0)) (g7:storeV Tp H0 3 (.ptr x 0 0 1) (.i (IntKind.i64.wrap (x0+1)))=some H1):RT polSo 112 (sub [] B112) [(0,.c db n cap),(1,.i (a:Int)),(2,.i (b:Int)),(3,.ptr x 0 0 1),(4,.func 69 [] [.ptr xb 0 0 1])] H .ret (env112 (.c db n cap) (.i (a:Int)) (.i (b:Int)) (.ptr x 0 0 1) (.func 69 [] [.ptr xb 0 0 1]) (.i (b:Int)) (.i (a:Int))) H1 :=
  RunsTo.hin N 60 [⟨1,3,a0,H⟩,⟨1,4,v0,H⟩,⟨1,7,a1,H⟩,⟨1,8,v1,H⟩,⟨1,9,.i c0,H0⟩,⟨1,10,.bool true,H0⟩,⟨2,2,.i x0,H0⟩,⟨2,5,.tuple [],H1⟩] fun kf hk=>⟨_,by kernel_rfl,(oP H g0 (oP H g1 (oP H g2 (oP H g3 (oC (g4 kf (by omega)) (oB H0 (decide_eq_true g5) (oP H0 g6 (oS g7 .nil))))))))⟩
theorem o2_a_1 (N:Nat) (db n:Nat) (cap:Option Nat) (H:Heap) (x:Nat) (a:Nat) (b:Nat) {a0:HV} {v0:HV} {a1:HV} {v1:HV} {c0:Int} {H0:Heap} (g0:idxV Tp 24 (.c db n cap) (.i (b:Int))=some (a0)) (g1:loadV Tp H 3 (a0)=some (v0)) (g2:idxV Tp 24 (.c db n cap) (.i (a:Int))=some (a1)) (g3:loadV Tp H 3 (a1)=some (v1)) (g4:∀ kf,N ≤ kf → callN Tp polSo (kf+1) 69 [v0,v1,.ptr xb 0 0 1] H=some (.i c0,H0)) (g5:¬ (c0 < 0)):RT polSo 112 (sub [] B112) [(0,.c db n cap),(1,.i (a:Int)),(2,.i (b:Int)),(3,.ptr x 0 0 1),(4,.func 69 [] [.ptr xb 0 0 1])] H .ret (env112 (.c db n cap) (.i (a:Int)) (.i (b:Int)) (.ptr x 0 0 1) (.func 69 [] [.ptr xb 0 0 1]) (.i (a:Int)) (.i (b:Int))) H0 :=
  RunsTo.hin N 60 [⟨1,3,a0,H⟩,⟨1,4,v0,H⟩,⟨1,7,a1,H⟩,⟨1,8,v1,H⟩,⟨1,9,.i c0,H0⟩,⟨1,10,.bool false,H0⟩] fun kf hk=>⟨_,by kernel_rfl,(oP H g0 (oP H g1 (oP H g2 (oP H g3 (oC (g4 kf (by omega)) (oB H0 (decide_eq_false g5) .nil))))))⟩
noncomputable def B111:Code:=Try.f111.body.getD .skip
abbrev env111 (v0 v1 v2 v3 v4 v5 v12:HV):Env:=[(0,v0),(1,v1),(2,v2),(3,v3),(4,v4),(5,v5),(12,v12)]
theorem md_a_0 (N:Nat) (db n:Nat) (cap:Option Nat) (H:Heap) (x:Nat) (a:Nat) (b:Nat) (q:Nat) {p0:Int} {p1:Int} {H0:Heap} {p2:Int} {p3:Int} {H1:Heap} {p4:Int} {p5:Int} {H2:Heap} (g0:∀ kf,N ≤ kf → callN Tp polSo (kf+1) 112 [.c db n cap,.i (a:Int),.i (b:Int),.ptr x 0 0 1,.func 69 [] [.ptr xb 0 0 1]] H=some (.tuple [.i p0,.i p1],H0)) (g1:∀ kf,N ≤ kf → callN Tp polSo (kf+1) 112 [.c db n cap,.i p1,.i (q:Int),.ptr x 0 0 1,.func 69 [] [.ptr xb 0 0 1]] H0=some (.tuple [.i p2,.i p3],H1)) (g2:∀ kf,N ≤ kf → callN Tp polSo (kf+1) 112 [.c db n cap,.i p0,.i p2,.ptr x 0 0 1,.func 69 [] [.ptr xb 0 0 1]] H1=some (.tuple [.i p4,.i p5],H2)):RT polSo 111 (sub [] B111) [(0,.c db n cap),(1,.i (a:Int)),(2,.i (b:Int)),(3,.i (q:Int)),(4,.ptr x 0 0 1),(5,.func 69 [] [.ptr xb 0 0 1])] H .ret (env111 (.c db n cap) (.i p4) (.i p5) (.i p3) (.ptr x 0 0 1) (.func 69 [] [.ptr xb 0 0 1]) (.i p5)) H2 :=
  RunsTo.hin N 60 [⟨1,5,.tuple [.i p0,.i p1],H0⟩,⟨2,5,.tuple [.i p2,.i p3],H1⟩,⟨3,5,.tuple [.i p4,.i p5],H2⟩] fun kf hk=>⟨_,by kernel_rfl,(oC (g0 kf (by omega)) (oC (g1 kf (by omega)) (oC (g2 kf (by omega)) .nil)))⟩
noncomputable def B110:Code:=Try.f110.body.getD .skip
abbrev env110 (v0 v1 v2 v3 v8:HV):Env:=[(0,v0),(1,v1),(2,v2),(3,v3),(8,v8)]
theorem ma_a_0 (N:Nat) (db n:Nat) (cap:Option Nat) (H:Heap) (x:Nat) (a:Nat) {p0:Int} {H0:Heap} (g0:∀ kf,N ≤ kf → callN Tp polSo (kf+1) 111 [.c db n cap,.i (IntKind.i64.wrap ((a:Int) - 1)),.i (a:Int),.i (IntKind.i64.wrap ((a:Int)+1)),.ptr x 0 0 1,.func 69 [] [.ptr xb 0 0 1]] H=some (.i p0,H0)):RT polSo 110 (sub [] B110) [(0,.c db n cap),(1,.i (a:Int)),(2,.ptr x 0 0 1),(3,.func 69 [] [.ptr xb 0 0 1])] H .ret (env110 (.c db n cap) (.i (a:Int)) (.ptr x 0 0 1) (.func 69 [] [.ptr xb 0 0 1]) (.i p0)) H0 :=
  RunsTo.hin N 60 [⟨1,8,.i p0,H0⟩] fun kf hk=>⟨_,by kernel_rfl,(oC (g0 kf (by omega)) .nil)⟩
noncomputable def B102:Code:=Try.f102.body.getD .skip
abbrev env102 (v0 v1 v2 v3 v8 v9 v10 v11 v12 v13 v14 v55:HV):Env:=[(0,v0),(1,v1),(2,v2),(3,v3),(8,v8),(9,v9),(10,v10),(11,v11),(12,v12),(13,v13),(14,v14),(55,v55)]
theorem cv_a_0 (N:Nat) (db n:Nat) (cap:Option Nat) (H:Heap) (x:Nat) (a:Nat) (b:Nat) {H0:Heap} {p0:Int} {H1:Heap} {p1:Int} {H2:Heap} {p2:Int} {H3:Heap} {p3:Int} {H4:Heap} {x0:Int} (g0:some (newV (.i 0) H)=some (.ptr x 0 0 1,H0)) (g1:8 ≤ IntKind.i64.wrap ((b:Int) - (a:Int))) (g2:50 ≤ IntKind.i64.wrap ((b:Int) - (a:Int))) (g3:∀ kf,N ≤ kf → callN Tp polSo (kf+1) 110 [.c db n cap,.i (IntKind.i64.wrap ((a:Int)+IntKind.i64.wrap (IntKind.i64.wrap ((IntKind.i64.wrap ((b:Int) - (a:Int)):Int).tdiv 4) * 1))),.ptr x 0 0 1,.func 69 [] [.ptr xb 0 0 1]] H0=some (.i p0,H1)) (g4:∀ kf,N ≤ kf → callN Tp polSo (kf+1) 110 [.c db n cap,.i (IntKind.i64.wrap ((a:Int)+IntKind.i64.wrap (IntKind.i64.wrap ((IntKind.i64.wrap ((b:Int) - (a:Int)):Int).tdiv 4) * 2))),.ptr x 0 0 1,.func 69 [] [.ptr xb 0 0 1]] H1=some (.i p1,H2)) (g5:∀ kf,N ≤ kf → callN Tp polSo (kf+1) 110 [.c db n cap,.i (IntKind.i64.wrap ((a:Int)+IntKind.i64.wrap (IntKind.i64.wrap ((IntKind.i64.wrap ((b:Int) - (a:Int)):Int).tdiv 4) * 3))),.ptr x 0 0 1,.func 69 [] [.ptr xb 0 0 1]] H2=some (.i p2,H3)) (g6:∀ kf,N ≤ kf → callN Tp polSo (kf+1) 111 [.c db n cap,.i p0,.i p1,.i p2,.ptr x 0 0 1,.func 69 [] [.ptr xb 0 0 1]] H3=some (.i p3,H4)) (g7:loadV Tp H4 3 (.ptr x 0 0 1)=some (.i x0)) (g8:x0=0):RT polSo 102 (sub [] B102) [(0,.c db n cap),(1,.i (a:Int)),(2,.i (b:Int)),(3,.func 69 [] [.ptr xb 0 0 1])] H .ret (env102 (.c db n cap) (.i (a:Int)) (.i (b:Int)) (.func 69 [] [.ptr xb 0 0 1]) (.i p3) (.i 1) (.i (IntKind.i64.wrap ((b:Int) - (a:Int)))) (.ptr x 0 0 1) (.i p0) (.i p3) (.i p2) (.i x0)) H4 :=
  RunsTo.hin N 60 [⟨2,0,.ptr x 0 0 1,H0⟩,⟨6,1,.bool true,H0⟩,⟨7,1,.bool true,H0⟩,⟨8,3,.i p0,H1⟩,⟨9,3,.i p1,H2⟩,⟨10,3,.i p2,H3⟩,⟨11,5,.i p3,H4⟩,⟨12,0,.i x0,H4⟩,⟨14,0,.bool true,H4⟩] fun kf hk=>⟨_,by kernel_rfl,(oC (g0) (oB H0 (decide_eq_true g1) (oB H0 (decide_eq_true g2) (oC (g3 kf (by omega)) (oC (g4 kf (by omega)) (oC (g5 kf (by omega)) (oC (g6 kf (by omega)) (oP H4 g7 (oB H4 (decide_eq_true g8) .nil)))))))))⟩
theorem cv_a_1 (N:Nat) (db n:Nat) (cap:Option Nat) (H:Heap) (x:Nat) (a:Nat) (b:Nat) {H0:Heap} {p0:Int} {H1:Heap} {p1:Int} {H2:Heap} {p2:Int} {H3:Heap} {p3:Int} {H4:Heap} {x0:Int} (g0:some (newV (.i 0) H)=some (.ptr x 0 0 1,H0)) (g1:8 ≤ IntKind.i64.wrap ((b:Int) - (a:Int))) (g2:50 ≤ IntKind.i64.wrap ((b:Int) - (a:Int))) (g3:∀ kf,N ≤ kf → callN Tp polSo (kf+1) 110 [.c db n cap,.i (IntKind.i64.wrap ((a:Int)+IntKind.i64.wrap (IntKind.i64.wrap ((IntKind.i64.wrap ((b:Int) - (a:Int)):Int).tdiv 4) * 1))),.ptr x 0 0 1,.func 69 [] [.ptr xb 0 0 1]] H0=some (.i p0,H1)) (g4:∀ kf,N ≤ kf → callN Tp polSo (kf+1) 110 [.c db n cap,.i (IntKind.i64.wrap ((a:Int)+IntKind.i64.wrap (IntKind.i64.wrap ((IntKind.i64.wrap ((b:Int) - (a:Int)):Int).tdiv 4) * 2))),.ptr x 0 0 1,.func 69 [] [.ptr xb 0 0 1]] H1=some (.i p1,H2)) (g5:∀ kf,N ≤ kf → callN Tp polSo (kf+1) 110 [.c db n cap,.i (IntKind.i64.wrap ((a:Int)+IntKind.i64.wrap (IntKind.i64.wrap ((IntKind.i64.wrap ((b:Int) - (a:Int)):Int).tdiv 4) * 3))),.ptr x 0 0 1,.func 69 [] [.ptr xb 0 0 1]] H2=some (.i p2,H3)) (g6:∀ kf,N ≤ kf → callN Tp polSo (kf+1) 111 [.c db n cap,.i p0,.i p1,.i p2,.ptr x 0 0 1,.func 69 [] [.ptr xb 0 0 1]] H3=some (.i p3,H4)) (g7:loadV Tp H4 3 (.ptr x 0 0 1)=some (.i x0)) (g8:¬ (x0=0)) (g9:x0=12):RT polSo 102 (sub [] B102) [(0,.c db n cap),(1,.i (a:Int)),(2,.i (b:Int)),(3,.func 69 [] [.ptr xb 0 0 1])] H .ret (env102 (.c db n cap) (.i (a:Int)) (.i (b:Int)) (.func 69 [] [.ptr xb 0 0 1]) (.i p3) (.i 2) (.i (IntKind.i64.wrap ((b:Int) - (a:Int)))) (.ptr x 0 0 1) (.i p0) (.i p3) (.i p2) (.i x0)) H4 :=
  RunsTo.hin N 60 [⟨2,0,.ptr x 0 0 1,H0⟩,⟨6,1,.bool true,H0⟩,⟨7,1,.bool true,H0⟩,⟨8,3,.i p0,H1⟩,⟨9,3,.i p1,H2⟩,⟨10,3,.i p2,H3⟩,⟨11,5,.i p3,H4⟩,⟨12,0,.i x0,H4⟩,⟨14,0,.bool false,H4⟩,⟨16,0,.bool true,H4⟩] fun kf hk=>⟨_,by kernel_rfl,(oC (g0) (oB H0 (decide_eq_true g1) (oB H0 (decide_eq_true g2) (oC (g3 kf (by omega)) (oC (g4 kf (by omega)) (oC (g5 kf (by omega)) (oC (g6 kf (by omega)) (oP H4 g7 (oB H4 (decide_eq_false g8) (oB H4 (decide_eq_true g9) .nil))))))))))⟩
theorem cv_a_2 (N:Nat) (db n:Nat) (cap:Option Nat) (H:Heap) (x:Nat) (a:Nat) (b:Nat) {H0:Heap} {p0:Int} {H1:Heap} {p1:Int} {H2:Heap} {p2:Int} {H3:Heap} {p3:Int} {H4:Heap} {x0:Int} (g0:some (newV (.i 0) H)=some (.ptr x 0 0 1,H0)) (g1:8 ≤ IntKind.i64.wrap ((b:Int) - (a:Int))) (g2:50 ≤ IntKind.i64.wrap ((b:Int) - (a:Int))) (g3:∀ kf,N ≤ kf → callN Tp polSo (kf+1) 110 [.c db n cap,.i (IntKind.i64.wrap ((a:Int)+IntKind.i64.wrap (IntKind.i64.wrap ((IntKind.i64.wrap ((b:Int) - (a:Int)):Int).tdiv 4) * 1))),.ptr x 0 0 1,.func 69 [] [.ptr xb 0 0 1]] H0=some (.i p0,H1)) (g4:∀ kf,N ≤ kf → callN Tp polSo (kf+1) 110 [.c db n cap,.i (IntKind.i64.wrap ((a:Int)+IntKind.i64.wrap (IntKind.i64.wrap ((IntKind.i64.wrap ((b:Int) - (a:Int)):Int).tdiv 4) * 2))),.ptr x 0 0 1,.func 69 [] [.ptr xb 0 0 1]] H1=some (.i p1,H2)) (g5:∀ kf,N ≤ kf → callN Tp polSo (kf+1) 110 [.c db n cap,.i (IntKind.i64.wrap ((a:Int)+IntKind.i64.wrap (IntKind.i64.wrap ((IntKind.i64.wrap ((b:Int) - (a:Int)):Int).tdiv 4) * 3))),.ptr x 0 0 1,.func 69 [] [.ptr xb 0 0 1]] H2=some (.i p2,H3)) (g6:∀ kf,N ≤ kf → callN Tp polSo (kf+1) 111 [.c db n cap,.i p0,.i p1,.i p2,.ptr x 0 0 1,.func 69 [] [.ptr xb 0 0 1]] H3=some (.i p3,H4)) (g7:loadV Tp H4 3 (.ptr x 0 0 1)=some (.i x0)) (g8:¬ (x0=0)) (g9:¬ (x0=12)):RT polSo 102 (sub [] B102) [(0,.c db n cap),(1,.i (a:Int)),(2,.i (b:Int)),(3,.func 69 [] [.ptr xb 0 0 1])] H .ret (env102 (.c db n cap) (.i (a:Int)) (.i (b:Int)) (.func 69 [] [.ptr xb 0 0 1]) (.i p3) (.i 0) (.i (IntKind.i64.wrap ((b:Int) - (a:Int)))) (.ptr x 0 0 1) (.i p0) (.i p3) (.i p2) (.i x0)) H4 :=
  RunsTo.hin N 60 [⟨2,0,.ptr x 0 0 1,H0⟩,⟨6,1,.bool true,H0⟩,⟨7,1,.bool true,H0⟩,⟨8,3,.i p0,H1⟩,⟨9,3,.i p1,H2⟩,⟨10,3,.i p2,H3⟩,⟨11,5,.i p3,H4⟩,⟨12,0,.i x0,H4⟩,⟨14,0,.bool false,H4⟩,⟨16,0,.bool false,H4⟩] fun kf hk=>⟨_,by kernel_rfl,(oC (g0) (oB H0 (decide_eq_true g1) (oB H0 (decide_eq_true g2) (oC (g3 kf (by omega)) (oC (g4 kf (by omega)) (oC (g5 kf (by omega)) (oC (g6 kf (by omega)) (oP H4 g7 (oB H4 (decide_eq_false g8) (oB H4 (decide_eq_false g9) .nil))))))))))⟩
theorem cv_a_3 (N:Nat) (db n:Nat) (cap:Option Nat) (H:Heap) (x:Nat) (a:Nat) (b:Nat) {H0:Heap} {p0:Int} {H1:Heap} {x0:Int} (g0:some (newV (.i 0) H)=some (.ptr x 0 0 1,H0)) (g1:8 ≤ IntKind.i64.wrap ((b:Int) - (a:Int))) (g2:¬ (50 ≤ IntKind.i64.wrap ((b:Int) - (a:Int)))) (g3:∀ kf,N ≤ kf → callN Tp polSo (kf+1) 111 [.c db n cap,.i (IntKind.i64.wrap ((a:Int)+IntKind.i64.wrap (IntKind.i64.wrap ((IntKind.i64.wrap ((b:Int) - (a:Int)):Int).tdiv 4) * 1))),.i (IntKind.i64.wrap ((a:Int)+IntKind.i64.wrap (IntKind.i64.wrap ((IntKind.i64.wrap ((b:Int) - (a:Int)):Int).tdiv 4) * 2))),.i (IntKind.i64.wrap ((a:Int)+IntKind.i64.wrap (IntKind.i64.wrap ((IntKind.i64.wrap ((b:Int) - (a:Int)):Int).tdiv 4) * 3))),.ptr x 0 0 1,.func 69 [] [.ptr xb 0 0 1]] H0=some (.i p0,H1)) (g4:loadV Tp H1 3 (.ptr x 0 0 1)=some (.i x0)) (g5:x0=0):RT polSo 102 (sub [] B102) [(0,.c db n cap),(1,.i (a:Int)),(2,.i (b:Int)),(3,.func 69 [] [.ptr xb 0 0 1])] H .ret (env102 (.c db n cap) (.i (a:Int)) (.i (b:Int)) (.func 69 [] [.ptr xb 0 0 1]) (.i p0) (.i 1) (.i (IntKind.i64.wrap ((b:Int) - (a:Int)))) (.ptr x 0 0 1) (.i (IntKind.i64.wrap ((a:Int)+IntKind.i64.wrap (IntKind.i64.wrap ((IntKind.i64.wrap ((b:Int) - (a:Int)):Int).tdiv 4) * 1)))) (.i p0) (.i (IntKind.i64.wrap ((a:Int)+IntKind.i64.wrap (IntKind.i64.wrap ((IntKind.i64.wrap ((b:Int) - (a:Int)):Int).tdiv 4) * 3)))) (.i x0)) H1 :=
  RunsTo.hin N 60 [⟨2,0,.ptr x 0 0 1,H0⟩,⟨6,1,.bool true,H0⟩,⟨7,1,.bool false,H0⟩,⟨11,5,.i p0,H1⟩,⟨12,0,.i x0,H1⟩,⟨14,0,.bool true,H1⟩] fun kf hk=>⟨_,by kernel_rfl,(oC (g0) (oB H0 (decide_eq_true g1) (oB H0 (decide_eq_false g2) (oC (g3 kf (by omega)) (oP H1 g4 (oB H1 (decide_eq_true g5) .nil))))))⟩
theorem cv_a_4 (N:Nat) (db n:Nat) (cap:Option Nat) (H:Heap) (x:Nat) (a:Nat) (b:Nat) {H0:Heap} {p0:Int} {H1:Heap} {x0:Int} (g0:some (newV (.i 0) H)=some (.ptr x 0 0 1,H0)) (g1:8 ≤ IntKind.i64.wrap ((b:Int) - (a:Int))) (g2:¬ (50 ≤ IntKind.i64.wrap ((b:Int) - (a:Int)))) (g3:∀ kf,N ≤ kf → callN Tp polSo (kf+1) 111 [.c db n cap,.i (IntKind.i64.wrap ((a:Int)+IntKind.i64.wrap (IntKind.i64.wrap ((IntKind.i64.wrap ((b:Int) - (a:Int)):Int).tdiv 4) * 1))),.i (IntKind.i64.wrap ((a:Int)+IntKind.i64.wrap (IntKind.i64.wrap ((IntKind.i64.wrap ((b:Int) - (a:Int)):Int).tdiv 4) * 2))),.i (IntKind.i64.wrap ((a:Int)+IntKind.i64.wrap (IntKind.i64.wrap ((IntKind.i64.wrap ((b:Int) - (a:Int)):Int).tdiv 4) * 3))),.ptr x 0 0 1,.func 69 [] [.ptr xb 0 0 1]] H0=some (.i p0,H1)) (g4:loadV Tp H1 3 (.ptr x 0 0 1)=some (.i x0)) (g5:¬ (x0=0)) (g6:x0=12):RT polSo 102 (sub [] B102) [(0,.c db n cap),(1,.i (a:Int)),(2,.i (b:Int)),(3,.func 69 [] [.ptr xb 0 0 1])] H .ret (env102 (.c db n cap) (.i (a:Int)) (.i (b:Int)) (.func 69 [] [.ptr xb 0 0 1]) (.i p0) (.i 2) (.i (IntKind.i64.wrap ((b:Int) - (a:Int)))) (.ptr x 0 0 1) (.i (IntKind.i64.wrap ((a:Int)+IntKind.i64.wrap (IntKind.i64.wrap ((IntKind.i64.wrap ((b:Int) - (a:Int)):Int).tdiv 4) * 1)))) (.i p0) (.i (IntKind.i64.wrap ((a:Int)+IntKind.i64.wrap (IntKind.i64.wrap ((IntKind.i64.wrap ((b:Int) - (a:Int)):Int).tdiv 4) * 3)))) (.i x0)) H1 :=
  RunsTo.hin N 60 [⟨2,0,.ptr x 0 0 1,H0⟩,⟨6,1,.bool true,H0⟩,⟨7,1,.bool false,H0⟩,⟨11,5,.i p0,H1⟩,⟨12,0,.i x0,H1⟩,⟨14,0,.bool false,H1⟩,⟨16,0,.bool true,H1⟩] fun kf hk=>⟨_,by kernel_rfl,(oC (g0) (oB H0 (decide_eq_true g1) (oB H0 (decide_eq_false g2) (oC (g3 kf (by omega)) (oP H1 g4 (oB H1 (decide_eq_false g5) (oB H1 (decide_eq_true g6) .nil)))))))⟩
theorem cv_a_5 (N:Nat) (db n:Nat) (cap:Option Nat) (H:Heap) (x:Nat) (a:Nat) (b:Nat) {H0:Heap} {p0:Int} {H1:Heap} {x0:Int} (g0:some (newV (.i 0) H)=some (.ptr x 0 0 1,H0)) (g1:8 ≤ IntKind.i64.wrap ((b:Int) - (a:Int))) (g2:¬ (50 ≤ IntKind.i64.wrap ((b:Int) - (a:Int)))) (g3:∀ kf,N ≤ kf → callN Tp polSo (kf+1) 111 [.c db n cap,.i (IntKind.i64.wrap ((a:Int)+IntKind.i64.wrap (IntKind.i64.wrap ((IntKind.i64.wrap ((b:Int) - (a:Int)):Int).tdiv 4) * 1))),.i (IntKind.i64.wrap ((a:Int)+IntKind.i64.wrap (IntKind.i64.wrap ((IntKind.i64.wrap ((b:Int) - (a:Int)):Int).tdiv 4) * 2))),.i (IntKind.i64.wrap ((a:Int)+IntKind.i64.wrap (IntKind.i64.wrap ((IntKind.i64.wrap ((b:Int) - (a:Int)):Int).tdiv 4) * 3))),.ptr x 0 0 1,.func 69 [] [.ptr xb 0 0 1]] H0=some (.i p0,H1)) (g4:loadV Tp H1 3 (.ptr x 0 0 1)=some (.i x0)) (g5:¬ (x0=0)) (g6:¬ (x0=12)):RT polSo 102 (sub [] B102) [(0,.c db n cap),(1,.i (a:Int)),(2,.i (b:Int)),(3,.func 69 [] [.ptr xb 0 0 1])] H .ret (env102 (.c db n cap) (.i (a:Int)) (.i (b:Int)) (.func 69 [] [.ptr xb 0 0 1]) (.i p0) (.i 0) (.i (IntKind.i64.wrap ((b:Int) - (a:Int)))) (.ptr x 0 0 1) (.i (IntKind.i64.wrap ((a:Int)+IntKind.i64.wrap (IntKind.i64.wrap ((IntKind.i64.wrap ((b:Int) - (a:Int)):Int).tdiv 4) * 1)))) (.i p0) (.i (IntKind.i64.wrap ((a:Int)+IntKind.i64.wrap (IntKind.i64.wrap ((IntKind.i64.wrap ((b:Int) - (a:Int)):Int).tdiv 4) * 3)))) (.i x0)) H1 :=
  RunsTo.hin N 60 [⟨2,0,.ptr x 0 0 1,H0⟩,⟨6,1,.bool true,H0⟩,⟨7,1,.bool false,H0⟩,⟨11,5,.i p0,H1⟩,⟨12,0,.i x0,H1⟩,⟨14,0,.bool false,H1⟩,⟨16,0,.bool false,H1⟩] fun kf hk=>⟨_,by kernel_rfl,(oC (g0) (oB H0 (decide_eq_true g1) (oB H0 (decide_eq_false g2) (oC (g3 kf (by omega)) (oP H1 g4 (oB H1 (decide_eq_false g5) (oB H1 (decide_eq_false g6) .nil)))))))⟩
noncomputable def B96:Code:=Try.f96.body.getD .skip
abbrev env96 (v0 v2:HV):Env:=[(0,v0),(2,v2)]
theorem xs_a_0 (N:Nat) (db n:Nat) (cap:Option Nat) (H:Heap) (x:Nat)  {x0:Int} {x1:Int} {h0:Int} {h1:Int} {H0:Heap} {x2:Int} {x3:Int} {h2:Int} {h3:Int} {H1:Heap} {x4:Int} {x5:Int} {h4:Int} {h5:Int} {H2:Heap} {x6:Int} (g0:loadV Tp H 123 (.ptr x 0 0 1)=some (.int .u64 x0)) (g1:loadV Tp H 123 (.ptr x 0 0 1)=some (.int .u64 x1)) (g2:binV Tp .shl 123 (.int .u64 x1) (.int .u64 13)=some (.int .u64 h0)) (g3:binV Tp .xor 123 (.int .u64 x0) (.int .u64 h0)=some (.int .u64 h1)) (g4:storeV Tp H 123 (.ptr x 0 0 1) (.int .u64 h1)=some H0) (g5:loadV Tp H0 123 (.ptr x 0 0 1)=some (.int .u64 x2)) (g6:loadV Tp H0 123 (.ptr x 0 0 1)=some (.int .u64 x3)) (g7:binV Tp .shr 123 (.int .u64 x3) (.int .u64 7)=some (.int .u64 h2)) (g8:binV Tp .xor 123 (.int .u64 x2) (.int .u64 h2)=some (.int .u64 h3)) (g9:storeV Tp H0 123 (.ptr x 0 0 1) (.int .u64 h3)=some H1) (g10:loadV Tp H1 123 (.ptr x 0 0 1)=some (.int .u64 x4)) (g11:loadV Tp H1 123 (.ptr x 0 0 1)=some (.int .u64 x5)) (g12:binV Tp .shl 123 (.int .u64 x5) (.int .u64 17)=some (.int .u64 h4)) (g13:binV Tp .xor 123 (.int .u64 x4) (.int .u64 h4)=some (.int .u64 h5)) (g14:storeV Tp H1 123 (.ptr x 0 0 1) (.int .u64 h5)=some H2) (g15:loadV Tp H2 123 (.ptr x 0 0 1)=some (.int .u64 x6)):RT polSo 96 (sub [] B96) [(0,.ptr x 0 0 1)] H .ret (env96 (.ptr x 0 0 1) (.int .u64 x6)) H2 :=
  RunsTo.hin N 60 [⟨1,2,.int .u64 x0,H⟩,⟨1,5,.int .u64 x1,H⟩,⟨1,6,.int .u64 h0,H⟩,⟨1,7,.int .u64 h1,H⟩,⟨1,9,.tuple [],H0⟩,⟨2,2,.int .u64 x2,H0⟩,⟨2,5,.int .u64 x3,H0⟩,⟨2,6,.int .u64 h2,H0⟩,⟨2,7,.int .u64 h3,H0⟩,⟨2,9,.tuple [],H1⟩,⟨3,2,.int .u64 x4,H1⟩,⟨3,5,.int .u64 x5,H1⟩,⟨3,6,.int .u64 h4,H1⟩,⟨3,7,.int .u64 h5,H1⟩,⟨3,9,.tuple [],H2⟩,⟨4,2,.int .u64 x6,H2⟩] fun kf hk=>⟨_,by kernel_rfl,(oP H g0 (oP H g1 (oP H g2 (oP H g3 (oS g4 (oP H0 g5 (oP H0 g6 (oP H0 g7 (oP H0 g8 (oS g9 (oP H1 g10 (oP H1 g11 (oP H1 g12 (oP H1 g13 (oS g14 (oP H2 g15 .nil))))))))))))))))⟩
noncomputable def B101:Code:=Try.f101.body.getD .skip
abbrev env101 (v0 v1 v2 v8 v9 v10 v11 v12:HV):Env:=[(0,v0),(1,v1),(2,v2),(8,v8),(9,v9),(10,v10),(11,v11),(12,v12)]
theorem bk_a_0 (N:Nat) (db n:Nat) (cap:Option Nat) (H:Heap) (x:Nat) (a:Nat) (b:Nat):RT polSo 101 (sub [0] B101) [(0,.c db n cap),(1,.i (a:Int)),(2,.i (b:Int)),(3,.func 69 [] [.ptr xb 0 0 1])] H .normal (env101 (.c db n cap) (.i (a:Int)) (.i (b:Int)) (.i (IntKind.i64.wrap ((b:Int) - (a:Int)))) Ud Ud Ud Ud) H :=
  RunsTo.hin N 60 [] fun kf hk=>⟨_,by kernel_rfl,.nil⟩
theorem bk_b_0 (N:Nat) (db n:Nat) (cap:Option Nat) (H:Heap) (x:Nat) (a:Nat) (b:Nat) (k:Nat) {y9 y10 y11 y12:HV}(g0:8 ≤ (k:Int)):RunsTo Tp polSo 101 (sub [1,0] B101) (env101 (.c db n cap) (.i (a:Int)) (.i (b:Int)) (.i (k:Int)) y9 y10 y11 y12) H .normal [0,1,2,8,9,10,11,12,17] [(0,.c db n cap),(1,.i (a:Int)),(2,.i (b:Int)),(8,.i (k:Int)),(9,y9),(10,y10),(11,y11),(12,y12),(17,.bool true)] H :=
  RunsTo.hin N 60 [⟨1,1,.bool true,H⟩] fun kf hk=>⟨_,by kernel_rfl,(oB H (decide_eq_true g0) .nil)⟩
theorem bk_c_0 (N:Nat) (db n:Nat) (cap:Option Nat) (H:Heap) (x:Nat) (a:Nat) (b:Nat) (k:Nat) {y9 y10 y11 y12:HV} {H0:Heap} {H1:Heap} (g0:some (newV (.int .u64 0) H)=some (.ptr x 0 0 1,H0)) (g1:storeV Tp H0 123 (.ptr x 0 0 1) (.int .u64 (IntKind.u64.wrap (k:Int)))=some H1):RT polSo 101 (sub [1,1,0,0] B101) (env101 (.c db n cap) (.i (a:Int)) (.i (b:Int)) (.i (k:Int)) y9 y10 y11 y12) H .normal (env101 (.c db n cap) (.i (a:Int)) (.i (b:Int)) (.i (k:Int)) (.ptr x 0 0 1) y10 y11 y12) H1 :=
  RunsTo.hin N 60 [⟨2,2,.ptr x 0 0 1,H0⟩,⟨2,3,.tuple [],H1⟩] fun kf hk=>⟨_,by kernel_rfl,(oC (g0) (oS g1 .nil))⟩
theorem bk_d_0 (N:Nat) (db n:Nat) (cap:Option Nat) (H:Heap) (x:Nat) (a:Nat) (b:Nat) (k:Nat) {y10 y11 y12:HV} {u0:Int} {H0:Heap} (g0:∀ kf,N ≤ kf → callN Tp polSo (kf+1) 95 [.i (k:Int)] H=some (.int .u64 u0,H0)):RT polSo 101 (sub [1,1,0,1,0] B101) (env101 (.c db n cap) (.i (a:Int)) (.i (b:Int)) (.i (k:Int)) (.ptr x 0 0 1) y10 y11 y12) H .normal (env101 (.c db n cap) (.i (a:Int)) (.i (b:Int)) (.i (k:Int)) (.ptr x 0 0 1) (.int .u64 u0) y11 y12) H0 :=
  RunsTo.hin N 60 [⟨3,1,.int .u64 u0,H0⟩] fun kf hk=>⟨_,by kernel_rfl,(oC (g0 kf (by omega)) .nil)⟩
theorem bk_e_0 (N:Nat) (db n:Nat) (cap:Option Nat) (H:Heap) (x:Nat) (a:Nat) (b:Nat) (k:Nat) (mo:Int) {y11 y12:HV}:RT polSo 101 (sub [1,1,0,1,1,0] B101) (env101 (.c db n cap) (.i (a:Int)) (.i (b:Int)) (.i (k:Int)) (.ptr x 0 0 1) (.int .u64 mo) y11 y12) H .normal (env101 (.c db n cap) (.i (a:Int)) (.i (b:Int)) (.i (k:Int)) (.ptr x 0 0 1) (.int .u64 mo) (.i (IntKind.i64.wrap (IntKind.i64.wrap ((a:Int)+IntKind.i64.wrap (IntKind.i64.wrap (((k:Int):Int).tdiv 4) * 2)) - 1))) y12) H :=
  RunsTo.hin N 60 [] fun kf hk=>⟨_,by kernel_rfl,.nil⟩
theorem bk_f_0 (N:Nat) (db n:Nat) (cap:Option Nat) (H:Heap) (x:Nat) (a:Nat) (b:Nat) (k:Nat) (mo:Int) (i:Nat) {y12:HV} {u0:Int} {H0:Heap} {h0:Int} {a0:HV} {v0:HV} {a1:HV} {v1:HV} {a2:HV} {H1:Heap} {a3:HV} {H2:Heap} (g0:(i:Int) ≤ IntKind.i64.wrap (IntKind.i64.wrap ((a:Int)+IntKind.i64.wrap (IntKind.i64.wrap (((k:Int):Int).tdiv 4) * 2))+1)) (g1:∀ kf,N ≤ kf → callN Tp polSo (kf+1) 96 [.ptr x 0 0 1] H=some (.int .u64 u0,H0)) (g2:binV Tp .and 82 (.int .u64 u0) (.int .u64 (IntKind.u64.wrap (mo - 1)))=some (.int .u64 h0)) (g3:(k:Int) ≤ IntKind.i64.wrap h0) (g4:idxV Tp 24 (.c db n cap) (.i (IntKind.i64.wrap ((a:Int)+IntKind.i64.wrap (IntKind.i64.wrap h0 - (k:Int)))))=some (a0)) (g5:loadV Tp H0 3 (a0)=some (v0)) (g6:idxV Tp 24 (.c db n cap) (.i (i:Int))=some (a1)) (g7:loadV Tp H0 3 (a1)=some (v1)) (g8:idxV Tp 24 (.c db n cap) (.i (i:Int))=some (a2)) (g9:storeV Tp H0 3 (a2) (v0)=some H1) (g10:idxV Tp 24 (.c db n cap) (.i (IntKind.i64.wrap ((a:Int)+IntKind.i64.wrap (IntKind.i64.wrap h0 - (k:Int)))))=some (a3)) (g11:storeV Tp H1 3 (a3) (v1)=some H2):RT polSo 101 (sub [1,1,0,1,1,1,0,0] B101) (env101 (.c db n cap) (.i (a:Int)) (.i (b:Int)) (.i (k:Int)) (.ptr x 0 0 1) (.int .u64 mo) (.i (i:Int)) y12) H .normal (env101 (.c db n cap) (.i (a:Int)) (.i (b:Int)) (.i (k:Int)) (.ptr x 0 0 1) (.int .u64 mo) (.i (IntKind.i64.wrap ((i:Int)+1))) (.i (IntKind.i64.wrap (IntKind.i64.wrap h0 - (k:Int))))) H2 :=
  RunsTo.hin N 60 [⟨5,7,.bool true,H⟩,⟨7,0,.int .u64 u0,H0⟩,⟨7,3,.int .u64 h0,H0⟩,⟨8,2,.bool true,H0⟩,⟨10,10,a0,H0⟩,⟨10,11,v0,H0⟩,⟨10,14,a1,H0⟩,⟨10,15,v1,H0⟩,⟨10,16,a2,H0⟩,⟨10,17,.tuple [],H1⟩,⟨10,18,a3,H1⟩,⟨10,19,.tuple [],H2⟩] fun kf hk=>⟨_,by kernel_rfl,(oB H (decide_eq_true g0) (oC (g1 kf (by omega)) (oP H0 g2 (oB H0 (decide_eq_true g3) (oP H0 g4 (oP H0 g5 (oP H0 g6 (oP H0 g7 (oP H0 g8 (oS g9 (oP H1 g10 (oS g11 .nil))))))))))))⟩
theorem bk_f_1 (N:Nat) (db n:Nat) (cap:Option Nat) (H:Heap) (x:Nat) (a:Nat) (b:Nat) (k:Nat) (mo:Int) (i:Nat) {y12:HV} {u0:Int} {H0:Heap} {h0:Int} {a0:HV} {v0:HV} {a1:HV} {v1:HV} {a2:HV} {H1:Heap} {a3:HV} {H2:Heap} (g0:(i:Int) ≤ IntKind.i64.wrap (IntKind.i64.wrap ((a:Int)+IntKind.i64.wrap (IntKind.i64.wrap (((k:Int):Int).tdiv 4) * 2))+1)) (g1:∀ kf,N ≤ kf → callN Tp polSo (kf+1) 96 [.ptr x 0 0 1] H=some (.int .u64 u0,H0)) (g2:binV Tp .and 82 (.int .u64 u0) (.int .u64 (IntKind.u64.wrap (mo - 1)))=some (.int .u64 h0)) (g3:¬ ((k:Int) ≤ IntKind.i64.wrap h0)) (g4:idxV Tp 24 (.c db n cap) (.i (IntKind.i64.wrap ((a:Int)+IntKind.i64.wrap h0)))=some (a0)) (g5:loadV Tp H0 3 (a0)=some (v0)) (g6:idxV Tp 24 (.c db n cap) (.i (i:Int))=some (a1)) (g7:loadV Tp H0 3 (a1)=some (v1)) (g8:idxV Tp 24 (.c db n cap) (.i (i:Int))=some (a2)) (g9:storeV Tp H0 3 (a2) (v0)=some H1) (g10:idxV Tp 24 (.c db n cap) (.i (IntKind.i64.wrap ((a:Int)+IntKind.i64.wrap h0)))=some (a3)) (g11:storeV Tp H1 3 (a3) (v1)=some H2):RT polSo 101 (sub [1,1,0,1,1,1,0,0] B101) (env101 (.c db n cap) (.i (a:Int)) (.i (b:Int)) (.i (k:Int)) (.ptr x 0 0 1) (.int .u64 mo) (.i (i:Int)) y12) H .normal (env101 (.c db n cap) (.i (a:Int)) (.i (b:Int)) (.i (k:Int)) (.ptr x 0 0 1) (.int .u64 mo) (.i (IntKind.i64.wrap ((i:Int)+1))) (.i (IntKind.i64.wrap h0))) H2 :=
  RunsTo.hin N 60 [⟨5,7,.bool true,H⟩,⟨7,0,.int .u64 u0,H0⟩,⟨7,3,.int .u64 h0,H0⟩,⟨8,2,.bool false,H0⟩,⟨10,10,a0,H0⟩,⟨10,11,v0,H0⟩,⟨10,14,a1,H0⟩,⟨10,15,v1,H0⟩,⟨10,16,a2,H0⟩,⟨10,17,.tuple [],H1⟩,⟨10,18,a3,H1⟩,⟨10,19,.tuple [],H2⟩] fun kf hk=>⟨_,by kernel_rfl,(oB H (decide_eq_true g0) (oC (g1 kf (by omega)) (oP H0 g2 (oB H0 (decide_eq_false g3) (oP H0 g4 (oP H0 g5 (oP H0 g6 (oP H0 g7 (oP H0 g8 (oS g9 (oP H1 g10 (oS g11 .nil))))))))))))⟩
theorem bk_f_2 (N:Nat) (db n:Nat) (cap:Option Nat) (H:Heap) (x:Nat) (a:Nat) (b:Nat) (k:Nat) (mo:Int) (i:Nat) {y12:HV}(g0:¬ ((i:Int) ≤ IntKind.i64.wrap (IntKind.i64.wrap ((a:Int)+IntKind.i64.wrap (IntKind.i64.wrap (((k:Int):Int).tdiv 4) * 2))+1))):RT polSo 101 (sub [1,1,0,1,1,1,0,0] B101) (env101 (.c db n cap) (.i (a:Int)) (.i (b:Int)) (.i (k:Int)) (.ptr x 0 0 1) (.int .u64 mo) (.i (i:Int)) y12) H (.exit 0) (env101 (.c db n cap) (.i (a:Int)) (.i (b:Int)) (.i (k:Int)) (.ptr x 0 0 1) (.int .u64 mo) (.i (i:Int)) y12) H :=
  RunsTo.hin N 60 [⟨5,7,.bool false,H⟩] fun kf hk=>⟨_,by kernel_rfl,(oB H (decide_eq_false g0) .nil)⟩
noncomputable def B88:Code:=Try.f88.body.getD .skip
abbrev env88 (v0 v1 v2 v3 v4 v10 v11 v12 v13 v14 v15 v16 v17 v18 v19 v20:HV):Env:=[(0,v0),(1,v1),(2,v2),(3,v3),(4,v4),(10,v10),(11,v11),(12,v12),(13,v13),(14,v14),(15,v15),(16,v16),(17,v17),(18,v18),(19,v19),(20,v20)]
theorem pq_a_0 (N:Nat) (db n:Nat) (cap:Option Nat) (H:Heap) (x:Nat) (a:Nat) (b:Nat) (lim:Int):RT polSo 88 (sub [0] B88) [(0,.c db n cap),(1,.i (a:Int)),(2,.i (b:Int)),(3,.i lim),(4,.func 69 [] [.ptr xb 0 0 1])] H .normal (env88 (.c db n cap) (.i (a:Int)) (.i (b:Int)) (.i lim) (.func 69 [] [.ptr xb 0 0 1]) (.bool true) Ud Ud Ud Ud Ud Ud Ud Ud Ud Ud) H :=
  RunsTo.hin N 60 [] fun kf hk=>⟨_,by kernel_rfl,.nil⟩
theorem pq_b_0 (N:Nat) (db n:Nat) (cap:Option Nat) (H:Heap) (x:Nat) (a:Nat) (b:Nat) (lim:Int) {y10 y11 y12 y13 y14 y15 y16 y17 y18 y19 y20:HV}:RT polSo 88 (sub [1,0] B88) (env88 (.c db n cap) (.i (a:Int)) (.i (b:Int)) (.i lim) (.func 69 [] [.ptr xb 0 0 1]) y10 y11 y12 y13 y14 y15 y16 y17 y18 y19 y20) H .normal (env88 (.c db n cap) (.i (a:Int)) (.i (b:Int)) (.i lim) (.func 69 [] [.ptr xb 0 0 1]) y10 (.bool true) y12 y13 y14 y15 y16 y17 y18 y19 y20) H :=
  RunsTo.hin N 60 [] fun kf hk=>⟨_,by kernel_rfl,.nil⟩
theorem pq_c_0 (N:Nat) (db n:Nat) (cap:Option Nat) (H:Heap) (x:Nat) (a:Nat) (b:Nat) (lim:Int) {y10 y11 y12 y13 y14 y15 y16 y17 y18 y19 y20:HV}:RT polSo 88 (sub [1,1,0,0,0,0] B88) (env88 (.c db n cap) (.i (a:Int)) (.i (b:Int)) (.i lim) (.func 69 [] [.ptr xb 0 0 1]) y10 y11 y12 y13 y14 y15 y16 y17 y18 y19 y20) H .normal (env88 (.c db n cap) (.i (a:Int)) (.i (b:Int)) (.i lim) (.func 69 [] [.ptr xb 0 0 1]) y10 y11 (.i (IntKind.i64.wrap ((b:Int) - (a:Int)))) y13 y14 y15 y16 y17 y18 y19 y20) H :=
  RunsTo.hin N 60 [] fun kf hk=>⟨_,by kernel_rfl,.nil⟩
theorem pq_d_0 (N:Nat) (db n:Nat) (cap:Option Nat) (H:Heap) (x:Nat) (a:Nat) (b:Nat) (lim:Int) (k:Nat) {y10 y11 y13 y14 y15 y16 y17 y18 y19 y20:HV} {H0:Heap} (g0:(k:Int) ≤ 12) (g1:∀ kf,N ≤ kf → callN Tp polSo (kf+1) 99 [.c db n cap,.i (a:Int),.i (b:Int),.func 69 [] [.ptr xb 0 0 1]] H=some (.tuple [],H0)):RT polSo 88 (sub [1,1,0,0,0,1,0] B88) (env88 (.c db n cap) (.i (a:Int)) (.i (b:Int)) (.i lim) (.func 69 [] [.ptr xb 0 0 1]) y10 y11 (.i (k:Int)) y13 y14 y15 y16 y17 y18 y19 y20) H .ret (env88 (.c db n cap) (.i (a:Int)) (.i (b:Int)) (.i lim) (.func 69 [] [.ptr xb 0 0 1]) y10 y11 (.i (k:Int)) y13 y14 y15 y16 y17 y18 y19 y20) H0 :=
  RunsTo.hin N 60 [⟨3,1,.bool true,H⟩,⟨4,4,.tuple [],H0⟩] fun kf hk=>⟨_,by kernel_rfl,(oB H (decide_eq_true g0) (oC (g1 kf (by omega)) .nil))⟩
theorem pq_d_1 (N:Nat) (db n:Nat) (cap:Option Nat) (H:Heap) (x:Nat) (a:Nat) (b:Nat) (lim:Int) (k:Nat) {y10 y11 y13 y14 y15 y16 y17 y18 y19 y20:HV}(g0:¬ ((k:Int) ≤ 12)):RT polSo 88 (sub [1,1,0,0,0,1,0] B88) (env88 (.c db n cap) (.i (a:Int)) (.i (b:Int)) (.i lim) (.func 69 [] [.ptr xb 0 0 1]) y10 y11 (.i (k:Int)) y13 y14 y15 y16 y17 y18 y19 y20) H .normal (env88 (.c db n cap) (.i (a:Int)) (.i (b:Int)) (.i lim) (.func 69 [] [.ptr xb 0 0 1]) y10 y11 (.i (k:Int)) y13 y14 y15 y16 y17 y18 y19 y20) H :=
  RunsTo.hin N 60 [⟨3,1,.bool false,H⟩] fun kf hk=>⟨_,by kernel_rfl,(oB H (decide_eq_false g0) .nil)⟩
theorem pq_e_0 (N:Nat) (db n:Nat) (cap:Option Nat) (H:Heap) (x:Nat) (a:Nat) (b:Nat) (lim:Int) {y10 y11 y12 y13 y14 y15 y16 y17 y18 y19 y20:HV} {H0:Heap} (g0:lim=0) (g1:∀ kf,N ≤ kf → callN Tp polSo (kf+1) 100 [.c db n cap,.i (a:Int),.i (b:Int),.func 69 [] [.ptr xb 0 0 1]] H=some (.tuple [],H0)):RT polSo 88 (sub [1,1,0,0,0,1,1,0] B88) (env88 (.c db n cap) (.i (a:Int)) (.i (b:Int)) (.i lim) (.func 69 [] [.ptr xb 0 0 1]) y10 y11 y12 y13 y14 y15 y16 y17 y18 y19 y20) H .ret (env88 (.c db n cap) (.i (a:Int)) (.i (b:Int)) (.i lim) (.func 69 [] [.ptr xb 0 0 1]) y10 y11 y12 y13 y14 y15 y16 y17 y18 y19 y20) H0 :=
  RunsTo.hin N 60 [⟨5,1,.bool true,H⟩,⟨6,4,.tuple [],H0⟩] fun kf hk=>⟨_,by kernel_rfl,(oB H (decide_eq_true g0) (oC (g1 kf (by omega)) .nil))⟩
theorem pq_e_1 (N:Nat) (db n:Nat) (cap:Option Nat) (H:Heap) (x:Nat) (a:Nat) (b:Nat) (lim:Int) {y10 y11 y12 y13 y14 y15 y16 y17 y18 y19 y20:HV}(g0:¬ (lim=0)):RT polSo 88 (sub [1,1,0,0,0,1,1,0] B88) (env88 (.c db n cap) (.i (a:Int)) (.i (b:Int)) (.i lim) (.func 69 [] [.ptr xb 0 0 1]) y10 y11 y12 y13 y14 y15 y16 y17 y18 y19 y20) H .normal (env88 (.c db n cap) (.i (a:Int)) (.i (b:Int)) (.i lim) (.func 69 [] [.ptr xb 0 0 1]) y10 y11 y12 y13 y14 y15 y16 y17 y18 y19 y20) H :=
  RunsTo.hin N 60 [⟨5,1,.bool false,H⟩] fun kf hk=>⟨_,by kernel_rfl,(oB H (decide_eq_false g0) .nil)⟩
theorem pq_f_0 (N:Nat) (db n:Nat) (cap:Option Nat) (H:Heap) (x:Nat) (a:Nat) (b:Nat) (lim:Int) {y11 y12 y13 y14 y15 y16 y17 y18 y19 y20:HV}:RT polSo 88 (sub [1,1,0,0,0,1,1,1,0] B88) (env88 (.c db n cap) (.i (a:Int)) (.i (b:Int)) (.i lim) (.func 69 [] [.ptr xb 0 0 1]) (.bool true) y11 y12 y13 y14 y15 y16 y17 y18 y19 y20) H .normal (env88 (.c db n cap) (.i (a:Int)) (.i (b:Int)) (.i lim) (.func 69 [] [.ptr xb 0 0 1]) (.bool true) y11 y12 y13 y14 y15 y16 y17 y18 y19 y20) H :=
  RunsTo.hin N 60 [] fun kf hk=>⟨_,by kernel_rfl,.nil⟩
theorem pq_g_0 (N:Nat) (db n:Nat) (cap:Option Nat) (H:Heap) (x:Nat) (a:Nat) (b:Nat) (lim:Int) {y11 y12 y13 y14 y15 y16 y17 y18 y19 y20:HV} {H0:Heap} (g0:∀ kf,N ≤ kf → callN Tp polSo (kf+1) 101 [.c db n cap,.i (a:Int),.i (b:Int),.func 69 [] [.ptr xb 0 0 1]] H=some (.tuple [],H0)):RT polSo 88 (sub [1,1,0,0,0,1,1,1,0] B88) (env88 (.c db n cap) (.i (a:Int)) (.i (b:Int)) (.i lim) (.func 69 [] [.ptr xb 0 0 1]) (.bool false) y11 y12 y13 y14 y15 y16 y17 y18 y19 y20) H .normal (env88 (.c db n cap) (.i (a:Int)) (.i (b:Int)) (.i (IntKind.i64.wrap (lim - 1))) (.func 69 [] [.ptr xb 0 0 1]) (.bool false) y11 y12 y13 y14 y15 y16 y17 y18 y19 y20) H0 :=
  RunsTo.hin N 60 [⟨8,4,.tuple [],H0⟩] fun kf hk=>⟨_,by kernel_rfl,(oC (g0 kf (by omega)) .nil)⟩
theorem pq_h_0 (N:Nat) (db n:Nat) (cap:Option Nat) (H:Heap) (x:Nat) (a:Nat) (b:Nat) (lim:Int) {y10 y11 y12 y13 y14 y15 y16 y17 y18 y19 y20:HV} {p0:Int} {p1:Int} {H0:Heap} (g0:∀ kf,N ≤ kf → callN Tp polSo (kf+1) 102 [.c db n cap,.i (a:Int),.i (b:Int),.func 69 [] [.ptr xb 0 0 1]] H=some (.tuple [.i p0,.i p1],H0)):RT polSo 88 (sub [1,1,0,0,0,1,1,1,1,0] B88) (env88 (.c db n cap) (.i (a:Int)) (.i (b:Int)) (.i lim) (.func 69 [] [.ptr xb 0 0 1]) y10 y11 y12 y13 y14 y15 y16 y17 y18 y19 y20) H .normal (env88 (.c db n cap) (.i (a:Int)) (.i (b:Int)) (.i lim) (.func 69 [] [.ptr xb 0 0 1]) y10 y11 y12 (.i p0) (.i p1) y15 y16 y17 y18 y19 y20) H0 :=
  RunsTo.hin N 60 [⟨10,4,.tuple [.i p0,.i p1],H0⟩] fun kf hk=>⟨_,by kernel_rfl,(oC (g0 kf (by omega)) .nil)⟩
theorem pq_i_0 (N:Nat) (db n:Nat) (cap:Option Nat) (H:Heap) (x:Nat) (a:Nat) (b:Nat) (lim:Int) (p:Nat) (h:Int) {y10 y11 y12 y15 y16 y17 y18 y19 y20:HV} {H0:Heap} (g0:h=2) (g1:∀ kf,N ≤ kf → callN Tp polSo (kf+1) 103 [.c db n cap,.i (a:Int),.i (b:Int),.func 69 [] [.ptr xb 0 0 1]] H=some (.tuple [],H0)):RT polSo 88 (sub [1,1,0,0,0,1,1,1,1,1,0] B88) (env88 (.c db n cap) (.i (a:Int)) (.i (b:Int)) (.i lim) (.func 69 [] [.ptr xb 0 0 1]) y10 y11 y12 (.i (p:Int)) (.i h) y15 y16 y17 y18 y19 y20) H .normal (env88 (.c db n cap) (.i (a:Int)) (.i (b:Int)) (.i lim) (.func 69 [] [.ptr xb 0 0 1]) y10 y11 y12 (.i (IntKind.i64.wrap (IntKind.i64.wrap ((b:Int) - 1) - IntKind.i64.wrap ((p:Int) - (a:Int))))) (.i 1) y15 y16 y17 y18 y19 y20) H0 :=
  RunsTo.hin N 60 [⟨11,1,.bool true,H⟩,⟨12,4,.tuple [],H0⟩] fun kf hk=>⟨_,by kernel_rfl,(oB H (decide_eq_true g0) (oC (g1 kf (by omega)) .nil))⟩
theorem pq_i_1 (N:Nat) (db n:Nat) (cap:Option Nat) (H:Heap) (x:Nat) (a:Nat) (b:Nat) (lim:Int) (p:Nat) (h:Int) {y10 y11 y12 y15 y16 y17 y18 y19 y20:HV}(g0:¬ (h=2)):RT polSo 88 (sub [1,1,0,0,0,1,1,1,1,1,0] B88) (env88 (.c db n cap) (.i (a:Int)) (.i (b:Int)) (.i lim) (.func 69 [] [.ptr xb 0 0 1]) y10 y11 y12 (.i (p:Int)) (.i h) y15 y16 y17 y18 y19 y20) H .normal (env88 (.c db n cap) (.i (a:Int)) (.i (b:Int)) (.i lim) (.func 69 [] [.ptr xb 0 0 1]) y10 y11 y12 (.i (p:Int)) (.i h) y15 y16 y17 y18 y19 y20) H :=
  RunsTo.hin N 60 [⟨11,1,.bool false,H⟩] fun kf hk=>⟨_,by kernel_rfl,(oB H (decide_eq_false g0) .nil)⟩
theorem pq_j_0 (N:Nat) (db n:Nat) (cap:Option Nat) (H:Heap) (x:Nat) (a:Nat) (b:Nat) (lim:Int) (h:Int) {y12 y13 y15 y16 y17 y18 y19 y20:HV} {H0:Heap} (g0:h=1) (g1:∀ kf,N ≤ kf → callN Tp polSo (kf+1) 104 [.c db n cap,.i (a:Int),.i (b:Int),.func 69 [] [.ptr xb 0 0 1]] H=some (.bool true,H0)):RT polSo 88 (sub [1,1,0,0,0,1,1,1,1,1,1,0] B88) (env88 (.c db n cap) (.i (a:Int)) (.i (b:Int)) (.i lim) (.func 69 [] [.ptr xb 0 0 1]) (.bool true) (.bool true) y12 y13 (.i h) y15 y16 y17 y18 y19 y20) H .ret (env88 (.c db n cap) (.i (a:Int)) (.i (b:Int)) (.i lim) (.func 69 [] [.ptr xb 0 0 1]) (.bool true) (.bool true) y12 y13 (.i h) y15 y16 y17 y18 y19 y20) H0 :=
  RunsTo.hin N 60 [⟨15,6,.bool true,H⟩,⟨16,4,.bool true,H0⟩] fun kf hk=>⟨_,by kernel_rfl,(oB H (decide_eq_true g0) (oC (g1 kf (by omega)) .nil))⟩
theorem pq_j_1 (N:Nat) (db n:Nat) (cap:Option Nat) (H:Heap) (x:Nat) (a:Nat) (b:Nat) (lim:Int) (h:Int) {y12 y13 y15 y16 y17 y18 y19 y20:HV} {H0:Heap} (g0:h=1) (g1:∀ kf,N ≤ kf → callN Tp polSo (kf+1) 104 [.c db n cap,.i (a:Int),.i (b:Int),.func 69 [] [.ptr xb 0 0 1]] H=some (.bool false,H0)):RT polSo 88 (sub [1,1,0,0,0,1,1,1,1,1,1,0] B88) (env88 (.c db n cap) (.i (a:Int)) (.i (b:Int)) (.i lim) (.func 69 [] [.ptr xb 0 0 1]) (.bool true) (.bool true) y12 y13 (.i h) y15 y16 y17 y18 y19 y20) H .normal (env88 (.c db n cap) (.i (a:Int)) (.i (b:Int)) (.i lim) (.func 69 [] [.ptr xb 0 0 1]) (.bool true) (.bool true) y12 y13 (.i h) y15 y16 y17 y18 y19 y20) H0 :=
  RunsTo.hin N 60 [⟨15,6,.bool true,H⟩,⟨16,4,.bool false,H0⟩] fun kf hk=>⟨_,by kernel_rfl,(oB H (decide_eq_true g0) (oC (g1 kf (by omega)) .nil))⟩
theorem pq_j_2 (N:Nat) (db n:Nat) (cap:Option Nat) (H:Heap) (x:Nat) (a:Nat) (b:Nat) (lim:Int) (h:Int) {y12 y13 y15 y16 y17 y18 y19 y20:HV}(g0:¬ (h=1)):RT polSo 88 (sub [1,1,0,0,0,1,1,1,1,1,1,0] B88) (env88 (.c db n cap) (.i (a:Int)) (.i (b:Int)) (.i lim) (.func 69 [] [.ptr xb 0 0 1]) (.bool true) (.bool true) y12 y13 (.i h) y15 y16 y17 y18 y19 y20) H .normal (env88 (.c db n cap) (.i (a:Int)) (.i (b:Int)) (.i lim) (.func 69 [] [.ptr xb 0 0 1]) (.bool true) (.bool true) y12 y13 (.i h) y15 y16 y17 y18 y19 y20) H :=
  RunsTo.hin N 60 [⟨15,6,.bool false,H⟩] fun kf hk=>⟨_,by kernel_rfl,(oB H (decide_eq_false g0) .nil)⟩
theorem pq_k_0 (N:Nat) (db n:Nat) (cap:Option Nat) (H:Heap) (x:Nat) (a:Nat) (b:Nat) (lim:Int) (h:Int) {y12 y13 y15 y16 y17 y18 y19 y20:HV}:RT polSo 88 (sub [1,1,0,0,0,1,1,1,1,1,1,0] B88) (env88 (.c db n cap) (.i (a:Int)) (.i (b:Int)) (.i lim) (.func 69 [] [.ptr xb 0 0 1]) (.bool true) (.bool false) y12 y13 (.i h) y15 y16 y17 y18 y19 y20) H .normal (env88 (.c db n cap) (.i (a:Int)) (.i (b:Int)) (.i lim) (.func 69 [] [.ptr xb 0 0 1]) (.bool true) (.bool false) y12 y13 (.i h) y15 y16 y17 y18 y19 y20) H :=
  RunsTo.hin N 60 [] fun kf hk=>⟨_,by kernel_rfl,.nil⟩
theorem pq_l_0 (N:Nat) (db n:Nat) (cap:Option Nat) (H:Heap) (x:Nat) (a:Nat) (b:Nat) (lim:Int) (h:Int) {y11 y12 y13 y15 y16 y17 y18 y19 y20:HV}:RT polSo 88 (sub [1,1,0,0,0,1,1,1,1,1,1,0] B88) (env88 (.c db n cap) (.i (a:Int)) (.i (b:Int)) (.i lim) (.func 69 [] [.ptr xb 0 0 1]) (.bool false) y11 y12 y13 (.i h) y15 y16 y17 y18 y19 y20) H .normal (env88 (.c db n cap) (.i (a:Int)) (.i (b:Int)) (.i lim) (.func 69 [] [.ptr xb 0 0 1]) (.bool false) y11 y12 y13 (.i h) y15 y16 y17 y18 y19 y20) H :=
  RunsTo.hin N 60 [] fun kf hk=>⟨_,by kernel_rfl,.nil⟩
theorem pq_m_0 (N:Nat) (db n:Nat) (cap:Option Nat) (H:Heap) (x:Nat) (a:Nat) (b:Nat) (lim:Int) (p:Nat) {y10 y11 y12 y14 y15 y16 y17 y18 y19 y20:HV} {a0:HV} {v0:HV} {a1:HV} {v1:HV} {c0:Int} {H0:Heap} (g0:0 < (a:Int)) (g1:idxV Tp 24 (.c db n cap) (.i (IntKind.i64.wrap ((a:Int) - 1)))=some (a0)) (g2:loadV Tp H 3 (a0)=some (v0)) (g3:idxV Tp 24 (.c db n cap) (.i (p:Int))=some (a1)) (g4:loadV Tp H 3 (a1)=some (v1)) (g5:∀ kf,N ≤ kf → callN Tp polSo (kf+1) 69 [v0,v1,.ptr xb 0 0 1] H=some (.i c0,H0)) (g6:c0 < 0):RT polSo 88 (sub [1,1,0,0,0,1,1,1,1,1,1,1,0] B88) (env88 (.c db n cap) (.i (a:Int)) (.i (b:Int)) (.i lim) (.func 69 [] [.ptr xb 0 0 1]) y10 y11 y12 (.i (p:Int)) y14 y15 y16 y17 y18 y19 y20) H .normal (env88 (.c db n cap) (.i (a:Int)) (.i (b:Int)) (.i lim) (.func 69 [] [.ptr xb 0 0 1]) y10 y11 y12 (.i (p:Int)) y14 y15 y16 y17 y18 y19 y20) H0 :=
  RunsTo.hin N 60 [⟨17,1,.bool true,H⟩,⟨17,7,a0,H⟩,⟨17,8,v0,H⟩,⟨17,11,a1,H⟩,⟨17,12,v1,H⟩,⟨17,13,.i c0,H0⟩,⟨17,14,.bool true,H0⟩] fun kf hk=>⟨_,by kernel_rfl,(oB H (decide_eq_true g0) (oP H g1 (oP H g2 (oP H g3 (oP H g4 (oC (g5 kf (by omega)) (oB H0 (decide_eq_true g6) .nil)))))))⟩
theorem pq_m_1 (N:Nat) (db n:Nat) (cap:Option Nat) (H:Heap) (x:Nat) (a:Nat) (b:Nat) (lim:Int) (p:Nat) {y10 y11 y12 y14 y15 y16 y17 y18 y19 y20:HV} {a0:HV} {v0:HV} {a1:HV} {v1:HV} {c0:Int} {H0:Heap} {m0:Int} {H1:Heap} (g0:0 < (a:Int)) (g1:idxV Tp 24 (.c db n cap) (.i (IntKind.i64.wrap ((a:Int) - 1)))=some (a0)) (g2:loadV Tp H 3 (a0)=some (v0)) (g3:idxV Tp 24 (.c db n cap) (.i (p:Int))=some (a1)) (g4:loadV Tp H 3 (a1)=some (v1)) (g5:∀ kf,N ≤ kf → callN Tp polSo (kf+1) 69 [v0,v1,.ptr xb 0 0 1] H=some (.i c0,H0)) (g6:¬ (c0 < 0)) (g7:∀ kf,N ≤ kf → callN Tp polSo (kf+1) 105 [.c db n cap,.i (a:Int),.i (b:Int),.i (p:Int),.func 69 [] [.ptr xb 0 0 1]] H0=some (.i m0,H1)):RT polSo 88 (sub [1,1,0,0,0,1,1,1,1,1,1,1,0] B88) (env88 (.c db n cap) (.i (a:Int)) (.i (b:Int)) (.i lim) (.func 69 [] [.ptr xb 0 0 1]) y10 y11 y12 (.i (p:Int)) y14 y15 y16 y17 y18 y19 y20) H (.exit 1) (env88 (.c db n cap) (.i m0) (.i (b:Int)) (.i lim) (.func 69 [] [.ptr xb 0 0 1]) y10 y11 y12 (.i (p:Int)) y14 (.i m0) y16 y17 y18 y19 y20) H1 :=
  RunsTo.hin N 60 [⟨17,1,.bool true,H⟩,⟨17,7,a0,H⟩,⟨17,8,v0,H⟩,⟨17,11,a1,H⟩,⟨17,12,v1,H⟩,⟨17,13,.i c0,H0⟩,⟨17,14,.bool false,H0⟩,⟨18,5,.i m0,H1⟩] fun kf hk=>⟨_,by kernel_rfl,(oB H (decide_eq_true g0) (oP H g1 (oP H g2 (oP H g3 (oP H g4 (oC (g5 kf (by omega)) (oB H0 (decide_eq_false g6) (oC (g7 kf (by omega)) .nil))))))))⟩
theorem pq_m_2 (N:Nat) (db n:Nat) (cap:Option Nat) (H:Heap) (x:Nat) (a:Nat) (b:Nat) (lim:Int) (p:Nat) {y10 y11 y12 y14 y15 y16 y17 y18 y19 y20:HV}(g0:¬ (0 < (a:Int))):RT polSo 88 (sub [1,1,0,0,0,1,1,1,1,1,1,1,0] B88) (env88 (.c db n cap) (.i (a:Int)) (.i (b:Int)) (.i lim) (.func 69 [] [.ptr xb 0 0 1]) y10 y11 y12 (.i (p:Int)) y14 y15 y16 y17 y18 y19 y20) H .normal (env88 (.c db n cap) (.i (a:Int)) (.i (b:Int)) (.i lim) (.func 69 [] [.ptr xb 0 0 1]) y10 y11 y12 (.i (p:Int)) y14 y15 y16 y17 y18 y19 y20) H :=
  RunsTo.hin N 60 [⟨17,1,.bool false,H⟩] fun kf hk=>⟨_,by kernel_rfl,(oB H (decide_eq_false g0) .nil)⟩
theorem pq_n_0 (N:Nat) (db n:Nat) (cap:Option Nat) (H:Heap) (x:Nat) (a:Nat) (b:Nat) (lim:Int) (p:Nat) {y10 y11 y12 y14 y15 y16 y17 y18 y19 y20:HV} {m0:Int} {bb0:Bool} {H0:Heap} (g0:∀ kf,N ≤ kf → callN Tp polSo (kf+1) 106 [.c db n cap,.i (a:Int),.i (b:Int),.i (p:Int),.func 69 [] [.ptr xb 0 0 1]] H=some (.tuple [.i m0,.bool bb0],H0)):RT polSo 88 (sub [1,1,0,0,0,1,1,1,1,1,1,1,1,0] B88) (env88 (.c db n cap) (.i (a:Int)) (.i (b:Int)) (.i lim) (.func 69 [] [.ptr xb 0 0 1]) y10 y11 y12 (.i (p:Int)) y14 y15 y16 y17 y18 y19 y20) H .normal (env88 (.c db n cap) (.i (a:Int)) (.i (b:Int)) (.i lim) (.func 69 [] [.ptr xb 0 0 1]) y10 y11 y12 (.i (p:Int)) y14 y15 (.i m0) (.bool bb0) y18 y19 y20) H0 :=
  RunsTo.hin N 60 [⟨20,5,.tuple [.i m0,.bool bb0],H0⟩] fun kf hk=>⟨_,by kernel_rfl,(oC (g0 kf (by omega)) .nil)⟩
theorem pq_o_0 (N:Nat) (db n:Nat) (cap:Option Nat) (H:Heap) (x:Nat) (a:Nat) (b:Nat) (lim:Int) {y10 y11 y12 y13 y14 y15 y16 y17 y18 y19 y20:HV}:RT polSo 88 (sub [1,1,0,0,0,1,1,1,1,1,1,1,1,1,0] B88) (env88 (.c db n cap) (.i (a:Int)) (.i (b:Int)) (.i lim) (.func 69 [] [.ptr xb 0 0 1]) y10 y11 y12 y13 y14 y15 y16 y17 y18 y19 y20) H .normal (env88 (.c db n cap) (.i (a:Int)) (.i (b:Int)) (.i lim) (.func 69 [] [.ptr xb 0 0 1]) y10 y17 y12 y13 y14 y15 y16 y17 y18 y19 y20) H :=
  RunsTo.hin N 60 [] fun kf hk=>⟨_,by kernel_rfl,.nil⟩
theorem pq_p_0 (N:Nat) (db n:Nat) (cap:Option Nat) (H:Heap) (x:Nat) (a:Nat) (b:Nat) (lim:Int) (q:Nat) {y10 y11 y12 y13 y14 y15 y17 y18 y19 y20:HV}:RT polSo 88 (sub [1,1,0,0,0,1,1,1,1,1,1,1,1,1,1,0] B88) (env88 (.c db n cap) (.i (a:Int)) (.i (b:Int)) (.i lim) (.func 69 [] [.ptr xb 0 0 1]) y10 y11 y12 y13 y14 y15 (.i (q:Int)) y17 y18 y19 y20) H .normal (env88 (.c db n cap) (.i (a:Int)) (.i (b:Int)) (.i lim) (.func 69 [] [.ptr xb 0 0 1]) y10 y11 y12 y13 y14 y15 (.i (q:Int)) y17 (.i (IntKind.i64.wrap ((q:Int) - (a:Int)))) (.i (IntKind.i64.wrap ((b:Int) - (q:Int)))) y20) H :=
  RunsTo.hin N 60 [] fun kf hk=>⟨_,by kernel_rfl,.nil⟩
theorem pq_q_0 (N:Nat) (db n:Nat) (cap:Option Nat) (H:Heap) (x:Nat) (a:Nat) (b:Nat) (lim:Int) (k:Nat) {y10 y11 y13 y14 y15 y16 y17 y18 y19 y20:HV}:RT polSo 88 (sub [1,1,0,0,0,1,1,1,1,1,1,1,1,1,1,1,0] B88) (env88 (.c db n cap) (.i (a:Int)) (.i (b:Int)) (.i lim) (.func 69 [] [.ptr xb 0 0 1]) y10 y11 (.i (k:Int)) y13 y14 y15 y16 y17 y18 y19 y20) H .normal (env88 (.c db n cap) (.i (a:Int)) (.i (b:Int)) (.i lim) (.func 69 [] [.ptr xb 0 0 1]) y10 y11 (.i (k:Int)) y13 y14 y15 y16 y17 y18 y19 (.i (IntKind.i64.wrap (((k:Int):Int).tdiv 8)))) H :=
  RunsTo.hin N 60 [] fun kf hk=>⟨_,by kernel_rfl,.nil⟩
theorem pq_r_0 (N:Nat) (db n:Nat) (cap:Option Nat) (H:Heap) (x:Nat) (a:Nat) (b:Nat) (lim:Int) (q:Nat) (u:Int) (v:Int) (w:Int) {y10 y11 y12 y13 y14 y15 y17:HV} {H0:Heap} (g0:u < v) (g1:w ≤ u) (g2:∀ kf,N ≤ kf → callN Tp polSo (kf+1) 88 [.c db n cap,.i (a:Int),.i (q:Int),.i lim,.func 69 [] [.ptr xb 0 0 1]] H=some (.tuple [],H0)):RT polSo 88 (sub [1,1,0,0,0,1,1,1,1,1,1,1,1,1,1,1,1] B88) (env88 (.c db n cap) (.i (a:Int)) (.i (b:Int)) (.i lim) (.func 69 [] [.ptr xb 0 0 1]) y10 y11 y12 y13 y14 y15 (.i (q:Int)) y17 (.i u) (.i v) (.i w)) H .normal (env88 (.c db n cap) (.i (IntKind.i64.wrap ((q:Int)+1))) (.i (b:Int)) (.i lim) (.func 69 [] [.ptr xb 0 0 1]) (.bool true) y11 y12 y13 y14 y15 (.i (q:Int)) y17 (.i u) (.i v) (.i w)) H0 :=
  RunsTo.hin N 60 [⟨24,2,.bool true,H⟩,⟨25,2,.bool true,H⟩,⟨26,5,.tuple [],H0⟩] fun kf hk=>⟨_,by kernel_rfl,(oB H (decide_eq_true g0) (oB H (decide_eq_true g1) (oC (g2 kf (by omega)) .nil)))⟩
theorem pq_r_1 (N:Nat) (db n:Nat) (cap:Option Nat) (H:Heap) (x:Nat) (a:Nat) (b:Nat) (lim:Int) (q:Nat) (u:Int) (v:Int) (w:Int) {y10 y11 y12 y13 y14 y15 y17:HV} {H0:Heap} (g0:u < v) (g1:¬ (w ≤ u)) (g2:∀ kf,N ≤ kf → callN Tp polSo (kf+1) 88 [.c db n cap,.i (a:Int),.i (q:Int),.i lim,.func 69 [] [.ptr xb 0 0 1]] H=some (.tuple [],H0)):RT polSo 88 (sub [1,1,0,0,0,1,1,1,1,1,1,1,1,1,1,1,1] B88) (env88 (.c db n cap) (.i (a:Int)) (.i (b:Int)) (.i lim) (.func 69 [] [.ptr xb 0 0 1]) y10 y11 y12 y13 y14 y15 (.i (q:Int)) y17 (.i u) (.i v) (.i w)) H .normal (env88 (.c db n cap) (.i (IntKind.i64.wrap ((q:Int)+1))) (.i (b:Int)) (.i lim) (.func 69 [] [.ptr xb 0 0 1]) (.bool false) y11 y12 y13 y14 y15 (.i (q:Int)) y17 (.i u) (.i v) (.i w)) H0 :=
  RunsTo.hin N 60 [⟨24,2,.bool true,H⟩,⟨25,2,.bool false,H⟩,⟨26,5,.tuple [],H0⟩] fun kf hk=>⟨_,by kernel_rfl,(oB H (decide_eq_true g0) (oB H (decide_eq_false g1) (oC (g2 kf (by omega)) .nil)))⟩
theorem pq_r_2 (N:Nat) (db n:Nat) (cap:Option Nat) (H:Heap) (x:Nat) (a:Nat) (b:Nat) (lim:Int) (q:Nat) (u:Int) (v:Int) (w:Int) {y10 y11 y12 y13 y14 y15 y17:HV} {H0:Heap} (g0:¬ (u < v)) (g1:w ≤ v) (g2:∀ kf,N ≤ kf → callN Tp polSo (kf+1) 88 [.c db n cap,.i (IntKind.i64.wrap ((q:Int)+1)),.i (b:Int),.i lim,.func 69 [] [.ptr xb 0 0 1]] H=some (.tuple [],H0)):RT polSo 88 (sub [1,1,0,0,0,1,1,1,1,1,1,1,1,1,1,1,1] B88) (env88 (.c db n cap) (.i (a:Int)) (.i (b:Int)) (.i lim) (.func 69 [] [.ptr xb 0 0 1]) y10 y11 y12 y13 y14 y15 (.i (q:Int)) y17 (.i u) (.i v) (.i w)) H .normal (env88 (.c db n cap) (.i (a:Int)) (.i (q:Int)) (.i lim) (.func 69 [] [.ptr xb 0 0 1]) (.bool true) y11 y12 y13 y14 y15 (.i (q:Int)) y17 (.i u) (.i v) (.i w)) H0 :=
  RunsTo.hin N 60 [⟨24,2,.bool false,H⟩,⟨28,2,.bool true,H⟩,⟨29,6,.tuple [],H0⟩] fun kf hk=>⟨_,by kernel_rfl,(oB H (decide_eq_false g0) (oB H (decide_eq_true g1) (oC (g2 kf (by omega)) .nil)))⟩
theorem pq_r_3 (N:Nat) (db n:Nat) (cap:Option Nat) (H:Heap) (x:Nat) (a:Nat) (b:Nat) (lim:Int) (q:Nat) (u:Int) (v:Int) (w:Int) {y10 y11 y12 y13 y14 y15 y17:HV} {H0:Heap} (g0:¬ (u < v)) (g1:¬ (w ≤ v)) (g2:∀ kf,N ≤ kf → callN Tp polSo (kf+1) 88 [.c db n cap,.i (IntKind.i64.wrap ((q:Int)+1)),.i (b:Int),.i lim,.func 69 [] [.ptr xb 0 0 1]] H=some (.tuple [],H0)):RT polSo 88 (sub [1,1,0,0,0,1,1,1,1,1,1,1,1,1,1,1,1] B88) (env88 (.c db n cap) (.i (a:Int)) (.i (b:Int)) (.i lim) (.func 69 [] [.ptr xb 0 0 1]) y10 y11 y12 y13 y14 y15 (.i (q:Int)) y17 (.i u) (.i v) (.i w)) H .normal (env88 (.c db n cap) (.i (a:Int)) (.i (q:Int)) (.i lim) (.func 69 [] [.ptr xb 0 0 1]) (.bool false) y11 y12 y13 y14 y15 (.i (q:Int)) y17 (.i u) (.i v) (.i w)) H0 :=
  RunsTo.hin N 60 [⟨24,2,.bool false,H⟩,⟨28,2,.bool false,H⟩,⟨29,6,.tuple [],H0⟩] fun kf hk=>⟨_,by kernel_rfl,(oB H (decide_eq_false g0) (oB H (decide_eq_false g1) (oC (g2 kf (by omega)) .nil)))⟩
noncomputable def B68:Code:=Try.f68.body.getD .skip
abbrev env68 (v0 v1 v4:HV):Env:=[(0,v0),(1,v1),(4,v4)]
theorem st_a_0 (N:Nat) (db n:Nat) (cap:Option Nat) (H:Heap) (x:Nat)  {m0:Int} {H0:Heap} {H1:Heap} (g0:∀ kf,N ≤ kf → callN Tp polSo (kf+1) 63 [.int .u64 (IntKind.u64.wrap (n:Int))] H=some (.i m0,H0)) (g1:∀ kf,N ≤ kf → callN Tp polSo (kf+1) 88 [.c db n cap,.i 0,.i (n:Int),.i m0,.func 69 [] [.ptr xb 0 0 1]] H0=some (.tuple [],H1)):RT polSo 68 (sub [] B68) [(0,.c db n cap),(1,.func 69 [] [.ptr xb 0 0 1])] H .normal (env68 (.c db n cap) (.func 69 [] [.ptr xb 0 0 1]) (.i (n:Int))) H1 :=
  RunsTo.hin N 60 [⟨1,4,.i m0,H0⟩,⟨1,6,.tuple [],H1⟩] fun kf hk=>⟨_,by kernel_rfl,(oC (g0 kf (by omega)) (oC (g1 kf (by omega)) .nil))⟩
end
end Go.Proofs.Ytiejmoglooaalaa
end
