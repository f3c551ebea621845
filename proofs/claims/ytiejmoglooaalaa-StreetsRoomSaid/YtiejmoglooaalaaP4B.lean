/- A part of the proof. -/
import Derived.Test.YtiejmoglooaalaaP4A
set_option linter.unusedVariables false
set_option linter.unusedSimpArgs false
set_option linter.unnecessarySimpa false
section
open Go Go.HL
namespace Go.Proofs.Ytiejmoglooaalaa
set_option maxRecDepth 100000
open Go.Proofs.Try renaming prog → Tp
open Go.HL.HV renaming undef → Ud
section
variable {xb:Nat}
noncomputable def B106:Code:=Try.f106.body.getD .skip
abbrev env106 (v0 v1 v2 v3 v4 v10 v11 v12 v13:HV):Env:=[(0,v0),(1,v1),(2,v2),(3,v3),(4,v4),(10,v10),(11,v11),(12,v12),(13,v13)]
theorem pt_a_0 (N:Nat) (db n:Nat) (cap:Option Nat) (H:Heap) (x:Nat) (a:Nat) (b:Nat) (p:Nat):RT polSo 106 (sub [0] B106) [(0,.c db n cap),(1,.i (a:Int)),(2,.i (b:Int)),(3,.i (p:Int)),(4,.func 69 [] [.ptr xb 0 0 1])] H .normal (env106 (.c db n cap) (.i (a:Int)) (.i (b:Int)) (.i (p:Int)) (.func 69 [] [.ptr xb 0 0 1]) (.i 0) (.bool false) Ud Ud) H :=
  RunsTo.hin N 60 [] fun kf hk=>⟨_,by kernel_rfl,.nil⟩
theorem pt_b_0 (N:Nat) (db n:Nat) (cap:Option Nat) (H:Heap) (x:Nat) (a:Nat) (b:Nat) (p:Nat) {y12 y13:HV} {a0:HV} {v0:HV} {a1:HV} {v1:HV} {a2:HV} {H0:Heap} {a3:HV} {H1:Heap} (g0:idxV Tp 24 (.c db n cap) (.i (p:Int))=some (a0)) (g1:loadV Tp H 3 (a0)=some (v0)) (g2:idxV Tp 24 (.c db n cap) (.i (a:Int))=some (a1)) (g3:loadV Tp H 3 (a1)=some (v1)) (g4:idxV Tp 24 (.c db n cap) (.i (a:Int))=some (a2)) (g5:storeV Tp H 3 (a2) (v0)=some H0) (g6:idxV Tp 24 (.c db n cap) (.i (p:Int))=some (a3)) (g7:storeV Tp H0 3 (a3) (v1)=some H1):RT polSo 106 (sub [1,0] B106) (env106 (.c db n cap) (.i (a:Int)) (.i (b:Int)) (.i (p:Int)) (.func 69 [] [.ptr xb 0 0 1]) (.i 0) (.bool false) y12 y13) H .normal (env106 (.c db n cap) (.i (a:Int)) (.i (b:Int)) (.i (p:Int)) (.func 69 [] [.ptr xb 0 0 1]) (.i 0) (.bool false) y12 y13) H1 :=
  RunsTo.hin N 60 [⟨1,6,a0,H⟩,⟨1,7,v0,H⟩,⟨1,10,a1,H⟩,⟨1,11,v1,H⟩,⟨1,12,a2,H⟩,⟨1,13,.tuple [],H0⟩,⟨1,14,a3,H0⟩,⟨1,15,.tuple [],H1⟩] fun kf hk=>⟨_,by kernel_rfl,(oP H g0 (oP H g1 (oP H g2 (oP H g3 (oP H g4 (oS g5 (oP H0 g6 (oS g7 .nil))))))))⟩
theorem pt_c_0 (N:Nat) (db n:Nat) (cap:Option Nat) (H:Heap) (x:Nat) (a:Nat) (b:Nat) (p:Nat) {y12 y13:HV}:RT polSo 106 (sub [1,1,0] B106) (env106 (.c db n cap) (.i (a:Int)) (.i (b:Int)) (.i (p:Int)) (.func 69 [] [.ptr xb 0 0 1]) (.i 0) (.bool false) y12 y13) H .normal (env106 (.c db n cap) (.i (a:Int)) (.i (b:Int)) (.i (p:Int)) (.func 69 [] [.ptr xb 0 0 1]) (.i 0) (.bool false) (.i (IntKind.i64.wrap ((a:Int)+1))) (.i (IntKind.i64.wrap ((b:Int) - 1)))) H :=
  RunsTo.hin N 60 [] fun kf hk=>⟨_,by kernel_rfl,.nil⟩
theorem pt_d_0 (N:Nat) (db n:Nat) (cap:Option Nat) (H:Heap) (x:Nat) (a:Nat) (b:Nat) (p:Nat) (i:Nat) (j:Nat) {a0:HV} {v0:HV} {a1:HV} {v1:HV} {c0:Int} {H0:Heap} (g0:(i:Int) ≤ (j:Int)) (g1:idxV Tp 24 (.c db n cap) (.i (i:Int))=some (a0)) (g2:loadV Tp H 3 (a0)=some (v0)) (g3:idxV Tp 24 (.c db n cap) (.i (a:Int))=some (a1)) (g4:loadV Tp H 3 (a1)=some (v1)) (g5:∀ kf,N ≤ kf → callN Tp polSo (kf+1) 69 [v0,v1,.ptr xb 0 0 1] H=some (.i c0,H0)) (g6:c0 < 0):RT polSo 106 (sub [1,1,1,0,0,0] B106) (env106 (.c db n cap) (.i (a:Int)) (.i (b:Int)) (.i (p:Int)) (.func 69 [] [.ptr xb 0 0 1]) (.i 0) (.bool false) (.i (i:Int)) (.i (j:Int))) H .normal (env106 (.c db n cap) (.i (a:Int)) (.i (b:Int)) (.i (p:Int)) (.func 69 [] [.ptr xb 0 0 1]) (.i 0) (.bool false) (.i (IntKind.i64.wrap ((i:Int)+1))) (.i (j:Int))) H0 :=
  RunsTo.hin N 60 [⟨3,2,.bool true,H⟩,⟨3,7,a0,H⟩,⟨3,8,v0,H⟩,⟨3,11,a1,H⟩,⟨3,12,v1,H⟩,⟨3,13,.i c0,H0⟩,⟨3,14,.bool true,H0⟩] fun kf hk=>⟨_,by kernel_rfl,(oB H (decide_eq_true g0) (oP H g1 (oP H g2 (oP H g3 (oP H g4 (oC (g5 kf (by omega)) (oB H0 (decide_eq_true g6) .nil)))))))⟩
theorem pt_d_1 (N:Nat) (db n:Nat) (cap:Option Nat) (H:Heap) (x:Nat) (a:Nat) (b:Nat) (p:Nat) (i:Nat) (j:Nat) {a0:HV} {v0:HV} {a1:HV} {v1:HV} {c0:Int} {H0:Heap} (g0:(i:Int) ≤ (j:Int)) (g1:idxV Tp 24 (.c db n cap) (.i (i:Int))=some (a0)) (g2:loadV Tp H 3 (a0)=some (v0)) (g3:idxV Tp 24 (.c db n cap) (.i (a:Int))=some (a1)) (g4:loadV Tp H 3 (a1)=some (v1)) (g5:∀ kf,N ≤ kf → callN Tp polSo (kf+1) 69 [v0,v1,.ptr xb 0 0 1] H=some (.i c0,H0)) (g6:¬ (c0 < 0)):RT polSo 106 (sub [1,1,1,0,0,0] B106) (env106 (.c db n cap) (.i (a:Int)) (.i (b:Int)) (.i (p:Int)) (.func 69 [] [.ptr xb 0 0 1]) (.i 0) (.bool false) (.i (i:Int)) (.i (j:Int))) H (.exit 0) (env106 (.c db n cap) (.i (a:Int)) (.i (b:Int)) (.i (p:Int)) (.func 69 [] [.ptr xb 0 0 1]) (.i 0) (.bool false) (.i (i:Int)) (.i (j:Int))) H0 :=
  RunsTo.hin N 60 [⟨3,2,.bool true,H⟩,⟨3,7,a0,H⟩,⟨3,8,v0,H⟩,⟨3,11,a1,H⟩,⟨3,12,v1,H⟩,⟨3,13,.i c0,H0⟩,⟨3,14,.bool false,H0⟩] fun kf hk=>⟨_,by kernel_rfl,(oB H (decide_eq_true g0) (oP H g1 (oP H g2 (oP H g3 (oP H g4 (oC (g5 kf (by omega)) (oB H0 (decide_eq_false g6) .nil)))))))⟩
theorem pt_d_2 (N:Nat) (db n:Nat) (cap:Option Nat) (H:Heap) (x:Nat) (a:Nat) (b:Nat) (p:Nat) (i:Nat) (j:Nat)(g0:¬ ((i:Int) ≤ (j:Int))):RT polSo 106 (sub [1,1,1,0,0,0] B106) (env106 (.c db n cap) (.i (a:Int)) (.i (b:Int)) (.i (p:Int)) (.func 69 [] [.ptr xb 0 0 1]) (.i 0) (.bool false) (.i (i:Int)) (.i (j:Int))) H (.exit 0) (env106 (.c db n cap) (.i (a:Int)) (.i (b:Int)) (.i (p:Int)) (.func 69 [] [.ptr xb 0 0 1]) (.i 0) (.bool false) (.i (i:Int)) (.i (j:Int))) H :=
  RunsTo.hin N 60 [⟨3,2,.bool false,H⟩] fun kf hk=>⟨_,by kernel_rfl,(oB H (decide_eq_false g0) .nil)⟩
theorem pt_e_0 (N:Nat) (db n:Nat) (cap:Option Nat) (H:Heap) (x:Nat) (a:Nat) (b:Nat) (p:Nat) (i:Nat) (j:Nat) {a0:HV} {v0:HV} {a1:HV} {v1:HV} {c0:Int} {H0:Heap} (g0:(i:Int) ≤ (j:Int)) (g1:idxV Tp 24 (.c db n cap) (.i (j:Int))=some (a0)) (g2:loadV Tp H 3 (a0)=some (v0)) (g3:idxV Tp 24 (.c db n cap) (.i (a:Int))=some (a1)) (g4:loadV Tp H 3 (a1)=some (v1)) (g5:∀ kf,N ≤ kf → callN Tp polSo (kf+1) 69 [v0,v1,.ptr xb 0 0 1] H=some (.i c0,H0)) (g6:c0 < 0):RT polSo 106 (sub [1,1,1,1,0,0,0] B106) (env106 (.c db n cap) (.i (a:Int)) (.i (b:Int)) (.i (p:Int)) (.func 69 [] [.ptr xb 0 0 1]) (.i 0) (.bool false) (.i (i:Int)) (.i (j:Int))) H (.exit 2) (env106 (.c db n cap) (.i (a:Int)) (.i (b:Int)) (.i (p:Int)) (.func 69 [] [.ptr xb 0 0 1]) (.i 0) (.bool false) (.i (i:Int)) (.i (j:Int))) H0 :=
  RunsTo.hin N 60 [⟨5,2,.bool true,H⟩,⟨5,7,a0,H⟩,⟨5,8,v0,H⟩,⟨5,11,a1,H⟩,⟨5,12,v1,H⟩,⟨5,13,.i c0,H0⟩,⟨5,14,.bool true,H0⟩] fun kf hk=>⟨_,by kernel_rfl,(oB H (decide_eq_true g0) (oP H g1 (oP H g2 (oP H g3 (oP H g4 (oC (g5 kf (by omega)) (oB H0 (decide_eq_true g6) .nil)))))))⟩
theorem pt_e_1 (N:Nat) (db n:Nat) (cap:Option Nat) (H:Heap) (x:Nat) (a:Nat) (b:Nat) (p:Nat) (i:Nat) (j:Nat) {a0:HV} {v0:HV} {a1:HV} {v1:HV} {c0:Int} {H0:Heap} (g0:(i:Int) ≤ (j:Int)) (g1:idxV Tp 24 (.c db n cap) (.i (j:Int))=some (a0)) (g2:loadV Tp H 3 (a0)=some (v0)) (g3:idxV Tp 24 (.c db n cap) (.i (a:Int))=some (a1)) (g4:loadV Tp H 3 (a1)=some (v1)) (g5:∀ kf,N ≤ kf → callN Tp polSo (kf+1) 69 [v0,v1,.ptr xb 0 0 1] H=some (.i c0,H0)) (g6:¬ (c0 < 0)):RT polSo 106 (sub [1,1,1,1,0,0,0] B106) (env106 (.c db n cap) (.i (a:Int)) (.i (b:Int)) (.i (p:Int)) (.func 69 [] [.ptr xb 0 0 1]) (.i 0) (.bool false) (.i (i:Int)) (.i (j:Int))) H .normal (env106 (.c db n cap) (.i (a:Int)) (.i (b:Int)) (.i (p:Int)) (.func 69 [] [.ptr xb 0 0 1]) (.i 0) (.bool false) (.i (i:Int)) (.i (IntKind.i64.wrap ((j:Int) - 1)))) H0 :=
  RunsTo.hin N 60 [⟨5,2,.bool true,H⟩,⟨5,7,a0,H⟩,⟨5,8,v0,H⟩,⟨5,11,a1,H⟩,⟨5,12,v1,H⟩,⟨5,13,.i c0,H0⟩,⟨5,14,.bool false,H0⟩] fun kf hk=>⟨_,by kernel_rfl,(oB H (decide_eq_true g0) (oP H g1 (oP H g2 (oP H g3 (oP H g4 (oC (g5 kf (by omega)) (oB H0 (decide_eq_false g6) .nil)))))))⟩
theorem pt_e_2 (N:Nat) (db n:Nat) (cap:Option Nat) (H:Heap) (x:Nat) (a:Nat) (b:Nat) (p:Nat) (i:Nat) (j:Nat)(g0:¬ ((i:Int) ≤ (j:Int))):RT polSo 106 (sub [1,1,1,1,0,0,0] B106) (env106 (.c db n cap) (.i (a:Int)) (.i (b:Int)) (.i (p:Int)) (.func 69 [] [.ptr xb 0 0 1]) (.i 0) (.bool false) (.i (i:Int)) (.i (j:Int))) H (.exit 2) (env106 (.c db n cap) (.i (a:Int)) (.i (b:Int)) (.i (p:Int)) (.func 69 [] [.ptr xb 0 0 1]) (.i 0) (.bool false) (.i (i:Int)) (.i (j:Int))) H :=
  RunsTo.hin N 60 [⟨5,2,.bool false,H⟩] fun kf hk=>⟨_,by kernel_rfl,(oB H (decide_eq_false g0) .nil)⟩
theorem pt_f_0 (N:Nat) (db n:Nat) (cap:Option Nat) (H:Heap) (x:Nat) (a:Nat) (b:Nat) (p:Nat) (i:Nat) (j:Nat) {a0:HV} {v0:HV} {a1:HV} {v1:HV} {a2:HV} {H0:Heap} {a3:HV} {H1:Heap} (g0:(j:Int) < (i:Int)) (g1:idxV Tp 24 (.c db n cap) (.i (a:Int))=some (a0)) (g2:loadV Tp H 3 (a0)=some (v0)) (g3:idxV Tp 24 (.c db n cap) (.i (j:Int))=some (a1)) (g4:loadV Tp H 3 (a1)=some (v1)) (g5:idxV Tp 24 (.c db n cap) (.i (j:Int))=some (a2)) (g6:storeV Tp H 3 (a2) (v0)=some H0) (g7:idxV Tp 24 (.c db n cap) (.i (a:Int))=some (a3)) (g8:storeV Tp H0 3 (a3) (v1)=some H1):RT polSo 106 (sub [1,1,1,1,1,0] B106) (env106 (.c db n cap) (.i (a:Int)) (.i (b:Int)) (.i (p:Int)) (.func 69 [] [.ptr xb 0 0 1]) (.i 0) (.bool false) (.i (i:Int)) (.i (j:Int))) H .ret (env106 (.c db n cap) (.i (a:Int)) (.i (b:Int)) (.i (p:Int)) (.func 69 [] [.ptr xb 0 0 1]) (.i (j:Int)) (.bool true) (.i (i:Int)) (.i (j:Int))) H1 :=
  RunsTo.hin N 60 [⟨7,2,.bool true,H⟩,⟨8,6,a0,H⟩,⟨8,7,v0,H⟩,⟨8,10,a1,H⟩,⟨8,11,v1,H⟩,⟨8,12,a2,H⟩,⟨8,13,.tuple [],H0⟩,⟨8,14,a3,H0⟩,⟨8,15,.tuple [],H1⟩] fun kf hk=>⟨_,by kernel_rfl,(oB H (decide_eq_true g0) (oP H g1 (oP H g2 (oP H g3 (oP H g4 (oP H g5 (oS g6 (oP H0 g7 (oS g8 .nil)))))))))⟩
theorem pt_f_1 (N:Nat) (db n:Nat) (cap:Option Nat) (H:Heap) (x:Nat) (a:Nat) (b:Nat) (p:Nat) (i:Nat) (j:Nat)(g0:¬ ((j:Int) < (i:Int))):RT polSo 106 (sub [1,1,1,1,1,0] B106) (env106 (.c db n cap) (.i (a:Int)) (.i (b:Int)) (.i (p:Int)) (.func 69 [] [.ptr xb 0 0 1]) (.i 0) (.bool false) (.i (i:Int)) (.i (j:Int))) H .normal (env106 (.c db n cap) (.i (a:Int)) (.i (b:Int)) (.i (p:Int)) (.func 69 [] [.ptr xb 0 0 1]) (.i 0) (.bool false) (.i (i:Int)) (.i (j:Int))) H :=
  RunsTo.hin N 60 [⟨7,2,.bool false,H⟩] fun kf hk=>⟨_,by kernel_rfl,(oB H (decide_eq_false g0) .nil)⟩
theorem pt_g_0 (N:Nat) (db n:Nat) (cap:Option Nat) (H:Heap) (x:Nat) (a:Nat) (b:Nat) (p:Nat) (i:Nat) (j:Nat) {a0:HV} {v0:HV} {a1:HV} {v1:HV} {a2:HV} {H0:Heap} {a3:HV} {H1:Heap} (g0:idxV Tp 24 (.c db n cap) (.i (j:Int))=some (a0)) (g1:loadV Tp H 3 (a0)=some (v0)) (g2:idxV Tp 24 (.c db n cap) (.i (i:Int))=some (a1)) (g3:loadV Tp H 3 (a1)=some (v1)) (g4:idxV Tp 24 (.c db n cap) (.i (i:Int))=some (a2)) (g5:storeV Tp H 3 (a2) (v0)=some H0) (g6:idxV Tp 24 (.c db n cap) (.i (j:Int))=some (a3)) (g7:storeV Tp H0 3 (a3) (v1)=some H1):RT polSo 106 (sub [1,1,1,1,1,1,0] B106) (env106 (.c db n cap) (.i (a:Int)) (.i (b:Int)) (.i (p:Int)) (.func 69 [] [.ptr xb 0 0 1]) (.i 0) (.bool false) (.i (i:Int)) (.i (j:Int))) H .normal (env106 (.c db n cap) (.i (a:Int)) (.i (b:Int)) (.i (p:Int)) (.func 69 [] [.ptr xb 0 0 1]) (.i 0) (.bool false) (.i (i:Int)) (.i (j:Int))) H1 :=
  RunsTo.hin N 60 [⟨10,6,a0,H⟩,⟨10,7,v0,H⟩,⟨10,10,a1,H⟩,⟨10,11,v1,H⟩,⟨10,12,a2,H⟩,⟨10,13,.tuple [],H0⟩,⟨10,14,a3,H0⟩,⟨10,15,.tuple [],H1⟩] fun kf hk=>⟨_,by kernel_rfl,(oP H g0 (oP H g1 (oP H g2 (oP H g3 (oP H g4 (oS g5 (oP H0 g6 (oS g7 .nil))))))))⟩
theorem pt_h_0 (N:Nat) (db n:Nat) (cap:Option Nat) (H:Heap) (x:Nat) (a:Nat) (b:Nat) (p:Nat) (i:Nat) (j:Nat):RT polSo 106 (sub [1,1,1,1,1,1,1,0] B106) (env106 (.c db n cap) (.i (a:Int)) (.i (b:Int)) (.i (p:Int)) (.func 69 [] [.ptr xb 0 0 1]) (.i 0) (.bool false) (.i (i:Int)) (.i (j:Int))) H .normal (env106 (.c db n cap) (.i (a:Int)) (.i (b:Int)) (.i (p:Int)) (.func 69 [] [.ptr xb 0 0 1]) (.i 0) (.bool false) (.i (IntKind.i64.wrap ((i:Int)+1))) (.i (j:Int))) H :=
  RunsTo.hin N 60 [] fun kf hk=>⟨_,by kernel_rfl,.nil⟩
theorem pt_i_0 (N:Nat) (db n:Nat) (cap:Option Nat) (H:Heap) (x:Nat) (a:Nat) (b:Nat) (p:Nat) (i:Nat) (j:Nat):RT polSo 106 (sub [1,1,1,1,1,1,1,1,0] B106) (env106 (.c db n cap) (.i (a:Int)) (.i (b:Int)) (.i (p:Int)) (.func 69 [] [.ptr xb 0 0 1]) (.i 0) (.bool false) (.i (i:Int)) (.i (j:Int))) H .normal (env106 (.c db n cap) (.i (a:Int)) (.i (b:Int)) (.i (p:Int)) (.func 69 [] [.ptr xb 0 0 1]) (.i 0) (.bool false) (.i (i:Int)) (.i (IntKind.i64.wrap ((j:Int) - 1)))) H :=
  RunsTo.hin N 60 [] fun kf hk=>⟨_,by kernel_rfl,.nil⟩
theorem pt_j_0 (N:Nat) (db n:Nat) (cap:Option Nat) (H:Heap) (x:Nat) (a:Nat) (b:Nat) (p:Nat) (i:Nat) (j:Nat) {a0:HV} {v0:HV} {a1:HV} {v1:HV} {c0:Int} {H0:Heap} (g0:(i:Int) ≤ (j:Int)) (g1:idxV Tp 24 (.c db n cap) (.i (i:Int))=some (a0)) (g2:loadV Tp H 3 (a0)=some (v0)) (g3:idxV Tp 24 (.c db n cap) (.i (a:Int))=some (a1)) (g4:loadV Tp H 3 (a1)=some (v1)) (g5:∀ kf,N ≤ kf → callN Tp polSo (kf+1) 69 [v0,v1,.ptr xb 0 0 1] H=some (.i c0,H0)) (g6:c0 < 0):RT polSo 106 (sub [1,1,1,1,1,1,1,1,1,0,0,0,0,0,0,0] B106) (env106 (.c db n cap) (.i (a:Int)) (.i (b:Int)) (.i (p:Int)) (.func 69 [] [.ptr xb 0 0 1]) (.i 0) (.bool false) (.i (i:Int)) (.i (j:Int))) H .normal (env106 (.c db n cap) (.i (a:Int)) (.i (b:Int)) (.i (p:Int)) (.func 69 [] [.ptr xb 0 0 1]) (.i 0) (.bool false) (.i (IntKind.i64.wrap ((i:Int)+1))) (.i (j:Int))) H0 :=
  RunsTo.hin N 60 [⟨13,2,.bool true,H⟩,⟨13,7,a0,H⟩,⟨13,8,v0,H⟩,⟨13,11,a1,H⟩,⟨13,12,v1,H⟩,⟨13,13,.i c0,H0⟩,⟨13,14,.bool true,H0⟩] fun kf hk=>⟨_,by kernel_rfl,(oB H (decide_eq_true g0) (oP H g1 (oP H g2 (oP H g3 (oP H g4 (oC (g5 kf (by omega)) (oB H0 (decide_eq_true g6) .nil)))))))⟩
theorem pt_j_1 (N:Nat) (db n:Nat) (cap:Option Nat) (H:Heap) (x:Nat) (a:Nat) (b:Nat) (p:Nat) (i:Nat) (j:Nat) {a0:HV} {v0:HV} {a1:HV} {v1:HV} {c0:Int} {H0:Heap} (g0:(i:Int) ≤ (j:Int)) (g1:idxV Tp 24 (.c db n cap) (.i (i:Int))=some (a0)) (g2:loadV Tp H 3 (a0)=some (v0)) (g3:idxV Tp 24 (.c db n cap) (.i (a:Int))=some (a1)) (g4:loadV Tp H 3 (a1)=some (v1)) (g5:∀ kf,N ≤ kf → callN Tp polSo (kf+1) 69 [v0,v1,.ptr xb 0 0 1] H=some (.i c0,H0)) (g6:¬ (c0 < 0)):RT polSo 106 (sub [1,1,1,1,1,1,1,1,1,0,0,0,0,0,0,0] B106) (env106 (.c db n cap) (.i (a:Int)) (.i (b:Int)) (.i (p:Int)) (.func 69 [] [.ptr xb 0 0 1]) (.i 0) (.bool false) (.i (i:Int)) (.i (j:Int))) H (.exit 6) (env106 (.c db n cap) (.i (a:Int)) (.i (b:Int)) (.i (p:Int)) (.func 69 [] [.ptr xb 0 0 1]) (.i 0) (.bool false) (.i (i:Int)) (.i (j:Int))) H0 :=
  RunsTo.hin N 60 [⟨13,2,.bool true,H⟩,⟨13,7,a0,H⟩,⟨13,8,v0,H⟩,⟨13,11,a1,H⟩,⟨13,12,v1,H⟩,⟨13,13,.i c0,H0⟩,⟨13,14,.bool false,H0⟩] fun kf hk=>⟨_,by kernel_rfl,(oB H (decide_eq_true g0) (oP H g1 (oP H g2 (oP H g3 (oP H g4 (oC (g5 kf (by omega)) (oB H0 (decide_eq_false g6) .nil)))))))⟩
theorem pt_j_2 (N:Nat) (db n:Nat) (cap:Option Nat) (H:Heap) (x:Nat) (a:Nat) (b:Nat) (p:Nat) (i:Nat) (j:Nat)(g0:¬ ((i:Int) ≤ (j:Int))):RT polSo 106 (sub [1,1,1,1,1,1,1,1,1,0,0,0,0,0,0,0] B106) (env106 (.c db n cap) (.i (a:Int)) (.i (b:Int)) (.i (p:Int)) (.func 69 [] [.ptr xb 0 0 1]) (.i 0) (.bool false) (.i (i:Int)) (.i (j:Int))) H (.exit 6) (env106 (.c db n cap) (.i (a:Int)) (.i (b:Int)) (.i (p:Int)) (.func 69 [] [.ptr xb 0 0 1]) (.i 0) (.bool false) (.i (i:Int)) (.i (j:Int))) H :=
  RunsTo.hin N 60 [⟨13,2,.bool false,H⟩] fun kf hk=>⟨_,by kernel_rfl,(oB H (decide_eq_false g0) .nil)⟩
theorem pt_k_0 (N:Nat) (db n:Nat) (cap:Option Nat) (H:Heap) (x:Nat) (a:Nat) (b:Nat) (p:Nat) (i:Nat) (j:Nat) {a0:HV} {v0:HV} {a1:HV} {v1:HV} {c0:Int} {H0:Heap} (g0:(i:Int) ≤ (j:Int)) (g1:idxV Tp 24 (.c db n cap) (.i (j:Int))=some (a0)) (g2:loadV Tp H 3 (a0)=some (v0)) (g3:idxV Tp 24 (.c db n cap) (.i (a:Int))=some (a1)) (g4:loadV Tp H 3 (a1)=some (v1)) (g5:∀ kf,N ≤ kf → callN Tp polSo (kf+1) 69 [v0,v1,.ptr xb 0 0 1] H=some (.i c0,H0)) (g6:c0 < 0):RT polSo 106 (sub [1,1,1,1,1,1,1,1,1,0,0,0,0,1,0,0,0] B106) (env106 (.c db n cap) (.i (a:Int)) (.i (b:Int)) (.i (p:Int)) (.func 69 [] [.ptr xb 0 0 1]) (.i 0) (.bool false) (.i (i:Int)) (.i (j:Int))) H (.exit 8) (env106 (.c db n cap) (.i (a:Int)) (.i (b:Int)) (.i (p:Int)) (.func 69 [] [.ptr xb 0 0 1]) (.i 0) (.bool false) (.i (i:Int)) (.i (j:Int))) H0 :=
  RunsTo.hin N 60 [⟨15,2,.bool true,H⟩,⟨15,7,a0,H⟩,⟨15,8,v0,H⟩,⟨15,11,a1,H⟩,⟨15,12,v1,H⟩,⟨15,13,.i c0,H0⟩,⟨15,14,.bool true,H0⟩] fun kf hk=>⟨_,by kernel_rfl,(oB H (decide_eq_true g0) (oP H g1 (oP H g2 (oP H g3 (oP H g4 (oC (g5 kf (by omega)) (oB H0 (decide_eq_true g6) .nil)))))))⟩
theorem pt_k_1 (N:Nat) (db n:Nat) (cap:Option Nat) (H:Heap) (x:Nat) (a:Nat) (b:Nat) (p:Nat) (i:Nat) (j:Nat) {a0:HV} {v0:HV} {a1:HV} {v1:HV} {c0:Int} {H0:Heap} (g0:(i:Int) ≤ (j:Int)) (g1:idxV Tp 24 (.c db n cap) (.i (j:Int))=some (a0)) (g2:loadV Tp H 3 (a0)=some (v0)) (g3:idxV Tp 24 (.c db n cap) (.i (a:Int))=some (a1)) (g4:loadV Tp H 3 (a1)=some (v1)) (g5:∀ kf,N ≤ kf → callN Tp polSo (kf+1) 69 [v0,v1,.ptr xb 0 0 1] H=some (.i c0,H0)) (g6:¬ (c0 < 0)):RT polSo 106 (sub [1,1,1,1,1,1,1,1,1,0,0,0,0,1,0,0,0] B106) (env106 (.c db n cap) (.i (a:Int)) (.i (b:Int)) (.i (p:Int)) (.func 69 [] [.ptr xb 0 0 1]) (.i 0) (.bool false) (.i (i:Int)) (.i (j:Int))) H .normal (env106 (.c db n cap) (.i (a:Int)) (.i (b:Int)) (.i (p:Int)) (.func 69 [] [.ptr xb 0 0 1]) (.i 0) (.bool false) (.i (i:Int)) (.i (IntKind.i64.wrap ((j:Int) - 1)))) H0 :=
  RunsTo.hin N 60 [⟨15,2,.bool true,H⟩,⟨15,7,a0,H⟩,⟨15,8,v0,H⟩,⟨15,11,a1,H⟩,⟨15,12,v1,H⟩,⟨15,13,.i c0,H0⟩,⟨15,14,.bool false,H0⟩] fun kf hk=>⟨_,by kernel_rfl,(oB H (decide_eq_true g0) (oP H g1 (oP H g2 (oP H g3 (oP H g4 (oC (g5 kf (by omega)) (oB H0 (decide_eq_false g6) .nil)))))))⟩
theorem pt_k_2 (N:Nat) (db n:Nat) (cap:Option Nat) (H:Heap) (x:Nat) (a:Nat) (b:Nat) (p:Nat) (i:Nat) (j:Nat)(g0:¬ ((i:Int) ≤ (j:Int))):RT polSo 106 (sub [1,1,1,1,1,1,1,1,1,0,0,0,0,1,0,0,0] B106) (env106 (.c db n cap) (.i (a:Int)) (.i (b:Int)) (.i (p:Int)) (.func 69 [] [.ptr xb 0 0 1]) (.i 0) (.bool false) (.i (i:Int)) (.i (j:Int))) H (.exit 8) (env106 (.c db n cap) (.i (a:Int)) (.i (b:Int)) (.i (p:Int)) (.func 69 [] [.ptr xb 0 0 1]) (.i 0) (.bool false) (.i (i:Int)) (.i (j:Int))) H :=
  RunsTo.hin N 60 [⟨15,2,.bool false,H⟩] fun kf hk=>⟨_,by kernel_rfl,(oB H (decide_eq_false g0) .nil)⟩
theorem pt_l_0 (N:Nat) (db n:Nat) (cap:Option Nat) (H:Heap) (x:Nat) (a:Nat) (b:Nat) (p:Nat) (i:Nat) (j:Nat)(g0:(j:Int) < (i:Int)):RT polSo 106 (sub [1,1,1,1,1,1,1,1,1,0,0,0,0,1,1] B106) (env106 (.c db n cap) (.i (a:Int)) (.i (b:Int)) (.i (p:Int)) (.func 69 [] [.ptr xb 0 0 1]) (.i 0) (.bool false) (.i (i:Int)) (.i (j:Int))) H (.exit 4) (env106 (.c db n cap) (.i (a:Int)) (.i (b:Int)) (.i (p:Int)) (.func 69 [] [.ptr xb 0 0 1]) (.i 0) (.bool false) (.i (i:Int)) (.i (j:Int))) H :=
  RunsTo.hin N 60 [⟨17,2,.bool true,H⟩] fun kf hk=>⟨_,by kernel_rfl,(oB H (decide_eq_true g0) .nil)⟩
theorem pt_l_1 (N:Nat) (db n:Nat) (cap:Option Nat) (H:Heap) (x:Nat) (a:Nat) (b:Nat) (p:Nat) (i:Nat) (j:Nat) {a0:HV} {v0:HV} {a1:HV} {v1:HV} {a2:HV} {H0:Heap} {a3:HV} {H1:Heap} (g0:¬ ((j:Int) < (i:Int))) (g1:idxV Tp 24 (.c db n cap) (.i (j:Int))=some (a0)) (g2:loadV Tp H 3 (a0)=some (v0)) (g3:idxV Tp 24 (.c db n cap) (.i (i:Int))=some (a1)) (g4:loadV Tp H 3 (a1)=some (v1)) (g5:idxV Tp 24 (.c db n cap) (.i (i:Int))=some (a2)) (g6:storeV Tp H 3 (a2) (v0)=some H0) (g7:idxV Tp 24 (.c db n cap) (.i (j:Int))=some (a3)) (g8:storeV Tp H0 3 (a3) (v1)=some H1):RT polSo 106 (sub [1,1,1,1,1,1,1,1,1,0,0,0,0,1,1] B106) (env106 (.c db n cap) (.i (a:Int)) (.i (b:Int)) (.i (p:Int)) (.func 69 [] [.ptr xb 0 0 1]) (.i 0) (.bool false) (.i (i:Int)) (.i (j:Int))) H .normal (env106 (.c db n cap) (.i (a:Int)) (.i (b:Int)) (.i (p:Int)) (.func 69 [] [.ptr xb 0 0 1]) (.i 0) (.bool false) (.i (IntKind.i64.wrap ((i:Int)+1))) (.i (IntKind.i64.wrap ((j:Int) - 1)))) H1 :=
  RunsTo.hin N 60 [⟨17,2,.bool false,H⟩,⟨18,6,a0,H⟩,⟨18,7,v0,H⟩,⟨18,10,a1,H⟩,⟨18,11,v1,H⟩,⟨18,12,a2,H⟩,⟨18,13,.tuple [],H0⟩,⟨18,14,a3,H0⟩,⟨18,15,.tuple [],H1⟩] fun kf hk=>⟨_,by kernel_rfl,(oB H (decide_eq_false g0) (oP H g1 (oP H g2 (oP H g3 (oP H g4 (oP H g5 (oS g6 (oP H0 g7 (oS g8 .nil)))))))))⟩
theorem pt_m_0 (N:Nat) (db n:Nat) (cap:Option Nat) (H:Heap) (x:Nat) (a:Nat) (b:Nat) (p:Nat) (i:Nat) (j:Nat) {a0:HV} {v0:HV} {a1:HV} {v1:HV} {a2:HV} {H0:Heap} {a3:HV} {H1:Heap} (g0:idxV Tp 24 (.c db n cap) (.i (a:Int))=some (a0)) (g1:loadV Tp H 3 (a0)=some (v0)) (g2:idxV Tp 24 (.c db n cap) (.i (j:Int))=some (a1)) (g3:loadV Tp H 3 (a1)=some (v1)) (g4:idxV Tp 24 (.c db n cap) (.i (j:Int))=some (a2)) (g5:storeV Tp H 3 (a2) (v0)=some H0) (g6:idxV Tp 24 (.c db n cap) (.i (a:Int))=some (a3)) (g7:storeV Tp H0 3 (a3) (v1)=some H1):RT polSo 106 (sub [1,1,1,1,1,1,1,1,1,1] B106) (env106 (.c db n cap) (.i (a:Int)) (.i (b:Int)) (.i (p:Int)) (.func 69 [] [.ptr xb 0 0 1]) (.i 0) (.bool false) (.i (i:Int)) (.i (j:Int))) H .ret (env106 (.c db n cap) (.i (a:Int)) (.i (b:Int)) (.i (p:Int)) (.func 69 [] [.ptr xb 0 0 1]) (.i (j:Int)) (.bool false) (.i (i:Int)) (.i (j:Int))) H1 :=
  RunsTo.hin N 60 [⟨21,6,a0,H⟩,⟨21,7,v0,H⟩,⟨21,10,a1,H⟩,⟨21,11,v1,H⟩,⟨21,12,a2,H⟩,⟨21,13,.tuple [],H0⟩,⟨21,14,a3,H0⟩,⟨21,15,.tuple [],H1⟩] fun kf hk=>⟨_,by kernel_rfl,(oP H g0 (oP H g1 (oP H g2 (oP H g3 (oP H g4 (oS g5 (oP H0 g6 (oS g7 .nil))))))))⟩
noncomputable def B105:Code:=Try.f105.body.getD .skip
abbrev env105 (v0 v1 v2 v3 v4 v10 v11 v12:HV):Env:=[(0,v0),(1,v1),(2,v2),(3,v3),(4,v4),(10,v10),(11,v11),(12,v12)]
theorem pe_a_0 (N:Nat) (db n:Nat) (cap:Option Nat) (H:Heap) (x:Nat) (a:Nat) (b:Nat) (p:Nat):RT polSo 105 (sub [0] B105) [(0,.c db n cap),(1,.i (a:Int)),(2,.i (b:Int)),(3,.i (p:Int)),(4,.func 69 [] [.ptr xb 0 0 1])] H .normal (env105 (.c db n cap) (.i (a:Int)) (.i (b:Int)) (.i (p:Int)) (.func 69 [] [.ptr xb 0 0 1]) (.i 0) Ud Ud) H :=
  RunsTo.hin N 60 [] fun kf hk=>⟨_,by kernel_rfl,.nil⟩
theorem pe_b_0 (N:Nat) (db n:Nat) (cap:Option Nat) (H:Heap) (x:Nat) (a:Nat) (b:Nat) (p:Nat) {y11 y12:HV} {a0:HV} {v0:HV} {a1:HV} {v1:HV} {a2:HV} {H0:Heap} {a3:HV} {H1:Heap} (g0:idxV Tp 24 (.c db n cap) (.i (p:Int))=some (a0)) (g1:loadV Tp H 3 (a0)=some (v0)) (g2:idxV Tp 24 (.c db n cap) (.i (a:Int))=some (a1)) (g3:loadV Tp H 3 (a1)=some (v1)) (g4:idxV Tp 24 (.c db n cap) (.i (a:Int))=some (a2)) (g5:storeV Tp H 3 (a2) (v0)=some H0) (g6:idxV Tp 24 (.c db n cap) (.i (p:Int))=some (a3)) (g7:storeV Tp H0 3 (a3) (v1)=some H1):RT polSo 105 (sub [1,0] B105) (env105 (.c db n cap) (.i (a:Int)) (.i (b:Int)) (.i (p:Int)) (.func 69 [] [.ptr xb 0 0 1]) (.i 0) y11 y12) H .normal (env105 (.c db n cap) (.i (a:Int)) (.i (b:Int)) (.i (p:Int)) (.func 69 [] [.ptr xb 0 0 1]) (.i 0) y11 y12) H1 :=
  RunsTo.hin N 60 [⟨1,6,a0,H⟩,⟨1,7,v0,H⟩,⟨1,10,a1,H⟩,⟨1,11,v1,H⟩,⟨1,12,a2,H⟩,⟨1,13,.tuple [],H0⟩,⟨1,14,a3,H0⟩,⟨1,15,.tuple [],H1⟩] fun kf hk=>⟨_,by kernel_rfl,(oP H g0 (oP H g1 (oP H g2 (oP H g3 (oP H g4 (oS g5 (oP H0 g6 (oS g7 .nil))))))))⟩
theorem pe_c_0 (N:Nat) (db n:Nat) (cap:Option Nat) (H:Heap) (x:Nat) (a:Nat) (b:Nat) (p:Nat) {y11 y12:HV}:RT polSo 105 (sub [1,1,0] B105) (env105 (.c db n cap) (.i (a:Int)) (.i (b:Int)) (.i (p:Int)) (.func 69 [] [.ptr xb 0 0 1]) (.i 0) y11 y12) H .normal (env105 (.c db n cap) (.i (a:Int)) (.i (b:Int)) (.i (p:Int)) (.func 69 [] [.ptr xb 0 0 1]) (.i 0) (.i (IntKind.i64.wrap ((a:Int)+1))) (.i (IntKind.i64.wrap ((b:Int) - 1)))) H :=
  RunsTo.hin N 60 [] fun kf hk=>⟨_,by kernel_rfl,.nil⟩
theorem pe_d_0 (N:Nat) (db n:Nat) (cap:Option Nat) (H:Heap) (x:Nat) (a:Nat) (b:Nat) (p:Nat) (i:Nat) (j:Nat) {a0:HV} {v0:HV} {a1:HV} {v1:HV} {c0:Int} {H0:Heap} (g0:(i:Int) ≤ (j:Int)) (g1:idxV Tp 24 (.c db n cap) (.i (a:Int))=some (a0)) (g2:loadV Tp H 3 (a0)=some (v0)) (g3:idxV Tp 24 (.c db n cap) (.i (i:Int))=some (a1)) (g4:loadV Tp H 3 (a1)=some (v1)) (g5:∀ kf,N ≤ kf → callN Tp polSo (kf+1) 69 [v0,v1,.ptr xb 0 0 1] H=some (.i c0,H0)) (g6:c0 < 0):RT polSo 105 (sub [1,1,1,0,0,0,0,0,0,0] B105) (env105 (.c db n cap) (.i (a:Int)) (.i (b:Int)) (.i (p:Int)) (.func 69 [] [.ptr xb 0 0 1]) (.i 0) (.i (i:Int)) (.i (j:Int))) H (.exit 2) (env105 (.c db n cap) (.i (a:Int)) (.i (b:Int)) (.i (p:Int)) (.func 69 [] [.ptr xb 0 0 1]) (.i 0) (.i (i:Int)) (.i (j:Int))) H0 :=
  RunsTo.hin N 60 [⟨3,2,.bool true,H⟩,⟨3,7,a0,H⟩,⟨3,8,v0,H⟩,⟨3,11,a1,H⟩,⟨3,12,v1,H⟩,⟨3,13,.i c0,H0⟩,⟨3,14,.bool true,H0⟩] fun kf hk=>⟨_,by kernel_rfl,(oB H (decide_eq_true g0) (oP H g1 (oP H g2 (oP H g3 (oP H g4 (oC (g5 kf (by omega)) (oB H0 (decide_eq_true g6) .nil)))))))⟩
theorem pe_d_1 (N:Nat) (db n:Nat) (cap:Option Nat) (H:Heap) (x:Nat) (a:Nat) (b:Nat) (p:Nat) (i:Nat) (j:Nat) {a0:HV} {v0:HV} {a1:HV} {v1:HV} {c0:Int} {H0:Heap} (g0:(i:Int) ≤ (j:Int)) (g1:idxV Tp 24 (.c db n cap) (.i (a:Int))=some (a0)) (g2:loadV Tp H 3 (a0)=some (v0)) (g3:idxV Tp 24 (.c db n cap) (.i (i:Int))=some (a1)) (g4:loadV Tp H 3 (a1)=some (v1)) (g5:∀ kf,N ≤ kf → callN Tp polSo (kf+1) 69 [v0,v1,.ptr xb 0 0 1] H=some (.i c0,H0)) (g6:¬ (c0 < 0)):RT polSo 105 (sub [1,1,1,0,0,0,0,0,0,0] B105) (env105 (.c db n cap) (.i (a:Int)) (.i (b:Int)) (.i (p:Int)) (.func 69 [] [.ptr xb 0 0 1]) (.i 0) (.i (i:Int)) (.i (j:Int))) H .normal (env105 (.c db n cap) (.i (a:Int)) (.i (b:Int)) (.i (p:Int)) (.func 69 [] [.ptr xb 0 0 1]) (.i 0) (.i (IntKind.i64.wrap ((i:Int)+1))) (.i (j:Int))) H0 :=
  RunsTo.hin N 60 [⟨3,2,.bool true,H⟩,⟨3,7,a0,H⟩,⟨3,8,v0,H⟩,⟨3,11,a1,H⟩,⟨3,12,v1,H⟩,⟨3,13,.i c0,H0⟩,⟨3,14,.bool false,H0⟩] fun kf hk=>⟨_,by kernel_rfl,(oB H (decide_eq_true g0) (oP H g1 (oP H g2 (oP H g3 (oP H g4 (oC (g5 kf (by omega)) (oB H0 (decide_eq_false g6) .nil)))))))⟩
theorem pe_d_2 (N:Nat) (db n:Nat) (cap:Option Nat) (H:Heap) (x:Nat) (a:Nat) (b:Nat) (p:Nat) (i:Nat) (j:Nat)(g0:¬ ((i:Int) ≤ (j:Int))):RT polSo 105 (sub [1,1,1,0,0,0,0,0,0,0] B105) (env105 (.c db n cap) (.i (a:Int)) (.i (b:Int)) (.i (p:Int)) (.func 69 [] [.ptr xb 0 0 1]) (.i 0) (.i (i:Int)) (.i (j:Int))) H (.exit 2) (env105 (.c db n cap) (.i (a:Int)) (.i (b:Int)) (.i (p:Int)) (.func 69 [] [.ptr xb 0 0 1]) (.i 0) (.i (i:Int)) (.i (j:Int))) H :=
  RunsTo.hin N 60 [⟨3,2,.bool false,H⟩] fun kf hk=>⟨_,by kernel_rfl,(oB H (decide_eq_false g0) .nil)⟩
theorem pe_e_0 (N:Nat) (db n:Nat) (cap:Option Nat) (H:Heap) (x:Nat) (a:Nat) (b:Nat) (p:Nat) (i:Nat) (j:Nat) {a0:HV} {v0:HV} {a1:HV} {v1:HV} {c0:Int} {H0:Heap} (g0:(i:Int) ≤ (j:Int)) (g1:idxV Tp 24 (.c db n cap) (.i (a:Int))=some (a0)) (g2:loadV Tp H 3 (a0)=some (v0)) (g3:idxV Tp 24 (.c db n cap) (.i (j:Int))=some (a1)) (g4:loadV Tp H 3 (a1)=some (v1)) (g5:∀ kf,N ≤ kf → callN Tp polSo (kf+1) 69 [v0,v1,.ptr xb 0 0 1] H=some (.i c0,H0)) (g6:c0 < 0):RT polSo 105 (sub [1,1,1,0,0,0,0,1,0,0,0] B105) (env105 (.c db n cap) (.i (a:Int)) (.i (b:Int)) (.i (p:Int)) (.func 69 [] [.ptr xb 0 0 1]) (.i 0) (.i (i:Int)) (.i (j:Int))) H .normal (env105 (.c db n cap) (.i (a:Int)) (.i (b:Int)) (.i (p:Int)) (.func 69 [] [.ptr xb 0 0 1]) (.i 0) (.i (i:Int)) (.i (IntKind.i64.wrap ((j:Int) - 1)))) H0 :=
  RunsTo.hin N 60 [⟨5,2,.bool true,H⟩,⟨5,7,a0,H⟩,⟨5,8,v0,H⟩,⟨5,11,a1,H⟩,⟨5,12,v1,H⟩,⟨5,13,.i c0,H0⟩,⟨5,14,.bool true,H0⟩] fun kf hk=>⟨_,by kernel_rfl,(oB H (decide_eq_true g0) (oP H g1 (oP H g2 (oP H g3 (oP H g4 (oC (g5 kf (by omega)) (oB H0 (decide_eq_true g6) .nil)))))))⟩
theorem pe_e_1 (N:Nat) (db n:Nat) (cap:Option Nat) (H:Heap) (x:Nat) (a:Nat) (b:Nat) (p:Nat) (i:Nat) (j:Nat) {a0:HV} {v0:HV} {a1:HV} {v1:HV} {c0:Int} {H0:Heap} (g0:(i:Int) ≤ (j:Int)) (g1:idxV Tp 24 (.c db n cap) (.i (a:Int))=some (a0)) (g2:loadV Tp H 3 (a0)=some (v0)) (g3:idxV Tp 24 (.c db n cap) (.i (j:Int))=some (a1)) (g4:loadV Tp H 3 (a1)=some (v1)) (g5:∀ kf,N ≤ kf → callN Tp polSo (kf+1) 69 [v0,v1,.ptr xb 0 0 1] H=some (.i c0,H0)) (g6:¬ (c0 < 0)):RT polSo 105 (sub [1,1,1,0,0,0,0,1,0,0,0] B105) (env105 (.c db n cap) (.i (a:Int)) (.i (b:Int)) (.i (p:Int)) (.func 69 [] [.ptr xb 0 0 1]) (.i 0) (.i (i:Int)) (.i (j:Int))) H (.exit 4) (env105 (.c db n cap) (.i (a:Int)) (.i (b:Int)) (.i (p:Int)) (.func 69 [] [.ptr xb 0 0 1]) (.i 0) (.i (i:Int)) (.i (j:Int))) H0 :=
  RunsTo.hin N 60 [⟨5,2,.bool true,H⟩,⟨5,7,a0,H⟩,⟨5,8,v0,H⟩,⟨5,11,a1,H⟩,⟨5,12,v1,H⟩,⟨5,13,.i c0,H0⟩,⟨5,14,.bool false,H0⟩] fun kf hk=>⟨_,by kernel_rfl,(oB H (decide_eq_true g0) (oP H g1 (oP H g2 (oP H g3 (oP H g4 (oC (g5 kf (by omega)) (oB H0 (decide_eq_false g6) .nil)))))))⟩
theorem pe_e_2 (N:Nat) (db n:Nat) (cap:Option Nat) (H:Heap) (x:Nat) (a:Nat) (b:Nat) (p:Nat) (i:Nat) (j:Nat)(g0:¬ ((i:Int) ≤ (j:Int))):RT polSo 105 (sub [1,1,1,0,0,0,0,1,0,0,0] B105) (env105 (.c db n cap) (.i (a:Int)) (.i (b:Int)) (.i (p:Int)) (.func 69 [] [.ptr xb 0 0 1]) (.i 0) (.i (i:Int)) (.i (j:Int))) H (.exit 4) (env105 (.c db n cap) (.i (a:Int)) (.i (b:Int)) (.i (p:Int)) (.func 69 [] [.ptr xb 0 0 1]) (.i 0) (.i (i:Int)) (.i (j:Int))) H :=
  RunsTo.hin N 60 [⟨5,2,.bool false,H⟩] fun kf hk=>⟨_,by kernel_rfl,(oB H (decide_eq_false g0) .nil)⟩
theorem pe_f_0 (N:Nat) (db n:Nat) (cap:Option Nat) (H:Heap) (x:Nat) (a:Nat) (b:Nat) (p:Nat) (i:Nat) (j:Nat)(g0:(j:Int) < (i:Int)):RT polSo 105 (sub [1,1,1,0,0,0,0,1,1] B105) (env105 (.c db n cap) (.i (a:Int)) (.i (b:Int)) (.i (p:Int)) (.func 69 [] [.ptr xb 0 0 1]) (.i 0) (.i (i:Int)) (.i (j:Int))) H (.exit 0) (env105 (.c db n cap) (.i (a:Int)) (.i (b:Int)) (.i (p:Int)) (.func 69 [] [.ptr xb 0 0 1]) (.i 0) (.i (i:Int)) (.i (j:Int))) H :=
  RunsTo.hin N 60 [⟨7,2,.bool true,H⟩] fun kf hk=>⟨_,by kernel_rfl,(oB H (decide_eq_true g0) .nil)⟩
theorem pe_f_1 (N:Nat) (db n:Nat) (cap:Option Nat) (H:Heap) (x:Nat) (a:Nat) (b:Nat) (p:Nat) (i:Nat) (j:Nat) {a0:HV} {v0:HV} {a1:HV} {v1:HV} {a2:HV} {H0:Heap} {a3:HV} {H1:Heap} (g0:¬ ((j:Int) < (i:Int))) (g1:idxV Tp 24 (.c db n cap) (.i (j:Int))=some (a0)) (g2:loadV Tp H 3 (a0)=some (v0)) (g3:idxV Tp 24 (.c db n cap) (.i (i:Int))=some (a1)) (g4:loadV Tp H 3 (a1)=some (v1)) (g5:idxV Tp 24 (.c db n cap) (.i (i:Int))=some (a2)) (g6:storeV Tp H 3 (a2) (v0)=some H0) (g7:idxV Tp 24 (.c db n cap) (.i (j:Int))=some (a3)) (g8:storeV Tp H0 3 (a3) (v1)=some H1):RT polSo 105 (sub [1,1,1,0,0,0,0,1,1] B105) (env105 (.c db n cap) (.i (a:Int)) (.i (b:Int)) (.i (p:Int)) (.func 69 [] [.ptr xb 0 0 1]) (.i 0) (.i (i:Int)) (.i (j:Int))) H .normal (env105 (.c db n cap) (.i (a:Int)) (.i (b:Int)) (.i (p:Int)) (.func 69 [] [.ptr xb 0 0 1]) (.i 0) (.i (IntKind.i64.wrap ((i:Int)+1))) (.i (IntKind.i64.wrap ((j:Int) - 1)))) H1 :=
  RunsTo.hin N 60 [⟨7,2,.bool false,H⟩,⟨8,6,a0,H⟩,⟨8,7,v0,H⟩,⟨8,10,a1,H⟩,⟨8,11,v1,H⟩,⟨8,12,a2,H⟩,⟨8,13,.tuple [],H0⟩,⟨8,14,a3,H0⟩,⟨8,15,.tuple [],H1⟩] fun kf hk=>⟨_,by kernel_rfl,(oB H (decide_eq_false g0) (oP H g1 (oP H g2 (oP H g3 (oP H g4 (oP H g5 (oS g6 (oP H0 g7 (oS g8 .nil)))))))))⟩
theorem pe_g_0 (N:Nat) (db n:Nat) (cap:Option Nat) (H:Heap) (x:Nat) (a:Nat) (b:Nat) (p:Nat) (i:Nat) (j:Nat):RT polSo 105 (sub [1,1,1,1] B105) (env105 (.c db n cap) (.i (a:Int)) (.i (b:Int)) (.i (p:Int)) (.func 69 [] [.ptr xb 0 0 1]) (.i 0) (.i (i:Int)) (.i (j:Int))) H .ret (env105 (.c db n cap) (.i (a:Int)) (.i (b:Int)) (.i (p:Int)) (.func 69 [] [.ptr xb 0 0 1]) (.i (i:Int)) (.i (i:Int)) (.i (j:Int))) H :=
  RunsTo.hin N 60 [] fun kf hk=>⟨_,by kernel_rfl,.nil⟩
noncomputable def B104:Code:=Try.f104.body.getD .skip
abbrev env104 (v0 v1 v2 v3 v8 v9 v10 v11 v12:HV):Env:=[(0,v0),(1,v1),(2,v2),(3,v3),(8,v8),(9,v9),(10,v10),(11,v11),(12,v12)]
theorem pi_a_0 (N:Nat) (db n:Nat) (cap:Option Nat) (H:Heap) (x:Nat) (a:Nat) (b:Nat):RT polSo 104 (sub [0] B104) [(0,.c db n cap),(1,.i (a:Int)),(2,.i (b:Int)),(3,.func 69 [] [.ptr xb 0 0 1])] H .normal (env104 (.c db n cap) (.i (a:Int)) (.i (b:Int)) (.func 69 [] [.ptr xb 0 0 1]) (.bool false) Ud Ud Ud Ud) H :=
  RunsTo.hin N 60 [] fun kf hk=>⟨_,by kernel_rfl,.nil⟩
theorem pi_b_0 (N:Nat) (db n:Nat) (cap:Option Nat) (H:Heap) (x:Nat) (a:Nat) (b:Nat) {y9 y10 y11 y12:HV}:RT polSo 104 (sub [1,0] B104) (env104 (.c db n cap) (.i (a:Int)) (.i (b:Int)) (.func 69 [] [.ptr xb 0 0 1]) (.bool false) y9 y10 y11 y12) H .normal (env104 (.c db n cap) (.i (a:Int)) (.i (b:Int)) (.func 69 [] [.ptr xb 0 0 1]) (.bool false) (.i (IntKind.i64.wrap ((a:Int)+1))) y10 y11 y12) H :=
  RunsTo.hin N 60 [] fun kf hk=>⟨_,by kernel_rfl,.nil⟩
theorem pi_c_0 (N:Nat) (db n:Nat) (cap:Option Nat) (H:Heap) (x:Nat) (a:Nat) (b:Nat) (i:Nat) {y10 y11 y12:HV}:RT polSo 104 (sub [1,1,0,0] B104) (env104 (.c db n cap) (.i (a:Int)) (.i (b:Int)) (.func 69 [] [.ptr xb 0 0 1]) (.bool false) (.i (i:Int)) y10 y11 y12) H .normal (env104 (.c db n cap) (.i (a:Int)) (.i (b:Int)) (.func 69 [] [.ptr xb 0 0 1]) (.bool false) (.i (i:Int)) (.i 0) y11 y12) H :=
  RunsTo.hin N 60 [] fun kf hk=>⟨_,by kernel_rfl,.nil⟩
theorem pi_d_0 (N:Nat) (db n:Nat) (cap:Option Nat) (H:Heap) (x:Nat) (a:Nat) (b:Nat) (i:Nat) (k:Nat) {y11 y12:HV}(g0:(k:Int) < 5):RT polSo 104 (sub [1,1,0,1,0,0,0] B104) (env104 (.c db n cap) (.i (a:Int)) (.i (b:Int)) (.func 69 [] [.ptr xb 0 0 1]) (.bool false) (.i (i:Int)) (.i (k:Int)) y11 y12) H .normal (env104 (.c db n cap) (.i (a:Int)) (.i (b:Int)) (.func 69 [] [.ptr xb 0 0 1]) (.bool false) (.i (i:Int)) (.i (k:Int)) y11 y12) H :=
  RunsTo.hin N 60 [⟨3,1,.bool true,H⟩] fun kf hk=>⟨_,by kernel_rfl,(oB H (decide_eq_true g0) .nil)⟩
theorem pi_d_1 (N:Nat) (db n:Nat) (cap:Option Nat) (H:Heap) (x:Nat) (a:Nat) (b:Nat) (i:Nat) (k:Nat) {y11 y12:HV}(g0:¬ ((k:Int) < 5)):RT polSo 104 (sub [1,1,0,1,0,0,0] B104) (env104 (.c db n cap) (.i (a:Int)) (.i (b:Int)) (.func 69 [] [.ptr xb 0 0 1]) (.bool false) (.i (i:Int)) (.i (k:Int)) y11 y12) H (.exit 0) (env104 (.c db n cap) (.i (a:Int)) (.i (b:Int)) (.func 69 [] [.ptr xb 0 0 1]) (.bool false) (.i (i:Int)) (.i (k:Int)) y11 y12) H :=
  RunsTo.hin N 60 [⟨3,1,.bool false,H⟩] fun kf hk=>⟨_,by kernel_rfl,(oB H (decide_eq_false g0) .nil)⟩
theorem pi_e_0 (N:Nat) (db n:Nat) (cap:Option Nat) (H:Heap) (x:Nat) (a:Nat) (b:Nat) (i:Nat) (k:Nat) {y11 y12:HV} {a0:HV} {v0:HV} {a1:HV} {v1:HV} {c0:Int} {H0:Heap} (g0:(i:Int) < (b:Int)) (g1:idxV Tp 24 (.c db n cap) (.i (i:Int))=some (a0)) (g2:loadV Tp H 3 (a0)=some (v0)) (g3:idxV Tp 24 (.c db n cap) (.i (IntKind.i64.wrap ((i:Int) - 1)))=some (a1)) (g4:loadV Tp H 3 (a1)=some (v1)) (g5:∀ kf,N ≤ kf → callN Tp polSo (kf+1) 69 [v0,v1,.ptr xb 0 0 1] H=some (.i c0,H0)) (g6:c0 < 0):RT polSo 104 (sub [1,1,0,1,0,0,1,0,0,0,0,0] B104) (env104 (.c db n cap) (.i (a:Int)) (.i (b:Int)) (.func 69 [] [.ptr xb 0 0 1]) (.bool false) (.i (i:Int)) (.i (k:Int)) y11 y12) H (.exit 2) (env104 (.c db n cap) (.i (a:Int)) (.i (b:Int)) (.func 69 [] [.ptr xb 0 0 1]) (.bool false) (.i (i:Int)) (.i (k:Int)) y11 y12) H0 :=
  RunsTo.hin N 60 [⟨5,2,.bool true,H⟩,⟨5,7,a0,H⟩,⟨5,8,v0,H⟩,⟨5,12,a1,H⟩,⟨5,13,v1,H⟩,⟨5,14,.i c0,H0⟩,⟨5,15,.bool true,H0⟩] fun kf hk=>⟨_,by kernel_rfl,(oB H (decide_eq_true g0) (oP H g1 (oP H g2 (oP H g3 (oP H g4 (oC (g5 kf (by omega)) (oB H0 (decide_eq_true g6) .nil)))))))⟩
theorem pi_e_1 (N:Nat) (db n:Nat) (cap:Option Nat) (H:Heap) (x:Nat) (a:Nat) (b:Nat) (i:Nat) (k:Nat) {y11 y12:HV} {a0:HV} {v0:HV} {a1:HV} {v1:HV} {c0:Int} {H0:Heap} (g0:(i:Int) < (b:Int)) (g1:idxV Tp 24 (.c db n cap) (.i (i:Int))=some (a0)) (g2:loadV Tp H 3 (a0)=some (v0)) (g3:idxV Tp 24 (.c db n cap) (.i (IntKind.i64.wrap ((i:Int) - 1)))=some (a1)) (g4:loadV Tp H 3 (a1)=some (v1)) (g5:∀ kf,N ≤ kf → callN Tp polSo (kf+1) 69 [v0,v1,.ptr xb 0 0 1] H=some (.i c0,H0)) (g6:¬ (c0 < 0)):RT polSo 104 (sub [1,1,0,1,0,0,1,0,0,0,0,0] B104) (env104 (.c db n cap) (.i (a:Int)) (.i (b:Int)) (.func 69 [] [.ptr xb 0 0 1]) (.bool false) (.i (i:Int)) (.i (k:Int)) y11 y12) H .normal (env104 (.c db n cap) (.i (a:Int)) (.i (b:Int)) (.func 69 [] [.ptr xb 0 0 1]) (.bool false) (.i (IntKind.i64.wrap ((i:Int)+1))) (.i (k:Int)) y11 y12) H0 :=
  RunsTo.hin N 60 [⟨5,2,.bool true,H⟩,⟨5,7,a0,H⟩,⟨5,8,v0,H⟩,⟨5,12,a1,H⟩,⟨5,13,v1,H⟩,⟨5,14,.i c0,H0⟩,⟨5,15,.bool false,H0⟩] fun kf hk=>⟨_,by kernel_rfl,(oB H (decide_eq_true g0) (oP H g1 (oP H g2 (oP H g3 (oP H g4 (oC (g5 kf (by omega)) (oB H0 (decide_eq_false g6) .nil)))))))⟩
theorem pi_e_2 (N:Nat) (db n:Nat) (cap:Option Nat) (H:Heap) (x:Nat) (a:Nat) (b:Nat) (i:Nat) (k:Nat) {y11 y12:HV}(g0:¬ ((i:Int) < (b:Int))):RT polSo 104 (sub [1,1,0,1,0,0,1,0,0,0,0,0] B104) (env104 (.c db n cap) (.i (a:Int)) (.i (b:Int)) (.func 69 [] [.ptr xb 0 0 1]) (.bool false) (.i (i:Int)) (.i (k:Int)) y11 y12) H (.exit 2) (env104 (.c db n cap) (.i (a:Int)) (.i (b:Int)) (.func 69 [] [.ptr xb 0 0 1]) (.bool false) (.i (i:Int)) (.i (k:Int)) y11 y12) H :=
  RunsTo.hin N 60 [⟨5,2,.bool false,H⟩] fun kf hk=>⟨_,by kernel_rfl,(oB H (decide_eq_false g0) .nil)⟩
theorem pi_f_0 (N:Nat) (db n:Nat) (cap:Option Nat) (H:Heap) (x:Nat) (a:Nat) (b:Nat) (i:Nat) (k:Nat) {y11 y12:HV}(g0:(i:Int)=(b:Int)):RT polSo 104 (sub [1,1,0,1,0,0,1,0,0,1,0] B104) (env104 (.c db n cap) (.i (a:Int)) (.i (b:Int)) (.func 69 [] [.ptr xb 0 0 1]) (.bool false) (.i (i:Int)) (.i (k:Int)) y11 y12) H .ret (env104 (.c db n cap) (.i (a:Int)) (.i (b:Int)) (.func 69 [] [.ptr xb 0 0 1]) (.bool true) (.i (i:Int)) (.i (k:Int)) y11 y12) H :=
  RunsTo.hin N 60 [⟨7,2,.bool true,H⟩] fun kf hk=>⟨_,by kernel_rfl,(oB H (decide_eq_true g0) .nil)⟩
theorem pi_f_1 (N:Nat) (db n:Nat) (cap:Option Nat) (H:Heap) (x:Nat) (a:Nat) (b:Nat) (i:Nat) (k:Nat) {y11 y12:HV}(g0:¬ ((i:Int)=(b:Int))):RT polSo 104 (sub [1,1,0,1,0,0,1,0,0,1,0] B104) (env104 (.c db n cap) (.i (a:Int)) (.i (b:Int)) (.func 69 [] [.ptr xb 0 0 1]) (.bool false) (.i (i:Int)) (.i (k:Int)) y11 y12) H .normal (env104 (.c db n cap) (.i (a:Int)) (.i (b:Int)) (.func 69 [] [.ptr xb 0 0 1]) (.bool false) (.i (i:Int)) (.i (k:Int)) y11 y12) H :=
  RunsTo.hin N 60 [⟨7,2,.bool false,H⟩] fun kf hk=>⟨_,by kernel_rfl,(oB H (decide_eq_false g0) .nil)⟩
theorem pi_g_0 (N:Nat) (db n:Nat) (cap:Option Nat) (H:Heap) (x:Nat) (a:Nat) (b:Nat) (i:Nat) (k:Nat) {y11 y12:HV}(g0:IntKind.i64.wrap ((b:Int) - (a:Int)) < 50):RT polSo 104 (sub [1,1,0,1,0,0,1,0,0,1,1,0] B104) (env104 (.c db n cap) (.i (a:Int)) (.i (b:Int)) (.func 69 [] [.ptr xb 0 0 1]) (.bool false) (.i (i:Int)) (.i (k:Int)) y11 y12) H .ret (env104 (.c db n cap) (.i (a:Int)) (.i (b:Int)) (.func 69 [] [.ptr xb 0 0 1]) (.bool false) (.i (i:Int)) (.i (k:Int)) y11 y12) H :=
  RunsTo.hin N 60 [⟨9,3,.bool true,H⟩] fun kf hk=>⟨_,by kernel_rfl,(oB H (decide_eq_true g0) .nil)⟩
theorem pi_g_1 (N:Nat) (db n:Nat) (cap:Option Nat) (H:Heap) (x:Nat) (a:Nat) (b:Nat) (i:Nat) (k:Nat) {y11 y12:HV}(g0:¬ (IntKind.i64.wrap ((b:Int) - (a:Int)) < 50)):RT polSo 104 (sub [1,1,0,1,0,0,1,0,0,1,1,0] B104) (env104 (.c db n cap) (.i (a:Int)) (.i (b:Int)) (.func 69 [] [.ptr xb 0 0 1]) (.bool false) (.i (i:Int)) (.i (k:Int)) y11 y12) H .normal (env104 (.c db n cap) (.i (a:Int)) (.i (b:Int)) (.func 69 [] [.ptr xb 0 0 1]) (.bool false) (.i (i:Int)) (.i (k:Int)) y11 y12) H :=
  RunsTo.hin N 60 [⟨9,3,.bool false,H⟩] fun kf hk=>⟨_,by kernel_rfl,(oB H (decide_eq_false g0) .nil)⟩
theorem pi_h_0 (N:Nat) (db n:Nat) (cap:Option Nat) (H:Heap) (x:Nat) (a:Nat) (b:Nat) (i:Nat) (k:Nat) {y11 y12:HV} {a0:HV} {v0:HV} {a1:HV} {v1:HV} {a2:HV} {H0:Heap} {a3:HV} {H1:Heap} (g0:idxV Tp 24 (.c db n cap) (.i (IntKind.i64.wrap ((i:Int) - 1)))=some (a0)) (g1:loadV Tp H 3 (a0)=some (v0)) (g2:idxV Tp 24 (.c db n cap) (.i (i:Int))=some (a1)) (g3:loadV Tp H 3 (a1)=some (v1)) (g4:idxV Tp 24 (.c db n cap) (.i (i:Int))=some (a2)) (g5:storeV Tp H 3 (a2) (v0)=some H0) (g6:idxV Tp 24 (.c db n cap) (.i (IntKind.i64.wrap ((i:Int) - 1)))=some (a3)) (g7:storeV Tp H0 3 (a3) (v1)=some H1):RT polSo 104 (sub [1,1,0,1,0,0,1,0,0,1,1,1,0] B104) (env104 (.c db n cap) (.i (a:Int)) (.i (b:Int)) (.func 69 [] [.ptr xb 0 0 1]) (.bool false) (.i (i:Int)) (.i (k:Int)) y11 y12) H .normal (env104 (.c db n cap) (.i (a:Int)) (.i (b:Int)) (.func 69 [] [.ptr xb 0 0 1]) (.bool false) (.i (i:Int)) (.i (k:Int)) y11 y12) H1 :=
  RunsTo.hin N 60 [⟨11,8,a0,H⟩,⟨11,9,v0,H⟩,⟨11,12,a1,H⟩,⟨11,13,v1,H⟩,⟨11,14,a2,H⟩,⟨11,15,.tuple [],H0⟩,⟨11,16,a3,H0⟩,⟨11,17,.tuple [],H1⟩] fun kf hk=>⟨_,by kernel_rfl,(oP H g0 (oP H g1 (oP H g2 (oP H g3 (oP H g4 (oS g5 (oP H0 g6 (oS g7 .nil))))))))⟩
theorem pi_i_0 (N:Nat) (db n:Nat) (cap:Option Nat) (H:Heap) (x:Nat) (a:Nat) (b:Nat) (i:Nat) (k:Nat) {y11 y12:HV}(g0:2 ≤ IntKind.i64.wrap ((i:Int) - (a:Int))):RunsTo Tp polSo 104 (sub [1,1,0,1,0,0,1,0,0,1,1,1,1,0,0] B104) (env104 (.c db n cap) (.i (a:Int)) (.i (b:Int)) (.func 69 [] [.ptr xb 0 0 1]) (.bool false) (.i (i:Int)) (.i (k:Int)) y11 y12) H .normal [0,1,2,3,8,9,10,11,12,65] [(0,.c db n cap),(1,.i (a:Int)),(2,.i (b:Int)),(3,.func 69 [] [.ptr xb 0 0 1]),(8,.bool false),(9,.i (i:Int)),(10,.i (k:Int)),(11,y11),(12,y12),(65,.bool true)] H :=
  RunsTo.hin N 60 [⟨12,3,.bool true,H⟩] fun kf hk=>⟨_,by kernel_rfl,(oB H (decide_eq_true g0) .nil)⟩
theorem pi_i_1 (N:Nat) (db n:Nat) (cap:Option Nat) (H:Heap) (x:Nat) (a:Nat) (b:Nat) (i:Nat) (k:Nat) {y11 y12:HV}(g0:¬ (2 ≤ IntKind.i64.wrap ((i:Int) - (a:Int)))):RunsTo Tp polSo 104 (sub [1,1,0,1,0,0,1,0,0,1,1,1,1,0,0] B104) (env104 (.c db n cap) (.i (a:Int)) (.i (b:Int)) (.func 69 [] [.ptr xb 0 0 1]) (.bool false) (.i (i:Int)) (.i (k:Int)) y11 y12) H .normal [0,1,2,3,8,9,10,11,12,65] [(0,.c db n cap),(1,.i (a:Int)),(2,.i (b:Int)),(3,.func 69 [] [.ptr xb 0 0 1]),(8,.bool false),(9,.i (i:Int)),(10,.i (k:Int)),(11,y11),(12,y12),(65,.bool false)] H :=
  RunsTo.hin N 60 [⟨12,3,.bool false,H⟩] fun kf hk=>⟨_,by kernel_rfl,(oB H (decide_eq_false g0) .nil)⟩
theorem pi_j_0 (N:Nat) (db n:Nat) (cap:Option Nat) (H:Heap) (x:Nat) (a:Nat) (b:Nat) (i:Nat) (k:Nat) {y11 y12:HV}:RT polSo 104 (sub [1,1,0,1,0,0,1,0,0,1,1,1,1,0,1,0,0] B104) (env104 (.c db n cap) (.i (a:Int)) (.i (b:Int)) (.func 69 [] [.ptr xb 0 0 1]) (.bool false) (.i (i:Int)) (.i (k:Int)) y11 y12) H .normal (env104 (.c db n cap) (.i (a:Int)) (.i (b:Int)) (.func 69 [] [.ptr xb 0 0 1]) (.bool false) (.i (i:Int)) (.i (k:Int)) (.i (IntKind.i64.wrap ((i:Int) - 1))) y12) H :=
  RunsTo.hin N 60 [] fun kf hk=>⟨_,by kernel_rfl,.nil⟩
theorem pi_k_0 (N:Nat) (db n:Nat) (cap:Option Nat) (H:Heap) (x:Nat) (a:Nat) (b:Nat) (i:Nat) (k:Nat) (j:Nat) {y12:HV} {a0:HV} {v0:HV} {a1:HV} {v1:HV} {c0:Int} {H0:Heap} {a2:HV} {v2:HV} {a3:HV} {v3:HV} {a4:HV} {H1:Heap} {a5:HV} {H2:Heap} (g0:1 ≤ (j:Int)) (g1:idxV Tp 24 (.c db n cap) (.i (j:Int))=some (a0)) (g2:loadV Tp H 3 (a0)=some (v0)) (g3:idxV Tp 24 (.c db n cap) (.i (IntKind.i64.wrap ((j:Int) - 1)))=some (a1)) (g4:loadV Tp H 3 (a1)=some (v1)) (g5:∀ kf,N ≤ kf → callN Tp polSo (kf+1) 69 [v0,v1,.ptr xb 0 0 1] H=some (.i c0,H0)) (g6:c0 < 0) (g7:idxV Tp 24 (.c db n cap) (.i (IntKind.i64.wrap ((j:Int) - 1)))=some (a2)) (g8:loadV Tp H0 3 (a2)=some (v2)) (g9:idxV Tp 24 (.c db n cap) (.i (j:Int))=some (a3)) (g10:loadV Tp H0 3 (a3)=some (v3)) (g11:idxV Tp 24 (.c db n cap) (.i (j:Int))=some (a4)) (g12:storeV Tp H0 3 (a4) (v2)=some H1) (g13:idxV Tp 24 (.c db n cap) (.i (IntKind.i64.wrap ((j:Int) - 1)))=some (a5)) (g14:storeV Tp H1 3 (a5) (v3)=some H2):RT polSo 104 (sub [1,1,0,1,0,0,1,0,0,1,1,1,1,0,1,0,1,0,0] B104) (env104 (.c db n cap) (.i (a:Int)) (.i (b:Int)) (.func 69 [] [.ptr xb 0 0 1]) (.bool false) (.i (i:Int)) (.i (k:Int)) (.i (j:Int)) y12) H .normal (env104 (.c db n cap) (.i (a:Int)) (.i (b:Int)) (.func 69 [] [.ptr xb 0 0 1]) (.bool false) (.i (i:Int)) (.i (k:Int)) (.i (IntKind.i64.wrap ((j:Int) - 1))) y12) H2 :=
  RunsTo.hin N 60 [⟨14,1,.bool true,H⟩,⟨16,3,a0,H⟩,⟨16,4,v0,H⟩,⟨16,8,a1,H⟩,⟨16,9,v1,H⟩,⟨16,10,.i c0,H0⟩,⟨16,11,.bool true,H0⟩,⟨17,8,a2,H0⟩,⟨17,9,v2,H0⟩,⟨17,12,a3,H0⟩,⟨17,13,v3,H0⟩,⟨17,14,a4,H0⟩,⟨17,15,.tuple [],H1⟩,⟨17,16,a5,H1⟩,⟨17,17,.tuple [],H2⟩] fun kf hk=>⟨_,by kernel_rfl,(oB H (decide_eq_true g0) (oP H g1 (oP H g2 (oP H g3 (oP H g4 (oC (g5 kf (by omega)) (oB H0 (decide_eq_true g6) (oP H0 g7 (oP H0 g8 (oP H0 g9 (oP H0 g10 (oP H0 g11 (oS g12 (oP H1 g13 (oS g14 .nil)))))))))))))))⟩
theorem pi_k_1 (N:Nat) (db n:Nat) (cap:Option Nat) (H:Heap) (x:Nat) (a:Nat) (b:Nat) (i:Nat) (k:Nat) (j:Nat) {y12:HV} {a0:HV} {v0:HV} {a1:HV} {v1:HV} {c0:Int} {H0:Heap} (g0:1 ≤ (j:Int)) (g1:idxV Tp 24 (.c db n cap) (.i (j:Int))=some (a0)) (g2:loadV Tp H 3 (a0)=some (v0)) (g3:idxV Tp 24 (.c db n cap) (.i (IntKind.i64.wrap ((j:Int) - 1)))=some (a1)) (g4:loadV Tp H 3 (a1)=some (v1)) (g5:∀ kf,N ≤ kf → callN Tp polSo (kf+1) 69 [v0,v1,.ptr xb 0 0 1] H=some (.i c0,H0)) (g6:¬ (c0 < 0)):RT polSo 104 (sub [1,1,0,1,0,0,1,0,0,1,1,1,1,0,1,0,1,0,0] B104) (env104 (.c db n cap) (.i (a:Int)) (.i (b:Int)) (.func 69 [] [.ptr xb 0 0 1]) (.bool false) (.i (i:Int)) (.i (k:Int)) (.i (j:Int)) y12) H (.exit 4) (env104 (.c db n cap) (.i (a:Int)) (.i (b:Int)) (.func 69 [] [.ptr xb 0 0 1]) (.bool false) (.i (i:Int)) (.i (k:Int)) (.i (j:Int)) y12) H0 :=
  RunsTo.hin N 60 [⟨14,1,.bool true,H⟩,⟨16,3,a0,H⟩,⟨16,4,v0,H⟩,⟨16,8,a1,H⟩,⟨16,9,v1,H⟩,⟨16,10,.i c0,H0⟩,⟨16,11,.bool false,H0⟩] fun kf hk=>⟨_,by kernel_rfl,(oB H (decide_eq_true g0) (oP H g1 (oP H g2 (oP H g3 (oP H g4 (oC (g5 kf (by omega)) (oB H0 (decide_eq_false g6) .nil)))))))⟩
theorem pi_k_2 (N:Nat) (db n:Nat) (cap:Option Nat) (H:Heap) (x:Nat) (a:Nat) (b:Nat) (i:Nat) (k:Nat) (j:Nat) {y12:HV}(g0:¬ (1 ≤ (j:Int))):RT polSo 104 (sub [1,1,0,1,0,0,1,0,0,1,1,1,1,0,1,0,1,0,0] B104) (env104 (.c db n cap) (.i (a:Int)) (.i (b:Int)) (.func 69 [] [.ptr xb 0 0 1]) (.bool false) (.i (i:Int)) (.i (k:Int)) (.i (j:Int)) y12) H (.exit 4) (env104 (.c db n cap) (.i (a:Int)) (.i (b:Int)) (.func 69 [] [.ptr xb 0 0 1]) (.bool false) (.i (i:Int)) (.i (k:Int)) (.i (j:Int)) y12) H :=
  RunsTo.hin N 60 [⟨14,1,.bool false,H⟩] fun kf hk=>⟨_,by kernel_rfl,(oB H (decide_eq_false g0) .nil)⟩
theorem pi_l_0 (N:Nat) (db n:Nat) (cap:Option Nat) (H:Heap) (x:Nat) (a:Nat) (b:Nat) (i:Nat) (k:Nat) {y11 y12:HV}(g0:2 ≤ IntKind.i64.wrap ((b:Int) - (i:Int))):RunsTo Tp polSo 104 (sub [1,1,0,1,0,0,1,0,0,1,1,1,1,1,0] B104) (env104 (.c db n cap) (.i (a:Int)) (.i (b:Int)) (.func 69 [] [.ptr xb 0 0 1]) (.bool false) (.i (i:Int)) (.i (k:Int)) y11 y12) H .normal [0,1,2,3,8,9,10,11,12,104] [(0,.c db n cap),(1,.i (a:Int)),(2,.i (b:Int)),(3,.func 69 [] [.ptr xb 0 0 1]),(8,.bool false),(9,.i (i:Int)),(10,.i (k:Int)),(11,y11),(12,y12),(104,.bool true)] H :=
  RunsTo.hin N 60 [⟨18,3,.bool true,H⟩] fun kf hk=>⟨_,by kernel_rfl,(oB H (decide_eq_true g0) .nil)⟩
theorem pi_l_1 (N:Nat) (db n:Nat) (cap:Option Nat) (H:Heap) (x:Nat) (a:Nat) (b:Nat) (i:Nat) (k:Nat) {y11 y12:HV}(g0:¬ (2 ≤ IntKind.i64.wrap ((b:Int) - (i:Int)))):RunsTo Tp polSo 104 (sub [1,1,0,1,0,0,1,0,0,1,1,1,1,1,0] B104) (env104 (.c db n cap) (.i (a:Int)) (.i (b:Int)) (.func 69 [] [.ptr xb 0 0 1]) (.bool false) (.i (i:Int)) (.i (k:Int)) y11 y12) H .normal [0,1,2,3,8,9,10,11,12,104] [(0,.c db n cap),(1,.i (a:Int)),(2,.i (b:Int)),(3,.func 69 [] [.ptr xb 0 0 1]),(8,.bool false),(9,.i (i:Int)),(10,.i (k:Int)),(11,y11),(12,y12),(104,.bool false)] H :=
  RunsTo.hin N 60 [⟨18,3,.bool false,H⟩] fun kf hk=>⟨_,by kernel_rfl,(oB H (decide_eq_false g0) .nil)⟩
theorem pi_m_0 (N:Nat) (db n:Nat) (cap:Option Nat) (H:Heap) (x:Nat) (a:Nat) (b:Nat) (i:Nat) (k:Nat) {y11 y12:HV}:RT polSo 104 (sub [1,1,0,1,0,0,1,0,0,1,1,1,1,1,1,0,0] B104) (env104 (.c db n cap) (.i (a:Int)) (.i (b:Int)) (.func 69 [] [.ptr xb 0 0 1]) (.bool false) (.i (i:Int)) (.i (k:Int)) y11 y12) H .normal (env104 (.c db n cap) (.i (a:Int)) (.i (b:Int)) (.func 69 [] [.ptr xb 0 0 1]) (.bool false) (.i (i:Int)) (.i (k:Int)) y11 (.i (IntKind.i64.wrap ((i:Int)+1)))) H :=
  RunsTo.hin N 60 [] fun kf hk=>⟨_,by kernel_rfl,.nil⟩
theorem pi_n_0 (N:Nat) (db n:Nat) (cap:Option Nat) (H:Heap) (x:Nat) (a:Nat) (b:Nat) (i:Nat) (k:Nat) (w:Nat) {y11:HV} {a0:HV} {v0:HV} {a1:HV} {v1:HV} {c0:Int} {H0:Heap} {a2:HV} {v2:HV} {a3:HV} {v3:HV} {a4:HV} {H1:Heap} {a5:HV} {H2:Heap} (g0:(w:Int) < (b:Int)) (g1:idxV Tp 24 (.c db n cap) (.i (w:Int))=some (a0)) (g2:loadV Tp H 3 (a0)=some (v0)) (g3:idxV Tp 24 (.c db n cap) (.i (IntKind.i64.wrap ((w:Int) - 1)))=some (a1)) (g4:loadV Tp H 3 (a1)=some (v1)) (g5:∀ kf,N ≤ kf → callN Tp polSo (kf+1) 69 [v0,v1,.ptr xb 0 0 1] H=some (.i c0,H0)) (g6:c0 < 0) (g7:idxV Tp 24 (.c db n cap) (.i (IntKind.i64.wrap ((w:Int) - 1)))=some (a2)) (g8:loadV Tp H0 3 (a2)=some (v2)) (g9:idxV Tp 24 (.c db n cap) (.i (w:Int))=some (a3)) (g10:loadV Tp H0 3 (a3)=some (v3)) (g11:idxV Tp 24 (.c db n cap) (.i (w:Int))=some (a4)) (g12:storeV Tp H0 3 (a4) (v2)=some H1) (g13:idxV Tp 24 (.c db n cap) (.i (IntKind.i64.wrap ((w:Int) - 1)))=some (a5)) (g14:storeV Tp H1 3 (a5) (v3)=some H2):RT polSo 104 (sub [1,1,0,1,0,0,1,0,0,1,1,1,1,1,1,0,1,0,0] B104) (env104 (.c db n cap) (.i (a:Int)) (.i (b:Int)) (.func 69 [] [.ptr xb 0 0 1]) (.bool false) (.i (i:Int)) (.i (k:Int)) y11 (.i (w:Int))) H .normal (env104 (.c db n cap) (.i (a:Int)) (.i (b:Int)) (.func 69 [] [.ptr xb 0 0 1]) (.bool false) (.i (i:Int)) (.i (k:Int)) y11 (.i (IntKind.i64.wrap ((w:Int)+1)))) H2 :=
  RunsTo.hin N 60 [⟨20,2,.bool true,H⟩,⟨22,3,a0,H⟩,⟨22,4,v0,H⟩,⟨22,8,a1,H⟩,⟨22,9,v1,H⟩,⟨22,10,.i c0,H0⟩,⟨22,11,.bool true,H0⟩,⟨23,8,a2,H0⟩,⟨23,9,v2,H0⟩,⟨23,12,a3,H0⟩,⟨23,13,v3,H0⟩,⟨23,14,a4,H0⟩,⟨23,15,.tuple [],H1⟩,⟨23,16,a5,H1⟩,⟨23,17,.tuple [],H2⟩] fun kf hk=>⟨_,by kernel_rfl,(oB H (decide_eq_true g0) (oP H g1 (oP H g2 (oP H g3 (oP H g4 (oC (g5 kf (by omega)) (oB H0 (decide_eq_true g6) (oP H0 g7 (oP H0 g8 (oP H0 g9 (oP H0 g10 (oP H0 g11 (oS g12 (oP H1 g13 (oS g14 .nil)))))))))))))))⟩
theorem pi_n_1 (N:Nat) (db n:Nat) (cap:Option Nat) (H:Heap) (x:Nat) (a:Nat) (b:Nat) (i:Nat) (k:Nat) (w:Nat) {y11:HV} {a0:HV} {v0:HV} {a1:HV} {v1:HV} {c0:Int} {H0:Heap} (g0:(w:Int) < (b:Int)) (g1:idxV Tp 24 (.c db n cap) (.i (w:Int))=some (a0)) (g2:loadV Tp H 3 (a0)=some (v0)) (g3:idxV Tp 24 (.c db n cap) (.i (IntKind.i64.wrap ((w:Int) - 1)))=some (a1)) (g4:loadV Tp H 3 (a1)=some (v1)) (g5:∀ kf,N ≤ kf → callN Tp polSo (kf+1) 69 [v0,v1,.ptr xb 0 0 1] H=some (.i c0,H0)) (g6:¬ (c0 < 0)):RT polSo 104 (sub [1,1,0,1,0,0,1,0,0,1,1,1,1,1,1,0,1,0,0] B104) (env104 (.c db n cap) (.i (a:Int)) (.i (b:Int)) (.func 69 [] [.ptr xb 0 0 1]) (.bool false) (.i (i:Int)) (.i (k:Int)) y11 (.i (w:Int))) H (.exit 6) (env104 (.c db n cap) (.i (a:Int)) (.i (b:Int)) (.func 69 [] [.ptr xb 0 0 1]) (.bool false) (.i (i:Int)) (.i (k:Int)) y11 (.i (w:Int))) H0 :=
  RunsTo.hin N 60 [⟨20,2,.bool true,H⟩,⟨22,3,a0,H⟩,⟨22,4,v0,H⟩,⟨22,8,a1,H⟩,⟨22,9,v1,H⟩,⟨22,10,.i c0,H0⟩,⟨22,11,.bool false,H0⟩] fun kf hk=>⟨_,by kernel_rfl,(oB H (decide_eq_true g0) (oP H g1 (oP H g2 (oP H g3 (oP H g4 (oC (g5 kf (by omega)) (oB H0 (decide_eq_false g6) .nil)))))))⟩
theorem pi_n_2 (N:Nat) (db n:Nat) (cap:Option Nat) (H:Heap) (x:Nat) (a:Nat) (b:Nat) (i:Nat) (k:Nat) (w:Nat) {y11:HV}(g0:¬ ((w:Int) < (b:Int))):RT polSo 104 (sub [1,1,0,1,0,0,1,0,0,1,1,1,1,1,1,0,1,0,0] B104) (env104 (.c db n cap) (.i (a:Int)) (.i (b:Int)) (.func 69 [] [.ptr xb 0 0 1]) (.bool false) (.i (i:Int)) (.i (k:Int)) y11 (.i (w:Int))) H (.exit 6) (env104 (.c db n cap) (.i (a:Int)) (.i (b:Int)) (.func 69 [] [.ptr xb 0 0 1]) (.bool false) (.i (i:Int)) (.i (k:Int)) y11 (.i (w:Int))) H :=
  RunsTo.hin N 60 [⟨20,2,.bool false,H⟩] fun kf hk=>⟨_,by kernel_rfl,(oB H (decide_eq_false g0) .nil)⟩
theorem pi_o_0 (N:Nat) (db n:Nat) (cap:Option Nat) (H:Heap) (x:Nat) (a:Nat) (b:Nat) (i:Nat) (k:Nat) {y11 y12:HV}:RT polSo 104 (sub [1,1,0,1,0,0,1,1] B104) (env104 (.c db n cap) (.i (a:Int)) (.i (b:Int)) (.func 69 [] [.ptr xb 0 0 1]) (.bool false) (.i (i:Int)) (.i (k:Int)) y11 y12) H .normal (env104 (.c db n cap) (.i (a:Int)) (.i (b:Int)) (.func 69 [] [.ptr xb 0 0 1]) (.bool false) (.i (i:Int)) (.i (IntKind.i64.wrap ((k:Int)+1))) y11 y12) H :=
  RunsTo.hin N 60 [] fun kf hk=>⟨_,by kernel_rfl,.nil⟩
theorem pi_p_0 (N:Nat) (db n:Nat) (cap:Option Nat) (H:Heap) (x:Nat) (a:Nat) (b:Nat) (i:Nat) (k:Nat) {y11 y12:HV}:RT polSo 104 (sub [1,1,1] B104) (env104 (.c db n cap) (.i (a:Int)) (.i (b:Int)) (.func 69 [] [.ptr xb 0 0 1]) (.bool false) (.i (i:Int)) (.i (k:Int)) y11 y12) H .ret (env104 (.c db n cap) (.i (a:Int)) (.i (b:Int)) (.func 69 [] [.ptr xb 0 0 1]) (.bool false) (.i (i:Int)) (.i (k:Int)) y11 y12) H :=
  RunsTo.hin N 60 [] fun kf hk=>⟨_,by kernel_rfl,.nil⟩
end
end Go.Proofs.Ytiejmoglooaalaa
end
section
open Go Go.HL Go.HL.So
namespace Go.Proofs.Ytiejmoglooaalaa
set_option linter.unusedSectionVars false
open Go.Proofs.Try renaming prog → Tp
open Go.HL.HV renaming undef → Ud
section
variable {xb:Nat} {α:Type} [Inhabited α] {enc:α → HV} {lt:α → α → Prop} {dom:α → Prop} {H:Heap} {db n:Nat} {cap:Option Nat}
theorem pt1 (S:So xb enc lt dom H db n) {T:Heap} (hT:mxs T=0) {a b p j:Nat} {l:List α} (hl:l.length=n) (hD:Dm dom l):∀ (d i:Nat),j+1 - i ≤ d → a < i → i ≤ j+1 → j < n →
    ∃ i':Nat,RT polSo 106 (sub [1,1,1,0,0] B106) (env106 (.sl db 0 n cap n 1) (.int .i64 (a:Int)) (.int .i64 (b:Int)) (.int .i64 (p:Int)) (.func 69 [] [.ptr xb 0 0 1]) (.int .i64 0) (.bool false) (.int .i64 (i:Int)) (.int .i64 (j:Int))) (Mm enc H db l T) (.exit 0) (env106 (.sl db 0 n cap n 1) (.int .i64 (a:Int)) (.int .i64 (b:Int)) (.int .i64 (p:Int)) (.func 69 [] [.ptr xb 0 0 1]) (.int .i64 0) (.bool false) (.int .i64 (i':Int)) (.int .i64 (j:Int))) (Mm enc H db l T)∧i ≤ i'∧i' ≤ j+1∧(∀ k:Nat,i ≤ k → k < i' → lt (at_ l k) (at_ l a))∧(j < i' ∨ ¬ lt (at_ l i') (at_ l a)):=by
  have hn:=S.nb
  intro d
  induction d with
  | zero =>
    intro i hd hi1 hi2 hj
    exact ⟨i,lpo (pt_d_2 (xb:=xb) 0 db n cap (Mm enc H db l T) 0 a b p i j (by omega)),Nat.le_refl _,by omega,fun k h1 h2=>by omega,.inl (by omega)⟩
  | succ d ih =>
    intro i hd hi1 hi2 hj
    by_cases c0:i ≤ j
    · by_cases c:lt (at_ l i) (at_ l a)
      · obtain ⟨cc,N,hN,hc⟩:=S.ct (T:=T) hl hT (hD.at (i:=i) (by omega)) (hD.at (i:=a) (by omega)) c
        have st:=pt_d_0 (xb:=xb) N db n cap (Mm enc H db l T) 0 a b p i j (by omega) (ixs (i:=i) rfl (by omega)) (S.ld l T i hl (by omega)) (ixs (i:=a) rfl (by omega)) (S.ld l T a hl (by omega)) hN hc
        rw [wrap_succ (by omega)] at st
        obtain ⟨i',r,q1,q2,q3,q4⟩:=ih (i+1) (by omega) (by omega) (by omega) hj
        exact ⟨i',lop (st) (gcM _ _ _ _ _ rfl) (r),by omega,q2,fun k h1 h2=>by
          by_cases e:k=i
          · subst e; exact c
          · exact q3 k (by omega) h2,q4⟩
      · have c':¬ lt (at_ l i) (at_ l a):=c
        obtain ⟨cc,N,hN,hc⟩:=S.cf (T:=T) hl hT (hD.at (i:=i) (by omega)) (hD.at (i:=a) (by omega)) c'
        have st:=pt_d_1 (xb:=xb) N db n cap (Mm enc H db l T) 0 a b p i j (by omega) (ixs (i:=i) rfl (by omega)) (S.ld l T i hl (by omega)) (ixs (i:=a) rfl (by omega)) (S.ld l T a hl (by omega)) hN hc
        exact ⟨i,lpo (st),Nat.le_refl _,by omega,fun k h1 h2=>by omega,Or.inr c'⟩
    · exact ⟨i,lpo (pt_d_2 (xb:=xb) 0 db n cap (Mm enc H db l T) 0 a b p i j (by omega)),Nat.le_refl _,by omega,fun k h1 h2=>by omega,.inl (by omega)⟩
theorem pt2 (S:So xb enc lt dom H db n) {T:Heap} (hT:mxs T=0) {a b p i:Nat} {l:List α} (hl:l.length=n) (hD:Dm dom l):∀ (d j:Nat),j+1 - i ≤ d → a < i → i ≤ j+1 → j < n →
    ∃ j':Nat,RT polSo 106 (sub [1,1,1,1,0,0] B106) (env106 (.sl db 0 n cap n 1) (.int .i64 (a:Int)) (.int .i64 (b:Int)) (.int .i64 (p:Int)) (.func 69 [] [.ptr xb 0 0 1]) (.int .i64 0) (.bool false) (.int .i64 (i:Int)) (.int .i64 (j:Int))) (Mm enc H db l T) (.exit 2) (env106 (.sl db 0 n cap n 1) (.int .i64 (a:Int)) (.int .i64 (b:Int)) (.int .i64 (p:Int)) (.func 69 [] [.ptr xb 0 0 1]) (.int .i64 0) (.bool false) (.int .i64 (i:Int)) (.int .i64 (j':Int))) (Mm enc H db l T)∧j' ≤ j∧i ≤ j'+1∧(∀ k:Nat,j' < k → k ≤ j → ¬ lt (at_ l k) (at_ l a))∧(j' < i ∨ lt (at_ l j') (at_ l a)):=by
  have hn:=S.nb
  intro d
  induction d with
  | zero =>
    intro j hd hi1 hi2 hj
    exact ⟨j,lpo (pt_e_2 (xb:=xb) 0 db n cap (Mm enc H db l T) 0 a b p i j (by omega)),Nat.le_refl _,by omega,fun k h1 h2=>by omega,.inl (by omega)⟩
  | succ d ih =>
    intro j hd hi1 hi2 hj
    by_cases c0:i ≤ j
    · by_cases c:¬ lt (at_ l j) (at_ l a)
      · obtain ⟨cc,N,hN,hc⟩:=S.cf (T:=T) hl hT (hD.at (i:=j) (by omega)) (hD.at (i:=a) (by omega)) c
        have st:=pt_e_1 (xb:=xb) N db n cap (Mm enc H db l T) 0 a b p i j (by omega) (ixs (i:=j) rfl (by omega)) (S.ld l T j hl (by omega)) (ixs (i:=a) rfl (by omega)) (S.ld l T a hl (by omega)) hN hc
        rw [wrap_pred (by omega) (by omega)] at st
        obtain ⟨j',r,q1,q2,q3,q4⟩:=ih (j - 1) (by omega) hi1 (by omega) (by omega)
        exact ⟨j',lop (st) (gcM _ _ _ _ _ rfl) (r),by omega,q2,fun k h1 h2=>by
          by_cases e:k=j
          · subst e; exact c
          · exact q3 k h1 (by omega),q4⟩
      · have c':lt (at_ l j) (at_ l a):=Classical.not_not.1 c
        obtain ⟨cc,N,hN,hc⟩:=S.ct (T:=T) hl hT (hD.at (i:=j) (by omega)) (hD.at (i:=a) (by omega)) c'
        have st:=pt_e_0 (xb:=xb) N db n cap (Mm enc H db l T) 0 a b p i j (by omega) (ixs (i:=j) rfl (by omega)) (S.ld l T j hl (by omega)) (ixs (i:=a) rfl (by omega)) (S.ld l T a hl (by omega)) hN hc
        exact ⟨j,lpo (st),Nat.le_refl _,by omega,fun k h1 h2=>by omega,Or.inr c'⟩
    · exact ⟨j,lpo (pt_e_2 (xb:=xb) 0 db n cap (Mm enc H db l T) 0 a b p i j (by omega)),Nat.le_refl _,by omega,fun k h1 h2=>by omega,.inl (by omega)⟩
theorem pt3 (S:So xb enc lt dom H db n) {T:Heap} (hT:mxs T=0) {a b p j:Nat} {l:List α} (hl:l.length=n) (hD:Dm dom l):∀ (d i:Nat),j+1 - i ≤ d → a < i → i ≤ j+1 → j < n →
    ∃ i':Nat,RT polSo 106 (sub [1,1,1,1,1,1,1,1,1,0,0,0,0,0,0] B106) (env106 (.sl db 0 n cap n 1) (.int .i64 (a:Int)) (.int .i64 (b:Int)) (.int .i64 (p:Int)) (.func 69 [] [.ptr xb 0 0 1]) (.int .i64 0) (.bool false) (.int .i64 (i:Int)) (.int .i64 (j:Int))) (Mm enc H db l T) (.exit 6) (env106 (.sl db 0 n cap n 1) (.int .i64 (a:Int)) (.int .i64 (b:Int)) (.int .i64 (p:Int)) (.func 69 [] [.ptr xb 0 0 1]) (.int .i64 0) (.bool false) (.int .i64 (i':Int)) (.int .i64 (j:Int))) (Mm enc H db l T)∧i ≤ i'∧i' ≤ j+1∧(∀ k:Nat,i ≤ k → k < i' → lt (at_ l k) (at_ l a))∧(j < i' ∨ ¬ lt (at_ l i') (at_ l a)):=by
  have hn:=S.nb
  intro d
  induction d with
  | zero =>
    intro i hd hi1 hi2 hj
    exact ⟨i,lpo (pt_j_2 (xb:=xb) 0 db n cap (Mm enc H db l T) 0 a b p i j (by omega)),Nat.le_refl _,by omega,fun k h1 h2=>by omega,.inl (by omega)⟩
  | succ d ih =>
    intro i hd hi1 hi2 hj
    by_cases c0:i ≤ j
    · by_cases c:lt (at_ l i) (at_ l a)
      · obtain ⟨cc,N,hN,hc⟩:=S.ct (T:=T) hl hT (hD.at (i:=i) (by omega)) (hD.at (i:=a) (by omega)) c
        have st:=pt_j_0 (xb:=xb) N db n cap (Mm enc H db l T) 0 a b p i j (by omega) (ixs (i:=i) rfl (by omega)) (S.ld l T i hl (by omega)) (ixs (i:=a) rfl (by omega)) (S.ld l T a hl (by omega)) hN hc
        rw [wrap_succ (by omega)] at st
        obtain ⟨i',r,q1,q2,q3,q4⟩:=ih (i+1) (by omega) (by omega) (by omega) hj
        exact ⟨i',lop (st) (gcM _ _ _ _ _ rfl) (r),by omega,q2,fun k h1 h2=>by
          by_cases e:k=i
          · subst e; exact c
          · exact q3 k (by omega) h2,q4⟩
      · have c':¬ lt (at_ l i) (at_ l a):=c
        obtain ⟨cc,N,hN,hc⟩:=S.cf (T:=T) hl hT (hD.at (i:=i) (by omega)) (hD.at (i:=a) (by omega)) c'
        have st:=pt_j_1 (xb:=xb) N db n cap (Mm enc H db l T) 0 a b p i j (by omega) (ixs (i:=i) rfl (by omega)) (S.ld l T i hl (by omega)) (ixs (i:=a) rfl (by omega)) (S.ld l T a hl (by omega)) hN hc
        exact ⟨i,lpo (st),Nat.le_refl _,by omega,fun k h1 h2=>by omega,Or.inr c'⟩
    · exact ⟨i,lpo (pt_j_2 (xb:=xb) 0 db n cap (Mm enc H db l T) 0 a b p i j (by omega)),Nat.le_refl _,by omega,fun k h1 h2=>by omega,.inl (by omega)⟩
theorem pt4 (S:So xb enc lt dom H db n) {T:Heap} (hT:mxs T=0) {a b p i:Nat} {l:List α} (hl:l.length=n) (hD:Dm dom l):∀ (d j:Nat),j+1 - i ≤ d → a < i → i ≤ j+1 → j < n →
    ∃ j':Nat,RT polSo 106 (sub [1,1,1,1,1,1,1,1,1,0,0,0,0,1,0,0] B106) (env106 (.sl db 0 n cap n 1) (.int .i64 (a:Int)) (.int .i64 (b:Int)) (.int .i64 (p:Int)) (.func 69 [] [.ptr xb 0 0 1]) (.int .i64 0) (.bool false) (.int .i64 (i:Int)) (.int .i64 (j:Int))) (Mm enc H db l T) (.exit 8) (env106 (.sl db 0 n cap n 1) (.int .i64 (a:Int)) (.int .i64 (b:Int)) (.int .i64 (p:Int)) (.func 69 [] [.ptr xb 0 0 1]) (.int .i64 0) (.bool false) (.int .i64 (i:Int)) (.int .i64 (j':Int))) (Mm enc H db l T)∧j' ≤ j∧i ≤ j'+1∧(∀ k:Nat,j' < k → k ≤ j → ¬ lt (at_ l k) (at_ l a))∧(j' < i ∨ lt (at_ l j') (at_ l a)):=by
  have hn:=S.nb
  intro d
  induction d with
  | zero =>
    intro j hd hi1 hi2 hj
    exact ⟨j,lpo (pt_k_2 (xb:=xb) 0 db n cap (Mm enc H db l T) 0 a b p i j (by omega)),Nat.le_refl _,by omega,fun k h1 h2=>by omega,.inl (by omega)⟩
  | succ d ih =>
    intro j hd hi1 hi2 hj
    by_cases c0:i ≤ j
    · by_cases c:¬ lt (at_ l j) (at_ l a)
      · obtain ⟨cc,N,hN,hc⟩:=S.cf (T:=T) hl hT (hD.at (i:=j) (by omega)) (hD.at (i:=a) (by omega)) c
        have st:=pt_k_1 (xb:=xb) N db n cap (Mm enc H db l T) 0 a b p i j (by omega) (ixs (i:=j) rfl (by omega)) (S.ld l T j hl (by omega)) (ixs (i:=a) rfl (by omega)) (S.ld l T a hl (by omega)) hN hc
        rw [wrap_pred (by omega) (by omega)] at st
        obtain ⟨j',r,q1,q2,q3,q4⟩:=ih (j - 1) (by omega) hi1 (by omega) (by omega)
        exact ⟨j',lop (st) (gcM _ _ _ _ _ rfl) (r),by omega,q2,fun k h1 h2=>by
          by_cases e:k=j
          · subst e; exact c
          · exact q3 k h1 (by omega),q4⟩
      · have c':lt (at_ l j) (at_ l a):=Classical.not_not.1 c
        obtain ⟨cc,N,hN,hc⟩:=S.ct (T:=T) hl hT (hD.at (i:=j) (by omega)) (hD.at (i:=a) (by omega)) c'
        have st:=pt_k_0 (xb:=xb) N db n cap (Mm enc H db l T) 0 a b p i j (by omega) (ixs (i:=j) rfl (by omega)) (S.ld l T j hl (by omega)) (ixs (i:=a) rfl (by omega)) (S.ld l T a hl (by omega)) hN hc
        exact ⟨j,lpo (st),Nat.le_refl _,by omega,fun k h1 h2=>by omega,Or.inr c'⟩
    · exact ⟨j,lpo (pt_k_2 (xb:=xb) 0 db n cap (Mm enc H db l T) 0 a b p i j (by omega)),Nat.le_refl _,by omega,fun k h1 h2=>by omega,.inl (by omega)⟩
theorem pe1 (S:So xb enc lt dom H db n) {T:Heap} (hT:mxs T=0) {a b p j:Nat} {l:List α} (hl:l.length=n) (hD:Dm dom l):∀ (d i:Nat),j+1 - i ≤ d → a < i → i ≤ j+1 → j < n →
    ∃ i':Nat,RT polSo 105 (sub [1,1,1,0,0,0,0,0,0] B105) (env105 (.sl db 0 n cap n 1) (.int .i64 (a:Int)) (.int .i64 (b:Int)) (.int .i64 (p:Int)) (.func 69 [] [.ptr xb 0 0 1]) (.int .i64 0) (.int .i64 (i:Int)) (.int .i64 (j:Int))) (Mm enc H db l T) (.exit 2) (env105 (.sl db 0 n cap n 1) (.int .i64 (a:Int)) (.int .i64 (b:Int)) (.int .i64 (p:Int)) (.func 69 [] [.ptr xb 0 0 1]) (.int .i64 0) (.int .i64 (i':Int)) (.int .i64 (j:Int))) (Mm enc H db l T)∧i ≤ i'∧i' ≤ j+1∧(∀ k:Nat,i ≤ k → k < i' → ¬ lt (at_ l a) (at_ l k))∧(j < i' ∨ lt (at_ l a) (at_ l i')):=by
  have hn:=S.nb
  intro d
  induction d with
  | zero =>
    intro i hd hi1 hi2 hj
    exact ⟨i,lpo (pe_d_2 (xb:=xb) 0 db n cap (Mm enc H db l T) 0 a b p i j (by omega)),Nat.le_refl _,by omega,fun k h1 h2=>by omega,.inl (by omega)⟩
  | succ d ih =>
    intro i hd hi1 hi2 hj
    by_cases c0:i ≤ j
    · by_cases c:¬ lt (at_ l a) (at_ l i)
      · obtain ⟨cc,N,hN,hc⟩:=S.cf (T:=T) hl hT (hD.at (i:=a) (by omega)) (hD.at (i:=i) (by omega)) c
        have st:=pe_d_1 (xb:=xb) N db n cap (Mm enc H db l T) 0 a b p i j (by omega) (ixs (i:=a) rfl (by omega)) (S.ld l T a hl (by omega)) (ixs (i:=i) rfl (by omega)) (S.ld l T i hl (by omega)) hN hc
        rw [wrap_succ (by omega)] at st
        obtain ⟨i',r,q1,q2,q3,q4⟩:=ih (i+1) (by omega) (by omega) (by omega) hj
        exact ⟨i',lop (st) (gcM _ _ _ _ _ rfl) (r),by omega,q2,fun k h1 h2=>by
          by_cases e:k=i
          · subst e; exact c
          · exact q3 k (by omega) h2,q4⟩
      · have c':lt (at_ l a) (at_ l i):=Classical.not_not.1 c
        obtain ⟨cc,N,hN,hc⟩:=S.ct (T:=T) hl hT (hD.at (i:=a) (by omega)) (hD.at (i:=i) (by omega)) c'
        have st:=pe_d_0 (xb:=xb) N db n cap (Mm enc H db l T) 0 a b p i j (by omega) (ixs (i:=a) rfl (by omega)) (S.ld l T a hl (by omega)) (ixs (i:=i) rfl (by omega)) (S.ld l T i hl (by omega)) hN hc
        exact ⟨i,lpo (st),Nat.le_refl _,by omega,fun k h1 h2=>by omega,Or.inr c'⟩
    · exact ⟨i,lpo (pe_d_2 (xb:=xb) 0 db n cap (Mm enc H db l T) 0 a b p i j (by omega)),Nat.le_refl _,by omega,fun k h1 h2=>by omega,.inl (by omega)⟩
theorem pe2 (S:So xb enc lt dom H db n) {T:Heap} (hT:mxs T=0) {a b p i:Nat} {l:List α} (hl:l.length=n) (hD:Dm dom l):∀ (d j:Nat),j+1 - i ≤ d → a < i → i ≤ j+1 → j < n →
    ∃ j':Nat,RT polSo 105 (sub [1,1,1,0,0,0,0,1,0,0] B105) (env105 (.sl db 0 n cap n 1) (.int .i64 (a:Int)) (.int .i64 (b:Int)) (.int .i64 (p:Int)) (.func 69 [] [.ptr xb 0 0 1]) (.int .i64 0) (.int .i64 (i:Int)) (.int .i64 (j:Int))) (Mm enc H db l T) (.exit 4) (env105 (.sl db 0 n cap n 1) (.int .i64 (a:Int)) (.int .i64 (b:Int)) (.int .i64 (p:Int)) (.func 69 [] [.ptr xb 0 0 1]) (.int .i64 0) (.int .i64 (i:Int)) (.int .i64 (j':Int))) (Mm enc H db l T)∧j' ≤ j∧i ≤ j'+1∧(∀ k:Nat,j' < k → k ≤ j → lt (at_ l a) (at_ l k))∧(j' < i ∨ ¬ lt (at_ l a) (at_ l j')):=by
  have hn:=S.nb
  intro d
  induction d with
  | zero =>
    intro j hd hi1 hi2 hj
    exact ⟨j,lpo (pe_e_2 (xb:=xb) 0 db n cap (Mm enc H db l T) 0 a b p i j (by omega)),Nat.le_refl _,by omega,fun k h1 h2=>by omega,.inl (by omega)⟩
  | succ d ih =>
    intro j hd hi1 hi2 hj
    by_cases c0:i ≤ j
    · by_cases c:lt (at_ l a) (at_ l j)
      · obtain ⟨cc,N,hN,hc⟩:=S.ct (T:=T) hl hT (hD.at (i:=a) (by omega)) (hD.at (i:=j) (by omega)) c
        have st:=pe_e_0 (xb:=xb) N db n cap (Mm enc H db l T) 0 a b p i j (by omega) (ixs (i:=a) rfl (by omega)) (S.ld l T a hl (by omega)) (ixs (i:=j) rfl (by omega)) (S.ld l T j hl (by omega)) hN hc
        rw [wrap_pred (by omega) (by omega)] at st
        obtain ⟨j',r,q1,q2,q3,q4⟩:=ih (j - 1) (by omega) hi1 (by omega) (by omega)
        exact ⟨j',lop (st) (gcM _ _ _ _ _ rfl) (r),by omega,q2,fun k h1 h2=>by
          by_cases e:k=j
          · subst e; exact c
          · exact q3 k h1 (by omega),q4⟩
      · have c':¬ lt (at_ l a) (at_ l j):=c
        obtain ⟨cc,N,hN,hc⟩:=S.cf (T:=T) hl hT (hD.at (i:=a) (by omega)) (hD.at (i:=j) (by omega)) c'
        have st:=pe_e_1 (xb:=xb) N db n cap (Mm enc H db l T) 0 a b p i j (by omega) (ixs (i:=a) rfl (by omega)) (S.ld l T a hl (by omega)) (ixs (i:=j) rfl (by omega)) (S.ld l T j hl (by omega)) hN hc
        exact ⟨j,lpo (st),Nat.le_refl _,by omega,fun k h1 h2=>by omega,Or.inr c'⟩
    · exact ⟨j,lpo (pe_e_2 (xb:=xb) 0 db n cap (Mm enc H db l T) 0 a b p i j (by omega)),Nat.le_refl _,by omega,fun k h1 h2=>by omega,.inl (by omega)⟩
theorem swp_ne {l:List α} {i j a:Nat} (hi:i < l.length) (hj:j < l.length) (h1:a ≠ i) (h2:a ≠ j):at_ (swp l i j) a=at_ l a:=by rw [swp_at hi hj,if_neg h2,if_neg h1]
def PI (lt:α → α → Prop) (a b i j:Nat) (l:List α):Prop:=(a < i∧i ≤ j+1∧a ≤ j∧j < b)∧(∀ k,a < k → k < i → lt (at_ l k) (at_ l a))∧∀ k,j < k → k < b → ¬ lt (at_ l k) (at_ l a)
theorem PI.scan {a b i j i' j':Nat} {l:List α} (h:PI lt a b i j l) (h1:i ≤ i') (h2:i' ≤ j+1) (h3:∀ k,i ≤ k → k < i' → lt (at_ l k) (at_ l a)) (h4:j' ≤ j) (h5:i' ≤ j'+1) (h6:∀ k,j' < k → k ≤ j → ¬ lt (at_ l k) (at_ l a)):PI lt a b i' j' l:=by
  obtain ⟨p1,p2,p3⟩:=h
  refine ⟨by omega,fun k q1 q2=>?_,fun k q1 q2=>?_⟩
  · by_cases c:k < i
    · exact p2 k q1 c
    · exact h3 k (by omega) q2
  · by_cases c:j < k
    · exact p3 k c q2
    · exact h6 k q1 (by omega)
theorem PI.swap {a b i j:Nat} {l:List α} (hb:b ≤ l.length) (h:PI lt a b i j l) (hij:i ≤ j) (h1:¬ lt (at_ l i) (at_ l a)) (h2:lt (at_ l j) (at_ l a)):PI lt a b (i+1) (j - 1) (swp l i j):=by
  obtain ⟨p1,p2,p3⟩:=h
  have hne:i ≠ j:=fun e=>by subst e; exact h1 h2
  have e0:at_ (swp l i j) a=at_ l a:=swp_ne (by omega) (by omega) (by omega) (by omega)
  refine ⟨by omega,fun k q1 q2=>?_,fun k q1 q2=>?_⟩
  · rw [e0,swp_at (by omega) (by omega),if_neg (by omega)]
    by_cases c:k=i
    · rw [if_pos c]; exact h2
    · rw [if_neg c]; exact p2 k q1 (by omega)
  · rw [e0,swp_at (by omega) (by omega)]
    by_cases c:k=j
    · rw [if_pos c]; exact h1
    · rw [if_neg c,if_neg (by omega)]; exact p3 k (by omega) q2
theorem PI.done {a b i j:Nat} {l:List α} (hb:b ≤ l.length) (h:PI lt a b i j l) (hij:j < i):(∀ k,a ≤ k → k < j → lt (at_ (swp l j a) k) (at_ (swp l j a) j))∧∀ k,j < k → k < b → ¬ lt (at_ (swp l j a) k) (at_ (swp l j a) j):=by
  obtain ⟨p1,p2,p3⟩:=h
  have ej:at_ (swp l j a) j=at_ l a:=by
    rw [swp_at (by omega) (by omega)]
    by_cases c:j=a
    · rw [if_pos c,c]
    · rw [if_neg c,if_pos rfl]
  refine ⟨fun k q1 q2=>?_,fun k q1 q2=>?_⟩
  · rw [ej,swp_at (by omega) (by omega)]
    by_cases c:k=a
    · rw [if_pos c]; exact p2 j (by omega) (by omega)
    · rw [if_neg c,if_neg (by omega)]; exact p2 k (by omega) (by omega)
  · rw [ej,swp_at (by omega) (by omega),if_neg (by omega),if_neg (by omega)]; exact p3 k q1 q2
theorem pt_main (S:So xb enc lt dom H db n) {T:Heap} (hT:mxs T=0) {a b p:Nat} (hb:b ≤ n):∀ (d i j:Nat) (l:List α),j+1 - i ≤ d → l.length=n → Dm dom l → PI lt a b i j l →
    ∃ (i' j':Nat) (l':List α),RT polSo 106 (sub [1,1,1,1,1,1,1,1,1,0,0] B106) (env106 (.sl db 0 n cap n 1) (.int .i64 (a:Int)) (.int .i64 (b:Int)) (.int .i64 (p:Int)) (.func 69 [] [.ptr xb 0 0 1]) (.int .i64 0) (.bool false) (.int .i64 (i:Int)) (.int .i64 (j:Int))) (Mm enc H db l T) (.exit 4) (env106 (.sl db 0 n cap n 1) (.int .i64 (a:Int)) (.int .i64 (b:Int)) (.int .i64 (p:Int)) (.func 69 [] [.ptr xb 0 0 1]) (.int .i64 0) (.bool false) (.int .i64 (i':Int)) (.int .i64 (j':Int))) (Mm enc H db l' T)∧Sw a b l l'∧PI lt a b i' j' l'∧j' < i':=by
  have hn:=S.nb
  intro d
  induction d with
  | zero =>
    intro i j l hd hl hD hI
    obtain ⟨p1,p2,p3⟩:=id hI
    obtain ⟨i',r1,q1,q2,q3,q4⟩:=pt3 S (cap:=cap) (a:=a) (b:=b) (p:=p) (j:=j) hT hl hD _ i (Nat.le_refl _) p1.1 p1.2.1 (by omega)
    obtain ⟨j',r2,q5,q6,q7,q8⟩:=pt4 S (cap:=cap) (a:=a) (b:=b) (p:=p) hT hl hD _ j (Nat.le_refl _) (i:=i') (by omega) (by omega) (by omega)
    have st:=RunsTo.block_other (i:=5) (c:=sub [1,1,1,1,1,1,1,1,1,0,0,0] B106) (sq (bke (c:=sub [1,1,1,1,1,1,1,1,1,0,0,0,0,0] B106) (r1)) (sq (bke (c:=sub [1,1,1,1,1,1,1,1,1,0,0,0,0,1,0] B106) (r2)) (pt_l_0 (xb:=xb) 0 db n cap (Mm enc H db l T) 0 a b p i' j' (by omega)) (c:=sub [1,1,1,1,1,1,1,1,1,0,0,0,0,1] B106)) (c:=sub [1,1,1,1,1,1,1,1,1,0,0,0,0] B106)) (by simp) (by kernel_rfl)
    exact ⟨i',j',l,lpo (st),.refl,hI.scan q1 q2 q3 q5 q6 q7,by omega⟩
  | succ d ih =>
    intro i j l hd hl hD hI
    obtain ⟨p1,p2,p3⟩:=id hI
    obtain ⟨i',r1,q1,q2,q3,q4⟩:=pt3 S (cap:=cap) (a:=a) (b:=b) (p:=p) (j:=j) hT hl hD _ i (Nat.le_refl _) p1.1 p1.2.1 (by omega)
    obtain ⟨j',r2,q5,q6,q7,q8⟩:=pt4 S (cap:=cap) (a:=a) (b:=b) (p:=p) hT hl hD _ j (Nat.le_refl _) (i:=i') (by omega) (by omega) (by omega)
    have hI':=hI.scan q1 q2 q3 q5 q6 q7
    by_cases c:j' < i'
    · have st:=RunsTo.block_other (i:=5) (c:=sub [1,1,1,1,1,1,1,1,1,0,0,0] B106) (sq (bke (c:=sub [1,1,1,1,1,1,1,1,1,0,0,0,0,0] B106) (r1)) (sq (bke (c:=sub [1,1,1,1,1,1,1,1,1,0,0,0,0,1,0] B106) (r2)) (pt_l_0 (xb:=xb) 0 db n cap (Mm enc H db l T) 0 a b p i' j' (by omega)) (c:=sub [1,1,1,1,1,1,1,1,1,0,0,0,0,1] B106)) (c:=sub [1,1,1,1,1,1,1,1,1,0,0,0,0] B106)) (by simp) (by kernel_rfl)
      exact ⟨i',j',l,lpo (st),.refl,hI',c⟩
    · have q4':=q4.resolve_left (by omega)
      have q8':=q8.resolve_left (by omega)
      obtain ⟨s1,s2⟩:=S.st2 (T:=T) hl (i:=i') (j:=j') (by omega) (by omega)
      have sl:=pt_l_1 (xb:=xb) 0 db n cap (Mm enc H db l T) 0 a b p i' j' (by omega) (ixs (i:=j') rfl (by omega)) (S.ld l T _ hl (by omega)) (ixs (i:=i') rfl (by omega)) (S.ld l T _ hl (by omega)) (ixs (i:=i') rfl (by omega)) s1 (ixs (i:=j') rfl (by omega)) s2
      rw [wrap_succ (by omega),wrap_pred (by omega) (by omega)] at sl
      have st:=RunsTo.block_normal (i:=5) (c:=sub [1,1,1,1,1,1,1,1,1,0,0,0] B106) (sq (bke (c:=sub [1,1,1,1,1,1,1,1,1,0,0,0,0,0] B106) (r1)) (sq (bke (c:=sub [1,1,1,1,1,1,1,1,1,0,0,0,0,1,0] B106) (r2)) (sl) (c:=sub [1,1,1,1,1,1,1,1,1,0,0,0,0,1] B106)) (c:=sub [1,1,1,1,1,1,1,1,1,0,0,0,0] B106)) (by kernel_rfl)
      have sw:Sw a b l (swp l i' j'):=Sw.one (by omega) (by omega) (by omega) (by omega)
      obtain ⟨i2,j2,l',r,w1,w2,w3⟩:=ih (i'+1) (j' - 1) (swp l i' j') (by omega) (by rw [swp_len]; exact hl) (hD.sw sw (by omega)) (hI'.swap (by omega) (by omega) q4' q8')
      exact ⟨i2,j2,l',lop (st) (gcM _ _ _ _ _ rfl) (r),sw.trans w1,w2,w3⟩
theorem part_ok (S:So xb enc lt dom H db n) {T:Heap} (hT:mxs T=0) {a b p:Nat} (hb:b ≤ n) (hp1:a ≤ p) (hp2:p < b) {l:List α} (hl:l.length=n) (hD:Dm dom l) :
    ∃ m bb l',ClS 106 [.sl db 0 n cap n 1,.int .i64 (a:Int),.int .i64 (b:Int),.int .i64 (p:Int),.func 69 [] [.ptr xb 0 0 1]] (Mm enc H db l T) (.tuple [.int .i64 ((m:Nat):Int),.bool bb]) (Mm enc H db l' T)∧Sw a b l l'∧(a ≤ m∧m < b)∧(∀ k,a ≤ k → k < m → lt (at_ l' k) (at_ l' m))∧∀ k,m < k → k < b → ¬ lt (at_ l' k) (at_ l' m):=by
  have hn:=S.nb
  obtain ⟨s1,s2⟩:=S.st2 (T:=T) hl (i:=a) (j:=p) (by omega) (by omega)
  have t0:=pt_a_0 (xb:=xb) 0 db n cap (Mm enc H db l T) 0 a b p
  have t1:=pt_b_0 (xb:=xb) 0 db n cap (Mm enc H db l T) 0 a b p (y12:=Ud) (y13:=Ud) (ixs (i:=p) rfl (by omega)) (S.ld l T _ hl (by omega)) (ixs (i:=a) rfl (by omega)) (S.ld l T _ hl (by omega)) (ixs (i:=a) rfl (by omega)) s1 (ixs (i:=p) rfl (by omega)) s2
  have sw0:Sw a b l (swp l a p):=Sw.one (by omega) (by omega) (by omega) (by omega)
  have hl0:=sw_len sw0 hl
  have hD0:=hD.sw sw0 (by omega)
  generalize swp l a p=l0 at t1 sw0 hl0 hD0 s2
  clear s2
  have t2:=pt_c_0 (xb:=xb) 0 db n cap (Mm enc H db l0 T) 0 a b p (y12:=Ud) (y13:=Ud)
  rw [wrap_succ (by omega),wrap_pred (by omega) (by omega)] at t2
  have hI0:PI lt a b (a+1) (b - 1) l0:=⟨by omega,fun k h1 h2=>by omega,fun k h1 h2=>by omega⟩
  obtain ⟨i,r1,q1,q2,q3,q4⟩:=pt1 S (cap:=cap) (a:=a) (b:=b) (p:=p) (j:=b - 1) hT hl0 hD0 _ (a+1) (Nat.le_refl _) (by omega) (by omega) (by omega)
  obtain ⟨j,r2,q5,q6,q7,q8⟩:=pt2 S (cap:=cap) (a:=a) (b:=b) (p:=p) hT hl0 hD0 _ (b - 1) (Nat.le_refl _) (i:=i) (by omega) (by omega) (by omega)
  have hI:=hI0.scan q1 q2 q3 q5 q6 q7
  have hI':=hI.1
  have fin:∀ (i j:Nat) (l1:List α) (bb:Bool) (E:Env) (H':Heap),Sw a b l l1 → PI lt a b i j l1 → j < i → H'=Mm enc H db (swp l1 j a) T → RT polSo 106 B106 (args0 [.sl db 0 n cap n 1,.int .i64 (a:Int),.int .i64 (b:Int),.int .i64 (p:Int),.func 69 [] [.ptr xb 0 0 1]]) (Mm enc H db l T) .ret E H' → resultsV Tp Try.f106 E H'=some (.tuple [.int .i64 ((j:Nat):Int),.bool bb]) →
      ∃ m bb l',ClS 106 [.sl db 0 n cap n 1,.int .i64 (a:Int),.int .i64 (b:Int),.int .i64 (p:Int),.func 69 [] [.ptr xb 0 0 1]] (Mm enc H db l T) (.tuple [.int .i64 ((m:Nat):Int),.bool bb]) (Mm enc H db l' T)∧Sw a b l l'∧(a ≤ m∧m < b)∧(∀ k,a ≤ k → k < m → lt (at_ l' k) (at_ l' m))∧∀ k,m < k → k < b → ¬ lt (at_ l' k) (at_ l' m):=by
    intro i j l1 bb E H' hs hI hij he t hv
    subst he
    have hI':=hI.1
    have hll:=sw_len hs hl
    have hc:=CallsTo.shared (P:=Tp) (pol:=polSo) (g:=106) (fn:=Try.f106) (cd:=B106) (args:=[.sl db 0 n cap n 1,.int .i64 (a:Int),.int .i64 (b:Int),.int .i64 (p:Int),.func 69 [] [.ptr xb 0 0 1]]) (by kernel_rfl) (by kernel_rfl) (by kernel_rfl) (by kernel_rfl) t (by kernel_rfl) (by simp) hv
    rw [gcM _ _ _ _ _ rfl] at hc
    obtain ⟨w1,w2⟩:=hI.done (by omega) hij
    exact ⟨j,bb,_,hc,hs.step (by omega) (by omega) (Nat.le_refl _) (by omega),by omega,w1,w2⟩
  by_cases c:j < i
  · obtain ⟨s3,s4⟩:=S.st2 (T:=T) hl0 (i:=j) (j:=a) (by omega) (by omega)
    have t3:=pt_f_0 (xb:=xb) 0 db n cap (Mm enc H db l0 T) 0 a b p i j (by omega) (ixs (i:=a) rfl (by omega)) (S.ld l0 T _ hl0 (by omega)) (ixs (i:=j) rfl (by omega)) (S.ld l0 T _ hl0 (by omega)) (ixs (i:=j) rfl (by omega)) s3 (ixs (i:=a) rfl (by omega)) s4
    have t:=sq (t0) (sq (t1) (sq (t2) (sq (bke (c:=sub [1,1,1,0] B106) (r1)) (sq (bke (c:=sub [1,1,1,1,0] B106) (r2)) (sqo (t3) (c:=sub [1,1,1,1,1] B106) (b:=sub [1,1,1,1,1,1] B106)) (c:=sub [1,1,1,1] B106)) (c:=sub [1,1,1] B106)) (c:=sub [1,1] B106)) (c:=sub [1] B106)) (c:=B106)
    exact fin i j l0 true _ _ sw0 hI c rfl t (by kernel_rfl)
  · have q4':=q4.resolve_left (by omega)
    have q8':=q8.resolve_left (by omega)
    obtain ⟨s3,s4⟩:=S.st2 (T:=T) hl0 (i:=i) (j:=j) (by omega) (by omega)
    have t3:=pt_f_1 (xb:=xb) 0 db n cap (Mm enc H db l0 T) 0 a b p i j (by omega)
    have t4:=pt_g_0 (xb:=xb) 0 db n cap (Mm enc H db l0 T) 0 a b p i j (ixs (i:=j) rfl (by omega)) (S.ld l0 T _ hl0 (by omega)) (ixs (i:=i) rfl (by omega)) (S.ld l0 T _ hl0 (by omega)) (ixs (i:=i) rfl (by omega)) s3 (ixs (i:=j) rfl (by omega)) s4
    have sw1:Sw a b l0 (swp l0 i j):=Sw.one (by omega) (by omega) (by omega) (by omega)
    have hl1:=sw_len sw1 hl0
    have hD1:=hD0.sw sw1 (by omega)
    have hI1:=hI.swap (by omega) (by omega) q4' q8'
    generalize swp l0 i j=l1 at t4 sw1 hl1 hD1 hI1 s4
    clear s4
    have t5:=pt_h_0 (xb:=xb) 0 db n cap (Mm enc H db l1 T) 0 a b p i j
    rw [wrap_succ (by omega)] at t5
    have t6:=pt_i_0 (xb:=xb) 0 db n cap (Mm enc H db l1 T) 0 a b p (i+1) j
    rw [wrap_pred (by omega) (by omega)] at t6
    obtain ⟨i2,j2,l2,r3,w1,w2,w3⟩:=pt_main S (cap:=cap) (p:=p) hT hb _ (i+1) (j - 1) l1 (Nat.le_refl _) hl1 hD1 hI1
    have w2':=w2.1
    have hl2:=sw_len w1 hl1
    obtain ⟨s5,s6⟩:=S.st2 (T:=T) hl2 (i:=j2) (j:=a) (by omega) (by omega)
    have t7:=pt_m_0 (xb:=xb) 0 db n cap (Mm enc H db l2 T) 0 a b p i2 j2 (ixs (i:=a) rfl (by omega)) (S.ld l2 T _ hl2 (by omega)) (ixs (i:=j2) rfl (by omega)) (S.ld l2 T _ hl2 (by omega)) (ixs (i:=j2) rfl (by omega)) s5 (ixs (i:=a) rfl (by omega)) s6
    have t:=sq (t0) (sq (t1) (sq (t2) (sq (bke (c:=sub [1,1,1,0] B106) (r1)) (sq (bke (c:=sub [1,1,1,1,0] B106) (r2)) (sq (t3) (sq (t4) (sq (t5) (sq (t6) (sq (bke (c:=sub [1,1,1,1,1,1,1,1,1,0] B106) (r3)) (t7) (c:=sub [1,1,1,1,1,1,1,1,1] B106)) (c:=sub [1,1,1,1,1,1,1,1] B106)) (c:=sub [1,1,1,1,1,1,1] B106)) (c:=sub [1,1,1,1,1,1] B106)) (c:=sub [1,1,1,1,1] B106)) (c:=sub [1,1,1,1] B106)) (c:=sub [1,1,1] B106)) (c:=sub [1,1] B106)) (c:=sub [1] B106)) (c:=B106)
    exact fin i2 j2 l2 false _ _ (sw0.trans (sw1.trans w1)) w2 w3 rfl t (by kernel_rfl)
def PE (lt:α → α → Prop) (a b i j:Nat) (l:List α):Prop:=(a < i∧i ≤ j+1∧a ≤ j∧j < b)∧(∀ k,a < k → k < i → ¬ lt (at_ l a) (at_ l k))∧∀ k,j < k → k < b → lt (at_ l a) (at_ l k)
theorem PE.scan {a b i j i' j':Nat} {l:List α} (h:PE lt a b i j l) (h1:i ≤ i') (h2:i' ≤ j+1) (h3:∀ k,i ≤ k → k < i' → ¬ lt (at_ l a) (at_ l k)) (h4:j' ≤ j) (h5:i' ≤ j'+1) (h6:∀ k,j' < k → k ≤ j → lt (at_ l a) (at_ l k)):PE lt a b i' j' l:=by
  obtain ⟨p1,p2,p3⟩:=h
  refine ⟨by omega,fun k q1 q2=>?_,fun k q1 q2=>?_⟩
  · by_cases c:k < i
    · exact p2 k q1 c
    · exact h3 k (by omega) q2
  · by_cases c:j < k
    · exact p3 k c q2
    · exact h6 k q1 (by omega)
theorem PE.swap {a b i j:Nat} {l:List α} (hb:b ≤ l.length) (h:PE lt a b i j l) (hij:i ≤ j) (h1:lt (at_ l a) (at_ l i)) (h2:¬ lt (at_ l a) (at_ l j)):PE lt a b (i+1) (j - 1) (swp l i j):=by
  obtain ⟨p1,p2,p3⟩:=h
  have hne:i ≠ j:=fun e=>by subst e; exact h2 h1
  have e0:at_ (swp l i j) a=at_ l a:=swp_ne (by omega) (by omega) (by omega) (by omega)
  refine ⟨by omega,fun k q1 q2=>?_,fun k q1 q2=>?_⟩
  · rw [e0,swp_at (by omega) (by omega),if_neg (by omega)]
    by_cases c:k=i
    · rw [if_pos c]; exact h2
    · rw [if_neg c]; exact p2 k q1 (by omega)
  · rw [e0,swp_at (by omega) (by omega)]
    by_cases c:k=j
    · rw [if_pos c]; exact h1
    · rw [if_neg c,if_neg (by omega)]; exact p3 k (by omega) q2
theorem pe_main (S:So xb enc lt dom H db n) {T:Heap} (hT:mxs T=0) {a b p:Nat} (hb:b ≤ n):∀ (d i j:Nat) (l:List α),j+1 - i ≤ d → l.length=n → Dm dom l → PE lt a b i j l →
    ∃ (i' j':Nat) (l':List α),RT polSo 105 (sub [1,1,1,0,0] B105) (env105 (.sl db 0 n cap n 1) (.int .i64 (a:Int)) (.int .i64 (b:Int)) (.int .i64 (p:Int)) (.func 69 [] [.ptr xb 0 0 1]) (.int .i64 0) (.int .i64 (i:Int)) (.int .i64 (j:Int))) (Mm enc H db l T) (.exit 0) (env105 (.sl db 0 n cap n 1) (.int .i64 (a:Int)) (.int .i64 (b:Int)) (.int .i64 (p:Int)) (.func 69 [] [.ptr xb 0 0 1]) (.int .i64 0) (.int .i64 (i':Int)) (.int .i64 (j':Int))) (Mm enc H db l' T)∧Sw a b l l'∧at_ l' a=at_ l a∧PE lt a b i' j' l'∧j' < i':=by
  have hn:=S.nb
  intro d
  induction d with
  | zero =>
    intro i j l hd hl hD hI
    obtain ⟨p1,p2,p3⟩:=id hI
    obtain ⟨i',r1,q1,q2,q3,q4⟩:=pe1 S (cap:=cap) (a:=a) (b:=b) (p:=p) (j:=j) hT hl hD _ i (Nat.le_refl _) p1.1 p1.2.1 (by omega)
    obtain ⟨j',r2,q5,q6,q7,q8⟩:=pe2 S (cap:=cap) (a:=a) (b:=b) (p:=p) hT hl hD _ j (Nat.le_refl _) (i:=i') (by omega) (by omega) (by omega)
    have st:=RunsTo.block_other (i:=1) (c:=sub [1,1,1,0,0,0] B105) (sq (bke (c:=sub [1,1,1,0,0,0,0,0] B105) (r1)) (sq (bke (c:=sub [1,1,1,0,0,0,0,1,0] B105) (r2)) (pe_f_0 (xb:=xb) 0 db n cap (Mm enc H db l T) 0 a b p i' j' (by omega)) (c:=sub [1,1,1,0,0,0,0,1] B105)) (c:=sub [1,1,1,0,0,0,0] B105)) (by simp) (by kernel_rfl)
    exact ⟨i',j',l,lpo (st),.refl,rfl,hI.scan q1 q2 q3 q5 q6 q7,by omega⟩
  | succ d ih =>
    intro i j l hd hl hD hI
    obtain ⟨p1,p2,p3⟩:=id hI
    obtain ⟨i',r1,q1,q2,q3,q4⟩:=pe1 S (cap:=cap) (a:=a) (b:=b) (p:=p) (j:=j) hT hl hD _ i (Nat.le_refl _) p1.1 p1.2.1 (by omega)
    obtain ⟨j',r2,q5,q6,q7,q8⟩:=pe2 S (cap:=cap) (a:=a) (b:=b) (p:=p) hT hl hD _ j (Nat.le_refl _) (i:=i') (by omega) (by omega) (by omega)
    have hI':=hI.scan q1 q2 q3 q5 q6 q7
    by_cases c:j' < i'
    · have st:=RunsTo.block_other (i:=1) (c:=sub [1,1,1,0,0,0] B105) (sq (bke (c:=sub [1,1,1,0,0,0,0,0] B105) (r1)) (sq (bke (c:=sub [1,1,1,0,0,0,0,1,0] B105) (r2)) (pe_f_0 (xb:=xb) 0 db n cap (Mm enc H db l T) 0 a b p i' j' (by omega)) (c:=sub [1,1,1,0,0,0,0,1] B105)) (c:=sub [1,1,1,0,0,0,0] B105)) (by simp) (by kernel_rfl)
      exact ⟨i',j',l,lpo (st),.refl,rfl,hI',c⟩
    · have q4':=q4.resolve_left (by omega)
      have q8':=q8.resolve_left (by omega)
      obtain ⟨s1,s2⟩:=S.st2 (T:=T) hl (i:=i') (j:=j') (by omega) (by omega)
      have sl:=pe_f_1 (xb:=xb) 0 db n cap (Mm enc H db l T) 0 a b p i' j' (by omega) (ixs (i:=j') rfl (by omega)) (S.ld l T _ hl (by omega)) (ixs (i:=i') rfl (by omega)) (S.ld l T _ hl (by omega)) (ixs (i:=i') rfl (by omega)) s1 (ixs (i:=j') rfl (by omega)) s2
      rw [wrap_succ (by omega),wrap_pred (by omega) (by omega)] at sl
      have st:=RunsTo.block_normal (i:=1) (c:=sub [1,1,1,0,0,0] B105) (sq (bke (c:=sub [1,1,1,0,0,0,0,0] B105) (r1)) (sq (bke (c:=sub [1,1,1,0,0,0,0,1,0] B105) (r2)) (sl) (c:=sub [1,1,1,0,0,0,0,1] B105)) (c:=sub [1,1,1,0,0,0,0] B105)) (by kernel_rfl)
      have sw:Sw a b l (swp l i' j'):=Sw.one (by omega) (by omega) (by omega) (by omega)
      have e0:at_ (swp l i' j') a=at_ l a:=swp_ne (by omega) (by omega) (by omega) (by omega)
      obtain ⟨i2,j2,l',r,w1,w0,w2,w3⟩:=ih (i'+1) (j' - 1) (swp l i' j') (by omega) (by rw [swp_len]; exact hl) (hD.sw sw (by omega)) (hI'.swap (by omega) (by omega) q4' q8')
      exact ⟨i2,j2,l',lop (st) (gcM _ _ _ _ _ rfl) (r),sw.trans w1,w0.trans e0,w2,w3⟩
theorem peq_ok (S:So xb enc lt dom H db n) (hL:Lin lt) {T:Heap} (hT:mxs T=0) {a b p:Nat} (hb:b ≤ n) (hp1:a ≤ p) (hp2:p < b) {l:List α} (hl:l.length=n) (hD:Dm dom l) :
    ∃ m l',ClS 105 [.sl db 0 n cap n 1,.int .i64 (a:Int),.int .i64 (b:Int),.int .i64 (p:Int),.func 69 [] [.ptr xb 0 0 1]] (Mm enc H db l T) (.int .i64 ((m:Nat):Int)) (Mm enc H db l' T)∧Sw a b l l'∧(a < m∧m ≤ b)∧(∀ k,a ≤ k → k < m → ¬ lt (at_ l p) (at_ l' k))∧∀ k,m ≤ k → k < b → lt (at_ l p) (at_ l' k):=by
  have hn:=S.nb
  obtain ⟨s1,s2⟩:=S.st2 (T:=T) hl (i:=a) (j:=p) (by omega) (by omega)
  have t0:=pe_a_0 (xb:=xb) 0 db n cap (Mm enc H db l T) 0 a b p
  have t1:=pe_b_0 (xb:=xb) 0 db n cap (Mm enc H db l T) 0 a b p (y11:=Ud) (y12:=Ud) (ixs (i:=p) rfl (by omega)) (S.ld l T _ hl (by omega)) (ixs (i:=a) rfl (by omega)) (S.ld l T _ hl (by omega)) (ixs (i:=a) rfl (by omega)) s1 (ixs (i:=p) rfl (by omega)) s2
  have sw0:Sw a b l (swp l a p):=Sw.one (by omega) (by omega) (by omega) (by omega)
  have e0:at_ (swp l a p) a=at_ l p:=by
    rw [swp_at (by omega) (by omega)]
    by_cases c:a=p
    · rw [if_pos c,c]
    · rw [if_neg c,if_pos rfl]
  have hl0:=sw_len sw0 hl
  have hD0:=hD.sw sw0 (by omega)
  generalize swp l a p=l0 at t1 sw0 hl0 hD0 s2 e0
  clear s2
  have t2:=pe_c_0 (xb:=xb) 0 db n cap (Mm enc H db l0 T) 0 a b p (y11:=Ud) (y12:=Ud)
  rw [wrap_succ (by omega),wrap_pred (by omega) (by omega)] at t2
  have hI0:PE lt a b (a+1) (b - 1) l0:=⟨by omega,fun k h1 h2=>by omega,fun k h1 h2=>by omega⟩
  obtain ⟨i,j,l1,r,w1,w0,w2,w3⟩:=pe_main S (cap:=cap) (p:=p) hT hb _ (a+1) (b - 1) l0 (Nat.le_refl _) hl0 hD0 hI0
  obtain ⟨w4,w5,w6⟩:=w2
  have z:=pe_g_0 (xb:=xb) 0 db n cap (Mm enc H db l1 T) 0 a b p i j
  have t:=sq (t0) (sq (t1) (sq (t2) (sq (bke (c:=sub [1,1,1,0] B105) (r)) (z) (c:=sub [1,1,1] B105)) (c:=sub [1,1] B105)) (c:=sub [1] B105)) (c:=B105)
  have hc:=CallsTo.shared (P:=Tp) (pol:=polSo) (g:=105) (fn:=Try.f105) (cd:=B105) (args:=[.sl db 0 n cap n 1,.int .i64 (a:Int),.int .i64 (b:Int),.int .i64 (p:Int),.func 69 [] [.ptr xb 0 0 1]]) (v:=.int .i64 (i:Int)) (by kernel_rfl) (by kernel_rfl) (by kernel_rfl) (by kernel_rfl) t (by kernel_rfl) (by simp) (by kernel_rfl)
  rw [gcM _ _ _ _ _ rfl] at hc
  refine ⟨i,l1,hc,sw0.trans w1,by omega,fun k h1 h2=>?_,fun k h1 h2=>?_⟩
  · rw [← e0,← w0]
    by_cases c:k=a
    · subst c; exact hL.rf _
    · exact w5 k (by omega) h2
  · rw [← e0,← w0]; exact w6 k (by omega) h2
end
end Go.Proofs.Ytiejmoglooaalaa
end
section
open Go Go.HL Go.HL.So
namespace Go.Proofs.Ytiejmoglooaalaa
set_option linter.unusedSectionVars false
open Go.Proofs.Try renaming prog → Tp
open Go.HL.HV renaming undef → Ud
section
variable {xb:Nat} {α:Type} [Inhabited α] {enc:α → HV} {lt:α → α → Prop} {dom:α → Prop} {H:Heap} {db n:Nat} {cap:Option Nat}
theorem sorted_one {a:Nat} {l:List α}:Sorted lt a (a+1) l:=fun p q h1 h2 h3=>by omega
theorem sorted_more (hL:Lin lt) {a i:Nat} {l:List α} (h:Sorted lt a i l) (hc:¬ lt (at_ l i) (at_ l (i - 1))):Sorted lt a (i+1) l:=fun p q h1 h2 h3=>by
  by_cases e:q=i
  · subst e
    by_cases e2:p=q - 1
    · rw [e2]; exact hc
    · exact hL.tr _ _ _ (h p (q - 1) h1 (by omega) (by omega)) hc
  · exact h p q h1 h2 (by omega)
theorem pi_scan (S:So xb enc lt dom H db n) (hL:Lin lt) {T:Heap} (hT:mxs T=0) {a b k:Nat} (hb:b ≤ n) {l:List α} (hl:l.length=n) (hD:Dm dom l):∀ (d i:Nat),b - i ≤ d → a < i → i ≤ b → Sorted lt a i l →
    ∃ i':Nat,RT polSo 104 (sub [1,1,0,1,0,0,1,0,0,0,0] B104) (env104 (.sl db 0 n cap n 1) (.int .i64 (a:Int)) (.int .i64 (b:Int)) (.func 69 [] [.ptr xb 0 0 1]) (.bool false) (.int .i64 (i:Int)) (.int .i64 (k:Int)) Ud Ud) (Mm enc H db l T) (.exit 2) (env104 (.sl db 0 n cap n 1) (.int .i64 (a:Int)) (.int .i64 (b:Int)) (.func 69 [] [.ptr xb 0 0 1]) (.bool false) (.int .i64 (i':Int)) (.int .i64 (k:Int)) Ud Ud) (Mm enc H db l T)∧(a < i'∧i' ≤ b)∧Sorted lt a i' l∧(i' < b → lt (at_ l i') (at_ l (i' - 1))):=by
  have hn:=S.nb
  intro d
  induction d with
  | zero =>
    intro i hd ha hi hS
    exact ⟨i,lpo (pi_e_2 (xb:=xb) 0 db n cap (Mm enc H db l T) 0 a b i k (by omega)),by omega,hS,fun h=>by omega⟩
  | succ d ih =>
    intro i hd ha hi hS
    by_cases c0:i < b
    · by_cases c:lt (at_ l i) (at_ l (i - 1))
      · obtain ⟨cc,N,hN,hc⟩:=S.ct (T:=T) hl hT (hD.at (i:=i) (by omega)) (hD.at (i:=i - 1) (by omega)) c
        have st:=pi_e_0 (xb:=xb) N db n cap (Mm enc H db l T) 0 a b i k (y11:=Ud) (y12:=Ud) (by omega) (ixs (i:=i) rfl (by omega)) (S.ld l T _ hl (by omega)) (ixs (i:=i - 1) (wrap_pred (by omega) (by omega)) (by omega)) (S.ld l T _ hl (by omega)) hN hc
        exact ⟨i,lpo (st),by omega,hS,fun _=>c⟩
      · obtain ⟨cc,N,hN,hc⟩:=S.cf (T:=T) hl hT (hD.at (i:=i) (by omega)) (hD.at (i:=i - 1) (by omega)) c
        have st:=pi_e_1 (xb:=xb) N db n cap (Mm enc H db l T) 0 a b i k (y11:=Ud) (y12:=Ud) (by omega) (ixs (i:=i) rfl (by omega)) (S.ld l T _ hl (by omega)) (ixs (i:=i - 1) (wrap_pred (by omega) (by omega)) (by omega)) (S.ld l T _ hl (by omega)) hN hc
        rw [wrap_succ (by omega)] at st
        obtain ⟨i',r,q⟩:=ih (i+1) (by omega) (by omega) (by omega) (sorted_more hL hS c)
        exact ⟨i',lop (st) (gcM _ _ _ _ _ rfl) (r),q⟩
    · exact ⟨i,lpo (pi_e_2 (xb:=xb) 0 db n cap (Mm enc H db l T) 0 a b i k (by omega)),by omega,hS,fun h=>by omega⟩
def Flo (lt:α → α → Prop) (a b:Nat) (l:List α):Prop:=0 < a → ∀ k,a ≤ k → k < b → ¬ lt (at_ l k) (at_ l (a - 1))
theorem Flo.sw {a b:Nat} {l l':List α} (h:Flo lt a b l) (hb:b ≤ l.length) (hs:Sw a b l l'):Flo lt a b l':=fun h0=>by
  rw [hs.out hb (k:=a - 1) (by omega)]
  exact hs.all hb (Q:=fun x=>¬ lt x (at_ l (a - 1))) (Nat.le_refl _) (Nat.le_refl _) (h h0)
theorem pi_left (S:So xb enc lt dom H db n) (hL:Lin lt) {T:Heap} (hT:mxs T=0) {a b i k:Nat} (hi:i < b) (hb:b ≤ n):∀ (j:Nat) (l:List α),l.length=n → j < i → a ≤ j → Dm dom l → Flo lt a b l → Sink lt a i j l →
    ∃ y l',RT polSo 104 (sub [1,1,0,1,0,0,1,0,0,1,1,1,1,0,1,0,1,0] B104) (env104 (.sl db 0 n cap n 1) (.int .i64 (a:Int)) (.int .i64 (b:Int)) (.func 69 [] [.ptr xb 0 0 1]) (.bool false) (.int .i64 (i:Int)) (.int .i64 (k:Int)) (.int .i64 (j:Int)) Ud) (Mm enc H db l T) (.exit 4) (env104 (.sl db 0 n cap n 1) (.int .i64 (a:Int)) (.int .i64 (b:Int)) (.func 69 [] [.ptr xb 0 0 1]) (.bool false) (.int .i64 (i:Int)) (.int .i64 (k:Int)) y Ud) (Mm enc H db l' T)∧Sw a i l l'∧Sorted lt a i l':=by
  have hn:=S.nb
  intro j
  induction j with
  | zero =>
    intro l hl hj ha hD hF hS
    exact ⟨_,l,lpo (pi_k_2 (xb:=xb) 0 db n cap (Mm enc H db l T) 0 a b i k 0 (by omega)),.refl,sink_end hL hS (.inl (Nat.zero_le _))⟩
  | succ j ih =>
    intro l hl hj ha hD hF hS
    have hw:IntKind.i64.wrap (((j+1:Nat):Int) - 1)=((j:Nat):Int):=wrap_pred (j:=j+1) (by omega) (by omega)
    by_cases c2:lt (at_ l (j+1)) (at_ l j)
    · have ha':a < j+1:=by
        rcases Nat.lt_or_ge a (j+1) with h | h
        · exact h
        · exfalso
          have e:a=j+1:=by omega
          have:=hF (by omega) (j+1) (by omega) (by omega)
          rw [show a - 1=j by omega] at this
          exact this c2
      obtain ⟨cc,N,hN,hc⟩:=S.ct (T:=T) hl hT (hD.at (i:=j+1) (by omega)) (hD.at (i:=j) (by omega)) c2
      obtain ⟨s1,s2⟩:=S.st2 (T:=T) hl (i:=j+1) (j:=j) (by omega) (by omega)
      have sw:Sw a i l (swp l (j+1) j):=Sw.one (by omega) (by omega) (by omega) (by omega)
      have st:=pi_k_0 (xb:=xb) N db n cap (Mm enc H db l T) 0 a b i k (j+1) (y12:=Ud) (by omega) (ixs (i:=j+1) rfl (by omega)) (S.ld l T _ hl (by omega)) (ixs hw (by omega)) (S.ld l T _ hl (by omega)) hN hc
        (ixs hw (by omega)) (S.ld l T _ hl (by omega)) (ixs (i:=j+1) rfl (by omega)) (S.ld l T _ hl (by omega)) (ixs (i:=j+1) rfl (by omega)) s1 (ixs hw (by omega)) s2
      rw [hw] at st
      obtain ⟨y,l',r,q1,q2⟩:=ih (swp l (j+1) j) (by rw [swp_len]; exact hl) (by omega) (by omega) (hD.sw sw (by omega)) (hF.sw (by omega) (sw.mono (Nat.le_refl _) (by omega))) (sink_step hL (j:=j+1) (by omega) (by omega) ha' hS c2)
      exact ⟨y,l',lop (st) (gcM _ _ _ _ _ rfl) (r),sw.trans q1,q2⟩
    · obtain ⟨cc,N,hN,hc⟩:=S.cf (T:=T) hl hT (hD.at (i:=j+1) (by omega)) (hD.at (i:=j) (by omega)) c2
      have st:=pi_k_1 (xb:=xb) N db n cap (Mm enc H db l T) 0 a b i k (j+1) (y12:=Ud) (by omega) (ixs (i:=j+1) rfl (by omega)) (S.ld l T _ hl (by omega)) (ixs hw (by omega)) (S.ld l T _ hl (by omega)) hN hc
      exact ⟨_,l,lpo (st),.refl,sink_end hL hS (.inr c2)⟩
theorem pi_right (S:So xb enc lt dom H db n) {T:Heap} (hT:mxs T=0) {a b i k:Nat} (hb:b ≤ n):∀ (d w:Nat) (l:List α),b - w ≤ d → l.length=n → i < w → Dm dom l →
    ∃ y l',RT polSo 104 (sub [1,1,0,1,0,0,1,0,0,1,1,1,1,1,1,0,1,0] B104) (env104 (.sl db 0 n cap n 1) (.int .i64 (a:Int)) (.int .i64 (b:Int)) (.func 69 [] [.ptr xb 0 0 1]) (.bool false) (.int .i64 (i:Int)) (.int .i64 (k:Int)) Ud (.int .i64 (w:Int))) (Mm enc H db l T) (.exit 6) (env104 (.sl db 0 n cap n 1) (.int .i64 (a:Int)) (.int .i64 (b:Int)) (.func 69 [] [.ptr xb 0 0 1]) (.bool false) (.int .i64 (i:Int)) (.int .i64 (k:Int)) Ud y) (Mm enc H db l' T)∧Sw i b l l':=by
  have hn:=S.nb
  intro d
  induction d with
  | zero =>
    intro w l hd hl hw hD
    exact ⟨_,l,lpo (pi_n_2 (xb:=xb) 0 db n cap (Mm enc H db l T) 0 a b i k w (by omega)),.refl⟩
  | succ d ih =>
    intro w l hd hl hi hD
    by_cases c0:w < b
    · have hw:IntKind.i64.wrap ((w:Int) - 1)=((w - 1:Nat):Int):=wrap_pred (by omega) (by omega)
      by_cases c:lt (at_ l w) (at_ l (w - 1))
      · obtain ⟨cc,N,hN,hc⟩:=S.ct (T:=T) hl hT (hD.at (i:=w) (by omega)) (hD.at (i:=w - 1) (by omega)) c
        obtain ⟨s1,s2⟩:=S.st2 (T:=T) hl (i:=w) (j:=w - 1) (by omega) (by omega)
        have sw:Sw i b l (swp l w (w - 1)):=Sw.one (by omega) (by omega) (by omega) (by omega)
        have st:=pi_n_0 (xb:=xb) N db n cap (Mm enc H db l T) 0 a b i k w (y11:=Ud) (by omega) (ixs (i:=w) rfl (by omega)) (S.ld l T _ hl (by omega)) (ixs hw (by omega)) (S.ld l T _ hl (by omega)) hN hc
          (ixs hw (by omega)) (S.ld l T _ hl (by omega)) (ixs (i:=w) rfl (by omega)) (S.ld l T _ hl (by omega)) (ixs (i:=w) rfl (by omega)) s1 (ixs hw (by omega)) s2
        rw [wrap_succ (by omega)] at st
        obtain ⟨y,l',r,q1⟩:=ih (w+1) (swp l w (w - 1)) (by omega) (by rw [swp_len]; exact hl) (by omega) (hD.sw sw (by omega))
        exact ⟨y,l',lop (st) (gcM _ _ _ _ _ rfl) (r),sw.trans q1⟩
      · obtain ⟨cc,N,hN,hc⟩:=S.cf (T:=T) hl hT (hD.at (i:=w) (by omega)) (hD.at (i:=w - 1) (by omega)) c
        have st:=pi_n_1 (xb:=xb) N db n cap (Mm enc H db l T) 0 a b i k w (y11:=Ud) (by omega) (ixs (i:=w) rfl (by omega)) (S.ld l T _ hl (by omega)) (ixs hw (by omega)) (S.ld l T _ hl (by omega)) hN hc
        exact ⟨_,l,lpo (st),.refl⟩
    · exact ⟨_,l,lpo (pi_n_2 (xb:=xb) 0 db n cap (Mm enc H db l T) 0 a b i k w (by omega)),.refl⟩
theorem pi_L (S:So xb enc lt dom H db n) (hL:Lin lt) {T:Heap} (hT:mxs T=0) {a b i k:Nat} (hai:a < i) (hi:i < b) (hb:b ≤ n) {l:List α} (hl:l.length=n) (hD:Dm dom l) (hF:Flo lt a b l) (hS:Sorted lt a (i - 1) l) :
    ∃ y l',RT polSo 104 (sub [1,1,0,1,0,0,1,0,0,1,1,1,1,0] B104) (env104 (.sl db 0 n cap n 1) (.int .i64 (a:Int)) (.int .i64 (b:Int)) (.func 69 [] [.ptr xb 0 0 1]) (.bool false) (.int .i64 (i:Int)) (.int .i64 (k:Int)) Ud Ud) (Mm enc H db l T) .normal (env104 (.sl db 0 n cap n 1) (.int .i64 (a:Int)) (.int .i64 (b:Int)) (.func 69 [] [.ptr xb 0 0 1]) (.bool false) (.int .i64 (i:Int)) (.int .i64 (k:Int)) y Ud) (Mm enc H db l' T)∧Sw a i l l'∧Sorted lt a i l':=by
  have hn:=S.nb
  have hw:IntKind.i64.wrap ((i:Int) - (a:Int))=((i - a:Nat):Int):=(by rw [wrap_id (by omega) (by omega)]; omega)
  by_cases c:2 ≤ i - a
  · have t0:=pi_i_0 (xb:=xb) 0 db n cap (Mm enc H db l T) 0 a b i k (y11:=Ud) (y12:=Ud) (by rw [hw]; omega)
    have t1:=pi_j_0 (xb:=xb) 0 db n cap (Mm enc H db l T) 0 a b i k (y11:=Ud) (y12:=Ud)
    rw [wrap_pred (by omega) (by omega)] at t1
    have hk:Sink lt a i (i - 1) l:=by
      have:=sink_start (i:=i - 1) hS
      rwa [show i - 1+1=i by omega] at this
    obtain ⟨y,l',r,q1,q2⟩:=pi_left S hL (cap:=cap) (k:=k) hT hi hb (i - 1) l hl (by omega) (by omega) hD hF hk
    exact ⟨y,l',sq (t0) (RunsTo.cond (y:=.tmp 65) (t:=true) (c:=sub [1,1,0,1,0,0,1,0,0,1,1,1,1,0,1] B104) (a:=sub [1,1,0,1,0,0,1,0,0,1,1,1,1,0,1,0] B104) (b:=sub [1,1,0,1,0,0,1,0,0,1,1,1,1,0,1,1] B104) (by kernel_rfl) rfl (sq (t1) (bke (c:=sub [1,1,0,1,0,0,1,0,0,1,1,1,1,0,1,0,1] B104) (r)) (c:=sub [1,1,0,1,0,0,1,0,0,1,1,1,1,0,1,0] B104))) (c:=sub [1,1,0,1,0,0,1,0,0,1,1,1,1,0] B104),q1,q2⟩
  · have t0:=pi_i_1 (xb:=xb) 0 db n cap (Mm enc H db l T) 0 a b i k (y11:=Ud) (y12:=Ud) (by rw [hw]; omega)
    refine ⟨_,l,sq (t0) (RunsTo.cond (y:=.tmp 65) (t:=false) (c:=sub [1,1,0,1,0,0,1,0,0,1,1,1,1,0,1] B104) (a:=sub [1,1,0,1,0,0,1,0,0,1,1,1,1,0,1,0] B104) (b:=sub [1,1,0,1,0,0,1,0,0,1,1,1,1,0,1,1] B104) (by kernel_rfl) rfl (RunsTo.skip (E:=(env104 (.sl db 0 n cap n 1) (.int .i64 (a:Int)) (.int .i64 (b:Int)) (.func 69 [] [.ptr xb 0 0 1]) (.bool false) (.int .i64 (i:Int)) (.int .i64 (k:Int)) Ud Ud)) (by kernel_rfl) (by kernel_rfl))) (c:=sub [1,1,0,1,0,0,1,0,0,1,1,1,1,0] B104),.refl,?_⟩
    rw [show i=a+1 by omega]; exact sorted_one
theorem pi_R (S:So xb enc lt dom H db n) {T:Heap} (hT:mxs T=0) {a b i k:Nat} {y0:HV} (hi:i < b) (hb:b ≤ n) {l:List α} (hl:l.length=n) (hD:Dm dom l) :
    ∃ y y' l',RT polSo 104 (sub [1,1,0,1,0,0,1,0,0,1,1,1,1,1] B104) (env104 (.sl db 0 n cap n 1) (.int .i64 (a:Int)) (.int .i64 (b:Int)) (.func 69 [] [.ptr xb 0 0 1]) (.bool false) (.int .i64 (i:Int)) (.int .i64 (k:Int)) y0 Ud) (Mm enc H db l T) .normal (env104 (.sl db 0 n cap n 1) (.int .i64 (a:Int)) (.int .i64 (b:Int)) (.func 69 [] [.ptr xb 0 0 1]) (.bool false) (.int .i64 (i:Int)) (.int .i64 (k:Int)) y y') (Mm enc H db l' T)∧Sw i b l l':=by
  have hn:=S.nb
  have hw:IntKind.i64.wrap ((b:Int) - (i:Int))=((b - i:Nat):Int):=(by rw [wrap_id (by omega) (by omega)]; omega)
  by_cases c:2 ≤ b - i
  · have t0:=pi_l_0 (xb:=xb) 0 db n cap (Mm enc H db l T) 0 a b i k (y11:=y0) (y12:=Ud) (by rw [hw]; omega)
    have t1:=pi_m_0 (xb:=xb) 0 db n cap (Mm enc H db l T) 0 a b i k (y11:=y0) (y12:=Ud)
    rw [wrap_succ (by omega)] at t1
    obtain ⟨y,l',r,q1⟩:=pi_right S (cap:=cap) (a:=a) (i:=i) (k:=k) hT hb _ (i+1) l (Nat.le_refl _) hl (by omega) hD
    have r':=lpi (e0:=(env104 (.sl db 0 n cap n 1) (.int .i64 (a:Int)) (.int .i64 (b:Int)) (.func 69 [] [.ptr xb 0 0 1]) (.bool false) (.int .i64 (i:Int)) (.int .i64 (k:Int)) y0 (.int .i64 ((i+1:Nat):Int)))) r (b:=sub [1,1,0,1,0,0,1,0,0,1,1,1,1,1,1,0,1,0,0] B104)
    exact ⟨_,y,l',sq (t0) (RunsTo.cond (y:=.tmp 104) (t:=true) (c:=sub [1,1,0,1,0,0,1,0,0,1,1,1,1,1,1] B104) (a:=sub [1,1,0,1,0,0,1,0,0,1,1,1,1,1,1,0] B104) (b:=sub [1,1,0,1,0,0,1,0,0,1,1,1,1,1,1,1] B104) (by kernel_rfl) rfl (sq (t1) (bke (c:=sub [1,1,0,1,0,0,1,0,0,1,1,1,1,1,1,0,1] B104) (r')) (c:=sub [1,1,0,1,0,0,1,0,0,1,1,1,1,1,1,0] B104))) (c:=sub [1,1,0,1,0,0,1,0,0,1,1,1,1,1] B104),q1⟩
  · have t0:=pi_l_1 (xb:=xb) 0 db n cap (Mm enc H db l T) 0 a b i k (y11:=y0) (y12:=Ud) (by rw [hw]; omega)
    exact ⟨_,_,l,sq (t0) (RunsTo.cond (y:=.tmp 104) (t:=false) (c:=sub [1,1,0,1,0,0,1,0,0,1,1,1,1,1,1] B104) (a:=sub [1,1,0,1,0,0,1,0,0,1,1,1,1,1,1,0] B104) (b:=sub [1,1,0,1,0,0,1,0,0,1,1,1,1,1,1,1] B104) (by kernel_rfl) rfl (RunsTo.skip (E:=(env104 (.sl db 0 n cap n 1) (.int .i64 (a:Int)) (.int .i64 (b:Int)) (.func 69 [] [.ptr xb 0 0 1]) (.bool false) (.int .i64 (i:Int)) (.int .i64 (k:Int)) y0 Ud)) (by kernel_rfl) (by kernel_rfl))) (c:=sub [1,1,0,1,0,0,1,0,0,1,1,1,1,1] B104),.refl⟩
theorem pi_loop (S:So xb enc lt dom H db n) (hL:Lin lt) {T:Heap} (hT:mxs T=0) {a b:Nat} (hb:b ≤ n):∀ (d k i:Nat) (l:List α),k+d=5 → a < i → i ≤ b → l.length=n → Dm dom l → Flo lt a b l → Sorted lt a i l →
    ∃ x E l',RT polSo 104 (sub [1,1,0,1,0] B104) (env104 (.sl db 0 n cap n 1) (.int .i64 (a:Int)) (.int .i64 (b:Int)) (.func 69 [] [.ptr xb 0 0 1]) (.bool false) (.int .i64 (i:Int)) (.int .i64 (k:Int)) Ud Ud) (Mm enc H db l T) x E (Mm enc H db l' T)∧Sw a b l l'∧((x=.exit 0∧∃ y5 y6:Nat,E=(env104 (.sl db 0 n cap n 1) (.int .i64 (a:Int)) (.int .i64 (b:Int)) (.func 69 [] [.ptr xb 0 0 1]) (.bool false) (.int .i64 (y5:Int)) (.int .i64 (y6:Int)) Ud Ud)) ∨ (x=.ret∧∃ bb,resultsV Tp Try.f104 E (Mm enc H db l' T)=some (.bool bb)∧(bb=true → Sorted lt a b l'))):=by
  have hn:=S.nb
  intro d
  induction d with
  | zero =>
    intro k i l hk ha hi hl hD hF hS
    exact ⟨_,_,l,lpo (sqo (pi_d_1 (xb:=xb) 0 db n cap (Mm enc H db l T) 0 a b i k (by omega) (y11:=Ud) (y12:=Ud)) (c:=sub [1,1,0,1,0,0] B104) (b:=sub [1,1,0,1,0,0,1] B104)),.refl,.inl ⟨rfl,_,_,rfl⟩⟩
  | succ d ih =>
    intro k i l hk ha hi hl hD hF hS
    have t0:=pi_d_0 (xb:=xb) 0 db n cap (Mm enc H db l T) 0 a b i k (by omega) (y11:=Ud) (y12:=Ud)
    obtain ⟨i',r,q1,q2,q3⟩:=pi_scan S hL (cap:=cap) (k:=k) hT hb hl hD _ i (Nat.le_refl _) ha hi hS
    by_cases c:i'=b
    · have t1:=pi_f_0 (xb:=xb) 0 db n cap (Mm enc H db l T) 0 a b i' k (by omega) (y11:=Ud) (y12:=Ud)
      have st:=sq (t0) (sqo (RunsTo.block_ret (i:=1) (c:=sub [1,1,0,1,0,0,1,0] B104) (sq (bke (c:=sub [1,1,0,1,0,0,1,0,0,0] B104) (r)) (sqo (t1) (c:=sub [1,1,0,1,0,0,1,0,0,1] B104) (b:=sub [1,1,0,1,0,0,1,0,0,1,1] B104)) (c:=sub [1,1,0,1,0,0,1,0,0] B104)) (by kernel_rfl)) (c:=sub [1,1,0,1,0,0,1] B104) (b:=sub [1,1,0,1,0,0,1,1] B104)) (c:=sub [1,1,0,1,0,0] B104)
      exact ⟨_,_,l,lpo (st),.refl,.inr ⟨rfl,true,by kernel_rfl,fun _=>c ▸ q2⟩⟩
    · have t1:=pi_f_1 (xb:=xb) 0 db n cap (Mm enc H db l T) 0 a b i' k (by omega) (y11:=Ud) (y12:=Ud)
      have hw:IntKind.i64.wrap ((b:Int) - (a:Int))=((b - a:Nat):Int):=(by rw [wrap_id (by omega) (by omega)]; omega)
      by_cases c2:b - a < 50
      · have t2:=pi_g_0 (xb:=xb) 0 db n cap (Mm enc H db l T) 0 a b i' k (by rw [hw]; omega) (y11:=Ud) (y12:=Ud)
        have st:=sq (t0) (sqo (RunsTo.block_ret (i:=1) (c:=sub [1,1,0,1,0,0,1,0] B104) (sq (bke (c:=sub [1,1,0,1,0,0,1,0,0,0] B104) (r)) (sq (t1) (sqo (t2) (c:=sub [1,1,0,1,0,0,1,0,0,1,1] B104) (b:=sub [1,1,0,1,0,0,1,0,0,1,1,1] B104)) (c:=sub [1,1,0,1,0,0,1,0,0,1] B104)) (c:=sub [1,1,0,1,0,0,1,0,0] B104)) (by kernel_rfl)) (c:=sub [1,1,0,1,0,0,1] B104) (b:=sub [1,1,0,1,0,0,1,1] B104)) (c:=sub [1,1,0,1,0,0] B104)
        exact ⟨_,_,l,lpo (st),.refl,.inr ⟨rfl,false,by kernel_rfl,fun h=>by cases h⟩⟩
      · have t2:=pi_g_1 (xb:=xb) 0 db n cap (Mm enc H db l T) 0 a b i' k (by rw [hw]; omega) (y11:=Ud) (y12:=Ud)
        have hp:IntKind.i64.wrap ((i':Int) - 1)=((i' - 1:Nat):Int):=wrap_pred (by omega) (by omega)
        obtain ⟨s1,s2⟩:=S.st2 (T:=T) hl (i:=i') (j:=i' - 1) (by omega) (by omega)
        have t3:=pi_h_0 (xb:=xb) 0 db n cap (Mm enc H db l T) 0 a b i' k (y11:=Ud) (y12:=Ud) (ixs hp (by omega)) (S.ld l T _ hl (by omega)) (ixs (i:=i') rfl (by omega)) (S.ld l T _ hl (by omega)) (ixs (i:=i') rfl (by omega)) s1 (ixs hp (by omega)) s2
        have sw:Sw a b l (swp l i' (i' - 1)):=Sw.one (by omega) (by omega) (by omega) (by omega)
        have hS1:Sorted lt a (i' - 1) (swp l i' (i' - 1)):=fun p q h1 h2 h3=>by
          rw [swp_ne (by omega) (by omega) (by omega) (by omega),swp_ne (by omega) (by omega) (by omega) (by omega)]
          exact q2 p q h1 h2 (by omega)
        have hl1:=sw_len sw hl
        have hD1:=hD.sw sw (by omega)
        have hF1:=hF.sw (by omega) sw
        generalize swp l i' (i' - 1)=l1 at t3 sw hS1 hl1 hD1 hF1 s2
        obtain ⟨y,l2,r2,w1,w2⟩:=pi_L S hL (cap:=cap) (k:=k) hT q1.1 (by omega) hb hl1 hD1 hF1 hS1
        have hl2:=sw_len w1 hl1
        have hD2:=hD1.sw w1 (by omega)
        have hF2:=hF1.sw (by omega) (w1.mono (Nat.le_refl _) (by omega))
        obtain ⟨y',y2,l3,r3,w3⟩:=pi_R S (cap:=cap) (a:=a) (k:=k) (y0:=y) hT (i:=i') (by omega) hb hl2 hD2
        have hl3:=sw_len w3 hl2
        have sw3:Sw a b l2 l3:=w3.mono (by omega) (Nat.le_refl _)
        have hS3:Sorted lt a i' l3:=fun p q h1 h2 h3=>by
          rw [w3.out (by omega) (k:=q) (by omega),w3.out (by omega) (k:=p) (by omega)]
          exact w2 p q h1 h2 h3
        have t6:=pi_o_0 (xb:=xb) 0 db n cap (Mm enc H db l3 T) 0 a b i' k (y11:=y') (y12:=y2)
        rw [wrap_succ (by omega)] at t6
        have st:=sq (t0) (sq (RunsTo.block_normal (i:=1) (c:=sub [1,1,0,1,0,0,1,0] B104) (sq (bke (c:=sub [1,1,0,1,0,0,1,0,0,0] B104) (r)) (sq (t1) (sq (t2) (sq (t3) (sq (r2) (r3) (c:=sub [1,1,0,1,0,0,1,0,0,1,1,1,1] B104)) (c:=sub [1,1,0,1,0,0,1,0,0,1,1,1] B104)) (c:=sub [1,1,0,1,0,0,1,0,0,1,1] B104)) (c:=sub [1,1,0,1,0,0,1,0,0,1] B104)) (c:=sub [1,1,0,1,0,0,1,0,0] B104)) (by kernel_rfl)) (t6) (c:=sub [1,1,0,1,0,0,1] B104)) (c:=sub [1,1,0,1,0,0] B104)
        obtain ⟨x,E,l',rr,z1,z2⟩:=ih (k+1) i' l3 (by omega) q1.1 q1.2 hl3 (hD2.sw w3 (by omega)) (hF2.sw (by omega) sw3) hS3
        exact ⟨x,E,l',lop (st) (gcM _ _ _ _ _ rfl) (rr),sw.trans ((w1.mono (Nat.le_refl _) (by omega)).trans (sw3.trans z1)),z2⟩
theorem pin_ok (S:So xb enc lt dom H db n) (hL:Lin lt) {T:Heap} (hT:mxs T=0) {a b:Nat} (hab:a < b) (hb:b ≤ n) {l:List α} (hl:l.length=n) (hD:Dm dom l) (hF:Flo lt a b l) :
    ∃ bb l',ClS 104 [.sl db 0 n cap n 1,.int .i64 (a:Int),.int .i64 (b:Int),.func 69 [] [.ptr xb 0 0 1]] (Mm enc H db l T) (.bool bb) (Mm enc H db l' T)∧Sw a b l l'∧(bb=true → Sorted lt a b l'):=by
  have hn:=S.nb
  have t0:=pi_a_0 (xb:=xb) 0 db n cap (Mm enc H db l T) 0 a b
  have t1:=pi_b_0 (xb:=xb) 0 db n cap (Mm enc H db l T) 0 a b (y9:=Ud) (y10:=Ud) (y11:=Ud) (y12:=Ud)
  rw [wrap_succ (by omega)] at t1
  have t2:=pi_c_0 (xb:=xb) 0 db n cap (Mm enc H db l T) 0 a b (a+1) (y10:=Ud) (y11:=Ud) (y12:=Ud)
  obtain ⟨x,E,l',r,q1,q2⟩:=pi_loop S hL (cap:=cap) hT hb 5 0 (a+1) l rfl (by omega) (by omega) hl hD hF sorted_one
  rcases q2 with ⟨rfl,y5,y6,rfl⟩ | ⟨rfl,bb,hv,hs⟩
  · have z:=pi_p_0 (xb:=xb) 0 db n cap (Mm enc H db l' T) 0 a b y5 y6 (y11:=Ud) (y12:=Ud)
    have t:=sq (t0) (sq (t1) (sq (sq (t2) (bke (c:=sub [1,1,0,1] B104) (r)) (c:=sub [1,1,0] B104)) (z) (c:=sub [1,1] B104)) (c:=sub [1] B104)) (c:=B104)
    have hc:=CallsTo.shared (P:=Tp) (pol:=polSo) (g:=104) (fn:=Try.f104) (cd:=B104) (args:=[.sl db 0 n cap n 1,.int .i64 (a:Int),.int .i64 (b:Int),.func 69 [] [.ptr xb 0 0 1]]) (v:=.bool false) (by kernel_rfl) (by kernel_rfl) (by kernel_rfl) (by kernel_rfl) t (by kernel_rfl) (by simp) (by kernel_rfl)
    rw [gcM _ _ _ _ _ rfl] at hc
    exact ⟨false,l',hc,q1,fun h=>by cases h⟩
  · have t:=sq (t0) (sq (t1) (sqo (sq (t2) (RunsTo.block_ret (i:=0) (c:=sub [1,1,0,1] B104) (r) (by kernel_rfl)) (c:=sub [1,1,0] B104)) (c:=sub [1,1] B104) (b:=sub [1,1,1] B104)) (c:=sub [1] B104)) (c:=B104)
    have hc:=CallsTo.shared (P:=Tp) (pol:=polSo) (g:=104) (fn:=Try.f104) (cd:=B104) (args:=[.sl db 0 n cap n 1,.int .i64 (a:Int),.int .i64 (b:Int),.func 69 [] [.ptr xb 0 0 1]]) (by kernel_rfl) (by kernel_rfl) (by kernel_rfl) (by kernel_rfl) t (by kernel_rfl) (by simp) hv
    rw [gcM _ _ _ _ _ rfl] at hc
    exact ⟨bb,l',hc,q1,hs⟩
end
end Go.Proofs.Ytiejmoglooaalaa
end
section
open Go Go.HL
namespace Go.Proofs.Ytiejmoglooaalaa
set_option maxRecDepth 100000
open Go.Proofs.Try renaming prog → Tp
open Go.HL.HV renaming undef → Ud
section
variable {xb:Nat}
noncomputable def B112:Code:=Try.f112.body.getD .skip
abbrev env112 (v0 v1 v2 v3 v4 v10 v11:HV):Env:=[(0,v0),(1,v1),(2,v2),(3,v3),(4,v4),(10,v10),(11,v11)]
theorem o2_a_0 (N:Nat) (db n:Nat) (cap:Option Nat) (H:Heap) (x:Nat) (a:Nat) (b:Nat) {a0:HV} {v0:HV} {a1:HV} {v1:HV} {c0:Int} {H0:Heap} {x0:Int} {H1:Heap} (g0:idxV Tp 24 (.c db n cap) (.i (b:Int))=some (a0)) (g1:loadV Tp H 3 (a0)=some (v0)) (g2:idxV Tp 24 (.c db n cap) (.i (a:Int))=some (a1)) (g3:loadV Tp H 3 (a1)=some (v1)) (g4:∀ kf,N ≤ kf → callN Tp polSo (kf+1) 69 [v0,v1,.ptr xb 0 0 1] H=some (.i c0,H0)) (g5:c0 < 0) (g6:loadV Tp H0 3 (.ptr x 0 0 1)=some (.i x0)) (g7:storeV Tp H0 3 (.ptr x 0 0 1) (.i (IntKind.i64.wrap (x0+1)))=some H1):RT polSo 112 (sub [] B112) [(0,.c db n cap),(1,.i (a:Int)),(2,.i (b:Int)),(3,.ptr x 0 0 1),(4,.func 69 [] [.ptr xb 0 0 1])] H .ret (env112 (.c db n cap) (.i (a:Int)) (.i (b:Int)) (.ptr x 0 0 1) (.func 69 [] [.ptr xb 0 0 1]) (.i (b:Int)) (.i (a:Int))) H1 :=
  RunsTo.hin N 60 [⟨1,3,a0,H⟩,⟨1,4,v0,H⟩,⟨1,7,a1,H⟩,⟨1,8,v1,H⟩,⟨1,9,.i c0,H0⟩,⟨1,10,.bool true,H0⟩,⟨2,2,.i x0,H0⟩,⟨2,5,.tuple [],H1⟩] fun kf hk=>⟨_,by kernel_rfl,(oP H g0 (oP H g1 (oP H g2 (oP H g3 (oC (g4 kf (by omega)) (oB H0 (decide_eq_true g5) (oP H0 g6 (oS g7 .nil))))))))⟩
theorem o2_a_1 (N:Nat) (db n:Nat) (cap:Option Nat) (H:Heap) (x:Nat) (a:Nat) (b:Nat) {a0:HV} {v0:HV} {a1:HV} {v1:HV} {c0:Int} {H0:Heap} (g0:idxV Tp 24 (.c db n cap) (.i (b:Int))=some (a0)) (g1:loadV Tp H 3 (a0)=some (v0)) (g2:idxV Tp 24 (.c db n cap) (.i (a:Int))=some (a1)) (g3:loadV Tp H 3 (a1)=some (v1)) (g4:∀ kf,N ≤ kf → callN Tp polSo (kf+1) 69 [v0,v1,.ptr xb 0 0 1] H=some (.i c0,H0)) (g5:¬ (c0 < 0)):RT polSo 112 (sub [] B112) [(0,.c db n cap),(1,.i (a:Int)),(2,.i (b:Int)),(3,.ptr x 0 0 1),(4,.func 69 [] [.ptr xb 0 0 1])] H .ret (env112 (.c db n cap) (.i (a:Int)) (.i (b:Int)) (.ptr x 0 0 1) (.func 69 [] [.ptr xb 0 0 1]) (.i (a:Int)) (.i (b:Int))) H0 :=
  RunsTo.hin N 60 [⟨1,3,a0,H⟩,⟨1,4,v0,H⟩,⟨1,7,a1,H⟩,⟨1,8,v1,H⟩,⟨1,9,.i c0,H0⟩,⟨1,10,.bool false,H0⟩] fun kf hk=>⟨_,by kernel_rfl,(oP H g0 (oP H g1 (oP H g2 (oP H g3 (oC (g4 kf (by omega)) (oB H0 (decide_eq_false g5) .nil))))))⟩
noncomputable def B111:Code:=Try.f111.body.getD .skip
abbrev env111 (v0 v1 v2 v3 v4 v5 v12:HV):Env:=[(0,v0),(1,v1),(2,v2),(3,v3),(4,v4),(5,v5),(12,v12)]
theorem md_a_0 (N:Nat) (db n:Nat) (cap:Option Nat) (H:Heap) (x:Nat) (a:Nat) (b:Nat) (q:Nat) {p0:Int} {p1:Int} {H0:Heap} {p2:Int} {p3:Int} {H1:Heap} {p4:Int} {p5:Int} {H2:Heap} (g0:∀ kf,N ≤ kf → callN Tp polSo (kf+1) 112 [.c db n cap,.i (a:Int),.i (b:Int),.ptr x 0 0 1,.func 69 [] [.ptr xb 0 0 1]] H=some (.tuple [.i p0,.i p1],H0)) (g1:∀ kf,N ≤ kf → callN Tp polSo (kf+1) 112 [.c db n cap,.i p1,.i (q:Int),.ptr x 0 0 1,.func 69 [] [.ptr xb 0 0 1]] H0=some (.tuple [.i p2,.i p3],H1)) (g2:∀ kf,N ≤ kf → callN Tp polSo (kf+1) 112 [.c db n cap,.i p0,.i p2,.ptr x 0 0 1,.func 69 [] [.ptr xb 0 0 1]] H1=some (.tuple [.i p4,.i p5],H2)):RT polSo 111 (sub [] B111) [(0,.c db n cap),(1,.i (a:Int)),(2,.i (b:Int)),(3,.i (q:Int)),(4,.ptr x 0 0 1),(5,.func 69 [] [.ptr xb 0 0 1])] H .ret (env111 (.c db n cap) (.i p4) (.i p5) (.i p3) (.ptr x 0 0 1) (.func 69 [] [.ptr xb 0 0 1]) (.i p5)) H2 :=
  RunsTo.hin N 60 [⟨1,5,.tuple [.i p0,.i p1],H0⟩,⟨2,5,.tuple [.i p2,.i p3],H1⟩,⟨3,5,.tuple [.i p4,.i p5],H2⟩] fun kf hk=>⟨_,by kernel_rfl,(oC (g0 kf (by omega)) (oC (g1 kf (by omega)) (oC (g2 kf (by omega)) .nil)))⟩
noncomputable def B110:Code:=Try.f110.body.getD .skip
abbrev env110 (v0 v1 v2 v3 v8:HV):Env:=[(0,v0),(1,v1),(2,v2),(3,v3),(8,v8)]
theorem ma_a_0 (N:Nat) (db n:Nat) (cap:Option Nat) (H:Heap) (x:Nat) (a:Nat) {p0:Int} {H0:Heap} (g0:∀ kf,N ≤ kf → callN Tp polSo (kf+1) 111 [.c db n cap,.i (IntKind.i64.wrap ((a:Int) - 1)),.i (a:Int),.i (IntKind.i64.wrap ((a:Int)+1)),.ptr x 0 0 1,.func 69 [] [.ptr xb 0 0 1]] H=some (.i p0,H0)):RT polSo 110 (sub [] B110) [(0,.c db n cap),(1,.i (a:Int)),(2,.ptr x 0 0 1),(3,.func 69 [] [.ptr xb 0 0 1])] H .ret (env110 (.c db n cap) (.i (a:Int)) (.ptr x 0 0 1) (.func 69 [] [.ptr xb 0 0 1]) (.i p0)) H0 :=
  RunsTo.hin N 60 [⟨1,8,.i p0,H0⟩] fun kf hk=>⟨_,by kernel_rfl,(oC (g0 kf (by omega)) .nil)⟩
noncomputable def B102:Code:=Try.f102.body.getD .skip
abbrev env102 (v0 v1 v2 v3 v8 v9 v10 v11 v12 v13 v14 v55:HV):Env:=[(0,v0),(1,v1),(2,v2),(3,v3),(8,v8),(9,v9),(10,v10),(11,v11),(12,v12),(13,v13),(14,v14),(55,v55)]
theorem cv_a_0 (N:Nat) (db n:Nat) (cap:Option Nat) (H:Heap) (x:Nat) (a:Nat) (b:Nat) {H0:Heap} {p0:Int} {H1:Heap} {p1:Int} {H2:Heap} {p2:Int} {H3:Heap} {p3:Int} {H4:Heap} {x0:Int} (g0:some (newV (.i 0) H)=some (.ptr x 0 0 1,H0)) (g1:8 ≤ IntKind.i64.wrap ((b:Int) - (a:Int))) (g2:50 ≤ IntKind.i64.wrap ((b:Int) - (a:Int))) (g3:∀ kf,N ≤ kf → callN Tp polSo (kf+1) 110 [.c db n cap,.i (IntKind.i64.wrap ((a:Int)+IntKind.i64.wrap (IntKind.i64.wrap ((IntKind.i64.wrap ((b:Int) - (a:Int)):Int).tdiv 4) * 1))),.ptr x 0 0 1,.func 69 [] [.ptr xb 0 0 1]] H0=some (.i p0,H1)) (g4:∀ kf,N ≤ kf → callN Tp polSo (kf+1) 110 [.c db n cap,.i (IntKind.i64.wrap ((a:Int)+IntKind.i64.wrap (IntKind.i64.wrap ((IntKind.i64.wrap ((b:Int) - (a:Int)):Int).tdiv 4) * 2))),.ptr x 0 0 1,.func 69 [] [.ptr xb 0 0 1]] H1=some (.i p1,H2)) (g5:∀ kf,N ≤ kf → callN Tp polSo (kf+1) 110 [.c db n cap,.i (IntKind.i64.wrap ((a:Int)+IntKind.i64.wrap (IntKind.i64.wrap ((IntKind.i64.wrap ((b:Int) - (a:Int)):Int).tdiv 4) * 3))),.ptr x 0 0 1,.func 69 [] [.ptr xb 0 0 1]] H2=some (.i p2,H3)) (g6:∀ kf,N ≤ kf → callN Tp polSo (kf+1) 111 [.c db n cap,.i p0,.i p1,.i p2,.ptr x 0 0 1,.func 69 [] [.ptr xb 0 0 1]] H3=some (.i p3,H4)) (g7:loadV Tp H4 3 (.ptr x 0 0 1)=some (.i x0)) (g8:x0=0):RT polSo 102 (sub [] B102) [(0,.c db n cap),(1,.i (a:Int)),(2,.i (b:Int)),(3,.func 69 [] [.ptr xb 0 0 1])] H .ret (env102 (.c db n cap) (.i (a:Int)) (.i (b:Int)) (.func 69 [] [.ptr xb 0 0 1]) (.i p3) (.i 1) (.i (IntKind.i64.wrap ((b:Int) - (a:Int)))) (.ptr x 0 0 1) (.i p0) (.i p3) (.i p2) (.i x0)) H4 :=
  RunsTo.hin N 60 [⟨2,0,.ptr x 0 0 1,H0⟩,⟨6,1,.bool true,H0⟩,⟨7,1,.bool true,H0⟩,⟨8,3,.i p0,H1⟩,⟨9,3,.i p1,H2⟩,⟨10,3,.i p2,H3⟩,⟨11,5,.i p3,H4⟩,⟨12,0,.i x0,H4⟩,⟨14,0,.bool true,H4⟩] fun kf hk=>⟨_,by kernel_rfl,(oC (g0) (oB H0 (decide_eq_true g1) (oB H0 (decide_eq_true g2) (oC (g3 kf (by omega)) (oC (g4 kf (by omega)) (oC (g5 kf (by omega)) (oC (g6 kf (by omega)) (oP H4 g7 (oB H4 (decide_eq_true g8) .nil)))))))))⟩
theorem cv_a_1 (N:Nat) (db n:Nat) (cap:Option Nat) (H:Heap) (x:Nat) (a:Nat) (b:Nat) {H0:Heap} {p0:Int} {H1:Heap} {p1:Int} {H2:Heap} {p2:Int} {H3:Heap} {p3:Int} {H4:Heap} {x0:Int} (g0:some (newV (.i 0) H)=some (.ptr x 0 0 1,H0)) (g1:8 ≤ IntKind.i64.wrap ((b:Int) - (a:Int))) (g2:50 ≤ IntKind.i64.wrap ((b:Int) - (a:Int))) (g3:∀ kf,N ≤ kf → callN Tp polSo (kf+1) 110 [.c db n cap,.i (IntKind.i64.wrap ((a:Int)+IntKind.i64.wrap (IntKind.i64.wrap ((IntKind.i64.wrap ((b:Int) - (a:Int)):Int).tdiv 4) * 1))),.ptr x 0 0 1,.func 69 [] [.ptr xb 0 0 1]] H0=some (.i p0,H1)) (g4:∀ kf,N ≤ kf → callN Tp polSo (kf+1) 110 [.c db n cap,.i (IntKind.i64.wrap ((a:Int)+IntKind.i64.wrap (IntKind.i64.wrap ((IntKind.i64.wrap ((b:Int) - (a:Int)):Int).tdiv 4) * 2))),.ptr x 0 0 1,.func 69 [] [.ptr xb 0 0 1]] H1=some (.i p1,H2)) (g5:∀ kf,N ≤ kf → callN Tp polSo (kf+1) 110 [.c db n cap,.i (IntKind.i64.wrap ((a:Int)+IntKind.i64.wrap (IntKind.i64.wrap ((IntKind.i64.wrap ((b:Int) - (a:Int)):Int).tdiv 4) * 3))),.ptr x 0 0 1,.func 69 [] [.ptr xb 0 0 1]] H2=some (.i p2,H3)) (g6:∀ kf,N ≤ kf → callN Tp polSo (kf+1) 111 [.c db n cap,.i p0,.i p1,.i p2,.ptr x 0 0 1,.func 69 [] [.ptr xb 0 0 1]] H3=some (.i p3,H4)) (g7:loadV Tp H4 3 (.ptr x 0 0 1)=some (.i x0)) (g8:¬ (x0=0)) (g9:x0=12):RT polSo 102 (sub [] B102) [(0,.c db n cap),(1,.i (a:Int)),(2,.i (b:Int)),(3,.func 69 [] [.ptr xb 0 0 1])] H .ret (env102 (.c db n cap) (.i (a:Int)) (.i (b:Int)) (.func 69 [] [.ptr xb 0 0 1]) (.i p3) (.i 2) (.i (IntKind.i64.wrap ((b:Int) - (a:Int)))) (.ptr x 0 0 1) (.i p0) (.i p3) (.i p2) (.i x0)) H4 :=
  RunsTo.hin N 60 [⟨2,0,.ptr x 0 0 1,H0⟩,⟨6,1,.bool true,H0⟩,⟨7,1,.bool true,H0⟩,⟨8,3,.i p0,H1⟩,⟨9,3,.i p1,H2⟩,⟨10,3,.i p2,H3⟩,⟨11,5,.i p3,H4⟩,⟨12,0,.i x0,H4⟩,⟨14,0,.bool false,H4⟩,⟨16,0,.bool true,H4⟩] fun kf hk=>⟨_,by kernel_rfl,(oC (g0) (oB H0 (decide_eq_true g1) (oB H0 (decide_eq_true g2) (oC (g3 kf (by omega)) (oC (g4 kf (by omega)) (oC (g5 kf (by omega)) (oC (g6 kf (by omega)) (oP H4 g7 (oB H4 (decide_eq_false g8) (oB H4 (decide_eq_true g9) .nil))))))))))⟩
theorem cv_a_2 (N:Nat) (db n:Nat) (cap:Option Nat) (H:Heap) (x:Nat) (a:Nat) (b:Nat) {H0:Heap} {p0:Int} {H1:Heap} {p1:Int} {H2:Heap} {p2:Int} {H3:Heap} {p3:Int} {H4:Heap} {x0:Int} (g0:some (newV (.i 0) H)=some (.ptr x 0 0 1,H0)) (g1:8 ≤ IntKind.i64.wrap ((b:Int) - (a:Int))) (g2:50 ≤ IntKind.i64.wrap ((b:Int) - (a:Int))) (g3:∀ kf,N ≤ kf → callN Tp polSo (kf+1) 110 [.c db n cap,.i (IntKind.i64.wrap ((a:Int)+IntKind.i64.wrap (IntKind.i64.wrap ((IntKind.i64.wrap ((b:Int) - (a:Int)):Int).tdiv 4) * 1))),.ptr x 0 0 1,.func 69 [] [.ptr xb 0 0 1]] H0=some (.i p0,H1)) (g4:∀ kf,N ≤ kf → callN Tp polSo (kf+1) 110 [.c db n cap,.i (IntKind.i64.wrap ((a:Int)+IntKind.i64.wrap (IntKind.i64.wrap ((IntKind.i64.wrap ((b:Int) - (a:Int)):Int).tdiv 4) * 2))),.ptr x 0 0 1,.func 69 [] [.ptr xb 0 0 1]] H1=some (.i p1,H2)) (g5:∀ kf,N ≤ kf → callN Tp polSo (kf+1) 110 [.c db n cap,.i (IntKind.i64.wrap ((a:Int)+IntKind.i64.wrap (IntKind.i64.wrap ((IntKind.i64.wrap ((b:Int) - (a:Int)):Int).tdiv 4) * 3))),.ptr x 0 0 1,.func 69 [] [.ptr xb 0 0 1]] H2=some (.i p2,H3)) (g6:∀ kf,N ≤ kf → callN Tp polSo (kf+1) 111 [.c db n cap,.i p0,.i p1,.i p2,.ptr x 0 0 1,.func 69 [] [.ptr xb 0 0 1]] H3=some (.i p3,H4)) (g7:loadV Tp H4 3 (.ptr x 0 0 1)=some (.i x0)) (g8:¬ (x0=0)) (g9:¬ (x0=12)):RT polSo 102 (sub [] B102) [(0,.c db n cap),(1,.i (a:Int)),(2,.i (b:Int)),(3,.func 69 [] [.ptr xb 0 0 1])] H .ret (env102 (.c db n cap) (.i (a:Int)) (.i (b:Int)) (.func 69 [] [.ptr xb 0 0 1]) (.i p3) (.i 0) (.i (IntKind.i64.wrap ((b:Int) - (a:Int)))) (.ptr x 0 0 1) (.i p0) (.i p3) (.i p2) (.i x0)) H4 :=
  RunsTo.hin N 60 [⟨2,0,.ptr x 0 0 1,H0⟩,⟨6,1,.bool true,H0⟩,⟨7,1,.bool true,H0⟩,⟨8,3,.i p0,H1⟩,⟨9,3,.i p1,H2⟩,⟨10,3,.i p2,H3⟩,⟨11,5,.i p3,H4⟩,⟨12,0,.i x0,H4⟩,⟨14,0,.bool false,H4⟩,⟨16,0,.bool false,H4⟩] fun kf hk=>⟨_,by kernel_rfl,(oC (g0) (oB H0 (decide_eq_true g1) (oB H0 (decide_eq_true g2) (oC (g3 kf (by omega)) (oC (g4 kf (by omega)) (oC (g5 kf (by omega)) (oC (g6 kf (by omega)) (oP H4 g7 (oB H4 (decide_eq_false g8) (oB H4 (decide_eq_false g9) .nil))))))))))⟩
theorem cv_a_3 (N:Nat) (db n:Nat) (cap:Option Nat) (H:Heap) (x:Nat) (a:Nat) (b:Nat) {H0:Heap} {p0:Int} {H1:Heap} {x0:Int} (g0:some (newV (.i 0) H)=some (.ptr x 0 0 1,H0)) (g1:8 ≤ IntKind.i64.wrap ((b:Int) - (a:Int))) (g2:¬ (50 ≤ IntKind.i64.wrap ((b:Int) - (a:Int)))) (g3:∀ kf,N ≤ kf → callN Tp polSo (kf+1) 111 [.c db n cap,.i (IntKind.i64.wrap ((a:Int)+IntKind.i64.wrap (IntKind.i64.wrap ((IntKind.i64.wrap ((b:Int) - (a:Int)):Int).tdiv 4) * 1))),.i (IntKind.i64.wrap ((a:Int)+IntKind.i64.wrap (IntKind.i64.wrap ((IntKind.i64.wrap ((b:Int) - (a:Int)):Int).tdiv 4) * 2))),.i (IntKind.i64.wrap ((a:Int)+IntKind.i64.wrap (IntKind.i64.wrap ((IntKind.i64.wrap ((b:Int) - (a:Int)):Int).tdiv 4) * 3))),.ptr x 0 0 1,.func 69 [] [.ptr xb 0 0 1]] H0=some (.i p0,H1)) (g4:loadV Tp H1 3 (.ptr x 0 0 1)=some (.i x0)) (g5:x0=0):RT polSo 102 (sub [] B102) [(0,.c db n cap),(1,.i (a:Int)),(2,.i (b:Int)),(3,.func 69 [] [.ptr xb 0 0 1])] H .ret (env102 (.c db n cap) (.i (a:Int)) (.i (b:Int)) (.func 69 [] [.ptr xb 0 0 1]) (.i p0) (.i 1) (.i (IntKind.i64.wrap ((b:Int) - (a:Int)))) (.ptr x 0 0 1) (.i (IntKind.i64.wrap ((a:Int)+IntKind.i64.wrap (IntKind.i64.wrap ((IntKind.i64.wrap ((b:Int) - (a:Int)):Int).tdiv 4) * 1)))) (.i p0) (.i (IntKind.i64.wrap ((a:Int)+IntKind.i64.wrap (IntKind.i64.wrap ((IntKind.i64.wrap ((b:Int) - (a:Int)):Int).tdiv 4) * 3)))) (.i x0)) H1 :=
  RunsTo.hin N 60 [⟨2,0,.ptr x 0 0 1,H0⟩,⟨6,1,.bool true,H0⟩,⟨7,1,.bool false,H0⟩,⟨11,5,.i p0,H1⟩,⟨12,0,.i x0,H1⟩,⟨14,0,.bool true,H1⟩] fun kf hk=>⟨_,by kernel_rfl,(oC (g0) (oB H0 (decide_eq_true g1) (oB H0 (decide_eq_false g2) (oC (g3 kf (by omega)) (oP H1 g4 (oB H1 (decide_eq_true g5) .nil))))))⟩
theorem cv_a_4 (N:Nat) (db n:Nat) (cap:Option Nat) (H:Heap) (x:Nat) (a:Nat) (b:Nat) {H0:Heap} {p0:Int} {H1:Heap} {x0:Int} (g0:some (newV (.i 0) H)=some (.ptr x 0 0 1,H0)) (g1:8 ≤ IntKind.i64.wrap ((b:Int) - (a:Int))) (g2:¬ (50 ≤ IntKind.i64.wrap ((b:Int) - (a:Int)))) (g3:∀ kf,N ≤ kf → callN Tp polSo (kf+1) 111 [.c db n cap,.i (IntKind.i64.wrap ((a:Int)+IntKind.i64.wrap (IntKind.i64.wrap ((IntKind.i64.wrap ((b:Int) - (a:Int)):Int).tdiv 4) * 1))),.i (IntKind.i64.wrap ((a:Int)+IntKind.i64.wrap (IntKind.i64.wrap ((IntKind.i64.wrap ((b:Int) - (a:Int)):Int).tdiv 4) * 2))),.i (IntKind.i64.wrap ((a:Int)+IntKind.i64.wrap (IntKind.i64.wrap ((IntKind.i64.wrap ((b:Int) - (a:Int)):Int).tdiv 4) * 3))),.ptr x 0 0 1,.func 69 [] [.ptr xb 0 0 1]] H0=some (.i p0,H1)) (g4:loadV Tp H1 3 (.ptr x 0 0 1)=some (.i x0)) (g5:¬ (x0=0)) (g6:x0=12):RT polSo 102 (sub [] B102) [(0,.c db n cap),(1,.i (a:Int)),(2,.i (b:Int)),(3,.func 69 [] [.ptr xb 0 0 1])] H .ret (env102 (.c db n cap) (.i (a:Int)) (.i (b:Int)) (.func 69 [] [.ptr xb 0 0 1]) (.i p0) (.i 2) (.i (IntKind.i64.wrap ((b:Int) - (a:Int)))) (.ptr x 0 0 1) (.i (IntKind.i64.wrap ((a:Int)+IntKind.i64.wrap (IntKind.i64.wrap ((IntKind.i64.wrap ((b:Int) - (a:Int)):Int).tdiv 4) * 1)))) (.i p0) (.i (IntKind.i64.wrap ((a:Int)+IntKind.i64.wrap (IntKind.i64.wrap ((IntKind.i64.wrap ((b:Int) - (a:Int)):Int).tdiv 4) * 3)))) (.i x0)) H1 :=
  RunsTo.hin N 60 [⟨2,0,.ptr x 0 0 1,H0⟩,⟨6,1,.bool true,H0⟩,⟨7,1,.bool false,H0⟩,⟨11,5,.i p0,H1⟩,⟨12,0,.i x0,H1⟩,⟨14,0,.bool false,H1⟩,⟨16,0,.bool true,H1⟩] fun kf hk=>⟨_,by kernel_rfl,(oC (g0) (oB H0 (decide_eq_true g1) (oB H0 (decide_eq_false g2) (oC (g3 kf (by omega)) (oP H1 g4 (oB H1 (decide_eq_false g5) (oB H1 (decide_eq_true g6) .nil)))))))⟩
theorem cv_a_5 (N:Nat) (db n:Nat) (cap:Option Nat) (H:Heap) (x:Nat) (a:Nat) (b:Nat) {H0:Heap} {p0:Int} {H1:Heap} {x0:Int} (g0:some (newV (.i 0) H)=some (.ptr x 0 0 1,H0)) (g1:8 ≤ IntKind.i64.wrap ((b:Int) - (a:Int))) (g2:¬ (50 ≤ IntKind.i64.wrap ((b:Int) - (a:Int)))) (g3:∀ kf,N ≤ kf → callN Tp polSo (kf+1) 111 [.c db n cap,.i (IntKind.i64.wrap ((a:Int)+IntKind.i64.wrap (IntKind.i64.wrap ((IntKind.i64.wrap ((b:Int) - (a:Int)):Int).tdiv 4) * 1))),.i (IntKind.i64.wrap ((a:Int)+IntKind.i64.wrap (IntKind.i64.wrap ((IntKind.i64.wrap ((b:Int) - (a:Int)):Int).tdiv 4) * 2))),.i (IntKind.i64.wrap ((a:Int)+IntKind.i64.wrap (IntKind.i64.wrap ((IntKind.i64.wrap ((b:Int) - (a:Int)):Int).tdiv 4) * 3))),.ptr x 0 0 1,.func 69 [] [.ptr xb 0 0 1]] H0=some (.i p0,H1)) (g4:loadV Tp H1 3 (.ptr x 0 0 1)=some (.i x0)) (g5:¬ (x0=0)) (g6:¬ (x0=12)):RT polSo 102 (sub [] B102) [(0,.c db n cap),(1,.i (a:Int)),(2,.i (b:Int)),(3,.func 69 [] [.ptr xb 0 0 1])] H .ret (env102 (.c db n cap) (.i (a:Int)) (.i (b:Int)) (.func 69 [] [.ptr xb 0 0 1]) (.i p0) (.i 0) (.i (IntKind.i64.wrap ((b:Int) - (a:Int)))) (.ptr x 0 0 1) (.i (IntKind.i64.wrap ((a:Int)+IntKind.i64.wrap (IntKind.i64.wrap ((IntKind.i64.wrap ((b:Int) - (a:Int)):Int).tdiv 4) * 1)))) (.i p0) (.i (IntKind.i64.wrap ((a:Int)+IntKind.i64.wrap (IntKind.i64.wrap ((IntKind.i64.wrap ((b:Int) - (a:Int)):Int).tdiv 4) * 3)))) (.i x0)) H1 :=
  RunsTo.hin N 60 [⟨2,0,.ptr x 0 0 1,H0⟩,⟨6,1,.bool true,H0⟩,⟨7,1,.bool false,H0⟩,⟨11,5,.i p0,H1⟩,⟨12,0,.i x0,H1⟩,⟨14,0,.bool false,H1⟩,⟨16,0,.bool false,H1⟩] fun kf hk=>⟨_,by kernel_rfl,(oC (g0) (oB H0 (decide_eq_true g1) (oB H0 (decide_eq_false g2) (oC (g3 kf (by omega)) (oP H1 g4 (oB H1 (decide_eq_false g5) (oB H1 (decide_eq_false g6) .nil)))))))⟩
noncomputable def B96:Code:=Try.f96.body.getD .skip
abbrev env96 (v0 v2:HV):Env:=[(0,v0),(2,v2)]
theorem xs_a_0 (N:Nat) (db n:Nat) (cap:Option Nat) (H:Heap) (x:Nat)  {x0:Int} {x1:Int} {h0:Int} {h1:Int} {H0:Heap} {x2:Int} {x3:Int} {h2:Int} {h3:Int} {H1:Heap} {x4:Int} {x5:Int} {h4:Int} {h5:Int} {H2:Heap} {x6:Int} (g0:loadV Tp H 123 (.ptr x 0 0 1)=some (.int .u64 x0)) (g1:loadV Tp H 123 (.ptr x 0 0 1)=some (.int .u64 x1)) (g2:binV Tp .shl 123 (.int .u64 x1) (.int .u64 13)=some (.int .u64 h0)) (g3:binV Tp .xor 123 (.int .u64 x0) (.int .u64 h0)=some (.int .u64 h1)) (g4:storeV Tp H 123 (.ptr x 0 0 1) (.int .u64 h1)=some H0) (g5:loadV Tp H0 123 (.ptr x 0 0 1)=some (.int .u64 x2)) (g6:loadV Tp H0 123 (.ptr x 0 0 1)=some (.int .u64 x3)) (g7:binV Tp .shr 123 (.int .u64 x3) (.int .u64 7)=some (.int .u64 h2)) (g8:binV Tp .xor 123 (.int .u64 x2) (.int .u64 h2)=some (.int .u64 h3)) (g9:storeV Tp H0 123 (.ptr x 0 0 1) (.int .u64 h3)=some H1) (g10:loadV Tp H1 123 (.ptr x 0 0 1)=some (.int .u64 x4)) (g11:loadV Tp H1 123 (.ptr x 0 0 1)=some (.int .u64 x5)) (g12:binV Tp .shl 123 (.int .u64 x5) (.int .u64 17)=some (.int .u64 h4)) (g13:binV Tp .xor 123 (.int .u64 x4) (.int .u64 h4)=some (.int .u64 h5)) (g14:storeV Tp H1 123 (.ptr x 0 0 1) (.int .u64 h5)=some H2) (g15:loadV Tp H2 123 (.ptr x 0 0 1)=some (.int .u64 x6)):RT polSo 96 (sub [] B96) [(0,.ptr x 0 0 1)] H .ret (env96 (.ptr x 0 0 1) (.int .u64 x6)) H2 :=
  RunsTo.hin N 60 [⟨1,2,.int .u64 x0,H⟩,⟨1,5,.int .u64 x1,H⟩,⟨1,6,.int .u64 h0,H⟩,⟨1,7,.int .u64 h1,H⟩,⟨1,9,.tuple [],H0⟩,⟨2,2,.int .u64 x2,H0⟩,⟨2,5,.int .u64 x3,H0⟩,⟨2,6,.int .u64 h2,H0⟩,⟨2,7,.int .u64 h3,H0⟩,⟨2,9,.tuple [],H1⟩,⟨3,2,.int .u64 x4,H1⟩,⟨3,5,.int .u64 x5,H1⟩,⟨3,6,.int .u64 h4,H1⟩,⟨3,7,.int .u64 h5,H1⟩,⟨3,9,.tuple [],H2⟩,⟨4,2,.int .u64 x6,H2⟩] fun kf hk=>⟨_,by kernel_rfl,(oP H g0 (oP H g1 (oP H g2 (oP H g3 (oS g4 (oP H0 g5 (oP H0 g6 (oP H0 g7 (oP H0 g8 (oS g9 (oP H1 g10 (oP H1 g11 (oP H1 g12 (oP H1 g13 (oS g14 (oP H2 g15 .nil))))))))))))))))⟩
noncomputable def B101:Code:=Try.f101.body.getD .skip
abbrev env101 (v0 v1 v2 v8 v9 v10 v11 v12:HV):Env:=[(0,v0),(1,v1),(2,v2),(8,v8),(9,v9),(10,v10),(11,v11),(12,v12)]
theorem bk_a_0 (N:Nat) (db n:Nat) (cap:Option Nat) (H:Heap) (x:Nat) (a:Nat) (b:Nat):RT polSo 101 (sub [0] B101) [(0,.c db n cap),(1,.i (a:Int)),(2,.i (b:Int)),(3,.func 69 [] [.ptr xb 0 0 1])] H .normal (env101 (.c db n cap) (.i (a:Int)) (.i (b:Int)) (.i (IntKind.i64.wrap ((b:Int) - (a:Int)))) Ud Ud Ud Ud) H :=
  RunsTo.hin N 60 [] fun kf hk=>⟨_,by kernel_rfl,.nil⟩
theorem bk_b_0 (N:Nat) (db n:Nat) (cap:Option Nat) (H:Heap) (x:Nat) (a:Nat) (b:Nat) (k:Nat) {y9 y10 y11 y12:HV}(g0:8 ≤ (k:Int)):RunsTo Tp polSo 101 (sub [1,0] B101) (env101 (.c db n cap) (.i (a:Int)) (.i (b:Int)) (.i (k:Int)) y9 y10 y11 y12) H .normal [0,1,2,8,9,10,11,12,17] [(0,.c db n cap),(1,.i (a:Int)),(2,.i (b:Int)),(8,.i (k:Int)),(9,y9),(10,y10),(11,y11),(12,y12),(17,.bool true)] H :=
  RunsTo.hin N 60 [⟨1,1,.bool true,H⟩] fun kf hk=>⟨_,by kernel_rfl,(oB H (decide_eq_true g0) .nil)⟩
theorem bk_c_0 (N:Nat) (db n:Nat) (cap:Option Nat) (H:Heap) (x:Nat) (a:Nat) (b:Nat) (k:Nat) {y9 y10 y11 y12:HV} {H0:Heap} {H1:Heap} (g0:some (newV (.int .u64 0) H)=some (.ptr x 0 0 1,H0)) (g1:storeV Tp H0 123 (.ptr x 0 0 1) (.int .u64 (IntKind.u64.wrap (k:Int)))=some H1):RT polSo 101 (sub [1,1,0,0] B101) (env101 (.c db n cap) (.i (a:Int)) (.i (b:Int)) (.i (k:Int)) y9 y10 y11 y12) H .normal (env101 (.c db n cap) (.i (a:Int)) (.i (b:Int)) (.i (k:Int)) (.ptr x 0 0 1) y10 y11 y12) H1 :=
  RunsTo.hin N 60 [⟨2,2,.ptr x 0 0 1,H0⟩,⟨2,3,.tuple [],H1⟩] fun kf hk=>⟨_,by kernel_rfl,(oC (g0) (oS g1 .nil))⟩
theorem bk_d_0 (N:Nat) (db n:Nat) (cap:Option Nat) (H:Heap) (x:Nat) (a:Nat) (b:Nat) (k:Nat) {y10 y11 y12:HV} {u0:Int} {H0:Heap} (g0:∀ kf,N ≤ kf → callN Tp polSo (kf+1) 95 [.i (k:Int)] H=some (.int .u64 u0,H0)):RT polSo 101 (sub [1,1,0,1,0] B101) (env101 (.c db n cap) (.i (a:Int)) (.i (b:Int)) (.i (k:Int)) (.ptr x 0 0 1) y10 y11 y12) H .normal (env101 (.c db n cap) (.i (a:Int)) (.i (b:Int)) (.i (k:Int)) (.ptr x 0 0 1) (.int .u64 u0) y11 y12) H0 :=
  RunsTo.hin N 60 [⟨3,1,.int .u64 u0,H0⟩] fun kf hk=>⟨_,by kernel_rfl,(oC (g0 kf (by omega)) .nil)⟩
theorem bk_e_0 (N:Nat) (db n:Nat) (cap:Option Nat) (H:Heap) (x:Nat) (a:Nat) (b:Nat) (k:Nat) (mo:Int) {y11 y12:HV}:RT polSo 101 (sub [1,1,0,1,1,0] B101) (env101 (.c db n cap) (.i (a:Int)) (.i (b:Int)) (.i (k:Int)) (.ptr x 0 0 1) (.int .u64 mo) y11 y12) H .normal (env101 (.c db n cap) (.i (a:Int)) (.i (b:Int)) (.i (k:Int)) (.ptr x 0 0 1) (.int .u64 mo) (.i (IntKind.i64.wrap (IntKind.i64.wrap ((a:Int)+IntKind.i64.wrap (IntKind.i64.wrap (((k:Int):Int).tdiv 4) * 2)) - 1))) y12) H :=
  RunsTo.hin N 60 [] fun kf hk=>⟨_,by kernel_rfl,.nil⟩
theorem bk_f_0 (N:Nat) (db n:Nat) (cap:Option Nat) (H:Heap) (x:Nat) (a:Nat) (b:Nat) (k:Nat) (mo:Int) (i:Nat) {y12:HV} {u0:Int} {H0:Heap} {h0:Int} {a0:HV} {v0:HV} {a1:HV} {v1:HV} {a2:HV} {H1:Heap} {a3:HV} {H2:Heap} (g0:(i:Int) ≤ IntKind.i64.wrap (IntKind.i64.wrap ((a:Int)+IntKind.i64.wrap (IntKind.i64.wrap (((k:Int):Int).tdiv 4) * 2))+1)) (g1:∀ kf,N ≤ kf → callN Tp polSo (kf+1) 96 [.ptr x 0 0 1] H=some (.int .u64 u0,H0)) (g2:binV Tp .and 82 (.int .u64 u0) (.int .u64 (IntKind.u64.wrap (mo - 1)))=some (.int .u64 h0)) (g3:(k:Int) ≤ IntKind.i64.wrap h0) (g4:idxV Tp 24 (.c db n cap) (.i (IntKind.i64.wrap ((a:Int)+IntKind.i64.wrap (IntKind.i64.wrap h0 - (k:Int)))))=some (a0)) (g5:loadV Tp H0 3 (a0)=some (v0)) (g6:idxV Tp 24 (.c db n cap) (.i (i:Int))=some (a1)) (g7:loadV Tp H0 3 (a1)=some (v1)) (g8:idxV Tp 24 (.c db n cap) (.i (i:Int))=some (a2)) (g9:storeV Tp H0 3 (a2) (v0)=some H1) (g10:idxV Tp 24 (.c db n cap) (.i (IntKind.i64.wrap ((a:Int)+IntKind.i64.wrap (IntKind.i64.wrap h0 - (k:Int)))))=some (a3)) (g11:storeV Tp H1 3 (a3) (v1)=some H2):RT polSo 101 (sub [1,1,0,1,1,1,0,0] B101) (env101 (.c db n cap) (.i (a:Int)) (.i (b:Int)) (.i (k:Int)) (.ptr x 0 0 1) (.int .u64 mo) (.i (i:Int)) y12) H .normal (env101 (.c db n cap) (.i (a:Int)) (.i (b:Int)) (.i (k:Int)) (.ptr x 0 0 1) (.int .u64 mo) (.i (IntKind.i64.wrap ((i:Int)+1))) (.i (IntKind.i64.wrap (IntKind.i64.wrap h0 - (k:Int))))) H2 :=
  RunsTo.hin N 60 [⟨5,7,.bool true,H⟩,⟨7,0,.int .u64 u0,H0⟩,⟨7,3,.int .u64 h0,H0⟩,⟨8,2,.bool true,H0⟩,⟨10,10,a0,H0⟩,⟨10,11,v0,H0⟩,⟨10,14,a1,H0⟩,⟨10,15,v1,H0⟩,⟨10,16,a2,H0⟩,⟨10,17,.tuple [],H1⟩,⟨10,18,a3,H1⟩,⟨10,19,.tuple [],H2⟩] fun kf hk=>⟨_,by kernel_rfl,(oB H (decide_eq_true g0) (oC (g1 kf (by omega)) (oP H0 g2 (oB H0 (decide_eq_true g3) (oP H0 g4 (oP H0 g5 (oP H0 g6 (oP H0 g7 (oP H0 g8 (oS g9 (oP H1 g10 (oS g11 .nil))))))))))))⟩
theorem bk_f_1 (N:Nat) (db n:Nat) (cap:Option Nat) (H:Heap) (x:Nat) (a:Nat) (b:Nat) (k:Nat) (mo:Int) (i:Nat) {y12:HV} {u0:Int} {H0:Heap} {h0:Int} {a0:HV} {v0:HV} {a1:HV} {v1:HV} {a2:HV} {H1:Heap} {a3:HV} {H2:Heap} (g0:(i:Int) ≤ IntKind.i64.wrap (IntKind.i64.wrap ((a:Int)+IntKind.i64.wrap (IntKind.i64.wrap (((k:Int):Int).tdiv 4) * 2))+1)) (g1:∀ kf,N ≤ kf → callN Tp polSo (kf+1) 96 [.ptr x 0 0 1] H=some (.int .u64 u0,H0)) (g2:binV Tp .and 82 (.int .u64 u0) (.int .u64 (IntKind.u64.wrap (mo - 1)))=some (.int .u64 h0)) (g3:¬ ((k:Int) ≤ IntKind.i64.wrap h0)) (g4:idxV Tp 24 (.c db n cap) (.i (IntKind.i64.wrap ((a:Int)+IntKind.i64.wrap h0)))=some (a0)) (g5:loadV Tp H0 3 (a0)=some (v0)) (g6:idxV Tp 24 (.c db n cap) (.i (i:Int))=some (a1)) (g7:loadV Tp H0 3 (a1)=some (v1)) (g8:idxV Tp 24 (.c db n cap) (.i (i:Int))=some (a2)) (g9:storeV Tp H0 3 (a2) (v0)=some H1) (g10:idxV Tp 24 (.c db n cap) (.i (IntKind.i64.wrap ((a:Int)+IntKind.i64.wrap h0)))=some (a3)) (g11:storeV Tp H1 3 (a3) (v1)=some H2):RT polSo 101 (sub [1,1,0,1,1,1,0,0] B101) (env101 (.c db n cap) (.i (a:Int)) (.i (b:Int)) (.i (k:Int)) (.ptr x 0 0 1) (.int .u64 mo) (.i (i:Int)) y12) H .normal (env101 (.c db n cap) (.i (a:Int)) (.i (b:Int)) (.i (k:Int)) (.ptr x 0 0 1) (.int .u64 mo) (.i (IntKind.i64.wrap ((i:Int)+1))) (.i (IntKind.i64.wrap h0))) H2 :=
  RunsTo.hin N 60 [⟨5,7,.bool true,H⟩,⟨7,0,.int .u64 u0,H0⟩,⟨7,3,.int .u64 h0,H0⟩,⟨8,2,.bool false,H0⟩,⟨10,10,a0,H0⟩,⟨10,11,v0,H0⟩,⟨10,14,a1,H0⟩,⟨10,15,v1,H0⟩,⟨10,16,a2,H0⟩,⟨10,17,.tuple [],H1⟩,⟨10,18,a3,H1⟩,⟨10,19,.tuple [],H2⟩] fun kf hk=>⟨_,by kernel_rfl,(oB H (decide_eq_true g0) (oC (g1 kf (by omega)) (oP H0 g2 (oB H0 (decide_eq_false g3) (oP H0 g4 (oP H0 g5 (oP H0 g6 (oP H0 g7 (oP H0 g8 (oS g9 (oP H1 g10 (oS g11 .nil))))))))))))⟩
theorem bk_f_2 (N:Nat) (db n:Nat) (cap:Option Nat) (H:Heap) (x:Nat) (a:Nat) (b:Nat) (k:Nat) (mo:Int) (i:Nat) {y12:HV}(g0:¬ ((i:Int) ≤ IntKind.i64.wrap (IntKind.i64.wrap ((a:Int)+IntKind.i64.wrap (IntKind.i64.wrap (((k:Int):Int).tdiv 4) * 2))+1))):RT polSo 101 (sub [1,1,0,1,1,1,0,0] B101) (env101 (.c db n cap) (.i (a:Int)) (.i (b:Int)) (.i (k:Int)) (.ptr x 0 0 1) (.int .u64 mo) (.i (i:Int)) y12) H (.exit 0) (env101 (.c db n cap) (.i (a:Int)) (.i (b:Int)) (.i (k:Int)) (.ptr x 0 0 1) (.int .u64 mo) (.i (i:Int)) y12) H :=
  RunsTo.hin N 60 [⟨5,7,.bool false,H⟩] fun kf hk=>⟨_,by kernel_rfl,(oB H (decide_eq_false g0) .nil)⟩
noncomputable def B88:Code:=Try.f88.body.getD .skip
abbrev env88 (v0 v1 v2 v3 v4 v10 v11 v12 v13 v14 v15 v16 v17 v18 v19 v20:HV):Env:=[(0,v0),(1,v1),(2,v2),(3,v3),(4,v4),(10,v10),(11,v11),(12,v12),(13,v13),(14,v14),(15,v15),(16,v16),(17,v17),(18,v18),(19,v19),(20,v20)]
theorem pq_a_0 (N:Nat) (db n:Nat) (cap:Option Nat) (H:Heap) (x:Nat) (a:Nat) (b:Nat) (lim:Int):RT polSo 88 (sub [0] B88) [(0,.c db n cap),(1,.i (a:Int)),(2,.i (b:Int)),(3,.i lim),(4,.func 69 [] [.ptr xb 0 0 1])] H .normal (env88 (.c db n cap) (.i (a:Int)) (.i (b:Int)) (.i lim) (.func 69 [] [.ptr xb 0 0 1]) (.bool true) Ud Ud Ud Ud Ud Ud Ud Ud Ud Ud) H :=
  RunsTo.hin N 60 [] fun kf hk=>⟨_,by kernel_rfl,.nil⟩
theorem pq_b_0 (N:Nat) (db n:Nat) (cap:Option Nat) (H:Heap) (x:Nat) (a:Nat) (b:Nat) (lim:Int) {y10 y11 y12 y13 y14 y15 y16 y17 y18 y19 y20:HV}:RT polSo 88 (sub [1,0] B88) (env88 (.c db n cap) (.i (a:Int)) (.i (b:Int)) (.i lim) (.func 69 [] [.ptr xb 0 0 1]) y10 y11 y12 y13 y14 y15 y16 y17 y18 y19 y20) H .normal (env88 (.c db n cap) (.i (a:Int)) (.i (b:Int)) (.i lim) (.func 69 [] [.ptr xb 0 0 1]) y10 (.bool true) y12 y13 y14 y15 y16 y17 y18 y19 y20) H :=
  RunsTo.hin N 60 [] fun kf hk=>⟨_,by kernel_rfl,.nil⟩
theorem pq_c_0 (N:Nat) (db n:Nat) (cap:Option Nat) (H:Heap) (x:Nat) (a:Nat) (b:Nat) (lim:Int) {y10 y11 y12 y13 y14 y15 y16 y17 y18 y19 y20:HV}:RT polSo 88 (sub [1,1,0,0,0,0] B88) (env88 (.c db n cap) (.i (a:Int)) (.i (b:Int)) (.i lim) (.func 69 [] [.ptr xb 0 0 1]) y10 y11 y12 y13 y14 y15 y16 y17 y18 y19 y20) H .normal (env88 (.c db n cap) (.i (a:Int)) (.i (b:Int)) (.i lim) (.func 69 [] [.ptr xb 0 0 1]) y10 y11 (.i (IntKind.i64.wrap ((b:Int) - (a:Int)))) y13 y14 y15 y16 y17 y18 y19 y20) H :=
  RunsTo.hin N 60 [] fun kf hk=>⟨_,by kernel_rfl,.nil⟩
theorem pq_d_0 (N:Nat) (db n:Nat) (cap:Option Nat) (H:Heap) (x:Nat) (a:Nat) (b:Nat) (lim:Int) (k:Nat) {y10 y11 y13 y14 y15 y16 y17 y18 y19 y20:HV} {H0:Heap} (g0:(k:Int) ≤ 12) (g1:∀ kf,N ≤ kf → callN Tp polSo (kf+1) 99 [.c db n cap,.i (a:Int),.i (b:Int),.func 69 [] [.ptr xb 0 0 1]] H=some (.tuple [],H0)):RT polSo 88 (sub [1,1,0,0,0,1,0] B88) (env88 (.c db n cap) (.i (a:Int)) (.i (b:Int)) (.i lim) (.func 69 [] [.ptr xb 0 0 1]) y10 y11 (.i (k:Int)) y13 y14 y15 y16 y17 y18 y19 y20) H .ret (env88 (.c db n cap) (.i (a:Int)) (.i (b:Int)) (.i lim) (.func 69 [] [.ptr xb 0 0 1]) y10 y11 (.i (k:Int)) y13 y14 y15 y16 y17 y18 y19 y20) H0 :=
  RunsTo.hin N 60 [⟨3,1,.bool true,H⟩,⟨4,4,.tuple [],H0⟩] fun kf hk=>⟨_,by kernel_rfl,(oB H (decide_eq_true g0) (oC (g1 kf (by omega)) .nil))⟩
theorem pq_d_1 (N:Nat) (db n:Nat) (cap:Option Nat) (H:Heap) (x:Nat) (a:Nat) (b:Nat) (lim:Int) (k:Nat) {y10 y11 y13 y14 y15 y16 y17 y18 y19 y20:HV}(g0:¬ ((k:Int) ≤ 12)):RT polSo 88 (sub [1,1,0,0,0,1,0] B88) (env88 (.c db n cap) (.i (a:Int)) (.i (b:Int)) (.i lim) (.func 69 [] [.ptr xb 0 0 1]) y10 y11 (.i (k:Int)) y13 y14 y15 y16 y17 y18 y19 y20) H .normal (env88 (.c db n cap) (.i (a:Int)) (.i (b:Int)) (.i lim) (.func 69 [] [.ptr xb 0 0 1]) y10 y11 (.i (k:Int)) y13 y14 y15 y16 y17 y18 y19 y20) H :=
  RunsTo.hin N 60 [⟨3,1,.bool false,H⟩] fun kf hk=>⟨_,by kernel_rfl,(oB H (decide_eq_false g0) .nil)⟩
theorem pq_e_0 (N:Nat) (db n:Nat) (cap:Option Nat) (H:Heap) (x:Nat) (a:Nat) (b:Nat) (lim:Int) {y10 y11 y12 y13 y14 y15 y16 y17 y18 y19 y20:HV} {H0:Heap} (g0:lim=0) (g1:∀ kf,N ≤ kf → callN Tp polSo (kf+1) 100 [.c db n cap,.i (a:Int),.i (b:Int),.func 69 [] [.ptr xb 0 0 1]] H=some (.tuple [],H0)):RT polSo 88 (sub [1,1,0,0,0,1,1,0] B88) (env88 (.c db n cap) (.i (a:Int)) (.i (b:Int)) (.i lim) (.func 69 [] [.ptr xb 0 0 1]) y10 y11 y12 y13 y14 y15 y16 y17 y18 y19 y20) H .ret (env88 (.c db n cap) (.i (a:Int)) (.i (b:Int)) (.i lim) (.func 69 [] [.ptr xb 0 0 1]) y10 y11 y12 y13 y14 y15 y16 y17 y18 y19 y20) H0 :=
  RunsTo.hin N 60 [⟨5,1,.bool true,H⟩,⟨6,4,.tuple [],H0⟩] fun kf hk=>⟨_,by kernel_rfl,(oB H (decide_eq_true g0) (oC (g1 kf (by omega)) .nil))⟩
theorem pq_e_1 (N:Nat) (db n:Nat) (cap:Option Nat) (H:Heap) (x:Nat) (a:Nat) (b:Nat) (lim:Int) {y10 y11 y12 y13 y14 y15 y16 y17 y18 y19 y20:HV}(g0:¬ (lim=0)):RT polSo 88 (sub [1,1,0,0,0,1,1,0] B88) (env88 (.c db n cap) (.i (a:Int)) (.i (b:Int)) (.i lim) (.func 69 [] [.ptr xb 0 0 1]) y10 y11 y12 y13 y14 y15 y16 y17 y18 y19 y20) H .normal (env88 (.c db n cap) (.i (a:Int)) (.i (b:Int)) (.i lim) (.func 69 [] [.ptr xb 0 0 1]) y10 y11 y12 y13 y14 y15 y16 y17 y18 y19 y20) H :=
  RunsTo.hin N 60 [⟨5,1,.bool false,H⟩] fun kf hk=>⟨_,by kernel_rfl,(oB H (decide_eq_false g0) .nil)⟩
theorem pq_f_0 (N:Nat) (db n:Nat) (cap:Option Nat) (H:Heap) (x:Nat) (a:Nat) (b:Nat) (lim:Int) {y11 y12 y13 y14 y15 y16 y17 y18 y19 y20:HV}:RT polSo 88 (sub [1,1,0,0,0,1,1,1,0] B88) (env88 (.c db n cap) (.i (a:Int)) (.i (b:Int)) (.i lim) (.func 69 [] [.ptr xb 0 0 1]) (.bool true) y11 y12 y13 y14 y15 y16 y17 y18 y19 y20) H .normal (env88 (.c db n cap) (.i (a:Int)) (.i (b:Int)) (.i lim) (.func 69 [] [.ptr xb 0 0 1]) (.bool true) y11 y12 y13 y14 y15 y16 y17 y18 y19 y20) H :=
  RunsTo.hin N 60 [] fun kf hk=>⟨_,by kernel_rfl,.nil⟩
theorem pq_g_0 (N:Nat) (db n:Nat) (cap:Option Nat) (H:Heap) (x:Nat) (a:Nat) (b:Nat) (lim:Int) {y11 y12 y13 y14 y15 y16 y17 y18 y19 y20:HV} {H0:Heap} (g0:∀ kf,N ≤ kf → callN Tp polSo (kf+1) 101 [.c db n cap,.i (a:Int),.i (b:Int),.func 69 [] [.ptr xb 0 0 1]] H=some (.tuple [],H0)):RT polSo 88 (sub [1,1,0,0,0,1,1,1,0] B88) (env88 (.c db n cap) (.i (a:Int)) (.i (b:Int)) (.i lim) (.func 69 [] [.ptr xb 0 0 1]) (.bool false) y11 y12 y13 y14 y15 y16 y17 y18 y19 y20) H .normal (env88 (.c db n cap) (.i (a:Int)) (.i (b:Int)) (.i (IntKind.i64.wrap (lim - 1))) (.func 69 [] [.ptr xb 0 0 1]) (.bool false) y11 y12 y13 y14 y15 y16 y17 y18 y19 y20) H0 :=
  RunsTo.hin N 60 [⟨8,4,.tuple [],H0⟩] fun kf hk=>⟨_,by kernel_rfl,(oC (g0 kf (by omega)) .nil)⟩
theorem pq_h_0 (N:Nat) (db n:Nat) (cap:Option Nat) (H:Heap) (x:Nat) (a:Nat) (b:Nat) (lim:Int) {y10 y11 y12 y13 y14 y15 y16 y17 y18 y19 y20:HV} {p0:Int} {p1:Int} {H0:Heap} (g0:∀ kf,N ≤ kf → callN Tp polSo (kf+1) 102 [.c db n cap,.i (a:Int),.i (b:Int),.func 69 [] [.ptr xb 0 0 1]] H=some (.tuple [.i p0,.i p1],H0)):RT polSo 88 (sub [1,1,0,0,0,1,1,1,1,0] B88) (env88 (.c db n cap) (.i (a:Int)) (.i (b:Int)) (.i lim) (.func 69 [] [.ptr xb 0 0 1]) y10 y11 y12 y13 y14 y15 y16 y17 y18 y19 y20) H .normal (env88 (.c db n cap) (.i (a:Int)) (.i (b:Int)) (.i lim) (.func 69 [] [.ptr xb 0 0 1]) y10 y11 y12 (.i p0) (.i p1) y15 y16 y17 y18 y19 y20) H0 :=
  RunsTo.hin N 60 [⟨10,4,.tuple [.i p0,.i p1],H0⟩] fun kf hk=>⟨_,by kernel_rfl,(oC (g0 kf (by omega)) .nil)⟩
theorem pq_i_0 (N:Nat) (db n:Nat) (cap:Option Nat) (H:Heap) (x:Nat) (a:Nat) (b:Nat) (lim:Int) (p:Nat) (h:Int) {y10 y11 y12 y15 y16 y17 y18 y19 y20:HV} {H0:Heap} (g0:h=2) (g1:∀ kf,N ≤ kf → callN Tp polSo (kf+1) 103 [.c db n cap,.i (a:Int),.i (b:Int),.func 69 [] [.ptr xb 0 0 1]] H=some (.tuple [],H0)):RT polSo 88 (sub [1,1,0,0,0,1,1,1,1,1,0] B88) (env88 (.c db n cap) (.i (a:Int)) (.i (b:Int)) (.i lim) (.func 69 [] [.ptr xb 0 0 1]) y10 y11 y12 (.i (p:Int)) (.i h) y15 y16 y17 y18 y19 y20) H .normal (env88 (.c db n cap) (.i (a:Int)) (.i (b:Int)) (.i lim) (.func 69 [] [.ptr xb 0 0 1]) y10 y11 y12 (.i (IntKind.i64.wrap (IntKind.i64.wrap ((b:Int) - 1) - IntKind.i64.wrap ((p:Int) - (a:Int))))) (.i 1) y15 y16 y17 y18 y19 y20) H0 :=
  RunsTo.hin N 60 [⟨11,1,.bool true,H⟩,⟨12,4,.tuple [],H0⟩] fun kf hk=>⟨_,by kernel_rfl,(oB H (decide_eq_true g0) (oC (g1 kf (by omega)) .nil))⟩
theorem pq_i_1 (N:Nat) (db n:Nat) (cap:Option Nat) (H:Heap) (x:Nat) (a:Nat) (b:Nat) (lim:Int) (p:Nat) (h:Int) {y10 y11 y12 y15 y16 y17 y18 y19 y20:HV}(g0:¬ (h=2)):RT polSo 88 (sub [1,1,0,0,0,1,1,1,1,1,0] B88) (env88 (.c db n cap) (.i (a:Int)) (.i (b:Int)) (.i lim) (.func 69 [] [.ptr xb 0 0 1]) y10 y11 y12 (.i (p:Int)) (.i h) y15 y16 y17 y18 y19 y20) H .normal (env88 (.c db n cap) (.i (a:Int)) (.i (b:Int)) (.i lim) (.func 69 [] [.ptr xb 0 0 1]) y10 y11 y12 (.i (p:Int)) (.i h) y15 y16 y17 y18 y19 y20) H :=
  RunsTo.hin N 60 [⟨11,1,.bool false,H⟩] fun kf hk=>⟨_,by kernel_rfl,(oB H (decide_eq_false g0) .nil)⟩
theorem pq_j_0 (N:Nat) (db n:Nat) (cap:Option Nat) (H:Heap) (x:Nat) (a:Nat) (b:Nat) (lim:Int) (h:Int) {y12 y13 y15 y16 y17 y18 y19 y20:HV} {H0:Heap} (g0:h=1) (g1:∀ kf,N ≤ kf → callN Tp polSo (kf+1) 104 [.c db n cap,.i (a:Int),.i (b:Int),.func 69 [] [.ptr xb 0 0 1]] H=some (.bool true,H0)):RT polSo 88 (sub [1,1,0,0,0,1,1,1,1,1,1,0] B88) (env88 (.c db n cap) (.i (a:Int)) (.i (b:Int)) (.i lim) (.func 69 [] [.ptr xb 0 0 1]) (.bool true) (.bool true) y12 y13 (.i h) y15 y16 y17 y18 y19 y20) H .ret (env88 (.c db n cap) (.i (a:Int)) (.i (b:Int)) (.i lim) (.func 69 [] [.ptr xb 0 0 1]) (.bool true) (.bool true) y12 y13 (.i h) y15 y16 y17 y18 y19 y20) H0 :=
  RunsTo.hin N 60 [⟨15,6,.bool true,H⟩,⟨16,4,.bool true,H0⟩] fun kf hk=>⟨_,by kernel_rfl,(oB H (decide_eq_true g0) (oC (g1 kf (by omega)) .nil))⟩
theorem pq_j_1 (N:Nat) (db n:Nat) (cap:Option Nat) (H:Heap) (x:Nat) (a:Nat) (b:Nat) (lim:Int) (h:Int) {y12 y13 y15 y16 y17 y18 y19 y20:HV} {H0:Heap} (g0:h=1) (g1:∀ kf,N ≤ kf → callN Tp polSo (kf+1) 104 [.c db n cap,.i (a:Int),.i (b:Int),.func 69 [] [.ptr xb 0 0 1]] H=some (.bool false,H0)):RT polSo 88 (sub [1,1,0,0,0,1,1,1,1,1,1,0] B88) (env88 (.c db n cap) (.i (a:Int)) (.i (b:Int)) (.i lim) (.func 69 [] [.ptr xb 0 0 1]) (.bool true) (.bool true) y12 y13 (.i h) y15 y16 y17 y18 y19 y20) H .normal (env88 (.c db n cap) (.i (a:Int)) (.i (b:Int)) (.i lim) (.func 69 [] [.ptr xb 0 0 1]) (.bool true) (.bool true) y12 y13 (.i h) y15 y16 y17 y18 y19 y20) H0 :=
  RunsTo.hin N 60 [⟨15,6,.bool true,H⟩,⟨16,4,.bool false,H0⟩] fun kf hk=>⟨_,by kernel_rfl,(oB H (decide_eq_true g0) (oC (g1 kf (by omega)) .nil))⟩
theorem pq_j_2 (N:Nat) (db n:Nat) (cap:Option Nat) (H:Heap) (x:Nat) (a:Nat) (b:Nat) (lim:Int) (h:Int) {y12 y13 y15 y16 y17 y18 y19 y20:HV}(g0:¬ (h=1)):RT polSo 88 (sub [1,1,0,0,0,1,1,1,1,1,1,0] B88) (env88 (.c db n cap) (.i (a:Int)) (.i (b:Int)) (.i lim) (.func 69 [] [.ptr xb 0 0 1]) (.bool true) (.bool true) y12 y13 (.i h) y15 y16 y17 y18 y19 y20) H .normal (env88 (.c db n cap) (.i (a:Int)) (.i (b:Int)) (.i lim) (.func 69 [] [.ptr xb 0 0 1]) (.bool true) (.bool true) y12 y13 (.i h) y15 y16 y17 y18 y19 y20) H :=
  RunsTo.hin N 60 [⟨15,6,.bool false,H⟩] fun kf hk=>⟨_,by kernel_rfl,(oB H (decide_eq_false g0) .nil)⟩
theorem pq_k_0 (N:Nat) (db n:Nat) (cap:Option Nat) (H:Heap) (x:Nat) (a:Nat) (b:Nat) (lim:Int) (h:Int) {y12 y13 y15 y16 y17 y18 y19 y20:HV}:RT polSo 88 (sub [1,1,0,0,0,1,1,1,1,1,1,0] B88) (env88 (.c db n cap) (.i (a:Int)) (.i (b:Int)) (.i lim) (.func 69 [] [.ptr xb 0 0 1]) (.bool true) (.bool false) y12 y13 (.i h) y15 y16 y17 y18 y19 y20) H .normal (env88 (.c db n cap) (.i (a:Int)) (.i (b:Int)) (.i lim) (.func 69 [] [.ptr xb 0 0 1]) (.bool true) (.bool false) y12 y13 (.i h) y15 y16 y17 y18 y19 y20) H :=
  RunsTo.hin N 60 [] fun kf hk=>⟨_,by kernel_rfl,.nil⟩
theorem pq_l_0 (N:Nat) (db n:Nat) (cap:Option Nat) (H:Heap) (x:Nat) (a:Nat) (b:Nat) (lim:Int) (h:Int) {y11 y12 y13 y15 y16 y17 y18 y19 y20:HV}:RT polSo 88 (sub [1,1,0,0,0,1,1,1,1,1,1,0] B88) (env88 (.c db n cap) (.i (a:Int)) (.i (b:Int)) (.i lim) (.func 69 [] [.ptr xb 0 0 1]) (.bool false) y11 y12 y13 (.i h) y15 y16 y17 y18 y19 y20) H .normal (env88 (.c db n cap) (.i (a:Int)) (.i (b:Int)) (.i lim) (.func 69 [] [.ptr xb 0 0 1]) (.bool false) y11 y12 y13 (.i h) y15 y16 y17 y18 y19 y20) H :=
  RunsTo.hin N 60 [] fun kf hk=>⟨_,by kernel_rfl,.nil⟩
theorem pq_m_0 (N:Nat) (db n:Nat) (cap:Option Nat) (H:Heap) (x:Nat) (a:Nat) (b:Nat) (lim:Int) (p:Nat) {y10 y11 y12 y14 y15 y16 y17 y18 y19 y20:HV} {a0:HV} {v0:HV} {a1:HV} {v1:HV} {c0:Int} {H0:Heap} (g0:0 < (a:Int)) (g1:idxV Tp 24 (.c db n cap) (.i (IntKind.i64.wrap ((a:Int) - 1)))=some (a0)) (g2:loadV Tp H 3 (a0)=some (v0)) (g3:idxV Tp 24 (.c db n cap) (.i (p:Int))=some (a1)) (g4:loadV Tp H 3 (a1)=some (v1)) (g5:∀ kf,N ≤ kf → callN Tp polSo (kf+1) 69 [v0,v1,.ptr xb 0 0 1] H=some (.i c0,H0)) (g6:c0 < 0):RT polSo 88 (sub [1,1,0,0,0,1,1,1,1,1,1,1,0] B88) (env88 (.c db n cap) (.i (a:Int)) (.i (b:Int)) (.i lim) (.func 69 [] [.ptr xb 0 0 1]) y10 y11 y12 (.i (p:Int)) y14 y15 y16 y17 y18 y19 y20) H .normal (env88 (.c db n cap) (.i (a:Int)) (.i (b:Int)) (.i lim) (.func 69 [] [.ptr xb 0 0 1]) y10 y11 y12 (.i (p:Int)) y14 y15 y16 y17 y18 y19 y20) H0 :=
  RunsTo.hin N 60 [⟨17,1,.bool true,H⟩,⟨17,7,a0,H⟩,⟨17,8,v0,H⟩,⟨17,11,a1,H⟩,⟨17,12,v1,H⟩,⟨17,13,.i c0,H0⟩,⟨17,14,.bool true,H0⟩] fun kf hk=>⟨_,by kernel_rfl,(oB H (decide_eq_true g0) (oP H g1 (oP H g2 (oP H g3 (oP H g4 (oC (g5 kf (by omega)) (oB H0 (decide_eq_true g6) .nil)))))))⟩
theorem pq_m_1 (N:Nat) (db n:Nat) (cap:Option Nat) (H:Heap) (x:Nat) (a:Nat) (b:Nat) (lim:Int) (p:Nat) {y10 y11 y12 y14 y15 y16 y17 y18 y19 y20:HV} {a0:HV} {v0:HV} {a1:HV} {v1:HV} {c0:Int} {H0:Heap} {m0:Int} {H1:Heap} (g0:0 < (a:Int)) (g1:idxV Tp 24 (.c db n cap) (.i (IntKind.i64.wrap ((a:Int) - 1)))=some (a0)) (g2:loadV Tp H 3 (a0)=some (v0)) (g3:idxV Tp 24 (.c db n cap) (.i (p:Int))=some (a1)) (g4:loadV Tp H 3 (a1)=some (v1)) (g5:∀ kf,N ≤ kf → callN Tp polSo (kf+1) 69 [v0,v1,.ptr xb 0 0 1] H=some (.i c0,H0)) (g6:¬ (c0 < 0)) (g7:∀ kf,N ≤ kf → callN Tp polSo (kf+1) 105 [.c db n cap,.i (a:Int),.i (b:Int),.i (p:Int),.func 69 [] [.ptr xb 0 0 1]] H0=some (.i m0,H1)):RT polSo 88 (sub [1,1,0,0,0,1,1,1,1,1,1,1,0] B88) (env88 (.c db n cap) (.i (a:Int)) (.i (b:Int)) (.i lim) (.func 69 [] [.ptr xb 0 0 1]) y10 y11 y12 (.i (p:Int)) y14 y15 y16 y17 y18 y19 y20) H (.exit 1) (env88 (.c db n cap) (.i m0) (.i (b:Int)) (.i lim) (.func 69 [] [.ptr xb 0 0 1]) y10 y11 y12 (.i (p:Int)) y14 (.i m0) y16 y17 y18 y19 y20) H1 :=
  RunsTo.hin N 60 [⟨17,1,.bool true,H⟩,⟨17,7,a0,H⟩,⟨17,8,v0,H⟩,⟨17,11,a1,H⟩,⟨17,12,v1,H⟩,⟨17,13,.i c0,H0⟩,⟨17,14,.bool false,H0⟩,⟨18,5,.i m0,H1⟩] fun kf hk=>⟨_,by kernel_rfl,(oB H (decide_eq_true g0) (oP H g1 (oP H g2 (oP H g3 (oP H g4 (oC (g5 kf (by omega)) (oB H0 (decide_eq_false g6) (oC (g7 kf (by omega)) .nil))))))))⟩
theorem pq_m_2 (N:Nat) (db n:Nat) (cap:Option Nat) (H:Heap) (x:Nat) (a:Nat) (b:Nat) (lim:Int) (p:Nat) {y10 y11 y12 y14 y15 y16 y17 y18 y19 y20:HV}(g0:¬ (0 < (a:Int))):RT polSo 88 (sub [1,1,0,0,0,1,1,1,1,1,1,1,0] B88) (env88 (.c db n cap) (.i (a:Int)) (.i (b:Int)) (.i lim) (.func 69 [] [.ptr xb 0 0 1]) y10 y11 y12 (.i (p:Int)) y14 y15 y16 y17 y18 y19 y20) H .normal (env88 (.c db n cap) (.i (a:Int)) (.i (b:Int)) (.i lim) (.func 69 [] [.ptr xb 0 0 1]) y10 y11 y12 (.i (p:Int)) y14 y15 y16 y17 y18 y19 y20) H :=
  RunsTo.hin N 60 [⟨17,1,.bool false,H⟩] fun kf hk=>⟨_,by kernel_rfl,(oB H (decide_eq_false g0) .nil)⟩
theorem pq_n_0 (N:Nat) (db n:Nat) (cap:Option Nat) (H:Heap) (x:Nat) (a:Nat) (b:Nat) (lim:Int) (p:Nat) {y10 y11 y12 y14 y15 y16 y17 y18 y19 y20:HV} {m0:Int} {bb0:Bool} {H0:Heap} (g0:∀ kf,N ≤ kf → callN Tp polSo (kf+1) 106 [.c db n cap,.i (a:Int),.i (b:Int),.i (p:Int),.func 69 [] [.ptr xb 0 0 1]] H=some (.tuple [.i m0,.bool bb0],H0)):RT polSo 88 (sub [1,1,0,0,0,1,1,1,1,1,1,1,1,0] B88) (env88 (.c db n cap) (.i (a:Int)) (.i (b:Int)) (.i lim) (.func 69 [] [.ptr xb 0 0 1]) y10 y11 y12 (.i (p:Int)) y14 y15 y16 y17 y18 y19 y20) H .normal (env88 (.c db n cap) (.i (a:Int)) (.i (b:Int)) (.i lim) (.func 69 [] [.ptr xb 0 0 1]) y10 y11 y12 (.i (p:Int)) y14 y15 (.i m0) (.bool bb0) y18 y19 y20) H0 :=
  RunsTo.hin N 60 [⟨20,5,.tuple [.i m0,.bool bb0],H0⟩] fun kf hk=>⟨_,by kernel_rfl,(oC (g0 kf (by omega)) .nil)⟩
theorem pq_o_0 (N:Nat) (db n:Nat) (cap:Option Nat) (H:Heap) (x:Nat) (a:Nat) (b:Nat) (lim:Int) {y10 y11 y12 y13 y14 y15 y16 y17 y18 y19 y20:HV}:RT polSo 88 (sub [1,1,0,0,0,1,1,1,1,1,1,1,1,1,0] B88) (env88 (.c db n cap) (.i (a:Int)) (.i (b:Int)) (.i lim) (.func 69 [] [.ptr xb 0 0 1]) y10 y11 y12 y13 y14 y15 y16 y17 y18 y19 y20) H .normal (env88 (.c db n cap) (.i (a:Int)) (.i (b:Int)) (.i lim) (.func 69 [] [.ptr xb 0 0 1]) y10 y17 y12 y13 y14 y15 y16 y17 y18 y19 y20) H :=
  RunsTo.hin N 60 [] fun kf hk=>⟨_,by kernel_rfl,.nil⟩
theorem pq_p_0 (N:Nat) (db n:Nat) (cap:Option Nat) (H:Heap) (x:Nat) (a:Nat) (b:Nat) (lim:Int) (q:Nat) {y10 y11 y12 y13 y14 y15 y17 y18 y19 y20:HV}:RT polSo 88 (sub [1,1,0,0,0,1,1,1,1,1,1,1,1,1,1,0] B88) (env88 (.c db n cap) (.i (a:Int)) (.i (b:Int)) (.i lim) (.func 69 [] [.ptr xb 0 0 1]) y10 y11 y12 y13 y14 y15 (.i (q:Int)) y17 y18 y19 y20) H .normal (env88 (.c db n cap) (.i (a:Int)) (.i (b:Int)) (.i lim) (.func 69 [] [.ptr xb 0 0 1]) y10 y11 y12 y13 y14 y15 (.i (q:Int)) y17 (.i (IntKind.i64.wrap ((q:Int) - (a:Int)))) (.i (IntKind.i64.wrap ((b:Int) - (q:Int)))) y20) H :=
  RunsTo.hin N 60 [] fun kf hk=>⟨_,by kernel_rfl,.nil⟩
theorem pq_q_0 (N:Nat) (db n:Nat) (cap:Option Nat) (H:Heap) (x:Nat) (a:Nat) (b:Nat) (lim:Int) (k:Nat) {y10 y11 y13 y14 y15 y16 y17 y18 y19 y20:HV}:RT polSo 88 (sub [1,1,0,0,0,1,1,1,1,1,1,1,1,1,1,1,0] B88) (env88 (.c db n cap) (.i (a:Int)) (.i (b:Int)) (.i lim) (.func 69 [] [.ptr xb 0 0 1]) y10 y11 (.i (k:Int)) y13 y14 y15 y16 y17 y18 y19 y20) H .normal (env88 (.c db n cap) (.i (a:Int)) (.i (b:Int)) (.i lim) (.func 69 [] [.ptr xb 0 0 1]) y10 y11 (.i (k:Int)) y13 y14 y15 y16 y17 y18 y19 (.i (IntKind.i64.wrap (((k:Int):Int).tdiv 8)))) H :=
  RunsTo.hin N 60 [] fun kf hk=>⟨_,by kernel_rfl,.nil⟩
theorem pq_r_0 (N:Nat) (db n:Nat) (cap:Option Nat) (H:Heap) (x:Nat) (a:Nat) (b:Nat) (lim:Int) (q:Nat) (u:Int) (v:Int) (w:Int) {y10 y11 y12 y13 y14 y15 y17:HV} {H0:Heap} (g0:u < v) (g1:w ≤ u) (g2:∀ kf,N ≤ kf → callN Tp polSo (kf+1) 88 [.c db n cap,.i (a:Int),.i (q:Int),.i lim,.func 69 [] [.ptr xb 0 0 1]] H=some (.tuple [],H0)):RT polSo 88 (sub [1,1,0,0,0,1,1,1,1,1,1,1,1,1,1,1,1] B88) (env88 (.c db n cap) (.i (a:Int)) (.i (b:Int)) (.i lim) (.func 69 [] [.ptr xb 0 0 1]) y10 y11 y12 y13 y14 y15 (.i (q:Int)) y17 (.i u) (.i v) (.i w)) H .normal (env88 (.c db n cap) (.i (IntKind.i64.wrap ((q:Int)+1))) (.i (b:Int)) (.i lim) (.func 69 [] [.ptr xb 0 0 1]) (.bool true) y11 y12 y13 y14 y15 (.i (q:Int)) y17 (.i u) (.i v) (.i w)) H0 :=
  RunsTo.hin N 60 [⟨24,2,.bool true,H⟩,⟨25,2,.bool true,H⟩,⟨26,5,.tuple [],H0⟩] fun kf hk=>⟨_,by kernel_rfl,(oB H (decide_eq_true g0) (oB H (decide_eq_true g1) (oC (g2 kf (by omega)) .nil)))⟩
theorem pq_r_1 (N:Nat) (db n:Nat) (cap:Option Nat) (H:Heap) (x:Nat) (a:Nat) (b:Nat) (lim:Int) (q:Nat) (u:Int) (v:Int) (w:Int) {y10 y11 y12 y13 y14 y15 y17:HV} {H0:Heap} (g0:u < v) (g1:¬ (w ≤ u)) (g2:∀ kf,N ≤ kf → callN Tp polSo (kf+1) 88 [.c db n cap,.i (a:Int),.i (q:Int),.i lim,.func 69 [] [.ptr xb 0 0 1]] H=some (.tuple [],H0)):RT polSo 88 (sub [1,1,0,0,0,1,1,1,1,1,1,1,1,1,1,1,1] B88) (env88 (.c db n cap) (.i (a:Int)) (.i (b:Int)) (.i lim) (.func 69 [] [.ptr xb 0 0 1]) y10 y11 y12 y13 y14 y15 (.i (q:Int)) y17 (.i u) (.i v) (.i w)) H .normal (env88 (.c db n cap) (.i (IntKind.i64.wrap ((q:Int)+1))) (.i (b:Int)) (.i lim) (.func 69 [] [.ptr xb 0 0 1]) (.bool false) y11 y12 y13 y14 y15 (.i (q:Int)) y17 (.i u) (.i v) (.i w)) H0 :=
  RunsTo.hin N 60 [⟨24,2,.bool true,H⟩,⟨25,2,.bool false,H⟩,⟨26,5,.tuple [],H0⟩] fun kf hk=>⟨_,by kernel_rfl,(oB H (decide_eq_true g0) (oB H (decide_eq_false g1) (oC (g2 kf (by omega)) .nil)))⟩
theorem pq_r_2 (N:Nat) (db n:Nat) (cap:Option Nat) (H:Heap) (x:Nat) (a:Nat) (b:Nat) (lim:Int) (q:Nat) (u:Int) (v:Int) (w:Int) {y10 y11 y12 y13 y14 y15 y17:HV} {H0:Heap} (g0:¬ (u < v)) (g1:w ≤ v) (g2:∀ kf,N ≤ kf → callN Tp polSo (kf+1) 88 [.c db n cap,.i (IntKind.i64.wrap ((q:Int)+1)),.i (b:Int),.i lim,.func 69 [] [.ptr xb 0 0 1]] H=some (.tuple [],H0)):RT polSo 88 (sub [1,1,0,0,0,1,1,1,1,1,1,1,1,1,1,1,1] B88) (env88 (.c db n cap) (.i (a:Int)) (.i (b:Int)) (.i lim) (.func 69 [] [.ptr xb 0 0 1]) y10 y11 y12 y13 y14 y15 (.i (q:Int)) y17 (.i u) (.i v) (.i w)) H .normal (env88 (.c db n cap) (.i (a:Int)) (.i (q:Int)) (.i lim) (.func 69 [] [.ptr xb 0 0 1]) (.bool true) y11 y12 y13 y14 y15 (.i (q:Int)) y17 (.i u) (.i v) (.i w)) H0 :=
  RunsTo.hin N 60 [⟨24,2,.bool false,H⟩,⟨28,2,.bool true,H⟩,⟨29,6,.tuple [],H0⟩] fun kf hk=>⟨_,by kernel_rfl,(oB H (decide_eq_false g0) (oB H (decide_eq_true g1) (oC (g2 kf (by omega)) .nil)))⟩
theorem pq_r_3 (N:Nat) (db n:Nat) (cap:Option Nat) (H:Heap) (x:Nat) (a:Nat) (b:Nat) (lim:Int) (q:Nat) (u:Int) (v:Int) (w:Int) {y10 y11 y12 y13 y14 y15 y17:HV} {H0:Heap} (g0:¬ (u < v)) (g1:¬ (w ≤ v)) (g2:∀ kf,N ≤ kf → callN Tp polSo (kf+1) 88 [.c db n cap,.i (IntKind.i64.wrap ((q:Int)+1)),.i (b:Int),.i lim,.func 69 [] [.ptr xb 0 0 1]] H=some (.tuple [],H0)):RT polSo 88 (sub [1,1,0,0,0,1,1,1,1,1,1,1,1,1,1,1,1] B88) (env88 (.c db n cap) (.i (a:Int)) (.i (b:Int)) (.i lim) (.func 69 [] [.ptr xb 0 0 1]) y10 y11 y12 y13 y14 y15 (.i (q:Int)) y17 (.i u) (.i v) (.i w)) H .normal (env88 (.c db n cap) (.i (a:Int)) (.i (q:Int)) (.i lim) (.func 69 [] [.ptr xb 0 0 1]) (.bool false) y11 y12 y13 y14 y15 (.i (q:Int)) y17 (.i u) (.i v) (.i w)) H0 :=
  RunsTo.hin N 60 [⟨24,2,.bool false,H⟩,⟨28,2,.bool false,H⟩,⟨29,6,.tuple [],H0⟩] fun kf hk=>⟨_,by kernel_rfl,(oB H (decide_eq_false g0) (oB H (decide_eq_false g1) (oC (g2 kf (by omega)) .nil)))⟩
noncomputable def B68:Code:=Try.f68.body.getD .skip
abbrev env68 (v0 v1 v4:HV):Env:=[(0,v0),(1,v1),(4,v4)]
theorem st_a_0 (N:Nat) (db n:Nat) (cap:Option Nat) (H:Heap) (x:Nat)  {m0:Int} {H0:Heap} {H1:Heap} (g0:∀ kf,N ≤ kf → callN Tp polSo (kf+1) 63 [.int .u64 (IntKind.u64.wrap (n:Int))] H=some (.i m0,H0)) (g1:∀ kf,N ≤ kf → callN Tp polSo (kf+1) 88 [.c db n cap,.i 0,.i (n:Int),.i m0,.func 69 [] [.ptr xb 0 0 1]] H0=some (.tuple [],H1)):RT polSo 68 (sub [] B68) [(0,.c db n cap),(1,.func 69 [] [.ptr xb 0 0 1])] H .normal (env68 (.c db n cap) (.func 69 [] [.ptr xb 0 0 1]) (.i (n:Int))) H1 :=
  RunsTo.hin N 60 [⟨1,4,.i m0,H0⟩,⟨1,6,.tuple [],H1⟩] fun kf hk=>⟨_,by kernel_rfl,(oC (g0 kf (by omega)) (oC (g1 kf (by omega)) .nil))⟩
end
end Go.Proofs.Ytiejmoglooaalaa
end
section
open Go Go.HL Go.HL.So
namespace Go.Proofs.Ytiejmoglooaalaa
set_option linter.unusedSectionVars false
open Go.Proofs.Try renaming prog → Tp
open Go.HL.HV renaming undef → Ud
section
variable {xb:Nat} {α:Type} [Inhabited α] {enc:α → HV} {lt:α → α → Prop} {dom:α → Prop} {H:Heap} {db n:Nat} {cap:Option Nat}
abbrev swB (s:Int):Blk:=.arr 1 [.int .i64 s] true 0
theorem Mm_last (l:List α) (B:Blk):(Mm enc H db l [B])[H.length]?=some B:=by
  unfold Mm
  rw [List.getElem?_append_right (by simp)]
  simp
theorem Mm_set (l:List α) (B B':Blk):(Mm enc H db l [B]).set H.length B'=Mm enc H db l [B']:=by
  unfold Mm
  rw [List.set_append_right _ _ (by simp)]
  simp
theorem mxM (S:So xb enc lt dom H db n) (l:List α) (B:Blk) (hB:B.mx=0):mxs (Mm enc H db l [B]) ≤ H.length:=by
  have h:=S.mx
  rw [mxs_le] at h ⊢
  intro C hC
  unfold Mm at hC
  rcases List.mem_append.1 hC with hC | hC
  · rcases List.mem_or_eq_of_mem_set hC with hC | rfl
    · exact h C hC
    · exact Nat.zero_le _
  · rw [List.mem_singleton.1 hC]; omega
theorem gcT (S:So xb enc lt dom H db n) (l l':List α) (B:Blk) (hB:B.mx=0):gc (Mm enc H db l []).length 0 (Mm enc H db l' [B])=Mm enc H db l' []:=by
  have h:=mxM S l' B hB
  have e:(Mm enc H db l []).length=H.length:=by simp [Mm]
  unfold gc
  rw [e,show max H.length (max 0 (mxs (Mm enc H db l' [B])))=H.length by omega]
  unfold Mm
  rw [List.take_append_of_le_length (by simp),List.take_of_length_le (by simp),List.append_nil]
theorem gcB (l l':List α) (B B':Blk) (r:Nat):gc (Mm enc H db l [B]).length r (Mm enc H db l' [B'])=Mm enc H db l' [B']:=gcM l l' [B] [B'] r rfl
theorem ld_sw (l:List α) (s:Int):loadV Tp (Mm enc H db l [swB s]) 3 (.ptr H.length 0 0 1)=some (.int .i64 s):=load_elem (b:=H.length) (Mm_last l (swB s)) rfl rfl rfl a3 i3
theorem st_sw (l:List α) (s r:Int):storeV Tp (Mm enc H db l [swB s]) 3 (.ptr H.length 0 0 1) (.int .i64 r)=some (Mm enc H db l [swB r]):=by
  have:=store_elem (P:=Tp) (t:=3) (b:=H.length) (i:=0) (tot:=1) (old:=.int .i64 s) (v:=.int .i64 r) (Mm_last (enc:=enc) (db:=db) l (swB s)) rfl rfl rfl (by intro cs h; cases h) z3 rfl rfl (by simp [bnd])
  rw [this,Mm_set]; rfl
theorem new_sw (l:List α) (k:IntKind) (s:Int):newV (.int k s) (Mm enc H db l [])=(.ptr H.length 0 0 1,Mm enc H db l [.arr 1 [.int k s] true 0]):=by
  simp only [newV,cellsOf,bnd,Mm]
  simp
theorem ord2_ok (S:So xb enc lt dom H db n) {a b:Nat} (ha:a < n) (hb:b < n) {l:List α} (hl:l.length=n) (hD:Dm dom l) (s:Int) :
    ∃ (p q:Nat) (s':Int),ClS 112 [.sl db 0 n cap n 1,.int .i64 (a:Int),.int .i64 (b:Int),.ptr H.length 0 0 1,.func 69 [] [.ptr xb 0 0 1]] (Mm enc H db l [swB s]) (.tuple [.int .i64 (p:Int),.int .i64 (q:Int)]) (Mm enc H db l [swB s'])∧((p=a∧q=b) ∨ (p=b∧q=a)):=by
  have hn:=S.nb
  by_cases c:lt (at_ l b) (at_ l a)
  · obtain ⟨cc,N,hN,hc⟩:=S.ct (T:=[swB s]) hl rfl (hD.at (i:=b) (by omega)) (hD.at (i:=a) (by omega)) c
    have t:=o2_a_0 (xb:=xb) N db n cap (Mm enc H db l [swB s]) H.length a b (ixs (i:=b) rfl hb) (S.ld l _ _ hl hb) (ixs (i:=a) rfl ha) (S.ld l _ _ hl ha) hN hc (ld_sw l s) (st_sw l s _)
    have hc:=CallsTo.shared (P:=Tp) (pol:=polSo) (g:=112) (fn:=Try.f112) (cd:=B112) (args:=[.sl db 0 n cap n 1,.int .i64 (a:Int),.int .i64 (b:Int),.ptr H.length 0 0 1,.func 69 [] [.ptr xb 0 0 1]]) (v:=.tuple [.int .i64 (b:Int),.int .i64 (a:Int)]) (by kernel_rfl) (by kernel_rfl) (by kernel_rfl) (by kernel_rfl) t (by kernel_rfl) (by simp) (by kernel_rfl)
    rw [gcB] at hc
    exact ⟨b,a,_,hc,.inr ⟨rfl,rfl⟩⟩
  · obtain ⟨cc,N,hN,hc⟩:=S.cf (T:=[swB s]) hl rfl (hD.at (i:=b) (by omega)) (hD.at (i:=a) (by omega)) c
    have t:=o2_a_1 (xb:=xb) N db n cap (Mm enc H db l [swB s]) H.length a b (ixs (i:=b) rfl hb) (S.ld l _ _ hl hb) (ixs (i:=a) rfl ha) (S.ld l _ _ hl ha) hN hc
    have hc:=CallsTo.shared (P:=Tp) (pol:=polSo) (g:=112) (fn:=Try.f112) (cd:=B112) (args:=[.sl db 0 n cap n 1,.int .i64 (a:Int),.int .i64 (b:Int),.ptr H.length 0 0 1,.func 69 [] [.ptr xb 0 0 1]]) (v:=.tuple [.int .i64 (a:Int),.int .i64 (b:Int)]) (by kernel_rfl) (by kernel_rfl) (by kernel_rfl) (by kernel_rfl) t (by kernel_rfl) (by simp) (by kernel_rfl)
    rw [gcB] at hc
    exact ⟨a,b,_,hc,.inl ⟨rfl,rfl⟩⟩
theorem med_ok (S:So xb enc lt dom H db n) {a b q:Nat} (ha:a < n) (hb:b < n) (hq:q < n) {l:List α} (hl:l.length=n) (hD:Dm dom l) (s:Int) :
    ∃ (r:Nat) (s':Int),ClS 111 [.sl db 0 n cap n 1,.int .i64 (a:Int),.int .i64 (b:Int),.int .i64 (q:Int),.ptr H.length 0 0 1,.func 69 [] [.ptr xb 0 0 1]] (Mm enc H db l [swB s]) (.int .i64 (r:Int)) (Mm enc H db l [swB s'])∧(r=a ∨ r=b ∨ r=q):=by
  obtain ⟨p1,q1,s1,h1,e1⟩:=ord2_ok S (cap:=cap) ha hb hl hD s
  obtain ⟨p2,q2,s2,h2,e2⟩:=ord2_ok S (cap:=cap) (a:=q1) (b:=q) (by omega) hq hl hD s1
  obtain ⟨p3,q3,s3,h3,e3⟩:=ord2_ok S (cap:=cap) (a:=p1) (b:=p2) (by omega) (by omega) hl hD s2
  obtain ⟨N1,h1⟩:=h1.from
  obtain ⟨N2,h2⟩:=h2.from
  obtain ⟨N3,h3⟩:=h3.from
  have t:=md_a_0 (xb:=xb) (N1+N2+N3) db n cap (Mm enc H db l [swB s]) H.length a b q (fun kf hk=>h1 kf (by omega)) (fun kf hk=>h2 kf (by omega)) (fun kf hk=>h3 kf (by omega))
  have hc:=CallsTo.shared (P:=Tp) (pol:=polSo) (g:=111) (fn:=Try.f111) (cd:=B111) (args:=[.sl db 0 n cap n 1,.int .i64 (a:Int),.int .i64 (b:Int),.int .i64 (q:Int),.ptr H.length 0 0 1,.func 69 [] [.ptr xb 0 0 1]]) (v:=.int .i64 (q3:Int)) (by kernel_rfl) (by kernel_rfl) (by kernel_rfl) (by kernel_rfl) t (by kernel_rfl) (by simp) (by kernel_rfl)
  rw [gcB] at hc
  exact ⟨q3,s3,hc,by omega⟩
theorem madj_ok (S:So xb enc lt dom H db n) {a:Nat} {e:Int} (he:e=(a:Int)) (h1:1 ≤ a) (h2:a+1 < n) {l:List α} (hl:l.length=n) (hD:Dm dom l) (s:Int) :
    ∃ (r:Nat) (s':Int),ClS 110 [.sl db 0 n cap n 1,.int .i64 e,.ptr H.length 0 0 1,.func 69 [] [.ptr xb 0 0 1]] (Mm enc H db l [swB s]) (.int .i64 (r:Int)) (Mm enc H db l [swB s'])∧a - 1 ≤ r∧r ≤ a+1:=by
  subst he
  have hn:=S.nb
  obtain ⟨r,s',h,er⟩:=med_ok S (cap:=cap) (a:=a - 1) (b:=a) (q:=a+1) (by omega) (by omega) (by omega) hl hD s
  obtain ⟨N,h⟩:=h.from
  have t:=ma_a_0 (xb:=xb) N db n cap (Mm enc H db l [swB s]) H.length a (by rw [wrap_pred (by omega) (by omega),wrap_succ (by omega)]; exact h)
  have hc:=CallsTo.shared (P:=Tp) (pol:=polSo) (g:=110) (fn:=Try.f110) (cd:=B110) (args:=[.sl db 0 n cap n 1,.int .i64 (a:Int),.ptr H.length 0 0 1,.func 69 [] [.ptr xb 0 0 1]]) (v:=.int .i64 (r:Int)) (by kernel_rfl) (by kernel_rfl) (by kernel_rfl) (by kernel_rfl) t (by kernel_rfl) (by simp) (by kernel_rfl)
  rw [gcB] at hc
  exact ⟨r,s',hc,by omega⟩
theorem cv_idx {a b m:Nat} (hab:a ≤ b) (hb:b ≤ 60000) (hm:m ≤ 3):IntKind.i64.wrap ((a:Int)+IntKind.i64.wrap (IntKind.i64.wrap ((IntKind.i64.wrap ((b:Int) - (a:Int)):Int).tdiv 4) * (m:Int)))=((a+(b - a) / 4 * m:Nat):Int):=by
  have h1:IntKind.i64.wrap ((b:Int) - (a:Int))=((b - a:Nat):Int):=by rw [wrap_id (by omega) (by omega)]; omega
  have h2:((b - a:Nat):Int).tdiv 4=(((b - a) / 4:Nat):Int):=by rw [Int.tdiv_eq_ediv_of_nonneg (by omega)]; omega
  rw [h1,h2,wrap_id (n:=(((b - a) / 4:Nat):Int)) (by omega) (by omega)]
  have h3:(((b - a) / 4:Nat):Int) * (m:Int)=(((b - a) / 4 * m:Nat):Int):=by push_cast; rfl
  have h4:(b - a) / 4 * m ≤ 60000:=by
    have h6:(b - a) / 4 * m ≤ (b - a) / 4 * 3:=Nat.mul_le_mul_left _ hm
    omega
  rw [h3]
  generalize (b - a) / 4 * m=z at h4
  rw [wrap_id (n:=(z:Int)) (by omega) (by omega),wrap_id (by omega) (by omega)]; omega
theorem piv_ok (S:So xb enc lt dom H db n) {a b:Nat} (hab:a+12 < b) (hb:b ≤ n) {l:List α} (hl:l.length=n) (hD:Dm dom l) :
    ∃ (p:Nat) (h:Int),ClS 102 [.sl db 0 n cap n 1,.int .i64 (a:Int),.int .i64 (b:Int),.func 69 [] [.ptr xb 0 0 1]] (Mm enc H db l []) (.tuple [.int .i64 (p:Int),.int .i64 h]) (Mm enc H db l [])∧a ≤ p∧p < b:=by
  have hn:=S.nb
  have i1:=cv_idx (a:=a) (b:=b) (m:=1) (by omega) (by omega) (by omega)
  have i2:=cv_idx (a:=a) (b:=b) (m:=2) (by omega) (by omega) (by omega)
  have i3:=cv_idx (a:=a) (b:=b) (m:=3) (by omega) (by omega) (by omega)
  have hw:IntKind.i64.wrap ((b:Int) - (a:Int))=((b - a:Nat):Int):=(by rw [wrap_id (by omega) (by omega)]; omega)
  have g0:some (newV (.int .i64 0) (Mm enc H db l []))=some (.ptr H.length 0 0 1,Mm enc H db l [swB 0]):=congrArg some (new_sw l .i64 0)
  have fin:∀ (p:Nat) (h:Int) (E:Env) (s:Int),a ≤ p → p < b → RT polSo 102 B102 (args0 [.sl db 0 n cap n 1,.int .i64 (a:Int),.int .i64 (b:Int),.func 69 [] [.ptr xb 0 0 1]]) (Mm enc H db l []) .ret E (Mm enc H db l [swB s]) → resultsV Tp Try.f102 E (Mm enc H db l [swB s])=some (.tuple [.int .i64 (p:Int),.int .i64 h]) →
      ∃ (p:Nat) (h:Int),ClS 102 [.sl db 0 n cap n 1,.int .i64 (a:Int),.int .i64 (b:Int),.func 69 [] [.ptr xb 0 0 1]] (Mm enc H db l []) (.tuple [.int .i64 (p:Int),.int .i64 h]) (Mm enc H db l [])∧a ≤ p∧p < b:=by
    intro p h E s h1 h2 t hv
    have hc:=CallsTo.shared (P:=Tp) (pol:=polSo) (g:=102) (fn:=Try.f102) (cd:=B102) (args:=[.sl db 0 n cap n 1,.int .i64 (a:Int),.int .i64 (b:Int),.func 69 [] [.ptr xb 0 0 1]]) (by kernel_rfl) (by kernel_rfl) (by kernel_rfl) (by kernel_rfl) t (by kernel_rfl) (by simp) hv
    rw [show bnd (.tuple [.int .i64 (p:Int),.int .i64 h])=0 by simp [bnd,bndL],gcT S l l (swB s) rfl] at hc
    exact ⟨p,h,hc,h1,h2⟩
  by_cases c:50 ≤ b - a
  · obtain ⟨r1,s1,h1,e1⟩:=madj_ok S (cap:=cap) (a:=a+(b - a) / 4 * 1) i1 (by omega) (by omega) hl hD 0
    obtain ⟨r2,s2,h2,e2⟩:=madj_ok S (cap:=cap) (a:=a+(b - a) / 4 * 2) i2 (by omega) (by omega) hl hD s1
    obtain ⟨r3,s3,h3,e3⟩:=madj_ok S (cap:=cap) (a:=a+(b - a) / 4 * 3) i3 (by omega) (by omega) hl hD s2
    obtain ⟨r,s,h4,e4⟩:=med_ok S (cap:=cap) (a:=r1) (b:=r2) (q:=r3) (by omega) (by omega) (by omega) hl hD s3
    obtain ⟨N1,h1⟩:=h1.from
    obtain ⟨N2,h2⟩:=h2.from
    obtain ⟨N3,h3⟩:=h3.from
    obtain ⟨N4,h4⟩:=h4.from
    by_cases d1:s=0
    · have t:=cv_a_0 (xb:=xb) (N1+N2+N3+N4) db n cap (Mm enc H db l []) H.length a b g0 (by rw [hw]; omega) (by rw [hw]; omega) (fun kf hk=>h1 kf (by omega)) (fun kf hk=>h2 kf (by omega)) (fun kf hk=>h3 kf (by omega)) (fun kf hk=>h4 kf (by omega)) (ld_sw l s) d1
      exact fin r 1 _ s (by omega) (by omega) t (by kernel_rfl)
    · by_cases d2:s=12
      · have t:=cv_a_1 (xb:=xb) (N1+N2+N3+N4) db n cap (Mm enc H db l []) H.length a b g0 (by rw [hw]; omega) (by rw [hw]; omega) (fun kf hk=>h1 kf (by omega)) (fun kf hk=>h2 kf (by omega)) (fun kf hk=>h3 kf (by omega)) (fun kf hk=>h4 kf (by omega)) (ld_sw l s) d1 d2
        exact fin r 2 _ s (by omega) (by omega) t (by kernel_rfl)
      · have t:=cv_a_2 (xb:=xb) (N1+N2+N3+N4) db n cap (Mm enc H db l []) H.length a b g0 (by rw [hw]; omega) (by rw [hw]; omega) (fun kf hk=>h1 kf (by omega)) (fun kf hk=>h2 kf (by omega)) (fun kf hk=>h3 kf (by omega)) (fun kf hk=>h4 kf (by omega)) (ld_sw l s) d1 d2
        exact fin r 0 _ s (by omega) (by omega) t (by kernel_rfl)
  · obtain ⟨r,s,h4,e4⟩:=med_ok S (cap:=cap) (a:=a+(b - a) / 4 * 1) (b:=a+(b - a) / 4 * 2) (q:=a+(b - a) / 4 * 3) (by omega) (by omega) (by omega) hl hD 0
    obtain ⟨N4,h4⟩:=h4.from
    rw [← i1,← i2,← i3] at h4
    by_cases d1:s=0
    · have t:=cv_a_3 (xb:=xb) N4 db n cap (Mm enc H db l []) H.length a b g0 (by rw [hw]; omega) (by rw [hw]; omega) h4 (ld_sw l s) d1
      exact fin r 1 _ s (by omega) (by omega) t (by kernel_rfl)
    · by_cases d2:s=12
      · have t:=cv_a_4 (xb:=xb) N4 db n cap (Mm enc H db l []) H.length a b g0 (by rw [hw]; omega) (by rw [hw]; omega) h4 (ld_sw l s) d1 d2
        exact fin r 2 _ s (by omega) (by omega) t (by kernel_rfl)
      · have t:=cv_a_5 (xb:=xb) N4 db n cap (Mm enc H db l []) H.length a b g0 (by rw [hw]; omega) (by rw [hw]; omega) h4 (ld_sw l s) d1 d2
        exact fin r 0 _ s (by omega) (by omega) t (by kernel_rfl)
abbrev uB (s:Int):Blk:=.arr 1 [.int .u64 s] true 0
theorem z128s:tySize Tp 123=some 1:=by kernel_rfl
theorem a128s:tyAgg Tp 123=false:=by kernel_rfl
theorem i128s:(Tp.underlying 123).isSome=true:=by kernel_rfl
theorem ld_u (l:List α) (s:Int):loadV Tp (Mm enc H db l [uB s]) 123 (.ptr H.length 0 0 1)=some (.int .u64 s):=load_elem (b:=H.length) (Mm_last l (uB s)) rfl rfl rfl a128s i128s
theorem st_u (l:List α) (s r:Int):storeV Tp (Mm enc H db l [uB s]) 123 (.ptr H.length 0 0 1) (.int .u64 r)=some (Mm enc H db l [uB r]):=by
  have:=store_elem (P:=Tp) (t:=123) (b:=H.length) (i:=0) (tot:=1) (old:=.int .u64 s) (v:=.int .u64 r) (Mm_last (enc:=enc) (db:=db) l (uB s)) rfl rfl rfl (by intro cs h; cases h) z128s rfl rfl (by simp [bnd])
  rw [this,Mm_set]; rfl
theorem bx (a b:Int):∃ r,binV Tp .xor 123 (.int .u64 a) (.int .u64 b)=some (.int .u64 r):=⟨_,rfl⟩
theorem bs13 (a:Int):∃ r,binV Tp .shl 123 (.int .u64 a) (.int .u64 13)=some (.int .u64 r):=⟨_,rfl⟩
theorem bs17 (a:Int):∃ r,binV Tp .shl 123 (.int .u64 a) (.int .u64 17)=some (.int .u64 r):=⟨_,rfl⟩
theorem br7 (a:Int):∃ r,binV Tp .shr 123 (.int .u64 a) (.int .u64 7)=some (.int .u64 r):=⟨_,rfl⟩
theorem xor_ok (l:List α) (s:Int):∃ r,ClS 96 [.ptr H.length 0 0 1] (Mm enc H db l [uB s]) (.int .u64 r) (Mm enc H db l [uB r]):=by
  obtain ⟨h0,e0⟩:=bs13 s
  obtain ⟨h1,e1⟩:=bx s h0
  obtain ⟨h2,e2⟩:=br7 h1
  obtain ⟨h3,e3⟩:=bx h1 h2
  obtain ⟨h4,e4⟩:=bs17 h3
  obtain ⟨h5,e5⟩:=bx h3 h4
  have t:=xs_a_0 0 0 0 none (Mm enc H db l [uB s]) H.length (ld_u l s) (ld_u l s) e0 e1 (st_u l s h1) (ld_u l h1) (ld_u l h1) e2 e3 (st_u l h1 h3) (ld_u l h3) (ld_u l h3) e4 e5 (st_u l h3 h5) (ld_u l h5)
  have hc:=CallsTo.shared (P:=Tp) (pol:=polSo) (g:=96) (fn:=Try.f96) (cd:=B96) (args:=[.ptr H.length 0 0 1]) (v:=.int .u64 h5) (by kernel_rfl) (by kernel_rfl) (by kernel_rfl) (by kernel_rfl) t (by kernel_rfl) (by simp) (by kernel_rfl)
  rw [gcB] at hc
  exact ⟨_,hc⟩
theorem and_u {u:Int} {m:Nat} (hm:m < 9223372036854775808):∃ h:Nat,binV Tp .and 82 (.int .u64 u) (.int .u64 (m:Int))=some (.int .u64 (h:Int))∧h ≤ m:=by
  have e:binV Tp .and 82 (.int .u64 u) (.int .u64 (m:Int))=some (.int .u64 (IntKind.u64.wrap (BitVec.ofInt IntKind.u64.bits u &&& BitVec.ofInt IntKind.u64.bits (m:Int)).toNat)):=rfl
  have hle:(BitVec.ofInt IntKind.u64.bits u &&& BitVec.ofInt IntKind.u64.bits (m:Int)).toNat ≤ m:=by
    rw [BitVec.toNat_and]
    refine Nat.le_trans Nat.and_le_right ?_
    rw [BitVec.toNat_ofInt]
    show ((m:Int) % ((2 ^ 64:Nat):Int)).toNat ≤ m
    omega
  refine ⟨_,?_,hle⟩
  rw [e]
  congr 2
  rw [wrapU64]
  generalize (BitVec.ofInt IntKind.u64.bits u &&& BitVec.ofInt IntKind.u64.bits (m:Int)).toNat=h at hle
  omega
theorem bk_loop (S:So xb enc lt dom H db n) {a b k m:Nat} (hk:b=a+k) (hk8:8 ≤ k) (hb:b ≤ n) (hm1:1 ≤ m) (hm2:m ≤ 2 * k):∀ (d i:Nat) (l:List α) (s:Int),i+d=a+k / 4 * 2+2 → a+k / 4 * 2 - 1 ≤ i → l.length=n →
    ∃ y5 y6 l' s',RT polSo 101 (sub [1,1,0,1,1,1,0] B101) (env101 (.sl db 0 n cap n 1) (.int .i64 (a:Int)) (.int .i64 (b:Int)) (.int .i64 (k:Int)) (.ptr H.length 0 0 1) (.int .u64 (m:Int)) (.int .i64 (i:Int)) Ud) (Mm enc H db l [uB s]) (.exit 0) (env101 (.sl db 0 n cap n 1) (.int .i64 (a:Int)) (.int .i64 (b:Int)) (.int .i64 (k:Int)) (.ptr H.length 0 0 1) (.int .u64 (m:Int)) y5 y6) (Mm enc H db l' [uB s'])∧Sw a b l l':=by
  have hn:=S.nb
  have e0:IntKind.i64.wrap (((k:Int):Int).tdiv 4)=((k / 4:Nat):Int):=by
    rw [Int.tdiv_eq_ediv_of_nonneg (by omega),wrap_id (by omega) (by omega)]; omega
  have e1:IntKind.i64.wrap ((a:Int)+IntKind.i64.wrap (IntKind.i64.wrap (((k:Int):Int).tdiv 4) * 2))=((a+k / 4 * 2:Nat):Int):=by
    rw [e0,wrap_id (n:=((k / 4:Nat):Int) * 2) (by omega) (by omega),wrap_id (by omega) (by omega)]; omega
  have e2:IntKind.i64.wrap (IntKind.i64.wrap ((a:Int)+IntKind.i64.wrap (IntKind.i64.wrap (((k:Int):Int).tdiv 4) * 2))+1)=((a+k / 4 * 2+1:Nat):Int):=by
    rw [e1,wrap_id (by omega) (by omega)]; omega
  intro d
  induction d with
  | zero =>
    intro i l s hi hi2 hl
    exact ⟨_,_,l,s,lpo (bk_f_2 0 db n cap (Mm enc H db l [uB s]) H.length a b k m i (y12:=Ud) (by rw [e2]; omega)),.refl⟩
  | succ d ih =>
    intro i l s hi hi2 hl
    obtain ⟨u,hx⟩:=xor_ok (enc:=enc) (H:=H) (db:=db) l s
    obtain ⟨N,hN⟩:=hx.from
    have hu:IntKind.u64.wrap ((m:Int) - 1)=((m - 1:Nat):Int):=by rw [wrapU64]; omega
    obtain ⟨h,hand,hh⟩:=and_u (u:=u) (m:=m - 1) (by omega)
    rw [← hu] at hand
    have hwh:IntKind.i64.wrap (h:Int)=(h:Int):=wrap_id (by omega) (by omega)
    have next:∀ o:Nat,o < k → ∀ y,RT polSo 101 (sub [1,1,0,1,1,1,0,0] B101) (env101 (.sl db 0 n cap n 1) (.int .i64 (a:Int)) (.int .i64 (b:Int)) (.int .i64 (k:Int)) (.ptr H.length 0 0 1) (.int .u64 (m:Int)) (.int .i64 (i:Int)) Ud) (Mm enc H db l [uB s]) .normal (env101 (.sl db 0 n cap n 1) (.int .i64 (a:Int)) (.int .i64 (b:Int)) (.int .i64 (k:Int)) (.ptr H.length 0 0 1) (.int .u64 (m:Int)) (.int .i64 (IntKind.i64.wrap ((i:Int)+1))) y) (Mm enc H db (swp l i (a+o)) [uB u]) →
        ∃ y5 y6 l' s',RT polSo 101 (sub [1,1,0,1,1,1,0] B101) (env101 (.sl db 0 n cap n 1) (.int .i64 (a:Int)) (.int .i64 (b:Int)) (.int .i64 (k:Int)) (.ptr H.length 0 0 1) (.int .u64 (m:Int)) (.int .i64 (i:Int)) Ud) (Mm enc H db l [uB s]) (.exit 0) (env101 (.sl db 0 n cap n 1) (.int .i64 (a:Int)) (.int .i64 (b:Int)) (.int .i64 (k:Int)) (.ptr H.length 0 0 1) (.int .u64 (m:Int)) y5 y6) (Mm enc H db l' [uB s'])∧Sw a b l l':=by
      intro o ho y st
      rw [wrap_succ (by omega)] at st
      have sw:Sw a b l (swp l i (a+o)):=Sw.one (by omega) (by omega) (by omega) (by omega)
      obtain ⟨y5,y6,l',s',r,q⟩:=ih (i+1) (swp l i (a+o)) u (by omega) (by omega) (by rw [swp_len]; exact hl)
      exact ⟨y5,y6,l',s',lop (st) (gcM _ _ _ _ _ rfl) (r),sw.trans q⟩
    by_cases c:k ≤ h
    · have e3:IntKind.i64.wrap (IntKind.i64.wrap (h:Int) - (k:Int))=((h - k:Nat):Int):=by rw [hwh,wrap_id (by omega) (by omega)]; omega
      have e4:IntKind.i64.wrap ((a:Int)+IntKind.i64.wrap (IntKind.i64.wrap (h:Int) - (k:Int)))=((a+(h - k):Nat):Int):=by rw [e3,wrap_id (by omega) (by omega)]; omega
      obtain ⟨s1,s2⟩:=S.st2 (T:=[uB u]) hl (i:=i) (j:=a+(h - k)) (by omega) (by omega)
      have st:=bk_f_0 N db n cap (Mm enc H db l [uB s]) H.length a b k m i (y12:=Ud) (by rw [e2]; omega) hN hand (by rw [hwh]; omega) (ixs e4 (by omega)) (S.ld l _ _ hl (by omega)) (ixs (i:=i) rfl (by omega)) (S.ld l _ _ hl (by omega)) (ixs (i:=i) rfl (by omega)) s1 (ixs e4 (by omega)) s2
      exact next (h - k) (by omega) _ st
    · have e4:IntKind.i64.wrap ((a:Int)+IntKind.i64.wrap (h:Int))=((a+h:Nat):Int):=by rw [hwh,wrap_id (by omega) (by omega)]; omega
      obtain ⟨s1,s2⟩:=S.st2 (T:=[uB u]) hl (i:=i) (j:=a+h) (by omega) (by omega)
      have st:=bk_f_1 N db n cap (Mm enc H db l [uB s]) H.length a b k m i (y12:=Ud) (by rw [e2]; omega) hN hand (by rw [hwh]; omega) (ixs e4 (by omega)) (S.ld l _ _ hl (by omega)) (ixs (i:=i) rfl (by omega)) (S.ld l _ _ hl (by omega)) (ixs (i:=i) rfl (by omega)) s1 (ixs e4 (by omega)) s2
      exact next h (by omega) _ st
theorem brk_ok (S:So xb enc lt dom H db n) {a b:Nat} (hab:a+8 ≤ b) (hb:b ≤ n) {l:List α} (hl:l.length=n) :
    ∃ l',ClS 101 [.sl db 0 n cap n 1,.int .i64 (a:Int),.int .i64 (b:Int),.func 69 [] [.ptr xb 0 0 1]] (Mm enc H db l []) (.tuple []) (Mm enc H db l' [])∧Sw a b l l':=by
  have hn:=S.nb
  obtain ⟨k,rfl⟩:∃ k,b=a+k:=⟨b - a,by omega⟩
  have hw:IntKind.i64.wrap (((a+k:Nat):Int) - (a:Int))=(k:Int):=by rw [wrap_id (by omega) (by omega)]; omega
  have t0:=bk_a_0 (xb:=xb) 0 db n cap (Mm enc H db l []) H.length a (a+k)
  rw [hw] at t0
  have t1:=bk_b_0 0 db n cap (Mm enc H db l []) H.length a (a+k) k (y9:=Ud) (y10:=Ud) (y11:=Ud) (y12:=Ud) (by omega)
  have g0:some (newV (.int .u64 0) (Mm enc H db l []))=some (.ptr H.length 0 0 1,Mm enc H db l [uB 0]):=congrArg some (new_sw l .u64 0)
  have t2:=bk_c_0 0 db n cap (Mm enc H db l []) H.length a (a+k) k (y9:=Ud) (y10:=Ud) (y11:=Ud) (y12:=Ud) g0 (st_u l 0 _)
  have hl2:=(lenN_ok (x:=k) (by omega)).1 (by omega)
  have t3:=bk_d_0 0 db n cap (Mm enc H db l [uB (IntKind.u64.wrap (k:Int))]) H.length a (a+k) k (y10:=Ud) (y11:=Ud) (y12:=Ud) (u0:=((2 ^ lenN k:Nat):Int)) (fun kf _=>by
    rw [prim_call (pol:=polSo) (g:=95) (F:=next93) (by kernel_rfl) (rs:=[.int .i64 (k:Int)]) rfl (res:=.int .u64 ((2 ^ lenN k:Nat):Int)) (by simp only [next93]; rw [if_pos (by omega),Int.toNat_natCast])]; rfl)
  generalize 2 ^ lenN k=m at hl2 t3
  have t4:=bk_e_0 0 db n cap (Mm enc H db l [uB (IntKind.u64.wrap (k:Int))]) H.length a (a+k) k (m:Int) (y11:=Ud) (y12:=Ud)
  have e0:IntKind.i64.wrap (((k:Int):Int).tdiv 4)=((k / 4:Nat):Int):=by
    rw [Int.tdiv_eq_ediv_of_nonneg (by omega),wrap_id (by omega) (by omega)]; omega
  have e1:IntKind.i64.wrap (IntKind.i64.wrap ((a:Int)+IntKind.i64.wrap (IntKind.i64.wrap (((k:Int):Int).tdiv 4) * 2)) - 1)=((a+k / 4 * 2 - 1:Nat):Int):=by
    rw [e0,wrap_id (n:=((k / 4:Nat):Int) * 2) (by omega) (by omega),wrap_id (n:=(a:Int)+((k / 4:Nat):Int) * 2) (by omega) (by omega),wrap_id (by omega) (by omega)]; omega
  rw [e1] at t4
  obtain ⟨y5,y6,l',s',r,q⟩:=bk_loop S (cap:=cap) (m:=m) rfl (by omega) hb (by omega) (by omega) 3 (a+k / 4 * 2 - 1) l (IntKind.u64.wrap (k:Int)) (by omega) (Nat.le_refl _) hl
  have t:=sq (t0) (sq (t1) (RunsTo.cond (y:=.tmp 17) (t:=true) (c:=sub [1,1] B101) (a:=sub [1,1,0] B101) (b:=sub [1,1,1] B101) (by kernel_rfl) rfl (sq (t2) (sq (t3) (sq (t4) (bke (c:=sub [1,1,0,1,1,1] B101) (r)) (c:=sub [1,1,0,1,1] B101)) (c:=sub [1,1,0,1] B101)) (c:=sub [1,1,0] B101))) (c:=sub [1] B101)) (c:=B101)
  have hc:=CallsTo.shared (P:=Tp) (pol:=polSo) (g:=101) (fn:=Try.f101) (cd:=B101) (args:=[.sl db 0 n cap n 1,.int .i64 (a:Int),.int .i64 ((a+k:Nat):Int),.func 69 [] [.ptr xb 0 0 1]]) (v:=.tuple []) (by kernel_rfl) (by kernel_rfl) (by kernel_rfl) (by kernel_rfl) t (by kernel_rfl) (by simp) (by kernel_rfl)
  rw [show bnd (.tuple [])=0 by rfl,gcT S l l' (uB s') rfl] at hc
  exact ⟨l',hc,q⟩
end
end Go.Proofs.Ytiejmoglooaalaa
end
section
open Go Go.HL Go.HL.So
namespace Go.Proofs.Ytiejmoglooaalaa
set_option linter.unusedSectionVars false
open Go.Proofs.Try renaming prog → Tp
open Go.HL.HV renaming undef → Ud
section
variable {xb:Nat} {α:Type} [Inhabited α] {enc:α → HV} {lt:α → α → Prop} {dom:α → Prop} {H:Heap} {db n:Nat} {cap:Option Nat}
def PdqOk (xb:Nat) (enc:α → HV) (lt:α → α → Prop) (dom:α → Prop) (H:Heap) (db n:Nat) (cap:Option Nat) (d:Nat):Prop:=∀ (a b:Nat) (lim:Int) (l:List α),b - a < d → a ≤ b → b ≤ n → 0 ≤ lim → lim ≤ 1000 → l.length=n → Dm dom l → Flo lt a b l →
  ∃ l',ClS 88 [.sl db 0 n cap n 1,.int .i64 (a:Int),.int .i64 (b:Int),.int .i64 lim,.func 69 [] [.ptr xb 0 0 1]] (Mm enc H db l []) (.tuple []) (Mm enc H db l' [])∧Sw a b l l'∧Sorted lt a b l'
def Out (xb:Nat) (enc:α → HV) (lt:α → α → Prop) (dom:α → Prop) (H:Heap) (db n:Nat) (cap:Option Nat) (a b:Nat) (l:List α) (x:X) (E:Env) (l':List α):Prop :=
  Sw a b l l'∧((x=.ret∧Sorted lt a b l') ∨ ((x=.normal ∨ x=.exit 1)∧∃ (a' b':Nat) (lim':Int) (bal' par':Bool) (y2 y3 y4 y5 y6 y7 y8 y9 y10:HV),E=(env88 (.sl db 0 n cap n 1) (.int .i64 (a':Int)) (.int .i64 (b':Int)) (.int .i64 lim') (.func 69 [] [.ptr xb 0 0 1]) (.bool bal') (.bool par') y2 y3 y4 y5 y6 y7 y8 y9 y10) ∧
    b' - a' < b - a∧a ≤ a'∧a' ≤ b'∧b' ≤ b∧0 ≤ lim'∧lim' ≤ 1000∧Flo lt a' b' l'∧∀ l'',Sw a' b' l' l'' → Sorted lt a' b' l'' → Sorted lt a b l''))
theorem Out.pre {a b:Nat} {l l1 l':List α} {x:X} {E:Env} (h:Sw a b l l1) (ho:Out xb enc lt dom H db n cap a b l1 x E l'):Out xb enc lt dom H db n cap a b l x E l':=⟨h.trans ho.1,ho.2⟩
theorem Flo.part {a b a' b':Nat} {l:List α} (h:Flo lt a b l) (h1:a'=a) (h2:b' ≤ b):Flo lt a' b' l:=by
  subst h1
  exact fun h0 k h3 h4=>h h0 k h3 (by omega)
theorem join (hL:Lin lt) {a b m:Nat} {l:List α} (h1:Sorted lt a m l) (h2:Sorted lt (m+1) b l) (h3:∀ k,a ≤ k → k < m → lt (at_ l k) (at_ l m)) (h4:∀ k,m < k → k < b → ¬ lt (at_ l k) (at_ l m)):Sorted lt a b l:=by
  intro i j q1 q2 q3
  by_cases c1:j < m
  · exact h1 i j q1 q2 c1
  · by_cases c2:j=m
    · subst c2; exact hL.asy _ _ (h3 i q1 q2)
    · by_cases c3:i < m
      · exact hL.tr _ _ _ (hL.asy _ _ (h3 i q1 c3)) (h4 j (by omega) q3)
      · by_cases c4:i=m
        · subst c4; exact h4 j (by omega) q3
        · exact h2 i j (by omega) q2 q3
theorem pq_S (S:So xb enc lt dom H db n) (hL:Lin lt) {a b k p:Nat} {lim:Int} {bal par:Bool} {h:HV} (hd:PdqOk xb enc lt dom H db n cap (b - a)) (hp1:a ≤ p) (hp2:p < b) (hb:b ≤ n) (hk:k ≤ n) (hl0:0 ≤ lim) (hl1:lim ≤ 1000) {l:List α} (hl:l.length=n) (hD:Dm dom l) (hF:Flo lt a b l) :
    ∃ x E l',RT polSo 88 (sub [1,1,0,0,0,1,1,1,1,1,1,1,1] B88) (env88 (.sl db 0 n cap n 1) (.int .i64 (a:Int)) (.int .i64 (b:Int)) (.int .i64 lim) (.func 69 [] [.ptr xb 0 0 1]) (.bool bal) (.bool par) (.int .i64 (k:Int)) (.int .i64 (p:Int)) h Ud Ud Ud Ud Ud Ud) (Mm enc H db l []) x E (Mm enc H db l' [])∧Out xb enc lt dom H db n cap a b l x E l':=by
  have hn:=S.nb
  obtain ⟨m,bb,l4,hc,w1,w2,w3,w4⟩:=part_ok S (cap:=cap) (T:=[]) rfl hb hp1 hp2 hl hD
  obtain ⟨N,hN⟩:=hc.from
  have t1:=pq_n_0 (xb:=xb) N db n cap (Mm enc H db l []) 0 a b lim p (y10:=.bool bal) (y11:=.bool par) (y12:=.int .i64 (k:Int)) (y14:=h) (y15:=Ud) (y16:=Ud) (y17:=Ud) (y18:=Ud) (y19:=Ud) (y20:=Ud) hN
  have hl4:=sw_len w1 hl
  have hD4:=hD.sw w1 (by omega)
  have hF4:=hF.sw (by omega) w1
  have t2:=pq_o_0 (xb:=xb) 0 db n cap (Mm enc H db l4 []) 0 a b lim (y10:=.bool bal) (y11:=.bool par) (y12:=.int .i64 (k:Int)) (y13:=.int .i64 (p:Int)) (y14:=h) (y15:=Ud) (y16:=.int .i64 (m:Int)) (y17:=.bool bb) (y18:=Ud) (y19:=Ud) (y20:=Ud)
  have t3:=pq_p_0 (xb:=xb) 0 db n cap (Mm enc H db l4 []) 0 a b lim m (y10:=.bool bal) (y11:=.bool bb) (y12:=.int .i64 (k:Int)) (y13:=.int .i64 (p:Int)) (y14:=h) (y15:=Ud) (y17:=.bool bb) (y18:=Ud) (y19:=Ud) (y20:=Ud)
  have e1:IntKind.i64.wrap ((m:Int) - (a:Int))=((m - a:Nat):Int):=(by rw [wrap_id (by omega) (by omega)]; omega)
  have e2:IntKind.i64.wrap ((b:Int) - (m:Int))=((b - m:Nat):Int):=(by rw [wrap_id (by omega) (by omega)]; omega)
  rw [e1,e2] at t3
  have t4:=pq_q_0 (xb:=xb) 0 db n cap (Mm enc H db l4 []) 0 a b lim k (y10:=.bool bal) (y11:=.bool bb) (y13:=.int .i64 (p:Int)) (y14:=h) (y15:=Ud) (y16:=.int .i64 (m:Int)) (y17:=.bool bb) (y18:=.int .i64 ((m - a:Nat):Int)) (y19:=.int .i64 ((b - m:Nat):Int)) (y20:=Ud)
  generalize IntKind.i64.wrap (((k:Int):Int).tdiv 8)=th at t4
  have up:∀ (x:X) (E:Env) (l':List α),RT polSo 88 (sub [1,1,0,0,0,1,1,1,1,1,1,1,1,1,1,1,1] B88) (env88 (.sl db 0 n cap n 1) (.int .i64 (a:Int)) (.int .i64 (b:Int)) (.int .i64 lim) (.func 69 [] [.ptr xb 0 0 1]) (.bool bal) (.bool bb) (.int .i64 (k:Int)) (.int .i64 (p:Int)) h Ud (.int .i64 (m:Int)) (.bool bb) (.int .i64 ((m - a:Nat):Int)) (.int .i64 ((b - m:Nat):Int)) (.int .i64 th)) (Mm enc H db l4 []) .normal E (Mm enc H db l' []) → Out xb enc lt dom H db n cap a b l4 .normal E l' →
      ∃ x E l',RT polSo 88 (sub [1,1,0,0,0,1,1,1,1,1,1,1,1] B88) (env88 (.sl db 0 n cap n 1) (.int .i64 (a:Int)) (.int .i64 (b:Int)) (.int .i64 lim) (.func 69 [] [.ptr xb 0 0 1]) (.bool bal) (.bool par) (.int .i64 (k:Int)) (.int .i64 (p:Int)) h Ud Ud Ud Ud Ud Ud) (Mm enc H db l []) x E (Mm enc H db l' [])∧Out xb enc lt dom H db n cap a b l x E l':=fun x E l' t ho =>
    ⟨_,E,l',sq (t1) (sq (t2) (sq (t3) (sq (t4) (t) (c:=sub [1,1,0,0,0,1,1,1,1,1,1,1,1,1,1,1] B88)) (c:=sub [1,1,0,0,0,1,1,1,1,1,1,1,1,1,1] B88)) (c:=sub [1,1,0,0,0,1,1,1,1,1,1,1,1,1] B88)) (c:=sub [1,1,0,0,0,1,1,1,1,1,1,1,1] B88),Out.pre w1 ho⟩
  by_cases c:((m - a:Nat):Int) < ((b - m:Nat):Int)
  · obtain ⟨l5,hc5,v1,v2⟩:=hd a m lim l4 (by omega) (by omega) (by omega) hl0 hl1 hl4 hD4 (hF4.part rfl (by omega))
    obtain ⟨N5,hN5⟩:=hc5.from
    have hl5:=sw_len v1 hl4
    have e3:IntKind.i64.wrap ((m:Int)+1)=((m+1:Nat):Int):=wrap_succ (by omega)
    have ho:∀ (bl:Bool),Out xb enc lt dom H db n cap a b l4 .normal (env88 (.sl db 0 n cap n 1) (.int .i64 ((m+1:Nat):Int)) (.int .i64 (b:Int)) (.int .i64 lim) (.func 69 [] [.ptr xb 0 0 1]) (.bool bl) (.bool bb) (.int .i64 (k:Int)) (.int .i64 (p:Int)) h Ud (.int .i64 (m:Int)) (.bool bb) (.int .i64 ((m - a:Nat):Int)) (.int .i64 ((b - m:Nat):Int)) (.int .i64 th)) l5:=fun bl=>by
      refine ⟨v1.mono (Nat.le_refl _) (by omega),.inr ⟨.inl rfl,m+1,b,lim,bl,bb,_,_,_,_,_,_,_,_,_,rfl,by omega,by omega,by omega,Nat.le_refl _,hl0,hl1,fun _ k h1 h2=>?_,fun l6 u1 u2=>?_⟩⟩
      · rw [show m+1 - 1=m by omega,v1.out (by omega) (k:=k) (by omega),v1.out (by omega) (k:=m) (by omega)]
        exact w4 k (by omega) h2
      · have em:at_ l6 m=at_ l4 m:=(u1.out (by omega) (k:=m) (by omega)).trans (v1.out (by omega) (k:=m) (by omega))
        refine join hL (m:=m) (fun i j q1 q2 q3=>?_) u2 (fun k q1 q2=>?_) (fun k q1 q2=>?_)
        · rw [u1.out (by omega) (k:=i) (by omega),u1.out (by omega) (k:=j) (by omega)]
          exact v2 i j q1 q2 q3
        · rw [em,u1.out (by omega) (k:=k) (by omega)]
          exact v1.all (by omega) (Q:=fun x=>lt x (at_ l4 m)) (Nat.le_refl _) (Nat.le_refl _) w3 k q1 q2
        · rw [em]
          exact u1.all (by omega) (Q:=fun x=>¬ lt x (at_ l4 m)) (lo:=m+1) (hi:=b) (Nat.le_refl _) (Nat.le_refl _) (fun i h1 h2=>by
            rw [v1.out (by omega) (k:=i) (by omega)]; exact w4 i (by omega) h2) k (by omega) q2
    by_cases c2:th ≤ ((m - a:Nat):Int)
    · have t:=pq_r_0 (xb:=xb) N5 db n cap (Mm enc H db l4 []) 0 a b lim m _ _ th (y10:=.bool bal) (y11:=.bool bb) (y12:=.int .i64 (k:Int)) (y13:=.int .i64 (p:Int)) (y14:=h) (y15:=Ud) (y17:=.bool bb) c c2 hN5
      rw [e3] at t
      exact up .normal _ l5 t (ho true)
    · have t:=pq_r_1 (xb:=xb) N5 db n cap (Mm enc H db l4 []) 0 a b lim m _ _ th (y10:=.bool bal) (y11:=.bool bb) (y12:=.int .i64 (k:Int)) (y13:=.int .i64 (p:Int)) (y14:=h) (y15:=Ud) (y17:=.bool bb) c c2 hN5
      rw [e3] at t
      exact up .normal _ l5 t (ho false)
  · have hF5:Flo lt (m+1) b l4:=fun _ k h1 h2=>by rw [show m+1 - 1=m by omega]; exact w4 k (by omega) h2
    obtain ⟨l5,hc5,v1,v2⟩:=hd (m+1) b lim l4 (by omega) (by omega) hb hl0 hl1 hl4 hD4 hF5
    obtain ⟨N5,hN5⟩:=hc5.from
    have hl5:=sw_len v1 hl4
    have e3:IntKind.i64.wrap ((m:Int)+1)=((m+1:Nat):Int):=wrap_succ (by omega)
    rw [← e3] at hN5
    have ho:∀ (bl:Bool),Out xb enc lt dom H db n cap a b l4 .normal (env88 (.sl db 0 n cap n 1) (.int .i64 (a:Int)) (.int .i64 (m:Int)) (.int .i64 lim) (.func 69 [] [.ptr xb 0 0 1]) (.bool bl) (.bool bb) (.int .i64 (k:Int)) (.int .i64 (p:Int)) h Ud (.int .i64 (m:Int)) (.bool bb) (.int .i64 ((m - a:Nat):Int)) (.int .i64 ((b - m:Nat):Int)) (.int .i64 th)) l5:=fun bl=>by
      have hF6:=(hF4.sw (by omega) (v1.mono (a':=a) (by omega) (Nat.le_refl _))).part (b':=m) rfl (by omega)
      refine ⟨v1.mono (by omega) (Nat.le_refl _),.inr ⟨.inl rfl,a,m,lim,bl,bb,_,_,_,_,_,_,_,_,_,rfl,by omega,Nat.le_refl _,by omega,by omega,hl0,hl1,hF6,fun l6 u1 u2=>?_⟩⟩
      have em:at_ l6 m=at_ l4 m:=(u1.out (by omega) (k:=m) (by omega)).trans (v1.out (by omega) (k:=m) (by omega))
      refine join hL (m:=m) u2 (fun i j q1 q2 q3=>?_) (fun k q1 q2=>?_) (fun k q1 q2=>?_)
      · rw [u1.out (by omega) (k:=i) (by omega),u1.out (by omega) (k:=j) (by omega)]
        exact v2 i j q1 q2 q3
      · rw [em]
        exact u1.all (by omega) (Q:=fun x=>lt x (at_ l4 m)) (lo:=a) (hi:=m) (Nat.le_refl _) (Nat.le_refl _) (fun i h1 h2=>by
            rw [v1.out (by omega) (k:=i) (by omega)]; exact w3 i h1 h2) k q1 q2
      · rw [em,u1.out (by omega) (k:=k) (by omega)]
        exact v1.all (by omega) (Q:=fun x=>¬ lt x (at_ l4 m)) (Nat.le_refl _) (Nat.le_refl _) (fun i h1 h2=>w4 i (by omega) h2) k (by omega) q2
    by_cases c2:th ≤ ((b - m:Nat):Int)
    · have t:=pq_r_2 (xb:=xb) N5 db n cap (Mm enc H db l4 []) 0 a b lim m _ _ th (y10:=.bool bal) (y11:=.bool bb) (y12:=.int .i64 (k:Int)) (y13:=.int .i64 (p:Int)) (y14:=h) (y15:=Ud) (y17:=.bool bb) c c2 hN5
      exact up .normal _ l5 t (ho true)
    · have t:=pq_r_3 (xb:=xb) N5 db n cap (Mm enc H db l4 []) 0 a b lim m _ _ th (y10:=.bool bal) (y11:=.bool bb) (y12:=.int .i64 (k:Int)) (y13:=.int .i64 (p:Int)) (y14:=h) (y15:=Ud) (y17:=.bool bb) c c2 hN5
      exact up .normal _ l5 t (ho false)
theorem pq_T (S:So xb enc lt dom H db n) (hL:Lin lt) {a b k p:Nat} {lim:Int} {bal par:Bool} {h:HV} (hd:PdqOk xb enc lt dom H db n cap (b - a)) (hp1:a ≤ p) (hp2:p < b) (hb:b ≤ n) (hk:k ≤ n) (hl0:0 ≤ lim) (hl1:lim ≤ 1000) {l:List α} (hl:l.length=n) (hD:Dm dom l) (hF:Flo lt a b l) :
    ∃ x E l',RT polSo 88 (sub [1,1,0,0,0,1,1,1,1,1,1,1] B88) (env88 (.sl db 0 n cap n 1) (.int .i64 (a:Int)) (.int .i64 (b:Int)) (.int .i64 lim) (.func 69 [] [.ptr xb 0 0 1]) (.bool bal) (.bool par) (.int .i64 (k:Int)) (.int .i64 (p:Int)) h Ud Ud Ud Ud Ud Ud) (Mm enc H db l []) x E (Mm enc H db l' [])∧Out xb enc lt dom H db n cap a b l x E l':=by
  have hn:=S.nb
  by_cases c0:0 < a
  · have hp:IntKind.i64.wrap ((a:Int) - 1)=((a - 1:Nat):Int):=wrap_pred (by omega) (by omega)
    by_cases c:lt (at_ l (a - 1)) (at_ l p)
    · obtain ⟨cc,N,hN,hc⟩:=S.ct (T:=[]) hl rfl (hD.at (i:=a - 1) (by omega)) (hD.at (i:=p) (by omega)) c
      have t1:=pq_m_0 (xb:=xb) N db n cap (Mm enc H db l []) 0 a b lim p (y10:=.bool bal) (y11:=.bool par) (y12:=.int .i64 (k:Int)) (y14:=h) (y15:=Ud) (y16:=Ud) (y17:=Ud) (y18:=Ud) (y19:=Ud) (y20:=Ud) (by omega) (ixs hp (by omega)) (S.ld l _ _ hl (by omega)) (ixs (i:=p) rfl (by omega)) (S.ld l _ _ hl (by omega)) hN hc
      obtain ⟨x,E,l',t,ho⟩:=pq_S S hL (cap:=cap) (k:=k) (bal:=bal) (par:=par) (h:=h) hd hp1 hp2 hb hk hl0 hl1 hl hD hF
      exact ⟨x,E,l',sq t1 t (c:=sub [1,1,0,0,0,1,1,1,1,1,1,1] B88),ho⟩
    · obtain ⟨cc,N,hN,hc⟩:=S.cf (T:=[]) hl rfl (hD.at (i:=a - 1) (by omega)) (hD.at (i:=p) (by omega)) c
      obtain ⟨m,l4,hc4,w1,w2,w3,w4⟩:=peq_ok S (cap:=cap) (T:=[]) hL rfl hb hp1 hp2 hl hD
      obtain ⟨N4,hN4⟩:=hc4.from
      have t1:=pq_m_1 (xb:=xb) (N+N4) db n cap (Mm enc H db l []) 0 a b lim p (y10:=.bool bal) (y11:=.bool par) (y12:=.int .i64 (k:Int)) (y14:=h) (y15:=Ud) (y16:=Ud) (y17:=Ud) (y18:=Ud) (y19:=Ud) (y20:=Ud) (by omega) (ixs hp (by omega)) (S.ld l _ _ hl (by omega)) (ixs (i:=p) rfl (by omega)) (S.ld l _ _ hl (by omega)) (fun kf hk=>hN kf (by omega)) hc (fun kf hk=>hN4 kf (by omega))
      have hlow:∀ k,a ≤ k → k < b → ¬ lt (at_ l4 k) (at_ l (a - 1)):=w1.all (by omega) (Q:=fun x=>¬ lt x (at_ l (a - 1))) (Nat.le_refl _) (Nat.le_refl _) (hF c0)
      refine ⟨_,_,l4,sqo t1 (c:=sub [1,1,0,0,0,1,1,1,1,1,1,1] B88) (b:=sub [1,1,0,0,0,1,1,1,1,1,1,1,1] B88),w1,.inr ⟨.inr rfl,m,b,lim,bal,par,_,_,_,_,_,_,_,_,_,rfl,by omega,by omega,by omega,Nat.le_refl _,hl0,hl1,fun _ k h1 h2=>?_,fun l5 u1 u2=>?_⟩⟩
      · exact hL.tr _ _ _ (w3 (m - 1) (by omega) (by omega)) (hL.asy _ _ (w4 k h1 h2))
      · have hl4:=sw_len w1 hl
        have hr:∀ k,m ≤ k → k < b → lt (at_ l p) (at_ l5 k):=u1.all (by omega) (Q:=fun x=>lt (at_ l p) x) (Nat.le_refl _) (Nat.le_refl _) w4
        intro i j q1 q2 q3
        by_cases c1:j < m
        · rw [u1.out (by omega) (k:=i) (by omega),u1.out (by omega) (k:=j) (by omega)]
          exact hL.tr _ _ _ (hL.tr _ _ _ (w3 i q1 (by omega)) c) (hlow j (by omega) q3)
        · by_cases c2:i < m
          · rw [u1.out (by omega) (k:=i) (by omega)]
            exact hL.tr _ _ _ (w3 i q1 c2) (hL.asy _ _ (hr j (by omega) q3))
          · exact u2 i j (by omega) q2 q3
  · have t1:=pq_m_2 (xb:=xb) 0 db n cap (Mm enc H db l []) 0 a b lim p (y10:=.bool bal) (y11:=.bool par) (y12:=.int .i64 (k:Int)) (y14:=h) (y15:=Ud) (y16:=Ud) (y17:=Ud) (y18:=Ud) (y19:=Ud) (y20:=Ud) (by omega)
    obtain ⟨x,E,l',t,ho⟩:=pq_S S hL (cap:=cap) (k:=k) (bal:=bal) (par:=par) (h:=h) hd hp1 hp2 hb hk hl0 hl1 hl hD hF
    exact ⟨x,E,l',sq t1 t (c:=sub [1,1,0,0,0,1,1,1,1,1,1,1] B88),ho⟩
theorem pq_U (S:So xb enc lt dom H db n) (hL:Lin lt) {a b k p:Nat} {lim h:Int} {bal par:Bool} (hd:PdqOk xb enc lt dom H db n cap (b - a)) (hp1:a ≤ p) (hp2:p < b) (hb:b ≤ n) (hk:k ≤ n) (hl0:0 ≤ lim) (hl1:lim ≤ 1000) {l:List α} (hl:l.length=n) (hD:Dm dom l) (hF:Flo lt a b l) :
    ∃ x E l',RT polSo 88 (sub [1,1,0,0,0,1,1,1,1,1,1] B88) (env88 (.sl db 0 n cap n 1) (.int .i64 (a:Int)) (.int .i64 (b:Int)) (.int .i64 lim) (.func 69 [] [.ptr xb 0 0 1]) (.bool bal) (.bool par) (.int .i64 (k:Int)) (.int .i64 (p:Int)) (.int .i64 h) Ud Ud Ud Ud Ud Ud) (Mm enc H db l []) x E (Mm enc H db l' [])∧Out xb enc lt dom H db n cap a b l x E l':=by
  have hn:=S.nb
  have on:∀ (l3:List α),Sw a b l l3 → RT polSo 88 (sub [1,1,0,0,0,1,1,1,1,1,1,0] B88) (env88 (.sl db 0 n cap n 1) (.int .i64 (a:Int)) (.int .i64 (b:Int)) (.int .i64 lim) (.func 69 [] [.ptr xb 0 0 1]) (.bool bal) (.bool par) (.int .i64 (k:Int)) (.int .i64 (p:Int)) (.int .i64 h) Ud Ud Ud Ud Ud Ud) (Mm enc H db l []) .normal (env88 (.sl db 0 n cap n 1) (.int .i64 (a:Int)) (.int .i64 (b:Int)) (.int .i64 lim) (.func 69 [] [.ptr xb 0 0 1]) (.bool bal) (.bool par) (.int .i64 (k:Int)) (.int .i64 (p:Int)) (.int .i64 h) Ud Ud Ud Ud Ud Ud) (Mm enc H db l3 []) →
      ∃ x E l',RT polSo 88 (sub [1,1,0,0,0,1,1,1,1,1,1] B88) (env88 (.sl db 0 n cap n 1) (.int .i64 (a:Int)) (.int .i64 (b:Int)) (.int .i64 lim) (.func 69 [] [.ptr xb 0 0 1]) (.bool bal) (.bool par) (.int .i64 (k:Int)) (.int .i64 (p:Int)) (.int .i64 h) Ud Ud Ud Ud Ud Ud) (Mm enc H db l []) x E (Mm enc H db l' [])∧Out xb enc lt dom H db n cap a b l x E l':=fun l3 w t1=>by
    obtain ⟨x,E,l',t,ho⟩:=pq_T S hL (cap:=cap) (k:=k) (bal:=bal) (par:=par) (h:=.int .i64 h) hd hp1 hp2 hb hk hl0 hl1 (sw_len w hl) (hD.sw w (by omega)) (hF.sw (by omega) w)
    exact ⟨x,E,l',sq t1 t (c:=sub [1,1,0,0,0,1,1,1,1,1,1] B88),Out.pre w ho⟩
  cases bal with
  | false=>exact on l .refl (pq_l_0 (xb:=xb) 0 db n cap (Mm enc H db l []) 0 a b lim h)
  | true =>
    cases par with
    | false=>exact on l .refl (pq_k_0 (xb:=xb) 0 db n cap (Mm enc H db l []) 0 a b lim h)
    | true =>
      by_cases c:h=1
      · obtain ⟨bb,l3,hc3,w1,w2⟩:=pin_ok S hL (cap:=cap) (T:=[]) rfl (a:=a) (by omega) hb hl hD hF
        obtain ⟨N3,hN3⟩:=hc3.from
        cases bb with
        | true =>
          have t1:=pq_j_0 (xb:=xb) N3 db n cap (Mm enc H db l []) 0 a b lim h (y12:=.int .i64 (k:Int)) (y13:=.int .i64 (p:Int)) (y15:=Ud) (y16:=Ud) (y17:=Ud) (y18:=Ud) (y19:=Ud) (y20:=Ud) c hN3
          exact ⟨_,_,l3,sqo t1 (c:=sub [1,1,0,0,0,1,1,1,1,1,1] B88) (b:=sub [1,1,0,0,0,1,1,1,1,1,1,1] B88),w1,.inl ⟨rfl,w2 rfl⟩⟩
        | false=>exact on l3 w1 (pq_j_1 (xb:=xb) N3 db n cap (Mm enc H db l []) 0 a b lim h c hN3)
      · exact on l .refl (pq_j_2 (xb:=xb) 0 db n cap (Mm enc H db l []) 0 a b lim h c)
theorem pq_V (S:So xb enc lt dom H db n) (hL:Lin lt) {a b k p:Nat} {lim h:Int} {bal par:Bool} (hd:PdqOk xb enc lt dom H db n cap (b - a)) (hp1:a ≤ p) (hp2:p < b) (hb:b ≤ n) (hk:k ≤ n) (hl0:0 ≤ lim) (hl1:lim ≤ 1000) {l:List α} (hl:l.length=n) (hD:Dm dom l) (hF:Flo lt a b l) :
    ∃ x E l',RT polSo 88 (sub [1,1,0,0,0,1,1,1,1,1] B88) (env88 (.sl db 0 n cap n 1) (.int .i64 (a:Int)) (.int .i64 (b:Int)) (.int .i64 lim) (.func 69 [] [.ptr xb 0 0 1]) (.bool bal) (.bool par) (.int .i64 (k:Int)) (.int .i64 (p:Int)) (.int .i64 h) Ud Ud Ud Ud Ud Ud) (Mm enc H db l []) x E (Mm enc H db l' [])∧Out xb enc lt dom H db n cap a b l x E l':=by
  have hn:=S.nb
  by_cases c:h=2
  · obtain ⟨l2,hc2,w⟩:=rvs_ok S (cap:=cap) (T:=[]) (a:=a) (b:=b) (by omega) hb hl
    obtain ⟨N2,hN2⟩:=hc2.from
    have t1:=pq_i_0 (xb:=xb) N2 db n cap (Mm enc H db l []) 0 a b lim p h (y10:=.bool bal) (y11:=.bool par) (y12:=.int .i64 (k:Int)) (y15:=Ud) (y16:=Ud) (y17:=Ud) (y18:=Ud) (y19:=Ud) (y20:=Ud) c hN2
    have e1:IntKind.i64.wrap ((b:Int) - 1)=((b - 1:Nat):Int):=wrap_pred (by omega) (by omega)
    have e2:IntKind.i64.wrap ((p:Int) - (a:Int))=((p - a:Nat):Int):=(by rw [wrap_id (by omega) (by omega)]; omega)
    have e3:IntKind.i64.wrap (((b - 1:Nat):Int) - ((p - a:Nat):Int))=((b - 1 - (p - a):Nat):Int):=(by rw [wrap_id (by omega) (by omega)]; omega)
    rw [e1,e2,e3] at t1
    obtain ⟨x,E,l',t,ho⟩:=pq_U S hL (cap:=cap) (k:=k) (p:=b - 1 - (p - a)) (bal:=bal) (par:=par) (h:=1) hd (by omega) (by omega) hb hk hl0 hl1 (sw_len w hl) (hD.sw w (by omega)) (hF.sw (by omega) w)
    exact ⟨x,E,l',sq t1 t (c:=sub [1,1,0,0,0,1,1,1,1,1] B88),Out.pre w ho⟩
  · have t1:=pq_i_1 (xb:=xb) 0 db n cap (Mm enc H db l []) 0 a b lim p h (y10:=.bool bal) (y11:=.bool par) (y12:=.int .i64 (k:Int)) (y15:=Ud) (y16:=Ud) (y17:=Ud) (y18:=Ud) (y19:=Ud) (y20:=Ud) c
    obtain ⟨x,E,l',t,ho⟩:=pq_U S hL (cap:=cap) (k:=k) (p:=p) (bal:=bal) (par:=par) (h:=h) hd hp1 hp2 hb hk hl0 hl1 hl hD hF
    exact ⟨x,E,l',sq t1 t (c:=sub [1,1,0,0,0,1,1,1,1,1] B88),ho⟩
theorem pq_B (S:So xb enc lt dom H db n) (hL:Lin lt) {a b:Nat} {lim:Int} {bal par:Bool} (hd:PdqOk xb enc lt dom H db n cap (b - a)) (hab:a ≤ b) (hb:b ≤ n) (hl0:0 ≤ lim) (hl1:lim ≤ 1000) {l:List α} (hl:l.length=n) (hD:Dm dom l) (hF:Flo lt a b l) :
    ∃ x E l',RT polSo 88 (sub [1,1,0,0,0] B88) (env88 (.sl db 0 n cap n 1) (.int .i64 (a:Int)) (.int .i64 (b:Int)) (.int .i64 lim) (.func 69 [] [.ptr xb 0 0 1]) (.bool bal) (.bool par) Ud Ud Ud Ud Ud Ud Ud Ud Ud) (Mm enc H db l []) x E (Mm enc H db l' [])∧Out xb enc lt dom H db n cap a b l x E l':=by
  have hn:=S.nb
  have t0:=pq_c_0 (xb:=xb) 0 db n cap (Mm enc H db l []) 0 a b lim (y10:=.bool bal) (y11:=.bool par) (y12:=Ud) (y13:=Ud) (y14:=Ud) (y15:=Ud) (y16:=Ud) (y17:=Ud) (y18:=Ud) (y19:=Ud) (y20:=Ud)
  have e0:IntKind.i64.wrap ((b:Int) - (a:Int))=((b - a:Nat):Int):=(by rw [wrap_id (by omega) (by omega)]; omega)
  rw [e0] at t0
  by_cases c1:b - a ≤ 12
  · obtain ⟨l',hc,w1,w2⟩:=ins_ok S hL (cap:=cap) (T:=[]) rfl hab hb hl hD
    obtain ⟨N1,hN1⟩:=hc.from
    have t1:=pq_d_0 (xb:=xb) N1 db n cap (Mm enc H db l []) 0 a b lim (b - a) (y10:=.bool bal) (y11:=.bool par) (y13:=Ud) (y14:=Ud) (y15:=Ud) (y16:=Ud) (y17:=Ud) (y18:=Ud) (y19:=Ud) (y20:=Ud) (by omega) hN1
    exact ⟨_,_,l',sq (t0) (sqo (t1) (c:=sub [1,1,0,0,0,1] B88) (b:=sub [1,1,0,0,0,1,1] B88)) (c:=sub [1,1,0,0,0] B88),w1,.inl ⟨rfl,w2⟩⟩
  have t1:=pq_d_1 (xb:=xb) 0 db n cap (Mm enc H db l []) 0 a b lim (b - a) (y10:=.bool bal) (y11:=.bool par) (y13:=Ud) (y14:=Ud) (y15:=Ud) (y16:=Ud) (y17:=Ud) (y18:=Ud) (y19:=Ud) (y20:=Ud) (by omega)
  by_cases c2:lim=0
  · obtain ⟨l',hc,w1,w2⟩:=heap_ok S hL (cap:=cap) (T:=[]) rfl (a:=a) (by omega) hb hl hD
    obtain ⟨N1,hN1⟩:=hc.from
    have t2:=pq_e_0 (xb:=xb) N1 db n cap (Mm enc H db l []) 0 a b lim (y10:=.bool bal) (y11:=.bool par) (y12:=.int .i64 ((b - a:Nat):Int)) (y13:=Ud) (y14:=Ud) (y15:=Ud) (y16:=Ud) (y17:=Ud) (y18:=Ud) (y19:=Ud) (y20:=Ud) c2 hN1
    exact ⟨_,_,l',sq (t0) (sq (t1) (sqo (t2) (c:=sub [1,1,0,0,0,1,1] B88) (b:=sub [1,1,0,0,0,1,1,1] B88)) (c:=sub [1,1,0,0,0,1] B88)) (c:=sub [1,1,0,0,0] B88),w1,.inl ⟨rfl,w2⟩⟩
  have t2:=pq_e_1 (xb:=xb) 0 db n cap (Mm enc H db l []) 0 a b lim (y10:=.bool bal) (y11:=.bool par) (y12:=.int .i64 ((b - a:Nat):Int)) (y13:=Ud) (y14:=Ud) (y15:=Ud) (y16:=Ud) (y17:=Ud) (y18:=Ud) (y19:=Ud) (y20:=Ud) c2
  have on:∀ (lim1:Int) (l1:List α),0 ≤ lim1 → lim1 ≤ 1000 → Sw a b l l1 → RT polSo 88 (sub [1,1,0,0,0,1,1,1,0] B88) (env88 (.sl db 0 n cap n 1) (.int .i64 (a:Int)) (.int .i64 (b:Int)) (.int .i64 lim) (.func 69 [] [.ptr xb 0 0 1]) (.bool bal) (.bool par) (.int .i64 ((b - a:Nat):Int)) Ud Ud Ud Ud Ud Ud Ud Ud) (Mm enc H db l []) .normal (env88 (.sl db 0 n cap n 1) (.int .i64 (a:Int)) (.int .i64 (b:Int)) (.int .i64 lim1) (.func 69 [] [.ptr xb 0 0 1]) (.bool bal) (.bool par) (.int .i64 ((b - a:Nat):Int)) Ud Ud Ud Ud Ud Ud Ud Ud) (Mm enc H db l1 []) →
      ∃ x E l',RT polSo 88 (sub [1,1,0,0,0] B88) (env88 (.sl db 0 n cap n 1) (.int .i64 (a:Int)) (.int .i64 (b:Int)) (.int .i64 lim) (.func 69 [] [.ptr xb 0 0 1]) (.bool bal) (.bool par) Ud Ud Ud Ud Ud Ud Ud Ud Ud) (Mm enc H db l []) x E (Mm enc H db l' [])∧Out xb enc lt dom H db n cap a b l x E l':=fun lim1 l1 hq0 hq1 w t3=>by
    have hl1':=sw_len w hl
    have hD1:=hD.sw w (by omega)
    obtain ⟨p,h,hc,p1,p2⟩:=piv_ok S (cap:=cap) (a:=a) (b:=b) (by omega) hb hl1' hD1
    obtain ⟨N1,hN1⟩:=hc.from
    have t4:=pq_h_0 (xb:=xb) N1 db n cap (Mm enc H db l1 []) 0 a b lim1 (y10:=.bool bal) (y11:=.bool par) (y12:=.int .i64 ((b - a:Nat):Int)) (y13:=Ud) (y14:=Ud) (y15:=Ud) (y16:=Ud) (y17:=Ud) (y18:=Ud) (y19:=Ud) (y20:=Ud) hN1
    obtain ⟨x,E,l',t,ho⟩:=pq_V S hL (cap:=cap) (k:=b - a) (p:=p) (bal:=bal) (par:=par) (h:=h) hd p1 p2 hb (by omega) hq0 hq1 hl1' hD1 (hF.sw (by omega) w)
    have t5:=sq t4 t (c:=sub [1,1,0,0,0,1,1,1,1] B88)
    have t6:=sq t3 t5 (c:=sub [1,1,0,0,0,1,1,1] B88)
    have t7:=sq t2 t6 (c:=sub [1,1,0,0,0,1,1] B88)
    have t8:=sq t1 t7 (c:=sub [1,1,0,0,0,1] B88)
    exact ⟨x,E,l',sq t0 t8 (c:=sub [1,1,0,0,0] B88),Out.pre w ho⟩
  cases bal with
  | true=>exact on lim l hl0 hl1 .refl (pq_f_0 (xb:=xb) 0 db n cap (Mm enc H db l []) 0 a b lim)
  | false =>
    obtain ⟨l1,hc,w⟩:=brk_ok S (cap:=cap) (a:=a) (b:=b) (by omega) hb hl
    obtain ⟨N1,hN1⟩:=hc.from
    have t3:=pq_g_0 (xb:=xb) N1 db n cap (Mm enc H db l []) 0 a b lim (y11:=.bool par) (y12:=.int .i64 ((b - a:Nat):Int)) (y13:=Ud) (y14:=Ud) (y15:=Ud) (y16:=Ud) (y17:=Ud) (y18:=Ud) (y19:=Ud) (y20:=Ud) hN1
    rw [wrap_id (n:=lim - 1) (by omega) (by omega)] at t3
    exact on (lim - 1) l1 (by omega) (by omega) w t3
theorem pq_loop (S:So xb enc lt dom H db n) (hL:Lin lt):∀ (d:Nat) (a b:Nat) (lim:Int) (bal par:Bool) (l:List α),b - a < d → PdqOk xb enc lt dom H db n cap (b - a) → a ≤ b → b ≤ n → 0 ≤ lim → lim ≤ 1000 → l.length=n → Dm dom l → Flo lt a b l →
    ∃ E l',RT polSo 88 (sub [1,1,0] B88) (env88 (.sl db 0 n cap n 1) (.int .i64 (a:Int)) (.int .i64 (b:Int)) (.int .i64 lim) (.func 69 [] [.ptr xb 0 0 1]) (.bool bal) (.bool par) Ud Ud Ud Ud Ud Ud Ud Ud Ud) (Mm enc H db l []) .ret E (Mm enc H db l' [])∧Sw a b l l'∧Sorted lt a b l':=by
  have hn:=S.nb
  intro d
  induction d with
  | zero=>intro a b lim bal par l hd; omega
  | succ d ih =>
    intro a b lim bal par l hd hP hab hb h0 h1 hl hD hF
    obtain ⟨x,E,l1,t,w,ho⟩:=pq_B S hL (cap:=cap) (bal:=bal) (par:=par) hP hab hb h0 h1 hl hD hF
    rcases ho with ⟨rfl,hs⟩ | ⟨hx,a',b',lim',bal',par',y2,y3,y4,y5,y6,y7,y8,y9,y10,rfl,q1,q2,q3,q4,q5,q6,q7,q8⟩
    · exact ⟨_,l1,lpo (RunsTo.block_ret (i:=1) (c:=sub [1,1,0,0] B88) t (by kernel_rfl)),w,hs⟩
    · have st:RT polSo 88 (sub [1,1,0,0] B88) (env88 (.sl db 0 n cap n 1) (.int .i64 (a:Int)) (.int .i64 (b:Int)) (.int .i64 lim) (.func 69 [] [.ptr xb 0 0 1]) (.bool bal) (.bool par) Ud Ud Ud Ud Ud Ud Ud Ud Ud) (Mm enc H db l []) .normal (env88 (.sl db 0 n cap n 1) (.int .i64 (a':Int)) (.int .i64 (b':Int)) (.int .i64 lim') (.func 69 [] [.ptr xb 0 0 1]) (.bool bal') (.bool par') y2 y3 y4 y5 y6 y7 y8 y9 y10) (Mm enc H db l1 []):=by
        rcases hx with rfl | rfl
        · exact RunsTo.block_normal (i:=1) t (by kernel_rfl)
        · exact bke t
      have hl1:=sw_len w hl
      obtain ⟨E,l2,r,v1,v2⟩:=ih a' b' lim' bal' par' l1 (by omega) (fun a2 b2 lim2 l2 g1=>hP a2 b2 lim2 l2 (by omega)) q3 (by omega) q5 q6 hl1 (hD.sw w (by omega)) q7
      exact ⟨E,l2,lop (st) (gcM _ _ _ _ _ rfl) (r),w.trans (v1.mono q2 q4),q8 l2 v1 v2⟩
theorem pdq_of (S:So xb enc lt dom H db n) (hL:Lin lt) {a b:Nat} {lim:Int} {l:List α} (hP:PdqOk xb enc lt dom H db n cap (b - a)) (hab:a ≤ b) (hb:b ≤ n) (h0:0 ≤ lim) (h1:lim ≤ 1000) (hl:l.length=n) (hD:Dm dom l) (hF:Flo lt a b l) :
    ∃ l',ClS 88 [.sl db 0 n cap n 1,.int .i64 (a:Int),.int .i64 (b:Int),.int .i64 lim,.func 69 [] [.ptr xb 0 0 1]] (Mm enc H db l []) (.tuple []) (Mm enc H db l' [])∧Sw a b l l'∧Sorted lt a b l':=by
  obtain ⟨E,l',r,q⟩:=pq_loop S hL (cap:=cap) _ a b lim true true l (Nat.lt_succ_self _) hP hab hb h0 h1 hl hD hF
  have t0:=pq_a_0 (xb:=xb) 0 db n cap (Mm enc H db l []) 0 a b lim
  have t1:=pq_b_0 (xb:=xb) 0 db n cap (Mm enc H db l []) 0 a b lim (y10:=.bool true) (y11:=Ud) (y12:=Ud) (y13:=Ud) (y14:=Ud) (y15:=Ud) (y16:=Ud) (y17:=Ud) (y18:=Ud) (y19:=Ud) (y20:=Ud)
  have t:=sq (t0) (sq (t1) (RunsTo.block_ret (i:=0) (c:=sub [1,1] B88) (r) (by kernel_rfl)) (c:=sub [1] B88)) (c:=B88)
  have hc:=CallsTo.shared (P:=Tp) (pol:=polSo) (g:=88) (fn:=Try.f88) (cd:=B88) (args:=[.sl db 0 n cap n 1,.int .i64 (a:Int),.int .i64 (b:Int),.int .i64 lim,.func 69 [] [.ptr xb 0 0 1]]) (v:=.tuple []) (by kernel_rfl) (by kernel_rfl) (by kernel_rfl) (by kernel_rfl) t (by kernel_rfl) (by simp) (by kernel_rfl)
  rw [gcM _ _ _ _ _ rfl] at hc
  exact ⟨l',hc,q⟩
theorem pdq_all (S:So xb enc lt dom H db n) (hL:Lin lt):∀ d,PdqOk xb enc lt dom H db n cap d
  | 0,_,_,_,_,h=>by omega
  | d+1,a,b,lim,l,h=>fun hab hb h0 h1 hl hD hF=>pdq_of S hL (fun a2 b2 lim2 l2 g=>pdq_all S hL d a2 b2 lim2 l2 (by omega)) hab hb h0 h1 hl hD hF
theorem pdq_ok (S:So xb enc lt dom H db n) (hL:Lin lt) {lim:Int} (h0:0 ≤ lim) (h1:lim ≤ 1000) {l:List α} (hl:l.length=n) (hD:Dm dom l) :
    ∃ l',ClS 88 [.sl db 0 n cap n 1,.int .i64 0,.int .i64 (n:Int),.int .i64 lim,.func 69 [] [.ptr xb 0 0 1]] (Mm enc H db l []) (.tuple []) (Mm enc H db l' [])∧l'.Perm l∧Sorted lt 0 n l':=by
  obtain ⟨l',hc,w,hs⟩:=pdq_all S hL (cap:=cap) (n+1) 0 n lim l (by omega) (Nat.zero_le _) (Nat.le_refl _) h0 h1 hl hD (fun h=>by omega)
  exact ⟨l',hc,w.perm (by omega),hs⟩
end
end Go.Proofs.Ytiejmoglooaalaa
end
section
open Go Go.HL Go.HL.So
namespace Go.Proofs.Ytiejmoglooaalaa
open Go.Proofs.Try renaming prog → Tp
open Go.HL.HV renaming undef → Ud
abbrev bN (n:Int) (l:List St):Blk:=.arr 2 [encN n l] true 0
theorem ld_net {H:Heap} {xb mx:Nat} {n:Int} {l:List St} (hb:H[xb]?=some (.arr 2 [encN n l] true mx)):loadV Tp H 22 (.ptr xb 0 1 1)=some (.imm .arg 3 (l.map encT)) :=
  load_cell (P:=Tp) (t:=22) (b:=xb) (i:=0) (off:=1) (tot:=1) (els:=[encN n l]) (cs:=[.int .i64 n,.imm .arg 3 (l.map encT)]) hb rfl rfl a22 i22 rfl
theorem ld_netN {H:Heap} {xb mx:Nat} {n:Int} {l:List St} (hb:H[xb]?=some (.arr 2 [encN n l] true mx)):loadV Tp H 3 (.ptr xb 0 0 1)=some (.int .i64 n) :=
  load_cell (P:=Tp) (t:=3) (b:=xb) (i:=0) (off:=0) (tot:=1) (els:=[encN n l]) (cs:=[.int .i64 n,.imm .arg 3 (l.map encT)]) hb rfl rfl a3 i3 rfl
theorem fst_cmp (w w2 i j:Int):(fstI (cmpI w w2) (cmpI i j) < 0) ↔ (w < w2 ∨ (w=w2∧i < j)):=by
  unfold fstI cmpI
  by_cases c1:w < w2
  · simp [c1]
  · by_cases c2:w2 < w
    · simp [c1,c2] <;> omega
    · by_cases c3:i < j
      · simp [c1,c2,c3] <;> omega
      · by_cases c4:j < i
        · simp [c1,c2,c3,c4] <;> omega
        · simp [c1,c2,c3,c4] <;> omega
theorem ShL_lit (H:Heap) (l:List Int):Sh kL H (.imm .lit 1 (l.map encI)) l:=by
  show argP (.imm .lit 1 (l.map encI))=_
  simp only [argP,argP_ints']
  rfl
theorem cl_call {H:Heap} {xb mx:Nat} {n:Int} {l:List St} (hb:H[xb]?=some (.arr 2 [encN n l] true mx)) {i j:Int} (hi:0 ≤ i∧i < (l.length:Int)) (hj:0 ≤ j∧j < (l.length:Int)) :
    ClS 69 [encI i,encI j,.ptr xb 0 0 1] H (.int .i64 (fstI (cmpI (wOf l i) (wOf l j)) (cmpI i j))) H:=by
  obtain ⟨a,rfl⟩:∃ a:Nat,i=(a:Int):=⟨i.toNat,by omega⟩
  obtain ⟨b,rfl⟩:∃ b:Nat,j=(b:Int):=⟨j.toNat,by omega⟩
  have g1:=gs (l:=l) (y:=a) (by omega)
  have g2:=gs (l:=l) (y:=b) (by omega)
  have c1:=at2 (pol':=polSo) (g:=71) (c1:=kI) (c2:=kI) (f:=fun x y=>some (.int .i64 (cmpI x y))) (H:=H) (by kernel_rfl) (ShI H (wOf l (a:Int))) (ShI H (wOf l (b:Int))) rfl
  have c2:=at2 (pol':=polSo) (g:=71) (c1:=kI) (c2:=kI) (f:=fun x y=>some (.int .i64 (cmpI x y))) (H:=H) (by kernel_rfl) (ShI H (a:Int)) (ShI H (b:Int)) rfl
  have c3:=at1 (pol':=polSo) (g:=70) (c1:=kL) (f:=fun l=>match l with | [a,b]=>some (.int .i64 (fstI a b)) | _=>none) (H:=H) (by kernel_rfl) (ShL_lit H [cmpI (wOf l (a:Int)) (wOf l (b:Int)),cmpI (a:Int) (b:Int)]) rfl
  have s:=cl_0 a b xb H (l.map encT) (l.getD a (0,0,0)).1 (l.getD a (0,0,0)).2.1 (l.getD a (0,0,0)).2.2 (l.getD b (0,0,0)).1 (l.getD b (0,0,0)).2.1 (l.getD b (0,0,0)).2.2 _ _ _ _ _ _ (ld_net hb) g1 (ld_net hb) g2 c1 c2 c3
  have h:=CallsTo.shared (P:=Tp) (pol:=polSo) (g:=69) (fn:=Try.f69) (cd:=B69) (args:=[.int .i64 (a:Int),.int .i64 (b:Int),.ptr xb 0 0 1]) (v:=.int .i64 (fstI (cmpI (wOf l (a:Int)) (wOf l (b:Int))) (cmpI (a:Int) (b:Int)))) (by kernel_rfl) (by kernel_rfl) (by kernel_rfl) (by kernel_rfl) s (by kernel_rfl) (by simp) (by kernel_rfl)
  rw [gc_eq _ rfl] at h
  exact h
theorem So.sts {n:Int} {l:List St} {H:Heap} {xb db m:Nat} (hm:m ≤ 60000) (hd:db < H.length) (hx:mxs H ≤ H.length) (hb:H[xb]?=some (bN n l)) (hne:xb ≠ db):So xb encI (ltK l) (fun i=>0 ≤ i∧i < (l.length:Int)) H db m:=by
  have hbl:∀ (o:List Int) (T:Heap),(Mm encI H db o T)[db]?=some (bI o):=fun o T=>by
    unfold Mm
    rw [List.getElem?_append_left (by simpa using hd),List.getElem?_set_self hd]
    rfl
  refine ⟨hm,hd,hx,fun o T i hl hi=>?_,fun o T i x hl hi=>?_,fun o T x y hl hT h1 h2=>?_⟩
  · have:=load_out (hbl o T) (y:=i) (by omega)
    rw [hl] at this
    exact this
  · have:=store_out (hbl o T) (y:=i) (by omega) x
    rw [hl] at this
    show storeV Tp _ 3 (.ptr db i 0 m) (.int .i64 x)=_
    rw [this]
    congr 1
    unfold Mm
    rw [List.set_append_left _ _ (by simpa using hd),List.set_set]
    rfl
  · have hbx:(Mm encI H db o T)[xb]?=some (bN n l):=by
      unfold Mm
      rw [List.getElem?_append_left (by
        rcases Nat.lt_or_ge xb H.length with h | h
        · simpa using h
        · rw [List.getElem?_eq_none h] at hb; cases hb),List.getElem?_set_ne (by omega)]
      exact hb
    obtain ⟨N,hN⟩:=(cl_call hbx h1 h2).from
    exact ⟨_,N,hN,by rw [fst_cmp]; rfl⟩
theorem sort_ok {n:Int} {l:List St} {H:Heap} {xb db m:Nat} {cap:Option Nat} {o:List Int} (hm:m ≤ 60000) (ho:o.length=m) (hx:mxs H ≤ H.length) (hb:H[xb]?=some (bN n l)) (hne:xb ≠ db) (hdb:H[db]?=some (bI o)) (hD:∀ x ∈ o,0 ≤ x∧x < (l.length:Int)) :
    ∃ o',ClS 68 [.sl db 0 m cap m 1,.func 69 [] [.ptr xb 0 0 1]] H (.tuple []) (H.set db (bI o'))∧o'.Perm o∧Sorted (ltK l) 0 m o':=by
  have hd:db < H.length:=by
    rcases Nat.lt_or_ge db H.length with h | h
    · exact h
    · rw [List.getElem?_eq_none h] at hdb; cases hdb
  have S:=So.sts (n:=n) (l:=l) (xb:=xb) (m:=m) hm hd hx hb hne
  have hlen:=lenN_ok (x:=m) (by omega)
  have eM:∀ o,Mm encI H db o []=H.set db (bI o):=fun o=>by unfold Mm; rw [List.append_nil]; rfl
  have eH:H.set db (bI o)=H:=by
    apply List.ext_getElem?
    intro i
    by_cases e:db=i
    · subst e; rw [List.getElem?_set_self hd,hdb]
    · rw [List.getElem?_set_ne e]
  obtain ⟨o',hc,h1,h2⟩:=pdq_ok S (ltK_lin l) (cap:=cap) (lim:=(lenN m:Int)) (by omega) (by omega) ho hD
  rw [eM,eM,eH] at hc
  obtain ⟨N,hN⟩:=hc.from
  have hu:IntKind.u64.wrap (m:Int)=(m:Int):=by rw [wrapU64]; omega
  have t:=st_a_0 (xb:=xb) N db m cap H 0 (m0:=(lenN m:Int)) (H0:=H) (fun kf _=>by
    rw [hu,prim_call (pol:=polSo) (g:=63) (F:=len82) (by kernel_rfl) (rs:=[.int .u64 (m:Int)]) rfl (res:=.int .i64 (lenN m:Int)) (by simp only [len82]; rw [if_pos (by omega),Int.toNat_natCast])]; rfl) hN
  have hc2:=CallsTo.shared (P:=Tp) (pol:=polSo) (g:=68) (fn:=Try.f68) (cd:=B68) (args:=[.sl db 0 m cap m 1,.func 69 [] [.ptr xb 0 0 1]]) (v:=.tuple []) (by kernel_rfl) (by kernel_rfl) (by kernel_rfl) (by kernel_rfl) t (by kernel_rfl) (by simp) (by kernel_rfl)
  rw [gc_eq _ (by simp)] at hc2
  exact ⟨o',hc2,h1,h2⟩
def ordered54:List HV → Option HV:=f1 kN fun p=>if p.2.length ≤ 900 then some (.own 1 ((ordT p.2).map encI)) else none
theorem res54:Try.f54.results.toList=[.tmp 2]:=by kernel_rfl
theorem ordered_ok:PrimOk Tp 54 ordered54:=by
  refine primOk_pure (pol:=polSo) (fn:=Try.f54) (cd:=B54) follows_mixed soundSo (by kernel_rfl) (by kernel_rfl) (fnok polSo.prim _ _ (by kernel_rfl)) (by kernel_rfl) ?_
  intro args res h
  obtain ⟨⟨n,l⟩,rfl,hq⟩:=f1_inv h
  split at hq
  case isFalse=>cases hq
  rename_i hl
  simp only at hl
  cases hq
  have a:=od_a_0 0 n (l.map encT)
  have b:=od_b_0 0 n (l.map encT) (y3:=Ud) (y4:=Ud) (y7:=Ud) (y8:=Ud)
  have c:=od_c_0 0 n (l.map encT) 0 [] (y4:=Ud) (y7:=Ud) (y8:=Ud)
  rw [List.length_map] at c
  have r:=count (E:=fun i=>(env54 (encN n l) (.ptr 0 0 0 1) (.imm .lit 1 []) (.sl 1 0 i none i 1) Ud (.int .i64 (l.length:Int)) (.int .i64 (i:Int)))) (Hs:=fun i=>[bN n l,bI (startT i)]) l.length
    (E0:=fun i=>(env54 (encN n l) (.ptr 0 0 0 1) (.imm .lit 1 []) (.sl 1 0 (i+1) none (i+1) 1) (.int .i64 (i:Int)) (.int .i64 (l.length:Int)) (.int .i64 ((i+1:Nat):Int)))) (H1:=fun i=>[bN n l,bI (startT (i+1))])
    (fun i hi=>by
      have ap:=app_in1 (H:=[bN n l,bI (startT i)]) (b:=1) (o:=startT i) rfl (by rw [startT_len]; omega) (i:Int)
      rw [startT_len,← startT_succ] at ap
      have e:(startT i).map encI ++ [.int .i64 (i:Int)]=(startT (i+1)).map encI:=by rw [startT_succ]; simp [encI]
      have s:=od_l_0 0 n (l.map encT) i l.length i ((startT i).map encI) (y4:=Ud) (by omega) (ap.trans (by rw [e]; rfl))
      rw [wrap_succ (by omega),e] at s
      exact s) (fun i _=>by kernel_rfl) (fun i _=>gc_eq _ rfl) (od_l_1 0 n (l.map encT) l.length l.length l.length ((startT l.length).map encI) (y4:=Ud) (by omega)) (by simp) (c:=sub [1,1,0,1,0] B54) (by kernel_rfl) (fun i _=>by kernel_rfl)
  obtain ⟨o',q1,q2,q3⟩:=sort_ok (n:=n) (l:=l) (H:=[bN n l,bI (startT l.length)]) (xb:=0) (db:=1) (m:=l.length) (cap:=none) (o:=startT l.length) (by omega) (startT_len _) (by show max 0 (max 0 0) ≤ 2; decide) rfl (by omega) rfl (fun x hx=>startT_mem.1 hx)
  have ol:o'.length=l.length:=by rw [q2.length_eq,startT_len]
  obtain ⟨N,hN⟩:=q1.from
  have z:=od_z_0 N n (l.map encT) l.length [bN n l,bI (startT l.length)] (y4:=Ud) (y7:=.int .i64 (l.length:Int)) (y8:=.int .i64 (l.length:Int)) hN
  have eo:=ord_unique q2 (by rw [ol]; exact q3)
  refine ⟨_,_,_,.sl 1 0 l.length none l.length 1,sq (a) (sq (b) (sq (sq (c) (bke (c:=sub [1,1,0,1] B54) (r)) (c:=sub [1,1,0] B54)) (z) (c:=sub [1,1] B54)) (c:=sub [1] B54)) (c:=B54),by simp,by simp only [resultsV,res54]; rfl,?_⟩
  rw [← eo]
  exact res_li (b:=1) rfl ol
end Go.Proofs.Ytiejmoglooaalaa
end
