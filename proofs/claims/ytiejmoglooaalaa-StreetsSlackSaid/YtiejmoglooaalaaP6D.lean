/- A part of the proof. -/
import Derived.Test.YtiejmoglooaalaaP6C
set_option linter.unusedVariables false
set_option linter.unusedSimpArgs false
set_option linter.unnecessarySimpa false
section
open Go Go.HL
namespace Go.Proofs.Ytiejmoglooaalaa
set_option maxRecDepth 100000
open Go.Proofs.Try renaming prog → Tp
open Go.HL.HV renaming undef → Ud
section
variable {F:FuncId → Option (List HV → Option HV)}
noncomputable def B28:Code:=Try.f28.body.getD .skip
abbrev env28 (v0 v1 v2 v6 v7 v8:HV):Env:=[(0,v0),(1,v1),(2,v2),(6,v6),(7,v7),(8,v8)]
theorem xt_a_0 (n:Int) (ls la:List HV) :RunsTo Tp (plF F) 28 (sub [0] B28) [(0,.i n),(1,.imm .arg 3 ls),(2,.a la)] [] .normal ((plF F).keys 28) (env28 (.i n) (.imm .arg 3 ls) (.a la) (.bool false) Ud Ud) [] :=
  RunsTo.hin 0 60 [] fun kf hk=>⟨_,by kernel_rfl,.nil⟩
theorem xt_b_0 (n:Int) (ls la:List HV) (H:Heap) {y7 y8:HV}:RunsTo Tp (plF F) 28 (sub [1,0,0] B28) (env28 (.i n) (.imm .arg 3 ls) (.a la) (.bool false) y7 y8) H .normal ((plF F).keys 28) (env28 (.i n) (.imm .arg 3 ls) (.a la) (.bool false) (.i 0) y8) H :=
  RunsTo.hin 0 60 [] fun kf hk=>⟨_,by kernel_rfl,.nil⟩
theorem xt_l_0 (n:Int) (ls la:List HV) (H:Heap) (i:Nat) (x z:Int) {y8:HV}(g0:(i:Int) < (la.length:Int)) (g1:idxV Tp 24 (.a la) (.i (i:Int))=some (.vptr (.i x))) (g2:x < 0):RunsTo Tp (plF F) 28 (sub [1,0,1,0,0] B28) (env28 (.i n) (.imm .arg 3 ls) (.a la) (.bool false) (.i (i:Int)) y8) H .ret ((plF F).keys 28) (env28 (.i n) (.imm .arg 3 ls) (.a la) (.bool false) (.i (i:Int)) y8) H :=
  RunsTo.hin 0 60 [⟨2,3,.bool true,H⟩,⟨4,2,.vptr (.i x),H⟩,⟨4,4,.bool true,H⟩] fun kf hk=>⟨_,by kernel_rfl,(oB H (decide_eq_true g0) (oP H g1 (oB H (decide_eq_true g2) .nil)))⟩
theorem xt_l_1 (n:Int) (ls la:List HV) (H:Heap) (i:Nat) (x z:Int) {y8:HV}(g0:(i:Int) < (la.length:Int)) (g1:idxV Tp 24 (.a la) (.i (i:Int))=some (.vptr (.i x))) (g2:¬ (x < 0)) (g3:idxV Tp 24 (.a la) (.i (i:Int))=some (.vptr (.i x))) (g4:(ls.length:Int) ≤ x):RunsTo Tp (plF F) 28 (sub [1,0,1,0,0] B28) (env28 (.i n) (.imm .arg 3 ls) (.a la) (.bool false) (.i (i:Int)) y8) H .ret ((plF F).keys 28) (env28 (.i n) (.imm .arg 3 ls) (.a la) (.bool false) (.i (i:Int)) y8) H :=
  RunsTo.hin 0 60 [⟨2,3,.bool true,H⟩,⟨4,2,.vptr (.i x),H⟩,⟨4,4,.bool false,H⟩,⟨4,8,.vptr (.i x),H⟩,⟨4,12,.bool true,H⟩] fun kf hk=>⟨_,by kernel_rfl,(oB H (decide_eq_true g0) (oP H g1 (oB H (decide_eq_false g2) (oP H g3 (oB H (decide_eq_true g4) .nil)))))⟩
theorem xt_l_2 (n:Int) (ls la:List HV) (H:Heap) (i:Nat) (x z:Int) {y8:HV}(g0:(i:Int) < (la.length:Int)) (g1:idxV Tp 24 (.a la) (.i (i:Int))=some (.vptr (.i x))) (g2:¬ (x < 0)) (g3:idxV Tp 24 (.a la) (.i (i:Int))=some (.vptr (.i x))) (g4:¬ ((ls.length:Int) ≤ x)) (g5:0 < (i:Int)) (g6:idxV Tp 24 (.a la) (.i (IntKind.i64.wrap ((i:Int) - 1)))=some (.vptr (.i z))) (g7:idxV Tp 24 (.a la) (.i (i:Int))=some (.vptr (.i x))) (g8:x ≤ z):RunsTo Tp (plF F) 28 (sub [1,0,1,0,0] B28) (env28 (.i n) (.imm .arg 3 ls) (.a la) (.bool false) (.i (i:Int)) y8) H .ret ((plF F).keys 28) (env28 (.i n) (.imm .arg 3 ls) (.a la) (.bool false) (.i (i:Int)) y8) H :=
  RunsTo.hin 0 60 [⟨2,3,.bool true,H⟩,⟨4,2,.vptr (.i x),H⟩,⟨4,4,.bool false,H⟩,⟨4,8,.vptr (.i x),H⟩,⟨4,12,.bool false,H⟩,⟨4,16,.bool true,H⟩,⟨4,21,.vptr (.i z),H⟩,⟨4,25,.vptr (.i x),H⟩,⟨4,27,.bool true,H⟩] fun kf hk=>⟨_,by kernel_rfl,(oB H (decide_eq_true g0) (oP H g1 (oB H (decide_eq_false g2) (oP H g3 (oB H (decide_eq_false g4) (oB H (decide_eq_true g5) (oP H g6 (oP H g7 (oB H (decide_eq_true g8) .nil)))))))))⟩
theorem xt_l_3 (n:Int) (ls la:List HV) (H:Heap) (i:Nat) (x z:Int) {y8:HV}(g0:(i:Int) < (la.length:Int)) (g1:idxV Tp 24 (.a la) (.i (i:Int))=some (.vptr (.i x))) (g2:¬ (x < 0)) (g3:idxV Tp 24 (.a la) (.i (i:Int))=some (.vptr (.i x))) (g4:¬ ((ls.length:Int) ≤ x)) (g5:0 < (i:Int)) (g6:idxV Tp 24 (.a la) (.i (IntKind.i64.wrap ((i:Int) - 1)))=some (.vptr (.i z))) (g7:idxV Tp 24 (.a la) (.i (i:Int))=some (.vptr (.i x))) (g8:¬ (x ≤ z)):RunsTo Tp (plF F) 28 (sub [1,0,1,0,0] B28) (env28 (.i n) (.imm .arg 3 ls) (.a la) (.bool false) (.i (i:Int)) y8) H .normal ((plF F).keys 28) (env28 (.i n) (.imm .arg 3 ls) (.a la) (.bool false) (.i (IntKind.i64.wrap ((i:Int)+1))) y8) H :=
  RunsTo.hin 0 60 [⟨2,3,.bool true,H⟩,⟨4,2,.vptr (.i x),H⟩,⟨4,4,.bool false,H⟩,⟨4,8,.vptr (.i x),H⟩,⟨4,12,.bool false,H⟩,⟨4,16,.bool true,H⟩,⟨4,21,.vptr (.i z),H⟩,⟨4,25,.vptr (.i x),H⟩,⟨4,27,.bool false,H⟩] fun kf hk=>⟨_,by kernel_rfl,(oB H (decide_eq_true g0) (oP H g1 (oB H (decide_eq_false g2) (oP H g3 (oB H (decide_eq_false g4) (oB H (decide_eq_true g5) (oP H g6 (oP H g7 (oB H (decide_eq_false g8) .nil)))))))))⟩
theorem xt_l_4 (n:Int) (ls la:List HV) (H:Heap) (i:Nat) (x z:Int) {y8:HV}(g0:(i:Int) < (la.length:Int)) (g1:idxV Tp 24 (.a la) (.i (i:Int))=some (.vptr (.i x))) (g2:¬ (x < 0)) (g3:idxV Tp 24 (.a la) (.i (i:Int))=some (.vptr (.i x))) (g4:¬ ((ls.length:Int) ≤ x)) (g5:¬ (0 < (i:Int))):RunsTo Tp (plF F) 28 (sub [1,0,1,0,0] B28) (env28 (.i n) (.imm .arg 3 ls) (.a la) (.bool false) (.i (i:Int)) y8) H .normal ((plF F).keys 28) (env28 (.i n) (.imm .arg 3 ls) (.a la) (.bool false) (.i (IntKind.i64.wrap ((i:Int)+1))) y8) H :=
  RunsTo.hin 0 60 [⟨2,3,.bool true,H⟩,⟨4,2,.vptr (.i x),H⟩,⟨4,4,.bool false,H⟩,⟨4,8,.vptr (.i x),H⟩,⟨4,12,.bool false,H⟩,⟨4,16,.bool false,H⟩] fun kf hk=>⟨_,by kernel_rfl,(oB H (decide_eq_true g0) (oP H g1 (oB H (decide_eq_false g2) (oP H g3 (oB H (decide_eq_false g4) (oB H (decide_eq_false g5) .nil))))))⟩
theorem xt_l_5 (n:Int) (ls la:List HV) (H:Heap) (i:Nat) (x z:Int) {y8:HV}(g0:¬ ((i:Int) < (la.length:Int))):RunsTo Tp (plF F) 28 (sub [1,0,1,0,0] B28) (env28 (.i n) (.imm .arg 3 ls) (.a la) (.bool false) (.i (i:Int)) y8) H (.exit 0) ((plF F).keys 28) (env28 (.i n) (.imm .arg 3 ls) (.a la) (.bool false) (.i (i:Int)) y8) H :=
  RunsTo.hin 0 60 [⟨2,3,.bool false,H⟩] fun kf hk=>⟨_,by kernel_rfl,(oB H (decide_eq_false g0) .nil)⟩
theorem xt_d_0 (n:Int) (ls la:List HV) (H:Heap) (sb k gb c:Nat) {y7 y8:HV} {H0:Heap} (g0:∀ kf,callN Tp (plF F) (kf+1) 50 [.i n,.imm .arg 3 ls,.a la] H=some (.tuple [.s sb k,.s gb c],H0)):RunsTo Tp (plF F) 28 (sub [1,1,0] B28) (env28 (.i n) (.imm .arg 3 ls) (.a la) (.bool false) y7 y8) H .normal ((plF F).keys 28) (env28 (.i n) (.imm .arg 3 ls) (.a la) (.bool false) y7 (.s sb k)) H0 :=
  RunsTo.hin 0 60 [⟨6,3,.tuple [.s sb k,.s gb c],H0⟩] fun kf hk=>⟨_,by kernel_rfl,(oC (g0 kf) .nil)⟩
theorem xt_z_0 (n:Int) (ls la:List HV) (H:Heap) (sb k:Nat) {y7:HV}(g0:(la.length:Int)=IntKind.i64.wrap (n - 1)) (g1:(k:Int)=IntKind.i64.wrap (n - 1)):RunsTo Tp (plF F) 28 (sub [1,1,1] B28) (env28 (.i n) (.imm .arg 3 ls) (.a la) (.bool false) y7 (.s sb k)) H .ret ((plF F).keys 28) (env28 (.i n) (.imm .arg 3 ls) (.a la) (.bool true) y7 (.s sb k)) H :=
  RunsTo.hin 0 60 [⟨7,4,.bool true,H⟩,⟨7,10,.bool true,H⟩] fun kf hk=>⟨_,by kernel_rfl,(oB H (decide_eq_true g0) (oB H (decide_eq_true g1) .nil))⟩
theorem xt_z_1 (n:Int) (ls la:List HV) (H:Heap) (sb k:Nat) {y7:HV}(g0:(la.length:Int)=IntKind.i64.wrap (n - 1)) (g1:¬ ((k:Int)=IntKind.i64.wrap (n - 1))):RunsTo Tp (plF F) 28 (sub [1,1,1] B28) (env28 (.i n) (.imm .arg 3 ls) (.a la) (.bool false) y7 (.s sb k)) H .ret ((plF F).keys 28) (env28 (.i n) (.imm .arg 3 ls) (.a la) (.bool false) y7 (.s sb k)) H :=
  RunsTo.hin 0 60 [⟨7,4,.bool true,H⟩,⟨7,10,.bool false,H⟩] fun kf hk=>⟨_,by kernel_rfl,(oB H (decide_eq_true g0) (oB H (decide_eq_false g1) .nil))⟩
theorem xt_z_2 (n:Int) (ls la:List HV) (H:Heap) (sb k:Nat) {y7:HV}(g0:¬ ((la.length:Int)=IntKind.i64.wrap (n - 1))):RunsTo Tp (plF F) 28 (sub [1,1,1] B28) (env28 (.i n) (.imm .arg 3 ls) (.a la) (.bool false) y7 (.s sb k)) H .ret ((plF F).keys 28) (env28 (.i n) (.imm .arg 3 ls) (.a la) (.bool false) y7 (.s sb k)) H :=
  RunsTo.hin 0 60 [⟨7,4,.bool false,H⟩] fun kf hk=>⟨_,by kernel_rfl,(oB H (decide_eq_false g0) .nil)⟩
noncomputable def B36:Code:=Try.f36.body.getD .skip
abbrev env36 (v0 v1 v2 v6 v7 v8 v9:HV):Env:=[(0,v0),(1,v1),(2,v2),(6,v6),(7,v7),(8,v8),(9,v9)]
theorem xs2_a_0 (la:List HV) (o p:Int) :RunsTo Tp (plF F) 36 (sub [0] B36) [(0,.a la),(1,.i o),(2,.i p)] [] .normal ((plF F).keys 36) (env36 (.a la) (.i o) (.i p) (.imm .lit 1 []) Ud Ud Ud) [] :=
  RunsTo.hin 0 60 [] fun kf hk=>⟨_,by kernel_rfl,.nil⟩
theorem xs2_b_0 (la:List HV) (o p:Int) (H:Heap) {y7 y8 y9:HV} {v0:HV} {H0:Heap} (g0:some (HV.sl H.length 0 0 none 0 1,H ++ [Blk.b []])=some (v0,H0)):RunsTo Tp (plF F) 36 (sub [1,0] B36) (env36 (.a la) (.i o) (.i p) (.imm .lit 1 []) y7 y8 y9) H .normal ((plF F).keys 36) (env36 (.a la) (.i o) (.i p) (.imm .lit 1 []) v0 y8 y9) H0 :=
  RunsTo.hin 0 60 [⟨1,0,v0,H0⟩] fun kf hk=>⟨_,by kernel_rfl,(oC (g0) .nil)⟩
theorem xs2_c_0 (la:List HV) (o p:Int) (H:Heap) (ob m:Nat) {y8 y9:HV}:RunsTo Tp (plF F) 36 (sub [1,1,0] B36) (env36 (.a la) (.i o) (.i p) (.imm .lit 1 []) (.s ob m) y8 y9) H .normal ((plF F).keys 36) (env36 (.a la) (.i o) (.i p) (.imm .lit 1 []) (.s ob m) (.bool false) y9) H :=
  RunsTo.hin 0 60 [] fun kf hk=>⟨_,by kernel_rfl,.nil⟩
theorem xs2_d_0 (la:List HV) (o p:Int) (H:Heap) (ob m:Nat) {y9:HV}:RunsTo Tp (plF F) 36 (sub [1,1,1,0,0] B36) (env36 (.a la) (.i o) (.i p) (.imm .lit 1 []) (.s ob m) (.bool false) y9) H .normal ((plF F).keys 36) (env36 (.a la) (.i o) (.i p) (.imm .lit 1 []) (.s ob m) (.bool false) (.i 0)) H :=
  RunsTo.hin 0 60 [] fun kf hk=>⟨_,by kernel_rfl,.nil⟩
theorem xs2_lf_0 (la:List HV) (o p:Int) (H:Heap) (ob m i:Nat) (x:Int) {H0:Heap} {v0:HV} (g0:(i:Int) < (la.length:Int)) (g1:idxV Tp 24 (.a la) (.i (i:Int))=some (.vptr (.i x))) (g2:p < x) (g3:appV H 1 8 (.s ob m) [.i p]=some (v0,H0)) (g4:idxV Tp 24 (.a la) (.i (i:Int))=some (.vptr (.i x))) (g5:x=o):RunsTo Tp (plF F) 36 (sub [1,1,1,0,1,0,0] B36) (env36 (.a la) (.i o) (.i p) (.imm .lit 1 []) (.s ob m) (.bool false) (.i (i:Int))) H .normal ((plF F).keys 36) (env36 (.a la) (.i o) (.i p) (.imm .lit 1 []) v0 (.bool true) (.i (IntKind.i64.wrap ((i:Int)+1)))) H0 :=
  RunsTo.hin 0 60 [⟨4,3,.bool true,H⟩,⟨6,5,.vptr (.i x),H⟩,⟨6,8,.bool true,H⟩,⟨7,3,v0,H0⟩,⟨9,2,.vptr (.i x),H0⟩,⟨9,5,.bool false,H0⟩] fun kf hk=>⟨_,by kernel_rfl,(oB H (decide_eq_true g0) (oP H g1 (oB H (decide_eq_true g2) (oC (g3) (oP H0 g4 (oB H0 (congrArg not (decide_eq_true g5)) .nil))))))⟩
theorem xs2_lf_1 (la:List HV) (o p:Int) (H:Heap) (ob m i:Nat) (x:Int) {H0:Heap} {v0:HV} {H1:Heap} {v1:HV} (g0:(i:Int) < (la.length:Int)) (g1:idxV Tp 24 (.a la) (.i (i:Int))=some (.vptr (.i x))) (g2:p < x) (g3:appV H 1 8 (.s ob m) [.i p]=some (v0,H0)) (g4:idxV Tp 24 (.a la) (.i (i:Int))=some (.vptr (.i x))) (g5:¬ (x=o)) (g6:idxV Tp 24 (.a la) (.i (i:Int))=some (.vptr (.i x))) (g7:appV H0 1 8 (v0) [.i x]=some (v1,H1)):RunsTo Tp (plF F) 36 (sub [1,1,1,0,1,0,0] B36) (env36 (.a la) (.i o) (.i p) (.imm .lit 1 []) (.s ob m) (.bool false) (.i (i:Int))) H .normal ((plF F).keys 36) (env36 (.a la) (.i o) (.i p) (.imm .lit 1 []) v1 (.bool true) (.i (IntKind.i64.wrap ((i:Int)+1)))) H1 :=
  RunsTo.hin 0 60 [⟨4,3,.bool true,H⟩,⟨6,5,.vptr (.i x),H⟩,⟨6,8,.bool true,H⟩,⟨7,3,v0,H0⟩,⟨9,2,.vptr (.i x),H0⟩,⟨9,5,.bool true,H0⟩,⟨10,3,.vptr (.i x),H0⟩,⟨10,6,v1,H1⟩] fun kf hk=>⟨_,by kernel_rfl,(oB H (decide_eq_true g0) (oP H g1 (oB H (decide_eq_true g2) (oC (g3) (oP H0 g4 (oB H0 (congrArg not (decide_eq_false g5)) (oP H0 g6 (oC (g7) .nil))))))))⟩
theorem xs2_lf_2 (la:List HV) (o p:Int) (H:Heap) (ob m i:Nat) (x:Int)(g0:(i:Int) < (la.length:Int)) (g1:idxV Tp 24 (.a la) (.i (i:Int))=some (.vptr (.i x))) (g2:¬ (p < x)) (g3:idxV Tp 24 (.a la) (.i (i:Int))=some (.vptr (.i x))) (g4:x=o):RunsTo Tp (plF F) 36 (sub [1,1,1,0,1,0,0] B36) (env36 (.a la) (.i o) (.i p) (.imm .lit 1 []) (.s ob m) (.bool false) (.i (i:Int))) H .normal ((plF F).keys 36) (env36 (.a la) (.i o) (.i p) (.imm .lit 1 []) (.s ob m) (.bool false) (.i (IntKind.i64.wrap ((i:Int)+1)))) H :=
  RunsTo.hin 0 60 [⟨4,3,.bool true,H⟩,⟨6,5,.vptr (.i x),H⟩,⟨6,8,.bool false,H⟩,⟨9,2,.vptr (.i x),H⟩,⟨9,5,.bool false,H⟩] fun kf hk=>⟨_,by kernel_rfl,(oB H (decide_eq_true g0) (oP H g1 (oB H (decide_eq_false g2) (oP H g3 (oB H (congrArg not (decide_eq_true g4)) .nil)))))⟩
theorem xs2_lf_3 (la:List HV) (o p:Int) (H:Heap) (ob m i:Nat) (x:Int) {H0:Heap} {v0:HV} (g0:(i:Int) < (la.length:Int)) (g1:idxV Tp 24 (.a la) (.i (i:Int))=some (.vptr (.i x))) (g2:¬ (p < x)) (g3:idxV Tp 24 (.a la) (.i (i:Int))=some (.vptr (.i x))) (g4:¬ (x=o)) (g5:idxV Tp 24 (.a la) (.i (i:Int))=some (.vptr (.i x))) (g6:appV H 1 8 (.s ob m) [.i x]=some (v0,H0)):RunsTo Tp (plF F) 36 (sub [1,1,1,0,1,0,0] B36) (env36 (.a la) (.i o) (.i p) (.imm .lit 1 []) (.s ob m) (.bool false) (.i (i:Int))) H .normal ((plF F).keys 36) (env36 (.a la) (.i o) (.i p) (.imm .lit 1 []) v0 (.bool false) (.i (IntKind.i64.wrap ((i:Int)+1)))) H0 :=
  RunsTo.hin 0 60 [⟨4,3,.bool true,H⟩,⟨6,5,.vptr (.i x),H⟩,⟨6,8,.bool false,H⟩,⟨9,2,.vptr (.i x),H⟩,⟨9,5,.bool true,H⟩,⟨10,3,.vptr (.i x),H⟩,⟨10,6,v0,H0⟩] fun kf hk=>⟨_,by kernel_rfl,(oB H (decide_eq_true g0) (oP H g1 (oB H (decide_eq_false g2) (oP H g3 (oB H (congrArg not (decide_eq_false g4)) (oP H g5 (oC (g6) .nil)))))))⟩
theorem xs2_lf_4 (la:List HV) (o p:Int) (H:Heap) (ob m i:Nat) (x:Int)(g0:¬ ((i:Int) < (la.length:Int))):RunsTo Tp (plF F) 36 (sub [1,1,1,0,1,0,0] B36) (env36 (.a la) (.i o) (.i p) (.imm .lit 1 []) (.s ob m) (.bool false) (.i (i:Int))) H (.exit 0) ((plF F).keys 36) (env36 (.a la) (.i o) (.i p) (.imm .lit 1 []) (.s ob m) (.bool false) (.i (i:Int))) H :=
  RunsTo.hin 0 60 [⟨4,3,.bool false,H⟩] fun kf hk=>⟨_,by kernel_rfl,(oB H (decide_eq_false g0) .nil)⟩
theorem xs2_lt_0 (la:List HV) (o p:Int) (H:Heap) (ob m i:Nat) (x:Int)(g0:(i:Int) < (la.length:Int)) (g1:idxV Tp 24 (.a la) (.i (i:Int))=some (.vptr (.i x))) (g2:x=o):RunsTo Tp (plF F) 36 (sub [1,1,1,0,1,0,0] B36) (env36 (.a la) (.i o) (.i p) (.imm .lit 1 []) (.s ob m) (.bool true) (.i (i:Int))) H .normal ((plF F).keys 36) (env36 (.a la) (.i o) (.i p) (.imm .lit 1 []) (.s ob m) (.bool true) (.i (IntKind.i64.wrap ((i:Int)+1)))) H :=
  RunsTo.hin 0 60 [⟨4,3,.bool true,H⟩,⟨9,2,.vptr (.i x),H⟩,⟨9,5,.bool false,H⟩] fun kf hk=>⟨_,by kernel_rfl,(oB H (decide_eq_true g0) (oP H g1 (oB H (congrArg not (decide_eq_true g2)) .nil)))⟩
theorem xs2_lt_1 (la:List HV) (o p:Int) (H:Heap) (ob m i:Nat) (x:Int) {H0:Heap} {v0:HV} (g0:(i:Int) < (la.length:Int)) (g1:idxV Tp 24 (.a la) (.i (i:Int))=some (.vptr (.i x))) (g2:¬ (x=o)) (g3:idxV Tp 24 (.a la) (.i (i:Int))=some (.vptr (.i x))) (g4:appV H 1 8 (.s ob m) [.i x]=some (v0,H0)):RunsTo Tp (plF F) 36 (sub [1,1,1,0,1,0,0] B36) (env36 (.a la) (.i o) (.i p) (.imm .lit 1 []) (.s ob m) (.bool true) (.i (i:Int))) H .normal ((plF F).keys 36) (env36 (.a la) (.i o) (.i p) (.imm .lit 1 []) v0 (.bool true) (.i (IntKind.i64.wrap ((i:Int)+1)))) H0 :=
  RunsTo.hin 0 60 [⟨4,3,.bool true,H⟩,⟨9,2,.vptr (.i x),H⟩,⟨9,5,.bool true,H⟩,⟨10,3,.vptr (.i x),H⟩,⟨10,6,v0,H0⟩] fun kf hk=>⟨_,by kernel_rfl,(oB H (decide_eq_true g0) (oP H g1 (oB H (congrArg not (decide_eq_false g2)) (oP H g3 (oC (g4) .nil)))))⟩
theorem xs2_lt_2 (la:List HV) (o p:Int) (H:Heap) (ob m i:Nat) (x:Int)(g0:¬ ((i:Int) < (la.length:Int))):RunsTo Tp (plF F) 36 (sub [1,1,1,0,1,0,0] B36) (env36 (.a la) (.i o) (.i p) (.imm .lit 1 []) (.s ob m) (.bool true) (.i (i:Int))) H (.exit 0) ((plF F).keys 36) (env36 (.a la) (.i o) (.i p) (.imm .lit 1 []) (.s ob m) (.bool true) (.i (i:Int))) H :=
  RunsTo.hin 0 60 [⟨4,3,.bool false,H⟩] fun kf hk=>⟨_,by kernel_rfl,(oB H (decide_eq_false g0) .nil)⟩
theorem xs2_zf_0 (la:List HV) (o p:Int) (H:Heap) (ob m:Nat) {y9:HV} {H0:Heap} {v0:HV} (g0:appV H 1 8 (.s ob m) [.i p]=some (v0,H0)):RunsTo Tp (plF F) 36 (sub [1,1,1,1] B36) (env36 (.a la) (.i o) (.i p) (.imm .lit 1 []) (.s ob m) (.bool false) y9) H .ret ((plF F).keys 36) (env36 (.a la) (.i o) (.i p) v0 v0 (.bool false) y9) H0 :=
  RunsTo.hin 0 60 [⟨12,3,v0,H0⟩] fun kf hk=>⟨_,by kernel_rfl,(oC (g0) .nil)⟩
theorem xs2_zt_0 (la:List HV) (o p:Int) (H:Heap) (ob m:Nat) {y9:HV}:RunsTo Tp (plF F) 36 (sub [1,1,1,1] B36) (env36 (.a la) (.i o) (.i p) (.imm .lit 1 []) (.s ob m) (.bool true) y9) H .ret ((plF F).keys 36) (env36 (.a la) (.i o) (.i p) (.s ob m) (.s ob m) (.bool true) y9) H :=
  RunsTo.hin 0 60 [] fun kf hk=>⟨_,by kernel_rfl,.nil⟩
end
end Go.Proofs.Ytiejmoglooaalaa
end
section
open Go Go.HL
namespace Go.Proofs.Ytiejmoglooaalaa
open Go.Proofs.Try renaming prog → Tp
open Go.HL.HV renaming undef → Ud
def okA (m:Nat) (t:List Int) (i:Nat):Bool:=decide ((0 ≤ t.getD i 0∧t.getD i 0 < (m:Int))∧(i=0 ∨ t.getD (i - 1) 0 < t.getD i 0))
def ascT (m:Nat) (t:List Int):Bool:=(fN (fun i=>!okA m t i) t.length 0).isNone
def isT (n:Int) (l:List St) (t:List Int):Bool:=ascT l.length t && (decide ((t.length:Int)=n - 1) && decide (((selT l t).length:Int)=n - 1))
def rtree28:List HV → Option HV:=f3 kI kS kL fun n l t=>if (0 ≤ n∧n ≤ 16)∧endN n l=true∧t.length ≤ 500∧l.length ≤ 500 then some (.bool (isT n l t)) else none
theorem res28:Try.f28.results.toList=[.tmp 6]:=by kernel_rfl
def prRt:FuncId → Option (List HV → Option HV):=fun g=>if g == 50 then some taken50 else none
theorem soundRt (n:Nat):CallSound Tp (callN Tp (plF prRt) n):=sound_prim _ (fun g f h=>by
  unfold prRt at h
  split at h
  · rename_i hg; cases h; rw [eq_of_beq hg]; exact taken_ok
  · cases h) n
theorem ascT_in {m:Nat} {t:List Int} (h:ascT m t=true):inR m t=true:=by
  refine inR_iff.2 fun k hk=>?_
  obtain ⟨j,hj,rfl⟩:=List.getElem_of_mem hk
  have hn:fN (fun i=>!okA m t i) t.length 0=none:=by
    unfold ascT at h
    cases hf:fN (fun i=>!okA m t i) t.length 0 with
    | none=>rfl
    | some _=>rw [hf] at h; cases h
  have:=fN_none hn j (Nat.zero_le _) (by omega)
  simp only [Bool.not_eq_false'] at this
  have h2:=(of_decide_eq_true this).1
  rwa [getD_at hj] at h2
theorem rtree_ok:PrimOk Tp 28 rtree28:=by
  refine primOk_pure (pol:=plF prRt) (fn:=Try.f28) (cd:=B28) follows_mixed soundRt (by kernel_rfl) (by kernel_rfl) (fnok prRt _ _ (by kernel_rfl)) (by kernel_rfl) ?_
  intro args res h
  obtain ⟨n,l,t,rfl,hq⟩:=f3_inv h
  split at hq
  case isFalse=>cases hq
  rename_i hc
  obtain ⟨⟨n0,n1⟩,he,htl,hll⟩:=hc
  cases hq
  have a:=xt_a_0 (F:=prRt) n (l.map encT) (t.map encI)
  have b:=xt_b_0 (F:=prRt) n (l.map encT) (t.map encI) [] (y7:=Ud) (y8:=Ud)
  have lm:((t.map encI).length:Int)=(t.length:Int):=by rw [List.length_map]
  have ll:((l.map encT).length:Int)=(l.length:Int):=by rw [List.length_map]
  have pass:∀ i,i < t.length → okA l.length t i=true → RunsTo Tp (plF prRt) 28 (sub [1,0,1,0,0] B28) ((env28 (.int .i64 n) (.imm .arg 3 (l.map encT)) (.imm .arg 1 (t.map encI)) (.bool false) (.int .i64 ((i:Nat):Int)) Ud)) [] .normal ((plF prRt).keys 28) ((env28 (.int .i64 n) (.imm .arg 3 (l.map encT)) (.imm .arg 1 (t.map encI)) (.bool false) (.int .i64 ((i+1:Nat):Int)) Ud)) []:=fun i hi ho=>by
    obtain ⟨⟨h1,h2⟩,h3⟩:=of_decide_eq_true ho
    by_cases hz:i=0
    · have s:=xt_l_4 (F:=prRt) n (l.map encT) (t.map encI) [] i (t.getD i 0) 0 (y8:=Ud) (by omega) (gx hi) (by omega) (gx hi) (by omega) (by omega)
      rw [wrap_succ (by omega)] at s
      exact s
    · have h3:=h3.resolve_left hz
      have g:=gx (l:=t) (y:=i - 1) (by omega)
      rw [← wrap_pred (j:=i) (by omega) (by omega)] at g
      have s:=xt_l_3 (F:=prRt) n (l.map encT) (t.map encI) [] i (t.getD i 0) (t.getD (i - 1) 0) (y8:=Ud) (by omega) (gx hi) (by omega) (gx hi) (by omega) (by omega) g (gx hi) (by omega)
      rw [wrap_succ (by omega)] at s
      exact s
  cases hf:fN (fun i=>!okA l.length t i) t.length 0 with
  | some m =>
    obtain ⟨_,h1,h2,h3⟩:=fN_some hf
    have hm:m < t.length:=by omega
    have hA:ascT l.length t=false:=by rw [ascT,hf]; rfl
    have ho:¬ ((0 ≤ t.getD m 0∧t.getD m 0 < (l.length:Int))∧(m=0 ∨ t.getD (m - 1) 0 < t.getD m 0)):=by
      have:okA l.length t m=false:=by simpa using h2
      exact of_decide_eq_false this
    have out:∃ E',RunsTo Tp (plF prRt) 28 (sub [1,0,1,0,0] B28) ((env28 (.int .i64 n) (.imm .arg 3 (l.map encT)) (.imm .arg 1 (t.map encI)) (.bool false) (.int .i64 ((m:Nat):Int)) Ud)) [] .ret ((plF prRt).keys 28) E' []∧E'.get 6=.bool false:=by
      by_cases k1:t.getD m 0 < 0
      · exact ⟨_,xt_l_0 (F:=prRt) n (l.map encT) (t.map encI) [] m (t.getD m 0) 0 (y8:=Ud) (by omega) (gx hm) k1,rfl⟩
      by_cases k2:(l.length:Int) ≤ t.getD m 0
      · exact ⟨_,xt_l_1 (F:=prRt) n (l.map encT) (t.map encI) [] m (t.getD m 0) 0 (y8:=Ud) (by omega) (gx hm) k1 (gx hm) (by omega),rfl⟩
      have hm0:m ≠ 0:=fun c=>ho ⟨by omega,.inl c⟩
      have hm1:¬ t.getD (m - 1) 0 < t.getD m 0:=fun c=>ho ⟨by omega,.inr c⟩
      have g:=gx (l:=t) (y:=m - 1) (by omega)
      rw [← wrap_pred (j:=m) (by omega) (by omega)] at g
      exact ⟨_,xt_l_2 (F:=prRt) n (l.map encT) (t.map encI) [] m (t.getD m 0) (t.getD (m - 1) 0) (y8:=Ud) (by omega) (gx hm) k1 (gx hm) (by omega) (by omega) g (gx hm) (by omega),rfl⟩
    obtain ⟨E',o1,o2⟩:=out
    have r:=count (pol':=plF prRt) (f:=28) (E:=fun i=>(env28 (.int .i64 n) (.imm .arg 3 (l.map encT)) (.imm .arg 1 (t.map encI)) (.bool false) (.int .i64 ((i:Nat):Int)) Ud)) (Hs:=fun _=>[]) m (fun i hi=>pass i (by omega) (by have:=h3 i (Nat.zero_le _) hi; simpa using this)) (fun i _=>by kernel_rfl) (fun i _=>gc_eq _ rfl) o1 (by simp) (c:=sub [1,0,1,0] B28) (by kernel_rfl) (fun i _=>by kernel_rfl)
    refine ⟨_,_,_,.bool false,sq (a) (sqo (sq (b) (RunsTo.block_ret (i:=0) (c:=sub [1,0,1] B28) (r) (by kernel_rfl)) (c:=sub [1,0] B28)) (c:=sub [1] B28) (b:=sub [1,1] B28)) (c:=B28),by simp,by simp only [resultsV,res28,mapO,resultV,o2],?_⟩
    rw [isT,hA]; rfl
  | none =>
    have h3:=fN_none hf
    have hA:ascT l.length t=true:=by rw [ascT,hf]; rfl
    have hin:=ascT_in hA
    have r:=count (pol':=plF prRt) (f:=28) (E:=fun i=>(env28 (.int .i64 n) (.imm .arg 3 (l.map encT)) (.imm .arg 1 (t.map encI)) (.bool false) (.int .i64 ((i:Nat):Int)) Ud)) (Hs:=fun _=>[]) t.length (fun i hi=>pass i hi (by have:=h3 i (Nat.zero_le _) (by omega); simpa using this)) (fun i _=>by kernel_rfl) (fun i _=>gc_eq _ rfl) (xt_l_5 (F:=prRt) n (l.map encT) (t.map encI) [] t.length 0 0 (y8:=Ud) (by omega)) (by simp) (c:=sub [1,0,1,0] B28) (by kernel_rfl) (fun i _=>by kernel_rfl)
    have c50:=at3 (pol':=plF prRt) (g:=50) (c1:=kI) (c2:=kS) (c3:=kL) (f:=fun n l t=>if (0 ≤ n∧n ≤ 16)∧endN n l=true∧inR l.length t=true∧t.length ≤ 500∧l.length ≤ 500 then some (.tuple [.own 1 ((selT l t).map encI),.own 1 ((grpT n.toNat l t).map encI)]) else none) (H:=[]) (by kernel_rfl) (ShI _ n) (ShS_imm _ l) (ShL_imm _ t) (if_pos ⟨⟨n0,n1⟩,he,hin,htl,hll⟩)
    rw [recv_ll] at c50
    have d:=xt_d_0 (F:=prRt) n (l.map encT) (t.map encI) [] 0 (selT l t).length _ _ (y7:=.int .i64 (t.length:Int)) (y8:=Ud) c50
    have hw:IntKind.i64.wrap (n - 1)=n - 1:=wrap_id (by omega) (by omega)
    rw [isT,hA,Bool.true_and]
    by_cases k1:(t.length:Int)=n - 1
    · by_cases k2:((selT l t).length:Int)=n - 1
      · have z:=xt_z_0 (F:=prRt) n (l.map encT) (t.map encI) ([] ++ [bI (selT l t)] ++ [bI (grpT n.toNat l t)]) 0 (selT l t).length (y7:=.int .i64 (t.length:Int)) (by rw [hw]; omega) (by rw [hw]; exact k2)
        rw [decide_eq_true k1,decide_eq_true k2]
        exact ⟨_,_,_,.bool true,sq (a) (sq (sq (b) (bke (c:=sub [1,0,1] B28) (r)) (c:=sub [1,0] B28)) (sq (d) (z) (c:=sub [1,1] B28)) (c:=sub [1] B28)) (c:=B28),by simp,by simp only [resultsV,res28]; rfl,rfl⟩
      · have z:=xt_z_1 (F:=prRt) n (l.map encT) (t.map encI) ([] ++ [bI (selT l t)] ++ [bI (grpT n.toNat l t)]) 0 (selT l t).length (y7:=.int .i64 (t.length:Int)) (by rw [hw]; omega) (by rw [hw]; exact k2)
        rw [decide_eq_true k1,decide_eq_false k2]
        exact ⟨_,_,_,.bool false,sq (a) (sq (sq (b) (bke (c:=sub [1,0,1] B28) (r)) (c:=sub [1,0] B28)) (sq (d) (z) (c:=sub [1,1] B28)) (c:=sub [1] B28)) (c:=B28),by simp,by simp only [resultsV,res28]; rfl,rfl⟩
    · have z:=xt_z_2 (F:=prRt) n (l.map encT) (t.map encI) ([] ++ [bI (selT l t)] ++ [bI (grpT n.toNat l t)]) 0 (selT l t).length (y7:=.int .i64 (t.length:Int)) (by rw [hw]; omega)
      rw [decide_eq_false k1]
      exact ⟨_,_,_,.bool false,sq (a) (sq (sq (b) (bke (c:=sub [1,0,1] B28) (r)) (c:=sub [1,0] B28)) (sq (d) (z) (c:=sub [1,1] B28)) (c:=sub [1] B28)) (c:=B28),by simp,by simp only [resultsV,res28]; rfl,rfl⟩
def sw1 (p:Int) (s:List Int × Bool) (x:Int):List Int × Bool:=if s.2=false∧p < x then (s.1 ++ [p],true) else s
def swS (o p:Int) (s:List Int × Bool) (x:Int):List Int × Bool:=if x=o then sw1 p s x else ((sw1 p s x).1 ++ [x],(sw1 p s x).2)
def swF (o p:Int) (t:List Int):List Int × Bool:=t.foldl (swS o p) ([],false)
def swT (o p:Int) (t:List Int):List Int:=if (swF o p t).2=true then (swF o p t).1 else (swF o p t).1 ++ [p]
theorem swF_succ (o p:Int) (t:List Int) {i:Nat} (h:i < t.length):swF o p (t.take (i+1))=swS o p (swF o p (t.take i)) (t.getD i 0):=by
  rw [swF,take_snoc h,List.foldl_append]; rfl
theorem swp_len (o p:Int) (t:List Int):∀ i,i ≤ t.length → (swF o p (t.take i)).1.length ≤ 2 * i:=by
  intro i
  induction i with
  | zero=>intro _; simp [swF]
  | succ i ih =>
    intro hi
    have h:=ih (by omega)
    rw [swF_succ o p t (by omega),swS,sw1]
    split <;> split <;> simp <;> omega
def swapped36:List HV → Option HV:=f3 kL kI kI fun t o p=>if t.length ≤ 400 then some (.own 1 ((swT o p t).map encI)) else none
theorem res36:Try.f36.results.toList=[.tmp 6]:=by kernel_rfl
theorem swapped_ok:PrimOk Tp 36 swapped36:=by
  refine primOk_pure (pol:=plF fun _=>none) (fn:=Try.f36) (cd:=B36) follows_mixed (sound_prim (fun _=>none) (fun g f h=>by cases h)) (by kernel_rfl) (by kernel_rfl) (fnok (fun _=>none) _ _ (by kernel_rfl)) (by kernel_rfl) ?_
  intro args res h
  obtain ⟨t,o,p,rfl,hq⟩:=f3_inv h
  split at hq
  case isFalse=>cases hq
  rename_i hl
  cases hq
  have lm:((t.map encI).length:Int)=(t.length:Int):=by rw [List.length_map]
  have a:=xs2_a_0 (F:=fun _=>none) (t.map encI) o p
  have b:=xs2_b_0 (F:=fun _=>none) (t.map encI) o p [] (y7:=Ud) (y8:=Ud) (y9:=Ud) rfl
  have c:=xs2_c_0 (F:=fun _=>none) (t.map encI) o p [bI []] 0 0 (y8:=Ud) (y9:=Ud)
  have d:=xs2_d_0 (F:=fun _=>none) (t.map encI) o p [bI []] 0 0 (y9:=Ud)
  have r:=count (pol':=plF fun _=>none) (f:=36) (E:=fun i=>(env36 (.imm .arg 1 (t.map encI)) (.int .i64 o) (.int .i64 p) (.imm .lit 1 []) (.sl 0 0 (swF o p (t.take i)).1.length none (swF o p (t.take i)).1.length 1) (.bool (swF o p (t.take i)).2) (.int .i64 ((i:Nat):Int)))) (Hs:=fun i=>[bI (swF o p (t.take i)).1]) t.length (E0:=fun i=>(env36 (.imm .arg 1 (t.map encI)) (.int .i64 o) (.int .i64 p) (.imm .lit 1 []) (.sl 0 0 (swF o p (t.take (i+1))).1.length none (swF o p (t.take (i+1))).1.length 1) (.bool (swF o p (t.take (i+1))).2) (.int .i64 ((i+1:Nat):Int)))) (H1:=fun i=>[bI (swF o p (t.take (i+1))).1]) (x:=.exit 0)
    (E':=(env36 (.imm .arg 1 (t.map encI)) (.int .i64 o) (.int .i64 p) (.imm .lit 1 []) (.sl 0 0 (swF o p (t.take t.length)).1.length none (swF o p (t.take t.length)).1.length 1) (.bool (swF o p (t.take t.length)).2) (.int .i64 ((t.length:Nat):Int)))) (H':=[bI (swF o p (t.take t.length)).1])
    (fun i hi=>by
      have hs:=swF_succ o p t hi
      have hn:=swp_len o p t i (by omega)
      have g:=gx (l:=t) hi
      have app:∀ (A:List Int) (x:Int),A.length ≤ 990 → appV [bI A] 1 8 (.sl 0 0 A.length none A.length 1) [.int .i64 x]=some (.sl 0 0 (A.length+1) none (A.length+1) 1,[bI (A ++ [x])]):=fun A x hA=>app_in1 (H:=[bI A]) (b:=0) rfl hA x
      generalize t.getD i 0=x at *
      generalize hF:swF o p (t.take i)=s at *
      obtain ⟨A,D⟩:=s
      rw [hs]
      have hA:A.length ≤ 900:=by have:A.length ≤ 2 * i:=hn; omega
      have w:=wrap_succ (j:=i) (by omega)
      cases D with
      | true =>
        have e1:sw1 p (A,true) x=(A,true):=if_neg (fun h=>by cases h.1)
        by_cases c1:x=o
        · have e2:swS o p (A,true) x=(A,true):=by rw [swS,if_pos c1,e1]
          have s:=xs2_lt_0 (F:=fun _=>none) (t.map encI) o p [bI A] 0 A.length i x (by omega) g c1
          rw [w] at s; rw [e2]; exact s
        · have e2:swS o p (A,true) x=(A ++ [x],true):=by rw [swS,if_neg c1,e1]
          have s:=xs2_lt_1 (F:=fun _=>none) (t.map encI) o p [bI A] 0 A.length i x (by omega) g c1 g (app A x (by omega))
          rw [w] at s; rw [e2]; simp only [List.length_append,List.length_singleton]; exact s
      | false =>
        by_cases c0:p < x
        · have e1:sw1 p (A,false) x=(A ++ [p],true):=if_pos ⟨rfl,c0⟩
          by_cases c1:x=o
          · have e2:swS o p (A,false) x=(A ++ [p],true):=by rw [swS,if_pos c1,e1]
            have s:=xs2_lf_0 (F:=fun _=>none) (t.map encI) o p [bI A] 0 A.length i x (by omega) g c0 (app A p (by omega)) g c1
            rw [w] at s; rw [e2]; simp only [List.length_append,List.length_singleton]; exact s
          · have e2:swS o p (A,false) x=(A ++ [p] ++ [x],true):=by rw [swS,if_neg c1,e1]
            have ap2:=app (A ++ [p]) x (by rw [List.length_append,List.length_singleton]; omega)
            rw [List.length_append,List.length_singleton] at ap2
            have s:=xs2_lf_1 (F:=fun _=>none) (t.map encI) o p [bI A] 0 A.length i x (by omega) g c0 (app A p (by omega)) g c1 g ap2
            rw [w] at s; rw [e2]; simp only [List.length_append,List.length_singleton]; exact s
        · have e1:sw1 p (A,false) x=(A,false):=if_neg (fun h=>c0 h.2)
          by_cases c1:x=o
          · have e2:swS o p (A,false) x=(A,false):=by rw [swS,if_pos c1,e1]
            have s:=xs2_lf_2 (F:=fun _=>none) (t.map encI) o p [bI A] 0 A.length i x (by omega) g c0 g c1
            rw [w] at s; rw [e2]; exact s
          · have e2:swS o p (A,false) x=(A ++ [x],false):=by rw [swS,if_neg c1,e1]
            have s:=xs2_lf_3 (F:=fun _=>none) (t.map encI) o p [bI A] 0 A.length i x (by omega) g c0 g c1 g (app A x (by omega))
            rw [w] at s; rw [e2]; simp only [List.length_append,List.length_singleton]; exact s) (fun i _=>by kernel_rfl) (fun i _=>gc_eq _ rfl)
    (by
      generalize swF o p (t.take t.length)=s
      obtain ⟨A,D⟩:=s
      cases D with
      | true=>exact xs2_lt_2 (F:=fun _=>none) (t.map encI) o p [bI A] 0 A.length t.length 0 (by omega)
      | false=>exact xs2_lf_4 (F:=fun _=>none) (t.map encI) o p [bI A] 0 A.length t.length 0 (by omega)) (by simp) (c:=sub [1,1,1,0,1,0] B36) (by kernel_rfl) (fun i _=>by kernel_rfl)
  have hn:=swp_len o p t t.length (Nat.le_refl _)
  rw [List.take_length] at r hn
  rw [swT]
  generalize swF o p t=s at *
  obtain ⟨A,D⟩:=s
  have hA:A.length ≤ 900:=by have:A.length ≤ 2 * t.length:=hn; omega
  cases D with
  | true =>
    have z:=xs2_zt_0 (F:=fun _=>none) (t.map encI) o p [bI A] 0 A.length (y9:=.int .i64 (t.length:Int))
    refine ⟨_,_,_,.sl 0 0 A.length none A.length 1,sq (a) (sq (b) (sq (c) (sq (sq (d) (bke (c:=sub [1,1,1,0,1] B36) (r)) (c:=sub [1,1,1,0] B36)) (z) (c:=sub [1,1,1] B36)) (c:=sub [1,1] B36)) (c:=sub [1] B36)) (c:=B36),by simp,by simp only [resultsV,res36]; rfl,?_⟩
    exact res_li (b:=0) rfl rfl
  | false =>
    have z:=xs2_zf_0 (F:=fun _=>none) (t.map encI) o p [bI A] 0 A.length (y9:=.int .i64 (t.length:Int)) (app_in1 (H:=[bI A]) (b:=0) rfl (by omega) p)
    refine ⟨_,_,_,.sl 0 0 (A.length+1) none (A.length+1) 1,sq (a) (sq (b) (sq (c) (sq (sq (d) (bke (c:=sub [1,1,1,0,1] B36) (r)) (c:=sub [1,1,1,0] B36)) (z) (c:=sub [1,1,1] B36)) (c:=sub [1,1] B36)) (c:=sub [1] B36)) (c:=B36),by simp,by simp only [resultsV,res36]; rfl,?_⟩
    exact res_li (b:=0) (o:=A ++ [p]) rfl (by simp)
end Go.Proofs.Ytiejmoglooaalaa
end
section
open Go Go.HL
namespace Go.Proofs.Ytiejmoglooaalaa
set_option linter.unusedSectionVars false
theorem tk_snoc (l:List St) (t:List Int) (k:Int):tkT l (t ++ [k])=if (labT l t).getD (sA l k).toNat 0 ≠ (labT l t).getD (sB l k).toNat 0 then tkT l t ++ [k] else tkT l t:=by
  have a:=tkT_succ l (t ++ [k]) (i:=t.length) (by simp)
  have g0:(t ++ [k]).getD t.length 0=k:=by simp [List.getD]
  rw [List.take_of_length_le (by simp),g0,List.take_left] at a
  exact a
theorem tk_le (l:List St) (t:List Int):(tkT l t).length ≤ t.length:=ksT_len l t
theorem mem_wo {t:List Int} {v x:Int}:x ∈ wo t v ↔ x ∈ t∧x ≠ v:=by simp [wo,List.mem_filter]
theorem wo_len {t:List Int} (hn:t.Nodup) {k:Int} (hk:k ∈ t):t.length=(wo t k).length+1:=by
  have:=filter_drop1 (p:=fun _=>true) (q:=fun x=>decide (x ≠ k)) hn hk rfl (fun y _ hy=>decide_eq_true hy) (by simp)
  rw [List.filter_eq_self.2 fun _ _=>rfl] at this
  exact this
section
variable {l:List St} (he:endB l=true) {t:List Int} (ht:∀ k ∈ t,0 ≤ k∧k < (l.length:Int)) (hn:t.Nodup) (hf:(tkT l t).length=t.length)
include he ht hn hf
theorem forest_sep {k:Int} (hk:k ∈ t):(tkT l (wo t k)).length+1=t.length∧joinsT l t k k:=by
  have hm:∀ x,x ∈ t ↔ x ∈ wo t k ++ [k]:=fun x=>by
    rw [List.mem_append,mem_wo,List.mem_singleton]
    by_cases c:x=k
    · subst c; simp [hk]
    · simp [c]
  have h1:=tk_len_same he ht hm
  rw [hf,tk_snoc] at h1
  have h2:=wo_len hn hk
  have h3:=tk_le l (wo t k)
  split at h1
  · rename_i c
    rw [List.length_append,List.length_singleton] at h1
    exact ⟨h1.symm,c⟩
  · omega
theorem exch_len {k j:Int} (hk:k ∈ t) (hj:0 ≤ j∧j < (l.length:Int)) {s:List Int} (hs:∀ x,x ∈ s ↔ x ∈ wo t k ++ [j]):(tkT l s).length=t.length ↔ joinsT l t k j:=by
  have hin:∀ x ∈ wo t k ++ [j],0 ≤ x∧x < (l.length:Int):=fun x hx=>by
    rcases List.mem_append.1 hx with h | h
    · exact ht x (mem_wo.1 h).1
    · rw [List.mem_singleton.1 h]; exact hj
  have h1:=tk_len_same he (t:=s) (t':=wo t k ++ [j]) (fun x hx=>hin x ((hs x).1 hx)) hs
  have h2:=(forest_sep he ht hn hf hk).1
  rw [h1,tk_snoc]
  split
  · rename_i c
    rw [List.length_append,List.length_singleton]
    exact ⟨fun _=>c,fun _=>by omega⟩
  · rename_i c
    exact ⟨fun h=>by omega,fun h=>absurd h c⟩
end
theorem sw_inv {t:List Int} {o p:Int} (ha:t.Pairwise (· < ·)) (hp:p ∉ t):∀ i,i ≤ t.length →
    swF o p (t.take i)=(wo ((t.take i).filter fun x=>decide (x < p)) o ++ (if (t.take i).any (fun x=>decide (p < x))=true then p :: wo ((t.take i).filter fun x=>decide (p < x)) o else []),(t.take i).any fun x=>decide (p < x)):=by
  intro i
  induction i with
  | zero=>intro _; rfl
  | succ i ih =>
    intro hi
    have ih:=ih (by omega)
    have hlt:∀ y ∈ t.take i,y < t.getD i 0:=fun y hy=>by
      have h2:(t.take (i+1)).Pairwise (· < ·):=ha.sublist (List.take_sublist _ _)
      rw [take_snoc (by omega)] at h2
      exact (List.pairwise_append.1 h2).2.2 y hy _ (List.mem_singleton_self _)
    have hne:t.getD i 0 ≠ p:=fun c=>hp (c ▸ mem_getD 0 (show i < t.length by omega))
    rw [swF_succ o p t (by omega),ih,take_snoc (by omega)]
    generalize t.take i=s at *
    generalize t.getD i 0=x at *
    have wo1:∀ A:List Int,wo (A ++ [x]) o=wo A o ++ (if x=o then [] else [x]):=fun A=>by
      rw [wo,List.filter_append,wo]
      by_cases c:x=o
      · rw [if_pos c,List.filter_cons_of_neg (by simp [c])]; rfl
      · rw [if_neg c,List.filter_cons_of_pos (by simp [c])]; rfl
    rw [List.filter_append,List.filter_append,List.any_append]
    by_cases cx:p < x
    · have f1:([x].filter fun x=>decide (x < p))=[]:=by rw [List.filter_cons_of_neg (by simp; omega)]; rfl
      have f2:([x].filter fun x=>decide (p < x))=[x]:=by rw [List.filter_cons_of_pos (by simpa using cx)]; rfl
      have f3:([x].any fun x=>decide (p < x))=true:=by simp [cx]
      rw [f1,f2,f3,List.append_nil,Bool.or_true,wo1]
      by_cases cd:(s.any fun x=>decide (p < x))=true
      · rw [cd]
        by_cases co:x=o
        · simp [swS,sw1,co]
        · simp [swS,sw1,co]
      · rw [nb_false cd]
        have e:(s.filter fun x=>decide (p < x))=[]:=List.filter_eq_nil_iff.2 fun y hy hc=>cd (List.any_eq_true.2 ⟨y,hy,hc⟩)
        rw [e]
        by_cases co:x=o
        · subst co; simp [swS,sw1,cx,wo]
        · simp [swS,sw1,co,cx,wo]
    · have f1:([x].filter fun x=>decide (x < p))=[x]:=by rw [List.filter_cons_of_pos (by simp; omega)]; rfl
      have f2:([x].filter fun x=>decide (p < x))=[]:=by rw [List.filter_cons_of_neg (by simpa using cx)]; rfl
      have f3:([x].any fun x=>decide (p < x))=false:=by simp [cx]
      have cd:(s.any fun x=>decide (p < x))=false:=by
        cases c:(s.any fun x=>decide (p < x)) with
        | false=>rfl
        | true =>
          obtain ⟨y,hy,hc⟩:=List.any_eq_true.1 c
          have:=hlt y hy
          have:=of_decide_eq_true hc
          omega
      rw [f1,f2,f3,List.append_nil,Bool.or_false,wo1,cd]
      by_cases co:x=o
      · simp [swS,sw1,co]; omega
      · simp [swS,sw1,co,cx]
theorem swT_eq {t:List Int} {o p:Int} (ha:t.Pairwise (· < ·)) (hp:p ∉ t):swT o p t=wo (t.filter fun x=>decide (x < p)) o ++ p :: wo (t.filter fun x=>decide (p < x)) o:=by
  have h:=sw_inv (o:=o) ha hp t.length (Nat.le_refl _)
  rw [List.take_length] at h
  rw [swT,h]
  by_cases c:(t.any fun x=>decide (p < x))=true
  · simp only [c,if_true]
  · have e:(t.filter fun x=>decide (p < x))=[]:=List.filter_eq_nil_iff.2 fun y hy hc=>c (List.any_eq_true.2 ⟨y,hy,hc⟩)
    simp [nb_false c,e,wo]
theorem swT_mem {t:List Int} {o p:Int} (ha:t.Pairwise (· < ·)) (hp:p ∉ t) (x:Int):x ∈ swT o p t ↔ x ∈ wo t o ++ [p]:=by
  rw [swT_eq ha hp]
  simp only [List.mem_append,List.mem_cons,mem_wo,List.mem_filter,decide_eq_true_eq,List.mem_singleton,List.not_mem_nil,or_false]
  have:x ∈ t → x ≠ p:=fun h c=>hp (c ▸ h)
  by_cases c:x=p
  · subst c; simp
  · constructor
    · rintro (⟨⟨h1,_⟩,h2⟩ | h | ⟨⟨h1,_⟩,h2⟩)
      · exact .inl ⟨h1,h2⟩
      · exact .inr h
      · exact .inl ⟨h1,h2⟩
    · rintro (⟨h1,h2⟩ | h)
      · rcases Int.lt_or_gt_of_ne c with h3 | h3
        · exact .inl ⟨⟨h1,h3⟩,h2⟩
        · exact .inr (.inr ⟨⟨h1,h3⟩,h2⟩)
      · exact .inr (.inl h)
theorem swT_asc {t:List Int} {o p:Int} (ha:t.Pairwise (· < ·)) (hp:p ∉ t):(swT o p t).Pairwise (· < ·):=by
  rw [swT_eq ha hp]
  have h1:∀ q:Int → Bool,(wo (t.filter q) o).Pairwise (· < ·):=fun q=>(ha.sublist List.filter_sublist).sublist List.filter_sublist
  refine List.pairwise_append.2 ⟨h1 _,List.pairwise_cons.2 ⟨fun y hy=>?_,h1 _⟩,fun x hx y hy=>?_⟩
  · exact of_decide_eq_true (List.mem_filter.1 (mem_wo.1 hy).1).2
  · have hxp:x < p:=of_decide_eq_true (List.mem_filter.1 (mem_wo.1 hx).1).2
    rcases List.mem_cons.1 hy with h | h
    · omega
    · have:p < y:=of_decide_eq_true (List.mem_filter.1 (mem_wo.1 h).1).2
      omega
end Go.Proofs.Ytiejmoglooaalaa
end
section
open Go Go.HL
namespace Go.Proofs.Ytiejmoglooaalaa
set_option linter.unusedSectionVars false
theorem tree_nodup' (l:List St):(treeT l).Nodup:=by
  have:=tk_sublist l (ordT l) (ordT l).length (Nat.le_refl _)
  rw [List.take_length] at this
  exact this.nodup (ordT_nodup l)
theorem getD_notin' {l:List Int} (h:l.Nodup) {i:Nat} (hi:i < l.length):l.getD i 0 ∉ l.take i:=by
  intro c
  have h2:(l.take (i+1)).Nodup:=(List.take_sublist _ _).nodup h
  rw [take_snoc hi] at h2
  exact (List.nodup_append.1 h2).2.2 _ c _ (List.mem_singleton_self _) rfl
theorem tk_mono (l:List St) (t:List Int) {i:Nat}:∀ d,i+d ≤ t.length → ∀ x ∈ tkT l (t.take i),x ∈ tkT l (t.take (i+d)):=by
  intro d
  induction d with
  | zero=>intro _ x hx; exact hx
  | succ d ih =>
    intro h x hx
    have:=ih (by omega) x hx
    rw [show i+(d+1)=(i+d)+1 by omega,tkT_succ l t (by omega)]
    split
    · exact List.mem_append_left _ this
    · exact this
theorem tk_mono_all (l:List St) (t:List Int) {i:Nat} (hi:i ≤ t.length):∀ x ∈ tkT l (t.take i),x ∈ tkT l t:=fun x hx=>by
  have:=tk_mono l t (i:=i) (t.length - i) (by omega) x hx
  rwa [show i+(t.length - i)=t.length by omega,List.take_length] at this
theorem nodup_len:∀ {a b:List Int},a.Nodup → b.Nodup → (∀ x,x ∈ a ↔ x ∈ b) → a.length=b.length
  | [],b,_,_,h=>by
    have:b=[]:=List.eq_nil_iff_forall_not_mem.2 fun x hx=>by cases (h x).2 hx
    rw [this]
  | x :: a,b,ha,hb,h=>by
    obtain ⟨h1,h2⟩:=List.nodup_cons.1 ha
    have hx:x ∈ b:=(h x).1 (List.mem_cons_self ..)
    rw [wo_len hb hx,List.length_cons]
    refine congrArg (·+1) (nodup_len h2 (hb.sublist List.filter_sublist) fun y=>?_)
    rw [mem_wo]
    constructor
    · intro hy
      exact ⟨(h y).1 (List.mem_cons_of_mem _ hy),fun c=>h1 (c ▸ hy)⟩
    · intro ⟨hy,hne⟩
      exact (List.mem_cons.1 ((h y).2 hy)).resolve_left hne
theorem startT_asc (m:Nat):(startT m).Pairwise (· < ·):=List.pairwise_map.2 (List.Pairwise.imp (fun {a b} h=>by omega) (List.pairwise_lt_range (n:=m)))
theorem frT_asc (l:List St):(frT l).Pairwise (· < ·):=(startT_asc _).sublist List.filter_sublist
theorem asc_nodup {t:List Int} (h:t.Pairwise (· < ·)):t.Nodup:=List.Pairwise.imp (fun {a b} h c=>by omega) h
theorem ascT_of {m:Nat} {t:List Int} (ha:t.Pairwise (· < ·)) (ht:∀ k ∈ t,0 ≤ k∧k < (m:Int)):ascT m t=true:=by
  rw [ascT]
  cases hf:fN (fun i=>!okA m t i) t.length 0 with
  | none=>rfl
  | some i =>
    exfalso
    obtain ⟨_,h2,h3,_⟩:=fN_some hf
    have:okA m t i=false:=by simpa using h3
    refine of_decide_eq_false this ⟨ht _ (mem_getD 0 (by omega)),?_⟩
    rcases Nat.eq_zero_or_pos i with c | c
    · exact .inl c
    · right
      have:=List.pairwise_iff_getElem.1 ha (i - 1) i (by omega) (by omega) (by omega)
      rw [getD_at (by omega),getD_at (by omega)]
      exact this
section
variable {n:Int} {l:List St} (hnet:netB n l=true) (hc:connB n l=true)
include hnet
theorem endB_net:endB l=true:=endN_B (netB_ends hnet).2.2.1 (by have:=(netB_ends hnet).1; omega)
theorem late {j:Int} (hj:0 ≤ j∧j < (l.length:Int)) (hjT:j ∉ treeT l) {p:Nat} (hp:p < (ordT l).length) (hpj:(ordT l).getD p 0=j):Cn l (tkT l ((ordT l).take p)) (sA l j) (sB l j):=by
  have he:=endB_net hnet
  have ho:∀ k ∈ ordT l,0 ≤ k∧k < (l.length:Int):=fun k hk=>ordT_mem.1 hk
  obtain ⟨ea,eb⟩:=ends he hj
  have hin:∀ k ∈ tkT l ((ordT l).take p),0 ≤ k∧k < (l.length:Int):=fun k hk=>tree_in (tk_mono_all l (ordT l) (by omega) k hk)
  refine (lb_iff he hin ea eb).1 ?_
  rw [lb,lb,(ks_tk (l:=l) (t:=ordT l) p (by omega)).1]
  by_cases c:(labT l ((ordT l).take p)).getD (sA l j).toNat 0=(labT l ((ordT l).take p)).getD (sB l j).toNat 0
  · exact c
  · exfalso
    refine hjT (tk_mono_all l (ordT l) (i:=p+1) (by omega) j ?_)
    rw [tkT_succ l (ordT l) hp,hpj,if_pos c]
    exact List.mem_append_right _ (List.mem_singleton_self _)
theorem pos_of {j:Int} (hj:0 ≤ j∧j < (l.length:Int)):∃ p,p < (ordT l).length∧(ordT l).getD p 0=j:=by
  obtain ⟨p,hp,he⟩:=List.getElem_of_mem (ordT_mem.2 hj)
  exact ⟨p,hp,by rw [getD_at hp]; exact he⟩
theorem exch_le {k j:Int} (hk:k ∈ treeT l) (hj:0 ≤ j∧j < (l.length:Int)) (hjT:j ∉ treeT l) (hJ:joinsT l (treeT l) k j):wOf l k ≤ wOf l j:=by
  have he:=endB_net hnet
  have hkr:=tree_in hk
  obtain ⟨p,hp,hpj⟩:=pos_of hnet hj
  obtain ⟨q,hq,hqk⟩:=pos_of hnet hkr
  have hs:=ordN_sorted l l.length
  have hs:(ordT l).Pairwise (ltK l):=hs
  have hne:p ≠ q:=fun c=>hjT (by rw [← hpj,c,hqk]; exact hk)
  rcases Nat.lt_or_gt_of_ne hne with c | c
  · exfalso
    have h1:=late hnet hj hjT hp hpj
    have hwin:∀ x ∈ wo (treeT l) k,0 ≤ x∧x < (l.length:Int):=fun x hx=>tree_in (mem_wo.1 hx).1
    refine hJ (cn_lb he hwin (h1.mono fun x hx=>mem_wo.2 ⟨tk_mono_all l (ordT l) (by omega) x hx,fun e=>?_⟩))
    have h2:x ∈ (ordT l).take p:=(by have:=tk_sublist l (ordT l) p (by omega); exact this.subset hx)
    obtain ⟨r,hr,hre⟩:=List.getElem_of_mem h2
    rw [List.length_take] at hr
    rw [List.getElem_take,e,← hqk,getD_at hq] at hre
    have:=(ordT_nodup l)
    have h3:=List.pairwise_iff_getElem.1 this r q (by omega) hq (by omega)
    exact h3 hre
  · have:=List.pairwise_iff_getElem.1 hs q p (by omega) (by omega) c
    rw [← getD_at (d:=0) hq,← getD_at (d:=0) hp,hqk,hpj] at this
    unfold ltK at this
    omega
end
section
variable {n:Int} {l:List St} (hnet:netB n l=true) (hc:connB n l=true)
include hnet
include hc
theorem tree_len:((treeT l).length:Int)=n - 1:=of_decide_eq_true hc
theorem fr_tk:(tkT l (frT l)).length=(frT l).length:=by
  rw [fr_len,tk_len_same (endB_net hnet) (t:=frT l) (t':=treeT l) (fun k hk=>tree_in (frT_mem.1 hk)) (fun _=>frT_mem),(lab_tree l).2]
omit hc in
theorem joins_fr (k j:Int):joinsT l (frT l) k j ↔ joinsT l (treeT l) k j:=by
  have:labT l (wo (frT l) k)=labT l (wo (treeT l) k):=lab_same (endB_net hnet) (fun x hx=>tree_in (frT_mem.1 (mem_wo.1 hx).1)) (fun x=>by rw [mem_wo,mem_wo,frT_mem])
  unfold joinsT
  rw [this]
theorem isT_iff {k j:Int} (hk:k ∈ treeT l) (hj:0 ≤ j∧j < (l.length:Int)) (hjT:j ∉ treeT l):isT n l (swT k j (frT l))=true ↔ joinsT l (treeT l) k j:=by
  have he:=endB_net hnet
  have hjF:j ∉ frT l:=fun h=>hjT (frT_mem.1 h)
  have hkF:k ∈ frT l:=frT_mem.2 hk
  have hFin:∀ x ∈ frT l,0 ≤ x∧x < (l.length:Int):=fun x hx=>tree_in (frT_mem.1 hx)
  have hA:=swT_asc (o:=k) (frT_asc l) hjF
  have hM:=swT_mem (o:=k) (frT_asc l) hjF
  have hFn:=asc_nodup (frT_asc l)
  have hSin:∀ x ∈ swT k j (frT l),0 ≤ x∧x < (l.length:Int):=fun x hx=>by
    rcases List.mem_append.1 ((hM x).1 hx) with h | h
    · exact hFin x (mem_wo.1 h).1
    · rw [List.mem_singleton.1 h]; exact hj
  have hwn:(wo (frT l) k ++ [j]).Nodup:=List.nodup_append.2 ⟨hFn.sublist List.filter_sublist,by simp,fun a ha b hb=>by rw [List.mem_singleton.1 hb]; exact fun c=>hjF (c ▸ (mem_wo.1 ha).1)⟩
  have h1:(swT k j (frT l)).length=(frT l).length:=by
    rw [nodup_len (asc_nodup hA) hwn hM,List.length_append,List.length_singleton,wo_len hFn hkF]
  have h2:=exch_len he hFin hFn (fr_tk hnet hc) hkF hj hM
  have h3:(selT l (swT k j (frT l))).length=(tkT l (swT k j (frT l))).length:=by
    have hs:=tk_sublist l (swT k j (frT l)) _ (Nat.le_refl _)
    rw [List.take_length] at hs
    refine nodup_len ((startT_nodup _).sublist List.filter_sublist) (hs.nodup (asc_nodup hA)) fun x=>?_
    rw [selT,List.mem_filter,decide_eq_true_eq]
    exact ⟨fun h=>h.2,fun h=>⟨startT_mem.2 (hSin x (hs.subset h)),h⟩⟩
  have h4:=tree_len hnet hc
  rw [← fr_len] at h4
  rw [isT,ascT_of hA hSin,Bool.true_and,h1,decide_eq_true h4,Bool.true_and,decide_eq_true_eq,h3,← joins_fr hnet,← h2]
  omega
theorem tree_forest:(tkT l (treeT l)).length=(treeT l).length:=by rw [(lab_tree l).2]
theorem exch_ex {j:Int} (hj:0 ≤ j∧j < (l.length:Int)) (hjT:j ∉ treeT l):∃ k ∈ treeT l,joinsT l (treeT l) k j:=by
  have he:=endB_net hnet
  obtain ⟨ea,eb⟩:=ends he hj
  have hTin:∀ x ∈ treeT l,0 ≤ x∧x < (l.length:Int):=fun x hx=>tree_in hx
  have hab:sA l j ≠ sB l j:=by
    have h:=hnet
    simp only [netB,Bool.and_eq_true,List.all_eq_true,decide_eq_true_eq,stB] at h
    have:=(h.1 _ (mem_getD (l:=l) (0,0,0) (show j.toNat < l.length by omega))).2.2.1
    exact this
  obtain ⟨p,hp,hpj⟩:=pos_of hnet hj
  have h1:=(late hnet hj hjT hp hpj).mono (t':=treeT l) fun x hx=>tk_mono_all l (ordT l) (by omega) x hx
  have h2:=cn_lb he hTin h1
  have htk:∀ i,∀ x ∈ (treeT l).take i,0 ≤ x∧x < (l.length:Int):=fun i x hx=>hTin x (List.mem_of_mem_take hx)
  have key:∀ i,i ≤ (treeT l).length → lb l ((treeT l).take i) (sA l j)=lb l ((treeT l).take i) (sB l j) → ∃ m,m < i∧lb l ((treeT l).take m) (sA l j) ≠ lb l ((treeT l).take m) (sB l j)∧lb l ((treeT l).take (m+1)) (sA l j)=lb l ((treeT l).take (m+1)) (sB l j):=by
    intro i
    induction i with
    | zero =>
      intro _ h
      exfalso
      have e:∀ v:Int,0 ≤ v∧v < 16 → lb l ((treeT l).take 0) v=v:=fun v hv=>by
        show (startT 16).getD v.toNat 0=v
        have:v.toNat < 16:=by omega
        simp [startT,List.getD,this]; omega
      rw [e _ ea,e _ eb] at h
      exact hab h
    | succ i ih =>
      intro hi h
      by_cases c:lb l ((treeT l).take i) (sA l j)=lb l ((treeT l).take i) (sB l j)
      · obtain ⟨m,h1,h2,h3⟩:=ih (by omega) c
        exact ⟨m,by omega,h2,h3⟩
      · exact ⟨i,by omega,c,h⟩
  obtain ⟨m,hm,hne,heq⟩:=key (treeT l).length (Nat.le_refl _) (by rw [List.take_length]; exact h2)
  have hk:=mem_getD (l:=treeT l) 0 hm
  refine ⟨(treeT l).getD m 0,hk,fun hsame=>?_⟩
  have hsame:lb l (wo (treeT l) ((treeT l).getD m 0)) (sA l j)=lb l (wo (treeT l) ((treeT l).getD m 0)) (sB l j):=hsame
  have hwin:∀ x ∈ wo (treeT l) ((treeT l).getD m 0),0 ≤ x∧x < (l.length:Int):=fun x hx=>hTin x (mem_wo.1 hx).1
  obtain ⟨ka,kb⟩:=ends he (hTin _ hk)
  have hmono:∀ x ∈ (treeT l).take m,x ∈ wo (treeT l) ((treeT l).getD m 0):=fun x hx=>mem_wo.2 ⟨List.mem_of_mem_take hx,fun c=>getD_notin' (tree_nodup' l) hm (c ▸ hx)⟩
  have cA:=(lb_cn he (htk m) ka).mono hmono
  have cB:=(lb_cn he (htk m) kb).mono hmono
  have ca:=(lb_cn he (htk m) ea).mono hmono
  have cb:=(lb_cn he (htk m) eb).mono hmono
  have cab:=(lb_iff he hwin ea eb).1 hsame
  rw [lb_succ he hTin hm ea,lb_succ he hTin hm eb] at heq
  have hK:Cn l (wo (treeT l) ((treeT l).getD m 0)) (sA l ((treeT l).getD m 0)) (sB l ((treeT l).getD m 0)):=by
    generalize lb l ((treeT l).take m) (sA l j)=x at *
    generalize lb l ((treeT l).take m) (sB l j)=y at *
    generalize lb l ((treeT l).take m) (sA l ((treeT l).getD m 0))=A at *
    generalize lb l ((treeT l).take m) (sB l ((treeT l).getD m 0))=B at *
    have hxy:Cn l (wo (treeT l) ((treeT l).getD m 0)) x y:=.trans ca (.trans cab (.symm cb))
    have hc:(x=A∧y=B) ∨ (x=B∧y=A):=by
      unfold labS at heq
      split at heq <;> split at heq <;> omega
    rcases hc with ⟨e1,e2⟩ | ⟨e1,e2⟩
    · rw [e1,e2] at hxy; exact .trans (.symm cA) (.trans hxy cB)
    · rw [e1,e2] at hxy; exact .trans (.symm cA) (.trans (.symm hxy) cB)
  exact (forest_sep he hTin (tree_nodup' l) (tree_forest hnet hc) hk).2 (cn_lb he hwin hK)
end
end Go.Proofs.Ytiejmoglooaalaa
end
section
open Go Go.HL
namespace Go.Proofs.Ytiejmoglooaalaa
set_option maxRecDepth 100000
open Go.Proofs.Try renaming prog → Tp
open Go.HL.HV renaming undef → Ud
section
variable {F:FuncId → Option (List HV → Option HV)}
noncomputable def B64:Code:=Try.f64.body.getD .skip
abbrev env64 (v0 v1 v2:HV):Env:=[(0,v0),(1,v1),(2,v2)]
theorem lo_a_0 (x d:Int) (sb ob m:Nat) (z:Int) (H:Heap) {H0:Heap} (g0:loadV Tp H 24 (.ptr sb 0 0 1)=some (.o ob m)) (g1:idxV Tp 24 (.o ob m) (.i x)=some (.ptr ob ((x).toNat) 0 m)) (g2:loadV Tp H 3 (.ptr ob ((x).toNat) 0 m)=some (.i z)) (g3:z < 0) (g4:loadV Tp H 24 (.ptr sb 0 0 1)=some (.o ob m)) (g5:idxV Tp 24 (.o ob m) (.i x)=some (.ptr ob ((x).toNat) 0 m)) (g6:storeV Tp H 3 (.ptr ob ((x).toNat) 0 m) (.i d)=some H0):RunsTo Tp (plF F) 64 (sub [] B64) (env64 (.i x) (.i d) (.ptr sb 0 0 1)) H .normal ((plF F).keys 64) (env64 (.i x) (.i d) (.ptr sb 0 0 1)) H0 :=
  RunsTo.hin 0 60 [⟨0,0,.o ob m,H⟩,⟨0,2,.ptr ob ((x).toNat) 0 m,H⟩,⟨0,3,.i z,H⟩,⟨0,4,.bool true,H⟩,⟨1,0,.o ob m,H⟩,⟨1,3,.ptr ob ((x).toNat) 0 m,H⟩,⟨1,4,.tuple [],H0⟩] fun kf hk=>⟨_,by kernel_rfl,(oP H g0 (oP H g1 (oP H g2 (oB H (decide_eq_true g3) (oP H g4 (oP H g5 (oS g6 .nil)))))))⟩
theorem lo_a_1 (x d:Int) (sb ob m:Nat) (z:Int) (H:Heap) {H0:Heap} (g0:loadV Tp H 24 (.ptr sb 0 0 1)=some (.o ob m)) (g1:idxV Tp 24 (.o ob m) (.i x)=some (.ptr ob ((x).toNat) 0 m)) (g2:loadV Tp H 3 (.ptr ob ((x).toNat) 0 m)=some (.i z)) (g3:¬ (z < 0)) (g4:loadV Tp H 24 (.ptr sb 0 0 1)=some (.o ob m)) (g5:idxV Tp 24 (.o ob m) (.i x)=some (.ptr ob ((x).toNat) 0 m)) (g6:loadV Tp H 3 (.ptr ob ((x).toNat) 0 m)=some (.i z)) (g7:d < z) (g8:loadV Tp H 24 (.ptr sb 0 0 1)=some (.o ob m)) (g9:idxV Tp 24 (.o ob m) (.i x)=some (.ptr ob ((x).toNat) 0 m)) (g10:storeV Tp H 3 (.ptr ob ((x).toNat) 0 m) (.i d)=some H0):RunsTo Tp (plF F) 64 (sub [] B64) (env64 (.i x) (.i d) (.ptr sb 0 0 1)) H .normal ((plF F).keys 64) (env64 (.i x) (.i d) (.ptr sb 0 0 1)) H0 :=
  RunsTo.hin 0 60 [⟨0,0,.o ob m,H⟩,⟨0,2,.ptr ob ((x).toNat) 0 m,H⟩,⟨0,3,.i z,H⟩,⟨0,4,.bool false,H⟩,⟨0,7,.o ob m,H⟩,⟨0,9,.ptr ob ((x).toNat) 0 m,H⟩,⟨0,10,.i z,H⟩,⟨0,11,.bool true,H⟩,⟨1,0,.o ob m,H⟩,⟨1,3,.ptr ob ((x).toNat) 0 m,H⟩,⟨1,4,.tuple [],H0⟩] fun kf hk=>⟨_,by kernel_rfl,(oP H g0 (oP H g1 (oP H g2 (oB H (decide_eq_false g3) (oP H g4 (oP H g5 (oP H g6 (oB H (decide_eq_true g7) (oP H g8 (oP H g9 (oS g10 .nil)))))))))))⟩
theorem lo_a_2 (x d:Int) (sb ob m:Nat) (z:Int) (H:Heap)(g0:loadV Tp H 24 (.ptr sb 0 0 1)=some (.o ob m)) (g1:idxV Tp 24 (.o ob m) (.i x)=some (.ptr ob ((x).toNat) 0 m)) (g2:loadV Tp H 3 (.ptr ob ((x).toNat) 0 m)=some (.i z)) (g3:¬ (z < 0)) (g4:loadV Tp H 24 (.ptr sb 0 0 1)=some (.o ob m)) (g5:idxV Tp 24 (.o ob m) (.i x)=some (.ptr ob ((x).toNat) 0 m)) (g6:loadV Tp H 3 (.ptr ob ((x).toNat) 0 m)=some (.i z)) (g7:¬ (d < z)):RunsTo Tp (plF F) 64 (sub [] B64) (env64 (.i x) (.i d) (.ptr sb 0 0 1)) H .normal ((plF F).keys 64) (env64 (.i x) (.i d) (.ptr sb 0 0 1)) H :=
  RunsTo.hin 0 60 [⟨0,0,.o ob m,H⟩,⟨0,2,.ptr ob ((x).toNat) 0 m,H⟩,⟨0,3,.i z,H⟩,⟨0,4,.bool false,H⟩,⟨0,7,.o ob m,H⟩,⟨0,9,.ptr ob ((x).toNat) 0 m,H⟩,⟨0,10,.i z,H⟩,⟨0,11,.bool false,H⟩] fun kf hk=>⟨_,by kernel_rfl,(oP H g0 (oP H g1 (oP H g2 (oB H (decide_eq_false g3) (oP H g4 (oP H g5 (oP H g6 (oB H (decide_eq_false g7) .nil))))))))⟩
noncomputable def B43:Code:=Try.f43.body.getD .skip
abbrev env43 (v0 v1 v2 v3 v4 v5 v6 v7 v8 v9 v10 v12 v14 v15 v29 v30 v38 v39 v40 v49 v50 v51:HV):Env:=[(0,v0),(1,v1),(2,v2),(3,v3),(4,v4),(5,v5),(6,v6),(7,v7),(8,v8),(9,v9),(10,v10),(12,v12),(14,v14),(15,v15),(29,v29),(30,v30),(38,v38),(39,v39),(40,v40),(49,v49),(50,v50),(51,v51)]
theorem sk_a_0 (N:Nat) (n:Int) (ls:List HV) :RunsTo Tp (plF F) 43 (sub [0] B43) [(0,.agg [.i n,.imm .arg 3 ls])] [] .normal ((plF F).keys 43) (env43 (.agg [.i n,.imm .arg 3 ls]) (.ptr 0 0 0 1) (.imm .lit 1 []) .nilmap (.bool false) Ud Ud Ud Ud Ud Ud Ud Ud Ud Ud Ud Ud Ud Ud Ud Ud Ud) [.arr 2 [.agg [.i n,.imm .arg 3 ls]] true 0] :=
  RunsTo.hin N 60 [] fun kf hk=>⟨_,by kernel_rfl,.nil⟩
theorem sk_b_0 (N:Nat) (n:Int) (ls:List HV) (H:Heap) (tb k:Nat) {y5 y6 y7 y8 y9 y10 y12 y14 y15 y29 y30 y38 y39 y40 y49 y50 y51:HV} {H0:Heap} (g0:loadV Tp H 66 (.ptr 0 0 0 1)=some (.agg [.i n,.imm .arg 3 ls])) (g1:∀ kf,callN Tp (plF F) (kf+1) 40 [.agg [.i n,.imm .arg 3 ls]] H=some (.tuple [.s tb k,.bool true],H0)):RunsTo Tp (plF F) 43 (sub [1,0] B43) (env43 (.agg [.i n,.imm .arg 3 ls]) (.ptr 0 0 0 1) (.imm .lit 1 []) .nilmap (.bool false) y5 y6 y7 y8 y9 y10 y12 y14 y15 y29 y30 y38 y39 y40 y49 y50 y51) H .normal ((plF F).keys 43) (env43 (.agg [.i n,.imm .arg 3 ls]) (.ptr 0 0 0 1) (.imm .lit 1 []) .nilmap (.bool false) (.s tb k) (.bool true) y7 y8 y9 y10 y12 y14 y15 y29 y30 y38 y39 y40 y49 y50 y51) H0 :=
  RunsTo.hin N 60 [⟨1,0,.agg [.i n,.imm .arg 3 ls],H⟩,⟨1,1,.tuple [.s tb k,.bool true],H0⟩] fun kf hk=>⟨_,by kernel_rfl,(oP H g0 (oC (g1 kf) .nil))⟩
theorem sk_b_1 (N:Nat) (n:Int) (ls:List HV) (H:Heap) (tb k:Nat) {y5 y6 y7 y8 y9 y10 y12 y14 y15 y29 y30 y38 y39 y40 y49 y50 y51:HV} {H0:Heap} (g0:loadV Tp H 66 (.ptr 0 0 0 1)=some (.agg [.i n,.imm .arg 3 ls])) (g1:∀ kf,callN Tp (plF F) (kf+1) 40 [.agg [.i n,.imm .arg 3 ls]] H=some (.tuple [.s tb k,.bool false],H0)):RunsTo Tp (plF F) 43 (sub [1,0] B43) (env43 (.agg [.i n,.imm .arg 3 ls]) (.ptr 0 0 0 1) (.imm .lit 1 []) .nilmap (.bool false) y5 y6 y7 y8 y9 y10 y12 y14 y15 y29 y30 y38 y39 y40 y49 y50 y51) H .normal ((plF F).keys 43) (env43 (.agg [.i n,.imm .arg 3 ls]) (.ptr 0 0 0 1) (.imm .lit 1 []) .nilmap (.bool false) (.s tb k) (.bool false) y7 y8 y9 y10 y12 y14 y15 y29 y30 y38 y39 y40 y49 y50 y51) H0 :=
  RunsTo.hin N 60 [⟨1,0,.agg [.i n,.imm .arg 3 ls],H⟩,⟨1,1,.tuple [.s tb k,.bool false],H0⟩] fun kf hk=>⟨_,by kernel_rfl,(oP H g0 (oC (g1 kf) .nil))⟩
theorem sk_ct_0 (N:Nat) (n:Int) (ls:List HV) (H:Heap) (tb k:Nat) {y7 y8 y9 y10 y12 y14 y15 y29 y30 y38 y39 y40 y49 y50 y51:HV}:RunsTo Tp (plF F) 43 (sub [1,1,0] B43) (env43 (.agg [.i n,.imm .arg 3 ls]) (.ptr 0 0 0 1) (.imm .lit 1 []) .nilmap (.bool false) (.s tb k) (.bool true) y7 y8 y9 y10 y12 y14 y15 y29 y30 y38 y39 y40 y49 y50 y51) H .normal ((plF F).keys 43) (env43 (.agg [.i n,.imm .arg 3 ls]) (.ptr 0 0 0 1) (.imm .lit 1 []) .nilmap (.bool false) (.s tb k) (.bool true) y7 y8 y9 y10 y12 y14 y15 y29 y30 y38 y39 y40 y49 y50 y51) H :=
  RunsTo.hin N 60 [] fun kf hk=>⟨_,by kernel_rfl,.nil⟩
theorem sk_cf_0 (N:Nat) (n:Int) (ls:List HV) (H:Heap) (tb k:Nat) {y7 y8 y9 y10 y12 y14 y15 y29 y30 y38 y39 y40 y49 y50 y51:HV}:RunsTo Tp (plF F) 43 (sub [1,1,0] B43) (env43 (.agg [.i n,.imm .arg 3 ls]) (.ptr 0 0 0 1) (.imm .lit 1 []) .nilmap (.bool false) (.s tb k) (.bool false) y7 y8 y9 y10 y12 y14 y15 y29 y30 y38 y39 y40 y49 y50 y51) H .ret ((plF F).keys 43) (env43 (.agg [.i n,.imm .arg 3 ls]) (.ptr 0 0 0 1) (.imm .lit 1 []) .nilmap (.bool false) (.s tb k) (.bool false) y7 y8 y9 y10 y12 y14 y15 y29 y30 y38 y39 y40 y49 y50 y51) H :=
  RunsTo.hin N 60 [] fun kf hk=>⟨_,by kernel_rfl,.nil⟩
theorem sk_d_0 (N:Nat) (n:Int) (ls:List HV) (H:Heap) (tb k:Nat) {y6 y7 y8 y9 y10 y12 y14 y15 y29 y30 y38 y39 y40 y49 y50 y51:HV} {a0:HV} {H0:Heap} (g0:some (HV.map H.length,H ++ [Blk.map [] [] 0])=some (a0,H0)):RunsTo Tp (plF F) 43 (sub [1,1,1,0] B43) (env43 (.agg [.i n,.imm .arg 3 ls]) (.ptr 0 0 0 1) (.imm .lit 1 []) .nilmap (.bool false) (.s tb k) y6 y7 y8 y9 y10 y12 y14 y15 y29 y30 y38 y39 y40 y49 y50 y51) H .normal ((plF F).keys 43) (env43 (.agg [.i n,.imm .arg 3 ls]) (.ptr 0 0 0 1) (.imm .lit 1 []) .nilmap (.bool false) (.s tb k) y6 a0 y8 y9 y10 y12 y14 y15 y29 y30 y38 y39 y40 y49 y50 y51) H0 :=
  RunsTo.hin N 60 [⟨4,0,a0,H0⟩] fun kf hk=>⟨_,by kernel_rfl,(oC (g0) .nil)⟩
theorem sk_e_0 (N:Nat) (n:Int) (ls:List HV) (H:Heap) (tb k mb ob m:Nat) {y6 y8 y9 y10 y12 y14 y15 y29 y30 y38 y39 y40 y49 y50 y51:HV} {H0:Heap} {a0:HV} {H1:Heap} {H2:Heap} (g0:loadV Tp H 22 (.ptr 0 0 1 1)=some (.imm .arg 3 ls)) (g1:makeV Tp false 24 (.i (ls.length:Int)) (.i (ls.length:Int)) H=some (.o ob m,H0)) (g2:some (HV.ptr H0.length 0 0 1,H0 ++ [Blk.arr 1 [HV.sl (H0.length+1) 0 0 none 0 1] true (H0.length+2),Blk.b []])=some (a0,H1)) (g3:storeV Tp H1 24 (a0) (.o ob m)=some H2):RunsTo Tp (plF F) 43 (sub [1,1,1,1,0] B43) (env43 (.agg [.i n,.imm .arg 3 ls]) (.ptr 0 0 0 1) (.imm .lit 1 []) .nilmap (.bool false) (.s tb k) y6 (.map mb) y8 y9 y10 y12 y14 y15 y29 y30 y38 y39 y40 y49 y50 y51) H .normal ((plF F).keys 43) (env43 (.agg [.i n,.imm .arg 3 ls]) (.ptr 0 0 0 1) (.imm .lit 1 []) .nilmap (.bool false) (.s tb k) y6 (.map mb) a0 y9 y10 y12 y14 y15 y29 y30 y38 y39 y40 y49 y50 y51) H2 :=
  RunsTo.hin N 60 [⟨5,1,.imm .arg 3 ls,H⟩,⟨5,3,.o ob m,H0⟩,⟨5,4,a0,H1⟩,⟨5,5,.tuple [],H2⟩] fun kf hk=>⟨_,by kernel_rfl,(oP H g0 (oC (g1) (oC (g2) (oS g3 .nil))))⟩
theorem sk_f_0 (N:Nat) (n:Int) (ls:List HV) (H:Heap) (tb k mb sb ob m:Nat) {y6 y9 y10 y12 y14 y15 y29 y30 y38 y39 y40 y49 y50 y51:HV}(g0:loadV Tp H 24 (.ptr sb 0 0 1)=some (.o ob m)):RunsTo Tp (plF F) 43 (sub [1,1,1,1,1,0,0] B43) (env43 (.agg [.i n,.imm .arg 3 ls]) (.ptr 0 0 0 1) (.imm .lit 1 []) .nilmap (.bool false) (.s tb k) y6 (.map mb) (.ptr sb 0 0 1) y9 y10 y12 y14 y15 y29 y30 y38 y39 y40 y49 y50 y51) H .normal ((plF F).keys 43) (env43 (.agg [.i n,.imm .arg 3 ls]) (.ptr 0 0 0 1) (.imm .lit 1 []) .nilmap (.bool false) (.s tb k) y6 (.map mb) (.ptr sb 0 0 1) y9 y10 y12 y14 y15 (.i (m:Int)) (.i 0) y38 y39 y40 y49 y50 y51) H :=
  RunsTo.hin N 60 [⟨6,0,.o ob m,H⟩] fun kf hk=>⟨_,by kernel_rfl,(oP H g0 .nil)⟩
theorem sk_g_0 (N:Nat) (n:Int) (ls:List HV) (H:Heap) (tb k mb sb ob m j:Nat) {y6 y9 y10 y12 y14 y15 y38 y39 y40 y49 y50 y51:HV} {H0:Heap} (g0:(j:Int) < (m:Int)) (g1:loadV Tp H 24 (.ptr sb 0 0 1)=some (.o ob m)) (g2:idxV Tp 24 (.o ob m) (.i (j:Int))=some (.ptr ob j 0 m)) (g3:storeV Tp H 3 (.ptr ob j 0 m) (.i (-1))=some H0):RunsTo Tp (plF F) 43 (sub [1,1,1,1,1,0,1,0,0] B43) (env43 (.agg [.i n,.imm .arg 3 ls]) (.ptr 0 0 0 1) (.imm .lit 1 []) .nilmap (.bool false) (.s tb k) y6 (.map mb) (.ptr sb 0 0 1) y9 y10 y12 y14 y15 (.i (m:Int)) (.i (j:Int)) y38 y39 y40 y49 y50 y51) H .normal ((plF F).keys 43) (env43 (.agg [.i n,.imm .arg 3 ls]) (.ptr 0 0 0 1) (.imm .lit 1 []) .nilmap (.bool false) (.s tb k) y6 (.map mb) (.ptr sb 0 0 1) (.i (j:Int)) y10 y12 y14 y15 (.i (m:Int)) (.i (IntKind.i64.wrap ((j:Int)+1))) y38 y39 y40 y49 y50 y51) H0 :=
  RunsTo.hin N 60 [⟨7,0,.bool true,H⟩,⟨9,0,.o ob m,H⟩,⟨9,2,.ptr ob j 0 m,H⟩,⟨9,3,.tuple [],H0⟩] fun kf hk=>⟨_,by kernel_rfl,(oB H (decide_eq_true g0) (oP H g1 (oP H g2 (oS g3 .nil))))⟩
theorem sk_g_1 (N:Nat) (n:Int) (ls:List HV) (H:Heap) (tb k mb sb ob m j:Nat) {y6 y9 y10 y12 y14 y15 y38 y39 y40 y49 y50 y51:HV}(g0:¬ ((j:Int) < (m:Int))):RunsTo Tp (plF F) 43 (sub [1,1,1,1,1,0,1,0,0] B43) (env43 (.agg [.i n,.imm .arg 3 ls]) (.ptr 0 0 0 1) (.imm .lit 1 []) .nilmap (.bool false) (.s tb k) y6 (.map mb) (.ptr sb 0 0 1) y9 y10 y12 y14 y15 (.i (m:Int)) (.i (j:Int)) y38 y39 y40 y49 y50 y51) H (.exit 0) ((plF F).keys 43) (env43 (.agg [.i n,.imm .arg 3 ls]) (.ptr 0 0 0 1) (.imm .lit 1 []) .nilmap (.bool false) (.s tb k) y6 (.map mb) (.ptr sb 0 0 1) y9 y10 y12 y14 y15 (.i (m:Int)) (.i (j:Int)) y38 y39 y40 y49 y50 y51) H :=
  RunsTo.hin N 60 [⟨7,0,.bool false,H⟩] fun kf hk=>⟨_,by kernel_rfl,(oB H (decide_eq_false g0) .nil)⟩
theorem sk_h_0 (N:Nat) (n:Int) (ls:List HV) (H:Heap) (tb k mb sb:Nat) {y6 y9 y10 y12 y14 y15 y29 y30 y38 y39 y40 y49 y50 y51:HV}:RunsTo Tp (plF F) 43 (sub [1,1,1,1,1,1,0] B43) (env43 (.agg [.i n,.imm .arg 3 ls]) (.ptr 0 0 0 1) (.imm .lit 1 []) .nilmap (.bool false) (.s tb k) y6 (.map mb) (.ptr sb 0 0 1) y9 y10 y12 y14 y15 y29 y30 y38 y39 y40 y49 y50 y51) H .normal ((plF F).keys 43) (env43 (.agg [.i n,.imm .arg 3 ls]) (.ptr 0 0 0 1) (.imm .lit 1 []) .nilmap (.bool false) (.s tb k) y6 (.map mb) (.ptr sb 0 0 1) y9 (.func 64 [] [.ptr sb 0 0 1]) y12 y14 y15 y29 y30 y38 y39 y40 y49 y50 y51) H :=
  RunsTo.hin N 60 [] fun kf hk=>⟨_,by kernel_rfl,.nil⟩
theorem sk_i_0 (N:Nat) (n:Int) (ls:List HV) (H:Heap) (tb k mb sb:Nat) {y6 y9 y12 y14 y15 y29 y30 y38 y39 y40 y49 y50 y51:HV}:RunsTo Tp (plF F) 43 (sub [1,1,1,1,1,1,1,0,0] B43) (env43 (.agg [.i n,.imm .arg 3 ls]) (.ptr 0 0 0 1) (.imm .lit 1 []) .nilmap (.bool false) (.s tb k) y6 (.map mb) (.ptr sb 0 0 1) y9 (.func 64 [] [.ptr sb 0 0 1]) y12 y14 y15 y29 y30 y38 y39 y40 y49 y50 y51) H .normal ((plF F).keys 43) (env43 (.agg [.i n,.imm .arg 3 ls]) (.ptr 0 0 0 1) (.imm .lit 1 []) .nilmap (.bool false) (.s tb k) y6 (.map mb) (.ptr sb 0 0 1) y9 (.func 64 [] [.ptr sb 0 0 1]) y12 y14 y15 y29 y30 (.s tb k) (.i (k:Int)) (.i 0) y49 y50 y51) H :=
  RunsTo.hin N 60 [] fun kf hk=>⟨_,by kernel_rfl,.nil⟩
theorem sk_l_0 (N:Nat) (n:Int) (ls:List HV) (H:Heap) (tb k mb sb i:Nat) {y6 y9 y12 y14 y15 y29 y30 y49 y50 y51:HV}(g0:(i:Int) < (k:Int)):RunsTo Tp (plF F) 43 (sub [1,1,1,1,1,1,1,0,1,0,0,0] B43) (env43 (.agg [.i n,.imm .arg 3 ls]) (.ptr 0 0 0 1) (.imm .lit 1 []) .nilmap (.bool false) (.s tb k) y6 (.map mb) (.ptr sb 0 0 1) y9 (.func 64 [] [.ptr sb 0 0 1]) y12 y14 y15 y29 y30 (.s tb k) (.i (k:Int)) (.i (i:Int)) y49 y50 y51) H .normal [0,1,2,3,4,5,6,7,8,9,10,12,14,15,29,30,38,39,40,49,50,51,41] [(0,.agg [.i n,.imm .arg 3 ls]),(1,.ptr 0 0 0 1),(2,.imm .lit 1 []),(3,.nilmap),(4,.bool false),(5,.s tb k),(6,y6),(7,.map mb),(8,.ptr sb 0 0 1),(9,y9),(10,.func 64 [] [.ptr sb 0 0 1]),(12,y12),(14,y14),(15,y15),(29,y29),(30,y30),(38,.s tb k),(39,.i (k:Int)),(40,.i (i:Int)),(49,y49),(50,y50),(51,y51),(41,.bool true)] H :=
  RunsTo.hin N 60 [⟨13,0,.bool true,H⟩] fun kf hk=>⟨_,by kernel_rfl,(oB H (decide_eq_true g0) .nil)⟩
theorem sk_l_1 (N:Nat) (n:Int) (ls:List HV) (H:Heap) (tb k mb sb i:Nat) {y6 y9 y12 y14 y15 y29 y30 y49 y50 y51:HV}(g0:¬ ((i:Int) < (k:Int))):RunsTo Tp (plF F) 43 (sub [1,1,1,1,1,1,1,0,1,0,0,0] B43) (env43 (.agg [.i n,.imm .arg 3 ls]) (.ptr 0 0 0 1) (.imm .lit 1 []) .nilmap (.bool false) (.s tb k) y6 (.map mb) (.ptr sb 0 0 1) y9 (.func 64 [] [.ptr sb 0 0 1]) y12 y14 y15 y29 y30 (.s tb k) (.i (k:Int)) (.i (i:Int)) y49 y50 y51) H .normal [0,1,2,3,4,5,6,7,8,9,10,12,14,15,29,30,38,39,40,49,50,51,41] [(0,.agg [.i n,.imm .arg 3 ls]),(1,.ptr 0 0 0 1),(2,.imm .lit 1 []),(3,.nilmap),(4,.bool false),(5,.s tb k),(6,y6),(7,.map mb),(8,.ptr sb 0 0 1),(9,y9),(10,.func 64 [] [.ptr sb 0 0 1]),(12,y12),(14,y14),(15,y15),(29,y29),(30,y30),(38,.s tb k),(39,.i (k:Int)),(40,.i (i:Int)),(49,y49),(50,y50),(51,y51),(41,.bool false)] H :=
  RunsTo.hin N 60 [⟨13,0,.bool false,H⟩] fun kf hk=>⟨_,by kernel_rfl,(oB H (decide_eq_false g0) .nil)⟩
theorem sk_lt_0 (N:Nat) (n:Int) (ls:List HV) (H:Heap) (tb k mb sb i:Nat) {y6 y9 y12 y14 y15 y29 y30 y49 y50 y51:HV}:RunsTo Tp (plF F) 43 (sub [1,1,1,1,1,1,1,0,1,0,0,1,0] B43) [(0,.agg [.i n,.imm .arg 3 ls]),(1,.ptr 0 0 0 1),(2,.imm .lit 1 []),(3,.nilmap),(4,.bool false),(5,.s tb k),(6,y6),(7,.map mb),(8,.ptr sb 0 0 1),(9,y9),(10,.func 64 [] [.ptr sb 0 0 1]),(12,y12),(14,y14),(15,y15),(29,y29),(30,y30),(38,.s tb k),(39,.i (k:Int)),(40,.i (i:Int)),(49,y49),(50,y50),(51,y51),(41,.bool true)] H .normal ((plF F).keys 43) (env43 (.agg [.i n,.imm .arg 3 ls]) (.ptr 0 0 0 1) (.imm .lit 1 []) .nilmap (.bool false) (.s tb k) y6 (.map mb) (.ptr sb 0 0 1) y9 (.func 64 [] [.ptr sb 0 0 1]) y12 y14 y15 y29 y30 (.s tb k) (.i (k:Int)) (.i (i:Int)) y49 y50 y51) H :=
  RunsTo.hin N 60 [] fun kf hk=>⟨_,by kernel_rfl,.nil⟩
theorem sk_lf_0 (N:Nat) (n:Int) (ls:List HV) (H:Heap) (tb k mb sb i:Nat) {y6 y9 y12 y14 y15 y29 y30 y49 y50 y51:HV}:RunsTo Tp (plF F) 43 (sub [1,1,1,1,1,1,1,0,1,0,0,1,0] B43) [(0,.agg [.i n,.imm .arg 3 ls]),(1,.ptr 0 0 0 1),(2,.imm .lit 1 []),(3,.nilmap),(4,.bool false),(5,.s tb k),(6,y6),(7,.map mb),(8,.ptr sb 0 0 1),(9,y9),(10,.func 64 [] [.ptr sb 0 0 1]),(12,y12),(14,y14),(15,y15),(29,y29),(30,y30),(38,.s tb k),(39,.i (k:Int)),(40,.i (i:Int)),(49,y49),(50,y50),(51,y51),(41,.bool false)] H (.exit 2) ((plF F).keys 43) (env43 (.agg [.i n,.imm .arg 3 ls]) (.ptr 0 0 0 1) (.imm .lit 1 []) .nilmap (.bool false) (.s tb k) y6 (.map mb) (.ptr sb 0 0 1) y9 (.func 64 [] [.ptr sb 0 0 1]) y12 y14 y15 y29 y30 (.s tb k) (.i (k:Int)) (.i (i:Int)) y49 y50 y51) H :=
  RunsTo.hin N 60 [] fun kf hk=>⟨_,by kernel_rfl,.nil⟩
theorem sk_m_0 (N:Nat) (n:Int) (ls:List HV) (H:Heap) (tb k mb sb i:Nat) (x:Int) {y6 y9 y12 y14 y15 y29 y30 y49 y50 y51:HV}(g0:idxV Tp 24 (.s tb k) (.i (i:Int))=some (.ptr tb i 0 k)) (g1:loadV Tp H 3 (.ptr tb i 0 k)=some (.i x)):RunsTo Tp (plF F) 43 (sub [1,1,1,1,1,1,1,0,1,0,0,1,1,0,0,0] B43) (env43 (.agg [.i n,.imm .arg 3 ls]) (.ptr 0 0 0 1) (.imm .lit 1 []) .nilmap (.bool false) (.s tb k) y6 (.map mb) (.ptr sb 0 0 1) y9 (.func 64 [] [.ptr sb 0 0 1]) y12 y14 y15 y29 y30 (.s tb k) (.i (k:Int)) (.i (i:Int)) y49 y50 y51) H .normal ((plF F).keys 43) (env43 (.agg [.i n,.imm .arg 3 ls]) (.ptr 0 0 0 1) (.imm .lit 1 []) .nilmap (.bool false) (.s tb k) y6 (.map mb) (.ptr sb 0 0 1) y9 (.func 64 [] [.ptr sb 0 0 1]) (.i x) y14 y15 y29 y30 (.s tb k) (.i (k:Int)) (.i (i:Int)) y49 y50 y51) H :=
  RunsTo.hin N 60 [⟨14,0,.ptr tb i 0 k,H⟩,⟨14,1,.i x,H⟩] fun kf hk=>⟨_,by kernel_rfl,(oP H g0 (oP H g1 .nil))⟩
theorem sk_o_0 (N:Nat) (n:Int) (ls:List HV) (H:Heap) (tb k mb sb i:Nat) (x:Int) {y6 y9 y14 y15 y29 y30 y49 y50 y51:HV} {H0:Heap} (g0:updV Tp false 72 (.map mb) (.i x) (.bool true) H=some H0):RunsTo Tp (plF F) 43 (sub [1,1,1,1,1,1,1,0,1,0,0,1,1,0,0,1,0] B43) (env43 (.agg [.i n,.imm .arg 3 ls]) (.ptr 0 0 0 1) (.imm .lit 1 []) .nilmap (.bool false) (.s tb k) y6 (.map mb) (.ptr sb 0 0 1) y9 (.func 64 [] [.ptr sb 0 0 1]) (.i x) y14 y15 y29 y30 (.s tb k) (.i (k:Int)) (.i (i:Int)) y49 y50 y51) H .normal ((plF F).keys 43) (env43 (.agg [.i n,.imm .arg 3 ls]) (.ptr 0 0 0 1) (.imm .lit 1 []) .nilmap (.bool false) (.s tb k) y6 (.map mb) (.ptr sb 0 0 1) y9 (.func 64 [] [.ptr sb 0 0 1]) (.i x) y14 y15 y29 y30 (.s tb k) (.i (k:Int)) (.i (i:Int)) y49 y50 y51) H0 :=
  RunsTo.hin N 60 [⟨15,2,.tuple [],H0⟩] fun kf hk=>⟨_,by kernel_rfl,(oS g0 .nil)⟩
theorem sk_p_0 (N:Nat) (n:Int) (ls:List HV) (H:Heap) (tb k mb sb i ib c:Nat) (x:Int) {y6 y9 y14 y15 y29 y30 y49 y50 y51:HV} {H0:Heap} (g0:loadV Tp H 66 (.ptr 0 0 0 1)=some (.agg [.i n,.imm .arg 3 ls])) (g1:∀ kf,callN Tp (plF F) (kf+1) 59 [.agg [.i n,.imm .arg 3 ls],.s tb k,.i x] H=some (.s ib c,H0)):RunsTo Tp (plF F) 43 (sub [1,1,1,1,1,1,1,0,1,0,0,1,1,0,0,1,1,0] B43) (env43 (.agg [.i n,.imm .arg 3 ls]) (.ptr 0 0 0 1) (.imm .lit 1 []) .nilmap (.bool false) (.s tb k) y6 (.map mb) (.ptr sb 0 0 1) y9 (.func 64 [] [.ptr sb 0 0 1]) (.i x) y14 y15 y29 y30 (.s tb k) (.i (k:Int)) (.i (i:Int)) y49 y50 y51) H .normal ((plF F).keys 43) (env43 (.agg [.i n,.imm .arg 3 ls]) (.ptr 0 0 0 1) (.imm .lit 1 []) .nilmap (.bool false) (.s tb k) y6 (.map mb) (.ptr sb 0 0 1) y9 (.func 64 [] [.ptr sb 0 0 1]) (.i x) y14 y15 y29 y30 (.s tb k) (.i (k:Int)) (.i (i:Int)) (.s ib c) (.i (c:Int)) (.i 0)) H0 :=
  RunsTo.hin N 60 [⟨16,0,.agg [.i n,.imm .arg 3 ls],H⟩,⟨16,3,.s ib c,H0⟩] fun kf hk=>⟨_,by kernel_rfl,(oP H g0 (oC (g1 kf) .nil))⟩
theorem sk_q_0 (N:Nat) (n:Int) (ls:List HV) (H:Heap) (tb k mb sb i ib c j:Nat) (x y a b w a2 b2 w2:Int) {y6 y9 y14 y15 y29 y30:HV} {H0:Heap} {H1:Heap} (g0:(j:Int) < (c:Int)) (g1:idxV Tp 24 (.s ib c) (.i (j:Int))=some (.ptr ib j 0 c)) (g2:loadV Tp H 3 (.ptr ib j 0 c)=some (.i y)) (g3:loadV Tp H 22 (.ptr 0 0 1 1)=some (.imm .arg 3 ls)) (g4:idxV Tp 22 (.imm .arg 3 ls) (.i y)=some (.vptr (.agg [.i a,.i b,.i w]))) (g5:loadV Tp H 22 (.ptr 0 0 1 1)=some (.imm .arg 3 ls)) (g6:idxV Tp 22 (.imm .arg 3 ls) (.i x)=some (.vptr (.agg [.i a2,.i b2,.i w2]))) (g7:∀ kf,N ≤ kf → callN Tp (plF F) (kf+1) 64 [.i x,.i (IntKind.i64.wrap (w - w2)),.ptr sb 0 0 1] H=some (.tuple [],H0)) (g8:∀ kf,N ≤ kf → callN Tp (plF F) (kf+1) 64 [.i y,.i (IntKind.i64.wrap (w - w2)),.ptr sb 0 0 1] H0=some (.tuple [],H1)):RunsTo Tp (plF F) 43 (sub [1,1,1,1,1,1,1,0,1,0,0,1,1,0,0,1,1,1,0,0] B43) (env43 (.agg [.i n,.imm .arg 3 ls]) (.ptr 0 0 0 1) (.imm .lit 1 []) .nilmap (.bool false) (.s tb k) y6 (.map mb) (.ptr sb 0 0 1) y9 (.func 64 [] [.ptr sb 0 0 1]) (.i x) y14 y15 y29 y30 (.s tb k) (.i (k:Int)) (.i (i:Int)) (.s ib c) (.i (c:Int)) (.i (j:Int))) H .normal ((plF F).keys 43) (env43 (.agg [.i n,.imm .arg 3 ls]) (.ptr 0 0 0 1) (.imm .lit 1 []) .nilmap (.bool false) (.s tb k) y6 (.map mb) (.ptr sb 0 0 1) y9 (.func 64 [] [.ptr sb 0 0 1]) (.i x) (.i y) (.i (IntKind.i64.wrap (w - w2))) y29 y30 (.s tb k) (.i (k:Int)) (.i (i:Int)) (.s ib c) (.i (c:Int)) (.i (IntKind.i64.wrap ((j:Int)+1)))) H1 :=
  RunsTo.hin N 60 [⟨17,0,.bool true,H⟩,⟨18,0,.ptr ib j 0 c,H⟩,⟨18,1,.i y,H⟩,⟨19,1,.imm .arg 3 ls,H⟩,⟨19,3,.vptr (.agg [.i a,.i b,.i w]),H⟩,⟨19,7,.imm .arg 3 ls,H⟩,⟨19,9,.vptr (.agg [.i a2,.i b2,.i w2]),H⟩,⟨20,3,.tuple [],H0⟩,⟨21,3,.tuple [],H1⟩] fun kf hk=>⟨_,by kernel_rfl,(oB H (decide_eq_true g0) (oP H g1 (oP H g2 (oP H g3 (oP H g4 (oP H g5 (oP H g6 (oC (g7 kf (by omega)) (oC (g8 kf (by omega)) .nil)))))))))⟩
theorem sk_q_1 (N:Nat) (n:Int) (ls:List HV) (H:Heap) (tb k mb sb i ib c j:Nat) (x y a b w a2 b2 w2:Int) {y6 y9 y14 y15 y29 y30:HV}(g0:¬ ((j:Int) < (c:Int))):RunsTo Tp (plF F) 43 (sub [1,1,1,1,1,1,1,0,1,0,0,1,1,0,0,1,1,1,0,0] B43) (env43 (.agg [.i n,.imm .arg 3 ls]) (.ptr 0 0 0 1) (.imm .lit 1 []) .nilmap (.bool false) (.s tb k) y6 (.map mb) (.ptr sb 0 0 1) y9 (.func 64 [] [.ptr sb 0 0 1]) (.i x) y14 y15 y29 y30 (.s tb k) (.i (k:Int)) (.i (i:Int)) (.s ib c) (.i (c:Int)) (.i (j:Int))) H (.exit 4) ((plF F).keys 43) (env43 (.agg [.i n,.imm .arg 3 ls]) (.ptr 0 0 0 1) (.imm .lit 1 []) .nilmap (.bool false) (.s tb k) y6 (.map mb) (.ptr sb 0 0 1) y9 (.func 64 [] [.ptr sb 0 0 1]) (.i x) y14 y15 y29 y30 (.s tb k) (.i (k:Int)) (.i (i:Int)) (.s ib c) (.i (c:Int)) (.i (j:Int))) H :=
  RunsTo.hin N 60 [⟨17,0,.bool false,H⟩] fun kf hk=>⟨_,by kernel_rfl,(oB H (decide_eq_false g0) .nil)⟩
theorem sk_r_0 (N:Nat) (n:Int) (ls:List HV) (H:Heap) (tb k mb sb i:Nat) {y6 y9 y12 y14 y15 y29 y30 y49 y50 y51:HV}:RunsTo Tp (plF F) 43 (sub [1,1,1,1,1,1,1,0,1,0,0,1,1,1] B43) (env43 (.agg [.i n,.imm .arg 3 ls]) (.ptr 0 0 0 1) (.imm .lit 1 []) .nilmap (.bool false) (.s tb k) y6 (.map mb) (.ptr sb 0 0 1) y9 (.func 64 [] [.ptr sb 0 0 1]) y12 y14 y15 y29 y30 (.s tb k) (.i (k:Int)) (.i (i:Int)) y49 y50 y51) H .normal ((plF F).keys 43) (env43 (.agg [.i n,.imm .arg 3 ls]) (.ptr 0 0 0 1) (.imm .lit 1 []) .nilmap (.bool false) (.s tb k) y6 (.map mb) (.ptr sb 0 0 1) y9 (.func 64 [] [.ptr sb 0 0 1]) y12 y14 y15 y29 y30 (.s tb k) (.i (k:Int)) (.i (IntKind.i64.wrap ((i:Int)+1))) y49 y50 y51) H :=
  RunsTo.hin N 60 [] fun kf hk=>⟨_,by kernel_rfl,.nil⟩
theorem sk_z_0 (N:Nat) (n:Int) (ls:List HV) (H:Heap) (tb k mb sb ob m:Nat) {y6 y9 y12 y14 y15 y29 y30 y38 y39 y40 y49 y50 y51:HV}(g0:loadV Tp H 24 (.ptr sb 0 0 1)=some (.o ob m)):RunsTo Tp (plF F) 43 (sub [1,1,1,1,1,1,1,1] B43) (env43 (.agg [.i n,.imm .arg 3 ls]) (.ptr 0 0 0 1) (.imm .lit 1 []) .nilmap (.bool false) (.s tb k) y6 (.map mb) (.ptr sb 0 0 1) y9 (.func 64 [] [.ptr sb 0 0 1]) y12 y14 y15 y29 y30 y38 y39 y40 y49 y50 y51) H .ret ((plF F).keys 43) (env43 (.agg [.i n,.imm .arg 3 ls]) (.ptr 0 0 0 1) (.o ob m) (.map mb) (.bool true) (.s tb k) y6 (.map mb) (.ptr sb 0 0 1) y9 (.func 64 [] [.ptr sb 0 0 1]) y12 y14 y15 y29 y30 y38 y39 y40 y49 y50 y51) H :=
  RunsTo.hin N 60 [⟨24,0,.o ob m,H⟩] fun kf hk=>⟨_,by kernel_rfl,(oP H g0 .nil)⟩
end
end Go.Proofs.Ytiejmoglooaalaa
end
section
open Go Go.HL
namespace Go.Proofs.Ytiejmoglooaalaa
open Go.Proofs.Try renaming prog → Tp
open Go.HL.HV renaming undef → Ud
def lwT (O:List Int) (k d:Int):List Int:=if O.getD k.toNat 0 < 0 ∨ d < O.getD k.toNat 0 then O.set k.toNat d else O
theorem lw_len (O:List Int) (k d:Int):(lwT O k d).length=O.length:=by unfold lwT; split <;> simp
theorem u72:Tp.underlying 72=some (.map 3 4):=by kernel_rfl
theorem key3 (x:Int):keyTy Tp 3 (.int .i64 x)=true:=by kernel_rfl
theorem findK_ints (x:Int):∀ (ks:List Int) (i:Nat),x ∉ ks → findK (.int .i64 x) (ks.map encI) i=some none
  | [],_,_=>rfl
  | y :: ks,i,h=>by
    have h1:x ≠ y:=fun c=>h (c ▸ List.mem_cons_self ..)
    simp only [List.map_cons,findK,encI,keyEq,scEq,if_true,decide_eq_false h1]
    exact findK_ints x ks (i+1) fun c=>h (List.mem_cons_of_mem _ c)
section
variable {F:FuncId → Option (List HV → Option HV)}
theorem lw_call (h64:F 64=none) {H:Heap} {sb ob m mx:Nat} {O:List Int} (hs:H[sb]?=some (.arr 1 [.sl ob 0 m (some m) m 1] true mx)) (ho:H[ob]?=some (bI O)) (hm:O.length=m) {k:Int} (hk:0 ≤ k∧k < (m:Int)) (d:Int):ClF F 64 [.int .i64 k,.int .i64 d,.ptr sb 0 0 1] H (.tuple []) (H.set ob (bI (lwT O k d))):=by
  have hr:Try.f64.results.toList=[]:=by kernel_rfl
  have l0:loadV Tp H 24 (.ptr sb 0 0 1)=some (.sl ob 0 m (some m) m 1):=load_elem (b:=sb) hs rfl rfl rfl a24 i24
  have ix:=idxU (b:=ob) (n:=m) (v:=k) hk (cap:=some m)
  have ld:=load_out ho (y:=k.toNat) (by omega)
  have st:=store_out ho (y:=k.toNat) (by omega) d
  rw [hm] at ld st
  by_cases c1:O.getD k.toNat 0 < 0
  · have h:=CallsTo.shared (P:=Tp) (pol:=plF F) (g:=64) (fn:=Try.f64) (cd:=B64) (args:=[.int .i64 k,.int .i64 d,.ptr sb 0 0 1]) (v:=.tuple []) h64 (by kernel_rfl) (by kernel_rfl) (by kernel_rfl) (lo_a_0 (F:=F) k d sb ob m _ H l0 ix ld c1 l0 ix st) (by kernel_rfl) (by simp) (by simp only [resultsV,hr]; rfl)
    rw [gc_eq _ (by simp)] at h
    rw [lwT,if_pos (.inl c1)]; exact h
  by_cases c2:d < O.getD k.toNat 0
  · have h:=CallsTo.shared (P:=Tp) (pol:=plF F) (g:=64) (fn:=Try.f64) (cd:=B64) (args:=[.int .i64 k,.int .i64 d,.ptr sb 0 0 1]) (v:=.tuple []) h64 (by kernel_rfl) (by kernel_rfl) (by kernel_rfl) (lo_a_1 (F:=F) k d sb ob m _ H l0 ix ld c1 l0 ix ld c2 l0 ix st) (by kernel_rfl) (by simp) (by simp only [resultsV,hr]; rfl)
    rw [gc_eq _ (by simp)] at h
    rw [lwT,if_pos (.inr c2)]; exact h
  · have h:=CallsTo.shared (P:=Tp) (pol:=plF F) (g:=64) (fn:=Try.f64) (cd:=B64) (args:=[.int .i64 k,.int .i64 d,.ptr sb 0 0 1]) (v:=.tuple []) h64 (by kernel_rfl) (by kernel_rfl) (by kernel_rfl) (lo_a_2 (F:=F) k d sb ob m _ H l0 ix ld c1 l0 ix ld c2) (by kernel_rfl) (by simp) (by simp only [resultsV,hr]; rfl)
    rw [gc_eq _ rfl] at h
    rw [lwT,if_neg (fun h=>h.elim c1 c2),set_same ho]; exact h
end
def inS (l:List St) (x:Int) (O:List Int) (y:Int):List Int:=lwT (lwT O x (wOf l y - wOf l x)) y (wOf l y - wOf l x)
theorem inS_len (l:List St) (x:Int) (O:List Int) (y:Int):(inS l x O y).length=O.length:=by rw [inS,lw_len,lw_len]
def inF (l:List St) (x:Int) (O ys:List Int):List Int:=ys.foldl (inS l x) O
theorem inF_len (l:List St) (x:Int):∀ (ys O:List Int),(inF l x O ys).length=O.length
  | [],_=>rfl
  | y :: ys,O=>by rw [inF,List.foldl_cons]; exact (inF_len l x ys _).trans (inS_len ..)
theorem inF_succ (l:List St) (x:Int) (O ys:List Int) {j:Nat} (h:j < ys.length):inF l x O (ys.take (j+1))=inS l x (inF l x O (ys.take j)) (ys.getD j 0):=by
  rw [inF,take_snoc h,List.foldl_append]; rfl
def ouF (l:List St) (t O ks:List Int):List Int:=ks.foldl (fun O k=>inF l k O (insT l t k l.length)) O
theorem ouF_len (l:List St) (t:List Int):∀ (ks O:List Int),(ouF l t O ks).length=O.length
  | [],_=>rfl
  | k :: ks,O=>by rw [ouF,List.foldl_cons]; exact (ouF_len l t ks _).trans (inF_len ..)
theorem ouF_succ (l:List St) (t O ks:List Int) {j:Nat} (h:j < ks.length):ouF l t O (ks.take (j+1))=inF l (ks.getD j 0) (ouF l t O (ks.take j)) (insT l t (ks.getD j 0) l.length):=by
  rw [ouF,take_snoc h,List.foldl_append]; rfl
def slT (l:List St):List Int:=ouF l (treeT l) (List.replicate l.length (-1)) (treeT l)
def bM (M:List Int):Blk:=.map (M.map encI) (M.map fun _=>HV.bool true) 0
abbrev bL (m:Nat):Blk:=.arr 1 [.sl 3 0 m (some m) m 1] true 6
abbrev hS (n:Int) (l:List St) (T M O:List Int):Heap:=[bN n l,bI T,bM M,bI O,bL l.length,bI []]
def slack43:List HV → Option HV:=f1 kN fun p=>if netB p.1 p.2=true then some (if connB p.1 p.2=true then .tuple [.own 1 ((slT p.2).map encI),.omap ((treeT p.2).map encI) ((treeT p.2).map fun _=>HV.bool true),.bool true] else .tuple [.own 1 [],.nilmap,.bool false]) else none
theorem res43:Try.f43.results.toList=[.tmp 2,.tmp 3,.tmp 4]:=by kernel_rfl
def prSk:FuncId → Option (List HV → Option HV):=fun g=>if g == 40 then some tree40 else if g == 59 then some instead59 else none
theorem soundSk (n:Nat):CallSound Tp (callN Tp (plF prSk) n):=sound_prim _ (fun g f h=>by
  unfold prSk at h
  split at h
  · rename_i hg; cases h; rw [eq_of_beq hg]; exact tree_ok
  split at h
  · rename_i hg; cases h; rw [eq_of_beq hg]; exact instead_ok
  · cases h) n
theorem tree_nodup (l:List St):(treeT l).Nodup:=by
  have:=tk_sublist l (ordT l) (ordT l).length (Nat.le_refl _)
  rw [List.take_length] at this
  exact this.nodup (ordT_nodup l)
theorem getD_notin {l:List Int} (h:l.Nodup) {i:Nat} (hi:i < l.length):l.getD i 0 ∉ l.take i:=by
  intro c
  have h2:(l.take (i+1)).Nodup:=(List.take_sublist _ _).nodup h
  rw [take_snoc hi] at h2
  exact (List.nodup_append.1 h2).2.2 _ c _ (List.mem_singleton_self _) rfl
theorem sk_round {n:Int} {l:List St} (hnet:netB n l=true) {T O:List Int} (hT:T=treeT l) (hO:O.length=l.length) {i:Nat} (hi:i < T.length) :
    ∃ E0 H1,RunsTo Tp (plF prSk) 43 (sub [1,1,1,1,1,1,1,0,1,0,0] B43) ((env43 (encN n l) (.ptr 0 0 0 1) (.imm .lit 1 []) .nilmap (.bool false) (.sl 1 0 T.length none T.length 1) Ud (.map 2) (.ptr 4 0 0 1) Ud (.func 64 [] [.ptr 4 0 0 1]) Ud Ud Ud Ud Ud (.sl 1 0 T.length none T.length 1) (.int .i64 (T.length:Int)) (.int .i64 ((i:Nat):Int)) Ud Ud Ud)) (hS n l T (T.take i) O) .normal ((plF prSk).keys 43) E0 H1∧lrestr (plF prSk) 43 (sub [1,1,1,1,1,1,1,0,1,0,0] B43) E0=(env43 (encN n l) (.ptr 0 0 0 1) (.imm .lit 1 []) .nilmap (.bool false) (.sl 1 0 T.length none T.length 1) Ud (.map 2) (.ptr 4 0 0 1) Ud (.func 64 [] [.ptr 4 0 0 1]) Ud Ud Ud Ud Ud (.sl 1 0 T.length none T.length 1) (.int .i64 (T.length:Int)) (.int .i64 ((i+1:Nat):Int)) Ud Ud Ud)∧gc 6 (bndE ((env43 (encN n l) (.ptr 0 0 0 1) (.imm .lit 1 []) .nilmap (.bool false) (.sl 1 0 T.length none T.length 1) Ud (.map 2) (.ptr 4 0 0 1) Ud (.func 64 [] [.ptr 4 0 0 1]) Ud Ud Ud Ud Ud (.sl 1 0 T.length none T.length 1) (.int .i64 (T.length:Int)) (.int .i64 ((i+1:Nat):Int)) Ud Ud Ud))) H1=hS n l T (T.take (i+1)) (inF l (T.getD i 0) O (insT l T (T.getD i 0) l.length)):=by
  obtain ⟨⟨n1,n2⟩,n3,he,hw⟩:=netB_ends hnet
  have heB:=endN_B he (by omega)
  have hTin:∀ x ∈ T,0 ≤ x∧x < (l.length:Int):=fun x hx=>tree_in (by rw [← hT]; exact hx)
  have hTn:T.Nodup:=by rw [hT]; exact tree_nodup l
  have hTl:T.length ≤ l.length:=by rw [hT,← fr_len]; exact frT_le l
  have hx:=hTin _ (mem_getD 0 hi)
  have hwt:∀ k:Int,0 ≤ k∧k < (l.length:Int) → 0 ≤ wOf l k∧wOf l k ≤ 1000:=fun k hk=>hw _ (mem_getD _ (by omega))
  have s1:=sk_l_0 (F:=prSk) 0 n (l.map encT) (hS n l T (T.take i) O) 1 T.length 2 4 i (y6:=Ud) (y9:=Ud) (y12:=Ud) (y14:=Ud) (y15:=Ud) (y29:=Ud) (y30:=Ud) (y49:=Ud) (y50:=Ud) (y51:=Ud) (by omega)
  have s2:=sk_lt_0 (F:=prSk) 0 n (l.map encT) (hS n l T (T.take i) O) 1 T.length 2 4 i (y6:=Ud) (y9:=Ud) (y12:=Ud) (y14:=Ud) (y15:=Ud) (y29:=Ud) (y30:=Ud) (y49:=Ud) (y50:=Ud) (y51:=Ud)
  have s3:=sk_m_0 (F:=prSk) 0 n (l.map encT) (hS n l T (T.take i) O) 1 T.length 2 4 i (T.getD i 0) (y6:=Ud) (y9:=Ud) (y12:=Ud) (y14:=Ud) (y15:=Ud) (y29:=Ud) (y30:=Ud) (y49:=Ud) (y50:=Ud) (y51:=Ud) (idxS u24 z3 hi) (load_out (H:=hS n l T (T.take i) O) (k:=1) rfl hi)
  have s4u:updV Tp false 72 (.map 2) (.int .i64 (T.getD i 0)) (.bool true) (hS n l T (T.take i) O)=some (hS n l T (T.take (i+1)) O):=by
    have hk:=key3 (T.getD i 0)
    have hf:=findK_ints (T.getD i 0) (T.take i) 0 (getD_notin hTn hi)
    have hg:(hS n l T (T.take i) O)[2]?=some (.map ((T.take i).map encI) ((T.take i).map fun _=>HV.bool true) 0):=rfl
    have ha:(aggEq (cellsOf (HV.int .i64 (T.getD i 0))) (cellsOf (HV.int .i64 (T.getD i 0)))).isSome=true:=rfl
    simp only [updV,u72,hk,if_true,Bool.false_eq_true,if_false,hg,hf,ha]
    rw [take_snoc hi]
    simp only [hS,bM,List.map_append]
    rfl
  have s4:=sk_o_0 (F:=prSk) 0 n (l.map encT) (hS n l T (T.take i) O) 1 T.length 2 4 i (T.getD i 0) (y6:=Ud) (y9:=Ud) (y14:=Ud) (y15:=Ud) (y29:=Ud) (y30:=Ud) (y49:=Ud) (y50:=Ud) (y51:=Ud) s4u
  have c59:=at3 (pol':=plF prSk) (g:=59) (c1:=kN) (c2:=kL) (c3:=kI) (f:=fun p t o=>if (endB p.2=true∧p.2.length ≤ 500)∧inR p.2.length t=true∧t ≠ []∧t.length ≤ 500 then some (.own 1 ((insT p.2 t o p.2.length).map encI)) else none) (H:=hS n l T (T.take (i+1)) O) (by kernel_rfl) (ShN _ n l) (ShL_sl (b:=1) (l:=T) rfl rfl) (ShI _ (T.getD i 0)) (if_pos ⟨⟨heB,by show l.length ≤ 500; omega⟩,inR_iff.2 hTin,fun h=>by rw [h] at hi; simp at hi,by omega⟩)
  rw [recv_ints] at c59
  have s5:=sk_p_0 (F:=prSk) 0 n (l.map encT) (hS n l T (T.take (i+1)) O) 1 T.length 2 4 i 6 (insT l T (T.getD i 0) l.length).length (T.getD i 0) (y6:=Ud) (y9:=Ud) (y14:=Ud) (y15:=Ud) (y29:=Ud) (y30:=Ud) (y49:=Ud) (y50:=Ud) (y51:=Ud) (ld66 rfl) c59
  have hYin:∀ y ∈ insT l T (T.getD i 0) l.length,0 ≤ y∧y < (l.length:Int):=fun y hy=>startT_mem.1 (List.mem_filter.1 hy).1
  have hYl:=ins_len l T (T.getD i 0) l.length
  generalize insT l T (T.getD i 0) l.length=Y at *
  have hfl:∀ j,(inF l (T.getD i 0) O (Y.take j)).length=l.length:=fun j=>(inF_len ..).trans hO
  have r:=count (pol':=plF prSk) (f:=43) (E:=fun j=>(env43 (encN n l) (.ptr 0 0 0 1) (.imm .lit 1 []) .nilmap (.bool false) (.sl 1 0 T.length none T.length 1) Ud (.map 2) (.ptr 4 0 0 1) Ud (.func 64 [] [.ptr 4 0 0 1]) (.int .i64 (T.getD i 0)) Ud Ud Ud Ud (.sl 1 0 T.length none T.length 1) (.int .i64 (T.length:Int)) (.int .i64 ((i:Nat):Int)) (.sl 6 0 Y.length none Y.length 1) (.int .i64 (Y.length:Int)) (.int .i64 ((j:Nat):Int)))) (Hs:=fun j=>hS n l T (T.take (i+1)) (inF l (T.getD i 0) O (Y.take j)) ++ [bI Y]) Y.length
    (E0:=fun j=>(env43 (encN n l) (.ptr 0 0 0 1) (.imm .lit 1 []) .nilmap (.bool false) (.sl 1 0 T.length none T.length 1) Ud (.map 2) (.ptr 4 0 0 1) Ud (.func 64 [] [.ptr 4 0 0 1]) (.int .i64 (T.getD i 0)) (.int .i64 (Y.getD j 0)) (.int .i64 (wOf l (Y.getD j 0) - wOf l (T.getD i 0))) Ud Ud (.sl 1 0 T.length none T.length 1) (.int .i64 (T.length:Int)) (.int .i64 ((i:Nat):Int)) (.sl 6 0 Y.length none Y.length 1) (.int .i64 (Y.length:Int)) (.int .i64 ((j+1:Nat):Int)))) (H1:=fun j=>hS n l T (T.take (i+1)) (inF l (T.getD i 0) O (Y.take (j+1))) ++ [bI Y])
    (fun j hj=>by
      have hy:=hYin _ (mem_getD 0 hj)
      have w1:=hwt _ hx
      have w2:=hwt _ hy
      have gy:=gs (l:=l) (y:=(Y.getD j 0).toNat) (by omega)
      have gxx:=gs (l:=l) (y:=(T.getD i 0).toNat) (by omega)
      rw [show (((Y.getD j 0).toNat:Nat):Int)=Y.getD j 0 by omega] at gy
      rw [show (((T.getD i 0).toNat:Nat):Int)=T.getD i 0 by omega] at gxx
      have hsucc:=inF_succ l (T.getD i 0) O Y hj
      have hOl:=hfl j
      generalize inF l (T.getD i 0) O (Y.take j)=Oj at *
      have hwr:IntKind.i64.wrap ((l.getD (Y.getD j 0).toNat (0,0,0)).2.2 - (l.getD (T.getD i 0).toNat (0,0,0)).2.2)=wOf l (Y.getD j 0) - wOf l (T.getD i 0):=wrap_id (by show _ ≤ wOf l (Y.getD j 0) - wOf l (T.getD i 0); omega) (by show wOf l (Y.getD j 0) - wOf l (T.getD i 0) < _; omega)
      obtain ⟨N1,k1⟩:=CallsTo.from (lw_call (F:=prSk) (by kernel_rfl) (H:=hS n l T (T.take (i+1)) Oj ++ [bI Y]) (sb:=4) (ob:=3) (mx:=6) rfl rfl hOl hx (wOf l (Y.getD j 0) - wOf l (T.getD i 0)))
      obtain ⟨N2,k2⟩:=CallsTo.from (lw_call (F:=prSk) (by kernel_rfl) (H:=hS n l T (T.take (i+1)) (lwT Oj (T.getD i 0) (wOf l (Y.getD j 0) - wOf l (T.getD i 0))) ++ [bI Y]) (sb:=4) (ob:=3) (mx:=6) rfl rfl (by rw [lw_len]; exact hOl) hy (wOf l (Y.getD j 0) - wOf l (T.getD i 0)))
      have s:=sk_q_0 (F:=prSk) (max N1 N2) n (l.map encT) (hS n l T (T.take (i+1)) Oj ++ [bI Y]) 1 T.length 2 4 i 6 Y.length j (T.getD i 0) (Y.getD j 0) _ _ _ _ _ _ (y6:=Ud) (y9:=Ud) (y14:=Ud) (y15:=Ud) (y29:=Ud) (y30:=Ud) (by omega) (idxS u24 z3 hj) (load_out (H:=hS n l T (T.take (i+1)) Oj ++ [bI Y]) (k:=6) rfl hj) (ld_net (xb:=0) rfl) gy (ld_net (xb:=0) rfl) gxx (fun kf hk=>by rw [hwr]; exact k1 kf (by omega)) (fun kf hk=>by rw [hwr]; exact k2 kf (by omega))
      rw [hwr,wrap_succ (by omega)] at s
      rw [hsucc]
      exact s) (fun j _=>by kernel_rfl) (fun j _=>gc_eq _ rfl) (sk_q_1 (F:=prSk) 0 n (l.map encT) (hS n l T (T.take (i+1)) (inF l (T.getD i 0) O (Y.take Y.length)) ++ [bI Y]) 1 T.length 2 4 i 6 Y.length Y.length (T.getD i 0) 0 0 0 0 0 0 0 (y6:=Ud) (y9:=Ud) (y14:=Ud) (y15:=Ud) (y29:=Ud) (y30:=Ud) (by omega)) (by simp) (c:=sub [1,1,1,1,1,1,1,0,1,0,0,1,1,0,0,1,1,1,0] B43) (by kernel_rfl) (fun j _=>by kernel_rfl)
  rw [List.take_length] at r
  have s7:=sk_r_0 (F:=prSk) 0 n (l.map encT) (hS n l T (T.take (i+1)) (inF l (T.getD i 0) O Y) ++ [bI Y]) 1 T.length 2 4 i (y12:=.int .i64 (T.getD i 0)) (y49:=.sl 6 0 Y.length none Y.length 1) (y50:=.int .i64 (Y.length:Int)) (y51:=.int .i64 (Y.length:Int)) (y6:=Ud) (y9:=Ud) (y14:=Ud) (y15:=Ud) (y29:=Ud) (y30:=Ud)
  rw [wrap_succ (by omega)] at s7
  refine ⟨_,_,sq (s1) (sq (s2) (sq (RunsTo.block_normal (i:=3) (c:=sub [1,1,1,1,1,1,1,0,1,0,0,1,1,0] B43) (sq (s3) (sq (s4) (sq (s5) (bke (c:=sub [1,1,1,1,1,1,1,0,1,0,0,1,1,0,0,1,1,1] B43) (r)) (c:=sub [1,1,1,1,1,1,1,0,1,0,0,1,1,0,0,1,1] B43)) (c:=sub [1,1,1,1,1,1,1,0,1,0,0,1,1,0,0,1] B43)) (c:=sub [1,1,1,1,1,1,1,0,1,0,0,1,1,0,0] B43)) (by kernel_rfl)) (s7) (c:=sub [1,1,1,1,1,1,1,0,1,0,0,1,1] B43)) (c:=sub [1,1,1,1,1,1,1,0,1,0,0,1] B43)) (c:=sub [1,1,1,1,1,1,1,0,1,0,0] B43),by kernel_rfl,?_⟩
  have hb:bndE ((env43 (encN n l) (.ptr 0 0 0 1) (.imm .lit 1 []) .nilmap (.bool false) (.sl 1 0 T.length none T.length 1) Ud (.map 2) (.ptr 4 0 0 1) Ud (.func 64 [] [.ptr 4 0 0 1]) Ud Ud Ud Ud Ud (.sl 1 0 T.length none T.length 1) (.int .i64 (T.length:Int)) (.int .i64 ((i+1:Nat):Int)) Ud Ud Ud))=5:=by simp only [bndE,bnd,bndL,encN]; rfl
  rw [hb]
  exact gc_back (H:=hS n l T (T.take (i+1)) (inF l (T.getD i 0) O Y)) (by show max 0 (max 0 (max 0 (max 0 (max 6 (max 0 (max 0 0)))))) ≤ 6; decide) (by show 5 ≤ 6; decide)
end Go.Proofs.Ytiejmoglooaalaa
end
section
open Go Go.HL
namespace Go.Proofs.Ytiejmoglooaalaa
set_option maxRecDepth 100000
open Go.Proofs.Try renaming prog → Tp
open Go.HL.HV renaming undef → Ud
section
variable {F:FuncId → Option (List HV → Option HV)}
noncomputable def B32:Code:=Try.f32.body.getD .skip
abbrev env32 (v0 v1 v4 v5 v7 v8 v9 v10 v11 v12 v13:HV):Env:=[(0,v0),(1,v1),(4,v4),(5,v5),(7,v7),(8,v8),(9,v9),(10,v10),(11,v11),(12,v12),(13,v13)]
theorem rk_a_0 (n:Int) (ls:List HV) :RunsTo Tp (plF F) 32 (sub [0] B32) [(0,.i n),(1,.imm .arg 3 ls)] [] .normal ((plF F).keys 32) (env32 (.i n) (.imm .arg 3 ls) (.imm .lit 1 []) Ud Ud Ud Ud Ud Ud Ud Ud) [] :=
  RunsTo.hin 0 60 [] fun kf hk=>⟨_,by kernel_rfl,.nil⟩
theorem rk_b_0 (n:Int) (ls:List HV) (H:Heap) (fb m:Nat) {y5 y7 y8 y9 y10 y11 y12 y13:HV} {H0:Heap} (g0:∀ kf,callN Tp (plF F) (kf+1) 20 [.i n,.imm .arg 3 ls] H=some (.tuple [.s fb m,.bool true],H0)):RunsTo Tp (plF F) 32 (sub [1,0] B32) (env32 (.i n) (.imm .arg 3 ls) (.imm .lit 1 []) y5 y7 y8 y9 y10 y11 y12 y13) H .normal ((plF F).keys 32) (env32 (.i n) (.imm .arg 3 ls) (.imm .lit 1 []) (.s fb m) y7 y8 y9 y10 y11 y12 y13) H0 :=
  RunsTo.hin 0 60 [⟨1,2,.tuple [.s fb m,.bool true],H0⟩] fun kf hk=>⟨_,by kernel_rfl,(oC (g0 kf) .nil)⟩
theorem rk_b_1 (n:Int) (ls:List HV) (H:Heap) (fb m:Nat) {y5 y7 y8 y9 y10 y11 y12 y13:HV} {H0:Heap} (g0:∀ kf,callN Tp (plF F) (kf+1) 20 [.i n,.imm .arg 3 ls] H=some (.tuple [.s fb m,.bool false],H0)):RunsTo Tp (plF F) 32 (sub [1,0] B32) (env32 (.i n) (.imm .arg 3 ls) (.imm .lit 1 []) y5 y7 y8 y9 y10 y11 y12 y13) H .normal ((plF F).keys 32) (env32 (.i n) (.imm .arg 3 ls) (.imm .lit 1 []) (.s fb m) y7 y8 y9 y10 y11 y12 y13) H0 :=
  RunsTo.hin 0 60 [⟨1,2,.tuple [.s fb m,.bool false],H0⟩] fun kf hk=>⟨_,by kernel_rfl,(oC (g0 kf) .nil)⟩
theorem rk_c_0 (n:Int) (ls:List HV) (H:Heap) (fb m:Nat) (ob c:Nat) {y7 y8 y9 y10 y11 y12 y13:HV} {v0:HV} {H0:Heap} (g0:some (HV.sl H.length 0 0 none 0 1,H ++ [Blk.b []])=some (v0,H0)):RunsTo Tp (plF F) 32 (sub [1,1,0] B32) (env32 (.i n) (.imm .arg 3 ls) (.imm .lit 1 []) (.s fb m) y7 y8 y9 y10 y11 y12 y13) H .normal ((plF F).keys 32) (env32 (.i n) (.imm .arg 3 ls) (.imm .lit 1 []) (.s fb m) v0 y8 y9 y10 y11 y12 y13) H0 :=
  RunsTo.hin 0 60 [⟨2,0,v0,H0⟩] fun kf hk=>⟨_,by kernel_rfl,(oC (g0) .nil)⟩
theorem rk_d_0 (n:Int) (ls:List HV) (H:Heap) (fb m:Nat) (ob c:Nat) {y8 y9 y10 y11 y12 y13:HV}:RunsTo Tp (plF F) 32 (sub [1,1,1,0,0] B32) (env32 (.i n) (.imm .arg 3 ls) (.imm .lit 1 []) (.s fb m) (.s ob c) y8 y9 y10 y11 y12 y13) H .normal ((plF F).keys 32) (env32 (.i n) (.imm .arg 3 ls) (.imm .lit 1 []) (.s fb m) (.s ob c) (.i 0) y9 y10 y11 y12 y13) H :=
  RunsTo.hin 0 60 [] fun kf hk=>⟨_,by kernel_rfl,.nil⟩
theorem rk_e_0 (n:Int) (ls:List HV) (H:Heap) (fb m:Nat) (ob c i:Nat) {y9 y10 y11 y12 y13:HV}(g0:(i:Int) < (ls.length:Int)):RunsTo Tp (plF F) 32 (sub [1,1,1,0,1,0,0,0] B32) (env32 (.i n) (.imm .arg 3 ls) (.imm .lit 1 []) (.s fb m) (.s ob c) (.i (i:Int)) y9 y10 y11 y12 y13) H .normal ((plF F).keys 32) (env32 (.i n) (.imm .arg 3 ls) (.imm .lit 1 []) (.s fb m) (.s ob c) (.i (i:Int)) y9 y10 y11 y12 y13) H :=
  RunsTo.hin 0 60 [⟨4,3,.bool true,H⟩] fun kf hk=>⟨_,by kernel_rfl,(oB H (decide_eq_true g0) .nil)⟩
theorem rk_e_1 (n:Int) (ls:List HV) (H:Heap) (fb m:Nat) (ob c i:Nat) {y9 y10 y11 y12 y13:HV}(g0:¬ ((i:Int) < (ls.length:Int))):RunsTo Tp (plF F) 32 (sub [1,1,1,0,1,0,0,0] B32) (env32 (.i n) (.imm .arg 3 ls) (.imm .lit 1 []) (.s fb m) (.s ob c) (.i (i:Int)) y9 y10 y11 y12 y13) H (.exit 0) ((plF F).keys 32) (env32 (.i n) (.imm .arg 3 ls) (.imm .lit 1 []) (.s fb m) (.s ob c) (.i (i:Int)) y9 y10 y11 y12 y13) H :=
  RunsTo.hin 0 60 [⟨4,3,.bool false,H⟩] fun kf hk=>⟨_,by kernel_rfl,(oB H (decide_eq_false g0) .nil)⟩
theorem rk_f_0 (n:Int) (ls:List HV) (H:Heap) (fb m:Nat) (ob c i:Nat) {y9 y10 y11 y12 y13:HV}:RunsTo Tp (plF F) 32 (sub [1,1,1,0,1,0,0,1,0,0,0] B32) (env32 (.i n) (.imm .arg 3 ls) (.imm .lit 1 []) (.s fb m) (.s ob c) (.i (i:Int)) y9 y10 y11 y12 y13) H .normal ((plF F).keys 32) (env32 (.i n) (.imm .arg 3 ls) (.imm .lit 1 []) (.s fb m) (.s ob c) (.i (i:Int)) (.i (-1)) y10 y11 y12 y13) H :=
  RunsTo.hin 0 60 [] fun kf hk=>⟨_,by kernel_rfl,.nil⟩
theorem rk_g_0 (n:Int) (ls:List HV) (H:Heap) (fb m:Nat) (ob c i:Nat) (g:Int) {y10 y11 y12 y13:HV} {H0:Heap} (g0:∀ kf,callN Tp (plF F) (kf+1) 51 [.s fb m,.i (i:Int)] H=some (.bool true,H0)):RunsTo Tp (plF F) 32 (sub [1,1,1,0,1,0,0,1,0,0,1,0,0] B32) (env32 (.i n) (.imm .arg 3 ls) (.imm .lit 1 []) (.s fb m) (.s ob c) (.i (i:Int)) (.i g) y10 y11 y12 y13) H .normal [0,1,4,5,7,8,9,10,11,12,13,28] [(0,.i n),(1,.imm .arg 3 ls),(4,.imm .lit 1 []),(5,.s fb m),(7,.s ob c),(8,.i (i:Int)),(9,.i g),(10,y10),(11,y11),(12,y12),(13,y13),(28,.bool true)] H0 :=
  RunsTo.hin 0 60 [⟨7,2,.bool true,H0⟩] fun kf hk=>⟨_,by kernel_rfl,(oC (g0 kf) .nil)⟩
theorem rk_g_1 (n:Int) (ls:List HV) (H:Heap) (fb m:Nat) (ob c i:Nat) (g:Int) {y10 y11 y12 y13:HV} {H0:Heap} (g0:∀ kf,callN Tp (plF F) (kf+1) 51 [.s fb m,.i (i:Int)] H=some (.bool false,H0)):RunsTo Tp (plF F) 32 (sub [1,1,1,0,1,0,0,1,0,0,1,0,0] B32) (env32 (.i n) (.imm .arg 3 ls) (.imm .lit 1 []) (.s fb m) (.s ob c) (.i (i:Int)) (.i g) y10 y11 y12 y13) H .normal [0,1,4,5,7,8,9,10,11,12,13,28] [(0,.i n),(1,.imm .arg 3 ls),(4,.imm .lit 1 []),(5,.s fb m),(7,.s ob c),(8,.i (i:Int)),(9,.i g),(10,y10),(11,y11),(12,y12),(13,y13),(28,.bool false)] H0 :=
  RunsTo.hin 0 60 [⟨7,2,.bool false,H0⟩] fun kf hk=>⟨_,by kernel_rfl,(oC (g0 kf) .nil)⟩
theorem rk_h_0 (n:Int) (ls:List HV) (H:Heap) (fb m:Nat) (ob c i:Nat) (g:Int) {y10 y11 y12 y13:HV}:RunsTo Tp (plF F) 32 (sub [1,1,1,0,1,0,0,1,0,0,1,0,1,0,0] B32) (env32 (.i n) (.imm .arg 3 ls) (.imm .lit 1 []) (.s fb m) (.s ob c) (.i (i:Int)) (.i g) y10 y11 y12 y13) H .normal ((plF F).keys 32) (env32 (.i n) (.imm .arg 3 ls) (.imm .lit 1 []) (.s fb m) (.s ob c) (.i (i:Int)) (.i g) (.i 0) y11 y12 y13) H :=
  RunsTo.hin 0 60 [] fun kf hk=>⟨_,by kernel_rfl,.nil⟩
theorem rk_i_0 (n:Int) (ls:List HV) (H:Heap) (fb m:Nat) (ob c i:Nat) (g:Int) {y10 y11 y12 y13:HV}:RunsTo Tp (plF F) 32 (sub [1,1,1,0,1,0,0,1,0,0,1,0,1,1,0] B32) (env32 (.i n) (.imm .arg 3 ls) (.imm .lit 1 []) (.s fb m) (.s ob c) (.i (i:Int)) (.i g) y10 y11 y12 y13) H .normal ((plF F).keys 32) (env32 (.i n) (.imm .arg 3 ls) (.imm .lit 1 []) (.s fb m) (.s ob c) (.i (i:Int)) (.i g) y10 (.i 0) y12 y13) H :=
  RunsTo.hin 0 60 [] fun kf hk=>⟨_,by kernel_rfl,.nil⟩
theorem rk_k_0 (n:Int) (ls:List HV) (H:Heap) (fb m:Nat) (ob c i:Nat) (k wb q:Nat) (g a b w a2 b2 w2:Int) {y11 y12 y13:HV} {H0:Heap} (g0:(k:Int) < (ls.length:Int)) (g1:∀ kf,callN Tp (plF F) (kf+1) 51 [.s fb m,.i (k:Int)] H=some (.bool true,H0)):RunsTo Tp (plF F) 32 (sub [1,1,1,0,1,0,0,1,0,0,1,0,1,0,1,0,0] B32) (env32 (.i n) (.imm .arg 3 ls) (.imm .lit 1 []) (.s fb m) (.s ob c) (.i (i:Int)) (.i g) (.i (k:Int)) y11 y12 y13) H .normal ((plF F).keys 32) (env32 (.i n) (.imm .arg 3 ls) (.imm .lit 1 []) (.s fb m) (.s ob c) (.i (i:Int)) (.i g) (.i (IntKind.i64.wrap ((k:Int)+1))) y11 y12 y13) H0 :=
  RunsTo.hin 0 60 [⟨9,3,.bool true,H⟩,⟨11,2,.bool true,H0⟩] fun kf hk=>⟨_,by kernel_rfl,(oB H (decide_eq_true g0) (oC (g1 kf) .nil))⟩
theorem rk_k_1 (n:Int) (ls:List HV) (H:Heap) (fb m:Nat) (ob c i:Nat) (k wb q:Nat) (g a b w a2 b2 w2:Int) {y11 y12 y13:HV} {H0:Heap} {H1:Heap} {H2:Heap} (g0:(k:Int) < (ls.length:Int)) (g1:∀ kf,callN Tp (plF F) (kf+1) 51 [.s fb m,.i (k:Int)] H=some (.bool false,H0)) (g2:∀ kf,callN Tp (plF F) (kf+1) 36 [.s fb m,.i (i:Int),.i (k:Int)] H0=some (.s wb q,H1)) (g3:∀ kf,callN Tp (plF F) (kf+1) 28 [.i n,.imm .arg 3 ls,.s wb q] H1=some (.bool true,H2)) (g4:g < 0) (g5:idxV Tp 22 (.imm .arg 3 ls) (.i (k:Int))=some (.vptr (.agg [.i a,.i b,.i w]))) (g6:idxV Tp 22 (.imm .arg 3 ls) (.i (i:Int))=some (.vptr (.agg [.i a2,.i b2,.i w2]))):RunsTo Tp (plF F) 32 (sub [1,1,1,0,1,0,0,1,0,0,1,0,1,0,1,0,0] B32) (env32 (.i n) (.imm .arg 3 ls) (.imm .lit 1 []) (.s fb m) (.s ob c) (.i (i:Int)) (.i g) (.i (k:Int)) y11 y12 y13) H .normal ((plF F).keys 32) (env32 (.i n) (.imm .arg 3 ls) (.imm .lit 1 []) (.s fb m) (.s ob c) (.i (i:Int)) (.i (IntKind.i64.wrap (w - w2))) (.i (IntKind.i64.wrap ((k:Int)+1))) y11 y12 y13) H2 :=
  RunsTo.hin 0 60 [⟨9,3,.bool true,H⟩,⟨11,2,.bool false,H0⟩,⟨11,10,.s wb q,H1⟩,⟨11,11,.bool true,H2⟩,⟨11,15,.bool true,H2⟩,⟨12,2,.vptr (.agg [.i a,.i b,.i w]),H2⟩,⟨12,7,.vptr (.agg [.i a2,.i b2,.i w2]),H2⟩] fun kf hk=>⟨_,by kernel_rfl,(oB H (decide_eq_true g0) (oC (g1 kf) (oC (g2 kf) (oC (g3 kf) (oB H2 (decide_eq_true g4) (oP H2 g5 (oP H2 g6 .nil)))))))⟩
theorem rk_k_2 (n:Int) (ls:List HV) (H:Heap) (fb m:Nat) (ob c i:Nat) (k wb q:Nat) (g a b w a2 b2 w2:Int) {y11 y12 y13:HV} {H0:Heap} {H1:Heap} {H2:Heap} (g0:(k:Int) < (ls.length:Int)) (g1:∀ kf,callN Tp (plF F) (kf+1) 51 [.s fb m,.i (k:Int)] H=some (.bool false,H0)) (g2:∀ kf,callN Tp (plF F) (kf+1) 36 [.s fb m,.i (i:Int),.i (k:Int)] H0=some (.s wb q,H1)) (g3:∀ kf,callN Tp (plF F) (kf+1) 28 [.i n,.imm .arg 3 ls,.s wb q] H1=some (.bool true,H2)) (g4:¬ (g < 0)) (g5:idxV Tp 22 (.imm .arg 3 ls) (.i (k:Int))=some (.vptr (.agg [.i a,.i b,.i w]))) (g6:idxV Tp 22 (.imm .arg 3 ls) (.i (i:Int))=some (.vptr (.agg [.i a2,.i b2,.i w2]))) (g7:IntKind.i64.wrap (w - w2) < g) (g8:idxV Tp 22 (.imm .arg 3 ls) (.i (k:Int))=some (.vptr (.agg [.i a,.i b,.i w]))) (g9:idxV Tp 22 (.imm .arg 3 ls) (.i (i:Int))=some (.vptr (.agg [.i a2,.i b2,.i w2]))):RunsTo Tp (plF F) 32 (sub [1,1,1,0,1,0,0,1,0,0,1,0,1,0,1,0,0] B32) (env32 (.i n) (.imm .arg 3 ls) (.imm .lit 1 []) (.s fb m) (.s ob c) (.i (i:Int)) (.i g) (.i (k:Int)) y11 y12 y13) H .normal ((plF F).keys 32) (env32 (.i n) (.imm .arg 3 ls) (.imm .lit 1 []) (.s fb m) (.s ob c) (.i (i:Int)) (.i (IntKind.i64.wrap (w - w2))) (.i (IntKind.i64.wrap ((k:Int)+1))) y11 y12 y13) H2 :=
  RunsTo.hin 0 60 [⟨9,3,.bool true,H⟩,⟨11,2,.bool false,H0⟩,⟨11,10,.s wb q,H1⟩,⟨11,11,.bool true,H2⟩,⟨11,15,.bool false,H2⟩,⟨11,19,.vptr (.agg [.i a,.i b,.i w]),H2⟩,⟨11,24,.vptr (.agg [.i a2,.i b2,.i w2]),H2⟩,⟨11,29,.bool true,H2⟩,⟨12,2,.vptr (.agg [.i a,.i b,.i w]),H2⟩,⟨12,7,.vptr (.agg [.i a2,.i b2,.i w2]),H2⟩] fun kf hk=>⟨_,by kernel_rfl,(oB H (decide_eq_true g0) (oC (g1 kf) (oC (g2 kf) (oC (g3 kf) (oB H2 (decide_eq_false g4) (oP H2 g5 (oP H2 g6 (oB H2 (decide_eq_true g7) (oP H2 g8 (oP H2 g9 .nil))))))))))⟩
theorem rk_k_3 (n:Int) (ls:List HV) (H:Heap) (fb m:Nat) (ob c i:Nat) (k wb q:Nat) (g a b w a2 b2 w2:Int) {y11 y12 y13:HV} {H0:Heap} {H1:Heap} {H2:Heap} (g0:(k:Int) < (ls.length:Int)) (g1:∀ kf,callN Tp (plF F) (kf+1) 51 [.s fb m,.i (k:Int)] H=some (.bool false,H0)) (g2:∀ kf,callN Tp (plF F) (kf+1) 36 [.s fb m,.i (i:Int),.i (k:Int)] H0=some (.s wb q,H1)) (g3:∀ kf,callN Tp (plF F) (kf+1) 28 [.i n,.imm .arg 3 ls,.s wb q] H1=some (.bool true,H2)) (g4:¬ (g < 0)) (g5:idxV Tp 22 (.imm .arg 3 ls) (.i (k:Int))=some (.vptr (.agg [.i a,.i b,.i w]))) (g6:idxV Tp 22 (.imm .arg 3 ls) (.i (i:Int))=some (.vptr (.agg [.i a2,.i b2,.i w2]))) (g7:¬ (IntKind.i64.wrap (w - w2) < g)):RunsTo Tp (plF F) 32 (sub [1,1,1,0,1,0,0,1,0,0,1,0,1,0,1,0,0] B32) (env32 (.i n) (.imm .arg 3 ls) (.imm .lit 1 []) (.s fb m) (.s ob c) (.i (i:Int)) (.i g) (.i (k:Int)) y11 y12 y13) H .normal ((plF F).keys 32) (env32 (.i n) (.imm .arg 3 ls) (.imm .lit 1 []) (.s fb m) (.s ob c) (.i (i:Int)) (.i g) (.i (IntKind.i64.wrap ((k:Int)+1))) y11 y12 y13) H2 :=
  RunsTo.hin 0 60 [⟨9,3,.bool true,H⟩,⟨11,2,.bool false,H0⟩,⟨11,10,.s wb q,H1⟩,⟨11,11,.bool true,H2⟩,⟨11,15,.bool false,H2⟩,⟨11,19,.vptr (.agg [.i a,.i b,.i w]),H2⟩,⟨11,24,.vptr (.agg [.i a2,.i b2,.i w2]),H2⟩,⟨11,29,.bool false,H2⟩] fun kf hk=>⟨_,by kernel_rfl,(oB H (decide_eq_true g0) (oC (g1 kf) (oC (g2 kf) (oC (g3 kf) (oB H2 (decide_eq_false g4) (oP H2 g5 (oP H2 g6 (oB H2 (decide_eq_false g7) .nil))))))))⟩
theorem rk_k_4 (n:Int) (ls:List HV) (H:Heap) (fb m:Nat) (ob c i:Nat) (k wb q:Nat) (g a b w a2 b2 w2:Int) {y11 y12 y13:HV} {H0:Heap} {H1:Heap} {H2:Heap} (g0:(k:Int) < (ls.length:Int)) (g1:∀ kf,callN Tp (plF F) (kf+1) 51 [.s fb m,.i (k:Int)] H=some (.bool false,H0)) (g2:∀ kf,callN Tp (plF F) (kf+1) 36 [.s fb m,.i (i:Int),.i (k:Int)] H0=some (.s wb q,H1)) (g3:∀ kf,callN Tp (plF F) (kf+1) 28 [.i n,.imm .arg 3 ls,.s wb q] H1=some (.bool false,H2)):RunsTo Tp (plF F) 32 (sub [1,1,1,0,1,0,0,1,0,0,1,0,1,0,1,0,0] B32) (env32 (.i n) (.imm .arg 3 ls) (.imm .lit 1 []) (.s fb m) (.s ob c) (.i (i:Int)) (.i g) (.i (k:Int)) y11 y12 y13) H .normal ((plF F).keys 32) (env32 (.i n) (.imm .arg 3 ls) (.imm .lit 1 []) (.s fb m) (.s ob c) (.i (i:Int)) (.i g) (.i (IntKind.i64.wrap ((k:Int)+1))) y11 y12 y13) H2 :=
  RunsTo.hin 0 60 [⟨9,3,.bool true,H⟩,⟨11,2,.bool false,H0⟩,⟨11,10,.s wb q,H1⟩,⟨11,11,.bool false,H2⟩] fun kf hk=>⟨_,by kernel_rfl,(oB H (decide_eq_true g0) (oC (g1 kf) (oC (g2 kf) (oC (g3 kf) .nil))))⟩
theorem rk_k_5 (n:Int) (ls:List HV) (H:Heap) (fb m:Nat) (ob c i:Nat) (k wb q:Nat) (g a b w a2 b2 w2:Int) {y11 y12 y13:HV}(g0:¬ ((k:Int) < (ls.length:Int))):RunsTo Tp (plF F) 32 (sub [1,1,1,0,1,0,0,1,0,0,1,0,1,0,1,0,0] B32) (env32 (.i n) (.imm .arg 3 ls) (.imm .lit 1 []) (.s fb m) (.s ob c) (.i (i:Int)) (.i g) (.i (k:Int)) y11 y12 y13) H (.exit 2) ((plF F).keys 32) (env32 (.i n) (.imm .arg 3 ls) (.imm .lit 1 []) (.s fb m) (.s ob c) (.i (i:Int)) (.i g) (.i (k:Int)) y11 y12 y13) H :=
  RunsTo.hin 0 60 [⟨9,3,.bool false,H⟩] fun kf hk=>⟨_,by kernel_rfl,(oB H (decide_eq_false g0) .nil)⟩
theorem rk_l_0 (n:Int) (ls:List HV) (H:Heap) (fb m:Nat) (ob c i:Nat) (j wb q:Nat) (g x a b w a2 b2 w2:Int) {y10 y12 y13:HV} {H0:Heap} {H1:Heap} (g0:(j:Int) < (m:Int)) (g1:idxV Tp 24 (.s fb m) (.i (j:Int))=some (.ptr fb j 0 m)) (g2:loadV Tp H 3 (.ptr fb j 0 m)=some (.i x)) (g3:idxV Tp 22 (.imm .arg 3 ls) (.i (i:Int))=some (.vptr (.agg [.i a2,.i b2,.i w2]))) (g4:idxV Tp 22 (.imm .arg 3 ls) (.i x)=some (.vptr (.agg [.i a,.i b,.i w]))) (g5:∀ kf,callN Tp (plF F) (kf+1) 36 [.s fb m,.i x,.i (i:Int)] H=some (.s wb q,H0)) (g6:∀ kf,callN Tp (plF F) (kf+1) 28 [.i n,.imm .arg 3 ls,.s wb q] H0=some (.bool true,H1)) (g7:g < 0):RunsTo Tp (plF F) 32 (sub [1,1,1,0,1,0,0,1,0,0,1,0,1,1,1,0,0] B32) (env32 (.i n) (.imm .arg 3 ls) (.imm .lit 1 []) (.s fb m) (.s ob c) (.i (i:Int)) (.i g) y10 (.i (j:Int)) y12 y13) H .normal ((plF F).keys 32) (env32 (.i n) (.imm .arg 3 ls) (.imm .lit 1 []) (.s fb m) (.s ob c) (.i (i:Int)) (.i (IntKind.i64.wrap (w2 - w))) y10 (.i (IntKind.i64.wrap ((j:Int)+1))) (.i x) (.i (IntKind.i64.wrap (w2 - w)))) H1 :=
  RunsTo.hin 0 60 [⟨14,3,.bool true,H⟩,⟨16,2,.ptr fb j 0 m,H⟩,⟨16,3,.i x,H⟩,⟨17,2,.vptr (.agg [.i a2,.i b2,.i w2]),H⟩,⟨17,7,.vptr (.agg [.i a,.i b,.i w]),H⟩,⟨18,5,.s wb q,H0⟩,⟨18,6,.bool true,H1⟩,⟨18,9,.bool true,H1⟩] fun kf hk=>⟨_,by kernel_rfl,(oB H (decide_eq_true g0) (oP H g1 (oP H g2 (oP H g3 (oP H g4 (oC (g5 kf) (oC (g6 kf) (oB H1 (decide_eq_true g7) .nil))))))))⟩
theorem rk_l_1 (n:Int) (ls:List HV) (H:Heap) (fb m:Nat) (ob c i:Nat) (j wb q:Nat) (g x a b w a2 b2 w2:Int) {y10 y12 y13:HV} {H0:Heap} {H1:Heap} (g0:(j:Int) < (m:Int)) (g1:idxV Tp 24 (.s fb m) (.i (j:Int))=some (.ptr fb j 0 m)) (g2:loadV Tp H 3 (.ptr fb j 0 m)=some (.i x)) (g3:idxV Tp 22 (.imm .arg 3 ls) (.i (i:Int))=some (.vptr (.agg [.i a2,.i b2,.i w2]))) (g4:idxV Tp 22 (.imm .arg 3 ls) (.i x)=some (.vptr (.agg [.i a,.i b,.i w]))) (g5:∀ kf,callN Tp (plF F) (kf+1) 36 [.s fb m,.i x,.i (i:Int)] H=some (.s wb q,H0)) (g6:∀ kf,callN Tp (plF F) (kf+1) 28 [.i n,.imm .arg 3 ls,.s wb q] H0=some (.bool true,H1)) (g7:¬ (g < 0)) (g8:IntKind.i64.wrap (w2 - w) < g):RunsTo Tp (plF F) 32 (sub [1,1,1,0,1,0,0,1,0,0,1,0,1,1,1,0,0] B32) (env32 (.i n) (.imm .arg 3 ls) (.imm .lit 1 []) (.s fb m) (.s ob c) (.i (i:Int)) (.i g) y10 (.i (j:Int)) y12 y13) H .normal ((plF F).keys 32) (env32 (.i n) (.imm .arg 3 ls) (.imm .lit 1 []) (.s fb m) (.s ob c) (.i (i:Int)) (.i (IntKind.i64.wrap (w2 - w))) y10 (.i (IntKind.i64.wrap ((j:Int)+1))) (.i x) (.i (IntKind.i64.wrap (w2 - w)))) H1 :=
  RunsTo.hin 0 60 [⟨14,3,.bool true,H⟩,⟨16,2,.ptr fb j 0 m,H⟩,⟨16,3,.i x,H⟩,⟨17,2,.vptr (.agg [.i a2,.i b2,.i w2]),H⟩,⟨17,7,.vptr (.agg [.i a,.i b,.i w]),H⟩,⟨18,5,.s wb q,H0⟩,⟨18,6,.bool true,H1⟩,⟨18,9,.bool false,H1⟩,⟨18,13,.bool true,H1⟩] fun kf hk=>⟨_,by kernel_rfl,(oB H (decide_eq_true g0) (oP H g1 (oP H g2 (oP H g3 (oP H g4 (oC (g5 kf) (oC (g6 kf) (oB H1 (decide_eq_false g7) (oB H1 (decide_eq_true g8) .nil)))))))))⟩
theorem rk_l_2 (n:Int) (ls:List HV) (H:Heap) (fb m:Nat) (ob c i:Nat) (j wb q:Nat) (g x a b w a2 b2 w2:Int) {y10 y12 y13:HV} {H0:Heap} {H1:Heap} (g0:(j:Int) < (m:Int)) (g1:idxV Tp 24 (.s fb m) (.i (j:Int))=some (.ptr fb j 0 m)) (g2:loadV Tp H 3 (.ptr fb j 0 m)=some (.i x)) (g3:idxV Tp 22 (.imm .arg 3 ls) (.i (i:Int))=some (.vptr (.agg [.i a2,.i b2,.i w2]))) (g4:idxV Tp 22 (.imm .arg 3 ls) (.i x)=some (.vptr (.agg [.i a,.i b,.i w]))) (g5:∀ kf,callN Tp (plF F) (kf+1) 36 [.s fb m,.i x,.i (i:Int)] H=some (.s wb q,H0)) (g6:∀ kf,callN Tp (plF F) (kf+1) 28 [.i n,.imm .arg 3 ls,.s wb q] H0=some (.bool true,H1)) (g7:¬ (g < 0)) (g8:¬ (IntKind.i64.wrap (w2 - w) < g)):RunsTo Tp (plF F) 32 (sub [1,1,1,0,1,0,0,1,0,0,1,0,1,1,1,0,0] B32) (env32 (.i n) (.imm .arg 3 ls) (.imm .lit 1 []) (.s fb m) (.s ob c) (.i (i:Int)) (.i g) y10 (.i (j:Int)) y12 y13) H .normal ((plF F).keys 32) (env32 (.i n) (.imm .arg 3 ls) (.imm .lit 1 []) (.s fb m) (.s ob c) (.i (i:Int)) (.i g) y10 (.i (IntKind.i64.wrap ((j:Int)+1))) (.i x) (.i (IntKind.i64.wrap (w2 - w)))) H1 :=
  RunsTo.hin 0 60 [⟨14,3,.bool true,H⟩,⟨16,2,.ptr fb j 0 m,H⟩,⟨16,3,.i x,H⟩,⟨17,2,.vptr (.agg [.i a2,.i b2,.i w2]),H⟩,⟨17,7,.vptr (.agg [.i a,.i b,.i w]),H⟩,⟨18,5,.s wb q,H0⟩,⟨18,6,.bool true,H1⟩,⟨18,9,.bool false,H1⟩,⟨18,13,.bool false,H1⟩] fun kf hk=>⟨_,by kernel_rfl,(oB H (decide_eq_true g0) (oP H g1 (oP H g2 (oP H g3 (oP H g4 (oC (g5 kf) (oC (g6 kf) (oB H1 (decide_eq_false g7) (oB H1 (decide_eq_false g8) .nil)))))))))⟩
theorem rk_l_3 (n:Int) (ls:List HV) (H:Heap) (fb m:Nat) (ob c i:Nat) (j wb q:Nat) (g x a b w a2 b2 w2:Int) {y10 y12 y13:HV} {H0:Heap} {H1:Heap} (g0:(j:Int) < (m:Int)) (g1:idxV Tp 24 (.s fb m) (.i (j:Int))=some (.ptr fb j 0 m)) (g2:loadV Tp H 3 (.ptr fb j 0 m)=some (.i x)) (g3:idxV Tp 22 (.imm .arg 3 ls) (.i (i:Int))=some (.vptr (.agg [.i a2,.i b2,.i w2]))) (g4:idxV Tp 22 (.imm .arg 3 ls) (.i x)=some (.vptr (.agg [.i a,.i b,.i w]))) (g5:∀ kf,callN Tp (plF F) (kf+1) 36 [.s fb m,.i x,.i (i:Int)] H=some (.s wb q,H0)) (g6:∀ kf,callN Tp (plF F) (kf+1) 28 [.i n,.imm .arg 3 ls,.s wb q] H0=some (.bool false,H1)):RunsTo Tp (plF F) 32 (sub [1,1,1,0,1,0,0,1,0,0,1,0,1,1,1,0,0] B32) (env32 (.i n) (.imm .arg 3 ls) (.imm .lit 1 []) (.s fb m) (.s ob c) (.i (i:Int)) (.i g) y10 (.i (j:Int)) y12 y13) H .normal ((plF F).keys 32) (env32 (.i n) (.imm .arg 3 ls) (.imm .lit 1 []) (.s fb m) (.s ob c) (.i (i:Int)) (.i g) y10 (.i (IntKind.i64.wrap ((j:Int)+1))) (.i x) (.i (IntKind.i64.wrap (w2 - w)))) H1 :=
  RunsTo.hin 0 60 [⟨14,3,.bool true,H⟩,⟨16,2,.ptr fb j 0 m,H⟩,⟨16,3,.i x,H⟩,⟨17,2,.vptr (.agg [.i a2,.i b2,.i w2]),H⟩,⟨17,7,.vptr (.agg [.i a,.i b,.i w]),H⟩,⟨18,5,.s wb q,H0⟩,⟨18,6,.bool false,H1⟩] fun kf hk=>⟨_,by kernel_rfl,(oB H (decide_eq_true g0) (oP H g1 (oP H g2 (oP H g3 (oP H g4 (oC (g5 kf) (oC (g6 kf) .nil)))))))⟩
theorem rk_l_4 (n:Int) (ls:List HV) (H:Heap) (fb m:Nat) (ob c i:Nat) (j wb q:Nat) (g x a b w a2 b2 w2:Int) {y10 y12 y13:HV}(g0:¬ ((j:Int) < (m:Int))):RunsTo Tp (plF F) 32 (sub [1,1,1,0,1,0,0,1,0,0,1,0,1,1,1,0,0] B32) (env32 (.i n) (.imm .arg 3 ls) (.imm .lit 1 []) (.s fb m) (.s ob c) (.i (i:Int)) (.i g) y10 (.i (j:Int)) y12 y13) H (.exit 4) ((plF F).keys 32) (env32 (.i n) (.imm .arg 3 ls) (.imm .lit 1 []) (.s fb m) (.s ob c) (.i (i:Int)) (.i g) y10 (.i (j:Int)) y12 y13) H :=
  RunsTo.hin 0 60 [⟨14,3,.bool false,H⟩] fun kf hk=>⟨_,by kernel_rfl,(oB H (decide_eq_false g0) .nil)⟩
theorem rk_m_0 (n:Int) (ls:List HV) (H:Heap) (fb m:Nat) (ob c i:Nat) (g:Int) {y10 y11 y12 y13:HV} {H0:Heap} {v0:HV} (g0:appV H 1 8 (.s ob c) [.i g]=some (v0,H0)):RunsTo Tp (plF F) 32 (sub [1,1,1,0,1,0,0,1,0,0,1,1] B32) (env32 (.i n) (.imm .arg 3 ls) (.imm .lit 1 []) (.s fb m) (.s ob c) (.i (i:Int)) (.i g) y10 y11 y12 y13) H .normal ((plF F).keys 32) (env32 (.i n) (.imm .arg 3 ls) (.imm .lit 1 []) (.s fb m) v0 (.i (i:Int)) (.i g) y10 y11 y12 y13) H0 :=
  RunsTo.hin 0 60 [⟨20,3,v0,H0⟩] fun kf hk=>⟨_,by kernel_rfl,(oC (g0) .nil)⟩
theorem rk_o_0 (n:Int) (ls:List HV) (H:Heap) (fb m:Nat) (ob c i:Nat) {y9 y10 y11 y12 y13:HV}:RunsTo Tp (plF F) 32 (sub [1,1,1,0,1,0,0,1,1] B32) (env32 (.i n) (.imm .arg 3 ls) (.imm .lit 1 []) (.s fb m) (.s ob c) (.i (i:Int)) y9 y10 y11 y12 y13) H .normal ((plF F).keys 32) (env32 (.i n) (.imm .arg 3 ls) (.imm .lit 1 []) (.s fb m) (.s ob c) (.i (IntKind.i64.wrap ((i:Int)+1))) y9 y10 y11 y12 y13) H :=
  RunsTo.hin 0 60 [] fun kf hk=>⟨_,by kernel_rfl,.nil⟩
theorem rk_z_0 (n:Int) (ls:List HV) (H:Heap) (fb m:Nat) (ob c:Nat) {y8 y9 y10 y11 y12 y13:HV}:RunsTo Tp (plF F) 32 (sub [1,1,1,1] B32) (env32 (.i n) (.imm .arg 3 ls) (.imm .lit 1 []) (.s fb m) (.s ob c) y8 y9 y10 y11 y12 y13) H .ret ((plF F).keys 32) (env32 (.i n) (.imm .arg 3 ls) (.s ob c) (.s fb m) (.s ob c) y8 y9 y10 y11 y12 y13) H :=
  RunsTo.hin 0 60 [] fun kf hk=>⟨_,by kernel_rfl,.nil⟩
end
end Go.Proofs.Ytiejmoglooaalaa
end
section
open Go Go.HL
namespace Go.Proofs.Ytiejmoglooaalaa
open Go.Proofs.Try renaming prog → Tp
open Go.HL.HV renaming undef → Ud
def bst (b d:Int):Int:=if b < 0 ∨ d < b then d else b
def c1T (n:Int) (l:List St) (i:Nat) (b:Int) (k:Nat):Int:=if (k:Int) ∉ frT l∧isT n l (swT i k (frT l))=true then bst b (wOf l k - wOf l i) else b
def c2T (n:Int) (l:List St) (i:Nat) (b x:Int):Int:=if isT n l (swT x i (frT l))=true then bst b (wOf l i - wOf l x) else b
def c1F (n:Int) (l:List St) (i m:Nat):Int:=(List.range m).foldl (c1T n l i) (-1)
def c2F (n:Int) (l:List St) (i:Nat) (t:List Int):Int:=t.foldl (c2T n l i) (-1)
def rslI (n:Int) (l:List St) (i:Nat):Int:=if (i:Int) ∈ frT l then c1F n l i l.length else c2F n l i (frT l)
def rslT (n:Int) (l:List St) (m:Nat):List Int:=(List.range m).map (rslI n l)
theorem c1F_succ (n:Int) (l:List St) (i m:Nat):c1F n l i (m+1)=c1T n l i (c1F n l i m) m:=by rw [c1F,List.range_succ,List.foldl_append]; rfl
theorem c2F_succ (n:Int) (l:List St) (i:Nat) (t:List Int) {j:Nat} (h:j < t.length):c2F n l i (t.take (j+1))=c2T n l i (c2F n l i (t.take j)) (t.getD j 0):=by rw [c2F,take_snoc h,List.foldl_append]; rfl
theorem rslT_succ (n:Int) (l:List St) (m:Nat):rslT n l (m+1)=rslT n l m ++ [rslI n l m]:=by rw [rslT,List.range_succ,List.map_append]; rfl
theorem rslT_len (n:Int) (l:List St) (m:Nat):(rslT n l m).length=m:=by simp [rslT]
def rslack32:List HV → Option HV:=f2 kI kS fun n l=>if netB n l=true then some (.own 1 ((rslT n l l.length).map encI)) else none
theorem res32:Try.f32.results.toList=[.tmp 4]:=by kernel_rfl
def prRs:FuncId → Option (List HV → Option HV):=fun g=>if g == 20 then some first20 else if g == 51 then some has51 else if g == 36 then some swapped36 else if g == 28 then some rtree28 else none
theorem soundRs (n:Nat):CallSound Tp (callN Tp (plF prRs) n):=sound_prim _ (fun g f h=>by
  unfold prRs at h
  split at h
  · rename_i hg; cases h; rw [eq_of_beq hg]; exact first_ok
  split at h
  · rename_i hg; cases h; rw [eq_of_beq hg]; exact has_ok
  split at h
  · rename_i hg; cases h; rw [eq_of_beq hg]; exact swapped_ok
  split at h
  · rename_i hg; cases h; rw [eq_of_beq hg]; exact rtree_ok
  · cases h) n
theorem swT_len (o p:Int) (t:List Int):(swT o p t).length ≤ 2 * t.length+1:=by
  have:=swp_len o p t t.length (Nat.le_refl _)
  rw [List.take_length] at this
  rw [swT]; split <;> simp <;> omega
theorem rs_in {n:Int} {l:List St} (hnet:netB n l=true) {i:Nat} (hi:i < l.length) (O:List Int) :
    (∃ y,RunsTo Tp (plF prRs) 32 (sub [1,1,1,0,1,0,0,1,0,0,1,0,1,0,1,0] B32) ((env32 (.int .i64 n) (.imm .arg 3 (l.map encT)) (.imm .lit 1 []) (.sl 0 0 (frT l).length none (frT l).length 1) (.sl 1 0 O.length none O.length 1) (.int .i64 ((i:Nat):Int)) (.int .i64 (-1)) (.int .i64 ((0:Nat):Int)) Ud Ud Ud)) [bI (frT l),bI O] (.exit 2) ((plF prRs).keys 32) ((env32 (.int .i64 n) (.imm .arg 3 (l.map encT)) (.imm .lit 1 []) (.sl 0 0 (frT l).length none (frT l).length 1) (.sl 1 0 O.length none O.length 1) (.int .i64 ((i:Nat):Int)) (.int .i64 (c1F n l i l.length)) y Ud Ud Ud)) [bI (frT l),bI O]) ∧
    (∃ y,RunsTo Tp (plF prRs) 32 (sub [1,1,1,0,1,0,0,1,0,0,1,0,1,1,1,0] B32) ((env32 (.int .i64 n) (.imm .arg 3 (l.map encT)) (.imm .lit 1 []) (.sl 0 0 (frT l).length none (frT l).length 1) (.sl 1 0 O.length none O.length 1) (.int .i64 ((i:Nat):Int)) (.int .i64 (-1)) Ud (.int .i64 ((0:Nat):Int)) Ud Ud)) [bI (frT l),bI O] (.exit 4) ((plF prRs).keys 32) ((env32 (.int .i64 n) (.imm .arg 3 (l.map encT)) (.imm .lit 1 []) (.sl 0 0 (frT l).length none (frT l).length 1) (.sl 1 0 O.length none O.length 1) (.int .i64 ((i:Nat):Int)) (.int .i64 (c2F n l i (frT l))) Ud y Ud Ud)) [bI (frT l),bI O]):=by
  obtain ⟨⟨n1,n2⟩,n3,he,hw⟩:=netB_ends hnet
  have hfl:=frT_le l
  have hwt:∀ k:Int,0 ≤ k∧k < (l.length:Int) → 0 ≤ wOf l k∧wOf l k ≤ 1000:=fun k hk=>hw _ (mem_getD _ (by omega))
  have lm:((l.map encT).length:Int)=(l.length:Int):=by rw [List.length_map]
  have gi:=gs (l:=l) (y:=i) hi
  have wi:=hwt (i:Int) (by omega)
  have c36:∀ o p:Int,∀ k,callN Tp (plF prRs) (k+1) 36 [.sl 0 0 (frT l).length none (frT l).length 1,.int .i64 o,.int .i64 p] [bI (frT l),bI O]=some (.sl 2 0 (swT o p (frT l)).length none (swT o p (frT l)).length 1,[bI (frT l),bI O] ++ [bI (swT o p (frT l))]):=fun o p=>by
    have:=at3 (pol':=plF prRs) (g:=36) (c1:=kL) (c2:=kI) (c3:=kI) (f:=fun t o p=>if t.length ≤ 400 then some (.own 1 ((swT o p t).map encI)) else none) (H:=[bI (frT l),bI O]) (by kernel_rfl) (ShL_sl (b:=0) (l:=frT l) rfl rfl) (ShI _ o) (ShI _ p) (if_pos (by omega))
    rw [recv_ints] at this
    exact this
  have c28:∀ o p:Int,∀ k,callN Tp (plF prRs) (k+1) 28 [.int .i64 n,.imm .arg 3 (l.map encT),.sl 2 0 (swT o p (frT l)).length none (swT o p (frT l)).length 1] ([bI (frT l),bI O] ++ [bI (swT o p (frT l))])=some (.bool (isT n l (swT o p (frT l))),[bI (frT l),bI O] ++ [bI (swT o p (frT l))]):=fun o p=>by
    have hsl:=swT_len o p (frT l)
    exact at3 (pol':=plF prRs) (g:=28) (c1:=kI) (c2:=kS) (c3:=kL) (f:=fun n l t=>if (0 ≤ n∧n ≤ 16)∧endN n l=true∧t.length ≤ 500∧l.length ≤ 500 then some (.bool (isT n l t)) else none) (H:=[bI (frT l),bI O] ++ [bI (swT o p (frT l))]) (by kernel_rfl) (ShI _ n) (ShS_imm _ l) (ShL_sl (b:=2) rfl rfl) (if_pos ⟨by omega,he,by omega,by omega⟩)
  have hgc:∀ (r:Nat) (X:Heap),r ≤ 2 → mxs X=0 → gc 2 r ([bI (frT l),bI O] ++ X)=[bI (frT l),bI O]:=fun r X hr hX=>gc_back (H:=[bI (frT l),bI O]) (by rw [mxs_app,hX]; show max (max 0 (max 0 0)) 0 ≤ 2; decide) hr
  have w1:∀ k:Nat,k < l.length → IntKind.i64.wrap ((l.getD k (0,0,0)).2.2 - (l.getD i (0,0,0)).2.2)=wOf l k - wOf l i:=fun k hk=>by
    have:=hwt (k:Int) (by omega)
    exact wrap_id (by show _ ≤ wOf l k - wOf l i; omega) (by show wOf l k - wOf l i < _; omega)
  constructor
  · refine ⟨_,count (pol':=plF prRs) (f:=32) (E:=fun k=>(env32 (.int .i64 n) (.imm .arg 3 (l.map encT)) (.imm .lit 1 []) (.sl 0 0 (frT l).length none (frT l).length 1) (.sl 1 0 O.length none O.length 1) (.int .i64 ((i:Nat):Int)) (.int .i64 (c1F n l i k)) (.int .i64 ((k:Nat):Int)) Ud Ud Ud)) (Hs:=fun _=>[bI (frT l),bI O]) l.length (E0:=fun k=>(env32 (.int .i64 n) (.imm .arg 3 (l.map encT)) (.imm .lit 1 []) (.sl 0 0 (frT l).length none (frT l).length 1) (.sl 1 0 O.length none O.length 1) (.int .i64 ((i:Nat):Int)) (.int .i64 (c1F n l i (k+1))) (.int .i64 ((k+1:Nat):Int)) Ud Ud Ud)) (H1:=fun k=>[bI (frT l),bI O] ++ (if (k:Int) ∈ frT l then [] else [bI (swT i k (frT l))]))
      (fun k hk=>?_) (fun _ _=>by kernel_rfl) (fun k _=>?_) (rk_k_5 (F:=prRs) n (l.map encT) [bI (frT l),bI O] 0 (frT l).length 1 O.length i l.length 0 0 (c1F n l i l.length) 0 0 0 0 0 0 (y11:=Ud) (y12:=Ud) (y13:=Ud) (by omega)) (by simp) (by kernel_rfl) (fun _ _=>by kernel_rfl)⟩
    · have c51:=at2 (pol':=plF prRs) (g:=51) (c1:=kL) (c2:=kI) (f:=fun l x=>if l.length ≤ 1000 then some (.bool (decide (x ∈ l))) else none) (H:=[bI (frT l),bI O]) (by kernel_rfl) (ShL_sl (b:=0) (l:=frT l) rfl rfl) (ShI _ (k:Int)) (if_pos (by omega))
      have gk:=gs (l:=l) (y:=k) hk
      have hs:=c1F_succ n l i k
      have hww:=w1 k hk
      generalize c1F n l i k=g at *
      have c28':=c28 i k
      rw [hs,c1T]
      by_cases cm:(k:Int) ∈ frT l
      · rw [decide_eq_true cm] at c51
        rw [if_neg (fun h=>h.1 cm),if_pos cm]
        have s:=rk_k_0 (F:=prRs) n (l.map encT) [bI (frT l),bI O] 0 (frT l).length 1 O.length i k 0 0 g 0 0 0 0 0 0 (y11:=Ud) (y12:=Ud) (y13:=Ud) (by omega) c51
        rw [wrap_succ (by omega)] at s
        exact s
      rw [decide_eq_false cm] at c51
      rw [if_neg cm]
      by_cases ct:isT n l (swT i k (frT l))=true
      case neg =>
        rw [nb_false ct] at c28'
        rw [if_neg (fun h=>ct h.2)]
        have s:=rk_k_4 (F:=prRs) n (l.map encT) [bI (frT l),bI O] 0 (frT l).length 1 O.length i k 2 _ g 0 0 0 0 0 0 (y11:=Ud) (y12:=Ud) (y13:=Ud) (by omega) c51 (c36 i k) c28'
        rw [wrap_succ (by omega)] at s
        exact s
      rw [ct] at c28'
      rw [if_pos ⟨cm,ct⟩,bst]
      by_cases cg:g < 0
      · have s:=rk_k_1 (F:=prRs) n (l.map encT) [bI (frT l),bI O] 0 (frT l).length 1 O.length i k 2 _ g _ _ _ _ _ _ (y11:=Ud) (y12:=Ud) (y13:=Ud) (by omega) c51 (c36 i k) c28' cg gk gi
        rw [wrap_succ (by omega),hww] at s
        rw [if_pos (.inl cg)]; exact s
      by_cases cd:wOf l k - wOf l i < g
      · have s:=rk_k_2 (F:=prRs) n (l.map encT) [bI (frT l),bI O] 0 (frT l).length 1 O.length i k 2 _ g _ _ _ _ _ _ (y11:=Ud) (y12:=Ud) (y13:=Ud) (by omega) c51 (c36 i k) c28' cg gk gi (by rw [hww]; exact cd) gk gi
        rw [wrap_succ (by omega),hww] at s
        rw [if_pos (.inr cd)]; exact s
      · have s:=rk_k_3 (F:=prRs) n (l.map encT) [bI (frT l),bI O] 0 (frT l).length 1 O.length i k 2 _ g _ _ _ _ _ _ (y11:=Ud) (y12:=Ud) (y13:=Ud) (by omega) c51 (c36 i k) c28' cg gk gi (by rw [hww]; exact cd)
        rw [wrap_succ (by omega)] at s
        rw [if_neg (fun h=>h.elim cg cd)]; exact s
    · have hb:bndE ((env32 (.int .i64 n) (.imm .arg 3 (l.map encT)) (.imm .lit 1 []) (.sl 0 0 (frT l).length none (frT l).length 1) (.sl 1 0 O.length none O.length 1) (.int .i64 ((i:Nat):Int)) (.int .i64 (c1F n l i (k+1))) (.int .i64 ((k+1:Nat):Int)) Ud Ud Ud))=2:=by simp only [bndE,bnd,bndL]; rfl
      show gc 2 _ _=_
      rw [hb]
      exact hgc 2 _ (Nat.le_refl _) (by split <;> rfl)
  · refine ⟨_,count (pol':=plF prRs) (f:=32) (E:=fun j=>(env32 (.int .i64 n) (.imm .arg 3 (l.map encT)) (.imm .lit 1 []) (.sl 0 0 (frT l).length none (frT l).length 1) (.sl 1 0 O.length none O.length 1) (.int .i64 ((i:Nat):Int)) (.int .i64 (c2F n l i ((frT l).take j))) Ud (.int .i64 ((j:Nat):Int)) Ud Ud)) (Hs:=fun _=>[bI (frT l),bI O]) (frT l).length (E0:=fun j=>(env32 (.int .i64 n) (.imm .arg 3 (l.map encT)) (.imm .lit 1 []) (.sl 0 0 (frT l).length none (frT l).length 1) (.sl 1 0 O.length none O.length 1) (.int .i64 ((i:Nat):Int)) (.int .i64 (c2F n l i ((frT l).take (j+1)))) Ud (.int .i64 ((j+1:Nat):Int)) (.int .i64 ((frT l).getD j 0)) (.int .i64 (wOf l i - wOf l ((frT l).getD j 0))))) (H1:=fun j=>[bI (frT l),bI O] ++ [bI (swT ((frT l).getD j 0) i (frT l))])
      (x:=.exit 4) (E':=(env32 (.int .i64 n) (.imm .arg 3 (l.map encT)) (.imm .lit 1 []) (.sl 0 0 (frT l).length none (frT l).length 1) (.sl 1 0 O.length none O.length 1) (.int .i64 ((i:Nat):Int)) (.int .i64 (c2F n l i (frT l))) Ud (.int .i64 (((frT l).length:Nat):Int)) Ud Ud)) (H':=[bI (frT l),bI O])
      (fun j hj=>?_) (fun _ _=>by kernel_rfl) (fun k _=>?_) (by
        have s:=rk_l_4 (F:=prRs) n (l.map encT) [bI (frT l),bI O] 0 (frT l).length 1 O.length i (frT l).length 0 0 (c2F n l i ((frT l).take (frT l).length)) 0 0 0 0 0 0 0 (y10:=Ud) (y12:=Ud) (y13:=Ud) (by omega)
        rw [List.take_length] at s
        rw [List.take_length]
        exact s) (by simp) (by kernel_rfl) (fun _ _=>by kernel_rfl)⟩
    · have hx:=startT_mem.1 (List.mem_filter.1 (mem_getD (l:=frT l) 0 hj)).1
      have gx2:=gs (l:=l) (y:=((frT l).getD j 0).toNat) (by omega)
      rw [show ((((frT l).getD j 0).toNat:Nat):Int)=(frT l).getD j 0 by omega] at gx2
      have wx:=hwt _ hx
      have ld:=load_out (H:=[bI (frT l),bI O]) (k:=0) (o:=frT l) rfl hj
      have hs:=c2F_succ n l i (frT l) hj
      have hww:IntKind.i64.wrap ((l.getD i (0,0,0)).2.2 - (l.getD ((frT l).getD j 0).toNat (0,0,0)).2.2)=wOf l i - wOf l ((frT l).getD j 0):=wrap_id (by show _ ≤ wOf l i - wOf l ((frT l).getD j 0); omega) (by show wOf l i - wOf l ((frT l).getD j 0) < _; omega)
      have c28':=c28 ((frT l).getD j 0) i
      have c36':=c36 ((frT l).getD j 0) i
      generalize (frT l).getD j 0=x at *
      generalize c2F n l i ((frT l).take j)=g at *
      rw [hs,c2T]
      by_cases ct:isT n l (swT x i (frT l))=true
      case neg =>
        rw [nb_false ct] at c28'
        rw [if_neg ct]
        have s:=rk_l_3 (F:=prRs) n (l.map encT) [bI (frT l),bI O] 0 (frT l).length 1 O.length i j 2 _ g x _ _ _ _ _ _ (y10:=Ud) (y12:=Ud) (y13:=Ud) (by omega) (idxS u24 z3 hj) ld gi gx2 c36' c28'
        rw [wrap_succ (by omega),hww] at s
        exact s
      rw [ct] at c28'
      rw [if_pos ct,bst]
      by_cases cg:g < 0
      · have s:=rk_l_0 (F:=prRs) n (l.map encT) [bI (frT l),bI O] 0 (frT l).length 1 O.length i j 2 _ g x _ _ _ _ _ _ (y10:=Ud) (y12:=Ud) (y13:=Ud) (by omega) (idxS u24 z3 hj) ld gi gx2 c36' c28' cg
        rw [wrap_succ (by omega),hww] at s
        rw [if_pos (.inl cg)]; exact s
      by_cases cd:wOf l i - wOf l x < g
      · have s:=rk_l_1 (F:=prRs) n (l.map encT) [bI (frT l),bI O] 0 (frT l).length 1 O.length i j 2 _ g x _ _ _ _ _ _ (y10:=Ud) (y12:=Ud) (y13:=Ud) (by omega) (idxS u24 z3 hj) ld gi gx2 c36' c28' cg (by rw [hww]; exact cd)
        rw [wrap_succ (by omega),hww] at s
        rw [if_pos (.inr cd)]; exact s
      · have s:=rk_l_2 (F:=prRs) n (l.map encT) [bI (frT l),bI O] 0 (frT l).length 1 O.length i j 2 _ g x _ _ _ _ _ _ (y10:=Ud) (y12:=Ud) (y13:=Ud) (by omega) (idxS u24 z3 hj) ld gi gx2 c36' c28' cg (by rw [hww]; exact cd)
        rw [wrap_succ (by omega),hww] at s
        rw [if_neg (fun h=>h.elim cg cd)]; exact s
    · have hb:bndE ((env32 (.int .i64 n) (.imm .arg 3 (l.map encT)) (.imm .lit 1 []) (.sl 0 0 (frT l).length none (frT l).length 1) (.sl 1 0 O.length none O.length 1) (.int .i64 ((i:Nat):Int)) (.int .i64 (c2F n l i ((frT l).take (k+1)))) Ud (.int .i64 ((k+1:Nat):Int)) Ud Ud))=2:=by simp only [bndE,bnd,bndL]; rfl
      show gc 2 _ _=_
      rw [hb]
      exact hgc 2 _ (Nat.le_refl _) rfl
theorem rslack_ok:PrimOk Tp 32 rslack32:=by
  refine primOk_pure (pol:=plF prRs) (fn:=Try.f32) (cd:=B32) follows_mixed soundRs (by kernel_rfl) (by kernel_rfl) (fnok prRs _ _ (by kernel_rfl)) (by kernel_rfl) ?_
  intro args res h
  obtain ⟨n,l,rfl,hq⟩:=f2_inv h
  split at hq
  case isFalse=>cases hq
  rename_i hnet
  cases hq
  obtain ⟨⟨n1,n2⟩,n3,he,hw⟩:=netB_ends hnet
  have hfl:=frT_le l
  have lm:((l.map encT).length:Int)=(l.length:Int):=by rw [List.length_map]
  have a:=rk_a_0 (F:=prRs) n (l.map encT)
  have c20:=at2 (pol':=plF prRs) (g:=20) (c1:=kI) (c2:=kS) (f:=fun n l=>if (0 ≤ n∧n ≤ 16)∧endN n l=true∧l.length ≤ 500 then some (.tuple [.own 1 ((frT l).map encI),.bool (frOk n l)]) else none) (H:=[]) (by kernel_rfl) (ShI _ n) (ShS_imm _ l) (if_pos ⟨by omega,he,by omega⟩)
  rw [recv_tb] at c20
  have b:RunsTo Tp (plF prRs) 32 (sub [1,0] B32) ((env32 (.int .i64 n) (.imm .arg 3 (l.map encT)) (.imm .lit 1 []) Ud Ud Ud Ud Ud Ud Ud Ud)) [] .normal ((plF prRs).keys 32) ((env32 (.int .i64 n) (.imm .arg 3 (l.map encT)) (.imm .lit 1 []) (.sl 0 0 (frT l).length none (frT l).length 1) Ud Ud Ud Ud Ud Ud Ud)) [bI (frT l)]:=by
    cases hb:frOk n l with
    | true=>rw [hb] at c20; exact rk_b_0 (F:=prRs) n (l.map encT) [] 0 _ (y5:=Ud) (y7:=Ud) (y8:=Ud) (y9:=Ud) (y10:=Ud) (y11:=Ud) (y12:=Ud) (y13:=Ud) c20
    | false=>rw [hb] at c20; exact rk_b_1 (F:=prRs) n (l.map encT) [] 0 _ (y5:=Ud) (y7:=Ud) (y8:=Ud) (y9:=Ud) (y10:=Ud) (y11:=Ud) (y12:=Ud) (y13:=Ud) c20
  have c:=rk_c_0 (F:=prRs) n (l.map encT) [bI (frT l)] 0 (frT l).length 0 0 (y7:=Ud) (y8:=Ud) (y9:=Ud) (y10:=Ud) (y11:=Ud) (y12:=Ud) (y13:=Ud) rfl
  have d:=rk_d_0 (F:=prRs) n (l.map encT) [bI (frT l),bI []] 0 (frT l).length 1 0 (y8:=Ud) (y9:=Ud) (y10:=Ud) (y11:=Ud) (y12:=Ud) (y13:=Ud)
  obtain ⟨x,E',H',r,rfl,rfl,rfl⟩:=countI (pol':=plF prRs) (f:=32) (b:=sub [1,1,1,0,1,0,0] B32) (c:=sub [1,1,1,0,1,0] B32) (I:=fun i e H=>e=(env32 (.int .i64 n) (.imm .arg 3 (l.map encT)) (.imm .lit 1 []) (.sl 0 0 (frT l).length none (frT l).length 1) (.sl 1 0 i none i 1) (.int .i64 ((i:Nat):Int)) Ud Ud Ud Ud Ud)∧H=[bI (frT l),bI (rslT n l i)])
    (Q:=fun x E' H'=>x=.exit 0∧E'=(env32 (.int .i64 n) (.imm .arg 3 (l.map encT)) (.imm .lit 1 []) (.sl 0 0 (frT l).length none (frT l).length 1) (.sl 1 0 l.length none l.length 1) (.int .i64 ((l.length:Nat):Int)) Ud Ud Ud Ud Ud)∧H'=[bI (frT l),bI (rslT n l l.length)]) l.length
    (by
      rintro i hi e H ⟨rfl,rfl⟩
      obtain ⟨⟨y1,k1⟩,y2,k2⟩:=rs_in hnet hi (rslT n l i)
      have hol:=rslT_len n l i
      have s0:=rk_e_0 (F:=prRs) n (l.map encT) [bI (frT l),bI (rslT n l i)] 0 (frT l).length 1 i i (y9:=Ud) (y10:=Ud) (y11:=Ud) (y12:=Ud) (y13:=Ud) (by omega)
      have s1:=rk_f_0 (F:=prRs) n (l.map encT) [bI (frT l),bI (rslT n l i)] 0 (frT l).length 1 i i (y9:=Ud) (y10:=Ud) (y11:=Ud) (y12:=Ud) (y13:=Ud)
      have c51:=at2 (pol':=plF prRs) (g:=51) (c1:=kL) (c2:=kI) (f:=fun l x=>if l.length ≤ 1000 then some (.bool (decide (x ∈ l))) else none) (H:=[bI (frT l),bI (rslT n l i)]) (by kernel_rfl) (ShL_sl (b:=0) (l:=frT l) rfl rfl) (ShI _ (i:Int)) (if_pos (by omega))
      have ap:=app_in1 (H:=[bI (frT l),bI (rslT n l i)]) (b:=1) (o:=rslT n l i) rfl (by omega) (rslI n l i)
      rw [← rslT_succ,hol] at ap
      rw [hol] at k1 k2
      have s6:=fun (u1 u2:HV)=>rk_o_0 (F:=prRs) n (l.map encT) [bI (frT l),bI (rslT n l (i+1))] 0 (frT l).length 1 (i+1) i (y9:=.int .i64 (rslI n l i)) (y10:=u1) (y11:=u2) (y12:=Ud) (y13:=Ud)
      rw [wrap_succ (by omega)] at s6
      have fin:∀ E0:Env,lrestr (plF prRs) 32 (sub [1,1,1,0,1,0,0] B32) E0=(env32 (.int .i64 n) (.imm .arg 3 (l.map encT)) (.imm .lit 1 []) (.sl 0 0 (frT l).length none (frT l).length 1) (.sl 1 0 (i+1) none (i+1) 1) (.int .i64 ((i+1:Nat):Int)) Ud Ud Ud Ud Ud) → RunsTo Tp (plF prRs) 32 (sub [1,1,1,0,1,0,0] B32) ((env32 (.int .i64 n) (.imm .arg 3 (l.map encT)) (.imm .lit 1 []) (.sl 0 0 (frT l).length none (frT l).length 1) (.sl 1 0 i none i 1) (.int .i64 ((i:Nat):Int)) Ud Ud Ud Ud Ud)) [bI (frT l),bI (rslT n l i)] .normal ((plF prRs).keys 32) E0 [bI (frT l),bI (rslT n l (i+1))] → ∃ E0 H1,RunsTo Tp (plF prRs) 32 (sub [1,1,1,0,1,0,0] B32) ((env32 (.int .i64 n) (.imm .arg 3 (l.map encT)) (.imm .lit 1 []) (.sl 0 0 (frT l).length none (frT l).length 1) (.sl 1 0 i none i 1) (.int .i64 ((i:Nat):Int)) Ud Ud Ud Ud Ud)) [bI (frT l),bI (rslT n l i)] .normal ((plF prRs).keys 32) E0 H1∧lrestr (plF prRs) 32 (sub [1,1,1,0,1,0,0] B32) E0=(env32 (.int .i64 n) (.imm .arg 3 (l.map encT)) (.imm .lit 1 []) (.sl 0 0 (frT l).length none (frT l).length 1) (.sl 1 0 (i+1) none (i+1) 1) (.int .i64 ((i+1:Nat):Int)) Ud Ud Ud Ud Ud)∧gc [bI (frT l),bI (rslT n l i)].length (bndE (lrestr (plF prRs) 32 (sub [1,1,1,0,1,0,0] B32) E0)) H1=[bI (frT l),bI (rslT n l (i+1))]:=fun E0 h1 h2=>⟨E0,_,h2,h1,gc_eq (H:=[bI (frT l),bI (rslT n l i)]) _ rfl⟩
      by_cases cm:(i:Int) ∈ frT l
      · rw [decide_eq_true cm] at c51
        have eI:rslI n l i=c1F n l i l.length:=if_pos cm
        rw [eI] at ap s6
        have s2:=rk_g_0 (F:=prRs) n (l.map encT) [bI (frT l),bI (rslT n l i)] 0 (frT l).length 1 i i (-1) (y10:=Ud) (y11:=Ud) (y12:=Ud) (y13:=Ud) c51
        have s3:=rk_h_0 (F:=prRs) n (l.map encT) [bI (frT l),bI (rslT n l i)] 0 (frT l).length 1 i i (-1) (y10:=Ud) (y11:=Ud) (y12:=Ud) (y13:=Ud)
        have s5:=rk_m_0 (F:=prRs) n (l.map encT) [bI (frT l),bI (rslT n l i)] 0 (frT l).length 1 i i (c1F n l i l.length) (y10:=y1) (y11:=Ud) (y12:=Ud) (y13:=Ud) ap
        have s6:=s6 y1 Ud
        exact fin _ (by kernel_rfl) (sq (s0) (sq (RunsTo.block_normal (i:=1) (c:=sub [1,1,1,0,1,0,0,1,0] B32) (sq (s1) (sq (sq (s2) (RunsTo.cond (y:=.tmp 28) (t:=true) (c:=sub [1,1,1,0,1,0,0,1,0,0,1,0,1] B32) (a:=sub [1,1,1,0,1,0,0,1,0,0,1,0,1,0] B32) (b:=sub [1,1,1,0,1,0,0,1,0,0,1,0,1,1] B32) (by kernel_rfl) rfl (sq (s3) (bke (c:=sub [1,1,1,0,1,0,0,1,0,0,1,0,1,0,1] B32) (k1)) (c:=sub [1,1,1,0,1,0,0,1,0,0,1,0,1,0] B32))) (c:=sub [1,1,1,0,1,0,0,1,0,0,1,0] B32)) (s5) (c:=sub [1,1,1,0,1,0,0,1,0,0,1] B32)) (c:=sub [1,1,1,0,1,0,0,1,0,0] B32)) (by kernel_rfl)) (s6) (c:=sub [1,1,1,0,1,0,0,1] B32)) (c:=sub [1,1,1,0,1,0,0] B32))
      · rw [decide_eq_false cm] at c51
        have eI:rslI n l i=c2F n l i (frT l):=if_neg cm
        rw [eI] at ap s6
        have s2:=rk_g_1 (F:=prRs) n (l.map encT) [bI (frT l),bI (rslT n l i)] 0 (frT l).length 1 i i (-1) (y10:=Ud) (y11:=Ud) (y12:=Ud) (y13:=Ud) c51
        have s3:=rk_i_0 (F:=prRs) n (l.map encT) [bI (frT l),bI (rslT n l i)] 0 (frT l).length 1 i i (-1) (y10:=Ud) (y11:=Ud) (y12:=Ud) (y13:=Ud)
        have s5:=rk_m_0 (F:=prRs) n (l.map encT) [bI (frT l),bI (rslT n l i)] 0 (frT l).length 1 i i (c2F n l i (frT l)) (y11:=y2) (y10:=Ud) (y12:=Ud) (y13:=Ud) ap
        have s6:=s6 Ud y2
        exact fin _ (by kernel_rfl) (sq (s0) (sq (RunsTo.block_normal (i:=1) (c:=sub [1,1,1,0,1,0,0,1,0] B32) (sq (s1) (sq (sq (s2) (RunsTo.cond (y:=.tmp 28) (t:=false) (c:=sub [1,1,1,0,1,0,0,1,0,0,1,0,1] B32) (a:=sub [1,1,1,0,1,0,0,1,0,0,1,0,1,0] B32) (b:=sub [1,1,1,0,1,0,0,1,0,0,1,0,1,1] B32) (by kernel_rfl) rfl (sq (s3) (bke (c:=sub [1,1,1,0,1,0,0,1,0,0,1,0,1,1,1] B32) (k2)) (c:=sub [1,1,1,0,1,0,0,1,0,0,1,0,1,1] B32))) (c:=sub [1,1,1,0,1,0,0,1,0,0,1,0] B32)) (s5) (c:=sub [1,1,1,0,1,0,0,1,0,0,1] B32)) (c:=sub [1,1,1,0,1,0,0,1,0,0] B32)) (by kernel_rfl)) (s6) (c:=sub [1,1,1,0,1,0,0,1] B32)) (c:=sub [1,1,1,0,1,0,0] B32)))
    (by
      rintro e H ⟨rfl,rfl⟩
      have s1:=rk_e_1 (F:=prRs) n (l.map encT) [bI (frT l),bI (rslT n l l.length)] 0 (frT l).length 1 l.length l.length (y9:=Ud) (y10:=Ud) (y11:=Ud) (y12:=Ud) (y13:=Ud) (by omega)
      exact ⟨_,_,_,sqo (s1) (c:=sub [1,1,1,0,1,0,0] B32) (b:=sub [1,1,1,0,1,0,0,1] B32),by simp,rfl,rfl,rfl⟩)
    (by kernel_rfl) (by rintro i e H ⟨rfl,_⟩; kernel_rfl) (e:=(env32 (.int .i64 n) (.imm .arg 3 (l.map encT)) (.imm .lit 1 []) (.sl 0 0 (frT l).length none (frT l).length 1) (.sl 1 0 0 none 0 1) (.int .i64 ((0:Nat):Int)) Ud Ud Ud Ud Ud)) (H:=[bI (frT l),bI []]) ⟨rfl,rfl⟩
  have z:=rk_z_0 (F:=prRs) n (l.map encT) [bI (frT l),bI (rslT n l l.length)] 0 (frT l).length 1 l.length (y8:=.int .i64 (l.length:Int)) (y9:=Ud) (y10:=Ud) (y11:=Ud) (y12:=Ud) (y13:=Ud)
  refine ⟨_,_,_,.sl 1 0 l.length none l.length 1,sq (a) (sq (b) (sq (c) (sq (sq (d) (bke (c:=sub [1,1,1,0,1] B32) (r)) (c:=sub [1,1,1,0] B32)) (z) (c:=sub [1,1,1] B32)) (c:=sub [1,1] B32)) (c:=sub [1] B32)) (c:=B32),by simp,by simp only [resultsV,res32]; rfl,?_⟩
  exact res_li (b:=1) rfl (rslT_len n l l.length)
end Go.Proofs.Ytiejmoglooaalaa
end
section
open Go Go.HL
namespace Go.Proofs.Ytiejmoglooaalaa
set_option linter.unusedSectionVars false
theorem lw_get {O:List Int} {k:Int} (d:Int) {x:Nat} (hx:x < O.length) (hk:0 ≤ k):(lwT O k d).getD x 0=if k=(x:Int) then bst (O.getD x 0) d else O.getD x 0:=by
  unfold lwT
  by_cases e:k=(x:Int)
  · subst e
    rw [if_pos rfl,Int.toNat_natCast,bst]
    by_cases c:O.getD x 0 < 0 ∨ d < O.getD x 0
    · rw [if_pos c,if_pos c,getD_set hx,if_pos rfl]
    · rw [if_neg c,if_neg c]
  · rw [if_neg e]
    by_cases c:O.getD k.toNat 0 < 0 ∨ d < O.getD k.toNat 0
    · rw [if_pos c]
      simp only [List.getD,List.getElem?_set]
      rw [if_neg (by omega)]
    · rw [if_neg c]
theorem in_get {l:List St} {O:List Int} {k y:Int} {x:Nat} (hx:x < O.length) (hk:0 ≤ k) (hy:0 ≤ y) (hne:k ≠ y):(inS l k O y).getD x 0=if k=(x:Int) ∨ y=(x:Int) then bst (O.getD x 0) (wOf l y - wOf l k) else O.getD x 0:=by
  rw [inS,lw_get _ (by rw [lw_len]; exact hx) hy,lw_get _ hx hk]
  by_cases c1:y=(x:Int)
  · rw [if_pos c1,if_neg (by omega),if_pos (.inr c1)]
  · rw [if_neg c1]
    by_cases c2:k=(x:Int)
    · rw [if_pos c2,if_pos (.inl c2)]
    · rw [if_neg c2,if_neg (by omega)]
theorem inF_self {l:List St} {k:Nat}:∀ (ys O:List Int),k < O.length → (∀ y ∈ ys,0 ≤ y∧y ≠ (k:Int)) → (inF l k O ys).getD k 0=ys.foldl (fun b y=>bst b (wOf l y - wOf l k)) (O.getD k 0)
  | [],_,_,_=>rfl
  | y :: ys,O,h,hy=>by
    obtain ⟨h1,h2⟩:=hy y (List.mem_cons_self ..)
    have:=inF_self (l:=l) ys (inS l k O y) (by rw [inS_len]; exact h) fun z hz=>hy z (List.mem_cons_of_mem _ hz)
    rw [inF,List.foldl_cons,List.foldl_cons]
    refine this.trans ?_
    rw [in_get h (by omega) h1 (fun c=>h2 c.symm),if_pos (.inl rfl)]
theorem inF_other {l:List St} {k:Int} {x:Nat} (hk:0 ≤ k) (hkx:k ≠ (x:Int)):∀ (ys O:List Int),x < O.length → ys.Nodup → (∀ y ∈ ys,0 ≤ y∧y ≠ k) → (inF l k O ys).getD x 0=if (x:Int) ∈ ys then bst (O.getD x 0) (wOf l x - wOf l k) else O.getD x 0
  | [],_,_,_,_=>by rw [if_neg (by simp)]; rfl
  | y :: ys,O,h,hn,hy=>by
    obtain ⟨h1,h2⟩:=hy y (List.mem_cons_self ..)
    obtain ⟨n1,n2⟩:=List.nodup_cons.1 hn
    have:=inF_other (l:=l) hk hkx ys (inS l k O y) (by rw [inS_len]; exact h) n2 fun z hz=>hy z (List.mem_cons_of_mem _ hz)
    rw [inF,List.foldl_cons]
    refine this.trans ?_
    rw [in_get h hk h1 (fun c=>h2 c.symm)]
    by_cases c:y=(x:Int)
    · subst c
      rw [if_neg n1,if_pos (.inr rfl),if_pos (List.mem_cons_self ..)]
    · have hor:¬ (k=(x:Int) ∨ y=(x:Int)):=fun h=>h.elim hkx c
      by_cases c2:(x:Int) ∈ ys
      · rw [if_pos c2,if_neg hor,if_pos (List.mem_cons_of_mem _ c2)]
      · rw [if_neg c2,if_neg hor,if_neg (fun h=>(List.mem_cons.1 h).elim (fun e=>c e.symm) c2)]
theorem ins_mem {l:List St} {t:List Int} {k:Int} {y:Int}:y ∈ insT l t k l.length ↔ (0 ≤ y∧y < (l.length:Int))∧y ∉ t∧joinsT l t k y:=by
  rw [insT,List.mem_filter,startT_mem,decide_eq_true_eq]
theorem ins_nodup (l:List St) (t:List Int) (k:Int):(insT l t k l.length).Nodup:=(startT_nodup _).sublist List.filter_sublist
theorem ou_out {l:List St} {t:List Int} {x:Nat} (hx:x < l.length) (hxt:(x:Int) ∉ t):∀ (ks O:List Int),O.length=l.length → (∀ k ∈ ks,k ∈ t∧0 ≤ k) → (ouF l t O ks).getD x 0=ks.foldl (fun b k=>if joinsT l t k x then bst b (wOf l x - wOf l k) else b) (O.getD x 0)
  | [],_,_,_=>rfl
  | k :: ks,O,hO,hk=>by
    obtain ⟨h1,h2⟩:=hk k (List.mem_cons_self ..)
    have:=ou_out hx hxt ks (inF l k O (insT l t k l.length)) ((inF_len ..).trans hO) fun z hz=>hk z (List.mem_cons_of_mem _ hz)
    rw [ouF,List.foldl_cons,List.foldl_cons]
    refine this.trans ?_
    rw [inF_other h2 (fun c=>hxt (c ▸ h1)) _ _ (by omega) (ins_nodup ..) (fun y hy=>⟨(ins_mem.1 hy).1.1,fun c=>(ins_mem.1 hy).2.1 (c ▸ h1)⟩)]
    refine congrArg (fun b=>ks.foldl _ b) ?_
    by_cases c:joinsT l t k x
    · rw [if_pos c,if_pos (ins_mem.2 ⟨by omega,hxt,c⟩)]
    · rw [if_neg c,if_neg (fun h=>c (ins_mem.1 h).2.2)]
theorem ou_in {l:List St} {t:List Int} {x:Nat} (hx:x < l.length) (hxt:(x:Int) ∈ t):∀ (ks O:List Int),O.length=l.length → ks.Nodup → (∀ k ∈ ks,k ∈ t∧0 ≤ k) → (ouF l t O ks).getD x 0=if (x:Int) ∈ ks then (insT l t x l.length).foldl (fun b y=>bst b (wOf l y - wOf l x)) (O.getD x 0) else O.getD x 0
  | [],_,_,_,_=>by rw [if_neg (by simp)]; rfl
  | k :: ks,O,hO,hn,hk=>by
    obtain ⟨h1,h2⟩:=hk k (List.mem_cons_self ..)
    obtain ⟨n1,n2⟩:=List.nodup_cons.1 hn
    have:=ou_in hx hxt ks (inF l k O (insT l t k l.length)) ((inF_len ..).trans hO) n2 fun z hz=>hk z (List.mem_cons_of_mem _ hz)
    rw [ouF,List.foldl_cons]
    refine this.trans ?_
    by_cases c:k=(x:Int)
    · subst c
      rw [if_neg n1,if_pos (List.mem_cons_self ..)]
      exact inF_self _ _ (by omega) fun y hy=>⟨(ins_mem.1 hy).1.1,fun c=>(ins_mem.1 hy).2.1 (c ▸ h1)⟩
    · have e:(inF l k O (insT l t k l.length)).getD x 0=O.getD x 0:=by
        rw [inF_other h2 c _ _ (by omega) (ins_nodup ..) (fun y hy=>⟨(ins_mem.1 hy).1.1,fun c=>(ins_mem.1 hy).2.1 (c ▸ h1)⟩),if_neg (fun h=>(ins_mem.1 h).2.1 hxt)]
      rw [e]
      by_cases c2:(x:Int) ∈ ks
      · rw [if_pos c2,if_pos (List.mem_cons_of_mem _ c2)]
      · rw [if_neg c2,if_neg (fun h=>(List.mem_cons.1 h).elim (fun e=>c e.symm) c2)]
theorem fold_filter {α β:Type} (p:α → Bool) (f:β → α → β):∀ (s:List α) (b:β),(s.filter p).foldl f b=s.foldl (fun b x=>if p x=true then f b x else b) b
  | [],_=>rfl
  | x :: s,b=>by
    by_cases c:p x=true
    · rw [List.filter_cons_of_pos c,List.foldl_cons,List.foldl_cons,if_pos c]; exact fold_filter p f s _
    · rw [List.filter_cons_of_neg c,List.foldl_cons,if_neg c]; exact fold_filter p f s _
theorem fold_congr {α β:Type} {f g:β → α → β}:∀ {s:List α},(∀ x ∈ s,∀ b,f b x=g b x) → ∀ b,s.foldl f b=s.foldl g b
  | [],_,_=>rfl
  | x :: s,h,b=>by rw [List.foldl_cons,List.foldl_cons,h x (List.mem_cons_self ..)]; exact fold_congr (fun y hy=>h y (List.mem_cons_of_mem _ hy)) _
theorem bst_comm {b d e:Int} (hd:0 ≤ d) (he:0 ≤ e):bst (bst b d) e=bst (bst b e) d:=by
  unfold bst
  repeat' split
  all_goals omega
theorem fr_perm (l:List St):(treeT l).Perm (frT l):=by
  have h:((ordT l).filter fun x=>decide (x ∈ treeT l)).Perm (frT l):=(ordN_perm l l.length).filter _
  rwa [tree_filter] at h
theorem slack_eq {n:Int} {l:List St} (hnet:netB n l=true) (hc:connB n l=true):slT l=rslT n l l.length:=by
  have h1:(slT l).length=l.length:=(ouF_len ..).trans (by simp)
  apply List.ext_getElem (by rw [h1,rslT_len])
  intro x hx hx'
  have hxl:x < l.length:=by omega
  have hTin:∀ k ∈ treeT l,k ∈ treeT l∧0 ≤ k:=fun k hk=>⟨hk,(tree_in hk).1⟩
  have hin0:(List.replicate l.length (-1:Int)).getD x 0=-1:=by rw [getD_at (by simpa using hxl)]; simp
  have e2:(rslT n l l.length)[x]=rslI n l x:=by simp [rslT]
  rw [e2,← getD_at (d:=0) hx,slT,rslI]
  by_cases cm:(x:Int) ∈ treeT l
  · rw [if_pos (frT_mem.2 cm),ou_in hxl cm _ _ (by simp) (tree_nodup' l) hTin,if_pos cm,hin0,insT,fold_filter,c1F,startT,List.foldl_map]
    refine fold_congr (fun k hk b=>?_) _
    have hk:=List.mem_range.1 hk
    rw [c1T]
    by_cases ck:(k:Int) ∈ treeT l
    · rw [if_neg (by simp [ck]),if_neg (fun h=>h.1 (frT_mem.2 ck))]
    · have hI:=isT_iff hnet hc cm (j:=(k:Int)) (by omega) ck
      by_cases cj:joinsT l (treeT l) x k
      · rw [if_pos (by simp [ck,cj]),if_pos ⟨fun h=>ck (frT_mem.1 h),hI.2 cj⟩]
      · rw [if_neg (by simp [cj]),if_neg (fun h=>cj (hI.1 h.2))]
  · rw [if_neg (fun h=>cm (frT_mem.1 h)),ou_out hxl cm _ _ (by simp) hTin,hin0,c2F]
    have hI:∀ k ∈ treeT l,isT n l (swT k x (frT l))=true ↔ joinsT l (treeT l) k x:=fun k hk=>isT_iff hnet hc hk (by omega) cm
    rw [fold_congr (g:=c2T n l x) (fun k hk b=>by
      rw [c2T]
      by_cases cj:joinsT l (treeT l) k x
      · rw [if_pos cj,if_pos ((hI k hk).2 cj)]
      · rw [if_neg cj,if_neg (fun h=>cj ((hI k hk).1 h))])]
    refine (fr_perm l).foldl_eq' (fun a ha b hb z=>?_) _
    unfold c2T
    have da:=fun h=>exch_le hnet ha (j:=(x:Int)) (by omega) cm ((hI a ha).1 h)
    have db:=fun h=>exch_le hnet hb (j:=(x:Int)) (by omega) cm ((hI b hb).1 h)
    by_cases ca:isT n l (swT a x (frT l))=true
    · by_cases cb:isT n l (swT b x (frT l))=true
      · rw [if_pos ca,if_pos cb,if_pos cb,if_pos ca]
        exact bst_comm (by have:=da ca; omega) (by have:=db cb; omega)
      · simp only [if_pos ca,if_neg cb]
    · by_cases cb:isT n l (swT b x (frT l))=true
      · simp only [if_neg ca,if_pos cb]
      · simp only [if_neg ca,if_neg cb]
end Go.Proofs.Ytiejmoglooaalaa
end
section
open Go Go.HL
namespace Go.Proofs.Ytiejmoglooaalaa
set_option maxRecDepth 100000
open Go.Proofs.Try renaming prog → Tp
open Go.HL.HV renaming undef → Ud
section
variable {F:FuncId → Option (List HV → Option HV)}
noncomputable def B30:Code:=Try.f30.body.getD .skip
abbrev env30 (v0 v1 v4 v5 v6 v7 v8 v9 v10 v11 v12 v13 v14 v31 v32 v33:HV):Env:=[(0,v0),(1,v1),(4,v4),(5,v5),(6,v6),(7,v7),(8,v8),(9,v9),(10,v10),(11,v11),(12,v12),(13,v13),(14,v14),(31,v31),(32,v32),(33,v33)]
theorem cr_a_0 (N:Nat) (n:Int) (ls:List HV) :RunsTo Tp (plF F) 30 (sub [0] B30) [(0,.i n),(1,.imm .arg 3 ls)] [] .normal ((plF F).keys 30) (env30 (.i n) (.imm .arg 3 ls) (.imm .lit 1 []) (.imm .lit 1 []) (.i 0) Ud Ud Ud Ud Ud Ud Ud Ud Ud Ud Ud) [] :=
  RunsTo.hin N 60 [] fun kf hk=>⟨_,by kernel_rfl,.nil⟩
theorem cr_b_0 (N:Nat) (n:Int) (ls:List HV)  {y7 y8 y9 y10 y11 y12 y13 y14 y31 y32 y33:HV} {H0:Heap} {a0:HV} {H1:Heap} {H2:Heap} (g0:∀ kf,N ≤ kf → callN Tp (plF F) (kf+1) 39 [.i n,.imm .arg 3 ls] []=some (.tuple [.agg [.i n,.imm .arg 3 ls],.bool true],H0)) (g1:some (newV (.agg [.i 0,.imm .lit 0 []]) H0)=some (a0,H1)) (g2:storeV Tp H1 66 (a0) (.agg [.i n,.imm .arg 3 ls])=some H2):RunsTo Tp (plF F) 30 (sub [1,0] B30) (env30 (.i n) (.imm .arg 3 ls) (.imm .lit 1 []) (.imm .lit 1 []) (.i 0) y7 y8 y9 y10 y11 y12 y13 y14 y31 y32 y33) [] .normal ((plF F).keys 30) (env30 (.i n) (.imm .arg 3 ls) (.imm .lit 1 []) (.imm .lit 1 []) (.i 0) a0 (.bool true) y9 y10 y11 y12 y13 y14 y31 y32 y33) H2 :=
  RunsTo.hin N 60 [⟨1,2,.tuple [.agg [.i n,.imm .arg 3 ls],.bool true],H0⟩,⟨1,6,a0,H1⟩,⟨1,7,.tuple [],H2⟩] fun kf hk=>⟨_,by kernel_rfl,(oC (g0 kf (by omega)) (oC (g1) (oS g2 .nil)))⟩
theorem cr_b_1 (N:Nat) (n:Int) (ls:List HV)  {y7 y8 y9 y10 y11 y12 y13 y14 y31 y32 y33:HV} {H0:Heap} {a0:HV} {H1:Heap} {H2:Heap} (g0:∀ kf,N ≤ kf → callN Tp (plF F) (kf+1) 39 [.i n,.imm .arg 3 ls] []=some (.tuple [.agg [.i n,.imm .arg 3 ls],.bool false],H0)) (g1:some (newV (.agg [.i 0,.imm .lit 0 []]) H0)=some (a0,H1)) (g2:storeV Tp H1 66 (a0) (.agg [.i n,.imm .arg 3 ls])=some H2):RunsTo Tp (plF F) 30 (sub [1,0] B30) (env30 (.i n) (.imm .arg 3 ls) (.imm .lit 1 []) (.imm .lit 1 []) (.i 0) y7 y8 y9 y10 y11 y12 y13 y14 y31 y32 y33) [] .normal ((plF F).keys 30) (env30 (.i n) (.imm .arg 3 ls) (.imm .lit 1 []) (.imm .lit 1 []) (.i 0) a0 (.bool false) y9 y10 y11 y12 y13 y14 y31 y32 y33) H2 :=
  RunsTo.hin N 60 [⟨1,2,.tuple [.agg [.i n,.imm .arg 3 ls],.bool false],H0⟩,⟨1,6,a0,H1⟩,⟨1,7,.tuple [],H2⟩] fun kf hk=>⟨_,by kernel_rfl,(oC (g0 kf (by omega)) (oC (g1) (oS g2 .nil)))⟩
theorem cr_ct_0 (N:Nat) (n:Int) (ls:List HV) (H:Heap) {y9 y10 y11 y12 y13 y14 y31 y32 y33:HV}:RunsTo Tp (plF F) 30 (sub [1,1,0] B30) (env30 (.i n) (.imm .arg 3 ls) (.imm .lit 1 []) (.imm .lit 1 []) (.i 0) (.ptr 0 0 0 1) (.bool true) y9 y10 y11 y12 y13 y14 y31 y32 y33) H .normal ((plF F).keys 30) (env30 (.i n) (.imm .arg 3 ls) (.imm .lit 1 []) (.imm .lit 1 []) (.i 0) (.ptr 0 0 0 1) (.bool true) y9 y10 y11 y12 y13 y14 y31 y32 y33) H :=
  RunsTo.hin N 60 [] fun kf hk=>⟨_,by kernel_rfl,.nil⟩
theorem cr_cf_0 (N:Nat) (n:Int) (ls:List HV) (H:Heap) {y9 y10 y11 y12 y13 y14 y31 y32 y33:HV}:RunsTo Tp (plF F) 30 (sub [1,1,0] B30) (env30 (.i n) (.imm .arg 3 ls) (.imm .lit 1 []) (.imm .lit 1 []) (.i 0) (.ptr 0 0 0 1) (.bool false) y9 y10 y11 y12 y13 y14 y31 y32 y33) H .ret ((plF F).keys 30) (env30 (.i n) (.imm .arg 3 ls) (.imm .lit 1 []) (.imm .lit 1 []) (.i 2) (.ptr 0 0 0 1) (.bool false) y9 y10 y11 y12 y13 y14 y31 y32 y33) H :=
  RunsTo.hin N 60 [] fun kf hk=>⟨_,by kernel_rfl,.nil⟩
theorem cr_d_0 (N:Nat) (n:Int) (ls:List HV) (H:Heap) (ob m mb:Nat) {y9 y10 y11 y12 y13 y14 y31 y32 y33:HV} {H0:Heap} (g0:loadV Tp H 66 (.ptr 0 0 0 1)=some (.agg [.i n,.imm .arg 3 ls])) (g1:∀ kf,callN Tp (plF F) (kf+1) 43 [.agg [.i n,.imm .arg 3 ls]] H=some (.tuple [.s ob m,.map mb,.bool true],H0)):RunsTo Tp (plF F) 30 (sub [1,1,1,0] B30) (env30 (.i n) (.imm .arg 3 ls) (.imm .lit 1 []) (.imm .lit 1 []) (.i 0) (.ptr 0 0 0 1) (.bool true) y9 y10 y11 y12 y13 y14 y31 y32 y33) H .normal ((plF F).keys 30) (env30 (.i n) (.imm .arg 3 ls) (.imm .lit 1 []) (.imm .lit 1 []) (.i 0) (.ptr 0 0 0 1) (.bool true) (.s ob m) (.map mb) y11 y12 y13 y14 y31 y32 y33) H0 :=
  RunsTo.hin N 60 [⟨4,0,.agg [.i n,.imm .arg 3 ls],H⟩,⟨4,1,.tuple [.s ob m,.map mb,.bool true],H0⟩] fun kf hk=>⟨_,by kernel_rfl,(oP H g0 (oC (g1 kf) .nil))⟩
theorem cr_d_1 (N:Nat) (n:Int) (ls:List HV) (H:Heap) (ob m mb:Nat) {y9 y10 y11 y12 y13 y14 y31 y32 y33:HV} {H0:Heap} (g0:loadV Tp H 66 (.ptr 0 0 0 1)=some (.agg [.i n,.imm .arg 3 ls])) (g1:∀ kf,callN Tp (plF F) (kf+1) 43 [.agg [.i n,.imm .arg 3 ls]] H=some (.tuple [.s ob m,.nilmap,.bool false],H0)):RunsTo Tp (plF F) 30 (sub [1,1,1,0] B30) (env30 (.i n) (.imm .arg 3 ls) (.imm .lit 1 []) (.imm .lit 1 []) (.i 0) (.ptr 0 0 0 1) (.bool true) y9 y10 y11 y12 y13 y14 y31 y32 y33) H .normal ((plF F).keys 30) (env30 (.i n) (.imm .arg 3 ls) (.imm .lit 1 []) (.imm .lit 1 []) (.i 0) (.ptr 0 0 0 1) (.bool false) (.s ob m) .nilmap y11 y12 y13 y14 y31 y32 y33) H0 :=
  RunsTo.hin N 60 [⟨4,0,.agg [.i n,.imm .arg 3 ls],H⟩,⟨4,1,.tuple [.s ob m,.nilmap,.bool false],H0⟩] fun kf hk=>⟨_,by kernel_rfl,(oP H g0 (oC (g1 kf) .nil))⟩
theorem cr_et_0 (N:Nat) (n:Int) (ls:List HV) (H:Heap) (ob m mb:Nat) {y7 y11 y12 y13 y14 y31 y32 y33:HV}:RunsTo Tp (plF F) 30 (sub [1,1,1,1,0] B30) (env30 (.i n) (.imm .arg 3 ls) (.imm .lit 1 []) (.imm .lit 1 []) (.i 0) y7 (.bool true) (.s ob m) (.map mb) y11 y12 y13 y14 y31 y32 y33) H .normal ((plF F).keys 30) (env30 (.i n) (.imm .arg 3 ls) (.imm .lit 1 []) (.imm .lit 1 []) (.i 0) y7 (.bool true) (.s ob m) (.map mb) y11 y12 y13 y14 y31 y32 y33) H :=
  RunsTo.hin N 60 [] fun kf hk=>⟨_,by kernel_rfl,.nil⟩
theorem cr_ef_0 (N:Nat) (n:Int) (ls:List HV) (H:Heap) (ob m:Nat) {y7 y11 y12 y13 y14 y31 y32 y33:HV}:RunsTo Tp (plF F) 30 (sub [1,1,1,1,0] B30) (env30 (.i n) (.imm .arg 3 ls) (.imm .lit 1 []) (.imm .lit 1 []) (.i 0) y7 (.bool false) (.s ob m) .nilmap y11 y12 y13 y14 y31 y32 y33) H .ret ((plF F).keys 30) (env30 (.i n) (.imm .arg 3 ls) (.imm .lit 1 []) (.imm .lit 1 []) (.i 6) y7 (.bool false) (.s ob m) .nilmap y11 y12 y13 y14 y31 y32 y33) H :=
  RunsTo.hin N 60 [] fun kf hk=>⟨_,by kernel_rfl,.nil⟩
theorem cr_f_0 (N:Nat) (n:Int) (ls:List HV) (H:Heap) (ob m mb:Nat) {y7 y8 y11 y12 y13 y14 y31 y32 y33:HV} {v0:HV} {H0:Heap} {v1:HV} {H1:Heap} (g0:some (HV.sl H.length 0 0 none 0 1,H ++ [Blk.b []])=some (v0,H0)) (g1:some (HV.sl H0.length 0 0 none 0 1,H0 ++ [Blk.b []])=some (v1,H1)):RunsTo Tp (plF F) 30 (sub [1,1,1,1,1,0] B30) (env30 (.i n) (.imm .arg 3 ls) (.imm .lit 1 []) (.imm .lit 1 []) (.i 0) y7 y8 (.s ob m) (.map mb) y11 y12 y13 y14 y31 y32 y33) H .normal ((plF F).keys 30) (env30 (.i n) (.imm .arg 3 ls) (.imm .lit 1 []) (.imm .lit 1 []) (.i 0) y7 y8 (.s ob m) (.map mb) v0 v1 y13 y14 y31 y32 y33) H1 :=
  RunsTo.hin N 60 [⟨7,0,v0,H0⟩,⟨7,1,v1,H1⟩] fun kf hk=>⟨_,by kernel_rfl,(oC (g0) (oC (g1) .nil))⟩
theorem cr_g_0 (N:Nat) (n:Int) (ls:List HV) (H:Heap) (ob m mb pb k qb c:Nat) {y7 y8 y13 y14 y31 y32 y33:HV}:RunsTo Tp (plF F) 30 (sub [1,1,1,1,1,1,0,0] B30) (env30 (.i n) (.imm .arg 3 ls) (.imm .lit 1 []) (.imm .lit 1 []) (.i 0) y7 y8 (.s ob m) (.map mb) (.s pb k) (.s qb c) y13 y14 y31 y32 y33) H .normal ((plF F).keys 30) (env30 (.i n) (.imm .arg 3 ls) (.imm .lit 1 []) (.imm .lit 1 []) (.i 0) y7 y8 (.s ob m) (.map mb) (.s pb k) (.s qb c) y13 y14 (.s ob m) (.i (m:Int)) (.i 0)) H :=
  RunsTo.hin N 60 [] fun kf hk=>⟨_,by kernel_rfl,.nil⟩
theorem cr_l_0 (N:Nat) (n:Int) (ls:List HV) (H:Heap) (ob m mb pb k qb c i:Nat) (x:Int) {y7 y8 y9 y13 y14:HV}(g0:(i:Int) < (m:Int)) (g1:idxV Tp 24 (.s ob m) (.i (i:Int))=some (.ptr ob i 0 m)) (g2:loadV Tp H 3 (.ptr ob i 0 m)=some (.i x)) (g3:lkH Tp 72 H mb (.i (i:Int))=some (.bool true,H)) (g4:x=0) (g5:lkH Tp 72 H mb (.i (i:Int))=some (.bool true,H)):RunsTo Tp (plF F) 30 (sub [1,1,1,1,1,1,0,1,0,0] B30) (env30 (.i n) (.imm .arg 3 ls) (.imm .lit 1 []) (.imm .lit 1 []) (.i 0) y7 y8 y9 (.map mb) (.s pb k) (.s qb c) y13 y14 (.s ob m) (.i (m:Int)) (.i (i:Int))) H .normal ((plF F).keys 30) (env30 (.i n) (.imm .arg 3 ls) (.imm .lit 1 []) (.imm .lit 1 []) (.i 0) y7 y8 y9 (.map mb) (.s pb k) (.s qb c) (.i (i:Int)) (.i x) (.s ob m) (.i (m:Int)) (.i (IntKind.i64.wrap ((i:Int)+1)))) H :=
  RunsTo.hin N 60 [⟨9,0,.bool true,H⟩,⟨10,1,.ptr ob i 0 m,H⟩,⟨10,2,.i x,H⟩,⟨11,2,.bool true,H⟩,⟨11,5,.bool false,H⟩,⟨13,2,.bool true,H⟩] fun kf hk=>⟨_,by kernel_rfl,(oB H (decide_eq_true g0) (oP H g1 (oP H g2 (oC (g3) (oB H (congrArg not (decide_eq_true g4)) (oC (g5) .nil))))))⟩
theorem cr_l_2 (N:Nat) (n:Int) (ls:List HV) (H:Heap) (ob m mb pb k qb c i:Nat) (x:Int) {y7 y8 y9 y13 y14:HV} {H0:Heap} {v0:HV} (g0:(i:Int) < (m:Int)) (g1:idxV Tp 24 (.s ob m) (.i (i:Int))=some (.ptr ob i 0 m)) (g2:loadV Tp H 3 (.ptr ob i 0 m)=some (.i x)) (g3:lkH Tp 72 H mb (.i (i:Int))=some (.bool true,H)) (g4:¬ (x=0)) (g5:appV H 1 8 (.s pb k) [.i (i:Int)]=some (v0,H0)) (g6:lkH Tp 72 H0 mb (.i (i:Int))=some (.bool true,H0)):RunsTo Tp (plF F) 30 (sub [1,1,1,1,1,1,0,1,0,0] B30) (env30 (.i n) (.imm .arg 3 ls) (.imm .lit 1 []) (.imm .lit 1 []) (.i 0) y7 y8 y9 (.map mb) (.s pb k) (.s qb c) y13 y14 (.s ob m) (.i (m:Int)) (.i (i:Int))) H .normal ((plF F).keys 30) (env30 (.i n) (.imm .arg 3 ls) (.imm .lit 1 []) (.imm .lit 1 []) (.i 0) y7 y8 y9 (.map mb) v0 (.s qb c) (.i (i:Int)) (.i x) (.s ob m) (.i (m:Int)) (.i (IntKind.i64.wrap ((i:Int)+1)))) H0 :=
  RunsTo.hin N 60 [⟨9,0,.bool true,H⟩,⟨10,1,.ptr ob i 0 m,H⟩,⟨10,2,.i x,H⟩,⟨11,2,.bool true,H⟩,⟨11,5,.bool true,H⟩,⟨12,3,v0,H0⟩,⟨13,2,.bool true,H0⟩] fun kf hk=>⟨_,by kernel_rfl,(oB H (decide_eq_true g0) (oP H g1 (oP H g2 (oC (g3) (oB H (congrArg not (decide_eq_false g4)) (oC (g5) (oC (g6) .nil)))))))⟩
theorem cr_l_5 (N:Nat) (n:Int) (ls:List HV) (H:Heap) (ob m mb pb k qb c i:Nat) (x:Int) {y7 y8 y9 y13 y14:HV}(g0:(i:Int) < (m:Int)) (g1:idxV Tp 24 (.s ob m) (.i (i:Int))=some (.ptr ob i 0 m)) (g2:loadV Tp H 3 (.ptr ob i 0 m)=some (.i x)) (g3:lkH Tp 72 H mb (.i (i:Int))=some (.bool false,H)) (g4:lkH Tp 72 H mb (.i (i:Int))=some (.bool false,H)) (g5:x=0):RunsTo Tp (plF F) 30 (sub [1,1,1,1,1,1,0,1,0,0] B30) (env30 (.i n) (.imm .arg 3 ls) (.imm .lit 1 []) (.imm .lit 1 []) (.i 0) y7 y8 y9 (.map mb) (.s pb k) (.s qb c) y13 y14 (.s ob m) (.i (m:Int)) (.i (i:Int))) H .normal ((plF F).keys 30) (env30 (.i n) (.imm .arg 3 ls) (.imm .lit 1 []) (.imm .lit 1 []) (.i 0) y7 y8 y9 (.map mb) (.s pb k) (.s qb c) (.i (i:Int)) (.i x) (.s ob m) (.i (m:Int)) (.i (IntKind.i64.wrap ((i:Int)+1)))) H :=
  RunsTo.hin N 60 [⟨9,0,.bool true,H⟩,⟨10,1,.ptr ob i 0 m,H⟩,⟨10,2,.i x,H⟩,⟨11,2,.bool false,H⟩,⟨13,2,.bool false,H⟩,⟨13,6,.bool false,H⟩] fun kf hk=>⟨_,by kernel_rfl,(oB H (decide_eq_true g0) (oP H g1 (oP H g2 (oC (g3) (oC (g4) (oB H (congrArg not (decide_eq_true g5)) .nil))))))⟩
theorem cr_l_6 (N:Nat) (n:Int) (ls:List HV) (H:Heap) (ob m mb pb k qb c i:Nat) (x:Int) {y7 y8 y9 y13 y14:HV} {H0:Heap} {v0:HV} (g0:(i:Int) < (m:Int)) (g1:idxV Tp 24 (.s ob m) (.i (i:Int))=some (.ptr ob i 0 m)) (g2:loadV Tp H 3 (.ptr ob i 0 m)=some (.i x)) (g3:lkH Tp 72 H mb (.i (i:Int))=some (.bool false,H)) (g4:lkH Tp 72 H mb (.i (i:Int))=some (.bool false,H)) (g5:¬ (x=0)) (g6:appV H 1 8 (.s qb c) [.i (i:Int)]=some (v0,H0)):RunsTo Tp (plF F) 30 (sub [1,1,1,1,1,1,0,1,0,0] B30) (env30 (.i n) (.imm .arg 3 ls) (.imm .lit 1 []) (.imm .lit 1 []) (.i 0) y7 y8 y9 (.map mb) (.s pb k) (.s qb c) y13 y14 (.s ob m) (.i (m:Int)) (.i (i:Int))) H .normal ((plF F).keys 30) (env30 (.i n) (.imm .arg 3 ls) (.imm .lit 1 []) (.imm .lit 1 []) (.i 0) y7 y8 y9 (.map mb) (.s pb k) v0 (.i (i:Int)) (.i x) (.s ob m) (.i (m:Int)) (.i (IntKind.i64.wrap ((i:Int)+1)))) H0 :=
  RunsTo.hin N 60 [⟨9,0,.bool true,H⟩,⟨10,1,.ptr ob i 0 m,H⟩,⟨10,2,.i x,H⟩,⟨11,2,.bool false,H⟩,⟨13,2,.bool false,H⟩,⟨13,6,.bool true,H⟩,⟨14,3,v0,H0⟩] fun kf hk=>⟨_,by kernel_rfl,(oB H (decide_eq_true g0) (oP H g1 (oP H g2 (oC (g3) (oC (g4) (oB H (congrArg not (decide_eq_false g5)) (oC (g6) .nil)))))))⟩
theorem cr_l_7 (N:Nat) (n:Int) (ls:List HV) (H:Heap) (ob m mb pb k qb c i:Nat) (x:Int) {y7 y8 y9 y13 y14:HV}(g0:¬ ((i:Int) < (m:Int))):RunsTo Tp (plF F) 30 (sub [1,1,1,1,1,1,0,1,0,0] B30) (env30 (.i n) (.imm .arg 3 ls) (.imm .lit 1 []) (.imm .lit 1 []) (.i 0) y7 y8 y9 (.map mb) (.s pb k) (.s qb c) y13 y14 (.s ob m) (.i (m:Int)) (.i (i:Int))) H (.exit 0) ((plF F).keys 30) (env30 (.i n) (.imm .arg 3 ls) (.imm .lit 1 []) (.imm .lit 1 []) (.i 0) y7 y8 y9 (.map mb) (.s pb k) (.s qb c) y13 y14 (.s ob m) (.i (m:Int)) (.i (i:Int))) H :=
  RunsTo.hin N 60 [⟨9,0,.bool false,H⟩] fun kf hk=>⟨_,by kernel_rfl,(oB H (decide_eq_false g0) .nil)⟩
theorem cr_z_0 (N:Nat) (n:Int) (ls:List HV) (H:Heap) (pb k qb c:Nat) {y7 y8 y9 y10 y13 y14 y31 y32 y33:HV}:RunsTo Tp (plF F) 30 (sub [1,1,1,1,1,1,1] B30) (env30 (.i n) (.imm .arg 3 ls) (.imm .lit 1 []) (.imm .lit 1 []) (.i 0) y7 y8 y9 y10 (.s pb k) (.s qb c) y13 y14 y31 y32 y33) H .ret ((plF F).keys 30) (env30 (.i n) (.imm .arg 3 ls) (.s pb k) (.s qb c) (.i 0) y7 y8 y9 y10 (.s pb k) (.s qb c) y13 y14 y31 y32 y33) H :=
  RunsTo.hin N 60 [] fun kf hk=>⟨_,by kernel_rfl,.nil⟩
noncomputable def B31:Code:=Try.f31.body.getD .skip
abbrev env31 (v0 v1 v4 v5 v6 v8 v9 v10 v11:HV):Env:=[(0,v0),(1,v1),(4,v4),(5,v5),(6,v6),(8,v8),(9,v9),(10,v10),(11,v11)]
theorem rc_a_0 (n:Int) (ls:List HV) :RunsTo Tp (plF F) 31 (sub [0] B31) [(0,.i n),(1,.imm .arg 3 ls)] [] .normal ((plF F).keys 31) (env31 (.i n) (.imm .arg 3 ls) (.imm .lit 1 []) (.imm .lit 1 []) Ud Ud Ud Ud Ud) [] :=
  RunsTo.hin 0 60 [] fun kf hk=>⟨_,by kernel_rfl,.nil⟩
theorem rc_b_0 (n:Int) (ls:List HV) (H:Heap) (fb q:Nat) {y6 y8 y9 y10 y11:HV} {H0:Heap} (g0:∀ kf,callN Tp (plF F) (kf+1) 20 [.i n,.imm .arg 3 ls] H=some (.tuple [.s fb q,.bool true],H0)):RunsTo Tp (plF F) 31 (sub [1,0] B31) (env31 (.i n) (.imm .arg 3 ls) (.imm .lit 1 []) (.imm .lit 1 []) y6 y8 y9 y10 y11) H .normal ((plF F).keys 31) (env31 (.i n) (.imm .arg 3 ls) (.imm .lit 1 []) (.imm .lit 1 []) (.s fb q) y8 y9 y10 y11) H0 :=
  RunsTo.hin 0 60 [⟨1,2,.tuple [.s fb q,.bool true],H0⟩] fun kf hk=>⟨_,by kernel_rfl,(oC (g0 kf) .nil)⟩
theorem rc_b_1 (n:Int) (ls:List HV) (H:Heap) (fb q:Nat) {y6 y8 y9 y10 y11:HV} {H0:Heap} (g0:∀ kf,callN Tp (plF F) (kf+1) 20 [.i n,.imm .arg 3 ls] H=some (.tuple [.s fb q,.bool false],H0)):RunsTo Tp (plF F) 31 (sub [1,0] B31) (env31 (.i n) (.imm .arg 3 ls) (.imm .lit 1 []) (.imm .lit 1 []) y6 y8 y9 y10 y11) H .normal ((plF F).keys 31) (env31 (.i n) (.imm .arg 3 ls) (.imm .lit 1 []) (.imm .lit 1 []) (.s fb q) y8 y9 y10 y11) H0 :=
  RunsTo.hin 0 60 [⟨1,2,.tuple [.s fb q,.bool false],H0⟩] fun kf hk=>⟨_,by kernel_rfl,(oC (g0 kf) .nil)⟩
theorem rc_c_0 (n:Int) (ls:List HV) (H:Heap) (fb q ob m:Nat) {y8 y9 y10 y11:HV} {H0:Heap} (g0:∀ kf,callN Tp (plF F) (kf+1) 32 [.i n,.imm .arg 3 ls] H=some (.s ob m,H0)):RunsTo Tp (plF F) 31 (sub [1,1,0] B31) (env31 (.i n) (.imm .arg 3 ls) (.imm .lit 1 []) (.imm .lit 1 []) (.s fb q) y8 y9 y10 y11) H .normal ((plF F).keys 31) (env31 (.i n) (.imm .arg 3 ls) (.imm .lit 1 []) (.imm .lit 1 []) (.s fb q) (.s ob m) y9 y10 y11) H0 :=
  RunsTo.hin 0 60 [⟨2,2,.s ob m,H0⟩] fun kf hk=>⟨_,by kernel_rfl,(oC (g0 kf) .nil)⟩
theorem rc_d_0 (n:Int) (ls:List HV) (H:Heap) (fb q ob m:Nat) {y9 y10 y11:HV} {v0:HV} {H0:Heap} {v1:HV} {H1:Heap} (g0:some (HV.sl H.length 0 0 none 0 1,H ++ [Blk.b []])=some (v0,H0)) (g1:some (HV.sl H0.length 0 0 none 0 1,H0 ++ [Blk.b []])=some (v1,H1)):RunsTo Tp (plF F) 31 (sub [1,1,1,0] B31) (env31 (.i n) (.imm .arg 3 ls) (.imm .lit 1 []) (.imm .lit 1 []) (.s fb q) (.s ob m) y9 y10 y11) H .normal ((plF F).keys 31) (env31 (.i n) (.imm .arg 3 ls) (.imm .lit 1 []) (.imm .lit 1 []) (.s fb q) (.s ob m) v0 v1 y11) H1 :=
  RunsTo.hin 0 60 [⟨3,0,v0,H0⟩,⟨3,1,v1,H1⟩] fun kf hk=>⟨_,by kernel_rfl,(oC (g0) (oC (g1) .nil))⟩
theorem rc_e_0 (n:Int) (ls:List HV) (H:Heap) (fb q ob m pb k qb c:Nat) {y11:HV}:RunsTo Tp (plF F) 31 (sub [1,1,1,1,0,0] B31) (env31 (.i n) (.imm .arg 3 ls) (.imm .lit 1 []) (.imm .lit 1 []) (.s fb q) (.s ob m) (.s pb k) (.s qb c) y11) H .normal ((plF F).keys 31) (env31 (.i n) (.imm .arg 3 ls) (.imm .lit 1 []) (.imm .lit 1 []) (.s fb q) (.s ob m) (.s pb k) (.s qb c) (.i 0)) H :=
  RunsTo.hin 0 60 [] fun kf hk=>⟨_,by kernel_rfl,.nil⟩
theorem rc_l_0 (n:Int) (ls:List HV) (H:Heap) (fb q ob m pb k qb c i:Nat) (x:Int) {H0:Heap} {H1:Heap} (g0:(i:Int) < (ls.length:Int)) (g1:∀ kf,callN Tp (plF F) (kf+1) 51 [.s fb q,.i (i:Int)] H=some (.bool true,H0)) (g2:idxV Tp 24 (.s ob m) (.i (i:Int))=some (.ptr ob i 0 m)) (g3:loadV Tp H0 3 (.ptr ob i 0 m)=some (.i x)) (g4:x=0) (g5:∀ kf,callN Tp (plF F) (kf+1) 51 [.s fb q,.i (i:Int)] H0=some (.bool true,H1)):RunsTo Tp (plF F) 31 (sub [1,1,1,1,0,1,0,0] B31) (env31 (.i n) (.imm .arg 3 ls) (.imm .lit 1 []) (.imm .lit 1 []) (.s fb q) (.s ob m) (.s pb k) (.s qb c) (.i (i:Int))) H .normal ((plF F).keys 31) (env31 (.i n) (.imm .arg 3 ls) (.imm .lit 1 []) (.imm .lit 1 []) (.s fb q) (.s ob m) (.s pb k) (.s qb c) (.i (IntKind.i64.wrap ((i:Int)+1)))) H1 :=
  RunsTo.hin 0 60 [⟨5,3,.bool true,H⟩,⟨7,2,.bool true,H0⟩,⟨7,6,.ptr ob i 0 m,H0⟩,⟨7,7,.i x,H0⟩,⟨7,8,.bool false,H0⟩,⟨9,2,.bool true,H1⟩] fun kf hk=>⟨_,by kernel_rfl,(oB H (decide_eq_true g0) (oC (g1 kf) (oP H0 g2 (oP H0 g3 (oB H0 (congrArg not (decide_eq_true g4)) (oC (g5 kf) .nil))))))⟩
theorem rc_l_3 (n:Int) (ls:List HV) (H:Heap) (fb q ob m pb k qb c i:Nat) (x:Int) {H0:Heap} {H1:Heap} {v0:HV} {H2:Heap} (g0:(i:Int) < (ls.length:Int)) (g1:∀ kf,callN Tp (plF F) (kf+1) 51 [.s fb q,.i (i:Int)] H=some (.bool true,H0)) (g2:idxV Tp 24 (.s ob m) (.i (i:Int))=some (.ptr ob i 0 m)) (g3:loadV Tp H0 3 (.ptr ob i 0 m)=some (.i x)) (g4:¬ (x=0)) (g5:appV H0 1 8 (.s pb k) [.i (i:Int)]=some (v0,H1)) (g6:∀ kf,callN Tp (plF F) (kf+1) 51 [.s fb q,.i (i:Int)] H1=some (.bool true,H2)):RunsTo Tp (plF F) 31 (sub [1,1,1,1,0,1,0,0] B31) (env31 (.i n) (.imm .arg 3 ls) (.imm .lit 1 []) (.imm .lit 1 []) (.s fb q) (.s ob m) (.s pb k) (.s qb c) (.i (i:Int))) H .normal ((plF F).keys 31) (env31 (.i n) (.imm .arg 3 ls) (.imm .lit 1 []) (.imm .lit 1 []) (.s fb q) (.s ob m) v0 (.s qb c) (.i (IntKind.i64.wrap ((i:Int)+1)))) H2 :=
  RunsTo.hin 0 60 [⟨5,3,.bool true,H⟩,⟨7,2,.bool true,H0⟩,⟨7,6,.ptr ob i 0 m,H0⟩,⟨7,7,.i x,H0⟩,⟨7,8,.bool true,H0⟩,⟨8,3,v0,H1⟩,⟨9,2,.bool true,H2⟩] fun kf hk=>⟨_,by kernel_rfl,(oB H (decide_eq_true g0) (oC (g1 kf) (oP H0 g2 (oP H0 g3 (oB H0 (congrArg not (decide_eq_false g4)) (oC (g5) (oC (g6 kf) .nil)))))))⟩
theorem rc_l_7 (n:Int) (ls:List HV) (H:Heap) (fb q ob m pb k qb c i:Nat) (x:Int) {H0:Heap} {H1:Heap} {H2:Heap} {v0:HV} (g0:(i:Int) < (ls.length:Int)) (g1:∀ kf,callN Tp (plF F) (kf+1) 51 [.s fb q,.i (i:Int)] H=some (.bool false,H0)) (g2:∀ kf,callN Tp (plF F) (kf+1) 51 [.s fb q,.i (i:Int)] H0=some (.bool false,H1)) (g3:idxV Tp 24 (.s ob m) (.i (i:Int))=some (.ptr ob i 0 m)) (g4:loadV Tp H1 3 (.ptr ob i 0 m)=some (.i x)) (g5:0 < x) (g6:appV H1 1 8 (.s qb c) [.i (i:Int)]=some (v0,H2)):RunsTo Tp (plF F) 31 (sub [1,1,1,1,0,1,0,0] B31) (env31 (.i n) (.imm .arg 3 ls) (.imm .lit 1 []) (.imm .lit 1 []) (.s fb q) (.s ob m) (.s pb k) (.s qb c) (.i (i:Int))) H .normal ((plF F).keys 31) (env31 (.i n) (.imm .arg 3 ls) (.imm .lit 1 []) (.imm .lit 1 []) (.s fb q) (.s ob m) (.s pb k) v0 (.i (IntKind.i64.wrap ((i:Int)+1)))) H2 :=
  RunsTo.hin 0 60 [⟨5,3,.bool true,H⟩,⟨7,2,.bool false,H0⟩,⟨9,2,.bool false,H1⟩,⟨9,7,.ptr ob i 0 m,H1⟩,⟨9,8,.i x,H1⟩,⟨9,9,.bool true,H1⟩,⟨10,3,v0,H2⟩] fun kf hk=>⟨_,by kernel_rfl,(oB H (decide_eq_true g0) (oC (g1 kf) (oC (g2 kf) (oP H1 g3 (oP H1 g4 (oB H1 (decide_eq_true g5) (oC (g6) .nil)))))))⟩
theorem rc_l_8 (n:Int) (ls:List HV) (H:Heap) (fb q ob m pb k qb c i:Nat) (x:Int) {H0:Heap} {H1:Heap} (g0:(i:Int) < (ls.length:Int)) (g1:∀ kf,callN Tp (plF F) (kf+1) 51 [.s fb q,.i (i:Int)] H=some (.bool false,H0)) (g2:∀ kf,callN Tp (plF F) (kf+1) 51 [.s fb q,.i (i:Int)] H0=some (.bool false,H1)) (g3:idxV Tp 24 (.s ob m) (.i (i:Int))=some (.ptr ob i 0 m)) (g4:loadV Tp H1 3 (.ptr ob i 0 m)=some (.i x)) (g5:¬ (0 < x)):RunsTo Tp (plF F) 31 (sub [1,1,1,1,0,1,0,0] B31) (env31 (.i n) (.imm .arg 3 ls) (.imm .lit 1 []) (.imm .lit 1 []) (.s fb q) (.s ob m) (.s pb k) (.s qb c) (.i (i:Int))) H .normal ((plF F).keys 31) (env31 (.i n) (.imm .arg 3 ls) (.imm .lit 1 []) (.imm .lit 1 []) (.s fb q) (.s ob m) (.s pb k) (.s qb c) (.i (IntKind.i64.wrap ((i:Int)+1)))) H1 :=
  RunsTo.hin 0 60 [⟨5,3,.bool true,H⟩,⟨7,2,.bool false,H0⟩,⟨9,2,.bool false,H1⟩,⟨9,7,.ptr ob i 0 m,H1⟩,⟨9,8,.i x,H1⟩,⟨9,9,.bool false,H1⟩] fun kf hk=>⟨_,by kernel_rfl,(oB H (decide_eq_true g0) (oC (g1 kf) (oC (g2 kf) (oP H1 g3 (oP H1 g4 (oB H1 (decide_eq_false g5) .nil))))))⟩
theorem rc_l_9 (n:Int) (ls:List HV) (H:Heap) (fb q ob m pb k qb c i:Nat) (x:Int)(g0:¬ ((i:Int) < (ls.length:Int))):RunsTo Tp (plF F) 31 (sub [1,1,1,1,0,1,0,0] B31) (env31 (.i n) (.imm .arg 3 ls) (.imm .lit 1 []) (.imm .lit 1 []) (.s fb q) (.s ob m) (.s pb k) (.s qb c) (.i (i:Int))) H (.exit 0) ((plF F).keys 31) (env31 (.i n) (.imm .arg 3 ls) (.imm .lit 1 []) (.imm .lit 1 []) (.s fb q) (.s ob m) (.s pb k) (.s qb c) (.i (i:Int))) H :=
  RunsTo.hin 0 60 [⟨5,3,.bool false,H⟩] fun kf hk=>⟨_,by kernel_rfl,(oB H (decide_eq_false g0) .nil)⟩
theorem rc_z_0 (n:Int) (ls:List HV) (H:Heap) (pb k qb c:Nat) {y6 y8 y11:HV}:RunsTo Tp (plF F) 31 (sub [1,1,1,1,1] B31) (env31 (.i n) (.imm .arg 3 ls) (.imm .lit 1 []) (.imm .lit 1 []) y6 y8 (.s pb k) (.s qb c) y11) H .ret ((plF F).keys 31) (env31 (.i n) (.imm .arg 3 ls) (.s pb k) (.s qb c) y6 y8 (.s pb k) (.s qb c) y11) H :=
  RunsTo.hin 0 60 [] fun kf hk=>⟨_,by kernel_rfl,.nil⟩
end
end Go.Proofs.Ytiejmoglooaalaa
end
section
open Go Go.HL
namespace Go.Proofs.Ytiejmoglooaalaa
set_option maxRecDepth 100000
open Go.Proofs.Try renaming prog → Tp
open Go.HL.HV renaming undef → Ud
section
variable {F:FuncId → Option (List HV → Option HV)}
noncomputable def B26:Code:=Try.f26.body.getD .skip
abbrev env26 (v0 v1 v4 v5 v6 v7 v8:HV):Env:=[(0,v0),(1,v1),(4,v4),(5,v5),(6,v6),(7,v7),(8,v8)]
theorem sl_a_0 (N:Nat) (n:Int) (ls:List HV) :RunsTo Tp (plF F) 26 (sub [0] B26) [(0,.i n),(1,.imm .arg 3 ls)] [] .normal ((plF F).keys 26) (env26 (.i n) (.imm .arg 3 ls) (.imm .lit 1 []) (.i 0) Ud Ud Ud) [] :=
  RunsTo.hin N 60 [] fun kf hk=>⟨_,by kernel_rfl,.nil⟩
theorem sl_b_0 (N:Nat) (n:Int) (ls:List HV)  {y6 y7 y8:HV} {H0:Heap} {a0:HV} {H1:Heap} {H2:Heap} (g0:∀ kf,N ≤ kf → callN Tp (plF F) (kf+1) 39 [.i n,.imm .arg 3 ls] []=some (.tuple [.agg [.i n,.imm .arg 3 ls],.bool true],H0)) (g1:some (newV (.agg [.i 0,.imm .lit 0 []]) H0)=some (a0,H1)) (g2:storeV Tp H1 66 (a0) (.agg [.i n,.imm .arg 3 ls])=some H2):RunsTo Tp (plF F) 26 (sub [1,0] B26) (env26 (.i n) (.imm .arg 3 ls) (.imm .lit 1 []) (.i 0) y6 y7 y8) [] .normal ((plF F).keys 26) (env26 (.i n) (.imm .arg 3 ls) (.imm .lit 1 []) (.i 0) a0 (.bool true) y8) H2 :=
  RunsTo.hin N 60 [⟨1,2,.tuple [.agg [.i n,.imm .arg 3 ls],.bool true],H0⟩,⟨1,6,a0,H1⟩,⟨1,7,.tuple [],H2⟩] fun kf hk=>⟨_,by kernel_rfl,(oC (g0 kf (by omega)) (oC (g1) (oS g2 .nil)))⟩
theorem sl_b_1 (N:Nat) (n:Int) (ls:List HV)  {y6 y7 y8:HV} {H0:Heap} {a0:HV} {H1:Heap} {H2:Heap} (g0:∀ kf,N ≤ kf → callN Tp (plF F) (kf+1) 39 [.i n,.imm .arg 3 ls] []=some (.tuple [.agg [.i n,.imm .arg 3 ls],.bool false],H0)) (g1:some (newV (.agg [.i 0,.imm .lit 0 []]) H0)=some (a0,H1)) (g2:storeV Tp H1 66 (a0) (.agg [.i n,.imm .arg 3 ls])=some H2):RunsTo Tp (plF F) 26 (sub [1,0] B26) (env26 (.i n) (.imm .arg 3 ls) (.imm .lit 1 []) (.i 0) y6 y7 y8) [] .normal ((plF F).keys 26) (env26 (.i n) (.imm .arg 3 ls) (.imm .lit 1 []) (.i 0) a0 (.bool false) y8) H2 :=
  RunsTo.hin N 60 [⟨1,2,.tuple [.agg [.i n,.imm .arg 3 ls],.bool false],H0⟩,⟨1,6,a0,H1⟩,⟨1,7,.tuple [],H2⟩] fun kf hk=>⟨_,by kernel_rfl,(oC (g0 kf (by omega)) (oC (g1) (oS g2 .nil)))⟩
theorem sl_ct_0 (N:Nat) (n:Int) (ls:List HV) (H:Heap) {y8:HV}:RunsTo Tp (plF F) 26 (sub [1,1,0] B26) (env26 (.i n) (.imm .arg 3 ls) (.imm .lit 1 []) (.i 0) (.ptr 0 0 0 1) (.bool true) y8) H .normal ((plF F).keys 26) (env26 (.i n) (.imm .arg 3 ls) (.imm .lit 1 []) (.i 0) (.ptr 0 0 0 1) (.bool true) y8) H :=
  RunsTo.hin N 60 [] fun kf hk=>⟨_,by kernel_rfl,.nil⟩
theorem sl_cf_0 (N:Nat) (n:Int) (ls:List HV) (H:Heap) {y8:HV}:RunsTo Tp (plF F) 26 (sub [1,1,0] B26) (env26 (.i n) (.imm .arg 3 ls) (.imm .lit 1 []) (.i 0) (.ptr 0 0 0 1) (.bool false) y8) H .ret ((plF F).keys 26) (env26 (.i n) (.imm .arg 3 ls) (.imm .lit 1 []) (.i 2) (.ptr 0 0 0 1) (.bool false) y8) H :=
  RunsTo.hin N 60 [] fun kf hk=>⟨_,by kernel_rfl,.nil⟩
theorem sl_d_0 (N:Nat) (n:Int) (ls:List HV) (H:Heap) (ob m mb:Nat) {y8:HV} {H0:Heap} (g0:loadV Tp H 66 (.ptr 0 0 0 1)=some (.agg [.i n,.imm .arg 3 ls])) (g1:∀ kf,callN Tp (plF F) (kf+1) 43 [.agg [.i n,.imm .arg 3 ls]] H=some (.tuple [.s ob m,.map mb,.bool true],H0)):RunsTo Tp (plF F) 26 (sub [1,1,1,0] B26) (env26 (.i n) (.imm .arg 3 ls) (.imm .lit 1 []) (.i 0) (.ptr 0 0 0 1) (.bool true) y8) H .normal ((plF F).keys 26) (env26 (.i n) (.imm .arg 3 ls) (.imm .lit 1 []) (.i 0) (.ptr 0 0 0 1) (.bool true) (.s ob m)) H0 :=
  RunsTo.hin N 60 [⟨4,0,.agg [.i n,.imm .arg 3 ls],H⟩,⟨4,1,.tuple [.s ob m,.map mb,.bool true],H0⟩] fun kf hk=>⟨_,by kernel_rfl,(oP H g0 (oC (g1 kf) .nil))⟩
theorem sl_d_1 (N:Nat) (n:Int) (ls:List HV) (H:Heap) (ob m mb:Nat) {y8:HV} {H0:Heap} (g0:loadV Tp H 66 (.ptr 0 0 0 1)=some (.agg [.i n,.imm .arg 3 ls])) (g1:∀ kf,callN Tp (plF F) (kf+1) 43 [.agg [.i n,.imm .arg 3 ls]] H=some (.tuple [.s ob m,.nilmap,.bool false],H0)):RunsTo Tp (plF F) 26 (sub [1,1,1,0] B26) (env26 (.i n) (.imm .arg 3 ls) (.imm .lit 1 []) (.i 0) (.ptr 0 0 0 1) (.bool true) y8) H .normal ((plF F).keys 26) (env26 (.i n) (.imm .arg 3 ls) (.imm .lit 1 []) (.i 0) (.ptr 0 0 0 1) (.bool false) (.s ob m)) H0 :=
  RunsTo.hin N 60 [⟨4,0,.agg [.i n,.imm .arg 3 ls],H⟩,⟨4,1,.tuple [.s ob m,.nilmap,.bool false],H0⟩] fun kf hk=>⟨_,by kernel_rfl,(oP H g0 (oC (g1 kf) .nil))⟩
theorem sl_et_0 (N:Nat) (n:Int) (ls:List HV) (H:Heap) (ob m:Nat):RunsTo Tp (plF F) 26 (sub [1,1,1,1] B26) (env26 (.i n) (.imm .arg 3 ls) (.imm .lit 1 []) (.i 0) (.ptr 0 0 0 1) (.bool true) (.s ob m)) H .ret ((plF F).keys 26) (env26 (.i n) (.imm .arg 3 ls) (.s ob m) (.i 0) (.ptr 0 0 0 1) (.bool true) (.s ob m)) H :=
  RunsTo.hin N 60 [] fun kf hk=>⟨_,by kernel_rfl,.nil⟩
theorem sl_ef_0 (N:Nat) (n:Int) (ls:List HV) (H:Heap) (ob m:Nat):RunsTo Tp (plF F) 26 (sub [1,1,1,1] B26) (env26 (.i n) (.imm .arg 3 ls) (.imm .lit 1 []) (.i 0) (.ptr 0 0 0 1) (.bool false) (.s ob m)) H .ret ((plF F).keys 26) (env26 (.i n) (.imm .arg 3 ls) (.imm .lit 1 []) (.i 6) (.ptr 0 0 0 1) (.bool false) (.s ob m)) H :=
  RunsTo.hin N 60 [] fun kf hk=>⟨_,by kernel_rfl,.nil⟩
end
end Go.Proofs.Ytiejmoglooaalaa
end
section
open Go Go.HL
namespace Go.Proofs.Ytiejmoglooaalaa
open Go.Proofs.Try renaming prog → Tp
open Go.HL.HV renaming undef → Ud
theorem nilmap_res (H:Heap):toRes H false (.tuple [.imm .lit 1 [],.nilmap,.bool false])=some (.tuple [.own 1 [],.nilmap,.bool false]):=by
  simp [toRes,ownedAll,cellsOf,owned,resVal,resCell,mapO]; rfl
def iniT (m j:Nat):List Int:=List.replicate j (-1) ++ List.replicate (m - j) 0
theorem ini_len {m j:Nat} (h:j ≤ m):(iniT m j).length=m:=by rw [iniT,List.length_append,List.length_replicate,List.length_replicate]; omega
theorem ini_set {m j:Nat} (h:j < m):(iniT m j).set j (-1)=iniT m (j+1):=by
  rw [iniT,List.set_append_right _ _ (by simp),List.length_replicate,Nat.sub_self,iniT,show m - j=(m - (j+1))+1 by omega,List.replicate_succ (n:=m - (j+1)),List.set_cons_zero,List.replicate_succ',List.append_assoc]; rfl
theorem res_slk {n:Int} {l:List St} {T O:List Int} (hO:O.length=l.length):toRes (hS n l T T O) false (.tuple [.sl 3 0 l.length (some l.length) l.length 1,.map 2,.bool true])=some (.tuple [.own 1 (O.map encI),.omap (T.map encI) (T.map fun _=>HV.bool true),.bool true]):=by
  have hr:=resCell_sl (H:=hS n l T T O) (no:=[3,2]) (b:=3) (k:=1) (m:=l.length) (cap:=some l.length) (els:=O.map encI) rfl (by simpa using hO) (mapO_self (fun r=>frz_int 4 r) _)
  have hks:mapO (frz (hS n l T T O) [3,2] 4) (T.map encI)=some (T.map encI):=mapO_self (fun r=>frz_int 4 r) _
  have hvs:∀ l2:List Int,mapO (frz (hS n l T T O) [3,2] 4) (l2.map fun _=>HV.bool true)=some (l2.map fun _=>HV.bool true):=by
    intro l2
    induction l2 with
    | nil=>rfl
    | cons y l2 ih=>simp only [List.map_cons,mapO,ih]; rfl
  have hm:resCell (hS n l T T O) [3,2] false (.map 2)=some (.omap (T.map encI) (T.map fun _=>HV.bool true)):=by
    have hg:(hS n l T T O)[2]?=some (.map (T.map encI) (T.map fun _=>HV.bool true) 0):=rfl
    simp only [resCell,hg,hks,hvs T]
  have ho:ownedAll (hS n l T T O) false (.tuple [.sl 3 0 l.length (some l.length) l.length 1,.map 2,.bool true])=[3,2]:=rfl
  simp only [toRes,ho,List.nodup_cons,List.mem_singleton,List.not_mem_nil,not_false_eq_true,List.nodup_nil,and_self,and_true,if_true,resVal,mapO,hr,hm]
  rfl
theorem slack_ok:PrimOk Tp 43 slack43:=by
  refine primOk_pure (pol:=plF prSk) (fn:=Try.f43) (cd:=B43) follows_mixed soundSk (by kernel_rfl) (by kernel_rfl) (fnok prSk _ _ (by kernel_rfl)) (by kernel_rfl) ?_
  intro args res h
  obtain ⟨⟨n,l⟩,rfl,hq⟩:=f1_inv h
  simp only at hq
  split at hq
  case isFalse=>cases hq
  rename_i hnet
  cases hq
  obtain ⟨⟨n1,n2⟩,n3,he,hw⟩:=netB_ends hnet
  have heB:=endN_B he (by omega)
  have a:=sk_a_0 (F:=prSk) 0 n (l.map encT)
  have c40:=at1 (pol':=plF prSk) (g:=40) (c1:=kN) (f:=fun p=>if netOk p.1 p.2 then some (.tuple [.own 1 ((treeT p.2).map encI),.bool (connB p.1 p.2)]) else none) (H:=[bN n l]) (by kernel_rfl) (ShN _ n l) (if_pos ⟨heB,by show l.length ≤ 900; omega,by show 0 ≤ n; omega,by show n ≤ 1000; omega⟩)
  rw [recv_tb] at c40
  simp only at c40
  by_cases cn:connB n l=true
  case neg =>
    rw [nb_false cn] at c40
    have b:=sk_b_1 (F:=prSk) 0 n (l.map encT) [bN n l] 1 (treeT l).length (y5:=Ud) (y6:=Ud) (y7:=Ud) (y8:=Ud) (y9:=Ud) (y10:=Ud) (y12:=Ud) (y14:=Ud) (y15:=Ud) (y29:=Ud) (y30:=Ud) (y38:=Ud) (y39:=Ud) (y40:=Ud) (y49:=Ud) (y50:=Ud) (y51:=Ud) (ld66 rfl) c40
    have c:=sk_cf_0 (F:=prSk) 0 n (l.map encT) [bN n l,bI (treeT l)] 1 (treeT l).length (y7:=Ud) (y8:=Ud) (y9:=Ud) (y10:=Ud) (y12:=Ud) (y14:=Ud) (y15:=Ud) (y29:=Ud) (y30:=Ud) (y38:=Ud) (y39:=Ud) (y40:=Ud) (y49:=Ud) (y50:=Ud) (y51:=Ud)
    refine ⟨_,_,_,.tuple [.imm .lit 1 [],.nilmap,.bool false],sq (a) (sq (b) (sqo (c) (c:=sub [1,1] B43) (b:=sub [1,1,1] B43)) (c:=sub [1] B43)) (c:=B43),by simp,by simp only [resultsV,res43]; rfl,?_⟩
    rw [if_neg cn]
    exact nilmap_res _
  rw [cn] at c40
  rw [if_pos cn]
  have b:=sk_b_0 (F:=prSk) 0 n (l.map encT) [bN n l] 1 (treeT l).length (y5:=Ud) (y6:=Ud) (y7:=Ud) (y8:=Ud) (y9:=Ud) (y10:=Ud) (y12:=Ud) (y14:=Ud) (y15:=Ud) (y29:=Ud) (y30:=Ud) (y38:=Ud) (y39:=Ud) (y40:=Ud) (y49:=Ud) (y50:=Ud) (y51:=Ud) (ld66 rfl) c40
  have c:=sk_ct_0 (F:=prSk) 0 n (l.map encT) [bN n l,bI (treeT l)] 1 (treeT l).length (y7:=Ud) (y8:=Ud) (y9:=Ud) (y10:=Ud) (y12:=Ud) (y14:=Ud) (y15:=Ud) (y29:=Ud) (y30:=Ud) (y38:=Ud) (y39:=Ud) (y40:=Ud) (y49:=Ud) (y50:=Ud) (y51:=Ud)
  have d:=sk_d_0 (F:=prSk) 0 n (l.map encT) [bN n l,bI (treeT l)] 1 (treeT l).length (y6:=.bool true) (y7:=Ud) (y8:=Ud) (y9:=Ud) (y10:=Ud) (y12:=Ud) (y14:=Ud) (y15:=Ud) (y29:=Ud) (y30:=Ud) (y38:=Ud) (y39:=Ud) (y40:=Ud) (y49:=Ud) (y50:=Ud) (y51:=Ud) rfl
  have mk:=makeV_ok (P:=Tp) (H:=[bN n l,bI (treeT l),bM []]) (t:=24) (e:=3) (k:=1) (bt:=8) (zv:=.int .i64 0) (n:=(l.length:Int)) u24 (by kernel_rfl) (by simp [cellsOf,cellV]) (by simp [cellsOf]) (by omega) (by omega) (by simp only [roomMax]; omega)
  rw [Int.toNat_natCast] at mk
  have erep:List.replicate l.length (HV.int .i64 0)=(iniT l.length 0).map encI:=by simp [iniT,encI]
  rw [erep] at mk
  have e:=sk_e_0 (F:=prSk) 0 n (l.map encT) [bN n l,bI (treeT l),bM []] 1 (treeT l).length 2 3 l.length (y6:=.bool true) (H2:=hS n l (treeT l) [] (iniT l.length 0)) (y8:=Ud) (y9:=Ud) (y10:=Ud) (y12:=Ud) (y14:=Ud) (y15:=Ud) (y29:=Ud) (y30:=Ud) (y38:=Ud) (y39:=Ud) (y40:=Ud) (y49:=Ud) (y50:=Ud) (y51:=Ud) (ld_net (xb:=0) rfl) (by rw [List.length_map]; exact mk) rfl (by kernel_rfl)
  have hsl:∀ T M O,loadV Tp (hS n l T M O) 24 (.ptr 4 0 0 1)=some (.sl 3 0 l.length (some l.length) l.length 1):=fun T M O=>load_elem (b:=4) (H:=hS n l T M O) rfl rfl rfl rfl a24 i24
  have f:=sk_f_0 (F:=prSk) 0 n (l.map encT) (hS n l (treeT l) [] (iniT l.length 0)) 1 (treeT l).length 2 4 3 l.length (y6:=.bool true) (y9:=Ud) (y10:=Ud) (y12:=Ud) (y14:=Ud) (y15:=Ud) (y29:=Ud) (y30:=Ud) (y38:=Ud) (y39:=Ud) (y40:=Ud) (y49:=Ud) (y50:=Ud) (y51:=Ud) (hsl _ _ _)
  have hTe:ouF l (treeT l) (List.replicate l.length (-1)) (treeT l)=slT l:=rfl
  have hout:=@sk_round n l hnet (treeT l)
  generalize hT:treeT l=T at *
  have r1:=count (pol':=plF prSk) (f:=43) (E:=fun i=>(env43 (encN n l) (.ptr 0 0 0 1) (.imm .lit 1 []) .nilmap (.bool false) (.sl 1 0 T.length none T.length 1) Ud (.map 2) (.ptr 4 0 0 1) Ud Ud Ud Ud Ud (.int .i64 (l.length:Int)) (.int .i64 ((i:Nat):Int)) Ud Ud Ud Ud Ud Ud)) (Hs:=fun i=>hS n l T [] (iniT l.length i)) l.length (E0:=fun i=>(env43 (encN n l) (.ptr 0 0 0 1) (.imm .lit 1 []) .nilmap (.bool false) (.sl 1 0 T.length none T.length 1) Ud (.map 2) (.ptr 4 0 0 1) (.int .i64 (i:Int)) Ud Ud Ud Ud (.int .i64 (l.length:Int)) (.int .i64 ((i+1:Nat):Int)) Ud Ud Ud Ud Ud Ud)) (H1:=fun i=>hS n l T [] (iniT l.length (i+1)))
    (fun i hi=>by
      have hil:=ini_len (m:=l.length) (j:=i) (by omega)
      have st:=store_out (H:=hS n l T [] (iniT l.length i)) (k:=3) (o:=iniT l.length i) rfl (y:=i) (by omega) (-1)
      rw [hil,ini_set hi] at st
      have s:=sk_g_0 (F:=prSk) 0 n (l.map encT) (hS n l T [] (iniT l.length i)) 1 T.length 2 4 3 l.length i (y6:=Ud) (y9:=Ud) (y10:=Ud) (y12:=Ud) (y14:=Ud) (y15:=Ud) (y38:=Ud) (y39:=Ud) (y40:=Ud) (y49:=Ud) (y50:=Ud) (y51:=Ud) (by omega) (hsl _ _ _) (idxS u24 z3 hi) st
      rw [wrap_succ (by omega)] at s
      exact s) (fun i _=>by kernel_rfl) (fun i _=>gc_eq _ rfl) (sk_g_1 (F:=prSk) 0 n (l.map encT) (hS n l T [] (iniT l.length l.length)) 1 T.length 2 4 3 l.length l.length (y6:=Ud) (y9:=Ud) (y10:=Ud) (y12:=Ud) (y14:=Ud) (y15:=Ud) (y38:=Ud) (y39:=Ud) (y40:=Ud) (y49:=Ud) (y50:=Ud) (y51:=Ud) (by omega)) (by simp) (c:=sub [1,1,1,1,1,0,1,0] B43) (by kernel_rfl) (fun i _=>by kernel_rfl)
  have eini:iniT l.length l.length=List.replicate l.length (-1):=by rw [iniT,Nat.sub_self,List.replicate_zero,List.append_nil]
  rw [eini] at r1
  have hh:=sk_h_0 (F:=prSk) 0 n (l.map encT) (hS n l T [] (List.replicate l.length (-1))) 1 T.length 2 4 (y29:=.int .i64 (l.length:Int)) (y30:=.int .i64 (l.length:Int)) (y6:=Ud) (y9:=Ud) (y10:=Ud) (y12:=Ud) (y14:=Ud) (y15:=Ud) (y38:=Ud) (y39:=Ud) (y40:=Ud) (y49:=Ud) (y50:=Ud) (y51:=Ud)
  have ii:=sk_i_0 (F:=prSk) 0 n (l.map encT) (hS n l T [] (List.replicate l.length (-1))) 1 T.length 2 4 (y29:=.int .i64 (l.length:Int)) (y30:=.int .i64 (l.length:Int)) (y6:=Ud) (y9:=Ud) (y12:=Ud) (y14:=Ud) (y15:=Ud) (y38:=Ud) (y39:=Ud) (y40:=Ud) (y49:=Ud) (y50:=Ud) (y51:=Ud)
  have hol:∀ i,(ouF l T (List.replicate l.length (-1)) (T.take i)).length=l.length:=fun i=>(ouF_len ..).trans (by simp)
  obtain ⟨x,E',H',r2,rfl,rfl,rfl⟩:=countI (pol':=plF prSk) (f:=43) (b:=sub [1,1,1,1,1,1,1,0,1,0,0] B43) (c:=sub [1,1,1,1,1,1,1,0,1,0] B43) (I:=fun i e H=>e=(env43 (encN n l) (.ptr 0 0 0 1) (.imm .lit 1 []) .nilmap (.bool false) (.sl 1 0 T.length none T.length 1) Ud (.map 2) (.ptr 4 0 0 1) Ud (.func 64 [] [.ptr 4 0 0 1]) Ud Ud Ud Ud Ud (.sl 1 0 T.length none T.length 1) (.int .i64 (T.length:Int)) (.int .i64 ((i:Nat):Int)) Ud Ud Ud)∧H=hS n l T (T.take i) (ouF l T (List.replicate l.length (-1)) (T.take i)))
    (Q:=fun x E' H'=>x=.exit 2∧E'=(env43 (encN n l) (.ptr 0 0 0 1) (.imm .lit 1 []) .nilmap (.bool false) (.sl 1 0 T.length none T.length 1) Ud (.map 2) (.ptr 4 0 0 1) Ud (.func 64 [] [.ptr 4 0 0 1]) Ud Ud Ud Ud Ud (.sl 1 0 T.length none T.length 1) (.int .i64 (T.length:Int)) (.int .i64 ((T.length:Nat):Int)) Ud Ud Ud)∧H'=hS n l T T (ouF l T (List.replicate l.length (-1)) T)) T.length
    (by
      rintro i hi e H ⟨rfl,rfl⟩
      obtain ⟨E0,H1,s,q1,q2⟩:=hout (O:=ouF l T (List.replicate l.length (-1)) (T.take i)) rfl (hol i) hi
      refine ⟨E0,H1,s,q1,?_⟩
      rw [q1]
      show gc 6 _ H1=_
      rw [q2,ouF_succ l T _ T hi])
    (by
      rintro e H ⟨rfl,rfl⟩
      rw [List.take_length]
      have s1:=sk_l_1 (F:=prSk) 0 n (l.map encT) (hS n l T T (ouF l T (List.replicate l.length (-1)) T)) 1 T.length 2 4 T.length (y6:=Ud) (y9:=Ud) (y12:=Ud) (y14:=Ud) (y15:=Ud) (y29:=Ud) (y30:=Ud) (y49:=Ud) (y50:=Ud) (y51:=Ud) (by omega)
      have s2:=sk_lf_0 (F:=prSk) 0 n (l.map encT) (hS n l T T (ouF l T (List.replicate l.length (-1)) T)) 1 T.length 2 4 T.length (y6:=Ud) (y9:=Ud) (y12:=Ud) (y14:=Ud) (y15:=Ud) (y29:=Ud) (y30:=Ud) (y49:=Ud) (y50:=Ud) (y51:=Ud)
      exact ⟨_,_,_,sq (s1) (sqo (s2) (c:=sub [1,1,1,1,1,1,1,0,1,0,0,1] B43) (b:=sub [1,1,1,1,1,1,1,0,1,0,0,1,1] B43)) (c:=sub [1,1,1,1,1,1,1,0,1,0,0] B43),by simp,rfl,rfl,rfl⟩)
    (by kernel_rfl) (by rintro i e H ⟨rfl,_⟩; kernel_rfl) (e:=(env43 (encN n l) (.ptr 0 0 0 1) (.imm .lit 1 []) .nilmap (.bool false) (.sl 1 0 T.length none T.length 1) Ud (.map 2) (.ptr 4 0 0 1) Ud (.func 64 [] [.ptr 4 0 0 1]) Ud Ud Ud Ud Ud (.sl 1 0 T.length none T.length 1) (.int .i64 (T.length:Int)) (.int .i64 ((0:Nat):Int)) Ud Ud Ud)) (H:=hS n l T [] (List.replicate l.length (-1))) ⟨rfl,rfl⟩
  have z:=sk_z_0 (F:=prSk) 0 n (l.map encT) (hS n l T T (ouF l T (List.replicate l.length (-1)) T)) 1 T.length 2 4 3 l.length (y38:=.sl 1 0 T.length none T.length 1) (y39:=.int .i64 (T.length:Int)) (y40:=.int .i64 (T.length:Int)) (y6:=Ud) (y9:=Ud) (y12:=Ud) (y14:=Ud) (y15:=Ud) (y29:=Ud) (y30:=Ud) (y49:=Ud) (y50:=Ud) (y51:=Ud) (hsl _ _ _)
  refine ⟨_,_,_,.tuple [.sl 3 0 l.length (some l.length) l.length 1,.map 2,.bool true],sq (a) (sq (b) (sq (c) (sq (d) (sq (e) (sq (sq (f) (bke (c:=sub [1,1,1,1,1,0,1] B43) (lpi (e0:=(env43 (encN n l) (.ptr 0 0 0 1) (.imm .lit 1 []) .nilmap (.bool false) (.sl 1 0 T.length none T.length 1) (.bool true) (.map 2) (.ptr 4 0 0 1) Ud Ud Ud Ud Ud (.int .i64 (l.length:Int)) (.int .i64 ((0:Nat):Int)) Ud Ud Ud Ud Ud Ud)) r1 (b:=sub [1,1,1,1,1,0,1,0,0] B43))) (c:=sub [1,1,1,1,1,0] B43)) (sq (hh) (sq (sq (ii) (bke (c:=sub [1,1,1,1,1,1,1,0,1] B43) (lpi (e0:=(env43 (encN n l) (.ptr 0 0 0 1) (.imm .lit 1 []) .nilmap (.bool false) (.sl 1 0 T.length none T.length 1) Ud (.map 2) (.ptr 4 0 0 1) Ud (.func 64 [] [.ptr 4 0 0 1]) Ud Ud Ud (.int .i64 (l.length:Int)) (.int .i64 (l.length:Int)) (.sl 1 0 T.length none T.length 1) (.int .i64 (T.length:Int)) (.int .i64 ((0:Nat):Int)) Ud Ud Ud)) r2 (b:=sub [1,1,1,1,1,1,1,0,1,0,0] B43))) (c:=sub [1,1,1,1,1,1,1,0] B43)) (z) (c:=sub [1,1,1,1,1,1,1] B43)) (c:=sub [1,1,1,1,1,1] B43)) (c:=sub [1,1,1,1,1] B43)) (c:=sub [1,1,1,1] B43)) (c:=sub [1,1,1] B43)) (c:=sub [1,1] B43)) (c:=sub [1] B43)) (c:=B43),by simp,by simp only [resultsV,res43]; rfl,?_⟩
  rw [← hTe]
  have:=hol T.length
  rw [List.take_length] at this
  exact res_slk this
end Go.Proofs.Ytiejmoglooaalaa
end
section
open Go Go.HL
namespace Go.Proofs.Ytiejmoglooaalaa
open Go.Proofs.Try renaming prog → Tp
open Go.HL.HV renaming undef → Ud
def slE (n:Int) (l:List St):Int:=if netB n l=true then (if connB n l=true then 0 else 6) else 2
def slG (n:Int) (l:List St):List Int:=if slE n l=0 then slT l else []
def slack26:List HV → Option HV:=f2 kI kS fun n l=>if l.length ≤ 500 then some (.tuple [.own 1 ((slG n l).map encI),.int .i64 (slE n l)]) else none
theorem res26:Try.f26.results.toList=[.tmp 4,.tmp 5]:=by kernel_rfl
def prSl:FuncId → Option (List HV → Option HV):=fun g=>if g == 52 then some within52 else if g == 43 then some slack43 else none
theorem soundSl (n:Nat):CallSound Tp (callN Tp (plF prSl) n):=sound_prim _ (fun g f h=>by
  unfold prSl at h
  split at h
  · rename_i hg; cases h; rw [eq_of_beq hg]; exact within_ok
  split at h
  · rename_i hg; cases h; rw [eq_of_beq hg]; exact slack_ok
  · cases h) n
theorem nwF_sl:NwF prSl:=⟨by kernel_rfl,by kernel_rfl,by kernel_rfl,by kernel_rfl,by kernel_rfl⟩
theorem nil_res1 (H:Heap) (e:Int):toRes H false (.tuple [.imm .lit 1 [],.int .i64 e])=some (.tuple [.own 1 [],.int .i64 e]):=by
  simp [toRes,ownedAll,cellsOf,owned,resVal,resCell,mapO]; rfl
theorem recv_slk (O T:List Int) (H:Heap):recv (.tuple [.own 1 (O.map encI),.omap (T.map encI) (T.map fun _=>HV.bool true),.bool true]) H=(.tuple [.sl H.length 0 O.length none O.length 1,.map (H.length+1),.bool true],H ++ [bI O] ++ [bM T]):=by
  have h:recvCell (.own 1 (O.map encI)) H=(.sl H.length 0 O.length none O.length 1,H ++ [bI O]):=by
    simp only [recvCell,encI_any,List.length_map]; rfl
  have h2:recvCell (.omap (T.map encI) (T.map fun _=>HV.bool true)) (H ++ [bI O])=(.map (H.length+1),H ++ [bI O] ++ [bM T]):=by
    simp only [recvCell,List.length_append,List.length_cons,List.length_nil]; rfl
  simp only [recv,recvVals,recvVal,h,h2]; rfl
theorem recv_sln (H:Heap):recv (.tuple [.own 1 [],.nilmap,.bool false]) H=(.tuple [.sl H.length 0 0 none 0 1,.nilmap,.bool false],H ++ [bI []]):=rfl
theorem slT_len (l:List St):(slT l).length=l.length:=(ouF_len ..).trans (by simp)
theorem slackE_ok:PrimOk Tp 26 slack26:=by
  refine primOk_pure (pol:=plF prSl) (fn:=Try.f26) (cd:=B26) follows_mixed soundSl (by kernel_rfl) (by kernel_rfl) (fnok prSl _ _ (by kernel_rfl)) (by kernel_rfl) ?_
  intro args res h
  obtain ⟨n,l,rfl,hq⟩:=f2_inv h
  split at hq
  case isFalse=>cases hq
  rename_i hl
  cases hq
  have a:=sl_a_0 (F:=prSl) 0 n (l.map encT)
  obtain ⟨N0,c39⟩:=CallsTo.from (nw_call nwF_sl (H:=[]) (Nat.le_refl _) n (l:=l) (by omega))
  cases hnet:netB n l with
  | false =>
    rw [hnet] at c39
    have b:=sl_b_1 (F:=prSl) N0 n (l.map encT) (y6:=Ud) (y7:=Ud) (y8:=Ud) c39 rfl stN
    have c:=sl_cf_0 (F:=prSl) 0 n (l.map encT) [bN n l] (y8:=Ud)
    refine ⟨_,_,_,.tuple [.imm .lit 1 [],.int .i64 2],sq (a) (sq (b) (sqo (c) (c:=sub [1,1] B26) (b:=sub [1,1,1] B26)) (c:=sub [1] B26)) (c:=B26),by simp,by simp only [resultsV,res26]; rfl,?_⟩
    have e:slE n l=2:=by rw [slE,if_neg (by rw [hnet]; simp)]
    rw [slG,e,if_neg (by decide)]; exact nil_res1 _ _
  | true =>
    rw [hnet] at c39
    have b:=sl_b_0 (F:=prSl) N0 n (l.map encT) (y6:=Ud) (y7:=Ud) (y8:=Ud) c39 rfl stN
    have c:=sl_ct_0 (F:=prSl) 0 n (l.map encT) [bN n l] (y8:=Ud)
    have c43:=at1 (pol':=plF prSl) (g:=43) (c1:=kN) (f:=fun p=>if netB p.1 p.2=true then some (if connB p.1 p.2=true then .tuple [.own 1 ((slT p.2).map encI),.omap ((treeT p.2).map encI) ((treeT p.2).map fun _=>HV.bool true),.bool true] else .tuple [.own 1 [],.nilmap,.bool false]) else none) (H:=[bN n l]) (by kernel_rfl) (ShN _ n l) (if_pos hnet)
    simp only at c43
    by_cases cn:connB n l=true
    · rw [if_pos cn,recv_slk] at c43
      have d:=sl_d_0 (F:=prSl) 0 n (l.map encT) [bN n l] 1 (slT l).length 2 (y8:=Ud) (ld66 rfl) c43
      have e:=sl_et_0 (F:=prSl) 0 n (l.map encT) ([bN n l] ++ [bI (slT l)] ++ [bM (treeT l)]) 1 (slT l).length
      refine ⟨_,_,_,.tuple [.sl 1 0 (slT l).length none (slT l).length 1,.int .i64 0],sq (a) (sq (b) (sq (c) (sq (d) (e) (c:=sub [1,1,1] B26)) (c:=sub [1,1] B26)) (c:=sub [1] B26)) (c:=B26),by simp,by simp only [resultsV,res26]; rfl,?_⟩
      have ee:slE n l=0:=by rw [slE,if_pos hnet,if_pos cn]
      rw [slG,ee,if_pos rfl]
      exact res_li1 (b:=1) rfl rfl _
    · rw [if_neg cn,recv_sln] at c43
      have d:=sl_d_1 (F:=prSl) 0 n (l.map encT) [bN n l] 1 0 0 (y8:=Ud) (ld66 rfl) c43
      have e:=sl_ef_0 (F:=prSl) 0 n (l.map encT) ([bN n l] ++ [bI []]) 1 0
      refine ⟨_,_,_,.tuple [.imm .lit 1 [],.int .i64 6],sq (a) (sq (b) (sq (c) (sq (d) (e) (c:=sub [1,1,1] B26)) (c:=sub [1,1] B26)) (c:=sub [1] B26)) (c:=B26),by simp,by simp only [resultsV,res26]; rfl,?_⟩
      have ee:slE n l=6:=by rw [slE,if_pos hnet,if_neg cn]
      rw [slG,ee,if_neg (by decide)]; exact nil_res1 _ _
end Go.Proofs.Ytiejmoglooaalaa
end
section
open Go Go.HL
namespace Go.Proofs.Ytiejmoglooaalaa
open Go.Proofs.Try renaming prog → Tp
open Go.HL.HV renaming undef → Ud
def fiT (p:Int → Bool) (m:Nat):List Int:=(startT m).filter p
theorem fi_succ (p:Int → Bool) (m:Nat):fiT p (m+1)=fiT p m ++ (if p m=true then [(m:Int)] else []):=by
  rw [fiT,startT_succ,List.filter_append,fiT]
  refine congrArg _ ?_
  by_cases c:p m=true
  · rw [if_pos c,List.filter_cons_of_pos c]; rfl
  · rw [if_neg c,List.filter_cons_of_neg c]; rfl
theorem fi_len (p:Int → Bool) (m:Nat):(fiT p m).length ≤ m:=by
  have:=List.length_filter_le p (startT m)
  rwa [startT_len] at this
theorem findK_in (x:Int):∀ (ks:List Int) (i:Nat),x ∈ ks → ∃ j,j < ks.length∧findK (.int .i64 x) (ks.map encI) i=some (some (i+j))
  | [],_,h=>by cases h
  | y :: ks,i,h=>by
    by_cases e:x=y
    · subst e
      refine ⟨0,by simp,?_⟩
      simp only [List.map_cons,findK,encI,keyEq,scEq,if_true,decide_true]; rfl
    · rcases List.mem_cons.1 h with h | h
      · exact absurd h e
      · obtain ⟨j,h1,h2⟩:=findK_in x ks (i+1) h
        refine ⟨j+1,by simp; omega,?_⟩
        simp only [List.map_cons,findK,encI,keyEq,scEq,if_true,decide_eq_false e]
        rw [show i+(j+1)=i+1+j by omega]
        exact h2
theorem z4z:tyZero Tp 4=some (.bool false):=by kernel_rfl
theorem map_lk {H:Heap} {b:Nat} {ks:List Int} (h:H[b]?=some (bM ks)) (x:Int):lkH Tp 72 H b (.int .i64 x)=some (.bool (decide (x ∈ ks)),H):=by
  have hk:=key3 x
  have hz:=z4z
  rw [bM] at h
  by_cases c:x ∈ ks
  · obtain ⟨j,h1,h2⟩:=findK_in x ks 0 c
    rw [decide_eq_true c]
    have:(ks.map fun _=>HV.bool true)[0+j]?=some (.bool true):=by rw [Nat.zero_add,List.getElem?_map,List.getElem?_eq_getElem h1]; rfl
    simp only [lkH,h,lookV,u72,hk,if_true,h2,this]
    rfl
  · have h2:=findK_ints x ks 0 c
    rw [decide_eq_false c]
    simp only [lkH,h,lookV,u72,hk,if_true,h2,hz]
    rfl
theorem res_lli {H:Heap} {b c j k:Nat} {o p:List Int} (hb:H[b]?=some (bI o)) (hk:o.length=k) (hc:H[c]?=some (bI p)) (hj:p.length=j) (hne:b ≠ c) (e:Int):toRes H false (.tuple [.sl b 0 k none k 1,.sl c 0 j none j 1,.int .i64 e])=some (.tuple [.own 1 (o.map encI),.own 1 (p.map encI),.int .i64 e]):=by
  have h1:=resCell_sl (H:=H) (no:=[b,c]) (b:=b) (k:=1) (m:=k) (cap:=none) (els:=o.map encI) hb (by simpa using hk) (mapO_self (fun r=>frz_int 4 r) _)
  have h2:=resCell_sl (H:=H) (no:=[b,c]) (b:=c) (k:=1) (m:=j) (cap:=none) (els:=p.map encI) hc (by simpa using hj) (mapO_self (fun r=>frz_int 4 r) _)
  have ho:ownedAll H false (.tuple [.sl b 0 k none k 1,.sl c 0 j none j 1,.int .i64 e])=[b,c]:=by simp [ownedAll,cellsOf,owned,hb,hc]
  have hn:[b,c].Nodup:=by simp [hne]
  simp only [toRes,ho,hn,if_true,resVal,mapO,h1,h2]
  rfl
theorem nil_res2 (H:Heap) (e:Int):toRes H false (.tuple [.imm .lit 1 [],.imm .lit 1 [],.int .i64 e])=some (.tuple [.own 1 [],.own 1 [],.int .i64 e]):=by
  simp [toRes,ownedAll,cellsOf,owned,resVal,resCell,mapO]; rfl
def pAl (T O:List Int) (k:Int):Bool:=decide (k ∈ T∧O.getD k.toNat 0 ≠ 0)
def pNe (T O:List Int) (k:Int):Bool:=decide (k ∉ T∧O.getD k.toNat 0 ≠ 0)
def pPo (T O:List Int) (k:Int):Bool:=decide (k ∉ T∧0 < O.getD k.toNat 0)
def crA (n:Int) (l:List St):List Int:=if slE n l=0 then fiT (pAl (treeT l) (slT l)) l.length else []
def crN (n:Int) (l:List St):List Int:=if slE n l=0 then fiT (pNe (treeT l) (slT l)) l.length else []
def critical30:List HV → Option HV:=f2 kI kS fun n l=>if l.length ≤ 500 then some (.tuple [.own 1 ((crA n l).map encI),.own 1 ((crN n l).map encI),.int .i64 (slE n l)]) else none
theorem res30:Try.f30.results.toList=[.tmp 4,.tmp 5,.tmp 6]:=by kernel_rfl
theorem critical_ok:PrimOk Tp 30 critical30:=by
  refine primOk_pure (pol:=plF prSl) (fn:=Try.f30) (cd:=B30) follows_mixed soundSl (by kernel_rfl) (by kernel_rfl) (fnok prSl _ _ (by kernel_rfl)) (by kernel_rfl) ?_
  intro args res h
  obtain ⟨n,l,rfl,hq⟩:=f2_inv h
  split at hq
  case isFalse=>cases hq
  rename_i hl
  cases hq
  have a:=cr_a_0 (F:=prSl) 0 n (l.map encT)
  obtain ⟨N0,c39⟩:=CallsTo.from (nw_call nwF_sl (H:=[]) (Nat.le_refl _) n (l:=l) (by omega))
  cases hnet:netB n l with
  | false =>
    rw [hnet] at c39
    have b:=cr_b_1 (F:=prSl) N0 n (l.map encT) (y7:=Ud) (y8:=Ud) (y9:=Ud) (y10:=Ud) (y11:=Ud) (y12:=Ud) (y13:=Ud) (y14:=Ud) (y31:=Ud) (y32:=Ud) (y33:=Ud) c39 rfl stN
    have c:=cr_cf_0 (F:=prSl) 0 n (l.map encT) [bN n l] (y9:=Ud) (y10:=Ud) (y11:=Ud) (y12:=Ud) (y13:=Ud) (y14:=Ud) (y31:=Ud) (y32:=Ud) (y33:=Ud)
    refine ⟨_,_,_,.tuple [.imm .lit 1 [],.imm .lit 1 [],.int .i64 2],sq (a) (sq (b) (sqo (c) (c:=sub [1,1] B30) (b:=sub [1,1,1] B30)) (c:=sub [1] B30)) (c:=B30),by simp,by simp only [resultsV,res30]; rfl,?_⟩
    have e:slE n l=2:=by rw [slE,if_neg (by rw [hnet]; simp)]
    rw [crA,crN,e,if_neg (by decide),if_neg (by decide)]; exact nil_res2 _ _
  | true =>
    rw [hnet] at c39
    have b:=cr_b_0 (F:=prSl) N0 n (l.map encT) (y7:=Ud) (y8:=Ud) (y9:=Ud) (y10:=Ud) (y11:=Ud) (y12:=Ud) (y13:=Ud) (y14:=Ud) (y31:=Ud) (y32:=Ud) (y33:=Ud) c39 rfl stN
    have c:=cr_ct_0 (F:=prSl) 0 n (l.map encT) [bN n l] (y9:=Ud) (y10:=Ud) (y11:=Ud) (y12:=Ud) (y13:=Ud) (y14:=Ud) (y31:=Ud) (y32:=Ud) (y33:=Ud)
    have c43:=at1 (pol':=plF prSl) (g:=43) (c1:=kN) (f:=fun p=>if netB p.1 p.2=true then some (if connB p.1 p.2=true then .tuple [.own 1 ((slT p.2).map encI),.omap ((treeT p.2).map encI) ((treeT p.2).map fun _=>HV.bool true),.bool true] else .tuple [.own 1 [],.nilmap,.bool false]) else none) (H:=[bN n l]) (by kernel_rfl) (ShN _ n l) (if_pos hnet)
    simp only at c43
    by_cases cn:connB n l=true
    case neg =>
      rw [if_neg cn,recv_sln] at c43
      have d:=cr_d_1 (F:=prSl) 0 n (l.map encT) [bN n l] 1 0 0 (y9:=Ud) (y10:=Ud) (y11:=Ud) (y12:=Ud) (y13:=Ud) (y14:=Ud) (y31:=Ud) (y32:=Ud) (y33:=Ud) (ld66 rfl) c43
      have e:=cr_ef_0 (F:=prSl) 0 n (l.map encT) ([bN n l] ++ [bI []]) 1 0 (y7:=.ptr 0 0 0 1) (y11:=Ud) (y12:=Ud) (y13:=Ud) (y14:=Ud) (y31:=Ud) (y32:=Ud) (y33:=Ud)
      refine ⟨_,_,_,.tuple [.imm .lit 1 [],.imm .lit 1 [],.int .i64 6],sq (a) (sq (b) (sq (c) (sq (d) (sqo (e) (c:=sub [1,1,1,1] B30) (b:=sub [1,1,1,1,1] B30)) (c:=sub [1,1,1] B30)) (c:=sub [1,1] B30)) (c:=sub [1] B30)) (c:=B30),by simp,by simp only [resultsV,res30]; rfl,?_⟩
      have ee:slE n l=6:=by rw [slE,if_pos hnet,if_neg cn]
      rw [crA,crN,ee,if_neg (by decide),if_neg (by decide)]; exact nil_res2 _ _
    rw [if_pos cn,recv_slk] at c43
    have ee:slE n l=0:=by rw [slE,if_pos hnet,if_pos cn]
    rw [crA,crN,ee,if_pos rfl,if_pos rfl]
    have hO:=slT_len l
    have d:=cr_d_0 (F:=prSl) 0 n (l.map encT) [bN n l] 1 (slT l).length 2 (y9:=Ud) (y10:=Ud) (y11:=Ud) (y12:=Ud) (y13:=Ud) (y14:=Ud) (y31:=Ud) (y32:=Ud) (y33:=Ud) (ld66 rfl) c43
    have e:=cr_et_0 (F:=prSl) 0 n (l.map encT) ([bN n l] ++ [bI (slT l)] ++ [bM (treeT l)]) 1 (slT l).length 2 (y7:=.ptr 0 0 0 1) (y11:=Ud) (y12:=Ud) (y13:=Ud) (y14:=Ud) (y31:=Ud) (y32:=Ud) (y33:=Ud)
    have f:=cr_f_0 (F:=prSl) 0 n (l.map encT) ([bN n l] ++ [bI (slT l)] ++ [bM (treeT l)]) 1 (slT l).length 2 (y7:=.ptr 0 0 0 1) (y8:=.bool true) (y11:=Ud) (y12:=Ud) (y13:=Ud) (y14:=Ud) (y31:=Ud) (y32:=Ud) (y33:=Ud) rfl rfl
    generalize slT l=O at *
    generalize treeT l=T at *
    have g:=cr_g_0 (F:=prSl) 0 n (l.map encT) [bN n l,bI O,bM T,bI [],bI []] 1 O.length 2 3 0 4 0 (y7:=.ptr 0 0 0 1) (y8:=.bool true) (y13:=Ud) (y14:=Ud) (y31:=Ud) (y32:=Ud) (y33:=Ud)
    have r:=count (pol':=plF prSl) (f:=30) (E:=fun i=>(env30 (.int .i64 n) (.imm .arg 3 (l.map encT)) (.imm .lit 1 []) (.imm .lit 1 []) (.int .i64 0) Ud Ud Ud (.map 2) (.sl 3 0 (fiT (pAl T O) i).length none (fiT (pAl T O) i).length 1) (.sl 4 0 (fiT (pNe T O) i).length none (fiT (pNe T O) i).length 1) Ud Ud (.sl 1 0 O.length none O.length 1) (.int .i64 (O.length:Int)) (.int .i64 ((i:Nat):Int)))) (Hs:=fun i=>[bN n l,bI O,bM T,bI (fiT (pAl T O) i),bI (fiT (pNe T O) i)]) O.length
      (E0:=fun i=>(env30 (.int .i64 n) (.imm .arg 3 (l.map encT)) (.imm .lit 1 []) (.imm .lit 1 []) (.int .i64 0) Ud Ud Ud (.map 2) (.sl 3 0 (fiT (pAl T O) (i+1)).length none (fiT (pAl T O) (i+1)).length 1) (.sl 4 0 (fiT (pNe T O) (i+1)).length none (fiT (pNe T O) (i+1)).length 1) (.int .i64 (i:Int)) (.int .i64 (O.getD i 0)) (.sl 1 0 O.length none O.length 1) (.int .i64 (O.length:Int)) (.int .i64 ((i+1:Nat):Int)))) (H1:=fun i=>[bN n l,bI O,bM T,bI (fiT (pAl T O) (i+1)),bI (fiT (pNe T O) (i+1))])
      (fun i hi=>by
        have s1:fiT (pAl T O) (i+1)=fiT (pAl T O) i ++ (if decide ((i:Int) ∈ T∧O.getD i 0 ≠ 0)=true then [(i:Int)] else []):=fi_succ (pAl T O) i
        have s2:fiT (pNe T O) (i+1)=fiT (pNe T O) i ++ (if decide ((i:Int) ∉ T∧O.getD i 0 ≠ 0)=true then [(i:Int)] else []):=fi_succ (pNe T O) i
        have l1:=fi_len (pAl T O) i
        have l2:=fi_len (pNe T O) i
        have ld:=load_out (H:=[bN n l,bI O,bM T,bI (fiT (pAl T O) i),bI (fiT (pNe T O) i)]) (k:=1) (o:=O) rfl hi
        have ix:=idxS (b:=1) (cap:=none) (len:=O.length) u24 z3 hi
        have lk:=fun A B:List Int=>map_lk (H:=[bN n l,bI O,bM T,bI A,bI B]) (b:=2) (ks:=T) rfl (i:Int)
        generalize fiT (pAl T O) i=A at *
        generalize fiT (pNe T O) i=B at *
        generalize O.getD i 0=x at *
        have w:=wrap_succ (j:=i) (by omega)
        by_cases cm:(i:Int) ∈ T
        · simp only [decide_eq_true cm] at lk
          rw [if_neg (by simp [cm]),List.append_nil] at s2
          by_cases cx:x=0
          · rw [if_neg (by simp [cx]),List.append_nil] at s1
            have s:=cr_l_0 (F:=prSl) 0 n (l.map encT) [bN n l,bI O,bM T,bI A,bI B] 1 O.length 2 3 A.length 4 B.length i x (y7:=Ud) (y8:=Ud) (y9:=Ud) (y13:=Ud) (y14:=Ud) (by omega) ix ld (lk A B) cx (lk A B)
            rw [w] at s; rw [s1,s2]; exact s
          · rw [if_pos (by simp [cm,cx])] at s1
            have ap:=app_in1 (H:=[bN n l,bI O,bM T,bI A,bI B]) (b:=3) (o:=A) rfl (by omega) (i:Int)
            rw [← s1] at ap
            have s:=cr_l_2 (F:=prSl) 0 n (l.map encT) [bN n l,bI O,bM T,bI A,bI B] 1 O.length 2 3 A.length 4 B.length i x (y7:=Ud) (y8:=Ud) (y9:=Ud) (y13:=Ud) (y14:=Ud) (by omega) ix ld (lk A B) cx ap (lk _ B)
            have el:(fiT (pAl T O) (i+1)).length=A.length+1:=by rw [s1]; simp
            rw [w,← el] at s; rw [s2]; exact s
        · simp only [decide_eq_false cm] at lk
          rw [if_neg (by simp [cm]),List.append_nil] at s1
          by_cases cx:x=0
          · rw [if_neg (by simp [cx]),List.append_nil] at s2
            have s:=cr_l_5 (F:=prSl) 0 n (l.map encT) [bN n l,bI O,bM T,bI A,bI B] 1 O.length 2 3 A.length 4 B.length i x (y7:=Ud) (y8:=Ud) (y9:=Ud) (y13:=Ud) (y14:=Ud) (by omega) ix ld (lk A B) (lk A B) cx
            rw [w] at s; rw [s1,s2]; exact s
          · rw [if_pos (by simp [cm,cx])] at s2
            have ap:=app_in1 (H:=[bN n l,bI O,bM T,bI A,bI B]) (b:=4) (o:=B) rfl (by omega) (i:Int)
            rw [← s2] at ap
            have s:=cr_l_6 (F:=prSl) 0 n (l.map encT) [bN n l,bI O,bM T,bI A,bI B] 1 O.length 2 3 A.length 4 B.length i x (y7:=Ud) (y8:=Ud) (y9:=Ud) (y13:=Ud) (y14:=Ud) (by omega) ix ld (lk A B) (lk A B) cx ap
            have el:(fiT (pNe T O) (i+1)).length=B.length+1:=by rw [s2]; simp
            rw [w,← el] at s; rw [s1]; exact s) (fun i _=>by kernel_rfl) (fun i _=>gc_eq _ rfl) (cr_l_7 (F:=prSl) 0 n (l.map encT) [bN n l,bI O,bM T,bI (fiT (pAl T O) O.length),bI (fiT (pNe T O) O.length)] 1 O.length 2 3 _ 4 _ O.length 0 (y7:=Ud) (y8:=Ud) (y9:=Ud) (y13:=Ud) (y14:=Ud) (by omega)) (by simp) (c:=sub [1,1,1,1,1,1,0,1,0] B30) (by kernel_rfl) (fun i _=>by kernel_rfl)
    rw [hO] at r
    have z:=cr_z_0 (F:=prSl) 0 n (l.map encT) [bN n l,bI O,bM T,bI (fiT (pAl T O) l.length),bI (fiT (pNe T O) l.length)] 3 (fiT (pAl T O) l.length).length 4 (fiT (pNe T O) l.length).length (y9:=Ud) (y10:=.map 2) (y31:=.sl 1 0 l.length none l.length 1) (y32:=.int .i64 (l.length:Int)) (y33:=.int .i64 (l.length:Int)) (y7:=Ud) (y8:=Ud) (y13:=Ud) (y14:=Ud)
    rw [hO] at d e f g
    refine ⟨_,_,_,.tuple [.sl 3 0 (fiT (pAl T O) l.length).length none (fiT (pAl T O) l.length).length 1,.sl 4 0 (fiT (pNe T O) l.length).length none (fiT (pNe T O) l.length).length 1,.int .i64 0],sq (a) (sq (b) (sq (c) (sq (d) (sq (e) (sq (f) (sq (sq (g) (bke (c:=sub [1,1,1,1,1,1,0,1] B30) (lpi (e0:=(env30 (.int .i64 n) (.imm .arg 3 (l.map encT)) (.imm .lit 1 []) (.imm .lit 1 []) (.int .i64 0) (.ptr 0 0 0 1) (.bool true) (.sl 1 0 l.length none l.length 1) (.map 2) (.sl 3 0 0 none 0 1) (.sl 4 0 0 none 0 1) Ud Ud (.sl 1 0 l.length none l.length 1) (.int .i64 (l.length:Int)) (.int .i64 ((0:Nat):Int)))) r (b:=sub [1,1,1,1,1,1,0,1,0,0] B30))) (c:=sub [1,1,1,1,1,1,0] B30)) (z) (c:=sub [1,1,1,1,1,1] B30)) (c:=sub [1,1,1,1,1] B30)) (c:=sub [1,1,1,1] B30)) (c:=sub [1,1,1] B30)) (c:=sub [1,1] B30)) (c:=sub [1] B30)) (c:=B30),by simp,by simp only [resultsV,res30]; rfl,?_⟩
    exact res_lli (b:=3) (c:=4) rfl rfl rfl rfl (by decide) _
end Go.Proofs.Ytiejmoglooaalaa
end
section
open Go Go.HL
namespace Go.Proofs.Ytiejmoglooaalaa
open Go.Proofs.Try renaming prog → Tp
open Go.HL.HV renaming undef → Ud
def rcritical31:List HV → Option HV:=f2 kI kS fun n l=>if netB n l=true then some (.tuple [.own 1 ((fiT (pAl (frT l) (rslT n l l.length)) l.length).map encI),.own 1 ((fiT (pPo (frT l) (rslT n l l.length)) l.length).map encI)]) else none
theorem res31:Try.f31.results.toList=[.tmp 4,.tmp 5]:=by kernel_rfl
def prRc:FuncId → Option (List HV → Option HV):=fun g=>if g == 20 then some first20 else if g == 51 then some has51 else if g == 32 then some rslack32 else none
theorem soundRc (n:Nat):CallSound Tp (callN Tp (plF prRc) n):=sound_prim _ (fun g f h=>by
  unfold prRc at h
  split at h
  · rename_i hg; cases h; rw [eq_of_beq hg]; exact first_ok
  split at h
  · rename_i hg; cases h; rw [eq_of_beq hg]; exact has_ok
  split at h
  · rename_i hg; cases h; rw [eq_of_beq hg]; exact rslack_ok
  · cases h) n
theorem rcritical_ok:PrimOk Tp 31 rcritical31:=by
  refine primOk_pure (pol:=plF prRc) (fn:=Try.f31) (cd:=B31) follows_mixed soundRc (by kernel_rfl) (by kernel_rfl) (fnok prRc _ _ (by kernel_rfl)) (by kernel_rfl) ?_
  intro args res h
  obtain ⟨n,l,rfl,hq⟩:=f2_inv h
  split at hq
  case isFalse=>cases hq
  rename_i hnet
  cases hq
  obtain ⟨⟨n1,n2⟩,n3,he,hw⟩:=netB_ends hnet
  have hfl:=frT_le l
  have a:=rc_a_0 (F:=prRc) n (l.map encT)
  have c20:=at2 (pol':=plF prRc) (g:=20) (c1:=kI) (c2:=kS) (f:=fun n l=>if (0 ≤ n∧n ≤ 16)∧endN n l=true∧l.length ≤ 500 then some (.tuple [.own 1 ((frT l).map encI),.bool (frOk n l)]) else none) (H:=[]) (by kernel_rfl) (ShI _ n) (ShS_imm _ l) (if_pos ⟨by omega,he,by omega⟩)
  rw [recv_tb] at c20
  have b:RunsTo Tp (plF prRc) 31 (sub [1,0] B31) ((env31 (.int .i64 n) (.imm .arg 3 (l.map encT)) (.imm .lit 1 []) (.imm .lit 1 []) Ud Ud Ud Ud Ud)) [] .normal ((plF prRc).keys 31) ((env31 (.int .i64 n) (.imm .arg 3 (l.map encT)) (.imm .lit 1 []) (.imm .lit 1 []) (.sl 0 0 (frT l).length none (frT l).length 1) Ud Ud Ud Ud)) [bI (frT l)]:=by
    cases hb:frOk n l with
    | true=>rw [hb] at c20; exact rc_b_0 (F:=prRc) n (l.map encT) [] 0 _ (y6:=Ud) (y8:=Ud) (y9:=Ud) (y10:=Ud) (y11:=Ud) c20
    | false=>rw [hb] at c20; exact rc_b_1 (F:=prRc) n (l.map encT) [] 0 _ (y6:=Ud) (y8:=Ud) (y9:=Ud) (y10:=Ud) (y11:=Ud) c20
  have c32:=at2 (pol':=plF prRc) (g:=32) (c1:=kI) (c2:=kS) (f:=fun n l=>if netB n l=true then some (.own 1 ((rslT n l l.length).map encI)) else none) (H:=[bI (frT l)]) (by kernel_rfl) (ShI _ n) (ShS_imm _ l) (if_pos hnet)
  rw [recv_ints] at c32
  have hO:=rslT_len n l l.length
  generalize rslT n l l.length=O at *
  generalize frT l=T at *
  have c:=rc_c_0 (F:=prRc) n (l.map encT) [bI T] 0 T.length 1 O.length (y8:=Ud) (y9:=Ud) (y10:=Ud) (y11:=Ud) c32
  have d:=rc_d_0 (F:=prRc) n (l.map encT) [bI T,bI O] 0 T.length 1 O.length (y9:=Ud) (y10:=Ud) (y11:=Ud) rfl rfl
  have e:=rc_e_0 (F:=prRc) n (l.map encT) [bI T,bI O,bI [],bI []] 0 T.length 1 O.length 2 0 3 0 (y11:=Ud)
  have lm:((l.map encT).length:Int)=(l.length:Int):=by rw [List.length_map]
  have r:=count (pol':=plF prRc) (f:=31) (E:=fun i=>(env31 (.int .i64 n) (.imm .arg 3 (l.map encT)) (.imm .lit 1 []) (.imm .lit 1 []) (.sl 0 0 T.length none T.length 1) (.sl 1 0 O.length none O.length 1) (.sl 2 0 (fiT (pAl T O) i).length none (fiT (pAl T O) i).length 1) (.sl 3 0 (fiT (pPo T O) i).length none (fiT (pPo T O) i).length 1) (.int .i64 ((i:Nat):Int)))) (Hs:=fun i=>[bI T,bI O,bI (fiT (pAl T O) i),bI (fiT (pPo T O) i)]) l.length
    (E0:=fun i=>(env31 (.int .i64 n) (.imm .arg 3 (l.map encT)) (.imm .lit 1 []) (.imm .lit 1 []) (.sl 0 0 T.length none T.length 1) (.sl 1 0 O.length none O.length 1) (.sl 2 0 (fiT (pAl T O) (i+1)).length none (fiT (pAl T O) (i+1)).length 1) (.sl 3 0 (fiT (pPo T O) (i+1)).length none (fiT (pPo T O) (i+1)).length 1) (.int .i64 ((i+1:Nat):Int)))) (H1:=fun i=>[bI T,bI O,bI (fiT (pAl T O) (i+1)),bI (fiT (pPo T O) (i+1))])
    (fun i hi=>by
      have s1:fiT (pAl T O) (i+1)=fiT (pAl T O) i ++ (if decide ((i:Int) ∈ T∧O.getD i 0 ≠ 0)=true then [(i:Int)] else []):=fi_succ (pAl T O) i
      have s2:fiT (pPo T O) (i+1)=fiT (pPo T O) i ++ (if decide ((i:Int) ∉ T∧0 < O.getD i 0)=true then [(i:Int)] else []):=fi_succ (pPo T O) i
      have l1:=fi_len (pAl T O) i
      have l2:=fi_len (pPo T O) i
      have ld:=fun A B:List Int=>load_out (H:=[bI T,bI O,bI A,bI B]) (k:=1) (o:=O) rfl (y:=i) (by omega)
      have ix:=idxS (b:=1) (cap:=none) (len:=O.length) u24 z3 (i:=i) (by omega)
      have c51:=fun A B:List Int=>at2 (pol':=plF prRc) (g:=51) (c1:=kL) (c2:=kI) (f:=fun l x=>if l.length ≤ 1000 then some (.bool (decide (x ∈ l))) else none) (H:=[bI T,bI O,bI A,bI B]) (by kernel_rfl) (ShL_sl (b:=0) (l:=T) rfl rfl) (ShI _ (i:Int)) (if_pos (by omega))
      generalize fiT (pAl T O) i=A at *
      generalize fiT (pPo T O) i=B at *
      generalize O.getD i 0=x at *
      have w:=wrap_succ (j:=i) (by omega)
      by_cases cm:(i:Int) ∈ T
      · simp only [decide_eq_true cm] at c51
        rw [if_neg (by simp [cm]),List.append_nil] at s2
        by_cases cx:x=0
        · rw [if_neg (by simp [cx]),List.append_nil] at s1
          have s:=rc_l_0 (F:=prRc) n (l.map encT) [bI T,bI O,bI A,bI B] 0 T.length 1 O.length 2 A.length 3 B.length i x (by omega) (c51 A B) ix (ld A B) cx (c51 A B)
          rw [w] at s; rw [s1,s2]; exact s
        · rw [if_pos (by simp [cm,cx])] at s1
          have ap:=app_in1 (H:=[bI T,bI O,bI A,bI B]) (b:=2) (o:=A) rfl (by omega) (i:Int)
          rw [← s1] at ap
          have s:=rc_l_3 (F:=prRc) n (l.map encT) [bI T,bI O,bI A,bI B] 0 T.length 1 O.length 2 A.length 3 B.length i x (by omega) (c51 A B) ix (ld A B) cx ap (c51 _ B)
          have el:(fiT (pAl T O) (i+1)).length=A.length+1:=by rw [s1]; simp
          rw [w,← el] at s; rw [s2]; exact s
      · simp only [decide_eq_false cm] at c51
        rw [if_neg (by simp [cm]),List.append_nil] at s1
        by_cases cx:0 < x
        · rw [if_pos (by simp [cm,cx])] at s2
          have ap:=app_in1 (H:=[bI T,bI O,bI A,bI B]) (b:=3) (o:=B) rfl (by omega) (i:Int)
          rw [← s2] at ap
          have s:=rc_l_7 (F:=prRc) n (l.map encT) [bI T,bI O,bI A,bI B] 0 T.length 1 O.length 2 A.length 3 B.length i x (by omega) (c51 A B) (c51 A B) ix (ld A B) cx ap
          have el:(fiT (pPo T O) (i+1)).length=B.length+1:=by rw [s2]; simp
          rw [w,← el] at s; rw [s1]; exact s
        · rw [if_neg (by simp [cx]),List.append_nil] at s2
          have s:=rc_l_8 (F:=prRc) n (l.map encT) [bI T,bI O,bI A,bI B] 0 T.length 1 O.length 2 A.length 3 B.length i x (by omega) (c51 A B) (c51 A B) ix (ld A B) cx
          rw [w] at s; rw [s1,s2]; exact s) (fun i _=>by kernel_rfl) (fun i _=>gc_eq _ rfl) (rc_l_9 (F:=prRc) n (l.map encT) [bI T,bI O,bI (fiT (pAl T O) l.length),bI (fiT (pPo T O) l.length)] 0 T.length 1 O.length 2 _ 3 _ l.length 0 (by omega)) (by simp) (c:=sub [1,1,1,1,0,1,0] B31) (by kernel_rfl) (fun i _=>by kernel_rfl)
  have z:=rc_z_0 (F:=prRc) n (l.map encT) [bI T,bI O,bI (fiT (pAl T O) l.length),bI (fiT (pPo T O) l.length)] 2 (fiT (pAl T O) l.length).length 3 (fiT (pPo T O) l.length).length (y6:=.sl 0 0 T.length none T.length 1) (y8:=.sl 1 0 O.length none O.length 1) (y11:=.int .i64 (l.length:Int))
  refine ⟨_,_,_,.tuple [.sl 2 0 (fiT (pAl T O) l.length).length none (fiT (pAl T O) l.length).length 1,.sl 3 0 (fiT (pPo T O) l.length).length none (fiT (pPo T O) l.length).length 1],sq (a) (sq (b) (sq (c) (sq (d) (sq (sq (e) (bke (c:=sub [1,1,1,1,0,1] B31) (r)) (c:=sub [1,1,1,1,0] B31)) (z) (c:=sub [1,1,1,1] B31)) (c:=sub [1,1,1] B31)) (c:=sub [1,1] B31)) (c:=sub [1] B31)) (c:=B31),by simp,by simp only [resultsV,res31]; rfl,?_⟩
  exact res_ll (b:=2) (c:=3) rfl rfl rfl rfl (by decide)
end Go.Proofs.Ytiejmoglooaalaa
end
section
open Go Go.HL
namespace Go.Proofs.Ytiejmoglooaalaa
set_option linter.unusedSectionVars false
theorem fold_nn {l:List St} {t:List Int} {x:Int}:∀ (ks:List Int) (b:Int),(∀ k ∈ ks,joinsT l t k x → 0 ≤ wOf l x - wOf l k) → (0 ≤ b ∨ ∃ k ∈ ks,joinsT l t k x) → 0 ≤ ks.foldl (fun b k=>if joinsT l t k x then bst b (wOf l x - wOf l k) else b) b
  | [],b,_,h=>by
    rcases h with h | ⟨k,hk,_⟩
    · exact h
    · cases hk
  | k :: ks,b,hd,h=>by
    rw [List.foldl_cons]
    refine fold_nn ks _ (fun y hy=>hd y (List.mem_cons_of_mem _ hy)) ?_
    by_cases c:joinsT l t k x
    · have:=hd k (List.mem_cons_self ..) c
      rw [if_pos c]
      left
      unfold bst
      split <;> omega
    · rw [if_neg c]
      rcases h with h | ⟨y,hy,hj⟩
      · exact .inl h
      · rcases List.mem_cons.1 hy with e | e
        · exact absurd (e ▸ hj) c
        · exact .inr ⟨y,e,hj⟩
theorem slack_nn {n:Int} {l:List St} (hnet:netB n l=true) (hc:connB n l=true) {x:Nat} (hx:x < l.length) (hxt:(x:Int) ∉ treeT l):0 ≤ (slT l).getD x 0:=by
  rw [slT,ou_out hx hxt _ _ (by simp) (fun k hk=>⟨hk,(tree_in hk).1⟩)]
  obtain ⟨k,hk,hj⟩:=exch_ex hnet hc (j:=(x:Int)) (by omega) hxt
  exact fold_nn _ _ (fun k hk hj=>by have:=exch_le hnet hk (j:=(x:Int)) (by omega) hxt hj; omega) (.inr ⟨k,hk,hj⟩)
theorem crA_eq {n:Int} {l:List St} (hnet:netB n l=true) (hc:connB n l=true):crA n l=fiT (pAl (frT l) (rslT n l l.length)) l.length:=by
  rw [crA,slE,if_pos hnet,if_pos hc,if_pos rfl,← slack_eq hnet hc]
  refine List.filter_congr fun k _=>?_
  unfold pAl
  rw [decide_eq_decide,frT_mem]
theorem crN_eq {n:Int} {l:List St} (hnet:netB n l=true) (hc:connB n l=true):crN n l=fiT (pPo (frT l) (rslT n l l.length)) l.length:=by
  rw [crN,slE,if_pos hnet,if_pos hc,if_pos rfl,← slack_eq hnet hc]
  refine List.filter_congr fun k hk=>?_
  have hk:=startT_mem.1 hk
  unfold pNe pPo
  rw [decide_eq_decide,frT_mem]
  constructor
  · intro ⟨h1,h2⟩
    have:=slack_nn hnet hc (x:=k.toNat) (by omega) (by rw [show ((k.toNat:Nat):Int)=k by omega]; exact h1)
    exact ⟨h1,by omega⟩
  · intro ⟨h1,h2⟩
    exact ⟨h1,by omega⟩
end Go.Proofs.Ytiejmoglooaalaa
end
section
open Go Go.HL
namespace Go.Proofs.Ytiejmoglooaalaa
open Go.Proofs.Try renaming prog → Tp
open Go.HL.HV renaming undef → Ud
def prAw:FuncId → Option (List HV → Option HV):=fun g=>if g == 21 then some ints21 else if g == 52 then some within52 else if g == 54 then some ordered54 else if g == 40 then some tree40 else if g == 71 then some cmp71 else if g == 70 then some fst70 else none
theorem soundAw (n:Nat):CallSound Tp (callN Tp (plF prAw) n):=sound_prim _ (fun g f h=>by
  unfold prAw at h
  split at h
  · rename_i hg; cases h; rw [eq_of_beq hg]; exact ints_ok
  split at h
  · rename_i hg; cases h; rw [eq_of_beq hg]; exact within_ok
  split at h
  · rename_i hg; cases h; rw [eq_of_beq hg]; exact ordered_ok
  split at h
  · rename_i hg; cases h; rw [eq_of_beq hg]; exact tree_ok
  split at h
  · rename_i hg; cases h; rw [eq_of_beq hg]; exact cmp_ok
  split at h
  · rename_i hg; cases h; rw [eq_of_beq hg]; exact fst_ok
  · cases h) n
set_option maxRecDepth 100000 in
theorem awake_run:callN Tp (plF prAw) 400 18 [] []=some (.bool true,[]):=by kernel_rfl
end Go.Proofs.Ytiejmoglooaalaa
end
section
open Go Go.HL
namespace Go.Proofs.Ytiejmoglooaalaa
open Go.Proofs.Try renaming prog → Tp
open Go.HL.HV renaming undef → Ud
def awakeF:List HV → Option HV | []=>some (.bool true) | _=>none
theorem awake_prim:PrimOk Tp 18 awakeF:=by
  refine primOk_of (pol:=plF prAw) soundAw (by kernel_rfl) fun args res h=>?_
  match args,h with
  | [],h =>
    cases h
    exact ⟨400,_,_,false,awake_run,rfl⟩
theorem awake_at {pol':Pol} (hp:pol'.prim 18=some awakeF) (H:Heap):∀ k,callN Tp pol' (k+1) 18 [] H=some (.bool true,H):=fun k=>by
  rw [prim_call (pol:=pol') (g:=18) (F:=awakeF) hp (rs:=[]) rfl (res:=.bool true) rfl]; rfl
theorem recv_li1 (l:List Int) (m:Int) (H:Heap):recv (.tuple [.own 1 (l.map encI),.int .i64 m]) H=(.tuple [.sl H.length 0 l.length none l.length 1,.int .i64 m],H ++ [bI l]):=by
  have h:recvCell (.own 1 (l.map encI)) H=(.sl H.length 0 l.length none l.length 1,H ++ [bI l]):=by
    simp only [recvCell,encI_any,List.length_map]; rfl
  simp only [recv,recvVals,recvVal,h]; rfl
end Go.Proofs.Ytiejmoglooaalaa
end
section
open Go Go.HL
namespace Go.Proofs.Ytiejmoglooaalaa
open Go.Proofs.Try renaming prog → Tp
open Go.HL.HV renaming undef → Ud
theorem recv_lli (a b:List Int) (e:Int) (H:Heap):recv (.tuple [.own 1 (a.map encI),.own 1 (b.map encI),.int .i64 e]) H=(.tuple [.sl H.length 0 a.length none a.length 1,.sl (H.length+1) 0 b.length none b.length 1,.int .i64 e],H ++ [bI a] ++ [bI b]):=by
  have h:∀ (l:List Int) (H:Heap),recvCell (.own 1 (l.map encI)) H=(.sl H.length 0 l.length none l.length 1,H ++ [bI l]):=fun l H=>by
    simp only [recvCell,encI_any,List.length_map]; rfl
  simp only [recv,recvVals,recvVal,h,List.length_append,List.length_cons,List.length_nil]; rfl
def prL6:FuncId → Option (List HV → Option HV):=fun g=>if g == 18 then some awakeF else if g == 13 then some net13 else if g == 17 then some rnet17 else if g == 20 then some first20 else if g == 21 then some ints21 else if g == 26 then some slack26 else if g == 30 then some critical30 else if g == 31 then some rcritical31 else if g == 32 then some rslack32 else none
theorem soundL6 (n:Nat):CallSound Tp (callN Tp (plF prL6) n):=sound_prim _ (fun g f h=>by
  unfold prL6 at h
  split at h
  · rename_i hg; cases h; rw [eq_of_beq hg]; exact awake_prim
  split at h
  · rename_i hg; cases h; rw [eq_of_beq hg]; exact net_ok
  split at h
  · rename_i hg; cases h; rw [eq_of_beq hg]; exact rnet_ok
  split at h
  · rename_i hg; cases h; rw [eq_of_beq hg]; exact first_ok
  split at h
  · rename_i hg; cases h; rw [eq_of_beq hg]; exact ints_ok
  split at h
  · rename_i hg; cases h; rw [eq_of_beq hg]; exact slackE_ok
  split at h
  · rename_i hg; cases h; rw [eq_of_beq hg]; exact critical_ok
  split at h
  · rename_i hg; cases h; rw [eq_of_beq hg]; exact rcritical_ok
  split at h
  · rename_i hg; cases h; rw [eq_of_beq hg]; exact rslack_ok
  · cases h) n
theorem res6:Try.f6.results.toList=[.tmp 4]:=by kernel_rfl
abbrev polL6:Pol:=plF prL6
theorem streetsSlack_law (n:Int) (l:List St):∃ E H,RT polL6 6 B6 (args0 [.int .i64 n,.imm .arg 3 (l.map encT)]) [] .ret E H∧E.get 4=.bool true:=by
  have a:=ls_a_0 (F:=prL6) n (l.map encT)
  have c13:=at1 (pol':=plF prL6) (g:=13) (c1:=kS) (f:=fun l=>some (.own 3 ((l.take 61).map encT))) (H:=[]) (by kernel_rfl) (ShS_imm _ l) rfl
  rw [recv_sts] at c13
  generalize hown:l.take 61=own at *
  have hol:own.length ≤ 61:=by rw [← hown,List.length_take]; omega
  have b:=ls_b_0 (F:=prL6) n (l.map encT) [] 0 own.length (y5:=Ud) (y6:=Ud) (y7:=Ud) (y8:=Ud) (y9:=Ud) (y10:=Ud) (y11:=Ud) (y13:=Ud) (y14:=Ud) (y15:=Ud) c13
  have sS:∀ X:Heap,Sh kS ([bS own] ++ X) (.sl 0 0 own.length none own.length 3) own:=fun X=>ShS_sl rfl rfl
  have c26:=at2 (pol':=plF prL6) (g:=26) (c1:=kI) (c2:=kS) (f:=fun n l=>if l.length ≤ 500 then some (.tuple [.own 1 ((slG n l).map encI),.int .i64 (slE n l)]) else none) (H:=[bS own]) (by kernel_rfl) (ShI _ n) (sS []) (if_pos (by omega))
  rw [recv_li1] at c26
  have c:=ls_c_0 (F:=prL6) n (l.map encT) [bS own] 0 own.length 1 (slG n own).length (slE n own) (y6:=Ud) (y7:=Ud) (y8:=Ud) (y9:=Ud) (y10:=Ud) (y11:=Ud) (y13:=Ud) (y14:=Ud) (y15:=Ud) c26
  have c30:=at2 (pol':=plF prL6) (g:=30) (c1:=kI) (c2:=kS) (f:=fun n l=>if l.length ≤ 500 then some (.tuple [.own 1 ((crA n l).map encI),.own 1 ((crN n l).map encI),.int .i64 (slE n l)]) else none) (H:=[bS own] ++ [bI (slG n own)]) (by kernel_rfl) (ShI _ n) (sS _) (if_pos (by omega))
  rw [recv_lli] at c30
  have d:=ls_d_0 (F:=prL6) n (l.map encT) ([bS own] ++ [bI (slG n own)]) 0 own.length 1 (slG n own).length (slE n own) 2 (crA n own).length 3 (crN n own).length (slE n own) (y8:=Ud) (y9:=Ud) (y10:=Ud) (y11:=Ud) (y13:=Ud) (y14:=Ud) (y15:=Ud) c30
  generalize hH:[bS own] ++ [bI (slG n own)] ++ [bI (crA n own)] ++ [bI (crN n own)]=H at *
  have e:=ls_e_0 (F:=prL6) n (l.map encT) H 0 own.length 1 (slG n own).length (slE n own) 2 (crA n own).length 3 (crN n own).length (slE n own) (y11:=Ud) (y13:=Ud) (y14:=Ud) (y15:=Ud)
  have sH:∀ X:Heap,Sh kS (H ++ X) (.sl 0 0 own.length none own.length 3) own:=fun X=>by rw [← hH,List.append_assoc,List.append_assoc,List.append_assoc]; exact sS _
  have sH0:Sh kS H (.sl 0 0 own.length none own.length 3) own:=by have:=sH []; rwa [List.append_nil] at this
  have c17:=at2 (pol':=plF prL6) (g:=17) (c1:=kI) (c2:=kS) (f:=fun n l=>if l.length ≤ 1000 then some (.bool (netB n l)) else none) (H:=H) (by kernel_rfl) (ShI _ n) sH0 (if_pos (by omega))
  have aw:∀ H,∀ k,callN Tp (plF prL6) (k+1) 18 [] H=some (.bool true,H):=fun H=>awake_at (by kernel_rfl) H
  have bad:∀ x,slE n own=x → x ≠ 0 → slG n own=[]∧crA n own=[]∧crN n own=[]:=fun x h1 h2=>by
    subst h1; exact ⟨if_neg h2,if_neg h2,if_neg h2⟩
  cases hnet:netB n own with
  | false =>
    rw [hnet] at c17
    have e2:slE n own=2:=if_neg (by rw [hnet]; simp)
    obtain ⟨e3,e4,e5⟩:=bad _ e2 (by decide)
    have f:=ls_f_2 (F:=prL6) n (l.map encT) H 0 own.length 1 (slG n own).length (slE n own) 2 (crA n own).length 3 (crN n own).length (slE n own) 0 0 (y13:=Ud) (y14:=Ud) (y15:=Ud) c17
    have g:=ls_g_1 (F:=prL6) n (l.map encT) H 0 own.length 1 (slG n own).length (slE n own) 2 (crA n own).length 3 (crN n own).length (slE n own) 2 (y13:=Ud) (y14:=Ud) (y15:=Ud) (by decide) (by rw [e3]; rfl) e2 (by rw [e4]; rfl) (by rw [e5]; rfl) e2 (aw H)
    exact ⟨_,_,sq (a) (sq (b) (sq (c) (sq (d) (sq (e) (sq (f) (sqo (g) (c:=sub [1,1,1,1,1,1] B6) (b:=sub [1,1,1,1,1,1,1] B6)) (c:=sub [1,1,1,1,1] B6)) (c:=sub [1,1,1,1] B6)) (c:=sub [1,1,1] B6)) (c:=sub [1,1] B6)) (c:=sub [1] B6)) (c:=B6),rfl⟩
  | true =>
    rw [hnet] at c17
    obtain ⟨⟨n1,n2⟩,n3,he,_⟩:=netB_ends hnet
    have c20:=at2 (pol':=plF prL6) (g:=20) (c1:=kI) (c2:=kS) (f:=fun n l=>if (0 ≤ n∧n ≤ 16)∧endN n l=true∧l.length ≤ 500 then some (.tuple [.own 1 ((frT l).map encI),.bool (frOk n l)]) else none) (H:=H) (by kernel_rfl) (ShI _ n) sH0 (if_pos ⟨by omega,he,by omega⟩)
    rw [recv_tb,frOk_eq] at c20
    by_cases cn:connB n own=true
    case neg =>
      rw [nb_false cn] at c20
      have e2:slE n own=6:=by rw [slE,if_pos hnet,if_neg cn]
      obtain ⟨e3,e4,e5⟩:=bad _ e2 (by decide)
      have f:=ls_f_1 (F:=prL6) n (l.map encT) H 0 own.length 1 (slG n own).length (slE n own) 2 (crA n own).length 3 (crN n own).length (slE n own) _ _ (y13:=Ud) (y14:=Ud) (y15:=Ud) c17 c20
      have g:=ls_g_1 (F:=prL6) n (l.map encT) (H ++ [bI (frT own)]) 0 own.length 1 (slG n own).length (slE n own) 2 (crA n own).length 3 (crN n own).length (slE n own) 6 (y13:=.bool false) (y14:=Ud) (y15:=Ud) (by decide) (by rw [e3]; rfl) e2 (by rw [e4]; rfl) (by rw [e5]; rfl) e2 (aw _)
      exact ⟨_,_,sq (a) (sq (b) (sq (c) (sq (d) (sq (e) (sq (f) (sqo (g) (c:=sub [1,1,1,1,1,1] B6) (b:=sub [1,1,1,1,1,1,1] B6)) (c:=sub [1,1,1,1,1] B6)) (c:=sub [1,1,1,1] B6)) (c:=sub [1,1,1] B6)) (c:=sub [1,1] B6)) (c:=sub [1] B6)) (c:=B6),rfl⟩
    rw [cn] at c20
    have e2:slE n own=0:=by rw [slE,if_pos hnet,if_pos cn]
    have e3:slG n own=rslT n own own.length:=by rw [slG,if_pos e2,slack_eq hnet cn]
    have e4:=crA_eq hnet cn
    have e5:=crN_eq hnet cn
    have f:=ls_f_0 (F:=prL6) n (l.map encT) H 0 own.length 1 (slG n own).length (slE n own) 2 (crA n own).length 3 (crN n own).length (slE n own) _ _ (y13:=Ud) (y14:=Ud) (y15:=Ud) c17 c20
    have g:=ls_g_0 (F:=prL6) n (l.map encT) (H ++ [bI (frT own)]) 0 own.length 1 (slG n own).length (slE n own) 2 (crA n own).length 3 (crN n own).length (slE n own) 0 (y13:=.bool true) (y14:=Ud) (y15:=Ud) rfl
    have c31:=at2 (pol':=plF prL6) (g:=31) (c1:=kI) (c2:=kS) (f:=fun n l=>if netB n l=true then some (.tuple [.own 1 ((fiT (pAl (frT l) (rslT n l l.length)) l.length).map encI),.own 1 ((fiT (pPo (frT l) (rslT n l l.length)) l.length).map encI)]) else none) (H:=H ++ [bI (frT own)]) (by kernel_rfl) (ShI _ n) (sH _) (if_pos hnet)
    rw [recv_ll,← e4,← e5] at c31
    have h:=ls_h_0 (F:=prL6) n (l.map encT) (H ++ [bI (frT own)]) 0 own.length 1 (slG n own).length (slE n own) 2 (crA n own).length 3 (crN n own).length (slE n own) 0 _ _ _ _ (y13:=.bool true) (y14:=Ud) (y15:=Ud) c31
    have hHl:H.length=4:=by rw [← hH]; rfl
    have c32:=at2 (pol':=plF prL6) (g:=32) (c1:=kI) (c2:=kS) (f:=fun n l=>if netB n l=true then some (.own 1 ((rslT n l l.length).map encI)) else none) (H:=H ++ [bI (frT own)] ++ [bI (crA n own)] ++ [bI (crN n own)]) (by kernel_rfl) (ShI _ n) (by rw [List.append_assoc,List.append_assoc]; exact sH _) (if_pos hnet)
    rw [recv_ints,← e3] at c32
    have l1:(slG n own).length ≤ 900:=by rw [e3,rslT_len]; omega
    have l2:(crA n own).length ≤ 900:=by have:=fi_len (pAl (frT own) (rslT n own own.length)) own.length; rw [e4]; omega
    have l3:(crN n own).length ≤ 900:=by have:=fi_len (pPo (frT own) (rslT n own own.length)) own.length; rw [e5]; omega
    generalize hK:H ++ [bI (frT own)] ++ [bI (crA n own)] ++ [bI (crN n own)] ++ [bI (slG n own)]=K at *
    have hK1:K=[bS own,bI (slG n own),bI (crA n own),bI (crN n own),bI (frT own),bI (crA n own),bI (crN n own),bI (slG n own)]:=by rw [← hK,← hH]; rfl
    have ci:∀ (A:List Int) (i j:Nat),A.length ≤ 900 → K[i]?=some (bI A) → K[j]?=some (bI A) → ∀ k,callN Tp (plF prL6) (k+1) 21 [.sl i 0 A.length none A.length 1,.sl j 0 A.length none A.length 1] K=some (.bool true,K):=fun A i j hA h1 h2=>by
      have:=at2 (pol':=plF prL6) (g:=21) (c1:=kL) (c2:=kL) (f:=fun a b=>if a.length ≤ 1000 then some (.bool (decide (a=b))) else none) (H:=K) (v1:=.sl i 0 A.length none A.length 1) (v2:=.sl j 0 A.length none A.length 1) (x:=A) (y:=A) (by kernel_rfl) (ShL_sl rfl h1) (ShL_sl rfl h2) (if_pos (by omega))
      rw [decide_eq_true rfl] at this
      exact this
    have p7:(H ++ [bI (frT own)] ++ [bI (crA n own)] ++ [bI (crN n own)]).length=7:=by simp [hHl]
    have p5:(H ++ [bI (frT own)]).length=5:=by simp [hHl]
    rw [p7] at c32
    rw [p5] at h
    have z:=ls_z_0 (F:=prL6) n (l.map encT) (H ++ [bI (frT own)] ++ [bI (crA n own)] ++ [bI (crN n own)]) 0 own.length 1 (slG n own).length (slE n own) 2 (crA n own).length 3 (crN n own).length (slE n own) 0 5 (crA n own).length 6 (crN n own).length _ _ (y13:=.bool true) c32 (ci _ 1 7 l1 (by rw [hK1]; rfl) (by rw [hK1]; rfl)) e2 (ci _ 2 5 l2 (by rw [hK1]; rfl) (by rw [hK1]; rfl)) (ci _ 3 6 l3 (by rw [hK1]; rfl) (by rw [hK1]; rfl)) e2 (aw _)
    exact ⟨_,_,sq (a) (sq (b) (sq (c) (sq (d) (sq (e) (sq (f) (sq (g) (sq (h) (z) (c:=sub [1,1,1,1,1,1,1] B6)) (c:=sub [1,1,1,1,1,1] B6)) (c:=sub [1,1,1,1,1] B6)) (c:=sub [1,1,1,1] B6)) (c:=sub [1,1,1] B6)) (c:=sub [1,1] B6)) (c:=sub [1] B6)) (c:=B6),rfl⟩
end Go.Proofs.Ytiejmoglooaalaa
end
section
namespace Go.HL
open Go.ChangeShapes Go.WideShapes Go.ChangeAt Go.RowKit Go.Deep
theorem okNil (w:World) (r:Nat):okOf Ctx.nil w.heap.size false r:=by
  refine ⟨fun hM=>?_,by simp⟩
  obtain ⟨b,y,h1,_,_⟩:=M_iff.1 hM
  simp [Ctx.nil] at h1
theorem cell_lt {w:World} {a:Addr} {v:Value} (h:w.cell? a=some v):a.block < w.heap.size:=by
  rcases Nat.lt_or_ge a.block w.heap.size with hl | hl
  · exact hl
  · have:w.heap[a.block]?=none:=by simp [hl]
    simp [World.cell?,this] at h
end Go.HL
end
