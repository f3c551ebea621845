/- A part of the proof. -/
import Derived.Test.YtiejmoglooaalaaP10C
set_option linter.unusedVariables false
set_option linter.unusedSimpArgs false
set_option linter.unnecessarySimpa false
section
open Go Go.HL
namespace Go.Proofs.Ytiejmoglooaalaa
set_option maxRecDepth 100000
open Go.Proofs.Try renaming prog → Tp
open Go.HL.HV renaming undef → Ud
section
variable {F:FuncId → Option (List HV → Option HV)}
noncomputable def B28:Code:=Try.f28.body.getD .skip
abbrev env28 (v0 v1 v2 v6 v7 v8:HV):Env:=[(0,v0),(1,v1),(2,v2),(6,v6),(7,v7),(8,v8)]
theorem xt_a_0 (n:Int) (ls la:List HV) :RunsTo Tp (plF F) 28 (sub [0] B28) [(0,.i n),(1,.imm .arg 3 ls),(2,.a la)] [] .normal ((plF F).keys 28) (env28 (.i n) (.imm .arg 3 ls) (.a la) (.bool false) Ud Ud) [] :=
  RunsTo.hin 0 60 [] fun kf hk=>⟨_,by kernel_rfl,.nil⟩
theorem xt_b_0 (n:Int) (ls la:List HV) (H:Heap) {y7 y8:HV}:RunsTo Tp (plF F) 28 (sub [1,0,0] B28) (env28 (.i n) (.imm .arg 3 ls) (.a la) (.bool false) y7 y8) H .normal ((plF F).keys 28) (env28 (.i n) (.imm .arg 3 ls) (.a la) (.bool false) (.i 0) y8) H :=
  RunsTo.hin 0 60 [] fun kf hk=>⟨_,by kernel_rfl,.nil⟩
theorem xt_l_0 (n:Int) (ls la:List HV) (H:Heap) (i:Nat) (x z:Int) {y8:HV}(g0:(i:Int) < (la.length:Int)) (g1:idxV Tp 24 (.a la) (.i (i:Int))=some (.vptr (.i x))) (g2:x < 0):RunsTo Tp (plF F) 28 (sub [1,0,1,0,0] B28) (env28 (.i n) (.imm .arg 3 ls) (.a la) (.bool false) (.i (i:Int)) y8) H .ret ((plF F).keys 28) (env28 (.i n) (.imm .arg 3 ls) (.a la) (.bool false) (.i (i:Int)) y8) H :=
  RunsTo.hin 0 60 [⟨2,3,.bool true,H⟩,⟨4,2,.vptr (.i x),H⟩,⟨4,4,.bool true,H⟩] fun kf hk=>⟨_,by kernel_rfl,(oB H (decide_eq_true g0) (oP H g1 (oB H (decide_eq_true g2) .nil)))⟩
theorem xt_l_1 (n:Int) (ls la:List HV) (H:Heap) (i:Nat) (x z:Int) {y8:HV}(g0:(i:Int) < (la.length:Int)) (g1:idxV Tp 24 (.a la) (.i (i:Int))=some (.vptr (.i x))) (g2:¬ (x < 0)) (g3:idxV Tp 24 (.a la) (.i (i:Int))=some (.vptr (.i x))) (g4:(ls.length:Int) ≤ x):RunsTo Tp (plF F) 28 (sub [1,0,1,0,0] B28) (env28 (.i n) (.imm .arg 3 ls) (.a la) (.bool false) (.i (i:Int)) y8) H .ret ((plF F).keys 28) (env28 (.i n) (.imm .arg 3 ls) (.a la) (.bool false) (.i (i:Int)) y8) H :=
  RunsTo.hin 0 60 [⟨2,3,.bool true,H⟩,⟨4,2,.vptr (.i x),H⟩,⟨4,4,.bool false,H⟩,⟨4,8,.vptr (.i x),H⟩,⟨4,12,.bool true,H⟩] fun kf hk=>⟨_,by kernel_rfl,(oB H (decide_eq_true g0) (oP H g1 (oB H (decide_eq_false g2) (oP H g3 (oB H (decide_eq_true g4) .nil)))))⟩
theorem xt_l_2 (n:Int) (ls la:List HV) (H:Heap) (i:Nat) (x z:Int) {y8:HV}(g0:(i:Int) < (la.length:Int)) (g1:idxV Tp 24 (.a la) (.i (i:Int))=some (.vptr (.i x))) (g2:¬ (x < 0)) (g3:idxV Tp 24 (.a la) (.i (i:Int))=some (.vptr (.i x))) (g4:¬ ((ls.length:Int) ≤ x)) (g5:0 < (i:Int)) (g6:idxV Tp 24 (.a la) (.i (IntKind.i64.wrap ((i:Int) - 1)))=some (.vptr (.i z))) (g7:idxV Tp 24 (.a la) (.i (i:Int))=some (.vptr (.i x))) (g8:x ≤ z):RunsTo Tp (plF F) 28 (sub [1,0,1,0,0] B28) (env28 (.i n) (.imm .arg 3 ls) (.a la) (.bool false) (.i (i:Int)) y8) H .ret ((plF F).keys 28) (env28 (.i n) (.imm .arg 3 ls) (.a la) (.bool false) (.i (i:Int)) y8) H :=
  RunsTo.hin 0 60 [⟨2,3,.bool true,H⟩,⟨4,2,.vptr (.i x),H⟩,⟨4,4,.bool false,H⟩,⟨4,8,.vptr (.i x),H⟩,⟨4,12,.bool false,H⟩,⟨4,16,.bool true,H⟩,⟨4,21,.vptr (.i z),H⟩,⟨4,25,.vptr (.i x),H⟩,⟨4,27,.bool true,H⟩] fun kf hk=>⟨_,by kernel_rfl,(oB H (decide_eq_true g0) (oP H g1 (oB H (decide_eq_false g2) (oP H g3 (oB H (decide_eq_false g4) (oB H (decide_eq_true g5) (oP H g6 (oP H g7 (oB H (decide_eq_true g8) .nil)))))))))⟩
theorem xt_l_3 (n:Int) (ls la:List HV) (H:Heap) (i:Nat) (x z:Int) {y8:HV}(g0:(i:Int) < (la.length:Int)) (g1:idxV Tp 24 (.a la) (.i (i:Int))=some (.vptr (.i x))) (g2:¬ (x < 0)) (g3:idxV Tp 24 (.a la) (.i (i:Int))=some (.vptr (.i x))) (g4:¬ ((ls.length:Int) ≤ x)) (g5:0 < (i:Int)) (g6:idxV Tp 24 (.a la) (.i (IntKind.i64.wrap ((i:Int) - 1)))=some (.vptr (.i z))) (g7:idxV Tp 24 (.a la) (.i (i:Int))=some (.vptr (.i x))) (g8:¬ (x ≤ z)):RunsTo Tp (plF F) 28 (sub [1,0,1,0,0] B28) (env28 (.i n) (.imm .arg 3 ls) (.a la) (.bool false) (.i (i:Int)) y8) H .normal ((plF F).keys 28) (env28 (.i n) (.imm .arg 3 ls) (.a la) (.bool false) (.i (IntKind.i64.wrap ((i:Int)+1))) y8) H :=
  RunsTo.hin 0 60 [⟨2,3,.bool true,H⟩,⟨4,2,.vptr (.i x),H⟩,⟨4,4,.bool false,H⟩,⟨4,8,.vptr (.i x),H⟩,⟨4,12,.bool false,H⟩,⟨4,16,.bool true,H⟩,⟨4,21,.vptr (.i z),H⟩,⟨4,25,.vptr (.i x),H⟩,⟨4,27,.bool false,H⟩] fun kf hk=>⟨_,by kernel_rfl,(oB H (decide_eq_true g0) (oP H g1 (oB H (decide_eq_false g2) (oP H g3 (oB H (decide_eq_false g4) (oB H (decide_eq_true g5) (oP H g6 (oP H g7 (oB H (decide_eq_false g8) .nil)))))))))⟩
theorem xt_l_4 (n:Int) (ls la:List HV) (H:Heap) (i:Nat) (x z:Int) {y8:HV}(g0:(i:Int) < (la.length:Int)) (g1:idxV Tp 24 (.a la) (.i (i:Int))=some (.vptr (.i x))) (g2:¬ (x < 0)) (g3:idxV Tp 24 (.a la) (.i (i:Int))=some (.vptr (.i x))) (g4:¬ ((ls.length:Int) ≤ x)) (g5:¬ (0 < (i:Int))):RunsTo Tp (plF F) 28 (sub [1,0,1,0,0] B28) (env28 (.i n) (.imm .arg 3 ls) (.a la) (.bool false) (.i (i:Int)) y8) H .normal ((plF F).keys 28) (env28 (.i n) (.imm .arg 3 ls) (.a la) (.bool false) (.i (IntKind.i64.wrap ((i:Int)+1))) y8) H :=
  RunsTo.hin 0 60 [⟨2,3,.bool true,H⟩,⟨4,2,.vptr (.i x),H⟩,⟨4,4,.bool false,H⟩,⟨4,8,.vptr (.i x),H⟩,⟨4,12,.bool false,H⟩,⟨4,16,.bool false,H⟩] fun kf hk=>⟨_,by kernel_rfl,(oB H (decide_eq_true g0) (oP H g1 (oB H (decide_eq_false g2) (oP H g3 (oB H (decide_eq_false g4) (oB H (decide_eq_false g5) .nil))))))⟩
theorem xt_l_5 (n:Int) (ls la:List HV) (H:Heap) (i:Nat) (x z:Int) {y8:HV}(g0:¬ ((i:Int) < (la.length:Int))):RunsTo Tp (plF F) 28 (sub [1,0,1,0,0] B28) (env28 (.i n) (.imm .arg 3 ls) (.a la) (.bool false) (.i (i:Int)) y8) H (.exit 0) ((plF F).keys 28) (env28 (.i n) (.imm .arg 3 ls) (.a la) (.bool false) (.i (i:Int)) y8) H :=
  RunsTo.hin 0 60 [⟨2,3,.bool false,H⟩] fun kf hk=>⟨_,by kernel_rfl,(oB H (decide_eq_false g0) .nil)⟩
theorem xt_d_0 (n:Int) (ls la:List HV) (H:Heap) (sb k gb c:Nat) {y7 y8:HV} {H0:Heap} (g0:∀ kf,callN Tp (plF F) (kf+1) 50 [.i n,.imm .arg 3 ls,.a la] H=some (.tuple [.s sb k,.s gb c],H0)):RunsTo Tp (plF F) 28 (sub [1,1,0] B28) (env28 (.i n) (.imm .arg 3 ls) (.a la) (.bool false) y7 y8) H .normal ((plF F).keys 28) (env28 (.i n) (.imm .arg 3 ls) (.a la) (.bool false) y7 (.s sb k)) H0 :=
  RunsTo.hin 0 60 [⟨6,3,.tuple [.s sb k,.s gb c],H0⟩] fun kf hk=>⟨_,by kernel_rfl,(oC (g0 kf) .nil)⟩
theorem xt_z_0 (n:Int) (ls la:List HV) (H:Heap) (sb k:Nat) {y7:HV}(g0:(la.length:Int)=IntKind.i64.wrap (n - 1)) (g1:(k:Int)=IntKind.i64.wrap (n - 1)):RunsTo Tp (plF F) 28 (sub [1,1,1] B28) (env28 (.i n) (.imm .arg 3 ls) (.a la) (.bool false) y7 (.s sb k)) H .ret ((plF F).keys 28) (env28 (.i n) (.imm .arg 3 ls) (.a la) (.bool true) y7 (.s sb k)) H :=
  RunsTo.hin 0 60 [⟨7,4,.bool true,H⟩,⟨7,10,.bool true,H⟩] fun kf hk=>⟨_,by kernel_rfl,(oB H (decide_eq_true g0) (oB H (decide_eq_true g1) .nil))⟩
theorem xt_z_1 (n:Int) (ls la:List HV) (H:Heap) (sb k:Nat) {y7:HV}(g0:(la.length:Int)=IntKind.i64.wrap (n - 1)) (g1:¬ ((k:Int)=IntKind.i64.wrap (n - 1))):RunsTo Tp (plF F) 28 (sub [1,1,1] B28) (env28 (.i n) (.imm .arg 3 ls) (.a la) (.bool false) y7 (.s sb k)) H .ret ((plF F).keys 28) (env28 (.i n) (.imm .arg 3 ls) (.a la) (.bool false) y7 (.s sb k)) H :=
  RunsTo.hin 0 60 [⟨7,4,.bool true,H⟩,⟨7,10,.bool false,H⟩] fun kf hk=>⟨_,by kernel_rfl,(oB H (decide_eq_true g0) (oB H (decide_eq_false g1) .nil))⟩
theorem xt_z_2 (n:Int) (ls la:List HV) (H:Heap) (sb k:Nat) {y7:HV}(g0:¬ ((la.length:Int)=IntKind.i64.wrap (n - 1))):RunsTo Tp (plF F) 28 (sub [1,1,1] B28) (env28 (.i n) (.imm .arg 3 ls) (.a la) (.bool false) y7 (.s sb k)) H .ret ((plF F).keys 28) (env28 (.i n) (.imm .arg 3 ls) (.a la) (.bool false) y7 (.s sb k)) H :=
  RunsTo.hin 0 60 [⟨7,4,.bool false,H⟩] fun kf hk=>⟨_,by kernel_rfl,(oB H (decide_eq_false g0) .nil)⟩
noncomputable def B36:Code:=Try.f36.body.getD .skip
abbrev env36 (v0 v1 v2 v6 v7 v8 v9:HV):Env:=[(0,v0),(1,v1),(2,v2),(6,v6),(7,v7),(8,v8),(9,v9)]
theorem xs2_a_0 (la:List HV) (o p:Int) :RunsTo Tp (plF F) 36 (sub [0] B36) [(0,.a la),(1,.i o),(2,.i p)] [] .normal ((plF F).keys 36) (env36 (.a la) (.i o) (.i p) (.imm .lit 1 []) Ud Ud Ud) [] :=
  RunsTo.hin 0 60 [] fun kf hk=>⟨_,by kernel_rfl,.nil⟩
theorem xs2_b_0 (la:List HV) (o p:Int) (H:Heap) {y7 y8 y9:HV} {v0:HV} {H0:Heap} (g0:some (HV.sl H.length 0 0 none 0 1,H ++ [Blk.b []])=some (v0,H0)):RunsTo Tp (plF F) 36 (sub [1,0] B36) (env36 (.a la) (.i o) (.i p) (.imm .lit 1 []) y7 y8 y9) H .normal ((plF F).keys 36) (env36 (.a la) (.i o) (.i p) (.imm .lit 1 []) v0 y8 y9) H0 :=
  RunsTo.hin 0 60 [⟨1,0,v0,H0⟩] fun kf hk=>⟨_,by kernel_rfl,(oC (g0) .nil)⟩
theorem xs2_c_0 (la:List HV) (o p:Int) (H:Heap) (ob m:Nat) {y8 y9:HV}:RunsTo Tp (plF F) 36 (sub [1,1,0] B36) (env36 (.a la) (.i o) (.i p) (.imm .lit 1 []) (.s ob m) y8 y9) H .normal ((plF F).keys 36) (env36 (.a la) (.i o) (.i p) (.imm .lit 1 []) (.s ob m) (.bool false) y9) H :=
  RunsTo.hin 0 60 [] fun kf hk=>⟨_,by kernel_rfl,.nil⟩
theorem xs2_d_0 (la:List HV) (o p:Int) (H:Heap) (ob m:Nat) {y9:HV}:RunsTo Tp (plF F) 36 (sub [1,1,1,0,0] B36) (env36 (.a la) (.i o) (.i p) (.imm .lit 1 []) (.s ob m) (.bool false) y9) H .normal ((plF F).keys 36) (env36 (.a la) (.i o) (.i p) (.imm .lit 1 []) (.s ob m) (.bool false) (.i 0)) H :=
  RunsTo.hin 0 60 [] fun kf hk=>⟨_,by kernel_rfl,.nil⟩
theorem xs2_lf_0 (la:List HV) (o p:Int) (H:Heap) (ob m i:Nat) (x:Int) {H0:Heap} {v0:HV} (g0:(i:Int) < (la.length:Int)) (g1:idxV Tp 24 (.a la) (.i (i:Int))=some (.vptr (.i x))) (g2:p < x) (g3:appV H 1 8 (.s ob m) [.i p]=some (v0,H0)) (g4:idxV Tp 24 (.a la) (.i (i:Int))=some (.vptr (.i x))) (g5:x=o):RunsTo Tp (plF F) 36 (sub [1,1,1,0,1,0,0] B36) (env36 (.a la) (.i o) (.i p) (.imm .lit 1 []) (.s ob m) (.bool false) (.i (i:Int))) H .normal ((plF F).keys 36) (env36 (.a la) (.i o) (.i p) (.imm .lit 1 []) v0 (.bool true) (.i (IntKind.i64.wrap ((i:Int)+1)))) H0 :=
  RunsTo.hin 0 60 [⟨4,3,.bool true,H⟩,⟨6,5,.vptr (.i x),H⟩,⟨6,8,.bool true,H⟩,⟨7,3,v0,H0⟩,⟨9,2,.vptr (.i x),H0⟩,⟨9,5,.bool false,H0⟩] fun kf hk=>⟨_,by kernel_rfl,(oB H (decide_eq_true g0) (oP H g1 (oB H (decide_eq_true g2) (oC (g3) (oP H0 g4 (oB H0 (congrArg not (decide_eq_true g5)) .nil))))))⟩
theorem xs2_lf_1 (la:List HV) (o p:Int) (H:Heap) (ob m i:Nat) (x:Int) {H0:Heap} {v0:HV} {H1:Heap} {v1:HV} (g0:(i:Int) < (la.length:Int)) (g1:idxV Tp 24 (.a la) (.i (i:Int))=some (.vptr (.i x))) (g2:p < x) (g3:appV H 1 8 (.s ob m) [.i p]=some (v0,H0)) (g4:idxV Tp 24 (.a la) (.i (i:Int))=some (.vptr (.i x))) (g5:¬ (x=o)) (g6:idxV Tp 24 (.a la) (.i (i:Int))=some (.vptr (.i x))) (g7:appV H0 1 8 (v0) [.i x]=some (v1,H1)):RunsTo Tp (plF F) 36 (sub [1,1,1,0,1,0,0] B36) (env36 (.a la) (.i o) (.i p) (.imm .lit 1 []) (.s ob m) (.bool false) (.i (i:Int))) H .normal ((plF F).keys 36) (env36 (.a la) (.i o) (.i p) (.imm .lit 1 []) v1 (.bool true) (.i (IntKind.i64.wrap ((i:Int)+1)))) H1 :=
  RunsTo.hin 0 60 [⟨4,3,.bool true,H⟩,⟨6,5,.vptr (.i x),H⟩,⟨6,8,.bool true,H⟩,⟨7,3,v0,H0⟩,⟨9,2,.vptr (.i x),H0⟩,⟨9,5,.bool true,H0⟩,⟨10,3,.vptr (.i x),H0⟩,⟨10,6,v1,H1⟩] fun kf hk=>⟨_,by kernel_rfl,(oB H (decide_eq_true g0) (oP H g1 (oB H (decide_eq_true g2) (oC (g3) (oP H0 g4 (oB H0 (congrArg not (decide_eq_false g5)) (oP H0 g6 (oC (g7) .nil))))))))⟩
theorem xs2_lf_2 (la:List HV) (o p:Int) (H:Heap) (ob m i:Nat) (x:Int)(g0:(i:Int) < (la.length:Int)) (g1:idxV Tp 24 (.a la) (.i (i:Int))=some (.vptr (.i x))) (g2:¬ (p < x)) (g3:idxV Tp 24 (.a la) (.i (i:Int))=some (.vptr (.i x))) (g4:x=o):RunsTo Tp (plF F) 36 (sub [1,1,1,0,1,0,0] B36) (env36 (.a la) (.i o) (.i p) (.imm .lit 1 []) (.s ob m) (.bool false) (.i (i:Int))) H .normal ((plF F).keys 36) (env36 (.a la) (.i o) (.i p) (.imm .lit 1 []) (.s ob m) (.bool false) (.i (IntKind.i64.wrap ((i:Int)+1)))) H :=
  RunsTo.hin 0 60 [⟨4,3,.bool true,H⟩,⟨6,5,.vptr (.i x),H⟩,⟨6,8,.bool false,H⟩,⟨9,2,.vptr (.i x),H⟩,⟨9,5,.bool false,H⟩] fun kf hk=>⟨_,by kernel_rfl,(oB H (decide_eq_true g0) (oP H g1 (oB H (decide_eq_false g2) (oP H g3 (oB H (congrArg not (decide_eq_true g4)) .nil)))))⟩
theorem xs2_lf_3 (la:List HV) (o p:Int) (H:Heap) (ob m i:Nat) (x:Int) {H0:Heap} {v0:HV} (g0:(i:Int) < (la.length:Int)) (g1:idxV Tp 24 (.a la) (.i (i:Int))=some (.vptr (.i x))) (g2:¬ (p < x)) (g3:idxV Tp 24 (.a la) (.i (i:Int))=some (.vptr (.i x))) (g4:¬ (x=o)) (g5:idxV Tp 24 (.a la) (.i (i:Int))=some (.vptr (.i x))) (g6:appV H 1 8 (.s ob m) [.i x]=some (v0,H0)):RunsTo Tp (plF F) 36 (sub [1,1,1,0,1,0,0] B36) (env36 (.a la) (.i o) (.i p) (.imm .lit 1 []) (.s ob m) (.bool false) (.i (i:Int))) H .normal ((plF F).keys 36) (env36 (.a la) (.i o) (.i p) (.imm .lit 1 []) v0 (.bool false) (.i (IntKind.i64.wrap ((i:Int)+1)))) H0 :=
  RunsTo.hin 0 60 [⟨4,3,.bool true,H⟩,⟨6,5,.vptr (.i x),H⟩,⟨6,8,.bool false,H⟩,⟨9,2,.vptr (.i x),H⟩,⟨9,5,.bool true,H⟩,⟨10,3,.vptr (.i x),H⟩,⟨10,6,v0,H0⟩] fun kf hk=>⟨_,by kernel_rfl,(oB H (decide_eq_true g0) (oP H g1 (oB H (decide_eq_false g2) (oP H g3 (oB H (congrArg not (decide_eq_false g4)) (oP H g5 (oC (g6) .nil)))))))⟩
theorem xs2_lf_4 (la:List HV) (o p:Int) (H:Heap) (ob m i:Nat) (x:Int)(g0:¬ ((i:Int) < (la.length:Int))):RunsTo Tp (plF F) 36 (sub [1,1,1,0,1,0,0] B36) (env36 (.a la) (.i o) (.i p) (.imm .lit 1 []) (.s ob m) (.bool false) (.i (i:Int))) H (.exit 0) ((plF F).keys 36) (env36 (.a la) (.i o) (.i p) (.imm .lit 1 []) (.s ob m) (.bool false) (.i (i:Int))) H :=
  RunsTo.hin 0 60 [⟨4,3,.bool false,H⟩] fun kf hk=>⟨_,by kernel_rfl,(oB H (decide_eq_false g0) .nil)⟩
theorem xs2_lt_0 (la:List HV) (o p:Int) (H:Heap) (ob m i:Nat) (x:Int)(g0:(i:Int) < (la.length:Int)) (g1:idxV Tp 24 (.a la) (.i (i:Int))=some (.vptr (.i x))) (g2:x=o):RunsTo Tp (plF F) 36 (sub [1,1,1,0,1,0,0] B36) (env36 (.a la) (.i o) (.i p) (.imm .lit 1 []) (.s ob m) (.bool true) (.i (i:Int))) H .normal ((plF F).keys 36) (env36 (.a la) (.i o) (.i p) (.imm .lit 1 []) (.s ob m) (.bool true) (.i (IntKind.i64.wrap ((i:Int)+1)))) H :=
  RunsTo.hin 0 60 [⟨4,3,.bool true,H⟩,⟨9,2,.vptr (.i x),H⟩,⟨9,5,.bool false,H⟩] fun kf hk=>⟨_,by kernel_rfl,(oB H (decide_eq_true g0) (oP H g1 (oB H (congrArg not (decide_eq_true g2)) .nil)))⟩
theorem xs2_lt_1 (la:List HV) (o p:Int) (H:Heap) (ob m i:Nat) (x:Int) {H0:Heap} {v0:HV} (g0:(i:Int) < (la.length:Int)) (g1:idxV Tp 24 (.a la) (.i (i:Int))=some (.vptr (.i x))) (g2:¬ (x=o)) (g3:idxV Tp 24 (.a la) (.i (i:Int))=some (.vptr (.i x))) (g4:appV H 1 8 (.s ob m) [.i x]=some (v0,H0)):RunsTo Tp (plF F) 36 (sub [1,1,1,0,1,0,0] B36) (env36 (.a la) (.i o) (.i p) (.imm .lit 1 []) (.s ob m) (.bool true) (.i (i:Int))) H .normal ((plF F).keys 36) (env36 (.a la) (.i o) (.i p) (.imm .lit 1 []) v0 (.bool true) (.i (IntKind.i64.wrap ((i:Int)+1)))) H0 :=
  RunsTo.hin 0 60 [⟨4,3,.bool true,H⟩,⟨9,2,.vptr (.i x),H⟩,⟨9,5,.bool true,H⟩,⟨10,3,.vptr (.i x),H⟩,⟨10,6,v0,H0⟩] fun kf hk=>⟨_,by kernel_rfl,(oB H (decide_eq_true g0) (oP H g1 (oB H (congrArg not (decide_eq_false g2)) (oP H g3 (oC (g4) .nil)))))⟩
theorem xs2_lt_2 (la:List HV) (o p:Int) (H:Heap) (ob m i:Nat) (x:Int)(g0:¬ ((i:Int) < (la.length:Int))):RunsTo Tp (plF F) 36 (sub [1,1,1,0,1,0,0] B36) (env36 (.a la) (.i o) (.i p) (.imm .lit 1 []) (.s ob m) (.bool true) (.i (i:Int))) H (.exit 0) ((plF F).keys 36) (env36 (.a la) (.i o) (.i p) (.imm .lit 1 []) (.s ob m) (.bool true) (.i (i:Int))) H :=
  RunsTo.hin 0 60 [⟨4,3,.bool false,H⟩] fun kf hk=>⟨_,by kernel_rfl,(oB H (decide_eq_false g0) .nil)⟩
theorem xs2_zf_0 (la:List HV) (o p:Int) (H:Heap) (ob m:Nat) {y9:HV} {H0:Heap} {v0:HV} (g0:appV H 1 8 (.s ob m) [.i p]=some (v0,H0)):RunsTo Tp (plF F) 36 (sub [1,1,1,1] B36) (env36 (.a la) (.i o) (.i p) (.imm .lit 1 []) (.s ob m) (.bool false) y9) H .ret ((plF F).keys 36) (env36 (.a la) (.i o) (.i p) v0 v0 (.bool false) y9) H0 :=
  RunsTo.hin 0 60 [⟨12,3,v0,H0⟩] fun kf hk=>⟨_,by kernel_rfl,(oC (g0) .nil)⟩
theorem xs2_zt_0 (la:List HV) (o p:Int) (H:Heap) (ob m:Nat) {y9:HV}:RunsTo Tp (plF F) 36 (sub [1,1,1,1] B36) (env36 (.a la) (.i o) (.i p) (.imm .lit 1 []) (.s ob m) (.bool true) y9) H .ret ((plF F).keys 36) (env36 (.a la) (.i o) (.i p) (.s ob m) (.s ob m) (.bool true) y9) H :=
  RunsTo.hin 0 60 [] fun kf hk=>⟨_,by kernel_rfl,.nil⟩
end
end Go.Proofs.Ytiejmoglooaalaa
end
section
open Go Go.HL
namespace Go.Proofs.Ytiejmoglooaalaa
open Go.Proofs.Try renaming prog → Tp
open Go.HL.HV renaming undef → Ud
def okA (m:Nat) (t:List Int) (i:Nat):Bool:=decide ((0 ≤ t.getD i 0∧t.getD i 0 < (m:Int))∧(i=0 ∨ t.getD (i - 1) 0 < t.getD i 0))
def ascT (m:Nat) (t:List Int):Bool:=(fN (fun i=>!okA m t i) t.length 0).isNone
def isT (n:Int) (l:List St) (t:List Int):Bool:=ascT l.length t && (decide ((t.length:Int)=n - 1) && decide (((selT l t).length:Int)=n - 1))
def rtree28:List HV → Option HV:=f3 kI kS kL fun n l t=>if (0 ≤ n∧n ≤ 16)∧endN n l=true∧t.length ≤ 500∧l.length ≤ 500 then some (.bool (isT n l t)) else none
theorem res28:Try.f28.results.toList=[.tmp 6]:=by kernel_rfl
def prRt:FuncId → Option (List HV → Option HV):=fun g=>if g == 50 then some taken50 else none
theorem soundRt (n:Nat):CallSound Tp (callN Tp (plF prRt) n):=sound_prim _ (fun g f h=>by
  unfold prRt at h
  split at h
  · rename_i hg; cases h; rw [eq_of_beq hg]; exact taken_ok
  · cases h) n
theorem ascT_in {m:Nat} {t:List Int} (h:ascT m t=true):inR m t=true:=by
  refine inR_iff.2 fun k hk=>?_
  obtain ⟨j,hj,rfl⟩:=List.getElem_of_mem hk
  have hn:fN (fun i=>!okA m t i) t.length 0=none:=by
    unfold ascT at h
    cases hf:fN (fun i=>!okA m t i) t.length 0 with
    | none=>rfl
    | some _=>rw [hf] at h; cases h
  have:=fN_none hn j (Nat.zero_le _) (by omega)
  simp only [Bool.not_eq_false'] at this
  have h2:=(of_decide_eq_true this).1
  rwa [getD_at hj] at h2
theorem rtree_ok:PrimOk Tp 28 rtree28:=by
  refine primOk_pure (pol:=plF prRt) (fn:=Try.f28) (cd:=B28) follows_mixed soundRt (by kernel_rfl) (by kernel_rfl) (fnok prRt _ _ (by kernel_rfl)) (by kernel_rfl) ?_
  intro args res h
  obtain ⟨n,l,t,rfl,hq⟩:=f3_inv h
  split at hq
  case isFalse=>cases hq
  rename_i hc
  obtain ⟨⟨n0,n1⟩,he,htl,hll⟩:=hc
  cases hq
  have a:=xt_a_0 (F:=prRt) n (l.map encT) (t.map encI)
  have b:=xt_b_0 (F:=prRt) n (l.map encT) (t.map encI) [] (y7:=Ud) (y8:=Ud)
  have lm:((t.map encI).length:Int)=(t.length:Int):=by rw [List.length_map]
  have ll:((l.map encT).length:Int)=(l.length:Int):=by rw [List.length_map]
  have pass:∀ i,i < t.length → okA l.length t i=true → RunsTo Tp (plF prRt) 28 (sub [1,0,1,0,0] B28) ((env28 (.int .i64 n) (.imm .arg 3 (l.map encT)) (.imm .arg 1 (t.map encI)) (.bool false) (.int .i64 ((i:Nat):Int)) Ud)) [] .normal ((plF prRt).keys 28) ((env28 (.int .i64 n) (.imm .arg 3 (l.map encT)) (.imm .arg 1 (t.map encI)) (.bool false) (.int .i64 ((i+1:Nat):Int)) Ud)) []:=fun i hi ho=>by
    obtain ⟨⟨h1,h2⟩,h3⟩:=of_decide_eq_true ho
    by_cases hz:i=0
    · have s:=xt_l_4 (F:=prRt) n (l.map encT) (t.map encI) [] i (t.getD i 0) 0 (y8:=Ud) (by omega) (gx hi) (by omega) (gx hi) (by omega) (by omega)
      rw [wrap_succ (by omega)] at s
      exact s
    · have h3:=h3.resolve_left hz
      have g:=gx (l:=t) (y:=i - 1) (by omega)
      rw [← wrap_pred (j:=i) (by omega) (by omega)] at g
      have s:=xt_l_3 (F:=prRt) n (l.map encT) (t.map encI) [] i (t.getD i 0) (t.getD (i - 1) 0) (y8:=Ud) (by omega) (gx hi) (by omega) (gx hi) (by omega) (by omega) g (gx hi) (by omega)
      rw [wrap_succ (by omega)] at s
      exact s
  cases hf:fN (fun i=>!okA l.length t i) t.length 0 with
  | some m =>
    obtain ⟨_,h1,h2,h3⟩:=fN_some hf
    have hm:m < t.length:=by omega
    have hA:ascT l.length t=false:=by rw [ascT,hf]; rfl
    have ho:¬ ((0 ≤ t.getD m 0∧t.getD m 0 < (l.length:Int))∧(m=0 ∨ t.getD (m - 1) 0 < t.getD m 0)):=by
      have:okA l.length t m=false:=by simpa using h2
      exact of_decide_eq_false this
    have out:∃ E',RunsTo Tp (plF prRt) 28 (sub [1,0,1,0,0] B28) ((env28 (.int .i64 n) (.imm .arg 3 (l.map encT)) (.imm .arg 1 (t.map encI)) (.bool false) (.int .i64 ((m:Nat):Int)) Ud)) [] .ret ((plF prRt).keys 28) E' []∧E'.get 6=.bool false:=by
      by_cases k1:t.getD m 0 < 0
      · exact ⟨_,xt_l_0 (F:=prRt) n (l.map encT) (t.map encI) [] m (t.getD m 0) 0 (y8:=Ud) (by omega) (gx hm) k1,rfl⟩
      by_cases k2:(l.length:Int) ≤ t.getD m 0
      · exact ⟨_,xt_l_1 (F:=prRt) n (l.map encT) (t.map encI) [] m (t.getD m 0) 0 (y8:=Ud) (by omega) (gx hm) k1 (gx hm) (by omega),rfl⟩
      have hm0:m ≠ 0:=fun c=>ho ⟨by omega,.inl c⟩
      have hm1:¬ t.getD (m - 1) 0 < t.getD m 0:=fun c=>ho ⟨by omega,.inr c⟩
      have g:=gx (l:=t) (y:=m - 1) (by omega)
      rw [← wrap_pred (j:=m) (by omega) (by omega)] at g
      exact ⟨_,xt_l_2 (F:=prRt) n (l.map encT) (t.map encI) [] m (t.getD m 0) (t.getD (m - 1) 0) (y8:=Ud) (by omega) (gx hm) k1 (gx hm) (by omega) (by omega) g (gx hm) (by omega),rfl⟩
    obtain ⟨E',o1,o2⟩:=out
    have r:=count (pol':=plF prRt) (f:=28) (E:=fun i=>(env28 (.int .i64 n) (.imm .arg 3 (l.map encT)) (.imm .arg 1 (t.map encI)) (.bool false) (.int .i64 ((i:Nat):Int)) Ud)) (Hs:=fun _=>[]) m (fun i hi=>pass i (by omega) (by have:=h3 i (Nat.zero_le _) hi; simpa using this)) (fun i _=>by kernel_rfl) (fun i _=>gc_eq _ rfl) o1 (by simp) (c:=sub [1,0,1,0] B28) (by kernel_rfl) (fun i _=>by kernel_rfl)
    refine ⟨_,_,_,.bool false,sq (a) (sqo (sq (b) (RunsTo.block_ret (i:=0) (c:=sub [1,0,1] B28) (r) (by kernel_rfl)) (c:=sub [1,0] B28)) (c:=sub [1] B28) (b:=sub [1,1] B28)) (c:=B28),by simp,by simp only [resultsV,res28,mapO,resultV,o2],?_⟩
    rw [isT,hA]; rfl
  | none =>
    have h3:=fN_none hf
    have hA:ascT l.length t=true:=by rw [ascT,hf]; rfl
    have hin:=ascT_in hA
    have r:=count (pol':=plF prRt) (f:=28) (E:=fun i=>(env28 (.int .i64 n) (.imm .arg 3 (l.map encT)) (.imm .arg 1 (t.map encI)) (.bool false) (.int .i64 ((i:Nat):Int)) Ud)) (Hs:=fun _=>[]) t.length (fun i hi=>pass i hi (by have:=h3 i (Nat.zero_le _) (by omega); simpa using this)) (fun i _=>by kernel_rfl) (fun i _=>gc_eq _ rfl) (xt_l_5 (F:=prRt) n (l.map encT) (t.map encI) [] t.length 0 0 (y8:=Ud) (by omega)) (by simp) (c:=sub [1,0,1,0] B28) (by kernel_rfl) (fun i _=>by kernel_rfl)
    have c50:=at3 (pol':=plF prRt) (g:=50) (c1:=kI) (c2:=kS) (c3:=kL) (f:=fun n l t=>if (0 ≤ n∧n ≤ 16)∧endN n l=true∧inR l.length t=true∧t.length ≤ 500∧l.length ≤ 500 then some (.tuple [.own 1 ((selT l t).map encI),.own 1 ((grpT n.toNat l t).map encI)]) else none) (H:=[]) (by kernel_rfl) (ShI _ n) (ShS_imm _ l) (ShL_imm _ t) (if_pos ⟨⟨n0,n1⟩,he,hin,htl,hll⟩)
    rw [recv_ll] at c50
    have d:=xt_d_0 (F:=prRt) n (l.map encT) (t.map encI) [] 0 (selT l t).length _ _ (y7:=.int .i64 (t.length:Int)) (y8:=Ud) c50
    have hw:IntKind.i64.wrap (n - 1)=n - 1:=wrap_id (by omega) (by omega)
    rw [isT,hA,Bool.true_and]
    by_cases k1:(t.length:Int)=n - 1
    · by_cases k2:((selT l t).length:Int)=n - 1
      · have z:=xt_z_0 (F:=prRt) n (l.map encT) (t.map encI) ([] ++ [bI (selT l t)] ++ [bI (grpT n.toNat l t)]) 0 (selT l t).length (y7:=.int .i64 (t.length:Int)) (by rw [hw]; omega) (by rw [hw]; exact k2)
        rw [decide_eq_true k1,decide_eq_true k2]
        exact ⟨_,_,_,.bool true,sq (a) (sq (sq (b) (bke (c:=sub [1,0,1] B28) (r)) (c:=sub [1,0] B28)) (sq (d) (z) (c:=sub [1,1] B28)) (c:=sub [1] B28)) (c:=B28),by simp,by simp only [resultsV,res28]; rfl,rfl⟩
      · have z:=xt_z_1 (F:=prRt) n (l.map encT) (t.map encI) ([] ++ [bI (selT l t)] ++ [bI (grpT n.toNat l t)]) 0 (selT l t).length (y7:=.int .i64 (t.length:Int)) (by rw [hw]; omega) (by rw [hw]; exact k2)
        rw [decide_eq_true k1,decide_eq_false k2]
        exact ⟨_,_,_,.bool false,sq (a) (sq (sq (b) (bke (c:=sub [1,0,1] B28) (r)) (c:=sub [1,0] B28)) (sq (d) (z) (c:=sub [1,1] B28)) (c:=sub [1] B28)) (c:=B28),by simp,by simp only [resultsV,res28]; rfl,rfl⟩
    · have z:=xt_z_2 (F:=prRt) n (l.map encT) (t.map encI) ([] ++ [bI (selT l t)] ++ [bI (grpT n.toNat l t)]) 0 (selT l t).length (y7:=.int .i64 (t.length:Int)) (by rw [hw]; omega)
      rw [decide_eq_false k1]
      exact ⟨_,_,_,.bool false,sq (a) (sq (sq (b) (bke (c:=sub [1,0,1] B28) (r)) (c:=sub [1,0] B28)) (sq (d) (z) (c:=sub [1,1] B28)) (c:=sub [1] B28)) (c:=B28),by simp,by simp only [resultsV,res28]; rfl,rfl⟩
def sw1 (p:Int) (s:List Int × Bool) (x:Int):List Int × Bool:=if s.2=false∧p < x then (s.1 ++ [p],true) else s
def swS (o p:Int) (s:List Int × Bool) (x:Int):List Int × Bool:=if x=o then sw1 p s x else ((sw1 p s x).1 ++ [x],(sw1 p s x).2)
def swF (o p:Int) (t:List Int):List Int × Bool:=t.foldl (swS o p) ([],false)
def swT (o p:Int) (t:List Int):List Int:=if (swF o p t).2=true then (swF o p t).1 else (swF o p t).1 ++ [p]
theorem swF_succ (o p:Int) (t:List Int) {i:Nat} (h:i < t.length):swF o p (t.take (i+1))=swS o p (swF o p (t.take i)) (t.getD i 0):=by
  rw [swF,take_snoc h,List.foldl_append]; rfl
theorem swp_len (o p:Int) (t:List Int):∀ i,i ≤ t.length → (swF o p (t.take i)).1.length ≤ 2 * i:=by
  intro i
  induction i with
  | zero=>intro _; simp [swF]
  | succ i ih =>
    intro hi
    have h:=ih (by omega)
    rw [swF_succ o p t (by omega),swS,sw1]
    split <;> split <;> simp <;> omega
def swapped36:List HV → Option HV:=f3 kL kI kI fun t o p=>if t.length ≤ 400 then some (.own 1 ((swT o p t).map encI)) else none
theorem res36:Try.f36.results.toList=[.tmp 6]:=by kernel_rfl
theorem swapped_ok:PrimOk Tp 36 swapped36:=by
  refine primOk_pure (pol:=plF fun _=>none) (fn:=Try.f36) (cd:=B36) follows_mixed (sound_prim (fun _=>none) (fun g f h=>by cases h)) (by kernel_rfl) (by kernel_rfl) (fnok (fun _=>none) _ _ (by kernel_rfl)) (by kernel_rfl) ?_
  intro args res h
  obtain ⟨t,o,p,rfl,hq⟩:=f3_inv h
  split at hq
  case isFalse=>cases hq
  rename_i hl
  cases hq
  have lm:((t.map encI).length:Int)=(t.length:Int):=by rw [List.length_map]
  have a:=xs2_a_0 (F:=fun _=>none) (t.map encI) o p
  have b:=xs2_b_0 (F:=fun _=>none) (t.map encI) o p [] (y7:=Ud) (y8:=Ud) (y9:=Ud) rfl
  have c:=xs2_c_0 (F:=fun _=>none) (t.map encI) o p [bI []] 0 0 (y8:=Ud) (y9:=Ud)
  have d:=xs2_d_0 (F:=fun _=>none) (t.map encI) o p [bI []] 0 0 (y9:=Ud)
  have r:=count (pol':=plF fun _=>none) (f:=36) (E:=fun i=>(env36 (.imm .arg 1 (t.map encI)) (.int .i64 o) (.int .i64 p) (.imm .lit 1 []) (.sl 0 0 (swF o p (t.take i)).1.length none (swF o p (t.take i)).1.length 1) (.bool (swF o p (t.take i)).2) (.int .i64 ((i:Nat):Int)))) (Hs:=fun i=>[bI (swF o p (t.take i)).1]) t.length (E0:=fun i=>(env36 (.imm .arg 1 (t.map encI)) (.int .i64 o) (.int .i64 p) (.imm .lit 1 []) (.sl 0 0 (swF o p (t.take (i+1))).1.length none (swF o p (t.take (i+1))).1.length 1) (.bool (swF o p (t.take (i+1))).2) (.int .i64 ((i+1:Nat):Int)))) (H1:=fun i=>[bI (swF o p (t.take (i+1))).1]) (x:=.exit 0)
    (E':=(env36 (.imm .arg 1 (t.map encI)) (.int .i64 o) (.int .i64 p) (.imm .lit 1 []) (.sl 0 0 (swF o p (t.take t.length)).1.length none (swF o p (t.take t.length)).1.length 1) (.bool (swF o p (t.take t.length)).2) (.int .i64 ((t.length:Nat):Int)))) (H':=[bI (swF o p (t.take t.length)).1])
    (fun i hi=>by
      have hs:=swF_succ o p t hi
      have hn:=swp_len o p t i (by omega)
      have g:=gx (l:=t) hi
      have app:∀ (A:List Int) (x:Int),A.length ≤ 990 → appV [bI A] 1 8 (.sl 0 0 A.length none A.length 1) [.int .i64 x]=some (.sl 0 0 (A.length+1) none (A.length+1) 1,[bI (A ++ [x])]):=fun A x hA=>app_in1 (H:=[bI A]) (b:=0) rfl hA x
      generalize t.getD i 0=x at *
      generalize hF:swF o p (t.take i)=s at *
      obtain ⟨A,D⟩:=s
      rw [hs]
      have hA:A.length ≤ 900:=by have:A.length ≤ 2 * i:=hn; omega
      have w:=wrap_succ (j:=i) (by omega)
      cases D with
      | true =>
        have e1:sw1 p (A,true) x=(A,true):=if_neg (fun h=>by cases h.1)
        by_cases c1:x=o
        · have e2:swS o p (A,true) x=(A,true):=by rw [swS,if_pos c1,e1]
          have s:=xs2_lt_0 (F:=fun _=>none) (t.map encI) o p [bI A] 0 A.length i x (by omega) g c1
          rw [w] at s; rw [e2]; exact s
        · have e2:swS o p (A,true) x=(A ++ [x],true):=by rw [swS,if_neg c1,e1]
          have s:=xs2_lt_1 (F:=fun _=>none) (t.map encI) o p [bI A] 0 A.length i x (by omega) g c1 g (app A x (by omega))
          rw [w] at s; rw [e2]; simp only [List.length_append,List.length_singleton]; exact s
      | false =>
        by_cases c0:p < x
        · have e1:sw1 p (A,false) x=(A ++ [p],true):=if_pos ⟨rfl,c0⟩
          by_cases c1:x=o
          · have e2:swS o p (A,false) x=(A ++ [p],true):=by rw [swS,if_pos c1,e1]
            have s:=xs2_lf_0 (F:=fun _=>none) (t.map encI) o p [bI A] 0 A.length i x (by omega) g c0 (app A p (by omega)) g c1
            rw [w] at s; rw [e2]; simp only [List.length_append,List.length_singleton]; exact s
          · have e2:swS o p (A,false) x=(A ++ [p] ++ [x],true):=by rw [swS,if_neg c1,e1]
            have ap2:=app (A ++ [p]) x (by rw [List.length_append,List.length_singleton]; omega)
            rw [List.length_append,List.length_singleton] at ap2
            have s:=xs2_lf_1 (F:=fun _=>none) (t.map encI) o p [bI A] 0 A.length i x (by omega) g c0 (app A p (by omega)) g c1 g ap2
            rw [w] at s; rw [e2]; simp only [List.length_append,List.length_singleton]; exact s
        · have e1:sw1 p (A,false) x=(A,false):=if_neg (fun h=>c0 h.2)
          by_cases c1:x=o
          · have e2:swS o p (A,false) x=(A,false):=by rw [swS,if_pos c1,e1]
            have s:=xs2_lf_2 (F:=fun _=>none) (t.map encI) o p [bI A] 0 A.length i x (by omega) g c0 g c1
            rw [w] at s; rw [e2]; exact s
          · have e2:swS o p (A,false) x=(A ++ [x],false):=by rw [swS,if_neg c1,e1]
            have s:=xs2_lf_3 (F:=fun _=>none) (t.map encI) o p [bI A] 0 A.length i x (by omega) g c0 g c1 g (app A x (by omega))
            rw [w] at s; rw [e2]; simp only [List.length_append,List.length_singleton]; exact s) (fun i _=>by kernel_rfl) (fun i _=>gc_eq _ rfl)
    (by
      generalize swF o p (t.take t.length)=s
      obtain ⟨A,D⟩:=s
      cases D with
      | true=>exact xs2_lt_2 (F:=fun _=>none) (t.map encI) o p [bI A] 0 A.length t.length 0 (by omega)
      | false=>exact xs2_lf_4 (F:=fun _=>none) (t.map encI) o p [bI A] 0 A.length t.length 0 (by omega)) (by simp) (c:=sub [1,1,1,0,1,0] B36) (by kernel_rfl) (fun i _=>by kernel_rfl)
  have hn:=swp_len o p t t.length (Nat.le_refl _)
  rw [List.take_length] at r hn
  rw [swT]
  generalize swF o p t=s at *
  obtain ⟨A,D⟩:=s
  have hA:A.length ≤ 900:=by have:A.length ≤ 2 * t.length:=hn; omega
  cases D with
  | true =>
    have z:=xs2_zt_0 (F:=fun _=>none) (t.map encI) o p [bI A] 0 A.length (y9:=.int .i64 (t.length:Int))
    refine ⟨_,_,_,.sl 0 0 A.length none A.length 1,sq (a) (sq (b) (sq (c) (sq (sq (d) (bke (c:=sub [1,1,1,0,1] B36) (r)) (c:=sub [1,1,1,0] B36)) (z) (c:=sub [1,1,1] B36)) (c:=sub [1,1] B36)) (c:=sub [1] B36)) (c:=B36),by simp,by simp only [resultsV,res36]; rfl,?_⟩
    exact res_li (b:=0) rfl rfl
  | false =>
    have z:=xs2_zf_0 (F:=fun _=>none) (t.map encI) o p [bI A] 0 A.length (y9:=.int .i64 (t.length:Int)) (app_in1 (H:=[bI A]) (b:=0) rfl (by omega) p)
    refine ⟨_,_,_,.sl 0 0 (A.length+1) none (A.length+1) 1,sq (a) (sq (b) (sq (c) (sq (sq (d) (bke (c:=sub [1,1,1,0,1] B36) (r)) (c:=sub [1,1,1,0] B36)) (z) (c:=sub [1,1,1] B36)) (c:=sub [1,1] B36)) (c:=sub [1] B36)) (c:=B36),by simp,by simp only [resultsV,res36]; rfl,?_⟩
    exact res_li (b:=0) (o:=A ++ [p]) rfl (by simp)
end Go.Proofs.Ytiejmoglooaalaa
end
section
open Go Go.HL
namespace Go.Proofs.Ytiejmoglooaalaa
set_option linter.unusedSectionVars false
theorem tk_snoc (l:List St) (t:List Int) (k:Int):tkT l (t ++ [k])=if (labT l t).getD (sA l k).toNat 0 ≠ (labT l t).getD (sB l k).toNat 0 then tkT l t ++ [k] else tkT l t:=by
  have a:=tkT_succ l (t ++ [k]) (i:=t.length) (by simp)
  have g0:(t ++ [k]).getD t.length 0=k:=by simp [List.getD]
  rw [List.take_of_length_le (by simp),g0,List.take_left] at a
  exact a
theorem tk_le (l:List St) (t:List Int):(tkT l t).length ≤ t.length:=ksT_len l t
theorem mem_wo {t:List Int} {v x:Int}:x ∈ wo t v ↔ x ∈ t∧x ≠ v:=by simp [wo,List.mem_filter]
theorem wo_len {t:List Int} (hn:t.Nodup) {k:Int} (hk:k ∈ t):t.length=(wo t k).length+1:=by
  have:=filter_drop1 (p:=fun _=>true) (q:=fun x=>decide (x ≠ k)) hn hk rfl (fun y _ hy=>decide_eq_true hy) (by simp)
  rw [List.filter_eq_self.2 fun _ _=>rfl] at this
  exact this
section
variable {l:List St} (he:endB l=true) {t:List Int} (ht:∀ k ∈ t,0 ≤ k∧k < (l.length:Int)) (hn:t.Nodup) (hf:(tkT l t).length=t.length)
include he ht hn hf
theorem forest_sep {k:Int} (hk:k ∈ t):(tkT l (wo t k)).length+1=t.length∧joinsT l t k k:=by
  have hm:∀ x,x ∈ t ↔ x ∈ wo t k ++ [k]:=fun x=>by
    rw [List.mem_append,mem_wo,List.mem_singleton]
    by_cases c:x=k
    · subst c; simp [hk]
    · simp [c]
  have h1:=tk_len_same he ht hm
  rw [hf,tk_snoc] at h1
  have h2:=wo_len hn hk
  have h3:=tk_le l (wo t k)
  split at h1
  · rename_i c
    rw [List.length_append,List.length_singleton] at h1
    exact ⟨h1.symm,c⟩
  · omega
theorem exch_len {k j:Int} (hk:k ∈ t) (hj:0 ≤ j∧j < (l.length:Int)) {s:List Int} (hs:∀ x,x ∈ s ↔ x ∈ wo t k ++ [j]):(tkT l s).length=t.length ↔ joinsT l t k j:=by
  have hin:∀ x ∈ wo t k ++ [j],0 ≤ x∧x < (l.length:Int):=fun x hx=>by
    rcases List.mem_append.1 hx with h | h
    · exact ht x (mem_wo.1 h).1
    · rw [List.mem_singleton.1 h]; exact hj
  have h1:=tk_len_same he (t:=s) (t':=wo t k ++ [j]) (fun x hx=>hin x ((hs x).1 hx)) hs
  have h2:=(forest_sep he ht hn hf hk).1
  rw [h1,tk_snoc]
  split
  · rename_i c
    rw [List.length_append,List.length_singleton]
    exact ⟨fun _=>c,fun _=>by omega⟩
  · rename_i c
    exact ⟨fun h=>by omega,fun h=>absurd h c⟩
end
theorem sw_inv {t:List Int} {o p:Int} (ha:t.Pairwise (· < ·)) (hp:p ∉ t):∀ i,i ≤ t.length →
    swF o p (t.take i)=(wo ((t.take i).filter fun x=>decide (x < p)) o ++ (if (t.take i).any (fun x=>decide (p < x))=true then p :: wo ((t.take i).filter fun x=>decide (p < x)) o else []),(t.take i).any fun x=>decide (p < x)):=by
  intro i
  induction i with
  | zero=>intro _; rfl
  | succ i ih =>
    intro hi
    have ih:=ih (by omega)
    have hlt:∀ y ∈ t.take i,y < t.getD i 0:=fun y hy=>by
      have h2:(t.take (i+1)).Pairwise (· < ·):=ha.sublist (List.take_sublist _ _)
      rw [take_snoc (by omega)] at h2
      exact (List.pairwise_append.1 h2).2.2 y hy _ (List.mem_singleton_self _)
    have hne:t.getD i 0 ≠ p:=fun c=>hp (c ▸ mem_getD 0 (show i < t.length by omega))
    rw [swF_succ o p t (by omega),ih,take_snoc (by omega)]
    generalize t.take i=s at *
    generalize t.getD i 0=x at *
    have wo1:∀ A:List Int,wo (A ++ [x]) o=wo A o ++ (if x=o then [] else [x]):=fun A=>by
      rw [wo,List.filter_append,wo]
      by_cases c:x=o
      · rw [if_pos c,List.filter_cons_of_neg (by simp [c])]; rfl
      · rw [if_neg c,List.filter_cons_of_pos (by simp [c])]; rfl
    rw [List.filter_append,List.filter_append,List.any_append]
    by_cases cx:p < x
    · have f1:([x].filter fun x=>decide (x < p))=[]:=by rw [List.filter_cons_of_neg (by simp; omega)]; rfl
      have f2:([x].filter fun x=>decide (p < x))=[x]:=by rw [List.filter_cons_of_pos (by simpa using cx)]; rfl
      have f3:([x].any fun x=>decide (p < x))=true:=by simp [cx]
      rw [f1,f2,f3,List.append_nil,Bool.or_true,wo1]
      by_cases cd:(s.any fun x=>decide (p < x))=true
      · rw [cd]
        by_cases co:x=o
        · simp [swS,sw1,co]
        · simp [swS,sw1,co]
      · rw [nb_false cd]
        have e:(s.filter fun x=>decide (p < x))=[]:=List.filter_eq_nil_iff.2 fun y hy hc=>cd (List.any_eq_true.2 ⟨y,hy,hc⟩)
        rw [e]
        by_cases co:x=o
        · subst co; simp [swS,sw1,cx,wo]
        · simp [swS,sw1,co,cx,wo]
    · have f1:([x].filter fun x=>decide (x < p))=[x]:=by rw [List.filter_cons_of_pos (by simp; omega)]; rfl
      have f2:([x].filter fun x=>decide (p < x))=[]:=by rw [List.filter_cons_of_neg (by simpa using cx)]; rfl
      have f3:([x].any fun x=>decide (p < x))=false:=by simp [cx]
      have cd:(s.any fun x=>decide (p < x))=false:=by
        cases c:(s.any fun x=>decide (p < x)) with
        | false=>rfl
        | true =>
          obtain ⟨y,hy,hc⟩:=List.any_eq_true.1 c
          have:=hlt y hy
          have:=of_decide_eq_true hc
          omega
      rw [f1,f2,f3,List.append_nil,Bool.or_false,wo1,cd]
      by_cases co:x=o
      · simp [swS,sw1,co]; omega
      · simp [swS,sw1,co,cx]
theorem swT_eq {t:List Int} {o p:Int} (ha:t.Pairwise (· < ·)) (hp:p ∉ t):swT o p t=wo (t.filter fun x=>decide (x < p)) o ++ p :: wo (t.filter fun x=>decide (p < x)) o:=by
  have h:=sw_inv (o:=o) ha hp t.length (Nat.le_refl _)
  rw [List.take_length] at h
  rw [swT,h]
  by_cases c:(t.any fun x=>decide (p < x))=true
  · simp only [c,if_true]
  · have e:(t.filter fun x=>decide (p < x))=[]:=List.filter_eq_nil_iff.2 fun y hy hc=>c (List.any_eq_true.2 ⟨y,hy,hc⟩)
    simp [nb_false c,e,wo]
theorem swT_mem {t:List Int} {o p:Int} (ha:t.Pairwise (· < ·)) (hp:p ∉ t) (x:Int):x ∈ swT o p t ↔ x ∈ wo t o ++ [p]:=by
  rw [swT_eq ha hp]
  simp only [List.mem_append,List.mem_cons,mem_wo,List.mem_filter,decide_eq_true_eq,List.mem_singleton,List.not_mem_nil,or_false]
  have:x ∈ t → x ≠ p:=fun h c=>hp (c ▸ h)
  by_cases c:x=p
  · subst c; simp
  · constructor
    · rintro (⟨⟨h1,_⟩,h2⟩ | h | ⟨⟨h1,_⟩,h2⟩)
      · exact .inl ⟨h1,h2⟩
      · exact .inr h
      · exact .inl ⟨h1,h2⟩
    · rintro (⟨h1,h2⟩ | h)
      · rcases Int.lt_or_gt_of_ne c with h3 | h3
        · exact .inl ⟨⟨h1,h3⟩,h2⟩
        · exact .inr (.inr ⟨⟨h1,h3⟩,h2⟩)
      · exact .inr (.inl h)
theorem swT_asc {t:List Int} {o p:Int} (ha:t.Pairwise (· < ·)) (hp:p ∉ t):(swT o p t).Pairwise (· < ·):=by
  rw [swT_eq ha hp]
  have h1:∀ q:Int → Bool,(wo (t.filter q) o).Pairwise (· < ·):=fun q=>(ha.sublist List.filter_sublist).sublist List.filter_sublist
  refine List.pairwise_append.2 ⟨h1 _,List.pairwise_cons.2 ⟨fun y hy=>?_,h1 _⟩,fun x hx y hy=>?_⟩
  · exact of_decide_eq_true (List.mem_filter.1 (mem_wo.1 hy).1).2
  · have hxp:x < p:=of_decide_eq_true (List.mem_filter.1 (mem_wo.1 hx).1).2
    rcases List.mem_cons.1 hy with h | h
    · omega
    · have:p < y:=of_decide_eq_true (List.mem_filter.1 (mem_wo.1 h).1).2
      omega
end Go.Proofs.Ytiejmoglooaalaa
end
section
open Go Go.HL
namespace Go.Proofs.Ytiejmoglooaalaa
set_option linter.unusedSectionVars false
theorem tree_nodup' (l:List St):(treeT l).Nodup:=by
  have:=tk_sublist l (ordT l) (ordT l).length (Nat.le_refl _)
  rw [List.take_length] at this
  exact this.nodup (ordT_nodup l)
theorem getD_notin' {l:List Int} (h:l.Nodup) {i:Nat} (hi:i < l.length):l.getD i 0 ∉ l.take i:=by
  intro c
  have h2:(l.take (i+1)).Nodup:=(List.take_sublist _ _).nodup h
  rw [take_snoc hi] at h2
  exact (List.nodup_append.1 h2).2.2 _ c _ (List.mem_singleton_self _) rfl
theorem tk_mono (l:List St) (t:List Int) {i:Nat}:∀ d,i+d ≤ t.length → ∀ x ∈ tkT l (t.take i),x ∈ tkT l (t.take (i+d)):=by
  intro d
  induction d with
  | zero=>intro _ x hx; exact hx
  | succ d ih =>
    intro h x hx
    have:=ih (by omega) x hx
    rw [show i+(d+1)=(i+d)+1 by omega,tkT_succ l t (by omega)]
    split
    · exact List.mem_append_left _ this
    · exact this
theorem tk_mono_all (l:List St) (t:List Int) {i:Nat} (hi:i ≤ t.length):∀ x ∈ tkT l (t.take i),x ∈ tkT l t:=fun x hx=>by
  have:=tk_mono l t (i:=i) (t.length - i) (by omega) x hx
  rwa [show i+(t.length - i)=t.length by omega,List.take_length] at this
theorem nodup_len:∀ {a b:List Int},a.Nodup → b.Nodup → (∀ x,x ∈ a ↔ x ∈ b) → a.length=b.length
  | [],b,_,_,h=>by
    have:b=[]:=List.eq_nil_iff_forall_not_mem.2 fun x hx=>by cases (h x).2 hx
    rw [this]
  | x :: a,b,ha,hb,h=>by
    obtain ⟨h1,h2⟩:=List.nodup_cons.1 ha
    have hx:x ∈ b:=(h x).1 (List.mem_cons_self ..)
    rw [wo_len hb hx,List.length_cons]
    refine congrArg (·+1) (nodup_len h2 (hb.sublist List.filter_sublist) fun y=>?_)
    rw [mem_wo]
    constructor
    · intro hy
      exact ⟨(h y).1 (List.mem_cons_of_mem _ hy),fun c=>h1 (c ▸ hy)⟩
    · intro ⟨hy,hne⟩
      exact (List.mem_cons.1 ((h y).2 hy)).resolve_left hne
theorem startT_asc (m:Nat):(startT m).Pairwise (· < ·):=List.pairwise_map.2 (List.Pairwise.imp (fun {a b} h=>by omega) (List.pairwise_lt_range (n:=m)))
theorem frT_asc (l:List St):(frT l).Pairwise (· < ·):=(startT_asc _).sublist List.filter_sublist
theorem asc_nodup {t:List Int} (h:t.Pairwise (· < ·)):t.Nodup:=List.Pairwise.imp (fun {a b} h c=>by omega) h
theorem ascT_of {m:Nat} {t:List Int} (ha:t.Pairwise (· < ·)) (ht:∀ k ∈ t,0 ≤ k∧k < (m:Int)):ascT m t=true:=by
  rw [ascT]
  cases hf:fN (fun i=>!okA m t i) t.length 0 with
  | none=>rfl
  | some i =>
    exfalso
    obtain ⟨_,h2,h3,_⟩:=fN_some hf
    have:okA m t i=false:=by simpa using h3
    refine of_decide_eq_false this ⟨ht _ (mem_getD 0 (by omega)),?_⟩
    rcases Nat.eq_zero_or_pos i with c | c
    · exact .inl c
    · right
      have:=List.pairwise_iff_getElem.1 ha (i - 1) i (by omega) (by omega) (by omega)
      rw [getD_at (by omega),getD_at (by omega)]
      exact this
section
variable {n:Int} {l:List St} (hnet:netB n l=true) (hc:connB n l=true)
include hnet
theorem endB_net:endB l=true:=endN_B (netB_ends hnet).2.2.1 (by have:=(netB_ends hnet).1; omega)
theorem late {j:Int} (hj:0 ≤ j∧j < (l.length:Int)) (hjT:j ∉ treeT l) {p:Nat} (hp:p < (ordT l).length) (hpj:(ordT l).getD p 0=j):Cn l (tkT l ((ordT l).take p)) (sA l j) (sB l j):=by
  have he:=endB_net hnet
  have ho:∀ k ∈ ordT l,0 ≤ k∧k < (l.length:Int):=fun k hk=>ordT_mem.1 hk
  obtain ⟨ea,eb⟩:=ends he hj
  have hin:∀ k ∈ tkT l ((ordT l).take p),0 ≤ k∧k < (l.length:Int):=fun k hk=>tree_in (tk_mono_all l (ordT l) (by omega) k hk)
  refine (lb_iff he hin ea eb).1 ?_
  rw [lb,lb,(ks_tk (l:=l) (t:=ordT l) p (by omega)).1]
  by_cases c:(labT l ((ordT l).take p)).getD (sA l j).toNat 0=(labT l ((ordT l).take p)).getD (sB l j).toNat 0
  · exact c
  · exfalso
    refine hjT (tk_mono_all l (ordT l) (i:=p+1) (by omega) j ?_)
    rw [tkT_succ l (ordT l) hp,hpj,if_pos c]
    exact List.mem_append_right _ (List.mem_singleton_self _)
theorem pos_of {j:Int} (hj:0 ≤ j∧j < (l.length:Int)):∃ p,p < (ordT l).length∧(ordT l).getD p 0=j:=by
  obtain ⟨p,hp,he⟩:=List.getElem_of_mem (ordT_mem.2 hj)
  exact ⟨p,hp,by rw [getD_at hp]; exact he⟩
theorem exch_le {k j:Int} (hk:k ∈ treeT l) (hj:0 ≤ j∧j < (l.length:Int)) (hjT:j ∉ treeT l) (hJ:joinsT l (treeT l) k j):wOf l k ≤ wOf l j:=by
  have he:=endB_net hnet
  have hkr:=tree_in hk
  obtain ⟨p,hp,hpj⟩:=pos_of hnet hj
  obtain ⟨q,hq,hqk⟩:=pos_of hnet hkr
  have hs:=ordN_sorted l l.length
  have hs:(ordT l).Pairwise (ltK l):=hs
  have hne:p ≠ q:=fun c=>hjT (by rw [← hpj,c,hqk]; exact hk)
  rcases Nat.lt_or_gt_of_ne hne with c | c
  · exfalso
    have h1:=late hnet hj hjT hp hpj
    have hwin:∀ x ∈ wo (treeT l) k,0 ≤ x∧x < (l.length:Int):=fun x hx=>tree_in (mem_wo.1 hx).1
    refine hJ (cn_lb he hwin (h1.mono fun x hx=>mem_wo.2 ⟨tk_mono_all l (ordT l) (by omega) x hx,fun e=>?_⟩))
    have h2:x ∈ (ordT l).take p:=(by have:=tk_sublist l (ordT l) p (by omega); exact this.subset hx)
    obtain ⟨r,hr,hre⟩:=List.getElem_of_mem h2
    rw [List.length_take] at hr
    rw [List.getElem_take,e,← hqk,getD_at hq] at hre
    have:=(ordT_nodup l)
    have h3:=List.pairwise_iff_getElem.1 this r q (by omega) hq (by omega)
    exact h3 hre
  · have:=List.pairwise_iff_getElem.1 hs q p (by omega) (by omega) c
    rw [← getD_at (d:=0) hq,← getD_at (d:=0) hp,hqk,hpj] at this
    unfold ltK at this
    omega
end
section
variable {n:Int} {l:List St} (hnet:netB n l=true) (hc:connB n l=true)
include hnet
include hc
theorem tree_len:((treeT l).length:Int)=n - 1:=of_decide_eq_true hc
theorem tree_forest:(tkT l (treeT l)).length=(treeT l).length:=by rw [(lab_tree l).2]
end
end Go.Proofs.Ytiejmoglooaalaa
end
section
open Go Go.HL
namespace Go.Proofs.Ytiejmoglooaalaa
set_option linter.unusedSectionVars false
theorem tk_app_le (l:List St) (s:List Int):∀ r:List Int,(tkT l (s ++ r)).length ≤ (tkT l s).length+r.length:=by
  have key:∀ (m:Nat) (r:List Int),r.length=m → (tkT l (s ++ r)).length ≤ (tkT l s).length+m:=by
    intro m
    induction m with
    | zero=>intro r h; rw [List.length_eq_zero_iff.1 h,List.append_nil]; omega
    | succ m ih =>
      intro r h
      rcases List.eq_nil_or_concat r with e | ⟨r',x,e⟩
      · rw [e] at h; simp at h
      · subst e
        rw [List.concat_eq_append] at h ⊢
        rw [List.length_append,List.length_singleton] at h
        have:=ih r' (by omega)
        rw [← List.append_assoc,tk_snoc]
        split
        · rw [List.length_append,List.length_singleton]; omega
        · omega
  exact fun r=>key r.length r rfl
def loW (l:List St) (x:Int) (t:List Int):List Int:=t.filter fun k=>decide (wOf l k ≤ x)
def hiW (l:List St) (x:Int) (t:List Int):List Int:=t.filter fun k=>!decide (wOf l k ≤ x)
theorem lohi_mem {l:List St} {x:Int} {t:List Int} (y:Int):y ∈ t ↔ y ∈ loW l x t ++ hiW l x t:=by
  rw [List.mem_append,loW,hiW,List.mem_filter,List.mem_filter]
  cases decide (wOf l y ≤ x) <;> simp
theorem lohi_len (l:List St) (x:Int):∀ t:List Int,(loW l x t).length+(hiW l x t).length=t.length
  | []=>rfl
  | y :: t=>by
    have:=lohi_len l x t
    unfold loW hiW at *
    rw [List.filter_cons,List.filter_cons]
    cases decide (wOf l y ≤ x) <;> simp <;> omega
theorem lo_mem {l:List St} {x:Int} {t:List Int} {y:Int}:y ∈ loW l x t ↔ y ∈ t∧wOf l y ≤ x:=by rw [loW,List.mem_filter,decide_eq_true_eq]
section
variable {l:List St} (he:endB l=true)
include he
theorem rt_le {t t':List Int} (ht:∀ k ∈ t,0 ≤ k∧k < (l.length:Int)) (ht':∀ k ∈ t',0 ≤ k∧k < (l.length:Int)) (hs:∀ u v:Int,Cn l t u v → Cn l t' u v):rt (labT l t') ≤ rt (labT l t):=by
  unfold rt
  rw [← List.countP_eq_length_filter,← List.countP_eq_length_filter]
  refine List.countP_mono_left fun v hv h=>?_
  have hv:=List.mem_range.1 hv
  have h:lb l t' (v:Int)=(v:Int):=of_decide_eq_true h
  have hr:0 ≤ (v:Int)∧(v:Int) < 16:=by omega
  refine decide_eq_true (show lb l t (v:Int)=(v:Int) from ?_)
  have h1:=cn_lb he ht' (hs _ _ (lb_cn he ht hr))
  have h2:=lb_lo he ht' (lb_rng he ht hr)
  have h3:=lb_lo he ht hr
  omega
theorem rank_le {t t':List Int} (ht:∀ k ∈ t,0 ≤ k∧k < (l.length:Int)) (ht':∀ k ∈ t',0 ≤ k∧k < (l.length:Int)) (hs:∀ u v:Int,Cn l t u v → Cn l t' u v):(tkT l t).length ≤ (tkT l t').length:=by
  have:=rt_le he ht ht' hs
  have h1:=tk_rank he ht
  have h2:=tk_rank he ht'
  omega
theorem sub_forest {t s r:List Int} (ht:∀ k ∈ t,0 ≤ k∧k < (l.length:Int)) (hf:(tkT l t).length=t.length) (hm:∀ x,x ∈ t ↔ x ∈ s ++ r) (hl:s.length+r.length=t.length):(tkT l s).length=s.length:=by
  have h1:=tk_len_same he ht hm
  have h2:=tk_app_le l s r
  have h3:=tk_le l s
  omega
theorem first_way {t:List Int} (ht:∀ k ∈ t,0 ≤ k∧k < (l.length:Int)) (hn:t.Nodup) (hf:(tkT l t).length=t.length) {j:Int} (hj:0 ≤ j∧j < (l.length:Int)) (hab:sA l j ≠ sB l j) (h2:Cn l t (sA l j) (sB l j)) :
    ∃ m,m < t.length∧joinsT l t (t.getD m 0) j∧Cn l (t.take (m+1)) (sA l j) (sB l j):=by
  obtain ⟨ea,eb⟩:=ends he hj
  have htk:∀ i,∀ x ∈ t.take i,0 ≤ x∧x < (l.length:Int):=fun i x hx=>ht x (List.mem_of_mem_take hx)
  have key:∀ i,i ≤ t.length → lb l (t.take i) (sA l j)=lb l (t.take i) (sB l j) → ∃ m,m < i∧lb l (t.take m) (sA l j) ≠ lb l (t.take m) (sB l j)∧lb l (t.take (m+1)) (sA l j)=lb l (t.take (m+1)) (sB l j):=by
    intro i
    induction i with
    | zero =>
      intro _ h
      exfalso
      have e:∀ v:Int,0 ≤ v∧v < 16 → lb l (t.take 0) v=v:=fun v hv=>by
        show (startT 16).getD v.toNat 0=v
        have:v.toNat < 16:=by omega
        simp [startT,List.getD,this]; omega
      rw [e _ ea,e _ eb] at h
      exact hab h
    | succ i ih =>
      intro hi h
      by_cases c:lb l (t.take i) (sA l j)=lb l (t.take i) (sB l j)
      · obtain ⟨m,h1,h2,h3⟩:=ih (by omega) c
        exact ⟨m,by omega,h2,h3⟩
      · exact ⟨i,by omega,c,h⟩
  obtain ⟨m,hm,hne,heq⟩:=key t.length (Nat.le_refl _) (by rw [List.take_length]; exact cn_lb he ht h2)
  have hk:=mem_getD (l:=t) 0 hm
  refine ⟨m,hm,fun hsame=>?_,(lb_iff he (htk _) ea eb).1 heq⟩
  have hsame:lb l (wo t (t.getD m 0)) (sA l j)=lb l (wo t (t.getD m 0)) (sB l j):=hsame
  have hwin:∀ x ∈ wo t (t.getD m 0),0 ≤ x∧x < (l.length:Int):=fun x hx=>ht x (mem_wo.1 hx).1
  obtain ⟨ka,kb⟩:=ends he (ht _ hk)
  have hmono:∀ x ∈ t.take m,x ∈ wo t (t.getD m 0):=fun x hx=>mem_wo.2 ⟨List.mem_of_mem_take hx,fun c=>getD_notin' hn hm (c ▸ hx)⟩
  have cA:=(lb_cn he (htk m) ka).mono hmono
  have cB:=(lb_cn he (htk m) kb).mono hmono
  have ca:=(lb_cn he (htk m) ea).mono hmono
  have cb:=(lb_cn he (htk m) eb).mono hmono
  have cab:=(lb_iff he hwin ea eb).1 hsame
  rw [lb_succ he ht hm ea,lb_succ he ht hm eb] at heq
  have hK:Cn l (wo t (t.getD m 0)) (sA l (t.getD m 0)) (sB l (t.getD m 0)):=by
    generalize lb l (t.take m) (sA l j)=x at *
    generalize lb l (t.take m) (sB l j)=y at *
    generalize lb l (t.take m) (sA l (t.getD m 0))=A at *
    generalize lb l (t.take m) (sB l (t.getD m 0))=B at *
    have hxy:Cn l (wo t (t.getD m 0)) x y:=.trans ca (.trans cab (.symm cb))
    have hc:(x=A∧y=B) ∨ (x=B∧y=A):=by
      unfold labS at heq
      split at heq <;> split at heq <;> omega
    rcases hc with ⟨e1,e2⟩ | ⟨e1,e2⟩
    · rw [e1,e2] at hxy; exact .trans (.symm cA) (.trans hxy cB)
    · rw [e1,e2] at hxy; exact .trans (.symm cA) (.trans (.symm hxy) cB)
  exact (forest_sep he ht hn hf hk).2 (cn_lb he hwin hK)
end
structure Tr (n:Int) (l:List St) (t:List Int):Prop where
  rg:∀ k ∈ t,0 ≤ k∧k < (l.length:Int)
  nd:t.Nodup
  ln:(t.length:Int)=n - 1
  fo:(tkT l t).length=t.length
theorem cn_out {n:Int} {l:List St} (hE:∀ k,0 ≤ k∧k < (l.length:Int) → sA l k < n∧sB l k < n) {t:List Int} (ht:∀ k ∈ t,0 ≤ k∧k < (l.length:Int)) {u v:Int} (h:Cn l t u v):u=v ∨ (u < n∧v < n):=by
  induction h with
  | refl v=>exact .inl rfl
  | edge h=>exact .inr (hE _ (ht _ h))
  | symm _ ih=>omega
  | trans _ _ h1 h2=>omega
section
variable {n:Int} {l:List St} (hnet:netB n l=true)
include hnet
theorem ends_net {k:Int} (hk:0 ≤ k∧k < (l.length:Int)):(0 ≤ sA l k∧sA l k < n)∧(0 ≤ sB l k∧sB l k < n)∧sA l k ≠ sB l k:=by
  have h:=hnet
  simp only [netB,Bool.and_eq_true,List.all_eq_true,decide_eq_true_eq,stB] at h
  have:=h.1 _ (mem_getD (l:=l) (0,0,0) (show k.toNat < l.length by omega))
  exact ⟨by have:=this.1; exact this,by have:=this.2.1; exact this,this.2.2.1⟩
theorem rt_ge {t:List Int} (ht:∀ k ∈ t,0 ≤ k∧k < (l.length:Int)):17 - n ≤ (rt (labT l t):Int):=by
  have he:=endB_net hnet
  obtain ⟨⟨n1,n2⟩,_⟩:=netB_ends hnet
  have hE:∀ k,0 ≤ k∧k < (l.length:Int) → sA l k < n∧sB l k < n:=fun k hk=>by have:=ends_net hnet hk; omega
  have h1:((List.range 16).filter fun (v:Nat)=>decide (v=0 ∨ n ≤ (v:Int))).length ≤ rt (labT l t):=by
    unfold rt
    rw [← List.countP_eq_length_filter,← List.countP_eq_length_filter]
    refine List.countP_mono_left fun v hv h=>?_
    have hv:=List.mem_range.1 hv
    have h:=of_decide_eq_true h
    have hr:0 ≤ (v:Int)∧(v:Int) < 16:=by omega
    refine decide_eq_true (show lb l t (v:Int)=(v:Int) from ?_)
    have h2:=lb_lo he ht hr
    have h3:=cn_out hE ht (lb_cn he ht hr)
    omega
  have h2:∀ m:Nat,1 ≤ m∧m ≤ 16 → ((List.range 16).filter fun (v:Nat)=>decide (v=0 ∨ (m:Int) ≤ (v:Int))).length=17 - m:=by
    have:∀ m:Fin 17,1 ≤ m.val → ((List.range 16).filter fun (v:Nat)=>decide (v=0 ∨ (m.val:Int) ≤ (v:Int))).length=17 - m.val:=by decide +kernel
    exact fun m hm=>this ⟨m,by omega⟩ hm.1
  have h3:=h2 n.toNat (by omega)
  rw [show ((n.toNat:Nat):Int)=n by omega] at h3
  omega
theorem rank_lt {t:List Int} (ht:∀ k ∈ t,0 ≤ k∧k < (l.length:Int)):((tkT l t).length:Int) ≤ n - 1:=by
  have:=rt_ge hnet ht
  have:=tk_rank (endB_net hnet) ht
  omega
theorem Tr.con {t:List Int} (h:Tr n l t) {j:Int} (hj:0 ≤ j∧j < (l.length:Int)):Cn l t (sA l j) (sB l j):=by
  have he:=endB_net hnet
  obtain ⟨ea,eb⟩:=ends he hj
  refine (lb_iff he h.rg ea eb).1 ?_
  have h1:=tk_snoc l t j
  by_cases c:(labT l t).getD (sA l j).toNat 0=(labT l t).getD (sB l j).toNat 0
  · exact c
  · exfalso
    rw [if_pos c] at h1
    have h2:=rank_lt hnet (t:=t ++ [j]) (fun k hk=>(List.mem_append.1 hk).elim (h.rg k) fun e=>(List.mem_singleton.1 e) ▸ hj)
    rw [h1,List.length_append,List.length_singleton,h.fo] at h2
    have:=h.ln
    omega
def Loc (l:List St) (t:List Int):Prop:=∀ k ∈ t,∀ j,0 ≤ j∧j < (l.length:Int) → j ∉ t → joinsT l t k j → wOf l k ≤ wOf l j
theorem loc_way {t:List Int} (h:Tr n l t) (hL:Loc l t) {j:Int} (hj:0 ≤ j∧j < (l.length:Int)):Cn l (loW l (wOf l j) t) (sA l j) (sB l j):=by
  have he:=endB_net hnet
  by_cases hjt:j ∈ t
  · exact .edge (lo_mem.2 ⟨hjt,Int.le_refl _⟩)
  have hab:=(ends_net hnet hj).2.2
  have hm:=fun y=>lohi_mem (l:=l) (x:=wOf l j) (t:=t) y
  have hlen:=lohi_len l (wOf l j) t
  have hrg:∀ k ∈ loW l (wOf l j) t ++ hiW l (wOf l j) t,0 ≤ k∧k < (l.length:Int):=fun k hk=>h.rg k ((hm k).2 hk)
  have hf:(tkT l (loW l (wOf l j) t ++ hiW l (wOf l j) t)).length=(loW l (wOf l j) t ++ hiW l (wOf l j) t).length:=by
    rw [← tk_len_same he h.rg hm,h.fo,List.length_append,hlen]
  have hn:(loW l (wOf l j) t ++ hiW l (wOf l j) t).Nodup:=by
    refine List.nodup_append.2 ⟨h.nd.sublist List.filter_sublist,h.nd.sublist List.filter_sublist,fun a ha b hb e=>?_⟩
    subst e
    have h1:=(List.mem_filter.1 ha).2
    have h2:=(List.mem_filter.1 hb).2
    rw [h1] at h2
    cases h2
  obtain ⟨m,hm1,hm2,hm3⟩:=first_way he hrg hn hf hj hab ((Tr.con hnet h hj).mono fun k hk=>(hm k).1 hk)
  have hk:=mem_getD (l:=loW l (wOf l j) t ++ hiW l (wOf l j) t) 0 hm1
  have hkt:=(hm _).2 hk
  have hJ:joinsT l t ((loW l (wOf l j) t ++ hiW l (wOf l j) t).getD m 0) j:=by
    have:labT l (wo t ((loW l (wOf l j) t ++ hiW l (wOf l j) t).getD m 0))=labT l (wo (loW l (wOf l j) t ++ hiW l (wOf l j) t) ((loW l (wOf l j) t ++ hiW l (wOf l j) t).getD m 0)):=lab_same he (fun x hx=>h.rg x (mem_wo.1 hx).1) (fun x=>by rw [mem_wo,mem_wo,← hm])
    unfold joinsT
    rw [this]
    exact hm2
  have hw:=hL _ hkt j hj hjt hJ
  have hml:m < (loW l (wOf l j) t).length:=by
    rcases Nat.lt_or_ge m (loW l (wOf l j) t).length with c | c
    · exact c
    · exfalso
      rw [getD_at hm1,List.getElem_append_right c] at hw
      rw [List.length_append] at hm1
      have:((hiW l (wOf l j) t)[m - (loW l (wOf l j) t).length]'(by omega)) ∈ hiW l (wOf l j) t:=List.getElem_mem _
      have:=(List.mem_filter.1 this).2
      simp only [Bool.not_eq_true',decide_eq_false_iff_not] at this
      exact this hw
  refine hm3.mono fun k hk=>?_
  rw [List.take_append_of_le_length (by omega)] at hk
  exact List.mem_of_mem_take hk
theorem lo_rank {t:List Int} (h:Tr n l t) (x:Int):(loW l x t).length ≤ (tkT l (loW l x (startT l.length))).length:=by
  have he:=endB_net hnet
  have h1:=sub_forest he h.rg h.fo (fun y=>lohi_mem (l:=l) (x:=x) y) (lohi_len l x t)
  have h2:=rank_le he (t:=loW l x t) (t':=loW l x (startT l.length)) (fun k hk=>h.rg k (lo_mem.1 hk).1) (fun k hk=>startT_mem.1 (lo_mem.1 hk).1) (fun u v huv=>huv.mono fun k hk=>lo_mem.2 ⟨startT_mem.2 (h.rg k (lo_mem.1 hk).1),(lo_mem.1 hk).2⟩)
  omega
theorem lo_rank_loc {t:List Int} (h:Tr n l t) (hL:Loc l t) (x:Int):(loW l x t).length=(tkT l (loW l x (startT l.length))).length:=by
  have he:=endB_net hnet
  have h1:=sub_forest he h.rg h.fo (fun y=>lohi_mem (l:=l) (x:=x) y) (lohi_len l x t)
  have h2:=rank_le he (t:=loW l x (startT l.length)) (t':=loW l x t) (fun k hk=>startT_mem.1 (lo_mem.1 hk).1) (fun k hk=>h.rg k (lo_mem.1 hk).1) (fun u v huv=>by
    induction huv with
    | refl v=>exact .refl v
    | edge hk =>
      obtain ⟨h3,h4⟩:=lo_mem.1 hk
      refine (loc_way hnet h hL (startT_mem.1 h3)).mono fun y hy=>?_
      obtain ⟨h5,h6⟩:=lo_mem.1 hy
      exact lo_mem.2 ⟨h5,by omega⟩
    | symm _ ih=>exact .symm ih
    | trans _ _ a b=>exact .trans a b)
  have h3:=lo_rank hnet h x
  omega
end
def layS (l:List St) (t:List Int):Nat → Nat
  | 0=>0
  | m+1=>layS l t m+(hiW l (m:Int) t).length
theorem layS_nil (l:List St):∀ m,layS l [] m=0
  | 0=>rfl
  | m+1=>by rw [layS,layS_nil l m]; rfl
theorem layS_cons (l:List St) (k:Int) (t:List Int) (hk:0 ≤ wOf l k):∀ m:Nat,(layS l (k :: t) m:Int)=layS l t m+min (wOf l k) m
  | 0=>by rw [layS,layS]; omega
  | m+1=>by
    have:=layS_cons l k t hk m
    rw [layS,layS,hiW,List.filter_cons]
    by_cases c:wOf l k ≤ (m:Int)
    · rw [decide_eq_true c]
      simp only [Bool.not_true,Bool.false_eq_true,if_false]
      show ((layS l (k :: t) m+(hiW l (m:Int) t).length:Nat):Int)=_
      omega
    · rw [decide_eq_false c]
      simp only [Bool.not_false,if_true,List.length_cons]
      show ((layS l (k :: t) m+((hiW l (m:Int) t).length+1):Nat):Int)=_
      omega
theorem wgt_lay (l:List St) {M:Nat}:∀ t:List Int,(∀ k ∈ t,0 ≤ wOf l k∧wOf l k ≤ (M:Int)) → wgt l t=(layS l t M:Int)
  | [],_=>by rw [layS_nil]; rfl
  | k :: t,h=>by
    have h1:=h k (List.mem_cons_self ..)
    rw [layS_cons l k t h1.1,← wgt_lay l t fun y hy=>h y (List.mem_cons_of_mem _ hy)]
    show (((k :: t).map (wOf l)).sum)=(t.map (wOf l)).sum+_
    rw [List.map_cons,List.sum_cons]
    omega
theorem layS_mono {l:List St} {t s:List Int} (h:∀ m:Nat,(hiW l (m:Int) t).length ≤ (hiW l (m:Int) s).length):∀ m,layS l t m ≤ layS l s m
  | 0=>Nat.le_refl _
  | m+1=>Nat.add_le_add (layS_mono h m) (h m)
section
variable {n:Int} {l:List St} (hnet:netB n l=true)
include hnet
theorem w_rng {k:Int} (hk:0 ≤ k∧k < (l.length:Int)):0 ≤ wOf l k∧wOf l k ≤ 1000:=(netB_ends hnet).2.2.2 _ (mem_getD _ (by omega))
theorem loc_min {t s:List Int} (ht:Tr n l t) (hL:Loc l t) (hs:Tr n l s):wgt l t ≤ wgt l s:=by
  rw [wgt_lay l (M:=1000) t fun k hk=>w_rng hnet (ht.rg k hk),wgt_lay l (M:=1000) s fun k hk=>w_rng hnet (hs.rg k hk)]
  have:=layS_mono (l:=l) (t:=t) (s:=s) (fun m=>by
    have h1:=lo_rank_loc hnet ht hL (m:Int)
    have h2:=lo_rank hnet hs (m:Int)
    have h3:=lohi_len l (m:Int) t
    have h4:=lohi_len l (m:Int) s
    have:=ht.ln
    have:=hs.ln
    omega) 1000
  omega
theorem first_tr (hc:connB n l=true):Tr n l (treeT l):=⟨fun k hk=>tree_in hk,tree_nodup' l,tree_len hnet hc,tree_forest hnet hc⟩
theorem first_loc:Loc l (treeT l):=fun _ hk _ hj hjt hJ=>exch_le hnet hk hj hjt hJ
theorem conn_of {t:List Int} (h:Tr n l t):connB n l=true:=by
  have he:=endB_net hnet
  have h1:=rank_le he (t:=t) (t':=ordT l) h.rg (fun k hk=>ordT_mem.1 hk) (fun u v huv=>huv.mono fun k hk=>ordT_mem.2 (h.rg k hk))
  have h2:=rank_lt hnet (t:=ordT l) fun k hk=>ordT_mem.1 hk
  have:=h.fo
  have:=h.ln
  exact decide_eq_true (show ((tkT l (ordT l)).length:Int)=n - 1 by omega)
theorem first_min {s:List Int} (hs:Tr n l s):wgt l (treeT l) ≤ wgt l s:=loc_min hnet (first_tr hnet (conn_of hnet hs)) (first_loc hnet) hs
end
end Go.Proofs.Ytiejmoglooaalaa
end
section
open Go Go.HL
namespace Go.Proofs.Ytiejmoglooaalaa
set_option maxRecDepth 100000
open Go.Proofs.Try renaming prog → Tp
open Go.HL.HV renaming undef → Ud
section
variable {F:FuncId → Option (List HV → Option HV)}
noncomputable def B35:Code:=Try.f35.body.getD .skip
abbrev env35 (v0 v1 v2 v6 v7 v8 v9 v10 v12 v14 v29 v30 v31 v38 v39 v40:HV):Env:=[(0,v0),(1,v1),(2,v2),(6,v6),(7,v7),(8,v8),(9,v9),(10,v10),(12,v12),(14,v14),(29,v29),(30,v30),(31,v31),(38,v38),(39,v39),(40,v40)]
theorem be_a_0 (N:Nat) (n:Int) (ls la:List HV) :RunsTo Tp (plF F) 35 (sub [0] B35) [(0,.i n),(1,.imm .arg 3 ls),(2,.a la)] [] .normal ((plF F).keys 35) (env35 (.i n) (.imm .arg 3 ls) (.a la) (.i 0) (.i 0) (.i 0) Ud Ud Ud Ud Ud Ud Ud Ud Ud Ud) [] :=
  RunsTo.hin N 60 [] fun kf hk=>⟨_,by kernel_rfl,.nil⟩
theorem be_b_0 (N:Nat) (n:Int) (ls la:List HV)  {y9 y10 y12 y14 y29 y30 y31 y38 y39 y40:HV} {H0:Heap} {a0:HV} {H1:Heap} {H2:Heap} (g0:∀ kf,N ≤ kf → callN Tp (plF F) (kf+1) 39 [.i n,.imm .arg 3 ls] []=some (.tuple [.agg [.i n,.imm .arg 3 ls],.bool true],H0)) (g1:some (newV (.agg [.i 0,.imm .lit 0 []]) H0)=some (a0,H1)) (g2:storeV Tp H1 66 (a0) (.agg [.i n,.imm .arg 3 ls])=some H2):RunsTo Tp (plF F) 35 (sub [1,0] B35) (env35 (.i n) (.imm .arg 3 ls) (.a la) (.i 0) (.i 0) (.i 0) y9 y10 y12 y14 y29 y30 y31 y38 y39 y40) [] .normal ((plF F).keys 35) (env35 (.i n) (.imm .arg 3 ls) (.a la) (.i 0) (.i 0) (.i 0) a0 (.bool true) y12 y14 y29 y30 y31 y38 y39 y40) H2 :=
  RunsTo.hin N 60 [⟨1,2,.tuple [.agg [.i n,.imm .arg 3 ls],.bool true],H0⟩,⟨1,6,a0,H1⟩,⟨1,7,.tuple [],H2⟩] fun kf hk=>⟨_,by kernel_rfl,(oC (g0 kf (by omega)) (oC (g1) (oS g2 .nil)))⟩
theorem be_b_1 (N:Nat) (n:Int) (ls la:List HV)  {y9 y10 y12 y14 y29 y30 y31 y38 y39 y40:HV} {H0:Heap} {a0:HV} {H1:Heap} {H2:Heap} (g0:∀ kf,N ≤ kf → callN Tp (plF F) (kf+1) 39 [.i n,.imm .arg 3 ls] []=some (.tuple [.agg [.i n,.imm .arg 3 ls],.bool false],H0)) (g1:some (newV (.agg [.i 0,.imm .lit 0 []]) H0)=some (a0,H1)) (g2:storeV Tp H1 66 (a0) (.agg [.i n,.imm .arg 3 ls])=some H2):RunsTo Tp (plF F) 35 (sub [1,0] B35) (env35 (.i n) (.imm .arg 3 ls) (.a la) (.i 0) (.i 0) (.i 0) y9 y10 y12 y14 y29 y30 y31 y38 y39 y40) [] .normal ((plF F).keys 35) (env35 (.i n) (.imm .arg 3 ls) (.a la) (.i 0) (.i 0) (.i 0) a0 (.bool false) y12 y14 y29 y30 y31 y38 y39 y40) H2 :=
  RunsTo.hin N 60 [⟨1,2,.tuple [.agg [.i n,.imm .arg 3 ls],.bool false],H0⟩,⟨1,6,a0,H1⟩,⟨1,7,.tuple [],H2⟩] fun kf hk=>⟨_,by kernel_rfl,(oC (g0 kf (by omega)) (oC (g1) (oS g2 .nil)))⟩
theorem be_ct_0 (N:Nat) (n:Int) (ls la:List HV) (H:Heap) {y12 y14 y29 y30 y31 y38 y39 y40:HV} {H0:Heap} (g0:loadV Tp H 66 (.ptr 0 0 0 1)=some (.agg [.i n,.imm .arg 3 ls])) (g1:∀ kf,callN Tp (plF F) (kf+1) 58 [.agg [.i n,.imm .arg 3 ls],.a la] H=some (.bool true,H0)):RunsTo Tp (plF F) 35 (sub [1,1,0] B35) (env35 (.i n) (.imm .arg 3 ls) (.a la) (.i 0) (.i 0) (.i 0) (.ptr 0 0 0 1) (.bool true) y12 y14 y29 y30 y31 y38 y39 y40) H .normal ((plF F).keys 35) (env35 (.i n) (.imm .arg 3 ls) (.a la) (.i 0) (.i 0) (.i 0) (.ptr 0 0 0 1) (.bool true) y12 y14 y29 y30 y31 y38 y39 y40) H0 :=
  RunsTo.hin N 60 [⟨2,3,.agg [.i n,.imm .arg 3 ls],H⟩,⟨2,5,.bool true,H0⟩] fun kf hk=>⟨_,by kernel_rfl,(oP H g0 (oC (g1 kf) .nil))⟩
theorem be_ct_1 (N:Nat) (n:Int) (ls la:List HV) (H:Heap) {y12 y14 y29 y30 y31 y38 y39 y40:HV} {H0:Heap} (g0:loadV Tp H 66 (.ptr 0 0 0 1)=some (.agg [.i n,.imm .arg 3 ls])) (g1:∀ kf,callN Tp (plF F) (kf+1) 58 [.agg [.i n,.imm .arg 3 ls],.a la] H=some (.bool false,H0)):RunsTo Tp (plF F) 35 (sub [1,1,0] B35) (env35 (.i n) (.imm .arg 3 ls) (.a la) (.i 0) (.i 0) (.i 0) (.ptr 0 0 0 1) (.bool true) y12 y14 y29 y30 y31 y38 y39 y40) H .ret ((plF F).keys 35) (env35 (.i n) (.imm .arg 3 ls) (.a la) (.i 0) (.i 0) (.i 2) (.ptr 0 0 0 1) (.bool true) y12 y14 y29 y30 y31 y38 y39 y40) H0 :=
  RunsTo.hin N 60 [⟨2,3,.agg [.i n,.imm .arg 3 ls],H⟩,⟨2,5,.bool false,H0⟩] fun kf hk=>⟨_,by kernel_rfl,(oP H g0 (oC (g1 kf) .nil))⟩
theorem be_cf_0 (N:Nat) (n:Int) (ls la:List HV) (H:Heap) {y12 y14 y29 y30 y31 y38 y39 y40:HV}:RunsTo Tp (plF F) 35 (sub [1,1,0] B35) (env35 (.i n) (.imm .arg 3 ls) (.a la) (.i 0) (.i 0) (.i 0) (.ptr 0 0 0 1) (.bool false) y12 y14 y29 y30 y31 y38 y39 y40) H .ret ((plF F).keys 35) (env35 (.i n) (.imm .arg 3 ls) (.a la) (.i 0) (.i 0) (.i 2) (.ptr 0 0 0 1) (.bool false) y12 y14 y29 y30 y31 y38 y39 y40) H :=
  RunsTo.hin N 60 [] fun kf hk=>⟨_,by kernel_rfl,.nil⟩
theorem be_d_0 (N:Nat) (n:Int) (ls la:List HV) (H:Heap) {y10 y12 y14 y29 y30 y31 y38 y39 y40:HV}:RunsTo Tp (plF F) 35 (sub [1,1,1,0,0] B35) (env35 (.i n) (.imm .arg 3 ls) (.a la) (.i 0) (.i 0) (.i 0) (.ptr 0 0 0 1) y10 y12 y14 y29 y30 y31 y38 y39 y40) H .normal ((plF F).keys 35) (env35 (.i n) (.imm .arg 3 ls) (.a la) (.i 0) (.i 0) (.i 0) (.ptr 0 0 0 1) y10 y12 y14 (.a la) (.i (la.length:Int)) (.i 0) y38 y39 y40) H :=
  RunsTo.hin N 60 [] fun kf hk=>⟨_,by kernel_rfl,.nil⟩
theorem be_e_0 (N:Nat) (n:Int) (ls la:List HV) (H:Heap) (i:Nat) {y10 y12 y14 y38 y39 y40:HV}(g0:(i:Int) < (la.length:Int)):RunsTo Tp (plF F) 35 (sub [1,1,1,0,1,0,0,0] B35) (env35 (.i n) (.imm .arg 3 ls) (.a la) (.i 0) (.i 0) (.i 0) (.ptr 0 0 0 1) y10 y12 y14 (.a la) (.i (la.length:Int)) (.i (i:Int)) y38 y39 y40) H .normal [0,1,2,6,7,8,9,10,12,14,29,30,31,38,39,40,32] [(0,.i n),(1,.imm .arg 3 ls),(2,.a la),(6,.i 0),(7,.i 0),(8,.i 0),(9,.ptr 0 0 0 1),(10,y10),(12,y12),(14,y14),(29,.a la),(30,.i (la.length:Int)),(31,.i (i:Int)),(38,y38),(39,y39),(40,y40),(32,.bool true)] H :=
  RunsTo.hin N 60 [⟨5,0,.bool true,H⟩] fun kf hk=>⟨_,by kernel_rfl,(oB H (decide_eq_true g0) .nil)⟩
theorem be_e_1 (N:Nat) (n:Int) (ls la:List HV) (H:Heap) (i:Nat) {y10 y12 y14 y38 y39 y40:HV}(g0:¬ ((i:Int) < (la.length:Int))):RunsTo Tp (plF F) 35 (sub [1,1,1,0,1,0,0,0] B35) (env35 (.i n) (.imm .arg 3 ls) (.a la) (.i 0) (.i 0) (.i 0) (.ptr 0 0 0 1) y10 y12 y14 (.a la) (.i (la.length:Int)) (.i (i:Int)) y38 y39 y40) H .normal [0,1,2,6,7,8,9,10,12,14,29,30,31,38,39,40,32] [(0,.i n),(1,.imm .arg 3 ls),(2,.a la),(6,.i 0),(7,.i 0),(8,.i 0),(9,.ptr 0 0 0 1),(10,y10),(12,y12),(14,y14),(29,.a la),(30,.i (la.length:Int)),(31,.i (i:Int)),(38,y38),(39,y39),(40,y40),(32,.bool false)] H :=
  RunsTo.hin N 60 [⟨5,0,.bool false,H⟩] fun kf hk=>⟨_,by kernel_rfl,(oB H (decide_eq_false g0) .nil)⟩
theorem be_et_0 (N:Nat) (n:Int) (ls la:List HV) (H:Heap) (i:Nat) {y10 y12 y14 y38 y39 y40:HV}:RunsTo Tp (plF F) 35 (sub [1,1,1,0,1,0,0,1,0] B35) [(0,.i n),(1,.imm .arg 3 ls),(2,.a la),(6,.i 0),(7,.i 0),(8,.i 0),(9,.ptr 0 0 0 1),(10,y10),(12,y12),(14,y14),(29,.a la),(30,.i (la.length:Int)),(31,.i (i:Int)),(38,y38),(39,y39),(40,y40),(32,.bool true)] H .normal ((plF F).keys 35) (env35 (.i n) (.imm .arg 3 ls) (.a la) (.i 0) (.i 0) (.i 0) (.ptr 0 0 0 1) y10 y12 y14 (.a la) (.i (la.length:Int)) (.i (i:Int)) y38 y39 y40) H :=
  RunsTo.hin N 60 [] fun kf hk=>⟨_,by kernel_rfl,.nil⟩
theorem be_ef_0 (N:Nat) (n:Int) (ls la:List HV) (H:Heap) (i:Nat) {y10 y12 y14 y38 y39 y40:HV}:RunsTo Tp (plF F) 35 (sub [1,1,1,0,1,0,0,1,0] B35) [(0,.i n),(1,.imm .arg 3 ls),(2,.a la),(6,.i 0),(7,.i 0),(8,.i 0),(9,.ptr 0 0 0 1),(10,y10),(12,y12),(14,y14),(29,.a la),(30,.i (la.length:Int)),(31,.i (i:Int)),(38,y38),(39,y39),(40,y40),(32,.bool false)] H (.exit 0) ((plF F).keys 35) (env35 (.i n) (.imm .arg 3 ls) (.a la) (.i 0) (.i 0) (.i 0) (.ptr 0 0 0 1) y10 y12 y14 (.a la) (.i (la.length:Int)) (.i (i:Int)) y38 y39 y40) H :=
  RunsTo.hin N 60 [] fun kf hk=>⟨_,by kernel_rfl,.nil⟩
theorem be_f_0 (N:Nat) (n:Int) (ls la:List HV) (H:Heap) (i:Nat) (x:Int) {y10 y12 y14 y38 y39 y40:HV}(g0:idxV Tp 24 (.a la) (.i (i:Int))=some (.vptr (.i x))):RunsTo Tp (plF F) 35 (sub [1,1,1,0,1,0,0,1,1,0,0,0] B35) (env35 (.i n) (.imm .arg 3 ls) (.a la) (.i 0) (.i 0) (.i 0) (.ptr 0 0 0 1) y10 y12 y14 (.a la) (.i (la.length:Int)) (.i (i:Int)) y38 y39 y40) H .normal ((plF F).keys 35) (env35 (.i n) (.imm .arg 3 ls) (.a la) (.i 0) (.i 0) (.i 0) (.ptr 0 0 0 1) y10 (.i x) y14 (.a la) (.i (la.length:Int)) (.i (i:Int)) y38 y39 y40) H :=
  RunsTo.hin N 60 [⟨6,0,.vptr (.i x),H⟩] fun kf hk=>⟨_,by kernel_rfl,(oP H g0 .nil)⟩
theorem be_g_0 (N:Nat) (n:Int) (ls la:List HV) (H:Heap) (i ib c:Nat) (x:Int) {y10 y14 y38 y39 y40:HV} {H0:Heap} (g0:loadV Tp H 66 (.ptr 0 0 0 1)=some (.agg [.i n,.imm .arg 3 ls])) (g1:∀ kf,callN Tp (plF F) (kf+1) 59 [.agg [.i n,.imm .arg 3 ls],.a la,.i x] H=some (.s ib c,H0)):RunsTo Tp (plF F) 35 (sub [1,1,1,0,1,0,0,1,1,0,0,1,0] B35) (env35 (.i n) (.imm .arg 3 ls) (.a la) (.i 0) (.i 0) (.i 0) (.ptr 0 0 0 1) y10 (.i x) y14 (.a la) (.i (la.length:Int)) (.i (i:Int)) y38 y39 y40) H .normal ((plF F).keys 35) (env35 (.i n) (.imm .arg 3 ls) (.a la) (.i 0) (.i 0) (.i 0) (.ptr 0 0 0 1) y10 (.i x) y14 (.a la) (.i (la.length:Int)) (.i (i:Int)) (.s ib c) (.i (c:Int)) (.i 0)) H0 :=
  RunsTo.hin N 60 [⟨7,0,.agg [.i n,.imm .arg 3 ls],H⟩,⟨7,3,.s ib c,H0⟩] fun kf hk=>⟨_,by kernel_rfl,(oP H g0 (oC (g1 kf) .nil))⟩
theorem be_l_0 (N:Nat) (n:Int) (ls la:List HV) (H:Heap) (i ib c j:Nat) (x y a b w a2 b2 w2:Int) {y10 y14:HV}(g0:(j:Int) < (c:Int)) (g1:idxV Tp 24 (.s ib c) (.i (j:Int))=some (.ptr ib j 0 c)) (g2:loadV Tp H 3 (.ptr ib j 0 c)=some (.i y)) (g3:idxV Tp 22 (.imm .arg 3 ls) (.i y)=some (.vptr (.agg [.i a,.i b,.i w]))) (g4:idxV Tp 22 (.imm .arg 3 ls) (.i x)=some (.vptr (.agg [.i a2,.i b2,.i w2]))) (g5:w < w2):RunsTo Tp (plF F) 35 (sub [1,1,1,0,1,0,0,1,1,0,0,1,1,0,0] B35) (env35 (.i n) (.imm .arg 3 ls) (.a la) (.i 0) (.i 0) (.i 0) (.ptr 0 0 0 1) y10 (.i x) y14 (.a la) (.i (la.length:Int)) (.i (i:Int)) (.s ib c) (.i (c:Int)) (.i (j:Int))) H .ret ((plF F).keys 35) (env35 (.i n) (.imm .arg 3 ls) (.a la) (.i x) (.i y) (.i 0) (.ptr 0 0 0 1) y10 (.i x) (.i y) (.a la) (.i (la.length:Int)) (.i (i:Int)) (.s ib c) (.i (c:Int)) (.i (j:Int))) H :=
  RunsTo.hin N 60 [⟨8,0,.bool true,H⟩,⟨9,0,.ptr ib j 0 c,H⟩,⟨9,1,.i y,H⟩,⟨10,2,.vptr (.agg [.i a,.i b,.i w]),H⟩,⟨10,7,.vptr (.agg [.i a2,.i b2,.i w2]),H⟩,⟨10,10,.bool true,H⟩] fun kf hk=>⟨_,by kernel_rfl,(oB H (decide_eq_true g0) (oP H g1 (oP H g2 (oP H g3 (oP H g4 (oB H (decide_eq_true g5) .nil))))))⟩
theorem be_l_1 (N:Nat) (n:Int) (ls la:List HV) (H:Heap) (i ib c j:Nat) (x y a b w a2 b2 w2:Int) {y10 y14:HV}(g0:(j:Int) < (c:Int)) (g1:idxV Tp 24 (.s ib c) (.i (j:Int))=some (.ptr ib j 0 c)) (g2:loadV Tp H 3 (.ptr ib j 0 c)=some (.i y)) (g3:idxV Tp 22 (.imm .arg 3 ls) (.i y)=some (.vptr (.agg [.i a,.i b,.i w]))) (g4:idxV Tp 22 (.imm .arg 3 ls) (.i x)=some (.vptr (.agg [.i a2,.i b2,.i w2]))) (g5:¬ (w < w2)):RunsTo Tp (plF F) 35 (sub [1,1,1,0,1,0,0,1,1,0,0,1,1,0,0] B35) (env35 (.i n) (.imm .arg 3 ls) (.a la) (.i 0) (.i 0) (.i 0) (.ptr 0 0 0 1) y10 (.i x) y14 (.a la) (.i (la.length:Int)) (.i (i:Int)) (.s ib c) (.i (c:Int)) (.i (j:Int))) H .normal ((plF F).keys 35) (env35 (.i n) (.imm .arg 3 ls) (.a la) (.i 0) (.i 0) (.i 0) (.ptr 0 0 0 1) y10 (.i x) (.i y) (.a la) (.i (la.length:Int)) (.i (i:Int)) (.s ib c) (.i (c:Int)) (.i (IntKind.i64.wrap ((j:Int)+1)))) H :=
  RunsTo.hin N 60 [⟨8,0,.bool true,H⟩,⟨9,0,.ptr ib j 0 c,H⟩,⟨9,1,.i y,H⟩,⟨10,2,.vptr (.agg [.i a,.i b,.i w]),H⟩,⟨10,7,.vptr (.agg [.i a2,.i b2,.i w2]),H⟩,⟨10,10,.bool false,H⟩] fun kf hk=>⟨_,by kernel_rfl,(oB H (decide_eq_true g0) (oP H g1 (oP H g2 (oP H g3 (oP H g4 (oB H (decide_eq_false g5) .nil))))))⟩
theorem be_l_2 (N:Nat) (n:Int) (ls la:List HV) (H:Heap) (i ib c j:Nat) (x y a b w a2 b2 w2:Int) {y10 y14:HV}(g0:¬ ((j:Int) < (c:Int))):RunsTo Tp (plF F) 35 (sub [1,1,1,0,1,0,0,1,1,0,0,1,1,0,0] B35) (env35 (.i n) (.imm .arg 3 ls) (.a la) (.i 0) (.i 0) (.i 0) (.ptr 0 0 0 1) y10 (.i x) y14 (.a la) (.i (la.length:Int)) (.i (i:Int)) (.s ib c) (.i (c:Int)) (.i (j:Int))) H (.exit 2) ((plF F).keys 35) (env35 (.i n) (.imm .arg 3 ls) (.a la) (.i 0) (.i 0) (.i 0) (.ptr 0 0 0 1) y10 (.i x) y14 (.a la) (.i (la.length:Int)) (.i (i:Int)) (.s ib c) (.i (c:Int)) (.i (j:Int))) H :=
  RunsTo.hin N 60 [⟨8,0,.bool false,H⟩] fun kf hk=>⟨_,by kernel_rfl,(oB H (decide_eq_false g0) .nil)⟩
theorem be_h_0 (N:Nat) (n:Int) (ls la:List HV) (H:Heap) (i:Nat) {y10 y12 y14 y38 y39 y40:HV}:RunsTo Tp (plF F) 35 (sub [1,1,1,0,1,0,0,1,1,1] B35) (env35 (.i n) (.imm .arg 3 ls) (.a la) (.i 0) (.i 0) (.i 0) (.ptr 0 0 0 1) y10 y12 y14 (.a la) (.i (la.length:Int)) (.i (i:Int)) y38 y39 y40) H .normal ((plF F).keys 35) (env35 (.i n) (.imm .arg 3 ls) (.a la) (.i 0) (.i 0) (.i 0) (.ptr 0 0 0 1) y10 y12 y14 (.a la) (.i (la.length:Int)) (.i (IntKind.i64.wrap ((i:Int)+1))) y38 y39 y40) H :=
  RunsTo.hin N 60 [] fun kf hk=>⟨_,by kernel_rfl,.nil⟩
theorem be_z_0 (N:Nat) (n:Int) (ls la:List HV) (H:Heap) {y10 y12 y14 y29 y30 y31 y38 y39 y40:HV}:RunsTo Tp (plF F) 35 (sub [1,1,1,1] B35) (env35 (.i n) (.imm .arg 3 ls) (.a la) (.i 0) (.i 0) (.i 0) (.ptr 0 0 0 1) y10 y12 y14 y29 y30 y31 y38 y39 y40) H .ret ((plF F).keys 35) (env35 (.i n) (.imm .arg 3 ls) (.a la) (.i (-1)) (.i (-1)) (.i 0) (.ptr 0 0 0 1) y10 y12 y14 y29 y30 y31 y38 y39 y40) H :=
  RunsTo.hin N 60 [] fun kf hk=>⟨_,by kernel_rfl,.nil⟩
end
end Go.Proofs.Ytiejmoglooaalaa
end
section
open Go Go.HL
namespace Go.Proofs.Ytiejmoglooaalaa
set_option maxRecDepth 100000
open Go.Proofs.Try renaming prog → Tp
open Go.HL.HV renaming undef → Ud
section
variable {F:FuncId → Option (List HV → Option HV)}
noncomputable def B58:Code:=Try.f58.body.getD .skip
abbrev env58 (v0 v1 v2 v4 v5 v6 v8 v9 v10 v11:HV):Env:=[(0,v0),(1,v1),(2,v2),(4,v4),(5,v5),(6,v6),(8,v8),(9,v9),(10,v10),(11,v11)]
theorem iu_a_0 (N:Nat) (n:Int) (ls la:List HV) :RunsTo Tp (plF F) 58 (sub [0] B58) [(0,.agg [.i n,.imm .arg 3 ls]),(1,.a la)] [] .normal ((plF F).keys 58) (env58 (.agg [.i n,.imm .arg 3 ls]) (.a la) (.ptr 0 0 0 1) (.bool false) Ud Ud Ud Ud Ud Ud) [.arr 2 [.agg [.i n,.imm .arg 3 ls]] true 0] :=
  RunsTo.hin N 60 [] fun kf hk=>⟨_,by kernel_rfl,.nil⟩
theorem iu_b_0 (N:Nat) (n:Int) (ls la:List HV) (H:Heap) {y5 y6 y8 y9 y10 y11:HV}:RunsTo Tp (plF F) 58 (sub [1,0,0] B58) (env58 (.agg [.i n,.imm .arg 3 ls]) (.a la) (.ptr 0 0 0 1) (.bool false) y5 y6 y8 y9 y10 y11) H .normal ((plF F).keys 58) (env58 (.agg [.i n,.imm .arg 3 ls]) (.a la) (.ptr 0 0 0 1) (.bool false) y5 y6 y8 (.a la) (.i (la.length:Int)) (.i 0)) H :=
  RunsTo.hin N 60 [] fun kf hk=>⟨_,by kernel_rfl,.nil⟩
theorem iu_l_0 (N:Nat) (n:Int) (ls la:List HV) (H:Heap) (i:Nat) (x z:Int) {y5 y6 y8:HV} {H0:Heap} (g0:(i:Int) < (la.length:Int)) (g1:idxV Tp 24 (.a la) (.i (i:Int))=some (.vptr (.i x))) (g2:loadV Tp H 22 (.ptr 0 0 1 1)=some (.imm .arg 3 ls)) (g3:∀ kf,callN Tp (plF F) (kf+1) 52 [.i x,.i 0,.i (IntKind.i64.wrap ((ls.length:Int) - 1))] H=some (.bool true,H0)) (g4:0 < (i:Int)) (g5:idxV Tp 24 (.a la) (.i (IntKind.i64.wrap ((i:Int) - 1)))=some (.vptr (.i z))) (g6:x ≤ z):RunsTo Tp (plF F) 58 (sub [1,0,1,0,0] B58) (env58 (.agg [.i n,.imm .arg 3 ls]) (.a la) (.ptr 0 0 0 1) (.bool false) y5 y6 y8 (.a la) (.i (la.length:Int)) (.i (i:Int))) H .ret ((plF F).keys 58) (env58 (.agg [.i n,.imm .arg 3 ls]) (.a la) (.ptr 0 0 0 1) (.bool false) (.i (i:Int)) (.i x) y8 (.a la) (.i (la.length:Int)) (.i (i:Int))) H0 :=
  RunsTo.hin N 60 [⟨2,0,.bool true,H⟩,⟨3,1,.vptr (.i x),H⟩,⟨4,2,.imm .arg 3 ls,H⟩,⟨4,5,.bool true,H0⟩,⟨4,9,.bool true,H0⟩,⟨4,14,.vptr (.i z),H0⟩,⟨4,17,.bool true,H0⟩] fun kf hk=>⟨_,by kernel_rfl,(oB H (decide_eq_true g0) (oP H g1 (oP H g2 (oC (g3 kf) (oB H0 (decide_eq_true g4) (oP H0 g5 (oB H0 (decide_eq_true g6) .nil)))))))⟩
theorem iu_l_1 (N:Nat) (n:Int) (ls la:List HV) (H:Heap) (i:Nat) (x z:Int) {y5 y6 y8:HV} {H0:Heap} (g0:(i:Int) < (la.length:Int)) (g1:idxV Tp 24 (.a la) (.i (i:Int))=some (.vptr (.i x))) (g2:loadV Tp H 22 (.ptr 0 0 1 1)=some (.imm .arg 3 ls)) (g3:∀ kf,callN Tp (plF F) (kf+1) 52 [.i x,.i 0,.i (IntKind.i64.wrap ((ls.length:Int) - 1))] H=some (.bool true,H0)) (g4:0 < (i:Int)) (g5:idxV Tp 24 (.a la) (.i (IntKind.i64.wrap ((i:Int) - 1)))=some (.vptr (.i z))) (g6:¬ (x ≤ z)):RunsTo Tp (plF F) 58 (sub [1,0,1,0,0] B58) (env58 (.agg [.i n,.imm .arg 3 ls]) (.a la) (.ptr 0 0 0 1) (.bool false) y5 y6 y8 (.a la) (.i (la.length:Int)) (.i (i:Int))) H .normal ((plF F).keys 58) (env58 (.agg [.i n,.imm .arg 3 ls]) (.a la) (.ptr 0 0 0 1) (.bool false) (.i (i:Int)) (.i x) y8 (.a la) (.i (la.length:Int)) (.i (IntKind.i64.wrap ((i:Int)+1)))) H0 :=
  RunsTo.hin N 60 [⟨2,0,.bool true,H⟩,⟨3,1,.vptr (.i x),H⟩,⟨4,2,.imm .arg 3 ls,H⟩,⟨4,5,.bool true,H0⟩,⟨4,9,.bool true,H0⟩,⟨4,14,.vptr (.i z),H0⟩,⟨4,17,.bool false,H0⟩] fun kf hk=>⟨_,by kernel_rfl,(oB H (decide_eq_true g0) (oP H g1 (oP H g2 (oC (g3 kf) (oB H0 (decide_eq_true g4) (oP H0 g5 (oB H0 (decide_eq_false g6) .nil)))))))⟩
theorem iu_l_2 (N:Nat) (n:Int) (ls la:List HV) (H:Heap) (i:Nat) (x z:Int) {y5 y6 y8:HV} {H0:Heap} (g0:(i:Int) < (la.length:Int)) (g1:idxV Tp 24 (.a la) (.i (i:Int))=some (.vptr (.i x))) (g2:loadV Tp H 22 (.ptr 0 0 1 1)=some (.imm .arg 3 ls)) (g3:∀ kf,callN Tp (plF F) (kf+1) 52 [.i x,.i 0,.i (IntKind.i64.wrap ((ls.length:Int) - 1))] H=some (.bool true,H0)) (g4:¬ (0 < (i:Int))):RunsTo Tp (plF F) 58 (sub [1,0,1,0,0] B58) (env58 (.agg [.i n,.imm .arg 3 ls]) (.a la) (.ptr 0 0 0 1) (.bool false) y5 y6 y8 (.a la) (.i (la.length:Int)) (.i (i:Int))) H .normal ((plF F).keys 58) (env58 (.agg [.i n,.imm .arg 3 ls]) (.a la) (.ptr 0 0 0 1) (.bool false) (.i (i:Int)) (.i x) y8 (.a la) (.i (la.length:Int)) (.i (IntKind.i64.wrap ((i:Int)+1)))) H0 :=
  RunsTo.hin N 60 [⟨2,0,.bool true,H⟩,⟨3,1,.vptr (.i x),H⟩,⟨4,2,.imm .arg 3 ls,H⟩,⟨4,5,.bool true,H0⟩,⟨4,9,.bool false,H0⟩] fun kf hk=>⟨_,by kernel_rfl,(oB H (decide_eq_true g0) (oP H g1 (oP H g2 (oC (g3 kf) (oB H0 (decide_eq_false g4) .nil)))))⟩
theorem iu_l_3 (N:Nat) (n:Int) (ls la:List HV) (H:Heap) (i:Nat) (x z:Int) {y5 y6 y8:HV} {H0:Heap} (g0:(i:Int) < (la.length:Int)) (g1:idxV Tp 24 (.a la) (.i (i:Int))=some (.vptr (.i x))) (g2:loadV Tp H 22 (.ptr 0 0 1 1)=some (.imm .arg 3 ls)) (g3:∀ kf,callN Tp (plF F) (kf+1) 52 [.i x,.i 0,.i (IntKind.i64.wrap ((ls.length:Int) - 1))] H=some (.bool false,H0)):RunsTo Tp (plF F) 58 (sub [1,0,1,0,0] B58) (env58 (.agg [.i n,.imm .arg 3 ls]) (.a la) (.ptr 0 0 0 1) (.bool false) y5 y6 y8 (.a la) (.i (la.length:Int)) (.i (i:Int))) H .ret ((plF F).keys 58) (env58 (.agg [.i n,.imm .arg 3 ls]) (.a la) (.ptr 0 0 0 1) (.bool false) (.i (i:Int)) (.i x) y8 (.a la) (.i (la.length:Int)) (.i (i:Int))) H0 :=
  RunsTo.hin N 60 [⟨2,0,.bool true,H⟩,⟨3,1,.vptr (.i x),H⟩,⟨4,2,.imm .arg 3 ls,H⟩,⟨4,5,.bool false,H0⟩] fun kf hk=>⟨_,by kernel_rfl,(oB H (decide_eq_true g0) (oP H g1 (oP H g2 (oC (g3 kf) .nil))))⟩
theorem iu_l_4 (N:Nat) (n:Int) (ls la:List HV) (H:Heap) (i:Nat) (x z:Int) {y5 y6 y8:HV}(g0:¬ ((i:Int) < (la.length:Int))):RunsTo Tp (plF F) 58 (sub [1,0,1,0,0] B58) (env58 (.agg [.i n,.imm .arg 3 ls]) (.a la) (.ptr 0 0 0 1) (.bool false) y5 y6 y8 (.a la) (.i (la.length:Int)) (.i (i:Int))) H (.exit 0) ((plF F).keys 58) (env58 (.agg [.i n,.imm .arg 3 ls]) (.a la) (.ptr 0 0 0 1) (.bool false) y5 y6 y8 (.a la) (.i (la.length:Int)) (.i (i:Int))) H :=
  RunsTo.hin N 60 [⟨2,0,.bool false,H⟩] fun kf hk=>⟨_,by kernel_rfl,(oB H (decide_eq_false g0) .nil)⟩
theorem iu_d_0 (N:Nat) (n:Int) (ls la:List HV) (H:Heap) (pb c:Nat) {y5 y6 y8 y9 y10 y11:HV} {H0:Heap} (g0:loadV Tp H 66 (.ptr 0 0 0 1)=some (.agg [.i n,.imm .arg 3 ls])) (g1:∀ kf,N ≤ kf → callN Tp (plF F) (kf+1) 57 [.agg [.i n,.imm .arg 3 ls],.a la] H=some (.tuple [.ptr pb 0 0 1,.i (c:Int)],H0)):RunsTo Tp (plF F) 58 (sub [1,1,0] B58) (env58 (.agg [.i n,.imm .arg 3 ls]) (.a la) (.ptr 0 0 0 1) (.bool false) y5 y6 y8 y9 y10 y11) H .normal ((plF F).keys 58) (env58 (.agg [.i n,.imm .arg 3 ls]) (.a la) (.ptr 0 0 0 1) (.bool false) y5 y6 (.i (c:Int)) y9 y10 y11) H0 :=
  RunsTo.hin N 60 [⟨7,0,.agg [.i n,.imm .arg 3 ls],H⟩,⟨7,2,.tuple [.ptr pb 0 0 1,.i (c:Int)],H0⟩] fun kf hk=>⟨_,by kernel_rfl,(oP H g0 (oC (g1 kf (by omega)) .nil))⟩
theorem iu_z_0 (N:Nat) (n:Int) (ls la:List HV) (H:Heap) (c:Nat) {y5 y6 y9 y10 y11:HV}(g0:loadV Tp H 3 (.ptr 0 0 0 1)=some (.i n)) (g1:(la.length:Int)=IntKind.i64.wrap (n - 1)) (g2:loadV Tp H 3 (.ptr 0 0 0 1)=some (.i n)) (g3:(c:Int)=IntKind.i64.wrap (n - 1)):RunsTo Tp (plF F) 58 (sub [1,1,1] B58) (env58 (.agg [.i n,.imm .arg 3 ls]) (.a la) (.ptr 0 0 0 1) (.bool false) y5 y6 (.i (c:Int)) y9 y10 y11) H .ret ((plF F).keys 58) (env58 (.agg [.i n,.imm .arg 3 ls]) (.a la) (.ptr 0 0 0 1) (.bool true) y5 y6 (.i (c:Int)) y9 y10 y11) H :=
  RunsTo.hin N 60 [⟨8,3,.i n,H⟩,⟨8,5,.bool true,H⟩,⟨8,9,.i n,H⟩,⟨8,11,.bool true,H⟩] fun kf hk=>⟨_,by kernel_rfl,(oP H g0 (oB H (decide_eq_true g1) (oP H g2 (oB H (decide_eq_true g3) .nil))))⟩
theorem iu_z_1 (N:Nat) (n:Int) (ls la:List HV) (H:Heap) (c:Nat) {y5 y6 y9 y10 y11:HV}(g0:loadV Tp H 3 (.ptr 0 0 0 1)=some (.i n)) (g1:(la.length:Int)=IntKind.i64.wrap (n - 1)) (g2:loadV Tp H 3 (.ptr 0 0 0 1)=some (.i n)) (g3:¬ ((c:Int)=IntKind.i64.wrap (n - 1))):RunsTo Tp (plF F) 58 (sub [1,1,1] B58) (env58 (.agg [.i n,.imm .arg 3 ls]) (.a la) (.ptr 0 0 0 1) (.bool false) y5 y6 (.i (c:Int)) y9 y10 y11) H .ret ((plF F).keys 58) (env58 (.agg [.i n,.imm .arg 3 ls]) (.a la) (.ptr 0 0 0 1) (.bool false) y5 y6 (.i (c:Int)) y9 y10 y11) H :=
  RunsTo.hin N 60 [⟨8,3,.i n,H⟩,⟨8,5,.bool true,H⟩,⟨8,9,.i n,H⟩,⟨8,11,.bool false,H⟩] fun kf hk=>⟨_,by kernel_rfl,(oP H g0 (oB H (decide_eq_true g1) (oP H g2 (oB H (decide_eq_false g3) .nil))))⟩
theorem iu_z_2 (N:Nat) (n:Int) (ls la:List HV) (H:Heap) (c:Nat) {y5 y6 y9 y10 y11:HV}(g0:loadV Tp H 3 (.ptr 0 0 0 1)=some (.i n)) (g1:¬ ((la.length:Int)=IntKind.i64.wrap (n - 1))):RunsTo Tp (plF F) 58 (sub [1,1,1] B58) (env58 (.agg [.i n,.imm .arg 3 ls]) (.a la) (.ptr 0 0 0 1) (.bool false) y5 y6 (.i (c:Int)) y9 y10 y11) H .ret ((plF F).keys 58) (env58 (.agg [.i n,.imm .arg 3 ls]) (.a la) (.ptr 0 0 0 1) (.bool false) y5 y6 (.i (c:Int)) y9 y10 y11) H :=
  RunsTo.hin N 60 [⟨8,3,.i n,H⟩,⟨8,5,.bool false,H⟩] fun kf hk=>⟨_,by kernel_rfl,(oP H g0 (oB H (decide_eq_false g1) .nil))⟩
end
end Go.Proofs.Ytiejmoglooaalaa
end
section
open Go Go.HL
namespace Go.Proofs.Ytiejmoglooaalaa
open Go.Proofs.Try renaming prog → Tp
open Go.HL.HV renaming undef → Ud
def isP (n:Int) (l:List St) (t:List Int):Bool:=ascT l.length t && (decide ((t.length:Int)=n - 1) && decide (((ksT l t).2.2.length:Int)=n - 1))
def isTree58:List HV → Option HV:=f2 kN kL fun p t=>if (endB p.2=true∧0 ≤ p.1∧p.1 ≤ 16)∧t.length ≤ 500∧p.2.length ≤ 500 then some (.bool (isP p.1 p.2 t)) else none
theorem res58:Try.f58.results.toList=[.tmp 4]:=by kernel_rfl
def prIt:FuncId → Option (List HV → Option HV):=fun g=>if g == 52 then some within52 else none
theorem soundIt (n:Nat):CallSound Tp (callN Tp (plF prIt) n):=sound_prim _ (fun g f h=>by
  unfold prIt at h
  split at h
  · rename_i hg; cases h; rw [eq_of_beq hg]; exact within_ok
  · cases h) n
theorem isTree_ok:PrimOk Tp 58 isTree58:=by
  refine primOk_pure (pol:=plF prIt) (fn:=Try.f58) (cd:=B58) follows_mixed soundIt (by kernel_rfl) (by kernel_rfl) (fnok prIt _ _ (by kernel_rfl)) (by kernel_rfl) ?_
  intro args res h
  obtain ⟨⟨n,l⟩,t,rfl,hq⟩:=f2_inv h
  simp only at hq
  split at hq
  case isFalse=>cases hq
  rename_i hc
  obtain ⟨⟨he,n0,n1⟩,htl,hll⟩:=hc
  cases hq
  have a:=iu_a_0 (F:=prIt) 0 n (l.map encT) (t.map encI)
  have b:=iu_b_0 (F:=prIt) 0 n (l.map encT) (t.map encI) [bN n l] (y5:=Ud) (y6:=Ud) (y8:=Ud) (y9:=Ud) (y10:=Ud) (y11:=Ud)
  have lm:((t.map encI).length:Int)=(t.length:Int):=by rw [List.length_map]
  have ll:((l.map encT).length:Int)=(l.length:Int):=by rw [List.length_map]
  rw [lm] at b
  have hw1:IntKind.i64.wrap (((l.map encT).length:Int) - 1)=(l.length:Int) - 1:=by rw [ll]; exact wrap_id (by omega) (by omega)
  have ldn:=ld_net (H:=[bN n l]) (xb:=0) (n:=n) (l:=l) rfl
  have wi:∀ (x:Int) (b:Bool),decide (0 ≤ x∧x ≤ (l.length:Int) - 1)=b → ∀ k,callN Tp (plF prIt) (k+1) 52 [.int .i64 x,.int .i64 0,.int .i64 (IntKind.i64.wrap (((l.map encT).length:Int) - 1))] [bN n l]=some (.bool b,[bN n l]):=fun x b hb=>by
    rw [hw1,← hb]; exact within_at (F:=prIt) (by kernel_rfl) x 0 ((l.length:Int) - 1) [bN n l]
  have pass:∀ i,i < t.length → okA l.length t i=true → RunsTo Tp (plF prIt) 58 (sub [1,0,1,0,0] B58) ((env58 (encN n l) (.imm .arg 1 (t.map encI)) (.ptr 0 0 0 1) (.bool false) Ud Ud Ud (.imm .arg 1 (t.map encI)) (.int .i64 (t.length:Int)) (.int .i64 ((i:Nat):Int)))) [bN n l] .normal ((plF prIt).keys 58) ((env58 (encN n l) (.imm .arg 1 (t.map encI)) (.ptr 0 0 0 1) (.bool false) (.int .i64 (i:Int)) (.int .i64 (t.getD i 0)) Ud (.imm .arg 1 (t.map encI)) (.int .i64 (t.length:Int)) (.int .i64 ((i+1:Nat):Int)))) [bN n l]:=fun i hi ho=>by
    obtain ⟨⟨h1,h2⟩,h3⟩:=of_decide_eq_true ho
    have w:=wi (t.getD i 0) true (decide_eq_true (by omega))
    by_cases hz:i=0
    · have s:=iu_l_2 (F:=prIt) 0 n (l.map encT) (t.map encI) [bN n l] i (t.getD i 0) 0 (y5:=Ud) (y6:=Ud) (y8:=Ud) (by omega) (gx hi) ldn w (by omega)
      rw [wrap_succ (by omega),lm] at s
      exact s
    · have h3:=h3.resolve_left hz
      have g:=gx (l:=t) (y:=i - 1) (by omega)
      rw [← wrap_pred (j:=i) (by omega) (by omega)] at g
      have s:=iu_l_1 (F:=prIt) 0 n (l.map encT) (t.map encI) [bN n l] i (t.getD i 0) (t.getD (i - 1) 0) (y5:=Ud) (y6:=Ud) (y8:=Ud) (by omega) (gx hi) ldn w (by omega) g (by omega)
      rw [wrap_succ (by omega),lm] at s
      exact s
  cases hf:fN (fun i=>!okA l.length t i) t.length 0 with
  | some m =>
    obtain ⟨_,h1,h2,h3⟩:=fN_some hf
    have hm:m < t.length:=by omega
    have hA:ascT l.length t=false:=by rw [ascT,hf]; rfl
    have ho:¬ ((0 ≤ t.getD m 0∧t.getD m 0 < (l.length:Int))∧(m=0 ∨ t.getD (m - 1) 0 < t.getD m 0)):=by
      have:okA l.length t m=false:=by simpa using h2
      exact of_decide_eq_false this
    have out:∃ E',RunsTo Tp (plF prIt) 58 (sub [1,0,1,0,0] B58) ((env58 (encN n l) (.imm .arg 1 (t.map encI)) (.ptr 0 0 0 1) (.bool false) Ud Ud Ud (.imm .arg 1 (t.map encI)) (.int .i64 (t.length:Int)) (.int .i64 ((m:Nat):Int)))) [bN n l] .ret ((plF prIt).keys 58) E' [bN n l]∧E'.get 4=.bool false:=by
      by_cases k1:0 ≤ t.getD m 0∧t.getD m 0 ≤ (l.length:Int) - 1
      · have hm0:m ≠ 0:=fun c=>ho ⟨by omega,.inl c⟩
        have hm1:¬ t.getD (m - 1) 0 < t.getD m 0:=fun c=>ho ⟨by omega,.inr c⟩
        have g:=gx (l:=t) (y:=m - 1) (by omega)
        rw [← wrap_pred (j:=m) (by omega) (by omega)] at g
        have s:=iu_l_0 (F:=prIt) 0 n (l.map encT) (t.map encI) [bN n l] m (t.getD m 0) (t.getD (m - 1) 0) (y5:=Ud) (y6:=Ud) (y8:=Ud) (by omega) (gx hm) ldn (wi _ true (decide_eq_true k1)) (by omega) g (by omega)
        rw [lm] at s
        exact ⟨_,s,rfl⟩
      · have s:=iu_l_3 (F:=prIt) 0 n (l.map encT) (t.map encI) [bN n l] m (t.getD m 0) 0 (y5:=Ud) (y6:=Ud) (y8:=Ud) (by omega) (gx hm) ldn (wi _ false (decide_eq_false k1))
        rw [lm] at s
        exact ⟨_,s,rfl⟩
    obtain ⟨E',o1,o2⟩:=out
    have r:=count (pol':=plF prIt) (f:=58) (E:=fun i=>(env58 (encN n l) (.imm .arg 1 (t.map encI)) (.ptr 0 0 0 1) (.bool false) Ud Ud Ud (.imm .arg 1 (t.map encI)) (.int .i64 (t.length:Int)) (.int .i64 ((i:Nat):Int)))) (Hs:=fun _=>[bN n l]) m (fun i hi=>pass i (by omega) (by have:=h3 i (Nat.zero_le _) hi; simpa using this)) (fun i _=>by kernel_rfl) (fun i _=>gc_eq _ rfl) o1 (by simp) (c:=sub [1,0,1,0] B58) (by kernel_rfl) (fun i _=>by kernel_rfl)
    refine ⟨_,_,_,.bool false,sq (a) (sqo (sq (b) (RunsTo.block_ret (i:=0) (c:=sub [1,0,1] B58) (r) (by kernel_rfl)) (c:=sub [1,0] B58)) (c:=sub [1] B58) (b:=sub [1,1] B58)) (c:=B58),by simp,by simp only [resultsV,res58,mapO,resultV,o2],?_⟩
    rw [isP,hA]; rfl
  | none =>
    have h3:=fN_none hf
    have hA:ascT l.length t=true:=by rw [ascT,hf]; rfl
    have hin:=inR_iff.1 (ascT_in hA)
    have o:=iu_l_4 (F:=prIt) 0 n (l.map encT) (t.map encI) [bN n l] t.length 0 0 (y5:=Ud) (y6:=Ud) (y8:=Ud) (by omega)
    rw [lm] at o
    have r:=count (pol':=plF prIt) (f:=58) (E:=fun i=>(env58 (encN n l) (.imm .arg 1 (t.map encI)) (.ptr 0 0 0 1) (.bool false) Ud Ud Ud (.imm .arg 1 (t.map encI)) (.int .i64 (t.length:Int)) (.int .i64 ((i:Nat):Int)))) (Hs:=fun _=>[bN n l]) t.length (fun i hi=>pass i hi (by have:=h3 i (Nat.zero_le _) (by omega); simpa using this)) (fun i _=>by kernel_rfl) (fun i _=>gc_eq _ rfl) o (by simp) (c:=sub [1,0,1,0] B58) (by kernel_rfl) (fun i _=>by kernel_rfl)
    obtain ⟨N1,c57⟩:=CallsTo.from (joined_imm (F:=prIt) (by kernel_rfl) (by kernel_rfl) (by kernel_rfl) (by kernel_rfl) (n:=n) he hin (by omega) [bN n l] (by show max 0 0 ≤ 1; decide))
    have d:=iu_d_0 (F:=prIt) N1 n (l.map encT) (t.map encI) [bN n l] 2 (ksT l t).2.2.length (y9:=.imm .arg 1 (t.map encI)) (y10:=.int .i64 (t.length:Int)) (y11:=.int .i64 (t.length:Int)) (y5:=Ud) (y6:=Ud) (y8:=Ud) (ld66 rfl) c57
    have ld1:=ld_netN (H:=[bN n l] ++ [bN n l,bU (ksT l t).1]) (xb:=0) (n:=n) (l:=l) rfl
    have hw:IntKind.i64.wrap (n - 1)=n - 1:=wrap_id (by omega) (by omega)
    rw [isP,hA,Bool.true_and]
    by_cases k1:(t.length:Int)=n - 1
    · by_cases k2:((ksT l t).2.2.length:Int)=n - 1
      · have z:=iu_z_0 (F:=prIt) 0 n (l.map encT) (t.map encI) ([bN n l] ++ [bN n l,bU (ksT l t).1]) (ksT l t).2.2.length (y9:=.imm .arg 1 (t.map encI)) (y10:=.int .i64 (t.length:Int)) (y11:=.int .i64 (t.length:Int)) (y5:=Ud) (y6:=Ud) ld1 (by rw [hw]; omega) ld1 (by rw [hw]; exact k2)
        rw [decide_eq_true k1,decide_eq_true k2]
        exact ⟨_,_,_,.bool true,sq (a) (sq (sq (b) (bke (c:=sub [1,0,1] B58) (r)) (c:=sub [1,0] B58)) (sq (d) (z) (c:=sub [1,1] B58)) (c:=sub [1] B58)) (c:=B58),by simp,by simp only [resultsV,res58]; rfl,rfl⟩
      · have z:=iu_z_1 (F:=prIt) 0 n (l.map encT) (t.map encI) ([bN n l] ++ [bN n l,bU (ksT l t).1]) (ksT l t).2.2.length (y9:=.imm .arg 1 (t.map encI)) (y10:=.int .i64 (t.length:Int)) (y11:=.int .i64 (t.length:Int)) (y5:=Ud) (y6:=Ud) ld1 (by rw [hw]; omega) ld1 (by rw [hw]; exact k2)
        rw [decide_eq_true k1,decide_eq_false k2]
        exact ⟨_,_,_,.bool false,sq (a) (sq (sq (b) (bke (c:=sub [1,0,1] B58) (r)) (c:=sub [1,0] B58)) (sq (d) (z) (c:=sub [1,1] B58)) (c:=sub [1] B58)) (c:=B58),by simp,by simp only [resultsV,res58]; rfl,rfl⟩
    · have z:=iu_z_2 (F:=prIt) 0 n (l.map encT) (t.map encI) ([bN n l] ++ [bN n l,bU (ksT l t).1]) (ksT l t).2.2.length (y9:=.imm .arg 1 (t.map encI)) (y10:=.int .i64 (t.length:Int)) (y11:=.int .i64 (t.length:Int)) (y5:=Ud) (y6:=Ud) ld1 (by rw [hw]; omega)
      rw [decide_eq_false k1]
      exact ⟨_,_,_,.bool false,sq (a) (sq (sq (b) (bke (c:=sub [1,0,1] B58) (r)) (c:=sub [1,0] B58)) (sq (d) (z) (c:=sub [1,1] B58)) (c:=sub [1] B58)) (c:=B58),by simp,by simp only [resultsV,res58]; rfl,rfl⟩
end Go.Proofs.Ytiejmoglooaalaa
end
section
open Go Go.HL
namespace Go.Proofs.Ytiejmoglooaalaa
open Go.Proofs.Try renaming prog → Tp
open Go.HL.HV renaming undef → Ud
def beY (l:List St) (t:List Int) (i:Nat):List Int:=insT l t (t.getD i 0) l.length
def beG (l:List St) (t:List Int) (i:Nat):Option Nat:=fN (fun j=>decide (wOf l ((beY l t i).getD j 0) < wOf l (t.getD i 0))) (beY l t i).length 0
def beF (l:List St) (t:List Int):Option Nat:=fN (fun i=>(beG l t i).isSome) t.length 0
def beO (l:List St) (t:List Int):Int × Int:=match beF l t with | some i=>(match beG l t i with | some j=>(t.getD i 0,(beY l t i).getD j 0) | none=>(-1,-1)) | none=>(-1,-1)
def okBe (n:Int) (l:List St) (t:List Int):Bool:=netB n l && isP n l t
def beT (n:Int) (l:List St) (t:List Int):HV:=if okBe n l t=true then .tuple [.int .i64 (beO l t).1,.int .i64 (beO l t).2,.int .i64 0] else .tuple [.int .i64 0,.int .i64 0,.int .i64 2]
def better35:List HV → Option HV:=f3 kI kS kL fun n l t=>if l.length ≤ 500∧t.length ≤ 500 then some (beT n l t) else none
def prBe:FuncId → Option (List HV → Option HV):=fun g=>if g == 52 then some within52 else if g == 58 then some isTree58 else if g == 59 then some instead59 else none
theorem soundBe (n:Nat):CallSound Tp (callN Tp (plF prBe) n):=sound_prim _ (fun g f h=>by
  unfold prBe at h
  split at h
  · rename_i hg; cases h; rw [eq_of_beq hg]; exact within_ok
  split at h
  · rename_i hg; cases h; rw [eq_of_beq hg]; exact isTree_ok
  split at h
  · rename_i hg; cases h; rw [eq_of_beq hg]; exact instead_ok
  · cases h) n
theorem nwF_be:NwF prBe:=⟨by kernel_rfl,by kernel_rfl,by kernel_rfl,by kernel_rfl,by kernel_rfl⟩
theorem res35:Try.f35.results.toList=[.tmp 6,.tmp 7,.tmp 8]:=by kernel_rfl
theorem better_round {n:Int} {l:List St} (hnet:netB n l=true) {t:List Int} (ht:∀ x ∈ t,0 ≤ x∧x < (l.length:Int)) (htl:t.length ≤ 500) {i:Nat} (hi:i < t.length) {m:Nat} (hm:m ≤ (beY l t i).length)
    (hno:∀ j,j < m → ¬ wOf l ((beY l t i).getD j 0) < wOf l (t.getD i 0)) {x:X} {E':Env} (hx:x ≠ .normal)
    (out:∀ Y,Y=beY l t i → RunsTo Tp (plF prBe) 35 (sub [1,1,1,0,1,0,0,1,1,0,0,1,1,0,0] B35) ((env35 (.int .i64 n) (.imm .arg 3 (l.map encT)) (.imm .arg 1 (t.map encI)) (.int .i64 0) (.int .i64 0) (.int .i64 0) (.ptr 0 0 0 1) Ud (.int .i64 (t.getD i 0)) Ud (.imm .arg 1 (t.map encI)) (.int .i64 (t.length:Int)) (.int .i64 ((i:Nat):Int)) (.sl 1 0 Y.length none Y.length 1) (.int .i64 (Y.length:Int)) (.int .i64 ((m:Nat):Int)))) [bN n l,bI Y] x ((plF prBe).keys 35) E' [bN n l,bI Y]) :
    RunsTo Tp (plF prBe) 35 (sub [1,1,1,0,1,0,0,1,1,0,0,1,1,0] B35) (let Y:=beY l t i; (env35 (.int .i64 n) (.imm .arg 3 (l.map encT)) (.imm .arg 1 (t.map encI)) (.int .i64 0) (.int .i64 0) (.int .i64 0) (.ptr 0 0 0 1) Ud (.int .i64 (t.getD i 0)) Ud (.imm .arg 1 (t.map encI)) (.int .i64 (t.length:Int)) (.int .i64 ((i:Nat):Int)) (.sl 1 0 Y.length none Y.length 1) (.int .i64 (Y.length:Int)) (.int .i64 ((0:Nat):Int)))) [bN n l,bI (beY l t i)] x ((plF prBe).keys 35) E' [bN n l,bI (beY l t i)]:=by
  obtain ⟨⟨n1,n2⟩,n3,he,hw⟩:=netB_ends hnet
  have hYin:∀ y ∈ beY l t i,0 ≤ y∧y < (l.length:Int):=fun y hy=>startT_mem.1 (List.mem_filter.1 hy).1
  have hYl:(beY l t i).length ≤ l.length:=ins_len ..
  have o:=out _ rfl
  have hxx:=ht _ (mem_getD 0 hi)
  generalize beY l t i=Y at *
  have lm:((t.map encI).length:Int)=(t.length:Int):=by rw [List.length_map]
  exact count (pol':=plF prBe) (f:=35) (E:=fun j=>(env35 (.int .i64 n) (.imm .arg 3 (l.map encT)) (.imm .arg 1 (t.map encI)) (.int .i64 0) (.int .i64 0) (.int .i64 0) (.ptr 0 0 0 1) Ud (.int .i64 (t.getD i 0)) Ud (.imm .arg 1 (t.map encI)) (.int .i64 (t.length:Int)) (.int .i64 ((i:Nat):Int)) (.sl 1 0 Y.length none Y.length 1) (.int .i64 (Y.length:Int)) (.int .i64 ((j:Nat):Int)))) (Hs:=fun _=>[bN n l,bI Y]) m (E0:=fun j=>(env35 (.int .i64 n) (.imm .arg 3 (l.map encT)) (.imm .arg 1 (t.map encI)) (.int .i64 0) (.int .i64 0) (.int .i64 0) (.ptr 0 0 0 1) Ud (.int .i64 (t.getD i 0)) (.int .i64 (Y.getD j 0)) (.imm .arg 1 (t.map encI)) (.int .i64 (t.length:Int)) (.int .i64 ((i:Nat):Int)) (.sl 1 0 Y.length none Y.length 1) (.int .i64 (Y.length:Int)) (.int .i64 ((j+1:Nat):Int)))) (H1:=fun _=>[bN n l,bI Y])
    (fun j hj=>by
      have hy:=hYin _ (mem_getD 0 (show j < Y.length by omega))
      have gy:=gs (l:=l) (y:=(Y.getD j 0).toNat) (by omega)
      have gxx:=gs (l:=l) (y:=(t.getD i 0).toNat) (by omega)
      rw [show (((Y.getD j 0).toNat:Nat):Int)=Y.getD j 0 by omega] at gy
      rw [show (((t.getD i 0).toNat:Nat):Int)=t.getD i 0 by omega] at gxx
      have s:=be_l_1 (F:=prBe) 0 n (l.map encT) (t.map encI) [bN n l,bI Y] i 1 Y.length j (t.getD i 0) (Y.getD j 0) _ _ _ _ _ _ (y10:=Ud) (y14:=Ud) (by omega) (idxS u24 z3 (by omega)) (load_out (H:=[bN n l,bI Y]) (k:=1) rfl (by omega)) gy gxx (hno j hj)
      rw [wrap_succ (by omega),lm] at s
      exact s) (fun j _=>by kernel_rfl) (fun j _=>gc_eq _ rfl) o hx (c:=sub [1,1,1,0,1,0,0,1,1,0,0,1,1,0] B35) (by kernel_rfl) (fun j _=>by kernel_rfl)
theorem better_ok:PrimOk Tp 35 better35:=by
  refine primOk_pure (pol:=plF prBe) (fn:=Try.f35) (cd:=B35) follows_mixed soundBe (by kernel_rfl) (by kernel_rfl) (fnok prBe _ _ (by kernel_rfl)) (by kernel_rfl) ?_
  intro args res h
  obtain ⟨n,l,t,rfl,hq⟩:=f3_inv h
  split at hq
  case isFalse=>cases hq
  rename_i hc
  obtain ⟨hl,htl⟩:=hc
  cases hq
  have a:=be_a_0 (F:=prBe) 0 n (l.map encT) (t.map encI)
  obtain ⟨N0,c39⟩:=CallsTo.from (nw_call nwF_be (H:=[]) (Nat.le_refl _) n (l:=l) (by omega))
  cases hnet:netB n l with
  | false =>
    rw [hnet] at c39
    have b:=be_b_1 (F:=prBe) N0 n (l.map encT) (t.map encI) (y9:=Ud) (y10:=Ud) (y12:=Ud) (y14:=Ud) (y29:=Ud) (y30:=Ud) (y31:=Ud) (y38:=Ud) (y39:=Ud) (y40:=Ud) c39 rfl stN
    have ct:=be_cf_0 (F:=prBe) 0 n (l.map encT) (t.map encI) [bN n l] (y12:=Ud) (y14:=Ud) (y29:=Ud) (y30:=Ud) (y31:=Ud) (y38:=Ud) (y39:=Ud) (y40:=Ud)
    refine ⟨_,_,_,.tuple [.int .i64 0,.int .i64 0,.int .i64 2],sq (a) (sq (b) (sqo (ct) (c:=sub [1,1] B35) (b:=sub [1,1,1] B35)) (c:=sub [1] B35)) (c:=B35),by simp,by simp only [resultsV,res35]; rfl,?_⟩
    rw [beT,if_neg (by rw [okBe,hnet]; simp)]; rfl
  | true =>
    rw [hnet] at c39
    obtain ⟨⟨n1,n2⟩,n3,he,hw⟩:=netB_ends hnet
    have heB:=endN_B he (by omega)
    have b:=be_b_0 (F:=prBe) N0 n (l.map encT) (t.map encI) (y9:=Ud) (y10:=Ud) (y12:=Ud) (y14:=Ud) (y29:=Ud) (y30:=Ud) (y31:=Ud) (y38:=Ud) (y39:=Ud) (y40:=Ud) c39 rfl stN
    have c58:=at2 (pol':=plF prBe) (g:=58) (c1:=kN) (c2:=kL) (f:=fun p t=>if (endB p.2=true∧0 ≤ p.1∧p.1 ≤ 16)∧t.length ≤ 500∧p.2.length ≤ 500 then some (.bool (isP p.1 p.2 t)) else none) (H:=[bN n l]) (by kernel_rfl) (ShN _ n l) (ShL_imm _ t) (if_pos ⟨⟨heB,by show 0 ≤ n; omega,by show n ≤ 16; omega⟩,by omega,by show l.length ≤ 500; omega⟩)
    cases hP:isP n l t with
    | false =>
      simp only [hP] at c58
      have ct:=be_ct_1 (F:=prBe) 0 n (l.map encT) (t.map encI) [bN n l] (y12:=Ud) (y14:=Ud) (y29:=Ud) (y30:=Ud) (y31:=Ud) (y38:=Ud) (y39:=Ud) (y40:=Ud) (ld66 rfl) c58
      refine ⟨_,_,_,.tuple [.int .i64 0,.int .i64 0,.int .i64 2],sq (a) (sq (b) (sqo (ct) (c:=sub [1,1] B35) (b:=sub [1,1,1] B35)) (c:=sub [1] B35)) (c:=B35),by simp,by simp only [resultsV,res35]; rfl,?_⟩
      rw [beT,if_neg (by rw [okBe,hP]; simp)]; rfl
    | true =>
      simp only [hP] at c58
      have ct:=be_ct_0 (F:=prBe) 0 n (l.map encT) (t.map encI) [bN n l] (y12:=Ud) (y14:=Ud) (y29:=Ud) (y30:=Ud) (y31:=Ud) (y38:=Ud) (y39:=Ud) (y40:=Ud) (ld66 rfl) c58
      rw [beT,if_pos (by rw [okBe,hP,hnet]; rfl)]
      have hin:∀ x ∈ t,0 ≤ x∧x < (l.length:Int):=by
        have:=hP
        simp only [isP,Bool.and_eq_true] at this
        exact inR_iff.1 (ascT_in this.1)
      have lm:((t.map encI).length:Int)=(t.length:Int):=by rw [List.length_map]
      have d:=be_d_0 (F:=prBe) 0 n (l.map encT) (t.map encI) [bN n l] (y10:=.bool true) (y12:=Ud) (y14:=Ud) (y29:=Ud) (y30:=Ud) (y31:=Ud) (y38:=Ud) (y39:=Ud) (y40:=Ud)
      rw [lm] at d
      have hYin:∀ i,∀ y ∈ beY l t i,0 ≤ y∧y < (l.length:Int):=fun i y hy=>startT_mem.1 (List.mem_filter.1 hy).1
      have hYl:∀ i,(beY l t i).length ≤ l.length:=fun i=>ins_len ..
      have c59:∀ i,i < t.length → ∀ k,callN Tp (plF prBe) (k+1) 59 [encN n l,.imm .arg 1 (t.map encI),.int .i64 (t.getD i 0)] [bN n l]=some (.sl 1 0 (beY l t i).length none (beY l t i).length 1,[bN n l,bI (beY l t i)]):=fun i hi=>by
        have:=at3 (pol':=plF prBe) (g:=59) (c1:=kN) (c2:=kL) (c3:=kI) (f:=fun p t o=>if (endB p.2=true∧p.2.length ≤ 500)∧inR p.2.length t=true∧t ≠ []∧t.length ≤ 500 then some (.own 1 ((insT p.2 t o p.2.length).map encI)) else none) (H:=[bN n l]) (by kernel_rfl) (ShN _ n l) (ShL_imm _ t) (ShI _ (t.getD i 0)) (if_pos ⟨⟨heB,by show l.length ≤ 500; omega⟩,inR_iff.2 hin,fun h=>by rw [h] at hi; simp at hi,by omega⟩)
        rw [recv_ints] at this
        exact this
      -- what comes ahead of the inner loop
      have last:∀ i,i < t.length → ∀ m,m ≤ (beY l t i).length → (∀ j,j < m → ¬ wOf l ((beY l t i).getD j 0) < wOf l (t.getD i 0)) → ∀ (x:X) (E':Env),x ≠ .normal → (∀ Y,Y=beY l t i → RunsTo Tp (plF prBe) 35 (sub [1,1,1,0,1,0,0,1,1,0,0,1,1,0,0] B35) ((env35 (.int .i64 n) (.imm .arg 3 (l.map encT)) (.imm .arg 1 (t.map encI)) (.int .i64 0) (.int .i64 0) (.int .i64 0) (.ptr 0 0 0 1) Ud (.int .i64 (t.getD i 0)) Ud (.imm .arg 1 (t.map encI)) (.int .i64 (t.length:Int)) (.int .i64 ((i:Nat):Int)) (.sl 1 0 Y.length none Y.length 1) (.int .i64 (Y.length:Int)) (.int .i64 ((m:Nat):Int)))) [bN n l,bI Y] x ((plF prBe).keys 35) E' [bN n l,bI Y]) →
          RunsTo Tp (plF prBe) 35 (sub [1,1,1,0,1,0,0,1,1,0,0,1,1,0] B35) (let Y:=beY l t i; (env35 (.int .i64 n) (.imm .arg 3 (l.map encT)) (.imm .arg 1 (t.map encI)) (.int .i64 0) (.int .i64 0) (.int .i64 0) (.ptr 0 0 0 1) Ud (.int .i64 (t.getD i 0)) Ud (.imm .arg 1 (t.map encI)) (.int .i64 (t.length:Int)) (.int .i64 ((i:Nat):Int)) (.sl 1 0 Y.length none Y.length 1) (.int .i64 (Y.length:Int)) (.int .i64 ((0:Nat):Int)))) [bN n l,bI (beY l t i)] x ((plF prBe).keys 35) E' [bN n l,bI (beY l t i)]:=fun i hi m hm hno x E' hx out=>better_round hnet hin htl hi hm hno hx out
      have pass:∀ i,i < t.length → beG l t i=none → ∃ H1,RunsTo Tp (plF prBe) 35 (sub [1,1,1,0,1,0,0] B35) ((env35 (.int .i64 n) (.imm .arg 3 (l.map encT)) (.imm .arg 1 (t.map encI)) (.int .i64 0) (.int .i64 0) (.int .i64 0) (.ptr 0 0 0 1) Ud Ud Ud (.imm .arg 1 (t.map encI)) (.int .i64 (t.length:Int)) (.int .i64 ((i:Nat):Int)) Ud Ud Ud)) [bN n l] .normal ((plF prBe).keys 35) (let Y:=beY l t i; (env35 (.int .i64 n) (.imm .arg 3 (l.map encT)) (.imm .arg 1 (t.map encI)) (.int .i64 0) (.int .i64 0) (.int .i64 0) (.ptr 0 0 0 1) Ud (.int .i64 (t.getD i 0)) Ud (.imm .arg 1 (t.map encI)) (.int .i64 (t.length:Int)) (.int .i64 ((i+1:Nat):Int)) (.sl 1 0 Y.length none Y.length 1) (.int .i64 (Y.length:Int)) (.int .i64 (Y.length:Int)))) H1∧H1=[bN n l,bI (beY l t i)]:=fun i hi hg=>by
        have h3:=fN_none hg
        have s1:=be_e_0 (F:=prBe) 0 n (l.map encT) (t.map encI) [bN n l] i (y10:=Ud) (y12:=Ud) (y14:=Ud) (y38:=Ud) (y39:=Ud) (y40:=Ud) (by rw [lm]; omega)
        have s2:=be_et_0 (F:=prBe) 0 n (l.map encT) (t.map encI) [bN n l] i (y10:=Ud) (y12:=Ud) (y14:=Ud) (y38:=Ud) (y39:=Ud) (y40:=Ud)
        have s3:=be_f_0 (F:=prBe) 0 n (l.map encT) (t.map encI) [bN n l] i (t.getD i 0) (y10:=Ud) (y12:=Ud) (y14:=Ud) (y38:=Ud) (y39:=Ud) (y40:=Ud) (gx hi)
        have s4:=be_g_0 (F:=prBe) 0 n (l.map encT) (t.map encI) [bN n l] i 1 (beY l t i).length (t.getD i 0) (y10:=Ud) (y14:=Ud) (y38:=Ud) (y39:=Ud) (y40:=Ud) (ld66 rfl) (c59 i hi)
        have r:=last i hi (beY l t i).length (Nat.le_refl _) (fun j hj=>of_decide_eq_false (h3 j (Nat.zero_le _) (by omega))) (.exit 2) _ (by simp) (fun Y hY=>by
          subst hY
          have s:=be_l_2 (F:=prBe) 0 n (l.map encT) (t.map encI) [bN n l,bI (beY l t i)] i 1 (beY l t i).length (beY l t i).length (t.getD i 0) 0 0 0 0 0 0 0 (y10:=Ud) (y14:=Ud) (by omega)
          rw [lm] at s
          exact s)
        have s5:=be_h_0 (F:=prBe) 0 n (l.map encT) (t.map encI) [bN n l,bI (beY l t i)] i (y12:=.int .i64 (t.getD i 0)) (y38:=.sl 1 0 (beY l t i).length none (beY l t i).length 1) (y39:=.int .i64 ((beY l t i).length:Int)) (y40:=.int .i64 ((beY l t i).length:Int)) (y10:=Ud) (y14:=Ud)
        rw [wrap_succ (by omega)] at s5
        rw [lm] at s1 s2 s3 s4 s5
        exact ⟨_,sq (s1) (sq (s2) (sq (RunsTo.block_normal (i:=1) (c:=sub [1,1,1,0,1,0,0,1,1,0] B35) (sq (s3) (sq (s4) (bke (c:=sub [1,1,1,0,1,0,0,1,1,0,0,1,1] B35) (r)) (c:=sub [1,1,1,0,1,0,0,1,1,0,0,1] B35)) (c:=sub [1,1,1,0,1,0,0,1,1,0,0] B35)) (by kernel_rfl)) (s5) (c:=sub [1,1,1,0,1,0,0,1,1] B35)) (c:=sub [1,1,1,0,1,0,0,1] B35)) (c:=sub [1,1,1,0,1,0,0] B35),rfl⟩
      have gcs:∀ i r,r ≤ 1 → gc 1 r [bN n l,bI (beY l t i)]=[bN n l]:=fun i r hr=>gc_back (H:=[bN n l]) (by show max 0 (max 0 0) ≤ 1; decide) hr
      have outer:∀ m,m ≤ t.length → (∀ i,i < m → beG l t i=none) → ∀ (x:X) (E':Env) (H':Heap),x ≠ .normal → RunsTo Tp (plF prBe) 35 (sub [1,1,1,0,1,0,0] B35) ((env35 (.int .i64 n) (.imm .arg 3 (l.map encT)) (.imm .arg 1 (t.map encI)) (.int .i64 0) (.int .i64 0) (.int .i64 0) (.ptr 0 0 0 1) Ud Ud Ud (.imm .arg 1 (t.map encI)) (.int .i64 (t.length:Int)) (.int .i64 ((m:Nat):Int)) Ud Ud Ud)) [bN n l] x ((plF prBe).keys 35) E' H' → RunsTo Tp (plF prBe) 35 (sub [1,1,1,0,1,0] B35) ((env35 (.int .i64 n) (.imm .arg 3 (l.map encT)) (.imm .arg 1 (t.map encI)) (.int .i64 0) (.int .i64 0) (.int .i64 0) (.ptr 0 0 0 1) Ud Ud Ud (.imm .arg 1 (t.map encI)) (.int .i64 (t.length:Int)) (.int .i64 ((0:Nat):Int)) Ud Ud Ud)) [bN n l] x ((plF prBe).keys 35) E' H':=fun m hm hno x E' H' hx out =>
        count (pol':=plF prBe) (f:=35) (E:=fun i=>(env35 (.int .i64 n) (.imm .arg 3 (l.map encT)) (.imm .arg 1 (t.map encI)) (.int .i64 0) (.int .i64 0) (.int .i64 0) (.ptr 0 0 0 1) Ud Ud Ud (.imm .arg 1 (t.map encI)) (.int .i64 (t.length:Int)) (.int .i64 ((i:Nat):Int)) Ud Ud Ud)) (Hs:=fun _=>[bN n l]) m (E0:=fun i=>let Y:=beY l t i; (env35 (.int .i64 n) (.imm .arg 3 (l.map encT)) (.imm .arg 1 (t.map encI)) (.int .i64 0) (.int .i64 0) (.int .i64 0) (.ptr 0 0 0 1) Ud (.int .i64 (t.getD i 0)) Ud (.imm .arg 1 (t.map encI)) (.int .i64 (t.length:Int)) (.int .i64 ((i+1:Nat):Int)) (.sl 1 0 Y.length none Y.length 1) (.int .i64 (Y.length:Int)) (.int .i64 (Y.length:Int)))) (H1:=fun i=>[bN n l,bI (beY l t i)])
          (fun i hi=>by obtain ⟨H1,h1,h2⟩:=pass i (by omega) (hno i hi); rw [← h2]; exact h1) (fun i _=>by kernel_rfl) (fun i _=>gcs i _ (by simp only [bndE,bnd,bndL]; decide)) out hx (c:=sub [1,1,1,0,1,0] B35) (by kernel_rfl) (fun i _=>by kernel_rfl)
      unfold beO
      cases hF:beF l t with
      | none =>
        have h3:=fN_none hF
        have no:∀ i,i < t.length → beG l t i=none:=fun i hi=>by
          have:=h3 i (Nat.zero_le _) (by omega)
          cases c:beG l t i with
          | none=>rfl
          | some x=>rw [c] at this; cases this
        have s1:=be_e_1 (F:=prBe) 0 n (l.map encT) (t.map encI) [bN n l] t.length (y10:=Ud) (y12:=Ud) (y14:=Ud) (y38:=Ud) (y39:=Ud) (y40:=Ud) (by rw [lm]; omega)
        have s2:=be_ef_0 (F:=prBe) 0 n (l.map encT) (t.map encI) [bN n l] t.length (y10:=Ud) (y12:=Ud) (y14:=Ud) (y38:=Ud) (y39:=Ud) (y40:=Ud)
        rw [lm] at s1 s2
        have o:=outer t.length (Nat.le_refl _) no _ _ _ (by simp) (sq (s1) (sqo (s2) (c:=sub [1,1,1,0,1,0,0,1] B35) (b:=sub [1,1,1,0,1,0,0,1,1] B35)) (c:=sub [1,1,1,0,1,0,0] B35))
        have z:=be_z_0 (F:=prBe) 0 n (l.map encT) (t.map encI) [bN n l] (y29:=.imm .arg 1 (t.map encI)) (y30:=.int .i64 (t.length:Int)) (y31:=.int .i64 (t.length:Int)) (y10:=Ud) (y12:=Ud) (y14:=Ud) (y38:=Ud) (y39:=Ud) (y40:=Ud)
        exact ⟨_,_,_,.tuple [.int .i64 (-1),.int .i64 (-1),.int .i64 0],sq (a) (sq (b) (sq (ct) (sq (sq (d) (bke (c:=sub [1,1,1,0,1] B35) (lpi (e0:=(env35 (.int .i64 n) (.imm .arg 3 (l.map encT)) (.imm .arg 1 (t.map encI)) (.int .i64 0) (.int .i64 0) (.int .i64 0) (.ptr 0 0 0 1) (.bool true) Ud Ud (.imm .arg 1 (t.map encI)) (.int .i64 (t.length:Int)) (.int .i64 ((0:Nat):Int)) Ud Ud Ud)) o (b:=sub [1,1,1,0,1,0,0] B35))) (c:=sub [1,1,1,0] B35)) (z) (c:=sub [1,1,1] B35)) (c:=sub [1,1] B35)) (c:=sub [1] B35)) (c:=B35),by simp,by simp only [resultsV,res35]; rfl,rfl⟩
      | some i =>
        obtain ⟨_,h1,h2,h3⟩:=fN_some hF
        have hi:i < t.length:=by omega
        have no:∀ k,k < i → beG l t k=none:=fun k hk=>by
          have:=h3 k (Nat.zero_le _) hk
          cases c:beG l t k with
          | none=>rfl
          | some x=>rw [c] at this; cases this
        cases hG:beG l t i with
        | none=>rw [hG] at h2; cases h2
        | some j =>
          obtain ⟨_,g1,g2,g3⟩:=fN_some hG
          have hj:j < (beY l t i).length:=by omega
          have hxx:=hin _ (mem_getD 0 hi)
          have hy:=hYin i _ (mem_getD 0 hj)
          have s1:=be_e_0 (F:=prBe) 0 n (l.map encT) (t.map encI) [bN n l] i (y10:=Ud) (y12:=Ud) (y14:=Ud) (y38:=Ud) (y39:=Ud) (y40:=Ud) (by rw [lm]; omega)
          have s2:=be_et_0 (F:=prBe) 0 n (l.map encT) (t.map encI) [bN n l] i (y10:=Ud) (y12:=Ud) (y14:=Ud) (y38:=Ud) (y39:=Ud) (y40:=Ud)
          have s3:=be_f_0 (F:=prBe) 0 n (l.map encT) (t.map encI) [bN n l] i (t.getD i 0) (y10:=Ud) (y12:=Ud) (y14:=Ud) (y38:=Ud) (y39:=Ud) (y40:=Ud) (gx hi)
          have s4:=be_g_0 (F:=prBe) 0 n (l.map encT) (t.map encI) [bN n l] i 1 (beY l t i).length (t.getD i 0) (y10:=Ud) (y14:=Ud) (y38:=Ud) (y39:=Ud) (y40:=Ud) (ld66 rfl) (c59 i hi)
          have r:=last i hi j (by omega) (fun k hk=>of_decide_eq_false (g3 k (Nat.zero_le _) hk)) .ret _ (by simp) (fun Y hY=>by
            subst hY
            have gy:=gs (l:=l) (y:=((beY l t i).getD j 0).toNat) (by omega)
            have gxx:=gs (l:=l) (y:=(t.getD i 0).toNat) (by omega)
            rw [show ((((beY l t i).getD j 0).toNat:Nat):Int)=(beY l t i).getD j 0 by omega] at gy
            rw [show (((t.getD i 0).toNat:Nat):Int)=t.getD i 0 by omega] at gxx
            have s:=be_l_0 (F:=prBe) 0 n (l.map encT) (t.map encI) [bN n l,bI (beY l t i)] i 1 (beY l t i).length j (t.getD i 0) ((beY l t i).getD j 0) _ _ _ _ _ _ (y10:=Ud) (y14:=Ud) (by omega) (idxS u24 z3 (by omega)) (load_out (H:=[bN n l,bI (beY l t i)]) (k:=1) rfl (by omega)) gy gxx (of_decide_eq_true g2)
            rw [lm] at s
            exact s)
          rw [lm] at s1 s2 s3 s4
          have o:=outer i (by omega) no _ _ _ (by simp) (sq (s1) (sq (s2) (sqo (RunsTo.block_ret (i:=1) (c:=sub [1,1,1,0,1,0,0,1,1,0] B35) (sq (s3) (sq (s4) (RunsTo.block_ret (i:=2) (c:=sub [1,1,1,0,1,0,0,1,1,0,0,1,1] B35) (r) (by kernel_rfl)) (c:=sub [1,1,1,0,1,0,0,1,1,0,0,1] B35)) (c:=sub [1,1,1,0,1,0,0,1,1,0,0] B35)) (by kernel_rfl)) (c:=sub [1,1,1,0,1,0,0,1,1] B35) (b:=sub [1,1,1,0,1,0,0,1,1,1] B35)) (c:=sub [1,1,1,0,1,0,0,1] B35)) (c:=sub [1,1,1,0,1,0,0] B35))
          exact ⟨_,_,_,.tuple [.int .i64 (t.getD i 0),.int .i64 ((beY l t i).getD j 0),.int .i64 0],sq (a) (sq (b) (sq (ct) (sqo (sq (d) (RunsTo.block_ret (i:=0) (c:=sub [1,1,1,0,1] B35) (lpi (e0:=(env35 (.int .i64 n) (.imm .arg 3 (l.map encT)) (.imm .arg 1 (t.map encI)) (.int .i64 0) (.int .i64 0) (.int .i64 0) (.ptr 0 0 0 1) (.bool true) Ud Ud (.imm .arg 1 (t.map encI)) (.int .i64 (t.length:Int)) (.int .i64 ((0:Nat):Int)) Ud Ud Ud)) o (b:=sub [1,1,1,0,1,0,0] B35)) (by kernel_rfl)) (c:=sub [1,1,1,0] B35)) (c:=sub [1,1,1] B35) (b:=sub [1,1,1,1] B35)) (c:=sub [1,1] B35)) (c:=sub [1] B35)) (c:=B35),by simp,by simp only [resultsV,res35]; rfl,by simp only [hG]; rfl⟩
end Go.Proofs.Ytiejmoglooaalaa
end
section
open Go Go.HL
namespace Go.Proofs.Ytiejmoglooaalaa
set_option linter.unusedSectionVars false
theorem wgt_nil (l:List St):wgt l []=0:=rfl
theorem wgt_cons (l:List St) (k:Int) (t:List Int):wgt l (k :: t)=wOf l k+wgt l t:=by rw [wgt,List.map_cons,List.sum_cons]; rfl
theorem wgt_app (l:List St) (s t:List Int):wgt l (s ++ t)=wgt l s+wgt l t:=by rw [wgt,List.map_append,List.sum_append]; rfl
theorem wgt_wo (l:List St) {k:Int}:∀ {t:List Int},t.Nodup → k ∈ t → wgt l t=wOf l k+wgt l (wo t k)
  | [],_,h=>by cases h
  | x :: t,hn,h=>by
    obtain ⟨h1,h2⟩:=List.nodup_cons.1 hn
    by_cases e:x=k
    · subst e
      have:wo (x :: t) x=t:=by
        rw [wo,List.filter_cons_of_neg (by simp)]
        exact List.filter_eq_self.2 fun y hy=>decide_eq_true fun (c:y=x)=>h1 (c ▸ hy)
      rw [this,wgt_cons]
    · have hm:=(List.mem_cons.1 h).resolve_left fun c=>e c.symm
      have:wo (x :: t) k=x :: wo t k:=by rw [wo,List.filter_cons_of_pos (by simpa using e)]; rfl
      rw [this,wgt_cons,wgt_cons,wgt_wo l h2 hm]
      omega
theorem wgt_same (l:List St):∀ {a b:List Int},a.Nodup → b.Nodup → (∀ x,x ∈ a ↔ x ∈ b) → wgt l a=wgt l b
  | [],b,_,_,h=>by
    have:b=[]:=List.eq_nil_iff_forall_not_mem.2 fun x hx=>by cases (h x).2 hx
    rw [this]
  | x :: a,b,ha,hb,h=>by
    obtain ⟨h1,h2⟩:=List.nodup_cons.1 ha
    have hx:x ∈ b:=(h x).1 (List.mem_cons_self ..)
    rw [wgt_wo l hb hx,wgt_cons]
    refine congrArg (wOf l x+·) (wgt_same l h2 (hb.sublist List.filter_sublist) fun y=>?_)
    rw [mem_wo]
    constructor
    · intro hy
      exact ⟨(h y).1 (List.mem_cons_of_mem _ hy),fun c=>h1 (c ▸ hy)⟩
    · intro ⟨hy,hne⟩
      exact (List.mem_cons.1 ((h y).2 hy)).resolve_left hne
theorem asc_of {m:Nat} {t:List Int} (h:ascT m t=true):t.Pairwise (· < ·)∧∀ k ∈ t,0 ≤ k∧k < (m:Int):=by
  have hin:=inR_iff.1 (ascT_in h)
  refine ⟨?_,hin⟩
  rw [ascT] at h
  cases hf:fN (fun i=>!okA m t i) t.length 0 with
  | some i=>rw [hf] at h; cases h
  | none =>
    have h3:=fN_none hf
    have step:∀ i,0 < i → i < t.length → t.getD (i - 1) 0 < t.getD i 0:=fun i h0 hi=>by
      have:=h3 i (Nat.zero_le _) (by omega)
      have:okA m t i=true:=by simpa using this
      have:=of_decide_eq_true this
      rcases this.2 with c | c
      · omega
      · exact c
    have far:∀ d i,i+d+1 < t.length → t.getD i 0 < t.getD (i+d+1) 0:=by
      intro d
      induction d with
      | zero=>intro i hi; exact step (i+1) (by omega) hi
      | succ d ih =>
        intro i hi
        have h1:=ih i (by omega)
        have h2:=step (i+d+2) (by omega) hi
        rw [show i+d+2 - 1=i+d+1 by omega] at h2
        show t.getD i 0 < t.getD (i+d+2) 0
        omega
    refine List.pairwise_iff_getElem.2 fun i j hi hj hij=>?_
    have:=far (j - i - 1) i (by omega)
    rw [show i+(j - i - 1)+1=j by omega,getD_at hi,getD_at hj] at this
    exact this
theorem sel_len {l:List St} {t:List Int} (hn:t.Nodup) (ht:∀ k ∈ t,0 ≤ k∧k < (l.length:Int)):(selT l t).length=(tkT l t).length:=by
  have hs:=tk_sublist l t _ (Nat.le_refl _)
  rw [List.take_length] at hs
  refine nodup_len ((startT_nodup _).sublist List.filter_sublist) (hs.nodup hn) fun x=>?_
  rw [selT,List.mem_filter,decide_eq_true_eq]
  exact ⟨fun h=>h.2,fun h=>⟨startT_mem.2 (ht x (hs.subset h)),h⟩⟩
theorem isT_tr {n:Int} {l:List St} {t:List Int} (h:isT n l t=true):Tr n l t∧t.Pairwise (· < ·):=by
  simp only [isT,Bool.and_eq_true,decide_eq_true_eq] at h
  obtain ⟨h1,h2,h3⟩:=h
  obtain ⟨h4,h5⟩:=asc_of h1
  rw [sel_len (asc_nodup h4) h5] at h3
  exact ⟨⟨h5,asc_nodup h4,h2,by omega⟩,h4⟩
theorem tr_isT {n:Int} {l:List St} {t:List Int} (h:Tr n l t) (ha:t.Pairwise (· < ·)):isT n l t=true:=by
  have:=h.ln
  have h2:=h.fo
  rw [isT,ascT_of ha h.rg,sel_len h.nd h.rg,h2,decide_eq_true h.ln]; rfl
theorem isP_isT {n:Int} {l:List St} {t:List Int}:isP n l t=isT n l t:=by
  unfold isP isT
  cases h:ascT l.length t with
  | false=>rfl
  | true =>
    obtain ⟨h4,h5⟩:=asc_of h
    rw [sel_len (asc_nodup h4) h5]; rfl
theorem Tr.perm {n:Int} {l:List St} (hnet:netB n l=true) {t s:List Int} (h:Tr n l t) (hs:s.Nodup) (hm:∀ x,x ∈ t ↔ x ∈ s):Tr n l s:=by
  have hl:=nodup_len h.nd hs hm
  refine ⟨fun k hk=>h.rg k ((hm k).2 hk),hs,by have:=h.ln; omega,?_⟩
  rw [← tk_len_same (endB_net hnet) h.rg hm,h.fo,hl]
section
variable {n:Int} {l:List St} (hnet:netB n l=true)
include hnet
theorem Tr.exch {t:List Int} (h:Tr n l t) {k j:Int} (hk:k ∈ t) (hj:0 ≤ j∧j < (l.length:Int)) (hjt:j ∉ t) (hJ:joinsT l t k j):Tr n l (wo t k ++ [j]):=by
  have hn:(wo t k ++ [j]).Nodup:=List.nodup_append.2 ⟨h.nd.sublist List.filter_sublist,by simp,fun a ha b hb=>by rw [List.mem_singleton.1 hb]; exact fun c=>hjt (c ▸ (mem_wo.1 ha).1)⟩
  have hlen:(wo t k ++ [j]).length=t.length:=by rw [List.length_append,List.length_singleton,wo_len h.nd hk]
  refine ⟨fun x hx=>?_,hn,by rw [hlen]; exact h.ln,?_⟩
  · rcases List.mem_append.1 hx with e | e
    · exact h.rg x (mem_wo.1 e).1
    · rw [List.mem_singleton.1 e]; exact hj
  · rw [hlen]
    exact (exch_len (endB_net hnet) h.rg h.nd h.fo hk hj (fun _=>Iff.rfl)).2 hJ
omit hnet in
theorem exch_wgt {t:List Int} (hn:t.Nodup) {k j:Int} (hk:k ∈ t):wgt l (wo t k ++ [j])=wgt l t - wOf l k+wOf l j:=by
  rw [wgt_app,wgt_cons,wgt_nil,wgt_wo l hn hk]; omega
theorem sw_tr {t:List Int} (h:Tr n l t) (ha:t.Pairwise (· < ·)) {k j:Int} (hk:k ∈ t) (hj:0 ≤ j∧j < (l.length:Int)) (hjt:j ∉ t) (hJ:joinsT l t k j):isT n l (swT k j t)=true∧wgt l (swT k j t)=wgt l t - wOf l k+wOf l j:=by
  have hA:=swT_asc (o:=k) ha hjt
  have hM:=swT_mem (o:=k) ha hjt
  have h1:=Tr.exch hnet h hk hj hjt hJ
  refine ⟨tr_isT (Tr.perm hnet h1 (asc_nodup hA) fun x=>(hM x).symm) hA,?_⟩
  rw [wgt_same l (asc_nodup hA) h1.nd hM,exch_wgt h.nd hk]
theorem fr_tr (hc:connB n l=true):Tr n l (frT l):=Tr.perm hnet (first_tr hnet hc) (asc_nodup (frT_asc l)) fun _=>frT_mem.symm
omit hnet in
theorem fr_wgt:wgt l (frT l)=wgt l (treeT l):=wgt_same l (asc_nodup (frT_asc l)) (tree_nodup' l) fun _=>frT_mem
theorem fr_min {s:List Int} (hs:Tr n l s):wgt l (frT l) ≤ wgt l s:=by rw [fr_wgt]; exact first_min hnet hs
omit hnet in
theorem beF_none {t:List Int} (h:beF l t=none):Loc l t:=fun k hk j hj hjt hJ=>by
  obtain ⟨i,hi,rfl⟩:=List.getElem_of_mem hk
  have h1:=fN_none h i (Nat.zero_le _) (by omega)
  cases hG:beG l t i with
  | some x=>rw [hG] at h1; cases h1
  | none =>
    have hy:j ∈ beY l t i:=List.mem_filter.2 ⟨startT_mem.2 hj,decide_eq_true ⟨hjt,by rw [getD_at hi]; exact hJ⟩⟩
    obtain ⟨m,hm,rfl⟩:=List.getElem_of_mem hy
    have h2:=fN_none hG m (Nat.zero_le _) (by omega)
    have:=of_decide_eq_false h2
    rw [getD_at hi,getD_at hm] at this
    omega
theorem better_law {t:List Int} (h:isT n l t=true) :
    connB n l=true∧(wgt l t=wgt l (frT l) → beO l t=(-1,-1)) ∧
    (wgt l t ≠ wgt l (frT l) → (beO l t).1 ∈ t∧(beO l t).2 ∉ t∧(0 ≤ (beO l t).2∧(beO l t).2 < (l.length:Int))∧isT n l (swT (beO l t).1 (beO l t).2 t)=true∧wgt l (swT (beO l t).1 (beO l t).2 t) < wgt l t):=by
  obtain ⟨hT,ha⟩:=isT_tr h
  have hc:=conn_of hnet hT
  have hfr:=fr_tr hnet hc
  cases hF:beF l t with
  | none =>
    have h1:=loc_min hnet hT (beF_none hF) hfr
    have h2:=fr_min hnet hT
    refine ⟨hc,fun _=>by unfold beO; rw [hF],fun h3=>absurd (by omega) h3⟩
  | some i =>
    obtain ⟨_,h1,h2,h3⟩:=fN_some hF
    have hi:i < t.length:=by omega
    cases hG:beG l t i with
    | none=>rw [hG] at h2; cases h2
    | some j =>
      obtain ⟨_,g1,g2,g3⟩:=fN_some hG
      have hj:j < (beY l t i).length:=by omega
      have hlt:=of_decide_eq_true g2
      have e:beO l t=(t.getD i 0,(beY l t i).getD j 0):=by simp only [beO,hF,hG]
      have hm:(beY l t i).getD j 0 ∈ startT l.length∧decide ((beY l t i).getD j 0 ∉ t∧joinsT l t (t.getD i 0) ((beY l t i).getD j 0))=true:=List.mem_filter.1 (show (beY l t i).getD j 0 ∈ _ from mem_getD 0 hj)
      have hr:=startT_mem.1 hm.1
      have hp:=of_decide_eq_true hm.2
      have hti:=mem_getD 0 hi
      obtain ⟨s1,s2⟩:=sw_tr hnet hT ha hti hr hp.1 hp.2
      rw [e]
      refine ⟨hc,fun h4=>?_,fun _=>⟨hti,hp.1,hr,s1,?_⟩⟩
      · exfalso
        have:=fr_min hnet (isT_tr s1).1
        have h4':wgt l t=wgt l (frT l):=h4
        have hlt':wOf l ((beY l t i).getD j 0) < wOf l (t.getD i 0):=hlt
        omega
      · show wgt l (swT (t.getD i 0) ((beY l t i).getD j 0) t) < wgt l t
        have hlt':wOf l ((beY l t i).getD j 0) < wOf l (t.getD i 0):=hlt
        omega
end
end Go.Proofs.Ytiejmoglooaalaa
end
section
open Go Go.HL
namespace Go.Proofs.Ytiejmoglooaalaa
open Go.Proofs.Try renaming prog → Tp
open Go.HL.HV renaming undef → Ud
def prAw:FuncId → Option (List HV → Option HV):=fun g=>if g == 21 then some ints21 else if g == 52 then some within52 else if g == 54 then some ordered54 else if g == 40 then some tree40 else if g == 71 then some cmp71 else if g == 70 then some fst70 else none
theorem soundAw (n:Nat):CallSound Tp (callN Tp (plF prAw) n):=sound_prim _ (fun g f h=>by
  unfold prAw at h
  split at h
  · rename_i hg; cases h; rw [eq_of_beq hg]; exact ints_ok
  split at h
  · rename_i hg; cases h; rw [eq_of_beq hg]; exact within_ok
  split at h
  · rename_i hg; cases h; rw [eq_of_beq hg]; exact ordered_ok
  split at h
  · rename_i hg; cases h; rw [eq_of_beq hg]; exact tree_ok
  split at h
  · rename_i hg; cases h; rw [eq_of_beq hg]; exact cmp_ok
  split at h
  · rename_i hg; cases h; rw [eq_of_beq hg]; exact fst_ok
  · cases h) n
set_option maxRecDepth 100000 in
theorem awake_run:callN Tp (plF prAw) 400 18 [] []=some (.bool true,[]):=by kernel_rfl
end Go.Proofs.Ytiejmoglooaalaa
end
section
open Go Go.HL
namespace Go.Proofs.Ytiejmoglooaalaa
open Go.Proofs.Try renaming prog → Tp
open Go.HL.HV renaming undef → Ud
def awakeF:List HV → Option HV | []=>some (.bool true) | _=>none
theorem awake_prim:PrimOk Tp 18 awakeF:=by
  refine primOk_of (pol:=plF prAw) soundAw (by kernel_rfl) fun args res h=>?_
  match args,h with
  | [],h =>
    cases h
    exact ⟨400,_,_,false,awake_run,rfl⟩
theorem awake_at {pol':Pol} (hp:pol'.prim 18=some awakeF) (H:Heap):∀ k,callN Tp pol' (k+1) 18 [] H=some (.bool true,H):=fun k=>by
  rw [prim_call (pol:=pol') (g:=18) (F:=awakeF) hp (rs:=[]) rfl (res:=.bool true) rfl]; rfl
end Go.Proofs.Ytiejmoglooaalaa
end
section
open Go Go.HL
namespace Go.Proofs.Ytiejmoglooaalaa
open Go.Proofs.Try renaming prog → Tp
open Go.HL.HV renaming undef → Ud
def prL10:FuncId → Option (List HV → Option HV):=fun g=>if g == 18 then some awakeF else if g == 13 then some net13 else if g == 34 then some list34 else if g == 17 then some rnet17 else if g == 20 then some first20 else if g == 28 then some rtree28 else if g == 35 then some better35 else if g == 22 then some rweight22 else if g == 36 then some swapped36 else none
theorem soundL10 (n:Nat):CallSound Tp (callN Tp (plF prL10) n):=sound_prim _ (fun g f h=>by
  unfold prL10 at h
  split at h
  · rename_i hg; cases h; rw [eq_of_beq hg]; exact awake_prim
  split at h
  · rename_i hg; cases h; rw [eq_of_beq hg]; exact net_ok
  split at h
  · rename_i hg; cases h; rw [eq_of_beq hg]; exact list_ok
  split at h
  · rename_i hg; cases h; rw [eq_of_beq hg]; exact rnet_ok
  split at h
  · rename_i hg; cases h; rw [eq_of_beq hg]; exact first_ok
  split at h
  · rename_i hg; cases h; rw [eq_of_beq hg]; exact rtree_ok
  split at h
  · rename_i hg; cases h; rw [eq_of_beq hg]; exact better_ok
  split at h
  · rename_i hg; cases h; rw [eq_of_beq hg]; exact rweight_ok
  split at h
  · rename_i hg; cases h; rw [eq_of_beq hg]; exact swapped_ok
  · cases h) n
theorem res10:Try.f10.results.toList=[.tmp 6]:=by kernel_rfl
abbrev polL10:Pol:=plF prL10
theorem recv_3 (a b e:Int) (H:Heap):recv (.tuple [.int .i64 a,.int .i64 b,.int .i64 e]) H=(.tuple [.int .i64 a,.int .i64 b,.int .i64 e],H):=rfl
theorem swT_len (l t:List Int) {o p:Int} (ha:t.Pairwise (· < ·)) (hp:p ∉ t):(swT o p t).length ≤ t.length+1:=by
  rw [swT_eq ha hp,List.length_append,List.length_cons]
  have h1:(wo (t.filter fun x=>decide (x < p)) o).length ≤ (t.filter fun x=>decide (x < p)).length:=List.length_filter_le _ _
  have h2:(wo (t.filter fun x=>decide (p < x)) o).length ≤ (t.filter fun x=>decide (p < x)).length:=List.length_filter_le _ _
  have h3:∀ s:List Int,(s.filter fun x=>decide (x < p)).length+(s.filter fun x=>decide (p < x)).length ≤ s.length:=by
    intro s
    induction s with
    | nil=>exact Nat.le_refl _
    | cons x s ih =>
      rw [List.filter_cons,List.filter_cons,List.length_cons]
      by_cases c1:x < p
      · rw [if_pos (decide_eq_true c1),if_neg (by simp; omega)]; simp only [List.length_cons]; omega
      · rw [if_neg (by simpa using c1)]
        split
        · simp only [List.length_cons]; omega
        · omega
  have:=h3 t
  omega
theorem better_loop {n:Int} {l own:List St} {la t:List Int} {H:Heap} (hH:H[1]?=some (bI t)) (htl:t.length ≤ 20) {a b:Int} (ha:a ∈ t) (hb:b ∉ t) :
    RT polL10 10 (sub [1,1,1,1,1,1,1,0,1,0] B10) ((env10 (.int .i64 n) (.imm .arg 3 (l.map encT)) (.imm .arg 1 (la.map encI)) (.bool false) (.sl 0 0 own.length none own.length 3) (.sl 1 0 t.length none t.length 1) (.int .i64 a) (.int .i64 b) (.int .i64 0) Ud (.bool false) (.bool true) (.int .i64 ((0:Nat):Int)) Ud)) H (.exit 0) ((env10 (.int .i64 n) (.imm .arg 3 (l.map encT)) (.imm .arg 1 (la.map encI)) (.bool false) (.sl 0 0 own.length none own.length 3) (.sl 1 0 t.length none t.length 1) (.int .i64 a) (.int .i64 b) (.int .i64 0) Ud (.bool true) (.bool true) (.int .i64 ((t.length:Nat):Int)) Ud)) H:=by
  have hstep:∀ i,i < t.length → RT polL10 10 (sub [1,1,1,1,1,1,1,0,1,0,0] B10) ((env10 (.int .i64 n) (.imm .arg 3 (l.map encT)) (.imm .arg 1 (la.map encI)) (.bool false) (.sl 0 0 own.length none own.length 3) (.sl 1 0 t.length none t.length 1) (.int .i64 a) (.int .i64 b) (.int .i64 0) Ud (.bool (decide (a ∈ t.take i))) (.bool true) (.int .i64 ((i:Nat):Int)) Ud)) H .normal ((env10 (.int .i64 n) (.imm .arg 3 (l.map encT)) (.imm .arg 1 (la.map encI)) (.bool false) (.sl 0 0 own.length none own.length 3) (.sl 1 0 t.length none t.length 1) (.int .i64 a) (.int .i64 b) (.int .i64 0) Ud (.bool (decide (a ∈ t.take (i+1)))) (.bool true) (.int .i64 ((i+1:Nat):Int)) Ud)) H:=fun i hi=>by
    have hy:=load_out hH hi
    have ix:=idxS (b:=1) (cap:=none) u24 z3 hi
    have hyb:¬ (t.getD i 0=b):=fun c=>hb (c ▸ mem_getD 0 hi)
    by_cases c:a ∈ t.take i
    · have c2:a ∈ t.take (i+1):=by rw [take_snoc hi]; exact List.mem_append_left _ c
      rw [decide_eq_true c,decide_eq_true c2]
      have s:=lb_k_1 (F:=prL10) n (l.map encT) (la.map encI) H 0 own.length 1 t.length a b 0 i (t.getD i 0) (y12:=Ud) (y17:=Ud) (by omega) ix hy hyb
      rw [wrap_succ (by omega)] at s
      exact s
    · rw [decide_eq_false c]
      by_cases e:t.getD i 0=a
      · have c2:a ∈ t.take (i+1):=by rw [take_snoc hi,e]; simp
        rw [decide_eq_true c2]
        have s:=lb_l_1 (F:=prL10) n (l.map encT) (la.map encI) H 0 own.length 1 t.length a b 0 i (t.getD i 0) (y12:=Ud) (y17:=Ud) (by omega) ix hy e ix hy hyb
        rw [wrap_succ (by omega)] at s
        exact s
      · have c2:a ∉ t.take (i+1):=by
          rw [take_snoc hi,List.mem_append,List.mem_singleton]
          exact fun h=>h.elim c fun h=>e h.symm
        rw [decide_eq_false c2]
        have s:=lb_l_3 (F:=prL10) n (l.map encT) (la.map encI) H 0 own.length 1 t.length a b 0 i (t.getD i 0) (y12:=Ud) (y17:=Ud) (by omega) ix hy e ix hy hyb
        rw [wrap_succ (by omega)] at s
        exact s
  have out:=lb_k_2 (F:=prL10) n (l.map encT) (la.map encI) H 0 own.length 1 t.length a b 0 t.length 0 (y12:=Ud) (y17:=Ud) (by omega)
  have r:=count (pol':=polL10) (f:=10) (E:=fun i=>(env10 (.int .i64 n) (.imm .arg 3 (l.map encT)) (.imm .arg 1 (la.map encI)) (.bool false) (.sl 0 0 own.length none own.length 3) (.sl 1 0 t.length none t.length 1) (.int .i64 a) (.int .i64 b) (.int .i64 0) Ud (.bool (decide (a ∈ t.take i))) (.bool true) (.int .i64 ((i:Nat):Int)) Ud)) (Hs:=fun _=>H) t.length (fun i hi=>hstep i hi) (fun i _=>by kernel_rfl) (fun i _=>gc_eq _ rfl) (by rw [List.take_length,decide_eq_true ha]; exact out) (by simp) (c:=sub [1,1,1,1,1,1,1,0,1,0] B10) (by kernel_rfl) (fun i _=>by kernel_rfl)
  exact r
theorem streetsBetter_law (n:Int) (l:List St) (la:List Int):∃ E H,RT polL10 10 B10 (args0 [.int .i64 n,.imm .arg 3 (l.map encT),.imm .arg 1 (la.map encI)]) [] .ret E H∧E.get 6=.bool true:=by
  have a:=lb_a_0 (F:=prL10) n (l.map encT) (la.map encI)
  have c13:=at1 (pol':=polL10) (g:=13) (c1:=kS) (f:=fun l=>some (.own 3 ((l.take 61).map encT))) (H:=[]) (by kernel_rfl) (ShS_imm _ l) rfl
  rw [recv_sts] at c13
  generalize hown:l.take 61=own at *
  have hol:own.length ≤ 61:=by rw [← hown,List.length_take]; omega
  have c34:=at1 (pol':=polL10) (g:=34) (c1:=kL) (f:=fun l=>some (.own 1 ((l.take 20).map encI))) (H:=[bS own]) (by kernel_rfl) (ShL_imm _ la) rfl
  rw [recv_ints] at c34
  generalize ht:la.take 20=t at *
  have htl:t.length ≤ 20:=by rw [← ht,List.length_take]; omega
  have b:=lb_b_0 (F:=prL10) n (l.map encT) (la.map encI) [] 0 own.length 1 t.length (y7:=Ud) (y8:=Ud) (y9:=Ud) (y10:=Ud) (y11:=Ud) (y12:=Ud) (y14:=Ud) (y15:=Ud) (y16:=Ud) (y17:=Ud) c13 c34
  have sS:∀ X:Heap,Sh kS ([bS own] ++ X) (.sl 0 0 own.length none own.length 3) own:=fun X=>ShS_sl rfl rfl
  have sT:∀ X:Heap,Sh kL ([bS own] ++ [bI t] ++ X) (.sl 1 0 t.length none t.length 1) t:=fun X=>ShL_sl rfl rfl
  have c35:=at3 (pol':=polL10) (g:=35) (c1:=kI) (c2:=kS) (c3:=kL) (f:=fun n l t=>if l.length ≤ 500∧t.length ≤ 500 then some (beT n l t) else none) (H:=[bS own] ++ [bI t]) (by kernel_rfl) (ShI _ n) (sS _) (sT []) (if_pos ⟨by omega,by omega⟩)
  have aw:∀ H,∀ k,callN Tp polL10 (k+1) 18 [] H=some (.bool true,H):=fun H=>awake_at (by kernel_rfl) H
  have c17:=at2 (pol':=polL10) (g:=17) (c1:=kI) (c2:=kS) (f:=fun n l=>if l.length ≤ 1000 then some (.bool (netB n l)) else none) (H:=[bS own] ++ [bI t]) (by kernel_rfl) (ShI _ n) (sS _) (if_pos (by omega))
  have bad:okBe n own t=false → beT n own t=.tuple [.int .i64 0,.int .i64 0,.int .i64 2]:=fun h=>by rw [beT,h]; rfl
  cases hnet:netB n own with
  | false =>
    rw [bad (by rw [okBe,hnet]; rfl),recv_3] at c35
    have c:=lb_c_0 (F:=prL10) n (l.map encT) (la.map encI) ([bS own] ++ [bI t]) 0 own.length 1 t.length 0 0 2 (y9:=Ud) (y10:=Ud) (y11:=Ud) (y12:=Ud) (y14:=Ud) (y15:=Ud) (y16:=Ud) (y17:=Ud) c35
    rw [hnet] at c17
    have d:=lb_d_5 (F:=prL10) n (l.map encT) (la.map encI) ([bS own] ++ [bI t]) 0 own.length 1 t.length 0 0 2 (y12:=Ud) (y14:=Ud) (y15:=Ud) (y16:=Ud) (y17:=Ud) c17 rfl rfl rfl (aw _)
    exact ⟨_,_,sq (a) (sq (b) (sq (c) (sqo (d) (c:=sub [1,1,1] B10) (b:=sub [1,1,1,1] B10)) (c:=sub [1,1] B10)) (c:=sub [1] B10)) (c:=B10),rfl⟩
  | true =>
    rw [hnet] at c17
    obtain ⟨⟨n1,n2⟩,n3,he,hw⟩:=netB_ends hnet
    have c28:=at3 (pol':=polL10) (g:=28) (c1:=kI) (c2:=kS) (c3:=kL) (f:=fun n l t=>if (0 ≤ n∧n ≤ 16)∧endN n l=true∧t.length ≤ 500∧l.length ≤ 500 then some (.bool (isT n l t)) else none) (H:=[bS own] ++ [bI t]) (by kernel_rfl) (ShI _ n) (sS _) (sT []) (if_pos ⟨by omega,he,by omega,by omega⟩)
    cases hT:isT n own t with
    | false =>
      rw [bad (by rw [okBe,isP_isT,hT,Bool.and_false]),recv_3] at c35
      have c:=lb_c_0 (F:=prL10) n (l.map encT) (la.map encI) ([bS own] ++ [bI t]) 0 own.length 1 t.length 0 0 2 (y9:=Ud) (y10:=Ud) (y11:=Ud) (y12:=Ud) (y14:=Ud) (y15:=Ud) (y16:=Ud) (y17:=Ud) c35
      rw [hT] at c28
      have d:=lb_d_1 (F:=prL10) n (l.map encT) (la.map encI) ([bS own] ++ [bI t]) 0 own.length 1 t.length 0 0 2 (y12:=Ud) (y14:=Ud) (y15:=Ud) (y16:=Ud) (y17:=Ud) c17 c28 rfl rfl rfl (aw _)
      exact ⟨_,_,sq (a) (sq (b) (sq (c) (sqo (d) (c:=sub [1,1,1] B10) (b:=sub [1,1,1,1] B10)) (c:=sub [1,1] B10)) (c:=sub [1] B10)) (c:=B10),rfl⟩
    | true =>
      rw [hT] at c28
      obtain ⟨hc,hs,hg⟩:=better_law hnet hT
      obtain ⟨hTr,hasc⟩:=isT_tr hT
      rw [beT,if_pos (by rw [okBe,isP_isT,hT,hnet]; rfl),recv_3] at c35
      generalize hbe:beO own t=p at *
      obtain ⟨pa,pb⟩:=p
      have c:=lb_c_0 (F:=prL10) n (l.map encT) (la.map encI) ([bS own] ++ [bI t]) 0 own.length 1 t.length pa pb 0 (y9:=Ud) (y10:=Ud) (y11:=Ud) (y12:=Ud) (y14:=Ud) (y15:=Ud) (y16:=Ud) (y17:=Ud) c35
      have d:=lb_d_0 (F:=prL10) n (l.map encT) (la.map encI) ([bS own] ++ [bI t]) 0 own.length 1 t.length pa pb 0 (y12:=Ud) (y14:=Ud) (y15:=Ud) (y16:=Ud) (y17:=Ud) c17 c28
      have c20:=at2 (pol':=polL10) (g:=20) (c1:=kI) (c2:=kS) (f:=fun n l=>if (0 ≤ n∧n ≤ 16)∧endN n l=true∧l.length ≤ 500 then some (.tuple [.own 1 ((frT l).map encI),.bool (frOk n l)]) else none) (H:=[bS own] ++ [bI t]) (by kernel_rfl) (ShI _ n) (sS _) (if_pos ⟨by omega,he,by omega⟩)
      rw [recv_tb,frOk_eq,hc] at c20
      have e:=lb_e_0 (F:=prL10) n (l.map encT) (la.map encI) ([bS own] ++ [bI t]) 0 own.length 1 t.length pa pb 0 2 (frT own).length (y12:=Ud) (y14:=Ud) (y15:=Ud) (y16:=Ud) (y17:=Ud) c20
      generalize hK:[bS own] ++ [bI t] ++ [bI (frT own)]=K at *
      have hK1:K=[bS own,bI t,bI (frT own)]:=by rw [← hK]; rfl
      have sS2:∀ X:Heap,Sh kS (K ++ X) (.sl 0 0 own.length none own.length 3) own:=fun X=>by rw [hK1]; exact ShS_sl rfl rfl
      have sT2:∀ X:Heap,Sh kL (K ++ X) (.sl 1 0 t.length none t.length 1) t:=fun X=>by rw [hK1]; exact ShL_sl rfl rfl
      have sS3:Sh kS K (.sl 0 0 own.length none own.length 3) own:=by have:=sS2 []; rwa [List.append_nil] at this
      have sT3:Sh kL K (.sl 1 0 t.length none t.length 1) t:=by have:=sT2 []; rwa [List.append_nil] at this
      have hwB:wB own=true:=wB_iff.2 fun s hs=>by have:=hw s hs; omega
      have wq:∀ (H:Heap) (v:HV) (s:List Int),Sh kS H (.sl 0 0 own.length none own.length 3) own → Sh kL H v s → (∀ k ∈ s,0 ≤ k∧k < (own.length:Int)) → s.length ≤ 1000 → ∀ k,callN Tp polL10 (k+1) 22 [.sl 0 0 own.length none own.length 3,v] H=some (.int .i64 (wgt own s),H):=fun H v s h1 h2 h3 h4 =>
        at2 (pol':=polL10) (g:=22) (c1:=kS) (c2:=kL) (f:=fun l t=>if inR l.length t=true∧wB l=true∧t.length ≤ 1000 then some (.int .i64 (wgt l t)) else none) (by kernel_rfl) h1 h2 (if_pos ⟨inR_iff.2 h3,hwB,h4⟩)
      have hfl:(frT own).length ≤ 1000:=by have:=frT_le own; omega
      have w1:=wq K _ t sS3 sT3 hTr.rg (by omega)
      have w2:=wq K (.sl 2 0 (frT own).length none (frT own).length 1) (frT own) sS3 (ShL_sl rfl (by rw [hK1]; rfl)) (fun k hk=>tree_in (frT_mem.1 hk)) hfl
      by_cases hq:wgt own t=wgt own (frT own)
      · have hs:=hs hq
        cases hs
        have f:=lb_f_0 (F:=prL10) n (l.map encT) (la.map encI) K 0 own.length 1 t.length (-1) (-1) 0 2 (frT own).length (wgt own t) (wgt own (frT own)) (y14:=Ud) (y15:=Ud) (y16:=Ud) (y17:=Ud) w1 w2 hq rfl rfl rfl (aw _)
        exact ⟨_,_,sq (a) (sq (b) (sq (c) (sq (d) (sq (e) (sqo (f) (c:=sub [1,1,1,1,1] B10) (b:=sub [1,1,1,1,1,1] B10)) (c:=sub [1,1,1,1] B10)) (c:=sub [1,1,1] B10)) (c:=sub [1,1] B10)) (c:=sub [1] B10)) (c:=B10),rfl⟩
      · obtain ⟨g1,g2,g3,g4,g5⟩:=hg hq
        simp only at g1 g2 g3 g4 g5
        have f:=lb_f_4 (F:=prL10) n (l.map encT) (la.map encI) K 0 own.length 1 t.length pa pb 0 2 (frT own).length (wgt own t) (wgt own (frT own)) (y14:=Ud) (y15:=Ud) (y16:=Ud) (y17:=Ud) w1 w2 hq
        have g:=lb_g_0 (F:=prL10) n (l.map encT) (la.map encI) K 0 own.length 1 t.length pa pb 0 (y12:=.sl 2 0 (frT own).length none (frT own).length 1) (y14:=Ud) (y15:=Ud) (y16:=Ud) (y17:=Ud)
        have h:=lb_h_0 (F:=prL10) n (l.map encT) (la.map encI) K 0 own.length 1 t.length pa pb 0 (y12:=.sl 2 0 (frT own).length none (frT own).length 1) (y16:=Ud) (y17:=Ud)
        have lp:=better_loop (n:=n) (l:=l) (own:=own) (la:=la) (H:=K) (by rw [hK1]; rfl) htl g1 g2
        have c36:=at3 (pol':=polL10) (g:=36) (c1:=kL) (c2:=kI) (c3:=kI) (f:=fun t o p=>if t.length ≤ 400 then some (.own 1 ((swT o p t).map encI)) else none) (H:=K) (by kernel_rfl) sT3 (ShI _ pa) (ShI _ pb) (if_pos (by omega))
        rw [recv_ints] at c36
        have hsl:=swT_len t t (o:=pa) hasc g2
        have hsT:=(isT_tr g4).1
        have sX:Sh kL (K ++ [bI (swT pa pb t)]) (.sl K.length 0 (swT pa pb t).length none (swT pa pb t).length 1) (swT pa pb t):=ShL_sl rfl (by simp)
        have c28b:=at3 (pol':=polL10) (g:=28) (c1:=kI) (c2:=kS) (c3:=kL) (f:=fun n l t=>if (0 ≤ n∧n ≤ 16)∧endN n l=true∧t.length ≤ 500∧l.length ≤ 500 then some (.bool (isT n l t)) else none) (H:=K ++ [bI (swT pa pb t)]) (by kernel_rfl) (ShI _ n) (sS2 _) sX (if_pos ⟨by omega,he,by omega,by omega⟩)
        rw [g4] at c28b
        have w3:=wq _ _ _ (sS2 [bI (swT pa pb t)]) sX hsT.rg (by omega)
        have w4:=wq _ _ t (sS2 [bI (swT pa pb t)]) (sT2 _) hTr.rg (by omega)
        have z:=lb_z_2 (F:=prL10) n (l.map encT) (la.map encI) K 0 own.length 1 t.length pa pb 0 K.length (swT pa pb t).length (wgt own t) (wgt own (swT pa pb t)) (y16:=.int .i64 (t.length:Int)) (y12:=Ud) (y17:=Ud) rfl (by omega) (by omega) c36 c28b w3 w4 g5 (aw _)
        exact ⟨_,_,sq (a) (sq (b) (sq (c) (sq (d) (sq (e) (sq (f) (sq (g) (sq (sq (h) (bke (c:=sub [1,1,1,1,1,1,1,0,1] B10) (lpi (e0:=(env10 (.int .i64 n) (.imm .arg 3 (l.map encT)) (.imm .arg 1 (la.map encI)) (.bool false) (.sl 0 0 own.length none own.length 3) (.sl 1 0 t.length none t.length 1) (.int .i64 pa) (.int .i64 pb) (.int .i64 0) (.sl 2 0 (frT own).length none (frT own).length 1) (.bool false) (.bool true) (.int .i64 ((0:Nat):Int)) Ud)) lp (b:=sub [1,1,1,1,1,1,1,0,1,0,0] B10))) (c:=sub [1,1,1,1,1,1,1,0] B10)) (z) (c:=sub [1,1,1,1,1,1,1] B10)) (c:=sub [1,1,1,1,1,1] B10)) (c:=sub [1,1,1,1,1] B10)) (c:=sub [1,1,1,1] B10)) (c:=sub [1,1,1] B10)) (c:=sub [1,1] B10)) (c:=sub [1] B10)) (c:=B10),rfl⟩
end Go.Proofs.Ytiejmoglooaalaa
end
section
namespace Go.HL
open Go.ChangeShapes Go.WideShapes Go.ChangeAt Go.RowKit Go.Deep
theorem okNil (w:World) (r:Nat):okOf Ctx.nil w.heap.size false r:=by
  refine ⟨fun hM=>?_,by simp⟩
  obtain ⟨b,y,h1,_,_⟩:=M_iff.1 hM
  simp [Ctx.nil] at h1
theorem cell_lt {w:World} {a:Addr} {v:Value} (h:w.cell? a=some v):a.block < w.heap.size:=by
  rcases Nat.lt_or_ge a.block w.heap.size with hl | hl
  · exact hl
  · have:w.heap[a.block]?=none:=by simp [hl]
    simp [World.cell?,this] at h
end Go.HL
end
section
namespace Go.HL
open Go.ChangeShapes Go.WideShapes Go.ChangeAt Go.RowKit Go.Deep
theorem arg_ints_ok {H:Type} {enc:TypeId × Value → H} {P:Program} {W:World} {base:Nat} {t q:TypeId} {v:Value} {d:DataW H} {ps:List MemPlace} (ht:P.underlying t=some (.slice q)) (hq:P.underlying q=some (.int .i64)) (cq:P.cellsOf q=1)
    (hval:Value.okWide P W .any base t v) (hd:DataW.Trod enc P W 0 (fun _=>true) true t v d ps):∃ l:List Int,V W (okOf Ctx.nil W.heap.size) Ctx.nil (.imm .arg 1 (l.map encI)) v:=by
  obtain ⟨a,len,cap,rfl⟩:=okWide_slice ht hval
  obtain ⟨fuel,hf⟩:=hd
  rcases open_slice ht hf with ⟨h0,_⟩ | ⟨a',len',cap',m,n,D,Pl,h0,hb,hl,hm,hmm,hx,hel⟩
  · simp [Value.cells] at h0
    obtain ⟨rfl,rfl,rfl⟩:=h0
    exact ⟨[],.imm .arg 1 [] none 0 (fun _=>.bool false) (by simp) (by simp) (by simp) (by simp) (by simp) (by simp)⟩
  · simp [Value.cells] at h0
    obtain ⟨rfl,rfl,rfl⟩:=h0
    have hlm:len ≤ m:=by rw [hmm]; split <;> omega
    have each:∀ i,i < len → ∃ z:Int,W.cell? (a'.add i)=some (.int .i64 z):=by
      intro i hi
      obtain ⟨cs',h1,h2⟩:=hel i (by omega)
      rw [cq] at h1
      obtain ⟨_,hlen,hcell⟩:=World.cells?_some h1
      match cs',hlen with
      | [v0],_ =>
        obtain ⟨z0,e0,_,_⟩:=DataW.trod_int hq h2
        simp at e0
        subst e0
        have c0:=hcell 0 (by omega)
        rw [add_add] at c0
        exact ⟨z0,by simpa using c0⟩
    obtain ⟨f,hf⟩:=choose_lt each
    refine ⟨(List.range len).map f,?_⟩
    have hlen:(((List.range len).map f).map encI).length=len:=by simp
    have key:=V.imm (w:=W) (ok:=okOf Ctx.nil W.heap.size) (c:=Ctx.nil) .arg 1 (((List.range len).map f).map encI) (some a') cap (fun j=>.int .i64 (f j))
      (by rw [hlen]; exact hl) (by simp) ?_ ?_ ?_ ?_
    · rw [hlen] at key; exact key
    · intro hne
      have h0:0 < len:=by
        rcases Nat.eq_zero_or_pos len with h | h
        · subst h; simp at hne
        · exact h
      obtain ⟨b,off,spot⟩:=a'
      have hspot:spot=none:=by simpa [Addr.add] using World.cell?_spot (hf 0 h0)
      subst hspot
      refine ⟨b,off,rfl,by simpa [Addr.add] using cell_lt (hf 0 h0),okNil W b,fun j hj=>?_⟩
      rw [hlen] at hj
      have c0:=hf j (by omega)
      rw [add_plain] at c0
      exact c0
    · intro v hv
      obtain ⟨p,_,rfl⟩:=List.mem_map.1 hv
      rfl
    · intro v hv
      obtain ⟨p,_,rfl⟩:=List.mem_map.1 hv
      rfl
    · intro i v j x hi hj
      have hil:i < len:=by have:=lt_of_get hi; rw [hlen] at this; exact this
      have:v=encI (f i):=by
        rw [List.getElem?_map,List.getElem?_map,List.getElem?_range hil] at hi
        simpa using hi.symm
      subst this
      have hjx:j < 1:=lt_of_get hj
      match j,hjx,hj with
      | 0,_,hj =>
        simp [encI,cellsOf] at hj
        subst hj
        have e1:i * 1+0=i:=by omega
        rw [e1]
        exact V.int _ _
end Go.HL
end
section
namespace Go.HL
open Go.ChangeShapes Go.WideShapes Go.ChangeAt Go.RowKit Go.Deep
abbrev encTr (s:Int × Int × Int):HV:=.agg [.int .i64 s.1,.int .i64 s.2.1,.int .i64 s.2.2]
theorem arg_trips_ok {H:Type} {enc:TypeId × Value → H} {P:Program} {W:World} {base:Nat} {t e q:TypeId} {v:Value} {d:DataW H} {ps:List MemPlace} {f0 f1 f2:Field} (ht:P.underlying t=some (.slice e)) (he:P.underlying e=some (.struct #[f0,f1,f2])) (t0:f0.type=q) (t1:f1.type=q) (t2:f2.type=q) (o0:f0.offset=0) (o1:f1.offset=1) (o2:f2.offset=2) (hq:P.underlying q=some (.int .i64)) (ce:P.cellsOf e=3) (cq:P.cellsOf q=1)
    (hval:Value.okWide P W .any base t v) (hd:DataW.Trod enc P W 0 (fun _=>true) true t v d ps):∃ l:List (Int × Int × Int),V W (okOf Ctx.nil W.heap.size) Ctx.nil (.imm .arg 3 (l.map encTr)) v:=by
  obtain ⟨a,len,cap,rfl⟩:=okWide_slice ht hval
  obtain ⟨fuel,hf⟩:=hd
  rcases open_slice ht hf with ⟨h0,_⟩ | ⟨a',len',cap',m,n,D,Pl,h0,hb,hl,hm,hmm,hx,hel⟩
  · simp [Value.cells] at h0
    obtain ⟨rfl,rfl,rfl⟩:=h0
    exact ⟨[],.imm .arg 3 [] none 0 (fun _=>.bool false) (by simp) (by simp) (by simp) (by simp) (by simp) (by simp)⟩
  · simp [Value.cells] at h0
    obtain ⟨rfl,rfl,rfl⟩:=h0
    have hlm:len ≤ m:=by rw [hmm]; split <;> omega
    have each:∀ i,i < len → ∃ p:Int × Int × Int,W.cell? (a'.add (i * 3))=some (.int .i64 p.1)∧W.cell? (a'.add (i * 3+1))=some (.int .i64 p.2.1)∧W.cell? (a'.add (i * 3+2))=some (.int .i64 p.2.2):=by
      intro i hi
      obtain ⟨cs',h1,h2⟩:=hel i (by omega)
      rw [ce] at h1
      obtain ⟨_,hlen,hcell⟩:=World.cells?_some h1
      obtain ⟨y0,y1,y2,k,_,_,g0,g1,g2⟩:=trod_struct3 he h2
      rw [t0,o0,cq] at g0
      rw [t1,o1,cq] at g1
      rw [t2,o2,cq] at g2
      match cs',hlen with
      | [v0,v1,v2],_ =>
        simp at g0 g1 g2
        obtain ⟨z0,e0,_,_⟩:=DataW.trod_int hq g0
        obtain ⟨z1,e1,_,_⟩:=DataW.trod_int hq g1
        obtain ⟨z2,e2,_,_⟩:=DataW.trod_int hq g2
        simp at e0 e1 e2
        subst e0; subst e1; subst e2
        have c0:=hcell 0 (by omega)
        have c1:=hcell 1 (by omega)
        have c2:=hcell 2 (by omega)
        rw [add_add] at c0 c1 c2
        exact ⟨(z0,z1,z2),by simpa using c0,by simpa using c1,by simpa using c2⟩
    obtain ⟨f,hf⟩:=choose_lt each
    refine ⟨(List.range len).map f,?_⟩
    have hlen:(((List.range len).map f).map encTr).length=len:=by simp
    have key:=V.imm (w:=W) (ok:=okOf Ctx.nil W.heap.size) (c:=Ctx.nil) .arg 3 (((List.range len).map f).map encTr) (some a') cap (fun j=>if j % 3=0 then .int .i64 (f (j / 3)).1 else if j % 3=1 then .int .i64 (f (j / 3)).2.1 else .int .i64 (f (j / 3)).2.2)
      (by rw [hlen]; exact hl) (by simp) ?_ ?_ ?_ ?_
    · rw [hlen] at key; exact key
    · intro hne
      have h0:0 < len:=by
        rcases Nat.eq_zero_or_pos len with h | h
        · subst h; simp at hne
        · exact h
      obtain ⟨b,off,spot⟩:=a'
      have hspot:spot=none:=by simpa [Addr.add] using World.cell?_spot (hf 0 h0).1
      subst hspot
      refine ⟨b,off,rfl,by simpa [Addr.add] using cell_lt (hf 0 h0).1,okNil W b,fun j hj=>?_⟩
      rw [hlen] at hj
      have hj2:j / 3 < len:=by omega
      obtain ⟨c0,c1,c2⟩:=hf (j / 3) hj2
      by_cases hp:j % 3=0
      · rw [if_pos hp]
        have:j / 3 * 3=j:=by omega
        rw [this,add_plain] at c0
        exact c0
      by_cases hp1:j % 3=1
      · rw [if_neg hp,if_pos hp1]
        have:j / 3 * 3+1=j:=by omega
        rw [this,add_plain] at c1
        exact c1
      · rw [if_neg hp,if_neg hp1]
        have:j / 3 * 3+2=j:=by omega
        rw [this,add_plain] at c2
        exact c2
    · intro v hv
      obtain ⟨p,_,rfl⟩:=List.mem_map.1 hv
      rfl
    · intro v hv
      obtain ⟨p,_,rfl⟩:=List.mem_map.1 hv
      rfl
    · intro i v j x hi hj
      have hil:i < len:=by have:=lt_of_get hi; rw [hlen] at this; exact this
      have:v=encTr (f i):=by
        rw [List.getElem?_map,List.getElem?_map,List.getElem?_range hil] at hi
        simpa using hi.symm
      subst this
      have hjx:j < 3:=lt_of_get hj
      match j,hjx,hj with
      | 0,_,hj =>
        simp [encTr,cellsOf] at hj
        subst hj
        have e1:(i * 3+0) % 3=0:=by omega
        have e2:(i * 3+0) / 3=i:=by omega
        rw [if_pos e1,e2]
        exact V.int _ _
      | 1,_,hj =>
        simp [encTr,cellsOf] at hj
        subst hj
        have e0:¬ (i * 3+1) % 3=0:=by omega
        have e1:(i * 3+1) % 3=1:=by omega
        have e2:(i * 3+1) / 3=i:=by omega
        rw [if_neg e0,if_pos e1,e2]
        exact V.int _ _
      | 2,_,hj =>
        simp [encTr,cellsOf] at hj
        subst hj
        have e0:¬ (i * 3+2) % 3=0:=by omega
        have e1:¬ (i * 3+2) % 3=1:=by omega
        have e2:(i * 3+2) / 3=i:=by omega
        rw [if_neg e0,if_neg e1,e2]
        exact V.int _ _
end Go.HL
end
