/- A part of the proof. -/
import Derived.Test.YtiejmoglooaalaaP4C
set_option linter.unusedVariables false
set_option linter.unusedSimpArgs false
set_option linter.unnecessarySimpa false
section
open Go Go.HL
namespace Go.Proofs.Ytiejmoglooaalaa
set_option maxRecDepth 100000
open Go.Proofs.Try renaming prog → Tp
open Go.HL.HV renaming undef → Ud
section
variable {F:FuncId → Option (List HV → Option HV)}
noncomputable def B64:Code:=Try.f64.body.getD .skip
abbrev env64 (v0 v1 v2:HV):Env:=[(0,v0),(1,v1),(2,v2)]
theorem lo_a_0 (x d:Int) (sb ob m:Nat) (z:Int) (H:Heap) {H0:Heap} (g0:loadV Tp H 24 (.ptr sb 0 0 1)=some (.o ob m)) (g1:idxV Tp 24 (.o ob m) (.i x)=some (.ptr ob ((x).toNat) 0 m)) (g2:loadV Tp H 3 (.ptr ob ((x).toNat) 0 m)=some (.i z)) (g3:z < 0) (g4:loadV Tp H 24 (.ptr sb 0 0 1)=some (.o ob m)) (g5:idxV Tp 24 (.o ob m) (.i x)=some (.ptr ob ((x).toNat) 0 m)) (g6:storeV Tp H 3 (.ptr ob ((x).toNat) 0 m) (.i d)=some H0):RunsTo Tp (plF F) 64 (sub [] B64) (env64 (.i x) (.i d) (.ptr sb 0 0 1)) H .normal ((plF F).keys 64) (env64 (.i x) (.i d) (.ptr sb 0 0 1)) H0 :=
  RunsTo.hin 0 60 [⟨0,0,.o ob m,H⟩,⟨0,2,.ptr ob ((x).toNat) 0 m,H⟩,⟨0,3,.i z,H⟩,⟨0,4,.bool true,H⟩,⟨1,0,.o ob m,H⟩,⟨1,3,.ptr ob ((x).toNat) 0 m,H⟩,⟨1,4,.tuple [],H0⟩] fun kf hk=>⟨_,by kernel_rfl,(oP H g0 (oP H g1 (oP H g2 (oB H (decide_eq_true g3) (oP H g4 (oP H g5 (oS g6 .nil)))))))⟩
theorem lo_a_1 (x d:Int) (sb ob m:Nat) (z:Int) (H:Heap) {H0:Heap} (g0:loadV Tp H 24 (.ptr sb 0 0 1)=some (.o ob m)) (g1:idxV Tp 24 (.o ob m) (.i x)=some (.ptr ob ((x).toNat) 0 m)) (g2:loadV Tp H 3 (.ptr ob ((x).toNat) 0 m)=some (.i z)) (g3:¬ (z < 0)) (g4:loadV Tp H 24 (.ptr sb 0 0 1)=some (.o ob m)) (g5:idxV Tp 24 (.o ob m) (.i x)=some (.ptr ob ((x).toNat) 0 m)) (g6:loadV Tp H 3 (.ptr ob ((x).toNat) 0 m)=some (.i z)) (g7:d < z) (g8:loadV Tp H 24 (.ptr sb 0 0 1)=some (.o ob m)) (g9:idxV Tp 24 (.o ob m) (.i x)=some (.ptr ob ((x).toNat) 0 m)) (g10:storeV Tp H 3 (.ptr ob ((x).toNat) 0 m) (.i d)=some H0):RunsTo Tp (plF F) 64 (sub [] B64) (env64 (.i x) (.i d) (.ptr sb 0 0 1)) H .normal ((plF F).keys 64) (env64 (.i x) (.i d) (.ptr sb 0 0 1)) H0 :=
  RunsTo.hin 0 60 [⟨0,0,.o ob m,H⟩,⟨0,2,.ptr ob ((x).toNat) 0 m,H⟩,⟨0,3,.i z,H⟩,⟨0,4,.bool false,H⟩,⟨0,7,.o ob m,H⟩,⟨0,9,.ptr ob ((x).toNat) 0 m,H⟩,⟨0,10,.i z,H⟩,⟨0,11,.bool true,H⟩,⟨1,0,.o ob m,H⟩,⟨1,3,.ptr ob ((x).toNat) 0 m,H⟩,⟨1,4,.tuple [],H0⟩] fun kf hk=>⟨_,by kernel_rfl,(oP H g0 (oP H g1 (oP H g2 (oB H (decide_eq_false g3) (oP H g4 (oP H g5 (oP H g6 (oB H (decide_eq_true g7) (oP H g8 (oP H g9 (oS g10 .nil)))))))))))⟩
theorem lo_a_2 (x d:Int) (sb ob m:Nat) (z:Int) (H:Heap)(g0:loadV Tp H 24 (.ptr sb 0 0 1)=some (.o ob m)) (g1:idxV Tp 24 (.o ob m) (.i x)=some (.ptr ob ((x).toNat) 0 m)) (g2:loadV Tp H 3 (.ptr ob ((x).toNat) 0 m)=some (.i z)) (g3:¬ (z < 0)) (g4:loadV Tp H 24 (.ptr sb 0 0 1)=some (.o ob m)) (g5:idxV Tp 24 (.o ob m) (.i x)=some (.ptr ob ((x).toNat) 0 m)) (g6:loadV Tp H 3 (.ptr ob ((x).toNat) 0 m)=some (.i z)) (g7:¬ (d < z)):RunsTo Tp (plF F) 64 (sub [] B64) (env64 (.i x) (.i d) (.ptr sb 0 0 1)) H .normal ((plF F).keys 64) (env64 (.i x) (.i d) (.ptr sb 0 0 1)) H :=
  RunsTo.hin 0 60 [⟨0,0,.o ob m,H⟩,⟨0,2,.ptr ob ((x).toNat) 0 m,H⟩,⟨0,3,.i z,H⟩,⟨0,4,.bool false,H⟩,⟨0,7,.o ob m,H⟩,⟨0,9,.ptr ob ((x).toNat) 0 m,H⟩,⟨0,10,.i z,H⟩,⟨0,11,.bool false,H⟩] fun kf hk=>⟨_,by kernel_rfl,(oP H g0 (oP H g1 (oP H g2 (oB H (decide_eq_false g3) (oP H g4 (oP H g5 (oP H g6 (oB H (decide_eq_false g7) .nil))))))))⟩
noncomputable def B43:Code:=Try.f43.body.getD .skip
abbrev env43 (v0 v1 v2 v3 v4 v5 v6 v7 v8 v9 v10 v12 v14 v15 v29 v30 v38 v39 v40 v49 v50 v51:HV):Env:=[(0,v0),(1,v1),(2,v2),(3,v3),(4,v4),(5,v5),(6,v6),(7,v7),(8,v8),(9,v9),(10,v10),(12,v12),(14,v14),(15,v15),(29,v29),(30,v30),(38,v38),(39,v39),(40,v40),(49,v49),(50,v50),(51,v51)]
theorem sk_a_0 (N:Nat) (n:Int) (ls:List HV) :RunsTo Tp (plF F) 43 (sub [0] B43) [(0,.agg [.i n,.imm .arg 3 ls])] [] .normal ((plF F).keys 43) (env43 (.agg [.i n,.imm .arg 3 ls]) (.ptr 0 0 0 1) (.imm .lit 1 []) .nilmap (.bool false) Ud Ud Ud Ud Ud Ud Ud Ud Ud Ud Ud Ud Ud Ud Ud Ud Ud) [.arr 2 [.agg [.i n,.imm .arg 3 ls]] true 0] :=
  RunsTo.hin N 60 [] fun kf hk=>⟨_,by kernel_rfl,.nil⟩
theorem sk_b_0 (N:Nat) (n:Int) (ls:List HV) (H:Heap) (tb k:Nat) {y5 y6 y7 y8 y9 y10 y12 y14 y15 y29 y30 y38 y39 y40 y49 y50 y51:HV} {H0:Heap} (g0:loadV Tp H 66 (.ptr 0 0 0 1)=some (.agg [.i n,.imm .arg 3 ls])) (g1:∀ kf,callN Tp (plF F) (kf+1) 40 [.agg [.i n,.imm .arg 3 ls]] H=some (.tuple [.s tb k,.bool true],H0)):RunsTo Tp (plF F) 43 (sub [1,0] B43) (env43 (.agg [.i n,.imm .arg 3 ls]) (.ptr 0 0 0 1) (.imm .lit 1 []) .nilmap (.bool false) y5 y6 y7 y8 y9 y10 y12 y14 y15 y29 y30 y38 y39 y40 y49 y50 y51) H .normal ((plF F).keys 43) (env43 (.agg [.i n,.imm .arg 3 ls]) (.ptr 0 0 0 1) (.imm .lit 1 []) .nilmap (.bool false) (.s tb k) (.bool true) y7 y8 y9 y10 y12 y14 y15 y29 y30 y38 y39 y40 y49 y50 y51) H0 :=
  RunsTo.hin N 60 [⟨1,0,.agg [.i n,.imm .arg 3 ls],H⟩,⟨1,1,.tuple [.s tb k,.bool true],H0⟩] fun kf hk=>⟨_,by kernel_rfl,(oP H g0 (oC (g1 kf) .nil))⟩
theorem sk_b_1 (N:Nat) (n:Int) (ls:List HV) (H:Heap) (tb k:Nat) {y5 y6 y7 y8 y9 y10 y12 y14 y15 y29 y30 y38 y39 y40 y49 y50 y51:HV} {H0:Heap} (g0:loadV Tp H 66 (.ptr 0 0 0 1)=some (.agg [.i n,.imm .arg 3 ls])) (g1:∀ kf,callN Tp (plF F) (kf+1) 40 [.agg [.i n,.imm .arg 3 ls]] H=some (.tuple [.s tb k,.bool false],H0)):RunsTo Tp (plF F) 43 (sub [1,0] B43) (env43 (.agg [.i n,.imm .arg 3 ls]) (.ptr 0 0 0 1) (.imm .lit 1 []) .nilmap (.bool false) y5 y6 y7 y8 y9 y10 y12 y14 y15 y29 y30 y38 y39 y40 y49 y50 y51) H .normal ((plF F).keys 43) (env43 (.agg [.i n,.imm .arg 3 ls]) (.ptr 0 0 0 1) (.imm .lit 1 []) .nilmap (.bool false) (.s tb k) (.bool false) y7 y8 y9 y10 y12 y14 y15 y29 y30 y38 y39 y40 y49 y50 y51) H0 :=
  RunsTo.hin N 60 [⟨1,0,.agg [.i n,.imm .arg 3 ls],H⟩,⟨1,1,.tuple [.s tb k,.bool false],H0⟩] fun kf hk=>⟨_,by kernel_rfl,(oP H g0 (oC (g1 kf) .nil))⟩
theorem sk_ct_0 (N:Nat) (n:Int) (ls:List HV) (H:Heap) (tb k:Nat) {y7 y8 y9 y10 y12 y14 y15 y29 y30 y38 y39 y40 y49 y50 y51:HV}:RunsTo Tp (plF F) 43 (sub [1,1,0] B43) (env43 (.agg [.i n,.imm .arg 3 ls]) (.ptr 0 0 0 1) (.imm .lit 1 []) .nilmap (.bool false) (.s tb k) (.bool true) y7 y8 y9 y10 y12 y14 y15 y29 y30 y38 y39 y40 y49 y50 y51) H .normal ((plF F).keys 43) (env43 (.agg [.i n,.imm .arg 3 ls]) (.ptr 0 0 0 1) (.imm .lit 1 []) .nilmap (.bool false) (.s tb k) (.bool true) y7 y8 y9 y10 y12 y14 y15 y29 y30 y38 y39 y40 y49 y50 y51) H :=
  RunsTo.hin N 60 [] fun kf hk=>⟨_,by kernel_rfl,.nil⟩
theorem sk_cf_0 (N:Nat) (n:Int) (ls:List HV) (H:Heap) (tb k:Nat) {y7 y8 y9 y10 y12 y14 y15 y29 y30 y38 y39 y40 y49 y50 y51:HV}:RunsTo Tp (plF F) 43 (sub [1,1,0] B43) (env43 (.agg [.i n,.imm .arg 3 ls]) (.ptr 0 0 0 1) (.imm .lit 1 []) .nilmap (.bool false) (.s tb k) (.bool false) y7 y8 y9 y10 y12 y14 y15 y29 y30 y38 y39 y40 y49 y50 y51) H .ret ((plF F).keys 43) (env43 (.agg [.i n,.imm .arg 3 ls]) (.ptr 0 0 0 1) (.imm .lit 1 []) .nilmap (.bool false) (.s tb k) (.bool false) y7 y8 y9 y10 y12 y14 y15 y29 y30 y38 y39 y40 y49 y50 y51) H :=
  RunsTo.hin N 60 [] fun kf hk=>⟨_,by kernel_rfl,.nil⟩
theorem sk_d_0 (N:Nat) (n:Int) (ls:List HV) (H:Heap) (tb k:Nat) {y6 y7 y8 y9 y10 y12 y14 y15 y29 y30 y38 y39 y40 y49 y50 y51:HV} {a0:HV} {H0:Heap} (g0:some (HV.map H.length,H ++ [Blk.map [] [] 0])=some (a0,H0)):RunsTo Tp (plF F) 43 (sub [1,1,1,0] B43) (env43 (.agg [.i n,.imm .arg 3 ls]) (.ptr 0 0 0 1) (.imm .lit 1 []) .nilmap (.bool false) (.s tb k) y6 y7 y8 y9 y10 y12 y14 y15 y29 y30 y38 y39 y40 y49 y50 y51) H .normal ((plF F).keys 43) (env43 (.agg [.i n,.imm .arg 3 ls]) (.ptr 0 0 0 1) (.imm .lit 1 []) .nilmap (.bool false) (.s tb k) y6 a0 y8 y9 y10 y12 y14 y15 y29 y30 y38 y39 y40 y49 y50 y51) H0 :=
  RunsTo.hin N 60 [⟨4,0,a0,H0⟩] fun kf hk=>⟨_,by kernel_rfl,(oC (g0) .nil)⟩
theorem sk_e_0 (N:Nat) (n:Int) (ls:List HV) (H:Heap) (tb k mb ob m:Nat) {y6 y8 y9 y10 y12 y14 y15 y29 y30 y38 y39 y40 y49 y50 y51:HV} {H0:Heap} {a0:HV} {H1:Heap} {H2:Heap} (g0:loadV Tp H 22 (.ptr 0 0 1 1)=some (.imm .arg 3 ls)) (g1:makeV Tp false 24 (.i (ls.length:Int)) (.i (ls.length:Int)) H=some (.o ob m,H0)) (g2:some (HV.ptr H0.length 0 0 1,H0 ++ [Blk.arr 1 [HV.sl (H0.length+1) 0 0 none 0 1] true (H0.length+2),Blk.b []])=some (a0,H1)) (g3:storeV Tp H1 24 (a0) (.o ob m)=some H2):RunsTo Tp (plF F) 43 (sub [1,1,1,1,0] B43) (env43 (.agg [.i n,.imm .arg 3 ls]) (.ptr 0 0 0 1) (.imm .lit 1 []) .nilmap (.bool false) (.s tb k) y6 (.map mb) y8 y9 y10 y12 y14 y15 y29 y30 y38 y39 y40 y49 y50 y51) H .normal ((plF F).keys 43) (env43 (.agg [.i n,.imm .arg 3 ls]) (.ptr 0 0 0 1) (.imm .lit 1 []) .nilmap (.bool false) (.s tb k) y6 (.map mb) a0 y9 y10 y12 y14 y15 y29 y30 y38 y39 y40 y49 y50 y51) H2 :=
  RunsTo.hin N 60 [⟨5,1,.imm .arg 3 ls,H⟩,⟨5,3,.o ob m,H0⟩,⟨5,4,a0,H1⟩,⟨5,5,.tuple [],H2⟩] fun kf hk=>⟨_,by kernel_rfl,(oP H g0 (oC (g1) (oC (g2) (oS g3 .nil))))⟩
theorem sk_f_0 (N:Nat) (n:Int) (ls:List HV) (H:Heap) (tb k mb sb ob m:Nat) {y6 y9 y10 y12 y14 y15 y29 y30 y38 y39 y40 y49 y50 y51:HV}(g0:loadV Tp H 24 (.ptr sb 0 0 1)=some (.o ob m)):RunsTo Tp (plF F) 43 (sub [1,1,1,1,1,0,0] B43) (env43 (.agg [.i n,.imm .arg 3 ls]) (.ptr 0 0 0 1) (.imm .lit 1 []) .nilmap (.bool false) (.s tb k) y6 (.map mb) (.ptr sb 0 0 1) y9 y10 y12 y14 y15 y29 y30 y38 y39 y40 y49 y50 y51) H .normal ((plF F).keys 43) (env43 (.agg [.i n,.imm .arg 3 ls]) (.ptr 0 0 0 1) (.imm .lit 1 []) .nilmap (.bool false) (.s tb k) y6 (.map mb) (.ptr sb 0 0 1) y9 y10 y12 y14 y15 (.i (m:Int)) (.i 0) y38 y39 y40 y49 y50 y51) H :=
  RunsTo.hin N 60 [⟨6,0,.o ob m,H⟩] fun kf hk=>⟨_,by kernel_rfl,(oP H g0 .nil)⟩
theorem sk_g_0 (N:Nat) (n:Int) (ls:List HV) (H:Heap) (tb k mb sb ob m j:Nat) {y6 y9 y10 y12 y14 y15 y38 y39 y40 y49 y50 y51:HV} {H0:Heap} (g0:(j:Int) < (m:Int)) (g1:loadV Tp H 24 (.ptr sb 0 0 1)=some (.o ob m)) (g2:idxV Tp 24 (.o ob m) (.i (j:Int))=some (.ptr ob j 0 m)) (g3:storeV Tp H 3 (.ptr ob j 0 m) (.i (-1))=some H0):RunsTo Tp (plF F) 43 (sub [1,1,1,1,1,0,1,0,0] B43) (env43 (.agg [.i n,.imm .arg 3 ls]) (.ptr 0 0 0 1) (.imm .lit 1 []) .nilmap (.bool false) (.s tb k) y6 (.map mb) (.ptr sb 0 0 1) y9 y10 y12 y14 y15 (.i (m:Int)) (.i (j:Int)) y38 y39 y40 y49 y50 y51) H .normal ((plF F).keys 43) (env43 (.agg [.i n,.imm .arg 3 ls]) (.ptr 0 0 0 1) (.imm .lit 1 []) .nilmap (.bool false) (.s tb k) y6 (.map mb) (.ptr sb 0 0 1) (.i (j:Int)) y10 y12 y14 y15 (.i (m:Int)) (.i (IntKind.i64.wrap ((j:Int)+1))) y38 y39 y40 y49 y50 y51) H0 :=
  RunsTo.hin N 60 [⟨7,0,.bool true,H⟩,⟨9,0,.o ob m,H⟩,⟨9,2,.ptr ob j 0 m,H⟩,⟨9,3,.tuple [],H0⟩] fun kf hk=>⟨_,by kernel_rfl,(oB H (decide_eq_true g0) (oP H g1 (oP H g2 (oS g3 .nil))))⟩
theorem sk_g_1 (N:Nat) (n:Int) (ls:List HV) (H:Heap) (tb k mb sb ob m j:Nat) {y6 y9 y10 y12 y14 y15 y38 y39 y40 y49 y50 y51:HV}(g0:¬ ((j:Int) < (m:Int))):RunsTo Tp (plF F) 43 (sub [1,1,1,1,1,0,1,0,0] B43) (env43 (.agg [.i n,.imm .arg 3 ls]) (.ptr 0 0 0 1) (.imm .lit 1 []) .nilmap (.bool false) (.s tb k) y6 (.map mb) (.ptr sb 0 0 1) y9 y10 y12 y14 y15 (.i (m:Int)) (.i (j:Int)) y38 y39 y40 y49 y50 y51) H (.exit 0) ((plF F).keys 43) (env43 (.agg [.i n,.imm .arg 3 ls]) (.ptr 0 0 0 1) (.imm .lit 1 []) .nilmap (.bool false) (.s tb k) y6 (.map mb) (.ptr sb 0 0 1) y9 y10 y12 y14 y15 (.i (m:Int)) (.i (j:Int)) y38 y39 y40 y49 y50 y51) H :=
  RunsTo.hin N 60 [⟨7,0,.bool false,H⟩] fun kf hk=>⟨_,by kernel_rfl,(oB H (decide_eq_false g0) .nil)⟩
theorem sk_h_0 (N:Nat) (n:Int) (ls:List HV) (H:Heap) (tb k mb sb:Nat) {y6 y9 y10 y12 y14 y15 y29 y30 y38 y39 y40 y49 y50 y51:HV}:RunsTo Tp (plF F) 43 (sub [1,1,1,1,1,1,0] B43) (env43 (.agg [.i n,.imm .arg 3 ls]) (.ptr 0 0 0 1) (.imm .lit 1 []) .nilmap (.bool false) (.s tb k) y6 (.map mb) (.ptr sb 0 0 1) y9 y10 y12 y14 y15 y29 y30 y38 y39 y40 y49 y50 y51) H .normal ((plF F).keys 43) (env43 (.agg [.i n,.imm .arg 3 ls]) (.ptr 0 0 0 1) (.imm .lit 1 []) .nilmap (.bool false) (.s tb k) y6 (.map mb) (.ptr sb 0 0 1) y9 (.func 64 [] [.ptr sb 0 0 1]) y12 y14 y15 y29 y30 y38 y39 y40 y49 y50 y51) H :=
  RunsTo.hin N 60 [] fun kf hk=>⟨_,by kernel_rfl,.nil⟩
theorem sk_i_0 (N:Nat) (n:Int) (ls:List HV) (H:Heap) (tb k mb sb:Nat) {y6 y9 y12 y14 y15 y29 y30 y38 y39 y40 y49 y50 y51:HV}:RunsTo Tp (plF F) 43 (sub [1,1,1,1,1,1,1,0,0] B43) (env43 (.agg [.i n,.imm .arg 3 ls]) (.ptr 0 0 0 1) (.imm .lit 1 []) .nilmap (.bool false) (.s tb k) y6 (.map mb) (.ptr sb 0 0 1) y9 (.func 64 [] [.ptr sb 0 0 1]) y12 y14 y15 y29 y30 y38 y39 y40 y49 y50 y51) H .normal ((plF F).keys 43) (env43 (.agg [.i n,.imm .arg 3 ls]) (.ptr 0 0 0 1) (.imm .lit 1 []) .nilmap (.bool false) (.s tb k) y6 (.map mb) (.ptr sb 0 0 1) y9 (.func 64 [] [.ptr sb 0 0 1]) y12 y14 y15 y29 y30 (.s tb k) (.i (k:Int)) (.i 0) y49 y50 y51) H :=
  RunsTo.hin N 60 [] fun kf hk=>⟨_,by kernel_rfl,.nil⟩
theorem sk_l_0 (N:Nat) (n:Int) (ls:List HV) (H:Heap) (tb k mb sb i:Nat) {y6 y9 y12 y14 y15 y29 y30 y49 y50 y51:HV}(g0:(i:Int) < (k:Int)):RunsTo Tp (plF F) 43 (sub [1,1,1,1,1,1,1,0,1,0,0,0] B43) (env43 (.agg [.i n,.imm .arg 3 ls]) (.ptr 0 0 0 1) (.imm .lit 1 []) .nilmap (.bool false) (.s tb k) y6 (.map mb) (.ptr sb 0 0 1) y9 (.func 64 [] [.ptr sb 0 0 1]) y12 y14 y15 y29 y30 (.s tb k) (.i (k:Int)) (.i (i:Int)) y49 y50 y51) H .normal [0,1,2,3,4,5,6,7,8,9,10,12,14,15,29,30,38,39,40,49,50,51,41] [(0,.agg [.i n,.imm .arg 3 ls]),(1,.ptr 0 0 0 1),(2,.imm .lit 1 []),(3,.nilmap),(4,.bool false),(5,.s tb k),(6,y6),(7,.map mb),(8,.ptr sb 0 0 1),(9,y9),(10,.func 64 [] [.ptr sb 0 0 1]),(12,y12),(14,y14),(15,y15),(29,y29),(30,y30),(38,.s tb k),(39,.i (k:Int)),(40,.i (i:Int)),(49,y49),(50,y50),(51,y51),(41,.bool true)] H :=
  RunsTo.hin N 60 [⟨13,0,.bool true,H⟩] fun kf hk=>⟨_,by kernel_rfl,(oB H (decide_eq_true g0) .nil)⟩
theorem sk_l_1 (N:Nat) (n:Int) (ls:List HV) (H:Heap) (tb k mb sb i:Nat) {y6 y9 y12 y14 y15 y29 y30 y49 y50 y51:HV}(g0:¬ ((i:Int) < (k:Int))):RunsTo Tp (plF F) 43 (sub [1,1,1,1,1,1,1,0,1,0,0,0] B43) (env43 (.agg [.i n,.imm .arg 3 ls]) (.ptr 0 0 0 1) (.imm .lit 1 []) .nilmap (.bool false) (.s tb k) y6 (.map mb) (.ptr sb 0 0 1) y9 (.func 64 [] [.ptr sb 0 0 1]) y12 y14 y15 y29 y30 (.s tb k) (.i (k:Int)) (.i (i:Int)) y49 y50 y51) H .normal [0,1,2,3,4,5,6,7,8,9,10,12,14,15,29,30,38,39,40,49,50,51,41] [(0,.agg [.i n,.imm .arg 3 ls]),(1,.ptr 0 0 0 1),(2,.imm .lit 1 []),(3,.nilmap),(4,.bool false),(5,.s tb k),(6,y6),(7,.map mb),(8,.ptr sb 0 0 1),(9,y9),(10,.func 64 [] [.ptr sb 0 0 1]),(12,y12),(14,y14),(15,y15),(29,y29),(30,y30),(38,.s tb k),(39,.i (k:Int)),(40,.i (i:Int)),(49,y49),(50,y50),(51,y51),(41,.bool false)] H :=
  RunsTo.hin N 60 [⟨13,0,.bool false,H⟩] fun kf hk=>⟨_,by kernel_rfl,(oB H (decide_eq_false g0) .nil)⟩
theorem sk_lt_0 (N:Nat) (n:Int) (ls:List HV) (H:Heap) (tb k mb sb i:Nat) {y6 y9 y12 y14 y15 y29 y30 y49 y50 y51:HV}:RunsTo Tp (plF F) 43 (sub [1,1,1,1,1,1,1,0,1,0,0,1,0] B43) [(0,.agg [.i n,.imm .arg 3 ls]),(1,.ptr 0 0 0 1),(2,.imm .lit 1 []),(3,.nilmap),(4,.bool false),(5,.s tb k),(6,y6),(7,.map mb),(8,.ptr sb 0 0 1),(9,y9),(10,.func 64 [] [.ptr sb 0 0 1]),(12,y12),(14,y14),(15,y15),(29,y29),(30,y30),(38,.s tb k),(39,.i (k:Int)),(40,.i (i:Int)),(49,y49),(50,y50),(51,y51),(41,.bool true)] H .normal ((plF F).keys 43) (env43 (.agg [.i n,.imm .arg 3 ls]) (.ptr 0 0 0 1) (.imm .lit 1 []) .nilmap (.bool false) (.s tb k) y6 (.map mb) (.ptr sb 0 0 1) y9 (.func 64 [] [.ptr sb 0 0 1]) y12 y14 y15 y29 y30 (.s tb k) (.i (k:Int)) (.i (i:Int)) y49 y50 y51) H :=
  RunsTo.hin N 60 [] fun kf hk=>⟨_,by kernel_rfl,.nil⟩
theorem sk_lf_0 (N:Nat) (n:Int) (ls:List HV) (H:Heap) (tb k mb sb i:Nat) {y6 y9 y12 y14 y15 y29 y30 y49 y50 y51:HV}:RunsTo Tp (plF F) 43 (sub [1,1,1,1,1,1,1,0,1,0,0,1,0] B43) [(0,.agg [.i n,.imm .arg 3 ls]),(1,.ptr 0 0 0 1),(2,.imm .lit 1 []),(3,.nilmap),(4,.bool false),(5,.s tb k),(6,y6),(7,.map mb),(8,.ptr sb 0 0 1),(9,y9),(10,.func 64 [] [.ptr sb 0 0 1]),(12,y12),(14,y14),(15,y15),(29,y29),(30,y30),(38,.s tb k),(39,.i (k:Int)),(40,.i (i:Int)),(49,y49),(50,y50),(51,y51),(41,.bool false)] H (.exit 2) ((plF F).keys 43) (env43 (.agg [.i n,.imm .arg 3 ls]) (.ptr 0 0 0 1) (.imm .lit 1 []) .nilmap (.bool false) (.s tb k) y6 (.map mb) (.ptr sb 0 0 1) y9 (.func 64 [] [.ptr sb 0 0 1]) y12 y14 y15 y29 y30 (.s tb k) (.i (k:Int)) (.i (i:Int)) y49 y50 y51) H :=
  RunsTo.hin N 60 [] fun kf hk=>⟨_,by kernel_rfl,.nil⟩
theorem sk_m_0 (N:Nat) (n:Int) (ls:List HV) (H:Heap) (tb k mb sb i:Nat) (x:Int) {y6 y9 y12 y14 y15 y29 y30 y49 y50 y51:HV}(g0:idxV Tp 24 (.s tb k) (.i (i:Int))=some (.ptr tb i 0 k)) (g1:loadV Tp H 3 (.ptr tb i 0 k)=some (.i x)):RunsTo Tp (plF F) 43 (sub [1,1,1,1,1,1,1,0,1,0,0,1,1,0,0,0] B43) (env43 (.agg [.i n,.imm .arg 3 ls]) (.ptr 0 0 0 1) (.imm .lit 1 []) .nilmap (.bool false) (.s tb k) y6 (.map mb) (.ptr sb 0 0 1) y9 (.func 64 [] [.ptr sb 0 0 1]) y12 y14 y15 y29 y30 (.s tb k) (.i (k:Int)) (.i (i:Int)) y49 y50 y51) H .normal ((plF F).keys 43) (env43 (.agg [.i n,.imm .arg 3 ls]) (.ptr 0 0 0 1) (.imm .lit 1 []) .nilmap (.bool false) (.s tb k) y6 (.map mb) (.ptr sb 0 0 1) y9 (.func 64 [] [.ptr sb 0 0 1]) (.i x) y14 y15 y29 y30 (.s tb k) (.i (k:Int)) (.i (i:Int)) y49 y50 y51) H :=
  RunsTo.hin N 60 [⟨14,0,.ptr tb i 0 k,H⟩,⟨14,1,.i x,H⟩] fun kf hk=>⟨_,by kernel_rfl,(oP H g0 (oP H g1 .nil))⟩
theorem sk_o_0 (N:Nat) (n:Int) (ls:List HV) (H:Heap) (tb k mb sb i:Nat) (x:Int) {y6 y9 y14 y15 y29 y30 y49 y50 y51:HV} {H0:Heap} (g0:updV Tp false 72 (.map mb) (.i x) (.bool true) H=some H0):RunsTo Tp (plF F) 43 (sub [1,1,1,1,1,1,1,0,1,0,0,1,1,0,0,1,0] B43) (env43 (.agg [.i n,.imm .arg 3 ls]) (.ptr 0 0 0 1) (.imm .lit 1 []) .nilmap (.bool false) (.s tb k) y6 (.map mb) (.ptr sb 0 0 1) y9 (.func 64 [] [.ptr sb 0 0 1]) (.i x) y14 y15 y29 y30 (.s tb k) (.i (k:Int)) (.i (i:Int)) y49 y50 y51) H .normal ((plF F).keys 43) (env43 (.agg [.i n,.imm .arg 3 ls]) (.ptr 0 0 0 1) (.imm .lit 1 []) .nilmap (.bool false) (.s tb k) y6 (.map mb) (.ptr sb 0 0 1) y9 (.func 64 [] [.ptr sb 0 0 1]) (.i x) y14 y15 y29 y30 (.s tb k) (.i (k:Int)) (.i (i:Int)) y49 y50 y51) H0 :=
  RunsTo.hin N 60 [⟨15,2,.tuple [],H0⟩] fun kf hk=>⟨_,by kernel_rfl,(oS g0 .nil)⟩
theorem sk_p_0 (N:Nat) (n:Int) (ls:List HV) (H:Heap) (tb k mb sb i ib c:Nat) (x:Int) {y6 y9 y14 y15 y29 y30 y49 y50 y51:HV} {H0:Heap} (g0:loadV Tp H 66 (.ptr 0 0 0 1)=some (.agg [.i n,.imm .arg 3 ls])) (g1:∀ kf,callN Tp (plF F) (kf+1) 59 [.agg [.i n,.imm .arg 3 ls],.s tb k,.i x] H=some (.s ib c,H0)):RunsTo Tp (plF F) 43 (sub [1,1,1,1,1,1,1,0,1,0,0,1,1,0,0,1,1,0] B43) (env43 (.agg [.i n,.imm .arg 3 ls]) (.ptr 0 0 0 1) (.imm .lit 1 []) .nilmap (.bool false) (.s tb k) y6 (.map mb) (.ptr sb 0 0 1) y9 (.func 64 [] [.ptr sb 0 0 1]) (.i x) y14 y15 y29 y30 (.s tb k) (.i (k:Int)) (.i (i:Int)) y49 y50 y51) H .normal ((plF F).keys 43) (env43 (.agg [.i n,.imm .arg 3 ls]) (.ptr 0 0 0 1) (.imm .lit 1 []) .nilmap (.bool false) (.s tb k) y6 (.map mb) (.ptr sb 0 0 1) y9 (.func 64 [] [.ptr sb 0 0 1]) (.i x) y14 y15 y29 y30 (.s tb k) (.i (k:Int)) (.i (i:Int)) (.s ib c) (.i (c:Int)) (.i 0)) H0 :=
  RunsTo.hin N 60 [⟨16,0,.agg [.i n,.imm .arg 3 ls],H⟩,⟨16,3,.s ib c,H0⟩] fun kf hk=>⟨_,by kernel_rfl,(oP H g0 (oC (g1 kf) .nil))⟩
theorem sk_q_0 (N:Nat) (n:Int) (ls:List HV) (H:Heap) (tb k mb sb i ib c j:Nat) (x y a b w a2 b2 w2:Int) {y6 y9 y14 y15 y29 y30:HV} {H0:Heap} {H1:Heap} (g0:(j:Int) < (c:Int)) (g1:idxV Tp 24 (.s ib c) (.i (j:Int))=some (.ptr ib j 0 c)) (g2:loadV Tp H 3 (.ptr ib j 0 c)=some (.i y)) (g3:loadV Tp H 22 (.ptr 0 0 1 1)=some (.imm .arg 3 ls)) (g4:idxV Tp 22 (.imm .arg 3 ls) (.i y)=some (.vptr (.agg [.i a,.i b,.i w]))) (g5:loadV Tp H 22 (.ptr 0 0 1 1)=some (.imm .arg 3 ls)) (g6:idxV Tp 22 (.imm .arg 3 ls) (.i x)=some (.vptr (.agg [.i a2,.i b2,.i w2]))) (g7:∀ kf,N ≤ kf → callN Tp (plF F) (kf+1) 64 [.i x,.i (IntKind.i64.wrap (w - w2)),.ptr sb 0 0 1] H=some (.tuple [],H0)) (g8:∀ kf,N ≤ kf → callN Tp (plF F) (kf+1) 64 [.i y,.i (IntKind.i64.wrap (w - w2)),.ptr sb 0 0 1] H0=some (.tuple [],H1)):RunsTo Tp (plF F) 43 (sub [1,1,1,1,1,1,1,0,1,0,0,1,1,0,0,1,1,1,0,0] B43) (env43 (.agg [.i n,.imm .arg 3 ls]) (.ptr 0 0 0 1) (.imm .lit 1 []) .nilmap (.bool false) (.s tb k) y6 (.map mb) (.ptr sb 0 0 1) y9 (.func 64 [] [.ptr sb 0 0 1]) (.i x) y14 y15 y29 y30 (.s tb k) (.i (k:Int)) (.i (i:Int)) (.s ib c) (.i (c:Int)) (.i (j:Int))) H .normal ((plF F).keys 43) (env43 (.agg [.i n,.imm .arg 3 ls]) (.ptr 0 0 0 1) (.imm .lit 1 []) .nilmap (.bool false) (.s tb k) y6 (.map mb) (.ptr sb 0 0 1) y9 (.func 64 [] [.ptr sb 0 0 1]) (.i x) (.i y) (.i (IntKind.i64.wrap (w - w2))) y29 y30 (.s tb k) (.i (k:Int)) (.i (i:Int)) (.s ib c) (.i (c:Int)) (.i (IntKind.i64.wrap ((j:Int)+1)))) H1 :=
  RunsTo.hin N 60 [⟨17,0,.bool true,H⟩,⟨18,0,.ptr ib j 0 c,H⟩,⟨18,1,.i y,H⟩,⟨19,1,.imm .arg 3 ls,H⟩,⟨19,3,.vptr (.agg [.i a,.i b,.i w]),H⟩,⟨19,7,.imm .arg 3 ls,H⟩,⟨19,9,.vptr (.agg [.i a2,.i b2,.i w2]),H⟩,⟨20,3,.tuple [],H0⟩,⟨21,3,.tuple [],H1⟩] fun kf hk=>⟨_,by kernel_rfl,(oB H (decide_eq_true g0) (oP H g1 (oP H g2 (oP H g3 (oP H g4 (oP H g5 (oP H g6 (oC (g7 kf (by omega)) (oC (g8 kf (by omega)) .nil)))))))))⟩
theorem sk_q_1 (N:Nat) (n:Int) (ls:List HV) (H:Heap) (tb k mb sb i ib c j:Nat) (x y a b w a2 b2 w2:Int) {y6 y9 y14 y15 y29 y30:HV}(g0:¬ ((j:Int) < (c:Int))):RunsTo Tp (plF F) 43 (sub [1,1,1,1,1,1,1,0,1,0,0,1,1,0,0,1,1,1,0,0] B43) (env43 (.agg [.i n,.imm .arg 3 ls]) (.ptr 0 0 0 1) (.imm .lit 1 []) .nilmap (.bool false) (.s tb k) y6 (.map mb) (.ptr sb 0 0 1) y9 (.func 64 [] [.ptr sb 0 0 1]) (.i x) y14 y15 y29 y30 (.s tb k) (.i (k:Int)) (.i (i:Int)) (.s ib c) (.i (c:Int)) (.i (j:Int))) H (.exit 4) ((plF F).keys 43) (env43 (.agg [.i n,.imm .arg 3 ls]) (.ptr 0 0 0 1) (.imm .lit 1 []) .nilmap (.bool false) (.s tb k) y6 (.map mb) (.ptr sb 0 0 1) y9 (.func 64 [] [.ptr sb 0 0 1]) (.i x) y14 y15 y29 y30 (.s tb k) (.i (k:Int)) (.i (i:Int)) (.s ib c) (.i (c:Int)) (.i (j:Int))) H :=
  RunsTo.hin N 60 [⟨17,0,.bool false,H⟩] fun kf hk=>⟨_,by kernel_rfl,(oB H (decide_eq_false g0) .nil)⟩
theorem sk_r_0 (N:Nat) (n:Int) (ls:List HV) (H:Heap) (tb k mb sb i:Nat) {y6 y9 y12 y14 y15 y29 y30 y49 y50 y51:HV}:RunsTo Tp (plF F) 43 (sub [1,1,1,1,1,1,1,0,1,0,0,1,1,1] B43) (env43 (.agg [.i n,.imm .arg 3 ls]) (.ptr 0 0 0 1) (.imm .lit 1 []) .nilmap (.bool false) (.s tb k) y6 (.map mb) (.ptr sb 0 0 1) y9 (.func 64 [] [.ptr sb 0 0 1]) y12 y14 y15 y29 y30 (.s tb k) (.i (k:Int)) (.i (i:Int)) y49 y50 y51) H .normal ((plF F).keys 43) (env43 (.agg [.i n,.imm .arg 3 ls]) (.ptr 0 0 0 1) (.imm .lit 1 []) .nilmap (.bool false) (.s tb k) y6 (.map mb) (.ptr sb 0 0 1) y9 (.func 64 [] [.ptr sb 0 0 1]) y12 y14 y15 y29 y30 (.s tb k) (.i (k:Int)) (.i (IntKind.i64.wrap ((i:Int)+1))) y49 y50 y51) H :=
  RunsTo.hin N 60 [] fun kf hk=>⟨_,by kernel_rfl,.nil⟩
theorem sk_z_0 (N:Nat) (n:Int) (ls:List HV) (H:Heap) (tb k mb sb ob m:Nat) {y6 y9 y12 y14 y15 y29 y30 y38 y39 y40 y49 y50 y51:HV}(g0:loadV Tp H 24 (.ptr sb 0 0 1)=some (.o ob m)):RunsTo Tp (plF F) 43 (sub [1,1,1,1,1,1,1,1] B43) (env43 (.agg [.i n,.imm .arg 3 ls]) (.ptr 0 0 0 1) (.imm .lit 1 []) .nilmap (.bool false) (.s tb k) y6 (.map mb) (.ptr sb 0 0 1) y9 (.func 64 [] [.ptr sb 0 0 1]) y12 y14 y15 y29 y30 y38 y39 y40 y49 y50 y51) H .ret ((plF F).keys 43) (env43 (.agg [.i n,.imm .arg 3 ls]) (.ptr 0 0 0 1) (.o ob m) (.map mb) (.bool true) (.s tb k) y6 (.map mb) (.ptr sb 0 0 1) y9 (.func 64 [] [.ptr sb 0 0 1]) y12 y14 y15 y29 y30 y38 y39 y40 y49 y50 y51) H :=
  RunsTo.hin N 60 [⟨24,0,.o ob m,H⟩] fun kf hk=>⟨_,by kernel_rfl,(oP H g0 .nil)⟩
end
end Go.Proofs.Ytiejmoglooaalaa
end
section
open Go Go.HL
namespace Go.Proofs.Ytiejmoglooaalaa
open Go.Proofs.Try renaming prog → Tp
open Go.HL.HV renaming undef → Ud
def lwT (O:List Int) (k d:Int):List Int:=if O.getD k.toNat 0 < 0 ∨ d < O.getD k.toNat 0 then O.set k.toNat d else O
theorem lw_len (O:List Int) (k d:Int):(lwT O k d).length=O.length:=by unfold lwT; split <;> simp
theorem u72:Tp.underlying 72=some (.map 3 4):=by kernel_rfl
theorem key3 (x:Int):keyTy Tp 3 (.int .i64 x)=true:=by kernel_rfl
theorem findK_ints (x:Int):∀ (ks:List Int) (i:Nat),x ∉ ks → findK (.int .i64 x) (ks.map encI) i=some none
  | [],_,_=>rfl
  | y :: ks,i,h=>by
    have h1:x ≠ y:=fun c=>h (c ▸ List.mem_cons_self ..)
    simp only [List.map_cons,findK,encI,keyEq,scEq,if_true,decide_eq_false h1]
    exact findK_ints x ks (i+1) fun c=>h (List.mem_cons_of_mem _ c)
section
variable {F:FuncId → Option (List HV → Option HV)}
theorem lw_call (h64:F 64=none) {H:Heap} {sb ob m mx:Nat} {O:List Int} (hs:H[sb]?=some (.arr 1 [.sl ob 0 m (some m) m 1] true mx)) (ho:H[ob]?=some (bI O)) (hm:O.length=m) {k:Int} (hk:0 ≤ k∧k < (m:Int)) (d:Int):ClF F 64 [.int .i64 k,.int .i64 d,.ptr sb 0 0 1] H (.tuple []) (H.set ob (bI (lwT O k d))):=by
  have hr:Try.f64.results.toList=[]:=by kernel_rfl
  have l0:loadV Tp H 24 (.ptr sb 0 0 1)=some (.sl ob 0 m (some m) m 1):=load_elem (b:=sb) hs rfl rfl rfl a24 i24
  have ix:=idxU (b:=ob) (n:=m) (v:=k) hk (cap:=some m)
  have ld:=load_out ho (y:=k.toNat) (by omega)
  have st:=store_out ho (y:=k.toNat) (by omega) d
  rw [hm] at ld st
  by_cases c1:O.getD k.toNat 0 < 0
  · have h:=CallsTo.shared (P:=Tp) (pol:=plF F) (g:=64) (fn:=Try.f64) (cd:=B64) (args:=[.int .i64 k,.int .i64 d,.ptr sb 0 0 1]) (v:=.tuple []) h64 (by kernel_rfl) (by kernel_rfl) (by kernel_rfl) (lo_a_0 (F:=F) k d sb ob m _ H l0 ix ld c1 l0 ix st) (by kernel_rfl) (by simp) (by simp only [resultsV,hr]; rfl)
    rw [gc_eq _ (by simp)] at h
    rw [lwT,if_pos (.inl c1)]; exact h
  by_cases c2:d < O.getD k.toNat 0
  · have h:=CallsTo.shared (P:=Tp) (pol:=plF F) (g:=64) (fn:=Try.f64) (cd:=B64) (args:=[.int .i64 k,.int .i64 d,.ptr sb 0 0 1]) (v:=.tuple []) h64 (by kernel_rfl) (by kernel_rfl) (by kernel_rfl) (lo_a_1 (F:=F) k d sb ob m _ H l0 ix ld c1 l0 ix ld c2 l0 ix st) (by kernel_rfl) (by simp) (by simp only [resultsV,hr]; rfl)
    rw [gc_eq _ (by simp)] at h
    rw [lwT,if_pos (.inr c2)]; exact h
  · have h:=CallsTo.shared (P:=Tp) (pol:=plF F) (g:=64) (fn:=Try.f64) (cd:=B64) (args:=[.int .i64 k,.int .i64 d,.ptr sb 0 0 1]) (v:=.tuple []) h64 (by kernel_rfl) (by kernel_rfl) (by kernel_rfl) (lo_a_2 (F:=F) k d sb ob m _ H l0 ix ld c1 l0 ix ld c2) (by kernel_rfl) (by simp) (by simp only [resultsV,hr]; rfl)
    rw [gc_eq _ rfl] at h
    rw [lwT,if_neg (fun h=>h.elim c1 c2),set_same ho]; exact h
end
def inS (l:List St) (x:Int) (O:List Int) (y:Int):List Int:=lwT (lwT O x (wOf l y - wOf l x)) y (wOf l y - wOf l x)
theorem inS_len (l:List St) (x:Int) (O:List Int) (y:Int):(inS l x O y).length=O.length:=by rw [inS,lw_len,lw_len]
def inF (l:List St) (x:Int) (O ys:List Int):List Int:=ys.foldl (inS l x) O
theorem inF_len (l:List St) (x:Int):∀ (ys O:List Int),(inF l x O ys).length=O.length
  | [],_=>rfl
  | y :: ys,O=>by rw [inF,List.foldl_cons]; exact (inF_len l x ys _).trans (inS_len ..)
theorem inF_succ (l:List St) (x:Int) (O ys:List Int) {j:Nat} (h:j < ys.length):inF l x O (ys.take (j+1))=inS l x (inF l x O (ys.take j)) (ys.getD j 0):=by
  rw [inF,take_snoc h,List.foldl_append]; rfl
def ouF (l:List St) (t O ks:List Int):List Int:=ks.foldl (fun O k=>inF l k O (insT l t k l.length)) O
theorem ouF_len (l:List St) (t:List Int):∀ (ks O:List Int),(ouF l t O ks).length=O.length
  | [],_=>rfl
  | k :: ks,O=>by rw [ouF,List.foldl_cons]; exact (ouF_len l t ks _).trans (inF_len ..)
theorem ouF_succ (l:List St) (t O ks:List Int) {j:Nat} (h:j < ks.length):ouF l t O (ks.take (j+1))=inF l (ks.getD j 0) (ouF l t O (ks.take j)) (insT l t (ks.getD j 0) l.length):=by
  rw [ouF,take_snoc h,List.foldl_append]; rfl
def slT (l:List St):List Int:=ouF l (treeT l) (List.replicate l.length (-1)) (treeT l)
def bM (M:List Int):Blk:=.map (M.map encI) (M.map fun _=>HV.bool true) 0
abbrev bL (m:Nat):Blk:=.arr 1 [.sl 3 0 m (some m) m 1] true 6
abbrev hS (n:Int) (l:List St) (T M O:List Int):Heap:=[bN n l,bI T,bM M,bI O,bL l.length,bI []]
def slack43:List HV → Option HV:=f1 kN fun p=>if netB p.1 p.2=true then some (if connB p.1 p.2=true then .tuple [.own 1 ((slT p.2).map encI),.omap ((treeT p.2).map encI) ((treeT p.2).map fun _=>HV.bool true),.bool true] else .tuple [.own 1 [],.nilmap,.bool false]) else none
theorem res43:Try.f43.results.toList=[.tmp 2,.tmp 3,.tmp 4]:=by kernel_rfl
def prSk:FuncId → Option (List HV → Option HV):=fun g=>if g == 40 then some tree40 else if g == 59 then some instead59 else none
theorem soundSk (n:Nat):CallSound Tp (callN Tp (plF prSk) n):=sound_prim _ (fun g f h=>by
  unfold prSk at h
  split at h
  · rename_i hg; cases h; rw [eq_of_beq hg]; exact tree_ok
  split at h
  · rename_i hg; cases h; rw [eq_of_beq hg]; exact instead_ok
  · cases h) n
theorem tree_nodup (l:List St):(treeT l).Nodup:=by
  have:=tk_sublist l (ordT l) (ordT l).length (Nat.le_refl _)
  rw [List.take_length] at this
  exact this.nodup (ordT_nodup l)
theorem getD_notin {l:List Int} (h:l.Nodup) {i:Nat} (hi:i < l.length):l.getD i 0 ∉ l.take i:=by
  intro c
  have h2:(l.take (i+1)).Nodup:=(List.take_sublist _ _).nodup h
  rw [take_snoc hi] at h2
  exact (List.nodup_append.1 h2).2.2 _ c _ (List.mem_singleton_self _) rfl
theorem sk_round {n:Int} {l:List St} (hnet:netB n l=true) {T O:List Int} (hT:T=treeT l) (hO:O.length=l.length) {i:Nat} (hi:i < T.length) :
    ∃ E0 H1,RunsTo Tp (plF prSk) 43 (sub [1,1,1,1,1,1,1,0,1,0,0] B43) ((env43 (encN n l) (.ptr 0 0 0 1) (.imm .lit 1 []) .nilmap (.bool false) (.sl 1 0 T.length none T.length 1) Ud (.map 2) (.ptr 4 0 0 1) Ud (.func 64 [] [.ptr 4 0 0 1]) Ud Ud Ud Ud Ud (.sl 1 0 T.length none T.length 1) (.int .i64 (T.length:Int)) (.int .i64 ((i:Nat):Int)) Ud Ud Ud)) (hS n l T (T.take i) O) .normal ((plF prSk).keys 43) E0 H1∧lrestr (plF prSk) 43 (sub [1,1,1,1,1,1,1,0,1,0,0] B43) E0=(env43 (encN n l) (.ptr 0 0 0 1) (.imm .lit 1 []) .nilmap (.bool false) (.sl 1 0 T.length none T.length 1) Ud (.map 2) (.ptr 4 0 0 1) Ud (.func 64 [] [.ptr 4 0 0 1]) Ud Ud Ud Ud Ud (.sl 1 0 T.length none T.length 1) (.int .i64 (T.length:Int)) (.int .i64 ((i+1:Nat):Int)) Ud Ud Ud)∧gc 6 (bndE ((env43 (encN n l) (.ptr 0 0 0 1) (.imm .lit 1 []) .nilmap (.bool false) (.sl 1 0 T.length none T.length 1) Ud (.map 2) (.ptr 4 0 0 1) Ud (.func 64 [] [.ptr 4 0 0 1]) Ud Ud Ud Ud Ud (.sl 1 0 T.length none T.length 1) (.int .i64 (T.length:Int)) (.int .i64 ((i+1:Nat):Int)) Ud Ud Ud))) H1=hS n l T (T.take (i+1)) (inF l (T.getD i 0) O (insT l T (T.getD i 0) l.length)):=by
  obtain ⟨⟨n1,n2⟩,n3,he,hw⟩:=netB_ends hnet
  have heB:=endN_B he (by omega)
  have hTin:∀ x ∈ T,0 ≤ x∧x < (l.length:Int):=fun x hx=>tree_in (by rw [← hT]; exact hx)
  have hTn:T.Nodup:=by rw [hT]; exact tree_nodup l
  have hTl:T.length ≤ l.length:=by rw [hT,← fr_len]; exact frT_le l
  have hx:=hTin _ (mem_getD 0 hi)
  have hwt:∀ k:Int,0 ≤ k∧k < (l.length:Int) → 0 ≤ wOf l k∧wOf l k ≤ 1000:=fun k hk=>hw _ (mem_getD _ (by omega))
  have s1:=sk_l_0 (F:=prSk) 0 n (l.map encT) (hS n l T (T.take i) O) 1 T.length 2 4 i (y6:=Ud) (y9:=Ud) (y12:=Ud) (y14:=Ud) (y15:=Ud) (y29:=Ud) (y30:=Ud) (y49:=Ud) (y50:=Ud) (y51:=Ud) (by omega)
  have s2:=sk_lt_0 (F:=prSk) 0 n (l.map encT) (hS n l T (T.take i) O) 1 T.length 2 4 i (y6:=Ud) (y9:=Ud) (y12:=Ud) (y14:=Ud) (y15:=Ud) (y29:=Ud) (y30:=Ud) (y49:=Ud) (y50:=Ud) (y51:=Ud)
  have s3:=sk_m_0 (F:=prSk) 0 n (l.map encT) (hS n l T (T.take i) O) 1 T.length 2 4 i (T.getD i 0) (y6:=Ud) (y9:=Ud) (y12:=Ud) (y14:=Ud) (y15:=Ud) (y29:=Ud) (y30:=Ud) (y49:=Ud) (y50:=Ud) (y51:=Ud) (idxS u24 z3 hi) (load_out (H:=hS n l T (T.take i) O) (k:=1) rfl hi)
  have s4u:updV Tp false 72 (.map 2) (.int .i64 (T.getD i 0)) (.bool true) (hS n l T (T.take i) O)=some (hS n l T (T.take (i+1)) O):=by
    have hk:=key3 (T.getD i 0)
    have hf:=findK_ints (T.getD i 0) (T.take i) 0 (getD_notin hTn hi)
    have hg:(hS n l T (T.take i) O)[2]?=some (.map ((T.take i).map encI) ((T.take i).map fun _=>HV.bool true) 0):=rfl
    have ha:(aggEq (cellsOf (HV.int .i64 (T.getD i 0))) (cellsOf (HV.int .i64 (T.getD i 0)))).isSome=true:=rfl
    simp only [updV,u72,hk,if_true,Bool.false_eq_true,if_false,hg,hf,ha]
    rw [take_snoc hi]
    simp only [hS,bM,List.map_append]
    rfl
  have s4:=sk_o_0 (F:=prSk) 0 n (l.map encT) (hS n l T (T.take i) O) 1 T.length 2 4 i (T.getD i 0) (y6:=Ud) (y9:=Ud) (y14:=Ud) (y15:=Ud) (y29:=Ud) (y30:=Ud) (y49:=Ud) (y50:=Ud) (y51:=Ud) s4u
  have c59:=at3 (pol':=plF prSk) (g:=59) (c1:=kN) (c2:=kL) (c3:=kI) (f:=fun p t o=>if (endB p.2=true∧p.2.length ≤ 500)∧inR p.2.length t=true∧t ≠ []∧t.length ≤ 500 then some (.own 1 ((insT p.2 t o p.2.length).map encI)) else none) (H:=hS n l T (T.take (i+1)) O) (by kernel_rfl) (ShN _ n l) (ShL_sl (b:=1) (l:=T) rfl rfl) (ShI _ (T.getD i 0)) (if_pos ⟨⟨heB,by show l.length ≤ 500; omega⟩,inR_iff.2 hTin,fun h=>by rw [h] at hi; simp at hi,by omega⟩)
  rw [recv_ints] at c59
  have s5:=sk_p_0 (F:=prSk) 0 n (l.map encT) (hS n l T (T.take (i+1)) O) 1 T.length 2 4 i 6 (insT l T (T.getD i 0) l.length).length (T.getD i 0) (y6:=Ud) (y9:=Ud) (y14:=Ud) (y15:=Ud) (y29:=Ud) (y30:=Ud) (y49:=Ud) (y50:=Ud) (y51:=Ud) (ld66 rfl) c59
  have hYin:∀ y ∈ insT l T (T.getD i 0) l.length,0 ≤ y∧y < (l.length:Int):=fun y hy=>startT_mem.1 (List.mem_filter.1 hy).1
  have hYl:=ins_len l T (T.getD i 0) l.length
  generalize insT l T (T.getD i 0) l.length=Y at *
  have hfl:∀ j,(inF l (T.getD i 0) O (Y.take j)).length=l.length:=fun j=>(inF_len ..).trans hO
  have r:=count (pol':=plF prSk) (f:=43) (E:=fun j=>(env43 (encN n l) (.ptr 0 0 0 1) (.imm .lit 1 []) .nilmap (.bool false) (.sl 1 0 T.length none T.length 1) Ud (.map 2) (.ptr 4 0 0 1) Ud (.func 64 [] [.ptr 4 0 0 1]) (.int .i64 (T.getD i 0)) Ud Ud Ud Ud (.sl 1 0 T.length none T.length 1) (.int .i64 (T.length:Int)) (.int .i64 ((i:Nat):Int)) (.sl 6 0 Y.length none Y.length 1) (.int .i64 (Y.length:Int)) (.int .i64 ((j:Nat):Int)))) (Hs:=fun j=>hS n l T (T.take (i+1)) (inF l (T.getD i 0) O (Y.take j)) ++ [bI Y]) Y.length
    (E0:=fun j=>(env43 (encN n l) (.ptr 0 0 0 1) (.imm .lit 1 []) .nilmap (.bool false) (.sl 1 0 T.length none T.length 1) Ud (.map 2) (.ptr 4 0 0 1) Ud (.func 64 [] [.ptr 4 0 0 1]) (.int .i64 (T.getD i 0)) (.int .i64 (Y.getD j 0)) (.int .i64 (wOf l (Y.getD j 0) - wOf l (T.getD i 0))) Ud Ud (.sl 1 0 T.length none T.length 1) (.int .i64 (T.length:Int)) (.int .i64 ((i:Nat):Int)) (.sl 6 0 Y.length none Y.length 1) (.int .i64 (Y.length:Int)) (.int .i64 ((j+1:Nat):Int)))) (H1:=fun j=>hS n l T (T.take (i+1)) (inF l (T.getD i 0) O (Y.take (j+1))) ++ [bI Y])
    (fun j hj=>by
      have hy:=hYin _ (mem_getD 0 hj)
      have w1:=hwt _ hx
      have w2:=hwt _ hy
      have gy:=gs (l:=l) (y:=(Y.getD j 0).toNat) (by omega)
      have gxx:=gs (l:=l) (y:=(T.getD i 0).toNat) (by omega)
      rw [show (((Y.getD j 0).toNat:Nat):Int)=Y.getD j 0 by omega] at gy
      rw [show (((T.getD i 0).toNat:Nat):Int)=T.getD i 0 by omega] at gxx
      have hsucc:=inF_succ l (T.getD i 0) O Y hj
      have hOl:=hfl j
      generalize inF l (T.getD i 0) O (Y.take j)=Oj at *
      have hwr:IntKind.i64.wrap ((l.getD (Y.getD j 0).toNat (0,0,0)).2.2 - (l.getD (T.getD i 0).toNat (0,0,0)).2.2)=wOf l (Y.getD j 0) - wOf l (T.getD i 0):=wrap_id (by show _ ≤ wOf l (Y.getD j 0) - wOf l (T.getD i 0); omega) (by show wOf l (Y.getD j 0) - wOf l (T.getD i 0) < _; omega)
      obtain ⟨N1,k1⟩:=CallsTo.from (lw_call (F:=prSk) (by kernel_rfl) (H:=hS n l T (T.take (i+1)) Oj ++ [bI Y]) (sb:=4) (ob:=3) (mx:=6) rfl rfl hOl hx (wOf l (Y.getD j 0) - wOf l (T.getD i 0)))
      obtain ⟨N2,k2⟩:=CallsTo.from (lw_call (F:=prSk) (by kernel_rfl) (H:=hS n l T (T.take (i+1)) (lwT Oj (T.getD i 0) (wOf l (Y.getD j 0) - wOf l (T.getD i 0))) ++ [bI Y]) (sb:=4) (ob:=3) (mx:=6) rfl rfl (by rw [lw_len]; exact hOl) hy (wOf l (Y.getD j 0) - wOf l (T.getD i 0)))
      have s:=sk_q_0 (F:=prSk) (max N1 N2) n (l.map encT) (hS n l T (T.take (i+1)) Oj ++ [bI Y]) 1 T.length 2 4 i 6 Y.length j (T.getD i 0) (Y.getD j 0) _ _ _ _ _ _ (y6:=Ud) (y9:=Ud) (y14:=Ud) (y15:=Ud) (y29:=Ud) (y30:=Ud) (by omega) (idxS u24 z3 hj) (load_out (H:=hS n l T (T.take (i+1)) Oj ++ [bI Y]) (k:=6) rfl hj) (ld_net (xb:=0) rfl) gy (ld_net (xb:=0) rfl) gxx (fun kf hk=>by rw [hwr]; exact k1 kf (by omega)) (fun kf hk=>by rw [hwr]; exact k2 kf (by omega))
      rw [hwr,wrap_succ (by omega)] at s
      rw [hsucc]
      exact s) (fun j _=>by kernel_rfl) (fun j _=>gc_eq _ rfl) (sk_q_1 (F:=prSk) 0 n (l.map encT) (hS n l T (T.take (i+1)) (inF l (T.getD i 0) O (Y.take Y.length)) ++ [bI Y]) 1 T.length 2 4 i 6 Y.length Y.length (T.getD i 0) 0 0 0 0 0 0 0 (y6:=Ud) (y9:=Ud) (y14:=Ud) (y15:=Ud) (y29:=Ud) (y30:=Ud) (by omega)) (by simp) (c:=sub [1,1,1,1,1,1,1,0,1,0,0,1,1,0,0,1,1,1,0] B43) (by kernel_rfl) (fun j _=>by kernel_rfl)
  rw [List.take_length] at r
  have s7:=sk_r_0 (F:=prSk) 0 n (l.map encT) (hS n l T (T.take (i+1)) (inF l (T.getD i 0) O Y) ++ [bI Y]) 1 T.length 2 4 i (y12:=.int .i64 (T.getD i 0)) (y49:=.sl 6 0 Y.length none Y.length 1) (y50:=.int .i64 (Y.length:Int)) (y51:=.int .i64 (Y.length:Int)) (y6:=Ud) (y9:=Ud) (y14:=Ud) (y15:=Ud) (y29:=Ud) (y30:=Ud)
  rw [wrap_succ (by omega)] at s7
  refine ⟨_,_,sq (s1) (sq (s2) (sq (RunsTo.block_normal (i:=3) (c:=sub [1,1,1,1,1,1,1,0,1,0,0,1,1,0] B43) (sq (s3) (sq (s4) (sq (s5) (bke (c:=sub [1,1,1,1,1,1,1,0,1,0,0,1,1,0,0,1,1,1] B43) (r)) (c:=sub [1,1,1,1,1,1,1,0,1,0,0,1,1,0,0,1,1] B43)) (c:=sub [1,1,1,1,1,1,1,0,1,0,0,1,1,0,0,1] B43)) (c:=sub [1,1,1,1,1,1,1,0,1,0,0,1,1,0,0] B43)) (by kernel_rfl)) (s7) (c:=sub [1,1,1,1,1,1,1,0,1,0,0,1,1] B43)) (c:=sub [1,1,1,1,1,1,1,0,1,0,0,1] B43)) (c:=sub [1,1,1,1,1,1,1,0,1,0,0] B43),by kernel_rfl,?_⟩
  have hb:bndE ((env43 (encN n l) (.ptr 0 0 0 1) (.imm .lit 1 []) .nilmap (.bool false) (.sl 1 0 T.length none T.length 1) Ud (.map 2) (.ptr 4 0 0 1) Ud (.func 64 [] [.ptr 4 0 0 1]) Ud Ud Ud Ud Ud (.sl 1 0 T.length none T.length 1) (.int .i64 (T.length:Int)) (.int .i64 ((i+1:Nat):Int)) Ud Ud Ud))=5:=by simp only [bndE,bnd,bndL,encN]; rfl
  rw [hb]
  exact gc_back (H:=hS n l T (T.take (i+1)) (inF l (T.getD i 0) O Y)) (by show max 0 (max 0 (max 0 (max 0 (max 6 (max 0 (max 0 0)))))) ≤ 6; decide) (by show 5 ≤ 6; decide)
end Go.Proofs.Ytiejmoglooaalaa
end
section
open Go Go.HL
namespace Go.Proofs.Ytiejmoglooaalaa
def bst (b d:Int):Int:=if b < 0 ∨ d < b then d else b
end Go.Proofs.Ytiejmoglooaalaa
end
section
open Go Go.HL
namespace Go.Proofs.Ytiejmoglooaalaa
set_option linter.unusedSectionVars false
theorem lw_get {O:List Int} {k:Int} (d:Int) {x:Nat} (hx:x < O.length) (hk:0 ≤ k):(lwT O k d).getD x 0=if k=(x:Int) then bst (O.getD x 0) d else O.getD x 0:=by
  unfold lwT
  by_cases e:k=(x:Int)
  · subst e
    rw [if_pos rfl,Int.toNat_natCast,bst]
    by_cases c:O.getD x 0 < 0 ∨ d < O.getD x 0
    · rw [if_pos c,if_pos c,getD_set hx,if_pos rfl]
    · rw [if_neg c,if_neg c]
  · rw [if_neg e]
    by_cases c:O.getD k.toNat 0 < 0 ∨ d < O.getD k.toNat 0
    · rw [if_pos c]
      simp only [List.getD,List.getElem?_set]
      rw [if_neg (by omega)]
    · rw [if_neg c]
theorem in_get {l:List St} {O:List Int} {k y:Int} {x:Nat} (hx:x < O.length) (hk:0 ≤ k) (hy:0 ≤ y) (hne:k ≠ y):(inS l k O y).getD x 0=if k=(x:Int) ∨ y=(x:Int) then bst (O.getD x 0) (wOf l y - wOf l k) else O.getD x 0:=by
  rw [inS,lw_get _ (by rw [lw_len]; exact hx) hy,lw_get _ hx hk]
  by_cases c1:y=(x:Int)
  · rw [if_pos c1,if_neg (by omega),if_pos (.inr c1)]
  · rw [if_neg c1]
    by_cases c2:k=(x:Int)
    · rw [if_pos c2,if_pos (.inl c2)]
    · rw [if_neg c2,if_neg (by omega)]
theorem inF_self {l:List St} {k:Nat}:∀ (ys O:List Int),k < O.length → (∀ y ∈ ys,0 ≤ y∧y ≠ (k:Int)) → (inF l k O ys).getD k 0=ys.foldl (fun b y=>bst b (wOf l y - wOf l k)) (O.getD k 0)
  | [],_,_,_=>rfl
  | y :: ys,O,h,hy=>by
    obtain ⟨h1,h2⟩:=hy y (List.mem_cons_self ..)
    have:=inF_self (l:=l) ys (inS l k O y) (by rw [inS_len]; exact h) fun z hz=>hy z (List.mem_cons_of_mem _ hz)
    rw [inF,List.foldl_cons,List.foldl_cons]
    refine this.trans ?_
    rw [in_get h (by omega) h1 (fun c=>h2 c.symm),if_pos (.inl rfl)]
theorem inF_other {l:List St} {k:Int} {x:Nat} (hk:0 ≤ k) (hkx:k ≠ (x:Int)):∀ (ys O:List Int),x < O.length → ys.Nodup → (∀ y ∈ ys,0 ≤ y∧y ≠ k) → (inF l k O ys).getD x 0=if (x:Int) ∈ ys then bst (O.getD x 0) (wOf l x - wOf l k) else O.getD x 0
  | [],_,_,_,_=>by rw [if_neg (by simp)]; rfl
  | y :: ys,O,h,hn,hy=>by
    obtain ⟨h1,h2⟩:=hy y (List.mem_cons_self ..)
    obtain ⟨n1,n2⟩:=List.nodup_cons.1 hn
    have:=inF_other (l:=l) hk hkx ys (inS l k O y) (by rw [inS_len]; exact h) n2 fun z hz=>hy z (List.mem_cons_of_mem _ hz)
    rw [inF,List.foldl_cons]
    refine this.trans ?_
    rw [in_get h hk h1 (fun c=>h2 c.symm)]
    by_cases c:y=(x:Int)
    · subst c
      rw [if_neg n1,if_pos (.inr rfl),if_pos (List.mem_cons_self ..)]
    · have hor:¬ (k=(x:Int) ∨ y=(x:Int)):=fun h=>h.elim hkx c
      by_cases c2:(x:Int) ∈ ys
      · rw [if_pos c2,if_neg hor,if_pos (List.mem_cons_of_mem _ c2)]
      · rw [if_neg c2,if_neg hor,if_neg (fun h=>(List.mem_cons.1 h).elim (fun e=>c e.symm) c2)]
theorem ins_mem {l:List St} {t:List Int} {k:Int} {y:Int}:y ∈ insT l t k l.length ↔ (0 ≤ y∧y < (l.length:Int))∧y ∉ t∧joinsT l t k y:=by
  rw [insT,List.mem_filter,startT_mem,decide_eq_true_eq]
theorem ins_nodup (l:List St) (t:List Int) (k:Int):(insT l t k l.length).Nodup:=(startT_nodup _).sublist List.filter_sublist
theorem ou_out {l:List St} {t:List Int} {x:Nat} (hx:x < l.length) (hxt:(x:Int) ∉ t):∀ (ks O:List Int),O.length=l.length → (∀ k ∈ ks,k ∈ t∧0 ≤ k) → (ouF l t O ks).getD x 0=ks.foldl (fun b k=>if joinsT l t k x then bst b (wOf l x - wOf l k) else b) (O.getD x 0)
  | [],_,_,_=>rfl
  | k :: ks,O,hO,hk=>by
    obtain ⟨h1,h2⟩:=hk k (List.mem_cons_self ..)
    have:=ou_out hx hxt ks (inF l k O (insT l t k l.length)) ((inF_len ..).trans hO) fun z hz=>hk z (List.mem_cons_of_mem _ hz)
    rw [ouF,List.foldl_cons,List.foldl_cons]
    refine this.trans ?_
    rw [inF_other h2 (fun c=>hxt (c ▸ h1)) _ _ (by omega) (ins_nodup ..) (fun y hy=>⟨(ins_mem.1 hy).1.1,fun c=>(ins_mem.1 hy).2.1 (c ▸ h1)⟩)]
    refine congrArg (fun b=>ks.foldl _ b) ?_
    by_cases c:joinsT l t k x
    · rw [if_pos c,if_pos (ins_mem.2 ⟨by omega,hxt,c⟩)]
    · rw [if_neg c,if_neg (fun h=>c (ins_mem.1 h).2.2)]
theorem ou_in {l:List St} {t:List Int} {x:Nat} (hx:x < l.length) (hxt:(x:Int) ∈ t):∀ (ks O:List Int),O.length=l.length → ks.Nodup → (∀ k ∈ ks,k ∈ t∧0 ≤ k) → (ouF l t O ks).getD x 0=if (x:Int) ∈ ks then (insT l t x l.length).foldl (fun b y=>bst b (wOf l y - wOf l x)) (O.getD x 0) else O.getD x 0
  | [],_,_,_,_=>by rw [if_neg (by simp)]; rfl
  | k :: ks,O,hO,hn,hk=>by
    obtain ⟨h1,h2⟩:=hk k (List.mem_cons_self ..)
    obtain ⟨n1,n2⟩:=List.nodup_cons.1 hn
    have:=ou_in hx hxt ks (inF l k O (insT l t k l.length)) ((inF_len ..).trans hO) n2 fun z hz=>hk z (List.mem_cons_of_mem _ hz)
    rw [ouF,List.foldl_cons]
    refine this.trans ?_
    by_cases c:k=(x:Int)
    · subst c
      rw [if_neg n1,if_pos (List.mem_cons_self ..)]
      exact inF_self _ _ (by omega) fun y hy=>⟨(ins_mem.1 hy).1.1,fun c=>(ins_mem.1 hy).2.1 (c ▸ h1)⟩
    · have e:(inF l k O (insT l t k l.length)).getD x 0=O.getD x 0:=by
        rw [inF_other h2 c _ _ (by omega) (ins_nodup ..) (fun y hy=>⟨(ins_mem.1 hy).1.1,fun c=>(ins_mem.1 hy).2.1 (c ▸ h1)⟩),if_neg (fun h=>(ins_mem.1 h).2.1 hxt)]
      rw [e]
      by_cases c2:(x:Int) ∈ ks
      · rw [if_pos c2,if_pos (List.mem_cons_of_mem _ c2)]
      · rw [if_neg c2,if_neg (fun h=>(List.mem_cons.1 h).elim (fun e=>c e.symm) c2)]
theorem fold_congr {α β:Type} {f g:β → α → β}:∀ {s:List α},(∀ x ∈ s,∀ b,f b x=g b x) → ∀ b,s.foldl f b=s.foldl g b
  | [],_,_=>rfl
  | x :: s,h,b=>by rw [List.foldl_cons,List.foldl_cons,h x (List.mem_cons_self ..)]; exact fold_congr (fun y hy=>h y (List.mem_cons_of_mem _ hy)) _
end Go.Proofs.Ytiejmoglooaalaa
end
section
open Go Go.HL
namespace Go.Proofs.Ytiejmoglooaalaa
set_option maxRecDepth 100000
open Go.Proofs.Try renaming prog → Tp
open Go.HL.HV renaming undef → Ud
section
variable {F:FuncId → Option (List HV → Option HV)}
noncomputable def B26:Code:=Try.f26.body.getD .skip
abbrev env26 (v0 v1 v4 v5 v6 v7 v8:HV):Env:=[(0,v0),(1,v1),(4,v4),(5,v5),(6,v6),(7,v7),(8,v8)]
theorem sl_a_0 (N:Nat) (n:Int) (ls:List HV) :RunsTo Tp (plF F) 26 (sub [0] B26) [(0,.i n),(1,.imm .arg 3 ls)] [] .normal ((plF F).keys 26) (env26 (.i n) (.imm .arg 3 ls) (.imm .lit 1 []) (.i 0) Ud Ud Ud) [] :=
  RunsTo.hin N 60 [] fun kf hk=>⟨_,by kernel_rfl,.nil⟩
theorem sl_b_0 (N:Nat) (n:Int) (ls:List HV)  {y6 y7 y8:HV} {H0:Heap} {a0:HV} {H1:Heap} {H2:Heap} (g0:∀ kf,N ≤ kf → callN Tp (plF F) (kf+1) 39 [.i n,.imm .arg 3 ls] []=some (.tuple [.agg [.i n,.imm .arg 3 ls],.bool true],H0)) (g1:some (newV (.agg [.i 0,.imm .lit 0 []]) H0)=some (a0,H1)) (g2:storeV Tp H1 66 (a0) (.agg [.i n,.imm .arg 3 ls])=some H2):RunsTo Tp (plF F) 26 (sub [1,0] B26) (env26 (.i n) (.imm .arg 3 ls) (.imm .lit 1 []) (.i 0) y6 y7 y8) [] .normal ((plF F).keys 26) (env26 (.i n) (.imm .arg 3 ls) (.imm .lit 1 []) (.i 0) a0 (.bool true) y8) H2 :=
  RunsTo.hin N 60 [⟨1,2,.tuple [.agg [.i n,.imm .arg 3 ls],.bool true],H0⟩,⟨1,6,a0,H1⟩,⟨1,7,.tuple [],H2⟩] fun kf hk=>⟨_,by kernel_rfl,(oC (g0 kf (by omega)) (oC (g1) (oS g2 .nil)))⟩
theorem sl_b_1 (N:Nat) (n:Int) (ls:List HV)  {y6 y7 y8:HV} {H0:Heap} {a0:HV} {H1:Heap} {H2:Heap} (g0:∀ kf,N ≤ kf → callN Tp (plF F) (kf+1) 39 [.i n,.imm .arg 3 ls] []=some (.tuple [.agg [.i n,.imm .arg 3 ls],.bool false],H0)) (g1:some (newV (.agg [.i 0,.imm .lit 0 []]) H0)=some (a0,H1)) (g2:storeV Tp H1 66 (a0) (.agg [.i n,.imm .arg 3 ls])=some H2):RunsTo Tp (plF F) 26 (sub [1,0] B26) (env26 (.i n) (.imm .arg 3 ls) (.imm .lit 1 []) (.i 0) y6 y7 y8) [] .normal ((plF F).keys 26) (env26 (.i n) (.imm .arg 3 ls) (.imm .lit 1 []) (.i 0) a0 (.bool false) y8) H2 :=
  RunsTo.hin N 60 [⟨1,2,.tuple [.agg [.i n,.imm .arg 3 ls],.bool false],H0⟩,⟨1,6,a0,H1⟩,⟨1,7,.tuple [],H2⟩] fun kf hk=>⟨_,by kernel_rfl,(oC (g0 kf (by omega)) (oC (g1) (oS g2 .nil)))⟩
theorem sl_ct_0 (N:Nat) (n:Int) (ls:List HV) (H:Heap) {y8:HV}:RunsTo Tp (plF F) 26 (sub [1,1,0] B26) (env26 (.i n) (.imm .arg 3 ls) (.imm .lit 1 []) (.i 0) (.ptr 0 0 0 1) (.bool true) y8) H .normal ((plF F).keys 26) (env26 (.i n) (.imm .arg 3 ls) (.imm .lit 1 []) (.i 0) (.ptr 0 0 0 1) (.bool true) y8) H :=
  RunsTo.hin N 60 [] fun kf hk=>⟨_,by kernel_rfl,.nil⟩
theorem sl_cf_0 (N:Nat) (n:Int) (ls:List HV) (H:Heap) {y8:HV}:RunsTo Tp (plF F) 26 (sub [1,1,0] B26) (env26 (.i n) (.imm .arg 3 ls) (.imm .lit 1 []) (.i 0) (.ptr 0 0 0 1) (.bool false) y8) H .ret ((plF F).keys 26) (env26 (.i n) (.imm .arg 3 ls) (.imm .lit 1 []) (.i 2) (.ptr 0 0 0 1) (.bool false) y8) H :=
  RunsTo.hin N 60 [] fun kf hk=>⟨_,by kernel_rfl,.nil⟩
theorem sl_d_0 (N:Nat) (n:Int) (ls:List HV) (H:Heap) (ob m mb:Nat) {y8:HV} {H0:Heap} (g0:loadV Tp H 66 (.ptr 0 0 0 1)=some (.agg [.i n,.imm .arg 3 ls])) (g1:∀ kf,callN Tp (plF F) (kf+1) 43 [.agg [.i n,.imm .arg 3 ls]] H=some (.tuple [.s ob m,.map mb,.bool true],H0)):RunsTo Tp (plF F) 26 (sub [1,1,1,0] B26) (env26 (.i n) (.imm .arg 3 ls) (.imm .lit 1 []) (.i 0) (.ptr 0 0 0 1) (.bool true) y8) H .normal ((plF F).keys 26) (env26 (.i n) (.imm .arg 3 ls) (.imm .lit 1 []) (.i 0) (.ptr 0 0 0 1) (.bool true) (.s ob m)) H0 :=
  RunsTo.hin N 60 [⟨4,0,.agg [.i n,.imm .arg 3 ls],H⟩,⟨4,1,.tuple [.s ob m,.map mb,.bool true],H0⟩] fun kf hk=>⟨_,by kernel_rfl,(oP H g0 (oC (g1 kf) .nil))⟩
theorem sl_d_1 (N:Nat) (n:Int) (ls:List HV) (H:Heap) (ob m mb:Nat) {y8:HV} {H0:Heap} (g0:loadV Tp H 66 (.ptr 0 0 0 1)=some (.agg [.i n,.imm .arg 3 ls])) (g1:∀ kf,callN Tp (plF F) (kf+1) 43 [.agg [.i n,.imm .arg 3 ls]] H=some (.tuple [.s ob m,.nilmap,.bool false],H0)):RunsTo Tp (plF F) 26 (sub [1,1,1,0] B26) (env26 (.i n) (.imm .arg 3 ls) (.imm .lit 1 []) (.i 0) (.ptr 0 0 0 1) (.bool true) y8) H .normal ((plF F).keys 26) (env26 (.i n) (.imm .arg 3 ls) (.imm .lit 1 []) (.i 0) (.ptr 0 0 0 1) (.bool false) (.s ob m)) H0 :=
  RunsTo.hin N 60 [⟨4,0,.agg [.i n,.imm .arg 3 ls],H⟩,⟨4,1,.tuple [.s ob m,.nilmap,.bool false],H0⟩] fun kf hk=>⟨_,by kernel_rfl,(oP H g0 (oC (g1 kf) .nil))⟩
theorem sl_et_0 (N:Nat) (n:Int) (ls:List HV) (H:Heap) (ob m:Nat):RunsTo Tp (plF F) 26 (sub [1,1,1,1] B26) (env26 (.i n) (.imm .arg 3 ls) (.imm .lit 1 []) (.i 0) (.ptr 0 0 0 1) (.bool true) (.s ob m)) H .ret ((plF F).keys 26) (env26 (.i n) (.imm .arg 3 ls) (.s ob m) (.i 0) (.ptr 0 0 0 1) (.bool true) (.s ob m)) H :=
  RunsTo.hin N 60 [] fun kf hk=>⟨_,by kernel_rfl,.nil⟩
theorem sl_ef_0 (N:Nat) (n:Int) (ls:List HV) (H:Heap) (ob m:Nat):RunsTo Tp (plF F) 26 (sub [1,1,1,1] B26) (env26 (.i n) (.imm .arg 3 ls) (.imm .lit 1 []) (.i 0) (.ptr 0 0 0 1) (.bool false) (.s ob m)) H .ret ((plF F).keys 26) (env26 (.i n) (.imm .arg 3 ls) (.imm .lit 1 []) (.i 6) (.ptr 0 0 0 1) (.bool false) (.s ob m)) H :=
  RunsTo.hin N 60 [] fun kf hk=>⟨_,by kernel_rfl,.nil⟩
end
end Go.Proofs.Ytiejmoglooaalaa
end
section
open Go Go.HL
namespace Go.Proofs.Ytiejmoglooaalaa
open Go.Proofs.Try renaming prog → Tp
open Go.HL.HV renaming undef → Ud
theorem nilmap_res (H:Heap):toRes H false (.tuple [.imm .lit 1 [],.nilmap,.bool false])=some (.tuple [.own 1 [],.nilmap,.bool false]):=by
  simp [toRes,ownedAll,cellsOf,owned,resVal,resCell,mapO]; rfl
def iniT (m j:Nat):List Int:=List.replicate j (-1) ++ List.replicate (m - j) 0
theorem ini_len {m j:Nat} (h:j ≤ m):(iniT m j).length=m:=by rw [iniT,List.length_append,List.length_replicate,List.length_replicate]; omega
theorem ini_set {m j:Nat} (h:j < m):(iniT m j).set j (-1)=iniT m (j+1):=by
  rw [iniT,List.set_append_right _ _ (by simp),List.length_replicate,Nat.sub_self,iniT,show m - j=(m - (j+1))+1 by omega,List.replicate_succ (n:=m - (j+1)),List.set_cons_zero,List.replicate_succ',List.append_assoc]; rfl
theorem res_slk {n:Int} {l:List St} {T O:List Int} (hO:O.length=l.length):toRes (hS n l T T O) false (.tuple [.sl 3 0 l.length (some l.length) l.length 1,.map 2,.bool true])=some (.tuple [.own 1 (O.map encI),.omap (T.map encI) (T.map fun _=>HV.bool true),.bool true]):=by
  have hr:=resCell_sl (H:=hS n l T T O) (no:=[3,2]) (b:=3) (k:=1) (m:=l.length) (cap:=some l.length) (els:=O.map encI) rfl (by simpa using hO) (mapO_self (fun r=>frz_int 4 r) _)
  have hks:mapO (frz (hS n l T T O) [3,2] 4) (T.map encI)=some (T.map encI):=mapO_self (fun r=>frz_int 4 r) _
  have hvs:∀ l2:List Int,mapO (frz (hS n l T T O) [3,2] 4) (l2.map fun _=>HV.bool true)=some (l2.map fun _=>HV.bool true):=by
    intro l2
    induction l2 with
    | nil=>rfl
    | cons y l2 ih=>simp only [List.map_cons,mapO,ih]; rfl
  have hm:resCell (hS n l T T O) [3,2] false (.map 2)=some (.omap (T.map encI) (T.map fun _=>HV.bool true)):=by
    have hg:(hS n l T T O)[2]?=some (.map (T.map encI) (T.map fun _=>HV.bool true) 0):=rfl
    simp only [resCell,hg,hks,hvs T]
  have ho:ownedAll (hS n l T T O) false (.tuple [.sl 3 0 l.length (some l.length) l.length 1,.map 2,.bool true])=[3,2]:=rfl
  simp only [toRes,ho,List.nodup_cons,List.mem_singleton,List.not_mem_nil,not_false_eq_true,List.nodup_nil,and_self,and_true,if_true,resVal,mapO,hr,hm]
  rfl
theorem slack_ok:PrimOk Tp 43 slack43:=by
  refine primOk_pure (pol:=plF prSk) (fn:=Try.f43) (cd:=B43) follows_mixed soundSk (by kernel_rfl) (by kernel_rfl) (fnok prSk _ _ (by kernel_rfl)) (by kernel_rfl) ?_
  intro args res h
  obtain ⟨⟨n,l⟩,rfl,hq⟩:=f1_inv h
  simp only at hq
  split at hq
  case isFalse=>cases hq
  rename_i hnet
  cases hq
  obtain ⟨⟨n1,n2⟩,n3,he,hw⟩:=netB_ends hnet
  have heB:=endN_B he (by omega)
  have a:=sk_a_0 (F:=prSk) 0 n (l.map encT)
  have c40:=at1 (pol':=plF prSk) (g:=40) (c1:=kN) (f:=fun p=>if netOk p.1 p.2 then some (.tuple [.own 1 ((treeT p.2).map encI),.bool (connB p.1 p.2)]) else none) (H:=[bN n l]) (by kernel_rfl) (ShN _ n l) (if_pos ⟨heB,by show l.length ≤ 900; omega,by show 0 ≤ n; omega,by show n ≤ 1000; omega⟩)
  rw [recv_tb] at c40
  simp only at c40
  by_cases cn:connB n l=true
  case neg =>
    rw [nb_false cn] at c40
    have b:=sk_b_1 (F:=prSk) 0 n (l.map encT) [bN n l] 1 (treeT l).length (y5:=Ud) (y6:=Ud) (y7:=Ud) (y8:=Ud) (y9:=Ud) (y10:=Ud) (y12:=Ud) (y14:=Ud) (y15:=Ud) (y29:=Ud) (y30:=Ud) (y38:=Ud) (y39:=Ud) (y40:=Ud) (y49:=Ud) (y50:=Ud) (y51:=Ud) (ld66 rfl) c40
    have c:=sk_cf_0 (F:=prSk) 0 n (l.map encT) [bN n l,bI (treeT l)] 1 (treeT l).length (y7:=Ud) (y8:=Ud) (y9:=Ud) (y10:=Ud) (y12:=Ud) (y14:=Ud) (y15:=Ud) (y29:=Ud) (y30:=Ud) (y38:=Ud) (y39:=Ud) (y40:=Ud) (y49:=Ud) (y50:=Ud) (y51:=Ud)
    refine ⟨_,_,_,.tuple [.imm .lit 1 [],.nilmap,.bool false],sq (a) (sq (b) (sqo (c) (c:=sub [1,1] B43) (b:=sub [1,1,1] B43)) (c:=sub [1] B43)) (c:=B43),by simp,by simp only [resultsV,res43]; rfl,?_⟩
    rw [if_neg cn]
    exact nilmap_res _
  rw [cn] at c40
  rw [if_pos cn]
  have b:=sk_b_0 (F:=prSk) 0 n (l.map encT) [bN n l] 1 (treeT l).length (y5:=Ud) (y6:=Ud) (y7:=Ud) (y8:=Ud) (y9:=Ud) (y10:=Ud) (y12:=Ud) (y14:=Ud) (y15:=Ud) (y29:=Ud) (y30:=Ud) (y38:=Ud) (y39:=Ud) (y40:=Ud) (y49:=Ud) (y50:=Ud) (y51:=Ud) (ld66 rfl) c40
  have c:=sk_ct_0 (F:=prSk) 0 n (l.map encT) [bN n l,bI (treeT l)] 1 (treeT l).length (y7:=Ud) (y8:=Ud) (y9:=Ud) (y10:=Ud) (y12:=Ud) (y14:=Ud) (y15:=Ud) (y29:=Ud) (y30:=Ud) (y38:=Ud) (y39:=Ud) (y40:=Ud) (y49:=Ud) (y50:=Ud) (y51:=Ud)
  have d:=sk_d_0 (F:=prSk) 0 n (l.map encT) [bN n l,bI (treeT l)] 1 (treeT l).length (y6:=.bool true) (y7:=Ud) (y8:=Ud) (y9:=Ud) (y10:=Ud) (y12:=Ud) (y14:=Ud) (y15:=Ud) (y29:=Ud) (y30:=Ud) (y38:=Ud) (y39:=Ud) (y40:=Ud) (y49:=Ud) (y50:=Ud) (y51:=Ud) rfl
  have mk:=makeV_ok (P:=Tp) (H:=[bN n l,bI (treeT l),bM []]) (t:=24) (e:=3) (k:=1) (bt:=8) (zv:=.int .i64 0) (n:=(l.length:Int)) u24 (by kernel_rfl) (by simp [cellsOf,cellV]) (by simp [cellsOf]) (by omega) (by omega) (by simp only [roomMax]; omega)
  rw [Int.toNat_natCast] at mk
  have erep:List.replicate l.length (HV.int .i64 0)=(iniT l.length 0).map encI:=by simp [iniT,encI]
  rw [erep] at mk
  have e:=sk_e_0 (F:=prSk) 0 n (l.map encT) [bN n l,bI (treeT l),bM []] 1 (treeT l).length 2 3 l.length (y6:=.bool true) (H2:=hS n l (treeT l) [] (iniT l.length 0)) (y8:=Ud) (y9:=Ud) (y10:=Ud) (y12:=Ud) (y14:=Ud) (y15:=Ud) (y29:=Ud) (y30:=Ud) (y38:=Ud) (y39:=Ud) (y40:=Ud) (y49:=Ud) (y50:=Ud) (y51:=Ud) (ld_net (xb:=0) rfl) (by rw [List.length_map]; exact mk) rfl (by kernel_rfl)
  have hsl:∀ T M O,loadV Tp (hS n l T M O) 24 (.ptr 4 0 0 1)=some (.sl 3 0 l.length (some l.length) l.length 1):=fun T M O=>load_elem (b:=4) (H:=hS n l T M O) rfl rfl rfl rfl a24 i24
  have f:=sk_f_0 (F:=prSk) 0 n (l.map encT) (hS n l (treeT l) [] (iniT l.length 0)) 1 (treeT l).length 2 4 3 l.length (y6:=.bool true) (y9:=Ud) (y10:=Ud) (y12:=Ud) (y14:=Ud) (y15:=Ud) (y29:=Ud) (y30:=Ud) (y38:=Ud) (y39:=Ud) (y40:=Ud) (y49:=Ud) (y50:=Ud) (y51:=Ud) (hsl _ _ _)
  have hTe:ouF l (treeT l) (List.replicate l.length (-1)) (treeT l)=slT l:=rfl
  have hout:=@sk_round n l hnet (treeT l)
  generalize hT:treeT l=T at *
  have r1:=count (pol':=plF prSk) (f:=43) (E:=fun i=>(env43 (encN n l) (.ptr 0 0 0 1) (.imm .lit 1 []) .nilmap (.bool false) (.sl 1 0 T.length none T.length 1) Ud (.map 2) (.ptr 4 0 0 1) Ud Ud Ud Ud Ud (.int .i64 (l.length:Int)) (.int .i64 ((i:Nat):Int)) Ud Ud Ud Ud Ud Ud)) (Hs:=fun i=>hS n l T [] (iniT l.length i)) l.length (E0:=fun i=>(env43 (encN n l) (.ptr 0 0 0 1) (.imm .lit 1 []) .nilmap (.bool false) (.sl 1 0 T.length none T.length 1) Ud (.map 2) (.ptr 4 0 0 1) (.int .i64 (i:Int)) Ud Ud Ud Ud (.int .i64 (l.length:Int)) (.int .i64 ((i+1:Nat):Int)) Ud Ud Ud Ud Ud Ud)) (H1:=fun i=>hS n l T [] (iniT l.length (i+1)))
    (fun i hi=>by
      have hil:=ini_len (m:=l.length) (j:=i) (by omega)
      have st:=store_out (H:=hS n l T [] (iniT l.length i)) (k:=3) (o:=iniT l.length i) rfl (y:=i) (by omega) (-1)
      rw [hil,ini_set hi] at st
      have s:=sk_g_0 (F:=prSk) 0 n (l.map encT) (hS n l T [] (iniT l.length i)) 1 T.length 2 4 3 l.length i (y6:=Ud) (y9:=Ud) (y10:=Ud) (y12:=Ud) (y14:=Ud) (y15:=Ud) (y38:=Ud) (y39:=Ud) (y40:=Ud) (y49:=Ud) (y50:=Ud) (y51:=Ud) (by omega) (hsl _ _ _) (idxS u24 z3 hi) st
      rw [wrap_succ (by omega)] at s
      exact s) (fun i _=>by kernel_rfl) (fun i _=>gc_eq _ rfl) (sk_g_1 (F:=prSk) 0 n (l.map encT) (hS n l T [] (iniT l.length l.length)) 1 T.length 2 4 3 l.length l.length (y6:=Ud) (y9:=Ud) (y10:=Ud) (y12:=Ud) (y14:=Ud) (y15:=Ud) (y38:=Ud) (y39:=Ud) (y40:=Ud) (y49:=Ud) (y50:=Ud) (y51:=Ud) (by omega)) (by simp) (c:=sub [1,1,1,1,1,0,1,0] B43) (by kernel_rfl) (fun i _=>by kernel_rfl)
  have eini:iniT l.length l.length=List.replicate l.length (-1):=by rw [iniT,Nat.sub_self,List.replicate_zero,List.append_nil]
  rw [eini] at r1
  have hh:=sk_h_0 (F:=prSk) 0 n (l.map encT) (hS n l T [] (List.replicate l.length (-1))) 1 T.length 2 4 (y29:=.int .i64 (l.length:Int)) (y30:=.int .i64 (l.length:Int)) (y6:=Ud) (y9:=Ud) (y10:=Ud) (y12:=Ud) (y14:=Ud) (y15:=Ud) (y38:=Ud) (y39:=Ud) (y40:=Ud) (y49:=Ud) (y50:=Ud) (y51:=Ud)
  have ii:=sk_i_0 (F:=prSk) 0 n (l.map encT) (hS n l T [] (List.replicate l.length (-1))) 1 T.length 2 4 (y29:=.int .i64 (l.length:Int)) (y30:=.int .i64 (l.length:Int)) (y6:=Ud) (y9:=Ud) (y12:=Ud) (y14:=Ud) (y15:=Ud) (y38:=Ud) (y39:=Ud) (y40:=Ud) (y49:=Ud) (y50:=Ud) (y51:=Ud)
  have hol:∀ i,(ouF l T (List.replicate l.length (-1)) (T.take i)).length=l.length:=fun i=>(ouF_len ..).trans (by simp)
  obtain ⟨x,E',H',r2,rfl,rfl,rfl⟩:=countI (pol':=plF prSk) (f:=43) (b:=sub [1,1,1,1,1,1,1,0,1,0,0] B43) (c:=sub [1,1,1,1,1,1,1,0,1,0] B43) (I:=fun i e H=>e=(env43 (encN n l) (.ptr 0 0 0 1) (.imm .lit 1 []) .nilmap (.bool false) (.sl 1 0 T.length none T.length 1) Ud (.map 2) (.ptr 4 0 0 1) Ud (.func 64 [] [.ptr 4 0 0 1]) Ud Ud Ud Ud Ud (.sl 1 0 T.length none T.length 1) (.int .i64 (T.length:Int)) (.int .i64 ((i:Nat):Int)) Ud Ud Ud)∧H=hS n l T (T.take i) (ouF l T (List.replicate l.length (-1)) (T.take i)))
    (Q:=fun x E' H'=>x=.exit 2∧E'=(env43 (encN n l) (.ptr 0 0 0 1) (.imm .lit 1 []) .nilmap (.bool false) (.sl 1 0 T.length none T.length 1) Ud (.map 2) (.ptr 4 0 0 1) Ud (.func 64 [] [.ptr 4 0 0 1]) Ud Ud Ud Ud Ud (.sl 1 0 T.length none T.length 1) (.int .i64 (T.length:Int)) (.int .i64 ((T.length:Nat):Int)) Ud Ud Ud)∧H'=hS n l T T (ouF l T (List.replicate l.length (-1)) T)) T.length
    (by
      rintro i hi e H ⟨rfl,rfl⟩
      obtain ⟨E0,H1,s,q1,q2⟩:=hout (O:=ouF l T (List.replicate l.length (-1)) (T.take i)) rfl (hol i) hi
      refine ⟨E0,H1,s,q1,?_⟩
      rw [q1]
      show gc 6 _ H1=_
      rw [q2,ouF_succ l T _ T hi])
    (by
      rintro e H ⟨rfl,rfl⟩
      rw [List.take_length]
      have s1:=sk_l_1 (F:=prSk) 0 n (l.map encT) (hS n l T T (ouF l T (List.replicate l.length (-1)) T)) 1 T.length 2 4 T.length (y6:=Ud) (y9:=Ud) (y12:=Ud) (y14:=Ud) (y15:=Ud) (y29:=Ud) (y30:=Ud) (y49:=Ud) (y50:=Ud) (y51:=Ud) (by omega)
      have s2:=sk_lf_0 (F:=prSk) 0 n (l.map encT) (hS n l T T (ouF l T (List.replicate l.length (-1)) T)) 1 T.length 2 4 T.length (y6:=Ud) (y9:=Ud) (y12:=Ud) (y14:=Ud) (y15:=Ud) (y29:=Ud) (y30:=Ud) (y49:=Ud) (y50:=Ud) (y51:=Ud)
      exact ⟨_,_,_,sq (s1) (sqo (s2) (c:=sub [1,1,1,1,1,1,1,0,1,0,0,1] B43) (b:=sub [1,1,1,1,1,1,1,0,1,0,0,1,1] B43)) (c:=sub [1,1,1,1,1,1,1,0,1,0,0] B43),by simp,rfl,rfl,rfl⟩)
    (by kernel_rfl) (by rintro i e H ⟨rfl,_⟩; kernel_rfl) (e:=(env43 (encN n l) (.ptr 0 0 0 1) (.imm .lit 1 []) .nilmap (.bool false) (.sl 1 0 T.length none T.length 1) Ud (.map 2) (.ptr 4 0 0 1) Ud (.func 64 [] [.ptr 4 0 0 1]) Ud Ud Ud Ud Ud (.sl 1 0 T.length none T.length 1) (.int .i64 (T.length:Int)) (.int .i64 ((0:Nat):Int)) Ud Ud Ud)) (H:=hS n l T [] (List.replicate l.length (-1))) ⟨rfl,rfl⟩
  have z:=sk_z_0 (F:=prSk) 0 n (l.map encT) (hS n l T T (ouF l T (List.replicate l.length (-1)) T)) 1 T.length 2 4 3 l.length (y38:=.sl 1 0 T.length none T.length 1) (y39:=.int .i64 (T.length:Int)) (y40:=.int .i64 (T.length:Int)) (y6:=Ud) (y9:=Ud) (y12:=Ud) (y14:=Ud) (y15:=Ud) (y29:=Ud) (y30:=Ud) (y49:=Ud) (y50:=Ud) (y51:=Ud) (hsl _ _ _)
  refine ⟨_,_,_,.tuple [.sl 3 0 l.length (some l.length) l.length 1,.map 2,.bool true],sq (a) (sq (b) (sq (c) (sq (d) (sq (e) (sq (sq (f) (bke (c:=sub [1,1,1,1,1,0,1] B43) (lpi (e0:=(env43 (encN n l) (.ptr 0 0 0 1) (.imm .lit 1 []) .nilmap (.bool false) (.sl 1 0 T.length none T.length 1) (.bool true) (.map 2) (.ptr 4 0 0 1) Ud Ud Ud Ud Ud (.int .i64 (l.length:Int)) (.int .i64 ((0:Nat):Int)) Ud Ud Ud Ud Ud Ud)) r1 (b:=sub [1,1,1,1,1,0,1,0,0] B43))) (c:=sub [1,1,1,1,1,0] B43)) (sq (hh) (sq (sq (ii) (bke (c:=sub [1,1,1,1,1,1,1,0,1] B43) (lpi (e0:=(env43 (encN n l) (.ptr 0 0 0 1) (.imm .lit 1 []) .nilmap (.bool false) (.sl 1 0 T.length none T.length 1) Ud (.map 2) (.ptr 4 0 0 1) Ud (.func 64 [] [.ptr 4 0 0 1]) Ud Ud Ud (.int .i64 (l.length:Int)) (.int .i64 (l.length:Int)) (.sl 1 0 T.length none T.length 1) (.int .i64 (T.length:Int)) (.int .i64 ((0:Nat):Int)) Ud Ud Ud)) r2 (b:=sub [1,1,1,1,1,1,1,0,1,0,0] B43))) (c:=sub [1,1,1,1,1,1,1,0] B43)) (z) (c:=sub [1,1,1,1,1,1,1] B43)) (c:=sub [1,1,1,1,1,1] B43)) (c:=sub [1,1,1,1,1] B43)) (c:=sub [1,1,1,1] B43)) (c:=sub [1,1,1] B43)) (c:=sub [1,1] B43)) (c:=sub [1] B43)) (c:=B43),by simp,by simp only [resultsV,res43]; rfl,?_⟩
  rw [← hTe]
  have:=hol T.length
  rw [List.take_length] at this
  exact res_slk this
end Go.Proofs.Ytiejmoglooaalaa
end
section
open Go Go.HL
namespace Go.Proofs.Ytiejmoglooaalaa
open Go.Proofs.Try renaming prog → Tp
open Go.HL.HV renaming undef → Ud
def slE (n:Int) (l:List St):Int:=if netB n l=true then (if connB n l=true then 0 else 6) else 2
def slG (n:Int) (l:List St):List Int:=if slE n l=0 then slT l else []
def slack26:List HV → Option HV:=f2 kI kS fun n l=>if l.length ≤ 500 then some (.tuple [.own 1 ((slG n l).map encI),.int .i64 (slE n l)]) else none
theorem res26:Try.f26.results.toList=[.tmp 4,.tmp 5]:=by kernel_rfl
def prSl:FuncId → Option (List HV → Option HV):=fun g=>if g == 52 then some within52 else if g == 43 then some slack43 else none
theorem soundSl (n:Nat):CallSound Tp (callN Tp (plF prSl) n):=sound_prim _ (fun g f h=>by
  unfold prSl at h
  split at h
  · rename_i hg; cases h; rw [eq_of_beq hg]; exact within_ok
  split at h
  · rename_i hg; cases h; rw [eq_of_beq hg]; exact slack_ok
  · cases h) n
theorem nwF_sl:NwF prSl:=⟨by kernel_rfl,by kernel_rfl,by kernel_rfl,by kernel_rfl,by kernel_rfl⟩
theorem nil_res1 (H:Heap) (e:Int):toRes H false (.tuple [.imm .lit 1 [],.int .i64 e])=some (.tuple [.own 1 [],.int .i64 e]):=by
  simp [toRes,ownedAll,cellsOf,owned,resVal,resCell,mapO]; rfl
theorem recv_slk (O T:List Int) (H:Heap):recv (.tuple [.own 1 (O.map encI),.omap (T.map encI) (T.map fun _=>HV.bool true),.bool true]) H=(.tuple [.sl H.length 0 O.length none O.length 1,.map (H.length+1),.bool true],H ++ [bI O] ++ [bM T]):=by
  have h:recvCell (.own 1 (O.map encI)) H=(.sl H.length 0 O.length none O.length 1,H ++ [bI O]):=by
    simp only [recvCell,encI_any,List.length_map]; rfl
  have h2:recvCell (.omap (T.map encI) (T.map fun _=>HV.bool true)) (H ++ [bI O])=(.map (H.length+1),H ++ [bI O] ++ [bM T]):=by
    simp only [recvCell,List.length_append,List.length_cons,List.length_nil]; rfl
  simp only [recv,recvVals,recvVal,h,h2]; rfl
theorem recv_sln (H:Heap):recv (.tuple [.own 1 [],.nilmap,.bool false]) H=(.tuple [.sl H.length 0 0 none 0 1,.nilmap,.bool false],H ++ [bI []]):=rfl
theorem slT_len (l:List St):(slT l).length=l.length:=(ouF_len ..).trans (by simp)
theorem slackE_ok:PrimOk Tp 26 slack26:=by
  refine primOk_pure (pol:=plF prSl) (fn:=Try.f26) (cd:=B26) follows_mixed soundSl (by kernel_rfl) (by kernel_rfl) (fnok prSl _ _ (by kernel_rfl)) (by kernel_rfl) ?_
  intro args res h
  obtain ⟨n,l,rfl,hq⟩:=f2_inv h
  split at hq
  case isFalse=>cases hq
  rename_i hl
  cases hq
  have a:=sl_a_0 (F:=prSl) 0 n (l.map encT)
  obtain ⟨N0,c39⟩:=CallsTo.from (nw_call nwF_sl (H:=[]) (Nat.le_refl _) n (l:=l) (by omega))
  cases hnet:netB n l with
  | false =>
    rw [hnet] at c39
    have b:=sl_b_1 (F:=prSl) N0 n (l.map encT) (y6:=Ud) (y7:=Ud) (y8:=Ud) c39 rfl stN
    have c:=sl_cf_0 (F:=prSl) 0 n (l.map encT) [bN n l] (y8:=Ud)
    refine ⟨_,_,_,.tuple [.imm .lit 1 [],.int .i64 2],sq (a) (sq (b) (sqo (c) (c:=sub [1,1] B26) (b:=sub [1,1,1] B26)) (c:=sub [1] B26)) (c:=B26),by simp,by simp only [resultsV,res26]; rfl,?_⟩
    have e:slE n l=2:=by rw [slE,if_neg (by rw [hnet]; simp)]
    rw [slG,e,if_neg (by decide)]; exact nil_res1 _ _
  | true =>
    rw [hnet] at c39
    have b:=sl_b_0 (F:=prSl) N0 n (l.map encT) (y6:=Ud) (y7:=Ud) (y8:=Ud) c39 rfl stN
    have c:=sl_ct_0 (F:=prSl) 0 n (l.map encT) [bN n l] (y8:=Ud)
    have c43:=at1 (pol':=plF prSl) (g:=43) (c1:=kN) (f:=fun p=>if netB p.1 p.2=true then some (if connB p.1 p.2=true then .tuple [.own 1 ((slT p.2).map encI),.omap ((treeT p.2).map encI) ((treeT p.2).map fun _=>HV.bool true),.bool true] else .tuple [.own 1 [],.nilmap,.bool false]) else none) (H:=[bN n l]) (by kernel_rfl) (ShN _ n l) (if_pos hnet)
    simp only at c43
    by_cases cn:connB n l=true
    · rw [if_pos cn,recv_slk] at c43
      have d:=sl_d_0 (F:=prSl) 0 n (l.map encT) [bN n l] 1 (slT l).length 2 (y8:=Ud) (ld66 rfl) c43
      have e:=sl_et_0 (F:=prSl) 0 n (l.map encT) ([bN n l] ++ [bI (slT l)] ++ [bM (treeT l)]) 1 (slT l).length
      refine ⟨_,_,_,.tuple [.sl 1 0 (slT l).length none (slT l).length 1,.int .i64 0],sq (a) (sq (b) (sq (c) (sq (d) (e) (c:=sub [1,1,1] B26)) (c:=sub [1,1] B26)) (c:=sub [1] B26)) (c:=B26),by simp,by simp only [resultsV,res26]; rfl,?_⟩
      have ee:slE n l=0:=by rw [slE,if_pos hnet,if_pos cn]
      rw [slG,ee,if_pos rfl]
      exact res_li1 (b:=1) rfl rfl _
    · rw [if_neg cn,recv_sln] at c43
      have d:=sl_d_1 (F:=prSl) 0 n (l.map encT) [bN n l] 1 0 0 (y8:=Ud) (ld66 rfl) c43
      have e:=sl_ef_0 (F:=prSl) 0 n (l.map encT) ([bN n l] ++ [bI []]) 1 0
      refine ⟨_,_,_,.tuple [.imm .lit 1 [],.int .i64 6],sq (a) (sq (b) (sq (c) (sq (d) (e) (c:=sub [1,1,1] B26)) (c:=sub [1,1] B26)) (c:=sub [1] B26)) (c:=B26),by simp,by simp only [resultsV,res26]; rfl,?_⟩
      have ee:slE n l=6:=by rw [slE,if_pos hnet,if_neg cn]
      rw [slG,ee,if_neg (by decide)]; exact nil_res1 _ _
end Go.Proofs.Ytiejmoglooaalaa
end
section
open Go Go.HL
namespace Go.Proofs.Ytiejmoglooaalaa
set_option linter.unusedSectionVars false
theorem fold_bst {α:Type} (p:α → Prop) [DecidablePred p] (d:α → Int):∀ (s:List α),(∀ x ∈ s,p x → 0 ≤ d x) →
    (s.foldl (fun b x=>if p x then bst b (d x) else b) (-1)=-1∧∀ x ∈ s,¬ p x) ∨ (0 ≤ s.foldl (fun b x=>if p x then bst b (d x) else b) (-1)∧(∃ x ∈ s,p x∧s.foldl (fun b x=>if p x then bst b (d x) else b) (-1)=d x)∧∀ x ∈ s,p x → s.foldl (fun b x=>if p x then bst b (d x) else b) (-1) ≤ d x):=by
  have key:∀ (m:Nat) (s:List α),s.length=m → (∀ x ∈ s,p x → 0 ≤ d x) →
      (s.foldl (fun b x=>if p x then bst b (d x) else b) (-1)=-1∧∀ x ∈ s,¬ p x) ∨ (0 ≤ s.foldl (fun b x=>if p x then bst b (d x) else b) (-1)∧(∃ x ∈ s,p x∧s.foldl (fun b x=>if p x then bst b (d x) else b) (-1)=d x)∧∀ x ∈ s,p x → s.foldl (fun b x=>if p x then bst b (d x) else b) (-1) ≤ d x):=by
    intro m
    induction m with
    | zero=>intro s h _; rw [List.length_eq_zero_iff.1 h]; exact .inl ⟨rfl,fun x hx=>by cases hx⟩
    | succ m ih =>
      intro s h hd
      rcases List.eq_nil_or_concat s with e | ⟨s',x,e⟩
      · rw [e] at h; simp at h
      · subst e
        rw [List.concat_eq_append] at h hd ⊢
        rw [List.length_append,List.length_singleton] at h
        have ih:=ih s' (by omega) fun y hy=>hd y (List.mem_append_left _ hy)
        rw [List.foldl_append,List.foldl_cons,List.foldl_nil]
        generalize s'.foldl (fun b x=>if p x then bst b (d x) else b) (-1)=b at *
        by_cases c:p x
        · have hx:=hd x (by simp) c
          rw [if_pos c]
          right
          unfold bst
          by_cases q:b < 0 ∨ d x < b
          · rw [if_pos q]
            refine ⟨hx,⟨x,by simp,c,rfl⟩,fun y hy hp=>?_⟩
            rcases List.mem_append.1 hy with r | r
            · rcases ih with ⟨_,i2⟩ | ⟨i1,_,i3⟩
              · exact absurd hp (i2 y r)
              · have:=i3 y r hp; omega
            · rw [List.mem_singleton.1 r]; exact Int.le_refl _
          · rw [if_neg q]
            rcases ih with ⟨i1,_⟩ | ⟨i1,⟨y,y1,y2,y3⟩,i3⟩
            · exact absurd (.inl (by omega)) q
            · refine ⟨i1,⟨y,List.mem_append_left _ y1,y2,y3⟩,fun z hz hp=>?_⟩
              rcases List.mem_append.1 hz with r | r
              · exact i3 z r hp
              · rw [List.mem_singleton.1 r]; omega
        · rw [if_neg c]
          rcases ih with ⟨i1,i2⟩ | ⟨i1,⟨y,y1,y2,y3⟩,i3⟩
          · refine .inl ⟨i1,fun z hz=>?_⟩
            rcases List.mem_append.1 hz with r | r
            · exact i2 z r
            · rw [List.mem_singleton.1 r]; exact c
          · refine .inr ⟨i1,⟨y,List.mem_append_left _ y1,y2,y3⟩,fun z hz hp=>?_⟩
            rcases List.mem_append.1 hz with r | r
            · exact i3 z r hp
            · rw [List.mem_singleton.1 r] at hp; exact absurd hp c
  exact fun s=>key s.length s rfl
section
variable {n:Int} {l:List St} (hnet:netB n l=true) (hc:connB n l=true)
include hnet hc
theorem slack_in {k:Nat} (hk:(k:Int) ∈ treeT l) :
    ((slT l).getD k 0=-1∧∀ j,0 ≤ j∧j < (l.length:Int) → j ∉ treeT l → ¬ joinsT l (treeT l) k j) ∨
    (0 ≤ (slT l).getD k 0∧(∃ j,(0 ≤ j∧j < (l.length:Int))∧j ∉ treeT l∧joinsT l (treeT l) k j∧(slT l).getD k 0=wOf l j - wOf l k)∧∀ j,0 ≤ j∧j < (l.length:Int) → j ∉ treeT l → joinsT l (treeT l) k j → (slT l).getD k 0 ≤ wOf l j - wOf l k):=by
  have hkr:=tree_in hk
  have hkl:k < l.length:=by omega
  have hTin:∀ x ∈ treeT l,x ∈ treeT l∧0 ≤ x:=fun x hx=>⟨hx,(tree_in hx).1⟩
  have hin0:(List.replicate l.length (-1:Int)).getD k 0=-1:=by rw [getD_at (by simpa using hkl)]; simp
  have e:(slT l).getD k 0=(insT l (treeT l) k l.length).foldl (fun b y=>bst b (wOf l y - wOf l k)) (-1):=by
    rw [slT,ou_in hkl hk _ _ (by simp) (tree_nodup' l) hTin,if_pos hk,hin0]
  have e2:(insT l (treeT l) k l.length).foldl (fun b y=>bst b (wOf l y - wOf l k)) (-1)=(insT l (treeT l) k l.length).foldl (fun b y=>if True then bst b (wOf l y - wOf l k) else b) (-1):=fold_congr (fun x _ b=>by rw [if_pos trivial]) _
  rw [e,e2]
  have h:=fold_bst (fun _:Int=>True) (fun y=>wOf l y - wOf l k) (insT l (treeT l) k l.length) fun y hy _=>by
    obtain ⟨h1,h2,h3⟩:=ins_mem.1 hy
    have:=exch_le hnet hk h1 h2 h3
    omega
  rcases h with ⟨h1,h2⟩ | ⟨h1,⟨j,j1,_,j3⟩,h3⟩
  · exact .inl ⟨h1,fun j hj hjT hJ=>h2 j (ins_mem.2 ⟨hj,hjT,hJ⟩) trivial⟩
  · obtain ⟨g1,g2,g3⟩:=ins_mem.1 j1
    exact .inr ⟨h1,⟨j,g1,g2,g3,j3⟩,fun z hz hzT hJ=>h3 z (ins_mem.2 ⟨hz,hzT,hJ⟩) trivial⟩
theorem slack_out {k:Nat} (hkl:k < l.length) (hk:(k:Int) ∉ treeT l) :
    0 ≤ (slT l).getD k 0∧(∃ x ∈ treeT l,joinsT l (treeT l) x k∧(slT l).getD k 0=wOf l k - wOf l x)∧∀ x ∈ treeT l,joinsT l (treeT l) x k → (slT l).getD k 0 ≤ wOf l k - wOf l x:=by
  have hTin:∀ x ∈ treeT l,x ∈ treeT l∧0 ≤ x:=fun x hx=>⟨hx,(tree_in hx).1⟩
  have hin0:(List.replicate l.length (-1:Int)).getD k 0=-1:=by rw [getD_at (by simpa using hkl)]; simp
  have e:(slT l).getD k 0=(treeT l).foldl (fun b x=>if joinsT l (treeT l) x k then bst b (wOf l k - wOf l x) else b) (-1):=by
    rw [slT,ou_out hkl hk _ _ (by simp) hTin,hin0]
  rw [e]
  have h:=fold_bst (fun x:Int=>joinsT l (treeT l) x k) (fun x=>wOf l k - wOf l x) (treeT l) fun x hx hJ=>by
    have:=exch_le hnet hx (j:=(k:Int)) (by omega) hk hJ
    omega
  rcases h with ⟨_,h2⟩ | h
  · exfalso
    obtain ⟨x,hx,hJ⟩:=exch_ex hnet hc (j:=(k:Int)) (by omega) hk
    exact h2 x hx hJ
  · exact h
end
def upW (l:List St) (k:Nat) (w:Int):List St:=l.set k ((l.getD k (0,0,0)).1,(l.getD k (0,0,0)).2.1,w)
theorem upW_len (l:List St) (k:Nat) (w:Int):(upW l k w).length=l.length:=by simp [upW]
theorem upW_get {l:List St} {k:Nat} (hk:k < l.length) (w:Int) (j:Int) (hj:0 ≤ j):(upW l k w).getD j.toNat (0,0,0)=if j=(k:Int) then ((l.getD k (0,0,0)).1,(l.getD k (0,0,0)).2.1,w) else l.getD j.toNat (0,0,0):=by
  by_cases c:j=(k:Int)
  · subst c
    rw [if_pos rfl,Int.toNat_natCast]
    simp [upW,List.getD,hk]
  · rw [if_neg c]
    have:k ≠ j.toNat:=by omega
    simp [upW,List.getD,this]
section
variable {l:List St} {k:Nat} (hk:k < l.length) (w:Int)
include hk
theorem upW_A {j:Int} (hj:0 ≤ j):sA (upW l k w) j=sA l j:=by
  rw [sA,upW_get hk w j hj]
  split
  · rename_i c; subst c; rw [sA,Int.toNat_natCast]
  · rfl
theorem upW_B {j:Int} (hj:0 ≤ j):sB (upW l k w) j=sB l j:=by
  rw [sB,upW_get hk w j hj]
  split
  · rename_i c; subst c; rw [sB,Int.toNat_natCast]
  · rfl
theorem upW_w {j:Int} (hj:0 ≤ j):wOf (upW l k w) j=if j=(k:Int) then w else wOf l j:=by
  rw [wOf,upW_get hk w j hj]
  split
  · rfl
  · rfl
theorem upW_cn {t:List Int} (ht:∀ x ∈ t,0 ≤ x) {u v:Int}:Cn l t u v ↔ Cn (upW l k w) t u v:=by
  constructor
  · intro h
    induction h with
    | refl v=>exact .refl v
    | edge hx=>have e:=Cn.edge (l:=upW l k w) hx; rwa [upW_A hk w (ht _ hx),upW_B hk w (ht _ hx)] at e
    | symm _ ih=>exact .symm ih
    | trans _ _ a b=>exact .trans a b
  · intro h
    induction h with
    | refl v=>exact .refl v
    | edge hx=>rw [upW_A hk w (ht _ hx),upW_B hk w (ht _ hx)]; exact .edge hx
    | symm _ ih=>exact .symm ih
    | trans _ _ a b=>exact .trans a b
theorem upW_net {n:Int} (hnet:netB n l=true) (hw:0 ≤ w∧w ≤ 1000):netB n (upW l k w)=true:=by
  have h:=hnet
  simp only [netB,Bool.and_eq_true,List.all_eq_true,decide_eq_true_eq,stB] at h ⊢
  refine ⟨fun s hs=>?_,h.2.1,by rw [upW_len]; exact h.2.2⟩
  rcases List.mem_or_eq_of_mem_set hs with c | c
  · exact h.1 s c
  · subst c
    have:=h.1 _ (mem_getD (0,0,0) hk)
    exact ⟨this.1,this.2.1,this.2.2.1,hw⟩
end
section
variable {n:Int} {l l':List St} (hnet:netB n l=true) (hnet':netB n l'=true) (hll:l'.length=l.length) (hcn:∀ t:List Int,(∀ x ∈ t,0 ≤ x) → ∀ u v,Cn l t u v ↔ Cn l' t u v)
include hnet hnet' hll hcn
theorem tr_same {t:List Int} (h:Tr n l t):Tr n l' t :=
  ⟨fun x hx=>by have:=h.rg x hx; omega,h.nd,h.ln,by rw [← h.fo]; exact (rank_two (endB_net hnet) (endB_net hnet') h.rg (fun x hx=>by have:=h.rg x hx; omega) (hcn t fun x hx=>(h.rg x hx).1)).symm⟩
theorem joins_same {t:List Int} (ht:∀ x ∈ t,0 ≤ x∧x < (l.length:Int)) {o j:Int} (hA:sA l' j=sA l j) (hB:sB l' j=sB l j) (hj:0 ≤ j∧j < (l.length:Int)):joinsT l' t o j ↔ joinsT l t o j:=by
  have he:=endB_net hnet
  obtain ⟨ea,eb⟩:=ends he hj
  have hwin:∀ x ∈ wo t o,0 ≤ x∧x < (l.length:Int):=fun x hx=>ht x (mem_wo.1 hx).1
  have h1:=fun v (hv:0 ≤ v∧v < 16)=>lb_two he (endB_net hnet') hwin (fun x hx=>by have:=hwin x hx; omega) (hcn _ fun x hx=>(hwin x hx).1) hv
  unfold joinsT
  rw [hA,hB]
  have a:=h1 _ ea
  have b:=h1 _ eb
  unfold lb at a b
  rw [a,b]
end
theorem wgt_upW {l:List St} {k:Nat} (hk:k < l.length) (w:Int):∀ {t:List Int},t.Nodup → (∀ x ∈ t,0 ≤ x) → wgt (upW l k w) t=wgt l t+if (k:Int) ∈ t then w - wOf l k else 0
  | [],_,_=>by rw [if_neg (by simp)]; rfl
  | x :: t,hn,h0=>by
    obtain ⟨n1,n2⟩:=List.nodup_cons.1 hn
    have ih:=wgt_upW hk w n2 fun y hy=>h0 y (List.mem_cons_of_mem _ hy)
    rw [wgt_cons,wgt_cons,ih,upW_w hk w (h0 x (List.mem_cons_self ..))]
    by_cases c:x=(k:Int)
    · subst c
      rw [if_pos rfl,if_neg n1,if_pos (List.mem_cons_self ..)]; omega
    · rw [if_neg c]
      by_cases d:(k:Int) ∈ t
      · rw [if_pos d,if_pos (List.mem_cons_of_mem _ d)]; omega
      · rw [if_neg d,if_neg (fun h=>(List.mem_cons.1 h).elim (fun e=>c e.symm) d)]; omega
section
variable {n:Int} {l:List St} (hnet:netB n l=true) (hc:connB n l=true) {k:Nat} (hk:k < l.length)
include hnet hc hk
theorem up_tree {w:Int} (hw:0 ≤ w∧w ≤ 1000) (hL:∀ x ∈ treeT l,∀ j,0 ≤ j∧j < (l.length:Int) → j ∉ treeT l → joinsT l (treeT l) x j → (if x=(k:Int) then w else wOf l x) ≤ if j=(k:Int) then w else wOf l j) :
    netB n (upW l k w)=true∧connB n (upW l k w)=true∧wgt (upW l k w) (frT (upW l k w))=wgt (upW l k w) (treeT l):=by
  have hn:=upW_net hk w hnet hw
  have hcn:∀ t:List Int,(∀ x ∈ t,0 ≤ x) → ∀ u v,Cn l t u v ↔ Cn (upW l k w) t u v:=fun t ht u v=>upW_cn hk w ht
  have hT:=tr_same hnet hn (upW_len ..) hcn (first_tr hnet hc)
  have hLo:Loc (upW l k w) (treeT l):=fun x hx j hj hjT hJ=>by
    rw [upW_len] at hj
    rw [upW_w hk w (tree_in hx).1,upW_w hk w hj.1]
    exact hL x hx j hj hjT ((joins_same hnet hn (upW_len ..) hcn (fun y hy=>tree_in hy) (upW_A hk w hj.1) (upW_B hk w hj.1) hj).1 hJ)
  have hc':=conn_of hn hT
  have h1:=loc_min hn hT hLo (fr_tr hn hc')
  have h2:=fr_min hn hT
  exact ⟨hn,hc',by omega⟩
theorem up_other {w:Int} (hw:0 ≤ w∧w ≤ 1000):netB n (upW l k w)=true∧connB n (upW l k w)=true∧(∀ t,Tr n l t ↔ Tr n (upW l k w) t):=by
  have hn:=upW_net hk w hnet hw
  have hcn:∀ t:List Int,(∀ x ∈ t,0 ≤ x) → ∀ u v,Cn l t u v ↔ Cn (upW l k w) t u v:=fun t ht u v=>upW_cn hk w ht
  refine ⟨hn,conn_of hn (tr_same hnet hn (upW_len ..) hcn (first_tr hnet hc)),fun t=>⟨tr_same hnet hn (upW_len ..) hcn,?_⟩⟩
  exact tr_same hn hnet (by rw [upW_len]) fun t ht u v=>(hcn t ht u v).symm
theorem room_in (hkT:(k:Int) ∈ treeT l) (hw1:∀ j,0 ≤ j∧j < (l.length:Int) → 1 ≤ wOf l j∧wOf l j ≤ 400) :
    ((slT l).getD k 0=-1∧(∀ d,0 ≤ d∧d ≤ 400 → netB n (upW l k (wOf l k+d))=true∧connB n (upW l k (wOf l k+d))=true∧wgt (upW l k (wOf l k+d)) (frT (upW l k (wOf l k+d)))=wgt l (frT l)+d)) ∨
    ((0 ≤ (slT l).getD k 0∧(slT l).getD k 0 ≤ 400)∧(netB n (upW l k (wOf l k+(slT l).getD k 0))=true∧connB n (upW l k (wOf l k+(slT l).getD k 0))=true∧wgt (upW l k (wOf l k+(slT l).getD k 0)) (frT (upW l k (wOf l k+(slT l).getD k 0)))=wgt l (frT l)+(slT l).getD k 0) ∧
      (netB n (upW l k (wOf l k+(slT l).getD k 0+5))=true∧connB n (upW l k (wOf l k+(slT l).getD k 0+5))=true∧wgt (upW l k (wOf l k+(slT l).getD k 0+5)) (frT (upW l k (wOf l k+(slT l).getD k 0+5)))=wgt l (frT l)+(slT l).getD k 0)):=by
  have hkr:0 ≤ (k:Int)∧(k:Int) < (l.length:Int):=by omega
  have hwk:=hw1 _ hkr
  have h0:∀ x ∈ treeT l,0 ≤ x:=fun x hx=>(tree_in hx).1
  have hnd:=tree_nodup' l
  have hfw:wgt l (frT l)=wgt l (treeT l):=fr_wgt
  have hne:∀ j,j ∉ treeT l → j ≠ (k:Int):=fun j hj c=>hj (c ▸ hkT)
  rcases slack_in hnet hc hkT with ⟨h1,h2⟩ | ⟨h1,⟨j0,j1,j2,j3,j4⟩,h3⟩
  · refine .inl ⟨h1,fun d hd=>?_⟩
    have:=up_tree hnet hc hk (w:=wOf l k+d) (by omega) fun x hx j hj hjT hJ=>by
      rw [if_neg (hne j hjT)]
      by_cases c:x=(k:Int)
      · subst c; exact absurd hJ (h2 j hj hjT)
      · rw [if_neg c]; exact first_loc hnet x hx j hj hjT hJ
    refine ⟨this.1,this.2.1,?_⟩
    rw [this.2.2,wgt_upW hk _ hnd h0,if_pos hkT,hfw]; omega
  · right
    have hs:(slT l).getD k 0 ≤ 400:=by have:=hw1 _ j1; omega
    generalize (slT l).getD k 0=s at *
    have a:=up_tree hnet hc hk (w:=wOf l k+s) (by omega) fun x hx j hj hjT hJ=>by
      rw [if_neg (hne j hjT)]
      by_cases c:x=(k:Int)
      · subst c
        have:=h3 j hj hjT hJ
        rw [if_pos rfl]; omega
      · rw [if_neg c]; exact first_loc hnet x hx j hj hjT hJ
    have ea:wgt (upW l k (wOf l k+s)) (frT (upW l k (wOf l k+s)))=wgt l (frT l)+s:=by
      rw [a.2.2,wgt_upW hk _ hnd h0,if_pos hkT,hfw]; omega
    refine ⟨⟨h1,hs⟩,⟨a.1,a.2.1,ea⟩,?_⟩
    obtain ⟨b1,b2,b3⟩:=up_other hnet hc hk (w:=wOf l k+s+5) (by omega)
    obtain ⟨_,_,a3⟩:=up_other hnet hc hk (w:=wOf l k+s) (by omega)
    refine ⟨b1,b2,?_⟩
    -- the exchanged tree
    have hX:=Tr.exch hnet (first_tr hnet hc) hkT j1 j2 j3
    have h5:=fr_min b1 ((b3 _).1 hX)
    have hkX:(k:Int) ∉ wo (treeT l) k ++ [j0]:=fun h=>by
      rcases List.mem_append.1 h with c | c
      · exact (mem_wo.1 c).2 rfl
      · exact hne _ j2 (List.mem_singleton.1 c).symm
    rw [wgt_upW hk _ hX.nd (fun x hx=>(hX.rg x hx).1),if_neg hkX,exch_wgt hnd hkT] at h5
    -- every tree weighs at least so much
    have hY:=(b3 _).2 (fr_tr b1 b2)
    have h6:=fr_min a.1 ((a3 _).1 hY)
    have e1:=wgt_upW hk (wOf l k+s) hY.nd (fun x hx=>(hY.rg x hx).1)
    have e2:=wgt_upW hk (wOf l k+s+5) hY.nd (fun x hx=>(hY.rg x hx).1)
    rw [ea] at h6
    split at e1 <;> split at e2 <;> first | omega | (rename_i c1 c2; exact absurd c1 c2) | (rename_i c1 c2; exact absurd c2 c1)
theorem room_out (hkT:(k:Int) ∉ treeT l) (hw1:∀ j,0 ≤ j∧j < (l.length:Int) → 1 ≤ wOf l j∧wOf l j ≤ 400) :
    (0 ≤ (slT l).getD k 0∧(slT l).getD k 0 < wOf l k)∧(netB n (upW l k (wOf l k - (slT l).getD k 0))=true∧connB n (upW l k (wOf l k - (slT l).getD k 0))=true∧wgt (upW l k (wOf l k - (slT l).getD k 0)) (frT (upW l k (wOf l k - (slT l).getD k 0)))=wgt l (frT l)) ∧
      (netB n (upW l k (wOf l k - (slT l).getD k 0 - 1))=true∧connB n (upW l k (wOf l k - (slT l).getD k 0 - 1))=true∧wgt (upW l k (wOf l k - (slT l).getD k 0 - 1)) (frT (upW l k (wOf l k - (slT l).getD k 0 - 1)))=wgt l (frT l) - 1):=by
  have hkr:0 ≤ (k:Int)∧(k:Int) < (l.length:Int):=by omega
  have hwk:=hw1 _ hkr
  have h0:∀ x ∈ treeT l,0 ≤ x:=fun x hx=>(tree_in hx).1
  have hnd:=tree_nodup' l
  have hfw:wgt l (frT l)=wgt l (treeT l):=fr_wgt
  have hne:∀ x ∈ treeT l,x ≠ (k:Int):=fun x hx c=>hkT (c ▸ hx)
  obtain ⟨h1,⟨x0,x1,x2,x3⟩,h3⟩:=slack_out hnet hc hk hkT
  have hs:(slT l).getD k 0 < wOf l k:=by have:=hw1 _ (tree_in x1); omega
  generalize (slT l).getD k 0=s at *
  have a:=up_tree hnet hc hk (w:=wOf l k - s) (by omega) fun x hx j hj hjT hJ=>by
    rw [if_neg (hne x hx)]
    by_cases c:j=(k:Int)
    · subst c
      have:=h3 x hx hJ
      rw [if_pos rfl]; omega
    · rw [if_neg c]; exact first_loc hnet x hx j hj hjT hJ
  have ea:wgt (upW l k (wOf l k - s)) (frT (upW l k (wOf l k - s)))=wgt l (frT l):=by
    rw [a.2.2,wgt_upW hk _ hnd h0,if_neg hkT,hfw]; omega
  refine ⟨⟨h1,hs⟩,⟨a.1,a.2.1,ea⟩,?_⟩
  obtain ⟨b1,b2,b3⟩:=up_other hnet hc hk (w:=wOf l k - s - 1) (by omega)
  obtain ⟨_,_,a3⟩:=up_other hnet hc hk (w:=wOf l k - s) (by omega)
  refine ⟨b1,b2,?_⟩
  have hX:=Tr.exch hnet (first_tr hnet hc) x1 hkr hkT x2
  have h5:=fr_min b1 ((b3 _).1 hX)
  rw [wgt_upW hk _ hX.nd (fun x hx=>(hX.rg x hx).1),if_pos (by simp),exch_wgt hnd x1] at h5
  have hY:=(b3 _).2 (fr_tr b1 b2)
  have h6:=fr_min a.1 ((a3 _).1 hY)
  have e1:=wgt_upW hk (wOf l k - s) hY.nd (fun x hx=>(hY.rg x hx).1)
  have e2:=wgt_upW hk (wOf l k - s - 1) hY.nd (fun x hx=>(hY.rg x hx).1)
  rw [ea] at h6
  split at e1 <;> split at e2 <;> first | omega | (rename_i c1 c2; exact absurd c1 c2) | (rename_i c1 c2; exact absurd c2 c1)
end
def rwS (s:St):St:=(s.1,s.2.1,1+modW s.2.2 400)
def rwP (l:List St) (i:Nat):List St:=(l.take i).map rwS ++ l.drop i
theorem rwP_len (l:List St) {i:Nat} (hi:i ≤ l.length):(rwP l i).length=l.length:=by rw [rwP,List.length_append,List.length_map,List.length_take,List.length_drop]; omega
theorem rwP_at {l:List St} {i:Nat} (hi:i < l.length):(rwP l i).getD i (0,0,0)=l.getD i (0,0,0):=by
  have h1:((l.take i).map rwS).length=i:=by rw [List.length_map,List.length_take]; omega
  rw [rwP,List.getD,List.getElem?_append_right (by omega),h1,Nat.sub_self,List.getElem?_drop]; rfl
theorem rwP_set {l:List St} {i:Nat} (hi:i < l.length):(rwP l i).set i (rwS (l.getD i (0,0,0)))=rwP l (i+1):=by
  have h1:((l.take i).map rwS).length=i:=by rw [List.length_map,List.length_take]; omega
  rw [rwP,List.set_append_right _ _ (by omega),h1,Nat.sub_self,List.drop_eq_getElem_cons hi,List.set_cons_zero,rwP,List.take_succ_eq_append_getElem hi,List.map_append,List.append_assoc,getD_at hi]; rfl
theorem rwP_all (l:List St):rwP l l.length=l.map rwS:=by rw [rwP,List.take_length,List.drop_length,List.append_nil]
theorem rw_net {n:Int} {l:List St} (hnet:netB n l=true):netB n (l.map rwS)=true:=by
  have h:=hnet
  simp only [netB,Bool.and_eq_true,List.all_eq_true,decide_eq_true_eq,stB] at h ⊢
  refine ⟨fun s hs=>?_,h.2.1,by rw [List.length_map]; exact h.2.2⟩
  obtain ⟨r,hr,rfl⟩:=List.mem_map.1 hs
  have g:=h.1 r hr
  have:=modW_rng r.2.2 (n:=400) (by omega) (by omega)
  exact ⟨g.1,g.2.1,g.2.2.1,by show 0 ≤ 1+modW r.2.2 400∧1+modW r.2.2 400 ≤ 1000; omega⟩
theorem rw_get {l:List St} {j:Int} (hj:0 ≤ j∧j < (l.length:Int)):(l.map rwS).getD j.toNat (0,0,0)=rwS (l.getD j.toNat (0,0,0)):=by
  have:j.toNat < l.length:=by omega
  simp [List.getD,this]
theorem rw_w {l:List St} {j:Int} (hj:0 ≤ j∧j < (l.length:Int)):1 ≤ wOf (l.map rwS) j∧wOf (l.map rwS) j ≤ 400:=by
  rw [wOf,rw_get hj]
  have:=modW_rng (l.getD j.toNat (0,0,0)).2.2 (n:=400) (by omega) (by omega)
  show 1 ≤ 1+modW _ 400∧1+modW _ 400 ≤ 400
  omega
theorem rw_conn {n:Int} {l:List St} (hnet:netB n l=true) (hc:connB n l=true):connB n (l.map rwS)=true:=by
  have hn:=rw_net hnet
  obtain ⟨⟨n1,n2⟩,_⟩:=netB_ends hnet
  refine conn_all hn fun v h0 h1=>?_
  have h:=conn_cn hnet hc (u:=0) (v:=v) (by omega) ⟨h0,h1⟩
  have h:Cn l (startT l.length) 0 v:=h.mono fun k hk=>startT_mem.2 (tree_in hk)
  rw [List.length_map]
  have key:∀ u v:Int,Cn l (startT l.length) u v → Cn (l.map rwS) (startT l.length) u v:=fun u v h=>by
    induction h with
    | refl v=>exact .refl v
    | edge hk =>
      have e:=Cn.edge (l:=l.map rwS) hk
      have hr:=startT_mem.1 hk
      rw [sA,sB,rw_get hr] at e
      exact e
    | symm _ ih=>exact .symm ih
    | trans _ _ a b=>exact .trans a b
  exact key _ _ h
end Go.Proofs.Ytiejmoglooaalaa
end
section
open Go Go.HL
namespace Go.Proofs.Ytiejmoglooaalaa
set_option maxRecDepth 100000
open Go.Proofs.Try renaming prog → Tp
open Go.HL.HV renaming undef → Ud
section
variable {F:FuncId → Option (List HV → Option HV)}
noncomputable def B14:Code:=Try.f14.body.getD .skip
abbrev env14 (v0 v1 v4 v5 v6 v7 v8 v9:HV):Env:=[(0,v0),(1,v1),(4,v4),(5,v5),(6,v6),(7,v7),(8,v8),(9,v9)]
theorem te_a_0 (N:Nat) (n:Int) (ls:List HV) :RunsTo Tp (plF F) 14 (sub [0] B14) [(0,.i n),(1,.imm .arg 3 ls)] [] .normal ((plF F).keys 14) (env14 (.i n) (.imm .arg 3 ls) (.imm .lit 1 []) (.i 0) (.i 0) Ud Ud Ud) [] :=
  RunsTo.hin N 60 [] fun kf hk=>⟨_,by kernel_rfl,.nil⟩
theorem te_b_0 (N:Nat) (n:Int) (ls:List HV)  {y7 y8 y9:HV} {H0:Heap} {a0:HV} {H1:Heap} {H2:Heap} (g0:∀ kf,N ≤ kf → callN Tp (plF F) (kf+1) 39 [.i n,.imm .arg 3 ls] []=some (.tuple [.agg [.i n,.imm .arg 3 ls],.bool true],H0)) (g1:some (newV (.agg [.i 0,.imm .lit 0 []]) H0)=some (a0,H1)) (g2:storeV Tp H1 66 (a0) (.agg [.i n,.imm .arg 3 ls])=some H2):RunsTo Tp (plF F) 14 (sub [1,0] B14) (env14 (.i n) (.imm .arg 3 ls) (.imm .lit 1 []) (.i 0) (.i 0) y7 y8 y9) [] .normal ((plF F).keys 14) (env14 (.i n) (.imm .arg 3 ls) (.imm .lit 1 []) (.i 0) (.i 0) a0 (.bool true) y9) H2 :=
  RunsTo.hin N 60 [⟨1,2,.tuple [.agg [.i n,.imm .arg 3 ls],.bool true],H0⟩,⟨1,6,a0,H1⟩,⟨1,7,.tuple [],H2⟩] fun kf hk=>⟨_,by kernel_rfl,(oC (g0 kf (by omega)) (oC (g1) (oS g2 .nil)))⟩
theorem te_b_1 (N:Nat) (n:Int) (ls:List HV)  {y7 y8 y9:HV} {H0:Heap} {a0:HV} {H1:Heap} {H2:Heap} (g0:∀ kf,N ≤ kf → callN Tp (plF F) (kf+1) 39 [.i n,.imm .arg 3 ls] []=some (.tuple [.agg [.i n,.imm .arg 3 ls],.bool false],H0)) (g1:some (newV (.agg [.i 0,.imm .lit 0 []]) H0)=some (a0,H1)) (g2:storeV Tp H1 66 (a0) (.agg [.i n,.imm .arg 3 ls])=some H2):RunsTo Tp (plF F) 14 (sub [1,0] B14) (env14 (.i n) (.imm .arg 3 ls) (.imm .lit 1 []) (.i 0) (.i 0) y7 y8 y9) [] .normal ((plF F).keys 14) (env14 (.i n) (.imm .arg 3 ls) (.imm .lit 1 []) (.i 0) (.i 0) a0 (.bool false) y9) H2 :=
  RunsTo.hin N 60 [⟨1,2,.tuple [.agg [.i n,.imm .arg 3 ls],.bool false],H0⟩,⟨1,6,a0,H1⟩,⟨1,7,.tuple [],H2⟩] fun kf hk=>⟨_,by kernel_rfl,(oC (g0 kf (by omega)) (oC (g1) (oS g2 .nil)))⟩
theorem te_ct_0 (N:Nat) (n:Int) (ls:List HV) (H:Heap) {y9:HV}:RunsTo Tp (plF F) 14 (sub [1,1,0] B14) (env14 (.i n) (.imm .arg 3 ls) (.imm .lit 1 []) (.i 0) (.i 0) (.ptr 0 0 0 1) (.bool true) y9) H .normal ((plF F).keys 14) (env14 (.i n) (.imm .arg 3 ls) (.imm .lit 1 []) (.i 0) (.i 0) (.ptr 0 0 0 1) (.bool true) y9) H :=
  RunsTo.hin N 60 [] fun kf hk=>⟨_,by kernel_rfl,.nil⟩
theorem te_cf_0 (N:Nat) (n:Int) (ls:List HV) (H:Heap) {y9:HV}:RunsTo Tp (plF F) 14 (sub [1,1,0] B14) (env14 (.i n) (.imm .arg 3 ls) (.imm .lit 1 []) (.i 0) (.i 0) (.ptr 0 0 0 1) (.bool false) y9) H .ret ((plF F).keys 14) (env14 (.i n) (.imm .arg 3 ls) (.imm .lit 1 []) (.i 0) (.i 2) (.ptr 0 0 0 1) (.bool false) y9) H :=
  RunsTo.hin N 60 [] fun kf hk=>⟨_,by kernel_rfl,.nil⟩
theorem te_d_0 (N:Nat) (n:Int) (ls:List HV) (H:Heap) (tb m:Nat) {y9:HV} {H0:Heap} (g0:loadV Tp H 66 (.ptr 0 0 0 1)=some (.agg [.i n,.imm .arg 3 ls])) (g1:∀ kf,callN Tp (plF F) (kf+1) 40 [.agg [.i n,.imm .arg 3 ls]] H=some (.tuple [.s tb m,.bool true],H0)):RunsTo Tp (plF F) 14 (sub [1,1,1,0] B14) (env14 (.i n) (.imm .arg 3 ls) (.imm .lit 1 []) (.i 0) (.i 0) (.ptr 0 0 0 1) (.bool true) y9) H .normal ((plF F).keys 14) (env14 (.i n) (.imm .arg 3 ls) (.imm .lit 1 []) (.i 0) (.i 0) (.ptr 0 0 0 1) (.bool true) (.s tb m)) H0 :=
  RunsTo.hin N 60 [⟨4,0,.agg [.i n,.imm .arg 3 ls],H⟩,⟨4,1,.tuple [.s tb m,.bool true],H0⟩] fun kf hk=>⟨_,by kernel_rfl,(oP H g0 (oC (g1 kf) .nil))⟩
theorem te_d_1 (N:Nat) (n:Int) (ls:List HV) (H:Heap) (tb m:Nat) {y9:HV} {H0:Heap} (g0:loadV Tp H 66 (.ptr 0 0 0 1)=some (.agg [.i n,.imm .arg 3 ls])) (g1:∀ kf,callN Tp (plF F) (kf+1) 40 [.agg [.i n,.imm .arg 3 ls]] H=some (.tuple [.s tb m,.bool false],H0)):RunsTo Tp (plF F) 14 (sub [1,1,1,0] B14) (env14 (.i n) (.imm .arg 3 ls) (.imm .lit 1 []) (.i 0) (.i 0) (.ptr 0 0 0 1) (.bool true) y9) H .normal ((plF F).keys 14) (env14 (.i n) (.imm .arg 3 ls) (.imm .lit 1 []) (.i 0) (.i 0) (.ptr 0 0 0 1) (.bool false) (.s tb m)) H0 :=
  RunsTo.hin N 60 [⟨4,0,.agg [.i n,.imm .arg 3 ls],H⟩,⟨4,1,.tuple [.s tb m,.bool false],H0⟩] fun kf hk=>⟨_,by kernel_rfl,(oP H g0 (oC (g1 kf) .nil))⟩
theorem te_et_0 (N:Nat) (n:Int) (ls:List HV) (H:Heap) (tb m:Nat):RunsTo Tp (plF F) 14 (sub [1,1,1,1,0] B14) (env14 (.i n) (.imm .arg 3 ls) (.imm .lit 1 []) (.i 0) (.i 0) (.ptr 0 0 0 1) (.bool true) (.s tb m)) H .normal ((plF F).keys 14) (env14 (.i n) (.imm .arg 3 ls) (.imm .lit 1 []) (.i 0) (.i 0) (.ptr 0 0 0 1) (.bool true) (.s tb m)) H :=
  RunsTo.hin N 60 [] fun kf hk=>⟨_,by kernel_rfl,.nil⟩
theorem te_ef_0 (N:Nat) (n:Int) (ls:List HV) (H:Heap) (tb m:Nat):RunsTo Tp (plF F) 14 (sub [1,1,1,1,0] B14) (env14 (.i n) (.imm .arg 3 ls) (.imm .lit 1 []) (.i 0) (.i 0) (.ptr 0 0 0 1) (.bool false) (.s tb m)) H .ret ((plF F).keys 14) (env14 (.i n) (.imm .arg 3 ls) (.imm .lit 1 []) (.i 0) (.i 6) (.ptr 0 0 0 1) (.bool false) (.s tb m)) H :=
  RunsTo.hin N 60 [] fun kf hk=>⟨_,by kernel_rfl,.nil⟩
theorem te_z_0 (N:Nat) (n:Int) (ls:List HV) (H:Heap) (tb m:Nat) (w:Int) {H0:Heap} {H1:Heap} (g0:∀ kf,N ≤ kf → callN Tp (plF F) (kf+1) 41 [.s tb m] H=some (.tuple [],H0)) (g1:loadV Tp H0 66 (.ptr 0 0 0 1)=some (.agg [.i n,.imm .arg 3 ls])) (g2:∀ kf,callN Tp (plF F) (kf+1) 42 [.agg [.i n,.imm .arg 3 ls],.s tb m] H0=some (.i w,H1)):RunsTo Tp (plF F) 14 (sub [1,1,1,1,1] B14) (env14 (.i n) (.imm .arg 3 ls) (.imm .lit 1 []) (.i 0) (.i 0) (.ptr 0 0 0 1) (.bool true) (.s tb m)) H .ret ((plF F).keys 14) (env14 (.i n) (.imm .arg 3 ls) (.s tb m) (.i w) (.i 0) (.ptr 0 0 0 1) (.bool true) (.s tb m)) H1 :=
  RunsTo.hin N 60 [⟨7,1,.tuple [],H0⟩,⟨8,1,.agg [.i n,.imm .arg 3 ls],H0⟩,⟨8,3,.i w,H1⟩] fun kf hk=>⟨_,by kernel_rfl,(oC (g0 kf (by omega)) (oP H0 g1 (oC (g2 kf) .nil)))⟩
end
end Go.Proofs.Ytiejmoglooaalaa
end
section
open Go Go.HL
namespace Go.Proofs.Ytiejmoglooaalaa
set_option maxRecDepth 100000
open Go.Proofs.Try renaming prog → Tp
open Go.HL.HV renaming undef → Ud
section
variable {F:FuncId → Option (List HV → Option HV)}
noncomputable def B81:Code:=Try.f81.body.getD .skip
abbrev env81 (v0 v1 v4:HV):Env:=[(0,v0),(1,v1),(4,v4)]
theorem le_a_0 (x y:Int) (H:Heap) {H0:Heap} (g0:∀ kf,callN Tp (plF F) (kf+1) 89 [.i x] H=some (.bool false,H0)) (g1:x < y):RunsTo Tp (plF F) 81 (sub [] B81) [(0,.i x),(1,.i y)] H .ret ((plF F).keys 81) (env81 (.i x) (.i y) (.bool true)) H0 :=
  RunsTo.hin 0 60 [⟨1,1,.bool false,H0⟩,⟨1,10,.bool true,H0⟩] fun kf hk=>⟨_,by kernel_rfl,(oC (g0 kf) (oB H0 (decide_eq_true g1) .nil))⟩
theorem le_a_1 (x y:Int) (H:Heap) {H0:Heap} (g0:∀ kf,callN Tp (plF F) (kf+1) 89 [.i x] H=some (.bool false,H0)) (g1:¬ (x < y)):RunsTo Tp (plF F) 81 (sub [] B81) [(0,.i x),(1,.i y)] H .ret ((plF F).keys 81) (env81 (.i x) (.i y) (.bool false)) H0 :=
  RunsTo.hin 0 60 [⟨1,1,.bool false,H0⟩,⟨1,10,.bool false,H0⟩] fun kf hk=>⟨_,by kernel_rfl,(oC (g0 kf) (oB H0 (decide_eq_false g1) .nil))⟩
noncomputable def B75:Code:=Try.f75.body.getD .skip
abbrev env75 (v0 v1 v2 v6 v7:HV):Env:=[(0,v0),(1,v1),(2,v2),(6,v6),(7,v7)]
theorem ii_a_0 (db n:Nat) (H:Heap):RunsTo Tp (plF F) 75 (sub [0] B75) [(0,.s db n),(1,.i 0),(2,.i (n:Int))] H .normal ((plF F).keys 75) (env75 (.s db n) (.i 0) (.i (n:Int)) (.i 1) Ud) H :=
  RunsTo.hin 0 60 [] fun kf hk=>⟨_,by kernel_rfl,.nil⟩
theorem ii_b_0 (db n:Nat) (H:Heap) (i:Nat) {y7:HV}(g0:(i:Int) < (n:Int)):RunsTo Tp (plF F) 75 (sub [1,0,0,0] B75) (env75 (.s db n) (.i 0) (.i (n:Int)) (.i (i:Int)) y7) H .normal ((plF F).keys 75) (env75 (.s db n) (.i 0) (.i (n:Int)) (.i (i:Int)) y7) H :=
  RunsTo.hin 0 60 [⟨1,2,.bool true,H⟩] fun kf hk=>⟨_,by kernel_rfl,(oB H (decide_eq_true g0) .nil)⟩
theorem ii_b_1 (db n:Nat) (H:Heap) (i:Nat) {y7:HV}(g0:¬ ((i:Int) < (n:Int))):RunsTo Tp (plF F) 75 (sub [1,0,0,0] B75) (env75 (.s db n) (.i 0) (.i (n:Int)) (.i (i:Int)) y7) H (.exit 0) ((plF F).keys 75) (env75 (.s db n) (.i 0) (.i (n:Int)) (.i (i:Int)) y7) H :=
  RunsTo.hin 0 60 [⟨1,2,.bool false,H⟩] fun kf hk=>⟨_,by kernel_rfl,(oB H (decide_eq_false g0) .nil)⟩
theorem ii_c_0 (db n:Nat) (H:Heap) (i:Nat) {y7:HV}:RunsTo Tp (plF F) 75 (sub [1,0,0,1,0,0,0] B75) (env75 (.s db n) (.i 0) (.i (n:Int)) (.i (i:Int)) y7) H .normal ((plF F).keys 75) (env75 (.s db n) (.i 0) (.i (n:Int)) (.i (i:Int)) (.i (i:Int))) H :=
  RunsTo.hin 0 60 [] fun kf hk=>⟨_,by kernel_rfl,.nil⟩
theorem ii_d_0 (db n:Nat) (H:Heap) (i j:Nat) (x y:Int) {H0:Heap} {H1:Heap} {H2:Heap} (g0:0 < (j:Int)) (g1:idxV Tp 24 (.s db n) (.i (j:Int))=some (.ptr db j 0 n)) (g2:loadV Tp H 3 (.ptr db j 0 n)=some (.i x)) (g3:idxV Tp 24 (.s db n) (.i (IntKind.i64.wrap ((j:Int) - 1)))=some (.ptr db ((IntKind.i64.wrap ((j:Int) - 1)).toNat) 0 n)) (g4:loadV Tp H 3 (.ptr db ((IntKind.i64.wrap ((j:Int) - 1)).toNat) 0 n)=some (.i y)) (g5:∀ kf,callN Tp (plF F) (kf+1) 81 [.i x,.i y] H=some (.bool true,H0)) (g6:idxV Tp 24 (.s db n) (.i (IntKind.i64.wrap ((j:Int) - 1)))=some (.ptr db ((IntKind.i64.wrap ((j:Int) - 1)).toNat) 0 n)) (g7:loadV Tp H0 3 (.ptr db ((IntKind.i64.wrap ((j:Int) - 1)).toNat) 0 n)=some (.i y)) (g8:idxV Tp 24 (.s db n) (.i (j:Int))=some (.ptr db j 0 n)) (g9:loadV Tp H0 3 (.ptr db j 0 n)=some (.i x)) (g10:idxV Tp 24 (.s db n) (.i (j:Int))=some (.ptr db j 0 n)) (g11:storeV Tp H0 3 (.ptr db j 0 n) (.i y)=some H1) (g12:idxV Tp 24 (.s db n) (.i (IntKind.i64.wrap ((j:Int) - 1)))=some (.ptr db ((IntKind.i64.wrap ((j:Int) - 1)).toNat) 0 n)) (g13:storeV Tp H1 3 (.ptr db ((IntKind.i64.wrap ((j:Int) - 1)).toNat) 0 n) (.i x)=some H2):RunsTo Tp (plF F) 75 (sub [1,0,0,1,0,0,1,0,0] B75) (env75 (.s db n) (.i 0) (.i (n:Int)) (.i (i:Int)) (.i (j:Int))) H .normal ((plF F).keys 75) (env75 (.s db n) (.i 0) (.i (n:Int)) (.i (i:Int)) (.i (IntKind.i64.wrap ((j:Int) - 1)))) H2 :=
  RunsTo.hin 0 60 [⟨4,2,.bool true,H⟩,⟨4,6,.ptr db j 0 n,H⟩,⟨4,7,.i x,H⟩,⟨4,11,.ptr db ((IntKind.i64.wrap ((j:Int) - 1)).toNat) 0 n,H⟩,⟨4,12,.i y,H⟩,⟨4,13,.bool true,H0⟩,⟨6,8,.ptr db ((IntKind.i64.wrap ((j:Int) - 1)).toNat) 0 n,H0⟩,⟨6,9,.i y,H0⟩,⟨6,12,.ptr db j 0 n,H0⟩,⟨6,13,.i x,H0⟩,⟨6,14,.ptr db j 0 n,H0⟩,⟨6,15,.tuple [],H1⟩,⟨6,16,.ptr db ((IntKind.i64.wrap ((j:Int) - 1)).toNat) 0 n,H1⟩,⟨6,17,.tuple [],H2⟩] fun kf hk=>⟨_,by kernel_rfl,(oB H (decide_eq_true g0) (oP H g1 (oP H g2 (oP H g3 (oP H g4 (oC (g5 kf) (oP H0 g6 (oP H0 g7 (oP H0 g8 (oP H0 g9 (oP H0 g10 (oS g11 (oP H1 g12 (oS g13 .nil))))))))))))))⟩
theorem ii_d_1 (db n:Nat) (H:Heap) (i j:Nat) (x y:Int) {H0:Heap} (g0:0 < (j:Int)) (g1:idxV Tp 24 (.s db n) (.i (j:Int))=some (.ptr db j 0 n)) (g2:loadV Tp H 3 (.ptr db j 0 n)=some (.i x)) (g3:idxV Tp 24 (.s db n) (.i (IntKind.i64.wrap ((j:Int) - 1)))=some (.ptr db ((IntKind.i64.wrap ((j:Int) - 1)).toNat) 0 n)) (g4:loadV Tp H 3 (.ptr db ((IntKind.i64.wrap ((j:Int) - 1)).toNat) 0 n)=some (.i y)) (g5:∀ kf,callN Tp (plF F) (kf+1) 81 [.i x,.i y] H=some (.bool false,H0)):RunsTo Tp (plF F) 75 (sub [1,0,0,1,0,0,1,0,0] B75) (env75 (.s db n) (.i 0) (.i (n:Int)) (.i (i:Int)) (.i (j:Int))) H (.exit 2) ((plF F).keys 75) (env75 (.s db n) (.i 0) (.i (n:Int)) (.i (i:Int)) (.i (j:Int))) H0 :=
  RunsTo.hin 0 60 [⟨4,2,.bool true,H⟩,⟨4,6,.ptr db j 0 n,H⟩,⟨4,7,.i x,H⟩,⟨4,11,.ptr db ((IntKind.i64.wrap ((j:Int) - 1)).toNat) 0 n,H⟩,⟨4,12,.i y,H⟩,⟨4,13,.bool false,H0⟩] fun kf hk=>⟨_,by kernel_rfl,(oB H (decide_eq_true g0) (oP H g1 (oP H g2 (oP H g3 (oP H g4 (oC (g5 kf) .nil))))))⟩
theorem ii_d_2 (db n:Nat) (H:Heap) (i j:Nat) (x y:Int)(g0:¬ (0 < (j:Int))):RunsTo Tp (plF F) 75 (sub [1,0,0,1,0,0,1,0,0] B75) (env75 (.s db n) (.i 0) (.i (n:Int)) (.i (i:Int)) (.i (j:Int))) H (.exit 2) ((plF F).keys 75) (env75 (.s db n) (.i 0) (.i (n:Int)) (.i (i:Int)) (.i (j:Int))) H :=
  RunsTo.hin 0 60 [⟨4,2,.bool false,H⟩] fun kf hk=>⟨_,by kernel_rfl,(oB H (decide_eq_false g0) .nil)⟩
theorem ii_e_0 (db n:Nat) (H:Heap) (i:Nat) {y7:HV}:RunsTo Tp (plF F) 75 (sub [1,0,0,1,1] B75) (env75 (.s db n) (.i 0) (.i (n:Int)) (.i (i:Int)) y7) H .normal ((plF F).keys 75) (env75 (.s db n) (.i 0) (.i (n:Int)) (.i (IntKind.i64.wrap ((i:Int)+1))) y7) H :=
  RunsTo.hin 0 60 [] fun kf hk=>⟨_,by kernel_rfl,.nil⟩
noncomputable def B62:Code:=Try.f62.body.getD .skip
abbrev env62 (v0 v1 v2 v3 v8 v9 v10 v11 v12 v13 v14 v15 v16 v17 v18:HV):Env:=[(0,v0),(1,v1),(2,v2),(3,v3),(8,v8),(9,v9),(10,v10),(11,v11),(12,v12),(13,v13),(14,v14),(15,v15),(16,v16),(17,v17),(18,v18)]
theorem ip_a_0 (N:Nat) (db n:Nat) (m:Int) (H:Heap):RunsTo Tp (plF F) 62 (sub [0] B62) [(0,.s db n),(1,.i 0),(2,.i (n:Int)),(3,.i m)] H .normal ((plF F).keys 62) (env62 (.s db n) (.i 0) (.i (n:Int)) (.i m) (.bool true) Ud Ud Ud Ud Ud Ud Ud Ud Ud Ud) H :=
  RunsTo.hin N 60 [] fun kf hk=>⟨_,by kernel_rfl,.nil⟩
theorem ip_b_0 (N:Nat) (db n:Nat) (m:Int) (H:Heap) {y9 y10 y11 y12 y13 y14 y15 y16 y17 y18:HV}:RunsTo Tp (plF F) 62 (sub [1,0] B62) (env62 (.s db n) (.i 0) (.i (n:Int)) (.i m) (.bool true) y9 y10 y11 y12 y13 y14 y15 y16 y17 y18) H .normal ((plF F).keys 62) (env62 (.s db n) (.i 0) (.i (n:Int)) (.i m) (.bool true) (.bool true) y10 y11 y12 y13 y14 y15 y16 y17 y18) H :=
  RunsTo.hin N 60 [] fun kf hk=>⟨_,by kernel_rfl,.nil⟩
theorem ip_c_0 (N:Nat) (db n:Nat) (m:Int) (H:Heap) {y10 y11 y12 y13 y14 y15 y16 y17 y18:HV}:RunsTo Tp (plF F) 62 (sub [1,1,0,0,0,0] B62) (env62 (.s db n) (.i 0) (.i (n:Int)) (.i m) (.bool true) (.bool true) y10 y11 y12 y13 y14 y15 y16 y17 y18) H .normal ((plF F).keys 62) (env62 (.s db n) (.i 0) (.i (n:Int)) (.i m) (.bool true) (.bool true) (.i (IntKind.i64.wrap ((n:Int) - 0))) y11 y12 y13 y14 y15 y16 y17 y18) H :=
  RunsTo.hin N 60 [] fun kf hk=>⟨_,by kernel_rfl,.nil⟩
theorem ip_d_0 (N:Nat) (db n:Nat) (m:Int) (H:Heap) {y11 y12 y13 y14 y15 y16 y17 y18:HV} {H0:Heap} (g0:(n:Int) ≤ 12) (g1:∀ kf,N ≤ kf → callN Tp (plF F) (kf+1) 75 [.s db n,.i 0,.i (n:Int)] H=some (.tuple [],H0)):RunsTo Tp (plF F) 62 (sub [1,1,0,0,0,1,0] B62) (env62 (.s db n) (.i 0) (.i (n:Int)) (.i m) (.bool true) (.bool true) (.i (n:Int)) y11 y12 y13 y14 y15 y16 y17 y18) H .ret ((plF F).keys 62) (env62 (.s db n) (.i 0) (.i (n:Int)) (.i m) (.bool true) (.bool true) (.i (n:Int)) y11 y12 y13 y14 y15 y16 y17 y18) H0 :=
  RunsTo.hin N 60 [⟨3,1,.bool true,H⟩,⟨4,3,.tuple [],H0⟩] fun kf hk=>⟨_,by kernel_rfl,(oB H (decide_eq_true g0) (oC (g1 kf (by omega)) .nil))⟩
noncomputable def B41:Code:=Try.f41.body.getD .skip
abbrev env41 (v0 v2:HV):Env:=[(0,v0),(2,v2)]
theorem io_a_0 (N:Nat) (db n:Nat) (m:Int) (H:Heap) {H0:Heap} {H1:Heap} (g0:∀ kf,callN Tp (plF F) (kf+1) 63 [.int .u64 (IntKind.u64.wrap (n:Int))] H=some (.i m,H0)) (g1:∀ kf,N ≤ kf → callN Tp (plF F) (kf+1) 62 [.s db n,.i 0,.i (n:Int),.i m] H0=some (.tuple [],H1)):RunsTo Tp (plF F) 41 (sub [] B41) [(0,.s db n)] H .normal ((plF F).keys 41) (env41 (.s db n) (.i (n:Int))) H1 :=
  RunsTo.hin N 60 [⟨1,4,.i m,H0⟩,⟨1,5,.tuple [],H1⟩] fun kf hk=>⟨_,by kernel_rfl,(oC (g0 kf) (oC (g1 kf (by omega)) .nil))⟩
end
end Go.Proofs.Ytiejmoglooaalaa
end
section
open Go Go.HL Go.HL.So
namespace Go.Proofs.Ytiejmoglooaalaa
set_option linter.unusedSectionVars false
open Go.Proofs.Try renaming prog → Tp
open Go.HL.HV renaming undef → Ud
def less81:List HV → Option HV | [.int .i64 x,.int .i64 y]=>some (.bool (decide (x < y))) | _=>none
theorem res81:Try.f81.results.toList=[.tmp 4]:=by kernel_rfl
def prIs:FuncId → Option (List HV → Option HV):=fun g=>if g == 89 then some nan89 else none
theorem soundIs (n:Nat):CallSound Tp (callN Tp (plF prIs) n):=sound_prim _ (fun g f h=>by
  unfold prIs at h
  split at h
  · rename_i hg; cases h; rw [eq_of_beq hg]; exact nan_ok
  · cases h) n
theorem less_ok:PrimOk Tp 81 less81:=by
  refine primOk_pure (pol:=plF prIs) (fn:=Try.f81) (cd:=B81) follows_mixed soundIs (by kernel_rfl) (by kernel_rfl) (fnok prIs _ _ (by kernel_rfl)) (by kernel_rfl) ?_
  intro args res h
  unfold less81 at h
  split at h
  · rename_i x y
    cases h
    have q:∀ kf,callN Tp (plF prIs) (kf+1) 89 [.int .i64 x] []=some (.bool false,[]):=fun kf=>by
      rw [prim_call (pol:=plF prIs) (g:=89) (F:=nan89) (by kernel_rfl) (rs:=[.int .i64 x]) rfl (res:=.bool false) rfl]; rfl
    by_cases c:x < y
    · rw [decide_eq_true c]
      exact ⟨_,_,_,.bool true,le_a_0 x y [] q c,by simp,by simp only [resultsV,res81]; rfl,rfl⟩
    · rw [decide_eq_false c]
      exact ⟨_,_,_,.bool false,le_a_1 x y [] q c,by simp,by simp only [resultsV,res81]; rfl,rfl⟩
  · cases h
theorem ltI_lin:Lin (fun a b:Int=>a < b):=⟨fun x y z (h1:¬ y < x) (h2:¬ z < y)=>show ¬ z < x by omega,fun x y (h:x < y)=>show ¬ y < x by omega⟩
abbrev ltI:Int → Int → Prop:=fun a b=>a < b
section
variable {F:FuncId → Option (List HV → Option HV)} {H:Heap} {db n:Nat} (hd:db < H.length)
include hd
theorem less_at (h81:F 81=some less81) (x y:Int) (H:Heap):∀ kf,callN Tp (plF F) (kf+1) 81 [.int .i64 x,.int .i64 y] H=some (.bool (decide (x < y)),H):=fun kf=>by
  rw [prim_call (pol:=plF F) (g:=81) (F:=less81) h81 (rs:=[.int .i64 x,.int .i64 y]) rfl (res:=.bool (decide (x < y))) rfl]; rfl
theorem ii_in (h81:F 81=some less81) {i:Nat} (hi:i < n) (hn:n ≤ 1000):∀ (j:Nat) (l:List Int),l.length=n → j ≤ i → Sink ltI 0 (i+1) j l →
    ∃ y l',RunsTo Tp (plF F) 75 (sub [1,0,0,1,0,0,1,0] B75) (env75 (.sl db 0 n none n 1) (.int .i64 0) (.int .i64 (n:Int)) (.int .i64 (i:Int)) (.int .i64 (j:Int))) (H.set db (bI l)) (.exit 2) ((plF F).keys 75) (env75 (.sl db 0 n none n 1) (.int .i64 0) (.int .i64 (n:Int)) (.int .i64 (i:Int)) y) (H.set db (bI l'))∧Sw 0 (i+1) l l'∧Sorted ltI 0 (i+1) l':=by
  intro j
  induction j with
  | zero =>
    intro l hl hj hS
    exact ⟨_,l,lpo (ii_d_2 (F:=F) db n (H.set db (bI l)) i 0 0 0 (by omega)),.refl,sink_end ltI_lin hS (.inl (Nat.zero_le _))⟩
  | succ j ih =>
    intro l hl hj hS
    have hb:(H.set db (bI l))[db]?=some (bI l):=List.getElem?_set_self hd
    have e1:IntKind.i64.wrap (((j+1:Nat):Int) - 1)=(j:Int):=by simp only [wrapI64]; omega
    have e2:(IntKind.i64.wrap (((j+1:Nat):Int) - 1)).toNat=j:=by rw [e1]; omega
    have i1:=idxS (b:=db) (cap:=none) u24 z3 (show j+1 < n by omega)
    have i2:=idxS (b:=db) (cap:=none) u24 z3 (show j < n by omega)
    have l1:=load_out hb (y:=j+1) (by omega)
    have l2:=load_out hb (y:=j) (by omega)
    rw [hl] at l1 l2
    rw [← e1] at i2
    by_cases c:l.getD (j+1) 0 < l.getD j 0
    · have s1:=store_out hb (y:=j+1) (by omega) (l.getD j 0)
      rw [hl,List.set_set] at s1
      have hb2:(H.set db (bI (l.set (j+1) (l.getD j 0))))[db]?=some (bI (l.set (j+1) (l.getD j 0))):=List.getElem?_set_self hd
      have s2:=store_out hb2 (y:=j) (by simp; omega) (l.getD (j+1) 0)
      rw [List.length_set,hl,List.set_set] at s2
      have lt:=less_at hd h81 (l.getD (j+1) 0) (l.getD j 0) (H.set db (bI l))
      rw [decide_eq_true c] at lt
      have st:=ii_d_0 (F:=F) db n (H.set db (bI l)) i (j+1) (l.getD (j+1) 0) (l.getD j 0) (by omega) i1 l1 (by rw [e2]; exact i2) (by rw [e2]; exact l2) lt (by rw [e2]; exact i2) (by rw [e2]; exact l2) i1 l1 i1 s1 (by rw [e2]; exact i2) (by rw [e2]; exact s2)
      rw [e1] at st
      have sw:Sw 0 (i+1) l (swp l (j+1) j):=Sw.one (by omega) (by omega) (by omega) (by omega)
      obtain ⟨y,l',r,q1,q2⟩:=ih (swp l (j+1) j) (by rw [Go.HL.So.swp_len]; exact hl) (by omega) (sink_step ltI_lin (j:=j+1) (by omega) (by omega) (by omega) hS c)
      exact ⟨y,l',lop (st) (gc_eq _ (by simp)) (r),sw.trans q1,q2⟩
    · have lt:=less_at hd h81 (l.getD (j+1) 0) (l.getD j 0) (H.set db (bI l))
      rw [decide_eq_false c] at lt
      have st:=ii_d_1 (F:=F) db n (H.set db (bI l)) i (j+1) (l.getD (j+1) 0) (l.getD j 0) (by omega) i1 l1 (by rw [e2]; exact i2) (by rw [e2]; exact l2) lt
      exact ⟨_,l,lpo (st),.refl,sink_end ltI_lin hS (.inr c)⟩
theorem ii_out (h81:F 81=some less81) (hn:n ≤ 1000):∀ (d i:Nat) (l:List Int),i+d=n → l.length=n → Sorted ltI 0 i l →
    ∃ l',RunsTo Tp (plF F) 75 (sub [1,0] B75) (env75 (.sl db 0 n none n 1) (.int .i64 0) (.int .i64 (n:Int)) (.int .i64 (i:Int)) Ud) (H.set db (bI l)) (.exit 0) ((plF F).keys 75) (env75 (.sl db 0 n none n 1) (.int .i64 0) (.int .i64 (n:Int)) (.int .i64 (n:Int)) Ud) (H.set db (bI l'))∧Sw 0 n l l'∧Sorted ltI 0 n l':=by
  intro d
  induction d with
  | zero =>
    intro i l hi hl hS
    have:i=n:=by omega
    subst this
    exact ⟨l,lpo (sqo (ii_b_1 (F:=F) db i (H.set db (bI l)) i (by omega)) (c:=sub [1,0,0] B75) (b:=sub [1,0,0,1] B75)),.refl,hS⟩
  | succ d ih =>
    intro i l hi hl hS
    obtain ⟨y,l1,r1,q1,q2⟩:=ii_in hd h81 (i:=i) (by omega) hn i l hl (Nat.le_refl _) (sink_start hS)
    have r1':=lpi (e0:=(env75 (.sl db 0 n none n 1) (.int .i64 0) (.int .i64 (n:Int)) (.int .i64 (i:Int)) (.int .i64 (i:Int)))) r1 (b:=sub [1,0,0,1,0,0,1,0,0] B75)
    have st:=sq (ii_b_0 (F:=F) db n (H.set db (bI l)) i (y7:=Ud) (by omega)) (sq (RunsTo.block_normal (i:=1) (c:=sub [1,0,0,1,0] B75) (sq (ii_c_0 (F:=F) db n (H.set db (bI l)) i (y7:=Ud)) (bke (c:=sub [1,0,0,1,0,0,1] B75) (r1')) (c:=sub [1,0,0,1,0,0] B75)) (by kernel_rfl)) (ii_e_0 (F:=F) db n (H.set db (bI l1)) i) (c:=sub [1,0,0,1] B75)) (c:=sub [1,0,0] B75)
    rw [wrap_succ (by omega)] at st
    obtain ⟨l',r,q3,q4⟩:=ih (i+1) l1 (by omega) (q1.len.trans hl) q2
    exact ⟨l',lop (st) (gc_eq _ (by simp)) (r),(q1.mono (Nat.le_refl _) (by omega)).trans q3,q4⟩
theorem ins_call (h81:F 81=some less81) (h75:F 75=none) (hn:n ≤ 1000) {l:List Int} (hl:l.length=n) :
    ∃ l',ClF F 75 [.sl db 0 n none n 1,.int .i64 0,.int .i64 (n:Int)] (H.set db (bI l)) (.tuple []) (H.set db (bI l'))∧l'.Perm l∧Sorted ltI 0 n l':=by
  have key:∃ z l',RunsTo Tp (plF F) 75 (sub [1,0] B75) (env75 (.sl db 0 n none n 1) (.int .i64 0) (.int .i64 (n:Int)) (.int .i64 (1:Int)) Ud) (H.set db (bI l)) (.exit 0) ((plF F).keys 75) (env75 (.sl db 0 n none n 1) (.int .i64 0) (.int .i64 (n:Int)) z Ud) (H.set db (bI l'))∧Sw 0 n l l'∧Sorted ltI 0 n l':=by
    by_cases c:1 ≤ n
    · obtain ⟨l',r,q⟩:=ii_out hd h81 hn (n - 1) 1 l (by omega) hl (fun p q h1 h2 h3=>by omega)
      exact ⟨_,l',r,q⟩
    · exact ⟨_,l,lpo (sqo (ii_b_1 (F:=F) db n (H.set db (bI l)) 1 (by omega)) (c:=sub [1,0,0] B75) (b:=sub [1,0,0,1] B75)),.refl,fun p q h1 h2 h3=>by omega⟩
  obtain ⟨z,l',r,q1,q2⟩:=key
  have a:=ii_a_0 (F:=F) db n (H.set db (bI l))
  have hc:=CallsTo.shared (P:=Tp) (pol:=plF F) (g:=75) (fn:=Try.f75) (cd:=B75) (args:=[.sl db 0 n none n 1,.int .i64 0,.int .i64 (n:Int)]) (v:=.tuple []) h75 (by kernel_rfl) (by kernel_rfl) (by kernel_rfl) (sq (a) (bke (c:=sub [1] B75) (r)) (c:=B75)) (by kernel_rfl) (by simp) (by kernel_rfl)
  rw [gc_eq _ (by simp)] at hc
  exact ⟨l',hc,q1.perm (by omega),q2⟩
theorem pdq_call (h81:F 81=some less81) (h75:F 75=none) (h62:F 62=none) (hn:n ≤ 12) {l:List Int} (hl:l.length=n) (m:Int) :
    ∃ l',ClF F 62 [.sl db 0 n none n 1,.int .i64 0,.int .i64 (n:Int),.int .i64 m] (H.set db (bI l)) (.tuple []) (H.set db (bI l'))∧l'.Perm l∧Sorted ltI 0 n l':=by
  obtain ⟨l',hc,q⟩:=ins_call hd h81 h75 (by omega) hl
  obtain ⟨N,hN⟩:=CallsTo.from hc
  have a:=ip_a_0 (F:=F) 0 db n m (H.set db (bI l))
  have b:=ip_b_0 (F:=F) 0 db n m (H.set db (bI l)) (y9:=Ud) (y10:=Ud) (y11:=Ud) (y12:=Ud) (y13:=Ud) (y14:=Ud) (y15:=Ud) (y16:=Ud) (y17:=Ud) (y18:=Ud)
  have c:=ip_c_0 (F:=F) 0 db n m (H.set db (bI l)) (y10:=Ud) (y11:=Ud) (y12:=Ud) (y13:=Ud) (y14:=Ud) (y15:=Ud) (y16:=Ud) (y17:=Ud) (y18:=Ud)
  have d:=ip_d_0 (F:=F) N db n m (H.set db (bI l)) (y11:=Ud) (y12:=Ud) (y13:=Ud) (y14:=Ud) (y15:=Ud) (y16:=Ud) (y17:=Ud) (y18:=Ud) (by omega) hN
  have hw:IntKind.i64.wrap ((n:Int) - 0)=(n:Int):=wrap_id (by omega) (by omega)
  first | rw [hw] at c | skip
  have lp:=lpo (RunsTo.block_ret (i:=1) (c:=sub [1,1,0,0] B62) (sq (c) (sqo (d) (c:=sub [1,1,0,0,0,1] B62) (b:=sub [1,1,0,0,0,1,1] B62)) (c:=sub [1,1,0,0,0] B62)) (by kernel_rfl)) (c:=sub [1,1,0] B62)
  have hc2:=CallsTo.shared (P:=Tp) (pol:=plF F) (g:=62) (fn:=Try.f62) (cd:=B62) (args:=[.sl db 0 n none n 1,.int .i64 0,.int .i64 (n:Int),.int .i64 m]) (v:=.tuple []) h62 (by kernel_rfl) (by kernel_rfl) (by kernel_rfl) (sq (a) (sq (b) (RunsTo.block_ret (i:=0) (c:=sub [1,1] B62) (lp) (by kernel_rfl)) (c:=sub [1] B62)) (c:=B62)) (by kernel_rfl) (by simp) (by kernel_rfl)
  rw [gc_eq _ (by simp)] at hc2
  exact ⟨l',hc2,q⟩
end
structure StF (F:FuncId → Option (List HV → Option HV)):Prop where
  h81:F 81=some less81
  h63:F 63=some len82
  h75:F 75=none
  h62:F 62=none
  h41:F 41=none
theorem set_selfI {H:Heap} {b:Nat} {B:Blk} (h:H[b]?=some B):H.set b B=H:=by
  apply List.ext_getElem?
  intro i
  by_cases e:b=i
  · subst e; rw [List.getElem?_set_self (lt_of_get h),h]
  · rw [List.getElem?_set_ne e]
theorem sort_call {F:FuncId → Option (List HV → Option HV)} (hF:StF F) {H:Heap} {db:Nat} {l:List Int} (hb:H[db]?=some (bI l)) (hn:l.length ≤ 12) :
    ∃ l',ClF F 41 [.sl db 0 l.length none l.length 1] H (.tuple []) (H.set db (bI l'))∧l'.Perm l∧∀ i j,i < j → j < l'.length → l'.getD i 0 ≤ l'.getD j 0:=by
  obtain ⟨h81,h63,h75,h62,h41⟩:=hF
  have hd:=lt_of_get hb
  obtain ⟨l',hc,q1,q2⟩:=pdq_call (F:=F) hd h81 h75 h62 hn (l:=l) rfl (lenN l.length:Int)
  rw [set_selfI hb] at hc
  obtain ⟨N,hN⟩:=CallsTo.from hc
  have hu:IntKind.u64.wrap (l.length:Int)=(l.length:Int):=by rw [wrapU64]; omega
  have t:=io_a_0 (F:=F) N db l.length (lenN l.length:Int) H (H0:=H) (fun kf=>by
    rw [hu,prim_call (pol:=plF F) (g:=63) (F:=len82) h63 (rs:=[.int .u64 (l.length:Int)]) rfl (res:=.int .i64 (lenN l.length:Int)) (by simp only [len82]; rw [if_pos (by omega),Int.toNat_natCast])]; rfl) hN
  have hc2:=CallsTo.shared (P:=Tp) (pol:=plF F) (g:=41) (fn:=Try.f41) (cd:=B41) (args:=[.sl db 0 l.length none l.length 1]) (v:=.tuple []) h41 (by kernel_rfl) (by kernel_rfl) (by kernel_rfl) t (by kernel_rfl) (by simp) (by kernel_rfl)
  rw [gc_eq _ (by simp)] at hc2
  refine ⟨l',hc2,q1,fun i j hij hj=>?_⟩
  have:=q2 i j (Nat.zero_le _) hij (by rw [← q1.length_eq]; exact hj)
  exact Int.not_lt.1 this
theorem asc_ext:∀ {a b:List Int},a.Pairwise (· < ·) → b.Pairwise (· < ·) → (∀ x,x ∈ a ↔ x ∈ b) → a=b
  | [],b,_,_,h=>by
    have:b=[]:=List.eq_nil_iff_forall_not_mem.2 fun x hx=>by cases (h x).2 hx
    rw [this]
  | x :: a,[],_,_,h=>by cases (h x).1 (List.mem_cons_self ..)
  | x :: a,y :: b,ha,hb,h=>by
    obtain ⟨a1,a2⟩:=List.pairwise_cons.1 ha
    obtain ⟨b1,b2⟩:=List.pairwise_cons.1 hb
    have e:x=y:=by
      rcases List.mem_cons.1 ((h x).1 (List.mem_cons_self ..)) with c | c
      · exact c
      · rcases List.mem_cons.1 ((h y).2 (List.mem_cons_self ..)) with d | d
        · exact d.symm
        · have:=a1 _ d
          have:=b1 _ c
          omega
    subst e
    refine congrArg (x :: ·) (asc_ext a2 b2 fun z=>?_)
    constructor
    · intro hz
      rcases List.mem_cons.1 ((h z).1 (List.mem_cons_of_mem _ hz)) with c | c
      · have:=a1 _ hz; omega
      · exact c
    · intro hz
      rcases List.mem_cons.1 ((h z).2 (List.mem_cons_of_mem _ hz)) with c | c
      · have:=b1 _ hz; omega
      · exact c
theorem sort_asc {l l':List Int} (hn:l.Nodup) (hp:l'.Perm l) (hs:∀ i j,i < j → j < l'.length → l'.getD i 0 ≤ l'.getD j 0):l'.Pairwise (· < ·):=by
  have hn':l'.Nodup:=hp.nodup_iff.2 hn
  refine List.pairwise_iff_getElem.2 fun i j hi hj hij=>?_
  have h1:=hs i j hij hj
  rw [getD_at hi,getD_at hj] at h1
  have h2:=List.pairwise_iff_getElem.1 hn' i j hi hj hij
  omega
end Go.Proofs.Ytiejmoglooaalaa
end
section
open Go Go.HL
namespace Go.Proofs.Ytiejmoglooaalaa
open Go.Proofs.Try renaming prog → Tp
open Go.HL.HV renaming undef → Ud
def trG (n:Int) (l:List St):List Int:=if slE n l=0 then frT l else []
def trW (n:Int) (l:List St):Int:=if slE n l=0 then wgt l (frT l) else 0
def tree14:List HV → Option HV:=f2 kI kS fun n l=>if l.length ≤ 500∧n ≤ 13 then some (.tuple [.own 1 ((trG n l).map encI),.int .i64 (trW n l),.int .i64 (slE n l)]) else none
theorem res14:Try.f14.results.toList=[.tmp 4,.tmp 5,.tmp 6]:=by kernel_rfl
def prTe:FuncId → Option (List HV → Option HV):=fun g=>if g == 52 then some within52 else if g == 40 then some tree40 else if g == 42 then some weight42 else if g == 81 then some less81 else if g == 63 then some len82 else none
theorem soundTe (n:Nat):CallSound Tp (callN Tp (plF prTe) n):=sound_prim _ (fun g f h=>by
  unfold prTe at h
  split at h
  · rename_i hg; cases h; rw [eq_of_beq hg]; exact within_ok
  split at h
  · rename_i hg; cases h; rw [eq_of_beq hg]; exact tree_ok
  split at h
  · rename_i hg; cases h; rw [eq_of_beq hg]; exact weight_ok
  split at h
  · rename_i hg; cases h; rw [eq_of_beq hg]; exact less_ok
  split at h
  · rename_i hg; cases h; rw [eq_of_beq hg]; exact len68_ok
  · cases h) n
theorem nwF_te:NwF prTe:=⟨by kernel_rfl,by kernel_rfl,by kernel_rfl,by kernel_rfl,by kernel_rfl⟩
theorem stF_te:StF prTe:=⟨by kernel_rfl,by kernel_rfl,by kernel_rfl,by kernel_rfl,by kernel_rfl⟩
theorem nil_res3 (H:Heap) (w e:Int):toRes H false (.tuple [.imm .lit 1 [],.int .i64 w,.int .i64 e])=some (.tuple [.own 1 [],.int .i64 w,.int .i64 e]):=by
  simp [toRes,ownedAll,cellsOf,owned,resVal,resCell,mapO]; rfl
theorem treeE_ok:PrimOk Tp 14 tree14:=by
  refine primOk_pure (pol:=plF prTe) (fn:=Try.f14) (cd:=B14) follows_mixed soundTe (by kernel_rfl) (by kernel_rfl) (fnok prTe _ _ (by kernel_rfl)) (by kernel_rfl) ?_
  intro args res h
  obtain ⟨n,l,rfl,hq⟩:=f2_inv h
  split at hq
  case isFalse=>cases hq
  rename_i hl
  obtain ⟨hl,hn⟩:=hl
  cases hq
  have a:=te_a_0 (F:=prTe) 0 n (l.map encT)
  obtain ⟨N0,c39⟩:=CallsTo.from (nw_call nwF_te (H:=[]) (Nat.le_refl _) n (l:=l) (by omega))
  cases hnet:netB n l with
  | false =>
    rw [hnet] at c39
    have b:=te_b_1 (F:=prTe) N0 n (l.map encT) (y7:=Ud) (y8:=Ud) (y9:=Ud) c39 rfl stN
    have c:=te_cf_0 (F:=prTe) 0 n (l.map encT) [bN n l] (y9:=Ud)
    refine ⟨_,_,_,.tuple [.imm .lit 1 [],.int .i64 0,.int .i64 2],sq (a) (sq (b) (sqo (c) (c:=sub [1,1] B14) (b:=sub [1,1,1] B14)) (c:=sub [1] B14)) (c:=B14),by simp,by simp only [resultsV,res14]; rfl,?_⟩
    have e:slE n l=2:=by rw [slE,if_neg (by rw [hnet]; simp)]
    rw [trG,trW,e,if_neg (by decide),if_neg (by decide)]; exact nil_res3 _ _ _
  | true =>
    rw [hnet] at c39
    obtain ⟨⟨n1,n2⟩,n3,he,hw⟩:=netB_ends hnet
    have heB:=endN_B he (by omega)
    have hwB:wB l=true:=wB_iff.2 fun s hs=>by have:=hw s hs; omega
    have b:=te_b_0 (F:=prTe) N0 n (l.map encT) (y7:=Ud) (y8:=Ud) (y9:=Ud) c39 rfl stN
    have c:=te_ct_0 (F:=prTe) 0 n (l.map encT) [bN n l] (y9:=Ud)
    have c40:=at1 (pol':=plF prTe) (g:=40) (c1:=kN) (f:=fun p=>if netOk p.1 p.2 then some (.tuple [.own 1 ((treeT p.2).map encI),.bool (connB p.1 p.2)]) else none) (H:=[bN n l]) (by kernel_rfl) (ShN _ n l) (if_pos ⟨heB,by show l.length ≤ 900; omega,by show 0 ≤ n; omega,by show n ≤ 1000; omega⟩)
    rw [recv_tb] at c40
    simp only at c40
    by_cases cn:connB n l=true
    · rw [cn] at c40
      have d:=te_d_0 (F:=prTe) 0 n (l.map encT) [bN n l] 1 (treeT l).length (y9:=Ud) (ld66 rfl) c40
      have e:=te_et_0 (F:=prTe) 0 n (l.map encT) ([bN n l] ++ [bI (treeT l)]) 1 (treeT l).length
      have hlen:=tree_len hnet cn
      obtain ⟨l',cs,hp,hs⟩:=sort_call stF_te (H:=[bN n l] ++ [bI (treeT l)]) (db:=1) (l:=treeT l) rfl (by omega)
      have e1:l'=frT l:=asc_ext (sort_asc (tree_nodup' l) hp hs) (frT_asc l) fun x=>by rw [hp.mem_iff]; exact frT_mem.symm
      subst e1
      obtain ⟨N1,c41⟩:=CallsTo.from cs
      have hfl:(frT l).length=(treeT l).length:=fr_len l
      have c42:=at2 (pol':=plF prTe) (g:=42) (c1:=kN) (c2:=kL) (f:=fun p t=>if inR p.2.length t=true∧wB p.2=true∧t.length ≤ 1000 then some (.int .i64 (wgt p.2 t)) else none) (H:=[bN n l,bI (frT l)]) (v2:=.sl 1 0 (treeT l).length none (treeT l).length 1) (by kernel_rfl) (ShN _ n l) (ShL_sl (l:=frT l) hfl rfl) (if_pos ⟨inR_iff.2 fun k hk=>tree_in (frT_mem.1 hk),hwB,by show (frT l).length ≤ 1000; omega⟩)
      have z:=te_z_0 (F:=prTe) N1 n (l.map encT) ([bN n l] ++ [bI (treeT l)]) 1 (treeT l).length (wgt l (frT l)) c41 (ld66 rfl) c42
      refine ⟨_,_,_,.tuple [.sl 1 0 (treeT l).length none (treeT l).length 1,.int .i64 (wgt l (frT l)),.int .i64 0],sq (a) (sq (b) (sq (c) (sq (d) (sq (e) (z) (c:=sub [1,1,1,1] B14)) (c:=sub [1,1,1] B14)) (c:=sub [1,1] B14)) (c:=sub [1] B14)) (c:=B14),by simp,by simp only [resultsV,res14]; rfl,?_⟩
      have ee:slE n l=0:=by rw [slE,if_pos hnet,if_pos cn]
      rw [trG,trW,ee,if_pos rfl,if_pos rfl]
      exact res_lii (b:=1) rfl hfl _ _
    · rw [nb_false cn] at c40
      have d:=te_d_1 (F:=prTe) 0 n (l.map encT) [bN n l] 1 (treeT l).length (y9:=Ud) (ld66 rfl) c40
      have e:=te_ef_0 (F:=prTe) 0 n (l.map encT) ([bN n l] ++ [bI (treeT l)]) 1 (treeT l).length
      refine ⟨_,_,_,.tuple [.imm .lit 1 [],.int .i64 0,.int .i64 6],sq (a) (sq (b) (sq (c) (sq (d) (sqo (e) (c:=sub [1,1,1,1] B14) (b:=sub [1,1,1,1,1] B14)) (c:=sub [1,1,1] B14)) (c:=sub [1,1] B14)) (c:=sub [1] B14)) (c:=B14),by simp,by simp only [resultsV,res14]; rfl,?_⟩
      have ee:slE n l=6:=by rw [slE,if_pos hnet,if_neg cn]
      rw [trG,trW,ee,if_neg (by decide),if_neg (by decide)]; exact nil_res3 _ _ _
end Go.Proofs.Ytiejmoglooaalaa
end
section
open Go Go.HL
namespace Go.Proofs.Ytiejmoglooaalaa
open Go.Proofs.Try renaming prog → Tp
open Go.HL.HV renaming undef → Ud
def prAw:FuncId → Option (List HV → Option HV):=fun g=>if g == 21 then some ints21 else if g == 52 then some within52 else if g == 54 then some ordered54 else if g == 40 then some tree40 else if g == 71 then some cmp71 else if g == 70 then some fst70 else none
theorem soundAw (n:Nat):CallSound Tp (callN Tp (plF prAw) n):=sound_prim _ (fun g f h=>by
  unfold prAw at h
  split at h
  · rename_i hg; cases h; rw [eq_of_beq hg]; exact ints_ok
  split at h
  · rename_i hg; cases h; rw [eq_of_beq hg]; exact within_ok
  split at h
  · rename_i hg; cases h; rw [eq_of_beq hg]; exact ordered_ok
  split at h
  · rename_i hg; cases h; rw [eq_of_beq hg]; exact tree_ok
  split at h
  · rename_i hg; cases h; rw [eq_of_beq hg]; exact cmp_ok
  split at h
  · rename_i hg; cases h; rw [eq_of_beq hg]; exact fst_ok
  · cases h) n
set_option maxRecDepth 100000 in
theorem awake_run:callN Tp (plF prAw) 400 18 [] []=some (.bool true,[]):=by kernel_rfl
end Go.Proofs.Ytiejmoglooaalaa
end
section
open Go Go.HL
namespace Go.Proofs.Ytiejmoglooaalaa
open Go.Proofs.Try renaming prog → Tp
open Go.HL.HV renaming undef → Ud
def awakeF:List HV → Option HV | []=>some (.bool true) | _=>none
theorem awake_prim:PrimOk Tp 18 awakeF:=by
  refine primOk_of (pol:=plF prAw) soundAw (by kernel_rfl) fun args res h=>?_
  match args,h with
  | [],h =>
    cases h
    exact ⟨400,_,_,false,awake_run,rfl⟩
theorem awake_at {pol':Pol} (hp:pol'.prim 18=some awakeF) (H:Heap):∀ k,callN Tp pol' (k+1) 18 [] H=some (.bool true,H):=fun k=>by
  rw [prim_call (pol:=pol') (g:=18) (F:=awakeF) hp (rs:=[]) rfl (res:=.bool true) rfl]; rfl
theorem recv_lii (l:List Int) (m e:Int) (H:Heap):recv (.tuple [.own 1 (l.map encI),.int .i64 m,.int .i64 e]) H=(.tuple [.sl H.length 0 l.length none l.length 1,.int .i64 m,.int .i64 e],H ++ [bI l]):=by
  have h:recvCell (.own 1 (l.map encI)) H=(.sl H.length 0 l.length none l.length 1,H ++ [bI l]):=by
    simp only [recvCell,encI_any,List.length_map]; rfl
  simp only [recv,recvVals,recvVal,h]; rfl
theorem recv_li1 (l:List Int) (m:Int) (H:Heap):recv (.tuple [.own 1 (l.map encI),.int .i64 m]) H=(.tuple [.sl H.length 0 l.length none l.length 1,.int .i64 m],H ++ [bI l]):=by
  have h:recvCell (.own 1 (l.map encI)) H=(.sl H.length 0 l.length none l.length 1,H ++ [bI l]):=by
    simp only [recvCell,encI_any,List.length_map]; rfl
  simp only [recv,recvVals,recvVal,h]; rfl
end Go.Proofs.Ytiejmoglooaalaa
end
section
open Go Go.HL
namespace Go.Proofs.Ytiejmoglooaalaa
set_option linter.unusedSectionVars false
open Go.Proofs.Try renaming prog → Tp
open Go.HL.HV renaming undef → Ud
def prL4:FuncId → Option (List HV → Option HV):=fun g=>if g == 18 then some awakeF else if g == 24 then some mod24 else if g == 25 then some tame25 else if g == 13 then some net13 else if g == 14 then some tree14 else if g == 26 then some slack26 else none
theorem soundL4 (n:Nat):CallSound Tp (callN Tp (plF prL4) n):=sound_prim _ (fun g f h=>by
  unfold prL4 at h
  split at h
  · rename_i hg; cases h; rw [eq_of_beq hg]; exact awake_prim
  split at h
  · rename_i hg; cases h; rw [eq_of_beq hg]; exact mod_ok
  split at h
  · rename_i hg; cases h; rw [eq_of_beq hg]; exact tame_ok
  split at h
  · rename_i hg; cases h; rw [eq_of_beq hg]; exact net_ok
  split at h
  · rename_i hg; cases h; rw [eq_of_beq hg]; exact treeE_ok
  split at h
  · rename_i hg; cases h; rw [eq_of_beq hg]; exact slackE_ok
  · cases h) n
theorem res4:Try.f4.results.toList=[.tmp 6]:=by kernel_rfl
abbrev polL4:Pol:=plF prL4
theorem idx_st {b n y:Nat} {cap:Option Nat} (h:y < n):idxV Tp 22 (.sl b 0 n cap n 3) (.int .i64 (y:Int))=some (.ptr b y 0 n):=by
  have:=idx_sl (P:=Tp) (t:=22) (e:=42) (k:=3) (b:=b) (len:=n) (tot:=n) (cap:=cap) (ik:=.i64) (n:=(y:Int)) u22 z42 (by omega) (by omega)
  rwa [Int.toNat_natCast] at this
theorem ld_w {H:Heap} {b:Nat} {o:List St} (h:H[b]?=some (bS o)) {y:Nat} (hy:y < o.length):loadV Tp H 3 (.ptr b y 2 o.length)=some (.int .i64 (o.getD y (0,0,0)).2.2) :=
  load_cell (P:=Tp) (els:=o.map encT) (cs:=[.int .i64 (o.getD y (0,0,0)).1,.int .i64 (o.getD y (0,0,0)).2.1,.int .i64 (o.getD y (0,0,0)).2.2]) h (by simp) (by rw [getD_at hy]; simp [hy,encT]) a3 i3 rfl
theorem st_w {H:Heap} {b:Nat} {o:List St} (h:H[b]?=some (bS o)) {y:Nat} (hy:y < o.length) (v:Int):storeV Tp H 3 (.ptr b y 2 o.length) (.int .i64 v)=some (H.set b (bS (o.set y ((o.getD y (0,0,0)).1,(o.getD y (0,0,0)).2.1,v)))):=by
  have:=store_cell (P:=Tp) (t:=3) (b:=b) (i:=y) (off:=2) (tot:=o.length) (v:=.int .i64 v) (els:=o.map encT) (cs:=[.int .i64 (o.getD y (0,0,0)).1,.int .i64 (o.getD y (0,0,0)).2.1,.int .i64 (o.getD y (0,0,0)).2.2]) h (by simp) (by rw [getD_at hy]; simp [hy,encT]) z3 rfl rfl (by simp [bnd]) (by simp)
  rw [this,bS,List.map_set]
  rfl
theorem room_a {n at0:Int} {ls:List HV} {own:List St} (hol:own.length ≤ 100) :
    RT polL4 4 (sub [1,1,1,0,1,0] B4) (let q:=own.length; (env4 (.int .i64 n) (.imm .arg 3 ls) (.int .i64 at0) (.bool false) (.sl 0 0 q none q 3) (.int .i64 ((0:Nat):Int)) Ud Ud Ud Ud Ud Ud Ud Ud Ud Ud Ud Ud Ud Ud Ud Ud Ud Ud Ud Ud)) [bS own] (.exit 0) (let q:=own.length; (env4 (.int .i64 n) (.imm .arg 3 ls) (.int .i64 at0) (.bool false) (.sl 0 0 q none q 3) (.int .i64 (own.length:Int)) Ud Ud Ud Ud Ud Ud Ud Ud Ud Ud Ud Ud Ud Ud Ud Ud Ud Ud Ud Ud)) [bS (own.map rwS)]:=by
  have r:=count (pol':=polL4) (f:=4) (E:=fun i=>let q:=own.length; (env4 (.int .i64 n) (.imm .arg 3 ls) (.int .i64 at0) (.bool false) (.sl 0 0 q none q 3) (.int .i64 (i:Int)) Ud Ud Ud Ud Ud Ud Ud Ud Ud Ud Ud Ud Ud Ud Ud Ud Ud Ud Ud Ud)) (Hs:=fun i=>[bS (rwP own i)]) own.length (E0:=fun i=>let q:=own.length; (env4 (.int .i64 n) (.imm .arg 3 ls) (.int .i64 at0) (.bool false) (.sl 0 0 q none q 3) (.int .i64 ((i+1:Nat):Int)) Ud Ud Ud Ud Ud Ud Ud Ud Ud Ud Ud Ud Ud Ud Ud Ud Ud Ud Ud Ud)) (H1:=fun i=>[bS (rwP own (i+1))]) (fun i hi=>by
    have hl:=rwP_len own (i:=i) (by omega)
    have hg:=rwP_at hi
    have ix:=idx_st (b:=0) (cap:=none) hi
    have ld:=ld_w (H:=[bS (rwP own i)]) (b:=0) rfl (y:=i) (by omega)
    have c24:=at2 (pol':=polL4) (g:=24) (c1:=kI) (c2:=kI) (f:=fun a n=>if 0 < n∧n < 9223372036854775808 then some (.int .i64 (modW a n)) else none) (H:=[bS (rwP own i)]) (by kernel_rfl) (ShI _ (own.getD i (0,0,0)).2.2) (ShI _ 400) (if_pos (by omega))
    have hm:=modW_rng (own.getD i (0,0,0)).2.2 (n:=400) (by omega) (by omega)
    have st:=st_w (H:=[bS (rwP own i)]) (b:=0) rfl (y:=i) (by omega) (IntKind.i64.wrap (1+modW (own.getD i (0,0,0)).2.2 400))
    rw [hl,hg] at ld st
    have hw:IntKind.i64.wrap (1+modW (own.getD i (0,0,0)).2.2 400)=1+modW (own.getD i (0,0,0)).2.2 400:=wrap_id (by omega) (by omega)
    rw [hw,show ((own.getD i (0,0,0)).1,(own.getD i (0,0,0)).2.1,1+modW (own.getD i (0,0,0)).2.2 400)=rwS (own.getD i (0,0,0)) from rfl,rwP_set hi] at st
    have s:=rm_l_0 (F:=prL4) n ls at0 [bS (rwP own i)] own.length i _ _ (y9:=Ud) (y10:=Ud) (y11:=Ud) (y12:=Ud) (y13:=Ud) (y14:=Ud) (y15:=Ud) (y16:=Ud) (y17:=Ud) (y18:=Ud) (y19:=Ud) (y21:=Ud) (y22:=Ud) (y24:=Ud) (y25:=Ud) (y26:=Ud) (y28:=Ud) (y29:=Ud) (y31:=Ud) (y32:=Ud) (by omega) ix ld c24 ix (by rw [hw]; exact st)
    rw [wrap_succ (by omega)] at s
    exact s) (fun i _=>by kernel_rfl) (fun i _=>gc_eq _ rfl) (by
    rw [rwP_all]
    exact rm_l_1 (F:=prL4) n ls at0 [bS (own.map rwS)] own.length own.length 0 0 (y9:=Ud) (y10:=Ud) (y11:=Ud) (y12:=Ud) (y13:=Ud) (y14:=Ud) (y15:=Ud) (y16:=Ud) (y17:=Ud) (y18:=Ud) (y19:=Ud) (y21:=Ud) (y22:=Ud) (y24:=Ud) (y25:=Ud) (y26:=Ud) (y28:=Ud) (y29:=Ud) (y31:=Ud) (y32:=Ud) (by omega)) (by simp) (c:=sub [1,1,1,0,1,0] B4) (by kernel_rfl) (fun i _=>by kernel_rfl)
  exact r
theorem room_b {n at0 w:Int} {ls:List HV} {q k:Nat} {T:List Int} {H:Heap} (hH:H[1]?=some (bI T)) (hTl:T.length ≤ 100) :
    RT polL4 4 (sub [1,1,1,1,1,1,1,1,1,0,1,0] B4) ((env4 (.int .i64 n) (.imm .arg 3 ls) (.int .i64 at0) (.bool false) (.sl 0 0 q none q 3) Ud (.int .i64 (k:Int)) (.sl 1 0 T.length none T.length 1) (.int .i64 w) Ud (.sl 2 0 q none q 1) Ud (.bool false) (.int .i64 ((0:Nat):Int)) Ud Ud Ud Ud Ud Ud Ud Ud Ud Ud Ud Ud)) H (.exit 2) ((env4 (.int .i64 n) (.imm .arg 3 ls) (.int .i64 at0) (.bool false) (.sl 0 0 q none q 3) Ud (.int .i64 (k:Int)) (.sl 1 0 T.length none T.length 1) (.int .i64 w) Ud (.sl 2 0 q none q 1) Ud (.bool (decide ((k:Int) ∈ T))) (.int .i64 ((T.length:Nat):Int)) Ud Ud Ud Ud Ud Ud Ud Ud Ud Ud Ud Ud)) H:=by
  have key:∀ i,i < T.length → RT polL4 4 (sub [1,1,1,1,1,1,1,1,1,0,1,0,0] B4) ((env4 (.int .i64 n) (.imm .arg 3 ls) (.int .i64 at0) (.bool false) (.sl 0 0 q none q 3) Ud (.int .i64 (k:Int)) (.sl 1 0 T.length none T.length 1) (.int .i64 w) Ud (.sl 2 0 q none q 1) Ud (.bool (decide ((k:Int) ∈ T.take i))) (.int .i64 ((i:Nat):Int)) Ud Ud Ud Ud Ud Ud Ud Ud Ud Ud Ud Ud)) H .normal ((env4 (.int .i64 n) (.imm .arg 3 ls) (.int .i64 at0) (.bool false) (.sl 0 0 q none q 3) Ud (.int .i64 (k:Int)) (.sl 1 0 T.length none T.length 1) (.int .i64 w) Ud (.sl 2 0 q none q 1) Ud (.bool (decide ((k:Int) ∈ T.take (i+1)))) (.int .i64 ((i+1:Nat):Int)) Ud Ud Ud Ud Ud Ud Ud Ud Ud Ud Ud Ud)) H:=fun i hi=>by
    have hy:=load_out hH hi
    have ix:=idxS (b:=1) (cap:=none) u24 z3 hi
    by_cases c:(k:Int) ∈ T.take i
    · have c2:(k:Int) ∈ T.take (i+1):=by rw [take_snoc hi]; exact List.mem_append_left _ c
      rw [decide_eq_true c,decide_eq_true c2]
      have s:=rm_n_0 (F:=prL4) n ls at0 H q k T.length w i 0 (y8:=Ud) (y12:=Ud) (y14:=Ud) (y17:=Ud) (y18:=Ud) (y19:=Ud) (y21:=Ud) (y22:=Ud) (y24:=Ud) (y25:=Ud) (y26:=Ud) (y28:=Ud) (y29:=Ud) (y31:=Ud) (y32:=Ud) (by omega)
      rw [wrap_succ (by omega)] at s
      exact s
    · rw [decide_eq_false c]
      by_cases e:T.getD i 0=(k:Int)
      · have c2:(k:Int) ∈ T.take (i+1):=by rw [take_snoc hi,e]; simp
        rw [decide_eq_true c2]
        have s:=rm_m_0 (F:=prL4) n ls at0 H q k T.length w i (T.getD i 0) (y8:=Ud) (y12:=Ud) (y14:=Ud) (y17:=Ud) (y18:=Ud) (y19:=Ud) (y21:=Ud) (y22:=Ud) (y24:=Ud) (y25:=Ud) (y26:=Ud) (y28:=Ud) (y29:=Ud) (y31:=Ud) (y32:=Ud) (by omega) ix hy e
        rw [wrap_succ (by omega)] at s
        exact s
      · have c2:(k:Int) ∉ T.take (i+1):=by
          rw [take_snoc hi,List.mem_append,List.mem_singleton]
          exact fun h=>h.elim c fun h=>e h.symm
        rw [decide_eq_false c2]
        have s:=rm_m_1 (F:=prL4) n ls at0 H q k T.length w i (T.getD i 0) (y8:=Ud) (y12:=Ud) (y14:=Ud) (y17:=Ud) (y18:=Ud) (y19:=Ud) (y21:=Ud) (y22:=Ud) (y24:=Ud) (y25:=Ud) (y26:=Ud) (y28:=Ud) (y29:=Ud) (y31:=Ud) (y32:=Ud) (by omega) ix hy e
        rw [wrap_succ (by omega)] at s
        exact s
  have out:RT polL4 4 (sub [1,1,1,1,1,1,1,1,1,0,1,0,0] B4) ((env4 (.int .i64 n) (.imm .arg 3 ls) (.int .i64 at0) (.bool false) (.sl 0 0 q none q 3) Ud (.int .i64 (k:Int)) (.sl 1 0 T.length none T.length 1) (.int .i64 w) Ud (.sl 2 0 q none q 1) Ud (.bool (decide ((k:Int) ∈ T.take T.length))) (.int .i64 ((T.length:Nat):Int)) Ud Ud Ud Ud Ud Ud Ud Ud Ud Ud Ud Ud)) H (.exit 2) ((env4 (.int .i64 n) (.imm .arg 3 ls) (.int .i64 at0) (.bool false) (.sl 0 0 q none q 3) Ud (.int .i64 (k:Int)) (.sl 1 0 T.length none T.length 1) (.int .i64 w) Ud (.sl 2 0 q none q 1) Ud (.bool (decide ((k:Int) ∈ T))) (.int .i64 ((T.length:Nat):Int)) Ud Ud Ud Ud Ud Ud Ud Ud Ud Ud Ud Ud)) H:=by
    rw [List.take_length]
    by_cases c:(k:Int) ∈ T
    · rw [decide_eq_true c]
      exact rm_n_1 (F:=prL4) n ls at0 H q k T.length w T.length 0 (y8:=Ud) (y12:=Ud) (y14:=Ud) (y17:=Ud) (y18:=Ud) (y19:=Ud) (y21:=Ud) (y22:=Ud) (y24:=Ud) (y25:=Ud) (y26:=Ud) (y28:=Ud) (y29:=Ud) (y31:=Ud) (y32:=Ud) (by omega)
    · rw [decide_eq_false c]
      exact rm_m_2 (F:=prL4) n ls at0 H q k T.length w T.length 0 (y8:=Ud) (y12:=Ud) (y14:=Ud) (y17:=Ud) (y18:=Ud) (y19:=Ud) (y21:=Ud) (y22:=Ud) (y24:=Ud) (y25:=Ud) (y26:=Ud) (y28:=Ud) (y29:=Ud) (y31:=Ud) (y32:=Ud) (by omega)
  exact count (pol':=polL4) (f:=4) (E:=fun i=>(env4 (.int .i64 n) (.imm .arg 3 ls) (.int .i64 at0) (.bool false) (.sl 0 0 q none q 3) Ud (.int .i64 (k:Int)) (.sl 1 0 T.length none T.length 1) (.int .i64 w) Ud (.sl 2 0 q none q 1) Ud (.bool (decide ((k:Int) ∈ T.take i))) (.int .i64 ((i:Nat):Int)) Ud Ud Ud Ud Ud Ud Ud Ud Ud Ud Ud Ud)) (Hs:=fun _=>H) T.length key (fun i _=>by kernel_rfl) (fun i _=>gc_eq _ rfl) out (by simp) (c:=sub [1,1,1,1,1,1,1,1,1,0,1,0] B4) (by kernel_rfl) (fun i _=>by kernel_rfl)
theorem streetsRoom_law (n:Int) (l:List St) (at0:Int):∃ E H,RT polL4 4 B4 (args0 [.int .i64 n,.imm .arg 3 (l.map encT),.int .i64 at0]) [] .ret E H∧E.get 6=.bool true:=by
  have md:∀ (a n:Int) (H:Heap),0 < n∧n < 9223372036854775808 → ∀ k,callN Tp polL4 (k+1) 24 [.int .i64 a,.int .i64 n] H=some (.int .i64 (modW a n),H):=fun a n H hn =>
    at2 (pol':=polL4) (g:=24) (c1:=kI) (c2:=kI) (f:=fun a n=>if 0 < n∧n < 9223372036854775808 then some (.int .i64 (modW a n)) else none) (by kernel_rfl) (ShI _ a) (ShI _ n) (if_pos hn)
  have a:=rm_a_0 (F:=prL4) n (l.map encT) at0
  have hp:=modW_rng n (n:=8) (by omega) (by omega)
  have b:=rm_b_0 (F:=prL4) n (l.map encT) at0 [] (modW n 8) (y7:=Ud) (y8:=Ud) (y9:=Ud) (y10:=Ud) (y11:=Ud) (y12:=Ud) (y13:=Ud) (y14:=Ud) (y15:=Ud) (y16:=Ud) (y17:=Ud) (y18:=Ud) (y19:=Ud) (y21:=Ud) (y22:=Ud) (y24:=Ud) (y25:=Ud) (y26:=Ud) (y28:=Ud) (y29:=Ud) (y31:=Ud) (y32:=Ud) (md n 8 [] (by omega))
  have hw:IntKind.i64.wrap (2+modW n 8)=2+modW n 8:=wrap_id (by omega) (by omega)
  rw [hw] at b
  generalize hm:2+modW n 8=m at *
  have hm1:2 ≤ m∧m ≤ 9:=by omega
  have c25:=at3 (pol':=polL4) (g:=25) (c1:=kS) (c2:=kI) (c3:=kI) (f:=fun l n most=>if (1 ≤ n∧n ≤ 100)∧0 ≤ most∧most ≤ 100 then some (.own 3 ((tamT n l most).map encT)) else none) (H:=[]) (by kernel_rfl) (ShS_imm _ l) (ShI _ m) (ShI _ 20) (if_pos ⟨by omega,by omega,by omega⟩)
  rw [recv_sts] at c25
  have hnet0:=tam_net (n:=m) (by omega) l (most:=20) (by omega)
  have hc0:=tam_conn (n:=m) (by omega) l (most:=20) (by omega)
  have hol:=tam_len m l 20
  have hlong:1 ≤ (tamT m l 20).length:=by rw [tamT,List.length_append,pathL_len]; omega
  generalize tamT m l 20=own0 at *
  have hol:own0.length ≤ 28:=by omega
  have c:=rm_c_0 (F:=prL4) m (l.map encT) at0 [] own0.length (y7:=Ud) (y8:=Ud) (y9:=Ud) (y10:=Ud) (y11:=Ud) (y12:=Ud) (y13:=Ud) (y14:=Ud) (y15:=Ud) (y16:=Ud) (y17:=Ud) (y18:=Ud) (y19:=Ud) (y21:=Ud) (y22:=Ud) (y24:=Ud) (y25:=Ud) (y26:=Ud) (y28:=Ud) (y29:=Ud) (y31:=Ud) (y32:=Ud) c25
  have d:=rm_d_0 (F:=prL4) m (l.map encT) at0 [bS own0] own0.length (y8:=Ud) (y9:=Ud) (y10:=Ud) (y11:=Ud) (y12:=Ud) (y13:=Ud) (y14:=Ud) (y15:=Ud) (y16:=Ud) (y17:=Ud) (y18:=Ud) (y19:=Ud) (y21:=Ud) (y22:=Ud) (y24:=Ud) (y25:=Ud) (y26:=Ud) (y28:=Ud) (y29:=Ud) (y31:=Ud) (y32:=Ud)
  have r1:=room_a (n:=m) (ls:=l.map encT) (at0:=at0) (own:=own0) (by omega)
  have hnet:=rw_net hnet0
  have hc:=rw_conn hnet0 hc0
  have hw1:∀ j,0 ≤ j∧j < ((own0.map rwS).length:Int) → 1 ≤ wOf (own0.map rwS) j∧wOf (own0.map rwS) j ≤ 400:=fun j hj=>rw_w (by rw [List.length_map] at hj; exact hj)
  have hlen:(own0.map rwS).length=own0.length:=List.length_map ..
  rw [← hlen] at hol hlong r1
  simp only [← hlen] at c d
  generalize own0.map rwS=own at *
  have hk:=modW_rng at0 (n:=(own.length:Int)) (by omega) (by omega)
  obtain ⟨k,hkk⟩:=Int.eq_ofNat_of_zero_le hk.1
  have c24:=md at0 (own.length:Int) [bS own] (by omega)
  rw [hkk] at c24 hk
  have hkl:k < own.length:=by omega
  have e:=rm_e_0 (F:=prL4) m (l.map encT) at0 [bS own] own.length k (y8:=.int .i64 (own.length:Int)) (y9:=Ud) (y10:=Ud) (y11:=Ud) (y12:=Ud) (y13:=Ud) (y14:=Ud) (y15:=Ud) (y16:=Ud) (y17:=Ud) (y18:=Ud) (y19:=Ud) (y21:=Ud) (y22:=Ud) (y24:=Ud) (y25:=Ud) (y26:=Ud) (y28:=Ud) (y29:=Ud) (y31:=Ud) (y32:=Ud) c24
  obtain ⟨⟨w1,w2⟩,w3,he,hw'⟩:=netB_ends hnet
  have ee:slE m own=0:=by rw [slE,if_pos hnet,if_pos hc]
  have tr:∀ (own:List St) (b:Nat) (H:Heap),own.length ≤ 500 → netB m own=true → connB m own=true → H[b]?=some (bS own) → ∀ k,callN Tp polL4 (k+1) 14 [.int .i64 m,.sl b 0 own.length none own.length 3] H=some (.tuple [.sl H.length 0 (frT own).length none (frT own).length 1,.int .i64 (wgt own (frT own)),.int .i64 0],H ++ [bI (frT own)]):=fun own b H h1 h2 h3 h4 k=>by
    have c14:=at2 (pol':=polL4) (g:=14) (c1:=kI) (c2:=kS) (f:=fun n l=>if l.length ≤ 500∧n ≤ 13 then some (.tuple [.own 1 ((trG n l).map encI),.int .i64 (trW n l),.int .i64 (slE n l)]) else none) (H:=H) (by kernel_rfl) (ShI _ m) (ShS_sl rfl h4) (if_pos ⟨by omega,by omega⟩)
    have ee:slE m own=0:=by rw [slE,if_pos h2,if_pos h3]
    rw [recv_lii,trG,trW,ee,if_pos rfl,if_pos rfl] at c14
    exact c14 k
  have hfl:(frT own).length ≤ 60:=by have:=frT_le own; omega
  have hTl:=tr own 0 [bS own] (by omega) hnet hc rfl
  have f:=rm_f_0 (F:=prL4) m (l.map encT) at0 [bS own] own.length k (frT own).length (wgt own (frT own)) (y8:=.int .i64 (own.length:Int)) (y10:=Ud) (y11:=Ud) (y12:=Ud) (y13:=Ud) (y14:=Ud) (y15:=Ud) (y16:=Ud) (y17:=Ud) (y18:=Ud) (y19:=Ud) (y21:=Ud) (y22:=Ud) (y24:=Ud) (y25:=Ud) (y26:=Ud) (y28:=Ud) (y29:=Ud) (y31:=Ud) (y32:=Ud) hTl
  have c26:=at2 (pol':=polL4) (g:=26) (c1:=kI) (c2:=kS) (f:=fun n l=>if l.length ≤ 500 then some (.tuple [.own 1 ((slG n l).map encI),.int .i64 (slE n l)]) else none) (H:=[bS own] ++ [bI (frT own)]) (v2:=.sl 0 0 own.length none own.length 3) (by kernel_rfl) (ShI _ m) (ShS_sl rfl rfl) (if_pos (by omega))
  rw [recv_li1,slG,ee,if_pos rfl] at c26
  have hsl:=slT_len own
  have hin:=fun h1=>room_in hnet hc hkl h1 hw1
  have hout:=fun h1=>room_out hnet hc hkl h1 hw1
  generalize hS:slT own=S at *
  rw [hsl] at c26
  have g:=rm_g_0 (F:=prL4) m (l.map encT) at0 ([bS own] ++ [bI (frT own)]) own.length k (frT own).length (wgt own (frT own)) (y8:=.int .i64 (own.length:Int)) (y13:=Ud) (y14:=Ud) (y15:=Ud) (y16:=Ud) (y17:=Ud) (y18:=Ud) (y19:=Ud) (y21:=Ud) (y22:=Ud) (y24:=Ud) (y25:=Ud) (y26:=Ud) (y28:=Ud) (y29:=Ud) (y31:=Ud) (y32:=Ud) c26
  generalize hK:[bS own] ++ [bI (frT own)] ++ [bI S]=K at *
  have hK1:K=[bS own,bI (frT own),bI S]:=by rw [← hK]; rfl
  have h:=rm_h_0 (F:=prL4) m (l.map encT) at0 K own.length k (frT own).length (wgt own (frT own)) (y8:=.int .i64 (own.length:Int)) (y15:=Ud) (y16:=Ud) (y17:=Ud) (y18:=Ud) (y19:=Ud) (y21:=Ud) (y22:=Ud) (y24:=Ud) (y25:=Ud) (y26:=Ud) (y28:=Ud) (y29:=Ud) (y31:=Ud) (y32:=Ud) rfl
  have i:=rm_i_0 (F:=prL4) m (l.map encT) at0 K own.length k (frT own).length (wgt own (frT own)) (y8:=.int .i64 (own.length:Int)) (y12:=.int .i64 0) (y14:=.int .i64 0) (y15:=Ud) (y16:=Ud) (y17:=Ud) (y18:=Ud) (y19:=Ud) (y21:=Ud) (y22:=Ud) (y24:=Ud) (y25:=Ud) (y26:=Ud) (y28:=Ud) (y29:=Ud) (y31:=Ud) (y32:=Ud)
  have j:=rm_j_0 (F:=prL4) m (l.map encT) at0 K own.length k (frT own).length (wgt own (frT own)) (y8:=.int .i64 (own.length:Int)) (y12:=.int .i64 0) (y14:=.int .i64 0) (y16:=Ud) (y17:=Ud) (y18:=Ud) (y19:=Ud) (y21:=Ud) (y22:=Ud) (y24:=Ud) (y25:=Ud) (y26:=Ud) (y28:=Ud) (y29:=Ud) (y31:=Ud) (y32:=Ud)
  have r2:=room_b (n:=m) (ls:=l.map encT) (at0:=at0) (q:=own.length) (k:=k) (w:=wgt own (frT own)) (H:=K) (T:=frT own) (by rw [hK1]; rfl) (by omega)
  have c13:∀ H:Heap,H[0]?=some (bS own) → ∀ k,callN Tp polL4 (k+1) 13 [.sl 0 0 own.length none own.length 3] H=some (.sl H.length 0 own.length none own.length 3,H ++ [bS own]):=fun H h0=>by
    have:=at1 (pol':=polL4) (g:=13) (c1:=kS) (f:=fun l=>some (.own 3 ((l.take 61).map encT))) (H:=H) (v1:=.sl 0 0 own.length none own.length 3) (x:=own) (by kernel_rfl) (ShS_sl rfl h0) rfl
    rw [List.take_of_length_le (by omega),recv_sts] at this
    exact this
  have ca:=c13 K (by rw [hK1]; rfl)
  have cb:=c13 (K ++ [bS own]) (by rw [hK1]; rfl)
  have l1:K.length=3:=by rw [hK1]; rfl
  have l2:(K ++ [bS own]).length=4:=by rw [hK1]; rfl
  rw [l1] at ca
  rw [l2] at cb
  have hK3:K ++ [bS own] ++ [bS own]=[bS own,bI (frT own),bI S,bS own,bS own]:=by rw [hK1]; rfl
  rw [hK3] at cb
  have aw:∀ H,∀ k,callN Tp polL4 (k+1) 18 [] H=some (.bool true,H):=fun H=>awake_at (by kernel_rfl) H
  -- memory after the changes
  have iS:=idxS (b:=2) (cap:=none) u24 z3 hkl
  have i0:=idx_st (b:=0) (cap:=none) hkl
  have i3:=idx_st (b:=3) (cap:=none) hkl
  have i4:=idx_st (b:=4) (cap:=none) hkl
  have eW:(own.getD k (0,0,0)).2.2=wOf own k:=by rw [wOf,Int.toNat_natCast]
  have lS:∀ (X Y:Blk) (Z:Heap),loadV Tp ([bS own,bI (frT own),bI S,X,Y] ++ Z) 3 (.ptr 2 k 0 own.length)=some (.int .i64 (S.getD k 0)):=fun X Y Z=>by
    have:=load_out (H:=[bS own,bI (frT own),bI S,X,Y] ++ Z) (k:=2) (o:=S) rfl (y:=k) (by omega)
    rwa [hsl] at this
  have lW:∀ (X Y:Blk),loadV Tp [bS own,bI (frT own),bI S,X,Y] 3 (.ptr 0 k 2 own.length)=some (.int .i64 (wOf own k)):=fun X Y=>by
    have:=ld_w (H:=[bS own,bI (frT own),bI S,X,Y]) (b:=0) (o:=own) rfl hkl
    rwa [eW] at this
  have sA3:∀ v,storeV Tp [bS own,bI (frT own),bI S,bS own,bS own] 3 (.ptr 3 k 2 own.length) (.int .i64 v)=some [bS own,bI (frT own),bI S,bS (upW own k v),bS own]:=fun v=>st_w (H:=[bS own,bI (frT own),bI S,bS own,bS own]) (b:=3) rfl hkl v
  have sA4:∀ u v,storeV Tp [bS own,bI (frT own),bI S,bS (upW own k u),bS own] 3 (.ptr 4 k 2 own.length) (.int .i64 v)=some [bS own,bI (frT own),bI S,bS (upW own k u),bS (upW own k v)]:=fun u v=>st_w (H:=[bS own,bI (frT own),bI S,bS (upW own k u),bS own]) (b:=4) rfl hkl v
  have t1:∀ u v,netB m (upW own k u)=true∧connB m (upW own k u)=true → ∀ k',callN Tp polL4 (k'+1) 14 [.int .i64 m,.sl 3 0 own.length none own.length 3] [bS own,bI (frT own),bI S,bS (upW own k u),bS (upW own k v)]=some (.tuple [.sl 5 0 (frT (upW own k u)).length none (frT (upW own k u)).length 1,.int .i64 (wgt (upW own k u) (frT (upW own k u))),.int .i64 0],[bS own,bI (frT own),bI S,bS (upW own k u),bS (upW own k v)] ++ [bI (frT (upW own k u))]):=fun u v hu=>by
    have:=tr (upW own k u) 3 [bS own,bI (frT own),bI S,bS (upW own k u),bS (upW own k v)] (by rw [upW_len]; omega) hu.1 hu.2 rfl
    rw [upW_len] at this
    exact this
  have t2:∀ u v,netB m (upW own k v)=true∧connB m (upW own k v)=true → ∀ k',callN Tp polL4 (k'+1) 14 [.int .i64 m,.sl 4 0 own.length none own.length 3] ([bS own,bI (frT own),bI S,bS (upW own k u),bS (upW own k v)] ++ [bI (frT (upW own k u))])=some (.tuple [.sl 6 0 (frT (upW own k v)).length none (frT (upW own k v)).length 1,.int .i64 (wgt (upW own k v) (frT (upW own k v))),.int .i64 0],[bS own,bI (frT own),bI S,bS (upW own k u),bS (upW own k v)] ++ [bI (frT (upW own k u))] ++ [bI (frT (upW own k v))]):=fun u v hv=>by
    have:=tr (upW own k v) 4 ([bS own,bI (frT own),bI S,bS (upW own k u),bS (upW own k v)] ++ [bI (frT (upW own k u))]) (by rw [upW_len]; omega) hv.1 hv.2 rfl
    rw [upW_len] at this
    exact this
  have hwk:=hw1 (k:Int) (by omega)
  have hW:=wgt_take (l:=own) (fun s hs=>by have:=hw' s hs; omega) (t:=frT own) (by omega) (frT own).length
  rw [List.take_of_length_le (by rw [List.length_map]; exact Nat.le_refl _)] at hW
  have hW:0 ≤ wgt own (frT own)∧wgt own (frT own) ≤ 1000000000:=hW
  by_cases kT:(k:Int) ∈ frT own
  · have kT':=frT_mem.1 kT
    rw [decide_eq_true kT] at r2
    have o:=rm_o_0 (F:=prL4) m (l.map encT) at0 K own.length k (wgt own (frT own)) (y10:=.sl 1 0 (frT own).length none (frT own).length 1) (y15:=.bool true) (y16:=.int .i64 ((frT own).length:Int)) (y8:=Ud) (y12:=Ud) (y14:=Ud) (y17:=Ud) (y18:=Ud) (y19:=Ud) (y21:=Ud) (y22:=Ud) (y24:=Ud) (y25:=Ud) (y26:=Ud) (y28:=Ud) (y29:=Ud) (y31:=Ud) (y32:=Ud) ca cb
    rcases hin kT' with ⟨q1,q2⟩ | ⟨q1,q2,q3⟩
    · have z1:=q2 300 (by omega)
      have z2:=q2 305 (by omega)
      have v1:IntKind.i64.wrap (wOf own k+300)=wOf own k+300:=wrap_id (by omega) (by omega)
      have v2:IntKind.i64.wrap (wOf own k+300+5)=wOf own k+305:=by rw [wrap_id (by omega) (by omega)]; omega
      have v3:IntKind.i64.wrap (wgt own (frT own)+300)=wgt own (frT own)+300:=wrap_id (by omega) (by omega)
      have v4:IntKind.i64.wrap (wgt own (frT own)+300+5)=wgt own (frT own)+305:=by rw [wrap_id (by omega) (by omega)]; omega
      have p:=rm_pt_0 (F:=prL4) m (l.map encT) at0 [bS own,bI (frT own),bI S,bS own,bS own] own.length k (wgt own (frT own)) (S.getD k 0) (wOf own k) _ _ _ _ _ _ (y10:=.sl 1 0 (frT own).length none (frT own).length 1) (y16:=.int .i64 ((frT own).length:Int)) (y8:=Ud) (y12:=Ud) (y14:=Ud) (y19:=Ud) (y21:=Ud) (y22:=Ud) (y24:=Ud) (y25:=Ud) (y26:=Ud) (y28:=Ud) (y29:=Ud) (y31:=Ud) (y32:=Ud) iS (lS _ _ []) q1 i0 (lW _ _) i3 (by rw [v1]; exact sA3 _) i0 (lW _ _) i4 (by rw [v1,v2]; exact sA4 _ _) (t1 _ _ ⟨z1.1,z1.2.1⟩) (t2 _ _ ⟨z2.1,z2.2.1⟩) iS (by rw [List.append_assoc]; exact lS _ _ _) q1 (by rw [v3]; exact z1.2.2) (by rw [v3,v4]; exact z2.2.2) (aw _)
      exact ⟨_,_,sq (a) (sq (b) (sq (c) (sq (sq (d) (bke (c:=sub [1,1,1,0,1] B4) (r1)) (c:=sub [1,1,1,0] B4)) (sq (e) (sq (f) (sq (g) (sq (h) (sq (i) (sq (sq (j) (bke (c:=sub [1,1,1,1,1,1,1,1,1,0,1] B4) (lpi (e0:=(env4 (.int .i64 m) (.imm .arg 3 (l.map encT)) (.int .i64 at0) (.bool false) (.sl 0 0 own.length none own.length 3) (.int .i64 (own.length:Int)) (.int .i64 (k:Int)) (.sl 1 0 (frT own).length none (frT own).length 1) (.int .i64 (wgt own (frT own))) (.int .i64 0) (.sl 2 0 own.length none own.length 1) (.int .i64 0) (.bool false) (.int .i64 ((0:Nat):Int)) Ud Ud Ud Ud Ud Ud Ud Ud Ud Ud Ud Ud)) r2 (b:=sub [1,1,1,1,1,1,1,1,1,0,1,0,0] B4))) (c:=sub [1,1,1,1,1,1,1,1,1,0] B4)) (sq (o) (sqo (p) (c:=sub [1,1,1,1,1,1,1,1,1,1,1] B4) (b:=sub [1,1,1,1,1,1,1,1,1,1,1,1] B4)) (c:=sub [1,1,1,1,1,1,1,1,1,1] B4)) (c:=sub [1,1,1,1,1,1,1,1,1] B4)) (c:=sub [1,1,1,1,1,1,1,1] B4)) (c:=sub [1,1,1,1,1,1,1] B4)) (c:=sub [1,1,1,1,1,1] B4)) (c:=sub [1,1,1,1,1] B4)) (c:=sub [1,1,1,1] B4)) (c:=sub [1,1,1] B4)) (c:=sub [1,1] B4)) (c:=sub [1] B4)) (c:=B4),rfl⟩
    · have v1:IntKind.i64.wrap (wOf own k+S.getD k 0)=wOf own k+S.getD k 0:=wrap_id (by omega) (by omega)
      have v2:IntKind.i64.wrap (wOf own k+S.getD k 0+5)=wOf own k+S.getD k 0+5:=wrap_id (by omega) (by omega)
      have v3:IntKind.i64.wrap (wgt own (frT own)+S.getD k 0)=wgt own (frT own)+S.getD k 0:=wrap_id (by omega) (by omega)
      have p:=rm_pt_5 (F:=prL4) m (l.map encT) at0 [bS own,bI (frT own),bI S,bS own,bS own] own.length k (wgt own (frT own)) (S.getD k 0) (wOf own k) _ _ _ _ _ _ (y10:=.sl 1 0 (frT own).length none (frT own).length 1) (y16:=.int .i64 ((frT own).length:Int)) (y8:=Ud) (y12:=Ud) (y14:=Ud) (y19:=Ud) (y21:=Ud) (y22:=Ud) (y24:=Ud) (y25:=Ud) (y26:=Ud) (y28:=Ud) (y29:=Ud) (y31:=Ud) (y32:=Ud) iS (lS _ _ []) (by omega) (by omega) (by omega) i0 (lW _ _) i3 (by rw [v1]; exact sA3 _) i0 (lW _ _) i4 (by rw [v1,v2]; exact sA4 _ _) (t1 _ _ ⟨q2.1,q2.2.1⟩) (t2 _ _ ⟨q3.1,q3.2.1⟩) iS (by rw [List.append_assoc]; exact lS _ _ _) (by omega) (by rw [v3]; exact q2.2.2) (by rw [v3]; exact q3.2.2) (aw _)
      exact ⟨_,_,sq (a) (sq (b) (sq (c) (sq (sq (d) (bke (c:=sub [1,1,1,0,1] B4) (r1)) (c:=sub [1,1,1,0] B4)) (sq (e) (sq (f) (sq (g) (sq (h) (sq (i) (sq (sq (j) (bke (c:=sub [1,1,1,1,1,1,1,1,1,0,1] B4) (lpi (e0:=(env4 (.int .i64 m) (.imm .arg 3 (l.map encT)) (.int .i64 at0) (.bool false) (.sl 0 0 own.length none own.length 3) (.int .i64 (own.length:Int)) (.int .i64 (k:Int)) (.sl 1 0 (frT own).length none (frT own).length 1) (.int .i64 (wgt own (frT own))) (.int .i64 0) (.sl 2 0 own.length none own.length 1) (.int .i64 0) (.bool false) (.int .i64 ((0:Nat):Int)) Ud Ud Ud Ud Ud Ud Ud Ud Ud Ud Ud Ud)) r2 (b:=sub [1,1,1,1,1,1,1,1,1,0,1,0,0] B4))) (c:=sub [1,1,1,1,1,1,1,1,1,0] B4)) (sq (o) (sqo (p) (c:=sub [1,1,1,1,1,1,1,1,1,1,1] B4) (b:=sub [1,1,1,1,1,1,1,1,1,1,1,1] B4)) (c:=sub [1,1,1,1,1,1,1,1,1,1] B4)) (c:=sub [1,1,1,1,1,1,1,1,1] B4)) (c:=sub [1,1,1,1,1,1,1,1] B4)) (c:=sub [1,1,1,1,1,1,1] B4)) (c:=sub [1,1,1,1,1,1] B4)) (c:=sub [1,1,1,1,1] B4)) (c:=sub [1,1,1,1] B4)) (c:=sub [1,1,1] B4)) (c:=sub [1,1] B4)) (c:=sub [1] B4)) (c:=B4),rfl⟩
  · have kT':(k:Int) ∉ treeT own:=fun h=>kT (frT_mem.2 h)
    rw [decide_eq_false kT] at r2
    have o:=rm_o_0 (F:=prL4) m (l.map encT) at0 K own.length k (wgt own (frT own)) (y10:=.sl 1 0 (frT own).length none (frT own).length 1) (y15:=.bool false) (y16:=.int .i64 ((frT own).length:Int)) (y8:=Ud) (y12:=Ud) (y14:=Ud) (y17:=Ud) (y18:=Ud) (y19:=Ud) (y21:=Ud) (y22:=Ud) (y24:=Ud) (y25:=Ud) (y26:=Ud) (y28:=Ud) (y29:=Ud) (y31:=Ud) (y32:=Ud) ca cb
    have p:=rm_pf_0 (F:=prL4) m (l.map encT) at0 [bS own,bI (frT own),bI S,bS own,bS own] own.length k (wgt own (frT own)) (y10:=.sl 1 0 (frT own).length none (frT own).length 1) (y16:=.int .i64 ((frT own).length:Int)) (y8:=Ud) (y12:=Ud) (y14:=Ud) (y19:=Ud) (y21:=Ud) (y22:=Ud) (y24:=Ud) (y25:=Ud) (y26:=Ud) (y28:=Ud) (y29:=Ud) (y31:=Ud) (y32:=Ud)
    obtain ⟨q1,q2,q3⟩:=hout kT'
    have v1:IntKind.i64.wrap (wOf own k - S.getD k 0)=wOf own k - S.getD k 0:=wrap_id (by omega) (by omega)
    have v2:IntKind.i64.wrap (wOf own k - S.getD k 0 - 1)=wOf own k - S.getD k 0 - 1:=wrap_id (by omega) (by omega)
    have v3:IntKind.i64.wrap (wgt own (frT own) - 1)=wgt own (frT own) - 1:=wrap_id (by omega) (by omega)
    have lV:loadV Tp [bS own,bI (frT own),bI S,bS (upW own k (wOf own k - S.getD k 0)),bS own] 3 (.ptr 3 k 2 own.length)=some (.int .i64 (wOf own k - S.getD k 0)):=by
      have:=ld_w (H:=[bS own,bI (frT own),bI S,bS (upW own k (wOf own k - S.getD k 0)),bS own]) (b:=3) (o:=upW own k (wOf own k - S.getD k 0)) rfl (y:=k) (by rw [upW_len]; exact hkl)
      have e:=upW_get hkl (wOf own k - S.getD k 0) (k:Int) (by omega)
      rw [Int.toNat_natCast,if_pos rfl] at e
      rw [upW_len,e] at this
      exact this
    have z:=rm_z_2 (F:=prL4) m (l.map encT) at0 [bS own,bI (frT own),bI S,bS own,bS own] own.length k (wgt own (frT own)) (S.getD k 0) (wOf own k) (wOf own k - S.getD k 0) _ _ _ _ _ _ (y10:=.sl 1 0 (frT own).length none (frT own).length 1) (y15:=.bool false) (y16:=.int .i64 ((frT own).length:Int)) (y8:=Ud) (y12:=Ud) (y14:=Ud) (y19:=Ud) (y21:=Ud) (y22:=Ud) (y24:=Ud) (y25:=Ud) (y26:=Ud) (y28:=Ud) (y29:=Ud) (y31:=Ud) (y32:=Ud) iS (lS _ _ []) (by omega) iS (lS _ _ []) i0 (lW _ _) (by omega) i0 (lW _ _) iS (lS _ _ []) i3 (by rw [v1]; exact sA3 _) i3 lV i4 (by rw [v2]; exact sA4 _ _) (t1 _ _ ⟨q2.1,q2.2.1⟩) (t2 _ _ ⟨q3.1,q3.2.1⟩) q2.2.2 (by rw [v3]; exact q3.2.2) (aw _)
    exact ⟨_,_,sq (a) (sq (b) (sq (c) (sq (sq (d) (bke (c:=sub [1,1,1,0,1] B4) (r1)) (c:=sub [1,1,1,0] B4)) (sq (e) (sq (f) (sq (g) (sq (h) (sq (i) (sq (sq (j) (bke (c:=sub [1,1,1,1,1,1,1,1,1,0,1] B4) (lpi (e0:=(env4 (.int .i64 m) (.imm .arg 3 (l.map encT)) (.int .i64 at0) (.bool false) (.sl 0 0 own.length none own.length 3) (.int .i64 (own.length:Int)) (.int .i64 (k:Int)) (.sl 1 0 (frT own).length none (frT own).length 1) (.int .i64 (wgt own (frT own))) (.int .i64 0) (.sl 2 0 own.length none own.length 1) (.int .i64 0) (.bool false) (.int .i64 ((0:Nat):Int)) Ud Ud Ud Ud Ud Ud Ud Ud Ud Ud Ud Ud)) r2 (b:=sub [1,1,1,1,1,1,1,1,1,0,1,0,0] B4))) (c:=sub [1,1,1,1,1,1,1,1,1,0] B4)) (sq (o) (sq (p) (z) (c:=sub [1,1,1,1,1,1,1,1,1,1,1] B4)) (c:=sub [1,1,1,1,1,1,1,1,1,1] B4)) (c:=sub [1,1,1,1,1,1,1,1,1] B4)) (c:=sub [1,1,1,1,1,1,1,1] B4)) (c:=sub [1,1,1,1,1,1,1] B4)) (c:=sub [1,1,1,1,1,1] B4)) (c:=sub [1,1,1,1,1] B4)) (c:=sub [1,1,1,1] B4)) (c:=sub [1,1,1] B4)) (c:=sub [1,1] B4)) (c:=sub [1] B4)) (c:=B4),rfl⟩
end Go.Proofs.Ytiejmoglooaalaa
end
section
namespace Go.HL
open Go.ChangeShapes Go.WideShapes Go.ChangeAt Go.RowKit Go.Deep
theorem okNil (w:World) (r:Nat):okOf Ctx.nil w.heap.size false r:=by
  refine ⟨fun hM=>?_,by simp⟩
  obtain ⟨b,y,h1,_,_⟩:=M_iff.1 hM
  simp [Ctx.nil] at h1
theorem cell_lt {w:World} {a:Addr} {v:Value} (h:w.cell? a=some v):a.block < w.heap.size:=by
  rcases Nat.lt_or_ge a.block w.heap.size with hl | hl
  · exact hl
  · have:w.heap[a.block]?=none:=by simp [hl]
    simp [World.cell?,this] at h
end Go.HL
end
section
namespace Go.HL
open Go.ChangeShapes Go.WideShapes Go.ChangeAt Go.RowKit Go.Deep
abbrev encTr (s:Int × Int × Int):HV:=.agg [.int .i64 s.1,.int .i64 s.2.1,.int .i64 s.2.2]
theorem arg_trips_ok {H:Type} {enc:TypeId × Value → H} {P:Program} {W:World} {base:Nat} {t e q:TypeId} {v:Value} {d:DataW H} {ps:List MemPlace} {f0 f1 f2:Field} (ht:P.underlying t=some (.slice e)) (he:P.underlying e=some (.struct #[f0,f1,f2])) (t0:f0.type=q) (t1:f1.type=q) (t2:f2.type=q) (o0:f0.offset=0) (o1:f1.offset=1) (o2:f2.offset=2) (hq:P.underlying q=some (.int .i64)) (ce:P.cellsOf e=3) (cq:P.cellsOf q=1)
    (hval:Value.okWide P W .any base t v) (hd:DataW.Trod enc P W 0 (fun _=>true) true t v d ps):∃ l:List (Int × Int × Int),V W (okOf Ctx.nil W.heap.size) Ctx.nil (.imm .arg 3 (l.map encTr)) v:=by
  obtain ⟨a,len,cap,rfl⟩:=okWide_slice ht hval
  obtain ⟨fuel,hf⟩:=hd
  rcases open_slice ht hf with ⟨h0,_⟩ | ⟨a',len',cap',m,n,D,Pl,h0,hb,hl,hm,hmm,hx,hel⟩
  · simp [Value.cells] at h0
    obtain ⟨rfl,rfl,rfl⟩:=h0
    exact ⟨[],.imm .arg 3 [] none 0 (fun _=>.bool false) (by simp) (by simp) (by simp) (by simp) (by simp) (by simp)⟩
  · simp [Value.cells] at h0
    obtain ⟨rfl,rfl,rfl⟩:=h0
    have hlm:len ≤ m:=by rw [hmm]; split <;> omega
    have each:∀ i,i < len → ∃ p:Int × Int × Int,W.cell? (a'.add (i * 3))=some (.int .i64 p.1)∧W.cell? (a'.add (i * 3+1))=some (.int .i64 p.2.1)∧W.cell? (a'.add (i * 3+2))=some (.int .i64 p.2.2):=by
      intro i hi
      obtain ⟨cs',h1,h2⟩:=hel i (by omega)
      rw [ce] at h1
      obtain ⟨_,hlen,hcell⟩:=World.cells?_some h1
      obtain ⟨y0,y1,y2,k,_,_,g0,g1,g2⟩:=trod_struct3 he h2
      rw [t0,o0,cq] at g0
      rw [t1,o1,cq] at g1
      rw [t2,o2,cq] at g2
      match cs',hlen with
      | [v0,v1,v2],_ =>
        simp at g0 g1 g2
        obtain ⟨z0,e0,_,_⟩:=DataW.trod_int hq g0
        obtain ⟨z1,e1,_,_⟩:=DataW.trod_int hq g1
        obtain ⟨z2,e2,_,_⟩:=DataW.trod_int hq g2
        simp at e0 e1 e2
        subst e0; subst e1; subst e2
        have c0:=hcell 0 (by omega)
        have c1:=hcell 1 (by omega)
        have c2:=hcell 2 (by omega)
        rw [add_add] at c0 c1 c2
        exact ⟨(z0,z1,z2),by simpa using c0,by simpa using c1,by simpa using c2⟩
    obtain ⟨f,hf⟩:=choose_lt each
    refine ⟨(List.range len).map f,?_⟩
    have hlen:(((List.range len).map f).map encTr).length=len:=by simp
    have key:=V.imm (w:=W) (ok:=okOf Ctx.nil W.heap.size) (c:=Ctx.nil) .arg 3 (((List.range len).map f).map encTr) (some a') cap (fun j=>if j % 3=0 then .int .i64 (f (j / 3)).1 else if j % 3=1 then .int .i64 (f (j / 3)).2.1 else .int .i64 (f (j / 3)).2.2)
      (by rw [hlen]; exact hl) (by simp) ?_ ?_ ?_ ?_
    · rw [hlen] at key; exact key
    · intro hne
      have h0:0 < len:=by
        rcases Nat.eq_zero_or_pos len with h | h
        · subst h; simp at hne
        · exact h
      obtain ⟨b,off,spot⟩:=a'
      have hspot:spot=none:=by simpa [Addr.add] using World.cell?_spot (hf 0 h0).1
      subst hspot
      refine ⟨b,off,rfl,by simpa [Addr.add] using cell_lt (hf 0 h0).1,okNil W b,fun j hj=>?_⟩
      rw [hlen] at hj
      have hj2:j / 3 < len:=by omega
      obtain ⟨c0,c1,c2⟩:=hf (j / 3) hj2
      by_cases hp:j % 3=0
      · rw [if_pos hp]
        have:j / 3 * 3=j:=by omega
        rw [this,add_plain] at c0
        exact c0
      by_cases hp1:j % 3=1
      · rw [if_neg hp,if_pos hp1]
        have:j / 3 * 3+1=j:=by omega
        rw [this,add_plain] at c1
        exact c1
      · rw [if_neg hp,if_neg hp1]
        have:j / 3 * 3+2=j:=by omega
        rw [this,add_plain] at c2
        exact c2
    · intro v hv
      obtain ⟨p,_,rfl⟩:=List.mem_map.1 hv
      rfl
    · intro v hv
      obtain ⟨p,_,rfl⟩:=List.mem_map.1 hv
      rfl
    · intro i v j x hi hj
      have hil:i < len:=by have:=lt_of_get hi; rw [hlen] at this; exact this
      have:v=encTr (f i):=by
        rw [List.getElem?_map,List.getElem?_map,List.getElem?_range hil] at hi
        simpa using hi.symm
      subst this
      have hjx:j < 3:=lt_of_get hj
      match j,hjx,hj with
      | 0,_,hj =>
        simp [encTr,cellsOf] at hj
        subst hj
        have e1:(i * 3+0) % 3=0:=by omega
        have e2:(i * 3+0) / 3=i:=by omega
        rw [if_pos e1,e2]
        exact V.int _ _
      | 1,_,hj =>
        simp [encTr,cellsOf] at hj
        subst hj
        have e0:¬ (i * 3+1) % 3=0:=by omega
        have e1:(i * 3+1) % 3=1:=by omega
        have e2:(i * 3+1) / 3=i:=by omega
        rw [if_neg e0,if_pos e1,e2]
        exact V.int _ _
      | 2,_,hj =>
        simp [encTr,cellsOf] at hj
        subst hj
        have e0:¬ (i * 3+2) % 3=0:=by omega
        have e1:¬ (i * 3+2) % 3=1:=by omega
        have e2:(i * 3+2) / 3=i:=by omega
        rw [if_neg e0,if_neg e1,e2]
        exact V.int _ _
end Go.HL
end
