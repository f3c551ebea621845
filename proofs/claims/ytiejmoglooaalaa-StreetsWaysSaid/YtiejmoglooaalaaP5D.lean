/- A part of the proof. -/
import Derived.Test.YtiejmoglooaalaaP5C
set_option linter.unusedVariables false
set_option linter.unusedSimpArgs false
set_option linter.unnecessarySimpa false
section
open Go Go.HL
namespace Go.Proofs.Ytiejmoglooaalaa
set_option maxRecDepth 100000
open Go.Proofs.Try renaming prog → Tp
open Go.HL.HV renaming undef → Ud
section
variable {F:FuncId → Option (List HV → Option HV)}
noncomputable def B25:Code:=Try.f25.body.getD .skip
abbrev env25 (v0 v1 v2 v6 v7 v8 v9 v10:HV):Env:=[(0,v0),(1,v1),(2,v2),(6,v6),(7,v7),(8,v8),(9,v9),(10,v10)]
theorem ta_a_0 (ls:List HV) (n most:Int) :RunsTo Tp (plF F) 25 (sub [0] B25) [(0,.imm .arg 3 ls),(1,.i n),(2,.i most)] [] .normal ((plF F).keys 25) (env25 (.imm .arg 3 ls) (.i n) (.i most) (.imm .lit 3 []) Ud Ud Ud Ud) [] :=
  RunsTo.hin 0 60 [] fun kf hk=>⟨_,by kernel_rfl,.nil⟩
theorem ta_b_0 (ls:List HV) (n most:Int)  {y7 y8 y9 y10:HV}:RunsTo Tp (plF F) 25 (sub [1,0] B25) (env25 (.imm .arg 3 ls) (.i n) (.i most) (.imm .lit 3 []) y7 y8 y9 y10) [] .normal ((plF F).keys 25) (env25 (.imm .arg 3 ls) (.i n) (.i most) (.imm .lit 3 []) (.sl 0 0 0 none 0 3) y8 y9 y10) [.arr 3 [] true 0] :=
  RunsTo.hin 0 60 [] fun kf hk=>⟨_,by kernel_rfl,.nil⟩
theorem ta_c_0 (ls:List HV) (n most:Int)  (q:Nat) (os:List HV) {y8 y9 y10:HV}:RunsTo Tp (plF F) 25 (sub [1,1,0,0] B25) (env25 (.imm .arg 3 ls) (.i n) (.i most) (.imm .lit 3 []) (.sl 0 0 q none q 3) y8 y9 y10) [.arr 3 os true 0] .normal ((plF F).keys 25) (env25 (.imm .arg 3 ls) (.i n) (.i most) (.imm .lit 3 []) (.sl 0 0 q none q 3) (.i 0) y9 y10) [.arr 3 os true 0] :=
  RunsTo.hin 0 60 [] fun kf hk=>⟨_,by kernel_rfl,.nil⟩
theorem ta_l_0 (ls:List HV) (n most:Int)  (q:Nat) (os:List HV) (i:Nat) (a b w x y v:Int) {y9 y10:HV}(g0:(i:Int) < (ls.length:Int)) (g1:(i:Int) < most) (g2:idxV Tp 22 (.imm .arg 3 ls) (.i (i:Int))=some (.vptr (.agg [.i a,.i b,.i w]))) (g3:∀ kf,callN Tp (plF F) (kf+1) 24 [.i a,.i n] [.arr 3 os true 0]=some (.i x,[.arr 3 os true 0])) (g4:idxV Tp 22 (.imm .arg 3 ls) (.i (i:Int))=some (.vptr (.agg [.i a,.i b,.i w]))) (g5:∀ kf,callN Tp (plF F) (kf+1) 24 [.i b,.i n] [.arr 3 os true 0]=some (.i y,[.arr 3 os true 0])) (g6:idxV Tp 22 (.imm .arg 3 ls) (.i (i:Int))=some (.vptr (.agg [.i a,.i b,.i w]))) (gS5:∀ kf,((same (.i a) (.i a) && sameH ([.arr 3 os true 0]:Heap) [.arr 3 os true 0] && sameH ([.arr 3 os true 0,.arr 3 [.agg [.i 0,.i 0,.i 0]] true 0]:Heap) [.arr 3 os true 0,.arr 3 [.agg [.i 0,.i 0,.i 0]] true 0]) && (recL (callN Tp (plF F) (kf+1) 24 [.i a,.i n] [.arr 3 os true 0]) (callN Tp (plF F) (kf+1) 24 [.i a,.i n] [.arr 3 os true 0]) [.arr 3 os true 0] [.arr 3 os true 0] && (recL (callN Tp (plF F) (kf+1) 24 [.i a,.i n] [.arr 3 os true 0]) (callN Tp (plF F) (kf+1) 24 [.i a,.i n] [.arr 3 os true 0,.arr 3 [.agg [.i 0,.i 0,.i 0]] true 0]) [.arr 3 os true 0] [.arr 3 os true 0,.arr 3 [.agg [.i 0,.i 0,.i 0]] true 0] && ((same (.i b) (.i b) && sameH ([.arr 3 os true 0]:Heap) [.arr 3 os true 0] && sameH ([.arr 3 os true 0,.arr 3 [.agg [.i 0,.i 0,.i 0]] true 0]:Heap) [.arr 3 os true 0,.arr 3 [.agg [.i 0,.i 0,.i 0]] true 0]) && (recL (callN Tp (plF F) (kf+1) 24 [.i b,.i n] [.arr 3 os true 0]) (callN Tp (plF F) (kf+1) 24 [.i b,.i n] [.arr 3 os true 0]) [.arr 3 os true 0] [.arr 3 os true 0] && (recL (callN Tp (plF F) (kf+1) 24 [.i b,.i n] [.arr 3 os true 0]) (callN Tp (plF F) (kf+1) 24 [.i b,.i n] [.arr 3 os true 0,.arr 3 [.agg [.i 0,.i 0,.i 0]] true 0]) [.arr 3 os true 0] [.arr 3 os true 0,.arr 3 [.agg [.i 0,.i 0,.i 0]] true 0] && ((same (.i w) (.i w) && sameH ([.arr 3 os true 0]:Heap) [.arr 3 os true 0] && sameH ([.arr 3 os true 0,.arr 3 [.agg [.i 0,.i 0,.i 0]] true 0]:Heap) [.arr 3 os true 0,.arr 3 [.agg [.i 0,.i 0,.i 0]] true 0]) && true)))))))=true) (g8:w < 0) (g9:∀ kf,callN Tp (plF F) (kf+1) 24 [.i w,.i 1001] [.arr 3 os true 0,.arr 3 [.agg [.i x,.i y,.i w]] true 0]=some (.i v,[.arr 3 os true 0,.arr 3 [.agg [.i x,.i y,.i w]] true 0])) (g10:x=y):RunsTo Tp (plF F) 25 (sub [1,1,0,1,0,0] B25) (env25 (.imm .arg 3 ls) (.i n) (.i most) (.imm .lit 3 []) (.sl 0 0 q none q 3) (.i (i:Int)) y9 y10) [.arr 3 os true 0] .normal ((plF F).keys 25) (env25 (.imm .arg 3 ls) (.i n) (.i most) (.imm .lit 3 []) (.sl 0 0 q none q 3) (.i (IntKind.i64.wrap ((i:Int)+1))) (.ptr 1 0 0 1) y10) [.arr 3 os true 0,.arr 3 [.agg [.i x,.i y,.i v]] true 0] :=
  RunsTo.hin 0 60 [⟨3,3,.bool true,[.arr 3 os true 0]⟩,⟨3,7,.bool true,[.arr 3 os true 0]⟩,⟨5,2,.vptr (.agg [.i a,.i b,.i w]),[.arr 3 os true 0]⟩,⟨5,6,.i x,[.arr 3 os true 0]⟩,⟨5,9,.vptr (.agg [.i a,.i b,.i w]),[.arr 3 os true 0]⟩,⟨5,13,.i y,[.arr 3 os true 0]⟩,⟨5,16,.vptr (.agg [.i a,.i b,.i w]),[.arr 3 os true 0]⟩,⟨6,2,.bool true,[.arr 3 os true 0,.arr 3 [.agg [.i x,.i y,.i w]] true 0]⟩,⟨7,2,.i v,[.arr 3 os true 0,.arr 3 [.agg [.i x,.i y,.i w]] true 0]⟩,⟨8,4,.bool false,[.arr 3 os true 0,.arr 3 [.agg [.i x,.i y,.i v]] true 0]⟩] fun kf hk=>⟨_,by kernel_rfl,(oB [.arr 3 os true 0] (decide_eq_true g0) (oB [.arr 3 os true 0] (decide_eq_true g1) (oC (gS5 kf) (oP [.arr 3 os true 0] g2 (oC (g3 kf) (oP [.arr 3 os true 0] g4 (oC (g5 kf) (oP [.arr 3 os true 0] g6 (oB [.arr 3 os true 0,.arr 3 [.agg [.i x,.i y,.i w]] true 0] (decide_eq_true g8) (oC (g9 kf) (oB [.arr 3 os true 0,.arr 3 [.agg [.i x,.i y,.i v]] true 0] (congrArg not (decide_eq_true g10)) .nil)))))))))))⟩
theorem ta_l_1 (ls:List HV) (n most:Int)  (q:Nat) (os:List HV) (i:Nat) (a b w x y v:Int) {y9 y10:HV}(g0:(i:Int) < (ls.length:Int)) (g1:(i:Int) < most) (g2:idxV Tp 22 (.imm .arg 3 ls) (.i (i:Int))=some (.vptr (.agg [.i a,.i b,.i w]))) (g3:∀ kf,callN Tp (plF F) (kf+1) 24 [.i a,.i n] [.arr 3 os true 0]=some (.i x,[.arr 3 os true 0])) (g4:idxV Tp 22 (.imm .arg 3 ls) (.i (i:Int))=some (.vptr (.agg [.i a,.i b,.i w]))) (g5:∀ kf,callN Tp (plF F) (kf+1) 24 [.i b,.i n] [.arr 3 os true 0]=some (.i y,[.arr 3 os true 0])) (g6:idxV Tp 22 (.imm .arg 3 ls) (.i (i:Int))=some (.vptr (.agg [.i a,.i b,.i w]))) (gS5:∀ kf,((same (.i a) (.i a) && sameH ([.arr 3 os true 0]:Heap) [.arr 3 os true 0] && sameH ([.arr 3 os true 0,.arr 3 [.agg [.i 0,.i 0,.i 0]] true 0]:Heap) [.arr 3 os true 0,.arr 3 [.agg [.i 0,.i 0,.i 0]] true 0]) && (recL (callN Tp (plF F) (kf+1) 24 [.i a,.i n] [.arr 3 os true 0]) (callN Tp (plF F) (kf+1) 24 [.i a,.i n] [.arr 3 os true 0]) [.arr 3 os true 0] [.arr 3 os true 0] && (recL (callN Tp (plF F) (kf+1) 24 [.i a,.i n] [.arr 3 os true 0]) (callN Tp (plF F) (kf+1) 24 [.i a,.i n] [.arr 3 os true 0,.arr 3 [.agg [.i 0,.i 0,.i 0]] true 0]) [.arr 3 os true 0] [.arr 3 os true 0,.arr 3 [.agg [.i 0,.i 0,.i 0]] true 0] && ((same (.i b) (.i b) && sameH ([.arr 3 os true 0]:Heap) [.arr 3 os true 0] && sameH ([.arr 3 os true 0,.arr 3 [.agg [.i 0,.i 0,.i 0]] true 0]:Heap) [.arr 3 os true 0,.arr 3 [.agg [.i 0,.i 0,.i 0]] true 0]) && (recL (callN Tp (plF F) (kf+1) 24 [.i b,.i n] [.arr 3 os true 0]) (callN Tp (plF F) (kf+1) 24 [.i b,.i n] [.arr 3 os true 0]) [.arr 3 os true 0] [.arr 3 os true 0] && (recL (callN Tp (plF F) (kf+1) 24 [.i b,.i n] [.arr 3 os true 0]) (callN Tp (plF F) (kf+1) 24 [.i b,.i n] [.arr 3 os true 0,.arr 3 [.agg [.i 0,.i 0,.i 0]] true 0]) [.arr 3 os true 0] [.arr 3 os true 0,.arr 3 [.agg [.i 0,.i 0,.i 0]] true 0] && ((same (.i w) (.i w) && sameH ([.arr 3 os true 0]:Heap) [.arr 3 os true 0] && sameH ([.arr 3 os true 0,.arr 3 [.agg [.i 0,.i 0,.i 0]] true 0]:Heap) [.arr 3 os true 0,.arr 3 [.agg [.i 0,.i 0,.i 0]] true 0]) && true)))))))=true) (g8:w < 0) (g9:∀ kf,callN Tp (plF F) (kf+1) 24 [.i w,.i 1001] [.arr 3 os true 0,.arr 3 [.agg [.i x,.i y,.i w]] true 0]=some (.i v,[.arr 3 os true 0,.arr 3 [.agg [.i x,.i y,.i w]] true 0])) (g10:¬ (x=y)) (g11:appV [.arr 3 os true 0,.arr 3 [.agg [.i x,.i y,.i v]] true 0] 3 24 (.sl 0 0 q none q 3) [.agg [.i x,.i y,.i v]]=some (.sl 0 0 (q+1) none (q+1) 3,[.arr 3 (os ++ [.agg [.i x,.i y,.i v]]) true 0,.arr 3 [.agg [.i x,.i y,.i v]] true 0])):RunsTo Tp (plF F) 25 (sub [1,1,0,1,0,0] B25) (env25 (.imm .arg 3 ls) (.i n) (.i most) (.imm .lit 3 []) (.sl 0 0 q none q 3) (.i (i:Int)) y9 y10) [.arr 3 os true 0] .normal ((plF F).keys 25) (env25 (.imm .arg 3 ls) (.i n) (.i most) (.imm .lit 3 []) (.sl 0 0 (q+1) none (q+1) 3) (.i (IntKind.i64.wrap ((i:Int)+1))) (.ptr 1 0 0 1) y10) [.arr 3 (os ++ [.agg [.i x,.i y,.i v]]) true 0,.arr 3 [.agg [.i x,.i y,.i v]] true 0] :=
  RunsTo.hin 0 60 [⟨3,3,.bool true,[.arr 3 os true 0]⟩,⟨3,7,.bool true,[.arr 3 os true 0]⟩,⟨5,2,.vptr (.agg [.i a,.i b,.i w]),[.arr 3 os true 0]⟩,⟨5,6,.i x,[.arr 3 os true 0]⟩,⟨5,9,.vptr (.agg [.i a,.i b,.i w]),[.arr 3 os true 0]⟩,⟨5,13,.i y,[.arr 3 os true 0]⟩,⟨5,16,.vptr (.agg [.i a,.i b,.i w]),[.arr 3 os true 0]⟩,⟨6,2,.bool true,[.arr 3 os true 0,.arr 3 [.agg [.i x,.i y,.i w]] true 0]⟩,⟨7,2,.i v,[.arr 3 os true 0,.arr 3 [.agg [.i x,.i y,.i w]] true 0]⟩,⟨8,4,.bool true,[.arr 3 os true 0,.arr 3 [.agg [.i x,.i y,.i v]] true 0]⟩,⟨9,3,.sl 0 0 (q+1) none (q+1) 3,[.arr 3 (os ++ [.agg [.i x,.i y,.i v]]) true 0,.arr 3 [.agg [.i x,.i y,.i v]] true 0]⟩] fun kf hk=>⟨_,by kernel_rfl,(oB [.arr 3 os true 0] (decide_eq_true g0) (oB [.arr 3 os true 0] (decide_eq_true g1) (oC (gS5 kf) (oP [.arr 3 os true 0] g2 (oC (g3 kf) (oP [.arr 3 os true 0] g4 (oC (g5 kf) (oP [.arr 3 os true 0] g6 (oB [.arr 3 os true 0,.arr 3 [.agg [.i x,.i y,.i w]] true 0] (decide_eq_true g8) (oC (g9 kf) (oB [.arr 3 os true 0,.arr 3 [.agg [.i x,.i y,.i v]] true 0] (congrArg not (decide_eq_false g10)) (oC (g11) .nil))))))))))))⟩
theorem ta_l_2 (ls:List HV) (n most:Int)  (q:Nat) (os:List HV) (i:Nat) (a b w x y v:Int) {y9 y10:HV}(g0:(i:Int) < (ls.length:Int)) (g1:(i:Int) < most) (g2:idxV Tp 22 (.imm .arg 3 ls) (.i (i:Int))=some (.vptr (.agg [.i a,.i b,.i w]))) (g3:∀ kf,callN Tp (plF F) (kf+1) 24 [.i a,.i n] [.arr 3 os true 0]=some (.i x,[.arr 3 os true 0])) (g4:idxV Tp 22 (.imm .arg 3 ls) (.i (i:Int))=some (.vptr (.agg [.i a,.i b,.i w]))) (g5:∀ kf,callN Tp (plF F) (kf+1) 24 [.i b,.i n] [.arr 3 os true 0]=some (.i y,[.arr 3 os true 0])) (g6:idxV Tp 22 (.imm .arg 3 ls) (.i (i:Int))=some (.vptr (.agg [.i a,.i b,.i w]))) (gS5:∀ kf,((same (.i a) (.i a) && sameH ([.arr 3 os true 0]:Heap) [.arr 3 os true 0] && sameH ([.arr 3 os true 0,.arr 3 [.agg [.i 0,.i 0,.i 0]] true 0]:Heap) [.arr 3 os true 0,.arr 3 [.agg [.i 0,.i 0,.i 0]] true 0]) && (recL (callN Tp (plF F) (kf+1) 24 [.i a,.i n] [.arr 3 os true 0]) (callN Tp (plF F) (kf+1) 24 [.i a,.i n] [.arr 3 os true 0]) [.arr 3 os true 0] [.arr 3 os true 0] && (recL (callN Tp (plF F) (kf+1) 24 [.i a,.i n] [.arr 3 os true 0]) (callN Tp (plF F) (kf+1) 24 [.i a,.i n] [.arr 3 os true 0,.arr 3 [.agg [.i 0,.i 0,.i 0]] true 0]) [.arr 3 os true 0] [.arr 3 os true 0,.arr 3 [.agg [.i 0,.i 0,.i 0]] true 0] && ((same (.i b) (.i b) && sameH ([.arr 3 os true 0]:Heap) [.arr 3 os true 0] && sameH ([.arr 3 os true 0,.arr 3 [.agg [.i 0,.i 0,.i 0]] true 0]:Heap) [.arr 3 os true 0,.arr 3 [.agg [.i 0,.i 0,.i 0]] true 0]) && (recL (callN Tp (plF F) (kf+1) 24 [.i b,.i n] [.arr 3 os true 0]) (callN Tp (plF F) (kf+1) 24 [.i b,.i n] [.arr 3 os true 0]) [.arr 3 os true 0] [.arr 3 os true 0] && (recL (callN Tp (plF F) (kf+1) 24 [.i b,.i n] [.arr 3 os true 0]) (callN Tp (plF F) (kf+1) 24 [.i b,.i n] [.arr 3 os true 0,.arr 3 [.agg [.i 0,.i 0,.i 0]] true 0]) [.arr 3 os true 0] [.arr 3 os true 0,.arr 3 [.agg [.i 0,.i 0,.i 0]] true 0] && ((same (.i w) (.i w) && sameH ([.arr 3 os true 0]:Heap) [.arr 3 os true 0] && sameH ([.arr 3 os true 0,.arr 3 [.agg [.i 0,.i 0,.i 0]] true 0]:Heap) [.arr 3 os true 0,.arr 3 [.agg [.i 0,.i 0,.i 0]] true 0]) && true)))))))=true) (g8:¬ (w < 0)) (g9:1000 < w) (g10:∀ kf,callN Tp (plF F) (kf+1) 24 [.i w,.i 1001] [.arr 3 os true 0,.arr 3 [.agg [.i x,.i y,.i w]] true 0]=some (.i v,[.arr 3 os true 0,.arr 3 [.agg [.i x,.i y,.i w]] true 0])) (g11:x=y):RunsTo Tp (plF F) 25 (sub [1,1,0,1,0,0] B25) (env25 (.imm .arg 3 ls) (.i n) (.i most) (.imm .lit 3 []) (.sl 0 0 q none q 3) (.i (i:Int)) y9 y10) [.arr 3 os true 0] .normal ((plF F).keys 25) (env25 (.imm .arg 3 ls) (.i n) (.i most) (.imm .lit 3 []) (.sl 0 0 q none q 3) (.i (IntKind.i64.wrap ((i:Int)+1))) (.ptr 1 0 0 1) y10) [.arr 3 os true 0,.arr 3 [.agg [.i x,.i y,.i v]] true 0] :=
  RunsTo.hin 0 60 [⟨3,3,.bool true,[.arr 3 os true 0]⟩,⟨3,7,.bool true,[.arr 3 os true 0]⟩,⟨5,2,.vptr (.agg [.i a,.i b,.i w]),[.arr 3 os true 0]⟩,⟨5,6,.i x,[.arr 3 os true 0]⟩,⟨5,9,.vptr (.agg [.i a,.i b,.i w]),[.arr 3 os true 0]⟩,⟨5,13,.i y,[.arr 3 os true 0]⟩,⟨5,16,.vptr (.agg [.i a,.i b,.i w]),[.arr 3 os true 0]⟩,⟨6,2,.bool false,[.arr 3 os true 0,.arr 3 [.agg [.i x,.i y,.i w]] true 0]⟩,⟨6,6,.bool true,[.arr 3 os true 0,.arr 3 [.agg [.i x,.i y,.i w]] true 0]⟩,⟨7,2,.i v,[.arr 3 os true 0,.arr 3 [.agg [.i x,.i y,.i w]] true 0]⟩,⟨8,4,.bool false,[.arr 3 os true 0,.arr 3 [.agg [.i x,.i y,.i v]] true 0]⟩] fun kf hk=>⟨_,by kernel_rfl,(oB [.arr 3 os true 0] (decide_eq_true g0) (oB [.arr 3 os true 0] (decide_eq_true g1) (oC (gS5 kf) (oP [.arr 3 os true 0] g2 (oC (g3 kf) (oP [.arr 3 os true 0] g4 (oC (g5 kf) (oP [.arr 3 os true 0] g6 (oB [.arr 3 os true 0,.arr 3 [.agg [.i x,.i y,.i w]] true 0] (decide_eq_false g8) (oB [.arr 3 os true 0,.arr 3 [.agg [.i x,.i y,.i w]] true 0] (decide_eq_true g9) (oC (g10 kf) (oB [.arr 3 os true 0,.arr 3 [.agg [.i x,.i y,.i v]] true 0] (congrArg not (decide_eq_true g11)) .nil))))))))))))⟩
theorem ta_l_3 (ls:List HV) (n most:Int)  (q:Nat) (os:List HV) (i:Nat) (a b w x y v:Int) {y9 y10:HV}(g0:(i:Int) < (ls.length:Int)) (g1:(i:Int) < most) (g2:idxV Tp 22 (.imm .arg 3 ls) (.i (i:Int))=some (.vptr (.agg [.i a,.i b,.i w]))) (g3:∀ kf,callN Tp (plF F) (kf+1) 24 [.i a,.i n] [.arr 3 os true 0]=some (.i x,[.arr 3 os true 0])) (g4:idxV Tp 22 (.imm .arg 3 ls) (.i (i:Int))=some (.vptr (.agg [.i a,.i b,.i w]))) (g5:∀ kf,callN Tp (plF F) (kf+1) 24 [.i b,.i n] [.arr 3 os true 0]=some (.i y,[.arr 3 os true 0])) (g6:idxV Tp 22 (.imm .arg 3 ls) (.i (i:Int))=some (.vptr (.agg [.i a,.i b,.i w]))) (gS5:∀ kf,((same (.i a) (.i a) && sameH ([.arr 3 os true 0]:Heap) [.arr 3 os true 0] && sameH ([.arr 3 os true 0,.arr 3 [.agg [.i 0,.i 0,.i 0]] true 0]:Heap) [.arr 3 os true 0,.arr 3 [.agg [.i 0,.i 0,.i 0]] true 0]) && (recL (callN Tp (plF F) (kf+1) 24 [.i a,.i n] [.arr 3 os true 0]) (callN Tp (plF F) (kf+1) 24 [.i a,.i n] [.arr 3 os true 0]) [.arr 3 os true 0] [.arr 3 os true 0] && (recL (callN Tp (plF F) (kf+1) 24 [.i a,.i n] [.arr 3 os true 0]) (callN Tp (plF F) (kf+1) 24 [.i a,.i n] [.arr 3 os true 0,.arr 3 [.agg [.i 0,.i 0,.i 0]] true 0]) [.arr 3 os true 0] [.arr 3 os true 0,.arr 3 [.agg [.i 0,.i 0,.i 0]] true 0] && ((same (.i b) (.i b) && sameH ([.arr 3 os true 0]:Heap) [.arr 3 os true 0] && sameH ([.arr 3 os true 0,.arr 3 [.agg [.i 0,.i 0,.i 0]] true 0]:Heap) [.arr 3 os true 0,.arr 3 [.agg [.i 0,.i 0,.i 0]] true 0]) && (recL (callN Tp (plF F) (kf+1) 24 [.i b,.i n] [.arr 3 os true 0]) (callN Tp (plF F) (kf+1) 24 [.i b,.i n] [.arr 3 os true 0]) [.arr 3 os true 0] [.arr 3 os true 0] && (recL (callN Tp (plF F) (kf+1) 24 [.i b,.i n] [.arr 3 os true 0]) (callN Tp (plF F) (kf+1) 24 [.i b,.i n] [.arr 3 os true 0,.arr 3 [.agg [.i 0,.i 0,.i 0]] true 0]) [.arr 3 os true 0] [.arr 3 os true 0,.arr 3 [.agg [.i 0,.i 0,.i 0]] true 0] && ((same (.i w) (.i w) && sameH ([.arr 3 os true 0]:Heap) [.arr 3 os true 0] && sameH ([.arr 3 os true 0,.arr 3 [.agg [.i 0,.i 0,.i 0]] true 0]:Heap) [.arr 3 os true 0,.arr 3 [.agg [.i 0,.i 0,.i 0]] true 0]) && true)))))))=true) (g8:¬ (w < 0)) (g9:1000 < w) (g10:∀ kf,callN Tp (plF F) (kf+1) 24 [.i w,.i 1001] [.arr 3 os true 0,.arr 3 [.agg [.i x,.i y,.i w]] true 0]=some (.i v,[.arr 3 os true 0,.arr 3 [.agg [.i x,.i y,.i w]] true 0])) (g11:¬ (x=y)) (g12:appV [.arr 3 os true 0,.arr 3 [.agg [.i x,.i y,.i v]] true 0] 3 24 (.sl 0 0 q none q 3) [.agg [.i x,.i y,.i v]]=some (.sl 0 0 (q+1) none (q+1) 3,[.arr 3 (os ++ [.agg [.i x,.i y,.i v]]) true 0,.arr 3 [.agg [.i x,.i y,.i v]] true 0])):RunsTo Tp (plF F) 25 (sub [1,1,0,1,0,0] B25) (env25 (.imm .arg 3 ls) (.i n) (.i most) (.imm .lit 3 []) (.sl 0 0 q none q 3) (.i (i:Int)) y9 y10) [.arr 3 os true 0] .normal ((plF F).keys 25) (env25 (.imm .arg 3 ls) (.i n) (.i most) (.imm .lit 3 []) (.sl 0 0 (q+1) none (q+1) 3) (.i (IntKind.i64.wrap ((i:Int)+1))) (.ptr 1 0 0 1) y10) [.arr 3 (os ++ [.agg [.i x,.i y,.i v]]) true 0,.arr 3 [.agg [.i x,.i y,.i v]] true 0] :=
  RunsTo.hin 0 60 [⟨3,3,.bool true,[.arr 3 os true 0]⟩,⟨3,7,.bool true,[.arr 3 os true 0]⟩,⟨5,2,.vptr (.agg [.i a,.i b,.i w]),[.arr 3 os true 0]⟩,⟨5,6,.i x,[.arr 3 os true 0]⟩,⟨5,9,.vptr (.agg [.i a,.i b,.i w]),[.arr 3 os true 0]⟩,⟨5,13,.i y,[.arr 3 os true 0]⟩,⟨5,16,.vptr (.agg [.i a,.i b,.i w]),[.arr 3 os true 0]⟩,⟨6,2,.bool false,[.arr 3 os true 0,.arr 3 [.agg [.i x,.i y,.i w]] true 0]⟩,⟨6,6,.bool true,[.arr 3 os true 0,.arr 3 [.agg [.i x,.i y,.i w]] true 0]⟩,⟨7,2,.i v,[.arr 3 os true 0,.arr 3 [.agg [.i x,.i y,.i w]] true 0]⟩,⟨8,4,.bool true,[.arr 3 os true 0,.arr 3 [.agg [.i x,.i y,.i v]] true 0]⟩,⟨9,3,.sl 0 0 (q+1) none (q+1) 3,[.arr 3 (os ++ [.agg [.i x,.i y,.i v]]) true 0,.arr 3 [.agg [.i x,.i y,.i v]] true 0]⟩] fun kf hk=>⟨_,by kernel_rfl,(oB [.arr 3 os true 0] (decide_eq_true g0) (oB [.arr 3 os true 0] (decide_eq_true g1) (oC (gS5 kf) (oP [.arr 3 os true 0] g2 (oC (g3 kf) (oP [.arr 3 os true 0] g4 (oC (g5 kf) (oP [.arr 3 os true 0] g6 (oB [.arr 3 os true 0,.arr 3 [.agg [.i x,.i y,.i w]] true 0] (decide_eq_false g8) (oB [.arr 3 os true 0,.arr 3 [.agg [.i x,.i y,.i w]] true 0] (decide_eq_true g9) (oC (g10 kf) (oB [.arr 3 os true 0,.arr 3 [.agg [.i x,.i y,.i v]] true 0] (congrArg not (decide_eq_false g11)) (oC (g12) .nil)))))))))))))⟩
theorem ta_l_4 (ls:List HV) (n most:Int)  (q:Nat) (os:List HV) (i:Nat) (a b w x y v:Int) {y9 y10:HV}(g0:(i:Int) < (ls.length:Int)) (g1:(i:Int) < most) (g2:idxV Tp 22 (.imm .arg 3 ls) (.i (i:Int))=some (.vptr (.agg [.i a,.i b,.i w]))) (g3:∀ kf,callN Tp (plF F) (kf+1) 24 [.i a,.i n] [.arr 3 os true 0]=some (.i x,[.arr 3 os true 0])) (g4:idxV Tp 22 (.imm .arg 3 ls) (.i (i:Int))=some (.vptr (.agg [.i a,.i b,.i w]))) (g5:∀ kf,callN Tp (plF F) (kf+1) 24 [.i b,.i n] [.arr 3 os true 0]=some (.i y,[.arr 3 os true 0])) (g6:idxV Tp 22 (.imm .arg 3 ls) (.i (i:Int))=some (.vptr (.agg [.i a,.i b,.i w]))) (gS5:∀ kf,((same (.i a) (.i a) && sameH ([.arr 3 os true 0]:Heap) [.arr 3 os true 0] && sameH ([.arr 3 os true 0,.arr 3 [.agg [.i 0,.i 0,.i 0]] true 0]:Heap) [.arr 3 os true 0,.arr 3 [.agg [.i 0,.i 0,.i 0]] true 0]) && (recL (callN Tp (plF F) (kf+1) 24 [.i a,.i n] [.arr 3 os true 0]) (callN Tp (plF F) (kf+1) 24 [.i a,.i n] [.arr 3 os true 0]) [.arr 3 os true 0] [.arr 3 os true 0] && (recL (callN Tp (plF F) (kf+1) 24 [.i a,.i n] [.arr 3 os true 0]) (callN Tp (plF F) (kf+1) 24 [.i a,.i n] [.arr 3 os true 0,.arr 3 [.agg [.i 0,.i 0,.i 0]] true 0]) [.arr 3 os true 0] [.arr 3 os true 0,.arr 3 [.agg [.i 0,.i 0,.i 0]] true 0] && ((same (.i b) (.i b) && sameH ([.arr 3 os true 0]:Heap) [.arr 3 os true 0] && sameH ([.arr 3 os true 0,.arr 3 [.agg [.i 0,.i 0,.i 0]] true 0]:Heap) [.arr 3 os true 0,.arr 3 [.agg [.i 0,.i 0,.i 0]] true 0]) && (recL (callN Tp (plF F) (kf+1) 24 [.i b,.i n] [.arr 3 os true 0]) (callN Tp (plF F) (kf+1) 24 [.i b,.i n] [.arr 3 os true 0]) [.arr 3 os true 0] [.arr 3 os true 0] && (recL (callN Tp (plF F) (kf+1) 24 [.i b,.i n] [.arr 3 os true 0]) (callN Tp (plF F) (kf+1) 24 [.i b,.i n] [.arr 3 os true 0,.arr 3 [.agg [.i 0,.i 0,.i 0]] true 0]) [.arr 3 os true 0] [.arr 3 os true 0,.arr 3 [.agg [.i 0,.i 0,.i 0]] true 0] && ((same (.i w) (.i w) && sameH ([.arr 3 os true 0]:Heap) [.arr 3 os true 0] && sameH ([.arr 3 os true 0,.arr 3 [.agg [.i 0,.i 0,.i 0]] true 0]:Heap) [.arr 3 os true 0,.arr 3 [.agg [.i 0,.i 0,.i 0]] true 0]) && true)))))))=true) (g8:¬ (w < 0)) (g9:¬ (1000 < w)) (g10:x=y):RunsTo Tp (plF F) 25 (sub [1,1,0,1,0,0] B25) (env25 (.imm .arg 3 ls) (.i n) (.i most) (.imm .lit 3 []) (.sl 0 0 q none q 3) (.i (i:Int)) y9 y10) [.arr 3 os true 0] .normal ((plF F).keys 25) (env25 (.imm .arg 3 ls) (.i n) (.i most) (.imm .lit 3 []) (.sl 0 0 q none q 3) (.i (IntKind.i64.wrap ((i:Int)+1))) (.ptr 1 0 0 1) y10) [.arr 3 os true 0,.arr 3 [.agg [.i x,.i y,.i w]] true 0] :=
  RunsTo.hin 0 60 [⟨3,3,.bool true,[.arr 3 os true 0]⟩,⟨3,7,.bool true,[.arr 3 os true 0]⟩,⟨5,2,.vptr (.agg [.i a,.i b,.i w]),[.arr 3 os true 0]⟩,⟨5,6,.i x,[.arr 3 os true 0]⟩,⟨5,9,.vptr (.agg [.i a,.i b,.i w]),[.arr 3 os true 0]⟩,⟨5,13,.i y,[.arr 3 os true 0]⟩,⟨5,16,.vptr (.agg [.i a,.i b,.i w]),[.arr 3 os true 0]⟩,⟨6,2,.bool false,[.arr 3 os true 0,.arr 3 [.agg [.i x,.i y,.i w]] true 0]⟩,⟨6,6,.bool false,[.arr 3 os true 0,.arr 3 [.agg [.i x,.i y,.i w]] true 0]⟩,⟨8,4,.bool false,[.arr 3 os true 0,.arr 3 [.agg [.i x,.i y,.i w]] true 0]⟩] fun kf hk=>⟨_,by kernel_rfl,(oB [.arr 3 os true 0] (decide_eq_true g0) (oB [.arr 3 os true 0] (decide_eq_true g1) (oC (gS5 kf) (oP [.arr 3 os true 0] g2 (oC (g3 kf) (oP [.arr 3 os true 0] g4 (oC (g5 kf) (oP [.arr 3 os true 0] g6 (oB [.arr 3 os true 0,.arr 3 [.agg [.i x,.i y,.i w]] true 0] (decide_eq_false g8) (oB [.arr 3 os true 0,.arr 3 [.agg [.i x,.i y,.i w]] true 0] (decide_eq_false g9) (oB [.arr 3 os true 0,.arr 3 [.agg [.i x,.i y,.i w]] true 0] (congrArg not (decide_eq_true g10)) .nil)))))))))))⟩
theorem ta_l_5 (ls:List HV) (n most:Int)  (q:Nat) (os:List HV) (i:Nat) (a b w x y v:Int) {y9 y10:HV}(g0:(i:Int) < (ls.length:Int)) (g1:(i:Int) < most) (g2:idxV Tp 22 (.imm .arg 3 ls) (.i (i:Int))=some (.vptr (.agg [.i a,.i b,.i w]))) (g3:∀ kf,callN Tp (plF F) (kf+1) 24 [.i a,.i n] [.arr 3 os true 0]=some (.i x,[.arr 3 os true 0])) (g4:idxV Tp 22 (.imm .arg 3 ls) (.i (i:Int))=some (.vptr (.agg [.i a,.i b,.i w]))) (g5:∀ kf,callN Tp (plF F) (kf+1) 24 [.i b,.i n] [.arr 3 os true 0]=some (.i y,[.arr 3 os true 0])) (g6:idxV Tp 22 (.imm .arg 3 ls) (.i (i:Int))=some (.vptr (.agg [.i a,.i b,.i w]))) (gS5:∀ kf,((same (.i a) (.i a) && sameH ([.arr 3 os true 0]:Heap) [.arr 3 os true 0] && sameH ([.arr 3 os true 0,.arr 3 [.agg [.i 0,.i 0,.i 0]] true 0]:Heap) [.arr 3 os true 0,.arr 3 [.agg [.i 0,.i 0,.i 0]] true 0]) && (recL (callN Tp (plF F) (kf+1) 24 [.i a,.i n] [.arr 3 os true 0]) (callN Tp (plF F) (kf+1) 24 [.i a,.i n] [.arr 3 os true 0]) [.arr 3 os true 0] [.arr 3 os true 0] && (recL (callN Tp (plF F) (kf+1) 24 [.i a,.i n] [.arr 3 os true 0]) (callN Tp (plF F) (kf+1) 24 [.i a,.i n] [.arr 3 os true 0,.arr 3 [.agg [.i 0,.i 0,.i 0]] true 0]) [.arr 3 os true 0] [.arr 3 os true 0,.arr 3 [.agg [.i 0,.i 0,.i 0]] true 0] && ((same (.i b) (.i b) && sameH ([.arr 3 os true 0]:Heap) [.arr 3 os true 0] && sameH ([.arr 3 os true 0,.arr 3 [.agg [.i 0,.i 0,.i 0]] true 0]:Heap) [.arr 3 os true 0,.arr 3 [.agg [.i 0,.i 0,.i 0]] true 0]) && (recL (callN Tp (plF F) (kf+1) 24 [.i b,.i n] [.arr 3 os true 0]) (callN Tp (plF F) (kf+1) 24 [.i b,.i n] [.arr 3 os true 0]) [.arr 3 os true 0] [.arr 3 os true 0] && (recL (callN Tp (plF F) (kf+1) 24 [.i b,.i n] [.arr 3 os true 0]) (callN Tp (plF F) (kf+1) 24 [.i b,.i n] [.arr 3 os true 0,.arr 3 [.agg [.i 0,.i 0,.i 0]] true 0]) [.arr 3 os true 0] [.arr 3 os true 0,.arr 3 [.agg [.i 0,.i 0,.i 0]] true 0] && ((same (.i w) (.i w) && sameH ([.arr 3 os true 0]:Heap) [.arr 3 os true 0] && sameH ([.arr 3 os true 0,.arr 3 [.agg [.i 0,.i 0,.i 0]] true 0]:Heap) [.arr 3 os true 0,.arr 3 [.agg [.i 0,.i 0,.i 0]] true 0]) && true)))))))=true) (g8:¬ (w < 0)) (g9:¬ (1000 < w)) (g10:¬ (x=y)) (g11:appV [.arr 3 os true 0,.arr 3 [.agg [.i x,.i y,.i w]] true 0] 3 24 (.sl 0 0 q none q 3) [.agg [.i x,.i y,.i w]]=some (.sl 0 0 (q+1) none (q+1) 3,[.arr 3 (os ++ [.agg [.i x,.i y,.i w]]) true 0,.arr 3 [.agg [.i x,.i y,.i w]] true 0])):RunsTo Tp (plF F) 25 (sub [1,1,0,1,0,0] B25) (env25 (.imm .arg 3 ls) (.i n) (.i most) (.imm .lit 3 []) (.sl 0 0 q none q 3) (.i (i:Int)) y9 y10) [.arr 3 os true 0] .normal ((plF F).keys 25) (env25 (.imm .arg 3 ls) (.i n) (.i most) (.imm .lit 3 []) (.sl 0 0 (q+1) none (q+1) 3) (.i (IntKind.i64.wrap ((i:Int)+1))) (.ptr 1 0 0 1) y10) [.arr 3 (os ++ [.agg [.i x,.i y,.i w]]) true 0,.arr 3 [.agg [.i x,.i y,.i w]] true 0] :=
  RunsTo.hin 0 60 [⟨3,3,.bool true,[.arr 3 os true 0]⟩,⟨3,7,.bool true,[.arr 3 os true 0]⟩,⟨5,2,.vptr (.agg [.i a,.i b,.i w]),[.arr 3 os true 0]⟩,⟨5,6,.i x,[.arr 3 os true 0]⟩,⟨5,9,.vptr (.agg [.i a,.i b,.i w]),[.arr 3 os true 0]⟩,⟨5,13,.i y,[.arr 3 os true 0]⟩,⟨5,16,.vptr (.agg [.i a,.i b,.i w]),[.arr 3 os true 0]⟩,⟨6,2,.bool false,[.arr 3 os true 0,.arr 3 [.agg [.i x,.i y,.i w]] true 0]⟩,⟨6,6,.bool false,[.arr 3 os true 0,.arr 3 [.agg [.i x,.i y,.i w]] true 0]⟩,⟨8,4,.bool true,[.arr 3 os true 0,.arr 3 [.agg [.i x,.i y,.i w]] true 0]⟩,⟨9,3,.sl 0 0 (q+1) none (q+1) 3,[.arr 3 (os ++ [.agg [.i x,.i y,.i w]]) true 0,.arr 3 [.agg [.i x,.i y,.i w]] true 0]⟩] fun kf hk=>⟨_,by kernel_rfl,(oB [.arr 3 os true 0] (decide_eq_true g0) (oB [.arr 3 os true 0] (decide_eq_true g1) (oC (gS5 kf) (oP [.arr 3 os true 0] g2 (oC (g3 kf) (oP [.arr 3 os true 0] g4 (oC (g5 kf) (oP [.arr 3 os true 0] g6 (oB [.arr 3 os true 0,.arr 3 [.agg [.i x,.i y,.i w]] true 0] (decide_eq_false g8) (oB [.arr 3 os true 0,.arr 3 [.agg [.i x,.i y,.i w]] true 0] (decide_eq_false g9) (oB [.arr 3 os true 0,.arr 3 [.agg [.i x,.i y,.i w]] true 0] (congrArg not (decide_eq_false g10)) (oC (g11) .nil))))))))))))⟩
theorem ta_l_6 (ls:List HV) (n most:Int)  (q:Nat) (os:List HV) (i:Nat) (a b w x y v:Int) {y9 y10:HV}(g0:(i:Int) < (ls.length:Int)) (g1:¬ ((i:Int) < most)):RunsTo Tp (plF F) 25 (sub [1,1,0,1,0,0] B25) (env25 (.imm .arg 3 ls) (.i n) (.i most) (.imm .lit 3 []) (.sl 0 0 q none q 3) (.i (i:Int)) y9 y10) [.arr 3 os true 0] (.exit 0) ((plF F).keys 25) (env25 (.imm .arg 3 ls) (.i n) (.i most) (.imm .lit 3 []) (.sl 0 0 q none q 3) (.i (i:Int)) y9 y10) [.arr 3 os true 0] :=
  RunsTo.hin 0 60 [⟨3,3,.bool true,[.arr 3 os true 0]⟩,⟨3,7,.bool false,[.arr 3 os true 0]⟩] fun kf hk=>⟨_,by kernel_rfl,(oB [.arr 3 os true 0] (decide_eq_true g0) (oB [.arr 3 os true 0] (decide_eq_false g1) .nil))⟩
theorem ta_l_7 (ls:List HV) (n most:Int)  (q:Nat) (os:List HV) (i:Nat) (a b w x y v:Int) {y9 y10:HV}(g0:¬ ((i:Int) < (ls.length:Int))):RunsTo Tp (plF F) 25 (sub [1,1,0,1,0,0] B25) (env25 (.imm .arg 3 ls) (.i n) (.i most) (.imm .lit 3 []) (.sl 0 0 q none q 3) (.i (i:Int)) y9 y10) [.arr 3 os true 0] (.exit 0) ((plF F).keys 25) (env25 (.imm .arg 3 ls) (.i n) (.i most) (.imm .lit 3 []) (.sl 0 0 q none q 3) (.i (i:Int)) y9 y10) [.arr 3 os true 0] :=
  RunsTo.hin 0 60 [⟨3,3,.bool false,[.arr 3 os true 0]⟩] fun kf hk=>⟨_,by kernel_rfl,(oB [.arr 3 os true 0] (decide_eq_false g0) .nil)⟩
theorem ta_d_0 (ls:List HV) (n most:Int)  (q:Nat) (os:List HV) {y8 y9 y10:HV}:RunsTo Tp (plF F) 25 (sub [1,1,1,0,0] B25) (env25 (.imm .arg 3 ls) (.i n) (.i most) (.imm .lit 3 []) (.sl 0 0 q none q 3) y8 y9 y10) [.arr 3 os true 0] .normal ((plF F).keys 25) (env25 (.imm .arg 3 ls) (.i n) (.i most) (.imm .lit 3 []) (.sl 0 0 q none q 3) y8 y9 (.i 1)) [.arr 3 os true 0] :=
  RunsTo.hin 0 60 [] fun kf hk=>⟨_,by kernel_rfl,.nil⟩
theorem ta_m_0 (ls:List HV) (n most:Int)  (q:Nat) (os:List HV) (i:Nat) (v:Int) {y8 y9:HV}(g0:(i:Int) < n) (g1:∀ kf,callN Tp (plF F) (kf+1) 24 [.i (IntKind.i64.wrap (7 * (i:Int))),.i 12] [.arr 3 os true 0]=some (.i v,[.arr 3 os true 0])) (g2:appV [.arr 3 os true 0] 3 24 (.sl 0 0 q none q 3) [.agg [.i (IntKind.i64.wrap ((i:Int) - 1)),.i (i:Int),.i v]]=some (.sl 0 0 (q+1) none (q+1) 3,[.arr 3 (os ++ [.agg [.i (IntKind.i64.wrap ((i:Int) - 1)),.i (i:Int),.i v]]) true 0])):RunsTo Tp (plF F) 25 (sub [1,1,1,0,1,0,0] B25) (env25 (.imm .arg 3 ls) (.i n) (.i most) (.imm .lit 3 []) (.sl 0 0 q none q 3) y8 y9 (.i (i:Int))) [.arr 3 os true 0] .normal ((plF F).keys 25) (env25 (.imm .arg 3 ls) (.i n) (.i most) (.imm .lit 3 []) (.sl 0 0 (q+1) none (q+1) 3) y8 y9 (.i (IntKind.i64.wrap ((i:Int)+1)))) [.arr 3 (os ++ [.agg [.i (IntKind.i64.wrap ((i:Int) - 1)),.i (i:Int),.i v]]) true 0] :=
  RunsTo.hin 0 60 [⟨11,2,.bool true,[.arr 3 os true 0]⟩,⟨13,6,.i v,[.arr 3 os true 0]⟩,⟨13,9,.sl 0 0 (q+1) none (q+1) 3,[.arr 3 (os ++ [.agg [.i (IntKind.i64.wrap ((i:Int) - 1)),.i (i:Int),.i v]]) true 0]⟩] fun kf hk=>⟨_,by kernel_rfl,(oB [.arr 3 os true 0] (decide_eq_true g0) (oC (g1 kf) (oC (g2) .nil)))⟩
theorem ta_m_1 (ls:List HV) (n most:Int)  (q:Nat) (os:List HV) (i:Nat) (v:Int) {y8 y9:HV}(g0:¬ ((i:Int) < n)):RunsTo Tp (plF F) 25 (sub [1,1,1,0,1,0,0] B25) (env25 (.imm .arg 3 ls) (.i n) (.i most) (.imm .lit 3 []) (.sl 0 0 q none q 3) y8 y9 (.i (i:Int))) [.arr 3 os true 0] (.exit 2) ((plF F).keys 25) (env25 (.imm .arg 3 ls) (.i n) (.i most) (.imm .lit 3 []) (.sl 0 0 q none q 3) y8 y9 (.i (i:Int))) [.arr 3 os true 0] :=
  RunsTo.hin 0 60 [⟨11,2,.bool false,[.arr 3 os true 0]⟩] fun kf hk=>⟨_,by kernel_rfl,(oB [.arr 3 os true 0] (decide_eq_false g0) .nil)⟩
theorem ta_z_0 (ls:List HV) (n most:Int)  (q:Nat) (os:List HV) {y8 y9 y10:HV}:RunsTo Tp (plF F) 25 (sub [1,1,1,1] B25) (env25 (.imm .arg 3 ls) (.i n) (.i most) (.imm .lit 3 []) (.sl 0 0 q none q 3) y8 y9 y10) [.arr 3 os true 0] .ret ((plF F).keys 25) (env25 (.imm .arg 3 ls) (.i n) (.i most) (.sl 0 0 q none q 3) (.sl 0 0 q none q 3) y8 y9 y10) [.arr 3 os true 0] :=
  RunsTo.hin 0 60 [] fun kf hk=>⟨_,by kernel_rfl,.nil⟩
end
end Go.Proofs.Ytiejmoglooaalaa
end
section
open Go Go.HL
namespace Go.Proofs.Ytiejmoglooaalaa
set_option linter.unusedSectionVars false
open Go.Proofs.Try renaming prog → Tp
open Go.HL.HV renaming undef → Ud
def tamW (w:Int):Int:=if w < 0 ∨ 1000 < w then modW w 1001 else w
def tam1 (n:Int) (s:St):St:=(modW s.1 n,modW s.2.1 n,tamW s.2.2)
def tamL (n:Int) (l:List St):List St:=(l.map (tam1 n)).filter fun s=>decide (s.1 ≠ s.2.1)
def pathL (i:Nat):List St:=(List.range i).map fun (k:Nat)=>((k:Int),(k:Int)+1,modW (7 * ((k:Int)+1)) 12)
def tamT (n:Int) (l:List St) (most:Int):List St:=tamL n (l.take most.toNat) ++ pathL (n.toNat - 1)
def tame25:List HV → Option HV:=f3 kS kI kI fun l n most=>if (1 ≤ n∧n ≤ 100)∧0 ≤ most∧most ≤ 100 then some (.own 3 ((tamT n l most).map encT)) else none
theorem tamL_snoc (n:Int) {l:List St} {i:Nat} (hi:i < l.length):tamL n (l.take (i+1))=tamL n (l.take i) ++ if (tam1 n (l.getD i (0,0,0))).1 ≠ (tam1 n (l.getD i (0,0,0))).2.1 then [tam1 n (l.getD i (0,0,0))] else []:=by
  have e:l.take (i+1)=l.take i ++ [l.getD i (0,0,0)]:=by
    rw [List.take_succ_eq_append_getElem hi,getD_at hi]
  rw [e,tamL,List.map_append,List.filter_append,tamL]
  congr 1
  by_cases c:(tam1 n (l.getD i (0,0,0))).1 ≠ (tam1 n (l.getD i (0,0,0))).2.1
  · rw [if_pos c]
    exact List.filter_cons_of_pos (decide_eq_true c)
  · rw [if_neg c]
    exact List.filter_cons_of_neg (by simpa using c)
theorem tamL_len (n:Int) (l:List St):(tamL n l).length ≤ l.length:=by
  have:=List.length_filter_le (fun s:St=>decide (s.1 ≠ s.2.1)) (l.map (tam1 n))
  rw [List.length_map] at this
  exact this
theorem pathL_snoc (i:Nat):pathL (i+1)=pathL i ++ [((i:Int),(i:Int)+1,modW (7 * ((i:Int)+1)) 12)]:=by rw [pathL,List.range_succ,List.map_append]; rfl
theorem pathL_len (i:Nat):(pathL i).length=i:=by rw [pathL,List.length_map,List.length_range]
def prTa:FuncId → Option (List HV → Option HV):=fun g=>if g == 24 then some mod24 else none
theorem soundTa (n:Nat):CallSound Tp (callN Tp (plF prTa) n):=sound_prim _ (fun g f h=>by
  unfold prTa at h
  split at h
  · rename_i hg; cases h; rw [eq_of_beq hg]; exact mod_ok
  · cases h) n
theorem mod_at {F:FuncId → Option (List HV → Option HV)} (h24:F 24=some mod24) (a:Int) {n:Int} (hn:0 < n∧n < 9223372036854775808) (H:Heap):∀ k,callN Tp (plF F) (k+1) 24 [.int .i64 a,.int .i64 n] H=some (.int .i64 (modW a n),H) :=
  at2 (pol':=plF F) (g:=24) (c1:=kI) (c2:=kI) (f:=fun a n=>if 0 < n∧n < 9223372036854775808 then some (.int .i64 (modW a n)) else none) h24 (ShI _ a) (ShI _ n) (if_pos hn)
theorem res25:Try.f25.results.toList=[.tmp 6]:=by kernel_rfl
theorem app_one {H X:Heap} {o:List St} (hl:o.length ≤ 900) (s:St):appV ([bS o] ++ X) 3 24 (.sl 0 0 o.length none o.length 3) [encT s]=some (.sl 0 0 (o.length+1) none (o.length+1) 3,[bS (o ++ [s])] ++ X):=by
  have:=app_sts (H:=[bS o] ++ X) (b:=0) (o:=o) (xs:=[s]) rfl (by simp; omega) (by simp)
  rw [List.length_append,List.length_singleton] at this
  exact this
theorem tam_rec {F:FuncId → Option (List HV → Option HV)} (O:List St) {a b n x y:Int} {kf:Nat} (e1:∀ H,callN Tp (plF F) (kf+1) 24 [.int .i64 a,.int .i64 n] H=some (.int .i64 x,H)) (e2:∀ H,callN Tp (plF F) (kf+1) 24 [.int .i64 b,.int .i64 n] H=some (.int .i64 y,H)) (w:Int) :
    ((same (.int .i64 a) (.int .i64 a) && sameH ([.arr 3 (O.map encT) true 0]:Heap) [.arr 3 (O.map encT) true 0] && sameH ([.arr 3 (O.map encT) true 0,.arr 3 [.agg [.int .i64 0,.int .i64 0,.int .i64 0]] true 0]:Heap) [.arr 3 (O.map encT) true 0,.arr 3 [.agg [.int .i64 0,.int .i64 0,.int .i64 0]] true 0]) && (recL (callN Tp (plF F) (kf+1) 24 [.int .i64 a,.int .i64 n] [.arr 3 (O.map encT) true 0]) (callN Tp (plF F) (kf+1) 24 [.int .i64 a,.int .i64 n] [.arr 3 (O.map encT) true 0]) [.arr 3 (O.map encT) true 0] [.arr 3 (O.map encT) true 0] && (recL (callN Tp (plF F) (kf+1) 24 [.int .i64 a,.int .i64 n] [.arr 3 (O.map encT) true 0]) (callN Tp (plF F) (kf+1) 24 [.int .i64 a,.int .i64 n] [.arr 3 (O.map encT) true 0,.arr 3 [.agg [.int .i64 0,.int .i64 0,.int .i64 0]] true 0]) [.arr 3 (O.map encT) true 0] [.arr 3 (O.map encT) true 0,.arr 3 [.agg [.int .i64 0,.int .i64 0,.int .i64 0]] true 0] && ((same (.int .i64 b) (.int .i64 b) && sameH ([.arr 3 (O.map encT) true 0]:Heap) [.arr 3 (O.map encT) true 0] && sameH ([.arr 3 (O.map encT) true 0,.arr 3 [.agg [.int .i64 0,.int .i64 0,.int .i64 0]] true 0]:Heap) [.arr 3 (O.map encT) true 0,.arr 3 [.agg [.int .i64 0,.int .i64 0,.int .i64 0]] true 0]) && (recL (callN Tp (plF F) (kf+1) 24 [.int .i64 b,.int .i64 n] [.arr 3 (O.map encT) true 0]) (callN Tp (plF F) (kf+1) 24 [.int .i64 b,.int .i64 n] [.arr 3 (O.map encT) true 0]) [.arr 3 (O.map encT) true 0] [.arr 3 (O.map encT) true 0] && (recL (callN Tp (plF F) (kf+1) 24 [.int .i64 b,.int .i64 n] [.arr 3 (O.map encT) true 0]) (callN Tp (plF F) (kf+1) 24 [.int .i64 b,.int .i64 n] [.arr 3 (O.map encT) true 0,.arr 3 [.agg [.int .i64 0,.int .i64 0,.int .i64 0]] true 0]) [.arr 3 (O.map encT) true 0] [.arr 3 (O.map encT) true 0,.arr 3 [.agg [.int .i64 0,.int .i64 0,.int .i64 0]] true 0] && ((same (.int .i64 w) (.int .i64 w) && sameH ([.arr 3 (O.map encT) true 0]:Heap) [.arr 3 (O.map encT) true 0] && sameH ([.arr 3 (O.map encT) true 0,.arr 3 [.agg [.int .i64 0,.int .i64 0,.int .i64 0]] true 0]:Heap) [.arr 3 (O.map encT) true 0,.arr 3 [.agg [.int .i64 0,.int .i64 0,.int .i64 0]] true 0]) && true)))))))=true:=by
  simp only [e1,e2,recL]
  simp [same,sameH,sameL,same_mapL same_st]
theorem tame_round {l:List St} {n most:Int} (hn:1 ≤ n∧n ≤ 100) (hm:most ≤ 100) {i:Nat} (hi:i < l.length) (hi2:(i:Int) < most) :
    ∃ B s,RunsTo Tp (plF prTa) 25 (sub [1,1,0,1,0,0] B25) ((env25 (.imm .arg 3 (l.map encT)) (.int .i64 n) (.int .i64 most) (.imm .lit 3 []) (.sl 0 0 (tamL n (l.take (i))).length none (tamL n (l.take (i))).length 3) (.int .i64 ((i:Nat):Int)) Ud Ud)) [bS (tamL n (l.take (i)))] .normal ((plF prTa).keys 25) ((env25 (.imm .arg 3 (l.map encT)) (.int .i64 n) (.int .i64 most) (.imm .lit 3 []) (.sl 0 0 (tamL n (l.take (i+1))).length none (tamL n (l.take (i+1))).length 3) (.int .i64 ((i+1:Nat):Int)) (.ptr 1 0 0 1) Ud)) ([bS (tamL n (l.take (i+1)))] ++ [B])∧B=bT s:=by
  have hgs:=gs hi
  have hlen:=tamL_len n (l.take i)
  rw [List.length_take] at hlen
  have hsn:=tamL_snoc n hi
  generalize l.getD i (0,0,0)=s at *
  obtain ⟨a,b,w⟩:=s
  have lm:((l.map encT).length:Int)=(l.length:Int):=by rw [List.length_map]
  have m1:=fun H=>mod_at (F:=prTa) (by kernel_rfl) a (n:=n) (by omega) H
  have m2:=fun H=>mod_at (F:=prTa) (by kernel_rfl) b (n:=n) (by omega) H
  have m3:=fun H=>mod_at (F:=prTa) (by kernel_rfl) w (n:=1001) (by omega) H
  generalize hO:tamL n (l.take i)=O at *
  have hw:IntKind.i64.wrap ((i:Int)+1)=((i+1:Nat):Int):=wrap_succ (by omega)
  refine ⟨bT (tam1 n (a,b,w)),tam1 n (a,b,w),?_,rfl⟩
  rw [hsn]
  by_cases c:modW a n=modW b n
  · rw [if_neg (by show ¬ (modW a n ≠ modW b n); simpa using c),List.append_nil]
    by_cases c1:w < 0
    · have s:=ta_l_0 (F:=prTa) (l.map encT) n most O.length (O.map encT) i a b w (modW a n) (modW b n) (modW w 1001) (y9:=Ud) (y10:=Ud) (by omega) hi2 hgs (m1 _) hgs (m2 _) hgs (fun kf=>tam_rec O (fun H=>m1 H kf) (fun H=>m2 H kf) w) c1 (m3 _) c
      rw [hw] at s
      rw [tam1,tamW,if_pos (.inl c1)]
      exact s
    · by_cases c2:1000 < w
      · have s:=ta_l_2 (F:=prTa) (l.map encT) n most O.length (O.map encT) i a b w (modW a n) (modW b n) (modW w 1001) (y9:=Ud) (y10:=Ud) (by omega) hi2 hgs (m1 _) hgs (m2 _) hgs (fun kf=>tam_rec O (fun H=>m1 H kf) (fun H=>m2 H kf) w) c1 c2 (m3 _) c
        rw [hw] at s
        rw [tam1,tamW,if_pos (.inr c2)]
        exact s
      · have s:=ta_l_4 (F:=prTa) (l.map encT) n most O.length (O.map encT) i a b w (modW a n) (modW b n) 0 (y9:=Ud) (y10:=Ud) (by omega) hi2 hgs (m1 _) hgs (m2 _) hgs (fun kf=>tam_rec O (fun H=>m1 H kf) (fun H=>m2 H kf) w) c1 c2 c
        rw [hw] at s
        rw [tam1,tamW,if_neg (fun h=>h.elim c1 c2)]
        exact s
  · rw [if_pos (by show modW a n ≠ modW b n; exact c)]
    have hl2:(O ++ [tam1 n (a,b,w)]).length=O.length+1:=by simp
    have eB:∀ s,bS (O ++ [s])=.arr 3 (O.map encT ++ [encT s]) true 0:=fun s=>by rw [bS,List.map_append]; rfl
    rw [hl2]
    by_cases c1:w < 0
    · have ap:=app_one (H:=[]) (X:=[bT (modW a n,modW b n,modW w 1001)]) (o:=O) (by omega) (modW a n,modW b n,modW w 1001)
      have e:tam1 n (a,b,w)=(modW a n,modW b n,modW w 1001):=by rw [tam1,tamW,if_pos (.inl c1)]
      rw [e]
      rw [eB] at ap ⊢
      have s:=ta_l_1 (F:=prTa) (l.map encT) n most O.length (O.map encT) i a b w (modW a n) (modW b n) (modW w 1001) (y9:=Ud) (y10:=Ud) (by omega) hi2 hgs (m1 _) hgs (m2 _) hgs (fun kf=>tam_rec O (fun H=>m1 H kf) (fun H=>m2 H kf) w) c1 (m3 _) c ap
      rw [hw] at s
      exact s
    · by_cases c2:1000 < w
      · have ap:=app_one (H:=[]) (X:=[bT (modW a n,modW b n,modW w 1001)]) (o:=O) (by omega) (modW a n,modW b n,modW w 1001)
        have e:tam1 n (a,b,w)=(modW a n,modW b n,modW w 1001):=by rw [tam1,tamW,if_pos (.inr c2)]
        rw [e]
        rw [eB] at ap ⊢
        have s:=ta_l_3 (F:=prTa) (l.map encT) n most O.length (O.map encT) i a b w (modW a n) (modW b n) (modW w 1001) (y9:=Ud) (y10:=Ud) (by omega) hi2 hgs (m1 _) hgs (m2 _) hgs (fun kf=>tam_rec O (fun H=>m1 H kf) (fun H=>m2 H kf) w) c1 c2 (m3 _) c ap
        rw [hw] at s
        exact s
      · have ap:=app_one (H:=[]) (X:=[bT (modW a n,modW b n,w)]) (o:=O) (by omega) (modW a n,modW b n,w)
        have e:tam1 n (a,b,w)=(modW a n,modW b n,w):=by rw [tam1,tamW,if_neg (fun h=>h.elim c1 c2)]
        rw [e]
        rw [eB] at ap ⊢
        have s:=ta_l_5 (F:=prTa) (l.map encT) n most O.length (O.map encT) i a b w (modW a n) (modW b n) 0 (y9:=Ud) (y10:=Ud) (by omega) hi2 hgs (m1 _) hgs (m2 _) hgs (fun kf=>tam_rec O (fun H=>m1 H kf) (fun H=>m2 H kf) w) c1 c2 c ap
        rw [hw] at s
        exact s
theorem tame_ok:PrimOk Tp 25 tame25:=by
  refine primOk_pure (pol:=plF prTa) (fn:=Try.f25) (cd:=B25) follows_mixed soundTa (by kernel_rfl) (by kernel_rfl) (fnok prTa _ _ (by kernel_rfl)) (by kernel_rfl) ?_
  intro args res h
  obtain ⟨l,n,most,rfl,hq⟩:=f3_inv h
  split at hq
  case isFalse=>cases hq
  rename_i hc
  obtain ⟨hn,hm0,hm⟩:=hc
  cases hq
  have lm:((l.map encT).length:Int)=(l.length:Int):=by rw [List.length_map]
  have a:=ta_a_0 (F:=prTa) (l.map encT) n most
  have b:=ta_b_0 (F:=prTa) (l.map encT) n most (y7:=Ud) (y8:=Ud) (y9:=Ud) (y10:=Ud)
  have c:=ta_c_0 (F:=prTa) (l.map encT) n most 0 [] (y8:=Ud) (y9:=Ud) (y10:=Ud)
  have hg:∀ i,i ≤ min l.length most.toNat → (tamL n (l.take i)).length ≤ 100:=fun i hi=>by
    have:=tamL_len n (l.take i)
    rw [List.length_take] at this
    omega
  have out:∀ i,i=min l.length most.toNat → RunsTo Tp (plF prTa) 25 (sub [1,1,0,1,0,0] B25) ((env25 (.imm .arg 3 (l.map encT)) (.int .i64 n) (.int .i64 most) (.imm .lit 3 []) (.sl 0 0 (tamL n (l.take (i))).length none (tamL n (l.take (i))).length 3) (.int .i64 ((i:Nat):Int)) Ud Ud)) [bS (tamL n (l.take (i)))] (.exit 0) ((plF prTa).keys 25) ((env25 (.imm .arg 3 (l.map encT)) (.int .i64 n) (.int .i64 most) (.imm .lit 3 []) (.sl 0 0 (tamL n (l.take (i))).length none (tamL n (l.take (i))).length 3) (.int .i64 ((i:Nat):Int)) Ud Ud)) [bS (tamL n (l.take (i)))]:=fun i hi=>by
    by_cases c1:(i:Int) < (l.length:Int)
    · exact ta_l_6 (F:=prTa) (l.map encT) n most (tamL n (l.take i)).length ((tamL n (l.take i)).map encT) i 0 0 0 0 0 0 (y9:=Ud) (y10:=Ud) (by omega) (by omega)
    · exact ta_l_7 (F:=prTa) (l.map encT) n most (tamL n (l.take i)).length ((tamL n (l.take i)).map encT) i 0 0 0 0 0 0 (y9:=Ud) (y10:=Ud) (by omega)
  obtain ⟨x,E',H',r,rfl,rfl,rfl⟩:=countI (pol':=plF prTa) (f:=25) (b:=sub [1,1,0,1,0,0] B25) (c:=sub [1,1,0,1,0] B25) (I:=fun i e H=>e=(env25 (.imm .arg 3 (l.map encT)) (.int .i64 n) (.int .i64 most) (.imm .lit 3 []) (.sl 0 0 (tamL n (l.take (i))).length none (tamL n (l.take (i))).length 3) (.int .i64 ((i:Nat):Int)) Ud Ud)∧H=[bS (tamL n (l.take (i)))])
    (Q:=fun x E' H'=>x=.exit 0∧E'=(env25 (.imm .arg 3 (l.map encT)) (.int .i64 n) (.int .i64 most) (.imm .lit 3 []) (.sl 0 0 (tamL n (l.take (min l.length most.toNat))).length none (tamL n (l.take (min l.length most.toNat))).length 3) (.int .i64 ((min l.length most.toNat:Nat):Int)) Ud Ud)∧H'=[bS (tamL n (l.take (min l.length most.toNat)))]) (min l.length most.toNat)
    (by
      rintro i hi e H ⟨rfl,rfl⟩
      obtain ⟨B,s,h1,rfl⟩:=tame_round (l:=l) (n:=n) (most:=most) hn hm (i:=i) (by omega) (by omega)
      refine ⟨_,_,h1,by kernel_rfl,?_⟩
      exact gc_back (H:=[bS (tamL n (l.take (i+1)))]) (X:=[bT s]) (by show max 0 (max 0 0) ≤ 1; decide) (by show max 0 (max 0 (max 0 (max 0 (max 1 (max 0 (max 0 (max 0 0))))))) ≤ 1; decide))
    (by
      rintro e H ⟨rfl,rfl⟩
      exact ⟨_,_,_,out _ rfl,by simp,rfl,rfl,rfl⟩)
    (by kernel_rfl) (by rintro i e H ⟨rfl,_⟩; kernel_rfl) (e:=(env25 (.imm .arg 3 (l.map encT)) (.int .i64 n) (.int .i64 most) (.imm .lit 3 []) (.sl 0 0 (tamL n (l.take (0))).length none (tamL n (l.take (0))).length 3) (.int .i64 ((0:Nat):Int)) Ud Ud)) (H:=[bS (tamL n (l.take (0)))]) ⟨rfl,rfl⟩
  have hO:=hg _ (Nat.le_refl _)
  have eO:tamL n (l.take (min l.length most.toNat))=tamL n (l.take most.toNat):=by
    congr 1
    rw [List.take_eq_take_iff]; omega
  rw [eO] at r hO
  have d:=ta_d_0 (F:=prTa) (l.map encT) n most (tamL n (l.take most.toNat)).length ((tamL n (l.take most.toNat)).map encT) (y8:=.int .i64 ((min l.length most.toNat:Nat):Int)) (y9:=Ud) (y10:=Ud)
  unfold tamT
  generalize tamL n (l.take most.toNat)=O at *
  have hPl:∀ i,(O ++ pathL i).length=O.length+i:=fun i=>by rw [List.length_append,pathL_len]
  have m12:=fun a H=>mod_at (F:=prTa) (by kernel_rfl) a (n:=12) (by omega) H
  have r2:=count (pol':=plF prTa) (f:=25) (E:=fun i=>(env25 (.imm .arg 3 (l.map encT)) (.int .i64 n) (.int .i64 most) (.imm .lit 3 []) (.sl 0 0 (O ++ pathL (i)).length none (O ++ pathL (i)).length 3) Ud Ud (.int .i64 ((i+1:Nat):Int)))) (Hs:=fun i=>[bS (O ++ pathL (i))]) (n.toNat - 1) (E0:=fun i=>(env25 (.imm .arg 3 (l.map encT)) (.int .i64 n) (.int .i64 most) (.imm .lit 3 []) (.sl 0 0 (O ++ pathL (i+1)).length none (O ++ pathL (i+1)).length 3) Ud Ud (.int .i64 ((i+1+1:Nat):Int)))) (H1:=fun i=>[bS (O ++ pathL (i+1))])
    (fun i hi=>by
      have ap:=app_one (H:=[]) (X:=[]) (o:=O ++ pathL i) (by rw [hPl]; omega) ((i:Int),(i:Int)+1,modW (7 * ((i:Int)+1)) 12)
      rw [List.append_nil,List.append_nil,List.append_assoc,← pathL_snoc] at ap
      have w1:IntKind.i64.wrap (7 * ((i+1:Nat):Int))=7 * ((i:Int)+1):=by rw [wrap_id (by omega) (by omega)]; omega
      have w2:IntKind.i64.wrap (((i+1:Nat):Int) - 1)=(i:Int):=by rw [wrap_id (by omega) (by omega)]; omega
      have w3:(((i+1:Nat):Int))=(i:Int)+1:=by omega
      have s:=ta_m_0 (F:=prTa) (l.map encT) n most (O ++ pathL i).length ((O ++ pathL i).map encT) (i+1) (modW (7 * ((i:Int)+1)) 12) (y8:=Ud) (y9:=Ud) (by omega) (by rw [w1]; exact m12 _ _) (by
        rw [w2,w3]
        have e:(O ++ pathL i).map encT ++ [.agg [.int .i64 (i:Int),.int .i64 ((i:Int)+1),.int .i64 (modW (7 * ((i:Int)+1)) 12)]]=(O ++ pathL (i+1)).map encT:=by
          rw [pathL_snoc,← List.append_assoc,List.map_append (l₁:=O ++ pathL i)]; rfl
        rw [e]
        exact ap)
      rw [wrap_succ (by omega),w2] at s
      have e:(O ++ pathL i).map encT ++ [.agg [.int .i64 (i:Int),.int .i64 ((i+1:Nat):Int),.int .i64 (modW (7 * ((i:Int)+1)) 12)]]=(O ++ pathL (i+1)).map encT:=by
        rw [pathL_snoc,← List.append_assoc,List.map_append (l₁:=O ++ pathL i)]; rfl
      rw [e] at s
      have e2:(O ++ pathL (i+1)).length=(O ++ pathL i).length+1:=by rw [hPl,hPl]; rfl
      rw [e2]
      exact s) (fun i _=>by kernel_rfl) (fun i _=>gc_eq _ rfl) (ta_m_1 (F:=prTa) (l.map encT) n most (O ++ pathL (n.toNat - 1)).length ((O ++ pathL (n.toNat - 1)).map encT) (n.toNat - 1+1) 0 (y8:=Ud) (y9:=Ud) (by omega)) (by simp) (c:=sub [1,1,1,0,1,0] B25) (by kernel_rfl) (fun i _=>by kernel_rfl)
  have e0:O ++ pathL 0=O:=List.append_nil _
  simp only [e0] at r2
  have z:=ta_z_0 (F:=prTa) (l.map encT) n most (O ++ pathL (n.toNat - 1)).length ((O ++ pathL (n.toNat - 1)).map encT) (y10:=.int .i64 ((n.toNat - 1+1:Nat):Int)) (y8:=Ud) (y9:=Ud)
  refine ⟨_,_,_,.sl 0 0 (O ++ pathL (n.toNat - 1)).length none (O ++ pathL (n.toNat - 1)).length 3,sq (a) (sq (b) (sq (sq (c) (bke (c:=sub [1,1,0,1] B25) (lpi (e0:=(env25 (.imm .arg 3 (l.map encT)) (.int .i64 n) (.int .i64 most) (.imm .lit 3 []) (.sl 0 0 (tamL n (l.take (0))).length none (tamL n (l.take (0))).length 3) (.int .i64 ((0:Nat):Int)) Ud Ud)) r (b:=sub [1,1,0,1,0,0] B25))) (c:=sub [1,1,0] B25)) (sq (sq (d) (bke (c:=sub [1,1,1,0,1] B25) (lpi (e0:=(env25 (.imm .arg 3 (l.map encT)) (.int .i64 n) (.int .i64 most) (.imm .lit 3 []) (.sl 0 0 (O).length none (O).length 3) (.int .i64 ((min l.length most.toNat:Nat):Int)) Ud (.int .i64 ((0+1:Nat):Int)))) r2 (b:=sub [1,1,1,0,1,0,0] B25))) (c:=sub [1,1,1,0] B25)) (z) (c:=sub [1,1,1] B25)) (c:=sub [1,1] B25)) (c:=sub [1] B25)) (c:=B25),by simp,by simp only [resultsV,res25]; rfl,?_⟩
  exact res_sts (b:=0) rfl rfl
end Go.Proofs.Ytiejmoglooaalaa
end
section
open Go Go.HL
namespace Go.Proofs.Ytiejmoglooaalaa
set_option linter.unusedSectionVars false
theorem modW_rng (a:Int) {n:Int} (h:0 < n) (h2:n < 4611686018427387904):0 ≤ modW a n∧modW a n < n:=by
  exact modW_bounds a n h (by omega)
theorem cnt16:∀ m:Nat,1 ≤ m∧m ≤ 16 → ((List.range 16).filter fun (v:Nat)=>decide (v=0 ∨ (m:Int) ≤ (v:Int))).length=17 - m:=by
  have:∀ m:Fin 17,1 ≤ m.val → ((List.range 16).filter fun (v:Nat)=>decide (v=0 ∨ (m.val:Int) ≤ (v:Int))).length=17 - m.val:=by decide +kernel
  exact fun m hm=>this ⟨m,by omega⟩ hm.1
theorem cnt16r:∀ m r:Nat,(1 ≤ m∧m ≤ 16) → (1 ≤ r∧r < m) → ((List.range 16).filter fun (v:Nat)=>decide (v=0 ∨ (m:Int) ≤ (v:Int) ∨ v=r)).length=18 - m:=by
  have:∀ m r:Fin 17,1 ≤ m.val → 1 ≤ r.val → r.val < m.val → ((List.range 16).filter fun (v:Nat)=>decide (v=0 ∨ (m.val:Int) ≤ (v:Int) ∨ v=r.val)).length=18 - m.val:=by decide +kernel
  exact fun m r hm hr=>this ⟨m,by omega⟩ ⟨r,by omega⟩ hm.1 hr.1 hr.2
section
variable {n:Int} {l:List St} (hnet:netB n l=true)
include hnet
theorem lb_zero {t:List Int} (ht:∀ k ∈ t,0 ≤ k∧k < (l.length:Int)):lb l t 0=0:=by
  have:=lb_lo (endB_net hnet) ht (v:=0) (by omega)
  omega
theorem rank_all {t:List Int} (ht:∀ k ∈ t,0 ≤ k∧k < (l.length:Int)) (h:∀ v,0 ≤ v → v < n → Cn l t 0 v):((tkT l t).length:Int)=n - 1:=by
  have he:=endB_net hnet
  obtain ⟨⟨n1,n2⟩,_⟩:=netB_ends hnet
  have h1:rt (labT l t) ≤ ((List.range 16).filter fun (v:Nat)=>decide (v=0 ∨ n ≤ (v:Int))).length:=by
    unfold rt
    rw [← List.countP_eq_length_filter,← List.countP_eq_length_filter]
    refine List.countP_mono_left fun v hv h3=>?_
    have hv:=List.mem_range.1 hv
    have h3:lb l t (v:Int)=(v:Int):=of_decide_eq_true h3
    refine decide_eq_true ?_
    by_cases c:n ≤ (v:Int)
    · exact .inr c
    · left
      have h4:=cn_lb he ht (h (v:Int) (by omega) (by omega))
      rw [lb_zero hnet ht] at h4
      omega
  have h2:=cnt16 n.toNat (by omega)
  rw [show ((n.toNat:Nat):Int)=n by omega] at h2
  have h3:=tk_rank he ht
  have h4:=rank_lt hnet ht
  omega
theorem conn_all (h:∀ v,0 ≤ v → v < n → Cn l (startT l.length) 0 v):connB n l=true:=by
  have h1:=rank_all hnet (t:=ordT l) (fun k hk=>ordT_mem.1 hk) fun v h0 h1=>(h v h0 h1).mono fun k hk=>ordT_mem.2 (startT_mem.1 hk)
  exact decide_eq_true h1
theorem all_zero {t:List Int} (ht:∀ k ∈ t,0 ≤ k∧k < (l.length:Int)) (h:((tkT l t).length:Int)=n - 1) {v:Int} (h0:0 ≤ v) (h1:v < n):lb l t v=0:=by
  have he:=endB_net hnet
  obtain ⟨⟨n1,n2⟩,_⟩:=netB_ends hnet
  have hE:∀ k,0 ≤ k∧k < (l.length:Int) → sA l k < n∧sB l k < n:=fun k hk=>by have:=ends_net hnet hk; omega
  have hv:=lb_lo he ht (v:=v) (by omega)
  by_cases c:lb l t v=0
  · exact c
  · exfalso
    generalize hr:lb l t v=r at *
    have h2:((List.range 16).filter fun (v:Nat)=>decide (v=0 ∨ n ≤ (v:Int) ∨ v=r.toNat)).length ≤ rt (labT l t):=by
      unfold rt
      rw [← List.countP_eq_length_filter,← List.countP_eq_length_filter]
      refine List.countP_mono_left fun w hw h3=>?_
      have hw:=List.mem_range.1 hw
      have h3:=of_decide_eq_true h3
      have hwr:0 ≤ (w:Int)∧(w:Int) < 16:=by omega
      refine decide_eq_true (show lb l t (w:Int)=(w:Int) from ?_)
      rcases h3 with e | e | e
      · subst e; exact lb_zero hnet ht
      · have h4:=lb_lo he ht hwr
        have h5:=cn_out hE ht (lb_cn he ht hwr)
        omega
      · have:(w:Int)=r:=by omega
        rw [this]; exact hv.2.2
    have h3:=cnt16r n.toNat r.toNat (by omega) (by omega)
    rw [show ((n.toNat:Nat):Int)=n by omega] at h3
    have h4:=tk_rank he ht
    omega
theorem conn_cn (hc:connB n l=true) {u v:Int} (hu:0 ≤ u∧u < n) (hv:0 ≤ v∧v < n):Cn l (treeT l) u v:=by
  have he:=endB_net hnet
  obtain ⟨⟨n1,n2⟩,_⟩:=netB_ends hnet
  have hT:=first_tr hnet hc
  have h0:((tkT l (treeT l)).length:Int)=n - 1:=by rw [hT.fo]; exact hT.ln
  exact (lb_iff he hT.rg (by omega) (by omega)).1 (by rw [all_zero hnet hT.rg h0 hu.1 hu.2,all_zero hnet hT.rg h0 hv.1 hv.2])
theorem ord_le {i j:Nat} (hij:i ≤ j) (hj:j < (ordT l).length):wOf l ((ordT l).getD i 0) ≤ wOf l ((ordT l).getD j 0):=by
  rcases Nat.lt_or_eq_of_le hij with c | c
  · have hs:(ordT l).Pairwise (ltK l):=ordN_sorted l l.length
    have:=List.pairwise_iff_getElem.1 hs i j (by omega) hj c
    rw [getD_at (by omega),getD_at hj]
    unfold ltK at this
    omega
  · rw [c]; exact Int.le_refl _
theorem nar_cn (hc:connB n l=true) {u v:Int} (hu:0 ≤ u∧u < n) (hv:0 ≤ v∧v < n) :
    ∃ x,narT n l u v=(x,0)∧rnarO l u v=(x,true)∧0 ≤ x∧∀ y,0 ≤ y → (x ≤ y ↔ Cn l (loW l y (startT l.length)) u v):=by
  have he:=endB_net hnet
  obtain ⟨⟨n1,n2⟩,_⟩:=netB_ends hnet
  have ho:∀ k ∈ ordT l,0 ≤ k∧k < (l.length:Int):=fun k hk=>ordT_mem.1 hk
  have hot:∀ i,∀ k ∈ (ordT l).take i,0 ≤ k∧k < (l.length:Int):=fun i k hk=>ho k (List.mem_of_mem_take hk)
  have hol:=ordT_len l
  have hu6:0 ≤ u∧u < 16:=by omega
  have hv6:0 ≤ v∧v < 16:=by omega
  cases hP:narP l u v with
  | none =>
    exfalso
    have h:=fN_none hP l.length (Nat.zero_le _) (by omega)
    refine of_decide_eq_false h ?_
    rw [List.take_of_length_le (by omega)]
    exact cn_lb he ho ((conn_cn hnet hc hu hv).mono fun k hk=>ordT_mem.2 (tree_in hk))
  | some i =>
    obtain ⟨_,h2,h3,h4⟩:=fN_some hP
    have hcn:Cn l ((ordT l).take i) u v:=(lb_iff he (hot i) hu6 hv6).1 (of_decide_eq_true h3)
    have hx0:0 ≤ sW l i:=by
      rw [sW]
      split
      · exact Int.le_refl _
      · exact (w_rng hnet (ho _ (mem_getD 0 (by omega)))).1
    refine ⟨sW l i,?_,by rw [rnarO,hP],hx0,fun y hy=>?_⟩
    · rw [narT,if_pos ⟨hnet,hu,hv⟩,narO,hP]
    constructor
    · intro hle
      refine hcn.mono fun k hk=>?_
      obtain ⟨p,hp,rfl⟩:=List.getElem_of_mem hk
      rw [List.length_take] at hp
      rw [List.getElem_take]
      have h5:=ord_le hnet (i:=p) (j:=i - 1) (by omega) (by omega)
      rw [getD_at (by omega)] at h5
      rw [sW,if_neg (by omega)] at hle
      exact lo_mem.2 ⟨startT_mem.2 (ho _ (List.getElem_mem _)),by omega⟩
    · intro hy2
      rcases Nat.eq_zero_or_pos i with c | c
      · rw [sW,if_pos c]; exact hy
      · rcases Int.lt_or_le y (sW l i) with d | d
        · exfalso
          have h5:=h4 (i - 1) (Nat.zero_le _) (by omega)
          refine of_decide_eq_false h5 (cn_lb he (hot (i - 1)) (hy2.mono fun k hk=>?_))
          obtain ⟨k1,k2⟩:=lo_mem.1 hk
          obtain ⟨p,hp,rfl⟩:=List.getElem_of_mem (ordT_mem.2 (startT_mem.1 k1))
          rw [sW,if_neg (by omega)] at d
          have hpi:p < i - 1:=by
            rcases Nat.lt_or_ge p (i - 1) with q | q
            · exact q
            · have h6:=ord_le hnet (i:=i - 1) (j:=p) q hp
              rw [getD_at hp] at h6
              omega
          have:((ordT l).take (i - 1))[p]'(by rw [List.length_take]; omega)=(ordT l)[p]:=List.getElem_take
          rw [← this]
          exact List.getElem_mem _
        · exact d
theorem lo_tree (hc:connB n l=true) {y u v:Int}:Cn l (loW l y (startT l.length)) u v ↔ Cn l (loW l y (treeT l)) u v:=by
  have hT:=first_tr hnet hc
  constructor
  · intro h
    induction h with
    | refl v=>exact .refl v
    | edge hk =>
      obtain ⟨h1,h2⟩:=lo_mem.1 hk
      refine (loc_way hnet hT (first_loc hnet) (startT_mem.1 h1)).mono fun z hz=>?_
      obtain ⟨h3,h4⟩:=lo_mem.1 hz
      exact lo_mem.2 ⟨h3,by omega⟩
    | symm _ ih=>exact .symm ih
    | trans _ _ a b=>exact .trans a b
  · intro h
    exact h.mono fun k hk=>lo_mem.2 ⟨startT_mem.2 (hT.rg k (lo_mem.1 hk).1),(lo_mem.1 hk).2⟩
end
theorem tam_mem {n:Int} {l:List St} {s:St} (h:s ∈ tamL n l) (hn:0 < n) (hn2:n ≤ 100):(0 ≤ s.1∧s.1 < n)∧(0 ≤ s.2.1∧s.2.1 < n)∧s.1 ≠ s.2.1∧0 ≤ s.2.2∧s.2.2 ≤ 1000:=by
  obtain ⟨h1,h2⟩:=List.mem_filter.1 h
  obtain ⟨r,_,rfl⟩:=List.mem_map.1 h1
  have h2:=of_decide_eq_true h2
  have a:=modW_rng r.1 hn (by omega)
  have b:=modW_rng r.2.1 hn (by omega)
  have c:=modW_rng r.2.2 (n:=1001) (by omega) (by omega)
  refine ⟨a,b,h2,?_⟩
  show 0 ≤ tamW r.2.2∧tamW r.2.2 ≤ 1000
  unfold tamW
  split <;> omega
theorem path_mem {m:Nat} {s:St} (h:s ∈ pathL m):∃ k:Nat,k < m∧s=((k:Int),(k:Int)+1,modW (7 * ((k:Int)+1)) 12):=by
  obtain ⟨k,hk,rfl⟩:=List.mem_map.1 h
  exact ⟨k,List.mem_range.1 hk,rfl⟩
theorem tam_len (n:Int) (l:List St) (most:Int):(tamT n l most).length ≤ most.toNat+(n.toNat - 1):=by
  have:=tamL_len n (l.take most.toNat)
  rw [List.length_take] at this
  rw [tamT,List.length_append,pathL_len]
  omega
theorem tam_net {n:Int} (hn:1 ≤ n∧n ≤ 16) (l:List St) {most:Int} (hm:0 ≤ most∧most ≤ 44):netB n (tamT n l most)=true:=by
  have hl:=tam_len n l most
  simp only [netB,Bool.and_eq_true,List.all_eq_true,decide_eq_true_eq,stB]
  refine ⟨fun s hs=>?_,hn,by omega⟩
  rcases List.mem_append.1 hs with h | h
  · have:=tam_mem h (by omega) (by omega)
    omega
  · obtain ⟨k,hk,rfl⟩:=path_mem h
    have:=modW_rng (7 * ((k:Int)+1)) (n:=12) (by omega) (by omega)
    simp only
    omega
theorem tam_path {n:Int} {l:List St} {most:Int} {v:Nat} (hv:v < n.toNat - 1):(tamT n l most).getD ((tamL n (l.take most.toNat)).length+v) (0,0,0)=((v:Int),(v:Int)+1,modW (7 * ((v:Int)+1)) 12):=by
  rw [tamT,List.getD,List.getElem?_append_right (by omega),show (tamL n (l.take most.toNat)).length+v - (tamL n (l.take most.toNat)).length=v by omega]
  simp [pathL,hv]
theorem tam_conn {n:Int} (hn:1 ≤ n∧n ≤ 16) (l:List St) {most:Int} (hm:0 ≤ most∧most ≤ 44):connB n (tamT n l most)=true:=by
  have hnet:=tam_net hn l hm
  refine conn_all hnet fun v h0 h1=>?_
  have key:∀ k:Nat,(k:Int) < n → Cn (tamT n l most) (startT (tamT n l most).length) 0 (k:Int):=by
    intro k
    induction k with
    | zero=>intro _; exact .refl _
    | succ k ih =>
      intro hk
      refine .trans (ih (by omega)) ?_
      have hp:=tam_path (n:=n) (l:=l) (most:=most) (v:=k) (by omega)
      have hlen:(tamT n l most).length=(tamL n (l.take most.toNat)).length+(n.toNat - 1):=by rw [tamT,List.length_append,pathL_len]
      have e:=Cn.edge (l:=tamT n l most) (t:=startT (tamT n l most).length) (k:=(((tamL n (l.take most.toNat)).length+k:Nat):Int)) (startT_mem.2 (by omega))
      rw [sA,sB,Int.toNat_natCast,hp] at e
      exact e
  have:=key v.toNat (by omega)
  rwa [show ((v.toNat:Nat):Int)=v by omega] at this
end Go.Proofs.Ytiejmoglooaalaa
end
section
open Go Go.HL
namespace Go.Proofs.Ytiejmoglooaalaa
set_option linter.unusedSectionVars false
theorem sel_len {l:List St} {t:List Int} (hn:t.Nodup) (ht:∀ k ∈ t,0 ≤ k∧k < (l.length:Int)):(selT l t).length=(tkT l t).length:=by
  have hs:=tk_sublist l t _ (Nat.le_refl _)
  rw [List.take_length] at hs
  refine nodup_len ((startT_nodup _).sublist List.filter_sublist) (hs.nodup hn) fun x=>?_
  rw [selT,List.mem_filter,decide_eq_true_eq]
  exact ⟨fun h=>h.2,fun h=>⟨startT_mem.2 (ht x (hs.subset h)),h⟩⟩
theorem tr_isT {n:Int} {l:List St} {t:List Int} (h:Tr n l t) (ha:t.Pairwise (· < ·)):isT n l t=true:=by
  have:=h.ln
  have h2:=h.fo
  rw [isT,ascT_of ha h.rg,sel_len h.nd h.rg,h2,decide_eq_true h.ln]; rfl
theorem Tr.perm {n:Int} {l:List St} (hnet:netB n l=true) {t s:List Int} (h:Tr n l t) (hs:s.Nodup) (hm:∀ x,x ∈ t ↔ x ∈ s):Tr n l s:=by
  have hl:=nodup_len h.nd hs hm
  refine ⟨fun k hk=>h.rg k ((hm k).2 hk),hs,by have:=h.ln; omega,?_⟩
  rw [← tk_len_same (endB_net hnet) h.rg hm,h.fo,hl]
section
variable {n:Int} {l:List St} (hnet:netB n l=true)
include hnet
theorem fr_tr (hc:connB n l=true):Tr n l (frT l):=Tr.perm hnet (first_tr hnet hc) (asc_nodup (frT_asc l)) fun _=>frT_mem.symm
end
end Go.Proofs.Ytiejmoglooaalaa
end
section
open Go Go.HL
namespace Go.Proofs.Ytiejmoglooaalaa
set_option linter.unusedSectionVars false
def onl (l:List St) (T:List Int):List St:=T.map fun k=>l.getD k.toNat (0,0,0)
theorem onl_len (l:List St) (T:List Int):(onl l T).length=T.length:=by rw [onl,List.length_map]
theorem onl_get (l:List St) (T:List Int) {i:Int} (hi:0 ≤ i∧i < (T.length:Int)):(onl l T).getD i.toNat (0,0,0)=l.getD (T.getD i.toNat 0).toNat (0,0,0):=by
  have h:i.toNat < T.length:=by omega
  simp [onl,List.getD,h]
theorem onl_net {n:Int} {l:List St} (hnet:netB n l=true) {T:List Int} (hT:∀ k ∈ T,0 ≤ k∧k < (l.length:Int)) (hl:T.length ≤ 60):netB n (onl l T)=true:=by
  have h:=hnet
  simp only [netB,Bool.and_eq_true,List.all_eq_true,decide_eq_true_eq] at h ⊢
  refine ⟨fun s hs=>?_,h.2.1,by rw [onl_len]; exact hl⟩
  obtain ⟨k,hk,rfl⟩:=List.mem_map.1 hs
  have:=hT k hk
  exact h.1 _ (mem_getD _ (by omega))
theorem onl_cn {l:List St} {T:List Int} {y u v:Int}:Cn (onl l T) (loW (onl l T) y (startT (onl l T).length)) u v ↔ Cn l (loW l y T) u v:=by
  constructor
  · intro h
    induction h with
    | refl v=>exact .refl v
    | @edge i hi =>
      obtain ⟨h1,h2⟩:=lo_mem.1 hi
      have h1:=startT_mem.1 h1
      rw [onl_len] at h1
      rw [wOf,onl_get l T h1] at h2
      rw [sA,sB,onl_get l T h1]
      exact .edge (lo_mem.2 ⟨mem_getD 0 (by omega),h2⟩)
    | symm _ ih=>exact .symm ih
    | trans _ _ a b=>exact .trans a b
  · intro h
    induction h with
    | refl v=>exact .refl v
    | @edge k hk =>
      obtain ⟨h1,h2⟩:=lo_mem.1 hk
      obtain ⟨i,hi,rfl⟩:=List.getElem_of_mem h1
      have g:((i:Nat):Int).toNat=i:=Int.toNat_natCast i
      have hr:0 ≤ ((i:Nat):Int)∧((i:Nat):Int) < (T.length:Int):=by omega
      have e:=onl_get l T hr
      rw [g,getD_at hi] at e
      have h3:(i:Int) ∈ loW (onl l T) y (startT (onl l T).length):=lo_mem.2 ⟨startT_mem.2 (by rw [onl_len]; exact hr),by rw [wOf,g,e]; exact h2⟩
      have h4:=Cn.edge (l:=onl l T) h3
      rw [sA,sB,g,e] at h4
      exact h4
    | symm _ ih=>exact .symm ih
    | trans _ _ a b=>exact .trans a b
section
variable {n:Int} {l:List St} (hnet:netB n l=true) (hc:connB n l=true)
include hnet hc
theorem fr_cn {y u v:Int}:Cn l (loW l y (startT l.length)) u v ↔ Cn l (loW l y (frT l)) u v:=by
  rw [lo_tree hnet hc]
  constructor
  · exact fun h=>h.mono fun k hk=>lo_mem.2 ⟨frT_mem.2 (lo_mem.1 hk).1,(lo_mem.1 hk).2⟩
  · exact fun h=>h.mono fun k hk=>lo_mem.2 ⟨frT_mem.1 (lo_mem.1 hk).1,(lo_mem.1 hk).2⟩
theorem onl_fr:netB n (onl l (frT l))=true∧connB n (onl l (frT l))=true:=by
  have hT:=fr_tr hnet hc
  obtain ⟨⟨n1,n2⟩,n3,_⟩:=netB_ends hnet
  have hl:(frT l).length ≤ 60:=by have:=frT_le l; omega
  have hn:=onl_net hnet hT.rg hl
  refine ⟨hn,conn_all hn fun v h0 h1=>?_⟩
  have h2:=conn_cn hnet hc (u:=0) (v:=v) (by omega) ⟨h0,h1⟩
  have h3:Cn l (loW l 1000 (frT l)) 0 v:=h2.mono fun k hk=>lo_mem.2 ⟨frT_mem.2 hk,(w_rng hnet (tree_in hk)).2⟩
  exact (onl_cn.2 h3).mono fun k hk=>(lo_mem.1 hk).1
theorem onl_nar {u v x:Int} (hu:0 ≤ u∧u < n) (hv:0 ≤ v∧v < n) (hx:narT n l u v=(x,0)):rnarO (onl l (frT l)) u v=(x,true):=by
  obtain ⟨h1,h2⟩:=onl_fr hnet hc
  obtain ⟨a,a1,_,a3,a4⟩:=nar_cn hnet hc hu hv
  obtain ⟨b,_,b2,b3,b4⟩:=nar_cn h1 h2 hu hv
  rw [a1] at hx
  obtain ⟨rfl,-⟩:=Prod.mk.inj hx
  rw [b2]
  have e1:=(b4 a a3).2 (onl_cn.2 ((fr_cn hnet hc).1 ((a4 a a3).1 (Int.le_refl _))))
  have e2:=(a4 b b3).2 ((fr_cn hnet hc).2 (onl_cn.1 ((b4 b b3).1 (Int.le_refl _))))
  rw [show b=a by omega]
theorem nar_law {u v x:Int} (hu:0 ≤ u∧u < n) (hv:0 ≤ v∧v < n) (hx:0 ≤ x∧x < n) :
    ∃ a c d,narT n l u v=(a,0)∧narT n l v u=(a,0)∧narT n l u x=(c,0)∧narT n l x v=(d,0)∧¬ (max c d < a):=by
  obtain ⟨a,a1,_,a3,a4⟩:=nar_cn hnet hc hu hv
  obtain ⟨b,b1,_,b3,b4⟩:=nar_cn hnet hc hv hu
  obtain ⟨c,c1,_,c3,c4⟩:=nar_cn hnet hc hu hx
  obtain ⟨d,d1,_,d3,d4⟩:=nar_cn hnet hc hx hv
  have e1:=(b4 a a3).2 (.symm ((a4 a a3).1 (Int.le_refl _)))
  have e2:=(a4 b b3).2 (.symm ((b4 b b3).1 (Int.le_refl _)))
  have e:b=a:=by omega
  subst e
  refine ⟨b,c,d,a1,b1,c1,d1,fun h=>?_⟩
  have h1:=(c4 (max c d) (by omega)).1 (by omega)
  have h2:=(d4 (max c d) (by omega)).1 (by omega)
  have:=(a4 (max c d) (by omega)).2 (.trans h1 h2)
  omega
end
end Go.Proofs.Ytiejmoglooaalaa
end
section
open Go Go.HL
namespace Go.Proofs.Ytiejmoglooaalaa
set_option maxRecDepth 100000
open Go.Proofs.Try renaming prog → Tp
open Go.HL.HV renaming undef → Ud
section
variable {F:FuncId → Option (List HV → Option HV)}
noncomputable def B14:Code:=Try.f14.body.getD .skip
abbrev env14 (v0 v1 v4 v5 v6 v7 v8 v9:HV):Env:=[(0,v0),(1,v1),(4,v4),(5,v5),(6,v6),(7,v7),(8,v8),(9,v9)]
theorem te_a_0 (N:Nat) (n:Int) (ls:List HV) :RunsTo Tp (plF F) 14 (sub [0] B14) [(0,.i n),(1,.imm .arg 3 ls)] [] .normal ((plF F).keys 14) (env14 (.i n) (.imm .arg 3 ls) (.imm .lit 1 []) (.i 0) (.i 0) Ud Ud Ud) [] :=
  RunsTo.hin N 60 [] fun kf hk=>⟨_,by kernel_rfl,.nil⟩
theorem te_b_0 (N:Nat) (n:Int) (ls:List HV)  {y7 y8 y9:HV} {H0:Heap} {a0:HV} {H1:Heap} {H2:Heap} (g0:∀ kf,N ≤ kf → callN Tp (plF F) (kf+1) 39 [.i n,.imm .arg 3 ls] []=some (.tuple [.agg [.i n,.imm .arg 3 ls],.bool true],H0)) (g1:some (newV (.agg [.i 0,.imm .lit 0 []]) H0)=some (a0,H1)) (g2:storeV Tp H1 66 (a0) (.agg [.i n,.imm .arg 3 ls])=some H2):RunsTo Tp (plF F) 14 (sub [1,0] B14) (env14 (.i n) (.imm .arg 3 ls) (.imm .lit 1 []) (.i 0) (.i 0) y7 y8 y9) [] .normal ((plF F).keys 14) (env14 (.i n) (.imm .arg 3 ls) (.imm .lit 1 []) (.i 0) (.i 0) a0 (.bool true) y9) H2 :=
  RunsTo.hin N 60 [⟨1,2,.tuple [.agg [.i n,.imm .arg 3 ls],.bool true],H0⟩,⟨1,6,a0,H1⟩,⟨1,7,.tuple [],H2⟩] fun kf hk=>⟨_,by kernel_rfl,(oC (g0 kf (by omega)) (oC (g1) (oS g2 .nil)))⟩
theorem te_b_1 (N:Nat) (n:Int) (ls:List HV)  {y7 y8 y9:HV} {H0:Heap} {a0:HV} {H1:Heap} {H2:Heap} (g0:∀ kf,N ≤ kf → callN Tp (plF F) (kf+1) 39 [.i n,.imm .arg 3 ls] []=some (.tuple [.agg [.i n,.imm .arg 3 ls],.bool false],H0)) (g1:some (newV (.agg [.i 0,.imm .lit 0 []]) H0)=some (a0,H1)) (g2:storeV Tp H1 66 (a0) (.agg [.i n,.imm .arg 3 ls])=some H2):RunsTo Tp (plF F) 14 (sub [1,0] B14) (env14 (.i n) (.imm .arg 3 ls) (.imm .lit 1 []) (.i 0) (.i 0) y7 y8 y9) [] .normal ((plF F).keys 14) (env14 (.i n) (.imm .arg 3 ls) (.imm .lit 1 []) (.i 0) (.i 0) a0 (.bool false) y9) H2 :=
  RunsTo.hin N 60 [⟨1,2,.tuple [.agg [.i n,.imm .arg 3 ls],.bool false],H0⟩,⟨1,6,a0,H1⟩,⟨1,7,.tuple [],H2⟩] fun kf hk=>⟨_,by kernel_rfl,(oC (g0 kf (by omega)) (oC (g1) (oS g2 .nil)))⟩
theorem te_ct_0 (N:Nat) (n:Int) (ls:List HV) (H:Heap) {y9:HV}:RunsTo Tp (plF F) 14 (sub [1,1,0] B14) (env14 (.i n) (.imm .arg 3 ls) (.imm .lit 1 []) (.i 0) (.i 0) (.ptr 0 0 0 1) (.bool true) y9) H .normal ((plF F).keys 14) (env14 (.i n) (.imm .arg 3 ls) (.imm .lit 1 []) (.i 0) (.i 0) (.ptr 0 0 0 1) (.bool true) y9) H :=
  RunsTo.hin N 60 [] fun kf hk=>⟨_,by kernel_rfl,.nil⟩
theorem te_cf_0 (N:Nat) (n:Int) (ls:List HV) (H:Heap) {y9:HV}:RunsTo Tp (plF F) 14 (sub [1,1,0] B14) (env14 (.i n) (.imm .arg 3 ls) (.imm .lit 1 []) (.i 0) (.i 0) (.ptr 0 0 0 1) (.bool false) y9) H .ret ((plF F).keys 14) (env14 (.i n) (.imm .arg 3 ls) (.imm .lit 1 []) (.i 0) (.i 2) (.ptr 0 0 0 1) (.bool false) y9) H :=
  RunsTo.hin N 60 [] fun kf hk=>⟨_,by kernel_rfl,.nil⟩
theorem te_d_0 (N:Nat) (n:Int) (ls:List HV) (H:Heap) (tb m:Nat) {y9:HV} {H0:Heap} (g0:loadV Tp H 66 (.ptr 0 0 0 1)=some (.agg [.i n,.imm .arg 3 ls])) (g1:∀ kf,callN Tp (plF F) (kf+1) 40 [.agg [.i n,.imm .arg 3 ls]] H=some (.tuple [.s tb m,.bool true],H0)):RunsTo Tp (plF F) 14 (sub [1,1,1,0] B14) (env14 (.i n) (.imm .arg 3 ls) (.imm .lit 1 []) (.i 0) (.i 0) (.ptr 0 0 0 1) (.bool true) y9) H .normal ((plF F).keys 14) (env14 (.i n) (.imm .arg 3 ls) (.imm .lit 1 []) (.i 0) (.i 0) (.ptr 0 0 0 1) (.bool true) (.s tb m)) H0 :=
  RunsTo.hin N 60 [⟨4,0,.agg [.i n,.imm .arg 3 ls],H⟩,⟨4,1,.tuple [.s tb m,.bool true],H0⟩] fun kf hk=>⟨_,by kernel_rfl,(oP H g0 (oC (g1 kf) .nil))⟩
theorem te_d_1 (N:Nat) (n:Int) (ls:List HV) (H:Heap) (tb m:Nat) {y9:HV} {H0:Heap} (g0:loadV Tp H 66 (.ptr 0 0 0 1)=some (.agg [.i n,.imm .arg 3 ls])) (g1:∀ kf,callN Tp (plF F) (kf+1) 40 [.agg [.i n,.imm .arg 3 ls]] H=some (.tuple [.s tb m,.bool false],H0)):RunsTo Tp (plF F) 14 (sub [1,1,1,0] B14) (env14 (.i n) (.imm .arg 3 ls) (.imm .lit 1 []) (.i 0) (.i 0) (.ptr 0 0 0 1) (.bool true) y9) H .normal ((plF F).keys 14) (env14 (.i n) (.imm .arg 3 ls) (.imm .lit 1 []) (.i 0) (.i 0) (.ptr 0 0 0 1) (.bool false) (.s tb m)) H0 :=
  RunsTo.hin N 60 [⟨4,0,.agg [.i n,.imm .arg 3 ls],H⟩,⟨4,1,.tuple [.s tb m,.bool false],H0⟩] fun kf hk=>⟨_,by kernel_rfl,(oP H g0 (oC (g1 kf) .nil))⟩
theorem te_et_0 (N:Nat) (n:Int) (ls:List HV) (H:Heap) (tb m:Nat):RunsTo Tp (plF F) 14 (sub [1,1,1,1,0] B14) (env14 (.i n) (.imm .arg 3 ls) (.imm .lit 1 []) (.i 0) (.i 0) (.ptr 0 0 0 1) (.bool true) (.s tb m)) H .normal ((plF F).keys 14) (env14 (.i n) (.imm .arg 3 ls) (.imm .lit 1 []) (.i 0) (.i 0) (.ptr 0 0 0 1) (.bool true) (.s tb m)) H :=
  RunsTo.hin N 60 [] fun kf hk=>⟨_,by kernel_rfl,.nil⟩
theorem te_ef_0 (N:Nat) (n:Int) (ls:List HV) (H:Heap) (tb m:Nat):RunsTo Tp (plF F) 14 (sub [1,1,1,1,0] B14) (env14 (.i n) (.imm .arg 3 ls) (.imm .lit 1 []) (.i 0) (.i 0) (.ptr 0 0 0 1) (.bool false) (.s tb m)) H .ret ((plF F).keys 14) (env14 (.i n) (.imm .arg 3 ls) (.imm .lit 1 []) (.i 0) (.i 6) (.ptr 0 0 0 1) (.bool false) (.s tb m)) H :=
  RunsTo.hin N 60 [] fun kf hk=>⟨_,by kernel_rfl,.nil⟩
theorem te_z_0 (N:Nat) (n:Int) (ls:List HV) (H:Heap) (tb m:Nat) (w:Int) {H0:Heap} {H1:Heap} (g0:∀ kf,N ≤ kf → callN Tp (plF F) (kf+1) 41 [.s tb m] H=some (.tuple [],H0)) (g1:loadV Tp H0 66 (.ptr 0 0 0 1)=some (.agg [.i n,.imm .arg 3 ls])) (g2:∀ kf,callN Tp (plF F) (kf+1) 42 [.agg [.i n,.imm .arg 3 ls],.s tb m] H0=some (.i w,H1)):RunsTo Tp (plF F) 14 (sub [1,1,1,1,1] B14) (env14 (.i n) (.imm .arg 3 ls) (.imm .lit 1 []) (.i 0) (.i 0) (.ptr 0 0 0 1) (.bool true) (.s tb m)) H .ret ((plF F).keys 14) (env14 (.i n) (.imm .arg 3 ls) (.s tb m) (.i w) (.i 0) (.ptr 0 0 0 1) (.bool true) (.s tb m)) H1 :=
  RunsTo.hin N 60 [⟨7,1,.tuple [],H0⟩,⟨8,1,.agg [.i n,.imm .arg 3 ls],H0⟩,⟨8,3,.i w,H1⟩] fun kf hk=>⟨_,by kernel_rfl,(oC (g0 kf (by omega)) (oP H0 g1 (oC (g2 kf) .nil)))⟩
end
end Go.Proofs.Ytiejmoglooaalaa
end
section
open Go Go.HL
namespace Go.Proofs.Ytiejmoglooaalaa
set_option maxRecDepth 100000
open Go.Proofs.Try renaming prog → Tp
open Go.HL.HV renaming undef → Ud
section
variable {F:FuncId → Option (List HV → Option HV)}
noncomputable def B81:Code:=Try.f81.body.getD .skip
abbrev env81 (v0 v1 v4:HV):Env:=[(0,v0),(1,v1),(4,v4)]
theorem le_a_0 (x y:Int) (H:Heap) {H0:Heap} (g0:∀ kf,callN Tp (plF F) (kf+1) 89 [.i x] H=some (.bool false,H0)) (g1:x < y):RunsTo Tp (plF F) 81 (sub [] B81) [(0,.i x),(1,.i y)] H .ret ((plF F).keys 81) (env81 (.i x) (.i y) (.bool true)) H0 :=
  RunsTo.hin 0 60 [⟨1,1,.bool false,H0⟩,⟨1,10,.bool true,H0⟩] fun kf hk=>⟨_,by kernel_rfl,(oC (g0 kf) (oB H0 (decide_eq_true g1) .nil))⟩
theorem le_a_1 (x y:Int) (H:Heap) {H0:Heap} (g0:∀ kf,callN Tp (plF F) (kf+1) 89 [.i x] H=some (.bool false,H0)) (g1:¬ (x < y)):RunsTo Tp (plF F) 81 (sub [] B81) [(0,.i x),(1,.i y)] H .ret ((plF F).keys 81) (env81 (.i x) (.i y) (.bool false)) H0 :=
  RunsTo.hin 0 60 [⟨1,1,.bool false,H0⟩,⟨1,10,.bool false,H0⟩] fun kf hk=>⟨_,by kernel_rfl,(oC (g0 kf) (oB H0 (decide_eq_false g1) .nil))⟩
noncomputable def B75:Code:=Try.f75.body.getD .skip
abbrev env75 (v0 v1 v2 v6 v7:HV):Env:=[(0,v0),(1,v1),(2,v2),(6,v6),(7,v7)]
theorem ii_a_0 (db n:Nat) (H:Heap):RunsTo Tp (plF F) 75 (sub [0] B75) [(0,.s db n),(1,.i 0),(2,.i (n:Int))] H .normal ((plF F).keys 75) (env75 (.s db n) (.i 0) (.i (n:Int)) (.i 1) Ud) H :=
  RunsTo.hin 0 60 [] fun kf hk=>⟨_,by kernel_rfl,.nil⟩
theorem ii_b_0 (db n:Nat) (H:Heap) (i:Nat) {y7:HV}(g0:(i:Int) < (n:Int)):RunsTo Tp (plF F) 75 (sub [1,0,0,0] B75) (env75 (.s db n) (.i 0) (.i (n:Int)) (.i (i:Int)) y7) H .normal ((plF F).keys 75) (env75 (.s db n) (.i 0) (.i (n:Int)) (.i (i:Int)) y7) H :=
  RunsTo.hin 0 60 [⟨1,2,.bool true,H⟩] fun kf hk=>⟨_,by kernel_rfl,(oB H (decide_eq_true g0) .nil)⟩
theorem ii_b_1 (db n:Nat) (H:Heap) (i:Nat) {y7:HV}(g0:¬ ((i:Int) < (n:Int))):RunsTo Tp (plF F) 75 (sub [1,0,0,0] B75) (env75 (.s db n) (.i 0) (.i (n:Int)) (.i (i:Int)) y7) H (.exit 0) ((plF F).keys 75) (env75 (.s db n) (.i 0) (.i (n:Int)) (.i (i:Int)) y7) H :=
  RunsTo.hin 0 60 [⟨1,2,.bool false,H⟩] fun kf hk=>⟨_,by kernel_rfl,(oB H (decide_eq_false g0) .nil)⟩
theorem ii_c_0 (db n:Nat) (H:Heap) (i:Nat) {y7:HV}:RunsTo Tp (plF F) 75 (sub [1,0,0,1,0,0,0] B75) (env75 (.s db n) (.i 0) (.i (n:Int)) (.i (i:Int)) y7) H .normal ((plF F).keys 75) (env75 (.s db n) (.i 0) (.i (n:Int)) (.i (i:Int)) (.i (i:Int))) H :=
  RunsTo.hin 0 60 [] fun kf hk=>⟨_,by kernel_rfl,.nil⟩
theorem ii_d_0 (db n:Nat) (H:Heap) (i j:Nat) (x y:Int) {H0:Heap} {H1:Heap} {H2:Heap} (g0:0 < (j:Int)) (g1:idxV Tp 24 (.s db n) (.i (j:Int))=some (.ptr db j 0 n)) (g2:loadV Tp H 3 (.ptr db j 0 n)=some (.i x)) (g3:idxV Tp 24 (.s db n) (.i (IntKind.i64.wrap ((j:Int) - 1)))=some (.ptr db ((IntKind.i64.wrap ((j:Int) - 1)).toNat) 0 n)) (g4:loadV Tp H 3 (.ptr db ((IntKind.i64.wrap ((j:Int) - 1)).toNat) 0 n)=some (.i y)) (g5:∀ kf,callN Tp (plF F) (kf+1) 81 [.i x,.i y] H=some (.bool true,H0)) (g6:idxV Tp 24 (.s db n) (.i (IntKind.i64.wrap ((j:Int) - 1)))=some (.ptr db ((IntKind.i64.wrap ((j:Int) - 1)).toNat) 0 n)) (g7:loadV Tp H0 3 (.ptr db ((IntKind.i64.wrap ((j:Int) - 1)).toNat) 0 n)=some (.i y)) (g8:idxV Tp 24 (.s db n) (.i (j:Int))=some (.ptr db j 0 n)) (g9:loadV Tp H0 3 (.ptr db j 0 n)=some (.i x)) (g10:idxV Tp 24 (.s db n) (.i (j:Int))=some (.ptr db j 0 n)) (g11:storeV Tp H0 3 (.ptr db j 0 n) (.i y)=some H1) (g12:idxV Tp 24 (.s db n) (.i (IntKind.i64.wrap ((j:Int) - 1)))=some (.ptr db ((IntKind.i64.wrap ((j:Int) - 1)).toNat) 0 n)) (g13:storeV Tp H1 3 (.ptr db ((IntKind.i64.wrap ((j:Int) - 1)).toNat) 0 n) (.i x)=some H2):RunsTo Tp (plF F) 75 (sub [1,0,0,1,0,0,1,0,0] B75) (env75 (.s db n) (.i 0) (.i (n:Int)) (.i (i:Int)) (.i (j:Int))) H .normal ((plF F).keys 75) (env75 (.s db n) (.i 0) (.i (n:Int)) (.i (i:Int)) (.i (IntKind.i64.wrap ((j:Int) - 1)))) H2 :=
  RunsTo.hin 0 60 [⟨4,2,.bool true,H⟩,⟨4,6,.ptr db j 0 n,H⟩,⟨4,7,.i x,H⟩,⟨4,11,.ptr db ((IntKind.i64.wrap ((j:Int) - 1)).toNat) 0 n,H⟩,⟨4,12,.i y,H⟩,⟨4,13,.bool true,H0⟩,⟨6,8,.ptr db ((IntKind.i64.wrap ((j:Int) - 1)).toNat) 0 n,H0⟩,⟨6,9,.i y,H0⟩,⟨6,12,.ptr db j 0 n,H0⟩,⟨6,13,.i x,H0⟩,⟨6,14,.ptr db j 0 n,H0⟩,⟨6,15,.tuple [],H1⟩,⟨6,16,.ptr db ((IntKind.i64.wrap ((j:Int) - 1)).toNat) 0 n,H1⟩,⟨6,17,.tuple [],H2⟩] fun kf hk=>⟨_,by kernel_rfl,(oB H (decide_eq_true g0) (oP H g1 (oP H g2 (oP H g3 (oP H g4 (oC (g5 kf) (oP H0 g6 (oP H0 g7 (oP H0 g8 (oP H0 g9 (oP H0 g10 (oS g11 (oP H1 g12 (oS g13 .nil))))))))))))))⟩
theorem ii_d_1 (db n:Nat) (H:Heap) (i j:Nat) (x y:Int) {H0:Heap} (g0:0 < (j:Int)) (g1:idxV Tp 24 (.s db n) (.i (j:Int))=some (.ptr db j 0 n)) (g2:loadV Tp H 3 (.ptr db j 0 n)=some (.i x)) (g3:idxV Tp 24 (.s db n) (.i (IntKind.i64.wrap ((j:Int) - 1)))=some (.ptr db ((IntKind.i64.wrap ((j:Int) - 1)).toNat) 0 n)) (g4:loadV Tp H 3 (.ptr db ((IntKind.i64.wrap ((j:Int) - 1)).toNat) 0 n)=some (.i y)) (g5:∀ kf,callN Tp (plF F) (kf+1) 81 [.i x,.i y] H=some (.bool false,H0)):RunsTo Tp (plF F) 75 (sub [1,0,0,1,0,0,1,0,0] B75) (env75 (.s db n) (.i 0) (.i (n:Int)) (.i (i:Int)) (.i (j:Int))) H (.exit 2) ((plF F).keys 75) (env75 (.s db n) (.i 0) (.i (n:Int)) (.i (i:Int)) (.i (j:Int))) H0 :=
  RunsTo.hin 0 60 [⟨4,2,.bool true,H⟩,⟨4,6,.ptr db j 0 n,H⟩,⟨4,7,.i x,H⟩,⟨4,11,.ptr db ((IntKind.i64.wrap ((j:Int) - 1)).toNat) 0 n,H⟩,⟨4,12,.i y,H⟩,⟨4,13,.bool false,H0⟩] fun kf hk=>⟨_,by kernel_rfl,(oB H (decide_eq_true g0) (oP H g1 (oP H g2 (oP H g3 (oP H g4 (oC (g5 kf) .nil))))))⟩
theorem ii_d_2 (db n:Nat) (H:Heap) (i j:Nat) (x y:Int)(g0:¬ (0 < (j:Int))):RunsTo Tp (plF F) 75 (sub [1,0,0,1,0,0,1,0,0] B75) (env75 (.s db n) (.i 0) (.i (n:Int)) (.i (i:Int)) (.i (j:Int))) H (.exit 2) ((plF F).keys 75) (env75 (.s db n) (.i 0) (.i (n:Int)) (.i (i:Int)) (.i (j:Int))) H :=
  RunsTo.hin 0 60 [⟨4,2,.bool false,H⟩] fun kf hk=>⟨_,by kernel_rfl,(oB H (decide_eq_false g0) .nil)⟩
theorem ii_e_0 (db n:Nat) (H:Heap) (i:Nat) {y7:HV}:RunsTo Tp (plF F) 75 (sub [1,0,0,1,1] B75) (env75 (.s db n) (.i 0) (.i (n:Int)) (.i (i:Int)) y7) H .normal ((plF F).keys 75) (env75 (.s db n) (.i 0) (.i (n:Int)) (.i (IntKind.i64.wrap ((i:Int)+1))) y7) H :=
  RunsTo.hin 0 60 [] fun kf hk=>⟨_,by kernel_rfl,.nil⟩
noncomputable def B62:Code:=Try.f62.body.getD .skip
abbrev env62 (v0 v1 v2 v3 v8 v9 v10 v11 v12 v13 v14 v15 v16 v17 v18:HV):Env:=[(0,v0),(1,v1),(2,v2),(3,v3),(8,v8),(9,v9),(10,v10),(11,v11),(12,v12),(13,v13),(14,v14),(15,v15),(16,v16),(17,v17),(18,v18)]
theorem ip_a_0 (N:Nat) (db n:Nat) (m:Int) (H:Heap):RunsTo Tp (plF F) 62 (sub [0] B62) [(0,.s db n),(1,.i 0),(2,.i (n:Int)),(3,.i m)] H .normal ((plF F).keys 62) (env62 (.s db n) (.i 0) (.i (n:Int)) (.i m) (.bool true) Ud Ud Ud Ud Ud Ud Ud Ud Ud Ud) H :=
  RunsTo.hin N 60 [] fun kf hk=>⟨_,by kernel_rfl,.nil⟩
theorem ip_b_0 (N:Nat) (db n:Nat) (m:Int) (H:Heap) {y9 y10 y11 y12 y13 y14 y15 y16 y17 y18:HV}:RunsTo Tp (plF F) 62 (sub [1,0] B62) (env62 (.s db n) (.i 0) (.i (n:Int)) (.i m) (.bool true) y9 y10 y11 y12 y13 y14 y15 y16 y17 y18) H .normal ((plF F).keys 62) (env62 (.s db n) (.i 0) (.i (n:Int)) (.i m) (.bool true) (.bool true) y10 y11 y12 y13 y14 y15 y16 y17 y18) H :=
  RunsTo.hin N 60 [] fun kf hk=>⟨_,by kernel_rfl,.nil⟩
theorem ip_c_0 (N:Nat) (db n:Nat) (m:Int) (H:Heap) {y10 y11 y12 y13 y14 y15 y16 y17 y18:HV}:RunsTo Tp (plF F) 62 (sub [1,1,0,0,0,0] B62) (env62 (.s db n) (.i 0) (.i (n:Int)) (.i m) (.bool true) (.bool true) y10 y11 y12 y13 y14 y15 y16 y17 y18) H .normal ((plF F).keys 62) (env62 (.s db n) (.i 0) (.i (n:Int)) (.i m) (.bool true) (.bool true) (.i (IntKind.i64.wrap ((n:Int) - 0))) y11 y12 y13 y14 y15 y16 y17 y18) H :=
  RunsTo.hin N 60 [] fun kf hk=>⟨_,by kernel_rfl,.nil⟩
theorem ip_d_0 (N:Nat) (db n:Nat) (m:Int) (H:Heap) {y11 y12 y13 y14 y15 y16 y17 y18:HV} {H0:Heap} (g0:(n:Int) ≤ 12) (g1:∀ kf,N ≤ kf → callN Tp (plF F) (kf+1) 75 [.s db n,.i 0,.i (n:Int)] H=some (.tuple [],H0)):RunsTo Tp (plF F) 62 (sub [1,1,0,0,0,1,0] B62) (env62 (.s db n) (.i 0) (.i (n:Int)) (.i m) (.bool true) (.bool true) (.i (n:Int)) y11 y12 y13 y14 y15 y16 y17 y18) H .ret ((plF F).keys 62) (env62 (.s db n) (.i 0) (.i (n:Int)) (.i m) (.bool true) (.bool true) (.i (n:Int)) y11 y12 y13 y14 y15 y16 y17 y18) H0 :=
  RunsTo.hin N 60 [⟨3,1,.bool true,H⟩,⟨4,3,.tuple [],H0⟩] fun kf hk=>⟨_,by kernel_rfl,(oB H (decide_eq_true g0) (oC (g1 kf (by omega)) .nil))⟩
noncomputable def B41:Code:=Try.f41.body.getD .skip
abbrev env41 (v0 v2:HV):Env:=[(0,v0),(2,v2)]
theorem io_a_0 (N:Nat) (db n:Nat) (m:Int) (H:Heap) {H0:Heap} {H1:Heap} (g0:∀ kf,callN Tp (plF F) (kf+1) 63 [.int .u64 (IntKind.u64.wrap (n:Int))] H=some (.i m,H0)) (g1:∀ kf,N ≤ kf → callN Tp (plF F) (kf+1) 62 [.s db n,.i 0,.i (n:Int),.i m] H0=some (.tuple [],H1)):RunsTo Tp (plF F) 41 (sub [] B41) [(0,.s db n)] H .normal ((plF F).keys 41) (env41 (.s db n) (.i (n:Int))) H1 :=
  RunsTo.hin N 60 [⟨1,4,.i m,H0⟩,⟨1,5,.tuple [],H1⟩] fun kf hk=>⟨_,by kernel_rfl,(oC (g0 kf) (oC (g1 kf (by omega)) .nil))⟩
end
end Go.Proofs.Ytiejmoglooaalaa
end
section
open Go Go.HL Go.HL.So
namespace Go.Proofs.Ytiejmoglooaalaa
set_option linter.unusedSectionVars false
open Go.Proofs.Try renaming prog → Tp
open Go.HL.HV renaming undef → Ud
def less81:List HV → Option HV | [.int .i64 x,.int .i64 y]=>some (.bool (decide (x < y))) | _=>none
theorem res81:Try.f81.results.toList=[.tmp 4]:=by kernel_rfl
def prIs:FuncId → Option (List HV → Option HV):=fun g=>if g == 89 then some nan89 else none
theorem soundIs (n:Nat):CallSound Tp (callN Tp (plF prIs) n):=sound_prim _ (fun g f h=>by
  unfold prIs at h
  split at h
  · rename_i hg; cases h; rw [eq_of_beq hg]; exact nan_ok
  · cases h) n
theorem less_ok:PrimOk Tp 81 less81:=by
  refine primOk_pure (pol:=plF prIs) (fn:=Try.f81) (cd:=B81) follows_mixed soundIs (by kernel_rfl) (by kernel_rfl) (fnok prIs _ _ (by kernel_rfl)) (by kernel_rfl) ?_
  intro args res h
  unfold less81 at h
  split at h
  · rename_i x y
    cases h
    have q:∀ kf,callN Tp (plF prIs) (kf+1) 89 [.int .i64 x] []=some (.bool false,[]):=fun kf=>by
      rw [prim_call (pol:=plF prIs) (g:=89) (F:=nan89) (by kernel_rfl) (rs:=[.int .i64 x]) rfl (res:=.bool false) rfl]; rfl
    by_cases c:x < y
    · rw [decide_eq_true c]
      exact ⟨_,_,_,.bool true,le_a_0 x y [] q c,by simp,by simp only [resultsV,res81]; rfl,rfl⟩
    · rw [decide_eq_false c]
      exact ⟨_,_,_,.bool false,le_a_1 x y [] q c,by simp,by simp only [resultsV,res81]; rfl,rfl⟩
  · cases h
theorem ltI_lin:Lin (fun a b:Int=>a < b):=⟨fun x y z (h1:¬ y < x) (h2:¬ z < y)=>show ¬ z < x by omega,fun x y (h:x < y)=>show ¬ y < x by omega⟩
abbrev ltI:Int → Int → Prop:=fun a b=>a < b
section
variable {F:FuncId → Option (List HV → Option HV)} {H:Heap} {db n:Nat} (hd:db < H.length)
include hd
theorem less_at (h81:F 81=some less81) (x y:Int) (H:Heap):∀ kf,callN Tp (plF F) (kf+1) 81 [.int .i64 x,.int .i64 y] H=some (.bool (decide (x < y)),H):=fun kf=>by
  rw [prim_call (pol:=plF F) (g:=81) (F:=less81) h81 (rs:=[.int .i64 x,.int .i64 y]) rfl (res:=.bool (decide (x < y))) rfl]; rfl
theorem ii_in (h81:F 81=some less81) {i:Nat} (hi:i < n) (hn:n ≤ 1000):∀ (j:Nat) (l:List Int),l.length=n → j ≤ i → Sink ltI 0 (i+1) j l →
    ∃ y l',RunsTo Tp (plF F) 75 (sub [1,0,0,1,0,0,1,0] B75) (env75 (.sl db 0 n none n 1) (.int .i64 0) (.int .i64 (n:Int)) (.int .i64 (i:Int)) (.int .i64 (j:Int))) (H.set db (bI l)) (.exit 2) ((plF F).keys 75) (env75 (.sl db 0 n none n 1) (.int .i64 0) (.int .i64 (n:Int)) (.int .i64 (i:Int)) y) (H.set db (bI l'))∧Sw 0 (i+1) l l'∧Sorted ltI 0 (i+1) l':=by
  intro j
  induction j with
  | zero =>
    intro l hl hj hS
    exact ⟨_,l,lpo (ii_d_2 (F:=F) db n (H.set db (bI l)) i 0 0 0 (by omega)),.refl,sink_end ltI_lin hS (.inl (Nat.zero_le _))⟩
  | succ j ih =>
    intro l hl hj hS
    have hb:(H.set db (bI l))[db]?=some (bI l):=List.getElem?_set_self hd
    have e1:IntKind.i64.wrap (((j+1:Nat):Int) - 1)=(j:Int):=by simp only [wrapI64]; omega
    have e2:(IntKind.i64.wrap (((j+1:Nat):Int) - 1)).toNat=j:=by rw [e1]; omega
    have i1:=idxS (b:=db) (cap:=none) u24 z3 (show j+1 < n by omega)
    have i2:=idxS (b:=db) (cap:=none) u24 z3 (show j < n by omega)
    have l1:=load_out hb (y:=j+1) (by omega)
    have l2:=load_out hb (y:=j) (by omega)
    rw [hl] at l1 l2
    rw [← e1] at i2
    by_cases c:l.getD (j+1) 0 < l.getD j 0
    · have s1:=store_out hb (y:=j+1) (by omega) (l.getD j 0)
      rw [hl,List.set_set] at s1
      have hb2:(H.set db (bI (l.set (j+1) (l.getD j 0))))[db]?=some (bI (l.set (j+1) (l.getD j 0))):=List.getElem?_set_self hd
      have s2:=store_out hb2 (y:=j) (by simp; omega) (l.getD (j+1) 0)
      rw [List.length_set,hl,List.set_set] at s2
      have lt:=less_at hd h81 (l.getD (j+1) 0) (l.getD j 0) (H.set db (bI l))
      rw [decide_eq_true c] at lt
      have st:=ii_d_0 (F:=F) db n (H.set db (bI l)) i (j+1) (l.getD (j+1) 0) (l.getD j 0) (by omega) i1 l1 (by rw [e2]; exact i2) (by rw [e2]; exact l2) lt (by rw [e2]; exact i2) (by rw [e2]; exact l2) i1 l1 i1 s1 (by rw [e2]; exact i2) (by rw [e2]; exact s2)
      rw [e1] at st
      have sw:Sw 0 (i+1) l (swp l (j+1) j):=Sw.one (by omega) (by omega) (by omega) (by omega)
      obtain ⟨y,l',r,q1,q2⟩:=ih (swp l (j+1) j) (by rw [Go.HL.So.swp_len]; exact hl) (by omega) (sink_step ltI_lin (j:=j+1) (by omega) (by omega) (by omega) hS c)
      exact ⟨y,l',lop (st) (gc_eq _ (by simp)) (r),sw.trans q1,q2⟩
    · have lt:=less_at hd h81 (l.getD (j+1) 0) (l.getD j 0) (H.set db (bI l))
      rw [decide_eq_false c] at lt
      have st:=ii_d_1 (F:=F) db n (H.set db (bI l)) i (j+1) (l.getD (j+1) 0) (l.getD j 0) (by omega) i1 l1 (by rw [e2]; exact i2) (by rw [e2]; exact l2) lt
      exact ⟨_,l,lpo (st),.refl,sink_end ltI_lin hS (.inr c)⟩
theorem ii_out (h81:F 81=some less81) (hn:n ≤ 1000):∀ (d i:Nat) (l:List Int),i+d=n → l.length=n → Sorted ltI 0 i l →
    ∃ l',RunsTo Tp (plF F) 75 (sub [1,0] B75) (env75 (.sl db 0 n none n 1) (.int .i64 0) (.int .i64 (n:Int)) (.int .i64 (i:Int)) Ud) (H.set db (bI l)) (.exit 0) ((plF F).keys 75) (env75 (.sl db 0 n none n 1) (.int .i64 0) (.int .i64 (n:Int)) (.int .i64 (n:Int)) Ud) (H.set db (bI l'))∧Sw 0 n l l'∧Sorted ltI 0 n l':=by
  intro d
  induction d with
  | zero =>
    intro i l hi hl hS
    have:i=n:=by omega
    subst this
    exact ⟨l,lpo (sqo (ii_b_1 (F:=F) db i (H.set db (bI l)) i (by omega)) (c:=sub [1,0,0] B75) (b:=sub [1,0,0,1] B75)),.refl,hS⟩
  | succ d ih =>
    intro i l hi hl hS
    obtain ⟨y,l1,r1,q1,q2⟩:=ii_in hd h81 (i:=i) (by omega) hn i l hl (Nat.le_refl _) (sink_start hS)
    have r1':=lpi (e0:=(env75 (.sl db 0 n none n 1) (.int .i64 0) (.int .i64 (n:Int)) (.int .i64 (i:Int)) (.int .i64 (i:Int)))) r1 (b:=sub [1,0,0,1,0,0,1,0,0] B75)
    have st:=sq (ii_b_0 (F:=F) db n (H.set db (bI l)) i (y7:=Ud) (by omega)) (sq (RunsTo.block_normal (i:=1) (c:=sub [1,0,0,1,0] B75) (sq (ii_c_0 (F:=F) db n (H.set db (bI l)) i (y7:=Ud)) (bke (c:=sub [1,0,0,1,0,0,1] B75) (r1')) (c:=sub [1,0,0,1,0,0] B75)) (by kernel_rfl)) (ii_e_0 (F:=F) db n (H.set db (bI l1)) i) (c:=sub [1,0,0,1] B75)) (c:=sub [1,0,0] B75)
    rw [wrap_succ (by omega)] at st
    obtain ⟨l',r,q3,q4⟩:=ih (i+1) l1 (by omega) (q1.len.trans hl) q2
    exact ⟨l',lop (st) (gc_eq _ (by simp)) (r),(q1.mono (Nat.le_refl _) (by omega)).trans q3,q4⟩
theorem ins_call (h81:F 81=some less81) (h75:F 75=none) (hn:n ≤ 1000) {l:List Int} (hl:l.length=n) :
    ∃ l',ClF F 75 [.sl db 0 n none n 1,.int .i64 0,.int .i64 (n:Int)] (H.set db (bI l)) (.tuple []) (H.set db (bI l'))∧l'.Perm l∧Sorted ltI 0 n l':=by
  have key:∃ z l',RunsTo Tp (plF F) 75 (sub [1,0] B75) (env75 (.sl db 0 n none n 1) (.int .i64 0) (.int .i64 (n:Int)) (.int .i64 (1:Int)) Ud) (H.set db (bI l)) (.exit 0) ((plF F).keys 75) (env75 (.sl db 0 n none n 1) (.int .i64 0) (.int .i64 (n:Int)) z Ud) (H.set db (bI l'))∧Sw 0 n l l'∧Sorted ltI 0 n l':=by
    by_cases c:1 ≤ n
    · obtain ⟨l',r,q⟩:=ii_out hd h81 hn (n - 1) 1 l (by omega) hl (fun p q h1 h2 h3=>by omega)
      exact ⟨_,l',r,q⟩
    · exact ⟨_,l,lpo (sqo (ii_b_1 (F:=F) db n (H.set db (bI l)) 1 (by omega)) (c:=sub [1,0,0] B75) (b:=sub [1,0,0,1] B75)),.refl,fun p q h1 h2 h3=>by omega⟩
  obtain ⟨z,l',r,q1,q2⟩:=key
  have a:=ii_a_0 (F:=F) db n (H.set db (bI l))
  have hc:=CallsTo.shared (P:=Tp) (pol:=plF F) (g:=75) (fn:=Try.f75) (cd:=B75) (args:=[.sl db 0 n none n 1,.int .i64 0,.int .i64 (n:Int)]) (v:=.tuple []) h75 (by kernel_rfl) (by kernel_rfl) (by kernel_rfl) (sq (a) (bke (c:=sub [1] B75) (r)) (c:=B75)) (by kernel_rfl) (by simp) (by kernel_rfl)
  rw [gc_eq _ (by simp)] at hc
  exact ⟨l',hc,q1.perm (by omega),q2⟩
theorem pdq_call (h81:F 81=some less81) (h75:F 75=none) (h62:F 62=none) (hn:n ≤ 12) {l:List Int} (hl:l.length=n) (m:Int) :
    ∃ l',ClF F 62 [.sl db 0 n none n 1,.int .i64 0,.int .i64 (n:Int),.int .i64 m] (H.set db (bI l)) (.tuple []) (H.set db (bI l'))∧l'.Perm l∧Sorted ltI 0 n l':=by
  obtain ⟨l',hc,q⟩:=ins_call hd h81 h75 (by omega) hl
  obtain ⟨N,hN⟩:=CallsTo.from hc
  have a:=ip_a_0 (F:=F) 0 db n m (H.set db (bI l))
  have b:=ip_b_0 (F:=F) 0 db n m (H.set db (bI l)) (y9:=Ud) (y10:=Ud) (y11:=Ud) (y12:=Ud) (y13:=Ud) (y14:=Ud) (y15:=Ud) (y16:=Ud) (y17:=Ud) (y18:=Ud)
  have c:=ip_c_0 (F:=F) 0 db n m (H.set db (bI l)) (y10:=Ud) (y11:=Ud) (y12:=Ud) (y13:=Ud) (y14:=Ud) (y15:=Ud) (y16:=Ud) (y17:=Ud) (y18:=Ud)
  have d:=ip_d_0 (F:=F) N db n m (H.set db (bI l)) (y11:=Ud) (y12:=Ud) (y13:=Ud) (y14:=Ud) (y15:=Ud) (y16:=Ud) (y17:=Ud) (y18:=Ud) (by omega) hN
  have hw:IntKind.i64.wrap ((n:Int) - 0)=(n:Int):=wrap_id (by omega) (by omega)
  first | rw [hw] at c | skip
  have lp:=lpo (RunsTo.block_ret (i:=1) (c:=sub [1,1,0,0] B62) (sq (c) (sqo (d) (c:=sub [1,1,0,0,0,1] B62) (b:=sub [1,1,0,0,0,1,1] B62)) (c:=sub [1,1,0,0,0] B62)) (by kernel_rfl)) (c:=sub [1,1,0] B62)
  have hc2:=CallsTo.shared (P:=Tp) (pol:=plF F) (g:=62) (fn:=Try.f62) (cd:=B62) (args:=[.sl db 0 n none n 1,.int .i64 0,.int .i64 (n:Int),.int .i64 m]) (v:=.tuple []) h62 (by kernel_rfl) (by kernel_rfl) (by kernel_rfl) (sq (a) (sq (b) (RunsTo.block_ret (i:=0) (c:=sub [1,1] B62) (lp) (by kernel_rfl)) (c:=sub [1] B62)) (c:=B62)) (by kernel_rfl) (by simp) (by kernel_rfl)
  rw [gc_eq _ (by simp)] at hc2
  exact ⟨l',hc2,q⟩
end
structure StF (F:FuncId → Option (List HV → Option HV)):Prop where
  h81:F 81=some less81
  h63:F 63=some len82
  h75:F 75=none
  h62:F 62=none
  h41:F 41=none
theorem set_selfI {H:Heap} {b:Nat} {B:Blk} (h:H[b]?=some B):H.set b B=H:=by
  apply List.ext_getElem?
  intro i
  by_cases e:b=i
  · subst e; rw [List.getElem?_set_self (lt_of_get h),h]
  · rw [List.getElem?_set_ne e]
theorem sort_call {F:FuncId → Option (List HV → Option HV)} (hF:StF F) {H:Heap} {db:Nat} {l:List Int} (hb:H[db]?=some (bI l)) (hn:l.length ≤ 12) :
    ∃ l',ClF F 41 [.sl db 0 l.length none l.length 1] H (.tuple []) (H.set db (bI l'))∧l'.Perm l∧∀ i j,i < j → j < l'.length → l'.getD i 0 ≤ l'.getD j 0:=by
  obtain ⟨h81,h63,h75,h62,h41⟩:=hF
  have hd:=lt_of_get hb
  obtain ⟨l',hc,q1,q2⟩:=pdq_call (F:=F) hd h81 h75 h62 hn (l:=l) rfl (lenN l.length:Int)
  rw [set_selfI hb] at hc
  obtain ⟨N,hN⟩:=CallsTo.from hc
  have hu:IntKind.u64.wrap (l.length:Int)=(l.length:Int):=by rw [wrapU64]; omega
  have t:=io_a_0 (F:=F) N db l.length (lenN l.length:Int) H (H0:=H) (fun kf=>by
    rw [hu,prim_call (pol:=plF F) (g:=63) (F:=len82) h63 (rs:=[.int .u64 (l.length:Int)]) rfl (res:=.int .i64 (lenN l.length:Int)) (by simp only [len82]; rw [if_pos (by omega),Int.toNat_natCast])]; rfl) hN
  have hc2:=CallsTo.shared (P:=Tp) (pol:=plF F) (g:=41) (fn:=Try.f41) (cd:=B41) (args:=[.sl db 0 l.length none l.length 1]) (v:=.tuple []) h41 (by kernel_rfl) (by kernel_rfl) (by kernel_rfl) t (by kernel_rfl) (by simp) (by kernel_rfl)
  rw [gc_eq _ (by simp)] at hc2
  refine ⟨l',hc2,q1,fun i j hij hj=>?_⟩
  have:=q2 i j (Nat.zero_le _) hij (by rw [← q1.length_eq]; exact hj)
  exact Int.not_lt.1 this
theorem asc_ext:∀ {a b:List Int},a.Pairwise (· < ·) → b.Pairwise (· < ·) → (∀ x,x ∈ a ↔ x ∈ b) → a=b
  | [],b,_,_,h=>by
    have:b=[]:=List.eq_nil_iff_forall_not_mem.2 fun x hx=>by cases (h x).2 hx
    rw [this]
  | x :: a,[],_,_,h=>by cases (h x).1 (List.mem_cons_self ..)
  | x :: a,y :: b,ha,hb,h=>by
    obtain ⟨a1,a2⟩:=List.pairwise_cons.1 ha
    obtain ⟨b1,b2⟩:=List.pairwise_cons.1 hb
    have e:x=y:=by
      rcases List.mem_cons.1 ((h x).1 (List.mem_cons_self ..)) with c | c
      · exact c
      · rcases List.mem_cons.1 ((h y).2 (List.mem_cons_self ..)) with d | d
        · exact d.symm
        · have:=a1 _ d
          have:=b1 _ c
          omega
    subst e
    refine congrArg (x :: ·) (asc_ext a2 b2 fun z=>?_)
    constructor
    · intro hz
      rcases List.mem_cons.1 ((h z).1 (List.mem_cons_of_mem _ hz)) with c | c
      · have:=a1 _ hz; omega
      · exact c
    · intro hz
      rcases List.mem_cons.1 ((h z).2 (List.mem_cons_of_mem _ hz)) with c | c
      · have:=b1 _ hz; omega
      · exact c
theorem sort_asc {l l':List Int} (hn:l.Nodup) (hp:l'.Perm l) (hs:∀ i j,i < j → j < l'.length → l'.getD i 0 ≤ l'.getD j 0):l'.Pairwise (· < ·):=by
  have hn':l'.Nodup:=hp.nodup_iff.2 hn
  refine List.pairwise_iff_getElem.2 fun i j hi hj hij=>?_
  have h1:=hs i j hij hj
  rw [getD_at hi,getD_at hj] at h1
  have h2:=List.pairwise_iff_getElem.1 hn' i j hi hj hij
  omega
end Go.Proofs.Ytiejmoglooaalaa
end
section
open Go Go.HL
namespace Go.Proofs.Ytiejmoglooaalaa
def bM (M:List Int):Blk:=.map (M.map encI) (M.map fun _=>HV.bool true) 0
abbrev bL (m:Nat):Blk:=.arr 1 [.sl 3 0 m (some m) m 1] true 6
abbrev hS (n:Int) (l:List St) (T M O:List Int):Heap:=[bN n l,bI T,bM M,bI O,bL l.length,bI []]
end Go.Proofs.Ytiejmoglooaalaa
end
section
open Go Go.HL
namespace Go.Proofs.Ytiejmoglooaalaa
def slE (n:Int) (l:List St):Int:=if netB n l=true then (if connB n l=true then 0 else 6) else 2
end Go.Proofs.Ytiejmoglooaalaa
end
section
open Go Go.HL
namespace Go.Proofs.Ytiejmoglooaalaa
open Go.Proofs.Try renaming prog → Tp
open Go.HL.HV renaming undef → Ud
def trG (n:Int) (l:List St):List Int:=if slE n l=0 then frT l else []
def trW (n:Int) (l:List St):Int:=if slE n l=0 then wgt l (frT l) else 0
def tree14:List HV → Option HV:=f2 kI kS fun n l=>if l.length ≤ 500∧n ≤ 13 then some (.tuple [.own 1 ((trG n l).map encI),.int .i64 (trW n l),.int .i64 (slE n l)]) else none
theorem res14:Try.f14.results.toList=[.tmp 4,.tmp 5,.tmp 6]:=by kernel_rfl
def prTe:FuncId → Option (List HV → Option HV):=fun g=>if g == 52 then some within52 else if g == 40 then some tree40 else if g == 42 then some weight42 else if g == 81 then some less81 else if g == 63 then some len82 else none
theorem soundTe (n:Nat):CallSound Tp (callN Tp (plF prTe) n):=sound_prim _ (fun g f h=>by
  unfold prTe at h
  split at h
  · rename_i hg; cases h; rw [eq_of_beq hg]; exact within_ok
  split at h
  · rename_i hg; cases h; rw [eq_of_beq hg]; exact tree_ok
  split at h
  · rename_i hg; cases h; rw [eq_of_beq hg]; exact weight_ok
  split at h
  · rename_i hg; cases h; rw [eq_of_beq hg]; exact less_ok
  split at h
  · rename_i hg; cases h; rw [eq_of_beq hg]; exact len68_ok
  · cases h) n
theorem nwF_te:NwF prTe:=⟨by kernel_rfl,by kernel_rfl,by kernel_rfl,by kernel_rfl,by kernel_rfl⟩
theorem stF_te:StF prTe:=⟨by kernel_rfl,by kernel_rfl,by kernel_rfl,by kernel_rfl,by kernel_rfl⟩
theorem nil_res3 (H:Heap) (w e:Int):toRes H false (.tuple [.imm .lit 1 [],.int .i64 w,.int .i64 e])=some (.tuple [.own 1 [],.int .i64 w,.int .i64 e]):=by
  simp [toRes,ownedAll,cellsOf,owned,resVal,resCell,mapO]; rfl
theorem treeE_ok:PrimOk Tp 14 tree14:=by
  refine primOk_pure (pol:=plF prTe) (fn:=Try.f14) (cd:=B14) follows_mixed soundTe (by kernel_rfl) (by kernel_rfl) (fnok prTe _ _ (by kernel_rfl)) (by kernel_rfl) ?_
  intro args res h
  obtain ⟨n,l,rfl,hq⟩:=f2_inv h
  split at hq
  case isFalse=>cases hq
  rename_i hl
  obtain ⟨hl,hn⟩:=hl
  cases hq
  have a:=te_a_0 (F:=prTe) 0 n (l.map encT)
  obtain ⟨N0,c39⟩:=CallsTo.from (nw_call nwF_te (H:=[]) (Nat.le_refl _) n (l:=l) (by omega))
  cases hnet:netB n l with
  | false =>
    rw [hnet] at c39
    have b:=te_b_1 (F:=prTe) N0 n (l.map encT) (y7:=Ud) (y8:=Ud) (y9:=Ud) c39 rfl stN
    have c:=te_cf_0 (F:=prTe) 0 n (l.map encT) [bN n l] (y9:=Ud)
    refine ⟨_,_,_,.tuple [.imm .lit 1 [],.int .i64 0,.int .i64 2],sq (a) (sq (b) (sqo (c) (c:=sub [1,1] B14) (b:=sub [1,1,1] B14)) (c:=sub [1] B14)) (c:=B14),by simp,by simp only [resultsV,res14]; rfl,?_⟩
    have e:slE n l=2:=by rw [slE,if_neg (by rw [hnet]; simp)]
    rw [trG,trW,e,if_neg (by decide),if_neg (by decide)]; exact nil_res3 _ _ _
  | true =>
    rw [hnet] at c39
    obtain ⟨⟨n1,n2⟩,n3,he,hw⟩:=netB_ends hnet
    have heB:=endN_B he (by omega)
    have hwB:wB l=true:=wB_iff.2 fun s hs=>by have:=hw s hs; omega
    have b:=te_b_0 (F:=prTe) N0 n (l.map encT) (y7:=Ud) (y8:=Ud) (y9:=Ud) c39 rfl stN
    have c:=te_ct_0 (F:=prTe) 0 n (l.map encT) [bN n l] (y9:=Ud)
    have c40:=at1 (pol':=plF prTe) (g:=40) (c1:=kN) (f:=fun p=>if netOk p.1 p.2 then some (.tuple [.own 1 ((treeT p.2).map encI),.bool (connB p.1 p.2)]) else none) (H:=[bN n l]) (by kernel_rfl) (ShN _ n l) (if_pos ⟨heB,by show l.length ≤ 900; omega,by show 0 ≤ n; omega,by show n ≤ 1000; omega⟩)
    rw [recv_tb] at c40
    simp only at c40
    by_cases cn:connB n l=true
    · rw [cn] at c40
      have d:=te_d_0 (F:=prTe) 0 n (l.map encT) [bN n l] 1 (treeT l).length (y9:=Ud) (ld66 rfl) c40
      have e:=te_et_0 (F:=prTe) 0 n (l.map encT) ([bN n l] ++ [bI (treeT l)]) 1 (treeT l).length
      have hlen:=tree_len hnet cn
      obtain ⟨l',cs,hp,hs⟩:=sort_call stF_te (H:=[bN n l] ++ [bI (treeT l)]) (db:=1) (l:=treeT l) rfl (by omega)
      have e1:l'=frT l:=asc_ext (sort_asc (tree_nodup' l) hp hs) (frT_asc l) fun x=>by rw [hp.mem_iff]; exact frT_mem.symm
      subst e1
      obtain ⟨N1,c41⟩:=CallsTo.from cs
      have hfl:(frT l).length=(treeT l).length:=fr_len l
      have c42:=at2 (pol':=plF prTe) (g:=42) (c1:=kN) (c2:=kL) (f:=fun p t=>if inR p.2.length t=true∧wB p.2=true∧t.length ≤ 1000 then some (.int .i64 (wgt p.2 t)) else none) (H:=[bN n l,bI (frT l)]) (v2:=.sl 1 0 (treeT l).length none (treeT l).length 1) (by kernel_rfl) (ShN _ n l) (ShL_sl (l:=frT l) hfl rfl) (if_pos ⟨inR_iff.2 fun k hk=>tree_in (frT_mem.1 hk),hwB,by show (frT l).length ≤ 1000; omega⟩)
      have z:=te_z_0 (F:=prTe) N1 n (l.map encT) ([bN n l] ++ [bI (treeT l)]) 1 (treeT l).length (wgt l (frT l)) c41 (ld66 rfl) c42
      refine ⟨_,_,_,.tuple [.sl 1 0 (treeT l).length none (treeT l).length 1,.int .i64 (wgt l (frT l)),.int .i64 0],sq (a) (sq (b) (sq (c) (sq (d) (sq (e) (z) (c:=sub [1,1,1,1] B14)) (c:=sub [1,1,1] B14)) (c:=sub [1,1] B14)) (c:=sub [1] B14)) (c:=B14),by simp,by simp only [resultsV,res14]; rfl,?_⟩
      have ee:slE n l=0:=by rw [slE,if_pos hnet,if_pos cn]
      rw [trG,trW,ee,if_pos rfl,if_pos rfl]
      exact res_lii (b:=1) rfl hfl _ _
    · rw [nb_false cn] at c40
      have d:=te_d_1 (F:=prTe) 0 n (l.map encT) [bN n l] 1 (treeT l).length (y9:=Ud) (ld66 rfl) c40
      have e:=te_ef_0 (F:=prTe) 0 n (l.map encT) ([bN n l] ++ [bI (treeT l)]) 1 (treeT l).length
      refine ⟨_,_,_,.tuple [.imm .lit 1 [],.int .i64 0,.int .i64 6],sq (a) (sq (b) (sq (c) (sq (d) (sqo (e) (c:=sub [1,1,1,1] B14) (b:=sub [1,1,1,1,1] B14)) (c:=sub [1,1,1] B14)) (c:=sub [1,1] B14)) (c:=sub [1] B14)) (c:=B14),by simp,by simp only [resultsV,res14]; rfl,?_⟩
      have ee:slE n l=6:=by rw [slE,if_pos hnet,if_neg cn]
      rw [trG,trW,ee,if_neg (by decide),if_neg (by decide)]; exact nil_res3 _ _ _
end Go.Proofs.Ytiejmoglooaalaa
end
section
open Go Go.HL
namespace Go.Proofs.Ytiejmoglooaalaa
open Go.Proofs.Try renaming prog → Tp
open Go.HL.HV renaming undef → Ud
def prAw:FuncId → Option (List HV → Option HV):=fun g=>if g == 21 then some ints21 else if g == 52 then some within52 else if g == 54 then some ordered54 else if g == 40 then some tree40 else if g == 71 then some cmp71 else if g == 70 then some fst70 else none
theorem soundAw (n:Nat):CallSound Tp (callN Tp (plF prAw) n):=sound_prim _ (fun g f h=>by
  unfold prAw at h
  split at h
  · rename_i hg; cases h; rw [eq_of_beq hg]; exact ints_ok
  split at h
  · rename_i hg; cases h; rw [eq_of_beq hg]; exact within_ok
  split at h
  · rename_i hg; cases h; rw [eq_of_beq hg]; exact ordered_ok
  split at h
  · rename_i hg; cases h; rw [eq_of_beq hg]; exact tree_ok
  split at h
  · rename_i hg; cases h; rw [eq_of_beq hg]; exact cmp_ok
  split at h
  · rename_i hg; cases h; rw [eq_of_beq hg]; exact fst_ok
  · cases h) n
set_option maxRecDepth 100000 in
theorem awake_run:callN Tp (plF prAw) 400 18 [] []=some (.bool true,[]):=by kernel_rfl
end Go.Proofs.Ytiejmoglooaalaa
end
section
open Go Go.HL
namespace Go.Proofs.Ytiejmoglooaalaa
open Go.Proofs.Try renaming prog → Tp
open Go.HL.HV renaming undef → Ud
def awakeF:List HV → Option HV | []=>some (.bool true) | _=>none
theorem awake_prim:PrimOk Tp 18 awakeF:=by
  refine primOk_of (pol:=plF prAw) soundAw (by kernel_rfl) fun args res h=>?_
  match args,h with
  | [],h =>
    cases h
    exact ⟨400,_,_,false,awake_run,rfl⟩
theorem awake_at {pol':Pol} (hp:pol'.prim 18=some awakeF) (H:Heap):∀ k,callN Tp pol' (k+1) 18 [] H=some (.bool true,H):=fun k=>by
  rw [prim_call (pol:=pol') (g:=18) (F:=awakeF) hp (rs:=[]) rfl (res:=.bool true) rfl]; rfl
theorem recv_lii (l:List Int) (m e:Int) (H:Heap):recv (.tuple [.own 1 (l.map encI),.int .i64 m,.int .i64 e]) H=(.tuple [.sl H.length 0 l.length none l.length 1,.int .i64 m,.int .i64 e],H ++ [bI l]):=by
  have h:recvCell (.own 1 (l.map encI)) H=(.sl H.length 0 l.length none l.length 1,H ++ [bI l]):=by
    simp only [recvCell,encI_any,List.length_map]; rfl
  simp only [recv,recvVals,recvVal,h]; rfl
end Go.Proofs.Ytiejmoglooaalaa
end
section
open Go Go.HL
namespace Go.Proofs.Ytiejmoglooaalaa
set_option linter.unusedSectionVars false
open Go.Proofs.Try renaming prog → Tp
open Go.HL.HV renaming undef → Ud
def prL5:FuncId → Option (List HV → Option HV):=fun g=>if g == 18 then some awakeF else if g == 24 then some mod24 else if g == 25 then some tame25 else if g == 14 then some tree14 else if g == 27 then some narrow27 else if g == 28 then some rtree28 else if g == 29 then some rnarrow29 else none
theorem soundL5 (n:Nat):CallSound Tp (callN Tp (plF prL5) n):=sound_prim _ (fun g f h=>by
  unfold prL5 at h
  split at h
  · rename_i hg; cases h; rw [eq_of_beq hg]; exact awake_prim
  split at h
  · rename_i hg; cases h; rw [eq_of_beq hg]; exact mod_ok
  split at h
  · rename_i hg; cases h; rw [eq_of_beq hg]; exact tame_ok
  split at h
  · rename_i hg; cases h; rw [eq_of_beq hg]; exact treeE_ok
  split at h
  · rename_i hg; cases h; rw [eq_of_beq hg]; exact narrow_ok
  split at h
  · rename_i hg; cases h; rw [eq_of_beq hg]; exact rtree_ok
  split at h
  · rename_i hg; cases h; rw [eq_of_beq hg]; exact rnarrow_ok
  · cases h) n
theorem res5:Try.f5.results.toList=[.tmp 6]:=by kernel_rfl
abbrev polL5:Pol:=plF prL5
theorem idx_st {b n y:Nat} {cap:Option Nat} (h:y < n):idxV Tp 22 (.sl b 0 n cap n 3) (.int .i64 (y:Int))=some (.ptr b y 0 n):=by
  have:=idx_sl (P:=Tp) (t:=22) (e:=42) (k:=3) (b:=b) (len:=n) (tot:=n) (cap:=cap) (ik:=.i64) (n:=(y:Int)) u22 z42 (by omega) (by omega)
  rwa [Int.toNat_natCast] at this
theorem load_st {H:Heap} {b:Nat} {o:List St} (h:H[b]?=some (bS o)) {y:Nat} (hy:y < o.length):loadV Tp H 42 (.ptr b y 0 o.length)=some (encT (o.getD y (0,0,0))) :=
  load_agg (P:=Tp) (b:=b) (els:=o.map encT) (cs:=[.int .i64 (o.getD y (0,0,0)).1,.int .i64 (o.getD y (0,0,0)).2.1,.int .i64 (o.getD y (0,0,0)).2.2]) h (by simp) (by rw [getD_at hy]; simp [hy,encT]) a42 z42
theorem ways_loop {n u0 v0 x0 u v a:Int} {ls:List HV} {own:List St} {T:List Int} {X:Blk} (hT:∀ k ∈ T,0 ≤ k∧k < (own.length:Int)) (hTl:T.length ≤ 60) :
    RT polL5 5 (sub [1,1,1,1,1,1,1,1,1,1,1,0,1,0] B5) ((env5 (.int .i64 n) (.imm .arg 3 ls) (.agg [.int .i64 u0,.int .i64 v0,.int .i64 x0]) Ud (.bool false) (.sl 1 0 own.length none own.length 3) (.int .i64 u) (.int .i64 v) Ud (.sl 2 0 T.length none T.length 1) Ud (.int .i64 a) Ud Ud Ud Ud Ud Ud Ud (.sl 3 0 (0) none (0) 3) (.int .i64 ((0:Nat):Int)) Ud Ud)) [X,bS own,bI T,bS []] (.exit 0) ((env5 (.int .i64 n) (.imm .arg 3 ls) (.agg [.int .i64 u0,.int .i64 v0,.int .i64 x0]) Ud (.bool false) (.sl 1 0 own.length none own.length 3) (.int .i64 u) (.int .i64 v) Ud (.sl 2 0 T.length none T.length 1) Ud (.int .i64 a) Ud Ud Ud Ud Ud Ud Ud (.sl 3 0 (T.length) none (T.length) 3) (.int .i64 ((T.length:Nat):Int)) Ud Ud)) [X,bS own,bI T,bS (onl own T)]:=by
  have hlen:∀ i,i ≤ T.length → (onl own (T.take i)).length=i:=fun i hi=>by rw [onl_len,List.length_take]; omega
  have r:=count (pol':=polL5) (f:=5) (E:=fun i=>(env5 (.int .i64 n) (.imm .arg 3 ls) (.agg [.int .i64 u0,.int .i64 v0,.int .i64 x0]) Ud (.bool false) (.sl 1 0 own.length none own.length 3) (.int .i64 u) (.int .i64 v) Ud (.sl 2 0 T.length none T.length 1) Ud (.int .i64 a) Ud Ud Ud Ud Ud Ud Ud (.sl 3 0 (i) none (i) 3) (.int .i64 ((i:Nat):Int)) Ud Ud)) (Hs:=fun i=>[X,bS own,bI T,bS (onl own (T.take i))]) T.length (E0:=fun i=>(env5 (.int .i64 n) (.imm .arg 3 ls) (.agg [.int .i64 u0,.int .i64 v0,.int .i64 x0]) Ud (.bool false) (.sl 1 0 own.length none own.length 3) (.int .i64 u) (.int .i64 v) Ud (.sl 2 0 T.length none T.length 1) Ud (.int .i64 a) Ud Ud Ud Ud Ud Ud Ud (.sl 3 0 (i+1) none (i+1) 3) (.int .i64 ((i+1:Nat):Int)) Ud Ud)) (H1:=fun i=>[X,bS own,bI T,bS (onl own (T.take (i+1)))])
    (fun i hi=>by
      have hk:=hT _ (mem_getD 0 hi)
      have ix:=idxS (b:=2) (cap:=none) u24 z3 hi
      have ly:=load_out (H:=[X,bS own,bI T,bS (onl own (T.take i))]) (k:=2) (o:=T) rfl hi
      have iy:=idx_st (b:=1) (n:=own.length) (cap:=none) (show (T.getD i 0).toNat < own.length by omega)
      have lo:=load_st (H:=[X,bS own,bI T,bS (onl own (T.take i))]) (b:=1) (o:=own) rfl (show (T.getD i 0).toNat < own.length by omega)
      have hl:=hlen i (by omega)
      have ap:=app_sts (H:=[X,bS own,bI T,bS (onl own (T.take i))]) (b:=3) (o:=onl own (T.take i)) (xs:=[own.getD (T.getD i 0).toNat (0,0,0)]) rfl (by rw [hl]; simp; omega) (by simp)
      have e1:onl own (T.take i) ++ [own.getD (T.getD i 0).toNat (0,0,0)]=onl own (T.take (i+1)):=by rw [take_snoc hi,onl,onl,List.map_append]; rfl
      rw [e1,hl,hlen (i+1) (by omega)] at ap
      rw [show T.getD i 0=(((T.getD i 0).toNat:Nat):Int) by omega] at ly
      have s:=wy_l_0 (F:=prL5) n ls u0 v0 x0 [X,bS own,bI T,bS (onl own (T.take i))] 1 own.length u v 2 T.length 3 i a i (T.getD i 0).toNat _ _ _ (y5:=Ud) (y10:=Ud) (y13:=Ud) (y15:=Ud) (y16:=Ud) (y17:=Ud) (y18:=Ud) (y19:=Ud) (y20:=Ud) (y21:=Ud) (y24:=Ud) (y25:=Ud) (by omega) ix ly iy lo ap
      rw [wrap_succ (by omega)] at s
      exact s) (fun i _=>by kernel_rfl) (fun i _=>gc_eq _ rfl) (by rw [List.take_length]; exact wy_l_1 (F:=prL5) n ls u0 v0 x0 [X,bS own,bI T,bS (onl own T)] 1 own.length u v 2 T.length 3 T.length a T.length 0 0 0 0 (y5:=Ud) (y10:=Ud) (y13:=Ud) (y15:=Ud) (y16:=Ud) (y17:=Ud) (y18:=Ud) (y19:=Ud) (y20:=Ud) (y21:=Ud) (y24:=Ud) (y25:=Ud) (by omega)) (by simp) (c:=sub [1,1,1,1,1,1,1,1,1,1,1,0,1,0] B5) (by kernel_rfl) (fun i _=>by kernel_rfl)
  exact r
theorem streetsWays_law (n:Int) (l:List St) (u0 v0 x0:Int):∃ E H,RT polL5 5 B5 (args0 [.int .i64 n,.imm .arg 3 (l.map encT),.agg [.int .i64 u0,.int .i64 v0,.int .i64 x0]]) [] .ret E H∧E.get 6=.bool true:=by
  have a:=wy_a_0 (F:=prL5) n (l.map encT) u0 v0 x0
  have hp:=modW_rng n (n:=12) (by omega) (by omega)
  have b:=wy_b_0 (F:=prL5) n (l.map encT) u0 v0 x0 [bT (u0,v0,x0)] (modW n 12) (y7:=Ud) (y8:=Ud) (y9:=Ud) (y10:=Ud) (y11:=Ud) (y13:=Ud) (y14:=Ud) (y15:=Ud) (y16:=Ud) (y17:=Ud) (y18:=Ud) (y19:=Ud) (y20:=Ud) (y21:=Ud) (y22:=Ud) (y23:=Ud) (y24:=Ud) (y25:=Ud) (mod_at (F:=prL5) (by kernel_rfl) n (n:=12) (by omega) _)
  have hw:IntKind.i64.wrap (2+modW n 12)=2+modW n 12:=wrap_id (by omega) (by omega)
  rw [hw] at b
  generalize hm:2+modW n 12=m at *
  have hm1:1 ≤ m∧m ≤ 13:=by omega
  have c25:=at3 (pol':=polL5) (g:=25) (c1:=kS) (c2:=kI) (c3:=kI) (f:=fun l n most=>if (1 ≤ n∧n ≤ 100)∧0 ≤ most∧most ≤ 100 then some (.own 3 ((tamT n l most).map encT)) else none) (H:=[bT (u0,v0,x0)]) (by kernel_rfl) (ShS_imm _ l) (ShI _ m) (ShI _ 30) (if_pos ⟨by omega,by omega,by omega⟩)
  rw [recv_sts] at c25
  have hnet:=tam_net (n:=m) (by omega) l (most:=30) (by omega)
  have hc:=tam_conn (n:=m) (by omega) l (most:=30) (by omega)
  have hol:=tam_len m l 30
  generalize tamT m l 30=own at *
  have c:=wy_c_0 (F:=prL5) m (l.map encT) u0 v0 x0 [bT (u0,v0,x0)] 1 own.length (y7:=Ud) (y8:=Ud) (y9:=Ud) (y10:=Ud) (y11:=Ud) (y13:=Ud) (y14:=Ud) (y15:=Ud) (y16:=Ud) (y17:=Ud) (y18:=Ud) (y19:=Ud) (y20:=Ud) (y21:=Ud) (y22:=Ud) (y23:=Ud) (y24:=Ud) (y25:=Ud) c25
  have mu:=modW_rng u0 (n:=m) (by omega) (by omega)
  have mv:=modW_rng v0 (n:=m) (by omega) (by omega)
  have mx:=modW_rng x0 (n:=m) (by omega) (by omega)
  have cu:=fun H=>mod_at (F:=prL5) (by kernel_rfl) u0 (n:=m) (by omega) H
  have cv:=fun H=>mod_at (F:=prL5) (by kernel_rfl) v0 (n:=m) (by omega) H
  have cx:=fun H=>mod_at (F:=prL5) (by kernel_rfl) x0 (n:=m) (by omega) H
  have hb0:([bT (u0,v0,x0),bS own]:Heap)[0]?=some (bT (u0,v0,x0)):=rfl
  have lu:=ldT hb0 0 u0 rfl
  have lv:=ldT hb0 1 v0 rfl
  have lx:=ldT hb0 2 x0 rfl
  have sH:sameH [bT (u0,v0,x0),bS own] [bT (u0,v0,x0),bS own]=true:=sameH_app (A:=[bT (u0,v0,x0)]) (sameB_S [(u0,v0,x0)]) (sameB_S own)
  have d:=wy_d_0 (F:=prL5) m (l.map encT) u0 v0 x0 [bT (u0,v0,x0),bS own] 1 own.length _ _ _ (y8:=Ud) (y9:=Ud) (y10:=Ud) (y11:=Ud) (y13:=Ud) (y14:=Ud) (y15:=Ud) (y16:=Ud) (y17:=Ud) (y18:=Ud) (y19:=Ud) (y20:=Ud) (y21:=Ud) (y22:=Ud) (y23:=Ud) (y24:=Ud) (y25:=Ud) lu (cu _) lv (cv _) lx (cx _) (by simp only [lv,lx,Option.map_some,recL,sH,same,beq_self_eq_true,Bool.and_self])
  generalize modW u0 m=u at *
  generalize modW v0 m=v at *
  generalize modW x0 m=x at *
  obtain ⟨na,nc,nd,n1,n2,n3,n4,n5⟩:=nar_law hnet hc mu mv mx
  have sS:∀ X:Heap,Sh kS ([bT (u0,v0,x0),bS own] ++ X) (.sl 1 0 own.length none own.length 3) own:=fun X=>ShS_sl rfl rfl
  have c14:=at2 (pol':=polL5) (g:=14) (c1:=kI) (c2:=kS) (f:=fun n l=>if l.length ≤ 500∧n ≤ 13 then some (.tuple [.own 1 ((trG n l).map encI),.int .i64 (trW n l),.int .i64 (slE n l)]) else none) (H:=[bT (u0,v0,x0),bS own]) (by kernel_rfl) (ShI _ m) (sS []) (if_pos ⟨by omega,by omega⟩)
  have ee:slE m own=0:=by rw [slE,if_pos hnet,if_pos hc]
  rw [recv_lii,trG,trW,ee,if_pos rfl,if_pos rfl] at c14
  have e:=wy_e_0 (F:=prL5) m (l.map encT) u0 v0 x0 [bT (u0,v0,x0),bS own] 1 own.length u v x 2 (frT own).length 0 (wgt own (frT own)) (y11:=Ud) (y13:=Ud) (y14:=Ud) (y15:=Ud) (y16:=Ud) (y17:=Ud) (y18:=Ud) (y19:=Ud) (y20:=Ud) (y21:=Ud) (y22:=Ud) (y23:=Ud) (y24:=Ud) (y25:=Ud) c14
  have hT:=fr_tr hnet hc
  generalize hK:[bT (u0,v0,x0),bS own] ++ [bI (frT own)]=K at *
  have sK:Sh kS K (.sl 1 0 own.length none own.length 3) own:=by rw [← hK]; exact sS _
  have c27:∀ (u v r:Int),narT m own u v=(r,0) → ∀ k,callN Tp polL5 (k+1) 27 [.int .i64 m,.sl 1 0 own.length none own.length 3,.int .i64 u,.int .i64 v] K=some (.tuple [.int .i64 r,.int .i64 0],K):=fun u v r h=>by
    have:=at4 (pol':=polL5) (g:=27) (c1:=kI) (c2:=kS) (c3:=kI) (c4:=kI) (f:=fun n l u v=>if l.length ≤ 500 then some (.tuple [.int .i64 (narT n l u v).1,.int .i64 (narT n l u v).2]) else none) (H:=K) (by kernel_rfl) (ShI _ m) sK (ShI _ u) (ShI _ v) (if_pos (by omega))
    rw [h] at this
    exact this
  have f:=wy_f_0 (F:=prL5) m (l.map encT) u0 v0 x0 K 1 own.length u v x 2 (frT own).length 0 na 0 (y14:=Ud) (y15:=Ud) (y16:=Ud) (y17:=Ud) (y18:=Ud) (y19:=Ud) (y20:=Ud) (y21:=Ud) (y22:=Ud) (y23:=Ud) (y24:=Ud) (y25:=Ud) (c27 _ _ _ n1)
  have g:=wy_g_0 (F:=prL5) m (l.map encT) u0 v0 x0 K 1 own.length u v x 2 (frT own).length 0 na 0 na 0 (y16:=Ud) (y17:=Ud) (y18:=Ud) (y19:=Ud) (y20:=Ud) (y21:=Ud) (y22:=Ud) (y23:=Ud) (y24:=Ud) (y25:=Ud) (c27 _ _ _ n2)
  have h:=wy_h_0 (F:=prL5) m (l.map encT) u0 v0 x0 K 1 own.length u v x 2 (frT own).length 0 na 0 na 0 nc 0 (y18:=Ud) (y19:=Ud) (y20:=Ud) (y21:=Ud) (y22:=Ud) (y23:=Ud) (y24:=Ud) (y25:=Ud) (c27 _ _ _ n3)
  have i:=wy_i_0 (F:=prL5) m (l.map encT) u0 v0 x0 K 1 own.length u v x 2 (frT own).length 0 na 0 na 0 nc 0 nd 0 (y20:=Ud) (y21:=Ud) (y22:=Ud) (y23:=Ud) (y24:=Ud) (y25:=Ud) (c27 _ _ _ n4)
  have hfl:(frT own).length ≤ 60:=by have:=frT_le own; omega
  obtain ⟨⟨w1,w2⟩,w3,he,_⟩:=netB_ends hnet
  have c28:=at3 (pol':=polL5) (g:=28) (c1:=kI) (c2:=kS) (c3:=kL) (f:=fun n l t=>if (0 ≤ n∧n ≤ 16)∧endN n l=true∧t.length ≤ 500∧l.length ≤ 500 then some (.bool (isT n l t)) else none) (H:=K) (by kernel_rfl) (ShI _ m) sK (ShL_sl (b:=2) (l:=frT own) rfl (by rw [← hK]; rfl)) (if_pos ⟨by omega,he,by omega,by omega⟩)
  rw [tr_isT hT (frT_asc own)] at c28
  have j:=wy_j_1 (F:=prL5) m (l.map encT) u0 v0 x0 K 1 own.length u v x 2 (frT own).length 0 na 0 na 0 nc 0 nd 0 (y22:=Ud) (y23:=Ud) (y24:=Ud) (y25:=Ud) rfl rfl rfl rfl rfl rfl n5 c28
  have hKl:K.length=3:=by rw [← hK]; rfl
  have k:=wy_k_0 (F:=prL5) m (l.map encT) u0 v0 x0 K 1 own.length u v 2 (frT own).length 0 0 na (y10:=.int .i64 x) (y13:=.int .i64 0) (y15:=.int .i64 0) (y16:=.int .i64 na) (y17:=.int .i64 0) (y18:=.int .i64 nc) (y19:=.int .i64 0) (y20:=.int .i64 nd) (y21:=.int .i64 0) (y22:=Ud) (y23:=Ud) (y24:=Ud) (y25:=Ud) rfl
  rw [hKl] at k
  have k2:=wy_l0_0 (F:=prL5) m (l.map encT) u0 v0 x0 (K ++ [bS []]) 1 own.length u v 2 (frT own).length 3 0 na (y10:=.int .i64 x) (y13:=.int .i64 0) (y15:=.int .i64 0) (y16:=.int .i64 na) (y17:=.int .i64 0) (y18:=.int .i64 nc) (y19:=.int .i64 0) (y20:=.int .i64 nd) (y21:=.int .i64 0) (y23:=Ud) (y24:=Ud) (y25:=Ud)
  have lp:=ways_loop (n:=m) (u0:=u0) (v0:=v0) (x0:=x0) (u:=u) (v:=v) (a:=na) (ls:=l.map encT) (X:=bT (u0,v0,x0)) hT.rg hfl
  have hK2:[bT (u0,v0,x0),bS own,bI (frT own),bS []]=K ++ [bS []]:=by rw [← hK]; rfl
  rw [hK2] at lp
  obtain ⟨o1,o2⟩:=onl_fr hnet hc
  have c29:=at4 (pol':=polL5) (g:=29) (c1:=kI) (c2:=kS) (c3:=kI) (c4:=kI) (f:=fun n l u v=>if netB n l=true∧(0 ≤ u∧u < n)∧(0 ≤ v∧v < n) then some (.tuple [.int .i64 (rnarO l u v).1,.bool (rnarO l u v).2]) else none) (H:=[bT (u0,v0,x0),bS own,bI (frT own),bS (onl own (frT own))]) (v2:=.sl 3 0 (frT own).length none (frT own).length 3) (by kernel_rfl) (ShI _ m) (ShS_sl (l:=onl own (frT own)) (onl_len ..) rfl) (ShI _ u) (ShI _ v) (if_pos ⟨o1,mu,mv⟩)
  rw [onl_nar hnet hc mu mv n1] at c29
  have z:=wy_z_0 (F:=prL5) m (l.map encT) u0 v0 x0 _ 1 own.length u v 2 (frT own).length 3 (frT own).length na na (y23:=.int .i64 ((frT own).length:Int)) (y5:=Ud) (y10:=Ud) (y13:=Ud) (y15:=Ud) (y16:=Ud) (y17:=Ud) (y18:=Ud) (y19:=Ud) (y20:=Ud) (y21:=Ud) (y24:=Ud) (y25:=Ud) c29 rfl (fun k=>awake_at (by kernel_rfl) _ k)
  exact ⟨_,_,sq (a) (sq (b) (sq (c) (sq (d) (sq (e) (sq (f) (sq (g) (sq (h) (sq (i) (sq (j) (sq (k) (sq (sq (k2) (bke (c:=sub [1,1,1,1,1,1,1,1,1,1,1,0,1] B5) (lpi (e0:=(env5 (.int .i64 m) (.imm .arg 3 (l.map encT)) (.agg [.int .i64 u0,.int .i64 v0,.int .i64 x0]) (.ptr 0 0 0 1) (.bool false) (.sl 1 0 own.length none own.length 3) (.int .i64 u) (.int .i64 v) (.int .i64 x) (.sl 2 0 (frT own).length none (frT own).length 1) (.int .i64 0) (.int .i64 na) (.int .i64 0) (.int .i64 na) (.int .i64 0) (.int .i64 nc) (.int .i64 0) (.int .i64 nd) (.int .i64 0) (.sl 3 0 0 none 0 3) (.int .i64 ((0:Nat):Int)) Ud Ud)) lp (b:=sub [1,1,1,1,1,1,1,1,1,1,1,0,1,0,0] B5))) (c:=sub [1,1,1,1,1,1,1,1,1,1,1,0] B5)) (z) (c:=sub [1,1,1,1,1,1,1,1,1,1,1] B5)) (c:=sub [1,1,1,1,1,1,1,1,1,1] B5)) (c:=sub [1,1,1,1,1,1,1,1,1] B5)) (c:=sub [1,1,1,1,1,1,1,1] B5)) (c:=sub [1,1,1,1,1,1,1] B5)) (c:=sub [1,1,1,1,1,1] B5)) (c:=sub [1,1,1,1,1] B5)) (c:=sub [1,1,1,1] B5)) (c:=sub [1,1,1] B5)) (c:=sub [1,1] B5)) (c:=sub [1] B5)) (c:=B5),rfl⟩
end Go.Proofs.Ytiejmoglooaalaa
end
section
namespace Go.HL
open Go.ChangeShapes Go.WideShapes Go.ChangeAt Go.RowKit Go.Deep
theorem okNil (w:World) (r:Nat):okOf Ctx.nil w.heap.size false r:=by
  refine ⟨fun hM=>?_,by simp⟩
  obtain ⟨b,y,h1,_,_⟩:=M_iff.1 hM
  simp [Ctx.nil] at h1
theorem cell_lt {w:World} {a:Addr} {v:Value} (h:w.cell? a=some v):a.block < w.heap.size:=by
  rcases Nat.lt_or_ge a.block w.heap.size with hl | hl
  · exact hl
  · have:w.heap[a.block]?=none:=by simp [hl]
    simp [World.cell?,this] at h
end Go.HL
end
section
namespace Go.HL
open Go.ChangeShapes Go.WideShapes Go.ChangeAt Go.RowKit Go.Deep
abbrev encTr (s:Int × Int × Int):HV:=.agg [.int .i64 s.1,.int .i64 s.2.1,.int .i64 s.2.2]
theorem arg_trips_ok {H:Type} {enc:TypeId × Value → H} {P:Program} {W:World} {base:Nat} {t e q:TypeId} {v:Value} {d:DataW H} {ps:List MemPlace} {f0 f1 f2:Field} (ht:P.underlying t=some (.slice e)) (he:P.underlying e=some (.struct #[f0,f1,f2])) (t0:f0.type=q) (t1:f1.type=q) (t2:f2.type=q) (o0:f0.offset=0) (o1:f1.offset=1) (o2:f2.offset=2) (hq:P.underlying q=some (.int .i64)) (ce:P.cellsOf e=3) (cq:P.cellsOf q=1)
    (hval:Value.okWide P W .any base t v) (hd:DataW.Trod enc P W 0 (fun _=>true) true t v d ps):∃ l:List (Int × Int × Int),V W (okOf Ctx.nil W.heap.size) Ctx.nil (.imm .arg 3 (l.map encTr)) v:=by
  obtain ⟨a,len,cap,rfl⟩:=okWide_slice ht hval
  obtain ⟨fuel,hf⟩:=hd
  rcases open_slice ht hf with ⟨h0,_⟩ | ⟨a',len',cap',m,n,D,Pl,h0,hb,hl,hm,hmm,hx,hel⟩
  · simp [Value.cells] at h0
    obtain ⟨rfl,rfl,rfl⟩:=h0
    exact ⟨[],.imm .arg 3 [] none 0 (fun _=>.bool false) (by simp) (by simp) (by simp) (by simp) (by simp) (by simp)⟩
  · simp [Value.cells] at h0
    obtain ⟨rfl,rfl,rfl⟩:=h0
    have hlm:len ≤ m:=by rw [hmm]; split <;> omega
    have each:∀ i,i < len → ∃ p:Int × Int × Int,W.cell? (a'.add (i * 3))=some (.int .i64 p.1)∧W.cell? (a'.add (i * 3+1))=some (.int .i64 p.2.1)∧W.cell? (a'.add (i * 3+2))=some (.int .i64 p.2.2):=by
      intro i hi
      obtain ⟨cs',h1,h2⟩:=hel i (by omega)
      rw [ce] at h1
      obtain ⟨_,hlen,hcell⟩:=World.cells?_some h1
      obtain ⟨y0,y1,y2,k,_,_,g0,g1,g2⟩:=trod_struct3 he h2
      rw [t0,o0,cq] at g0
      rw [t1,o1,cq] at g1
      rw [t2,o2,cq] at g2
      match cs',hlen with
      | [v0,v1,v2],_ =>
        simp at g0 g1 g2
        obtain ⟨z0,e0,_,_⟩:=DataW.trod_int hq g0
        obtain ⟨z1,e1,_,_⟩:=DataW.trod_int hq g1
        obtain ⟨z2,e2,_,_⟩:=DataW.trod_int hq g2
        simp at e0 e1 e2
        subst e0; subst e1; subst e2
        have c0:=hcell 0 (by omega)
        have c1:=hcell 1 (by omega)
        have c2:=hcell 2 (by omega)
        rw [add_add] at c0 c1 c2
        exact ⟨(z0,z1,z2),by simpa using c0,by simpa using c1,by simpa using c2⟩
    obtain ⟨f,hf⟩:=choose_lt each
    refine ⟨(List.range len).map f,?_⟩
    have hlen:(((List.range len).map f).map encTr).length=len:=by simp
    have key:=V.imm (w:=W) (ok:=okOf Ctx.nil W.heap.size) (c:=Ctx.nil) .arg 3 (((List.range len).map f).map encTr) (some a') cap (fun j=>if j % 3=0 then .int .i64 (f (j / 3)).1 else if j % 3=1 then .int .i64 (f (j / 3)).2.1 else .int .i64 (f (j / 3)).2.2)
      (by rw [hlen]; exact hl) (by simp) ?_ ?_ ?_ ?_
    · rw [hlen] at key; exact key
    · intro hne
      have h0:0 < len:=by
        rcases Nat.eq_zero_or_pos len with h | h
        · subst h; simp at hne
        · exact h
      obtain ⟨b,off,spot⟩:=a'
      have hspot:spot=none:=by simpa [Addr.add] using World.cell?_spot (hf 0 h0).1
      subst hspot
      refine ⟨b,off,rfl,by simpa [Addr.add] using cell_lt (hf 0 h0).1,okNil W b,fun j hj=>?_⟩
      rw [hlen] at hj
      have hj2:j / 3 < len:=by omega
      obtain ⟨c0,c1,c2⟩:=hf (j / 3) hj2
      by_cases hp:j % 3=0
      · rw [if_pos hp]
        have:j / 3 * 3=j:=by omega
        rw [this,add_plain] at c0
        exact c0
      by_cases hp1:j % 3=1
      · rw [if_neg hp,if_pos hp1]
        have:j / 3 * 3+1=j:=by omega
        rw [this,add_plain] at c1
        exact c1
      · rw [if_neg hp,if_neg hp1]
        have:j / 3 * 3+2=j:=by omega
        rw [this,add_plain] at c2
        exact c2
    · intro v hv
      obtain ⟨p,_,rfl⟩:=List.mem_map.1 hv
      rfl
    · intro v hv
      obtain ⟨p,_,rfl⟩:=List.mem_map.1 hv
      rfl
    · intro i v j x hi hj
      have hil:i < len:=by have:=lt_of_get hi; rw [hlen] at this; exact this
      have:v=encTr (f i):=by
        rw [List.getElem?_map,List.getElem?_map,List.getElem?_range hil] at hi
        simpa using hi.symm
      subst this
      have hjx:j < 3:=lt_of_get hj
      match j,hjx,hj with
      | 0,_,hj =>
        simp [encTr,cellsOf] at hj
        subst hj
        have e1:(i * 3+0) % 3=0:=by omega
        have e2:(i * 3+0) / 3=i:=by omega
        rw [if_pos e1,e2]
        exact V.int _ _
      | 1,_,hj =>
        simp [encTr,cellsOf] at hj
        subst hj
        have e0:¬ (i * 3+1) % 3=0:=by omega
        have e1:(i * 3+1) % 3=1:=by omega
        have e2:(i * 3+1) / 3=i:=by omega
        rw [if_neg e0,if_pos e1,e2]
        exact V.int _ _
      | 2,_,hj =>
        simp [encTr,cellsOf] at hj
        subst hj
        have e0:¬ (i * 3+2) % 3=0:=by omega
        have e1:¬ (i * 3+2) % 3=1:=by omega
        have e2:(i * 3+2) / 3=i:=by omega
        rw [if_neg e0,if_neg e1,e2]
        exact V.int _ _
theorem arg_three_ok {H:Type} {enc:TypeId × Value → H} {P:Program} {W:World} {base:Nat} {t q:TypeId} {v:Value} {d:DataW H} {ps:List MemPlace} (ht:P.underlying t=some (.array 3 q)) (hq:P.underlying q=some (.int .i64)) (ct:P.cellsOf t=3) (cq:P.cellsOf q=1)
    (hval:Value.okWide P W .any base t v) (hd:DataW.Trod enc P W 0 (fun _=>true) true t v d ps):∃ a b c:Int,V W (okOf Ctx.nil W.heap.size) Ctx.nil (.agg [.int .i64 a,.int .i64 b,.int .i64 c]) v:=by
  unfold Value.okWide at hval
  simp only [ht] at hval
  obtain ⟨cs,rfl,hsz,_⟩:=hval
  rw [ct] at hsz
  obtain ⟨fuel,hf⟩:=hd
  obtain ⟨xs,k,_,_,_,hxl,hxs⟩:=DataW.trod_array ht hf
  have g0:=hxs 0 (by omega)
  have g1:=hxs 1 (by omega)
  have g2:=hxs 2 (by omega)
  rw [cq] at g0 g1 g2
  have hx0:xs[0]?=some xs[0]:=List.getElem?_eq_getElem (by omega)
  have hx1:xs[1]?=some xs[1]:=List.getElem?_eq_getElem (by omega)
  have hx2:xs[2]?=some xs[2]:=List.getElem?_eq_getElem (by omega)
  rw [hx0] at g0
  rw [hx1] at g1
  rw [hx2] at g2
  obtain ⟨l⟩:=cs
  simp [Value.cells] at g0 g1 g2 hsz
  obtain ⟨v0,v1,v2,rfl⟩:∃ v0 v1 v2,l=[v0,v1,v2]:=by
    match l,hsz with
    | [a,b,c],_=>exact ⟨a,b,c,rfl⟩
  obtain ⟨z0,e0,_,_⟩:=DataW.trod_int hq g0
  obtain ⟨z1,e1,_,_⟩:=DataW.trod_int hq g1
  obtain ⟨z2,e2,_,_⟩:=DataW.trod_int hq g2
  have f0:v0=.int .i64 z0:=by simpa using e0
  have f1:v1=.int .i64 z1:=by simpa using e1
  have f2:v2=.int .i64 z2:=by simpa using e2
  subst f0; subst f1; subst f2
  refine ⟨z0,z1,z2,V.agg _ _ rfl (fun v hv=>?_) fun i v r h1 h2=>?_⟩
  · simp only [List.mem_cons,List.not_mem_nil,or_false] at hv
    rcases hv with rfl | rfl | rfl <;> rfl
  · match i,h1,h2 with
    | 0,h1,h2=>simp at h1 h2; subst h1; subst h2; exact V.int _ _
    | 1,h1,h2=>simp at h1 h2; subst h1; subst h2; exact V.int _ _
    | 2,h1,h2=>simp at h1 h2; subst h1; subst h2; exact V.int _ _
end Go.HL
end
