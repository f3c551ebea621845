/- A part of the proof. -/
import Derived.Test.YtaibmipamkaljaaSnD
set_option linter.unusedVariables false
set_option linter.unusedSimpArgs false
set_option linter.unnecessarySimpa false
section
open Go Go.HL
namespace Go.Proofs.Ytaibmipamkaljaa
set_option maxRecDepth 100000
set_option maxHeartbeats 4000000
open Go.Proofs.Try renaming prog → Tp
open Go.HL.HV renaming undef → Ud
noncomputable def B11:Code:=Try.f11.body.getD .skip
abbrev env11 (v0 v1 v2 v6 v7 v8 v9 v10 v11 v12 v13 v14 v15 v16 v17 v19:HV):Env:=[(0,v0),(1,v1),(2,v2),(6,v6),(7,v7),(8,v8),(9,v9),(10,v10),(11,v11),(12,v12),(13,v13),(14,v14),(15,v15),(16,v16),(17,v17),(19,v19)]
theorem sb_0 (l0 rw l2:List HV) (bd od:Int) (p0:Nat) (h0:List HV) (p1:Nat) (h1:List HV) (p2:Nat) (h2:List HV) (p3:Nat) (h3:List HV) (p4:Nat) (h4:List HV) (p5:Nat) (h5:List HV) (p6:Nat) (h6:List HV) (p7:Nat) (h7:List HV) (p8:Nat) (h8:List HV)(g0:∀ kf,callN Tp polL11 (kf+1) 14 [.a l0] []=some (.s 0 p0,[.b h0])) (g1:∀ kf,callN Tp polL11 (kf+1) 33 [.a rw] [.b h0]=some (.s 1 p1,[.b h0,.b h1])) (g2:∀ kf,callN Tp polL11 (kf+1) 14 [.a l2] [.b h0,.b h1]=some (.s 2 p2,[.b h0,.b h1,.b h2])) (g3:∀ kf,callN Tp polL11 (kf+1) 25 [.s 0 p0] [.b h0,.b h1,.b h2]=some (.tuple [.i bd,.i 0],[.b h0,.b h1,.b h2])) (g4:∀ kf,callN Tp polL11 (kf+1) 42 [.s 0 p0] [.b h0,.b h1,.b h2]=some (.tuple [.s 3 p3,.i 0],[.b h0,.b h1,.b h2,.b h3])) (g5:∀ kf,callN Tp polL11 (kf+1) 39 [.s 0 p0,.s 1 p1] [.b h0,.b h1,.b h2,.b h3]=some (.tuple [.s 4 p4,.i 0],[.b h0,.b h1,.b h2,.b h3,.b h4])) (g6:∀ kf,callN Tp polL11 (kf+1) 29 [.s 0 p0,.s 2 p2] [.b h0,.b h1,.b h2,.b h3,.b h4]=some (.tuple [.i od,.i 0],[.b h0,.b h1,.b h2,.b h3,.b h4])) (g7:∀ kf,callN Tp polL11 (kf+1) 35 [.s 0 p0] [.b h0,.b h1,.b h2,.b h3,.b h4]=some (.bool true,[.b h0,.b h1,.b h2,.b h3,.b h4])) (g8:∀ kf,callN Tp polL11 (kf+1) 43 [.s 0 p0] [.b h0,.b h1,.b h2,.b h3,.b h4]=some (.i bd,[.b h0,.b h1,.b h2,.b h3,.b h4])) (g9:bd=bd) (g10:(p3:Int)=IntKind.i64.wrap (bd - 1)) (g11:∀ kf,callN Tp polL11 (kf+1) 36 [.s 0 p0,.s 3 p3] [.b h0,.b h1,.b h2,.b h3,.b h4]=some (.bool true,[.b h0,.b h1,.b h2,.b h3,.b h4])) (g12:∀ kf,callN Tp polL11 (kf+1) 28 [.s 0 p0] [.b h0,.b h1,.b h2,.b h3,.b h4]=some (.s 5 p5,[.b h0,.b h1,.b h2,.b h3,.b h4,.b h5])) (g13:∀ kf,callN Tp polL11 (kf+1) 37 [.s 0 p0,.s 3 p3,.s 5 p5,.i 1] [.b h0,.b h1,.b h2,.b h3,.b h4,.b h5]=some (.tuple [.s 6 0,.bool false],[.b h0,.b h1,.b h2,.b h3,.b h4,.b h5,.b []])) (g14:∀ kf,callN Tp polL11 (kf+1) 38 [.s 0 p0,.s 2 p2] [.b h0,.b h1,.b h2,.b h3,.b h4,.b h5,.b []]=some (.bool true,[.b h0,.b h1,.b h2,.b h3,.b h4,.b h5,.b []])) (g15:∀ kf,callN Tp polL11 (kf+1) 44 [.s 0 p0,.s 2 p2] [.b h0,.b h1,.b h2,.b h3,.b h4,.b h5,.b []]=some (.i od,[.b h0,.b h1,.b h2,.b h3,.b h4,.b h5,.b []])) (g16:od=od) (g17:∀ kf,callN Tp polL11 (kf+1) 36 [.s 0 p0,.s 1 p1] [.b h0,.b h1,.b h2,.b h3,.b h4,.b h5,.b []]=some (.bool true,[.b h0,.b h1,.b h2,.b h3,.b h4,.b h5,.b []])) (g18:∀ kf,callN Tp polL11 (kf+1) 46 [.s 0 p0,.s 1 p1] [.b h0,.b h1,.b h2,.b h3,.b h4,.b h5,.b []]=some (.s 7 p7,[.b h0,.b h1,.b h2,.b h3,.b h4,.b h5,.b [],.b h7])) (g19:∀ kf,callN Tp polL11 (kf+1) 45 [.s 4 p4,.s 7 p7] [.b h0,.b h1,.b h2,.b h3,.b h4,.b h5,.b [],.b h7]=some (.bool true,[.b h0,.b h1,.b h2,.b h3,.b h4,.b h5,.b [],.b h7])) (g20:∀ kf,callN Tp polL11 (kf+1) 16 [] [.b h0,.b h1,.b h2,.b h3,.b h4,.b h5,.b [],.b h7]=some (.bool true,[.b h0,.b h1,.b h2,.b h3,.b h4,.b h5,.b [],.b h7])):RT polL11 11 (sub [] B11) [(0,.a l0),(1,.a rw),(2,.a l2)] [] .ret (env11 (.a l0) (.a rw) (.a l2) (.bool true) (.s 0 p0) (.s 1 p1) (.s 2 p2) (.i bd) (.i 0) (.s 3 p3) (.i 0) (.s 4 p4) (.i 0) (.i od) (.i 0) (.bool false)) [.b h0,.b h1,.b h2,.b h3,.b h4,.b h5,.b [],.b h7] :=
  RunsTo.hin 0 60 [⟨1,1,.s 0 p0,[.b h0]⟩,⟨1,3,.s 1 p1,[.b h0,.b h1]⟩,⟨1,5,.s 2 p2,[.b h0,.b h1,.b h2]⟩,⟨2,1,.tuple [.i bd,.i 0],[.b h0,.b h1,.b h2]⟩,⟨3,1,.tuple [.s 3 p3,.i 0],[.b h0,.b h1,.b h2,.b h3]⟩,⟨4,2,.tuple [.s 4 p4,.i 0],[.b h0,.b h1,.b h2,.b h3,.b h4]⟩,⟨5,2,.tuple [.i od,.i 0],[.b h0,.b h1,.b h2,.b h3,.b h4]⟩,⟨6,1,.bool true,[.b h0,.b h1,.b h2,.b h3,.b h4]⟩,⟨8,2,.i bd,[.b h0,.b h1,.b h2,.b h3,.b h4]⟩,⟨8,3,.bool false,[.b h0,.b h1,.b h2,.b h3,.b h4]⟩,⟨8,17,.bool false,[.b h0,.b h1,.b h2,.b h3,.b h4]⟩,⟨8,22,.bool true,[.b h0,.b h1,.b h2,.b h3,.b h4]⟩,⟨10,3,.s 5 p5,[.b h0,.b h1,.b h2,.b h3,.b h4,.b h5]⟩,⟨10,4,.tuple [.s 6 0,.bool false],[.b h0,.b h1,.b h2,.b h3,.b h4,.b h5,.b []]⟩,⟨13,2,.bool true,[.b h0,.b h1,.b h2,.b h3,.b h4,.b h5,.b []]⟩,⟨16,3,.i od,[.b h0,.b h1,.b h2,.b h3,.b h4,.b h5,.b []]⟩,⟨16,4,.bool false,[.b h0,.b h1,.b h2,.b h3,.b h4,.b h5,.b []]⟩,⟨18,2,.bool true,[.b h0,.b h1,.b h2,.b h3,.b h4,.b h5,.b []]⟩,⟨20,3,.s 7 p7,[.b h0,.b h1,.b h2,.b h3,.b h4,.b h5,.b [],.b h7]⟩,⟨20,4,.bool true,[.b h0,.b h1,.b h2,.b h3,.b h4,.b h5,.b [],.b h7]⟩,⟨20,10,.bool true,[.b h0,.b h1,.b h2,.b h3,.b h4,.b h5,.b [],.b h7]⟩] fun kf hk=>⟨_,by kernel_rfl,(oC (g0 kf) (oC (g1 kf) (oC (g2 kf) (oC (g3 kf) (oC (g4 kf) (oC (g5 kf) (oC (g6 kf) (oC (g7 kf) (oC (g8 kf) (oB [.b h0,.b h1,.b h2,.b h3,.b h4] (congrArg not (decide_eq_true g9)) (oB [.b h0,.b h1,.b h2,.b h3,.b h4] (congrArg not (decide_eq_true g10)) (oC (g11 kf) (oC (g12 kf) (oC (g13 kf) (oC (g14 kf) (oC (g15 kf) (oB [.b h0,.b h1,.b h2,.b h3,.b h4,.b h5,.b []] (congrArg not (decide_eq_true g16)) (oC (g17 kf) (oC (g18 kf) (oC (g19 kf) (oC (g20 kf) .nil)))))))))))))))))))))⟩
theorem sb_4 (l0 rw l2:List HV) (bd od:Int) (p0:Nat) (h0:List HV) (p1:Nat) (h1:List HV) (p2:Nat) (h2:List HV) (p3:Nat) (h3:List HV) (p4:Nat) (h4:List HV) (p5:Nat) (h5:List HV) (p6:Nat) (h6:List HV) (p7:Nat) (h7:List HV) (p8:Nat) (h8:List HV)(g0:∀ kf,callN Tp polL11 (kf+1) 14 [.a l0] []=some (.s 0 p0,[.b h0])) (g1:∀ kf,callN Tp polL11 (kf+1) 33 [.a rw] [.b h0]=some (.s 1 p1,[.b h0,.b h1])) (g2:∀ kf,callN Tp polL11 (kf+1) 14 [.a l2] [.b h0,.b h1]=some (.s 2 p2,[.b h0,.b h1,.b h2])) (g3:∀ kf,callN Tp polL11 (kf+1) 25 [.s 0 p0] [.b h0,.b h1,.b h2]=some (.tuple [.i bd,.i 0],[.b h0,.b h1,.b h2])) (g4:∀ kf,callN Tp polL11 (kf+1) 42 [.s 0 p0] [.b h0,.b h1,.b h2]=some (.tuple [.s 3 p3,.i 0],[.b h0,.b h1,.b h2,.b h3])) (g5:∀ kf,callN Tp polL11 (kf+1) 39 [.s 0 p0,.s 1 p1] [.b h0,.b h1,.b h2,.b h3]=some (.tuple [.s 4 p4,.i 0],[.b h0,.b h1,.b h2,.b h3,.b h4])) (g6:∀ kf,callN Tp polL11 (kf+1) 29 [.s 0 p0,.s 2 p2] [.b h0,.b h1,.b h2,.b h3,.b h4]=some (.tuple [.i 0,.i 2],[.b h0,.b h1,.b h2,.b h3,.b h4])) (g7:∀ kf,callN Tp polL11 (kf+1) 35 [.s 0 p0] [.b h0,.b h1,.b h2,.b h3,.b h4]=some (.bool true,[.b h0,.b h1,.b h2,.b h3,.b h4])) (g8:∀ kf,callN Tp polL11 (kf+1) 43 [.s 0 p0] [.b h0,.b h1,.b h2,.b h3,.b h4]=some (.i bd,[.b h0,.b h1,.b h2,.b h3,.b h4])) (g9:bd=bd) (g10:(p3:Int)=IntKind.i64.wrap (bd - 1)) (g11:∀ kf,callN Tp polL11 (kf+1) 36 [.s 0 p0,.s 3 p3] [.b h0,.b h1,.b h2,.b h3,.b h4]=some (.bool true,[.b h0,.b h1,.b h2,.b h3,.b h4])) (g12:∀ kf,callN Tp polL11 (kf+1) 28 [.s 0 p0] [.b h0,.b h1,.b h2,.b h3,.b h4]=some (.s 5 p5,[.b h0,.b h1,.b h2,.b h3,.b h4,.b h5])) (g13:∀ kf,callN Tp polL11 (kf+1) 37 [.s 0 p0,.s 3 p3,.s 5 p5,.i 1] [.b h0,.b h1,.b h2,.b h3,.b h4,.b h5]=some (.tuple [.s 6 0,.bool false],[.b h0,.b h1,.b h2,.b h3,.b h4,.b h5,.b []])) (g14:∀ kf,callN Tp polL11 (kf+1) 38 [.s 0 p0,.s 2 p2] [.b h0,.b h1,.b h2,.b h3,.b h4,.b h5,.b []]=some (.bool false,[.b h0,.b h1,.b h2,.b h3,.b h4,.b h5,.b []])) (g15:∀ kf,callN Tp polL11 (kf+1) 36 [.s 0 p0,.s 1 p1] [.b h0,.b h1,.b h2,.b h3,.b h4,.b h5,.b []]=some (.bool true,[.b h0,.b h1,.b h2,.b h3,.b h4,.b h5,.b []])) (g16:∀ kf,callN Tp polL11 (kf+1) 46 [.s 0 p0,.s 1 p1] [.b h0,.b h1,.b h2,.b h3,.b h4,.b h5,.b []]=some (.s 7 p7,[.b h0,.b h1,.b h2,.b h3,.b h4,.b h5,.b [],.b h7])) (g17:∀ kf,callN Tp polL11 (kf+1) 45 [.s 4 p4,.s 7 p7] [.b h0,.b h1,.b h2,.b h3,.b h4,.b h5,.b [],.b h7]=some (.bool true,[.b h0,.b h1,.b h2,.b h3,.b h4,.b h5,.b [],.b h7])) (g18:∀ kf,callN Tp polL11 (kf+1) 16 [] [.b h0,.b h1,.b h2,.b h3,.b h4,.b h5,.b [],.b h7]=some (.bool true,[.b h0,.b h1,.b h2,.b h3,.b h4,.b h5,.b [],.b h7])):RT polL11 11 (sub [] B11) [(0,.a l0),(1,.a rw),(2,.a l2)] [] .ret (env11 (.a l0) (.a rw) (.a l2) (.bool true) (.s 0 p0) (.s 1 p1) (.s 2 p2) (.i bd) (.i 0) (.s 3 p3) (.i 0) (.s 4 p4) (.i 0) (.i 0) (.i 2) (.bool false)) [.b h0,.b h1,.b h2,.b h3,.b h4,.b h5,.b [],.b h7] :=
  RunsTo.hin 0 60 [⟨1,1,.s 0 p0,[.b h0]⟩,⟨1,3,.s 1 p1,[.b h0,.b h1]⟩,⟨1,5,.s 2 p2,[.b h0,.b h1,.b h2]⟩,⟨2,1,.tuple [.i bd,.i 0],[.b h0,.b h1,.b h2]⟩,⟨3,1,.tuple [.s 3 p3,.i 0],[.b h0,.b h1,.b h2,.b h3]⟩,⟨4,2,.tuple [.s 4 p4,.i 0],[.b h0,.b h1,.b h2,.b h3,.b h4]⟩,⟨5,2,.tuple [.i 0,.i 2],[.b h0,.b h1,.b h2,.b h3,.b h4]⟩,⟨6,1,.bool true,[.b h0,.b h1,.b h2,.b h3,.b h4]⟩,⟨8,2,.i bd,[.b h0,.b h1,.b h2,.b h3,.b h4]⟩,⟨8,3,.bool false,[.b h0,.b h1,.b h2,.b h3,.b h4]⟩,⟨8,17,.bool false,[.b h0,.b h1,.b h2,.b h3,.b h4]⟩,⟨8,22,.bool true,[.b h0,.b h1,.b h2,.b h3,.b h4]⟩,⟨10,3,.s 5 p5,[.b h0,.b h1,.b h2,.b h3,.b h4,.b h5]⟩,⟨10,4,.tuple [.s 6 0,.bool false],[.b h0,.b h1,.b h2,.b h3,.b h4,.b h5,.b []]⟩,⟨13,2,.bool false,[.b h0,.b h1,.b h2,.b h3,.b h4,.b h5,.b []]⟩,⟨18,2,.bool true,[.b h0,.b h1,.b h2,.b h3,.b h4,.b h5,.b []]⟩,⟨20,3,.s 7 p7,[.b h0,.b h1,.b h2,.b h3,.b h4,.b h5,.b [],.b h7]⟩,⟨20,4,.bool true,[.b h0,.b h1,.b h2,.b h3,.b h4,.b h5,.b [],.b h7]⟩,⟨20,10,.bool true,[.b h0,.b h1,.b h2,.b h3,.b h4,.b h5,.b [],.b h7]⟩] fun kf hk=>⟨_,by kernel_rfl,(oC (g0 kf) (oC (g1 kf) (oC (g2 kf) (oC (g3 kf) (oC (g4 kf) (oC (g5 kf) (oC (g6 kf) (oC (g7 kf) (oC (g8 kf) (oB [.b h0,.b h1,.b h2,.b h3,.b h4] (congrArg not (decide_eq_true g9)) (oB [.b h0,.b h1,.b h2,.b h3,.b h4] (congrArg not (decide_eq_true g10)) (oC (g11 kf) (oC (g12 kf) (oC (g13 kf) (oC (g14 kf) (oC (g15 kf) (oC (g16 kf) (oC (g17 kf) (oC (g18 kf) .nil)))))))))))))))))))⟩
theorem sb_7 (l0 rw l2:List HV) (bd od:Int) (p0:Nat) (h0:List HV) (p1:Nat) (h1:List HV) (p2:Nat) (h2:List HV) (p3:Nat) (h3:List HV) (p4:Nat) (h4:List HV) (p5:Nat) (h5:List HV) (p6:Nat) (h6:List HV) (p7:Nat) (h7:List HV) (p8:Nat) (h8:List HV)(g0:∀ kf,callN Tp polL11 (kf+1) 14 [.a l0] []=some (.s 0 p0,[.b h0])) (g1:∀ kf,callN Tp polL11 (kf+1) 33 [.a rw] [.b h0]=some (.s 1 p1,[.b h0,.b h1])) (g2:∀ kf,callN Tp polL11 (kf+1) 14 [.a l2] [.b h0,.b h1]=some (.s 2 p2,[.b h0,.b h1,.b h2])) (g3:∀ kf,callN Tp polL11 (kf+1) 25 [.s 0 p0] [.b h0,.b h1,.b h2]=some (.tuple [.i bd,.i 0],[.b h0,.b h1,.b h2])) (g4:∀ kf,callN Tp polL11 (kf+1) 42 [.s 0 p0] [.b h0,.b h1,.b h2]=some (.tuple [.s 3 p3,.i 0],[.b h0,.b h1,.b h2,.b h3])) (g5:∀ kf,callN Tp polL11 (kf+1) 39 [.s 0 p0,.s 1 p1] [.b h0,.b h1,.b h2,.b h3]=some (.tuple [.s 4 0,.i 2],[.b h0,.b h1,.b h2,.b h3,.b []])) (g6:∀ kf,callN Tp polL11 (kf+1) 29 [.s 0 p0,.s 2 p2] [.b h0,.b h1,.b h2,.b h3,.b []]=some (.tuple [.i od,.i 0],[.b h0,.b h1,.b h2,.b h3,.b []])) (g7:∀ kf,callN Tp polL11 (kf+1) 35 [.s 0 p0] [.b h0,.b h1,.b h2,.b h3,.b []]=some (.bool true,[.b h0,.b h1,.b h2,.b h3,.b []])) (g8:∀ kf,callN Tp polL11 (kf+1) 43 [.s 0 p0] [.b h0,.b h1,.b h2,.b h3,.b []]=some (.i bd,[.b h0,.b h1,.b h2,.b h3,.b []])) (g9:bd=bd) (g10:(p3:Int)=IntKind.i64.wrap (bd - 1)) (g11:∀ kf,callN Tp polL11 (kf+1) 36 [.s 0 p0,.s 3 p3] [.b h0,.b h1,.b h2,.b h3,.b []]=some (.bool true,[.b h0,.b h1,.b h2,.b h3,.b []])) (g12:∀ kf,callN Tp polL11 (kf+1) 28 [.s 0 p0] [.b h0,.b h1,.b h2,.b h3,.b []]=some (.s 5 p5,[.b h0,.b h1,.b h2,.b h3,.b [],.b h5])) (g13:∀ kf,callN Tp polL11 (kf+1) 37 [.s 0 p0,.s 3 p3,.s 5 p5,.i 1] [.b h0,.b h1,.b h2,.b h3,.b [],.b h5]=some (.tuple [.s 6 0,.bool false],[.b h0,.b h1,.b h2,.b h3,.b [],.b h5,.b []])) (g14:∀ kf,callN Tp polL11 (kf+1) 38 [.s 0 p0,.s 2 p2] [.b h0,.b h1,.b h2,.b h3,.b [],.b h5,.b []]=some (.bool true,[.b h0,.b h1,.b h2,.b h3,.b [],.b h5,.b []])) (g15:∀ kf,callN Tp polL11 (kf+1) 44 [.s 0 p0,.s 2 p2] [.b h0,.b h1,.b h2,.b h3,.b [],.b h5,.b []]=some (.i od,[.b h0,.b h1,.b h2,.b h3,.b [],.b h5,.b []])) (g16:od=od) (g17:∀ kf,callN Tp polL11 (kf+1) 36 [.s 0 p0,.s 1 p1] [.b h0,.b h1,.b h2,.b h3,.b [],.b h5,.b []]=some (.bool false,[.b h0,.b h1,.b h2,.b h3,.b [],.b h5,.b []])) (g18:∀ kf,callN Tp polL11 (kf+1) 16 [] [.b h0,.b h1,.b h2,.b h3,.b [],.b h5,.b []]=some (.bool true,[.b h0,.b h1,.b h2,.b h3,.b [],.b h5,.b []])):RT polL11 11 (sub [] B11) [(0,.a l0),(1,.a rw),(2,.a l2)] [] .ret (env11 (.a l0) (.a rw) (.a l2) (.bool true) (.s 0 p0) (.s 1 p1) (.s 2 p2) (.i bd) (.i 0) (.s 3 p3) (.i 0) (.s 4 0) (.i 2) (.i od) (.i 0) (.bool false)) [.b h0,.b h1,.b h2,.b h3,.b [],.b h5,.b []] :=
  RunsTo.hin 0 60 [⟨1,1,.s 0 p0,[.b h0]⟩,⟨1,3,.s 1 p1,[.b h0,.b h1]⟩,⟨1,5,.s 2 p2,[.b h0,.b h1,.b h2]⟩,⟨2,1,.tuple [.i bd,.i 0],[.b h0,.b h1,.b h2]⟩,⟨3,1,.tuple [.s 3 p3,.i 0],[.b h0,.b h1,.b h2,.b h3]⟩,⟨4,2,.tuple [.s 4 0,.i 2],[.b h0,.b h1,.b h2,.b h3,.b []]⟩,⟨5,2,.tuple [.i od,.i 0],[.b h0,.b h1,.b h2,.b h3,.b []]⟩,⟨6,1,.bool true,[.b h0,.b h1,.b h2,.b h3,.b []]⟩,⟨8,2,.i bd,[.b h0,.b h1,.b h2,.b h3,.b []]⟩,⟨8,3,.bool false,[.b h0,.b h1,.b h2,.b h3,.b []]⟩,⟨8,17,.bool false,[.b h0,.b h1,.b h2,.b h3,.b []]⟩,⟨8,22,.bool true,[.b h0,.b h1,.b h2,.b h3,.b []]⟩,⟨10,3,.s 5 p5,[.b h0,.b h1,.b h2,.b h3,.b [],.b h5]⟩,⟨10,4,.tuple [.s 6 0,.bool false],[.b h0,.b h1,.b h2,.b h3,.b [],.b h5,.b []]⟩,⟨13,2,.bool true,[.b h0,.b h1,.b h2,.b h3,.b [],.b h5,.b []]⟩,⟨16,3,.i od,[.b h0,.b h1,.b h2,.b h3,.b [],.b h5,.b []]⟩,⟨16,4,.bool false,[.b h0,.b h1,.b h2,.b h3,.b [],.b h5,.b []]⟩,⟨18,2,.bool false,[.b h0,.b h1,.b h2,.b h3,.b [],.b h5,.b []]⟩,⟨19,8,.bool true,[.b h0,.b h1,.b h2,.b h3,.b [],.b h5,.b []]⟩] fun kf hk=>⟨_,by kernel_rfl,(oC (g0 kf) (oC (g1 kf) (oC (g2 kf) (oC (g3 kf) (oC (g4 kf) (oC (g5 kf) (oC (g6 kf) (oC (g7 kf) (oC (g8 kf) (oB [.b h0,.b h1,.b h2,.b h3,.b []] (congrArg not (decide_eq_true g9)) (oB [.b h0,.b h1,.b h2,.b h3,.b []] (congrArg not (decide_eq_true g10)) (oC (g11 kf) (oC (g12 kf) (oC (g13 kf) (oC (g14 kf) (oC (g15 kf) (oB [.b h0,.b h1,.b h2,.b h3,.b [],.b h5,.b []] (congrArg not (decide_eq_true g16)) (oC (g17 kf) (oC (g18 kf) .nil)))))))))))))))))))⟩
theorem sb_11 (l0 rw l2:List HV) (bd od:Int) (p0:Nat) (h0:List HV) (p1:Nat) (h1:List HV) (p2:Nat) (h2:List HV) (p3:Nat) (h3:List HV) (p4:Nat) (h4:List HV) (p5:Nat) (h5:List HV) (p6:Nat) (h6:List HV) (p7:Nat) (h7:List HV) (p8:Nat) (h8:List HV)(g0:∀ kf,callN Tp polL11 (kf+1) 14 [.a l0] []=some (.s 0 p0,[.b h0])) (g1:∀ kf,callN Tp polL11 (kf+1) 33 [.a rw] [.b h0]=some (.s 1 p1,[.b h0,.b h1])) (g2:∀ kf,callN Tp polL11 (kf+1) 14 [.a l2] [.b h0,.b h1]=some (.s 2 p2,[.b h0,.b h1,.b h2])) (g3:∀ kf,callN Tp polL11 (kf+1) 25 [.s 0 p0] [.b h0,.b h1,.b h2]=some (.tuple [.i bd,.i 0],[.b h0,.b h1,.b h2])) (g4:∀ kf,callN Tp polL11 (kf+1) 42 [.s 0 p0] [.b h0,.b h1,.b h2]=some (.tuple [.s 3 p3,.i 0],[.b h0,.b h1,.b h2,.b h3])) (g5:∀ kf,callN Tp polL11 (kf+1) 39 [.s 0 p0,.s 1 p1] [.b h0,.b h1,.b h2,.b h3]=some (.tuple [.s 4 0,.i 2],[.b h0,.b h1,.b h2,.b h3,.b []])) (g6:∀ kf,callN Tp polL11 (kf+1) 29 [.s 0 p0,.s 2 p2] [.b h0,.b h1,.b h2,.b h3,.b []]=some (.tuple [.i 0,.i 2],[.b h0,.b h1,.b h2,.b h3,.b []])) (g7:∀ kf,callN Tp polL11 (kf+1) 35 [.s 0 p0] [.b h0,.b h1,.b h2,.b h3,.b []]=some (.bool true,[.b h0,.b h1,.b h2,.b h3,.b []])) (g8:∀ kf,callN Tp polL11 (kf+1) 43 [.s 0 p0] [.b h0,.b h1,.b h2,.b h3,.b []]=some (.i bd,[.b h0,.b h1,.b h2,.b h3,.b []])) (g9:bd=bd) (g10:(p3:Int)=IntKind.i64.wrap (bd - 1)) (g11:∀ kf,callN Tp polL11 (kf+1) 36 [.s 0 p0,.s 3 p3] [.b h0,.b h1,.b h2,.b h3,.b []]=some (.bool true,[.b h0,.b h1,.b h2,.b h3,.b []])) (g12:∀ kf,callN Tp polL11 (kf+1) 28 [.s 0 p0] [.b h0,.b h1,.b h2,.b h3,.b []]=some (.s 5 p5,[.b h0,.b h1,.b h2,.b h3,.b [],.b h5])) (g13:∀ kf,callN Tp polL11 (kf+1) 37 [.s 0 p0,.s 3 p3,.s 5 p5,.i 1] [.b h0,.b h1,.b h2,.b h3,.b [],.b h5]=some (.tuple [.s 6 0,.bool false],[.b h0,.b h1,.b h2,.b h3,.b [],.b h5,.b []])) (g14:∀ kf,callN Tp polL11 (kf+1) 38 [.s 0 p0,.s 2 p2] [.b h0,.b h1,.b h2,.b h3,.b [],.b h5,.b []]=some (.bool false,[.b h0,.b h1,.b h2,.b h3,.b [],.b h5,.b []])) (g15:∀ kf,callN Tp polL11 (kf+1) 36 [.s 0 p0,.s 1 p1] [.b h0,.b h1,.b h2,.b h3,.b [],.b h5,.b []]=some (.bool false,[.b h0,.b h1,.b h2,.b h3,.b [],.b h5,.b []])) (g16:∀ kf,callN Tp polL11 (kf+1) 16 [] [.b h0,.b h1,.b h2,.b h3,.b [],.b h5,.b []]=some (.bool true,[.b h0,.b h1,.b h2,.b h3,.b [],.b h5,.b []])):RT polL11 11 (sub [] B11) [(0,.a l0),(1,.a rw),(2,.a l2)] [] .ret (env11 (.a l0) (.a rw) (.a l2) (.bool true) (.s 0 p0) (.s 1 p1) (.s 2 p2) (.i bd) (.i 0) (.s 3 p3) (.i 0) (.s 4 0) (.i 2) (.i 0) (.i 2) (.bool false)) [.b h0,.b h1,.b h2,.b h3,.b [],.b h5,.b []] :=
  RunsTo.hin 0 60 [⟨1,1,.s 0 p0,[.b h0]⟩,⟨1,3,.s 1 p1,[.b h0,.b h1]⟩,⟨1,5,.s 2 p2,[.b h0,.b h1,.b h2]⟩,⟨2,1,.tuple [.i bd,.i 0],[.b h0,.b h1,.b h2]⟩,⟨3,1,.tuple [.s 3 p3,.i 0],[.b h0,.b h1,.b h2,.b h3]⟩,⟨4,2,.tuple [.s 4 0,.i 2],[.b h0,.b h1,.b h2,.b h3,.b []]⟩,⟨5,2,.tuple [.i 0,.i 2],[.b h0,.b h1,.b h2,.b h3,.b []]⟩,⟨6,1,.bool true,[.b h0,.b h1,.b h2,.b h3,.b []]⟩,⟨8,2,.i bd,[.b h0,.b h1,.b h2,.b h3,.b []]⟩,⟨8,3,.bool false,[.b h0,.b h1,.b h2,.b h3,.b []]⟩,⟨8,17,.bool false,[.b h0,.b h1,.b h2,.b h3,.b []]⟩,⟨8,22,.bool true,[.b h0,.b h1,.b h2,.b h3,.b []]⟩,⟨10,3,.s 5 p5,[.b h0,.b h1,.b h2,.b h3,.b [],.b h5]⟩,⟨10,4,.tuple [.s 6 0,.bool false],[.b h0,.b h1,.b h2,.b h3,.b [],.b h5,.b []]⟩,⟨13,2,.bool false,[.b h0,.b h1,.b h2,.b h3,.b [],.b h5,.b []]⟩,⟨18,2,.bool false,[.b h0,.b h1,.b h2,.b h3,.b [],.b h5,.b []]⟩,⟨19,8,.bool true,[.b h0,.b h1,.b h2,.b h3,.b [],.b h5,.b []]⟩] fun kf hk=>⟨_,by kernel_rfl,(oC (g0 kf) (oC (g1 kf) (oC (g2 kf) (oC (g3 kf) (oC (g4 kf) (oC (g5 kf) (oC (g6 kf) (oC (g7 kf) (oC (g8 kf) (oB [.b h0,.b h1,.b h2,.b h3,.b []] (congrArg not (decide_eq_true g9)) (oB [.b h0,.b h1,.b h2,.b h3,.b []] (congrArg not (decide_eq_true g10)) (oC (g11 kf) (oC (g12 kf) (oC (g13 kf) (oC (g14 kf) (oC (g15 kf) (oC (g16 kf) .nil)))))))))))))))))⟩
theorem sb_14 (l0 rw l2:List HV) (bd od:Int) (p0:Nat) (h0:List HV) (p1:Nat) (h1:List HV) (p2:Nat) (h2:List HV) (p3:Nat) (h3:List HV) (p4:Nat) (h4:List HV) (p5:Nat) (h5:List HV) (p6:Nat) (h6:List HV) (p7:Nat) (h7:List HV) (p8:Nat) (h8:List HV)(g0:∀ kf,callN Tp polL11 (kf+1) 14 [.a l0] []=some (.s 0 p0,[.b h0])) (g1:∀ kf,callN Tp polL11 (kf+1) 33 [.a rw] [.b h0]=some (.s 1 p1,[.b h0,.b h1])) (g2:∀ kf,callN Tp polL11 (kf+1) 14 [.a l2] [.b h0,.b h1]=some (.s 2 p2,[.b h0,.b h1,.b h2])) (g3:∀ kf,callN Tp polL11 (kf+1) 25 [.s 0 p0] [.b h0,.b h1,.b h2]=some (.tuple [.i 0,.i 2],[.b h0,.b h1,.b h2])) (g4:∀ kf,callN Tp polL11 (kf+1) 42 [.s 0 p0] [.b h0,.b h1,.b h2]=some (.tuple [.s 3 0,.i 2],[.b h0,.b h1,.b h2,.b []])) (g5:∀ kf,callN Tp polL11 (kf+1) 39 [.s 0 p0,.s 1 p1] [.b h0,.b h1,.b h2,.b []]=some (.tuple [.s 4 0,.i 2],[.b h0,.b h1,.b h2,.b [],.b []])) (g6:∀ kf,callN Tp polL11 (kf+1) 29 [.s 0 p0,.s 2 p2] [.b h0,.b h1,.b h2,.b [],.b []]=some (.tuple [.i 0,.i 2],[.b h0,.b h1,.b h2,.b [],.b []])) (g7:∀ kf,callN Tp polL11 (kf+1) 35 [.s 0 p0] [.b h0,.b h1,.b h2,.b [],.b []]=some (.bool false,[.b h0,.b h1,.b h2,.b [],.b []])) (g8:∀ kf,callN Tp polL11 (kf+1) 16 [] [.b h0,.b h1,.b h2,.b [],.b []]=some (.bool true,[.b h0,.b h1,.b h2,.b [],.b []])):RT polL11 11 (sub [] B11) [(0,.a l0),(1,.a rw),(2,.a l2)] [] .ret (env11 (.a l0) (.a rw) (.a l2) (.bool true) (.s 0 p0) (.s 1 p1) (.s 2 p2) (.i 0) (.i 2) (.s 3 0) (.i 2) (.s 4 0) (.i 2) (.i 0) (.i 2) Ud) [.b h0,.b h1,.b h2,.b [],.b []] :=
  RunsTo.hin 0 60 [⟨1,1,.s 0 p0,[.b h0]⟩,⟨1,3,.s 1 p1,[.b h0,.b h1]⟩,⟨1,5,.s 2 p2,[.b h0,.b h1,.b h2]⟩,⟨2,1,.tuple [.i 0,.i 2],[.b h0,.b h1,.b h2]⟩,⟨3,1,.tuple [.s 3 0,.i 2],[.b h0,.b h1,.b h2,.b []]⟩,⟨4,2,.tuple [.s 4 0,.i 2],[.b h0,.b h1,.b h2,.b [],.b []]⟩,⟨5,2,.tuple [.i 0,.i 2],[.b h0,.b h1,.b h2,.b [],.b []]⟩,⟨6,1,.bool false,[.b h0,.b h1,.b h2,.b [],.b []]⟩,⟨7,33,.bool true,[.b h0,.b h1,.b h2,.b [],.b []]⟩] fun kf hk=>⟨_,by kernel_rfl,(oC (g0 kf) (oC (g1 kf) (oC (g2 kf) (oC (g3 kf) (oC (g4 kf) (oC (g5 kf) (oC (g6 kf) (oC (g7 kf) (oC (g8 kf) .nil)))))))))⟩
end Go.Proofs.Ytaibmipamkaljaa
end
section
open Go Go.HL
namespace Go.Proofs.Ytaibmipamkaljaa
section
variable {gl:List Int} (hg:(newGroupT gl).2=true)
include hg
theorem free_el:∀ x ∈ freeL gl,elB gl x=true:=by
  rcases grp_cases hg with ⟨a,rfl,h1,h2⟩ | ⟨a,b,rfl,h1,h2,h3,h4,h5,h6⟩
  · intro x hx
    rw [List.eq_of_mem_replicate hx]
    exact el_mk1 ⟨by omega,by omega⟩
  · intro x hx
    rcases List.mem_append.1 hx with hx | hx
    · rw [List.eq_of_mem_replicate hx]; exact el_mk2 ⟨by omega,by omega⟩ ⟨by omega,by omega⟩
    · rw [List.eq_of_mem_replicate hx]; exact el_mk2 ⟨by omega,by omega⟩ ⟨by omega,by omega⟩
theorem free_els:els gl (freeL gl)=List.replicate ((grG gl).1 - 1).toNat ((1,0):El) ++ List.replicate ((grG gl).2.1 - 1).toNat (0,1):=by
  rcases grp_cases hg with ⟨a,rfl,h1,h2⟩ | ⟨a,b,rfl,h1,h2,h3,h4,h5,h6⟩
  · simp only [grG,new_one h1 h2]
    show (List.replicate (a.toNat - 1) [1]).map (eE [a])=_
    rw [List.map_replicate,show ((1:Int) - 1).toNat=0 by rfl,List.replicate_zero,List.append_nil,show (a - 1).toNat=a.toNat - 1 by omega]
    rfl
  · simp only [grG,new_two h1 h2 h3 h4 h5 h6]
    show (List.replicate (a.toNat - 1) ([1,0]:List Int) ++ List.replicate (b.toNat - 1) ([0,1]:List Int)).map (eE [a,b])=_
    have e1:eE [a,b] [1,0]=(1,0):=tE_two (u:=1) (v:=0) ⟨by omega,by omega⟩
    have e2:eE [a,b] [0,1]=(0,1):=tE_two (u:=0) (v:=1) ⟨by omega,by omega⟩
    rw [List.map_append,List.map_replicate,List.map_replicate,e1,e2,show (a - 1).toNat=a.toNat - 1 by omega,show (b - 1).toNat=b.toNat - 1 by omega]
theorem free_len:((freeL gl).length:Int)=(grG gl).1+(grG gl).2.1 - 2∧(freeL gl).length ≤ 46∧(∀ x ∈ freeL gl,x.length ≤ 2):=by
  have hk:=grG_ok hg
  have e:=congrArg List.length (free_els hg)
  simp only [els,List.length_map,List.length_append,List.length_replicate] at e
  refine ⟨by rw [e]; obtain ⟨⟨h1,_⟩,h2,_⟩:=hk; omega,?_,?_⟩
  · rcases grp_cases hg with ⟨a,rfl,h1,h2⟩ | ⟨a,b,rfl,h1,h2,h3,h4,h5,h6⟩
    · simp only [freeL,List.length_replicate]; omega
    · simp only [freeL,List.length_append,List.length_replicate]; omega
  · intro x hx
    rcases grp_cases hg with ⟨a,rfl,h1,h2⟩ | ⟨a,b,rfl,h1,h2,h3,h4,h5,h6⟩
    · rw [List.eq_of_mem_replicate hx]; decide
    · rcases List.mem_append.1 hx with hx | hx
      · rw [List.eq_of_mem_replicate hx]; decide
      · rw [List.eq_of_mem_replicate hx]; decide
omit hg in
theorem sum1 (n k:Nat):((List.replicate n ((1,0):El) ++ List.replicate k (0,1)).map Prod.fst).sum=(n:Int)∧((List.replicate n ((1,0):El) ++ List.replicate k (0,1)).map Prod.snd).sum=(k:Int):=by
  have a:∀ n (c:Int),(List.replicate n c).sum=(n:Int) * c:=fun n c=>by
    induction n with
    | zero=>simp
    | succ n ih=>rw [List.replicate_succ,List.sum_cons,ih,Int.natCast_succ,Int.add_mul]; omega
  simp only [List.map_append,List.map_replicate,List.sum_append,a]
  omega
theorem free_none:∀ s:List El,s.Sublist (els gl (freeL gl)) → s ≠ [] → sumG (grG gl) s ≠ (0,0):=by
  intro s hs h0 hz
  rw [free_els hg] at hs
  obtain ⟨⟨g1,_⟩,g2,_⟩:=grG_ok hg
  obtain ⟨u,v,rfl,hu,hv⟩:=List.sublist_append_iff.1 hs
  obtain ⟨n,hn,rfl⟩:=List.sublist_replicate_iff.1 hu
  obtain ⟨k,hk,rfl⟩:=List.sublist_replicate_iff.1 hv
  rw [sumG_zero_iff,(sum1 n k).1,(sum1 n k).2] at hz
  obtain ⟨z1,z2⟩:=hz
  rw [Int.emod_eq_of_lt (by omega) (by omega)] at z1 z2
  have:n=0:=by omega
  have:k=0:=by omega
  subst n; subst k
  exact h0 rfl
end
end Go.Proofs.Ytaibmipamkaljaa
end
section
open Go Go.HL
namespace Go.Proofs.Ytaibmipamkaljaa
open Go.Proofs.Try renaming prog → Tp
open Go.HL.HV renaming undef → Ud
theorem res11:Try.f11.results.toList=[.tmp 6]:=by kernel_rfl
theorem free11_at {pol':Pol} (hp:pol'.prim 42=some free42) {l:List Int} {v1:HV} {H:Heap} (h1:argI H v1 l) :
    ∀ k,callN Tp pol' (k+1) 42 [v1] H=some (.tuple [.sl H.length 0 (freeT l).1.length none (freeT l).1.length 1,.int .i64 (freeT l).2],H ++ [bR (freeT l).1]):=fun k=>by
  have hd:mapO decI (l.map encI)=some l:=mapO_map decI_enc l
  unfold argI at h1
  rw [prim_call (pol:=pol') (g:=42) (F:=free42) hp (rs:=[.imm .arg 1 (l.map encI)]) (by simp only [mapO,h1]) (res:=.tuple [.own 1 ((freeT l).1.map encO),.int .i64 (freeT l).2]) (by simp only [free42,liF,hd]),recvRs]
theorem rbound_at {pol':Pol} (hp:pol'.prim 43=some rbound43) {l:List Int} {v1:HV} {H:Heap} (h1:argI H v1 l) (hg:(newGroupT l).2=true) :
    ∀ k,callN Tp pol' (k+1) 43 [v1] H=some (.int .i64 (bndT l),H):=fun k=>by
  have hd:mapO decI (l.map encI)=some l:=mapO_map decI_enc l
  unfold argI at h1
  rw [prim_call (pol:=pol') (g:=43) (F:=rbound43) hp (rs:=[.imm .arg 1 (l.map encI)]) (by simp only [mapO,h1]) (res:=.int .i64 (bndT l)) (by simp only [rbound43,liF,hd]; rw [if_pos hg])]
  rfl
theorem rorder_at {pol':Pol} (hp:pol'.prim 44=some rorder44) {l x:List Int} {v1 v2:HV} {H:Heap} (h1:argI H v1 l) (h2:argI H v2 x) (hg:(newGroupT l).2=true) (hx:elB l x=true) {r:Int × Int} (hr:orderT l x=some r) :
    ∀ k,callN Tp pol' (k+1) 44 [v1,v2] H=some (.int .i64 r.1,H):=fun k=>by
  have hd:mapO decI (l.map encI)=some l:=mapO_map decI_enc l
  have hd2:mapO decI (x.map encI)=some x:=mapO_map decI_enc x
  unfold argI at h1 h2
  rw [prim_call (pol:=pol') (g:=44) (F:=rorder44) hp (rs:=[.imm .arg 1 (l.map encI),.imm .arg 1 (x.map encI)]) (by simp only [mapO,h1,h2]) (res:=.int .i64 r.1) (by simp only [rorder44,llF,hd,hd2,hr]; rw [if_pos ⟨hg,hx⟩]; rfl)]
  rfl
theorem rsums_at {pol':Pol} (hp:pol'.prim 46=some rsums46) {l:List Int} {R:List (List Int)} {v1 v2:HV} {H:Heap} (h1:argI H v1 l) (h2:argR H v2 R) (hg:(newGroupT l).2=true) (hR:listB l R=true) :
    ∀ k,callN Tp pol' (k+1) 46 [v1,v2] H=some (.sl H.length 0 (sumsL l (sumS (grG l) (els l R))).length none (sumsL l (sumS (grG l) (els l R))).length 1,H ++ [bR (sumsL l (sumS (grG l) (els l R)))]):=fun k=>by
  have hd:mapO decI (l.map encI)=some l:=mapO_map decI_enc l
  have hd2:mapO decR (R.map encR)=some R:=mapO_map decR_enc R
  unfold argI at h1
  unfold argR at h2
  rw [prim_call (pol:=pol') (g:=46) (F:=rsums46) hp (rs:=[.imm .arg 1 (l.map encI),.imm .arg 1 (R.map encR)]) (by simp only [mapO,h1,h2]) (res:=.own 1 ((sumsL l (sumS (grG l) (els l R))).map encO)) (by simp only [rsums46,lrF,hd,hd2]; rw [if_pos ⟨hg,hR⟩]),recv_rows]
theorem tables_at {pol':Pol} (hp:pol'.prim 45=some tables45) {A B:List (List Int)} {v1 v2:HV} {H:Heap} (h1:argR H v1 A) (h2:argR H v2 B) (hA:A.length ≤ 1000∧∀ r ∈ A,r.length ≤ 1000) :
    ∀ k,callN Tp pol' (k+1) 45 [v1,v2] H=some (.bool (decide (A=B)),H):=fun k=>by
  have hd:mapO decR (A.map encR)=some A:=mapO_map decR_enc A
  have hd2:mapO decR (B.map encR)=some B:=mapO_map decR_enc B
  unfold argR at h1 h2
  rw [prim_call (pol:=pol') (g:=45) (F:=tables45) hp (rs:=[.imm .arg 1 (A.map encR),.imm .arg 1 (B.map encR)]) (by simp only [mapO,h1,h2]) (res:=.bool (decide (A=B))) (by simp only [tables45,rrF,hd,hd2]; rw [if_pos hA])]
  rfl
theorem sumsT_bad {gl:List Int} {R:List (List Int)} (h:(newGroupT gl).2=false ∨ listB gl R=false):sumsT gl R=([],2):=by
  unfold sumsT
  cases hg:(newGroupT gl).2 with
  | false=>rw [if_neg (by simp)]
  | true =>
    rw [if_pos rfl]
    have e:=elems_N hg (h.resolve_left (by rw [hg]; simp))
    unfold grG at e
    rw [e]
theorem orderT_bad {gl x:List Int} (h:(newGroupT gl).2=false ∨ elB gl x=false):orderT gl x=some (0,2):=by
  unfold orderT
  cases hg:(newGroupT gl).2 with
  | false=>rw [if_neg (by simp)]
  | true =>
    rw [if_pos rfl]
    have e:=el_no hg (h.resolve_left (by rw [hg]; simp))
    unfold grG at e
    rw [e,if_neg (by simp)]
theorem sumsL_ok {gl:List Int} (hg:(newGroupT gl).2=true) (F:List El):(sumsL gl F).length ≤ 1000∧∀ r ∈ sumsL gl F,r.length ≤ 1000:=by
  have hs:=size_bnd hg
  refine ⟨?_,fun r hr=>?_⟩
  · rw [sumsL,List.length_map]
    have:=List.length_filter_le (fun (c:Nat)=>decide (tE gl (c:Int) ∈ F)) (List.range (sizeT gl).toNat)
    rw [List.length_range] at this
    omega
  · obtain ⟨c,_,rfl⟩:=List.mem_map.1 hr
    rw [← lst_tE hg,lst_len hg]
    have:=grp_len hg
    omega
theorem first_free {gl:List Int} (hg:(newGroupT gl).2=true):firstT gl (freeL gl) (List.replicate gl.length 0) 1=none:=by
  obtain ⟨f1,f2,f3⟩:=free_len hg
  have f4:=free_el hg
  have fZ:zeroT gl (freeL gl)=([],6):=by
    rcases zero_cases hg f4 (by omega) with ⟨h1,_⟩ | ⟨o,k1,k2,k3,k4,k5⟩
    · exact h1
    · obtain ⟨s,s1,s2,s3⟩:=(rch_gen _ _ _).1 k3
      exact absurd s3.symm (free_none hg s s1 (fun e=>by rw [e] at s2; simp only [List.length_nil] at s2; omega))
  rw [zeroT_first hg (listB_iff.2 ⟨f4,by omega⟩)] at fZ
  cases h:firstT gl (freeL gl) (List.replicate gl.length 0) 1 with
  | none=>rfl
  | some p =>
    rw [h] at fZ
    have:=congrArg Prod.snd fZ
    simp [shP] at this
theorem bnd_eq {gl:List Int} (hg:(newGroupT gl).2=true):(newGroupT gl).1.1+(newGroupT gl).1.2.1 - 1=bndT gl:=by
  rcases grp_cases hg with ⟨a,rfl,h1,h2⟩ | ⟨a,b,rfl,h1,h2,h3,h4,h5,h6⟩
  · rw [new_one h1 h2]; show a+1 - 1=a; omega
  · rw [new_two h1 h2 h3 h4 h5 h6]; rfl
theorem sumsBounds_law (l0:List Int) (R1:List (List Int)) (l2:List Int):∃ E H,RT polL11 11 B11 (args0 [.imm .arg 1 (l0.map encI),.imm .arg 1 (R1.map encR),.imm .arg 1 (l2.map encI)]) [] .ret E H∧E.get 6=.bool true:=by
  have c0:=list_at (pol':=polL11) (by kernel_rfl) (H:=[]) (argI_imm _ l0)
  have hGl:(l0.take 110).length ≤ 110:=by rw [List.length_take]; omega
  generalize l0.take 110=G at *
  have c1:=table_at (pol':=polL11) (by kernel_rfl) (H:=[bI G]) (argR_imm _ R1)
  have hOl:(tabT R1).length ≤ 61:=by simp [tabT]; omega
  generalize tabT R1=O at *
  have c2:=list_at (pol':=polL11) (by kernel_rfl) (H:=[bI G,bR O]) (argI_imm _ l2)
  have hSl:(l2.take 110).length ≤ 110:=by rw [List.length_take]; omega
  generalize l2.take 110=X at *
  have c25:=bound_at (pol':=polL11) (by kernel_rfl) (l:=G) (v:=.sl 0 0 G.length none G.length 1) (H:=[bI G,bR O,bI X]) (argI_sl rfl rfl)
  have c42:=free11_at (pol':=polL11) (by kernel_rfl) (l:=G) (v1:=.sl 0 0 G.length none G.length 1) (H:=[bI G,bR O,bI X]) (argI_sl rfl rfl)
  have c39:∀ F,_:=fun F=>sums_at (pol':=polL11) (by kernel_rfl) (l:=G) (R:=O) (v1:=.sl 0 0 G.length none G.length 1) (v2:=.sl 1 0 O.length none O.length 1) (H:=[bI G,bR O,bI X,bR F]) (argI_sl rfl rfl) (argR_sl rfl rfl) (by omega)
  have c29:∀ F S,_:=fun F S (r:Int × Int) hr=>order_at (pol':=polL11) (by kernel_rfl) (l:=G) (lx:=X) (v1:=.sl 0 0 G.length none G.length 1) (v2:=.sl 2 0 X.length none X.length 1) (H:=[bI G,bR O,bI X,bR F,bR S]) (argI_sl rfl rfl) (argI_sl rfl rfl) (r:=r) hr
  have c35:∀ H:Heap,_:=fun H=>group35_at (pol':=polL11) (by kernel_rfl) (H:=bI G :: H) (v:=.sl 0 0 G.length none G.length 1) (argI_sl rfl rfl)
  have aw:∀ H:Heap,_:=fun H=>awake_at (pol':=polL11) (by kernel_rfl) H
  cases hg:(newGroupT G).2 with
  | false =>
    rw [hg] at c25
    have fT:freeT G=([],2):=by rw [freeT,hg]; rfl
    rw [fT] at c42
    have c39:=c39 []
    rw [sumsT_bad (.inl hg)] at c39
    have c29:=c29 [] [] (0,2) (orderT_bad (.inl hg))
    have c35:=c35 [bR O,bI X,bR [],bR []]
    rw [hg] at c35
    exact ⟨_,_,sb_14 (l0.map encI) (R1.map encR) (l2.map encI) 0 0 G.length (G.map encI) O.length (O.map encO) X.length (X.map encI) 0 [] 0 [] 0 [] 0 [] 0 [] 0 [] c0 c1 c2 c25 c42 c39 c29 c35 (aw _),rfl⟩
  | true =>
    have gb:=grp_len hg
    rw [hg] at c25
    rw [if_pos rfl,bnd_eq hg] at c25
    obtain ⟨f1,f2,f3⟩:=free_len hg
    have f4:=free_el hg
    have be:=bnd_eq hg
    have hk:=grG_ok hg
    have f1':((freeL G).length:Int)=IntKind.i64.wrap (bndT G - 1):=by
      unfold grG at f1 hk
      obtain ⟨⟨k1,k2⟩,k3,k4⟩:=hk
      rw [wrap_id (by omega) (by omega)]; omega
    have fT:freeT G=(freeL G,0):=by rw [freeT,if_pos hg]
    rw [fT] at c42
    have fF:=first_free hg
    have ok1:okF G (freeL G) (List.replicate G.length 0) 1=true:=by
      have a1:(freeL G).all (elB G)=true:=List.all_eq_true.2 f4
      rw [okF,hg,a1,(zero_el hg).1,decide_eq_true (show (freeL G).length ≤ 900 by omega)]; rfl
    have fB:listB G (freeL G)=true:=listB_iff.2 ⟨f4,by omega⟩
    generalize freeL G=F at *
    have c43:∀ S:List (List Int),_:=fun S=>rbound_at (pol':=polL11) (by kernel_rfl) (l:=G) (v1:=.sl 0 0 G.length none G.length 1) (H:=[bI G,bR O,bI X,bR F,bR S]) (argI_sl rfl rfl) hg
    have c36:∀ S:List (List Int),_:=fun S=>list36_at (pol':=polL11) (by kernel_rfl) (gl:=G) (R:=F) (v1:=.sl 0 0 G.length none G.length 1) (v2:=.sl 3 0 F.length none F.length 1) (H:=[bI G,bR O,bI X,bR F,bR S]) (argI_sl rfl rfl) (argR_sl rfl rfl) ⟨by omega,by omega⟩
    rw [fB] at c36
    have c28:∀ S:List (List Int),_:=fun S=>zero28_at (pol':=polL11) (by kernel_rfl) (l:=G) (v:=.sl 0 0 G.length none G.length 1) (H:=[bI G,bR O,bI X,bR F,bR S]) (argI_sl rfl rfl) (by omega)
    have c37:∀ S:List (List Int),_:=fun S=>first_at (pol':=polL11) (by kernel_rfl) (gl:=G) (R:=F) (x:=List.replicate G.length 0) (ls:=1) (v1:=.sl 0 0 G.length none G.length 1) (v2:=.sl 3 0 F.length none F.length 1) (v3:=.sl 5 0 G.length none G.length 1) (H:=[bI G,bR O,bI X,bR F,bR S,bI (List.replicate G.length 0)]) (argI_sl rfl rfl) (argR_sl rfl rfl) (argI_sl (by simp) rfl) ok1
    rw [fF] at c37
    have c38:∀ S:List (List Int),_:=fun S=>el38_at (pol':=polL11) (by kernel_rfl) (gl:=G) (x:=X) (v1:=.sl 0 0 G.length none G.length 1) (v2:=.sl 2 0 X.length none X.length 1) (H:=[bI G,bR O,bI X,bR F,bR S,bI (List.replicate G.length 0),bI []]) (argI_sl rfl rfl) (argI_sl rfl rfl) (by omega)
    have c44:∀ S:List (List Int),_:=fun S (hx:elB G X=true) (r:Int × Int) hr=>rorder_at (pol':=polL11) (by kernel_rfl) (l:=G) (x:=X) (v1:=.sl 0 0 G.length none G.length 1) (v2:=.sl 2 0 X.length none X.length 1) (H:=[bI G,bR O,bI X,bR F,bR S,bI (List.replicate G.length 0),bI []]) (argI_sl rfl rfl) (argI_sl rfl rfl) hg hx (r:=r) hr
    have d36:∀ S:List (List Int),_:=fun S=>list36_at (pol':=polL11) (by kernel_rfl) (gl:=G) (R:=O) (v1:=.sl 0 0 G.length none G.length 1) (v2:=.sl 1 0 O.length none O.length 1) (H:=[bI G,bR O,bI X,bR F,bR S,bI (List.replicate G.length 0),bI []]) (argI_sl rfl rfl) (argR_sl rfl rfl) ⟨by omega,by omega⟩
    have c39:=c39 F
    have c35:∀ S:List (List Int),_:=fun S=>c35 [bR O,bI X,bR F,bR S]
    rw [hg] at c35
    obtain ⟨e,hG⟩:=grL_of hg
    cases hl:listB G O with
    | false =>
      rw [sumsT_bad (.inr hl)] at c39
      rw [hl] at d36
      cases hx:elB G X with
      | false =>
        have c29:=c29 F [] (0,2) (orderT_bad (.inr hx))
        rw [hx] at c38
        exact ⟨_,_,sb_11 (l0.map encI) (R1.map encR) (l2.map encI) (bndT G) 0 G.length (G.map encI) O.length (O.map encO) X.length (X.map encI) F.length (F.map encO) 0 [] G.length ((List.replicate G.length 0).map encI) 0 [] 0 [] 0 [] c0 c1 c2 c25 c42 c39 c29 (c35 []) (c43 []) rfl f1' (c36 []) (c28 []) (c37 []) (c38 []) (d36 []) (aw _),rfl⟩
      | true =>
        obtain ⟨o,ho,hoe,_,hot⟩:=hG.order (rowOk_of hg hx)
        have c29:=c29 F [] _ hot
        have c44:=c44 [] hx _ hot
        rw [hx] at c38
        exact ⟨_,_,sb_7 (l0.map encI) (R1.map encR) (l2.map encI) (bndT G) (o:Int) G.length (G.map encI) O.length (O.map encO) X.length (X.map encI) F.length (F.map encO) 0 [] G.length ((List.replicate G.length 0).map encI) 0 [] 0 [] 0 [] c0 c1 c2 c25 c42 c39 c29 (c35 []) (c43 []) rfl f1' (c36 []) (c28 []) (c37 []) (c38 []) c44 rfl (d36 []) (aw _),rfl⟩
    | true =>
      rw [sumsT_B hg hl] at c39
      rw [hl] at d36
      have c46:∀ S:List (List Int),_:=fun S=>rsums_at (pol':=polL11) (by kernel_rfl) (l:=G) (R:=O) (v1:=.sl 0 0 G.length none G.length 1) (v2:=.sl 1 0 O.length none O.length 1) (H:=[bI G,bR O,bI X,bR F,bR S,bI (List.replicate G.length 0),bI []]) (argI_sl rfl rfl) (argR_sl rfl rfl) hg hl
      have sL:=sumsL_ok hg (sumS (grG G) (els G O))
      generalize sumsL G (sumS (grG G) (els G O))=S at *
      have c45:=tables_at (pol':=polL11) (by kernel_rfl) (A:=S) (B:=S) (v1:=.sl 4 0 S.length none S.length 1) (v2:=.sl 7 0 S.length none S.length 1) (H:=[bI G,bR O,bI X,bR F,bR S,bI (List.replicate G.length 0),bI [],bR S]) (argR_sl rfl rfl) (argR_sl rfl rfl) sL
      rw [decide_eq_true rfl] at c45
      cases hx:elB G X with
      | false =>
        have c29:=c29 F S (0,2) (orderT_bad (.inr hx))
        rw [hx] at c38
        exact ⟨_,_,sb_4 (l0.map encI) (R1.map encR) (l2.map encI) (bndT G) 0 G.length (G.map encI) O.length (O.map encO) X.length (X.map encI) F.length (F.map encO) S.length (S.map encO) G.length ((List.replicate G.length 0).map encI) 0 [] S.length (S.map encO) 0 [] c0 c1 c2 c25 c42 c39 c29 (c35 S) (c43 S) rfl f1' (c36 S) (c28 S) (c37 S) (c38 S) (d36 S) (c46 S) c45 (aw _),rfl⟩
      | true =>
        obtain ⟨o,ho,hoe,_,hot⟩:=hG.order (rowOk_of hg hx)
        have c29:=c29 F S _ hot
        have c44:=c44 S hx _ hot
        rw [hx] at c38
        exact ⟨_,_,sb_0 (l0.map encI) (R1.map encR) (l2.map encI) (bndT G) (o:Int) G.length (G.map encI) O.length (O.map encO) X.length (X.map encI) F.length (F.map encO) S.length (S.map encO) G.length ((List.replicate G.length 0).map encI) 0 [] S.length (S.map encO) 0 [] c0 c1 c2 c25 c42 c39 c29 (c35 S) (c43 S) rfl f1' (c36 S) (c28 S) (c37 S) (c38 S) c44 rfl (d36 S) (c46 S) c45 (aw _),rfl⟩
end Go.Proofs.Ytaibmipamkaljaa
end
section
namespace Go.HL
open Go.ChangeShapes Go.WideShapes Go.ChangeAt Go.RowKit Go.Deep
theorem okNil (w:World) (r:Nat):okOf Ctx.nil w.heap.size false r:=by
  refine ⟨fun hM=>?_,by simp⟩
  obtain ⟨b,y,h1,_,_⟩:=M_iff.1 hM
  simp [Ctx.nil] at h1
theorem cell_lt {w:World} {a:Addr} {v:Value} (h:w.cell? a=some v):a.block < w.heap.size:=by
  rcases Nat.lt_or_ge a.block w.heap.size with hl | hl
  · exact hl
  · have:w.heap[a.block]?=none:=by simp [hl]
    simp [World.cell?,this] at h
end Go.HL
end
section
namespace Go.HL
open Go.ChangeShapes Go.WideShapes Go.ChangeAt Go.RowKit Go.Deep
theorem arg_ints_ok {H:Type} {enc:TypeId × Value → H} {P:Program} {W:World} {base:Nat} {t q:TypeId} {v:Value} {d:DataW H} {ps:List MemPlace} (ht:P.underlying t=some (.slice q)) (hq:P.underlying q=some (.int .i64)) (cq:P.cellsOf q=1)
    (hval:Value.okWide P W .any base t v) (hd:DataW.Trod enc P W 0 (fun _=>true) true t v d ps):∃ l:List Int,V W (okOf Ctx.nil W.heap.size) Ctx.nil (.imm .arg 1 (l.map encI)) v:=by
  obtain ⟨a,len,cap,rfl⟩:=okWide_slice ht hval
  obtain ⟨fuel,hf⟩:=hd
  rcases open_slice ht hf with ⟨h0,_⟩ | ⟨a',len',cap',m,n,D,Pl,h0,hb,hl,hm,hmm,hx,hel⟩
  · simp [Value.cells] at h0
    obtain ⟨rfl,rfl,rfl⟩:=h0
    exact ⟨[],.imm .arg 1 [] none 0 (fun _=>.bool false) (by simp) (by simp) (by simp) (by simp) (by simp) (by simp)⟩
  · simp [Value.cells] at h0
    obtain ⟨rfl,rfl,rfl⟩:=h0
    have hlm:len ≤ m:=by rw [hmm]; split <;> omega
    have each:∀ i,i < len → ∃ z:Int,W.cell? (a'.add i)=some (.int .i64 z):=by
      intro i hi
      obtain ⟨cs',h1,h2⟩:=hel i (by omega)
      rw [cq] at h1
      obtain ⟨_,hlen,hcell⟩:=World.cells?_some h1
      match cs',hlen with
      | [v0],_ =>
        obtain ⟨z0,e0,_,_⟩:=DataW.trod_int hq h2
        simp at e0
        subst e0
        have c0:=hcell 0 (by omega)
        rw [add_add] at c0
        exact ⟨z0,by simpa using c0⟩
    obtain ⟨f,hf⟩:=choose_lt each
    refine ⟨(List.range len).map f,?_⟩
    have hlen:(((List.range len).map f).map encI).length=len:=by simp
    have key:=V.imm (w:=W) (ok:=okOf Ctx.nil W.heap.size) (c:=Ctx.nil) .arg 1 (((List.range len).map f).map encI) (some a') cap (fun j=>.int .i64 (f j))
      (by rw [hlen]; exact hl) (by simp) ?_ ?_ ?_ ?_
    · rw [hlen] at key; exact key
    · intro hne
      have h0:0 < len:=by
        rcases Nat.eq_zero_or_pos len with h | h
        · subst h; simp at hne
        · exact h
      obtain ⟨b,off,spot⟩:=a'
      have hspot:spot=none:=by simpa [Addr.add] using World.cell?_spot (hf 0 h0)
      subst hspot
      refine ⟨b,off,rfl,by simpa [Addr.add] using cell_lt (hf 0 h0),okNil W b,fun j hj=>?_⟩
      rw [hlen] at hj
      have c0:=hf j (by omega)
      rw [add_plain] at c0
      exact c0
    · intro v hv
      obtain ⟨p,_,rfl⟩:=List.mem_map.1 hv
      rfl
    · intro v hv
      obtain ⟨p,_,rfl⟩:=List.mem_map.1 hv
      rfl
    · intro i v j x hi hj
      have hil:i < len:=by have:=lt_of_get hi; rw [hlen] at this; exact this
      have:v=encI (f i):=by
        rw [List.getElem?_map,List.getElem?_map,List.getElem?_range hil] at hi
        simpa using hi.symm
      subst this
      have hjx:j < 1:=lt_of_get hj
      match j,hjx,hj with
      | 0,_,hj =>
        simp [encI,cellsOf] at hj
        subst hj
        have e1:i * 1+0=i:=by omega
        rw [e1]
        exact V.int _ _
end Go.HL
end
section
namespace Go.HL
open Go.ChangeShapes Go.WideShapes Go.ChangeAt Go.RowKit Go.Deep
theorem ints_cells {H:Type} {enc:TypeId × Value → H} {P:Program} {W:World} {base fuel:Nat} {sp:Nat → Bool} {held:Bool} {t q:TypeId} {cs:List Value} {x:DataW H × List MemPlace} (ht:P.underlying t=some (.slice q)) (hq:P.underlying q=some (.int .i64)) (cq:P.cellsOf q=1)
    (hf:DataW.trod enc P W base sp held fuel t cs=some x):∃ (l:List Int) (v:Value),cs=[v]∧V W (okOf Ctx.nil W.heap.size) Ctx.nil (.imm .arg 1 (l.map encI)) v:=by
  rcases open_slice ht hf with ⟨h0,_⟩ | ⟨a',len,cap,m,n,D,Pl,h0,hb,hl,hm,hmm,hx,hel⟩
  · exact ⟨[],_,h0,.imm .arg 1 [] none 0 (fun _=>.bool false) (by simp) (by simp) (by simp) (by simp) (by simp) (by simp)⟩
  · subst h0
    have hlm:len ≤ m:=by rw [hmm]; split <;> omega
    have each:∀ i,i < len → ∃ z:Int,W.cell? (a'.add i)=some (.int .i64 z):=by
      intro i hi
      obtain ⟨cs',h1,h2⟩:=hel i (by omega)
      rw [cq] at h1
      obtain ⟨_,hlen,hcell⟩:=World.cells?_some h1
      match cs',hlen with
      | [v0],_ =>
        obtain ⟨z0,e0,_,_⟩:=DataW.trod_int hq h2
        simp at e0
        subst e0
        have c0:=hcell 0 (by omega)
        rw [add_add] at c0
        exact ⟨z0,by simpa using c0⟩
    obtain ⟨f,hf⟩:=choose_lt each
    refine ⟨(List.range len).map f,_,rfl,?_⟩
    have hlen:(((List.range len).map f).map encI).length=len:=by simp
    have key:=V.imm (w:=W) (ok:=okOf Ctx.nil W.heap.size) (c:=Ctx.nil) .arg 1 (((List.range len).map f).map encI) (some a') cap (fun j=>.int .i64 (f j))
      (by rw [hlen]; exact hl) (by simp) ?_ ?_ ?_ ?_
    · rw [hlen] at key; exact key
    · intro hne
      have h0:0 < len:=by
        rcases Nat.eq_zero_or_pos len with h | h
        · subst h; simp at hne
        · exact h
      obtain ⟨b,off,spot⟩:=a'
      have hspot:spot=none:=by simpa [Addr.add] using World.cell?_spot (hf 0 h0)
      subst hspot
      refine ⟨b,off,rfl,by simpa [Addr.add] using cell_lt (hf 0 h0),okNil W b,fun j hj=>?_⟩
      rw [hlen] at hj
      have c0:=hf j (by omega)
      rw [add_plain] at c0
      exact c0
    · intro v hv
      obtain ⟨p,_,rfl⟩:=List.mem_map.1 hv
      rfl
    · intro v hv
      obtain ⟨p,_,rfl⟩:=List.mem_map.1 hv
      rfl
    · intro i v j x hi hj
      have hil:i < len:=by have:=lt_of_get hi; rw [hlen] at this; exact this
      have:v=encI (f i):=by
        rw [List.getElem?_map,List.getElem?_map,List.getElem?_range hil] at hi
        simpa using hi.symm
      subst this
      have hjx:j < 1:=lt_of_get hj
      match j,hjx,hj with
      | 0,_,hj =>
        simp [encI,cellsOf] at hj
        subst hj
        have e1:i * 1+0=i:=by omega
        rw [e1]
        exact V.int _ _
def encRH (r:List Int):HV:=.imm .arg 1 (r.map encI)
theorem rows_cells {H:Type} {enc:TypeId × Value → H} {P:Program} {W:World} {base fuel:Nat} {sp:Nat → Bool} {held:Bool} {s t q:TypeId} {cs:List Value} {x:DataW H × List MemPlace} (hs:P.underlying s=some (.slice t)) (ct:P.cellsOf t=1) (ht:P.underlying t=some (.slice q)) (hq:P.underlying q=some (.int .i64)) (cq:P.cellsOf q=1)
    (hf:DataW.trod enc P W base sp held fuel s cs=some x):∃ (R:List (List Int)) (v:Value),cs=[v]∧V W (okOf Ctx.nil W.heap.size) Ctx.nil (.imm .arg 1 (R.map encRH)) v:=by
  rcases open_slice hs hf with ⟨h0,_⟩ | ⟨a',len,cap,m,n,D,Pl,h0,hb,hl,hm,hmm,hx,hel⟩
  · exact ⟨[],_,h0,.imm .arg 1 [] none 0 (fun _=>.bool false) (by simp) (by simp) (by simp) (by simp) (by simp) (by simp)⟩
  · subst h0
    have hlm:len ≤ m:=by rw [hmm]; split <;> omega
    have each:∀ i,i < len → ∃ p:List Int × Value,W.cell? (a'.add i)=some p.2∧V W (okOf Ctx.nil W.heap.size) Ctx.nil (encRH p.1) p.2:=by
      intro i hi
      obtain ⟨cs',h1,h2⟩:=hel i (by omega)
      rw [ct,Nat.mul_one] at h1
      obtain ⟨_,hlen,hcell⟩:=World.cells?_some h1
      obtain ⟨l,v,rfl,hV⟩:=ints_cells ht hq cq h2
      have c0:=hcell 0 (by omega)
      rw [add_add] at c0
      exact ⟨(l,v),by simpa using c0,hV⟩
    obtain ⟨f,hf⟩:=choose_lt each
    refine ⟨(List.range len).map fun i=>(f i).1,_,rfl,?_⟩
    have hlen:(((List.range len).map fun i=>(f i).1).map encRH).length=len:=by simp
    have key:=V.imm (w:=W) (ok:=okOf Ctx.nil W.heap.size) (c:=Ctx.nil) .arg 1 (((List.range len).map fun i=>(f i).1).map encRH) (some a') cap (fun j=>(f j).2)
      (by rw [hlen]; exact hl) (by simp) ?_ ?_ ?_ ?_
    · rw [hlen] at key; exact key
    · intro hne
      have h0:0 < len:=by
        rcases Nat.eq_zero_or_pos len with h | h
        · subst h; simp at hne
        · exact h
      obtain ⟨b,off,spot⟩:=a'
      have hspot:spot=none:=by simpa [Addr.add] using World.cell?_spot (hf 0 h0).1
      subst hspot
      refine ⟨b,off,rfl,by simpa [Addr.add] using cell_lt (hf 0 h0).1,okNil W b,fun j hj=>?_⟩
      rw [hlen,Nat.mul_one] at hj
      have c0:=(hf j hj).1
      rw [add_plain] at c0
      exact c0
    · intro v hv
      obtain ⟨p,_,rfl⟩:=List.mem_map.1 hv
      rfl
    · intro v hv
      obtain ⟨p,_,rfl⟩:=List.mem_map.1 hv
      rfl
    · intro i v j x hi hj
      have hil:i < len:=by have:=lt_of_get hi; rw [hlen] at this; exact this
      have:v=encRH (f i).1:=by
        rw [List.getElem?_map,List.getElem?_map,List.getElem?_range hil] at hi
        simpa using hi.symm
      subst this
      have hjx:j < 1:=lt_of_get hj
      obtain rfl:j=0:=by omega
      simp [encRH,cellsOf] at hj
      subst hj
      have e1:i * 1+0=i:=by omega
      rw [e1]
      exact (hf i hil).2
theorem arg_rows_ok {H:Type} {enc:TypeId × Value → H} {P:Program} {W:World} {base:Nat} {s t q:TypeId} {v:Value} {d:DataW H} {ps:List MemPlace} (hs:P.underlying s=some (.slice t)) (ct:P.cellsOf t=1) (ht:P.underlying t=some (.slice q)) (hq:P.underlying q=some (.int .i64)) (cq:P.cellsOf q=1)
    (hval:Value.okWide P W .any base s v) (hd:DataW.Trod enc P W 0 (fun _=>true) true s v d ps):∃ R:List (List Int),V W (okOf Ctx.nil W.heap.size) Ctx.nil (.imm .arg 1 (R.map encRH)) v:=by
  obtain ⟨a,len,cap,rfl⟩:=okWide_slice hs hval
  obtain ⟨fuel,hf⟩:=hd
  obtain ⟨R,v,hv,h⟩:=rows_cells hs ct ht hq cq hf
  simp [Value.cells] at hv
  subst hv
  exact ⟨R,h⟩
end Go.HL
end
