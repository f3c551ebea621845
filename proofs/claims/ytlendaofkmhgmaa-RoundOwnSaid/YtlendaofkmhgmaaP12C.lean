/- A part of the proof. -/
import Derived.Test.YtlendaofkmhgmaaP12B
set_option linter.unusedVariables false
set_option linter.unusedSimpArgs false
section
open Go Go.HL
namespace Go.Proofs.Ytlendaofkmhgmaa
set_option maxRecDepth 100000
open Go.Proofs.Try renaming prog → Tp
open Go.HL.HV renaming undef → Ud
noncomputable def B70:Code:=Try.f70.body.getD .skip
abbrev env70 (v0 v1 v2 v5 v6 v7 v8 v9 v11 v12:HV):Env:=[(0,v0),(1,v1),(2,v2),(5,v5),(6,v6),(7,v7),(8,v8),(9,v9),(11,v11),(12,v12)]
theorem ed_a_0 (N:Nat) (rw ps:List HV) (f:Nat) (g0:(if (cellsOf (.agg ps)).all cellV then some (newV (.agg ps) []) else none)=some (.ptr 0 0 0 1,[.arr 11 [.agg ps] true 0])):RT polSo 70 (sub [0] B70) [(0,.imm .arg 1 rw),(1,.i (f:Int)),(2,.agg ps)] [] .normal (env70 (.imm .arg 1 rw) (.i (f:Int)) (.agg ps) (.ptr 0 0 0 1) (.imm .lit 3 []) Ud Ud Ud Ud Ud) [.arr 11 [.agg ps] true 0] :=
  RunsTo.hin N 60 [⟨0,0,.ptr 0 0 0 1,[.arr 11 [.agg ps] true 0]⟩] fun kf hk=>⟨_,by kernel_rfl,(oC (g0) .nil)⟩
theorem ed_b_0 (N:Nat) (rw ps:List HV) (f:Nat)  {y7 y8 y9 y11 y12:HV}:RT polSo 70 (sub [1,0] B70) (env70 (.imm .arg 1 rw) (.i (f:Int)) (.agg ps) (.ptr 0 0 0 1) (.imm .lit 3 []) y7 y8 y9 y11 y12) [.arr 11 [.agg ps] true 0] .normal (env70 (.imm .arg 1 rw) (.i (f:Int)) (.agg ps) (.ptr 0 0 0 1) (.imm .lit 3 []) (.sl 1 0 0 none 0 3) y8 y9 y11 y12) [.arr 11 [.agg ps] true 0,.arr 3 [] true 0] :=
  RunsTo.hin N 60 [] fun kf hk=>⟨_,by kernel_rfl,.nil⟩
theorem ed_c_0 (N:Nat) (rw ps:List HV) (f:Nat) (m:Nat) (es:List HV) {y8 y9 y11 y12:HV}:RT polSo 70 (sub [1,1,0,0] B70) (env70 (.imm .arg 1 rw) (.i (f:Int)) (.agg ps) (.ptr 0 0 0 1) (.imm .lit 3 []) (.sl 1 0 m none m 3) y8 y9 y11 y12) [.arr 11 [.agg ps] true 0,.arr 3 es true 0] .normal (env70 (.imm .arg 1 rw) (.i (f:Int)) (.agg ps) (.ptr 0 0 0 1) (.imm .lit 3 []) (.sl 1 0 m none m 3) y8 y9 (.i (rw.length:Int)) (.i 0)) [.arr 11 [.agg ps] true 0,.arr 3 es true 0] :=
  RunsTo.hin N 60 [] fun kf hk=>⟨_,by kernel_rfl,.nil⟩
theorem ed_d_0 (N:Nat) (rw ps:List HV) (f:Nat) (m:Nat) (es:List HV) (i:Nat) {y8 y9:HV}(g0:(i:Int) < (rw.length:Int)):RunsTo Tp polSo 70 (sub [1,1,0,1,0,0,0] B70) (env70 (.imm .arg 1 rw) (.i (f:Int)) (.agg ps) (.ptr 0 0 0 1) (.imm .lit 3 []) (.sl 1 0 m none m 3) y8 y9 (.i (rw.length:Int)) (.i (i:Int))) [.arr 11 [.agg ps] true 0,.arr 3 es true 0] .normal [0,1,2,5,6,7,8,9,11,12,13] [(0,.imm .arg 1 rw),(1,.i (f:Int)),(2,.agg ps),(5,.ptr 0 0 0 1),(6,.imm .lit 3 []),(7,.sl 1 0 m none m 3),(8,y8),(9,y9),(11,.i (rw.length:Int)),(12,.i (i:Int)),(13,.bool true)] [.arr 11 [.agg ps] true 0,.arr 3 es true 0] :=
  RunsTo.hin N 60 [⟨3,0,.bool true,[.arr 11 [.agg ps] true 0,.arr 3 es true 0]⟩] fun kf hk=>⟨_,by kernel_rfl,(oB [.arr 11 [.agg ps] true 0,.arr 3 es true 0] (decide_eq_true g0) .nil)⟩
theorem ed_d_1 (N:Nat) (rw ps:List HV) (f:Nat) (m:Nat) (es:List HV) (i:Nat) {y8 y9:HV}(g0:¬ ((i:Int) < (rw.length:Int))):RunsTo Tp polSo 70 (sub [1,1,0,1,0,0,0] B70) (env70 (.imm .arg 1 rw) (.i (f:Int)) (.agg ps) (.ptr 0 0 0 1) (.imm .lit 3 []) (.sl 1 0 m none m 3) y8 y9 (.i (rw.length:Int)) (.i (i:Int))) [.arr 11 [.agg ps] true 0,.arr 3 es true 0] .normal [0,1,2,5,6,7,8,9,11,12,13] [(0,.imm .arg 1 rw),(1,.i (f:Int)),(2,.agg ps),(5,.ptr 0 0 0 1),(6,.imm .lit 3 []),(7,.sl 1 0 m none m 3),(8,y8),(9,y9),(11,.i (rw.length:Int)),(12,.i (i:Int)),(13,.bool false)] [.arr 11 [.agg ps] true 0,.arr 3 es true 0] :=
  RunsTo.hin N 60 [⟨3,0,.bool false,[.arr 11 [.agg ps] true 0,.arr 3 es true 0]⟩] fun kf hk=>⟨_,by kernel_rfl,(oB [.arr 11 [.agg ps] true 0,.arr 3 es true 0] (decide_eq_false g0) .nil)⟩
theorem ed_et_0 (N:Nat) (rw ps:List HV) (f:Nat) (m:Nat) (es:List HV) (i:Nat) {y8 y9:HV}:RT polSo 70 (sub [1,1,0,1,0,0,1,0] B70) [(0,.imm .arg 1 rw),(1,.i (f:Int)),(2,.agg ps),(5,.ptr 0 0 0 1),(6,.imm .lit 3 []),(7,.sl 1 0 m none m 3),(8,y8),(9,y9),(11,.i (rw.length:Int)),(12,.i (i:Int)),(13,.bool true)] [.arr 11 [.agg ps] true 0,.arr 3 es true 0] .normal (env70 (.imm .arg 1 rw) (.i (f:Int)) (.agg ps) (.ptr 0 0 0 1) (.imm .lit 3 []) (.sl 1 0 m none m 3) y8 y9 (.i (rw.length:Int)) (.i (i:Int))) [.arr 11 [.agg ps] true 0,.arr 3 es true 0] :=
  RunsTo.hin N 60 [] fun kf hk=>⟨_,by kernel_rfl,.nil⟩
theorem ed_ef_0 (N:Nat) (rw ps:List HV) (f:Nat) (m:Nat) (es:List HV) (i:Nat) {y8 y9:HV}:RT polSo 70 (sub [1,1,0,1,0,0,1,0] B70) [(0,.imm .arg 1 rw),(1,.i (f:Int)),(2,.agg ps),(5,.ptr 0 0 0 1),(6,.imm .lit 3 []),(7,.sl 1 0 m none m 3),(8,y8),(9,y9),(11,.i (rw.length:Int)),(12,.i (i:Int)),(13,.bool false)] [.arr 11 [.agg ps] true 0,.arr 3 es true 0] (.exit 0) (env70 (.imm .arg 1 rw) (.i (f:Int)) (.agg ps) (.ptr 0 0 0 1) (.imm .lit 3 []) (.sl 1 0 m none m 3) y8 y9 (.i (rw.length:Int)) (.i (i:Int))) [.arr 11 [.agg ps] true 0,.arr 3 es true 0] :=
  RunsTo.hin N 60 [] fun kf hk=>⟨_,by kernel_rfl,.nil⟩
theorem ed_f_0 (N:Nat) (rw ps:List HV) (f:Nat) (m:Nat) (es:List HV) (i:Nat) {y8 y9:HV}:RT polSo 70 (sub [1,1,0,1,0,0,1,1,0,0,0] B70) (env70 (.imm .arg 1 rw) (.i (f:Int)) (.agg ps) (.ptr 0 0 0 1) (.imm .lit 3 []) (.sl 1 0 m none m 3) y8 y9 (.i (rw.length:Int)) (.i (i:Int))) [.arr 11 [.agg ps] true 0,.arr 3 es true 0] .normal (env70 (.imm .arg 1 rw) (.i (f:Int)) (.agg ps) (.ptr 0 0 0 1) (.imm .lit 3 []) (.sl 1 0 m none m 3) (.i (i:Int)) y9 (.i (rw.length:Int)) (.i (i:Int))) [.arr 11 [.agg ps] true 0,.arr 3 es true 0] :=
  RunsTo.hin N 60 [] fun kf hk=>⟨_,by kernel_rfl,.nil⟩
theorem ed_g_0 (N:Nat) (rw ps:List HV) (f:Nat) (m:Nat) (es:List HV) (i:Nat) {y9:HV}:RT polSo 70 (sub [1,1,0,1,0,0,1,1,0,0,1,0] B70) (env70 (.imm .arg 1 rw) (.i (f:Int)) (.agg ps) (.ptr 0 0 0 1) (.imm .lit 3 []) (.sl 1 0 m none m 3) (.i (i:Int)) y9 (.i (rw.length:Int)) (.i (i:Int))) [.arr 11 [.agg ps] true 0,.arr 3 es true 0] .normal (env70 (.imm .arg 1 rw) (.i (f:Int)) (.agg ps) (.ptr 0 0 0 1) (.imm .lit 3 []) (.sl 1 0 m none m 3) (.i (i:Int)) (.i (f:Int)) (.i (rw.length:Int)) (.i (i:Int))) [.arr 11 [.agg ps] true 0,.arr 3 es true 0] :=
  RunsTo.hin N 60 [] fun kf hk=>⟨_,by kernel_rfl,.nil⟩
theorem ed_h_0 (N:Nat) (rw ps:List HV) (f:Nat) (m:Nat) (es:List HV) (i j:Nat) {l0:List HV} {x0:Int} {x1:Int} {x2:Int} (g0:(j:Int) < (i:Int)) (g1:idxV Tp 68 (.imm .arg 1 rw) (.i (j:Int))=some (.vptr (.imm .arg 1 l0))) (g2:idxV Tp 23 (.imm .arg 1 l0) (.i (i:Int))=some (.vptr (.i x0))) (g3:idxV Tp 66 (.ptr 0 0 0 1) (.i (j:Int))=some (.ptr 0 0 j 1)) (g4:loadV Tp [.arr 11 [.agg ps] true 0,.arr 3 es true 0] 3 (.ptr 0 0 j 1)=some (.i x1)) (g5:idxV Tp 66 (.ptr 0 0 0 1) (.i (i:Int))=some (.ptr 0 0 i 1)) (g6:loadV Tp [.arr 11 [.agg ps] true 0,.arr 3 es true 0] 3 (.ptr 0 0 i 1)=some (.i x2)) (g7:appV [.arr 11 [.agg ps] true 0,.arr 3 es true 0] 3 24 (.sl 1 0 m none m 3) [.agg [.i (IntKind.i64.wrap (IntKind.i64.wrap (x0+x1)+x2)),.i (j:Int),.i (i:Int)]]=some (.sl 1 0 (m+1) none (m+1) 3,[.arr 11 [.agg ps] true 0,.arr 3 (es ++ [.agg [.i (IntKind.i64.wrap (IntKind.i64.wrap (x0+x1)+x2)),.i (j:Int),.i (i:Int)]]) true 0])):RT polSo 70 (sub [1,1,0,1,0,0,1,1,0,0,1,1,0,0] B70) (env70 (.imm .arg 1 rw) (.i (f:Int)) (.agg ps) (.ptr 0 0 0 1) (.imm .lit 3 []) (.sl 1 0 m none m 3) (.i (i:Int)) (.i (j:Int)) (.i (rw.length:Int)) (.i (i:Int))) [.arr 11 [.agg ps] true 0,.arr 3 es true 0] .normal (env70 (.imm .arg 1 rw) (.i (f:Int)) (.agg ps) (.ptr 0 0 0 1) (.imm .lit 3 []) (.sl 1 0 (m+1) none (m+1) 3) (.i (i:Int)) (.i (IntKind.i64.wrap ((j:Int)+1))) (.i (rw.length:Int)) (.i (i:Int))) [.arr 11 [.agg ps] true 0,.arr 3 (es ++ [.agg [.i (IntKind.i64.wrap (IntKind.i64.wrap (x0+x1)+x2)),.i (j:Int),.i (i:Int)]]) true 0] :=
  RunsTo.hin N 60 [⟨6,2,.bool true,[.arr 11 [.agg ps] true 0,.arr 3 es true 0]⟩,⟨8,3,.vptr (.imm .arg 1 l0),[.arr 11 [.agg ps] true 0,.arr 3 es true 0]⟩,⟨8,6,.vptr (.i x0),[.arr 11 [.agg ps] true 0,.arr 3 es true 0]⟩,⟨8,9,.ptr 0 0 j 1,[.arr 11 [.agg ps] true 0,.arr 3 es true 0]⟩,⟨8,10,.i x1,[.arr 11 [.agg ps] true 0,.arr 3 es true 0]⟩,⟨8,13,.ptr 0 0 i 1,[.arr 11 [.agg ps] true 0,.arr 3 es true 0]⟩,⟨8,14,.i x2,[.arr 11 [.agg ps] true 0,.arr 3 es true 0]⟩,⟨8,20,.sl 1 0 (m+1) none (m+1) 3,[.arr 11 [.agg ps] true 0,.arr 3 (es ++ [.agg [.i (IntKind.i64.wrap (IntKind.i64.wrap (x0+x1)+x2)),.i (j:Int),.i (i:Int)]]) true 0]⟩] fun kf hk=>⟨_,by kernel_rfl,(oB [.arr 11 [.agg ps] true 0,.arr 3 es true 0] (decide_eq_true g0) (oP [.arr 11 [.agg ps] true 0,.arr 3 es true 0] g1 (oP [.arr 11 [.agg ps] true 0,.arr 3 es true 0] g2 (oP [.arr 11 [.agg ps] true 0,.arr 3 es true 0] g3 (oP [.arr 11 [.agg ps] true 0,.arr 3 es true 0] g4 (oP [.arr 11 [.agg ps] true 0,.arr 3 es true 0] g5 (oP [.arr 11 [.agg ps] true 0,.arr 3 es true 0] g6 (oC (g7) .nil))))))))⟩
theorem ed_h_1 (N:Nat) (rw ps:List HV) (f:Nat) (m:Nat) (es:List HV) (i j:Nat)(g0:¬ ((j:Int) < (i:Int))):RT polSo 70 (sub [1,1,0,1,0,0,1,1,0,0,1,1,0,0] B70) (env70 (.imm .arg 1 rw) (.i (f:Int)) (.agg ps) (.ptr 0 0 0 1) (.imm .lit 3 []) (.sl 1 0 m none m 3) (.i (i:Int)) (.i (j:Int)) (.i (rw.length:Int)) (.i (i:Int))) [.arr 11 [.agg ps] true 0,.arr 3 es true 0] (.exit 2) (env70 (.imm .arg 1 rw) (.i (f:Int)) (.agg ps) (.ptr 0 0 0 1) (.imm .lit 3 []) (.sl 1 0 m none m 3) (.i (i:Int)) (.i (j:Int)) (.i (rw.length:Int)) (.i (i:Int))) [.arr 11 [.agg ps] true 0,.arr 3 es true 0] :=
  RunsTo.hin N 60 [⟨6,2,.bool false,[.arr 11 [.agg ps] true 0,.arr 3 es true 0]⟩] fun kf hk=>⟨_,by kernel_rfl,(oB [.arr 11 [.agg ps] true 0,.arr 3 es true 0] (decide_eq_false g0) .nil)⟩
theorem ed_i_0 (N:Nat) (rw ps:List HV) (f:Nat) (m:Nat) (es:List HV) (i:Nat) {y8 y9:HV}:RT polSo 70 (sub [1,1,0,1,0,0,1,1,1] B70) (env70 (.imm .arg 1 rw) (.i (f:Int)) (.agg ps) (.ptr 0 0 0 1) (.imm .lit 3 []) (.sl 1 0 m none m 3) y8 y9 (.i (rw.length:Int)) (.i (i:Int))) [.arr 11 [.agg ps] true 0,.arr 3 es true 0] .normal (env70 (.imm .arg 1 rw) (.i (f:Int)) (.agg ps) (.ptr 0 0 0 1) (.imm .lit 3 []) (.sl 1 0 m none m 3) y8 y9 (.i (rw.length:Int)) (.i (IntKind.i64.wrap ((i:Int)+1)))) [.arr 11 [.agg ps] true 0,.arr 3 es true 0] :=
  RunsTo.hin N 60 [] fun kf hk=>⟨_,by kernel_rfl,.nil⟩
theorem ed_j_0 (N:Nat) (rw ps:List HV) (f:Nat) (m:Nat) (es:List HV) {y8 y9 y11 y12:HV} {H0:Heap} (g0:∀ kf,N ≤ kf → callN Tp polSo (kf+1) 76 [.sl 1 0 m none m 3,.func 77 [] []] [.arr 11 [.agg ps] true 0,.arr 3 es true 0]=some (.tuple [],H0)):RT polSo 70 (sub [1,1,1] B70) (env70 (.imm .arg 1 rw) (.i (f:Int)) (.agg ps) (.ptr 0 0 0 1) (.imm .lit 3 []) (.sl 1 0 m none m 3) y8 y9 y11 y12) [.arr 11 [.agg ps] true 0,.arr 3 es true 0] .ret (env70 (.imm .arg 1 rw) (.i (f:Int)) (.agg ps) (.ptr 0 0 0 1) (.sl 1 0 m none m 3) (.sl 1 0 m none m 3) y8 y9 y11 y12) H0 :=
  RunsTo.hin N 60 [⟨10,1,.tuple [],H0⟩] fun kf hk=>⟨_,by kernel_rfl,(oC (g0 kf (by omega)) .nil)⟩
end Go.Proofs.Ytlendaofkmhgmaa
end
section
open Go Go.HL
namespace Go.Proofs.Ytlendaofkmhgmaa
open Go.Proofs.Try renaming prog → Tp
open Go.HL.HV renaming undef → Ud
section
variable {d:List (List Int)}
abbrev imE (d:List (List Int)) (v4 v5 v6 v7 v8 v13 v14 v15 v29 v30 v31 v36 v37 v38:HV):Env:=env46 (.imm .arg 1 (d.map encR)) (.bool false) v4 v5 v6 v7 v8 v13 v14 v15 v29 v30 v31 v36 v37 v38
abbrev imA (d:List (List Int)) (i:Nat):Env:=imE d Ud Ud Ud Ud Ud (.imm .arg 1 (d.map encR)) (.int .i64 (d.length:Int)) (.int .i64 (i:Int)) Ud Ud Ud Ud Ud Ud
abbrev imB (d:List (List Int)) (i:Nat):Env:=imE d Ud Ud Ud Ud Ud Ud Ud Ud (.imm .arg 1 (d.map encR)) (.int .i64 (d.length:Int)) (.int .i64 (i:Int)) Ud Ud Ud
abbrev imC (d:List (List Int)) (i:Nat) (l:List Int) (j:Nat):Env:=imE d Ud (.int .i64 (i:Int)) Ud Ud Ud Ud Ud Ud (.imm .arg 1 (d.map encR)) (.int .i64 (d.length:Int)) (.int .i64 (i:Int)) (.imm .arg 1 (l.map encI)) (.int .i64 (l.length:Int)) (.int .i64 (j:Int))
def rowOk (d:List (List Int)) (i:Nat):Prop:=rowLen d i∧∀ v,v ∈ d.getD i [] → mi v
open Classical in
theorem im_rows (hd:d.length ≤ 1000) (hw:∀ r,r ∈ d → r.length ≤ 1000):∀ (k i:Nat),i+k=d.length →
    ∃ x E,RT polM 46 (sub [1,1,0,1,0] B46) (imA d i) [] x E [] ∧
      ((x=.exit 0∧E=imA d d.length∧∀ a,i ≤ a → a < d.length → rowOk d a) ∨ (x=.ret∧E.get 2=.bool false∧¬ ∀ a,a < d.length → rowOk d a)):=by
  intro k
  induction k with
  | zero =>
    intro i hi
    have hi:i=d.length:=by omega
    subst hi
    have s1:=im_l_3 0 (d.map encR) d.length [] [] (by rw [List.length_map]; omega)
    rw [List.length_map] at s1
    exact ⟨_,_,lpo s1,.inl ⟨rfl,rfl,fun a h1 h2=>by omega⟩⟩
  | succ k ih =>
    intro i hi
    have hil:i < d.length:=by omega
    have hg:=gri' hil
    by_cases c:(d.getD i []).length=d.length
    · have hr9:(d.getD i []).length ≤ 1000:=by omega
      have hcf:=cf_call (d.getD i []) [] hr9
      obtain ⟨N,hN⟩:=CallsTo.from hcf
      by_cases c2:∀ v,v ∈ d.getD i [] → mi v
      · rw [decide_eq_false (fun h=>h c2)] at hN
        have s1:=im_l_1 N (d.map encR) i [] [] _ [] (by rw [List.length_map]; omega) hg (by rw [List.length_map,List.length_map]; omega) hN
        rw [wrap_succ (by omega),List.length_map] at s1
        obtain ⟨x,E,h1,h2⟩:=ih (i+1) (by omega)
        refine ⟨x,E,lop s1 rfl h1,?_⟩
        rcases h2 with ⟨k1,k2,k3⟩ | h2
        · exact .inl ⟨k1,k2,fun a h1 h2=>by
            by_cases e:a=i
            · rw [e]; exact ⟨c,c2⟩
            · exact k3 a (by omega) h2⟩
        · exact .inr h2
      · rw [decide_eq_true c2] at hN
        have s1:=im_l_0 N (d.map encR) i [] [] _ [] (by rw [List.length_map]; omega) hg (by rw [List.length_map,List.length_map]; omega) hN
        rw [List.length_map] at s1
        exact ⟨_,_,lpo s1,.inr ⟨rfl,rfl,fun h=>c2 (h i hil).2⟩⟩
    · have s1:=im_l_2 0 (d.map encR) i [] [] _ (by rw [List.length_map]; omega) hg (by rw [List.length_map,List.length_map]; omega)
      rw [List.length_map] at s1
      exact ⟨_,_,lpo s1,.inr ⟨rfl,rfl,fun h=>c (h i hil).1⟩⟩
theorem im_cells (hd:d.length ≤ 1000) (hr:∀ a,a < d.length → rowLen d a) {i:Nat} (hi:i < d.length):∀ (k j:Nat),j+k=d.length →
    ∃ x E,RT polM 46 (sub [1,1,1,0,1,0,0,1,1,0,0,1,1,0] B46) (imC d i (d.getD i []) j) [] x E [] ∧
      ((x=.exit 4∧E=imC d i (d.getD i []) d.length∧∀ a,j ≤ a → a < d.length → symAt d i a) ∨ (x=.ret∧E.get 2=.bool false∧¬ ∀ a,a < d.length → symAt d i a)):=by
  intro k
  have hl:((d.getD i []).map encI).length=d.length:=by rw [List.length_map]; exact hr i hi
  induction k with
  | zero =>
    intro j hj
    have hj:j=d.length:=by omega
    subst hj
    have s1:=im_k_4 0 (d.map encR) i [] ((d.getD i []).map encI) d.length (by rw [hl]; omega)
    rw [List.length_map,List.length_map] at s1
    exact ⟨_,_,lpo s1,.inl ⟨rfl,rfl,fun a h1 h2=>by omega⟩⟩
  | succ k ih =>
    intro j hj
    have hjl:j < d.length:=by omega
    have bad:∀ E,RT polM 46 (sub [1,1,1,0,1,0,0,1,1,0,0,1,1,0,0] B46) (imC d i (d.getD i []) j) [] .ret E [] → E.get 2=.bool false → ¬ symAt d i j → _:=fun E t hE hc =>
      (⟨_,E,lpo t,.inr ⟨rfl,hE,fun h=>hc (h j hjl)⟩⟩:∃ x E,RT polM 46 (sub [1,1,1,0,1,0,0,1,1,0,0,1,1,0] B46) (imC d i (d.getD i []) j) [] x E [] ∧
      ((x=.exit 4∧E=imC d i (d.getD i []) d.length∧∀ a,j ≤ a → a < d.length → symAt d i a) ∨ (x=.ret∧E.get 2=.bool false∧¬ ∀ a,a < d.length → symAt d i a)))
    have good:∀ v7 v8,symAt d i j → RT polM 46 (sub [1,1,1,0,1,0,0,1,1,0,0,1,1,0,0] B46) (imC d i (d.getD i []) j) [] .normal (imE d Ud (.int .i64 (i:Int)) Ud v7 v8 Ud Ud Ud (.imm .arg 1 (d.map encR)) (.int .i64 (d.length:Int)) (.int .i64 (i:Int)) (.imm .arg 1 ((d.getD i []).map encI)) (.int .i64 ((d.getD i []).length:Int)) (.int .i64 (IntKind.i64.wrap ((j:Int)+1)))) [] → _:=fun v7 v8 hc t=>(by
      rw [wrap_succ (by omega)] at t
      obtain ⟨x,E,h1,h2⟩:=ih (j+1) (by omega)
      refine ⟨x,E,lop t rfl h1,?_⟩
      rcases h2 with ⟨k1,k2,k3⟩ | h2
      · exact .inl ⟨k1,k2,fun a h1 h2=>by
          by_cases e:a=j
          · rw [e]; exact hc
          · exact k3 a (by omega) h2⟩
      · exact .inr h2:∃ x E,RT polM 46 (sub [1,1,1,0,1,0,0,1,1,0,0,1,1,0] B46) (imC d i (d.getD i []) j) [] x E [] ∧
      ((x=.exit 4∧E=imC d i (d.getD i []) d.length∧∀ a,j ≤ a → a < d.length → symAt d i a) ∨ (x=.ret∧E.get 2=.bool false∧¬ ∀ a,a < d.length → symAt d i a)))
    have gj:=gri' hjl
    have g1:=gat (hr i hi) hjl
    have g2:=gat (hr j hjl) hi
    have hjm:(j:Int) < ((((d.getD i []).map encI).length:Nat):Int):=by rw [hl]; omega
    by_cases c3:at2 d i j=at2 d j i
    · by_cases c4:i=j
      · by_cases c5:at2 d i j=0
        · have s:=im_k_0 0 (d.map encR) i [] ((d.getD i []).map encI) j _ _ _ hjm g1 gj g2 c3 (by omega) c5
          rw [List.length_map,List.length_map] at s
          exact good _ _ ⟨c3,fun _=>c5⟩ s
        · have s:=im_k_1 0 (d.map encR) i [] ((d.getD i []).map encI) j _ _ _ hjm g1 gj g2 c3 (by omega) c5
          rw [List.length_map,List.length_map] at s
          exact bad _ s rfl fun h=>c5 (h.2 c4)
      · have s:=im_k_2 0 (d.map encR) i [] ((d.getD i []).map encI) j _ _ _ hjm g1 gj g2 c3 (by omega)
        rw [List.length_map,List.length_map] at s
        exact good _ _ ⟨c3,fun h=>absurd h c4⟩ s
    · have s:=im_k_3 0 (d.map encR) i [] ((d.getD i []).map encI) j _ _ _ hjm g1 gj g2 c3
      rw [List.length_map,List.length_map] at s
      exact bad _ s rfl fun h=>c3 h.1
theorem im_outer (hd:d.length ≤ 1000) (hr:∀ a,a < d.length → rowLen d a):∀ (k i:Nat),i+k=d.length →
    ∃ x E,RT polM 46 (sub [1,1,1,0,1,0] B46) (imB d i) [] x E [] ∧
      ((x=.exit 2∧E=imB d d.length∧∀ b,i ≤ b → b < d.length → ∀ a,a < d.length → symAt d b a) ∨ (x=.ret∧E.get 2=.bool false∧¬ ∀ b,b < d.length → ∀ a,a < d.length → symAt d b a)):=by
  intro k
  induction k with
  | zero =>
    intro i hi
    have hi:i=d.length:=by omega
    subst hi
    have s1:=im_e_1 0 (d.map encR) d.length [] (by rw [List.length_map]; omega)
    have s2:=im_ff_0 0 (d.map encR) d.length []
    rw [List.length_map] at s1 s2
    have t1:=sqo s2 (c:=sub [1,1,1,0,1,0,0,1] B46) (b:=sub [1,1,1,0,1,0,0,1,1] B46)
    have t2:=sq s1 t1 (c:=sub [1,1,1,0,1,0,0] B46)
    exact ⟨_,_,lpo t2,.inl ⟨rfl,rfl,fun a h1 h2=>by omega⟩⟩
  | succ k ih =>
    intro i hi
    have hil:i < d.length:=by omega
    have s1:=im_e_0 0 (d.map encR) i [] (by rw [List.length_map]; omega)
    have s2:=im_ft_0 0 (d.map encR) i []
    have g1:=im_g_0 0 (d.map encR) i [] [] _ (gri' hil)
    have g2:=im_h_0 0 (d.map encR) i [] ((d.getD i []).map encI)
    rw [List.length_map] at s1 s2 g1
    rw [List.length_map,List.length_map] at g2
    obtain ⟨x,E,h1,h2⟩:=im_cells hd hr hil d.length 0 (by omega)
    have h1':=lpi (e0:=imE d Ud (.int .i64 (i:Int)) (.imm .arg 1 ((d.getD i []).map encI)) Ud Ud Ud Ud Ud (.imm .arg 1 (d.map encR)) (.int .i64 (d.length:Int)) (.int .i64 (i:Int)) (.imm .arg 1 ((d.getD i []).map encI)) (.int .i64 ((d.getD i []).length:Int)) (.int .i64 0)) h1 (b:=sub [1,1,1,0,1,0,0,1,1,0,0,1,1,0,0] B46)
    rcases h2 with ⟨rfl,rfl,k3⟩ | ⟨rfl,k2,k3⟩
    · have n1:=im_n_0 0 (d.map encR) i [] ((d.getD i []).map encI) d.length
      rw [wrap_succ (by omega),List.length_map,List.length_map] at n1
      have t1:=sq g2 (bke (c:=sub [1,1,1,0,1,0,0,1,1,0,0,1,1] B46) h1') (c:=sub [1,1,1,0,1,0,0,1,1,0,0,1] B46)
      have t2:=RunsTo.block_normal (i:=3) (c:=sub [1,1,1,0,1,0,0,1,1,0] B46) (sq g1 t1 (c:=sub [1,1,1,0,1,0,0,1,1,0,0] B46)) (by kernel_rfl)
      have t3:=sq s2 (sq t2 n1 (c:=sub [1,1,1,0,1,0,0,1,1] B46)) (c:=sub [1,1,1,0,1,0,0,1] B46)
      have t4:=sq s1 t3 (c:=sub [1,1,1,0,1,0,0] B46)
      obtain ⟨x,E,r1,r2⟩:=ih (i+1) (by omega)
      refine ⟨x,E,lop t4 rfl r1,?_⟩
      rcases r2 with ⟨q1,q2,q3⟩ | r2
      · exact .inl ⟨q1,q2,fun b h1 h2=>by
          by_cases e:b=i
          · rw [e]; exact fun a ha=>k3 a (by omega) ha
          · exact q3 b (by omega) h2⟩
      · exact .inr r2
    · have t1:=sq g2 (RunsTo.block_ret (c:=sub [1,1,1,0,1,0,0,1,1,0,0,1,1] B46) (i:=4) h1' (by kernel_rfl)) (c:=sub [1,1,1,0,1,0,0,1,1,0,0,1] B46)
      have t2:=RunsTo.block_ret (i:=3) (c:=sub [1,1,1,0,1,0,0,1,1,0] B46) (sq g1 t1 (c:=sub [1,1,1,0,1,0,0,1,1,0,0] B46)) (by kernel_rfl)
      have t3:=sq s2 (sqo t2 (c:=sub [1,1,1,0,1,0,0,1,1] B46) (b:=sub [1,1,1,0,1,0,0,1,1,1] B46)) (c:=sub [1,1,1,0,1,0,0,1] B46)
      have t4:=sq s1 t3 (c:=sub [1,1,1,0,1,0,0] B46)
      exact ⟨_,E,lpo t4,.inr ⟨rfl,k2,fun h=>k3 (h i hil)⟩⟩
theorem okD_iff2:okD d ↔ (1 ≤ d.length∧d.length ≤ 11)∧(∀ a,a < d.length → rowOk d a)∧∀ b,b < d.length → ∀ a,a < d.length → symAt d b a:=by
  rw [okD_iff]
  constructor
  · rintro ⟨h1,h2,h3⟩
    refine ⟨h1,fun a ha=>⟨h2 a ha,fun v hv=>?_⟩,fun b hb a ha=>(h3 b hb a ha).2⟩
    obtain ⟨j,hj,rfl⟩:=List.getElem_of_mem hv
    have hjd:j < d.length:=by have:=h2 a ha; unfold rowLen at this; omega
    have:=(h3 a ha j hjd).1
    unfold at2 at this
    rw [getD_at hj] at this
    exact this
  · rintro ⟨h1,h2,h3⟩
    refine ⟨h1,fun a ha=>(h2 a ha).1,fun b hb a ha=>⟨?_,h3 b hb a ha⟩⟩
    have hl:a < (d.getD b []).length:=by have:=(h2 b hb).1; unfold rowLen at this; omega
    have:=(h2 b hb).2 _ (List.getElem_mem hl)
    unfold at2
    rw [getD_at hl]
    exact this
end
theorem res46:Try.f46.results.toList=[.tmp 2]:=by kernel_rfl
theorem miles_ok:PrimOk Tp 46 miles46:=by
  refine primOk_pure (pol:=polM) (fn:=Try.f46) (cd:=B46) follows_mixed soundM (by kernel_rfl) (by kernel_rfl) (fnok polM.prim _ _ (by kernel_rfl)) (by kernel_rfl) ?_
  intro args res h
  obtain ⟨d,rfl,hq⟩:=rwF_inv h
  clear h
  split at hq
  · rename_i hc
    cases hq
    have hw:∀ r,r ∈ d → r.length ≤ 1000:=fun r hr=>by simpa using List.all_eq_true.1 hc.2 r hr
    have a1:=im_a_0 0 (d.map encR)
    have fin:∀ b E,RT polM 46 (sub [1] B46) (imE d Ud Ud Ud Ud Ud Ud Ud Ud Ud Ud Ud Ud Ud Ud) [] .ret E [] → E.get 2=.bool b → okB d=b →
        ∃ x E H' v,RT polM 46 B46 (args0 [.imm .arg 1 (d.map encR)]) [] x E H'∧(∀ i,x ≠ .exit i)∧resultsV Tp Try.f46 E H'=some v∧toRes H' (polM.deep 46) v=some (.bool (okB d)):=by
      intro b E t hE hb
      exact ⟨_,E,[],.bool b,sq a1 t (c:=B46),by simp,by simp only [resultsV,res46,mapO,resultV,hE],by rw [hb]; rfl⟩
    by_cases c1:(1:Int) ≤ (((d.map encR).length:Nat):Int)∧(((d.map encR).length:Nat):Int) ≤ 11
    · have b1:=im_b_0 0 (d.map encR) c1
      have cc:=im_c_0 0 (d.map encR)
      rw [List.length_map] at c1 cc
      obtain ⟨x,E,h1,h2⟩:=im_rows hc.1 hw d.length 0 (by omega)
      rcases h2 with ⟨rfl,rfl,k3⟩ | ⟨rfl,k2,k3⟩
      · have hr:∀ a,a < d.length → rowLen d a:=fun a ha=>(k3 a (Nat.zero_le _) ha).1
        have d1:=im_d_0 0 (d.map encR) d.length [] Ud
        rw [List.length_map] at d1
        obtain ⟨x,E,r1,r2⟩:=im_outer hc.1 hr d.length 0 (by omega)
        have r1':=lpi (e0:=imE d Ud Ud Ud Ud Ud (.imm .arg 1 (d.map encR)) (.int .i64 (d.length:Int)) (.int .i64 (d.length:Int)) (.imm .arg 1 (d.map encR)) (.int .i64 (d.length:Int)) (.int .i64 0) Ud Ud Ud) r1 (b:=sub [1,1,1,0,1,0,0] B46)
        have t1:=sq cc (bke (c:=sub [1,1,0,1] B46) h1) (c:=sub [1,1,0] B46)
        rcases r2 with ⟨rfl,rfl,q3⟩ | ⟨rfl,q2,q3⟩
        · have z1:=im_z_0 0 (d.map encR) d.length []
          rw [List.length_map] at z1
          have t2:=sq d1 (bke (c:=sub [1,1,1,0,1] B46) r1') (c:=sub [1,1,1,0] B46)
          have t3:=sq t1 (sq t2 z1 (c:=sub [1,1,1] B46)) (c:=sub [1,1] B46)
          exact fin true _ (sq b1 t3 (c:=sub [1] B46)) rfl (okB_true (okD_iff2.2 ⟨⟨by omega,by omega⟩,fun a ha=>k3 a (Nat.zero_le _) ha,fun b hb=>q3 b (Nat.zero_le _) hb⟩))
        · have t2:=sq d1 (RunsTo.block_ret (c:=sub [1,1,1,0,1] B46) (i:=2) r1' (by kernel_rfl)) (c:=sub [1,1,1,0] B46)
          have t3:=sq t1 (sqo t2 (c:=sub [1,1,1] B46) (b:=sub [1,1,1,1] B46)) (c:=sub [1,1] B46)
          exact fin false _ (sq b1 t3 (c:=sub [1] B46)) q2 (okB_false fun h=>q3 (okD_iff2.1 h).2.2)
      · have t1:=sq cc (RunsTo.block_ret (c:=sub [1,1,0,1] B46) (i:=0) h1 (by kernel_rfl)) (c:=sub [1,1,0] B46)
        have t3:=sq b1 (sqo t1 (c:=sub [1,1] B46) (b:=sub [1,1,1] B46)) (c:=sub [1] B46)
        exact fin false _ t3 k2 (okB_false fun h=>k3 (okD_iff2.1 h).2.1)
    · have b1:=im_b_1 0 (d.map encR) c1
      rw [List.length_map] at c1
      exact fin false _ (sqo b1 (c:=sub [1] B46) (b:=sub [1,1] B46)) rfl (okB_false fun h=>c1 ⟨by have:=h.1.1; omega,by have:=h.1.2; omega⟩)
  · cases hq
end Go.Proofs.Ytlendaofkmhgmaa
end
section
open Go Go.HL
namespace Go.Proofs.Ytlendaofkmhgmaa
set_option maxRecDepth 100000
open Go.Proofs.Try renaming prog → Tp
open Go.HL.HV renaming undef → Ud
noncomputable def B57:Code:=Try.f57.body.getD .skip
abbrev env57 (v0 v1 v4 v5 v6 v18 v19 v20:HV):Env:=[(0,v0),(1,v1),(4,v4),(5,v5),(6,v6),(18,v18),(19,v19),(20,v20)]
theorem it_a_0 (rw la:List HV):RT polT 57 (sub [0] B57) [(0,.imm .arg 1 rw),(1,.imm .arg 1 la)] [] .normal (env57 (.imm .arg 1 rw) (.imm .arg 1 la) (.bool false) Ud Ud Ud Ud Ud) [] :=
  RunsTo.hin 0 60 [] fun kf hk=>⟨_,by kernel_rfl,.nil⟩
theorem it_b_0 (rw la:List HV) (x0:Int) (g0:(la.length:Int)=(rw.length:Int)) (g1:idxV Tp 23 (.imm .arg 1 la) (.i 0)=some (.vptr (.i x0))) (g2:x0=0):RT polT 57 (sub [1,0] B57) (env57 (.imm .arg 1 rw) (.imm .arg 1 la) (.bool false) Ud Ud Ud Ud Ud) [] .normal (env57 (.imm .arg 1 rw) (.imm .arg 1 la) (.bool false) Ud Ud Ud Ud Ud) [] :=
  RunsTo.hin 0 60 [⟨1,4,.bool false,[]⟩,⟨1,7,.vptr (.i x0),[]⟩,⟨1,9,.bool false,[]⟩] fun kf hk=>⟨_,by kernel_rfl,(oB [] (congrArg not (decide_eq_true g0)) (oP [] g1 (oB [] (congrArg not (decide_eq_true g2)) .nil)))⟩
theorem it_b_1 (rw la:List HV) (x0:Int) (g0:(la.length:Int)=(rw.length:Int)) (g1:idxV Tp 23 (.imm .arg 1 la) (.i 0)=some (.vptr (.i x0))) (g2:¬ (x0=0)):RT polT 57 (sub [1,0] B57) (env57 (.imm .arg 1 rw) (.imm .arg 1 la) (.bool false) Ud Ud Ud Ud Ud) [] .ret (env57 (.imm .arg 1 rw) (.imm .arg 1 la) (.bool false) Ud Ud Ud Ud Ud) [] :=
  RunsTo.hin 0 60 [⟨1,4,.bool false,[]⟩,⟨1,7,.vptr (.i x0),[]⟩,⟨1,9,.bool true,[]⟩] fun kf hk=>⟨_,by kernel_rfl,(oB [] (congrArg not (decide_eq_true g0)) (oP [] g1 (oB [] (congrArg not (decide_eq_false g2)) .nil)))⟩
theorem it_b_2 (rw la:List HV)(g0:¬ ((la.length:Int)=(rw.length:Int))):RT polT 57 (sub [1,0] B57) (env57 (.imm .arg 1 rw) (.imm .arg 1 la) (.bool false) Ud Ud Ud Ud Ud) [] .ret (env57 (.imm .arg 1 rw) (.imm .arg 1 la) (.bool false) Ud Ud Ud Ud Ud) [] :=
  RunsTo.hin 0 60 [⟨1,4,.bool true,[]⟩] fun kf hk=>⟨_,by kernel_rfl,(oB [] (congrArg not (decide_eq_false g0)) .nil)⟩
theorem it_c_0 (rw la:List HV):RT polT 57 (sub [1,1,0,0] B57) (env57 (.imm .arg 1 rw) (.imm .arg 1 la) (.bool false) Ud Ud Ud Ud Ud) [] .normal (env57 (.imm .arg 1 rw) (.imm .arg 1 la) (.bool false) Ud Ud (.imm .arg 1 la) (.i (la.length:Int)) (.i 0)) [] :=
  RunsTo.hin 0 60 [] fun kf hk=>⟨_,by kernel_rfl,.nil⟩
theorem it_l_0 (rw la:List HV) (j:Nat) (x0:Int) (g0:(j:Int) < (la.length:Int)) (g1:idxV Tp 23 (.imm .arg 1 la) (.i (j:Int))=some (.vptr (.i x0))) (g2:(0:Int) ≤ x0∧x0 ≤ IntKind.i64.wrap ((rw.length:Int) - 1)) (g3:sliceV Tp 23 (.imm .arg 1 la) none (some (.i (j:Int))) none=some (.imm .arg 1 (la.take j))) (g4:∀ kf,callN Tp polT (kf+1) 60 [.imm .arg 1 (la.take j),.i x0] []=some (.bool true,[])):RT polT 57 (sub [1,1,0,1,0,0] B57) (env57 (.imm .arg 1 rw) (.imm .arg 1 la) (.bool false) Ud Ud (.imm .arg 1 la) (.i (la.length:Int)) (.i (j:Int))) [] .ret (env57 (.imm .arg 1 rw) (.imm .arg 1 la) (.bool false) (.i (j:Int)) (.i x0) (.imm .arg 1 la) (.i (la.length:Int)) (.i (j:Int))) [] :=
  RunsTo.hin 0 60 [⟨4,0,.bool true,[]⟩,⟨5,1,.vptr (.i x0),[]⟩,⟨6,4,.bool true,[]⟩,⟨6,9,.imm .arg 1 (la.take j),[]⟩,⟨6,11,.bool true,[]⟩] fun kf hk=>⟨_,by kernel_rfl,(oB [] (decide_eq_true g0) (oP [] g1 (oB [] (decide_eq_true g2) (oP [] g3 (oC (g4 kf) .nil)))))⟩
theorem it_l_1 (rw la:List HV) (j:Nat) (x0:Int) (g0:(j:Int) < (la.length:Int)) (g1:idxV Tp 23 (.imm .arg 1 la) (.i (j:Int))=some (.vptr (.i x0))) (g2:(0:Int) ≤ x0∧x0 ≤ IntKind.i64.wrap ((rw.length:Int) - 1)) (g3:sliceV Tp 23 (.imm .arg 1 la) none (some (.i (j:Int))) none=some (.imm .arg 1 (la.take j))) (g4:∀ kf,callN Tp polT (kf+1) 60 [.imm .arg 1 (la.take j),.i x0] []=some (.bool false,[])):RT polT 57 (sub [1,1,0,1,0,0] B57) (env57 (.imm .arg 1 rw) (.imm .arg 1 la) (.bool false) Ud Ud (.imm .arg 1 la) (.i (la.length:Int)) (.i (j:Int))) [] .normal (env57 (.imm .arg 1 rw) (.imm .arg 1 la) (.bool false) (.i (j:Int)) (.i x0) (.imm .arg 1 la) (.i (la.length:Int)) (.i (IntKind.i64.wrap ((j:Int)+1)))) [] :=
  RunsTo.hin 0 60 [⟨4,0,.bool true,[]⟩,⟨5,1,.vptr (.i x0),[]⟩,⟨6,4,.bool true,[]⟩,⟨6,9,.imm .arg 1 (la.take j),[]⟩,⟨6,11,.bool false,[]⟩] fun kf hk=>⟨_,by kernel_rfl,(oB [] (decide_eq_true g0) (oP [] g1 (oB [] (decide_eq_true g2) (oP [] g3 (oC (g4 kf) .nil)))))⟩
theorem it_l_2 (rw la:List HV) (j:Nat) (x0:Int) (g0:(j:Int) < (la.length:Int)) (g1:idxV Tp 23 (.imm .arg 1 la) (.i (j:Int))=some (.vptr (.i x0))) (g2:¬ ((0:Int) ≤ x0∧x0 ≤ IntKind.i64.wrap ((rw.length:Int) - 1))):RT polT 57 (sub [1,1,0,1,0,0] B57) (env57 (.imm .arg 1 rw) (.imm .arg 1 la) (.bool false) Ud Ud (.imm .arg 1 la) (.i (la.length:Int)) (.i (j:Int))) [] .ret (env57 (.imm .arg 1 rw) (.imm .arg 1 la) (.bool false) (.i (j:Int)) (.i x0) (.imm .arg 1 la) (.i (la.length:Int)) (.i (j:Int))) [] :=
  RunsTo.hin 0 60 [⟨4,0,.bool true,[]⟩,⟨5,1,.vptr (.i x0),[]⟩,⟨6,4,.bool false,[]⟩] fun kf hk=>⟨_,by kernel_rfl,(oB [] (decide_eq_true g0) (oP [] g1 (oB [] (decide_eq_false g2) .nil)))⟩
theorem it_l_3 (rw la:List HV) (j:Nat)(g0:¬ ((j:Int) < (la.length:Int))):RT polT 57 (sub [1,1,0,1,0,0] B57) (env57 (.imm .arg 1 rw) (.imm .arg 1 la) (.bool false) Ud Ud (.imm .arg 1 la) (.i (la.length:Int)) (.i (j:Int))) [] (.exit 0) (env57 (.imm .arg 1 rw) (.imm .arg 1 la) (.bool false) Ud Ud (.imm .arg 1 la) (.i (la.length:Int)) (.i (j:Int))) [] :=
  RunsTo.hin 0 60 [⟨4,0,.bool false,[]⟩] fun kf hk=>⟨_,by kernel_rfl,(oB [] (decide_eq_false g0) .nil)⟩
theorem it_z_0 (rw la:List HV) (j:Nat):RT polT 57 (sub [1,1,1] B57) (env57 (.imm .arg 1 rw) (.imm .arg 1 la) (.bool false) Ud Ud (.imm .arg 1 la) (.i (la.length:Int)) (.i (j:Int))) [] .ret (env57 (.imm .arg 1 rw) (.imm .arg 1 la) (.bool true) Ud Ud (.imm .arg 1 la) (.i (la.length:Int)) (.i (j:Int))) [] :=
  RunsTo.hin 0 60 [] fun kf hk=>⟨_,by kernel_rfl,.nil⟩
noncomputable def B52:Code:=Try.f52.body.getD .skip
abbrev env52 (v0 v2:HV):Env:=[(0,v0),(2,v2)]
theorem cl_1 (l:List HV)(g0:nilTest Tp .eql 23 (.imm .arg 1 l)=some (.bool false)) (g1:appV [] 1 8 (.imm .lit 1 []) l=some (.sl 0 0 l.length none l.length 1,[.arr 1 l true 0])):RT pol 52 (sub [] B52) [(0,.imm .arg 1 l)] [] .ret (env52 (.imm .arg 1 l) (.sl 0 0 l.length none l.length 1)) [.arr 1 l true 0] :=
  RunsTo.hin 0 60 [⟨1,1,.bool false,[]⟩,⟨3,2,.sl 0 0 l.length none l.length 1,[.arr 1 l true 0]⟩] fun kf hk=>⟨_,by kernel_rfl,(oP [] g0 (oC (g1) .nil))⟩
noncomputable def B71:Code:=Try.f71.body.getD .skip
abbrev env71 (v0 v2 v3:HV):Env:=[(0,v0),(2,v2),(3,v3)]
theorem rv_a_0 (b lo n tot:Nat) (H:Heap):RT polV 71 (sub [0] B71) [(0,.sl b lo n none tot 1)] H .normal (env71 (.sl b lo n none tot 1) (.i 0) (.i (IntKind.i64.wrap ((n:Int) - 1)))) H :=
  RunsTo.hin 0 60 [] fun kf hk=>⟨_,by kernel_rfl,.nil⟩
theorem rv_l_0 (b lo n tot:Nat) (H:Heap) (i j:Nat) (x0:Int) (x1:Int) (H0:Heap) (H1:Heap) (g0:(i:Int) < (j:Int)) (g1:idxV Tp 23 (.sl b lo n none tot 1) (.i (j:Int))=some (.ptr b (lo+j) 0 tot)) (g2:loadV Tp H 3 (.ptr b (lo+j) 0 tot)=some (.i x0)) (g3:idxV Tp 23 (.sl b lo n none tot 1) (.i (i:Int))=some (.ptr b (lo+i) 0 tot)) (g4:loadV Tp H 3 (.ptr b (lo+i) 0 tot)=some (.i x1)) (g5:idxV Tp 23 (.sl b lo n none tot 1) (.i (i:Int))=some (.ptr b (lo+i) 0 tot)) (g6:storeV Tp H 3 (.ptr b (lo+i) 0 tot) (.i x0)=some H0) (g7:idxV Tp 23 (.sl b lo n none tot 1) (.i (j:Int))=some (.ptr b (lo+j) 0 tot)) (g8:storeV Tp H0 3 (.ptr b (lo+j) 0 tot) (.i x1)=some H1):RT polV 71 (sub [1,0,0] B71) (env71 (.sl b lo n none tot 1) (.i (i:Int)) (.i (j:Int))) H .normal (env71 (.sl b lo n none tot 1) (.i (IntKind.i64.wrap ((i:Int)+1))) (.i (IntKind.i64.wrap ((j:Int) - 1)))) H1 :=
  RunsTo.hin 0 60 [⟨1,2,.bool true,H⟩,⟨3,6,.ptr b (lo+j) 0 tot,H⟩,⟨3,7,.i x0,H⟩,⟨3,10,.ptr b (lo+i) 0 tot,H⟩,⟨3,11,.i x1,H⟩,⟨3,12,.ptr b (lo+i) 0 tot,H⟩,⟨3,13,.tuple [],H0⟩,⟨3,14,.ptr b (lo+j) 0 tot,H0⟩,⟨3,15,.tuple [],H1⟩] fun kf hk=>⟨_,by kernel_rfl,(oB H (decide_eq_true g0) (oP H g1 (oP H g2 (oP H g3 (oP H g4 (oP H g5 (oS g6 (oP H0 g7 (oS g8 .nil)))))))))⟩
theorem rv_l_1 (b lo n tot:Nat) (H:Heap) (i j:Nat)(g0:¬ ((i:Int) < (j:Int))):RT polV 71 (sub [1,0,0] B71) (env71 (.sl b lo n none tot 1) (.i (i:Int)) (.i (j:Int))) H (.exit 0) (env71 (.sl b lo n none tot 1) (.i (i:Int)) (.i (j:Int))) H :=
  RunsTo.hin 0 60 [⟨1,2,.bool false,H⟩] fun kf hk=>⟨_,by kernel_rfl,(oB H (decide_eq_false g0) .nil)⟩
noncomputable def B58:Code:=Try.f58.body.getD .skip
abbrev env58 (v0 v1 v4 v5 v6 v7 v8 v9:HV):Env:=[(0,v0),(1,v1),(4,v4),(5,v5),(6,v6),(7,v7),(8,v8),(9,v9)]
theorem sh_a_0 (N:Nat) (rw:List HV) (b n:Nat) (H:Heap):RT polV 58 (sub [0] B58) [(0,.imm .arg 1 rw),(1,.sl b 0 n none n 1)] H .normal (env58 (.imm .arg 1 rw) (.sl b 0 n none n 1) (.imm .lit 1 []) (.bool false) Ud Ud Ud Ud) H :=
  RunsTo.hin N 60 [] fun kf hk=>⟨_,by kernel_rfl,.nil⟩
theorem sh_b_0 (N:Nat) (rw:List HV) (b n:Nat) (H:Heap) (sm0:Int) (H0:Heap) (g0:∀ kf,N ≤ kf → callN Tp polV (kf+1) 56 [.imm .arg 1 rw,.sl b 0 n none n 1] H=some (.i sm0,H0)):RT polV 58 (sub [1,0] B58) (env58 (.imm .arg 1 rw) (.sl b 0 n none n 1) (.imm .lit 1 []) (.bool false) Ud Ud Ud Ud) H .normal (env58 (.imm .arg 1 rw) (.sl b 0 n none n 1) (.imm .lit 1 []) (.bool false) (.i sm0) Ud Ud Ud) H0 :=
  RunsTo.hin N 60 [⟨1,2,.i sm0,H0⟩] fun kf hk=>⟨_,by kernel_rfl,(oC (g0 kf (by omega)) .nil)⟩
theorem sh_c_0 (N:Nat) (rw:List HV) (b n:Nat) (H:Heap) (mo:Int):RT polV 58 (sub [1,1,0,0] B58) (env58 (.imm .arg 1 rw) (.sl b 0 n none n 1) (.imm .lit 1 []) (.bool false) (.i mo) Ud Ud Ud) H .normal (env58 (.imm .arg 1 rw) (.sl b 0 n none n 1) (.imm .lit 1 []) (.bool false) (.i mo) (.i 1) Ud Ud) H :=
  RunsTo.hin N 60 [] fun kf hk=>⟨_,by kernel_rfl,.nil⟩
theorem sh_d_0 (N:Nat) (rw:List HV) (b n:Nat) (H:Heap) (mo:Int) (i:Nat)(g0:(i:Int) < (n:Int)):RT polV 58 (sub [1,1,0,1,0,0,0] B58) (env58 (.imm .arg 1 rw) (.sl b 0 n none n 1) (.imm .lit 1 []) (.bool false) (.i mo) (.i (i:Int)) Ud Ud) H .normal (env58 (.imm .arg 1 rw) (.sl b 0 n none n 1) (.imm .lit 1 []) (.bool false) (.i mo) (.i (i:Int)) Ud Ud) H :=
  RunsTo.hin N 60 [⟨3,3,.bool true,H⟩] fun kf hk=>⟨_,by kernel_rfl,(oB H (decide_eq_true g0) .nil)⟩
theorem sh_d_1 (N:Nat) (rw:List HV) (b n:Nat) (H:Heap) (mo:Int) (i:Nat)(g0:¬ ((i:Int) < (n:Int))):RT polV 58 (sub [1,1,0,1,0,0,0] B58) (env58 (.imm .arg 1 rw) (.sl b 0 n none n 1) (.imm .lit 1 []) (.bool false) (.i mo) (.i (i:Int)) Ud Ud) H (.exit 0) (env58 (.imm .arg 1 rw) (.sl b 0 n none n 1) (.imm .lit 1 []) (.bool false) (.i mo) (.i (i:Int)) Ud Ud) H :=
  RunsTo.hin N 60 [⟨3,3,.bool false,H⟩] fun kf hk=>⟨_,by kernel_rfl,(oB H (decide_eq_false g0) .nil)⟩
theorem sh_e_0 (N:Nat) (rw:List HV) (b n:Nat) (H:Heap) (mo:Int) (i:Nat):RT polV 58 (sub [1,1,0,1,0,0,1,0,0,0] B58) (env58 (.imm .arg 1 rw) (.sl b 0 n none n 1) (.imm .lit 1 []) (.bool false) (.i mo) (.i (i:Int)) Ud Ud) H .normal (env58 (.imm .arg 1 rw) (.sl b 0 n none n 1) (.imm .lit 1 []) (.bool false) (.i mo) (.i (i:Int)) (.i (IntKind.i64.wrap ((i:Int)+1))) Ud) H :=
  RunsTo.hin N 60 [] fun kf hk=>⟨_,by kernel_rfl,.nil⟩
theorem sh_l_0 (N:Nat) (rw:List HV) (b n:Nat) (H:Heap) (mo:Int) (i:Nat) (j cb:Nat) (H0:Heap) (H1:Heap) (sm0:Int) (H2:Heap) (g0:(j:Int) < (n:Int)) (g1:∀ kf,N ≤ kf → callN Tp polV (kf+1) 52 [.sl b 0 n none n 1] H=some (.sl cb 0 n none n 1,H0)) (g2:sliceV Tp 23 (.sl cb 0 n none n 1) (some (.i (i:Int))) (some (.i (IntKind.i64.wrap ((j:Int)+1)))) none=some (.sl cb i ((j+1) - i) none n 1)) (g3:∀ kf,N ≤ kf → callN Tp polV (kf+1) 71 [.sl cb i ((j+1) - i) none n 1] H0=some (.tuple [],H1)) (g4:∀ kf,N ≤ kf → callN Tp polV (kf+1) 56 [.imm .arg 1 rw,.sl cb 0 n none n 1] H1=some (.i sm0,H2)) (g5:sm0 < mo):RT polV 58 (sub [1,1,0,1,0,0,1,0,0,1,0,0] B58) (env58 (.imm .arg 1 rw) (.sl b 0 n none n 1) (.imm .lit 1 []) (.bool false) (.i mo) (.i (i:Int)) (.i (j:Int)) Ud) H .ret (env58 (.imm .arg 1 rw) (.sl b 0 n none n 1) (.sl cb 0 n none n 1) (.bool true) (.i mo) (.i (i:Int)) (.i (j:Int)) (.sl cb 0 n none n 1)) H2 :=
  RunsTo.hin N 60 [⟨6,3,.bool true,H⟩,⟨8,1,.sl cb 0 n none n 1,H0⟩,⟨9,4,.sl cb i ((j+1) - i) none n 1,H0⟩,⟨9,5,.tuple [],H1⟩,⟨10,2,.i sm0,H2⟩,⟨10,4,.bool true,H2⟩] fun kf hk=>⟨_,by kernel_rfl,(oB H (decide_eq_true g0) (oC (g1 kf (by omega)) (oP H0 g2 (oC (g3 kf (by omega)) (oC (g4 kf (by omega)) (oB H2 (decide_eq_true g5) .nil))))))⟩
theorem sh_l_1 (N:Nat) (rw:List HV) (b n:Nat) (H:Heap) (mo:Int) (i:Nat) (j cb:Nat) (H0:Heap) (H1:Heap) (sm0:Int) (H2:Heap) (g0:(j:Int) < (n:Int)) (g1:∀ kf,N ≤ kf → callN Tp polV (kf+1) 52 [.sl b 0 n none n 1] H=some (.sl cb 0 n none n 1,H0)) (g2:sliceV Tp 23 (.sl cb 0 n none n 1) (some (.i (i:Int))) (some (.i (IntKind.i64.wrap ((j:Int)+1)))) none=some (.sl cb i ((j+1) - i) none n 1)) (g3:∀ kf,N ≤ kf → callN Tp polV (kf+1) 71 [.sl cb i ((j+1) - i) none n 1] H0=some (.tuple [],H1)) (g4:∀ kf,N ≤ kf → callN Tp polV (kf+1) 56 [.imm .arg 1 rw,.sl cb 0 n none n 1] H1=some (.i sm0,H2)) (g5:¬ (sm0 < mo)):RT polV 58 (sub [1,1,0,1,0,0,1,0,0,1,0,0] B58) (env58 (.imm .arg 1 rw) (.sl b 0 n none n 1) (.imm .lit 1 []) (.bool false) (.i mo) (.i (i:Int)) (.i (j:Int)) Ud) H .normal (env58 (.imm .arg 1 rw) (.sl b 0 n none n 1) (.imm .lit 1 []) (.bool false) (.i mo) (.i (i:Int)) (.i (IntKind.i64.wrap ((j:Int)+1))) (.sl cb 0 n none n 1)) H2 :=
  RunsTo.hin N 60 [⟨6,3,.bool true,H⟩,⟨8,1,.sl cb 0 n none n 1,H0⟩,⟨9,4,.sl cb i ((j+1) - i) none n 1,H0⟩,⟨9,5,.tuple [],H1⟩,⟨10,2,.i sm0,H2⟩,⟨10,4,.bool false,H2⟩] fun kf hk=>⟨_,by kernel_rfl,(oB H (decide_eq_true g0) (oC (g1 kf (by omega)) (oP H0 g2 (oC (g3 kf (by omega)) (oC (g4 kf (by omega)) (oB H2 (decide_eq_false g5) .nil))))))⟩
theorem sh_l_2 (N:Nat) (rw:List HV) (b n:Nat) (H:Heap) (mo:Int) (i:Nat) (j cb:Nat)(g0:¬ ((j:Int) < (n:Int))):RT polV 58 (sub [1,1,0,1,0,0,1,0,0,1,0,0] B58) (env58 (.imm .arg 1 rw) (.sl b 0 n none n 1) (.imm .lit 1 []) (.bool false) (.i mo) (.i (i:Int)) (.i (j:Int)) Ud) H (.exit 2) (env58 (.imm .arg 1 rw) (.sl b 0 n none n 1) (.imm .lit 1 []) (.bool false) (.i mo) (.i (i:Int)) (.i (j:Int)) Ud) H :=
  RunsTo.hin N 60 [⟨6,3,.bool false,H⟩] fun kf hk=>⟨_,by kernel_rfl,(oB H (decide_eq_false g0) .nil)⟩
theorem sh_f_0 (N:Nat) (rw:List HV) (b n:Nat) (H:Heap) (mo:Int) (i:Nat) (j cb:Nat):RT polV 58 (sub [1,1,0,1,0,0,1,1] B58) (env58 (.imm .arg 1 rw) (.sl b 0 n none n 1) (.imm .lit 1 []) (.bool false) (.i mo) (.i (i:Int)) (.i (j:Int)) Ud) H .normal (env58 (.imm .arg 1 rw) (.sl b 0 n none n 1) (.imm .lit 1 []) (.bool false) (.i mo) (.i (IntKind.i64.wrap ((i:Int)+1))) (.i (j:Int)) Ud) H :=
  RunsTo.hin N 60 [] fun kf hk=>⟨_,by kernel_rfl,.nil⟩
theorem sh_z_0 (N:Nat) (rw:List HV) (b n:Nat) (H:Heap) (mo:Int) (i:Nat):RT polV 58 (sub [1,1,1] B58) (env58 (.imm .arg 1 rw) (.sl b 0 n none n 1) (.imm .lit 1 []) (.bool false) (.i mo) (.i (i:Int)) Ud Ud) H .ret (env58 (.imm .arg 1 rw) (.sl b 0 n none n 1) (.sl b 0 n none n 1) (.bool false) (.i mo) (.i (i:Int)) Ud Ud) H :=
  RunsTo.hin N 60 [] fun kf hk=>⟨_,by kernel_rfl,.nil⟩
noncomputable def B35:Code:=Try.f35.body.getD .skip
abbrev env35 (v0 v1 v4 v5 v6 v7:HV):Env:=[(0,v0),(1,v1),(4,v4),(5,v5),(6,v6),(7,v7)]
theorem ip_a_0 (N:Nat) (rw la:List HV):RT polV 35 (sub [0] B35) [(0,.imm .arg 1 rw),(1,.imm .arg 1 la)] [] .normal (env35 (.imm .arg 1 rw) (.imm .arg 1 la) (.imm .lit 1 []) (.i 0) Ud Ud) [] :=
  RunsTo.hin N 60 [] fun kf hk=>⟨_,by kernel_rfl,.nil⟩
theorem ip_b_0 (N:Nat) (rw la:List HV)(g0:∀ kf,callN Tp polV (kf+1) 46 [.imm .arg 1 rw] []=some (.bool true,[])) (g1:∀ kf,callN Tp polV (kf+1) 57 [.imm .arg 1 rw,.imm .arg 1 la] []=some (.bool true,[])):RT polV 35 (sub [1,0] B35) (env35 (.imm .arg 1 rw) (.imm .arg 1 la) (.imm .lit 1 []) (.i 0) Ud Ud) [] .normal (env35 (.imm .arg 1 rw) (.imm .arg 1 la) (.imm .lit 1 []) (.i 0) Ud Ud) [] :=
  RunsTo.hin N 60 [⟨1,1,.bool true,[]⟩,⟨1,6,.bool true,[]⟩] fun kf hk=>⟨_,by kernel_rfl,(oC (g0 kf) (oC (g1 kf) .nil))⟩
theorem ip_b_1 (N:Nat) (rw la:List HV)(g0:∀ kf,callN Tp polV (kf+1) 46 [.imm .arg 1 rw] []=some (.bool true,[])) (g1:∀ kf,callN Tp polV (kf+1) 57 [.imm .arg 1 rw,.imm .arg 1 la] []=some (.bool false,[])):RT polV 35 (sub [1,0] B35) (env35 (.imm .arg 1 rw) (.imm .arg 1 la) (.imm .lit 1 []) (.i 0) Ud Ud) [] .ret (env35 (.imm .arg 1 rw) (.imm .arg 1 la) (.imm .lit 1 []) (.i 2) Ud Ud) [] :=
  RunsTo.hin N 60 [⟨1,1,.bool true,[]⟩,⟨1,6,.bool false,[]⟩] fun kf hk=>⟨_,by kernel_rfl,(oC (g0 kf) (oC (g1 kf) .nil))⟩
theorem ip_b_2 (N:Nat) (rw la:List HV)(g0:∀ kf,callN Tp polV (kf+1) 46 [.imm .arg 1 rw] []=some (.bool false,[])):RT polV 35 (sub [1,0] B35) (env35 (.imm .arg 1 rw) (.imm .arg 1 la) (.imm .lit 1 []) (.i 0) Ud Ud) [] .ret (env35 (.imm .arg 1 rw) (.imm .arg 1 la) (.imm .lit 1 []) (.i 2) Ud Ud) [] :=
  RunsTo.hin N 60 [⟨1,1,.bool false,[]⟩] fun kf hk=>⟨_,by kernel_rfl,(oC (g0 kf) .nil)⟩
theorem ip_c_0 (N:Nat) (rw la:List HV) (n:Nat) (els:List HV) (g0:∀ kf,callN Tp polV (kf+1) 52 [.imm .arg 1 la] []=some (.sl 0 0 n none n 1,[.arr 1 els true 0])):RT polV 35 (sub [1,1,0] B35) (env35 (.imm .arg 1 rw) (.imm .arg 1 la) (.imm .lit 1 []) (.i 0) Ud Ud) [] .normal (env35 (.imm .arg 1 rw) (.imm .arg 1 la) (.imm .lit 1 []) (.i 0) (.sl 0 0 n none n 1) Ud) [.arr 1 els true 0] :=
  RunsTo.hin N 60 [⟨3,1,.sl 0 0 n none n 1,[.arr 1 els true 0]⟩] fun kf hk=>⟨_,by kernel_rfl,(oC (g0 kf) .nil)⟩
theorem ip_d_0 (N:Nat) (rw la:List HV) (b n:Nat) (H:Heap):RT polV 35 (sub [1,1,1,0,0] B35) (env35 (.imm .arg 1 rw) (.imm .arg 1 la) (.imm .lit 1 []) (.i 0) (.sl b 0 n none n 1) Ud) H .normal (env35 (.imm .arg 1 rw) (.imm .arg 1 la) (.imm .lit 1 []) (.i 0) (.sl b 0 n none n 1) (.bool true)) H :=
  RunsTo.hin N 60 [] fun kf hk=>⟨_,by kernel_rfl,.nil⟩
theorem ip_lt_0 (N:Nat) (rw la:List HV) (b n:Nat) (H:Heap) (cb:Nat) (H0:Heap) (g0:∀ kf,N ≤ kf → callN Tp polV (kf+1) 58 [.imm .arg 1 rw,.sl b 0 n none n 1] H=some (.tuple [.sl cb 0 n none n 1,.bool true],H0)):RT polV 35 (sub [1,1,1,0,1,0,0] B35) (env35 (.imm .arg 1 rw) (.imm .arg 1 la) (.imm .lit 1 []) (.i 0) (.sl b 0 n none n 1) (.bool true)) H .normal (env35 (.imm .arg 1 rw) (.imm .arg 1 la) (.imm .lit 1 []) (.i 0) (.sl cb 0 n none n 1) (.bool true)) H0 :=
  RunsTo.hin N 60 [⟨6,2,.tuple [.sl cb 0 n none n 1,.bool true],H0⟩] fun kf hk=>⟨_,by kernel_rfl,(oC (g0 kf (by omega)) .nil)⟩
theorem ip_lt_1 (N:Nat) (rw la:List HV) (b n:Nat) (H:Heap) (cb:Nat) (H0:Heap) (g0:∀ kf,N ≤ kf → callN Tp polV (kf+1) 58 [.imm .arg 1 rw,.sl b 0 n none n 1] H=some (.tuple [.sl cb 0 n none n 1,.bool false],H0)):RT polV 35 (sub [1,1,1,0,1,0,0] B35) (env35 (.imm .arg 1 rw) (.imm .arg 1 la) (.imm .lit 1 []) (.i 0) (.sl b 0 n none n 1) (.bool true)) H .normal (env35 (.imm .arg 1 rw) (.imm .arg 1 la) (.imm .lit 1 []) (.i 0) (.sl cb 0 n none n 1) (.bool false)) H0 :=
  RunsTo.hin N 60 [⟨6,2,.tuple [.sl cb 0 n none n 1,.bool false],H0⟩] fun kf hk=>⟨_,by kernel_rfl,(oC (g0 kf (by omega)) .nil)⟩
theorem ip_lf_0 (N:Nat) (rw la:List HV) (b n:Nat) (H:Heap):RT polV 35 (sub [1,1,1,0,1,0,0] B35) (env35 (.imm .arg 1 rw) (.imm .arg 1 la) (.imm .lit 1 []) (.i 0) (.sl b 0 n none n 1) (.bool false)) H (.exit 0) (env35 (.imm .arg 1 rw) (.imm .arg 1 la) (.imm .lit 1 []) (.i 0) (.sl b 0 n none n 1) (.bool false)) H :=
  RunsTo.hin N 60 [] fun kf hk=>⟨_,by kernel_rfl,.nil⟩
theorem ip_z_0 (N:Nat) (rw la:List HV) (b n:Nat) (H:Heap):RT polV 35 (sub [1,1,1,1] B35) (env35 (.imm .arg 1 rw) (.imm .arg 1 la) (.imm .lit 1 []) (.i 0) (.sl b 0 n none n 1) (.bool false)) H .ret (env35 (.imm .arg 1 rw) (.imm .arg 1 la) (.sl b 0 n none n 1) (.i 0) (.sl b 0 n none n 1) (.bool false)) H :=
  RunsTo.hin N 60 [] fun kf hk=>⟨_,by kernel_rfl,.nil⟩
end Go.Proofs.Ytlendaofkmhgmaa
end
section
open Go Go.HL
namespace Go.Proofs.Ytlendaofkmhgmaa
open Go.Proofs.Try renaming prog → Tp
open Go.HL.HV renaming undef → Ud
theorem soundT (n:Nat):CallSound Tp (callN Tp polT n):=sound_prim _ (fun g f h=>by
  split at h
  · rename_i hg; cases h; rw [eq_of_beq hg]; exact within_ok
  split at h
  · rename_i hg; cases h; rw [eq_of_beq hg]; exact contains_ok
  · cases h) n
theorem prim_contains {pol':Pol} (hp:pol'.prim 60=some contains60) {l:List Int} (hl:l.length ≤ 1000) (v:Int) (H:Heap) (b:Bool) (hb:decide (v ∈ l)=b):∀ k,callN Tp pol' (k+1) 60 [.imm .arg 1 (l.map encI),.int .i64 v] H=some (.bool b,H):=fun k=>by
  rw [prim_call (pol:=pol') (g:=60) (F:=contains60) hp (rs:=[.imm .arg 1 (l.map encI),.int .i64 v]) (by simp only [mapO,arg_li]; rfl) (res:=.bool b) (by simp only [contains60,lnF,mapO_map decI_enc]; rw [if_pos hl,hb])]; rfl
abbrev itE (d:List (List Int)) (l:List Int) (j:Nat):Env:=env57 (.imm .arg 1 (d.map encR)) (.imm .arg 1 (l.map encI)) (.bool false) Ud Ud (.imm .arg 1 (l.map encI)) (.int .i64 (l.length:Int)) (.int .i64 (j:Int))
theorem it_loop {d:List (List Int)} {l:List Int} (hd:d.length ≤ 1000) (hl:l.length ≤ 1000):∀ (k j:Nat),j+k=l.length → Gd d.length l j →
    ∃ x E,RT polT 57 (sub [1,1,0,1,0] B57) (itE d l j) [] x E [] ∧
      ((x=.exit 0∧E=itE d l l.length∧(inT d.length l∧l.Nodup)) ∨ (x=.ret∧E.get 4=.bool false∧¬ (inT d.length l∧l.Nodup))):=by
  intro k
  induction k with
  | zero =>
    intro j hj hG
    have hj:j=l.length:=by omega
    subst hj
    have s1:=it_l_3 (d.map encR) (l.map encI) l.length (by simp)
    rw [List.length_map] at s1
    exact ⟨_,_,lpo s1,.inl ⟨rfl,rfl,hG.all⟩⟩
  | succ k ih =>
    intro j hj hG
    have hjl:j < l.length:=by omega
    have g:=gx hjl
    rw [getD_at hjl] at g
    have hmem:l[j] ∈ l:=List.getElem_mem hjl
    have hw:IntKind.i64.wrap (((d.map encR).length:Int) - 1)=(d.length:Int) - 1:=by rw [List.length_map,wrapI64]; omega
    by_cases c1:(0:Int) ≤ l[j]∧l[j] ≤ IntKind.i64.wrap (((d.map encR).length:Int) - 1)
    · have c1':=c1
      rw [hw] at c1'
      have gs:sliceV Tp 23 (.imm .arg 1 (l.map encI)) none (some (.int .i64 (j:Int))) none=some (.imm .arg 1 ((l.map encI).take j)):=slice_imm (by rw [List.length_map]; omega)
      have et:(l.map encI).take j=(l.take j).map encI:=List.map_take.symm
      by_cases c2:l[j] ∈ l.take j
      · have s1:=it_l_0 (d.map encR) (l.map encI) j _ (by simp; omega) g c1 gs (by rw [et]; exact prim_contains (by kernel_rfl) (by rw [List.length_take]; omega) _ _ true (decide_eq_true c2))
        rw [List.length_map] at s1
        exact ⟨_,_,lpo s1,.inr ⟨rfl,rfl,fun h=>dup_not hjl c2 h.2⟩⟩
      · have s1:=it_l_1 (d.map encR) (l.map encI) j _ (by simp; omega) g c1 gs (by rw [et]; exact prim_contains (by kernel_rfl) (by rw [List.length_take]; omega) _ _ false (decide_eq_false c2))
        rw [wrap_succ (by omega),List.length_map] at s1
        obtain ⟨x,E,h1,h2⟩:=ih (j+1) (by omega) (hG.succ hjl ⟨c1.1,by omega⟩ c2)
        exact ⟨x,E,lop s1 rfl h1,h2⟩
    · have s1:=it_l_2 (d.map encR) (l.map encI) j _ (by simp; omega) g c1
      rw [List.length_map (f:=encI)] at s1
      rw [hw] at c1
      exact ⟨_,_,lpo s1,.inr ⟨rfl,rfl,fun h=>by have:=h.1 _ hmem; omega⟩⟩
theorem res57:Try.f57.results.toList=[.tmp 4]:=by kernel_rfl
theorem mtour_ok:PrimOk Tp 57 tour57:=by
  refine primOk_pure (pol:=polT) (fn:=Try.f57) (cd:=B57) follows_mixed soundT (by kernel_rfl) (by kernel_rfl) (fnok polT.prim _ _ (by kernel_rfl)) (by kernel_rfl) ?_
  intro args res h
  obtain ⟨d,l,rfl,hq⟩:=rlF_inv h
  clear h
  split at hq
  · rename_i hc
    cases hq
    have a1:=it_a_0 (d.map encR) (l.map encI)
    have fin:∀ b E,RT polT 57 (sub [1] B57) (env57 (.imm .arg 1 (d.map encR)) (.imm .arg 1 (l.map encI)) (.bool false) Ud Ud Ud Ud Ud) [] .ret E [] → E.get 4=.bool b → trOk d.length l=b →
        ∃ x E H' v,RT polT 57 B57 (args0 [.imm .arg 1 (d.map encR),.imm .arg 1 (l.map encI)]) [] x E H'∧(∀ i,x ≠ .exit i)∧resultsV Tp Try.f57 E H'=some v∧toRes H' (polT.deep 57) v=some (.bool (trOk d.length l)):=by
      intro b E t hE hb
      exact ⟨_,E,[],.bool b,sq a1 t (c:=B57),by simp,by simp only [resultsV,res57,mapO,resultV,hE],by rw [hb]; rfl⟩
    by_cases e1:l.length=d.length
    · have g0:=gx (l:=l) (y:=0) (by omega)
      by_cases e2:l.getD 0 0=0
      · have b1:=it_b_0 (d.map encR) (l.map encI) _ (by simp [e1]) g0 e2
        have c1:=it_c_0 (d.map encR) (l.map encI)
        rw [List.length_map (f:=encI)] at c1
        obtain ⟨x,E,h1,h2⟩:=it_loop (d:=d) (by omega) hc.2 l.length 0 (by omega) (Gd.zero _ l)
        rcases h2 with ⟨rfl,rfl,h3⟩ | ⟨rfl,k2,k3⟩
        · have z1:=it_z_0 (d.map encR) (l.map encI) l.length
          rw [List.length_map (f:=encI)] at z1
          have t1:=sq c1 (bke (c:=sub [1,1,0,1] B57) h1) (c:=sub [1,1,0] B57)
          exact fin true _ (sq b1 (sq t1 z1 (c:=sub [1,1] B57)) (c:=sub [1] B57)) rfl (decide_eq_true ⟨e1,e2,h3.1,h3.2⟩)
        · have t1:=sq c1 (RunsTo.block_ret (c:=sub [1,1,0,1] B57) (i:=0) h1 (by kernel_rfl)) (c:=sub [1,1,0] B57)
          exact fin false _ (sq b1 (sqo t1 (c:=sub [1,1] B57) (b:=sub [1,1,1] B57)) (c:=sub [1] B57)) k2 (decide_eq_false fun h=>k3 ⟨h.2.2.1,h.2.2.2⟩)
      · exact fin false _ (sqo (it_b_1 (d.map encR) (l.map encI) _ (by simp [e1]) g0 e2) (c:=sub [1] B57) (b:=sub [1,1] B57)) rfl (decide_eq_false fun h=>e2 h.2.1)
    · exact fin false _ (sqo (it_b_2 (d.map encR) (l.map encI) (by simp; omega)) (c:=sub [1] B57) (b:=sub [1,1] B57)) rfl (decide_eq_false fun h=>e1 h.1)
  · cases hq
theorem trOk_iff {n:Nat} {l:List Int}:trOk n l=true ↔ l.length=n∧l.getD 0 0=0∧inT n l∧l.Nodup:=by
  unfold trOk; rw [decide_eq_true_eq]; exact Iff.rfl
theorem prim_miles {pol':Pol} (hp:pol'.prim 46=some miles46) {d:List (List Int)} (h1:d.length ≤ 1000) (h2:(d.all fun r=>decide (r.length ≤ 1000))=true) (H:Heap) (b:Bool) (hb:okB d=b):∀ k,callN Tp pol' (k+1) 46 [.imm .arg 1 (d.map encR)] H=some (.bool b,H):=fun k=>by
  rw [prim_call (pol:=pol') (g:=46) (F:=miles46) hp (rs:=[.imm .arg 1 (d.map encR)]) (by simp only [mapO,arg_rw]) (res:=.bool b) (by simp only [miles46,rwF,mapO_map decR_enc]; rw [if_pos ⟨h1,h2⟩,hb])]; rfl
theorem prim_mtour {pol':Pol} (hp:pol'.prim 57=some tour57) {d:List (List Int)} {l:List Int} (h1:1 ≤ d.length) (h2:l.length ≤ 1000) (H:Heap) (b:Bool) (hb:trOk d.length l=b):∀ k,callN Tp pol' (k+1) 57 [.imm .arg 1 (d.map encR),.imm .arg 1 (l.map encI)] H=some (.bool b,H):=fun k=>by
  rw [prim_call (pol:=pol') (g:=57) (F:=tour57) hp (rs:=[.imm .arg 1 (d.map encR),.imm .arg 1 (l.map encI)]) (by simp only [mapO,arg_rw,arg_li]) (res:=.bool b) (by simp only [tour57,rlF,mapO_map decR_enc,mapO_map decI_enc]; rw [if_pos ⟨h1,h2⟩,hb])]; rfl
theorem prim_mlen {pol':Pol} {g:FuncId} (hp:pol'.prim g=some len56) {d:List (List Int)} {l:List Int} (h1:okD d) (h2:inT d.length l) (h3:l.length ≤ 1000) {v:HV} {H:Heap} (hv:toArg H 6 v=some (.imm .arg 1 (l.map encI))):∀ k,callN Tp pol' (k+1) g [.imm .arg 1 (d.map encR),v] H=some (.int .i64 (lenT d l),H):=fun k=>by
  rw [prim_call (pol:=pol') (g:=g) (F:=len56) hp (rs:=[.imm .arg 1 (d.map encR),.imm .arg 1 (l.map encI)]) (by simp only [mapO,arg_rw,hv]) (res:=.int .i64 (lenT d l)) (by simp only [len56,rlF,mapO_map decR_enc,mapO_map decI_enc]; rw [if_pos ⟨h1,h2,h3⟩])]; rfl
theorem revP_len {l:List Int} {i j:Nat} (h:i ≤ j) (hj:j < l.length):(revP l i j).length=l.length:=by
  simp only [revP,List.length_append,List.length_take,List.length_reverse,List.length_drop]
  omega
theorem revP_get {l:List Int} {i j:Nat} (h:i ≤ j) (hj:j < l.length) (k:Nat):(revP l i j)[k]?=if i ≤ k∧k ≤ j then l[i+j - k]? else l[k]?:=by
  unfold revP
  by_cases c1:k < i
  · rw [List.getElem?_append_left (by simp; omega),List.getElem?_take,if_pos c1,if_neg (by omega)]
  · rw [List.getElem?_append_right (by simp; omega),List.length_take,Nat.min_eq_left (by omega)]
    by_cases c2:k ≤ j
    · rw [if_pos ⟨by omega,c2⟩,List.getElem?_append_left (by simp; omega),List.getElem?_reverse (by simp; omega),List.length_take,List.length_drop,Nat.min_eq_left (by omega),List.getElem?_take,if_pos (by omega),List.getElem?_drop]
      congr 1
      omega
    · rw [if_neg (by omega),List.getElem?_append_right (by simp; omega),List.length_reverse,List.length_take,List.length_drop,Nat.min_eq_left (by omega),List.getElem?_drop]
      congr 1
      omega
theorem revP_mem {l:List Int} {i j:Nat} (h:i ≤ j) (hj:j < l.length) {v:Int} (hv:v ∈ revP l i j):v ∈ l:=by
  obtain ⟨k,hk⟩:=List.mem_iff_getElem?.1 hv
  rw [revP_get h hj] at hk
  split at hk
  · exact List.mem_of_getElem? hk
  · exact List.mem_of_getElem? hk
theorem inT_rev {n:Nat} {l:List Int} {i j:Nat} (h:i ≤ j) (hj:j < l.length) (hl:inT n l):inT n (revP l i j):=fun v hv=>hl v (revP_mem h hj hv)
end Go.Proofs.Ytlendaofkmhgmaa
end
section
open Go Go.HL
namespace Go.Proofs.Ytlendaofkmhgmaa
open Go.Proofs.Try renaming prog → Tp
open Go.HL.HV renaming undef → Ud
theorem res52:Try.f52.results.toList=[.tmp 2]:=by kernel_rfl
theorem clone_run (v:Int) (l:List Int) (hl:(v :: l).length ≤ 1000):∃ k,callN Tp pol k 52 [.imm .arg 1 ((v :: l).map encI)] []=some (.sl 0 0 (v :: l).length none (v :: l).length 1,[bI (v :: l)]):=by
  have hb:∀ (l:List Int),bndL (l.map encI)=0:=by
    intro l
    induction l with
    | nil=>rfl
    | cons a l ih=>simp only [List.map_cons,bndL,ih,encI,bnd]; rfl
  have hap:appV [] 1 8 (.imm .lit 1 []) ((v :: l).map encI)=some (.sl 0 0 ((v :: l).map encI).length none ((v :: l).map encI).length 1,[.arr 1 ((v :: l).map encI) true 0]):=by
    have hne:(v :: l).map encI ≠ []:=by simp
    simp only [appV,if_neg hne]
    rw [if_pos ⟨.inr trivial,by simp only [List.length_nil,List.length_map,roomMax]; omega⟩,hb]
    simp
  have hnt:nilTest Tp .eql 23 (.imm .arg 1 ((v :: l).map encI))=some (.bool false):=by
    have hu:Tp.underlying 23=some (.slice 3):=u23
    simp only [nilTest,hu,knownNil,List.map_cons,nilOp]
  obtain ⟨m,h⟩:=cl_1 ((v :: l).map encI) hnt hap
  obtain ⟨e1,g1,g2⟩:=h m m (Nat.le_refl m) (Nat.le_refl m)
  refine ⟨m+1,?_⟩
  have hrc:=resCell_sl (H:=[bI (v :: l)]) (no:=[0]) (b:=0) (k:=1) (m:=(v :: l).length) (cap:=none) (els:=(v :: l).map encI) rfl (by simp) (mapO_self (fun r=>frz_int 4 r) _)
  have hown:ownedAll [bI (v :: l)] false (.sl 0 0 (v :: l).length none (v :: l).length 1)=[0]:=rfl
  have hpr:pureRun Tp pol (evC Tp pol (callN Tp pol m) m) 52 Try.f52 B52 [.imm .arg 1 ((v :: l).map encI)]=some (.own 1 ((v :: l).map encI)):=by
    unfold pureRun
    have hg1:evC Tp pol (callN Tp pol m) m 52 B52 (args0 [.imm .arg 1 ((v :: l).map encI)]) []=some (.ret,e1,[bI (v :: l)]):=g1
    rw [hg1]
    have hres:resultsV Tp Try.f52 e1 [bI (v :: l)]=some (.sl 0 0 (v :: l).length none (v :: l).length 1):=by
      have:=resultsV_restr (P:=Tp) (fn:=Try.f52) (K:=pol.keys 52) (e:=e1) (H:=[bI (v :: l)]) (by kernel_rfl)
      rw [← this,g2]
      simp only [resultsV,res52,mapO,resultV]
      simp [Env.get]
    simp only [hres]
    show toRes _ false _=_
    simp only [toRes,hown,List.nodup_cons,List.not_mem_nil,not_false_eq_true,List.nodup_nil,and_self,if_true,resVal,hrc]
  have hp:pol.prim 52=none:=by kernel_rfl
  have hs:pol.shared 52=false:=by kernel_rfl
  have hf:Tp.funcs[52]?=some Try.f52:=by kernel_rfl
  have hbd:Try.f52.body=some B52:=by kernel_rfl
  have ha:toArg [] 6 (.imm .arg 1 ((v :: l).map encI))=some (.imm .arg 1 ((v :: l).map encI)):=by
    show argP (.imm .arg 1 ((v :: l).map encI))=_
    simp only [argP,argP_ints']
  have hno:((v :: l).map encI).any isOwn=false:=by
    rw [List.any_eq_false]
    intro v hv
    obtain ⟨k,_,rfl⟩:=List.mem_map.1 hv
    simp [encI,isOwn]
  simp only [callN,doCall,hp,hf,hbd,hs,Bool.false_eq_true,if_false,mapO,ha]
  have hpc:pureCall Tp pol (evC Tp pol (callN Tp pol m) m) 52 Try.f52 B52 [.imm .arg 1 ((v :: l).map encI)]=some (.own 1 ((v :: l).map encI)):=by
    unfold pureCall
    rw [if_pos (by kernel_rfl)]
    simp only [List.map_cons] at hpr ⊢
    exact hpr
  rw [hpc]
  simp only [recv,recvVal,recvCell,hno,List.length_map]
  rfl
theorem clone_ok:PrimOk Tp 52 clone52:=by
  refine primOk_of (pol:=pol) sound (by kernel_rfl) fun args res h=>?_
  obtain ⟨l,rfl,hq⟩:=liF_inv h
  clear h
  split at hq
  · rename_i hl
    cases hq
    cases l with
    | nil=>exact ⟨30,.sl 0 0 0 none 0 1,[.arr 1 [] true 0],false,by kernel_rfl,rfl⟩
    | cons v l =>
      obtain ⟨k,hk⟩:=clone_run v l hl
      exact ⟨k,_,_,false,hk,res_li (b:=0) rfl rfl⟩
  · cases hq
end Go.Proofs.Ytlendaofkmhgmaa
end
section
open Go Go.HL
namespace Go.Proofs.Ytlendaofkmhgmaa
open Go.Proofs.Try renaming prog → Tp
open Go.HL.HV renaming undef → Ud
theorem soundV (n:Nat):CallSound Tp (callN Tp polV n):=sound_prim _ (fun g f h=>by
  split at h
  · rename_i hg; cases h; rw [eq_of_beq hg]; exact miles_ok
  split at h
  · rename_i hg; cases h; rw [eq_of_beq hg]; exact mtour_ok
  split at h
  · rename_i hg; cases h; rw [eq_of_beq hg]; exact mlen_ok
  split at h
  · rename_i hg; cases h; rw [eq_of_beq hg]; exact clone_ok
  · cases h) n
theorem idx_off {b lo n tot j:Nat} (hj:j < n):idxV Tp 23 (.sl b lo n none tot 1) (.int .i64 (j:Int))=some (.ptr b (lo+j) 0 tot):=by
  simp only [idxV,u23,z3,Int.toNat_natCast]
  rw [if_pos ⟨by omega,by omega,trivial⟩]
structure Rv (o:List Int) (lo n i:Nat) (c:List Int):Prop where
  len:c.length=o.length
  get:∀ k,k < o.length → c.getD k 0=if lo ≤ k∧k < lo+n∧(k < lo+i ∨ lo+n ≤ k+i) then o.getD (2 * lo+n - 1 - k) 0 else o.getD k 0
theorem Rv.zero (o:List Int) (lo n:Nat):Rv o lo n 0 o:=⟨rfl,fun k hk=>by rw [if_neg (by omega)]⟩
theorem getD_set (o:List Int) (i k:Nat) (v:Int) (hi:i < o.length):(o.set i v).getD k 0=if i=k then v else o.getD k 0:=by
  simp only [List.getD,List.getElem?_set]
  by_cases e:i=k
  · subst e; simp [hi]
  · simp [e]
theorem Rv.step {o c:List Int} {lo n i:Nat} (h:Rv o lo n i c) (hb:lo+n ≤ o.length) (hi:2 * i+1 < n):Rv o lo n (i+1) ((c.set (lo+i) (c.getD (lo+(n - 1 - i)) 0)).set (lo+(n - 1 - i)) (c.getD (lo+i) 0)):=by
  have hl:=h.len
  refine ⟨by simp [hl],fun k hk=>?_⟩
  rw [getD_set _ _ _ _ (by rw [List.length_set]; omega),getD_set _ _ _ _ (by omega)]
  have e1:=h.get (lo+i) (by omega)
  have e2:=h.get (lo+(n - 1 - i)) (by omega)
  rw [if_neg (by omega)] at e1 e2
  by_cases c1:lo+(n - 1 - i)=k
  · rw [if_pos c1,if_pos (by omega),e1]
    congr 1
    omega
  · rw [if_neg c1]
    by_cases c2:lo+i=k
    · rw [if_pos c2,if_pos (by omega),e2]
      congr 1
      omega
    · rw [if_neg c2,h.get k hk]
      by_cases c3:lo ≤ k∧k < lo+n∧(k < lo+i ∨ lo+n ≤ k+i)
      · rw [if_pos c3,if_pos (by omega)]
      · rw [if_neg c3,if_neg (by omega)]
theorem Rv.done {o c:List Int} {lo n i:Nat} (h:Rv o lo n i c) (hn:1 ≤ n) (hb:lo+n ≤ o.length) (hi:n ≤ 2 * i+1):c=revP o lo (lo+n - 1):=by
  have hr:=revP_len (l:=o) (i:=lo) (j:=lo+n - 1) (by omega) (by omega)
  apply List.ext_getElem (by rw [hr]; exact h.len)
  intro k h1 h2
  have hk:k < o.length:=by rw [← h.len]; exact h1
  have e:=h.get k hk
  have e2:=revP_get (l:=o) (i:=lo) (j:=lo+n - 1) (by omega) (by omega) k
  rw [List.getElem?_eq_getElem h2] at e2
  rw [← getD_at h1,e]
  by_cases c1:lo ≤ k∧k ≤ lo+n - 1
  · rw [if_pos c1,List.getElem?_eq_getElem (by omega)] at e2
    have e3:=Option.some.inj e2
    rw [e3]
    by_cases c2:k < lo+i ∨ lo+n ≤ k+i
    · rw [if_pos ⟨c1.1,by omega,c2⟩,getD_at (by omega)]
      congr 1
      omega
    · rw [if_neg (by omega),getD_at hk]
      congr 1
      omega
  · rw [if_neg c1,List.getElem?_eq_getElem hk] at e2
    rw [if_neg (by omega),getD_at hk]
    exact (Option.some.inj e2).symm
abbrev rvE (b lo n tot i j:Nat):Env:=env71 (.sl b lo n none tot 1) (.int .i64 (i:Int)) (.int .i64 (j:Int))
theorem rv_loop {b lo n:Nat} {o:List Int} (hn:1 ≤ n) (hb:lo+n ≤ o.length) (h9:o.length ≤ 1000):∀ (d i:Nat) (c:List Int) (H:Heap),2 * i ≤ n → n - 2 * i ≤ 2 * d+1 → H[b]?=some (bI c) → Rv o lo n i c →
    ∃ i' j',RT polV 71 (sub [1,0] B71) (rvE b lo n o.length i (n - 1 - i)) H (.exit 0) (rvE b lo n o.length i' j') (H.set b (bI (revP o lo (lo+n - 1)))):=by
  intro d
  induction d with
  | zero =>
    intro i c H h1 h2 hc hR
    have s1:=rv_l_1 b lo n o.length H i (n - 1 - i) (by omega)
    have hd:=hR.done hn hb (by omega)
    have hH:H.set b (bI (revP o lo (lo+n - 1)))=H:=by
      rw [← hd]
      apply List.ext_getElem?
      intro k
      rw [List.getElem?_set]
      split
      · rename_i hk
        subst hk
        rw [if_pos (lt_of_get hc)]
        exact hc.symm
      · rfl
    rw [hH]
    exact ⟨i,n - 1 - i,lpo s1⟩
  | succ d ih =>
    intro i c H h1 h2 hc hR
    by_cases hlt:2 * i+1 < n
    · have hcl:=hR.len
      have hbl:=lt_of_get hc
      have ld1:=load_out hc (y:=lo+(n - 1 - i)) (by omega)
      have ld2:=load_out hc (y:=lo+i) (by omega)
      have st1:=store_out hc (y:=lo+i) (by omega) (c.getD (lo+(n - 1 - i)) 0)
      have hc2:(H.set b (bI (c.set (lo+i) (c.getD (lo+(n - 1 - i)) 0))))[b]?=some (bI (c.set (lo+i) (c.getD (lo+(n - 1 - i)) 0))):=List.getElem?_set_self hbl
      have st2:=store_out hc2 (y:=lo+(n - 1 - i)) (by rw [List.length_set]; omega) (c.getD (lo+i) 0)
      rw [List.length_set,List.set_set,hcl] at st2
      rw [hcl] at ld1 ld2 st1
      have s1:=rv_l_0 b lo n o.length H i (n - 1 - i) _ _ _ _ (by omega) (idx_off (by omega)) ld1 (idx_off (by omega)) ld2 (idx_off (by omega)) st1 (idx_off (by omega)) st2
      rw [wrap_succ (by omega),wrap_pred (by omega) (by omega)] at s1
      obtain ⟨i',j',r⟩:=ih (i+1) _ _ (by omega) (by omega) (List.getElem?_set_self hbl) (hR.step hb hlt)
      rw [List.set_set,show n - 1 - (i+1)=n - 1 - i - 1 by omega] at r
      exact ⟨i',j',lop s1 (gc_eq _ (by simp)) r⟩
    · have s1:=rv_l_1 b lo n o.length H i (n - 1 - i) (by omega)
      have hd:=hR.done hn hb (by omega)
      have hH:H.set b (bI (revP o lo (lo+n - 1)))=H:=by
        rw [← hd]
        apply List.ext_getElem?
        intro k
        rw [List.getElem?_set]
        split
        · rename_i hk
          subst hk
          rw [if_pos (lt_of_get hc)]
          exact hc.symm
        · rfl
      rw [hH]
      exact ⟨i,n - 1 - i,lpo s1⟩
theorem res71:Try.f71.results.toList=[]:=by kernel_rfl
theorem rv_call {b lo n:Nat} {o:List Int} {H:Heap} (hn:1 ≤ n) (hb:lo+n ≤ o.length) (h9:o.length ≤ 1000) (hc:H[b]?=some (bI o)):CallsTo (P:=Tp) (pol:=polV) 71 [.sl b lo n none o.length 1] H (.tuple []) (H.set b (bI (revP o lo (lo+n - 1)))):=by
  have a1:=rv_a_0 b lo n o.length H
  rw [wrap_pred (by omega) (by omega)] at a1
  obtain ⟨i',j',r⟩:=rv_loop hn hb h9 n 0 o H (by omega) (by omega) hc (Rv.zero o lo n)
  have t1:=sq a1 (bke (c:=sub [1] B71) r) (c:=B71)
  have:=CallsTo.shared (P:=Tp) (pol:=polV) (g:=71) (fn:=Try.f71) (cd:=B71) (args:=[.sl b lo n none o.length 1]) (v:=.tuple []) (by kernel_rfl) (by kernel_rfl) (by kernel_rfl) (by kernel_rfl) t1 (by kernel_rfl) (by simp) (by simp only [resultsV,res71,mapO])
  rw [gc_eq _ (by simp)] at this
  exact this
theorem mxs_app:∀ (H:Heap) (l:List Int),mxs (H ++ [bI l])=mxs H
  | [],l=>by simp [mxs,Blk.mx]
  | B :: H,l=>by
    have:=mxs_app H l
    simp only [List.cons_append,mxs,this]
theorem gc_drop {H:Heap} {l:List Int} {r:Nat} (h0:mxs H=0) (hr:r ≤ H.length):gc H.length r (H ++ [bI l])=H:=by
  unfold gc
  rw [mxs_app,h0,Nat.max_eq_left (by omega),List.take_left]
theorem gc_keep {H:Heap} {l:List Int} {r:Nat} (hr:H.length+1 ≤ r):gc H.length r (H ++ [bI l])=H ++ [bI l]:=by
  unfold gc
  rw [List.take_of_length_le (by rw [List.length_append,List.length_singleton]; omega)]
section
variable {d:List (List Int)} {l:List Int} {b:Nat} {H:Heap}
abbrev shE (d:List (List Int)) (b n:Nat) (v6 v7 v8 v9:HV):Env:=env58 (.imm .arg 1 (d.map encR)) (.sl b 0 n none n 1) (.imm .lit 1 []) (.bool false) v6 v7 v8 v9
theorem prim_clone (h9:l.length ≤ 1000) (hb:H[b]?=some (bI l)):∀ k,callN Tp polV (k+1) 52 [.sl b 0 l.length none l.length 1] H=some (.sl H.length 0 l.length none l.length 1,H ++ [bI l]):=fun k=>by
  rw [prim_call (pol:=polV) (g:=52) (F:=clone52) (by kernel_rfl) (rs:=[.imm .arg 1 (l.map encI)]) (by simp only [mapO,arg_sl rfl hb]) (res:=.own 1 (l.map encI)) (by simp only [clone52,liF,mapO_map decI_enc]; rw [if_pos h9]),recv_ints]
theorem slice_sl {cb i j n:Nat} (h1:i ≤ j) (h2:j ≤ n):sliceV Tp 23 (.sl cb 0 n none n 1) (some (.int .i64 (i:Int))) (some (.int .i64 (j:Int))) none=some (.sl cb i (j - i) none n 1):=by
  simp only [sliceV,boundV,u23,z3]
  rw [if_pos (by omega),if_pos (by omega)]
  simp [h1,h2]
theorem sh_in (h1:okD d) (h2:inT d.length l) (hl:l.length ≤ 500) (hb:H[b]?=some (bI l)) (h0:mxs H=0) {i:Nat} (hi:i < l.length):∀ (k j:Nat),i < j → j+k=l.length →
    (btJ d l i k j=none∧RT polV 58 (sub [1,1,0,1,0,0,1,0,0,1,0] B58) (shE d b l.length (.int .i64 (lenT d l)) (.int .i64 (i:Int)) (.int .i64 (j:Int)) Ud) H (.exit 2) (shE d b l.length (.int .i64 (lenT d l)) (.int .i64 (i:Int)) (.int .i64 (l.length:Int)) Ud) H) ∨
    ∃ r E,btJ d l i k j=some r∧RT polV 58 (sub [1,1,0,1,0,0,1,0,0,1,0] B58) (shE d b l.length (.int .i64 (lenT d l)) (.int .i64 (i:Int)) (.int .i64 (j:Int)) Ud) H .ret E (H ++ [bI r])∧E.get 4=.sl H.length 0 l.length none l.length 1∧E.get 5=.bool true:=by
  intro k
  induction k with
  | zero =>
    intro j hij hj
    have hj:j=l.length:=by omega
    subst hj
    exact .inl ⟨rfl,lpo (sh_l_2 0 (d.map encR) b l.length H (lenT d l) i l.length 0 (by omega))⟩
  | succ k ih =>
    intro j hij hj
    have hjl:j < l.length:=by omega
    have hrl:=revP_len (l:=l) (i:=i) (j:=j) (by omega) hjl
    have hcb:(H ++ [bI l])[H.length]?=some (bI l):=by rw [List.getElem?_append_right (Nat.le_refl _)]; simp
    have g1:=prim_clone (H:=H) (b:=b) (l:=l) (by omega) hb
    have g2:=slice_sl (cb:=H.length) (i:=i) (j:=j+1) (n:=l.length) (by omega) (by omega)
    rw [← wrap_succ (j:=j) (by omega)] at g2
    have hrv:=rv_call (b:=H.length) (lo:=i) (n:=j+1 - i) (o:=l) (H:=H ++ [bI l]) (by omega) (by omega) (by omega) hcb
    rw [show i+(j+1 - i) - 1=j by omega] at hrv
    have hset:(H ++ [bI l]).set H.length (bI (revP l i j))=H ++ [bI (revP l i j)]:=by rw [List.set_append_right _ _ (Nat.le_refl _),Nat.sub_self]; rfl
    rw [hset] at hrv
    obtain ⟨N,hN⟩:=CallsTo.from hrv
    have hcr:(H ++ [bI (revP l i j)])[H.length]?=some (bI (revP l i j)):=by rw [List.getElem?_append_right (Nat.le_refl _)]; simp
    have ha:=arg_sl (m:=l.length) hrl hcr
    have g4:=prim_mlen (pol':=polV) (g:=56) (by kernel_rfl) h1 (inT_rev (i:=i) (j:=j) (by omega) hjl h2) (by omega) ha
    rw [btJ]
    by_cases c:lenT d (revP l i j) < lenT d l
    · rw [if_pos c]
      exact .inr ⟨_,_,rfl,lpo (sh_l_0 N (d.map encR) b l.length H (lenT d l) i j H.length _ _ _ _ (by omega) (fun kf _=>g1 kf) g2 hN (fun kf _=>g4 kf) c),rfl,rfl⟩
    · rw [if_neg c]
      have s1:=sh_l_1 N (d.map encR) b l.length H (lenT d l) i j H.length _ _ _ _ (by omega) (fun kf _=>g1 kf) g2 hN (fun kf _=>g4 kf) c
      rw [wrap_succ (by omega)] at s1
      have hbl:=lt_of_get hb
      have up:∀ {x E H'},RT polV 58 (sub [1,1,0,1,0,0,1,0,0,1,0] B58) (shE d b l.length (.int .i64 (lenT d l)) (.int .i64 (i:Int)) (.int .i64 ((j+1:Nat):Int)) Ud) H x E H' → RT polV 58 (sub [1,1,0,1,0,0,1,0,0,1,0] B58) (shE d b l.length (.int .i64 (lenT d l)) (.int .i64 (i:Int)) (.int .i64 (j:Int)) Ud) H x E H':=fun r =>
        lop s1 (gc_drop (l:=revP l i j) h0 (r:=bndE (shE d b l.length (.int .i64 (lenT d l)) (.int .i64 (i:Int)) (.int .i64 ((j+1:Nat):Int)) Ud)) (by simp only [bndE,bnd,bndL]; omega)) r
      rcases ih (j+1) (by omega) (by omega) with ⟨e1,e2⟩ | ⟨r,E,e1,e2,e3⟩
      · exact .inl ⟨e1,up e2⟩
      · exact .inr ⟨r,E,e1,up e2,e3⟩
theorem sh_out (h1:okD d) (h2:inT d.length l) (hl:l.length ≤ 500) (hb:H[b]?=some (bI l)) (h0:mxs H=0):∀ (k i:Nat),i+k=l.length →
    (btI d l k i=none∧RT polV 58 (sub [1,1,0,1,0] B58) (shE d b l.length (.int .i64 (lenT d l)) (.int .i64 (i:Int)) Ud Ud) H (.exit 0) (shE d b l.length (.int .i64 (lenT d l)) (.int .i64 (l.length:Int)) Ud Ud) H) ∨
    ∃ r E,btI d l k i=some r∧RT polV 58 (sub [1,1,0,1,0] B58) (shE d b l.length (.int .i64 (lenT d l)) (.int .i64 (i:Int)) Ud Ud) H .ret E (H ++ [bI r])∧E.get 4=.sl H.length 0 l.length none l.length 1∧E.get 5=.bool true:=by
  intro k
  induction k with
  | zero =>
    intro i hi
    have hi:i=l.length:=by omega
    subst hi
    exact .inl ⟨rfl,lpo (sqo (sh_d_1 0 (d.map encR) b l.length H (lenT d l) l.length (by omega)) (c:=sub [1,1,0,1,0,0] B58) (b:=sub [1,1,0,1,0,0,1] B58))⟩
  | succ k ih =>
    intro i hi
    have hil:i < l.length:=by omega
    have c1:=sh_d_0 0 (d.map encR) b l.length H (lenT d l) i (by omega)
    have d1:=sh_e_0 0 (d.map encR) b l.length H (lenT d l) i
    rw [wrap_succ (by omega)] at d1
    rw [btI]
    rcases sh_in h1 h2 hl hb h0 hil (l.length - (i+1)) (i+1) (by omega) (by omega) with ⟨e1,r1⟩ | ⟨r,E,e1,r1,e3⟩
    · rw [e1]
      have r1':=lpi (e0:=shE d b l.length (.int .i64 (lenT d l)) (.int .i64 (i:Int)) (.int .i64 ((i+1:Nat):Int)) Ud) r1 (b:=sub [1,1,0,1,0,0,1,0,0,1,0,0] B58)
      have n1:=sh_f_0 0 (d.map encR) b l.length H (lenT d l) i l.length 0
      rw [wrap_succ (by omega)] at n1
      have t1:=sq d1 (bke (c:=sub [1,1,0,1,0,0,1,0,0,1] B58) r1') (c:=sub [1,1,0,1,0,0,1,0,0] B58)
      have t2:=RunsTo.block_normal (i:=1) (c:=sub [1,1,0,1,0,0,1,0] B58) t1 (by kernel_rfl)
      have t3:=sq c1 (sq t2 n1 (c:=sub [1,1,0,1,0,0,1] B58)) (c:=sub [1,1,0,1,0,0] B58)
      have up:∀ {x E H'},RT polV 58 (sub [1,1,0,1,0] B58) (shE d b l.length (.int .i64 (lenT d l)) (.int .i64 ((i+1:Nat):Int)) Ud Ud) H x E H' → RT polV 58 (sub [1,1,0,1,0] B58) (shE d b l.length (.int .i64 (lenT d l)) (.int .i64 (i:Int)) Ud Ud) H x E H':=fun r =>
        lop t3 (gc_eq _ rfl) r
      rcases ih (i+1) (by omega) with ⟨q1,q2⟩ | ⟨r,E,q1,q2,q3⟩
      · exact .inl ⟨q1,up q2⟩
      · exact .inr ⟨r,E,q1,up q2,q3⟩
    · rw [e1]
      have r1':=lpi (e0:=shE d b l.length (.int .i64 (lenT d l)) (.int .i64 (i:Int)) (.int .i64 ((i+1:Nat):Int)) Ud) r1 (b:=sub [1,1,0,1,0,0,1,0,0,1,0,0] B58)
      have t1:=sq d1 (RunsTo.block_ret (c:=sub [1,1,0,1,0,0,1,0,0,1] B58) (i:=2) r1' (by kernel_rfl)) (c:=sub [1,1,0,1,0,0,1,0,0] B58)
      have t2:=RunsTo.block_ret (i:=1) (c:=sub [1,1,0,1,0,0,1,0] B58) t1 (by kernel_rfl)
      have t3:=sq c1 (sqo t2 (c:=sub [1,1,0,1,0,0,1] B58) (b:=sub [1,1,0,1,0,0,1,1] B58)) (c:=sub [1,1,0,1,0,0] B58)
      exact .inr ⟨r,E,rfl,lpo t3,e3⟩
theorem res58:Try.f58.results.toList=[.tmp 4,.tmp 5]:=by kernel_rfl
theorem sh_call (h1:okD d) (h2:inT d.length l) (hl:1 ≤ l.length∧l.length ≤ 500) (hb:H[b]?=some (bI l)) (h0:mxs H=0) :
    (bett d l=none∧CallsTo (P:=Tp) (pol:=polV) 58 [.imm .arg 1 (d.map encR),.sl b 0 l.length none l.length 1] H (.tuple [.sl b 0 l.length none l.length 1,.bool false]) H) ∨
    ∃ r,bett d l=some r∧CallsTo (P:=Tp) (pol:=polV) 58 [.imm .arg 1 (d.map encR),.sl b 0 l.length none l.length 1] H (.tuple [.sl H.length 0 l.length none l.length 1,.bool true]) (H ++ [bI r]):=by
  have g:=prim_mlen (pol':=polV) (g:=56) (by kernel_rfl) h1 h2 (by omega) (arg_sl (m:=l.length) rfl hb)
  have a1:=sh_a_0 0 (d.map encR) b l.length H
  have b1:=sh_b_0 0 (d.map encR) b l.length H _ _ (fun kf _=>g kf)
  have c1:=sh_c_0 0 (d.map encR) b l.length H (lenT d l)
  rw [bett]
  rcases sh_out h1 h2 hl.2 hb h0 (l.length - 1) 1 (by omega) with ⟨e1,r1⟩ | ⟨r,E,e1,r1,e3,e4⟩
  · have z1:=sh_z_0 0 (d.map encR) b l.length H (lenT d l) l.length
    have t1:=sq c1 (bke (c:=sub [1,1,0,1] B58) r1) (c:=sub [1,1,0] B58)
    have t2:=sq a1 (sq b1 (sq t1 z1 (c:=sub [1,1] B58)) (c:=sub [1] B58)) (c:=B58)
    have:=CallsTo.shared (P:=Tp) (pol:=polV) (g:=58) (fn:=Try.f58) (cd:=B58) (args:=[.imm .arg 1 (d.map encR),.sl b 0 l.length none l.length 1]) (v:=.tuple [.sl b 0 l.length none l.length 1,.bool false]) (by kernel_rfl) (by kernel_rfl) (by kernel_rfl) (by kernel_rfl) t2 (by kernel_rfl) (by simp) (by simp only [resultsV,res58]; rfl)
    rw [gc_eq _ rfl] at this
    exact .inl ⟨e1,this⟩
  · have t1:=sq c1 (RunsTo.block_ret (c:=sub [1,1,0,1] B58) (i:=0) r1 (by kernel_rfl)) (c:=sub [1,1,0] B58)
    have t2:=sq a1 (sq b1 (sqo t1 (c:=sub [1,1] B58) (b:=sub [1,1,1] B58)) (c:=sub [1] B58)) (c:=B58)
    have:=CallsTo.shared (P:=Tp) (pol:=polV) (g:=58) (fn:=Try.f58) (cd:=B58) (args:=[.imm .arg 1 (d.map encR),.sl b 0 l.length none l.length 1]) (v:=.tuple [.sl H.length 0 l.length none l.length 1,.bool true]) (by kernel_rfl) (by kernel_rfl) (by kernel_rfl) (by kernel_rfl) t2 (by kernel_rfl) (by simp) (by simp only [resultsV,res58,mapO,resultV,e3,e4])
    rw [gc_keep (by simp only [bnd,bndL]; omega)] at this
    exact .inr ⟨r,e1,this⟩
end
end Go.Proofs.Ytlendaofkmhgmaa
end
section
open Go Go.HL
namespace Go.Proofs.Ytlendaofkmhgmaa
open Go.Proofs.Try renaming prog → Tp
open Go.HL.HV renaming undef → Ud
section
variable {d:List (List Int)}
theorem btJ_some {l:List Int} {i:Nat} {r:List Int}:∀ (k j:Nat),btJ d l i k j=some r → ∃ j',j ≤ j'∧j' < j+k∧r=revP l i j'∧lenT d r < lenT d l
  | 0,_,h=>by cases h
  | k+1,j,h=>by
    rw [btJ] at h
    split at h
    · rename_i c
      cases h
      exact ⟨j,Nat.le_refl _,by omega,rfl,c⟩
    · obtain ⟨j',h1,h2,h3⟩:=btJ_some k (j+1) h
      exact ⟨j',by omega,by omega,h3⟩
theorem btI_some {l r:List Int}:∀ (k i:Nat),i+k=l.length → btI d l k i=some r → ∃ i' j',i ≤ i'∧i' ≤ j'∧j' < l.length∧r=revP l i' j'∧lenT d r < lenT d l
  | 0,_,_,h=>by cases h
  | k+1,i,hi,h=>by
    rw [btI] at h
    split at h
    · rename_i r' hr
      cases h
      obtain ⟨j',h1,h2,h3,h4⟩:=btJ_some _ _ hr
      exact ⟨i,j',Nat.le_refl _,by omega,by omega,h3,h4⟩
    · obtain ⟨i',j',h1,h2⟩:=btI_some k (i+1) (by omega) h
      exact ⟨i',j',by omega,h2⟩
theorem bett_some {l r:List Int} (hl:1 ≤ l.length) (h:bett d l=some r):∃ i j,1 ≤ i∧i ≤ j∧j < l.length∧r=revP l i j∧lenT d r < lenT d l:=btI_some _ _ (by omega) h
theorem lenGo_nn (h:okD d) {l:List Int} (hl:inT d.length l):∀ (k j:Nat) (s:Int),j+k=l.length → 0 ≤ s → 0 ≤ lenGo d l k j s
  | 0,_,_,_,h=>h
  | k+1,j,s,hj,hs=>by
    rw [lenGo]
    obtain ⟨a,b,ha,hb,⟨a0,a1⟩,⟨b0,b1⟩,hm⟩:=len_args h hl (j:=j) (by omega)
    rw [ha,hb]
    have:=at_bd h a1 b1
    exact lenGo_nn h hl k (j+1) _ (by omega) (by omega)
theorem lenT_nn (h:okD d) {l:List Int} (hl:inT d.length l):0 ≤ lenT d l:=lenGo_nn h hl _ _ _ (by omega) (Int.le_refl _)
theorem bett_ok (h:okD d) {l r:List Int} (hl:inT d.length l) (h1:1 ≤ l.length) (hb:bett d l=some r):r.length=l.length∧inT d.length r∧(lenT d r).toNat < (lenT d l).toNat:=by
  obtain ⟨i,j,_,h2,h3,rfl,h4⟩:=bett_some h1 hb
  have:=lenT_nn h (inT_rev h2 h3 hl)
  exact ⟨revP_len h2 h3,inT_rev h2 h3 hl,by omega⟩
theorem impF_succ (h:okD d):∀ (k:Nat) (l:List Int),inT d.length l → 1 ≤ l.length → (lenT d l).toNat ≤ k → impF d k l=impF d (k+1) l
  | 0,l,hl,h1,hk=>by
    cases hb:bett d l with
    | none=>rw [impF,impF,hb]
    | some r =>
      have:=(bett_ok h hl h1 hb).2.2
      omega
  | k+1,l,hl,h1,hk=>by
    rw [impF]
    cases hb:bett d l with
    | none=>rw [impF,hb]
    | some r =>
      obtain ⟨e1,e2,e3⟩:=bett_ok h hl h1 hb
      rw [impF,hb]
      exact impF_succ h k r e2 (by omega) (by omega)
theorem impF_fuel (h:okD d) {l:List Int} (hl:inT d.length l) (h1:1 ≤ l.length):∀ k:Nat,impF d ((lenT d l).toNat+k) l=impT d l
  | 0=>rfl
  | k+1=>by
    rw [← Nat.add_assoc,← impF_succ h _ l hl h1 (by omega)]
    exact impF_fuel h hl h1 k
theorem impT_none {l:List Int} (hb:bett d l=none):impT d l=l:=by
  unfold impT
  cases hk:(lenT d l).toNat with
  | zero=>rfl
  | succ k=>rw [impF,hb]
theorem impT_some (h:okD d) {l r:List Int} (hl:inT d.length l) (h1:1 ≤ l.length) (hb:bett d l=some r):impT d l=impT d r:=by
  obtain ⟨e1,e2,e3⟩:=bett_ok h hl h1 hb
  unfold impT
  obtain ⟨k,hk⟩:∃ k,(lenT d l).toNat=((lenT d r).toNat+k)+1:=⟨(lenT d l).toNat - (lenT d r).toNat - 1,by omega⟩
  rw [hk,impF,hb]
  exact impF_fuel h e2 (by omega) k
end
section
variable {d:List (List Int)} {l0:List Int}
abbrev ipE (d:List (List Int)) (l0:List Int) (b n:Nat) (v7:HV):Env:=env35 (.imm .arg 1 (d.map encR)) (.imm .arg 1 (l0.map encI)) (.imm .lit 1 []) (.int .i64 0) (.sl b 0 n none n 1) v7
theorem ip_loop (h:okD d):∀ (N:Nat) (l:List Int) (b:Nat) (H:Heap),(lenT d l).toNat ≤ N → inT d.length l → (1 ≤ l.length∧l.length ≤ 500) → H[b]?=some (bI l) → mxs H=0 →
    ∃ b' H',RT polV 35 (sub [1,1,1,0,1,0] B35) (ipE d l0 b l.length (.bool true)) H (.exit 0) (ipE d l0 b' l.length (.bool false)) H'∧H'[b']?=some (bI (impT d l))∧(impT d l).length=l.length:=by
  intro N
  induction N with
  | zero =>
    intro l b H hN hl h1 hb h0
    rcases sh_call h hl h1 hb h0 with ⟨e1,e2⟩ | ⟨r,e1,e2⟩
    · obtain ⟨M,hM⟩:=CallsTo.from e2
      have s1:=ip_lt_1 M (d.map encR) (l0.map encI) b l.length H b H hM
      have s2:=ip_lf_0 0 (d.map encR) (l0.map encI) b l.length H
      rw [impT_none e1]
      exact ⟨b,H,lop s1 (gc_eq _ rfl) (lpo s2),hb,rfl⟩
    · have:=(bett_ok h hl h1.1 e1).2.2
      omega
  | succ N ih =>
    intro l b H hN hl h1 hb h0
    rcases sh_call h hl h1 hb h0 with ⟨e1,e2⟩ | ⟨r,e1,e2⟩
    · obtain ⟨M,hM⟩:=CallsTo.from e2
      have s1:=ip_lt_1 M (d.map encR) (l0.map encI) b l.length H b H hM
      have s2:=ip_lf_0 0 (d.map encR) (l0.map encI) b l.length H
      rw [impT_none e1]
      exact ⟨b,H,lop s1 (gc_eq _ rfl) (lpo s2),hb,rfl⟩
    · obtain ⟨M,hM⟩:=CallsTo.from e2
      obtain ⟨q1,q2,q3⟩:=bett_ok h hl h1.1 e1
      have s1:=ip_lt_0 M (d.map encR) (l0.map encI) b l.length H H.length _ hM
      obtain ⟨b',H',r1,r2,r3⟩:=ih r H.length (H ++ [bI r]) (by omega) q2 (by omega) (by rw [List.getElem?_append_right (Nat.le_refl _)]; simp) (by rw [mxs_app]; exact h0)
      rw [q1] at r1 r3
      rw [impT_some h hl h1.1 e1]
      exact ⟨b',H',lop s1 (gc_keep (l:=r) (by simp only [bndE,bnd,bndL]; omega)) r1,r2,r3⟩
end
theorem toRes_li0 {H:Heap} {b k:Nat} {o:List Int} (hb:H[b]?=some (bI o)) (hk:o.length=k) (e:Int):toRes H false (.tuple [.sl b 0 k none k 1,.int .i64 e])=some (.tuple [.own 1 (o.map encI),.int .i64 e]):=by
  have hr:=resCell_sl (H:=H) (no:=[b]) (b:=b) (k:=1) (m:=k) (cap:=none) (els:=o.map encI) hb (by simpa using hk) (mapO_self (fun r=>frz_int 4 r) _)
  have ho:ownedAll H false (.tuple [.sl b 0 k none k 1,.int .i64 e])=[b]:=by simp [ownedAll,cellsOf,owned,hb]
  simp only [toRes,ho,List.nodup_cons,List.not_mem_nil,not_false_eq_true,List.nodup_nil,and_self,if_true,mapO,resVal,hr]
  rfl
theorem res35:Try.f35.results.toList=[.tmp 4,.tmp 5]:=by kernel_rfl
theorem improve_ok:PrimOk Tp 35 improve35:=by
  refine primOk_pure (pol:=polV) (fn:=Try.f35) (cd:=B35) follows_mixed soundV (by kernel_rfl) (by kernel_rfl) (fnok polV.prim _ _ (by kernel_rfl)) (by kernel_rfl) ?_
  intro args res h
  obtain ⟨d,l,rfl,hq⟩:=rlF_inv h
  clear h
  split at hq
  · rename_i hc
    cases hq
    have a1:=ip_a_0 0 (d.map encR) (l.map encI)
    by_cases c1:okD d
    · have m1:=prim_miles (pol':=polV) (by kernel_rfl) hc.1 hc.2.1 [] true (okB_true c1)
      by_cases c2:trOk d.length l=true
      · rw [if_pos ⟨c1,c2⟩]
        have m2:=prim_mtour (pol':=polV) (by kernel_rfl) c1.1.1 hc.2.2 [] true c2
        obtain ⟨t1,t2,t3,t4⟩:=trOk_iff.1 c2
        have hl:1 ≤ l.length∧l.length ≤ 500:=by have:=c1.1; omega
        have b1:=ip_b_0 0 (d.map encR) (l.map encI) m1 m2
        have hcl:∀ k,callN Tp polV (k+1) 52 [.imm .arg 1 (l.map encI)] []=some (.sl 0 0 l.length none l.length 1,[bI l]):=fun k=>by
          rw [prim_call (pol:=polV) (g:=52) (F:=clone52) (by kernel_rfl) (rs:=[.imm .arg 1 (l.map encI)]) (by simp only [mapO,arg_li]) (res:=.own 1 (l.map encI)) (by simp only [clone52,liF,mapO_map decI_enc]; rw [if_pos hc.2.2]),recv_ints]
          rfl
        have cc:=ip_c_0 0 (d.map encR) (l.map encI) l.length (l.map encI) hcl
        have dd:=ip_d_0 0 (d.map encR) (l.map encI) 0 l.length [bI l]
        obtain ⟨b',H',r1,r2,r3⟩:=ip_loop (l0:=l) c1 (lenT d l).toNat l 0 [bI l] (Nat.le_refl _) t3 hl rfl (by simp [mxs,Blk.mx])
        have z1:=ip_z_0 0 (d.map encR) (l.map encI) b' l.length H'
        have q1:=sq dd (bke (c:=sub [1,1,1,0,1] B35) r1) (c:=sub [1,1,1,0] B35)
        have q2:=sq cc (sq q1 z1 (c:=sub [1,1,1] B35)) (c:=sub [1,1] B35)
        have q3:=sq a1 (sq b1 q2 (c:=sub [1] B35)) (c:=B35)
        exact ⟨_,_,_,.tuple [.sl b' 0 l.length none l.length 1,.int .i64 0],q3,by simp,by simp only [resultsV,res35]; rfl,toRes_li0 r2 r3 0⟩
      · rw [if_neg (fun h=>c2 h.2)]
        have m2:=prim_mtour (pol':=polV) (by kernel_rfl) c1.1.1 hc.2.2 [] false (nb_false c2)
        exact ⟨_,_,_,_,sq a1 (sqo (ip_b_1 0 (d.map encR) (l.map encI) m1 m2) (c:=sub [1] B35) (b:=sub [1,1] B35)) (c:=B35),by simp,by simp only [resultsV,res35]; rfl,rfl⟩
    · rw [if_neg (fun h=>c1 h.1)]
      have m1:=prim_miles (pol':=polV) (by kernel_rfl) hc.1 hc.2.1 [] false (okB_false c1)
      exact ⟨_,_,_,_,sq a1 (sqo (ip_b_2 0 (d.map encR) (l.map encI) m1) (c:=sub [1] B35) (b:=sub [1,1] B35)) (c:=B35),by simp,by simp only [resultsV,res35]; rfl,rfl⟩
  · cases hq
end Go.Proofs.Ytlendaofkmhgmaa
end
section
open Go Go.HL
namespace Go.Proofs.Ytlendaofkmhgmaa
open Go.Proofs.Try renaming prog → Tp
open Go.HL.HV renaming undef → Ud
set_option maxRecDepth 100000 in
theorem awake_fast:callNF Tp pol 200 20 [] []=some (.bool true,[]):=by kernel_rfl
theorem awake_prim:PrimOk Tp 20 awakeF:=by
  refine primOk_of (pol:=pol) sound (by kernel_rfl) fun args res h=>?_
  match args,h with
  | [],h =>
    cases h
    exact ⟨200,_,_,false,by rw [← callNF_eq]; exact awake_fast,rfl⟩
end Go.Proofs.Ytlendaofkmhgmaa
end
section
open Go Go.HL
namespace Go.Proofs.Ytlendaofkmhgmaa
open Go.Proofs.Try renaming prog → Tp
open Go.HL.HV renaming undef → Ud
section
variable {d:List (List Int)}
theorem g22' {v:Nat} (hv:v < d.length):idxV Tp 22 (.imm .arg 1 (d.map encR)) (.int .i64 (v:Int))=some (.vptr (.imm .arg 1 ((d.getD v []).map encI))):=gr hv
theorem g23' (h:okD d) {v u:Nat} (hv:v < d.length) (hu:u < d.length):idxV Tp 23 (.imm .arg 1 ((d.getD v []).map encI)) (.int .i64 (u:Int))=some (.vptr (.int .i64 (at2 d v u))):=gx (by rw [h.2.1 v hv]; exact hu)
end
end Go.Proofs.Ytlendaofkmhgmaa
end
section
open Go Go.HL Go.HL.So
namespace Go.Proofs.Ytlendaofkmhgmaa
open Go.Proofs.Try renaming prog → Tp
open Go.HL.HV renaming undef → Ud
theorem res70:Try.f70.results.toList=[.tmp 6]:=by kernel_rfl
theorem u66:Tp.underlying 66=some (.array 11 3):=by kernel_rfl
def Small (ps:List Int):Prop:=ps.length=11∧∀ x ∈ ps,-1000000000 ≤ x∧x ≤ 1000000000
def mpF (f:List (List Int) → Int → List Int → Option HV):List HV → Option HV
  | [.imm .arg 1 rw,.int .i64 a,.agg pv]=>(match mapO decR rw,mapO decI pv with | some R,some ps=>f R a ps | _,_=>none)
  | _=>none
theorem mpF_inv {f:List (List Int) → Int → List Int → Option HV} {args:List HV} {res:HV} (h:mpF f args=some res):∃ R a ps,args=[.imm .arg 1 (R.map encR),.int .i64 a,.agg (ps.map encI)]∧f R a ps=some res:=by
  unfold mpF at h
  split at h
  · rename_i rw a pv
    split at h
    · rename_i R ps hR hp
      exact ⟨R,a,ps,by rw [mapO_inv decR_inv hR,mapO_inv decI_inv hp],h⟩
    · cases h
  · cases h
open Classical in
noncomputable def edges70:List HV → Option HV:=mpF fun R a ps=>if okD R∧(0 ≤ a∧a ≤ R.length)∧Small ps then some (.own 3 ((edg R ps a.toNat).map encE)) else none
section
variable {d:List (List Int)} {ps:List Int} {f:Nat}
abbrev pB (ps:List Int):Blk:=.arr 11 [.agg (ps.map encI)] true 0
abbrev edH (ps:List Int) (l:List Ed):Heap:=[pB ps,bE encE l]
theorem Small.at (h:Small ps) {i:Nat} (hi:i < 11):-1000000000 ≤ ps.getD i 0∧ps.getD i 0 ≤ 1000000000:=by
  have hl:=h.1
  have:ps.getD i 0=ps[i]:=by simp [List.getD,List.getElem?_eq_getElem (show i < ps.length by omega)]
  rw [this]; exact h.2 _ (List.getElem_mem _)
theorem gmn {R:List (List Int)} {y:Nat} (hy:y < R.length):idxV Tp 68 (.imm .arg 1 (R.map encR)) (.int .i64 (y:Int))=some (.vptr (.imm .arg 1 ((R.getD y []).map encI))):=by
  have:=gm (R:=R) (y:=(y:Int)) (by omega) (by omega)
  rwa [Int.toNat_natCast] at this
theorem box_p (hp:ps.length=11):(if (cellsOf (.agg (ps.map encI))).all cellV then some (newV (.agg (ps.map encI)) []) else none)=some (.ptr 0 0 0 1,[pB ps]):=by
  have h:(cellsOf (.agg (ps.map encI))).all cellV=true:=by simp [cellsOf,cellV,encI]
  rw [if_pos h]
  simp only [newV,cellsOf,bnd,ints_bnd,List.length_map,hp]; rfl
theorem px {H:Heap} {b tot:Nat} {i:Nat} (hi:i < 11):idxV Tp 66 (.ptr b 0 0 tot) (.int .i64 (i:Int))=some (.ptr b 0 i tot):=by
  have:=idx_arr (P:=Tp) (t:=66) (e:=3) (b:=b) (i:=0) (m:=11) (tot:=tot) (ik:=.i64) (n:=(i:Int)) u66 z3 (by omega) (by omega)
  rwa [Int.toNat_natCast] at this
theorem pl_at {H:Heap} {b i:Nat} (hb:H[b]?=some (pB ps)) (hp:ps.length=11) (hi:i < 11):loadV Tp H 3 (.ptr b 0 i 1)=some (.int .i64 (ps.getD i 0)) :=
  load_cell (b:=b) hb rfl rfl a3 i3 (by rw [List.getElem?_map,List.getElem?_eq_getElem (by omega)]; simp [List.getD,List.getElem?_eq_getElem (show i < ps.length by omega),encI])
theorem encE_bnd:∀ (l:List Ed),bndL (l.map encE)=0
  | []=>rfl
  | a :: l=>by simp only [List.map_cons,bndL,encE_bnd l,encE,bnd]; rfl
theorem app_E {H:Heap} {b:Nat} {o:List Ed} (hb:H[b]?=some (bE encE o)) (hl:o.length ≤ 1000) (e:Ed) :
    appV H 3 24 (.sl b 0 o.length none o.length 3) [encE e]=some (.sl b 0 (o.length+1) none (o.length+1) 3,H.set b (bE encE (o ++ [e]))):=by
  have:=app_sl (H:=H) (k:=3) (bytes:=24) (b:=b) (n:=o.length) (mx:=0) (els:=o.map encE) (xs:=[encE e]) hb (by simp) (by simp) (by simp only [roomMax,List.length_singleton]; omega) (encE_bnd [e])
  rw [this]
  simp only [bE,List.map_append,List.map_cons,List.map_nil,List.length_singleton]
theorem edRow_len {b:Nat}:∀ k a,(edRow d ps b k a).length=k
  | 0,_=>rfl
  | k+1,a=>by simp [edRow,edRow_len k]
abbrev edE (d:List (List Int)) (ps:List Int) (f m:Nat) (v8 v9 v11 v12:HV):Env:=(env70 (.imm .arg 1 (d.map encR)) (.int .i64 (f:Int)) (.agg (ps.map encI)) (.ptr 0 0 0 1) (.imm .lit 3 []) (.sl 1 0 m none m 3) v8 v9 v11 v12)
theorem ed_in (hd:okD d) (hp:Small ps) {i:Nat} (hi:i < d.length):∀ k j (o:List Ed),j+k=i → o.length+k ≤ 500 →
    RT polSo 70 (sub [1,1,0,1,0,0,1,1,0,0,1,1,0] B70) (edE d ps f o.length (.int .i64 (i:Int)) (.int .i64 (j:Int)) (.int .i64 (d.length:Int)) (.int .i64 (i:Int))) (edH ps o) (.exit 2)
      (edE d ps f (o ++ edRow d ps i k j).length (.int .i64 (i:Int)) (.int .i64 (i:Int)) (.int .i64 (d.length:Int)) (.int .i64 (i:Int))) (edH ps (o ++ edRow d ps i k j)):=by
  have hn:=hd.1
  intro k
  induction k with
  | zero =>
    intro j o hj hl
    have:j=i:=by omega
    subst this
    have s:=ed_h_1 0 (d.map encR) (ps.map encI) f o.length (o.map encE) j j (by omega)
    rw [List.length_map] at s
    rw [edRow,List.append_nil]
    exact lpo (s)
  | succ k ih =>
    intro j o hj hl
    have b1:=hd.at (i:=j) (j:=i) (by omega) hi
    have b2:=hp.at (i:=j) (by omega)
    have b3:=hp.at (i:=i) (by omega)
    have e:IntKind.i64.wrap (IntKind.i64.wrap (at2 d j i+ps.getD j 0)+ps.getD i 0)=cst d ps j i:=by
      rw [wrap_id (n:=at2 d j i+ps.getD j 0) (by omega) (by omega),wrap_id (by omega) (by omega)]; rfl
    have ap:=app_E (H:=edH ps o) (b:=1) (o:=o) rfl (by omega) (mkE d ps j i)
    have s:=ed_h_0 0 (d.map encR) (ps.map encI) f o.length (o.map encE) i j (by omega) (gmn (by omega)) (g23' hd (by omega) hi) (px (H:=[]) (by omega)) (pl_at (H:=edH ps o) rfl hp.1 (by omega)) (px (H:=[]) (by omega)) (pl_at (H:=edH ps o) rfl hp.1 (by omega)) (by
      rw [e]
      rw [show [HV.agg [.int .i64 (cst d ps j i),.int .i64 (j:Int),.int .i64 (i:Int)]]=[encE (mkE d ps j i)] from rfl]
      have:=ap
      rw [show edH ps o=[.arr 11 [.agg (ps.map encI)] true 0,.arr 3 (o.map encE) true 0] from rfl] at this
      rw [this]
      simp [bE,edH])
    rw [wrap_succ (by omega),List.length_map] at s
    have hs:o.map encE ++ [HV.agg [.int .i64 (IntKind.i64.wrap (IntKind.i64.wrap (at2 d j i+ps.getD j 0)+ps.getD i 0)),.int .i64 (j:Int),.int .i64 (i:Int)]]=(o ++ [mkE d ps j i]).map encE:=by rw [e]; simp [encE]
    rw [hs] at s
    have r:=ih (j+1) (o ++ [mkE d ps j i]) (by omega) (by simp; omega)
    rw [List.append_assoc,show [mkE d ps j i] ++ edRow d ps i k (j+1)=edRow d ps i (k+1) j from rfl,show (o ++ [mkE d ps j i]).length=o.length+1 by simp] at r
    exact lop (s) (gc_eq _ rfl) (r)
theorem ed_out (hd:okD d) (hp:Small ps) (hf:f ≤ d.length):∀ k i (o:List Ed),i+k=d.length → o.length+k * (i+k) ≤ 200 →
    ∃ y8 y9,RT polSo 70 (sub [1,1,0,1,0] B70) (edE d ps f o.length Ud Ud (.int .i64 (d.length:Int)) (.int .i64 (i:Int))) (edH ps o) (.exit 0)
      (edE d ps f (o ++ edAll d ps f k i).length y8 y9 (.int .i64 (d.length:Int)) (.int .i64 (d.length:Int))) (edH ps (o ++ edAll d ps f k i)):=by
  have hn:=hd.1
  intro k
  induction k with
  | zero =>
    intro i o hi hl
    have:i=d.length:=by omega
    subst this
    have s:=ed_d_1 0 (d.map encR) (ps.map encI) f o.length (o.map encE) d.length (y8:=Ud) (y9:=Ud) (by simp)
    have s2:=ed_ef_0 0 (d.map encR) (ps.map encI) f o.length (o.map encE) d.length (y8:=Ud) (y9:=Ud)
    rw [List.length_map] at s s2
    rw [edAll,List.append_nil]
    exact ⟨_,_,lpo (sq (s) (sqo (s2) (c:=sub [1,1,0,1,0,0,1] B70) (b:=sub [1,1,0,1,0,0,1,1] B70)) (c:=sub [1,1,0,1,0,0] B70))⟩
  | succ k ih =>
    intro i o hi hl
    have hm:o.length+(k+1) * (i+(k+1))=o.length+(i+(k+1))+k * (i+1+k):=by
      rw [Nat.add_mul,Nat.one_mul,show i+(k+1)=i+1+k by omega]; omega
    have s:=ed_d_0 0 (d.map encR) (ps.map encI) f o.length (o.map encE) i (y8:=Ud) (y9:=Ud) (by rw [List.length_map]; omega)
    have s2:=ed_et_0 0 (d.map encR) (ps.map encI) f o.length (o.map encE) i (y8:=Ud) (y9:=Ud)
    have s3:=ed_f_0 0 (d.map encR) (ps.map encI) f o.length (o.map encE) i (y8:=Ud) (y9:=Ud)
    have s4:=ed_g_0 0 (d.map encR) (ps.map encI) f o.length (o.map encE) i (y9:=Ud)
    rw [List.length_map] at s s2 s3 s4
    by_cases hfi:f ≤ i
    · have r:=ed_in (f:=f) hd hp (i:=i) (by omega) (i - f) f o (by omega) (by omega)
      have s5:=ed_i_0 0 (d.map encR) (ps.map encI) f (o ++ edRow d ps i (i - f) f).length ((o ++ edRow d ps i (i - f) f).map encE) i (y8:=.int .i64 (i:Int)) (y9:=.int .i64 (i:Int))
      rw [wrap_succ (by omega),List.length_map] at s5
      have st:=sq (s) (sq (s2) (sq (RunsTo.block_normal (i:=1) (c:=sub [1,1,0,1,0,0,1,1,0] B70) (sq (s3) (sq (s4) (bke (c:=sub [1,1,0,1,0,0,1,1,0,0,1,1] B70) (r)) (c:=sub [1,1,0,1,0,0,1,1,0,0,1] B70)) (c:=sub [1,1,0,1,0,0,1,1,0,0] B70)) (by kernel_rfl)) (s5) (c:=sub [1,1,0,1,0,0,1,1] B70)) (c:=sub [1,1,0,1,0,0,1] B70)) (c:=sub [1,1,0,1,0,0] B70)
      obtain ⟨y8,y9,r2⟩:=ih (i+1) (o ++ edRow d ps i (i - f) f) (by omega) (by rw [List.length_append,edRow_len]; omega)
      rw [List.append_assoc,show edRow d ps i (i - f) f ++ edAll d ps f k (i+1)=edAll d ps f (k+1) i from rfl] at r2
      exact ⟨y8,y9,lop (st) (gc_eq _ rfl) (r2)⟩
    · have sx:=ed_h_1 0 (d.map encR) (ps.map encI) f o.length (o.map encE) i f (by omega)
      have s5:=ed_i_0 0 (d.map encR) (ps.map encI) f o.length (o.map encE) i (y8:=.int .i64 (i:Int)) (y9:=.int .i64 (f:Int))
      rw [List.length_map] at sx s5
      rw [wrap_succ (by omega)] at s5
      have st:=sq (s) (sq (s2) (sq (RunsTo.block_normal (i:=1) (c:=sub [1,1,0,1,0,0,1,1,0] B70) (sq (s3) (sq (s4) (bke (c:=sub [1,1,0,1,0,0,1,1,0,0,1,1] B70) (lpo (sx) (c:=sub [1,1,0,1,0,0,1,1,0,0,1,1,0] B70))) (c:=sub [1,1,0,1,0,0,1,1,0,0,1] B70)) (c:=sub [1,1,0,1,0,0,1,1,0,0] B70)) (by kernel_rfl)) (s5) (c:=sub [1,1,0,1,0,0,1,1] B70)) (c:=sub [1,1,0,1,0,0,1] B70)) (c:=sub [1,1,0,1,0,0] B70)
      obtain ⟨y8,y9,r2⟩:=ih (i+1) o (by omega) (by omega)
      have e:edAll d ps f (k+1) i=edAll d ps f k (i+1):=by
        rw [edAll,show i - f=0 by omega]; rfl
      rw [← e] at r2
      exact ⟨y8,y9,lop (st) (gc_eq _ rfl) (r2)⟩
end
theorem frz_E {H:Heap} {no:List Nat} {n:Nat} (e:Ed):frz H no (n+1) (encE e)=some (encE e):=by
  show (match mapO (frz H no n) [.int .i64 e.1,.int .i64 e.2.1,.int .i64 e.2.2] with | some l=>some (HV.agg l) | none=>none)=_
  have h1:∀ x:Int,frz H no n (.int .i64 x)=some (.int .i64 x):=fun x=>frz_int n x
  simp only [mapO,h1]; rfl
theorem edges_ok:PrimOk Tp 70 edges70:=by
  refine primOk_pure (pol:=polSo) (fn:=Try.f70) (cd:=B70) follows_mixed soundSo (by kernel_rfl) (by kernel_rfl) (fnok polSo.prim _ _ (by kernel_rfl)) (by kernel_rfl) ?_
  intro args res h
  obtain ⟨d,a0,ps,rfl,hq⟩:=mpF_inv h
  clear h
  split at hq
  · rename_i hc
    obtain ⟨hd,ha,hp⟩:=hc
    cases hq
    have hn:=hd.1
    obtain ⟨f,rfl⟩:∃ x:Nat,a0=(x:Int):=⟨a0.toNat,by omega⟩
    rw [Int.toNat_natCast]
    have s0:=ed_a_0 0 (d.map encR) (ps.map encI) f (box_p hp.1)
    have s1:=ed_b_0 0 (d.map encR) (ps.map encI) f (y7:=Ud) (y8:=Ud) (y9:=Ud) (y11:=Ud) (y12:=Ud)
    have s2:=ed_c_0 0 (d.map encR) (ps.map encI) f 0 [] (y8:=Ud) (y9:=Ud) (y11:=Ud) (y12:=Ud)
    rw [List.length_map] at s2
    have hkk:d.length * d.length ≤ 11 * 11:=Nat.mul_le_mul hn.2 hn.2
    obtain ⟨y8,y9,r⟩:=ed_out (f:=f) hd hp (by omega) d.length 0 [] (by omega) (by simp; omega)
    rw [List.nil_append] at r
    have hl:=edAll_len (d:=d) (p:=ps) (f:=f) d.length 0
    rw [Nat.zero_add] at hl
    obtain ⟨l',hc,h1,h2⟩:=sortE_ok (H:=edH ps (edAll d ps f d.length 0)) (db:=1) (l:=edAll d ps f d.length 0) (by omega) rfl rfl (by simp [mxs,Blk.mx,bE])
    have he:=edg_eq (by omega) h1 h2
    subst he
    obtain ⟨N,hN⟩:=hc.from
    have s3:=ed_j_0 N (d.map encR) (ps.map encI) f (edAll d ps f d.length 0).length ((edAll d ps f d.length 0).map encE) (y8:=y8) (y9:=y9) (y11:=.int .i64 (d.length:Int)) (y12:=.int .i64 (d.length:Int)) hN
    have r':=lpi (e0:=edE d ps f 0 Ud Ud (.int .i64 (d.length:Int)) (.int .i64 0)) r (b:=sub [1,1,0,1,0,0] B70)
    have t:=sq (s0) (sq (s1) (sq (sq (s2) (bke (c:=sub [1,1,0,1] B70) (r')) (c:=sub [1,1,0] B70)) (s3) (c:=sub [1,1] B70)) (c:=sub [1] B70)) (c:=B70)
    have hll:(edAll d ps f d.length 0).length=(edg d ps f).length:=h1.length_eq.symm
    rw [hll] at t
    have hr:=resCell_sl (H:=[pB ps,bE encE (edg d ps f)]) (no:=[1]) (b:=1) (k:=3) (m:=(edg d ps f).length) (cap:=none) (els:=(edg d ps f).map encE) rfl (by simp) (mapO_self (fun e=>frz_E (n:=3) e) _)
    have ho:ownedAll [pB ps,bE encE (edg d ps f)] false (.sl 1 0 (edg d ps f).length none (edg d ps f).length 3)=[1]:=by simp [ownedAll,cellsOf,owned,bE]
    refine ⟨_,_,_,.sl 1 0 (edg d ps f).length none (edg d ps f).length 3,t,by simp,by simp only [resultsV,res70]; rfl,?_⟩
    show toRes [pB ps,bE encE (edg d ps f)] false (.sl 1 0 (edg d ps f).length none (edg d ps f).length 3)=_
    simp only [toRes,ho,List.nodup_cons,List.not_mem_nil,not_false_eq_true,List.nodup_nil,and_self,if_true,resVal,hr]
  · cases hq
end Go.Proofs.Ytlendaofkmhgmaa
end
section
open Go Go.HL Go.HL.So
namespace Go.Proofs.Ytlendaofkmhgmaa
open Go.Proofs.Try renaming prog → Tp
open Go.HL.HV renaming undef → Ud
theorem getDs (o:List Int) (i k:Nat) (v:Int) (hi:i < o.length):(o.set i v).getD k 0=if i=k then v else o.getD k 0:=by
  simp only [List.getD,List.getElem?_set,hi]
  split
  · rename_i e; subst e; simp
  · rfl
def rlb (o w:Int):Nat → Nat → List Int → List Int
  | 0,_,g=>g
  | k+1,j,g=>rlb o w k (j+1) (if g.getD j 0=o then g.set j w else g)
def krP:List Ed → List Int → List Ed
  | [],_=>[]
  | e :: l,g=>if g.getD e.2.1.toNat 0=g.getD e.2.2.toNat 0 then krP l g else e :: krP l (rlb (g.getD e.2.1.toNat 0) (g.getD e.2.2.toNat 0) g.length 0 g)
def iota (n:Nat):List Int:=(List.range n).map fun i:Nat=>(i:Int)
def treeL (d:List (List Int)) (ps:List Int) (f:Nat):List Ed:=krP (edg d ps f) (iota d.length)
theorem rlb_len (o w:Int):∀ k j g,(rlb o w k j g).length=g.length
  | 0,_,_=>rfl
  | k+1,j,g=>by
    rw [rlb,rlb_len o w k]
    split
    · simp
    · rfl
theorem rlb_get (o w:Int):∀ k j (g:List Int),j+k=g.length → ∀ x,(rlb o w k j g).getD x 0=if j ≤ x∧x < g.length∧g.getD x 0=o then w else g.getD x 0
  | 0,j,g,h,x=>by rw [rlb,if_neg (by omega)]
  | k+1,j,g,h,x=>by
    rw [rlb]
    by_cases c:g.getD j 0=o
    · rw [if_pos c,rlb_get o w k (j+1) _ (by simp; omega),List.length_set,getDs _ _ _ _ (by omega)]
      by_cases e:j=x
      · subst e
        rw [if_neg (by omega),if_pos rfl,if_pos ⟨Nat.le_refl _,by omega,c⟩]
      · rw [if_neg e]
        by_cases c2:j+1 ≤ x∧x < g.length∧g.getD x 0=o
        · rw [if_pos c2,if_pos ⟨by omega,c2.2⟩]
        · rw [if_neg c2,if_neg (fun h=>c2 ⟨by omega,h.2⟩)]
    · rw [if_neg c,rlb_get o w k (j+1) g (by omega)]
      by_cases c2:j+1 ≤ x∧x < g.length∧g.getD x 0=o
      · rw [if_pos c2,if_pos ⟨by omega,c2.2⟩]
      · rw [if_neg c2,if_neg (fun h=>c2 ⟨by
          rcases Nat.lt_or_ge j x with h1 | h1
          · omega
          · have:x=j:=by omega
            subst this; exact absurd h.2.2 c,h.2⟩)]
theorem rlb_at (o w:Int) (g:List Int) {x:Nat} (hx:x < g.length):(rlb o w g.length 0 g).getD x 0=if g.getD x 0=o then w else g.getD x 0:=by
  rw [rlb_get o w g.length 0 g (by omega)]
  by_cases c:g.getD x 0=o
  · rw [if_pos ⟨Nat.zero_le _,hx,c⟩,if_pos c]
  · rw [if_neg (fun h=>c h.2.2),if_neg c]
def Eqv (n:Nat) (g h:List Int):Prop:=(g.length=n∧h.length=n)∧∀ x y,x < n → y < n → (g.getD x 0=g.getD y 0 ↔ h.getD x 0=h.getD y 0)
def EIn (n:Nat) (l:List Ed):Prop:=∀ e ∈ l,(0 ≤ e.2.1∧e.2.1.toNat < n)∧0 ≤ e.2.2∧e.2.2.toNat < n
theorem Eqv.step {n:Nat} {g h:List Int} (he:Eqv n g h) {a b:Nat} (ha:a < n) (hb:b < n):Eqv n (rlb (g.getD a 0) (g.getD b 0) g.length 0 g) (rlb (h.getD b 0) (h.getD a 0) h.length 0 h):=by
  obtain ⟨⟨h1,h2⟩,h3⟩:=he
  refine ⟨⟨by rw [rlb_len]; exact h1,by rw [rlb_len]; exact h2⟩,fun x y hx hy=>?_⟩
  rw [rlb_at _ _ _ (by omega),rlb_at _ _ _ (by omega),rlb_at _ _ _ (by omega),rlb_at _ _ _ (by omega)]
  have q1:=h3 x a hx ha
  have q2:=h3 y a hy ha
  have q3:=h3 x b hx hb
  have q4:=h3 y b hy hb
  have q5:=h3 x y hx hy
  have q6:=h3 a b ha hb
  generalize g.getD x 0=gx at *
  generalize g.getD y 0=gy at *
  generalize g.getD a 0=ga at *
  generalize g.getD b 0=gb at *
  generalize h.getD x 0=hx' at *
  generalize h.getD y 0=hy' at *
  generalize h.getD a 0=ha' at *
  generalize h.getD b 0=hb' at *
  split <;> split <;> split <;> split <;> (constructor <;> intro q <;> omega)
theorem Eqv.refl {n:Nat} {g:List Int} (h:g.length=n):Eqv n g g:=⟨⟨h,h⟩,fun _ _ _ _=>Iff.rfl⟩
theorem iota_len (n:Nat):(iota n).length=n:=by simp [iota]
theorem iota_at {n x:Nat} (hx:x < n):(iota n).getD x 0=(x:Int):=by simp [iota,List.getD,List.getElem?_map,List.getElem?_range hx]
theorem edg_in {d:List (List Int)} {ps:List Int} {f:Nat} (hf:f ≤ d.length):EIn d.length (edg d ps f):=fun e he=>by
  obtain ⟨x,y,h,rfl⟩:=((edg_ok (d:=d) (p:=ps) hf).2 e).1 he
  refine ⟨⟨?_,?_⟩,?_,?_⟩
  · show (0:Int) ≤ (x:Int); omega
  · show ((x:Int)).toNat < d.length; omega
  · show (0:Int) ≤ (y:Int); omega
  · show ((y:Int)).toNat < d.length; omega
theorem krP_len:∀ (l:List Ed) (g:List Int),(krP l g).length ≤ l.length
  | [],_=>Nat.le_refl _
  | e :: l,g=>by
    rw [krP]
    split
    · have:=krP_len l g; simp; omega
    · have:=krP_len l (rlb (g.getD e.2.1.toNat 0) (g.getD e.2.2.toNat 0) g.length 0 g); rw [List.length_cons,List.length_cons]; omega
theorem krP_mem {e:Ed}:∀ (l:List Ed) (g:List Int),e ∈ krP l g → e ∈ l
  | [],_,h=>h
  | x :: l,g,h=>by
    rw [krP] at h
    split at h
    · exact List.mem_cons_of_mem _ (krP_mem l g h)
    · rcases List.mem_cons.1 h with rfl | h
      · simp
      · exact List.mem_cons_of_mem _ (krP_mem l _ h)
theorem edg_len {d:List (List Int)} {ps:List Int} {f:Nat} (hd:okD d) (hf:f ≤ d.length):(edg d ps f).length ≤ 121:=by
  have hn:=hd.1
  have hkk:d.length * d.length ≤ 11 * 11:=Nat.mul_le_mul hn.2 hn.2
  have hl:=edAll_len (d:=d) (p:=ps) (f:=f) d.length 0
  rw [Nat.zero_add] at hl
  obtain ⟨h1,h2⟩:=edg_ok (d:=d) (p:=ps) hf
  have nd:(edg d ps f).Nodup:=h1.imp (fun {a b} h e=>by subst e; exact ltE_lin.rf _ h)
  have:=nd.length_le_of_subset (l₂:=edAll d ps f d.length 0) (fun e he=>by
    obtain ⟨x,y,h,e'⟩:=(h2 e).1 he
    exact (mem_edAll _ _).2 ⟨x,y,by omega,e'⟩)
  omega
open Classical in
noncomputable def spanning61:List HV → Option HV:=mpF fun R a ps=>if okD R∧(0 ≤ a∧a ≤ R.length)∧Small ps then some (.own 3 ((treeL R ps a.toNat).map encE)) else none
noncomputable def polSp:Pol:={ pol with prim:=fun g=>if g == 70 then some edges70 else none }
theorem soundSp (n:Nat):CallSound Tp (callN Tp polSp n):=sound_prim _ (fun g f h=>by
  split at h
  · rename_i hg; cases h; rw [eq_of_beq hg]; exact edges_ok
  · cases h) n
end Go.Proofs.Ytlendaofkmhgmaa
end
section
open Go Go.HL
namespace Go.Proofs.Ytlendaofkmhgmaa
set_option maxRecDepth 100000
open Go.Proofs.Try renaming prog → Tp
open Go.HL.HV renaming undef → Ud
noncomputable def B61:Code:=Try.f61.body.getD .skip
abbrev env61 (v0 v1 v2 v5 v6 v7 v8 v9 v11 v12 v13 v14 v19 v20 v31 v32 v33 v55 v56:HV):Env:=[(0,v0),(1,v1),(2,v2),(5,v5),(6,v6),(7,v7),(8,v8),(9,v9),(11,v11),(12,v12),(13,v13),(14,v14),(19,v19),(20,v20),(31,v31),(32,v32),(33,v33),(55,v55),(56,v56)]
theorem spn_a_0 (rw ps:List HV) (f:Nat) (g0:(if (cellsOf (.agg ps)).all cellV then some (newV (.agg ps) []) else none)=some (.ptr 0 0 0 1,[.arr 11 [.agg ps] true 0])):RT polSp 61 (sub [0] B61) [(0,.imm .arg 1 rw),(1,.i (f:Int)),(2,.agg ps)] [] .normal (env61 (.imm .arg 1 rw) (.i (f:Int)) (.agg ps) (.ptr 0 0 0 1) (.imm .lit 3 []) Ud Ud Ud Ud Ud Ud Ud Ud Ud Ud Ud Ud Ud Ud) [.arr 11 [.agg ps] true 0] :=
  RunsTo.hin 0 60 [⟨0,0,.ptr 0 0 0 1,[.arr 11 [.agg ps] true 0]⟩] fun kf hk=>⟨_,by kernel_rfl,(oC (g0) .nil)⟩
theorem spn_b_0 (rw ps:List HV) (f:Nat)  {y7 y8 y9 y11 y12 y13 y14 y19 y20 y31 y32 y33 y55 y56:HV}(g0:makeV Tp false 23 (.i (rw.length:Int)) (.i (rw.length:Int)) [.arr 11 [.agg ps] true 0]=some (.sl 1 0 rw.length (some rw.length) rw.length 1,[.arr 11 [.agg ps] true 0,.arr 1 (List.replicate rw.length (.i 0)) true 0])):RT polSp 61 (sub [1,0] B61) (env61 (.imm .arg 1 rw) (.i (f:Int)) (.agg ps) (.ptr 0 0 0 1) (.imm .lit 3 []) y7 y8 y9 y11 y12 y13 y14 y19 y20 y31 y32 y33 y55 y56) [.arr 11 [.agg ps] true 0] .normal (env61 (.imm .arg 1 rw) (.i (f:Int)) (.agg ps) (.ptr 0 0 0 1) (.imm .lit 3 []) (.sl 1 0 rw.length (some rw.length) rw.length 1) y8 y9 y11 y12 y13 y14 y19 y20 y31 y32 y33 y55 y56) [.arr 11 [.agg ps] true 0,.arr 1 (List.replicate rw.length (.i 0)) true 0] :=
  RunsTo.hin 0 60 [⟨1,2,.sl 1 0 rw.length (some rw.length) rw.length 1,[.arr 11 [.agg ps] true 0,.arr 1 (List.replicate rw.length (.i 0)) true 0]⟩] fun kf hk=>⟨_,by kernel_rfl,(oC (g0) .nil)⟩
theorem spn_c_0 (rw ps:List HV) (f:Nat) (n:Nat) (gs:List HV) {y8 y9 y11 y12 y13 y14 y19 y20 y31 y32 y33 y55 y56:HV}:RT polSp 61 (sub [1,1,0,0] B61) (env61 (.imm .arg 1 rw) (.i (f:Int)) (.agg ps) (.ptr 0 0 0 1) (.imm .lit 3 []) (.sl 1 0 n (some n) n 1) y8 y9 y11 y12 y13 y14 y19 y20 y31 y32 y33 y55 y56) [.arr 11 [.agg ps] true 0,.arr 1 gs true 0] .normal (env61 (.imm .arg 1 rw) (.i (f:Int)) (.agg ps) (.ptr 0 0 0 1) (.imm .lit 3 []) (.sl 1 0 n (some n) n 1) y8 y9 y11 y12 y13 y14 (.i (n:Int)) (.i 0) y31 y32 y33 y55 y56) [.arr 11 [.agg ps] true 0,.arr 1 gs true 0] :=
  RunsTo.hin 0 60 [] fun kf hk=>⟨_,by kernel_rfl,.nil⟩
theorem spn_d_0 (rw ps:List HV) (f:Nat) (n:Nat) (gs:List HV) (i:Nat) {y8 y9 y11 y12 y13 y14 y31 y32 y33 y55 y56:HV} {el0:List HV} (g0:(i:Int) < (n:Int)) (g1:idxV Tp 23 (.sl 1 0 n (some n) n 1) (.i (i:Int))=some (.ptr 1 i 0 n)) (g2:storeV Tp [.arr 11 [.agg ps] true 0,.arr 1 gs true 0] 3 (.ptr 1 i 0 n) (.i (i:Int))=some [.arr 11 [.agg ps] true 0,.arr 1 el0 true 0]):RT polSp 61 (sub [1,1,0,1,0,0] B61) (env61 (.imm .arg 1 rw) (.i (f:Int)) (.agg ps) (.ptr 0 0 0 1) (.imm .lit 3 []) (.sl 1 0 n (some n) n 1) y8 y9 y11 y12 y13 y14 (.i (n:Int)) (.i (i:Int)) y31 y32 y33 y55 y56) [.arr 11 [.agg ps] true 0,.arr 1 gs true 0] .normal (env61 (.imm .arg 1 rw) (.i (f:Int)) (.agg ps) (.ptr 0 0 0 1) (.imm .lit 3 []) (.sl 1 0 n (some n) n 1) (.i (i:Int)) y9 y11 y12 y13 y14 (.i (n:Int)) (.i (IntKind.i64.wrap ((i:Int)+1))) y31 y32 y33 y55 y56) [.arr 11 [.agg ps] true 0,.arr 1 el0 true 0] :=
  RunsTo.hin 0 60 [⟨3,0,.bool true,[.arr 11 [.agg ps] true 0,.arr 1 gs true 0]⟩,⟨5,3,.ptr 1 i 0 n,[.arr 11 [.agg ps] true 0,.arr 1 gs true 0]⟩,⟨5,4,.tuple [],[.arr 11 [.agg ps] true 0,.arr 1 el0 true 0]⟩] fun kf hk=>⟨_,by kernel_rfl,(oB [.arr 11 [.agg ps] true 0,.arr 1 gs true 0] (decide_eq_true g0) (oP [.arr 11 [.agg ps] true 0,.arr 1 gs true 0] g1 (oS g2 .nil)))⟩
theorem spn_d_1 (rw ps:List HV) (f:Nat) (n:Nat) (gs:List HV) (i:Nat) {y8 y9 y11 y12 y13 y14 y31 y32 y33 y55 y56:HV}(g0:¬ ((i:Int) < (n:Int))):RT polSp 61 (sub [1,1,0,1,0,0] B61) (env61 (.imm .arg 1 rw) (.i (f:Int)) (.agg ps) (.ptr 0 0 0 1) (.imm .lit 3 []) (.sl 1 0 n (some n) n 1) y8 y9 y11 y12 y13 y14 (.i (n:Int)) (.i (i:Int)) y31 y32 y33 y55 y56) [.arr 11 [.agg ps] true 0,.arr 1 gs true 0] (.exit 0) (env61 (.imm .arg 1 rw) (.i (f:Int)) (.agg ps) (.ptr 0 0 0 1) (.imm .lit 3 []) (.sl 1 0 n (some n) n 1) y8 y9 y11 y12 y13 y14 (.i (n:Int)) (.i (i:Int)) y31 y32 y33 y55 y56) [.arr 11 [.agg ps] true 0,.arr 1 gs true 0] :=
  RunsTo.hin 0 60 [⟨3,0,.bool false,[.arr 11 [.agg ps] true 0,.arr 1 gs true 0]⟩] fun kf hk=>⟨_,by kernel_rfl,(oB [.arr 11 [.agg ps] true 0,.arr 1 gs true 0] (decide_eq_false g0) .nil)⟩
theorem spn_e_0 (rw ps:List HV) (f:Nat) (n:Nat) (gs:List HV) {y8 y9 y11 y12 y13 y14 y19 y20 y31 y32 y33 y55 y56:HV}:RT polSp 61 (sub [1,1,1,0] B61) (env61 (.imm .arg 1 rw) (.i (f:Int)) (.agg ps) (.ptr 0 0 0 1) (.imm .lit 3 []) (.sl 1 0 n (some n) n 1) y8 y9 y11 y12 y13 y14 y19 y20 y31 y32 y33 y55 y56) [.arr 11 [.agg ps] true 0,.arr 1 gs true 0] .normal (env61 (.imm .arg 1 rw) (.i (f:Int)) (.agg ps) (.ptr 0 0 0 1) (.imm .lit 3 []) (.sl 1 0 n (some n) n 1) y8 (.sl 2 0 0 none 0 3) y11 y12 y13 y14 y19 y20 y31 y32 y33 y55 y56) [.arr 11 [.agg ps] true 0,.arr 1 gs true 0,.arr 3 [] true 0] :=
  RunsTo.hin 0 60 [] fun kf hk=>⟨_,by kernel_rfl,.nil⟩
theorem spn_f_0 (rw ps:List HV) (f:Nat) (n:Nat) (gs:List HV) (m:Nat) (os:List HV) {y8 y11 y12 y13 y14 y19 y20 y31 y32 y33 y55 y56:HV} {q:Nat} {es:List HV} (g0:loadV Tp [.arr 11 [.agg ps] true 0,.arr 1 gs true 0,.arr 3 os true 0] 66 (.ptr 0 0 0 1)=some (.agg ps)) (g1:∀ kf,callN Tp polSp (kf+1) 70 [.imm .arg 1 rw,.i (f:Int),.agg ps] [.arr 11 [.agg ps] true 0,.arr 1 gs true 0,.arr 3 os true 0]=some (.sl 3 0 q none q 3,[.arr 11 [.agg ps] true 0,.arr 1 gs true 0,.arr 3 os true 0,.arr 3 es true 0])):RT polSp 61 (sub [1,1,1,1,0,0] B61) (env61 (.imm .arg 1 rw) (.i (f:Int)) (.agg ps) (.ptr 0 0 0 1) (.imm .lit 3 []) (.sl 1 0 n (some n) n 1) y8 (.sl 2 0 m none m 3) y11 y12 y13 y14 y19 y20 y31 y32 y33 y55 y56) [.arr 11 [.agg ps] true 0,.arr 1 gs true 0,.arr 3 os true 0] .normal (env61 (.imm .arg 1 rw) (.i (f:Int)) (.agg ps) (.ptr 0 0 0 1) (.imm .lit 3 []) (.sl 1 0 n (some n) n 1) y8 (.sl 2 0 m none m 3) y11 y12 y13 y14 y19 y20 (.sl 3 0 q none q 3) (.i (q:Int)) (.i 0) y55 y56) [.arr 11 [.agg ps] true 0,.arr 1 gs true 0,.arr 3 os true 0,.arr 3 es true 0] :=
  RunsTo.hin 0 60 [⟨8,2,.agg ps,[.arr 11 [.agg ps] true 0,.arr 1 gs true 0,.arr 3 os true 0]⟩,⟨8,3,.sl 3 0 q none q 3,[.arr 11 [.agg ps] true 0,.arr 1 gs true 0,.arr 3 os true 0,.arr 3 es true 0]⟩] fun kf hk=>⟨_,by kernel_rfl,(oP [.arr 11 [.agg ps] true 0,.arr 1 gs true 0,.arr 3 os true 0] g0 (oC (g1 kf) .nil))⟩
theorem spn_g_0 (rw ps:List HV) (f:Nat) (n:Nat) (gs:List HV) (m:Nat) (os:List HV) (q:Nat) (es:List HV) (i:Nat) {y5 y8 y11 y12 y13 y14 y19 y20 y55 y56:HV}(g0:(i:Int) < (q:Int)):RunsTo Tp polSp 61 (sub [1,1,1,1,0,1,0,0,0] B61) (env61 (.imm .arg 1 rw) (.i (f:Int)) (.agg ps) y5 (.imm .lit 3 []) (.sl 1 0 n (some n) n 1) y8 (.sl 2 0 m none m 3) y11 y12 y13 y14 y19 y20 (.sl 3 0 q none q 3) (.i (q:Int)) (.i (i:Int)) y55 y56) [.arr 11 [.agg ps] true 0,.arr 1 gs true 0,.arr 3 os true 0,.arr 3 es true 0] .normal [0,1,2,5,6,7,8,9,11,12,13,14,19,20,31,32,33,55,56,34] [(0,.imm .arg 1 rw),(1,.i (f:Int)),(2,.agg ps),(5,y5),(6,.imm .lit 3 []),(7,.sl 1 0 n (some n) n 1),(8,y8),(9,.sl 2 0 m none m 3),(11,y11),(12,y12),(13,y13),(14,y14),(19,y19),(20,y20),(31,.sl 3 0 q none q 3),(32,.i (q:Int)),(33,.i (i:Int)),(55,y55),(56,y56),(34,.bool true)] [.arr 11 [.agg ps] true 0,.arr 1 gs true 0,.arr 3 os true 0,.arr 3 es true 0] :=
  RunsTo.hin 0 60 [⟨9,0,.bool true,[.arr 11 [.agg ps] true 0,.arr 1 gs true 0,.arr 3 os true 0,.arr 3 es true 0]⟩] fun kf hk=>⟨_,by kernel_rfl,(oB [.arr 11 [.agg ps] true 0,.arr 1 gs true 0,.arr 3 os true 0,.arr 3 es true 0] (decide_eq_true g0) .nil)⟩
theorem spn_g_1 (rw ps:List HV) (f:Nat) (n:Nat) (gs:List HV) (m:Nat) (os:List HV) (q:Nat) (es:List HV) (i:Nat) {y5 y8 y11 y12 y13 y14 y19 y20 y55 y56:HV}(g0:¬ ((i:Int) < (q:Int))):RunsTo Tp polSp 61 (sub [1,1,1,1,0,1,0,0,0] B61) (env61 (.imm .arg 1 rw) (.i (f:Int)) (.agg ps) y5 (.imm .lit 3 []) (.sl 1 0 n (some n) n 1) y8 (.sl 2 0 m none m 3) y11 y12 y13 y14 y19 y20 (.sl 3 0 q none q 3) (.i (q:Int)) (.i (i:Int)) y55 y56) [.arr 11 [.agg ps] true 0,.arr 1 gs true 0,.arr 3 os true 0,.arr 3 es true 0] .normal [0,1,2,5,6,7,8,9,11,12,13,14,19,20,31,32,33,55,56,34] [(0,.imm .arg 1 rw),(1,.i (f:Int)),(2,.agg ps),(5,y5),(6,.imm .lit 3 []),(7,.sl 1 0 n (some n) n 1),(8,y8),(9,.sl 2 0 m none m 3),(11,y11),(12,y12),(13,y13),(14,y14),(19,y19),(20,y20),(31,.sl 3 0 q none q 3),(32,.i (q:Int)),(33,.i (i:Int)),(55,y55),(56,y56),(34,.bool false)] [.arr 11 [.agg ps] true 0,.arr 1 gs true 0,.arr 3 os true 0,.arr 3 es true 0] :=
  RunsTo.hin 0 60 [⟨9,0,.bool false,[.arr 11 [.agg ps] true 0,.arr 1 gs true 0,.arr 3 os true 0,.arr 3 es true 0]⟩] fun kf hk=>⟨_,by kernel_rfl,(oB [.arr 11 [.agg ps] true 0,.arr 1 gs true 0,.arr 3 os true 0,.arr 3 es true 0] (decide_eq_false g0) .nil)⟩
theorem spn_ht_0 (rw ps:List HV) (f:Nat) (n:Nat) (gs:List HV) (m:Nat) (os:List HV) (q:Nat) (es:List HV) (i:Nat) {y5 y8 y11 y12 y13 y14 y19 y20 y55 y56:HV}:RT polSp 61 (sub [1,1,1,1,0,1,0,0,1,0] B61) [(0,.imm .arg 1 rw),(1,.i (f:Int)),(2,.agg ps),(5,y5),(6,.imm .lit 3 []),(7,.sl 1 0 n (some n) n 1),(8,y8),(9,.sl 2 0 m none m 3),(11,y11),(12,y12),(13,y13),(14,y14),(19,y19),(20,y20),(31,.sl 3 0 q none q 3),(32,.i (q:Int)),(33,.i (i:Int)),(55,y55),(56,y56),(34,.bool true)] [.arr 11 [.agg ps] true 0,.arr 1 gs true 0,.arr 3 os true 0,.arr 3 es true 0] .normal (env61 (.imm .arg 1 rw) (.i (f:Int)) (.agg ps) y5 (.imm .lit 3 []) (.sl 1 0 n (some n) n 1) y8 (.sl 2 0 m none m 3) y11 y12 y13 y14 y19 y20 (.sl 3 0 q none q 3) (.i (q:Int)) (.i (i:Int)) y55 y56) [.arr 11 [.agg ps] true 0,.arr 1 gs true 0,.arr 3 os true 0,.arr 3 es true 0] :=
  RunsTo.hin 0 60 [] fun kf hk=>⟨_,by kernel_rfl,.nil⟩
theorem spn_hf_0 (rw ps:List HV) (f:Nat) (n:Nat) (gs:List HV) (m:Nat) (os:List HV) (q:Nat) (es:List HV) (i:Nat) {y5 y8 y11 y12 y13 y14 y19 y20 y55 y56:HV}:RT polSp 61 (sub [1,1,1,1,0,1,0,0,1,0] B61) [(0,.imm .arg 1 rw),(1,.i (f:Int)),(2,.agg ps),(5,y5),(6,.imm .lit 3 []),(7,.sl 1 0 n (some n) n 1),(8,y8),(9,.sl 2 0 m none m 3),(11,y11),(12,y12),(13,y13),(14,y14),(19,y19),(20,y20),(31,.sl 3 0 q none q 3),(32,.i (q:Int)),(33,.i (i:Int)),(55,y55),(56,y56),(34,.bool false)] [.arr 11 [.agg ps] true 0,.arr 1 gs true 0,.arr 3 os true 0,.arr 3 es true 0] (.exit 2) (env61 (.imm .arg 1 rw) (.i (f:Int)) (.agg ps) y5 (.imm .lit 3 []) (.sl 1 0 n (some n) n 1) y8 (.sl 2 0 m none m 3) y11 y12 y13 y14 y19 y20 (.sl 3 0 q none q 3) (.i (q:Int)) (.i (i:Int)) y55 y56) [.arr 11 [.agg ps] true 0,.arr 1 gs true 0,.arr 3 os true 0,.arr 3 es true 0] :=
  RunsTo.hin 0 60 [] fun kf hk=>⟨_,by kernel_rfl,.nil⟩
theorem spn_i_0 (rw ps:List HV) (f:Nat) (n:Nat) (gs:List HV) (m:Nat) (os:List HV) (q:Nat) (es:List HV) (i:Nat) (ec:Int) (ea eb:Nat) {y5 y8 y11 y12 y13 y14 y19 y20 y55 y56:HV}(g0:idxV Tp 88 (.sl 3 0 q none q 3) (.i (i:Int))=some (.ptr 3 i 0 q)) (g1:loadV Tp [.arr 11 [.agg ps] true 0,.arr 1 gs true 0,.arr 3 os true 0,.arr 3 es true 0] 91 (.ptr 3 i 0 q)=some (.agg [.i ec,.i (ea:Int),.i (eb:Int)])):RT polSp 61 (sub [1,1,1,1,0,1,0,0,1,1,0,0,0] B61) (env61 (.imm .arg 1 rw) (.i (f:Int)) (.agg ps) y5 (.imm .lit 3 []) (.sl 1 0 n (some n) n 1) y8 (.sl 2 0 m none m 3) y11 y12 y13 y14 y19 y20 (.sl 3 0 q none q 3) (.i (q:Int)) (.i (i:Int)) y55 y56) [.arr 11 [.agg ps] true 0,.arr 1 gs true 0,.arr 3 os true 0,.arr 3 es true 0] .normal (env61 (.imm .arg 1 rw) (.i (f:Int)) (.agg ps) y5 (.imm .lit 3 []) (.sl 1 0 n (some n) n 1) y8 (.sl 2 0 m none m 3) (.ptr 4 0 0 1) y12 y13 y14 y19 y20 (.sl 3 0 q none q 3) (.i (q:Int)) (.i (i:Int)) y55 y56) [.arr 11 [.agg ps] true 0,.arr 1 gs true 0,.arr 3 os true 0,.arr 3 es true 0,.arr 3 [.agg [.i ec,.i (ea:Int),.i (eb:Int)]] true 0] :=
  RunsTo.hin 0 60 [⟨10,0,.ptr 3 i 0 q,[.arr 11 [.agg ps] true 0,.arr 1 gs true 0,.arr 3 os true 0,.arr 3 es true 0]⟩,⟨10,1,.agg [.i ec,.i (ea:Int),.i (eb:Int)],[.arr 11 [.agg ps] true 0,.arr 1 gs true 0,.arr 3 os true 0,.arr 3 es true 0]⟩] fun kf hk=>⟨_,by kernel_rfl,(oP [.arr 11 [.agg ps] true 0,.arr 1 gs true 0,.arr 3 os true 0,.arr 3 es true 0] g0 (oP [.arr 11 [.agg ps] true 0,.arr 1 gs true 0,.arr 3 os true 0,.arr 3 es true 0] g1 .nil))⟩
theorem spn_j_0 (rw ps:List HV) (f:Nat) (n:Nat) (gs:List HV) (m:Nat) (os:List HV) (q:Nat) (es:List HV) (i:Nat) (ec:Int) (ea eb:Nat) {y5 y8 y12 y13 y14 y19 y20 y55 y56:HV} {x0:Int} {x1:Int} (g0:idxV Tp 23 (.sl 1 0 n (some n) n 1) (.i (ea:Int))=some (.ptr 1 ea 0 n)) (g1:loadV Tp [.arr 11 [.agg ps] true 0,.arr 1 gs true 0,.arr 3 os true 0,.arr 3 es true 0,.arr 3 [.agg [.i ec,.i (ea:Int),.i (eb:Int)]] true 0] 3 (.ptr 1 ea 0 n)=some (.i x0)) (g2:idxV Tp 23 (.sl 1 0 n (some n) n 1) (.i (eb:Int))=some (.ptr 1 eb 0 n)) (g3:loadV Tp [.arr 11 [.agg ps] true 0,.arr 1 gs true 0,.arr 3 os true 0,.arr 3 es true 0,.arr 3 [.agg [.i ec,.i (ea:Int),.i (eb:Int)]] true 0] 3 (.ptr 1 eb 0 n)=some (.i x1)):RT polSp 61 (sub [1,1,1,1,0,1,0,0,1,1,0,0,1,0] B61) (env61 (.imm .arg 1 rw) (.i (f:Int)) (.agg ps) y5 (.imm .lit 3 []) (.sl 1 0 n (some n) n 1) y8 (.sl 2 0 m none m 3) (.ptr 4 0 0 1) y12 y13 y14 y19 y20 (.sl 3 0 q none q 3) (.i (q:Int)) (.i (i:Int)) y55 y56) [.arr 11 [.agg ps] true 0,.arr 1 gs true 0,.arr 3 os true 0,.arr 3 es true 0,.arr 3 [.agg [.i ec,.i (ea:Int),.i (eb:Int)]] true 0] .normal (env61 (.imm .arg 1 rw) (.i (f:Int)) (.agg ps) y5 (.imm .lit 3 []) (.sl 1 0 n (some n) n 1) y8 (.sl 2 0 m none m 3) (.ptr 4 0 0 1) (.i x0) (.i x1) y14 y19 y20 (.sl 3 0 q none q 3) (.i (q:Int)) (.i (i:Int)) y55 y56) [.arr 11 [.agg ps] true 0,.arr 1 gs true 0,.arr 3 os true 0,.arr 3 es true 0,.arr 3 [.agg [.i ec,.i (ea:Int),.i (eb:Int)]] true 0] :=
  RunsTo.hin 0 60 [⟨11,3,.ptr 1 ea 0 n,[.arr 11 [.agg ps] true 0,.arr 1 gs true 0,.arr 3 os true 0,.arr 3 es true 0,.arr 3 [.agg [.i ec,.i (ea:Int),.i (eb:Int)]] true 0]⟩,⟨11,4,.i x0,[.arr 11 [.agg ps] true 0,.arr 1 gs true 0,.arr 3 os true 0,.arr 3 es true 0,.arr 3 [.agg [.i ec,.i (ea:Int),.i (eb:Int)]] true 0]⟩,⟨11,8,.ptr 1 eb 0 n,[.arr 11 [.agg ps] true 0,.arr 1 gs true 0,.arr 3 os true 0,.arr 3 es true 0,.arr 3 [.agg [.i ec,.i (ea:Int),.i (eb:Int)]] true 0]⟩,⟨11,9,.i x1,[.arr 11 [.agg ps] true 0,.arr 1 gs true 0,.arr 3 os true 0,.arr 3 es true 0,.arr 3 [.agg [.i ec,.i (ea:Int),.i (eb:Int)]] true 0]⟩] fun kf hk=>⟨_,by kernel_rfl,(oP [.arr 11 [.agg ps] true 0,.arr 1 gs true 0,.arr 3 os true 0,.arr 3 es true 0,.arr 3 [.agg [.i ec,.i (ea:Int),.i (eb:Int)]] true 0] g0 (oP [.arr 11 [.agg ps] true 0,.arr 1 gs true 0,.arr 3 os true 0,.arr 3 es true 0,.arr 3 [.agg [.i ec,.i (ea:Int),.i (eb:Int)]] true 0] g1 (oP [.arr 11 [.agg ps] true 0,.arr 1 gs true 0,.arr 3 os true 0,.arr 3 es true 0,.arr 3 [.agg [.i ec,.i (ea:Int),.i (eb:Int)]] true 0] g2 (oP [.arr 11 [.agg ps] true 0,.arr 1 gs true 0,.arr 3 os true 0,.arr 3 es true 0,.arr 3 [.agg [.i ec,.i (ea:Int),.i (eb:Int)]] true 0] g3 .nil))))⟩
theorem spn_k_0 (rw ps:List HV) (f:Nat) (n:Nat) (gs:List HV) (m:Nat) (os:List HV) (q:Nat) (es:List HV) (i:Nat) (ec:Int) (ea eb:Nat) (o w:Int) {y5 y8 y14 y19 y20 y55 y56:HV}(g0:o=w):RT polSp 61 (sub [1,1,1,1,0,1,0,0,1,1,0,0,1,1,0] B61) (env61 (.imm .arg 1 rw) (.i (f:Int)) (.agg ps) y5 (.imm .lit 3 []) (.sl 1 0 n (some n) n 1) y8 (.sl 2 0 m none m 3) (.ptr 4 0 0 1) (.i o) (.i w) y14 y19 y20 (.sl 3 0 q none q 3) (.i (q:Int)) (.i (i:Int)) y55 y56) [.arr 11 [.agg ps] true 0,.arr 1 gs true 0,.arr 3 os true 0,.arr 3 es true 0,.arr 3 [.agg [.i ec,.i (ea:Int),.i (eb:Int)]] true 0] (.exit 3) (env61 (.imm .arg 1 rw) (.i (f:Int)) (.agg ps) y5 (.imm .lit 3 []) (.sl 1 0 n (some n) n 1) y8 (.sl 2 0 m none m 3) (.ptr 4 0 0 1) (.i o) (.i w) y14 y19 y20 (.sl 3 0 q none q 3) (.i (q:Int)) (.i (i:Int)) y55 y56) [.arr 11 [.agg ps] true 0,.arr 1 gs true 0,.arr 3 os true 0,.arr 3 es true 0,.arr 3 [.agg [.i ec,.i (ea:Int),.i (eb:Int)]] true 0] :=
  RunsTo.hin 0 60 [⟨12,2,.bool true,[.arr 11 [.agg ps] true 0,.arr 1 gs true 0,.arr 3 os true 0,.arr 3 es true 0,.arr 3 [.agg [.i ec,.i (ea:Int),.i (eb:Int)]] true 0]⟩] fun kf hk=>⟨_,by kernel_rfl,(oB [.arr 11 [.agg ps] true 0,.arr 1 gs true 0,.arr 3 os true 0,.arr 3 es true 0,.arr 3 [.agg [.i ec,.i (ea:Int),.i (eb:Int)]] true 0] (decide_eq_true g0) .nil)⟩
theorem spn_k_1 (rw ps:List HV) (f:Nat) (n:Nat) (gs:List HV) (m:Nat) (os:List HV) (q:Nat) (es:List HV) (i:Nat) (ec:Int) (ea eb:Nat) (o w:Int) {y5 y8 y14 y19 y20 y55 y56:HV}(g0:¬ (o=w)):RT polSp 61 (sub [1,1,1,1,0,1,0,0,1,1,0,0,1,1,0] B61) (env61 (.imm .arg 1 rw) (.i (f:Int)) (.agg ps) y5 (.imm .lit 3 []) (.sl 1 0 n (some n) n 1) y8 (.sl 2 0 m none m 3) (.ptr 4 0 0 1) (.i o) (.i w) y14 y19 y20 (.sl 3 0 q none q 3) (.i (q:Int)) (.i (i:Int)) y55 y56) [.arr 11 [.agg ps] true 0,.arr 1 gs true 0,.arr 3 os true 0,.arr 3 es true 0,.arr 3 [.agg [.i ec,.i (ea:Int),.i (eb:Int)]] true 0] .normal (env61 (.imm .arg 1 rw) (.i (f:Int)) (.agg ps) y5 (.imm .lit 3 []) (.sl 1 0 n (some n) n 1) y8 (.sl 2 0 m none m 3) (.ptr 4 0 0 1) (.i o) (.i w) y14 y19 y20 (.sl 3 0 q none q 3) (.i (q:Int)) (.i (i:Int)) y55 y56) [.arr 11 [.agg ps] true 0,.arr 1 gs true 0,.arr 3 os true 0,.arr 3 es true 0,.arr 3 [.agg [.i ec,.i (ea:Int),.i (eb:Int)]] true 0] :=
  RunsTo.hin 0 60 [⟨12,2,.bool false,[.arr 11 [.agg ps] true 0,.arr 1 gs true 0,.arr 3 os true 0,.arr 3 es true 0,.arr 3 [.agg [.i ec,.i (ea:Int),.i (eb:Int)]] true 0]⟩] fun kf hk=>⟨_,by kernel_rfl,(oB [.arr 11 [.agg ps] true 0,.arr 1 gs true 0,.arr 3 os true 0,.arr 3 es true 0,.arr 3 [.agg [.i ec,.i (ea:Int),.i (eb:Int)]] true 0] (decide_eq_false g0) .nil)⟩
theorem spn_l_0 (rw ps:List HV) (f:Nat) (n:Nat) (gs:List HV) (m:Nat) (os:List HV) (q:Nat) (es:List HV) (i:Nat) (ec:Int) (ea eb:Nat) (o w:Int) {y5 y8 y14 y19 y20 y55 y56:HV}(g0:appV [.arr 11 [.agg ps] true 0,.arr 1 gs true 0,.arr 3 os true 0,.arr 3 es true 0,.arr 3 [.agg [.i ec,.i (ea:Int),.i (eb:Int)]] true 0] 3 24 (.sl 2 0 m none m 3) [.agg [.i ec,.i (ea:Int),.i (eb:Int)]]=some (.sl 2 0 (m+1) none (m+1) 3,[.arr 11 [.agg ps] true 0,.arr 1 gs true 0,.arr 3 (os ++ [.agg [.i ec,.i (ea:Int),.i (eb:Int)]]) true 0,.arr 3 es true 0,.arr 3 [.agg [.i ec,.i (ea:Int),.i (eb:Int)]] true 0])):RT polSp 61 (sub [1,1,1,1,0,1,0,0,1,1,0,0,1,1,1,0] B61) (env61 (.imm .arg 1 rw) (.i (f:Int)) (.agg ps) y5 (.imm .lit 3 []) (.sl 1 0 n (some n) n 1) y8 (.sl 2 0 m none m 3) (.ptr 4 0 0 1) (.i o) (.i w) y14 y19 y20 (.sl 3 0 q none q 3) (.i (q:Int)) (.i (i:Int)) y55 y56) [.arr 11 [.agg ps] true 0,.arr 1 gs true 0,.arr 3 os true 0,.arr 3 es true 0,.arr 3 [.agg [.i ec,.i (ea:Int),.i (eb:Int)]] true 0] .normal (env61 (.imm .arg 1 rw) (.i (f:Int)) (.agg ps) y5 (.imm .lit 3 []) (.sl 1 0 n (some n) n 1) y8 (.sl 2 0 (m+1) none (m+1) 3) (.ptr 4 0 0 1) (.i o) (.i w) y14 y19 y20 (.sl 3 0 q none q 3) (.i (q:Int)) (.i (i:Int)) y55 y56) [.arr 11 [.agg ps] true 0,.arr 1 gs true 0,.arr 3 (os ++ [.agg [.i ec,.i (ea:Int),.i (eb:Int)]]) true 0,.arr 3 es true 0,.arr 3 [.agg [.i ec,.i (ea:Int),.i (eb:Int)]] true 0] :=
  RunsTo.hin 0 60 [⟨13,3,.sl 2 0 (m+1) none (m+1) 3,[.arr 11 [.agg ps] true 0,.arr 1 gs true 0,.arr 3 (os ++ [.agg [.i ec,.i (ea:Int),.i (eb:Int)]]) true 0,.arr 3 es true 0,.arr 3 [.agg [.i ec,.i (ea:Int),.i (eb:Int)]] true 0]⟩] fun kf hk=>⟨_,by kernel_rfl,(oC (g0) .nil)⟩
theorem spn_m_0 (rw ps:List HV) (f:Nat) (n:Nat) (gs:List HV) (m:Nat) (os:List HV) (q:Nat) (es:List HV) (i:Nat) (ec:Int) (ea eb:Nat) {y5 y8 y12 y13 y14 y19 y20 y55 y56:HV}:RT polSp 61 (sub [1,1,1,1,0,1,0,0,1,1,0,0,1,1,1,1,0] B61) (env61 (.imm .arg 1 rw) (.i (f:Int)) (.agg ps) y5 (.imm .lit 3 []) (.sl 1 0 n (some n) n 1) y8 (.sl 2 0 m none m 3) (.ptr 4 0 0 1) y12 y13 y14 y19 y20 (.sl 3 0 q none q 3) (.i (q:Int)) (.i (i:Int)) y55 y56) [.arr 11 [.agg ps] true 0,.arr 1 gs true 0,.arr 3 os true 0,.arr 3 es true 0,.arr 3 [.agg [.i ec,.i (ea:Int),.i (eb:Int)]] true 0] .normal (env61 (.imm .arg 1 rw) (.i (f:Int)) (.agg ps) y5 (.imm .lit 3 []) (.sl 1 0 n (some n) n 1) y8 (.sl 2 0 m none m 3) (.ptr 4 0 0 1) y12 y13 y14 y19 y20 (.sl 3 0 q none q 3) (.i (q:Int)) (.i (i:Int)) (.i (n:Int)) (.i 0)) [.arr 11 [.agg ps] true 0,.arr 1 gs true 0,.arr 3 os true 0,.arr 3 es true 0,.arr 3 [.agg [.i ec,.i (ea:Int),.i (eb:Int)]] true 0] :=
  RunsTo.hin 0 60 [] fun kf hk=>⟨_,by kernel_rfl,.nil⟩
theorem spn_n_0 (rw ps:List HV) (f:Nat) (n:Nat) (gs:List HV) (m:Nat) (os:List HV) (q:Nat) (es:List HV) (i:Nat) (ec:Int) (ea eb:Nat) (o w:Int) (j:Nat) {y5 y8 y11 y14 y19 y20:HV} {x0:Int} {el0:List HV} (g0:(j:Int) < (n:Int)) (g1:idxV Tp 23 (.sl 1 0 n (some n) n 1) (.i (j:Int))=some (.ptr 1 j 0 n)) (g2:loadV Tp [.arr 11 [.agg ps] true 0,.arr 1 gs true 0,.arr 3 os true 0,.arr 3 es true 0,.arr 3 [.agg [.i ec,.i (ea:Int),.i (eb:Int)]] true 0] 3 (.ptr 1 j 0 n)=some (.i x0)) (g3:x0=o) (g4:idxV Tp 23 (.sl 1 0 n (some n) n 1) (.i (j:Int))=some (.ptr 1 j 0 n)) (g5:storeV Tp [.arr 11 [.agg ps] true 0,.arr 1 gs true 0,.arr 3 os true 0,.arr 3 es true 0,.arr 3 [.agg [.i ec,.i (ea:Int),.i (eb:Int)]] true 0] 3 (.ptr 1 j 0 n) (.i w)=some [.arr 11 [.agg ps] true 0,.arr 1 el0 true 0,.arr 3 os true 0,.arr 3 es true 0,.arr 3 [.agg [.i ec,.i (ea:Int),.i (eb:Int)]] true 0]):RT polSp 61 (sub [1,1,1,1,0,1,0,0,1,1,0,0,1,1,1,1,1,0,0] B61) (env61 (.imm .arg 1 rw) (.i (f:Int)) (.agg ps) y5 (.imm .lit 3 []) (.sl 1 0 n (some n) n 1) y8 (.sl 2 0 m none m 3) y11 (.i o) (.i w) y14 y19 y20 (.sl 3 0 q none q 3) (.i (q:Int)) (.i (i:Int)) (.i (n:Int)) (.i (j:Int))) [.arr 11 [.agg ps] true 0,.arr 1 gs true 0,.arr 3 os true 0,.arr 3 es true 0,.arr 3 [.agg [.i ec,.i (ea:Int),.i (eb:Int)]] true 0] .normal (env61 (.imm .arg 1 rw) (.i (f:Int)) (.agg ps) y5 (.imm .lit 3 []) (.sl 1 0 n (some n) n 1) y8 (.sl 2 0 m none m 3) y11 (.i o) (.i w) (.i (j:Int)) y19 y20 (.sl 3 0 q none q 3) (.i (q:Int)) (.i (i:Int)) (.i (n:Int)) (.i (IntKind.i64.wrap ((j:Int)+1)))) [.arr 11 [.agg ps] true 0,.arr 1 el0 true 0,.arr 3 os true 0,.arr 3 es true 0,.arr 3 [.agg [.i ec,.i (ea:Int),.i (eb:Int)]] true 0] :=
  RunsTo.hin 0 60 [⟨15,0,.bool true,[.arr 11 [.agg ps] true 0,.arr 1 gs true 0,.arr 3 os true 0,.arr 3 es true 0,.arr 3 [.agg [.i ec,.i (ea:Int),.i (eb:Int)]] true 0]⟩,⟨17,2,.ptr 1 j 0 n,[.arr 11 [.agg ps] true 0,.arr 1 gs true 0,.arr 3 os true 0,.arr 3 es true 0,.arr 3 [.agg [.i ec,.i (ea:Int),.i (eb:Int)]] true 0]⟩,⟨17,3,.i x0,[.arr 11 [.agg ps] true 0,.arr 1 gs true 0,.arr 3 os true 0,.arr 3 es true 0,.arr 3 [.agg [.i ec,.i (ea:Int),.i (eb:Int)]] true 0]⟩,⟨17,5,.bool true,[.arr 11 [.agg ps] true 0,.arr 1 gs true 0,.arr 3 os true 0,.arr 3 es true 0,.arr 3 [.agg [.i ec,.i (ea:Int),.i (eb:Int)]] true 0]⟩,⟨18,3,.ptr 1 j 0 n,[.arr 11 [.agg ps] true 0,.arr 1 gs true 0,.arr 3 os true 0,.arr 3 es true 0,.arr 3 [.agg [.i ec,.i (ea:Int),.i (eb:Int)]] true 0]⟩,⟨18,4,.tuple [],[.arr 11 [.agg ps] true 0,.arr 1 el0 true 0,.arr 3 os true 0,.arr 3 es true 0,.arr 3 [.agg [.i ec,.i (ea:Int),.i (eb:Int)]] true 0]⟩] fun kf hk=>⟨_,by kernel_rfl,(oB [.arr 11 [.agg ps] true 0,.arr 1 gs true 0,.arr 3 os true 0,.arr 3 es true 0,.arr 3 [.agg [.i ec,.i (ea:Int),.i (eb:Int)]] true 0] (decide_eq_true g0) (oP [.arr 11 [.agg ps] true 0,.arr 1 gs true 0,.arr 3 os true 0,.arr 3 es true 0,.arr 3 [.agg [.i ec,.i (ea:Int),.i (eb:Int)]] true 0] g1 (oP [.arr 11 [.agg ps] true 0,.arr 1 gs true 0,.arr 3 os true 0,.arr 3 es true 0,.arr 3 [.agg [.i ec,.i (ea:Int),.i (eb:Int)]] true 0] g2 (oB [.arr 11 [.agg ps] true 0,.arr 1 gs true 0,.arr 3 os true 0,.arr 3 es true 0,.arr 3 [.agg [.i ec,.i (ea:Int),.i (eb:Int)]] true 0] (decide_eq_true g3) (oP [.arr 11 [.agg ps] true 0,.arr 1 gs true 0,.arr 3 os true 0,.arr 3 es true 0,.arr 3 [.agg [.i ec,.i (ea:Int),.i (eb:Int)]] true 0] g4 (oS g5 .nil))))))⟩
theorem spn_n_1 (rw ps:List HV) (f:Nat) (n:Nat) (gs:List HV) (m:Nat) (os:List HV) (q:Nat) (es:List HV) (i:Nat) (ec:Int) (ea eb:Nat) (o w:Int) (j:Nat) {y5 y8 y11 y14 y19 y20:HV} {x0:Int} (g0:(j:Int) < (n:Int)) (g1:idxV Tp 23 (.sl 1 0 n (some n) n 1) (.i (j:Int))=some (.ptr 1 j 0 n)) (g2:loadV Tp [.arr 11 [.agg ps] true 0,.arr 1 gs true 0,.arr 3 os true 0,.arr 3 es true 0,.arr 3 [.agg [.i ec,.i (ea:Int),.i (eb:Int)]] true 0] 3 (.ptr 1 j 0 n)=some (.i x0)) (g3:¬ (x0=o)):RT polSp 61 (sub [1,1,1,1,0,1,0,0,1,1,0,0,1,1,1,1,1,0,0] B61) (env61 (.imm .arg 1 rw) (.i (f:Int)) (.agg ps) y5 (.imm .lit 3 []) (.sl 1 0 n (some n) n 1) y8 (.sl 2 0 m none m 3) y11 (.i o) (.i w) y14 y19 y20 (.sl 3 0 q none q 3) (.i (q:Int)) (.i (i:Int)) (.i (n:Int)) (.i (j:Int))) [.arr 11 [.agg ps] true 0,.arr 1 gs true 0,.arr 3 os true 0,.arr 3 es true 0,.arr 3 [.agg [.i ec,.i (ea:Int),.i (eb:Int)]] true 0] .normal (env61 (.imm .arg 1 rw) (.i (f:Int)) (.agg ps) y5 (.imm .lit 3 []) (.sl 1 0 n (some n) n 1) y8 (.sl 2 0 m none m 3) y11 (.i o) (.i w) (.i (j:Int)) y19 y20 (.sl 3 0 q none q 3) (.i (q:Int)) (.i (i:Int)) (.i (n:Int)) (.i (IntKind.i64.wrap ((j:Int)+1)))) [.arr 11 [.agg ps] true 0,.arr 1 gs true 0,.arr 3 os true 0,.arr 3 es true 0,.arr 3 [.agg [.i ec,.i (ea:Int),.i (eb:Int)]] true 0] :=
  RunsTo.hin 0 60 [⟨15,0,.bool true,[.arr 11 [.agg ps] true 0,.arr 1 gs true 0,.arr 3 os true 0,.arr 3 es true 0,.arr 3 [.agg [.i ec,.i (ea:Int),.i (eb:Int)]] true 0]⟩,⟨17,2,.ptr 1 j 0 n,[.arr 11 [.agg ps] true 0,.arr 1 gs true 0,.arr 3 os true 0,.arr 3 es true 0,.arr 3 [.agg [.i ec,.i (ea:Int),.i (eb:Int)]] true 0]⟩,⟨17,3,.i x0,[.arr 11 [.agg ps] true 0,.arr 1 gs true 0,.arr 3 os true 0,.arr 3 es true 0,.arr 3 [.agg [.i ec,.i (ea:Int),.i (eb:Int)]] true 0]⟩,⟨17,5,.bool false,[.arr 11 [.agg ps] true 0,.arr 1 gs true 0,.arr 3 os true 0,.arr 3 es true 0,.arr 3 [.agg [.i ec,.i (ea:Int),.i (eb:Int)]] true 0]⟩] fun kf hk=>⟨_,by kernel_rfl,(oB [.arr 11 [.agg ps] true 0,.arr 1 gs true 0,.arr 3 os true 0,.arr 3 es true 0,.arr 3 [.agg [.i ec,.i (ea:Int),.i (eb:Int)]] true 0] (decide_eq_true g0) (oP [.arr 11 [.agg ps] true 0,.arr 1 gs true 0,.arr 3 os true 0,.arr 3 es true 0,.arr 3 [.agg [.i ec,.i (ea:Int),.i (eb:Int)]] true 0] g1 (oP [.arr 11 [.agg ps] true 0,.arr 1 gs true 0,.arr 3 os true 0,.arr 3 es true 0,.arr 3 [.agg [.i ec,.i (ea:Int),.i (eb:Int)]] true 0] g2 (oB [.arr 11 [.agg ps] true 0,.arr 1 gs true 0,.arr 3 os true 0,.arr 3 es true 0,.arr 3 [.agg [.i ec,.i (ea:Int),.i (eb:Int)]] true 0] (decide_eq_false g3) .nil))))⟩
theorem spn_n_2 (rw ps:List HV) (f:Nat) (n:Nat) (gs:List HV) (m:Nat) (os:List HV) (q:Nat) (es:List HV) (i:Nat) (ec:Int) (ea eb:Nat) (o w:Int) (j:Nat) {y5 y8 y11 y14 y19 y20:HV}(g0:¬ ((j:Int) < (n:Int))):RT polSp 61 (sub [1,1,1,1,0,1,0,0,1,1,0,0,1,1,1,1,1,0,0] B61) (env61 (.imm .arg 1 rw) (.i (f:Int)) (.agg ps) y5 (.imm .lit 3 []) (.sl 1 0 n (some n) n 1) y8 (.sl 2 0 m none m 3) y11 (.i o) (.i w) y14 y19 y20 (.sl 3 0 q none q 3) (.i (q:Int)) (.i (i:Int)) (.i (n:Int)) (.i (j:Int))) [.arr 11 [.agg ps] true 0,.arr 1 gs true 0,.arr 3 os true 0,.arr 3 es true 0,.arr 3 [.agg [.i ec,.i (ea:Int),.i (eb:Int)]] true 0] (.exit 4) (env61 (.imm .arg 1 rw) (.i (f:Int)) (.agg ps) y5 (.imm .lit 3 []) (.sl 1 0 n (some n) n 1) y8 (.sl 2 0 m none m 3) y11 (.i o) (.i w) y14 y19 y20 (.sl 3 0 q none q 3) (.i (q:Int)) (.i (i:Int)) (.i (n:Int)) (.i (j:Int))) [.arr 11 [.agg ps] true 0,.arr 1 gs true 0,.arr 3 os true 0,.arr 3 es true 0,.arr 3 [.agg [.i ec,.i (ea:Int),.i (eb:Int)]] true 0] :=
  RunsTo.hin 0 60 [⟨15,0,.bool false,[.arr 11 [.agg ps] true 0,.arr 1 gs true 0,.arr 3 os true 0,.arr 3 es true 0,.arr 3 [.agg [.i ec,.i (ea:Int),.i (eb:Int)]] true 0]⟩] fun kf hk=>⟨_,by kernel_rfl,(oB [.arr 11 [.agg ps] true 0,.arr 1 gs true 0,.arr 3 os true 0,.arr 3 es true 0,.arr 3 [.agg [.i ec,.i (ea:Int),.i (eb:Int)]] true 0] (decide_eq_false g0) .nil)⟩
theorem spn_o_0 (rw ps:List HV) (f:Nat) (n:Nat) (gs:List HV) (m:Nat) (os:List HV) (q:Nat) (es:List HV) (i:Nat) (ec:Int) (ea eb:Nat) {y5 y8 y11 y12 y13 y14 y19 y20 y55 y56:HV}:RT polSp 61 (sub [1,1,1,1,0,1,0,0,1,1,1] B61) (env61 (.imm .arg 1 rw) (.i (f:Int)) (.agg ps) y5 (.imm .lit 3 []) (.sl 1 0 n (some n) n 1) y8 (.sl 2 0 m none m 3) y11 y12 y13 y14 y19 y20 (.sl 3 0 q none q 3) (.i (q:Int)) (.i (i:Int)) y55 y56) [.arr 11 [.agg ps] true 0,.arr 1 gs true 0,.arr 3 os true 0,.arr 3 es true 0,.arr 3 [.agg [.i ec,.i (ea:Int),.i (eb:Int)]] true 0] .normal (env61 (.imm .arg 1 rw) (.i (f:Int)) (.agg ps) y5 (.imm .lit 3 []) (.sl 1 0 n (some n) n 1) y8 (.sl 2 0 m none m 3) y11 y12 y13 y14 y19 y20 (.sl 3 0 q none q 3) (.i (q:Int)) (.i (IntKind.i64.wrap ((i:Int)+1))) y55 y56) [.arr 11 [.agg ps] true 0,.arr 1 gs true 0,.arr 3 os true 0,.arr 3 es true 0,.arr 3 [.agg [.i ec,.i (ea:Int),.i (eb:Int)]] true 0] :=
  RunsTo.hin 0 60 [] fun kf hk=>⟨_,by kernel_rfl,.nil⟩
theorem spn_p_0 (rw ps:List HV) (f:Nat) (n:Nat) (gs:List HV) (m:Nat) (os:List HV) (q:Nat) (es:List HV) {y5 y7 y8 y11 y12 y13 y14 y19 y20 y31 y32 y33 y55 y56:HV}:RT polSp 61 (sub [1,1,1,1,1] B61) (env61 (.imm .arg 1 rw) (.i (f:Int)) (.agg ps) y5 (.imm .lit 3 []) y7 y8 (.sl 2 0 m none m 3) y11 y12 y13 y14 y19 y20 y31 y32 y33 y55 y56) [.arr 11 [.agg ps] true 0,.arr 1 gs true 0,.arr 3 os true 0,.arr 3 es true 0] .ret (env61 (.imm .arg 1 rw) (.i (f:Int)) (.agg ps) y5 (.sl 2 0 m none m 3) y7 y8 (.sl 2 0 m none m 3) y11 y12 y13 y14 y19 y20 y31 y32 y33 y55 y56) [.arr 11 [.agg ps] true 0,.arr 1 gs true 0,.arr 3 os true 0,.arr 3 es true 0] :=
  RunsTo.hin 0 60 [] fun kf hk=>⟨_,by kernel_rfl,.nil⟩
end Go.Proofs.Ytlendaofkmhgmaa
end
section
open Go Go.HL Go.HL.So
namespace Go.Proofs.Ytlendaofkmhgmaa
open Go.Proofs.Try renaming prog → Tp
open Go.HL.HV renaming undef → Ud
theorem res61:Try.f61.results.toList=[.tmp 6]:=by kernel_rfl
theorem ixg {n b k:Nat} {cap:Option Nat} (hk:k < n):idxV Tp 23 (.sl b 0 n cap n 1) (.int .i64 (k:Int))=some (.ptr b k 0 n):=by
  have:=idx_sl (P:=Tp) (t:=23) (b:=b) (len:=n) (tot:=n) (cap:=cap) (ik:=.i64) (n:=(k:Int)) u23 z3 (by omega) (by omega)
  rwa [Int.toNat_natCast] at this
theorem ixe {n b k:Nat} {cap:Option Nat} (hk:k < n):idxV Tp 88 (.sl b 0 n cap n 3) (.int .i64 (k:Int))=some (.ptr b k 0 n):=ixs (db:=b) (n:=n) (cap:=cap) rfl hk
theorem ldg {H:Heap} {b k n:Nat} {g:List Int} (hb:H[b]?=some (bI g)) (hn:g.length=n) (hk:k < n):loadV Tp H 3 (.ptr b k 0 n)=some (.int .i64 (g.getD k 0)):=by
  subst hn; exact load_out hb hk
theorem stg {H:Heap} {b k n:Nat} {g:List Int} (hb:H[b]?=some (bI g)) (hn:g.length=n) (hk:k < n) (v:Int):storeV Tp H 3 (.ptr b k 0 n) (.int .i64 v)=some (H.set b (bI (g.set k v))):=by
  subst hn; exact store_out hb hk v
theorem lde {H:Heap} {b k n:Nat} {l:List Ed} (hb:H[b]?=some (bE encE l)) (hn:l.length=n) (hk:k < n):loadV Tp H 91 (.ptr b k 0 n)=some (encE (at_ l k)) :=
  load_agg (b:=b) hb (by simpa using hn.symm) (by rw [List.getElem?_map,List.getElem?_eq_getElem (by omega)]; simp [at_,List.getD,List.getElem?_eq_getElem (show k < l.length by omega),encE]) a91 s91
section
variable {d:List (List Int)} {ps:List Int} {f:Nat}
abbrev spH (ps g:List Int) (os es:List Ed):Heap:=[pB ps,bI g,bE encE os,bE encE es]
abbrev spX (ps g:List Int) (os es:List Ed) (e:Ed):Heap:=[pB ps,bI g,bE encE os,bE encE es,.arr 3 [encE e] true 0]
abbrev mkQ (c:Int) (a b:Nat):Ed:=(c,(a:Int),(b:Int))
theorem sp_in (hd:okD d) {i ea eb:Nat} {ec o w:Int} {os es:List Ed}:∀ k j (g:List Int),g.length=d.length → j+k=d.length →
    ∃ y14,RT polSp 61 (sub [1,1,1,1,0,1,0,0,1,1,0,0,1,1,1,1,1,0] B61) (env61 (.imm .arg 1 (d.map encR)) (.int .i64 (f:Int)) (.agg (ps.map encI)) Ud (.imm .lit 3 []) (.sl 1 0 d.length (some d.length) d.length 1) Ud (.sl 2 0 os.length none os.length 3) Ud (.int .i64 o) (.int .i64 w) Ud Ud Ud (.sl 3 0 es.length none es.length 3) (.int .i64 (es.length:Int)) (.int .i64 (i:Int)) (.int .i64 (d.length:Int)) (.int .i64 (j:Int))) (spX ps g os es (mkQ ec ea eb)) (.exit 4)
      (env61 (.imm .arg 1 (d.map encR)) (.int .i64 (f:Int)) (.agg (ps.map encI)) Ud (.imm .lit 3 []) (.sl 1 0 d.length (some d.length) d.length 1) Ud (.sl 2 0 os.length none os.length 3) Ud (.int .i64 o) (.int .i64 w) y14 Ud Ud (.sl 3 0 es.length none es.length 3) (.int .i64 (es.length:Int)) (.int .i64 (i:Int)) (.int .i64 (d.length:Int)) (.int .i64 (d.length:Int))) (spX ps (rlb o w k j g) os es (mkQ ec ea eb)):=by
  have hn:=hd.1
  intro k
  induction k with
  | zero =>
    intro j g hg hj
    have:j=d.length:=by omega
    subst this
    exact ⟨_,lpo (spn_n_2 (d.map encR) (ps.map encI) f d.length (g.map encI) os.length (os.map encE) es.length (es.map encE) i ec ea eb o w d.length (by omega))⟩
  | succ k ih =>
    intro j g hg hj
    by_cases c:g.getD j 0=o
    · have s:=spn_n_0 (d.map encR) (ps.map encI) f d.length (g.map encI) os.length (os.map encE) es.length (es.map encE) i ec ea eb o w j (y5:=Ud) (y8:=Ud) (y11:=Ud) (y14:=Ud) (y19:=Ud) (y20:=Ud) (by omega) (ixg (by omega)) (ldg (H:=spX ps g os es (mkQ ec ea eb)) (g:=g) rfl hg (by omega)) c (ixg (by omega)) (stg (H:=spX ps g os es (mkQ ec ea eb)) (b:=1) (k:=j) rfl hg (by omega) w)
      rw [wrap_succ (by omega)] at s
      obtain ⟨y14,r⟩:=ih (j+1) (g.set j w) (by simpa using hg) (by omega)
      rw [rlb,if_pos c]
      exact ⟨y14,lop (s) (gc_eq _ rfl) (r)⟩
    · have s:=spn_n_1 (d.map encR) (ps.map encI) f d.length (g.map encI) os.length (os.map encE) es.length (es.map encE) i ec ea eb o w j (y5:=Ud) (y8:=Ud) (y11:=Ud) (y14:=Ud) (y19:=Ud) (y20:=Ud) (by omega) (ixg (by omega)) (ldg (H:=spX ps g os es (mkQ ec ea eb)) (g:=g) rfl hg (by omega)) c
      rw [wrap_succ (by omega)] at s
      obtain ⟨y14,r⟩:=ih (j+1) g hg (by omega)
      rw [rlb,if_neg c]
      exact ⟨y14,lop (s) (gc_eq _ rfl) (r)⟩
theorem gcX {ps g g2:List Int} {os os2 es:List Ed} {e:Ed} {r:Nat} (hr:r ≤ 4):gc (spH ps g os es).length r (spX ps g2 os2 es e)=spH ps g2 os2 es:=by
  unfold gc
  have:max (spH ps g os es).length (max r (mxs (spX ps g2 os2 es e)))=4:=by
    have h1:mxs (spX ps g2 os2 es e)=0:=by simp [mxs,Blk.mx,bE]
    rw [h1]; show max 4 (max r 0)=4; omega
  rw [this]; rfl
theorem app_Em {H:Heap} {b:Nat} {o:List Ed} (hb:H[b]?=some (bE encE o)) (hl:o.length ≤ 1000) (e:Ed) :
    appV H 3 24 (.sl b 0 o.length none o.length 3) [encE e]=some (.sl b 0 (o.length+1) none (o.length+1) 3,H.set b (.arr 3 (o.map encE ++ [encE e]) true 0)):=by
  have:=app_sl (H:=H) (k:=3) (bytes:=24) (b:=b) (n:=o.length) (mx:=0) (els:=o.map encE) (xs:=[encE e]) hb (by simp) (by simp) (by simp only [roomMax,List.length_singleton]; omega) (encE_bnd [e])
  rw [this]; rfl
abbrev spO (d:List (List Int)) (ps:List Int) (f m q:Nat) (v33:HV):Env:=(env61 (.imm .arg 1 (d.map encR)) (.int .i64 (f:Int)) (.agg (ps.map encI)) Ud (.imm .lit 3 []) (.sl 1 0 d.length (some d.length) d.length 1) Ud (.sl 2 0 m none m 3) Ud Ud Ud Ud Ud Ud (.sl 3 0 q none q 3) (.int .i64 (q:Int)) v33 Ud Ud)
theorem hgc {g2:List Int} {es:List Ed} {e:Ed} (g:List Int) (os os2:List Ed) (m i:Nat):gc (spH ps g os es).length (bndE (spO d ps f m es.length (.int .i64 (i:Int)))) (spX ps g2 os2 es e)=spH ps g2 os2 es:=gcX (by simp [bndE,bnd,bndL,ints_bnd])
theorem sp_out (hd:okD d) {es:List Ed} (he:EIn d.length es) (hq:es.length ≤ 500):∀ k i (os:List Ed) (g:List Int),i+k=es.length → g.length=d.length → os.length+k ≤ 500 →
    ∃ g' E,RT polSp 61 (sub [1,1,1,1,0,1,0] B61) (spO d ps f os.length es.length (.int .i64 (i:Int))) (spH ps g os es) (.exit 2) E (spH ps g' (os ++ krP (es.drop i) g) es) ∧
      ∃ y5 y8 y11 y12 y13 y14 y19 y20 y33 y55 y56,E=(env61 (.imm .arg 1 (d.map encR)) (.int .i64 (f:Int)) (.agg (ps.map encI)) y5 (.imm .lit 3 []) (.sl 1 0 d.length (some d.length) d.length 1) y8 (.sl 2 0 (os ++ krP (es.drop i) g).length none (os ++ krP (es.drop i) g).length 3) y11 y12 y13 y14 y19 y20 (.sl 3 0 es.length none es.length 3) (.int .i64 (es.length:Int)) y33 y55 y56):=by
  have hn:=hd.1
  intro k
  induction k with
  | zero =>
    intro i os g hi hg ho
    have:i=es.length:=by omega
    subst this
    rw [List.drop_length,krP,List.append_nil]
    have s:=spn_g_1 (d.map encR) (ps.map encI) f d.length (g.map encI) os.length (os.map encE) es.length (es.map encE) es.length (y5:=Ud) (y8:=Ud) (y11:=Ud) (y12:=Ud) (y13:=Ud) (y14:=Ud) (y19:=Ud) (y20:=Ud) (y55:=Ud) (y56:=Ud) (by omega)
    have s2:=spn_hf_0 (d.map encR) (ps.map encI) f d.length (g.map encI) os.length (os.map encE) es.length (es.map encE) es.length (y5:=Ud) (y8:=Ud) (y11:=Ud) (y12:=Ud) (y13:=Ud) (y14:=Ud) (y19:=Ud) (y20:=Ud) (y55:=Ud) (y56:=Ud)
    exact ⟨g,_,lpo (sq (s) (sqo (s2) (c:=sub [1,1,1,1,0,1,0,0,1] B61) (b:=sub [1,1,1,1,0,1,0,0,1,1] B61)) (c:=sub [1,1,1,1,0,1,0,0] B61)),_,_,_,_,_,_,_,_,_,_,_,rfl⟩
  | succ k ih =>
    intro i os g hi hg ho
    have hdrop:es.drop i=at_ es i :: es.drop (i+1):=by
      rw [List.drop_eq_getElem_cons (by omega)]
      simp [at_,List.getD,List.getElem?_eq_getElem (show i < es.length by omega)]
    have hmem:at_ es i ∈ es:=by
      have:at_ es i=es[i]:=by simp [at_,List.getD,List.getElem?_eq_getElem (show i < es.length by omega)]
      rw [this]; exact List.getElem_mem _
    obtain ⟨ec,ea,eb,hae,ha,hb⟩:∃ (ec:Int) (ea eb:Nat),at_ es i=mkQ ec ea eb∧ea < d.length∧eb < d.length:=by
      obtain ⟨⟨h1,h2⟩,h3,h4⟩:=he _ hmem
      refine ⟨(at_ es i).1,(at_ es i).2.1.toNat,(at_ es i).2.2.toNat,?_,h2,h4⟩
      show at_ es i=((at_ es i).1,_,_)
      rw [Int.toNat_of_nonneg h1,Int.toNat_of_nonneg h3]
    rw [hdrop,hae,krP]
    simp only [Int.toNat_natCast]
    have s:=spn_g_0 (d.map encR) (ps.map encI) f d.length (g.map encI) os.length (os.map encE) es.length (es.map encE) i (y5:=Ud) (y8:=Ud) (y11:=Ud) (y12:=Ud) (y13:=Ud) (y14:=Ud) (y19:=Ud) (y20:=Ud) (y55:=Ud) (y56:=Ud) (by omega)
    have s2:=spn_ht_0 (d.map encR) (ps.map encI) f d.length (g.map encI) os.length (os.map encE) es.length (es.map encE) i (y5:=Ud) (y8:=Ud) (y11:=Ud) (y12:=Ud) (y13:=Ud) (y14:=Ud) (y19:=Ud) (y20:=Ud) (y55:=Ud) (y56:=Ud)
    have hl:=lde (H:=spH ps g os es) (b:=3) (k:=i) (l:=es) rfl rfl (by omega)
    rw [hae] at hl
    have s3:=spn_i_0 (d.map encR) (ps.map encI) f d.length (g.map encI) os.length (os.map encE) es.length (es.map encE) i ec ea eb (y5:=Ud) (y8:=Ud) (y11:=Ud) (y12:=Ud) (y13:=Ud) (y14:=Ud) (y19:=Ud) (y20:=Ud) (y55:=Ud) (y56:=Ud) (ixe (by omega)) hl
    have s4:=spn_j_0 (d.map encR) (ps.map encI) f d.length (g.map encI) os.length (os.map encE) es.length (es.map encE) i ec ea eb (y5:=Ud) (y8:=Ud) (y12:=Ud) (y13:=Ud) (y14:=Ud) (y19:=Ud) (y20:=Ud) (y55:=Ud) (y56:=Ud) (ixg ha) (ldg (H:=spX ps g os es (mkQ ec ea eb)) (g:=g) rfl hg ha) (ixg hb) (ldg (H:=spX ps g os es (mkQ ec ea eb)) (g:=g) rfl hg hb)
    by_cases c:g.getD ea 0=g.getD eb 0
    · rw [if_pos c]
      have s5:=spn_k_0 (d.map encR) (ps.map encI) f d.length (g.map encI) os.length (os.map encE) es.length (es.map encE) i ec ea eb (g.getD ea 0) (g.getD eb 0) (y5:=Ud) (y8:=Ud) (y14:=Ud) (y19:=Ud) (y20:=Ud) (y55:=Ud) (y56:=Ud) c
      have s6:=spn_o_0 (d.map encR) (ps.map encI) f d.length (g.map encI) os.length (os.map encE) es.length (es.map encE) i ec ea eb (y5:=Ud) (y8:=Ud) (y14:=Ud) (y19:=Ud) (y20:=Ud) (y55:=Ud) (y56:=Ud) (y11:=.ptr 4 0 0 1) (y12:=.int .i64 (g.getD ea 0)) (y13:=.int .i64 (g.getD eb 0))
      rw [wrap_succ (by omega)] at s6
      have st:=sq (s) (sq (s2) (sq (bke (c:=sub [1,1,1,1,0,1,0,0,1,1,0] B61) (sq (s3) (sq (s4) (sqo (s5) (c:=sub [1,1,1,1,0,1,0,0,1,1,0,0,1,1] B61) (b:=sub [1,1,1,1,0,1,0,0,1,1,0,0,1,1,1] B61)) (c:=sub [1,1,1,1,0,1,0,0,1,1,0,0,1] B61)) (c:=sub [1,1,1,1,0,1,0,0,1,1,0,0] B61))) (s6) (c:=sub [1,1,1,1,0,1,0,0,1,1] B61)) (c:=sub [1,1,1,1,0,1,0,0,1] B61)) (c:=sub [1,1,1,1,0,1,0,0] B61)
      obtain ⟨g',E,r,q⟩:=ih (i+1) os g (by omega) hg (by omega)
      exact ⟨g',E,lop (st) (hgc (ps:=ps) (d:=d) (f:=f) (es:=es) (g2:=g) (e:=mkQ ec ea eb) g os os os.length (i+1)) (r),q⟩
    · rw [if_neg c]
      have s5:=spn_k_1 (d.map encR) (ps.map encI) f d.length (g.map encI) os.length (os.map encE) es.length (es.map encE) i ec ea eb (g.getD ea 0) (g.getD eb 0) (y5:=Ud) (y8:=Ud) (y14:=Ud) (y19:=Ud) (y20:=Ud) (y55:=Ud) (y56:=Ud) c
      have s7:=spn_l_0 (d.map encR) (ps.map encI) f d.length (g.map encI) os.length (os.map encE) es.length (es.map encE) i ec ea eb (g.getD ea 0) (g.getD eb 0) (y5:=Ud) (y8:=Ud) (y14:=Ud) (y19:=Ud) (y20:=Ud) (y55:=Ud) (y56:=Ud) (app_Em (H:=spX ps g os es (mkQ ec ea eb)) (b:=2) (o:=os) rfl (by omega) (mkQ ec ea eb))
      have hs:os.map encE ++ [HV.agg [.int .i64 ec,.int .i64 (ea:Int),.int .i64 (eb:Int)]]=(os ++ [mkQ ec ea eb]).map encE:=by simp [encE]
      rw [hs] at s7
      have s8:=spn_m_0 (d.map encR) (ps.map encI) f d.length (g.map encI) (os.length+1) ((os ++ [mkQ ec ea eb]).map encE) es.length (es.map encE) i ec ea eb (y5:=Ud) (y8:=Ud) (y14:=Ud) (y19:=Ud) (y20:=Ud) (y55:=Ud) (y56:=Ud) (y12:=.int .i64 (g.getD ea 0)) (y13:=.int .i64 (g.getD eb 0))
      obtain ⟨y14,r0⟩:=sp_in (ps:=ps) (f:=f) hd (i:=i) (ea:=ea) (eb:=eb) (ec:=ec) (o:=g.getD ea 0) (w:=g.getD eb 0) (os:=os ++ [mkQ ec ea eb]) (es:=es) d.length 0 g hg (by omega)
      rw [show (os ++ [mkQ ec ea eb]).length=os.length+1 by simp,← hg] at r0
      have r0':=lpi (e0:=(env61 (.imm .arg 1 (d.map encR)) (.int .i64 (f:Int)) (.agg (ps.map encI)) Ud (.imm .lit 3 []) (.sl 1 0 g.length (some g.length) g.length 1) Ud (.sl 2 0 (os.length+1) none (os.length+1) 3) (.ptr 4 0 0 1) (.int .i64 (g.getD ea 0)) (.int .i64 (g.getD eb 0)) Ud Ud Ud (.sl 3 0 es.length none es.length 3) (.int .i64 (es.length:Int)) (.int .i64 (i:Int)) (.int .i64 (g.length:Int)) (.int .i64 0))) r0 (b:=sub [1,1,1,1,0,1,0,0,1,1,0,0,1,1,1,1,1,0,0] B61)
      rw [hg] at r0'
      have hg2:(rlb (g.getD ea 0) (g.getD eb 0) d.length 0 g).length=d.length:=by rw [rlb_len,hg]
      have s6:=spn_o_0 (d.map encR) (ps.map encI) f d.length ((rlb (g.getD ea 0) (g.getD eb 0) d.length 0 g).map encI) (os.length+1) ((os ++ [mkQ ec ea eb]).map encE) es.length (es.map encE) i ec ea eb (y5:=Ud) (y8:=Ud) (y11:=Ud) (y19:=Ud) (y20:=Ud) (y14:=y14) (y12:=.int .i64 (g.getD ea 0)) (y13:=.int .i64 (g.getD eb 0)) (y55:=.int .i64 (d.length:Int)) (y56:=.int .i64 (d.length:Int))
      rw [wrap_succ (by omega)] at s6
      have st:=sq (s) (sq (s2) (sq (RunsTo.block_normal (i:=3) (c:=sub [1,1,1,1,0,1,0,0,1,1,0] B61) (sq (s3) (sq (s4) (sq (s5) (sq (s7) (sq (s8) (bke (c:=sub [1,1,1,1,0,1,0,0,1,1,0,0,1,1,1,1,1] B61) (r0')) (c:=sub [1,1,1,1,0,1,0,0,1,1,0,0,1,1,1,1] B61)) (c:=sub [1,1,1,1,0,1,0,0,1,1,0,0,1,1,1] B61)) (c:=sub [1,1,1,1,0,1,0,0,1,1,0,0,1,1] B61)) (c:=sub [1,1,1,1,0,1,0,0,1,1,0,0,1] B61)) (c:=sub [1,1,1,1,0,1,0,0,1,1,0,0] B61)) (by kernel_rfl)) (s6) (c:=sub [1,1,1,1,0,1,0,0,1,1] B61)) (c:=sub [1,1,1,1,0,1,0,0,1] B61)) (c:=sub [1,1,1,1,0,1,0,0] B61)
      obtain ⟨g',E,r,q⟩:=ih (i+1) (os ++ [mkQ ec ea eb]) _ (by omega) hg2 (by simp; omega)
      rw [List.append_assoc] at r q
      rw [hg]
      rw [show (os ++ [mkQ ec ea eb]).length=os.length+1 by simp] at r
      exact ⟨g',E,lop (st) (hgc (ps:=ps) (d:=d) (f:=f) (es:=es) (g2:=rlb (g.getD ea 0) (g.getD eb 0) d.length 0 g) (e:=mkQ ec ea eb) g os (os ++ [mkQ ec ea eb]) (os.length+1) (i+1)) (r),q⟩
theorem spn_init (hd:okD d):∀ k i (g:List Int),i+k=d.length → g.length=d.length → (∀ x,x < i → g.getD x 0=(x:Int)) →
    ∃ y8,RT polSp 61 (sub [1,1,0,1,0] B61) (env61 (.imm .arg 1 (d.map encR)) (.int .i64 (f:Int)) (.agg (ps.map encI)) (.ptr 0 0 0 1) (.imm .lit 3 []) (.sl 1 0 d.length (some d.length) d.length 1) Ud Ud Ud Ud Ud Ud (.int .i64 (d.length:Int)) (.int .i64 (i:Int)) Ud Ud Ud Ud Ud) [pB ps,bI g] (.exit 0)
      (env61 (.imm .arg 1 (d.map encR)) (.int .i64 (f:Int)) (.agg (ps.map encI)) (.ptr 0 0 0 1) (.imm .lit 3 []) (.sl 1 0 d.length (some d.length) d.length 1) y8 Ud Ud Ud Ud Ud (.int .i64 (d.length:Int)) (.int .i64 (d.length:Int)) Ud Ud Ud Ud Ud) [pB ps,bI (iota d.length)]:=by
  have hn:=hd.1
  intro k
  induction k with
  | zero =>
    intro i g hi hg hx
    have:i=d.length:=by omega
    subst this
    have e:g=iota d.length:=by
      apply List.ext_getElem?
      intro x
      by_cases hxl:x < d.length
      · have h1:=hx x hxl
        have h2:=iota_at hxl
        rw [List.getElem?_eq_getElem (by omega),List.getElem?_eq_getElem (by rw [iota_len]; exact hxl)]
        simp only [List.getD,List.getElem?_eq_getElem (show x < g.length by omega),Option.getD_some] at h1
        simp only [List.getD,List.getElem?_eq_getElem (show x < (iota d.length).length by rw [iota_len]; exact hxl),Option.getD_some] at h2
        rw [h1,h2]
      · rw [List.getElem?_eq_none (by omega),List.getElem?_eq_none (by rw [iota_len]; omega)]
    rw [e]
    exact ⟨_,lpo (spn_d_1 (d.map encR) (ps.map encI) f d.length ((iota d.length).map encI) d.length (by omega))⟩
  | succ k ih =>
    intro i g hi hg hx
    have s:=spn_d_0 (d.map encR) (ps.map encI) f d.length (g.map encI) i (y8:=Ud) (y9:=Ud) (y11:=Ud) (y12:=Ud) (y13:=Ud) (y14:=Ud) (y31:=Ud) (y32:=Ud) (y33:=Ud) (y55:=Ud) (y56:=Ud) (by omega) (ixg (by omega)) (stg (H:=[pB ps,bI g]) (b:=1) (k:=i) rfl hg (by omega) (i:Int))
    rw [wrap_succ (by omega)] at s
    obtain ⟨y8,r⟩:=ih (i+1) (g.set i (i:Int)) (by omega) (by simpa using hg) (fun x hx2=>by
      rw [getDs _ _ _ _ (by omega)]
      split
      · rename_i e; rw [e]
      · exact hx x (by omega))
    exact ⟨y8,lop (s) (gc_eq _ rfl) (r)⟩
end
theorem toRes_E {H:Heap} {b:Nat} {l:List Ed} (hb:H[b]?=some (bE encE l)):toRes H false (.sl b 0 l.length none l.length 3)=some (.own 3 (l.map encE)):=by
  have hr:=resCell_sl (H:=H) (no:=[b]) (b:=b) (k:=3) (m:=l.length) (cap:=none) (els:=l.map encE) hb (by simp) (mapO_self (fun e=>frz_E (n:=3) e) _)
  have ho:ownedAll H false (.sl b 0 l.length none l.length 3)=[b]:=by simp [ownedAll,cellsOf,owned,hb,bE]
  simp only [toRes,ho,List.nodup_cons,List.not_mem_nil,not_false_eq_true,List.nodup_nil,and_self,if_true,resVal,hr]
theorem encE_any (l:List Ed):(l.map encE).any isOwn=false:=by
  rw [List.any_eq_false]
  intro v hv
  obtain ⟨k,_,rfl⟩:=List.mem_map.1 hv
  simp [encE,isOwn]
theorem recv_E (l:List Ed) (H:Heap):recv (.own 3 (l.map encE)) H=(.sl H.length 0 l.length none l.length 3,H ++ [bE encE l]):=by
  simp only [recv,recvVal,recvCell,encE_any,List.length_map]
  rfl
theorem arg_agg (H:Heap) (ps:List Int):toArg H 6 (.agg (ps.map encI))=some (.agg (ps.map encI)):=by
  show (match mapO (toArg H 5) (ps.map encI) with | some l=>some (HV.agg l) | none=>none)=_
  have hm:mapO (toArg H 5) (ps.map encI)=some (ps.map encI):=mapO_self (f:=toArg H 5) (g:=encI) (fun _=>rfl) ps
  rw [hm]
theorem q70 {pol':Pol} (hp:pol'.prim 70=some edges70) {d:List (List Int)} {ps:List Int} {f:Nat} {v:HV} (hd:okD d) (hf:f ≤ d.length) (hs:Small ps) (H:Heap) (hv:toArg H 6 v=some (.imm .arg 1 (d.map encR))) :
    ∀ kf,callN Tp pol' (kf+1) 70 [v,.int .i64 (f:Int),.agg (ps.map encI)] H=some (.sl H.length 0 (edg d ps f).length none (edg d ps f).length 3,H ++ [bE encE (edg d ps f)]):=fun kf=>by
  rw [prim_call (pol:=pol') (g:=70) (F:=edges70) hp (rs:=[.imm .arg 1 (d.map encR),.int .i64 (f:Int),.agg (ps.map encI)]) (by simp only [mapO,hv,arg_agg]; rfl) (res:=.own 3 ((edg d ps f).map encE)) (by simp only [edges70,mpF,mapO_map decR_enc,mapO_map decI_enc]; rw [if_pos ⟨hd,by omega,hs⟩,Int.toNat_natCast]),recv_E]
theorem pl_all {H:Heap} {ps:List Int} {b:Nat} (hb:H[b]?=some (pB ps)) (hp:ps.length=11):loadV Tp H 66 (.ptr b 0 0 1)=some (.agg (ps.map encI)) :=
  load_agg (b:=b) hb rfl rfl (by kernel_rfl) (by rw [show tySize Tp 66=some 11 by kernel_rfl]; simp [hp])
theorem spanning_ok:PrimOk Tp 61 spanning61:=by
  refine primOk_pure (pol:=polSp) (fn:=Try.f61) (cd:=B61) follows_mixed soundSp (by kernel_rfl) (by kernel_rfl) (fnok polSp.prim _ _ (by kernel_rfl)) (by kernel_rfl) ?_
  intro args res h
  obtain ⟨d,a0,ps,rfl,hq⟩:=mpF_inv h
  clear h
  split at hq
  · rename_i hc
    obtain ⟨hd,ha,hp⟩:=hc
    cases hq
    have hn:=hd.1
    obtain ⟨f,rfl⟩:∃ x:Nat,a0=(x:Int):=⟨a0.toNat,by omega⟩
    rw [Int.toNat_natCast]
    have s0:=spn_a_0 (d.map encR) (ps.map encI) f (box_p hp.1)
    have mk:=makeV_ok (P:=Tp) (H:=[pB ps]) (t:=23) (e:=3) (k:=1) (bt:=8) (zv:=.int .i64 0) (n:=(d.length:Int)) u23 (by kernel_rfl) (by simp [cellsOf,cellV]) (by simp [cellsOf]) (by omega) (by omega) (by simp only [roomMax]; omega)
    rw [Int.toNat_natCast] at mk
    have hrep:List.replicate d.length (HV.int .i64 0)=(List.replicate d.length (0:Int)).map encI:=by simp [encI]
    rw [hrep] at mk
    have s1:=spn_b_0 (d.map encR) (ps.map encI) f (y7:=Ud) (y8:=Ud) (y9:=Ud) (y11:=Ud) (y12:=Ud) (y13:=Ud) (y14:=Ud) (y19:=Ud) (y20:=Ud) (y31:=Ud) (y32:=Ud) (y33:=Ud) (y55:=Ud) (y56:=Ud) (by rw [List.length_map,hrep]; exact mk)
    rw [List.length_map,hrep] at s1
    have s2:=spn_c_0 (d.map encR) (ps.map encI) f d.length ((List.replicate d.length (0:Int)).map encI) (y8:=Ud) (y9:=Ud) (y11:=Ud) (y12:=Ud) (y13:=Ud) (y14:=Ud) (y19:=Ud) (y20:=Ud) (y31:=Ud) (y32:=Ud) (y33:=Ud) (y55:=Ud) (y56:=Ud)
    obtain ⟨y8,r1⟩:=spn_init (ps:=ps) (f:=f) hd d.length 0 (List.replicate d.length 0) (by omega) (by simp) (fun x hx=>by omega)
    have s3:=spn_e_0 (d.map encR) (ps.map encI) f d.length ((iota d.length).map encI) (y9:=Ud) (y11:=Ud) (y12:=Ud) (y13:=Ud) (y14:=Ud) (y31:=Ud) (y32:=Ud) (y33:=Ud) (y55:=Ud) (y56:=Ud) (y8:=y8) (y19:=.int .i64 (d.length:Int)) (y20:=.int .i64 (d.length:Int))
    have s4:=spn_f_0 (d.map encR) (ps.map encI) f d.length ((iota d.length).map encI) 0 [] (y11:=Ud) (y12:=Ud) (y13:=Ud) (y14:=Ud) (y31:=Ud) (y32:=Ud) (y33:=Ud) (y55:=Ud) (y56:=Ud) (y8:=y8) (y19:=.int .i64 (d.length:Int)) (y20:=.int .i64 (d.length:Int)) (pl_all (b:=0) rfl hp.1) (q70 (pol':=polSp) (by kernel_rfl) hd (by omega) hp _ (arg_rw _ d))
    have hel:=edg_len (ps:=ps) (f:=f) hd (by omega)
    obtain ⟨g',E,r2,y5,y8',y11,y12,y13,y14,y19,y20,y33,y55,y56,rfl⟩:=sp_out (ps:=ps) (f:=f) hd (edg_in (ps:=ps) (f:=f) (by omega)) (by omega) (edg d ps f).length 0 [] (iota d.length) (by omega) (iota_len _) (by simp; omega)
    rw [List.drop_zero,List.nil_append] at r2
    have et:krP (edg d ps f) (iota d.length)=treeL d ps f:=rfl
    rw [et] at r2
    have r2':=lpi (e0:=(env61 (.imm .arg 1 (d.map encR)) (.int .i64 (f:Int)) (.agg (ps.map encI)) (.ptr 0 0 0 1) (.imm .lit 3 []) (.sl 1 0 d.length (some d.length) d.length 1) y8 (.sl 2 0 0 none 0 3) Ud Ud Ud Ud (.int .i64 (d.length:Int)) (.int .i64 (d.length:Int)) (.sl 3 0 (edg d ps f).length none (edg d ps f).length 3) (.int .i64 ((edg d ps f).length:Int)) (.int .i64 0) Ud Ud)) r2 (b:=sub [1,1,1,1,0,1,0,0] B61)
    have z:=spn_p_0 (d.map encR) (ps.map encI) f d.length (g'.map encI) (treeL d ps f).length ((treeL d ps f).map encE) (edg d ps f).length ((edg d ps f).map encE) (y7:=.sl 1 0 d.length (some d.length) d.length 1) (y8:=y8') (y11:=y11) (y12:=y12) (y13:=y13) (y14:=y14) (y19:=y19) (y20:=y20) (y31:=.sl 3 0 (edg d ps f).length none (edg d ps f).length 3) (y32:=.int .i64 ((edg d ps f).length:Int)) (y33:=y33) (y55:=y55) (y56:=y56) (y5:=y5)
    have t:=sq (s0) (sq (s1) (sq (sq (s2) (bke (c:=sub [1,1,0,1] B61) (r1)) (c:=sub [1,1,0] B61)) (sq (s3) (sq (sq (s4) (bke (c:=sub [1,1,1,1,0,1] B61) (r2')) (c:=sub [1,1,1,1,0] B61)) (z) (c:=sub [1,1,1,1] B61)) (c:=sub [1,1,1] B61)) (c:=sub [1,1] B61)) (c:=sub [1] B61)) (c:=B61)
    exact ⟨_,_,_,.sl 2 0 (treeL d ps f).length none (treeL d ps f).length 3,t,by simp,by simp only [resultsV,res61]; rfl,toRes_E rfl⟩
  · cases hq
end Go.Proofs.Ytlendaofkmhgmaa
end
section
open Go Go.HL Go.HL.So
namespace Go.Proofs.Ytlendaofkmhgmaa
open Go.Proofs.Try renaming prog → Tp
open Go.HL.HV renaming undef → Ud
def two2:Nat → List Ed → List Ed
  | _,[]=>[]
  | w,e :: l=>if e.2.1=0∧w < 2 then e :: two2 (w+1) l else two2 w l
def chosen (d:List (List Int)) (ps:List Int):List Ed:=treeL d ps 1 ++ two2 0 (edg d ps 0)
def dstep (t:List Int) (e:Ed):List Int:=(t.set e.2.1.toNat (t.getD e.2.1.toNat 0+1)).set e.2.2.toNat ((t.set e.2.1.toNat (t.getD e.2.1.toNat 0+1)).getD e.2.2.toNat 0+1)
def degs (l:List Ed):List Int:=l.foldl dstep (List.replicate 11 0)
def sumA (l:List Ed) (s:Int):Int:=l.foldl (fun s e=>s+e.1) s
def sumP (ps:List Int) (s:Int):Int:=ps.foldl (fun s n=>s - 2 * n) s
def boundS (d:List (List Int)) (ps:List Int):Int:=sumP ps (sumA (chosen d ps) 0)
theorem two2_mem {e:Ed}:∀ (l:List Ed) (w:Nat),e ∈ two2 w l → e ∈ l
  | [],_,h=>by cases h
  | x :: l,w,h=>by
    rw [two2] at h
    split at h
    · rcases List.mem_cons.1 h with rfl | h
      · simp
      · exact List.mem_cons_of_mem _ (two2_mem l _ h)
    · exact List.mem_cons_of_mem _ (two2_mem l _ h)
theorem two2_len:∀ (l:List Ed) (w:Nat),(two2 w l).length+w ≤ max w 2
  | [],w=>by simp [two2]; omega
  | e :: l,w=>by
    rw [two2]
    split
    · have:=two2_len l (w+1); rw [List.length_cons]; omega
    · exact two2_len l w
theorem chosen_in {d:List (List Int)} {ps:List Int} (hd:okD d):EIn d.length (chosen d ps):=fun e he=>by
  have hn:=hd.1
  rcases List.mem_append.1 he with h | h
  · exact edg_in (f:=1) (by omega) e (krP_mem _ _ h)
  · exact edg_in (f:=0) (by omega) e (two2_mem _ _ h)
theorem chosen_len {d:List (List Int)} {ps:List Int} (hd:okD d):(chosen d ps).length ≤ 123:=by
  have hn:=hd.1
  unfold chosen
  rw [List.length_append]
  have h1:=edg_len (ps:=ps) (f:=1) hd (by omega)
  have h2:=krP_len (edg d ps 1) (iota d.length)
  have h3:=two2_len (edg d ps 0) 0
  unfold treeL
  omega
def costOk (l:List Ed):Prop:=∀ e ∈ l,-3000000000 ≤ e.1∧e.1 ≤ 3000000000
theorem edg_cost {d:List (List Int)} {ps:List Int} {f:Nat} (hd:okD d) (hp:Small ps) (hf:f ≤ d.length):costOk (edg d ps f):=fun e he=>by
  have hn:=hd.1
  obtain ⟨x,y,h,rfl⟩:=((edg_ok (d:=d) (p:=ps) hf).2 e).1 he
  have b1:=hd.at (i:=x) (j:=y) (by omega) (by omega)
  have b2:=hp.at (i:=x) (by omega)
  have b3:=hp.at (i:=y) (by omega)
  simp only [mkE,cst]
  omega
theorem chosen_cost {d:List (List Int)} {ps:List Int} (hd:okD d) (hp:Small ps):costOk (chosen d ps):=fun e he=>by
  have hn:=hd.1
  rcases List.mem_append.1 he with h | h
  · exact edg_cost (f:=1) hd hp (by omega) e (krP_mem _ _ h)
  · exact edg_cost (f:=0) hd hp (by omega) e (two2_mem _ _ h)
def CtB (t:List Int) (k:Nat):Prop:=t.length=11∧∀ x,x < 11 → 0 ≤ t.getD x 0∧t.getD x 0 ≤ 2 * (k:Int)
theorem CtB.step {t:List Int} {k:Nat} (h:CtB t k) {e:Ed} (ha:e.2.1.toNat < 11) (hb:e.2.2.toNat < 11):CtB (dstep t e) (k+1):=by
  obtain ⟨h1,h2⟩:=h
  refine ⟨by simp [dstep,h1],fun x hx=>?_⟩
  unfold dstep
  rw [getDs _ _ _ _ (by simp [h1,hb]),getDs _ _ _ _ (by rw [h1]; exact ha),getDs _ _ _ _ (by rw [h1]; exact ha)]
  have q1:=h2 x hx
  have q2:=h2 _ ha
  have q3:=h2 _ hb
  split
  · split <;> omega
  · split <;> omega
theorem CtB.zero:CtB (List.replicate 11 0) 0:=⟨rfl,fun x hx=>by
  have:(List.replicate 11 (0:Int)).getD x 0=0:=by rw [List.getD,List.getElem?_replicate,if_pos hx]; rfl
  rw [this]; omega⟩
open Classical in
noncomputable def bound50:List HV → Option HV
  | [.imm .arg 1 rw,.agg pv]=>(match mapO decR rw,mapO decI pv with | some R,some ps=>if okD R∧Small ps then some (.tuple [.int .i64 (boundS R ps),.agg ((degs (chosen R ps)).map encI)]) else none | _,_=>none)
  | _=>none
noncomputable def polBo:Pol:={ pol with prim:=fun g=>if g == 70 then some edges70 else if g == 61 then some spanning61 else none }
theorem soundBo (n:Nat):CallSound Tp (callN Tp polBo n):=sound_prim _ (fun g f h=>by
  split at h
  · rename_i hg; cases h; rw [eq_of_beq hg]; exact edges_ok
  split at h
  · rename_i hg; cases h; rw [eq_of_beq hg]; exact spanning_ok
  · cases h) n
theorem q61 {pol':Pol} (hp:pol'.prim 61=some spanning61) {d:List (List Int)} {ps:List Int} {f:Nat} {v:HV} (hd:okD d) (hf:f ≤ d.length) (hs:Small ps) (H:Heap) (hv:toArg H 6 v=some (.imm .arg 1 (d.map encR))) :
    ∀ kf,callN Tp pol' (kf+1) 61 [v,.int .i64 (f:Int),.agg (ps.map encI)] H=some (.sl H.length 0 (treeL d ps f).length none (treeL d ps f).length 3,H ++ [bE encE (treeL d ps f)]):=fun kf=>by
  rw [prim_call (pol:=pol') (g:=61) (F:=spanning61) hp (rs:=[.imm .arg 1 (d.map encR),.int .i64 (f:Int),.agg (ps.map encI)]) (by simp only [mapO,hv,arg_agg]; rfl) (res:=.own 3 ((treeL d ps f).map encE)) (by simp only [spanning61,mpF,mapO_map decR_enc,mapO_map decI_enc]; rw [if_pos ⟨hd,by omega,hs⟩,Int.toNat_natCast]),recv_E]
end Go.Proofs.Ytlendaofkmhgmaa
end
section
open Go Go.HL
namespace Go.Proofs.Ytlendaofkmhgmaa
set_option maxRecDepth 100000
open Go.Proofs.Try renaming prog → Tp
open Go.HL.HV renaming undef → Ud
noncomputable def B50:Code:=Try.f50.body.getD .skip
abbrev env50 (v0 v1 v3 v4 v5 v6 v7 v9 v10 v11 v13 v15 v21 v22 v23 v41 v42 v43 v64 v65:HV):Env:=[(0,v0),(1,v1),(3,v3),(4,v4),(5,v5),(6,v6),(7,v7),(9,v9),(10,v10),(11,v11),(13,v13),(15,v15),(21,v21),(22,v22),(23,v23),(41,v41),(42,v42),(43,v43),(64,v64),(65,v65)]
theorem bo_a_0 (rw ps:List HV) (g0:(if (cellsOf (.agg ps)).all cellV then some (newV (.agg ps) []) else none)=some (.ptr 0 0 0 1,[.arr 11 [.agg ps] true 0])):RT polBo 50 (sub [0] B50) [(0,.imm .arg 1 rw),(1,.agg ps)] [] .normal (env50 (.imm .arg 1 rw) (.agg ps) (.ptr 0 0 0 1) (.i 0) (.ptr 1 0 0 1) Ud Ud Ud Ud Ud Ud Ud Ud Ud Ud Ud Ud Ud Ud Ud) [.arr 11 [.agg ps] true 0,.arr 11 [.agg [.i 0,.i 0,.i 0,.i 0,.i 0,.i 0,.i 0,.i 0,.i 0,.i 0,.i 0]] true 0] :=
  RunsTo.hin 0 60 [⟨0,0,.ptr 0 0 0 1,[.arr 11 [.agg ps] true 0]⟩] fun kf hk=>⟨_,by kernel_rfl,(oC (g0) .nil)⟩
theorem bo_b_0 (rw ps:List HV)  {y6 y7 y9 y10 y11 y13 y15 y21 y22 y23 y41 y42 y43 y64 y65:HV} {m:Nat} {cs:List HV} (g0:loadV Tp [.arr 11 [.agg ps] true 0,.arr 11 [.agg [.i 0,.i 0,.i 0,.i 0,.i 0,.i 0,.i 0,.i 0,.i 0,.i 0,.i 0]] true 0] 66 (.ptr 0 0 0 1)=some (.agg ps)) (g1:∀ kf,callN Tp polBo (kf+1) 61 [.imm .arg 1 rw,.i 1,.agg ps] [.arr 11 [.agg ps] true 0,.arr 11 [.agg [.i 0,.i 0,.i 0,.i 0,.i 0,.i 0,.i 0,.i 0,.i 0,.i 0,.i 0]] true 0]=some (.sl 2 0 m none m 3,[.arr 11 [.agg ps] true 0,.arr 11 [.agg [.i 0,.i 0,.i 0,.i 0,.i 0,.i 0,.i 0,.i 0,.i 0,.i 0,.i 0]] true 0,.arr 3 cs true 0])):RT polBo 50 (sub [1,0] B50) (env50 (.imm .arg 1 rw) (.agg ps) (.ptr 0 0 0 1) (.i 0) (.ptr 1 0 0 1) y6 y7 y9 y10 y11 y13 y15 y21 y22 y23 y41 y42 y43 y64 y65) [.arr 11 [.agg ps] true 0,.arr 11 [.agg [.i 0,.i 0,.i 0,.i 0,.i 0,.i 0,.i 0,.i 0,.i 0,.i 0,.i 0]] true 0] .normal (env50 (.imm .arg 1 rw) (.agg ps) (.ptr 0 0 0 1) (.i 0) (.ptr 1 0 0 1) (.sl 2 0 m none m 3) y7 y9 y10 y11 y13 y15 y21 y22 y23 y41 y42 y43 y64 y65) [.arr 11 [.agg ps] true 0,.arr 11 [.agg [.i 0,.i 0,.i 0,.i 0,.i 0,.i 0,.i 0,.i 0,.i 0,.i 0,.i 0]] true 0,.arr 3 cs true 0] :=
  RunsTo.hin 0 60 [⟨1,1,.agg ps,[.arr 11 [.agg ps] true 0,.arr 11 [.agg [.i 0,.i 0,.i 0,.i 0,.i 0,.i 0,.i 0,.i 0,.i 0,.i 0,.i 0]] true 0]⟩,⟨1,2,.sl 2 0 m none m 3,[.arr 11 [.agg ps] true 0,.arr 11 [.agg [.i 0,.i 0,.i 0,.i 0,.i 0,.i 0,.i 0,.i 0,.i 0,.i 0,.i 0]] true 0,.arr 3 cs true 0]⟩] fun kf hk=>⟨_,by kernel_rfl,(oP [.arr 11 [.agg ps] true 0,.arr 11 [.agg [.i 0,.i 0,.i 0,.i 0,.i 0,.i 0,.i 0,.i 0,.i 0,.i 0,.i 0]] true 0] g0 (oC (g1 kf) .nil))⟩
theorem bo_c_0 (rw ps:List HV) (m:Nat) (cs:List HV) {y7 y9 y10 y11 y13 y15 y21 y22 y23 y41 y42 y43 y64 y65:HV}:RT polBo 50 (sub [1,1,0] B50) (env50 (.imm .arg 1 rw) (.agg ps) (.ptr 0 0 0 1) (.i 0) (.ptr 1 0 0 1) (.sl 2 0 m none m 3) y7 y9 y10 y11 y13 y15 y21 y22 y23 y41 y42 y43 y64 y65) [.arr 11 [.agg ps] true 0,.arr 11 [.agg [.i 0,.i 0,.i 0,.i 0,.i 0,.i 0,.i 0,.i 0,.i 0,.i 0,.i 0]] true 0,.arr 3 cs true 0] .normal (env50 (.imm .arg 1 rw) (.agg ps) (.ptr 0 0 0 1) (.i 0) (.ptr 1 0 0 1) (.sl 2 0 m none m 3) (.i 0) y9 y10 y11 y13 y15 y21 y22 y23 y41 y42 y43 y64 y65) [.arr 11 [.agg ps] true 0,.arr 11 [.agg [.i 0,.i 0,.i 0,.i 0,.i 0,.i 0,.i 0,.i 0,.i 0,.i 0,.i 0]] true 0,.arr 3 cs true 0] :=
  RunsTo.hin 0 60 [] fun kf hk=>⟨_,by kernel_rfl,.nil⟩
theorem bo_d_0 (rw ps:List HV) (m:Nat) (cs:List HV) {y9 y10 y11 y13 y15 y21 y22 y23 y41 y42 y43 y64 y65:HV} {q:Nat} {es:List HV} (g0:loadV Tp [.arr 11 [.agg ps] true 0,.arr 11 [.agg [.i 0,.i 0,.i 0,.i 0,.i 0,.i 0,.i 0,.i 0,.i 0,.i 0,.i 0]] true 0,.arr 3 cs true 0] 66 (.ptr 0 0 0 1)=some (.agg ps)) (g1:∀ kf,callN Tp polBo (kf+1) 70 [.imm .arg 1 rw,.i 0,.agg ps] [.arr 11 [.agg ps] true 0,.arr 11 [.agg [.i 0,.i 0,.i 0,.i 0,.i 0,.i 0,.i 0,.i 0,.i 0,.i 0,.i 0]] true 0,.arr 3 cs true 0]=some (.sl 3 0 q none q 3,[.arr 11 [.agg ps] true 0,.arr 11 [.agg [.i 0,.i 0,.i 0,.i 0,.i 0,.i 0,.i 0,.i 0,.i 0,.i 0,.i 0]] true 0,.arr 3 cs true 0,.arr 3 es true 0])):RT polBo 50 (sub [1,1,1,0,0] B50) (env50 (.imm .arg 1 rw) (.agg ps) (.ptr 0 0 0 1) (.i 0) (.ptr 1 0 0 1) (.sl 2 0 m none m 3) (.i 0) y9 y10 y11 y13 y15 y21 y22 y23 y41 y42 y43 y64 y65) [.arr 11 [.agg ps] true 0,.arr 11 [.agg [.i 0,.i 0,.i 0,.i 0,.i 0,.i 0,.i 0,.i 0,.i 0,.i 0,.i 0]] true 0,.arr 3 cs true 0] .normal (env50 (.imm .arg 1 rw) (.agg ps) (.ptr 0 0 0 1) (.i 0) (.ptr 1 0 0 1) (.sl 2 0 m none m 3) (.i 0) y9 y10 y11 y13 y15 (.sl 3 0 q none q 3) (.i (q:Int)) (.i 0) y41 y42 y43 y64 y65) [.arr 11 [.agg ps] true 0,.arr 11 [.agg [.i 0,.i 0,.i 0,.i 0,.i 0,.i 0,.i 0,.i 0,.i 0,.i 0,.i 0]] true 0,.arr 3 cs true 0,.arr 3 es true 0] :=
  RunsTo.hin 0 60 [⟨3,1,.agg ps,[.arr 11 [.agg ps] true 0,.arr 11 [.agg [.i 0,.i 0,.i 0,.i 0,.i 0,.i 0,.i 0,.i 0,.i 0,.i 0,.i 0]] true 0,.arr 3 cs true 0]⟩,⟨3,2,.sl 3 0 q none q 3,[.arr 11 [.agg ps] true 0,.arr 11 [.agg [.i 0,.i 0,.i 0,.i 0,.i 0,.i 0,.i 0,.i 0,.i 0,.i 0,.i 0]] true 0,.arr 3 cs true 0,.arr 3 es true 0]⟩] fun kf hk=>⟨_,by kernel_rfl,(oP [.arr 11 [.agg ps] true 0,.arr 11 [.agg [.i 0,.i 0,.i 0,.i 0,.i 0,.i 0,.i 0,.i 0,.i 0,.i 0,.i 0]] true 0,.arr 3 cs true 0] g0 (oC (g1 kf) .nil))⟩
theorem bo_e_0 (rw ps:List HV) (m:Nat) (cs:List HV) (q:Nat) (es:List HV) (w i:Nat) (ec:Int) (ea eb:Nat) {y9 y10 y11 y13 y15 y41 y42 y43 y64 y65:HV}(g0:(i:Int) < (q:Int)) (g1:idxV Tp 88 (.sl 3 0 q none q 3) (.i (i:Int))=some (.ptr 3 i 0 q)) (g2:loadV Tp [.arr 11 [.agg ps] true 0,.arr 11 [.agg [.i 0,.i 0,.i 0,.i 0,.i 0,.i 0,.i 0,.i 0,.i 0,.i 0,.i 0]] true 0,.arr 3 cs true 0,.arr 3 es true 0] 91 (.ptr 3 i 0 q)=some (.agg [.i ec,.i (ea:Int),.i (eb:Int)])) (g3:(ea:Int)=0) (g4:(w:Int) < 2) (g5:appV [.arr 11 [.agg ps] true 0,.arr 11 [.agg [.i 0,.i 0,.i 0,.i 0,.i 0,.i 0,.i 0,.i 0,.i 0,.i 0,.i 0]] true 0,.arr 3 cs true 0,.arr 3 es true 0,.arr 3 [.agg [.i ec,.i (ea:Int),.i (eb:Int)]] true 0] 3 24 (.sl 2 0 m none m 3) [.agg [.i ec,.i (ea:Int),.i (eb:Int)]]=some (.sl 2 0 (m+1) none (m+1) 3,[.arr 11 [.agg ps] true 0,.arr 11 [.agg [.i 0,.i 0,.i 0,.i 0,.i 0,.i 0,.i 0,.i 0,.i 0,.i 0,.i 0]] true 0,.arr 3 (cs ++ [.agg [.i ec,.i (ea:Int),.i (eb:Int)]]) true 0,.arr 3 es true 0,.arr 3 [.agg [.i ec,.i (ea:Int),.i (eb:Int)]] true 0])):RT polBo 50 (sub [1,1,1,0,1,0,0] B50) (env50 (.imm .arg 1 rw) (.agg ps) (.ptr 0 0 0 1) (.i 0) (.ptr 1 0 0 1) (.sl 2 0 m none m 3) (.i (w:Int)) y9 y10 y11 y13 y15 (.sl 3 0 q none q 3) (.i (q:Int)) (.i (i:Int)) y41 y42 y43 y64 y65) [.arr 11 [.agg ps] true 0,.arr 11 [.agg [.i 0,.i 0,.i 0,.i 0,.i 0,.i 0,.i 0,.i 0,.i 0,.i 0,.i 0]] true 0,.arr 3 cs true 0,.arr 3 es true 0] .normal (env50 (.imm .arg 1 rw) (.agg ps) (.ptr 0 0 0 1) (.i 0) (.ptr 1 0 0 1) (.sl 2 0 (m+1) none (m+1) 3) (.i (IntKind.i64.wrap ((w:Int)+1))) (.ptr 4 0 0 1) y10 y11 y13 y15 (.sl 3 0 q none q 3) (.i (q:Int)) (.i (IntKind.i64.wrap ((i:Int)+1))) y41 y42 y43 y64 y65) [.arr 11 [.agg ps] true 0,.arr 11 [.agg [.i 0,.i 0,.i 0,.i 0,.i 0,.i 0,.i 0,.i 0,.i 0,.i 0,.i 0]] true 0,.arr 3 (cs ++ [.agg [.i ec,.i (ea:Int),.i (eb:Int)]]) true 0,.arr 3 es true 0,.arr 3 [.agg [.i ec,.i (ea:Int),.i (eb:Int)]] true 0] :=
  RunsTo.hin 0 60 [⟨4,0,.bool true,[.arr 11 [.agg ps] true 0,.arr 11 [.agg [.i 0,.i 0,.i 0,.i 0,.i 0,.i 0,.i 0,.i 0,.i 0,.i 0,.i 0]] true 0,.arr 3 cs true 0,.arr 3 es true 0]⟩,⟨5,0,.ptr 3 i 0 q,[.arr 11 [.agg ps] true 0,.arr 11 [.agg [.i 0,.i 0,.i 0,.i 0,.i 0,.i 0,.i 0,.i 0,.i 0,.i 0,.i 0]] true 0,.arr 3 cs true 0,.arr 3 es true 0]⟩,⟨5,1,.agg [.i ec,.i (ea:Int),.i (eb:Int)],[.arr 11 [.agg ps] true 0,.arr 11 [.agg [.i 0,.i 0,.i 0,.i 0,.i 0,.i 0,.i 0,.i 0,.i 0,.i 0,.i 0]] true 0,.arr 3 cs true 0,.arr 3 es true 0]⟩,⟨6,2,.bool true,[.arr 11 [.agg ps] true 0,.arr 11 [.agg [.i 0,.i 0,.i 0,.i 0,.i 0,.i 0,.i 0,.i 0,.i 0,.i 0,.i 0]] true 0,.arr 3 cs true 0,.arr 3 es true 0,.arr 3 [.agg [.i ec,.i (ea:Int),.i (eb:Int)]] true 0]⟩,⟨6,5,.bool true,[.arr 11 [.agg ps] true 0,.arr 11 [.agg [.i 0,.i 0,.i 0,.i 0,.i 0,.i 0,.i 0,.i 0,.i 0,.i 0,.i 0]] true 0,.arr 3 cs true 0,.arr 3 es true 0,.arr 3 [.agg [.i ec,.i (ea:Int),.i (eb:Int)]] true 0]⟩,⟨7,3,.sl 2 0 (m+1) none (m+1) 3,[.arr 11 [.agg ps] true 0,.arr 11 [.agg [.i 0,.i 0,.i 0,.i 0,.i 0,.i 0,.i 0,.i 0,.i 0,.i 0,.i 0]] true 0,.arr 3 (cs ++ [.agg [.i ec,.i (ea:Int),.i (eb:Int)]]) true 0,.arr 3 es true 0,.arr 3 [.agg [.i ec,.i (ea:Int),.i (eb:Int)]] true 0]⟩] fun kf hk=>⟨_,by kernel_rfl,(oB [.arr 11 [.agg ps] true 0,.arr 11 [.agg [.i 0,.i 0,.i 0,.i 0,.i 0,.i 0,.i 0,.i 0,.i 0,.i 0,.i 0]] true 0,.arr 3 cs true 0,.arr 3 es true 0] (decide_eq_true g0) (oP [.arr 11 [.agg ps] true 0,.arr 11 [.agg [.i 0,.i 0,.i 0,.i 0,.i 0,.i 0,.i 0,.i 0,.i 0,.i 0,.i 0]] true 0,.arr 3 cs true 0,.arr 3 es true 0] g1 (oP [.arr 11 [.agg ps] true 0,.arr 11 [.agg [.i 0,.i 0,.i 0,.i 0,.i 0,.i 0,.i 0,.i 0,.i 0,.i 0,.i 0]] true 0,.arr 3 cs true 0,.arr 3 es true 0] g2 (oB [.arr 11 [.agg ps] true 0,.arr 11 [.agg [.i 0,.i 0,.i 0,.i 0,.i 0,.i 0,.i 0,.i 0,.i 0,.i 0,.i 0]] true 0,.arr 3 cs true 0,.arr 3 es true 0,.arr 3 [.agg [.i ec,.i (ea:Int),.i (eb:Int)]] true 0] (decide_eq_true g3) (oB [.arr 11 [.agg ps] true 0,.arr 11 [.agg [.i 0,.i 0,.i 0,.i 0,.i 0,.i 0,.i 0,.i 0,.i 0,.i 0,.i 0]] true 0,.arr 3 cs true 0,.arr 3 es true 0,.arr 3 [.agg [.i ec,.i (ea:Int),.i (eb:Int)]] true 0] (decide_eq_true g4) (oC (g5) .nil))))))⟩
theorem bo_e_1 (rw ps:List HV) (m:Nat) (cs:List HV) (q:Nat) (es:List HV) (w i:Nat) (ec:Int) (ea eb:Nat) {y9 y10 y11 y13 y15 y41 y42 y43 y64 y65:HV}(g0:(i:Int) < (q:Int)) (g1:idxV Tp 88 (.sl 3 0 q none q 3) (.i (i:Int))=some (.ptr 3 i 0 q)) (g2:loadV Tp [.arr 11 [.agg ps] true 0,.arr 11 [.agg [.i 0,.i 0,.i 0,.i 0,.i 0,.i 0,.i 0,.i 0,.i 0,.i 0,.i 0]] true 0,.arr 3 cs true 0,.arr 3 es true 0] 91 (.ptr 3 i 0 q)=some (.agg [.i ec,.i (ea:Int),.i (eb:Int)])) (g3:(ea:Int)=0) (g4:¬ ((w:Int) < 2)):RT polBo 50 (sub [1,1,1,0,1,0,0] B50) (env50 (.imm .arg 1 rw) (.agg ps) (.ptr 0 0 0 1) (.i 0) (.ptr 1 0 0 1) (.sl 2 0 m none m 3) (.i (w:Int)) y9 y10 y11 y13 y15 (.sl 3 0 q none q 3) (.i (q:Int)) (.i (i:Int)) y41 y42 y43 y64 y65) [.arr 11 [.agg ps] true 0,.arr 11 [.agg [.i 0,.i 0,.i 0,.i 0,.i 0,.i 0,.i 0,.i 0,.i 0,.i 0,.i 0]] true 0,.arr 3 cs true 0,.arr 3 es true 0] .normal (env50 (.imm .arg 1 rw) (.agg ps) (.ptr 0 0 0 1) (.i 0) (.ptr 1 0 0 1) (.sl 2 0 m none m 3) (.i (w:Int)) (.ptr 4 0 0 1) y10 y11 y13 y15 (.sl 3 0 q none q 3) (.i (q:Int)) (.i (IntKind.i64.wrap ((i:Int)+1))) y41 y42 y43 y64 y65) [.arr 11 [.agg ps] true 0,.arr 11 [.agg [.i 0,.i 0,.i 0,.i 0,.i 0,.i 0,.i 0,.i 0,.i 0,.i 0,.i 0]] true 0,.arr 3 cs true 0,.arr 3 es true 0,.arr 3 [.agg [.i ec,.i (ea:Int),.i (eb:Int)]] true 0] :=
  RunsTo.hin 0 60 [⟨4,0,.bool true,[.arr 11 [.agg ps] true 0,.arr 11 [.agg [.i 0,.i 0,.i 0,.i 0,.i 0,.i 0,.i 0,.i 0,.i 0,.i 0,.i 0]] true 0,.arr 3 cs true 0,.arr 3 es true 0]⟩,⟨5,0,.ptr 3 i 0 q,[.arr 11 [.agg ps] true 0,.arr 11 [.agg [.i 0,.i 0,.i 0,.i 0,.i 0,.i 0,.i 0,.i 0,.i 0,.i 0,.i 0]] true 0,.arr 3 cs true 0,.arr 3 es true 0]⟩,⟨5,1,.agg [.i ec,.i (ea:Int),.i (eb:Int)],[.arr 11 [.agg ps] true 0,.arr 11 [.agg [.i 0,.i 0,.i 0,.i 0,.i 0,.i 0,.i 0,.i 0,.i 0,.i 0,.i 0]] true 0,.arr 3 cs true 0,.arr 3 es true 0]⟩,⟨6,2,.bool true,[.arr 11 [.agg ps] true 0,.arr 11 [.agg [.i 0,.i 0,.i 0,.i 0,.i 0,.i 0,.i 0,.i 0,.i 0,.i 0,.i 0]] true 0,.arr 3 cs true 0,.arr 3 es true 0,.arr 3 [.agg [.i ec,.i (ea:Int),.i (eb:Int)]] true 0]⟩,⟨6,5,.bool false,[.arr 11 [.agg ps] true 0,.arr 11 [.agg [.i 0,.i 0,.i 0,.i 0,.i 0,.i 0,.i 0,.i 0,.i 0,.i 0,.i 0]] true 0,.arr 3 cs true 0,.arr 3 es true 0,.arr 3 [.agg [.i ec,.i (ea:Int),.i (eb:Int)]] true 0]⟩] fun kf hk=>⟨_,by kernel_rfl,(oB [.arr 11 [.agg ps] true 0,.arr 11 [.agg [.i 0,.i 0,.i 0,.i 0,.i 0,.i 0,.i 0,.i 0,.i 0,.i 0,.i 0]] true 0,.arr 3 cs true 0,.arr 3 es true 0] (decide_eq_true g0) (oP [.arr 11 [.agg ps] true 0,.arr 11 [.agg [.i 0,.i 0,.i 0,.i 0,.i 0,.i 0,.i 0,.i 0,.i 0,.i 0,.i 0]] true 0,.arr 3 cs true 0,.arr 3 es true 0] g1 (oP [.arr 11 [.agg ps] true 0,.arr 11 [.agg [.i 0,.i 0,.i 0,.i 0,.i 0,.i 0,.i 0,.i 0,.i 0,.i 0,.i 0]] true 0,.arr 3 cs true 0,.arr 3 es true 0] g2 (oB [.arr 11 [.agg ps] true 0,.arr 11 [.agg [.i 0,.i 0,.i 0,.i 0,.i 0,.i 0,.i 0,.i 0,.i 0,.i 0,.i 0]] true 0,.arr 3 cs true 0,.arr 3 es true 0,.arr 3 [.agg [.i ec,.i (ea:Int),.i (eb:Int)]] true 0] (decide_eq_true g3) (oB [.arr 11 [.agg ps] true 0,.arr 11 [.agg [.i 0,.i 0,.i 0,.i 0,.i 0,.i 0,.i 0,.i 0,.i 0,.i 0,.i 0]] true 0,.arr 3 cs true 0,.arr 3 es true 0,.arr 3 [.agg [.i ec,.i (ea:Int),.i (eb:Int)]] true 0] (decide_eq_false g4) .nil)))))⟩
theorem bo_e_2 (rw ps:List HV) (m:Nat) (cs:List HV) (q:Nat) (es:List HV) (w i:Nat) (ec:Int) (ea eb:Nat) {y9 y10 y11 y13 y15 y41 y42 y43 y64 y65:HV}(g0:(i:Int) < (q:Int)) (g1:idxV Tp 88 (.sl 3 0 q none q 3) (.i (i:Int))=some (.ptr 3 i 0 q)) (g2:loadV Tp [.arr 11 [.agg ps] true 0,.arr 11 [.agg [.i 0,.i 0,.i 0,.i 0,.i 0,.i 0,.i 0,.i 0,.i 0,.i 0,.i 0]] true 0,.arr 3 cs true 0,.arr 3 es true 0] 91 (.ptr 3 i 0 q)=some (.agg [.i ec,.i (ea:Int),.i (eb:Int)])) (g3:¬ ((ea:Int)=0)):RT polBo 50 (sub [1,1,1,0,1,0,0] B50) (env50 (.imm .arg 1 rw) (.agg ps) (.ptr 0 0 0 1) (.i 0) (.ptr 1 0 0 1) (.sl 2 0 m none m 3) (.i (w:Int)) y9 y10 y11 y13 y15 (.sl 3 0 q none q 3) (.i (q:Int)) (.i (i:Int)) y41 y42 y43 y64 y65) [.arr 11 [.agg ps] true 0,.arr 11 [.agg [.i 0,.i 0,.i 0,.i 0,.i 0,.i 0,.i 0,.i 0,.i 0,.i 0,.i 0]] true 0,.arr 3 cs true 0,.arr 3 es true 0] .normal (env50 (.imm .arg 1 rw) (.agg ps) (.ptr 0 0 0 1) (.i 0) (.ptr 1 0 0 1) (.sl 2 0 m none m 3) (.i (w:Int)) (.ptr 4 0 0 1) y10 y11 y13 y15 (.sl 3 0 q none q 3) (.i (q:Int)) (.i (IntKind.i64.wrap ((i:Int)+1))) y41 y42 y43 y64 y65) [.arr 11 [.agg ps] true 0,.arr 11 [.agg [.i 0,.i 0,.i 0,.i 0,.i 0,.i 0,.i 0,.i 0,.i 0,.i 0,.i 0]] true 0,.arr 3 cs true 0,.arr 3 es true 0,.arr 3 [.agg [.i ec,.i (ea:Int),.i (eb:Int)]] true 0] :=
  RunsTo.hin 0 60 [⟨4,0,.bool true,[.arr 11 [.agg ps] true 0,.arr 11 [.agg [.i 0,.i 0,.i 0,.i 0,.i 0,.i 0,.i 0,.i 0,.i 0,.i 0,.i 0]] true 0,.arr 3 cs true 0,.arr 3 es true 0]⟩,⟨5,0,.ptr 3 i 0 q,[.arr 11 [.agg ps] true 0,.arr 11 [.agg [.i 0,.i 0,.i 0,.i 0,.i 0,.i 0,.i 0,.i 0,.i 0,.i 0,.i 0]] true 0,.arr 3 cs true 0,.arr 3 es true 0]⟩,⟨5,1,.agg [.i ec,.i (ea:Int),.i (eb:Int)],[.arr 11 [.agg ps] true 0,.arr 11 [.agg [.i 0,.i 0,.i 0,.i 0,.i 0,.i 0,.i 0,.i 0,.i 0,.i 0,.i 0]] true 0,.arr 3 cs true 0,.arr 3 es true 0]⟩,⟨6,2,.bool false,[.arr 11 [.agg ps] true 0,.arr 11 [.agg [.i 0,.i 0,.i 0,.i 0,.i 0,.i 0,.i 0,.i 0,.i 0,.i 0,.i 0]] true 0,.arr 3 cs true 0,.arr 3 es true 0,.arr 3 [.agg [.i ec,.i (ea:Int),.i (eb:Int)]] true 0]⟩] fun kf hk=>⟨_,by kernel_rfl,(oB [.arr 11 [.agg ps] true 0,.arr 11 [.agg [.i 0,.i 0,.i 0,.i 0,.i 0,.i 0,.i 0,.i 0,.i 0,.i 0,.i 0]] true 0,.arr 3 cs true 0,.arr 3 es true 0] (decide_eq_true g0) (oP [.arr 11 [.agg ps] true 0,.arr 11 [.agg [.i 0,.i 0,.i 0,.i 0,.i 0,.i 0,.i 0,.i 0,.i 0,.i 0,.i 0]] true 0,.arr 3 cs true 0,.arr 3 es true 0] g1 (oP [.arr 11 [.agg ps] true 0,.arr 11 [.agg [.i 0,.i 0,.i 0,.i 0,.i 0,.i 0,.i 0,.i 0,.i 0,.i 0,.i 0]] true 0,.arr 3 cs true 0,.arr 3 es true 0] g2 (oB [.arr 11 [.agg ps] true 0,.arr 11 [.agg [.i 0,.i 0,.i 0,.i 0,.i 0,.i 0,.i 0,.i 0,.i 0,.i 0,.i 0]] true 0,.arr 3 cs true 0,.arr 3 es true 0,.arr 3 [.agg [.i ec,.i (ea:Int),.i (eb:Int)]] true 0] (decide_eq_false g3) .nil))))⟩
theorem bo_e_3 (rw ps:List HV) (m:Nat) (cs:List HV) (q:Nat) (es:List HV) (w i:Nat) (ec:Int) (ea eb:Nat) {y9 y10 y11 y13 y15 y41 y42 y43 y64 y65:HV}(g0:¬ ((i:Int) < (q:Int))):RT polBo 50 (sub [1,1,1,0,1,0,0] B50) (env50 (.imm .arg 1 rw) (.agg ps) (.ptr 0 0 0 1) (.i 0) (.ptr 1 0 0 1) (.sl 2 0 m none m 3) (.i (w:Int)) y9 y10 y11 y13 y15 (.sl 3 0 q none q 3) (.i (q:Int)) (.i (i:Int)) y41 y42 y43 y64 y65) [.arr 11 [.agg ps] true 0,.arr 11 [.agg [.i 0,.i 0,.i 0,.i 0,.i 0,.i 0,.i 0,.i 0,.i 0,.i 0,.i 0]] true 0,.arr 3 cs true 0,.arr 3 es true 0] (.exit 0) (env50 (.imm .arg 1 rw) (.agg ps) (.ptr 0 0 0 1) (.i 0) (.ptr 1 0 0 1) (.sl 2 0 m none m 3) (.i (w:Int)) y9 y10 y11 y13 y15 (.sl 3 0 q none q 3) (.i (q:Int)) (.i (i:Int)) y41 y42 y43 y64 y65) [.arr 11 [.agg ps] true 0,.arr 11 [.agg [.i 0,.i 0,.i 0,.i 0,.i 0,.i 0,.i 0,.i 0,.i 0,.i 0,.i 0]] true 0,.arr 3 cs true 0,.arr 3 es true 0] :=
  RunsTo.hin 0 60 [⟨4,0,.bool false,[.arr 11 [.agg ps] true 0,.arr 11 [.agg [.i 0,.i 0,.i 0,.i 0,.i 0,.i 0,.i 0,.i 0,.i 0,.i 0,.i 0]] true 0,.arr 3 cs true 0,.arr 3 es true 0]⟩] fun kf hk=>⟨_,by kernel_rfl,(oB [.arr 11 [.agg ps] true 0,.arr 11 [.agg [.i 0,.i 0,.i 0,.i 0,.i 0,.i 0,.i 0,.i 0,.i 0,.i 0,.i 0]] true 0,.arr 3 cs true 0,.arr 3 es true 0] (decide_eq_false g0) .nil)⟩
theorem bo_f_0 (rw ps:List HV) (m:Nat) (cs:List HV) (q:Nat) (es:List HV) {y7 y9 y10 y11 y13 y15 y21 y22 y23 y41 y42 y43 y64 y65:HV}:RT polBo 50 (sub [1,1,1,1,0] B50) (env50 (.imm .arg 1 rw) (.agg ps) (.ptr 0 0 0 1) (.i 0) (.ptr 1 0 0 1) (.sl 2 0 m none m 3) y7 y9 y10 y11 y13 y15 y21 y22 y23 y41 y42 y43 y64 y65) [.arr 11 [.agg ps] true 0,.arr 11 [.agg [.i 0,.i 0,.i 0,.i 0,.i 0,.i 0,.i 0,.i 0,.i 0,.i 0,.i 0]] true 0,.arr 3 cs true 0,.arr 3 es true 0] .normal (env50 (.imm .arg 1 rw) (.agg ps) (.ptr 0 0 0 1) (.i 0) (.ptr 1 0 0 1) (.sl 2 0 m none m 3) y7 y9 (.i 0) y11 y13 y15 y21 y22 y23 y41 y42 y43 y64 y65) [.arr 11 [.agg ps] true 0,.arr 11 [.agg [.i 0,.i 0,.i 0,.i 0,.i 0,.i 0,.i 0,.i 0,.i 0,.i 0,.i 0]] true 0,.arr 3 cs true 0,.arr 3 es true 0] :=
  RunsTo.hin 0 60 [] fun kf hk=>⟨_,by kernel_rfl,.nil⟩
theorem bo_g_0 (rw ps:List HV) (m:Nat) (cs:List HV) (q:Nat) (es:List HV) {y7 y9 y11 y13 y15 y21 y22 y23 y41 y42 y43 y64 y65:HV}:RT polBo 50 (sub [1,1,1,1,1,0] B50) (env50 (.imm .arg 1 rw) (.agg ps) (.ptr 0 0 0 1) (.i 0) (.ptr 1 0 0 1) (.sl 2 0 m none m 3) y7 y9 (.i 0) y11 y13 y15 y21 y22 y23 y41 y42 y43 y64 y65) [.arr 11 [.agg ps] true 0,.arr 11 [.agg [.i 0,.i 0,.i 0,.i 0,.i 0,.i 0,.i 0,.i 0,.i 0,.i 0,.i 0]] true 0,.arr 3 cs true 0,.arr 3 es true 0] .normal (env50 (.imm .arg 1 rw) (.agg ps) (.ptr 0 0 0 1) (.i 0) (.ptr 1 0 0 1) (.sl 2 0 m none m 3) y7 y9 (.i 0) (.ptr 4 0 0 1) y13 y15 y21 y22 y23 y41 y42 y43 y64 y65) [.arr 11 [.agg ps] true 0,.arr 11 [.agg [.i 0,.i 0,.i 0,.i 0,.i 0,.i 0,.i 0,.i 0,.i 0,.i 0,.i 0]] true 0,.arr 3 cs true 0,.arr 3 es true 0,.arr 11 [.agg [.i 0,.i 0,.i 0,.i 0,.i 0,.i 0,.i 0,.i 0,.i 0,.i 0,.i 0]] true 0] :=
  RunsTo.hin 0 60 [] fun kf hk=>⟨_,by kernel_rfl,.nil⟩
theorem bo_h_0 (rw ps:List HV) (m:Nat) (cs:List HV) (q:Nat) (es:List HV) (aa:List HV) {y7 y9 y13 y15 y21 y22 y23 y41 y42 y43 y64 y65:HV}:RT polBo 50 (sub [1,1,1,1,1,1,0,0] B50) (env50 (.imm .arg 1 rw) (.agg ps) (.ptr 0 0 0 1) (.i 0) (.ptr 1 0 0 1) (.sl 2 0 m none m 3) y7 y9 (.i 0) (.ptr 4 0 0 1) y13 y15 y21 y22 y23 y41 y42 y43 y64 y65) [.arr 11 [.agg ps] true 0,.arr 11 [.agg [.i 0,.i 0,.i 0,.i 0,.i 0,.i 0,.i 0,.i 0,.i 0,.i 0,.i 0]] true 0,.arr 3 cs true 0,.arr 3 es true 0,.arr 11 [.agg aa] true 0] .normal (env50 (.imm .arg 1 rw) (.agg ps) (.ptr 0 0 0 1) (.i 0) (.ptr 1 0 0 1) (.sl 2 0 m none m 3) y7 y9 (.i 0) (.ptr 4 0 0 1) y13 y15 y21 y22 y23 (.sl 2 0 m none m 3) (.i (m:Int)) (.i 0) y64 y65) [.arr 11 [.agg ps] true 0,.arr 11 [.agg [.i 0,.i 0,.i 0,.i 0,.i 0,.i 0,.i 0,.i 0,.i 0,.i 0,.i 0]] true 0,.arr 3 cs true 0,.arr 3 es true 0,.arr 11 [.agg aa] true 0] :=
  RunsTo.hin 0 60 [] fun kf hk=>⟨_,by kernel_rfl,.nil⟩
theorem bo_i_0 (rw ps:List HV) (m:Nat) (cs:List HV) (q:Nat) (es:List HV) (aa:List HV) (sm:Int) (i:Nat) (ec:Int) (ea eb:Nat) {y6 y7 y9 y13 y15 y21 y22 y23 y64 y65:HV} {x0:Int} {cs0:List HV} {x1:Int} {cs1:List HV} (g0:(i:Int) < (m:Int)) (g1:idxV Tp 88 (.sl 2 0 m none m 3) (.i (i:Int))=some (.ptr 2 i 0 m)) (g2:loadV Tp [.arr 11 [.agg ps] true 0,.arr 11 [.agg [.i 0,.i 0,.i 0,.i 0,.i 0,.i 0,.i 0,.i 0,.i 0,.i 0,.i 0]] true 0,.arr 3 cs true 0,.arr 3 es true 0,.arr 11 [.agg aa] true 0] 91 (.ptr 2 i 0 m)=some (.agg [.i ec,.i (ea:Int),.i (eb:Int)])) (g3:idxV Tp 66 (.ptr 4 0 0 1) (.i (ea:Int))=some (.ptr 4 0 ea 1)) (g4:loadV Tp [.arr 11 [.agg ps] true 0,.arr 11 [.agg [.i 0,.i 0,.i 0,.i 0,.i 0,.i 0,.i 0,.i 0,.i 0,.i 0,.i 0]] true 0,.arr 3 cs true 0,.arr 3 es true 0,.arr 11 [.agg aa] true 0,.arr 3 [.agg [.i ec,.i (ea:Int),.i (eb:Int)]] true 0] 3 (.ptr 4 0 ea 1)=some (.i x0)) (g5:idxV Tp 66 (.ptr 4 0 0 1) (.i (ea:Int))=some (.ptr 4 0 ea 1)) (g6:storeV Tp [.arr 11 [.agg ps] true 0,.arr 11 [.agg [.i 0,.i 0,.i 0,.i 0,.i 0,.i 0,.i 0,.i 0,.i 0,.i 0,.i 0]] true 0,.arr 3 cs true 0,.arr 3 es true 0,.arr 11 [.agg aa] true 0,.arr 3 [.agg [.i ec,.i (ea:Int),.i (eb:Int)]] true 0] 3 (.ptr 4 0 ea 1) (.i (IntKind.i64.wrap (x0+1)))=some [.arr 11 [.agg ps] true 0,.arr 11 [.agg [.i 0,.i 0,.i 0,.i 0,.i 0,.i 0,.i 0,.i 0,.i 0,.i 0,.i 0]] true 0,.arr 3 cs true 0,.arr 3 es true 0,.arr 11 [.agg cs0] true 0,.arr 3 [.agg [.i ec,.i (ea:Int),.i (eb:Int)]] true 0]) (g7:idxV Tp 66 (.ptr 4 0 0 1) (.i (eb:Int))=some (.ptr 4 0 eb 1)) (g8:loadV Tp [.arr 11 [.agg ps] true 0,.arr 11 [.agg [.i 0,.i 0,.i 0,.i 0,.i 0,.i 0,.i 0,.i 0,.i 0,.i 0,.i 0]] true 0,.arr 3 cs true 0,.arr 3 es true 0,.arr 11 [.agg cs0] true 0,.arr 3 [.agg [.i ec,.i (ea:Int),.i (eb:Int)]] true 0] 3 (.ptr 4 0 eb 1)=some (.i x1)) (g9:idxV Tp 66 (.ptr 4 0 0 1) (.i (eb:Int))=some (.ptr 4 0 eb 1)) (g10:storeV Tp [.arr 11 [.agg ps] true 0,.arr 11 [.agg [.i 0,.i 0,.i 0,.i 0,.i 0,.i 0,.i 0,.i 0,.i 0,.i 0,.i 0]] true 0,.arr 3 cs true 0,.arr 3 es true 0,.arr 11 [.agg cs0] true 0,.arr 3 [.agg [.i ec,.i (ea:Int),.i (eb:Int)]] true 0] 3 (.ptr 4 0 eb 1) (.i (IntKind.i64.wrap (x1+1)))=some [.arr 11 [.agg ps] true 0,.arr 11 [.agg [.i 0,.i 0,.i 0,.i 0,.i 0,.i 0,.i 0,.i 0,.i 0,.i 0,.i 0]] true 0,.arr 3 cs true 0,.arr 3 es true 0,.arr 11 [.agg cs1] true 0,.arr 3 [.agg [.i ec,.i (ea:Int),.i (eb:Int)]] true 0]):RT polBo 50 (sub [1,1,1,1,1,1,0,1,0,0] B50) (env50 (.imm .arg 1 rw) (.agg ps) (.ptr 0 0 0 1) (.i 0) (.ptr 1 0 0 1) y6 y7 y9 (.i sm) (.ptr 4 0 0 1) y13 y15 y21 y22 y23 (.sl 2 0 m none m 3) (.i (m:Int)) (.i (i:Int)) y64 y65) [.arr 11 [.agg ps] true 0,.arr 11 [.agg [.i 0,.i 0,.i 0,.i 0,.i 0,.i 0,.i 0,.i 0,.i 0,.i 0,.i 0]] true 0,.arr 3 cs true 0,.arr 3 es true 0,.arr 11 [.agg aa] true 0] .normal (env50 (.imm .arg 1 rw) (.agg ps) (.ptr 0 0 0 1) (.i 0) (.ptr 1 0 0 1) y6 y7 y9 (.i (IntKind.i64.wrap (sm+ec))) (.ptr 4 0 0 1) (.ptr 5 0 0 1) y15 y21 y22 y23 (.sl 2 0 m none m 3) (.i (m:Int)) (.i (IntKind.i64.wrap ((i:Int)+1))) y64 y65) [.arr 11 [.agg ps] true 0,.arr 11 [.agg [.i 0,.i 0,.i 0,.i 0,.i 0,.i 0,.i 0,.i 0,.i 0,.i 0,.i 0]] true 0,.arr 3 cs true 0,.arr 3 es true 0,.arr 11 [.agg cs1] true 0,.arr 3 [.agg [.i ec,.i (ea:Int),.i (eb:Int)]] true 0] :=
  RunsTo.hin 0 60 [⟨13,0,.bool true,[.arr 11 [.agg ps] true 0,.arr 11 [.agg [.i 0,.i 0,.i 0,.i 0,.i 0,.i 0,.i 0,.i 0,.i 0,.i 0,.i 0]] true 0,.arr 3 cs true 0,.arr 3 es true 0,.arr 11 [.agg aa] true 0]⟩,⟨14,0,.ptr 2 i 0 m,[.arr 11 [.agg ps] true 0,.arr 11 [.agg [.i 0,.i 0,.i 0,.i 0,.i 0,.i 0,.i 0,.i 0,.i 0,.i 0,.i 0]] true 0,.arr 3 cs true 0,.arr 3 es true 0,.arr 11 [.agg aa] true 0]⟩,⟨14,1,.agg [.i ec,.i (ea:Int),.i (eb:Int)],[.arr 11 [.agg ps] true 0,.arr 11 [.agg [.i 0,.i 0,.i 0,.i 0,.i 0,.i 0,.i 0,.i 0,.i 0,.i 0,.i 0]] true 0,.arr 3 cs true 0,.arr 3 es true 0,.arr 11 [.agg aa] true 0]⟩,⟨16,2,.ptr 4 0 ea 1,[.arr 11 [.agg ps] true 0,.arr 11 [.agg [.i 0,.i 0,.i 0,.i 0,.i 0,.i 0,.i 0,.i 0,.i 0,.i 0,.i 0]] true 0,.arr 3 cs true 0,.arr 3 es true 0,.arr 11 [.agg aa] true 0,.arr 3 [.agg [.i ec,.i (ea:Int),.i (eb:Int)]] true 0]⟩,⟨16,3,.i x0,[.arr 11 [.agg ps] true 0,.arr 11 [.agg [.i 0,.i 0,.i 0,.i 0,.i 0,.i 0,.i 0,.i 0,.i 0,.i 0,.i 0]] true 0,.arr 3 cs true 0,.arr 3 es true 0,.arr 11 [.agg aa] true 0,.arr 3 [.agg [.i ec,.i (ea:Int),.i (eb:Int)]] true 0]⟩,⟨16,5,.ptr 4 0 ea 1,[.arr 11 [.agg ps] true 0,.arr 11 [.agg [.i 0,.i 0,.i 0,.i 0,.i 0,.i 0,.i 0,.i 0,.i 0,.i 0,.i 0]] true 0,.arr 3 cs true 0,.arr 3 es true 0,.arr 11 [.agg aa] true 0,.arr 3 [.agg [.i ec,.i (ea:Int),.i (eb:Int)]] true 0]⟩,⟨16,6,.tuple [],[.arr 11 [.agg ps] true 0,.arr 11 [.agg [.i 0,.i 0,.i 0,.i 0,.i 0,.i 0,.i 0,.i 0,.i 0,.i 0,.i 0]] true 0,.arr 3 cs true 0,.arr 3 es true 0,.arr 11 [.agg cs0] true 0,.arr 3 [.agg [.i ec,.i (ea:Int),.i (eb:Int)]] true 0]⟩,⟨17,2,.ptr 4 0 eb 1,[.arr 11 [.agg ps] true 0,.arr 11 [.agg [.i 0,.i 0,.i 0,.i 0,.i 0,.i 0,.i 0,.i 0,.i 0,.i 0,.i 0]] true 0,.arr 3 cs true 0,.arr 3 es true 0,.arr 11 [.agg cs0] true 0,.arr 3 [.agg [.i ec,.i (ea:Int),.i (eb:Int)]] true 0]⟩,⟨17,3,.i x1,[.arr 11 [.agg ps] true 0,.arr 11 [.agg [.i 0,.i 0,.i 0,.i 0,.i 0,.i 0,.i 0,.i 0,.i 0,.i 0,.i 0]] true 0,.arr 3 cs true 0,.arr 3 es true 0,.arr 11 [.agg cs0] true 0,.arr 3 [.agg [.i ec,.i (ea:Int),.i (eb:Int)]] true 0]⟩,⟨17,5,.ptr 4 0 eb 1,[.arr 11 [.agg ps] true 0,.arr 11 [.agg [.i 0,.i 0,.i 0,.i 0,.i 0,.i 0,.i 0,.i 0,.i 0,.i 0,.i 0]] true 0,.arr 3 cs true 0,.arr 3 es true 0,.arr 11 [.agg cs0] true 0,.arr 3 [.agg [.i ec,.i (ea:Int),.i (eb:Int)]] true 0]⟩,⟨17,6,.tuple [],[.arr 11 [.agg ps] true 0,.arr 11 [.agg [.i 0,.i 0,.i 0,.i 0,.i 0,.i 0,.i 0,.i 0,.i 0,.i 0,.i 0]] true 0,.arr 3 cs true 0,.arr 3 es true 0,.arr 11 [.agg cs1] true 0,.arr 3 [.agg [.i ec,.i (ea:Int),.i (eb:Int)]] true 0]⟩] fun kf hk=>⟨_,by kernel_rfl,(oB [.arr 11 [.agg ps] true 0,.arr 11 [.agg [.i 0,.i 0,.i 0,.i 0,.i 0,.i 0,.i 0,.i 0,.i 0,.i 0,.i 0]] true 0,.arr 3 cs true 0,.arr 3 es true 0,.arr 11 [.agg aa] true 0] (decide_eq_true g0) (oP [.arr 11 [.agg ps] true 0,.arr 11 [.agg [.i 0,.i 0,.i 0,.i 0,.i 0,.i 0,.i 0,.i 0,.i 0,.i 0,.i 0]] true 0,.arr 3 cs true 0,.arr 3 es true 0,.arr 11 [.agg aa] true 0] g1 (oP [.arr 11 [.agg ps] true 0,.arr 11 [.agg [.i 0,.i 0,.i 0,.i 0,.i 0,.i 0,.i 0,.i 0,.i 0,.i 0,.i 0]] true 0,.arr 3 cs true 0,.arr 3 es true 0,.arr 11 [.agg aa] true 0] g2 (oP [.arr 11 [.agg ps] true 0,.arr 11 [.agg [.i 0,.i 0,.i 0,.i 0,.i 0,.i 0,.i 0,.i 0,.i 0,.i 0,.i 0]] true 0,.arr 3 cs true 0,.arr 3 es true 0,.arr 11 [.agg aa] true 0,.arr 3 [.agg [.i ec,.i (ea:Int),.i (eb:Int)]] true 0] g3 (oP [.arr 11 [.agg ps] true 0,.arr 11 [.agg [.i 0,.i 0,.i 0,.i 0,.i 0,.i 0,.i 0,.i 0,.i 0,.i 0,.i 0]] true 0,.arr 3 cs true 0,.arr 3 es true 0,.arr 11 [.agg aa] true 0,.arr 3 [.agg [.i ec,.i (ea:Int),.i (eb:Int)]] true 0] g4 (oP [.arr 11 [.agg ps] true 0,.arr 11 [.agg [.i 0,.i 0,.i 0,.i 0,.i 0,.i 0,.i 0,.i 0,.i 0,.i 0,.i 0]] true 0,.arr 3 cs true 0,.arr 3 es true 0,.arr 11 [.agg aa] true 0,.arr 3 [.agg [.i ec,.i (ea:Int),.i (eb:Int)]] true 0] g5 (oS g6 (oP [.arr 11 [.agg ps] true 0,.arr 11 [.agg [.i 0,.i 0,.i 0,.i 0,.i 0,.i 0,.i 0,.i 0,.i 0,.i 0,.i 0]] true 0,.arr 3 cs true 0,.arr 3 es true 0,.arr 11 [.agg cs0] true 0,.arr 3 [.agg [.i ec,.i (ea:Int),.i (eb:Int)]] true 0] g7 (oP [.arr 11 [.agg ps] true 0,.arr 11 [.agg [.i 0,.i 0,.i 0,.i 0,.i 0,.i 0,.i 0,.i 0,.i 0,.i 0,.i 0]] true 0,.arr 3 cs true 0,.arr 3 es true 0,.arr 11 [.agg cs0] true 0,.arr 3 [.agg [.i ec,.i (ea:Int),.i (eb:Int)]] true 0] g8 (oP [.arr 11 [.agg ps] true 0,.arr 11 [.agg [.i 0,.i 0,.i 0,.i 0,.i 0,.i 0,.i 0,.i 0,.i 0,.i 0,.i 0]] true 0,.arr 3 cs true 0,.arr 3 es true 0,.arr 11 [.agg cs0] true 0,.arr 3 [.agg [.i ec,.i (ea:Int),.i (eb:Int)]] true 0] g9 (oS g10 .nil)))))))))))⟩
theorem bo_i_1 (rw ps:List HV) (m:Nat) (cs:List HV) (q:Nat) (es:List HV) (aa:List HV) (sm:Int) (i:Nat) (ec:Int) (ea eb:Nat) {y6 y7 y9 y13 y15 y21 y22 y23 y64 y65:HV}(g0:¬ ((i:Int) < (m:Int))):RT polBo 50 (sub [1,1,1,1,1,1,0,1,0,0] B50) (env50 (.imm .arg 1 rw) (.agg ps) (.ptr 0 0 0 1) (.i 0) (.ptr 1 0 0 1) y6 y7 y9 (.i sm) (.ptr 4 0 0 1) y13 y15 y21 y22 y23 (.sl 2 0 m none m 3) (.i (m:Int)) (.i (i:Int)) y64 y65) [.arr 11 [.agg ps] true 0,.arr 11 [.agg [.i 0,.i 0,.i 0,.i 0,.i 0,.i 0,.i 0,.i 0,.i 0,.i 0,.i 0]] true 0,.arr 3 cs true 0,.arr 3 es true 0,.arr 11 [.agg aa] true 0] (.exit 2) (env50 (.imm .arg 1 rw) (.agg ps) (.ptr 0 0 0 1) (.i 0) (.ptr 1 0 0 1) y6 y7 y9 (.i sm) (.ptr 4 0 0 1) y13 y15 y21 y22 y23 (.sl 2 0 m none m 3) (.i (m:Int)) (.i (i:Int)) y64 y65) [.arr 11 [.agg ps] true 0,.arr 11 [.agg [.i 0,.i 0,.i 0,.i 0,.i 0,.i 0,.i 0,.i 0,.i 0,.i 0,.i 0]] true 0,.arr 3 cs true 0,.arr 3 es true 0,.arr 11 [.agg aa] true 0] :=
  RunsTo.hin 0 60 [⟨13,0,.bool false,[.arr 11 [.agg ps] true 0,.arr 11 [.agg [.i 0,.i 0,.i 0,.i 0,.i 0,.i 0,.i 0,.i 0,.i 0,.i 0,.i 0]] true 0,.arr 3 cs true 0,.arr 3 es true 0,.arr 11 [.agg aa] true 0]⟩] fun kf hk=>⟨_,by kernel_rfl,(oB [.arr 11 [.agg ps] true 0,.arr 11 [.agg [.i 0,.i 0,.i 0,.i 0,.i 0,.i 0,.i 0,.i 0,.i 0,.i 0,.i 0]] true 0,.arr 3 cs true 0,.arr 3 es true 0,.arr 11 [.agg aa] true 0] (decide_eq_false g0) .nil)⟩
theorem bo_j_0 (rw ps:List HV) (m:Nat) (cs:List HV) (q:Nat) (es:List HV) (aa:List HV) (sm:Int) {y6 y7 y9 y13 y15 y21 y22 y23 y41 y42 y43 y64 y65:HV}(g0:loadV Tp [.arr 11 [.agg ps] true 0,.arr 11 [.agg [.i 0,.i 0,.i 0,.i 0,.i 0,.i 0,.i 0,.i 0,.i 0,.i 0,.i 0]] true 0,.arr 3 cs true 0,.arr 3 es true 0,.arr 11 [.agg aa] true 0] 66 (.ptr 0 0 0 1)=some (.agg ps)):RT polBo 50 (sub [1,1,1,1,1,1,1,0,0] B50) (env50 (.imm .arg 1 rw) (.agg ps) (.ptr 0 0 0 1) (.i 0) (.ptr 1 0 0 1) y6 y7 y9 (.i sm) (.ptr 4 0 0 1) y13 y15 y21 y22 y23 y41 y42 y43 y64 y65) [.arr 11 [.agg ps] true 0,.arr 11 [.agg [.i 0,.i 0,.i 0,.i 0,.i 0,.i 0,.i 0,.i 0,.i 0,.i 0,.i 0]] true 0,.arr 3 cs true 0,.arr 3 es true 0,.arr 11 [.agg aa] true 0] .normal (env50 (.imm .arg 1 rw) (.agg ps) (.ptr 0 0 0 1) (.i 0) (.ptr 1 0 0 1) y6 y7 y9 (.i sm) (.ptr 4 0 0 1) y13 y15 y21 y22 y23 y41 y42 y43 (.agg ps) (.i 0)) [.arr 11 [.agg ps] true 0,.arr 11 [.agg [.i 0,.i 0,.i 0,.i 0,.i 0,.i 0,.i 0,.i 0,.i 0,.i 0,.i 0]] true 0,.arr 3 cs true 0,.arr 3 es true 0,.arr 11 [.agg aa] true 0] :=
  RunsTo.hin 0 60 [⟨19,0,.agg ps,[.arr 11 [.agg ps] true 0,.arr 11 [.agg [.i 0,.i 0,.i 0,.i 0,.i 0,.i 0,.i 0,.i 0,.i 0,.i 0,.i 0]] true 0,.arr 3 cs true 0,.arr 3 es true 0,.arr 11 [.agg aa] true 0]⟩] fun kf hk=>⟨_,by kernel_rfl,(oP [.arr 11 [.agg ps] true 0,.arr 11 [.agg [.i 0,.i 0,.i 0,.i 0,.i 0,.i 0,.i 0,.i 0,.i 0,.i 0,.i 0]] true 0,.arr 3 cs true 0,.arr 3 es true 0,.arr 11 [.agg aa] true 0] g0 .nil)⟩
theorem bo_k_0 (rw ps:List HV) (m:Nat) (cs:List HV) (q:Nat) (es:List HV) (aa:List HV) (sm:Int) (i:Nat) {y3 y6 y7 y9 y13 y15 y21 y22 y23 y41 y42 y43:HV} {x0:Int} (g0:(i:Int) < 11) (g1:elemV Tp 66 (.agg ps) (.i (i:Int))=some (.i x0)):RT polBo 50 (sub [1,1,1,1,1,1,1,0,1,0,0] B50) (env50 (.imm .arg 1 rw) (.agg ps) y3 (.i 0) (.ptr 1 0 0 1) y6 y7 y9 (.i sm) (.ptr 4 0 0 1) y13 y15 y21 y22 y23 y41 y42 y43 (.agg ps) (.i (i:Int))) [.arr 11 [.agg ps] true 0,.arr 11 [.agg [.i 0,.i 0,.i 0,.i 0,.i 0,.i 0,.i 0,.i 0,.i 0,.i 0,.i 0]] true 0,.arr 3 cs true 0,.arr 3 es true 0,.arr 11 [.agg aa] true 0] .normal (env50 (.imm .arg 1 rw) (.agg ps) y3 (.i 0) (.ptr 1 0 0 1) y6 y7 y9 (.i (IntKind.i64.wrap (sm - IntKind.i64.wrap (2 * x0)))) (.ptr 4 0 0 1) y13 (.i x0) y21 y22 y23 y41 y42 y43 (.agg ps) (.i (IntKind.i64.wrap ((i:Int)+1)))) [.arr 11 [.agg ps] true 0,.arr 11 [.agg [.i 0,.i 0,.i 0,.i 0,.i 0,.i 0,.i 0,.i 0,.i 0,.i 0,.i 0]] true 0,.arr 3 cs true 0,.arr 3 es true 0,.arr 11 [.agg aa] true 0] :=
  RunsTo.hin 0 60 [⟨20,0,.bool true,[.arr 11 [.agg ps] true 0,.arr 11 [.agg [.i 0,.i 0,.i 0,.i 0,.i 0,.i 0,.i 0,.i 0,.i 0,.i 0,.i 0]] true 0,.arr 3 cs true 0,.arr 3 es true 0,.arr 11 [.agg aa] true 0]⟩,⟨21,0,.i x0,[.arr 11 [.agg ps] true 0,.arr 11 [.agg [.i 0,.i 0,.i 0,.i 0,.i 0,.i 0,.i 0,.i 0,.i 0,.i 0,.i 0]] true 0,.arr 3 cs true 0,.arr 3 es true 0,.arr 11 [.agg aa] true 0]⟩] fun kf hk=>⟨_,by kernel_rfl,(oB [.arr 11 [.agg ps] true 0,.arr 11 [.agg [.i 0,.i 0,.i 0,.i 0,.i 0,.i 0,.i 0,.i 0,.i 0,.i 0,.i 0]] true 0,.arr 3 cs true 0,.arr 3 es true 0,.arr 11 [.agg aa] true 0] (decide_eq_true g0) (oP [.arr 11 [.agg ps] true 0,.arr 11 [.agg [.i 0,.i 0,.i 0,.i 0,.i 0,.i 0,.i 0,.i 0,.i 0,.i 0,.i 0]] true 0,.arr 3 cs true 0,.arr 3 es true 0,.arr 11 [.agg aa] true 0] g1 .nil))⟩
theorem bo_k_1 (rw ps:List HV) (m:Nat) (cs:List HV) (q:Nat) (es:List HV) (aa:List HV) (sm:Int) (i:Nat) {y3 y6 y7 y9 y13 y15 y21 y22 y23 y41 y42 y43:HV}(g0:¬ ((i:Int) < 11)):RT polBo 50 (sub [1,1,1,1,1,1,1,0,1,0,0] B50) (env50 (.imm .arg 1 rw) (.agg ps) y3 (.i 0) (.ptr 1 0 0 1) y6 y7 y9 (.i sm) (.ptr 4 0 0 1) y13 y15 y21 y22 y23 y41 y42 y43 (.agg ps) (.i (i:Int))) [.arr 11 [.agg ps] true 0,.arr 11 [.agg [.i 0,.i 0,.i 0,.i 0,.i 0,.i 0,.i 0,.i 0,.i 0,.i 0,.i 0]] true 0,.arr 3 cs true 0,.arr 3 es true 0,.arr 11 [.agg aa] true 0] (.exit 4) (env50 (.imm .arg 1 rw) (.agg ps) y3 (.i 0) (.ptr 1 0 0 1) y6 y7 y9 (.i sm) (.ptr 4 0 0 1) y13 y15 y21 y22 y23 y41 y42 y43 (.agg ps) (.i (i:Int))) [.arr 11 [.agg ps] true 0,.arr 11 [.agg [.i 0,.i 0,.i 0,.i 0,.i 0,.i 0,.i 0,.i 0,.i 0,.i 0,.i 0]] true 0,.arr 3 cs true 0,.arr 3 es true 0,.arr 11 [.agg aa] true 0] :=
  RunsTo.hin 0 60 [⟨20,0,.bool false,[.arr 11 [.agg ps] true 0,.arr 11 [.agg [.i 0,.i 0,.i 0,.i 0,.i 0,.i 0,.i 0,.i 0,.i 0,.i 0,.i 0]] true 0,.arr 3 cs true 0,.arr 3 es true 0,.arr 11 [.agg aa] true 0]⟩] fun kf hk=>⟨_,by kernel_rfl,(oB [.arr 11 [.agg ps] true 0,.arr 11 [.agg [.i 0,.i 0,.i 0,.i 0,.i 0,.i 0,.i 0,.i 0,.i 0,.i 0,.i 0]] true 0,.arr 3 cs true 0,.arr 3 es true 0,.arr 11 [.agg aa] true 0] (decide_eq_false g0) .nil)⟩
theorem bo_l_0 (rw ps:List HV) (m:Nat) (cs:List HV) (q:Nat) (es:List HV) (aa:List HV) (sm:Int) {y3 y6 y7 y9 y13 y15 y21 y22 y23 y41 y42 y43 y64 y65:HV}(g0:loadV Tp [.arr 11 [.agg ps] true 0,.arr 11 [.agg [.i 0,.i 0,.i 0,.i 0,.i 0,.i 0,.i 0,.i 0,.i 0,.i 0,.i 0]] true 0,.arr 3 cs true 0,.arr 3 es true 0,.arr 11 [.agg aa] true 0] 66 (.ptr 4 0 0 1)=some (.agg aa)) (g1:storeV Tp [.arr 11 [.agg ps] true 0,.arr 11 [.agg [.i 0,.i 0,.i 0,.i 0,.i 0,.i 0,.i 0,.i 0,.i 0,.i 0,.i 0]] true 0,.arr 3 cs true 0,.arr 3 es true 0,.arr 11 [.agg aa] true 0] 66 (.ptr 1 0 0 1) (.agg aa)=some [.arr 11 [.agg ps] true 0,.arr 11 [.agg aa] true 0,.arr 3 cs true 0,.arr 3 es true 0,.arr 11 [.agg aa] true 0]):RT polBo 50 (sub [1,1,1,1,1,1,1,1] B50) (env50 (.imm .arg 1 rw) (.agg ps) y3 (.i 0) (.ptr 1 0 0 1) y6 y7 y9 (.i sm) (.ptr 4 0 0 1) y13 y15 y21 y22 y23 y41 y42 y43 y64 y65) [.arr 11 [.agg ps] true 0,.arr 11 [.agg [.i 0,.i 0,.i 0,.i 0,.i 0,.i 0,.i 0,.i 0,.i 0,.i 0,.i 0]] true 0,.arr 3 cs true 0,.arr 3 es true 0,.arr 11 [.agg aa] true 0] .ret (env50 (.imm .arg 1 rw) (.agg ps) y3 (.i sm) (.ptr 1 0 0 1) y6 y7 y9 (.i sm) (.ptr 4 0 0 1) y13 y15 y21 y22 y23 y41 y42 y43 y64 y65) [.arr 11 [.agg ps] true 0,.arr 11 [.agg aa] true 0,.arr 3 cs true 0,.arr 3 es true 0,.arr 11 [.agg aa] true 0] :=
  RunsTo.hin 0 60 [⟨24,1,.agg aa,[.arr 11 [.agg ps] true 0,.arr 11 [.agg [.i 0,.i 0,.i 0,.i 0,.i 0,.i 0,.i 0,.i 0,.i 0,.i 0,.i 0]] true 0,.arr 3 cs true 0,.arr 3 es true 0,.arr 11 [.agg aa] true 0]⟩,⟨24,3,.tuple [],[.arr 11 [.agg ps] true 0,.arr 11 [.agg aa] true 0,.arr 3 cs true 0,.arr 3 es true 0,.arr 11 [.agg aa] true 0]⟩] fun kf hk=>⟨_,by kernel_rfl,(oP [.arr 11 [.agg ps] true 0,.arr 11 [.agg [.i 0,.i 0,.i 0,.i 0,.i 0,.i 0,.i 0,.i 0,.i 0,.i 0,.i 0]] true 0,.arr 3 cs true 0,.arr 3 es true 0,.arr 11 [.agg aa] true 0] g0 (oS g1 .nil))⟩
end Go.Proofs.Ytlendaofkmhgmaa
end
section
open Go Go.HL Go.HL.So
namespace Go.Proofs.Ytlendaofkmhgmaa
open Go.Proofs.Try renaming prog → Tp
open Go.HL.HV renaming undef → Ud
theorem res50:Try.f50.results.toList=[.tmp 4,.cell 5 66]:=by kernel_rfl
section
variable {d:List (List Int)} {ps:List Int}
theorem pst {H:Heap} {b i:Nat} {t:List Int} (hb:H[b]?=some (pB t)) (ht:t.length=11) (hi:i < 11) (v:Int):storeV Tp H 3 (.ptr b 0 i 1) (.int .i64 v)=some (H.set b (pB (t.set i v))):=by
  have:=store_cell (P:=Tp) (t:=3) (b:=b) (i:=0) (off:=i) (tot:=1) (v:=.int .i64 v) (cs:=t.map encI) hb rfl rfl z3 rfl rfl (by simp [bnd]) (by simpa [ht] using hi)
  rw [this]
  show some (H.set b (.arr 11 [.agg ((t.map encI).set i (encI v))] true 0))=_
  rw [← List.map_set]
theorem pel {t:List Int} {i:Nat} (ht:t.length=11) (hi:i < 11):elemV Tp 66 (.agg (t.map encI)) (.int .i64 (i:Int))=some (.int .i64 (t.getD i 0)):=by
  have:=elem_arr (P:=Tp) (t:=66) (e:=3) (m:=11) (ik:=.i64) (n:=(i:Int)) (cs:=t.map encI) (v:=.int .i64 (t.getD i 0)) u66 z3 a3 i3 (by omega) (by omega) (by rw [Int.toNat_natCast,List.getElem?_map,List.getElem?_eq_getElem (by omega)]; simp [List.getD,List.getElem?_eq_getElem (show i < t.length by omega),encI])
  exact this
theorem pst_all {H:Heap} {b:Nat} {t u:List Int} (hb:H[b]?=some (pB t)) (ht:t.length=11) (hu:u.length=11):storeV Tp H 66 (.ptr b 0 0 1) (.agg (u.map encI))=some (H.set b (pB u)):=by
  have hc:(u.map encI).all cellV=true:=by simp [cellV,encI]
  have:=store_agg (P:=Tp) (t:=66) (b:=b) (i:=0) (tot:=1) (cs:=t.map encI) (new:=u.map encI) hb rfl rfl (by rw [show tySize Tp 66=some 11 by kernel_rfl]; simp [hu]) (by simp [ht,hu]) (by simp [hu]) hc (ints_bnd u)
  rw [this]; rfl
abbrev Zs:List Int:=List.replicate 11 0
abbrev boH (ps:List Int) (cs es:List Ed):Heap:=[pB ps,pB Zs,bE encE cs,bE encE es]
abbrev boX (ps:List Int) (cs es:List Ed) (e:Ed):Heap:=[pB ps,pB Zs,bE encE cs,bE encE es,.arr 3 [encE e] true 0]
theorem bogc {cs cs2 es:List Ed} {e:Ed} (m w i q:Nat) (y6:HV) (h6:bnd y6 ≤ 4):gc (boH ps cs es).length (bndE (env50 (.imm .arg 1 (d.map encR)) (.agg (ps.map encI)) (.ptr 0 0 0 1) (.int .i64 0) (.ptr 1 0 0 1) y6 (.int .i64 (w:Int)) Ud Ud Ud Ud Ud (.sl 3 0 q none q 3) (.int .i64 (q:Int)) (.int .i64 (i:Int)) Ud Ud Ud Ud Ud)) (boX ps cs2 es e)=boH ps cs2 es:=by
  unfold gc
  have:max (boH ps cs es).length (max (bndE (env50 (.imm .arg 1 (d.map encR)) (.agg (ps.map encI)) (.ptr 0 0 0 1) (.int .i64 0) (.ptr 1 0 0 1) y6 (.int .i64 (w:Int)) Ud Ud Ud Ud Ud (.sl 3 0 q none q 3) (.int .i64 (q:Int)) (.int .i64 (i:Int)) Ud Ud Ud Ud Ud)) (mxs (boX ps cs2 es e)))=4:=by
    have h1:mxs (boX ps cs2 es e)=0:=by simp [mxs,Blk.mx,bE]
    have h2:bndE (env50 (.imm .arg 1 (d.map encR)) (.agg (ps.map encI)) (.ptr 0 0 0 1) (.int .i64 0) (.ptr 1 0 0 1) y6 (.int .i64 (w:Int)) Ud Ud Ud Ud Ud (.sl 3 0 q none q 3) (.int .i64 (q:Int)) (.int .i64 (i:Int)) Ud Ud Ud Ud Ud) ≤ 4:=by
      simp only [bndE,bnd,ints_bnd]; omega
    rw [h1]; show max 4 (max _ 0)=4; omega
  rw [this]; rfl
theorem bo_two (hd:okD d) {es:List Ed} (he:EIn d.length es) (hq:es.length ≤ 500):∀ (k i w:Nat) (cs:List Ed),i+k=es.length → w ≤ 2 → cs.length+k ≤ 700 →
    ∃ y7 y23,RT polBo 50 (sub [1,1,1,0,1,0] B50) (env50 (.imm .arg 1 (d.map encR)) (.agg (ps.map encI)) (.ptr 0 0 0 1) (.int .i64 0) (.ptr 1 0 0 1) (.sl 2 0 cs.length none cs.length 3) (.int .i64 (w:Int)) Ud Ud Ud Ud Ud (.sl 3 0 es.length none es.length 3) (.int .i64 (es.length:Int)) (.int .i64 (i:Int)) Ud Ud Ud Ud Ud) (boH ps cs es) (.exit 0)
      (env50 (.imm .arg 1 (d.map encR)) (.agg (ps.map encI)) (.ptr 0 0 0 1) (.int .i64 0) (.ptr 1 0 0 1) (.sl 2 0 (cs ++ two2 w (es.drop i)).length none (cs ++ two2 w (es.drop i)).length 3) y7 Ud Ud Ud Ud Ud (.sl 3 0 es.length none es.length 3) (.int .i64 (es.length:Int)) y23 Ud Ud Ud Ud Ud) (boH ps (cs ++ two2 w (es.drop i)) es):=by
  have hn:=hd.1
  intro k
  induction k with
  | zero =>
    intro i w cs hi hw ho
    have:i=es.length:=by omega
    subst this
    rw [List.drop_length,two2,List.append_nil]
    exact ⟨_,_,lpo (bo_e_3 (d.map encR) (ps.map encI) cs.length (cs.map encE) es.length (es.map encE) w es.length 0 0 0 (by omega))⟩
  | succ k ih =>
    intro i w cs hi hw ho
    have hdrop:es.drop i=at_ es i :: es.drop (i+1):=by
      rw [List.drop_eq_getElem_cons (by omega)]
      simp [at_,List.getD,List.getElem?_eq_getElem (show i < es.length by omega)]
    have hmem:at_ es i ∈ es:=by
      have:at_ es i=es[i]:=by simp [at_,List.getD,List.getElem?_eq_getElem (show i < es.length by omega)]
      rw [this]; exact List.getElem_mem _
    obtain ⟨ec,ea,eb,hae,ha,hb⟩:∃ (ec:Int) (ea eb:Nat),at_ es i=mkQ ec ea eb∧ea < d.length∧eb < d.length:=by
      obtain ⟨⟨h1,h2⟩,h3,h4⟩:=he _ hmem
      refine ⟨(at_ es i).1,(at_ es i).2.1.toNat,(at_ es i).2.2.toNat,?_,h2,h4⟩
      show at_ es i=((at_ es i).1,_,_)
      rw [Int.toNat_of_nonneg h1,Int.toNat_of_nonneg h3]
    rw [hdrop,hae,two2]
    have hl:=lde (H:=boH ps cs es) (b:=3) (k:=i) (l:=es) rfl rfl (by omega)
    rw [hae] at hl
    by_cases c:(ea:Int)=0
    · by_cases c2:w < 2
      · have s:=bo_e_0 (d.map encR) (ps.map encI) cs.length (cs.map encE) es.length (es.map encE) w i ec ea eb (y9:=Ud) (y10:=Ud) (y11:=Ud) (y13:=Ud) (y15:=Ud) (y41:=Ud) (y42:=Ud) (y43:=Ud) (y64:=Ud) (y65:=Ud) (by omega) (ixe (by omega)) hl c (by omega) (app_Em (H:=boX ps cs es (mkQ ec ea eb)) (b:=2) (o:=cs) rfl (by omega) (mkQ ec ea eb))
        have hs:cs.map encE ++ [HV.agg [.int .i64 ec,.int .i64 (ea:Int),.int .i64 (eb:Int)]]=(cs ++ [mkQ ec ea eb]).map encE:=by simp [encE]
        rw [wrap_succ (by omega),wrap_succ (by omega),hs] at s
        obtain ⟨y7,y23,r⟩:=ih (i+1) (w+1) (cs ++ [mkQ ec ea eb]) (by omega) (by omega) (by simp; omega)
        rw [if_pos ⟨c,c2⟩]
        rw [List.append_assoc,show (cs ++ [mkQ ec ea eb]).length=cs.length+1 by simp] at r
        exact ⟨y7,y23,lop (s) (bogc (cs:=cs) (cs2:=cs ++ [mkQ ec ea eb]) (e:=mkQ ec ea eb) 0 (w+1) (i+1) es.length (.sl 2 0 (cs.length+1) none (cs.length+1) 3) (by simp [bnd])) (r)⟩
      · have s:=bo_e_1 (d.map encR) (ps.map encI) cs.length (cs.map encE) es.length (es.map encE) w i ec ea eb (y9:=Ud) (y10:=Ud) (y11:=Ud) (y13:=Ud) (y15:=Ud) (y41:=Ud) (y42:=Ud) (y43:=Ud) (y64:=Ud) (y65:=Ud) (by omega) (ixe (by omega)) hl c (by omega)
        rw [wrap_succ (by omega)] at s
        obtain ⟨y7,y23,r⟩:=ih (i+1) w cs (by omega) (by omega) (by omega)
        rw [if_neg (fun h=>c2 h.2)]
        exact ⟨y7,y23,lop (s) (bogc (cs:=cs) (cs2:=cs) (e:=mkQ ec ea eb) 0 w (i+1) es.length (.sl 2 0 cs.length none cs.length 3) (by simp [bnd])) (r)⟩
    · have s:=bo_e_2 (d.map encR) (ps.map encI) cs.length (cs.map encE) es.length (es.map encE) w i ec ea eb (y9:=Ud) (y10:=Ud) (y11:=Ud) (y13:=Ud) (y15:=Ud) (y41:=Ud) (y42:=Ud) (y43:=Ud) (y64:=Ud) (y65:=Ud) (by omega) (ixe (by omega)) hl c
      rw [wrap_succ (by omega)] at s
      obtain ⟨y7,y23,r⟩:=ih (i+1) w cs (by omega) (by omega) (by omega)
      rw [if_neg (fun h=>c h.1)]
      exact ⟨y7,y23,lop (s) (bogc (cs:=cs) (cs2:=cs) (e:=mkQ ec ea eb) 0 w (i+1) es.length (.sl 2 0 cs.length none cs.length 3) (by simp [bnd])) (r)⟩
abbrev boD (ps:List Int) (cs es:List Ed) (t:List Int):Heap:=[pB ps,pB Zs,bE encE cs,bE encE es,pB t]
abbrev boY (ps:List Int) (cs es:List Ed) (t:List Int) (e:Ed):Heap:=[pB ps,pB Zs,bE encE cs,bE encE es,pB t,.arr 3 [encE e] true 0]
theorem bogc2 {cs es:List Ed} {t u:List Int} {e:Ed} {m i:Nat} {s:Int}:gc (boD ps cs es t).length (bndE (env50 (.imm .arg 1 (d.map encR)) (.agg (ps.map encI)) (.ptr 0 0 0 1) (.int .i64 0) (.ptr 1 0 0 1) Ud Ud Ud (.int .i64 s) (.ptr 4 0 0 1) Ud Ud Ud Ud Ud (.sl 2 0 m none m 3) (.int .i64 (m:Int)) (.int .i64 (i:Int)) Ud Ud)) (boY ps cs es u e)=boD ps cs es u:=by
  unfold gc
  have:max (boD ps cs es t).length (max (bndE (env50 (.imm .arg 1 (d.map encR)) (.agg (ps.map encI)) (.ptr 0 0 0 1) (.int .i64 0) (.ptr 1 0 0 1) Ud Ud Ud (.int .i64 s) (.ptr 4 0 0 1) Ud Ud Ud Ud Ud (.sl 2 0 m none m 3) (.int .i64 (m:Int)) (.int .i64 (i:Int)) Ud Ud)) (mxs (boY ps cs es u e)))=5:=by
    have h1:mxs (boY ps cs es u e)=0:=by simp [mxs,Blk.mx,bE]
    have h2:bndE (env50 (.imm .arg 1 (d.map encR)) (.agg (ps.map encI)) (.ptr 0 0 0 1) (.int .i64 0) (.ptr 1 0 0 1) Ud Ud Ud (.int .i64 s) (.ptr 4 0 0 1) Ud Ud Ud Ud Ud (.sl 2 0 m none m 3) (.int .i64 (m:Int)) (.int .i64 (i:Int)) Ud Ud) ≤ 5:=by
      simp only [bndE,bnd,ints_bnd]; omega
    rw [h1]; show max 5 (max _ 0)=5; omega
  rw [this]; rfl
theorem bo_sum (hd:okD d) {cs es:List Ed} (he:EIn d.length cs) (hc:costOk cs) (hq:cs.length ≤ 500):∀ (k i:Nat) (t:List Int) (s:Int),i+k=cs.length → CtB t i → -3000000000 * (i:Int) ≤ s → s ≤ 3000000000 * (i:Int) →
    ∃ y13,RT polBo 50 (sub [1,1,1,1,1,1,0,1,0] B50) (env50 (.imm .arg 1 (d.map encR)) (.agg (ps.map encI)) (.ptr 0 0 0 1) (.int .i64 0) (.ptr 1 0 0 1) Ud Ud Ud (.int .i64 s) (.ptr 4 0 0 1) Ud Ud Ud Ud Ud (.sl 2 0 cs.length none cs.length 3) (.int .i64 (cs.length:Int)) (.int .i64 (i:Int)) Ud Ud) (boD ps cs es t) (.exit 2)
      (env50 (.imm .arg 1 (d.map encR)) (.agg (ps.map encI)) (.ptr 0 0 0 1) (.int .i64 0) (.ptr 1 0 0 1) Ud Ud Ud (.int .i64 (sumA (cs.drop i) s)) (.ptr 4 0 0 1) y13 Ud Ud Ud Ud (.sl 2 0 cs.length none cs.length 3) (.int .i64 (cs.length:Int)) (.int .i64 (cs.length:Int)) Ud Ud) (boD ps cs es ((cs.drop i).foldl dstep t)):=by
  have hn:=hd.1
  intro k
  induction k with
  | zero =>
    intro i t s hi hb h1 h2
    have:i=cs.length:=by omega
    subst this
    rw [List.drop_length]
    exact ⟨_,lpo (bo_i_1 (d.map encR) (ps.map encI) cs.length (cs.map encE) es.length (es.map encE) (t.map encI) s cs.length 0 0 0 (by omega))⟩
  | succ k ih =>
    intro i t s hi hb h1 h2
    have hdrop:cs.drop i=at_ cs i :: cs.drop (i+1):=by
      rw [List.drop_eq_getElem_cons (by omega)]
      simp [at_,List.getD,List.getElem?_eq_getElem (show i < cs.length by omega)]
    have hmem:at_ cs i ∈ cs:=by
      have:at_ cs i=cs[i]:=by simp [at_,List.getD,List.getElem?_eq_getElem (show i < cs.length by omega)]
      rw [this]; exact List.getElem_mem _
    have hco:=hc _ hmem
    obtain ⟨ec,ea,eb,hae,ha,hbb⟩:∃ (ec:Int) (ea eb:Nat),at_ cs i=mkQ ec ea eb∧ea < d.length∧eb < d.length:=by
      obtain ⟨⟨h1,h2⟩,h3,h4⟩:=he _ hmem
      refine ⟨(at_ cs i).1,(at_ cs i).2.1.toNat,(at_ cs i).2.2.toNat,?_,h2,h4⟩
      show at_ cs i=((at_ cs i).1,_,_)
      rw [Int.toNat_of_nonneg h1,Int.toNat_of_nonneg h3]
    rw [hae] at hco
    simp only at hco
    rw [hdrop,hae]
    have hl:=lde (H:=boD ps cs es t) (b:=2) (k:=i) (l:=cs) rfl rfl (by omega)
    rw [hae] at hl
    have b1:=hb.2 ea (by omega)
    have hb1:∀ x,x < 11 → 0 ≤ (t.set ea (t.getD ea 0+1)).getD x 0∧(t.set ea (t.getD ea 0+1)).getD x 0 ≤ 2 * (i:Int)+1:=fun x hx=>by
      rw [getDs _ _ _ _ (by rw [hb.1]; omega)]
      have:=hb.2 x hx
      split <;> omega
    have b2:=hb1 eb (by omega)
    have hst:=hb.step (e:=mkQ ec ea eb) (by show ((ea:Int)).toNat < 11; omega) (by show ((eb:Int)).toNat < 11; omega)
    have w1:IntKind.i64.wrap (t.getD ea 0+1)=t.getD ea 0+1:=wrap_id (by omega) (by omega)
    have w2:IntKind.i64.wrap ((t.set ea (t.getD ea 0+1)).getD eb 0+1)=(t.set ea (t.getD ea 0+1)).getD eb 0+1:=wrap_id (by omega) (by omega)
    have w3:IntKind.i64.wrap (s+ec)=s+ec:=wrap_id (by omega) (by omega)
    have st1:=pst (H:=boY ps cs es t (mkQ ec ea eb)) (b:=4) (i:=ea) rfl hb.1 (by omega) (t.getD ea 0+1)
    have st2:=pst (H:=boY ps cs es (t.set ea (t.getD ea 0+1)) (mkQ ec ea eb)) (b:=4) (i:=eb) rfl (by simp [hb.1]) (by omega) ((t.set ea (t.getD ea 0+1)).getD eb 0+1)
    have sb:=bo_i_0 (d.map encR) (ps.map encI) cs.length (cs.map encE) es.length (es.map encE) (t.map encI) s i ec ea eb (y6:=Ud) (y7:=Ud) (y9:=Ud) (y13:=Ud) (y15:=Ud) (y21:=Ud) (y22:=Ud) (y23:=Ud) (y64:=Ud) (y65:=Ud) (by omega) (ixe (by omega)) hl (px (H:=[]) (by omega)) (pl_at (H:=boY ps cs es t (mkQ ec ea eb)) (b:=4) (ps:=t) rfl hb.1 (by omega)) (px (H:=[]) (by omega)) (by rw [w1]; exact st1) (px (H:=[]) (by omega))
      (pl_at (H:=boY ps cs es (t.set ea (t.getD ea 0+1)) (mkQ ec ea eb)) (b:=4) (ps:=t.set ea (t.getD ea 0+1)) rfl (by simp [hb.1]) (by omega)) (px (H:=[]) (by omega)) (by rw [w2]; exact st2)
    rw [wrap_succ (by omega),w3] at sb
    obtain ⟨y13,r⟩:=ih (i+1) (dstep t (mkQ ec ea eb)) (s+ec) (by omega) hst (by omega) (by omega)
    refine ⟨y13,lop sb (bogc2 (d:=d) (ps:=ps) (cs:=cs) (es:=es) (t:=t) (u:=dstep t (mkQ ec ea eb)) (e:=mkQ ec ea eb) (m:=cs.length) (i:=i+1) (s:=s+ec)) r⟩
theorem bo_pr (hp:Small ps) {cs es:List Ed} {t:List Int} {y3 y41 y42 y43:HV}:∀ (k i:Nat) (s:Int),i+k=11 → -10000000000000 - 2000000000 * (i:Int) ≤ s → s ≤ 10000000000000+2000000000 * (i:Int) →
    ∃ y15,RT polBo 50 (sub [1,1,1,1,1,1,1,0,1,0] B50) (env50 (.imm .arg 1 (d.map encR)) (.agg (ps.map encI)) Ud (.int .i64 0) (.ptr 1 0 0 1) Ud Ud Ud (.int .i64 s) (.ptr 4 0 0 1) Ud Ud Ud Ud Ud Ud Ud Ud (.agg (ps.map encI)) (.int .i64 (i:Int))) (boD ps cs es t) (.exit 4)
      (env50 (.imm .arg 1 (d.map encR)) (.agg (ps.map encI)) Ud (.int .i64 0) (.ptr 1 0 0 1) Ud Ud Ud (.int .i64 (sumP (ps.drop i) s)) (.ptr 4 0 0 1) Ud y15 Ud Ud Ud Ud Ud Ud (.agg (ps.map encI)) (.int .i64 (11:Int))) (boD ps cs es t):=by
  intro k
  induction k with
  | zero =>
    intro i s hi h1 h2
    have:i=11:=by omega
    subst this
    rw [List.drop_of_length_le (by rw [hp.1]; omega)]
    exact ⟨_,lpo (bo_k_1 (d.map encR) (ps.map encI) cs.length (cs.map encE) es.length (es.map encE) (t.map encI) s 11 (by omega))⟩
  | succ k ih =>
    intro i s hi h1 h2
    have hl:=hp.1
    have b:=hp.at (i:=i) (by omega)
    have hdrop:ps.drop i=ps.getD i 0 :: ps.drop (i+1):=by
      rw [List.drop_eq_getElem_cons (by omega)]
      simp [List.getD,List.getElem?_eq_getElem (show i < ps.length by omega)]
    rw [hdrop]
    have w1:IntKind.i64.wrap (2 * ps.getD i 0)=2 * ps.getD i 0:=wrap_id (by omega) (by omega)
    have w2:IntKind.i64.wrap (s - 2 * ps.getD i 0)=s - 2 * ps.getD i 0:=wrap_id (by omega) (by omega)
    have sb:=bo_k_0 (d.map encR) (ps.map encI) cs.length (cs.map encE) es.length (es.map encE) (t.map encI) s i (y3:=Ud) (y6:=Ud) (y7:=Ud) (y9:=Ud) (y13:=Ud) (y15:=Ud) (y21:=Ud) (y22:=Ud) (y23:=Ud) (y41:=Ud) (y42:=Ud) (y43:=Ud) (by omega) (pel hl (by omega))
    rw [wrap_succ (by omega),w1,w2] at sb
    obtain ⟨y15,r⟩:=ih (i+1) (s - 2 * ps.getD i 0) (by omega) (by omega) (by omega)
    exact ⟨y15,lop sb (gc_eq _ rfl) r⟩
end
theorem toRes_bd {H:Heap} {s:Int} {t:List Int}:toRes H false (.tuple [.int .i64 s,.agg (t.map encI)])=some (.tuple [.int .i64 s,.agg (t.map encI)]):=by
  have hm:mapO (resCell H [] false) (t.map encI)=some (t.map encI):=mapO_self (f:=resCell H [] false) (g:=encI) (fun _=>rfl) t
  have ho:ownedAll H false (.tuple [.int .i64 s,.agg (t.map encI)])=[]:=by
    have h1:∀ l:List Int,(l.map encI).flatMap (owned H false)=[]:=fun l=>by
      rw [List.flatMap_eq_nil_iff]
      intro v hv
      obtain ⟨k,_,rfl⟩:=List.mem_map.1 hv
      rfl
    simp only [ownedAll,List.flatMap_cons,List.flatMap_nil,cellsOf,h1]
    rfl
  simp only [toRes,ho,List.nodup_nil,if_true,mapO,resVal,hm]
  rfl
theorem degs_ok {d:List (List Int)} (hd:okD d):∀ (l:List Ed) (t:List Int) (k:Nat),EIn d.length l → CtB t k → (l.foldl dstep t).length=11
  | [],t,k,_,h=>h.1
  | e :: l,t,k,he,h=>by
    have hn:=hd.1
    obtain ⟨⟨_,h2⟩,_,h4⟩:=he e (by simp)
    rw [List.foldl_cons]
    exact degs_ok hd l _ (k+1) (fun x hx=>he x (by simp [hx])) (h.step (by omega) (by omega))
theorem bound_ok:PrimOk Tp 50 bound50:=by
  refine primOk_pure (pol:=polBo) (fn:=Try.f50) (cd:=B50) follows_mixed soundBo (by kernel_rfl) (by kernel_rfl) (fnok polBo.prim _ _ (by kernel_rfl)) (by kernel_rfl) ?_
  intro args res h
  unfold bound50 at h
  split at h
  · rename_i rw pv
    split at h
    · rename_i d ps hR hP
      rw [mapO_inv decR_inv hR,mapO_inv decI_inv hP]
      split at h
      · rename_i hc
        obtain ⟨hd,hp⟩:=hc
        cases h
        have hn:=hd.1
        have s0:=bo_a_0 (d.map encR) (ps.map encI) (box_p hp.1)
        have s1:=bo_b_0 (d.map encR) (ps.map encI) (y6:=Ud) (y7:=Ud) (y9:=Ud) (y10:=Ud) (y11:=Ud) (y13:=Ud) (y15:=Ud) (y21:=Ud) (y22:=Ud) (y23:=Ud) (y41:=Ud) (y42:=Ud) (y43:=Ud) (y64:=Ud) (y65:=Ud) (pl_all (b:=0) rfl hp.1) (q61 (pol':=polBo) (f:=1) (by kernel_rfl) hd (by omega) hp _ (arg_rw _ d))
        have s2:=bo_c_0 (d.map encR) (ps.map encI) (treeL d ps 1).length ((treeL d ps 1).map encE) (y7:=Ud) (y9:=Ud) (y10:=Ud) (y11:=Ud) (y13:=Ud) (y15:=Ud) (y21:=Ud) (y22:=Ud) (y23:=Ud) (y41:=Ud) (y42:=Ud) (y43:=Ud) (y64:=Ud) (y65:=Ud)
        have s3:=bo_d_0 (d.map encR) (ps.map encI) (treeL d ps 1).length ((treeL d ps 1).map encE) (y9:=Ud) (y10:=Ud) (y11:=Ud) (y13:=Ud) (y15:=Ud) (y21:=Ud) (y22:=Ud) (y23:=Ud) (y41:=Ud) (y42:=Ud) (y43:=Ud) (y64:=Ud) (y65:=Ud) (pl_all (b:=0) rfl hp.1) (q70 (pol':=polBo) (f:=0) (by kernel_rfl) hd (by omega) hp _ (arg_rw _ d))
        have hel:=edg_len (ps:=ps) (f:=0) hd (by omega)
        have hcl:=chosen_len (ps:=ps) hd
        have htl:(treeL d ps 1).length ≤ 123:=by unfold chosen at hcl; rw [List.length_append] at hcl; omega
        obtain ⟨y7,y23,r1⟩:=bo_two (ps:=ps) hd (edg_in (ps:=ps) (f:=0) (by omega)) (by omega) (edg d ps 0).length 0 0 (treeL d ps 1) (by omega) (by omega) (by omega)
        rw [List.drop_zero,show treeL d ps 1 ++ two2 0 (edg d ps 0)=chosen d ps from rfl] at r1
        have s4:=bo_f_0 (d.map encR) (ps.map encI) (chosen d ps).length ((chosen d ps).map encE) (edg d ps 0).length ((edg d ps 0).map encE) (y9:=Ud) (y10:=Ud) (y11:=Ud) (y13:=Ud) (y15:=Ud) (y41:=Ud) (y42:=Ud) (y43:=Ud) (y64:=Ud) (y65:=Ud) (y7:=y7) (y21:=.sl 3 0 (edg d ps 0).length none (edg d ps 0).length 3) (y22:=.int .i64 ((edg d ps 0).length:Int)) (y23:=y23)
        have s5:=bo_g_0 (d.map encR) (ps.map encI) (chosen d ps).length ((chosen d ps).map encE) (edg d ps 0).length ((edg d ps 0).map encE) (y9:=Ud) (y11:=Ud) (y13:=Ud) (y15:=Ud) (y41:=Ud) (y42:=Ud) (y43:=Ud) (y64:=Ud) (y65:=Ud) (y7:=y7) (y21:=.sl 3 0 (edg d ps 0).length none (edg d ps 0).length 3) (y22:=.int .i64 ((edg d ps 0).length:Int)) (y23:=y23)
        have s6:=bo_h_0 (d.map encR) (ps.map encI) (chosen d ps).length ((chosen d ps).map encE) (edg d ps 0).length ((edg d ps 0).map encE) (Zs.map encI) (y9:=Ud) (y13:=Ud) (y15:=Ud) (y41:=Ud) (y42:=Ud) (y43:=Ud) (y64:=Ud) (y65:=Ud) (y7:=y7) (y21:=.sl 3 0 (edg d ps 0).length none (edg d ps 0).length 3) (y22:=.int .i64 ((edg d ps 0).length:Int)) (y23:=y23)
        obtain ⟨y13,r2⟩:=bo_sum (ps:=ps) (es:=edg d ps 0) hd (chosen_in (ps:=ps) hd) (chosen_cost hd hp) (by omega) (chosen d ps).length 0 Zs 0 (by omega) CtB.zero (by omega) (by omega)
        rw [List.drop_zero] at r2
        have hsb:∀ (l:List Ed) (s:Int) (k:Nat),costOk l → -3000000000 * (k:Int) ≤ s → s ≤ 3000000000 * (k:Int) → -3000000000 * ((k+l.length:Nat):Int) ≤ sumA l s∧sumA l s ≤ 3000000000 * ((k+l.length:Nat):Int):=by
          intro l
          induction l with
          | nil=>intro s k _ h1 h2; exact ⟨by simpa [sumA] using h1,by simpa [sumA] using h2⟩
          | cons e l ih =>
            intro s k hc h1 h2
            have h3:=hc e (by simp)
            have:=ih (s+e.1) (k+1) (fun x hx=>hc x (by simp [hx])) (by omega) (by omega)
            rw [List.length_cons,show k+(l.length+1)=k+1+l.length by omega]
            exact this
        have hsum:=hsb (chosen d ps) 0 0 (chosen_cost hd hp) (by omega) (by omega)
        have htl2:=degs_ok hd (chosen d ps) Zs 0 (chosen_in hd) CtB.zero
        have edg':(chosen d ps).foldl dstep Zs=degs (chosen d ps):=rfl
        rw [edg'] at htl2 r2
        generalize hsA:sumA (chosen d ps) 0=sA at hsum r2
        have s7:=bo_j_0 (d.map encR) (ps.map encI) (chosen d ps).length ((chosen d ps).map encE) (edg d ps 0).length ((edg d ps 0).map encE) ((degs (chosen d ps)).map encI) sA (y6:=Ud) (y7:=Ud) (y9:=Ud) (y15:=Ud) (y21:=Ud) (y22:=Ud) (y23:=Ud) (y64:=Ud) (y65:=Ud) (y13:=y13) (y41:=.sl 2 0 (chosen d ps).length none (chosen d ps).length 3) (y42:=.int .i64 ((chosen d ps).length:Int)) (y43:=.int .i64 ((chosen d ps).length:Int)) (pl_all (b:=0) rfl hp.1)
        obtain ⟨y15,r3⟩:=bo_pr (d:=d) hp (cs:=chosen d ps) (es:=edg d ps 0) (t:=degs (chosen d ps)) (y3:=Ud) (y41:=Ud) (y42:=Ud) (y43:=Ud) 11 0 sA rfl (by omega) (by omega)
        rw [List.drop_zero] at r3
        have eb:sumP ps sA=boundS d ps:=by rw [← hsA]; rfl
        rw [eb] at r3
        have s8:=bo_l_0 (d.map encR) (ps.map encI) (chosen d ps).length ((chosen d ps).map encE) (edg d ps 0).length ((edg d ps 0).map encE) ((degs (chosen d ps)).map encI) (boundS d ps) (y3:=Ud) (y6:=Ud) (y7:=Ud) (y9:=Ud) (y13:=Ud) (y21:=Ud) (y22:=Ud) (y23:=Ud) (y41:=Ud) (y42:=Ud) (y43:=Ud) (y15:=y15) (y64:=.agg (ps.map encI)) (y65:=.int .i64 ((11:Nat):Int)) (pl_all (b:=4) (ps:=degs (chosen d ps)) rfl htl2) (pst_all (H:=boD ps (chosen d ps) (edg d ps 0) (degs (chosen d ps))) (b:=1) (t:=Zs) rfl rfl htl2)
        have r1':=lpi (e0:=(env50 (.imm .arg 1 (d.map encR)) (.agg (ps.map encI)) (.ptr 0 0 0 1) (.int .i64 0) (.ptr 1 0 0 1) (.sl 2 0 (treeL d ps 1).length none (treeL d ps 1).length 3) (.int .i64 0) Ud Ud Ud Ud Ud (.sl 3 0 (edg d ps 0).length none (edg d ps 0).length 3) (.int .i64 ((edg d ps 0).length:Int)) (.int .i64 0) Ud Ud Ud Ud Ud)) r1 (b:=sub [1,1,1,0,1,0,0] B50)
        have r2':=lpi (e0:=(env50 (.imm .arg 1 (d.map encR)) (.agg (ps.map encI)) (.ptr 0 0 0 1) (.int .i64 0) (.ptr 1 0 0 1) (.sl 2 0 (chosen d ps).length none (chosen d ps).length 3) y7 Ud (.int .i64 0) (.ptr 4 0 0 1) Ud Ud (.sl 3 0 (edg d ps 0).length none (edg d ps 0).length 3) (.int .i64 ((edg d ps 0).length:Int)) y23 (.sl 2 0 (chosen d ps).length none (chosen d ps).length 3) (.int .i64 ((chosen d ps).length:Int)) (.int .i64 0) Ud Ud)) r2 (b:=sub [1,1,1,1,1,1,0,1,0,0] B50)
        have r3':=lpi (e0:=(env50 (.imm .arg 1 (d.map encR)) (.agg (ps.map encI)) (.ptr 0 0 0 1) (.int .i64 0) (.ptr 1 0 0 1) Ud Ud Ud (.int .i64 sA) (.ptr 4 0 0 1) y13 Ud Ud Ud Ud (.sl 2 0 (chosen d ps).length none (chosen d ps).length 3) (.int .i64 ((chosen d ps).length:Int)) (.int .i64 ((chosen d ps).length:Int)) (.agg (ps.map encI)) (.int .i64 0))) r3 (b:=sub [1,1,1,1,1,1,1,0,1,0,0] B50)
        have t:=sq (s0) (sq (s1) (sq (s2) (sq (sq (s3) (bke (c:=sub [1,1,1,0,1] B50) (r1')) (c:=sub [1,1,1,0] B50)) (sq (s4) (sq (s5) (sq (sq (s6) (bke (c:=sub [1,1,1,1,1,1,0,1] B50) (r2')) (c:=sub [1,1,1,1,1,1,0] B50)) (sq (sq (s7) (bke (c:=sub [1,1,1,1,1,1,1,0,1] B50) (r3')) (c:=sub [1,1,1,1,1,1,1,0] B50)) (s8) (c:=sub [1,1,1,1,1,1,1] B50)) (c:=sub [1,1,1,1,1,1] B50)) (c:=sub [1,1,1,1,1] B50)) (c:=sub [1,1,1,1] B50)) (c:=sub [1,1,1] B50)) (c:=sub [1,1] B50)) (c:=sub [1] B50)) (c:=B50)
        refine ⟨_,_,_,.tuple [.int .i64 (boundS d ps),.agg ((degs (chosen d ps)).map encI)],t,by simp,?_,toRes_bd⟩
        have hr:=pl_all (H:=[pB ps,pB (degs (chosen d ps)),bE encE (chosen d ps),bE encE (edg d ps 0),pB (degs (chosen d ps))]) (b:=1) rfl htl2
        have hr2:loadV Tp [.arr 11 [.agg (ps.map encI)] true 0,.arr 11 [.agg ((degs (chosen d ps)).map encI)] true 0,.arr 3 ((chosen d ps).map encE) true 0,.arr 3 ((edg d ps 0).map encE) true 0,.arr 11 [.agg ((degs (chosen d ps)).map encI)] true 0] 66 (.ptr 1 0 0 1)=some (.agg ((degs (chosen d ps)).map encI)):=hr
        simp [resultsV,res50,mapO,resultV,env50,Env.get]
        rw [hr2]
      · cases h
    · cases h
  · cases h
end Go.Proofs.Ytlendaofkmhgmaa
end
section
open Go Go.HL Go.HL.So
namespace Go.Proofs.Ytlendaofkmhgmaa
def pad (l:List Int):List Int:=l ++ List.replicate (11 - l.length) 0
def prOk (l:List Int):Prop:=∀ v ∈ l,-10000 ≤ v∧v ≤ 10000
def bndT (d:List (List Int)) (l:List Int):Int:=if d.length < 3 then 2 * at2 d 0 (d.length - 1) else boundS d (pad l)
theorem pad_len {l:List Int} (h:l.length ≤ 11):(pad l).length=11:=by simp [pad]; omega
theorem pad_small {l:List Int} (h:l.length ≤ 11) (hp:prOk l):Small (pad l):=by
  refine ⟨pad_len h,fun x hx=>?_⟩
  rcases List.mem_append.1 hx with hx | hx
  · have:=hp x hx; omega
  · have:=(List.mem_replicate.1 hx).2; omega
end Go.Proofs.Ytlendaofkmhgmaa
end
section
open Go Go.HL Go.HL.So
namespace Go.Proofs.Ytlendaofkmhgmaa
open Go.Proofs.Try renaming prog → Tp
open Go.HL.HV renaming undef → Ud
theorem q50 {pol':Pol} (hp:pol'.prim 50=some bound50) {d:List (List Int)} {ps:List Int} {v:HV} (hd:okD d) (hs:Small ps) (H:Heap) (hv:toArg H 6 v=some (.imm .arg 1 (d.map encR))) :
    ∀ kf,callN Tp pol' (kf+1) 50 [v,.agg (ps.map encI)] H=some (.tuple [.int .i64 (boundS d ps),.agg ((degs (chosen d ps)).map encI)],H):=fun kf=>by
  rw [prim_call (pol:=pol') (g:=50) (F:=bound50) hp (rs:=[.imm .arg 1 (d.map encR),.agg (ps.map encI)]) (by simp only [mapO,hv,arg_agg]) (res:=.tuple [.int .i64 (boundS d ps),.agg ((degs (chosen d ps)).map encI)]) (by simp only [bound50,mapO_map decR_enc,mapO_map decI_enc]; rw [if_pos ⟨hd,hs⟩])]
  have hc:∀ (l:List Int) (H:Heap),recvCells (l.map encI) H=(l.map encI,H):=fun l=>by
    induction l with
    | nil=>intro H; rfl
    | cons x l ih=>intro H; simp only [List.map_cons,recvCells,ih,encI,recvCell]
  simp only [recv,recvVals,recvVal,hc,recvCell]
end Go.Proofs.Ytlendaofkmhgmaa
end
section
open Go Go.HL Go.HL.So
namespace Go.Proofs.Ytlendaofkmhgmaa
abbrev bF (l:List Ed):Blk:=.arr 3 (l.map encF) true 0
abbrev hF (Ls:List (List Ed)):Heap:=Ls.map bF
end Go.Proofs.Ytlendaofkmhgmaa
end
section
open Go Go.HL Go.HL.So
namespace Go.Proofs.Ytlendaofkmhgmaa
section
variable {d:List (List Int)} {l:List Int} {f:Nat}
theorem get_end {α:Type} (l:List α) (x:α):(l ++ [x])[l.length]?=some x:=by simp
theorem prOk.at (h:prOk l) {i:Nat} (hi:i < l.length):-10000 ≤ l.getD i 0∧l.getD i 0 ≤ 10000:=by
  have e:l.getD i 0=l[i]:=by simp [List.getD,List.getElem?_eq_getElem hi]
  rw [e]; exact h _ (List.getElem_mem _)
end
end Go.Proofs.Ytlendaofkmhgmaa
end
section
open Go Go.HL Go.HL.So
namespace Go.Proofs.Ytlendaofkmhgmaa
theorem edg_cong {d:List (List Int)} {p p':List Int} {f:Nat} (hf:f ≤ d.length) (h:∀ a,a < d.length → p.getD a 0=p'.getD a 0):edg d p f=edg d p' f:=by
  obtain ⟨h1,h2⟩:=edg_ok (d:=d) (p:=p) hf
  obtain ⟨h3,h4⟩:=edg_ok (d:=d) (p:=p') hf
  refine strict_eq h1 h3 fun e=>(h2 e).trans (Iff.trans ?_ (h4 e).symm)
  have key:∀ x y,x < y → y < d.length → mkE d p x y=mkE d p' x y:=fun x y hxy hy=>by
    simp only [mkE,cst]
    rw [h x (by omega),h y hy]
  constructor
  · rintro ⟨x,y,hh,e⟩; exact ⟨x,y,hh,by rw [e,key x y hh.2.1 hh.2.2]⟩
  · rintro ⟨x,y,hh,e⟩; exact ⟨x,y,hh,by rw [e,key x y hh.2.1 hh.2.2]⟩
theorem chosen_cong {d:List (List Int)} {p p':List Int} (hd:1 ≤ d.length) (h:∀ a,a < d.length → p.getD a 0=p'.getD a 0):chosen d p=chosen d p':=by
  unfold chosen treeL
  rw [edg_cong (f:=1) hd h,edg_cong (f:=0) (by omega) h]
theorem pad_get (l:List Int) (a:Nat) (ha:a < l.length):(pad l).getD a 0=l.getD a 0:=by
  simp only [pad,List.getD,List.getElem?_append_left ha]
theorem sumP_app (a b:List Int) (s:Int):sumP (a ++ b) s=sumP b (sumP a s):=by simp [sumP,List.foldl_append]
theorem sumP_zero:∀ (k:Nat) (s:Int),sumP (List.replicate k 0) s=s
  | 0,_=>rfl
  | k+1,s=>by
    have:=sumP_zero k (s - 2 * 0)
    rw [show s - 2 * 0=s by omega] at this
    show sumP (List.replicate k 0) (s - 2 * 0)=s
    rw [show s - 2 * 0=s by omega,this]
theorem sumP_pad (l:List Int) (s:Int):sumP (pad l) s=sumP l s:=by rw [pad,sumP_app,sumP_zero]
end Go.Proofs.Ytlendaofkmhgmaa
end
