/- A part of the proof. -/
import Derived.Test.YtaibmipamkaljaaSaA
set_option linter.unusedVariables false
set_option linter.unusedSimpArgs false
set_option linter.unnecessarySimpa false
section
open Go Go.HL
namespace Go.Proofs.Ytaibmipamkaljaa
set_option maxRecDepth 100000
open Go.Proofs.Try renaming prog → Tp
open Go.HL.HV renaming undef → Ud
noncomputable def B24:Code:=Try.f24.body.getD .skip
abbrev env24 (v0 v1 v2 v6 v7 v8 v9 v10:HV):Env:=[(0,v0),(1,v1),(2,v2),(6,v6),(7,v7),(8,v8),(9,v9),(10,v10)]
theorem el_a_0 (gl rw:List HV) (c:Int) :RT polA 24 (sub [0] B24) [(0,.imm .arg 1 gl),(1,.imm .arg 1 rw),(2,.i c)] [] .normal (env24 (.imm .arg 1 gl) (.imm .arg 1 rw) (.i c) (.imm .lit 1 []) Ud Ud Ud Ud) [] :=
  RunsTo.hin 0 60 [] fun kf hk=>⟨_,by kernel_rfl,.nil⟩
theorem el_b_0 (gl rw:List HV) (c:Int)  {y7 y8 y9 y10:HV}:RT polA 24 (sub [1,0] B24) (env24 (.imm .arg 1 gl) (.imm .arg 1 rw) (.i c) (.imm .lit 1 []) y7 y8 y9 y10) [] .normal (env24 (.imm .arg 1 gl) (.imm .arg 1 rw) (.i c) (.imm .lit 1 []) (.sl 0 0 0 none 0 1) y8 y9 y10) [.arr 1 [] true 0] :=
  RunsTo.hin 0 60 [] fun kf hk=>⟨_,by kernel_rfl,.nil⟩
theorem el_c_0 (gl rw:List HV) (c:Int) (p:Nat) (out:List HV) {y8 y9 y10:HV}:RT polA 24 (sub [1,1,0,0] B24) (env24 (.imm .arg 1 gl) (.imm .arg 1 rw) (.i c) (.imm .lit 1 []) (.sl 0 0 p none p 1) y8 y9 y10) [.arr 1 out true 0] .normal (env24 (.imm .arg 1 gl) (.imm .arg 1 rw) (.i c) (.imm .lit 1 []) (.sl 0 0 p none p 1) (.i 0) y9 y10) [.arr 1 out true 0] :=
  RunsTo.hin 0 60 [] fun kf hk=>⟨_,by kernel_rfl,.nil⟩
theorem el_d_0 (gl rw:List HV) (c:Int) (p:Nat) (out:List HV) (i:Nat) {y9 y10:HV}(g0:(i:Int) < (rw.length:Int)) (g1:(i:Int) < c):RT polA 24 (sub [1,1,0,1,0,0,0] B24) (env24 (.imm .arg 1 gl) (.imm .arg 1 rw) (.i c) (.imm .lit 1 []) (.sl 0 0 p none p 1) (.i (i:Int)) y9 y10) [.arr 1 out true 0] .normal (env24 (.imm .arg 1 gl) (.imm .arg 1 rw) (.i c) (.imm .lit 1 []) (.sl 0 0 p none p 1) (.i (i:Int)) y9 y10) [.arr 1 out true 0] :=
  RunsTo.hin 0 60 [⟨3,3,.bool true,[.arr 1 out true 0]⟩,⟨3,7,.bool true,[.arr 1 out true 0]⟩] fun kf hk=>⟨_,by kernel_rfl,(oB [.arr 1 out true 0] (decide_eq_true g0) (oB [.arr 1 out true 0] (decide_eq_true g1) .nil))⟩
theorem el_d_1 (gl rw:List HV) (c:Int) (p:Nat) (out:List HV) (i:Nat) {y9 y10:HV}(g0:(i:Int) < (rw.length:Int)) (g1:¬ ((i:Int) < c)):RT polA 24 (sub [1,1,0,1,0,0,0] B24) (env24 (.imm .arg 1 gl) (.imm .arg 1 rw) (.i c) (.imm .lit 1 []) (.sl 0 0 p none p 1) (.i (i:Int)) y9 y10) [.arr 1 out true 0] (.exit 0) (env24 (.imm .arg 1 gl) (.imm .arg 1 rw) (.i c) (.imm .lit 1 []) (.sl 0 0 p none p 1) (.i (i:Int)) y9 y10) [.arr 1 out true 0] :=
  RunsTo.hin 0 60 [⟨3,3,.bool true,[.arr 1 out true 0]⟩,⟨3,7,.bool false,[.arr 1 out true 0]⟩] fun kf hk=>⟨_,by kernel_rfl,(oB [.arr 1 out true 0] (decide_eq_true g0) (oB [.arr 1 out true 0] (decide_eq_false g1) .nil))⟩
theorem el_d_2 (gl rw:List HV) (c:Int) (p:Nat) (out:List HV) (i:Nat) {y9 y10:HV}(g0:¬ ((i:Int) < (rw.length:Int))):RT polA 24 (sub [1,1,0,1,0,0,0] B24) (env24 (.imm .arg 1 gl) (.imm .arg 1 rw) (.i c) (.imm .lit 1 []) (.sl 0 0 p none p 1) (.i (i:Int)) y9 y10) [.arr 1 out true 0] (.exit 0) (env24 (.imm .arg 1 gl) (.imm .arg 1 rw) (.i c) (.imm .lit 1 []) (.sl 0 0 p none p 1) (.i (i:Int)) y9 y10) [.arr 1 out true 0] :=
  RunsTo.hin 0 60 [⟨3,3,.bool false,[.arr 1 out true 0]⟩] fun kf hk=>⟨_,by kernel_rfl,(oB [.arr 1 out true 0] (decide_eq_false g0) .nil)⟩
theorem el_e_0 (gl rw:List HV) (c:Int) (p:Nat) (out:List HV) (i:Nat) {y9 y10:HV}:RT polA 24 (sub [1,1,0,1,0,0,1,0,0,0] B24) (env24 (.imm .arg 1 gl) (.imm .arg 1 rw) (.i c) (.imm .lit 1 []) (.sl 0 0 p none p 1) (.i (i:Int)) y9 y10) [.arr 1 out true 0] .normal (env24 (.imm .arg 1 gl) (.imm .arg 1 rw) (.i c) (.imm .lit 1 []) (.sl 0 0 p none p 1) (.i (i:Int)) (.sl 1 0 0 none 0 1) y10) [.arr 1 out true 0,.arr 1 [] true 0] :=
  RunsTo.hin 0 60 [] fun kf hk=>⟨_,by kernel_rfl,.nil⟩
theorem el_f_0 (gl rw:List HV) (c:Int) (p:Nat) (out:List HV) (i:Nat) (q:Nat) (row:List HV) {y10:HV}:RT polA 24 (sub [1,1,0,1,0,0,1,0,0,1,0,0] B24) (env24 (.imm .arg 1 gl) (.imm .arg 1 rw) (.i c) (.imm .lit 1 []) (.sl 0 0 p none p 1) (.i (i:Int)) (.sl 1 0 q none q 1) y10) [.arr 1 out true 0,.arr 1 row true 0] .normal (env24 (.imm .arg 1 gl) (.imm .arg 1 rw) (.i c) (.imm .lit 1 []) (.sl 0 0 p none p 1) (.i (i:Int)) (.sl 1 0 q none q 1) (.i 0)) [.arr 1 out true 0,.arr 1 row true 0] :=
  RunsTo.hin 0 60 [] fun kf hk=>⟨_,by kernel_rfl,.nil⟩
theorem el_g_0 (gl rw:List HV) (c:Int) (p:Nat) (out:List HV) (i:Nat) (q:Nat) (row:List HV) (j:Nat) {l0:List HV} {av0:Int} {x0:Int} {md0:Int} (g0:(j:Int) < (gl.length:Int)) (g1:idxV Tp 35 (.imm .arg 1 rw) (.i (i:Int))=some (.vptr (.imm .arg 1 l0))) (g2:∀ kf,callN Tp polA (kf+1) 31 [.imm .arg 1 l0,.i (j:Int)] [.arr 1 out true 0,.arr 1 row true 0]=some (.i av0,[.arr 1 out true 0,.arr 1 row true 0])) (g3:idxV Tp 22 (.imm .arg 1 gl) (.i (j:Int))=some (.vptr (.i x0))) (g4:∀ kf,callN Tp polA (kf+1) 30 [.i av0,.i x0] [.arr 1 out true 0,.arr 1 row true 0]=some (.i md0,[.arr 1 out true 0,.arr 1 row true 0])) (g5:appV [.arr 1 out true 0,.arr 1 row true 0] 1 8 (.sl 1 0 q none q 1) [.i md0]=some (.sl 1 0 (q+1) none (q+1) 1,[.arr 1 out true 0,.arr 1 (row ++ [.i md0]) true 0])) (gS9:((same (.i x0) (.i x0) && sameH ([.arr 1 out true 0,.arr 1 row true 0]:Heap) [.arr 1 out true 0,.arr 1 row true 0] && sameH ([.arr 1 out true 0,.arr 1 row true 0]:Heap) [.arr 1 out true 0,.arr 1 row true 0]) && true)=true):RT polA 24 (sub [1,1,0,1,0,0,1,0,0,1,0,1,0,0] B24) (env24 (.imm .arg 1 gl) (.imm .arg 1 rw) (.i c) (.imm .lit 1 []) (.sl 0 0 p none p 1) (.i (i:Int)) (.sl 1 0 q none q 1) (.i (j:Int))) [.arr 1 out true 0,.arr 1 row true 0] .normal (env24 (.imm .arg 1 gl) (.imm .arg 1 rw) (.i c) (.imm .lit 1 []) (.sl 0 0 p none p 1) (.i (i:Int)) (.sl 1 0 (q+1) none (q+1) 1) (.i (IntKind.i64.wrap ((j:Int)+1)))) [.arr 1 out true 0,.arr 1 (row ++ [.i md0]) true 0] :=
  RunsTo.hin 0 60 [⟨7,3,.bool true,[.arr 1 out true 0,.arr 1 row true 0]⟩,⟨9,3,.vptr (.imm .arg 1 l0),[.arr 1 out true 0,.arr 1 row true 0]⟩,⟨9,6,.i av0,[.arr 1 out true 0,.arr 1 row true 0]⟩,⟨9,9,.vptr (.i x0),[.arr 1 out true 0,.arr 1 row true 0]⟩,⟨9,11,.i md0,[.arr 1 out true 0,.arr 1 row true 0]⟩,⟨9,13,.sl 1 0 (q+1) none (q+1) 1,[.arr 1 out true 0,.arr 1 (row ++ [.i md0]) true 0]⟩] fun kf hk=>⟨_,by kernel_rfl,(oB [.arr 1 out true 0,.arr 1 row true 0] (decide_eq_true g0) (oC (gS9) (oP [.arr 1 out true 0,.arr 1 row true 0] g1 (oC (g2 kf) (oP [.arr 1 out true 0,.arr 1 row true 0] g3 (oC (g4 kf) (oC (g5) .nil)))))))⟩
theorem el_g_1 (gl rw:List HV) (c:Int) (p:Nat) (out:List HV) (i:Nat) (q:Nat) (row:List HV) (j:Nat)(g0:¬ ((j:Int) < (gl.length:Int))):RT polA 24 (sub [1,1,0,1,0,0,1,0,0,1,0,1,0,0] B24) (env24 (.imm .arg 1 gl) (.imm .arg 1 rw) (.i c) (.imm .lit 1 []) (.sl 0 0 p none p 1) (.i (i:Int)) (.sl 1 0 q none q 1) (.i (j:Int))) [.arr 1 out true 0,.arr 1 row true 0] (.exit 2) (env24 (.imm .arg 1 gl) (.imm .arg 1 rw) (.i c) (.imm .lit 1 []) (.sl 0 0 p none p 1) (.i (i:Int)) (.sl 1 0 q none q 1) (.i (j:Int))) [.arr 1 out true 0,.arr 1 row true 0] :=
  RunsTo.hin 0 60 [⟨7,3,.bool false,[.arr 1 out true 0,.arr 1 row true 0]⟩] fun kf hk=>⟨_,by kernel_rfl,(oB [.arr 1 out true 0,.arr 1 row true 0] (decide_eq_false g0) .nil)⟩
theorem el_h_0 (gl rw:List HV) (c:Int) (p:Nat) (out:List HV) (i:Nat) (q:Nat) (row:List HV) (j:Nat) {w0:Bool} (g0:litV Tp true false 35 1 [(0,.sl 1 0 q none q 1)] [.arr 1 out true 0,.arr 1 row true 0]=some (.imm .lit 1 [.imm .own 1 row],[.arr 1 out true 0,.arr 1 row w0 0])) (g1:appV [.arr 1 out true 0,.arr 1 row w0 0] 1 24 (.sl 0 0 p none p 1) [.imm .own 1 row]=some (.sl 0 0 (p+1) none (p+1) 1,[.arr 1 (out ++ [.imm .own 1 row]) true 0,.arr 1 row w0 0])):RT polA 24 (sub [1,1,0,1,0,0,1,0,0,1,1] B24) (env24 (.imm .arg 1 gl) (.imm .arg 1 rw) (.i c) (.imm .lit 1 []) (.sl 0 0 p none p 1) (.i (i:Int)) (.sl 1 0 q none q 1) (.i (j:Int))) [.arr 1 out true 0,.arr 1 row true 0] .normal (env24 (.imm .arg 1 gl) (.imm .arg 1 rw) (.i c) (.imm .lit 1 []) (.sl 0 0 (p+1) none (p+1) 1) (.i (i:Int)) (.sl 1 0 q none q 1) (.i (j:Int))) [.arr 1 (out ++ [.imm .own 1 row]) true 0,.arr 1 row w0 0] :=
  RunsTo.hin 0 60 [⟨10,2,.imm .lit 1 [.imm .own 1 row],[.arr 1 out true 0,.arr 1 row w0 0]⟩,⟨10,3,.sl 0 0 (p+1) none (p+1) 1,[.arr 1 (out ++ [.imm .own 1 row]) true 0,.arr 1 row w0 0]⟩] fun kf hk=>⟨_,by kernel_rfl,(oC (g0) (oC (g1) .nil))⟩
theorem el_i_0 (gl rw:List HV) (c:Int) (p:Nat) (out:List HV) (i:Nat) (H:Heap) {y9 y10:HV}:RT polA 24 (sub [1,1,0,1,0,0,1,1] B24) (env24 (.imm .arg 1 gl) (.imm .arg 1 rw) (.i c) (.imm .lit 1 []) (.sl 0 0 p none p 1) (.i (i:Int)) y9 y10) H .normal (env24 (.imm .arg 1 gl) (.imm .arg 1 rw) (.i c) (.imm .lit 1 []) (.sl 0 0 p none p 1) (.i (IntKind.i64.wrap ((i:Int)+1))) y9 y10) H :=
  RunsTo.hin 0 60 [] fun kf hk=>⟨_,by kernel_rfl,.nil⟩
theorem el_j_0 (gl rw:List HV) (c:Int) (p:Nat) (out:List HV) (i:Nat) {y9 y10:HV}:RT polA 24 (sub [1,1,1] B24) (env24 (.imm .arg 1 gl) (.imm .arg 1 rw) (.i c) (.imm .lit 1 []) (.sl 0 0 p none p 1) (.i (i:Int)) y9 y10) [.arr 1 out true 0] .ret (env24 (.imm .arg 1 gl) (.imm .arg 1 rw) (.i c) (.sl 0 0 p none p 1) (.sl 0 0 p none p 1) (.i (i:Int)) y9 y10) [.arr 1 out true 0] :=
  RunsTo.hin 0 60 [] fun kf hk=>⟨_,by kernel_rfl,.nil⟩
end Go.Proofs.Ytaibmipamkaljaa
end
section
open Go Go.HL
namespace Go.Proofs.Ytaibmipamkaljaa
open Go.Proofs.Try renaming prog → Tp
open Go.HL.HV renaming undef → Ud
theorem res24:Try.f24.results.toList=[.tmp 6]:=by kernel_rfl
abbrev elE (gl:List Int) (R:List (List Int)) (c:Int) (p i:Nat) (v9 v10:HV):Env:=(env24 (.imm .arg 1 (gl.map encI)) (.imm .arg 1 (R.map encR)) (.int .i64 c) (.imm .lit 1 []) (.sl 0 0 p none p 1) (.int .i64 (i:Int)) v9 v10)
abbrev bO (R:List (List Int)):Blk:=.arr 1 (R.map encO) true 0
def rowP (gl r:List Int) (j:Nat):List Int:=(List.range j).map fun (j:Nat)=>modW (atT r (j:Int)) (gl.getD j 0)
theorem rowP_succ (gl r:List Int) (j:Nat):rowP gl r (j+1)=rowP gl r j ++ [modW (atT r (j:Int)) (gl.getD j 0)]:=by simp [rowP,List.range_succ]
theorem rowP_len (gl r:List Int) (j:Nat):(rowP gl r j).length=j:=by simp [rowP]
section
variable {gl:List Int} {R:List (List Int)} {c:Int}
theorem el_in (hp:posG gl=true) (hl:gl.length ≤ 1000) {i:Nat} (hi:i < R.length) (out:List (List Int)):∀ k j,j+k=gl.length →
    ∃ E,RT polA 24 (sub [1,1,0,1,0,0,1,0,0,1,0,1,0] B24) (elE gl R c out.length i (.sl 1 0 (rowP gl (R.getD i []) j).length none (rowP gl (R.getD i []) j).length 1) (.int .i64 (j:Int))) [bO out,bI (rowP gl (R.getD i []) j)] (.exit 2) E [bO out,bI (rowP gl (R.getD i []) gl.length)] ∧
      E=elE gl R c out.length i (.sl 1 0 (rowP gl (R.getD i []) gl.length).length none (rowP gl (R.getD i []) gl.length).length 1) (.int .i64 (gl.length:Int)):=by
  intro k
  induction k with
  | zero =>
    intro j hj
    have:j=gl.length:=by omega
    subst this
    have s:=el_g_1 (gl.map encI) (R.map encR) c out.length (out.map encO) i (rowP gl (R.getD i []) gl.length).length ((rowP gl (R.getD i []) gl.length).map encI) gl.length (by rw [List.length_map]; omega)
    exact ⟨_,lpo (s) (c:=sub [1,1,0,1,0,0,1,0,0,1,0,1,0] B24),rfl⟩
  | succ k ih =>
    intro j hj
    have hjl:j < gl.length:=by omega
    have hv:=(List.all_eq_true.1 hp) (gl.getD j 0) (by
      have:gl.getD j 0=gl[j]:=by simp [List.getD,List.getElem?_eq_getElem hjl]
      rw [this]; exact List.getElem_mem _)
    have hv:=of_decide_eq_true hv
    have a1:=at_at (pol':=polA) (by kernel_rfl) (R.getD i []) (v:=(j:Int)) (by omega) [bO out,bI (rowP gl (R.getD i []) j)]
    have m1:=mod_at (pol':=polA) (by kernel_rfl) (atT (R.getD i []) (j:Int)) hv.1 hv.2 [bO out,bI (rowP gl (R.getD i []) j)]
    have ap:=app_ints (H:=[bO out,bI (rowP gl (R.getD i []) j)]) (b:=1) (o:=rowP gl (R.getD i []) j) (xs:=[modW (atT (R.getD i []) (j:Int)) (gl.getD j 0)]) rfl (by rw [rowP_len]; simp only [List.length_singleton]; omega) (by simp)
    have hs1:sameH [bO out,bI (rowP gl (R.getD i []) j)] [bO out,bI (rowP gl (R.getD i []) j)]=true:=by
      have e1:∀ v ∈ out.map encO,same v v=true:=by
        intro v hv
        obtain ⟨r,_,rfl⟩:=List.mem_map.1 hv
        have:sameL (r.map encI) (r.map encI)=true:=sameL_all fun v hv=>by
          obtain ⟨a,_,rfl⟩:=List.mem_map.1 hv; simp [encI,same]
        simp [encO,same,this]
      have e2:∀ v ∈ (rowP gl (R.getD i []) j).map encI,same v v=true:=by
        intro v hv
        obtain ⟨a,_,rfl⟩:=List.mem_map.1 hv; simp [encI,same]
      have q1:=sameL_all e1
      have q2:=sameL_all e2
      simp only [bO,bI,sameH,q1,q2,beq_self_eq_true,Bool.and_self]
    have s:=el_g_0 (gl.map encI) (R.map encR) c out.length (out.map encO) i (rowP gl (R.getD i []) j).length ((rowP gl (R.getD i []) j).map encI) j (by rw [List.length_map]; omega) (gr hi) a1 (gx hjl) m1 (ap.trans (by rw [List.length_append,List.length_singleton]; simp only [bI,List.map_append]; rfl)) (by rw [hs1]; simp [same])
    rw [wrap_succ (by omega)] at s
    have e:(rowP gl (R.getD i []) j).map encI ++ [.int .i64 (modW (atT (R.getD i []) (j:Int)) (gl.getD j 0))]=(rowP gl (R.getD i []) (j+1)).map encI:=by rw [rowP_succ,List.map_append]; rfl
    rw [e,show (rowP gl (R.getD i []) j).length+1=(rowP gl (R.getD i []) (j+1)).length by rw [rowP_len,rowP_len]] at s
    obtain ⟨E,h1,h2⟩:=ih (j+1) (by omega)
    exact ⟨E,lop (s) (gc_eq _ rfl) (h1),h2⟩
theorem el_out (hp:posG gl=true) (hl:gl.length ≤ 1000) (hR:(R.take c.toNat).length ≤ 900) (hc:0 ≤ c):∀ k i (out:List (List Int)),i+k=(R.take c.toNat).length → out.length=i →
    ∃ i',RT polA 24 (sub [1,1,0,1,0] B24) (elE gl R c out.length i Ud Ud) [bO out] (.exit 0) (elE gl R c (out ++ ((R.take c.toNat).drop i).map (rowE gl)).length i' Ud Ud) [bO (out ++ ((R.take c.toNat).drop i).map (rowE gl))]:=by
  intro k
  induction k with
  | zero =>
    intro i out hi ho
    rw [List.length_take] at hi
    rw [List.drop_of_length_le (by rw [List.length_take]; omega),List.map_nil,List.append_nil]
    by_cases h:i < R.length
    · have s:=el_d_1 (gl.map encI) (R.map encR) c out.length (out.map encO) i (y9:=Ud) (y10:=Ud) (by rw [List.length_map]; omega) (by omega)
      exact ⟨i,lpo (sqo (s) (c:=sub [1,1,0,1,0,0] B24) (b:=sub [1,1,0,1,0,0,1] B24)) (c:=sub [1,1,0,1,0] B24)⟩
    · have s:=el_d_2 (gl.map encI) (R.map encR) c out.length (out.map encO) i (y9:=Ud) (y10:=Ud) (by rw [List.length_map]; omega)
      exact ⟨i,lpo (sqo (s) (c:=sub [1,1,0,1,0,0] B24) (b:=sub [1,1,0,1,0,0,1] B24)) (c:=sub [1,1,0,1,0] B24)⟩
  | succ k ih =>
    intro i out hi ho
    have hi2:=hi
    rw [List.length_take] at hi2
    have hil:i < R.length:=by omega
    have hd:(R.take c.toNat).drop i=R.getD i [] :: (R.take c.toNat).drop (i+1):=by
      rw [List.drop_eq_getElem_cons (by omega)]
      simp [List.getD,List.getElem?_eq_getElem hil,List.getElem_take]
    have d:=el_d_0 (gl.map encI) (R.map encR) c out.length (out.map encO) i (y9:=Ud) (y10:=Ud) (by rw [List.length_map]; omega) (by omega)
    have e:=el_e_0 (gl.map encI) (R.map encR) c out.length (out.map encO) i (y9:=Ud) (y10:=Ud)
    have f:=el_f_0 (gl.map encI) (R.map encR) c out.length (out.map encO) i 0 [] (y10:=Ud)
    obtain ⟨E,g,rfl⟩:=el_in (c:=c) hp hl hil out gl.length 0 (by omega)
    obtain ⟨w,lt⟩:=lit_seal' (P:=Tp) (H:=[bO out,bI (rowP gl (R.getD i []) gl.length)]) (t:=35) (e:=22) (k:=1) (b:=1) (p:=(rowP gl (R.getD i []) gl.length).length) (mx:=0) (bt:=24) (zv:=.imm .lit 0 []) (els:=(rowP gl (R.getD i []) gl.length).map encI) u35 (by kernel_rfl) (by kernel_rfl) (by kernel_rfl) rfl (by simp) (ints_res _)
    have ap:=app_O (H:=[bO out,.arr 1 ((rowP gl (R.getD i []) gl.length).map encI) w 0]) (b:=0) (R:=out) rfl (by omega) (rowP gl (R.getD i []) gl.length)
    have h:=el_h_0 (gl.map encI) (R.map encR) c out.length (out.map encO) i (rowP gl (R.getD i []) gl.length).length ((rowP gl (R.getD i []) gl.length).map encI) gl.length lt (ap.trans (by simp only [List.map_append]; rfl))
    have s3:=el_i_0 (gl.map encI) (R.map encR) c (out.length+1) (out.map encO) i [.arr 1 (out.map encO ++ [.imm .own 1 ((rowP gl (R.getD i []) gl.length).map encI)]) true 0,.arr 1 ((rowP gl (R.getD i []) gl.length).map encI) w 0] (y9:=.sl 1 0 (rowP gl (R.getD i []) gl.length).length none (rowP gl (R.getD i []) gl.length).length 1) (y10:=.int .i64 (gl.length:Int))
    rw [wrap_succ (by omega)] at s3
    obtain ⟨i',nx⟩:=ih (i+1) (out ++ [rowE gl (R.getD i [])]) (by omega) (by simp; omega)
    have hrow:rowP gl (R.getD i []) gl.length=rowE gl (R.getD i []):=rfl
    have hgc:gc [bO out].length (bndE (elE gl R c (out.length+1) (i+1) Ud Ud)) [.arr 1 (out.map encO ++ [.imm .own 1 ((rowP gl (R.getD i []) gl.length).map encI)]) true 0,.arr 1 ((rowP gl (R.getD i []) gl.length).map encI) w 0]=[bO (out ++ [rowE gl (R.getD i [])])]:=by
      have h1:bndE (elE gl R c (out.length+1) (i+1) Ud Ud) ≤ 1:=by simp only [bndE,bnd]; decide
      unfold gc
      have h3:max [bO out].length (max (bndE (elE gl R c (out.length+1) (i+1) Ud Ud)) (mxs [.arr 1 (out.map encO ++ [.imm .own 1 ((rowP gl (R.getD i []) gl.length).map encI)]) true 0,.arr 1 ((rowP gl (R.getD i []) gl.length).map encI) w 0]))=1:=by
        have:mxs [.arr 1 (out.map encO ++ [.imm .own 1 ((rowP gl (R.getD i []) gl.length).map encI)]) true 0,.arr 1 ((rowP gl (R.getD i []) gl.length).map encI) w 0]=0:=rfl
        rw [this]; simp only [List.length_cons,List.length_nil]; omega
      rw [h3,hrow]
      simp only [bO,List.map_append]
      rfl
    refine ⟨i',?_⟩
    rw [hd,List.map_cons,List.append_cons]
    rw [List.length_append,List.length_singleton] at nx
    have bl:=sq (d) (sq (RunsTo.block_normal (i:=1) (c:=sub [1,1,0,1,0,0,1,0] B24) (sq (e) (sq (sq (f) (bke (c:=sub [1,1,0,1,0,0,1,0,0,1,0,1] B24) (g)) (c:=sub [1,1,0,1,0,0,1,0,0,1,0] B24)) (h) (c:=sub [1,1,0,1,0,0,1,0,0,1] B24)) (c:=sub [1,1,0,1,0,0,1,0,0] B24)) (by kernel_rfl)) (s3) (c:=sub [1,1,0,1,0,0,1] B24)) (c:=sub [1,1,0,1,0,0] B24)
    exact lop (bl) hgc (nx)
theorem elements24_ok:PrimOk Tp 24 elements24:=by
  refine primOk_pure (pol:=polA) (fn:=Try.f24) (cd:=B24) follows_mixed soundA (by kernel_rfl) (by kernel_rfl) (fnok polA.prim _ _ (by kernel_rfl)) (by kernel_rfl) ?_
  intro args res h
  obtain ⟨gl,R,c,rfl,hq⟩:=rowsF_inv h
  clear h
  split at hq
  case isFalse=>cases hq
  rename_i hk
  cases hq
  obtain ⟨hp,hl,hR,hc⟩:=hk
  have a:=el_a_0 (gl.map encI) (R.map encR) c
  have b:=el_b_0 (gl.map encI) (R.map encR) c (y7:=Ud) (y8:=Ud) (y9:=Ud) (y10:=Ud)
  have d:=el_c_0 (gl.map encI) (R.map encR) c 0 [] (y8:=Ud) (y9:=Ud) (y10:=Ud)
  obtain ⟨i',lp⟩:=el_out hp hl hR hc (R.take c.toNat).length 0 [] (by omega) rfl
  rw [List.drop_zero,List.nil_append] at lp
  have z:=el_j_0 (gl.map encI) (R.map encR) c (rowsE gl R c).length ((rowsE gl R c).map encO) i' (y9:=Ud) (y10:=Ud)
  have u:=sq (a) (sq (b) (sq (sq (d) (bke (c:=sub [1,1,0,1] B24) (lp)) (c:=sub [1,1,0] B24)) (z) (c:=sub [1,1] B24)) (c:=sub [1] B24)) (c:=B24)
  exact ⟨_,_,_,.sl 0 0 (rowsE gl R c).length none (rowsE gl R c).length 1,u,by simp,by simp only [resultsV,res24]; rfl,res_rs rfl rfl⟩
end
end Go.Proofs.Ytaibmipamkaljaa
end
section
open Go Go.HL
namespace Go.Proofs.Ytaibmipamkaljaa
def GrL (gl:List Int) (g:Gr) (e:Int):Prop :=
  (∃ m,gl=[m]∧g=(m,1,1)∧e=m∧2 ≤ m∧m ≤ 24) ∨ (∃ a b,gl=[a,b]∧g=(a,b,2)∧e=b∧2 ≤ a∧a ≤ 12∧2 ≤ b∧b ≤ 24∧a * b ≤ 144∧b % a=0)
theorem grp_L (l:List Int):∃ g e,GrL (grpT l) g e:=by
  unfold grpT
  split
  · have:=modW_bounds (atT l 1) 23 (by omega) (by omega)
    exact ⟨_,_,.inl ⟨_,rfl,rfl,rfl,by omega,by omega⟩⟩
  · obtain ⟨hA1,hA2⟩:=grpA_bnd l
    obtain ⟨hB1,_⟩:=grpB_bnd l
    have hAA:4 ≤ grpA l * grpA l∧grpA l * grpA l ≤ 144:=⟨Int.mul_le_mul hA1 hA1 (by omega) (by omega),Int.mul_le_mul hA2 hA2 (by omega) (by omega)⟩
    have k1:1 ≤ 24 / grpA l:=(Int.le_ediv_iff_mul_le (by omega)).2 (by omega)
    have k2:1 ≤ 144 / (grpA l * grpA l):=(Int.le_ediv_iff_mul_le (by omega)).2 (by omega)
    have hb:=modW_bounds (atT l 2) (max 1 (min (24 / grpA l) (144 / (grpA l * grpA l)))) (by omega) (by obtain ⟨h1,h2⟩:=grpM_bnd l; omega)
    have hB:grpB l ≤ 24 / grpA l∧grpB l ≤ 144 / (grpA l * grpA l):=by unfold grpB; omega
    have q1:=(Int.le_ediv_iff_mul_le (by omega:0 < grpA l)).1 hB.1
    have q2:=(Int.le_ediv_iff_mul_le (by omega:0 < grpA l * grpA l)).1 hB.2
    have q3:2 * 1 ≤ grpA l * grpB l:=Int.mul_le_mul hA1 hB1 (by omega) (by omega)
    refine ⟨_,_,.inr ⟨grpA l,grpA l * grpB l,rfl,rfl,rfl,hA1,hA2,by omega,by rw [Int.mul_comm]; exact q1,?_,Int.mul_emod_right _ _⟩⟩
    rw [← Int.mul_assoc,Int.mul_comm]; exact q2
theorem GrL.new {gl:List Int} {g:Gr} {e:Int} (h:GrL gl g e):newGroupT gl=(g,true):=by
  rcases h with ⟨m,rfl,rfl,rfl,h1,h2⟩ | ⟨a,b,rfl,rfl,rfl,h1,h2,h3,h4,h5,h6⟩
  · simp only [newGroupT,in_t ⟨h1,h2⟩,if_true]
  · simp only [newGroupT,in_t (a:=a) (lo:=2) (hi:=24) ⟨h1,by omega⟩,in_t ⟨h3,h4⟩,Bool.and_self,if_true,decide_eq_true h5,decide_eq_true h6]
theorem GrL.ok {gl:List Int} {g:Gr} {e:Int} (h:GrL gl g e):grOk g:=by
  rcases h with ⟨m,rfl,rfl,rfl,h1,h2⟩ | ⟨a,b,rfl,rfl,rfl,h1,h2,h3,h4,h5,h6⟩
  · exact ⟨⟨by show 1 ≤ e; omega,by show e ≤ 1000; omega⟩,by show (1:Int) ≤ 1; omega,by show (1:Int) ≤ 1000; omega⟩
  · exact ⟨⟨by show 1 ≤ a; omega,by show a ≤ 1000; omega⟩,by show 1 ≤ e; omega,by show e ≤ 1000; omega⟩
theorem GrL.pos {gl:List Int} {g:Gr} {e:Int} (h:GrL gl g e):posG gl=true∧1 ≤ gl.length∧gl.length ≤ 2∧(∀ j,j < gl.length → 2 ≤ gl.getD j 0∧gl.getD j 0 ≤ 24)∧gl.getD (gl.length - 1) 0=e∧2 ≤ e∧e ≤ 24:=by
  rcases h with ⟨m,rfl,rfl,rfl,h1,h2⟩ | ⟨a,b,rfl,rfl,rfl,h1,h2,h3,h4,h5,h6⟩
  · refine ⟨?_,by simp,by simp,?_,rfl,h1,h2⟩
    · simp only [posG,List.all_cons,List.all_nil,Bool.and_true]; exact decide_eq_true (by omega)
    · intro j hj
      have:j=0:=by simp at hj; exact hj
      subst this; exact ⟨h1,h2⟩
  · refine ⟨?_,by simp,by simp,?_,rfl,h3,h4⟩
    · simp only [posG,List.all_cons,List.all_nil,Bool.and_true,Bool.and_eq_true]; exact ⟨decide_eq_true (by omega),decide_eq_true (by omega)⟩
    · intro j hj
      match j,hj with
      | 0,_=>exact ⟨h1,by show a ≤ 24; omega⟩
      | 1,_=>exact ⟨h3,h4⟩
      | j+2,hj=>simp only [List.length_cons,List.length_nil] at hj; omega
def elOf (r:List Int):El:=(r.getD 0 0,r.getD 1 0)
def rowOk (gl r:List Int):Prop:=r.length=gl.length∧∀ j,j < gl.length → 0 ≤ r.getD j 0∧r.getD j 0 < gl.getD j 0
theorem GrL.elem {gl:List Int} {g:Gr} {e:Int} (h:GrL gl g e) {r:List Int} (hr:rowOk gl r):elementT g r=(elOf r,true):=by
  obtain ⟨hl,hr⟩:=hr
  rcases h with ⟨m,rfl,rfl,rfl,h1,h2⟩ | ⟨a,b,rfl,rfl,rfl,h1,h2,h3,h4,h5,h6⟩
  · match r,hl with
    | [x],_ =>
      have k:=hr 0 (by simp)
      have k1:0 ≤ x∧x ≤ e - 1:=⟨k.1,by have:=k.2; simp at this; omega⟩
      simp only [elementT,in_t k1,and_self,if_true]; rfl
  · match r,hl with
    | [x,y],_ =>
      have k:=hr 0 (by simp)
      have q:=hr 1 (by simp)
      have k1:0 ≤ x∧x ≤ a - 1:=⟨k.1,by have:=k.2; simp at this; omega⟩
      have k2:0 ≤ y∧y ≤ e - 1:=⟨q.1,by have:=q.2; simp at this; omega⟩
      simp only [elementT,in_t k1,in_t k2,and_self,if_true]; rfl
theorem row_ok {gl:List Int} {g:Gr} {e:Int} (h:GrL gl g e) (x:List Int):rowOk gl (rowE gl x):=by
  refine ⟨by simp [rowE],fun j hj=>?_⟩
  have hb:=h.pos.2.2.2.1 j hj
  have e:(rowE gl x).getD j 0=modW (atT x (j:Int)) (gl.getD j 0):=by
    simp [rowE,List.getD,List.getElem?_map,List.getElem?_range hj]
  rw [e]
  exact modW_bounds _ _ (by omega) (by omega)
def zeroAt (g:Gr) (x:El) (k:Nat):Prop:=((k:Int) * x.1) % g.1=0∧((k:Int) * x.2) % g.2.1=0
def mulT (g:Gr) (x:El) (k:Nat):El:=(((k:Int) * x.1) % g.1,((k:Int) * x.2) % g.2.1)
theorem mulT_zero {g:Gr} {x:El} {k:Nat}:mulT g x k=(0,0) ↔ zeroAt g x k:=by simp [mulT,zeroAt,Prod.ext_iff]
theorem mulT_succ (g:Gr) (x:El) (k:Nat):addT g (mulT g x k) x=mulT g x (k+1):=by
  simp only [addT,mulT,Int.emod_add_emod]
  congr 1 <;> · congr 1; rw [show ((k+1:Nat):Int)=(k:Int)+1 by omega,Int.add_mul]; omega
def isOrd (g:Gr) (x:El) (o:Nat):Prop:=1 ≤ o∧zeroAt g x o∧∀ k,1 ≤ k → k < o → ¬ zeroAt g x k
theorem rch_rep {g:Gr} {x:El} (hx:elOk g x):∀ (o:Nat) (w:Wt),w ∈ (rchT g (List.replicate o x)).headD [] ↔ ∃ j:Nat,j ≤ o∧w=((j:Int),mulT g x j)
  | 0,w=>by
    simp only [List.replicate,rchT,List.headD_cons,List.mem_singleton]
    have m0:mulT g x 0=(0,0):=by simp [mulT]
    constructor
    · rintro rfl; exact ⟨0,Nat.le_refl _,by rw [m0]; rfl⟩
    · rintro ⟨j,h1,rfl⟩
      have:j=0:=by omega
      subst this; rw [m0]; rfl
  | o+1,w=>by
    rw [List.replicate_succ]
    show w ∈ rchStep g x ((rchT g (List.replicate o x)).headD []) ↔ _
    rw [mem_step]
    constructor
    · rintro ⟨u,h1,h2⟩
      obtain ⟨j,h3,rfl⟩:=(rch_rep hx o u).1 h1
      rcases h2 with rfl | rfl
      · exact ⟨j,by omega,rfl⟩
      · exact ⟨j+1,by omega,by rw [rchW,mulT_succ]; rfl⟩
    · rintro ⟨j,h1,rfl⟩
      by_cases c:j ≤ o
      · exact ⟨_,(rch_rep hx o _).2 ⟨j,c,rfl⟩,.inl rfl⟩
      · obtain ⟨i,rfl⟩:∃ i,j=i+1:=⟨j - 1,by omega⟩
        exact ⟨_,(rch_rep hx o _).2 ⟨i,by omega,rfl⟩,.inr (by rw [rchW,mulT_succ]; rfl)⟩
theorem partT_len {g:Gr} (hg:grOk g):∀ (l:List El) (i:Nat) (w:Wt),(∀ x ∈ l,elOk g x) → w ∈ (rchT g l).headD [] → ((partT g l i w).length:Int)=w.1
  | [],i,w,_,h=>by simp [rchT] at h; subst h; rfl
  | x :: l,i,w,hl,h=>by
    have hx:=hl x (by simp)
    have hl':∀ y ∈ l,elOk g y:=fun y hy=>hl y (by simp [hy])
    rw [partT]
    split
    · rename_i c; rw [c]; rfl
    · split
      · rename_i c
        have:=partT_len hg l (i+1) _ hl' c
        simp only [List.length_cons]
        simp only at this
        omega
      · rename_i c
        rcases part_next hg hx h with h' | h'
        · exact absurd h' c
        · exact partT_len hg l (i+1) w hl' h'
theorem shT_eq {g:Gr} {l:List El} {t:El} {o:Nat} (h1:((o:Int),t) ∈ (rchT g l).headD []):∀ (f j:Nat),(∀ k,j ≤ k → k < o → ((k:Int),t) ∉ (rchT g l).headD []) → j ≤ o → o < j+f → shT g l t f j=some (partI g l ((o:Int),t)):=by
  intro f
  induction f with
  | zero=>intro j _ h3 h4; omega
  | succ f ih =>
    intro j h2 h3 h4
    rw [shT]
    by_cases c:j=o
    · subst c; rw [if_pos h1]
    · rw [if_neg (h2 j (Nat.le_refl _) (by omega))]
      exact ih (j+1) (fun k a b=>h2 k (by omega) b) (by omega) (by omega)
theorem GrL.zero {gl:List Int} {g:Gr} {e:Int} (h:GrL gl g e) {r:List Int} (hr:rowOk gl r) {o:Nat} (ho:isOrd g (elOf r) o) (hoe:o ≤ 60):∃ p,zeroT gl (List.replicate o r)=(p,0)∧p.length=o:=by
  have he:=h.elem hr
  have hx:elOk g (elOf r):=by have:=element_el h.ok (l:=r) (by rw [he]); rwa [he] at this
  have hes:elemsT g (List.replicate o r)=some (List.replicate o (elOf r)):=by
    unfold elemsT
    rw [if_pos ⟨by simpa using hoe,by rw [List.all_eq_true]; intro x hx; rw [(List.mem_replicate.1 hx).2,he]⟩,List.map_replicate,he]
  have hz:((o:Int),((0,0):El)) ∈ (rchT g (List.replicate o (elOf r))).headD []:=(rch_rep hx o _).2 ⟨o,Nat.le_refl _,by rw [mulT_zero.2 ho.2.1]⟩
  have hs:=shT_eq hz o 1 (fun k h1 h2 h3=>by
    obtain ⟨j,_,hj⟩:=(rch_rep hx o _).1 h3
    simp only [Prod.mk.injEq] at hj
    have:k=j:=by omega
    subst this
    exact ho.2.2 k h1 h2 (mulT_zero.1 hj.2.symm)) ho.1 (by omega)
  refine ⟨partI g (List.replicate o (elOf r)) ((o:Int),(0,0)),?_,?_⟩
  · simp only [zeroT,h.new,if_true,hes,List.length_replicate,hs,shP]
  · have:=partT_len h.ok (List.replicate o (elOf r)) 0 ((o:Int),(0,0)) (fun x hx'=>by rw [(List.mem_replicate.1 hx').2]; exact hx) hz
    simp only [partI,List.length_map]
    simp only at this
    omega
end Go.Proofs.Ytaibmipamkaljaa
end
section
open Go Go.HL
namespace Go.Proofs.Ytaibmipamkaljaa
def cellT (n:Int) (l:List Int) (k r:Nat):Bool:=decide ((((k:Int),(((r:Int),0):El)):Wt) ∈ (rchT (gN n) (l.map (modX n))).headD [])
end Go.Proofs.Ytaibmipamkaljaa
end
section
open Go Go.HL
namespace Go.Proofs.Ytaibmipamkaljaa
def rowV (n:Nat) (s:List Int):List Bool:=(List.range ((n+1) * n)).map fun c=>cellT n s (c / n) (c % n)
def FI (n:Nat) (s:List Int) (T:List Bool) (c:Nat):Prop:=T.length=(n+1) * n∧∀ j,j < c → T.getD j false=cellT n s (j / n) (j % n)
theorem FI.put {n:Nat} {s:List Int} {T:List Bool} {c:Nat} (h:FI n s T c) (hc:c < (n+1) * n):FI n s (T.set c (cellT n s (c / n) (c % n))) (c+1):=by
  refine ⟨by rw [List.length_set]; exact h.1,fun j hj=>?_⟩
  by_cases e:j=c
  · subst e
    simp [List.getD,List.getElem?_set,h.1,hc]
  · have:=h.2 j (by omega)
    simp only [List.getD,List.getElem?_set] at this ⊢
    rw [if_neg (fun h=>e h.symm)]; exact this
theorem FI.row {n:Nat} {s:List Int} {T:List Bool} (h:FI n s T ((n+1) * n)):T=rowV n s:=by
  apply List.ext_getElem
  · rw [h.1]; simp [rowV]
  · intro j h1 h2
    have:=h.2 j (by have:=h.1; omega)
    simp only [rowV,List.getElem_map,List.getElem_range]
    rw [← this]; simp [List.getD,List.getElem?_eq_getElem h1]
end Go.Proofs.Ytaibmipamkaljaa
end
section
open Go Go.HL
namespace Go.Proofs.Ytaibmipamkaljaa
def lessC (gl:List Int) (c:Int) (x:List Int):Int:=codeT gl (lessT gl c x)
def fT (gl:List Int):List (List Int) → Int → Int
  | [],c=>if c=0 then 0 else 1099511627776
  | x :: R,c=>min (fT gl R c) (1+fT gl R (lessC gl c x))
theorem code_bnd {l x:List Int} (h:(newGroupT l).2=true) (hx:elB l x=true):0 ≤ codeT l x∧codeT l x < sizeT l:=by
  rcases grp_cases h with ⟨a,rfl,h1,h2⟩ | ⟨a,b,rfl,h1,h2,h3,h4,h5,h6⟩
  · obtain ⟨u,rfl,k1,k2⟩:=el_one hx
    exact ⟨k1,k2⟩
  · obtain ⟨u,v,rfl,k1,k2⟩:=el_two hx
    have:=cod_b h1 h3 h5 k1 k2
    simp only [codeT,sizeT]; omega
end Go.Proofs.Ytaibmipamkaljaa
end
section
open Go Go.HL
namespace Go.Proofs.Ytaibmipamkaljaa
set_option maxRecDepth 100000
open Go.Proofs.Try renaming prog → Tp
open Go.HL.HV renaming undef → Ud
noncomputable def B28:Code:=Try.f28.body.getD .skip
abbrev env28 (v0 v2:HV):Env:=[(0,v0),(2,v2)]
theorem zr_0 (l:List HV)(g0:makeV Tp false 22 (.i (l.length:Int)) (.i (l.length:Int)) []=some (.sl 0 0 l.length (some l.length) l.length 1,[.arr 1 (List.replicate l.length (.i 0)) true 0])):RT pol 28 (sub [] B28) [(0,.imm .arg 1 l)] [] .ret (env28 (.imm .arg 1 l) (.sl 0 0 l.length (some l.length) l.length 1)) [.arr 1 (List.replicate l.length (.i 0)) true 0] :=
  RunsTo.hin 0 60 [⟨1,2,.sl 0 0 l.length (some l.length) l.length 1,[.arr 1 (List.replicate l.length (.i 0)) true 0]⟩] fun kf hk=>⟨_,by kernel_rfl,(oC (g0) .nil)⟩
end Go.Proofs.Ytaibmipamkaljaa
end
section
open Go Go.HL
namespace Go.Proofs.Ytaibmipamkaljaa
open Go.Proofs.Try renaming prog → Tp
open Go.HL.HV renaming undef → Ud
def zero28:List HV → Option HV:=liF fun l=>if l.length ≤ 1000 then some (.own 1 ((List.replicate l.length (0:Int)).map encI)) else none
theorem res28:Try.f28.results.toList=[.tmp 2]:=by kernel_rfl
theorem info3:(Tp.info? 3).map (fun i=>(i.size,i.bytes,i.zero.map ofConst))=some (1,8,some (.int .i64 0)):=by kernel_rfl
theorem zero28_ok:PrimOk Tp 28 zero28:=by
  refine primOk_pure (pol:=pol) (fn:=Try.f28) (cd:=B28) follows_mixed sound (by kernel_rfl) (by kernel_rfl) (fnok pol.prim _ _ (by kernel_rfl)) (by kernel_rfl) ?_
  intro args res h
  obtain ⟨l,rfl,hq⟩:=liF_inv h
  clear h
  split at hq
  case isFalse=>cases hq
  rename_i hl
  cases hq
  have mk:=makeV_ok (P:=Tp) (H:=[]) (t:=22) (e:=3) (k:=1) (bt:=8) (zv:=.int .i64 0) (n:=(l.length:Int)) u22 info3 (by simp [cellsOf,cellV]) (by simp [cellsOf]) (by omega) (by omega) (by simp only [roomMax]; omega)
  rw [Int.toNat_natCast] at mk
  have s:=zr_0 (l.map encI) (by rw [List.length_map]; exact mk)
  rw [List.length_map] at s
  have e:(List.replicate l.length (0:Int)).map encI=List.replicate l.length (.int .i64 0):=by rw [List.map_replicate]; rfl
  refine ⟨_,_,_,.sl 0 0 l.length (some l.length) l.length 1,s,by simp,by simp only [resultsV,res28]; rfl,?_⟩
  rw [e]
  show toRes _ false _=_
  have hr:=resCell_sl (H:=[.arr 1 (List.replicate l.length (.int .i64 0)) true 0]) (no:=[0]) (b:=0) (k:=1) (m:=l.length) (cap:=some l.length) (els:=List.replicate l.length (.int .i64 0)) rfl (by simp) (by rw [← e]; exact mapO_self (fun r=>frz_int 4 r) _)
  have ho:ownedAll [Blk.arr 1 (List.replicate l.length (.int .i64 0)) true 0] false (.sl 0 0 l.length (some l.length) l.length 1)=[0]:=rfl
  simp only [toRes,ho,List.nodup_cons,List.not_mem_nil,not_false_eq_true,List.nodup_nil,and_self,if_true,resVal,hr]
end Go.Proofs.Ytaibmipamkaljaa
end
section
open Go Go.HL
namespace Go.Proofs.Ytaibmipamkaljaa
def tE (gl:List Int) (c:Int):El:=match gl with | [_,b]=>(c / b,c % b) | _=>(c,0)
abbrev eE (gl x:List Int):El:=tE gl (codeT gl x)
abbrev els (gl:List Int) (R:List (List Int)):List El:=R.map (eE gl)
abbrev grG (gl:List Int):Gr:=(newGroupT gl).1
theorem in_B {a lo hi:Int} (h:lo ≤ a∧a ≤ hi):inB a lo hi=true:=decide_eq_true h
theorem new_one {a:Int} (h1:2 ≤ a) (h2:a ≤ 24):newGroupT [a]=((a,1,1),true):=by simp only [newGroupT]; rw [if_pos (in_B ⟨h1,h2⟩)]
theorem new_two {a b:Int} (h1:2 ≤ a) (h2:a ≤ 24) (h3:2 ≤ b) (h4:b ≤ 24) (h5:a * b ≤ 144) (h6:b % a=0):newGroupT [a,b]=((a,b,2),true):=by
  simp only [newGroupT]; rw [in_B ⟨h1,h2⟩,in_B ⟨h3,h4⟩,decide_eq_true h5,decide_eq_true h6]; rfl
theorem tE_two {b u v a:Int} (h:0 ≤ v∧v < b):tE [a,b] (u * b+v)=(u,v):=by
  show ((u * b+v) / b,(u * b+v) % b)=_
  rw [Int.add_comm,Int.add_mul_ediv_right _ _ (by omega),Int.add_mul_emod_self_right,Int.ediv_eq_zero_of_lt h.1 h.2,Int.emod_eq_of_lt h.1 h.2,Int.zero_add]
theorem el_E {gl x:List Int} (hg:(newGroupT gl).2=true) (hx:elB gl x=true):elementT (grG gl) x=(eE gl x,true):=by
  rcases grp_cases hg with ⟨a,rfl,h1,h2⟩ | ⟨a,b,rfl,h1,h2,h3,h4,h5,h6⟩
  · obtain ⟨u,rfl,k1,k2⟩:=el_one hx
    simp only [grG,new_one h1 h2,elementT]
    rw [if_pos ⟨trivial,in_B ⟨k1,by omega⟩⟩]; rfl
  · obtain ⟨u,v,rfl,k1,k2⟩:=el_two hx
    simp only [grG,new_two h1 h2 h3 h4 h5 h6,elementT,eE,codeT,tE_two k2]
    rw [if_pos ⟨trivial,in_B ⟨k1.1,by omega⟩⟩,if_pos (in_B ⟨k2.1,by omega⟩)]
theorem grG_ok {gl:List Int} (hg:(newGroupT gl).2=true):grOk (grG gl):=by
  rcases grp_cases hg with ⟨a,rfl,h1,h2⟩ | ⟨a,b,rfl,h1,h2,h3,h4,h5,h6⟩
  · simp only [grG,new_one h1 h2]; exact ⟨⟨by show 1 ≤ a; omega,by show a ≤ 1000; omega⟩,by show (1:Int) ≤ 1; omega,by show (1:Int) ≤ 1000; omega⟩
  · simp only [grG,new_two h1 h2 h3 h4 h5 h6]; exact ⟨⟨by show 1 ≤ a; omega,by show a ≤ 1000; omega⟩,by show 1 ≤ b; omega,by show b ≤ 1000; omega⟩
theorem tE_ok {gl:List Int} (hg:(newGroupT gl).2=true) {c:Int} (hc:0 ≤ c∧c < sizeT gl):elOk (grG gl) (tE gl c):=by
  rcases grp_cases hg with ⟨a,rfl,h1,h2⟩ | ⟨a,b,rfl,h1,h2,h3,h4,h5,h6⟩
  · simp only [grG,new_one h1 h2]; exact ⟨hc,Int.le_refl _,by show (0:Int) < 1; omega⟩
  · have c1:c < a * b:=hc.2
    simp only [grG,new_two h1 h2 h3 h4 h5 h6]
    exact ⟨⟨Int.ediv_nonneg hc.1 (by omega),Int.ediv_lt_of_lt_mul (by omega) c1⟩,Int.emod_nonneg _ (by omega),Int.emod_lt_of_pos _ (by omega)⟩
theorem eE_ok {gl x:List Int} (hg:(newGroupT gl).2=true) (hx:elB gl x=true):elOk (grG gl) (eE gl x):=tE_ok hg (code_bnd hg hx)
theorem add_subT {g:Gr} (hg:grOk g) {x u:El} (hu:elOk g u):addT g (subT g u x) x=u:=by
  obtain ⟨m0,m1,sz⟩:=g
  obtain ⟨⟨g1,g2⟩,g3,g4⟩:=hg
  obtain ⟨x0,x1⟩:=x
  obtain ⟨u0,u1⟩:=u
  obtain ⟨⟨b1,b2⟩,b3,b4⟩:=hu
  simp only at g1 g2 g3 g4 b1 b2 b3 b4
  have key:∀ (m a b:Int),0 ≤ b → b < m → ((b - a+m) % m+a) % m=b:=by
    intro m a b h3 h4
    rw [Int.emod_add_emod,show b - a+m+a=b+m by omega,Int.add_emod_right]
    exact Int.emod_eq_of_lt h3 h4
  simp only [subT,addT]
  rw [key m0 x0 u0 b1 b2,key m1 x1 u1 b3 b4]
end Go.Proofs.Ytaibmipamkaljaa
end
section
open Go Go.HL
namespace Go.Proofs.Ytaibmipamkaljaa
open Go.Proofs.Try renaming prog → Tp
open Go.HL.HV renaming undef → Ud
def polAw:Pol:={ pol with shared:=fun g=>sharedT.contains g || g == 54,prim:=fun g=>if g == 49 then some reached49 else if g == 59 then some add59 else none }
set_option maxRecDepth 100000 in
theorem fns_okAw:(Tp.funcs.toList.zipIdx.all fun p=>fnOk { pol with shared:=fun g=>sharedT.contains g || g == 54 } p.2 p.1)=true:=by kernel_rfl
theorem sound_primC (F:FuncId → Option (List HV → Option HV)) (hF:∀ g f,F g=some f → PrimOk Tp g f) (n:Nat):CallSound Tp (callN Tp { pol with shared:=fun g=>sharedT.contains g || g == 54,prim:=F } n) :=
  callN_ok follows_mixed (fun g fn h=>by
    have:=fnOk_prim (pol:={ pol with shared:=fun g=>sharedT.contains g || g == 54 }) (F:=F) g fn
    rw [this]
    exact List.all_eq_true.1 fns_okAw (fn,g) (by
      rw [List.mem_zipIdx_iff_getElem?]
      simpa using h)) hF n
theorem soundAw (n:Nat):CallSound Tp (callN Tp polAw n):=sound_primC _ (fun g f h=>by
  split at h
  · rename_i hg; cases h; rw [eq_of_beq hg]; exact reached_ok
  split at h
  · rename_i hg; cases h; rw [eq_of_beq hg]; exact add_ok
  · cases h) n
set_option maxRecDepth 100000 in
theorem awake_run:callN Tp polAw 400 16 [] []=some (.bool true,[]):=by kernel_rfl
end Go.Proofs.Ytaibmipamkaljaa
end
section
open Go Go.HL
namespace Go.Proofs.Ytaibmipamkaljaa
open Go.Proofs.Try renaming prog → Tp
open Go.HL.HV renaming undef → Ud
theorem awake_prim:PrimOk Tp 16 awakeF:=by
  refine primOk_of (pol:=polAw) soundAw (by kernel_rfl) fun args res h=>?_
  match args,h with
  | [],h =>
    cases h
    exact ⟨400,_,_,false,awake_run,rfl⟩
theorem awake_at {pol':Pol} (hp:pol'.prim 16=some awakeF) (H:Heap):∀ k,callN Tp pol' (k+1) 16 [] H=some (.bool true,H):=fun k=>by
  rw [prim_call (pol:=pol') (g:=16) (F:=awakeF) hp (rs:=[]) rfl (res:=.bool true) rfl]; rfl
theorem group_at {pol':Pol} (hp:pol'.prim 23=some group23) (l:List Int) (H:Heap):∀ k,callN Tp pol' (k+1) 23 [.imm .arg 1 (l.map encI)] H=some (.sl H.length 0 (grpT l).length none (grpT l).length 1,H ++ [bI (grpT l)]):=fun k=>by
  have hX:=arg_li H l
  have hd:mapO decI (l.map encI)=some l:=mapO_map decI_enc l
  rw [prim_call (pol:=pol') (g:=23) (F:=group23) hp (rs:=[.imm .arg 1 (l.map encI)]) (by simp only [mapO,hX]) (res:=.own 1 ((grpT l).map encI)) (by simp only [group23,liF,hd]),recv_ints]
def argI (H:Heap) (v:HV) (l:List Int):Prop:=toArg H 6 v=some (.imm .arg 1 (l.map encI))
theorem elements24_at {pol':Pol} (hp:pol'.prim 24=some elements24) {gl:List Int} {R:List (List Int)} {v1 v2:HV} {c:Int} {H:Heap} (h1:argI H v1 gl) (h2:toArg H 6 v2=some (.imm .arg 1 (R.map encR))) (hk:posG gl=true∧gl.length ≤ 1000∧(R.take c.toNat).length ≤ 900∧0 ≤ c) :
    ∀ k,callN Tp pol' (k+1) 24 [v1,v2,.int .i64 c] H=some (.sl H.length 0 (rowsE gl R c).length none (rowsE gl R c).length 1,H ++ [.arr 1 ((rowsE gl R c).map encO) true 0]):=fun k=>by
  have hc:toArg H 6 (.int .i64 c)=some (.int .i64 c):=rfl
  have hd:mapO decI (gl.map encI)=some gl:=mapO_map decI_enc gl
  have hd2:mapO decR (R.map encR)=some R:=mapO_map decR_enc R
  unfold argI at h1
  rw [prim_call (pol:=pol') (g:=24) (F:=elements24) hp (rs:=[.imm .arg 1 (gl.map encI),.imm .arg 1 (R.map encR),.int .i64 c]) (by simp only [mapO,h1,h2,hc]) (res:=.own 1 ((rowsE gl R c).map encO)) (by simp only [elements24,rowsF,hd,hd2]; rw [if_pos hk]),recv_rows]
theorem zero_at {pol':Pol} (hp:pol'.prim 26=some zero26) {l:List Int} {R:List (List Int)} {v1 v2:HV} {H:Heap} (h1:argI H v1 l) (h2:toArg H 6 v2=some (.imm .arg 1 (R.map encR))) (hR:R.length ≤ 1000) :
    ∀ k,callN Tp pol' (k+1) 26 [v1,v2] H=some (.tuple [.sl H.length 0 (zeroT l R).1.length none (zeroT l R).1.length 1,.int .i64 (zeroT l R).2],H ++ [bI (zeroT l R).1]):=fun k=>by
  have hd:mapO decI (l.map encI)=some l:=mapO_map decI_enc l
  have hd2:mapO decR (R.map encR)=some R:=mapO_map decR_enc R
  unfold argI at h1
  rw [prim_call (pol:=pol') (g:=26) (F:=zero26) hp (rs:=[.imm .arg 1 (l.map encI),.imm .arg 1 (R.map encR)]) (by simp only [mapO,h1,h2]) (res:=.tuple [.own 1 ((zeroT l R).1.map encI),.int .i64 (zeroT l R).2]) (by simp only [zero26,hd,hd2]; rw [if_pos hR]),recv_li1]
end Go.Proofs.Ytaibmipamkaljaa
end
section
open Go Go.HL
namespace Go.Proofs.Ytaibmipamkaljaa
open Go.Proofs.Try renaming prog → Tp
open Go.HL.HV renaming undef → Ud
theorem ints_at {pol':Pol} (hp:pol'.prim 17=some ints17) {a b:List Int} {v1 v2:HV} {H:Heap} (h1:argI H v1 a) (h2:argI H v2 b) (hl:a.length ≤ 1000) :
    ∀ k,callN Tp pol' (k+1) 17 [v1,v2] H=some (.bool (decide (a=b)),H):=fun k=>by
  have hd:mapO decI (a.map encI)=some a:=mapO_map decI_enc a
  have hd2:mapO decI (b.map encI)=some b:=mapO_map decI_enc b
  unfold argI at h1 h2
  rw [prim_call (pol:=pol') (g:=17) (F:=ints17) hp (rs:=[.imm .arg 1 (a.map encI),.imm .arg 1 (b.map encI)]) (by simp only [mapO,h1,h2]) (res:=.bool (decide (a=b))) (by simp only [ints17,llF,hd,hd2]; rw [if_pos hl])]
  rfl
end Go.Proofs.Ytaibmipamkaljaa
end
section
open Go Go.HL
namespace Go.Proofs.Ytaibmipamkaljaa
def rowF (gl:List Int) (R:List (List Int)):List Int:=(List.range (sizeT gl).toNat).map fun (c:Nat)=>fT gl R (c:Int)
def FJ (gl:List Int) (s:List (List Int)) (T:List Int) (c:Nat):Prop:=T.length=(sizeT gl).toNat∧∀ j,j < c → T.getD j 0=fT gl s (j:Int)
theorem FJ.put {gl:List Int} {s:List (List Int)} {T:List Int} {c:Nat} (h:FJ gl s T c) (hc:c < (sizeT gl).toNat):FJ gl s (T.set c (fT gl s (c:Int))) (c+1):=by
  refine ⟨by rw [List.length_set]; exact h.1,fun j hj=>?_⟩
  by_cases e:j=c
  · subst e
    simp [List.getD,List.getElem?_set,h.1,hc]
  · have:=h.2 j (by omega)
    simp only [List.getD,List.getElem?_set] at this ⊢
    rw [if_neg (fun h=>e h.symm)]; exact this
theorem FJ.row {gl:List Int} {s:List (List Int)} {T:List Int} (h:FJ gl s T (sizeT gl).toNat):T=rowF gl s:=by
  apply List.ext_getElem
  · rw [h.1]; simp [rowF]
  · intro j h1 h2
    have:=h.2 j (by have:=h.1; omega)
    simp only [rowF,List.getElem_map,List.getElem_range]
    rw [← this]; simp [List.getD,List.getElem?_eq_getElem h1]
section
variable {gl:List Int} {R:List (List Int)} {xs:List Int} {ls:Int}
theorem drop_cons {α:Type} {R:List α} {i:Nat} (a:α) (h:i < R.length):R.drop i=R.getD i a :: R.drop (i+1):=by
  rw [List.drop_eq_getElem_cons h]; simp [List.getD,List.getElem?_eq_getElem h]
end
theorem toRes_lb {H:Heap} {b k:Nat} {cap:Option Nat} {o:List Int} (hb:H[b]?=some (bI o)) (hk:o.length=k) (x:Bool):toRes H false (.tuple [.sl b 0 k cap k 1,.bool x])=some (.tuple [.own 1 (o.map encI),.bool x]):=by
  have hr:=resCell_sl (H:=H) (no:=[b]) (b:=b) (k:=1) (m:=k) (cap:=cap) (els:=o.map encI) hb (by simpa using hk) (mapO_self (fun r=>frz_int 4 r) _)
  have ho:ownedAll H false (.tuple [.sl b 0 k cap k 1,.bool x])=[b]:=by simp [ownedAll,cellsOf,owned,hb]
  simp only [toRes,ho,List.nodup_cons,List.not_mem_nil,not_false_eq_true,List.nodup_nil,and_self,if_true,resVal,mapO,hr]
  rfl
end Go.Proofs.Ytaibmipamkaljaa
end
section
open Go Go.HL
namespace Go.Proofs.Ytaibmipamkaljaa
open Go.Proofs.Try renaming prog → Tp
open Go.HL.HV renaming undef → Ud
def argR (H:Heap) (v:HV) (R:List (List Int)):Prop:=toArg H 6 v=some (.imm .arg 1 (R.map encR))
theorem argR_imm (H:Heap) (R:List (List Int)):argR H (.imm .arg 1 (R.map encR)) R:=arg_rw H R
theorem argR_sl {H:Heap} {R:List (List Int)} {b m mx:Nat} (hm:R.length=m) (hb:H[b]?=some (.arr 1 (R.map encO) true mx)):argR H (.sl b 0 m none m 1) R:=arg_rs hm hb
theorem argI_sl {H:Heap} {l:List Int} {b m:Nat} (hm:l.length=m) (hb:H[b]?=some (bI l)):argI H (.sl b 0 m none m 1) l:=arg_sl hm hb
abbrev bR (R:List (List Int)):Blk:=.arr 1 (R.map encO) true 0
theorem zero28_at {pol':Pol} (hp:pol'.prim 28=some zero28) {l:List Int} {v:HV} {H:Heap} (h1:argI H v l) (hl:l.length ≤ 1000) :
    ∀ k,callN Tp pol' (k+1) 28 [v] H=some (.sl H.length 0 l.length none l.length 1,H ++ [bI (List.replicate l.length 0)]):=fun k=>by
  have hd:mapO decI (l.map encI)=some l:=mapO_map decI_enc l
  unfold argI at h1
  rw [prim_call (pol:=pol') (g:=28) (F:=zero28) hp (rs:=[.imm .arg 1 (l.map encI)]) (by simp only [mapO,h1]) (res:=.own 1 ((List.replicate l.length (0:Int)).map encI)) (by simp only [zero28,liF,hd]; rw [if_pos hl]),recv_ints,List.length_replicate]
theorem recv_lb (l:List Int) (x:Bool) (H:Heap):recv (.tuple [.own 1 (l.map encI),.bool x]) H=(.tuple [.sl H.length 0 l.length none l.length 1,.bool x],H ++ [bI l]):=by
  have h:recvCell (.own 1 (l.map encI)) H=(.sl H.length 0 l.length none l.length 1,H ++ [bI l]):=by
    simp only [recvCell,encI_any,List.length_map]; rfl
  simp only [recv,recvVals,recvVal,h]; rfl
end Go.Proofs.Ytaibmipamkaljaa
end
section
namespace Go.Proofs.Ytaibmipamkaljaa
namespace Ol
abbrev V:=Int × Int × Int
def vadd (a b:V):V:=(a.1+b.1,a.2.1+b.2.1,a.2.2+b.2.2)
theorem vadd_rc (x a d:V):vadd (vadd x d) a=vadd (vadd x a) d:=by
  simp only [vadd]; refine Prod.ext (by show x.1+d.1+a.1=x.1+a.1+d.1; omega) (Prod.ext (by show x.2.1+d.2.1+a.2.1=x.2.1+a.2.1+d.2.1; omega) (by show x.2.2+d.2.2+a.2.2=x.2.2+a.2.2+d.2.2; omega))
theorem vadd_assoc (a b c:V):vadd (vadd a b) c=vadd a (vadd b c):=by
  simp only [vadd]; refine Prod.ext (by show a.1+b.1+c.1=a.1+(b.1+c.1); omega) (Prod.ext (by show a.2.1+b.2.1+c.2.1=a.2.1+(b.2.1+c.2.1); omega) (by show a.2.2+b.2.2+c.2.2=a.2.2+(b.2.2+c.2.2); omega))
theorem vadd_zero (a:V):vadd a (0,0,0)=a:=by simp [vadd]
theorem zero_vadd (a:V):vadd (0,0,0) a=a:=by simp [vadd]
def Dg:Nat → (V → Int) → Prop
  | 0,f=>∀ x,f x=0
  | k+1,f=>∀ h,Dg k (fun x=>f (vadd x h) - f x)
theorem Dg.congr {k:Nat} {f g:V → Int} (hf:Dg k f) (h:∀ x,f x=g x):Dg k g:=by
  have:f=g:=funext h
  exact this ▸ hf
theorem Dg.succ:∀ {k:Nat} {f:V → Int},Dg k f → Dg (k+1) f
  | 0,f,h=>fun d x=>by show f _ - f x=0; rw [h,h]; rfl
  | _+1,_,h=>fun d=>Dg.succ (h d)
theorem Dg.le {k m:Nat} {f:V → Int} (h:Dg k f) (hk:k ≤ m):Dg m f:=by
  induction hk with
  | refl=>exact h
  | step _ ih=>exact ih.succ
theorem Dg.add:∀ {k:Nat} {f g:V → Int},Dg k f → Dg k g → Dg k (fun x=>f x+g x)
  | 0,f,g,h1,h2=>fun x=>by show f x+g x=0; rw [h1,h2]; rfl
  | k+1,f,g,h1,h2=>fun d=>((h1 d).add (h2 d)).congr fun x=>by
    show f _ - f x+(g _ - g x)=f _+g _ - (f x+g x); omega
theorem Dg.shift:∀ {k:Nat} {f:V → Int} (a:V),Dg k f → Dg k (fun x=>f (vadd x a))
  | 0,f,a,h=>fun x=>h _
  | k+1,f,a,h=>fun d=>(Dg.shift a (h d)).congr fun x=>by
    show f (vadd (vadd x a) d) - f (vadd x a)=f (vadd (vadd x d) a) - f (vadd x a)
    rw [vadd_rc]
theorem Dg.mulA:∀ (n:Nat) {a b:Nat} {f g:V → Int},a+b ≤ n → Dg a f → Dg b g → Dg (a+b - 1) (fun x=>f x * g x)
  | n,0,b,f,g,_,h1,_=>Dg.le (k:=0) (fun x=>by show f x * g x=0; rw [h1 x,Int.zero_mul]) (Nat.zero_le _)
  | n,a+1,0,f,g,_,_,h2=>Dg.le (k:=0) (fun x=>by show f x * g x=0; rw [h2 x,Int.mul_zero]) (Nat.zero_le _)
  | 0,a+1,b+1,f,g,hn,_,_=>by omega
  | n+1,a+1,b+1,f,g,hn,h1,h2=>by
    rw [show a+1+(b+1) - 1=(a+b)+1 by omega]
    intro d
    have p:=Dg.mulA n (a:=a+1) (b:=b) (by omega) (h1.shift d) (h2 d)
    have q:=Dg.mulA n (a:=a) (b:=b+1) (by omega) (h1 d) h2
    rw [show a+1+b - 1=a+b by omega] at p
    rw [show a+(b+1) - 1=a+b by omega] at q
    exact (p.add q).congr fun x=>by
      show f (vadd x d) * (g (vadd x d) - g x)+(f (vadd x d) - f x) * g x=f (vadd x d) * g (vadd x d) - f x * g x
      rw [Int.mul_sub,Int.sub_mul]; omega
theorem Dg.mul {a b:Nat} {f g:V → Int} (h1:Dg a f) (h2:Dg b g):Dg (a+b - 1) (fun x=>f x * g x):=Dg.mulA _ (Nat.le_refl _) h1 h2
theorem Dg.const (c:Int):Dg 1 (fun _=>c):=fun d x=>by show c - c=0; omega
theorem Dg.co (f:V → Int) (h:∀ x d,f (vadd x d)=f x+f d):Dg 2 f:=fun d e x=>by
  show f (vadd (vadd x e) d) - f (vadd x e) - (f (vadd x d) - f x)=0
  rw [h,h,h]; omega
theorem Dg.pow {f:V → Int} (h:Dg 2 f):∀ n:Nat,Dg (n+1) (fun x=>f x ^ n)
  | 0=>(Dg.const 1).congr fun x=>(Int.pow_zero _).symm
  | n+1=>by
    have:=(Dg.pow h n).mul h
    rw [show n+1+2 - 1=n+1+1 by omega] at this
    exact this.congr fun x=>(Int.pow_succ _ _).symm
theorem Dg.neg {k:Nat} {f:V → Int} (h:Dg k f):Dg k (fun x=>- f x):=by
  have:=(Dg.const (-1)).mul h
  rw [show 1+k - 1=k by omega] at this
  exact this.congr fun x=>by omega
def fa (f:V → Int) (p:Nat) (x:V):Int:=1 - f x ^ (p - 1)
theorem Dg.fa {f:V → Int} (h:Dg 2 f) {p:Nat} (hp:1 ≤ p):Dg p (fa f p):=by
  have h1:=(h.pow (p - 1)).neg
  rw [show p - 1+1=p by omega] at h1
  exact (((Dg.const 1).le hp).add h1).congr fun x=>by show 1+- (f x ^ (p - 1))=1 - f x ^ (p - 1); omega
def altS (f:V → Int):List V → V → Int
  | [],a=>f a
  | x :: l,a=>altS f l a - altS f l (vadd a x)
theorem altS_sub (f:V → Int) (d:V):∀ (l:List V) (a:V),altS (fun x=>f (vadd x d) - f x) l a=altS f l (vadd a d) - altS f l a
  | [],a=>rfl
  | x :: l,a=>by
    rw [altS,altS_sub f d l a,altS_sub f d l (vadd a x),altS,altS,vadd_rc a d x]; omega
theorem altS_zero:∀ (l:List V) (f:V → Int),Dg l.length f → ∀ a,altS f l a=0
  | [],f,h,a=>h a
  | x :: l,f,h,a=>by
    have:=altS_zero l _ (h x) a
    rw [altS_sub] at this
    rw [altS]; omega
def vsum:List V → V
  | []=>(0,0,0)
  | x :: l=>vadd x (vsum l)
theorem altS_none {f:V → Int} {p:Int} {Z:V → Prop} (hf:∀ y,¬ Z y → f y % p=0):∀ (l:List V) (a:V),(∀ s,s.Sublist l → ¬ Z (vadd a (vsum s))) → altS f l a % p=0
  | [],a,h=>by
    have:=h [] (List.Sublist.refl _)
    rw [vsum,vadd_zero] at this
    exact hf a this
  | x :: l,a,h=>by
    have h1:=altS_none hf l a (fun s hs=>h s (hs.cons x))
    have h2:=altS_none hf l (vadd a x) (fun s hs=>by
      have:=h (x :: s) (hs.cons_cons x)
      rwa [vsum,← vadd_assoc] at this)
    rw [altS,Int.sub_emod,h1,h2]; rfl
theorem altS_one {f:V → Int} {p:Int} {Z:V → Prop} (hf:∀ y,¬ Z y → f y % p=0) (h0:f (0,0,0) % p=1):∀ (l:List V),(∀ s,s.Sublist l → s ≠ [] → ¬ Z (vsum s)) → altS f l (0,0,0) % p=1 % p
  | [],h=>by rw [altS,← h0,Int.emod_emod]
  | x :: l,h=>by
    have h1:=altS_one hf h0 l (fun s hs=>h s (hs.cons x))
    have h2:=altS_none hf l (vadd (0,0,0) x) (fun s hs=>by
      have:=h (x :: s) (hs.cons_cons x) (by simp)
      rwa [zero_vadd])
    rw [altS,Int.sub_emod,h1,h2,Int.sub_zero,Int.emod_emod]
theorem some_zero {f:V → Int} {p:Int} {Z:V → Prop} (hf:∀ y,¬ Z y → f y % p=0) (h0:f (0,0,0) % p=1) (hp:2 ≤ p) {k:Nat} (hd:Dg k f) {l:List V} (hl:k ≤ l.length):∃ s,s.Sublist l∧s ≠ []∧Z (vsum s):=by
  refine Classical.byContradiction fun hn=>?_
  have h1:=altS_one hf h0 l (fun s hs h=>fun hz=>hn ⟨s,hs,h,hz⟩)
  rw [altS_zero l f (hd.le hl)] at h1
  rw [Int.emod_eq_of_lt (show (0:Int) ≤ 1 by omega) (by omega)] at h1
  simp at h1
def PL:List Nat:=[2,3,5,7,11,13,17,19,23]
theorem fermB:(PL.all fun p=>(List.range p).all fun r=>decide ((1 - ((r:Nat):Int) ^ (p - 1)) % (p:Int)=if r=0 then 1 else 0))=true:=by decide +kernel
theorem pow_mod (y p:Int):∀ n:Nat,(y ^ n) % p=((y % p) ^ n) % p
  | 0=>by rw [Int.pow_zero,Int.pow_zero]
  | n+1=>by
    have h:((y % p) ^ n * (y % p)) % p=(((y % p) ^ n % p) * (y % p)) % p:=by rw [Int.mul_emod,Int.emod_emod,Int.mul_emod ((y % p) ^ n % p),Int.emod_emod,Int.emod_emod]
    rw [Int.pow_succ,Int.pow_succ,Int.mul_emod,pow_mod y p n,h]
theorem PL_two {p:Nat} (hp:p ∈ PL):2 ≤ p:=by
  simp only [PL,List.mem_cons,List.mem_nil_iff,or_false] at hp; omega
theorem ferm {p:Nat} (hp:p ∈ PL) (y:Int):(1 - y ^ (p - 1)) % (p:Int)=if y % (p:Int)=0 then 1 else 0:=by
  have h2:=PL_two hp
  have b0:=Int.emod_nonneg y (show (p:Int) ≠ 0 by omega)
  have b1:=Int.emod_lt_of_pos y (show (0:Int) < p by omega)
  have h:=List.all_eq_true.1 (List.all_eq_true.1 fermB p hp) (y % (p:Int)).toNat (by rw [List.mem_range]; omega)
  have h:=of_decide_eq_true h
  rw [Int.toNat_of_nonneg b0] at h
  rw [Int.sub_emod,pow_mod,← Int.sub_emod,h]
  by_cases c:y % (p:Int)=0
  · rw [if_pos c,if_pos (by omega)]
  · rw [if_neg c,if_neg (by omega)]
theorem fa_mod {p:Nat} (hp:p ∈ PL) (f:V → Int) (x:V):fa f p x % (p:Int)=if f x % (p:Int)=0 then 1 else 0:=ferm hp (f x)
theorem mul_mod0 {a b p:Int} (h:a % p=0 ∨ b % p=0):(a * b) % p=0:=by
  rw [Int.mul_emod]
  rcases h with h | h <;> rw [h] <;> simp
theorem mul_mod1 {a b p:Int} (hp:2 ≤ p) (h1:a % p=1) (h2:b % p=1):(a * b) % p=1:=by
  rw [Int.mul_emod,h1,h2]; exact Int.emod_eq_of_lt (by omega) (by omega)
abbrev c1:V → Int:=fun x=>x.1
abbrev c2:V → Int:=fun x=>x.2.1
abbrev c3:V → Int:=fun x=>x.2.2
theorem Dc1:Dg 2 c1:=Dg.co _ fun _ _=>rfl
theorem Dc2:Dg 2 c2:=Dg.co _ fun _ _=>rfl
theorem Dc3:Dg 2 c3:=Dg.co _ fun _ _=>rfl
def s1 (L:List (Int × Int)):Int:=(L.map Prod.fst).sum
def s2 (L:List (Int × Int)):Int:=(L.map Prod.snd).sum
def emb (q:Int × Int):V:=(q.1,q.2,1)
theorem vsum_emb:∀ L:List (Int × Int),vsum (L.map emb)=(s1 L,s2 L,(L.length:Int))
  | []=>rfl
  | q :: L=>by
    rw [List.map_cons,vsum,vsum_emb L]
    simp only [vadd,emb,s1,s2,List.map_cons,List.sum_cons,List.length_cons]
    refine Prod.ext rfl (Prod.ext rfl ?_)
    show 1+(L.length:Int)=((L.length+1:Nat):Int)
    omega
theorem of_emb {L:List (Int × Int)} {Z:V → Prop} (h:∃ s,s.Sublist (L.map emb)∧s ≠ []∧Z (vsum s)):∃ s,s.Sublist L∧s ≠ []∧Z (s1 s,s2 s,(s.length:Int)):=by
  obtain ⟨s,h1,h2,h3⟩:=h
  obtain ⟨t,t1,rfl⟩:=List.sublist_map_iff.1 h1
  exact ⟨t,t1,fun e=>h2 (by rw [e]; rfl),by rwa [vsum_emb] at h3⟩
section
variable {p:Nat} (hp:p ∈ PL)
include hp
theorem one_D {L:List (Int × Int)} (hl:p ≤ L.length):∃ s,s.Sublist L∧s ≠ []∧s2 s % p=0:=by
  have h2:=PL_two hp
  have z0:fa c2 p (0,0,0) % (p:Int)=1:=by rw [fa_mod hp]; exact if_pos (Int.zero_emod _)
  exact of_emb (Z:=fun v=>v.2.1 % p=0) (some_zero (f:=fa c2 p) (fun y hy=>by rw [fa_mod hp,if_neg hy]) z0 (by omega) (Dc2.fa (by omega)) (l:=L.map emb) (by rw [List.length_map]; exact hl))
theorem two_D {L:List (Int × Int)} (hl:2 * p - 1 ≤ L.length):∃ s,s.Sublist L∧s ≠ []∧s1 s % p=0∧s2 s % p=0:=by
  have h2:=PL_two hp
  have z1:fa c1 p (0,0,0) % (p:Int)=1:=by rw [fa_mod hp]; exact if_pos (Int.zero_emod _)
  have z2:fa c2 p (0,0,0) % (p:Int)=1:=by rw [fa_mod hp]; exact if_pos (Int.zero_emod _)
  refine of_emb (Z:=fun v=>v.1 % p=0∧v.2.1 % p=0) (some_zero (Z:=fun v=>v.1 % p=0∧v.2.1 % p=0) (f:=fun x=>fa c1 p x * fa c2 p x) (p:=p) (fun y hy=>?_) (mul_mod1 (by omega) z1 z2) (by omega) (((Dc1.fa (by omega)).mul (Dc2.fa (p:=p) (by omega))).le (m:=2 * p - 1) (by omega)) (l:=L.map emb) (by rw [List.length_map]; exact hl))
  refine mul_mod0 ?_
  rw [fa_mod hp,fa_mod hp]
  by_cases a:y.1 % (p:Int)=0
  · exact .inr (by rw [if_neg (fun b=>hy ⟨a,b⟩)])
  · exact .inl (by rw [if_neg a])
theorem three_D {L:List (Int × Int)} (hl:3 * p - 2 ≤ L.length):∃ s,s.Sublist L∧s ≠ []∧s1 s % p=0∧s2 s % p=0∧(s.length:Int) % p=0:=by
  have h2:=PL_two hp
  have z1:fa c1 p (0,0,0) % (p:Int)=1:=by rw [fa_mod hp]; exact if_pos (Int.zero_emod _)
  have z2:fa c2 p (0,0,0) % (p:Int)=1:=by rw [fa_mod hp]; exact if_pos (Int.zero_emod _)
  have z3:fa c3 p (0,0,0) % (p:Int)=1:=by rw [fa_mod hp]; exact if_pos (Int.zero_emod _)
  refine of_emb (Z:=fun v=>v.1 % p=0∧v.2.1 % p=0∧v.2.2 % p=0) (some_zero (Z:=fun v=>v.1 % p=0∧v.2.1 % p=0∧v.2.2 % p=0) (f:=fun x=>fa c1 p x * fa c2 p x * fa c3 p x) (p:=p) (fun y hy=>?_) (mul_mod1 (by omega) (mul_mod1 (by omega) z1 z2) z3) (by omega) ((((Dc1.fa (by omega)).mul (Dc2.fa (p:=p) (by omega))).mul (Dc3.fa (p:=p) (by omega))).le (m:=3 * p - 2) (by omega)) (l:=L.map emb) (by rw [List.length_map]; exact hl))
  by_cases a:y.1 % (p:Int)=0
  · by_cases b:y.2.1 % (p:Int)=0
    · exact mul_mod0 (.inr (by rw [fa_mod hp,if_neg (fun c=>hy ⟨a,b,c⟩)]))
    · exact mul_mod0 (.inl (mul_mod0 (.inr (by rw [fa_mod hp,if_neg b]))))
  · exact mul_mod0 (.inl (mul_mod0 (.inl (by rw [fa_mod hp,if_neg a]))))
end
theorem sub_compl {α:Type}:∀ {s l:List α},s.Sublist l → ∃ t,t.Sublist l∧(s ++ t).Perm l:=by
  intro s l h
  induction h with
  | slnil=>exact ⟨[],List.Sublist.refl _,List.Perm.refl _⟩
  | cons a _ ih =>
    obtain ⟨t,h1,h2⟩:=ih
    exact ⟨a :: t,h1.cons_cons a,(List.perm_middle).trans (h2.cons a)⟩
  | cons_cons a _ ih =>
    obtain ⟨t,h1,h2⟩:=ih
    exact ⟨t,h1.cons a,h2.cons a⟩
theorem psum {l m:List Int} (h:l.Perm m):l.sum=m.sum:=by
  induction h with
  | nil=>rfl
  | cons x _ ih=>rw [List.sum_cons,List.sum_cons,ih]
  | swap x y l=>simp only [List.sum_cons]; omega
  | trans _ _ h1 h2=>rw [h1,h2]
theorem s1_perm {l m:List (Int × Int)} (h:l.Perm m):s1 l=s1 m:=psum (h.map _)
theorem s2_perm {l m:List (Int × Int)} (h:l.Perm m):s2 l=s2 m:=psum (h.map _)
theorem s1_app (l m:List (Int × Int)):s1 (l ++ m)=s1 l+s1 m:=by simp [s1]
theorem s2_app (l m:List (Int × Int)):s2 (l ++ m)=s2 l+s2 m:=by simp [s2]
theorem mod_diff {a b p:Int} (h:(a+b) % p=0) (h1:a % p=0):b % p=0:=by
  rw [Int.add_emod,h1,Int.zero_add,Int.emod_emod] at h; exact h
theorem eta {p:Nat} (hp:p ∈ PL) {L:List (Int × Int)} (hl:3 * p - 2 ≤ L.length):∃ s,s.Sublist L∧s ≠ []∧s.length ≤ p∧s1 s % p=0∧s2 s % p=0:=by
  have h2:=PL_two hp
  obtain ⟨s,a1,a2,a3,a4,a5⟩:=three_D hp (L:=L.take (3 * p - 2)) (by rw [List.length_take]; omega)
  have sl:=a1.length_le
  rw [List.length_take] at sl
  have sL:s.Sublist L:=a1.trans (List.take_sublist _ _)
  have s0:s.length ≠ 0:=fun e=>a2 (List.length_eq_zero_iff.1 e)
  by_cases c:s.length ≤ p
  · exact ⟨s,sL,a2,c,a3,a4⟩
  · have e2:s.length=2 * p:=by
      obtain ⟨k,hk⟩:=Int.dvd_of_emod_eq_zero a5
      have k1:1 < k:=by
        refine Int.lt_of_mul_lt_mul_left (a:=(p:Int)) ?_ (by omega)
        omega
      have k2:k < 3:=by
        refine Int.lt_of_mul_lt_mul_left (a:=(p:Int)) ?_ (by omega)
        omega
      have:k=2:=by omega
      subst this
      omega
    obtain ⟨t,b1,b2,b3,b4⟩:=two_D hp (L:=s.take (2 * p - 1)) (by rw [List.length_take]; omega)
    have tl:=b1.length_le
    rw [List.length_take] at tl
    have ts:t.Sublist s:=b1.trans (List.take_sublist _ _)
    by_cases d:t.length ≤ p
    · exact ⟨t,ts.trans sL,b2,d,b3,b4⟩
    · obtain ⟨r,r1,r2⟩:=sub_compl ts
      have rl:=r2.length_eq
      rw [List.length_append] at rl
      have q1:=s1_perm r2
      have q2:=s2_perm r2
      rw [s1_app] at q1
      rw [s2_app] at q2
      exact ⟨r,r1.trans sL,fun e=>by rw [e] at rl; simp at rl; omega,by omega,mod_diff (by rw [q1]; exact a3) b3,mod_diff (by rw [q2]; exact a4) b4⟩
theorem blocks {p E F:Nat} {Z:Int → Int → Prop} (hE:∀ L:List (Int × Int),E ≤ L.length → ∃ s,s.Sublist L∧s ≠ []∧s.length ≤ p∧Z (s1 s) (s2 s))
    (hF:∀ L:List (Int × Int),F ≤ L.length → ∃ s,s.Sublist L∧s ≠ []∧Z (s1 s) (s2 s)) (hEF:E ≤ p+F):∀ (K:Nat) (L:List (Int × Int)),p * K+F ≤ L.length →
    ∃ B:List (List (Int × Int)),B.length=K+1∧(∀ b ∈ B,b ≠ []∧Z (s1 b) (s2 b))∧∃ r,(B.flatten ++ r).Perm L
  | 0,L,hl=>by
    obtain ⟨s,h1,h2,h3⟩:=hF L (by omega)
    obtain ⟨t,t1,t2⟩:=sub_compl h1
    exact ⟨[s],rfl,fun b hb=>by rw [List.mem_singleton] at hb; rw [hb]; exact ⟨h2,h3⟩,t,by simpa using t2⟩
  | K+1,L,hl=>by
    rw [Nat.mul_succ] at hl
    obtain ⟨s,h1,h2,h3,h4⟩:=hE L (by omega)
    obtain ⟨t,t1,t2⟩:=sub_compl h1
    have tl:=t2.length_eq
    rw [List.length_append] at tl
    obtain ⟨B,b1,b2,r,b3⟩:=blocks hE hF hEF K t (by omega)
    refine ⟨s :: B,by simp [b1],fun b hb=>?_,r,?_⟩
    · rcases List.mem_cons.1 hb with rfl | hb
      · exact ⟨h2,h4⟩
      · exact b2 b hb
    · rw [List.flatten_cons,List.append_assoc]
      exact (List.Perm.append_left s b3).trans t2
theorem sub_of_perm' {α:Type}:∀ {l m:List α},l.Perm m → ∀ {s:List α},s.Sublist m → ∃ t:List α,t.Perm s∧t.Sublist l:=by
  intro l m h
  induction h with
  | nil=>intro s hs; exact ⟨s,.refl _,hs⟩
  | cons x _ ih =>
    intro s hs
    cases hs with
    | cons _ h=>obtain ⟨t,h1,h2⟩:=ih h; exact ⟨t,h1,h2.cons x⟩
    | cons_cons _ h=>obtain ⟨t,h1,h2⟩:=ih h; exact ⟨x :: t,h1.cons x,h2.cons_cons x⟩
  | swap x y l =>
    intro s hs
    cases hs with
    | cons _ h =>
      cases h with
      | cons _ h=>exact ⟨s,.refl _,(h.cons x).cons y⟩
      | cons_cons _ h=>exact ⟨_,.refl _,(h.cons x).cons_cons y⟩
    | cons_cons _ h =>
      cases h with
      | cons _ h=>exact ⟨_,.refl _,(h.cons_cons x).cons y⟩
      | cons_cons _ h=>exact ⟨_,.swap _ _ _,(h.cons_cons x).cons_cons y⟩
  | trans _ _ h1 h2 =>
    intro s hs
    obtain ⟨t,t1,t2⟩:=h2 hs
    obtain ⟨u,u1,u2⟩:=h1 t2
    exact ⟨u,u1.trans t1,u2⟩
theorem sub_flat {α:Type} {C B:List (List α)} (h:C.Sublist B):C.flatten.Sublist B.flatten:=by
  induction h with
  | slnil=>exact List.Sublist.refl _
  | cons a _ ih=>rw [List.flatten_cons]; exact ih.trans (List.sublist_append_right _ _)
  | cons_cons a _ ih=>rw [List.flatten_cons,List.flatten_cons]; exact List.Sublist.append (List.Sublist.refl _) ih
def Dav (m n:Nat):Prop:=∀ L:List (Int × Int),m+n - 1 ≤ L.length → ∃ s,s.Sublist L∧s ≠ []∧s1 s % m=0∧s2 s % n=0
theorem s_flat {p:Int} (f:Int × Int → Int):∀ (B:List (List (Int × Int))),(∀ b ∈ B,((b.map f).sum) % p=0) → ((B.flatten).map f).sum=p * (B.map fun b=>(b.map f).sum / p).sum
  | [],_=>by simp
  | b :: B,h=>by
    have h1:=h b (by simp)
    have h2:=s_flat f B (fun c hc=>h c (by simp [hc]))
    rw [List.flatten_cons,List.map_append,List.sum_append,h2,List.map_cons,List.sum_cons,Int.mul_add]
    have:=Int.mul_ediv_add_emod ((b.map f).sum) p
    rw [h1] at this
    omega
theorem Dav.step {p m n:Nat} (hp:p ∈ PL) (hm:1 ≤ m) (hn:1 ≤ n) (h:Dav m n):Dav (p * m) (p * n):=by
  have h2:=PL_two hp
  intro L hl
  have hmn:p * m+p * n=p * (m+n - 2)+2 * p:=by
    have e:m+n=(m+n - 2)+2:=by omega
    generalize m+n - 2=k at *
    rw [← Nat.mul_add,e,Nat.mul_add]; omega
  obtain ⟨B,b1,b2,r,b3⟩:=blocks (p:=p) (E:=3 * p - 2) (F:=2 * p - 1) (Z:=fun a b=>a % p=0∧b % p=0) (fun L h=>eta hp h) (fun L h=>two_D hp h) (by omega) (m+n - 2) L (by omega)
  obtain ⟨s,q1,q2,q3,q4⟩:=h (B.map fun b=>(s1 b / p,s2 b / p)) (by rw [List.length_map]; omega)
  obtain ⟨C,e1,rfl⟩:=List.sublist_map_iff.1 q1
  have hC:∀ b ∈ C,b ≠ []∧s1 b % p=0∧s2 b % p=0:=fun b hb=>b2 b (e1.subset hb)
  have u:C.flatten.Sublist (B.flatten ++ r):=(sub_flat e1).trans (List.sublist_append_left _ _)
  obtain ⟨t,t1,t2⟩:=sub_of_perm' b3.symm u
  have f1:=s_flat (p:=(p:Int)) Prod.fst C (fun b hb=>(hC b hb).2.1)
  have f2:=s_flat (p:=(p:Int)) Prod.snd C (fun b hb=>(hC b hb).2.2)
  have g1:s1 t=p * s1 (C.map fun b=>(s1 b / p,s2 b / p)):=by
    rw [s1_perm t1]; show (C.flatten.map Prod.fst).sum=_
    rw [f1]; simp only [s1,List.map_map]; rfl
  have g2:s2 t=p * s2 (C.map fun b=>(s1 b / p,s2 b / p)):=by
    rw [s2_perm t1]; show (C.flatten.map Prod.snd).sum=_
    rw [f2]; simp only [s2,List.map_map]; rfl
  refine ⟨t,t2,fun e=>?_,?_,?_⟩
  · rw [e] at t1
    have hf:C.flatten=[]:=List.Perm.nil_eq t1 |>.symm
    cases C with
    | nil=>exact q2 rfl
    | cons b C =>
      rw [List.flatten_cons,List.append_eq_nil_iff] at hf
      exact (hC b (by simp)).1 hf.1
  · rw [g1]
    obtain ⟨k,hk⟩:=Int.dvd_of_emod_eq_zero q3
    rw [hk]; push_cast; rw [← Int.mul_assoc]; exact Int.mul_emod_right _ _
  · rw [g2]
    obtain ⟨k,hk⟩:=Int.dvd_of_emod_eq_zero q4
    rw [hk]; push_cast; rw [← Int.mul_assoc]; exact Int.mul_emod_right _ _
theorem Dav.step1 {p n:Nat} (hp:p ∈ PL) (hn:1 ≤ n) (h:Dav 1 n):Dav 1 (p * n):=by
  have h2:=PL_two hp
  intro L hl
  have hmn:p * n=p * (n - 1)+p:=by
    rw [← Nat.mul_succ,show (n - 1).succ=n by omega]
  obtain ⟨B,b1,b2,r,b3⟩:=blocks (p:=p) (E:=p) (F:=p) (Z:=fun a b=>b % (p:Int)=0) (fun L h=>by
    obtain ⟨s,a1,a2,a3⟩:=one_D hp (L:=L.take p) (by rw [List.length_take]; omega)
    have sl:=a1.length_le
    rw [List.length_take] at sl
    exact ⟨s,a1.trans (List.take_sublist _ _),a2,by omega,a3⟩) (fun L h=>one_D hp h) (by omega) (n - 1) L (by omega)
  obtain ⟨s,q1,q2,q3,q4⟩:=h (B.map fun b=>(0,s2 b / p)) (by rw [List.length_map]; omega)
  obtain ⟨C,e1,rfl⟩:=List.sublist_map_iff.1 q1
  have hC:∀ b ∈ C,b ≠ []∧s2 b % p=0:=fun b hb=>b2 b (e1.subset hb)
  have u:C.flatten.Sublist (B.flatten ++ r):=(sub_flat e1).trans (List.sublist_append_left _ _)
  obtain ⟨t,t1,t2⟩:=sub_of_perm' b3.symm u
  have f2:=s_flat (p:=(p:Int)) Prod.snd C (fun b hb=>(hC b hb).2)
  have g2:s2 t=p * s2 (C.map fun b=>((0:Int),s2 b / p)):=by
    rw [s2_perm t1]; show (C.flatten.map Prod.snd).sum=_
    rw [f2]; simp only [s2,List.map_map]; rfl
  refine ⟨t,t2,fun e=>?_,?_,?_⟩
  · rw [e] at t1
    have hf:C.flatten=[]:=List.Perm.nil_eq t1 |>.symm
    cases C with
    | nil=>exact q2 rfl
    | cons b C =>
      rw [List.flatten_cons,List.append_eq_nil_iff] at hf
      exact (hC b (by simp)).1 hf.1
  · exact Int.emod_one _
  · rw [g2]
    obtain ⟨k,hk⟩:=Int.dvd_of_emod_eq_zero q4
    rw [hk]; push_cast; rw [← Int.mul_assoc]; exact Int.mul_emod_right _ _
theorem primeB:((List.range 25).all fun n=>decide (n < 2) || PL.any fun p=>decide (n % p=0))=true:=by decide +kernel
theorem dav:∀ n:Nat,1 ≤ n → n ≤ 24 → ∀ m:Nat,1 ≤ m → n % m=0 → Dav m n:=by
  intro n
  induction n using Nat.strongRecOn with
  | ind n ih =>
    intro h1 h24 m hm hd
    have hmn:m ≤ n:=Nat.le_of_dvd (by omega) (Nat.dvd_of_mod_eq_zero hd)
    by_cases c1:n=1
    · have:m=1:=by omega
      subst this; subst c1
      intro L hl
      match L,hl with
      | x :: L,_=>exact ⟨[x],by simp,by simp,Int.emod_one _,Int.emod_one _⟩
    · have key:∀ k,2 ≤ k → k ≤ 24 → ∃ p ∈ PL,k % p=0:=fun k hk hk2=>by
        have:=List.all_eq_true.1 primeB k (by rw [List.mem_range]; omega)
        rw [decide_eq_false (by omega),Bool.false_or,List.any_eq_true] at this
        obtain ⟨p,hp,h⟩:=this
        exact ⟨p,hp,of_decide_eq_true h⟩
      by_cases cm:m=1
      · subst cm
        obtain ⟨p,hp,h⟩:=key n (by omega) h24
        have hp2:=PL_two hp
        have e:n=p * (n / p):=by have:=Nat.div_add_mod n p; omega
        have hq:1 ≤ n / p:=by
          rcases Nat.eq_zero_or_pos (n / p) with z | z
          · rw [z] at e; omega
          · exact z
        have hlt:n / p < n:=Nat.div_lt_self (by omega) (by omega)
        have:=Dav.step1 hp hq (ih (n / p) hlt hq (by omega) 1 (by omega) (Nat.mod_one _))
        rwa [← e] at this
      · obtain ⟨p,hp,h⟩:=key m (by omega) (by omega)
        have hp2:=PL_two hp
        have e:m=p * (m / p):=by have:=Nat.div_add_mod m p; omega
        obtain ⟨q,hq⟩:=Nat.dvd_of_mod_eq_zero hd
        have e2:n=p * (m / p * q):=by rw [← Nat.mul_assoc,← e]; exact hq
        have hmp:1 ≤ m / p:=by
          rcases Nat.eq_zero_or_pos (m / p) with z | z
          · rw [z] at e; omega
          · exact z
        have hpos:1 ≤ m / p * q:=by
          rcases Nat.eq_zero_or_pos (m / p * q) with z | z
          · rw [z] at e2; omega
          · exact z
        have hlt:m / p * q < n:=by
          have:2 * (m / p * q) ≤ p * (m / p * q):=Nat.mul_le_mul_right _ hp2
          omega
        have:=Dav.step hp hmp hpos (ih (m / p * q) hlt hpos (by omega) (m / p) hmp (Nat.mul_mod_right _ _))
        rwa [← e,← e2] at this
end Ol
end Go.Proofs.Ytaibmipamkaljaa
end
section
open Go Go.HL
namespace Go.Proofs.Ytaibmipamkaljaa
theorem listB_iff {gl:List Int} {R:List (List Int)}:listB gl R=true ↔ (∀ x ∈ R,elB gl x=true)∧R.length ≤ 60:=by simp [listB,List.all_eq_true]
theorem elems_B {gl:List Int} (hg:(newGroupT gl).2=true) {R:List (List Int)} (h:listB gl R=true):elemsT (grG gl) R=some (els gl R):=by
  obtain ⟨h1,h2⟩:=listB_iff.1 h
  have e1:∀ x ∈ R,elementT (grG gl) x=(eE gl x,true):=fun x hx=>el_E hg (h1 x hx)
  unfold elemsT
  rw [if_pos ⟨h2,List.all_eq_true.2 fun x hx=>by rw [e1 x hx]⟩]
  congr 1
  exact List.map_congr_left fun x hx=>by rw [e1 x hx]
theorem zero_el {gl:List Int} (hg:(newGroupT gl).2=true):elB gl (List.replicate gl.length 0)=true∧eE gl (List.replicate gl.length 0)=(0,0):=by
  rcases grp_cases hg with ⟨a,rfl,h1,h2⟩ | ⟨a,b,rfl,h1,h2,h3,h4,h5,h6⟩
  · exact ⟨el_mk1 (by omega),rfl⟩
  · refine ⟨el_mk2 (by omega) (by omega),?_⟩
    have:=tE_two (a:=a) (b:=b) (u:=0) (v:=0) (by omega)
    exact this
end Go.Proofs.Ytaibmipamkaljaa
end
section
open Go Go.HL
namespace Go.Proofs.Ytaibmipamkaljaa
set_option maxRecDepth 100000
open Go.Proofs.Try renaming prog → Tp
open Go.HL.HV renaming undef → Ud
noncomputable def B25:Code:=Try.f25.body.getD .skip
abbrev env25 (v0 v2 v3 v4 v5:HV):Env:=[(0,v0),(2,v2),(3,v3),(4,v4),(5,v5)]
theorem bo_0 (l:List HV) (m0:Int) (m1:Int) (sz:Int) (g0:∀ kf,callN Tp polZ (kf+1) 55 [.imm .arg 1 l] []=some (.tuple [.agg [.i m0,.i m1,.i sz],.bool true],[])):RT polZ 25 (sub [] B25) [(0,.imm .arg 1 l)] [] .ret (env25 (.imm .arg 1 l) (.i (IntKind.i64.wrap (IntKind.i64.wrap (m0+m1) - 1))) (.i 0) (.ptr 0 0 0 1) (.bool true)) [.arr 3 [.agg [.i m0,.i m1,.i sz]] true 0] :=
  RunsTo.hin 0 60 [⟨1,1,.tuple [.agg [.i m0,.i m1,.i sz],.bool true],[]⟩] fun kf hk=>⟨_,by kernel_rfl,(oC (g0 kf) .nil)⟩
theorem bo_1 (l:List HV) (m0:Int) (m1:Int) (sz:Int) (g0:∀ kf,callN Tp polZ (kf+1) 55 [.imm .arg 1 l] []=some (.tuple [.agg [.i m0,.i m1,.i sz],.bool false],[])):RT polZ 25 (sub [] B25) [(0,.imm .arg 1 l)] [] .ret (env25 (.imm .arg 1 l) (.i 0) (.i 2) (.ptr 0 0 0 1) (.bool false)) [.arr 3 [.agg [.i m0,.i m1,.i sz]] true 0] :=
  RunsTo.hin 0 60 [⟨1,1,.tuple [.agg [.i m0,.i m1,.i sz],.bool false],[]⟩] fun kf hk=>⟨_,by kernel_rfl,(oC (g0 kf) .nil)⟩
end Go.Proofs.Ytaibmipamkaljaa
end
section
open Go Go.HL
namespace Go.Proofs.Ytaibmipamkaljaa
set_option maxRecDepth 100000
open Go.Proofs.Try renaming prog → Tp
open Go.HL.HV renaming undef → Ud
noncomputable def B27:Code:=Try.f27.body.getD .skip
abbrev env27 (v0 v1 v2 v6 v7 v8 v9 v10:HV):Env:=[(0,v0),(1,v1),(2,v2),(6,v6),(7,v7),(8,v8),(9,v9),(10,v10)]
theorem tta_a_0 (a:Int) (rw pl:List HV):RT pol 27 (sub [0] B27) [(0,.imm .arg 1 [.i a]),(1,.imm .arg 1 rw),(2,.imm .arg 1 pl)] [] .normal (env27 (.imm .arg 1 [.i a]) (.imm .arg 1 rw) (.imm .arg 1 pl) (.imm .lit 1 []) (.bool false) Ud Ud Ud) [] :=
  RunsTo.hin 0 60 [] fun kf hk=>⟨_,by kernel_rfl,.nil⟩
theorem tta_b_0 (a:Int) (rw pl:List HV):RT pol 27 (sub [1,0] B27) (env27 (.imm .arg 1 [.i a]) (.imm .arg 1 rw) (.imm .arg 1 pl) (.imm .lit 1 []) (.bool false) Ud Ud Ud) [] .normal (env27 (.imm .arg 1 [.i a]) (.imm .arg 1 rw) (.imm .arg 1 pl) (.imm .lit 1 []) (.bool false) (.sl 0 0 1 (some 1) 1 1) Ud Ud) [.arr 1 [.i 0] true 0] :=
  RunsTo.hin 0 60 [] fun kf hk=>⟨_,by kernel_rfl,.nil⟩
theorem tta_c_0 (a:Int) (rw pl:List HV) (o0:Int):RT pol 27 (sub [1,1,0,0] B27) (env27 (.imm .arg 1 [.i a]) (.imm .arg 1 rw) (.imm .arg 1 pl) (.imm .lit 1 []) (.bool false) (.sl 0 0 1 (some 1) 1 1) Ud Ud) [.arr 1 [.i o0] true 0] .normal (env27 (.imm .arg 1 [.i a]) (.imm .arg 1 rw) (.imm .arg 1 pl) (.imm .lit 1 []) (.bool false) (.sl 0 0 1 (some 1) 1 1) (.i 0) Ud) [.arr 1 [.i o0] true 0] :=
  RunsTo.hin 0 60 [] fun kf hk=>⟨_,by kernel_rfl,.nil⟩
theorem tta_d_3 (a:Int) (rw pl:List HV) (o0:Int) (i:Nat) {y10:HV} {x2:Int} {x3:Int} {x4:Int} {x5:Int} {x6:Int} {l0:List HV} {x7:Int} (g0:(i:Int) < (pl.length:Int)) (g1:idxV Tp 22 (.imm .arg 1 pl) (.i (i:Int))=some (.vptr (.i x2))) (g2:¬ (x2 < 0)) (g3:idxV Tp 22 (.imm .arg 1 pl) (.i (i:Int))=some (.vptr (.i x3))) (g4:¬ ((rw.length:Int) ≤ x3)) (g5:0 < (i:Int)) (g6:idxV Tp 22 (.imm .arg 1 pl) (.i (IntKind.i64.wrap ((i:Int) - 1)))=some (.vptr (.i x4))) (g7:idxV Tp 22 (.imm .arg 1 pl) (.i (i:Int))=some (.vptr (.i x5))) (g8:¬ (x5 ≤ x4)) (g9:idxV Tp 22 (.imm .arg 1 pl) (.i (i:Int))=some (.vptr (.i x6))) (g10:idxV Tp 35 (.imm .arg 1 rw) (.i x6)=some (.vptr (.imm .arg 1 l0))) (g11:idxV Tp 22 (.imm .arg 1 l0) (.i 0)=some (.vptr (.i x7))) (g12:binV Tp .rem 3 (.i (IntKind.i64.wrap (o0+x7))) (.i a)=some (.i ((IntKind.i64.wrap (o0+x7):Int).tmod a))):RT pol 27 (sub [1,1,0,1,0,0] B27) (env27 (.imm .arg 1 [.i a]) (.imm .arg 1 rw) (.imm .arg 1 pl) (.imm .lit 1 []) (.bool false) (.sl 0 0 1 (some 1) 1 1) (.i (i:Int)) y10) [.arr 1 [.i o0] true 0] .normal (env27 (.imm .arg 1 [.i a]) (.imm .arg 1 rw) (.imm .arg 1 pl) (.imm .lit 1 []) (.bool false) (.sl 0 0 1 (some 1) 1 1) (.i (IntKind.i64.wrap ((i:Int)+1))) (.i 1)) [.arr 1 [.i ((IntKind.i64.wrap (o0+x7):Int).tmod a)] true 0] :=
  RunsTo.hin 0 60 [⟨3,3,.bool true,[.arr 1 [.i o0] true 0]⟩,⟨5,2,.vptr (.i x2),[.arr 1 [.i o0] true 0]⟩,⟨5,4,.bool false,[.arr 1 [.i o0] true 0]⟩,⟨5,8,.vptr (.i x3),[.arr 1 [.i o0] true 0]⟩,⟨5,12,.bool false,[.arr 1 [.i o0] true 0]⟩,⟨5,16,.bool true,[.arr 1 [.i o0] true 0]⟩,⟨5,21,.vptr (.i x4),[.arr 1 [.i o0] true 0]⟩,⟨5,25,.vptr (.i x5),[.arr 1 [.i o0] true 0]⟩,⟨5,27,.bool false,[.arr 1 [.i o0] true 0]⟩,⟨10,9,.vptr (.i x6),[.arr 1 [.i o0] true 0]⟩,⟨10,11,.vptr (.imm .arg 1 l0),[.arr 1 [.i o0] true 0]⟩,⟨10,14,.vptr (.i x7),[.arr 1 [.i o0] true 0]⟩,⟨10,21,.i ((IntKind.i64.wrap (o0+x7):Int).tmod a),[.arr 1 [.i o0] true 0]⟩] fun kf hk=>⟨_,by kernel_rfl,(oB [.arr 1 [.i o0] true 0] (decide_eq_true g0) (oP [.arr 1 [.i o0] true 0] g1 (oB [.arr 1 [.i o0] true 0] (decide_eq_false g2) (oP [.arr 1 [.i o0] true 0] g3 (oB [.arr 1 [.i o0] true 0] (decide_eq_false g4) (oB [.arr 1 [.i o0] true 0] (decide_eq_true g5) (oP [.arr 1 [.i o0] true 0] g6 (oP [.arr 1 [.i o0] true 0] g7 (oB [.arr 1 [.i o0] true 0] (decide_eq_false g8) (oP [.arr 1 [.i o0] true 0] g9 (oP [.arr 1 [.i o0] true 0] g10 (oP [.arr 1 [.i o0] true 0] g11 (oP [.arr 1 [.i o0] true 0] g12 .nil)))))))))))))⟩
theorem tta_d_4 (a:Int) (rw pl:List HV) (o0:Int) (i:Nat) {y10:HV} {x2:Int} {x3:Int} {x4:Int} {l0:List HV} {x5:Int} (g0:(i:Int) < (pl.length:Int)) (g1:idxV Tp 22 (.imm .arg 1 pl) (.i (i:Int))=some (.vptr (.i x2))) (g2:¬ (x2 < 0)) (g3:idxV Tp 22 (.imm .arg 1 pl) (.i (i:Int))=some (.vptr (.i x3))) (g4:¬ ((rw.length:Int) ≤ x3)) (g5:¬ (0 < (i:Int))) (g6:idxV Tp 22 (.imm .arg 1 pl) (.i (i:Int))=some (.vptr (.i x4))) (g7:idxV Tp 35 (.imm .arg 1 rw) (.i x4)=some (.vptr (.imm .arg 1 l0))) (g8:idxV Tp 22 (.imm .arg 1 l0) (.i 0)=some (.vptr (.i x5))) (g9:binV Tp .rem 3 (.i (IntKind.i64.wrap (o0+x5))) (.i a)=some (.i ((IntKind.i64.wrap (o0+x5):Int).tmod a))):RT pol 27 (sub [1,1,0,1,0,0] B27) (env27 (.imm .arg 1 [.i a]) (.imm .arg 1 rw) (.imm .arg 1 pl) (.imm .lit 1 []) (.bool false) (.sl 0 0 1 (some 1) 1 1) (.i (i:Int)) y10) [.arr 1 [.i o0] true 0] .normal (env27 (.imm .arg 1 [.i a]) (.imm .arg 1 rw) (.imm .arg 1 pl) (.imm .lit 1 []) (.bool false) (.sl 0 0 1 (some 1) 1 1) (.i (IntKind.i64.wrap ((i:Int)+1))) (.i 1)) [.arr 1 [.i ((IntKind.i64.wrap (o0+x5):Int).tmod a)] true 0] :=
  RunsTo.hin 0 60 [⟨3,3,.bool true,[.arr 1 [.i o0] true 0]⟩,⟨5,2,.vptr (.i x2),[.arr 1 [.i o0] true 0]⟩,⟨5,4,.bool false,[.arr 1 [.i o0] true 0]⟩,⟨5,8,.vptr (.i x3),[.arr 1 [.i o0] true 0]⟩,⟨5,12,.bool false,[.arr 1 [.i o0] true 0]⟩,⟨5,16,.bool false,[.arr 1 [.i o0] true 0]⟩,⟨10,9,.vptr (.i x4),[.arr 1 [.i o0] true 0]⟩,⟨10,11,.vptr (.imm .arg 1 l0),[.arr 1 [.i o0] true 0]⟩,⟨10,14,.vptr (.i x5),[.arr 1 [.i o0] true 0]⟩,⟨10,21,.i ((IntKind.i64.wrap (o0+x5):Int).tmod a),[.arr 1 [.i o0] true 0]⟩] fun kf hk=>⟨_,by kernel_rfl,(oB [.arr 1 [.i o0] true 0] (decide_eq_true g0) (oP [.arr 1 [.i o0] true 0] g1 (oB [.arr 1 [.i o0] true 0] (decide_eq_false g2) (oP [.arr 1 [.i o0] true 0] g3 (oB [.arr 1 [.i o0] true 0] (decide_eq_false g4) (oB [.arr 1 [.i o0] true 0] (decide_eq_false g5) (oP [.arr 1 [.i o0] true 0] g6 (oP [.arr 1 [.i o0] true 0] g7 (oP [.arr 1 [.i o0] true 0] g8 (oP [.arr 1 [.i o0] true 0] g9 .nil))))))))))⟩
theorem tta_d_5 (a:Int) (rw pl:List HV) (o0:Int) (i:Nat) {y10:HV}(g0:¬ ((i:Int) < (pl.length:Int))):RT pol 27 (sub [1,1,0,1,0,0] B27) (env27 (.imm .arg 1 [.i a]) (.imm .arg 1 rw) (.imm .arg 1 pl) (.imm .lit 1 []) (.bool false) (.sl 0 0 1 (some 1) 1 1) (.i (i:Int)) y10) [.arr 1 [.i o0] true 0] (.exit 0) (env27 (.imm .arg 1 [.i a]) (.imm .arg 1 rw) (.imm .arg 1 pl) (.imm .lit 1 []) (.bool false) (.sl 0 0 1 (some 1) 1 1) (.i (i:Int)) y10) [.arr 1 [.i o0] true 0] :=
  RunsTo.hin 0 60 [⟨3,3,.bool false,[.arr 1 [.i o0] true 0]⟩] fun kf hk=>⟨_,by kernel_rfl,(oB [.arr 1 [.i o0] true 0] (decide_eq_false g0) .nil)⟩
theorem tta_e_0 (a:Int) (rw pl:List HV) (o0:Int) (y9 y10:HV):RT pol 27 (sub [1,1,1] B27) (env27 (.imm .arg 1 [.i a]) (.imm .arg 1 rw) (.imm .arg 1 pl) (.imm .lit 1 []) (.bool false) (.sl 0 0 1 (some 1) 1 1) y9 y10) [.arr 1 [.i o0] true 0] .ret (env27 (.imm .arg 1 [.i a]) (.imm .arg 1 rw) (.imm .arg 1 pl) (.sl 0 0 1 (some 1) 1 1) (.bool true) (.sl 0 0 1 (some 1) 1 1) y9 y10) [.arr 1 [.i o0] true 0] :=
  RunsTo.hin 0 60 [] fun kf hk=>⟨_,by kernel_rfl,.nil⟩
theorem ttb_a_0 (a b:Int) (rw pl:List HV):RT pol 27 (sub [0] B27) [(0,.imm .arg 1 [.i a,.i b]),(1,.imm .arg 1 rw),(2,.imm .arg 1 pl)] [] .normal (env27 (.imm .arg 1 [.i a,.i b]) (.imm .arg 1 rw) (.imm .arg 1 pl) (.imm .lit 1 []) (.bool false) Ud Ud Ud) [] :=
  RunsTo.hin 0 60 [] fun kf hk=>⟨_,by kernel_rfl,.nil⟩
theorem ttb_b_0 (a b:Int) (rw pl:List HV):RT pol 27 (sub [1,0] B27) (env27 (.imm .arg 1 [.i a,.i b]) (.imm .arg 1 rw) (.imm .arg 1 pl) (.imm .lit 1 []) (.bool false) Ud Ud Ud) [] .normal (env27 (.imm .arg 1 [.i a,.i b]) (.imm .arg 1 rw) (.imm .arg 1 pl) (.imm .lit 1 []) (.bool false) (.sl 0 0 2 (some 2) 2 1) Ud Ud) [.arr 1 [.i 0,.i 0] true 0] :=
  RunsTo.hin 0 60 [] fun kf hk=>⟨_,by kernel_rfl,.nil⟩
theorem ttb_c_0 (a b:Int) (rw pl:List HV) (o0:Int) (o1:Int):RT pol 27 (sub [1,1,0,0] B27) (env27 (.imm .arg 1 [.i a,.i b]) (.imm .arg 1 rw) (.imm .arg 1 pl) (.imm .lit 1 []) (.bool false) (.sl 0 0 2 (some 2) 2 1) Ud Ud) [.arr 1 [.i o0,.i o1] true 0] .normal (env27 (.imm .arg 1 [.i a,.i b]) (.imm .arg 1 rw) (.imm .arg 1 pl) (.imm .lit 1 []) (.bool false) (.sl 0 0 2 (some 2) 2 1) (.i 0) Ud) [.arr 1 [.i o0,.i o1] true 0] :=
  RunsTo.hin 0 60 [] fun kf hk=>⟨_,by kernel_rfl,.nil⟩
theorem ttb_d_3 (a b:Int) (rw pl:List HV) (o0:Int) (o1:Int) (i:Nat) {y10:HV} {x2:Int} {x3:Int} {x4:Int} {x5:Int} {x6:Int} {l0:List HV} {x7:Int} {x8:Int} {l1:List HV} {x9:Int} (g0:(i:Int) < (pl.length:Int)) (g1:idxV Tp 22 (.imm .arg 1 pl) (.i (i:Int))=some (.vptr (.i x2))) (g2:¬ (x2 < 0)) (g3:idxV Tp 22 (.imm .arg 1 pl) (.i (i:Int))=some (.vptr (.i x3))) (g4:¬ ((rw.length:Int) ≤ x3)) (g5:0 < (i:Int)) (g6:idxV Tp 22 (.imm .arg 1 pl) (.i (IntKind.i64.wrap ((i:Int) - 1)))=some (.vptr (.i x4))) (g7:idxV Tp 22 (.imm .arg 1 pl) (.i (i:Int))=some (.vptr (.i x5))) (g8:¬ (x5 ≤ x4)) (g9:idxV Tp 22 (.imm .arg 1 pl) (.i (i:Int))=some (.vptr (.i x6))) (g10:idxV Tp 35 (.imm .arg 1 rw) (.i x6)=some (.vptr (.imm .arg 1 l0))) (g11:idxV Tp 22 (.imm .arg 1 l0) (.i 0)=some (.vptr (.i x7))) (g12:binV Tp .rem 3 (.i (IntKind.i64.wrap (o0+x7))) (.i a)=some (.i ((IntKind.i64.wrap (o0+x7):Int).tmod a))) (g13:idxV Tp 22 (.imm .arg 1 pl) (.i (i:Int))=some (.vptr (.i x8))) (g14:idxV Tp 35 (.imm .arg 1 rw) (.i x8)=some (.vptr (.imm .arg 1 l1))) (g15:idxV Tp 22 (.imm .arg 1 l1) (.i 1)=some (.vptr (.i x9))) (g16:binV Tp .rem 3 (.i (IntKind.i64.wrap (o1+x9))) (.i b)=some (.i ((IntKind.i64.wrap (o1+x9):Int).tmod b))):RT pol 27 (sub [1,1,0,1,0,0] B27) (env27 (.imm .arg 1 [.i a,.i b]) (.imm .arg 1 rw) (.imm .arg 1 pl) (.imm .lit 1 []) (.bool false) (.sl 0 0 2 (some 2) 2 1) (.i (i:Int)) y10) [.arr 1 [.i o0,.i o1] true 0] .normal (env27 (.imm .arg 1 [.i a,.i b]) (.imm .arg 1 rw) (.imm .arg 1 pl) (.imm .lit 1 []) (.bool false) (.sl 0 0 2 (some 2) 2 1) (.i (IntKind.i64.wrap ((i:Int)+1))) (.i 2)) [.arr 1 [.i ((IntKind.i64.wrap (o0+x7):Int).tmod a),.i ((IntKind.i64.wrap (o1+x9):Int).tmod b)] true 0] :=
  RunsTo.hin 0 60 [⟨3,3,.bool true,[.arr 1 [.i o0,.i o1] true 0]⟩,⟨5,2,.vptr (.i x2),[.arr 1 [.i o0,.i o1] true 0]⟩,⟨5,4,.bool false,[.arr 1 [.i o0,.i o1] true 0]⟩,⟨5,8,.vptr (.i x3),[.arr 1 [.i o0,.i o1] true 0]⟩,⟨5,12,.bool false,[.arr 1 [.i o0,.i o1] true 0]⟩,⟨5,16,.bool true,[.arr 1 [.i o0,.i o1] true 0]⟩,⟨5,21,.vptr (.i x4),[.arr 1 [.i o0,.i o1] true 0]⟩,⟨5,25,.vptr (.i x5),[.arr 1 [.i o0,.i o1] true 0]⟩,⟨5,27,.bool false,[.arr 1 [.i o0,.i o1] true 0]⟩,⟨10,9,.vptr (.i x6),[.arr 1 [.i o0,.i o1] true 0]⟩,⟨10,11,.vptr (.imm .arg 1 l0),[.arr 1 [.i o0,.i o1] true 0]⟩,⟨10,14,.vptr (.i x7),[.arr 1 [.i o0,.i o1] true 0]⟩,⟨10,21,.i ((IntKind.i64.wrap (o0+x7):Int).tmod a),[.arr 1 [.i o0,.i o1] true 0]⟩,⟨10,9,.vptr (.i x8),[.arr 1 [.i ((IntKind.i64.wrap (o0+x7):Int).tmod a),.i o1] true 0]⟩,⟨10,11,.vptr (.imm .arg 1 l1),[.arr 1 [.i ((IntKind.i64.wrap (o0+x7):Int).tmod a),.i o1] true 0]⟩,⟨10,14,.vptr (.i x9),[.arr 1 [.i ((IntKind.i64.wrap (o0+x7):Int).tmod a),.i o1] true 0]⟩,⟨10,21,.i ((IntKind.i64.wrap (o1+x9):Int).tmod b),[.arr 1 [.i ((IntKind.i64.wrap (o0+x7):Int).tmod a),.i o1] true 0]⟩] fun kf hk=>⟨_,by kernel_rfl,(oB [.arr 1 [.i o0,.i o1] true 0] (decide_eq_true g0) (oP [.arr 1 [.i o0,.i o1] true 0] g1 (oB [.arr 1 [.i o0,.i o1] true 0] (decide_eq_false g2) (oP [.arr 1 [.i o0,.i o1] true 0] g3 (oB [.arr 1 [.i o0,.i o1] true 0] (decide_eq_false g4) (oB [.arr 1 [.i o0,.i o1] true 0] (decide_eq_true g5) (oP [.arr 1 [.i o0,.i o1] true 0] g6 (oP [.arr 1 [.i o0,.i o1] true 0] g7 (oB [.arr 1 [.i o0,.i o1] true 0] (decide_eq_false g8) (oP [.arr 1 [.i o0,.i o1] true 0] g9 (oP [.arr 1 [.i o0,.i o1] true 0] g10 (oP [.arr 1 [.i o0,.i o1] true 0] g11 (oP [.arr 1 [.i o0,.i o1] true 0] g12 (oP [.arr 1 [.i ((IntKind.i64.wrap (o0+x7):Int).tmod a),.i o1] true 0] g13 (oP [.arr 1 [.i ((IntKind.i64.wrap (o0+x7):Int).tmod a),.i o1] true 0] g14 (oP [.arr 1 [.i ((IntKind.i64.wrap (o0+x7):Int).tmod a),.i o1] true 0] g15 (oP [.arr 1 [.i ((IntKind.i64.wrap (o0+x7):Int).tmod a),.i o1] true 0] g16 .nil)))))))))))))))))⟩
theorem ttb_d_4 (a b:Int) (rw pl:List HV) (o0:Int) (o1:Int) (i:Nat) {y10:HV} {x2:Int} {x3:Int} {x4:Int} {l0:List HV} {x5:Int} {x6:Int} {l1:List HV} {x7:Int} (g0:(i:Int) < (pl.length:Int)) (g1:idxV Tp 22 (.imm .arg 1 pl) (.i (i:Int))=some (.vptr (.i x2))) (g2:¬ (x2 < 0)) (g3:idxV Tp 22 (.imm .arg 1 pl) (.i (i:Int))=some (.vptr (.i x3))) (g4:¬ ((rw.length:Int) ≤ x3)) (g5:¬ (0 < (i:Int))) (g6:idxV Tp 22 (.imm .arg 1 pl) (.i (i:Int))=some (.vptr (.i x4))) (g7:idxV Tp 35 (.imm .arg 1 rw) (.i x4)=some (.vptr (.imm .arg 1 l0))) (g8:idxV Tp 22 (.imm .arg 1 l0) (.i 0)=some (.vptr (.i x5))) (g9:binV Tp .rem 3 (.i (IntKind.i64.wrap (o0+x5))) (.i a)=some (.i ((IntKind.i64.wrap (o0+x5):Int).tmod a))) (g10:idxV Tp 22 (.imm .arg 1 pl) (.i (i:Int))=some (.vptr (.i x6))) (g11:idxV Tp 35 (.imm .arg 1 rw) (.i x6)=some (.vptr (.imm .arg 1 l1))) (g12:idxV Tp 22 (.imm .arg 1 l1) (.i 1)=some (.vptr (.i x7))) (g13:binV Tp .rem 3 (.i (IntKind.i64.wrap (o1+x7))) (.i b)=some (.i ((IntKind.i64.wrap (o1+x7):Int).tmod b))):RT pol 27 (sub [1,1,0,1,0,0] B27) (env27 (.imm .arg 1 [.i a,.i b]) (.imm .arg 1 rw) (.imm .arg 1 pl) (.imm .lit 1 []) (.bool false) (.sl 0 0 2 (some 2) 2 1) (.i (i:Int)) y10) [.arr 1 [.i o0,.i o1] true 0] .normal (env27 (.imm .arg 1 [.i a,.i b]) (.imm .arg 1 rw) (.imm .arg 1 pl) (.imm .lit 1 []) (.bool false) (.sl 0 0 2 (some 2) 2 1) (.i (IntKind.i64.wrap ((i:Int)+1))) (.i 2)) [.arr 1 [.i ((IntKind.i64.wrap (o0+x5):Int).tmod a),.i ((IntKind.i64.wrap (o1+x7):Int).tmod b)] true 0] :=
  RunsTo.hin 0 60 [⟨3,3,.bool true,[.arr 1 [.i o0,.i o1] true 0]⟩,⟨5,2,.vptr (.i x2),[.arr 1 [.i o0,.i o1] true 0]⟩,⟨5,4,.bool false,[.arr 1 [.i o0,.i o1] true 0]⟩,⟨5,8,.vptr (.i x3),[.arr 1 [.i o0,.i o1] true 0]⟩,⟨5,12,.bool false,[.arr 1 [.i o0,.i o1] true 0]⟩,⟨5,16,.bool false,[.arr 1 [.i o0,.i o1] true 0]⟩,⟨10,9,.vptr (.i x4),[.arr 1 [.i o0,.i o1] true 0]⟩,⟨10,11,.vptr (.imm .arg 1 l0),[.arr 1 [.i o0,.i o1] true 0]⟩,⟨10,14,.vptr (.i x5),[.arr 1 [.i o0,.i o1] true 0]⟩,⟨10,21,.i ((IntKind.i64.wrap (o0+x5):Int).tmod a),[.arr 1 [.i o0,.i o1] true 0]⟩,⟨10,9,.vptr (.i x6),[.arr 1 [.i ((IntKind.i64.wrap (o0+x5):Int).tmod a),.i o1] true 0]⟩,⟨10,11,.vptr (.imm .arg 1 l1),[.arr 1 [.i ((IntKind.i64.wrap (o0+x5):Int).tmod a),.i o1] true 0]⟩,⟨10,14,.vptr (.i x7),[.arr 1 [.i ((IntKind.i64.wrap (o0+x5):Int).tmod a),.i o1] true 0]⟩,⟨10,21,.i ((IntKind.i64.wrap (o1+x7):Int).tmod b),[.arr 1 [.i ((IntKind.i64.wrap (o0+x5):Int).tmod a),.i o1] true 0]⟩] fun kf hk=>⟨_,by kernel_rfl,(oB [.arr 1 [.i o0,.i o1] true 0] (decide_eq_true g0) (oP [.arr 1 [.i o0,.i o1] true 0] g1 (oB [.arr 1 [.i o0,.i o1] true 0] (decide_eq_false g2) (oP [.arr 1 [.i o0,.i o1] true 0] g3 (oB [.arr 1 [.i o0,.i o1] true 0] (decide_eq_false g4) (oB [.arr 1 [.i o0,.i o1] true 0] (decide_eq_false g5) (oP [.arr 1 [.i o0,.i o1] true 0] g6 (oP [.arr 1 [.i o0,.i o1] true 0] g7 (oP [.arr 1 [.i o0,.i o1] true 0] g8 (oP [.arr 1 [.i o0,.i o1] true 0] g9 (oP [.arr 1 [.i ((IntKind.i64.wrap (o0+x5):Int).tmod a),.i o1] true 0] g10 (oP [.arr 1 [.i ((IntKind.i64.wrap (o0+x5):Int).tmod a),.i o1] true 0] g11 (oP [.arr 1 [.i ((IntKind.i64.wrap (o0+x5):Int).tmod a),.i o1] true 0] g12 (oP [.arr 1 [.i ((IntKind.i64.wrap (o0+x5):Int).tmod a),.i o1] true 0] g13 .nil))))))))))))))⟩
theorem ttb_d_5 (a b:Int) (rw pl:List HV) (o0:Int) (o1:Int) (i:Nat) {y10:HV}(g0:¬ ((i:Int) < (pl.length:Int))):RT pol 27 (sub [1,1,0,1,0,0] B27) (env27 (.imm .arg 1 [.i a,.i b]) (.imm .arg 1 rw) (.imm .arg 1 pl) (.imm .lit 1 []) (.bool false) (.sl 0 0 2 (some 2) 2 1) (.i (i:Int)) y10) [.arr 1 [.i o0,.i o1] true 0] (.exit 0) (env27 (.imm .arg 1 [.i a,.i b]) (.imm .arg 1 rw) (.imm .arg 1 pl) (.imm .lit 1 []) (.bool false) (.sl 0 0 2 (some 2) 2 1) (.i (i:Int)) y10) [.arr 1 [.i o0,.i o1] true 0] :=
  RunsTo.hin 0 60 [⟨3,3,.bool false,[.arr 1 [.i o0,.i o1] true 0]⟩] fun kf hk=>⟨_,by kernel_rfl,(oB [.arr 1 [.i o0,.i o1] true 0] (decide_eq_false g0) .nil)⟩
theorem ttb_e_0 (a b:Int) (rw pl:List HV) (o0:Int) (o1:Int) (y9 y10:HV):RT pol 27 (sub [1,1,1] B27) (env27 (.imm .arg 1 [.i a,.i b]) (.imm .arg 1 rw) (.imm .arg 1 pl) (.imm .lit 1 []) (.bool false) (.sl 0 0 2 (some 2) 2 1) y9 y10) [.arr 1 [.i o0,.i o1] true 0] .ret (env27 (.imm .arg 1 [.i a,.i b]) (.imm .arg 1 rw) (.imm .arg 1 pl) (.sl 0 0 2 (some 2) 2 1) (.bool true) (.sl 0 0 2 (some 2) 2 1) y9 y10) [.arr 1 [.i o0,.i o1] true 0] :=
  RunsTo.hin 0 60 [] fun kf hk=>⟨_,by kernel_rfl,.nil⟩
end Go.Proofs.Ytaibmipamkaljaa
end
section
open Go Go.HL
namespace Go.Proofs.Ytaibmipamkaljaa
open Go.Proofs.Try renaming prog → Tp
open Go.HL.HV renaming undef → Ud
theorem res25:Try.f25.results.toList=[.tmp 2,.tmp 3]:=by kernel_rfl
def bound25:List HV → Option HV:=liF fun l=>some (if (newGroupT l).2=true then .tuple [.int .i64 ((newGroupT l).1.1+(newGroupT l).1.2.1 - 1),.int .i64 0] else .tuple [.int .i64 0,.int .i64 2])
theorem bound_ok:PrimOk Tp 25 bound25:=by
  refine primOk_pure (pol:=polZ) (fn:=Try.f25) (cd:=B25) follows_mixed soundZ (by kernel_rfl) (by kernel_rfl) (fnok polZ.prim _ _ (by kernel_rfl)) (by kernel_rfl) ?_
  intro args res h
  obtain ⟨l,rfl,hq⟩:=liF_inv h
  clear h
  cases hq
  have h5:=newGroup_at (pol':=polZ) (by kernel_rfl) l []
  by_cases c:(newGroupT l).2=true
  · obtain ⟨hg,hr⟩:=newGroup_gr c
    rw [c] at h5
    have s:=bo_0 (l.map encI) _ _ _ h5
    obtain ⟨⟨g1,g2⟩,g3,g4⟩:=hg
    rw [wrap_id (n:=(newGroupT l).1.1+(newGroupT l).1.2.1) (by omega) (by omega),wrap_id (by omega) (by omega)] at s
    exact ⟨_,_,_,.tuple [.int .i64 ((newGroupT l).1.1+(newGroupT l).1.2.1 - 1),.int .i64 0],s,by simp,by simp only [resultsV,res25]; rfl,by rw [if_pos c]; rfl⟩
  · rw [nb_false c] at h5
    have s:=bo_1 (l.map encI) _ _ _ h5
    exact ⟨_,_,_,.tuple [.int .i64 0,.int .i64 2],s,by simp,by simp only [resultsV,res25]; rfl,by rw [if_neg c]; rfl⟩
def addL:List Int → List Int → List Int → List Int | [a],[o],[x]=>[(o+x) % a] | [a,b],[o,u],[x,y]=>[(o+x) % a,(u+y) % b] | _,_,_=>[]
def totF (gl:List Int) (R:List (List Int)):List Int → List Int → List Int
  | acc,[]=>acc
  | acc,q :: ps=>totF gl R (addL gl acc (R.getD q.toNat [])) ps
def okP (n:Nat) (p:List Int):Bool:=p.all (fun q=>decide (0 ≤ q∧q < (n:Int))) && (List.range (p.length - 1)).all fun i=>decide (p.getD i 0 < p.getD (i+1) 0)
theorem okP_iff {n:Nat} {p:List Int}:okP n p=true ↔ (∀ i,i < p.length → 0 ≤ p.getD i 0∧p.getD i 0 < (n:Int))∧∀ i,i+1 < p.length → p.getD i 0 < p.getD (i+1) 0:=by
  simp only [okP,Bool.and_eq_true,List.all_eq_true,decide_eq_true_eq,List.mem_range]
  constructor
  · rintro ⟨h1,h2⟩
    exact ⟨fun i hi=>h1 _ (by rw [List.getD,List.getElem?_eq_getElem hi]; exact List.getElem_mem hi),fun i hi=>h2 i (by omega)⟩
  · rintro ⟨h1,h2⟩
    refine ⟨fun q hq=>?_,fun i hi=>h2 i (by omega)⟩
    obtain ⟨i,hi,rfl⟩:=List.getElem_of_mem hq
    have:=h1 i hi
    rwa [List.getD,List.getElem?_eq_getElem hi] at this
theorem res27:Try.f27.results.toList=[.tmp 6,.tmp 7]:=by kernel_rfl
def total27:List HV → Option HV
  | [.imm .arg 1 la,.imm .arg 1 ra,.imm .arg 1 pa]=>(match mapO decI la,mapO decR ra,mapO decI pa with
    | some gl,some R,some p=>if ((newGroupT gl).2 && R.all (elB gl) && decide (p.length ≤ 1000) && okP R.length p)=true then some (.tuple [.own 1 ((totF gl R (List.replicate gl.length 0) p).map encI),.bool true]) else none
    | _,_,_=>none)
  | _=>none
theorem total_inv {args:List HV} {res:HV} (h:total27 args=some res):∃ (gl:List Int) (R:List (List Int)) (p:List Int),args=[.imm .arg 1 (gl.map encI),.imm .arg 1 (R.map encR),.imm .arg 1 (p.map encI)]∧((newGroupT gl).2=true∧(∀ x ∈ R,elB gl x=true)∧p.length ≤ 1000∧okP R.length p=true)∧res=.tuple [.own 1 ((totF gl R (List.replicate gl.length 0) p).map encI),.bool true]:=by
  unfold total27 at h
  split at h
  · split at h
    · rename_i gl R p h1 h2 h3
      split at h
      · rename_i hk
        cases h
        simp only [Bool.and_eq_true,decide_eq_true_eq,List.all_eq_true] at hk
        exact ⟨gl,R,p,by rw [mapO_inv decI_inv h1,mapO_inv decR_inv h2,mapO_inv decI_inv h3],⟨hk.1.1.1,hk.1.1.2,hk.1.2,hk.2⟩,rfl⟩
      · cases h
    · cases h
  · cases h
abbrev ttE (gl:List Int) (R:List (List Int)) (p:List Int) (n:Nat) (v9 v10:HV):Env:=(env27 (.imm .arg 1 (gl.map encI)) (.imm .arg 1 (R.map encR)) (.imm .arg 1 (p.map encI)) (.imm .lit 1 []) (.bool false) (.sl 0 0 n (some n) n 1) v9 v10)
section
variable {R:List (List Int)} {p:List Int}
theorem tt_loopA {a:Int} (h1:2 ≤ a) (h2:a ≤ 24) (hR:∀ x ∈ R,elB [a] x=true) (hl:p.length ≤ 1000) (hp:okP R.length p=true):∀ k i o,i+k=p.length → (0 ≤ o∧o < a) →
    ∃ y9 y10,RT pol 27 (sub [1,1,0,1,0] B27) (ttE [a] R p 1 (.int .i64 (i:Int)) Ud) [bI [o]] (.exit 0) (ttE [a] R p 1 y9 y10) [bI (totF [a] R [o] (p.drop i))]:=by
  obtain ⟨p1,p2⟩:=okP_iff.1 hp
  intro k
  induction k with
  | zero =>
    intro i o hi ho
    have s:=tta_d_5 a (R.map encR) (p.map encI) o i (y10:=Ud) (by rw [List.length_map]; omega)
    rw [List.drop_of_length_le (by omega)]
    exact ⟨_,_,lpo (s)⟩
  | succ k ih =>
    intro i o hi ho
    have hlt:i < p.length:=by omega
    have hcons:p.drop i=p.getD i 0 :: p.drop (i+1):=by
      rw [List.drop_eq_getElem_cons hlt]; simp [List.getD,List.getElem?_eq_getElem hlt]
    have q1:=p1 i hlt
    have hq:(p.getD i 0).toNat < R.length:=by omega
    obtain ⟨u,hu,k1,k2⟩:=el_one (hR _ (show R.getD (p.getD i 0).toNat [] ∈ R by rw [List.getD,List.getElem?_eq_getElem hq]; exact List.getElem_mem hq))
    have hgr:=gri (R:=R) q1.1 hq
    have hgx:=gx (l:=p) hlt
    have hg0:idxV Tp 22 (.imm .arg 1 ((R.getD (p.getD i 0).toNat []).map encI)) (.int .i64 0)=some (.vptr (.int .i64 u)):=by
      have:=gx (l:=R.getD (p.getD i 0).toNat []) (y:=0) (by rw [hu]; simp)
      rw [hu] at this ⊢; exact this
    have w:IntKind.i64.wrap (o+u)=o+u:=wrap_id (by omega) (by omega)
    have t:(o+u).tmod a=(o+u) % a:=Int.tmod_eq_emod_of_nonneg (by omega)
    have m:=mod_in (m:=a) (by omega) (o+u)
    obtain ⟨y9,y10,r⟩:=ih (i+1) ((o+u) % a) (by omega) m
    have et:totF [a] R [o] (p.drop i)=totF [a] R [(o+u) % a] (p.drop (i+1)):=by rw [hcons,totF,hu]; rfl
    rw [et]
    by_cases h0:0 < i
    · have q0:=p2 (i - 1) (by omega)
      rw [show i - 1+1=i by omega] at q0
      have hgp:=gx (l:=p) (y:=i - 1) (by omega)
      rw [← wrap_pred h0 (by omega)] at hgp
      have s:=tta_d_3 a (R.map encR) (p.map encI) o i (y10:=Ud) (by rw [List.length_map]; omega) hgx (by omega) hgx (by rw [List.length_map]; omega) (by omega) hgp hgx (by omega) hgx hgr hg0 (rem3 (by omega))
      rw [wrap_succ (by omega),w,t] at s
      exact ⟨y9,y10,lop (s) (gc_eq _ rfl) (r)⟩
    · have s:=tta_d_4 a (R.map encR) (p.map encI) o i (y10:=Ud) (by rw [List.length_map]; omega) hgx (by omega) hgx (by rw [List.length_map]; omega) (by omega) hgx hgr hg0 (rem3 (by omega))
      rw [wrap_succ (by omega),w,t] at s
      exact ⟨y9,y10,lop (s) (gc_eq _ rfl) (r)⟩
theorem tt_loopB {a b:Int} (h1:2 ≤ a) (h2:a ≤ 24) (h3:2 ≤ b) (h4:b ≤ 24) (hR:∀ x ∈ R,elB [a,b] x=true) (hl:p.length ≤ 1000) (hp:okP R.length p=true):∀ k i o o',i+k=p.length → (0 ≤ o∧o < a) → (0 ≤ o'∧o' < b) →
    ∃ y9 y10,RT pol 27 (sub [1,1,0,1,0] B27) (ttE [a,b] R p 2 (.int .i64 (i:Int)) Ud) [bI [o,o']] (.exit 0) (ttE [a,b] R p 2 y9 y10) [bI (totF [a,b] R [o,o'] (p.drop i))]:=by
  obtain ⟨p1,p2⟩:=okP_iff.1 hp
  intro k
  induction k with
  | zero =>
    intro i o o' hi ho ho'
    have s:=ttb_d_5 a b (R.map encR) (p.map encI) o o' i (y10:=Ud) (by rw [List.length_map]; omega)
    rw [List.drop_of_length_le (by omega)]
    exact ⟨_,_,lpo (s)⟩
  | succ k ih =>
    intro i o o' hi ho ho'
    have hlt:i < p.length:=by omega
    have hcons:p.drop i=p.getD i 0 :: p.drop (i+1):=by
      rw [List.drop_eq_getElem_cons hlt]; simp [List.getD,List.getElem?_eq_getElem hlt]
    have q1:=p1 i hlt
    have hq:(p.getD i 0).toNat < R.length:=by omega
    obtain ⟨u,v,hu,hk1,hk2⟩:=el_two (hR _ (show R.getD (p.getD i 0).toNat [] ∈ R by rw [List.getD,List.getElem?_eq_getElem hq]; exact List.getElem_mem hq))
    have hgr:=gri (R:=R) q1.1 hq
    have hgx:=gx (l:=p) hlt
    have hg0:idxV Tp 22 (.imm .arg 1 ((R.getD (p.getD i 0).toNat []).map encI)) (.int .i64 0)=some (.vptr (.int .i64 u)):=by
      have:=gx (l:=R.getD (p.getD i 0).toNat []) (y:=0) (by rw [hu]; simp)
      rw [hu] at this ⊢; exact this
    have hg1:idxV Tp 22 (.imm .arg 1 ((R.getD (p.getD i 0).toNat []).map encI)) (.int .i64 1)=some (.vptr (.int .i64 v)):=by
      have:=gx (l:=R.getD (p.getD i 0).toNat []) (y:=1) (by rw [hu]; simp)
      rw [hu] at this ⊢; exact this
    have w:IntKind.i64.wrap (o+u)=o+u:=wrap_id (by omega) (by omega)
    have t:(o+u).tmod a=(o+u) % a:=Int.tmod_eq_emod_of_nonneg (by omega)
    have w':IntKind.i64.wrap (o'+v)=o'+v:=wrap_id (by omega) (by omega)
    have t':(o'+v).tmod b=(o'+v) % b:=Int.tmod_eq_emod_of_nonneg (by omega)
    have m:=mod_in (m:=a) (by omega) (o+u)
    have m':=mod_in (m:=b) (by omega) (o'+v)
    obtain ⟨y9,y10,r⟩:=ih (i+1) ((o+u) % a) ((o'+v) % b) (by omega) m m'
    have et:totF [a,b] R [o,o'] (p.drop i)=totF [a,b] R [(o+u) % a,(o'+v) % b] (p.drop (i+1)):=by rw [hcons,totF,hu]; rfl
    rw [et]
    by_cases h0:0 < i
    · have q0:=p2 (i - 1) (by omega)
      rw [show i - 1+1=i by omega] at q0
      have hgp:=gx (l:=p) (y:=i - 1) (by omega)
      rw [← wrap_pred h0 (by omega)] at hgp
      have s:=ttb_d_3 a b (R.map encR) (p.map encI) o o' i (y10:=Ud) (by rw [List.length_map]; omega) hgx (by omega) hgx (by rw [List.length_map]; omega) (by omega) hgp hgx (by omega) hgx hgr hg0 (rem3 (by omega)) hgx hgr hg1 (rem3 (by omega))
      rw [wrap_succ (by omega),w,t,w',t'] at s
      exact ⟨y9,y10,lop (s) (gc_eq _ rfl) (r)⟩
    · have s:=ttb_d_4 a b (R.map encR) (p.map encI) o o' i (y10:=Ud) (by rw [List.length_map]; omega) hgx (by omega) hgx (by rw [List.length_map]; omega) (by omega) hgx hgr hg0 (rem3 (by omega)) hgx hgr hg1 (rem3 (by omega))
      rw [wrap_succ (by omega),w,t,w',t'] at s
      exact ⟨y9,y10,lop (s) (gc_eq _ rfl) (r)⟩
end
theorem totF_len {gl:List Int} (hg:(newGroupT gl).2=true) {R:List (List Int)} (hR:∀ x ∈ R,elB gl x=true):∀ (p acc:List Int),(∀ q ∈ p,0 ≤ q∧q < (R.length:Int)) → acc.length=gl.length → (totF gl R acc p).length=gl.length
  | [],acc,_,h=>h
  | q :: p,acc,hp,h=>by
    rw [totF]
    have hq:=hp q (by simp)
    refine totF_len hg hR p _ (fun r hr=>hp r (by simp [hr])) ?_
    have hx:=hR _ (show R.getD q.toNat [] ∈ R by rw [List.getD,List.getElem?_eq_getElem (show q.toNat < R.length by omega)]; exact List.getElem_mem _)
    rcases grp_cases hg with ⟨a,rfl,h1,h2⟩ | ⟨a,b,rfl,h1,h2,h3,h4,h5,h6⟩
    · obtain ⟨u,hu,_⟩:=el_one hx
      rw [hu]
      match acc,h with
      | [o],_=>rfl
    · obtain ⟨u,v,hu,_⟩:=el_two hx
      rw [hu]
      match acc,h with
      | [o,o'],_=>rfl
theorem okP_mem {n:Nat} {p:List Int} (h:okP n p=true):∀ q ∈ p,0 ≤ q∧q < (n:Int):=by
  intro q hq
  obtain ⟨i,hi,rfl⟩:=List.getElem_of_mem hq
  have:=(okP_iff.1 h).1 i hi
  rwa [List.getD,List.getElem?_eq_getElem hi] at this
theorem total_ok:PrimOk Tp 27 total27:=by
  refine primOk_pure (pol:=pol) (fn:=Try.f27) (cd:=B27) follows_mixed sound (by kernel_rfl) (by kernel_rfl) (fnok pol.prim _ _ (by kernel_rfl)) (by kernel_rfl) ?_
  intro args res h
  obtain ⟨gl,R,p,rfl,⟨hg,hR,hl,hp⟩,rfl⟩:=total_inv h
  have tl:=totF_len hg hR p (List.replicate gl.length 0) (okP_mem hp) (by simp)
  rcases grp_cases hg with ⟨a,rfl,h1,h2⟩ | ⟨a,b,rfl,h1,h2,h3,h4,h5,h6⟩
  · have s1:=tta_a_0 a (R.map encR) (p.map encI)
    have s2:=tta_b_0 a (R.map encR) (p.map encI)
    have s3:=tta_c_0 a (R.map encR) (p.map encI) 0
    obtain ⟨y9,y10,r⟩:=tt_loopA h1 h2 hR hl hp p.length 0 0 (by omega) (by omega)
    rw [List.drop_zero] at r
    have e:totF [a] R (List.replicate [a].length 0) p=totF [a] R [0] p:=rfl
    rw [e] at tl ⊢
    match hT:totF [a] R [0] p,tl with
    | [o],_ =>
      rw [hT] at r
      have s5:RT pol 27 (sub [1,1,1] B27) (ttE [a] R p 1 y9 y10) [bI [o]] .ret (env27 (.imm .arg 1 ([a].map encI)) (.imm .arg 1 (R.map encR)) (.imm .arg 1 (p.map encI)) (.sl 0 0 1 (some 1) 1 1) (.bool true) (.sl 0 0 1 (some 1) 1 1) y9 y10) [bI [o]]:=tta_e_0 a (R.map encR) (p.map encI) o y9 y10
      have u:=sq (s1) (sq (s2) (sq (sq (s3) (bke (c:=sub [1,1,0,1] B27) (lpi (e0:=(ttE [a] R p 1 (.int .i64 ((0:Nat):Int)) Ud)) r (b:=sub [1,1,0,1,0,0] B27))) (c:=sub [1,1,0] B27)) (s5) (c:=sub [1,1] B27)) (c:=sub [1] B27)) (c:=B27)
      exact ⟨_,_,_,.tuple [.sl 0 0 1 (some 1) 1 1,.bool true],u,by simp,by simp only [resultsV,res27]; rfl,toRes_lb (o:=[o]) rfl rfl true⟩
  · have s1:=ttb_a_0 a b (R.map encR) (p.map encI)
    have s2:=ttb_b_0 a b (R.map encR) (p.map encI)
    have s3:=ttb_c_0 a b (R.map encR) (p.map encI) 0 0
    obtain ⟨y9,y10,r⟩:=tt_loopB h1 h2 h3 h4 hR hl hp p.length 0 0 0 (by omega) (by omega) (by omega)
    rw [List.drop_zero] at r
    have e:totF [a,b] R (List.replicate [a,b].length 0) p=totF [a,b] R [0,0] p:=rfl
    rw [e] at tl ⊢
    match hT:totF [a,b] R [0,0] p,tl with
    | [o,o'],_ =>
      rw [hT] at r
      have s5:RT pol 27 (sub [1,1,1] B27) (ttE [a,b] R p 2 y9 y10) [bI [o,o']] .ret (env27 (.imm .arg 1 ([a,b].map encI)) (.imm .arg 1 (R.map encR)) (.imm .arg 1 (p.map encI)) (.sl 0 0 2 (some 2) 2 1) (.bool true) (.sl 0 0 2 (some 2) 2 1) y9 y10) [bI [o,o']]:=ttb_e_0 a b (R.map encR) (p.map encI) o o' y9 y10
      have u:=sq (s1) (sq (s2) (sq (sq (s3) (bke (c:=sub [1,1,0,1] B27) (lpi (e0:=(ttE [a,b] R p 2 (.int .i64 ((0:Nat):Int)) Ud)) r (b:=sub [1,1,0,1,0,0] B27))) (c:=sub [1,1,0] B27)) (s5) (c:=sub [1,1] B27)) (c:=sub [1] B27)) (c:=B27)
      exact ⟨_,_,_,.tuple [.sl 0 0 2 (some 2) 2 1,.bool true],u,by simp,by simp only [resultsV,res27]; rfl,toRes_lb (o:=[o,o']) rfl rfl true⟩
end Go.Proofs.Ytaibmipamkaljaa
end
section
open Go Go.HL
namespace Go.Proofs.Ytaibmipamkaljaa
def sumG (g:Gr) (l:List El):El:=((l.map Prod.fst).sum % g.1,(l.map Prod.snd).sum % g.2.1)
theorem sumG_cons {g:Gr} (x:El) (l:List El):sumG g (x :: l)=addT g (sumG g l) x:=by
  simp only [sumG,addT,List.map_cons,List.sum_cons]
  rw [Int.emod_add_emod,Int.emod_add_emod,Int.add_comm x.1,Int.add_comm x.2]
theorem sumG_nil (g:Gr):sumG g []=(0,0):=by simp [sumG]
theorem sumG_add {g:Gr} (l:List El) (x:El):addT g (sumG g l) x=sumG g (l ++ [x]):=by
  simp only [sumG,addT,List.map_append,List.sum_append,List.map_cons,List.map_nil,List.sum_cons,List.sum_nil,Int.add_zero]
  rw [Int.emod_add_emod,Int.emod_add_emod]
theorem rch_gen {g:Gr}:∀ (l:List El) (k:Int) (t:El),(k,t) ∈ (rchT g l).headD [] ↔ ∃ s:List El,s.Sublist l∧k=(s.length:Int)∧t=sumG g s
  | [],k,t=>by
    simp only [rchT,List.headD_cons,List.mem_singleton,List.sublist_nil]
    constructor
    · intro h
      exact ⟨[],rfl,congrArg Prod.fst h,(congrArg Prod.snd h).trans (sumG_nil g).symm⟩
    · rintro ⟨s,rfl,rfl,rfl⟩
      rw [sumG_nil]; rfl
  | x :: l,k,t=>by
    show (k,t) ∈ rchStep g x ((rchT g l).headD []) ↔ _
    rw [mem_step]
    constructor
    · rintro ⟨u,h1,h2⟩
      obtain ⟨s,hs,e1,e2⟩:=(rch_gen l u.1 u.2).1 h1
      rcases h2 with h2 | h2
      · subst h2; exact ⟨s,hs.cons x,e1,e2⟩
      · have a1:k=u.1+1:=congrArg Prod.fst h2
        have a2:t=addT g u.2 x:=congrArg Prod.snd h2
        exact ⟨x :: s,hs.cons_cons x,by rw [a1,e1]; simp,by rw [a2,e2,sumG_cons]⟩
    · rintro ⟨s,hs,e1,e2⟩
      cases hs with
      | cons _ h=>exact ⟨(k,t),(rch_gen l k t).2 ⟨s,h,e1,e2⟩,.inl rfl⟩
      | cons_cons _ h =>
        rename_i s'
        refine ⟨((s'.length:Int),sumG g s'),(rch_gen l _ _).2 ⟨s',h,rfl,rfl⟩,.inr ?_⟩
        rw [e1,e2,sumG_cons]
        simp only [rchW,List.length_cons]
        refine Prod.ext ?_ rfl
        show ((s'.length+1:Nat):Int)=(s'.length:Int)+1
        omega
theorem sumG_zero_iff {g:Gr} {l:List El}:sumG g l=(0,0) ↔ (l.map Prod.fst).sum % g.1=0∧(l.map Prod.snd).sum % g.2.1=0:=by simp [sumG,Prod.ext_iff]
theorem dav_gr {gl:List Int} {g:Gr} {e:Int} (h:GrL gl g e) {l:List El} (hl:g.1+g.2.1 - 1 ≤ (l.length:Int)):∃ s,s.Sublist l∧s ≠ []∧sumG g s=(0,0):=by
  rcases h with ⟨m,rfl,rfl,rfl,h1,h2⟩ | ⟨a,b,rfl,rfl,rfl,h1,h2,h3,h4,h5,h6⟩
  · obtain ⟨s,a1,a2,a3,a4⟩:=Ol.dav e.toNat (by omega) (by omega) 1 (by omega) (Nat.mod_one _) (l.map fun q=>(q.2,q.1)) (by rw [List.length_map]; simp only at hl; omega)
    obtain ⟨t,t1,rfl⟩:=List.sublist_map_iff.1 a1
    refine ⟨t,t1,fun c=>a2 (by rw [c]; rfl),sumG_zero_iff.2 ⟨?_,Int.emod_one _⟩⟩
    rw [Int.toNat_of_nonneg (by omega)] at a4
    simp only [Ol.s2,List.map_map] at a4
    exact a4
  · obtain ⟨s,a1,a2,a3,a4⟩:=Ol.dav e.toNat (by omega) (by omega) a.toNat (by omega) (by
      have:((e.toNat % a.toNat:Nat):Int)=0:=by rw [Int.natCast_emod,Int.toNat_of_nonneg (by omega),Int.toNat_of_nonneg (by omega)]; exact h6
      omega) l (by simp only at hl; omega)
    rw [Int.toNat_of_nonneg (by omega)] at a3 a4
    exact ⟨s,a1,a2,sumG_zero_iff.2 ⟨a3,a4⟩⟩
theorem part_gen {g:Gr} (hg:grOk g):∀ (l:List El) (i:Nat) (w:Wt),(∀ x ∈ l,elOk g x) → w ∈ (rchT g l).headD [] →
    (∀ q ∈ partT g l i w,i ≤ q∧q < i+l.length)∧(partT g l i w).Pairwise (· < ·)∧((partT g l i w).map fun q=>l.getD (q - i) (0,0)).Sublist l∧sumG g ((partT g l i w).map fun q=>l.getD (q - i) (0,0))=w.2
  | [],i,w,_,h=>by
    simp only [rchT,List.headD_cons,List.mem_singleton] at h
    subst h
    refine ⟨by simp [partT],by simp [partT],by simp [partT],by simp [partT,sumG]⟩
  | x :: l,i,w,hl,h=>by
    have hx:=hl x (by simp)
    have hl':∀ y ∈ l,elOk g y:=fun y hy=>hl y (by simp [hy])
    have hok:=head_ok hg (x :: l) w h
    rw [partT]
    split
    · rename_i c
      obtain ⟨s,s1,s2,s3⟩:=(rch_gen (x :: l) w.1 w.2).1 h
      have:s=[]:=List.length_eq_zero_iff.1 (by omega)
      subst this
      exact ⟨by simp,by simp,by simp,by rw [List.map_nil]; exact s3.symm⟩
    · rename_i c0
      have key:∀ q,i+1 ≤ q → (x :: l).getD (q - i) (0,0)=l.getD (q - (i+1)) (0,0):=fun q hq=>by
        rw [show q - i=q - (i+1)+1 by omega]; rfl
      have mp:∀ P:List Nat,(∀ q ∈ P,i+1 ≤ q∧q < i+1+l.length) → (P.map fun q=>(x :: l).getD (q - i) (0,0))=P.map fun q=>l.getD (q - (i+1)) (0,0):=fun P hP=>List.map_congr_left fun q hq=>key q (hP q hq).1
      split
      · rename_i c
        obtain ⟨p1,p2,p3,p4⟩:=part_gen hg l (i+1) _ hl' c
        refine ⟨fun q hq=>?_,List.Pairwise.cons (fun q hq=>by have:=p1 q hq; omega) p2,?_,?_⟩
        · rcases List.mem_cons.1 hq with rfl | hq
          · simp only [List.length_cons]; omega
          · have:=p1 q hq; simp only [List.length_cons]; omega
        · rw [List.map_cons,mp _ p1,Nat.sub_self]; exact p3.cons_cons x
        · rw [List.map_cons,mp _ p1,Nat.sub_self]
          show sumG g (x :: _)=_
          rw [sumG_cons,p4]
          exact add_subT hg hok.1
      · rename_i c
        rcases part_next hg hx h with h' | h'
        · exact absurd h' c
        · obtain ⟨p1,p2,p3,p4⟩:=part_gen hg l (i+1) w hl' h'
          refine ⟨fun q hq=>by have:=p1 q hq; simp only [List.length_cons]; omega,p2,?_,?_⟩
          · rw [mp _ p1]; exact p3.cons x
          · rw [mp _ p1]; exact p4
section
variable {gl:List Int} (hg:(newGroupT gl).2=true)
include hg
theorem eE_inj {x y:List Int} (hx:elB gl x=true) (hy:elB gl y=true) (h:eE gl x=eE gl y):x=y:=by
  rcases grp_cases hg with ⟨a,rfl,h1,h2⟩ | ⟨a,b,rfl,h1,h2,h3,h4,h5,h6⟩
  · obtain ⟨u,rfl,k1,k2⟩:=el_one hx
    obtain ⟨v,rfl,j1,j2⟩:=el_one hy
    have:u=v:=congrArg Prod.fst h
    rw [this]
  · obtain ⟨u,v,rfl,k1,k2⟩:=el_two hx
    obtain ⟨u',v',rfl,j1,j2⟩:=el_two hy
    simp only [eE,codeT,tE_two k2,tE_two j2,Prod.mk.injEq] at h
    rw [h.1,h.2]
theorem eE_add {x y:List Int} (hx:elB gl x=true) (hy:elB gl y=true):elB gl (addL gl x y)=true∧eE gl (addL gl x y)=addT (grG gl) (eE gl x) (eE gl y):=by
  rcases grp_cases hg with ⟨a,rfl,h1,h2⟩ | ⟨a,b,rfl,h1,h2,h3,h4,h5,h6⟩
  · obtain ⟨u,rfl,k1,k2⟩:=el_one hx
    obtain ⟨v,rfl,j1,j2⟩:=el_one hy
    refine ⟨el_mk1 (mod_in (by omega) _),?_⟩
    simp only [grG,new_one h1 h2]
    exact Prod.ext rfl (by show (0:Int)=(0+0) % 1; decide)
  · obtain ⟨u,v,rfl,k1,k2⟩:=el_two hx
    obtain ⟨u',v',rfl,j1,j2⟩:=el_two hy
    refine ⟨el_mk2 (mod_in (by omega) _) (mod_in (by omega) _),?_⟩
    simp only [grG,new_two h1 h2 h3 h4 h5 h6,eE,codeT,addL,tE_two k2,tE_two j2]
    rw [tE_two (mod_in (by omega) _)]; rfl
theorem totF_el {R:List (List Int)} (hR:∀ x ∈ R,elB gl x=true):∀ (p acc:List Int) (L:List El),(∀ q ∈ p,0 ≤ q∧q < (R.length:Int)) → elB gl acc=true → eE gl acc=sumG (grG gl) L →
    elB gl (totF gl R acc p)=true∧eE gl (totF gl R acc p)=sumG (grG gl) (L ++ p.map fun q=>(els gl R).getD q.toNat (0,0))
  | [],acc,L,_,h1,h2=>by rw [totF,List.map_nil,List.append_nil]; exact ⟨h1,h2⟩
  | q :: p,acc,L,hp,h1,h2=>by
    have hq:=hp q (by simp)
    have hlt:q.toNat < R.length:=by omega
    have hx:elB gl (R.getD q.toNat [])=true:=hR _ (by rw [List.getD,List.getElem?_eq_getElem hlt]; exact List.getElem_mem _)
    obtain ⟨e1,e2⟩:=eE_add hg h1 hx
    have e3:(els gl R).getD q.toNat (0,0)=eE gl (R.getD q.toNat []):=by simp [List.getD,List.getElem?_map,List.getElem?_eq_getElem hlt]
    obtain ⟨r1,r2⟩:=totF_el hR p (addL gl acc (R.getD q.toNat [])) (L ++ [(els gl R).getD q.toNat (0,0)]) (fun r hr=>hp r (by simp [hr])) e1 (by rw [e2,h2,e3,sumG_add])
    rw [totF,List.map_cons]
    refine ⟨r1,r2.trans ?_⟩
    rw [List.append_assoc]; rfl
theorem tot_part {R:List (List Int)} (hR:∀ x ∈ R,elB gl x=true) {k:Int} {x:List Int} (hx:elB gl x=true) (h:(k,eE gl x) ∈ (rchT (grG gl) (els gl R)).headD []) :
    okP R.length (partI (grG gl) (els gl R) (k,eE gl x))=true∧totF gl R (List.replicate gl.length 0) (partI (grG gl) (els gl R) (k,eE gl x))=x:=by
  have hall:∀ y ∈ els gl R,elOk (grG gl) y:=fun y hy=>by
    obtain ⟨z,hz,rfl⟩:=List.mem_map.1 hy
    exact eE_ok hg (hR z hz)
  obtain ⟨p1,p2,p3,p4⟩:=part_gen (grG_ok hg) (els gl R) 0 (k,eE gl x) hall h
  have ok:okP R.length (partI (grG gl) (els gl R) (k,eE gl x))=true:=by
    refine okP_iff.2 ⟨fun i hi=>?_,fun i hi=>?_⟩
    · simp only [partI,List.length_map] at hi ⊢
      simp only [List.getD,List.getElem?_map,List.getElem?_eq_getElem hi,Option.map_some,Option.getD_some]
      have:=p1 _ (List.getElem_mem hi)
      have hL:(els gl R).length=R.length:=List.length_map ..
      rw [hL] at this
      omega
    · simp only [partI,List.length_map] at hi ⊢
      simp only [List.getD,List.getElem?_map,List.getElem?_eq_getElem hi,List.getElem?_eq_getElem (show i < (partT (grG gl) (els gl R) 0 (k,eE gl x)).length by omega),Option.map_some,Option.getD_some]
      have:=List.pairwise_iff_getElem.1 p2 i (i+1) (by omega) hi (by omega)
      omega
  refine ⟨ok,?_⟩
  obtain ⟨z1,z2⟩:=zero_el hg
  obtain ⟨t1,t2⟩:=totF_el hg hR (partI (grG gl) (els gl R) (k,eE gl x)) (List.replicate gl.length 0) [] (okP_mem ok) z1 (by rw [z2,sumG_nil])
  refine eE_inj hg t1 hx (t2.trans ?_)
  rw [List.nil_append,partI,List.map_map]
  have:(partT (grG gl) (els gl R) 0 (k,eE gl x)).map ((fun q:Int=>(els gl R).getD q.toNat (0,0)) ∘ fun q:Nat=>(q:Int))=(partT (grG gl) (els gl R) 0 (k,eE gl x)).map fun q=>(els gl R).getD (q - 0) (0,0):=List.map_congr_left fun q _=>rfl
  rw [this,p4]
end
end Go.Proofs.Ytaibmipamkaljaa
end
section
open Go Go.HL
namespace Go.Proofs.Ytaibmipamkaljaa
open Go.Proofs.Try renaming prog → Tp
open Go.HL.HV renaming undef → Ud
def prL5:FuncId → Option (List HV → Option HV):=fun g=>if g == 16 then some awakeF else if g == 23 then some group23 else if g == 24 then some elements24 else if g == 25 then some bound25 else if g == 26 then some zero26 else if g == 27 then some total27 else if g == 28 then some zero28 else if g == 17 then some ints17 else none
def polL5:Pol:={ pol with prim:=prL5 }
theorem soundL5 (n:Nat):CallSound Tp (callN Tp polL5 n):=sound_prim prL5 (fun g f h=>by
  unfold prL5 at h
  split at h
  · rename_i hg; cases h; rw [eq_of_beq hg]; exact awake_prim
  split at h
  · rename_i hg; cases h; rw [eq_of_beq hg]; exact group_ok
  split at h
  · rename_i hg; cases h; rw [eq_of_beq hg]; exact elements24_ok
  split at h
  · rename_i hg; cases h; rw [eq_of_beq hg]; exact bound_ok
  split at h
  · rename_i hg; cases h; rw [eq_of_beq hg]; exact zero_ok
  split at h
  · rename_i hg; cases h; rw [eq_of_beq hg]; exact total_ok
  split at h
  · rename_i hg; cases h; rw [eq_of_beq hg]; exact zero28_ok
  split at h
  · rename_i hg; cases h; rw [eq_of_beq hg]; exact ints_ok
  · cases h) n
end Go.Proofs.Ytaibmipamkaljaa
end
section
open Go Go.HL
namespace Go.Proofs.Ytaibmipamkaljaa
set_option maxRecDepth 100000
open Go.Proofs.Try renaming prog → Tp
open Go.HL.HV renaming undef → Ud
noncomputable def B5:Code:=Try.f5.body.getD .skip
abbrev env5 (v0 v1 v4 v5 v6 v7 v8 v9 v10 v11 v12 v13 v14 v16:HV):Env:=[(0,v0),(1,v1),(4,v4),(5,v5),(6,v6),(7,v7),(8,v8),(9,v9),(10,v10),(11,v11),(12,v12),(13,v13),(14,v14),(16,v16)]
theorem sa_a_0 (l0 rw:List HV) (p0:Nat) (h0:List HV) (p1:Nat) (h1:List HV) (p2:Nat) (h2:List HV) (p3:Nat) (h3:List HV) (p4:Nat) (h4:List HV) (p5:Nat) (h5:List HV) (p6:Nat) (h6:List HV) (b er:Int) :RT polL5 5 (sub [0] B5) [(0,.imm .arg 1 l0),(1,.imm .arg 1 rw)] [] .normal (env5 (.imm .arg 1 l0) (.imm .arg 1 rw) (.bool false) Ud Ud Ud Ud Ud Ud Ud Ud Ud Ud Ud) [] :=
  RunsTo.hin 0 60 [] fun kf hk=>⟨_,by kernel_rfl,.nil⟩
theorem sa_b_0 (l0 rw:List HV) (p0:Nat) (h0:List HV) (p1:Nat) (h1:List HV) (p2:Nat) (h2:List HV) (p3:Nat) (h3:List HV) (p4:Nat) (h4:List HV) (p5:Nat) (h5:List HV) (p6:Nat) (h6:List HV) (b er:Int)  {y5 y6 y7 y8 y9 y10 y11 y12 y13 y14 y16:HV}(g0:∀ kf,callN Tp polL5 (kf+1) 23 [.imm .arg 1 l0] []=some (.sl 0 0 p0 none p0 1,[.arr 1 h0 true 0])):RT polL5 5 (sub [1,0] B5) (env5 (.imm .arg 1 l0) (.imm .arg 1 rw) (.bool false) y5 y6 y7 y8 y9 y10 y11 y12 y13 y14 y16) [] .normal (env5 (.imm .arg 1 l0) (.imm .arg 1 rw) (.bool false) (.sl 0 0 p0 none p0 1) y6 y7 y8 y9 y10 y11 y12 y13 y14 y16) [.arr 1 h0 true 0] :=
  RunsTo.hin 0 60 [⟨1,1,.sl 0 0 p0 none p0 1,[.arr 1 h0 true 0]⟩] fun kf hk=>⟨_,by kernel_rfl,(oC (g0 kf) .nil)⟩
theorem sa_c_0 (l0 rw:List HV) (p0:Nat) (h0:List HV) (p1:Nat) (h1:List HV) (p2:Nat) (h2:List HV) (p3:Nat) (h3:List HV) (p4:Nat) (h4:List HV) (p5:Nat) (h5:List HV) (p6:Nat) (h6:List HV) (b er:Int)  {y6 y7 y8 y9 y10 y11 y12 y13 y14 y16:HV}(g0:∀ kf,callN Tp polL5 (kf+1) 24 [.sl 0 0 p0 none p0 1,.imm .arg 1 rw,.i 60] [.arr 1 h0 true 0]=some (.sl 1 0 p1 none p1 1,[.arr 1 h0 true 0,.arr 1 h1 true 0])):RT polL5 5 (sub [1,1,0] B5) (env5 (.imm .arg 1 l0) (.imm .arg 1 rw) (.bool false) (.sl 0 0 p0 none p0 1) y6 y7 y8 y9 y10 y11 y12 y13 y14 y16) [.arr 1 h0 true 0] .normal (env5 (.imm .arg 1 l0) (.imm .arg 1 rw) (.bool false) (.sl 0 0 p0 none p0 1) (.sl 1 0 p1 none p1 1) y7 y8 y9 y10 y11 y12 y13 y14 y16) [.arr 1 h0 true 0,.arr 1 h1 true 0] :=
  RunsTo.hin 0 60 [⟨2,2,.sl 1 0 p1 none p1 1,[.arr 1 h0 true 0,.arr 1 h1 true 0]⟩] fun kf hk=>⟨_,by kernel_rfl,(oC (g0 kf) .nil)⟩
theorem sa_d_0 (l0 rw:List HV) (p0:Nat) (h0:List HV) (p1:Nat) (h1:List HV) (p2:Nat) (h2:List HV) (p3:Nat) (h3:List HV) (p4:Nat) (h4:List HV) (p5:Nat) (h5:List HV) (p6:Nat) (h6:List HV) (b er:Int)  {y7 y8 y9 y10 y11 y12 y13 y14 y16:HV}(g0:∀ kf,callN Tp polL5 (kf+1) 25 [.sl 0 0 p0 none p0 1] [.arr 1 h0 true 0,.arr 1 h1 true 0]=some (.tuple [.i b,.i 0],[.arr 1 h0 true 0,.arr 1 h1 true 0])):RT polL5 5 (sub [1,1,1,0] B5) (env5 (.imm .arg 1 l0) (.imm .arg 1 rw) (.bool false) (.sl 0 0 p0 none p0 1) (.sl 1 0 p1 none p1 1) y7 y8 y9 y10 y11 y12 y13 y14 y16) [.arr 1 h0 true 0,.arr 1 h1 true 0] .normal (env5 (.imm .arg 1 l0) (.imm .arg 1 rw) (.bool false) (.sl 0 0 p0 none p0 1) (.sl 1 0 p1 none p1 1) (.i b) (.i 0) y9 y10 y11 y12 y13 y14 y16) [.arr 1 h0 true 0,.arr 1 h1 true 0] :=
  RunsTo.hin 0 60 [⟨3,1,.tuple [.i b,.i 0],[.arr 1 h0 true 0,.arr 1 h1 true 0]⟩] fun kf hk=>⟨_,by kernel_rfl,(oC (g0 kf) .nil)⟩
theorem sa_e_0 (l0 rw:List HV) (p0:Nat) (h0:List HV) (p1:Nat) (h1:List HV) (p2:Nat) (h2:List HV) (p3:Nat) (h3:List HV) (p4:Nat) (h4:List HV) (p5:Nat) (h5:List HV) (p6:Nat) (h6:List HV) (b er:Int)  {y9 y10 y11 y12 y13 y14 y16:HV}(g0:∀ kf,callN Tp polL5 (kf+1) 26 [.sl 0 0 p0 none p0 1,.sl 1 0 p1 none p1 1] [.arr 1 h0 true 0,.arr 1 h1 true 0]=some (.tuple [.sl 2 0 p2 none p2 1,.i er],[.arr 1 h0 true 0,.arr 1 h1 true 0,.arr 1 h2 true 0])):RT polL5 5 (sub [1,1,1,1,0] B5) (env5 (.imm .arg 1 l0) (.imm .arg 1 rw) (.bool false) (.sl 0 0 p0 none p0 1) (.sl 1 0 p1 none p1 1) (.i b) (.i 0) y9 y10 y11 y12 y13 y14 y16) [.arr 1 h0 true 0,.arr 1 h1 true 0] .normal (env5 (.imm .arg 1 l0) (.imm .arg 1 rw) (.bool false) (.sl 0 0 p0 none p0 1) (.sl 1 0 p1 none p1 1) (.i b) (.i 0) (.sl 2 0 p2 none p2 1) (.i er) y11 y12 y13 y14 y16) [.arr 1 h0 true 0,.arr 1 h1 true 0,.arr 1 h2 true 0] :=
  RunsTo.hin 0 60 [⟨4,2,.tuple [.sl 2 0 p2 none p2 1,.i er],[.arr 1 h0 true 0,.arr 1 h1 true 0,.arr 1 h2 true 0]⟩] fun kf hk=>⟨_,by kernel_rfl,(oC (g0 kf) .nil)⟩
theorem sa_f_0 (l0 rw:List HV) (p0:Nat) (h0:List HV) (p1:Nat) (h1:List HV) (p2:Nat) (h2:List HV) (p3:Nat) (h3:List HV) (p4:Nat) (h4:List HV) (p5:Nat) (h5:List HV) (p6:Nat) (h6:List HV) (b er:Int)  {y11 y12 y13 y14 y16:HV}:RT polL5 5 (sub [1,1,1,1,1,0] B5) (env5 (.imm .arg 1 l0) (.imm .arg 1 rw) (.bool false) (.sl 0 0 p0 none p0 1) (.sl 1 0 p1 none p1 1) (.i b) (.i 0) (.sl 2 0 p2 none p2 1) (.i er) y11 y12 y13 y14 y16) [.arr 1 h0 true 0,.arr 1 h1 true 0,.arr 1 h2 true 0] .normal (env5 (.imm .arg 1 l0) (.imm .arg 1 rw) (.bool false) (.sl 0 0 p0 none p0 1) (.sl 1 0 p1 none p1 1) (.i b) (.i 0) (.sl 2 0 p2 none p2 1) (.i er) y11 y12 y13 y14 y16) [.arr 1 h0 true 0,.arr 1 h1 true 0,.arr 1 h2 true 0] :=
  RunsTo.hin 0 60 [] fun kf hk=>⟨_,by kernel_rfl,.nil⟩
theorem sa_g_0 (l0 rw:List HV) (p0:Nat) (h0:List HV) (p1:Nat) (h1:List HV) (p2:Nat) (h2:List HV) (p3:Nat) (h3:List HV) (p4:Nat) (h4:List HV) (p5:Nat) (h5:List HV) (p6:Nat) (h6:List HV) (b er:Int)  {y11 y12 y13 y14 y16:HV}(g0:er=0):RT polL5 5 (sub [1,1,1,1,1,1,0] B5) (env5 (.imm .arg 1 l0) (.imm .arg 1 rw) (.bool false) (.sl 0 0 p0 none p0 1) (.sl 1 0 p1 none p1 1) (.i b) (.i 0) (.sl 2 0 p2 none p2 1) (.i er) y11 y12 y13 y14 y16) [.arr 1 h0 true 0,.arr 1 h1 true 0,.arr 1 h2 true 0] .normal (env5 (.imm .arg 1 l0) (.imm .arg 1 rw) (.bool false) (.sl 0 0 p0 none p0 1) (.sl 1 0 p1 none p1 1) (.i b) (.i 0) (.sl 2 0 p2 none p2 1) (.i er) y11 y12 y13 y14 y16) [.arr 1 h0 true 0,.arr 1 h1 true 0,.arr 1 h2 true 0] :=
  RunsTo.hin 0 60 [⟨7,1,.bool false,[.arr 1 h0 true 0,.arr 1 h1 true 0,.arr 1 h2 true 0]⟩] fun kf hk=>⟨_,by kernel_rfl,(oB [.arr 1 h0 true 0,.arr 1 h1 true 0,.arr 1 h2 true 0] (congrArg not (decide_eq_true g0)) .nil)⟩
theorem sa_g_1 (l0 rw:List HV) (p0:Nat) (h0:List HV) (p1:Nat) (h1:List HV) (p2:Nat) (h2:List HV) (p3:Nat) (h3:List HV) (p4:Nat) (h4:List HV) (p5:Nat) (h5:List HV) (p6:Nat) (h6:List HV) (b er:Int)  {y11 y12 y13 y14 y16:HV}(g0:¬ (er=0)) (g1:er=6) (g2:(p1:Int) < b) (g3:∀ kf,callN Tp polL5 (kf+1) 16 [] [.arr 1 h0 true 0,.arr 1 h1 true 0,.arr 1 h2 true 0]=some (.bool true,[.arr 1 h0 true 0,.arr 1 h1 true 0,.arr 1 h2 true 0])):RT polL5 5 (sub [1,1,1,1,1,1,0] B5) (env5 (.imm .arg 1 l0) (.imm .arg 1 rw) (.bool false) (.sl 0 0 p0 none p0 1) (.sl 1 0 p1 none p1 1) (.i b) (.i 0) (.sl 2 0 p2 none p2 1) (.i er) y11 y12 y13 y14 y16) [.arr 1 h0 true 0,.arr 1 h1 true 0,.arr 1 h2 true 0] .ret (env5 (.imm .arg 1 l0) (.imm .arg 1 rw) (.bool true) (.sl 0 0 p0 none p0 1) (.sl 1 0 p1 none p1 1) (.i b) (.i 0) (.sl 2 0 p2 none p2 1) (.i er) y11 y12 y13 y14 y16) [.arr 1 h0 true 0,.arr 1 h1 true 0,.arr 1 h2 true 0] :=
  RunsTo.hin 0 60 [⟨7,1,.bool true,[.arr 1 h0 true 0,.arr 1 h1 true 0,.arr 1 h2 true 0]⟩,⟨8,1,.bool true,[.arr 1 h0 true 0,.arr 1 h1 true 0,.arr 1 h2 true 0]⟩,⟨8,6,.bool true,[.arr 1 h0 true 0,.arr 1 h1 true 0,.arr 1 h2 true 0]⟩,⟨8,9,.bool true,[.arr 1 h0 true 0,.arr 1 h1 true 0,.arr 1 h2 true 0]⟩] fun kf hk=>⟨_,by kernel_rfl,(oB [.arr 1 h0 true 0,.arr 1 h1 true 0,.arr 1 h2 true 0] (congrArg not (decide_eq_false g0)) (oB [.arr 1 h0 true 0,.arr 1 h1 true 0,.arr 1 h2 true 0] (decide_eq_true g1) (oB [.arr 1 h0 true 0,.arr 1 h1 true 0,.arr 1 h2 true 0] (decide_eq_true g2) (oC (g3 kf) .nil))))⟩
theorem sa_h_0 (l0 rw:List HV) (p0:Nat) (h0:List HV) (p1:Nat) (h1:List HV) (p2:Nat) (h2:List HV) (p3:Nat) (h3:List HV) (p4:Nat) (h4:List HV) (p5:Nat) (h5:List HV) (p6:Nat) (h6:List HV) (b er:Int)  {y11 y12 y13 y14 y16:HV}(g0:∀ kf,callN Tp polL5 (kf+1) 27 [.sl 0 0 p0 none p0 1,.sl 1 0 p1 none p1 1,.sl 2 0 p2 none p2 1] [.arr 1 h0 true 0,.arr 1 h1 true 0,.arr 1 h2 true 0]=some (.tuple [.sl 3 0 p3 none p3 1,.bool true],[.arr 1 h0 true 0,.arr 1 h1 true 0,.arr 1 h2 true 0,.arr 1 h3 true 0])):RT polL5 5 (sub [1,1,1,1,1,1,1,0] B5) (env5 (.imm .arg 1 l0) (.imm .arg 1 rw) (.bool false) (.sl 0 0 p0 none p0 1) (.sl 1 0 p1 none p1 1) (.i b) (.i 0) (.sl 2 0 p2 none p2 1) (.i 0) y11 y12 y13 y14 y16) [.arr 1 h0 true 0,.arr 1 h1 true 0,.arr 1 h2 true 0] .normal (env5 (.imm .arg 1 l0) (.imm .arg 1 rw) (.bool false) (.sl 0 0 p0 none p0 1) (.sl 1 0 p1 none p1 1) (.i b) (.i 0) (.sl 2 0 p2 none p2 1) (.i 0) (.sl 3 0 p3 none p3 1) (.bool true) y13 y14 y16) [.arr 1 h0 true 0,.arr 1 h1 true 0,.arr 1 h2 true 0,.arr 1 h3 true 0] :=
  RunsTo.hin 0 60 [⟨9,3,.tuple [.sl 3 0 p3 none p3 1,.bool true],[.arr 1 h0 true 0,.arr 1 h1 true 0,.arr 1 h2 true 0,.arr 1 h3 true 0]⟩] fun kf hk=>⟨_,by kernel_rfl,(oC (g0 kf) .nil)⟩
theorem sa_i_2 (l0 rw:List HV) (p0:Nat) (h0:List HV) (p1:Nat) (h1:List HV) (p2:Nat) (h2:List HV) (p3:Nat) (h3:List HV) (p4:Nat) (h4:List HV) (p5:Nat) (h5:List HV) (p6:Nat) (h6:List HV) (b er:Int)  {y13 y14 y16:HV}(g0:¬ ((p2:Int) < 1)) (g1:¬ (b < (p2:Int))) (g2:∀ kf,callN Tp polL5 (kf+1) 28 [.sl 0 0 p0 none p0 1] [.arr 1 h0 true 0,.arr 1 h1 true 0,.arr 1 h2 true 0,.arr 1 h3 true 0]=some (.sl 4 0 p4 none p4 1,[.arr 1 h0 true 0,.arr 1 h1 true 0,.arr 1 h2 true 0,.arr 1 h3 true 0,.arr 1 h4 true 0])) (g3:∀ kf,callN Tp polL5 (kf+1) 17 [.sl 3 0 p3 none p3 1,.sl 4 0 p4 none p4 1] [.arr 1 h0 true 0,.arr 1 h1 true 0,.arr 1 h2 true 0,.arr 1 h3 true 0,.arr 1 h4 true 0]=some (.bool true,[.arr 1 h0 true 0,.arr 1 h1 true 0,.arr 1 h2 true 0,.arr 1 h3 true 0,.arr 1 h4 true 0])):RT polL5 5 (sub [1,1,1,1,1,1,1,1,0] B5) (env5 (.imm .arg 1 l0) (.imm .arg 1 rw) (.bool false) (.sl 0 0 p0 none p0 1) (.sl 1 0 p1 none p1 1) (.i b) (.i 0) (.sl 2 0 p2 none p2 1) (.i 0) (.sl 3 0 p3 none p3 1) (.bool true) y13 y14 y16) [.arr 1 h0 true 0,.arr 1 h1 true 0,.arr 1 h2 true 0,.arr 1 h3 true 0] .normal (env5 (.imm .arg 1 l0) (.imm .arg 1 rw) (.bool false) (.sl 0 0 p0 none p0 1) (.sl 1 0 p1 none p1 1) (.i b) (.i 0) (.sl 2 0 p2 none p2 1) (.i 0) (.sl 3 0 p3 none p3 1) (.bool true) y13 y14 y16) [.arr 1 h0 true 0,.arr 1 h1 true 0,.arr 1 h2 true 0,.arr 1 h3 true 0,.arr 1 h4 true 0] :=
  RunsTo.hin 0 60 [⟨10,5,.bool false,[.arr 1 h0 true 0,.arr 1 h1 true 0,.arr 1 h2 true 0,.arr 1 h3 true 0]⟩,⟨10,11,.bool false,[.arr 1 h0 true 0,.arr 1 h1 true 0,.arr 1 h2 true 0,.arr 1 h3 true 0]⟩,⟨10,16,.sl 4 0 p4 none p4 1,[.arr 1 h0 true 0,.arr 1 h1 true 0,.arr 1 h2 true 0,.arr 1 h3 true 0,.arr 1 h4 true 0]⟩,⟨10,17,.bool true,[.arr 1 h0 true 0,.arr 1 h1 true 0,.arr 1 h2 true 0,.arr 1 h3 true 0,.arr 1 h4 true 0]⟩] fun kf hk=>⟨_,by kernel_rfl,(oB [.arr 1 h0 true 0,.arr 1 h1 true 0,.arr 1 h2 true 0,.arr 1 h3 true 0] (decide_eq_false g0) (oB [.arr 1 h0 true 0,.arr 1 h1 true 0,.arr 1 h2 true 0,.arr 1 h3 true 0] (decide_eq_false g1) (oC (g2 kf) (oC (g3 kf) .nil))))⟩
theorem sa_j_0 (l0 rw:List HV) (p0:Nat) (h0:List HV) (p1:Nat) (h1:List HV) (p2:Nat) (h2:List HV) (p3:Nat) (h3:List HV) (p4:Nat) (h4:List HV) (p5:Nat) (h5:List HV) (p6:Nat) (h6:List HV) (b er:Int)  {y13 y14 y16:HV}:RT polL5 5 (sub [1,1,1,1,1,1,1,1,1,0] B5) (env5 (.imm .arg 1 l0) (.imm .arg 1 rw) (.bool false) (.sl 0 0 p0 none p0 1) (.sl 1 0 p1 none p1 1) (.i b) (.i 0) (.sl 2 0 p2 none p2 1) (.i 0) (.sl 3 0 p3 none p3 1) (.bool true) y13 y14 y16) [.arr 1 h0 true 0,.arr 1 h1 true 0,.arr 1 h2 true 0,.arr 1 h3 true 0,.arr 1 h4 true 0] .normal (env5 (.imm .arg 1 l0) (.imm .arg 1 rw) (.bool false) (.sl 0 0 p0 none p0 1) (.sl 1 0 p1 none p1 1) (.i b) (.i 0) (.sl 2 0 p2 none p2 1) (.i 0) (.sl 3 0 p3 none p3 1) (.bool true) (.sl 5 0 0 none 0 1) y14 y16) [.arr 1 h0 true 0,.arr 1 h1 true 0,.arr 1 h2 true 0,.arr 1 h3 true 0,.arr 1 h4 true 0,.arr 1 [] true 0] :=
  RunsTo.hin 0 60 [] fun kf hk=>⟨_,by kernel_rfl,.nil⟩
theorem sa_k_0 (l0 rw:List HV) (p0:Nat) (h0:List HV) (p1:Nat) (h1:List HV) (p2:Nat) (h2:List HV) (p3:Nat) (h3:List HV) (p4:Nat) (h4:List HV) (p5:Nat) (h5:List HV) (p6:Nat) (h6:List HV) (b er:Int)  {y14 y16:HV}:RT polL5 5 (sub [1,1,1,1,1,1,1,1,1,1,0,0] B5) (env5 (.imm .arg 1 l0) (.imm .arg 1 rw) (.bool false) (.sl 0 0 p0 none p0 1) (.sl 1 0 p1 none p1 1) (.i b) (.i 0) (.sl 2 0 p2 none p2 1) (.i 0) (.sl 3 0 p3 none p3 1) (.bool true) (.sl 5 0 p5 none p5 1) y14 y16) [.arr 1 h0 true 0,.arr 1 h1 true 0,.arr 1 h2 true 0,.arr 1 h3 true 0,.arr 1 h4 true 0,.arr 1 h5 true 0] .normal (env5 (.imm .arg 1 l0) (.imm .arg 1 rw) (.bool false) (.sl 0 0 p0 none p0 1) (.sl 1 0 p1 none p1 1) (.i b) (.i 0) (.sl 2 0 p2 none p2 1) (.i 0) (.sl 3 0 p3 none p3 1) (.bool true) (.sl 5 0 p5 none p5 1) (.i 1) y16) [.arr 1 h0 true 0,.arr 1 h1 true 0,.arr 1 h2 true 0,.arr 1 h3 true 0,.arr 1 h4 true 0,.arr 1 h5 true 0] :=
  RunsTo.hin 0 60 [] fun kf hk=>⟨_,by kernel_rfl,.nil⟩
theorem sa_l_0 (l0 rw:List HV) (p0:Nat) (h0:List HV) (p1:Nat) (h1:List HV) (p2:Nat) (h2:List HV) (p3:Nat) (h3:List HV) (p4:Nat) (h4:List HV) (p5:Nat) (h5:List HV) (p6:Nat) (h6:List HV) (b er:Int) (i:Nat) {y7 y8 y10 y11 y12 y16:HV} {x0:Int} {l1:List HV} (g0:(i:Int) < (p2:Int)) (g1:idxV Tp 22 (.sl 2 0 p2 none p2 1) (.i (i:Int))=some (.ptr 2 i 0 p2)) (g2:loadV Tp [.arr 1 h0 true 0,.arr 1 h1 true 0,.arr 1 h2 true 0,.arr 1 h3 true 0,.arr 1 h4 true 0,.arr 1 h5 true 0] 3 (.ptr 2 i 0 p2)=some (.i x0)) (g3:idxV Tp 35 (.sl 1 0 p1 none p1 1) (.i x0)=some (.ptr 1 ((x0).toNat) 0 p1)) (g4:loadV Tp [.arr 1 h0 true 0,.arr 1 h1 true 0,.arr 1 h2 true 0,.arr 1 h3 true 0,.arr 1 h4 true 0,.arr 1 h5 true 0] 22 (.ptr 1 ((x0).toNat) 0 p1)=some (.imm .own 1 l1)) (g5:appV [.arr 1 h0 true 0,.arr 1 h1 true 0,.arr 1 h2 true 0,.arr 1 h3 true 0,.arr 1 h4 true 0,.arr 1 h5 true 0] 1 24 (.sl 5 0 p5 none p5 1) [.imm .own 1 l1]=some (.sl 5 0 (p5+1) none (p5+1) 1,[.arr 1 h0 true 0,.arr 1 h1 true 0,.arr 1 h2 true 0,.arr 1 h3 true 0,.arr 1 h4 true 0,.arr 1 (h5 ++ [.imm .own 1 l1]) true 0])):RT polL5 5 (sub [1,1,1,1,1,1,1,1,1,1,0,1,0,0] B5) (env5 (.imm .arg 1 l0) (.imm .arg 1 rw) (.bool false) (.sl 0 0 p0 none p0 1) (.sl 1 0 p1 none p1 1) y7 y8 (.sl 2 0 p2 none p2 1) y10 y11 y12 (.sl 5 0 p5 none p5 1) (.i (i:Int)) y16) [.arr 1 h0 true 0,.arr 1 h1 true 0,.arr 1 h2 true 0,.arr 1 h3 true 0,.arr 1 h4 true 0,.arr 1 h5 true 0] .normal (env5 (.imm .arg 1 l0) (.imm .arg 1 rw) (.bool false) (.sl 0 0 p0 none p0 1) (.sl 1 0 p1 none p1 1) y7 y8 (.sl 2 0 p2 none p2 1) y10 y11 y12 (.sl 5 0 (p5+1) none (p5+1) 1) (.i (IntKind.i64.wrap ((i:Int)+1))) y16) [.arr 1 h0 true 0,.arr 1 h1 true 0,.arr 1 h2 true 0,.arr 1 h3 true 0,.arr 1 h4 true 0,.arr 1 (h5 ++ [.imm .own 1 l1]) true 0] :=
  RunsTo.hin 0 60 [⟨14,3,.bool true,[.arr 1 h0 true 0,.arr 1 h1 true 0,.arr 1 h2 true 0,.arr 1 h3 true 0,.arr 1 h4 true 0,.arr 1 h5 true 0]⟩,⟨16,4,.ptr 2 i 0 p2,[.arr 1 h0 true 0,.arr 1 h1 true 0,.arr 1 h2 true 0,.arr 1 h3 true 0,.arr 1 h4 true 0,.arr 1 h5 true 0]⟩,⟨16,5,.i x0,[.arr 1 h0 true 0,.arr 1 h1 true 0,.arr 1 h2 true 0,.arr 1 h3 true 0,.arr 1 h4 true 0,.arr 1 h5 true 0]⟩,⟨16,6,.ptr 1 ((x0).toNat) 0 p1,[.arr 1 h0 true 0,.arr 1 h1 true 0,.arr 1 h2 true 0,.arr 1 h3 true 0,.arr 1 h4 true 0,.arr 1 h5 true 0]⟩,⟨16,7,.imm .own 1 l1,[.arr 1 h0 true 0,.arr 1 h1 true 0,.arr 1 h2 true 0,.arr 1 h3 true 0,.arr 1 h4 true 0,.arr 1 h5 true 0]⟩,⟨16,9,.sl 5 0 (p5+1) none (p5+1) 1,[.arr 1 h0 true 0,.arr 1 h1 true 0,.arr 1 h2 true 0,.arr 1 h3 true 0,.arr 1 h4 true 0,.arr 1 (h5 ++ [.imm .own 1 l1]) true 0]⟩] fun kf hk=>⟨_,by kernel_rfl,(oB [.arr 1 h0 true 0,.arr 1 h1 true 0,.arr 1 h2 true 0,.arr 1 h3 true 0,.arr 1 h4 true 0,.arr 1 h5 true 0] (decide_eq_true g0) (oP [.arr 1 h0 true 0,.arr 1 h1 true 0,.arr 1 h2 true 0,.arr 1 h3 true 0,.arr 1 h4 true 0,.arr 1 h5 true 0] g1 (oP [.arr 1 h0 true 0,.arr 1 h1 true 0,.arr 1 h2 true 0,.arr 1 h3 true 0,.arr 1 h4 true 0,.arr 1 h5 true 0] g2 (oP [.arr 1 h0 true 0,.arr 1 h1 true 0,.arr 1 h2 true 0,.arr 1 h3 true 0,.arr 1 h4 true 0,.arr 1 h5 true 0] g3 (oP [.arr 1 h0 true 0,.arr 1 h1 true 0,.arr 1 h2 true 0,.arr 1 h3 true 0,.arr 1 h4 true 0,.arr 1 h5 true 0] g4 (oC (g5) .nil))))))⟩
theorem sa_l_1 (l0 rw:List HV) (p0:Nat) (h0:List HV) (p1:Nat) (h1:List HV) (p2:Nat) (h2:List HV) (p3:Nat) (h3:List HV) (p4:Nat) (h4:List HV) (p5:Nat) (h5:List HV) (p6:Nat) (h6:List HV) (b er:Int) (i:Nat) {y7 y8 y10 y11 y12 y16:HV}(g0:¬ ((i:Int) < (p2:Int))):RT polL5 5 (sub [1,1,1,1,1,1,1,1,1,1,0,1,0,0] B5) (env5 (.imm .arg 1 l0) (.imm .arg 1 rw) (.bool false) (.sl 0 0 p0 none p0 1) (.sl 1 0 p1 none p1 1) y7 y8 (.sl 2 0 p2 none p2 1) y10 y11 y12 (.sl 5 0 p5 none p5 1) (.i (i:Int)) y16) [.arr 1 h0 true 0,.arr 1 h1 true 0,.arr 1 h2 true 0,.arr 1 h3 true 0,.arr 1 h4 true 0,.arr 1 h5 true 0] (.exit 0) (env5 (.imm .arg 1 l0) (.imm .arg 1 rw) (.bool false) (.sl 0 0 p0 none p0 1) (.sl 1 0 p1 none p1 1) y7 y8 (.sl 2 0 p2 none p2 1) y10 y11 y12 (.sl 5 0 p5 none p5 1) (.i (i:Int)) y16) [.arr 1 h0 true 0,.arr 1 h1 true 0,.arr 1 h2 true 0,.arr 1 h3 true 0,.arr 1 h4 true 0,.arr 1 h5 true 0] :=
  RunsTo.hin 0 60 [⟨14,3,.bool false,[.arr 1 h0 true 0,.arr 1 h1 true 0,.arr 1 h2 true 0,.arr 1 h3 true 0,.arr 1 h4 true 0,.arr 1 h5 true 0]⟩] fun kf hk=>⟨_,by kernel_rfl,(oB [.arr 1 h0 true 0,.arr 1 h1 true 0,.arr 1 h2 true 0,.arr 1 h3 true 0,.arr 1 h4 true 0,.arr 1 h5 true 0] (decide_eq_false g0) .nil)⟩
theorem sa_m_0 (l0 rw:List HV) (p0:Nat) (h0:List HV) (p1:Nat) (h1:List HV) (p2:Nat) (h2:List HV) (p3:Nat) (h3:List HV) (p4:Nat) (h4:List HV) (p5:Nat) (h5:List HV) (p6:Nat) (h6:List HV) (b er:Int)  {y7 y8 y10 y11 y12 y14 y16:HV}(g0:∀ kf,callN Tp polL5 (kf+1) 26 [.sl 0 0 p0 none p0 1,.sl 5 0 p5 none p5 1] [.arr 1 h0 true 0,.arr 1 h1 true 0,.arr 1 h2 true 0,.arr 1 h3 true 0,.arr 1 h4 true 0,.arr 1 h5 true 0]=some (.tuple [.sl 6 0 p6 none p6 1,.i 6],[.arr 1 h0 true 0,.arr 1 h1 true 0,.arr 1 h2 true 0,.arr 1 h3 true 0,.arr 1 h4 true 0,.arr 1 h5 true 0,.arr 1 h6 true 0])) (g1:∀ kf,callN Tp polL5 (kf+1) 16 [] [.arr 1 h0 true 0,.arr 1 h1 true 0,.arr 1 h2 true 0,.arr 1 h3 true 0,.arr 1 h4 true 0,.arr 1 h5 true 0,.arr 1 h6 true 0]=some (.bool true,[.arr 1 h0 true 0,.arr 1 h1 true 0,.arr 1 h2 true 0,.arr 1 h3 true 0,.arr 1 h4 true 0,.arr 1 h5 true 0,.arr 1 h6 true 0])):RT polL5 5 (sub [1,1,1,1,1,1,1,1,1,1,1] B5) (env5 (.imm .arg 1 l0) (.imm .arg 1 rw) (.bool false) (.sl 0 0 p0 none p0 1) (.sl 1 0 p1 none p1 1) y7 y8 (.sl 2 0 p2 none p2 1) y10 y11 y12 (.sl 5 0 p5 none p5 1) y14 y16) [.arr 1 h0 true 0,.arr 1 h1 true 0,.arr 1 h2 true 0,.arr 1 h3 true 0,.arr 1 h4 true 0,.arr 1 h5 true 0] .ret (env5 (.imm .arg 1 l0) (.imm .arg 1 rw) (.bool true) (.sl 0 0 p0 none p0 1) (.sl 1 0 p1 none p1 1) y7 y8 (.sl 2 0 p2 none p2 1) y10 y11 y12 (.sl 5 0 p5 none p5 1) y14 (.i 6)) [.arr 1 h0 true 0,.arr 1 h1 true 0,.arr 1 h2 true 0,.arr 1 h3 true 0,.arr 1 h4 true 0,.arr 1 h5 true 0,.arr 1 h6 true 0] :=
  RunsTo.hin 0 60 [⟨17,2,.tuple [.sl 6 0 p6 none p6 1,.i 6],[.arr 1 h0 true 0,.arr 1 h1 true 0,.arr 1 h2 true 0,.arr 1 h3 true 0,.arr 1 h4 true 0,.arr 1 h5 true 0,.arr 1 h6 true 0]⟩,⟨18,3,.bool true,[.arr 1 h0 true 0,.arr 1 h1 true 0,.arr 1 h2 true 0,.arr 1 h3 true 0,.arr 1 h4 true 0,.arr 1 h5 true 0,.arr 1 h6 true 0]⟩] fun kf hk=>⟨_,by kernel_rfl,(oC (g0 kf) (oC (g1 kf) .nil))⟩
end Go.Proofs.Ytaibmipamkaljaa
end
section
open Go Go.HL
namespace Go.Proofs.Ytaibmipamkaljaa
open Go.Proofs.Try renaming prog → Tp
open Go.HL.HV renaming undef → Ud
theorem el_of_row {gl r:List Int} (h:rowOk gl r):elB gl r=true:=by
  simp only [elB,Bool.and_eq_true,decide_eq_true_eq,List.all_eq_true,List.mem_range,cellB]
  exact ⟨h.1,fun j hj=>h.2 j hj⟩
theorem rowsE_el {gl:List Int} {g:Gr} {e:Int} (h:GrL gl g e) (R:List (List Int)) (c:Int):∀ x ∈ rowsE gl R c,elB gl x=true:=by
  intro x hx
  obtain ⟨y,_,rfl⟩:=List.mem_map.1 hx
  exact el_of_row (row_ok h y)
theorem rowsE_len (gl:List Int) (R:List (List Int)) (c:Int):(rowsE gl R c).length ≤ c.toNat:=by
  simp only [rowsE,List.length_map,List.length_take]; omega
theorem shT_inv {g:Gr} {l:List El} {t:El}:∀ (f j:Nat),(shT g l t f j=none∧∀ k:Nat,j ≤ k → k < j+f → ((k:Int),t) ∉ (rchT g l).headD []) ∨
    ∃ o,j ≤ o∧o < j+f∧((o:Int),t) ∈ (rchT g l).headD []∧(∀ k:Nat,j ≤ k → k < o → ((k:Int),t) ∉ (rchT g l).headD [])∧shT g l t f j=some (partI g l ((o:Int),t))
  | 0,j=>.inl ⟨rfl,fun k h1 h2=>by omega⟩
  | f+1,j=>by
    by_cases c:((j:Int),t) ∈ (rchT g l).headD []
    · exact .inr ⟨j,Nat.le_refl _,by omega,c,fun k h1 h2=>by omega,by rw [shT,if_pos c]⟩
    · rcases shT_inv (g:=g) (l:=l) (t:=t) f (j+1) with ⟨h1,h2⟩ | ⟨o,h1,h2,h3,h4,h5⟩
      · refine .inl ⟨by rw [shT,if_neg c]; exact h1,fun k a b=>?_⟩
        by_cases e:k=j
        · rw [e]; exact c
        · exact h2 k (by omega) (by omega)
      · refine .inr ⟨o,by omega,by omega,h3,fun k a b=>?_,by rw [shT,if_neg c]; exact h5⟩
        by_cases e:k=j
        · rw [e]; exact c
        · exact h4 k (by omega) b
theorem zero_cases {gl:List Int} (hg:(newGroupT gl).2=true) {R:List (List Int)} (hR:∀ x ∈ R,elB gl x=true) (hl:R.length ≤ 60) :
    (zeroT gl R=([],6)∧∀ s:List El,s.Sublist (els gl R) → s ≠ [] → sumG (grG gl) s ≠ (0,0)) ∨
    ∃ o:Nat,1 ≤ o∧o ≤ R.length∧((o:Int),(0,0)) ∈ (rchT (grG gl) (els gl R)).headD []∧(∀ s:List El,s.Sublist (els gl R) → s ≠ [] → sumG (grG gl) s=(0,0) → o ≤ s.length)∧zeroT gl R=(partI (grG gl) (els gl R) ((o:Int),(0,0)),0):=by
  have e:=elems_B hg (listB_iff.2 ⟨hR,hl⟩)
  have ez:zeroT gl R=shP (shT (grG gl) (els gl R) (0,0) R.length 1):=by
    unfold zeroT
    rw [if_pos hg]
    unfold grG at e ⊢
    rw [e]
    simp only [els,List.length_map]
  have sl:∀ s:List El,s.Sublist (els gl R) → s ≠ [] → 1 ≤ s.length∧s.length ≤ R.length:=fun s hs h0=>by
    have:=hs.length_le
    simp only [els,List.length_map] at this
    exact ⟨by rcases s with _ | _; exact absurd rfl h0; simp,this⟩
  rcases shT_inv (g:=grG gl) (l:=els gl R) (t:=(0,0)) R.length 1 with ⟨h1,h2⟩ | ⟨o,h1,h2,h3,h4,h5⟩
  · refine .inl ⟨by rw [ez,h1]; rfl,fun s hs h0 hz=>?_⟩
    have:=sl s hs h0
    exact h2 s.length (by omega) (by omega) ((rch_gen _ _ _).2 ⟨s,hs,rfl,hz.symm⟩)
  · refine .inr ⟨o,h1,by omega,h3,fun s hs h0 hz=>?_,by rw [ez,h5]; rfl⟩
    have:=sl s hs h0
    rcases Nat.lt_or_ge s.length o with c | c
    · exact absurd ((rch_gen _ _ _).2 ⟨s,hs,rfl,hz.symm⟩) (h4 s.length (by omega) c)
    · exact c
section
variable {gl:List Int} {g:Gr} {e:Int} (h:GrL gl g e)
include h
theorem grG_eq:grG gl=g∧(newGroupT gl).2=true:=by
  have:=h.new
  exact ⟨by rw [grG,this],by rw [this]⟩
theorem always_none {R:List (List Int)} (hz:∀ s:List El,s.Sublist (els gl R) → s ≠ [] → sumG (grG gl) s ≠ (0,0)):(R.length:Int) < g.1+g.2.1 - 1:=by
  obtain ⟨e1,_⟩:=grG_eq h
  refine Classical.byContradiction fun hn=>?_
  obtain ⟨s,a1,a2,a3⟩:=dav_gr h (l:=els gl R) (by simp only [els,List.length_map]; omega)
  exact hz s a1 a2 (by rw [e1]; exact a3)
theorem always_some {R:List (List Int)} (hR:∀ x ∈ R,elB gl x=true) {o:Nat} (h1:1 ≤ o) (hin:((o:Int),(0,0)) ∈ (rchT (grG gl) (els gl R)).headD [])
    (hmin:∀ s:List El,s.Sublist (els gl R) → s ≠ [] → sumG (grG gl) s=(0,0) → o ≤ s.length):(o:Int) ≤ g.1+g.2.1 - 1:=by
  obtain ⟨e1,hg⟩:=grG_eq h
  have hgo:=h.ok
  obtain ⟨⟨g1,g2⟩,g3,g4⟩:=hgo
  refine Classical.byContradiction fun hn=>?_
  obtain ⟨s,s1,s2,s3⟩:=(rch_gen _ _ _).1 hin
  obtain ⟨t,a1,a2,a3⟩:=dav_gr h (l:=s.take (g.1+g.2.1 - 1).toNat) (by rw [List.length_take]; omega)
  have tl:=a1.length_le
  rw [List.length_take] at tl
  have:=hmin t ((a1.trans (List.take_sublist _ _)).trans s1) a2 (by rw [e1]; exact a3)
  omega
theorem always_rest {R:List (List Int)} (hR:∀ x ∈ R,elB gl x=true) (hl:R.length ≤ 60) {o:Nat} (h1:1 ≤ o) (hin:((o:Int),(0,0)) ∈ (rchT (grG gl) (els gl R)).headD [])
    (hmin:∀ s:List El,s.Sublist (els gl R) → s ≠ [] → sumG (grG gl) s=(0,0) → o ≤ s.length) :
    zeroT gl (((partI (grG gl) (els gl R) ((o:Int),(0,0))).drop 1).map fun q=>R.getD q.toNat [])=([],6):=by
  obtain ⟨e1,hg⟩:=grG_eq h
  have hall:∀ y ∈ els gl R,elOk (grG gl) y:=fun y hy=>by
    obtain ⟨z,hz,rfl⟩:=List.mem_map.1 hy
    exact eE_ok hg (hR z hz)
  obtain ⟨p1,p2,p3,p4⟩:=part_gen (grG_ok hg) (els gl R) 0 ((o:Int),(0,0)) hall hin
  have pl:=partT_len (grG_ok hg) (els gl R) 0 ((o:Int),(0,0)) hall hin
  simp only at pl
  generalize hP:partT (grG gl) (els gl R) 0 ((o:Int),(0,0))=P at *
  have hL:(els gl R).length=R.length:=List.length_map ..
  have er:((partI (grG gl) (els gl R) ((o:Int),(0,0))).drop 1).map (fun q=>R.getD q.toNat [])=(P.drop 1).map fun q=>R.getD q []:=by
    rw [partI,hP,← List.map_drop,List.map_map]; rfl
  rw [er]
  have hR2:∀ x ∈ (P.drop 1).map (fun q=>R.getD q []),elB gl x=true:=fun x hx=>by
    obtain ⟨q,hq,rfl⟩:=List.mem_map.1 hx
    have:=p1 q (List.mem_of_mem_drop hq)
    rw [hL] at this
    exact hR _ (by rw [List.getD,List.getElem?_eq_getElem (show q < R.length by omega)]; exact List.getElem_mem _)
  have ol:P.length ≤ R.length:=by
    have:=p3.length_le
    rw [List.length_map,hL] at this; exact this
  have ee:els gl ((P.drop 1).map fun q=>R.getD q [])=(P.map fun q=>(els gl R).getD (q - 0) (0,0)).drop 1:=by
    rw [← List.map_drop]
    simp only [els,List.map_map]
    refine List.map_congr_left fun q hq=>?_
    have:=p1 q (List.mem_of_mem_drop hq)
    rw [hL] at this
    simp [List.getD,List.getElem?_map,List.getElem?_eq_getElem (show q < R.length by omega)]
  rcases zero_cases hg hR2 (by rw [List.length_map,List.length_drop]; omega) with ⟨h2,_⟩ | ⟨o',k1,k2,k3,_,_⟩
  · exact h2
  · exfalso
    obtain ⟨s,s1,s2,s3⟩:=(rch_gen _ _ _).1 k3
    rw [ee] at s1
    have:=hmin s ((s1.trans (List.drop_sublist _ _)).trans p3) (fun e=>by rw [e] at s2; simp at s2; omega) s3.symm
    have sl:=s1.length_le
    rw [List.length_drop,List.length_map] at sl
    omega
end
theorem bound_at {pol':Pol} (hp:pol'.prim 25=some bound25) {l:List Int} {v:HV} {H:Heap} (h1:argI H v l) :
    ∀ k,callN Tp pol' (k+1) 25 [v] H=some (if (newGroupT l).2=true then .tuple [.int .i64 ((newGroupT l).1.1+(newGroupT l).1.2.1 - 1),.int .i64 0] else .tuple [.int .i64 0,.int .i64 2],H):=fun k=>by
  have hd:mapO decI (l.map encI)=some l:=mapO_map decI_enc l
  unfold argI at h1
  rw [prim_call (pol:=pol') (g:=25) (F:=bound25) hp (rs:=[.imm .arg 1 (l.map encI)]) (by simp only [mapO,h1]) (res:=if (newGroupT l).2=true then .tuple [.int .i64 ((newGroupT l).1.1+(newGroupT l).1.2.1 - 1),.int .i64 0] else .tuple [.int .i64 0,.int .i64 2]) (by simp only [bound25,liF,hd])]
  split <;> rfl
theorem total_at {pol':Pol} (hp:pol'.prim 27=some total27) {gl p:List Int} {R:List (List Int)} {v1 v2 v3:HV} {H:Heap} (h1:argI H v1 gl) (h2:argR H v2 R) (h3:argI H v3 p) (hg:(newGroupT gl).2=true) (hR:∀ x ∈ R,elB gl x=true) (hl:p.length ≤ 1000) (hok:okP R.length p=true) {x:List Int} (hx:totF gl R (List.replicate gl.length 0) p=x) :
    ∀ k,callN Tp pol' (k+1) 27 [v1,v2,v3] H=some (.tuple [.sl H.length 0 x.length none x.length 1,.bool true],H ++ [bI x]):=fun k=>by
  have hd:mapO decI (gl.map encI)=some gl:=mapO_map decI_enc gl
  have hd2:mapO decR (R.map encR)=some R:=mapO_map decR_enc R
  have hd3:mapO decI (p.map encI)=some p:=mapO_map decI_enc p
  unfold argI at h1 h3
  unfold argR at h2
  have hk:((newGroupT gl).2 && R.all (elB gl) && decide (p.length ≤ 1000) && okP R.length p)=true:=by rw [hg,List.all_eq_true.2 hR,decide_eq_true hl,hok]; rfl
  rw [prim_call (pol:=pol') (g:=27) (F:=total27) hp (rs:=[.imm .arg 1 (gl.map encI),.imm .arg 1 (R.map encR),.imm .arg 1 (p.map encI)]) (by simp only [mapO,h1,h2,h3]) (res:=.tuple [.own 1 (x.map encI),.bool true]) (by simp only [total27,hd,hd2,hd3]; rw [if_pos hk,hx]),recv_lb]
end Go.Proofs.Ytaibmipamkaljaa
end
section
open Go Go.HL
namespace Go.Proofs.Ytaibmipamkaljaa
open Go.Proofs.Try renaming prog → Tp
open Go.HL.HV renaming undef → Ud
theorem res5:Try.f5.results.toList=[.tmp 4]:=by kernel_rfl
abbrev saE (l0:List Int) (R1:List (List Int)) (n0 n1 n2 n5:Nat) (v7 v8 v10 v11 v12 v14:HV):Env:=(env5 (.imm .arg 1 (l0.map encI)) (.imm .arg 1 (R1.map encR)) (.bool false) (.sl 0 0 n0 none n0 1) (.sl 1 0 n1 none n1 1) v7 v8 (.sl 2 0 n2 none n2 1) v10 v11 v12 (.sl 5 0 n5 none n5 1) v14 Ud)
abbrev saH (G:List Int) (O:List (List Int)) (Z S Q:List Int) (T:List (List Int)):Heap:=[bI G,bR O,bI Z,bI S,bI Q,bR T]
theorem ldR {H:Heap} {b n:Nat} {R:List (List Int)} (hb:H[b]?=some (bR R)) (hn:R.length=n) {i:Nat} (hi:i < n):loadV Tp H 22 (.ptr b i 0 n)=some (.imm .own 1 ((R.getD i []).map encI)) :=
  load_elem (b:=b) hb (by simp [hn]) (by rw [List.getElem?_map,List.getElem?_eq_getElem (by omega)]; simp [List.getD,List.getElem?_eq_getElem (show i < R.length by omega),encO]) rfl a22 i22
theorem ldI {H:Heap} {b n:Nat} {o:List Int} (hb:H[b]?=some (bI o)) (hn:o.length=n) {i:Nat} (hi:i < n):loadV Tp H 3 (.ptr b i 0 n)=some (.int .i64 (o.getD i 0)):=by
  subst hn; exact load_out hb hi
theorem ixq {t e b m i:Nat} (ht:Tp.underlying t=some (.slice e)) (hs:tySize Tp e=some 1) (h:i < m):idxV Tp t (.sl b 0 m none m 1) (.int .i64 (i:Int))=some (.ptr b i 0 m):=by
  have:=idx_sl (P:=Tp) (t:=t) (b:=b) (len:=m) (tot:=m) (cap:=none) (ik:=.i64) (n:=(i:Int)) ht hs (by omega) (by omega)
  rwa [Int.toNat_natCast] at this
theorem sa_loop {l0:List Int} {R1:List (List Int)} {G Z S Q:List Int} {O:List (List Int)} (hZ:∀ q ∈ Z,0 ≤ q∧q < (O.length:Int)) (hZl:Z.length ≤ 100):∀ k i (T:List (List Int)),i+k=Z.length → T.length ≤ i →
    ∃ y14,RT polL5 5 (sub [1,1,1,1,1,1,1,1,1,1,0,1,0] B5) (saE l0 R1 G.length O.length Z.length T.length Ud Ud Ud Ud Ud (.int .i64 (i:Int))) (saH G O Z S Q T) (.exit 0)
      (saE l0 R1 G.length O.length Z.length (T ++ (Z.drop i).map fun q=>O.getD q.toNat []).length Ud Ud Ud Ud Ud y14) (saH G O Z S Q (T ++ (Z.drop i).map fun q=>O.getD q.toNat [])):=by
  intro k
  induction k with
  | zero =>
    intro i T hi hT
    have s:=sa_l_1 (l0.map encI) (R1.map encR) G.length (G.map encI) O.length (O.map encO) Z.length (Z.map encI) 0 (S.map encI) 0 (Q.map encI) T.length (T.map encO) 0 [] 0 0 i (y7:=Ud) (y8:=Ud) (y10:=Ud) (y11:=Ud) (y12:=Ud) (y16:=Ud) (by omega)
    rw [List.drop_of_length_le (by omega),List.map_nil,List.append_nil]
    exact ⟨_,lpo (s)⟩
  | succ k ih =>
    intro i T hi hT
    have hlt:i < Z.length:=by omega
    have hcons:=drop_cons (0:Int) hlt
    have hq:=hZ (Z.getD i 0) (by rw [List.getD,List.getElem?_eq_getElem hlt]; exact List.getElem_mem hlt)
    have hix:idxV Tp 35 (.sl 1 0 O.length none O.length 1) (.int .i64 (Z.getD i 0))=some (.ptr 1 ((Z.getD i 0).toNat) 0 O.length):=by
      have:=ixq (t:=35) (e:=22) (b:=1) (m:=O.length) (i:=(Z.getD i 0).toNat) u35 z22 (by omega)
      rwa [Int.toNat_of_nonneg hq.1] at this
    have ap:=app_O (H:=saH G O Z S Q T) (b:=5) (R:=T) rfl (by omega) (O.getD (Z.getD i 0).toNat [])
    have s:=sa_l_0 (l0.map encI) (R1.map encR) G.length (G.map encI) O.length (O.map encO) Z.length (Z.map encI) 0 (S.map encI) 0 (Q.map encI) T.length (T.map encO) 0 [] 0 0 i (y7:=Ud) (y8:=Ud) (y10:=Ud) (y11:=Ud) (y12:=Ud) (y16:=Ud) (by omega) (ixq u22 z3 hlt) (ldI (H:=saH G O Z S Q T) rfl rfl hlt) hix (ldR (H:=saH G O Z S Q T) rfl rfl (by omega)) (ap.trans (by simp only [List.map_append]; rfl))
    rw [wrap_succ (by omega)] at s
    obtain ⟨y14,r⟩:=ih (i+1) (T ++ [O.getD (Z.getD i 0).toNat []]) (by omega) (by simp; omega)
    have e1:T ++ (Z.drop i).map (fun q=>O.getD q.toNat [])=T ++ [O.getD (Z.getD i 0).toNat []] ++ (Z.drop (i+1)).map fun q=>O.getD q.toNat []:=by rw [hcons,List.map_cons,List.append_assoc]; rfl
    rw [e1]
    have e2:saH G O Z S Q (T ++ [O.getD (Z.getD i 0).toNat []])=[.arr 1 (G.map encI) true 0,.arr 1 (O.map encO) true 0,.arr 1 (Z.map encI) true 0,.arr 1 (S.map encI) true 0,.arr 1 (Q.map encI) true 0,.arr 1 (T.map encO ++ [.imm .own 1 ((O.getD (Z.getD i 0).toNat []).map encI)]) true 0]:=by
      simp only [saH,bR,bI,List.map_append]; rfl
    rw [← e2] at s
    rw [List.length_append,List.length_singleton] at r
    exact ⟨y14,lop (s) (gc_eq _ rfl) (r)⟩
theorem sumsAlways_law (l0:List Int) (R1:List (List Int)):∃ E H,RT polL5 5 B5 (args0 [.imm .arg 1 (l0.map encI),.imm .arg 1 (R1.map encR)]) [] .ret E H∧E.get 4=.bool true:=by
  obtain ⟨g,e,hG⟩:=grp_L l0
  have hpos:=hG.pos
  obtain ⟨ge,hg⟩:=grG_eq hG
  have a:=sa_a_0 (l0.map encI) (R1.map encR) 0 [] 0 [] 0 [] 0 [] 0 [] 0 [] 0 [] 0 0
  have c23:=group_at (pol':=polL5) (by kernel_rfl) l0 []
  have c24:=elements24_at (pol':=polL5) (by kernel_rfl) (gl:=grpT l0) (R:=R1) (v1:=.sl 0 0 (grpT l0).length none (grpT l0).length 1) (v2:=.imm .arg 1 (R1.map encR)) (c:=60) (H:=[bI (grpT l0)]) (argI_sl rfl rfl) (argR_imm _ _) ⟨hpos.1,by omega,by rw [List.length_take]; omega,by omega⟩
  have hR:=rowsE_el hG R1 60
  have hl:=rowsE_len (grpT l0) R1 60
  generalize grpT l0=G at *
  generalize rowsE G R1 60=O at *
  have hl':O.length ≤ 60:=hl
  have c25:=bound_at (pol':=polL5) (by kernel_rfl) (l:=G) (v:=.sl 0 0 G.length none G.length 1) (H:=[bI G,bR O]) (argI_sl rfl rfl)
  rw [if_pos hg] at c25
  have egG:(newGroupT G).1=g:=ge
  rw [egG] at c25
  have c26:=zero_at (pol':=polL5) (by kernel_rfl) (H:=[bI G,bR O]) (v1:=.sl 0 0 G.length none G.length 1) (v2:=.sl 1 0 O.length none O.length 1) (argI_sl rfl rfl) (argR_sl rfl rfl) (by omega)
  have b:=sa_b_0 (l0.map encI) (R1.map encR) G.length (G.map encI) 0 [] 0 [] 0 [] 0 [] 0 [] 0 [] 0 0 (y5:=Ud) (y6:=Ud) (y7:=Ud) (y8:=Ud) (y9:=Ud) (y10:=Ud) (y11:=Ud) (y12:=Ud) (y13:=Ud) (y14:=Ud) (y16:=Ud) c23
  have c:=sa_c_0 (l0.map encI) (R1.map encR) G.length (G.map encI) O.length (O.map encO) 0 [] 0 [] 0 [] 0 [] 0 [] 0 0 (y6:=Ud) (y7:=Ud) (y8:=Ud) (y9:=Ud) (y10:=Ud) (y11:=Ud) (y12:=Ud) (y13:=Ud) (y14:=Ud) (y16:=Ud) c24
  have d:=sa_d_0 (l0.map encI) (R1.map encR) G.length (G.map encI) O.length (O.map encO) 0 [] 0 [] 0 [] 0 [] 0 [] (g.1+g.2.1 - 1) 0 (y7:=Ud) (y8:=Ud) (y9:=Ud) (y10:=Ud) (y11:=Ud) (y12:=Ud) (y13:=Ud) (y14:=Ud) (y16:=Ud) c25
  rcases zero_cases hg hR hl' with ⟨h1,h2⟩ | ⟨o,k1,k2,k3,k4,k5⟩
  · rw [h1] at c26
    have hlt:=always_none hG h2
    have ee:=sa_e_0 (l0.map encI) (R1.map encR) G.length (G.map encI) O.length (O.map encO) 0 [] 0 [] 0 [] 0 [] 0 [] (g.1+g.2.1 - 1) 6 (y9:=Ud) (y10:=Ud) (y11:=Ud) (y12:=Ud) (y13:=Ud) (y14:=Ud) (y16:=Ud) c26
    have f:=sa_f_0 (l0.map encI) (R1.map encR) G.length (G.map encI) O.length (O.map encO) 0 [] 0 [] 0 [] 0 [] 0 [] (g.1+g.2.1 - 1) 6 (y11:=Ud) (y12:=Ud) (y13:=Ud) (y14:=Ud) (y16:=Ud)
    have gg:=sa_g_1 (l0.map encI) (R1.map encR) G.length (G.map encI) O.length (O.map encO) 0 [] 0 [] 0 [] 0 [] 0 [] (g.1+g.2.1 - 1) 6 (y11:=Ud) (y12:=Ud) (y13:=Ud) (y14:=Ud) (y16:=Ud) (by omega) rfl hlt (awake_at (pol':=polL5) (by kernel_rfl) _)
    have u:=sq (a) (sq (b) (sq (c) (sq (d) (sq (ee) (sq (f) (sqo (gg) (c:=sub [1,1,1,1,1,1] B5) (b:=sub [1,1,1,1,1,1,1] B5)) (c:=sub [1,1,1,1,1] B5)) (c:=sub [1,1,1,1] B5)) (c:=sub [1,1,1] B5)) (c:=sub [1,1] B5)) (c:=sub [1] B5)) (c:=B5)
    exact ⟨_,_,u,rfl⟩
  · have htp:=tot_part hg hR (k:=(o:Int)) (zero_el hg).1 (by rw [(zero_el hg).2]; exact k3)
    rw [(zero_el hg).2] at htp
    have hle:=always_some hG hR k1 k3 k4
    have hrest:=always_rest hG hR hl' k1 k3 k4
    have hall:∀ y ∈ els G O,elOk (grG G) y:=fun y hy=>by
      obtain ⟨z,hz,rfl⟩:=List.mem_map.1 hy
      exact eE_ok hg (hR z hz)
    have pl:=partT_len (grG_ok hg) (els G O) 0 ((o:Int),(0,0)) hall k3
    have hZl:(partI (grG G) (els G O) ((o:Int),(0,0))).length=o:=by rw [partI,List.length_map]; simp only at pl; omega
    have hzm:=okP_mem htp.1
    rw [k5] at c26
    generalize partI (grG G) (els G O) ((o:Int),(0,0))=Z at *
    have ee:=sa_e_0 (l0.map encI) (R1.map encR) G.length (G.map encI) O.length (O.map encO) Z.length (Z.map encI) 0 [] 0 [] 0 [] 0 [] (g.1+g.2.1 - 1) 0 (y9:=Ud) (y10:=Ud) (y11:=Ud) (y12:=Ud) (y13:=Ud) (y14:=Ud) (y16:=Ud) c26
    have f:=sa_f_0 (l0.map encI) (R1.map encR) G.length (G.map encI) O.length (O.map encO) Z.length (Z.map encI) 0 [] 0 [] 0 [] 0 [] (g.1+g.2.1 - 1) 0 (y11:=Ud) (y12:=Ud) (y13:=Ud) (y14:=Ud) (y16:=Ud)
    have gg:=sa_g_0 (l0.map encI) (R1.map encR) G.length (G.map encI) O.length (O.map encO) Z.length (Z.map encI) 0 [] 0 [] 0 [] 0 [] (g.1+g.2.1 - 1) 0 (y11:=Ud) (y12:=Ud) (y13:=Ud) (y14:=Ud) (y16:=Ud) rfl
    have hzl:=List.length_replicate (n:=G.length) (a:=(0:Int))
    have c27:=total_at (pol':=polL5) (by kernel_rfl) (gl:=G) (R:=O) (p:=Z) (v1:=.sl 0 0 G.length none G.length 1) (v2:=.sl 1 0 O.length none O.length 1) (v3:=.sl 2 0 Z.length none Z.length 1) (H:=[bI G,bR O,bI Z]) (argI_sl rfl rfl) (argR_sl rfl rfl) (argI_sl rfl rfl) hg hR (by omega) htp.1 htp.2
    have hh:=sa_h_0 (l0.map encI) (R1.map encR) G.length (G.map encI) O.length (O.map encO) Z.length (Z.map encI) (List.replicate G.length (0:Int)).length ((List.replicate G.length 0).map encI) 0 [] 0 [] 0 [] (g.1+g.2.1 - 1) 0 (y11:=Ud) (y12:=Ud) (y13:=Ud) (y14:=Ud) (y16:=Ud) c27
    have c28:=zero28_at (pol':=polL5) (by kernel_rfl) (l:=G) (v:=.sl 0 0 G.length none G.length 1) (H:=[bI G,bR O,bI Z,bI (List.replicate G.length 0)]) (argI_sl rfl rfl) (by omega)
    have c17:=ints_at (pol':=polL5) (by kernel_rfl) (a:=List.replicate G.length 0) (b:=List.replicate G.length 0) (v1:=.sl 3 0 (List.replicate G.length (0:Int)).length none (List.replicate G.length (0:Int)).length 1) (v2:=.sl 4 0 G.length none G.length 1) (H:=[bI G,bR O,bI Z,bI (List.replicate G.length 0),bI (List.replicate G.length 0)]) (argI_sl rfl rfl) (argI_sl hzl rfl) (by omega)
    rw [decide_eq_true rfl] at c17
    have ii:=sa_i_2 (l0.map encI) (R1.map encR) G.length (G.map encI) O.length (O.map encO) Z.length (Z.map encI) (List.replicate G.length (0:Int)).length ((List.replicate G.length 0).map encI) G.length ((List.replicate G.length 0).map encI) 0 [] 0 [] (g.1+g.2.1 - 1) 0 (y13:=Ud) (y14:=Ud) (y16:=Ud) (by omega) (by omega) c28 c17
    have jj:=sa_j_0 (l0.map encI) (R1.map encR) G.length (G.map encI) O.length (O.map encO) Z.length (Z.map encI) (List.replicate G.length (0:Int)).length ((List.replicate G.length 0).map encI) G.length ((List.replicate G.length 0).map encI) 0 [] 0 [] (g.1+g.2.1 - 1) 0 (y13:=Ud) (y14:=Ud) (y16:=Ud)
    have kk:=sa_k_0 (l0.map encI) (R1.map encR) G.length (G.map encI) O.length (O.map encO) Z.length (Z.map encI) (List.replicate G.length (0:Int)).length ((List.replicate G.length 0).map encI) G.length ((List.replicate G.length 0).map encI) 0 [] 0 [] (g.1+g.2.1 - 1) 0 (y14:=Ud) (y16:=Ud)
    obtain ⟨y14,lp⟩:=sa_loop (l0:=l0) (R1:=R1) (G:=G) (Z:=Z) (S:=List.replicate G.length 0) (Q:=List.replicate G.length 0) (O:=O) hzm (by omega) (Z.length - 1) 1 [] (by omega) (by simp)
    rw [List.nil_append] at lp
    have hRl:((Z.drop 1).map fun q=>O.getD q.toNat []).length ≤ 60:=by rw [List.length_map,List.length_drop]; omega
    generalize (Z.drop 1).map (fun q=>O.getD q.toNat [])=T at *
    have d26:=zero_at (pol':=polL5) (by kernel_rfl) (H:=saH G O Z (List.replicate G.length 0) (List.replicate G.length 0) T) (l:=G) (R:=T) (v1:=.sl 0 0 G.length none G.length 1) (v2:=.sl 5 0 T.length none T.length 1) (argI_sl rfl rfl) (argR_sl rfl rfl) (by omega)
    rw [hrest] at d26
    have mm:=sa_m_0 (l0.map encI) (R1.map encR) G.length (G.map encI) O.length (O.map encO) Z.length (Z.map encI) 0 ((List.replicate G.length 0).map encI) 0 ((List.replicate G.length 0).map encI) T.length (T.map encO) 0 [] 0 0 (y14:=y14) (y7:=Ud) (y8:=Ud) (y10:=Ud) (y11:=Ud) (y12:=Ud) (y16:=Ud) d26 (awake_at (pol':=polL5) (by kernel_rfl) _)
    have u:=sq (a) (sq (b) (sq (c) (sq (d) (sq (ee) (sq (f) (sq (gg) (sq (hh) (sq (ii) (sq (jj) (sq (sq (kk) (bke (c:=sub [1,1,1,1,1,1,1,1,1,1,0,1] B5) (lpi (e0:=(env5 (.imm .arg 1 (l0.map encI)) (.imm .arg 1 (R1.map encR)) (.bool false) (.sl 0 0 G.length none G.length 1) (.sl 1 0 O.length none O.length 1) (.int .i64 (g.1+g.2.1 - 1)) (.int .i64 0) (.sl 2 0 Z.length none Z.length 1) (.int .i64 0) (.sl 3 0 (List.replicate G.length (0:Int)).length none (List.replicate G.length (0:Int)).length 1) (.bool true) (.sl 5 0 0 none 0 1) (.int .i64 ((1:Nat):Int)) Ud)) lp (b:=sub [1,1,1,1,1,1,1,1,1,1,0,1,0,0] B5))) (c:=sub [1,1,1,1,1,1,1,1,1,1,0] B5)) (mm) (c:=sub [1,1,1,1,1,1,1,1,1,1] B5)) (c:=sub [1,1,1,1,1,1,1,1,1] B5)) (c:=sub [1,1,1,1,1,1,1,1] B5)) (c:=sub [1,1,1,1,1,1,1] B5)) (c:=sub [1,1,1,1,1,1] B5)) (c:=sub [1,1,1,1,1] B5)) (c:=sub [1,1,1,1] B5)) (c:=sub [1,1,1] B5)) (c:=sub [1,1] B5)) (c:=sub [1] B5)) (c:=B5)
    exact ⟨_,_,u,rfl⟩
end Go.Proofs.Ytaibmipamkaljaa
end
section
namespace Go.HL
open Go.ChangeShapes Go.WideShapes Go.ChangeAt Go.RowKit Go.Deep
theorem okNil (w:World) (r:Nat):okOf Ctx.nil w.heap.size false r:=by
  refine ⟨fun hM=>?_,by simp⟩
  obtain ⟨b,y,h1,_,_⟩:=M_iff.1 hM
  simp [Ctx.nil] at h1
theorem cell_lt {w:World} {a:Addr} {v:Value} (h:w.cell? a=some v):a.block < w.heap.size:=by
  rcases Nat.lt_or_ge a.block w.heap.size with hl | hl
  · exact hl
  · have:w.heap[a.block]?=none:=by simp [hl]
    simp [World.cell?,this] at h
end Go.HL
end
section
namespace Go.HL
open Go.ChangeShapes Go.WideShapes Go.ChangeAt Go.RowKit Go.Deep
theorem arg_ints_ok {H:Type} {enc:TypeId × Value → H} {P:Program} {W:World} {base:Nat} {t q:TypeId} {v:Value} {d:DataW H} {ps:List MemPlace} (ht:P.underlying t=some (.slice q)) (hq:P.underlying q=some (.int .i64)) (cq:P.cellsOf q=1)
    (hval:Value.okWide P W .any base t v) (hd:DataW.Trod enc P W 0 (fun _=>true) true t v d ps):∃ l:List Int,V W (okOf Ctx.nil W.heap.size) Ctx.nil (.imm .arg 1 (l.map encI)) v:=by
  obtain ⟨a,len,cap,rfl⟩:=okWide_slice ht hval
  obtain ⟨fuel,hf⟩:=hd
  rcases open_slice ht hf with ⟨h0,_⟩ | ⟨a',len',cap',m,n,D,Pl,h0,hb,hl,hm,hmm,hx,hel⟩
  · simp [Value.cells] at h0
    obtain ⟨rfl,rfl,rfl⟩:=h0
    exact ⟨[],.imm .arg 1 [] none 0 (fun _=>.bool false) (by simp) (by simp) (by simp) (by simp) (by simp) (by simp)⟩
  · simp [Value.cells] at h0
    obtain ⟨rfl,rfl,rfl⟩:=h0
    have hlm:len ≤ m:=by rw [hmm]; split <;> omega
    have each:∀ i,i < len → ∃ z:Int,W.cell? (a'.add i)=some (.int .i64 z):=by
      intro i hi
      obtain ⟨cs',h1,h2⟩:=hel i (by omega)
      rw [cq] at h1
      obtain ⟨_,hlen,hcell⟩:=World.cells?_some h1
      match cs',hlen with
      | [v0],_ =>
        obtain ⟨z0,e0,_,_⟩:=DataW.trod_int hq h2
        simp at e0
        subst e0
        have c0:=hcell 0 (by omega)
        rw [add_add] at c0
        exact ⟨z0,by simpa using c0⟩
    obtain ⟨f,hf⟩:=choose_lt each
    refine ⟨(List.range len).map f,?_⟩
    have hlen:(((List.range len).map f).map encI).length=len:=by simp
    have key:=V.imm (w:=W) (ok:=okOf Ctx.nil W.heap.size) (c:=Ctx.nil) .arg 1 (((List.range len).map f).map encI) (some a') cap (fun j=>.int .i64 (f j))
      (by rw [hlen]; exact hl) (by simp) ?_ ?_ ?_ ?_
    · rw [hlen] at key; exact key
    · intro hne
      have h0:0 < len:=by
        rcases Nat.eq_zero_or_pos len with h | h
        · subst h; simp at hne
        · exact h
      obtain ⟨b,off,spot⟩:=a'
      have hspot:spot=none:=by simpa [Addr.add] using World.cell?_spot (hf 0 h0)
      subst hspot
      refine ⟨b,off,rfl,by simpa [Addr.add] using cell_lt (hf 0 h0),okNil W b,fun j hj=>?_⟩
      rw [hlen] at hj
      have c0:=hf j (by omega)
      rw [add_plain] at c0
      exact c0
    · intro v hv
      obtain ⟨p,_,rfl⟩:=List.mem_map.1 hv
      rfl
    · intro v hv
      obtain ⟨p,_,rfl⟩:=List.mem_map.1 hv
      rfl
    · intro i v j x hi hj
      have hil:i < len:=by have:=lt_of_get hi; rw [hlen] at this; exact this
      have:v=encI (f i):=by
        rw [List.getElem?_map,List.getElem?_map,List.getElem?_range hil] at hi
        simpa using hi.symm
      subst this
      have hjx:j < 1:=lt_of_get hj
      match j,hjx,hj with
      | 0,_,hj =>
        simp [encI,cellsOf] at hj
        subst hj
        have e1:i * 1+0=i:=by omega
        rw [e1]
        exact V.int _ _
end Go.HL
end
section
namespace Go.HL
open Go.ChangeShapes Go.WideShapes Go.ChangeAt Go.RowKit Go.Deep
theorem ints_cells {H:Type} {enc:TypeId × Value → H} {P:Program} {W:World} {base fuel:Nat} {sp:Nat → Bool} {held:Bool} {t q:TypeId} {cs:List Value} {x:DataW H × List MemPlace} (ht:P.underlying t=some (.slice q)) (hq:P.underlying q=some (.int .i64)) (cq:P.cellsOf q=1)
    (hf:DataW.trod enc P W base sp held fuel t cs=some x):∃ (l:List Int) (v:Value),cs=[v]∧V W (okOf Ctx.nil W.heap.size) Ctx.nil (.imm .arg 1 (l.map encI)) v:=by
  rcases open_slice ht hf with ⟨h0,_⟩ | ⟨a',len,cap,m,n,D,Pl,h0,hb,hl,hm,hmm,hx,hel⟩
  · exact ⟨[],_,h0,.imm .arg 1 [] none 0 (fun _=>.bool false) (by simp) (by simp) (by simp) (by simp) (by simp) (by simp)⟩
  · subst h0
    have hlm:len ≤ m:=by rw [hmm]; split <;> omega
    have each:∀ i,i < len → ∃ z:Int,W.cell? (a'.add i)=some (.int .i64 z):=by
      intro i hi
      obtain ⟨cs',h1,h2⟩:=hel i (by omega)
      rw [cq] at h1
      obtain ⟨_,hlen,hcell⟩:=World.cells?_some h1
      match cs',hlen with
      | [v0],_ =>
        obtain ⟨z0,e0,_,_⟩:=DataW.trod_int hq h2
        simp at e0
        subst e0
        have c0:=hcell 0 (by omega)
        rw [add_add] at c0
        exact ⟨z0,by simpa using c0⟩
    obtain ⟨f,hf⟩:=choose_lt each
    refine ⟨(List.range len).map f,_,rfl,?_⟩
    have hlen:(((List.range len).map f).map encI).length=len:=by simp
    have key:=V.imm (w:=W) (ok:=okOf Ctx.nil W.heap.size) (c:=Ctx.nil) .arg 1 (((List.range len).map f).map encI) (some a') cap (fun j=>.int .i64 (f j))
      (by rw [hlen]; exact hl) (by simp) ?_ ?_ ?_ ?_
    · rw [hlen] at key; exact key
    · intro hne
      have h0:0 < len:=by
        rcases Nat.eq_zero_or_pos len with h | h
        · subst h; simp at hne
        · exact h
      obtain ⟨b,off,spot⟩:=a'
      have hspot:spot=none:=by simpa [Addr.add] using World.cell?_spot (hf 0 h0)
      subst hspot
      refine ⟨b,off,rfl,by simpa [Addr.add] using cell_lt (hf 0 h0),okNil W b,fun j hj=>?_⟩
      rw [hlen] at hj
      have c0:=hf j (by omega)
      rw [add_plain] at c0
      exact c0
    · intro v hv
      obtain ⟨p,_,rfl⟩:=List.mem_map.1 hv
      rfl
    · intro v hv
      obtain ⟨p,_,rfl⟩:=List.mem_map.1 hv
      rfl
    · intro i v j x hi hj
      have hil:i < len:=by have:=lt_of_get hi; rw [hlen] at this; exact this
      have:v=encI (f i):=by
        rw [List.getElem?_map,List.getElem?_map,List.getElem?_range hil] at hi
        simpa using hi.symm
      subst this
      have hjx:j < 1:=lt_of_get hj
      match j,hjx,hj with
      | 0,_,hj =>
        simp [encI,cellsOf] at hj
        subst hj
        have e1:i * 1+0=i:=by omega
        rw [e1]
        exact V.int _ _
def encRH (r:List Int):HV:=.imm .arg 1 (r.map encI)
theorem rows_cells {H:Type} {enc:TypeId × Value → H} {P:Program} {W:World} {base fuel:Nat} {sp:Nat → Bool} {held:Bool} {s t q:TypeId} {cs:List Value} {x:DataW H × List MemPlace} (hs:P.underlying s=some (.slice t)) (ct:P.cellsOf t=1) (ht:P.underlying t=some (.slice q)) (hq:P.underlying q=some (.int .i64)) (cq:P.cellsOf q=1)
    (hf:DataW.trod enc P W base sp held fuel s cs=some x):∃ (R:List (List Int)) (v:Value),cs=[v]∧V W (okOf Ctx.nil W.heap.size) Ctx.nil (.imm .arg 1 (R.map encRH)) v:=by
  rcases open_slice hs hf with ⟨h0,_⟩ | ⟨a',len,cap,m,n,D,Pl,h0,hb,hl,hm,hmm,hx,hel⟩
  · exact ⟨[],_,h0,.imm .arg 1 [] none 0 (fun _=>.bool false) (by simp) (by simp) (by simp) (by simp) (by simp) (by simp)⟩
  · subst h0
    have hlm:len ≤ m:=by rw [hmm]; split <;> omega
    have each:∀ i,i < len → ∃ p:List Int × Value,W.cell? (a'.add i)=some p.2∧V W (okOf Ctx.nil W.heap.size) Ctx.nil (encRH p.1) p.2:=by
      intro i hi
      obtain ⟨cs',h1,h2⟩:=hel i (by omega)
      rw [ct,Nat.mul_one] at h1
      obtain ⟨_,hlen,hcell⟩:=World.cells?_some h1
      obtain ⟨l,v,rfl,hV⟩:=ints_cells ht hq cq h2
      have c0:=hcell 0 (by omega)
      rw [add_add] at c0
      exact ⟨(l,v),by simpa using c0,hV⟩
    obtain ⟨f,hf⟩:=choose_lt each
    refine ⟨(List.range len).map fun i=>(f i).1,_,rfl,?_⟩
    have hlen:(((List.range len).map fun i=>(f i).1).map encRH).length=len:=by simp
    have key:=V.imm (w:=W) (ok:=okOf Ctx.nil W.heap.size) (c:=Ctx.nil) .arg 1 (((List.range len).map fun i=>(f i).1).map encRH) (some a') cap (fun j=>(f j).2)
      (by rw [hlen]; exact hl) (by simp) ?_ ?_ ?_ ?_
    · rw [hlen] at key; exact key
    · intro hne
      have h0:0 < len:=by
        rcases Nat.eq_zero_or_pos len with h | h
        · subst h; simp at hne
        · exact h
      obtain ⟨b,off,spot⟩:=a'
      have hspot:spot=none:=by simpa [Addr.add] using World.cell?_spot (hf 0 h0).1
      subst hspot
      refine ⟨b,off,rfl,by simpa [Addr.add] using cell_lt (hf 0 h0).1,okNil W b,fun j hj=>?_⟩
      rw [hlen,Nat.mul_one] at hj
      have c0:=(hf j hj).1
      rw [add_plain] at c0
      exact c0
    · intro v hv
      obtain ⟨p,_,rfl⟩:=List.mem_map.1 hv
      rfl
    · intro v hv
      obtain ⟨p,_,rfl⟩:=List.mem_map.1 hv
      rfl
    · intro i v j x hi hj
      have hil:i < len:=by have:=lt_of_get hi; rw [hlen] at this; exact this
      have:v=encRH (f i).1:=by
        rw [List.getElem?_map,List.getElem?_map,List.getElem?_range hil] at hi
        simpa using hi.symm
      subst this
      have hjx:j < 1:=lt_of_get hj
      obtain rfl:j=0:=by omega
      simp [encRH,cellsOf] at hj
      subst hj
      have e1:i * 1+0=i:=by omega
      rw [e1]
      exact (hf i hil).2
theorem arg_rows_ok {H:Type} {enc:TypeId × Value → H} {P:Program} {W:World} {base:Nat} {s t q:TypeId} {v:Value} {d:DataW H} {ps:List MemPlace} (hs:P.underlying s=some (.slice t)) (ct:P.cellsOf t=1) (ht:P.underlying t=some (.slice q)) (hq:P.underlying q=some (.int .i64)) (cq:P.cellsOf q=1)
    (hval:Value.okWide P W .any base s v) (hd:DataW.Trod enc P W 0 (fun _=>true) true s v d ps):∃ R:List (List Int),V W (okOf Ctx.nil W.heap.size) Ctx.nil (.imm .arg 1 (R.map encRH)) v:=by
  obtain ⟨a,len,cap,rfl⟩:=okWide_slice hs hval
  obtain ⟨fuel,hf⟩:=hd
  obtain ⟨R,v,hv,h⟩:=rows_cells hs ct ht hq cq hf
  simp [Value.cells] at hv
  subst hv
  exact ⟨R,h⟩
end Go.HL
end
