/- A part of the proof. -/
import Derived.Test.YtaibmipamkaljaaSfC
set_option linter.unusedVariables false
set_option linter.unusedSimpArgs false
set_option linter.unnecessarySimpa false
section
open Go Go.HL
namespace Go.Proofs.Ytaibmipamkaljaa
def sumG (g:Gr) (l:List El):El:=((l.map Prod.fst).sum % g.1,(l.map Prod.snd).sum % g.2.1)
theorem sumG_cons {g:Gr} (x:El) (l:List El):sumG g (x :: l)=addT g (sumG g l) x:=by
  simp only [sumG,addT,List.map_cons,List.sum_cons]
  rw [Int.emod_add_emod,Int.emod_add_emod,Int.add_comm x.1,Int.add_comm x.2]
theorem sumG_nil (g:Gr):sumG g []=(0,0):=by simp [sumG]
theorem sumG_add {g:Gr} (l:List El) (x:El):addT g (sumG g l) x=sumG g (l ++ [x]):=by
  simp only [sumG,addT,List.map_append,List.sum_append,List.map_cons,List.map_nil,List.sum_cons,List.sum_nil,Int.add_zero]
  rw [Int.emod_add_emod,Int.emod_add_emod]
theorem rch_gen {g:Gr}:∀ (l:List El) (k:Int) (t:El),(k,t) ∈ (rchT g l).headD [] ↔ ∃ s:List El,s.Sublist l∧k=(s.length:Int)∧t=sumG g s
  | [],k,t=>by
    simp only [rchT,List.headD_cons,List.mem_singleton,List.sublist_nil]
    constructor
    · intro h
      exact ⟨[],rfl,congrArg Prod.fst h,(congrArg Prod.snd h).trans (sumG_nil g).symm⟩
    · rintro ⟨s,rfl,rfl,rfl⟩
      rw [sumG_nil]; rfl
  | x :: l,k,t=>by
    show (k,t) ∈ rchStep g x ((rchT g l).headD []) ↔ _
    rw [mem_step]
    constructor
    · rintro ⟨u,h1,h2⟩
      obtain ⟨s,hs,e1,e2⟩:=(rch_gen l u.1 u.2).1 h1
      rcases h2 with h2 | h2
      · subst h2; exact ⟨s,hs.cons x,e1,e2⟩
      · have a1:k=u.1+1:=congrArg Prod.fst h2
        have a2:t=addT g u.2 x:=congrArg Prod.snd h2
        exact ⟨x :: s,hs.cons_cons x,by rw [a1,e1]; simp,by rw [a2,e2,sumG_cons]⟩
    · rintro ⟨s,hs,e1,e2⟩
      cases hs with
      | cons _ h=>exact ⟨(k,t),(rch_gen l k t).2 ⟨s,h,e1,e2⟩,.inl rfl⟩
      | cons_cons _ h =>
        rename_i s'
        refine ⟨((s'.length:Int),sumG g s'),(rch_gen l _ _).2 ⟨s',h,rfl,rfl⟩,.inr ?_⟩
        rw [e1,e2,sumG_cons]
        simp only [rchW,List.length_cons]
        refine Prod.ext ?_ rfl
        show ((s'.length+1:Nat):Int)=(s'.length:Int)+1
        omega
theorem sumG_zero_iff {g:Gr} {l:List El}:sumG g l=(0,0) ↔ (l.map Prod.fst).sum % g.1=0∧(l.map Prod.snd).sum % g.2.1=0:=by simp [sumG,Prod.ext_iff]
theorem dav_gr {gl:List Int} {g:Gr} {e:Int} (h:GrL gl g e) {l:List El} (hl:g.1+g.2.1 - 1 ≤ (l.length:Int)):∃ s,s.Sublist l∧s ≠ []∧sumG g s=(0,0):=by
  rcases h with ⟨m,rfl,rfl,rfl,h1,h2⟩ | ⟨a,b,rfl,rfl,rfl,h1,h2,h3,h4,h5,h6⟩
  · obtain ⟨s,a1,a2,a3,a4⟩:=Ol.dav e.toNat (by omega) (by omega) 1 (by omega) (Nat.mod_one _) (l.map fun q=>(q.2,q.1)) (by rw [List.length_map]; simp only at hl; omega)
    obtain ⟨t,t1,rfl⟩:=List.sublist_map_iff.1 a1
    refine ⟨t,t1,fun c=>a2 (by rw [c]; rfl),sumG_zero_iff.2 ⟨?_,Int.emod_one _⟩⟩
    rw [Int.toNat_of_nonneg (by omega)] at a4
    simp only [Ol.s2,List.map_map] at a4
    exact a4
  · obtain ⟨s,a1,a2,a3,a4⟩:=Ol.dav e.toNat (by omega) (by omega) a.toNat (by omega) (by
      have:((e.toNat % a.toNat:Nat):Int)=0:=by rw [Int.natCast_emod,Int.toNat_of_nonneg (by omega),Int.toNat_of_nonneg (by omega)]; exact h6
      omega) l (by simp only at hl; omega)
    rw [Int.toNat_of_nonneg (by omega)] at a3 a4
    exact ⟨s,a1,a2,sumG_zero_iff.2 ⟨a3,a4⟩⟩
end Go.Proofs.Ytaibmipamkaljaa
end
section
open Go Go.HL
namespace Go.Proofs.Ytaibmipamkaljaa
set_option maxRecDepth 100000
open Go.Proofs.Try renaming prog → Tp
open Go.HL.HV renaming undef → Ud
noncomputable def B33:Code:=Try.f33.body.getD .skip
abbrev env33 (v0 v2 v3 v4 v5:HV):Env:=[(0,v0),(2,v2),(3,v3),(4,v4),(5,v5)]
theorem tb_a_0 (rw:List HV) :RT pol 33 (sub [0] B33) [(0,.imm .arg 1 rw)] [] .normal (env33 (.imm .arg 1 rw) (.imm .lit 1 []) Ud Ud Ud) [] :=
  RunsTo.hin 0 60 [] fun kf hk=>⟨_,by kernel_rfl,.nil⟩
theorem tb_b_0 (rw:List HV)  {y3 y4 y5:HV}:RT pol 33 (sub [1,0] B33) (env33 (.imm .arg 1 rw) (.imm .lit 1 []) y3 y4 y5) [] .normal (env33 (.imm .arg 1 rw) (.imm .lit 1 []) (.sl 0 0 0 none 0 1) y4 y5) [.arr 1 [] true 0] :=
  RunsTo.hin 0 60 [] fun kf hk=>⟨_,by kernel_rfl,.nil⟩
theorem tb_c_0 (rw:List HV) (p:Nat) (out:List HV) {y4 y5:HV}:RT pol 33 (sub [1,1,0,0] B33) (env33 (.imm .arg 1 rw) (.imm .lit 1 []) (.sl 0 0 p none p 1) y4 y5) [.arr 1 out true 0] .normal (env33 (.imm .arg 1 rw) (.imm .lit 1 []) (.sl 0 0 p none p 1) (.i 0) y5) [.arr 1 out true 0] :=
  RunsTo.hin 0 60 [] fun kf hk=>⟨_,by kernel_rfl,.nil⟩
theorem tb_d_0 (rw:List HV) (p:Nat) (out:List HV) (i m:Nat) {y5:HV} {l0:List HV} {l1:List HV} {w0:Bool} (g0:(i:Int) < (rw.length:Int)) (g1:(i:Int) ≤ 60) (g2:idxV Tp 35 (.imm .arg 1 rw) (.i (i:Int))=some (.vptr (.imm .arg 1 l0))) (g3:idxV Tp 35 (.imm .arg 1 rw) (.i (i:Int))=some (.vptr (.imm .arg 1 l1))) (g4:sliceV Tp 22 (.imm .arg 1 l0) none (some (.i (min (l1.length:Int) 3))) none=some (.imm .arg 1 (l0.take m))) (g5:appV [.arr 1 out true 0,.arr 1 [] true 0] 1 8 (.sl 1 0 0 none 0 1) (l0.take m)=some (.sl 1 0 ((l0.take m).length) none ((l0.take m).length) 1,[.arr 1 out true 0,.arr 1 (l0.take m) true 0])) (g6:litV Tp true false 35 1 [(0,.sl 1 0 ((l0.take m).length) none ((l0.take m).length) 1)] [.arr 1 out true 0,.arr 1 (l0.take m) true 0]=some (.imm .lit 1 [.imm .own 1 (l0.take m)],[.arr 1 out true 0,.arr 1 (l0.take m) w0 0])) (g7:appV [.arr 1 out true 0,.arr 1 (l0.take m) w0 0] 1 24 (.sl 0 0 p none p 1) [.imm .own 1 (l0.take m)]=some (.sl 0 0 (p+1) none (p+1) 1,[.arr 1 (out ++ [.imm .own 1 (l0.take m)]) true 0,.arr 1 (l0.take m) w0 0])):RT pol 33 (sub [1,1,0,1,0,0] B33) (env33 (.imm .arg 1 rw) (.imm .lit 1 []) (.sl 0 0 p none p 1) (.i (i:Int)) y5) [.arr 1 out true 0] .normal (env33 (.imm .arg 1 rw) (.imm .lit 1 []) (.sl 0 0 (p+1) none (p+1) 1) (.i (IntKind.i64.wrap ((i:Int)+1))) (.sl 1 0 0 none 0 1)) [.arr 1 (out ++ [.imm .own 1 (l0.take m)]) true 0,.arr 1 (l0.take m) w0 0] :=
  RunsTo.hin 0 60 [⟨3,3,.bool true,[.arr 1 out true 0]⟩,⟨3,6,.bool true,[.arr 1 out true 0]⟩,⟨6,4,.vptr (.imm .arg 1 l0),[.arr 1 out true 0,.arr 1 [] true 0]⟩,⟨6,8,.vptr (.imm .arg 1 l1),[.arr 1 out true 0,.arr 1 [] true 0]⟩,⟨6,12,.imm .arg 1 (l0.take m),[.arr 1 out true 0,.arr 1 [] true 0]⟩,⟨6,13,.sl 1 0 ((l0.take m).length) none ((l0.take m).length) 1,[.arr 1 out true 0,.arr 1 (l0.take m) true 0]⟩,⟨6,14,.imm .lit 1 [.imm .own 1 (l0.take m)],[.arr 1 out true 0,.arr 1 (l0.take m) w0 0]⟩,⟨6,15,.sl 0 0 (p+1) none (p+1) 1,[.arr 1 (out ++ [.imm .own 1 (l0.take m)]) true 0,.arr 1 (l0.take m) w0 0]⟩] fun kf hk=>⟨_,by kernel_rfl,(oB [.arr 1 out true 0] (decide_eq_true g0) (oB [.arr 1 out true 0] (decide_eq_true g1) (oP [.arr 1 out true 0,.arr 1 [] true 0] g2 (oP [.arr 1 out true 0,.arr 1 [] true 0] g3 (oP [.arr 1 out true 0,.arr 1 [] true 0] g4 (oC (g5) (oC (g6) (oC (g7) .nil))))))))⟩
theorem tb_d_1 (rw:List HV) (p:Nat) (out:List HV) (i m:Nat) {y5:HV}(g0:(i:Int) < (rw.length:Int)) (g1:¬ ((i:Int) ≤ 60)):RT pol 33 (sub [1,1,0,1,0,0] B33) (env33 (.imm .arg 1 rw) (.imm .lit 1 []) (.sl 0 0 p none p 1) (.i (i:Int)) y5) [.arr 1 out true 0] (.exit 0) (env33 (.imm .arg 1 rw) (.imm .lit 1 []) (.sl 0 0 p none p 1) (.i (i:Int)) y5) [.arr 1 out true 0] :=
  RunsTo.hin 0 60 [⟨3,3,.bool true,[.arr 1 out true 0]⟩,⟨3,6,.bool false,[.arr 1 out true 0]⟩] fun kf hk=>⟨_,by kernel_rfl,(oB [.arr 1 out true 0] (decide_eq_true g0) (oB [.arr 1 out true 0] (decide_eq_false g1) .nil))⟩
theorem tb_d_2 (rw:List HV) (p:Nat) (out:List HV) (i m:Nat) {y5:HV}(g0:¬ ((i:Int) < (rw.length:Int))):RT pol 33 (sub [1,1,0,1,0,0] B33) (env33 (.imm .arg 1 rw) (.imm .lit 1 []) (.sl 0 0 p none p 1) (.i (i:Int)) y5) [.arr 1 out true 0] (.exit 0) (env33 (.imm .arg 1 rw) (.imm .lit 1 []) (.sl 0 0 p none p 1) (.i (i:Int)) y5) [.arr 1 out true 0] :=
  RunsTo.hin 0 60 [⟨3,3,.bool false,[.arr 1 out true 0]⟩] fun kf hk=>⟨_,by kernel_rfl,(oB [.arr 1 out true 0] (decide_eq_false g0) .nil)⟩
theorem tb_e_0 (rw:List HV) (p:Nat) (out:List HV) (i:Nat) {y5:HV}:RT pol 33 (sub [1,1,1] B33) (env33 (.imm .arg 1 rw) (.imm .lit 1 []) (.sl 0 0 p none p 1) (.i (i:Int)) y5) [.arr 1 out true 0] .ret (env33 (.imm .arg 1 rw) (.sl 0 0 p none p 1) (.sl 0 0 p none p 1) (.i (i:Int)) y5) [.arr 1 out true 0] :=
  RunsTo.hin 0 60 [] fun kf hk=>⟨_,by kernel_rfl,.nil⟩
end Go.Proofs.Ytaibmipamkaljaa
end
section
open Go Go.HL
namespace Go.Proofs.Ytaibmipamkaljaa
open Go.Proofs.Try renaming prog → Tp
open Go.HL.HV renaming undef → Ud
def tabT (R:List (List Int)):List (List Int):=(R.take 61).map fun r=>r.take 3
def table33:List HV → Option HV:=rwF fun R=>some (.own 1 ((tabT R).map encO))
theorem res33:Try.f33.results.toList=[.tmp 2]:=by kernel_rfl
abbrev tbE (R:List (List Int)) (p i:Nat) (v5:HV):Env:=(env33 (.imm .arg 1 (R.map encR)) (.imm .lit 1 []) (.sl 0 0 p none p 1) (.int .i64 (i:Int)) v5)
abbrev bO3 (R:List (List Int)):Blk:=.arr 1 (R.map encO) true 0
theorem tb_out {R:List (List Int)}:∀ k i (out:List (List Int)),i+k=(R.take 61).length → out.length=i →
    ∃ i',RT pol 33 (sub [1,1,0,1,0] B33) (tbE R out.length i Ud) [bO3 out] (.exit 0) (tbE R (out ++ ((R.take 61).drop i).map fun r=>r.take 3).length i' Ud) [bO3 (out ++ ((R.take 61).drop i).map fun r=>r.take 3)]:=by
  intro k
  induction k with
  | zero =>
    intro i out hi ho
    rw [List.length_take] at hi
    rw [List.drop_of_length_le (by rw [List.length_take]; omega),List.map_nil,List.append_nil]
    by_cases h:i < R.length
    · have s:=tb_d_1 (R.map encR) out.length (out.map encO) i 0 (y5:=Ud) (by rw [List.length_map]; omega) (by omega)
      exact ⟨i,lpo (s) (c:=sub [1,1,0,1,0] B33)⟩
    · have s:=tb_d_2 (R.map encR) out.length (out.map encO) i 0 (y5:=Ud) (by rw [List.length_map]; omega)
      exact ⟨i,lpo (s) (c:=sub [1,1,0,1,0] B33)⟩
  | succ k ih =>
    intro i out hi ho
    have hi2:=hi
    rw [List.length_take] at hi2
    have hil:i < R.length:=by omega
    have hd:(R.take 61).drop i=R.getD i [] :: (R.take 61).drop (i+1):=by
      rw [List.drop_eq_getElem_cons (by omega)]
      simp [List.getD,List.getElem?_eq_getElem hil,List.getElem_take]
    have hmin:min (((R.getD i []).map encI).length:Int) 3=((min (R.getD i []).length 3:Nat):Int):=by rw [List.length_map]; omega
    have hw:((R.getD i []).map encI).take (min (R.getD i []).length 3)=((R.getD i []).take 3).map encI:=by rw [← List.map_take,take_min]
    have g4:sliceV Tp 22 (.imm .arg 1 ((R.getD i []).map encI)) none (some (.int .i64 (min (((R.getD i []).map encI).length:Int) 3))) none=some (.imm .arg 1 (((R.getD i []).map encI).take (min (R.getD i []).length 3))):=by
      rw [hmin]; exact slice_imm (by rw [List.length_map]; omega)
    have g5:appV [bO3 out,.arr 1 [] true 0] 1 8 (.sl 1 0 0 none 0 1) (((R.getD i []).take 3).map encI)=some (.sl 1 0 (((R.getD i []).take 3).map encI).length none (((R.getD i []).take 3).map encI).length 1,[bO3 out,.arr 1 (((R.getD i []).take 3).map encI) true 0]):=by
      by_cases h0:(R.getD i []).take 3=[]
      · rw [h0]; rfl
      · have hlen:((R.getD i []).take 3).length ≤ 3:=by rw [List.length_take]; omega
        have:=app_ints (H:=[bO3 out,bI []]) (b:=1) (o:=[]) (xs:=(R.getD i []).take 3) rfl (by simp; omega) h0
        rw [List.nil_append] at this
        rw [List.length_map]
        exact this
    obtain ⟨w,lt⟩:=lit_seal' (P:=Tp) (H:=[bO3 out,.arr 1 (((R.getD i []).take 3).map encI) true 0]) (t:=35) (e:=22) (k:=1) (b:=1) (p:=(((R.getD i []).take 3).map encI).length) (mx:=0) (bt:=24) (zv:=.imm .lit 0 []) (els:=((R.getD i []).take 3).map encI) u35 (by kernel_rfl) (by kernel_rfl) (by kernel_rfl) rfl rfl (ints_res _)
    have ap:=app_O (H:=[bO3 out,.arr 1 (((R.getD i []).take 3).map encI) w 0]) (b:=0) (R:=out) rfl (by omega) ((R.getD i []).take 3)
    have s:=tb_d_0 (R.map encR) out.length (out.map encO) i (min (R.getD i []).length 3) (y5:=Ud) (w0:=w) (by rw [List.length_map]; omega) (by omega) (gr hil) (gr hil) g4 (by rw [hw]; exact g5) (by rw [hw]; exact lt) (by rw [hw]; exact ap.trans (by simp only [List.map_append]; rfl))
    rw [hw,wrap_succ (by omega)] at s
    obtain ⟨i',nx⟩:=ih (i+1) (out ++ [(R.getD i []).take 3]) (by omega) (by simp; omega)
    have hgc:gc [bO3 out].length (bndE (tbE R (out.length+1) (i+1) Ud)) [.arr 1 (out.map encO ++ [.imm .own 1 (((R.getD i []).take 3).map encI)]) true 0,.arr 1 (((R.getD i []).take 3).map encI) w 0]=[bO3 (out ++ [(R.getD i []).take 3])]:=by
      have h1:bndE (tbE R (out.length+1) (i+1) Ud) ≤ 1:=by simp only [bndE,bnd]; decide
      unfold gc
      have h3:max [bO3 out].length (max (bndE (tbE R (out.length+1) (i+1) Ud)) (mxs [.arr 1 (out.map encO ++ [.imm .own 1 (((R.getD i []).take 3).map encI)]) true 0,.arr 1 (((R.getD i []).take 3).map encI) w 0]))=1:=by
        have:mxs [.arr 1 (out.map encO ++ [.imm .own 1 (((R.getD i []).take 3).map encI)]) true 0,.arr 1 (((R.getD i []).take 3).map encI) w 0]=0:=rfl
        rw [this]; simp only [List.length_cons,List.length_nil]; omega
      rw [h3]
      simp only [bO3,List.map_append]
      rfl
    refine ⟨i',?_⟩
    rw [hd,List.map_cons,List.append_cons]
    rw [List.length_append,List.length_singleton] at nx
    exact lop (s) hgc (nx)
theorem table_ok:PrimOk Tp 33 table33:=by
  refine primOk_pure (pol:=pol) (fn:=Try.f33) (cd:=B33) follows_mixed sound (by kernel_rfl) (by kernel_rfl) (fnok pol.prim _ _ (by kernel_rfl)) (by kernel_rfl) ?_
  intro args res h
  obtain ⟨R,rfl,hq⟩:=rwF_inv h
  clear h
  cases hq
  have a:=tb_a_0 (R.map encR)
  have b:=tb_b_0 (R.map encR) (y3:=Ud) (y4:=Ud) (y5:=Ud)
  have c:=tb_c_0 (R.map encR) 0 [] (y4:=Ud) (y5:=Ud)
  obtain ⟨i',lp⟩:=tb_out (R:=R) (R.take 61).length 0 [] (by omega) rfl
  rw [List.drop_zero,List.nil_append] at lp
  have z:=tb_e_0 (R.map encR) (tabT R).length ((tabT R).map encO) i' (y5:=Ud)
  have u:=sq (a) (sq (b) (sq (sq (c) (bke (c:=sub [1,1,0,1] B33) (lp)) (c:=sub [1,1,0] B33)) (z) (c:=sub [1,1] B33)) (c:=sub [1] B33)) (c:=B33)
  exact ⟨_,_,_,.sl 0 0 (tabT R).length none (tabT R).length 1,u,by simp,by simp only [resultsV,res33]; rfl,res_rs rfl rfl⟩
end Go.Proofs.Ytaibmipamkaljaa
end
section
open Go Go.HL
namespace Go.Proofs.Ytaibmipamkaljaa
open Go.Proofs.Try renaming prog → Tp
open Go.HL.HV renaming undef → Ud
def argR (H:Heap) (v:HV) (R:List (List Int)):Prop:=toArg H 6 v=some (.imm .arg 1 (R.map encR))
theorem argR_imm (H:Heap) (R:List (List Int)):argR H (.imm .arg 1 (R.map encR)) R:=arg_rw H R
theorem argR_sl {H:Heap} {R:List (List Int)} {b m mx:Nat} (hm:R.length=m) (hb:H[b]?=some (.arr 1 (R.map encO) true mx)):argR H (.sl b 0 m none m 1) R:=arg_rs hm hb
theorem argI_sl {H:Heap} {l:List Int} {b m:Nat} (hm:l.length=m) (hb:H[b]?=some (bI l)):argI H (.sl b 0 m none m 1) l:=arg_sl hm hb
abbrev bR (R:List (List Int)):Blk:=.arr 1 (R.map encO) true 0
theorem table_at {pol':Pol} (hp:pol'.prim 33=some table33) {R:List (List Int)} {v:HV} {H:Heap} (h1:argR H v R) :
    ∀ k,callN Tp pol' (k+1) 33 [v] H=some (.sl H.length 0 (tabT R).length none (tabT R).length 1,H ++ [bR (tabT R)]):=fun k=>by
  have hd:mapO decR (R.map encR)=some R:=mapO_map decR_enc R
  unfold argR at h1
  rw [prim_call (pol:=pol') (g:=33) (F:=table33) hp (rs:=[.imm .arg 1 (R.map encR)]) (by simp only [mapO,h1]) (res:=.own 1 ((tabT R).map encO)) (by simp only [table33,rwF,hd]),recv_rows]
theorem list36_at {pol':Pol} (hp:pol'.prim 36=some list36) {gl:List Int} {R:List (List Int)} {v1 v2:HV} {H:Heap} (h1:argI H v1 gl) (h2:argR H v2 R) (hl:gl.length ≤ 1000∧R.length ≤ 1000) :
    ∀ k,callN Tp pol' (k+1) 36 [v1,v2] H=some (.bool (listB gl R),H):=fun k=>by
  have hd:mapO decI (gl.map encI)=some gl:=mapO_map decI_enc gl
  have hd2:mapO decR (R.map encR)=some R:=mapO_map decR_enc R
  unfold argI at h1
  unfold argR at h2
  rw [prim_call (pol:=pol') (g:=36) (F:=list36) hp (rs:=[.imm .arg 1 (gl.map encI),.imm .arg 1 (R.map encR)]) (by simp only [mapO,h1,h2]) (res:=.bool (listB gl R)) (by simp only [list36,lrF,hd,hd2]; rw [if_pos hl])]
  rfl
end Go.Proofs.Ytaibmipamkaljaa
end
section
open Go Go.HL
namespace Go.Proofs.Ytaibmipamkaljaa
theorem el_of_row {gl r:List Int} (h:rowOk gl r):elB gl r=true:=by
  simp only [elB,Bool.and_eq_true,decide_eq_true_eq,List.all_eq_true,List.mem_range,cellB]
  exact ⟨h.1,fun j hj=>h.2 j hj⟩
theorem rowsE_el {gl:List Int} {g:Gr} {e:Int} (h:GrL gl g e) (R:List (List Int)) (c:Int):∀ x ∈ rowsE gl R c,elB gl x=true:=by
  intro x hx
  obtain ⟨y,_,rfl⟩:=List.mem_map.1 hx
  exact el_of_row (row_ok h y)
theorem rowsE_len (gl:List Int) (R:List (List Int)) (c:Int):(rowsE gl R c).length ≤ c.toNat:=by
  simp only [rowsE,List.length_map,List.length_take]; omega
theorem shT_inv {g:Gr} {l:List El} {t:El}:∀ (f j:Nat),(shT g l t f j=none∧∀ k:Nat,j ≤ k → k < j+f → ((k:Int),t) ∉ (rchT g l).headD []) ∨
    ∃ o,j ≤ o∧o < j+f∧((o:Int),t) ∈ (rchT g l).headD []∧(∀ k:Nat,j ≤ k → k < o → ((k:Int),t) ∉ (rchT g l).headD [])∧shT g l t f j=some (partI g l ((o:Int),t))
  | 0,j=>.inl ⟨rfl,fun k h1 h2=>by omega⟩
  | f+1,j=>by
    by_cases c:((j:Int),t) ∈ (rchT g l).headD []
    · exact .inr ⟨j,Nat.le_refl _,by omega,c,fun k h1 h2=>by omega,by rw [shT,if_pos c]⟩
    · rcases shT_inv (g:=g) (l:=l) (t:=t) f (j+1) with ⟨h1,h2⟩ | ⟨o,h1,h2,h3,h4,h5⟩
      · refine .inl ⟨by rw [shT,if_neg c]; exact h1,fun k a b=>?_⟩
        by_cases e:k=j
        · rw [e]; exact c
        · exact h2 k (by omega) (by omega)
      · refine .inr ⟨o,by omega,by omega,h3,fun k a b=>?_,by rw [shT,if_neg c]; exact h5⟩
        by_cases e:k=j
        · rw [e]; exact c
        · exact h4 k (by omega) b
theorem zero_cases {gl:List Int} (hg:(newGroupT gl).2=true) {R:List (List Int)} (hR:∀ x ∈ R,elB gl x=true) (hl:R.length ≤ 60) :
    (zeroT gl R=([],6)∧∀ s:List El,s.Sublist (els gl R) → s ≠ [] → sumG (grG gl) s ≠ (0,0)) ∨
    ∃ o:Nat,1 ≤ o∧o ≤ R.length∧((o:Int),(0,0)) ∈ (rchT (grG gl) (els gl R)).headD []∧(∀ s:List El,s.Sublist (els gl R) → s ≠ [] → sumG (grG gl) s=(0,0) → o ≤ s.length)∧zeroT gl R=(partI (grG gl) (els gl R) ((o:Int),(0,0)),0):=by
  have e:=elems_B hg (listB_iff.2 ⟨hR,hl⟩)
  have ez:zeroT gl R=shP (shT (grG gl) (els gl R) (0,0) R.length 1):=by
    unfold zeroT
    rw [if_pos hg]
    unfold grG at e ⊢
    rw [e]
    simp only [els,List.length_map]
  have sl:∀ s:List El,s.Sublist (els gl R) → s ≠ [] → 1 ≤ s.length∧s.length ≤ R.length:=fun s hs h0=>by
    have:=hs.length_le
    simp only [els,List.length_map] at this
    exact ⟨by rcases s with _ | _; exact absurd rfl h0; simp,this⟩
  rcases shT_inv (g:=grG gl) (l:=els gl R) (t:=(0,0)) R.length 1 with ⟨h1,h2⟩ | ⟨o,h1,h2,h3,h4,h5⟩
  · refine .inl ⟨by rw [ez,h1]; rfl,fun s hs h0 hz=>?_⟩
    have:=sl s hs h0
    exact h2 s.length (by omega) (by omega) ((rch_gen _ _ _).2 ⟨s,hs,rfl,hz.symm⟩)
  · refine .inr ⟨o,h1,by omega,h3,fun s hs h0 hz=>?_,by rw [ez,h5]; rfl⟩
    have:=sl s hs h0
    rcases Nat.lt_or_ge s.length o with c | c
    · exact absurd ((rch_gen _ _ _).2 ⟨s,hs,rfl,hz.symm⟩) (h4 s.length (by omega) c)
    · exact c
section
variable {gl:List Int} {g:Gr} {e:Int} (h:GrL gl g e)
include h
theorem grG_eq:grG gl=g∧(newGroupT gl).2=true:=by
  have:=h.new
  exact ⟨by rw [grG,this],by rw [this]⟩
end
end Go.Proofs.Ytaibmipamkaljaa
end
section
open Go Go.HL
namespace Go.Proofs.Ytaibmipamkaljaa
open Go.Proofs.Try renaming prog → Tp
open Go.HL.HV renaming undef → Ud
theorem sum_one {g:Gr} {x:El} (hx:elOk g x):sumG g [x]=x:=by
  obtain ⟨⟨a1,a2⟩,a3,a4⟩:=hx
  simp only [sumG,List.map_cons,List.map_nil,List.sum_cons,List.sum_nil,Int.add_zero]
  rw [Int.emod_eq_of_lt a1 a2,Int.emod_eq_of_lt a3 a4]
theorem addT_comm (g:Gr) (x y:El):addT g x y=addT g y x:=by
  simp only [addT]; rw [Int.add_comm x.1,Int.add_comm x.2]
theorem mem_sumS {g:Gr}:∀ (l:List El),(∀ x ∈ l,elOk g x) → ∀ w,w ∈ sumS g l ↔ ∃ s:List El,s.Sublist l∧s ≠ []∧w=sumG g s:=by
  refine snocInd (fun _ w=>?_) (fun l x ih hl w=>?_)
  · simp only [sumS,List.foldl_nil,List.not_mem_nil,List.sublist_nil,false_iff]
    rintro ⟨s,rfl,h,_⟩
    exact h rfl
  · have hx:=hl x (by simp)
    have ih:=ih fun z hz=>hl z (by simp [hz])
    rw [sumS_app,mem_sStep]
    constructor
    · rintro (rfl | ⟨u,hu,h⟩)
      · exact ⟨[w],List.sublist_append_right l [w],by simp,(sum_one hx).symm⟩
      · obtain ⟨s,s1,s2,s3⟩:=(ih u).1 hu
        rcases h with rfl | rfl
        · exact ⟨s,s1.trans (List.sublist_append_left _ _),s2,s3⟩
        · exact ⟨s ++ [x],List.Sublist.append s1 (List.Sublist.refl _),by simp,by rw [addT_comm,s3,sumG_add]⟩
    · rintro ⟨s,s1,s2,s3⟩
      obtain ⟨a,b,rfl,ha,hb⟩:=List.sublist_append_iff.1 s1
      have hb':b=[] ∨ b=[x]:=by
        cases hb with
        | cons _ h=>exact .inl (List.sublist_nil.1 h)
        | cons_cons _ h=>rw [List.sublist_nil.1 h]; exact .inr rfl
      rcases hb' with rfl | rfl
      · rw [List.append_nil] at s2 s3
        exact .inr ⟨w,(ih w).2 ⟨a,ha,s2,s3⟩,.inl rfl⟩
      · by_cases h0:a=[]
        · subst h0
          rw [List.nil_append,sum_one hx] at s3
          exact .inl s3
        · exact .inr ⟨sumG g a,(ih _).2 ⟨a,ha,h0,rfl⟩,.inr (by rw [s3,addT_comm,sumG_add])⟩
theorem recvRs {H:Heap} (R:List (List Int)) (x:Int):recv (.tuple [.own 1 (R.map encO),.int .i64 x]) H=(.tuple [.sl H.length 0 R.length none R.length 1,.int .i64 x],H ++ [bR R]):=by
  have h:recvCell (.own 1 (R.map encO)) H=(.sl H.length 0 R.length none R.length 1,H ++ [bR R]):=by
    simp only [recvCell,encO_any,List.length_map]; rfl
  simp only [recv,recvVals,recvVal,h]; rfl
theorem sums_at {pol':Pol} (hp:pol'.prim 39=some sums39) {l:List Int} {R:List (List Int)} {v1 v2:HV} {H:Heap} (h1:argI H v1 l) (h2:argR H v2 R) (hR:R.length ≤ 1000) :
    ∀ k,callN Tp pol' (k+1) 39 [v1,v2] H=some (.tuple [.sl H.length 0 (sumsT l R).1.length none (sumsT l R).1.length 1,.int .i64 (sumsT l R).2],H ++ [bR (sumsT l R).1]):=fun k=>by
  have hd:mapO decI (l.map encI)=some l:=mapO_map decI_enc l
  have hd2:mapO decR (R.map encR)=some R:=mapO_map decR_enc R
  unfold argI at h1
  unfold argR at h2
  rw [prim_call (pol:=pol') (g:=39) (F:=sums39) hp (rs:=[.imm .arg 1 (l.map encI),.imm .arg 1 (R.map encR)]) (by simp only [mapO,h1,h2]) (res:=.tuple [.own 1 ((sumsT l R).1.map encO),.int .i64 (sumsT l R).2]) (by simp only [sums39,hd,hd2]; rw [if_pos hR]),recvRs]
theorem sumsT_B {gl:List Int} (hg:(newGroupT gl).2=true) {R:List (List Int)} (h:listB gl R=true):sumsT gl R=(sumsL gl (sumS (grG gl) (els gl R)),0):=by
  have e:=elems_B hg h
  unfold sumsT
  rw [if_pos hg]
  unfold grG at e ⊢
  rw [e]
end Go.Proofs.Ytaibmipamkaljaa
end
section
open Go Go.HL
namespace Go.Proofs.Ytaibmipamkaljaa
set_option maxRecDepth 100000
open Go.Proofs.Try renaming prog → Tp
open Go.HL.HV renaming undef → Ud
noncomputable def B42:Code:=Try.f42.body.getD .skip
abbrev env42 (v0 v2 v3 v4 v5 v6 v7 v8 v17 v18 v25 v26:HV):Env:=[(0,v0),(2,v2),(3,v3),(4,v4),(5,v5),(6,v6),(7,v7),(8,v8),(17,v17),(18,v18),(25,v25),(26,v26)]
theorem fe_a_0 (l:List HV) :RT polSl 42 (sub [0] B42) [(0,.imm .arg 1 l)] [] .normal (env42 (.imm .arg 1 l) (.imm .lit 1 []) (.i 0) Ud Ud Ud Ud Ud Ud Ud Ud Ud) [] :=
  RunsTo.hin 0 60 [] fun kf hk=>⟨_,by kernel_rfl,.nil⟩
theorem fe_b_1 (l:List HV)  {y4 y5 y6 y7 y8 y17 y18 y25 y26:HV} {m0:Int} {m1:Int} {sz:Int} (g0:∀ kf,callN Tp polSl (kf+1) 55 [.imm .arg 1 l] []=some (.tuple [.agg [.i m0,.i m1,.i sz],.bool false],[])):RT polSl 42 (sub [1,0] B42) (env42 (.imm .arg 1 l) (.imm .lit 1 []) (.i 0) y4 y5 y6 y7 y8 y17 y18 y25 y26) [] .normal (env42 (.imm .arg 1 l) (.imm .lit 1 []) (.i 0) (.ptr 0 0 0 1) (.bool false) y6 y7 y8 y17 y18 y25 y26) [.arr 3 [.agg [.i m0,.i m1,.i sz]] true 0] :=
  RunsTo.hin 0 60 [⟨1,1,.tuple [.agg [.i m0,.i m1,.i sz],.bool false],[]⟩] fun kf hk=>⟨_,by kernel_rfl,(oC (g0 kf) .nil)⟩
theorem fe_cf_0 (l:List HV) (m0 m1 sz:Int) {y6 y7 y8 y17 y18 y25 y26:HV}:RT polSl 42 (sub [1,1,0] B42) (env42 (.imm .arg 1 l) (.imm .lit 1 []) (.i 0) (.ptr 0 0 0 1) (.bool false) y6 y7 y8 y17 y18 y25 y26) [.arr 3 [.agg [.i m0,.i m1,.i sz]] true 0] .ret (env42 (.imm .arg 1 l) (.imm .lit 1 []) (.i 2) (.ptr 0 0 0 1) (.bool false) y6 y7 y8 y17 y18 y25 y26) [.arr 3 [.agg [.i m0,.i m1,.i sz]] true 0] :=
  RunsTo.hin 0 60 [] fun kf hk=>⟨_,by kernel_rfl,.nil⟩
end Go.Proofs.Ytaibmipamkaljaa
end
section
open Go Go.HL
namespace Go.Proofs.Ytaibmipamkaljaa
open Go.Proofs.Try renaming prog → Tp
open Go.HL.HV renaming undef → Ud
theorem res42:Try.f42.results.toList=[.tmp 2,.tmp 3]:=by kernel_rfl
def freeL:List Int → List (List Int)
  | [m]=>List.replicate (m.toNat - 1) [1]
  | [a,b]=>List.replicate (a.toNat - 1) [1,0] ++ List.replicate (b.toNat - 1) [0,1]
  | _=>[]
def freeT (l:List Int):List (List Int) × Int:=if (newGroupT l).2=true then (freeL l,0) else ([],2)
def free42:List HV → Option HV:=liF fun l=>some (.tuple [.own 1 ((freeT l).1.map encO),.int .i64 (freeT l).2])
noncomputable def freeQ (l:List Int):Option HV:=(callN Tp polSl 5000 42 [.imm .arg 1 (l.map encI)] []).bind fun p=>toRes p.2 false p.1
abbrev FQ (l:List Int):Prop:=freeQ l=some (.tuple [.own 1 ((freeL l).map encO),.int .i64 0])
theorem fa2:freeQ [2]=some (.tuple [.own 1 ((freeL [2]).map encO),.int .i64 0]):=by kernel_rfl
theorem fb2_2:freeQ [2,2]=some (.tuple [.own 1 ((freeL [2,2]).map encO),.int .i64 0]):=by kernel_rfl
theorem fb2_4:freeQ [2,4]=some (.tuple [.own 1 ((freeL [2,4]).map encO),.int .i64 0]):=by kernel_rfl
theorem fb2_6:freeQ [2,6]=some (.tuple [.own 1 ((freeL [2,6]).map encO),.int .i64 0]):=by kernel_rfl
theorem fb2_8:freeQ [2,8]=some (.tuple [.own 1 ((freeL [2,8]).map encO),.int .i64 0]):=by kernel_rfl
theorem fb2_10:freeQ [2,10]=some (.tuple [.own 1 ((freeL [2,10]).map encO),.int .i64 0]):=by kernel_rfl
theorem fb2_12:freeQ [2,12]=some (.tuple [.own 1 ((freeL [2,12]).map encO),.int .i64 0]):=by kernel_rfl
theorem fb2_14:freeQ [2,14]=some (.tuple [.own 1 ((freeL [2,14]).map encO),.int .i64 0]):=by kernel_rfl
theorem fb2_16:freeQ [2,16]=some (.tuple [.own 1 ((freeL [2,16]).map encO),.int .i64 0]):=by kernel_rfl
theorem fb2_18:freeQ [2,18]=some (.tuple [.own 1 ((freeL [2,18]).map encO),.int .i64 0]):=by kernel_rfl
theorem fb2_20:freeQ [2,20]=some (.tuple [.own 1 ((freeL [2,20]).map encO),.int .i64 0]):=by kernel_rfl
theorem fb2_22:freeQ [2,22]=some (.tuple [.own 1 ((freeL [2,22]).map encO),.int .i64 0]):=by kernel_rfl
theorem fb2_24:freeQ [2,24]=some (.tuple [.own 1 ((freeL [2,24]).map encO),.int .i64 0]):=by kernel_rfl
theorem fa3:freeQ [3]=some (.tuple [.own 1 ((freeL [3]).map encO),.int .i64 0]):=by kernel_rfl
theorem fb3_3:freeQ [3,3]=some (.tuple [.own 1 ((freeL [3,3]).map encO),.int .i64 0]):=by kernel_rfl
theorem fb3_6:freeQ [3,6]=some (.tuple [.own 1 ((freeL [3,6]).map encO),.int .i64 0]):=by kernel_rfl
theorem fb3_9:freeQ [3,9]=some (.tuple [.own 1 ((freeL [3,9]).map encO),.int .i64 0]):=by kernel_rfl
theorem fb3_12:freeQ [3,12]=some (.tuple [.own 1 ((freeL [3,12]).map encO),.int .i64 0]):=by kernel_rfl
theorem fb3_15:freeQ [3,15]=some (.tuple [.own 1 ((freeL [3,15]).map encO),.int .i64 0]):=by kernel_rfl
theorem fb3_18:freeQ [3,18]=some (.tuple [.own 1 ((freeL [3,18]).map encO),.int .i64 0]):=by kernel_rfl
theorem fb3_21:freeQ [3,21]=some (.tuple [.own 1 ((freeL [3,21]).map encO),.int .i64 0]):=by kernel_rfl
theorem fb3_24:freeQ [3,24]=some (.tuple [.own 1 ((freeL [3,24]).map encO),.int .i64 0]):=by kernel_rfl
theorem fa4:freeQ [4]=some (.tuple [.own 1 ((freeL [4]).map encO),.int .i64 0]):=by kernel_rfl
theorem fb4_4:freeQ [4,4]=some (.tuple [.own 1 ((freeL [4,4]).map encO),.int .i64 0]):=by kernel_rfl
theorem fb4_8:freeQ [4,8]=some (.tuple [.own 1 ((freeL [4,8]).map encO),.int .i64 0]):=by kernel_rfl
theorem fb4_12:freeQ [4,12]=some (.tuple [.own 1 ((freeL [4,12]).map encO),.int .i64 0]):=by kernel_rfl
theorem fb4_16:freeQ [4,16]=some (.tuple [.own 1 ((freeL [4,16]).map encO),.int .i64 0]):=by kernel_rfl
theorem fb4_20:freeQ [4,20]=some (.tuple [.own 1 ((freeL [4,20]).map encO),.int .i64 0]):=by kernel_rfl
theorem fb4_24:freeQ [4,24]=some (.tuple [.own 1 ((freeL [4,24]).map encO),.int .i64 0]):=by kernel_rfl
theorem fa5:freeQ [5]=some (.tuple [.own 1 ((freeL [5]).map encO),.int .i64 0]):=by kernel_rfl
theorem fb5_5:freeQ [5,5]=some (.tuple [.own 1 ((freeL [5,5]).map encO),.int .i64 0]):=by kernel_rfl
theorem fb5_10:freeQ [5,10]=some (.tuple [.own 1 ((freeL [5,10]).map encO),.int .i64 0]):=by kernel_rfl
theorem fb5_15:freeQ [5,15]=some (.tuple [.own 1 ((freeL [5,15]).map encO),.int .i64 0]):=by kernel_rfl
theorem fb5_20:freeQ [5,20]=some (.tuple [.own 1 ((freeL [5,20]).map encO),.int .i64 0]):=by kernel_rfl
theorem fa6:freeQ [6]=some (.tuple [.own 1 ((freeL [6]).map encO),.int .i64 0]):=by kernel_rfl
theorem fb6_6:freeQ [6,6]=some (.tuple [.own 1 ((freeL [6,6]).map encO),.int .i64 0]):=by kernel_rfl
theorem fb6_12:freeQ [6,12]=some (.tuple [.own 1 ((freeL [6,12]).map encO),.int .i64 0]):=by kernel_rfl
theorem fb6_18:freeQ [6,18]=some (.tuple [.own 1 ((freeL [6,18]).map encO),.int .i64 0]):=by kernel_rfl
theorem fb6_24:freeQ [6,24]=some (.tuple [.own 1 ((freeL [6,24]).map encO),.int .i64 0]):=by kernel_rfl
theorem fa7:freeQ [7]=some (.tuple [.own 1 ((freeL [7]).map encO),.int .i64 0]):=by kernel_rfl
theorem fb7_7:freeQ [7,7]=some (.tuple [.own 1 ((freeL [7,7]).map encO),.int .i64 0]):=by kernel_rfl
theorem fb7_14:freeQ [7,14]=some (.tuple [.own 1 ((freeL [7,14]).map encO),.int .i64 0]):=by kernel_rfl
theorem fa8:freeQ [8]=some (.tuple [.own 1 ((freeL [8]).map encO),.int .i64 0]):=by kernel_rfl
theorem fb8_8:freeQ [8,8]=some (.tuple [.own 1 ((freeL [8,8]).map encO),.int .i64 0]):=by kernel_rfl
theorem fb8_16:freeQ [8,16]=some (.tuple [.own 1 ((freeL [8,16]).map encO),.int .i64 0]):=by kernel_rfl
theorem fa9:freeQ [9]=some (.tuple [.own 1 ((freeL [9]).map encO),.int .i64 0]):=by kernel_rfl
theorem fb9_9:freeQ [9,9]=some (.tuple [.own 1 ((freeL [9,9]).map encO),.int .i64 0]):=by kernel_rfl
theorem fa10:freeQ [10]=some (.tuple [.own 1 ((freeL [10]).map encO),.int .i64 0]):=by kernel_rfl
theorem fb10_10:freeQ [10,10]=some (.tuple [.own 1 ((freeL [10,10]).map encO),.int .i64 0]):=by kernel_rfl
theorem fa11:freeQ [11]=some (.tuple [.own 1 ((freeL [11]).map encO),.int .i64 0]):=by kernel_rfl
theorem fb11_11:freeQ [11,11]=some (.tuple [.own 1 ((freeL [11,11]).map encO),.int .i64 0]):=by kernel_rfl
theorem fa12:freeQ [12]=some (.tuple [.own 1 ((freeL [12]).map encO),.int .i64 0]):=by kernel_rfl
theorem fb12_12:freeQ [12,12]=some (.tuple [.own 1 ((freeL [12,12]).map encO),.int .i64 0]):=by kernel_rfl
theorem fa13:freeQ [13]=some (.tuple [.own 1 ((freeL [13]).map encO),.int .i64 0]):=by kernel_rfl
theorem fa14:freeQ [14]=some (.tuple [.own 1 ((freeL [14]).map encO),.int .i64 0]):=by kernel_rfl
theorem fa15:freeQ [15]=some (.tuple [.own 1 ((freeL [15]).map encO),.int .i64 0]):=by kernel_rfl
theorem fa16:freeQ [16]=some (.tuple [.own 1 ((freeL [16]).map encO),.int .i64 0]):=by kernel_rfl
theorem fa17:freeQ [17]=some (.tuple [.own 1 ((freeL [17]).map encO),.int .i64 0]):=by kernel_rfl
theorem fa18:freeQ [18]=some (.tuple [.own 1 ((freeL [18]).map encO),.int .i64 0]):=by kernel_rfl
theorem fa19:freeQ [19]=some (.tuple [.own 1 ((freeL [19]).map encO),.int .i64 0]):=by kernel_rfl
theorem fa20:freeQ [20]=some (.tuple [.own 1 ((freeL [20]).map encO),.int .i64 0]):=by kernel_rfl
theorem fa21:freeQ [21]=some (.tuple [.own 1 ((freeL [21]).map encO),.int .i64 0]):=by kernel_rfl
theorem fa22:freeQ [22]=some (.tuple [.own 1 ((freeL [22]).map encO),.int .i64 0]):=by kernel_rfl
theorem fa23:freeQ [23]=some (.tuple [.own 1 ((freeL [23]).map encO),.int .i64 0]):=by kernel_rfl
theorem fa24:freeQ [24]=some (.tuple [.own 1 ((freeL [24]).map encO),.int .i64 0]):=by kernel_rfl
theorem fq1 {a:Int} (h1:2 ≤ a) (h2:a ≤ 24):freeQ [a]=some (.tuple [.own 1 ((freeL [a]).map encO),.int .i64 0]):=by
  have:a=2 ∨ a=3 ∨ a=4 ∨ a=5 ∨ a=6 ∨ a=7 ∨ a=8 ∨ a=9 ∨ a=10 ∨ a=11 ∨ a=12 ∨ a=13 ∨ a=14 ∨ a=15 ∨ a=16 ∨ a=17 ∨ a=18 ∨ a=19 ∨ a=20 ∨ a=21 ∨ a=22 ∨ a=23 ∨ a=24:=by omega
  rcases this with rfl | rfl | rfl | rfl | rfl | rfl | rfl | rfl | rfl | rfl | rfl | rfl | rfl | rfl | rfl | rfl | rfl | rfl | rfl | rfl | rfl | rfl | rfl
  · exact fa2
  · exact fa3
  · exact fa4
  · exact fa5
  · exact fa6
  · exact fa7
  · exact fa8
  · exact fa9
  · exact fa10
  · exact fa11
  · exact fa12
  · exact fa13
  · exact fa14
  · exact fa15
  · exact fa16
  · exact fa17
  · exact fa18
  · exact fa19
  · exact fa20
  · exact fa21
  · exact fa22
  · exact fa23
  · exact fa24
theorem fq2 {a b:Int} (h1:2 ≤ a) (h2:a ≤ 24) (h3:2 ≤ b) (h4:b ≤ 24) (h5:a * b ≤ 144) (h6:b % a=0):freeQ [a,b]=some (.tuple [.own 1 ((freeL [a,b]).map encO),.int .i64 0]):=by
  have:a=2 ∨ a=3 ∨ a=4 ∨ a=5 ∨ a=6 ∨ a=7 ∨ a=8 ∨ a=9 ∨ a=10 ∨ a=11 ∨ a=12 ∨ a=13 ∨ a=14 ∨ a=15 ∨ a=16 ∨ a=17 ∨ a=18 ∨ a=19 ∨ a=20 ∨ a=21 ∨ a=22 ∨ a=23 ∨ a=24:=by omega
  rcases this with rfl | rfl | rfl | rfl | rfl | rfl | rfl | rfl | rfl | rfl | rfl | rfl | rfl | rfl | rfl | rfl | rfl | rfl | rfl | rfl | rfl | rfl | rfl
  · have:b=2 ∨ b=4 ∨ b=6 ∨ b=8 ∨ b=10 ∨ b=12 ∨ b=14 ∨ b=16 ∨ b=18 ∨ b=20 ∨ b=22 ∨ b=24:=by omega
    rcases this with rfl | rfl | rfl | rfl | rfl | rfl | rfl | rfl | rfl | rfl | rfl | rfl
    · exact fb2_2
    · exact fb2_4
    · exact fb2_6
    · exact fb2_8
    · exact fb2_10
    · exact fb2_12
    · exact fb2_14
    · exact fb2_16
    · exact fb2_18
    · exact fb2_20
    · exact fb2_22
    · exact fb2_24
  · have:b=3 ∨ b=6 ∨ b=9 ∨ b=12 ∨ b=15 ∨ b=18 ∨ b=21 ∨ b=24:=by omega
    rcases this with rfl | rfl | rfl | rfl | rfl | rfl | rfl | rfl
    · exact fb3_3
    · exact fb3_6
    · exact fb3_9
    · exact fb3_12
    · exact fb3_15
    · exact fb3_18
    · exact fb3_21
    · exact fb3_24
  · have:b=4 ∨ b=8 ∨ b=12 ∨ b=16 ∨ b=20 ∨ b=24:=by omega
    rcases this with rfl | rfl | rfl | rfl | rfl | rfl
    · exact fb4_4
    · exact fb4_8
    · exact fb4_12
    · exact fb4_16
    · exact fb4_20
    · exact fb4_24
  · have:b=5 ∨ b=10 ∨ b=15 ∨ b=20:=by omega
    rcases this with rfl | rfl | rfl | rfl
    · exact fb5_5
    · exact fb5_10
    · exact fb5_15
    · exact fb5_20
  · have:b=6 ∨ b=12 ∨ b=18 ∨ b=24:=by omega
    rcases this with rfl | rfl | rfl | rfl
    · exact fb6_6
    · exact fb6_12
    · exact fb6_18
    · exact fb6_24
  · have:b=7 ∨ b=14:=by omega
    rcases this with rfl | rfl
    · exact fb7_7
    · exact fb7_14
  · have:b=8 ∨ b=16:=by omega
    rcases this with rfl | rfl
    · exact fb8_8
    · exact fb8_16
  · have:b=9:=by omega
    subst this; exact fb9_9
  · have:b=10:=by omega
    subst this; exact fb10_10
  · have:b=11:=by omega
    subst this; exact fb11_11
  · have:b=12:=by omega
    subst this; exact fb12_12
  · omega
  · omega
  · omega
  · omega
  · omega
  · omega
  · omega
  · omega
  · omega
  · omega
  · omega
  · omega
theorem free_ok:PrimOk Tp 42 free42:=by
  have h2:PrimOk Tp 42 (liF fun l=>if (newGroupT l).2=true then some (.tuple [.own 1 ((freeL l).map encO),.int .i64 0]) else none):=by
    refine primOk_of (pol:=polSl) soundSl (by kernel_rfl) ?_
    intro args res h
    obtain ⟨l,rfl,hq⟩:=liF_inv h
    clear h
    split at hq
    case isFalse=>cases hq
    rename_i hg
    cases hq
    have fq:FQ l:=by
      rcases grp_cases hg with ⟨a,rfl,h1,h2⟩ | ⟨a,b,rfl,h1,h2,h3,h4,h5,h6⟩
      · exact fq1 h1 h2
      · exact fq2 h1 h2 h3 h4 h5 h6
    unfold FQ freeQ at fq
    cases hc:callN Tp polSl 5000 42 [.imm .arg 1 (l.map encI)] [] with
    | none=>rw [hc] at fq; cases fq
    | some p=>rw [hc] at fq; exact ⟨5000,p.1,p.2,false,hc,fq⟩
  have h1:PrimOk Tp 42 (liF fun l=>if (newGroupT l).2=true then none else some (.tuple [.own 1 [],.int .i64 2])):=by
    refine primOk_trip (fn:=Try.f42) (cd:=B42) (deep:=false) (by kernel_rfl) (by kernel_rfl) ?_
    intro args res h
    obtain ⟨l,rfl,hq⟩:=liF_inv h
    clear h
    split at hq
    case isTrue=>cases hq
    rename_i hg
    cases hq
    have h5:=newGroup_at (pol':=polSl) (by kernel_rfl) l []
    rw [nb_false hg] at h5
    have a:=fe_a_0 (l.map encI)
    have b:=fe_b_1 (l.map encI) (y4:=Ud) (y5:=Ud) (y6:=Ud) (y7:=Ud) (y8:=Ud) (y17:=Ud) (y18:=Ud) (y25:=Ud) (y26:=Ud) h5
    have s:=fe_cf_0 (l.map encI) (newGroupT l).1.1 (newGroupT l).1.2.1 (newGroupT l).1.2.2 (y6:=Ud) (y7:=Ud) (y8:=Ud) (y17:=Ud) (y18:=Ud) (y25:=Ud) (y26:=Ud)
    have u:=sq (a) (sq (b) (sqo (s) (c:=sub [1,1] B42) (b:=sub [1,1,1] B42)) (c:=sub [1] B42)) (c:=B42)
    refine (Trip.run follows_mixed soundSl (by kernel_rfl) u).mono ?_
    rintro X e H ⟨rfl,rfl,rfl⟩
    exact ⟨by simp,.tuple [.imm .lit 1 [],.int .i64 2],by simp only [resultsV,res42]; rfl,rfl⟩
  intro args res h
  obtain ⟨l,rfl,hq⟩:=liF_inv h
  have hd:mapO decI (l.map encI)=some l:=mapO_map decI_enc l
  cases c:(newGroupT l).2 with
  | true =>
    refine h2 _ _ ?_
    simp only [liF,hd,c,if_true]
    rw [← hq,freeT,c]; rfl
  | false =>
    refine h1 _ _ ?_
    simp only [liF,hd,c]
    rw [← hq,freeT,c]; rfl
end Go.Proofs.Ytaibmipamkaljaa
end
section
open Go Go.HL
namespace Go.Proofs.Ytaibmipamkaljaa
open Go.Proofs.Try renaming prog → Tp
open Go.HL.HV renaming undef → Ud
def prL12:FuncId → Option (List HV → Option HV):=fun g=>if g == 23 then some group23 else if g == 24 then some elements24 else if g == 26 then some zero26 else if g == 39 then some sums39 else if g == 42 then some free42 else if g == 33 then some table33 else if g == 36 then some list36 else if g == 16 then some awakeF else none
def polL12:Pol:={ pol with prim:=prL12 }
theorem soundL12 (n:Nat):CallSound Tp (callN Tp polL12 n):=sound_prim prL12 (fun g f h=>by
  unfold prL12 at h
  split at h
  · rename_i hg; cases h; rw [eq_of_beq hg]; exact group_ok
  split at h
  · rename_i hg; cases h; rw [eq_of_beq hg]; exact elements24_ok
  split at h
  · rename_i hg; cases h; rw [eq_of_beq hg]; exact zero_ok
  split at h
  · rename_i hg; cases h; rw [eq_of_beq hg]; exact sums_ok
  split at h
  · rename_i hg; cases h; rw [eq_of_beq hg]; exact free_ok
  split at h
  · rename_i hg; cases h; rw [eq_of_beq hg]; exact table_ok
  split at h
  · rename_i hg; cases h; rw [eq_of_beq hg]; exact list36_ok
  split at h
  · rename_i hg; cases h; rw [eq_of_beq hg]; exact awake_prim
  · cases h) n
end Go.Proofs.Ytaibmipamkaljaa
end
section
open Go Go.HL
namespace Go.Proofs.Ytaibmipamkaljaa
set_option maxRecDepth 100000
set_option maxHeartbeats 2000000
open Go.Proofs.Try renaming prog → Tp
open Go.HL.HV renaming undef → Ud
noncomputable def B12:Code:=Try.f12.body.getD .skip
abbrev env12 (v0 v1 v2 v6 v7 v8 v10 v11 v12 v14 v15 v16 v17 v19 v21:HV):Env:=[(0,v0),(1,v1),(2,v2),(6,v6),(7,v7),(8,v8),(10,v10),(11,v11),(12,v12),(14,v14),(15,v15),(16,v16),(17,v17),(19,v19),(21,v21)]
theorem sf_1 (l0 rw l2 xl:List HV) (p0:Nat) (h0:List HV) (p1:Nat) (h1:List HV) (p2:Nat) (h2:List HV) (p3:Nat) (h3:List HV) (p4:Nat) (h4:List HV) (p5:Nat) (h5:List HV) (p6:Nat) (h6:List HV) (p7:Nat) (h7:List HV) (p8:Nat) (h8:List HV) (p9:Nat) (h9:List HV) (p10:Nat) (h10:List HV) (p11:Nat) (h11:List HV) (p12:Nat) (h12:List HV) (p13:Nat) (h13:List HV)(g0:∀ kf,callN Tp polL12 (kf+1) 23 [.imm .arg 1 l0] []=some (.sl 0 0 p0 none p0 1,[.arr 1 h0 true 0])) (g1:∀ kf,callN Tp polL12 (kf+1) 24 [.sl 0 0 p0 none p0 1,.imm .arg 1 rw,.i 20] [.arr 1 h0 true 0]=some (.sl 1 0 p1 none p1 1,[.arr 1 h0 true 0,.arr 1 h1 true 0])) (g2:∀ kf,callN Tp polL12 (kf+1) 26 [.sl 0 0 p0 none p0 1,.sl 1 0 p1 none p1 1] [.arr 1 h0 true 0,.arr 1 h1 true 0]=some (.tuple [.sl 2 0 p2 none p2 1,.i 6],[.arr 1 h0 true 0,.arr 1 h1 true 0,.arr 1 h2 true 0])) (g3:∀ kf,callN Tp polL12 (kf+1) 39 [.sl 0 0 p0 none p0 1,.sl 1 0 p1 none p1 1] [.arr 1 h0 true 0,.arr 1 h1 true 0,.arr 1 h2 true 0]=some (.tuple [.sl 3 0 p3 none p3 1,.i 0],[.arr 1 h0 true 0,.arr 1 h1 true 0,.arr 1 h2 true 0,.arr 1 h3 true 0])) (g4:¬ ((p3:Int) < (p1:Int))) (g5:0 < (p1:Int)) (g6:sliceV Tp 35 (.sl 1 0 p1 none p1 1) (some (.i 1)) none none=some (.sl 1 1 (p1 - 1) none p1 1)) (g7:∀ kf,callN Tp polL12 (kf+1) 26 [.sl 0 0 p0 none p0 1,.sl 1 1 (p1 - 1) none p1 1] [.arr 1 h0 true 0,.arr 1 h1 true 0,.arr 1 h2 true 0,.arr 1 h3 true 0]=some (.tuple [.sl 4 0 p4 none p4 1,.i 6],[.arr 1 h0 true 0,.arr 1 h1 true 0,.arr 1 h2 true 0,.arr 1 h3 true 0,.arr 1 h4 true 0])) (g8:∀ kf,callN Tp polL12 (kf+1) 42 [.sl 0 0 p0 none p0 1] [.arr 1 h0 true 0,.arr 1 h1 true 0,.arr 1 h2 true 0,.arr 1 h3 true 0,.arr 1 h4 true 0]=some (.tuple [.sl 5 0 p5 none p5 1,.i 0],[.arr 1 h0 true 0,.arr 1 h1 true 0,.arr 1 h2 true 0,.arr 1 h3 true 0,.arr 1 h4 true 0,.arr 1 h5 true 0])) (g9:∀ kf,callN Tp polL12 (kf+1) 36 [.sl 0 0 p0 none p0 1,.sl 5 0 p5 none p5 1] [.arr 1 h0 true 0,.arr 1 h1 true 0,.arr 1 h2 true 0,.arr 1 h3 true 0,.arr 1 h4 true 0,.arr 1 h5 true 0]=some (.bool true,[.arr 1 h0 true 0,.arr 1 h1 true 0,.arr 1 h2 true 0,.arr 1 h3 true 0,.arr 1 h4 true 0,.arr 1 h5 true 0])) (g10:∀ kf,callN Tp polL12 (kf+1) 24 [.sl 0 0 p0 none p0 1,.imm .lit 1 [.imm .arg 1 l2],.i 1] [.arr 1 h0 true 0,.arr 1 h1 true 0,.arr 1 h2 true 0,.arr 1 h3 true 0,.arr 1 h4 true 0,.arr 1 h5 true 0]=some (.sl 6 0 1 none 1 1,[.arr 1 h0 true 0,.arr 1 h1 true 0,.arr 1 h2 true 0,.arr 1 h3 true 0,.arr 1 h4 true 0,.arr 1 h5 true 0,.arr 1 [.imm .own 1 xl] true 0])) (g11:∀ kf,callN Tp polL12 (kf+1) 26 [.sl 0 0 p0 none p0 1,.sl 5 0 p5 none p5 1] [.arr 1 h0 true 0,.arr 1 h1 true 0,.arr 1 h2 true 0,.arr 1 h3 true 0,.arr 1 h4 true 0,.arr 1 h5 true 0,.arr 1 [.imm .own 1 xl] true 0]=some (.tuple [.sl 7 0 p7 none p7 1,.i 6],[.arr 1 h0 true 0,.arr 1 h1 true 0,.arr 1 h2 true 0,.arr 1 h3 true 0,.arr 1 h4 true 0,.arr 1 h5 true 0,.arr 1 [.imm .own 1 xl] true 0,.arr 1 h7 true 0])) (g12:∀ kf,callN Tp polL12 (kf+1) 33 [.sl 5 0 p5 none p5 1] [.arr 1 h0 true 0,.arr 1 h1 true 0,.arr 1 h2 true 0,.arr 1 h3 true 0,.arr 1 h4 true 0,.arr 1 h5 true 0,.arr 1 [.imm .own 1 xl] true 0,.arr 1 h7 true 0]=some (.sl 8 0 p8 none p8 1,[.arr 1 h0 true 0,.arr 1 h1 true 0,.arr 1 h2 true 0,.arr 1 h3 true 0,.arr 1 h4 true 0,.arr 1 h5 true 0,.arr 1 [.imm .own 1 xl] true 0,.arr 1 h7 true 0,.arr 1 h8 true 0])) (g13:appV [.arr 1 h0 true 0,.arr 1 h1 true 0,.arr 1 h2 true 0,.arr 1 h3 true 0,.arr 1 h4 true 0,.arr 1 h5 true 0,.arr 1 [.imm .own 1 xl] true 0,.arr 1 h7 true 0,.arr 1 h8 true 0] 1 24 (.sl 8 0 p8 none p8 1) [.imm .own 1 xl]=some (.sl 8 0 (p8+1) none (p8+1) 1,[.arr 1 h0 true 0,.arr 1 h1 true 0,.arr 1 h2 true 0,.arr 1 h3 true 0,.arr 1 h4 true 0,.arr 1 h5 true 0,.arr 1 [.imm .own 1 xl] true 0,.arr 1 h7 true 0,.arr 1 (h8 ++ [.imm .own 1 xl]) true 0])) (g14:∀ kf,callN Tp polL12 (kf+1) 26 [.sl 0 0 p0 none p0 1,.sl 8 0 (p8+1) none (p8+1) 1] [.arr 1 h0 true 0,.arr 1 h1 true 0,.arr 1 h2 true 0,.arr 1 h3 true 0,.arr 1 h4 true 0,.arr 1 h5 true 0,.arr 1 [.imm .own 1 xl] true 0,.arr 1 h7 true 0,.arr 1 (h8 ++ [.imm .own 1 xl]) true 0]=some (.tuple [.sl 9 0 p9 none p9 1,.i 0],[.arr 1 h0 true 0,.arr 1 h1 true 0,.arr 1 h2 true 0,.arr 1 h3 true 0,.arr 1 h4 true 0,.arr 1 h5 true 0,.arr 1 [.imm .own 1 xl] true 0,.arr 1 h7 true 0,.arr 1 (h8 ++ [.imm .own 1 xl]) true 0,.arr 1 h9 true 0])) (g15:∀ kf,callN Tp polL12 (kf+1) 16 [] [.arr 1 h0 true 0,.arr 1 h1 true 0,.arr 1 h2 true 0,.arr 1 h3 true 0,.arr 1 h4 true 0,.arr 1 h5 true 0,.arr 1 [.imm .own 1 xl] true 0,.arr 1 h7 true 0,.arr 1 (h8 ++ [.imm .own 1 xl]) true 0,.arr 1 h9 true 0]=some (.bool true,[.arr 1 h0 true 0,.arr 1 h1 true 0,.arr 1 h2 true 0,.arr 1 h3 true 0,.arr 1 h4 true 0,.arr 1 h5 true 0,.arr 1 [.imm .own 1 xl] true 0,.arr 1 h7 true 0,.arr 1 (h8 ++ [.imm .own 1 xl]) true 0,.arr 1 h9 true 0])):RT polL12 12 (sub [] B12) [(0,.imm .arg 1 l0),(1,.imm .arg 1 rw),(2,.imm .arg 1 l2)] [] .ret (env12 (.imm .arg 1 l0) (.imm .arg 1 rw) (.imm .arg 1 l2) (.bool true) (.sl 0 0 p0 none p0 1) (.sl 1 0 p1 none p1 1) (.i 6) (.sl 3 0 p3 none p3 1) (.i 0) (.i 6) (.sl 5 0 p5 none p5 1) (.i 0) (.sl 6 0 1 none 1 1) (.i 6) (.i 0)) [.arr 1 h0 true 0,.arr 1 h1 true 0,.arr 1 h2 true 0,.arr 1 h3 true 0,.arr 1 h4 true 0,.arr 1 h5 true 0,.arr 1 [.imm .own 1 xl] true 0,.arr 1 h7 true 0,.arr 1 (h8 ++ [.imm .own 1 xl]) true 0,.arr 1 h9 true 0] :=
  RunsTo.hin 0 60 [⟨1,1,.sl 0 0 p0 none p0 1,[.arr 1 h0 true 0]⟩,⟨2,2,.sl 1 0 p1 none p1 1,[.arr 1 h0 true 0,.arr 1 h1 true 0]⟩,⟨3,2,.tuple [.sl 2 0 p2 none p2 1,.i 6],[.arr 1 h0 true 0,.arr 1 h1 true 0,.arr 1 h2 true 0]⟩,⟨4,2,.tuple [.sl 3 0 p3 none p3 1,.i 0],[.arr 1 h0 true 0,.arr 1 h1 true 0,.arr 1 h2 true 0,.arr 1 h3 true 0]⟩,⟨5,10,.bool false,[.arr 1 h0 true 0,.arr 1 h1 true 0,.arr 1 h2 true 0,.arr 1 h3 true 0]⟩,⟨7,2,.bool true,[.arr 1 h0 true 0,.arr 1 h1 true 0,.arr 1 h2 true 0,.arr 1 h3 true 0]⟩,⟨8,2,.sl 1 1 (p1 - 1) none p1 1,[.arr 1 h0 true 0,.arr 1 h1 true 0,.arr 1 h2 true 0,.arr 1 h3 true 0]⟩,⟨8,3,.tuple [.sl 4 0 p4 none p4 1,.i 6],[.arr 1 h0 true 0,.arr 1 h1 true 0,.arr 1 h2 true 0,.arr 1 h3 true 0,.arr 1 h4 true 0]⟩,⟨11,1,.tuple [.sl 5 0 p5 none p5 1,.i 0],[.arr 1 h0 true 0,.arr 1 h1 true 0,.arr 1 h2 true 0,.arr 1 h3 true 0,.arr 1 h4 true 0,.arr 1 h5 true 0]⟩,⟨12,5,.bool true,[.arr 1 h0 true 0,.arr 1 h1 true 0,.arr 1 h2 true 0,.arr 1 h3 true 0,.arr 1 h4 true 0,.arr 1 h5 true 0]⟩,⟨14,3,.sl 6 0 1 none 1 1,[.arr 1 h0 true 0,.arr 1 h1 true 0,.arr 1 h2 true 0,.arr 1 h3 true 0,.arr 1 h4 true 0,.arr 1 h5 true 0,.arr 1 [.imm .own 1 xl] true 0]⟩,⟨15,2,.tuple [.sl 7 0 p7 none p7 1,.i 6],[.arr 1 h0 true 0,.arr 1 h1 true 0,.arr 1 h2 true 0,.arr 1 h3 true 0,.arr 1 h4 true 0,.arr 1 h5 true 0,.arr 1 [.imm .own 1 xl] true 0,.arr 1 h7 true 0]⟩,⟨16,2,.sl 8 0 p8 none p8 1,[.arr 1 h0 true 0,.arr 1 h1 true 0,.arr 1 h2 true 0,.arr 1 h3 true 0,.arr 1 h4 true 0,.arr 1 h5 true 0,.arr 1 [.imm .own 1 xl] true 0,.arr 1 h7 true 0,.arr 1 h8 true 0]⟩,⟨16,4,.sl 8 0 (p8+1) none (p8+1) 1,[.arr 1 h0 true 0,.arr 1 h1 true 0,.arr 1 h2 true 0,.arr 1 h3 true 0,.arr 1 h4 true 0,.arr 1 h5 true 0,.arr 1 [.imm .own 1 xl] true 0,.arr 1 h7 true 0,.arr 1 (h8 ++ [.imm .own 1 xl]) true 0]⟩,⟨16,5,.tuple [.sl 9 0 p9 none p9 1,.i 0],[.arr 1 h0 true 0,.arr 1 h1 true 0,.arr 1 h2 true 0,.arr 1 h3 true 0,.arr 1 h4 true 0,.arr 1 h5 true 0,.arr 1 [.imm .own 1 xl] true 0,.arr 1 h7 true 0,.arr 1 (h8 ++ [.imm .own 1 xl]) true 0,.arr 1 h9 true 0]⟩,⟨17,7,.bool true,[.arr 1 h0 true 0,.arr 1 h1 true 0,.arr 1 h2 true 0,.arr 1 h3 true 0,.arr 1 h4 true 0,.arr 1 h5 true 0,.arr 1 [.imm .own 1 xl] true 0,.arr 1 h7 true 0,.arr 1 (h8 ++ [.imm .own 1 xl]) true 0,.arr 1 h9 true 0]⟩] fun kf hk=>⟨_,by kernel_rfl,(oC (g0 kf) (oC (g1 kf) (oC (g2 kf) (oC (g3 kf) (oB [.arr 1 h0 true 0,.arr 1 h1 true 0,.arr 1 h2 true 0,.arr 1 h3 true 0] (decide_eq_false g4) (oB [.arr 1 h0 true 0,.arr 1 h1 true 0,.arr 1 h2 true 0,.arr 1 h3 true 0] (decide_eq_true g5) (oP [.arr 1 h0 true 0,.arr 1 h1 true 0,.arr 1 h2 true 0,.arr 1 h3 true 0] g6 (oC (g7 kf) (oC (g8 kf) (oC (g9 kf) (oC (g10 kf) (oC (g11 kf) (oC (g12 kf) (oC (g13) (oC (g14 kf) (oC (g15 kf) .nil))))))))))))))))⟩
theorem sf_2 (l0 rw l2 xl:List HV) (p0:Nat) (h0:List HV) (p1:Nat) (h1:List HV) (p2:Nat) (h2:List HV) (p3:Nat) (h3:List HV) (p4:Nat) (h4:List HV) (p5:Nat) (h5:List HV) (p6:Nat) (h6:List HV) (p7:Nat) (h7:List HV) (p8:Nat) (h8:List HV) (p9:Nat) (h9:List HV) (p10:Nat) (h10:List HV) (p11:Nat) (h11:List HV) (p12:Nat) (h12:List HV) (p13:Nat) (h13:List HV)(g0:∀ kf,callN Tp polL12 (kf+1) 23 [.imm .arg 1 l0] []=some (.sl 0 0 p0 none p0 1,[.arr 1 h0 true 0])) (g1:∀ kf,callN Tp polL12 (kf+1) 24 [.sl 0 0 p0 none p0 1,.imm .arg 1 rw,.i 20] [.arr 1 h0 true 0]=some (.sl 1 0 p1 none p1 1,[.arr 1 h0 true 0,.arr 1 h1 true 0])) (g2:∀ kf,callN Tp polL12 (kf+1) 26 [.sl 0 0 p0 none p0 1,.sl 1 0 p1 none p1 1] [.arr 1 h0 true 0,.arr 1 h1 true 0]=some (.tuple [.sl 2 0 p2 none p2 1,.i 6],[.arr 1 h0 true 0,.arr 1 h1 true 0,.arr 1 h2 true 0])) (g3:∀ kf,callN Tp polL12 (kf+1) 39 [.sl 0 0 p0 none p0 1,.sl 1 0 p1 none p1 1] [.arr 1 h0 true 0,.arr 1 h1 true 0,.arr 1 h2 true 0]=some (.tuple [.sl 3 0 p3 none p3 1,.i 0],[.arr 1 h0 true 0,.arr 1 h1 true 0,.arr 1 h2 true 0,.arr 1 h3 true 0])) (g4:¬ ((p3:Int) < (p1:Int))) (g5:¬ (0 < (p1:Int))) (g6:∀ kf,callN Tp polL12 (kf+1) 42 [.sl 0 0 p0 none p0 1] [.arr 1 h0 true 0,.arr 1 h1 true 0,.arr 1 h2 true 0,.arr 1 h3 true 0]=some (.tuple [.sl 4 0 p4 none p4 1,.i 0],[.arr 1 h0 true 0,.arr 1 h1 true 0,.arr 1 h2 true 0,.arr 1 h3 true 0,.arr 1 h4 true 0])) (g7:∀ kf,callN Tp polL12 (kf+1) 36 [.sl 0 0 p0 none p0 1,.sl 4 0 p4 none p4 1] [.arr 1 h0 true 0,.arr 1 h1 true 0,.arr 1 h2 true 0,.arr 1 h3 true 0,.arr 1 h4 true 0]=some (.bool true,[.arr 1 h0 true 0,.arr 1 h1 true 0,.arr 1 h2 true 0,.arr 1 h3 true 0,.arr 1 h4 true 0])) (g8:∀ kf,callN Tp polL12 (kf+1) 24 [.sl 0 0 p0 none p0 1,.imm .lit 1 [.imm .arg 1 l2],.i 1] [.arr 1 h0 true 0,.arr 1 h1 true 0,.arr 1 h2 true 0,.arr 1 h3 true 0,.arr 1 h4 true 0]=some (.sl 5 0 1 none 1 1,[.arr 1 h0 true 0,.arr 1 h1 true 0,.arr 1 h2 true 0,.arr 1 h3 true 0,.arr 1 h4 true 0,.arr 1 [.imm .own 1 xl] true 0])) (g9:∀ kf,callN Tp polL12 (kf+1) 26 [.sl 0 0 p0 none p0 1,.sl 4 0 p4 none p4 1] [.arr 1 h0 true 0,.arr 1 h1 true 0,.arr 1 h2 true 0,.arr 1 h3 true 0,.arr 1 h4 true 0,.arr 1 [.imm .own 1 xl] true 0]=some (.tuple [.sl 6 0 p6 none p6 1,.i 6],[.arr 1 h0 true 0,.arr 1 h1 true 0,.arr 1 h2 true 0,.arr 1 h3 true 0,.arr 1 h4 true 0,.arr 1 [.imm .own 1 xl] true 0,.arr 1 h6 true 0])) (g10:∀ kf,callN Tp polL12 (kf+1) 33 [.sl 4 0 p4 none p4 1] [.arr 1 h0 true 0,.arr 1 h1 true 0,.arr 1 h2 true 0,.arr 1 h3 true 0,.arr 1 h4 true 0,.arr 1 [.imm .own 1 xl] true 0,.arr 1 h6 true 0]=some (.sl 7 0 p7 none p7 1,[.arr 1 h0 true 0,.arr 1 h1 true 0,.arr 1 h2 true 0,.arr 1 h3 true 0,.arr 1 h4 true 0,.arr 1 [.imm .own 1 xl] true 0,.arr 1 h6 true 0,.arr 1 h7 true 0])) (g11:appV [.arr 1 h0 true 0,.arr 1 h1 true 0,.arr 1 h2 true 0,.arr 1 h3 true 0,.arr 1 h4 true 0,.arr 1 [.imm .own 1 xl] true 0,.arr 1 h6 true 0,.arr 1 h7 true 0] 1 24 (.sl 7 0 p7 none p7 1) [.imm .own 1 xl]=some (.sl 7 0 (p7+1) none (p7+1) 1,[.arr 1 h0 true 0,.arr 1 h1 true 0,.arr 1 h2 true 0,.arr 1 h3 true 0,.arr 1 h4 true 0,.arr 1 [.imm .own 1 xl] true 0,.arr 1 h6 true 0,.arr 1 (h7 ++ [.imm .own 1 xl]) true 0])) (g12:∀ kf,callN Tp polL12 (kf+1) 26 [.sl 0 0 p0 none p0 1,.sl 7 0 (p7+1) none (p7+1) 1] [.arr 1 h0 true 0,.arr 1 h1 true 0,.arr 1 h2 true 0,.arr 1 h3 true 0,.arr 1 h4 true 0,.arr 1 [.imm .own 1 xl] true 0,.arr 1 h6 true 0,.arr 1 (h7 ++ [.imm .own 1 xl]) true 0]=some (.tuple [.sl 8 0 p8 none p8 1,.i 0],[.arr 1 h0 true 0,.arr 1 h1 true 0,.arr 1 h2 true 0,.arr 1 h3 true 0,.arr 1 h4 true 0,.arr 1 [.imm .own 1 xl] true 0,.arr 1 h6 true 0,.arr 1 (h7 ++ [.imm .own 1 xl]) true 0,.arr 1 h8 true 0])) (g13:∀ kf,callN Tp polL12 (kf+1) 16 [] [.arr 1 h0 true 0,.arr 1 h1 true 0,.arr 1 h2 true 0,.arr 1 h3 true 0,.arr 1 h4 true 0,.arr 1 [.imm .own 1 xl] true 0,.arr 1 h6 true 0,.arr 1 (h7 ++ [.imm .own 1 xl]) true 0,.arr 1 h8 true 0]=some (.bool true,[.arr 1 h0 true 0,.arr 1 h1 true 0,.arr 1 h2 true 0,.arr 1 h3 true 0,.arr 1 h4 true 0,.arr 1 [.imm .own 1 xl] true 0,.arr 1 h6 true 0,.arr 1 (h7 ++ [.imm .own 1 xl]) true 0,.arr 1 h8 true 0])):RT polL12 12 (sub [] B12) [(0,.imm .arg 1 l0),(1,.imm .arg 1 rw),(2,.imm .arg 1 l2)] [] .ret (env12 (.imm .arg 1 l0) (.imm .arg 1 rw) (.imm .arg 1 l2) (.bool true) (.sl 0 0 p0 none p0 1) (.sl 1 0 p1 none p1 1) (.i 6) (.sl 3 0 p3 none p3 1) (.i 0) Ud (.sl 4 0 p4 none p4 1) (.i 0) (.sl 5 0 1 none 1 1) (.i 6) (.i 0)) [.arr 1 h0 true 0,.arr 1 h1 true 0,.arr 1 h2 true 0,.arr 1 h3 true 0,.arr 1 h4 true 0,.arr 1 [.imm .own 1 xl] true 0,.arr 1 h6 true 0,.arr 1 (h7 ++ [.imm .own 1 xl]) true 0,.arr 1 h8 true 0] :=
  RunsTo.hin 0 60 [⟨1,1,.sl 0 0 p0 none p0 1,[.arr 1 h0 true 0]⟩,⟨2,2,.sl 1 0 p1 none p1 1,[.arr 1 h0 true 0,.arr 1 h1 true 0]⟩,⟨3,2,.tuple [.sl 2 0 p2 none p2 1,.i 6],[.arr 1 h0 true 0,.arr 1 h1 true 0,.arr 1 h2 true 0]⟩,⟨4,2,.tuple [.sl 3 0 p3 none p3 1,.i 0],[.arr 1 h0 true 0,.arr 1 h1 true 0,.arr 1 h2 true 0,.arr 1 h3 true 0]⟩,⟨5,10,.bool false,[.arr 1 h0 true 0,.arr 1 h1 true 0,.arr 1 h2 true 0,.arr 1 h3 true 0]⟩,⟨7,2,.bool false,[.arr 1 h0 true 0,.arr 1 h1 true 0,.arr 1 h2 true 0,.arr 1 h3 true 0]⟩,⟨11,1,.tuple [.sl 4 0 p4 none p4 1,.i 0],[.arr 1 h0 true 0,.arr 1 h1 true 0,.arr 1 h2 true 0,.arr 1 h3 true 0,.arr 1 h4 true 0]⟩,⟨12,5,.bool true,[.arr 1 h0 true 0,.arr 1 h1 true 0,.arr 1 h2 true 0,.arr 1 h3 true 0,.arr 1 h4 true 0]⟩,⟨14,3,.sl 5 0 1 none 1 1,[.arr 1 h0 true 0,.arr 1 h1 true 0,.arr 1 h2 true 0,.arr 1 h3 true 0,.arr 1 h4 true 0,.arr 1 [.imm .own 1 xl] true 0]⟩,⟨15,2,.tuple [.sl 6 0 p6 none p6 1,.i 6],[.arr 1 h0 true 0,.arr 1 h1 true 0,.arr 1 h2 true 0,.arr 1 h3 true 0,.arr 1 h4 true 0,.arr 1 [.imm .own 1 xl] true 0,.arr 1 h6 true 0]⟩,⟨16,2,.sl 7 0 p7 none p7 1,[.arr 1 h0 true 0,.arr 1 h1 true 0,.arr 1 h2 true 0,.arr 1 h3 true 0,.arr 1 h4 true 0,.arr 1 [.imm .own 1 xl] true 0,.arr 1 h6 true 0,.arr 1 h7 true 0]⟩,⟨16,4,.sl 7 0 (p7+1) none (p7+1) 1,[.arr 1 h0 true 0,.arr 1 h1 true 0,.arr 1 h2 true 0,.arr 1 h3 true 0,.arr 1 h4 true 0,.arr 1 [.imm .own 1 xl] true 0,.arr 1 h6 true 0,.arr 1 (h7 ++ [.imm .own 1 xl]) true 0]⟩,⟨16,5,.tuple [.sl 8 0 p8 none p8 1,.i 0],[.arr 1 h0 true 0,.arr 1 h1 true 0,.arr 1 h2 true 0,.arr 1 h3 true 0,.arr 1 h4 true 0,.arr 1 [.imm .own 1 xl] true 0,.arr 1 h6 true 0,.arr 1 (h7 ++ [.imm .own 1 xl]) true 0,.arr 1 h8 true 0]⟩,⟨17,7,.bool true,[.arr 1 h0 true 0,.arr 1 h1 true 0,.arr 1 h2 true 0,.arr 1 h3 true 0,.arr 1 h4 true 0,.arr 1 [.imm .own 1 xl] true 0,.arr 1 h6 true 0,.arr 1 (h7 ++ [.imm .own 1 xl]) true 0,.arr 1 h8 true 0]⟩] fun kf hk=>⟨_,by kernel_rfl,(oC (g0 kf) (oC (g1 kf) (oC (g2 kf) (oC (g3 kf) (oB [.arr 1 h0 true 0,.arr 1 h1 true 0,.arr 1 h2 true 0,.arr 1 h3 true 0] (decide_eq_false g4) (oB [.arr 1 h0 true 0,.arr 1 h1 true 0,.arr 1 h2 true 0,.arr 1 h3 true 0] (decide_eq_false g5) (oC (g6 kf) (oC (g7 kf) (oC (g8 kf) (oC (g9 kf) (oC (g10 kf) (oC (g11) (oC (g12 kf) (oC (g13 kf) .nil))))))))))))))⟩
theorem sf_3 (l0 rw l2 xl:List HV) (p0:Nat) (h0:List HV) (p1:Nat) (h1:List HV) (p2:Nat) (h2:List HV) (p3:Nat) (h3:List HV) (p4:Nat) (h4:List HV) (p5:Nat) (h5:List HV) (p6:Nat) (h6:List HV) (p7:Nat) (h7:List HV) (p8:Nat) (h8:List HV) (p9:Nat) (h9:List HV) (p10:Nat) (h10:List HV) (p11:Nat) (h11:List HV) (p12:Nat) (h12:List HV) (p13:Nat) (h13:List HV)(g0:∀ kf,callN Tp polL12 (kf+1) 23 [.imm .arg 1 l0] []=some (.sl 0 0 p0 none p0 1,[.arr 1 h0 true 0])) (g1:∀ kf,callN Tp polL12 (kf+1) 24 [.sl 0 0 p0 none p0 1,.imm .arg 1 rw,.i 20] [.arr 1 h0 true 0]=some (.sl 1 0 p1 none p1 1,[.arr 1 h0 true 0,.arr 1 h1 true 0])) (g2:∀ kf,callN Tp polL12 (kf+1) 26 [.sl 0 0 p0 none p0 1,.sl 1 0 p1 none p1 1] [.arr 1 h0 true 0,.arr 1 h1 true 0]=some (.tuple [.sl 2 0 p2 none p2 1,.i 0],[.arr 1 h0 true 0,.arr 1 h1 true 0,.arr 1 h2 true 0])) (g3:∀ kf,callN Tp polL12 (kf+1) 39 [.sl 0 0 p0 none p0 1,.sl 1 0 p1 none p1 1] [.arr 1 h0 true 0,.arr 1 h1 true 0,.arr 1 h2 true 0]=some (.tuple [.sl 3 0 p3 none p3 1,.i 0],[.arr 1 h0 true 0,.arr 1 h1 true 0,.arr 1 h2 true 0,.arr 1 h3 true 0])) (g4:0 < (p1:Int)) (g5:∀ kf,callN Tp polL12 (kf+1) 42 [.sl 0 0 p0 none p0 1] [.arr 1 h0 true 0,.arr 1 h1 true 0,.arr 1 h2 true 0,.arr 1 h3 true 0]=some (.tuple [.sl 4 0 p4 none p4 1,.i 0],[.arr 1 h0 true 0,.arr 1 h1 true 0,.arr 1 h2 true 0,.arr 1 h3 true 0,.arr 1 h4 true 0])) (g6:∀ kf,callN Tp polL12 (kf+1) 36 [.sl 0 0 p0 none p0 1,.sl 4 0 p4 none p4 1] [.arr 1 h0 true 0,.arr 1 h1 true 0,.arr 1 h2 true 0,.arr 1 h3 true 0,.arr 1 h4 true 0]=some (.bool true,[.arr 1 h0 true 0,.arr 1 h1 true 0,.arr 1 h2 true 0,.arr 1 h3 true 0,.arr 1 h4 true 0])) (g7:∀ kf,callN Tp polL12 (kf+1) 24 [.sl 0 0 p0 none p0 1,.imm .lit 1 [.imm .arg 1 l2],.i 1] [.arr 1 h0 true 0,.arr 1 h1 true 0,.arr 1 h2 true 0,.arr 1 h3 true 0,.arr 1 h4 true 0]=some (.sl 5 0 1 none 1 1,[.arr 1 h0 true 0,.arr 1 h1 true 0,.arr 1 h2 true 0,.arr 1 h3 true 0,.arr 1 h4 true 0,.arr 1 [.imm .own 1 xl] true 0])) (g8:∀ kf,callN Tp polL12 (kf+1) 26 [.sl 0 0 p0 none p0 1,.sl 4 0 p4 none p4 1] [.arr 1 h0 true 0,.arr 1 h1 true 0,.arr 1 h2 true 0,.arr 1 h3 true 0,.arr 1 h4 true 0,.arr 1 [.imm .own 1 xl] true 0]=some (.tuple [.sl 6 0 p6 none p6 1,.i 6],[.arr 1 h0 true 0,.arr 1 h1 true 0,.arr 1 h2 true 0,.arr 1 h3 true 0,.arr 1 h4 true 0,.arr 1 [.imm .own 1 xl] true 0,.arr 1 h6 true 0])) (g9:∀ kf,callN Tp polL12 (kf+1) 33 [.sl 4 0 p4 none p4 1] [.arr 1 h0 true 0,.arr 1 h1 true 0,.arr 1 h2 true 0,.arr 1 h3 true 0,.arr 1 h4 true 0,.arr 1 [.imm .own 1 xl] true 0,.arr 1 h6 true 0]=some (.sl 7 0 p7 none p7 1,[.arr 1 h0 true 0,.arr 1 h1 true 0,.arr 1 h2 true 0,.arr 1 h3 true 0,.arr 1 h4 true 0,.arr 1 [.imm .own 1 xl] true 0,.arr 1 h6 true 0,.arr 1 h7 true 0])) (g10:appV [.arr 1 h0 true 0,.arr 1 h1 true 0,.arr 1 h2 true 0,.arr 1 h3 true 0,.arr 1 h4 true 0,.arr 1 [.imm .own 1 xl] true 0,.arr 1 h6 true 0,.arr 1 h7 true 0] 1 24 (.sl 7 0 p7 none p7 1) [.imm .own 1 xl]=some (.sl 7 0 (p7+1) none (p7+1) 1,[.arr 1 h0 true 0,.arr 1 h1 true 0,.arr 1 h2 true 0,.arr 1 h3 true 0,.arr 1 h4 true 0,.arr 1 [.imm .own 1 xl] true 0,.arr 1 h6 true 0,.arr 1 (h7 ++ [.imm .own 1 xl]) true 0])) (g11:∀ kf,callN Tp polL12 (kf+1) 26 [.sl 0 0 p0 none p0 1,.sl 7 0 (p7+1) none (p7+1) 1] [.arr 1 h0 true 0,.arr 1 h1 true 0,.arr 1 h2 true 0,.arr 1 h3 true 0,.arr 1 h4 true 0,.arr 1 [.imm .own 1 xl] true 0,.arr 1 h6 true 0,.arr 1 (h7 ++ [.imm .own 1 xl]) true 0]=some (.tuple [.sl 8 0 p8 none p8 1,.i 0],[.arr 1 h0 true 0,.arr 1 h1 true 0,.arr 1 h2 true 0,.arr 1 h3 true 0,.arr 1 h4 true 0,.arr 1 [.imm .own 1 xl] true 0,.arr 1 h6 true 0,.arr 1 (h7 ++ [.imm .own 1 xl]) true 0,.arr 1 h8 true 0])) (g12:∀ kf,callN Tp polL12 (kf+1) 16 [] [.arr 1 h0 true 0,.arr 1 h1 true 0,.arr 1 h2 true 0,.arr 1 h3 true 0,.arr 1 h4 true 0,.arr 1 [.imm .own 1 xl] true 0,.arr 1 h6 true 0,.arr 1 (h7 ++ [.imm .own 1 xl]) true 0,.arr 1 h8 true 0]=some (.bool true,[.arr 1 h0 true 0,.arr 1 h1 true 0,.arr 1 h2 true 0,.arr 1 h3 true 0,.arr 1 h4 true 0,.arr 1 [.imm .own 1 xl] true 0,.arr 1 h6 true 0,.arr 1 (h7 ++ [.imm .own 1 xl]) true 0,.arr 1 h8 true 0])):RT polL12 12 (sub [] B12) [(0,.imm .arg 1 l0),(1,.imm .arg 1 rw),(2,.imm .arg 1 l2)] [] .ret (env12 (.imm .arg 1 l0) (.imm .arg 1 rw) (.imm .arg 1 l2) (.bool true) (.sl 0 0 p0 none p0 1) (.sl 1 0 p1 none p1 1) (.i 0) (.sl 3 0 p3 none p3 1) (.i 0) Ud (.sl 4 0 p4 none p4 1) (.i 0) (.sl 5 0 1 none 1 1) (.i 6) (.i 0)) [.arr 1 h0 true 0,.arr 1 h1 true 0,.arr 1 h2 true 0,.arr 1 h3 true 0,.arr 1 h4 true 0,.arr 1 [.imm .own 1 xl] true 0,.arr 1 h6 true 0,.arr 1 (h7 ++ [.imm .own 1 xl]) true 0,.arr 1 h8 true 0] :=
  RunsTo.hin 0 60 [⟨1,1,.sl 0 0 p0 none p0 1,[.arr 1 h0 true 0]⟩,⟨2,2,.sl 1 0 p1 none p1 1,[.arr 1 h0 true 0,.arr 1 h1 true 0]⟩,⟨3,2,.tuple [.sl 2 0 p2 none p2 1,.i 0],[.arr 1 h0 true 0,.arr 1 h1 true 0,.arr 1 h2 true 0]⟩,⟨4,2,.tuple [.sl 3 0 p3 none p3 1,.i 0],[.arr 1 h0 true 0,.arr 1 h1 true 0,.arr 1 h2 true 0,.arr 1 h3 true 0]⟩,⟨7,2,.bool true,[.arr 1 h0 true 0,.arr 1 h1 true 0,.arr 1 h2 true 0,.arr 1 h3 true 0]⟩,⟨11,1,.tuple [.sl 4 0 p4 none p4 1,.i 0],[.arr 1 h0 true 0,.arr 1 h1 true 0,.arr 1 h2 true 0,.arr 1 h3 true 0,.arr 1 h4 true 0]⟩,⟨12,5,.bool true,[.arr 1 h0 true 0,.arr 1 h1 true 0,.arr 1 h2 true 0,.arr 1 h3 true 0,.arr 1 h4 true 0]⟩,⟨14,3,.sl 5 0 1 none 1 1,[.arr 1 h0 true 0,.arr 1 h1 true 0,.arr 1 h2 true 0,.arr 1 h3 true 0,.arr 1 h4 true 0,.arr 1 [.imm .own 1 xl] true 0]⟩,⟨15,2,.tuple [.sl 6 0 p6 none p6 1,.i 6],[.arr 1 h0 true 0,.arr 1 h1 true 0,.arr 1 h2 true 0,.arr 1 h3 true 0,.arr 1 h4 true 0,.arr 1 [.imm .own 1 xl] true 0,.arr 1 h6 true 0]⟩,⟨16,2,.sl 7 0 p7 none p7 1,[.arr 1 h0 true 0,.arr 1 h1 true 0,.arr 1 h2 true 0,.arr 1 h3 true 0,.arr 1 h4 true 0,.arr 1 [.imm .own 1 xl] true 0,.arr 1 h6 true 0,.arr 1 h7 true 0]⟩,⟨16,4,.sl 7 0 (p7+1) none (p7+1) 1,[.arr 1 h0 true 0,.arr 1 h1 true 0,.arr 1 h2 true 0,.arr 1 h3 true 0,.arr 1 h4 true 0,.arr 1 [.imm .own 1 xl] true 0,.arr 1 h6 true 0,.arr 1 (h7 ++ [.imm .own 1 xl]) true 0]⟩,⟨16,5,.tuple [.sl 8 0 p8 none p8 1,.i 0],[.arr 1 h0 true 0,.arr 1 h1 true 0,.arr 1 h2 true 0,.arr 1 h3 true 0,.arr 1 h4 true 0,.arr 1 [.imm .own 1 xl] true 0,.arr 1 h6 true 0,.arr 1 (h7 ++ [.imm .own 1 xl]) true 0,.arr 1 h8 true 0]⟩,⟨17,7,.bool true,[.arr 1 h0 true 0,.arr 1 h1 true 0,.arr 1 h2 true 0,.arr 1 h3 true 0,.arr 1 h4 true 0,.arr 1 [.imm .own 1 xl] true 0,.arr 1 h6 true 0,.arr 1 (h7 ++ [.imm .own 1 xl]) true 0,.arr 1 h8 true 0]⟩] fun kf hk=>⟨_,by kernel_rfl,(oC (g0 kf) (oC (g1 kf) (oC (g2 kf) (oC (g3 kf) (oB [.arr 1 h0 true 0,.arr 1 h1 true 0,.arr 1 h2 true 0,.arr 1 h3 true 0] (decide_eq_true g4) (oC (g5 kf) (oC (g6 kf) (oC (g7 kf) (oC (g8 kf) (oC (g9 kf) (oC (g10) (oC (g11 kf) (oC (g12 kf) .nil)))))))))))))⟩
end Go.Proofs.Ytaibmipamkaljaa
end
section
open Go Go.HL
namespace Go.Proofs.Ytaibmipamkaljaa
theorem nodup_lenS:∀ {P S:List Nat},P.Nodup → (∀ v ∈ P,v ∈ S) → P.length ≤ S.length
  | [],_,_,_=>Nat.zero_le _
  | v :: P,S,hn,h=>by
    obtain ⟨n1,n2⟩:=List.nodup_cons.1 hn
    have hv:v ∈ S:=h v (by simp)
    have:=nodup_lenS (P:=P) (S:=S.erase v) n2 (fun w hw=>(List.mem_erase_of_ne (fun e=>n1 (by rw [← e]; exact hw))).2 (h w (by simp [hw])))
    rw [List.length_erase_of_mem hv] at this
    have:0 < S.length:=List.length_pos_of_mem hv
    simp only [List.length_cons]; omega
theorem sumG_cancel {g:Gr} {u v:List El} (h:sumG g (u ++ v)=sumG g u):sumG g v=(0,0):=by
  have key:∀ (A B m:Int),(A+B) % m=A % m → B % m=0:=fun A B m e=>by
    have:=Int.emod_eq_emod_iff_emod_sub_eq_zero.1 e
    rwa [show A+B - A=B by omega] at this
  simp only [sumG,List.map_append,List.sum_append,Prod.mk.injEq] at h
  exact sumG_zero_iff.2 ⟨key _ _ _ h.1,key _ _ _ h.2⟩
section
variable {gl:List Int} (hg:(newGroupT gl).2=true)
include hg
theorem cd_lt {y:El} (hy:elOk (grG gl) y):(codeT gl (lstT (grG gl) y)).toNat < (sizeT gl).toNat∧tE gl ((codeT gl (lstT (grG gl) y)).toNat:Int)=y:=by
  obtain ⟨a1,a2⟩:=lst_el hg hy
  have c:=code_bnd hg a1
  refine ⟨by omega,?_⟩
  rw [Int.toNat_of_nonneg c.1]; exact a2
theorem sums_many {O:List (List Int)} (hR:∀ x ∈ O,elB gl x=true) (hf:∀ s:List El,s.Sublist (els gl O) → s ≠ [] → sumG (grG gl) s ≠ (0,0)):O.length ≤ (sumsL gl (sumS (grG gl) (els gl O))).length:=by
  have hall:∀ y ∈ els gl O,elOk (grG gl) y:=fun y hy=>by
    obtain ⟨z,hz,rfl⟩:=List.mem_map.1 hy
    exact eE_ok hg (hR z hz)
  have hl:(els gl O).length=O.length:=by simp only [els,List.length_map]
  have hmem:=mem_sumS (els gl O) hall
  have hok:=sumS_ok (grG_ok hg) (els gl O) hall
  generalize els gl O=l at *
  have hin:∀ i,i < l.length → sumG (grG gl) (l.take (i+1)) ∈ sumS (grG gl) l:=fun i hi =>
    (hmem _).2 ⟨l.take (i+1),List.take_sublist _ _,fun e=>by have:=congrArg List.length e; rw [List.length_take] at this; simp only [List.length_nil] at this; omega,rfl⟩
  have ne:∀ i j,i < j → j < l.length → sumG (grG gl) (l.take (i+1)) ≠ sumG (grG gl) (l.take (j+1)):=fun i j hij hj e=>by
    have hs:l.take (j+1)=l.take (i+1) ++ (l.take (j+1)).drop (i+1):=by
      have:=List.take_append_drop (i+1) (l.take (j+1))
      rw [List.take_take,show min (i+1) (j+1)=i+1 by omega] at this
      exact this.symm
    have hz:=sumG_cancel (g:=grG gl) (u:=l.take (i+1)) (v:=(l.take (j+1)).drop (i+1)) (by rw [← hs]; exact e.symm)
    refine hf _ ((List.drop_sublist _ _).trans (List.take_sublist _ _)) (fun e=>?_) hz
    have:=congrArg List.length e
    rw [List.length_drop,List.length_take] at this
    simp only [List.length_nil] at this; omega
  have:=nodup_lenS (P:=(List.range l.length).map fun i=>(codeT gl (lstT (grG gl) (sumG (grG gl) (l.take (i+1))))).toNat) (S:=(List.range (sizeT gl).toNat).filter fun (c:Nat)=>decide (tE gl (c:Int) ∈ sumS (grG gl) l)) (by
      rw [List.Nodup,List.pairwise_map]
      refine List.pairwise_lt_range.imp_of_mem ?_
      intro i j hi hj hij e
      have hi:=List.mem_range.1 hi
      have hj:=List.mem_range.1 hj
      have e1:=(cd_lt hg (hok _ (hin i hi))).2
      have e2:=(cd_lt hg (hok _ (hin j hj))).2
      rw [e,e2] at e1
      exact ne i j hij hj e1.symm) (by
      intro v hv
      obtain ⟨i,hi,rfl⟩:=List.mem_map.1 hv
      have hi:=List.mem_range.1 hi
      obtain ⟨e1,e2⟩:=cd_lt hg (hok _ (hin i hi))
      exact List.mem_filter.2 ⟨List.mem_range.2 e1,by rw [e2]; exact decide_eq_true (hin i hi)⟩)
  rw [List.length_map,List.length_range] at this
  rw [sumsL,List.length_map,← hl]
  exact this
theorem free_el:∀ x ∈ freeL gl,elB gl x=true:=by
  rcases grp_cases hg with ⟨a,rfl,h1,h2⟩ | ⟨a,b,rfl,h1,h2,h3,h4,h5,h6⟩
  · intro x hx
    rw [List.eq_of_mem_replicate hx]
    exact el_mk1 ⟨by omega,by omega⟩
  · intro x hx
    rcases List.mem_append.1 hx with hx | hx
    · rw [List.eq_of_mem_replicate hx]; exact el_mk2 ⟨by omega,by omega⟩ ⟨by omega,by omega⟩
    · rw [List.eq_of_mem_replicate hx]; exact el_mk2 ⟨by omega,by omega⟩ ⟨by omega,by omega⟩
theorem free_els:els gl (freeL gl)=List.replicate ((grG gl).1 - 1).toNat ((1,0):El) ++ List.replicate ((grG gl).2.1 - 1).toNat (0,1):=by
  rcases grp_cases hg with ⟨a,rfl,h1,h2⟩ | ⟨a,b,rfl,h1,h2,h3,h4,h5,h6⟩
  · simp only [grG,new_one h1 h2]
    show (List.replicate (a.toNat - 1) [1]).map (eE [a])=_
    rw [List.map_replicate,show ((1:Int) - 1).toNat=0 by rfl,List.replicate_zero,List.append_nil,show (a - 1).toNat=a.toNat - 1 by omega]
    rfl
  · simp only [grG,new_two h1 h2 h3 h4 h5 h6]
    show (List.replicate (a.toNat - 1) ([1,0]:List Int) ++ List.replicate (b.toNat - 1) ([0,1]:List Int)).map (eE [a,b])=_
    have e1:eE [a,b] [1,0]=(1,0):=tE_two (u:=1) (v:=0) ⟨by omega,by omega⟩
    have e2:eE [a,b] [0,1]=(0,1):=tE_two (u:=0) (v:=1) ⟨by omega,by omega⟩
    rw [List.map_append,List.map_replicate,List.map_replicate,e1,e2,show (a - 1).toNat=a.toNat - 1 by omega,show (b - 1).toNat=b.toNat - 1 by omega]
theorem free_len:((freeL gl).length:Int)=(grG gl).1+(grG gl).2.1 - 2∧(freeL gl).length ≤ 46∧(∀ x ∈ freeL gl,x.length ≤ 2):=by
  have hk:=grG_ok hg
  have e:=congrArg List.length (free_els hg)
  simp only [els,List.length_map,List.length_append,List.length_replicate] at e
  refine ⟨by rw [e]; obtain ⟨⟨h1,_⟩,h2,_⟩:=hk; omega,?_,?_⟩
  · rcases grp_cases hg with ⟨a,rfl,h1,h2⟩ | ⟨a,b,rfl,h1,h2,h3,h4,h5,h6⟩
    · simp only [freeL,List.length_replicate]; omega
    · simp only [freeL,List.length_append,List.length_replicate]; omega
  · intro x hx
    rcases grp_cases hg with ⟨a,rfl,h1,h2⟩ | ⟨a,b,rfl,h1,h2,h3,h4,h5,h6⟩
    · rw [List.eq_of_mem_replicate hx]; decide
    · rcases List.mem_append.1 hx with hx | hx
      · rw [List.eq_of_mem_replicate hx]; decide
      · rw [List.eq_of_mem_replicate hx]; decide
omit hg in
theorem sum1 (n k:Nat):((List.replicate n ((1,0):El) ++ List.replicate k (0,1)).map Prod.fst).sum=(n:Int)∧((List.replicate n ((1,0):El) ++ List.replicate k (0,1)).map Prod.snd).sum=(k:Int):=by
  have a:∀ n (c:Int),(List.replicate n c).sum=(n:Int) * c:=fun n c=>by
    induction n with
    | zero=>simp
    | succ n ih=>rw [List.replicate_succ,List.sum_cons,ih,Int.natCast_succ,Int.add_mul]; omega
  simp only [List.map_append,List.map_replicate,List.sum_append,a]
  omega
theorem free_none:∀ s:List El,s.Sublist (els gl (freeL gl)) → s ≠ [] → sumG (grG gl) s ≠ (0,0):=by
  intro s hs h0 hz
  rw [free_els hg] at hs
  obtain ⟨⟨g1,_⟩,g2,_⟩:=grG_ok hg
  obtain ⟨u,v,rfl,hu,hv⟩:=List.sublist_append_iff.1 hs
  obtain ⟨n,hn,rfl⟩:=List.sublist_replicate_iff.1 hu
  obtain ⟨k,hk,rfl⟩:=List.sublist_replicate_iff.1 hv
  rw [sumG_zero_iff,(sum1 n k).1,(sum1 n k).2] at hz
  obtain ⟨z1,z2⟩:=hz
  rw [Int.emod_eq_of_lt (by omega) (by omega)] at z1 z2
  have:n=0:=by omega
  have:k=0:=by omega
  subst n; subst k
  exact h0 rfl
end
end Go.Proofs.Ytaibmipamkaljaa
end
section
open Go Go.HL
namespace Go.Proofs.Ytaibmipamkaljaa
open Go.Proofs.Try renaming prog → Tp
open Go.HL.HV renaming undef → Ud
theorem res12:Try.f12.results.toList=[.tmp 6]:=by kernel_rfl
theorem free_at {pol':Pol} (hp:pol'.prim 42=some free42) {l:List Int} {v1:HV} {H:Heap} (h1:argI H v1 l) :
    ∀ k,callN Tp pol' (k+1) 42 [v1] H=some (.tuple [.sl H.length 0 (freeT l).1.length none (freeT l).1.length 1,.int .i64 (freeT l).2],H ++ [bR (freeT l).1]):=fun k=>by
  have hd:mapO decI (l.map encI)=some l:=mapO_map decI_enc l
  unfold argI at h1
  rw [prim_call (pol:=pol') (g:=42) (F:=free42) hp (rs:=[.imm .arg 1 (l.map encI)]) (by simp only [mapO,h1]) (res:=.tuple [.own 1 ((freeT l).1.map encO),.int .i64 (freeT l).2]) (by simp only [free42,liF,hd]),recvRs]
theorem argR_rest {H:Heap} {R:List (List Int)} {b m mx:Nat} (hm:R.length=m) (hb:H[b]?=some (.arr 1 (R.map encO) true mx)):toArg H 6 (.sl b 1 (m - 1) none m 1)=some (.imm .arg 1 (R.tail.map encR)):=by
  subst hm
  have e:toArg H 6 (.sl b 1 (R.length - 1) none R.length 1)=if R.length - 1=0 then some (.imm .arg 1 []) else match view H b 1 (R.length - 1) R.length 1 with | some l=>(match mapO (toArg H 5) l with | some l=>some (.imm .arg 1 l) | none=>none) | none=>none:=rfl
  rw [e]
  split
  · rename_i h0
    have:R.tail=[]:=List.length_eq_zero_iff.1 (by rw [List.length_tail]; exact h0)
    rw [this]; rfl
  · rename_i h0
    have hv:view H b 1 (R.length - 1) R.length 1=some (R.tail.map encO):=by
      simp only [view,hb,List.length_map]
      rw [if_pos ⟨trivial,by omega,trivial⟩]
      rw [List.drop_one,← List.map_tail,List.take_of_length_le (by rw [List.length_map,List.length_tail]; omega)]
    have hm:∀ (R:List (List Int)),mapO (toArg H 5) (R.map encO)=some (R.map encR):=by
      intro R
      induction R with
      | nil=>rfl
      | cons r R ih =>
        have e:toArg H 5 (encO r)=some (encR r):=by
          show argP (.imm .own 1 (r.map encI))=_
          simp only [argP,argP_ints']
          rfl
        simp only [List.map_cons,mapO,e,ih]
    rw [hv]
    simp only [hm]
theorem sliceRest {b n:Nat} (h:1 ≤ n):sliceV Tp 35 (.sl b 0 n none n 1) (some (.int .i64 1)) none none=some (.sl b 1 (n - 1) none n 1):=by
  have:=h
  simp [sliceV,boundV,u35,z22,h]
theorem tab_id {F:List (List Int)} (h1:F.length ≤ 61) (h2:∀ x ∈ F,x.length ≤ 3):tabT F=F:=by
  rw [tabT,List.take_of_length_le h1]
  have:F.map (fun r=>r.take 3)=F.map id:=List.map_congr_left fun r hr=>List.take_of_length_le (h2 r hr)
  rw [this,List.map_id]
theorem sumsFree_law (l0:List Int) (R1:List (List Int)) (l2:List Int):∃ E H,RT polL12 12 B12 (args0 [.imm .arg 1 (l0.map encI),.imm .arg 1 (R1.map encR),.imm .arg 1 (l2.map encI)]) [] .ret E H∧E.get 6=.bool true:=by
  obtain ⟨g,e,hG⟩:=grp_L l0
  have hpos:=hG.pos
  obtain ⟨hgg,hg⟩:=grG_eq hG
  have c23:=group_at (pol':=polL12) (by kernel_rfl) l0 []
  have c24:=elements24_at (pol':=polL12) (by kernel_rfl) (gl:=grpT l0) (R:=R1) (v1:=.sl 0 0 (grpT l0).length none (grpT l0).length 1) (v2:=.imm .arg 1 (R1.map encR)) (c:=20) (H:=[bI (grpT l0)]) (argI_sl rfl rfl) (argR_imm _ _) ⟨hpos.1,by omega,by rw [List.length_take]; omega,by omega⟩
  have hR:=rowsE_el hG R1 20
  have hl:=rowsE_len (grpT l0) R1 20
  have hX:=rowsE_el hG [l2] 1
  have hgl:(grpT l0).length ≤ 1000:=by have:=grp_len hg; omega
  have x24:∀ H,H[0]?=some (bI (grpT l0)) → ∀ k,callN Tp polL12 (k+1) 24 [.sl 0 0 (grpT l0).length none (grpT l0).length 1,.imm .lit 1 [.imm .arg 1 (l2.map encI)],.int .i64 1] H=some (.sl H.length 0 1 none 1 1,H ++ [bR [rowE (grpT l0) l2]]):=fun H h0 =>
    elements24_at (pol':=polL12) (by kernel_rfl) (gl:=grpT l0) (R:=[l2]) (v1:=.sl 0 0 (grpT l0).length none (grpT l0).length 1) (v2:=.imm .lit 1 [.imm .arg 1 (l2.map encI)]) (c:=1) (H:=H) (argI_sl rfl h0) (by
      show argP (.imm .lit 1 [.imm .arg 1 (l2.map encI)])=_
      simp only [argP,argPL,argP_ints']; rfl) ⟨hpos.1,by omega,by simp,by omega⟩
  have hXe:elB (grpT l0) (rowE (grpT l0) l2)=true:=hX _ (by show _ ∈ [rowE (grpT l0) l2]; simp)
  generalize rowE (grpT l0) l2=x at *
  generalize grpT l0=G at *
  generalize rowsE G R1 20=O at *
  have hl':O.length ≤ 60:=by have:(20:Int).toNat=20:=rfl; omega
  have hlB:=listB_iff.2 ⟨hR,hl'⟩
  -- Free's list
  obtain ⟨f1,f2,f3⟩:=free_len hg
  have f4:=free_el hg
  have fT:freeT G=(freeL G,0):=by rw [freeT,if_pos hg]
  have fB:listB G (freeL G)=true:=listB_iff.2 ⟨f4,by omega⟩
  have fZ:zeroT G (freeL G)=([],6):=by
    rcases zero_cases hg f4 (by omega) with ⟨h1,_⟩ | ⟨o,k1,k2,k3,k4,k5⟩
    · exact h1
    · obtain ⟨s,s1,s2,s3⟩:=(rch_gen _ _ _).1 k3
      exact absurd s3.symm (free_none hg s s1 (fun e=>by rw [e] at s2; simp only [List.length_nil] at s2; omega))
  have hE:∀ y ∈ freeL G ++ [x],elB G y=true:=fun y hy=>by
    rcases List.mem_append.1 hy with hy | hy
    · exact f4 y hy
    · rw [List.mem_singleton.1 hy]; exact hXe
  have hEl:(freeL G ++ [x]).length=(freeL G).length+1:=by simp
  obtain ⟨Z2,zz⟩:∃ Z2,zeroT G (freeL G ++ [x])=(Z2,0):=by
    rcases zero_cases hg hE (by omega) with ⟨_,h2⟩ | ⟨o,k1,k2,k3,k4,k5⟩
    · obtain ⟨s,s1,s2,s3⟩:=dav_gr hG (l:=els G (freeL G ++ [x])) (by
        have:(els G (freeL G ++ [x])).length=(freeL G).length+1:=by simp only [els,List.length_map]; exact hEl
        rw [this]
        rw [hgg] at f1
        omega)
      rw [hgg] at h2
      exact absurd s3 (h2 s s1 s2)
    · exact ⟨_,k5⟩
  have fTab:tabT (freeL G)=freeL G:=tab_id (by omega) (fun y hy=>by have:=f3 y hy; omega)
  have hap:(freeL G ++ [x]).map encO=(freeL G).map encO ++ [encO x]:=by rw [List.map_append]; rfl
  have free:=fun (H:Heap) (h0:H[0]?=some (bI G))=>free_at (pol':=polL12) (by kernel_rfl) (l:=G) (v1:=.sl 0 0 G.length none G.length 1) (H:=H) (argI_sl rfl h0)
  rw [fT] at free
  have lst:=fun (H:Heap) (b:Nat) (h0:H[0]?=some (bI G)) (hb:H[b]?=some (bR (freeL G)))=>list36_at (pol':=polL12) (by kernel_rfl) (gl:=G) (R:=freeL G) (v1:=.sl 0 0 G.length none G.length 1) (v2:=.sl b 0 (freeL G).length none (freeL G).length 1) (H:=H) (argI_sl rfl h0) (argR_sl rfl hb) ⟨hgl,by omega⟩
  rw [fB] at lst
  have zf:=fun (H:Heap) (b:Nat) (h0:H[0]?=some (bI G)) (hb:H[b]?=some (bR (freeL G)))=>zero_at (pol':=polL12) (by kernel_rfl) (l:=G) (R:=freeL G) (v1:=.sl 0 0 G.length none G.length 1) (v2:=.sl b 0 (freeL G).length none (freeL G).length 1) (H:=H) (argI_sl rfl h0) (argR_sl rfl hb) (by omega)
  rw [fZ] at zf
  have tb:=fun (H:Heap) (b:Nat) (hb:H[b]?=some (bR (freeL G)))=>table_at (pol':=polL12) (by kernel_rfl) (R:=freeL G) (v:=.sl b 0 (freeL G).length none (freeL G).length 1) (H:=H) (argR_sl rfl hb)
  rw [fTab] at tb
  have ap:=fun (H:Heap) (b:Nat) (hb:H[b]?=some (bR (freeL G)))=>app_O (H:=H) (b:=b) (R:=freeL G) hb (by omega) x
  rw [hap] at ap
  have zx:=fun (H:Heap) (b:Nat) (h0:H[0]?=some (bI G)) (hb:H[b]?=some (.arr 1 ((freeL G).map encO ++ [encO x]) true 0))=>zero_at (pol':=polL12) (by kernel_rfl) (l:=G) (R:=freeL G ++ [x]) (v1:=.sl 0 0 G.length none G.length 1) (v2:=.sl b 0 ((freeL G).length+1) none ((freeL G).length+1) 1) (H:=H) (argI_sl rfl h0) (argR_sl hEl (by rw [hap]; exact hb)) (by omega)
  rw [zz] at zx
  have c39:=fun (H:Heap) (h0:H[0]?=some (bI G)) (h1:H[1]?=some (bR O))=>sums_at (pol':=polL12) (by kernel_rfl) (l:=G) (R:=O) (v1:=.sl 0 0 G.length none G.length 1) (v2:=.sl 1 0 O.length none O.length 1) (H:=H) (argI_sl rfl h0) (argR_sl rfl h1) (by omega)
  rw [sumsT_B hg hlB] at c39
  have hmany:=sums_many hg hR
  have c26:=zero_at (pol':=polL12) (by kernel_rfl) (H:=[bI G,bR O]) (v1:=.sl 0 0 G.length none G.length 1) (v2:=.sl 1 0 O.length none O.length 1) (argI_sl rfl rfl) (argR_sl rfl rfl) (by omega)
  have zc:=zero_cases hg hR hl'
  have zt:(∀ s:List El,s.Sublist (els G O) → s ≠ [] → sumG (grG G) s ≠ (0,0)) → zeroT G O.tail=([],6):=fun hn=>by
    have hRt:∀ y ∈ O.tail,elB G y=true:=fun y hy=>hR y (List.mem_of_mem_tail hy)
    have et:(els G O.tail).Sublist (els G O):=by
      have:=(List.tail_sublist O).map (eE G)
      exact this
    rcases zero_cases hg hRt (by rw [List.length_tail]; omega) with ⟨h1,_⟩ | ⟨o,k1,k2,k3,k4,k5⟩
    · exact h1
    · obtain ⟨s,s1,s2,s3⟩:=(rch_gen _ _ _).1 k3
      exact absurd s3.symm (hn s (s1.trans et) (fun e=>by rw [e] at s2; simp only [List.length_nil] at s2; omega))
  generalize sumsL G (sumS (grG G) (els G O))=S at *
  generalize freeL G=F at *
  rcases zc with ⟨h1,h2⟩ | ⟨o,k1,k2,k3,k4,k5⟩
  · rw [h1] at c26
    have hm:=hmany h2
    have s39:=c39 [bI G,bR O,bI []] rfl rfl
    by_cases ho:0 < O.length
    · have t26:=zero_at (pol':=polL12) (by kernel_rfl) (l:=G) (R:=O.tail) (v1:=.sl 0 0 G.length none G.length 1) (v2:=.sl 1 1 (O.length - 1) none O.length 1) (H:=[bI G,bR O,bI [],bR S]) (argI_sl rfl rfl) (argR_rest rfl rfl) (by rw [List.length_tail]; omega)
      rw [zt h2] at t26
      have d1:=free [bI G,bR O,bI [],bR S,bI []] rfl
      have d2:=lst [bI G,bR O,bI [],bR S,bI [],bR F] 5 rfl rfl
      have d3:=x24 [bI G,bR O,bI [],bR S,bI [],bR F] rfl
      have d4:=zf [bI G,bR O,bI [],bR S,bI [],bR F,bR [x]] 5 rfl rfl
      have d5:=tb [bI G,bR O,bI [],bR S,bI [],bR F,bR [x],bI []] 5 rfl
      have d6:=ap [bI G,bR O,bI [],bR S,bI [],bR F,bR [x],bI [],bR F] 8 rfl
      have d7:=zx [bI G,bR O,bI [],bR S,bI [],bR F,bR [x],bI [],.arr 1 (F.map encO ++ [encO x]) true 0] 8 rfl rfl
      have d8:=awake_at (pol':=polL12) (by kernel_rfl) [bI G,bR O,bI [],bR S,bI [],bR F,bR [x],bI [],.arr 1 (F.map encO ++ [encO x]) true 0,bI Z2]
      have u:=sf_1 (l0.map encI) (R1.map encR) (l2.map encI) (x.map encI) G.length (G.map encI) O.length (O.map encO) 0 [] S.length (S.map encO) 0 [] F.length (F.map encO) 0 [] 0 [] F.length (F.map encO) Z2.length (Z2.map encI) 0 [] 0 [] 0 [] 0 [] c23 c24 c26 s39 (by omega) (by omega) (sliceRest (by omega)) t26 d1 d2 d3 d4 d5 d6 d7 d8
      exact ⟨_,_,u,rfl⟩
    · have d1:=free [bI G,bR O,bI [],bR S] rfl
      have d2:=lst [bI G,bR O,bI [],bR S,bR F] 4 rfl rfl
      have d3:=x24 [bI G,bR O,bI [],bR S,bR F] rfl
      have d4:=zf [bI G,bR O,bI [],bR S,bR F,bR [x]] 4 rfl rfl
      have d5:=tb [bI G,bR O,bI [],bR S,bR F,bR [x],bI []] 4 rfl
      have d6:=ap [bI G,bR O,bI [],bR S,bR F,bR [x],bI [],bR F] 7 rfl
      have d7:=zx [bI G,bR O,bI [],bR S,bR F,bR [x],bI [],.arr 1 (F.map encO ++ [encO x]) true 0] 7 rfl rfl
      have d8:=awake_at (pol':=polL12) (by kernel_rfl) [bI G,bR O,bI [],bR S,bR F,bR [x],bI [],.arr 1 (F.map encO ++ [encO x]) true 0,bI Z2]
      have u:=sf_2 (l0.map encI) (R1.map encR) (l2.map encI) (x.map encI) G.length (G.map encI) O.length (O.map encO) 0 [] S.length (S.map encO) F.length (F.map encO) 0 [] 0 [] F.length (F.map encO) Z2.length (Z2.map encI) 0 [] 0 [] 0 [] 0 [] 0 [] c23 c24 c26 s39 (by omega) (by omega) d1 d2 d3 d4 d5 d6 d7 d8
      exact ⟨_,_,u,rfl⟩
  · rw [k5] at c26
    generalize partI (grG G) (els G O) ((o:Int),(0,0))=Z at *
    have s39:=c39 [bI G,bR O,bI Z] rfl rfl
    have d1:=free [bI G,bR O,bI Z,bR S] rfl
    have d2:=lst [bI G,bR O,bI Z,bR S,bR F] 4 rfl rfl
    have d3:=x24 [bI G,bR O,bI Z,bR S,bR F] rfl
    have d4:=zf [bI G,bR O,bI Z,bR S,bR F,bR [x]] 4 rfl rfl
    have d5:=tb [bI G,bR O,bI Z,bR S,bR F,bR [x],bI []] 4 rfl
    have d6:=ap [bI G,bR O,bI Z,bR S,bR F,bR [x],bI [],bR F] 7 rfl
    have d7:=zx [bI G,bR O,bI Z,bR S,bR F,bR [x],bI [],.arr 1 (F.map encO ++ [encO x]) true 0] 7 rfl rfl
    have d8:=awake_at (pol':=polL12) (by kernel_rfl) [bI G,bR O,bI Z,bR S,bR F,bR [x],bI [],.arr 1 (F.map encO ++ [encO x]) true 0,bI Z2]
    have u:=sf_3 (l0.map encI) (R1.map encR) (l2.map encI) (x.map encI) G.length (G.map encI) O.length (O.map encO) Z.length (Z.map encI) S.length (S.map encO) F.length (F.map encO) 0 [] 0 [] F.length (F.map encO) Z2.length (Z2.map encI) 0 [] 0 [] 0 [] 0 [] 0 [] c23 c24 c26 s39 (by omega) d1 d2 d3 d4 d5 d6 d7 d8
    exact ⟨_,_,u,rfl⟩
end Go.Proofs.Ytaibmipamkaljaa
end
section
namespace Go.HL
open Go.ChangeShapes Go.WideShapes Go.ChangeAt Go.RowKit Go.Deep
theorem okNil (w:World) (r:Nat):okOf Ctx.nil w.heap.size false r:=by
  refine ⟨fun hM=>?_,by simp⟩
  obtain ⟨b,y,h1,_,_⟩:=M_iff.1 hM
  simp [Ctx.nil] at h1
theorem cell_lt {w:World} {a:Addr} {v:Value} (h:w.cell? a=some v):a.block < w.heap.size:=by
  rcases Nat.lt_or_ge a.block w.heap.size with hl | hl
  · exact hl
  · have:w.heap[a.block]?=none:=by simp [hl]
    simp [World.cell?,this] at h
end Go.HL
end
section
namespace Go.HL
open Go.ChangeShapes Go.WideShapes Go.ChangeAt Go.RowKit Go.Deep
theorem arg_ints_ok {H:Type} {enc:TypeId × Value → H} {P:Program} {W:World} {base:Nat} {t q:TypeId} {v:Value} {d:DataW H} {ps:List MemPlace} (ht:P.underlying t=some (.slice q)) (hq:P.underlying q=some (.int .i64)) (cq:P.cellsOf q=1)
    (hval:Value.okWide P W .any base t v) (hd:DataW.Trod enc P W 0 (fun _=>true) true t v d ps):∃ l:List Int,V W (okOf Ctx.nil W.heap.size) Ctx.nil (.imm .arg 1 (l.map encI)) v:=by
  obtain ⟨a,len,cap,rfl⟩:=okWide_slice ht hval
  obtain ⟨fuel,hf⟩:=hd
  rcases open_slice ht hf with ⟨h0,_⟩ | ⟨a',len',cap',m,n,D,Pl,h0,hb,hl,hm,hmm,hx,hel⟩
  · simp [Value.cells] at h0
    obtain ⟨rfl,rfl,rfl⟩:=h0
    exact ⟨[],.imm .arg 1 [] none 0 (fun _=>.bool false) (by simp) (by simp) (by simp) (by simp) (by simp) (by simp)⟩
  · simp [Value.cells] at h0
    obtain ⟨rfl,rfl,rfl⟩:=h0
    have hlm:len ≤ m:=by rw [hmm]; split <;> omega
    have each:∀ i,i < len → ∃ z:Int,W.cell? (a'.add i)=some (.int .i64 z):=by
      intro i hi
      obtain ⟨cs',h1,h2⟩:=hel i (by omega)
      rw [cq] at h1
      obtain ⟨_,hlen,hcell⟩:=World.cells?_some h1
      match cs',hlen with
      | [v0],_ =>
        obtain ⟨z0,e0,_,_⟩:=DataW.trod_int hq h2
        simp at e0
        subst e0
        have c0:=hcell 0 (by omega)
        rw [add_add] at c0
        exact ⟨z0,by simpa using c0⟩
    obtain ⟨f,hf⟩:=choose_lt each
    refine ⟨(List.range len).map f,?_⟩
    have hlen:(((List.range len).map f).map encI).length=len:=by simp
    have key:=V.imm (w:=W) (ok:=okOf Ctx.nil W.heap.size) (c:=Ctx.nil) .arg 1 (((List.range len).map f).map encI) (some a') cap (fun j=>.int .i64 (f j))
      (by rw [hlen]; exact hl) (by simp) ?_ ?_ ?_ ?_
    · rw [hlen] at key; exact key
    · intro hne
      have h0:0 < len:=by
        rcases Nat.eq_zero_or_pos len with h | h
        · subst h; simp at hne
        · exact h
      obtain ⟨b,off,spot⟩:=a'
      have hspot:spot=none:=by simpa [Addr.add] using World.cell?_spot (hf 0 h0)
      subst hspot
      refine ⟨b,off,rfl,by simpa [Addr.add] using cell_lt (hf 0 h0),okNil W b,fun j hj=>?_⟩
      rw [hlen] at hj
      have c0:=hf j (by omega)
      rw [add_plain] at c0
      exact c0
    · intro v hv
      obtain ⟨p,_,rfl⟩:=List.mem_map.1 hv
      rfl
    · intro v hv
      obtain ⟨p,_,rfl⟩:=List.mem_map.1 hv
      rfl
    · intro i v j x hi hj
      have hil:i < len:=by have:=lt_of_get hi; rw [hlen] at this; exact this
      have:v=encI (f i):=by
        rw [List.getElem?_map,List.getElem?_map,List.getElem?_range hil] at hi
        simpa using hi.symm
      subst this
      have hjx:j < 1:=lt_of_get hj
      match j,hjx,hj with
      | 0,_,hj =>
        simp [encI,cellsOf] at hj
        subst hj
        have e1:i * 1+0=i:=by omega
        rw [e1]
        exact V.int _ _
end Go.HL
end
section
namespace Go.HL
open Go.ChangeShapes Go.WideShapes Go.ChangeAt Go.RowKit Go.Deep
theorem ints_cells {H:Type} {enc:TypeId × Value → H} {P:Program} {W:World} {base fuel:Nat} {sp:Nat → Bool} {held:Bool} {t q:TypeId} {cs:List Value} {x:DataW H × List MemPlace} (ht:P.underlying t=some (.slice q)) (hq:P.underlying q=some (.int .i64)) (cq:P.cellsOf q=1)
    (hf:DataW.trod enc P W base sp held fuel t cs=some x):∃ (l:List Int) (v:Value),cs=[v]∧V W (okOf Ctx.nil W.heap.size) Ctx.nil (.imm .arg 1 (l.map encI)) v:=by
  rcases open_slice ht hf with ⟨h0,_⟩ | ⟨a',len,cap,m,n,D,Pl,h0,hb,hl,hm,hmm,hx,hel⟩
  · exact ⟨[],_,h0,.imm .arg 1 [] none 0 (fun _=>.bool false) (by simp) (by simp) (by simp) (by simp) (by simp) (by simp)⟩
  · subst h0
    have hlm:len ≤ m:=by rw [hmm]; split <;> omega
    have each:∀ i,i < len → ∃ z:Int,W.cell? (a'.add i)=some (.int .i64 z):=by
      intro i hi
      obtain ⟨cs',h1,h2⟩:=hel i (by omega)
      rw [cq] at h1
      obtain ⟨_,hlen,hcell⟩:=World.cells?_some h1
      match cs',hlen with
      | [v0],_ =>
        obtain ⟨z0,e0,_,_⟩:=DataW.trod_int hq h2
        simp at e0
        subst e0
        have c0:=hcell 0 (by omega)
        rw [add_add] at c0
        exact ⟨z0,by simpa using c0⟩
    obtain ⟨f,hf⟩:=choose_lt each
    refine ⟨(List.range len).map f,_,rfl,?_⟩
    have hlen:(((List.range len).map f).map encI).length=len:=by simp
    have key:=V.imm (w:=W) (ok:=okOf Ctx.nil W.heap.size) (c:=Ctx.nil) .arg 1 (((List.range len).map f).map encI) (some a') cap (fun j=>.int .i64 (f j))
      (by rw [hlen]; exact hl) (by simp) ?_ ?_ ?_ ?_
    · rw [hlen] at key; exact key
    · intro hne
      have h0:0 < len:=by
        rcases Nat.eq_zero_or_pos len with h | h
        · subst h; simp at hne
        · exact h
      obtain ⟨b,off,spot⟩:=a'
      have hspot:spot=none:=by simpa [Addr.add] using World.cell?_spot (hf 0 h0)
      subst hspot
      refine ⟨b,off,rfl,by simpa [Addr.add] using cell_lt (hf 0 h0),okNil W b,fun j hj=>?_⟩
      rw [hlen] at hj
      have c0:=hf j (by omega)
      rw [add_plain] at c0
      exact c0
    · intro v hv
      obtain ⟨p,_,rfl⟩:=List.mem_map.1 hv
      rfl
    · intro v hv
      obtain ⟨p,_,rfl⟩:=List.mem_map.1 hv
      rfl
    · intro i v j x hi hj
      have hil:i < len:=by have:=lt_of_get hi; rw [hlen] at this; exact this
      have:v=encI (f i):=by
        rw [List.getElem?_map,List.getElem?_map,List.getElem?_range hil] at hi
        simpa using hi.symm
      subst this
      have hjx:j < 1:=lt_of_get hj
      match j,hjx,hj with
      | 0,_,hj =>
        simp [encI,cellsOf] at hj
        subst hj
        have e1:i * 1+0=i:=by omega
        rw [e1]
        exact V.int _ _
def encRH (r:List Int):HV:=.imm .arg 1 (r.map encI)
theorem rows_cells {H:Type} {enc:TypeId × Value → H} {P:Program} {W:World} {base fuel:Nat} {sp:Nat → Bool} {held:Bool} {s t q:TypeId} {cs:List Value} {x:DataW H × List MemPlace} (hs:P.underlying s=some (.slice t)) (ct:P.cellsOf t=1) (ht:P.underlying t=some (.slice q)) (hq:P.underlying q=some (.int .i64)) (cq:P.cellsOf q=1)
    (hf:DataW.trod enc P W base sp held fuel s cs=some x):∃ (R:List (List Int)) (v:Value),cs=[v]∧V W (okOf Ctx.nil W.heap.size) Ctx.nil (.imm .arg 1 (R.map encRH)) v:=by
  rcases open_slice hs hf with ⟨h0,_⟩ | ⟨a',len,cap,m,n,D,Pl,h0,hb,hl,hm,hmm,hx,hel⟩
  · exact ⟨[],_,h0,.imm .arg 1 [] none 0 (fun _=>.bool false) (by simp) (by simp) (by simp) (by simp) (by simp) (by simp)⟩
  · subst h0
    have hlm:len ≤ m:=by rw [hmm]; split <;> omega
    have each:∀ i,i < len → ∃ p:List Int × Value,W.cell? (a'.add i)=some p.2∧V W (okOf Ctx.nil W.heap.size) Ctx.nil (encRH p.1) p.2:=by
      intro i hi
      obtain ⟨cs',h1,h2⟩:=hel i (by omega)
      rw [ct,Nat.mul_one] at h1
      obtain ⟨_,hlen,hcell⟩:=World.cells?_some h1
      obtain ⟨l,v,rfl,hV⟩:=ints_cells ht hq cq h2
      have c0:=hcell 0 (by omega)
      rw [add_add] at c0
      exact ⟨(l,v),by simpa using c0,hV⟩
    obtain ⟨f,hf⟩:=choose_lt each
    refine ⟨(List.range len).map fun i=>(f i).1,_,rfl,?_⟩
    have hlen:(((List.range len).map fun i=>(f i).1).map encRH).length=len:=by simp
    have key:=V.imm (w:=W) (ok:=okOf Ctx.nil W.heap.size) (c:=Ctx.nil) .arg 1 (((List.range len).map fun i=>(f i).1).map encRH) (some a') cap (fun j=>(f j).2)
      (by rw [hlen]; exact hl) (by simp) ?_ ?_ ?_ ?_
    · rw [hlen] at key; exact key
    · intro hne
      have h0:0 < len:=by
        rcases Nat.eq_zero_or_pos len with h | h
        · subst h; simp at hne
        · exact h
      obtain ⟨b,off,spot⟩:=a'
      have hspot:spot=none:=by simpa [Addr.add] using World.cell?_spot (hf 0 h0).1
      subst hspot
      refine ⟨b,off,rfl,by simpa [Addr.add] using cell_lt (hf 0 h0).1,okNil W b,fun j hj=>?_⟩
      rw [hlen,Nat.mul_one] at hj
      have c0:=(hf j hj).1
      rw [add_plain] at c0
      exact c0
    · intro v hv
      obtain ⟨p,_,rfl⟩:=List.mem_map.1 hv
      rfl
    · intro v hv
      obtain ⟨p,_,rfl⟩:=List.mem_map.1 hv
      rfl
    · intro i v j x hi hj
      have hil:i < len:=by have:=lt_of_get hi; rw [hlen] at this; exact this
      have:v=encRH (f i).1:=by
        rw [List.getElem?_map,List.getElem?_map,List.getElem?_range hil] at hi
        simpa using hi.symm
      subst this
      have hjx:j < 1:=lt_of_get hj
      obtain rfl:j=0:=by omega
      simp [encRH,cellsOf] at hj
      subst hj
      have e1:i * 1+0=i:=by omega
      rw [e1]
      exact (hf i hil).2
theorem arg_rows_ok {H:Type} {enc:TypeId × Value → H} {P:Program} {W:World} {base:Nat} {s t q:TypeId} {v:Value} {d:DataW H} {ps:List MemPlace} (hs:P.underlying s=some (.slice t)) (ct:P.cellsOf t=1) (ht:P.underlying t=some (.slice q)) (hq:P.underlying q=some (.int .i64)) (cq:P.cellsOf q=1)
    (hval:Value.okWide P W .any base s v) (hd:DataW.Trod enc P W 0 (fun _=>true) true s v d ps):∃ R:List (List Int),V W (okOf Ctx.nil W.heap.size) Ctx.nil (.imm .arg 1 (R.map encRH)) v:=by
  obtain ⟨a,len,cap,rfl⟩:=okWide_slice hs hval
  obtain ⟨fuel,hf⟩:=hd
  obtain ⟨R,v,hv,h⟩:=rows_cells hs ct ht hq cq hf
  simp [Value.cells] at hv
  subst hv
  exact ⟨R,h⟩
end Go.HL
end
