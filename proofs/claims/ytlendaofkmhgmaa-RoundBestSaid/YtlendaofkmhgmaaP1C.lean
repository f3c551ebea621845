/- A part of the proof. -/
import Derived.Test.YtlendaofkmhgmaaP1B
set_option linter.unusedVariables false
set_option linter.unusedSimpArgs false
set_option linter.unnecessarySimpa false
section
open Go Go.HL Go.HL.So
namespace Go.Proofs.Ytlendaofkmhgmaa
set_option linter.unusedSectionVars false
open Go.Proofs.Try renaming prog → Tp
open Go.HL.HV renaming undef → Ud
theorem a91:tyAgg Tp 91=true:=by kernel_rfl
theorem s91:tySize Tp 91=some 3:=by kernel_rfl
theorem So.edge {H:Heap} {db n:Nat} (hn:n ≤ 60000) (hd:db < H.length) (hx:mxs H ≤ H.length):So encE ltE (fun _=>True) H db n:=by
  have hb:∀ (l:List Ed) (T:Heap),(Mm encE H db l T)[db]?=some (bE encE l):=fun l T=>by
    unfold Mm
    rw [List.getElem?_append_left (by simpa using hd),List.getElem?_set_self hd]
  refine ⟨hn,hd,hx,fun l T i hl hi=>?_,fun l T i x hl hi=>?_,fun l T x y hl hT _ _=>?_⟩
  · have hi':(l.map encE)[i]?=some (encE (at_ l i)):=by rw [List.getElem?_map,List.getElem?_eq_getElem (by omega)]; simp [at_,List.getD,List.getElem?_eq_getElem (show i < l.length by omega)]
    exact load_agg (b:=db) (hb l T) (by simpa using hl.symm) hi' a91 s91
  · have hi':(l.map encE)[i]?=some (encE (at_ l i)):=by rw [List.getElem?_map,List.getElem?_eq_getElem (by omega)]; simp [at_,List.getD,List.getElem?_eq_getElem (show i < l.length by omega)]
    have:=store_agg (P:=Tp) (t:=91) (b:=db) (i:=i) (tot:=n) (new:=[.int .i64 x.1,.int .i64 x.2.1,.int .i64 x.2.2]) (hb l T) (by simpa using hl.symm) hi' s91 rfl (by simp) rfl rfl
    rw [show encE x=.agg [.int .i64 x.1,.int .i64 x.2.1,.int .i64 x.2.2] from rfl,this]
    congr 1
    unfold Mm
    rw [List.set_append_left _ _ (by simpa using hd),List.set_set]
    congr 2
    unfold bE
    congr 1
    rw [List.map_set]; rfl
  · refine ⟨fstL [cmpI x.1 y.1,cmpI x.2.1 y.2.1,cmpI x.2.2 y.2.2],0,fun kf _=>?_,ltE_cmp x y⟩
    rw [prim_call (pol:=polSo) (g:=77) (F:=edge77) (by kernel_rfl) (rs:=[encE x,encE y]) (by simp only [encE]; rfl) (res:=.int .i64 (fstL [cmpI x.1 y.1,cmpI x.2.1 y.2.1,cmpI x.2.2 y.2.2])) rfl]; rfl
theorem Mm_self {H:Heap} {db:Nat} {l:List Ed} (h:H[db]?=some (bE encE l)):Mm encE H db l []=H:=by
  unfold Mm
  rw [List.append_nil]
  apply List.ext_getElem?
  intro i
  rw [List.getElem?_set]
  split
  · rename_i e
    subst e
    rw [if_pos (lt_of_get h),h]
  · rfl
theorem sortE_ok {H:Heap} {db n:Nat} {l:List Ed} (hn:n ≤ 60000) (hl:l.length=n) (hb:H[db]?=some (bE encE l)) (hx:mxs H ≤ H.length) :
    ∃ l',ClS 76 [.sl db 0 n none n 3,.func 77 [] []] H (.tuple []) (H.set db (bE encE l'))∧l'.Perm l∧Sorted ltE 0 l'.length l':=by
  have hd:=lt_of_get hb
  have S:=So.edge (n:=n) hn hd hx
  have hlen:=lenN_ok (x:=n) (by omega)
  obtain ⟨l',hc,h1,h2⟩:=pdq_ok S ltE_lin (cap:=none) (lim:=(lenN n:Int)) (by omega) (by omega) hl (fun _ _=>trivial)
  obtain ⟨N,hN⟩:=hc.from
  rw [Mm_self hb] at hN
  have hu:IntKind.u64.wrap (n:Int)=(n:Int):=by rw [wrapU64]; omega
  have t:=st_a_0 N db n none H 0 (m0:=(lenN n:Int)) (H0:=H) (fun kf _=>by
    rw [hu,prim_call (pol:=polSo) (g:=82) (F:=len95) (by kernel_rfl) (rs:=[.int .u64 (n:Int)]) rfl (res:=.int .i64 (lenN n:Int)) (by simp only [len95]; rw [if_pos (by omega),Int.toNat_natCast])]; rfl) hN
  have hc2:=CallsTo.shared (P:=Tp) (pol:=polSo) (g:=76) (fn:=Try.f76) (cd:=B76) (args:=[.sl db 0 n none n 3,.func 77 [] []]) (v:=.tuple []) (by kernel_rfl) (by kernel_rfl) (by kernel_rfl) (by kernel_rfl) t (by kernel_rfl) (by simp) (by kernel_rfl)
  have e:Mm encE H db l' []=H.set db (bE encE l'):=by unfold Mm; rw [List.append_nil]
  rw [e,gc_eq _ (by simp)] at hc2
  exact ⟨l',hc2,h1,by rw [h1.length_eq,hl]; exact h2⟩
end Go.Proofs.Ytlendaofkmhgmaa
end
section
open Go Go.HL
namespace Go.Proofs.Ytlendaofkmhgmaa
set_option maxRecDepth 100000
set_option linter.unusedSectionVars false
open Go.Proofs.Try renaming prog → Tp
open Go.HL.HV renaming undef → Ud
noncomputable def B70:Code:=Try.f70.body.getD .skip
abbrev env70 (v0 v1 v2 v5 v6 v7 v8 v9 v11 v12:HV):Env:=[(0,v0),(1,v1),(2,v2),(5,v5),(6,v6),(7,v7),(8,v8),(9,v9),(11,v11),(12,v12)]
abbrev e70 (rw:List HV) (f:Nat) (ps:List HV) (m:Nat) (u6 u7 u8 u9:HV):Env:=env70 (.a rw) (.n f) (.agg ps) (.q 0) (.imm .lit 3 []) (.sl 1 0 m none m 3) u6 u7 u8 u9
section
variable (N:Nat) (rw ps:List HV) (f:Nat)
include N rw ps f
theorem ed_a_0 (g0:(if (cellsOf (.agg ps)).all cellV then some (newV (.agg ps) []) else none)=some (.q 0,[.arr 11 [.agg ps] true 0])): RT polSo 70 (sn 2 B70) [(0,.a rw),(1,.n f),(2,.agg ps)] [] .normal (env70 (.a rw) (.n f) (.agg ps) (.q 0) (.imm .lit 3 []) Ud Ud Ud Ud Ud) [.arr 11 [.agg ps] true 0] :=
  hx N 60 [jR 0 0 g0]
end
section
variable (N:Nat) (rw ps:List HV) (f:Nat)
include N rw ps f
theorem ed_b_0 {y7 y8 y9 y11 y12:HV}: RT polSo 70 (sn 6 B70) (env70 (.a rw) (.n f) (.agg ps) (.q 0) (.imm .lit 3 []) y7 y8 y9 y11 y12) [.arr 11 [.agg ps] true 0] .normal (env70 (.a rw) (.n f) (.agg ps) (.q 0) (.imm .lit 3 []) (.sl 1 0 0 none 0 3) y8 y9 y11 y12) [.arr 11 [.agg ps] true 0,.arr 3 [] true 0] :=
  hx N 60 []
theorem ed_c_0 (m:Nat) (es:List HV) {y8 y9 y11 y12:HV}: RT polSo 70 (sn 28 B70) (e70 rw f ps m y8 y9 y11 y12) [.arr 11 [.agg ps] true 0,.arr 3 es true 0] .normal (e70 rw f ps m y8 y9 (.i (rw.length:Int)) (.i 0)) [.arr 11 [.agg ps] true 0,.arr 3 es true 0] :=
  hx N 60 []
theorem ed_d_0 (m:Nat) (es:List HV) (i:Nat) {y8 y9:HV} (g0:(i:Int) < (rw.length:Int)): RunsTo Tp polSo 70 (sn 232 B70) (e70 rw f ps m y8 y9 (.i (rw.length:Int)) (.n i)) [.arr 11 [.agg ps] true 0,.arr 3 es true 0] .normal [0,1,2,5,6,7,8,9,11,12,13] [(0,.a rw),(1,.n f),(2,.agg ps),(5,.q 0),(6,.imm .lit 3 []),(7,.sl 1 0 m none m 3),(8,y8),(9,y9),(11,.i (rw.length:Int)),(12,.n i),(13,.bool true)] [.arr 11 [.agg ps] true 0,.arr 3 es true 0] :=
  hx N 60 [jT 3 0 [.arr 11 [.agg ps] true 0,.arr 3 es true 0] g0]
theorem ed_d_1 (m:Nat) (es:List HV) (i:Nat) {y8 y9:HV} (g0:¬ ((i:Int) < (rw.length:Int))): RunsTo Tp polSo 70 (sn 232 B70) (e70 rw f ps m y8 y9 (.i (rw.length:Int)) (.n i)) [.arr 11 [.agg ps] true 0,.arr 3 es true 0] .normal [0,1,2,5,6,7,8,9,11,12,13] [(0,.a rw),(1,.n f),(2,.agg ps),(5,.q 0),(6,.imm .lit 3 []),(7,.sl 1 0 m none m 3),(8,y8),(9,y9),(11,.i (rw.length:Int)),(12,.n i),(13,.bool false)] [.arr 11 [.agg ps] true 0,.arr 3 es true 0] :=
  hx N 60 [jF 3 0 [.arr 11 [.agg ps] true 0,.arr 3 es true 0] g0]
theorem ed_et_0 (m:Nat) (es:List HV) (i:Nat) {y8 y9:HV}: RT polSo 70 (sn 466 B70) [(0,.a rw),(1,.n f),(2,.agg ps),(5,.q 0),(6,.imm .lit 3 []),(7,.sl 1 0 m none m 3),(8,y8),(9,y9),(11,.i (rw.length:Int)),(12,.n i),(13,.bool true)] [.arr 11 [.agg ps] true 0,.arr 3 es true 0] .normal (e70 rw f ps m y8 y9 (.i (rw.length:Int)) (.n i)) [.arr 11 [.agg ps] true 0,.arr 3 es true 0] :=
  hx N 60 []
theorem ed_ef_0 (m:Nat) (es:List HV) (i:Nat) {y8 y9:HV}: RT polSo 70 (sn 466 B70) [(0,.a rw),(1,.n f),(2,.agg ps),(5,.q 0),(6,.imm .lit 3 []),(7,.sl 1 0 m none m 3),(8,y8),(9,y9),(11,.i (rw.length:Int)),(12,.n i),(13,.bool false)] [.arr 11 [.agg ps] true 0,.arr 3 es true 0] (.exit 0) (e70 rw f ps m y8 y9 (.i (rw.length:Int)) (.n i)) [.arr 11 [.agg ps] true 0,.arr 3 es true 0] :=
  hx N 60 []
theorem ed_f_0 (m:Nat) (es:List HV) (i:Nat) {y8 y9:HV}: RT polSo 70 (sn 3736 B70) (e70 rw f ps m y8 y9 (.i (rw.length:Int)) (.n i)) [.arr 11 [.agg ps] true 0,.arr 3 es true 0] .normal (e70 rw f ps m (.n i) y9 (.i (rw.length:Int)) (.n i)) [.arr 11 [.agg ps] true 0,.arr 3 es true 0] :=
  hx N 60 []
theorem ed_g_0 (m:Nat) (es:List HV) (i:Nat) {y9:HV}: RT polSo 70 (sn 7474 B70) (e70 rw f ps m (.n i) y9 (.i (rw.length:Int)) (.n i)) [.arr 11 [.agg ps] true 0,.arr 3 es true 0] .normal (e70 rw f ps m (.n i) (.n f) (.i (rw.length:Int)) (.n i)) [.arr 11 [.agg ps] true 0,.arr 3 es true 0] :=
  hx N 60 []
theorem ed_h_0 (m:Nat) (es:List HV) (i j:Nat) {l0:List HV} {x0:Int} {x1:Int} {x2:Int} (g0:(j:Int) < (i:Int)) (g1:IX 68 (.a rw) (.n j) (.vptr (.a l0))) (g2:IX 23 (.a l0) (.n i) (.vptr (.i x0))) (g3:IX 66 (.q 0) (.n j) (.ptr 0 0 j 1)) (g4:LD [.arr 11 [.agg ps] true 0,.arr 3 es true 0] 3 (.ptr 0 0 j 1) (.i x1)) (g5:IX 66 (.q 0) (.n i) (.ptr 0 0 i 1)) (g6:LD [.arr 11 [.agg ps] true 0,.arr 3 es true 0] 3 (.ptr 0 0 i 1) (.i x2)) (g7:appV [.arr 11 [.agg ps] true 0,.arr 3 es true 0] 3 24 (.sl 1 0 m none m 3) [.agg [.i (IntKind.i64.wrap (IntKind.i64.wrap (x0+x1)+x2)),.n j,.n i]]=some (.sl 1 0 (m+1) none (m+1) 3,[.arr 11 [.agg ps] true 0,.arr 3 (es ++ [.agg [.i (IntKind.i64.wrap (IntKind.i64.wrap (x0+x1)+x2)),.n j,.n i]]) true 0])): RT polSo 70 (sn 29900 B70) (e70 rw f ps m (.n i) (.n j) (.i (rw.length:Int)) (.n i)) [.arr 11 [.agg ps] true 0,.arr 3 es true 0] .normal (env70 (.a rw) (.n f) (.agg ps) (.q 0) (.imm .lit 3 []) (.sl 1 0 (m+1) none (m+1) 3) (.n i) (.i (IntKind.i64.wrap ((j:Int)+1))) (.i (rw.length:Int)) (.n i)) [.arr 11 [.agg ps] true 0,.arr 3 (es ++ [.agg [.i (IntKind.i64.wrap (IntKind.i64.wrap (x0+x1)+x2)),.n j,.n i]]) true 0] :=
  hx N 60 [jT 6 2 [.arr 11 [.agg ps] true 0,.arr 3 es true 0] g0,jO 8 3 [.arr 11 [.agg ps] true 0,.arr 3 es true 0] g1,jO 8 6 [.arr 11 [.agg ps] true 0,.arr 3 es true 0] g2,jO 8 9 [.arr 11 [.agg ps] true 0,.arr 3 es true 0] g3,jO 8 10 [.arr 11 [.agg ps] true 0,.arr 3 es true 0] g4,jO 8 13 [.arr 11 [.agg ps] true 0,.arr 3 es true 0] g5,jO 8 14 [.arr 11 [.agg ps] true 0,.arr 3 es true 0] g6,jR 8 20 g7]
theorem ed_h_1 (m:Nat) (es:List HV) (i j:Nat) (g0:¬ ((j:Int) < (i:Int))): RT polSo 70 (sn 29900 B70) (e70 rw f ps m (.n i) (.n j) (.i (rw.length:Int)) (.n i)) [.arr 11 [.agg ps] true 0,.arr 3 es true 0] (.exit 2) (e70 rw f ps m (.n i) (.n j) (.i (rw.length:Int)) (.n i)) [.arr 11 [.agg ps] true 0,.arr 3 es true 0] :=
  hx N 60 [jF 6 2 [.arr 11 [.agg ps] true 0,.arr 3 es true 0] g0]
theorem ed_i_0 (m:Nat) (es:List HV) (i:Nat) {y8 y9:HV}: RT polSo 70 (sn 935 B70) (e70 rw f ps m y8 y9 (.i (rw.length:Int)) (.n i)) [.arr 11 [.agg ps] true 0,.arr 3 es true 0] .normal (e70 rw f ps m y8 y9 (.i (rw.length:Int)) (.i (IntKind.i64.wrap ((i:Int)+1)))) [.arr 11 [.agg ps] true 0,.arr 3 es true 0] :=
  hx N 60 []
theorem ed_j_0 (m:Nat) (es:List HV) {y8 y9 y11 y12:HV} {H0:Heap} (g0:∀ kf,N ≤ kf → callN Tp polSo (kf+1) 76 [.sl 1 0 m none m 3,.func 77 [] []] [.arr 11 [.agg ps] true 0,.arr 3 es true 0]=some (.tuple [],H0)): RT polSo 70 (sn 15 B70) (e70 rw f ps m y8 y9 y11 y12) [.arr 11 [.agg ps] true 0,.arr 3 es true 0] .ret (env70 (.a rw) (.n f) (.agg ps) (.q 0) (.sl 1 0 m none m 3) (.sl 1 0 m none m 3) y8 y9 y11 y12) H0 :=
  hx N 60 [jC 10 1 g0]
end
end Go.Proofs.Ytlendaofkmhgmaa
end
section
open Go Go.HL
namespace Go.Proofs.Ytlendaofkmhgmaa
set_option linter.unusedSectionVars false
open Go.Proofs.Try renaming prog → Tp
open Go.HL.HV renaming undef → Ud
set_option maxRecDepth 100000 in
theorem awake_fast:callNF Tp pol 200 20 [] []=some (.bool true,[]):=by kernel_rfl
theorem awake_prim:PrimOk Tp 20 awakeF:=by
  refine primOk_of (pol:=pol) sound (by kernel_rfl) fun args res h=>?_
  match args,h with
  | [],h =>
    cases h
    exact ⟨200,_,_,false,by rw [← callNF_eq]; exact awake_fast,rfl⟩
section
variable {d:List (List Int)}
theorem g22' {v:Nat} (hv:v < d.length):idxV Tp 22 (.imm .arg 1 (d.map encR)) (.int .i64 (v:Int))=some (.vptr (.imm .arg 1 ((d.getD v []).map hvI))):=gr hv
theorem g23' (h:okD d) {v u:Nat} (hv:v < d.length) (hu:u < d.length):idxV Tp 23 (.imm .arg 1 ((d.getD v []).map hvI)) (.int .i64 (u:Int))=some (.vptr (.int .i64 (at2 d v u))):=gx (by rw [h.2.1 v hv]; exact hu)
end
end Go.Proofs.Ytlendaofkmhgmaa
end
section
open Go Go.HL Go.HL.So
namespace Go.Proofs.Ytlendaofkmhgmaa
set_option linter.unusedSectionVars false
open Go.Proofs.Try renaming prog → Tp
open Go.HL.HV renaming undef → Ud
theorem res70:Try.f70.results.toList=[.tmp 6]:=by kernel_rfl
theorem u66:Tp.underlying 66=some (.array 11 3):=by kernel_rfl
def Small (ps:List Int):Prop:=ps.length=11∧∀ x ∈ ps,-1000000000 ≤ x∧x ≤ 1000000000
def mpF (f:List (List Int) → Int → List Int → Option HV):List HV → Option HV
  | [.imm .arg 1 rw,.int .i64 a,.agg pv]=>(match mapO decR rw,mapO decI pv with | some R,some ps=>f R a ps | _,_=>none)
  | _=>none
theorem mpF_inv {f:List (List Int) → Int → List Int → Option HV} {args:List HV} {res:HV} (h:mpF f args=some res):∃ R a ps,args=[.imm .arg 1 (R.map encR),.int .i64 a,.agg (ps.map hvI)]∧f R a ps=some res:=by
  unfold mpF at h
  split at h
  · rename_i rw a pv
    split at h
    · rename_i R ps hR hp
      exact ⟨R,a,ps,by rw [mapO_inv decR_inv hR,mapO_inv decI_inv hp],h⟩
    · cases h
  · cases h
open Classical in
noncomputable def edges70:List HV → Option HV:=mpF fun R a ps=>if okD R∧(0 ≤ a∧a ≤ R.length)∧Small ps then some (.own 3 ((edg R ps a.toNat).map encE)) else none
section
variable {d:List (List Int)} {ps:List Int} {f:Nat}
abbrev pB (ps:List Int):Blk:=.arr 11 [.agg (ps.map hvI)] true 0
abbrev edH (ps:List Int) (l:List Ed):Heap:=[pB ps,bE encE l]
theorem Small.at (h:Small ps) {i:Nat} (hi:i < 11):-1000000000 ≤ ps.getD i 0∧ps.getD i 0 ≤ 1000000000:=by
  have hl:=h.1
  have:ps.getD i 0=ps[i]:=by simp [List.getD,List.getElem?_eq_getElem (show i < ps.length by omega)]
  rw [this]; exact h.2 _ (List.getElem_mem _)
theorem gmn {R:List (List Int)} {y:Nat} (hy:y < R.length):idxV Tp 68 (.imm .arg 1 (R.map encR)) (.int .i64 (y:Int))=some (.vptr (.imm .arg 1 ((R.getD y []).map hvI))):=by
  have:=gm (R:=R) (y:=(y:Int)) (by omega) (by omega)
  rwa [Int.toNat_natCast] at this
theorem box_p (hp:ps.length=11):(if (cellsOf (.agg (ps.map hvI))).all cellV then some (newV (.agg (ps.map hvI)) []) else none)=some (.ptr 0 0 0 1,[pB ps]):=by
  have h:(cellsOf (.agg (ps.map hvI))).all cellV=true:=by simp [cellsOf,cellV,hvI]
  rw [if_pos h]
  simp only [newV,cellsOf,bnd,ints_bnd,List.length_map,hp]; rfl
theorem px {H:Heap} {b tot:Nat} {i:Nat} (hi:i < 11):idxV Tp 66 (.ptr b 0 0 tot) (.int .i64 (i:Int))=some (.ptr b 0 i tot):=by
  have:=idx_arr (P:=Tp) (t:=66) (e:=3) (b:=b) (i:=0) (m:=11) (tot:=tot) (ik:=.i64) (n:=(i:Int)) u66 z3 (by omega) (by omega)
  rwa [Int.toNat_natCast] at this
theorem pl_at {H:Heap} {b i:Nat} (hb:H[b]?=some (pB ps)) (hp:ps.length=11) (hi:i < 11):loadV Tp H 3 (.ptr b 0 i 1)=some (.int .i64 (ps.getD i 0)) :=
  load_cell (b:=b) hb rfl rfl a3 i3 (by rw [List.getElem?_map,List.getElem?_eq_getElem (by omega)]; simp [List.getD,List.getElem?_eq_getElem (show i < ps.length by omega),hvI])
theorem encE_bnd:∀ (l:List Ed),bndL (l.map encE)=0
  | []=>rfl
  | a :: l=>by simp only [List.map_cons,bndL,encE_bnd l,encE,bnd]; rfl
theorem app_E {H:Heap} {b:Nat} {o:List Ed} (hb:H[b]?=some (bE encE o)) (hl:o.length ≤ 1000) (e:Ed) :
    appV H 3 24 (.sl b 0 o.length none o.length 3) [encE e]=some (.sl b 0 (o.length+1) none (o.length+1) 3,H.set b (bE encE (o ++ [e]))):=by
  have:=app_sl (H:=H) (k:=3) (bytes:=24) (b:=b) (n:=o.length) (mx:=0) (els:=o.map encE) (xs:=[encE e]) hb (by simp) (by simp) (by simp only [roomMax,List.length_singleton]; omega) (encE_bnd [e])
  rw [this]
  simp only [bE,List.map_append,List.map_cons,List.map_nil,List.length_singleton]
theorem edRow_len {b:Nat}:∀ k a,(edRow d ps b k a).length=k
  | 0,_=>rfl
  | k+1,a=>by simp [edRow,edRow_len k]
abbrev edE (d:List (List Int)) (ps:List Int) (f m:Nat) (v8 v9 v11 v12:HV):Env:=(env70 (.a (d.map encR)) (.i (f:Int)) (.agg (ps.map hvI)) (.q 0) (.imm .lit 3 []) (.sl 1 0 m none m 3) v8 v9 v11 v12)
theorem ed_in (hd:okD d) (hp:Small ps) {i:Nat} (hi:i < d.length):∀ k j (o:List Ed),j+k=i → o.length+k ≤ 500 →
    RT polSo 70 (sn 14950 B70) (edE d ps f o.length (.int .i64 (i:Int)) (.int .i64 (j:Int)) (.int .i64 (d.length:Int)) (.int .i64 (i:Int))) (edH ps o) (.exit 2)
      (edE d ps f (o ++ edRow d ps i k j).length (.int .i64 (i:Int)) (.int .i64 (i:Int)) (.int .i64 (d.length:Int)) (.int .i64 (i:Int))) (edH ps (o ++ edRow d ps i k j)):=by
  have hn:=hd.1
  intro k
  induction k with
  | zero =>
    intro j o hj hl
    have:j=i:=by omega
    subst this
    have s:=ed_h_1 0 (d.map encR) (ps.map hvI) f o.length (o.map encE) j j (by omega)
    rw [List.length_map] at s
    rw [edRow,List.append_nil]
    exact lpo (s)
  | succ k ih =>
    intro j o hj hl
    have b1:=hd.at (i:=j) (j:=i) (by omega) hi
    have b2:=hp.at (i:=j) (by omega)
    have b3:=hp.at (i:=i) (by omega)
    have e:IntKind.i64.wrap (IntKind.i64.wrap (at2 d j i+ps.getD j 0)+ps.getD i 0)=cst d ps j i:=by
      rw [wrap_id (n:=at2 d j i+ps.getD j 0) (by omega) (by omega),wrap_id (by omega) (by omega)]; rfl
    have ap:=app_E (H:=edH ps o) (b:=1) (o:=o) rfl (by omega) (mkE d ps j i)
    have s:=ed_h_0 0 (d.map encR) (ps.map hvI) f o.length (o.map encE) i j (by omega) (gmn (by omega)) (g23' hd (by omega) hi) (px (H:=[]) (by omega)) (pl_at (H:=edH ps o) rfl hp.1 (by omega)) (px (H:=[]) (by omega)) (pl_at (H:=edH ps o) rfl hp.1 (by omega)) (by
      rw [e]
      rw [show [HV.agg [.int .i64 (cst d ps j i),.int .i64 (j:Int),.int .i64 (i:Int)]]=[encE (mkE d ps j i)] from rfl]
      have:=ap
      rw [show edH ps o=[.arr 11 [.agg (ps.map hvI)] true 0,.arr 3 (o.map encE) true 0] from rfl] at this
      rw [this]
      simp [bE,edH])
    rw [wrap_succ (by omega),List.length_map] at s
    have hs:o.map encE ++ [HV.agg [.int .i64 (IntKind.i64.wrap (IntKind.i64.wrap (at2 d j i+ps.getD j 0)+ps.getD i 0)),.int .i64 (j:Int),.int .i64 (i:Int)]]=(o ++ [mkE d ps j i]).map encE:=by rw [e]; simp [encE]
    rw [hs] at s
    have r:=ih (j+1) (o ++ [mkE d ps j i]) (by omega) (by simp; omega)
    rw [List.append_assoc,show [mkE d ps j i] ++ edRow d ps i k (j+1)=edRow d ps i (k+1) j from rfl,show (o ++ [mkE d ps j i]).length=o.length+1 by simp] at r
    exact lop (s) (gc_eq _ rfl) (r)
theorem ed_out (hd:okD d) (hp:Small ps) (hf:f ≤ d.length):∀ k i (o:List Ed),i+k=d.length → o.length+k * (i+k) ≤ 200 →
    ∃ y8 y9,RT polSo 70 (sn 58 B70) (edE d ps f o.length Ud Ud (.int .i64 (d.length:Int)) (.int .i64 (i:Int))) (edH ps o) (.exit 0)
      (edE d ps f (o ++ edAll d ps f k i).length y8 y9 (.int .i64 (d.length:Int)) (.int .i64 (d.length:Int))) (edH ps (o ++ edAll d ps f k i)):=by
  have hn:=hd.1
  intro k
  induction k with
  | zero =>
    intro i o hi hl
    have:i=d.length:=by omega
    subst this
    have s:=ed_d_1 0 (d.map encR) (ps.map hvI) f o.length (o.map encE) d.length (y8:=Ud) (y9:=Ud) (by simp)
    have s2:=ed_ef_0 0 (d.map encR) (ps.map hvI) f o.length (o.map encE) d.length (y8:=Ud) (y9:=Ud)
    rw [List.length_map] at s s2
    rw [edAll,List.append_nil]
    exact ⟨_,_,lpo (sq (s) (sqo (s2) (c:=sn 233 B70) (b:=sn 467 B70)) (c:=sn 116 B70))⟩
  | succ k ih =>
    intro i o hi hl
    have hm:o.length+(k+1) * (i+(k+1))=o.length+(i+(k+1))+k * (i+1+k):=by
      rw [Nat.add_mul,Nat.one_mul,show i+(k+1)=i+1+k by omega]; omega
    have s:=ed_d_0 0 (d.map encR) (ps.map hvI) f o.length (o.map encE) i (y8:=Ud) (y9:=Ud) (by rw [List.length_map]; omega)
    have s2:=ed_et_0 0 (d.map encR) (ps.map hvI) f o.length (o.map encE) i (y8:=Ud) (y9:=Ud)
    have s3:=ed_f_0 0 (d.map encR) (ps.map hvI) f o.length (o.map encE) i (y8:=Ud) (y9:=Ud)
    have s4:=ed_g_0 0 (d.map encR) (ps.map hvI) f o.length (o.map encE) i (y9:=Ud)
    rw [List.length_map] at s s2 s3 s4
    by_cases hfi:f ≤ i
    · have r:=ed_in (f:=f) hd hp (i:=i) (by omega) (i - f) f o (by omega) (by omega)
      have s5:=ed_i_0 0 (d.map encR) (ps.map hvI) f (o ++ edRow d ps i (i - f) f).length ((o ++ edRow d ps i (i - f) f).map encE) i (y8:=.i (i:Int)) (y9:=.i (i:Int))
      rw [wrap_succ (by omega),List.length_map] at s5
      have st:=sq (s) (sq (s2) (sq (RunsTo.block_normal (i:=1) (c:=sn 934 B70) (sq (s3) (sq (s4) (bke (c:=sn 7475 B70) (r)) (c:=sn 3737 B70)) (c:=sn 1868 B70)) (by kernel_rfl)) (s5) (c:=sn 467 B70)) (c:=sn 233 B70)) (c:=sn 116 B70)
      obtain ⟨y8,y9,r2⟩:=ih (i+1) (o ++ edRow d ps i (i - f) f) (by omega) (by rw [List.length_append,edRow_len]; omega)
      rw [List.append_assoc,show edRow d ps i (i - f) f ++ edAll d ps f k (i+1)=edAll d ps f (k+1) i from rfl] at r2
      exact ⟨y8,y9,lop (st) (gc_eq _ rfl) (r2)⟩
    · have sx:=ed_h_1 0 (d.map encR) (ps.map hvI) f o.length (o.map encE) i f (by omega)
      have s5:=ed_i_0 0 (d.map encR) (ps.map hvI) f o.length (o.map encE) i (y8:=.i (i:Int)) (y9:=.i (f:Int))
      rw [List.length_map] at sx s5
      rw [wrap_succ (by omega)] at s5
      have st:=sq (s) (sq (s2) (sq (RunsTo.block_normal (i:=1) (c:=sn 934 B70) (sq (s3) (sq (s4) (bke (c:=sn 7475 B70) (lpo (sx) (c:=sn 14950 B70))) (c:=sn 3737 B70)) (c:=sn 1868 B70)) (by kernel_rfl)) (s5) (c:=sn 467 B70)) (c:=sn 233 B70)) (c:=sn 116 B70)
      obtain ⟨y8,y9,r2⟩:=ih (i+1) o (by omega) (by omega)
      have e:edAll d ps f (k+1) i=edAll d ps f k (i+1):=by
        rw [edAll,show i - f=0 by omega]; rfl
      rw [← e] at r2
      exact ⟨y8,y9,lop (st) (gc_eq _ rfl) (r2)⟩
end
theorem frz_E {H:Heap} {no:List Nat} {n:Nat} (e:Ed):frz H no (n+1) (encE e)=some (encE e):=by
  show (match mapO (frz H no n) [.int .i64 e.1,.int .i64 e.2.1,.int .i64 e.2.2] with | some l=>some (HV.agg l) | none=>none)=_
  have h1:∀ x:Int,frz H no n (.int .i64 x)=some (.int .i64 x):=fun x=>frz_int n x
  simp only [mapO,h1]; rfl
theorem edges_ok:PrimOk Tp 70 edges70:=by
  refine primOk_pure (pol:=polSo) (fn:=Try.f70) (cd:=B70) follows_mixed soundSo (by kernel_rfl) (by kernel_rfl) (fnok polSo.prim _ _ (by kernel_rfl)) (by kernel_rfl) ?_
  intro args res h
  obtain ⟨d,a0,ps,rfl,hq⟩:=mpF_inv h
  clear h
  split at hq
  · rename_i hc
    obtain ⟨hd,ha,hp⟩:=hc
    cases hq
    have hn:=hd.1
    obtain ⟨f,rfl⟩:∃ x:Nat,a0=(x:Int):=⟨a0.toNat,by omega⟩
    rw [Int.toNat_natCast]
    have s0:=ed_a_0 0 (d.map encR) (ps.map hvI) f (box_p hp.1)
    have s1:=ed_b_0 0 (d.map encR) (ps.map hvI) f (y7:=Ud) (y8:=Ud) (y9:=Ud) (y11:=Ud) (y12:=Ud)
    have s2:=ed_c_0 0 (d.map encR) (ps.map hvI) f 0 [] (y8:=Ud) (y9:=Ud) (y11:=Ud) (y12:=Ud)
    rw [List.length_map] at s2
    have hkk:d.length * d.length ≤ 11 * 11:=Nat.mul_le_mul hn.2 hn.2
    obtain ⟨y8,y9,r⟩:=ed_out (f:=f) hd hp (by omega) d.length 0 [] (by omega) (by simp; omega)
    rw [List.nil_append] at r
    have hl:=edAll_len (d:=d) (p:=ps) (f:=f) d.length 0
    rw [Nat.zero_add] at hl
    obtain ⟨l',hc,h1,h2⟩:=sortE_ok (H:=edH ps (edAll d ps f d.length 0)) (db:=1) (l:=edAll d ps f d.length 0) (by omega) rfl rfl (by simp [mxs,Blk.mx,bE])
    have he:=edg_eq (by omega) h1 h2
    subst he
    obtain ⟨N,hN⟩:=hc.from
    have s3:=ed_j_0 N (d.map encR) (ps.map hvI) f (edAll d ps f d.length 0).length ((edAll d ps f d.length 0).map encE) (y8:=y8) (y9:=y9) (y11:=.i (d.length:Int)) (y12:=.i (d.length:Int)) hN
    have r':=lpi (e0:=edE d ps f 0 Ud Ud (.int .i64 (d.length:Int)) (.int .i64 0)) r (b:=sn 116 B70)
    have t:=sq (s0) (sq (s1) (sq (sq (s2) (bke (c:=sn 29 B70) (r')) (c:=sn 14 B70)) (s3) (c:=sn 7 B70)) (c:=sn 3 B70)) (c:=B70)
    have hll:(edAll d ps f d.length 0).length=(edg d ps f).length:=h1.length_eq.symm
    rw [hll] at t
    have hr:=resCell_sl (H:=[pB ps,bE encE (edg d ps f)]) (no:=[1]) (b:=1) (k:=3) (m:=(edg d ps f).length) (cap:=none) (els:=(edg d ps f).map encE) rfl (by simp) (mapO_self (fun e=>frz_E (n:=3) e) _)
    have ho:ownedAll [pB ps,bE encE (edg d ps f)] false (.sl 1 0 (edg d ps f).length none (edg d ps f).length 3)=[1]:=by simp [ownedAll,cellsOf,owned,bE]
    refine ⟨_,_,_,.sl 1 0 (edg d ps f).length none (edg d ps f).length 3,t,by simp,by simp only [resultsV,res70]; rfl,?_⟩
    show toRes [pB ps,bE encE (edg d ps f)] false (.sl 1 0 (edg d ps f).length none (edg d ps f).length 3)=_
    simp only [toRes,ho,List.nodup_cons,List.not_mem_nil,not_false_eq_true,List.nodup_nil,and_self,if_true,resVal,hr]
  · cases hq
theorem getDs (o:List Int) (i k:Nat) (v:Int) (hi:i < o.length):(o.set i v).getD k 0=if i=k then v else o.getD k 0:=by
  simp only [List.getD,List.getElem?_set,hi]
  split
  · rename_i e; subst e; simp
  · rfl
def rlb (o w:Int):Nat → Nat → List Int → List Int
  | 0,_,g=>g
  | k+1,j,g=>rlb o w k (j+1) (if g.getD j 0=o then g.set j w else g)
def krP:List Ed → List Int → List Ed
  | [],_=>[]
  | e :: l,g=>if g.getD e.2.1.toNat 0=g.getD e.2.2.toNat 0 then krP l g else e :: krP l (rlb (g.getD e.2.1.toNat 0) (g.getD e.2.2.toNat 0) g.length 0 g)
def krD:List Ed → List Int → List Ed
  | [],_=>[]
  | e :: l,g=>if g.getD e.2.1.toNat 0=g.getD e.2.2.toNat 0 then krD l g else e :: krD l (rlb (g.getD e.2.2.toNat 0) (g.getD e.2.1.toNat 0) g.length 0 g)
def iota (n:Nat):List Int:=(List.range n).map fun i:Nat=>(i:Int)
def treeL (d:List (List Int)) (ps:List Int) (f:Nat):List Ed:=krP (edg d ps f) (iota d.length)
theorem rlb_len (o w:Int):∀ k j g,(rlb o w k j g).length=g.length
  | 0,_,_=>rfl
  | k+1,j,g=>by
    rw [rlb,rlb_len o w k]
    split
    · simp
    · rfl
theorem rlb_get (o w:Int):∀ k j (g:List Int),j+k=g.length → ∀ x,(rlb o w k j g).getD x 0=if j ≤ x∧x < g.length∧g.getD x 0=o then w else g.getD x 0
  | 0,j,g,h,x=>by rw [rlb,if_neg (by omega)]
  | k+1,j,g,h,x=>by
    rw [rlb]
    by_cases c:g.getD j 0=o
    · rw [if_pos c,rlb_get o w k (j+1) _ (by simp; omega),List.length_set,getDs _ _ _ _ (by omega)]
      by_cases e:j=x
      · subst e
        rw [if_neg (by omega),if_pos rfl,if_pos ⟨Nat.le_refl _,by omega,c⟩]
      · rw [if_neg e]
        by_cases c2:j+1 ≤ x∧x < g.length∧g.getD x 0=o
        · rw [if_pos c2,if_pos ⟨by omega,c2.2⟩]
        · rw [if_neg c2,if_neg (fun h=>c2 ⟨by omega,h.2⟩)]
    · rw [if_neg c,rlb_get o w k (j+1) g (by omega)]
      by_cases c2:j+1 ≤ x∧x < g.length∧g.getD x 0=o
      · rw [if_pos c2,if_pos ⟨by omega,c2.2⟩]
      · rw [if_neg c2,if_neg (fun h=>c2 ⟨by
          rcases Nat.lt_or_ge j x with h1 | h1
          · omega
          · have:x=j:=by omega
            subst this; exact absurd h.2.2 c,h.2⟩)]
theorem rlb_at (o w:Int) (g:List Int) {x:Nat} (hx:x < g.length):(rlb o w g.length 0 g).getD x 0=if g.getD x 0=o then w else g.getD x 0:=by
  rw [rlb_get o w g.length 0 g (by omega)]
  by_cases c:g.getD x 0=o
  · rw [if_pos ⟨Nat.zero_le _,hx,c⟩,if_pos c]
  · rw [if_neg (fun h=>c h.2.2),if_neg c]
def Eqv (n:Nat) (g h:List Int):Prop:=(g.length=n∧h.length=n)∧∀ x y,x < n → y < n → (g.getD x 0=g.getD y 0 ↔ h.getD x 0=h.getD y 0)
def EIn (n:Nat) (l:List Ed):Prop:=∀ e ∈ l,(0 ≤ e.2.1∧e.2.1.toNat < n)∧0 ≤ e.2.2∧e.2.2.toNat < n
theorem Eqv.step {n:Nat} {g h:List Int} (he:Eqv n g h) {a b:Nat} (ha:a < n) (hb:b < n):Eqv n (rlb (g.getD a 0) (g.getD b 0) g.length 0 g) (rlb (h.getD b 0) (h.getD a 0) h.length 0 h):=by
  obtain ⟨⟨h1,h2⟩,h3⟩:=he
  refine ⟨⟨by rw [rlb_len]; exact h1,by rw [rlb_len]; exact h2⟩,fun x y hx hy=>?_⟩
  rw [rlb_at _ _ _ (by omega),rlb_at _ _ _ (by omega),rlb_at _ _ _ (by omega),rlb_at _ _ _ (by omega)]
  have q1:=h3 x a hx ha
  have q2:=h3 y a hy ha
  have q3:=h3 x b hx hb
  have q4:=h3 y b hy hb
  have q5:=h3 x y hx hy
  have q6:=h3 a b ha hb
  generalize g.getD x 0=gx at *
  generalize g.getD y 0=gy at *
  generalize g.getD a 0=ga at *
  generalize g.getD b 0=gb at *
  generalize h.getD x 0=hx' at *
  generalize h.getD y 0=hy' at *
  generalize h.getD a 0=ha' at *
  generalize h.getD b 0=hb' at *
  split <;> split <;> split <;> split <;> (constructor <;> intro q <;> omega)
theorem kr_eq {n:Nat}:∀ (l:List Ed) (g h:List Int),EIn n l → Eqv n g h → krP l g=krD l h
  | [],_,_,_,_=>rfl
  | e :: l,g,h,hl,he=>by
    obtain ⟨⟨_,h1⟩,_,h2⟩:=hl e (by simp)
    have hl':EIn n l:=fun x hx=>hl x (by simp [hx])
    rw [krP,krD]
    by_cases c:g.getD e.2.1.toNat 0=g.getD e.2.2.toNat 0
    · rw [if_pos c,if_pos ((he.2 _ _ h1 h2).1 c),kr_eq l g h hl' he]
    · rw [if_neg c,if_neg (fun q=>c ((he.2 _ _ h1 h2).2 q)),kr_eq l _ _ hl' (he.step h1 h2)]
theorem Eqv.refl {n:Nat} {g:List Int} (h:g.length=n):Eqv n g g:=⟨⟨h,h⟩,fun _ _ _ _=>Iff.rfl⟩
theorem iota_len (n:Nat):(iota n).length=n:=by simp [iota]
theorem iota_at {n x:Nat} (hx:x < n):(iota n).getD x 0=(x:Int):=by simp [iota,List.getD,List.getElem?_map,List.getElem?_range hx]
theorem edg_in {d:List (List Int)} {ps:List Int} {f:Nat} (hf:f ≤ d.length):EIn d.length (edg d ps f):=fun e he=>by
  obtain ⟨x,y,h,rfl⟩:=((edg_ok (d:=d) (p:=ps) hf).2 e).1 he
  refine ⟨⟨?_,?_⟩,?_,?_⟩
  · show (0:Int) ≤ (x:Int); omega
  · show ((x:Int)).toNat < d.length; omega
  · show (0:Int) ≤ (y:Int); omega
  · show ((y:Int)).toNat < d.length; omega
theorem krP_len:∀ (l:List Ed) (g:List Int),(krP l g).length ≤ l.length
  | [],_=>Nat.le_refl _
  | e :: l,g=>by
    rw [krP]
    split
    · have:=krP_len l g; simp; omega
    · have:=krP_len l (rlb (g.getD e.2.1.toNat 0) (g.getD e.2.2.toNat 0) g.length 0 g); rw [List.length_cons,List.length_cons]; omega
theorem krP_mem {e:Ed}:∀ (l:List Ed) (g:List Int),e ∈ krP l g → e ∈ l
  | [],_,h=>h
  | x :: l,g,h=>by
    rw [krP] at h
    split at h
    · exact List.mem_cons_of_mem _ (krP_mem l g h)
    · rcases List.mem_cons.1 h with rfl | h
      · simp
      · exact List.mem_cons_of_mem _ (krP_mem l _ h)
theorem edg_len {d:List (List Int)} {ps:List Int} {f:Nat} (hd:okD d) (hf:f ≤ d.length):(edg d ps f).length ≤ 121:=by
  have hn:=hd.1
  have hkk:d.length * d.length ≤ 11 * 11:=Nat.mul_le_mul hn.2 hn.2
  have hl:=edAll_len (d:=d) (p:=ps) (f:=f) d.length 0
  rw [Nat.zero_add] at hl
  obtain ⟨h1,h2⟩:=edg_ok (d:=d) (p:=ps) hf
  have nd:(edg d ps f).Nodup:=h1.imp (fun {a b} h e=>by subst e; exact ltE_lin.rf _ h)
  have:=nd.length_le_of_subset (l₂:=edAll d ps f d.length 0) (fun e he=>by
    obtain ⟨x,y,h,e'⟩:=(h2 e).1 he
    exact (mem_edAll _ _).2 ⟨x,y,by omega,e'⟩)
  omega
open Classical in
noncomputable def spanning61:List HV → Option HV:=mpF fun R a ps=>if okD R∧(0 ≤ a∧a ≤ R.length)∧Small ps then some (.own 3 ((treeL R ps a.toNat).map encE)) else none
noncomputable def polSp:Pol:={ pol with prim:=fun g=>if g == 70 then some edges70 else none }
theorem soundSp (n:Nat):CallSound Tp (callN Tp polSp n):=sound_prim _ (fun g f h=>by
  split at h
  · rename_i hg; cases h; rw [eq_of_beq hg]; exact edges_ok
  · cases h) n
end Go.Proofs.Ytlendaofkmhgmaa
end
section
open Go Go.HL
namespace Go.Proofs.Ytlendaofkmhgmaa
set_option maxRecDepth 100000
set_option linter.unusedSectionVars false
open Go.Proofs.Try renaming prog → Tp
open Go.HL.HV renaming undef → Ud
noncomputable def B61:Code:=Try.f61.body.getD .skip
abbrev env61 (v0 v1 v2 v5 v6 v7 v8 v9 v11 v12 v13 v14 v19 v20 v31 v32 v33 v55 v56:HV):Env:=[(0,v0),(1,v1),(2,v2),(5,v5),(6,v6),(7,v7),(8,v8),(9,v9),(11,v11),(12,v12),(13,v13),(14,v14),(19,v19),(20,v20),(31,v31),(32,v32),(33,v33),(55,v55),(56,v56)]
abbrev e61 (rw:List HV) (f:Nat) (ps:List HV) (n:Nat) (m:Nat) (q:Nat) (u3 u6 u8 u9 u10 u11 u12 u13 u16 u17 u18:HV):Env:=env61 (.a rw) (.n f) (.agg ps) u3 (.imm .lit 3 []) (.o 1 n) u6 (.sl 2 0 m none m 3) u8 u9 u10 u11 u12 u13 (.sl 3 0 q none q 3) (.n q) u16 u17 u18
section
variable (rw ps:List HV) (f:Nat)
include rw ps f
theorem spn_a_0 (g0:(if (cellsOf (.agg ps)).all cellV then some (newV (.agg ps) []) else none)=some (.q 0,[.arr 11 [.agg ps] true 0])): RT polSp 61 (sn 2 B61) [(0,.a rw),(1,.n f),(2,.agg ps)] [] .normal (env61 (.a rw) (.n f) (.agg ps) (.q 0) (.imm .lit 3 []) Ud Ud Ud Ud Ud Ud Ud Ud Ud Ud Ud Ud Ud Ud) [.arr 11 [.agg ps] true 0] :=
  hx 0 60 [jR 0 0 g0]
end
section
variable (rw ps:List HV) (f:Nat)
include rw ps f
theorem spn_b_0 (g0:makeV Tp false 23 (.i (rw.length:Int)) (.i (rw.length:Int)) [.arr 11 [.agg ps] true 0]=some (.sl 1 0 rw.length (some rw.length) rw.length 1,[.arr 11 [.agg ps] true 0,.arr 1 (List.replicate rw.length (.i 0)) true 0])) (y7 y8 y9 y11 y12 y13 y14 y19 y20 y31 y32 y33 y55 y56:HV:=Ud): RT polSp 61 (sn 6 B61) (env61 (.a rw) (.n f) (.agg ps) (.q 0) (.imm .lit 3 []) y7 y8 y9 y11 y12 y13 y14 y19 y20 y31 y32 y33 y55 y56) [.arr 11 [.agg ps] true 0] .normal (env61 (.a rw) (.n f) (.agg ps) (.q 0) (.imm .lit 3 []) (.o 1 rw.length) y8 y9 y11 y12 y13 y14 y19 y20 y31 y32 y33 y55 y56) [.arr 11 [.agg ps] true 0,.arr 1 (List.replicate rw.length (.i 0)) true 0] :=
  hx 0 60 [jR 1 2 g0]
theorem spn_c_0 (n:Nat) (gs:List HV) (y8 y9 y11 y12 y13 y14 y19 y20 y31 y32 y33 y55 y56:HV:=Ud): RT polSp 61 (sn 28 B61) (env61 (.a rw) (.n f) (.agg ps) (.q 0) (.imm .lit 3 []) (.o 1 n) y8 y9 y11 y12 y13 y14 y19 y20 y31 y32 y33 y55 y56) [.arr 11 [.agg ps] true 0,.b gs] .normal (env61 (.a rw) (.n f) (.agg ps) (.q 0) (.imm .lit 3 []) (.o 1 n) y8 y9 y11 y12 y13 y14 (.n n) (.i 0) y31 y32 y33 y55 y56) [.arr 11 [.agg ps] true 0,.b gs] :=
  hx 0 60 []
theorem spn_d_0 (n:Nat) (gs:List HV) (i:Nat) {el0:List HV} (g0:(i:Int) < (n:Int)) (g1:IO 23 1 n i) (g2:ST [.arr 11 [.agg ps] true 0,.b gs] 3 (.ptr 1 i 0 n) (.n i) [.arr 11 [.agg ps] true 0,.b el0]) (y8 y9 y11 y12 y13 y14 y31 y32 y33 y55 y56:HV:=Ud): RT polSp 61 (sn 116 B61) (env61 (.a rw) (.n f) (.agg ps) (.q 0) (.imm .lit 3 []) (.o 1 n) y8 y9 y11 y12 y13 y14 (.n n) (.n i) y31 y32 y33 y55 y56) [.arr 11 [.agg ps] true 0,.b gs] .normal (env61 (.a rw) (.n f) (.agg ps) (.q 0) (.imm .lit 3 []) (.o 1 n) (.n i) y9 y11 y12 y13 y14 (.n n) (.i (IntKind.i64.wrap ((i:Int)+1))) y31 y32 y33 y55 y56) [.arr 11 [.agg ps] true 0,.b el0] :=
  hx 0 60 [jT 3 0 [.arr 11 [.agg ps] true 0,.b gs] g0,jO 5 3 [.arr 11 [.agg ps] true 0,.b gs] g1,jS 5 4 g2]
theorem spn_d_1 (n:Nat) (gs:List HV) (i:Nat) (g0:¬ ((i:Int) < (n:Int))) (y8 y9 y11 y12 y13 y14 y31 y32 y33 y55 y56:HV:=Ud): RT polSp 61 (sn 116 B61) (env61 (.a rw) (.n f) (.agg ps) (.q 0) (.imm .lit 3 []) (.o 1 n) y8 y9 y11 y12 y13 y14 (.n n) (.n i) y31 y32 y33 y55 y56) [.arr 11 [.agg ps] true 0,.b gs] (.exit 0) (env61 (.a rw) (.n f) (.agg ps) (.q 0) (.imm .lit 3 []) (.o 1 n) y8 y9 y11 y12 y13 y14 (.n n) (.n i) y31 y32 y33 y55 y56) [.arr 11 [.agg ps] true 0,.b gs] :=
  hx 0 60 [jF 3 0 [.arr 11 [.agg ps] true 0,.b gs] g0]
theorem spn_e_0 (n:Nat) (gs:List HV) (y8 y9 y11 y12 y13 y14 y19 y20 y31 y32 y33 y55 y56:HV:=Ud): RT polSp 61 (sn 30 B61) (env61 (.a rw) (.n f) (.agg ps) (.q 0) (.imm .lit 3 []) (.o 1 n) y8 y9 y11 y12 y13 y14 y19 y20 y31 y32 y33 y55 y56) [.arr 11 [.agg ps] true 0,.b gs] .normal (env61 (.a rw) (.n f) (.agg ps) (.q 0) (.imm .lit 3 []) (.o 1 n) y8 (.sl 2 0 0 none 0 3) y11 y12 y13 y14 y19 y20 y31 y32 y33 y55 y56) [.arr 11 [.agg ps] true 0,.b gs,.arr 3 [] true 0] :=
  hx 0 60 []
theorem spn_f_0 (n:Nat) (gs:List HV) (m:Nat) (os:List HV) {q:Nat} {es:List HV} (g0:LD [.arr 11 [.agg ps] true 0,.b gs,.arr 3 os true 0] 66 (.q 0) (.agg ps)) (g1:∀ kf,callN Tp polSp (kf+1) 70 [.a rw,.n f,.agg ps] [.arr 11 [.agg ps] true 0,.b gs,.arr 3 os true 0]=some (.sl 3 0 q none q 3,[.arr 11 [.agg ps] true 0,.b gs,.arr 3 os true 0,.arr 3 es true 0])) (y8 y11 y12 y13 y14 y19 y20 y31 y32 y33 y55 y56:HV:=Ud): RT polSp 61 (sn 124 B61) (env61 (.a rw) (.n f) (.agg ps) (.q 0) (.imm .lit 3 []) (.o 1 n) y8 (.sl 2 0 m none m 3) y11 y12 y13 y14 y19 y20 y31 y32 y33 y55 y56) [.arr 11 [.agg ps] true 0,.b gs,.arr 3 os true 0] .normal (e61 rw f ps n m q (.q 0) y8 y11 y12 y13 y14 y19 y20 (.i 0) y55 y56) [.arr 11 [.agg ps] true 0,.b gs,.arr 3 os true 0,.arr 3 es true 0] :=
  hx 0 60 [jO 8 2 [.arr 11 [.agg ps] true 0,.b gs,.arr 3 os true 0] g0,jD 8 3 g1]
theorem spn_g_0 (n:Nat) (gs:List HV) (m:Nat) (os:List HV) (q:Nat) (es:List HV) (i:Nat) (g0:(i:Int) < (q:Int)) (y5 y8 y11 y12 y13 y14 y19 y20 y55 y56:HV:=Ud): RunsTo Tp polSp 61 (sn 1000 B61) (e61 rw f ps n m q y5 y8 y11 y12 y13 y14 y19 y20 (.n i) y55 y56) [.arr 11 [.agg ps] true 0,.b gs,.arr 3 os true 0,.arr 3 es true 0] .normal [0,1,2,5,6,7,8,9,11,12,13,14,19,20,31,32,33,55,56,34] [(0,.a rw),(1,.n f),(2,.agg ps),(5,y5),(6,.imm .lit 3 []),(7,.o 1 n),(8,y8),(9,.sl 2 0 m none m 3),(11,y11),(12,y12),(13,y13),(14,y14),(19,y19),(20,y20),(31,.sl 3 0 q none q 3),(32,.n q),(33,.n i),(55,y55),(56,y56),(34,.bool true)] [.arr 11 [.agg ps] true 0,.b gs,.arr 3 os true 0,.arr 3 es true 0] :=
  hx 0 60 [jT 9 0 [.arr 11 [.agg ps] true 0,.b gs,.arr 3 os true 0,.arr 3 es true 0] g0]
theorem spn_g_1 (n:Nat) (gs:List HV) (m:Nat) (os:List HV) (q:Nat) (es:List HV) (i:Nat) (g0:¬ ((i:Int) < (q:Int))) (y5 y8 y11 y12 y13 y14 y19 y20 y55 y56:HV:=Ud): RunsTo Tp polSp 61 (sn 1000 B61) (e61 rw f ps n m q y5 y8 y11 y12 y13 y14 y19 y20 (.n i) y55 y56) [.arr 11 [.agg ps] true 0,.b gs,.arr 3 os true 0,.arr 3 es true 0] .normal [0,1,2,5,6,7,8,9,11,12,13,14,19,20,31,32,33,55,56,34] [(0,.a rw),(1,.n f),(2,.agg ps),(5,y5),(6,.imm .lit 3 []),(7,.o 1 n),(8,y8),(9,.sl 2 0 m none m 3),(11,y11),(12,y12),(13,y13),(14,y14),(19,y19),(20,y20),(31,.sl 3 0 q none q 3),(32,.n q),(33,.n i),(55,y55),(56,y56),(34,.bool false)] [.arr 11 [.agg ps] true 0,.b gs,.arr 3 os true 0,.arr 3 es true 0] :=
  hx 0 60 [jF 9 0 [.arr 11 [.agg ps] true 0,.b gs,.arr 3 os true 0,.arr 3 es true 0] g0]
theorem spn_ht_0 (n:Nat) (gs:List HV) (m:Nat) (os:List HV) (q:Nat) (es:List HV) (i:Nat) (y5 y8 y11 y12 y13 y14 y19 y20 y55 y56:HV:=Ud): RT polSp 61 (sn 2002 B61) [(0,.a rw),(1,.n f),(2,.agg ps),(5,y5),(6,.imm .lit 3 []),(7,.o 1 n),(8,y8),(9,.sl 2 0 m none m 3),(11,y11),(12,y12),(13,y13),(14,y14),(19,y19),(20,y20),(31,.sl 3 0 q none q 3),(32,.n q),(33,.n i),(55,y55),(56,y56),(34,.bool true)] [.arr 11 [.agg ps] true 0,.b gs,.arr 3 os true 0,.arr 3 es true 0] .normal (e61 rw f ps n m q y5 y8 y11 y12 y13 y14 y19 y20 (.n i) y55 y56) [.arr 11 [.agg ps] true 0,.b gs,.arr 3 os true 0,.arr 3 es true 0] :=
  hx 0 60 []
theorem spn_hf_0 (n:Nat) (gs:List HV) (m:Nat) (os:List HV) (q:Nat) (es:List HV) (i:Nat) (y5 y8 y11 y12 y13 y14 y19 y20 y55 y56:HV:=Ud): RT polSp 61 (sn 2002 B61) [(0,.a rw),(1,.n f),(2,.agg ps),(5,y5),(6,.imm .lit 3 []),(7,.o 1 n),(8,y8),(9,.sl 2 0 m none m 3),(11,y11),(12,y12),(13,y13),(14,y14),(19,y19),(20,y20),(31,.sl 3 0 q none q 3),(32,.n q),(33,.n i),(55,y55),(56,y56),(34,.bool false)] [.arr 11 [.agg ps] true 0,.b gs,.arr 3 os true 0,.arr 3 es true 0] (.exit 2) (e61 rw f ps n m q y5 y8 y11 y12 y13 y14 y19 y20 (.n i) y55 y56) [.arr 11 [.agg ps] true 0,.b gs,.arr 3 os true 0,.arr 3 es true 0] :=
  hx 0 60 []
theorem spn_i_0 (n:Nat) (gs:List HV) (m:Nat) (os:List HV) (q:Nat) (es:List HV) (i:Nat) (ec:Int) (ea eb:Nat) (g0:IX 88 (.sl 3 0 q none q 3) (.n i) (.ptr 3 i 0 q)) (g1:LD [.arr 11 [.agg ps] true 0,.b gs,.arr 3 os true 0,.arr 3 es true 0] 91 (.ptr 3 i 0 q) (.agg [.i ec,.n ea,.n eb])) (y5 y8 y11 y12 y13 y14 y19 y20 y55 y56:HV:=Ud): RT polSp 61 (sn 16024 B61) (e61 rw f ps n m q y5 y8 y11 y12 y13 y14 y19 y20 (.n i) y55 y56) [.arr 11 [.agg ps] true 0,.b gs,.arr 3 os true 0,.arr 3 es true 0] .normal (e61 rw f ps n m q y5 y8 (.q 4) y12 y13 y14 y19 y20 (.n i) y55 y56) [.arr 11 [.agg ps] true 0,.b gs,.arr 3 os true 0,.arr 3 es true 0,.arr 3 [.agg [.i ec,.n ea,.n eb]] true 0] :=
  hx 0 60 [jO 10 0 [.arr 11 [.agg ps] true 0,.b gs,.arr 3 os true 0,.arr 3 es true 0] g0,jO 10 1 [.arr 11 [.agg ps] true 0,.b gs,.arr 3 os true 0,.arr 3 es true 0] g1]
theorem spn_j_0 (n:Nat) (gs:List HV) (m:Nat) (os:List HV) (q:Nat) (es:List HV) (i:Nat) (ec:Int) (ea eb:Nat) {x0:Int} {x1:Int} (g0:IO 23 1 n ea) (g1:LD [.arr 11 [.agg ps] true 0,.b gs,.arr 3 os true 0,.arr 3 es true 0,.arr 3 [.agg [.i ec,.n ea,.n eb]] true 0] 3 (.ptr 1 ea 0 n) (.i x0)) (g2:IO 23 1 n eb) (g3:LD [.arr 11 [.agg ps] true 0,.b gs,.arr 3 os true 0,.arr 3 es true 0,.arr 3 [.agg [.i ec,.n ea,.n eb]] true 0] 3 (.ptr 1 eb 0 n) (.i x1)) (y5 y8 y12 y13 y14 y19 y20 y55 y56:HV:=Ud): RT polSp 61 (sn 32050 B61) (e61 rw f ps n m q y5 y8 (.q 4) y12 y13 y14 y19 y20 (.n i) y55 y56) [.arr 11 [.agg ps] true 0,.b gs,.arr 3 os true 0,.arr 3 es true 0,.arr 3 [.agg [.i ec,.n ea,.n eb]] true 0] .normal (e61 rw f ps n m q y5 y8 (.q 4) (.i x0) (.i x1) y14 y19 y20 (.n i) y55 y56) [.arr 11 [.agg ps] true 0,.b gs,.arr 3 os true 0,.arr 3 es true 0,.arr 3 [.agg [.i ec,.n ea,.n eb]] true 0] :=
  hx 0 60 [jO 11 3 [.arr 11 [.agg ps] true 0,.b gs,.arr 3 os true 0,.arr 3 es true 0,.arr 3 [.agg [.i ec,.n ea,.n eb]] true 0] g0,jO 11 4 [.arr 11 [.agg ps] true 0,.b gs,.arr 3 os true 0,.arr 3 es true 0,.arr 3 [.agg [.i ec,.n ea,.n eb]] true 0] g1,jO 11 8 [.arr 11 [.agg ps] true 0,.b gs,.arr 3 os true 0,.arr 3 es true 0,.arr 3 [.agg [.i ec,.n ea,.n eb]] true 0] g2,jO 11 9 [.arr 11 [.agg ps] true 0,.b gs,.arr 3 os true 0,.arr 3 es true 0,.arr 3 [.agg [.i ec,.n ea,.n eb]] true 0] g3]
theorem spn_k_0 (n:Nat) (gs:List HV) (m:Nat) (os:List HV) (q:Nat) (es:List HV) (i:Nat) (ec:Int) (ea eb:Nat) (o w:Int) (g0:o=w) (y5 y8 y14 y19 y20 y55 y56:HV:=Ud): RT polSp 61 (sn 64102 B61) (e61 rw f ps n m q y5 y8 (.q 4) (.i o) (.i w) y14 y19 y20 (.n i) y55 y56) [.arr 11 [.agg ps] true 0,.b gs,.arr 3 os true 0,.arr 3 es true 0,.arr 3 [.agg [.i ec,.n ea,.n eb]] true 0] (.exit 3) (e61 rw f ps n m q y5 y8 (.q 4) (.i o) (.i w) y14 y19 y20 (.n i) y55 y56) [.arr 11 [.agg ps] true 0,.b gs,.arr 3 os true 0,.arr 3 es true 0,.arr 3 [.agg [.i ec,.n ea,.n eb]] true 0] :=
  hx 0 60 [jT 12 2 [.arr 11 [.agg ps] true 0,.b gs,.arr 3 os true 0,.arr 3 es true 0,.arr 3 [.agg [.i ec,.n ea,.n eb]] true 0] g0]
theorem spn_k_1 (n:Nat) (gs:List HV) (m:Nat) (os:List HV) (q:Nat) (es:List HV) (i:Nat) (ec:Int) (ea eb:Nat) (o w:Int) (g0:¬ (o=w)) (y5 y8 y14 y19 y20 y55 y56:HV:=Ud): RT polSp 61 (sn 64102 B61) (e61 rw f ps n m q y5 y8 (.q 4) (.i o) (.i w) y14 y19 y20 (.n i) y55 y56) [.arr 11 [.agg ps] true 0,.b gs,.arr 3 os true 0,.arr 3 es true 0,.arr 3 [.agg [.i ec,.n ea,.n eb]] true 0] .normal (e61 rw f ps n m q y5 y8 (.q 4) (.i o) (.i w) y14 y19 y20 (.n i) y55 y56) [.arr 11 [.agg ps] true 0,.b gs,.arr 3 os true 0,.arr 3 es true 0,.arr 3 [.agg [.i ec,.n ea,.n eb]] true 0] :=
  hx 0 60 [jF 12 2 [.arr 11 [.agg ps] true 0,.b gs,.arr 3 os true 0,.arr 3 es true 0,.arr 3 [.agg [.i ec,.n ea,.n eb]] true 0] g0]
theorem spn_l_0 (n:Nat) (gs:List HV) (m:Nat) (os:List HV) (q:Nat) (es:List HV) (i:Nat) (ec:Int) (ea eb:Nat) (o w:Int) (g0:appV [.arr 11 [.agg ps] true 0,.b gs,.arr 3 os true 0,.arr 3 es true 0,.arr 3 [.agg [.i ec,.n ea,.n eb]] true 0] 3 24 (.sl 2 0 m none m 3) [.agg [.i ec,.n ea,.n eb]]=some (.sl 2 0 (m+1) none (m+1) 3,[.arr 11 [.agg ps] true 0,.b gs,.arr 3 (os ++ [.agg [.i ec,.n ea,.n eb]]) true 0,.arr 3 es true 0,.arr 3 [.agg [.i ec,.n ea,.n eb]] true 0])) (y5 y8 y14 y19 y20 y55 y56:HV:=Ud): RT polSp 61 (sn 128206 B61) (e61 rw f ps n m q y5 y8 (.q 4) (.i o) (.i w) y14 y19 y20 (.n i) y55 y56) [.arr 11 [.agg ps] true 0,.b gs,.arr 3 os true 0,.arr 3 es true 0,.arr 3 [.agg [.i ec,.n ea,.n eb]] true 0] .normal (env61 (.a rw) (.n f) (.agg ps) y5 (.imm .lit 3 []) (.o 1 n) y8 (.sl 2 0 (m+1) none (m+1) 3) (.q 4) (.i o) (.i w) y14 y19 y20 (.sl 3 0 q none q 3) (.n q) (.n i) y55 y56) [.arr 11 [.agg ps] true 0,.b gs,.arr 3 (os ++ [.agg [.i ec,.n ea,.n eb]]) true 0,.arr 3 es true 0,.arr 3 [.agg [.i ec,.n ea,.n eb]] true 0] :=
  hx 0 60 [jR 13 3 g0]
theorem spn_m_0 (n:Nat) (gs:List HV) (m:Nat) (os:List HV) (q:Nat) (es:List HV) (i:Nat) (ec:Int) (ea eb:Nat) (y5 y8 y12 y13 y14 y19 y20 y55 y56:HV:=Ud): RT polSp 61 (sn 256414 B61) (e61 rw f ps n m q y5 y8 (.q 4) y12 y13 y14 y19 y20 (.n i) y55 y56) [.arr 11 [.agg ps] true 0,.b gs,.arr 3 os true 0,.arr 3 es true 0,.arr 3 [.agg [.i ec,.n ea,.n eb]] true 0] .normal (e61 rw f ps n m q y5 y8 (.q 4) y12 y13 y14 y19 y20 (.n i) (.n n) (.i 0)) [.arr 11 [.agg ps] true 0,.b gs,.arr 3 os true 0,.arr 3 es true 0,.arr 3 [.agg [.i ec,.n ea,.n eb]] true 0] :=
  hx 0 60 []
theorem spn_n_0 (n:Nat) (gs:List HV) (m:Nat) (os:List HV) (q:Nat) (es:List HV) (i:Nat) (ec:Int) (ea eb:Nat) (o w:Int) (j:Nat) {x0:Int} {el0:List HV} (g0:(j:Int) < (n:Int)) (g1:IO 23 1 n j) (g2:LD [.arr 11 [.agg ps] true 0,.b gs,.arr 3 os true 0,.arr 3 es true 0,.arr 3 [.agg [.i ec,.n ea,.n eb]] true 0] 3 (.ptr 1 j 0 n) (.i x0)) (g3:x0=o) (g4:IO 23 1 n j) (g5:ST [.arr 11 [.agg ps] true 0,.b gs,.arr 3 os true 0,.arr 3 es true 0,.arr 3 [.agg [.i ec,.n ea,.n eb]] true 0] 3 (.ptr 1 j 0 n) (.i w) [.arr 11 [.agg ps] true 0,.b el0,.arr 3 os true 0,.arr 3 es true 0,.arr 3 [.agg [.i ec,.n ea,.n eb]] true 0]) (y5 y8 y11 y14 y19 y20:HV:=Ud): RT polSp 61 (sn 1025660 B61) (e61 rw f ps n m q y5 y8 y11 (.i o) (.i w) y14 y19 y20 (.n i) (.n n) (.n j)) [.arr 11 [.agg ps] true 0,.b gs,.arr 3 os true 0,.arr 3 es true 0,.arr 3 [.agg [.i ec,.n ea,.n eb]] true 0] .normal (e61 rw f ps n m q y5 y8 y11 (.i o) (.i w) (.n j) y19 y20 (.n i) (.n n) (.i (IntKind.i64.wrap ((j:Int)+1)))) [.arr 11 [.agg ps] true 0,.b el0,.arr 3 os true 0,.arr 3 es true 0,.arr 3 [.agg [.i ec,.n ea,.n eb]] true 0] :=
  hx 0 60 [jT 15 0 [.arr 11 [.agg ps] true 0,.b gs,.arr 3 os true 0,.arr 3 es true 0,.arr 3 [.agg [.i ec,.n ea,.n eb]] true 0] g0,jO 17 2 [.arr 11 [.agg ps] true 0,.b gs,.arr 3 os true 0,.arr 3 es true 0,.arr 3 [.agg [.i ec,.n ea,.n eb]] true 0] g1,jO 17 3 [.arr 11 [.agg ps] true 0,.b gs,.arr 3 os true 0,.arr 3 es true 0,.arr 3 [.agg [.i ec,.n ea,.n eb]] true 0] g2,jT 17 5 [.arr 11 [.agg ps] true 0,.b gs,.arr 3 os true 0,.arr 3 es true 0,.arr 3 [.agg [.i ec,.n ea,.n eb]] true 0] g3,jO 18 3 [.arr 11 [.agg ps] true 0,.b gs,.arr 3 os true 0,.arr 3 es true 0,.arr 3 [.agg [.i ec,.n ea,.n eb]] true 0] g4,jS 18 4 g5]
theorem spn_n_1 (n:Nat) (gs:List HV) (m:Nat) (os:List HV) (q:Nat) (es:List HV) (i:Nat) (ec:Int) (ea eb:Nat) (o w:Int) (j:Nat) {x0:Int} (g0:(j:Int) < (n:Int)) (g1:IO 23 1 n j) (g2:LD [.arr 11 [.agg ps] true 0,.b gs,.arr 3 os true 0,.arr 3 es true 0,.arr 3 [.agg [.i ec,.n ea,.n eb]] true 0] 3 (.ptr 1 j 0 n) (.i x0)) (g3:¬ (x0=o)) (y5 y8 y11 y14 y19 y20:HV:=Ud): RT polSp 61 (sn 1025660 B61) (e61 rw f ps n m q y5 y8 y11 (.i o) (.i w) y14 y19 y20 (.n i) (.n n) (.n j)) [.arr 11 [.agg ps] true 0,.b gs,.arr 3 os true 0,.arr 3 es true 0,.arr 3 [.agg [.i ec,.n ea,.n eb]] true 0] .normal (e61 rw f ps n m q y5 y8 y11 (.i o) (.i w) (.n j) y19 y20 (.n i) (.n n) (.i (IntKind.i64.wrap ((j:Int)+1)))) [.arr 11 [.agg ps] true 0,.b gs,.arr 3 os true 0,.arr 3 es true 0,.arr 3 [.agg [.i ec,.n ea,.n eb]] true 0] :=
  hx 0 60 [jT 15 0 [.arr 11 [.agg ps] true 0,.b gs,.arr 3 os true 0,.arr 3 es true 0,.arr 3 [.agg [.i ec,.n ea,.n eb]] true 0] g0,jO 17 2 [.arr 11 [.agg ps] true 0,.b gs,.arr 3 os true 0,.arr 3 es true 0,.arr 3 [.agg [.i ec,.n ea,.n eb]] true 0] g1,jO 17 3 [.arr 11 [.agg ps] true 0,.b gs,.arr 3 os true 0,.arr 3 es true 0,.arr 3 [.agg [.i ec,.n ea,.n eb]] true 0] g2,jF 17 5 [.arr 11 [.agg ps] true 0,.b gs,.arr 3 os true 0,.arr 3 es true 0,.arr 3 [.agg [.i ec,.n ea,.n eb]] true 0] g3]
theorem spn_n_2 (n:Nat) (gs:List HV) (m:Nat) (os:List HV) (q:Nat) (es:List HV) (i:Nat) (ec:Int) (ea eb:Nat) (o w:Int) (j:Nat) (g0:¬ ((j:Int) < (n:Int))) (y5 y8 y11 y14 y19 y20:HV:=Ud): RT polSp 61 (sn 1025660 B61) (e61 rw f ps n m q y5 y8 y11 (.i o) (.i w) y14 y19 y20 (.n i) (.n n) (.n j)) [.arr 11 [.agg ps] true 0,.b gs,.arr 3 os true 0,.arr 3 es true 0,.arr 3 [.agg [.i ec,.n ea,.n eb]] true 0] (.exit 4) (e61 rw f ps n m q y5 y8 y11 (.i o) (.i w) y14 y19 y20 (.n i) (.n n) (.n j)) [.arr 11 [.agg ps] true 0,.b gs,.arr 3 os true 0,.arr 3 es true 0,.arr 3 [.agg [.i ec,.n ea,.n eb]] true 0] :=
  hx 0 60 [jF 15 0 [.arr 11 [.agg ps] true 0,.b gs,.arr 3 os true 0,.arr 3 es true 0,.arr 3 [.agg [.i ec,.n ea,.n eb]] true 0] g0]
theorem spn_o_0 (n:Nat) (gs:List HV) (m:Nat) (os:List HV) (q:Nat) (es:List HV) (i:Nat) (ec:Int) (ea eb:Nat) (y5 y8 y11 y12 y13 y14 y19 y20 y55 y56:HV:=Ud): RT polSp 61 (sn 4007 B61) (e61 rw f ps n m q y5 y8 y11 y12 y13 y14 y19 y20 (.n i) y55 y56) [.arr 11 [.agg ps] true 0,.b gs,.arr 3 os true 0,.arr 3 es true 0,.arr 3 [.agg [.i ec,.n ea,.n eb]] true 0] .normal (e61 rw f ps n m q y5 y8 y11 y12 y13 y14 y19 y20 (.i (IntKind.i64.wrap ((i:Int)+1))) y55 y56) [.arr 11 [.agg ps] true 0,.b gs,.arr 3 os true 0,.arr 3 es true 0,.arr 3 [.agg [.i ec,.n ea,.n eb]] true 0] :=
  hx 0 60 []
theorem spn_p_0 (n:Nat) (gs:List HV) (m:Nat) (os:List HV) (q:Nat) (es:List HV) (y5 y7 y8 y11 y12 y13 y14 y19 y20 y31 y32 y33 y55 y56:HV:=Ud): RT polSp 61 (sn 63 B61) (env61 (.a rw) (.n f) (.agg ps) y5 (.imm .lit 3 []) y7 y8 (.sl 2 0 m none m 3) y11 y12 y13 y14 y19 y20 y31 y32 y33 y55 y56) [.arr 11 [.agg ps] true 0,.b gs,.arr 3 os true 0,.arr 3 es true 0] .ret (env61 (.a rw) (.n f) (.agg ps) y5 (.sl 2 0 m none m 3) y7 y8 (.sl 2 0 m none m 3) y11 y12 y13 y14 y19 y20 y31 y32 y33 y55 y56) [.arr 11 [.agg ps] true 0,.b gs,.arr 3 os true 0,.arr 3 es true 0] :=
  hx 0 60 []
end
end Go.Proofs.Ytlendaofkmhgmaa
end
section
open Go Go.HL Go.HL.So
namespace Go.Proofs.Ytlendaofkmhgmaa
set_option linter.unusedSectionVars false
open Go.Proofs.Try renaming prog → Tp
open Go.HL.HV renaming undef → Ud
theorem res61:Try.f61.results.toList=[.tmp 6]:=by kernel_rfl
theorem ixg {n b k:Nat} {cap:Option Nat} (hk:k < n):idxV Tp 23 (.sl b 0 n cap n 1) (.int .i64 (k:Int))=some (.ptr b k 0 n):=by
  have:=idx_sl (P:=Tp) (t:=23) (b:=b) (len:=n) (tot:=n) (cap:=cap) (ik:=.i64) (n:=(k:Int)) u23 z3 (by omega) (by omega)
  rwa [Int.toNat_natCast] at this
theorem ixe {n b k:Nat} {cap:Option Nat} (hk:k < n):idxV Tp 88 (.sl b 0 n cap n 3) (.int .i64 (k:Int))=some (.ptr b k 0 n):=ixs (db:=b) (n:=n) (cap:=cap) rfl hk
theorem ldg {H:Heap} {b k n:Nat} {g:List Int} (hb:H[b]?=some (bI g)) (hn:g.length=n) (hk:k < n):loadV Tp H 3 (.ptr b k 0 n)=some (.int .i64 (g.getD k 0)):=by
  subst hn; exact load_out hb hk
theorem stg {H:Heap} {b k n:Nat} {g:List Int} (hb:H[b]?=some (bI g)) (hn:g.length=n) (hk:k < n) (v:Int):storeV Tp H 3 (.ptr b k 0 n) (.int .i64 v)=some (H.set b (bI (g.set k v))):=by
  subst hn; exact store_out hb hk v
theorem lde {H:Heap} {b k n:Nat} {l:List Ed} (hb:H[b]?=some (bE encE l)) (hn:l.length=n) (hk:k < n):loadV Tp H 91 (.ptr b k 0 n)=some (encE (at_ l k)) :=
  load_agg (b:=b) hb (by simpa using hn.symm) (by rw [List.getElem?_map,List.getElem?_eq_getElem (by omega)]; simp [at_,List.getD,List.getElem?_eq_getElem (show k < l.length by omega),encE]) a91 s91
section
variable {d:List (List Int)} {ps:List Int} {f:Nat}
abbrev spH (ps g:List Int) (os es:List Ed):Heap:=[pB ps,bI g,bE encE os,bE encE es]
abbrev spX (ps g:List Int) (os es:List Ed) (e:Ed):Heap:=[pB ps,bI g,bE encE os,bE encE es,.arr 3 [encE e] true 0]
abbrev mkQ (c:Int) (a b:Nat):Ed:=(c,(a:Int),(b:Int))
theorem sp_in (hd:okD d) {i ea eb:Nat} {ec o w:Int} {os es:List Ed}:∀ k j (g:List Int),g.length=d.length → j+k=d.length →
    ∃ y14,RT polSp 61 (sn 512830 B61) (env61 (.a (d.map encR)) (.i (f:Int)) (.agg (ps.map hvI)) Ud (.imm .lit 3 []) (.o 1 d.length) Ud (.sl 2 0 os.length none os.length 3) Ud (.i o) (.i w) Ud Ud Ud (.sl 3 0 es.length none es.length 3) (.i (es.length:Int)) (.i (i:Int)) (.i (d.length:Int)) (.i (j:Int))) (spX ps g os es (mkQ ec ea eb)) (.exit 4)
      (env61 (.a (d.map encR)) (.i (f:Int)) (.agg (ps.map hvI)) Ud (.imm .lit 3 []) (.o 1 d.length) Ud (.sl 2 0 os.length none os.length 3) Ud (.i o) (.i w) y14 Ud Ud (.sl 3 0 es.length none es.length 3) (.i (es.length:Int)) (.i (i:Int)) (.i (d.length:Int)) (.i (d.length:Int))) (spX ps (rlb o w k j g) os es (mkQ ec ea eb)):=by
  have hn:=hd.1
  intro k
  induction k with
  | zero =>
    intro j g hg hj
    have:j=d.length:=by omega
    subst this
    exact ⟨_,lpo (spn_n_2 (d.map encR) (ps.map hvI) f d.length (g.map hvI) os.length (os.map encE) es.length (es.map encE) i ec ea eb o w d.length (by omega))⟩
  | succ k ih =>
    intro j g hg hj
    by_cases c:g.getD j 0=o
    · have s:=spn_n_0 (d.map encR) (ps.map hvI) f d.length (g.map hvI) os.length (os.map encE) es.length (es.map encE) i ec ea eb o w j (by omega) (ixg (by omega)) (ldg (H:=spX ps g os es (mkQ ec ea eb)) (g:=g) rfl hg (by omega)) c (ixg (by omega)) (stg (H:=spX ps g os es (mkQ ec ea eb)) (b:=1) (k:=j) rfl hg (by omega) w)
      rw [wrap_succ (by omega)] at s
      obtain ⟨y14,r⟩:=ih (j+1) (g.set j w) (by simpa using hg) (by omega)
      rw [rlb,if_pos c]
      exact ⟨y14,lop (s) (gc_eq _ rfl) (r)⟩
    · have s:=spn_n_1 (d.map encR) (ps.map hvI) f d.length (g.map hvI) os.length (os.map encE) es.length (es.map encE) i ec ea eb o w j (by omega) (ixg (by omega)) (ldg (H:=spX ps g os es (mkQ ec ea eb)) (g:=g) rfl hg (by omega)) c
      rw [wrap_succ (by omega)] at s
      obtain ⟨y14,r⟩:=ih (j+1) g hg (by omega)
      rw [rlb,if_neg c]
      exact ⟨y14,lop (s) (gc_eq _ rfl) (r)⟩
theorem gcX {ps g g2:List Int} {os os2 es:List Ed} {e:Ed} {r:Nat} (hr:r ≤ 4):gc (spH ps g os es).length r (spX ps g2 os2 es e)=spH ps g2 os2 es:=by
  unfold gc
  have:max (spH ps g os es).length (max r (mxs (spX ps g2 os2 es e)))=4:=by
    have h1:mxs (spX ps g2 os2 es e)=0:=by simp [mxs,Blk.mx,bE]
    rw [h1]; show max 4 (max r 0)=4; omega
  rw [this]; rfl
theorem app_Em {H:Heap} {b:Nat} {o:List Ed} (hb:H[b]?=some (bE encE o)) (hl:o.length ≤ 1000) (e:Ed) :
    appV H 3 24 (.sl b 0 o.length none o.length 3) [encE e]=some (.sl b 0 (o.length+1) none (o.length+1) 3,H.set b (.arr 3 (o.map encE ++ [encE e]) true 0)):=by
  have:=app_sl (H:=H) (k:=3) (bytes:=24) (b:=b) (n:=o.length) (mx:=0) (els:=o.map encE) (xs:=[encE e]) hb (by simp) (by simp) (by simp only [roomMax,List.length_singleton]; omega) (encE_bnd [e])
  rw [this]; rfl
abbrev spO (d:List (List Int)) (ps:List Int) (f m q:Nat) (v33:HV):Env:=(env61 (.a (d.map encR)) (.i (f:Int)) (.agg (ps.map hvI)) Ud (.imm .lit 3 []) (.o 1 d.length) Ud (.sl 2 0 m none m 3) Ud Ud Ud Ud Ud Ud (.sl 3 0 q none q 3) (.i (q:Int)) v33 Ud Ud)
theorem hgc {g2:List Int} {es:List Ed} {e:Ed} (g:List Int) (os os2:List Ed) (m i:Nat):gc (spH ps g os es).length (bndE (spO d ps f m es.length (.int .i64 (i:Int)))) (spX ps g2 os2 es e)=spH ps g2 os2 es:=gcX (by simp [bndE,bnd,bndL,ints_bnd])
theorem sp_out (hd:okD d) {es:List Ed} (he:EIn d.length es) (hq:es.length ≤ 500):∀ k i (os:List Ed) (g:List Int),i+k=es.length → g.length=d.length → os.length+k ≤ 500 →
    ∃ g' E,RT polSp 61 (sn 250 B61) (spO d ps f os.length es.length (.int .i64 (i:Int))) (spH ps g os es) (.exit 2) E (spH ps g' (os ++ krP (es.drop i) g) es) ∧
      ∃ y5 y8 y11 y12 y13 y14 y19 y20 y33 y55 y56,E=(env61 (.a (d.map encR)) (.i (f:Int)) (.agg (ps.map hvI)) y5 (.imm .lit 3 []) (.o 1 d.length) y8 (.sl 2 0 (os ++ krP (es.drop i) g).length none (os ++ krP (es.drop i) g).length 3) y11 y12 y13 y14 y19 y20 (.sl 3 0 es.length none es.length 3) (.i (es.length:Int)) y33 y55 y56):=by
  have hn:=hd.1
  intro k
  induction k with
  | zero =>
    intro i os g hi hg ho
    have:i=es.length:=by omega
    subst this
    rw [List.drop_length,krP,List.append_nil]
    have s:=spn_g_1 (d.map encR) (ps.map hvI) f d.length (g.map hvI) os.length (os.map encE) es.length (es.map encE) es.length (by omega)
    have s2:=spn_hf_0 (d.map encR) (ps.map hvI) f d.length (g.map hvI) os.length (os.map encE) es.length (es.map encE) es.length
    exact ⟨g,_,lpo (sq (s) (sqo (s2) (c:=sn 1001 B61) (b:=sn 2003 B61)) (c:=sn 500 B61)),_,_,_,_,_,_,_,_,_,_,_,rfl⟩
  | succ k ih =>
    intro i os g hi hg ho
    have hdrop:es.drop i=at_ es i :: es.drop (i+1):=by
      rw [List.drop_eq_getElem_cons (by omega)]
      simp [at_,List.getD,List.getElem?_eq_getElem (show i < es.length by omega)]
    have hmem:at_ es i ∈ es:=by
      have:at_ es i=es[i]:=by simp [at_,List.getD,List.getElem?_eq_getElem (show i < es.length by omega)]
      rw [this]; exact List.getElem_mem _
    obtain ⟨ec,ea,eb,hae,ha,hb⟩:∃ (ec:Int) (ea eb:Nat),at_ es i=mkQ ec ea eb∧ea < d.length∧eb < d.length:=by
      obtain ⟨⟨h1,h2⟩,h3,h4⟩:=he _ hmem
      refine ⟨(at_ es i).1,(at_ es i).2.1.toNat,(at_ es i).2.2.toNat,?_,h2,h4⟩
      show at_ es i=((at_ es i).1,_,_)
      rw [Int.toNat_of_nonneg h1,Int.toNat_of_nonneg h3]
    rw [hdrop,hae,krP]
    simp only [Int.toNat_natCast]
    have s:=spn_g_0 (d.map encR) (ps.map hvI) f d.length (g.map hvI) os.length (os.map encE) es.length (es.map encE) i (by omega)
    have s2:=spn_ht_0 (d.map encR) (ps.map hvI) f d.length (g.map hvI) os.length (os.map encE) es.length (es.map encE) i
    have hl:=lde (H:=spH ps g os es) (b:=3) (k:=i) (l:=es) rfl rfl (by omega)
    rw [hae] at hl
    have s3:=spn_i_0 (d.map encR) (ps.map hvI) f d.length (g.map hvI) os.length (os.map encE) es.length (es.map encE) i ec ea eb (ixe (by omega)) hl
    have s4:=spn_j_0 (d.map encR) (ps.map hvI) f d.length (g.map hvI) os.length (os.map encE) es.length (es.map encE) i ec ea eb (ixg ha) (ldg (H:=spX ps g os es (mkQ ec ea eb)) (g:=g) rfl hg ha) (ixg hb) (ldg (H:=spX ps g os es (mkQ ec ea eb)) (g:=g) rfl hg hb)
    by_cases c:g.getD ea 0=g.getD eb 0
    · rw [if_pos c]
      have s5:=spn_k_0 (d.map encR) (ps.map hvI) f d.length (g.map hvI) os.length (os.map encE) es.length (es.map encE) i ec ea eb (g.getD ea 0) (g.getD eb 0) c
      have s6:=spn_o_0 (d.map encR) (ps.map hvI) f d.length (g.map hvI) os.length (os.map encE) es.length (es.map encE) i ec ea eb (y11:=.q 4) (y12:=.i (g.getD ea 0)) (y13:=.i (g.getD eb 0))
      rw [wrap_succ (by omega)] at s6
      have st:=sq (s) (sq (s2) (sq (bke (c:=sn 4006 B61) (sq (s3) (sq (s4) (sqo (s5) (c:=sn 32051 B61) (b:=sn 64103 B61)) (c:=sn 16025 B61)) (c:=sn 8012 B61))) (s6) (c:=sn 2003 B61)) (c:=sn 1001 B61)) (c:=sn 500 B61)
      obtain ⟨g',E,r,q⟩:=ih (i+1) os g (by omega) hg (by omega)
      exact ⟨g',E,lop (st) (hgc (ps:=ps) (d:=d) (f:=f) (es:=es) (g2:=g) (e:=mkQ ec ea eb) g os os os.length (i+1)) (r),q⟩
    · rw [if_neg c]
      have s5:=spn_k_1 (d.map encR) (ps.map hvI) f d.length (g.map hvI) os.length (os.map encE) es.length (es.map encE) i ec ea eb (g.getD ea 0) (g.getD eb 0) c
      have s7:=spn_l_0 (d.map encR) (ps.map hvI) f d.length (g.map hvI) os.length (os.map encE) es.length (es.map encE) i ec ea eb (g.getD ea 0) (g.getD eb 0) (app_Em (H:=spX ps g os es (mkQ ec ea eb)) (b:=2) (o:=os) rfl (by omega) (mkQ ec ea eb))
      have hs:os.map encE ++ [HV.agg [.int .i64 ec,.int .i64 (ea:Int),.int .i64 (eb:Int)]]=(os ++ [mkQ ec ea eb]).map encE:=by simp [encE]
      rw [hs] at s7
      have s8:=spn_m_0 (d.map encR) (ps.map hvI) f d.length (g.map hvI) (os.length+1) ((os ++ [mkQ ec ea eb]).map encE) es.length (es.map encE) i ec ea eb (y12:=.i (g.getD ea 0)) (y13:=.i (g.getD eb 0))
      obtain ⟨y14,r0⟩:=sp_in (ps:=ps) (f:=f) hd (i:=i) (ea:=ea) (eb:=eb) (ec:=ec) (o:=g.getD ea 0) (w:=g.getD eb 0) (os:=os ++ [mkQ ec ea eb]) (es:=es) d.length 0 g hg (by omega)
      rw [show (os ++ [mkQ ec ea eb]).length=os.length+1 by simp,← hg] at r0
      have r0':=lpi (e0:=(env61 (.a (d.map encR)) (.i (f:Int)) (.agg (ps.map hvI)) Ud (.imm .lit 3 []) (.o 1 g.length) Ud (.sl 2 0 (os.length+1) none (os.length+1) 3) (.q 4) (.i (g.getD ea 0)) (.i (g.getD eb 0)) Ud Ud Ud (.sl 3 0 es.length none es.length 3) (.i (es.length:Int)) (.i (i:Int)) (.i (g.length:Int)) (.i 0))) r0 (b:=sn 1025660 B61)
      rw [hg] at r0'
      have hg2:(rlb (g.getD ea 0) (g.getD eb 0) d.length 0 g).length=d.length:=by rw [rlb_len,hg]
      have s6:=spn_o_0 (d.map encR) (ps.map hvI) f d.length ((rlb (g.getD ea 0) (g.getD eb 0) d.length 0 g).map hvI) (os.length+1) ((os ++ [mkQ ec ea eb]).map encE) es.length (es.map encE) i ec ea eb (y14:=y14) (y12:=.i (g.getD ea 0)) (y13:=.i (g.getD eb 0)) (y55:=.i (d.length:Int)) (y56:=.i (d.length:Int))
      rw [wrap_succ (by omega)] at s6
      have st:=sq (s) (sq (s2) (sq (RunsTo.block_normal (i:=3) (c:=sn 4006 B61) (sq (s3) (sq (s4) (sq (s5) (sq (s7) (sq (s8) (bke (c:=sn 256415 B61) (r0')) (c:=sn 128207 B61)) (c:=sn 64103 B61)) (c:=sn 32051 B61)) (c:=sn 16025 B61)) (c:=sn 8012 B61)) (by kernel_rfl)) (s6) (c:=sn 2003 B61)) (c:=sn 1001 B61)) (c:=sn 500 B61)
      obtain ⟨g',E,r,q⟩:=ih (i+1) (os ++ [mkQ ec ea eb]) _ (by omega) hg2 (by simp; omega)
      rw [List.append_assoc] at r q
      rw [hg]
      rw [show (os ++ [mkQ ec ea eb]).length=os.length+1 by simp] at r
      exact ⟨g',E,lop (st) (hgc (ps:=ps) (d:=d) (f:=f) (es:=es) (g2:=rlb (g.getD ea 0) (g.getD eb 0) d.length 0 g) (e:=mkQ ec ea eb) g os (os ++ [mkQ ec ea eb]) (os.length+1) (i+1)) (r),q⟩
theorem spn_init (hd:okD d):∀ k i (g:List Int),i+k=d.length → g.length=d.length → (∀ x,x < i → g.getD x 0=(x:Int)) →
    ∃ y8,RT polSp 61 (sn 58 B61) (env61 (.a (d.map encR)) (.i (f:Int)) (.agg (ps.map hvI)) (.q 0) (.imm .lit 3 []) (.o 1 d.length) Ud Ud Ud Ud Ud Ud (.i (d.length:Int)) (.i (i:Int)) Ud Ud Ud Ud Ud) [pB ps,bI g] (.exit 0)
      (env61 (.a (d.map encR)) (.i (f:Int)) (.agg (ps.map hvI)) (.q 0) (.imm .lit 3 []) (.o 1 d.length) y8 Ud Ud Ud Ud Ud (.i (d.length:Int)) (.i (d.length:Int)) Ud Ud Ud Ud Ud) [pB ps,bI (iota d.length)]:=by
  have hn:=hd.1
  intro k
  induction k with
  | zero =>
    intro i g hi hg hx
    have:i=d.length:=by omega
    subst this
    have e:g=iota d.length:=by
      apply List.ext_getElem?
      intro x
      by_cases hxl:x < d.length
      · have h1:=hx x hxl
        have h2:=iota_at hxl
        rw [List.getElem?_eq_getElem (by omega),List.getElem?_eq_getElem (by rw [iota_len]; exact hxl)]
        simp only [List.getD,List.getElem?_eq_getElem (show x < g.length by omega),Option.getD_some] at h1
        simp only [List.getD,List.getElem?_eq_getElem (show x < (iota d.length).length by rw [iota_len]; exact hxl),Option.getD_some] at h2
        rw [h1,h2]
      · rw [List.getElem?_eq_none (by omega),List.getElem?_eq_none (by rw [iota_len]; omega)]
    rw [e]
    exact ⟨_,lpo (spn_d_1 (d.map encR) (ps.map hvI) f d.length ((iota d.length).map hvI) d.length (by omega))⟩
  | succ k ih =>
    intro i g hi hg hx
    have s:=spn_d_0 (d.map encR) (ps.map hvI) f d.length (g.map hvI) i (by omega) (ixg (by omega)) (stg (H:=[pB ps,bI g]) (b:=1) (k:=i) rfl hg (by omega) (i:Int))
    rw [wrap_succ (by omega)] at s
    obtain ⟨y8,r⟩:=ih (i+1) (g.set i (i:Int)) (by omega) (by simpa using hg) (fun x hx2=>by
      rw [getDs _ _ _ _ (by omega)]
      split
      · rename_i e; rw [e]
      · exact hx x (by omega))
    exact ⟨y8,lop (s) (gc_eq _ rfl) (r)⟩
end
theorem toRes_E {H:Heap} {b:Nat} {l:List Ed} (hb:H[b]?=some (bE encE l)):toRes H false (.sl b 0 l.length none l.length 3)=some (.own 3 (l.map encE)):=by
  have hr:=resCell_sl (H:=H) (no:=[b]) (b:=b) (k:=3) (m:=l.length) (cap:=none) (els:=l.map encE) hb (by simp) (mapO_self (fun e=>frz_E (n:=3) e) _)
  have ho:ownedAll H false (.sl b 0 l.length none l.length 3)=[b]:=by simp [ownedAll,cellsOf,owned,hb,bE]
  simp only [toRes,ho,List.nodup_cons,List.not_mem_nil,not_false_eq_true,List.nodup_nil,and_self,if_true,resVal,hr]
theorem encE_any (l:List Ed):(l.map encE).any isOwn=false:=by
  rw [List.any_eq_false]
  intro v hv
  obtain ⟨k,_,rfl⟩:=List.mem_map.1 hv
  simp [encE,isOwn]
theorem recv_E (l:List Ed) (H:Heap):recv (.own 3 (l.map encE)) H=(.sl H.length 0 l.length none l.length 3,H ++ [bE encE l]):=by
  simp only [recv,recvVal,recvCell,encE_any,List.length_map]
  rfl
theorem arg_agg (H:Heap) (ps:List Int):toArg H 6 (.agg (ps.map hvI))=some (.agg (ps.map hvI)):=by
  show (match mapO (toArg H 5) (ps.map hvI) with | some l=>some (HV.agg l) | none=>none)=_
  have hm:mapO (toArg H 5) (ps.map hvI)=some (ps.map hvI):=mapO_self (f:=toArg H 5) (g:=hvI) (fun _=>rfl) ps
  rw [hm]
theorem q70 {pol':Pol} (hp:pol'.prim 70=some edges70) {d:List (List Int)} {ps:List Int} {f:Nat} {v:HV} (hd:okD d) (hf:f ≤ d.length) (hs:Small ps) (H:Heap) (hv:toArg H 6 v=some (.imm .arg 1 (d.map encR))) :
    ∀ kf,callN Tp pol' (kf+1) 70 [v,.int .i64 (f:Int),.agg (ps.map hvI)] H=some (.sl H.length 0 (edg d ps f).length none (edg d ps f).length 3,H ++ [bE encE (edg d ps f)]):=fun kf=>by
  rw [prim_call (pol:=pol') (g:=70) (F:=edges70) hp (rs:=[.imm .arg 1 (d.map encR),.int .i64 (f:Int),.agg (ps.map hvI)]) (by simp only [mapO,hv,arg_agg]; rfl) (res:=.own 3 ((edg d ps f).map encE)) (by simp only [edges70,mpF,mapO_map decR_enc,mapO_map decI_enc]; rw [if_pos ⟨hd,by omega,hs⟩,Int.toNat_natCast]),recv_E]
theorem pl_all {H:Heap} {ps:List Int} {b:Nat} (hb:H[b]?=some (pB ps)) (hp:ps.length=11):loadV Tp H 66 (.ptr b 0 0 1)=some (.agg (ps.map hvI)) :=
  load_agg (b:=b) hb rfl rfl (by kernel_rfl) (by rw [show tySize Tp 66=some 11 by kernel_rfl]; simp [hp])
theorem spanning_ok:PrimOk Tp 61 spanning61:=by
  refine primOk_pure (pol:=polSp) (fn:=Try.f61) (cd:=B61) follows_mixed soundSp (by kernel_rfl) (by kernel_rfl) (fnok polSp.prim _ _ (by kernel_rfl)) (by kernel_rfl) ?_
  intro args res h
  obtain ⟨d,a0,ps,rfl,hq⟩:=mpF_inv h
  clear h
  split at hq
  · rename_i hc
    obtain ⟨hd,ha,hp⟩:=hc
    cases hq
    have hn:=hd.1
    obtain ⟨f,rfl⟩:∃ x:Nat,a0=(x:Int):=⟨a0.toNat,by omega⟩
    rw [Int.toNat_natCast]
    have s0:=spn_a_0 (d.map encR) (ps.map hvI) f (box_p hp.1)
    have mk:=makeV_ok (P:=Tp) (H:=[pB ps]) (t:=23) (e:=3) (k:=1) (bt:=8) (zv:=.int .i64 0) (n:=(d.length:Int)) u23 (by kernel_rfl) (by simp [cellsOf,cellV]) (by simp [cellsOf]) (by omega) (by omega) (by simp only [roomMax]; omega)
    rw [Int.toNat_natCast] at mk
    have hrep:List.replicate d.length (HV.int .i64 0)=(List.replicate d.length (0:Int)).map hvI:=by simp [hvI]
    rw [hrep] at mk
    have s1:=spn_b_0 (d.map encR) (ps.map hvI) f (by rw [List.length_map,hrep]; exact mk)
    rw [List.length_map,hrep] at s1
    have s2:=spn_c_0 (d.map encR) (ps.map hvI) f d.length ((List.replicate d.length (0:Int)).map hvI)
    obtain ⟨y8,r1⟩:=spn_init (ps:=ps) (f:=f) hd d.length 0 (List.replicate d.length 0) (by omega) (by simp) (fun x hx=>by omega)
    have s3:=spn_e_0 (d.map encR) (ps.map hvI) f d.length ((iota d.length).map hvI) (y8:=y8) (y19:=.i (d.length:Int)) (y20:=.i (d.length:Int))
    have s4:=spn_f_0 (d.map encR) (ps.map hvI) f d.length ((iota d.length).map hvI) 0 [] (y8:=y8) (y19:=.i (d.length:Int)) (y20:=.i (d.length:Int)) (pl_all (b:=0) rfl hp.1) (q70 (pol':=polSp) (by kernel_rfl) hd (by omega) hp _ (arg_rw _ d))
    have hel:=edg_len (ps:=ps) (f:=f) hd (by omega)
    obtain ⟨g',E,r2,y5,y8',y11,y12,y13,y14,y19,y20,y33,y55,y56,rfl⟩:=sp_out (ps:=ps) (f:=f) hd (edg_in (ps:=ps) (f:=f) (by omega)) (by omega) (edg d ps f).length 0 [] (iota d.length) (by omega) (iota_len _) (by simp; omega)
    rw [List.drop_zero,List.nil_append] at r2
    have et:krP (edg d ps f) (iota d.length)=treeL d ps f:=rfl
    rw [et] at r2
    have r2':=lpi (e0:=(env61 (.a (d.map encR)) (.i (f:Int)) (.agg (ps.map hvI)) (.q 0) (.imm .lit 3 []) (.o 1 d.length) y8 (.sl 2 0 0 none 0 3) Ud Ud Ud Ud (.i (d.length:Int)) (.i (d.length:Int)) (.sl 3 0 (edg d ps f).length none (edg d ps f).length 3) (.i ((edg d ps f).length:Int)) (.i 0) Ud Ud)) r2 (b:=sn 500 B61)
    have z:=spn_p_0 (d.map encR) (ps.map hvI) f d.length (g'.map hvI) (treeL d ps f).length ((treeL d ps f).map encE) (edg d ps f).length ((edg d ps f).map encE) (y7:=.o 1 d.length) (y8:=y8') (y11:=y11) (y12:=y12) (y13:=y13) (y14:=y14) (y19:=y19) (y20:=y20) (y31:=.sl 3 0 (edg d ps f).length none (edg d ps f).length 3) (y32:=.i ((edg d ps f).length:Int)) (y33:=y33) (y55:=y55) (y56:=y56) (y5:=y5)
    have t:=sq (s0) (sq (s1) (sq (sq (s2) (bke (c:=sn 29 B61) (r1)) (c:=sn 14 B61)) (sq (s3) (sq (sq (s4) (bke (c:=sn 125 B61) (r2')) (c:=sn 62 B61)) (z) (c:=sn 31 B61)) (c:=sn 15 B61)) (c:=sn 7 B61)) (c:=sn 3 B61)) (c:=B61)
    exact ⟨_,_,_,.sl 2 0 (treeL d ps f).length none (treeL d ps f).length 3,t,by simp,by simp only [resultsV,res61]; rfl,toRes_E rfl⟩
  · cases hq
end Go.Proofs.Ytlendaofkmhgmaa
end
section
open Go Go.HL
namespace Go.Proofs.Ytlendaofkmhgmaa
set_option maxRecDepth 100000
set_option linter.unusedSectionVars false
open Go.Proofs.Try renaming prog → Tp
open Go.HL.HV renaming undef → Ud
noncomputable def B40:Code:=Try.f40.body.getD .skip
abbrev env40 (v0 v2 v3 v4 v5 v6 v7 v8 v9 v10 v11 v12 v13:HV):Env:=[(0,v0),(2,v2),(3,v3),(4,v4),(5,v5),(6,v6),(7,v7),(8,v8),(9,v9),(10,v10),(11,v11),(12,v12),(13,v13)]
abbrev e40 (rw:List HV) (n:Nat) (m:Nat) (u3 u5 u6 u7 u8 u9 u10 u11 u12:HV):Env:=env40 (.a rw) (.imm .lit 1 []) (.n n) u3 (.o 0 m) u5 u6 u7 u8 u9 u10 u11 u12
section
variable (rw:List HV)
include rw
theorem rbe_a_0:RT polW 40 (sn 2 B40) [(0,.a rw)] [] .normal (env40 (.a rw) (.imm .lit 1 []) Ud Ud Ud Ud Ud Ud Ud Ud Ud Ud Ud) [] :=
  hx 0 60 []
end
section
variable (rw:List HV)
include rw
theorem rbe_b_0 (y3 y4 y5 y6 y7 y8 y9 y10 y11 y12 y13:HV:=Ud): RT polW 40 (sn 6 B40) (env40 (.a rw) (.imm .lit 1 []) y3 y4 y5 y6 y7 y8 y9 y10 y11 y12 y13) [] .normal (env40 (.a rw) (.imm .lit 1 []) (.i (rw.length:Int)) y4 y5 y6 y7 y8 y9 y10 y11 y12 y13) [] :=
  hx 0 60 []
theorem rbe_c_0 (n:Nat) {h0:Int} (g0:BV .shl 3 (.i 1) (.n n) (.i h0)) (y4 y5 y6 y7 y8 y9 y10 y11 y12 y13:HV:=Ud): RT polW 40 (sn 14 B40) (env40 (.a rw) (.imm .lit 1 []) (.n n) y4 y5 y6 y7 y8 y9 y10 y11 y12 y13) [] .normal (env40 (.a rw) (.imm .lit 1 []) (.n n) (.i (IntKind.i64.wrap (h0 - 1))) y5 y6 y7 y8 y9 y10 y11 y12 y13) [] :=
  hx 0 60 [jO 2 1 [] g0]
theorem rbe_d_0 (n:Nat) (fl:Int) (g0:makeV Tp false 23 (.i (IntKind.i64.wrap (IntKind.i64.wrap (fl+1) * (n:Int)))) (.i (IntKind.i64.wrap (IntKind.i64.wrap (fl+1) * (n:Int)))) []=some (.sl 0 0 ((IntKind.i64.wrap (IntKind.i64.wrap (fl+1) * (n:Int))).toNat) (some ((IntKind.i64.wrap (IntKind.i64.wrap (fl+1) * (n:Int))).toNat)) ((IntKind.i64.wrap (IntKind.i64.wrap (fl+1) * (n:Int))).toNat) 1,[.arr 1 (List.replicate ((IntKind.i64.wrap (IntKind.i64.wrap (fl+1) * (n:Int))).toNat) (.i 0)) true 0])) (y5 y6 y7 y8 y9 y10 y11 y12 y13:HV:=Ud): RT polW 40 (sn 30 B40) (env40 (.a rw) (.imm .lit 1 []) (.n n) (.i fl) y5 y6 y7 y8 y9 y10 y11 y12 y13) [] .normal (env40 (.a rw) (.imm .lit 1 []) (.n n) (.i fl) (.sl 0 0 ((IntKind.i64.wrap (IntKind.i64.wrap (fl+1) * (n:Int))).toNat) (some ((IntKind.i64.wrap (IntKind.i64.wrap (fl+1) * (n:Int))).toNat)) ((IntKind.i64.wrap (IntKind.i64.wrap (fl+1) * (n:Int))).toNat) 1) y6 y7 y8 y9 y10 y11 y12 y13) [.arr 1 (List.replicate ((IntKind.i64.wrap (IntKind.i64.wrap (fl+1) * (n:Int))).toNat) (.i 0)) true 0] :=
  hx 0 60 [jR 3 4 g0]
theorem rbe_e_0 (n:Nat) (fl:Int) (m:Nat) (ts:List HV) (y6 y7 y8 y9 y10 y11 y12 y13:HV:=Ud): RT polW 40 (sn 124 B40) (e40 rw n m (.i fl) y6 y7 y8 y9 y10 y11 y12 y13) [.b ts] .normal (e40 rw n m (.i fl) (.i fl) y7 y8 y9 y10 y11 y12 y13) [.b ts] :=
  hx 0 60 []
theorem rbe_f_0 (n:Nat) (fl:Int) (m:Nat) (ts:List HV) (us:Nat) (g0:0 < (us:Int)) (y7 y8 y9 y10 y11 y12 y13:HV:=Ud): RT polW 40 (sn 1000 B40) (e40 rw n m (.i fl) (.n us) y7 y8 y9 y10 y11 y12 y13) [.b ts] .normal (e40 rw n m (.i fl) (.n us) y7 y8 y9 y10 y11 y12 y13) [.b ts] :=
  hx 0 60 [jT 5 1 [.b ts] g0]
theorem rbe_f_1 (n:Nat) (fl:Int) (m:Nat) (ts:List HV) (us:Nat) (g0:¬ (0 < (us:Int))) (y7 y8 y9 y10 y11 y12 y13:HV:=Ud): RT polW 40 (sn 1000 B40) (e40 rw n m (.i fl) (.n us) y7 y8 y9 y10 y11 y12 y13) [.b ts] (.exit 0) (e40 rw n m (.i fl) (.n us) y7 y8 y9 y10 y11 y12 y13) [.b ts] :=
  hx 0 60 [jF 5 1 [.b ts] g0]
theorem rbe_g_0 (n:Nat) (fl:Int) (m:Nat) (ts:List HV) (us:Nat) (y7 y8 y9 y10 y11 y12 y13:HV:=Ud): RT polW 40 (sn 8008 B40) (e40 rw n m (.i fl) (.n us) y7 y8 y9 y10 y11 y12 y13) [.b ts] .normal (e40 rw n m (.i fl) (.n us) (.i 0) y8 y9 y10 y11 y12 y13) [.b ts] :=
  hx 0 60 []
theorem rbe_h_0 (n:Nat) (fl:Int) (m:Nat) (ts:List HV) (us:Nat) (a:Nat) (g0:(a:Int) < (n:Int)) (y8 y9 y10 y11 y12 y13:HV:=Ud): RT polW 40 (sn 64072 B40) (e40 rw n m (.i fl) (.n us) (.n a) y8 y9 y10 y11 y12 y13) [.b ts] .normal (e40 rw n m (.i fl) (.n us) (.n a) y8 y9 y10 y11 y12 y13) [.b ts] :=
  hx 0 60 [jT 8 2 [.b ts] g0]
theorem rbe_h_1 (n:Nat) (fl:Int) (m:Nat) (ts:List HV) (us:Nat) (a:Nat) (g0:¬ ((a:Int) < (n:Int))) (y8 y9 y10 y11 y12 y13:HV:=Ud): RT polW 40 (sn 64072 B40) (e40 rw n m (.i fl) (.n us) (.n a) y8 y9 y10 y11 y12 y13) [.b ts] (.exit 2) (e40 rw n m (.i fl) (.n us) (.n a) y8 y9 y10 y11 y12 y13) [.b ts] :=
  hx 0 60 [jF 8 2 [.b ts] g0]
theorem rbe_i_0 (n:Nat) (fl:Int) (m:Nat) (ts:List HV) (us:Nat) (a:Nat) (y8 y9 y10 y11 y12 y13:HV:=Ud): RT polW 40 (sn 512584 B40) (e40 rw n m (.i fl) (.n us) (.n a) y8 y9 y10 y11 y12 y13) [.b ts] .normal (e40 rw n m (.i fl) (.n us) (.n a) (.i 1099511627776) y9 y10 y11 y12 y13) [.b ts] :=
  hx 0 60 []
theorem rbe_j_0 (n:Nat) (fl:Int) (m:Nat) (ts:List HV) (us:Nat) (a:Nat) (ls:Int) {l0:List HV} {x0:Int} (g0:(us:Int)=fl) (g1:IX 22 (.a rw) (.n a) (.vptr (.a l0))) (g2:IX 23 (.a l0) (.i 0) (.vptr (.i x0))) (y9 y10 y11 y12 y13:HV:=Ud): RT polW 40 (sn 1025170 B40) (e40 rw n m (.i fl) (.n us) (.n a) (.i ls) y9 y10 y11 y12 y13) [.b ts] .normal (e40 rw n m (.i fl) (.n us) (.n a) (.i x0) y9 y10 y11 y12 y13) [.b ts] :=
  hx 0 60 [jT 11 2 [.b ts] g0,jO 12 2 [.b ts] g1,jO 12 4 [.b ts] g2]
theorem rbe_j_1 (n:Nat) (fl:Int) (m:Nat) (ts:List HV) (us:Nat) (a:Nat) (ls:Int) (g0:¬ ((us:Int)=fl)) (y9 y10 y11 y12 y13:HV:=Ud): RT polW 40 (sn 1025170 B40) (e40 rw n m (.i fl) (.n us) (.n a) (.i ls) y9 y10 y11 y12 y13) [.b ts] .normal (e40 rw n m (.i fl) (.n us) (.n a) (.i ls) y9 y10 y11 y12 y13) [.b ts] :=
  hx 0 60 [jF 11 2 [.b ts] g0]
theorem rbe_k_0 (n:Nat) (fl:Int) (m:Nat) (ts:List HV) (us:Nat) (a:Nat) (ls:Int) (y9 y10 y11 y12 y13:HV:=Ud): RT polW 40 (sn 4100684 B40) (e40 rw n m (.i fl) (.n us) (.n a) (.i ls) y9 y10 y11 y12 y13) [.b ts] .normal (e40 rw n m (.i fl) (.n us) (.n a) (.i ls) (.i 0) y10 y11 y12 y13) [.b ts] :=
  hx 0 60 []
theorem rbe_l_0 (n:Nat) (fl:Int) (m:Nat) (ts:List HV) (us:Nat) (a:Nat) (ls:Int) (v:Nat) {h0:Int} {l0:List HV} {x0:Int} {h1:Int} {a0:HV} {x1:Int} (g0:(v:Int) < (n:Int)) (g1:BV .shr 3 (.n us) (.n v) (.i h0)) (g2:(h0:Int).tmod 2=0) (g3:IX 22 (.a rw) (.n a) (.vptr (.a l0))) (g4:IX 23 (.a l0) (.n v) (.vptr (.i x0))) (g5:BV .shl 3 (.i 1) (.n v) (.i h1)) (g6:IX 23 (.o 0 m) (.i (IntKind.i64.wrap (IntKind.i64.wrap (IntKind.i64.wrap ((us:Int)+h1) * (n:Int))+(v:Int)))) (a0)) (g7:LD [.b ts] 3 (a0) (.i x1)) (y10 y11 y12 y13:HV:=Ud): RT polW 40 (sn 16402740 B40) (e40 rw n m (.i fl) (.n us) (.n a) (.i ls) (.n v) y10 y11 y12 y13) [.b ts] .normal (e40 rw n m (.i fl) (.n us) (.n a) (.i (min ls (IntKind.i64.wrap (x0+x1)))) (.i (IntKind.i64.wrap ((v:Int)+1))) y10 y11 y12 y13) [.b ts] :=
  hx 0 60 [jT 14 2 [.b ts] g0,jO 16 2 [.b ts] g1,jT 16 4 [.b ts] g2,jO 17 3 [.b ts] g3,jO 17 6 [.b ts] g4,jO 17 11 [.b ts] g5,jO 17 17 [.b ts] g6,jO 17 18 [.b ts] g7]
theorem rbe_l_1 (n:Nat) (fl:Int) (m:Nat) (ts:List HV) (us:Nat) (a:Nat) (ls:Int) (v:Nat) {h0:Int} (g0:(v:Int) < (n:Int)) (g1:BV .shr 3 (.n us) (.n v) (.i h0)) (g2:¬ ((h0:Int).tmod 2=0)) (y10 y11 y12 y13:HV:=Ud): RT polW 40 (sn 16402740 B40) (e40 rw n m (.i fl) (.n us) (.n a) (.i ls) (.n v) y10 y11 y12 y13) [.b ts] .normal (e40 rw n m (.i fl) (.n us) (.n a) (.i ls) (.i (IntKind.i64.wrap ((v:Int)+1))) y10 y11 y12 y13) [.b ts] :=
  hx 0 60 [jT 14 2 [.b ts] g0,jO 16 2 [.b ts] g1,jF 16 4 [.b ts] g2]
theorem rbe_l_2 (n:Nat) (fl:Int) (m:Nat) (ts:List HV) (us:Nat) (a:Nat) (ls:Int) (v:Nat) (g0:¬ ((v:Int) < (n:Int))) (y10 y11 y12 y13:HV:=Ud): RT polW 40 (sn 16402740 B40) (e40 rw n m (.i fl) (.n us) (.n a) (.i ls) (.n v) y10 y11 y12 y13) [.b ts] (.exit 4) (e40 rw n m (.i fl) (.n us) (.n a) (.i ls) (.n v) y10 y11 y12 y13) [.b ts] :=
  hx 0 60 [jF 14 2 [.b ts] g0]
theorem rbe_m_0 (n:Nat) (fl:Int) (m:Nat) (ts:List HV) (us:Nat) (a:Nat) (ls:Int) {a0:HV} {H0:Heap} (g0:IX 23 (.o 0 m) (.i (IntKind.i64.wrap (IntKind.i64.wrap ((us:Int) * (n:Int))+(a:Int)))) (a0)) (g1:ST [.b ts] 3 (a0) (.i ls) H0) (y9 y10 y11 y12 y13:HV:=Ud): RT polW 40 (sn 2050343 B40) (e40 rw n m (.i fl) (.n us) (.n a) (.i ls) y9 y10 y11 y12 y13) [.b ts] .normal (e40 rw n m (.i fl) (.n us) (.n a) (.i ls) y9 y10 y11 y12 y13) H0 :=
  hx 0 60 [jO 18 7 [.b ts] g0,jS 18 8 g1]
theorem rbe_n_0 (n:Nat) (fl:Int) (m:Nat) (ts:List HV) (us:Nat) (a:Nat) (y8 y9 y10 y11 y12 y13:HV:=Ud): RT polW 40 (sn 128147 B40) (e40 rw n m (.i fl) (.n us) (.n a) y8 y9 y10 y11 y12 y13) [.b ts] .normal (e40 rw n m (.i fl) (.n us) (.i (IntKind.i64.wrap ((a:Int)+1))) y8 y9 y10 y11 y12 y13) [.b ts] :=
  hx 0 60 []
theorem rbe_o_0 (n:Nat) (fl:Int) (m:Nat) (ts:List HV) (us:Nat) (y7 y8 y9 y10 y11 y12 y13:HV:=Ud): RT polW 40 (sn 2003 B40) (e40 rw n m (.i fl) (.n us) y7 y8 y9 y10 y11 y12 y13) [.b ts] .normal (e40 rw n m (.i fl) (.i (IntKind.i64.wrap ((us:Int) - 1))) y7 y8 y9 y10 y11 y12 y13) [.b ts] :=
  hx 0 60 []
theorem rbe_p_0 (n:Nat) (fl:Int) (m:Nat) (ts:List HV) (tv:HV) (y6 y7 y8 y9 y10 y11 y12 y13:HV:=Ud): RT polW 40 (sn 126 B40) (e40 rw n m (.i fl) y6 y7 y8 y9 y10 y11 y12 y13) [.b ts] .normal (e40 rw n m (.i fl) y6 y7 y8 y9 (.o 1 1) y11 y12 y13) [.b ts,.arr 1 [.i 0] true 0] :=
  hx 0 60 []
theorem rbe_q_0 (n:Nat) (m:Nat) (H:Heap) (tv:HV) (y4 y6 y7 y8 y9 y11 y12 y13:HV:=Ud): RT polW 40 (sn 254 B40) (e40 rw n m y4 y6 y7 y8 y9 tv y11 y12 y13) H .normal (e40 rw n m y4 y6 y7 y8 y9 tv (.i 1) (.i 0) y13) H :=
  hx 0 60 []
theorem rbe_r_0 (n:Nat) (m:Nat) (H:Heap) (tv:HV) (us a:Nat) {n0:Int} (g0:lenV Tp H 23 tv=some (.i n0)) (g1:n0 < (n:Int)) (y4 y6 y7 y8 y9 y13:HV:=Ud): RT polW 40 (sn 4080 B40) (e40 rw n m y4 y6 y7 y8 y9 tv (.n us) (.n a) y13) H .normal (e40 rw n m y4 y6 y7 y8 y9 tv (.n us) (.n a) y13) H :=
  hx 0 60 [jO 21 1 H g0,jT 21 3 H g1]
theorem rbe_r_1 (n:Nat) (m:Nat) (H:Heap) (tv:HV) (us a:Nat) {n0:Int} (g0:lenV Tp H 23 tv=some (.i n0)) (g1:¬ (n0 < (n:Int))) (y4 y6 y7 y8 y9 y13:HV:=Ud): RT polW 40 (sn 4080 B40) (e40 rw n m y4 y6 y7 y8 y9 tv (.n us) (.n a) y13) H (.exit 6) (e40 rw n m y4 y6 y7 y8 y9 tv (.n us) (.n a) y13) H :=
  hx 0 60 [jO 21 1 H g0,jF 21 3 H g1]
theorem rbe_s_0 (n:Nat) (m:Nat) (H:Heap) (tv:HV) (us a:Nat) (y4 y6 y7 y8 y9 y13:HV:=Ud): RT polW 40 (sn 16324 B40) (e40 rw n m y4 y6 y7 y8 y9 tv (.n us) (.n a) y13) H .normal (e40 rw n m y4 y6 y7 y8 y9 tv (.n us) (.n a) (.i 0)) H :=
  hx 0 60 []
theorem rbe_t_0 (n:Nat) (m:Nat) (H:Heap) (tv:HV) (us a:Nat) (v:Nat) (tw:HV) {h0:Int} {l0:List HV} {x0:Int} {h1:Int} {a0:HV} {x1:Int} {a1:HV} {x2:Int} {H0:Heap} {h2:Int} (g0:(v:Int) < (n:Int)) (g1:BV .shr 3 (.n us) (.n v) (.i h0)) (g2:(h0:Int).tmod 2=0) (g3:IX 22 (.a rw) (.n a) (.vptr (.a l0))) (g4:IX 23 (.a l0) (.n v) (.vptr (.i x0))) (g5:BV .shl 3 (.i 1) (.n v) (.i h1)) (g6:IX 23 (.o 0 m) (.i (IntKind.i64.wrap (IntKind.i64.wrap (IntKind.i64.wrap ((us:Int)+h1) * (n:Int))+(v:Int)))) (a0)) (g7:LD H 3 (a0) (.i x1)) (g8:IX 23 (.o 0 m) (.i (IntKind.i64.wrap (IntKind.i64.wrap ((us:Int) * (n:Int))+(a:Int)))) (a1)) (g9:LD H 3 (a1) (.i x2)) (g10:IntKind.i64.wrap (x0+x1)=x2) (g11:appV H 1 8 (tv) [.n v]=some (tw,H0)) (g12:BV .shl 3 (.i 1) (.n v) (.i h2)) (y4 y6 y7 y8 y9:HV:=Ud): RT polW 40 (sn 65300 B40) (e40 rw n m y4 y6 y7 y8 y9 tv (.n us) (.n a) (.n v)) H (.exit 8) (e40 rw n m y4 y6 y7 y8 y9 tw (.i (IntKind.i64.wrap ((us:Int)+h2))) (.n v) (.n v)) H0 :=
  hx 0 60 [jT 23 2 H g0,jO 25 2 H g1,jT 25 4 H g2,jO 25 8 H g3,jO 25 11 H g4,jO 25 16 H g5,jO 25 22 H g6,jO 25 23 H g7,jO 25 31 H g8,jO 25 32 H g9,jT 25 33 H g10,jR 26 3 g11,jO 27 2 H0 g12]
theorem rbe_t_1 (n:Nat) (m:Nat) (H:Heap) (tv:HV) (us a:Nat) (v:Nat) (tw:HV) {h0:Int} {l0:List HV} {x0:Int} {h1:Int} {a0:HV} {x1:Int} {a1:HV} {x2:Int} (g0:(v:Int) < (n:Int)) (g1:BV .shr 3 (.n us) (.n v) (.i h0)) (g2:(h0:Int).tmod 2=0) (g3:IX 22 (.a rw) (.n a) (.vptr (.a l0))) (g4:IX 23 (.a l0) (.n v) (.vptr (.i x0))) (g5:BV .shl 3 (.i 1) (.n v) (.i h1)) (g6:IX 23 (.o 0 m) (.i (IntKind.i64.wrap (IntKind.i64.wrap (IntKind.i64.wrap ((us:Int)+h1) * (n:Int))+(v:Int)))) (a0)) (g7:LD H 3 (a0) (.i x1)) (g8:IX 23 (.o 0 m) (.i (IntKind.i64.wrap (IntKind.i64.wrap ((us:Int) * (n:Int))+(a:Int)))) (a1)) (g9:LD H 3 (a1) (.i x2)) (g10:¬ (IntKind.i64.wrap (x0+x1)=x2)) (y4 y6 y7 y8 y9:HV:=Ud): RT polW 40 (sn 65300 B40) (e40 rw n m y4 y6 y7 y8 y9 tv (.n us) (.n a) (.n v)) H .normal (e40 rw n m y4 y6 y7 y8 y9 tv (.n us) (.n a) (.i (IntKind.i64.wrap ((v:Int)+1)))) H :=
  hx 0 60 [jT 23 2 H g0,jO 25 2 H g1,jT 25 4 H g2,jO 25 8 H g3,jO 25 11 H g4,jO 25 16 H g5,jO 25 22 H g6,jO 25 23 H g7,jO 25 31 H g8,jO 25 32 H g9,jF 25 33 H g10]
theorem rbe_t_2 (n:Nat) (m:Nat) (H:Heap) (tv:HV) (us a:Nat) (v:Nat) (tw:HV) {h0:Int} (g0:(v:Int) < (n:Int)) (g1:BV .shr 3 (.n us) (.n v) (.i h0)) (g2:¬ ((h0:Int).tmod 2=0)) (y4 y6 y7 y8 y9:HV:=Ud): RT polW 40 (sn 65300 B40) (e40 rw n m y4 y6 y7 y8 y9 tv (.n us) (.n a) (.n v)) H .normal (e40 rw n m y4 y6 y7 y8 y9 tv (.n us) (.n a) (.i (IntKind.i64.wrap ((v:Int)+1)))) H :=
  hx 0 60 [jT 23 2 H g0,jO 25 2 H g1,jF 25 4 H g2]
theorem rbe_u_0 (n:Nat) (m:Nat) (H:Heap) (tv:HV) (y3 y4 y5 y6 y7 y8 y9 y11 y12 y13:HV:=Ud): RT polW 40 (sn 511 B40) (env40 (.a rw) (.imm .lit 1 []) y3 y4 y5 y6 y7 y8 y9 tv y11 y12 y13) H .ret (env40 (.a rw) tv y3 y4 y5 y6 y7 y8 y9 tv y11 y12 y13) H :=
  hx 0 60 []
end
end Go.Proofs.Ytlendaofkmhgmaa
end
section
open Go Go.HL
namespace Go.Proofs.Ytlendaofkmhgmaa
set_option linter.unusedSectionVars false
open Go.Proofs.Try renaming prog → Tp
open Go.HL.HV renaming undef → Ud
theorem res40:Try.f40.results.toList=[.tmp 2]:=by kernel_rfl
open Classical in
noncomputable def best40:List HV → Option HV:=rwF fun R=>if okD R then some (.own 1 ((bestT R).map hvI)) else none
theorem res_lic {H:Heap} {b k:Nat} {cap:Option Nat} {o:List Int} (hb:H[b]?=some (bI o)) (hk:o.length=k):toRes H false (.sl b 0 k cap k 1)=some (.own 1 (o.map hvI)):=by
  have hr:=resCell_sl (H:=H) (no:=[b]) (b:=b) (k:=1) (m:=k) (cap:=cap) (els:=o.map hvI) hb (by simpa using hk) (mapO_self (fun r=>frz_int 4 r) _)
  have ho:ownedAll H false (.sl b 0 k cap k 1)=[b]:=by simp [ownedAll,cellsOf,owned,hb]
  simp only [toRes,ho,List.nodup_cons,List.not_mem_nil,not_false_eq_true,List.nodup_nil,and_self,if_true,resVal,hr]
section
variable {d:List (List Int)}
abbrev rbE (d:List (List Int)) (v6 v7 v8 v9:HV):Env:=(env40 (.a (d.map encR)) (.imm .lit 1 []) (.i (d.length:Int)) (.i ((2 ^ d.length - 1:Nat):Int)) (.o 0 (2 ^ d.length * d.length)) v6 v7 v8 v9 Ud Ud Ud Ud)
theorem wix {U n a:Nat} (hU:U ≤ 4096) (hn:n ≤ 11) (ha:a ≤ 11):IntKind.i64.wrap (IntKind.i64.wrap ((U:Int) * (n:Int))+(a:Int))=((U * n+a:Nat):Int):=by
  have h:=Nat.mul_le_mul hU hn
  rw [show (U:Int) * (n:Int)=((U * n:Nat):Int) by push_cast; rfl]
  generalize U * n=x at h
  rw [wrap_id (n:=(x:Int)) (by omega) (by omega),wrap_id (by omega) (by omega)]
  omega
theorem rb_c (hd:okD d) {U a:Nat} {T:List Int} (hU:U < 2 ^ d.length) (ha:a < d.length) (hT:TI d T U a):∀ k v (ls:Int),v+k=d.length →
    RT polW 40 (sn 8201370 B40) (rbE d (.int .i64 (U:Int)) (.int .i64 (a:Int)) (.int .i64 ls) (.int .i64 (v:Int))) [bI T] (.exit 4)
      (rbE d (.int .i64 (U:Int)) (.int .i64 (a:Int)) (.int .i64 (mnF (fun v=>at2 d a v+rsT d v (wo (2 ^ d.length - 1 - U) v)) (2 ^ d.length - 1 - U) k v ls)) (.int .i64 (d.length:Int))) [bI T]:=by
  have hdn:=hd.1
  have hpw:=pow_le hdn.2
  intro k
  induction k with
  | zero =>
    intro v ls hv
    have:v=d.length:=by omega
    subst this
    exact lpo ((rbe_l_2 (d.map encR) d.length _ _ (T.map hvI) U a ls d.length (by omega)))
  | succ k ih =>
    intro v ls hv
    rw [mnF]
    by_cases c:U.testBit v=false
    · obtain ⟨h1,h2,h3⟩:=left_add hU (show v < d.length by omega) c
      rw [if_pos h3]
      have b1:=hd.at ha (j:=v) (by omega)
      have b2:=rsT_bnd hd (s:=v) (L:=wo (2 ^ d.length - 1 - U) v) (by omega) (by have:=wo_le (2 ^ d.length - 1 - U) v; omega)
      have h2v:0 < 2 ^ v:=Nat.two_pow_pos v
      have hval:=hT.2.1 (U+2 ^ v) (by omega) h1 v (by omega)
      rw [h2] at hval
      have hix:=ix_lt h1 (show v < d.length by omega)
      have hl:=ldg (H:=[bI T]) (b:=0) (k:=(U+2 ^ v) * d.length+v) (g:=T) rfl hT.1 hix
      rw [hval] at hl
      have w1:IntKind.i64.wrap ((U:Int)+((2 ^ v:Nat):Int))=((U+2 ^ v:Nat):Int):=by
        generalize 2 ^ v=x at h1
        rw [wrap_id (by omega) (by omega)]; omega
      have s:=rbe_l_0 (d.map encR) d.length ((2 ^ d.length - 1:Nat):Int) (2 ^ d.length * d.length) (T.map hvI) U a ls v (by omega) (bo_shr (by omega)) ((bit_rem U v).2 c) (g22 ha) (g23 hd ha (by omega)) (bo_shl (by omega)) (by rw [w1,wix (by omega) (by omega) (by omega)]; exact ixg hix) hl
      rw [wrap_succ (by omega),wrap_id (n:=at2 d a v+_) (by omega) (by omega)] at s
      have r:=ih (v+1) (min ls (at2 d a v+rsT d v (wo (2 ^ d.length - 1 - U) v))) (by omega)
      exact lop (s) (gc_eq _ rfl) (r)
    · have h3:¬ (2 ^ d.length - 1 - U).testBit v=true:=by rw [left_bit hU (by omega)]; simpa using c
      rw [if_neg h3]
      have s:=rbe_l_1 (d.map encR) d.length ((2 ^ d.length - 1:Nat):Int) (2 ^ d.length * d.length) (T.map hvI) U a ls v (by omega) (bo_shr (by omega)) (fun h=>c ((bit_rem U v).1 h))
      rw [wrap_succ (by omega)] at s
      have r:=ih (v+1) ls (by omega)
      exact lop (s) (gc_eq _ rfl) (r)
theorem mnF_none (f:Nat → Int):∀ (k i:Nat) (m:Int),mnF f 0 k i m=m
  | 0,_,_=>rfl
  | k+1,i,m=>by rw [mnF,Nat.zero_testBit,if_neg (by simp),mnF_none f k]
theorem TI.put {T:List Int} {U a:Nat} (hU:U < 2 ^ d.length) (ha:a < d.length) (h:TI d T U a):TI d (T.set (U * d.length+a) (rsT d a (2 ^ d.length - 1 - U))) U (a+1):=by
  have hix:=ix_lt hU ha
  refine ⟨by rw [List.length_set]; exact h.1,fun V hV hV2 b hb=>?_,fun b hb=>?_⟩
  · rw [getDs _ _ _ _ (by rw [h.1]; exact hix),if_neg (fun e=>by have:=(ix_inj ha hb e).1; omega)]
    exact h.2.1 V hV hV2 b hb
  · rw [getDs _ _ _ _ (by rw [h.1]; exact hix)]
    by_cases e:a=b
    · subst e; rw [if_pos rfl]
    · rw [if_neg (by omega)]
      exact h.2.2 b (by omega)
theorem rb_b (hd:okD d) {U:Nat} (hU:U < 2 ^ d.length):∀ k a (T:List Int),a+k=d.length → TI d T U a →
    ∃ T' y8 y9,RT polW 40 (sn 16018 B40) (rbE d (.int .i64 (U:Int)) (.int .i64 (a:Int)) Ud Ud) [bI T] (.exit 2)
      (rbE d (.int .i64 (U:Int)) (.int .i64 (d.length:Int)) y8 y9) [bI T']∧TI d T' U d.length:=by
  have hdn:=hd.1
  have hpw:=pow_le hdn.2
  intro k
  induction k with
  | zero =>
    intro a T ha hT
    have:a=d.length:=by omega
    subst this
    have s:=rbe_h_1 (d.map encR) d.length ((2 ^ d.length - 1:Nat):Int) (2 ^ d.length * d.length) (T.map hvI) U d.length (by omega)
    exact ⟨T,_,_,lpo (sqo (s) (c:=sn 32036 B40) (b:=sn 64073 B40)),hT⟩
  | succ k ih =>
    intro a T ha hT
    have hal:a < d.length:=by omega
    have s1:=rbe_h_0 (d.map encR) d.length ((2 ^ d.length - 1:Nat):Int) (2 ^ d.length * d.length) (T.map hvI) U a (by omega)
    have s2:=rbe_i_0 (d.map encR) d.length ((2 ^ d.length - 1:Nat):Int) (2 ^ d.length * d.length) (T.map hvI) U a
    have hix:=ix_lt hU hal
    have go:∀ ls:Int,mnF (fun v=>at2 d a v+rsT d v (wo (2 ^ d.length - 1 - U) v)) (2 ^ d.length - 1 - U) d.length 0 ls=rsT d a (2 ^ d.length - 1 - U) →
        RT polW 40 (sn 1025170 B40) (rbE d (.int .i64 (U:Int)) (.int .i64 (a:Int)) (.int .i64 1099511627776) Ud) [bI T] .normal (rbE d (.int .i64 (U:Int)) (.int .i64 (a:Int)) (.int .i64 ls) Ud) [bI T] →
        ∃ T' y8 y9,RT polW 40 (sn 16018 B40) (rbE d (.int .i64 (U:Int)) (.int .i64 (a:Int)) Ud Ud) [bI T] (.exit 2)
          (rbE d (.int .i64 (U:Int)) (.int .i64 (d.length:Int)) y8 y9) [bI T']∧TI d T' U d.length:=fun ls hls s3=>by
      have s4:=rbe_k_0 (d.map encR) d.length ((2 ^ d.length - 1:Nat):Int) (2 ^ d.length * d.length) (T.map hvI) U a ls
      have r0:=rb_c hd hU hal hT d.length 0 ls (by omega)
      rw [hls] at r0
      have hst:=stg (H:=[bI T]) (b:=0) (k:=U * d.length+a) (g:=T) rfl hT.1 hix (rsT d a (2 ^ d.length - 1 - U))
      have s5:=rbe_m_0 (d.map encR) d.length ((2 ^ d.length - 1:Nat):Int) (2 ^ d.length * d.length) (T.map hvI) U a (rsT d a (2 ^ d.length - 1 - U)) (y9:=.i (d.length:Int)) (by rw [wix (by omega) (by omega) (by omega)]; exact ixg hix) hst
      have s6:=rbe_n_0 (d.map encR) d.length ((2 ^ d.length - 1:Nat):Int) (2 ^ d.length * d.length) ((T.set (U * d.length+a) (rsT d a (2 ^ d.length - 1 - U))).map hvI) U a (y8:=.i (rsT d a (2 ^ d.length - 1 - U))) (y9:=.i (d.length:Int))
      rw [wrap_succ (by omega)] at s6
      obtain ⟨T',y8,y9,r,hT'⟩:=ih (a+1) _ (by omega) (hT.put hU hal)
      exact ⟨T',y8,y9,lop (sq (s1) (sq (RunsTo.block_normal (i:=3) (c:=sn 128146 B40) (sq (s2) (sq (s3) (sq (sq (s4) (bke (c:=sn 4100685 B40) (lpi (e0:=(rbE d (.int .i64 (U:Int)) (.int .i64 (a:Int)) (.int .i64 ls) (.int .i64 ((0:Nat):Int)))) r0 (b:=sn 16402740 B40))) (c:=sn 2050342 B40)) (s5) (c:=sn 1025171 B40)) (c:=sn 512585 B40)) (c:=sn 256292 B40)) (by kernel_rfl)) (s6) (c:=sn 64073 B40)) (c:=sn 32036 B40)) (gc_eq _ rfl) (r),hT'⟩
    by_cases c:U=2 ^ d.length - 1
    · have b1:=hd.at hal (j:=0) (by omega)
      refine go (at2 d a 0) (by rw [show 2 ^ d.length - 1 - U=0 by omega,mnF_none]; rfl) (rbe_j_0 (d.map encR) d.length ((2 ^ d.length - 1:Nat):Int) (2 ^ d.length * d.length) (T.map hvI) U a 1099511627776 (by omega) (g22 hal) (g23 hd hal (u:=0) (by omega)))
    · exact go 1099511627776 (mnF_rs hd hal (by omega) (by omega)) (rbe_j_1 (d.map encR) d.length ((2 ^ d.length - 1:Nat):Int) (2 ^ d.length * d.length) (T.map hvI) U a 1099511627776 (by omega))
theorem rb_a (hd:okD d):∀ (U:Nat) (T:List Int),U < 2 ^ d.length → TI d T U 0 →
    ∃ T' y7 y8 y9,RT polW 40 (sn 250 B40) (rbE d (.int .i64 (U:Int)) Ud Ud Ud) [bI T] (.exit 0)
      (rbE d (.int .i64 ((0:Nat):Int)) y7 y8 y9) [bI T']∧TI d T' 0 0:=by
  have hdn:=hd.1
  have hpw:=pow_le hdn.2
  intro U
  induction U with
  | zero =>
    intro T _ hT
    have s:=rbe_f_1 (d.map encR) d.length ((2 ^ d.length - 1:Nat):Int) (2 ^ d.length * d.length) (T.map hvI) 0 (by omega)
    exact ⟨T,_,_,_,lpo (sqo (s) (c:=sn 500 B40) (b:=sn 1001 B40)),hT⟩
  | succ U ih =>
    intro T hU hT
    have s1:=rbe_f_0 (d.map encR) d.length ((2 ^ d.length - 1:Nat):Int) (2 ^ d.length * d.length) (T.map hvI) (U+1) (by omega)
    have s2:=rbe_g_0 (d.map encR) d.length ((2 ^ d.length - 1:Nat):Int) (2 ^ d.length * d.length) (T.map hvI) (U+1)
    obtain ⟨T1,y8,y9,r0,hT1⟩:=rb_b hd hU d.length 0 T (by omega) hT
    have s3:=rbe_o_0 (d.map encR) d.length ((2 ^ d.length - 1:Nat):Int) (2 ^ d.length * d.length) (T1.map hvI) (U+1) (y7:=.i (d.length:Int)) (y8:=y8) (y9:=y9)
    rw [wrap_pred (by omega) (by omega),Nat.add_sub_cancel] at s3
    obtain ⟨T',y7,z8,z9,r,hT'⟩:=ih T1 (by omega) ⟨hT1.1,fun V hV hV2 b hb=>by
      rcases Nat.lt_or_ge (U+1) V with h | h
      · exact hT1.2.1 V h hV2 b hb
      · have:V=U+1:=by omega
        subst this
        exact hT1.2.2 b hb,fun b hb=>absurd hb (by omega)⟩
    exact ⟨T',y7,z8,z9,lop (sq (s1) (sq (RunsTo.block_normal (i:=1) (c:=sn 2002 B40) (sq (s2) (bke (c:=sn 8009 B40) (lpi (e0:=(rbE d (.int .i64 ((U+1:Nat):Int)) (.int .i64 ((0:Nat):Int)) Ud Ud)) r0 (b:=sn 32036 B40))) (c:=sn 4004 B40)) (by kernel_rfl)) (s3) (c:=sn 1001 B40)) (c:=sn 500 B40)) (gc_eq _ rfl) (r),hT'⟩
end
section
variable {d:List (List Int)}
abbrev rbF (d:List (List Int)) (v10 v11 v12 v13:HV):Env:=(env40 (.a (d.map encR)) (.imm .lit 1 []) (.i (d.length:Int)) Ud (.o 0 (2 ^ d.length * d.length)) Ud Ud Ud Ud v10 v11 v12 v13)
def OI (T o:List Int) (tv:HV) (H:Heap):Prop:=(tv=.sl 1 0 1 (some 1) 1 1∧o=[0]∧H=[bI T,bI [0]]) ∨ (tv=.sl 2 0 o.length none o.length 1∧H=[bI T,bI [0],bI o])
theorem app_cap {H:Heap} (hl:H.length=2) (hb:H[1]?=some (bI [0])) (x:Int):appV H 1 8 (.sl 1 0 1 (some 1) 1 1) [.int .i64 x]=some (.sl 2 0 2 none 2 1,H ++ [bI ([0] ++ [x])]):=by
  simp only [appV,hb,hl]
  simp [roomMax,bnd,bndL,hvI]
theorem gc_ln {base r:Nat} {H:Heap} (h:H.length ≤ r):gc base r H=H:=List.take_of_length_le (by omega)
theorem OI.app {T o:List Int} {tv:HV} {H:Heap} (h:OI T o tv H) (ho:o.length ≤ 500) (x:Int):appV H 1 8 tv [.int .i64 x]=some (.sl 2 0 (o.length+1) none (o.length+1) 1,[bI T,bI [0],bI (o ++ [x])]):=by
  rcases h with ⟨h1,h2,h3⟩ | ⟨h1,h3⟩
  · subst h1; subst h2; subst h3
    exact app_cap rfl rfl x
  · subst h1; subst h3
    have ap:=app_ints (H:=[bI T,bI [0],bI o]) (b:=2) (o:=o) (xs:=[x]) rfl (by simp; omega) (by simp)
    rw [show (o ++ [x]).length=o.length+1 by simp] at ap
    exact ap
theorem OI.len {T o:List Int} {tv:HV} {H:Heap} (h:OI T o tv H):lenV Tp H 23 tv=some (.int .i64 (o.length:Int)):=by
  rcases h with ⟨h1,h2,h3⟩ | ⟨h1,h3⟩
  · subst h1; subst h2; kernel_rfl
  · subst h1; kernel_rfl
theorem OI.get {T o:List Int} {tv:HV} {H:Heap} (h:OI T o tv H):H[0]?=some (bI T):=by
  rcases h with ⟨_,_,h3⟩ | ⟨_,h3⟩ <;> rw [h3] <;> rfl
theorem rb_e (hd:okD d) {U a:Nat} (hU:U < 2 ^ d.length) (h1:1 ≤ U) (ha:a < d.length) {T o:List Int} {tv:HV} {H:Heap} (hT:TI d T 0 0) (hO:OI T o tv H) (ho:o.length ≤ 500):∀ k v u,v+k=d.length → pck (okV d a (2 ^ d.length - 1 - U)) k v=some u →
    ∃ y13,RT polW 40 (sn 32650 B40) (rbF d tv (.int .i64 (U:Int)) (.int .i64 (a:Int)) (.int .i64 (v:Int))) H (.exit 8)
      (rbF d (.sl 2 0 (o.length+1) none (o.length+1) 1) (.int .i64 ((U+2 ^ u:Nat):Int)) (.int .i64 (u:Int)) y13) [bI T,bI [0],bI (o ++ [(u:Int)])]:=by
  have hdn:=hd.1
  have hpw:=pow_le hdn.2
  intro k
  induction k with
  | zero=>intro v u _ h; cases h
  | succ k ih =>
    intro v u hv hq
    rw [pck] at hq
    have hix0:=ix_lt hU ha
    have hval0:=hT.2.1 U (by omega) hU a ha
    have hl0:=ldg (H:=H) (b:=0) (k:=U * d.length+a) (g:=T) hO.get hT.1 hix0
    rw [hval0] at hl0
    by_cases c:U.testBit v=false
    · obtain ⟨a1,a2,a3⟩:=left_add hU (show v < d.length by omega) c
      have b1:=hd.at ha (j:=v) (by omega)
      have b2:=rsT_bnd hd (s:=v) (L:=wo (2 ^ d.length - 1 - U) v) (by omega) (by have:=wo_le (2 ^ d.length - 1 - U) v; omega)
      have h2v:0 < 2 ^ v:=Nat.two_pow_pos v
      have hval:=hT.2.1 (U+2 ^ v) (by omega) a1 v (by omega)
      rw [a2] at hval
      have hix:=ix_lt a1 (show v < d.length by omega)
      have hl:=ldg (H:=H) (b:=0) (k:=(U+2 ^ v) * d.length+v) (g:=T) hO.get hT.1 hix
      rw [hval] at hl
      have w1:IntKind.i64.wrap ((U:Int)+((2 ^ v:Nat):Int))=((U+2 ^ v:Nat):Int):=by
        generalize 2 ^ v=x at a1
        rw [wrap_id (by omega) (by omega)]; omega
      have w2:IntKind.i64.wrap (at2 d a v+rsT d v (wo (2 ^ d.length - 1 - U) v))=at2 d a v+rsT d v (wo (2 ^ d.length - 1 - U) v):=wrap_id (by omega) (by omega)
      by_cases c2:at2 d a v+rsT d v (wo (2 ^ d.length - 1 - U) v)=rsT d a (2 ^ d.length - 1 - U)
      · have hok:okV d a (2 ^ d.length - 1 - U) v=true:=by simp [okV,a3,c2]
        rw [if_pos hok] at hq
        cases hq
        have s:=rbe_t_0 (d.map encR) d.length (2 ^ d.length * d.length) H tv U a v _ (by omega) (bo_shr (by omega)) ((bit_rem U v).2 c) (g22 ha) (g23 hd ha (by omega)) (bo_shl (by omega)) (by rw [w1,wix (by omega) (by omega) (by omega)]; exact ixg hix) hl (by rw [wix (by omega) (by omega) (by omega)]; exact ixg hix0) hl0 (by rw [w2]; exact c2) (hO.app ho (v:Int)) (bo_shl (by omega))
        rw [w1] at s
        exact ⟨_,lpo (s)⟩
      · have hok:¬ okV d a (2 ^ d.length - 1 - U) v=true:=by simp [okV,a3,c2]
        rw [if_neg hok] at hq
        have s:=rbe_t_1 (d.map encR) d.length (2 ^ d.length * d.length) H tv U a v Ud (by omega) (bo_shr (by omega)) ((bit_rem U v).2 c) (g22 ha) (g23 hd ha (by omega)) (bo_shl (by omega)) (by rw [w1,wix (by omega) (by omega) (by omega)]; exact ixg hix) hl (by rw [wix (by omega) (by omega) (by omega)]; exact ixg hix0) hl0 (by rw [w2]; exact c2)
        rw [wrap_succ (by omega)] at s
        obtain ⟨y13,r⟩:=ih (v+1) u (by omega) hq
        exact ⟨y13,lop (s) (gc_eq _ rfl) (r)⟩
    · have h3:(2 ^ d.length - 1 - U).testBit v=false:=by rw [left_bit hU (by omega)]; simpa using c
      have hok:¬ okV d a (2 ^ d.length - 1 - U) v=true:=by simp [okV,h3]
      rw [if_neg hok] at hq
      have s:=rbe_t_2 (d.map encR) d.length (2 ^ d.length * d.length) H tv U a v Ud (by omega) (bo_shr (by omega)) (fun h=>c ((bit_rem U v).1 h))
      rw [wrap_succ (by omega)] at s
      obtain ⟨y13,r⟩:=ih (v+1) u (by omega) hq
      exact ⟨y13,lop (s) (gc_eq _ rfl) (r)⟩
theorem rb_d (hd:okD d) {T:List Int} (hT:TI d T 0 0):∀ (k a U:Nat) (o:List Int) (tv:HV) (H:Heap),2 ^ d.length - 1 - U ≤ k → 1 ≤ U → U < 2 ^ d.length → a < d.length → OI T o tv H → o.length+(grd d k a (2 ^ d.length - 1 - U)).length=d.length →
    ∃ tb cap H' y11 y12 y13,RT polW 40 (sn 1020 B40) (rbF d tv (.int .i64 (U:Int)) (.int .i64 (a:Int)) Ud) H (.exit 6)
      (rbF d (.sl tb 0 (o ++ grd d k a (2 ^ d.length - 1 - U)).length cap (o ++ grd d k a (2 ^ d.length - 1 - U)).length 1) y11 y12 y13) H'∧H'[tb]?=some (bI (o ++ grd d k a (2 ^ d.length - 1 - U))):=by
  have hdn:=hd.1
  have hpw:=pow_le hdn.2
  have h0:∀ (a U:Nat) (o:List Int) (tv:HV) (H:Heap),OI T o tv H → o.length=d.length → ∃ tb cap H' y11 y12 y13,RT polW 40 (sn 1020 B40) (rbF d tv (.int .i64 (U:Int)) (.int .i64 (a:Int)) Ud) H (.exit 6) (rbF d (.sl tb 0 (o ++ []).length cap (o ++ []).length 1) y11 y12 y13) H'∧H'[tb]?=some (bI (o ++ [])):=fun a U o tv H hO hl=>by
    rw [List.append_nil]
    have s:=rbe_r_1 (d.map encR) d.length (2 ^ d.length * d.length) H tv U a hO.len (by omega)
    have t:=lpo (sqo (s) (c:=sn 2040 B40) (b:=sn 4081 B40)) (c:=sn 1020 B40)
    rcases hO with ⟨h1,h2,h3⟩ | ⟨h1,h3⟩
    · subst h1; subst h2; subst h3
      exact ⟨1,some 1,_,_,_,_,t,rfl⟩
    · subst h1; subst h3
      exact ⟨2,none,_,_,_,_,t,rfl⟩
  intro k
  induction k with
  | zero =>
    intro a U o tv H hk _ hU _ hO hl
    have e:grd d 0 a (2 ^ d.length - 1 - U)=[]:=rfl
    rw [e] at hl ⊢
    exact h0 a U o tv H hO (by simpa using hl)
  | succ k ih =>
    intro a U o tv H hk h1 hU ha hO hl
    by_cases cL:2 ^ d.length - 1 - U=0
    · rw [cL,grd,if_pos rfl] at hl ⊢
      exact h0 a U o tv H hO (by simpa using hl)
    · obtain ⟨u,p1,p2,p3,p4⟩:=pck_ok hd ha (by omega) cL
      have eg:grd d (k+1) a (2 ^ d.length - 1 - U)=(u:Int) :: grd d k u (wo (2 ^ d.length - 1 - U) u):=by rw [grd,if_neg cL,p1]
      rw [eg] at hl ⊢
      rw [List.length_cons] at hl
      have hub:U.testBit u=false:=by
        rw [left_bit hU p2] at p3
        simpa using p3
      obtain ⟨a1,a2,_⟩:=left_add hU p2 hub
      have hwl:=wo_lt p3
      rw [← a2] at hl hwl ⊢
      have s1:=rbe_r_0 (d.map encR) d.length (2 ^ d.length * d.length) H tv U a hO.len (by omega)
      have s2:=rbe_s_0 (d.map encR) d.length (2 ^ d.length * d.length) H tv U a
      obtain ⟨y13,r0⟩:=rb_e hd hU h1 ha hT hO (by omega) d.length 0 u (by omega) p1
      obtain ⟨tb,cap,H',y11,y12,z13,r,hr⟩:=ih u (U+2 ^ u) (o ++ [(u:Int)]) (.sl 2 0 (o.length+1) none (o.length+1) 1) [bI T,bI [0],bI (o ++ [(u:Int)])] (by omega) (by omega) a1 p2 (.inr ⟨by simp,rfl⟩) (by rw [List.length_append,List.length_singleton]; omega)
      rw [List.append_assoc] at r hr
      have hg:gc H.length (bndE (rbF d (.sl 2 0 (o.length+1) none (o.length+1) 1) (.int .i64 ((U+2 ^ u:Nat):Int)) (.int .i64 (u:Int)) Ud)) [bI T,bI [0],bI (o ++ [(u:Int)])]=[bI T,bI [0],bI (o ++ [(u:Int)])]:=gc_ln (by
        simp only [bndE,bnd,List.length_cons,List.length_nil]
        omega)
      exact ⟨tb,cap,H',y11,y12,z13,lop (sq (s1) (RunsTo.block_normal (i:=7) (c:=sn 4081 B40) (sq (s2) (bke (c:=sn 16325 B40) (lpi (e0:=(rbF d tv (.int .i64 (U:Int)) (.int .i64 (a:Int)) (.int .i64 ((0:Nat):Int)))) r0 (b:=sn 65300 B40))) (c:=sn 8162 B40)) (by kernel_rfl)) (c:=sn 2040 B40)) hg (r),hr⟩
end
theorem rbest_ok:PrimOk Tp 40 best40:=by
  refine primOk_pure (pol:=polW) (fn:=Try.f40) (cd:=B40) follows_mixed soundW (by kernel_rfl) (by kernel_rfl) (fnok polW.prim _ _ (by kernel_rfl)) (by kernel_rfl) ?_
  intro args res h
  obtain ⟨d,rfl,hq⟩:=rwF_inv h
  clear h
  split at hq
  case isFalse=>cases hq
  rename_i hd
  cases hq
  have hdn:=hd.1
  have hpw:=pow_le hdn.2
  have h2:2 ≤ 2 ^ d.length:=by
    have:=Nat.pow_le_pow_right (n:=2) (by omega) hdn.1
    omega
  have a:=rbe_a_0 (d.map encR)
  have b:=rbe_b_0 (d.map encR)
  rw [List.length_map] at b
  have c:=rbe_c_0 (d.map encR) d.length (bo_shl (by omega))
  have w1:IntKind.i64.wrap (((2 ^ d.length:Nat):Int) - 1)=((2 ^ d.length - 1:Nat):Int):=by
    generalize 2 ^ d.length=x at hpw h2
    rw [wrap_id (by omega) (by omega)]; omega
  rw [w1] at c
  have hmn:2 ^ d.length * d.length ≤ 2048 * 11:=Nat.mul_le_mul hpw hdn.2
  have w2:IntKind.i64.wrap (IntKind.i64.wrap (((2 ^ d.length - 1:Nat):Int)+1) * (d.length:Int))=((2 ^ d.length * d.length:Nat):Int):=by
    have e1:IntKind.i64.wrap (((2 ^ d.length - 1:Nat):Int)+1)=((2 ^ d.length:Nat):Int):=by
      generalize 2 ^ d.length=x at hpw h2
      rw [wrap_id (by omega) (by omega)]; omega
    rw [e1,show ((2 ^ d.length:Nat):Int) * (d.length:Int)=((2 ^ d.length * d.length:Nat):Int) by push_cast; rfl]
    generalize 2 ^ d.length * d.length=x at hmn
    rw [wrap_id (by omega) (by omega)]
  have mk:=makeV_ok (P:=Tp) (H:=[]) (t:=23) (e:=3) (k:=1) (bt:=8) (zv:=.int .i64 0) (n:=((2 ^ d.length * d.length:Nat):Int)) u23 (by kernel_rfl) (by simp [cellsOf,cellV]) (by simp [cellsOf]) (by omega) (by omega) (by simp only [roomMax]; omega)
  have dd:=rbe_d_0 (d.map encR) d.length ((2 ^ d.length - 1:Nat):Int) (by rw [w2]; exact mk)
  rw [w2,Int.toNat_natCast] at dd
  have hrep:List.replicate (2 ^ d.length * d.length) (HV.int .i64 0)=(List.replicate (2 ^ d.length * d.length) (0:Int)).map hvI:=by simp [hvI]
  rw [hrep] at dd
  have e:=rbe_e_0 (d.map encR) d.length ((2 ^ d.length - 1:Nat):Int) (2 ^ d.length * d.length) ((List.replicate (2 ^ d.length * d.length) (0:Int)).map hvI)
  obtain ⟨T,y7,y8,y9,r1,hT⟩:=rb_a hd (2 ^ d.length - 1) (List.replicate (2 ^ d.length * d.length) 0) (by omega) ⟨by simp,fun V h1 h2=>by omega,fun b hb=>by omega⟩
  have p:=rbe_p_0 (d.map encR) d.length ((2 ^ d.length - 1:Nat):Int) (2 ^ d.length * d.length) (T.map hvI) Ud (y6:=.i (0:Int)) (y7:=y7) (y8:=y8) (y9:=y9)
  have q:=rbe_q_0 (d.map encR) d.length (2 ^ d.length * d.length) [bI T,bI [0]] (.sl 1 0 1 (some 1) 1 1) (y4:=.i ((2 ^ d.length - 1:Nat):Int)) (y6:=.i (0:Int)) (y7:=y7) (y8:=y8) (y9:=y9)
  have ht:=best_tour hd
  obtain ⟨t1,t2,t3,t4⟩:=trOk_iff.1 ht
  have hbl:(bestT d).length=1+(grd d (2 ^ d.length) 0 (2 ^ d.length - 2)).length:=by simp only [bestT,List.length_cons]; omega
  have e2:2 ^ d.length - 1 - 1=2 ^ d.length - 2:=by omega
  obtain ⟨tb,cap,H',y11,y12,y13,r2,hr⟩:=rb_d hd hT (2 ^ d.length) 0 1 [0] (.sl 1 0 1 (some 1) 1 1) [bI T,bI [0]] (by omega) (Nat.le_refl _) (by omega) (by omega) (.inl ⟨rfl,rfl,rfl⟩) (by rw [e2,List.length_singleton]; omega)
  rw [e2] at r2 hr
  have eb:[0] ++ grd d (2 ^ d.length) 0 (2 ^ d.length - 2)=bestT d:=rfl
  rw [eb] at r2 hr
  have u:=rbe_u_0 (d.map encR) d.length (2 ^ d.length * d.length) H' (.sl tb 0 (bestT d).length cap (bestT d).length 1) (y3:=.i (d.length:Int)) (y5:=.o 0 (2 ^ d.length * d.length)) (y11:=y11) (y12:=y12) (y13:=y13)
  have t:=sq (a) (sq (b) (sq (c) (sq (dd) (sq (sq (e) (bke (c:=sn 125 B40) (lpi (e0:=(rbE d (.int .i64 ((2 ^ d.length - 1:Nat):Int)) Ud Ud Ud)) r1 (b:=sn 500 B40))) (c:=sn 62 B40)) (sq (p) (sq (q) (sq (bke (c:=sn 510 B40) (lpi (e0:=((env40 (.a (d.map encR)) (.imm .lit 1 []) (.i (d.length:Int)) (.i ((2 ^ d.length - 1:Nat):Int)) (.o 0 (2 ^ d.length * d.length)) (.i (0:Int)) y7 y8 y9 (.o 1 1) (.i (1:Int)) (.i (0:Int)) Ud))) r2 (b:=sn 2040 B40))) (u) (c:=sn 255 B40)) (c:=sn 127 B40)) (c:=sn 63 B40)) (c:=sn 31 B40)) (c:=sn 15 B40)) (c:=sn 7 B40)) (c:=sn 3 B40)) (c:=B40)
  exact ⟨_,_,_,.sl tb 0 (bestT d).length cap (bestT d).length 1,t,by simp,by simp only [resultsV,res40]; rfl,res_lic hr rfl⟩
end Go.Proofs.Ytlendaofkmhgmaa
end
section
open Go Go.HL Go.HL.So
namespace Go.Proofs.Ytlendaofkmhgmaa
set_option linter.unusedSectionVars false
open Go.Proofs.Try renaming prog → Tp
open Go.HL.HV renaming undef → Ud
def two2:Nat → List Ed → List Ed
  | _,[]=>[]
  | w,e :: l=>if e.2.1=0∧w < 2 then e :: two2 (w+1) l else two2 w l
def chosen (d:List (List Int)) (ps:List Int):List Ed:=treeL d ps 1 ++ two2 0 (edg d ps 0)
def dstep (t:List Int) (e:Ed):List Int:=(t.set e.2.1.toNat (t.getD e.2.1.toNat 0+1)).set e.2.2.toNat ((t.set e.2.1.toNat (t.getD e.2.1.toNat 0+1)).getD e.2.2.toNat 0+1)
def degs (l:List Ed):List Int:=l.foldl dstep (List.replicate 11 0)
theorem two2_mem {e:Ed}:∀ (l:List Ed) (w:Nat),e ∈ two2 w l → e ∈ l
  | [],_,h=>by cases h
  | x :: l,w,h=>by
    rw [two2] at h
    split at h
    · rcases List.mem_cons.1 h with rfl | h
      · simp
      · exact List.mem_cons_of_mem _ (two2_mem l _ h)
    · exact List.mem_cons_of_mem _ (two2_mem l _ h)
theorem two2_len:∀ (l:List Ed) (w:Nat),(two2 w l).length+w ≤ max w 2
  | [],w=>by simp [two2]; omega
  | e :: l,w=>by
    rw [two2]
    split
    · have:=two2_len l (w+1); rw [List.length_cons]; omega
    · exact two2_len l w
theorem chosen_in {d:List (List Int)} {ps:List Int} (hd:okD d):EIn d.length (chosen d ps):=fun e he=>by
  have hn:=hd.1
  rcases List.mem_append.1 he with h | h
  · exact edg_in (f:=1) (by omega) e (krP_mem _ _ h)
  · exact edg_in (f:=0) (by omega) e (two2_mem _ _ h)
def CtB (t:List Int) (k:Nat):Prop:=t.length=11∧∀ x,x < 11 → 0 ≤ t.getD x 0∧t.getD x 0 ≤ 2 * (k:Int)
theorem CtB.step {t:List Int} {k:Nat} (h:CtB t k) {e:Ed} (ha:e.2.1.toNat < 11) (hb:e.2.2.toNat < 11):CtB (dstep t e) (k+1):=by
  obtain ⟨h1,h2⟩:=h
  refine ⟨by simp [dstep,h1],fun x hx=>?_⟩
  unfold dstep
  rw [getDs _ _ _ _ (by simp [h1,hb]),getDs _ _ _ _ (by rw [h1]; exact ha),getDs _ _ _ _ (by rw [h1]; exact ha)]
  have q1:=h2 x hx
  have q2:=h2 _ ha
  have q3:=h2 _ hb
  split
  · split <;> omega
  · split <;> omega
theorem CtB.zero:CtB (List.replicate 11 0) 0:=⟨rfl,fun x hx=>by
  have:(List.replicate 11 (0:Int)).getD x 0=0:=by rw [List.getD,List.getElem?_replicate,if_pos hx]; rfl
  rw [this]; omega⟩
theorem q61 {pol':Pol} (hp:pol'.prim 61=some spanning61) {d:List (List Int)} {ps:List Int} {f:Nat} {v:HV} (hd:okD d) (hf:f ≤ d.length) (hs:Small ps) (H:Heap) (hv:toArg H 6 v=some (.imm .arg 1 (d.map encR))) :
    ∀ kf,callN Tp pol' (kf+1) 61 [v,.int .i64 (f:Int),.agg (ps.map hvI)] H=some (.sl H.length 0 (treeL d ps f).length none (treeL d ps f).length 3,H ++ [bE encE (treeL d ps f)]):=fun kf=>by
  rw [prim_call (pol:=pol') (g:=61) (F:=spanning61) hp (rs:=[.imm .arg 1 (d.map encR),.int .i64 (f:Int),.agg (ps.map hvI)]) (by simp only [mapO,hv,arg_agg]; rfl) (res:=.own 3 ((treeL d ps f).map encE)) (by simp only [spanning61,mpF,mapO_map decR_enc,mapO_map decI_enc]; rw [if_pos ⟨hd,by omega,hs⟩,Int.toNat_natCast]),recv_E]
def prOk (l:List Int):Prop:=∀ v ∈ l,-10000 ≤ v∧v ≤ 10000
end Go.Proofs.Ytlendaofkmhgmaa
end
section
open Go Go.HL
namespace Go.Proofs.Ytlendaofkmhgmaa
set_option maxRecDepth 100000
set_option linter.unusedSectionVars false
open Go.Proofs.Try renaming prog → Tp
open Go.HL.HV renaming undef → Ud
noncomputable def B66:Code:=Try.f66.body.getD .skip
abbrev env66 (v0 v1 v2 v6 v7 v8 v9 v10 v11 v12:HV):Env:=[(0,v0),(1,v1),(2,v2),(6,v6),(7,v7),(8,v8),(9,v9),(10,v10),(11,v11),(12,v12)]
abbrev e66 (rw:List HV) (la:List HV) (f:Int) (b:Nat) (m:Nat) (u5 u6 u7 u8 u9:HV):Env:=env66 (.a rw) (.a la) (.i f) (.imm .lit 3 []) (.sl b 0 m none m 3) u5 u6 u7 u8 u9
section
variable (rw la:List HV) (f:Int)
include rw la f
theorem rde_a_0:RT polW 66 (sn 2 B66) [(0,.a rw),(1,.a la),(2,.i f)] [] .normal (env66 (.a rw) (.a la) (.i f) (.imm .lit 3 []) Ud Ud Ud Ud Ud Ud) [] :=
  hx 0 60 []
end
section
variable (rw la:List HV) (f:Int)
include rw la f
theorem rde_b_0 (y7 y8 y9 y10 y11 y12:HV:=Ud): RT polW 66 (sn 6 B66) (env66 (.a rw) (.a la) (.i f) (.imm .lit 3 []) y7 y8 y9 y10 y11 y12) [] .normal (env66 (.a rw) (.a la) (.i f) (.imm .lit 3 []) (.sl 0 0 0 none 0 3) y8 y9 y10 y11 y12) [.arr 3 [] true 0] :=
  hx 0 60 []
theorem rde_c_0 (H:Heap) (b m:Nat) (y8 y9 y10 y11 y12:HV:=Ud): RT polW 66 (sn 28 B66) (e66 rw la f b m y8 y9 y10 y11 y12) H .normal (e66 rw la f b m (.i f) y9 y10 y11 y12) H :=
  hx 0 60 []
theorem rde_d_0 (H:Heap) (b m:Nat) (i:Nat) (g0:(i:Int) < (rw.length:Int)) (y9 y10 y11 y12:HV:=Ud): RT polW 66 (sn 232 B66) (e66 rw la f b m (.n i) y9 y10 y11 y12) H .normal (e66 rw la f b m (.n i) y9 y10 y11 y12) H :=
  hx 0 60 [jT 3 3 H g0]
theorem rde_d_1 (H:Heap) (b m:Nat) (i:Nat) (g0:¬ ((i:Int) < (rw.length:Int))) (y9 y10 y11 y12:HV:=Ud): RT polW 66 (sn 232 B66) (e66 rw la f b m (.n i) y9 y10 y11 y12) H (.exit 0) (e66 rw la f b m (.n i) y9 y10 y11 y12) H :=
  hx 0 60 [jF 3 3 H g0]
theorem rde_e_0 (H:Heap) (b m:Nat) (i:Nat) (y9 y10 y11 y12:HV:=Ud): RT polW 66 (sn 1864 B66) (e66 rw la f b m (.n i) y9 y10 y11 y12) H .normal (e66 rw la f b m (.n i) (.i (IntKind.i64.wrap ((i:Int)+1))) y10 y11 y12) H :=
  hx 0 60 []
theorem rde_f_0 (H:Heap) (b m:Nat) (i j:Nat) (g0:(j:Int) < (rw.length:Int)) (y10 y11 y12:HV:=Ud): RT polW 66 (sn 14920 B66) (e66 rw la f b m (.n i) (.n j) y10 y11 y12) H .normal (e66 rw la f b m (.n i) (.n j) y10 y11 y12) H :=
  hx 0 60 [jT 6 3 H g0]
theorem rde_f_1 (H:Heap) (b m:Nat) (i j:Nat) (g0:¬ ((j:Int) < (rw.length:Int))) (y10 y11 y12:HV:=Ud): RT polW 66 (sn 14920 B66) (e66 rw la f b m (.n i) (.n j) y10 y11 y12) H (.exit 2) (e66 rw la f b m (.n i) (.n j) y10 y11 y12) H :=
  hx 0 60 [jF 6 3 H g0]
theorem rde_g_0 (H:Heap) (b m:Nat) (i j c:Nat) {l0:List HV} {x0:Int} {x1:Int} {x2:Int} {H0:Heap} {H1:Heap} (g0:IX 22 (.a rw) (.n i) (.vptr (.a l0))) (g1:IX 23 (.a l0) (.n j) (.vptr (.i x0))) (g2:IX 23 (.a la) (.n i) (.vptr (.i x1))) (g3:IX 23 (.a la) (.n j) (.vptr (.i x2))) (g4:some (newV (.agg [.i 0,.i 0,.i 0]) H)=some (.q c,H0)) (g5:ST H0 73 (.q c) (.agg [.n i,.n j,.i (IntKind.i64.wrap (IntKind.i64.wrap (x0+x1)+x2))]) H1) (gS8:((same (.a l0) (.a l0) && sameH (H:Heap) H && sameH (H0:Heap) H0) && ((same (.i x0) (.i x0) && sameH (H:Heap) H && sameH (H0:Heap) H0) && ((same (.i x1) (.i x1) && sameH (H:Heap) H && sameH (H0:Heap) H0) && ((same (.i x2) (.i x2) && sameH (H:Heap) H && sameH (H0:Heap) H0) && true))))=true) (y10 y11 y12:HV:=Ud): RT polW 66 (sn 119368 B66) (e66 rw la f b m (.n i) (.n j) y10 y11 y12) H .normal (e66 rw la f b m (.n i) (.n j) (.q c) y11 y12) H1 :=
  hx 0 60 [jK gS8,jO 8 4 H g0,jO 8 7 H g1,jO 8 11 H g2,jO 8 16 H g3,jR 8 20 g4,jS 8 21 g5]
theorem rde_h_0 (H:Heap) (b m:Nat) (i j c:Nat) (y11 y12:HV:=Ud): RT polW 66 (sn 238738 B66) (e66 rw la f b m (.n i) (.n j) (.q c) y11 y12) H .normal (e66 rw la f b m (.n i) (.n j) (.q c) (.i 0) y12) H :=
  hx 0 60 []
theorem rde_i_0 (H:Heap) (b m:Nat) (i j c k:Nat) {x0:Int} {x1:Int} (g0:(k:Int) < (m:Int)) (g1:IX 70 (.sl b 0 m none m 3) (.n k) (.ptr b k 0 m)) (g2:LD H 3 (.ptr b k 2 m) (.i x0)) (g3:LD H 3 (.ptr c 0 2 1) (.i x1)) (g4:x0 ≤ x1) (y12:HV:=Ud): RT polW 66 (sn 1909912 B66) (e66 rw la f b m (.n i) (.n j) (.q c) (.n k) y12) H .normal (e66 rw la f b m (.n i) (.n j) (.q c) (.i (IntKind.i64.wrap ((k:Int)+1))) y12) H :=
  hx 0 60 [jT 10 3 H g0,jO 10 7 H g1,jO 10 9 H g2,jO 10 11 H g3,jT 10 12 H g4]
theorem rde_i_1 (H:Heap) (b m:Nat) (i j c k:Nat) {x0:Int} {x1:Int} (g0:(k:Int) < (m:Int)) (g1:IX 70 (.sl b 0 m none m 3) (.n k) (.ptr b k 0 m)) (g2:LD H 3 (.ptr b k 2 m) (.i x0)) (g3:LD H 3 (.ptr c 0 2 1) (.i x1)) (g4:¬ (x0 ≤ x1)) (y12:HV:=Ud): RT polW 66 (sn 1909912 B66) (e66 rw la f b m (.n i) (.n j) (.q c) (.n k) y12) H (.exit 4) (e66 rw la f b m (.n i) (.n j) (.q c) (.n k) y12) H :=
  hx 0 60 [jT 10 3 H g0,jO 10 7 H g1,jO 10 9 H g2,jO 10 11 H g3,jF 10 12 H g4]
theorem rde_i_2 (H:Heap) (b m:Nat) (i j c k:Nat) (g0:¬ ((k:Int) < (m:Int))) (y12:HV:=Ud): RT polW 66 (sn 1909912 B66) (e66 rw la f b m (.n i) (.n j) (.q c) (.n k) y12) H (.exit 4) (e66 rw la f b m (.n i) (.n j) (.q c) (.n k) y12) H :=
  hx 0 60 [jF 10 3 H g0]
theorem rde_j_0 (H:Heap) (b m:Nat) (i j c k:Nat) (ec:Int) (q:Nat) {H0:Heap} {H1:Heap} {H2:Heap} {H3:Heap} (g0:some (HV.sl H.length 0 0 none 0 3,H ++ [Blk.arr 3 [] true 0])=some (.sl q 0 0 none 0 3,H0)) (g1:sliceV Tp 70 (.sl b 0 m none m 3) none (some (.n k)) none=some (.sl b 0 k none m 3)) (g2:builtinV Tp .append [70,70] [.sl q 0 0 none 0 3,.sl b 0 k none m 3] H0=some (.sl q 0 k none k 3,H1)) (g3:LD H1 73 (.q c) (.agg [.n i,.n j,.i ec])) (g4:appV H1 3 24 (.sl q 0 k none k 3) [.agg [.n i,.n j,.i ec]]=some (.sl q 0 (k+1) none (k+1) 3,H2)) (g5:sliceV Tp 70 (.sl b 0 m none m 3) (some (.n k)) none none=some (.sl b k (m - k) none m 3)) (g6:builtinV Tp .append [70,70] [.sl q 0 (k+1) none (k+1) 3,.sl b k (m - k) none m 3] H2=some (.sl q 0 (m+1) none (m+1) 3,H3)) (y12:HV:=Ud): RT polW 66 (sn 477479 B66) (e66 rw la f b m (.n i) (.n j) (.q c) (.n k) y12) H .normal (env66 (.a rw) (.a la) (.i f) (.imm .lit 3 []) (.sl q 0 (m+1) none (m+1) 3) (.n i) (.n j) (.q c) (.n k) (.sl q 0 (k+1) none (k+1) 3)) H3 :=
  hx 0 60 [jR 12 0 g0,jO 13 3 H0 g1,jR 13 4 g2,jO 14 1 H1 g3,jR 14 3 g4,jO 15 3 H2 g5,jR 15 4 g6]
theorem rde_k_0 (H:Heap) (b m:Nat) (i j:Nat) (y10 y11 y12:HV:=Ud): RT polW 66 (sn 29843 B66) (e66 rw la f b m (.n i) (.n j) y10 y11 y12) H .normal (e66 rw la f b m (.n i) (.i (IntKind.i64.wrap ((j:Int)+1))) y10 y11 y12) H :=
  hx 0 60 []
theorem rde_l_0 (H:Heap) (b m:Nat) (i:Nat) (y9 y10 y11 y12:HV:=Ud): RT polW 66 (sn 467 B66) (e66 rw la f b m (.n i) y9 y10 y11 y12) H .normal (e66 rw la f b m (.i (IntKind.i64.wrap ((i:Int)+1))) y9 y10 y11 y12) H :=
  hx 0 60 []
theorem rde_m_0 (H:Heap) (b m:Nat) (y8 y9 y10 y11 y12:HV:=Ud): RT polW 66 (sn 15 B66) (e66 rw la f b m y8 y9 y10 y11 y12) H .ret (env66 (.a rw) (.a la) (.i f) (.sl b 0 m none m 3) (.sl b 0 m none m 3) y8 y9 y10 y11 y12) H :=
  hx 0 60 []
end
end Go.Proofs.Ytlendaofkmhgmaa
end
section
open Go Go.HL Go.HL.So
namespace Go.Proofs.Ytlendaofkmhgmaa
set_option linter.unusedSectionVars false
open Go.Proofs.Try renaming prog → Tp
open Go.HL.HV renaming undef → Ud
theorem u70:Tp.underlying 70=some (.slice 73):=by kernel_rfl
theorem s73:tySize Tp 73=some 3:=by kernel_rfl
theorem a73:tyAgg Tp 73=true:=by kernel_rfl
theorem info73:(Tp.info? 73).map (fun i=>(i.size,i.bytes,zeroFits i))=some (3,24,true):=by kernel_rfl
abbrev bF (l:List Ed):Blk:=.arr 3 (l.map encF) true 0
abbrev hF (Ls:List (List Ed)):Heap:=Ls.map bF
theorem encF_bnd:∀ (l:List Ed),bndL (l.map encF)=0
  | []=>rfl
  | a :: l=>by simp only [List.map_cons,bndL,encF_bnd l,encF,bnd]; rfl
theorem encF_any (l:List Ed):(l.map encF).any isOwn=false:=by
  rw [List.any_eq_false]
  intro v hv
  obtain ⟨k,_,rfl⟩:=List.mem_map.1 hv
  simp [encF,isOwn]
theorem same_encF:∀ l:List Ed,sameL (l.map encF) (l.map encF)=true
  | []=>rfl
  | e :: l=>by simp [sameL,same,encF,same_encF l]
theorem same_hF:∀ Ls,sameH (hF Ls) (hF Ls)=true
  | []=>rfl
  | l :: Ls=>by
    show (3 == 3 && sameL (l.map encF) (l.map encF) && true == true && 0 == 0 && sameH (hF Ls) (hF Ls))=true
    rw [same_hF Ls,same_encF]; rfl
theorem gc_len {base r:Nat} {H:Heap} (h:H.length ≤ r):gc base r H=H:=List.take_of_length_le (by omega)
theorem hF_get {Ls:List (List Ed)} {b:Nat} {l:List Ed} (h:Ls[b]?=some l):(hF Ls)[b]?=some (bF l):=by rw [List.getElem?_map,h]; rfl
theorem at_get {α:Type} [Inhabited α] {l:List α} {k:Nat} (h:k < l.length):l[k]?=some (at_ l k):=by
  simp [at_,List.getD,List.getElem?_eq_getElem h]
theorem ixf {n b k:Nat} {cap:Option Nat} (hk:k < n):idxV Tp 70 (.sl b 0 n cap n 3) (.int .i64 (k:Int))=some (.ptr b k 0 n):=by
  have:=idx_sl (P:=Tp) (t:=70) (b:=b) (len:=n) (tot:=n) (cap:=cap) (ik:=.i64) (n:=(k:Int)) u70 s73 (by omega) (by omega)
  rwa [Int.toNat_natCast] at this
theorem fEl {l:List Ed} {k:Nat} (hk:k < l.length):(l.map encF)[k]?=some (.agg [.int .i64 (at_ l k).2.1,.int .i64 (at_ l k).2.2,.int .i64 (at_ l k).1]):=by
  rw [List.getElem?_map,at_get hk]; rfl
theorem lf0 {H:Heap} {b k n:Nat} {l:List Ed} (hb:H[b]?=some (bF l)) (hn:l.length=n) (hk:k < n):loadV Tp H 3 (.ptr b k 0 n)=some (.int .i64 (at_ l k).2.1) :=
  load_cell (b:=b) hb (by simpa using hn.symm) (fEl (by omega)) a3 i3 rfl
theorem lf1 {H:Heap} {b k n:Nat} {l:List Ed} (hb:H[b]?=some (bF l)) (hn:l.length=n) (hk:k < n):loadV Tp H 3 (.ptr b k 1 n)=some (.int .i64 (at_ l k).2.2) :=
  load_cell (b:=b) hb (by simpa using hn.symm) (fEl (by omega)) a3 i3 rfl
theorem lf2 {H:Heap} {b k n:Nat} {l:List Ed} (hb:H[b]?=some (bF l)) (hn:l.length=n) (hk:k < n):loadV Tp H 3 (.ptr b k 2 n)=some (.int .i64 (at_ l k).1) :=
  load_cell (b:=b) hb (by simpa using hn.symm) (fEl (by omega)) a3 i3 rfl
theorem lf {H:Heap} {b k n:Nat} {l:List Ed} (hb:H[b]?=some (bF l)) (hn:l.length=n) (hk:k < n):loadV Tp H 73 (.ptr b k 0 n)=some (encF (at_ l k)) :=
  load_agg (b:=b) hb (by simpa using hn.symm) (fEl (by omega)) a73 s73
theorem stF {H:Heap} {b:Nat} (hb:H[b]?=some (.arr 3 [.agg [.int .i64 0,.int .i64 0,.int .i64 0]] true 0)) (e:Ed):storeV Tp H 73 (.ptr b 0 0 1) (encF e)=some (H.set b (bF [e])):=by
  have:=store_agg (P:=Tp) (t:=73) (b:=b) (i:=0) (tot:=1) (cs:=[.int .i64 0,.int .i64 0,.int .i64 0]) (new:=[.int .i64 e.2.1,.int .i64 e.2.2,.int .i64 e.1]) hb rfl rfl s73 rfl (by simp) rfl rfl
  exact this
theorem app_f1 {H:Heap} {b:Nat} {o:List Ed} (hb:H[b]?=some (bF o)) (hl:o.length ≤ 1000) (e:Ed) :
    appV H 3 24 (.sl b 0 o.length none o.length 3) [encF e]=some (.sl b 0 (o.length+1) none (o.length+1) 3,H.set b (bF (o ++ [e]))):=by
  have:=app_sl (H:=H) (k:=3) (bytes:=24) (b:=b) (n:=o.length) (mx:=0) (els:=o.map encF) (xs:=[encF e]) hb (by simp) (by simp) (by simp only [roomMax,List.length_singleton]; omega) (encF_bnd [e])
  rw [this]
  simp only [bF,List.map_append,List.map_cons,List.map_nil,List.length_singleton]
theorem set_self2 {H:Heap} {b:Nat} {B:Blk} (hb:H[b]?=some B):H.set b B=H:=by
  apply List.ext_getElem?
  intro k
  rw [List.getElem?_set]
  by_cases e:b=k
  · subst e; rw [if_pos rfl,if_pos (by rcases Nat.lt_or_ge b H.length with h | h; exact h; rw [List.getElem?_eq_none h] at hb; cases hb),hb]
  · rw [if_neg e]
theorem app_f {H:Heap} {b:Nat} {x:HV} {o xs:List Ed} (hb:H[b]?=some (bF o)) (hs:srcOf H x=some (xs.map encF,3)) (hlen:o.length+xs.length ≤ 1000) :
    builtinV Tp .append [70,70] [.sl b 0 o.length none o.length 3,x] H=some (.sl b 0 (o ++ xs).length none (o ++ xs).length 3,H.set b (bF (o ++ xs))):=by
  have hi:=info73
  cases hinf:Tp.info? 73 with
  | none=>rw [hinf] at hi; cases hi
  | some inf =>
    rw [hinf] at hi
    simp only [Option.map,Option.some.injEq,Prod.mk.injEq] at hi
    obtain ⟨e1,e2,e3⟩:=hi
    simp only [builtinV,u70,hinf,hs,e1,e2,e3]
    rw [if_pos ⟨.inl trivial,by omega,trivial⟩]
    by_cases hx:xs=[]
    · subst hx
      simp only [List.map_nil,appV,if_true,List.append_nil,set_self2 hb]
    · have:=app_sl (H:=H) (k:=3) (bytes:=24) (b:=b) (n:=o.length) (mx:=0) (els:=o.map encF) (xs:=xs.map encF) hb (by simp) (by simpa using hx) (by rw [List.length_map]; simp only [roomMax]; omega) (encF_bnd xs)
      rw [this]
      simp [bF]
theorem src_f {H:Heap} {b off len:Nat} {o:List Ed} (hb:H[b]?=some (bF o)) (h:off+len ≤ o.length):srcOf H (.sl b off len none o.length 3)=some (((o.drop off).take len).map encF,3):=by
  show (if len=0 then some ([],3) else (view H b off len o.length 3).map fun l=>(l,3))=_
  split
  · rename_i h0; subst h0; simp
  · have hv:view H b off len o.length 3=some (((o.drop off).take len).map encF):=by
      unfold view
      rw [hb]
      simp [h,List.map_take,List.map_drop]
    rw [hv]; rfl
theorem slF_lo {b m k:Nat} (h:k ≤ m):sliceV Tp 70 (.sl b 0 m none m 3) none (some (.int .i64 (k:Int))) none=some (.sl b 0 k none m 3):=by
  have e:boundV (some (.int .i64 (k:Int)))=some (some k):=by
    show (if (0:Int) ≤ (k:Int) then some (some ((k:Int)).toNat) else none)=_
    rw [if_pos (by omega),Int.toNat_natCast]
  simp only [sliceV,e,boundV,u70,s73]
  simp [h]
theorem slF_hi {b m k:Nat} (h:k ≤ m):sliceV Tp 70 (.sl b 0 m none m 3) (some (.int .i64 (k:Int))) none none=some (.sl b k (m - k) none m 3):=by
  have e:boundV (some (.int .i64 (k:Int)))=some (some k):=by
    show (if (0:Int) ≤ (k:Int) then some (some ((k:Int)).toNat) else none)=_
    rw [if_pos (by omega),Int.toNat_natCast]
  simp only [sliceV,e,boundV,u70,s73]
  simp [h]
theorem frz_F {H:Heap} {no:List Nat} {n:Nat} (e:Ed):frz H no (n+1) (encF e)=some (encF e):=by
  show (match mapO (frz H no n) [.int .i64 e.2.1,.int .i64 e.2.2,.int .i64 e.1] with | some l=>some (HV.agg l) | none=>none)=_
  have h1:∀ x:Int,frz H no n (.int .i64 x)=some (.int .i64 x):=fun x=>frz_int n x
  simp only [mapO,h1]; rfl
theorem toRes_F {H:Heap} {b:Nat} {l:List Ed} (hb:H[b]?=some (bF l)):toRes H false (.sl b 0 l.length none l.length 3)=some (.own 3 (l.map encF)):=by
  have hr:=resCell_sl (H:=H) (no:=[b]) (b:=b) (k:=3) (m:=l.length) (cap:=none) (els:=l.map encF) hb (by simp) (mapO_self (fun e=>frz_F (n:=3) e) _)
  have ho:ownedAll H false (.sl b 0 l.length none l.length 3)=[b]:=by simp [ownedAll,cellsOf,owned,hb]
  simp only [toRes,ho,List.nodup_cons,List.not_mem_nil,not_false_eq_true,List.nodup_nil,and_self,if_true,resVal,hr]
theorem recv_F (l:List Ed) (H:Heap):recv (.own 3 (l.map encF)) H=(.sl H.length 0 l.length none l.length 3,H ++ [bF l]):=by
  simp only [recv,recvVal,recvCell,encF_any,List.length_map]
  rfl
theorem insS_at (e:Ed):∀ (o:List Ed) (k:Nat),k ≤ o.length → (∀ i,i < k → (at_ o i).1 ≤ e.1) → (k < o.length → e.1 < (at_ o k).1) → insS e o=o.take k ++ [e] ++ o.drop k
  | [],k,h,_,_=>by
    have:k=0:=by simpa using h
    subst this; rfl
  | x :: o,0,_,_,h2=>by
    have h:e.1 < x.1:=h2 (by simp)
    rw [insS,if_neg (by omega)]; rfl
  | x :: o,k+1,h,h1,h2=>by
    have h0:x.1 ≤ e.1:=h1 0 (by omega)
    rw [insS,if_pos h0,insS_at e o k (by simpa using h) (fun i hi=>h1 (i+1) (by omega)) (fun hk=>h2 (by simpa using hk))]
    rfl
theorem res66:Try.f66.results.toList=[.tmp 6]:=by kernel_rfl
def rliF (f:List (List Int) → List Int → Int → Option HV):List HV → Option HV
  | [.imm .arg 1 rw,.imm .arg 1 la,.int .i64 a]=>(match mapO decR rw,mapO decI la with | some R,some ps=>f R ps a | _,_=>none)
  | _=>none
theorem rliF_inv {f:List (List Int) → List Int → Int → Option HV} {args:List HV} {res:HV} (h:rliF f args=some res):∃ R ps a,args=[.imm .arg 1 (R.map encR),.imm .arg 1 (ps.map hvI),.int .i64 a]∧f R ps a=some res:=by
  unfold rliF at h
  split at h
  · rename_i rw la a
    split at h
    · rename_i R ps hR hp
      exact ⟨R,ps,a,by rw [mapO_inv decR_inv hR,mapO_inv decI_inv hp],h⟩
    · cases h
  · cases h
open Classical in
noncomputable def edges66:List HV → Option HV:=rliF fun R l a=>if okD R∧l.length=R.length∧prOk l∧0 ≤ a∧a ≤ R.length then some (.own 3 ((edg R l a.toNat).map encF)) else none
section
variable {d:List (List Int)} {l:List Int} {f:Nat}
abbrev rdE (d:List (List Int)) (l:List Int) (f b m:Nat) (v8 v9 v10 v11 v12:HV):Env:=(env66 (.a (d.map encR)) (.a (l.map hvI)) (.i (f:Int)) (.imm .lit 3 []) (.sl b 0 m none m 3) v8 v9 v10 v11 v12)
theorem rd_pos {Ls:List (List Ed)} {b c i j:Nat} {o:List Ed} {e:Ed} (hb:Ls[b]?=some o) (hc:Ls[c]?=some [e]) (hl:o.length ≤ 500):∀ n k,k+n=o.length → (∀ x,x < k → (at_ o x).1 ≤ e.1) →
    ∃ k',k' ≤ o.length∧insS e o=o.take k' ++ [e] ++ o.drop k'∧RT polW 66 (sn 954956 B66) (rdE d l f b o.length (.int .i64 (i:Int)) (.int .i64 (j:Int)) (.ptr c 0 0 1) (.int .i64 (k:Int)) Ud) (hF Ls) (.exit 4)
      (rdE d l f b o.length (.int .i64 (i:Int)) (.int .i64 (j:Int)) (.ptr c 0 0 1) (.int .i64 (k':Int)) Ud) (hF Ls):=by
  intro n
  induction n with
  | zero =>
    intro k hk hx
    have:k=o.length:=by omega
    subst this
    have s:=rde_i_2 (d.map encR) (l.map hvI) f (hF Ls) b o.length i j c o.length (by omega)
    exact ⟨o.length,Nat.le_refl _,insS_at e o _ (Nat.le_refl _) hx (fun h=>absurd h (by omega)),lpo (s)⟩
  | succ n ih =>
    intro k hk hx
    by_cases c1:(at_ o k).1 ≤ e.1
    · have s:=rde_i_0 (d.map encR) (l.map hvI) f (hF Ls) b o.length i j c k (by omega) (ixf (by omega)) (lf2 (hF_get hb) rfl (by omega)) (lf2 (l:=[e]) (k:=0) (hF_get hc) rfl (by simp)) c1
      rw [wrap_succ (by omega)] at s
      obtain ⟨k',h1,h2,r⟩:=ih (k+1) (by omega) (fun x hxk=>by
        rcases Nat.lt_or_ge x k with h | h
        · exact hx x h
        · have:x=k:=by omega
          subst this; exact c1)
      exact ⟨k',h1,h2,lop (s) (gc_eq _ rfl) (r)⟩
    · have s:=rde_i_1 (d.map encR) (l.map hvI) f (hF Ls) b o.length i j c k (by omega) (ixf (by omega)) (lf2 (hF_get hb) rfl (by omega)) (lf2 (l:=[e]) (k:=0) (hF_get hc) rfl (by simp)) c1
      exact ⟨k,by omega,insS_at e o k (by omega) hx (fun _=>Int.not_le.1 c1),lpo (s)⟩
theorem get_end {α:Type} (l:List α) (x:α):(l ++ [x])[l.length]?=some x:=by simp
theorem set_end {α:Type} (l:List α) (x y:α):(l ++ [x]).set l.length y=l ++ [y]:=by simp
theorem hF_app (Ls:List (List Ed)) (o:List Ed):hF Ls ++ [bF o]=hF (Ls ++ [o]):=by simp [hF]
theorem hF_len (Ls:List (List Ed)):(hF Ls).length=Ls.length:=by simp [hF]
theorem hF_set (Ls:List (List Ed)) (o o':List Ed):(hF (Ls ++ [o])).set Ls.length (bF o')=hF (Ls ++ [o']):=by
  rw [← hF_app,← hF_len Ls,set_end,hF_app]
theorem prOk.at (h:prOk l) {i:Nat} (hi:i < l.length):-10000 ≤ l.getD i 0∧l.getD i 0 ≤ 10000:=by
  have e:l.getD i 0=l[i]:=by simp [List.getD,List.getElem?_eq_getElem hi]
  rw [e]; exact h _ (List.getElem_mem _)
theorem rd_in (hd:okD d) (hn:l.length=d.length) (hp:prOk l) {i:Nat} (hi:i < d.length):∀ k j (Ls:List (List Ed)) (o:List Ed),j+k=d.length → i < j → o.length+k ≤ 400 →
    ∃ Ls' y10 y11 y12,RT polW 66 (sn 3730 B66) (rdE d l f Ls.length o.length (.int .i64 (i:Int)) (.int .i64 (j:Int)) Ud Ud Ud) (hF (Ls ++ [o])) (.exit 2)
      (rdE d l f Ls'.length (rfRow d l i k j o).length (.int .i64 (i:Int)) (.int .i64 (d.length:Int)) y10 y11 y12) (hF (Ls' ++ [rfRow d l i k j o])):=by
  have hdn:=hd.1
  intro k
  induction k with
  | zero =>
    intro j Ls o hj hij hl
    have:j=d.length:=by omega
    subst this
    have s:=rde_f_1 (d.map encR) (l.map hvI) f (hF (Ls ++ [o])) Ls.length o.length i d.length (by simp)
    exact ⟨Ls,_,_,_,lpo (sqo (s) (c:=sn 7460 B66) (b:=sn 14921 B66))⟩
  | succ k ih =>
    intro j Ls o hj hij hl
    have b1:=hd.at (i:=i) (j:=j) hi (by omega)
    have b2:=hp.at (i:=i) (by omega)
    have b3:=hp.at (i:=j) (by omega)
    have e:IntKind.i64.wrap (IntKind.i64.wrap (at2 d i j+l.getD i 0)+l.getD j 0)=cst d l i j:=by
      rw [wrap_id (n:=at2 d i j+l.getD i 0) (by omega) (by omega),wrap_id (by omega) (by omega)]; rfl
    have s:=rde_f_0 (d.map encR) (l.map hvI) f (hF (Ls ++ [o])) Ls.length o.length i j (by rw [List.length_map]; omega)
    have hst:=stF (H:=hF (Ls ++ [o] ++ [[(0,0,0)]])) (b:=(Ls ++ [o]).length) (hF_get (l:=[(0,0,0)]) (get_end _ _)) (mkE d l i j)
    rw [hF_set] at hst
    have g1:=rde_g_0 (d.map encR) (l.map hvI) f (hF (Ls ++ [o])) Ls.length o.length i j (Ls ++ [o]).length (H0:=hF (Ls ++ [o] ++ [[(0,0,0)]])) (g22' hi) (g23' hd hi (by omega)) (gx (by omega)) (gx (by omega)) (by
      show some (HV.ptr (hF (Ls ++ [o])).length 0 0 1,hF (Ls ++ [o]) ++ [bF [(0,0,0)]])=_
      rw [hF_app,hF_len]) (by rw [e]; exact hst)
      (by simp only [same,same_li,same_hF,beq_self_eq_true,Bool.and_self])
    have h1:=rde_h_0 (d.map encR) (l.map hvI) f (hF (Ls ++ [o] ++ [[mkE d l i j]])) Ls.length o.length i j (Ls ++ [o]).length
    obtain ⟨k',hk',hins,r⟩:=rd_pos (d:=d) (l:=l) (f:=f) (Ls:=Ls ++ [o] ++ [[mkE d l i j]]) (b:=Ls.length) (c:=(Ls ++ [o]).length) (i:=i) (j:=j) (o:=o) (e:=mkE d l i j) (by simp) (get_end _ _) (by omega) o.length 0 (by omega) (fun x hx=>absurd hx (by omega))
    generalize hM:Ls ++ [o] ++ [[mkE d l i j]]=M at *
    have hMb:M[Ls.length]?=some o:=by rw [← hM]; simp
    have hMc:M[(Ls ++ [o]).length]?=some [mkE d l i j]:=by rw [← hM]; exact get_end _ _
    have lt1:Ls.length < M.length:=by rw [← hM]; simp
    have lt2:(Ls ++ [o]).length < M.length:=by rw [← hM]; simp
    have hq:∀ o',(hF (M ++ [o']))[Ls.length]?=some (bF o):=fun o'=>hF_get (by rw [List.getElem?_append_left lt1]; exact hMb)
    have hcq:∀ o',(hF (M ++ [o']))[(Ls ++ [o]).length]?=some (bF [mkE d l i j]):=fun o'=>hF_get (by rw [List.getElem?_append_left lt2]; exact hMc)
    have hlast:∀ o',(hF (M ++ [o']))[M.length]?=some (bF o'):=fun o'=>hF_get (get_end _ _)
    have ht:(o.take k').length=k':=by rw [List.length_take]; omega
    have ap1:=app_f (H:=hF (M ++ [[]])) (b:=M.length) (x:=.sl Ls.length 0 k' none o.length 3) (o:=[]) (xs:=o.take k') (hlast []) (by have:=src_f (off:=0) (len:=k') (hq []) (by omega); rwa [List.drop_zero] at this) (by rw [ht,List.length_nil]; omega)
    rw [hF_set,List.nil_append,ht] at ap1
    have ap2:=app_f1 (H:=hF (M ++ [o.take k'])) (b:=M.length) (o:=o.take k') (hlast _) (by omega) (mkE d l i j)
    rw [hF_set,ht] at ap2
    have hd2:(o.drop k').length=o.length - k':=List.length_drop
    have ap3:=app_f (H:=hF (M ++ [o.take k' ++ [mkE d l i j]])) (b:=M.length) (x:=.sl Ls.length k' (o.length - k') none o.length 3) (o:=o.take k' ++ [mkE d l i j]) (xs:=o.drop k') (hlast _) (by have:=src_f (off:=k') (len:=o.length - k') (hq (o.take k' ++ [mkE d l i j])) (by omega); rwa [List.take_of_length_le (show (o.drop k').length ≤ o.length - k' by omega)] at this) (by rw [List.length_append,ht,hd2,List.length_singleton]; omega)
    have e1:(o.take k' ++ [mkE d l i j]).length=k'+1:=by rw [List.length_append,ht]; rfl
    have e2:(insS (mkE d l i j) o).length=o.length+1:=insS_len _ _
    rw [hF_set,← hins,e1,e2] at ap3
    have hlc:=lf (l:=[mkE d l i j]) (k:=0) (n:=1) (hcq (o.take k')) rfl Nat.one_pos
    have j1:=rde_j_0 (d.map encR) (l.map hvI) f (hF M) Ls.length o.length i j (Ls ++ [o]).length k' (cst d l i j) M.length (by rw [hF_len]; exact congrArg some (congrArg _ (hF_app M []))) (slF_lo hk') ap1 (hlc) ap2 (slF_hi hk') ap3
    have k1:=rde_k_0 (d.map encR) (l.map hvI) f (hF (M ++ [insS (mkE d l i j) o])) M.length (o.length+1) i j (y10:=.ptr (Ls ++ [o]).length 0 0 1) (y11:=.i (k':Int)) (y12:=.sl M.length 0 (k'+1) none (k'+1) 3)
    rw [wrap_succ (by omega)] at k1
    obtain ⟨Ls',y10,y11,y12,r2⟩:=ih (j+1) M (insS (mkE d l i j) o) (by omega) (by omega) (by omega)
    rw [e2] at r2
    have hg:gc (hF (Ls ++ [o])).length (bndE (rdE d l f M.length (o.length+1) (.int .i64 (i:Int)) (.int .i64 ((j+1:Nat):Int)) Ud Ud Ud)) (hF (M ++ [insS (mkE d l i j) o]))=hF (M ++ [insS (mkE d l i j) o]):=gc_len (by
      rw [hF_len,List.length_append]
      simp only [bndE,bnd,List.length_singleton]
      omega)
    have st:=sq (s) (sq (RunsTo.block_normal (i:=3) (c:=sn 29842 B66) (sq (g1) (sq (h1) (sq (bke (c:=sn 477478 B66) (lpi (e0:=(rdE d l f Ls.length o.length (.int .i64 (i:Int)) (.int .i64 (j:Int)) (.ptr (Ls ++ [o]).length 0 0 1) (.int .i64 ((0:Nat):Int)) Ud)) r (b:=sn 1909912 B66))) (j1) (c:=sn 238739 B66)) (c:=sn 119369 B66)) (c:=sn 59684 B66)) (by kernel_rfl)) (k1) (c:=sn 14921 B66)) (c:=sn 7460 B66)
    exact ⟨Ls',y10,y11,y12,lop (st) hg (r2)⟩
theorem rfRow_len (d:List (List Int)) (p:List Int) (a:Nat):∀ k b o,(rfRow d p a k b o).length=o.length+k
  | 0,_,_=>rfl
  | k+1,b,o=>by rw [rfRow,rfRow_len d p a k,insS_len]; omega
theorem rd_out (hd:okD d) (hn:l.length=d.length) (hp:prOk l):∀ k i (Ls:List (List Ed)) (o:List Ed),i+k=d.length → o.length+k * d.length ≤ 300 →
    ∃ Ls' y8 y9 y10 y11 y12,RT polW 66 (sn 58 B66) (rdE d l f Ls.length o.length (.int .i64 (i:Int)) Ud Ud Ud Ud) (hF (Ls ++ [o])) (.exit 0)
      (rdE d l f Ls'.length (rfAll d l k i o).length y8 y9 y10 y11 y12) (hF (Ls' ++ [rfAll d l k i o])):=by
  have hdn:=hd.1
  intro k
  induction k with
  | zero =>
    intro i Ls o hi hl
    have:i=d.length:=by omega
    subst this
    have s:=rde_d_1 (d.map encR) (l.map hvI) f (hF (Ls ++ [o])) Ls.length o.length d.length (by simp)
    exact ⟨Ls,_,_,_,_,_,lpo (sqo (s) (c:=sn 116 B66) (b:=sn 233 B66))⟩
  | succ k ih =>
    intro i Ls o hi hl
    rw [Nat.succ_mul] at hl
    have s:=rde_d_0 (d.map encR) (l.map hvI) f (hF (Ls ++ [o])) Ls.length o.length i (by rw [List.length_map]; omega)
    have s2:=rde_e_0 (d.map encR) (l.map hvI) f (hF (Ls ++ [o])) Ls.length o.length i
    rw [wrap_succ (by omega)] at s2
    obtain ⟨Ls',y10,y11,y12,r⟩:=rd_in (f:=f) hd hn hp (i:=i) (by omega) (d.length - (i+1)) (i+1) Ls o (by omega) (by omega) (by omega)
    have s3:=rde_l_0 (d.map encR) (l.map hvI) f (hF (Ls' ++ [rfRow d l i (d.length - (i+1)) (i+1) o])) Ls'.length (rfRow d l i (d.length - (i+1)) (i+1) o).length i (y9:=.i (d.length:Int)) (y10:=y10) (y11:=y11) (y12:=y12)
    rw [wrap_succ (by omega)] at s3
    obtain ⟨Lz,y8,y9,z10,z11,z12,r2⟩:=ih (i+1) Ls' (rfRow d l i (d.length - (i+1)) (i+1) o) (by omega) (by rw [rfRow_len]; omega)
    have hgl:∀ (L:List (List Ed)),gc (hF (Ls ++ [o])).length (bndE (rdE d l f L.length (rfRow d l i (d.length - (i+1)) (i+1) o).length (.int .i64 ((i+1:Nat):Int)) Ud Ud Ud Ud)) (hF (L ++ [rfRow d l i (d.length - (i+1)) (i+1) o]))=hF (L ++ [rfRow d l i (d.length - (i+1)) (i+1) o]):=fun L=>gc_len (by
      rw [hF_len,List.length_append]
      simp only [bndE,bnd,List.length_singleton]
      omega)
    have st:=sq (s) (sq (RunsTo.block_normal (i:=1) (c:=sn 466 B66) (sq (s2) (bke (c:=sn 1865 B66) (lpi (e0:=(rdE d l f Ls.length o.length (.int .i64 (i:Int)) (.int .i64 ((i+1:Nat):Int)) Ud Ud Ud)) r (b:=sn 7460 B66))) (c:=sn 932 B66)) (by kernel_rfl)) (s3) (c:=sn 233 B66)) (c:=sn 116 B66)
    exact ⟨Lz,y8,y9,z10,z11,z12,lop (st) (hgl Ls') (r2)⟩
end
theorem redges_ok:PrimOk Tp 66 edges66:=by
  refine primOk_pure (pol:=polW) (fn:=Try.f66) (cd:=B66) follows_mixed soundW (by kernel_rfl) (by kernel_rfl) (fnok polW.prim _ _ (by kernel_rfl)) (by kernel_rfl) ?_
  intro args res h
  obtain ⟨d,l,a0,rfl,hq⟩:=rliF_inv h
  clear h
  split at hq
  · rename_i hc
    obtain ⟨hd,hn,hp,ha⟩:=hc
    cases hq
    have hdn:=hd.1
    obtain ⟨f,rfl⟩:∃ x:Nat,a0=(x:Int):=⟨a0.toNat,by omega⟩
    rw [Int.toNat_natCast]
    have s0:=rde_a_0 (d.map encR) (l.map hvI) f
    have s1:=rde_b_0 (d.map encR) (l.map hvI) f
    have s2:=rde_c_0 (d.map encR) (l.map hvI) f [bF []] 0 0
    have hkk:(d.length - f) * d.length ≤ 11 * 11:=Nat.mul_le_mul (by omega) hdn.2
    obtain ⟨Ls,y8,y9,y10,y11,y12,r⟩:=rd_out (f:=f) hd hn hp (d.length - f) f [] [] (by omega) (by simp only [List.length_nil]; omega)
    rw [show rfAll d l (d.length - f) f []=edg d l f from rfl] at r
    have s3:=rde_m_0 (d.map encR) (l.map hvI) f (hF (Ls ++ [edg d l f])) Ls.length (edg d l f).length (y8:=y8) (y9:=y9) (y10:=y10) (y11:=y11) (y12:=y12)
    have t:=sq (s0) (sq (s1) (sq (sq (s2) (bke (c:=sn 29 B66) (lpi (e0:=(rdE d l f 0 0 (.int .i64 (f:Int)) Ud Ud Ud Ud)) r (b:=sn 116 B66))) (c:=sn 14 B66)) (s3) (c:=sn 7 B66)) (c:=sn 3 B66)) (c:=B66)
    exact ⟨_,_,_,.sl Ls.length 0 (edg d l f).length none (edg d l f).length 3,t,by simp,by simp only [resultsV,res66]; rfl,toRes_F (hF_get (get_end _ _))⟩
  · cases hq
end Go.Proofs.Ytlendaofkmhgmaa
end
section
open Go Go.HL
namespace Go.Proofs.Ytlendaofkmhgmaa
set_option linter.unusedSectionVars false
open Go.Proofs.Try renaming prog → Tp
open Go.HL.HV renaming undef → Ud
def nxt (d:List (List Int)) (o:List Int) (a:Nat):Nat → Nat → Int → Int
  | 0,_,b=>b
  | k+1,i,b=>nxt d o a k (i+1) (if (i:Int) ∈ o then b else if b < 0 then (i:Int) else if at2 d a i < at2 d a b.toNat then (i:Int) else b)
def nearG (d:List (List Int)):Nat → Nat → List Int → List Int
  | 0,_,o=>o
  | k+1,a,o=>nearG d k (nxt d o a d.length 0 (-1)).toNat (o ++ [nxt d o a d.length 0 (-1)])
def nearT (d:List (List Int)):List Int:=nearG d (d.length - 1) 0 [0]
theorem nxt_in {d:List (List Int)} {o:List Int} {a:Nat}:∀ (k i:Nat) (b:Int),i+k=d.length → (b < 0 ∨ (0 ≤ b∧b < d.length∧b ∉ o)) → (nxt d o a k i b < 0 ∨ (0 ≤ nxt d o a k i b∧nxt d o a k i b < d.length∧nxt d o a k i b ∉ o))
  | 0,_,_,_,h=>h
  | k+1,i,b,hi,h=>by
    rw [nxt]
    refine nxt_in k (i+1) _ (by omega) ?_
    split
    · exact h
    · rename_i c
      split
      · exact .inr ⟨by omega,by omega,c⟩
      · split
        · exact .inr ⟨by omega,by omega,c⟩
        · exact h
theorem nxt_pos {d:List (List Int)} {o:List Int} {a:Nat}:∀ (k i:Nat) (b:Int),(0 ≤ b ∨ ∃ j,i ≤ j∧j < i+k∧(j:Int) ∉ o) → 0 ≤ nxt d o a k i b
  | 0,_,_,h=>by
    rcases h with h | ⟨j,h1,h2,_⟩
    · exact h
    · omega
  | k+1,i,b,h=>by
    rw [nxt]
    refine nxt_pos k (i+1) _ ?_
    by_cases c:(i:Int) ∈ o
    · rw [if_pos c]
      rcases h with h | ⟨j,h1,h2,h3⟩
      · exact .inl h
      · refine .inr ⟨j,?_,by omega,h3⟩
        rcases Nat.lt_or_ge i j with h4 | h4
        · omega
        · have:j=i:=by omega
          subst this
          exact absurd c h3
    · rw [if_neg c]
      refine .inl ?_
      split
      · omega
      · split <;> omega
theorem free_stop {n:Nat} {o:List Int} (hn:o.length < n):∃ j,j < n∧(j:Int) ∉ o:=by
  apply Classical.byContradiction
  intro h
  have h1:∀ j,j < n → (j:Int) ∈ o:=fun j hj=>Classical.byContradiction fun hc=>h ⟨j,hj,hc⟩
  have nd:((List.range n).map fun i:Nat=>(i:Int)).Nodup:=by
    refine List.Pairwise.map _ (fun a b (hab:a ≠ b)=>?_) List.nodup_range
    intro e
    exact hab (by omega)
  have:=nd.length_le_of_subset (l₂:=o) (fun x hx=>by
    obtain ⟨i,hi,rfl⟩:=List.mem_map.1 hx
    exact h1 i (List.mem_range.1 hi))
  simp at this
  omega
theorem nxt_ok {d:List (List Int)} {o:List Int} {a:Nat} (hl:o.length < d.length):0 ≤ nxt d o a d.length 0 (-1)∧nxt d o a d.length 0 (-1) < d.length∧nxt d o a d.length 0 (-1) ∉ o:=by
  obtain ⟨j,hj,hjo⟩:=free_stop hl
  have h1:=nxt_pos (d:=d) (o:=o) (a:=a) d.length 0 (-1) (.inr ⟨j,by omega,by omega,hjo⟩)
  rcases nxt_in (d:=d) (o:=o) (a:=a) d.length 0 (-1) (by omega) (.inl (by omega)) with h | h
  · omega
  · exact h
theorem nearG_len (d:List (List Int)):∀ (k a:Nat) (o:List Int),(nearG d k a o).length=o.length+k
  | 0,_,_=>rfl
  | k+1,a,o=>by rw [nearG,nearG_len d k]; simp; omega
def OG (P:Heap) (o:List Int) (tv:HV) (H:Heap):Prop:=(tv=.sl P.length 0 1 (some 1) 1 1∧o=[0]∧H=P ++ [bI [0]]) ∨ (tv=.sl (P.length+1) 0 o.length none o.length 1∧H=P ++ [bI [0],bI o])
theorem app_capG {H P:Heap} (hH:H=P ++ [bI [0]]) (x:Int):appV H 1 8 (.sl P.length 0 1 (some 1) 1 1) [.int .i64 x]=some (.sl (P.length+1) 0 2 none 2 1,H ++ [bI ([0] ++ [x])]):=by
  have hb:H[P.length]?=some (bI [0]):=by rw [hH]; exact get_end _ _
  have hl:H.length=P.length+1:=by rw [hH]; simp
  simp only [appV,hb,hl]
  simp [roomMax,bnd,bndL,hvI]
theorem OG.get {P:Heap} {o:List Int} {tv:HV} {H:Heap} (h:OG P o tv H):∃ b cap,tv=.sl b 0 o.length cap o.length 1∧H[b]?=some (bI o)∧bnd tv ≤ H.length:=by
  rcases h with ⟨h1,h2,h3⟩ | ⟨h1,h3⟩
  · exact ⟨P.length,some 1,by rw [h1,h2]; rfl,by rw [h3,h2]; exact get_end _ _,by rw [h1,h3]; simp [bnd]⟩
  · refine ⟨P.length+1,none,h1,?_,by rw [h1,h3]; simp [bnd]⟩
    rw [h3,List.getElem?_append_right (by omega)]
    simp
theorem OG.len {P:Heap} {o:List Int} {tv:HV} {H:Heap} (h:OG P o tv H):lenV Tp H 23 tv=some (.int .i64 (o.length:Int)):=by
  obtain ⟨b,cap,h1,_,_⟩:=h.get
  rw [h1]
  kernel_rfl
theorem OG.last {P:Heap} {o:List Int} {tv:HV} {H:Heap} (h:OG P o tv H) (h0:1 ≤ o.length) (hl:o.length ≤ 500):∃ b,idxV Tp 23 tv (.int .i64 (IntKind.i64.wrap ((o.length:Int) - 1)))=some (.ptr b (o.length - 1) 0 o.length)∧loadV Tp H 3 (.ptr b (o.length - 1) 0 o.length)=some (.int .i64 (o.getD (o.length - 1) 0)):=by
  obtain ⟨b,cap,h1,h2,_⟩:=h.get
  refine ⟨b,?_,ldg h2 rfl (by omega)⟩
  rw [h1,wrap_pred (by omega) (by omega)]
  exact ixg (by omega)
theorem OG.app {P:Heap} {o:List Int} {tv:HV} {H:Heap} (h:OG P o tv H) (hl:o.length ≤ 500) (x:Int):∃ H',appV H 1 8 tv [.int .i64 x]=some (.sl (P.length+1) 0 (o.length+1) none (o.length+1) 1,H')∧H'=P ++ [bI [0],bI (o ++ [x])]:=by
  rcases h with ⟨h1,h2,h3⟩ | ⟨h1,h3⟩
  · subst h1; subst h2
    exact ⟨_,app_capG h3 x,by rw [h3]; simp⟩
  · subst h1
    have hb:H[P.length+1]?=some (bI o):=by
      rw [h3,List.getElem?_append_right (by omega)]; simp
    have ap:=app_ints (b:=P.length+1) (o:=o) (xs:=[x]) hb (by simp; omega) (by simp)
    rw [show (o ++ [x]).length=o.length+1 by simp] at ap
    refine ⟨_,ap,?_⟩
    rw [h3,List.set_append_right _ _ (by omega)]
    simp
noncomputable def polNr:Pol:={ pol with prim:=fun g=>if g == 46 then some miles46 else if g == 60 then some contains60 else none }
theorem soundNr (n:Nat):CallSound Tp (callN Tp polNr n):=sound_prim _ (fun g f h=>by
  split at h
  · rename_i hg; cases h; rw [eq_of_beq hg]; exact miles_ok
  split at h
  · rename_i hg; cases h; rw [eq_of_beq hg]; exact contains_ok
  · cases h) n
open Classical in
noncomputable def near41:List HV → Option HV:=rwF fun R=>if R.length ≤ 1000∧(R.all fun r=>decide (r.length ≤ 1000))=true then some (if okD R then .tuple [.own 1 ((nearT R).map hvI),.int .i64 0] else .tuple [.own 1 [],.int .i64 2]) else none
open Classical in
noncomputable def near43:List HV → Option HV:=rwF fun R=>if okD R then some (.own 1 ((nearT R).map hvI)) else none
end Go.Proofs.Ytlendaofkmhgmaa
end
section
open Go Go.HL
namespace Go.Proofs.Ytlendaofkmhgmaa
set_option maxRecDepth 100000
set_option linter.unusedSectionVars false
open Go.Proofs.Try renaming prog → Tp
open Go.HL.HV renaming undef → Ud
noncomputable def B41:Code:=Try.f41.body.getD .skip
abbrev env41 (v0 v2 v3 v4 v5 v6 v7 v24 v25:HV):Env:=[(0,v0),(2,v2),(3,v3),(4,v4),(5,v5),(6,v6),(7,v7),(24,v24),(25,v25)]
abbrev e41 (rw:List HV) (u3 u4 u5 u6 u7 u8:HV):Env:=env41 (.a rw) (.imm .lit 1 []) (.i 0) u3 u4 u5 u6 u7 u8
section
variable (rw:List HV)
include rw
theorem nr_a_0:RT polNr 41 (sn 2 B41) [(0,.a rw)] [] .normal (e41 rw Ud Ud Ud Ud Ud Ud) [] :=
  hx 0 60 []
end
section
variable (rw:List HV)
include rw
theorem nr_b_0 (g0:∀ kf,callN Tp polNr (kf+1) 46 [.a rw] []=some (.bool true,[])) (y4 y5 y6 y7 y24 y25:HV:=Ud): RT polNr 41 (sn 6 B41) (e41 rw y4 y5 y6 y7 y24 y25) [] .normal (e41 rw y4 y5 y6 y7 y24 y25) [] :=
  hx 0 60 [jD 1 1 g0]
theorem nr_b_1 (g0:∀ kf,callN Tp polNr (kf+1) 46 [.a rw] []=some (.bool false,[])) (y4 y5 y6 y7 y24 y25:HV:=Ud): RT polNr 41 (sn 6 B41) (e41 rw y4 y5 y6 y7 y24 y25) [] .ret (env41 (.a rw) (.imm .lit 1 []) (.i 2) y4 y5 y6 y7 y24 y25) [] :=
  hx 0 60 [jD 1 1 g0]
theorem nr_c_0 (y4 y5 y6 y7 y24 y25:HV:=Ud): RT polNr 41 (sn 14 B41) (e41 rw y4 y5 y6 y7 y24 y25) [] .normal (e41 rw (.o 0 1) y5 y6 y7 y24 y25) [.arr 1 [.i 0] true 0] :=
  hx 0 60 []
theorem nr_d_0 (H:Heap) (tv:HV) {n0:Int} (g0:lenV Tp H 23 tv=some (.i n0)) (g1:n0 < (rw.length:Int)) (y5 y6 y7 y24 y25:HV:=Ud): RT polNr 41 (sn 240 B41) (e41 rw tv y5 y6 y7 y24 y25) H .normal (e41 rw tv y5 y6 y7 y24 y25) H :=
  hx 0 60 [jO 4 1 H g0,jT 4 4 H g1]
theorem nr_d_1 (H:Heap) (tv:HV) {n0:Int} (g0:lenV Tp H 23 tv=some (.i n0)) (g1:¬ (n0 < (rw.length:Int))) (y5 y6 y7 y24 y25:HV:=Ud): RT polNr 41 (sn 240 B41) (e41 rw tv y5 y6 y7 y24 y25) H (.exit 0) (e41 rw tv y5 y6 y7 y24 y25) H :=
  hx 0 60 [jO 4 1 H g0,jF 4 4 H g1]
theorem nr_e_0 (H:Heap) (tv:HV) (a:Nat) {n0:Int} {a0:HV} (g0:lenV Tp H 23 tv=some (.i n0)) (g1:IX 23 tv (.i (IntKind.i64.wrap (n0 - 1))) (a0)) (g2:LD H 3 (a0) (.n a)) (y5 y6 y7 y24 y25:HV:=Ud): RT polNr 41 (sn 964 B41) (e41 rw tv y5 y6 y7 y24 y25) H .normal (e41 rw tv (.n a) (.i (-1)) y7 y24 y25) H :=
  hx 0 60 [jO 5 2 H g0,jO 5 4 H g1,jO 5 5 H g2]
theorem nr_f_0 (H:Heap) (tv:HV) (a:Nat) (b:Int) (y7 y24 y25:HV:=Ud): RT polNr 41 (sn 3860 B41) (e41 rw tv (.n a) (.i b) y7 y24 y25) H .normal (e41 rw tv (.n a) (.i b) y7 (.i (rw.length:Int)) (.i 0)) H :=
  hx 0 60 []
theorem nr_g_0 (H:Heap) (tv:HV) (a:Nat) (b:Int) (n i:Nat) {H0:Heap} (g0:(i:Int) < (n:Int)) (g1:∀ kf,callN Tp polNr (kf+1) 60 [tv,.n i] H=some (.bool true,H0)) (y7:HV:=Ud): RT polNr 41 (sn 15444 B41) (e41 rw tv (.n a) (.i b) y7 (.n n) (.n i)) H .normal (e41 rw tv (.n a) (.i b) (.n i) (.n n) (.i (IntKind.i64.wrap ((i:Int)+1)))) H0 :=
  hx 0 60 [jT 7 0 H g0,jD 9 2 g1]
theorem nr_g_1 (H:Heap) (tv:HV) (a:Nat) (b:Int) (n i:Nat) {H0:Heap} (g0:(i:Int) < (n:Int)) (g1:∀ kf,callN Tp polNr (kf+1) 60 [tv,.n i] H=some (.bool false,H0)) (g2:b < 0) (y7:HV:=Ud): RT polNr 41 (sn 15444 B41) (e41 rw tv (.n a) (.i b) y7 (.n n) (.n i)) H .normal (e41 rw tv (.n a) (.n i) (.n i) (.n n) (.i (IntKind.i64.wrap ((i:Int)+1)))) H0 :=
  hx 0 60 [jT 7 0 H g0,jD 9 2 g1,jT 9 6 H0 g2]
theorem nr_g_2 (H:Heap) (tv:HV) (a:Nat) (b:Int) (n i:Nat) {H0:Heap} {l0:List HV} {x0:Int} {l1:List HV} {x1:Int} (g0:(i:Int) < (n:Int)) (g1:∀ kf,callN Tp polNr (kf+1) 60 [tv,.n i] H=some (.bool false,H0)) (g2:¬ (b < 0)) (g3:IX 22 (.a rw) (.n a) (.vptr (.a l0))) (g4:IX 23 (.a l0) (.n i) (.vptr (.i x0))) (g5:IX 22 (.a rw) (.n a) (.vptr (.a l1))) (g6:IX 23 (.a l1) (.i b) (.vptr (.i x1))) (g7:x0 < x1) (y7:HV:=Ud): RT polNr 41 (sn 15444 B41) (e41 rw tv (.n a) (.i b) y7 (.n n) (.n i)) H .normal (e41 rw tv (.n a) (.n i) (.n i) (.n n) (.i (IntKind.i64.wrap ((i:Int)+1)))) H0 :=
  hx 0 60 [jT 7 0 H g0,jD 9 2 g1,jF 9 6 H0 g2,jO 9 10 H0 g3,jO 9 13 H0 g4,jO 9 17 H0 g5,jO 9 20 H0 g6,jT 9 22 H0 g7]
theorem nr_g_3 (H:Heap) (tv:HV) (a:Nat) (b:Int) (n i:Nat) {H0:Heap} {l0:List HV} {x0:Int} {l1:List HV} {x1:Int} (g0:(i:Int) < (n:Int)) (g1:∀ kf,callN Tp polNr (kf+1) 60 [tv,.n i] H=some (.bool false,H0)) (g2:¬ (b < 0)) (g3:IX 22 (.a rw) (.n a) (.vptr (.a l0))) (g4:IX 23 (.a l0) (.n i) (.vptr (.i x0))) (g5:IX 22 (.a rw) (.n a) (.vptr (.a l1))) (g6:IX 23 (.a l1) (.i b) (.vptr (.i x1))) (g7:¬ (x0 < x1)) (y7:HV:=Ud): RT polNr 41 (sn 15444 B41) (e41 rw tv (.n a) (.i b) y7 (.n n) (.n i)) H .normal (e41 rw tv (.n a) (.i b) (.n i) (.n n) (.i (IntKind.i64.wrap ((i:Int)+1)))) H0 :=
  hx 0 60 [jT 7 0 H g0,jD 9 2 g1,jF 9 6 H0 g2,jO 9 10 H0 g3,jO 9 13 H0 g4,jO 9 17 H0 g5,jO 9 20 H0 g6,jF 9 22 H0 g7]
theorem nr_g_4 (H:Heap) (tv:HV) (a:Nat) (b:Int) (n i:Nat) (g0:¬ ((i:Int) < (n:Int))) (y7:HV:=Ud): RT polNr 41 (sn 15444 B41) (e41 rw tv (.n a) (.i b) y7 (.n n) (.n i)) H (.exit 2) (e41 rw tv (.n a) (.i b) y7 (.n n) (.n i)) H :=
  hx 0 60 [jF 7 0 H g0]
theorem nr_h_0 (H:Heap) (tv:HV) (a:Nat) (b:Int) (tw:HV) {H0:Heap} (g0:appV H 1 8 (tv) [.i b]=some (tw,H0)) (y7 y24 y25:HV:=Ud): RT polNr 41 (sn 1931 B41) (e41 rw tv (.n a) (.i b) y7 y24 y25) H .normal (e41 rw tw (.n a) (.i b) y7 y24 y25) H0 :=
  hx 0 60 [jR 12 3 g0]
theorem nr_i_0 (H:Heap) (tv:HV) (y5 y6 y7 y24 y25:HV:=Ud): RT polNr 41 (sn 31 B41) (e41 rw tv y5 y6 y7 y24 y25) H .ret (env41 (.a rw) tv (.i 0) tv y5 y6 y7 y24 y25) H :=
  hx 0 60 []
end
end Go.Proofs.Ytlendaofkmhgmaa
end
section
open Go Go.HL
namespace Go.Proofs.Ytlendaofkmhgmaa
set_option linter.unusedSectionVars false
open Go.Proofs.Try renaming prog → Tp
open Go.HL.HV renaming undef → Ud
theorem row_congr {n:Nat} {g h:Nat → Int} (e:∀ b,b < n → g b=h b):(List.range n).map g=(List.range n).map h:=List.map_congr_left fun b hb=>e b (List.mem_range.1 hb)
abbrev slT (n a:Nat):HV:=.sl (a+1) 0 n (some n) n 1
structure TS (n i:Nat) (H:Heap):Prop where
  len:H.length=i+1
  out:H[0]?=some (.arr 1 ((List.range i).map (slT n)) true (if i=0 then 0 else i+1))
  row:∀ a,a < i → H[a+1]?=some (bI (List.replicate n 0))
section
variable {R:List (List Int)} {n:Nat} {mo:Int}
structure TM (n:Nat) (f:Nat → Nat → Int) (H:Heap):Prop where
  len:H.length=n+1
  out:H[0]?=some (.arr 1 ((List.range n).map (slT n)) true (n+1))
  row:∀ a,a < n → H[a+1]?=some (bI ((List.range n).map (f a)))
theorem TS.mem {H:Heap} (h:TS n n H) (hn:1 ≤ n):TM n (fun _ _=>0) H:=by
  refine ⟨h.len,by rw [h.out,if_neg (by omega)],fun a ha=>?_⟩
  rw [h.row a ha]
  have e:List.replicate n (0:Int)=(List.range n).map fun _=>(0:Int):=by
    apply List.ext_getElem?
    intro i
    by_cases h:i < n
    · rw [List.getElem?_map,List.getElem?_range h,List.getElem?_replicate,if_pos h]; simp
    · rw [List.getElem?_eq_none (by simp; omega),List.getElem?_eq_none (by simp; omega)]
  rw [e]
theorem TM.ld {f:Nat → Nat → Int} {H:Heap} (h:TM n f H) {i:Nat} (hi:i < n):loadV Tp H 23 (.ptr 0 i 0 n)=some (slT n i):=by
  refine load_elem (b:=0) h.out (by simp) ?_ rfl a23 i23
  rw [List.getElem?_map,List.getElem?_range hi]; rfl
theorem TM.st {f:Nat → Nat → Int} {H:Heap} (h:TM n f H) {i k:Nat} (hi:i < n) (hk:k < n) (x:Int):storeV Tp H 3 (.ptr (i+1) k 0 n) (.int .i64 x)=some (H.set (i+1) (bI (((List.range n).map (f i)).set k x))):=by
  have:=store_out (h.row i hi) (y:=k) (by simpa using hk) x
  rwa [show ((List.range n).map (f i)).length=n by simp] at this
theorem TM.congr {f g:Nat → Nat → Int} {H:Heap} (h:TM n f H) (e:∀ a b,a < n → b < n → f a b=g a b):TM n g H:=⟨h.len,h.out,fun a ha=>by rw [h.row a ha,row_congr fun b hb=>e a b ha hb]⟩
end
section
variable {d:List (List Int)}
def lastP:Nat → List Int → Nat
  | s,[]=>s
  | _,v :: p=>lastP v.toNat p
structure Pre (n:Nat) (p:List Int) (L:Nat):Prop where
  inn:inT n (0 :: p)
  nd:(0 :: p).Nodup
  left:∀ y:Nat,L.testBit y=true ↔ y < n∧(y:Int) ∉ (0 :: p)
theorem Pre.lt {n L:Nat} {p:List Int} (h:Pre n p L):L < 2 ^ n:=Nat.lt_pow_two_of_testBit _ fun i hi=>by
  cases hb:L.testBit i with
  | false=>rfl
  | true=>have:=((h.left i).1 hb).1; omega
theorem Pre.step {n L y:Nat} {p:List Int} (h:Pre n p L) (hn:n ≤ 11) (hb:L.testBit y=true):Pre n (p ++ [(y:Int)]) (wo L y):=by
  obtain ⟨h1,h2⟩:=(h.left y).1 hb
  have hL:=h.lt
  have hp:=pow_le hn
  have e:(0 :: (p ++ [(y:Int)]))=(0 :: p) ++ [(y:Int)]:=rfl
  refine ⟨fun v hv=>?_,?_,fun u=>?_⟩
  · rw [e,List.mem_append,List.mem_singleton] at hv
    rcases hv with hv | rfl
    · exact h.inn v hv
    · omega
  · rw [e,List.nodup_append]
    refine ⟨h.nd,by simp,fun a ha b hb'=>?_⟩
    rw [List.mem_singleton] at hb'
    subst hb'
    exact fun e=>h2 (e ▸ ha)
  · rw [wo_bit (by omega) (by omega),e,Bool.and_eq_true,h.left,decide_eq_true_eq]
    simp only [List.mem_append,List.mem_singleton,not_or]
    constructor
    · rintro ⟨⟨g1,g2⟩,g3⟩; exact ⟨g1,g2,by omega⟩
    · rintro ⟨g1,g2,g3⟩; exact ⟨⟨g1,g2⟩,by omega⟩
end
def rl (d:List (List Int)) (A:List Int) (p:Nat × Nat):List Int:=A.set p.2 (min (A.getD p.2 0) (A.getD p.1 0+at2 d p.1 p.2))
def BdA (n:Nat) (A:List Int):Prop:=A.length=n∧∀ v,v < n → 0 ≤ A.getD v 0∧A.getD v 0 ≤ 1099511627776
theorem getD_set' (o:List Int) (i k:Nat) (v:Int) (hi:i < o.length):(o.set i v).getD k 0=if i=k then v else o.getD k 0:=by
  simp only [List.getD,List.getElem?_set,hi]
  split
  · rename_i e; subst e; simp
  · rfl
section
variable {d:List (List Int)}
theorem BdA.rl (h:okD d) {A:List Int} (hA:BdA d.length A) {p:Nat × Nat} (h1:p.1 < d.length) (h2:p.2 < d.length):BdA d.length (rl d A p):=by
  refine ⟨by simp [Ytlendaofkmhgmaa.rl,hA.1],fun v hv=>?_⟩
  unfold Ytlendaofkmhgmaa.rl
  rw [getD_set' _ _ _ _ (by rw [hA.1]; exact h2)]
  have a1:=hA.2 p.1 h1
  have a2:=hA.2 p.2 h2
  have a3:=h.at h1 h2
  split
  · omega
  · exact hA.2 v hv
end
def anyF (f:Nat → Bool):Nat → Nat → Bool
  | 0,_=>false
  | k+1,i=>f i || anyF f k (i+1)
def tight (d:List (List Int)) (fa:List Int) (v u:Nat):Bool:=decide (at2 d v u+fa.getD u 0=fa.getD v 0)
def ldF (d:List (List Int)) (fa:List Int) (to:Nat):Nat → Nat → Nat → Bool
  | 0,v,_=>decide (v=to)
  | k+1,v,L=>decide (v=to) || anyF (fun u=>L.testBit u && tight d fa v u && ldF d fa to k u (wo L u)) d.length 0
def ldT (d:List (List Int)) (fa:List Int) (to v L:Nat):Bool:=ldF d fa to L v L
theorem u74:Tp.underlying 74=some (.map 77 4):=by kernel_rfl
theorem a22:tyAgg Tp 22=false:=by kernel_rfl
theorem i22:(Tp.underlying 22).isSome=true:=by kernel_rfl
theorem a74:tyAgg Tp 74=false:=by kernel_rfl
theorem i74:(Tp.underlying 74).isSome=true:=by kernel_rfl
theorem a75:tyAgg Tp 75=false:=by kernel_rfl
theorem i75:(Tp.underlying 75).isSome=true:=by kernel_rfl
abbrev fnK:HV:=.func 53 [] [.ptr 1 0 0 1,.ptr 6 0 0 1,.ptr 0 0 0 1,.ptr 3 0 0 1,.ptr 7 0 0 1]
abbrev bB (g:Int × Int → Bool) (k:Int × Int):HV:=.bool (g k)
structure WM (d:List (List Int)) (fa:List Int) (to:Nat) (ks:List (Int × Int)) (g:Int × Int → Bool) (H:Heap):Prop where
  b0:H[0]?=some (.arr 1 [.imm .arg 1 (d.map encR)] true 0)
  b1:H[1]?=some (.arr 1 [.int .i64 (to:Int)] true 0)
  b2:H[2]?=some (bI fa)
  b3:H[3]?=some (.arr 1 [.sl 2 0 d.length none d.length 1] true 5)
  b5:H[5]?=some (.map (ks.map encP) (ks.map (bB g)) 0)
  b6:H[6]?=some (.arr 1 [.map 5] true 6)
  b7:H[7]?=some (.arr 1 [fnK] true 8)
  nd:ks.Nodup
  rf:sameH H H=true
  mx:mxs H ≤ 8
structure FrW (H H':Heap):Prop where
  len:H'.length=H.length
  same:∀ k,k ≠ 5 → H'[k]?=H[k]?
theorem FrW.refl (H:Heap):FrW H H:=⟨rfl,fun _ _=>rfl⟩
theorem FrW.trans {H H' H'':Heap} (h:FrW H H') (h':FrW H' H''):FrW H H'':=⟨h'.len.trans h.len,fun k hk=>(h'.same k hk).trans (h.same k hk)⟩
section
variable {d:List (List Int)} {fa:List Int} {to:Nat} {ks:List (Int × Int)} {g:Int × Int → Bool} {H:Heap}
theorem WM.seven (h:WM d fa to ks g H):8 ≤ H.length:=lt_of_get h.b7
theorem WM.l0 (h:WM d fa to ks g H):loadV Tp H 22 (.ptr 0 0 0 1)=some (.imm .arg 1 (d.map encR)):=load_elem (b:=0) h.b0 rfl rfl rfl a22 i22
theorem WM.l1 (h:WM d fa to ks g H):loadV Tp H 3 (.ptr 1 0 0 1)=some (.int .i64 (to:Int)):=load_elem (b:=1) h.b1 rfl rfl rfl a3 i3
theorem WM.l3 (h:WM d fa to ks g H):loadV Tp H 23 (.ptr 3 0 0 1)=some (.sl 2 0 d.length none d.length 1):=load_elem (b:=3) h.b3 rfl rfl rfl a23 i23
theorem WM.l5 (h:WM d fa to ks g H):loadV Tp H 74 (.ptr 6 0 0 1)=some (.map 5):=load_elem (b:=6) h.b6 rfl rfl rfl a74 i74
theorem WM.l6 (h:WM d fa to ks g H):loadV Tp H 75 (.ptr 7 0 0 1)=some fnK:=load_elem (b:=7) h.b7 rfl rfl rfl a75 i75
theorem WM.l2 (h:WM d fa to ks g H) (hf:fa.length=d.length) {v:Nat} (hv:v < d.length):loadV Tp H 3 (.ptr 2 v 0 d.length)=some (.int .i64 (fa.getD v 0)):=by
  rw [← hf]
  exact load_out h.b2 (by omega)
theorem same_mapB (g:Int × Int → Bool) (ks:List (Int × Int)):sameH [.map (ks.map encP) (ks.map (bB g)) 0] [.map (ks.map encP) (ks.map (bB g)) 0]=true:=by
  have e1:sameL (ks.map encP) (ks.map encP)=true:=sameL_all fun v hv=>by
    obtain ⟨k,_,rfl⟩:=List.mem_map.1 hv
    simp [encP,same,sameL]
  have e2:sameL (ks.map (bB g)) (ks.map (bB g))=true:=sameL_all fun v hv=>by
    obtain ⟨k,_,rfl⟩:=List.mem_map.1 hv
    simp [same]
  simp only [sameH,e1,e2,beq_self_eq_true,Bool.and_self]
def put (g:Int × Int → Bool) (k:Int × Int) (b:Bool) (q:Int × Int):Bool:=if q=k then b else g q
theorem WM.upd (h:WM d fa to ks g H) (k:Int × Int) (b:Bool):∃ ks' H',updV Tp false 74 (.map 5) (encP k) (.bool b) H=some H'∧WM d fa to ks' (put g k b) H'∧FrW H H'∧(∀ q,q ∈ ks' ↔ q ∈ ks ∨ q=k):=by
  obtain ⟨r,h1,h2⟩:=findK_pairs k ks 0
  have ht:=key77 k
  have hl:=lt_of_get h.b5
  have key:∀ ks':List (Int × Int),ks'.Nodup → (∀ q,q ∈ ks' ↔ q ∈ ks ∨ q=k) → updV Tp false 74 (.map 5) (encP k) (.bool b) H=some (H.set 5 (.map (ks'.map encP) (ks'.map (bB (put g k b))) 0)) → ∃ ks' H',updV Tp false 74 (.map 5) (encP k) (.bool b) H=some H'∧WM d fa to ks' (put g k b) H'∧FrW H H'∧(∀ q,q ∈ ks' ↔ q ∈ ks ∨ q=k):=by
    intro ks' hnd hin hu
    have hs:∀ j,j ≠ 5 → (H.set 5 (.map (ks'.map encP) (ks'.map (bB (put g k b))) 0))[j]?=H[j]?:=fun j hj=>List.getElem?_set_ne (by omega)
    refine ⟨ks',_,hu,⟨by rw [hs 0 (by omega)]; exact h.b0,by rw [hs 1 (by omega)]; exact h.b1,by rw [hs 2 (by omega)]; exact h.b2,by rw [hs 3 (by omega)]; exact h.b3,List.getElem?_set_self hl,by rw [hs 6 (by omega)]; exact h.b6,by rw [hs 7 (by omega)]; exact h.b7,hnd,sameH_set h.rf (same_mapB _ ks'),?_⟩,⟨by simp,hs⟩,hin⟩
    have hm:=h.mx
    rw [mxs_le] at hm ⊢
    intro C hC
    rcases List.mem_or_eq_of_mem_set hC with hC | rfl
    · exact hm C hC
    · exact Nat.zero_le _
  rcases h2 with ⟨h3,j,rfl,h5⟩ | ⟨h3,rfl⟩
  · refine key ks h.nd (fun q=>⟨.inl,fun h=>h.elim id fun e=>e ▸ h3⟩) ?_
    simp only [updV,u74,ht,if_true,h.b5,h1,Bool.false_eq_true,if_false]
    have hs:(ks.map (bB g)).set (0+j) (.bool b)=ks.map (bB (put g k b)):=by
      apply List.ext_getElem?
      intro i
      have hjl:=lt_of_get h5
      rw [List.getElem?_set,List.length_map]
      by_cases e:0+j=i
      · subst e
        rw [if_pos rfl,if_pos (by omega),Nat.zero_add,List.getElem?_map,h5]
        simp [bB,put]
      · rw [if_neg e,List.getElem?_map,List.getElem?_map]
        cases hi:ks[i]? with
        | none=>rfl
        | some q =>
          have hq:q ≠ k:=fun e2=>by
            subst e2
            have hil:=lt_of_get hi
            have hinj:=(List.getElem?_inj hil h.nd).1 (by rw [hi,h5]:ks[i]?=ks[j]?)
            omega
          simp [bB,put,hq]
    simp only [hs,bnd,Nat.max_zero]
  · refine key (ks ++ [k]) (List.nodup_append.2 ⟨h.nd,by simp,fun a ha b hb=>by rw [List.mem_singleton] at hb; subst hb; exact fun e=>h3 (e ▸ ha)⟩) (fun q=>by simp) ?_
    have ha:(aggEq (cellsOf (encP k)) (cellsOf (encP k))).isSome=true:=by simp [encP,cellsOf,aggEq,scEq]
    have hs:ks.map (bB g) ++ [.bool b]=(ks ++ [k]).map (bB (put g k b)):=by
      have e1:ks.map (bB g)=ks.map (bB (put g k b)):=List.map_congr_left fun q hq=>by
        have:q ≠ k:=fun e=>h3 (e ▸ hq)
        simp only [bB,put,if_neg this]
      have e2:bB (put g k b) k=.bool b:=by simp only [bB,put,if_true]
      rw [e1,List.map_append,List.map_cons,List.map_nil,e2]
    simp only [updV,u74,ht,if_true,h.b5,h1,ha,Bool.false_eq_true,if_false,bnd,Nat.max_zero,← hs,List.map_append,List.map_cons,List.map_nil]
theorem WM.app (h:WM d fa to ks g H) {B:Blk} (hB:sameH [B] [B]=true) (hm:B.mx ≤ 8):WM d fa to ks g (H ++ [B]):=by
  have h7:=h.seven
  have hs:∀ j,j < 8 → (H ++ [B])[j]?=H[j]?:=fun j hj=>List.getElem?_append_left (by omega)
  refine ⟨by rw [hs 0 (by omega)]; exact h.b0,by rw [hs 1 (by omega)]; exact h.b1,by rw [hs 2 (by omega)]; exact h.b2,by rw [hs 3 (by omega)]; exact h.b3,by rw [hs 5 (by omega)]; exact h.b5,by rw [hs 6 (by omega)]; exact h.b6,by rw [hs 7 (by omega)]; exact h.b7,h.nd,sameH_app h.rf hB,?_⟩
  have hx:=h.mx
  rw [mxs_le] at hx ⊢
  intro C hC
  rcases List.mem_append.1 hC with hC | hC
  · exact hx C hC
  · rw [List.mem_singleton.1 hC]; exact hm
theorem WM.set (h:WM d fa to ks g H) {k:Nat} {B:Blk} (hk:8 ≤ k) (hB:sameH [B] [B]=true) (hm:B.mx ≤ 8):WM d fa to ks g (H.set k B):=by
  have hs:∀ j,j < 8 → (H.set k B)[j]?=H[j]?:=fun j hj=>List.getElem?_set_ne (by omega)
  refine ⟨by rw [hs 0 (by omega)]; exact h.b0,by rw [hs 1 (by omega)]; exact h.b1,by rw [hs 2 (by omega)]; exact h.b2,by rw [hs 3 (by omega)]; exact h.b3,by rw [hs 5 (by omega)]; exact h.b5,by rw [hs 6 (by omega)]; exact h.b6,by rw [hs 7 (by omega)]; exact h.b7,h.nd,sameH_set h.rf hB,?_⟩
  have hx:=h.mx
  rw [mxs_le] at hx ⊢
  intro C hC
  rcases List.mem_or_eq_of_mem_set hC with hC | rfl
  · exact hx C hC
  · exact hm
theorem WM.take (h:WM d fa to ks g H) {m:Nat} (hm:8 ≤ m):WM d fa to ks g (H.take m):=by
  have hs:∀ j,j < 8 → (H.take m)[j]?=H[j]?:=fun j hj=>by rw [List.getElem?_take,if_pos (by omega)]
  refine ⟨by rw [hs 0 (by omega)]; exact h.b0,by rw [hs 1 (by omega)]; exact h.b1,by rw [hs 2 (by omega)]; exact h.b2,by rw [hs 3 (by omega)]; exact h.b3,by rw [hs 5 (by omega)]; exact h.b5,by rw [hs 6 (by omega)]; exact h.b6,by rw [hs 7 (by omega)]; exact h.b7,h.nd,sameH_take h.rf,?_⟩
  have hx:=h.mx
  rw [mxs_le] at hx ⊢
  exact fun C hC=>hx C (List.mem_of_mem_take hC)
theorem WM.gc (h:WM d fa to ks g H) {b r:Nat} (hb:8 ≤ b):gc b r H=H.take (max b r):=by
  have:=h.mx
  unfold HL.gc
  congr 1
  omega
end
def Good (d:List (List Int)) (fa:List Int) (to:Nat) (ks:List (Int × Int)) (g:Int × Int → Bool) (B:Nat):Prop:=∀ q,q ∈ ks → q.2 < (B:Int) → g q=ldT d fa to q.1.toNat q.2.toNat
def Kept (ks ks':List (Int × Int)) (g g':Int × Int → Bool) (w:Nat):Prop:=∀ q:Int × Int,(w:Int) < q.2 → (q ∈ ks' ↔ q ∈ ks)∧g' q=g q
section
variable {d:List (List Int)} {fa:List Int} {to:Nat}
theorem Good.mono {ks:List (Int × Int)} {g:Int × Int → Bool} {B B':Nat} (h:Good d fa to ks g B) (hB:B' ≤ B):Good d fa to ks g B':=fun q hq hq2=>h q hq (by omega)
theorem Good.step {ks ks':List (Int × Int)} {g g':Int × Int → Bool} {B w:Nat} (h:Good d fa to ks g B) (h':Good d fa to ks' g' (w+1)) (hk:Kept ks ks' g g' w):Good d fa to ks' g' B:=fun q hq hq2=>by
  by_cases c:q.2 < ((w+1:Nat):Int)
  · exact h' q hq c
  · have:=hk q (by omega)
    rw [this.2]
    exact h q (this.1.1 hq) hq2
abbrev tvW (m:Nat):HV:=.sl 11 0 m none m 1
structure BW (d:List (List Int)) (fa:List Int) (to v w:Nat) (o:List Int) (tv:HV) (H:Heap):Prop where
  mem:∃ ks g,WM d fa to ks g H∧Good d fa to ks g (w+1)
  box:H[8]?=some (boxK v w)
  st:(tv=.sl 9 0 1 (some 1) 1 1∧o.length=1∧H.length=10∧H[9]?=some (bI o)) ∨ (tv=tvW o.length∧H.length=12∧H[11]?=some (bI o))
theorem BW.len {v w:Nat} {o:List Int} {tv:HV} {H:Heap} (h:BW d fa to v w o tv H):10 ≤ H.length∧H.length ≤ 12∧bnd tv ≤ H.length:=by
  rcases h.st with ⟨h1,_,h3,_⟩ | ⟨h1,h3,_⟩ <;> rw [h1,h3] <;> simp [bnd]
theorem BW.app {v w:Nat} {o:List Int} {tv:HV} {H H3:Heap} {ks:List (Int × Int)} {g:Int × Int → Bool} (h:BW d fa to v w o tv H) (hM:WM d fa to ks g H3) (hl:H3.length=H.length+1) (hs:∀ k,9 ≤ k → k < H.length → H3[k]?=H[k]?) (ho:o.length ≤ 500) (x:Int) :
    ∃ H4,appV H3 1 8 tv [.int .i64 x]=some (tvW (o.length+1),H4)∧WM d fa to ks g H4∧H4[8]?=H3[8]?∧H4[11]?=some (bI (o ++ [x]))∧12 ≤ H4.length:=by
  rcases h.st with ⟨h1,h2,h3,h4⟩ | ⟨h1,h3,h4⟩
  · have e:=hs 9 (by omega) (by omega)
    rw [h4] at e
    obtain ⟨y,rfl⟩:∃ y,o=[y]:=by
      match o,h2 with
      | [y],_=>exact ⟨y,rfl⟩
    subst h1
    refine ⟨H3 ++ [bI ([y] ++ [x])],?_,hM.app (same_bI _) (Nat.zero_le _),List.getElem?_append_left (by omega),?_,by simp; omega⟩
    · have e4:H3.length=11:=by omega
      simp only [appV,e,e4]
      simp [roomMax,bnd,bndL,hvI]
    · rw [List.getElem?_append_right (by omega)]; simp [hl,h3]
  · have e:=hs 11 (by omega) (by omega)
    rw [h4] at e
    subst h1
    have ap:=app_ints (xs:=[x]) e (by simp; omega) (by simp)
    rw [show (o ++ [x]).length=o.length+1 by simp] at ap
    exact ⟨_,ap,hM.set (by omega) (same_bI _) (Nat.zero_le _),List.getElem?_set_ne (by omega),List.getElem?_set_self (by omega),by simp; omega⟩
end
def Ch (R:Nat → Nat → Prop):Nat → List Int → Prop
  | _,[]=>True
  | s,v :: p=>R s v.toNat∧Ch R v.toNat p
theorem Ch.mono {R R':Nat → Nat → Prop} (h:∀ a b,R a b → R' a b):∀ (p:List Int) (s:Nat),Ch R s p → Ch R' s p
  | [],_,_=>trivial
  | v :: p,s,hp=>⟨h _ _ hp.1,Ch.mono h p _ hp.2⟩
theorem Ch.split {R:Nat → Nat → Prop}:∀ (p q:List Int) (s:Nat),Ch R s (p ++ q) ↔ Ch R s p∧Ch R (lastP s p) q
  | [],q,s=>by simp [Ch,lastP]
  | v :: p,q,s=>by rw [List.cons_append,Ch,Ch,lastP,Ch.split p q,and_assoc]
theorem inT.hd {n:Nat} {v:Int} {p:List Int} (h:inT n (v :: p)):v.toNat < n∧((v.toNat:Nat):Int)=v:=by
  have:=h v (by simp); omega
theorem inT.app {n:Nat} {p q:List Int}:inT n (p ++ q) ↔ inT n p∧inT n q :=
  ⟨fun h=>⟨fun v hv=>h v (by simp [hv]),fun v hv=>h v (by simp [hv])⟩,fun h v hv=>(List.mem_append.1 hv).elim (h.1 v) (h.2 v)⟩
theorem nd_len {n:Nat} {p:List Int} (h:p.Nodup) (hp:inT n p):p.length ≤ n:=by
  have h2:=h.length_le_of_subset (l₂:=(List.range n).map fun i:Nat=>(i:Int)) fun x hx=>by
    have:=hp x hx
    exact List.mem_map.2 ⟨x.toNat,List.mem_range.2 (by omega),by omega⟩
  simpa using h2
theorem toRes_li1 {H:Heap} {b k:Nat} {cap:Option Nat} {o:List Int} (hb:H[b]?=some (bI o)) (hk:o.length=k) (e:Int):toRes H false (.tuple [.sl b 0 k cap k 1,.int .i64 e])=some (.tuple [.own 1 (o.map hvI),.int .i64 e]):=by
  have hr:=resCell_sl (H:=H) (no:=[b]) (b:=b) (k:=1) (m:=k) (cap:=cap) (els:=o.map hvI) hb (by simpa using hk) (mapO_self (fun r=>frz_int 4 r) _)
  have ho:ownedAll H false (.tuple [.sl b 0 k cap k 1,.int .i64 e])=[b]:=by simp [ownedAll,cellsOf,owned,hb]
  simp only [toRes,ho,List.nodup_cons,List.not_mem_nil,not_false_eq_true,List.nodup_nil,and_self,if_true,mapO,resVal,hr]
  rfl
theorem b_get {o:List Bool} {H:Heap} {b y:Nat} (hb:H[b]?=some (.arr 1 (o.map HV.bool) true 0)) (hy:y < o.length):loadV Tp H 4 (.ptr b y 0 o.length)=some (.bool (o.getD y false)) :=
  load_elem (b:=b) hb (by simp) (by rw [List.getElem?_map,List.getElem?_eq_getElem hy]; simp [List.getD,List.getElem?_eq_getElem hy]) rfl a4 i4
theorem b_set {o:List Bool} {H:Heap} {b y:Nat} (hb:H[b]?=some (.arr 1 (o.map HV.bool) true 0)) (hy:y < o.length) (v:Bool):storeV Tp H 4 (.ptr b y 0 o.length) (.bool v)=some (H.set b (.arr 1 ((o.set y v).map HV.bool) true 0)):=by
  have hi:(o.map HV.bool)[y]?=some (.bool o[y]):=by rw [List.getElem?_map,List.getElem?_eq_getElem hy]; rfl
  have:=store_elem (P:=Tp) (t:=4) (b:=b) (tot:=o.length) (v:=.bool v) hb (by simp) hi rfl (by intro cs h; cases h) z4 rfl rfl (by simp [bnd])
  rw [this,List.map_set]
theorem b_idx {b n cap x:Nat} (hx:x < n):idxV Tp 79 (.sl b 0 n (some cap) n 1) (.int .i64 (x:Int))=some (.ptr b x 0 n):=by
  have:=idx_sl (P:=Tp) (t:=79) (b:=b) (len:=n) (tot:=n) (cap:=some cap) (ik:=.i64) (n:=(x:Int)) u79 z4 (by omega) (by omega)
  rwa [Int.toNat_natCast] at this
theorem res41:Try.f41.results.toList=[.tmp 2,.tmp 3]:=by kernel_rfl
section
variable {d:List (List Int)}
abbrev nrE (d:List (List Int)) (tv v5 v6 v7 v24 v25:HV):Env:=(env41 (.a (d.map encR)) (.imm .lit 1 []) (.i 0) tv v5 v6 v7 v24 v25)
theorem q60 {pol':Pol} (hp:pol'.prim 60=some contains60) {P:Heap} {o:List Int} {tv:HV} {H:Heap} (hO:OG P o tv H) (hl:o.length ≤ 500) (v:Int) (b:Bool) (hb:decide (v ∈ o)=b):∀ k,callN Tp pol' (k+1) 60 [tv,.int .i64 v] H=some (.bool b,H):=fun k=>by
  obtain ⟨bb,cap,h1,h2,_⟩:=hO.get
  subst h1
  rw [prim_call (pol:=pol') (g:=60) (F:=contains60) hp (rs:=[.imm .arg 1 (o.map hvI),.int .i64 v]) (by simp only [mapO,arg_slc rfl h2]; rfl) (res:=.bool b) (by simp only [contains60,lnF,mapO_map decI_enc]; rw [if_pos (by omega),hb])]; rfl
theorem nr_in (hd:okD d) {P:Heap} {o:List Int} {tv:HV} {H:Heap} (hO:OG P o tv H) (hl:o.length ≤ 500) {a:Nat} (ha:a < d.length):∀ k i (b:Int),i+k=d.length → (b < 0 ∨ (0 ≤ b∧b < d.length)) →
    ∃ y7 y25,RT polNr 41 (sn 7722 B41) (nrE d tv (.int .i64 (a:Int)) (.int .i64 b) Ud (.int .i64 (d.length:Int)) (.int .i64 (i:Int))) H (.exit 2)
      (nrE d tv (.int .i64 (a:Int)) (.int .i64 (nxt d o a k i b)) y7 (.int .i64 (d.length:Int)) y25) H:=by
  have hdn:=hd.1
  intro k
  induction k with
  | zero =>
    intro i b hi _
    exact ⟨_,_,lpo ((nr_g_4 (d.map encR) H tv a b d.length i (by omega)))⟩
  | succ k ih =>
    intro i b hi hb
    rw [nxt]
    by_cases c:(i:Int) ∈ o
    · have s:=nr_g_0 (d.map encR) H tv a b d.length i (by omega) (q60 (pol':=polNr) (by kernel_rfl) hO hl i true (decide_eq_true c))
      rw [wrap_succ (by omega)] at s
      obtain ⟨y7,y25,r⟩:=ih (i+1) b (by omega) hb
      rw [if_pos c]
      exact ⟨y7,y25,lop (s) (gc_eq _ rfl) (r)⟩
    · have kf:=q60 (pol':=polNr) (by kernel_rfl) hO hl i false (decide_eq_false c)
      rw [if_neg c]
      by_cases c2:b < 0
      · have s:=nr_g_1 (d.map encR) H tv a b d.length i (by omega) kf c2
        rw [wrap_succ (by omega)] at s
        obtain ⟨y7,y25,r⟩:=ih (i+1) i (by omega) (.inr (by omega))
        rw [if_pos c2]
        exact ⟨y7,y25,lop (s) (gc_eq _ rfl) (r)⟩
      · have hb':=hb.resolve_left c2
        rw [if_neg c2]
        have g2:=g23 hd ha (u:=b.toNat) (by omega)
        rw [Int.toNat_of_nonneg hb'.1] at g2
        by_cases c3:at2 d a i < at2 d a b.toNat
        · have s:=nr_g_2 (d.map encR) H tv a b d.length i (by omega) kf c2 (g22 ha) (g23 hd ha (u:=i) (by omega)) (g22 ha) g2 c3
          rw [wrap_succ (by omega)] at s
          obtain ⟨y7,y25,r⟩:=ih (i+1) i (by omega) (.inr (by omega))
          rw [if_pos c3]
          exact ⟨y7,y25,lop (s) (gc_eq _ rfl) (r)⟩
        · have s:=nr_g_3 (d.map encR) H tv a b d.length i (by omega) kf c2 (g22 ha) (g23 hd ha (u:=i) (by omega)) (g22 ha) g2 c3
          rw [wrap_succ (by omega)] at s
          obtain ⟨y7,y25,r⟩:=ih (i+1) b (by omega) hb
          rw [if_neg c3]
          exact ⟨y7,y25,lop (s) (gc_eq _ rfl) (r)⟩
theorem nr_out (hd:okD d):∀ k (a:Nat) (o:List Int) (tv:HV) (H:Heap) (v5 v6:HV),o.length+k=d.length → 1 ≤ o.length → a < d.length → o.getD (o.length - 1) 0=(a:Int) → OG [] o tv H →
    ∃ tb cap H' y5 y6 y7 y24 y25,RT polNr 41 (sn 60 B41) (nrE d tv Ud Ud Ud Ud Ud) H (.exit 0)
      (nrE d (.sl tb 0 (nearG d k a o).length cap (nearG d k a o).length 1) y5 y6 y7 y24 y25) H'∧H'[tb]?=some (bI (nearG d k a o)):=by
  have hdn:=hd.1
  intro k
  induction k with
  | zero =>
    intro a o tv H v5 v6 hk h1 ha hla hO
    have s:=nr_d_1 (d.map encR) H tv hO.len (by rw [List.length_map]; omega)
    obtain ⟨b,cap,e1,e2,_⟩:=hO.get
    subst e1
    exact ⟨b,cap,H,_,_,_,_,_,lpo (sqo (s) (c:=sn 120 B41) (b:=sn 241 B41)),e2⟩
  | succ k ih =>
    intro a o tv H v5 v6 hk h1 ha hla hO
    have s1:=nr_d_0 (d.map encR) H tv hO.len (by rw [List.length_map]; omega)
    obtain ⟨b,i1,i2⟩:=hO.last h1 (by omega)
    rw [hla] at i2
    have s2:=nr_e_0 (d.map encR) H tv a hO.len i1 i2
    have s3:=nr_f_0 (d.map encR) H tv a (-1)
    rw [List.length_map] at s3
    obtain ⟨y7,y25,r0⟩:=nr_in hd hO (by omega) ha d.length 0 (-1) (by omega) (.inl (by omega))
    obtain ⟨p1,p2,p3⟩:=nxt_ok (d:=d) (o:=o) (a:=a) (by omega)
    rw [nearG]
    generalize nxt d o a d.length 0 (-1)=v at *
    obtain ⟨H',ap,hH'⟩:=hO.app (by omega) v
    have s4:=nr_h_0 (d.map encR) H tv a v _ (y7:=y7) (y24:=.i (d.length:Int)) (y25:=y25) ap
    have hO':OG [] (o ++ [v]) (.sl (([]:Heap).length+1) 0 (o.length+1) none (o.length+1) 1) H':=.inr ⟨by simp,hH'⟩
    obtain ⟨tb,cap,Hz,z5,z6,z7,z24,z25,r,hr⟩:=ih v.toNat (o ++ [v]) _ H' Ud Ud (by simp; omega) (by simp) (by omega) (by rw [List.length_append,List.length_singleton,Nat.add_sub_cancel,List.getD,List.getElem?_append_right (Nat.le_refl _),Nat.sub_self,Int.toNat_of_nonneg p1]; rfl) hO'
    have hg:gc H.length (bndE (nrE d (.sl (([]:Heap).length+1) 0 (o.length+1) none (o.length+1) 1) Ud Ud Ud Ud Ud)) H'=H':=gc_ln (by
      rw [hH']
      simp only [bndE,bnd,List.length_cons,List.length_nil,List.nil_append]
      omega)
    exact ⟨tb,cap,Hz,z5,z6,z7,z24,z25,lop (sq (s1) (RunsTo.block_normal (i:=1) (c:=sn 241 B41) (sq (s2) (sq (sq (s3) (bke (c:=sn 3861 B41) (lpi (e0:=(nrE d tv (.int .i64 (a:Int)) (.int .i64 (-1)) Ud (.int .i64 (d.length:Int)) (.int .i64 ((0:Nat):Int)))) r0 (b:=sn 15444 B41))) (c:=sn 1930 B41)) (s4) (c:=sn 965 B41)) (c:=sn 482 B41)) (by kernel_rfl)) (c:=sn 120 B41)) hg (r),hr⟩
end
open Classical in
theorem near_ok:PrimOk Tp 41 near41:=by
  refine primOk_pure (pol:=polNr) (fn:=Try.f41) (cd:=B41) follows_mixed soundNr (by kernel_rfl) (by kernel_rfl) (fnok polNr.prim _ _ (by kernel_rfl)) (by kernel_rfl) ?_
  intro args res h
  obtain ⟨d,rfl,hq⟩:=rwF_inv h
  clear h
  split at hq
  case isFalse=>cases hq
  rename_i hc
  cases hq
  have a:=nr_a_0 (d.map encR)
  by_cases hd:okD d
  · rw [if_pos hd]
    have hdn:=hd.1
    have b:=nr_b_0 (d.map encR) (prim_miles (pol':=polNr) (by kernel_rfl) hc.1 hc.2 [] true (okB_true hd))
    have c:=nr_c_0 (d.map encR)
    obtain ⟨tb,cap,H',y5,y6,y7,y24,y25,r,hr⟩:=nr_out hd (d.length - 1) 0 [0] (.sl 0 0 1 (some 1) 1 1) [bI [0]] Ud Ud (by simp; omega) (by simp) (by omega) rfl (.inl ⟨rfl,rfl,rfl⟩)
    rw [show nearG d (d.length - 1) 0 [0]=nearT d from rfl] at r hr
    have i:=nr_i_0 (d.map encR) H' (.sl tb 0 (nearT d).length cap (nearT d).length 1) (y5:=y5) (y6:=y6) (y7:=y7) (y24:=y24) (y25:=y25)
    have t:=sq (a) (sq (b) (sq (c) (sq (bke (c:=sn 30 B41) (r)) (i) (c:=sn 15 B41)) (c:=sn 7 B41)) (c:=sn 3 B41)) (c:=B41)
    exact ⟨_,_,_,.tuple [.sl tb 0 (nearT d).length cap (nearT d).length 1,.int .i64 0],t,by simp,by simp only [resultsV,res41]; rfl,toRes_li1 hr rfl 0⟩
  · rw [if_neg hd]
    have b:=nr_b_1 (d.map encR) (prim_miles (pol':=polNr) (by kernel_rfl) hc.1 hc.2 [] false (okB_false hd))
    have t:=sq (a) (sqo (b) (c:=sn 3 B41) (b:=sn 7 B41)) (c:=B41)
    exact ⟨_,_,_,.tuple [.imm .lit 1 [],.int .i64 2],t,by simp,by simp only [resultsV,res41]; rfl,rfl⟩
end Go.Proofs.Ytlendaofkmhgmaa
end
section
namespace Go.Proofs.Ytlendaofkmhgmaa
open Go.RowKit Go.Maps Go.Sort Go.Shelf
variable {P:Program} {ρ:Ren}
set_option linter.unusedSectionVars false
def SeqB (F:Fence) (n:Nat) (P:Program) (g:Nat) (lb:Array Value) (zs:List Int) (w:World):Prop :=
  ∀ (l:Nat) (J:List Int → World → Prop) (W:World),Below w.heap.size w W → (∀ s W1,J s W1 → Below w.heap.size w W1) →
    (∀ pre x W1,J pre W1 → pre.length < zs.length → YieldAt F (n - 1) P l #[encZ x] W1 fun e W'=>e=.returned (.bool true)∧J (pre ++ [x]) W'∧KeepsWalks W1 W') →
    J [] W → CallsIn F n P g (#[.func (.yield l) #[] #[]] ++ lb) W fun e W'=>(∃ v,e=.returned v)∧J zs W'
set_option maxRecDepth 100000 in
set_option maxHeartbeats 2000000 in
theorem appendSeqB (L:SlLaysZI.n11 P ρ) (F:Fence) (n:Nat) (h11:F.fn (ρ.f 11)) (hro:F.round=none) (hn:2 ≤ n) (g:Nat) (lb:Array Value) (hFg:F.fn g) (eg:∀ args w,(callFunc g args).run P w=.ok (.enter g args) w)
    (ss:List Int) (hN:ss.length ≤ maxLen) (hNb:ss.length * 8 ≤ 140737488355328) (w:World) (hseq:SeqB F (n - 1) P g lb ss w) :
    CallsIn F n P (ρ.f 11) #[.slice none 0 0,.func (.func g) #[] lb] w fun e w'=>∃ (v:Value),e=.returned v∧w'.ownsRow w.heap.size (ρ.t 26) 1 v ss.length (ss.map encZ)∧(v=.slice none 0 0 ↔ ss=[])∧Below w.heap.size w w':=by
  have h1:1 ≤ n:=by omega
  have mixed:=L.mixed; have t0:=L.t0; have a0:=L.a0; have z0:=L.z0; have v0:=L.v0; have t24:=L.t24; have a24:=L.a24; have z24:=L.z24; have v24:=L.v24; have t26:=L.t26; have a26:=L.a26; have z26:=L.z26; have v26:=L.v26; have t28:=L.t28; have a28:=L.a28; have z28:=L.z28; have v28:=L.v28
  have hne:ρ.t 24 ≠ ρ.t 26:=fun e=>by have h:=L.t24; rw [e,L.t26] at h; cases h
  have u0:=run_underlying L.t0; have u24:=run_underlying L.t24; have u26:=run_underlying L.t26; have u28:=run_underlying L.t28
  obtain ⟨_,_,FG⟩:=L.f11
  refine callsIn_of_wp_marks FG rfl h11 ?_ hro
  simp only [SlBodyZ.n11_ntmps ρ,List.size_toArray,List.length_cons,List.length_nil,Nat.reduceAdd,Nat.reduceSub,Array.replicate_succ,Array.replicate_zero,List.push_toArray,List.append_toArray,List.nil_append,List.cons_append]
  gi_wp2
  refine wpIn_rangeFunc ?_
  intro fn hfn
  rw [hro]
  obtain ⟨W0,hW0⟩:∃ W0,w.alloc (.cells #[.slice none 0 0] (ρ.t 24))=W0:=⟨_,rfl⟩
  have hs0:W0.heap.size=w.heap.size+1:=by rw [← hW0]; simp
  have hv0:W0.heap[w.heap.size]?=some (.cells #[.slice none 0 0] (ρ.t 24) (0,0)):=by rw [← hW0]; exact World.alloc_heap_new w _
  have hb0:Below w.heap.size w W0:=by rw [← hW0]; exact (Below.refl _ w).alloc (Nat.le_refl _) _
  rw [hW0]
  obtain ⟨W1,hW1⟩:∃ W1,(W0.alloc (.deferred (some []))).alloc (.loop (AnyZI.apRec ρ fn (.func (.func g) #[] lb) w.heap.size W0.heap.size .ready none))=W1:=⟨_,rfl⟩
  have hold:∀ k,k < W0.heap.size → W1.heap[k]?=W0.heap[k]?:=fun k hk=>by
    rw [← hW1]; exact (Below.heap_alloc _ _ k (by simp; omega)).trans (Below.heap_alloc _ _ k hk)
  have hb1:Below w.heap.size w W1:=by rw [← hW1]; exact (hb0.alloc hb0.size _).alloc (by have:=hb0.size; simp; omega) _
  have hs1:W1.heap.size=W0.heap.size+2:=by rw [← hW1]; simp
  have hM:AnyZI.ApAt ρ w fn (.func (.func g) #[] lb) w.heap.size (W0.heap.size+1) W0.heap.size [] W1 :=
    ⟨⟨_,(hold w.heap.size (by omega)).trans hv0,⟨rfl,.inl ⟨rfl,rfl⟩⟩,by simp⟩,
     by rw [← hW1]; have:=World.alloc_heap_new (W0.alloc (.deferred (some []))) (.loop (AnyZI.apRec ρ fn (.func (.func g) #[] lb) w.heap.size W0.heap.size .ready none)); rwa [World.size_alloc] at this,
     by rw [← hW1]; exact (Below.heap_alloc _ _ _ (by simp)).trans (World.alloc_heap_new W0 _),hb1⟩
  refine ⟨W0.heap.size+1,[{ target:=.collected W0.heap.size,args:=#[] }],W1,{ target:=.fn (.func g) lb,args:=#[.func (.yield (W0.heap.size+1)) #[] #[]] },W1,g,
    #[.func (.yield (W0.heap.size+1)) #[] #[]] ++ lb,W1,?_,?_,?_,?_,fun _=>h1,?_⟩
  · rw [← hW1]; exact run_enterLoop_outer _ _ _ _ _
  · simp [resolve,go_sem]
  · intro f' hf'; simp [Target.leads] at hf'; subst hf'; exact hFg
  · simp [invoke,go_sem,eg]
  · refine (hseq (W0.heap.size+1) (AnyZI.ApAt ρ w fn (.func (.func g) #[] lb) w.heap.size (W0.heap.size+1) W0.heap.size) W1 hb1 (fun s W h=>h.below)
      (fun pre x W hJ hl=>AnyZI.apYield { L with } F (n - 1 - 1) w fn hfn _ w.heap.size (W0.heap.size+1) W0.heap.size (by omega) (by omega) (by omega) (Nat.le_refl _) (by omega) ss.length hN hNb pre x W hJ hl) hM).mono ?_
    rintro e W2 ⟨⟨v0,rfl⟩,h2⟩
    obtain ⟨v,hv,hrow,hnil⟩:=h2.box
    have hend:=run_endLoop (P:=P) h2.L (by simp [AnyZI.apRec])
    obtain ⟨W3,hW3⟩:∃ W3,W2.putObj (W0.heap.size+1) (.loop { AnyZI.apRec ρ fn (.func (.func g) #[] lb) w.heap.size W0.heap.size .ready none with state:=.exhausted })=W3:=⟨_,rfl⟩
    rw [hW3] at hend
    have hg3:W2.grownBy W3 (some (W0.heap.size+1)):=by rw [← hW3]; exact grownBy_putObj_a _ _ _
    have hv3:W3.heap[w.heap.size]?=some (.cells #[v] (ρ.t 24) (0,0)):=by rw [← hW3]; exact (World.putObj_heap_other (by omega)).trans hv
    have hK3:W3.heap[W0.heap.size]?=some (.deferred (some [])):=by rw [← hW3]; exact (World.putObj_heap_other (by omega)).trans h2.K
    have hrow3:=hrow.kept hg3 (ownsRow_ne_a hrow h2.L (fun cur e=>by first | cases e | exact hne (Obj.cells.inj e).2.1))
    have hb3:Below w.heap.size w W3:=h2.below.grown hg3 h2.below.size (fun k e=>by cases e; omega)
    obtain ⟨hc3,hf3⟩:=cell_of_box_a hv3
    clear hW3
    refine ⟨none,W3,hend,?_⟩
    gi_wp2
    rw [← hs0]
    refine ⟨by simp,.inl ⟨_,_,rfl,run_takeDeferred hK3,?_⟩⟩
    exact ⟨_,results_tmp rfl _ _ _,v,rfl,hrow3.kept (grownBy_putObj_a _ _ _) (ownsRow_ne_a hrow3 hK3 (fun cur e=>by first | cases e | exact hne (Obj.cells.inj e).2.1)),hnil,hb3.grown (grownBy_putObj_a _ _ _) hb3.size (fun k e=>by cases e; omega)⟩
set_option maxHeartbeats 1000000 in
theorem collectB (L:SlLaysZI.n8 P ρ) (F:Fence) (n:Nat) (h8:F.fn (ρ.f 8)) (h11:F.fn (ρ.f 11)) (hro:F.round=none) (hn:3 ≤ n) (g:Nat) (lb:Array Value) (hFg:F.fn g) (eg:∀ args w,(callFunc g args).run P w=.ok (.enter g args) w)
    (ss:List Int) (hN:ss.length ≤ maxLen) (hNb:ss.length * 8 ≤ 140737488355328) (w:World) (hseq:SeqB F (n - 1 - 1) P g lb ss w) :
    CallsIn F n P (ρ.f 8) #[.func (.func g) #[] lb] w fun e w'=>∃ (v:Value),e=.returned v∧w'.ownsRow w.heap.size (ρ.t 26) 1 v ss.length (ss.map encZ)∧(v=.slice none 0 0 ↔ ss=[])∧Below w.heap.size w w':=by
  have h1:1 ≤ n:=by omega
  have e11:∀ args w,(callFunc (ρ.f 11) args).run P w=.ok (.enter (ρ.f 11) args) w:=L.f11.enters rfl
  have mixed:=L.mixed; have t0:=L.t0; have a0:=L.a0; have z0:=L.z0; have v0:=L.v0; have t24:=L.t24; have a24:=L.a24; have z24:=L.z24; have v24:=L.v24; have t26:=L.t26; have a26:=L.a26; have z26:=L.z26; have v26:=L.v26; have t28:=L.t28; have a28:=L.a28; have z28:=L.z28; have v28:=L.v28
  have u0:=run_underlying L.t0; have u24:=run_underlying L.t24; have u26:=run_underlying L.t26; have u28:=run_underlying L.t28
  obtain ⟨_,_,FG⟩:=L.f8
  refine callsIn_of_wp FG rfl h8 ?_ hro
  simp only [SlBodyZ.n8_ntmps ρ,List.size_toArray,List.length_cons,List.length_nil,Nat.reduceAdd,Nat.reduceSub,Array.replicate_succ,Array.replicate_zero,List.push_toArray,List.append_toArray,List.nil_append,List.cons_append]
  gi_wp2_with (gi_at_fn (ρ.f 11); refine (appendSeqB { L with } F (n - 1) h11 hro (by omega) g lb hFg eg ss hN hNb _ hseq).mono ?_; rintro e w' ⟨v,rfl,hrow,hnil,hb⟩)
  go_ret
  exact ⟨v,rfl,hrow,hnil,hb⟩
set_option maxRecDepth 100000 in
set_option maxHeartbeats 2000000 in
theorem sortedB (L:SlLaysZI.n6 P ρ) (F:Fence) (n:Nat) (h6:F.fn (ρ.f 6)) (h8:F.fn (ρ.f 8)) (h9:F.fn (ρ.f 9)) (h11:F.fn (ρ.f 11)) (hro:F.round=none) (hn:4 ≤ n) (hsort:AnyZI.SortsIn P ρ F (n - 1)) (e9:∀ args w,(callFunc (ρ.f 9) args).run P w=.ok (.enter (ρ.f 9) args) w) (g:Nat) (lb:Array Value) (hFg:F.fn g) (eg:∀ args w,(callFunc g args).run P w=.ok (.enter g args) w)
    (ss:List Int) (hN:ss.length ≤ maxLen) (hNb:ss.length * 8 ≤ 140737488355328) (hsz:ss.length < 4611686018427387904) (w:World) (hseq:SeqB F (n - 1 - 1 - 1) P g lb ss w) :
    CallsIn F n P (ρ.f 6) #[.func (.func g) #[] lb] w fun e w'=>∃ (v:Value),e=.returned v ∧
      w'.ownsRow w.heap.size (ρ.t 26) 1 v ss.length ((ss.mergeSort (fun x y=>decide (x ≤ y))).map encZ)∧(v=.slice none 0 0 ↔ ss=[])∧Below w.heap.size w w':=by
  have h1:1 ≤ n:=by omega
  have e8:∀ args w,(callFunc (ρ.f 8) args).run P w=.ok (.enter (ρ.f 8) args) w:=L.f8.enters rfl
  have mixed:=L.mixed; have t0:=L.t0; have a0:=L.a0; have z0:=L.z0; have v0:=L.v0; have t24:=L.t24; have a24:=L.a24; have z24:=L.z24; have v24:=L.v24; have t26:=L.t26; have a26:=L.a26; have z26:=L.z26; have v26:=L.v26; have t28:=L.t28; have a28:=L.a28; have z28:=L.z28; have v28:=L.v28
  have u0:=run_underlying L.t0; have u24:=run_underlying L.t24; have u26:=run_underlying L.t26; have u28:=run_underlying L.t28
  obtain ⟨_,_,FG⟩:=L.f6
  refine callsIn_of_wp FG rfl h6 ?_ hro
  simp only [SlBodyZ.n6_ntmps ρ,List.size_toArray,List.length_cons,List.length_nil,Nat.reduceAdd,Nat.reduceSub,Array.replicate_succ,Array.replicate_zero,List.push_toArray,List.append_toArray,List.nil_append,List.cons_append]
  gi_wp2_with (gi_at_fn (ρ.f 8); refine (collectB { L with } F (n - 1) h8 h11 hro (by omega) g lb hFg eg ss hN hNb _ hseq).mono ?_; rintro e W ⟨v,rfl,hrow,hnil,hb⟩)
  rcases hrow.2 with ⟨rfl,hz⟩ | ⟨gb,cap,cur,rfl,hbase,hgb,r1,r2,r3,r4⟩
  · have hss:ss=[]:=List.eq_nil_of_length_eq_zero hz
    subst hss
    gi_wp2_with (gi_at_fn (ρ.f 9); refine (hsort.2 none 0 W).mono ?_; rintro e w' ⟨rfl,rfl⟩)
    go_ret
    exact ⟨.slice none 0 0,rfl,by simpa using hrow,by simp,hb⟩
  · have hH:Holds encZ W gb 0 ss.toArray:=holds_of_block_i hgb (by simpa using r4)
    have hgl:gb < W.heap.size:=(Array.getElem?_eq_some_iff.1 hgb).1
    have cS:=hsort.1 gb 0 cap ss W hH hgl hsz
    gi_wp2_with (gi_at_fn (ρ.f 9); refine cS.mono ?_; rintro e w' ⟨rfl,nn,os,rfl⟩)
    go_ret
    exact ⟨_,rfl,ownsRow_sorted_i (by simp) hbase hgb r1 r2 r3,hnil,hb.grown (grownBy_sorted_i _) hb.size (fun j hj=>by cases hj; exact hbase)⟩
end Go.Proofs.Ytlendaofkmhgmaa
end
section
namespace Go.Proofs.Ytlendaofkmhgmaa
open Go.RowKit Go.Shelf
set_option linter.unusedSectionVars false
def vInt:Value → Int | .int _ q=>q | _=>0
set_option maxRecDepth 100000 in
set_option maxHeartbeats 2000000 in
theorem val75 (F:Fence) (n:Nat) (h75:F.fn 75) (hro:F.round=none) (hn:1 ≤ n) (w:World) (Bs b off len cap:Nat) (zs:List Int) (hlen:zs.length=len) (hreach:len * 8 ≤ 140737488351232) (hb:b < w.heap.size) (hBs':Bs < w.heap.size)
    (hBs:w.cell? ⟨Bs,0,none⟩=some (.slice (some ⟨b,off,none⟩) len cap)) (hc:∀ j,j < len → w.cell? ⟨b,off+j,none⟩=some (.int .i64 (zs[j]?.getD 0))) :
    SeqB F n Try.prog 75 #[.pointer (some ⟨Bs,0,none⟩)] zs w:=fun l J W hW hJ hY h0=>by
  have hBsW:W.cell? ⟨Bs,0,none⟩=some (.slice (some ⟨b,off,none⟩) len cap):=(hW.cell (p:=⟨Bs,0,none⟩) hBs').trans hBs
  show CallsIn F n Try.prog 75 #[.func (.yield l) #[] #[],.pointer (some ⟨Bs,0,none⟩)] W _
  refine callsIn_of_wp Try.func75 rfl h75 ?_ hro
  simp only [Try.ntmps75,List.size_toArray,List.length_cons,List.length_nil,Nat.reduceAdd,Nat.reduceSub,Array.replicate_succ,Array.replicate_zero,List.push_toArray,List.append_toArray,List.nil_append,List.cons_append]
  gi_wp2
  gi_loopw [7] (fun i wr=>∃ k:Nat,k ≤ len∧i=.int .i64 k∧J (zs.take k) wr)
    (fun i _=>len - (vInt i).toNat)
  case atStart=>exact ⟨0,Nat.zero_le _,rfl,h0⟩
  case round =>
    obtain ⟨k,hk,rfl,hJs⟩:=hrel
    have hnx:=hJ _ _ hJs
    have hcx:k < len → wr.cell? ⟨b,off+k,none⟩=some (.int .i64 (zs[k]?.getD 0)):=fun h=>(hnx.cell (p:=⟨b,off+k,none⟩) hb).trans (hc k h)
    by_cases hlt:k < len
    · obtain ⟨z,hz⟩:∃ z,zs[k]?=some z:=⟨zs[k]'(by omega),List.getElem?_eq_getElem (by omega)⟩
      obtain ⟨fn,tmps,assign,body,hy,hR⟩:=hY _ z wr hJs (by rw [List.length_take]; omega)
      have hcx':=hcx hlt
      rw [hz,Option.getD_some] at hcx'
      clear hcx
      have hy:(Instr.yield l #[.int .i64 z]).run Try.prog wr=.ok (.round l fn tmps assign body) wr:=hy
      gi_wp2
      refine hR.mono ?_
      rintro e W3 ⟨rfl,hJ3,hk3⟩
      gi_wp2
      go_roundw
      case rel =>
        refine ⟨k+1,by omega,by simp,?_⟩
        have e:zs.take (k+1)=zs.take k ++ [z]:=by
          rw [List.take_succ_eq_append_getElem (by omega)]
          rw [List.getElem?_eq_getElem (by omega),Option.some.injEq] at hz
          rw [hz]
        rw [e]; exact hJ3
      case measure=>simp [vInt]; omega
    · obtain rfl:k=len:=by omega
      gi_wp2
      go_end0
      refine ⟨⟨_,rfl⟩,?_⟩
      rw [← hlen,List.take_length] at hJs
      exact hJs
set_option maxRecDepth 100000 in
set_option maxHeartbeats 1000000 in
theorem val75n (F:Fence) (n:Nat) (h75:F.fn 75) (hro:F.round=none) (w:World) (Bs cap:Nat) (a:Option Addr) (hBs':Bs < w.heap.size)
    (hBs:w.cell? ⟨Bs,0,none⟩=some (.slice a 0 cap)) :
    SeqB F n Try.prog 75 #[.pointer (some ⟨Bs,0,none⟩)] [] w:=fun l J W hW hJ hY h0=>by
  have hBsW:W.cell? ⟨Bs,0,none⟩=some (.slice a 0 cap):=(hW.cell (p:=⟨Bs,0,none⟩) hBs').trans hBs
  show CallsIn F n Try.prog 75 #[.func (.yield l) #[] #[],.pointer (some ⟨Bs,0,none⟩)] W _
  refine callsIn_of_wp Try.func75 rfl h75 ?_ hro
  simp only [Try.ntmps75,List.size_toArray,List.length_cons,List.length_nil,Nat.reduceAdd,Nat.reduceSub,Array.replicate_succ,Array.replicate_zero,List.push_toArray,List.append_toArray,List.nil_append,List.cons_append]
  gi_wp2
  gi_loopw [7] (fun i wr=>i=.int .i64 0∧J [] wr) (fun _ _=>0)
  case atStart=>exact ⟨rfl,h0⟩
  case round =>
    obtain ⟨rfl,hJs⟩:=hrel
    gi_wp2
    go_end0
    exact ⟨⟨_,rfl⟩,hJs⟩
end Go.Proofs.Ytlendaofkmhgmaa
end
section
namespace Go.Proofs.Ytlendaofkmhgmaa
open Go.Shelf Go.RowKit
set_option linter.unusedSectionVars false
def laysV_ren:Go.Shelf.Ren:=⟨fun | 6=>63 | 8=>73 | 9=>74 | 11=>80 | 13=>82 | 12=>81 | 23=>94 | 24=>95 | 14=>85 | 15=>86 | 16=>87 | 17=>88 | 18=>89 | 19=>90 | 20=>91 | 21=>92 | 22=>93 | 25=>104 | 26=>105 | 27=>106 | 28=>107 | 29=>108 | 30=>84 | 31=>112 | n=>n,fun | 26=>3 | 28=>95 | 24=>23 | 0=>0 | 3=>3 | 37=>81 | 48=>120 | 50=>122 | 4=>4 | 40=>113 | 39=>112 | 45=>101 | 5=>5 | 9=>9 | 51=>128 | 55=>132 | 57=>136 | 58=>137 | 33=>64 | n=>n,fun | n=>n⟩
theorem laysV:Go.Proofs.SlLaysZI.n6 Try.prog laysV_ren:={
  mixed:=by kernel_rfl
  f6:=⟨Try.f63.name,by decide,Try.func63.trans (congrArg some (by kernel_rfl))⟩
  f8:=⟨Try.f73.name,by decide,Try.func73.trans (congrArg some (by kernel_rfl))⟩
  f11:=⟨Try.f80.name,by decide,Try.func80.trans (congrArg some (by kernel_rfl))⟩
  t0:=Try.underlying0
  a0:=Try.isAgg0
  z0:=Try.sizeOf0
  v0:=Try.zeroValue0
  t24:=Try.underlying23
  a24:=Try.isAgg23
  z24:=Try.sizeOf23
  v24:=Try.zeroValue23
  t26:=Try.underlying3
  a26:=Try.isAgg3
  z26:=Try.sizeOf3
  v26:=Try.zeroValue3
  t28:=Try.underlying95
  a28:=Try.isAgg95
  z28:=Try.sizeOf95
  v28:=Try.zeroValue95
  i26:=by kernel_rfl }
def laysS_ren:Go.Shelf.Ren:=⟨fun | 189=>74 | 125=>82 | 257=>81 | 128=>94 | 129=>95 | 294=>85 | 295=>86 | 296=>87 | 297=>88 | 298=>89 | 299=>90 | 216=>91 | 300=>92 | 301=>93 | 328=>104 | 329=>105 | 330=>106 | 331=>107 | 332=>108 | 215=>84 | 343=>112 | n=>n,fun | 28=>23 | 3=>3 | 46=>81 | 0=>0 | 51=>120 | 53=>122 | 4=>4 | 183=>113 | 182=>112 | 131=>101 | 5=>5 | 9=>9 | 218=>128 | 222=>132 | 228=>136 | 229=>137 | n=>n,fun | n=>n⟩
theorem laysS:Go.Proofs.Lays.n189 Try.prog laysS_ren:={
  mixed:=by kernel_rfl
  f125:=Try.func82.trans (congrArg some (by kernel_rfl))
  f128:=Try.func94.trans (congrArg some (by kernel_rfl))
  f129:=Try.func95.trans (congrArg some (by kernel_rfl))
  f189:=Try.func74.trans (congrArg some (by kernel_rfl))
  f215:=Try.func84.trans (congrArg some (by kernel_rfl))
  f216:=Try.func91.trans (congrArg some (by kernel_rfl))
  f257:=Try.func81.trans (congrArg some (by kernel_rfl))
  f294:=Try.func85.trans (congrArg some (by kernel_rfl))
  f295:=Try.func86.trans (congrArg some (by kernel_rfl))
  f296:=Try.func87.trans (congrArg some (by kernel_rfl))
  f297:=Try.func88.trans (congrArg some (by kernel_rfl))
  f298:=Try.func89.trans (congrArg some (by kernel_rfl))
  f299:=Try.func90.trans (congrArg some (by kernel_rfl))
  f300:=Try.func92.trans (congrArg some (by kernel_rfl))
  f301:=Try.func93.trans (congrArg some (by kernel_rfl))
  f328:=Try.func104.trans (congrArg some (by kernel_rfl))
  f329:=Try.func105.trans (congrArg some (by kernel_rfl))
  f330:=Try.func106.trans (congrArg some (by kernel_rfl))
  f331:=Try.func107.trans (congrArg some (by kernel_rfl))
  f332:=Try.func108.trans (congrArg some (by kernel_rfl))
  f343:=Try.func112.trans (congrArg some (by kernel_rfl))
  t0:=Try.underlying0
  a0:=Try.isAgg0
  z0:=Try.sizeOf0
  v0:=Try.zeroValue0
  t3:=Try.underlying3
  a3:=Try.isAgg3
  z3:=Try.sizeOf3
  v3:=Try.zeroValue3
  t4:=Try.underlying4
  a4:=Try.isAgg4
  z4:=Try.sizeOf4
  v4:=Try.zeroValue4
  t5:=Try.underlying5
  a5:=Try.isAgg5
  z5:=Try.sizeOf5
  v5:=Try.zeroValue5
  t9:=Try.underlying9
  a9:=Try.isAgg9
  z9:=Try.sizeOf9
  v9:=Try.zeroValue9
  t28:=Try.underlying23
  a28:=Try.isAgg23
  z28:=Try.sizeOf23
  v28:=Try.zeroValue23
  t46:=Try.underlying81
  a46:=Try.isAgg81
  z46:=Try.sizeOf81
  v46:=Try.zeroValue81
  t51:=Try.underlying120
  a51:=Try.isAgg120
  z51:=Try.sizeOf120
  v51:=Try.zeroValue120
  t53:=Try.underlying122
  a53:=Try.isAgg122
  z53:=Try.sizeOf122
  v53:=Try.zeroValue122
  t131:=Try.underlying101
  a131:=Try.isAgg101
  z131:=Try.sizeOf101
  v131:=Try.zeroValue101
  t182:=Try.underlying112
  a182:=Try.isAgg112
  z182:=Try.sizeOf112
  v182:=Try.zeroValue112
  t183:=Try.underlying113
  a183:=Try.isAgg113
  z183:=Try.sizeOf113
  v183:=Try.zeroValue113
  t218:=Try.underlying128
  a218:=Try.isAgg128
  z218:=Try.sizeOf128
  v218:=Try.zeroValue128
  t222:=Try.underlying132
  a222:=Try.isAgg132
  z222:=Try.sizeOf132
  v222:=Try.zeroValue132
  t228:=Try.underlying136
  a228:=Try.isAgg136
  z228:=Try.sizeOf136
  v228:=Try.zeroValue136
  t229:=Try.underlying137
  a229:=Try.isAgg137
  z229:=Try.sizeOf137
  v229:=Try.zeroValue137 }
theorem sortsV (m:Nat):AnyZI.SortsIn Try.prog laysV_ren Fence.wide m :=
  ⟨fun blk off cap ss W hH hblk hsz=>callsIn_wide.2 (Any.slices_Sort_int laysS blk off cap ss W hH hblk hsz),fun p cap W=>callsIn_wide.2 (Any.slices_Sort_int_none laysS p cap W)⟩
theorem sorted63 (w:World) (Bs:Nat) (zs:List Int) (hz:zs.length ≤ 1000) (hseq:SeqB Fence.wide 3 Try.prog 75 #[.pointer (some ⟨Bs,0,none⟩)] zs w) :
    Calls Try.prog 63 #[.func (.func 75) #[] #[.pointer (some ⟨Bs,0,none⟩)]] w fun e w'=>∃ (v:Value),e=.returned v ∧
      w'.ownsRow w.heap.size 3 1 v zs.length ((zs.mergeSort (fun x y=>decide (x ≤ y))).map encZ)∧(v=.slice none 0 0 ↔ zs=[])∧Below w.heap.size w w' :=
  (callsIn_wide (n:=6)).1 (sortedB laysV Fence.wide 6 trivial trivial trivial trivial rfl (by omega) (sortsV _) (enters_of Try.func74 (by kernel_rfl) rfl) 75 #[.pointer (some ⟨Bs,0,none⟩)] trivial (enters_of Try.func75 (by kernel_rfl) rfl) zs (Nat.le_trans hz (by decide)) (by omega) (by omega) w hseq)
end Go.Proofs.Ytlendaofkmhgmaa
end
section
open Go Go.HL
namespace Go.Proofs.Ytlendaofkmhgmaa
set_option linter.unusedSectionVars false
open Go.Proofs.Try renaming prog → Tp
open Go.HL.HV renaming undef → Ud
def sortV:List HV → Heap → Option (HV × Heap)
  | [.func 75 [] [.ptr xb 0 0 1]],H =>
    match H[xb]? with
    | some (.arr 1 [.sl nb 0 n _ tot 1] true _) =>
      match H[nb]? with
      | some (.arr 1 els true _) =>
        match intsOf els with
        | some l=>if l.length=n∧tot=n∧n ≤ 1000 then some (.sl H.length 0 n none n 1,H ++ [.arr 1 ((srt l).map (HV.int .i64)) true 0]) else none
        | none=>none
      | _=>none
    | _=>none
  | _,_=>none
theorem sortV_ok:HeapOk Tp 63 sortV:=by
  intro args c r H' h w lo rargs hR hl hV
  unfold sortV at h
  split at h
  case h_2=>cases h
  rename_i xb
  split at h
  case h_2=>cases h
  rename_i nb n cap tot mx hx
  split at h
  case h_2=>cases h
  rename_i els mx2 hb
  split at h
  case h_2=>cases h
  rename_i l hi
  split at h
  case isFalse=>cases h
  rename_i hc
  obtain ⟨hc1,rfl,hc2⟩:=hc
  simp only [Option.some.injEq,Prod.mk.injEq] at h
  obtain ⟨rfl,rfl⟩:=h
  have hels:=intsOf_some hi
  have hlen:els.length=l.length:=by rw [hels,List.length_map]
  obtain ⟨x,rfl⟩:∃ x,rargs=#[x]:=by
    match rargs,hl with
    | ⟨[x]⟩,_=>exact ⟨x,rfl⟩
  have hx1:=hV 0 _ x rfl rfl
  cases hx1 with
  | func _ _ _ ra rc hl1 hl2 h1 h2 =>
  obtain rfl:ra=#[]:=Array.eq_empty_of_size_eq_zero (by simpa using hl1.symm)
  obtain ⟨pv,rfl⟩:∃ x,rc=#[x]:=by
    match rc,hl2 with
    | ⟨[x]⟩,_=>exact ⟨x,rfl⟩
  have hpv:=h2 0 _ pv rfl rfl
  cases hpv with
  | ptr _ _ _ _ a2 hq =>
  obtain ⟨blk,hb2,hq2⟩:=hq
  rw [hx] at hb2; cases hb2
  obtain ⟨r2,hσ2,rfl⟩:=hq2.2 rfl
  obtain ⟨_,hrow2⟩:=block_of hR hx
  rcases hrow2 with ⟨hn1,hn2⟩ | ⟨r2',cs2,T2,hσ2',hlo2,hw2,hrow2⟩
  · cases hn2
  rw [hσ2] at hσ2'; cases hσ2'
  obtain ⟨sv,e0,v0⟩:=hrow2.2.2 0 _ 0 _ rfl rfl
  rw [Array.getElem?_toList] at e0
  have hlt2:r2 < w.heap.size:=(hR.dom xb r2 hσ2).2
  cases v0 with
  | sl _ _ _ _ _ _ a cap' hs =>
  have hbox:w.cell? ⟨r2,0,none⟩=some (.slice a tot cap'):=by
    unfold World.cell?
    simp only [hw2,Option.isSome_none,Bool.false_eq_true,if_false]
    simpa using e0
  obtain ⟨s1,s2,s3,blk,hb',s4⟩:=hs
  rw [hb] at hb'; cases hb'
  obtain ⟨s5,s6⟩:=s4
  obtain ⟨_,s6⟩:=s6 (by omega)
  obtain ⟨_,hrow⟩:=block_of hR hb
  have hseq:SeqB Fence.wide 3 Tp 75 #[.pointer (some ⟨r2,0,none⟩)] l w:=by
    by_cases hn:tot=0
    · subst hn
      have hl0:l=[]:=List.eq_nil_of_length_eq_zero hc1
      subst hl0
      exact val75n Fence.wide 3 trivial rfl w r2 cap' a hlt2 hbox
    · rcases hrow with ⟨hn1,hn2⟩ | ⟨r,cs,T,hσ,hlo,hw,hrow⟩
      · rw [hn2] at hlen; exact absurd (hc1.symm.trans hlen.symm) hn
      rw [hσ] at s6
      have ha:=s6.1 (by omega)
      subst ha
      have hcell:∀ j:Nat,j < l.length → cs[j]?=some (.int .i64 (l.getD j 0)):=fun j hj=>by
        have hj2:els[j]?=some (.int .i64 (l.getD j 0)):=by
          rw [hels,List.getElem?_map,List.getElem?_eq_getElem hj]
          simp [List.getD,List.getElem?_eq_getElem hj]
        obtain ⟨y,y1,y2⟩:=hrow.2.2 j _ 0 (.int .i64 (l.getD j 0)) hj2 rfl
        cases y2
        simpa using y1
      refine val75 Fence.wide 3 trivial rfl (by omega) w r2 r (0 * 1) tot cap' l hc1 (by omega) (hR.dom nb r hσ).2 hlt2 hbox fun j hj=>?_
      unfold World.cell?
      simp only [hw,Option.isSome_none,Bool.false_eq_true,if_false,Nat.zero_mul,Nat.zero_add]
      rw [hcell j (by omega),List.getD]
  have hcall:=sorted63 w r2 l (by omega) hseq
  refine Calls.mono (P:=Tp) hcall ?_
  rintro e w' ⟨v,rfl,hown,hnil,hbel⟩
  have hch:WChg w w' none:=⟨hbel.os,hbel.tape,hbel.output,hbel.size,fun r hr _=>hbel.block r hr,fun r cs T fz h=>⟨cs,T,fz,(hbel.block r (lt_of_heap h)).trans h,rfl⟩⟩
  have hsl:(srt l).length=tot:=by rw [srt_len,hc1]
  rcases hown.2 with ⟨rfl,hz⟩ | ⟨gb,cap2,cur,rfl,hbase,hgb,t1,t2,t3,t4⟩
  · have hl0:l=[]:=List.eq_nil_of_length_eq_zero hz
    subst hl0
    have h0:tot=0:=hc1.symm
    subst h0
    obtain ⟨g1,g2⟩:=push_ok (x:=.arr 1 [] true 0) (s:=none) hR hch (fun r h=>by cases h) (fun _=>⟨by simp,by rw [push_new.2]⟩)
    exact ⟨_,_,rfl,rfl,g1,V_slNil,g2⟩
  · have hgl:gb < w'.heap.size:=lt_of_heap hgb
    have hel:ElsOk 1 0 ((srt l).map (HV.int .i64)):=fun v hv=>by
      obtain ⟨x,_,rfl⟩:=List.mem_map.1 hv
      exact ⟨rfl,rfl,by simp [bnd]⟩
    rw [srt_eq,Nat.mul_one] at t4
    rw [Nat.mul_one] at t3
    have hsz:(srt l).length ≤ cur.size:=by rw [srt_len]; omega
    obtain ⟨g1,g2⟩:=push_ok (x:=.arr 1 ((srt l).map (HV.int .i64)) true 0) (s:=some gb) hR hch (fun r h=>by cases h; exact ⟨hbase,hgl⟩) (fun hE=>BlkOk_arr (r:=gb) (T:=3) (rs:=cur) push_new.2 (Nat.le_trans hR.low hbase) hgb hel
      ⟨by rw [List.length_map,Nat.mul_one]; simpa using hsz,fun v hv=>by
          obtain ⟨x,_,rfl⟩:=List.mem_map.1 hv
          rfl,fun i v j x hi hj=>by
          rw [List.getElem?_map] at hi
          cases hz:(srt l)[i]? with
          | none=>rw [hz] at hi; cases hi
          | some z =>
            rw [hz] at hi
            cases hi
            obtain ⟨rfl,rfl⟩:j=0∧x=.int .i64 z:=by
              match j,hj with
              | 0,hj=>exact ⟨rfl,(Option.some.inj hj).symm⟩
            refine ⟨.int .i64 z,?_,.int _ _⟩
            have hil:i < (srt l).length:=lt_of_get hz
            have e1:(cur.toList.take l.length)[i]?=some (.int .i64 z):=by rw [t4,List.getElem?_map,hz]; rfl
            rw [List.getElem?_take_of_lt (by rw [srt_len] at hil; exact hil)] at e1
            rw [Nat.mul_one,Nat.add_zero]; exact e1⟩)
    refine ⟨_,_,rfl,rfl,g1,?_,g2⟩
    rw [hc1]
    refine .sl _ _ _ _ _ _ _ _ ⟨by omega,by simp,by simp,_,push_new.1,by rw [List.length_map,hsl]; exact Nat.le_refl _,fun _=>⟨rfl,?_⟩⟩
    rw [push_new.2]
    exact ⟨fun _=>by simp,cur,3,(0,0),hgb,by omega⟩
noncomputable def prDb:FuncId → Option (List HV → Option HV):=fun g=>if g == 46 then some miles46 else if g == 60 then some contains60 else if g == 61 then some spanning61 else none
def hpDb:FuncId → Option (List HV → Heap → Option (HV × Heap)):=fun g=>if g == 63 then some sortV else none
noncomputable def polDb:Pol:={ pol with shared:=fun g=>g == 64 || sharedT.contains g,prim:=prDb,heapP:=hpDb }
theorem fns_okDb:(Tp.funcs.toList.zipIdx.all fun p=>fnOk polDb p.2 p.1)=true:=by kernel_rfl
theorem fnokDb (g:FuncId) (fn:Func) (h:Tp.funcs[g]?=some fn):fnOk polDb g fn=true:=List.all_eq_true.1 fns_okDb (fn,g) (by
  rw [List.mem_zipIdx_iff_getElem?]
  simpa using h)
theorem soundDb (n:Nat):CallSound Tp (callN Tp polDb n) :=
  callN_ok follows_mixed fnokDb (fun g f h=>by
    have h:prDb g=some f:=h
    unfold prDb at h
    split at h
    · rename_i hg; cases h; rw [eq_of_beq hg]; exact miles_ok
    split at h
    · rename_i hg; cases h; rw [eq_of_beq hg]; exact contains_ok
    split at h
    · rename_i hg; cases h; rw [eq_of_beq hg]; exact spanning_ok
    · cases h) n (fun g F h=>by
    have h:hpDb g=some F:=h
    unfold hpDb at h
    split at h
    · rename_i hg; cases h; rw [eq_of_beq hg]; exact sortV_ok
    · cases h)
end Go.Proofs.Ytlendaofkmhgmaa
end
section
open Go Go.HL
namespace Go.Proofs.Ytlendaofkmhgmaa
set_option maxRecDepth 100000
set_option linter.unusedSectionVars false
open Go.Proofs.Try renaming prog → Tp
open Go.HL.HV renaming undef → Ud
noncomputable def B42:Code:=Try.f42.body.getD .skip
abbrev env42 (v0 v2 v3 v4 v6 v7 v8 v17 v18 v19:HV):Env:=[(0,v0),(2,v2),(3,v3),(4,v4),(6,v6),(7,v7),(8,v8),(17,v17),(18,v18),(19,v19)]
abbrev e42 (rw:List HV) (u3 u4 u5 u6 u7 u8 u9:HV):Env:=env42 (.a rw) (.imm .lit 1 []) (.i 0) u3 u4 u5 u6 u7 u8 u9
section
variable (N:Nat) (rw:List HV) (H:Heap)
include N rw H
theorem dp_a_0:RT polDb 42 (sn 2 B42) [(0,.a rw)] H .normal (e42 rw Ud Ud Ud Ud Ud Ud Ud) H :=
  hx N 60 []
end
section
variable (N:Nat) (rw:List HV) (H:Heap)
include N rw H
theorem dp_b_0 {H0:Heap} (g0:∀ kf,callN Tp polDb (kf+1) 46 [.a rw] H=some (.bool true,H0)) (y4 y6 y7 y8 y17 y18 y19:HV:=Ud): RT polDb 42 (sn 6 B42) (e42 rw y4 y6 y7 y8 y17 y18 y19) H .normal (e42 rw y4 y6 y7 y8 y17 y18 y19) H0 :=
  hx N 60 [jD 1 1 g0]
theorem dp_b_1 {H0:Heap} (g0:∀ kf,callN Tp polDb (kf+1) 46 [.a rw] H=some (.bool false,H0)) (y4 y6 y7 y8 y17 y18 y19:HV:=Ud): RT polDb 42 (sn 6 B42) (e42 rw y4 y6 y7 y8 y17 y18 y19) H .ret (env42 (.a rw) (.imm .lit 1 []) (.i 2) y4 y6 y7 y8 y17 y18 y19) H0 :=
  hx N 60 [jD 1 1 g0]
theorem dp_c_0 (n nb rb:Nat) {H0:Heap} {H1:Heap} {H2:Heap} (g0:makeV Tp true 22 (.i (rw.length:Int)) (.i (rw.length:Int)) H=some (.o rb n,H0)) (g1:some (HV.ptr H0.length 0 0 1,H0 ++ [Blk.arr 1 [HV.sl (H0.length+1) 0 0 none 0 1] true (H0.length+2),Blk.b []])=some (.q nb,H1)) (g2:ST H1 22 (.q nb) (.o rb n) H2) (y4 y6 y7 y8 y17 y18 y19:HV:=Ud): RT polDb 42 (sn 14 B42) (e42 rw y4 y6 y7 y8 y17 y18 y19) H .normal (e42 rw (.q nb) y6 y7 y8 y17 y18 y19) H2 :=
  hx N 60 [jR 3 2 g0,jR 3 3 g1,jS 3 4 g2]
theorem dp_d_0 (nb eb q:Nat) (zz:HV) {H0:Heap} (g0:∀ kf,callN Tp polDb (kf+1) 61 [.a rw,.i 0,.agg [.i 0,.i 0,.i 0,.i 0,.i 0,.i 0,.i 0,.i 0,.i 0,.i 0,.i 0]] H=some (.sl eb 0 q none q 3,H0)) (y6 y7 y8 y17 y18 y19:HV:=Ud): RT polDb 42 (sn 60 B42) (e42 rw (.q nb) y6 y7 y8 y17 y18 y19) H .normal (e42 rw (.q nb) y6 y7 y8 (.sl eb 0 q none q 3) (.n q) (.i 0)) H0 :=
  hx N 60 [jD 4 2 g0]
theorem dp_e_0 (nb eb q i n rb xb:Nat) (ec:Int) (ea ed ra p p1 rc s s1:Nat) {H0:Heap} {H1:Heap} {H2:Heap} {H3:Heap} {H4:Heap} {H5:Heap} (g0:(i:Int) < (q:Int)) (g1:IX 88 (.sl eb 0 q none q 3) (.n i) (.ptr eb i 0 q)) (g2:LD H 91 (.ptr eb i 0 q) (.agg [.i ec,.n ea,.n ed])) (g3:some (newV (.agg [.i 0,.i 0,.i 0]) H)=some (.q xb,H0)) (g4:ST H0 91 (.q xb) (.agg [.i ec,.n ea,.n ed]) H1) (g5:LD H1 22 (.q nb) (.o rb n)) (g6:LD H1 3 (.ptr xb 0 1 1) (.n ea)) (g7:LD H1 22 (.q nb) (.o rb n)) (g8:LD H1 3 (.ptr xb 0 1 1) (.n ea)) (g9:IO 22 rb n ea) (g10:LD H1 23 (.ptr rb ea 0 n) (.s ra p)) (g11:LD H1 3 (.ptr xb 0 2 1) (.n ed)) (g12:appV H1 1 8 (.s ra p) [.n ed]=some (.s ra p1,H2)) (g13:IO 22 rb n ea) (g14:ST H2 23 (.ptr rb ea 0 n) (.s ra p1) H3) (gS7:(recL ((loadV Tp H1 22 (.q nb)).map (fun v=>(v,(H1:Heap)))) ((loadV Tp H1 22 (.q nb)).map (fun v=>(v,(H1:Heap)))) H1 H1 && (recL ((loadV Tp H1 22 (.q nb)).map (fun v=>(v,(H1:Heap)))) ((loadV Tp H2 22 (.q nb)).map (fun v=>(v,(H2:Heap)))) H1 H2 && (recL ((loadV Tp H1 3 (.ptr xb 0 1 1)).map (fun v=>(v,(H1:Heap)))) ((loadV Tp H1 3 (.ptr xb 0 1 1)).map (fun v=>(v,(H1:Heap)))) H1 H1 && (recL ((loadV Tp H1 3 (.ptr xb 0 1 1)).map (fun v=>(v,(H1:Heap)))) ((loadV Tp H2 3 (.ptr xb 0 1 1)).map (fun v=>(v,(H2:Heap)))) H1 H2 && (recL ((loadV Tp H1 22 (.q nb)).map (fun v=>(v,(H1:Heap)))) ((loadV Tp H1 22 (.q nb)).map (fun v=>(v,(H1:Heap)))) H1 H1 && (recL ((loadV Tp H1 3 (.ptr xb 0 1 1)).map (fun v=>(v,(H1:Heap)))) ((loadV Tp H1 3 (.ptr xb 0 1 1)).map (fun v=>(v,(H1:Heap)))) H1 H1 && (recL ((loadV Tp H1 23 (.ptr rb ea 0 n)).map (fun v=>(v,(H1:Heap)))) ((loadV Tp H1 23 (.ptr rb ea 0 n)).map (fun v=>(v,(H1:Heap)))) H1 H1 && true)))))))=true) (g16:LD H3 22 (.q nb) (.o rb n)) (g17:LD H3 3 (.ptr xb 0 2 1) (.n ed)) (g18:LD H3 22 (.q nb) (.o rb n)) (g19:LD H3 3 (.ptr xb 0 2 1) (.n ed)) (g20:IO 22 rb n ed) (g21:LD H3 23 (.ptr rb ed 0 n) (.s rc s)) (g22:LD H3 3 (.ptr xb 0 1 1) (.n ea)) (g23:appV H3 1 8 (.s rc s) [.n ea]=some (.s rc s1,H4)) (g24:IO 22 rb n ed) (g25:ST H4 23 (.ptr rb ed 0 n) (.s rc s1) H5) (gS8:(recL ((loadV Tp H3 22 (.q nb)).map (fun v=>(v,(H3:Heap)))) ((loadV Tp H3 22 (.q nb)).map (fun v=>(v,(H3:Heap)))) H3 H3 && (recL ((loadV Tp H3 22 (.q nb)).map (fun v=>(v,(H3:Heap)))) ((loadV Tp H4 22 (.q nb)).map (fun v=>(v,(H4:Heap)))) H3 H4 && (recL ((loadV Tp H3 3 (.ptr xb 0 2 1)).map (fun v=>(v,(H3:Heap)))) ((loadV Tp H3 3 (.ptr xb 0 2 1)).map (fun v=>(v,(H3:Heap)))) H3 H3 && (recL ((loadV Tp H3 3 (.ptr xb 0 2 1)).map (fun v=>(v,(H3:Heap)))) ((loadV Tp H4 3 (.ptr xb 0 2 1)).map (fun v=>(v,(H4:Heap)))) H3 H4 && (recL ((loadV Tp H3 22 (.q nb)).map (fun v=>(v,(H3:Heap)))) ((loadV Tp H3 22 (.q nb)).map (fun v=>(v,(H3:Heap)))) H3 H3 && (recL ((loadV Tp H3 3 (.ptr xb 0 2 1)).map (fun v=>(v,(H3:Heap)))) ((loadV Tp H3 3 (.ptr xb 0 2 1)).map (fun v=>(v,(H3:Heap)))) H3 H3 && (recL ((loadV Tp H3 23 (.ptr rb ed 0 n)).map (fun v=>(v,(H3:Heap)))) ((loadV Tp H3 23 (.ptr rb ed 0 n)).map (fun v=>(v,(H3:Heap)))) H3 H3 && true)))))))=true) (y6 y7 y8:HV:=Ud): RT polDb 42 (sn 244 B42) (e42 rw (.q nb) y6 y7 y8 (.sl eb 0 q none q 3) (.n q) (.n i)) H .normal (e42 rw (.q nb) (.q xb) y7 y8 (.sl eb 0 q none q 3) (.n q) (.i (IntKind.i64.wrap ((i:Int)+1)))) H5 :=
  hx N 60 [jT 5 0 H g0,jO 6 0 H g1,jO 6 1 H g2,jR 6 2 g3,jS 6 3 g4,jK gS7,jO 7 0 H1 g5,jO 7 2 H1 g6,jO 7 3 H1 g7,jO 7 5 H1 g8,jO 7 6 H1 g9,jO 7 7 H1 g10,jO 7 9 H1 g11,jR 7 11 g12,jO 7 12 H2 g13,jS 7 13 g14,jK gS8,jO 8 0 H3 g16,jO 8 2 H3 g17,jO 8 3 H3 g18,jO 8 5 H3 g19,jO 8 6 H3 g20,jO 8 7 H3 g21,jO 8 9 H3 g22,jR 8 11 g23,jO 8 12 H4 g24,jS 8 13 g25]
theorem dp_e_1 (nb eb q i n rb xb:Nat) (ec:Int) (ea ed ra p p1 rc s s1:Nat) (g0:¬ ((i:Int) < (q:Int))) (y6 y7 y8:HV:=Ud): RT polDb 42 (sn 244 B42) (e42 rw (.q nb) y6 y7 y8 (.sl eb 0 q none q 3) (.n q) (.n i)) H (.exit 0) (e42 rw (.q nb) y6 y7 y8 (.sl eb 0 q none q 3) (.n q) (.n i)) H :=
  hx N 60 [jF 5 0 H g0]
theorem dp_f_0 (nb tb vb:Nat) (tz:HV) {H0:Heap} {H1:Heap} {H2:Heap} {H3:Heap} (g0:some (HV.ptr H.length 0 0 1,H ++ [Blk.arr 1 [HV.sl (H.length+1) 0 0 none 0 1] true (H.length+2),Blk.b []])=some (.q tb,H0)) (g1:some (newV (.nilFunc) H0)=some (.q vb,H1)) (g2:ST H1 92 (.q vb) (.func 62 [] [.q tb,.q nb,.q vb]) H2) (g3:LD H2 92 (.q vb) (.func 62 [] [.q tb,.q nb,.q vb])) (g4:∀ kf,N ≤ kf → callN Tp polDb (kf+1) 62 [.i 0,.q tb,.q nb,.q vb] H2=some (.tuple [],H3)) (g5:LD H3 23 (.q tb) (tz)) (y6 y7 y8 y17 y18 y19:HV:=Ud): RT polDb 42 (sn 31 B42) (e42 rw (.q nb) y6 y7 y8 y17 y18 y19) H .ret (env42 (.a rw) tz (.i 0) (.q nb) y6 (.q tb) (.q vb) y17 y18 y19) H3 :=
  hx N 60 [jR 10 0 g0,jR 11 0 g1,jS 12 1 g2,jO 13 0 H2 g3,jC 13 1 g4,jO 14 0 H3 g5]
end
noncomputable def B62:Code:=Try.f62.body.getD .skip
abbrev env62 (v0 v1 v2 v3 v6 v16 v17 v18:HV):Env:=[(0,v0),(1,v1),(2,v2),(3,v3),(6,v6),(16,v16),(17,v17),(18,v18)]
abbrev e62 (v:Nat) (tb:Nat) (nb:Nat) (vb:Nat) (u4 u5 u6 u7:HV):Env:=env62 (.n v) (.q tb) (.q nb) (.q vb) u4 u5 u6 u7
section
variable (N:Nat) (v tb nb vb:Nat) (H:Heap)
include N v tb nb vb H
theorem vt_a_0 (tv tw:HV) {H0:Heap} {H1:Heap} (g0:LD H 23 (.q tb) (tv)) (g1:appV H 1 8 (tv) [.n v]=some (tw,H0)) (g2:ST H0 23 (.q tb) (tw) H1): RT polDb 62 (sn 2 B62) [(0,.n v),(1,.q tb),(2,.q nb),(3,.q vb)] H .normal (e62 v tb nb vb Ud Ud Ud Ud) H1 :=
  hx N 60 [jO 0 0 H g0,jR 0 3 g1,jS 0 4 g2]
end
section
variable (N:Nat) (v tb nb vb:Nat) (H:Heap)
include N v tb nb vb H
theorem vt_b_0 (n rb nk m xb sb:Nat) {H0:Heap} {H1:Heap} (g0:LD H 22 (.q nb) (.o rb n)) (g1:IO 22 rb n v) (g2:LD H 23 (.ptr rb v 0 n) (.s nk m)) (g3:∀ kf,N ≤ kf → callN Tp polDb (kf+1) 64 [.s nk m] H=some (.func 75 [] [.q xb],H0)) (g4:∀ kf,N ≤ kf → callN Tp polDb (kf+1) 63 [.func 75 [] [.q xb]] H0=some (.s sb m,H1)) (y6 y16 y17 y18:HV:=Ud): RT polDb 62 (sn 6 B62) (e62 v tb nb vb y6 y16 y17 y18) H .normal (e62 v tb nb vb y6 (.s sb m) (.n m) (.i 0)) H1 :=
  hx N 60 [jO 1 0 H g0,jO 1 2 H g1,jO 1 3 H g2,jC 1 4 g3,jC 1 5 g4]
theorem vt_c_0 (m sb i u:Nat) (tz:HV) {H0:Heap} (g0:(i:Int) < (m:Int)) (g1:IS 23 sb m i) (g2:LD H 3 (.ptr sb i 0 m) (.n u)) (g3:LD H 23 (.q tb) (tz)) (g4:∀ kf,callN Tp polDb (kf+1) 60 [tz,.n u] H=some (.bool true,H0)) (y6:HV:=Ud): RT polDb 62 (sn 28 B62) (e62 v tb nb vb y6 (.s sb m) (.n m) (.n i)) H .normal (e62 v tb nb vb (.n u) (.s sb m) (.n m) (.i (IntKind.i64.wrap ((i:Int)+1)))) H0 :=
  hx N 60 [jT 2 0 H g0,jO 3 0 H g1,jO 3 1 H g2,jO 4 0 H g3,jD 4 2 g4]
theorem vt_c_1 (m sb i u:Nat) (tz:HV) {H0:Heap} {H1:Heap} (g0:(i:Int) < (m:Int)) (g1:IS 23 sb m i) (g2:LD H 3 (.ptr sb i 0 m) (.n u)) (g3:LD H 23 (.q tb) (tz)) (g4:∀ kf,callN Tp polDb (kf+1) 60 [tz,.n u] H=some (.bool false,H0)) (g5:LD H0 92 (.q vb) (.func 62 [] [.q tb,.q nb,.q vb])) (g6:∀ kf,N ≤ kf → callN Tp polDb (kf+1) 62 [.n u,.q tb,.q nb,.q vb] H0=some (.tuple [],H1)) (y6:HV:=Ud): RT polDb 62 (sn 28 B62) (e62 v tb nb vb y6 (.s sb m) (.n m) (.n i)) H .normal (e62 v tb nb vb (.n u) (.s sb m) (.n m) (.i (IntKind.i64.wrap ((i:Int)+1)))) H1 :=
  hx N 60 [jT 2 0 H g0,jO 3 0 H g1,jO 3 1 H g2,jO 4 0 H g3,jD 4 2 g4,jO 5 0 H0 g5,jC 5 2 g6]
theorem vt_c_2 (m sb i u:Nat) (tz:HV) (g0:¬ ((i:Int) < (m:Int))) (y6:HV:=Ud): RT polDb 62 (sn 28 B62) (e62 v tb nb vb y6 (.s sb m) (.n m) (.n i)) H (.exit 0) (e62 v tb nb vb y6 (.s sb m) (.n m) (.n i)) H :=
  hx N 60 [jF 2 0 H g0]
end
noncomputable def B64:Code:=Try.f64.body.getD .skip
abbrev env64 (v0 v1 v2:HV):Env:=[(0,v0),(1,v1),(2,v2)]
theorem vu_a_0 (N:Nat) (nk m:Nat) (H:Heap) (xb:Nat) {H0:Heap} (g0:some (newV (.s nk m) H)=some (.q xb,H0)): RT polDb 64 (sub [] B64) [(0,.s nk m)] H .ret (env64 (.s nk m) (.q xb) (.func 75 [] [.q xb])) H0 :=
  hx N 60 [jR 0 0 g0]
noncomputable def B65:Code:=Try.f65.body.getD .skip
abbrev env65 (v0 v1 v4 v5 v6 v7 v8 v9 v10 v11:HV):Env:=[(0,v0),(1,v1),(4,v4),(5,v5),(6,v6),(7,v7),(8,v8),(9,v9),(10,v10),(11,v11)]
abbrev e65 (es:List HV) (n:Nat) (m:Nat) (u4 u6 u7 u8 u9:HV):Env:=env65 (.g es) (.n n) (.imm .lit 3 []) (.o 0 n) u4 (.sl 1 0 m none m 3) u6 u7 u8 u9
section
variable (es:List HV) (n:Nat)
include es n
theorem jn_a_0:RT polW 65 (sn 2 B65) [(0,.g es),(1,.n n)] [] .normal (env65 (.g es) (.n n) (.imm .lit 3 []) Ud Ud Ud Ud Ud Ud Ud) [] :=
  hx 0 60 []
end
section
variable (es:List HV) (n:Nat)
include es n
theorem jn_b_0 (g0:makeV Tp false 23 (.n n) (.n n) []=some (.o 0 n,[.arr 1 (List.replicate n (.i 0)) true 0])) (y5 y6 y7 y8 y9 y10 y11:HV:=Ud): RT polW 65 (sn 6 B65) (env65 (.g es) (.n n) (.imm .lit 3 []) y5 y6 y7 y8 y9 y10 y11) [] .normal (env65 (.g es) (.n n) (.imm .lit 3 []) (.o 0 n) y6 y7 y8 y9 y10 y11) [.arr 1 (List.replicate n (.i 0)) true 0] :=
  hx 0 60 [jR 1 1 g0]
theorem jn_c_0 (gs:List HV) (y6 y7 y8 y9 y10 y11:HV:=Ud): RT polW 65 (sn 28 B65) (env65 (.g es) (.n n) (.imm .lit 3 []) (.o 0 n) y6 y7 y8 y9 y10 y11) [.b gs] .normal (env65 (.g es) (.n n) (.imm .lit 3 []) (.o 0 n) (.i 0) y7 y8 y9 y10 y11) [.b gs] :=
  hx 0 60 []
theorem jn_d_0 (gs:List HV) (i:Nat) {el0:List HV} (g0:(i:Int) < (n:Int)) (g1:IO 23 0 n i) (g2:ST [.b gs] 3 (.ptr 0 i 0 n) (.n i) [.b el0]) (y7 y8 y9 y10 y11:HV:=Ud): RT polW 65 (sn 116 B65) (env65 (.g es) (.n n) (.imm .lit 3 []) (.o 0 n) (.n i) y7 y8 y9 y10 y11) [.b gs] .normal (env65 (.g es) (.n n) (.imm .lit 3 []) (.o 0 n) (.i (IntKind.i64.wrap ((i:Int)+1))) y7 y8 y9 y10 y11) [.b el0] :=
  hx 0 60 [jT 3 2 [.b gs] g0,jO 5 3 [.b gs] g1,jS 5 4 g2]
theorem jn_d_1 (gs:List HV) (i:Nat) (g0:¬ ((i:Int) < (n:Int))) (y7 y8 y9 y10 y11:HV:=Ud): RT polW 65 (sn 116 B65) (env65 (.g es) (.n n) (.imm .lit 3 []) (.o 0 n) (.n i) y7 y8 y9 y10 y11) [.b gs] (.exit 0) (env65 (.g es) (.n n) (.imm .lit 3 []) (.o 0 n) (.n i) y7 y8 y9 y10 y11) [.b gs] :=
  hx 0 60 [jF 3 2 [.b gs] g0]
theorem jn_e_0 (gs:List HV) (y6 y7 y8 y9 y10 y11:HV:=Ud): RT polW 65 (sn 30 B65) (env65 (.g es) (.n n) (.imm .lit 3 []) (.o 0 n) y6 y7 y8 y9 y10 y11) [.b gs] .normal (env65 (.g es) (.n n) (.imm .lit 3 []) (.o 0 n) y6 (.sl 1 0 0 none 0 3) y8 y9 y10 y11) [.b gs,.arr 3 [] true 0] :=
  hx 0 60 []
theorem jn_f_0 (gs:List HV) (m:Nat) (os:List HV) (y6 y8 y9 y10 y11:HV:=Ud): RT polW 65 (sn 124 B65) (e65 es n m y6 y8 y9 y10 y11) [.b gs,.arr 3 os true 0] .normal (e65 es n m y6 (.i 0) y9 y10 y11) [.b gs,.arr 3 os true 0] :=
  hx 0 60 []
theorem jn_g_0 (gs:List HV) (m:Nat) (os:List HV) (i:Nat) (g0:(i:Int) < (es.length:Int)) (y6 y9 y10 y11:HV:=Ud): RT polW 65 (sn 1000 B65) (e65 es n m y6 (.n i) y9 y10 y11) [.b gs,.arr 3 os true 0] .normal (e65 es n m y6 (.n i) y9 y10 y11) [.b gs,.arr 3 os true 0] :=
  hx 0 60 [jT 8 3 [.b gs,.arr 3 os true 0] g0]
theorem jn_g_1 (gs:List HV) (m:Nat) (os:List HV) (i:Nat) (g0:¬ ((i:Int) < (es.length:Int))) (y6 y9 y10 y11:HV:=Ud): RT polW 65 (sn 1000 B65) (e65 es n m y6 (.n i) y9 y10 y11) [.b gs,.arr 3 os true 0] (.exit 2) (e65 es n m y6 (.n i) y9 y10 y11) [.b gs,.arr 3 os true 0] :=
  hx 0 60 [jF 8 3 [.b gs,.arr 3 os true 0] g0]
theorem jn_h_0 (gs:List HV) (m:Nat) (os:List HV) (i:Nat) (ec:Int) (ea eb:Nat) {x0:Int} {x1:Int} (g0:IX 70 (.g es) (.n i) (.vptr (.agg [.n ea,.n eb,.i ec]))) (g1:IO 23 0 n ea) (g2:LD [.b gs,.arr 3 os true 0] 3 (.ptr 0 ea 0 n) (.i x0)) (g3:IX 70 (.g es) (.n i) (.vptr (.agg [.n ea,.n eb,.i ec]))) (g4:IO 23 0 n eb) (g5:LD [.b gs,.arr 3 os true 0] 3 (.ptr 0 eb 0 n) (.i x1)) (y6 y9 y10 y11:HV:=Ud): RT polW 65 (sn 8008 B65) (e65 es n m y6 (.n i) y9 y10 y11) [.b gs,.arr 3 os true 0] .normal (e65 es n m y6 (.n i) (.i x0) (.i x1) y11) [.b gs,.arr 3 os true 0] :=
  hx 0 60 [jO 10 3 [.b gs,.arr 3 os true 0] g0,jO 10 6 [.b gs,.arr 3 os true 0] g1,jO 10 7 [.b gs,.arr 3 os true 0] g2,jO 10 11 [.b gs,.arr 3 os true 0] g3,jO 10 14 [.b gs,.arr 3 os true 0] g4,jO 10 15 [.b gs,.arr 3 os true 0] g5]
theorem jn_i_0 (gs:List HV) (m:Nat) (os:List HV) (i:Nat) (ec:Int) (ea eb:Nat) (o w:Int) (g0:w=o) (y6 y11:HV:=Ud): RT polW 65 (sn 16018 B65) (e65 es n m y6 (.n i) (.i w) (.i o) y11) [.b gs,.arr 3 os true 0] (.exit 3) (e65 es n m y6 (.n i) (.i w) (.i o) y11) [.b gs,.arr 3 os true 0] :=
  hx 0 60 [jT 11 2 [.b gs,.arr 3 os true 0] g0]
theorem jn_i_1 (gs:List HV) (m:Nat) (os:List HV) (i:Nat) (ec:Int) (ea eb:Nat) (o w:Int) (g0:¬ (w=o)) (y6 y11:HV:=Ud): RT polW 65 (sn 16018 B65) (e65 es n m y6 (.n i) (.i w) (.i o) y11) [.b gs,.arr 3 os true 0] .normal (e65 es n m y6 (.n i) (.i w) (.i o) y11) [.b gs,.arr 3 os true 0] :=
  hx 0 60 [jF 11 2 [.b gs,.arr 3 os true 0] g0]
theorem jn_j_0 (gs:List HV) (m:Nat) (os:List HV) (i:Nat) (ec:Int) (ea eb:Nat) (o w:Int) (g0:IX 70 (.g es) (.n i) (.vptr (.agg [.n ea,.n eb,.i ec]))) (g1:appV [.b gs,.arr 3 os true 0] 3 24 (.sl 1 0 m none m 3) [.agg [.n ea,.n eb,.i ec]]=some (.sl 1 0 (m+1) none (m+1) 3,[.b gs,.arr 3 (os ++ [.agg [.n ea,.n eb,.i ec]]) true 0])) (y6 y11:HV:=Ud): RT polW 65 (sn 32038 B65) (e65 es n m y6 (.n i) (.i w) (.i o) y11) [.b gs,.arr 3 os true 0] .normal (env65 (.g es) (.n n) (.imm .lit 3 []) (.o 0 n) y6 (.sl 1 0 (m+1) none (m+1) 3) (.n i) (.i w) (.i o) y11) [.b gs,.arr 3 (os ++ [.agg [.n ea,.n eb,.i ec]]) true 0] :=
  hx 0 60 [jO 12 3 [.b gs,.arr 3 os true 0] g0,jR 12 6 g1]
theorem jn_k_0 (gs:List HV) (m:Nat) (os:List HV) (i:Nat) (ec:Int) (ea eb:Nat) (o w:Int) (y6 y11:HV:=Ud): RT polW 65 (sn 64078 B65) (e65 es n m y6 (.n i) (.i w) (.i o) y11) [.b gs,.arr 3 os true 0] .normal (e65 es n m y6 (.n i) (.i w) (.i o) (.i 0)) [.b gs,.arr 3 os true 0] :=
  hx 0 60 []
theorem jn_l_0 (gs:List HV) (m:Nat) (os:List HV) (i:Nat) (ec:Int) (ea eb:Nat) (o w:Int) (j:Nat) {x0:Int} {el0:List HV} (g0:(j:Int) < (n:Int)) (g1:IO 23 0 n j) (g2:LD [.b gs,.arr 3 os true 0] 3 (.ptr 0 j 0 n) (.i x0)) (g3:x0=o) (g4:IO 23 0 n j) (g5:ST [.b gs,.arr 3 os true 0] 3 (.ptr 0 j 0 n) (.i w) [.b el0,.arr 3 os true 0]) (y6:HV:=Ud): RT polW 65 (sn 256316 B65) (e65 es n m y6 (.n i) (.i w) (.i o) (.n j)) [.b gs,.arr 3 os true 0] .normal (e65 es n m y6 (.n i) (.i w) (.i o) (.i (IntKind.i64.wrap ((j:Int)+1)))) [.b el0,.arr 3 os true 0] :=
  hx 0 60 [jT 14 2 [.b gs,.arr 3 os true 0] g0,jO 16 2 [.b gs,.arr 3 os true 0] g1,jO 16 3 [.b gs,.arr 3 os true 0] g2,jT 16 5 [.b gs,.arr 3 os true 0] g3,jO 17 3 [.b gs,.arr 3 os true 0] g4,jS 17 4 g5]
theorem jn_l_1 (gs:List HV) (m:Nat) (os:List HV) (i:Nat) (ec:Int) (ea eb:Nat) (o w:Int) (j:Nat) {x0:Int} (g0:(j:Int) < (n:Int)) (g1:IO 23 0 n j) (g2:LD [.b gs,.arr 3 os true 0] 3 (.ptr 0 j 0 n) (.i x0)) (g3:¬ (x0=o)) (y6:HV:=Ud): RT polW 65 (sn 256316 B65) (e65 es n m y6 (.n i) (.i w) (.i o) (.n j)) [.b gs,.arr 3 os true 0] .normal (e65 es n m y6 (.n i) (.i w) (.i o) (.i (IntKind.i64.wrap ((j:Int)+1)))) [.b gs,.arr 3 os true 0] :=
  hx 0 60 [jT 14 2 [.b gs,.arr 3 os true 0] g0,jO 16 2 [.b gs,.arr 3 os true 0] g1,jO 16 3 [.b gs,.arr 3 os true 0] g2,jF 16 5 [.b gs,.arr 3 os true 0] g3]
theorem jn_l_2 (gs:List HV) (m:Nat) (os:List HV) (i:Nat) (ec:Int) (ea eb:Nat) (o w:Int) (j:Nat) (g0:¬ ((j:Int) < (n:Int))) (y6:HV:=Ud): RT polW 65 (sn 256316 B65) (e65 es n m y6 (.n i) (.i w) (.i o) (.n j)) [.b gs,.arr 3 os true 0] (.exit 4) (e65 es n m y6 (.n i) (.i w) (.i o) (.n j)) [.b gs,.arr 3 os true 0] :=
  hx 0 60 [jF 14 2 [.b gs,.arr 3 os true 0] g0]
theorem jn_m_0 (gs:List HV) (m:Nat) (os:List HV) (i:Nat) (y6 y9 y10 y11:HV:=Ud): RT polW 65 (sn 2003 B65) (e65 es n m y6 (.n i) y9 y10 y11) [.b gs,.arr 3 os true 0] .normal (e65 es n m y6 (.i (IntKind.i64.wrap ((i:Int)+1))) y9 y10 y11) [.b gs,.arr 3 os true 0] :=
  hx 0 60 []
theorem jn_n_0 (gs:List HV) (m:Nat) (os:List HV) (y6 y8 y9 y10 y11:HV:=Ud): RT polW 65 (sn 63 B65) (e65 es n m y6 y8 y9 y10 y11) [.b gs,.arr 3 os true 0] .ret (env65 (.g es) (.n n) (.sl 1 0 m none m 3) (.o 0 n) y6 (.sl 1 0 m none m 3) y8 y9 y10 y11) [.b gs,.arr 3 os true 0] :=
  hx 0 60 []
end
end Go.Proofs.Ytlendaofkmhgmaa
end
