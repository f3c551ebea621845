/- A part of the proof. -/
import Derived.Test.YtaibmipamkaljaaHlA
import Derived.Test.YtaibmipamkaljaaHlB
import Derived.Test.YtaibmipamkaljaaHlC
import Derived.Test.YtaibmipamkaljaaHlD
import Derived.Test.YtaibmipamkaljaaHlE
import Derived.Test.YtaibmipamkaljaaHlF
import Derived.ProofKit
import Derived.Test.YtaibmipamkaljaaProg
import Derived.Deep.Slices
import Derived.OpenShut
set_option linter.unusedVariables false
set_option linter.unusedSimpArgs false
set_option linter.unnecessarySimpa false
namespace Go.HL
abbrev HV.i (n:Int):HV:=.int .i64 n
section
variable {P:Program} {pol:Pol} {f:FuncId} {c:Code} {e E:Env} {H H':Heap} {x:X} {K:List Nat}
theorem RunsTo.hin (d n:Nat) (hs:List Hint) (h:∀ k,d ≤ k → ∃ ob,hview K (evCH P pol (callN P pol (k+1)) n f c e H hs)=some (x,E,H',ob)∧Obls ob):RunsTo P pol f c e H x K E H':=RunsTo.hint (d+1) n hs fun k hk=>by
  obtain ⟨k,rfl⟩:∃ n,k=n+1:=⟨k - 1,by omega⟩
  exact h k (by omega)
theorem oC {p:Prop} {os:List Prop} (h:p) (t:Obls os):Obls (p :: os):=Obls.cons h t
theorem oP (H:Heap) {r:Option HV} {v:HV} {os:List Prop} (h:r=some v) (t:Obls os):Obls ((r.map (fun v=>(v,H))=some (v,H)) :: os):=Obls.cons (hintOp h) t
theorem oS {r:Option Heap} {H:Heap} {os:List Prop} (h:r=some H) (t:Obls os):Obls ((r.map (fun H=>(HV.tuple [],H))=some (.tuple [],H)) :: os):=Obls.cons (hintSt h) t
theorem oB (H:Heap) {p b:Bool} {os:List Prop} (h:p=b) (t:Obls os):Obls ((some (HV.bool p,H)=some (HV.bool b,H)) :: os):=Obls.cons (hintB h) t
end
end Go.HL
namespace Go.HL
theorem sq {P:Program} {pol:Pol} {f:FuncId} {a b c:Code} {e E1 E:Env} {H H1 H':Heap} {x:X} {K K1:List Nat} (h1:RunsTo P pol f a e H .normal K1 E1 H1) (h2:RunsTo P pol f b E1 H1 x K E H') (hc:c=.seq a b:=by kernel_rfl) (hK:K1=pol.keys f ++ headTmp b:=by kernel_rfl):RunsTo P pol f c e H x K E H':=RunsTo.seq h1 h2 hc hK
theorem sqo {P:Program} {pol:Pol} {f:FuncId} {a b c:Code} {e E:Env} {H H':Heap} {x:X} {K:List Nat} (h1:RunsTo P pol f a e H x K E H') (hx:x ≠ .normal:=by simp) (hc:c=.seq a b:=by kernel_rfl):RunsTo P pol f c e H x K E H':=RunsTo.seq_out h1 hx hc
theorem lpo {P:Program} {pol:Pol} {f:FuncId} {b c:Code} {e E:Env} {H H':Heap} {x:X} {K:List Nat} (h1:RunsTo P pol f b e H x K E H') (hx:x ≠ .normal:=by simp) (hc:c=.loop b:=by kernel_rfl) (he:lrestr pol f b e=e:=by kernel_rfl):RunsTo P pol f c e H x K E H':=RunsTo.loop_out h1 hx hc he
theorem lpi {P:Program} {pol:Pol} {f:FuncId} {b c:Code} {e0 e E:Env} {H H':Heap} {x:X} {K:List Nat} (h:RunsTo P pol f c e H x K E H') (hc:c=.loop b:=by kernel_rfl) (h0:lrestr pol f b e0=e:=by kernel_rfl) (he:lrestr pol f b e=e:=by kernel_rfl):RunsTo P pol f c e0 H x K E H':=RunsTo.loop_in h hc h0 he
theorem bke {P:Program} {pol:Pol} {f:FuncId} {b c:Code} {e E:Env} {H H':Heap} {K:List Nat} {i:Nat} (h:RunsTo P pol f b e H (.exit i) K E H') (hc:c=.block i b:=by kernel_rfl):RunsTo P pol f c e H .normal K E H':=RunsTo.block_exit h hc
theorem lop {P:Program} {pol:Pol} {f:FuncId} {b c:Code} {e E0 E1 E:Env} {H H1 H2 H':Heap} {x:X} {K K1:List Nat} (h1:RunsTo P pol f b e H .normal K1 E0 H1) (hg:gc H.length (bndE E1) H1=H2) (h2:RunsTo P pol f c E1 H2 x K E H') (hE:lrestr pol f b E0=E1:=by kernel_rfl) (hK:K1=pol.keys f:=by rfl) (hc:c=.loop b:=by kernel_rfl) (he:lrestr pol f b e=e:=by kernel_rfl):RunsTo P pol f c e H x K E H':=RunsTo.loop h1 hE hg h2 hK hc he
end Go.HL
section
open Go Go.HL
namespace Go.Proofs.Ytaibmipamkaljaa
abbrev RT (pol:Pol) (f:FuncId) (c:Code) (e:Env) (H:Heap) (x:X) (E:Env) (H':Heap):Prop:=RunsTo Try.prog pol f c e H x (pol.keys f) E H'
end Go.Proofs.Ytaibmipamkaljaa
end
section
open Go Go.HL
namespace Go.Proofs.Ytaibmipamkaljaa
open Go.Proofs.Try renaming prog → Tp
open Go.HL.HV renaming undef → Ud
def keysT:List (List Nat):=[[],[],[],[0,1,4,5,6,7],[0,1,2,6,7,8,9,10],[0,1,4,5,6,7,8,9,10,11,12,13,14,16],[0,1,4,5,6,7,8,9,10,11,12,13,14,15,16],[0,1,2,6,7,8,9,10,11,12,13,14,15,16],[0,1,2,3,8,9,10,11,12,13,14,15,16,17,18,19,20,21,22,23],[0,1,2,6,7,8,9,10,11,12,13,14,15,16,17],[0,1,4,5,6,7,8,10,11,12,13,14,15,16,17,18],[0,1,2,6,7,8,9,10,11,12,13,14,15,16,17,19],[0,1,2,6,7,8,10,11,12,14,15,16,17,19,21],[0,1,4,5,6,7,8,9,11,12,13,14,15,16,17,18,19,20,21,22],[0,2,3],[0,1,4,5,6,7,9,24,25,26],[0,1,2,3,4,5,6,7,8,9,10],[0,1,4,5],[0,1,4,5,6,7,8,9,10,11,12,13,14],[0,1,2,6,7,8,10,12,33,34,35,39,40,41],[0,2,3],[0,1,4,5,6],[0,1,2,6,7,8,9,10,11],[0,2,3,4],[0,1,2,6,7,8,9,10],[0,2,3,4,5],[0,1,4,5,6,7,8],[0,1,2,6,7,8,9,10],[0,2],[0,1,4,5,6,7,8,9,10,36],[0,1,4],[0,1,4],[0,1,4,5,6,7],[0,2,3,4,5],[0,1,2,6,7,8,9,10,11,12],[0,2,3,4],[0,1,4,5],[0,1,2,3,8,9,10,11,12,13,14,15,16,17,18,19,20],[0,1,4,5],[0,1,4,5,6,7,8,9,11,12,13,14,15,32,33,34,42,57],[0,2,3,4],[0,1,4],[0,2,3,4,5,6,7,8,17,18,25,26],[0,2],[0,1,4,5,6,7,8],[0,1,4,5],[0,1,4,5,6,7,8,9,10],[0,1,2,6],[0,1,2,3,4,5,6,7,8,9,10],[0,1,2,4,5,6,7,35],[0,1,2,6],[0,2,3],[0,1,4,5,7,9,10,11],[0,2],[0,2,3,4,5],[0,2,3,4,5,6,16,17,18],[0,1,2,4,5,6,8,9,10,11,12,13],[0,1,2,3,4,6,8,9,10,11,12],[0,1,2,4,5,6,7,8,15,16,17],[0,1,2,3,4,5,6],[0,1,2,6,7,8],[0,1,4,5,6],[0,1,2,3,4],[0,1,4],[0,1,4,5,6,7,8,9,10,11],[0,1,2,3,4,5,6,8,9,10],[0,1,2,3,4,5,6],[0,1,2,3,8,9,10,11,12,13,14,15,16,17,18],[0,2],[0,2],[0,1,2,3,4,10,11,12,13,14,15,16,17,18,19,20],[0,1,4,5,6],[0,1,2,6,7],[0,1,2,6,7,8,9,10],[0,1,2,6,7,8,9,10],[0,1,2,6,7,8,9,10,11,12,49],[0,1,2,6,7],[0,1,2,6,7,8,9,10],[0,1,4],[0,1,2,3,8,9,10],[0,1,2,3,8,9,10,11],[0,2],[0,2],[0,1,2,3,8,9],[0,1,2,3,8,9,10,11,12],[0,1,2,8,9,10,11,12],[0,1,2,3,8,9,10,11,12,13,14,55],[0,1,2,8,9],[0,1,2,3,8,9,10,11,12],[0,1,2,3,4,10,11,12],[0,1,2,3,4,10,11,12,13],[0,2],[0,1,2,3,8,9],[0,2],[0,2],[0,1,2,6],[0,1,2,3,4,10],[0,1,2,3,4,10,11],[0,1,2,3,8],[0,1,2,3,4,5,12],[0,1,2,3,8,9],[0,1,2,3,4,10,11],[],[],[],[],[],[],[],[],[],[],[],[],[],[],[],[]]
def resT:List (List Nat):=[[],[],[],[4],[6],[4],[4],[6],[8],[6],[4],[6],[6],[4],[2],[4,5],[0],[4],[4],[6,7],[2],[4],[6],[2],[6],[2,3],[4,5],[6,7],[2],[4,5],[4],[4],[4],[2],[6,7],[2],[4],[8,9],[4],[4,5],[2],[4],[2,3],[2],[4],[4],[4],[6],[8],[4],[6],[2],[4],[],[2],[3],[4,5],[8,9],[5],[],[6],[4],[4],[],[4],[],[],[],[2],[2],[],[4],[],[],[],[6,7],[],[6],[4],[8],[8,9],[2],[2],[],[],[],[8,9],[],[8],[10],[10,11],[2],[],[2],[2],[6],[10],[],[8],[12],[8,9],[10,11],[],[],[],[],[],[],[],[],[],[],[],[],[],[],[],[]]
def sharedT:List Nat:=[53,63,65,67,70,72,73,74,75,76,77,79,80,83,84,85,86,87,88,89,90,92,94,95,96,97,98,99,100,101,110,111,112,113,114,115,116]
def deadT:List (Nat × Nat × List Nat):=[(5,14,[7,8,10,11,12,16]),(6,9,[8,12,13,14,15,16]),(6,13,[8,11,13,14,15,16]),(7,4,[10,11,12,13,14,15,16]),(7,17,[8,9,10,12,13,14]),(8,8,[9,19,20,21,22,23]),(8,15,[9,11,12,14,15,16,17,18,20,22,23]),(8,19,[9,11,12,14,15,16,17,18,20]),(10,9,[8,13,14,15,16,17,18]),(13,9,[16,17,18,19,20,21,22]),(13,14,[9,11,13,15,18,19,20,21,22]),(13,17,[9,11,13,15,19,20,21,22]),(15,6,[9]),(18,4,[8,9,10,11,12,13,14]),(18,8,[10,11,12,13,14]),(18,11,[11,12,13,14]),(18,20,[7,8,9,10,14]),(19,5,[10,12,39,40,41]),(19,8,[12]),(21,2,[6]),(22,3,[9,10,11]),(22,6,[10,11]),(22,11,[8,9]),(24,3,[9,10]),(27,3,[10]),(29,9,[7,36]),(32,3,[7]),(33,3,[5]),(37,4,[13,14,15,16,17,18,19,20]),(37,8,[15,16,17,18,19,20]),(37,21,[12,13,14,18,19,20]),(37,28,[12,13,14,17,20]),(39,9,[7,8,11,12,13,14,15,42,57]),(39,13,[7,8,9,13,14,15,42,57]),(39,21,[7,8,9,11,12,13,15,32,33,34,42,57]),(42,6,[5,7,8,25,26]),(42,9,[5,8]),(44,3,[7,8]),(44,7,[6]),(46,3,[7,8,9,10]),(46,7,[9,10]),(46,13,[6,7,8]),(49,4,[7,35]),(49,8,[7,35]),(52,3,[7]),(54,4,[4,5]),(55,5,[5,6]),(56,3,[8,9,10]),(57,3,[12]),(58,5,[7,8]),(64,2,[5,6,7,8]),(65,4,[10]),(67,2,[10,11,12,13,14,15,16,17,18]),(70,2,[12,13,14,15,16,17,18,19,20]),(72,1,[7]),(73,4,[10]),(73,8,[8,9]),(74,5,[10]),(77,3,[9,10]),(77,5,[9,10]),(77,14,[10]),(77,20,[9]),(83,1,[9]),(84,4,[12]),(84,8,[10,11]),(85,5,[12]),(88,3,[11,12]),(88,5,[11,12]),(88,14,[12]),(88,20,[11]),(92,1,[9]),(97,1,[11])]
def pol:Pol where
  shared g:=sharedT.contains g
  freeze _ _:=true
  freezeS _ _:=false
  blk g d:=!((resT.getD g []).contains d)
  nilf g:=g == 69
  deep _:=false
  prim _:=none
  rows _ _:=false
  keys g:=keysT.getD g []
  quiet f r:=if f == 65 && r == 4 then [10] else []
  dead f r:=((deadT.find? fun p=>p.1 == f && p.2.1 == r).map (·.2.2)).getD []
theorem follows_mixed:Tp.follows .mixedOrders=true:=by kernel_rfl
set_option maxRecDepth 100000 in
theorem fns_ok:(Tp.funcs.toList.zipIdx.all fun p=>fnOk pol p.2 p.1)=true:=by kernel_rfl
theorem sound (n:Nat):CallSound Tp (callN Tp pol n) :=
  callN_ok follows_mixed (fun g fn h=>List.all_eq_true.1 fns_ok (fn,g) (by
      rw [List.mem_zipIdx_iff_getElem?]
      simpa using h)) (fun g F h=>by cases h) n
theorem sound_prim (F:FuncId → Option (List HV → Option HV)) (hF:∀ g f,F g=some f → PrimOk Tp g f) (n:Nat):CallSound Tp (callN Tp { pol with prim:=F } n) :=
  callN_ok follows_mixed (fun g fn h=>by
    rw [fnOk_prim]
    exact List.all_eq_true.1 fns_ok (fn,g) (by
      rw [List.mem_zipIdx_iff_getElem?]
      simpa using h)) hF n
theorem wrapI64 (n:Int):IntKind.i64.wrap n=(n+9223372036854775808) % 18446744073709551616 - 9223372036854775808:=by rw [IntKind.wrap_i64]
end Go.Proofs.Ytaibmipamkaljaa
end
section
open Go Go.HL
namespace Go.Proofs.Ytaibmipamkaljaa
open Go.Proofs.Try renaming prog → Tp
open Go.HL.HV renaming undef → Ud
abbrev bI (l:List Int):Blk:=.arr 1 (l.map encI) true 0
def encR (r:List Int):HV:=.imm .arg 1 (r.map encI)
theorem wrap_succ {j:Nat} (h:j < 4611686018427387904):IntKind.i64.wrap ((j:Int)+1)=((j+1:Nat):Int):=by rw [wrapI64]; omega
theorem wrap_pred {j:Nat} (h0:0 < j) (h:j < 4611686018427387904):IntKind.i64.wrap ((j:Int) - 1)=((j - 1:Nat):Int):=by rw [wrapI64]; omega
theorem wrap_id {n:Int} (h0:-4611686018427387904 ≤ n) (h:n < 4611686018427387904):IntKind.i64.wrap n=n:=by rw [wrapI64]; omega
theorem argP_ints':∀ (l:List Int),argPL (l.map encI)=some (l.map encI)
  | []=>rfl
  | p :: l=>by simp only [List.map_cons,argPL,argP_ints' l,encI,argP]
theorem argP_rows':∀ (R:List (List Int)),argPL (R.map encR)=some (R.map encR)
  | []=>rfl
  | p :: l=>by simp only [List.map_cons,argPL,argP_rows' l,encR,argP,argP_ints']
theorem arg_li (H:Heap) (l:List Int):toArg H 6 (.imm .arg 1 (l.map encI))=some (.imm .arg 1 (l.map encI)):=by
  show argP (.imm .arg 1 (l.map encI))=_
  simp only [argP,argP_ints']
theorem arg_rw (H:Heap) (R:List (List Int)):toArg H 6 (.imm .arg 1 (R.map encR))=some (.imm .arg 1 (R.map encR)):=by
  show argP (.imm .arg 1 (R.map encR))=_
  simp only [argP,argP_rows']
theorem encI_any (l:List Int):(l.map encI).any isOwn=false:=by
  rw [List.any_eq_false]
  intro v hv
  obtain ⟨k,_,rfl⟩:=List.mem_map.1 hv
  simp [encI,isOwn]
theorem recv_ints (l:List Int) (H:Heap):recv (.own 1 (l.map encI)) H=(.sl H.length 0 l.length none l.length 1,H ++ [bI l]):=by
  simp only [recv,recvVal,recvCell,encI_any,List.length_map]
  rfl
theorem ints_bnd:∀ (l:List Int),bndL (l.map encI)=0
  | []=>rfl
  | a :: l=>by simp only [List.map_cons,bndL,ints_bnd l,encI,bnd]; rfl
theorem fnok (F:FuncId → Option (List HV → Option HV)) (g:FuncId) (fn:Func) (h:Tp.funcs[g]?=some fn):fnOk { pol with prim:=F } g fn=true:=by
  rw [fnOk_prim]
  exact List.all_eq_true.1 fns_ok (fn,g) (by
    rw [List.mem_zipIdx_iff_getElem?]
    simpa using h)
theorem gc_eq {H H':Heap} (r:Nat) (h:H'.length=H.length):gc H.length r H'=H':=by
  unfold gc
  rw [List.take_of_length_le (by omega)]
theorem u22:Tp.underlying 22=some (.slice 3):=by kernel_rfl
theorem u74:Tp.underlying 74=some (.slice 4):=by kernel_rfl
theorem z3:tySize Tp 3=some 1:=by kernel_rfl
theorem z4:tySize Tp 4=some 1:=by kernel_rfl
theorem a3:tyAgg Tp 3=false:=by kernel_rfl
theorem i3:(Tp.underlying 3).isSome=true:=by kernel_rfl
theorem a4:tyAgg Tp 4=false:=by kernel_rfl
theorem i4:(Tp.underlying 4).isSome=true:=by kernel_rfl
theorem gx {l:List Int} {y:Nat} (hy:y < l.length):idxV Tp 22 (.imm .arg 1 (l.map encI)) (.int .i64 (y:Int))=some (.vptr (.int .i64 (l.getD y 0))) :=
  idx_imm u22 z3 (by omega) (by rw [Int.toNat_natCast,List.getElem?_map,List.getElem?_eq_getElem hy]; simp [List.getD,List.getElem?_eq_getElem hy,encI])
theorem res_li {H:Heap} {b k:Nat} {o:List Int} (hb:H[b]?=some (bI o)) (hk:o.length=k):toRes H false (.sl b 0 k none k 1)=some (.own 1 (o.map encI)):=by
  have hr:=resCell_sl (H:=H) (no:=[b]) (b:=b) (k:=1) (m:=k) (cap:=none) (els:=o.map encI) hb (by simpa using hk) (mapO_self (fun r=>frz_int 4 r) _)
  have ho:ownedAll H false (.sl b 0 k none k 1)=[b]:=by simp [ownedAll,cellsOf,owned,hb]
  simp only [toRes,ho,List.nodup_cons,List.not_mem_nil,not_false_eq_true,List.nodup_nil,and_self,if_true,resVal,hr]
theorem app_ints {H:Heap} {b:Nat} {o xs:List Int} (hb:H[b]?=some (bI o)) (hlen:o.length+xs.length ≤ 1000) (hx:xs ≠ []) :
    appV H 1 8 (.sl b 0 o.length none o.length 1) (xs.map encI)=some (.sl b 0 (o ++ xs).length none (o ++ xs).length 1,H.set b (bI (o ++ xs))):=by
  have:=app_sl (H:=H) (k:=1) (bytes:=8) (b:=b) (n:=o.length) (mx:=0) (els:=o.map encI) (xs:=xs.map encI) hb (by simp) (by simpa using hx) (by rw [List.length_map]; simp only [roomMax]; omega) (ints_bnd xs)
  rw [this]
  simp [bI]
theorem arg_sl {H:Heap} {l:List Int} {b m:Nat} (hm:l.length=m) (hb:H[b]?=some (bI l)):toArg H 6 (.sl b 0 m none m 1)=some (.imm .arg 1 (l.map encI)):=by
  subst hm
  have e:toArg H 6 (.sl b 0 l.length none l.length 1)=if l.length=0 then some (.imm .arg 1 []) else match view H b 0 l.length l.length 1 with | some l=>(match mapO (toArg H 5) l with | some l=>some (.imm .arg 1 l) | none=>none) | none=>none:=rfl
  rw [e]
  split
  · rename_i h0
    rw [List.length_eq_zero_iff.1 h0]; rfl
  · have hv:view H b 0 l.length l.length 1=some (l.map encI):=by
      simp only [view,hb,List.length_map]
      rw [if_pos ⟨trivial,by omega,trivial⟩]
      simp [List.take_of_length_le]
    have hm:mapO (toArg H 5) (l.map encI)=some (l.map encI):=mapO_self (f:=toArg H 5) (g:=encI) (fun _=>rfl) l
    rw [hv]
    simp only [hm]
end Go.Proofs.Ytaibmipamkaljaa
end
section
open Go Go.HL
namespace Go.Proofs.Ytaibmipamkaljaa
set_option maxRecDepth 100000
open Go.Proofs.Try renaming prog → Tp
open Go.HL.HV renaming undef → Ud
noncomputable def B47:Code:=Try.f47.body.getD .skip
abbrev env47 (v0 v1 v2 v6:HV):Env:=[(0,v0),(1,v1),(2,v2),(6,v6)]
theorem w47_0 (n lo hi:Int)(g0:lo ≤ n) (g1:n ≤ hi):RT pol 47 (sub [] B47) [(0,.i n),(1,.i lo),(2,.i hi)] [] .ret (env47 (.i n) (.i lo) (.i hi) (.bool true)) [] :=
  RunsTo.hin 0 60 [⟨1,2,.bool true,[]⟩,⟨1,6,.bool true,[]⟩] fun kf hk=>⟨_,by kernel_rfl,(oB [] (decide_eq_true g0) (oB [] (decide_eq_true g1) .nil))⟩
theorem w47_1 (n lo hi:Int)(g0:lo ≤ n) (g1:¬ (n ≤ hi)):RT pol 47 (sub [] B47) [(0,.i n),(1,.i lo),(2,.i hi)] [] .ret (env47 (.i n) (.i lo) (.i hi) (.bool false)) [] :=
  RunsTo.hin 0 60 [⟨1,2,.bool true,[]⟩,⟨1,6,.bool false,[]⟩] fun kf hk=>⟨_,by kernel_rfl,(oB [] (decide_eq_true g0) (oB [] (decide_eq_false g1) .nil))⟩
theorem w47_2 (n lo hi:Int)(g0:¬ (lo ≤ n)):RT pol 47 (sub [] B47) [(0,.i n),(1,.i lo),(2,.i hi)] [] .ret (env47 (.i n) (.i lo) (.i hi) (.bool false)) [] :=
  RunsTo.hin 0 60 [⟨1,2,.bool false,[]⟩] fun kf hk=>⟨_,by kernel_rfl,(oB [] (decide_eq_false g0) .nil)⟩
noncomputable def B14:Code:=Try.f14.body.getD .skip
abbrev env14 (v0 v2 v3:HV):Env:=[(0,v0),(2,v2),(3,v3)]
theorem li_0 (la:List HV) (m:Nat)(g0:sliceV Tp 22 (.imm .arg 1 la) none (some (.i (min (la.length:Int) 110))) none=some (.imm .arg 1 (la.take m))) (g1:appV [.arr 1 [] true 0] 1 8 (.sl 0 0 0 none 0 1) (la.take m)=some (.sl 0 0 ((la.take m).length) none ((la.take m).length) 1,[.arr 1 (la.take m) true 0])):RT pol 14 (sub [] B14) [(0,.imm .arg 1 la)] [] .ret (env14 (.imm .arg 1 la) (.sl 0 0 ((la.take m).length) none ((la.take m).length) 1) (.sl 0 0 0 none 0 1)) [.arr 1 (la.take m) true 0] :=
  RunsTo.hin 0 60 [⟨2,5,.imm .arg 1 (la.take m),[.arr 1 [] true 0]⟩,⟨2,6,.sl 0 0 ((la.take m).length) none ((la.take m).length) 1,[.arr 1 (la.take m) true 0]⟩] fun kf hk=>⟨_,by kernel_rfl,(oP [.arr 1 [] true 0] g0 (oC (g1) .nil))⟩
noncomputable def B17:Code:=Try.f17.body.getD .skip
abbrev env17 (v0 v1 v4 v5:HV):Env:=[(0,v0),(1,v1),(4,v4),(5,v5)]
theorem r17_a_0 (la lb:List HV):RT pol 17 (sub [0] B17) [(0,.imm .arg 1 la),(1,.imm .arg 1 lb)] [] .normal (env17 (.imm .arg 1 la) (.imm .arg 1 lb) (.bool false) Ud) [] :=
  RunsTo.hin 0 60 [] fun kf hk=>⟨_,by kernel_rfl,.nil⟩
theorem r17_b_0 (la lb:List HV)(g0:(la.length:Int)=(lb.length:Int)):RT pol 17 (sub [1,0] B17) (env17 (.imm .arg 1 la) (.imm .arg 1 lb) (.bool false) Ud) [] .normal (env17 (.imm .arg 1 la) (.imm .arg 1 lb) (.bool false) Ud) [] :=
  RunsTo.hin 0 60 [⟨1,4,.bool false,[]⟩] fun kf hk=>⟨_,by kernel_rfl,(oB [] (congrArg not (decide_eq_true g0)) .nil)⟩
theorem r17_b_1 (la lb:List HV)(g0:¬ ((la.length:Int)=(lb.length:Int))):RT pol 17 (sub [1,0] B17) (env17 (.imm .arg 1 la) (.imm .arg 1 lb) (.bool false) Ud) [] .ret (env17 (.imm .arg 1 la) (.imm .arg 1 lb) (.bool false) Ud) [] :=
  RunsTo.hin 0 60 [⟨1,4,.bool true,[]⟩] fun kf hk=>⟨_,by kernel_rfl,(oB [] (congrArg not (decide_eq_false g0)) .nil)⟩
theorem r17_c_0 (la lb:List HV):RT pol 17 (sub [1,1,0,0] B17) (env17 (.imm .arg 1 la) (.imm .arg 1 lb) (.bool false) Ud) [] .normal (env17 (.imm .arg 1 la) (.imm .arg 1 lb) (.bool false) (.i 0)) [] :=
  RunsTo.hin 0 60 [] fun kf hk=>⟨_,by kernel_rfl,.nil⟩
theorem r17_l_0 (la lb:List HV) (j:Nat) (x0:Int) (x1:Int) (g0:(j:Int) < (la.length:Int)) (g1:idxV Tp 22 (.imm .arg 1 la) (.i (j:Int))=some (.vptr (.i x0))) (g2:idxV Tp 22 (.imm .arg 1 lb) (.i (j:Int))=some (.vptr (.i x1))) (g3:x0=x1):RT pol 17 (sub [1,1,0,1,0,0] B17) (env17 (.imm .arg 1 la) (.imm .arg 1 lb) (.bool false) (.i (j:Int))) [] .normal (env17 (.imm .arg 1 la) (.imm .arg 1 lb) (.bool false) (.i (IntKind.i64.wrap ((j:Int)+1)))) [] :=
  RunsTo.hin 0 60 [⟨4,3,.bool true,[]⟩,⟨6,2,.vptr (.i x0),[]⟩,⟨6,6,.vptr (.i x1),[]⟩,⟨6,8,.bool false,[]⟩] fun kf hk=>⟨_,by kernel_rfl,(oB [] (decide_eq_true g0) (oP [] g1 (oP [] g2 (oB [] (congrArg not (decide_eq_true g3)) .nil))))⟩
theorem r17_l_1 (la lb:List HV) (j:Nat) (x0:Int) (x1:Int) (g0:(j:Int) < (la.length:Int)) (g1:idxV Tp 22 (.imm .arg 1 la) (.i (j:Int))=some (.vptr (.i x0))) (g2:idxV Tp 22 (.imm .arg 1 lb) (.i (j:Int))=some (.vptr (.i x1))) (g3:¬ (x0=x1)):RT pol 17 (sub [1,1,0,1,0,0] B17) (env17 (.imm .arg 1 la) (.imm .arg 1 lb) (.bool false) (.i (j:Int))) [] .ret (env17 (.imm .arg 1 la) (.imm .arg 1 lb) (.bool false) (.i (j:Int))) [] :=
  RunsTo.hin 0 60 [⟨4,3,.bool true,[]⟩,⟨6,2,.vptr (.i x0),[]⟩,⟨6,6,.vptr (.i x1),[]⟩,⟨6,8,.bool true,[]⟩] fun kf hk=>⟨_,by kernel_rfl,(oB [] (decide_eq_true g0) (oP [] g1 (oP [] g2 (oB [] (congrArg not (decide_eq_false g3)) .nil))))⟩
theorem r17_l_2 (la lb:List HV) (j:Nat)(g0:¬ ((j:Int) < (la.length:Int))):RT pol 17 (sub [1,1,0,1,0,0] B17) (env17 (.imm .arg 1 la) (.imm .arg 1 lb) (.bool false) (.i (j:Int))) [] (.exit 0) (env17 (.imm .arg 1 la) (.imm .arg 1 lb) (.bool false) (.i (j:Int))) [] :=
  RunsTo.hin 0 60 [⟨4,3,.bool false,[]⟩] fun kf hk=>⟨_,by kernel_rfl,(oB [] (decide_eq_false g0) .nil)⟩
theorem r17_z_0 (la lb:List HV) (j:Nat):RT pol 17 (sub [1,1,1] B17) (env17 (.imm .arg 1 la) (.imm .arg 1 lb) (.bool false) (.i (j:Int))) [] .ret (env17 (.imm .arg 1 la) (.imm .arg 1 lb) (.bool true) (.i (j:Int))) [] :=
  RunsTo.hin 0 60 [] fun kf hk=>⟨_,by kernel_rfl,.nil⟩
noncomputable def B59:Code:=Try.f59.body.getD .skip
abbrev env59 (v0 v1 v2 v3 v4 v5 v6:HV):Env:=[(0,v0),(1,v1),(2,v2),(3,v3),(4,v4),(5,v5),(6,v6)]
theorem ad_0 (m0 m1 sz x0 x1 y0 y1:Int)(g0:binV Tp .rem 3 (.i (IntKind.i64.wrap (x0+y0))) (.i m0)=some (.i ((IntKind.i64.wrap (x0+y0):Int).tmod m0))) (g1:binV Tp .rem 3 (.i (IntKind.i64.wrap (x1+y1))) (.i m1)=some (.i ((IntKind.i64.wrap (x1+y1):Int).tmod m1))):RT pol 59 (sub [] B59) [(0,.agg [.i m0,.i m1,.i sz]),(1,.agg [.i x0,.i x1]),(2,.agg [.i y0,.i y1])] [] .ret (env59 (.agg [.i m0,.i m1,.i sz]) (.agg [.i x0,.i x1]) (.agg [.i y0,.i y1]) (.ptr 0 0 0 1) (.ptr 1 0 0 1) (.ptr 2 0 0 1) (.ptr 3 0 0 1)) [.arr 3 [.agg [.i m0,.i m1,.i sz]] true 0,.arr 2 [.agg [.i x0,.i x1]] true 0,.arr 2 [.agg [.i y0,.i y1]] true 0,.arr 2 [.agg [.i ((IntKind.i64.wrap (x0+y0):Int).tmod m0),.i ((IntKind.i64.wrap (x1+y1):Int).tmod m1)]] true 0] :=
  RunsTo.hin 0 60 [⟨1,8,.i ((IntKind.i64.wrap (x0+y0):Int).tmod m0),[.arr 3 [.agg [.i m0,.i m1,.i sz]] true 0,.arr 2 [.agg [.i x0,.i x1]] true 0,.arr 2 [.agg [.i y0,.i y1]] true 0,.arr 2 [.agg [.i 0,.i 0]] true 0]⟩,⟨1,17,.i ((IntKind.i64.wrap (x1+y1):Int).tmod m1),[.arr 3 [.agg [.i m0,.i m1,.i sz]] true 0,.arr 2 [.agg [.i x0,.i x1]] true 0,.arr 2 [.agg [.i y0,.i y1]] true 0,.arr 2 [.agg [.i 0,.i 0]] true 0]⟩] fun kf hk=>⟨_,by kernel_rfl,(oP [.arr 3 [.agg [.i m0,.i m1,.i sz]] true 0,.arr 2 [.agg [.i x0,.i x1]] true 0,.arr 2 [.agg [.i y0,.i y1]] true 0,.arr 2 [.agg [.i 0,.i 0]] true 0] g0 (oP [.arr 3 [.agg [.i m0,.i m1,.i sz]] true 0,.arr 2 [.agg [.i x0,.i x1]] true 0,.arr 2 [.agg [.i y0,.i y1]] true 0,.arr 2 [.agg [.i 0,.i 0]] true 0] g1 .nil))⟩
noncomputable def B66:Code:=Try.f66.body.getD .skip
abbrev env66 (v0 v1 v2 v3 v4 v5 v6:HV):Env:=[(0,v0),(1,v1),(2,v2),(3,v3),(4,v4),(5,v5),(6,v6)]
theorem mi_0 (m0 m1 sz x0 x1 y0 y1:Int)(g0:binV Tp .rem 3 (.i (IntKind.i64.wrap (IntKind.i64.wrap (x0 - y0)+m0))) (.i m0)=some (.i ((IntKind.i64.wrap (IntKind.i64.wrap (x0 - y0)+m0):Int).tmod m0))) (g1:binV Tp .rem 3 (.i (IntKind.i64.wrap (IntKind.i64.wrap (x1 - y1)+m1))) (.i m1)=some (.i ((IntKind.i64.wrap (IntKind.i64.wrap (x1 - y1)+m1):Int).tmod m1))):RT pol 66 (sub [] B66) [(0,.agg [.i m0,.i m1,.i sz]),(1,.agg [.i x0,.i x1]),(2,.agg [.i y0,.i y1])] [] .ret (env66 (.agg [.i m0,.i m1,.i sz]) (.agg [.i x0,.i x1]) (.agg [.i y0,.i y1]) (.ptr 0 0 0 1) (.ptr 1 0 0 1) (.ptr 2 0 0 1) (.ptr 3 0 0 1)) [.arr 3 [.agg [.i m0,.i m1,.i sz]] true 0,.arr 2 [.agg [.i x0,.i x1]] true 0,.arr 2 [.agg [.i y0,.i y1]] true 0,.arr 2 [.agg [.i ((IntKind.i64.wrap (IntKind.i64.wrap (x0 - y0)+m0):Int).tmod m0),.i ((IntKind.i64.wrap (IntKind.i64.wrap (x1 - y1)+m1):Int).tmod m1)]] true 0] :=
  RunsTo.hin 0 60 [⟨1,12,.i ((IntKind.i64.wrap (IntKind.i64.wrap (x0 - y0)+m0):Int).tmod m0),[.arr 3 [.agg [.i m0,.i m1,.i sz]] true 0,.arr 2 [.agg [.i x0,.i x1]] true 0,.arr 2 [.agg [.i y0,.i y1]] true 0,.arr 2 [.agg [.i 0,.i 0]] true 0]⟩,⟨1,25,.i ((IntKind.i64.wrap (IntKind.i64.wrap (x1 - y1)+m1):Int).tmod m1),[.arr 3 [.agg [.i m0,.i m1,.i sz]] true 0,.arr 2 [.agg [.i x0,.i x1]] true 0,.arr 2 [.agg [.i y0,.i y1]] true 0,.arr 2 [.agg [.i 0,.i 0]] true 0]⟩] fun kf hk=>⟨_,by kernel_rfl,(oP [.arr 3 [.agg [.i m0,.i m1,.i sz]] true 0,.arr 2 [.agg [.i x0,.i x1]] true 0,.arr 2 [.agg [.i y0,.i y1]] true 0,.arr 2 [.agg [.i 0,.i 0]] true 0] g0 (oP [.arr 3 [.agg [.i m0,.i m1,.i sz]] true 0,.arr 2 [.agg [.i x0,.i x1]] true 0,.arr 2 [.agg [.i y0,.i y1]] true 0,.arr 2 [.agg [.i 0,.i 0]] true 0] g1 .nil))⟩
end Go.Proofs.Ytaibmipamkaljaa
end
section
open Go Go.HL
namespace Go.Proofs.Ytaibmipamkaljaa
def awakeF:List HV → Option HV | []=>some (.bool true) | _=>none
def withinF:List HV → Option HV
  | [.int .i64 n,.int .i64 lo,.int .i64 hi]=>some (.bool (decide (lo ≤ n∧n ≤ hi)))
  | _=>none
def liF (f:List Int → Option HV):List HV → Option HV
  | [.imm .arg 1 la]=>(match mapO decI la with | some l=>f l | none=>none)
  | _=>none
def llF (f:List Int → List Int → Option HV):List HV → Option HV
  | [.imm .arg 1 la,.imm .arg 1 lb]=>(match mapO decI la,mapO decI lb with | some a,some b=>f a b | _,_=>none)
  | _=>none
def list14:List HV → Option HV:=liF fun l=>some (.own 1 ((l.take 110).map encI))
def ints17:List HV → Option HV:=llF fun a b=>if a.length ≤ 1000 then some (.bool (decide (a=b))) else none
abbrev El:=Int × Int
abbrev Gr:=Int × Int × Int
def encX (x:El):HV:=.agg [.int .i64 x.1,.int .i64 x.2]
def encG (g:Gr):HV:=.agg [.int .i64 g.1,.int .i64 g.2.1,.int .i64 g.2.2]
def decX:HV → Option El | .agg [.int .i64 a,.int .i64 b]=>some (a,b) | _=>none
def decG:HV → Option Gr | .agg [.int .i64 a,.int .i64 b,.int .i64 c]=>some (a,b,c) | _=>none
theorem decX_enc (x:El):decX (encX x)=some x:=rfl
theorem decG_enc (x:Gr):decG (encG x)=some x:=rfl
theorem decX_inv (b:HV) (a:El) (h:decX b=some a):b=encX a:=by
  unfold decX at h
  split at h
  · cases h; rfl
  · cases h
theorem decG_inv (b:HV) (a:Gr) (h:decG b=some a):b=encG a:=by
  unfold decG at h
  split at h
  · cases h; rfl
  · cases h
def grOk (g:Gr):Prop:=(1 ≤ g.1∧g.1 ≤ 1000)∧1 ≤ g.2.1∧g.2.1 ≤ 1000
def elOk (g:Gr) (x:El):Prop:=(0 ≤ x.1∧x.1 < g.1)∧0 ≤ x.2∧x.2 < g.2.1
instance (g:Gr):Decidable (grOk g):=inferInstanceAs (Decidable (_∧_))
instance (g:Gr) (x:El):Decidable (elOk g x):=inferInstanceAs (Decidable (_∧_))
def addT (g:Gr) (x y:El):El:=((x.1+y.1) % g.1,(x.2+y.2) % g.2.1)
def subT (g:Gr) (x y:El):El:=((x.1 - y.1+g.1) % g.1,(x.2 - y.2+g.2.1) % g.2.1)
theorem addT_ok {g:Gr} {x y:El} (hg:grOk g):elOk g (addT g x y):=by
  obtain ⟨⟨a,b⟩,c,d⟩:=hg
  exact ⟨⟨Int.emod_nonneg _ (by omega),Int.emod_lt_of_pos _ (by omega)⟩,Int.emod_nonneg _ (by omega),Int.emod_lt_of_pos _ (by omega)⟩
def gxxF (f:Gr → El → El → HV):List HV → Option HV
  | [a,b,c]=>(match decG a,decX b,decX c with | some g,some x,some y=>if grOk g∧elOk g x∧elOk g y then some (f g x y) else none | _,_,_=>none)
  | _=>none
def add59:List HV → Option HV:=gxxF fun g x y=>encX (addT g x y)
def minus66:List HV → Option HV:=gxxF fun g x y=>encX (subT g x y)
end Go.Proofs.Ytaibmipamkaljaa
end
section
open Go Go.HL
namespace Go.Proofs.Ytaibmipamkaljaa
open Go.Proofs.Try renaming prog → Tp
open Go.HL.HV renaming undef → Ud
theorem within_ok:PrimOk Tp 47 withinF:=by
  refine primOk_pure (pol:=pol) (fn:=Try.f47) (cd:=B47) follows_mixed sound (by kernel_rfl) (by kernel_rfl) (fnok pol.prim _ _ (by kernel_rfl)) (by kernel_rfl) ?_
  intro args res h
  unfold withinF at h
  split at h
  · rename_i n lo hi
    cases h
    have hr:Try.f47.results.toList=[.tmp 6]:=by kernel_rfl
    by_cases g0:lo ≤ n
    · by_cases g1:n ≤ hi
      · exact ⟨_,_,_,_,w47_0 n lo hi g0 g1,by simp,by simp only [resultsV,hr]; rfl,by rw [decide_eq_true ⟨g0,g1⟩]; rfl⟩
      · exact ⟨_,_,_,_,w47_1 n lo hi g0 g1,by simp,by simp only [resultsV,hr]; rfl,by rw [decide_eq_false (fun h=>g1 h.2)]; rfl⟩
    · exact ⟨_,_,_,_,w47_2 n lo hi g0,by simp,by simp only [resultsV,hr]; rfl,by rw [decide_eq_false (fun h=>g0 h.1)]; rfl⟩
  · cases h
theorem liF_inv {f:List Int → Option HV} {args:List HV} {res:HV} (h:liF f args=some res):∃ l,args=[.imm .arg 1 (l.map encI)]∧f l=some res:=by
  unfold liF at h
  split at h
  · rename_i la
    split at h
    · rename_i l hl
      exact ⟨l,by rw [mapO_inv decI_inv hl],h⟩
    · cases h
  · cases h
theorem llF_inv {f:List Int → List Int → Option HV} {args:List HV} {res:HV} (h:llF f args=some res):∃ R l,args=[.imm .arg 1 (R.map encI),.imm .arg 1 (l.map encI)]∧f R l=some res:=by
  unfold llF at h
  split at h
  · rename_i la
    split at h
    · rename_i R l hR hl
      exact ⟨R,l,by rw [mapO_inv decI_inv hR,mapO_inv decI_inv hl],h⟩
    · cases h
  · cases h
theorem slice_imm {w:Nat} {l:List HV} (hw:w ≤ l.length):sliceV Tp 22 (.imm .arg 1 l) none (some (.int .i64 (w:Int))) none=some (.imm .arg 1 (l.take w)):=by
  simp only [sliceV,boundV,u22,z3]
  rw [if_pos (by omega:(0:Int) ≤ (w:Int))]
  simp [hw]
theorem take_min {α:Type} (l:List α) (k:Nat):l.take (min l.length k)=l.take k:=by
  rw [List.take_eq_take_iff]; omega
theorem res14:Try.f14.results.toList=[.tmp 2]:=by kernel_rfl
theorem list_ok:PrimOk Tp 14 list14:=by
  refine primOk_pure (pol:=pol) (fn:=Try.f14) (cd:=B14) follows_mixed sound (by kernel_rfl) (by kernel_rfl) (fnok pol.prim _ _ (by kernel_rfl)) (by kernel_rfl) ?_
  intro args res h
  obtain ⟨l,rfl,hq⟩:=liF_inv h
  clear h
  have h:=hq
  clear hq
  cases h
  have hmin:min ((l.map encI).length:Int) 110=((min l.length 110:Nat):Int):=by rw [List.length_map]; omega
  have hw:(l.map encI).take (min l.length 110)=(l.take 110).map encI:=by rw [← List.map_take,take_min]
  have s1:=li_0 (l.map encI) (min l.length 110) (by rw [hmin]; exact slice_imm (by rw [List.length_map]; omega)) (by
    rw [hw]
    by_cases h0:l.take 110=[]
    · rw [h0]; rfl
    · have hlen:(l.take 110).length ≤ 110:=by rw [List.length_take]; omega
      have:=app_ints (H:=[bI []]) (b:=0) (o:=[]) (xs:=l.take 110) rfl (by simp; omega) h0
      rw [List.nil_append] at this
      simpa [bI] using this)
  rw [hw] at s1
  refine ⟨_,_,_,.sl 0 0 ((l.take 110).map encI).length none ((l.take 110).map encI).length 1,s1,by simp,by simp only [resultsV,res14]; rfl,?_⟩
  exact res_li (b:=0) rfl (by simp)
theorem res17:Try.f17.results.toList=[.tmp 4]:=by kernel_rfl
abbrev iE (la lb:List HV) (j:Nat):Env:=env17 (.imm .arg 1 la) (.imm .arg 1 lb) (.bool false) (.int .i64 (j:Int))
theorem getD_at {o:List Int} {y:Nat} (h:y < o.length):o.getD y 0=o[y]:=by simp [List.getD,List.getElem?_eq_getElem h]
theorem ints_loop (a b:List Int) (hl:a.length=b.length) (hl2:a.length ≤ 1000):∀ (d j:Nat),j+d=a.length →
    ∃ x E,RT pol 17 (sub [1,1,0,1,0] B17) (iE (a.map encI) (b.map encI) j) [] x E [] ∧
      ((a.drop j=b.drop j∧x=.exit 0∧E=iE (a.map encI) (b.map encI) a.length) ∨ (a.drop j ≠ b.drop j∧x=.ret∧E.get 4=.bool false)):=by
  intro d
  induction d with
  | zero =>
    intro j hj
    have hj:j=a.length:=by omega
    subst hj
    exact ⟨_,_,lpo (r17_l_2 (a.map encI) (b.map encI) a.length (by simp)),.inl ⟨by rw [List.drop_length,hl,List.drop_length],rfl,rfl⟩⟩
  | succ d ih =>
    intro j hj
    have hja:j < a.length:=by omega
    have hjb:j < b.length:=by omega
    rw [List.drop_eq_getElem_cons hja,List.drop_eq_getElem_cons hjb]
    have g1:=gx hja
    have g2:=gx hjb
    rw [getD_at hja] at g1
    rw [getD_at hjb] at g2
    by_cases he:a[j]=b[j]
    · obtain ⟨x,E,h1,h2⟩:=ih (j+1) (by omega)
      have s1:=r17_l_0 (a.map encI) (b.map encI) j _ _ (by simp; omega) g1 g2 he
      rw [wrap_succ (by omega)] at s1
      refine ⟨x,E,lop s1 rfl h1,?_⟩
      rw [he]
      simpa only [List.cons.injEq,true_and,ne_eq] using h2
    · have s1:=r17_l_1 (a.map encI) (b.map encI) j _ _ (by simp; omega) g1 g2 he
      exact ⟨_,_,lpo s1,.inr ⟨fun h=>he (List.cons.inj h).1,rfl,rfl⟩⟩
theorem ints_ok:PrimOk Tp 17 ints17:=by
  refine primOk_pure (pol:=pol) (fn:=Try.f17) (cd:=B17) follows_mixed sound (by kernel_rfl) (by kernel_rfl) (fnok pol.prim _ _ (by kernel_rfl)) (by kernel_rfl) ?_
  intro args res h
  obtain ⟨a,b,rfl,hq⟩:=llF_inv h
  clear h
  have h:=hq
  clear hq
  split at h
  · rename_i hlen
    cases h
    have a1:=r17_a_0 (a.map encI) (b.map encI)
    by_cases hl:a.length=b.length
    · have b1:=r17_b_0 (a.map encI) (b.map encI) (by simp [hl])
      have c1:=r17_c_0 (a.map encI) (b.map encI)
      obtain ⟨x,E,h1,h2⟩:=ints_loop a b hl hlen a.length 0 (by omega)
      rw [List.drop_zero,List.drop_zero] at h2
      rcases h2 with ⟨k1,rfl,rfl⟩ | ⟨k1,rfl,k2⟩
      · have t1:=sq c1 (bke (c:=sub [1,1,0,1] B17) h1) (c:=sub [1,1,0] B17)
        have t2:=sq t1 (r17_z_0 (a.map encI) (b.map encI) a.length) (c:=sub [1,1] B17)
        have t3:=sq b1 t2 (c:=sub [1] B17)
        have t4:=sq a1 t3 (c:=B17)
        exact ⟨_,_,_,.bool (decide (a=b)),t4,by simp,by rw [decide_eq_true k1]; simp only [resultsV,res17]; rfl,rfl⟩
      · have t1:=sq c1 (RunsTo.block_ret (c:=sub [1,1,0,1] B17) (i:=0) h1 (by kernel_rfl)) (c:=sub [1,1,0] B17)
        have t2:=sqo t1 (c:=sub [1,1] B17) (b:=sub [1,1,1] B17)
        have t3:=sq b1 t2 (c:=sub [1] B17)
        have t4:=sq a1 t3 (c:=B17)
        exact ⟨_,_,_,.bool (decide (a=b)),t4,by simp,by rw [decide_eq_false k1]; simp only [resultsV,res17,mapO,resultV,k2],rfl⟩
    · have b1:=r17_b_1 (a.map encI) (b.map encI) (by simp; omega)
      have t3:=sqo b1 (c:=sub [1] B17) (b:=sub [1,1] B17)
      have t4:=sq a1 t3 (c:=B17)
      exact ⟨_,_,_,.bool (decide (a=b)),t4,by simp,by rw [decide_eq_false (fun h=>hl (by rw [h]))]; simp only [resultsV,res17]; rfl,rfl⟩
  · cases h
theorem gxxF_inv {f:Gr → El → El → HV} {args:List HV} {res:HV} (h:gxxF f args=some res):∃ g x y,args=[encG g,encX x,encX y]∧grOk g∧elOk g x∧elOk g y∧res=f g x y:=by
  unfold gxxF at h
  split at h
  · rename_i a b c
    split at h
    · rename_i g x y ha hb hc
      split at h
      · rename_i hk
        cases h
        exact ⟨g,x,y,by rw [decG_inv _ _ ha,decX_inv _ _ hb,decX_inv _ _ hc],hk.1,hk.2.1,hk.2.2,rfl⟩
      · cases h
    · cases h
  · cases h
theorem rem3 {a b:Int} (hb:b ≠ 0):binV Tp .rem 3 (.int .i64 a) (.int .i64 b)=some (.int .i64 (a.tmod b)):=by
  simp only [binV,intBin,if_neg hb,if_true]
theorem add_ok:PrimOk Tp 59 add59:=by
  refine primOk_pure (pol:=pol) (fn:=Try.f59) (cd:=B59) follows_mixed sound (by kernel_rfl) (by kernel_rfl) (fnok pol.prim _ _ (by kernel_rfl)) (by kernel_rfl) ?_
  intro args res h
  obtain ⟨⟨m0,m1,sz⟩,⟨x0,x1⟩,⟨y0,y1⟩,rfl,hg,hx,hy,rfl⟩:=gxxF_inv h
  obtain ⟨⟨g1,g2⟩,g3,g4⟩:=hg
  obtain ⟨⟨a1,a2⟩,a3,a4⟩:=hx
  obtain ⟨⟨b1,b2⟩,b3,b4⟩:=hy
  simp only at g1 g2 g3 g4 a1 a2 a3 a4 b1 b2 b3 b4
  have w0:IntKind.i64.wrap (x0+y0)=x0+y0:=wrap_id (by omega) (by omega)
  have w1:IntKind.i64.wrap (x1+y1)=x1+y1:=wrap_id (by omega) (by omega)
  have s:=ad_0 m0 m1 sz x0 x1 y0 y1 (rem3 (by omega)) (rem3 (by omega))
  rw [w0,w1,Int.tmod_eq_emod_of_nonneg (by omega),Int.tmod_eq_emod_of_nonneg (by omega)] at s
  exact ⟨_,_,_,encX (addT (m0,m1,sz) (x0,x1) (y0,y1)),s,by simp,by kernel_rfl,by kernel_rfl⟩
theorem minus_ok:PrimOk Tp 66 minus66:=by
  refine primOk_pure (pol:=pol) (fn:=Try.f66) (cd:=B66) follows_mixed sound (by kernel_rfl) (by kernel_rfl) (fnok pol.prim _ _ (by kernel_rfl)) (by kernel_rfl) ?_
  intro args res h
  obtain ⟨⟨m0,m1,sz⟩,⟨x0,x1⟩,⟨y0,y1⟩,rfl,hg,hx,hy,rfl⟩:=gxxF_inv h
  obtain ⟨⟨g1,g2⟩,g3,g4⟩:=hg
  obtain ⟨⟨a1,a2⟩,a3,a4⟩:=hx
  obtain ⟨⟨b1,b2⟩,b3,b4⟩:=hy
  simp only at g1 g2 g3 g4 a1 a2 a3 a4 b1 b2 b3 b4
  have v0:IntKind.i64.wrap (x0 - y0)=x0 - y0:=wrap_id (by omega) (by omega)
  have v1:IntKind.i64.wrap (x1 - y1)=x1 - y1:=wrap_id (by omega) (by omega)
  have w0:IntKind.i64.wrap (x0 - y0+m0)=x0 - y0+m0:=wrap_id (by omega) (by omega)
  have w1:IntKind.i64.wrap (x1 - y1+m1)=x1 - y1+m1:=wrap_id (by omega) (by omega)
  have s:=mi_0 m0 m1 sz x0 x1 y0 y1 (rem3 (by omega)) (rem3 (by omega))
  rw [v0,v1,w0,w1,Int.tmod_eq_emod_of_nonneg (by omega),Int.tmod_eq_emod_of_nonneg (by omega)] at s
  exact ⟨_,_,_,encX (subT (m0,m1,sz) (x0,x1) (y0,y1)),s,by simp,by kernel_rfl,by kernel_rfl⟩
end Go.Proofs.Ytaibmipamkaljaa
end
section
open Go Go.HL
namespace Go.Proofs.Ytaibmipamkaljaa
open Go.Proofs.Try renaming prog → Tp
open Go.HL.HV renaming undef → Ud
def ins {α:Type} [DecidableEq α] (x:α) (s:List α):List α:=if x ∈ s then s else s ++ [x]
theorem mem_ins {α:Type} [DecidableEq α] {x y:α} {s:List α}:y ∈ ins x s ↔ y=x ∨ y ∈ s:=by
  unfold ins
  split
  · rename_i h
    constructor
    · exact .inr
    · rintro (rfl | h')
      · exact h
      · exact h'
  · simp [or_comm]
theorem nodup_ins {α:Type} [DecidableEq α] {x:α} {s:List α} (h:s.Nodup):(ins x s).Nodup:=by
  unfold ins
  split
  · exact h
  · rename_i hx
    rw [List.nodup_append]
    exact ⟨h,by simp,fun a ha b hb e=>by rw [List.mem_singleton] at hb; subst hb; subst e; exact hx ha⟩
theorem z4t:tyZero Tp 4=some (.bool false):=by kernel_rfl
structure KeyT (α:Type) [DecidableEq α] (enc:α → HV) (T kt:TypeId):Prop where
  und:Tp.underlying T=some (.map kt 4)
  key:∀ a,keyTy Tp kt (enc a)=true
  eq:∀ a b,keyEq (enc a) (enc b)=some (decide (a=b))
  self:∀ a,(aggEq (cellsOf (enc a)) (cellsOf (enc a))).isSome=true
  inj:∀ a b,enc a=enc b → a=b
section
variable {α:Type} [DecidableEq α] {enc:α → HV} {T kt:TypeId}
abbrev mapK (enc:α → HV) (ks:List α):Blk:=.map (ks.map enc) (ks.map fun _=>.bool true) 0
theorem findK_k (hK:KeyT α enc T kt) (x:α):∀ (ks:List α) (i:Nat),∃ r,findK (enc x) (ks.map enc) i=some r∧((x ∈ ks∧∃ j,r=some (i+j)∧j < ks.length) ∨ (x ∉ ks∧r=none))
  | [],i=>⟨none,rfl,.inr ⟨by simp,rfl⟩⟩
  | k :: ks,i=>by
    by_cases e:x=k
    · subst e
      refine ⟨some i,?_,.inl ⟨by simp,0,rfl,by simp⟩⟩
      simp only [List.map_cons,findK,hK.eq,decide_true]
    · obtain ⟨r,h1,h2⟩:=findK_k hK x ks (i+1)
      refine ⟨r,?_,?_⟩
      · simp only [List.map_cons,findK,hK.eq,decide_eq_false e]
        exact h1
      · rcases h2 with ⟨h3,j,h4,h5⟩ | ⟨h3,h4⟩
        · exact .inl ⟨by simp [h3],j+1,by rw [h4]; congr 1; omega,by simp; omega⟩
        · exact .inr ⟨by simp [h3,e],h4⟩
theorem look_k (hK:KeyT α enc T kt) (ks:List α) (x:α):lookV Tp T (ks.map enc) (ks.map fun _=>.bool true) (enc x) false=some (.bool (decide (x ∈ ks))):=by
  obtain ⟨r,h1,h2⟩:=findK_k hK x ks 0
  have hk:=hK.key x
  have hz:=z4t
  simp only [lookV,hK.und,hk,if_true,h1]
  rcases h2 with ⟨h3,j,rfl,h5⟩ | ⟨h3,rfl⟩
  · rw [decide_eq_true h3]
    have:(ks.map fun _=>HV.bool true)[0+j]?=some (.bool true):=by rw [Nat.zero_add,List.getElem?_map,List.getElem?_eq_getElem h5]; rfl
    simp only [this]
    rfl
  · rw [decide_eq_false h3]
    simp only [hz]
    rfl
theorem map_upd (hK:KeyT α enc T kt) {H:Heap} {b:Nat} {ks:List α} (h:H[b]?=some (mapK enc ks)) (x:α):updV Tp false T (.map b) (enc x) (.bool true) H=some (H.set b (mapK enc (ins x ks))):=by
  obtain ⟨r,h1,h2⟩:=findK_k hK x ks 0
  have hk:=hK.key x
  simp only [updV,hK.und,hk,if_true,h,h1,Bool.false_eq_true,if_false]
  rcases h2 with ⟨h3,j,rfl,h5⟩ | ⟨h3,rfl⟩
  · have hs:(ks.map fun _=>HV.bool true).set (0+j) (.bool true)=ks.map fun _=>.bool true:=by
      apply List.ext_getElem?
      intro i
      rw [List.getElem?_set,List.length_map]
      by_cases e:0+j=i
      · subst e
        rw [if_pos rfl,if_pos (by omega),List.getElem?_map,List.getElem?_eq_getElem (by omega)]; rfl
      · rw [if_neg e]
    simp only [hs,ins,if_pos h3,bnd,Nat.max_zero]
  · simp only [hK.self x,if_true,ins,if_neg h3,bnd,Nat.max_zero,mapK,List.map_append,List.map_cons,List.map_nil]
end
abbrev Wt:=Int × El
def encW (w:Wt):HV:=.agg [.int .i64 w.1,.int .i64 w.2.1,.int .i64 w.2.2]
def decW:HV → Option Wt | .agg [.int .i64 a,.int .i64 b,.int .i64 c]=>some (a,b,c) | _=>none
theorem decW_enc (w:Wt):decW (encW w)=some w:=rfl
theorem decW_inv (b:HV) (a:Wt) (h:decW b=some a):b=encW a:=by
  unfold decW at h
  split at h
  · cases h; rfl
  · cases h
theorem keyW:KeyT Wt encW 91 72:=by
  refine ⟨by kernel_rfl,fun a=>by kernel_rfl,fun a b=>?_,fun a=>?_,fun a b h=>?_⟩
  · obtain ⟨a,b,c⟩:=a
    rename_i y
    obtain ⟨d,e,f⟩:=y
    simp only [encW,keyEq,aggEq,scEq,if_true,Bool.and_true,Prod.mk.injEq]
    by_cases h1:a=d <;> by_cases h2:b=e <;> by_cases h3:c=f <;> simp [h1,h2,h3]
  · simp [encW,cellsOf,aggEq,scEq]
  · simp [encW] at h
    exact Prod.ext h.1 (Prod.ext h.2.1 h.2.2)
def rchW (g:Gr) (x:El) (w:Wt):Wt:=(w.1+1,addT g w.2 x)
def rchStep (g:Gr) (x:El) (K:List Wt):List Wt:=K.foldl (fun A w=>ins (rchW g x w) (ins w A)) []
def rchT (g:Gr):List El → List (List Wt)
  | []=>[[(0,0,0)]]
  | x :: l=>rchStep g x ((rchT g l).headD []) :: rchT g l
def encM (K:List Wt):HV:=.imap .own (K.map encW) (K.map fun _=>.bool true)
end Go.Proofs.Ytaibmipamkaljaa
end
section
open Go Go.HL
namespace Go.Proofs.Ytaibmipamkaljaa
open Go.Proofs.Try renaming prog → Tp
open Go.HL.HV renaming undef → Ud
def recL (x x':Option (HV × Heap)) (H H':Heap):Bool :=
  match x,x' with
  | some (v,H1),some (v',H1')=>same v v' && sameH H1 H && sameH H1' H'
  | _,_=>false
theorem sameH_iff:∀ {H:Heap},sameH H H=true ↔ ∀ B ∈ H,sameH [B] [B]=true
  | []=>by simp [sameH]
  | B :: H=>by
    have ih:=sameH_iff (H:=H)
    cases B with
    | arr k els w m=>simp only [sameH,List.forall_mem_cons,← ih,Bool.and_eq_true,and_true,Bool.and_true]
    | iter a b c d=>simp only [sameH,List.forall_mem_cons,← ih,Bool.and_eq_true,and_true,Bool.and_true]
    | map ks vs m=>simp only [sameH,List.forall_mem_cons,← ih,Bool.and_eq_true,and_true,Bool.and_true]
    | dead=>simp only [sameH,List.forall_mem_cons,← ih,true_and]
theorem sameL_all:∀ {l:List HV},(∀ v ∈ l,same v v=true) → sameL l l=true
  | [],_=>rfl
  | v :: l,h=>by simp only [sameL,h v (by simp),sameL_all (l:=l) (fun w hw=>h w (by simp [hw])),Bool.and_self]
theorem same_arr {k m:Nat} {l:List HV} {w:Bool} (h:∀ v ∈ l,same v v=true):sameH [.arr k l w m] [.arr k l w m]=true:=by
  simp [sameH,sameL_all h]
noncomputable def polR:Pol:={ pol with prim:=fun g=>if g == 59 then some add59 else none }
theorem primR (g:FuncId) (f:List HV → Option HV) (h:polR.prim g=some f):PrimOk Tp g f:=by
  unfold polR at h
  simp only at h
  split at h
  · rename_i hg; cases h; rw [eq_of_beq hg]; exact add_ok
  · cases h
theorem soundR (n:Nat):CallSound Tp (callN Tp polR n):=sound_prim _ primR n
end Go.Proofs.Ytaibmipamkaljaa
end
section
open Go Go.HL
namespace Go.Proofs.Ytaibmipamkaljaa
set_option maxRecDepth 100000
open Go.Proofs.Try renaming prog → Tp
open Go.HL.HV renaming undef → Ud
noncomputable def B49:Code:=Try.f49.body.getD .skip
abbrev env49 (v0 v1 v2 v4 v5 v6 v7 v35:HV):Env:=[(0,v0),(1,v1),(2,v2),(4,v4),(5,v5),(6,v6),(7,v7),(35,v35)]
theorem rc_a_0 (m0 m1 sz:Int) (l:List HV) :RT polR 49 (sub [0] B49) [(0,.agg [.i m0,.i m1,.i sz]),(1,.imm .arg 2 l)] [] .normal (env49 (.agg [.i m0,.i m1,.i sz]) (.imm .arg 2 l) (.ptr 0 0 0 1) (.imm .lit 1 []) Ud Ud Ud Ud) [.arr 3 [.agg [.i m0,.i m1,.i sz]] true 0] :=
  RunsTo.hin 0 60 [] fun kf hk=>⟨_,by kernel_rfl,.nil⟩
theorem rc_b_0 (m0 m1 sz:Int) (l:List HV) (n:Nat) {y5 y6 y7 y35:HV}(g0:makeV Tp false 69 (.i (IntKind.i64.wrap ((l.length:Int)+1))) (.i (IntKind.i64.wrap ((l.length:Int)+1))) [.arr 3 [.agg [.i m0,.i m1,.i sz]] true 0]=some (.sl 1 0 n (some n) n 1,[.arr 3 [.agg [.i m0,.i m1,.i sz]] true 0,.arr 1 (List.replicate n (.nilmap)) true 0])):RT polR 49 (sub [1,0] B49) (env49 (.agg [.i m0,.i m1,.i sz]) (.imm .arg 2 l) (.ptr 0 0 0 1) (.imm .lit 1 []) y5 y6 y7 y35) [.arr 3 [.agg [.i m0,.i m1,.i sz]] true 0] .normal (env49 (.agg [.i m0,.i m1,.i sz]) (.imm .arg 2 l) (.ptr 0 0 0 1) (.imm .lit 1 []) (.sl 1 0 n (some n) n 1) y6 y7 y35) [.arr 3 [.agg [.i m0,.i m1,.i sz]] true 0,.arr 1 (List.replicate n (.nilmap)) true 0] :=
  RunsTo.hin 0 60 [⟨1,3,.sl 1 0 n (some n) n 1,[.arr 3 [.agg [.i m0,.i m1,.i sz]] true 0,.arr 1 (List.replicate n (.nilmap)) true 0]⟩] fun kf hk=>⟨_,by kernel_rfl,(oC (g0) .nil)⟩
theorem rc_c_0 (m0 m1 sz:Int) (l:List HV) (n:Nat) (H:Heap) {y6 y7 y35:HV} {H0:Heap} {H1:Heap} {H2:Heap} (g0:some (HV.map H.length,H ++ [Blk.map [] [] 0])=some (.map 2,H0)) (g1:updV Tp false 91 (.map 2) (.agg [.i 0,.i 0,.i 0]) (.bool true) H0=some H1) (g2:idxV Tp 69 (.sl 1 0 n (some n) n 1) (.i (l.length:Int))=some (.ptr 1 l.length 0 n)) (g3:storeV Tp H1 91 (.ptr 1 l.length 0 n) (.map 2)=some H2):RT polR 49 (sub [1,1,0] B49) (env49 (.agg [.i m0,.i m1,.i sz]) (.imm .arg 2 l) (.ptr 0 0 0 1) (.imm .lit 1 []) (.sl 1 0 n (some n) n 1) y6 y7 y35) H .normal (env49 (.agg [.i m0,.i m1,.i sz]) (.imm .arg 2 l) (.ptr 0 0 0 1) (.imm .lit 1 []) (.sl 1 0 n (some n) n 1) y6 y7 y35) H2 :=
  RunsTo.hin 0 60 [⟨2,3,.map 2,H0⟩,⟨2,5,.tuple [],H1⟩,⟨2,7,.ptr 1 l.length 0 n,H1⟩,⟨2,8,.tuple [],H2⟩] fun kf hk=>⟨_,by kernel_rfl,(oC (g0) (oS g1 (oP H1 g2 (oS g3 .nil))))⟩
theorem rc_d_0 (m0 m1 sz:Int) (l:List HV) (n:Nat) (H:Heap) {y6 y7 y35:HV}:RT polR 49 (sub [1,1,1,0,0] B49) (env49 (.agg [.i m0,.i m1,.i sz]) (.imm .arg 2 l) (.ptr 0 0 0 1) (.imm .lit 1 []) (.sl 1 0 n (some n) n 1) y6 y7 y35) H .normal (env49 (.agg [.i m0,.i m1,.i sz]) (.imm .arg 2 l) (.ptr 0 0 0 1) (.imm .lit 1 []) (.sl 1 0 n (some n) n 1) (.i (IntKind.i64.wrap ((l.length:Int) - 1))) y7 y35) H :=
  RunsTo.hin 0 60 [] fun kf hk=>⟨_,by kernel_rfl,.nil⟩
theorem rc_e_0 (m0 m1 sz:Int) (l:List HV) (n:Nat) (H:Heap) (i:Int) {y7 y35:HV}(g0:0 ≤ i):RT polR 49 (sub [1,1,1,0,1,0,0,0] B49) (env49 (.agg [.i m0,.i m1,.i sz]) (.imm .arg 2 l) (.ptr 0 0 0 1) (.imm .lit 1 []) (.sl 1 0 n (some n) n 1) (.i i) y7 y35) H .normal (env49 (.agg [.i m0,.i m1,.i sz]) (.imm .arg 2 l) (.ptr 0 0 0 1) (.imm .lit 1 []) (.sl 1 0 n (some n) n 1) (.i i) y7 y35) H :=
  RunsTo.hin 0 60 [⟨4,1,.bool true,H⟩] fun kf hk=>⟨_,by kernel_rfl,(oB H (decide_eq_true g0) .nil)⟩
theorem rc_e_1 (m0 m1 sz:Int) (l:List HV) (n:Nat) (H:Heap) (i:Int) {y7 y35:HV}(g0:¬ (0 ≤ i)):RT polR 49 (sub [1,1,1,0,1,0,0,0] B49) (env49 (.agg [.i m0,.i m1,.i sz]) (.imm .arg 2 l) (.ptr 0 0 0 1) (.imm .lit 1 []) (.sl 1 0 n (some n) n 1) (.i i) y7 y35) H (.exit 0) (env49 (.agg [.i m0,.i m1,.i sz]) (.imm .arg 2 l) (.ptr 0 0 0 1) (.imm .lit 1 []) (.sl 1 0 n (some n) n 1) (.i i) y7 y35) H :=
  RunsTo.hin 0 60 [⟨4,1,.bool false,H⟩] fun kf hk=>⟨_,by kernel_rfl,(oB H (decide_eq_false g0) .nil)⟩
theorem rc_f_0 (m0 m1 sz:Int) (l:List HV) (n:Nat) (H:Heap) (i:Nat) {y7 y35:HV} {H0:Heap} {H1:Heap} (g0:some (HV.map H.length,H ++ [Blk.map [] [] 0])=some (.map 2,H0)) (g1:idxV Tp 69 (.sl 1 0 n (some n) n 1) (.i (i:Int))=some (.ptr 1 i 0 n)) (g2:storeV Tp H0 91 (.ptr 1 i 0 n) (.map 2)=some H1):RT polR 49 (sub [1,1,1,0,1,0,0,1,0,0,0] B49) (env49 (.agg [.i m0,.i m1,.i sz]) (.imm .arg 2 l) (.ptr 0 0 0 1) (.imm .lit 1 []) (.sl 1 0 n (some n) n 1) (.i (i:Int)) y7 y35) H .normal (env49 (.agg [.i m0,.i m1,.i sz]) (.imm .arg 2 l) (.ptr 0 0 0 1) (.imm .lit 1 []) (.sl 1 0 n (some n) n 1) (.i (i:Int)) y7 y35) H1 :=
  RunsTo.hin 0 60 [⟨6,2,.map 2,H0⟩,⟨6,3,.ptr 1 i 0 n,H0⟩,⟨6,4,.tuple [],H1⟩] fun kf hk=>⟨_,by kernel_rfl,(oC (g0) (oP H0 g1 (oS g2 .nil)))⟩
theorem rc_g_0 (m0 m1 sz:Int) (l:List HV) (n:Nat) (H:Heap) (i:Nat) (w0 w1 w2:Int) (kb mb:Nat) {y35:HV} {H0:Heap} (g0:idxV Tp 69 (.sl 1 0 n (some n) n 1) (.i (i:Int))=some (.ptr 1 i 0 n)) (g1:loadV Tp H 91 (.ptr 1 i 0 n)=some (.map mb)) (g2:loadV Tp H 72 (.ptr kb 0 0 1)=some (.agg [.i w0,.i w1,.i w2])) (g3:updV Tp false 91 (.map mb) (.agg [.i w0,.i w1,.i w2]) (.bool true) H=some H0):RT polR 49 (sub [1,1,1,0,1,0,0,1,0,0,1,1,0,0,1,1,0,1,0] B49) (env49 (.agg [.i m0,.i m1,.i sz]) (.imm .arg 2 l) (.ptr 0 0 0 1) (.imm .lit 1 []) (.sl 1 0 n (some n) n 1) (.i (i:Int)) (.ptr kb 0 0 1) y35) H .normal (env49 (.agg [.i m0,.i m1,.i sz]) (.imm .arg 2 l) (.ptr 0 0 0 1) (.imm .lit 1 []) (.sl 1 0 n (some n) n 1) (.i (i:Int)) (.ptr kb 0 0 1) y35) H0 :=
  RunsTo.hin 0 60 [⟨10,2,.ptr 1 i 0 n,H⟩,⟨10,3,.map mb,H⟩,⟨10,4,.agg [.i w0,.i w1,.i w2],H⟩,⟨10,5,.tuple [],H0⟩] fun kf hk=>⟨_,by kernel_rfl,(oP H g0 (oP H g1 (oP H g2 (oS g3 .nil))))⟩
theorem rc_h_0 (m0 m1 sz:Int) (l:List HV) (n:Nat) (H:Heap) (i:Nat) (w0 w1 w2 x0 x1:Int) (kb mb:Nat) {y35:HV} {x2:Int} {x3:Int} {z0:Int} {z1:Int} {H0:Heap} (g0:idxV Tp 69 (.sl 1 0 n (some n) n 1) (.i (i:Int))=some (.ptr 1 i 0 n)) (g1:loadV Tp H 91 (.ptr 1 i 0 n)=some (.map mb)) (g2:loadV Tp H 3 (.ptr kb 0 0 1)=some (.i w0)) (g3:loadV Tp H 66 (.ptr 0 0 0 1)=some (.agg [.i m0,.i m1,.i sz])) (g4:loadV Tp H 64 (.ptr kb 0 1 1)=some (.agg [.i w1,.i w2])) (g5:idxV Tp 67 (.imm .arg 2 l) (.i (i:Int))=some (.vptr (.agg [.i x2,.i x3]))) (g6:∀ kf,callN Tp polR (kf+1) 59 [.agg [.i m0,.i m1,.i sz],.agg [.i w1,.i w2],.agg [.i x2,.i x3]] H=some (.agg [.i z0,.i z1],H)) (g7:updV Tp false 91 (.map mb) (.agg [.i (IntKind.i64.wrap (w0+1)),.i z0,.i z1]) (.bool true) H=some H0) (gS11:(recL ((loadV Tp H 91 (.ptr 1 i 0 n)).map (fun v=>(v,(H:Heap)))) ((loadV Tp H 91 (.ptr 1 i 0 n)).map (fun v=>(v,(H:Heap)))) H H && (recL ((loadV Tp H 3 (.ptr kb 0 0 1)).map (fun v=>(v,(H:Heap)))) ((loadV Tp H 3 (.ptr kb 0 0 1)).map (fun v=>(v,(H:Heap)))) H H && true))=true):RT polR 49 (sub [1,1,1,0,1,0,0,1,0,0,1,1,0,0,1,1,0,1,1] B49) (env49 (.agg [.i m0,.i m1,.i sz]) (.imm .arg 2 l) (.ptr 0 0 0 1) (.imm .lit 1 []) (.sl 1 0 n (some n) n 1) (.i (i:Int)) (.ptr kb 0 0 1) y35) H .normal (env49 (.agg [.i m0,.i m1,.i sz]) (.imm .arg 2 l) (.ptr 0 0 0 1) (.imm .lit 1 []) (.sl 1 0 n (some n) n 1) (.i (i:Int)) (.ptr kb 0 0 1) y35) H0 :=
  RunsTo.hin 0 60 [⟨11,2,.ptr 1 i 0 n,H⟩,⟨11,3,.map mb,H⟩,⟨11,5,.i w0,H⟩,⟨11,7,.agg [.i m0,.i m1,.i sz],H⟩,⟨11,9,.agg [.i w1,.i w2],H⟩,⟨11,12,.vptr (.agg [.i x2,.i x3]),H⟩,⟨11,14,.agg [.i z0,.i z1],H⟩,⟨11,16,.tuple [],H0⟩] fun kf hk=>⟨_,by kernel_rfl,(oC (gS11) (oP H g0 (oP H g1 (oP H g2 (oP H g3 (oP H g4 (oP H g5 (oC (g6 kf) (oS g7 .nil)))))))))⟩
theorem rc_i_0 (m0 m1 sz:Int) (l:List HV) (n:Nat) (H:Heap) (i:Nat) {y7 y35:HV}:RT polR 49 (sub [1,1,1,0,1,0,0,1,1] B49) (env49 (.agg [.i m0,.i m1,.i sz]) (.imm .arg 2 l) (.ptr 0 0 0 1) (.imm .lit 1 []) (.sl 1 0 n (some n) n 1) (.i (i:Int)) y7 y35) H .normal (env49 (.agg [.i m0,.i m1,.i sz]) (.imm .arg 2 l) (.ptr 0 0 0 1) (.imm .lit 1 []) (.sl 1 0 n (some n) n 1) (.i (IntKind.i64.wrap ((i:Int) - 1))) y7 y35) H :=
  RunsTo.hin 0 60 [] fun kf hk=>⟨_,by kernel_rfl,.nil⟩
theorem rc_j_0 (m0 m1 sz:Int) (l:List HV) (n:Nat) (H:Heap) {y6 y7 y35:HV}:RT polR 49 (sub [1,1,1,1] B49) (env49 (.agg [.i m0,.i m1,.i sz]) (.imm .arg 2 l) (.ptr 0 0 0 1) (.imm .lit 1 []) (.sl 1 0 n (some n) n 1) y6 y7 y35) H .ret (env49 (.agg [.i m0,.i m1,.i sz]) (.imm .arg 2 l) (.ptr 0 0 0 1) (.sl 1 0 n (some n) n 1) (.sl 1 0 n (some n) n 1) y6 y7 y35) H :=
  RunsTo.hin 0 60 [] fun kf hk=>⟨_,by kernel_rfl,.nil⟩
end Go.Proofs.Ytaibmipamkaljaa
end
section
open Go Go.HL
namespace Go.Proofs.Ytaibmipamkaljaa
open Go.Proofs.Try renaming prog → Tp
open Go.HL.HV renaming undef → Ud
theorem u69:Tp.underlying 69=some (.slice 91):=by kernel_rfl
theorem u67:Tp.underlying 67=some (.slice 64):=by kernel_rfl
theorem z91:tySize Tp 91=some 1:=by kernel_rfl
theorem z64:tySize Tp 64=some 2:=by kernel_rfl
theorem z72:tySize Tp 72=some 3:=by kernel_rfl
theorem z66:tySize Tp 66=some 3:=by kernel_rfl
theorem a91:tyAgg Tp 91=false:=by kernel_rfl
theorem i91:(Tp.underlying 91).isSome=true:=by kernel_rfl
theorem a72:tyAgg Tp 72=true:=by kernel_rfl
theorem a66:tyAgg Tp 66=true:=by kernel_rfl
theorem info91:(Tp.info? 91).map (fun i=>(i.size,i.bytes,i.zero.map ofConst))=some (1,8,some .nilmap):=by kernel_rfl
theorem st_any {H:Heap} {t b i tot k mx:Nat} {els:List HV} {v old:HV} (hb:H[b]?=some (.arr k els true mx)) (ht:tot=els.length) (hi:els[i]?=some old) (ho:cellsOf old=[old]) (hna:∀ cs,old ≠ .agg cs) (hs:tySize Tp t=some 1) (hc:cellsOf v=[v]) (hcv:cellV v=true) :
    storeV Tp H t (.ptr b i 0 tot) v=some (H.set b (.arr k (els.set i v) true (max mx (bnd v)))):=by
  have hsp:splice [old] 0 [v]=[v]:=rfl
  simp only [storeV,hb,hi,ho,hc,hs,List.length_cons,List.length_nil,List.all_cons,List.all_nil,hcv,Bool.and_self,hsp]
  rw [if_pos ⟨ht,trivial⟩,if_pos ⟨by omega,trivial,by omega⟩]
theorem fold_mem {g:Gr} {x:El}:∀ (L A:List Wt) (w:Wt),w ∈ L.foldl (fun A w=>ins (rchW g x w) (ins w A)) A ↔ w ∈ A ∨ ∃ u ∈ L,w=u ∨ w=rchW g x u
  | [],A,w=>by simp
  | u :: L,A,w=>by
    rw [List.foldl_cons,fold_mem L _ w,mem_ins,mem_ins]
    constructor
    · rintro ((h | h | h) | ⟨v,h1,h2⟩)
      · exact .inr ⟨u,by simp,.inr h⟩
      · exact .inr ⟨u,by simp,.inl h⟩
      · exact .inl h
      · exact .inr ⟨v,by simp [h1],h2⟩
    · rintro (h | ⟨v,h1,h2⟩)
      · exact .inl (.inr (.inr h))
      · rcases List.mem_cons.1 h1 with rfl | h1
        · rcases h2 with h2 | h2
          · exact .inl (.inr (.inl h2))
          · exact .inl (.inl h2)
        · exact .inr ⟨v,h1,h2⟩
theorem fold_nodup {g:Gr} {x:El}:∀ (L A:List Wt),A.Nodup → (L.foldl (fun A w=>ins (rchW g x w) (ins w A)) A).Nodup
  | [],A,h=>h
  | u :: L,A,h=>by
    rw [List.foldl_cons]
    exact fold_nodup L _ (nodup_ins (nodup_ins h))
theorem mem_step {g:Gr} {x:El} {K:List Wt} {w:Wt}:w ∈ rchStep g x K ↔ ∃ u ∈ K,w=u ∨ w=rchW g x u:=by
  unfold rchStep
  rw [fold_mem]
  simp
theorem nodup_step {g:Gr} {x:El} {K:List Wt}:(rchStep g x K).Nodup:=fold_nodup K [] (by simp)
theorem step_perm {g:Gr} {x:El} {K L:List Wt} (h:∀ w,w ∈ L ↔ w ∈ K):(rchStep g x L).Perm (rchStep g x K):=by
  rw [List.perm_ext_iff_of_nodup nodup_step nodup_step]
  intro a
  rw [mem_step,mem_step]
  constructor
  · rintro ⟨u,h1,h2⟩; exact ⟨u,(h u).1 h1,h2⟩
  · rintro ⟨u,h1,h2⟩; exact ⟨u,(h u).2 h1,h2⟩
theorem rch_len (g:Gr):∀ l,(rchT g l).length=l.length+1
  | []=>rfl
  | x :: l=>by simp [rchT,rch_len g l]
def wtOk (g:Gr) (n:Nat) (w:Wt):Prop:=elOk g w.2∧0 ≤ w.1∧w.1 ≤ n
theorem head_ok {g:Gr} (hg:grOk g):∀ (l:List El),∀ w ∈ (rchT g l).headD [],wtOk g l.length w
  | [],w,h=>by
    simp [rchT] at h
    subst h
    obtain ⟨⟨a,b⟩,c,d⟩:=hg
    exact ⟨⟨⟨Int.le_refl _,by show (0:Int) < g.1; omega⟩,Int.le_refl _,by show (0:Int) < g.2.1; omega⟩,Int.le_refl _,Int.le_refl _⟩
  | x :: l,w,h=>by
    have h':w ∈ rchStep g x ((rchT g l).headD []):=h
    rw [mem_step] at h'
    obtain ⟨u,h1,h2⟩:=h'
    obtain ⟨k1,k2,k3⟩:=head_ok hg l u h1
    rcases h2 with rfl | rfl
    · exact ⟨k1,k2,by simp; omega⟩
    · exact ⟨addT_ok hg,by show 0 ≤ u.1+1; omega,by show u.1+1 ≤ _; simp; omega⟩
theorem head_cons (g:Gr) (l:List El):rchT g l=(rchT g l).headD [] :: (rchT g l).tail:=by cases l <;> rfl
abbrev bG (g:Gr):Blk:=.arr 3 [encG g] true 0
def elsR (g:Gr) (l:List El) (k:Nat):List HV:=List.replicate k .nilmap ++ (rchT g (l.drop k)).map encM
abbrev rwB (els:List HV) (mx:Nat):Blk:=.arr 1 els true mx
section
variable {g:Gr} {l:List El} {n:Nat}
abbrev rcE (g:Gr) (l:List El) (n:Nat) (v6 v7 v35:HV):Env:=(env49 (encG g) (.imm .arg 2 (l.map encX)) (.ptr 0 0 0 1) (.imm .lit 1 []) (.sl 1 0 n (some n) n 1) v6 v7 v35)
theorem ix69 {i:Nat} (hi:i < n):idxV Tp 69 (.sl 1 0 n (some n) n 1) (.int .i64 (i:Int))=some (.ptr 1 i 0 n):=by
  have:=idx_sl (P:=Tp) (t:=69) (b:=1) (len:=n) (tot:=n) (cap:=some n) (ik:=.i64) (n:=(i:Int)) u69 z91 (by omega) (by omega)
  rwa [Int.toNat_natCast] at this
theorem gX {i:Nat} (hi:i < l.length):idxV Tp 67 (.imm .arg 2 (l.map encX)) (.int .i64 (i:Int))=some (.vptr (encX (l.getD i (0,0)))) :=
  idx_imm u67 z64 (by omega) (by rw [Int.toNat_natCast,List.getElem?_map,List.getElem?_eq_getElem hi]; simp [List.getD,List.getElem?_eq_getElem hi])
theorem add_at {pol':Pol} (hp:pol'.prim 59=some add59) {x y:El} (hg:grOk g) (hx:elOk g x) (hy:elOk g y) (H:Heap):∀ k,callN Tp pol' (k+1) 59 [encG g,encX x,encX y] H=some (encX (addT g x y),H):=fun k=>by
  rw [prim_call (pol:=pol') (g:=59) (F:=add59) hp (rs:=[encG g,encX x,encX y]) rfl (res:=encX (addT g x y)) (by simp only [add59,gxxF,decG_enc,decX_enc]; rw [if_pos ⟨hg,hx,hy⟩])]
  rfl
noncomputable def C9:Code:=sub [1,1,1,0,1,0,0,1,0,0,1,1,0,0,1,1,0,0] B49
noncomputable def C7:Code:=sub [1,1,1,0,1,0,0,1,0,0,1,0] B49
noncomputable def C8:Code:=sub [1,1,1,0,1,0,0,1,0,0,1,1,0,0,0] B49
theorem st_box (H:Heap) (w:Wt):storeV Tp (H ++ [.arr 3 [.agg [.int .i64 0,.int .i64 0,.int .i64 0]] true 0]) 72 (.ptr H.length 0 0 1) (encW w)=some (H ++ [.arr 3 [encW w] true 0]):=by
  have:=store_agg (P:=Tp) (H:=H ++ [.arr 3 [.agg [.int .i64 0,.int .i64 0,.int .i64 0]] true 0]) (t:=72) (b:=H.length) (i:=0) (tot:=1) (k:=3) (mx:=0) (els:=[.agg [.int .i64 0,.int .i64 0,.int .i64 0]]) (cs:=[.int .i64 0,.int .i64 0,.int .i64 0]) (new:=[.int .i64 w.1,.int .i64 w.2.1,.int .i64 w.2.2])
    (by rw [List.getElem?_append_right (Nat.le_refl _),Nat.sub_self]; rfl) rfl rfl z72 rfl (by simp) rfl rfl
  rw [show encW w=.agg [.int .i64 w.1,.int .i64 w.2.1,.int .i64 w.2.2] from rfl,this]
  simp
theorem box_in (e:Env) (H:Heap) (w:Wt):evOps Tp polR 49 9 (regOps C9) [] (callN Tp polR 1) ((regOps C9).toList.drop 1) (e.put (some 38) (.tuple [encW w,.bool true])) H=some ([(7,.ptr H.length 0 0 1),(39,encW w),(38,.tuple [encW w,.bool true])] ++ e,H ++ [.arr 3 [encW w] true 0]) :=
  evOpsH_ok Tp polR ((regOps C9).toList.drop 1) 1 _ _ [⟨9,3,.tuple [],H ++ [.arr 3 [encW w] true 0]⟩] (hs':=[])
    (ob:=[(storeV Tp (H ++ [.arr 3 [.agg [.int .i64 0,.int .i64 0,.int .i64 0]] true 0]) 72 (.ptr H.length 0 0 1) (encW w)).map (fun H=>(HV.tuple [],H))=some (.tuple [],H ++ [.arr 3 [encW w] true 0])]) (by kernel_rfl) (Obls.cons (hintSt (st_box H w)) Obls.nil)
theorem pre_in {H:Heap} {i:Nat} {K:List Wt} (v7 v35:HV) (hi:IntKind.i64.wrap ((i:Int)+1)=((i+1:Nat):Int)) (h1:idxV Tp 69 (.sl 1 0 n (some n) n 1) (.int .i64 ((i+1:Nat):Int))=some (.ptr 1 (i+1) 0 n)) (h2:loadV Tp H 91 (.ptr 1 (i+1) 0 n)=some (encM K)) :
    evOps Tp polR 49 7 (regOps C7) [] (callN Tp polR 1) ((regOps C7).toList.take 5) (rcE g l n (.int .i64 (i:Int)) v7 v35) H =
      some ([(34,encM K),(33,.ptr 1 (i+1) 0 n),(32,.int .i64 (IntKind.i64.wrap ((i:Int)+1))),(31,.int .i64 (i:Int)),(30,.sl 1 0 n (some n) n 1)] ++ rcE g l n (.int .i64 (i:Int)) v7 v35,H) :=
  evOpsH_ok Tp polR ((regOps C7).toList.take 5) 0 _ _ [⟨7,3,.ptr 1 (i+1) 0 n,H⟩,⟨7,4,encM K,H⟩] (hs':=[])
    (ob:=[(idxV Tp 69 (.sl 1 0 n (some n) n 1) (.int .i64 (IntKind.i64.wrap ((i:Int)+1)))).map (fun v=>(v,H))=some (.ptr 1 (i+1) 0 n,H),(loadV Tp H 91 (.ptr 1 (i+1) 0 n)).map (fun v=>(v,H))=some (encM K,H)]) (by kernel_rfl) (Obls.cons (hintOp (by rw [hi]; exact h1)) (Obls.cons (hintOp h2) Obls.nil))
end
end Go.Proofs.Ytaibmipamkaljaa
end
section
open Go Go.HL
namespace Go.Proofs.Ytaibmipamkaljaa
open Go.Proofs.Try renaming prog → Tp
open Go.HL.HV renaming undef → Ud
section
variable {g:Gr} {l:List El} {n:Nat}
theorem g72 {H:Heap} {b:Nat} {w:Wt} (h:H[b]?=some (.arr 3 [encW w] true 0)):loadV Tp H 72 (.ptr b 0 0 1)=some (encW w):=load_agg (b:=b) h rfl rfl a72 z72
theorem same_encW (w:Wt):same (encW w) (encW w)=true:=by simp [encW,same,sameL]
theorem same_mapK (A:List Wt):sameH [mapK encW A] [mapK encW A]=true:=by
  have e1:sameL (A.map encW) (A.map encW)=true:=sameL_all fun v hv=>by
    obtain ⟨k,_,rfl⟩:=List.mem_map.1 hv
    exact same_encW k
  have e2:sameL (A.map fun _=>HV.bool true) (A.map fun _=>HV.bool true)=true:=sameL_all fun v hv=>by
    obtain ⟨k,_,rfl⟩:=List.mem_map.1 hv
    simp [same]
  simp only [mapK,sameH,e1,e2,beq_self_eq_true,Bool.and_self]
theorem same_encM (K:List Wt):same (encM K) (encM K)=true:=by
  have h:=same_mapK K
  simp only [mapK,sameH,beq_self_eq_true,Bool.and_true,Bool.and_eq_true] at h
  simp [encM,same,h.1,h.2]
theorem sameH_cons {B:Blk} {H:Heap} (hB:sameH [B] [B]=true) (hH:sameH H H=true):sameH (B :: H) (B :: H)=true:=by
  rw [sameH_iff] at hH ⊢
  intro C hC
  rcases List.mem_cons.1 hC with rfl | hC
  · exact hB
  · exact hH C hC
theorem rc_round (hg:grOk g) {i:Nat} (hi:i < l.length) (hl:∀ x ∈ l,elOk g x) (hll:l.length ≤ 1000) {w:Wt} (hw:elOk g w.2) (hw0:0 ≤ w.1∧w.1 ≤ 2000) {H:Heap} {A:List Wt} {v35:HV} (hn:i < n)
    (h0:H[0]?=some (bG g)) (h1:loadV Tp H 91 (.ptr 1 i 0 n)=some (.map 2)) (h2:H[2]?=some (mapK encW A)) (h1b:∀ X,loadV Tp (H.set 2 X) 91 (.ptr 1 i 0 n)=some (.map 2)) {kb:Nat} (hk:H[kb]?=some (.arr 3 [encW w] true 0)) (hkb:3 ≤ kb) (hs:sameH H H=true) :
    RT polR 49 (sub [1,1,1,0,1,0,0,1,0,0,1,1,0,0,1,1,0,1] B49) (rcE g l n (.int .i64 (i:Int)) (.ptr kb 0 0 1) v35) H .normal (rcE g l n (.int .i64 (i:Int)) (.ptr kb 0 0 1) v35)
      (H.set 2 (mapK encW (ins (rchW g (l.getD i (0,0)) w) (ins w A)))):=by
  have hx:elOk g (l.getD i (0,0)):=by
    have:l.getD i (0,0)=l[i]:=by simp [List.getD,List.getElem?_eq_getElem hi]
    rw [this]; exact hl _ (List.getElem_mem _)
  have hl2:2 < H.length:=lt_of_get h2
  have u1:=map_upd keyW (b:=2) h2 w
  have h2':(H.set 2 (mapK encW (ins w A)))[2]?=some (mapK encW (ins w A)):=List.getElem?_set_self hl2
  have u2:=map_upd keyW (b:=2) h2' (rchW g (l.getD i (0,0)) w)
  rw [List.set_set] at u2
  have hk':(H.set 2 (mapK encW (ins w A)))[kb]?=some (.arr 3 [encW w] true 0):=by rw [List.getElem?_set_ne (by omega)]; exact hk
  have h0':(H.set 2 (mapK encW (ins w A)))[0]?=some (bG g):=by rw [List.getElem?_set_ne (by omega)]; exact h0
  have s1:=rc_g_0 g.1 g.2.1 g.2.2 (l.map encX) n H i w.1 w.2.1 w.2.2 kb 2 (y35:=v35) (ix69 hn) h1 (g72 hk) u1
  have ld0:loadV Tp (H.set 2 (mapK encW (ins w A))) 3 (.ptr kb 0 0 1)=some (.int .i64 w.1):=load_cell (b:=kb) (off:=0) (cs:=[.int .i64 w.1,.int .i64 w.2.1,.int .i64 w.2.2]) hk' rfl rfl a3 i3 rfl
  have ldG:loadV Tp (H.set 2 (mapK encW (ins w A))) 66 (.ptr 0 0 0 1)=some (encG g):=load_agg (b:=0) h0' rfl rfl a66 z66
  have ldS:loadV Tp (H.set 2 (mapK encW (ins w A))) 64 (.ptr kb 0 1 1)=some (encX w.2):=by
    have e:loadV Tp (H.set 2 (mapK encW (ins w A))) 64 (.ptr kb 0 1 1)=partV Tp 64 [.int .i64 w.1,.int .i64 w.2.1,.int .i64 w.2.2] 1:=by
      simp only [loadV,hk',List.length_cons,List.length_nil,if_true]
      show partV Tp 64 (cellsOf (encW w)) 1=_
      simp only [encW,cellsOf]
    rw [e]
    show _=_
    kernel_rfl
  have hsame:sameH (H.set 2 (mapK encW (ins w A))) (H.set 2 (mapK encW (ins w A)))=true:=by
    rw [sameH_iff] at hs ⊢
    intro B hB
    rcases List.mem_or_eq_of_mem_set hB with h | rfl
    · exact hs B h
    · exact same_mapK _
  have hw1:IntKind.i64.wrap (w.1+1)=w.1+1:=wrap_id (by omega) (by omega)
  have s2:=rc_h_0 g.1 g.2.1 g.2.2 (l.map encX) n (H.set 2 (mapK encW (ins w A))) i w.1 w.2.1 w.2.2 0 0 kb 2 (y35:=v35) (H0:=H.set 2 (mapK encW (ins (rchW g (l.getD i (0,0)) w) (ins w A)))) (ix69 hn) (h1b _) ld0 ldG ldS (gX hi) (add_at (pol':=polR) (by kernel_rfl) hg hw hx _)
    (by rw [hw1]; exact u2) (by simp only [recL,ld0,h1b,Option.map,hsame,same,beq_self_eq_true,Bool.and_self])
  exact sq s1 s2
end
end Go.Proofs.Ytaibmipamkaljaa
end
section
open Go Go.HL
namespace Go.Proofs.Ytaibmipamkaljaa
open Go.Proofs.Try renaming prog → Tp
open Go.HL.HV renaming undef → Ud
section
variable {g:Gr} {l:List El} {n:Nat}
def ksI49:List Nat:=[0,1,2,4,5,6,35]
abbrev rcI (g:Gr) (l:List El) (n:Nat) (v6 v35:HV):Env:=[(0,encG g),(1,.imm .arg 2 (l.map encX)),(2,.ptr 0 0 0 1),(4,.imm .lit 1 []),(5,.sl 1 0 n (some n) n 1),(6,v6),(35,v35)]
def opAt (ops:Array Oper) (i:Nat):Oper:=ops.toList.getD i default
theorem mx4 {els:List HV} {A:List Wt} {B':Blk} {w:Wt} (hB:B'.mx=0):gc 4 4 [bG g,rwB els 3,mapK encW A,B',.arr 3 [encW w] true 0]=[bG g,rwB els 3,mapK encW A,B']:=by
  unfold gc
  have:mxs [bG g,rwB els 3,mapK encW A,B',.arr 3 [encW w] true 0]=3:=by
    show max 0 (max 3 (max 0 (max B'.mx (max 0 0))))=3
    rw [hB]; rfl
  rw [this]
  rfl
theorem bndI (v:Int):bndE (rcI g l n (.int .i64 v) (.ptr 3 0 0 0)) ≤ 4:=by simp [rcI,bndE,bnd,bndL,encG]
theorem rc_inner (hg:grOk g) {i:Nat} (hi:i < l.length) (hl:∀ x ∈ l,elOk g x) (hll:l.length ≤ 1000) {els:List HV} (hn:els.length=n) (hin:i+1 < n) {K:List Wt} (hK:∀ w ∈ K,elOk g w.2∧0 ≤ w.1∧w.1 ≤ 2000) (he1:els[i]?=some (.map 2)) (he2:els[i+1]?=some (encM K)) (hsm:∀ v ∈ els,same v v=true) :
    Trip Tp Try.f49.ntmps (sub [1,1,1,0,1,0,0,1,0,0,1] B49) (rcE g l n (.int .i64 (i:Int)) Ud Ud) [bG g,rwB els 3,mapK encW ([]:List Wt)]
      (fun x e H=>x=.normal∧∃ A Bk,A.Perm (rchStep g (l.getD i (0,0)) K)∧Bk.mx=0∧restr (polR.keys 49) e=rcE g l n (.int .i64 (i:Int)) Ud (.ptr 3 0 0 0)∧H=[bG g,rwB els 3,mapK encW A,Bk]):=by
  have hc:sub [1,1,1,0,1,0,0,1,0,0,1] B49=.seq (.region 7 (regOps C7) false) (.block 2 (.loop (.seq (.region 8 (regOps C8) false) (.seq (.cond (.tmp 37) .skip (.exit 2)) (.block 3 (.seq (.region 9 (regOps C9) false) (sub [1,1,1,0,1,0,0,1,0,0,1,1,0,0,1,1,0,1] B49))))))):=by kernel_rfl
  rw [hc]
  have hld:∀ (X Y:Heap) ,loadV Tp (bG g :: rwB els 3 :: X) 91 (.ptr 1 i 0 n)=some (.map 2):=fun X _=>load_elem (b:=1) (els:=els) rfl hn.symm he1 rfl a91 i91
  have hld2:loadV Tp [bG g,rwB els 3,mapK encW ([]:List Wt)] 91 (.ptr 1 (i+1) 0 n)=some (encM K):=load_elem (b:=1) (els:=els) rfl hn.symm he2 rfl a91 i91
  refine Trip.range (pol:=polR) (f:=49) (k:=1) (it:=35) (tm:=34) (tn:=36) (tb:=37) (te:=38) (T:=91) (kt:=72) (et:=4) (oR:=opAt (regOps C7) 5) (oN:=opAt (regOps C8) 0) (oX:=opAt (regOps C8) 1) (oE:=opAt (regOps C9) 0) (pre:=(regOps C7).toList.take 5) (os:=(regOps C9).toList.drop 1)
    (g:=.own) (kl:=K.map encW) (vl:=K.map fun _=>.bool true) (asgA:=[]) (asg2:=[]) ksI49
    (I:=fun S Bk e H=>e=rcI g l n (.int .i64 (i:Int)) (.ptr 3 0 0 0)∧H=[bG g,rwB els 3,mapK encW (rchStep g (l.getD i (0,0)) (S.map fun j=>K.getD j (0,0,0))),Bk]∧Bk.mx=0∧sameH [Bk] [Bk]=true)
    soundR (by kernel_rfl) (by kernel_rfl) (by kernel_rfl) (by kernel_rfl) (by kernel_rfl) (by kernel_rfl) (by kernel_rfl) (by kernel_rfl) (by kernel_rfl) (by kernel_rfl) (by kernel_rfl) (by kernel_rfl) (by kernel_rfl) (by kernel_rfl) (by kernel_rfl) (by kernel_rfl) (by decide)
    (by kernel_rfl) (by kernel_rfl) (by kernel_rfl) (pre_in Ud Ud (wrap_succ (by omega)) (ix69 hin) hld2) rfl ?_ ?_ ?_ ?_
  · intro Bk hB hS
    exact ⟨rfl,rfl,hB,hS⟩
  · rintro S Bk e H' ⟨rfl,rfl,_,_⟩
    exact ⟨rfl,rfl⟩
  · rintro S Bk e H' j kv vv ⟨rfl,rfl,hB,hS⟩ hj hjS hnd hkv hvv B' hB' hS'
    rw [List.length_map] at hj
    have hw:K[j]=K.getD j (0,0,0):=by simp [List.getD,List.getElem?_eq_getElem hj]
    have ekv:kv=encW (K.getD j (0,0,0)):=by
      rw [List.getElem?_map,List.getElem?_eq_getElem hj] at hkv
      rw [← hw]; exact (Option.some.inj hkv).symm
    have evv:vv=.bool true:=by
      rw [List.getElem?_map,List.getElem?_eq_getElem hj] at hvv
      exact (Option.some.inj hvv).symm
    subst ekv; subst evv
    have hKw:=hK _ (List.getElem_mem hj)
    rw [hw] at hKw
    generalize hww:K.getD j (0,0,0)=w at *
    refine ⟨_,_,box_in _ _ w,?_⟩
    have hround:=rc_round (g:=g) (l:=l) (n:=n) (i:=i) hg hi hl hll (w:=w) hKw.1 ⟨hKw.2.1,hKw.2.2⟩ (H:=[bG g,rwB els 3,mapK encW (rchStep g (l.getD i (0,0)) (S.map fun j=>K.getD j (0,0,0))),B',.arr 3 [encW w] true 0]) (A:=rchStep g (l.getD i (0,0)) (S.map fun j=>K.getD j (0,0,0))) (v35:=.ptr 3 0 0 0) (by omega)
      rfl (hld _ []) rfl (fun X=>hld _ []) (kb:=4) rfl (by omega) (by
        refine sameH_cons (by simp [sameH,sameL,same,encG]) (sameH_cons (same_arr hsm) (sameH_cons (same_mapK _) (sameH_cons hS' (by simp [sameH,sameL,same_encW]))))
        )
    refine Trip.restrict (polR.keys 49) ?_
    have hrun:=Trip.run (nt:=Try.f49.ntmps) follows_mixed soundR (by kernel_rfl) hround
    refine Trip.mono hrun ?_
    rintro x e2 H2 ⟨rfl,rfl,rfl⟩
    refine ⟨rfl,ksI49,4,bndI (g:=g) (l:=l) (n:=n) (i:Int),?_⟩
    refine ⟨rfl,?_,hB',hS'⟩
    show gc 4 4 [bG g,rwB els 3,mapK encW _,B',.arr 3 [encW w] true 0]=_
    rw [mx4 hB',List.map_append]
    simp only [List.map_cons,List.map_nil,hww,rchStep,List.foldl_append,List.foldl_cons,List.foldl_nil]
  · rintro S Bk e H' ⟨rfl,rfl,hB,hS⟩ hall hlt hnd
    refine ⟨rfl,_,Bk,?_,hB,rfl,rfl⟩
    refine step_perm fun w=>?_
    constructor
    · intro hw
      obtain ⟨j,hj,rfl⟩:=List.mem_map.1 hw
      have c:j < K.length:=by simpa using hlt j hj
      have:K.getD j (0,0,0)=K[j]:=by simp [List.getD,List.getElem?_eq_getElem c]
      rw [this]; exact List.getElem_mem c
    · intro hw
      obtain ⟨j,hj,rfl⟩:=List.getElem_of_mem hw
      refine List.mem_map.2 ⟨j,hall j (by simpa using hj),by simp [List.getD,List.getElem?_eq_getElem hj]⟩
end
end Go.Proofs.Ytaibmipamkaljaa
end
section
open Go Go.HL
namespace Go.Proofs.Ytaibmipamkaljaa
open Go.Proofs.Try renaming prog → Tp
open Go.HL.HV renaming undef → Ud
section
variable {g:Gr} {l:List El}
abbrev rcJ (g:Gr) (l:List El) (v6:HV):Env:=[(0,encG g),(1,.imm .arg 2 (l.map encX)),(2,.ptr 0 0 0 1),(4,.imm .lit 1 []),(5,.sl 1 0 (l.length+1) (some (l.length+1)) (l.length+1) 1),(6,v6)]
def ksJ:List Nat:=[0,1,2,4,5,6]
theorem bndJ (v:Int):bndE (rcJ g l (.int .i64 v)) ≤ 2:=by simp [rcJ,bndE,bnd,bndL,encG]
theorem bndL_M:∀ (T:List (List Wt)),bndL (T.map encM)=0
  | []=>rfl
  | K :: T=>by simp [bndL,bndL_M T,encM,bnd]
theorem bndL_nil:∀ (k:Nat),bndL (List.replicate k .nilmap)=0
  | 0=>rfl
  | k+1=>by simp [List.replicate_succ,bndL,bndL_nil k,bnd]
theorem bndL_app:∀ (a b:List HV),bndL (a ++ b)=max (bndL a) (bndL b)
  | [],b=>by simp [bndL]
  | x :: a,b=>by simp only [List.cons_append,bndL,bndL_app a b]; omega
theorem els_set (k:Nat) (L:List HV) (v:HV):(List.replicate (k+1) HV.nilmap ++ L).set k v=List.replicate k .nilmap ++ v :: L:=by
  induction k with
  | zero=>rfl
  | succ k ih=>simp only [List.replicate_succ,List.cons_append,List.set_cons_succ] at ih ⊢; rw [ih]
theorem els_at (k:Nat) (L:List HV) (v:HV):(List.replicate k HV.nilmap ++ v :: L)[k]?=some v∧∀ u,L[0]?=some u → (List.replicate k HV.nilmap ++ v :: L)[k+1]?=some u:=by
  refine ⟨?_,fun u hu=>?_⟩
  · rw [List.getElem?_append_right (by simp)]; simp
  · rw [List.getElem?_append_right (by simp)]; simpa using hu
theorem elsR_len {k:Nat} (hk:k ≤ l.length):(elsR g l k).length=l.length+1:=by
  simp [elsR,rch_len]; omega
theorem elsR_step {p:Nat} (hp:p < l.length):elsR g l p=List.replicate p .nilmap ++ encM (rchStep g (l.getD p (0,0)) ((rchT g (l.drop (p+1))).headD [])) :: (rchT g (l.drop (p+1))).map encM:=by
  have e:l.getD p (0,0)=l[p]:=by simp [List.getD,List.getElem?_eq_getElem hp]
  unfold elsR
  rw [List.drop_eq_getElem_cons hp,e]
  rfl
theorem conv_end {p:Nat} (hp:p < l.length) (v:Int) {A:List Wt} {Bk:Blk} (hA:A.Perm (rchStep g (l.getD p (0,0)) ((rchT g (l.drop (p+1))).headD []))) (hB:Bk.mx=0) :
    Conv Tp 2 (rcE g l (l.length+1) (.int .i64 v) Ud (.ptr 3 0 0 0)) [bG g,rwB ((elsR g l (p+1)).set p (.map 2)) 3,mapK encW A,Bk] (rcJ g l (.int .i64 v)) [bG g,rwB (elsR g l p) 0]:=by
  have e1:restr ksJ (rcE g l (l.length+1) (.int .i64 v) Ud (.ptr 3 0 0 0))=rcJ g l (.int .i64 v):=rfl
  have c1:Conv Tp 2 (rcE g l (l.length+1) (.int .i64 v) Ud (.ptr 3 0 0 0)) [bG g,rwB ((elsR g l (p+1)).set p (.map 2)) 3,mapK encW A,Bk] (rcJ g l (.int .i64 v)) [bG g,rwB ((elsR g l (p+1)).set p (.map 2)) 3,mapK encW A,Bk]:=by
    rw [← e1]; exact Conv.restr ksJ
  have e2:gc 2 2 [bG g,rwB ((elsR g l (p+1)).set p (.map 2)) 3,mapK encW A,Bk]=[bG g,rwB ((elsR g l (p+1)).set p (.map 2)) 3] ++ [.map (A.map encW) (A.map fun _=>.bool true) 0]:=by
    unfold gc
    have:mxs [bG g,rwB ((elsR g l (p+1)).set p (.map 2)) 3,mapK encW A,Bk]=3:=by
      show max 0 (max 3 (max 0 (max Bk.mx 0)))=3
      rw [hB]; rfl
    rw [this]
    rfl
  have c2:=Conv.gc (P:=Tp) (n:=2) (e:=rcJ g l (.int .i64 v)) (H:=[bG g,rwB ((elsR g l (p+1)).set p (.map 2)) 3,mapK encW A,Bk]) 2 (bndJ v)
  rw [e2] at c2
  have eset:(elsR g l (p+1)).set p (.map 2)=List.replicate p .nilmap ++ .map 2 :: (rchT g (l.drop (p+1))).map encM:=els_set _ _ _
  have hz:∀ X:List Wt,(X.map encW).zip (X.map fun _=>HV.bool true)=X.map fun w=>(encW w,HV.bool true):=by
    intro X; induction X with
    | nil=>rfl
    | cons x X ih=>simp [ih]
  have hlen:A.length=(rchStep g (l.getD p (0,0)) ((rchT g (l.drop (p+1))).headD [])).length:=hA.length_eq
  have c3:=Conv.sealM (P:=Tp) (n:=2) (e:=rcJ g l (.int .i64 v)) (H0:=[bG g,rwB ((elsR g l (p+1)).set p (.map 2)) 3]) (ks:=A.map encW) (vs:=A.map fun _=>.bool true) (mx:=0) (mb:=2)
    (ks':=(rchStep g (l.getD p (0,0)) ((rchT g (l.drop (p+1))).headD [])).map encW) (vs':=(rchStep g (l.getD p (0,0)) ((rchT g (l.drop (p+1))).headD [])).map fun _=>.bool true)
    rfl (Nat.le_refl _) (fun v hv=>by obtain ⟨_,_,rfl⟩:=List.mem_map.1 hv; rfl) (by rw [hz,hz]; exact (hA.symm).map _) (by simp [hlen]) (by simp [hlen])
    (fun q hq=>.inr (by
      simp only [rcJ,List.mem_cons,List.not_mem_nil,or_false] at hq
      rcases hq with rfl | rfl | rfl | rfl | rfl | rfl <;> simp [bnd,bndL,encG]))
    (fun b x hx=>by
      match b,hx with
      | 0,hx=>cases hx; intro v hv; rw [List.mem_singleton] at hv; subst hv; exact .inr (by simp [encG,bnd,bndL])
      | 1,hx =>
        cases hx
        intro v hv
        rw [eset] at hv
        rcases List.mem_append.1 hv with h | h
        · rw [List.mem_replicate] at h; rw [h.2]; exact .inr (by simp [bnd])
        · rcases List.mem_cons.1 h with rfl | h
          · exact .inl rfl
          · obtain ⟨K,_,rfl⟩:=List.mem_map.1 h
            exact .inr (by simp [encM,bnd])
      | b+2,hx=>simp at hx)
  refine (c1.trans c2).trans ?_
  have e3:([bG g,rwB ((elsR g l (p+1)).set p (.map 2)) 3].map (sealB 2 (encM (rchStep g (l.getD p (0,0)) ((rchT g (l.drop (p+1))).headD [])))))=[bG g,rwB (elsR g l p) 0]:=by
    have h1:((elsR g l (p+1)).set p (.map 2)).map (sealV 2 (encM (rchStep g (l.getD p (0,0)) ((rchT g (l.drop (p+1))).headD []))))=elsR g l p:=by
      rw [eset,elsR_step hp,List.map_append,List.map_cons,List.map_replicate,List.map_map]
      congr 1
    have h2:bndL (elsR g l p)=0:=by unfold elsR; rw [bndL_app,bndL_nil,bndL_M]; rfl
    simp only [List.map_cons,List.map_nil,sealB,h1,h2]
    rfl
  rw [show HV.imap G.own ((rchStep g (l.getD p (0,0)) ((rchT g (l.drop (p+1))).headD [])).map encW) ((rchStep g (l.getD p (0,0)) ((rchT g (l.drop (p+1))).headD [])).map fun _=>.bool true)=encM (rchStep g (l.getD p (0,0)) ((rchT g (l.drop (p+1))).headD [])) from rfl,e3] at c3
  exact c3
theorem rc_body (hg:grOk g) (hl:∀ x ∈ l,elOk g x) (hll:l.length ≤ 1000) {p:Nat} (hp:p < l.length) :
    Trip Tp Try.f49.ntmps (sub [1,1,1,0,1,0,0] B49) (rcJ g l (.int .i64 (p:Int))) [bG g,rwB (elsR g l (p+1)) 0] (fun x e H=>x=.normal∧e=rcJ g l (.int .i64 (IntKind.i64.wrap ((p:Int) - 1)))∧H=[bG g,rwB (elsR g l p) 0]):=by
  have hlen:=elsR_len (g:=g) (l:=l) (k:=p+1) (by omega)
  have eset:(elsR g l (p+1)).set p (.map 2)=List.replicate p .nilmap ++ .map 2 :: (rchT g (l.drop (p+1))).map encM:=els_set _ _ _
  have hold:(elsR g l (p+1))[p]?=some .nilmap:=by
    unfold elsR
    rw [List.getElem?_append_left (by simp),List.getElem?_replicate,if_pos (by omega)]
  refine Trip.conv (Q:=fun x e H=>x=.normal∧∃ A Bk,A.Perm (rchStep g (l.getD p (0,0)) ((rchT g (l.drop (p+1))).headD []))∧Bk.mx=0∧e=rcE g l (l.length+1) (.int .i64 (IntKind.i64.wrap ((p:Int) - 1))) Ud (.ptr 3 0 0 0)∧H=[bG g,rwB ((elsR g l (p+1)).set p (.map 2)) 3,mapK encW A,Bk]) ?_ (by
    rintro x e' H' ⟨rfl,A,Bk,hA,hB,rfl,rfl⟩
    exact ⟨_,_,conv_end hp _ hA hB,rfl,rfl,rfl⟩)
  refine Trip.restrict (polR.keys 49) ?_
  have s1:=rc_e_0 g.1 g.2.1 g.2.2 (l.map encX) (l.length+1) [bG g,rwB (elsR g l (p+1)) 0] (p:Int) (y7:=Ud) (y35:=Ud) (by omega)
  refine Trip.seqR (ca:=sub [1,1,1,0,1,0,0,0] B49) (cb:=sub [1,1,1,0,1,0,0,1] B49) s1 follows_mixed soundR (by kernel_rfl) (by kernel_rfl) ?_
  have hc:sub [1,1,1,0,1,0,0,1] B49=.seq (.block 1 (.seq (sub [1,1,1,0,1,0,0,1,0,0,0] B49) (sub [1,1,1,0,1,0,0,1,0,0,1] B49))) (sub [1,1,1,0,1,0,0,1,1] B49):=by kernel_rfl
  rw [hc]
  have hst:storeV Tp [bG g,rwB (elsR g l (p+1)) 0,.map [] [] 0] 91 (.ptr 1 p 0 (l.length+1)) (.map 2)=some [bG g,rwB ((elsR g l (p+1)).set p (.map 2)) 3,.map [] [] 0]:=by
    have:=st_any (H:=[bG g,rwB (elsR g l (p+1)) 0,.map [] [] 0]) (t:=91) (b:=1) (i:=p) (tot:=l.length+1) (k:=1) (mx:=0) (els:=elsR g l (p+1)) (v:=.map 2) rfl hlen.symm hold rfl (by intro cs h; cases h) z91 rfl rfl
    rw [this]; rfl
  have s2:=rc_f_0 g.1 g.2.1 g.2.2 (l.map encX) (l.length+1) [bG g,rwB (elsR g l (p+1)) 0] p (y7:=Ud) (y35:=Ud) (H0:=[bG g,rwB (elsR g l (p+1)) 0,.map [] [] 0]) rfl (ix69 (by omega)) hst
  refine Trip.seq (Q1:=fun x e H=>x=.normal∧∃ A Bk,A.Perm (rchStep g (l.getD p (0,0)) ((rchT g (l.drop (p+1))).headD []))∧Bk.mx=0∧restr (polR.keys 49) e=rcE g l (l.length+1) (.int .i64 (p:Int)) Ud (.ptr 3 0 0 0)∧H=[bG g,rwB ((elsR g l (p+1)).set p (.map 2)) 3,mapK encW A,Bk]) ?_ ?_ (fun x e1 H1 hx q=>absurd q.1 hx)
  · refine Trip.block ?_
    refine Trip.seqR s2 follows_mixed soundR (by kernel_rfl) rfl ?_
    have hK:∀ w ∈ (rchT g (l.drop (p+1))).headD [],elOk g w.2∧0 ≤ w.1∧w.1 ≤ 2000:=fun w hw=>by
      obtain ⟨h1,h2,h3⟩:=head_ok hg _ w hw
      rw [List.length_drop] at h3
      exact ⟨h1,h2,by omega⟩
    obtain ⟨a1,a2⟩:=els_at p ((rchT g (l.drop (p+1))).map encM) (.map 2)
    have hh:((rchT g (l.drop (p+1))).map encM)[0]?=some (encM ((rchT g (l.drop (p+1))).headD [])):=by rw [head_cons]; rfl
    refine (rc_inner hg hp hl hll (els:=(elsR g l (p+1)).set p (.map 2)) (n:=l.length+1) (by rw [List.length_set]; exact hlen) (by omega) (K:=(rchT g (l.drop (p+1))).headD []) hK (by rw [eset]; exact a1) (by rw [eset]; exact a2 _ hh) ?_).mono ?_
    · intro v hv
      rw [eset] at hv
      rcases List.mem_append.1 hv with h | h
      · rw [List.mem_replicate] at h; rw [h.2]; simp [same]
      · rcases List.mem_cons.1 h with rfl | h
        · simp [same]
        · obtain ⟨K,_,rfl⟩:=List.mem_map.1 h
          exact same_encM K
    · rintro x e H ⟨rfl,q⟩
      exact ⟨rfl,q⟩
  · rintro e1 H1 ⟨_,A,Bk,hA,hB,he,rfl⟩
    refine Trip.restrict (polR.keys 49) ?_
    rw [he]
    have s3:=rc_i_0 g.1 g.2.1 g.2.2 (l.map encX) (l.length+1) [bG g,rwB ((elsR g l (p+1)).set p (.map 2)) 3,mapK encW A,Bk] p (y7:=Ud) (y35:=.ptr 3 0 0 0)
    refine (Trip.run follows_mixed soundR (by kernel_rfl) s3).mono ?_
    rintro x e H ⟨rfl,rfl,rfl⟩
    exact ⟨rfl,A,Bk,hA,hB,rfl,rfl⟩
end
end Go.Proofs.Ytaibmipamkaljaa
end
section
open Go Go.HL
namespace Go.Proofs.Ytaibmipamkaljaa
open Go.Proofs.Try renaming prog → Tp
open Go.HL.HV renaming undef → Ud
theorem res49:Try.f49.results.toList=[.tmp 4]:=by kernel_rfl
def glF (f:Gr → List El → Option HV):List HV → Option HV
  | [a,.imm .arg 2 la]=>(match decG a,mapO decX la with | some g,some l=>f g l | _,_=>none)
  | _=>none
theorem glF_inv {f:Gr → List El → Option HV} {args:List HV} {res:HV} (h:glF f args=some res):∃ g l,args=[encG g,.imm .arg 2 (l.map encX)]∧f g l=some res:=by
  unfold glF at h
  split at h
  · rename_i a la
    split at h
    · rename_i g l hg hl
      exact ⟨g,l,by rw [decG_inv _ _ hg,mapO_inv decX_inv hl],h⟩
    · cases h
  · cases h
def allEl (g:Gr) (l:List El):Bool:=l.all fun x=>decide (elOk g x)
theorem allEl_iff {g:Gr} {l:List El}:allEl g l=true ↔ ∀ x ∈ l,elOk g x:=by simp [allEl]
def reached49:List HV → Option HV:=glF fun g l=>if grOk g∧allEl g l=true∧l.length ≤ 1000 then some (.own 1 ((rchT g l).map encM)) else none
theorem frz_M {H:Heap} {no:List Nat} (K:List Wt):frz H no 4 (encM K)=some (encM K):=by
  have hk:∀ (K:List Wt),resPL (K.map encW)=true:=by
    intro K; induction K with
    | nil=>rfl
    | cons w K ih=>simp [resPL,ih,encW,resP]
  have hv:∀ (K:List Wt),resPL (K.map fun _=>HV.bool true)=true:=by
    intro K; induction K with
    | nil=>rfl
    | cons w K ih=>simp [resPL,resP] at ih ⊢; exact ih
  have:resP (encM K)=true:=by simp only [encM,resP,hk K,hv K]; rfl
  show (if resP (encM K) then some (encM K) else none)=_
  rw [this]; rfl
theorem reached_ok:PrimOk Tp 49 reached49:=by
  refine primOk_trip (fn:=Try.f49) (cd:=B49) (deep:=false) (by kernel_rfl) (by kernel_rfl) ?_
  intro args res h
  obtain ⟨g,l,rfl,hq⟩:=glF_inv h
  clear h
  split at hq
  case isFalse=>cases hq
  rename_i hd
  cases hq
  obtain ⟨hg,hl,hll⟩:=hd
  rw [allEl_iff] at hl
  have a:=rc_a_0 g.1 g.2.1 g.2.2 (l.map encX)
  have mk:=makeV_ok (P:=Tp) (H:=[bG g]) (t:=69) (e:=91) (k:=1) (bt:=8) (zv:=.nilmap) (n:=((l.length+1:Nat):Int)) u69 info91 (by simp [cellsOf,cellV]) (by simp [cellsOf]) (by omega) (by omega) (by simp only [roomMax]; omega)
  rw [Int.toNat_natCast] at mk
  have ew:IntKind.i64.wrap (((l.map encX).length:Int)+1)=((l.length+1:Nat):Int):=by rw [List.length_map]; exact wrap_succ (by omega)
  have b:=rc_b_0 g.1 g.2.1 g.2.2 (l.map encX) (l.length+1) (y5:=Ud) (y6:=Ud) (y7:=Ud) (y35:=Ud) (by rw [ew]; exact mk)
  have up:=map_upd keyW (H:=[bG g,rwB (List.replicate (l.length+1) .nilmap) 0,mapK encW []]) (b:=2) rfl (0,0,0)
  have hset:(List.replicate (l.length+1) HV.nilmap).set l.length (.map 2)=List.replicate l.length .nilmap ++ [.map 2]:=by
    have:=els_set l.length [] (.map 2)
    rwa [List.append_nil] at this
  have hst:storeV Tp [bG g,rwB (List.replicate (l.length+1) .nilmap) 0,mapK encW [(0,0,0)]] 91 (.ptr 1 l.length 0 (l.length+1)) (.map 2)=some [bG g,rwB (List.replicate l.length .nilmap ++ [.map 2]) 3,mapK encW [(0,0,0)]]:=by
    have:=st_any (H:=[bG g,rwB (List.replicate (l.length+1) .nilmap) 0,mapK encW [(0,0,0)]]) (t:=91) (b:=1) (i:=l.length) (tot:=l.length+1) (k:=1) (mx:=0) (els:=List.replicate (l.length+1) .nilmap) (v:=.map 2) (old:=.nilmap) rfl (by simp) (by rw [List.getElem?_replicate,if_pos (by omega)]) rfl (by intro cs h; cases h) z91 rfl rfl
    rw [this,hset]; rfl
  have c:=rc_c_0 g.1 g.2.1 g.2.2 (l.map encX) (l.length+1) [bG g,rwB (List.replicate (l.length+1) .nilmap) 0] (y6:=Ud) (y7:=Ud) (y35:=Ud) (H0:=[bG g,rwB (List.replicate (l.length+1) .nilmap) 0,mapK encW []]) rfl up
    (by rw [List.length_map]; exact ix69 (by omega)) (by rw [List.length_map]; exact hst)
  have ab:RunsTo Tp polR 49 (sub [0] B49) _ _ _ _ _ _:=a
  refine Trip.seqR (cd:=B49) (ca:=sub [0] B49) (cb:=sub [1] B49) a follows_mixed soundR (by kernel_rfl) (by kernel_rfl) ?_
  refine Trip.seqR (cd:=sub [1] B49) (ca:=sub [1,0] B49) (cb:=sub [1,1] B49) b follows_mixed soundR (by kernel_rfl) (by kernel_rfl) ?_
  have hc:sub [1,1] B49=.seq (sub [1,1,0] B49) (.seq (.seq (sub [1,1,1,0,0] B49) (.block 0 (.loop (sub [1,1,1,0,1,0,0] B49)))) (sub [1,1,1,1] B49)):=by kernel_rfl
  rw [hc]
  -- the map of the end,made read-only
  have hc2:Trip Tp Try.f49.ntmps (sub [1,1,0] B49) (rcE g l (l.length+1) Ud Ud Ud) [bG g,rwB (List.replicate (l.length+1) .nilmap) 0] (fun x e H=>x=.normal∧e=rcE g l (l.length+1) Ud Ud Ud∧H=[bG g,rwB (elsR g l l.length) 0]):=by
    refine Trip.conv (Trip.run follows_mixed soundR (by kernel_rfl) c) ?_
    rintro x e H ⟨rfl,rfl,rfl⟩
    refine ⟨_,_,Conv.sealM (P:=Tp) (n:=2) (H0:=[bG g,rwB (List.replicate l.length .nilmap ++ [.map 2]) 3]) (ks:=([(0,0,0)]:List Wt).map encW) (vs:=([(0,0,0)]:List Wt).map fun _=>.bool true) (ks':=([(0,0,0)]:List Wt).map encW) (vs':=([(0,0,0)]:List Wt).map fun _=>.bool true) (mx:=0) (mb:=2)
      rfl (Nat.le_refl _) (fun v hv=>by simp at hv; subst hv; rfl) (.refl _) rfl rfl ?_ ?_,rfl,?_,?_⟩
    · intro q hq
      refine .inr ?_
      simp only [List.mem_cons,List.not_mem_nil,or_false] at hq
      rcases hq with rfl | rfl | rfl | rfl | rfl | rfl | rfl | rfl <;> simp [bnd,bndL]
    · intro b x hx
      match b,hx with
      | 0,hx=>cases hx; intro v hv; rw [List.mem_singleton] at hv; subst hv; exact .inr (by simp [encG,bnd,bndL])
      | 1,hx =>
        cases hx
        intro v hv
        rcases List.mem_append.1 hv with h | h
        · rw [List.mem_replicate] at h; rw [h.2]; exact .inr (by simp [bnd])
        · rw [List.mem_singleton] at h; exact .inl h
      | b+2,hx=>simp at hx
    · rfl
    · have h1:(List.replicate l.length HV.nilmap ++ [HV.map 2]).map (sealV 2 (encM [(0,0,0)]))=elsR g l l.length:=by
        unfold elsR
        rw [List.drop_length,List.map_append,List.map_replicate]
        rfl
      have h2:bndL (elsR g l l.length)=0:=by unfold elsR; rw [bndL_app,bndL_nil,bndL_M]; rfl
      simp only [List.map_cons,List.map_nil,sealB]
      rw [show HV.imap G.own [encW (0,0,0)] [HV.bool true]=encM [(0,0,0)] from rfl,h1,h2]
      rfl
  refine Trip.seq hc2 ?_ (fun x e1 H1 hx q=>absurd q.1 hx)
  rintro e1 H1 ⟨_,rfl,rfl⟩
  have d:=rc_d_0 g.1 g.2.1 g.2.2 (l.map encX) (l.length+1) [bG g,rwB (elsR g l l.length) 0] (y6:=Ud) (y7:=Ud) (y35:=Ud)
  have ewd:IntKind.i64.wrap (((l.map encX).length:Int) - 1)=(l.length:Int) - 1:=by rw [List.length_map]; exact wrap_id (by omega) (by omega)
  rw [ewd] at d
  refine Trip.seq (Q1:=fun x e H=>x=.normal∧e=rcE g l (l.length+1) (.int .i64 (-1)) Ud Ud∧H=[bG g,rwB (elsR g l 0) 0]) ?_ ?_ (fun x e1 H1 hx q=>absurd q.1 hx)
  · refine Trip.seqR d follows_mixed soundR (by kernel_rfl) rfl ?_
    refine Trip.block ?_
    refine Trip.restrict ksJ ?_
    refine Trip.loop (I:=fun k e H=>k ≤ l.length∧e=rcJ g l (.int .i64 ((k:Int) - 1))∧H=[bG g,rwB (elsR g l k) 0]) ?_ (n:=l.length) ⟨Nat.le_refl _,rfl,rfl⟩
    rintro k e H ⟨hk,rfl,rfl⟩
    cases k with
    | zero =>
      have s:=rc_e_1 g.1 g.2.1 g.2.2 (l.map encX) (l.length+1) [bG g,rwB (elsR g l 0) 0] (-1) (y7:=Ud) (y35:=Ud) (by omega)
      have hcb:sub [1,1,1,0,1,0,0] B49=.seq (sub [1,1,1,0,1,0,0,0] B49) (sub [1,1,1,0,1,0,0,1] B49):=by kernel_rfl
      rw [hcb]
      refine Trip.restrict (polR.keys 49) ?_
      refine Trip.seq (Trip.run follows_mixed soundR (by kernel_rfl) s) (fun e1 H1 q=>absurd q.1 (by simp)) ?_
      rintro x e1 H1 _ ⟨rfl,rfl,rfl⟩
      exact ⟨rfl,rfl,rfl⟩
    | succ p =>
      have hb:=rc_body (g:=g) (l:=l) hg hl hll (p:=p) (by omega)
      rw [show (((p+1:Nat):Int) - 1)=(p:Int) by omega]
      refine hb.mono ?_
      rintro x e H ⟨rfl,rfl,rfl⟩
      refine ⟨p,ksJ,2,by omega,bndJ _,⟨by omega,?_,?_⟩⟩
      · rw [wrap_id (by omega) (by omega)]
        rfl
      · unfold gc
        exact List.take_of_length_le (by simp only [List.length_cons,List.length_nil]; omega)
  · rintro e1 H1 ⟨_,rfl,rfl⟩
    have j:=rc_j_0 g.1 g.2.1 g.2.2 (l.map encX) (l.length+1) [bG g,rwB (elsR g l 0) 0] (y6:=.int .i64 (-1)) (y7:=Ud) (y35:=Ud)
    refine (Trip.run follows_mixed soundR (by kernel_rfl) j).mono ?_
    rintro x e H ⟨rfl,rfl,rfl⟩
    refine ⟨by simp,.sl 1 0 (l.length+1) (some (l.length+1)) (l.length+1) 1,by simp only [resultsV,res49]; rfl,?_⟩
    have e0:elsR g l 0=(rchT g l).map encM:=by simp [elsR]
    have hr:=resCell_sl (H:=[bG g,rwB ((rchT g l).map encM) 0]) (no:=[1]) (b:=1) (k:=1) (m:=l.length+1) (cap:=some (l.length+1)) (els:=(rchT g l).map encM) rfl (by simp [rch_len]) (mapO_self frz_M _)
    have ho:ownedAll [bG g,rwB ((rchT g l).map encM) 0] false (.sl 1 0 (l.length+1) (some (l.length+1)) (l.length+1) 1)=[1]:=rfl
    rw [e0]
    simp only [toRes,ho,List.nodup_cons,List.not_mem_nil,not_false_eq_true,List.nodup_nil,and_self,if_true,resVal,hr]
end Go.Proofs.Ytaibmipamkaljaa
end
section
open Go Go.HL
namespace Go.Proofs.Ytaibmipamkaljaa
open Go.Proofs.Try renaming prog → Tp
open Go.HL.HV renaming undef → Ud
def polF:Pol:={ pol with prim:=fun g=>if g == 66 then some minus66 else none }
theorem soundF (n:Nat):CallSound Tp (callN Tp polF n):=sound_prim _ (fun g f h=>by
  split at h
  · rename_i hg; cases h; rw [eq_of_beq hg]; exact minus_ok
  · cases h) n
theorem CallsTo.shared {P:Program} {pol:Pol} {g:FuncId} {fn:Func} {cd:Code} {args:List HV} {x:X} {E:Env} {H H':Heap} {v:HV} (hp:pol.prim g=none) (hf:P.funcs[g]?=some fn) (hb:fn.body=some cd) (hs:pol.shared g=true)
    (hrun:RunsTo P pol g cd (args0 args) H x (pol.keys g) E H') (hres:(fn.results.toList.all fun r=>match r with | .tmp t=>(pol.keys g).contains t | .cell t _=>(pol.keys g).contains t)=true) (hx:∀ i,x ≠ .exit i) (hv:resultsV P fn E H'=some v) :
    CallsTo (P:=P) (pol:=pol) g args H v (gc H.length (bnd v) H'):=by
  obtain ⟨m,h⟩:=hrun
  refine ⟨m+1,fun k hk=>?_⟩
  obtain ⟨k,rfl⟩:∃ n',k=n'+1:=⟨k - 1,by omega⟩
  obtain ⟨e1,g1,g2⟩:=h k k (by omega) (by omega)
  subst g2
  rw [resultsV_restr hres] at hv
  simp only [callN,doCall,hp,hf,hb,hs,if_true,sharedCall,g1]
  cases x with
  | exit i=>exact absurd rfl (hx i)
  | normal=>simp only [hv]
  | ret=>simp only [hv]
theorem CallsTo.from {pol:Pol} {g:FuncId} {args:List HV} {H H':Heap} {r:HV} (h:CallsTo (P:=Tp) (pol:=pol) g args H r H'):∃ N,∀ kf,N ≤ kf → callN Tp pol (kf+1) g args H=some (r,H'):=by
  obtain ⟨m,h⟩:=h
  exact ⟨m,fun kf hk=>h (kf+1) (by omega)⟩
theorem minus_at {g:Gr} {pol':Pol} (hp:pol'.prim 66=some minus66) {x y:El} (hg:grOk g) (hx:elOk g x) (hy:elOk g y) (H:Heap):∀ k,callN Tp pol' (k+1) 66 [encG g,encX x,encX y] H=some (encX (subT g x y),H):=fun k=>by
  rw [prim_call (pol:=pol') (g:=66) (F:=minus66) hp (rs:=[encG g,encX x,encX y]) rfl (res:=encX (subT g x y)) (by simp only [minus66,gxxF,decG_enc,decX_enc]; rw [if_pos ⟨hg,hx,hy⟩])]
  rfl
def partT (g:Gr):List El → Nat → Wt → List Nat
  | [],_,_=>[]
  | x :: l,i,w=>if w.1=0 then [] else if (w.1 - 1,subT g w.2 x) ∈ (rchT g l).headD [] then i :: partT g l (i+1) (w.1 - 1,subT g w.2 x) else partT g l (i+1) w
theorem partT_zero (g:Gr) (l:List El) (i:Nat) (w:Wt) (h:w.1=0):partT g l i w=[]:=by
  cases l with
  | nil=>rfl
  | cons x l=>simp only [partT,h,if_true]
theorem sub_add {g:Gr} (hg:grOk g) {x u:El} (hx:elOk g x) (hu:elOk g u):subT g (addT g u x) x=u:=by
  obtain ⟨m0,m1,sz⟩:=g
  obtain ⟨⟨g1,g2⟩,g3,g4⟩:=hg
  obtain ⟨x0,x1⟩:=x
  obtain ⟨u0,u1⟩:=u
  obtain ⟨⟨a1,a2⟩,a3,a4⟩:=hx
  obtain ⟨⟨b1,b2⟩,b3,b4⟩:=hu
  simp only at g1 g2 g3 g4 a1 a2 a3 a4 b1 b2 b3 b4
  have key:∀ (m a b:Int),0 ≤ a → a < m → 0 ≤ b → b < m → ((b+a) % m - a+m) % m=b:=by
    intro m a b h1 h2 h3 h4
    have e:((b+a) % m - a+m) % m=(b+m) % m:=by
      rw [show (b+a) % m - a+m=(b+a) % m+(m - a) by omega,Int.emod_add_emod]
      congr 1; omega
    rw [e,Int.add_emod_right]
    exact Int.emod_eq_of_lt h3 h4
  simp only [subT,addT]
  rw [key m0 x0 u0 a1 a2 b1 b2,key m1 x1 u1 a3 a4 b3 b4]
theorem part_next {g:Gr} (hg:grOk g) {x:El} {l:List El} (hx:elOk g x) {w:Wt} (h:w ∈ (rchT g (x :: l)).headD []) :
    (w.1 - 1,subT g w.2 x) ∈ (rchT g l).headD [] ∨ w ∈ (rchT g l).headD []:=by
  have h':w ∈ rchStep g x ((rchT g l).headD []):=h
  rw [mem_step] at h'
  obtain ⟨u,h1,h2⟩:=h'
  rcases h2 with rfl | rfl
  · exact .inr h1
  · refine .inl ?_
    have ho:=(head_ok hg l u h1).1
    have:((rchW g x u).1 - 1,subT g (rchW g x u).2 x)=u:=by
      refine Prod.ext ?_ ?_
      · show u.1+1 - 1=u.1; omega
      · exact sub_add hg hx ho
    rw [this]; exact h1
end Go.Proofs.Ytaibmipamkaljaa
end
section
open Go Go.HL
namespace Go.Proofs.Ytaibmipamkaljaa
set_option maxRecDepth 100000
open Go.Proofs.Try renaming prog → Tp
open Go.HL.HV renaming undef → Ud
noncomputable def B65:Code:=Try.f65.body.getD .skip
abbrev env65 (v0 v1 v2 v3 v4 v5 v6 v8 v9 v10:HV):Env:=[(0,v0),(1,v1),(2,v2),(3,v3),(4,v4),(5,v5),(6,v6),(8,v8),(9,v9),(10,v10)]
theorem pt_a_0 (N:Nat) (i:Int) (w0 w1 w2:Int) (H:Heap) (hb:Nat) {H0:Heap} (g0:some (newV (.agg [.i w0,.i w1,.i w2]) H)=some (.ptr hb 0 0 1,H0)):RT polF 65 (sub [0] B65) [(0,.i i),(1,.agg [.i w0,.i w1,.i w2]),(2,.ptr 0 0 0 1),(3,.ptr 1 0 0 1),(4,.ptr 2 0 0 1),(5,.ptr 4 0 0 1),(6,.ptr 6 0 0 1)] H .normal (env65 (.i i) (.agg [.i w0,.i w1,.i w2]) (.ptr 0 0 0 1) (.ptr 1 0 0 1) (.ptr 2 0 0 1) (.ptr 4 0 0 1) (.ptr 6 0 0 1) (.ptr hb 0 0 1) Ud Ud) H0 :=
  RunsTo.hin N 60 [⟨0,0,.ptr hb 0 0 1,H0⟩] fun kf hk=>⟨_,by kernel_rfl,(oC (g0) .nil)⟩
theorem pt_b_0 (N:Nat) (i:Int) (w0 w1 w2:Int) (H:Heap) (hb:Nat) {y9 y10:HV}(g0:loadV Tp H 3 (.ptr hb 0 0 1)=some (.i w0)) (g1:w0=0):RT polF 65 (sub [1,0] B65) (env65 (.i i) (.agg [.i w0,.i w1,.i w2]) (.ptr 0 0 0 1) (.ptr 1 0 0 1) (.ptr 2 0 0 1) (.ptr 4 0 0 1) (.ptr 6 0 0 1) (.ptr hb 0 0 1) y9 y10) H .ret (env65 (.i i) (.agg [.i w0,.i w1,.i w2]) (.ptr 0 0 0 1) (.ptr 1 0 0 1) (.ptr 2 0 0 1) (.ptr 4 0 0 1) (.ptr 6 0 0 1) (.ptr hb 0 0 1) y9 y10) H :=
  RunsTo.hin N 60 [⟨1,1,.i w0,H⟩,⟨1,2,.bool true,H⟩] fun kf hk=>⟨_,by kernel_rfl,(oP H g0 (oB H (decide_eq_true g1) .nil))⟩
theorem pt_b_1 (N:Nat) (i:Int) (w0 w1 w2:Int) (H:Heap) (hb:Nat) {y9 y10:HV}(g0:loadV Tp H 3 (.ptr hb 0 0 1)=some (.i w0)) (g1:¬ (w0=0)):RT polF 65 (sub [1,0] B65) (env65 (.i i) (.agg [.i w0,.i w1,.i w2]) (.ptr 0 0 0 1) (.ptr 1 0 0 1) (.ptr 2 0 0 1) (.ptr 4 0 0 1) (.ptr 6 0 0 1) (.ptr hb 0 0 1) y9 y10) H .normal (env65 (.i i) (.agg [.i w0,.i w1,.i w2]) (.ptr 0 0 0 1) (.ptr 1 0 0 1) (.ptr 2 0 0 1) (.ptr 4 0 0 1) (.ptr 6 0 0 1) (.ptr hb 0 0 1) y9 y10) H :=
  RunsTo.hin N 60 [⟨1,1,.i w0,H⟩,⟨1,2,.bool false,H⟩] fun kf hk=>⟨_,by kernel_rfl,(oP H g0 (oB H (decide_eq_false g1) .nil))⟩
theorem pt_c_0 (N:Nat) (i:Int) (w0 w1 w2:Int) (H:Heap) (hb:Nat) {y9 y10:HV}:RT polF 65 (sub [1,1,0] B65) (env65 (.i i) (.agg [.i w0,.i w1,.i w2]) (.ptr 0 0 0 1) (.ptr 1 0 0 1) (.ptr 2 0 0 1) (.ptr 4 0 0 1) (.ptr 6 0 0 1) (.ptr hb 0 0 1) y9 y10) H .normal (env65 (.i i) (.agg [.i w0,.i w1,.i w2]) (.ptr 0 0 0 1) (.ptr 1 0 0 1) (.ptr 2 0 0 1) (.ptr 4 0 0 1) (.ptr 6 0 0 1) (.ptr hb 0 0 1) (.i i) y10) H :=
  RunsTo.hin N 60 [] fun kf hk=>⟨_,by kernel_rfl,.nil⟩
theorem pt_e_0 (N:Nat) (i:Int) (w0 w1 w2:Int) (H:Heap) (hb j tb:Nat) (m0 m1 sz:Int) (l:List HV) {y10:HV} {x0:Int} {x1:Int} {z0:Int} {z1:Int} {H0:Heap} {H1:Heap} (g0:loadV Tp H 3 (.ptr hb 0 0 1)=some (.i w0)) (g1:loadV Tp H 66 (.ptr 0 0 0 1)=some (.agg [.i m0,.i m1,.i sz])) (g2:loadV Tp H 64 (.ptr hb 0 1 1)=some (.agg [.i w1,.i w2])) (g3:loadV Tp H 67 (.ptr 1 0 0 1)=some (.imm .arg 2 l)) (g4:idxV Tp 67 (.imm .arg 2 l) (.i (j:Int))=some (.vptr (.agg [.i x0,.i x1]))) (g5:∀ kf,callN Tp polF (kf+1) 66 [.agg [.i m0,.i m1,.i sz],.agg [.i w1,.i w2],.agg [.i x0,.i x1]] H=some (.agg [.i z0,.i z1],H)) (g6:some (newV (.agg [.i 0,.i 0,.i 0]) H)=some (.ptr tb 0 0 1,H0)) (g7:storeV Tp H0 72 (.ptr tb 0 0 1) (.agg [.i (IntKind.i64.wrap (w0 - 1)),.i z0,.i z1])=some H1) (gS4:∀ kf,(recL ((loadV Tp H 3 (.ptr hb 0 0 1)).map (fun v=>(v,(H:Heap)))) ((loadV Tp H0 3 (.ptr hb 0 0 1)).map (fun v=>(v,(H0:Heap)))) H H0 && (recL ((loadV Tp H 66 (.ptr 0 0 0 1)).map (fun v=>(v,(H:Heap)))) ((loadV Tp H0 66 (.ptr 0 0 0 1)).map (fun v=>(v,(H0:Heap)))) H H0 && (recL ((loadV Tp H 64 (.ptr hb 0 1 1)).map (fun v=>(v,(H:Heap)))) ((loadV Tp H0 64 (.ptr hb 0 1 1)).map (fun v=>(v,(H0:Heap)))) H H0 && (recL ((loadV Tp H 67 (.ptr 1 0 0 1)).map (fun v=>(v,(H:Heap)))) ((loadV Tp H0 67 (.ptr 1 0 0 1)).map (fun v=>(v,(H0:Heap)))) H H0 && ((same (.agg [.i x0,.i x1]) (.agg [.i x0,.i x1]) && sameH (H:Heap) H && sameH (H0:Heap) H0) && (recL (callN Tp polF (kf+1) 66 [.agg [.i m0,.i m1,.i sz],.agg [.i w1,.i w2],.agg [.i x0,.i x1]] H) (callN Tp polF (kf+1) 66 [.agg [.i m0,.i m1,.i sz],.agg [.i w1,.i w2],.agg [.i x0,.i x1]] H) H H && (recL (callN Tp polF (kf+1) 66 [.agg [.i m0,.i m1,.i sz],.agg [.i w1,.i w2],.agg [.i x0,.i x1]] H) (callN Tp polF (kf+1) 66 [.agg [.i m0,.i m1,.i sz],.agg [.i w1,.i w2],.agg [.i x0,.i x1]] H0) H H0 && true)))))))=true):RT polF 65 (sub [1,1,1,0,0,0,0,0] B65) (env65 (.i i) (.agg [.i w0,.i w1,.i w2]) (.ptr 0 0 0 1) (.ptr 1 0 0 1) (.ptr 2 0 0 1) (.ptr 4 0 0 1) (.ptr 6 0 0 1) (.ptr hb 0 0 1) (.i (j:Int)) y10) H .normal (env65 (.i i) (.agg [.i w0,.i w1,.i w2]) (.ptr 0 0 0 1) (.ptr 1 0 0 1) (.ptr 2 0 0 1) (.ptr 4 0 0 1) (.ptr 6 0 0 1) (.ptr hb 0 0 1) (.i (j:Int)) (.ptr tb 0 0 1)) H1 :=
  RunsTo.hin N 60 [⟨4,1,.i w0,H⟩,⟨4,3,.agg [.i m0,.i m1,.i sz],H⟩,⟨4,5,.agg [.i w1,.i w2],H⟩,⟨4,6,.imm .arg 2 l,H⟩,⟨4,8,.vptr (.agg [.i x0,.i x1]),H⟩,⟨4,10,.agg [.i z0,.i z1],H⟩,⟨4,12,.ptr tb 0 0 1,H0⟩,⟨4,13,.tuple [],H1⟩] fun kf hk=>⟨_,by kernel_rfl,(oC (gS4 kf) (oP H g0 (oP H g1 (oP H g2 (oP H g3 (oP H g4 (oC (g5 kf) (oC (g6) (oS g7 .nil)))))))))⟩
theorem pt_f_0 (N:Nat) (i:Int) (w0 w1 w2:Int) (H:Heap) (hb j tb:Nat) (u0 u1 u2:Int) (rm ks vs:List HV) (n:Nat) {H0:Heap} {H1:Heap} {H2:Heap} (g0:loadV Tp H 69 (.ptr 2 0 0 1)=some (.imm .arg 1 rm)) (g1:idxV Tp 69 (.imm .arg 1 rm) (.i (IntKind.i64.wrap ((j:Int)+1)))=some (.vptr (.imap .arg ks vs))) (g2:loadV Tp H 72 (.ptr tb 0 0 1)=some (.agg [.i u0,.i u1,.i u2])) (g3:lookV Tp 91 ks vs (.agg [.i u0,.i u1,.i u2]) false=some (.bool true)) (g4:loadV Tp H 22 (.ptr 4 0 0 1)=some (.sl 5 0 n none n 1)) (g5:appV H 1 8 (.sl 5 0 n none n 1) [.i (j:Int)]=some (.sl 5 0 (n+1) none (n+1) 1,H0)) (g6:storeV Tp H0 22 (.ptr 4 0 0 1) (.sl 5 0 (n+1) none (n+1) 1)=some H1) (g7:loadV Tp H1 90 (.ptr 6 0 0 1)=some (.func 65 [] [.ptr 0 0 0 1,.ptr 1 0 0 1,.ptr 2 0 0 1,.ptr 4 0 0 1,.ptr 6 0 0 1])) (g8:loadV Tp H1 72 (.ptr tb 0 0 1)=some (.agg [.i u0,.i u1,.i u2])) (g9:∀ kf,N ≤ kf → callN Tp polF (kf+1) 65 [.i (IntKind.i64.wrap ((j:Int)+1)),.agg [.i u0,.i u1,.i u2],.ptr 0 0 0 1,.ptr 1 0 0 1,.ptr 2 0 0 1,.ptr 4 0 0 1,.ptr 6 0 0 1] H1=some (.tuple [],H2)):RT polF 65 (sub [1,1,1,0,0,0,0,1] B65) (env65 (.i i) (.agg [.i w0,.i w1,.i w2]) (.ptr 0 0 0 1) (.ptr 1 0 0 1) (.ptr 2 0 0 1) (.ptr 4 0 0 1) (.ptr 6 0 0 1) (.ptr hb 0 0 1) (.i (j:Int)) (.ptr tb 0 0 1)) H .ret (env65 (.i i) (.agg [.i w0,.i w1,.i w2]) (.ptr 0 0 0 1) (.ptr 1 0 0 1) (.ptr 2 0 0 1) (.ptr 4 0 0 1) (.ptr 6 0 0 1) (.ptr hb 0 0 1) (.i (j:Int)) (.ptr tb 0 0 1)) H2 :=
  RunsTo.hin N 60 [⟨5,0,.imm .arg 1 rm,H⟩,⟨5,3,.vptr (.imap .arg ks vs),H⟩,⟨5,5,.agg [.i u0,.i u1,.i u2],H⟩,⟨5,6,.bool true,H⟩,⟨6,0,.sl 5 0 n none n 1,H⟩,⟨6,3,.sl 5 0 (n+1) none (n+1) 1,H0⟩,⟨6,4,.tuple [],H1⟩,⟨7,0,.func 65 [] [.ptr 0 0 0 1,.ptr 1 0 0 1,.ptr 2 0 0 1,.ptr 4 0 0 1,.ptr 6 0 0 1],H1⟩,⟨7,3,.agg [.i u0,.i u1,.i u2],H1⟩,⟨7,4,.tuple [],H2⟩] fun kf hk=>⟨_,by kernel_rfl,(oP H g0 (oP H g1 (oP H g2 (oP H g3 (oP H g4 (oC (g5) (oS g6 (oP H1 g7 (oP H1 g8 (oC (g9 kf (by omega)) .nil))))))))))⟩
theorem pt_f_1 (N:Nat) (i:Int) (w0 w1 w2:Int) (H:Heap) (hb j tb:Nat) (u0 u1 u2:Int) (rm ks vs:List HV) (n:Nat)(g0:loadV Tp H 69 (.ptr 2 0 0 1)=some (.imm .arg 1 rm)) (g1:idxV Tp 69 (.imm .arg 1 rm) (.i (IntKind.i64.wrap ((j:Int)+1)))=some (.vptr (.imap .arg ks vs))) (g2:loadV Tp H 72 (.ptr tb 0 0 1)=some (.agg [.i u0,.i u1,.i u2])) (g3:lookV Tp 91 ks vs (.agg [.i u0,.i u1,.i u2]) false=some (.bool false)):RT polF 65 (sub [1,1,1,0,0,0,0,1] B65) (env65 (.i i) (.agg [.i w0,.i w1,.i w2]) (.ptr 0 0 0 1) (.ptr 1 0 0 1) (.ptr 2 0 0 1) (.ptr 4 0 0 1) (.ptr 6 0 0 1) (.ptr hb 0 0 1) (.i (j:Int)) (.ptr tb 0 0 1)) H .normal (env65 (.i i) (.agg [.i w0,.i w1,.i w2]) (.ptr 0 0 0 1) (.ptr 1 0 0 1) (.ptr 2 0 0 1) (.ptr 4 0 0 1) (.ptr 6 0 0 1) (.ptr hb 0 0 1) (.i (j:Int)) (.ptr tb 0 0 1)) H :=
  RunsTo.hin N 60 [⟨5,0,.imm .arg 1 rm,H⟩,⟨5,3,.vptr (.imap .arg ks vs),H⟩,⟨5,5,.agg [.i u0,.i u1,.i u2],H⟩,⟨5,6,.bool false,H⟩] fun kf hk=>⟨_,by kernel_rfl,(oP H g0 (oP H g1 (oP H g2 (oP H g3 .nil))))⟩
theorem pt_g_0 (N:Nat) (i:Int) (w0 w1 w2:Int) (H:Heap) (hb j:Nat) {y10:HV}:RT polF 65 (sub [1,1,1,0,0,1] B65) (env65 (.i i) (.agg [.i w0,.i w1,.i w2]) (.ptr 0 0 0 1) (.ptr 1 0 0 1) (.ptr 2 0 0 1) (.ptr 4 0 0 1) (.ptr 6 0 0 1) (.ptr hb 0 0 1) (.i (j:Int)) y10) H .normal (env65 (.i i) (.agg [.i w0,.i w1,.i w2]) (.ptr 0 0 0 1) (.ptr 1 0 0 1) (.ptr 2 0 0 1) (.ptr 4 0 0 1) (.ptr 6 0 0 1) (.ptr hb 0 0 1) (.i (IntKind.i64.wrap ((j:Int)+1))) y10) H :=
  RunsTo.hin N 60 [] fun kf hk=>⟨_,by kernel_rfl,.nil⟩
end Go.Proofs.Ytaibmipamkaljaa
end
section
open Go Go.HL
namespace Go.Proofs.Ytaibmipamkaljaa
open Go.Proofs.Try renaming prog → Tp
open Go.HL.HV renaming undef → Ud
def encA (K:List Wt):HV:=.imap .arg (K.map encW) (K.map fun _=>.bool true)
abbrev bW (w:Wt):Blk:=.arr 3 [encW w] true 0
abbrev fv65:HV:=.func 65 [] [.ptr 0 0 0 1,.ptr 1 0 0 1,.ptr 2 0 0 1,.ptr 4 0 0 1,.ptr 6 0 0 1]
abbrev memP (g:Gr) (l:List El) (w:Wt) (os:List Int) (T:Heap):Heap :=
  bG g :: .arr 1 [.imm .arg 2 (l.map encX)] true 0 :: .arr 1 [.imm .arg 1 ((rchT g l).map encA)] true 0 :: bW w :: .arr 1 [.sl 5 0 os.length none os.length 1] true 6 :: bI os :: .arr 1 [fv65] true 7 :: T
theorem same_encX (x:El):same (encX x) (encX x)=true:=by simp [encX,same,sameL]
theorem same_encA (K:List Wt):same (encA K) (encA K)=true:=by
  have h:=same_mapK K
  simp only [mapK,sameH,beq_self_eq_true,Bool.and_true,Bool.and_eq_true] at h
  simp [encA,same,h.1,h.2]
theorem same_mapL {α:Type} {f:α → HV} (hf:∀ a,same (f a) (f a)=true) (l:List α):sameL (l.map f) (l.map f)=true:=sameL_all fun v hv=>by
  obtain ⟨k,_,rfl⟩:=List.mem_map.1 hv
  exact hf k
theorem same_mem (g:Gr) (l:List El) (w:Wt) (os:List Int) {T:Heap} (hT:sameH T T=true):sameH (memP g l w os T) (memP g l w os T)=true:=by
  refine sameH_cons (by simp [sameH,sameL,same,encG]) (sameH_cons ?_ (sameH_cons ?_ (sameH_cons ?_ (sameH_cons ?_ (sameH_cons ?_ (sameH_cons ?_ hT))))))
  · simp [sameH,sameL,same,same_mapL same_encX]
  · simp [sameH,sameL,same,same_mapL same_encA]
  · simp [sameH,sameL,same_encW]
  · simp [sameH,sameL,same]
  · simp [sameH,same_mapL (f:=encI) (fun a=>by simp [encI,same])]
  · simp [sameH,sameL,same]
theorem same_T {T:Heap} (hT:sameH T T=true) (w:Wt):sameH (T ++ [bW w]) (T ++ [bW w])=true:=by
  rw [sameH_iff] at hT ⊢
  intro B hB
  rcases List.mem_append.1 hB with h | h
  · exact hT B h
  · rw [List.mem_singleton] at h; subst h; simp [sameH,sameL,same_encW]
theorem mxs_T:∀ {T:Heap} (_:mxs T=0) (w:Wt),mxs (T ++ [bW w])=0
  | [],_,w=>rfl
  | b :: T,h,w=>by
    simp only [mxs] at h
    simp only [List.cons_append,mxs,mxs_T (T:=T) (by omega) w]; omega
theorem mxs_mem (g:Gr) (l:List El) (w:Wt) (os:List Int) {T:Heap} (h:mxs T=0):mxs (memP g l w os T) ≤ 7:=by simp only [memP,mxs,Blk.mx,h]; omega
theorem rch_drop (g:Gr):∀ (l:List El) (k:Nat),k ≤ l.length → rchT g (l.drop k)=(rchT g l).drop k
  | l,0,_=>by simp
  | [],k+1,h=>by simp at h
  | x :: l,k+1,h=>by
    simp only [List.drop_succ_cons,rchT]
    exact rch_drop g l k (by simpa using h)
theorem rch_at (g:Gr) {l:List El} {k:Nat} (h:k ≤ l.length):(rchT g l).getD k []=(rchT g (l.drop k)).headD []:=by
  rw [rch_drop g l k h]
  simp [List.getD,List.headD_eq_head?_getD,List.head?_drop]
theorem ixA {g:Gr} {l:List El} {k:Nat} (h:k ≤ l.length):idxV Tp 69 (.imm .arg 1 ((rchT g l).map encA)) (.int .i64 (k:Int))=some (.vptr (encA ((rchT g (l.drop k)).headD []))):=by
  refine idx_imm u69 z91 (by omega) ?_
  rw [Int.toNat_natCast,List.getElem?_map,← rch_at g h]
  have:k < (rchT g l).length:=by rw [rch_len]; omega
  simp [List.getD,List.getElem?_eq_getElem this]
def CallP (g:Gr) (l:List El) (wb:Wt) (d:Nat):Prop:=∀ (i:Nat) (w:Wt) (os:List Int) (T:Heap),i+d=l.length → mxs T=0 → sameH T T=true → w ∈ (rchT g (l.drop i)).headD [] → os.length+d ≤ 1000 →
  CallsTo (P:=Tp) (pol:=polF) 65 [.int .i64 (i:Int),encW w,.ptr 0 0 0 1,.ptr 1 0 0 1,.ptr 2 0 0 1,.ptr 4 0 0 1,.ptr 6 0 0 1] (memP g l wb os T) (.tuple []) (memP g l wb (os ++ (partT g (l.drop i) i w).map fun q=>((q:Nat):Int)) T)
abbrev ptE (i:Int) (w:Wt) (hb:Nat) (v9 v10:HV):Env:=(env65 (.int .i64 i) (encW w) (.ptr 0 0 0 1) (.ptr 1 0 0 1) (.ptr 2 0 0 1) (.ptr 4 0 0 1) (.ptr 6 0 0 1) (.ptr hb 0 0 1) v9 v10)
section
variable {g:Gr} {l:List El} {wb:Wt}
theorem get_last {g:Gr} {l:List El} {wb w:Wt} {os:List Int} {T:Heap}:(memP g l wb os (T ++ [bW w]))[7+T.length]?=some (bW w):=by
  have:memP g l wb os (T ++ [bW w])=memP g l wb os T ++ [bW w]:=rfl
  rw [this,List.getElem?_append_right (by simp only [List.length_cons]; omega)]
  have:7+T.length - (memP g l wb os T).length=0:=by simp only [List.length_cons]; omega
  rw [this]; rfl
theorem ld0 {H:Heap} {b:Nat} {w:Wt} (h:H[b]?=some (bW w)):loadV Tp H 3 (.ptr b 0 0 1)=some (.int .i64 w.1):=load_cell (b:=b) (off:=0) (cs:=[.int .i64 w.1,.int .i64 w.2.1,.int .i64 w.2.2]) h rfl rfl a3 i3 rfl
theorem ld1 {H:Heap} {b:Nat} {w:Wt} (h:H[b]?=some (bW w)):loadV Tp H 64 (.ptr b 0 1 1)=some (encX w.2):=by
  have e:loadV Tp H 64 (.ptr b 0 1 1)=partV Tp 64 [.int .i64 w.1,.int .i64 w.2.1,.int .i64 w.2.2] 1:=by
    simp only [loadV,h,List.length_cons,List.length_nil,if_true]
    show partV Tp 64 (cellsOf (encW w)) 1=_
    simp only [encW,cellsOf]
  rw [e]
  show _=_
  kernel_rfl
theorem pt_loop (hg:grOk g) (hl:∀ x ∈ l,elOk g x) (hll:l.length ≤ 1000) {D:Nat} (IH:∀ d,d < D → CallP g l wb d) {i:Int} {w:Wt} {os:List Int} {T:Heap} (hT:mxs T=0) (hS:sameH T T=true) (hw:w.1 ≠ 0) (ho:os.length+D ≤ 1000) :
    ∀ k j:Nat,j+k=l.length → k ≤ D → w ∈ (rchT g (l.drop j)).headD [] →
    ∃ E T',mxs T'=0∧RT polF 65 (sub [1,1,1,0] B65) (ptE i w (7+T.length) (.int .i64 (j:Int)) Ud) (memP g l wb os (T ++ [bW w])) .ret E (memP g l wb (os ++ (partT g (l.drop j) j w).map fun q=>((q:Nat):Int)) (T ++ T')):=by
  intro k
  induction k with
  | zero =>
    intro j hj hk hm
    have:j=l.length:=by omega
    rw [this,List.drop_length] at hm
    simp [rchT] at hm
    rw [hm] at hw
    exact absurd rfl hw
  | succ k ih =>
    intro j hj hk hm
    have hjl:j < l.length:=by omega
    have hd:l.drop j=l.getD j (0,0) :: l.drop (j+1):=by
      rw [List.drop_eq_getElem_cons hjl]; simp [List.getD,List.getElem?_eq_getElem hjl]
    have hx:elOk g (l.getD j (0,0)):=by
      have:l.getD j (0,0)=l[j]:=by simp [List.getD,List.getElem?_eq_getElem hjl]
      rw [this]; exact hl _ (List.getElem_mem _)
    have hwk:=head_ok hg (l.drop j) w hm
    have hw2:elOk g w.2:=hwk.1
    have hwb:0 ≤ w.1∧w.1 ≤ 1000:=⟨hwk.2.1,by have:=hwk.2.2; rw [List.length_drop] at this; omega⟩
    rw [hd] at hm
    have hn:=part_next hg hx hm
    -- the round's key
    have hH:=get_last (g:=g) (l:=l) (wb:=wb) (w:=w) (os:=os) (T:=T)
    have hS1:=same_T hS w
    have nv:newV (.agg [.int .i64 0,.int .i64 0,.int .i64 0]) (memP g l wb os (T ++ [bW w]))=(.ptr (memP g l wb os (T ++ [bW w])).length 0 0 1,memP g l wb os (T ++ [bW w]) ++ [.arr 3 [.agg [.int .i64 0,.int .i64 0,.int .i64 0]] true 0]):=rfl
    have hS2:sameH (memP g l wb os (T ++ [bW w]) ++ [.arr 3 [.agg [.int .i64 0,.int .i64 0,.int .i64 0]] true 0]) (memP g l wb os (T ++ [bW w]) ++ [.arr 3 [.agg [.int .i64 0,.int .i64 0,.int .i64 0]] true 0])=true:=same_mem g l wb os (same_T hS1 (0,0,0))
    have st:=st_box (memP g l wb os (T ++ [bW w])) (w.1 - 1,subT g w.2 (l.getD j (0,0)))
    have hH':(memP g l wb os (T ++ [bW w]) ++ [.arr 3 [.agg [.int .i64 0,.int .i64 0,.int .i64 0]] true 0])[7+T.length]?=some (bW w):=by
      rw [List.getElem?_append_left (lt_of_get hH)]; exact hH
    have m1:=minus_at (pol':=polF) (g:=g) (by kernel_rfl) hg hw2 hx (memP g l wb os (T ++ [bW w]))
    have m2:=minus_at (pol':=polF) (g:=g) (by kernel_rfl) hg hw2 hx (memP g l wb os (T ++ [bW w]) ++ [.arr 3 [.agg [.int .i64 0,.int .i64 0,.int .i64 0]] true 0])
    have hw1:IntKind.i64.wrap (w.1 - 1)=w.1 - 1:=wrap_id (by omega) (by omega)
    have gg:loadV Tp (memP g l wb os (T ++ [bW w])) 66 (.ptr 0 0 0 1)=some (encG g):=load_agg (b:=0) rfl rfl rfl a66 z66
    have gg':loadV Tp (memP g l wb os (T ++ [bW w]) ++ [.arr 3 [.agg [.int .i64 0,.int .i64 0,.int .i64 0]] true 0]) 66 (.ptr 0 0 0 1)=some (encG g):=load_agg (b:=0) rfl rfl rfl a66 z66
    have gl:loadV Tp (memP g l wb os (T ++ [bW w])) 67 (.ptr 1 0 0 1)=some (.imm .arg 2 (l.map encX)):=by kernel_rfl
    have gl':loadV Tp (memP g l wb os (T ++ [bW w]) ++ [.arr 3 [.agg [.int .i64 0,.int .i64 0,.int .i64 0]] true 0]) 67 (.ptr 1 0 0 1)=some (.imm .arg 2 (l.map encX)):=by kernel_rfl
    have e:=pt_e_0 0 i w.1 w.2.1 w.2.2 (memP g l wb os (T ++ [bW w])) (7+T.length) j (memP g l wb os (T ++ [bW w])).length g.1 g.2.1 g.2.2 (l.map encX) (y10:=Ud)
      (x0:=(l.getD j (0,0)).1) (x1:=(l.getD j (0,0)).2) (z0:=(subT g w.2 (l.getD j (0,0))).1) (z1:=(subT g w.2 (l.getD j (0,0))).2) (H0:=memP g l wb os (T ++ [bW w]) ++ [.arr 3 [.agg [.int .i64 0,.int .i64 0,.int .i64 0]] true 0]) (H1:=memP g l wb os (T ++ [bW w]) ++ [bW (w.1 - 1,subT g w.2 (l.getD j (0,0)))])
      (ld0 hH) gg (ld1 hH) gl (gX hjl) m1 (by rw [nv]) (by rw [hw1]; exact st) (fun kf=>by
        have r1:=m1 kf
        have r2:=m2 kf
        have q:=same_encX (subT g w.2 (l.getD j (0,0)))
        have q1:=same_encX w.2
        have q2:=same_mapL same_encX l
        have q3:same (encG g) (encG g)=true:=by simp [encG,same,sameL]
        have q4:=same_encX (l.getD j (0,0))
        have t1:=same_mem g l wb os hS1
        simp only [encG,encX] at r1 r2 q q1 q3 q4 gg gg'
        have k1:=ld1 hH
        have k2:=ld1 hH'
        simp only [encX] at k1 k2
        simp only [recL,ld0 hH,ld0 hH',gg,gg',k1,k2,gl,gl',r1,r2,Option.map,t1,hS2,q,q1,q2,q3,q4,same,sameL,beq_self_eq_true,Bool.and_self])
    have hM:memP g l wb os (T ++ [bW w]) ++ [bW (w.1 - 1,subT g w.2 (l.getD j (0,0)))]=memP g l wb os (T ++ [bW w] ++ [bW (w.1 - 1,subT g w.2 (l.getD j (0,0)))]):=rfl
    rw [hM] at e
    have hlen:(memP g l wb os (T ++ [bW w])).length=7+(T ++ [bW w]).length:=by simp only [List.length_cons]; omega
    have hK:=get_last (g:=g) (l:=l) (wb:=wb) (w:=(w.1 - 1,subT g w.2 (l.getD j (0,0)))) (os:=os) (T:=T ++ [bW w])
    rw [← hlen] at hK
    have gR:loadV Tp (memP g l wb os (T ++ [bW w] ++ [bW (w.1 - 1,subT g w.2 (l.getD j (0,0)))])) 69 (.ptr 2 0 0 1)=some (.imm .arg 1 ((rchT g l).map encA)):=by kernel_rfl
    have lk:=look_k keyW ((rchT g (l.drop (j+1))).headD []) (w.1 - 1,subT g w.2 (l.getD j (0,0)))
    have ix:=ixA (g:=g) (l:=l) (k:=j+1) (by omega)
    have ws:IntKind.i64.wrap ((j:Int)+1)=((j+1:Nat):Int):=wrap_succ (by omega)
    by_cases c:(w.1 - 1,subT g w.2 (l.getD j (0,0))) ∈ (rchT g (l.drop (j+1))).headD []
    · have cal:=IH k (by omega) (j+1) (w.1 - 1,subT g w.2 (l.getD j (0,0))) (os ++ [(j:Int)]) (T ++ [bW w] ++ [bW (w.1 - 1,subT g w.2 (l.getD j (0,0)))]) (by omega) (mxs_T (mxs_T hT _) _) (same_T hS1 _) c (by simp; omega)
      obtain ⟨N,cal⟩:=CallsTo.from cal
      simp only [c,decide_true] at lk
      have hK2:=get_last (g:=g) (l:=l) (wb:=wb) (w:=(w.1 - 1,subT g w.2 (l.getD j (0,0)))) (os:=os ++ [(j:Int)]) (T:=T ++ [bW w])
      rw [← hlen] at hK2
      have ap:=app_ints (H:=memP g l wb os (T ++ [bW w] ++ [bW (w.1 - 1,subT g w.2 (l.getD j (0,0)))])) (b:=5) (o:=os) (xs:=[(j:Int)]) rfl (by simp; omega) (by simp)
      have s:=pt_f_0 N i w.1 w.2.1 w.2.2 (memP g l wb os (T ++ [bW w] ++ [bW (w.1 - 1,subT g w.2 (l.getD j (0,0)))])) (7+T.length) j (memP g l wb os (T ++ [bW w])).length (w.1 - 1) (subT g w.2 (l.getD j (0,0))).1 (subT g w.2 (l.getD j (0,0))).2 ((rchT g l).map encA) _ _ os.length
        (H0:=(memP g l wb os (T ++ [bW w] ++ [bW (w.1 - 1,subT g w.2 (l.getD j (0,0)))])).set 5 (bI (os ++ [(j:Int)]))) (H1:=memP g l wb (os ++ [(j:Int)]) (T ++ [bW w] ++ [bW (w.1 - 1,subT g w.2 (l.getD j (0,0)))]))
        gR (by rw [ws]; exact ix) (g72 hK) lk (by kernel_rfl) (ap.trans (by rw [List.length_append]; rfl)) (by simp only [memP,List.length_append,List.length_singleton]; kernel_rfl) (by kernel_rfl) (g72 hK2) (by rw [ws]; exact cal)
      have tt:=lpo (sqo (RunsTo.block_ret (i:=1) (c:=sub [1,1,1,0,0,0] B65) (sq (e) (s) (c:=sub [1,1,1,0,0,0,0] B65)) (by kernel_rfl)) (c:=sub [1,1,1,0,0] B65) (b:=sub [1,1,1,0,0,1] B65)) (c:=sub [1,1,1,0] B65)
      rw [List.append_assoc T] at tt
      rw [hd,partT,if_neg hw,if_pos c,List.map_cons,List.append_cons os]
      exact ⟨_,[bW w] ++ [bW (w.1 - 1,subT g w.2 (l.getD j (0,0)))],rfl,tt⟩
    · rcases hn with hn | hn
      · exact absurd hn c
      simp only [c,decide_false] at lk
      have s:=pt_f_1 0 i w.1 w.2.1 w.2.2 (memP g l wb os (T ++ [bW w] ++ [bW (w.1 - 1,subT g w.2 (l.getD j (0,0)))])) (7+T.length) j (memP g l wb os (T ++ [bW w])).length (w.1 - 1) (subT g w.2 (l.getD j (0,0))).1 (subT g w.2 (l.getD j (0,0))).2 ((rchT g l).map encA) _ _ 0
        gR (by rw [ws]; exact ix) (g72 hK) lk
      have s3:=pt_g_0 0 i w.1 w.2.1 w.2.2 (memP g l wb os (T ++ [bW w] ++ [bW (w.1 - 1,subT g w.2 (l.getD j (0,0)))])) (7+T.length) j (y10:=.ptr (memP g l wb os (T ++ [bW w])).length 0 0 1)
      rw [ws] at s3
      obtain ⟨E,T',hT',h⟩:=ih (j+1) (by omega) (by omega) hn
      refine ⟨E,T',hT',?_⟩
      rw [hd,partT,if_neg hw,if_neg c]
      have hgc:gc (memP g l wb os (T ++ [bW w])).length (bndE (ptE i w (7+T.length) (.int .i64 ((j+1:Nat):Int)) Ud)) (memP g l wb os (T ++ [bW w] ++ [bW (w.1 - 1,subT g w.2 (l.getD j (0,0)))]))=memP g l wb os (T ++ [bW w]):=by
        have h1:=mxs_mem g l wb os (mxs_T (mxs_T hT w) (w.1 - 1,subT g w.2 (l.getD j (0,0))))
        have h2:bndE (ptE i w (7+T.length) (.int .i64 ((j+1:Nat):Int)) Ud) ≤ 8+T.length:=by
          simp only [bndE,bnd,encW,bndL]; omega
        unfold gc
        have h3:max (memP g l wb os (T ++ [bW w])).length (max (bndE (ptE i w (7+T.length) (.int .i64 ((j+1:Nat):Int)) Ud)) (mxs (memP g l wb os (T ++ [bW w] ++ [bW (w.1 - 1,subT g w.2 (l.getD j (0,0)))]))))=(memP g l wb os (T ++ [bW w])).length:=by
          have:(memP g l wb os (T ++ [bW w])).length=8+T.length:=by simp only [List.length_cons,List.length_append,List.length_nil]; omega
          omega
        rw [h3,← hM,List.take_append_of_le_length (Nat.le_refl _),List.take_length]
      exact lop (sq (RunsTo.block_normal (i:=1) (c:=sub [1,1,1,0,0,0] B65) (sq (e) (s) (c:=sub [1,1,1,0,0,0,0] B65)) (by kernel_rfl)) (s3) (c:=sub [1,1,1,0,0] B65)) hgc (h)
theorem res65:Try.f65.results.toList=[]:=by kernel_rfl
theorem gc_mem {g:Gr} {l:List El} {wb:Wt} {os os':List Int} {T T':Heap} (hT:mxs T=0) (hT':mxs T'=0):gc (memP g l wb os T).length 0 (memP g l wb os' (T ++ T'))=memP g l wb os' T:=by
  have hm:mxs (T ++ T')=0:=by
    clear os os'
    induction T with
    | nil=>exact hT'
    | cons b T ih=>simp only [mxs] at hT; simp only [List.cons_append,mxs,ih (by omega)]; omega
  have h1:=mxs_mem g l wb os' hm
  have h2:(memP g l wb os T).length=(memP g l wb os' T).length:=rfl
  have h3:max (memP g l wb os T).length (max 0 (mxs (memP g l wb os' (T ++ T'))))=(memP g l wb os' T).length:=by
    rw [h2]
    have:(memP g l wb os' T).length=7+T.length:=by simp only [List.length_cons]; omega
    omega
  unfold gc
  rw [h3,show memP g l wb os' (T ++ T')=memP g l wb os' T ++ T' from rfl,List.take_append_of_le_length (Nat.le_refl _),List.take_length]
theorem pt_call (hg:grOk g) (hl:∀ x ∈ l,elOk g x) (hll:l.length ≤ 1000):∀ d,CallP g l wb d:=by
  intro d
  induction d using Nat.strongRecOn with
  | ind d IH =>
    intro i w os T hi hT hS hm ho
    have nv:newV (encW w) (memP g l wb os T)=(.ptr (memP g l wb os T).length 0 0 1,memP g l wb os T ++ [bW w]):=rfl
    have hlen:(memP g l wb os T).length=7+T.length:=by simp only [List.length_cons]; omega
    rw [hlen] at nv
    have hM:memP g l wb os T ++ [bW w]=memP g l wb os (T ++ [bW w]):=rfl
    rw [hM] at nv
    have a:=pt_a_0 0 (i:Int) w.1 w.2.1 w.2.2 (memP g l wb os T) (7+T.length) (H0:=memP g l wb os (T ++ [bW w])) (congrArg some nv)
    have hH:=get_last (g:=g) (l:=l) (wb:=wb) (w:=w) (os:=os) (T:=T)
    by_cases c:w.1=0
    · have b:=pt_b_0 0 (i:Int) w.1 w.2.1 w.2.2 (memP g l wb os (T ++ [bW w])) (7+T.length) (y9:=Ud) (y10:=Ud) (ld0 hH) c
      have t:=sq (a) (sqo (b) (c:=sub [1] B65) (b:=sub [1,1] B65)) (c:=B65)
      have cl:=CallsTo.shared (pol:=polF) (g:=65) (fn:=Try.f65) (cd:=B65) (args:=[.int .i64 (i:Int),encW w,.ptr 0 0 0 1,.ptr 1 0 0 1,.ptr 2 0 0 1,.ptr 4 0 0 1,.ptr 6 0 0 1]) (by kernel_rfl) (by kernel_rfl) (by kernel_rfl) (by kernel_rfl) t (by kernel_rfl) (by simp) (v:=.tuple []) (by simp only [resultsV,res65]; rfl)
      have e:=gc_mem (g:=g) (l:=l) (wb:=wb) (os:=os) (os':=os) hT (T':=[bW w]) rfl
      have e2:bnd (.tuple [])=0:=rfl
      rw [e2,e] at cl
      rw [partT_zero g _ i w c,List.map_nil,List.append_nil]
      exact cl
    · have b:=pt_b_1 0 (i:Int) w.1 w.2.1 w.2.2 (memP g l wb os (T ++ [bW w])) (7+T.length) (y9:=Ud) (y10:=Ud) (ld0 hH) c
      have c1:=pt_c_0 0 (i:Int) w.1 w.2.1 w.2.2 (memP g l wb os (T ++ [bW w])) (7+T.length) (y9:=Ud) (y10:=Ud)
      obtain ⟨E,T',hT',lp⟩:=pt_loop hg hl hll IH (i:=(i:Int)) hT hS c ho d i hi (Nat.le_refl _) hm
      have t:=sq (a) (sq (b) (sq (c1) (RunsTo.block_ret (i:=0) (c:=sub [1,1,1] B65) (lp) (by kernel_rfl)) (c:=sub [1,1] B65)) (c:=sub [1] B65)) (c:=B65)
      have cl:=CallsTo.shared (pol:=polF) (g:=65) (fn:=Try.f65) (cd:=B65) (args:=[.int .i64 (i:Int),encW w,.ptr 0 0 0 1,.ptr 1 0 0 1,.ptr 2 0 0 1,.ptr 4 0 0 1,.ptr 6 0 0 1]) (by kernel_rfl) (by kernel_rfl) (by kernel_rfl) (by kernel_rfl) t (by kernel_rfl) (by simp) (v:=.tuple []) (by simp only [resultsV,res65]; rfl)
      have e:=gc_mem (g:=g) (l:=l) (wb:=wb) (os:=os) (os':=os ++ (partT g (l.drop i) i w).map fun q=>((q:Nat):Int)) hT hT'
      have e2:bnd (.tuple [])=0:=rfl
      rw [e2,e] at cl
      exact cl
end
end Go.Proofs.Ytaibmipamkaljaa
end
section
open Go Go.HL
namespace Go.Proofs.Ytaibmipamkaljaa
set_option maxRecDepth 100000
open Go.Proofs.Try renaming prog → Tp
open Go.HL.HV renaming undef → Ud
noncomputable def B48:Code:=Try.f48.body.getD .skip
abbrev env48 (v0 v1 v2 v3 v4 v5 v6 v7 v8 v9 v10:HV):Env:=[(0,v0),(1,v1),(2,v2),(3,v3),(4,v4),(5,v5),(6,v6),(7,v7),(8,v8),(9,v9),(10,v10)]
theorem pp_a_0 (N:Nat) (m0 m1 sz:Int) (l rm:List HV) (w0 w1 w2:Int) (n:Nat)  {H0:Heap} (g0:∀ kf,N ≤ kf → callN Tp polF (kf+1) 65 [.i 0,.agg [.i w0,.i w1,.i w2],.ptr 0 0 0 1,.ptr 1 0 0 1,.ptr 2 0 0 1,.ptr 4 0 0 1,.ptr 6 0 0 1] [.arr 3 [.agg [.i m0,.i m1,.i sz]] true 0,.arr 1 [.imm .arg 2 l] true 0,.arr 1 [.imm .arg 1 rm] true 0,.arr 3 [.agg [.i w0,.i w1,.i w2]] true 0,.arr 1 [.sl 5 0 0 none 0 1] true 6,.arr 1 [] true 0,.arr 1 [.func 65 [] [.ptr 0 0 0 1,.ptr 1 0 0 1,.ptr 2 0 0 1,.ptr 4 0 0 1,.ptr 6 0 0 1]] true 7]=some (.tuple [],H0)) (g1:loadV Tp H0 22 (.ptr 4 0 0 1)=some (.sl 5 0 n none n 1)):RT polF 48 (sub [] B48) [(0,.agg [.i m0,.i m1,.i sz]),(1,.imm .arg 2 l),(2,.imm .arg 1 rm),(3,.agg [.i w0,.i w1,.i w2])] [] .ret (env48 (.agg [.i m0,.i m1,.i sz]) (.imm .arg 2 l) (.imm .arg 1 rm) (.agg [.i w0,.i w1,.i w2]) (.ptr 0 0 0 1) (.ptr 1 0 0 1) (.ptr 2 0 0 1) (.ptr 3 0 0 1) (.sl 5 0 n none n 1) (.ptr 4 0 0 1) (.ptr 6 0 0 1)) H0 :=
  RunsTo.hin N 60 [⟨4,2,.tuple [],H0⟩,⟨5,0,.sl 5 0 n none n 1,H0⟩] fun kf hk=>⟨_,by kernel_rfl,(oC (g0 kf (by omega)) (oP H0 g1 .nil))⟩
end Go.Proofs.Ytaibmipamkaljaa
end
section
open Go Go.HL
namespace Go.Proofs.Ytaibmipamkaljaa
open Go.Proofs.Try renaming prog → Tp
open Go.HL.HV renaming undef → Ud
def decA:HV → Option (List Wt)
  | .imap .arg ks vs=>(match mapO decW ks with | some K=>if vs.all (fun v=>match v with | .bool true=>true | _=>false)=true∧vs.length=K.length then some K else none | none=>none)
  | _=>none
theorem trues_inv {α:Type}:∀ (vs:List HV) (K:List α),vs.all (fun v=>match v with | .bool true=>true | _=>false)=true → vs.length=K.length → vs=K.map fun _=>.bool true
  | [],[],_,_=>rfl
  | v :: vs,k :: K,h,hl=>by
    simp only [List.all_cons,Bool.and_eq_true] at h
    rw [List.map_cons,trues_inv vs K h.2 (by simpa using hl)]
    congr 1
    have:=h.1
    split at this
    · rfl
    · cases this
  | [],k :: K,_,hl=>by simp at hl
  | v :: vs,[],_,hl=>by simp at hl
theorem decA_inv (b:HV) (K:List Wt) (h:decA b=some K):b=encA K:=by
  unfold decA at h
  split at h
  · rename_i ks vs
    split at h
    · rename_i K' hk
      split at h
      · rename_i hv
        cases h
        rw [encA,mapO_inv decW_inv hk,← trues_inv vs K hv.1 hv.2]
      · cases h
    · cases h
  · cases h
theorem decA_enc (K:List Wt):decA (encA K)=some K:=by
  have h1:mapO decW (K.map encW)=some K:=mapO_map decW_enc K
  have h2:((K.map fun _=>HV.bool true).all (fun v=>match v with | .bool true=>true | _=>false))=true:=by simp [List.all_eq_true]
  simp only [decA,encA,h1,h2,List.length_map,and_self,if_true]
def partI (g:Gr) (l:List El) (w:Wt):List Int:=(partT g l 0 w).map fun q=>((q:Nat):Int)
def part48:List HV → Option HV
  | [a,.imm .arg 2 la,.imm .arg 1 rm,d]=>(match decG a,mapO decX la,mapO decA rm,decW d with
    | some g,some l,some R,some w=>if (grOk g∧allEl g l=true∧l.length ≤ 1000)∧R=rchT g l∧w ∈ (rchT g l).headD [] then some (.own 1 ((partI g l w).map encI)) else none
    | _,_,_,_=>none)
  | _=>none
theorem part_inv {args:List HV} {res:HV} (h:part48 args=some res):∃ g l w,args=[encG g,.imm .arg 2 (l.map encX),.imm .arg 1 ((rchT g l).map encA),encW w]∧(grOk g∧allEl g l=true∧l.length ≤ 1000)∧w ∈ (rchT g l).headD []∧res=.own 1 ((partI g l w).map encI):=by
  unfold part48 at h
  split at h
  · rename_i a la rm d
    split at h
    · rename_i g l R w hg hl hR hw
      split at h
      · rename_i hk
        cases h
        obtain ⟨h1,h2,h3⟩:=hk
        refine ⟨g,l,w,?_,h1,h3,rfl⟩
        rw [decG_inv _ _ hg,mapO_inv decX_inv hl,mapO_inv decA_inv hR,decW_inv _ _ hw,h2]
      · cases h
    · cases h
  · cases h
theorem res48:Try.f48.results.toList=[.tmp 8]:=by kernel_rfl
theorem part_ok:PrimOk Tp 48 part48:=by
  refine primOk_pure (pol:=polF) (fn:=Try.f48) (cd:=B48) follows_mixed soundF (by kernel_rfl) (by kernel_rfl) (fnok polF.prim _ _ (by kernel_rfl)) (by kernel_rfl) ?_
  intro args res h
  obtain ⟨g,l,w,rfl,⟨hg,hl,hll⟩,hw,rfl⟩:=part_inv h
  rw [allEl_iff] at hl
  have c:=pt_call (wb:=w) hg hl hll l.length 0 w [] [] (by omega) rfl rfl (by simpa using hw) (by simpa using hll)
  obtain ⟨N,c⟩:=CallsTo.from c
  rw [List.drop_zero,List.nil_append] at c
  have s:=pp_a_0 N g.1 g.2.1 g.2.2 (l.map encX) ((rchT g l).map encA) w.1 w.2.1 w.2.2 (partI g l w).length (H0:=memP g l w (partI g l w) []) c (by kernel_rfl)
  exact ⟨_,_,_,.sl 5 0 (partI g l w).length none (partI g l w).length 1,s,by simp,by simp only [resultsV,res48]; rfl,res_li (o:=partI g l w) rfl rfl⟩
end Go.Proofs.Ytaibmipamkaljaa
end
section
open Go Go.HL
namespace Go.Proofs.Ytaibmipamkaljaa
def inB (a lo hi:Int):Bool:=decide (lo ≤ a∧a ≤ hi)
def newGroupT:List Int → Gr × Bool
  | [a]=>if inB a 2 24 then ((a,1,1),true) else ((0,0,0),false)
  | [a,b]=>if inB a 2 24 && inB b 2 24 then ((a,b,2),decide (a * b ≤ 144) && decide (b % a=0)) else ((0,0,0),false)
  | _=>((0,0,0),false)
def elementT (g:Gr):List Int → El × Bool
  | [a]=>if g.2.2=1∧inB a 0 (g.1 - 1) then ((a,0),true) else ((0,0),false)
  | [a,b]=>if g.2.2=2∧inB a 0 (g.1 - 1) then (if inB b 0 (g.2.1 - 1) then ((a,b),true) else ((a,0),false)) else ((0,0),false)
  | _=>((0,0),false)
end Go.Proofs.Ytaibmipamkaljaa
end
section
open Go Go.HL
namespace Go.Proofs.Ytaibmipamkaljaa
theorem in_t {a lo hi:Int} (h:lo ≤ a∧a ≤ hi):inB a lo hi=true:=decide_eq_true h
end Go.Proofs.Ytaibmipamkaljaa
end
section
open Go Go.HL
namespace Go.Proofs.Ytaibmipamkaljaa
abbrev bX (l:List El):Blk:=.arr 2 (l.map encX) true 0
theorem encX_bnd:∀ (l:List El),bndL (l.map encX)=0
  | []=>rfl
  | e :: l=>by simp only [List.map_cons,bndL,encX,bnd,encX_bnd l]; rfl
theorem app_X {H:Heap} {b:Nat} {o:List El} (hb:H[b]?=some (bX o)) (hl:o.length ≤ 1000) (x:El) :
    appV H 2 16 (.sl b 0 o.length none o.length 2) [encX x]=some (.sl b 0 (o.length+1) none (o.length+1) 2,H.set b (bX (o ++ [x]))):=by
  have:=app_sl (H:=H) (k:=2) (bytes:=16) (b:=b) (n:=o.length) (mx:=0) (els:=o.map encX) (xs:=[encX x]) hb (by simp) (by simp) (by simp only [roomMax,List.length_singleton]; omega) (encX_bnd [x])
  rw [this]
  simp only [bX,List.map_append,List.map_cons,List.map_nil,List.length_singleton]
def elemsT (g:Gr) (R:List (List Int)):Option (List El):=if R.length ≤ 60∧(R.all fun r=>(elementT g r).2)=true then some (R.map fun r=>(elementT g r).1) else none
end Go.Proofs.Ytaibmipamkaljaa
end
section
open Go Go.HL
namespace Go.Proofs.Ytaibmipamkaljaa
theorem argP_W:∀ (l:List Wt),argPL (l.map encW)=some (l.map encW)
  | []=>rfl
  | e :: l=>by simp only [List.map_cons,argPL,argP_W l,encW,argP]
theorem argP_T {α:Type}:∀ (l:List α),argPL (l.map fun _=>HV.bool true)=some (l.map fun _=>HV.bool true)
  | []=>rfl
  | e :: l=>by simp only [List.map_cons,argPL,argP_T l,argP]
theorem arg_M {H:Heap} {R:List (List Wt)} {b m mx:Nat} (hm:R.length=m) (hb:H[b]?=some (.arr 1 (R.map encM) true mx)):toArg H 6 (.sl b 0 m none m 1)=some (.imm .arg 1 (R.map encA)):=by
  subst hm
  have e:toArg H 6 (.sl b 0 R.length none R.length 1)=if R.length=0 then some (.imm .arg 1 []) else match view H b 0 R.length R.length 1 with | some l=>(match mapO (toArg H 5) l with | some l=>some (.imm .arg 1 l) | none=>none) | none=>none:=rfl
  rw [e]
  split
  · rename_i h0
    rw [List.length_eq_zero_iff.1 h0]; rfl
  · have hv:view H b 0 R.length R.length 1=some (R.map encM):=by
      simp only [view,hb,List.length_map]
      rw [if_pos ⟨trivial,by omega,trivial⟩]
      simp [List.take_of_length_le]
    have hm:∀ (R:List (List Wt)),mapO (toArg H 5) (R.map encM)=some (R.map encA):=by
      intro R
      induction R with
      | nil=>rfl
      | cons r R ih =>
        have e:toArg H 5 (encM r)=some (encA r):=by
          show argP (.imap .own (r.map encW) (r.map fun _=>HV.bool true))=_
          simp only [argP,argP_W,argP_T]
          rfl
        simp only [List.map_cons,mapO,e,ih]
    rw [hv]
    simp only [hm]
theorem arg_Xs {H:Heap} {l:List El} {b m:Nat} {cap:Option Nat} (hm:l.length=m) (hb:H[b]?=some (bX l)):toArg H 6 (.sl b 0 m cap m 2)=some (.imm .arg 2 (l.map encX)):=by
  subst hm
  have e:toArg H 6 (.sl b 0 l.length cap l.length 2)=if l.length=0 then some (.imm .arg 2 []) else match view H b 0 l.length l.length 2 with | some l=>(match mapO (toArg H 5) l with | some l=>some (.imm .arg 2 l) | none=>none) | none=>none:=rfl
  rw [e]
  split
  · rename_i h0
    rw [List.length_eq_zero_iff.1 h0]; rfl
  · have hv:view H b 0 l.length l.length 2=some (l.map encX):=by
      simp only [view,hb,List.length_map]
      rw [if_pos ⟨trivial,by omega,trivial⟩]
      simp [List.take_of_length_le]
    have hm:mapO (toArg H 5) (l.map encX)=some (l.map encX):=mapO_self (f:=toArg H 5) (g:=encX) (fun _=>rfl) l
    rw [hv]
    simp only [hm]
theorem encM_any (l:List (List Wt)):(l.map encM).any isOwn=false:=by
  rw [List.any_eq_false]
  intro v hv
  obtain ⟨k,_,rfl⟩:=List.mem_map.1 hv
  simp [encM,isOwn]
theorem recv_M (l:List (List Wt)) (H:Heap):recv (.own 1 (l.map encM)) H=(.sl H.length 0 l.length none l.length 1,H ++ [.arr 1 (l.map encM) true 0]):=by
  simp only [recv,recvVal,recvCell,encM_any,List.length_map]
  rfl
theorem toRes_li1 {H:Heap} {b k:Nat} {cap:Option Nat} {o:List Int} (hb:H[b]?=some (bI o)) (hk:o.length=k) (x:Int):toRes H false (.tuple [.sl b 0 k cap k 1,.int .i64 x])=some (.tuple [.own 1 (o.map encI),.int .i64 x]):=by
  have hr:=resCell_sl (H:=H) (no:=[b]) (b:=b) (k:=1) (m:=k) (cap:=cap) (els:=o.map encI) hb (by simpa using hk) (mapO_self (fun r=>frz_int 4 r) _)
  have ho:ownedAll H false (.tuple [.sl b 0 k cap k 1,.int .i64 x])=[b]:=by simp [ownedAll,cellsOf,owned,hb]
  simp only [toRes,ho,List.nodup_cons,List.not_mem_nil,not_false_eq_true,List.nodup_nil,and_self,if_true,mapO,resVal,hr]
  rfl
def shT (g:Gr) (l:List El) (t:El):Nat → Nat → Option (List Int)
  | 0,_=>none
  | f+1,j=>if ((j:Int),t) ∈ (rchT g l).headD [] then some (partI g l ((j:Int),t)) else shT g l t f (j+1)
end Go.Proofs.Ytaibmipamkaljaa
end
section
open Go Go.HL
namespace Go.Proofs.Ytaibmipamkaljaa
abbrev bGr (g:Gr):Blk:=.arr 3 [encG g] true 0
end Go.Proofs.Ytaibmipamkaljaa
end
section
open Go Go.HL
namespace Go.Proofs.Ytaibmipamkaljaa
open Go.Proofs.Try renaming prog → Tp
open Go.HL.HV renaming undef → Ud
def polX:Pol:={ pol with prim:=fun g=>if g == 47 then some withinF else if g == 49 then some reached49 else if g == 48 then some part48 else none }
theorem soundX (n:Nat):CallSound Tp (callN Tp polX n):=sound_prim _ (fun g f h=>by
  split at h
  · rename_i hg; cases h; rw [eq_of_beq hg]; exact within_ok
  split at h
  · rename_i hg; cases h; rw [eq_of_beq hg]; exact reached_ok
  split at h
  · rename_i hg; cases h; rw [eq_of_beq hg]; exact part_ok
  · cases h) n
def modX (n:Int) (x:Int):El:=(x % n,0)
def gN (n:Int):Gr:=(n,1,1)
theorem remT {n x:Int} (hn:0 < n) (hb:n ≤ 1000):(IntKind.i64.wrap (x.tmod n+n)).tmod n=x % n:=by
  have h1:-n < x.tmod n∧x.tmod n < n:=⟨by have:=Int.lt_tmod_of_pos x hn; omega,Int.tmod_lt_of_pos x hn⟩
  rw [wrap_id (by omega) (by omega),Int.tmod_eq_emod_of_nonneg (by omega),Int.add_emod_right]
  rcases Int.le_total 0 x with h | h
  · rw [Int.tmod_eq_emod_of_nonneg h,Int.emod_emod]
  · have:x.tmod n=-((-x) % n):=by
      have e:x=-(-x):=by omega
      rw [e,Int.neg_tmod,Int.tmod_eq_emod_of_nonneg (by omega),← e]
    rw [this]
    have d1:n ∣ (-x) - (-x) % n:=Int.dvd_self_sub_emod
    have e2:-((-x) % n)=x+((-x) - (-x) % n):=by omega
    rw [e2,Int.add_emod,Int.emod_eq_zero_of_dvd d1,Int.add_zero,Int.emod_emod]
theorem modX_ok {n:Int} (hn:0 < n) (x:Int):elOk (gN n) (modX n x):=⟨⟨Int.emod_nonneg _ (by omega),Int.emod_lt_of_pos _ hn⟩,Int.le_refl _,by show (0:Int) < 1; omega⟩
theorem gN_ok {n:Int} (h1:1 ≤ n) (h2:n ≤ 1000):grOk (gN n):=⟨⟨h1,h2⟩,by show (1:Int) ≤ 1; omega,by show (1:Int) ≤ 1000; omega⟩
def openX (n:Int) (l:List Int):Prop:=((n,((0,0):El)):Wt) ∈ (rchT (gN n) (l.map (modX n))).headD []
instance (n:Int) (l:List Int):Decidable (openX n l):=inferInstanceAs (Decidable (_ ∈ _))
def exT (n:Int) (l:List Int):Option (List Int × Int) :=
  if (1 ≤ n∧n ≤ 20)∧(l.length:Int)=2 * n - 1 then (if openX n l then some (partI (gN n) (l.map (modX n)) (n,(0,0)),0) else none) else some ([],2)
def exactly15:List HV → Option HV
  | [.int .i64 n,.imm .arg 1 la]=>(match mapO decI la with | some l=>(exT n l).map fun r=>.tuple [.own 1 (r.1.map encI),.int .i64 r.2] | none=>none)
  | _=>none
theorem exactly_inv {args:List HV} {res:HV} (h:exactly15 args=some res):∃ n l r,args=[.int .i64 n,.imm .arg 1 (l.map encI)]∧exT n l=some r∧res=.tuple [.own 1 (r.1.map encI),.int .i64 r.2]:=by
  unfold exactly15 at h
  split at h
  · rename_i n la
    split at h
    · rename_i l hl
      obtain ⟨r,hr,rfl⟩:=Option.map_eq_some_iff.1 h
      exact ⟨n,l,r,by rw [mapO_inv decI_inv hl],hr,rfl⟩
    · cases h
  · cases h
theorem reached_at' {g:Gr} {l:List El} {pol':Pol} (hp:pol'.prim 49=some reached49) (hg:grOk g) (hl:allEl g l=true) (hll:l.length ≤ 1000) {H:Heap} {v:HV} (hv:toArg H 6 v=some (.imm .arg 2 (l.map encX))):∀ k,callN Tp pol' (k+1) 49 [encG g,v] H=some (.sl H.length 0 (l.length+1) none (l.length+1) 1,H ++ [.arr 1 ((rchT g l).map encM) true 0]):=fun k=>by
  have hG:toArg H 6 (encG g)=some (encG g):=rfl
  have hd:mapO decX (l.map encX)=some l:=mapO_map decX_enc l
  rw [prim_call (pol:=pol') (g:=49) (F:=reached49) hp (rs:=[encG g,.imm .arg 2 (l.map encX)]) (by simp only [mapO,hG,hv]) (res:=.own 1 ((rchT g l).map encM)) (by simp only [reached49,glF,decG_enc,hd]; rw [if_pos ⟨hg,hl,hll⟩]),recv_M,rch_len]
theorem part_at' {g:Gr} {l:List El} {w:Wt} {pol':Pol} (hp:pol'.prim 48=some part48) (hg:grOk g) (hl:allEl g l=true) (hll:l.length ≤ 1000) (hw:w ∈ (rchT g l).headD []) {H:Heap} {b mx:Nat} {v:HV} (hv:toArg H 6 v=some (.imm .arg 2 (l.map encX))) (hb:H[b]?=some (.arr 1 ((rchT g l).map encM) true mx)) :
    ∀ k,callN Tp pol' (k+1) 48 [encG g,v,.sl b 0 (l.length+1) none (l.length+1) 1,encW w] H=some (.sl H.length 0 (partI g l w).length none (partI g l w).length 1,H ++ [bI (partI g l w)]):=fun k=>by
  have hG:toArg H 6 (encG g)=some (encG g):=rfl
  have hW:toArg H 6 (encW w)=some (encW w):=rfl
  have hM:=arg_M (m:=l.length+1) (rch_len g l) hb
  have hd:mapO decX (l.map encX)=some l:=mapO_map decX_enc l
  have hd2:mapO decA ((rchT g l).map encA)=some (rchT g l):=mapO_map decA_enc _
  rw [prim_call (pol:=pol') (g:=48) (F:=part48) hp (rs:=[encG g,.imm .arg 2 (l.map encX),.imm .arg 1 ((rchT g l).map encA),encW w]) (by simp only [mapO,hG,hv,hM,hW]) (res:=.own 1 ((partI g l w).map encI)) (by simp only [part48,decG_enc,hd,hd2,decW_enc]; rw [if_pos ⟨⟨hg,hl,hll⟩,trivial,hw⟩]),recv_ints]
end Go.Proofs.Ytaibmipamkaljaa
end
section
open Go Go.HL
namespace Go.Proofs.Ytaibmipamkaljaa
set_option maxRecDepth 100000
open Go.Proofs.Try renaming prog → Tp
open Go.HL.HV renaming undef → Ud
noncomputable def B50:Code:=Try.f50.body.getD .skip
abbrev env50 (v0 v1 v2 v6:HV):Env:=[(0,v0),(1,v1),(2,v2),(6,v6)]
theorem rs_0 (a b n:Int)(g0:binV Tp .rem 3 (.i b) (.i n)=some (.i ((b:Int).tmod n))) (g1:binV Tp .rem 3 (.i (IntKind.i64.wrap (a - (b:Int).tmod n))) (.i n)=some (.i ((IntKind.i64.wrap (a - (b:Int).tmod n):Int).tmod n))) (g2:binV Tp .rem 3 (.i (IntKind.i64.wrap ((IntKind.i64.wrap (a - (b:Int).tmod n):Int).tmod n+n))) (.i n)=some (.i ((IntKind.i64.wrap ((IntKind.i64.wrap (a - (b:Int).tmod n):Int).tmod n+n):Int).tmod n))):RT pol 50 (sub [] B50) [(0,.i a),(1,.i b),(2,.i n)] [] .ret (env50 (.i a) (.i b) (.i n) (.i ((IntKind.i64.wrap ((IntKind.i64.wrap (a - (b:Int).tmod n):Int).tmod n+n):Int).tmod n))) [] :=
  RunsTo.hin 0 60 [⟨1,3,.i ((b:Int).tmod n),[]⟩,⟨1,6,.i ((IntKind.i64.wrap (a - (b:Int).tmod n):Int).tmod n),[]⟩,⟨1,10,.i ((IntKind.i64.wrap ((IntKind.i64.wrap (a - (b:Int).tmod n):Int).tmod n+n):Int).tmod n),[]⟩] fun kf hk=>⟨_,by kernel_rfl,(oP [] g0 (oP [] g1 (oP [] g2 .nil)))⟩
end Go.Proofs.Ytaibmipamkaljaa
end
section
open Go Go.HL
namespace Go.Proofs.Ytaibmipamkaljaa
open Go.Proofs.Try renaming prog → Tp
open Go.HL.HV renaming undef → Ud
def rest50:List HV → Option HV
  | [.int .i64 a,.int .i64 b,.int .i64 n]=>if (0 ≤ a∧a < n)∧n ≤ 1000 then some (.int .i64 ((a - b) % n)) else none
  | _=>none
theorem res50:Try.f50.results.toList=[.tmp 6]:=by kernel_rfl
theorem tmod_mod {n x:Int} (hn:0 < n):(x.tmod n) % n=x % n:=by
  have d:n ∣ x - x.tmod n:=⟨x.tdiv n,by have:=Int.mul_tdiv_add_tmod x n; omega⟩
  have e:x=x.tmod n+(x - x.tmod n):=by omega
  conv=>rhs; rw [e,Int.add_emod,Int.emod_eq_zero_of_dvd d,Int.add_zero,Int.emod_emod]
theorem rest_ok:PrimOk Tp 50 rest50:=by
  refine primOk_pure (pol:=pol) (fn:=Try.f50) (cd:=B50) follows_mixed sound (by kernel_rfl) (by kernel_rfl) (fnok pol.prim _ _ (by kernel_rfl)) (by kernel_rfl) ?_
  intro args res h
  unfold rest50 at h
  split at h
  case h_2=>cases h
  rename_i a b n
  split at h
  case isFalse=>cases h
  rename_i hk
  cases h
  obtain ⟨⟨a0,a1⟩,n1⟩:=hk
  have hb:-n < b.tmod n∧b.tmod n < n:=⟨by have:=Int.lt_tmod_of_pos b (show 0 < n by omega); omega,Int.tmod_lt_of_pos b (by omega)⟩
  have w1:IntKind.i64.wrap (a - b.tmod n)=a - b.tmod n:=wrap_id (by omega) (by omega)
  have hr:=remT (n:=n) (x:=a - b.tmod n) (by omega) n1
  have s:=rs_0 a b n (rem3 (by omega)) (rem3 (by omega)) (rem3 (by omega))
  rw [w1,hr] at s
  refine ⟨_,_,_,.int .i64 ((a - b.tmod n) % n),s,by simp,by simp only [resultsV,res50]; rfl,?_⟩
  have e:(a - b.tmod n) % n=(a - b) % n:=by rw [Int.sub_emod,tmod_mod (by omega),← Int.sub_emod]
  rw [e]; rfl
end Go.Proofs.Ytaibmipamkaljaa
end
section
namespace Go.Proofs.Ytaibmipamkaljaa.Ez
theorem nodup_map_on {α β:Type} {f:α → β}:∀ {l:List α},(∀ x ∈ l,∀ y ∈ l,f x=f y → x=y) → l.Nodup → (l.map f).Nodup
  | [],_,_=>by simp
  | a :: l,h,hn=>by
    rw [List.nodup_cons] at hn
    rw [List.map_cons,List.nodup_cons]
    refine ⟨fun hm=>?_,nodup_map_on (fun x hx y hy=>h x (by simp [hx]) y (by simp [hy])) hn.2⟩
    obtain ⟨y,hy,e⟩:=List.mem_map.1 hm
    exact hn.1 ((h y (by simp [hy]) a (by simp) e) ▸ hy)
def EGZ (n:Nat):Prop:=∀ (α:Type) (f:α → Int) (l:List α),2 * n - 1 ≤ l.length → ∃ s r:List α,l.Perm (s ++ r)∧s.length=n∧((s.map f).sum) % (n:Int)=0
theorem egz_one:EGZ 1:=by
  intro α f l h
  match l,h with
  | x :: l,_=>exact ⟨[x],l,.refl _,rfl,by simp⟩
theorem groups {a:Nat} (ha:1 ≤ a) (h:EGZ a) (α:Type) (f:α → Int):∀ (k:Nat) (l:List α),k * a+a - 1 ≤ l.length →
    ∃ (G:List (List α)) (r:List α),l.Perm (G.flatten ++ r)∧G.length=k∧∀ g ∈ G,g.length=a∧((g.map f).sum) % (a:Int)=0
  | 0,l,_=>⟨[],l,.refl _,rfl,fun g hg=>by simp at hg⟩
  | k+1,l,hl=>by
    have e:(k+1) * a=k * a+a:=by rw [Nat.add_mul,Nat.one_mul]
    obtain ⟨s,r,p1,p2,p3⟩:=h α f l (by omega)
    have hlen:l.length=s.length+r.length:=by rw [p1.length_eq,List.length_append]
    obtain ⟨G,r',q1,q2,q3⟩:=groups ha h α f k r (by omega)
    refine ⟨s :: G,r',?_,by simp [q2],?_⟩
    · rw [List.flatten_cons,List.append_assoc]
      exact p1.trans (q1.append_left s)
    · intro g hg
      rcases List.mem_cons.1 hg with rfl | hg
      · exact ⟨p2,p3⟩
      · exact q3 g hg
theorem perm_flatten {α:Type}:∀ {A B:List (List α)},A.Perm B → A.flatten.Perm B.flatten:=by
  intro A B h
  induction h with
  | nil=>exact .refl _
  | cons x _ ih=>rw [List.flatten_cons,List.flatten_cons]; exact ih.append_left x
  | swap x y l =>
    simp only [List.flatten_cons,← List.append_assoc]
    exact List.Perm.append_right _ List.perm_append_comm
  | trans _ _ ih1 ih2=>exact ih1.trans ih2
theorem len_flat {α:Type} {a:Nat}:∀ (G:List (List α)),(∀ g ∈ G,g.length=a) → G.flatten.length=G.length * a
  | [],_=>by simp
  | g :: G,h=>by
    rw [List.flatten_cons,List.length_append,h g (by simp),len_flat G (fun x hx=>h x (by simp [hx])),List.length_cons,Nat.add_mul,Nat.one_mul,Nat.add_comm]
theorem sum_flat {α:Type} (f:α → Int):∀ (G:List (List α)),((G.flatten).map f).sum=(G.map fun g=>(g.map f).sum).sum
  | []=>rfl
  | g :: G=>by rw [List.flatten_cons,List.map_append,List.sum_append,sum_flat f G,List.map_cons,List.sum_cons]
theorem sum_div {α:Type} (w:α → Int) (a:Int):∀ (G:List α),(∀ g ∈ G,w g % a=0) → (G.map w).sum=a * (G.map fun g=>w g / a).sum
  | [],_=>by simp
  | g :: G,h=>by
    rw [List.map_cons,List.sum_cons,sum_div w a G (fun x hx=>h x (by simp [hx])),List.map_cons,List.sum_cons,Int.mul_add]
    have:=Int.mul_ediv_cancel' (Int.dvd_of_emod_eq_zero (h g (by simp)))
    omega
theorem egz_mul {a b:Nat} (ha:1 ≤ a) (hb:1 ≤ b) (h1:EGZ a) (h2:EGZ b):EGZ (a * b):=by
  intro α f l hl
  have e:(2 * b - 1) * a+a - 1=2 * (a * b) - 1:=by
    obtain ⟨c,rfl⟩:∃ c,b=c+1:=⟨b - 1,by omega⟩
    have:2 * (c+1) - 1=2 * c+1:=by omega
    rw [this,Nat.add_mul,Nat.one_mul,Nat.mul_add,Nat.mul_one,Nat.mul_add]
    have:2 * c * a=2 * (a * c):=by rw [Nat.mul_assoc,Nat.mul_comm c a]
    omega
  obtain ⟨G,r,p1,p2,p3⟩:=groups ha h1 α f (2 * b - 1) l (by omega)
  obtain ⟨S,R,q1,q2,q3⟩:=h2 (List α) (fun g=>(g.map f).sum / (a:Int)) G (by omega)
  have hS:∀ g ∈ S,g ∈ G:=fun g hg=>q1.symm.subset (List.mem_append_left _ hg)
  refine ⟨S.flatten,R.flatten ++ r,?_,?_,?_⟩
  · rw [← List.append_assoc,← List.flatten_append]
    exact p1.trans ((perm_flatten q1).append_right r)
  · rw [len_flat S (fun g hg=>(p3 g (hS g hg)).1),q2,Nat.mul_comm]
  · rw [sum_flat,sum_div (fun g=>(g.map f).sum) (a:Int) S (fun g hg=>(p3 g (hS g hg)).2)]
    have hd:=Int.dvd_of_emod_eq_zero q3
    apply Int.emod_eq_zero_of_dvd
    rw [Int.natCast_mul]
    exact Int.mul_dvd_mul_left _ hd
def PrimeZ (p:Nat):Prop:=2 ≤ p∧∀ a,a < p → ∀ b,b < p → (a * b) % p=0 → a=0 ∨ b=0
instance (p:Nat):Decidable (PrimeZ p):=inferInstanceAs (Decidable (_∧_))
theorem shift_new {p:Nat} (hp:PrimeZ p) {A:List Nat} (hA:∀ a ∈ A,a < p) (h0:A ≠ []) (hl:A.length < p) {x y:Nat} (hx:x < p) (hy:y < p) (hxy:x ≠ y) :
    ∃ a ∈ A,(a+y) % p ∉ A.map (fun a=>(a+x) % p):=by
  apply Classical.byContradiction
  intro hne
  have hp0:0 < p:=by have:=hp.1; omega
  have hall:∀ a ∈ A,(a+y) % p ∈ A.map (fun a=>(a+x) % p):=fun a ha=>Classical.byContradiction fun h=>hne ⟨a,ha,h⟩
  have hstep:∀ a ∈ A,(a+(y+p - x)) % p ∈ A:=by
    intro a ha
    obtain ⟨b,hb,e⟩:=List.mem_map.1 (hall a ha)
    have hbp:=hA b hb
    have e1:(a+(y+p - x)) % p=b:=by
      have e2:((b+x)+(p - x)) % p=((a+y)+(p - x)) % p:=by rw [Nat.add_mod,e,← Nat.add_mod]
      rw [show (b+x)+(p - x)=b+p by omega,Nat.add_mod_right,Nat.mod_eq_of_lt hbp] at e2
      rw [e2]; congr 1; omega
    rw [e1]; exact hb
  obtain ⟨a0,ha0⟩:=List.exists_mem_of_ne_nil A h0
  have hit:∀ j:Nat,(a0+j * (y+p - x)) % p ∈ A:=by
    intro j
    induction j with
    | zero=>rw [Nat.zero_mul,Nat.add_zero,Nat.mod_eq_of_lt (hA a0 ha0)]; exact ha0
    | succ j ih =>
      have:=hstep _ ih
      rw [Nat.mod_add_mod] at this
      rw [Nat.add_mul,Nat.one_mul,← Nat.add_assoc]; exact this
  have hnd:((List.range p).map fun j=>(a0+j * (y+p - x)) % p).Nodup:=by
    refine nodup_map_on ?_ List.nodup_range
    intro i hi j hj e
    rw [List.mem_range] at hi hj
    have key:∀ i j,i < p → j < p → i ≤ j → (a0+i * (y+p - x)) % p=(a0+j * (y+p - x)) % p → i=j:=by
      intro i j hi hj hij e
      have hd:((j - i) * ((y+p - x) % p)) % p=0:=by
        rw [Nat.mul_mod_mod]
        have e1:a0+j * (y+p - x)=(a0+i * (y+p - x))+(j - i) * (y+p - x):=by
          rw [Nat.add_assoc,← Nat.add_mul,Nat.add_sub_cancel' hij]
        rw [e1,Nat.add_mod (a0+i * (y+p - x)) ((j - i) * (y+p - x))] at e
        have lt1:=Nat.mod_lt (a0+i * (y+p - x)) hp0
        have lt2:=Nat.mod_lt ((j - i) * (y+p - x)) hp0
        by_cases c:(a0+i * (y+p - x)) % p+((j - i) * (y+p - x)) % p < p
        · rw [Nat.mod_eq_of_lt c] at e; omega
        · have:((a0+i * (y+p - x)) % p+((j - i) * (y+p - x)) % p) % p=(a0+i * (y+p - x)) % p+((j - i) * (y+p - x)) % p - p:=by
            rw [Nat.mod_eq_sub_mod (by omega),Nat.mod_eq_of_lt (by omega)]
          omega
      rcases hp.2 (j - i) (by omega) ((y+p - x) % p) (Nat.mod_lt _ hp0) hd with h | h
      · omega
      · exfalso
        by_cases c:x ≤ y
        · rw [show y+p - x=(y - x)+p by omega,Nat.add_mod_right,Nat.mod_eq_of_lt (by omega)] at h; omega
        · rw [Nat.mod_eq_of_lt (by omega)] at h; omega
    rcases Nat.le_total i j with h | h
    · exact key i j hi hj h e
    · exact (key j i hj hi h e.symm).symm
  have:=hnd.length_le_of_subset (l₂:=A) (fun v hv=>by
    obtain ⟨j,_,rfl⟩:=List.mem_map.1 hv
    exact hit j)
  rw [List.length_map,List.length_range] at this
  omega
theorem choices {p:Nat} (hp:PrimeZ p) {α:Type} (v:α → Nat) (hv:∀ a,v a < p):∀ (P:List (α × α)),(∀ q ∈ P,v q.1 ≠ v q.2) → P.length < p →
    ∃ A:List Nat,A.Nodup∧(∀ a ∈ A,a < p)∧A.length=P.length+1∧∀ a ∈ A,∃ s r:List α,((P.map (·.1)) ++ (P.map (·.2))).Perm (s ++ r)∧s.length=P.length∧((s.map v).sum) % p=a
  | [],_,h=>⟨[0],by simp,fun a ha=>by simp at ha h; omega,rfl,fun a ha=>⟨[],[],.refl _,rfl,by simp at ha; simp [ha]⟩⟩
  | q :: P,hd,hl=>by
    have hp0:0 < p:=by have:=hp.1; omega
    rw [List.length_cons] at hl
    obtain ⟨A,a1,a2,a3,a4⟩:=choices hp v hv P (fun q hq=>hd q (by simp [hq])) (by omega)
    have hne:A ≠ []:=by intro h; rw [h] at a3; simp at a3
    obtain ⟨b,hb,hbn⟩:=shift_new hp a2 hne (by omega) (hv q.1) (hv q.2) (hd q (by simp))
    have hperm:∀ (z w:α),(z=q.1∧w=q.2) ∨ (z=q.2∧w=q.1) → ∀ s r:List α,((P.map (·.1)) ++ (P.map (·.2))).Perm (s ++ r) → (((q :: P).map (·.1)) ++ ((q :: P).map (·.2))).Perm ((z :: s) ++ (w :: r)):=by
      intro z w hzw s r h
      have e1:(((q :: P).map (·.1)) ++ ((q :: P).map (·.2))).Perm (q.1 :: q.2 :: ((P.map (·.1)) ++ (P.map (·.2)))):=by
        simp only [List.map_cons,List.cons_append]
        exact (List.perm_middle).cons _
      have e2:((z :: s) ++ (w :: r)).Perm (z :: w :: (s ++ r)):=by
        simp only [List.cons_append]
        exact (List.perm_middle).cons _
      refine e1.trans (List.Perm.trans ?_ e2.symm)
      rcases hzw with ⟨rfl,rfl⟩ | ⟨rfl,rfl⟩
      · exact (h.cons _).cons _
      · exact (List.Perm.swap _ _ _).trans ((h.cons _).cons _)
    refine ⟨((b+v q.2) % p) :: A.map (fun a=>(a+v q.1) % p),?_,?_,?_,?_⟩
    · rw [List.nodup_cons]
      refine ⟨hbn,nodup_map_on ?_ a1⟩
      intro i hi j hj e
      have li:=a2 i hi
      have lj:=a2 j hj
      have lx:=hv q.1
      have key:∀ i j x:Nat,i < p → j < p → x < p → (i+x) % p=(j+x) % p → i=j:=by
        intro i j x h1 h2 h3 e
        have e2:((i+x)+(p - x)) % p=((j+x)+(p - x)) % p:=by rw [Nat.add_mod,e,← Nat.add_mod]
        rw [show (i+x)+(p - x)=i+p by omega,show (j+x)+(p - x)=j+p by omega,Nat.add_mod_right,Nat.add_mod_right,Nat.mod_eq_of_lt h1,Nat.mod_eq_of_lt h2] at e2
        exact e2
      exact key i j _ li lj lx e
    · intro a ha
      rcases List.mem_cons.1 ha with rfl | ha
      · exact Nat.mod_lt _ hp0
      · obtain ⟨c,_,rfl⟩:=List.mem_map.1 ha
        exact Nat.mod_lt _ hp0
    · rw [List.length_cons,List.length_map,a3,List.length_cons]
    · intro a ha
      rcases List.mem_cons.1 ha with rfl | ha
      · obtain ⟨s,r,s1,s2,s3⟩:=a4 b hb
        refine ⟨q.2 :: s,q.1 :: r,hperm _ _ (.inr ⟨rfl,rfl⟩) s r s1,by simp [s2],?_⟩
        rw [List.map_cons,List.sum_cons,Nat.add_mod,s3,Nat.mod_eq_of_lt (hv q.2),Nat.add_comm]
      · obtain ⟨c,hc,rfl⟩:=List.mem_map.1 ha
        obtain ⟨s,r,s1,s2,s3⟩:=a4 c hc
        refine ⟨q.1 :: s,q.2 :: r,hperm _ _ (.inl ⟨rfl,rfl⟩) s r s1,by simp [s2],?_⟩
        rw [List.map_cons,List.sum_cons,Nat.add_mod,s3,Nat.mod_eq_of_lt (hv q.1),Nat.add_comm]
theorem sum_mod {α:Type} (f:α → Int) {p:Nat} (hp:0 < p):∀ (s:List α),((s.map f).sum) % (p:Int)=((((s.map fun a=>((f a) % (p:Int)).toNat).sum) % p:Nat):Int)
  | []=>by simp
  | a :: s=>by
    have ih:=sum_mod f hp s
    have h0:0 ≤ f a % (p:Int):=Int.emod_nonneg _ (by omega)
    rw [List.map_cons,List.sum_cons,List.map_cons,List.sum_cons,Int.add_emod,ih,Int.natCast_emod,Int.natCast_emod,Int.natCast_add,Int.toNat_of_nonneg h0]
    generalize ((s.map fun a=>((f a) % (p:Int)).toNat).sum:Int)=b
    simp only [Int.emod_emod,Int.emod_add_emod,Int.add_emod_emod]
theorem egz_prime {p:Nat} (hp:PrimeZ p):EGZ p:=by
  intro α f l hl
  have hp0:0 < p:=by have:=hp.1; omega
  have hp2:=hp.1
  let v:α → Nat:=fun a=>((f a) % (p:Int)).toNat
  have hv:∀ a,v a < p:=fun a=>by
    have h1:=Int.emod_nonneg (f a) (show (p:Int) ≠ 0 by omega)
    have h2:=Int.emod_lt_of_pos (f a) (show (0:Int) < p by omega)
    show ((f a) % (p:Int)).toNat < p
    omega
  -- sorted
  let L:=l.mergeSort (fun a b=>decide (v a ≤ v b))
  have hL:L.Perm l:=List.mergeSort_perm l _
  have hLl:L.length=l.length:=hL.length_eq
  have hs:L.Pairwise (fun a b=>v a ≤ v b):=by
    have:=List.pairwise_mergeSort (le:=fun a b=>decide (v a ≤ v b)) (fun a b c h1 h2=>by simp only [decide_eq_true_eq] at *; omega) (fun a b=>by simp only [Bool.or_eq_true,decide_eq_true_eq]; omega) l
    exact this.imp (fun h=>by simpa using h)
  have hget:∀ i j (hi:i < L.length) (hj:j < L.length),i ≤ j → v L[i] ≤ v L[j]:=by
    intro i j hi hj hij
    rcases Nat.lt_or_eq_of_le hij with h | h
    · exact (List.pairwise_iff_getElem.1 hs) i j hi hj h
    · subst h; exact Nat.le_refl _
  by_cases c:∃ i,∃ h:i+(p - 1) < L.length,v (L[i]'(by omega))=v L[i+(p - 1)]
  · -- p equal ones
    obtain ⟨i,h,e⟩:=c
    refine ⟨(L.drop i).take p,L.take i ++ (L.drop i).drop p,?_,by rw [List.length_take,List.length_drop]; omega,?_⟩
    · refine hL.symm.trans ?_
      have e1:L=L.take i ++ ((L.drop i).take p ++ (L.drop i).drop p):=by rw [List.take_append_drop,List.take_append_drop]
      have e2:(L.take i ++ ((L.drop i).take p ++ (L.drop i).drop p)).Perm ((L.drop i).take p ++ (L.take i ++ (L.drop i).drop p)):=by
        rw [← List.append_assoc,← List.append_assoc]
        exact List.Perm.append_right _ List.perm_append_comm
      exact (List.Perm.of_eq e1).trans e2
    · rw [sum_mod f hp0]
      have hall:∀ a ∈ (L.drop i).take p,v a=v (L[i]'(by omega)):=by
        intro a ha
        obtain ⟨k,hk,rfl⟩:=List.mem_iff_getElem.1 ha
        rw [List.length_take,List.length_drop] at hk
        rw [List.getElem_take,List.getElem_drop]
        have h1:=hget i (i+k) (by omega) (by omega) (by omega)
        have h2:=hget (i+k) (i+(p - 1)) (by omega) h (by omega)
        omega
      have hsum:∀ (s:List α) (z:Nat),(∀ a ∈ s,v a=z) → (s.map v).sum=s.length * z:=by
        intro s z
        induction s with
        | nil=>intro _; simp
        | cons a s ih=>intro h; rw [List.map_cons,List.sum_cons,ih (fun x hx=>h x (by simp [hx])),h a (by simp),List.length_cons,Nat.add_mul,Nat.one_mul,Nat.add_comm]
      have:=hsum _ _ hall
      show ((((((L.drop i).take p).map v).sum) % p:Nat):Int)=0
      rw [this,List.length_take,List.length_drop,show min p (L.length - i)=p by omega,Nat.mul_mod_right]
      rfl
  · -- pairs
    have hc:∀ i (h:i+(p - 1) < L.length),v (L[i]'(by omega)) ≠ v L[i+(p - 1)]:=fun i h e=>c ⟨i,h,e⟩
    let P:List (α × α):=(List.zip ((L.drop 1).take (p - 1)) ((L.drop p).take (p - 1)))
    have hPl:P.length=p - 1:=by simp only [P,List.length_zip,List.length_take,List.length_drop]; omega
    have hP1:P.map (·.1)=(L.drop 1).take (p - 1):=by
      simp only [P]
      rw [List.map_fst_zip (by simp only [List.length_take,List.length_drop]; omega)]
    have hP2:P.map (·.2)=(L.drop p).take (p - 1):=by
      simp only [P]
      rw [List.map_snd_zip (by simp only [List.length_take,List.length_drop]; omega)]
    have hPd:∀ q ∈ P,v q.1 ≠ v q.2:=by
      intro q hq
      obtain ⟨k,hk,rfl⟩:=List.mem_iff_getElem.1 hq
      have hk':k < p - 1:=by rw [hPl] at hk; exact hk
      have:=hc (1+k) (by omega)
      simp only [P,List.getElem_zip,List.getElem_take,List.getElem_drop]
      intro e
      apply this
      rw [e]
      congr 2
      omega
    obtain ⟨A,a1,a2,a3,a4⟩:=choices hp v hv P hPd (by omega)
    have hL0:0 < L.length:=by omega
    have hAall:∀ z,z < p → z ∈ A:=by
      intro z hz
      apply Classical.byContradiction
      intro hzA
      have:=(List.nodup_cons.2 ⟨hzA,a1⟩).length_le_of_subset (l₂:=List.range p) (fun x hx=>by
        rcases List.mem_cons.1 hx with rfl | hx
        · exact List.mem_range.2 hz
        · exact List.mem_range.2 (a2 x hx))
      rw [List.length_cons,List.length_range] at this
      omega
    have hb:=hv (L[0]'hL0)
    obtain ⟨s,r,s1,s2,s3⟩:=a4 _ (hAall ((p - v (L[0]'hL0)) % p) (Nat.mod_lt _ hp0))
    refine ⟨L[0]'hL0 :: s,r ++ L.drop (2 * p - 1),?_,by rw [List.length_cons,s2,hPl]; omega,?_⟩
    · have e1:L=L[0]'hL0 :: ((L.drop 1).take (p - 1) ++ ((L.drop p).take (p - 1) ++ L.drop (2 * p - 1))):=by
        have k1:L.drop (2 * p - 1)=(L.drop p).drop (p - 1):=by rw [List.drop_drop]; congr 1; omega
        rw [k1,List.take_append_drop]
        have k2:L.drop p=(L.drop 1).drop (p - 1):=by rw [List.drop_drop]; congr 1; omega
        rw [k2,List.take_append_drop]
        have k3:=List.drop_eq_getElem_cons (l:=L) (i:=0) hL0
        simpa using k3
      refine hL.symm.trans ((List.Perm.of_eq e1).trans ?_)
      rw [List.cons_append]
      refine List.Perm.cons _ ?_
      rw [← List.append_assoc,← List.append_assoc]
      rw [hP1,hP2] at s1
      exact s1.append_right _
    · rw [sum_mod f hp0,List.map_cons,List.sum_cons]
      show ((((v (L[0]'hL0)+(s.map v).sum) % p:Nat)):Int)=0
      have:(v (L[0]'hL0)+(s.map v).sum) % p=0:=by
        rw [Nat.add_mod,s3,← Nat.add_mod,show v (L[0]'hL0)+(p - v (L[0]'hL0))=p by omega,Nat.mod_self]
      rw [this]; rfl
theorem egz:∀ n,1 ≤ n → n ≤ 20 → EGZ n:=by
  have q2:EGZ 2:=egz_prime (by decide +kernel)
  have q3:EGZ 3:=egz_prime (by decide +kernel)
  have q5:EGZ 5:=egz_prime (by decide +kernel)
  have q7:EGZ 7:=egz_prime (by decide +kernel)
  have q11:EGZ 11:=egz_prime (by decide +kernel)
  have q13:EGZ 13:=egz_prime (by decide +kernel)
  have q17:EGZ 17:=egz_prime (by decide +kernel)
  have q19:EGZ 19:=egz_prime (by decide +kernel)
  have m:∀ a b,1 ≤ a → 1 ≤ b → EGZ a → EGZ b → EGZ (a * b):=fun a b h1 h2 h3 h4=>egz_mul h1 h2 h3 h4
  have q4:EGZ 4:=m 2 2 (by omega) (by omega) q2 q2
  have q6:EGZ 6:=m 2 3 (by omega) (by omega) q2 q3
  have q8:EGZ 8:=m 2 4 (by omega) (by omega) q2 q4
  have q9:EGZ 9:=m 3 3 (by omega) (by omega) q3 q3
  have q10:EGZ 10:=m 2 5 (by omega) (by omega) q2 q5
  have q12:EGZ 12:=m 2 6 (by omega) (by omega) q2 q6
  have q14:EGZ 14:=m 2 7 (by omega) (by omega) q2 q7
  have q15:EGZ 15:=m 3 5 (by omega) (by omega) q3 q5
  have q16:EGZ 16:=m 2 8 (by omega) (by omega) q2 q8
  have q18:EGZ 18:=m 2 9 (by omega) (by omega) q2 q9
  have q20:EGZ 20:=m 2 10 (by omega) (by omega) q2 q10
  intro n h1 h2
  match n,h1,h2 with
  | 1,_,_=>exact egz_one
  | 2,_,_=>exact q2
  | 3,_,_=>exact q3
  | 4,_,_=>exact q4
  | 5,_,_=>exact q5
  | 6,_,_=>exact q6
  | 7,_,_=>exact q7
  | 8,_,_=>exact q8
  | 9,_,_=>exact q9
  | 10,_,_=>exact q10
  | 11,_,_=>exact q11
  | 12,_,_=>exact q12
  | 13,_,_=>exact q13
  | 14,_,_=>exact q14
  | 15,_,_=>exact q15
  | 16,_,_=>exact q16
  | 17,_,_=>exact q17
  | 18,_,_=>exact q18
  | 19,_,_=>exact q19
  | 20,_,_=>exact q20
  | n+21,_,h=>omega
end Go.Proofs.Ytaibmipamkaljaa.Ez
end
section
open Go Go.HL
namespace Go.Proofs.Ytaibmipamkaljaa
theorem recv_li1 (l:List Int) (x:Int) (H:Heap):recv (.tuple [.own 1 (l.map encI),.int .i64 x]) H=(.tuple [.sl H.length 0 l.length none l.length 1,.int .i64 x],H ++ [bI l]):=by
  have h:recvCell (.own 1 (l.map encI)) H=(.sl H.length 0 l.length none l.length 1,H ++ [bI l]):=by
    simp only [recvCell,encI_any,List.length_map]; rfl
  simp only [recv,recvVals,recvVal,h]; rfl
def shP (r:Option (List Int)):List Int × Int:=match r with | some p=>(p,0) | none=>([],6)
theorem element_el {g:Gr} (hg:grOk g) {l:List Int} (h:(elementT g l).2=true):elOk g (elementT g l).1:=by
  match l with
  | []=>simp [elementT] at h
  | [a] =>
    simp only [elementT] at h ⊢
    split
    · rename_i c
      have:=of_decide_eq_true c.2
      exact ⟨⟨this.1,by show a < g.1; omega⟩,Int.le_refl _,by show (0:Int) < g.2.1; have:=hg.2; omega⟩
    · rename_i c; rw [if_neg c] at h; cases h
  | [a,b] =>
    simp only [elementT] at h ⊢
    split
    · rename_i c
      rw [if_pos c] at h
      have h1:=of_decide_eq_true c.2
      split
      · rename_i d
        have h2:=of_decide_eq_true d
        exact ⟨⟨h1.1,by show a < g.1; omega⟩,h2.1,by show b < g.2.1; omega⟩
      · rename_i d; rw [if_neg d] at h; cases h
    · rename_i c; rw [if_neg c] at h; cases h
  | a :: b :: c :: l=>simp [elementT] at h
def zeroT (l:List Int) (R:List (List Int)):List Int × Int :=
  if (newGroupT l).2=true then (match elemsT (newGroupT l).1 R with | some els=>shP (shT (newGroupT l).1 els (0,0) els.length 1) | none=>([],2)) else ([],2)
end Go.Proofs.Ytaibmipamkaljaa
end
section
open Go Go.HL
namespace Go.Proofs.Ytaibmipamkaljaa
def GrL (gl:List Int) (g:Gr) (e:Int):Prop :=
  (∃ m,gl=[m]∧g=(m,1,1)∧e=m∧2 ≤ m∧m ≤ 24) ∨ (∃ a b,gl=[a,b]∧g=(a,b,2)∧e=b∧2 ≤ a∧a ≤ 12∧2 ≤ b∧b ≤ 24∧a * b ≤ 144∧b % a=0)
theorem GrL.new {gl:List Int} {g:Gr} {e:Int} (h:GrL gl g e):newGroupT gl=(g,true):=by
  rcases h with ⟨m,rfl,rfl,rfl,h1,h2⟩ | ⟨a,b,rfl,rfl,rfl,h1,h2,h3,h4,h5,h6⟩
  · simp only [newGroupT,in_t ⟨h1,h2⟩,if_true]
  · simp only [newGroupT,in_t (a:=a) (lo:=2) (hi:=24) ⟨h1,by omega⟩,in_t ⟨h3,h4⟩,Bool.and_self,if_true,decide_eq_true h5,decide_eq_true h6]
theorem GrL.ok {gl:List Int} {g:Gr} {e:Int} (h:GrL gl g e):grOk g:=by
  rcases h with ⟨m,rfl,rfl,rfl,h1,h2⟩ | ⟨a,b,rfl,rfl,rfl,h1,h2,h3,h4,h5,h6⟩
  · exact ⟨⟨by show 1 ≤ e; omega,by show e ≤ 1000; omega⟩,by show (1:Int) ≤ 1; omega,by show (1:Int) ≤ 1000; omega⟩
  · exact ⟨⟨by show 1 ≤ a; omega,by show a ≤ 1000; omega⟩,by show 1 ≤ e; omega,by show e ≤ 1000; omega⟩
def elOf (r:List Int):El:=(r.getD 0 0,r.getD 1 0)
def rowOk (gl r:List Int):Prop:=r.length=gl.length∧∀ j,j < gl.length → 0 ≤ r.getD j 0∧r.getD j 0 < gl.getD j 0
theorem GrL.elem {gl:List Int} {g:Gr} {e:Int} (h:GrL gl g e) {r:List Int} (hr:rowOk gl r):elementT g r=(elOf r,true):=by
  obtain ⟨hl,hr⟩:=hr
  rcases h with ⟨m,rfl,rfl,rfl,h1,h2⟩ | ⟨a,b,rfl,rfl,rfl,h1,h2,h3,h4,h5,h6⟩
  · match r,hl with
    | [x],_ =>
      have k:=hr 0 (by simp)
      have k1:0 ≤ x∧x ≤ e - 1:=⟨k.1,by have:=k.2; simp at this; omega⟩
      simp only [elementT,in_t k1,and_self,if_true]; rfl
  · match r,hl with
    | [x,y],_ =>
      have k:=hr 0 (by simp)
      have q:=hr 1 (by simp)
      have k1:0 ≤ x∧x ≤ a - 1:=⟨k.1,by have:=k.2; simp at this; omega⟩
      have k2:0 ≤ y∧y ≤ e - 1:=⟨q.1,by have:=q.2; simp at this; omega⟩
      simp only [elementT,in_t k1,in_t k2,and_self,if_true]; rfl
def zeroAt (g:Gr) (x:El) (k:Nat):Prop:=((k:Int) * x.1) % g.1=0∧((k:Int) * x.2) % g.2.1=0
def mulT (g:Gr) (x:El) (k:Nat):El:=(((k:Int) * x.1) % g.1,((k:Int) * x.2) % g.2.1)
theorem mulT_zero {g:Gr} {x:El} {k:Nat}:mulT g x k=(0,0) ↔ zeroAt g x k:=by simp [mulT,zeroAt,Prod.ext_iff]
theorem mulT_succ (g:Gr) (x:El) (k:Nat):addT g (mulT g x k) x=mulT g x (k+1):=by
  simp only [addT,mulT,Int.emod_add_emod]
  congr 1 <;> · congr 1; rw [show ((k+1:Nat):Int)=(k:Int)+1 by omega,Int.add_mul]; omega
def isOrd (g:Gr) (x:El) (o:Nat):Prop:=1 ≤ o∧zeroAt g x o∧∀ k,1 ≤ k → k < o → ¬ zeroAt g x k
theorem rch_rep {g:Gr} {x:El} (hx:elOk g x):∀ (o:Nat) (w:Wt),w ∈ (rchT g (List.replicate o x)).headD [] ↔ ∃ j:Nat,j ≤ o∧w=((j:Int),mulT g x j)
  | 0,w=>by
    simp only [List.replicate,rchT,List.headD_cons,List.mem_singleton]
    have m0:mulT g x 0=(0,0):=by simp [mulT]
    constructor
    · rintro rfl; exact ⟨0,Nat.le_refl _,by rw [m0]; rfl⟩
    · rintro ⟨j,h1,rfl⟩
      have:j=0:=by omega
      subst this; rw [m0]; rfl
  | o+1,w=>by
    rw [List.replicate_succ]
    show w ∈ rchStep g x ((rchT g (List.replicate o x)).headD []) ↔ _
    rw [mem_step]
    constructor
    · rintro ⟨u,h1,h2⟩
      obtain ⟨j,h3,rfl⟩:=(rch_rep hx o u).1 h1
      rcases h2 with rfl | rfl
      · exact ⟨j,by omega,rfl⟩
      · exact ⟨j+1,by omega,by rw [rchW,mulT_succ]; rfl⟩
    · rintro ⟨j,h1,rfl⟩
      by_cases c:j ≤ o
      · exact ⟨_,(rch_rep hx o _).2 ⟨j,c,rfl⟩,.inl rfl⟩
      · obtain ⟨i,rfl⟩:∃ i,j=i+1:=⟨j - 1,by omega⟩
        exact ⟨_,(rch_rep hx o _).2 ⟨i,by omega,rfl⟩,.inr (by rw [rchW,mulT_succ]; rfl)⟩
theorem partT_len {g:Gr} (hg:grOk g):∀ (l:List El) (i:Nat) (w:Wt),(∀ x ∈ l,elOk g x) → w ∈ (rchT g l).headD [] → ((partT g l i w).length:Int)=w.1
  | [],i,w,_,h=>by simp [rchT] at h; subst h; rfl
  | x :: l,i,w,hl,h=>by
    have hx:=hl x (by simp)
    have hl':∀ y ∈ l,elOk g y:=fun y hy=>hl y (by simp [hy])
    rw [partT]
    split
    · rename_i c; rw [c]; rfl
    · split
      · rename_i c
        have:=partT_len hg l (i+1) _ hl' c
        simp only [List.length_cons]
        simp only at this
        omega
      · rename_i c
        rcases part_next hg hx h with h' | h'
        · exact absurd h' c
        · exact partT_len hg l (i+1) w hl' h'
theorem shT_eq {g:Gr} {l:List El} {t:El} {o:Nat} (h1:((o:Int),t) ∈ (rchT g l).headD []):∀ (f j:Nat),(∀ k,j ≤ k → k < o → ((k:Int),t) ∉ (rchT g l).headD []) → j ≤ o → o < j+f → shT g l t f j=some (partI g l ((o:Int),t)):=by
  intro f
  induction f with
  | zero=>intro j _ h3 h4; omega
  | succ f ih =>
    intro j h2 h3 h4
    rw [shT]
    by_cases c:j=o
    · subst c; rw [if_pos h1]
    · rw [if_neg (h2 j (Nat.le_refl _) (by omega))]
      exact ih (j+1) (fun k a b=>h2 k (by omega) b) (by omega) (by omega)
theorem GrL.zero {gl:List Int} {g:Gr} {e:Int} (h:GrL gl g e) {r:List Int} (hr:rowOk gl r) {o:Nat} (ho:isOrd g (elOf r) o) (hoe:o ≤ 60):∃ p,zeroT gl (List.replicate o r)=(p,0)∧p.length=o:=by
  have he:=h.elem hr
  have hx:elOk g (elOf r):=by have:=element_el h.ok (l:=r) (by rw [he]); rwa [he] at this
  have hes:elemsT g (List.replicate o r)=some (List.replicate o (elOf r)):=by
    unfold elemsT
    rw [if_pos ⟨by simpa using hoe,by rw [List.all_eq_true]; intro x hx; rw [(List.mem_replicate.1 hx).2,he]⟩,List.map_replicate,he]
  have hz:((o:Int),((0,0):El)) ∈ (rchT g (List.replicate o (elOf r))).headD []:=(rch_rep hx o _).2 ⟨o,Nat.le_refl _,by rw [mulT_zero.2 ho.2.1]⟩
  have hs:=shT_eq hz o 1 (fun k h1 h2 h3=>by
    obtain ⟨j,_,hj⟩:=(rch_rep hx o _).1 h3
    simp only [Prod.mk.injEq] at hj
    have:k=j:=by omega
    subst this
    exact ho.2.2 k h1 h2 (mulT_zero.1 hj.2.symm)) ho.1 (by omega)
  refine ⟨partI g (List.replicate o (elOf r)) ((o:Int),(0,0)),?_,?_⟩
  · simp only [zeroT,h.new,if_true,hes,List.length_replicate,hs,shP]
  · have:=partT_len h.ok (List.replicate o (elOf r)) 0 ((o:Int),(0,0)) (fun x hx'=>by rw [(List.mem_replicate.1 hx').2]; exact hx) hz
    simp only [partI,List.length_map]
    simp only at this
    omega
end Go.Proofs.Ytaibmipamkaljaa
end
section
open Go Go.HL
namespace Go.Proofs.Ytaibmipamkaljaa
theorem rch_sub {n:Int} (hn:0 < n):∀ (l:List Int) (w:Wt),w ∈ (rchT (gN n) (l.map (modX n))).headD [] ↔ ∃ s:List Int,s.Sublist l∧w=((s.length:Int),(s.sum % n,0))
  | [],w=>by
    simp only [List.map_nil,rchT,List.headD_cons,List.mem_singleton,List.sublist_nil]
    constructor
    · rintro rfl; exact ⟨[],rfl,by simp⟩
    · rintro ⟨s,rfl,rfl⟩; simp
  | x :: l,w=>by
    rw [List.map_cons]
    show w ∈ rchStep (gN n) (modX n x) ((rchT (gN n) (l.map (modX n))).headD []) ↔ _
    rw [mem_step]
    have key:∀ s:List Int,rchW (gN n) (modX n x) ((s.length:Int),(s.sum % n,0))=(((x :: s).length:Int),((x :: s).sum % n,0)):=by
      intro s
      have e1:(s.sum % n+x % n) % n=(x+s.sum) % n:=by rw [← Int.add_emod,Int.add_comm]
      have e2:((0:Int)+0) % 1=0:=rfl
      simp only [rchW,addT,gN,modX,List.length_cons,List.sum_cons,e1,e2]
      rfl
    constructor
    · rintro ⟨u,h1,h2⟩
      obtain ⟨s,hs,rfl⟩:=(rch_sub hn l u).1 h1
      rcases h2 with rfl | rfl
      · exact ⟨s,hs.cons x,rfl⟩
      · exact ⟨x :: s,hs.cons_cons x,key s⟩
    · rintro ⟨s,hs,rfl⟩
      cases hs with
      | cons _ h=>exact ⟨_,(rch_sub hn l _).2 ⟨s,h,rfl⟩,.inl rfl⟩
      | cons_cons _ h=>rename_i s'; exact ⟨_,(rch_sub hn l _).2 ⟨s',h,rfl⟩,.inr (key s').symm⟩
theorem sub_of_perm {α:Type}:∀ {l m:List α},l.Perm m → ∀ {s:List α},s.Sublist m → ∃ t:List α,t.Perm s∧t.Sublist l:=by
  intro l m h
  induction h with
  | nil=>intro s hs; exact ⟨s,.refl _,hs⟩
  | cons x _ ih =>
    intro s hs
    cases hs with
    | cons _ h=>obtain ⟨t,h1,h2⟩:=ih h; exact ⟨t,h1,h2.cons _⟩
    | cons_cons _ h=>obtain ⟨t,h1,h2⟩:=ih h; exact ⟨x :: t,h1.cons _,h2.cons_cons _⟩
  | swap x y l =>
    intro s hs
    cases hs with
    | cons _ h =>
      cases h with
      | cons _ h=>exact ⟨s,.refl _,(h.cons _).cons _⟩
      | cons_cons _ h=>exact ⟨_,.refl _,(h.cons _).cons_cons _⟩
    | cons_cons _ h =>
      cases h with
      | cons _ h=>exact ⟨_,.refl _,(h.cons_cons _).cons _⟩
      | cons_cons _ h=>exact ⟨_,.swap _ _ _,(h.cons_cons _).cons_cons _⟩
  | trans _ _ ih1 ih2 =>
    intro s hs
    obtain ⟨t,h1,h2⟩:=ih2 hs
    obtain ⟨u,h3,h4⟩:=ih1 h2
    exact ⟨u,h3.trans h1,h4⟩
theorem perm_sum:∀ {l m:List Int},l.Perm m → l.sum=m.sum:=by
  intro l m h
  induction h with
  | nil=>rfl
  | cons x _ ih=>rw [List.sum_cons,List.sum_cons,ih]
  | swap x y l=>simp only [List.sum_cons]; omega
  | trans _ _ h1 h2=>rw [h1,h2]
theorem open_all {n:Int} (h1:1 ≤ n) (h2:n ≤ 20) {l:List Int} (hl:(l.length:Int)=2 * n - 1):openX n l:=by
  obtain ⟨s,r,p1,p2,p3⟩:=Ez.egz n.toNat (by omega) (by omega) Int id l (by omega)
  obtain ⟨t,q1,q2⟩:=sub_of_perm p1 (List.sublist_append_left s r)
  refine (rch_sub (by omega) l _).2 ⟨t,q2,?_⟩
  have e1:(t.length:Int)=n:=by rw [q1.length_eq,p2]; omega
  have e2:t.sum % n=0:=by
    rw [perm_sum q1]
    rw [List.map_id,Int.toNat_of_nonneg (by omega)] at p3
    exact p3
  rw [e1,e2]
end Go.Proofs.Ytaibmipamkaljaa
end
section
open Go Go.HL
namespace Go.Proofs.Ytaibmipamkaljaa
open Go.Proofs.Try renaming prog → Tp
open Go.HL.HV renaming undef → Ud
def sealSt (P:Program) (t:TypeId) (a v:HV) (H:Heap):Option (HV × Heap) :=
  match seal1 H v with
  | some (w,H)=>(storeV P H t a w).map fun H=>(.tuple [],H)
  | none=>none
def polTb:Pol:={ pol with freezeS:=fun g r=>g == 18 && r == 16,prim:=fun g=>if g == 50 then some rest50 else none }
theorem fns_okTb:(Tp.funcs.toList.zipIdx.all fun p=>fnOk { pol with freezeS:=fun g r=>g == 18 && r == 16 } p.2 p.1)=true:=by kernel_rfl
theorem soundTb (n:Nat):CallSound Tp (callN Tp polTb n) :=
  callN_ok follows_mixed (fun g fn h=>by
    have:=fnOk_prim (pol:={ pol with freezeS:=fun g r=>g == 18 && r == 16 }) (F:=fun g=>if g == 50 then some rest50 else none) g fn
    show fnOk { pol with freezeS:=fun g r=>g == 18 && r == 16,prim:=fun g=>if g == 50 then some rest50 else none } g fn=true
    rw [this]
    exact List.all_eq_true.1 fns_okTb (fn,g) (by
      rw [List.mem_zipIdx_iff_getElem?]
      simpa using h)) (fun g f h=>by
    change (if g == 50 then some rest50 else none)=some f at h
    split at h
    · rename_i hg; cases h; rw [eq_of_beq hg]; exact rest_ok
    · cases h) n
end Go.Proofs.Ytaibmipamkaljaa
end
section
open Go Go.HL
namespace Go.Proofs.Ytaibmipamkaljaa
set_option maxRecDepth 100000
open Go.Proofs.Try renaming prog → Tp
open Go.HL.HV renaming undef → Ud
noncomputable def B18:Code:=Try.f18.body.getD .skip
abbrev env18 (v0 v1 v4 v5 v6 v7 v8 v9 v10 v11 v12 v13 v14:HV):Env:=[(0,v0),(1,v1),(4,v4),(5,v5),(6,v6),(7,v7),(8,v8),(9,v9),(10,v10),(11,v11),(12,v12),(13,v13),(14,v14)]
theorem rx_a_0 (n:Nat) (l:List HV) :RT polTb 18 (sub [0] B18) [(0,.i (n:Int)),(1,.imm .arg 1 l)] [] .normal (env18 (.i (n:Int)) (.imm .arg 1 l) (.imm .lit 1 []) Ud Ud Ud Ud Ud Ud Ud Ud Ud Ud) [] :=
  RunsTo.hin 0 60 [] fun kf hk=>⟨_,by kernel_rfl,.nil⟩
theorem rx_b_0 (n:Nat) (l:List HV)  {y5 y6 y7 y8 y9 y10 y11 y12 y13 y14:HV}:RT polTb 18 (sub [1,0] B18) (env18 (.i (n:Int)) (.imm .arg 1 l) (.imm .lit 1 []) y5 y6 y7 y8 y9 y10 y11 y12 y13 y14) [] .normal (env18 (.i (n:Int)) (.imm .arg 1 l) (.imm .lit 1 []) (.i (l.length:Int)) y6 y7 y8 y9 y10 y11 y12 y13 y14) [] :=
  RunsTo.hin 0 60 [] fun kf hk=>⟨_,by kernel_rfl,.nil⟩
theorem rx_c_0 (n:Nat) (l:List HV) (m0 m:Nat) {y6 y7 y8 y9 y10 y11 y12 y13 y14:HV}(g0:makeV Tp false 73 (.i (IntKind.i64.wrap ((m0:Int)+1))) (.i (IntKind.i64.wrap ((m0:Int)+1))) []=some (.sl 0 0 m (some m) m 1,[.arr 1 (List.replicate m (.imm .lit 0 [])) true 0])):RT polTb 18 (sub [1,1,0] B18) (env18 (.i (n:Int)) (.imm .arg 1 l) (.imm .lit 1 []) (.i (m0:Int)) y6 y7 y8 y9 y10 y11 y12 y13 y14) [] .normal (env18 (.i (n:Int)) (.imm .arg 1 l) (.imm .lit 1 []) (.i (m0:Int)) (.sl 0 0 m (some m) m 1) y7 y8 y9 y10 y11 y12 y13 y14) [.arr 1 (List.replicate m (.imm .lit 0 [])) true 0] :=
  RunsTo.hin 0 60 [⟨2,2,.sl 0 0 m (some m) m 1,[.arr 1 (List.replicate m (.imm .lit 0 [])) true 0]⟩] fun kf hk=>⟨_,by kernel_rfl,(oC (g0) .nil)⟩
theorem rx_d_0 (n:Nat) (l:List HV) (m0 m:Nat) (H:Heap) {y7 y8 y9 y10 y11 y12 y13 y14:HV}:RT polTb 18 (sub [1,1,1,0,0] B18) (env18 (.i (n:Int)) (.imm .arg 1 l) (.imm .lit 1 []) (.i (m0:Int)) (.sl 0 0 m (some m) m 1) y7 y8 y9 y10 y11 y12 y13 y14) H .normal (env18 (.i (n:Int)) (.imm .arg 1 l) (.imm .lit 1 []) (.i (m0:Int)) (.sl 0 0 m (some m) m 1) (.i (m0:Int)) y8 y9 y10 y11 y12 y13 y14) H :=
  RunsTo.hin 0 60 [] fun kf hk=>⟨_,by kernel_rfl,.nil⟩
theorem rx_e_0 (n:Nat) (l:List HV) (m0 m:Nat) (H:Heap) (i:Int) {y8 y9 y10 y11 y12 y13 y14:HV}(g0:0 ≤ i):RT polTb 18 (sub [1,1,1,0,1,0,0,0] B18) (env18 (.i (n:Int)) (.imm .arg 1 l) (.imm .lit 1 []) (.i (m0:Int)) (.sl 0 0 m (some m) m 1) (.i i) y8 y9 y10 y11 y12 y13 y14) H .normal (env18 (.i (n:Int)) (.imm .arg 1 l) (.imm .lit 1 []) (.i (m0:Int)) (.sl 0 0 m (some m) m 1) (.i i) y8 y9 y10 y11 y12 y13 y14) H :=
  RunsTo.hin 0 60 [⟨4,1,.bool true,H⟩] fun kf hk=>⟨_,by kernel_rfl,(oB H (decide_eq_true g0) .nil)⟩
theorem rx_e_1 (n:Nat) (l:List HV) (m0 m:Nat) (H:Heap) (i:Int) {y8 y9 y10 y11 y12 y13 y14:HV}(g0:¬ (0 ≤ i)):RT polTb 18 (sub [1,1,1,0,1,0,0,0] B18) (env18 (.i (n:Int)) (.imm .arg 1 l) (.imm .lit 1 []) (.i (m0:Int)) (.sl 0 0 m (some m) m 1) (.i i) y8 y9 y10 y11 y12 y13 y14) H (.exit 0) (env18 (.i (n:Int)) (.imm .arg 1 l) (.imm .lit 1 []) (.i (m0:Int)) (.sl 0 0 m (some m) m 1) (.i i) y8 y9 y10 y11 y12 y13 y14) H :=
  RunsTo.hin 0 60 [⟨4,1,.bool false,H⟩] fun kf hk=>⟨_,by kernel_rfl,(oB H (decide_eq_false g0) .nil)⟩
theorem rx_f_0 (n:Nat) (l:List HV) (m0 m:Nat) (H:Heap) (i:Nat) (q:Nat) {y8 y9 y10 y11 y12 y13 y14:HV} {H0:Heap} (g0:makeV Tp false 74 (.i (IntKind.i64.wrap (IntKind.i64.wrap ((n:Int)+1) * (n:Int)))) (.i (IntKind.i64.wrap (IntKind.i64.wrap ((n:Int)+1) * (n:Int)))) H=some (.sl 1 0 q (some q) q 1,H0)):RT polTb 18 (sub [1,1,1,0,1,0,0,1,0,0,0] B18) (env18 (.i (n:Int)) (.imm .arg 1 l) (.imm .lit 1 []) (.i (m0:Int)) (.sl 0 0 m (some m) m 1) (.i (i:Int)) y8 y9 y10 y11 y12 y13 y14) H .normal (env18 (.i (n:Int)) (.imm .arg 1 l) (.imm .lit 1 []) (.i (m0:Int)) (.sl 0 0 m (some m) m 1) (.i (i:Int)) (.sl 1 0 q (some q) q 1) y9 y10 y11 y12 y13 y14) H0 :=
  RunsTo.hin 0 60 [⟨6,4,.sl 1 0 q (some q) q 1,H0⟩] fun kf hk=>⟨_,by kernel_rfl,(oC (g0) .nil)⟩
theorem rx_g_0 (n:Nat) (l:List HV) (m0 m:Nat) (H:Heap) (i:Nat) (q:Nat) {y9 y10 y11 y12 y13 y14:HV}:RT polTb 18 (sub [1,1,1,0,1,0,0,1,0,0,1,0,0] B18) (env18 (.i (n:Int)) (.imm .arg 1 l) (.imm .lit 1 []) (.i (m0:Int)) (.sl 0 0 m (some m) m 1) (.i (i:Int)) (.sl 1 0 q (some q) q 1) y9 y10 y11 y12 y13 y14) H .normal (env18 (.i (n:Int)) (.imm .arg 1 l) (.imm .lit 1 []) (.i (m0:Int)) (.sl 0 0 m (some m) m 1) (.i (i:Int)) (.sl 1 0 q (some q) q 1) (.i 0) y10 y11 y12 y13 y14) H :=
  RunsTo.hin 0 60 [] fun kf hk=>⟨_,by kernel_rfl,.nil⟩
theorem rx_h_0 (n:Nat) (l:List HV) (m0 m:Nat) (H:Heap) (i:Nat) (q:Nat) (k:Nat) {y10 y11 y12 y13 y14:HV}(g0:(k:Int) ≤ (n:Int)):RT polTb 18 (sub [1,1,1,0,1,0,0,1,0,0,1,0,1,0,0,0] B18) (env18 (.i (n:Int)) (.imm .arg 1 l) (.imm .lit 1 []) (.i (m0:Int)) (.sl 0 0 m (some m) m 1) (.i (i:Int)) (.sl 1 0 q (some q) q 1) (.i (k:Int)) y10 y11 y12 y13 y14) H .normal (env18 (.i (n:Int)) (.imm .arg 1 l) (.imm .lit 1 []) (.i (m0:Int)) (.sl 0 0 m (some m) m 1) (.i (i:Int)) (.sl 1 0 q (some q) q 1) (.i (k:Int)) y10 y11 y12 y13 y14) H :=
  RunsTo.hin 0 60 [⟨8,2,.bool true,H⟩] fun kf hk=>⟨_,by kernel_rfl,(oB H (decide_eq_true g0) .nil)⟩
theorem rx_h_1 (n:Nat) (l:List HV) (m0 m:Nat) (H:Heap) (i:Nat) (q:Nat) (k:Nat) {y10 y11 y12 y13 y14:HV}(g0:¬ ((k:Int) ≤ (n:Int))):RT polTb 18 (sub [1,1,1,0,1,0,0,1,0,0,1,0,1,0,0,0] B18) (env18 (.i (n:Int)) (.imm .arg 1 l) (.imm .lit 1 []) (.i (m0:Int)) (.sl 0 0 m (some m) m 1) (.i (i:Int)) (.sl 1 0 q (some q) q 1) (.i (k:Int)) y10 y11 y12 y13 y14) H (.exit 2) (env18 (.i (n:Int)) (.imm .arg 1 l) (.imm .lit 1 []) (.i (m0:Int)) (.sl 0 0 m (some m) m 1) (.i (i:Int)) (.sl 1 0 q (some q) q 1) (.i (k:Int)) y10 y11 y12 y13 y14) H :=
  RunsTo.hin 0 60 [⟨8,2,.bool false,H⟩] fun kf hk=>⟨_,by kernel_rfl,(oB H (decide_eq_false g0) .nil)⟩
theorem rx_i_0 (n:Nat) (l:List HV) (m0 m:Nat) (H:Heap) (i:Nat) (q:Nat) (k:Nat) {y10 y11 y12 y13 y14:HV}:RT polTb 18 (sub [1,1,1,0,1,0,0,1,0,0,1,0,1,0,0,1,0,0,0] B18) (env18 (.i (n:Int)) (.imm .arg 1 l) (.imm .lit 1 []) (.i (m0:Int)) (.sl 0 0 m (some m) m 1) (.i (i:Int)) (.sl 1 0 q (some q) q 1) (.i (k:Int)) y10 y11 y12 y13 y14) H .normal (env18 (.i (n:Int)) (.imm .arg 1 l) (.imm .lit 1 []) (.i (m0:Int)) (.sl 0 0 m (some m) m 1) (.i (i:Int)) (.sl 1 0 q (some q) q 1) (.i (k:Int)) (.i 0) y11 y12 y13 y14) H :=
  RunsTo.hin 0 60 [] fun kf hk=>⟨_,by kernel_rfl,.nil⟩
theorem rx_j_0 (n:Nat) (l:List HV) (m0 m:Nat) (H:Heap) (i:Nat) (q:Nat) (k r:Nat) {y11 y12 y13 y14:HV} {H0:Heap} (g0:(r:Int) < (n:Int)) (g1:(i:Int)=(m0:Int)) (g2:(k:Int)=0) (g3:(r:Int)=0) (g4:idxV Tp 74 (.sl 1 0 q (some q) q 1) (.i (IntKind.i64.wrap (IntKind.i64.wrap ((k:Int) * (n:Int))+(r:Int))))=some (.ptr 1 ((IntKind.i64.wrap (IntKind.i64.wrap ((k:Int) * (n:Int))+(r:Int))).toNat) 0 q)) (g5:storeV Tp H 4 (.ptr 1 ((IntKind.i64.wrap (IntKind.i64.wrap ((k:Int) * (n:Int))+(r:Int))).toNat) 0 q) (.bool true)=some H0):RT polTb 18 (sub [1,1,1,0,1,0,0,1,0,0,1,0,1,0,0,1,0,0,1,0,0] B18) (env18 (.i (n:Int)) (.imm .arg 1 l) (.imm .lit 1 []) (.i (m0:Int)) (.sl 0 0 m (some m) m 1) (.i (i:Int)) (.sl 1 0 q (some q) q 1) (.i (k:Int)) (.i (r:Int)) y11 y12 y13 y14) H .normal (env18 (.i (n:Int)) (.imm .arg 1 l) (.imm .lit 1 []) (.i (m0:Int)) (.sl 0 0 m (some m) m 1) (.i (i:Int)) (.sl 1 0 q (some q) q 1) (.i (k:Int)) (.i (IntKind.i64.wrap ((r:Int)+1))) y11 y12 y13 y14) H0 :=
  RunsTo.hin 0 60 [⟨11,2,.bool true,H⟩,⟨13,2,.bool true,H⟩,⟨14,7,.bool true,H⟩,⟨14,10,.bool true,H⟩,⟨14,12,.ptr 1 ((IntKind.i64.wrap (IntKind.i64.wrap ((k:Int) * (n:Int))+(r:Int))).toNat) 0 q,H⟩,⟨14,13,.tuple [],H0⟩] fun kf hk=>⟨_,by kernel_rfl,(oB H (decide_eq_true g0) (oB H (decide_eq_true g1) (oB H (decide_eq_true g2) (oB H (decide_eq_true g3) (oP H g4 (oS g5 .nil))))))⟩
theorem rx_j_1 (n:Nat) (l:List HV) (m0 m:Nat) (H:Heap) (i:Nat) (q:Nat) (k r:Nat) {y11 y12 y13 y14:HV} {H0:Heap} (g0:(r:Int) < (n:Int)) (g1:(i:Int)=(m0:Int)) (g2:(k:Int)=0) (g3:¬ ((r:Int)=0)) (g4:idxV Tp 74 (.sl 1 0 q (some q) q 1) (.i (IntKind.i64.wrap (IntKind.i64.wrap ((k:Int) * (n:Int))+(r:Int))))=some (.ptr 1 ((IntKind.i64.wrap (IntKind.i64.wrap ((k:Int) * (n:Int))+(r:Int))).toNat) 0 q)) (g5:storeV Tp H 4 (.ptr 1 ((IntKind.i64.wrap (IntKind.i64.wrap ((k:Int) * (n:Int))+(r:Int))).toNat) 0 q) (.bool false)=some H0):RT polTb 18 (sub [1,1,1,0,1,0,0,1,0,0,1,0,1,0,0,1,0,0,1,0,0] B18) (env18 (.i (n:Int)) (.imm .arg 1 l) (.imm .lit 1 []) (.i (m0:Int)) (.sl 0 0 m (some m) m 1) (.i (i:Int)) (.sl 1 0 q (some q) q 1) (.i (k:Int)) (.i (r:Int)) y11 y12 y13 y14) H .normal (env18 (.i (n:Int)) (.imm .arg 1 l) (.imm .lit 1 []) (.i (m0:Int)) (.sl 0 0 m (some m) m 1) (.i (i:Int)) (.sl 1 0 q (some q) q 1) (.i (k:Int)) (.i (IntKind.i64.wrap ((r:Int)+1))) y11 y12 y13 y14) H0 :=
  RunsTo.hin 0 60 [⟨11,2,.bool true,H⟩,⟨13,2,.bool true,H⟩,⟨14,7,.bool true,H⟩,⟨14,10,.bool false,H⟩,⟨14,12,.ptr 1 ((IntKind.i64.wrap (IntKind.i64.wrap ((k:Int) * (n:Int))+(r:Int))).toNat) 0 q,H⟩,⟨14,13,.tuple [],H0⟩] fun kf hk=>⟨_,by kernel_rfl,(oB H (decide_eq_true g0) (oB H (decide_eq_true g1) (oB H (decide_eq_true g2) (oB H (decide_eq_false g3) (oP H g4 (oS g5 .nil))))))⟩
theorem rx_j_2 (n:Nat) (l:List HV) (m0 m:Nat) (H:Heap) (i:Nat) (q:Nat) (k r:Nat) {y11 y12 y13 y14:HV} {H0:Heap} (g0:(r:Int) < (n:Int)) (g1:(i:Int)=(m0:Int)) (g2:¬ ((k:Int)=0)) (g3:idxV Tp 74 (.sl 1 0 q (some q) q 1) (.i (IntKind.i64.wrap (IntKind.i64.wrap ((k:Int) * (n:Int))+(r:Int))))=some (.ptr 1 ((IntKind.i64.wrap (IntKind.i64.wrap ((k:Int) * (n:Int))+(r:Int))).toNat) 0 q)) (g4:storeV Tp H 4 (.ptr 1 ((IntKind.i64.wrap (IntKind.i64.wrap ((k:Int) * (n:Int))+(r:Int))).toNat) 0 q) (.bool false)=some H0):RT polTb 18 (sub [1,1,1,0,1,0,0,1,0,0,1,0,1,0,0,1,0,0,1,0,0] B18) (env18 (.i (n:Int)) (.imm .arg 1 l) (.imm .lit 1 []) (.i (m0:Int)) (.sl 0 0 m (some m) m 1) (.i (i:Int)) (.sl 1 0 q (some q) q 1) (.i (k:Int)) (.i (r:Int)) y11 y12 y13 y14) H .normal (env18 (.i (n:Int)) (.imm .arg 1 l) (.imm .lit 1 []) (.i (m0:Int)) (.sl 0 0 m (some m) m 1) (.i (i:Int)) (.sl 1 0 q (some q) q 1) (.i (k:Int)) (.i (IntKind.i64.wrap ((r:Int)+1))) y11 y12 y13 y14) H0 :=
  RunsTo.hin 0 60 [⟨11,2,.bool true,H⟩,⟨13,2,.bool true,H⟩,⟨14,7,.bool false,H⟩,⟨14,12,.ptr 1 ((IntKind.i64.wrap (IntKind.i64.wrap ((k:Int) * (n:Int))+(r:Int))).toNat) 0 q,H⟩,⟨14,13,.tuple [],H0⟩] fun kf hk=>⟨_,by kernel_rfl,(oB H (decide_eq_true g0) (oB H (decide_eq_true g1) (oB H (decide_eq_false g2) (oP H g3 (oS g4 .nil)))))⟩
theorem rx_j_3 (n:Nat) (l:List HV) (m0 m:Nat) (H:Heap) (i:Nat) (q:Nat) (k r:Nat) {y11 y12 y13 y14:HV} {v0:HV} {a0:HV} {H0:Heap} (g0:(r:Int) < (n:Int)) (g1:¬ ((i:Int)=(m0:Int))) (g2:idxV Tp 73 (.sl 0 0 m (some m) m 1) (.i (IntKind.i64.wrap ((i:Int)+1)))=some (.ptr 0 ((IntKind.i64.wrap ((i:Int)+1)).toNat) 0 m)) (g3:loadV Tp H 74 (.ptr 0 ((IntKind.i64.wrap ((i:Int)+1)).toNat) 0 m)=some (v0)) (g4:idxV Tp 74 v0 (.i (IntKind.i64.wrap (IntKind.i64.wrap ((k:Int) * (n:Int))+(r:Int))))=some (a0)) (g5:loadV Tp H 4 (a0)=some (.bool true)) (g6:idxV Tp 74 (.sl 1 0 q (some q) q 1) (.i (IntKind.i64.wrap (IntKind.i64.wrap ((k:Int) * (n:Int))+(r:Int))))=some (.ptr 1 ((IntKind.i64.wrap (IntKind.i64.wrap ((k:Int) * (n:Int))+(r:Int))).toNat) 0 q)) (g7:storeV Tp H 4 (.ptr 1 ((IntKind.i64.wrap (IntKind.i64.wrap ((k:Int) * (n:Int))+(r:Int))).toNat) 0 q) (.bool true)=some H0) (gS15:(true && true)=true):RT polTb 18 (sub [1,1,1,0,1,0,0,1,0,0,1,0,1,0,0,1,0,0,1,0,0] B18) (env18 (.i (n:Int)) (.imm .arg 1 l) (.imm .lit 1 []) (.i (m0:Int)) (.sl 0 0 m (some m) m 1) (.i (i:Int)) (.sl 1 0 q (some q) q 1) (.i (k:Int)) (.i (r:Int)) y11 y12 y13 y14) H .normal (env18 (.i (n:Int)) (.imm .arg 1 l) (.imm .lit 1 []) (.i (m0:Int)) (.sl 0 0 m (some m) m 1) (.i (i:Int)) (.sl 1 0 q (some q) q 1) (.i (k:Int)) (.i (IntKind.i64.wrap ((r:Int)+1))) y11 y12 y13 y14) H0 :=
  RunsTo.hin 0 60 [⟨11,2,.bool true,H⟩,⟨13,2,.bool false,H⟩,⟨15,9,.ptr 0 ((IntKind.i64.wrap ((i:Int)+1)).toNat) 0 m,H⟩,⟨15,10,v0,H⟩,⟨15,16,a0,H⟩,⟨15,17,.bool true,H⟩,⟨15,43,.ptr 1 ((IntKind.i64.wrap (IntKind.i64.wrap ((k:Int) * (n:Int))+(r:Int))).toNat) 0 q,H⟩,⟨15,44,.tuple [],H0⟩] fun kf hk=>⟨_,by kernel_rfl,(oB H (decide_eq_true g0) (oB H (decide_eq_false g1) (oC (gS15) (oP H g2 (oP H g3 (oP H g4 (oP H g5 (oP H g6 (oS g7 .nil)))))))))⟩
theorem rx_j_4 (n:Nat) (l:List HV) (m0 m:Nat) (H:Heap) (i:Nat) (q:Nat) (k r:Nat) {y11 y12 y13 y14:HV} {v0:HV} {a0:HV} {v1:HV} {x0:Int} {rt0:Int} {a1:HV} {H0:Heap} (g0:(r:Int) < (n:Int)) (g1:¬ ((i:Int)=(m0:Int))) (g2:idxV Tp 73 (.sl 0 0 m (some m) m 1) (.i (IntKind.i64.wrap ((i:Int)+1)))=some (.ptr 0 ((IntKind.i64.wrap ((i:Int)+1)).toNat) 0 m)) (g3:loadV Tp H 74 (.ptr 0 ((IntKind.i64.wrap ((i:Int)+1)).toNat) 0 m)=some (v0)) (g4:idxV Tp 74 v0 (.i (IntKind.i64.wrap (IntKind.i64.wrap ((k:Int) * (n:Int))+(r:Int))))=some (a0)) (g5:loadV Tp H 4 (a0)=some (.bool false)) (g6:0 < (k:Int)) (g7:idxV Tp 73 (.sl 0 0 m (some m) m 1) (.i (IntKind.i64.wrap ((i:Int)+1)))=some (.ptr 0 ((IntKind.i64.wrap ((i:Int)+1)).toNat) 0 m)) (g8:loadV Tp H 74 (.ptr 0 ((IntKind.i64.wrap ((i:Int)+1)).toNat) 0 m)=some (v1)) (g9:idxV Tp 22 (.imm .arg 1 l) (.i (i:Int))=some (.vptr (.i x0))) (g10:∀ kf,callN Tp polTb (kf+1) 50 [.i (r:Int),.i x0,.i (n:Int)] H=some (.i rt0,H)) (g11:idxV Tp 74 v1 (.i (IntKind.i64.wrap (IntKind.i64.wrap (IntKind.i64.wrap ((k:Int) - 1) * (n:Int))+rt0)))=some (a1)) (g12:loadV Tp H 4 (a1)=some (.bool true)) (g13:idxV Tp 74 (.sl 1 0 q (some q) q 1) (.i (IntKind.i64.wrap (IntKind.i64.wrap ((k:Int) * (n:Int))+(r:Int))))=some (.ptr 1 ((IntKind.i64.wrap (IntKind.i64.wrap ((k:Int) * (n:Int))+(r:Int))).toNat) 0 q)) (g14:storeV Tp H 4 (.ptr 1 ((IntKind.i64.wrap (IntKind.i64.wrap ((k:Int) * (n:Int))+(r:Int))).toNat) 0 q) (.bool true)=some H0) (gS15:(recL ((loadV Tp H 74 (.ptr 0 ((IntKind.i64.wrap ((i:Int)+1)).toNat) 0 m)).map (fun v=>(v,(H:Heap)))) ((loadV Tp H 74 (.ptr 0 ((IntKind.i64.wrap ((i:Int)+1)).toNat) 0 m)).map (fun v=>(v,(H:Heap)))) H H && true)=true):RT polTb 18 (sub [1,1,1,0,1,0,0,1,0,0,1,0,1,0,0,1,0,0,1,0,0] B18) (env18 (.i (n:Int)) (.imm .arg 1 l) (.imm .lit 1 []) (.i (m0:Int)) (.sl 0 0 m (some m) m 1) (.i (i:Int)) (.sl 1 0 q (some q) q 1) (.i (k:Int)) (.i (r:Int)) y11 y12 y13 y14) H .normal (env18 (.i (n:Int)) (.imm .arg 1 l) (.imm .lit 1 []) (.i (m0:Int)) (.sl 0 0 m (some m) m 1) (.i (i:Int)) (.sl 1 0 q (some q) q 1) (.i (k:Int)) (.i (IntKind.i64.wrap ((r:Int)+1))) y11 y12 y13 y14) H0 :=
  RunsTo.hin 0 60 [⟨11,2,.bool true,H⟩,⟨13,2,.bool false,H⟩,⟨15,9,.ptr 0 ((IntKind.i64.wrap ((i:Int)+1)).toNat) 0 m,H⟩,⟨15,10,v0,H⟩,⟨15,16,a0,H⟩,⟨15,17,.bool false,H⟩,⟨15,20,.bool true,H⟩,⟨15,25,.ptr 0 ((IntKind.i64.wrap ((i:Int)+1)).toNat) 0 m,H⟩,⟨15,26,v1,H⟩,⟨15,34,.vptr (.i x0),H⟩,⟨15,37,.i rt0,H⟩,⟨15,39,a1,H⟩,⟨15,40,.bool true,H⟩,⟨15,43,.ptr 1 ((IntKind.i64.wrap (IntKind.i64.wrap ((k:Int) * (n:Int))+(r:Int))).toNat) 0 q,H⟩,⟨15,44,.tuple [],H0⟩] fun kf hk=>⟨_,by kernel_rfl,(oB H (decide_eq_true g0) (oB H (decide_eq_false g1) (oC (gS15) (oP H g2 (oP H g3 (oP H g4 (oP H g5 (oB H (decide_eq_true g6) (oP H g7 (oP H g8 (oP H g9 (oC (g10 kf) (oP H g11 (oP H g12 (oP H g13 (oS g14 .nil))))))))))))))))⟩
theorem rx_j_5 (n:Nat) (l:List HV) (m0 m:Nat) (H:Heap) (i:Nat) (q:Nat) (k r:Nat) {y11 y12 y13 y14:HV} {v0:HV} {a0:HV} {v1:HV} {x0:Int} {rt0:Int} {a1:HV} {H0:Heap} (g0:(r:Int) < (n:Int)) (g1:¬ ((i:Int)=(m0:Int))) (g2:idxV Tp 73 (.sl 0 0 m (some m) m 1) (.i (IntKind.i64.wrap ((i:Int)+1)))=some (.ptr 0 ((IntKind.i64.wrap ((i:Int)+1)).toNat) 0 m)) (g3:loadV Tp H 74 (.ptr 0 ((IntKind.i64.wrap ((i:Int)+1)).toNat) 0 m)=some (v0)) (g4:idxV Tp 74 v0 (.i (IntKind.i64.wrap (IntKind.i64.wrap ((k:Int) * (n:Int))+(r:Int))))=some (a0)) (g5:loadV Tp H 4 (a0)=some (.bool false)) (g6:0 < (k:Int)) (g7:idxV Tp 73 (.sl 0 0 m (some m) m 1) (.i (IntKind.i64.wrap ((i:Int)+1)))=some (.ptr 0 ((IntKind.i64.wrap ((i:Int)+1)).toNat) 0 m)) (g8:loadV Tp H 74 (.ptr 0 ((IntKind.i64.wrap ((i:Int)+1)).toNat) 0 m)=some (v1)) (g9:idxV Tp 22 (.imm .arg 1 l) (.i (i:Int))=some (.vptr (.i x0))) (g10:∀ kf,callN Tp polTb (kf+1) 50 [.i (r:Int),.i x0,.i (n:Int)] H=some (.i rt0,H)) (g11:idxV Tp 74 v1 (.i (IntKind.i64.wrap (IntKind.i64.wrap (IntKind.i64.wrap ((k:Int) - 1) * (n:Int))+rt0)))=some (a1)) (g12:loadV Tp H 4 (a1)=some (.bool false)) (g13:idxV Tp 74 (.sl 1 0 q (some q) q 1) (.i (IntKind.i64.wrap (IntKind.i64.wrap ((k:Int) * (n:Int))+(r:Int))))=some (.ptr 1 ((IntKind.i64.wrap (IntKind.i64.wrap ((k:Int) * (n:Int))+(r:Int))).toNat) 0 q)) (g14:storeV Tp H 4 (.ptr 1 ((IntKind.i64.wrap (IntKind.i64.wrap ((k:Int) * (n:Int))+(r:Int))).toNat) 0 q) (.bool false)=some H0) (gS15:(recL ((loadV Tp H 74 (.ptr 0 ((IntKind.i64.wrap ((i:Int)+1)).toNat) 0 m)).map (fun v=>(v,(H:Heap)))) ((loadV Tp H 74 (.ptr 0 ((IntKind.i64.wrap ((i:Int)+1)).toNat) 0 m)).map (fun v=>(v,(H:Heap)))) H H && true)=true):RT polTb 18 (sub [1,1,1,0,1,0,0,1,0,0,1,0,1,0,0,1,0,0,1,0,0] B18) (env18 (.i (n:Int)) (.imm .arg 1 l) (.imm .lit 1 []) (.i (m0:Int)) (.sl 0 0 m (some m) m 1) (.i (i:Int)) (.sl 1 0 q (some q) q 1) (.i (k:Int)) (.i (r:Int)) y11 y12 y13 y14) H .normal (env18 (.i (n:Int)) (.imm .arg 1 l) (.imm .lit 1 []) (.i (m0:Int)) (.sl 0 0 m (some m) m 1) (.i (i:Int)) (.sl 1 0 q (some q) q 1) (.i (k:Int)) (.i (IntKind.i64.wrap ((r:Int)+1))) y11 y12 y13 y14) H0 :=
  RunsTo.hin 0 60 [⟨11,2,.bool true,H⟩,⟨13,2,.bool false,H⟩,⟨15,9,.ptr 0 ((IntKind.i64.wrap ((i:Int)+1)).toNat) 0 m,H⟩,⟨15,10,v0,H⟩,⟨15,16,a0,H⟩,⟨15,17,.bool false,H⟩,⟨15,20,.bool true,H⟩,⟨15,25,.ptr 0 ((IntKind.i64.wrap ((i:Int)+1)).toNat) 0 m,H⟩,⟨15,26,v1,H⟩,⟨15,34,.vptr (.i x0),H⟩,⟨15,37,.i rt0,H⟩,⟨15,39,a1,H⟩,⟨15,40,.bool false,H⟩,⟨15,43,.ptr 1 ((IntKind.i64.wrap (IntKind.i64.wrap ((k:Int) * (n:Int))+(r:Int))).toNat) 0 q,H⟩,⟨15,44,.tuple [],H0⟩] fun kf hk=>⟨_,by kernel_rfl,(oB H (decide_eq_true g0) (oB H (decide_eq_false g1) (oC (gS15) (oP H g2 (oP H g3 (oP H g4 (oP H g5 (oB H (decide_eq_true g6) (oP H g7 (oP H g8 (oP H g9 (oC (g10 kf) (oP H g11 (oP H g12 (oP H g13 (oS g14 .nil))))))))))))))))⟩
theorem rx_j_6 (n:Nat) (l:List HV) (m0 m:Nat) (H:Heap) (i:Nat) (q:Nat) (k r:Nat) {y11 y12 y13 y14:HV} {v0:HV} {a0:HV} {H0:Heap} (g0:(r:Int) < (n:Int)) (g1:¬ ((i:Int)=(m0:Int))) (g2:idxV Tp 73 (.sl 0 0 m (some m) m 1) (.i (IntKind.i64.wrap ((i:Int)+1)))=some (.ptr 0 ((IntKind.i64.wrap ((i:Int)+1)).toNat) 0 m)) (g3:loadV Tp H 74 (.ptr 0 ((IntKind.i64.wrap ((i:Int)+1)).toNat) 0 m)=some (v0)) (g4:idxV Tp 74 v0 (.i (IntKind.i64.wrap (IntKind.i64.wrap ((k:Int) * (n:Int))+(r:Int))))=some (a0)) (g5:loadV Tp H 4 (a0)=some (.bool false)) (g6:¬ (0 < (k:Int))) (g7:idxV Tp 74 (.sl 1 0 q (some q) q 1) (.i (IntKind.i64.wrap (IntKind.i64.wrap ((k:Int) * (n:Int))+(r:Int))))=some (.ptr 1 ((IntKind.i64.wrap (IntKind.i64.wrap ((k:Int) * (n:Int))+(r:Int))).toNat) 0 q)) (g8:storeV Tp H 4 (.ptr 1 ((IntKind.i64.wrap (IntKind.i64.wrap ((k:Int) * (n:Int))+(r:Int))).toNat) 0 q) (.bool false)=some H0) (gS15:(true && true)=true):RT polTb 18 (sub [1,1,1,0,1,0,0,1,0,0,1,0,1,0,0,1,0,0,1,0,0] B18) (env18 (.i (n:Int)) (.imm .arg 1 l) (.imm .lit 1 []) (.i (m0:Int)) (.sl 0 0 m (some m) m 1) (.i (i:Int)) (.sl 1 0 q (some q) q 1) (.i (k:Int)) (.i (r:Int)) y11 y12 y13 y14) H .normal (env18 (.i (n:Int)) (.imm .arg 1 l) (.imm .lit 1 []) (.i (m0:Int)) (.sl 0 0 m (some m) m 1) (.i (i:Int)) (.sl 1 0 q (some q) q 1) (.i (k:Int)) (.i (IntKind.i64.wrap ((r:Int)+1))) y11 y12 y13 y14) H0 :=
  RunsTo.hin 0 60 [⟨11,2,.bool true,H⟩,⟨13,2,.bool false,H⟩,⟨15,9,.ptr 0 ((IntKind.i64.wrap ((i:Int)+1)).toNat) 0 m,H⟩,⟨15,10,v0,H⟩,⟨15,16,a0,H⟩,⟨15,17,.bool false,H⟩,⟨15,20,.bool false,H⟩,⟨15,43,.ptr 1 ((IntKind.i64.wrap (IntKind.i64.wrap ((k:Int) * (n:Int))+(r:Int))).toNat) 0 q,H⟩,⟨15,44,.tuple [],H0⟩] fun kf hk=>⟨_,by kernel_rfl,(oB H (decide_eq_true g0) (oB H (decide_eq_false g1) (oC (gS15) (oP H g2 (oP H g3 (oP H g4 (oP H g5 (oB H (decide_eq_false g6) (oP H g7 (oS g8 .nil))))))))))⟩
theorem rx_j_7 (n:Nat) (l:List HV) (m0 m:Nat) (H:Heap) (i:Nat) (q:Nat) (k r:Nat) {y11 y12 y13 y14:HV}(g0:¬ ((r:Int) < (n:Int))):RT polTb 18 (sub [1,1,1,0,1,0,0,1,0,0,1,0,1,0,0,1,0,0,1,0,0] B18) (env18 (.i (n:Int)) (.imm .arg 1 l) (.imm .lit 1 []) (.i (m0:Int)) (.sl 0 0 m (some m) m 1) (.i (i:Int)) (.sl 1 0 q (some q) q 1) (.i (k:Int)) (.i (r:Int)) y11 y12 y13 y14) H (.exit 4) (env18 (.i (n:Int)) (.imm .arg 1 l) (.imm .lit 1 []) (.i (m0:Int)) (.sl 0 0 m (some m) m 1) (.i (i:Int)) (.sl 1 0 q (some q) q 1) (.i (k:Int)) (.i (r:Int)) y11 y12 y13 y14) H :=
  RunsTo.hin 0 60 [⟨11,2,.bool false,H⟩] fun kf hk=>⟨_,by kernel_rfl,(oB H (decide_eq_false g0) .nil)⟩
theorem rx_k_0 (n:Nat) (l:List HV) (m0 m:Nat) (H:Heap) (i:Nat) (q:Nat) (k:Nat) {y10 y11 y12 y13 y14:HV}:RT polTb 18 (sub [1,1,1,0,1,0,0,1,0,0,1,0,1,0,0,1,1] B18) (env18 (.i (n:Int)) (.imm .arg 1 l) (.imm .lit 1 []) (.i (m0:Int)) (.sl 0 0 m (some m) m 1) (.i (i:Int)) (.sl 1 0 q (some q) q 1) (.i (k:Int)) y10 y11 y12 y13 y14) H .normal (env18 (.i (n:Int)) (.imm .arg 1 l) (.imm .lit 1 []) (.i (m0:Int)) (.sl 0 0 m (some m) m 1) (.i (i:Int)) (.sl 1 0 q (some q) q 1) (.i (IntKind.i64.wrap ((k:Int)+1))) y10 y11 y12 y13 y14) H :=
  RunsTo.hin 0 60 [] fun kf hk=>⟨_,by kernel_rfl,.nil⟩
theorem rx_l_0 (n:Nat) (l:List HV) (m0 m:Nat) (H:Heap) (i:Nat) (q:Nat) {y9 y10 y11 y12 y13 y14:HV} {H0:Heap} (g0:idxV Tp 73 (.sl 0 0 m (some m) m 1) (.i (i:Int))=some (.ptr 0 i 0 m)) (g1:sealSt Tp 74 (.ptr 0 i 0 m) (.sl 1 0 q (some q) q 1) H=some (.tuple [],H0)):RT polTb 18 (sub [1,1,1,0,1,0,0,1,0,0,1,1] B18) (env18 (.i (n:Int)) (.imm .arg 1 l) (.imm .lit 1 []) (.i (m0:Int)) (.sl 0 0 m (some m) m 1) (.i (i:Int)) (.sl 1 0 q (some q) q 1) y9 y10 y11 y12 y13 y14) H .normal (env18 (.i (n:Int)) (.imm .arg 1 l) (.imm .lit 1 []) (.i (m0:Int)) (.sl 0 0 m (some m) m 1) (.i (i:Int)) (.sl 1 0 q (some q) q 1) y9 y10 y11 y12 y13 y14) H0 :=
  RunsTo.hin 0 60 [⟨16,3,.ptr 0 i 0 m,H⟩,⟨16,4,.tuple [],H0⟩] fun kf hk=>⟨_,by kernel_rfl,(oP H g0 (oC (g1) .nil))⟩
theorem rx_m_0 (n:Nat) (l:List HV) (m0 m:Nat) (H:Heap) (i:Nat) {y8 y9 y10 y11 y12 y13 y14:HV}:RT polTb 18 (sub [1,1,1,0,1,0,0,1,1] B18) (env18 (.i (n:Int)) (.imm .arg 1 l) (.imm .lit 1 []) (.i (m0:Int)) (.sl 0 0 m (some m) m 1) (.i (i:Int)) y8 y9 y10 y11 y12 y13 y14) H .normal (env18 (.i (n:Int)) (.imm .arg 1 l) (.imm .lit 1 []) (.i (m0:Int)) (.sl 0 0 m (some m) m 1) (.i (IntKind.i64.wrap ((i:Int) - 1))) y8 y9 y10 y11 y12 y13 y14) H :=
  RunsTo.hin 0 60 [] fun kf hk=>⟨_,by kernel_rfl,.nil⟩
theorem rx_n_0 (n:Nat) (l:List HV) (m0 m:Nat) (H:Heap) {y7 y8 y9 y10 y11 y12 y13 y14:HV} {H0:Heap} (g0:some (HV.sl H.length 0 0 none 0 1,H ++ [Blk.arr 1 [] true 0])=some (.sl 1 0 0 none 0 1,H0)):RT polTb 18 (sub [1,1,1,1,0] B18) (env18 (.i (n:Int)) (.imm .arg 1 l) (.imm .lit 1 []) (.i (m0:Int)) (.sl 0 0 m (some m) m 1) y7 y8 y9 y10 y11 y12 y13 y14) H .normal (env18 (.i (n:Int)) (.imm .arg 1 l) (.imm .lit 1 []) (.i (m0:Int)) (.sl 0 0 m (some m) m 1) y7 y8 y9 y10 (.sl 1 0 0 none 0 1) y12 y13 y14) H0 :=
  RunsTo.hin 0 60 [⟨17,0,.sl 1 0 0 none 0 1,H0⟩] fun kf hk=>⟨_,by kernel_rfl,(oC (g0) .nil)⟩
theorem rx_o_0 (n:Nat) (l:List HV) (m0 m:Nat) (H:Heap) (z:Nat) {y7 y8 y9 y10 y12 y13 y14:HV}:RT polTb 18 (sub [1,1,1,1,1,0] B18) (env18 (.i (n:Int)) (.imm .arg 1 l) (.imm .lit 1 []) (.i (m0:Int)) (.sl 0 0 m (some m) m 1) y7 y8 y9 y10 (.sl 1 0 z none z 1) y12 y13 y14) H .normal (env18 (.i (n:Int)) (.imm .arg 1 l) (.imm .lit 1 []) (.i (m0:Int)) (.sl 0 0 m (some m) m 1) y7 y8 y9 y10 (.sl 1 0 z none z 1) (.i 0) y13 y14) H :=
  RunsTo.hin 0 60 [] fun kf hk=>⟨_,by kernel_rfl,.nil⟩
theorem rx_p_0 (n:Nat) (l:List HV) (m0 m:Nat) (H:Heap) (z:Nat) (sm:Nat) {y7 y8 y9 y10 y13 y14:HV}:RT polTb 18 (sub [1,1,1,1,1,1,0,0] B18) (env18 (.i (n:Int)) (.imm .arg 1 l) (.imm .lit 1 []) (.i (m0:Int)) (.sl 0 0 m (some m) m 1) y7 y8 y9 y10 (.sl 1 0 z none z 1) (.i (sm:Int)) y13 y14) H .normal (env18 (.i (n:Int)) (.imm .arg 1 l) (.imm .lit 1 []) (.i (m0:Int)) (.sl 0 0 m (some m) m 1) y7 y8 y9 y10 (.sl 1 0 z none z 1) (.i (sm:Int)) (.i 0) y14) H :=
  RunsTo.hin 0 60 [] fun kf hk=>⟨_,by kernel_rfl,.nil⟩
theorem rx_q_0 (n:Nat) (l:List HV) (m0 m:Nat) (H:Heap) (z:Nat) (sm j:Nat) {y7 y8 y9 y10 y14:HV} {x0:Int} {rt0:Int} {v0:HV} {a0:HV} {H0:Heap} (g0:(j:Int) < (m0:Int)) (g1:(z:Int) < (n:Int)) (g2:idxV Tp 22 (.imm .arg 1 l) (.i (j:Int))=some (.vptr (.i x0))) (g3:∀ kf,callN Tp polTb (kf+1) 50 [.i (sm:Int),.i x0,.i (n:Int)] H=some (.i rt0,H)) (g4:idxV Tp 73 (.sl 0 0 m (some m) m 1) (.i (IntKind.i64.wrap ((j:Int)+1)))=some (.ptr 0 ((IntKind.i64.wrap ((j:Int)+1)).toNat) 0 m)) (g5:loadV Tp H 74 (.ptr 0 ((IntKind.i64.wrap ((j:Int)+1)).toNat) 0 m)=some (v0)) (g6:idxV Tp 74 v0 (.i (IntKind.i64.wrap (IntKind.i64.wrap (IntKind.i64.wrap (IntKind.i64.wrap ((n:Int) - (z:Int)) - 1) * (n:Int))+rt0)))=some (a0)) (g7:loadV Tp H 4 (a0)=some (.bool true)) (g8:appV H 1 8 (.sl 1 0 z none z 1) [.i (j:Int)]=some (.sl 1 0 (z+1) none (z+1) 1,H0)):RT polTb 18 (sub [1,1,1,1,1,1,0,1,0,0] B18) (env18 (.i (n:Int)) (.imm .arg 1 l) (.imm .lit 1 []) (.i (m0:Int)) (.sl 0 0 m (some m) m 1) y7 y8 y9 y10 (.sl 1 0 z none z 1) (.i (sm:Int)) (.i (j:Int)) y14) H .normal (env18 (.i (n:Int)) (.imm .arg 1 l) (.imm .lit 1 []) (.i (m0:Int)) (.sl 0 0 m (some m) m 1) y7 y8 y9 y10 (.sl 1 0 (z+1) none (z+1) 1) (.i rt0) (.i (IntKind.i64.wrap ((j:Int)+1))) (.i rt0)) H0 :=
  RunsTo.hin 0 60 [⟨20,2,.bool true,H⟩,⟨20,7,.bool true,H⟩,⟨22,3,.vptr (.i x0),H⟩,⟨22,6,.i rt0,H⟩,⟨23,3,.ptr 0 ((IntKind.i64.wrap ((j:Int)+1)).toNat) 0 m,H⟩,⟨23,4,v0,H⟩,⟨23,14,a0,H⟩,⟨23,15,.bool true,H⟩,⟨24,3,.sl 1 0 (z+1) none (z+1) 1,H0⟩] fun kf hk=>⟨_,by kernel_rfl,(oB H (decide_eq_true g0) (oB H (decide_eq_true g1) (oP H g2 (oC (g3 kf) (oP H g4 (oP H g5 (oP H g6 (oP H g7 (oC (g8) .nil)))))))))⟩
theorem rx_q_1 (n:Nat) (l:List HV) (m0 m:Nat) (H:Heap) (z:Nat) (sm j:Nat) {y7 y8 y9 y10 y14:HV} {x0:Int} {rt0:Int} {v0:HV} {a0:HV} (g0:(j:Int) < (m0:Int)) (g1:(z:Int) < (n:Int)) (g2:idxV Tp 22 (.imm .arg 1 l) (.i (j:Int))=some (.vptr (.i x0))) (g3:∀ kf,callN Tp polTb (kf+1) 50 [.i (sm:Int),.i x0,.i (n:Int)] H=some (.i rt0,H)) (g4:idxV Tp 73 (.sl 0 0 m (some m) m 1) (.i (IntKind.i64.wrap ((j:Int)+1)))=some (.ptr 0 ((IntKind.i64.wrap ((j:Int)+1)).toNat) 0 m)) (g5:loadV Tp H 74 (.ptr 0 ((IntKind.i64.wrap ((j:Int)+1)).toNat) 0 m)=some (v0)) (g6:idxV Tp 74 v0 (.i (IntKind.i64.wrap (IntKind.i64.wrap (IntKind.i64.wrap (IntKind.i64.wrap ((n:Int) - (z:Int)) - 1) * (n:Int))+rt0)))=some (a0)) (g7:loadV Tp H 4 (a0)=some (.bool false)):RT polTb 18 (sub [1,1,1,1,1,1,0,1,0,0] B18) (env18 (.i (n:Int)) (.imm .arg 1 l) (.imm .lit 1 []) (.i (m0:Int)) (.sl 0 0 m (some m) m 1) y7 y8 y9 y10 (.sl 1 0 z none z 1) (.i (sm:Int)) (.i (j:Int)) y14) H .normal (env18 (.i (n:Int)) (.imm .arg 1 l) (.imm .lit 1 []) (.i (m0:Int)) (.sl 0 0 m (some m) m 1) y7 y8 y9 y10 (.sl 1 0 z none z 1) (.i (sm:Int)) (.i (IntKind.i64.wrap ((j:Int)+1))) (.i rt0)) H :=
  RunsTo.hin 0 60 [⟨20,2,.bool true,H⟩,⟨20,7,.bool true,H⟩,⟨22,3,.vptr (.i x0),H⟩,⟨22,6,.i rt0,H⟩,⟨23,3,.ptr 0 ((IntKind.i64.wrap ((j:Int)+1)).toNat) 0 m,H⟩,⟨23,4,v0,H⟩,⟨23,14,a0,H⟩,⟨23,15,.bool false,H⟩] fun kf hk=>⟨_,by kernel_rfl,(oB H (decide_eq_true g0) (oB H (decide_eq_true g1) (oP H g2 (oC (g3 kf) (oP H g4 (oP H g5 (oP H g6 (oP H g7 .nil))))))))⟩
theorem rx_q_2 (n:Nat) (l:List HV) (m0 m:Nat) (H:Heap) (z:Nat) (sm j:Nat) {y7 y8 y9 y10 y14:HV}(g0:(j:Int) < (m0:Int)) (g1:¬ ((z:Int) < (n:Int))):RT polTb 18 (sub [1,1,1,1,1,1,0,1,0,0] B18) (env18 (.i (n:Int)) (.imm .arg 1 l) (.imm .lit 1 []) (.i (m0:Int)) (.sl 0 0 m (some m) m 1) y7 y8 y9 y10 (.sl 1 0 z none z 1) (.i (sm:Int)) (.i (j:Int)) y14) H (.exit 6) (env18 (.i (n:Int)) (.imm .arg 1 l) (.imm .lit 1 []) (.i (m0:Int)) (.sl 0 0 m (some m) m 1) y7 y8 y9 y10 (.sl 1 0 z none z 1) (.i (sm:Int)) (.i (j:Int)) y14) H :=
  RunsTo.hin 0 60 [⟨20,2,.bool true,H⟩,⟨20,7,.bool false,H⟩] fun kf hk=>⟨_,by kernel_rfl,(oB H (decide_eq_true g0) (oB H (decide_eq_false g1) .nil))⟩
theorem rx_q_3 (n:Nat) (l:List HV) (m0 m:Nat) (H:Heap) (z:Nat) (sm j:Nat) {y7 y8 y9 y10 y14:HV}(g0:¬ ((j:Int) < (m0:Int))):RT polTb 18 (sub [1,1,1,1,1,1,0,1,0,0] B18) (env18 (.i (n:Int)) (.imm .arg 1 l) (.imm .lit 1 []) (.i (m0:Int)) (.sl 0 0 m (some m) m 1) y7 y8 y9 y10 (.sl 1 0 z none z 1) (.i (sm:Int)) (.i (j:Int)) y14) H (.exit 6) (env18 (.i (n:Int)) (.imm .arg 1 l) (.imm .lit 1 []) (.i (m0:Int)) (.sl 0 0 m (some m) m 1) y7 y8 y9 y10 (.sl 1 0 z none z 1) (.i (sm:Int)) (.i (j:Int)) y14) H :=
  RunsTo.hin 0 60 [⟨20,2,.bool false,H⟩] fun kf hk=>⟨_,by kernel_rfl,(oB H (decide_eq_false g0) .nil)⟩
theorem rx_r_0 (n:Nat) (l:List HV) (m0 m:Nat) (H:Heap) (z:Nat) {y7 y8 y9 y10 y12 y13 y14:HV}:RT polTb 18 (sub [1,1,1,1,1,1,1] B18) (env18 (.i (n:Int)) (.imm .arg 1 l) (.imm .lit 1 []) (.i (m0:Int)) (.sl 0 0 m (some m) m 1) y7 y8 y9 y10 (.sl 1 0 z none z 1) y12 y13 y14) H .ret (env18 (.i (n:Int)) (.imm .arg 1 l) (.sl 1 0 z none z 1) (.i (m0:Int)) (.sl 0 0 m (some m) m 1) y7 y8 y9 y10 (.sl 1 0 z none z 1) y12 y13 y14) H :=
  RunsTo.hin 0 60 [] fun kf hk=>⟨_,by kernel_rfl,.nil⟩
end Go.Proofs.Ytaibmipamkaljaa
end
section
open Go Go.HL
namespace Go.Proofs.Ytaibmipamkaljaa
def cellT (n:Int) (l:List Int) (k r:Nat):Bool:=decide ((((k:Int),(((r:Int),0):El)):Wt) ∈ (rchT (gN n) (l.map (modX n))).headD [])
theorem cell_nil {n:Int} (k r:Nat):cellT n [] k r=(decide (k=0) && decide (r=0)):=by
  by_cases h:k=0∧r=0
  · obtain ⟨rfl,rfl⟩:=h; rfl
  · have:¬ ((((k:Int),(((r:Int),0):El)):Wt) ∈ (rchT (gN n) (([]:List Int).map (modX n))).headD []):=by
      simp only [List.map_nil,rchT,List.headD_cons,List.mem_singleton,Prod.mk.injEq,and_true]
      omega
    rw [cellT,decide_eq_false this]
    by_cases h0:k=0
    · simp [h0,show r ≠ 0 from fun e=>h ⟨h0,e⟩]
    · simp [h0]
theorem cell_cons {n:Int} (hn:0 < n) (x:Int) (l:List Int) (k r:Nat) (hr:(r:Int) < n) :
    cellT n (x :: l) k r=(cellT n l k r || (decide (0 < k) && cellT n l (k - 1) (((r:Int) - x) % n).toNat)):=by
  have hm:=Int.emod_nonneg ((r:Int) - x) (show n ≠ 0 by omega)
  have key:((((k:Int),(((r:Int),0):El)):Wt) ∈ (rchT (gN n) ((x :: l).map (modX n))).headD []) ↔
      ((((k:Int),(((r:Int),0):El)):Wt) ∈ (rchT (gN n) (l.map (modX n))).headD []) ∨ (0 < k∧((((k - 1:Nat):Int),(((((r:Int) - x) % n).toNat:Int),0)):Wt) ∈ (rchT (gN n) (l.map (modX n))).headD []):=by
    rw [Int.toNat_of_nonneg hm]
    constructor
    · intro h
      obtain ⟨s,hs,e⟩:=(rch_sub hn (x :: l) _).1 h
      simp only [Prod.mk.injEq,and_true] at e
      cases hs with
      | cons _ h=>exact .inl ((rch_sub hn l _).2 ⟨s,h,by rw [e.1,e.2]⟩)
      | cons_cons _ h =>
        rename_i s'
        refine .inr ⟨by have:=e.1; simp only [List.length_cons] at this; omega,(rch_sub hn l _).2 ⟨s',h,?_⟩⟩
        have e1:((k - 1:Nat):Int)=(s'.length:Int):=by have:=e.1; simp only [List.length_cons] at this; omega
        have e2:((r:Int) - x) % n=s'.sum % n:=by
          rw [e.2,List.sum_cons,Int.sub_emod,Int.emod_emod,← Int.sub_emod]
          congr 1; omega
        rw [e1,e2]
    · rintro (h | ⟨h0,h⟩)
      · obtain ⟨s,hs,e⟩:=(rch_sub hn l _).1 h
        exact (rch_sub hn (x :: l) _).2 ⟨s,hs.cons x,e⟩
      · obtain ⟨s,hs,e⟩:=(rch_sub hn l _).1 h
        simp only [Prod.mk.injEq,and_true] at e
        refine (rch_sub hn (x :: l) _).2 ⟨x :: s,hs.cons_cons x,?_⟩
        have e1:(k:Int)=((x :: s).length:Int):=by have:=e.1; simp only [List.length_cons]; omega
        have e2:(r:Int)=(x :: s).sum % n:=by
          rw [List.sum_cons,Int.add_emod,← e.2,← Int.add_emod,show x+((r:Int) - x)=(r:Int) by omega]
          exact (Int.emod_eq_of_lt (by omega) hr).symm
        rw [e1,← e2]
  by_cases a:((((k:Int),(((r:Int),0):El)):Wt) ∈ (rchT (gN n) (l.map (modX n))).headD [])
  · rw [cellT,cellT,decide_eq_true (key.2 (.inl a)),decide_eq_true a,Bool.true_or]
  · by_cases b:0 < k∧((((k - 1:Nat):Int),(((((r:Int) - x) % n).toNat:Int),0)):Wt) ∈ (rchT (gN n) (l.map (modX n))).headD []
    · rw [cellT,cellT,cellT,decide_eq_true (key.2 (.inr b)),decide_eq_false a,decide_eq_true b.1,decide_eq_true b.2]; rfl
    · have c:=fun h=>(key.1 h).elim a b
      rw [cellT,cellT,cellT,decide_eq_false c,decide_eq_false a]
      by_cases d:0 < k
      · rw [decide_eq_true d,decide_eq_false (fun h=>b ⟨d,h⟩)]; rfl
      · rw [decide_eq_false d]; rfl
end Go.Proofs.Ytaibmipamkaljaa
end
