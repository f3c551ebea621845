/- A part of the proof. -/
import Derived.Test.YtaibmipamkaljaaHlA
import Derived.Test.YtaibmipamkaljaaHlB
import Derived.Test.YtaibmipamkaljaaHlC
import Derived.Test.YtaibmipamkaljaaHlD
import Derived.Test.YtaibmipamkaljaaHlE
import Derived.Test.YtaibmipamkaljaaHlF
import Derived.ProofKit
import Derived.Test.YtaibmipamkaljaaProg
import Derived.Deep.Slices
import Derived.OpenShut
set_option linter.unusedVariables false
set_option linter.unusedSimpArgs false
set_option linter.unnecessarySimpa false
namespace Go.HL
abbrev HV.i (n:Int):HV:=.int .i64 n
abbrev HV.a (l:List HV):HV:=.imm .arg 1 l
abbrev HV.s (b n:Nat):HV:=.sl b 0 n none n 1
abbrev HV.c (b n:Nat) (cap:Option Nat):HV:=.sl b 0 n cap n 1
abbrev HV.o (b n:Nat):HV:=.sl b 0 n (some n) n 1
abbrev Blk.b (l:List HV):Blk:=.arr 1 l true 0
section
variable {P:Program} {pol:Pol} {f:FuncId} {c:Code} {e E:Env} {H H':Heap} {x:X} {K:List Nat}
theorem RunsTo.hin (d n:Nat) (hs:List Hint) (h:∀ k,d ≤ k → ∃ ob,hview K (evCH P pol (callN P pol (k+1)) n f c e H hs)=some (x,E,H',ob)∧Obls ob):RunsTo P pol f c e H x K E H':=RunsTo.hint (d+1) n hs fun k hk=>by
  obtain ⟨k,rfl⟩:∃ n,k=n+1:=⟨k - 1,by omega⟩
  exact h k (by omega)
theorem oC {p:Prop} {os:List Prop} (h:p) (t:Obls os):Obls (p :: os):=Obls.cons h t
theorem oP (H:Heap) {r:Option HV} {v:HV} {os:List Prop} (h:r=some v) (t:Obls os):Obls ((r.map (fun v=>(v,H))=some (v,H)) :: os):=Obls.cons (hintOp h) t
theorem oS {r:Option Heap} {H:Heap} {os:List Prop} (h:r=some H) (t:Obls os):Obls ((r.map (fun H=>(HV.tuple [],H))=some (.tuple [],H)) :: os):=Obls.cons (hintSt h) t
theorem oB (H:Heap) {p b:Bool} {os:List Prop} (h:p=b) (t:Obls os):Obls ((some (HV.bool p,H)=some (HV.bool b,H)) :: os):=Obls.cons (hintB h) t
end
end Go.HL
namespace Go.HL
theorem sq {P:Program} {pol:Pol} {f:FuncId} {a b c:Code} {e E1 E:Env} {H H1 H':Heap} {x:X} {K K1:List Nat} (h1:RunsTo P pol f a e H .normal K1 E1 H1) (h2:RunsTo P pol f b E1 H1 x K E H') (hc:c=.seq a b:=by kernel_rfl) (hK:K1=pol.keys f ++ headTmp b:=by kernel_rfl):RunsTo P pol f c e H x K E H':=RunsTo.seq h1 h2 hc hK
theorem sqo {P:Program} {pol:Pol} {f:FuncId} {a b c:Code} {e E:Env} {H H':Heap} {x:X} {K:List Nat} (h1:RunsTo P pol f a e H x K E H') (hx:x ≠ .normal:=by simp) (hc:c=.seq a b:=by kernel_rfl):RunsTo P pol f c e H x K E H':=RunsTo.seq_out h1 hx hc
theorem lpo {P:Program} {pol:Pol} {f:FuncId} {b c:Code} {e E:Env} {H H':Heap} {x:X} {K:List Nat} (h1:RunsTo P pol f b e H x K E H') (hx:x ≠ .normal:=by simp) (hc:c=.loop b:=by kernel_rfl) (he:lrestr pol f b e=e:=by kernel_rfl):RunsTo P pol f c e H x K E H':=RunsTo.loop_out h1 hx hc he
theorem lpi {P:Program} {pol:Pol} {f:FuncId} {b c:Code} {e0 e E:Env} {H H':Heap} {x:X} {K:List Nat} (h:RunsTo P pol f c e H x K E H') (hc:c=.loop b:=by kernel_rfl) (h0:lrestr pol f b e0=e:=by kernel_rfl) (he:lrestr pol f b e=e:=by kernel_rfl):RunsTo P pol f c e0 H x K E H':=RunsTo.loop_in h hc h0 he
theorem bke {P:Program} {pol:Pol} {f:FuncId} {b c:Code} {e E:Env} {H H':Heap} {K:List Nat} {i:Nat} (h:RunsTo P pol f b e H (.exit i) K E H') (hc:c=.block i b:=by kernel_rfl):RunsTo P pol f c e H .normal K E H':=RunsTo.block_exit h hc
theorem lop {P:Program} {pol:Pol} {f:FuncId} {b c:Code} {e E0 E1 E:Env} {H H1 H2 H':Heap} {x:X} {K K1:List Nat} (h1:RunsTo P pol f b e H .normal K1 E0 H1) (hg:gc H.length (bndE E1) H1=H2) (h2:RunsTo P pol f c E1 H2 x K E H') (hE:lrestr pol f b E0=E1:=by kernel_rfl) (hK:K1=pol.keys f:=by rfl) (hc:c=.loop b:=by kernel_rfl) (he:lrestr pol f b e=e:=by kernel_rfl):RunsTo P pol f c e H x K E H':=RunsTo.loop h1 hE hg h2 hK hc he
end Go.HL
section
open Go Go.HL
namespace Go.Proofs.Ytaibmipamkaljaa
abbrev RT (pol:Pol) (f:FuncId) (c:Code) (e:Env) (H:Heap) (x:X) (E:Env) (H':Heap):Prop:=RunsTo Try.prog pol f c e H x (pol.keys f) E H'
end Go.Proofs.Ytaibmipamkaljaa
end
section
open Go Go.HL
namespace Go.Proofs.Ytaibmipamkaljaa
open Go.Proofs.Try renaming prog → Tp
open Go.HL.HV renaming undef → Ud
def keysT:List (List Nat):=[[],[],[],[0,1,4,5,6,7],[0,1,2,6,7,8,9,10],[0,1,4,5,6,7,8,9,10,11,12,13,14,16],[0,1,4,5,6,7,8,9,10,11,12,13,14,15,16],[0,1,2,6,7,8,9,10,11,12,13,14,15,16],[0,1,2,3,8,9,10,11,12,13,14,15,16,17,18,19,20,21,22,23],[0,1,2,6,7,8,9,10,11,12,13,14,15,16,17],[0,1,4,5,6,7,8,10,11,12,13,14,15,16,17,18],[0,1,2,6,7,8,9,10,11,12,13,14,15,16,17,19],[0,1,2,6,7,8,10,11,12,14,15,16,17,19,21],[0,1,4,5,6,7,8,9,11,12,13,14,15,16,17,18,19,20,21,22],[0,2,3],[0,1,4,5,6,7,9,24,25,26],[0,1,2,3,4,5,6,7,8,9,10],[0,1,4,5],[0,1,4,5,6,7,8,9,10,11,12,13,14],[0,1,2,6,7,8,10,12,33,34,35,39,40,41],[0,2,3],[0,1,4,5,6],[0,1,2,6,7,8,9,10,11],[0,2,3,4],[0,1,2,6,7,8,9,10],[0,2,3,4,5],[0,1,4,5,6,7,8],[0,1,2,6,7,8,9,10],[0,2],[0,1,4,5,6,7,8,9,10,36],[0,1,4],[0,1,4],[0,1,4,5,6,7],[0,2,3,4,5],[0,1,2,6,7,8,9,10,11,12],[0,2,3,4],[0,1,4,5],[0,1,2,3,8,9,10,11,12,13,14,15,16,17,18,19,20],[0,1,4,5],[0,1,4,5,6,7,8,9,11,12,13,14,15,32,33,34,42,57],[0,2,3,4],[0,1,4],[0,2,3,4,5,6,7,8,17,18,25,26],[0,2],[0,1,4,5,6,7,8],[0,1,4,5],[0,1,4,5,6,7,8,9,10],[0,1,2,6],[0,1,2,3,4,5,6,7,8,9,10],[0,1,2,4,5,6,7,35],[0,1,2,6],[0,2,3],[0,1,4,5,7,9,10,11],[0,2],[0,2,3,4,5],[0,2,3,4,5,6,16,17,18],[0,1,2,4,5,6,8,9,10,11,12,13],[0,1,2,3,4,6,8,9,10,11,12],[0,1,2,4,5,6,7,8,15,16,17],[0,1,2,3,4,5,6],[0,1,2,6,7,8],[0,1,4,5,6],[0,1,2,3,4],[0,1,4],[0,1,4,5,6,7,8,9,10,11],[0,1,2,3,4,5,6,8,9,10],[0,1,2,3,4,5,6],[0,1,2,3,8,9,10,11,12,13,14,15,16,17,18],[0,2],[0,2],[0,1,2,3,4,10,11,12,13,14,15,16,17,18,19,20],[0,1,4,5,6],[0,1,2,6,7],[0,1,2,6,7,8,9,10],[0,1,2,6,7,8,9,10],[0,1,2,6,7,8,9,10,11,12,49],[0,1,2,6,7],[0,1,2,6,7,8,9,10],[0,1,4],[0,1,2,3,8,9,10],[0,1,2,3,8,9,10,11],[0,2],[0,2],[0,1,2,3,8,9],[0,1,2,3,8,9,10,11,12],[0,1,2,8,9,10,11,12],[0,1,2,3,8,9,10,11,12,13,14,55],[0,1,2,8,9],[0,1,2,3,8,9,10,11,12],[0,1,2,3,4,10,11,12],[0,1,2,3,4,10,11,12,13],[0,2],[0,1,2,3,8,9],[0,2],[0,2],[0,1,2,6],[0,1,2,3,4,10],[0,1,2,3,4,10,11],[0,1,2,3,8],[0,1,2,3,4,5,12],[0,1,2,3,8,9],[0,1,2,3,4,10,11],[],[],[],[],[],[],[],[],[],[],[],[],[],[],[],[]]
def resT:List (List Nat):=[[],[],[],[4],[6],[4],[4],[6],[8],[6],[4],[6],[6],[4],[2],[4,5],[0],[4],[4],[6,7],[2],[4],[6],[2],[6],[2,3],[4,5],[6,7],[2],[4,5],[4],[4],[4],[2],[6,7],[2],[4],[8,9],[4],[4,5],[2],[4],[2,3],[2],[4],[4],[4],[6],[8],[4],[6],[2],[4],[],[2],[3],[4,5],[8,9],[5],[],[6],[4],[4],[],[4],[],[],[],[2],[2],[],[4],[],[],[],[6,7],[],[6],[4],[8],[8,9],[2],[2],[],[],[],[8,9],[],[8],[10],[10,11],[2],[],[2],[2],[6],[10],[],[8],[12],[8,9],[10,11],[],[],[],[],[],[],[],[],[],[],[],[],[],[],[],[]]
def sharedT:List Nat:=[53,63,65,67,70,72,73,74,75,76,77,79,80,83,84,85,86,87,88,89,90,92,94,95,96,97,98,99,100,101,110,111,112,113,114,115,116]
def deadT:List (Nat × Nat × List Nat):=[(5,14,[7,8,10,11,12,16]),(6,9,[8,12,13,14,15,16]),(6,13,[8,11,13,14,15,16]),(7,4,[10,11,12,13,14,15,16]),(7,17,[8,9,10,12,13,14]),(8,8,[9,19,20,21,22,23]),(8,15,[9,11,12,14,15,16,17,18,20,22,23]),(8,19,[9,11,12,14,15,16,17,18,20]),(10,9,[8,13,14,15,16,17,18]),(13,9,[16,17,18,19,20,21,22]),(13,14,[9,11,13,15,18,19,20,21,22]),(13,17,[9,11,13,15,19,20,21,22]),(15,6,[9]),(18,4,[8,9,10,11,12,13,14]),(18,8,[10,11,12,13,14]),(18,11,[11,12,13,14]),(18,20,[7,8,9,10,14]),(19,5,[10,12,39,40,41]),(19,8,[12]),(21,2,[6]),(22,3,[9,10,11]),(22,6,[10,11]),(22,11,[8,9]),(24,3,[9,10]),(27,3,[10]),(29,9,[7,36]),(32,3,[7]),(33,3,[5]),(37,4,[13,14,15,16,17,18,19,20]),(37,8,[15,16,17,18,19,20]),(37,21,[12,13,14,18,19,20]),(37,28,[12,13,14,17,20]),(39,9,[7,8,11,12,13,14,15,42,57]),(39,13,[7,8,9,13,14,15,42,57]),(39,21,[7,8,9,11,12,13,15,32,33,34,42,57]),(42,6,[5,7,8,25,26]),(42,9,[5,8]),(44,3,[7,8]),(44,7,[6]),(46,3,[7,8,9,10]),(46,7,[9,10]),(46,13,[6,7,8]),(49,4,[7,35]),(49,8,[7,35]),(52,3,[7]),(54,4,[4,5]),(55,5,[5,6]),(56,3,[8,9,10]),(57,3,[12]),(58,5,[7,8]),(64,2,[5,6,7,8]),(65,4,[10]),(67,2,[10,11,12,13,14,15,16,17,18]),(70,2,[12,13,14,15,16,17,18,19,20]),(72,1,[7]),(73,4,[10]),(73,8,[8,9]),(74,5,[10]),(77,3,[9,10]),(77,5,[9,10]),(77,14,[10]),(77,20,[9]),(83,1,[9]),(84,4,[12]),(84,8,[10,11]),(85,5,[12]),(88,3,[11,12]),(88,5,[11,12]),(88,14,[12]),(88,20,[11]),(92,1,[9]),(97,1,[11])]
def pol:Pol where
  shared g:=sharedT.contains g
  freeze _ _:=true
  freezeS _ _:=false
  blk g d:=!((resT.getD g []).contains d)
  nilf g:=g == 69
  deep _:=false
  prim _:=none
  rows _ _:=false
  keys g:=keysT.getD g []
  quiet f r:=if f == 65 && r == 4 then [10] else []
  dead f r:=((deadT.find? fun p=>p.1 == f && p.2.1 == r).map (·.2.2)).getD []
theorem follows_mixed:Tp.follows .mixedOrders=true:=by kernel_rfl
set_option maxRecDepth 100000 in
theorem fns_ok:(Tp.funcs.toList.zipIdx.all fun p=>fnOk pol p.2 p.1)=true:=by kernel_rfl
theorem sound (n:Nat):CallSound Tp (callN Tp pol n) :=
  callN_ok follows_mixed (fun g fn h=>List.all_eq_true.1 fns_ok (fn,g) (by
      rw [List.mem_zipIdx_iff_getElem?]
      simpa using h)) (fun g F h=>by cases h) n
theorem sound_prim (F:FuncId → Option (List HV → Option HV)) (hF:∀ g f,F g=some f → PrimOk Tp g f) (n:Nat):CallSound Tp (callN Tp { pol with prim:=F } n) :=
  callN_ok follows_mixed (fun g fn h=>by
    rw [fnOk_prim]
    exact List.all_eq_true.1 fns_ok (fn,g) (by
      rw [List.mem_zipIdx_iff_getElem?]
      simpa using h)) hF n
def modW (a:Int) (n:Int):Int:=IntKind.i64.wrap ((IntKind.u64.wrap a).tmod (IntKind.u64.wrap n))
theorem wrapU64 (n:Int):IntKind.u64.wrap n=n % 18446744073709551616:=by simp [IntKind.wrap,IntKind.signed,IntKind.bits]
theorem wrapI64 (n:Int):IntKind.i64.wrap n=(n+9223372036854775808) % 18446744073709551616 - 9223372036854775808:=by rw [IntKind.wrap_i64]
theorem modW_bounds (a n:Int) (h0:0 < n) (h1:n < 9223372036854775808):0 ≤ modW a n∧modW a n < n:=by
  have hn:IntKind.u64.wrap n=n:=by rw [wrapU64]; omega
  have ha:0 ≤ IntKind.u64.wrap a:=by rw [wrapU64]; omega
  have hm0:0 ≤ IntKind.u64.wrap a % n:=Int.emod_nonneg _ (by omega)
  have hm1:IntKind.u64.wrap a % n < n:=Int.emod_lt_of_pos _ h0
  simp only [modW,hn]
  rw [Int.tmod_eq_emod_of_nonneg ha,wrapI64]
  constructor <;> omega
end Go.Proofs.Ytaibmipamkaljaa
end
section
open Go Go.HL
namespace Go.Proofs.Ytaibmipamkaljaa
open Go.Proofs.Try renaming prog → Tp
open Go.HL.HV renaming undef → Ud
abbrev bI (l:List Int):Blk:=.arr 1 (l.map encI) true 0
def encR (r:List Int):HV:=.imm .arg 1 (r.map encI)
theorem wrap_succ {j:Nat} (h:j < 4611686018427387904):IntKind.i64.wrap ((j:Int)+1)=((j+1:Nat):Int):=by rw [wrapI64]; omega
theorem wrap_pred {j:Nat} (h0:0 < j) (h:j < 4611686018427387904):IntKind.i64.wrap ((j:Int) - 1)=((j - 1:Nat):Int):=by rw [wrapI64]; omega
theorem wrap_id {n:Int} (h0:-4611686018427387904 ≤ n) (h:n < 4611686018427387904):IntKind.i64.wrap n=n:=by rw [wrapI64]; omega
theorem argP_ints':∀ (l:List Int),argPL (l.map encI)=some (l.map encI)
  | []=>rfl
  | p :: l=>by simp only [List.map_cons,argPL,argP_ints' l,encI,argP]
theorem argP_rows':∀ (R:List (List Int)),argPL (R.map encR)=some (R.map encR)
  | []=>rfl
  | p :: l=>by simp only [List.map_cons,argPL,argP_rows' l,encR,argP,argP_ints']
theorem arg_li (H:Heap) (l:List Int):toArg H 6 (.imm .arg 1 (l.map encI))=some (.imm .arg 1 (l.map encI)):=by
  show argP (.imm .arg 1 (l.map encI))=_
  simp only [argP,argP_ints']
theorem arg_rw (H:Heap) (R:List (List Int)):toArg H 6 (.imm .arg 1 (R.map encR))=some (.imm .arg 1 (R.map encR)):=by
  show argP (.imm .arg 1 (R.map encR))=_
  simp only [argP,argP_rows']
theorem encI_any (l:List Int):(l.map encI).any isOwn=false:=by
  rw [List.any_eq_false]
  intro v hv
  obtain ⟨k,_,rfl⟩:=List.mem_map.1 hv
  simp [encI,isOwn]
theorem recv_ints (l:List Int) (H:Heap):recv (.own 1 (l.map encI)) H=(.sl H.length 0 l.length none l.length 1,H ++ [bI l]):=by
  simp only [recv,recvVal,recvCell,encI_any,List.length_map]
  rfl
theorem ints_bnd:∀ (l:List Int),bndL (l.map encI)=0
  | []=>rfl
  | a :: l=>by simp only [List.map_cons,bndL,ints_bnd l,encI,bnd]; rfl
theorem fnok (F:FuncId → Option (List HV → Option HV)) (g:FuncId) (fn:Func) (h:Tp.funcs[g]?=some fn):fnOk { pol with prim:=F } g fn=true:=by
  rw [fnOk_prim]
  exact List.all_eq_true.1 fns_ok (fn,g) (by
    rw [List.mem_zipIdx_iff_getElem?]
    simpa using h)
theorem gc_eq {H H':Heap} (r:Nat) (h:H'.length=H.length):gc H.length r H'=H':=by
  unfold gc
  rw [List.take_of_length_le (by omega)]
theorem nb_false {b:Bool} (h:¬ b=true):b=false:=by cases b <;> simp_all
theorem u22:Tp.underlying 22=some (.slice 3):=by kernel_rfl
theorem z3:tySize Tp 3=some 1:=by kernel_rfl
theorem z22:tySize Tp 22=some 1:=by kernel_rfl
theorem a3:tyAgg Tp 3=false:=by kernel_rfl
theorem i3:(Tp.underlying 3).isSome=true:=by kernel_rfl
theorem a4:tyAgg Tp 4=false:=by kernel_rfl
theorem gx {l:List Int} {y:Nat} (hy:y < l.length):idxV Tp 22 (.imm .arg 1 (l.map encI)) (.int .i64 (y:Int))=some (.vptr (.int .i64 (l.getD y 0))) :=
  idx_imm u22 z3 (by omega) (by rw [Int.toNat_natCast,List.getElem?_map,List.getElem?_eq_getElem hy]; simp [List.getD,List.getElem?_eq_getElem hy,encI])
theorem load_out {H:Heap} {k:Nat} {o:List Int} (h:H[k]?=some (bI o)) {y:Nat} (hy:y < o.length):loadV Tp H 3 (.ptr k y 0 o.length)=some (.int .i64 (o.getD y 0)) :=
  load_elem (b:=k) h (by simp) (by rw [List.getElem?_map,List.getElem?_eq_getElem hy]; simp [List.getD,List.getElem?_eq_getElem hy,encI]) rfl a3 i3
theorem store_out {H:Heap} {k:Nat} {o:List Int} (h:H[k]?=some (bI o)) {y:Nat} (hy:y < o.length) (v:Int):storeV Tp H 3 (.ptr k y 0 o.length) (.int .i64 v)=some (H.set k (bI (o.set y v))):=by
  have hi:(o.map encI)[y]?=some (encI o[y]):=by rw [List.getElem?_map,List.getElem?_eq_getElem hy]; rfl
  have:=store_elem (P:=Tp) (t:=3) (b:=k) (tot:=o.length) (v:=.int .i64 v) h (by simp) hi rfl (by intro cs h; cases h) z3 rfl rfl (by simp [bnd])
  rw [this]
  show some (H.set k (.arr 1 ((o.map encI).set y (encI v)) true 0))=_
  rw [bI,List.map_set]
theorem res_li {H:Heap} {b k:Nat} {o:List Int} (hb:H[b]?=some (bI o)) (hk:o.length=k):toRes H false (.sl b 0 k none k 1)=some (.own 1 (o.map encI)):=by
  have hr:=resCell_sl (H:=H) (no:=[b]) (b:=b) (k:=1) (m:=k) (cap:=none) (els:=o.map encI) hb (by simpa using hk) (mapO_self (fun r=>frz_int 4 r) _)
  have ho:ownedAll H false (.sl b 0 k none k 1)=[b]:=by simp [ownedAll,cellsOf,owned,hb]
  simp only [toRes,ho,List.nodup_cons,List.not_mem_nil,not_false_eq_true,List.nodup_nil,and_self,if_true,resVal,hr]
theorem app_ints {H:Heap} {b:Nat} {o xs:List Int} (hb:H[b]?=some (bI o)) (hlen:o.length+xs.length ≤ 1000) (hx:xs ≠ []) :
    appV H 1 8 (.sl b 0 o.length none o.length 1) (xs.map encI)=some (.sl b 0 (o ++ xs).length none (o ++ xs).length 1,H.set b (bI (o ++ xs))):=by
  have:=app_sl (H:=H) (k:=1) (bytes:=8) (b:=b) (n:=o.length) (mx:=0) (els:=o.map encI) (xs:=xs.map encI) hb (by simp) (by simpa using hx) (by rw [List.length_map]; simp only [roomMax]; omega) (ints_bnd xs)
  rw [this]
  simp [bI]
theorem arg_sl {H:Heap} {l:List Int} {b m:Nat} (hm:l.length=m) (hb:H[b]?=some (bI l)):toArg H 6 (.sl b 0 m none m 1)=some (.imm .arg 1 (l.map encI)):=by
  subst hm
  have e:toArg H 6 (.sl b 0 l.length none l.length 1)=if l.length=0 then some (.imm .arg 1 []) else match view H b 0 l.length l.length 1 with | some l=>(match mapO (toArg H 5) l with | some l=>some (.imm .arg 1 l) | none=>none) | none=>none:=rfl
  rw [e]
  split
  · rename_i h0
    rw [List.length_eq_zero_iff.1 h0]; rfl
  · have hv:view H b 0 l.length l.length 1=some (l.map encI):=by
      simp only [view,hb,List.length_map]
      rw [if_pos ⟨trivial,by omega,trivial⟩]
      simp [List.take_of_length_le]
    have hm:mapO (toArg H 5) (l.map encI)=some (l.map encI):=mapO_self (f:=toArg H 5) (g:=encI) (fun _=>rfl) l
    rw [hv]
    simp only [hm]
end Go.Proofs.Ytaibmipamkaljaa
end
section
open Go Go.HL
namespace Go.Proofs.Ytaibmipamkaljaa
set_option maxRecDepth 100000
open Go.Proofs.Try renaming prog → Tp
open Go.HL.HV renaming undef → Ud
noncomputable def B47:Code:=Try.f47.body.getD .skip
abbrev env47 (v0 v1 v2 v6:HV):Env:=[(0,v0),(1,v1),(2,v2),(6,v6)]
theorem w47_0 (n lo hi:Int)(g0:lo ≤ n) (g1:n ≤ hi):RT pol 47 (sub [] B47) [(0,.i n),(1,.i lo),(2,.i hi)] [] .ret (env47 (.i n) (.i lo) (.i hi) (.bool true)) [] :=
  RunsTo.hin 0 60 [⟨1,2,.bool true,[]⟩,⟨1,6,.bool true,[]⟩] fun kf hk=>⟨_,by kernel_rfl,(oB [] (decide_eq_true g0) (oB [] (decide_eq_true g1) .nil))⟩
theorem w47_1 (n lo hi:Int)(g0:lo ≤ n) (g1:¬ (n ≤ hi)):RT pol 47 (sub [] B47) [(0,.i n),(1,.i lo),(2,.i hi)] [] .ret (env47 (.i n) (.i lo) (.i hi) (.bool false)) [] :=
  RunsTo.hin 0 60 [⟨1,2,.bool true,[]⟩,⟨1,6,.bool false,[]⟩] fun kf hk=>⟨_,by kernel_rfl,(oB [] (decide_eq_true g0) (oB [] (decide_eq_false g1) .nil))⟩
theorem w47_2 (n lo hi:Int)(g0:¬ (lo ≤ n)):RT pol 47 (sub [] B47) [(0,.i n),(1,.i lo),(2,.i hi)] [] .ret (env47 (.i n) (.i lo) (.i hi) (.bool false)) [] :=
  RunsTo.hin 0 60 [⟨1,2,.bool false,[]⟩] fun kf hk=>⟨_,by kernel_rfl,(oB [] (decide_eq_false g0) .nil)⟩
noncomputable def B30:Code:=Try.f30.body.getD .skip
abbrev env30 (v0 v1 v4:HV):Env:=[(0,v0),(1,v1),(4,v4)]
theorem m30_0 (a n:Int)(g0:binV Tp .rem 85 (.int .u64 (IntKind.u64.wrap a)) (.int .u64 (IntKind.u64.wrap n))=some (.int .u64 ((IntKind.u64.wrap a:Int).tmod (IntKind.u64.wrap n)))):RT pol 30 (sub [] B30) [(0,.i a),(1,.i n)] [] .ret (env30 (.i a) (.i n) (.i (IntKind.i64.wrap ((IntKind.u64.wrap a:Int).tmod (IntKind.u64.wrap n))))) [] :=
  RunsTo.hin 0 60 [⟨1,4,.int .u64 ((IntKind.u64.wrap a:Int).tmod (IntKind.u64.wrap n)),[]⟩] fun kf hk=>⟨_,by kernel_rfl,(oP [] g0 .nil)⟩
noncomputable def B14:Code:=Try.f14.body.getD .skip
abbrev env14 (v0 v2 v3:HV):Env:=[(0,v0),(2,v2),(3,v3)]
theorem li_0 (la:List HV) (m:Nat)(g0:sliceV Tp 22 (.a la) none (some (.i (min (la.length:Int) 110))) none=some (.a (la.take m))) (g1:appV [.b []] 1 8 (.s 0 0) (la.take m)=some (.sl 0 0 ((la.take m).length) none ((la.take m).length) 1,[.arr 1 (la.take m) true 0])):RT pol 14 (sub [] B14) [(0,.a la)] [] .ret (env14 (.a la) (.sl 0 0 ((la.take m).length) none ((la.take m).length) 1) (.s 0 0)) [.arr 1 (la.take m) true 0] :=
  RunsTo.hin 0 60 [⟨2,5,.a (la.take m),[.b []]⟩,⟨2,6,.sl 0 0 ((la.take m).length) none ((la.take m).length) 1,[.arr 1 (la.take m) true 0]⟩] fun kf hk=>⟨_,by kernel_rfl,(oP [.b []] g0 (oC (g1) .nil))⟩
noncomputable def B17:Code:=Try.f17.body.getD .skip
abbrev env17 (v0 v1 v4 v5:HV):Env:=[(0,v0),(1,v1),(4,v4),(5,v5)]
theorem r17_a_0 (la lb:List HV):RT pol 17 (sub [0] B17) [(0,.a la),(1,.a lb)] [] .normal (env17 (.a la) (.a lb) (.bool false) Ud) [] :=
  RunsTo.hin 0 60 [] fun kf hk=>⟨_,by kernel_rfl,.nil⟩
theorem r17_b_0 (la lb:List HV)(g0:(la.length:Int)=(lb.length:Int)):RT pol 17 (sub [1,0] B17) (env17 (.a la) (.a lb) (.bool false) Ud) [] .normal (env17 (.a la) (.a lb) (.bool false) Ud) [] :=
  RunsTo.hin 0 60 [⟨1,4,.bool false,[]⟩] fun kf hk=>⟨_,by kernel_rfl,(oB [] (congrArg not (decide_eq_true g0)) .nil)⟩
theorem r17_b_1 (la lb:List HV)(g0:¬ ((la.length:Int)=(lb.length:Int))):RT pol 17 (sub [1,0] B17) (env17 (.a la) (.a lb) (.bool false) Ud) [] .ret (env17 (.a la) (.a lb) (.bool false) Ud) [] :=
  RunsTo.hin 0 60 [⟨1,4,.bool true,[]⟩] fun kf hk=>⟨_,by kernel_rfl,(oB [] (congrArg not (decide_eq_false g0)) .nil)⟩
theorem r17_c_0 (la lb:List HV):RT pol 17 (sub [1,1,0,0] B17) (env17 (.a la) (.a lb) (.bool false) Ud) [] .normal (env17 (.a la) (.a lb) (.bool false) (.i 0)) [] :=
  RunsTo.hin 0 60 [] fun kf hk=>⟨_,by kernel_rfl,.nil⟩
theorem r17_l_0 (la lb:List HV) (j:Nat) (x0:Int) (x1:Int) (g0:(j:Int) < (la.length:Int)) (g1:idxV Tp 22 (.a la) (.i (j:Int))=some (.vptr (.i x0))) (g2:idxV Tp 22 (.a lb) (.i (j:Int))=some (.vptr (.i x1))) (g3:x0=x1):RT pol 17 (sub [1,1,0,1,0,0] B17) (env17 (.a la) (.a lb) (.bool false) (.i (j:Int))) [] .normal (env17 (.a la) (.a lb) (.bool false) (.i (IntKind.i64.wrap ((j:Int)+1)))) [] :=
  RunsTo.hin 0 60 [⟨4,3,.bool true,[]⟩,⟨6,2,.vptr (.i x0),[]⟩,⟨6,6,.vptr (.i x1),[]⟩,⟨6,8,.bool false,[]⟩] fun kf hk=>⟨_,by kernel_rfl,(oB [] (decide_eq_true g0) (oP [] g1 (oP [] g2 (oB [] (congrArg not (decide_eq_true g3)) .nil))))⟩
theorem r17_l_1 (la lb:List HV) (j:Nat) (x0:Int) (x1:Int) (g0:(j:Int) < (la.length:Int)) (g1:idxV Tp 22 (.a la) (.i (j:Int))=some (.vptr (.i x0))) (g2:idxV Tp 22 (.a lb) (.i (j:Int))=some (.vptr (.i x1))) (g3:¬ (x0=x1)):RT pol 17 (sub [1,1,0,1,0,0] B17) (env17 (.a la) (.a lb) (.bool false) (.i (j:Int))) [] .ret (env17 (.a la) (.a lb) (.bool false) (.i (j:Int))) [] :=
  RunsTo.hin 0 60 [⟨4,3,.bool true,[]⟩,⟨6,2,.vptr (.i x0),[]⟩,⟨6,6,.vptr (.i x1),[]⟩,⟨6,8,.bool true,[]⟩] fun kf hk=>⟨_,by kernel_rfl,(oB [] (decide_eq_true g0) (oP [] g1 (oP [] g2 (oB [] (congrArg not (decide_eq_false g3)) .nil))))⟩
theorem r17_l_2 (la lb:List HV) (j:Nat)(g0:¬ ((j:Int) < (la.length:Int))):RT pol 17 (sub [1,1,0,1,0,0] B17) (env17 (.a la) (.a lb) (.bool false) (.i (j:Int))) [] (.exit 0) (env17 (.a la) (.a lb) (.bool false) (.i (j:Int))) [] :=
  RunsTo.hin 0 60 [⟨4,3,.bool false,[]⟩] fun kf hk=>⟨_,by kernel_rfl,(oB [] (decide_eq_false g0) .nil)⟩
theorem r17_z_0 (la lb:List HV) (j:Nat):RT pol 17 (sub [1,1,1] B17) (env17 (.a la) (.a lb) (.bool false) (.i (j:Int))) [] .ret (env17 (.a la) (.a lb) (.bool true) (.i (j:Int))) [] :=
  RunsTo.hin 0 60 [] fun kf hk=>⟨_,by kernel_rfl,.nil⟩
noncomputable def B59:Code:=Try.f59.body.getD .skip
abbrev env59 (v0 v1 v2 v3 v4 v5 v6:HV):Env:=[(0,v0),(1,v1),(2,v2),(3,v3),(4,v4),(5,v5),(6,v6)]
theorem ad_0 (m0 m1 sz x0 x1 y0 y1:Int)(g0:binV Tp .rem 3 (.i (IntKind.i64.wrap (x0+y0))) (.i m0)=some (.i ((IntKind.i64.wrap (x0+y0):Int).tmod m0))) (g1:binV Tp .rem 3 (.i (IntKind.i64.wrap (x1+y1))) (.i m1)=some (.i ((IntKind.i64.wrap (x1+y1):Int).tmod m1))):RT pol 59 (sub [] B59) [(0,.agg [.i m0,.i m1,.i sz]),(1,.agg [.i x0,.i x1]),(2,.agg [.i y0,.i y1])] [] .ret (env59 (.agg [.i m0,.i m1,.i sz]) (.agg [.i x0,.i x1]) (.agg [.i y0,.i y1]) (.ptr 0 0 0 1) (.ptr 1 0 0 1) (.ptr 2 0 0 1) (.ptr 3 0 0 1)) [.arr 3 [.agg [.i m0,.i m1,.i sz]] true 0,.arr 2 [.agg [.i x0,.i x1]] true 0,.arr 2 [.agg [.i y0,.i y1]] true 0,.arr 2 [.agg [.i ((IntKind.i64.wrap (x0+y0):Int).tmod m0),.i ((IntKind.i64.wrap (x1+y1):Int).tmod m1)]] true 0] :=
  RunsTo.hin 0 60 [⟨1,8,.i ((IntKind.i64.wrap (x0+y0):Int).tmod m0),[.arr 3 [.agg [.i m0,.i m1,.i sz]] true 0,.arr 2 [.agg [.i x0,.i x1]] true 0,.arr 2 [.agg [.i y0,.i y1]] true 0,.arr 2 [.agg [.i 0,.i 0]] true 0]⟩,⟨1,17,.i ((IntKind.i64.wrap (x1+y1):Int).tmod m1),[.arr 3 [.agg [.i m0,.i m1,.i sz]] true 0,.arr 2 [.agg [.i x0,.i x1]] true 0,.arr 2 [.agg [.i y0,.i y1]] true 0,.arr 2 [.agg [.i 0,.i 0]] true 0]⟩] fun kf hk=>⟨_,by kernel_rfl,(oP [.arr 3 [.agg [.i m0,.i m1,.i sz]] true 0,.arr 2 [.agg [.i x0,.i x1]] true 0,.arr 2 [.agg [.i y0,.i y1]] true 0,.arr 2 [.agg [.i 0,.i 0]] true 0] g0 (oP [.arr 3 [.agg [.i m0,.i m1,.i sz]] true 0,.arr 2 [.agg [.i x0,.i x1]] true 0,.arr 2 [.agg [.i y0,.i y1]] true 0,.arr 2 [.agg [.i 0,.i 0]] true 0] g1 .nil))⟩
noncomputable def B51:Code:=Try.f51.body.getD .skip
abbrev env51 (v0 v2 v3:HV):Env:=[(0,v0),(2,v2),(3,v3)]
theorem ip_a_0 (n:Int):RT pol 51 (sub [0] B51) [(0,.i n)] [] .normal (env51 (.i n) (.bool false) Ud) [] :=
  RunsTo.hin 0 60 [] fun kf hk=>⟨_,by kernel_rfl,.nil⟩
theorem ip_b_0 (n:Int):RT pol 51 (sub [1,0,0] B51) (env51 (.i n) (.bool false) Ud) [] .normal (env51 (.i n) (.bool false) (.i 2)) [] :=
  RunsTo.hin 0 60 [] fun kf hk=>⟨_,by kernel_rfl,.nil⟩
theorem ip_l_0 (n:Int) (d:Nat)(g0:(d:Int) < n) (g1:binV Tp .rem 3 (.i n) (.i (d:Int))=some (.i ((n:Int).tmod (d:Int)))) (g2:(n:Int).tmod (d:Int)=0):RT pol 51 (sub [1,0,1,0,0] B51) (env51 (.i n) (.bool false) (.i (d:Int))) [] .ret (env51 (.i n) (.bool false) (.i (d:Int))) [] :=
  RunsTo.hin 0 60 [⟨2,2,.bool true,[]⟩,⟨4,2,.i ((n:Int).tmod (d:Int)),[]⟩,⟨4,3,.bool true,[]⟩] fun kf hk=>⟨_,by kernel_rfl,(oB [] (decide_eq_true g0) (oP [] g1 (oB [] (decide_eq_true g2) .nil)))⟩
theorem ip_l_1 (n:Int) (d:Nat)(g0:(d:Int) < n) (g1:binV Tp .rem 3 (.i n) (.i (d:Int))=some (.i ((n:Int).tmod (d:Int)))) (g2:¬ ((n:Int).tmod (d:Int)=0)):RT pol 51 (sub [1,0,1,0,0] B51) (env51 (.i n) (.bool false) (.i (d:Int))) [] .normal (env51 (.i n) (.bool false) (.i (IntKind.i64.wrap ((d:Int)+1)))) [] :=
  RunsTo.hin 0 60 [⟨2,2,.bool true,[]⟩,⟨4,2,.i ((n:Int).tmod (d:Int)),[]⟩,⟨4,3,.bool false,[]⟩] fun kf hk=>⟨_,by kernel_rfl,(oB [] (decide_eq_true g0) (oP [] g1 (oB [] (decide_eq_false g2) .nil)))⟩
theorem ip_l_2 (n:Int) (d:Nat)(g0:¬ ((d:Int) < n)):RT pol 51 (sub [1,0,1,0,0] B51) (env51 (.i n) (.bool false) (.i (d:Int))) [] (.exit 0) (env51 (.i n) (.bool false) (.i (d:Int))) [] :=
  RunsTo.hin 0 60 [⟨2,2,.bool false,[]⟩] fun kf hk=>⟨_,by kernel_rfl,(oB [] (decide_eq_false g0) .nil)⟩
theorem ip_z_0 (n:Int) (y3:HV)(g0:1 < n):RT pol 51 (sub [1,1] B51) (env51 (.i n) (.bool false) y3) [] .ret (env51 (.i n) (.bool true) y3) [] :=
  RunsTo.hin 0 60 [⟨6,1,.bool true,[]⟩] fun kf hk=>⟨_,by kernel_rfl,(oB [] (decide_eq_true g0) .nil)⟩
theorem ip_z_1 (n:Int) (y3:HV)(g0:¬ (1 < n)):RT pol 51 (sub [1,1] B51) (env51 (.i n) (.bool false) y3) [] .ret (env51 (.i n) (.bool false) y3) [] :=
  RunsTo.hin 0 60 [⟨6,1,.bool false,[]⟩] fun kf hk=>⟨_,by kernel_rfl,(oB [] (decide_eq_false g0) .nil)⟩
end Go.Proofs.Ytaibmipamkaljaa
end
section
open Go Go.HL
namespace Go.Proofs.Ytaibmipamkaljaa
def awakeF:List HV → Option HV | []=>some (.bool true) | _=>none
def withinF:List HV → Option HV
  | [.int .i64 n,.int .i64 lo,.int .i64 hi]=>some (.bool (decide (lo ≤ n∧n ≤ hi)))
  | _=>none
def modF:List HV → Option HV
  | [.int .i64 a,.int .i64 n]=>if 0 < n∧n < 9223372036854775808 then some (.int .i64 (modW a n)) else none
  | _=>none
def liF (f:List Int → Option HV):List HV → Option HV
  | [.imm .arg 1 la]=>(match mapO decI la with | some l=>f l | none=>none)
  | _=>none
def llF (f:List Int → List Int → Option HV):List HV → Option HV
  | [.imm .arg 1 la,.imm .arg 1 lb]=>(match mapO decI la,mapO decI lb with | some a,some b=>f a b | _,_=>none)
  | _=>none
def list14:List HV → Option HV:=liF fun l=>some (.own 1 ((l.take 110).map encI))
def ints17:List HV → Option HV:=llF fun a b=>if a.length ≤ 1000 then some (.bool (decide (a=b))) else none
abbrev El:=Int × Int
abbrev Gr:=Int × Int × Int
def encX (x:El):HV:=.agg [.int .i64 x.1,.int .i64 x.2]
def encG (g:Gr):HV:=.agg [.int .i64 g.1,.int .i64 g.2.1,.int .i64 g.2.2]
def decX:HV → Option El | .agg [.int .i64 a,.int .i64 b]=>some (a,b) | _=>none
def decG:HV → Option Gr | .agg [.int .i64 a,.int .i64 b,.int .i64 c]=>some (a,b,c) | _=>none
theorem decX_enc (x:El):decX (encX x)=some x:=rfl
theorem decG_enc (x:Gr):decG (encG x)=some x:=rfl
theorem decX_inv (b:HV) (a:El) (h:decX b=some a):b=encX a:=by
  unfold decX at h
  split at h
  · cases h; rfl
  · cases h
theorem decG_inv (b:HV) (a:Gr) (h:decG b=some a):b=encG a:=by
  unfold decG at h
  split at h
  · cases h; rfl
  · cases h
def grOk (g:Gr):Prop:=(1 ≤ g.1∧g.1 ≤ 1000)∧1 ≤ g.2.1∧g.2.1 ≤ 1000
def elOk (g:Gr) (x:El):Prop:=(0 ≤ x.1∧x.1 < g.1)∧0 ≤ x.2∧x.2 < g.2.1
instance (g:Gr):Decidable (grOk g):=inferInstanceAs (Decidable (_∧_))
instance (g:Gr) (x:El):Decidable (elOk g x):=inferInstanceAs (Decidable (_∧_))
def addT (g:Gr) (x y:El):El:=((x.1+y.1) % g.1,(x.2+y.2) % g.2.1)
def subT (g:Gr) (x y:El):El:=((x.1 - y.1+g.1) % g.1,(x.2 - y.2+g.2.1) % g.2.1)
theorem addT_ok {g:Gr} {x y:El} (hg:grOk g):elOk g (addT g x y):=by
  obtain ⟨⟨a,b⟩,c,d⟩:=hg
  exact ⟨⟨Int.emod_nonneg _ (by omega),Int.emod_lt_of_pos _ (by omega)⟩,Int.emod_nonneg _ (by omega),Int.emod_lt_of_pos _ (by omega)⟩
def gxxF (f:Gr → El → El → HV):List HV → Option HV
  | [a,b,c]=>(match decG a,decX b,decX c with | some g,some x,some y=>if grOk g∧elOk g x∧elOk g y then some (f g x y) else none | _,_,_=>none)
  | _=>none
def add59:List HV → Option HV:=gxxF fun g x y=>encX (addT g x y)
def primeT (n:Int):Bool:=decide (1 < n) && (List.range n.toNat).all fun d=>decide (d < 2) || !decide (n % (d:Int)=0)
def isPrime51:List HV → Option HV
  | [.int .i64 n]=>if n ≤ 1000 then some (.bool (primeT n)) else none
  | _=>none
end Go.Proofs.Ytaibmipamkaljaa
end
section
open Go Go.HL
namespace Go.Proofs.Ytaibmipamkaljaa
open Go.Proofs.Try renaming prog → Tp
open Go.HL.HV renaming undef → Ud
theorem within_ok:PrimOk Tp 47 withinF:=by
  refine primOk_pure (pol:=pol) (fn:=Try.f47) (cd:=B47) follows_mixed sound (by kernel_rfl) (by kernel_rfl) (fnok pol.prim _ _ (by kernel_rfl)) (by kernel_rfl) ?_
  intro args res h
  unfold withinF at h
  split at h
  · rename_i n lo hi
    cases h
    have hr:Try.f47.results.toList=[.tmp 6]:=by kernel_rfl
    by_cases g0:lo ≤ n
    · by_cases g1:n ≤ hi
      · exact ⟨_,_,_,_,w47_0 n lo hi g0 g1,by simp,by simp only [resultsV,hr]; rfl,by rw [decide_eq_true ⟨g0,g1⟩]; rfl⟩
      · exact ⟨_,_,_,_,w47_1 n lo hi g0 g1,by simp,by simp only [resultsV,hr]; rfl,by rw [decide_eq_false (fun h=>g1 h.2)]; rfl⟩
    · exact ⟨_,_,_,_,w47_2 n lo hi g0,by simp,by simp only [resultsV,hr]; rfl,by rw [decide_eq_false (fun h=>g0 h.1)]; rfl⟩
  · cases h
theorem mod_ok:PrimOk Tp 30 modF:=by
  refine primOk_pure (pol:=pol) (fn:=Try.f30) (cd:=B30) follows_mixed sound (by kernel_rfl) (by kernel_rfl) (fnok pol.prim _ _ (by kernel_rfl)) (by kernel_rfl) ?_
  intro args res h
  unfold modF at h
  split at h
  · rename_i a n
    split at h
    · rename_i hn
      cases h
      have hr:Try.f30.results.toList=[.tmp 4]:=by kernel_rfl
      refine ⟨_,_,_,_,m30_0 a n ?_,by simp,by simp only [resultsV,hr]; rfl,rfl⟩
      have:IntKind.u64.wrap n ≠ 0:=by rw [wrapU64]; omega
      simp only [binV,intBin,if_neg this,if_true]
    · cases h
  · cases h
theorem liF_inv {f:List Int → Option HV} {args:List HV} {res:HV} (h:liF f args=some res):∃ l,args=[.imm .arg 1 (l.map encI)]∧f l=some res:=by
  unfold liF at h
  split at h
  · rename_i la
    split at h
    · rename_i l hl
      exact ⟨l,by rw [mapO_inv decI_inv hl],h⟩
    · cases h
  · cases h
theorem llF_inv {f:List Int → List Int → Option HV} {args:List HV} {res:HV} (h:llF f args=some res):∃ R l,args=[.imm .arg 1 (R.map encI),.imm .arg 1 (l.map encI)]∧f R l=some res:=by
  unfold llF at h
  split at h
  · rename_i la
    split at h
    · rename_i R l hR hl
      exact ⟨R,l,by rw [mapO_inv decI_inv hR,mapO_inv decI_inv hl],h⟩
    · cases h
  · cases h
theorem slice_imm {w:Nat} {l:List HV} (hw:w ≤ l.length):sliceV Tp 22 (.imm .arg 1 l) none (some (.int .i64 (w:Int))) none=some (.imm .arg 1 (l.take w)):=by
  simp only [sliceV,boundV,u22,z3]
  rw [if_pos (by omega:(0:Int) ≤ (w:Int))]
  simp [hw]
theorem take_min {α:Type} (l:List α) (k:Nat):l.take (min l.length k)=l.take k:=by
  rw [List.take_eq_take_iff]; omega
theorem res14:Try.f14.results.toList=[.tmp 2]:=by kernel_rfl
theorem list_ok:PrimOk Tp 14 list14:=by
  refine primOk_pure (pol:=pol) (fn:=Try.f14) (cd:=B14) follows_mixed sound (by kernel_rfl) (by kernel_rfl) (fnok pol.prim _ _ (by kernel_rfl)) (by kernel_rfl) ?_
  intro args res h
  obtain ⟨l,rfl,hq⟩:=liF_inv h
  clear h
  have h:=hq
  clear hq
  cases h
  have hmin:min ((l.map encI).length:Int) 110=((min l.length 110:Nat):Int):=by rw [List.length_map]; omega
  have hw:(l.map encI).take (min l.length 110)=(l.take 110).map encI:=by rw [← List.map_take,take_min]
  have s1:=li_0 (l.map encI) (min l.length 110) (by rw [hmin]; exact slice_imm (by rw [List.length_map]; omega)) (by
    rw [hw]
    by_cases h0:l.take 110=[]
    · rw [h0]; rfl
    · have hlen:(l.take 110).length ≤ 110:=by rw [List.length_take]; omega
      have:=app_ints (H:=[bI []]) (b:=0) (o:=[]) (xs:=l.take 110) rfl (by simp; omega) h0
      rw [List.nil_append] at this
      simpa [bI] using this)
  rw [hw] at s1
  refine ⟨_,_,_,.sl 0 0 ((l.take 110).map encI).length none ((l.take 110).map encI).length 1,s1,by simp,by simp only [resultsV,res14]; rfl,?_⟩
  exact res_li (b:=0) rfl (by simp)
theorem res17:Try.f17.results.toList=[.tmp 4]:=by kernel_rfl
abbrev iE (la lb:List HV) (j:Nat):Env:=env17 (.imm .arg 1 la) (.imm .arg 1 lb) (.bool false) (.int .i64 (j:Int))
theorem getD_at {o:List Int} {y:Nat} (h:y < o.length):o.getD y 0=o[y]:=by simp [List.getD,List.getElem?_eq_getElem h]
theorem ints_loop (a b:List Int) (hl:a.length=b.length) (hl2:a.length ≤ 1000):∀ (d j:Nat),j+d=a.length →
    ∃ x E,RT pol 17 (sub [1,1,0,1,0] B17) (iE (a.map encI) (b.map encI) j) [] x E [] ∧
      ((a.drop j=b.drop j∧x=.exit 0∧E=iE (a.map encI) (b.map encI) a.length) ∨ (a.drop j ≠ b.drop j∧x=.ret∧E.get 4=.bool false)):=by
  intro d
  induction d with
  | zero =>
    intro j hj
    have hj:j=a.length:=by omega
    subst hj
    exact ⟨_,_,lpo (r17_l_2 (a.map encI) (b.map encI) a.length (by simp)),.inl ⟨by rw [List.drop_length,hl,List.drop_length],rfl,rfl⟩⟩
  | succ d ih =>
    intro j hj
    have hja:j < a.length:=by omega
    have hjb:j < b.length:=by omega
    rw [List.drop_eq_getElem_cons hja,List.drop_eq_getElem_cons hjb]
    have g1:=gx hja
    have g2:=gx hjb
    rw [getD_at hja] at g1
    rw [getD_at hjb] at g2
    by_cases he:a[j]=b[j]
    · obtain ⟨x,E,h1,h2⟩:=ih (j+1) (by omega)
      have s1:=r17_l_0 (a.map encI) (b.map encI) j _ _ (by simp; omega) g1 g2 he
      rw [wrap_succ (by omega)] at s1
      refine ⟨x,E,lop s1 rfl h1,?_⟩
      rw [he]
      simpa only [List.cons.injEq,true_and,ne_eq] using h2
    · have s1:=r17_l_1 (a.map encI) (b.map encI) j _ _ (by simp; omega) g1 g2 he
      exact ⟨_,_,lpo s1,.inr ⟨fun h=>he (List.cons.inj h).1,rfl,rfl⟩⟩
theorem ints_ok:PrimOk Tp 17 ints17:=by
  refine primOk_pure (pol:=pol) (fn:=Try.f17) (cd:=B17) follows_mixed sound (by kernel_rfl) (by kernel_rfl) (fnok pol.prim _ _ (by kernel_rfl)) (by kernel_rfl) ?_
  intro args res h
  obtain ⟨a,b,rfl,hq⟩:=llF_inv h
  clear h
  have h:=hq
  clear hq
  split at h
  · rename_i hlen
    cases h
    have a1:=r17_a_0 (a.map encI) (b.map encI)
    by_cases hl:a.length=b.length
    · have b1:=r17_b_0 (a.map encI) (b.map encI) (by simp [hl])
      have c1:=r17_c_0 (a.map encI) (b.map encI)
      obtain ⟨x,E,h1,h2⟩:=ints_loop a b hl hlen a.length 0 (by omega)
      rw [List.drop_zero,List.drop_zero] at h2
      rcases h2 with ⟨k1,rfl,rfl⟩ | ⟨k1,rfl,k2⟩
      · have t1:=sq c1 (bke (c:=sub [1,1,0,1] B17) h1) (c:=sub [1,1,0] B17)
        have t2:=sq t1 (r17_z_0 (a.map encI) (b.map encI) a.length) (c:=sub [1,1] B17)
        have t3:=sq b1 t2 (c:=sub [1] B17)
        have t4:=sq a1 t3 (c:=B17)
        exact ⟨_,_,_,.bool (decide (a=b)),t4,by simp,by rw [decide_eq_true k1]; simp only [resultsV,res17]; rfl,rfl⟩
      · have t1:=sq c1 (RunsTo.block_ret (c:=sub [1,1,0,1] B17) (i:=0) h1 (by kernel_rfl)) (c:=sub [1,1,0] B17)
        have t2:=sqo t1 (c:=sub [1,1] B17) (b:=sub [1,1,1] B17)
        have t3:=sq b1 t2 (c:=sub [1] B17)
        have t4:=sq a1 t3 (c:=B17)
        exact ⟨_,_,_,.bool (decide (a=b)),t4,by simp,by rw [decide_eq_false k1]; simp only [resultsV,res17,mapO,resultV,k2],rfl⟩
    · have b1:=r17_b_1 (a.map encI) (b.map encI) (by simp; omega)
      have t3:=sqo b1 (c:=sub [1] B17) (b:=sub [1,1] B17)
      have t4:=sq a1 t3 (c:=B17)
      exact ⟨_,_,_,.bool (decide (a=b)),t4,by simp,by rw [decide_eq_false (fun h=>hl (by rw [h]))]; simp only [resultsV,res17]; rfl,rfl⟩
  · cases h
theorem gxxF_inv {f:Gr → El → El → HV} {args:List HV} {res:HV} (h:gxxF f args=some res):∃ g x y,args=[encG g,encX x,encX y]∧grOk g∧elOk g x∧elOk g y∧res=f g x y:=by
  unfold gxxF at h
  split at h
  · rename_i a b c
    split at h
    · rename_i g x y ha hb hc
      split at h
      · rename_i hk
        cases h
        exact ⟨g,x,y,by rw [decG_inv _ _ ha,decX_inv _ _ hb,decX_inv _ _ hc],hk.1,hk.2.1,hk.2.2,rfl⟩
      · cases h
    · cases h
  · cases h
theorem rem3 {a b:Int} (hb:b ≠ 0):binV Tp .rem 3 (.int .i64 a) (.int .i64 b)=some (.int .i64 (a.tmod b)):=by
  simp only [binV,intBin,if_neg hb,if_true]
theorem add_ok:PrimOk Tp 59 add59:=by
  refine primOk_pure (pol:=pol) (fn:=Try.f59) (cd:=B59) follows_mixed sound (by kernel_rfl) (by kernel_rfl) (fnok pol.prim _ _ (by kernel_rfl)) (by kernel_rfl) ?_
  intro args res h
  obtain ⟨⟨m0,m1,sz⟩,⟨x0,x1⟩,⟨y0,y1⟩,rfl,hg,hx,hy,rfl⟩:=gxxF_inv h
  obtain ⟨⟨g1,g2⟩,g3,g4⟩:=hg
  obtain ⟨⟨a1,a2⟩,a3,a4⟩:=hx
  obtain ⟨⟨b1,b2⟩,b3,b4⟩:=hy
  simp only at g1 g2 g3 g4 a1 a2 a3 a4 b1 b2 b3 b4
  have w0:IntKind.i64.wrap (x0+y0)=x0+y0:=wrap_id (by omega) (by omega)
  have w1:IntKind.i64.wrap (x1+y1)=x1+y1:=wrap_id (by omega) (by omega)
  have s:=ad_0 m0 m1 sz x0 x1 y0 y1 (rem3 (by omega)) (rem3 (by omega))
  rw [w0,w1,Int.tmod_eq_emod_of_nonneg (by omega),Int.tmod_eq_emod_of_nonneg (by omega)] at s
  exact ⟨_,_,_,encX (addT (m0,m1,sz) (x0,x1) (y0,y1)),s,by simp,by kernel_rfl,by kernel_rfl⟩
theorem res51:Try.f51.results.toList=[.tmp 2]:=by kernel_rfl
theorem ip_loop {n:Int} (hn:n ≤ 1000):∀ (k d:Nat),2 ≤ d → (n.toNat=d+k ∨ (n.toNat ≤ d∧k=0)) →
    ∃ x y3,RT pol 51 (sub [1,0,1,0] B51) (env51 (.int .i64 n) (.bool false) (.int .i64 (d:Int))) [] x (env51 (.int .i64 n) (.bool false) y3) [] ∧
      ((x=.exit 0∧∀ q:Nat,d ≤ q → q < n.toNat → ¬ n % (q:Int)=0) ∨ (x=.ret∧∃ q:Nat,d ≤ q∧q < n.toNat∧n % (q:Int)=0)):=by
  intro k
  induction k with
  | zero =>
    intro d hd hk
    exact ⟨_,_,lpo (ip_l_2 n d (by omega)),.inl ⟨rfl,fun q h1 h2=>by omega⟩⟩
  | succ k ih =>
    intro d hd hk
    have hlt:(d:Int) < n:=by omega
    have ht:n.tmod (d:Int)=n % (d:Int):=Int.tmod_eq_emod_of_nonneg (by omega)
    by_cases c:n % (d:Int)=0
    · exact ⟨_,_,lpo (ip_l_0 n d hlt (rem3 (by omega)) (by rw [ht]; exact c)),.inr ⟨rfl,d,by omega,by omega,c⟩⟩
    · have s:=ip_l_1 n d hlt (rem3 (by omega)) (by rw [ht]; exact c)
      rw [wrap_succ (by omega)] at s
      obtain ⟨x,y3,h1,h2⟩:=ih (d+1) (by omega) (by omega)
      refine ⟨x,y3,lop s (gc_eq _ rfl) h1,?_⟩
      rcases h2 with ⟨rfl,h3⟩ | ⟨rfl,q,h3,h4,h5⟩
      · refine .inl ⟨rfl,fun q hq1 hq2=>?_⟩
        by_cases e:q=d
        · subst e; exact c
        · exact h3 q (by omega) hq2
      · exact .inr ⟨rfl,q,by omega,h4,h5⟩
theorem isPrime_ok:PrimOk Tp 51 isPrime51:=by
  refine primOk_pure (pol:=pol) (fn:=Try.f51) (cd:=B51) follows_mixed sound (by kernel_rfl) (by kernel_rfl) (fnok pol.prim _ _ (by kernel_rfl)) (by kernel_rfl) ?_
  intro args res h
  unfold isPrime51 at h
  split at h
  case h_2=>cases h
  rename_i n
  split at h
  case isFalse=>cases h
  rename_i hn
  cases h
  have a:=ip_a_0 n
  have b:=ip_b_0 n
  obtain ⟨x,y3,r,hr⟩:=ip_loop (n:=n) hn (n.toNat - 2) 2 (by omega) (by omega)
  rcases hr with ⟨rfl,h3⟩ | ⟨rfl,q,h3,h4,h5⟩
  · have hall:((List.range n.toNat).all fun d=>decide (d < 2) || !decide (n % (d:Int)=0))=true:=by
      rw [List.all_eq_true]
      intro d hd
      rw [List.mem_range] at hd
      by_cases c:d < 2
      · simp [c]
      · have:=h3 d (by omega) hd
        simp [c,this]
    by_cases c:1 < n
    · have z:=ip_z_0 n y3 c
      have t:=sq (a) (sq (sq (b) (bke (c:=sub [1,0,1] B51) (r)) (c:=sub [1,0] B51)) (z) (c:=sub [1] B51)) (c:=B51)
      refine ⟨_,_,_,.bool true,t,by simp,by simp only [resultsV,res51]; rfl,?_⟩
      rw [primeT,hall,decide_eq_true c]; rfl
    · have z:=ip_z_1 n y3 c
      have t:=sq (a) (sq (sq (b) (bke (c:=sub [1,0,1] B51) (r)) (c:=sub [1,0] B51)) (z) (c:=sub [1] B51)) (c:=B51)
      refine ⟨_,_,_,.bool false,t,by simp,by simp only [resultsV,res51]; rfl,?_⟩
      rw [primeT,decide_eq_false c]; rfl
  · have hall:((List.range n.toNat).all fun d=>decide (d < 2) || !decide (n % (d:Int)=0))=false:=by
      rw [List.all_eq_false]
      exact ⟨q,List.mem_range.2 h4,by simp [h5]; omega⟩
    have t:=sq (a) (sqo (sq (b) (RunsTo.block_ret (i:=0) (c:=sub [1,0,1] B51) (r) (by kernel_rfl)) (c:=sub [1,0] B51)) (c:=sub [1] B51) (b:=sub [1,1] B51)) (c:=B51)
    refine ⟨_,_,_,.bool false,t,by simp,by simp only [resultsV,res51]; rfl,?_⟩
    rw [primeT,hall,Bool.and_false]; rfl
end Go.Proofs.Ytaibmipamkaljaa
end
section
open Go Go.HL
namespace Go.Proofs.Ytaibmipamkaljaa
open Go.Proofs.Try renaming prog → Tp
open Go.HL.HV renaming undef → Ud
def polW:Pol:={ pol with prim:=fun g=>if g == 47 then some withinF else none }
theorem soundW (n:Nat):CallSound Tp (callN Tp polW n):=sound_prim _ (fun g f h=>by
  split at h
  · rename_i hg; cases h; rw [eq_of_beq hg]; exact within_ok
  · cases h) n
def inB (a lo hi:Int):Bool:=decide (lo ≤ a∧a ≤ hi)
def newGroupT:List Int → Gr × Bool
  | [a]=>if inB a 2 24 then ((a,1,1),true) else ((0,0,0),false)
  | [a,b]=>if inB a 2 24 && inB b 2 24 then ((a,b,2),decide (a * b ≤ 144) && decide (b % a=0)) else ((0,0,0),false)
  | _=>((0,0,0),false)
def elementT (g:Gr):List Int → El × Bool
  | [a]=>if g.2.2=1∧inB a 0 (g.1 - 1) then ((a,0),true) else ((0,0),false)
  | [a,b]=>if g.2.2=2∧inB a 0 (g.1 - 1) then (if inB b 0 (g.2.1 - 1) then ((a,b),true) else ((a,0),false)) else ((0,0),false)
  | _=>((0,0),false)
end Go.Proofs.Ytaibmipamkaljaa
end
section
open Go Go.HL
namespace Go.Proofs.Ytaibmipamkaljaa
theorem in_t {a lo hi:Int} (h:lo ≤ a∧a ≤ hi):inB a lo hi=true:=decide_eq_true h
end Go.Proofs.Ytaibmipamkaljaa
end
section
open Go Go.HL
namespace Go.Proofs.Ytaibmipamkaljaa
def sizeT:List Int → Int | [a]=>a | [a,b]=>a * b | _=>0
def codeT:List Int → List Int → Int | [_],[x]=>x | [_,b],[x,y]=>x * b+y | _,_=>0
def lessT:List Int → Int → List Int → List Int | [a],c,[x]=>[(c - x+a) % a] | [a,b],c,[x,y]=>[(c / b - x+a) % a,(c % b - y+b) % b] | _,_,_=>[]
end Go.Proofs.Ytaibmipamkaljaa
end
section
open Go Go.HL
namespace Go.Proofs.Ytaibmipamkaljaa
set_option maxRecDepth 100000
open Go.Proofs.Try renaming prog → Tp
open Go.HL.HV renaming undef → Ud
theorem mod_at {pol':Pol} (hp:pol'.prim 30=some modF) (a:Int) {n:Int} (h0:0 < n) (h1:n < 9223372036854775808) (H:Heap):∀ k,callN Tp pol' (k+1) 30 [.int .i64 a,.int .i64 n] H=some (.int .i64 (modW a n),H):=fun k=>by
  rw [prim_call (pol:=pol') (g:=30) (F:=modF) hp (rs:=[.int .i64 a,.int .i64 n]) rfl (res:=.int .i64 (modW a n)) (by simp only [modF]; rw [if_pos ⟨h0,h1⟩])]
  rfl
end Go.Proofs.Ytaibmipamkaljaa
end
section
open Go Go.HL
namespace Go.Proofs.Ytaibmipamkaljaa
theorem mod_in {m:Int} (h:0 < m) (z:Int):0 ≤ z % m∧z % m < m:=⟨Int.emod_nonneg _ (by omega),Int.emod_lt_of_pos _ h⟩
end Go.Proofs.Ytaibmipamkaljaa
end
section
open Go Go.HL
namespace Go.Proofs.Ytaibmipamkaljaa
open Go.Proofs.Try renaming prog → Tp
open Go.HL.HV renaming undef → Ud
def ins {α:Type} [DecidableEq α] (x:α) (s:List α):List α:=if x ∈ s then s else s ++ [x]
theorem mem_ins {α:Type} [DecidableEq α] {x y:α} {s:List α}:y ∈ ins x s ↔ y=x ∨ y ∈ s:=by
  unfold ins
  split
  · rename_i h
    constructor
    · exact .inr
    · rintro (rfl | h')
      · exact h
      · exact h'
  · simp [or_comm]
theorem nodup_ins {α:Type} [DecidableEq α] {x:α} {s:List α} (h:s.Nodup):(ins x s).Nodup:=by
  unfold ins
  split
  · exact h
  · rename_i hx
    rw [List.nodup_append]
    exact ⟨h,by simp,fun a ha b hb e=>by rw [List.mem_singleton] at hb; subst hb; subst e; exact hx ha⟩
def lkH (P:Program) (T:TypeId) (H:Heap) (b:Nat) (k:HV):Option (HV × Heap) :=
  match H[b]? with
  | some (.map ks vs _)=>(lookV P T ks vs k false).map fun v=>(v,H)
  | _=>none
theorem z4t:tyZero Tp 4=some (.bool false):=by kernel_rfl
structure KeyT (α:Type) [DecidableEq α] (enc:α → HV) (T kt:TypeId):Prop where
  und:Tp.underlying T=some (.map kt 4)
  key:∀ a,keyTy Tp kt (enc a)=true
  eq:∀ a b,keyEq (enc a) (enc b)=some (decide (a=b))
  self:∀ a,(aggEq (cellsOf (enc a)) (cellsOf (enc a))).isSome=true
  inj:∀ a b,enc a=enc b → a=b
section
variable {α:Type} [DecidableEq α] {enc:α → HV} {T kt:TypeId}
abbrev mapK (enc:α → HV) (ks:List α):Blk:=.map (ks.map enc) (ks.map fun _=>.bool true) 0
theorem findK_k (hK:KeyT α enc T kt) (x:α):∀ (ks:List α) (i:Nat),∃ r,findK (enc x) (ks.map enc) i=some r∧((x ∈ ks∧∃ j,r=some (i+j)∧j < ks.length) ∨ (x ∉ ks∧r=none))
  | [],i=>⟨none,rfl,.inr ⟨by simp,rfl⟩⟩
  | k :: ks,i=>by
    by_cases e:x=k
    · subst e
      refine ⟨some i,?_,.inl ⟨by simp,0,rfl,by simp⟩⟩
      simp only [List.map_cons,findK,hK.eq,decide_true]
    · obtain ⟨r,h1,h2⟩:=findK_k hK x ks (i+1)
      refine ⟨r,?_,?_⟩
      · simp only [List.map_cons,findK,hK.eq,decide_eq_false e]
        exact h1
      · rcases h2 with ⟨h3,j,h4,h5⟩ | ⟨h3,h4⟩
        · exact .inl ⟨by simp [h3],j+1,by rw [h4]; congr 1; omega,by simp; omega⟩
        · exact .inr ⟨by simp [h3,e],h4⟩
theorem look_k (hK:KeyT α enc T kt) (ks:List α) (x:α):lookV Tp T (ks.map enc) (ks.map fun _=>.bool true) (enc x) false=some (.bool (decide (x ∈ ks))):=by
  obtain ⟨r,h1,h2⟩:=findK_k hK x ks 0
  have hk:=hK.key x
  have hz:=z4t
  simp only [lookV,hK.und,hk,if_true,h1]
  rcases h2 with ⟨h3,j,rfl,h5⟩ | ⟨h3,rfl⟩
  · rw [decide_eq_true h3]
    have:(ks.map fun _=>HV.bool true)[0+j]?=some (.bool true):=by rw [Nat.zero_add,List.getElem?_map,List.getElem?_eq_getElem h5]; rfl
    simp only [this]
    rfl
  · rw [decide_eq_false h3]
    simp only [hz]
    rfl
theorem map_lk (hK:KeyT α enc T kt) {H:Heap} {b:Nat} {ks:List α} (h:H[b]?=some (mapK enc ks)) (x:α):lkH Tp T H b (enc x)=some (.bool (decide (x ∈ ks)),H):=by
  simp only [lkH,h,look_k hK,Option.map]
theorem map_upd (hK:KeyT α enc T kt) {H:Heap} {b:Nat} {ks:List α} (h:H[b]?=some (mapK enc ks)) (x:α):updV Tp false T (.map b) (enc x) (.bool true) H=some (H.set b (mapK enc (ins x ks))):=by
  obtain ⟨r,h1,h2⟩:=findK_k hK x ks 0
  have hk:=hK.key x
  simp only [updV,hK.und,hk,if_true,h,h1,Bool.false_eq_true,if_false]
  rcases h2 with ⟨h3,j,rfl,h5⟩ | ⟨h3,rfl⟩
  · have hs:(ks.map fun _=>HV.bool true).set (0+j) (.bool true)=ks.map fun _=>.bool true:=by
      apply List.ext_getElem?
      intro i
      rw [List.getElem?_set,List.length_map]
      by_cases e:0+j=i
      · subst e
        rw [if_pos rfl,if_pos (by omega),List.getElem?_map,List.getElem?_eq_getElem (by omega)]; rfl
      · rw [if_neg e]
    simp only [hs,ins,if_pos h3,bnd,Nat.max_zero]
  · simp only [hK.self x,if_true,ins,if_neg h3,bnd,Nat.max_zero,mapK,List.map_append,List.map_cons,List.map_nil]
end
abbrev Wt:=Int × El
def encW (w:Wt):HV:=.agg [.int .i64 w.1,.int .i64 w.2.1,.int .i64 w.2.2]
theorem keyI:KeyT Int encI 92 3:=by
  refine ⟨by kernel_rfl,fun a=>by kernel_rfl,fun a b=>?_,fun a=>?_,fun a b h=>?_⟩
  · simp only [encI,keyEq,scEq,if_true]
  · simp [encI,cellsOf,aggEq,scEq]
  · simpa [encI] using h
theorem keyW:KeyT Wt encW 91 72:=by
  refine ⟨by kernel_rfl,fun a=>by kernel_rfl,fun a b=>?_,fun a=>?_,fun a b h=>?_⟩
  · obtain ⟨a,b,c⟩:=a
    rename_i y
    obtain ⟨d,e,f⟩:=y
    simp only [encW,keyEq,aggEq,scEq,if_true,Bool.and_true,Prod.mk.injEq]
    by_cases h1:a=d <;> by_cases h2:b=e <;> by_cases h3:c=f <;> simp [h1,h2,h3]
  · simp [encW,cellsOf,aggEq,scEq]
  · simp [encW] at h
    exact Prod.ext h.1 (Prod.ext h.2.1 h.2.2)
def rchW (g:Gr) (x:El) (w:Wt):Wt:=(w.1+1,addT g w.2 x)
def rchStep (g:Gr) (x:El) (K:List Wt):List Wt:=K.foldl (fun A w=>ins (rchW g x w) (ins w A)) []
def rchT (g:Gr):List El → List (List Wt)
  | []=>[[(0,0,0)]]
  | x :: l=>rchStep g x ((rchT g l).headD []) :: rchT g l
def encM (K:List Wt):HV:=.imap .own (K.map encW) (K.map fun _=>.bool true)
end Go.Proofs.Ytaibmipamkaljaa
end
section
open Go Go.HL
namespace Go.Proofs.Ytaibmipamkaljaa
open Go.Proofs.Try renaming prog → Tp
open Go.HL.HV renaming undef → Ud
def recL (x x':Option (HV × Heap)) (H H':Heap):Bool :=
  match x,x' with
  | some (v,H1),some (v',H1')=>same v v' && sameH H1 H && sameH H1' H'
  | _,_=>false
theorem sameH_iff:∀ {H:Heap},sameH H H=true ↔ ∀ B ∈ H,sameH [B] [B]=true
  | []=>by simp [sameH]
  | B :: H=>by
    have ih:=sameH_iff (H:=H)
    cases B with
    | arr k els w m=>simp only [sameH,List.forall_mem_cons,← ih,Bool.and_eq_true,and_true,Bool.and_true]
    | iter a b c d=>simp only [sameH,List.forall_mem_cons,← ih,Bool.and_eq_true,and_true,Bool.and_true]
    | map ks vs m=>simp only [sameH,List.forall_mem_cons,← ih,Bool.and_eq_true,and_true,Bool.and_true]
    | dead=>simp only [sameH,List.forall_mem_cons,← ih,true_and]
theorem sameL_all:∀ {l:List HV},(∀ v ∈ l,same v v=true) → sameL l l=true
  | [],_=>rfl
  | v :: l,h=>by simp only [sameL,h v (by simp),sameL_all (l:=l) (fun w hw=>h w (by simp [hw])),Bool.and_self]
theorem same_arr {k m:Nat} {l:List HV} {w:Bool} (h:∀ v ∈ l,same v v=true):sameH [.arr k l w m] [.arr k l w m]=true:=by
  simp [sameH,sameL_all h]
noncomputable def polR:Pol:={ pol with prim:=fun g=>if g == 59 then some add59 else none }
theorem primR (g:FuncId) (f:List HV → Option HV) (h:polR.prim g=some f):PrimOk Tp g f:=by
  unfold polR at h
  simp only at h
  split at h
  · rename_i hg; cases h; rw [eq_of_beq hg]; exact add_ok
  · cases h
theorem soundR (n:Nat):CallSound Tp (callN Tp polR n):=sound_prim _ primR n
end Go.Proofs.Ytaibmipamkaljaa
end
section
open Go Go.HL
namespace Go.Proofs.Ytaibmipamkaljaa
set_option maxRecDepth 100000
open Go.Proofs.Try renaming prog → Tp
open Go.HL.HV renaming undef → Ud
noncomputable def B49:Code:=Try.f49.body.getD .skip
abbrev env49 (v0 v1 v2 v4 v5 v6 v7 v35:HV):Env:=[(0,v0),(1,v1),(2,v2),(4,v4),(5,v5),(6,v6),(7,v7),(35,v35)]
theorem rc_a_0 (m0 m1 sz:Int) (l:List HV) :RT polR 49 (sub [0] B49) [(0,.agg [.i m0,.i m1,.i sz]),(1,.imm .arg 2 l)] [] .normal (env49 (.agg [.i m0,.i m1,.i sz]) (.imm .arg 2 l) (.ptr 0 0 0 1) (.imm .lit 1 []) Ud Ud Ud Ud) [.arr 3 [.agg [.i m0,.i m1,.i sz]] true 0] :=
  RunsTo.hin 0 60 [] fun kf hk=>⟨_,by kernel_rfl,.nil⟩
theorem rc_b_0 (m0 m1 sz:Int) (l:List HV) (n:Nat) {y5 y6 y7 y35:HV}(g0:makeV Tp false 69 (.i (IntKind.i64.wrap ((l.length:Int)+1))) (.i (IntKind.i64.wrap ((l.length:Int)+1))) [.arr 3 [.agg [.i m0,.i m1,.i sz]] true 0]=some (.o 1 n,[.arr 3 [.agg [.i m0,.i m1,.i sz]] true 0,.arr 1 (List.replicate n (.nilmap)) true 0])):RT polR 49 (sub [1,0] B49) (env49 (.agg [.i m0,.i m1,.i sz]) (.imm .arg 2 l) (.ptr 0 0 0 1) (.imm .lit 1 []) y5 y6 y7 y35) [.arr 3 [.agg [.i m0,.i m1,.i sz]] true 0] .normal (env49 (.agg [.i m0,.i m1,.i sz]) (.imm .arg 2 l) (.ptr 0 0 0 1) (.imm .lit 1 []) (.o 1 n) y6 y7 y35) [.arr 3 [.agg [.i m0,.i m1,.i sz]] true 0,.arr 1 (List.replicate n (.nilmap)) true 0] :=
  RunsTo.hin 0 60 [⟨1,3,.o 1 n,[.arr 3 [.agg [.i m0,.i m1,.i sz]] true 0,.arr 1 (List.replicate n (.nilmap)) true 0]⟩] fun kf hk=>⟨_,by kernel_rfl,(oC (g0) .nil)⟩
theorem rc_c_0 (m0 m1 sz:Int) (l:List HV) (n:Nat) (H:Heap) {y6 y7 y35:HV} {H0:Heap} {H1:Heap} {H2:Heap} (g0:some (HV.map H.length,H ++ [Blk.map [] [] 0])=some (.map 2,H0)) (g1:updV Tp false 91 (.map 2) (.agg [.i 0,.i 0,.i 0]) (.bool true) H0=some H1) (g2:idxV Tp 69 (.o 1 n) (.i (l.length:Int))=some (.ptr 1 l.length 0 n)) (g3:storeV Tp H1 91 (.ptr 1 l.length 0 n) (.map 2)=some H2):RT polR 49 (sub [1,1,0] B49) (env49 (.agg [.i m0,.i m1,.i sz]) (.imm .arg 2 l) (.ptr 0 0 0 1) (.imm .lit 1 []) (.o 1 n) y6 y7 y35) H .normal (env49 (.agg [.i m0,.i m1,.i sz]) (.imm .arg 2 l) (.ptr 0 0 0 1) (.imm .lit 1 []) (.o 1 n) y6 y7 y35) H2 :=
  RunsTo.hin 0 60 [⟨2,3,.map 2,H0⟩,⟨2,5,.tuple [],H1⟩,⟨2,7,.ptr 1 l.length 0 n,H1⟩,⟨2,8,.tuple [],H2⟩] fun kf hk=>⟨_,by kernel_rfl,(oC (g0) (oS g1 (oP H1 g2 (oS g3 .nil))))⟩
theorem rc_d_0 (m0 m1 sz:Int) (l:List HV) (n:Nat) (H:Heap) {y6 y7 y35:HV}:RT polR 49 (sub [1,1,1,0,0] B49) (env49 (.agg [.i m0,.i m1,.i sz]) (.imm .arg 2 l) (.ptr 0 0 0 1) (.imm .lit 1 []) (.o 1 n) y6 y7 y35) H .normal (env49 (.agg [.i m0,.i m1,.i sz]) (.imm .arg 2 l) (.ptr 0 0 0 1) (.imm .lit 1 []) (.o 1 n) (.i (IntKind.i64.wrap ((l.length:Int) - 1))) y7 y35) H :=
  RunsTo.hin 0 60 [] fun kf hk=>⟨_,by kernel_rfl,.nil⟩
theorem rc_e_0 (m0 m1 sz:Int) (l:List HV) (n:Nat) (H:Heap) (i:Int) {y7 y35:HV}(g0:0 ≤ i):RT polR 49 (sub [1,1,1,0,1,0,0,0] B49) (env49 (.agg [.i m0,.i m1,.i sz]) (.imm .arg 2 l) (.ptr 0 0 0 1) (.imm .lit 1 []) (.o 1 n) (.i i) y7 y35) H .normal (env49 (.agg [.i m0,.i m1,.i sz]) (.imm .arg 2 l) (.ptr 0 0 0 1) (.imm .lit 1 []) (.o 1 n) (.i i) y7 y35) H :=
  RunsTo.hin 0 60 [⟨4,1,.bool true,H⟩] fun kf hk=>⟨_,by kernel_rfl,(oB H (decide_eq_true g0) .nil)⟩
theorem rc_e_1 (m0 m1 sz:Int) (l:List HV) (n:Nat) (H:Heap) (i:Int) {y7 y35:HV}(g0:¬ (0 ≤ i)):RT polR 49 (sub [1,1,1,0,1,0,0,0] B49) (env49 (.agg [.i m0,.i m1,.i sz]) (.imm .arg 2 l) (.ptr 0 0 0 1) (.imm .lit 1 []) (.o 1 n) (.i i) y7 y35) H (.exit 0) (env49 (.agg [.i m0,.i m1,.i sz]) (.imm .arg 2 l) (.ptr 0 0 0 1) (.imm .lit 1 []) (.o 1 n) (.i i) y7 y35) H :=
  RunsTo.hin 0 60 [⟨4,1,.bool false,H⟩] fun kf hk=>⟨_,by kernel_rfl,(oB H (decide_eq_false g0) .nil)⟩
theorem rc_f_0 (m0 m1 sz:Int) (l:List HV) (n:Nat) (H:Heap) (i:Nat) {y7 y35:HV} {H0:Heap} {H1:Heap} (g0:some (HV.map H.length,H ++ [Blk.map [] [] 0])=some (.map 2,H0)) (g1:idxV Tp 69 (.o 1 n) (.i (i:Int))=some (.ptr 1 i 0 n)) (g2:storeV Tp H0 91 (.ptr 1 i 0 n) (.map 2)=some H1):RT polR 49 (sub [1,1,1,0,1,0,0,1,0,0,0] B49) (env49 (.agg [.i m0,.i m1,.i sz]) (.imm .arg 2 l) (.ptr 0 0 0 1) (.imm .lit 1 []) (.o 1 n) (.i (i:Int)) y7 y35) H .normal (env49 (.agg [.i m0,.i m1,.i sz]) (.imm .arg 2 l) (.ptr 0 0 0 1) (.imm .lit 1 []) (.o 1 n) (.i (i:Int)) y7 y35) H1 :=
  RunsTo.hin 0 60 [⟨6,2,.map 2,H0⟩,⟨6,3,.ptr 1 i 0 n,H0⟩,⟨6,4,.tuple [],H1⟩] fun kf hk=>⟨_,by kernel_rfl,(oC (g0) (oP H0 g1 (oS g2 .nil)))⟩
theorem rc_g_0 (m0 m1 sz:Int) (l:List HV) (n:Nat) (H:Heap) (i:Nat) (w0 w1 w2:Int) (kb mb:Nat) {y35:HV} {H0:Heap} (g0:idxV Tp 69 (.o 1 n) (.i (i:Int))=some (.ptr 1 i 0 n)) (g1:loadV Tp H 91 (.ptr 1 i 0 n)=some (.map mb)) (g2:loadV Tp H 72 (.ptr kb 0 0 1)=some (.agg [.i w0,.i w1,.i w2])) (g3:updV Tp false 91 (.map mb) (.agg [.i w0,.i w1,.i w2]) (.bool true) H=some H0):RT polR 49 (sub [1,1,1,0,1,0,0,1,0,0,1,1,0,0,1,1,0,1,0] B49) (env49 (.agg [.i m0,.i m1,.i sz]) (.imm .arg 2 l) (.ptr 0 0 0 1) (.imm .lit 1 []) (.o 1 n) (.i (i:Int)) (.ptr kb 0 0 1) y35) H .normal (env49 (.agg [.i m0,.i m1,.i sz]) (.imm .arg 2 l) (.ptr 0 0 0 1) (.imm .lit 1 []) (.o 1 n) (.i (i:Int)) (.ptr kb 0 0 1) y35) H0 :=
  RunsTo.hin 0 60 [⟨10,2,.ptr 1 i 0 n,H⟩,⟨10,3,.map mb,H⟩,⟨10,4,.agg [.i w0,.i w1,.i w2],H⟩,⟨10,5,.tuple [],H0⟩] fun kf hk=>⟨_,by kernel_rfl,(oP H g0 (oP H g1 (oP H g2 (oS g3 .nil))))⟩
theorem rc_h_0 (m0 m1 sz:Int) (l:List HV) (n:Nat) (H:Heap) (i:Nat) (w0 w1 w2 x0 x1:Int) (kb mb:Nat) {y35:HV} {x2:Int} {x3:Int} {z0:Int} {z1:Int} {H0:Heap} (g0:idxV Tp 69 (.o 1 n) (.i (i:Int))=some (.ptr 1 i 0 n)) (g1:loadV Tp H 91 (.ptr 1 i 0 n)=some (.map mb)) (g2:loadV Tp H 3 (.ptr kb 0 0 1)=some (.i w0)) (g3:loadV Tp H 66 (.ptr 0 0 0 1)=some (.agg [.i m0,.i m1,.i sz])) (g4:loadV Tp H 64 (.ptr kb 0 1 1)=some (.agg [.i w1,.i w2])) (g5:idxV Tp 67 (.imm .arg 2 l) (.i (i:Int))=some (.vptr (.agg [.i x2,.i x3]))) (g6:∀ kf,callN Tp polR (kf+1) 59 [.agg [.i m0,.i m1,.i sz],.agg [.i w1,.i w2],.agg [.i x2,.i x3]] H=some (.agg [.i z0,.i z1],H)) (g7:updV Tp false 91 (.map mb) (.agg [.i (IntKind.i64.wrap (w0+1)),.i z0,.i z1]) (.bool true) H=some H0) (gS11:(recL ((loadV Tp H 91 (.ptr 1 i 0 n)).map (fun v=>(v,(H:Heap)))) ((loadV Tp H 91 (.ptr 1 i 0 n)).map (fun v=>(v,(H:Heap)))) H H && (recL ((loadV Tp H 3 (.ptr kb 0 0 1)).map (fun v=>(v,(H:Heap)))) ((loadV Tp H 3 (.ptr kb 0 0 1)).map (fun v=>(v,(H:Heap)))) H H && true))=true):RT polR 49 (sub [1,1,1,0,1,0,0,1,0,0,1,1,0,0,1,1,0,1,1] B49) (env49 (.agg [.i m0,.i m1,.i sz]) (.imm .arg 2 l) (.ptr 0 0 0 1) (.imm .lit 1 []) (.o 1 n) (.i (i:Int)) (.ptr kb 0 0 1) y35) H .normal (env49 (.agg [.i m0,.i m1,.i sz]) (.imm .arg 2 l) (.ptr 0 0 0 1) (.imm .lit 1 []) (.o 1 n) (.i (i:Int)) (.ptr kb 0 0 1) y35) H0 :=
  RunsTo.hin 0 60 [⟨11,2,.ptr 1 i 0 n,H⟩,⟨11,3,.map mb,H⟩,⟨11,5,.i w0,H⟩,⟨11,7,.agg [.i m0,.i m1,.i sz],H⟩,⟨11,9,.agg [.i w1,.i w2],H⟩,⟨11,12,.vptr (.agg [.i x2,.i x3]),H⟩,⟨11,14,.agg [.i z0,.i z1],H⟩,⟨11,16,.tuple [],H0⟩] fun kf hk=>⟨_,by kernel_rfl,(oC (gS11) (oP H g0 (oP H g1 (oP H g2 (oP H g3 (oP H g4 (oP H g5 (oC (g6 kf) (oS g7 .nil)))))))))⟩
theorem rc_i_0 (m0 m1 sz:Int) (l:List HV) (n:Nat) (H:Heap) (i:Nat) {y7 y35:HV}:RT polR 49 (sub [1,1,1,0,1,0,0,1,1] B49) (env49 (.agg [.i m0,.i m1,.i sz]) (.imm .arg 2 l) (.ptr 0 0 0 1) (.imm .lit 1 []) (.o 1 n) (.i (i:Int)) y7 y35) H .normal (env49 (.agg [.i m0,.i m1,.i sz]) (.imm .arg 2 l) (.ptr 0 0 0 1) (.imm .lit 1 []) (.o 1 n) (.i (IntKind.i64.wrap ((i:Int) - 1))) y7 y35) H :=
  RunsTo.hin 0 60 [] fun kf hk=>⟨_,by kernel_rfl,.nil⟩
theorem rc_j_0 (m0 m1 sz:Int) (l:List HV) (n:Nat) (H:Heap) {y6 y7 y35:HV}:RT polR 49 (sub [1,1,1,1] B49) (env49 (.agg [.i m0,.i m1,.i sz]) (.imm .arg 2 l) (.ptr 0 0 0 1) (.imm .lit 1 []) (.o 1 n) y6 y7 y35) H .ret (env49 (.agg [.i m0,.i m1,.i sz]) (.imm .arg 2 l) (.ptr 0 0 0 1) (.o 1 n) (.o 1 n) y6 y7 y35) H :=
  RunsTo.hin 0 60 [] fun kf hk=>⟨_,by kernel_rfl,.nil⟩
end Go.Proofs.Ytaibmipamkaljaa
end
section
open Go Go.HL
namespace Go.Proofs.Ytaibmipamkaljaa
open Go.Proofs.Try renaming prog → Tp
open Go.HL.HV renaming undef → Ud
theorem u69:Tp.underlying 69=some (.slice 91):=by kernel_rfl
theorem u67:Tp.underlying 67=some (.slice 64):=by kernel_rfl
theorem z91:tySize Tp 91=some 1:=by kernel_rfl
theorem z64:tySize Tp 64=some 2:=by kernel_rfl
theorem z72:tySize Tp 72=some 3:=by kernel_rfl
theorem z66:tySize Tp 66=some 3:=by kernel_rfl
theorem a91:tyAgg Tp 91=false:=by kernel_rfl
theorem i91:(Tp.underlying 91).isSome=true:=by kernel_rfl
theorem a72:tyAgg Tp 72=true:=by kernel_rfl
theorem a66:tyAgg Tp 66=true:=by kernel_rfl
theorem info91:(Tp.info? 91).map (fun i=>(i.size,i.bytes,i.zero.map ofConst))=some (1,8,some .nilmap):=by kernel_rfl
theorem st_any {H:Heap} {t b i tot k mx:Nat} {els:List HV} {v old:HV} (hb:H[b]?=some (.arr k els true mx)) (ht:tot=els.length) (hi:els[i]?=some old) (ho:cellsOf old=[old]) (hna:∀ cs,old ≠ .agg cs) (hs:tySize Tp t=some 1) (hc:cellsOf v=[v]) (hcv:cellV v=true) :
    storeV Tp H t (.ptr b i 0 tot) v=some (H.set b (.arr k (els.set i v) true (max mx (bnd v)))):=by
  have hsp:splice [old] 0 [v]=[v]:=rfl
  simp only [storeV,hb,hi,ho,hc,hs,List.length_cons,List.length_nil,List.all_cons,List.all_nil,hcv,Bool.and_self,hsp]
  rw [if_pos ⟨ht,trivial⟩,if_pos ⟨by omega,trivial,by omega⟩]
theorem fold_mem {g:Gr} {x:El}:∀ (L A:List Wt) (w:Wt),w ∈ L.foldl (fun A w=>ins (rchW g x w) (ins w A)) A ↔ w ∈ A ∨ ∃ u ∈ L,w=u ∨ w=rchW g x u
  | [],A,w=>by simp
  | u :: L,A,w=>by
    rw [List.foldl_cons,fold_mem L _ w,mem_ins,mem_ins]
    constructor
    · rintro ((h | h | h) | ⟨v,h1,h2⟩)
      · exact .inr ⟨u,by simp,.inr h⟩
      · exact .inr ⟨u,by simp,.inl h⟩
      · exact .inl h
      · exact .inr ⟨v,by simp [h1],h2⟩
    · rintro (h | ⟨v,h1,h2⟩)
      · exact .inl (.inr (.inr h))
      · rcases List.mem_cons.1 h1 with rfl | h1
        · rcases h2 with h2 | h2
          · exact .inl (.inr (.inl h2))
          · exact .inl (.inl h2)
        · exact .inr ⟨v,h1,h2⟩
theorem fold_nodup {g:Gr} {x:El}:∀ (L A:List Wt),A.Nodup → (L.foldl (fun A w=>ins (rchW g x w) (ins w A)) A).Nodup
  | [],A,h=>h
  | u :: L,A,h=>by
    rw [List.foldl_cons]
    exact fold_nodup L _ (nodup_ins (nodup_ins h))
theorem mem_step {g:Gr} {x:El} {K:List Wt} {w:Wt}:w ∈ rchStep g x K ↔ ∃ u ∈ K,w=u ∨ w=rchW g x u:=by
  unfold rchStep
  rw [fold_mem]
  simp
theorem nodup_step {g:Gr} {x:El} {K:List Wt}:(rchStep g x K).Nodup:=fold_nodup K [] (by simp)
theorem step_perm {g:Gr} {x:El} {K L:List Wt} (h:∀ w,w ∈ L ↔ w ∈ K):(rchStep g x L).Perm (rchStep g x K):=by
  rw [List.perm_ext_iff_of_nodup nodup_step nodup_step]
  intro a
  rw [mem_step,mem_step]
  constructor
  · rintro ⟨u,h1,h2⟩; exact ⟨u,(h u).1 h1,h2⟩
  · rintro ⟨u,h1,h2⟩; exact ⟨u,(h u).2 h1,h2⟩
theorem rch_len (g:Gr):∀ l,(rchT g l).length=l.length+1
  | []=>rfl
  | x :: l=>by simp [rchT,rch_len g l]
def wtOk (g:Gr) (n:Nat) (w:Wt):Prop:=elOk g w.2∧0 ≤ w.1∧w.1 ≤ n
theorem head_ok {g:Gr} (hg:grOk g):∀ (l:List El),∀ w ∈ (rchT g l).headD [],wtOk g l.length w
  | [],w,h=>by
    simp [rchT] at h
    subst h
    obtain ⟨⟨a,b⟩,c,d⟩:=hg
    exact ⟨⟨⟨Int.le_refl _,by show (0:Int) < g.1; omega⟩,Int.le_refl _,by show (0:Int) < g.2.1; omega⟩,Int.le_refl _,Int.le_refl _⟩
  | x :: l,w,h=>by
    have h':w ∈ rchStep g x ((rchT g l).headD []):=h
    rw [mem_step] at h'
    obtain ⟨u,h1,h2⟩:=h'
    obtain ⟨k1,k2,k3⟩:=head_ok hg l u h1
    rcases h2 with rfl | rfl
    · exact ⟨k1,k2,by simp; omega⟩
    · exact ⟨addT_ok hg,by show 0 ≤ u.1+1; omega,by show u.1+1 ≤ _; simp; omega⟩
theorem head_cons (g:Gr) (l:List El):rchT g l=(rchT g l).headD [] :: (rchT g l).tail:=by cases l <;> rfl
abbrev bG (g:Gr):Blk:=.arr 3 [encG g] true 0
def elsR (g:Gr) (l:List El) (k:Nat):List HV:=List.replicate k .nilmap ++ (rchT g (l.drop k)).map encM
abbrev rwB (els:List HV) (mx:Nat):Blk:=.arr 1 els true mx
section
variable {g:Gr} {l:List El} {n:Nat}
abbrev rcE (g:Gr) (l:List El) (n:Nat) (v6 v7 v35:HV):Env:=(env49 (encG g) (.imm .arg 2 (l.map encX)) (.ptr 0 0 0 1) (.imm .lit 1 []) (.sl 1 0 n (some n) n 1) v6 v7 v35)
theorem ix69 {i:Nat} (hi:i < n):idxV Tp 69 (.sl 1 0 n (some n) n 1) (.int .i64 (i:Int))=some (.ptr 1 i 0 n):=by
  have:=idx_sl (P:=Tp) (t:=69) (b:=1) (len:=n) (tot:=n) (cap:=some n) (ik:=.i64) (n:=(i:Int)) u69 z91 (by omega) (by omega)
  rwa [Int.toNat_natCast] at this
theorem gX {i:Nat} (hi:i < l.length):idxV Tp 67 (.imm .arg 2 (l.map encX)) (.int .i64 (i:Int))=some (.vptr (encX (l.getD i (0,0)))) :=
  idx_imm u67 z64 (by omega) (by rw [Int.toNat_natCast,List.getElem?_map,List.getElem?_eq_getElem hi]; simp [List.getD,List.getElem?_eq_getElem hi])
theorem add_at {pol':Pol} (hp:pol'.prim 59=some add59) {x y:El} (hg:grOk g) (hx:elOk g x) (hy:elOk g y) (H:Heap):∀ k,callN Tp pol' (k+1) 59 [encG g,encX x,encX y] H=some (encX (addT g x y),H):=fun k=>by
  rw [prim_call (pol:=pol') (g:=59) (F:=add59) hp (rs:=[encG g,encX x,encX y]) rfl (res:=encX (addT g x y)) (by simp only [add59,gxxF,decG_enc,decX_enc]; rw [if_pos ⟨hg,hx,hy⟩])]
  rfl
noncomputable def C9:Code:=sub [1,1,1,0,1,0,0,1,0,0,1,1,0,0,1,1,0,0] B49
noncomputable def C7:Code:=sub [1,1,1,0,1,0,0,1,0,0,1,0] B49
noncomputable def C8:Code:=sub [1,1,1,0,1,0,0,1,0,0,1,1,0,0,0] B49
theorem st_box (H:Heap) (w:Wt):storeV Tp (H ++ [.arr 3 [.agg [.int .i64 0,.int .i64 0,.int .i64 0]] true 0]) 72 (.ptr H.length 0 0 1) (encW w)=some (H ++ [.arr 3 [encW w] true 0]):=by
  have:=store_agg (P:=Tp) (H:=H ++ [.arr 3 [.agg [.int .i64 0,.int .i64 0,.int .i64 0]] true 0]) (t:=72) (b:=H.length) (i:=0) (tot:=1) (k:=3) (mx:=0) (els:=[.agg [.int .i64 0,.int .i64 0,.int .i64 0]]) (cs:=[.int .i64 0,.int .i64 0,.int .i64 0]) (new:=[.int .i64 w.1,.int .i64 w.2.1,.int .i64 w.2.2])
    (by rw [List.getElem?_append_right (Nat.le_refl _),Nat.sub_self]; rfl) rfl rfl z72 rfl (by simp) rfl rfl
  rw [show encW w=.agg [.int .i64 w.1,.int .i64 w.2.1,.int .i64 w.2.2] from rfl,this]
  simp
theorem box_in (e:Env) (H:Heap) (w:Wt):evOps Tp polR 49 9 (regOps C9) [] (callN Tp polR 1) ((regOps C9).toList.drop 1) (e.put (some 38) (.tuple [encW w,.bool true])) H=some ([(7,.ptr H.length 0 0 1),(39,encW w),(38,.tuple [encW w,.bool true])] ++ e,H ++ [.arr 3 [encW w] true 0]) :=
  evOpsH_ok Tp polR ((regOps C9).toList.drop 1) 1 _ _ [⟨9,3,.tuple [],H ++ [.arr 3 [encW w] true 0]⟩] (hs':=[])
    (ob:=[(storeV Tp (H ++ [.arr 3 [.agg [.int .i64 0,.int .i64 0,.int .i64 0]] true 0]) 72 (.ptr H.length 0 0 1) (encW w)).map (fun H=>(HV.tuple [],H))=some (.tuple [],H ++ [.arr 3 [encW w] true 0])]) (by kernel_rfl) (Obls.cons (hintSt (st_box H w)) Obls.nil)
theorem pre_in {H:Heap} {i:Nat} {K:List Wt} (v7 v35:HV) (hi:IntKind.i64.wrap ((i:Int)+1)=((i+1:Nat):Int)) (h1:idxV Tp 69 (.sl 1 0 n (some n) n 1) (.int .i64 ((i+1:Nat):Int))=some (.ptr 1 (i+1) 0 n)) (h2:loadV Tp H 91 (.ptr 1 (i+1) 0 n)=some (encM K)) :
    evOps Tp polR 49 7 (regOps C7) [] (callN Tp polR 1) ((regOps C7).toList.take 5) (rcE g l n (.int .i64 (i:Int)) v7 v35) H =
      some ([(34,encM K),(33,.ptr 1 (i+1) 0 n),(32,.int .i64 (IntKind.i64.wrap ((i:Int)+1))),(31,.int .i64 (i:Int)),(30,.sl 1 0 n (some n) n 1)] ++ rcE g l n (.int .i64 (i:Int)) v7 v35,H) :=
  evOpsH_ok Tp polR ((regOps C7).toList.take 5) 0 _ _ [⟨7,3,.ptr 1 (i+1) 0 n,H⟩,⟨7,4,encM K,H⟩] (hs':=[])
    (ob:=[(idxV Tp 69 (.sl 1 0 n (some n) n 1) (.int .i64 (IntKind.i64.wrap ((i:Int)+1)))).map (fun v=>(v,H))=some (.ptr 1 (i+1) 0 n,H),(loadV Tp H 91 (.ptr 1 (i+1) 0 n)).map (fun v=>(v,H))=some (encM K,H)]) (by kernel_rfl) (Obls.cons (hintOp (by rw [hi]; exact h1)) (Obls.cons (hintOp h2) Obls.nil))
end
end Go.Proofs.Ytaibmipamkaljaa
end
section
open Go Go.HL
namespace Go.Proofs.Ytaibmipamkaljaa
open Go.Proofs.Try renaming prog → Tp
open Go.HL.HV renaming undef → Ud
section
variable {g:Gr} {l:List El} {n:Nat}
theorem g72 {H:Heap} {b:Nat} {w:Wt} (h:H[b]?=some (.arr 3 [encW w] true 0)):loadV Tp H 72 (.ptr b 0 0 1)=some (encW w):=load_agg (b:=b) h rfl rfl a72 z72
theorem same_encW (w:Wt):same (encW w) (encW w)=true:=by simp [encW,same,sameL]
theorem same_mapK (A:List Wt):sameH [mapK encW A] [mapK encW A]=true:=by
  have e1:sameL (A.map encW) (A.map encW)=true:=sameL_all fun v hv=>by
    obtain ⟨k,_,rfl⟩:=List.mem_map.1 hv
    exact same_encW k
  have e2:sameL (A.map fun _=>HV.bool true) (A.map fun _=>HV.bool true)=true:=sameL_all fun v hv=>by
    obtain ⟨k,_,rfl⟩:=List.mem_map.1 hv
    simp [same]
  simp only [mapK,sameH,e1,e2,beq_self_eq_true,Bool.and_self]
theorem same_encM (K:List Wt):same (encM K) (encM K)=true:=by
  have h:=same_mapK K
  simp only [mapK,sameH,beq_self_eq_true,Bool.and_true,Bool.and_eq_true] at h
  simp [encM,same,h.1,h.2]
theorem sameH_cons {B:Blk} {H:Heap} (hB:sameH [B] [B]=true) (hH:sameH H H=true):sameH (B :: H) (B :: H)=true:=by
  rw [sameH_iff] at hH ⊢
  intro C hC
  rcases List.mem_cons.1 hC with rfl | hC
  · exact hB
  · exact hH C hC
theorem rc_round (hg:grOk g) {i:Nat} (hi:i < l.length) (hl:∀ x ∈ l,elOk g x) (hll:l.length ≤ 1000) {w:Wt} (hw:elOk g w.2) (hw0:0 ≤ w.1∧w.1 ≤ 2000) {H:Heap} {A:List Wt} {v35:HV} (hn:i < n)
    (h0:H[0]?=some (bG g)) (h1:loadV Tp H 91 (.ptr 1 i 0 n)=some (.map 2)) (h2:H[2]?=some (mapK encW A)) (h1b:∀ X,loadV Tp (H.set 2 X) 91 (.ptr 1 i 0 n)=some (.map 2)) {kb:Nat} (hk:H[kb]?=some (.arr 3 [encW w] true 0)) (hkb:3 ≤ kb) (hs:sameH H H=true) :
    RT polR 49 (sub [1,1,1,0,1,0,0,1,0,0,1,1,0,0,1,1,0,1] B49) (rcE g l n (.int .i64 (i:Int)) (.ptr kb 0 0 1) v35) H .normal (rcE g l n (.int .i64 (i:Int)) (.ptr kb 0 0 1) v35)
      (H.set 2 (mapK encW (ins (rchW g (l.getD i (0,0)) w) (ins w A)))):=by
  have hx:elOk g (l.getD i (0,0)):=by
    have:l.getD i (0,0)=l[i]:=by simp [List.getD,List.getElem?_eq_getElem hi]
    rw [this]; exact hl _ (List.getElem_mem _)
  have hl2:2 < H.length:=lt_of_get h2
  have u1:=map_upd keyW (b:=2) h2 w
  have h2':(H.set 2 (mapK encW (ins w A)))[2]?=some (mapK encW (ins w A)):=List.getElem?_set_self hl2
  have u2:=map_upd keyW (b:=2) h2' (rchW g (l.getD i (0,0)) w)
  rw [List.set_set] at u2
  have hk':(H.set 2 (mapK encW (ins w A)))[kb]?=some (.arr 3 [encW w] true 0):=by rw [List.getElem?_set_ne (by omega)]; exact hk
  have h0':(H.set 2 (mapK encW (ins w A)))[0]?=some (bG g):=by rw [List.getElem?_set_ne (by omega)]; exact h0
  have s1:=rc_g_0 g.1 g.2.1 g.2.2 (l.map encX) n H i w.1 w.2.1 w.2.2 kb 2 (y35:=v35) (ix69 hn) h1 (g72 hk) u1
  have ld0:loadV Tp (H.set 2 (mapK encW (ins w A))) 3 (.ptr kb 0 0 1)=some (.int .i64 w.1):=load_cell (b:=kb) (off:=0) (cs:=[.int .i64 w.1,.int .i64 w.2.1,.int .i64 w.2.2]) hk' rfl rfl a3 i3 rfl
  have ldG:loadV Tp (H.set 2 (mapK encW (ins w A))) 66 (.ptr 0 0 0 1)=some (encG g):=load_agg (b:=0) h0' rfl rfl a66 z66
  have ldS:loadV Tp (H.set 2 (mapK encW (ins w A))) 64 (.ptr kb 0 1 1)=some (encX w.2):=by
    have e:loadV Tp (H.set 2 (mapK encW (ins w A))) 64 (.ptr kb 0 1 1)=partV Tp 64 [.int .i64 w.1,.int .i64 w.2.1,.int .i64 w.2.2] 1:=by
      simp only [loadV,hk',List.length_cons,List.length_nil,if_true]
      show partV Tp 64 (cellsOf (encW w)) 1=_
      simp only [encW,cellsOf]
    rw [e]
    show _=_
    kernel_rfl
  have hsame:sameH (H.set 2 (mapK encW (ins w A))) (H.set 2 (mapK encW (ins w A)))=true:=by
    rw [sameH_iff] at hs ⊢
    intro B hB
    rcases List.mem_or_eq_of_mem_set hB with h | rfl
    · exact hs B h
    · exact same_mapK _
  have hw1:IntKind.i64.wrap (w.1+1)=w.1+1:=wrap_id (by omega) (by omega)
  have s2:=rc_h_0 g.1 g.2.1 g.2.2 (l.map encX) n (H.set 2 (mapK encW (ins w A))) i w.1 w.2.1 w.2.2 0 0 kb 2 (y35:=v35) (H0:=H.set 2 (mapK encW (ins (rchW g (l.getD i (0,0)) w) (ins w A)))) (ix69 hn) (h1b _) ld0 ldG ldS (gX hi) (add_at (pol':=polR) (by kernel_rfl) hg hw hx _)
    (by rw [hw1]; exact u2) (by simp only [recL,ld0,h1b,Option.map,hsame,same,beq_self_eq_true,Bool.and_self])
  exact sq s1 s2
end
end Go.Proofs.Ytaibmipamkaljaa
end
section
open Go Go.HL
namespace Go.Proofs.Ytaibmipamkaljaa
open Go.Proofs.Try renaming prog → Tp
open Go.HL.HV renaming undef → Ud
section
variable {g:Gr} {l:List El} {n:Nat}
def ksI49:List Nat:=[0,1,2,4,5,6,35]
abbrev rcI (g:Gr) (l:List El) (n:Nat) (v6 v35:HV):Env:=[(0,encG g),(1,.imm .arg 2 (l.map encX)),(2,.ptr 0 0 0 1),(4,.imm .lit 1 []),(5,.sl 1 0 n (some n) n 1),(6,v6),(35,v35)]
def opAt (ops:Array Oper) (i:Nat):Oper:=ops.toList.getD i default
theorem mx4 {els:List HV} {A:List Wt} {B':Blk} {w:Wt} (hB:B'.mx=0):gc 4 4 [bG g,rwB els 3,mapK encW A,B',.arr 3 [encW w] true 0]=[bG g,rwB els 3,mapK encW A,B']:=by
  unfold gc
  have:mxs [bG g,rwB els 3,mapK encW A,B',.arr 3 [encW w] true 0]=3:=by
    show max 0 (max 3 (max 0 (max B'.mx (max 0 0))))=3
    rw [hB]; rfl
  rw [this]
  rfl
theorem bndI (v:Int):bndE (rcI g l n (.int .i64 v) (.ptr 3 0 0 0)) ≤ 4:=by simp [rcI,bndE,bnd,bndL,encG]
theorem rc_inner (hg:grOk g) {i:Nat} (hi:i < l.length) (hl:∀ x ∈ l,elOk g x) (hll:l.length ≤ 1000) {els:List HV} (hn:els.length=n) (hin:i+1 < n) {K:List Wt} (hK:∀ w ∈ K,elOk g w.2∧0 ≤ w.1∧w.1 ≤ 2000) (he1:els[i]?=some (.map 2)) (he2:els[i+1]?=some (encM K)) (hsm:∀ v ∈ els,same v v=true) :
    Trip Tp Try.f49.ntmps (sub [1,1,1,0,1,0,0,1,0,0,1] B49) (rcE g l n (.int .i64 (i:Int)) Ud Ud) [bG g,rwB els 3,mapK encW ([]:List Wt)]
      (fun x e H=>x=.normal∧∃ A Bk,A.Perm (rchStep g (l.getD i (0,0)) K)∧Bk.mx=0∧restr (polR.keys 49) e=rcE g l n (.int .i64 (i:Int)) Ud (.ptr 3 0 0 0)∧H=[bG g,rwB els 3,mapK encW A,Bk]):=by
  have hc:sub [1,1,1,0,1,0,0,1,0,0,1] B49=.seq (.region 7 (regOps C7) false) (.block 2 (.loop (.seq (.region 8 (regOps C8) false) (.seq (.cond (.tmp 37) .skip (.exit 2)) (.block 3 (.seq (.region 9 (regOps C9) false) (sub [1,1,1,0,1,0,0,1,0,0,1,1,0,0,1,1,0,1] B49))))))):=by kernel_rfl
  rw [hc]
  have hld:∀ (X Y:Heap) ,loadV Tp (bG g :: rwB els 3 :: X) 91 (.ptr 1 i 0 n)=some (.map 2):=fun X _=>load_elem (b:=1) (els:=els) rfl hn.symm he1 rfl a91 i91
  have hld2:loadV Tp [bG g,rwB els 3,mapK encW ([]:List Wt)] 91 (.ptr 1 (i+1) 0 n)=some (encM K):=load_elem (b:=1) (els:=els) rfl hn.symm he2 rfl a91 i91
  refine Trip.range (pol:=polR) (f:=49) (k:=1) (it:=35) (tm:=34) (tn:=36) (tb:=37) (te:=38) (T:=91) (kt:=72) (et:=4) (oR:=opAt (regOps C7) 5) (oN:=opAt (regOps C8) 0) (oX:=opAt (regOps C8) 1) (oE:=opAt (regOps C9) 0) (pre:=(regOps C7).toList.take 5) (os:=(regOps C9).toList.drop 1)
    (g:=.own) (kl:=K.map encW) (vl:=K.map fun _=>.bool true) (asgA:=[]) (asg2:=[]) ksI49
    (I:=fun S Bk e H=>e=rcI g l n (.int .i64 (i:Int)) (.ptr 3 0 0 0)∧H=[bG g,rwB els 3,mapK encW (rchStep g (l.getD i (0,0)) (S.map fun j=>K.getD j (0,0,0))),Bk]∧Bk.mx=0∧sameH [Bk] [Bk]=true)
    soundR (by kernel_rfl) (by kernel_rfl) (by kernel_rfl) (by kernel_rfl) (by kernel_rfl) (by kernel_rfl) (by kernel_rfl) (by kernel_rfl) (by kernel_rfl) (by kernel_rfl) (by kernel_rfl) (by kernel_rfl) (by kernel_rfl) (by kernel_rfl) (by kernel_rfl) (by kernel_rfl) (by decide)
    (by kernel_rfl) (by kernel_rfl) (by kernel_rfl) (pre_in Ud Ud (wrap_succ (by omega)) (ix69 hin) hld2) rfl ?_ ?_ ?_ ?_
  · intro Bk hB hS
    exact ⟨rfl,rfl,hB,hS⟩
  · rintro S Bk e H' ⟨rfl,rfl,_,_⟩
    exact ⟨rfl,rfl⟩
  · rintro S Bk e H' j kv vv ⟨rfl,rfl,hB,hS⟩ hj hjS hnd hkv hvv B' hB' hS'
    rw [List.length_map] at hj
    have hw:K[j]=K.getD j (0,0,0):=by simp [List.getD,List.getElem?_eq_getElem hj]
    have ekv:kv=encW (K.getD j (0,0,0)):=by
      rw [List.getElem?_map,List.getElem?_eq_getElem hj] at hkv
      rw [← hw]; exact (Option.some.inj hkv).symm
    have evv:vv=.bool true:=by
      rw [List.getElem?_map,List.getElem?_eq_getElem hj] at hvv
      exact (Option.some.inj hvv).symm
    subst ekv; subst evv
    have hKw:=hK _ (List.getElem_mem hj)
    rw [hw] at hKw
    generalize hww:K.getD j (0,0,0)=w at *
    refine ⟨_,_,box_in _ _ w,?_⟩
    have hround:=rc_round (g:=g) (l:=l) (n:=n) (i:=i) hg hi hl hll (w:=w) hKw.1 ⟨hKw.2.1,hKw.2.2⟩ (H:=[bG g,rwB els 3,mapK encW (rchStep g (l.getD i (0,0)) (S.map fun j=>K.getD j (0,0,0))),B',.arr 3 [encW w] true 0]) (A:=rchStep g (l.getD i (0,0)) (S.map fun j=>K.getD j (0,0,0))) (v35:=.ptr 3 0 0 0) (by omega)
      rfl (hld _ []) rfl (fun X=>hld _ []) (kb:=4) rfl (by omega) (by
        refine sameH_cons (by simp [sameH,sameL,same,encG]) (sameH_cons (same_arr hsm) (sameH_cons (same_mapK _) (sameH_cons hS' (by simp [sameH,sameL,same_encW]))))
        )
    refine Trip.restrict (polR.keys 49) ?_
    have hrun:=Trip.run (nt:=Try.f49.ntmps) follows_mixed soundR (by kernel_rfl) hround
    refine Trip.mono hrun ?_
    rintro x e2 H2 ⟨rfl,rfl,rfl⟩
    refine ⟨rfl,ksI49,4,bndI (g:=g) (l:=l) (n:=n) (i:Int),?_⟩
    refine ⟨rfl,?_,hB',hS'⟩
    show gc 4 4 [bG g,rwB els 3,mapK encW _,B',.arr 3 [encW w] true 0]=_
    rw [mx4 hB',List.map_append]
    simp only [List.map_cons,List.map_nil,hww,rchStep,List.foldl_append,List.foldl_cons,List.foldl_nil]
  · rintro S Bk e H' ⟨rfl,rfl,hB,hS⟩ hall hlt hnd
    refine ⟨rfl,_,Bk,?_,hB,rfl,rfl⟩
    refine step_perm fun w=>?_
    constructor
    · intro hw
      obtain ⟨j,hj,rfl⟩:=List.mem_map.1 hw
      have c:j < K.length:=by simpa using hlt j hj
      have:K.getD j (0,0,0)=K[j]:=by simp [List.getD,List.getElem?_eq_getElem c]
      rw [this]; exact List.getElem_mem c
    · intro hw
      obtain ⟨j,hj,rfl⟩:=List.getElem_of_mem hw
      refine List.mem_map.2 ⟨j,hall j (by simpa using hj),by simp [List.getD,List.getElem?_eq_getElem hj]⟩
end
end Go.Proofs.Ytaibmipamkaljaa
end
section
open Go Go.HL
namespace Go.Proofs.Ytaibmipamkaljaa
open Go.Proofs.Try renaming prog → Tp
open Go.HL.HV renaming undef → Ud
section
variable {g:Gr} {l:List El}
abbrev rcJ (g:Gr) (l:List El) (v6:HV):Env:=[(0,encG g),(1,.imm .arg 2 (l.map encX)),(2,.ptr 0 0 0 1),(4,.imm .lit 1 []),(5,.sl 1 0 (l.length+1) (some (l.length+1)) (l.length+1) 1),(6,v6)]
def ksJ:List Nat:=[0,1,2,4,5,6]
theorem bndJ (v:Int):bndE (rcJ g l (.int .i64 v)) ≤ 2:=by simp [rcJ,bndE,bnd,bndL,encG]
theorem bndL_M:∀ (T:List (List Wt)),bndL (T.map encM)=0
  | []=>rfl
  | K :: T=>by simp [bndL,bndL_M T,encM,bnd]
theorem bndL_nil:∀ (k:Nat),bndL (List.replicate k .nilmap)=0
  | 0=>rfl
  | k+1=>by simp [List.replicate_succ,bndL,bndL_nil k,bnd]
theorem bndL_app:∀ (a b:List HV),bndL (a ++ b)=max (bndL a) (bndL b)
  | [],b=>by simp [bndL]
  | x :: a,b=>by simp only [List.cons_append,bndL,bndL_app a b]; omega
theorem els_set (k:Nat) (L:List HV) (v:HV):(List.replicate (k+1) HV.nilmap ++ L).set k v=List.replicate k .nilmap ++ v :: L:=by
  induction k with
  | zero=>rfl
  | succ k ih=>simp only [List.replicate_succ,List.cons_append,List.set_cons_succ] at ih ⊢; rw [ih]
theorem els_at (k:Nat) (L:List HV) (v:HV):(List.replicate k HV.nilmap ++ v :: L)[k]?=some v∧∀ u,L[0]?=some u → (List.replicate k HV.nilmap ++ v :: L)[k+1]?=some u:=by
  refine ⟨?_,fun u hu=>?_⟩
  · rw [List.getElem?_append_right (by simp)]; simp
  · rw [List.getElem?_append_right (by simp)]; simpa using hu
theorem elsR_len {k:Nat} (hk:k ≤ l.length):(elsR g l k).length=l.length+1:=by
  simp [elsR,rch_len]; omega
theorem elsR_step {p:Nat} (hp:p < l.length):elsR g l p=List.replicate p .nilmap ++ encM (rchStep g (l.getD p (0,0)) ((rchT g (l.drop (p+1))).headD [])) :: (rchT g (l.drop (p+1))).map encM:=by
  have e:l.getD p (0,0)=l[p]:=by simp [List.getD,List.getElem?_eq_getElem hp]
  unfold elsR
  rw [List.drop_eq_getElem_cons hp,e]
  rfl
theorem conv_end {p:Nat} (hp:p < l.length) (v:Int) {A:List Wt} {Bk:Blk} (hA:A.Perm (rchStep g (l.getD p (0,0)) ((rchT g (l.drop (p+1))).headD []))) (hB:Bk.mx=0) :
    Conv Tp 2 (rcE g l (l.length+1) (.int .i64 v) Ud (.ptr 3 0 0 0)) [bG g,rwB ((elsR g l (p+1)).set p (.map 2)) 3,mapK encW A,Bk] (rcJ g l (.int .i64 v)) [bG g,rwB (elsR g l p) 0]:=by
  have e1:restr ksJ (rcE g l (l.length+1) (.int .i64 v) Ud (.ptr 3 0 0 0))=rcJ g l (.int .i64 v):=rfl
  have c1:Conv Tp 2 (rcE g l (l.length+1) (.int .i64 v) Ud (.ptr 3 0 0 0)) [bG g,rwB ((elsR g l (p+1)).set p (.map 2)) 3,mapK encW A,Bk] (rcJ g l (.int .i64 v)) [bG g,rwB ((elsR g l (p+1)).set p (.map 2)) 3,mapK encW A,Bk]:=by
    rw [← e1]; exact Conv.restr ksJ
  have e2:gc 2 2 [bG g,rwB ((elsR g l (p+1)).set p (.map 2)) 3,mapK encW A,Bk]=[bG g,rwB ((elsR g l (p+1)).set p (.map 2)) 3] ++ [.map (A.map encW) (A.map fun _=>.bool true) 0]:=by
    unfold gc
    have:mxs [bG g,rwB ((elsR g l (p+1)).set p (.map 2)) 3,mapK encW A,Bk]=3:=by
      show max 0 (max 3 (max 0 (max Bk.mx 0)))=3
      rw [hB]; rfl
    rw [this]
    rfl
  have c2:=Conv.gc (P:=Tp) (n:=2) (e:=rcJ g l (.int .i64 v)) (H:=[bG g,rwB ((elsR g l (p+1)).set p (.map 2)) 3,mapK encW A,Bk]) 2 (bndJ v)
  rw [e2] at c2
  have eset:(elsR g l (p+1)).set p (.map 2)=List.replicate p .nilmap ++ .map 2 :: (rchT g (l.drop (p+1))).map encM:=els_set _ _ _
  have hz:∀ X:List Wt,(X.map encW).zip (X.map fun _=>HV.bool true)=X.map fun w=>(encW w,HV.bool true):=by
    intro X; induction X with
    | nil=>rfl
    | cons x X ih=>simp [ih]
  have hlen:A.length=(rchStep g (l.getD p (0,0)) ((rchT g (l.drop (p+1))).headD [])).length:=hA.length_eq
  have c3:=Conv.sealM (P:=Tp) (n:=2) (e:=rcJ g l (.int .i64 v)) (H0:=[bG g,rwB ((elsR g l (p+1)).set p (.map 2)) 3]) (ks:=A.map encW) (vs:=A.map fun _=>.bool true) (mx:=0) (mb:=2)
    (ks':=(rchStep g (l.getD p (0,0)) ((rchT g (l.drop (p+1))).headD [])).map encW) (vs':=(rchStep g (l.getD p (0,0)) ((rchT g (l.drop (p+1))).headD [])).map fun _=>.bool true)
    rfl (Nat.le_refl _) (fun v hv=>by obtain ⟨_,_,rfl⟩:=List.mem_map.1 hv; rfl) (by rw [hz,hz]; exact (hA.symm).map _) (by simp [hlen]) (by simp [hlen])
    (fun q hq=>.inr (by
      simp only [rcJ,List.mem_cons,List.not_mem_nil,or_false] at hq
      rcases hq with rfl | rfl | rfl | rfl | rfl | rfl <;> simp [bnd,bndL,encG]))
    (fun b x hx=>by
      match b,hx with
      | 0,hx=>cases hx; intro v hv; rw [List.mem_singleton] at hv; subst hv; exact .inr (by simp [encG,bnd,bndL])
      | 1,hx =>
        cases hx
        intro v hv
        rw [eset] at hv
        rcases List.mem_append.1 hv with h | h
        · rw [List.mem_replicate] at h; rw [h.2]; exact .inr (by simp [bnd])
        · rcases List.mem_cons.1 h with rfl | h
          · exact .inl rfl
          · obtain ⟨K,_,rfl⟩:=List.mem_map.1 h
            exact .inr (by simp [encM,bnd])
      | b+2,hx=>simp at hx)
  refine (c1.trans c2).trans ?_
  have e3:([bG g,rwB ((elsR g l (p+1)).set p (.map 2)) 3].map (sealB 2 (encM (rchStep g (l.getD p (0,0)) ((rchT g (l.drop (p+1))).headD [])))))=[bG g,rwB (elsR g l p) 0]:=by
    have h1:((elsR g l (p+1)).set p (.map 2)).map (sealV 2 (encM (rchStep g (l.getD p (0,0)) ((rchT g (l.drop (p+1))).headD []))))=elsR g l p:=by
      rw [eset,elsR_step hp,List.map_append,List.map_cons,List.map_replicate,List.map_map]
      congr 1
    have h2:bndL (elsR g l p)=0:=by unfold elsR; rw [bndL_app,bndL_nil,bndL_M]; rfl
    simp only [List.map_cons,List.map_nil,sealB,h1,h2]
    rfl
  rw [show HV.imap G.own ((rchStep g (l.getD p (0,0)) ((rchT g (l.drop (p+1))).headD [])).map encW) ((rchStep g (l.getD p (0,0)) ((rchT g (l.drop (p+1))).headD [])).map fun _=>.bool true)=encM (rchStep g (l.getD p (0,0)) ((rchT g (l.drop (p+1))).headD [])) from rfl,e3] at c3
  exact c3
theorem rc_body (hg:grOk g) (hl:∀ x ∈ l,elOk g x) (hll:l.length ≤ 1000) {p:Nat} (hp:p < l.length) :
    Trip Tp Try.f49.ntmps (sub [1,1,1,0,1,0,0] B49) (rcJ g l (.int .i64 (p:Int))) [bG g,rwB (elsR g l (p+1)) 0] (fun x e H=>x=.normal∧e=rcJ g l (.int .i64 (IntKind.i64.wrap ((p:Int) - 1)))∧H=[bG g,rwB (elsR g l p) 0]):=by
  have hlen:=elsR_len (g:=g) (l:=l) (k:=p+1) (by omega)
  have eset:(elsR g l (p+1)).set p (.map 2)=List.replicate p .nilmap ++ .map 2 :: (rchT g (l.drop (p+1))).map encM:=els_set _ _ _
  have hold:(elsR g l (p+1))[p]?=some .nilmap:=by
    unfold elsR
    rw [List.getElem?_append_left (by simp),List.getElem?_replicate,if_pos (by omega)]
  refine Trip.conv (Q:=fun x e H=>x=.normal∧∃ A Bk,A.Perm (rchStep g (l.getD p (0,0)) ((rchT g (l.drop (p+1))).headD []))∧Bk.mx=0∧e=rcE g l (l.length+1) (.int .i64 (IntKind.i64.wrap ((p:Int) - 1))) Ud (.ptr 3 0 0 0)∧H=[bG g,rwB ((elsR g l (p+1)).set p (.map 2)) 3,mapK encW A,Bk]) ?_ (by
    rintro x e' H' ⟨rfl,A,Bk,hA,hB,rfl,rfl⟩
    exact ⟨_,_,conv_end hp _ hA hB,rfl,rfl,rfl⟩)
  refine Trip.restrict (polR.keys 49) ?_
  have s1:=rc_e_0 g.1 g.2.1 g.2.2 (l.map encX) (l.length+1) [bG g,rwB (elsR g l (p+1)) 0] (p:Int) (y7:=Ud) (y35:=Ud) (by omega)
  refine Trip.seqR (ca:=sub [1,1,1,0,1,0,0,0] B49) (cb:=sub [1,1,1,0,1,0,0,1] B49) s1 follows_mixed soundR (by kernel_rfl) (by kernel_rfl) ?_
  have hc:sub [1,1,1,0,1,0,0,1] B49=.seq (.block 1 (.seq (sub [1,1,1,0,1,0,0,1,0,0,0] B49) (sub [1,1,1,0,1,0,0,1,0,0,1] B49))) (sub [1,1,1,0,1,0,0,1,1] B49):=by kernel_rfl
  rw [hc]
  have hst:storeV Tp [bG g,rwB (elsR g l (p+1)) 0,.map [] [] 0] 91 (.ptr 1 p 0 (l.length+1)) (.map 2)=some [bG g,rwB ((elsR g l (p+1)).set p (.map 2)) 3,.map [] [] 0]:=by
    have:=st_any (H:=[bG g,rwB (elsR g l (p+1)) 0,.map [] [] 0]) (t:=91) (b:=1) (i:=p) (tot:=l.length+1) (k:=1) (mx:=0) (els:=elsR g l (p+1)) (v:=.map 2) rfl hlen.symm hold rfl (by intro cs h; cases h) z91 rfl rfl
    rw [this]; rfl
  have s2:=rc_f_0 g.1 g.2.1 g.2.2 (l.map encX) (l.length+1) [bG g,rwB (elsR g l (p+1)) 0] p (y7:=Ud) (y35:=Ud) (H0:=[bG g,rwB (elsR g l (p+1)) 0,.map [] [] 0]) rfl (ix69 (by omega)) hst
  refine Trip.seq (Q1:=fun x e H=>x=.normal∧∃ A Bk,A.Perm (rchStep g (l.getD p (0,0)) ((rchT g (l.drop (p+1))).headD []))∧Bk.mx=0∧restr (polR.keys 49) e=rcE g l (l.length+1) (.int .i64 (p:Int)) Ud (.ptr 3 0 0 0)∧H=[bG g,rwB ((elsR g l (p+1)).set p (.map 2)) 3,mapK encW A,Bk]) ?_ ?_ (fun x e1 H1 hx q=>absurd q.1 hx)
  · refine Trip.block ?_
    refine Trip.seqR s2 follows_mixed soundR (by kernel_rfl) rfl ?_
    have hK:∀ w ∈ (rchT g (l.drop (p+1))).headD [],elOk g w.2∧0 ≤ w.1∧w.1 ≤ 2000:=fun w hw=>by
      obtain ⟨h1,h2,h3⟩:=head_ok hg _ w hw
      rw [List.length_drop] at h3
      exact ⟨h1,h2,by omega⟩
    obtain ⟨a1,a2⟩:=els_at p ((rchT g (l.drop (p+1))).map encM) (.map 2)
    have hh:((rchT g (l.drop (p+1))).map encM)[0]?=some (encM ((rchT g (l.drop (p+1))).headD [])):=by rw [head_cons]; rfl
    refine (rc_inner hg hp hl hll (els:=(elsR g l (p+1)).set p (.map 2)) (n:=l.length+1) (by rw [List.length_set]; exact hlen) (by omega) (K:=(rchT g (l.drop (p+1))).headD []) hK (by rw [eset]; exact a1) (by rw [eset]; exact a2 _ hh) ?_).mono ?_
    · intro v hv
      rw [eset] at hv
      rcases List.mem_append.1 hv with h | h
      · rw [List.mem_replicate] at h; rw [h.2]; simp [same]
      · rcases List.mem_cons.1 h with rfl | h
        · simp [same]
        · obtain ⟨K,_,rfl⟩:=List.mem_map.1 h
          exact same_encM K
    · rintro x e H ⟨rfl,q⟩
      exact ⟨rfl,q⟩
  · rintro e1 H1 ⟨_,A,Bk,hA,hB,he,rfl⟩
    refine Trip.restrict (polR.keys 49) ?_
    rw [he]
    have s3:=rc_i_0 g.1 g.2.1 g.2.2 (l.map encX) (l.length+1) [bG g,rwB ((elsR g l (p+1)).set p (.map 2)) 3,mapK encW A,Bk] p (y7:=Ud) (y35:=.ptr 3 0 0 0)
    refine (Trip.run follows_mixed soundR (by kernel_rfl) s3).mono ?_
    rintro x e H ⟨rfl,rfl,rfl⟩
    exact ⟨rfl,A,Bk,hA,hB,rfl,rfl⟩
end
end Go.Proofs.Ytaibmipamkaljaa
end
section
open Go Go.HL
namespace Go.Proofs.Ytaibmipamkaljaa
open Go.Proofs.Try renaming prog → Tp
open Go.HL.HV renaming undef → Ud
theorem res49:Try.f49.results.toList=[.tmp 4]:=by kernel_rfl
def glF (f:Gr → List El → Option HV):List HV → Option HV
  | [a,.imm .arg 2 la]=>(match decG a,mapO decX la with | some g,some l=>f g l | _,_=>none)
  | _=>none
theorem glF_inv {f:Gr → List El → Option HV} {args:List HV} {res:HV} (h:glF f args=some res):∃ g l,args=[encG g,.imm .arg 2 (l.map encX)]∧f g l=some res:=by
  unfold glF at h
  split at h
  · rename_i a la
    split at h
    · rename_i g l hg hl
      exact ⟨g,l,by rw [decG_inv _ _ hg,mapO_inv decX_inv hl],h⟩
    · cases h
  · cases h
def allEl (g:Gr) (l:List El):Bool:=l.all fun x=>decide (elOk g x)
theorem allEl_iff {g:Gr} {l:List El}:allEl g l=true ↔ ∀ x ∈ l,elOk g x:=by simp [allEl]
def reached49:List HV → Option HV:=glF fun g l=>if grOk g∧allEl g l=true∧l.length ≤ 1000 then some (.own 1 ((rchT g l).map encM)) else none
theorem frz_M {H:Heap} {no:List Nat} (K:List Wt):frz H no 4 (encM K)=some (encM K):=by
  have hk:∀ (K:List Wt),resPL (K.map encW)=true:=by
    intro K; induction K with
    | nil=>rfl
    | cons w K ih=>simp [resPL,ih,encW,resP]
  have hv:∀ (K:List Wt),resPL (K.map fun _=>HV.bool true)=true:=by
    intro K; induction K with
    | nil=>rfl
    | cons w K ih=>simp [resPL,resP] at ih ⊢; exact ih
  have:resP (encM K)=true:=by simp only [encM,resP,hk K,hv K]; rfl
  show (if resP (encM K) then some (encM K) else none)=_
  rw [this]; rfl
theorem reached_ok:PrimOk Tp 49 reached49:=by
  refine primOk_trip (fn:=Try.f49) (cd:=B49) (deep:=false) (by kernel_rfl) (by kernel_rfl) ?_
  intro args res h
  obtain ⟨g,l,rfl,hq⟩:=glF_inv h
  clear h
  split at hq
  case isFalse=>cases hq
  rename_i hd
  cases hq
  obtain ⟨hg,hl,hll⟩:=hd
  rw [allEl_iff] at hl
  have a:=rc_a_0 g.1 g.2.1 g.2.2 (l.map encX)
  have mk:=makeV_ok (P:=Tp) (H:=[bG g]) (t:=69) (e:=91) (k:=1) (bt:=8) (zv:=.nilmap) (n:=((l.length+1:Nat):Int)) u69 info91 (by simp [cellsOf,cellV]) (by simp [cellsOf]) (by omega) (by omega) (by simp only [roomMax]; omega)
  rw [Int.toNat_natCast] at mk
  have ew:IntKind.i64.wrap (((l.map encX).length:Int)+1)=((l.length+1:Nat):Int):=by rw [List.length_map]; exact wrap_succ (by omega)
  have b:=rc_b_0 g.1 g.2.1 g.2.2 (l.map encX) (l.length+1) (y5:=Ud) (y6:=Ud) (y7:=Ud) (y35:=Ud) (by rw [ew]; exact mk)
  have up:=map_upd keyW (H:=[bG g,rwB (List.replicate (l.length+1) .nilmap) 0,mapK encW []]) (b:=2) rfl (0,0,0)
  have hset:(List.replicate (l.length+1) HV.nilmap).set l.length (.map 2)=List.replicate l.length .nilmap ++ [.map 2]:=by
    have:=els_set l.length [] (.map 2)
    rwa [List.append_nil] at this
  have hst:storeV Tp [bG g,rwB (List.replicate (l.length+1) .nilmap) 0,mapK encW [(0,0,0)]] 91 (.ptr 1 l.length 0 (l.length+1)) (.map 2)=some [bG g,rwB (List.replicate l.length .nilmap ++ [.map 2]) 3,mapK encW [(0,0,0)]]:=by
    have:=st_any (H:=[bG g,rwB (List.replicate (l.length+1) .nilmap) 0,mapK encW [(0,0,0)]]) (t:=91) (b:=1) (i:=l.length) (tot:=l.length+1) (k:=1) (mx:=0) (els:=List.replicate (l.length+1) .nilmap) (v:=.map 2) (old:=.nilmap) rfl (by simp) (by rw [List.getElem?_replicate,if_pos (by omega)]) rfl (by intro cs h; cases h) z91 rfl rfl
    rw [this,hset]; rfl
  have c:=rc_c_0 g.1 g.2.1 g.2.2 (l.map encX) (l.length+1) [bG g,rwB (List.replicate (l.length+1) .nilmap) 0] (y6:=Ud) (y7:=Ud) (y35:=Ud) (H0:=[bG g,rwB (List.replicate (l.length+1) .nilmap) 0,mapK encW []]) rfl up
    (by rw [List.length_map]; exact ix69 (by omega)) (by rw [List.length_map]; exact hst)
  have ab:RunsTo Tp polR 49 (sub [0] B49) _ _ _ _ _ _:=a
  refine Trip.seqR (cd:=B49) (ca:=sub [0] B49) (cb:=sub [1] B49) a follows_mixed soundR (by kernel_rfl) (by kernel_rfl) ?_
  refine Trip.seqR (cd:=sub [1] B49) (ca:=sub [1,0] B49) (cb:=sub [1,1] B49) b follows_mixed soundR (by kernel_rfl) (by kernel_rfl) ?_
  have hc:sub [1,1] B49=.seq (sub [1,1,0] B49) (.seq (.seq (sub [1,1,1,0,0] B49) (.block 0 (.loop (sub [1,1,1,0,1,0,0] B49)))) (sub [1,1,1,1] B49)):=by kernel_rfl
  rw [hc]
  -- the map of the end,made read-only
  have hc2:Trip Tp Try.f49.ntmps (sub [1,1,0] B49) (rcE g l (l.length+1) Ud Ud Ud) [bG g,rwB (List.replicate (l.length+1) .nilmap) 0] (fun x e H=>x=.normal∧e=rcE g l (l.length+1) Ud Ud Ud∧H=[bG g,rwB (elsR g l l.length) 0]):=by
    refine Trip.conv (Trip.run follows_mixed soundR (by kernel_rfl) c) ?_
    rintro x e H ⟨rfl,rfl,rfl⟩
    refine ⟨_,_,Conv.sealM (P:=Tp) (n:=2) (H0:=[bG g,rwB (List.replicate l.length .nilmap ++ [.map 2]) 3]) (ks:=([(0,0,0)]:List Wt).map encW) (vs:=([(0,0,0)]:List Wt).map fun _=>.bool true) (ks':=([(0,0,0)]:List Wt).map encW) (vs':=([(0,0,0)]:List Wt).map fun _=>.bool true) (mx:=0) (mb:=2)
      rfl (Nat.le_refl _) (fun v hv=>by simp at hv; subst hv; rfl) (.refl _) rfl rfl ?_ ?_,rfl,?_,?_⟩
    · intro q hq
      refine .inr ?_
      simp only [List.mem_cons,List.not_mem_nil,or_false] at hq
      rcases hq with rfl | rfl | rfl | rfl | rfl | rfl | rfl | rfl <;> simp [bnd,bndL]
    · intro b x hx
      match b,hx with
      | 0,hx=>cases hx; intro v hv; rw [List.mem_singleton] at hv; subst hv; exact .inr (by simp [encG,bnd,bndL])
      | 1,hx =>
        cases hx
        intro v hv
        rcases List.mem_append.1 hv with h | h
        · rw [List.mem_replicate] at h; rw [h.2]; exact .inr (by simp [bnd])
        · rw [List.mem_singleton] at h; exact .inl h
      | b+2,hx=>simp at hx
    · rfl
    · have h1:(List.replicate l.length HV.nilmap ++ [HV.map 2]).map (sealV 2 (encM [(0,0,0)]))=elsR g l l.length:=by
        unfold elsR
        rw [List.drop_length,List.map_append,List.map_replicate]
        rfl
      have h2:bndL (elsR g l l.length)=0:=by unfold elsR; rw [bndL_app,bndL_nil,bndL_M]; rfl
      simp only [List.map_cons,List.map_nil,sealB]
      rw [show HV.imap G.own [encW (0,0,0)] [HV.bool true]=encM [(0,0,0)] from rfl,h1,h2]
      rfl
  refine Trip.seq hc2 ?_ (fun x e1 H1 hx q=>absurd q.1 hx)
  rintro e1 H1 ⟨_,rfl,rfl⟩
  have d:=rc_d_0 g.1 g.2.1 g.2.2 (l.map encX) (l.length+1) [bG g,rwB (elsR g l l.length) 0] (y6:=Ud) (y7:=Ud) (y35:=Ud)
  have ewd:IntKind.i64.wrap (((l.map encX).length:Int) - 1)=(l.length:Int) - 1:=by rw [List.length_map]; exact wrap_id (by omega) (by omega)
  rw [ewd] at d
  refine Trip.seq (Q1:=fun x e H=>x=.normal∧e=rcE g l (l.length+1) (.int .i64 (-1)) Ud Ud∧H=[bG g,rwB (elsR g l 0) 0]) ?_ ?_ (fun x e1 H1 hx q=>absurd q.1 hx)
  · refine Trip.seqR d follows_mixed soundR (by kernel_rfl) rfl ?_
    refine Trip.block ?_
    refine Trip.restrict ksJ ?_
    refine Trip.loop (I:=fun k e H=>k ≤ l.length∧e=rcJ g l (.int .i64 ((k:Int) - 1))∧H=[bG g,rwB (elsR g l k) 0]) ?_ (n:=l.length) ⟨Nat.le_refl _,rfl,rfl⟩
    rintro k e H ⟨hk,rfl,rfl⟩
    cases k with
    | zero =>
      have s:=rc_e_1 g.1 g.2.1 g.2.2 (l.map encX) (l.length+1) [bG g,rwB (elsR g l 0) 0] (-1) (y7:=Ud) (y35:=Ud) (by omega)
      have hcb:sub [1,1,1,0,1,0,0] B49=.seq (sub [1,1,1,0,1,0,0,0] B49) (sub [1,1,1,0,1,0,0,1] B49):=by kernel_rfl
      rw [hcb]
      refine Trip.restrict (polR.keys 49) ?_
      refine Trip.seq (Trip.run follows_mixed soundR (by kernel_rfl) s) (fun e1 H1 q=>absurd q.1 (by simp)) ?_
      rintro x e1 H1 _ ⟨rfl,rfl,rfl⟩
      exact ⟨rfl,rfl,rfl⟩
    | succ p =>
      have hb:=rc_body (g:=g) (l:=l) hg hl hll (p:=p) (by omega)
      rw [show (((p+1:Nat):Int) - 1)=(p:Int) by omega]
      refine hb.mono ?_
      rintro x e H ⟨rfl,rfl,rfl⟩
      refine ⟨p,ksJ,2,by omega,bndJ _,⟨by omega,?_,?_⟩⟩
      · rw [wrap_id (by omega) (by omega)]
        rfl
      · unfold gc
        exact List.take_of_length_le (by simp only [List.length_cons,List.length_nil]; omega)
  · rintro e1 H1 ⟨_,rfl,rfl⟩
    have j:=rc_j_0 g.1 g.2.1 g.2.2 (l.map encX) (l.length+1) [bG g,rwB (elsR g l 0) 0] (y6:=.int .i64 (-1)) (y7:=Ud) (y35:=Ud)
    refine (Trip.run follows_mixed soundR (by kernel_rfl) j).mono ?_
    rintro x e H ⟨rfl,rfl,rfl⟩
    refine ⟨by simp,.sl 1 0 (l.length+1) (some (l.length+1)) (l.length+1) 1,by simp only [resultsV,res49]; rfl,?_⟩
    have e0:elsR g l 0=(rchT g l).map encM:=by simp [elsR]
    have hr:=resCell_sl (H:=[bG g,rwB ((rchT g l).map encM) 0]) (no:=[1]) (b:=1) (k:=1) (m:=l.length+1) (cap:=some (l.length+1)) (els:=(rchT g l).map encM) rfl (by simp [rch_len]) (mapO_self frz_M _)
    have ho:ownedAll [bG g,rwB ((rchT g l).map encM) 0] false (.sl 1 0 (l.length+1) (some (l.length+1)) (l.length+1) 1)=[1]:=rfl
    rw [e0]
    simp only [toRes,ho,List.nodup_cons,List.not_mem_nil,not_false_eq_true,List.nodup_nil,and_self,if_true,resVal,hr]
end Go.Proofs.Ytaibmipamkaljaa
end
section
open Go Go.HL
namespace Go.Proofs.Ytaibmipamkaljaa
open Go.Proofs.Try renaming prog → Tp
open Go.HL.HV renaming undef → Ud
theorem CallsTo.shared {P:Program} {pol:Pol} {g:FuncId} {fn:Func} {cd:Code} {args:List HV} {x:X} {E:Env} {H H':Heap} {v:HV} (hp:pol.prim g=none) (hf:P.funcs[g]?=some fn) (hb:fn.body=some cd) (hs:pol.shared g=true)
    (hrun:RunsTo P pol g cd (args0 args) H x (pol.keys g) E H') (hres:(fn.results.toList.all fun r=>match r with | .tmp t=>(pol.keys g).contains t | .cell t _=>(pol.keys g).contains t)=true) (hx:∀ i,x ≠ .exit i) (hv:resultsV P fn E H'=some v) :
    CallsTo (P:=P) (pol:=pol) g args H v (gc H.length (bnd v) H'):=by
  obtain ⟨m,h⟩:=hrun
  refine ⟨m+1,fun k hk=>?_⟩
  obtain ⟨k,rfl⟩:∃ n',k=n'+1:=⟨k - 1,by omega⟩
  obtain ⟨e1,g1,g2⟩:=h k k (by omega) (by omega)
  subst g2
  rw [resultsV_restr hres] at hv
  simp only [callN,doCall,hp,hf,hb,hs,if_true,sharedCall,g1]
  cases x with
  | exit i=>exact absurd rfl (hx i)
  | normal=>simp only [hv]
  | ret=>simp only [hv]
theorem CallsTo.from {pol:Pol} {g:FuncId} {args:List HV} {H H':Heap} {r:HV} (h:CallsTo (P:=Tp) (pol:=pol) g args H r H'):∃ N,∀ kf,N ≤ kf → callN Tp pol (kf+1) g args H=some (r,H'):=by
  obtain ⟨m,h⟩:=h
  exact ⟨m,fun kf hk=>h (kf+1) (by omega)⟩
def partT (g:Gr):List El → Nat → Wt → List Nat
  | [],_,_=>[]
  | x :: l,i,w=>if w.1=0 then [] else if (w.1 - 1,subT g w.2 x) ∈ (rchT g l).headD [] then i :: partT g l (i+1) (w.1 - 1,subT g w.2 x) else partT g l (i+1) w
theorem sub_add {g:Gr} (hg:grOk g) {x u:El} (hx:elOk g x) (hu:elOk g u):subT g (addT g u x) x=u:=by
  obtain ⟨m0,m1,sz⟩:=g
  obtain ⟨⟨g1,g2⟩,g3,g4⟩:=hg
  obtain ⟨x0,x1⟩:=x
  obtain ⟨u0,u1⟩:=u
  obtain ⟨⟨a1,a2⟩,a3,a4⟩:=hx
  obtain ⟨⟨b1,b2⟩,b3,b4⟩:=hu
  simp only at g1 g2 g3 g4 a1 a2 a3 a4 b1 b2 b3 b4
  have key:∀ (m a b:Int),0 ≤ a → a < m → 0 ≤ b → b < m → ((b+a) % m - a+m) % m=b:=by
    intro m a b h1 h2 h3 h4
    have e:((b+a) % m - a+m) % m=(b+m) % m:=by
      rw [show (b+a) % m - a+m=(b+a) % m+(m - a) by omega,Int.emod_add_emod]
      congr 1; omega
    rw [e,Int.add_emod_right]
    exact Int.emod_eq_of_lt h3 h4
  simp only [subT,addT]
  rw [key m0 x0 u0 a1 a2 b1 b2,key m1 x1 u1 a3 a4 b3 b4]
theorem part_next {g:Gr} (hg:grOk g) {x:El} {l:List El} (hx:elOk g x) {w:Wt} (h:w ∈ (rchT g (x :: l)).headD []) :
    (w.1 - 1,subT g w.2 x) ∈ (rchT g l).headD [] ∨ w ∈ (rchT g l).headD []:=by
  have h':w ∈ rchStep g x ((rchT g l).headD []):=h
  rw [mem_step] at h'
  obtain ⟨u,h1,h2⟩:=h'
  rcases h2 with rfl | rfl
  · exact .inr h1
  · refine .inl ?_
    have ho:=(head_ok hg l u h1).1
    have:((rchW g x u).1 - 1,subT g (rchW g x u).2 x)=u:=by
      refine Prod.ext ?_ ?_
      · show u.1+1 - 1=u.1; omega
      · exact sub_add hg hx ho
    rw [this]; exact h1
end Go.Proofs.Ytaibmipamkaljaa
end
section
open Go Go.HL
namespace Go.Proofs.Ytaibmipamkaljaa
open Go.Proofs.Try renaming prog → Tp
open Go.HL.HV renaming undef → Ud
abbrev bW (w:Wt):Blk:=.arr 3 [encW w] true 0
theorem same_mapL {α:Type} {f:α → HV} (hf:∀ a,same (f a) (f a)=true) (l:List α):sameL (l.map f) (l.map f)=true:=sameL_all fun v hv=>by
  obtain ⟨k,_,rfl⟩:=List.mem_map.1 hv
  exact hf k
section
variable {g:Gr} {l:List El} {wb:Wt}
theorem ld0 {H:Heap} {b:Nat} {w:Wt} (h:H[b]?=some (bW w)):loadV Tp H 3 (.ptr b 0 0 1)=some (.int .i64 w.1):=load_cell (b:=b) (off:=0) (cs:=[.int .i64 w.1,.int .i64 w.2.1,.int .i64 w.2.2]) h rfl rfl a3 i3 rfl
end
end Go.Proofs.Ytaibmipamkaljaa
end
section
open Go Go.HL
namespace Go.Proofs.Ytaibmipamkaljaa
def partI (g:Gr) (l:List El) (w:Wt):List Int:=(partT g l 0 w).map fun q=>((q:Nat):Int)
end Go.Proofs.Ytaibmipamkaljaa
end
section
open Go Go.HL
namespace Go.Proofs.Ytaibmipamkaljaa
def elemsT (g:Gr) (R:List (List Int)):Option (List El):=if R.length ≤ 60∧(R.all fun r=>(elementT g r).2)=true then some (R.map fun r=>(elementT g r).1) else none
end Go.Proofs.Ytaibmipamkaljaa
end
section
open Go Go.HL
namespace Go.Proofs.Ytaibmipamkaljaa
def shT (g:Gr) (l:List El) (t:El):Nat → Nat → Option (List Int)
  | 0,_=>none
  | f+1,j=>if ((j:Int),t) ∈ (rchT g l).headD [] then some (partI g l ((j:Int),t)) else shT g l t f (j+1)
end Go.Proofs.Ytaibmipamkaljaa
end
section
open Go Go.HL
namespace Go.Proofs.Ytaibmipamkaljaa
def lessC (gl:List Int) (c:Int) (x:List Int):Int:=codeT gl (lessT gl c x)
def fT (gl:List Int):List (List Int) → Int → Int
  | [],c=>if c=0 then 0 else 1099511627776
  | x :: R,c=>min (fT gl R c) (1+fT gl R (lessC gl c x))
end Go.Proofs.Ytaibmipamkaljaa
end
section
open Go Go.HL
namespace Go.Proofs.Ytaibmipamkaljaa
theorem recv_li1 (l:List Int) (x:Int) (H:Heap):recv (.tuple [.own 1 (l.map encI),.int .i64 x]) H=(.tuple [.sl H.length 0 l.length none l.length 1,.int .i64 x],H ++ [bI l]):=by
  have h:recvCell (.own 1 (l.map encI)) H=(.sl H.length 0 l.length none l.length 1,H ++ [bI l]):=by
    simp only [recvCell,encI_any,List.length_map]; rfl
  simp only [recv,recvVals,recvVal,h]; rfl
def shP (r:Option (List Int)):List Int × Int:=match r with | some p=>(p,0) | none=>([],6)
theorem element_el {g:Gr} (hg:grOk g) {l:List Int} (h:(elementT g l).2=true):elOk g (elementT g l).1:=by
  match l with
  | []=>simp [elementT] at h
  | [a] =>
    simp only [elementT] at h ⊢
    split
    · rename_i c
      have:=of_decide_eq_true c.2
      exact ⟨⟨this.1,by show a < g.1; omega⟩,Int.le_refl _,by show (0:Int) < g.2.1; have:=hg.2; omega⟩
    · rename_i c; rw [if_neg c] at h; cases h
  | [a,b] =>
    simp only [elementT] at h ⊢
    split
    · rename_i c
      rw [if_pos c] at h
      have h1:=of_decide_eq_true c.2
      split
      · rename_i d
        have h2:=of_decide_eq_true d
        exact ⟨⟨h1.1,by show a < g.1; omega⟩,h2.1,by show b < g.2.1; omega⟩
      · rename_i d; rw [if_neg d] at h; cases h
    · rename_i c; rw [if_neg c] at h; cases h
  | a :: b :: c :: l=>simp [elementT] at h
def zeroT (l:List Int) (R:List (List Int)):List Int × Int :=
  if (newGroupT l).2=true then (match elemsT (newGroupT l).1 R with | some els=>shP (shT (newGroupT l).1 els (0,0) els.length 1) | none=>([],2)) else ([],2)
end Go.Proofs.Ytaibmipamkaljaa
end
section
open Go Go.HL
namespace Go.Proofs.Ytaibmipamkaljaa
open Go.Proofs.Try renaming prog → Tp
open Go.HL.HV renaming undef → Ud
theorem info3:(Tp.info? 3).map (fun i=>(i.size,i.bytes,i.zero.map ofConst))=some (1,8,some (.int .i64 0)):=by kernel_rfl
end Go.Proofs.Ytaibmipamkaljaa
end
section
open Go Go.HL
namespace Go.Proofs.Ytaibmipamkaljaa
def GrL (gl:List Int) (g:Gr) (e:Int):Prop :=
  (∃ m,gl=[m]∧g=(m,1,1)∧e=m∧2 ≤ m∧m ≤ 24) ∨ (∃ a b,gl=[a,b]∧g=(a,b,2)∧e=b∧2 ≤ a∧a ≤ 12∧2 ≤ b∧b ≤ 24∧a * b ≤ 144∧b % a=0)
theorem GrL.new {gl:List Int} {g:Gr} {e:Int} (h:GrL gl g e):newGroupT gl=(g,true):=by
  rcases h with ⟨m,rfl,rfl,rfl,h1,h2⟩ | ⟨a,b,rfl,rfl,rfl,h1,h2,h3,h4,h5,h6⟩
  · simp only [newGroupT,in_t ⟨h1,h2⟩,if_true]
  · simp only [newGroupT,in_t (a:=a) (lo:=2) (hi:=24) ⟨h1,by omega⟩,in_t ⟨h3,h4⟩,Bool.and_self,if_true,decide_eq_true h5,decide_eq_true h6]
theorem GrL.ok {gl:List Int} {g:Gr} {e:Int} (h:GrL gl g e):grOk g:=by
  rcases h with ⟨m,rfl,rfl,rfl,h1,h2⟩ | ⟨a,b,rfl,rfl,rfl,h1,h2,h3,h4,h5,h6⟩
  · exact ⟨⟨by show 1 ≤ e; omega,by show e ≤ 1000; omega⟩,by show (1:Int) ≤ 1; omega,by show (1:Int) ≤ 1000; omega⟩
  · exact ⟨⟨by show 1 ≤ a; omega,by show a ≤ 1000; omega⟩,by show 1 ≤ e; omega,by show e ≤ 1000; omega⟩
def elOf (r:List Int):El:=(r.getD 0 0,r.getD 1 0)
def rowOk (gl r:List Int):Prop:=r.length=gl.length∧∀ j,j < gl.length → 0 ≤ r.getD j 0∧r.getD j 0 < gl.getD j 0
theorem GrL.elem {gl:List Int} {g:Gr} {e:Int} (h:GrL gl g e) {r:List Int} (hr:rowOk gl r):elementT g r=(elOf r,true):=by
  obtain ⟨hl,hr⟩:=hr
  rcases h with ⟨m,rfl,rfl,rfl,h1,h2⟩ | ⟨a,b,rfl,rfl,rfl,h1,h2,h3,h4,h5,h6⟩
  · match r,hl with
    | [x],_ =>
      have k:=hr 0 (by simp)
      have k1:0 ≤ x∧x ≤ e - 1:=⟨k.1,by have:=k.2; simp at this; omega⟩
      simp only [elementT,in_t k1,and_self,if_true]; rfl
  · match r,hl with
    | [x,y],_ =>
      have k:=hr 0 (by simp)
      have q:=hr 1 (by simp)
      have k1:0 ≤ x∧x ≤ a - 1:=⟨k.1,by have:=k.2; simp at this; omega⟩
      have k2:0 ≤ y∧y ≤ e - 1:=⟨q.1,by have:=q.2; simp at this; omega⟩
      simp only [elementT,in_t k1,in_t k2,and_self,if_true]; rfl
def zeroAt (g:Gr) (x:El) (k:Nat):Prop:=((k:Int) * x.1) % g.1=0∧((k:Int) * x.2) % g.2.1=0
def mulT (g:Gr) (x:El) (k:Nat):El:=(((k:Int) * x.1) % g.1,((k:Int) * x.2) % g.2.1)
theorem mulT_zero {g:Gr} {x:El} {k:Nat}:mulT g x k=(0,0) ↔ zeroAt g x k:=by simp [mulT,zeroAt,Prod.ext_iff]
theorem mulT_succ (g:Gr) (x:El) (k:Nat):addT g (mulT g x k) x=mulT g x (k+1):=by
  simp only [addT,mulT,Int.emod_add_emod]
  congr 1 <;> · congr 1; rw [show ((k+1:Nat):Int)=(k:Int)+1 by omega,Int.add_mul]; omega
def isOrd (g:Gr) (x:El) (o:Nat):Prop:=1 ≤ o∧zeroAt g x o∧∀ k,1 ≤ k → k < o → ¬ zeroAt g x k
theorem rch_rep {g:Gr} {x:El} (hx:elOk g x):∀ (o:Nat) (w:Wt),w ∈ (rchT g (List.replicate o x)).headD [] ↔ ∃ j:Nat,j ≤ o∧w=((j:Int),mulT g x j)
  | 0,w=>by
    simp only [List.replicate,rchT,List.headD_cons,List.mem_singleton]
    have m0:mulT g x 0=(0,0):=by simp [mulT]
    constructor
    · rintro rfl; exact ⟨0,Nat.le_refl _,by rw [m0]; rfl⟩
    · rintro ⟨j,h1,rfl⟩
      have:j=0:=by omega
      subst this; rw [m0]; rfl
  | o+1,w=>by
    rw [List.replicate_succ]
    show w ∈ rchStep g x ((rchT g (List.replicate o x)).headD []) ↔ _
    rw [mem_step]
    constructor
    · rintro ⟨u,h1,h2⟩
      obtain ⟨j,h3,rfl⟩:=(rch_rep hx o u).1 h1
      rcases h2 with rfl | rfl
      · exact ⟨j,by omega,rfl⟩
      · exact ⟨j+1,by omega,by rw [rchW,mulT_succ]; rfl⟩
    · rintro ⟨j,h1,rfl⟩
      by_cases c:j ≤ o
      · exact ⟨_,(rch_rep hx o _).2 ⟨j,c,rfl⟩,.inl rfl⟩
      · obtain ⟨i,rfl⟩:∃ i,j=i+1:=⟨j - 1,by omega⟩
        exact ⟨_,(rch_rep hx o _).2 ⟨i,by omega,rfl⟩,.inr (by rw [rchW,mulT_succ]; rfl)⟩
theorem partT_len {g:Gr} (hg:grOk g):∀ (l:List El) (i:Nat) (w:Wt),(∀ x ∈ l,elOk g x) → w ∈ (rchT g l).headD [] → ((partT g l i w).length:Int)=w.1
  | [],i,w,_,h=>by simp [rchT] at h; subst h; rfl
  | x :: l,i,w,hl,h=>by
    have hx:=hl x (by simp)
    have hl':∀ y ∈ l,elOk g y:=fun y hy=>hl y (by simp [hy])
    rw [partT]
    split
    · rename_i c; rw [c]; rfl
    · split
      · rename_i c
        have:=partT_len hg l (i+1) _ hl' c
        simp only [List.length_cons]
        simp only at this
        omega
      · rename_i c
        rcases part_next hg hx h with h' | h'
        · exact absurd h' c
        · exact partT_len hg l (i+1) w hl' h'
theorem shT_eq {g:Gr} {l:List El} {t:El} {o:Nat} (h1:((o:Int),t) ∈ (rchT g l).headD []):∀ (f j:Nat),(∀ k,j ≤ k → k < o → ((k:Int),t) ∉ (rchT g l).headD []) → j ≤ o → o < j+f → shT g l t f j=some (partI g l ((o:Int),t)):=by
  intro f
  induction f with
  | zero=>intro j _ h3 h4; omega
  | succ f ih =>
    intro j h2 h3 h4
    rw [shT]
    by_cases c:j=o
    · subst c; rw [if_pos h1]
    · rw [if_neg (h2 j (Nat.le_refl _) (by omega))]
      exact ih (j+1) (fun k a b=>h2 k (by omega) b) (by omega) (by omega)
theorem GrL.zero {gl:List Int} {g:Gr} {e:Int} (h:GrL gl g e) {r:List Int} (hr:rowOk gl r) {o:Nat} (ho:isOrd g (elOf r) o) (hoe:o ≤ 60):∃ p,zeroT gl (List.replicate o r)=(p,0)∧p.length=o:=by
  have he:=h.elem hr
  have hx:elOk g (elOf r):=by have:=element_el h.ok (l:=r) (by rw [he]); rwa [he] at this
  have hes:elemsT g (List.replicate o r)=some (List.replicate o (elOf r)):=by
    unfold elemsT
    rw [if_pos ⟨by simpa using hoe,by rw [List.all_eq_true]; intro x hx; rw [(List.mem_replicate.1 hx).2,he]⟩,List.map_replicate,he]
  have hz:((o:Int),((0,0):El)) ∈ (rchT g (List.replicate o (elOf r))).headD []:=(rch_rep hx o _).2 ⟨o,Nat.le_refl _,by rw [mulT_zero.2 ho.2.1]⟩
  have hs:=shT_eq hz o 1 (fun k h1 h2 h3=>by
    obtain ⟨j,_,hj⟩:=(rch_rep hx o _).1 h3
    simp only [Prod.mk.injEq] at hj
    have:k=j:=by omega
    subst this
    exact ho.2.2 k h1 h2 (mulT_zero.1 hj.2.symm)) ho.1 (by omega)
  refine ⟨partI g (List.replicate o (elOf r)) ((o:Int),(0,0)),?_,?_⟩
  · simp only [zeroT,h.new,if_true,hes,List.length_replicate,hs,shP]
  · have:=partT_len h.ok (List.replicate o (elOf r)) 0 ((o:Int),(0,0)) (fun x hx'=>by rw [(List.mem_replicate.1 hx').2]; exact hx) hz
    simp only [partI,List.length_map]
    simp only at this
    omega
end Go.Proofs.Ytaibmipamkaljaa
end
section
open Go Go.HL
namespace Go.Proofs.Ytaibmipamkaljaa
def tE (gl:List Int) (c:Int):El:=match gl with | [_,b]=>(c / b,c % b) | _=>(c,0)
abbrev eE (gl x:List Int):El:=tE gl (codeT gl x)
abbrev els (gl:List Int) (R:List (List Int)):List El:=R.map (eE gl)
end Go.Proofs.Ytaibmipamkaljaa
end
section
open Go Go.HL
namespace Go.Proofs.Ytaibmipamkaljaa
open Go.Proofs.Try renaming prog → Tp
open Go.HL.HV renaming undef → Ud
def polAw:Pol:={ pol with shared:=fun g=>sharedT.contains g || g == 54,prim:=fun g=>if g == 49 then some reached49 else if g == 59 then some add59 else none }
set_option maxRecDepth 100000 in
theorem fns_okAw:(Tp.funcs.toList.zipIdx.all fun p=>fnOk { pol with shared:=fun g=>sharedT.contains g || g == 54 } p.2 p.1)=true:=by kernel_rfl
theorem sound_primC (F:FuncId → Option (List HV → Option HV)) (hF:∀ g f,F g=some f → PrimOk Tp g f) (n:Nat):CallSound Tp (callN Tp { pol with shared:=fun g=>sharedT.contains g || g == 54,prim:=F } n) :=
  callN_ok follows_mixed (fun g fn h=>by
    have:=fnOk_prim (pol:={ pol with shared:=fun g=>sharedT.contains g || g == 54 }) (F:=F) g fn
    rw [this]
    exact List.all_eq_true.1 fns_okAw (fn,g) (by
      rw [List.mem_zipIdx_iff_getElem?]
      simpa using h)) hF n
theorem soundAw (n:Nat):CallSound Tp (callN Tp polAw n):=sound_primC _ (fun g f h=>by
  split at h
  · rename_i hg; cases h; rw [eq_of_beq hg]; exact reached_ok
  split at h
  · rename_i hg; cases h; rw [eq_of_beq hg]; exact add_ok
  · cases h) n
set_option maxRecDepth 100000 in
theorem awake_run:callN Tp polAw 400 16 [] []=some (.bool true,[]):=by kernel_rfl
end Go.Proofs.Ytaibmipamkaljaa
end
section
open Go Go.HL
namespace Go.Proofs.Ytaibmipamkaljaa
open Go.Proofs.Try renaming prog → Tp
open Go.HL.HV renaming undef → Ud
theorem awake_prim:PrimOk Tp 16 awakeF:=by
  refine primOk_of (pol:=polAw) soundAw (by kernel_rfl) fun args res h=>?_
  match args,h with
  | [],h =>
    cases h
    exact ⟨400,_,_,false,awake_run,rfl⟩
theorem awake_at {pol':Pol} (hp:pol'.prim 16=some awakeF) (H:Heap):∀ k,callN Tp pol' (k+1) 16 [] H=some (.bool true,H):=fun k=>by
  rw [prim_call (pol:=pol') (g:=16) (F:=awakeF) hp (rs:=[]) rfl (res:=.bool true) rfl]; rfl
def argI (H:Heap) (v:HV) (l:List Int):Prop:=toArg H 6 v=some (.imm .arg 1 (l.map encI))
end Go.Proofs.Ytaibmipamkaljaa
end
section
open Go Go.HL
namespace Go.Proofs.Ytaibmipamkaljaa
open Go.Proofs.Try renaming prog → Tp
open Go.HL.HV renaming undef → Ud
theorem ints_at {pol':Pol} (hp:pol'.prim 17=some ints17) {a b:List Int} {v1 v2:HV} {H:Heap} (h1:argI H v1 a) (h2:argI H v2 b) (hl:a.length ≤ 1000) :
    ∀ k,callN Tp pol' (k+1) 17 [v1,v2] H=some (.bool (decide (a=b)),H):=fun k=>by
  have hd:mapO decI (a.map encI)=some a:=mapO_map decI_enc a
  have hd2:mapO decI (b.map encI)=some b:=mapO_map decI_enc b
  unfold argI at h1 h2
  rw [prim_call (pol:=pol') (g:=17) (F:=ints17) hp (rs:=[.imm .arg 1 (a.map encI),.imm .arg 1 (b.map encI)]) (by simp only [mapO,h1,h2]) (res:=.bool (decide (a=b))) (by simp only [ints17,llF,hd,hd2]; rw [if_pos hl])]
  rfl
end Go.Proofs.Ytaibmipamkaljaa
end
section
open Go Go.HL
namespace Go.Proofs.Ytaibmipamkaljaa
theorem same_intsL (T:List Int):sameL (T.map encI) (T.map encI)=true:=same_mapL (fun x=>by simp [encI,same]) T
def FJ (gl:List Int) (s:List (List Int)) (T:List Int) (c:Nat):Prop:=T.length=(sizeT gl).toNat∧∀ j,j < c → T.getD j 0=fT gl s (j:Int)
theorem FJ.put {gl:List Int} {s:List (List Int)} {T:List Int} {c:Nat} (h:FJ gl s T c) (hc:c < (sizeT gl).toNat):FJ gl s (T.set c (fT gl s (c:Int))) (c+1):=by
  refine ⟨by rw [List.length_set]; exact h.1,fun j hj=>?_⟩
  by_cases e:j=c
  · subst e
    simp [List.getD,List.getElem?_set,h.1,hc]
  · have:=h.2 j (by omega)
    simp only [List.getD,List.getElem?_set] at this ⊢
    rw [if_neg (fun h=>e h.symm)]; exact this
section
variable {gl:List Int} {R:List (List Int)} {xs:List Int} {ls:Int}
theorem drop_cons {α:Type} {R:List α} {i:Nat} (a:α) (h:i < R.length):R.drop i=R.getD i a :: R.drop (i+1):=by
  rw [List.drop_eq_getElem_cons h]; simp [List.getD,List.getElem?_eq_getElem h]
end
end Go.Proofs.Ytaibmipamkaljaa
end
section
open Go Go.HL
namespace Go.Proofs.Ytaibmipamkaljaa
open Go.Proofs.Try renaming prog → Tp
open Go.HL.HV renaming undef → Ud
theorem argI_sl {H:Heap} {l:List Int} {b m:Nat} (hm:l.length=m) (hb:H[b]?=some (bI l)):argI H (.sl b 0 m none m 1) l:=arg_sl hm hb
theorem list_at {pol':Pol} (hp:pol'.prim 14=some list14) {l:List Int} {v:HV} {H:Heap} (h1:argI H v l) :
    ∀ k,callN Tp pol' (k+1) 14 [v] H=some (.sl H.length 0 (l.take 110).length none (l.take 110).length 1,H ++ [bI (l.take 110)]):=fun k=>by
  have hd:mapO decI (l.map encI)=some l:=mapO_map decI_enc l
  unfold argI at h1
  rw [prim_call (pol:=pol') (g:=14) (F:=list14) hp (rs:=[.imm .arg 1 (l.map encI)]) (by simp only [mapO,h1]) (res:=.own 1 ((l.take 110).map encI)) (by simp only [list14,liF,hd]),recv_ints]
end Go.Proofs.Ytaibmipamkaljaa
end
section
open Go Go.HL
namespace Go.Proofs.Ytaibmipamkaljaa
def nan91:List HV → Option HV | [.int .i64 _]=>some (.bool false) | _=>none
def less78:List HV → Option HV | [.int .i64 x,.int .i64 y]=>some (.bool (decide (x < y))) | _=>none
def polNa:Pol:={ pol with prim:=fun g=>if g == 91 then some nan91 else none }
end Go.Proofs.Ytaibmipamkaljaa
end
section
open Go Go.HL
namespace Go.Proofs.Ytaibmipamkaljaa
set_option maxRecDepth 100000
open Go.Proofs.Try renaming prog → Tp
open Go.HL.HV renaming undef → Ud
noncomputable def B91:Code:=Try.f91.body.getD .skip
abbrev env91 (v0 v2:HV):Env:=[(0,v0),(2,v2)]
theorem nan_0 (x:Int)(g0:x=x):RT pol 91 (sub [] B91) [(0,.i x)] [] .ret (env91 (.i x) (.bool false)) [] :=
  RunsTo.hin 0 60 [⟨1,2,.bool false,[]⟩] fun kf hk=>⟨_,by kernel_rfl,(oB [] (congrArg not (decide_eq_true g0)) .nil)⟩
noncomputable def B78:Code:=Try.f78.body.getD .skip
abbrev env78 (v0 v1 v4:HV):Env:=[(0,v0),(1,v1),(4,v4)]
theorem les_0 (x y:Int)(g0:∀ kf,callN Tp polNa (kf+1) 91 [.i x] []=some (.bool false,[])) (g1:x < y):RT polNa 78 (sub [] B78) [(0,.i x),(1,.i y)] [] .ret (env78 (.i x) (.i y) (.bool true)) [] :=
  RunsTo.hin 0 60 [⟨1,1,.bool false,[]⟩,⟨1,10,.bool true,[]⟩] fun kf hk=>⟨_,by kernel_rfl,(oC (g0 kf) (oB [] (decide_eq_true g1) .nil))⟩
theorem les_1 (x y:Int)(g0:∀ kf,callN Tp polNa (kf+1) 91 [.i x] []=some (.bool false,[])) (g1:¬ (x < y)):RT polNa 78 (sub [] B78) [(0,.i x),(1,.i y)] [] .ret (env78 (.i x) (.i y) (.bool false)) [] :=
  RunsTo.hin 0 60 [⟨1,1,.bool false,[]⟩,⟨1,10,.bool false,[]⟩] fun kf hk=>⟨_,by kernel_rfl,(oC (g0 kf) (oB [] (decide_eq_false g1) .nil))⟩
end Go.Proofs.Ytaibmipamkaljaa
end
section
open Go Go.HL
namespace Go.Proofs.Ytaibmipamkaljaa
open Go.Proofs.Try renaming prog → Tp
open Go.HL.HV renaming undef → Ud
theorem res91:Try.f91.results.toList=[.tmp 2]:=by kernel_rfl
theorem res78:Try.f78.results.toList=[.tmp 4]:=by kernel_rfl
theorem nan_ok:PrimOk Tp 91 nan91:=by
  refine primOk_pure (pol:=pol) (fn:=Try.f91) (cd:=B91) follows_mixed sound (by kernel_rfl) (by kernel_rfl) (fnok pol.prim _ _ (by kernel_rfl)) (by kernel_rfl) ?_
  intro args res h
  unfold nan91 at h
  split at h
  · rename_i x
    cases h
    exact ⟨_,_,_,.bool false,nan_0 x rfl,by simp,by simp only [resultsV,res91]; rfl,rfl⟩
  · cases h
theorem soundNa (n:Nat):CallSound Tp (callN Tp polNa n):=sound_prim _ (fun g f h=>by
  split at h
  · rename_i hg; cases h; rw [eq_of_beq hg]; exact nan_ok
  · cases h) n
theorem qnan (x:Int) (H:Heap):∀ kf,callN Tp polNa (kf+1) 91 [.int .i64 x] H=some (.bool false,H):=fun kf=>by
  rw [prim_call (pol:=polNa) (g:=91) (F:=nan91) (by kernel_rfl) (rs:=[.int .i64 x]) rfl (res:=.bool false) rfl]; rfl
theorem less78_ok:PrimOk Tp 78 less78:=by
  refine primOk_pure (pol:=polNa) (fn:=Try.f78) (cd:=B78) follows_mixed soundNa (by kernel_rfl) (by kernel_rfl) (fnok polNa.prim _ _ (by kernel_rfl)) (by kernel_rfl) ?_
  intro args res h
  unfold less78 at h
  split at h
  · rename_i x y
    cases h
    by_cases c1:x < y
    · rw [decide_eq_true c1]
      exact ⟨_,_,_,.bool true,les_0 x y (qnan x []) c1,by simp,by simp only [resultsV,res78]; rfl,rfl⟩
    · rw [decide_eq_false c1]
      exact ⟨_,_,_,.bool false,les_1 x y (qnan x []) c1,by simp,by simp only [resultsV,res78]; rfl,rfl⟩
  · cases h
end Go.Proofs.Ytaibmipamkaljaa
end
section
namespace Go.HL.So
set_option linter.unusedSectionVars false
variable {α:Type} [Inhabited α]
abbrev at_ (l:List α) (i:Nat):α:=l.getD i default
def swp (l:List α) (i j:Nat):List α:=(l.set i (at_ l j)).set j (at_ l i)
theorem swp_len (l:List α) (i j:Nat):(swp l i j).length=l.length:=by simp [swp]
theorem set_at (l:List α) (i k:Nat) (v:α) (hi:i < l.length):at_ (l.set i v) k=if i=k then v else at_ l k:=by
  simp only [at_,List.getD,List.getElem?_set,hi]
  split
  · rename_i e; subst e; simp
  · rfl
theorem swp_at {l:List α} {i j:Nat} (hi:i < l.length) (hj:j < l.length) (k:Nat):at_ (swp l i j) k=if k=j then at_ l i else if k=i then at_ l j else at_ l k:=by
  unfold swp
  rw [set_at (l.set i (at_ l j)) j k (at_ l i) (by simpa using hj),set_at l i k (at_ l j) hi]
  by_cases e:j=k
  · subst e; simp
  · have e':¬ k=j:=fun h=>e h.symm
    rw [if_neg e,if_neg e']
    by_cases e2:i=k
    · subst e2; simp
    · have e2':¬ k=i:=fun h=>e2 h.symm
      rw [if_neg e2,if_neg e2']
theorem swp_perm {l:List α} {i j:Nat} (hi:i < l.length) (hj:j < l.length):(swp l i j).Perm l:=by
  have h:=Array.swap_perm (xs:=l.toArray) (i:=i) (j:=j) (by simpa using hi) (by simpa using hj)
  have h2:=h.toList
  rw [Array.toList_swap] at h2
  simpa [swp,at_,List.getD,List.getElem?_eq_getElem hi,List.getElem?_eq_getElem hj] using h2
inductive Sw (a b:Nat) (l:List α):List α → Prop
  | refl:Sw a b l l
  | step {l':List α} {i j:Nat}:Sw a b l l' → a ≤ i → i < b → a ≤ j → j < b → Sw a b l (swp l' i j)
theorem Sw.len {a b:Nat} {l l':List α} (h:Sw a b l l'):l'.length=l.length:=by
  induction h with
  | refl=>rfl
  | step h1 _ _ _ _ ih=>rw [swp_len,ih]
theorem Sw.trans {a b:Nat} {l l' l'':List α} (h:Sw a b l l') (h':Sw a b l' l''):Sw a b l l'':=by
  induction h' with
  | refl=>exact h
  | step _ h1 h2 h3 h4 ih=>exact ih.step h1 h2 h3 h4
theorem Sw.one {a b i j:Nat} {l:List α} (h1:a ≤ i) (h2:i < b) (h3:a ≤ j) (h4:j < b):Sw a b l (swp l i j):=Sw.refl.step h1 h2 h3 h4
theorem Sw.mono {a b a' b':Nat} {l l':List α} (h:Sw a b l l') (ha:a' ≤ a) (hb:b ≤ b'):Sw a' b' l l':=by
  induction h with
  | refl=>exact .refl
  | step _ h1 h2 h3 h4 ih=>exact ih.step (by omega) (by omega) (by omega) (by omega)
theorem Sw.perm {a b:Nat} {l l':List α} (h:Sw a b l l') (hb:b ≤ l.length):l'.Perm l:=by
  induction h with
  | refl=>exact List.Perm.refl _
  | step h1 h2 h3 h4 h5 ih=>exact (swp_perm (by rw [h1.len]; omega) (by rw [h1.len]; omega)).trans ih
theorem Sw.out {a b:Nat} {l l':List α} (h:Sw a b l l') (hb:b ≤ l.length) {k:Nat} (hk:k < a ∨ b ≤ k):at_ l' k=at_ l k:=by
  induction h with
  | refl=>rfl
  | step h1 h2 h3 h4 h5 ih=>rw [swp_at (by rw [h1.len]; omega) (by rw [h1.len]; omega),if_neg (by omega),if_neg (by omega),ih]
theorem Sw.all {a b:Nat} {l l':List α} (h:Sw a b l l') (hb:b ≤ l.length) {Q:α → Prop} {lo hi:Nat} (hlo:lo ≤ a) (hhi:b ≤ hi) (hQ:∀ i,lo ≤ i → i < hi → Q (at_ l i)):∀ i,lo ≤ i → i < hi → Q (at_ l' i):=by
  induction h with
  | refl=>exact hQ
  | step h1 h2 h3 h4 h5 ih =>
    intro k hk1 hk2
    rw [swp_at (by rw [h1.len]; omega) (by rw [h1.len]; omega)]
    split
    · exact ih _ (by omega) (by omega)
    · split
      · exact ih _ (by omega) (by omega)
      · exact ih _ hk1 hk2
theorem Sw.mem {a b:Nat} {l l':List α} (h:Sw a b l l') (hb:b ≤ l.length) {Q:α → Prop} (hQ:∀ x ∈ l,Q x):∀ x ∈ l',Q x:=fun x hx=>hQ x ((h.perm hb).mem_iff.1 hx)
structure Lin (lt:α → α → Prop):Prop where
  tr:∀ x y z,¬ lt y x → ¬ lt z y → ¬ lt z x
  asy:∀ x y,lt x y → ¬ lt y x
def Sorted (lt:α → α → Prop) (a b:Nat) (l:List α):Prop:=∀ i j,a ≤ i → i < j → j < b → ¬ lt (at_ l j) (at_ l i)
section
variable {lt:α → α → Prop} (hL:Lin lt)
include hL
theorem Lin.rf (x:α):¬ lt x x:=fun h=>hL.asy x x h h
def Sink (lt:α → α → Prop) (a i j:Nat) (l:List α):Prop:=∀ p q,a ≤ p → p < q → q < i → q ≠ j → ¬ lt (at_ l q) (at_ l p)
omit hL in
theorem sink_start {a i:Nat} {l:List α} (h:Sorted lt a i l):Sink lt a (i+1) i l:=fun p q h1 h2 h3 h4=>h p q h1 h2 (by omega)
theorem sink_step {a i j:Nat} {l:List α} (hi:i ≤ l.length) (hj:j < i) (ha:a < j) (h:Sink lt a i j l) (hc:lt (at_ l j) (at_ l (j - 1))):Sink lt a i (j - 1) (swp l j (j - 1)):=by
  intro p q h1 h2 h3 h4
  rw [swp_at (by omega) (by omega),swp_at (by omega) (by omega)]
  have hne:¬ q=j - 1:=h4
  rw [if_neg hne]
  by_cases eq:q=j
  · rw [if_pos eq]
    by_cases ep:p=j - 1
    · rw [if_pos ep]; exact hL.asy _ _ hc
    · rw [if_neg ep,if_neg (by omega)]
      exact h p (j - 1) h1 (by omega) (by omega) (by omega)
  · rw [if_neg eq]
    by_cases ep:p=j - 1
    · rw [if_pos ep]; exact h j q (by omega) (by omega) h3 eq
    · rw [if_neg ep]
      by_cases ep2:p=j
      · rw [if_pos ep2]; exact h (j - 1) q (by omega) (by omega) h3 eq
      · rw [if_neg ep2]; exact h p q h1 h2 h3 eq
theorem sink_end {a i j:Nat} {l:List α} (h:Sink lt a i j l) (hc:j ≤ a ∨ ¬ lt (at_ l j) (at_ l (j - 1))):Sorted lt a i l:=by
  intro p q h1 h2 h3
  by_cases e:q=j
  · subst e
    rcases hc with hc | hc
    · omega
    · by_cases ep:p=q - 1
      · subst ep; exact hc
      · exact hL.tr _ _ _ (h p (q - 1) h1 (by omega) (by omega) (by omega)) hc
  · exact h p q h1 h2 h3 e
def Hp (lt:α → α → Prop) (fi lo hi:Nat) (l:List α):Prop:=∀ k c,lo ≤ k → (c=2 * k+1 ∨ c=2 * k+2) → c < hi → ¬ lt (at_ l (fi+k)) (at_ l (fi+c))
def HpX (lt:α → α → Prop) (fi lo hi r:Nat) (l:List α):Prop :=
  (∀ k c,lo ≤ k → k ≠ r → (c=2 * k+1 ∨ c=2 * k+2) → c < hi → ¬ lt (at_ l (fi+k)) (at_ l (fi+c))) ∧
  (∀ k c,lo ≤ k → (r=2 * k+1 ∨ r=2 * k+2) → (c=2 * r+1 ∨ c=2 * r+2) → c < hi → ¬ lt (at_ l (fi+k)) (at_ l (fi+c)))
omit hL in
theorem hpx_start {fi lo hi:Nat} {l:List α} (h:Hp lt fi (lo+1) hi l):HpX lt fi lo hi lo l :=
  ⟨fun k c h1 h2 h3 h4=>h k c (by omega) h3 h4,fun k c h1 h2=>by omega⟩
theorem hpx_end {fi lo hi r:Nat} {l:List α} (h:HpX lt fi lo hi r l) (hr:∀ c,(c=2 * r+1 ∨ c=2 * r+2) → c < hi → ¬ lt (at_ l (fi+r)) (at_ l (fi+c))):Hp lt fi lo hi l:=by
  intro k c h1 h2 h3
  by_cases e:k=r
  · subst e; exact hr c h2 h3
  · exact h.1 k c h1 e h2 h3
theorem hpx_step {fi lo hi r c:Nat} {l:List α} (hb:fi+hi ≤ l.length) (h:HpX lt fi lo hi r l) (hr:lo ≤ r) (hc:c=2 * r+1 ∨ c=2 * r+2) (hch:c < hi) (hm:∀ c',(c'=2 * r+1 ∨ c'=2 * r+2) → c' < hi → ¬ lt (at_ l (fi+c)) (at_ l (fi+c'))) (hlt:lt (at_ l (fi+r)) (at_ l (fi+c))) :
    HpX lt fi lo hi c (swp l (fi+r) (fi+c)):=by
  have hsw:∀ k,at_ (swp l (fi+r) (fi+c)) (fi+k)=if k=c then at_ l (fi+r) else if k=r then at_ l (fi+c) else at_ l (fi+k):=fun k=>by
    rw [swp_at (by omega) (by omega)]
    by_cases e:k=c
    · subst e; simp
    · rw [if_neg (by omega),if_neg e]
      by_cases e2:k=r
      · subst e2; simp
      · rw [if_neg (by omega),if_neg e2]
  refine ⟨fun k c' h1 h2 h3 h4=>?_,fun k c' h1 h2 h3 h4=>?_⟩
  · rw [hsw,hsw,if_neg h2]
    by_cases ek:k=r
    · rw [if_pos ek]
      subst ek
      by_cases ec:c'=c
      · rw [if_pos ec]; exact hL.asy _ _ hlt
      · rw [if_neg ec,if_neg (by omega)]; exact hm c' h3 h4
    · rw [if_neg ek,if_neg (by omega)]
      by_cases ec:c'=r
      · rw [if_pos ec]
        exact h.2 k c h1 (by omega) hc hch
      · rw [if_neg ec]; exact h.1 k c' h1 ek h3 h4
  · have hk:k=r:=by omega
    subst hk
    rw [hsw,hsw,if_neg (by omega),if_pos rfl,if_neg (by omega),if_neg (by omega)]
    exact h.1 c c' (by omega) (by omega) h3 h4
theorem hp_root {fi hi:Nat} {l:List α} (h:Hp lt fi 0 hi l):∀ (m k:Nat),k ≤ m → k < hi → ¬ lt (at_ l fi) (at_ l (fi+k)):=by
  intro m
  induction m with
  | zero =>
    intro k hk _
    have:k=0:=by omega
    subst this
    exact hL.rf _
  | succ m ih =>
    intro k hk hlt
    by_cases e:k=0
    · subst e; exact hL.rf _
    · have h1:=ih ((k - 1) / 2) (by omega) (by omega)
      have h2:=h ((k - 1) / 2) k (Nat.zero_le _) (by omega) hlt
      exact fun h3=>by
        -- l[fi] < l[fi+k] <= l[parent] <= l[fi]
        exact hL.tr _ _ _ h2 h1 h3
def HsInv (lt:α → α → Prop) (fi hi m:Nat) (l:List α):Prop:=Hp lt fi 0 m l∧(∀ p q,m ≤ p → p < q → q < hi → ¬ lt (at_ l (fi+q)) (at_ l (fi+p)))∧∀ p q,p < m → m ≤ q → q < hi → ¬ lt (at_ l (fi+q)) (at_ l (fi+p))
theorem hs_swap {fi hi m:Nat} {l:List α} (hb:fi+hi ≤ l.length) (hm:m+1 ≤ hi) (h:HsInv lt fi hi (m+1) l) :
    Hp lt fi 1 m (swp l fi (fi+m))∧(∀ p q,m ≤ p → p < q → q < hi → ¬ lt (at_ (swp l fi (fi+m)) (fi+q)) (at_ (swp l fi (fi+m)) (fi+p)))∧∀ p q,p < m → m ≤ q → q < hi → ¬ lt (at_ (swp l fi (fi+m)) (fi+q)) (at_ (swp l fi (fi+m)) (fi+p)):=by
  obtain ⟨h1,h2,h3⟩:=h
  have hsw:∀ k,at_ (swp l fi (fi+m)) (fi+k)=if k=m then at_ l fi else if k=0 then at_ l (fi+m) else at_ l (fi+k):=fun k=>by
    rw [swp_at (by omega) (by omega)]
    by_cases e:k=m
    · subst e; simp
    · rw [if_neg (by omega),if_neg e]
      by_cases e2:k=0
      · subst e2; simp
      · rw [if_neg (by omega),if_neg e2]
  refine ⟨fun k c q1 q2 q3=>?_,fun p q q1 q2 q3=>?_,fun p q q1 q2 q3=>?_⟩
  · rw [hsw,hsw,if_neg (by omega),if_neg (by omega),if_neg (by omega),if_neg (by omega)]
    exact h1 k c (by omega) q2 (by omega)
  · rw [hsw q,if_neg (by omega),if_neg (by omega),hsw]
    by_cases e:p=m
    · rw [if_pos e]
      have:=h3 0 q (by omega) (by omega) q3
      simpa using this
    · rw [if_neg e,if_neg (by omega)]; exact h2 p q (by omega) q2 q3
  · rw [hsw p,if_neg (by omega),hsw]
    have key:∀ x,(∃ k,k < m+1∧x=at_ l (fi+k)) → ¬ lt (at_ l fi) x:=by
      rintro x ⟨k,hk,rfl⟩
      exact hp_root hL h1 k k (Nat.le_refl _) hk
    have hx:∃ k,k < m+1∧(if p=0 then at_ l (fi+m) else at_ l (fi+p))=at_ l (fi+k):=by
      by_cases e:p=0
      · exact ⟨m,by omega,by rw [if_pos e]⟩
      · exact ⟨p,by omega,by rw [if_neg e]⟩
    by_cases e:q=m
    · rw [if_pos e]; exact key _ hx
    · rw [if_neg e,if_neg (by omega)]
      obtain ⟨k,hk,e2⟩:=hx
      rw [e2]
      exact h3 k q hk (by omega) q3
end
end Go.HL.So
end
section
open Go Go.HL
namespace Go.Proofs.Ytaibmipamkaljaa
open Go.Proofs.Try renaming prog → Tp
open Go.HL.HV renaming undef → Ud
noncomputable def tabS:HV:=match sub [1,1,1,1,0] (Try.f82.body.getD .skip) with
  | .region _ ops _=>(match ops[3]? with | some o=>(match o.op with | .index _ x _=>opVal [] x | _=>Ud) | none=>Ud)
  | _=>Ud
def bl:Nat → Nat → Nat
  | 0,_=>0
  | k+1,y=>if y=0 then 0 else 1+bl k (y / 2)
noncomputable def tabOk:Bool:=(List.range 256).all fun y=>(match elemV Tp 9 tabS (.int .u8 (y:Int)) with | some (.int .u8 z)=>decide (z=(bl 8 y:Int)) | _=>false) && decide (y < 2 ^ bl 8 y) && (decide (y=0) || decide (2 ^ bl 8 y ≤ 2 * y)) && decide (bl 8 y ≤ 8)
theorem tabOk_true:tabOk=true:=by kernel_rfl
def lenN (x:Nat):Nat:=if x < 256 then bl 8 x else 8+bl 8 (x / 256)
theorem tab_at {y:Nat} (hy:y < 256):elemV Tp 9 tabS (.int .u8 (y:Int))=some (.int .u8 (bl 8 y:Int))∧y < 2 ^ bl 8 y∧(0 < y → 2 ^ bl 8 y ≤ 2 * y)∧bl 8 y ≤ 8:=by
  have h:=List.all_eq_true.1 tabOk_true y (List.mem_range.2 hy)
  simp only [Bool.and_eq_true,Bool.or_eq_true,decide_eq_true_eq] at h
  obtain ⟨⟨⟨h1,h2⟩,h3⟩,h4⟩:=h
  refine ⟨?_,h2,fun h0=>h3.resolve_left (by omega),h4⟩
  split at h1
  · rename_i z hz
    rw [hz,of_decide_eq_true h1]
  · cases h1
theorem lenN_ok {x:Nat} (hx:x < 65536):(0 < x → x < 2 ^ lenN x∧2 ^ lenN x ≤ 2 * x)∧lenN x ≤ 16:=by
  unfold lenN
  split
  · rename_i c
    obtain ⟨_,h2,h3,h4⟩:=tab_at c
    exact ⟨fun h=>⟨h2,h3 h⟩,by omega⟩
  · rename_i c
    obtain ⟨_,h2,h3,h4⟩:=tab_at (y:=x / 256) (by omega)
    have h5:=h3 (by omega)
    rw [Nat.pow_add]
    generalize 2 ^ bl 8 (x / 256)=p at h2 h5
    exact ⟨fun h=>by omega,by omega⟩
def len82:List HV → Option HV
  | [.int .u64 x]=>if 0 ≤ x∧x < 65536 then some (.int .i64 (lenN x.toNat:Int)) else none
  | _=>none
def next93:List HV → Option HV
  | [.int .i64 x]=>if 0 ≤ x∧x < 65536 then some (.int .u64 ((2 ^ lenN x.toNat:Nat):Int)) else none
  | _=>none
def polLb:Pol:={ pol with prim:=fun g=>if g == 82 then some len82 else none }
def polLc:Pol:={ pol with prim:=fun g=>if g == 68 then some len82 else none }
end Go.Proofs.Ytaibmipamkaljaa
end
section
open Go Go.HL
namespace Go.Proofs.Ytaibmipamkaljaa
set_option maxRecDepth 100000
open Go.Proofs.Try renaming prog → Tp
open Go.HL.HV renaming undef → Ud
noncomputable def B82:Code:=Try.f82.body.getD .skip
abbrev env82 (v0 v2:HV):Env:=[(0,v0),(2,v2)]
theorem l82_6 (x:Int) (h0:Int) (z0:Int) (g0:¬ (4294967296 ≤ x)) (g1:¬ (65536 ≤ x)) (g2:256 ≤ x) (g3:binV Tp .shr 108 (.int .u64 x) (.int .u64 8)=some (.int .u64 h0)) (g4:elemV Tp 9 tabS (.int .u8 (IntKind.u8.wrap h0))=some (.int .u8 z0)):RT pol 82 (sub [] B82) [(0,.int .u64 x)] [] .ret (env82 (.int .u64 h0) (.i (IntKind.i64.wrap (8+IntKind.i64.wrap z0)))) [] :=
  RunsTo.hin 0 60 [⟨1,1,.bool false,[]⟩,⟨4,1,.bool false,[]⟩,⟨7,1,.bool true,[]⟩,⟨8,1,.int .u64 h0,[]⟩,⟨10,3,.int .u8 z0,[]⟩] fun kf hk=>⟨_,by kernel_rfl,(oB [] (decide_eq_false g0) (oB [] (decide_eq_false g1) (oB [] (decide_eq_true g2) (oP [] g3 (oP [] g4 .nil)))))⟩
theorem l82_7 (x:Int) (z0:Int) (g0:¬ (4294967296 ≤ x)) (g1:¬ (65536 ≤ x)) (g2:¬ (256 ≤ x)) (g3:elemV Tp 9 tabS (.int .u8 (IntKind.u8.wrap x))=some (.int .u8 z0)):RT pol 82 (sub [] B82) [(0,.int .u64 x)] [] .ret (env82 (.int .u64 x) (.i (IntKind.i64.wrap (0+IntKind.i64.wrap z0)))) [] :=
  RunsTo.hin 0 60 [⟨1,1,.bool false,[]⟩,⟨4,1,.bool false,[]⟩,⟨7,1,.bool false,[]⟩,⟨10,3,.int .u8 z0,[]⟩] fun kf hk=>⟨_,by kernel_rfl,(oB [] (decide_eq_false g0) (oB [] (decide_eq_false g1) (oB [] (decide_eq_false g2) (oP [] g3 .nil))))⟩
noncomputable def B68:Code:=Try.f68.body.getD .skip
abbrev env68 (v0 v2:HV):Env:=[(0,v0),(2,v2)]
theorem l68_0 (x:Int) (c0:Int) (g0:∀ kf,callN Tp polLb (kf+1) 82 [.int .u64 x] []=some (.i c0,[])):RT polLb 68 (sub [] B68) [(0,.int .u64 x)] [] .ret (env68 (.int .u64 x) (.i c0)) [] :=
  RunsTo.hin 0 60 [⟨2,1,.i c0,[]⟩] fun kf hk=>⟨_,by kernel_rfl,(oC (g0 kf) .nil)⟩
noncomputable def B93:Code:=Try.f93.body.getD .skip
abbrev env93 (v0 v2:HV):Env:=[(0,v0),(2,v2)]
theorem l93_0 (x:Int) (c0:Int) (h0:Int) (g0:∀ kf,callN Tp polLc (kf+1) 68 [.int .u64 (IntKind.u64.wrap x)] []=some (.i c0,[])) (g1:binV Tp .shl 85 (.int .u64 1) (.i c0)=some (.int .u64 h0)):RT polLc 93 (sub [] B93) [(0,.i x)] [] .ret (env93 (.i x) (.int .u64 h0)) [] :=
  RunsTo.hin 0 60 [⟨1,2,.i c0,[]⟩,⟨1,3,.int .u64 h0,[]⟩] fun kf hk=>⟨_,by kernel_rfl,(oC (g0 kf) (oP [] g1 .nil))⟩
end Go.Proofs.Ytaibmipamkaljaa
end
section
open Go Go.HL
namespace Go.Proofs.Ytaibmipamkaljaa
open Go.Proofs.Try renaming prog → Tp
open Go.HL.HV renaming undef → Ud
theorem res82:Try.f82.results.toList=[.tmp 2]:=by kernel_rfl
theorem res68:Try.f68.results.toList=[.tmp 2]:=by kernel_rfl
theorem res93:Try.f93.results.toList=[.tmp 2]:=by kernel_rfl
theorem u8w {n:Nat} (h:n < 256):IntKind.u8.wrap (n:Int)=(n:Int):=by
  have:IntKind.u8.wrap (n:Int)=(n:Int) % 256:=by simp [IntKind.wrap,IntKind.signed,IntKind.bits]
  rw [this]; omega
theorem len82_ok:PrimOk Tp 82 len82:=by
  refine primOk_pure (pol:=pol) (fn:=Try.f82) (cd:=B82) follows_mixed sound (by kernel_rfl) (by kernel_rfl) (fnok pol.prim _ _ (by kernel_rfl)) (by kernel_rfl) ?_
  intro args res h
  unfold len82 at h
  split at h
  · rename_i x
    split at h
    · rename_i hx
      cases h
      obtain ⟨n,rfl⟩:∃ n:Nat,x=(n:Int):=⟨x.toNat,by omega⟩
      rw [Int.toNat_natCast]
      unfold lenN
      split
      · rename_i c
        obtain ⟨h1,_,_,h4⟩:=tab_at c
        have t:=l82_7 (n:Int) (bl 8 n:Int) (by omega) (by omega) (by omega) (by rw [u8w c]; exact h1)
        rw [wrap_id (n:=(bl 8 n:Int)) (by omega) (by omega),wrap_id (by omega) (by omega),Int.zero_add] at t
        exact ⟨_,_,_,.int .i64 (bl 8 n:Int),t,by simp,by simp only [resultsV,res82]; rfl,rfl⟩
      · rename_i c
        obtain ⟨h1,_,_,h4⟩:=tab_at (y:=n / 256) (by omega)
        have hs:binV Tp .shr 108 (.int .u64 (n:Int)) (.int .u64 8)=some (.int .u64 ((n / 256:Nat):Int)):=by
          have e:binV Tp .shr 108 (.int .u64 (n:Int)) (.int .u64 8)=some (.int .u64 ((n:Int).fdiv (2 ^ min (8:Int).toNat 64))):=rfl
          rw [e]
          have:((n:Int).fdiv (2 ^ min (8:Int).toNat 64))=((n / 256:Nat):Int):=by
            rw [show ((2:Int) ^ min (8:Int).toNat 64)=((256:Nat):Int) by decide,Int.fdiv_eq_ediv_of_nonneg _ (Int.natCast_nonneg _)]
            rfl
          rw [this]
        have t:=l82_6 (n:Int) _ (bl 8 (n / 256):Int) (by omega) (by omega) (by omega) hs (by rw [u8w (by omega)]; exact h1)
        rw [wrap_id (n:=(bl 8 (n / 256):Int)) (by omega) (by omega),wrap_id (by omega) (by omega),show (8:Int)+(bl 8 (n / 256):Int)=((8+bl 8 (n / 256):Nat):Int) by omega] at t
        exact ⟨_,_,_,.int .i64 ((8+bl 8 (n / 256):Nat):Int),t,by simp,by simp only [resultsV,res82]; rfl,rfl⟩
    · cases h
  · cases h
theorem soundLb (n:Nat):CallSound Tp (callN Tp polLb n):=sound_prim _ (fun g f h=>by
  split at h
  · rename_i hg; cases h; rw [eq_of_beq hg]; exact len82_ok
  · cases h) n
theorem len68_ok:PrimOk Tp 68 len82:=by
  refine primOk_pure (pol:=polLb) (fn:=Try.f68) (cd:=B68) follows_mixed soundLb (by kernel_rfl) (by kernel_rfl) (fnok polLb.prim _ _ (by kernel_rfl)) (by kernel_rfl) ?_
  intro args res h
  have h':=h
  unfold len82 at h
  split at h
  · rename_i x
    split at h
    · rename_i hx
      cases h
      have t:=l68_0 x _ (fun kf=>by
        rw [prim_call (pol:=polLb) (g:=82) (F:=len82) (by kernel_rfl) (rs:=[.int .u64 x]) rfl h']; rfl)
      exact ⟨_,_,_,.int .i64 (lenN x.toNat:Int),t,by simp,by simp only [resultsV,res68]; rfl,rfl⟩
    · cases h
  · cases h
theorem soundLc (n:Nat):CallSound Tp (callN Tp polLc n):=sound_prim _ (fun g f h=>by
  split at h
  · rename_i hg; cases h; rw [eq_of_beq hg]; exact len68_ok
  · cases h) n
theorem next_ok:PrimOk Tp 93 next93:=by
  refine primOk_pure (pol:=polLc) (fn:=Try.f93) (cd:=B93) follows_mixed soundLc (by kernel_rfl) (by kernel_rfl) (fnok polLc.prim _ _ (by kernel_rfl)) (by kernel_rfl) ?_
  intro args res h
  unfold next93 at h
  split at h
  · rename_i x
    split at h
    · rename_i hx
      cases h
      obtain ⟨n,rfl⟩:∃ n:Nat,x=(n:Int):=⟨x.toNat,by omega⟩
      rw [Int.toNat_natCast]
      have hl:=(lenN_ok (x:=n) (by omega)).2
      have hu:IntKind.u64.wrap (n:Int)=(n:Int):=by rw [wrapU64]; omega
      have hs:binV Tp .shl 85 (.int .u64 1) (.int .i64 (lenN n:Int))=some (.int .u64 ((2 ^ lenN n:Nat):Int)):=by
        have e:binV Tp .shl 85 (.int .u64 1) (.int .i64 (lenN n:Int))=if (lenN n:Int) < 0 then none else some (.int .u64 (IntKind.u64.wrap (1 * 2 ^ min (lenN n:Int).toNat 64))):=rfl
        rw [e,if_neg (by omega),Int.toNat_natCast,show min (lenN n) 64=lenN n by omega,Int.one_mul,show ((2:Int) ^ lenN n)=((2 ^ lenN n:Nat):Int) by push_cast; rfl]
        have h2:2 ^ lenN n ≤ 2 ^ 16:=Nat.pow_le_pow_right (by omega) hl
        have h3:2 ^ lenN n ≤ 65536:=h2
        generalize 2 ^ lenN n=p at h3
        rw [wrapU64,show (p:Int) % 18446744073709551616=p by omega]
      have t:=l93_0 (n:Int) (lenN n:Int) _ (fun kf=>by
        rw [hu,prim_call (pol:=polLc) (g:=68) (F:=len82) (by kernel_rfl) (rs:=[.int .u64 (n:Int)]) rfl (res:=.int .i64 (lenN n:Int)) (by simp only [len82]; rw [if_pos (by omega),Int.toNat_natCast])]; rfl) hs
      exact ⟨_,_,_,.int .u64 ((2 ^ lenN n:Nat):Int),t,by simp,by simp only [resultsV,res93]; rfl,rfl⟩
    · cases h
  · cases h
end Go.Proofs.Ytaibmipamkaljaa
end
section
open Go Go.HL
namespace Go.Proofs.Ytaibmipamkaljaa
set_option maxRecDepth 100000
open Go.Proofs.Try renaming prog → Tp
open Go.HL.HV renaming undef → Ud
noncomputable def B21:Code:=Try.f21.body.getD .skip
abbrev env21 (v0 v1 v4 v5 v6:HV):Env:=[(0,v0),(1,v1),(4,v4),(5,v5),(6,v6)]
theorem rs_a_0 (p:Int) (l:List HV) :RT pol 21 (sub [0] B21) [(0,.i p),(1,.a l)] [] .normal (env21 (.i p) (.a l) (.bool false) Ud Ud) [] :=
  RunsTo.hin 0 60 [] fun kf hk=>⟨_,by kernel_rfl,.nil⟩
theorem rs_b_0 (p:Int) (l:List HV)  {y5 y6:HV}:RT pol 21 (sub [1,0,0] B21) (env21 (.i p) (.a l) (.bool false) y5 y6) [] .normal (env21 (.i p) (.a l) (.bool false) (.i 0) y6) [] :=
  RunsTo.hin 0 60 [] fun kf hk=>⟨_,by kernel_rfl,.nil⟩
theorem rs_c_0 (p:Int) (l:List HV) (i:Nat) {y6:HV}(g0:(i:Int) < (l.length:Int)):RT pol 21 (sub [1,0,1,0,0,0] B21) (env21 (.i p) (.a l) (.bool false) (.i (i:Int)) y6) [] .normal (env21 (.i p) (.a l) (.bool false) (.i (i:Int)) y6) [] :=
  RunsTo.hin 0 60 [⟨2,3,.bool true,[]⟩] fun kf hk=>⟨_,by kernel_rfl,(oB [] (decide_eq_true g0) .nil)⟩
theorem rs_c_1 (p:Int) (l:List HV) (i:Nat) {y6:HV}(g0:¬ ((i:Int) < (l.length:Int))):RT pol 21 (sub [1,0,1,0,0,0] B21) (env21 (.i p) (.a l) (.bool false) (.i (i:Int)) y6) [] (.exit 0) (env21 (.i p) (.a l) (.bool false) (.i (i:Int)) y6) [] :=
  RunsTo.hin 0 60 [⟨2,3,.bool false,[]⟩] fun kf hk=>⟨_,by kernel_rfl,(oB [] (decide_eq_false g0) .nil)⟩
theorem rs_p_0 (p:Int) (l:List HV) (i:Nat) {y6:HV} {x0:Int} (g0:idxV Tp 22 (.a l) (.i (i:Int))=some (.vptr (.i x0))) (g1:x0 < 0):RT pol 21 (sub [1,0,1,0,0,1,0,0,0] B21) (env21 (.i p) (.a l) (.bool false) (.i (i:Int)) y6) [] .ret (env21 (.i p) (.a l) (.bool false) (.i (i:Int)) y6) [] :=
  RunsTo.hin 0 60 [⟨4,2,.vptr (.i x0),[]⟩,⟨4,4,.bool true,[]⟩] fun kf hk=>⟨_,by kernel_rfl,(oP [] g0 (oB [] (decide_eq_true g1) .nil))⟩
theorem rs_p_1 (p:Int) (l:List HV) (i:Nat) {y6:HV} {x0:Int} {x1:Int} (g0:idxV Tp 22 (.a l) (.i (i:Int))=some (.vptr (.i x0))) (g1:¬ (x0 < 0)) (g2:idxV Tp 22 (.a l) (.i (i:Int))=some (.vptr (.i x1))) (g3:p ≤ x1):RT pol 21 (sub [1,0,1,0,0,1,0,0,0] B21) (env21 (.i p) (.a l) (.bool false) (.i (i:Int)) y6) [] .ret (env21 (.i p) (.a l) (.bool false) (.i (i:Int)) y6) [] :=
  RunsTo.hin 0 60 [⟨4,2,.vptr (.i x0),[]⟩,⟨4,4,.bool false,[]⟩,⟨4,8,.vptr (.i x1),[]⟩,⟨4,11,.bool true,[]⟩] fun kf hk=>⟨_,by kernel_rfl,(oP [] g0 (oB [] (decide_eq_false g1) (oP [] g2 (oB [] (decide_eq_true g3) .nil))))⟩
theorem rs_p_2 (p:Int) (l:List HV) (i:Nat) {y6:HV} {x0:Int} {x1:Int} (g0:idxV Tp 22 (.a l) (.i (i:Int))=some (.vptr (.i x0))) (g1:¬ (x0 < 0)) (g2:idxV Tp 22 (.a l) (.i (i:Int))=some (.vptr (.i x1))) (g3:¬ (p ≤ x1)):RT pol 21 (sub [1,0,1,0,0,1,0,0,0] B21) (env21 (.i p) (.a l) (.bool false) (.i (i:Int)) y6) [] .normal (env21 (.i p) (.a l) (.bool false) (.i (i:Int)) y6) [] :=
  RunsTo.hin 0 60 [⟨4,2,.vptr (.i x0),[]⟩,⟨4,4,.bool false,[]⟩,⟨4,8,.vptr (.i x1),[]⟩,⟨4,11,.bool false,[]⟩] fun kf hk=>⟨_,by kernel_rfl,(oP [] g0 (oB [] (decide_eq_false g1) (oP [] g2 (oB [] (decide_eq_false g3) .nil))))⟩
theorem rs_q_0 (p:Int) (l:List HV) (i:Nat) {y6:HV}:RT pol 21 (sub [1,0,1,0,0,1,0,0,1,0] B21) (env21 (.i p) (.a l) (.bool false) (.i (i:Int)) y6) [] .normal (env21 (.i p) (.a l) (.bool false) (.i (i:Int)) (.i 0)) [] :=
  RunsTo.hin 0 60 [] fun kf hk=>⟨_,by kernel_rfl,.nil⟩
theorem rs_r_0 (p:Int) (l:List HV) (i j:Nat) {x0:Int} {x1:Int} (g0:(j:Int) < (i:Int)) (g1:idxV Tp 22 (.a l) (.i (j:Int))=some (.vptr (.i x0))) (g2:idxV Tp 22 (.a l) (.i (i:Int))=some (.vptr (.i x1))) (g3:x0=x1):RT pol 21 (sub [1,0,1,0,0,1,0,0,1,1,0,0] B21) (env21 (.i p) (.a l) (.bool false) (.i (i:Int)) (.i (j:Int))) [] .ret (env21 (.i p) (.a l) (.bool false) (.i (i:Int)) (.i (j:Int))) [] :=
  RunsTo.hin 0 60 [⟨7,2,.bool true,[]⟩,⟨9,2,.vptr (.i x0),[]⟩,⟨9,6,.vptr (.i x1),[]⟩,⟨9,8,.bool true,[]⟩] fun kf hk=>⟨_,by kernel_rfl,(oB [] (decide_eq_true g0) (oP [] g1 (oP [] g2 (oB [] (decide_eq_true g3) .nil))))⟩
theorem rs_r_1 (p:Int) (l:List HV) (i j:Nat) {x0:Int} {x1:Int} (g0:(j:Int) < (i:Int)) (g1:idxV Tp 22 (.a l) (.i (j:Int))=some (.vptr (.i x0))) (g2:idxV Tp 22 (.a l) (.i (i:Int))=some (.vptr (.i x1))) (g3:¬ (x0=x1)):RT pol 21 (sub [1,0,1,0,0,1,0,0,1,1,0,0] B21) (env21 (.i p) (.a l) (.bool false) (.i (i:Int)) (.i (j:Int))) [] .normal (env21 (.i p) (.a l) (.bool false) (.i (i:Int)) (.i (IntKind.i64.wrap ((j:Int)+1)))) [] :=
  RunsTo.hin 0 60 [⟨7,2,.bool true,[]⟩,⟨9,2,.vptr (.i x0),[]⟩,⟨9,6,.vptr (.i x1),[]⟩,⟨9,8,.bool false,[]⟩] fun kf hk=>⟨_,by kernel_rfl,(oB [] (decide_eq_true g0) (oP [] g1 (oP [] g2 (oB [] (decide_eq_false g3) .nil))))⟩
theorem rs_r_2 (p:Int) (l:List HV) (i j:Nat)(g0:¬ ((j:Int) < (i:Int))):RT pol 21 (sub [1,0,1,0,0,1,0,0,1,1,0,0] B21) (env21 (.i p) (.a l) (.bool false) (.i (i:Int)) (.i (j:Int))) [] (.exit 2) (env21 (.i p) (.a l) (.bool false) (.i (i:Int)) (.i (j:Int))) [] :=
  RunsTo.hin 0 60 [⟨7,2,.bool false,[]⟩] fun kf hk=>⟨_,by kernel_rfl,(oB [] (decide_eq_false g0) .nil)⟩
theorem rs_s_0 (p:Int) (l:List HV) (i:Nat) {y6:HV}:RT pol 21 (sub [1,0,1,0,0,1,1] B21) (env21 (.i p) (.a l) (.bool false) (.i (i:Int)) y6) [] .normal (env21 (.i p) (.a l) (.bool false) (.i (IntKind.i64.wrap ((i:Int)+1))) y6) [] :=
  RunsTo.hin 0 60 [] fun kf hk=>⟨_,by kernel_rfl,.nil⟩
theorem rs_t_0 (p:Int) (l:List HV) (i:Nat) {y6:HV}(g0:0 < (l.length:Int)):RT pol 21 (sub [1,1] B21) (env21 (.i p) (.a l) (.bool false) (.i (i:Int)) y6) [] .ret (env21 (.i p) (.a l) (.bool true) (.i (i:Int)) y6) [] :=
  RunsTo.hin 0 60 [⟨11,2,.bool true,[]⟩] fun kf hk=>⟨_,by kernel_rfl,(oB [] (decide_eq_true g0) .nil)⟩
theorem rs_t_1 (p:Int) (l:List HV) (i:Nat) {y6:HV}(g0:¬ (0 < (l.length:Int))):RT pol 21 (sub [1,1] B21) (env21 (.i p) (.a l) (.bool false) (.i (i:Int)) y6) [] .ret (env21 (.i p) (.a l) (.bool false) (.i (i:Int)) y6) [] :=
  RunsTo.hin 0 60 [⟨11,2,.bool false,[]⟩] fun kf hk=>⟨_,by kernel_rfl,(oB [] (decide_eq_false g0) .nil)⟩
end Go.Proofs.Ytaibmipamkaljaa
end
section
open Go Go.HL
namespace Go.Proofs.Ytaibmipamkaljaa
set_option maxRecDepth 100000
open Go.Proofs.Try renaming prog → Tp
open Go.HL.HV renaming undef → Ud
noncomputable def B52:Code:=Try.f52.body.getD .skip
abbrev env52 (v0 v1 v4 v5 v7 v9 v10 v11:HV):Env:=[(0,v0),(1,v1),(4,v4),(5,v5),(7,v7),(9,v9),(10,v10),(11,v11)]
theorem ist_a_0 (p:Int) (l:List HV) :RT polW 52 (sub [0] B52) [(0,.i p),(1,.a l)] [] .normal (env52 (.i p) (.a l) (.bool false) Ud Ud Ud Ud Ud) [] :=
  RunsTo.hin 0 60 [] fun kf hk=>⟨_,by kernel_rfl,.nil⟩
theorem ist_b_0 (p:Int) (l:List HV) (H:Heap) {y5 y7 y9 y10 y11:HV} {H0:Heap} (g0:some (HV.map H.length,H ++ [Blk.map [] [] 0])=some (.map 0,H0)):RT polW 52 (sub [1,0] B52) (env52 (.i p) (.a l) (.bool false) y5 y7 y9 y10 y11) H .normal (env52 (.i p) (.a l) (.bool false) (.map 0) y7 y9 y10 y11) H0 :=
  RunsTo.hin 0 60 [⟨1,0,.map 0,H0⟩] fun kf hk=>⟨_,by kernel_rfl,(oC (g0) .nil)⟩
theorem ist_c_0 (p:Int) (l:List HV) (H:Heap) {y7 y9 y10 y11:HV}:RT polW 52 (sub [1,1,0,0] B52) (env52 (.i p) (.a l) (.bool false) (.map 0) y7 y9 y10 y11) H .normal (env52 (.i p) (.a l) (.bool false) (.map 0) y7 (.a l) (.i (l.length:Int)) (.i 0)) H :=
  RunsTo.hin 0 60 [] fun kf hk=>⟨_,by kernel_rfl,.nil⟩
theorem ist_d_0 (p:Int) (l:List HV) (H:Heap) (n i:Nat) {y7:HV} {x0:Int} (g0:(i:Int) < (n:Int)) (g1:idxV Tp 22 (.a l) (.i (i:Int))=some (.vptr (.i x0))) (g2:∀ kf,callN Tp polW (kf+1) 47 [.i x0,.i 0,.i (IntKind.i64.wrap (p - 1))] H=some (.bool true,H)) (g3:lkH Tp 92 H 0 (.i x0)=some (.bool true,H)):RT polW 52 (sub [1,1,0,1,0,0] B52) (env52 (.i p) (.a l) (.bool false) (.map 0) y7 (.a l) (.i (n:Int)) (.i (i:Int))) H .ret (env52 (.i p) (.a l) (.bool false) (.map 0) (.i x0) (.a l) (.i (n:Int)) (.i (i:Int))) H :=
  RunsTo.hin 0 60 [⟨3,0,.bool true,H⟩,⟨4,0,.vptr (.i x0),H⟩,⟨5,3,.bool true,H⟩,⟨5,8,.bool true,H⟩] fun kf hk=>⟨_,by kernel_rfl,(oB H (decide_eq_true g0) (oP H g1 (oC (g2 kf) (oC (g3) .nil))))⟩
theorem ist_d_1 (p:Int) (l:List HV) (H:Heap) (n i:Nat) {y7:HV} {x0:Int} {H0:Heap} (g0:(i:Int) < (n:Int)) (g1:idxV Tp 22 (.a l) (.i (i:Int))=some (.vptr (.i x0))) (g2:∀ kf,callN Tp polW (kf+1) 47 [.i x0,.i 0,.i (IntKind.i64.wrap (p - 1))] H=some (.bool true,H)) (g3:lkH Tp 92 H 0 (.i x0)=some (.bool false,H)) (g4:updV Tp false 92 (.map 0) (.i x0) (.bool true) H=some H0):RT polW 52 (sub [1,1,0,1,0,0] B52) (env52 (.i p) (.a l) (.bool false) (.map 0) y7 (.a l) (.i (n:Int)) (.i (i:Int))) H .normal (env52 (.i p) (.a l) (.bool false) (.map 0) (.i x0) (.a l) (.i (n:Int)) (.i (IntKind.i64.wrap ((i:Int)+1)))) H0 :=
  RunsTo.hin 0 60 [⟨3,0,.bool true,H⟩,⟨4,0,.vptr (.i x0),H⟩,⟨5,3,.bool true,H⟩,⟨5,8,.bool false,H⟩,⟨7,2,.tuple [],H0⟩] fun kf hk=>⟨_,by kernel_rfl,(oB H (decide_eq_true g0) (oP H g1 (oC (g2 kf) (oC (g3) (oS g4 .nil)))))⟩
theorem ist_d_2 (p:Int) (l:List HV) (H:Heap) (n i:Nat) {y7:HV} {x0:Int} (g0:(i:Int) < (n:Int)) (g1:idxV Tp 22 (.a l) (.i (i:Int))=some (.vptr (.i x0))) (g2:∀ kf,callN Tp polW (kf+1) 47 [.i x0,.i 0,.i (IntKind.i64.wrap (p - 1))] H=some (.bool false,H)):RT polW 52 (sub [1,1,0,1,0,0] B52) (env52 (.i p) (.a l) (.bool false) (.map 0) y7 (.a l) (.i (n:Int)) (.i (i:Int))) H .ret (env52 (.i p) (.a l) (.bool false) (.map 0) (.i x0) (.a l) (.i (n:Int)) (.i (i:Int))) H :=
  RunsTo.hin 0 60 [⟨3,0,.bool true,H⟩,⟨4,0,.vptr (.i x0),H⟩,⟨5,3,.bool false,H⟩] fun kf hk=>⟨_,by kernel_rfl,(oB H (decide_eq_true g0) (oP H g1 (oC (g2 kf) .nil)))⟩
theorem ist_d_3 (p:Int) (l:List HV) (H:Heap) (n i:Nat) {y7:HV}(g0:¬ ((i:Int) < (n:Int))):RT polW 52 (sub [1,1,0,1,0,0] B52) (env52 (.i p) (.a l) (.bool false) (.map 0) y7 (.a l) (.i (n:Int)) (.i (i:Int))) H (.exit 0) (env52 (.i p) (.a l) (.bool false) (.map 0) y7 (.a l) (.i (n:Int)) (.i (i:Int))) H :=
  RunsTo.hin 0 60 [⟨3,0,.bool false,H⟩] fun kf hk=>⟨_,by kernel_rfl,(oB H (decide_eq_false g0) .nil)⟩
theorem ist_e_0 (p:Int) (l:List HV) (H:Heap) {y7 y9 y10 y11:HV}(g0:0 < (l.length:Int)):RT polW 52 (sub [1,1,1] B52) (env52 (.i p) (.a l) (.bool false) (.map 0) y7 y9 y10 y11) H .ret (env52 (.i p) (.a l) (.bool true) (.map 0) y7 y9 y10 y11) H :=
  RunsTo.hin 0 60 [⟨9,2,.bool true,H⟩] fun kf hk=>⟨_,by kernel_rfl,(oB H (decide_eq_true g0) .nil)⟩
theorem ist_e_1 (p:Int) (l:List HV) (H:Heap) {y7 y9 y10 y11:HV}(g0:¬ (0 < (l.length:Int))):RT polW 52 (sub [1,1,1] B52) (env52 (.i p) (.a l) (.bool false) (.map 0) y7 y9 y10 y11) H .ret (env52 (.i p) (.a l) (.bool false) (.map 0) y7 y9 y10 y11) H :=
  RunsTo.hin 0 60 [⟨9,2,.bool false,H⟩] fun kf hk=>⟨_,by kernel_rfl,(oB H (decide_eq_false g0) .nil)⟩
end Go.Proofs.Ytaibmipamkaljaa
end
section
open Go Go.HL
namespace Go.Proofs.Ytaibmipamkaljaa
open Go.Proofs.Try renaming prog → Tp
open Go.HL.HV renaming undef → Ud
def rsF (p:Int):List Int → List Int → Bool
  | _,[]=>true
  | prev,x :: l=>(decide (0 ≤ x∧x < p) && !decide (x ∈ prev)) && rsF p (prev ++ [x]) l
def setT (p:Int) (l:List Int):Bool:=rsF p [] l && decide (0 < l.length)
theorem rsF_cons {p:Int} {l:List Int} {i:Nat} (hi:i < l.length):rsF p (l.take i) (l.drop i)=((decide (0 ≤ l.getD i 0∧l.getD i 0 < p) && !decide (l.getD i 0 ∈ l.take i)) && rsF p (l.take (i+1)) (l.drop (i+1))):=by
  rw [drop_cons (0:Int) hi,rsF]
  have:l.take (i+1)=l.take i ++ [l.getD i 0]:=by rw [List.take_add_one]; simp [List.getD,List.getElem?_eq_getElem hi]
  rw [this]
def plF (f:Int → List Int → Option HV):List HV → Option HV
  | [.int .i64 p,.imm .arg 1 la]=>(match mapO decI la with | some l=>f p l | none=>none)
  | _=>none
theorem plF_inv {f:Int → List Int → Option HV} {args:List HV} {res:HV} (h:plF f args=some res):∃ (p:Int) (l:List Int),args=[.int .i64 p,.imm .arg 1 (l.map encI)]∧f p l=some res:=by
  unfold plF at h
  split at h
  · split at h
    · rename_i l hl
      exact ⟨_,l,by rw [mapO_inv decI_inv hl],h⟩
    · cases h
  · cases h
theorem primeT_iff (n:Int):primeT n=true ↔ 1 < n∧∀ q:Nat,2 ≤ q → (q:Int) < n → n % (q:Int) ≠ 0:=by
  simp only [primeT,Bool.and_eq_true,decide_eq_true_eq,List.all_eq_true,List.mem_range,Bool.or_eq_true,Bool.not_eq_true',decide_eq_false_iff_not]
  constructor
  · rintro ⟨h1,h2⟩
    exact ⟨h1,fun q a b=>(h2 q (by omega)).resolve_left (by omega)⟩
  · rintro ⟨h1,h2⟩
    refine ⟨h1,fun q hq=>?_⟩
    by_cases c:q < 2
    · exact .inl c
    · exact .inr (h2 q (by omega) (by omega))
def rset21:List HV → Option HV:=plF fun p l=>if l.length ≤ 1000 then some (.bool (setT p l)) else none
theorem res21:Try.f21.results.toList=[.tmp 4]:=by kernel_rfl
section
variable {p:Int} {l:List Int}
abbrev rsE (p:Int) (l:List Int) (v5 v6:HV):Env:=env21 (.int .i64 p) (.imm .arg 1 (l.map encI)) (.bool false) v5 v6
theorem rs_in (hl:l.length ≤ 1000) {i:Nat} (hi:i < l.length):∀ k j,j+k=i →
    (l.getD i 0 ∉ (l.take i).drop j∧∃ y,RT pol 21 (sub [1,0,1,0,0,1,0,0,1,1,0] B21) (rsE p l (.int .i64 (i:Int)) (.int .i64 (j:Int))) [] (.exit 2) (rsE p l (.int .i64 (i:Int)) y) []) ∨
    (l.getD i 0 ∈ (l.take i).drop j∧∃ y,RT pol 21 (sub [1,0,1,0,0,1,0,0,1,1,0] B21) (rsE p l (.int .i64 (i:Int)) (.int .i64 (j:Int))) [] .ret (rsE p l (.int .i64 (i:Int)) y) []):=by
  intro k
  induction k with
  | zero =>
    intro j hj
    have s:=rs_r_2 p (l.map encI) i j (by omega)
    exact .inl ⟨by rw [List.drop_of_length_le (by rw [List.length_take]; omega)]; simp,_,lpo (s) (c:=sub [1,0,1,0,0,1,0,0,1,1,0] B21)⟩
  | succ k ih =>
    intro j hj
    have hlt:j < (l.take i).length:=by rw [List.length_take]; omega
    have e:(l.take i).getD j 0=l.getD j 0:=by simp [List.getD,List.getElem?_take,show j < i by omega]
    rw [drop_cons (0:Int) hlt,e]
    by_cases c:l.getD j 0=l.getD i 0
    · have s:=rs_r_0 p (l.map encI) i j (by omega) (gx (by omega)) (gx hi) c
      exact .inr ⟨by rw [c]; simp,_,lpo (s) (c:=sub [1,0,1,0,0,1,0,0,1,1,0] B21)⟩
    · have s:=rs_r_1 p (l.map encI) i j (by omega) (gx (by omega)) (gx hi) c
      rw [wrap_succ (by omega)] at s
      rcases ih (j+1) (by omega) with ⟨a,y,r⟩ | ⟨a,y,r⟩
      · exact .inl ⟨by simp only [List.mem_cons,not_or]; exact ⟨fun h=>c h.symm,a⟩,y,lop (s) (gc_eq _ rfl) (r)⟩
      · exact .inr ⟨List.mem_cons_of_mem _ a,y,lop (s) (gc_eq _ rfl) (r)⟩
theorem rs_out (hl:l.length ≤ 1000):∀ k i,i+k=l.length →
    (rsF p (l.take i) (l.drop i)=true∧∃ y,RT pol 21 (sub [1,0,1,0] B21) (rsE p l (.int .i64 (i:Int)) Ud) [] (.exit 0) (rsE p l (.int .i64 (l.length:Int)) y) []) ∨
    (rsF p (l.take i) (l.drop i)=false∧∃ y y',RT pol 21 (sub [1,0,1,0] B21) (rsE p l (.int .i64 (i:Int)) Ud) [] .ret (rsE p l y y') []):=by
  intro k
  induction k with
  | zero =>
    intro i hi
    have s:=rs_c_1 p (l.map encI) i (y6:=Ud) (by rw [List.length_map]; omega)
    have e:i=l.length:=by omega
    subst e
    exact .inl ⟨by rw [List.drop_length]; rfl,_,lpo (sqo (s) (c:=sub [1,0,1,0,0] B21) (b:=sub [1,0,1,0,0,1] B21)) (c:=sub [1,0,1,0] B21)⟩
  | succ k ih =>
    intro i hi
    have hlt:i < l.length:=by omega
    rw [rsF_cons hlt]
    have s1:=rs_c_0 p (l.map encI) i (y6:=Ud) (by rw [List.length_map]; omega)
    by_cases c1:l.getD i 0 < 0
    · have s2:=rs_p_0 p (l.map encI) i (y6:=Ud) (gx hlt) c1
      exact .inr ⟨by rw [decide_eq_false (by omega)]; rfl,_,_,lpo (sq (s1) (sqo (RunsTo.block_ret (i:=1) (c:=sub [1,0,1,0,0,1,0] B21) (sqo (s2) (c:=sub [1,0,1,0,0,1,0,0] B21) (b:=sub [1,0,1,0,0,1,0,0,1] B21)) (by kernel_rfl)) (c:=sub [1,0,1,0,0,1] B21) (b:=sub [1,0,1,0,0,1,1] B21)) (c:=sub [1,0,1,0,0] B21)) (c:=sub [1,0,1,0] B21)⟩
    by_cases c2:p ≤ l.getD i 0
    · have s2:=rs_p_1 p (l.map encI) i (y6:=Ud) (gx hlt) c1 (gx hlt) c2
      exact .inr ⟨by rw [decide_eq_false (by omega)]; rfl,_,_,lpo (sq (s1) (sqo (RunsTo.block_ret (i:=1) (c:=sub [1,0,1,0,0,1,0] B21) (sqo (s2) (c:=sub [1,0,1,0,0,1,0,0] B21) (b:=sub [1,0,1,0,0,1,0,0,1] B21)) (by kernel_rfl)) (c:=sub [1,0,1,0,0,1] B21) (b:=sub [1,0,1,0,0,1,1] B21)) (c:=sub [1,0,1,0,0] B21)) (c:=sub [1,0,1,0] B21)⟩
    have s2:=rs_p_2 p (l.map encI) i (y6:=Ud) (gx hlt) c1 (gx hlt) c2
    have s3:=rs_q_0 p (l.map encI) i (y6:=Ud)
    rcases rs_in (p:=p) hl hlt i 0 (by omega) with ⟨a,y,r⟩ | ⟨a,y,r⟩
    · rw [List.drop_zero] at a
      have s4:=rs_s_0 p (l.map encI) i (y6:=y)
      rw [wrap_succ (by omega)] at s4
      rw [decide_eq_true (show 0 ≤ l.getD i 0∧l.getD i 0 < p by omega),decide_eq_false a]
      have bd:RT pol 21 (sub [1,0,1,0,0] B21) (rsE p l (.int .i64 (i:Int)) Ud) [] .normal (rsE p l (.int .i64 ((i+1:Nat):Int)) y) []:=sq (s1) (sq (RunsTo.block_normal (i:=1) (c:=sub [1,0,1,0,0,1,0] B21) (sq (s2) (sq (s3) (bke (c:=sub [1,0,1,0,0,1,0,0,1,1] B21) (r)) (c:=sub [1,0,1,0,0,1,0,0,1] B21)) (c:=sub [1,0,1,0,0,1,0,0] B21)) (by kernel_rfl)) (s4) (c:=sub [1,0,1,0,0,1] B21)) (c:=sub [1,0,1,0,0] B21)
      rcases ih (i+1) (by omega) with ⟨b,y',r'⟩ | ⟨b,y',y2,r'⟩
      · exact .inl ⟨by rw [b]; rfl,y',lop (bd) (gc_eq _ rfl) (r')⟩
      · exact .inr ⟨by rw [b]; rfl,y',y2,lop (bd) (gc_eq _ rfl) (r')⟩
    · rw [List.drop_zero] at a
      exact .inr ⟨by rw [decide_eq_true a]; simp,_,_,lpo (sq (s1) (sqo (RunsTo.block_ret (i:=1) (c:=sub [1,0,1,0,0,1,0] B21) (sq (s2) (sq (s3) (RunsTo.block_ret (i:=2) (c:=sub [1,0,1,0,0,1,0,0,1,1] B21) (r) (by kernel_rfl)) (c:=sub [1,0,1,0,0,1,0,0,1] B21)) (c:=sub [1,0,1,0,0,1,0,0] B21)) (by kernel_rfl)) (c:=sub [1,0,1,0,0,1] B21) (b:=sub [1,0,1,0,0,1,1] B21)) (c:=sub [1,0,1,0,0] B21)) (c:=sub [1,0,1,0] B21)⟩
end
theorem rset_ok:PrimOk Tp 21 rset21:=by
  refine primOk_pure (pol:=pol) (fn:=Try.f21) (cd:=B21) follows_mixed sound (by kernel_rfl) (by kernel_rfl) (fnok pol.prim _ _ (by kernel_rfl)) (by kernel_rfl) ?_
  intro args res h
  obtain ⟨p,l,rfl,hq⟩:=plF_inv h
  clear h
  split at hq
  case isFalse=>cases hq
  rename_i hl
  cases hq
  have a:=rs_a_0 p (l.map encI)
  have b:=rs_b_0 p (l.map encI) (y5:=Ud) (y6:=Ud)
  rcases rs_out (p:=p) hl l.length 0 (by omega) with ⟨c,y,r⟩ | ⟨c,y,y',r⟩
  · rw [List.take_zero,List.drop_zero] at c
    by_cases h0:0 < l.length
    · have z:=rs_t_0 p (l.map encI) l.length (y6:=y) (by rw [List.length_map]; omega)
      have e:setT p l=true:=by rw [setT,c,decide_eq_true h0]; rfl
      exact ⟨_,_,_,.bool true,sq (a) (sq (sq (b) (bke (c:=sub [1,0,1] B21) (r)) (c:=sub [1,0] B21)) (z) (c:=sub [1] B21)) (c:=B21),by simp,by simp only [resultsV,res21]; rfl,by rw [e]; rfl⟩
    · have z:=rs_t_1 p (l.map encI) l.length (y6:=y) (by rw [List.length_map]; omega)
      have e:setT p l=false:=by rw [setT,decide_eq_false h0,Bool.and_false]
      exact ⟨_,_,_,.bool false,sq (a) (sq (sq (b) (bke (c:=sub [1,0,1] B21) (r)) (c:=sub [1,0] B21)) (z) (c:=sub [1] B21)) (c:=B21),by simp,by simp only [resultsV,res21]; rfl,by rw [e]; rfl⟩
  · rw [List.take_zero,List.drop_zero] at c
    have e:setT p l=false:=by rw [setT,c]; rfl
    exact ⟨_,_,_,.bool false,sq (a) (sqo (sq (b) (RunsTo.block_ret (i:=0) (c:=sub [1,0,1] B21) (r) (by kernel_rfl)) (c:=sub [1,0] B21)) (c:=sub [1] B21) (b:=sub [1,1] B21)) (c:=B21),by simp,by simp only [resultsV,res21]; rfl,by rw [e]; rfl⟩
def isSet52:List HV → Option HV:=plF fun p l=>if (0 ≤ p∧p ≤ 1000)∧l.length ≤ 1000 then some (.bool (setT p l)) else none
theorem res52:Try.f52.results.toList=[.tmp 4]:=by kernel_rfl
section
variable {p:Int} {l:List Int}
abbrev isE (p:Int) (l:List Int) (i:Nat) (v7:HV):Env:=(env52 (.int .i64 p) (.imm .arg 1 (l.map encI)) (.bool false) (.map 0) v7 (.imm .arg 1 (l.map encI)) (.int .i64 (l.length:Int)) (.int .i64 (i:Int)))
theorem within_at' {pol':Pol} (hp:pol'.prim 47=some withinF) (a lo hi:Int) (H:Heap) {b:Bool} (hb:inB a lo hi=b):∀ k,callN Tp pol' (k+1) 47 [.int .i64 a,.int .i64 lo,.int .i64 hi] H=some (.bool b,H):=fun k=>by
  subst hb
  rw [prim_call (pol:=pol') (g:=47) (F:=withinF) hp (rs:=[.int .i64 a,.int .i64 lo,.int .i64 hi]) rfl (res:=.bool (inB a lo hi)) rfl]
  rfl
theorem is_loop (hp:0 ≤ p∧p ≤ 1000) (hl:l.length ≤ 1000):∀ k i (ks:List Int),i+k=l.length → (∀ x,x ∈ ks ↔ x ∈ l.take i) →
    (rsF p (l.take i) (l.drop i)=true∧∃ H,RT polW 52 (sub [1,1,0,1,0] B52) (isE p l i Ud) [mapK encI ks] (.exit 0) (isE p l l.length Ud) H) ∨
    (rsF p (l.take i) (l.drop i)=false∧∃ H i' y,RT polW 52 (sub [1,1,0,1,0] B52) (isE p l i Ud) [mapK encI ks] .ret (isE p l i' y) H):=by
  intro k
  induction k with
  | zero =>
    intro i ks hi hk
    have s:=ist_d_3 p (l.map encI) [mapK encI ks] l.length i (y7:=Ud) (by omega)
    have e:i=l.length:=by omega
    subst e
    exact .inl ⟨by rw [List.drop_length]; rfl,_,lpo (s)⟩
  | succ k ih =>
    intro i ks hi hk
    have hlt:i < l.length:=by omega
    rw [rsF_cons hlt]
    have w:IntKind.i64.wrap (p - 1)=p - 1:=wrap_id (by omega) (by omega)
    by_cases c1:0 ≤ l.getD i 0∧l.getD i 0 < p
    · have wi:=within_at' (pol':=polW) (by kernel_rfl) (l.getD i 0) 0 (p - 1) [mapK encI ks] (b:=true) (decide_eq_true (by omega))
      have lk:=map_lk keyI (H:=[mapK encI ks]) (b:=0) rfl (l.getD i 0)
      by_cases c2:l.getD i 0 ∈ l.take i
      · rw [decide_eq_true ((hk _).2 c2)] at lk
        have s:=ist_d_0 p (l.map encI) [mapK encI ks] l.length i (y7:=Ud) (by omega) (gx hlt) (by rw [w]; exact wi) lk
        exact .inr ⟨by rw [decide_eq_true c2]; simp,_,_,_,lpo (s)⟩
      · rw [decide_eq_false (fun h=>c2 ((hk _).1 h))] at lk
        have up:=map_upd keyI (H:=[mapK encI ks]) (b:=0) rfl (l.getD i 0)
        have s:=ist_d_1 p (l.map encI) [mapK encI ks] l.length i (y7:=Ud) (by omega) (gx hlt) (by rw [w]; exact wi) lk up
        rw [wrap_succ (by omega)] at s
        have et:l.take (i+1)=l.take i ++ [l.getD i 0]:=by rw [List.take_add_one]; simp [List.getD,List.getElem?_eq_getElem hlt]
        rw [decide_eq_true c1,decide_eq_false c2]
        rcases ih (i+1) (ins (l.getD i 0) ks) (by omega) (fun x=>by rw [mem_ins,et,List.mem_append,List.mem_singleton,hk]; exact Or.comm) with ⟨b,H,r⟩ | ⟨b,H,i',y,r⟩
        · exact .inl ⟨by rw [b]; rfl,H,lop (s) (gc_eq _ rfl) (r)⟩
        · exact .inr ⟨by rw [b]; rfl,H,i',y,lop (s) (gc_eq _ rfl) (r)⟩
    · have wi:=within_at' (pol':=polW) (by kernel_rfl) (l.getD i 0) 0 (p - 1) [mapK encI ks] (b:=false) (decide_eq_false (by omega))
      have s:=ist_d_2 p (l.map encI) [mapK encI ks] l.length i (y7:=Ud) (by omega) (gx hlt) (by rw [w]; exact wi)
      exact .inr ⟨by rw [decide_eq_false c1]; rfl,_,_,_,lpo (s)⟩
end
theorem isSet_ok:PrimOk Tp 52 isSet52:=by
  refine primOk_pure (pol:=polW) (fn:=Try.f52) (cd:=B52) follows_mixed soundW (by kernel_rfl) (by kernel_rfl) (fnok polW.prim _ _ (by kernel_rfl)) (by kernel_rfl) ?_
  intro args res h
  obtain ⟨p,l,rfl,hq⟩:=plF_inv h
  clear h
  split at hq
  case isFalse=>cases hq
  rename_i hk
  cases hq
  obtain ⟨hp,hl⟩:=hk
  have a:=ist_a_0 p (l.map encI)
  have b:=ist_b_0 p (l.map encI) [] (y5:=Ud) (y7:=Ud) (y9:=Ud) (y10:=Ud) (y11:=Ud) (H0:=[mapK encI []]) rfl
  have c:=ist_c_0 p (l.map encI) [mapK encI []] (y7:=Ud) (y9:=Ud) (y10:=Ud) (y11:=Ud)
  rw [List.length_map] at c
  rcases is_loop hp hl l.length 0 [] (by omega) (by simp) with ⟨d,H,r⟩ | ⟨d,H,i',y,r⟩
  · rw [List.take_zero,List.drop_zero] at d
    by_cases h0:0 < l.length
    · have z:=ist_e_0 p (l.map encI) H (y7:=Ud) (y9:=.imm .arg 1 (l.map encI)) (y10:=.int .i64 (l.length:Int)) (y11:=.int .i64 (l.length:Int)) (by rw [List.length_map]; omega)
      have e:setT p l=true:=by rw [setT,d,decide_eq_true h0]; rfl
      exact ⟨_,_,_,.bool true,sq (a) (sq (b) (sq (sq (c) (bke (c:=sub [1,1,0,1] B52) (r)) (c:=sub [1,1,0] B52)) (z) (c:=sub [1,1] B52)) (c:=sub [1] B52)) (c:=B52),by simp,by simp only [resultsV,res52]; rfl,by rw [e]; rfl⟩
    · have z:=ist_e_1 p (l.map encI) H (y7:=Ud) (y9:=.imm .arg 1 (l.map encI)) (y10:=.int .i64 (l.length:Int)) (y11:=.int .i64 (l.length:Int)) (by rw [List.length_map]; omega)
      have e:setT p l=false:=by rw [setT,decide_eq_false h0,Bool.and_false]
      exact ⟨_,_,_,.bool false,sq (a) (sq (b) (sq (sq (c) (bke (c:=sub [1,1,0,1] B52) (r)) (c:=sub [1,1,0] B52)) (z) (c:=sub [1,1] B52)) (c:=sub [1] B52)) (c:=B52),by simp,by simp only [resultsV,res52]; rfl,by rw [e]; rfl⟩
  · rw [List.take_zero,List.drop_zero] at d
    have e:setT p l=false:=by rw [setT,d]; rfl
    exact ⟨_,_,_,.bool false,sq (a) (sq (b) (sqo (sq (c) (RunsTo.block_ret (i:=0) (c:=sub [1,1,0,1] B52) (r) (by kernel_rfl)) (c:=sub [1,1,0] B52)) (c:=sub [1,1] B52) (b:=sub [1,1,1] B52)) (c:=sub [1] B52)) (c:=B52),by simp,by simp only [resultsV,res52]; rfl,by rw [e]; rfl⟩
end Go.Proofs.Ytaibmipamkaljaa
end
section
open Go Go.HL Go.HL.So
namespace Go.Proofs.Ytaibmipamkaljaa
open Go.Proofs.Try renaming prog → Tp
open Go.HL.HV renaming undef → Ud
def prSo:FuncId → Option (List HV → Option HV):=fun g=>if g == 78 then some less78 else if g == 68 then some len82 else if g == 93 then some next93 else if g == 47 then some withinF else if g == 51 then some isPrime51 else if g == 52 then some isSet52 else none
def polSo:Pol:={ pol with shared:=fun g=>sharedT.contains g || g == 54,prim:=prSo }
theorem soundSo (n:Nat):CallSound Tp (callN Tp polSo n):=sound_primC prSo (fun g f h=>by
  unfold prSo at h
  split at h
  · rename_i hg; cases h; rw [eq_of_beq hg]; exact less78_ok
  split at h
  · rename_i hg; cases h; rw [eq_of_beq hg]; exact len68_ok
  split at h
  · rename_i hg; cases h; rw [eq_of_beq hg]; exact next_ok
  split at h
  · rename_i hg; cases h; rw [eq_of_beq hg]; exact within_ok
  split at h
  · rename_i hg; cases h; rw [eq_of_beq hg]; exact isPrime_ok
  split at h
  · rename_i hg; cases h; rw [eq_of_beq hg]; exact isSet_ok
  · cases h) n
theorem fnokSo (g:FuncId) (fn:Func) (h:Tp.funcs[g]?=some fn):fnOk polSo g fn=true:=by
  have:=fnOk_prim (pol:={ pol with shared:=fun g=>sharedT.contains g || g == 54 }) (F:=prSo) g fn
  show fnOk { pol with shared:=fun g=>sharedT.contains g || g == 54,prim:=prSo } g fn=true
  rw [this]
  exact List.all_eq_true.1 fns_okAw (fn,g) (by
    rw [List.mem_zipIdx_iff_getElem?]
    simpa using h)
theorem RunsTo.block_other {P:Program} {pol:Pol} {f:FuncId} {b c:Code} {e E:Env} {H H':Heap} {x:X} {K:List Nat} {i:Nat} (h:RunsTo P pol f b e H x K E H') (hx:x ≠ .exit i) (hc:c=.block i b):RunsTo P pol f c e H x K E H':=by
  have:=RunsTo.block hc h
  rwa [if_neg hx] at this
theorem RunsTo.skip {P:Program} {pol:Pol} {f:FuncId} {c:Code} {e E:Env} {H:Heap} {K:List Nat} (hE:restr K e=E) (hc:c=.skip):RunsTo P pol f c e H .normal K E H:=by
  subst hc
  refine ⟨1,fun n k hn _=>⟨e,?_,hE⟩⟩
  obtain ⟨n,rfl⟩:∃ m,n=m+1:=⟨n - 1,by omega⟩
  rfl
theorem mxs_le {m:Nat}:∀ {H:Heap},mxs H ≤ m ↔ ∀ B ∈ H,B.mx ≤ m
  | []=>by simp [mxs]
  | B :: H=>by
    have:=mxs_le (m:=m) (H:=H)
    simp only [mxs,List.mem_cons,forall_eq_or_imp,← this]
    omega
abbrev ClS (g:FuncId) (args:List HV) (H:Heap) (r:HV) (H':Heap):Prop:=CallsTo (P:=Tp) (pol:=polSo) g args H r H'
end Go.Proofs.Ytaibmipamkaljaa
end
section
open Go Go.HL
namespace Go.Proofs.Ytaibmipamkaljaa
set_option maxRecDepth 100000
open Go.Proofs.Try renaming prog → Tp
open Go.HL.HV renaming undef → Ud
noncomputable def B19:Code:=Try.f19.body.getD .skip
abbrev env19 (v0 v1 v2 v6 v7 v8 v10 v12 v33 v34 v35 v39 v40 v41:HV):Env:=[(0,v0),(1,v1),(2,v2),(6,v6),(7,v7),(8,v8),(10,v10),(12,v12),(33,v33),(34,v34),(35,v35),(39,v39),(40,v40),(41,v41)]
theorem bt_a_0 (p:Int) (l m:List HV) :RT polSo 19 (sub [0] B19) [(0,.i p),(1,.a l),(2,.a m)] [] .normal (env19 (.i p) (.a l) (.a m) (.imm .lit 1 []) (.i 0) Ud Ud Ud Ud Ud Ud Ud Ud Ud) [] :=
  RunsTo.hin 0 60 [] fun kf hk=>⟨_,by kernel_rfl,.nil⟩
theorem bt_b_0 (p:Int) (l m:List HV)  {y8 y10 y12 y33 y34 y35 y39 y40 y41:HV}(g0:∀ kf,callN Tp polSo (kf+1) 47 [.i p,.i 2,.i 97] []=some (.bool true,[])) (g1:∀ kf,callN Tp polSo (kf+1) 51 [.i p] []=some (.bool true,[])) (g2:∀ kf,callN Tp polSo (kf+1) 52 [.i p,.a l] []=some (.bool true,[])) (g3:∀ kf,callN Tp polSo (kf+1) 52 [.i p,.a m] []=some (.bool true,[])):RT polSo 19 (sub [1,0] B19) (env19 (.i p) (.a l) (.a m) (.imm .lit 1 []) (.i 0) y8 y10 y12 y33 y34 y35 y39 y40 y41) [] .normal (env19 (.i p) (.a l) (.a m) (.imm .lit 1 []) (.i 0) y8 y10 y12 y33 y34 y35 y39 y40 y41) [] :=
  RunsTo.hin 0 60 [⟨1,1,.bool true,[]⟩,⟨1,5,.bool true,[]⟩,⟨1,11,.bool true,[]⟩,⟨1,17,.bool true,[]⟩] fun kf hk=>⟨_,by kernel_rfl,(oC (g0 kf) (oC (g1 kf) (oC (g2 kf) (oC (g3 kf) .nil))))⟩
theorem bt_b_1 (p:Int) (l m:List HV)  {y8 y10 y12 y33 y34 y35 y39 y40 y41:HV}(g0:∀ kf,callN Tp polSo (kf+1) 47 [.i p,.i 2,.i 97] []=some (.bool true,[])) (g1:∀ kf,callN Tp polSo (kf+1) 51 [.i p] []=some (.bool true,[])) (g2:∀ kf,callN Tp polSo (kf+1) 52 [.i p,.a l] []=some (.bool true,[])) (g3:∀ kf,callN Tp polSo (kf+1) 52 [.i p,.a m] []=some (.bool false,[])):RT polSo 19 (sub [1,0] B19) (env19 (.i p) (.a l) (.a m) (.imm .lit 1 []) (.i 0) y8 y10 y12 y33 y34 y35 y39 y40 y41) [] .ret (env19 (.i p) (.a l) (.a m) (.imm .lit 1 []) (.i 2) y8 y10 y12 y33 y34 y35 y39 y40 y41) [] :=
  RunsTo.hin 0 60 [⟨1,1,.bool true,[]⟩,⟨1,5,.bool true,[]⟩,⟨1,11,.bool true,[]⟩,⟨1,17,.bool false,[]⟩] fun kf hk=>⟨_,by kernel_rfl,(oC (g0 kf) (oC (g1 kf) (oC (g2 kf) (oC (g3 kf) .nil))))⟩
theorem bt_b_2 (p:Int) (l m:List HV)  {y8 y10 y12 y33 y34 y35 y39 y40 y41:HV}(g0:∀ kf,callN Tp polSo (kf+1) 47 [.i p,.i 2,.i 97] []=some (.bool true,[])) (g1:∀ kf,callN Tp polSo (kf+1) 51 [.i p] []=some (.bool true,[])) (g2:∀ kf,callN Tp polSo (kf+1) 52 [.i p,.a l] []=some (.bool false,[])):RT polSo 19 (sub [1,0] B19) (env19 (.i p) (.a l) (.a m) (.imm .lit 1 []) (.i 0) y8 y10 y12 y33 y34 y35 y39 y40 y41) [] .ret (env19 (.i p) (.a l) (.a m) (.imm .lit 1 []) (.i 2) y8 y10 y12 y33 y34 y35 y39 y40 y41) [] :=
  RunsTo.hin 0 60 [⟨1,1,.bool true,[]⟩,⟨1,5,.bool true,[]⟩,⟨1,11,.bool false,[]⟩] fun kf hk=>⟨_,by kernel_rfl,(oC (g0 kf) (oC (g1 kf) (oC (g2 kf) .nil)))⟩
theorem bt_b_3 (p:Int) (l m:List HV)  {y8 y10 y12 y33 y34 y35 y39 y40 y41:HV}(g0:∀ kf,callN Tp polSo (kf+1) 47 [.i p,.i 2,.i 97] []=some (.bool true,[])) (g1:∀ kf,callN Tp polSo (kf+1) 51 [.i p] []=some (.bool false,[])):RT polSo 19 (sub [1,0] B19) (env19 (.i p) (.a l) (.a m) (.imm .lit 1 []) (.i 0) y8 y10 y12 y33 y34 y35 y39 y40 y41) [] .ret (env19 (.i p) (.a l) (.a m) (.imm .lit 1 []) (.i 2) y8 y10 y12 y33 y34 y35 y39 y40 y41) [] :=
  RunsTo.hin 0 60 [⟨1,1,.bool true,[]⟩,⟨1,5,.bool false,[]⟩] fun kf hk=>⟨_,by kernel_rfl,(oC (g0 kf) (oC (g1 kf) .nil))⟩
theorem bt_b_4 (p:Int) (l m:List HV)  {y8 y10 y12 y33 y34 y35 y39 y40 y41:HV}(g0:∀ kf,callN Tp polSo (kf+1) 47 [.i p,.i 2,.i 97] []=some (.bool false,[])):RT polSo 19 (sub [1,0] B19) (env19 (.i p) (.a l) (.a m) (.imm .lit 1 []) (.i 0) y8 y10 y12 y33 y34 y35 y39 y40 y41) [] .ret (env19 (.i p) (.a l) (.a m) (.imm .lit 1 []) (.i 2) y8 y10 y12 y33 y34 y35 y39 y40 y41) [] :=
  RunsTo.hin 0 60 [⟨1,1,.bool false,[]⟩] fun kf hk=>⟨_,by kernel_rfl,(oC (g0 kf) .nil)⟩
theorem bt_c_0 (p:Int) (l m:List HV)  {y8 y10 y12 y33 y34 y35 y39 y40 y41:HV}:RT polSo 19 (sub [1,1,0] B19) (env19 (.i p) (.a l) (.a m) (.imm .lit 1 []) (.i 0) y8 y10 y12 y33 y34 y35 y39 y40 y41) [] .normal (env19 (.i p) (.a l) (.a m) (.imm .lit 1 []) (.i 0) (.s 0 0) y10 y12 y33 y34 y35 y39 y40 y41) [.b []] :=
  RunsTo.hin 0 60 [] fun kf hk=>⟨_,by kernel_rfl,.nil⟩
theorem bt_d_0 (p:Int) (l m:List HV)  (z:Nat) (os:List HV) {y10 y12 y33 y34 y35 y39 y40 y41:HV}:RT polSo 19 (sub [1,1,1,0,0] B19) (env19 (.i p) (.a l) (.a m) (.imm .lit 1 []) (.i 0) (.s 0 z) y10 y12 y33 y34 y35 y39 y40 y41) [.b os] .normal (env19 (.i p) (.a l) (.a m) (.imm .lit 1 []) (.i 0) (.s 0 z) y10 y12 (.a l) (.i (l.length:Int)) (.i 0) y39 y40 y41) [.b os] :=
  RunsTo.hin 0 60 [] fun kf hk=>⟨_,by kernel_rfl,.nil⟩
theorem bt_e_0 (p:Int) (l m:List HV)  (z:Nat) (os:List HV) (n1 i:Nat) {y10 y12 y39 y40 y41:HV}(g0:(i:Int) < (n1:Int)):RunsTo Tp polSo 19 (sub [1,1,1,0,1,0,0,0] B19) (env19 (.i p) (.a l) (.a m) (.imm .lit 1 []) (.i 0) (.s 0 z) y10 y12 (.a l) (.i (n1:Int)) (.i (i:Int)) y39 y40 y41) [.b os] .normal [0,1,2,6,7,8,10,12,33,34,35,39,40,41,36] [(0,.i p),(1,.a l),(2,.a m),(6,.imm .lit 1 []),(7,.i 0),(8,.s 0 z),(10,y10),(12,y12),(33,.a l),(34,.i (n1:Int)),(35,.i (i:Int)),(39,y39),(40,y40),(41,y41),(36,.bool true)] [.b os] :=
  RunsTo.hin 0 60 [⟨5,0,.bool true,[.b os]⟩] fun kf hk=>⟨_,by kernel_rfl,(oB [.b os] (decide_eq_true g0) .nil)⟩
theorem bt_e_1 (p:Int) (l m:List HV)  (z:Nat) (os:List HV) (n1 i:Nat) {y10 y12 y39 y40 y41:HV}(g0:¬ ((i:Int) < (n1:Int))):RunsTo Tp polSo 19 (sub [1,1,1,0,1,0,0,0] B19) (env19 (.i p) (.a l) (.a m) (.imm .lit 1 []) (.i 0) (.s 0 z) y10 y12 (.a l) (.i (n1:Int)) (.i (i:Int)) y39 y40 y41) [.b os] .normal [0,1,2,6,7,8,10,12,33,34,35,39,40,41,36] [(0,.i p),(1,.a l),(2,.a m),(6,.imm .lit 1 []),(7,.i 0),(8,.s 0 z),(10,y10),(12,y12),(33,.a l),(34,.i (n1:Int)),(35,.i (i:Int)),(39,y39),(40,y40),(41,y41),(36,.bool false)] [.b os] :=
  RunsTo.hin 0 60 [⟨5,0,.bool false,[.b os]⟩] fun kf hk=>⟨_,by kernel_rfl,(oB [.b os] (decide_eq_false g0) .nil)⟩
theorem bt_et_0 (p:Int) (l m:List HV)  (z:Nat) (os:List HV) (n1 i:Nat) {y10 y12 y39 y40 y41:HV}:RT polSo 19 (sub [1,1,1,0,1,0,0,1,0] B19) [(0,.i p),(1,.a l),(2,.a m),(6,.imm .lit 1 []),(7,.i 0),(8,.s 0 z),(10,y10),(12,y12),(33,.a l),(34,.i (n1:Int)),(35,.i (i:Int)),(39,y39),(40,y40),(41,y41),(36,.bool true)] [.b os] .normal (env19 (.i p) (.a l) (.a m) (.imm .lit 1 []) (.i 0) (.s 0 z) y10 y12 (.a l) (.i (n1:Int)) (.i (i:Int)) y39 y40 y41) [.b os] :=
  RunsTo.hin 0 60 [] fun kf hk=>⟨_,by kernel_rfl,.nil⟩
theorem bt_ef_0 (p:Int) (l m:List HV)  (z:Nat) (os:List HV) (n1 i:Nat) {y10 y12 y39 y40 y41:HV}:RT polSo 19 (sub [1,1,1,0,1,0,0,1,0] B19) [(0,.i p),(1,.a l),(2,.a m),(6,.imm .lit 1 []),(7,.i 0),(8,.s 0 z),(10,y10),(12,y12),(33,.a l),(34,.i (n1:Int)),(35,.i (i:Int)),(39,y39),(40,y40),(41,y41),(36,.bool false)] [.b os] (.exit 0) (env19 (.i p) (.a l) (.a m) (.imm .lit 1 []) (.i 0) (.s 0 z) y10 y12 (.a l) (.i (n1:Int)) (.i (i:Int)) y39 y40 y41) [.b os] :=
  RunsTo.hin 0 60 [] fun kf hk=>⟨_,by kernel_rfl,.nil⟩
theorem bt_f_0 (p:Int) (l m:List HV)  (z:Nat) (os:List HV) (n1 i:Nat) {y10 y12 y39 y40 y41:HV} {x0:Int} (g0:idxV Tp 22 (.a l) (.i (i:Int))=some (.vptr (.i x0))):RT polSo 19 (sub [1,1,1,0,1,0,0,1,1,0,0,0] B19) (env19 (.i p) (.a l) (.a m) (.imm .lit 1 []) (.i 0) (.s 0 z) y10 y12 (.a l) (.i (n1:Int)) (.i (i:Int)) y39 y40 y41) [.b os] .normal (env19 (.i p) (.a l) (.a m) (.imm .lit 1 []) (.i 0) (.s 0 z) (.i x0) y12 (.a l) (.i (n1:Int)) (.i (i:Int)) y39 y40 y41) [.b os] :=
  RunsTo.hin 0 60 [⟨6,0,.vptr (.i x0),[.b os]⟩] fun kf hk=>⟨_,by kernel_rfl,(oP [.b os] g0 .nil)⟩
theorem bt_g_0 (p:Int) (l m:List HV)  (z:Nat) (os:List HV) (n1 i:Nat) (x:Int) {y12 y39 y40 y41:HV}:RT polSo 19 (sub [1,1,1,0,1,0,0,1,1,0,0,1,0] B19) (env19 (.i p) (.a l) (.a m) (.imm .lit 1 []) (.i 0) (.s 0 z) (.i x) y12 (.a l) (.i (n1:Int)) (.i (i:Int)) y39 y40 y41) [.b os] .normal (env19 (.i p) (.a l) (.a m) (.imm .lit 1 []) (.i 0) (.s 0 z) (.i x) y12 (.a l) (.i (n1:Int)) (.i (i:Int)) (.a m) (.i (m.length:Int)) (.i 0)) [.b os] :=
  RunsTo.hin 0 60 [] fun kf hk=>⟨_,by kernel_rfl,.nil⟩
theorem bt_h_0 (p:Int) (l m:List HV)  (z:Nat) (os:List HV) (n1 i:Nat) (n2 j:Nat) (x:Int) {y12:HV} {x0:Int} (g0:(j:Int) < (n2:Int)) (g1:idxV Tp 22 (.a m) (.i (j:Int))=some (.vptr (.i x0))) (g2:binV Tp .rem 3 (.i (IntKind.i64.wrap (x+x0))) (.i p)=some (.i ((IntKind.i64.wrap (x+x0):Int).tmod p))) (g3:appV [.b os] 1 8 (.s 0 z) [.i ((IntKind.i64.wrap (x+x0):Int).tmod p)]=some (.sl 0 0 (z+1) none (z+1) 1,[.arr 1 (os ++ [.i ((IntKind.i64.wrap (x+x0):Int).tmod p)]) true 0])):RT polSo 19 (sub [1,1,1,0,1,0,0,1,1,0,0,1,1,0,0] B19) (env19 (.i p) (.a l) (.a m) (.imm .lit 1 []) (.i 0) (.s 0 z) (.i x) y12 (.a l) (.i (n1:Int)) (.i (i:Int)) (.a m) (.i (n2:Int)) (.i (j:Int))) [.b os] .normal (env19 (.i p) (.a l) (.a m) (.imm .lit 1 []) (.i 0) (.sl 0 0 (z+1) none (z+1) 1) (.i x) (.i x0) (.a l) (.i (n1:Int)) (.i (i:Int)) (.a m) (.i (n2:Int)) (.i (IntKind.i64.wrap ((j:Int)+1)))) [.arr 1 (os ++ [.i ((IntKind.i64.wrap (x+x0):Int).tmod p)]) true 0] :=
  RunsTo.hin 0 60 [⟨8,0,.bool true,[.b os]⟩,⟨9,0,.vptr (.i x0),[.b os]⟩,⟨10,5,.i ((IntKind.i64.wrap (x+x0):Int).tmod p),[.b os]⟩,⟨10,7,.sl 0 0 (z+1) none (z+1) 1,[.arr 1 (os ++ [.i ((IntKind.i64.wrap (x+x0):Int).tmod p)]) true 0]⟩] fun kf hk=>⟨_,by kernel_rfl,(oB [.b os] (decide_eq_true g0) (oP [.b os] g1 (oP [.b os] g2 (oC (g3) .nil))))⟩
theorem bt_h_1 (p:Int) (l m:List HV)  (z:Nat) (os:List HV) (n1 i:Nat) (n2 j:Nat) (x:Int) {y12:HV}(g0:¬ ((j:Int) < (n2:Int))):RT polSo 19 (sub [1,1,1,0,1,0,0,1,1,0,0,1,1,0,0] B19) (env19 (.i p) (.a l) (.a m) (.imm .lit 1 []) (.i 0) (.s 0 z) (.i x) y12 (.a l) (.i (n1:Int)) (.i (i:Int)) (.a m) (.i (n2:Int)) (.i (j:Int))) [.b os] (.exit 2) (env19 (.i p) (.a l) (.a m) (.imm .lit 1 []) (.i 0) (.s 0 z) (.i x) y12 (.a l) (.i (n1:Int)) (.i (i:Int)) (.a m) (.i (n2:Int)) (.i (j:Int))) [.b os] :=
  RunsTo.hin 0 60 [⟨8,0,.bool false,[.b os]⟩] fun kf hk=>⟨_,by kernel_rfl,(oB [.b os] (decide_eq_false g0) .nil)⟩
theorem bt_i_0 (p:Int) (l m:List HV)  (z:Nat) (os:List HV) (n1 i:Nat) {y10 y12 y39 y40 y41:HV}:RT polSo 19 (sub [1,1,1,0,1,0,0,1,1,1] B19) (env19 (.i p) (.a l) (.a m) (.imm .lit 1 []) (.i 0) (.s 0 z) y10 y12 (.a l) (.i (n1:Int)) (.i (i:Int)) y39 y40 y41) [.b os] .normal (env19 (.i p) (.a l) (.a m) (.imm .lit 1 []) (.i 0) (.s 0 z) y10 y12 (.a l) (.i (n1:Int)) (.i (IntKind.i64.wrap ((i:Int)+1))) y39 y40 y41) [.b os] :=
  RunsTo.hin 0 60 [] fun kf hk=>⟨_,by kernel_rfl,.nil⟩
theorem bt_j_0 (N:Nat) (p:Int) (l m:List HV) (z u:Nat) (H:Heap) {y10 y12 y33 y34 y35 y39 y40 y41:HV} {H0:Heap} {H1:Heap} (g0:∀ kf,N ≤ kf → callN Tp polSo (kf+1) 53 [.s 0 z] H=some (.tuple [],H0)) (g1:∀ kf,N ≤ kf → callN Tp polSo (kf+1) 54 [.s 0 z] H0=some (.sl 0 0 u none z 1,H1)):RT polSo 19 (sub [1,1,1,1] B19) (env19 (.i p) (.a l) (.a m) (.imm .lit 1 []) (.i 0) (.s 0 z) y10 y12 y33 y34 y35 y39 y40 y41) H .ret (env19 (.i p) (.a l) (.a m) (.sl 0 0 u none z 1) (.i 0) (.s 0 z) y10 y12 y33 y34 y35 y39 y40 y41) H1 :=
  RunsTo.hin N 60 [⟨13,1,.tuple [],H0⟩,⟨14,1,.sl 0 0 u none z 1,H1⟩] fun kf hk=>⟨_,by kernel_rfl,(oC (g0 kf (by omega)) (oC (g1 kf (by omega)) .nil))⟩
end Go.Proofs.Ytaibmipamkaljaa
end
section
open Go Go.HL
namespace Go.Proofs.Ytaibmipamkaljaa
set_option maxRecDepth 100000
open Go.Proofs.Try renaming prog → Tp
open Go.HL.HV renaming undef → Ud
noncomputable def B72:Code:=Try.f72.body.getD .skip
abbrev env72 (v0 v1 v2 v6 v7:HV):Env:=[(0,v0),(1,v1),(2,v2),(6,v6),(7,v7)]
theorem is_a_0 (N:Nat) (db n:Nat) (cap:Option Nat) (H:Heap) (x:Nat) (a:Nat) (b:Nat):RT polSo 72 (sub [0] B72) [(0,.c db n cap),(1,.i (a:Int)),(2,.i (b:Int))] H .normal (env72 (.c db n cap) (.i (a:Int)) (.i (b:Int)) (.i (IntKind.i64.wrap ((a:Int)+1))) Ud) H :=
  RunsTo.hin N 60 [] fun kf hk=>⟨_,by kernel_rfl,.nil⟩
theorem is_b_0 (N:Nat) (db n:Nat) (cap:Option Nat) (H:Heap) (x:Nat) (a:Nat) (b:Nat) (i:Nat) {y7:HV}(g0:(i:Int) < (b:Int)):RT polSo 72 (sub [1,0,0,0] B72) (env72 (.c db n cap) (.i (a:Int)) (.i (b:Int)) (.i (i:Int)) y7) H .normal (env72 (.c db n cap) (.i (a:Int)) (.i (b:Int)) (.i (i:Int)) y7) H :=
  RunsTo.hin N 60 [⟨1,2,.bool true,H⟩] fun kf hk=>⟨_,by kernel_rfl,(oB H (decide_eq_true g0) .nil)⟩
theorem is_b_1 (N:Nat) (db n:Nat) (cap:Option Nat) (H:Heap) (x:Nat) (a:Nat) (b:Nat) (i:Nat) {y7:HV}(g0:¬ ((i:Int) < (b:Int))):RT polSo 72 (sub [1,0,0,0] B72) (env72 (.c db n cap) (.i (a:Int)) (.i (b:Int)) (.i (i:Int)) y7) H (.exit 0) (env72 (.c db n cap) (.i (a:Int)) (.i (b:Int)) (.i (i:Int)) y7) H :=
  RunsTo.hin N 60 [⟨1,2,.bool false,H⟩] fun kf hk=>⟨_,by kernel_rfl,(oB H (decide_eq_false g0) .nil)⟩
theorem is_c_0 (N:Nat) (db n:Nat) (cap:Option Nat) (H:Heap) (x:Nat) (a:Nat) (b:Nat) (i:Nat) {y7:HV}:RT polSo 72 (sub [1,0,0,1,0,0,0] B72) (env72 (.c db n cap) (.i (a:Int)) (.i (b:Int)) (.i (i:Int)) y7) H .normal (env72 (.c db n cap) (.i (a:Int)) (.i (b:Int)) (.i (i:Int)) (.i (i:Int))) H :=
  RunsTo.hin N 60 [] fun kf hk=>⟨_,by kernel_rfl,.nil⟩
theorem is_d_0 (N:Nat) (db n:Nat) (cap:Option Nat) (H:Heap) (x:Nat) (a:Nat) (b:Nat) (i:Nat) (j:Nat) {a0:HV} {v0:HV} {a1:HV} {v1:HV} {H0:Heap} {a2:HV} {v2:HV} {a3:HV} {v3:HV} {a4:HV} {H1:Heap} {a5:HV} {H2:Heap} (g0:(a:Int) < (j:Int)) (g1:idxV Tp 22 (.c db n cap) (.i (j:Int))=some (a0)) (g2:loadV Tp H 3 (a0)=some (v0)) (g3:idxV Tp 22 (.c db n cap) (.i (IntKind.i64.wrap ((j:Int) - 1)))=some (a1)) (g4:loadV Tp H 3 (a1)=some (v1)) (g5:∀ kf,N ≤ kf → callN Tp polSo (kf+1) 78 [v0,v1] H=some (.bool true,H0)) (g6:idxV Tp 22 (.c db n cap) (.i (IntKind.i64.wrap ((j:Int) - 1)))=some (a2)) (g7:loadV Tp H0 3 (a2)=some (v2)) (g8:idxV Tp 22 (.c db n cap) (.i (j:Int))=some (a3)) (g9:loadV Tp H0 3 (a3)=some (v3)) (g10:idxV Tp 22 (.c db n cap) (.i (j:Int))=some (a4)) (g11:storeV Tp H0 3 (a4) (v2)=some H1) (g12:idxV Tp 22 (.c db n cap) (.i (IntKind.i64.wrap ((j:Int) - 1)))=some (a5)) (g13:storeV Tp H1 3 (a5) (v3)=some H2):RT polSo 72 (sub [1,0,0,1,0,0,1,0,0] B72) (env72 (.c db n cap) (.i (a:Int)) (.i (b:Int)) (.i (i:Int)) (.i (j:Int))) H .normal (env72 (.c db n cap) (.i (a:Int)) (.i (b:Int)) (.i (i:Int)) (.i (IntKind.i64.wrap ((j:Int) - 1)))) H2 :=
  RunsTo.hin N 60 [⟨4,2,.bool true,H⟩,⟨4,6,a0,H⟩,⟨4,7,v0,H⟩,⟨4,11,a1,H⟩,⟨4,12,v1,H⟩,⟨4,13,.bool true,H0⟩,⟨6,8,a2,H0⟩,⟨6,9,v2,H0⟩,⟨6,12,a3,H0⟩,⟨6,13,v3,H0⟩,⟨6,14,a4,H0⟩,⟨6,15,.tuple [],H1⟩,⟨6,16,a5,H1⟩,⟨6,17,.tuple [],H2⟩] fun kf hk=>⟨_,by kernel_rfl,(oB H (decide_eq_true g0) (oP H g1 (oP H g2 (oP H g3 (oP H g4 (oC (g5 kf (by omega)) (oP H0 g6 (oP H0 g7 (oP H0 g8 (oP H0 g9 (oP H0 g10 (oS g11 (oP H1 g12 (oS g13 .nil))))))))))))))⟩
theorem is_d_1 (N:Nat) (db n:Nat) (cap:Option Nat) (H:Heap) (x:Nat) (a:Nat) (b:Nat) (i:Nat) (j:Nat) {a0:HV} {v0:HV} {a1:HV} {v1:HV} {H0:Heap} (g0:(a:Int) < (j:Int)) (g1:idxV Tp 22 (.c db n cap) (.i (j:Int))=some (a0)) (g2:loadV Tp H 3 (a0)=some (v0)) (g3:idxV Tp 22 (.c db n cap) (.i (IntKind.i64.wrap ((j:Int) - 1)))=some (a1)) (g4:loadV Tp H 3 (a1)=some (v1)) (g5:∀ kf,N ≤ kf → callN Tp polSo (kf+1) 78 [v0,v1] H=some (.bool false,H0)):RT polSo 72 (sub [1,0,0,1,0,0,1,0,0] B72) (env72 (.c db n cap) (.i (a:Int)) (.i (b:Int)) (.i (i:Int)) (.i (j:Int))) H (.exit 2) (env72 (.c db n cap) (.i (a:Int)) (.i (b:Int)) (.i (i:Int)) (.i (j:Int))) H0 :=
  RunsTo.hin N 60 [⟨4,2,.bool true,H⟩,⟨4,6,a0,H⟩,⟨4,7,v0,H⟩,⟨4,11,a1,H⟩,⟨4,12,v1,H⟩,⟨4,13,.bool false,H0⟩] fun kf hk=>⟨_,by kernel_rfl,(oB H (decide_eq_true g0) (oP H g1 (oP H g2 (oP H g3 (oP H g4 (oC (g5 kf (by omega)) .nil))))))⟩
theorem is_d_2 (N:Nat) (db n:Nat) (cap:Option Nat) (H:Heap) (x:Nat) (a:Nat) (b:Nat) (i:Nat) (j:Nat)(g0:¬ ((a:Int) < (j:Int))):RT polSo 72 (sub [1,0,0,1,0,0,1,0,0] B72) (env72 (.c db n cap) (.i (a:Int)) (.i (b:Int)) (.i (i:Int)) (.i (j:Int))) H (.exit 2) (env72 (.c db n cap) (.i (a:Int)) (.i (b:Int)) (.i (i:Int)) (.i (j:Int))) H :=
  RunsTo.hin N 60 [⟨4,2,.bool false,H⟩] fun kf hk=>⟨_,by kernel_rfl,(oB H (decide_eq_false g0) .nil)⟩
theorem is_e_0 (N:Nat) (db n:Nat) (cap:Option Nat) (H:Heap) (x:Nat) (a:Nat) (b:Nat) (i:Nat) {y7:HV}:RT polSo 72 (sub [1,0,0,1,1] B72) (env72 (.c db n cap) (.i (a:Int)) (.i (b:Int)) (.i (i:Int)) y7) H .normal (env72 (.c db n cap) (.i (a:Int)) (.i (b:Int)) (.i (IntKind.i64.wrap ((i:Int)+1))) y7) H :=
  RunsTo.hin N 60 [] fun kf hk=>⟨_,by kernel_rfl,.nil⟩
noncomputable def B76:Code:=Try.f76.body.getD .skip
abbrev env76 (v0 v1 v2 v6 v7:HV):Env:=[(0,v0),(1,v1),(2,v2),(6,v6),(7,v7)]
theorem rvs_a_0 (N:Nat) (db n:Nat) (cap:Option Nat) (H:Heap) (x:Nat) (a:Nat) (b:Nat):RT polSo 76 (sub [0] B76) [(0,.c db n cap),(1,.i (a:Int)),(2,.i (b:Int))] H .normal (env76 (.c db n cap) (.i (a:Int)) (.i (b:Int)) (.i (a:Int)) Ud) H :=
  RunsTo.hin N 60 [] fun kf hk=>⟨_,by kernel_rfl,.nil⟩
theorem rvs_b_0 (N:Nat) (db n:Nat) (cap:Option Nat) (H:Heap) (x:Nat) (a:Nat) (b:Nat) (i:Nat) {y7:HV}:RT polSo 76 (sub [1,0] B76) (env76 (.c db n cap) (.i (a:Int)) (.i (b:Int)) (.i (i:Int)) y7) H .normal (env76 (.c db n cap) (.i (a:Int)) (.i (b:Int)) (.i (i:Int)) (.i (IntKind.i64.wrap ((b:Int) - 1)))) H :=
  RunsTo.hin N 60 [] fun kf hk=>⟨_,by kernel_rfl,.nil⟩
theorem rvs_c_0 (N:Nat) (db n:Nat) (cap:Option Nat) (H:Heap) (x:Nat) (a:Nat) (b:Nat) (i:Nat) (j:Nat) {a0:HV} {v0:HV} {a1:HV} {v1:HV} {a2:HV} {H0:Heap} {a3:HV} {H1:Heap} (g0:(i:Int) < (j:Int)) (g1:idxV Tp 22 (.c db n cap) (.i (j:Int))=some (a0)) (g2:loadV Tp H 3 (a0)=some (v0)) (g3:idxV Tp 22 (.c db n cap) (.i (i:Int))=some (a1)) (g4:loadV Tp H 3 (a1)=some (v1)) (g5:idxV Tp 22 (.c db n cap) (.i (i:Int))=some (a2)) (g6:storeV Tp H 3 (a2) (v0)=some H0) (g7:idxV Tp 22 (.c db n cap) (.i (j:Int))=some (a3)) (g8:storeV Tp H0 3 (a3) (v1)=some H1):RT polSo 76 (sub [1,1,0,0] B76) (env76 (.c db n cap) (.i (a:Int)) (.i (b:Int)) (.i (i:Int)) (.i (j:Int))) H .normal (env76 (.c db n cap) (.i (a:Int)) (.i (b:Int)) (.i (IntKind.i64.wrap ((i:Int)+1))) (.i (IntKind.i64.wrap ((j:Int) - 1)))) H1 :=
  RunsTo.hin N 60 [⟨2,2,.bool true,H⟩,⟨3,6,a0,H⟩,⟨3,7,v0,H⟩,⟨3,10,a1,H⟩,⟨3,11,v1,H⟩,⟨3,12,a2,H⟩,⟨3,13,.tuple [],H0⟩,⟨3,14,a3,H0⟩,⟨3,15,.tuple [],H1⟩] fun kf hk=>⟨_,by kernel_rfl,(oB H (decide_eq_true g0) (oP H g1 (oP H g2 (oP H g3 (oP H g4 (oP H g5 (oS g6 (oP H0 g7 (oS g8 .nil)))))))))⟩
theorem rvs_c_1 (N:Nat) (db n:Nat) (cap:Option Nat) (H:Heap) (x:Nat) (a:Nat) (b:Nat) (i:Nat) (j:Nat)(g0:¬ ((i:Int) < (j:Int))):RT polSo 76 (sub [1,1,0,0] B76) (env76 (.c db n cap) (.i (a:Int)) (.i (b:Int)) (.i (i:Int)) (.i (j:Int))) H (.exit 0) (env76 (.c db n cap) (.i (a:Int)) (.i (b:Int)) (.i (i:Int)) (.i (j:Int))) H :=
  RunsTo.hin N 60 [⟨2,2,.bool false,H⟩] fun kf hk=>⟨_,by kernel_rfl,(oB H (decide_eq_false g0) .nil)⟩
noncomputable def B92:Code:=Try.f92.body.getD .skip
abbrev env92 (v0 v1 v2 v3 v8 v9:HV):Env:=[(0,v0),(1,v1),(2,v2),(3,v3),(8,v8),(9,v9)]
theorem sf_a_0 (N:Nat) (db n:Nat) (cap:Option Nat) (H:Heap) (x:Nat) (lo:Nat) (hi:Nat) (fi:Nat):RT polSo 92 (sub [0] B92) [(0,.c db n cap),(1,.i (lo:Int)),(2,.i (hi:Int)),(3,.i (fi:Int))] H .normal (env92 (.c db n cap) (.i (lo:Int)) (.i (hi:Int)) (.i (fi:Int)) (.i (lo:Int)) Ud) H :=
  RunsTo.hin N 60 [] fun kf hk=>⟨_,by kernel_rfl,.nil⟩
theorem sf_b_0 (N:Nat) (db n:Nat) (cap:Option Nat) (H:Heap) (x:Nat) (lo:Nat) (hi:Nat) (fi:Nat) (r:Nat) {y9:HV}(g0:(hi:Int) ≤ IntKind.i64.wrap (IntKind.i64.wrap (2 * (r:Int))+1)):RT polSo 92 (sub [1,0,0] B92) (env92 (.c db n cap) (.i (lo:Int)) (.i (hi:Int)) (.i (fi:Int)) (.i (r:Int)) y9) H (.exit 0) (env92 (.c db n cap) (.i (lo:Int)) (.i (hi:Int)) (.i (fi:Int)) (.i (r:Int)) (.i (IntKind.i64.wrap (IntKind.i64.wrap (2 * (r:Int))+1)))) H :=
  RunsTo.hin N 60 [⟨2,2,.bool true,H⟩] fun kf hk=>⟨_,by kernel_rfl,(oB H (decide_eq_true g0) .nil)⟩
theorem sf_b_1 (N:Nat) (db n:Nat) (cap:Option Nat) (H:Heap) (x:Nat) (lo:Nat) (hi:Nat) (fi:Nat) (r:Nat) {y9:HV} {a0:HV} {v0:HV} {a1:HV} {v1:HV} {H0:Heap} {a2:HV} {v2:HV} {a3:HV} {v3:HV} {H1:Heap} {a4:HV} {v4:HV} {a5:HV} {v5:HV} {a6:HV} {H2:Heap} {a7:HV} {H3:Heap} (g0:¬ ((hi:Int) ≤ IntKind.i64.wrap (IntKind.i64.wrap (2 * (r:Int))+1))) (g1:IntKind.i64.wrap (IntKind.i64.wrap (IntKind.i64.wrap (2 * (r:Int))+1)+1) < (hi:Int)) (g2:idxV Tp 22 (.c db n cap) (.i (IntKind.i64.wrap ((fi:Int)+IntKind.i64.wrap (IntKind.i64.wrap (2 * (r:Int))+1))))=some (a0)) (g3:loadV Tp H 3 (a0)=some (v0)) (g4:idxV Tp 22 (.c db n cap) (.i (IntKind.i64.wrap (IntKind.i64.wrap ((fi:Int)+IntKind.i64.wrap (IntKind.i64.wrap (2 * (r:Int))+1))+1)))=some (a1)) (g5:loadV Tp H 3 (a1)=some (v1)) (g6:∀ kf,N ≤ kf → callN Tp polSo (kf+1) 78 [v0,v1] H=some (.bool true,H0)) (g7:idxV Tp 22 (.c db n cap) (.i (IntKind.i64.wrap ((fi:Int)+(r:Int))))=some (a2)) (g8:loadV Tp H0 3 (a2)=some (v2)) (g9:idxV Tp 22 (.c db n cap) (.i (IntKind.i64.wrap ((fi:Int)+IntKind.i64.wrap (IntKind.i64.wrap (IntKind.i64.wrap (2 * (r:Int))+1)+1))))=some (a3)) (g10:loadV Tp H0 3 (a3)=some (v3)) (g11:∀ kf,N ≤ kf → callN Tp polSo (kf+1) 78 [v2,v3] H0=some (.bool true,H1)) (g12:idxV Tp 22 (.c db n cap) (.i (IntKind.i64.wrap ((fi:Int)+IntKind.i64.wrap (IntKind.i64.wrap (IntKind.i64.wrap (2 * (r:Int))+1)+1))))=some (a4)) (g13:loadV Tp H1 3 (a4)=some (v4)) (g14:idxV Tp 22 (.c db n cap) (.i (IntKind.i64.wrap ((fi:Int)+(r:Int))))=some (a5)) (g15:loadV Tp H1 3 (a5)=some (v5)) (g16:idxV Tp 22 (.c db n cap) (.i (IntKind.i64.wrap ((fi:Int)+(r:Int))))=some (a6)) (g17:storeV Tp H1 3 (a6) (v4)=some H2) (g18:idxV Tp 22 (.c db n cap) (.i (IntKind.i64.wrap ((fi:Int)+IntKind.i64.wrap (IntKind.i64.wrap (IntKind.i64.wrap (2 * (r:Int))+1)+1))))=some (a7)) (g19:storeV Tp H2 3 (a7) (v5)=some H3):RT polSo 92 (sub [1,0,0] B92) (env92 (.c db n cap) (.i (lo:Int)) (.i (hi:Int)) (.i (fi:Int)) (.i (r:Int)) y9) H .normal (env92 (.c db n cap) (.i (lo:Int)) (.i (hi:Int)) (.i (fi:Int)) (.i (IntKind.i64.wrap (IntKind.i64.wrap (IntKind.i64.wrap (2 * (r:Int))+1)+1))) (.i (IntKind.i64.wrap (IntKind.i64.wrap (IntKind.i64.wrap (2 * (r:Int))+1)+1)))) H3 :=
  RunsTo.hin N 60 [⟨2,2,.bool false,H⟩,⟨3,3,.bool true,H⟩,⟨3,9,a0,H⟩,⟨3,10,v0,H⟩,⟨3,16,a1,H⟩,⟨3,17,v1,H⟩,⟨3,18,.bool true,H0⟩,⟨5,4,a2,H0⟩,⟨5,5,v2,H0⟩,⟨5,10,a3,H0⟩,⟨5,11,v3,H0⟩,⟨5,12,.bool true,H1⟩,⟨6,12,a4,H1⟩,⟨6,13,v4,H1⟩,⟨6,18,a5,H1⟩,⟨6,19,v5,H1⟩,⟨6,20,a6,H1⟩,⟨6,21,.tuple [],H2⟩,⟨6,22,a7,H2⟩,⟨6,23,.tuple [],H3⟩] fun kf hk=>⟨_,by kernel_rfl,(oB H (decide_eq_false g0) (oB H (decide_eq_true g1) (oP H g2 (oP H g3 (oP H g4 (oP H g5 (oC (g6 kf (by omega)) (oP H0 g7 (oP H0 g8 (oP H0 g9 (oP H0 g10 (oC (g11 kf (by omega)) (oP H1 g12 (oP H1 g13 (oP H1 g14 (oP H1 g15 (oP H1 g16 (oS g17 (oP H2 g18 (oS g19 .nil))))))))))))))))))))⟩
theorem sf_b_2 (N:Nat) (db n:Nat) (cap:Option Nat) (H:Heap) (x:Nat) (lo:Nat) (hi:Nat) (fi:Nat) (r:Nat) {y9:HV} {a0:HV} {v0:HV} {a1:HV} {v1:HV} {H0:Heap} {a2:HV} {v2:HV} {a3:HV} {v3:HV} {H1:Heap} (g0:¬ ((hi:Int) ≤ IntKind.i64.wrap (IntKind.i64.wrap (2 * (r:Int))+1))) (g1:IntKind.i64.wrap (IntKind.i64.wrap (IntKind.i64.wrap (2 * (r:Int))+1)+1) < (hi:Int)) (g2:idxV Tp 22 (.c db n cap) (.i (IntKind.i64.wrap ((fi:Int)+IntKind.i64.wrap (IntKind.i64.wrap (2 * (r:Int))+1))))=some (a0)) (g3:loadV Tp H 3 (a0)=some (v0)) (g4:idxV Tp 22 (.c db n cap) (.i (IntKind.i64.wrap (IntKind.i64.wrap ((fi:Int)+IntKind.i64.wrap (IntKind.i64.wrap (2 * (r:Int))+1))+1)))=some (a1)) (g5:loadV Tp H 3 (a1)=some (v1)) (g6:∀ kf,N ≤ kf → callN Tp polSo (kf+1) 78 [v0,v1] H=some (.bool true,H0)) (g7:idxV Tp 22 (.c db n cap) (.i (IntKind.i64.wrap ((fi:Int)+(r:Int))))=some (a2)) (g8:loadV Tp H0 3 (a2)=some (v2)) (g9:idxV Tp 22 (.c db n cap) (.i (IntKind.i64.wrap ((fi:Int)+IntKind.i64.wrap (IntKind.i64.wrap (IntKind.i64.wrap (2 * (r:Int))+1)+1))))=some (a3)) (g10:loadV Tp H0 3 (a3)=some (v3)) (g11:∀ kf,N ≤ kf → callN Tp polSo (kf+1) 78 [v2,v3] H0=some (.bool false,H1)):RT polSo 92 (sub [1,0,0] B92) (env92 (.c db n cap) (.i (lo:Int)) (.i (hi:Int)) (.i (fi:Int)) (.i (r:Int)) y9) H .ret (env92 (.c db n cap) (.i (lo:Int)) (.i (hi:Int)) (.i (fi:Int)) (.i (r:Int)) (.i (IntKind.i64.wrap (IntKind.i64.wrap (IntKind.i64.wrap (2 * (r:Int))+1)+1)))) H1 :=
  RunsTo.hin N 60 [⟨2,2,.bool false,H⟩,⟨3,3,.bool true,H⟩,⟨3,9,a0,H⟩,⟨3,10,v0,H⟩,⟨3,16,a1,H⟩,⟨3,17,v1,H⟩,⟨3,18,.bool true,H0⟩,⟨5,4,a2,H0⟩,⟨5,5,v2,H0⟩,⟨5,10,a3,H0⟩,⟨5,11,v3,H0⟩,⟨5,12,.bool false,H1⟩] fun kf hk=>⟨_,by kernel_rfl,(oB H (decide_eq_false g0) (oB H (decide_eq_true g1) (oP H g2 (oP H g3 (oP H g4 (oP H g5 (oC (g6 kf (by omega)) (oP H0 g7 (oP H0 g8 (oP H0 g9 (oP H0 g10 (oC (g11 kf (by omega)) .nil))))))))))))⟩
theorem sf_b_3 (N:Nat) (db n:Nat) (cap:Option Nat) (H:Heap) (x:Nat) (lo:Nat) (hi:Nat) (fi:Nat) (r:Nat) {y9:HV} {a0:HV} {v0:HV} {a1:HV} {v1:HV} {H0:Heap} {a2:HV} {v2:HV} {a3:HV} {v3:HV} {H1:Heap} {a4:HV} {v4:HV} {a5:HV} {v5:HV} {a6:HV} {H2:Heap} {a7:HV} {H3:Heap} (g0:¬ ((hi:Int) ≤ IntKind.i64.wrap (IntKind.i64.wrap (2 * (r:Int))+1))) (g1:IntKind.i64.wrap (IntKind.i64.wrap (IntKind.i64.wrap (2 * (r:Int))+1)+1) < (hi:Int)) (g2:idxV Tp 22 (.c db n cap) (.i (IntKind.i64.wrap ((fi:Int)+IntKind.i64.wrap (IntKind.i64.wrap (2 * (r:Int))+1))))=some (a0)) (g3:loadV Tp H 3 (a0)=some (v0)) (g4:idxV Tp 22 (.c db n cap) (.i (IntKind.i64.wrap (IntKind.i64.wrap ((fi:Int)+IntKind.i64.wrap (IntKind.i64.wrap (2 * (r:Int))+1))+1)))=some (a1)) (g5:loadV Tp H 3 (a1)=some (v1)) (g6:∀ kf,N ≤ kf → callN Tp polSo (kf+1) 78 [v0,v1] H=some (.bool false,H0)) (g7:idxV Tp 22 (.c db n cap) (.i (IntKind.i64.wrap ((fi:Int)+(r:Int))))=some (a2)) (g8:loadV Tp H0 3 (a2)=some (v2)) (g9:idxV Tp 22 (.c db n cap) (.i (IntKind.i64.wrap ((fi:Int)+IntKind.i64.wrap (IntKind.i64.wrap (2 * (r:Int))+1))))=some (a3)) (g10:loadV Tp H0 3 (a3)=some (v3)) (g11:∀ kf,N ≤ kf → callN Tp polSo (kf+1) 78 [v2,v3] H0=some (.bool true,H1)) (g12:idxV Tp 22 (.c db n cap) (.i (IntKind.i64.wrap ((fi:Int)+IntKind.i64.wrap (IntKind.i64.wrap (2 * (r:Int))+1))))=some (a4)) (g13:loadV Tp H1 3 (a4)=some (v4)) (g14:idxV Tp 22 (.c db n cap) (.i (IntKind.i64.wrap ((fi:Int)+(r:Int))))=some (a5)) (g15:loadV Tp H1 3 (a5)=some (v5)) (g16:idxV Tp 22 (.c db n cap) (.i (IntKind.i64.wrap ((fi:Int)+(r:Int))))=some (a6)) (g17:storeV Tp H1 3 (a6) (v4)=some H2) (g18:idxV Tp 22 (.c db n cap) (.i (IntKind.i64.wrap ((fi:Int)+IntKind.i64.wrap (IntKind.i64.wrap (2 * (r:Int))+1))))=some (a7)) (g19:storeV Tp H2 3 (a7) (v5)=some H3):RT polSo 92 (sub [1,0,0] B92) (env92 (.c db n cap) (.i (lo:Int)) (.i (hi:Int)) (.i (fi:Int)) (.i (r:Int)) y9) H .normal (env92 (.c db n cap) (.i (lo:Int)) (.i (hi:Int)) (.i (fi:Int)) (.i (IntKind.i64.wrap (IntKind.i64.wrap (2 * (r:Int))+1))) (.i (IntKind.i64.wrap (IntKind.i64.wrap (2 * (r:Int))+1)))) H3 :=
  RunsTo.hin N 60 [⟨2,2,.bool false,H⟩,⟨3,3,.bool true,H⟩,⟨3,9,a0,H⟩,⟨3,10,v0,H⟩,⟨3,16,a1,H⟩,⟨3,17,v1,H⟩,⟨3,18,.bool false,H0⟩,⟨5,4,a2,H0⟩,⟨5,5,v2,H0⟩,⟨5,10,a3,H0⟩,⟨5,11,v3,H0⟩,⟨5,12,.bool true,H1⟩,⟨6,12,a4,H1⟩,⟨6,13,v4,H1⟩,⟨6,18,a5,H1⟩,⟨6,19,v5,H1⟩,⟨6,20,a6,H1⟩,⟨6,21,.tuple [],H2⟩,⟨6,22,a7,H2⟩,⟨6,23,.tuple [],H3⟩] fun kf hk=>⟨_,by kernel_rfl,(oB H (decide_eq_false g0) (oB H (decide_eq_true g1) (oP H g2 (oP H g3 (oP H g4 (oP H g5 (oC (g6 kf (by omega)) (oP H0 g7 (oP H0 g8 (oP H0 g9 (oP H0 g10 (oC (g11 kf (by omega)) (oP H1 g12 (oP H1 g13 (oP H1 g14 (oP H1 g15 (oP H1 g16 (oS g17 (oP H2 g18 (oS g19 .nil))))))))))))))))))))⟩
theorem sf_b_4 (N:Nat) (db n:Nat) (cap:Option Nat) (H:Heap) (x:Nat) (lo:Nat) (hi:Nat) (fi:Nat) (r:Nat) {y9:HV} {a0:HV} {v0:HV} {a1:HV} {v1:HV} {H0:Heap} {a2:HV} {v2:HV} {a3:HV} {v3:HV} {H1:Heap} (g0:¬ ((hi:Int) ≤ IntKind.i64.wrap (IntKind.i64.wrap (2 * (r:Int))+1))) (g1:IntKind.i64.wrap (IntKind.i64.wrap (IntKind.i64.wrap (2 * (r:Int))+1)+1) < (hi:Int)) (g2:idxV Tp 22 (.c db n cap) (.i (IntKind.i64.wrap ((fi:Int)+IntKind.i64.wrap (IntKind.i64.wrap (2 * (r:Int))+1))))=some (a0)) (g3:loadV Tp H 3 (a0)=some (v0)) (g4:idxV Tp 22 (.c db n cap) (.i (IntKind.i64.wrap (IntKind.i64.wrap ((fi:Int)+IntKind.i64.wrap (IntKind.i64.wrap (2 * (r:Int))+1))+1)))=some (a1)) (g5:loadV Tp H 3 (a1)=some (v1)) (g6:∀ kf,N ≤ kf → callN Tp polSo (kf+1) 78 [v0,v1] H=some (.bool false,H0)) (g7:idxV Tp 22 (.c db n cap) (.i (IntKind.i64.wrap ((fi:Int)+(r:Int))))=some (a2)) (g8:loadV Tp H0 3 (a2)=some (v2)) (g9:idxV Tp 22 (.c db n cap) (.i (IntKind.i64.wrap ((fi:Int)+IntKind.i64.wrap (IntKind.i64.wrap (2 * (r:Int))+1))))=some (a3)) (g10:loadV Tp H0 3 (a3)=some (v3)) (g11:∀ kf,N ≤ kf → callN Tp polSo (kf+1) 78 [v2,v3] H0=some (.bool false,H1)):RT polSo 92 (sub [1,0,0] B92) (env92 (.c db n cap) (.i (lo:Int)) (.i (hi:Int)) (.i (fi:Int)) (.i (r:Int)) y9) H .ret (env92 (.c db n cap) (.i (lo:Int)) (.i (hi:Int)) (.i (fi:Int)) (.i (r:Int)) (.i (IntKind.i64.wrap (IntKind.i64.wrap (2 * (r:Int))+1)))) H1 :=
  RunsTo.hin N 60 [⟨2,2,.bool false,H⟩,⟨3,3,.bool true,H⟩,⟨3,9,a0,H⟩,⟨3,10,v0,H⟩,⟨3,16,a1,H⟩,⟨3,17,v1,H⟩,⟨3,18,.bool false,H0⟩,⟨5,4,a2,H0⟩,⟨5,5,v2,H0⟩,⟨5,10,a3,H0⟩,⟨5,11,v3,H0⟩,⟨5,12,.bool false,H1⟩] fun kf hk=>⟨_,by kernel_rfl,(oB H (decide_eq_false g0) (oB H (decide_eq_true g1) (oP H g2 (oP H g3 (oP H g4 (oP H g5 (oC (g6 kf (by omega)) (oP H0 g7 (oP H0 g8 (oP H0 g9 (oP H0 g10 (oC (g11 kf (by omega)) .nil))))))))))))⟩
theorem sf_b_5 (N:Nat) (db n:Nat) (cap:Option Nat) (H:Heap) (x:Nat) (lo:Nat) (hi:Nat) (fi:Nat) (r:Nat) {y9:HV} {a0:HV} {v0:HV} {a1:HV} {v1:HV} {H0:Heap} {a2:HV} {v2:HV} {a3:HV} {v3:HV} {a4:HV} {H1:Heap} {a5:HV} {H2:Heap} (g0:¬ ((hi:Int) ≤ IntKind.i64.wrap (IntKind.i64.wrap (2 * (r:Int))+1))) (g1:¬ (IntKind.i64.wrap (IntKind.i64.wrap (IntKind.i64.wrap (2 * (r:Int))+1)+1) < (hi:Int))) (g2:idxV Tp 22 (.c db n cap) (.i (IntKind.i64.wrap ((fi:Int)+(r:Int))))=some (a0)) (g3:loadV Tp H 3 (a0)=some (v0)) (g4:idxV Tp 22 (.c db n cap) (.i (IntKind.i64.wrap ((fi:Int)+IntKind.i64.wrap (IntKind.i64.wrap (2 * (r:Int))+1))))=some (a1)) (g5:loadV Tp H 3 (a1)=some (v1)) (g6:∀ kf,N ≤ kf → callN Tp polSo (kf+1) 78 [v0,v1] H=some (.bool true,H0)) (g7:idxV Tp 22 (.c db n cap) (.i (IntKind.i64.wrap ((fi:Int)+IntKind.i64.wrap (IntKind.i64.wrap (2 * (r:Int))+1))))=some (a2)) (g8:loadV Tp H0 3 (a2)=some (v2)) (g9:idxV Tp 22 (.c db n cap) (.i (IntKind.i64.wrap ((fi:Int)+(r:Int))))=some (a3)) (g10:loadV Tp H0 3 (a3)=some (v3)) (g11:idxV Tp 22 (.c db n cap) (.i (IntKind.i64.wrap ((fi:Int)+(r:Int))))=some (a4)) (g12:storeV Tp H0 3 (a4) (v2)=some H1) (g13:idxV Tp 22 (.c db n cap) (.i (IntKind.i64.wrap ((fi:Int)+IntKind.i64.wrap (IntKind.i64.wrap (2 * (r:Int))+1))))=some (a5)) (g14:storeV Tp H1 3 (a5) (v3)=some H2):RT polSo 92 (sub [1,0,0] B92) (env92 (.c db n cap) (.i (lo:Int)) (.i (hi:Int)) (.i (fi:Int)) (.i (r:Int)) y9) H .normal (env92 (.c db n cap) (.i (lo:Int)) (.i (hi:Int)) (.i (fi:Int)) (.i (IntKind.i64.wrap (IntKind.i64.wrap (2 * (r:Int))+1))) (.i (IntKind.i64.wrap (IntKind.i64.wrap (2 * (r:Int))+1)))) H2 :=
  RunsTo.hin N 60 [⟨2,2,.bool false,H⟩,⟨3,3,.bool false,H⟩,⟨5,4,a0,H⟩,⟨5,5,v0,H⟩,⟨5,10,a1,H⟩,⟨5,11,v1,H⟩,⟨5,12,.bool true,H0⟩,⟨6,12,a2,H0⟩,⟨6,13,v2,H0⟩,⟨6,18,a3,H0⟩,⟨6,19,v3,H0⟩,⟨6,20,a4,H0⟩,⟨6,21,.tuple [],H1⟩,⟨6,22,a5,H1⟩,⟨6,23,.tuple [],H2⟩] fun kf hk=>⟨_,by kernel_rfl,(oB H (decide_eq_false g0) (oB H (decide_eq_false g1) (oP H g2 (oP H g3 (oP H g4 (oP H g5 (oC (g6 kf (by omega)) (oP H0 g7 (oP H0 g8 (oP H0 g9 (oP H0 g10 (oP H0 g11 (oS g12 (oP H1 g13 (oS g14 .nil)))))))))))))))⟩
theorem sf_b_6 (N:Nat) (db n:Nat) (cap:Option Nat) (H:Heap) (x:Nat) (lo:Nat) (hi:Nat) (fi:Nat) (r:Nat) {y9:HV} {a0:HV} {v0:HV} {a1:HV} {v1:HV} {H0:Heap} (g0:¬ ((hi:Int) ≤ IntKind.i64.wrap (IntKind.i64.wrap (2 * (r:Int))+1))) (g1:¬ (IntKind.i64.wrap (IntKind.i64.wrap (IntKind.i64.wrap (2 * (r:Int))+1)+1) < (hi:Int))) (g2:idxV Tp 22 (.c db n cap) (.i (IntKind.i64.wrap ((fi:Int)+(r:Int))))=some (a0)) (g3:loadV Tp H 3 (a0)=some (v0)) (g4:idxV Tp 22 (.c db n cap) (.i (IntKind.i64.wrap ((fi:Int)+IntKind.i64.wrap (IntKind.i64.wrap (2 * (r:Int))+1))))=some (a1)) (g5:loadV Tp H 3 (a1)=some (v1)) (g6:∀ kf,N ≤ kf → callN Tp polSo (kf+1) 78 [v0,v1] H=some (.bool false,H0)):RT polSo 92 (sub [1,0,0] B92) (env92 (.c db n cap) (.i (lo:Int)) (.i (hi:Int)) (.i (fi:Int)) (.i (r:Int)) y9) H .ret (env92 (.c db n cap) (.i (lo:Int)) (.i (hi:Int)) (.i (fi:Int)) (.i (r:Int)) (.i (IntKind.i64.wrap (IntKind.i64.wrap (2 * (r:Int))+1)))) H0 :=
  RunsTo.hin N 60 [⟨2,2,.bool false,H⟩,⟨3,3,.bool false,H⟩,⟨5,4,a0,H⟩,⟨5,5,v0,H⟩,⟨5,10,a1,H⟩,⟨5,11,v1,H⟩,⟨5,12,.bool false,H0⟩] fun kf hk=>⟨_,by kernel_rfl,(oB H (decide_eq_false g0) (oB H (decide_eq_false g1) (oP H g2 (oP H g3 (oP H g4 (oP H g5 (oC (g6 kf (by omega)) .nil)))))))⟩
noncomputable def B73:Code:=Try.f73.body.getD .skip
abbrev env73 (v0 v1 v2 v6 v7 v8 v9 v10:HV):Env:=[(0,v0),(1,v1),(2,v2),(6,v6),(7,v7),(8,v8),(9,v9),(10,v10)]
theorem hs_a_0 (N:Nat) (db n:Nat) (cap:Option Nat) (H:Heap) (x:Nat) (a:Nat) (b:Nat):RT polSo 73 (sub [0] B73) [(0,.c db n cap),(1,.i (a:Int)),(2,.i (b:Int))] H .normal (env73 (.c db n cap) (.i (a:Int)) (.i (b:Int)) (.i (a:Int)) Ud Ud Ud Ud) H :=
  RunsTo.hin N 60 [] fun kf hk=>⟨_,by kernel_rfl,.nil⟩
theorem hs_b_0 (N:Nat) (db n:Nat) (cap:Option Nat) (H:Heap) (x:Nat) (a:Nat) (b:Nat) (fi:Nat) {y7 y8 y9 y10:HV}:RT polSo 73 (sub [1,0] B73) (env73 (.c db n cap) (.i (a:Int)) (.i (b:Int)) (.i (fi:Int)) y7 y8 y9 y10) H .normal (env73 (.c db n cap) (.i (a:Int)) (.i (b:Int)) (.i (fi:Int)) (.i 0) y8 y9 y10) H :=
  RunsTo.hin N 60 [] fun kf hk=>⟨_,by kernel_rfl,.nil⟩
theorem hs_c_0 (N:Nat) (db n:Nat) (cap:Option Nat) (H:Heap) (x:Nat) (a:Nat) (b:Nat) (fi:Nat) {y8 y9 y10:HV}:RT polSo 73 (sub [1,1,0] B73) (env73 (.c db n cap) (.i (a:Int)) (.i (b:Int)) (.i (fi:Int)) (.i 0) y8 y9 y10) H .normal (env73 (.c db n cap) (.i (a:Int)) (.i (b:Int)) (.i (fi:Int)) (.i 0) (.i (IntKind.i64.wrap ((b:Int) - (a:Int)))) y9 y10) H :=
  RunsTo.hin N 60 [] fun kf hk=>⟨_,by kernel_rfl,.nil⟩
theorem hs_d_0 (N:Nat) (db n:Nat) (cap:Option Nat) (H:Heap) (x:Nat) (a:Nat) (b:Nat) (fi:Nat) (hi:Nat) {y9 y10:HV}:RT polSo 73 (sub [1,1,1,0,0] B73) (env73 (.c db n cap) (.i (a:Int)) (.i (b:Int)) (.i (fi:Int)) (.i 0) (.i (hi:Int)) y9 y10) H .normal (env73 (.c db n cap) (.i (a:Int)) (.i (b:Int)) (.i (fi:Int)) (.i 0) (.i (hi:Int)) (.i (IntKind.i64.wrap ((IntKind.i64.wrap ((hi:Int) - 1):Int).tdiv 2))) y10) H :=
  RunsTo.hin N 60 [] fun kf hk=>⟨_,by kernel_rfl,.nil⟩
theorem hs_e_0 (N:Nat) (db n:Nat) (cap:Option Nat) (H:Heap) (x:Nat) (a:Nat) (b:Nat) (fi:Nat) (hi:Nat) (x:Int) {y10:HV} {H0:Heap} (g0:0 ≤ x) (g1:∀ kf,N ≤ kf → callN Tp polSo (kf+1) 92 [.c db n cap,.i x,.i (hi:Int),.i (fi:Int)] H=some (.tuple [],H0)):RT polSo 73 (sub [1,1,1,0,1,0,0] B73) (env73 (.c db n cap) (.i (a:Int)) (.i (b:Int)) (.i (fi:Int)) (.i 0) (.i (hi:Int)) (.i x) y10) H .normal (env73 (.c db n cap) (.i (a:Int)) (.i (b:Int)) (.i (fi:Int)) (.i 0) (.i (hi:Int)) (.i (IntKind.i64.wrap (x - 1))) y10) H0 :=
  RunsTo.hin N 60 [⟨4,1,.bool true,H⟩,⟨6,4,.tuple [],H0⟩] fun kf hk=>⟨_,by kernel_rfl,(oB H (decide_eq_true g0) (oC (g1 kf (by omega)) .nil))⟩
theorem hs_e_1 (N:Nat) (db n:Nat) (cap:Option Nat) (H:Heap) (x:Nat) (a:Nat) (b:Nat) (fi:Nat) (hi:Nat) (x:Int) {y10:HV}(g0:¬ (0 ≤ x)):RT polSo 73 (sub [1,1,1,0,1,0,0] B73) (env73 (.c db n cap) (.i (a:Int)) (.i (b:Int)) (.i (fi:Int)) (.i 0) (.i (hi:Int)) (.i x) y10) H (.exit 0) (env73 (.c db n cap) (.i (a:Int)) (.i (b:Int)) (.i (fi:Int)) (.i 0) (.i (hi:Int)) (.i x) y10) H :=
  RunsTo.hin N 60 [⟨4,1,.bool false,H⟩] fun kf hk=>⟨_,by kernel_rfl,(oB H (decide_eq_false g0) .nil)⟩
theorem hs_f_0 (N:Nat) (db n:Nat) (cap:Option Nat) (H:Heap) (x:Nat) (a:Nat) (b:Nat) (fi:Nat) (hi:Nat) {y9 y10:HV}:RT polSo 73 (sub [1,1,1,1,0] B73) (env73 (.c db n cap) (.i (a:Int)) (.i (b:Int)) (.i (fi:Int)) (.i 0) (.i (hi:Int)) y9 y10) H .normal (env73 (.c db n cap) (.i (a:Int)) (.i (b:Int)) (.i (fi:Int)) (.i 0) (.i (hi:Int)) y9 (.i (IntKind.i64.wrap ((hi:Int) - 1)))) H :=
  RunsTo.hin N 60 [] fun kf hk=>⟨_,by kernel_rfl,.nil⟩
theorem hs_g_0 (N:Nat) (db n:Nat) (cap:Option Nat) (H:Heap) (x:Nat) (a:Nat) (b:Nat) (fi:Nat) (x:Int) {y8 y9:HV} {a0:HV} {v0:HV} {a1:HV} {v1:HV} {a2:HV} {H0:Heap} {a3:HV} {H1:Heap} {H2:Heap} (g0:0 ≤ x) (g1:idxV Tp 22 (.c db n cap) (.i (IntKind.i64.wrap ((fi:Int)+x)))=some (a0)) (g2:loadV Tp H 3 (a0)=some (v0)) (g3:idxV Tp 22 (.c db n cap) (.i (fi:Int))=some (a1)) (g4:loadV Tp H 3 (a1)=some (v1)) (g5:idxV Tp 22 (.c db n cap) (.i (fi:Int))=some (a2)) (g6:storeV Tp H 3 (a2) (v0)=some H0) (g7:idxV Tp 22 (.c db n cap) (.i (IntKind.i64.wrap ((fi:Int)+x)))=some (a3)) (g8:storeV Tp H0 3 (a3) (v1)=some H1) (g9:∀ kf,N ≤ kf → callN Tp polSo (kf+1) 92 [.c db n cap,.i 0,.i x,.i (fi:Int)] H1=some (.tuple [],H2)):RT polSo 73 (sub [1,1,1,1,1,0,0] B73) (env73 (.c db n cap) (.i (a:Int)) (.i (b:Int)) (.i (fi:Int)) (.i 0) y8 y9 (.i x)) H .normal (env73 (.c db n cap) (.i (a:Int)) (.i (b:Int)) (.i (fi:Int)) (.i 0) y8 y9 (.i (IntKind.i64.wrap (x - 1)))) H2 :=
  RunsTo.hin N 60 [⟨8,1,.bool true,H⟩,⟨10,10,a0,H⟩,⟨10,11,v0,H⟩,⟨10,14,a1,H⟩,⟨10,15,v1,H⟩,⟨10,16,a2,H⟩,⟨10,17,.tuple [],H0⟩,⟨10,18,a3,H0⟩,⟨10,19,.tuple [],H1⟩,⟨11,4,.tuple [],H2⟩] fun kf hk=>⟨_,by kernel_rfl,(oB H (decide_eq_true g0) (oP H g1 (oP H g2 (oP H g3 (oP H g4 (oP H g5 (oS g6 (oP H0 g7 (oS g8 (oC (g9 kf (by omega)) .nil))))))))))⟩
theorem hs_g_1 (N:Nat) (db n:Nat) (cap:Option Nat) (H:Heap) (x:Nat) (a:Nat) (b:Nat) (fi:Nat) (x:Int) {y8 y9:HV}(g0:¬ (0 ≤ x)):RT polSo 73 (sub [1,1,1,1,1,0,0] B73) (env73 (.c db n cap) (.i (a:Int)) (.i (b:Int)) (.i (fi:Int)) (.i 0) y8 y9 (.i x)) H (.exit 2) (env73 (.c db n cap) (.i (a:Int)) (.i (b:Int)) (.i (fi:Int)) (.i 0) y8 y9 (.i x)) H :=
  RunsTo.hin N 60 [⟨8,1,.bool false,H⟩] fun kf hk=>⟨_,by kernel_rfl,(oB H (decide_eq_false g0) .nil)⟩
end Go.Proofs.Ytaibmipamkaljaa
end
section
open Go Go.HL Go.HL.So Classical
namespace Go.Proofs.Ytaibmipamkaljaa
set_option linter.unusedSectionVars false
open Go.Proofs.Try renaming prog → Tp
open Go.HL.HV renaming undef → Ud
section
variable {α:Type} [Inhabited α]
def bE (enc:α → HV) (l:List α):Blk:=.arr 1 (l.map enc) true 0
def Mm (enc:α → HV) (H:Heap) (db:Nat) (l:List α) (T:Heap):Heap:=H.set db (bE enc l) ++ T
structure So (enc:α → HV) (lt:α → α → Prop) (dom:α → Prop) (H:Heap) (db n:Nat):Prop where
  nb:n ≤ 60000
  hdb:db < H.length
  mx:mxs H ≤ H.length
  ld:∀ (l:List α) (T:Heap) (i:Nat),l.length=n → i < n → loadV Tp (Mm enc H db l T) 3 (.ptr db i 0 n)=some (enc (at_ l i))
  st:∀ (l:List α) (T:Heap) (i:Nat) (x:α),l.length=n → i < n → storeV Tp (Mm enc H db l T) 3 (.ptr db i 0 n) (enc x)=some (Mm enc H db (l.set i x) T)
  call:∀ (l:List α) (T:Heap) (x y:α),l.length=n → mxs T=0 → dom x → dom y → ∃ N,(∀ kf,N ≤ kf → callN Tp polSo (kf+1) 78 [enc x,enc y] (Mm enc H db l T)=some (.bool (decide (lt x y)),Mm enc H db l T))
end
section
variable {α:Type} [Inhabited α]
variable {enc:α → HV} {lt:α → α → Prop} {dom:α → Prop} {H:Heap} {db n:Nat} {cap:Option Nat}
theorem Mm_len (l l':List α) (T T':Heap) (h:T.length=T'.length):(Mm enc H db l T).length=(Mm enc H db l' T').length:=by simp [Mm,h]
theorem gcM (l l':List α) (T T':Heap) (r:Nat) (h:T.length=T'.length):gc (Mm enc H db l T).length r (Mm enc H db l' T')=Mm enc H db l' T':=gc_eq r (Mm_len l' l T' T h.symm)
theorem u22s:Tp.underlying 22=some (.slice 3):=by kernel_rfl
theorem z3s:tySize Tp 3=some 1:=by kernel_rfl
theorem ixs {i:Nat} {e:Int} (he:e=(i:Int)) (hi:i < n):idxV Tp 22 (.sl db 0 n cap n 1) (.int .i64 e)=some (.ptr db i 0 n):=by
  subst he
  have:=idx_sl (P:=Tp) (t:=22) (b:=db) (len:=n) (tot:=n) (cap:=cap) (ik:=.i64) (n:=(i:Int)) u22s z3s (by omega) (by omega)
  rwa [Int.toNat_natCast] at this
theorem So.ct (S:So enc lt dom H db n) {l:List α} {T:Heap} {x y:α} (hl:l.length=n) (hT:mxs T=0) (hx:dom x) (hy:dom y) (h:lt x y):∃ N,(∀ kf,N ≤ kf → callN Tp polSo (kf+1) 78 [enc x,enc y] (Mm enc H db l T)=some (.bool true,Mm enc H db l T)):=by
  obtain ⟨N,hN⟩:=S.call l T x y hl hT hx hy
  exact ⟨N,fun kf hk=>by rw [hN kf hk,decide_eq_true h]⟩
theorem So.cf (S:So enc lt dom H db n) {l:List α} {T:Heap} {x y:α} (hl:l.length=n) (hT:mxs T=0) (hx:dom x) (hy:dom y) (h:¬ lt x y):∃ N,(∀ kf,N ≤ kf → callN Tp polSo (kf+1) 78 [enc x,enc y] (Mm enc H db l T)=some (.bool false,Mm enc H db l T)):=by
  obtain ⟨N,hN⟩:=S.call l T x y hl hT hx hy
  exact ⟨N,fun kf hk=>by rw [hN kf hk,decide_eq_false h]⟩
def Dm (dom:α → Prop) (l:List α):Prop:=∀ x ∈ l,dom x
theorem Dm.at {l:List α} (h:Dm dom l) {i:Nat} (hi:i < l.length):dom (at_ l i):=by
  have:at_ l i=l[i]:=by simp [at_,List.getD,List.getElem?_eq_getElem hi]
  rw [this]; exact h _ (List.getElem_mem hi)
theorem Dm.sw {l l':List α} {a b:Nat} (h:Dm dom l) (hs:Sw a b l l') (hb:b ≤ l.length):Dm dom l':=hs.mem hb h
theorem sw_len {l l':List α} {a b:Nat} (hs:Sw a b l l') (hl:l.length=n):l'.length=n:=hs.len.trans hl
theorem So.st2 (S:So enc lt dom H db n) {l:List α} {T:Heap} {i j:Nat} (hl:l.length=n) (hi:i < n) (hj:j < n):storeV Tp (Mm enc H db l T) 3 (.ptr db i 0 n) (enc (at_ l j))=some (Mm enc H db (l.set i (at_ l j)) T)∧storeV Tp (Mm enc H db (l.set i (at_ l j)) T) 3 (.ptr db j 0 n) (enc (at_ l i))=some (Mm enc H db (swp l i j) T) :=
  ⟨S.st l T i _ hl hi,S.st _ T j _ (by simpa using hl) hj⟩
theorem is_in (S:So enc lt dom H db n) (hL:Lin lt) {T:Heap} (hT:mxs T=0) {a b i:Nat} (hi:i < n):∀ (j:Nat) (l:List α),l.length=n → j ≤ i → a ≤ j → Dm dom l → Sink lt a (i+1) j l →
    ∃ y l',RT polSo 72 (sub [1,0,0,1,0,0,1,0] B72) (env72 (.sl db 0 n cap n 1) (.int .i64 (a:Int)) (.int .i64 (b:Int)) (.int .i64 (i:Int)) (.int .i64 (j:Int))) (Mm enc H db l T) (.exit 2) (env72 (.sl db 0 n cap n 1) (.int .i64 (a:Int)) (.int .i64 (b:Int)) (.int .i64 (i:Int)) y) (Mm enc H db l' T)∧Sw a (i+1) l l'∧Sorted lt a (i+1) l':=by
  have hn:=S.nb
  intro j
  induction j with
  | zero =>
    intro l hl hj ha hD hS
    exact ⟨_,l,lpo (is_d_2 0 db n cap (Mm enc H db l T) 0 a b i 0 (by omega)),.refl,sink_end hL hS (.inl (Nat.zero_le _))⟩
  | succ j ih =>
    intro l hl hj ha hD hS
    by_cases c1:a < j+1
    · by_cases c2:lt (at_ l (j+1)) (at_ l j)
      · obtain ⟨N,hN⟩:=S.ct (T:=T) hl hT (hD.at (i:=j+1) (by omega)) (hD.at (i:=j) (by omega)) c2
        obtain ⟨s1,s2⟩:=S.st2 (T:=T) hl (i:=j+1) (j:=j) (by omega) (by omega)
        have sw:Sw a (i+1) l (swp l (j+1) j):=Sw.one (by omega) (by omega) (by omega) (by omega)
        have st:=is_d_0 N db n cap (Mm enc H db l T) 0 a b i (j+1) (by omega) (ixs (i:=j+1) (by omega) (by omega)) (S.ld l T (j+1) hl (by omega)) (ixs (i:=j) (by simp only [wrapI64]; omega) (by omega)) (S.ld l T j hl (by omega)) hN (ixs (i:=j) (by simp only [wrapI64]; omega) (by omega)) (S.ld l T j hl (by omega)) (ixs (i:=j+1) (by omega) (by omega)) (S.ld l T (j+1) hl (by omega)) (ixs (i:=j+1) (by omega) (by omega)) s1 (ixs (i:=j) (by simp only [wrapI64]; omega) (by omega)) s2
        rw [show IntKind.i64.wrap (((j+1:Nat):Int) - 1)=(j:Int) by simp only [wrapI64]; omega] at st
        obtain ⟨y,l',r,q1,q2⟩:=ih (swp l (j+1) j) (by rw [swp_len]; exact hl) (by omega) (by omega) (hD.sw sw (by omega)) (sink_step hL (j:=j+1) (by omega) (by omega) c1 hS c2)
        exact ⟨y,l',lop (st) (gcM _ _ _ _ _ rfl) (r),sw.trans q1,q2⟩
      · obtain ⟨N,hN⟩:=S.cf (T:=T) hl hT (hD.at (i:=j+1) (by omega)) (hD.at (i:=j) (by omega)) c2
        have st:=is_d_1 N db n cap (Mm enc H db l T) 0 a b i (j+1) (by omega) (ixs (i:=j+1) (by omega) (by omega)) (S.ld l T (j+1) hl (by omega)) (ixs (i:=j) (by simp only [wrapI64]; omega) (by omega)) (S.ld l T j hl (by omega)) hN
        exact ⟨_,l,lpo (st),.refl,sink_end hL hS (.inr c2)⟩
    · exact ⟨_,l,lpo (is_d_2 0 db n cap (Mm enc H db l T) 0 a b i (j+1) (by omega)),.refl,sink_end hL hS (.inl (by omega))⟩
theorem is_out (S:So enc lt dom H db n) (hL:Lin lt) {T:Heap} (hT:mxs T=0) {a b:Nat} (hb:b ≤ n):∀ (d i:Nat) (l:List α),i+d=b → a ≤ i → l.length=n → Dm dom l → Sorted lt a i l →
    ∃ l',RT polSo 72 (sub [1,0] B72) (env72 (.sl db 0 n cap n 1) (.int .i64 (a:Int)) (.int .i64 (b:Int)) (.int .i64 (i:Int)) Ud) (Mm enc H db l T) (.exit 0) (env72 (.sl db 0 n cap n 1) (.int .i64 (a:Int)) (.int .i64 (b:Int)) (.int .i64 (b:Int)) Ud) (Mm enc H db l' T)∧Sw a b l l'∧Sorted lt a b l':=by
  have hn:=S.nb
  intro d
  induction d with
  | zero =>
    intro i l hi ha hl hD hS
    have:i=b:=by omega
    subst this
    exact ⟨l,lpo (sqo (is_b_1 0 db n cap (Mm enc H db l T) 0 a i i (by omega)) (c:=sub [1,0,0] B72) (b:=sub [1,0,0,1] B72)),.refl,hS⟩
  | succ d ih =>
    intro i l hi ha hl hD hS
    obtain ⟨y,l1,r1,q1,q2⟩:=is_in S hL (cap:=cap) hT (a:=a) (b:=b) (i:=i) (by omega) i l hl (Nat.le_refl _) ha hD (sink_start hS)
    have r1':=lpi (e0:=(env72 (.sl db 0 n cap n 1) (.int .i64 (a:Int)) (.int .i64 (b:Int)) (.int .i64 (i:Int)) (.int .i64 (i:Int)))) r1 (b:=sub [1,0,0,1,0,0,1,0,0] B72)
    have st:=sq (is_b_0 0 db n cap (Mm enc H db l T) 0 a b i (by omega) (y7:=Ud)) (sq (RunsTo.block_normal (i:=1) (c:=sub [1,0,0,1,0] B72) (sq (is_c_0 0 db n cap (Mm enc H db l T) 0 a b i) (bke (c:=sub [1,0,0,1,0,0,1] B72) (r1')) (c:=sub [1,0,0,1,0,0] B72)) (by kernel_rfl)) (is_e_0 0 db n cap (Mm enc H db l1 T) 0 a b i) (c:=sub [1,0,0,1] B72)) (c:=sub [1,0,0] B72)
    rw [wrap_succ (by omega)] at st
    obtain ⟨l',r,q3,q4⟩:=ih (i+1) l1 (by omega) (by omega) (sw_len q1 hl) (hD.sw q1 (by omega)) q2
    exact ⟨l',lop (st) (gcM _ _ _ _ _ rfl) (r),(q1.mono (Nat.le_refl _) (by omega)).trans q3,q4⟩
theorem ins_ok (S:So enc lt dom H db n) (hL:Lin lt) {T:Heap} (hT:mxs T=0) {a b:Nat} (hab:a ≤ b) (hb:b ≤ n) {l:List α} (hl:l.length=n) (hD:Dm dom l) :
    ∃ l',ClS 72 [.sl db 0 n cap n 1,.int .i64 (a:Int),.int .i64 (b:Int)] (Mm enc H db l T) (.tuple []) (Mm enc H db l' T)∧Sw a b l l'∧Sorted lt a b l':=by
  have hn:=S.nb
  have key:∃ i l',RT polSo 72 (sub [1,0] B72) (env72 (.sl db 0 n cap n 1) (.int .i64 (a:Int)) (.int .i64 (b:Int)) (.int .i64 ((a+1:Nat):Int)) Ud) (Mm enc H db l T) (.exit 0) (env72 (.sl db 0 n cap n 1) (.int .i64 (a:Int)) (.int .i64 (b:Int)) (.int .i64 i) Ud) (Mm enc H db l' T)∧Sw a b l l'∧Sorted lt a b l':=by
    by_cases c:a+1 ≤ b
    · obtain ⟨l',r,q⟩:=is_out S hL (cap:=cap) hT (a:=a) hb (b - (a+1)) (a+1) l (by omega) (by omega) hl hD (fun p q h1 h2 h3=>by omega)
      exact ⟨_,l',r,q⟩
    · exact ⟨_,l,lpo (sqo (is_b_1 0 db n cap (Mm enc H db l T) 0 a b (a+1) (by omega)) (c:=sub [1,0,0] B72) (b:=sub [1,0,0,1] B72)),.refl,fun p q h1 h2 h3=>by omega⟩
  obtain ⟨i,l',r,q⟩:=key
  have s0:=is_a_0 0 db n cap (Mm enc H db l T) 0 a b
  rw [wrap_succ (by omega)] at s0
  have t:=sq (s0) (bke (c:=sub [1] B72) (r)) (c:=B72)
  have hc:=CallsTo.shared (P:=Tp) (pol:=polSo) (g:=72) (fn:=Try.f72) (cd:=B72) (args:=[.sl db 0 n cap n 1,.int .i64 (a:Int),.int .i64 (b:Int)]) (v:=.tuple []) (by kernel_rfl) (by kernel_rfl) (by kernel_rfl) (by kernel_rfl) t (by kernel_rfl) (by simp) (by kernel_rfl)
  rw [gcM _ _ _ _ _ rfl] at hc
  exact ⟨l',hc,q⟩
theorem rvs_loop (S:So enc lt dom H db n) {T:Heap} {a b:Nat} (hb:b ≤ n):∀ (d i j:Nat) (l:List α),j+1 - i ≤ d → a ≤ i → j < b → l.length=n →
    ∃ y1 y2 l',RT polSo 76 (sub [1,1,0] B76) (env76 (.sl db 0 n cap n 1) (.int .i64 (a:Int)) (.int .i64 (b:Int)) (.int .i64 (i:Int)) (.int .i64 (j:Int))) (Mm enc H db l T) (.exit 0) (env76 (.sl db 0 n cap n 1) (.int .i64 (a:Int)) (.int .i64 (b:Int)) y1 y2) (Mm enc H db l' T)∧Sw a b l l':=by
  have hn:=S.nb
  intro d
  induction d with
  | zero =>
    intro i j l hd ha hj hl
    exact ⟨_,_,l,lpo (rvs_c_1 0 db n cap (Mm enc H db l T) 0 a b i j (by omega)),.refl⟩
  | succ d ih =>
    intro i j l hd ha hj hl
    by_cases c:i < j
    · obtain ⟨s1,s2⟩:=S.st2 (T:=T) hl (i:=i) (j:=j) (by omega) (by omega)
      have st:=rvs_c_0 0 db n cap (Mm enc H db l T) 0 a b i j (by omega) (ixs (i:=j) rfl (by omega)) (S.ld l T j hl (by omega)) (ixs (i:=i) rfl (by omega)) (S.ld l T i hl (by omega)) (ixs (i:=i) rfl (by omega)) s1 (ixs (i:=j) rfl (by omega)) s2
      rw [wrap_succ (by omega),wrap_pred (by omega) (by omega)] at st
      have sw:Sw a b l (swp l i j):=Sw.one (by omega) (by omega) (by omega) (by omega)
      obtain ⟨y1,y2,l',r,q⟩:=ih (i+1) (j - 1) (swp l i j) (by omega) (by omega) (by omega) (by rw [swp_len]; exact hl)
      exact ⟨y1,y2,l',lop (st) (gcM _ _ _ _ _ rfl) (r),sw.trans q⟩
    · exact ⟨_,_,l,lpo (rvs_c_1 0 db n cap (Mm enc H db l T) 0 a b i j (by omega)),.refl⟩
theorem rvs_ok (S:So enc lt dom H db n) {T:Heap} {a b:Nat} (hab:a < b) (hb:b ≤ n) {l:List α} (hl:l.length=n) :
    ∃ l',ClS 76 [.sl db 0 n cap n 1,.int .i64 (a:Int),.int .i64 (b:Int)] (Mm enc H db l T) (.tuple []) (Mm enc H db l' T)∧Sw a b l l':=by
  have hn:=S.nb
  obtain ⟨y1,y2,l',r,q⟩:=rvs_loop S (cap:=cap) (T:=T) (a:=a) hb (b+1) a (b - 1) l (by omega) (Nat.le_refl _) (by omega) hl
  have s0:=rvs_a_0 0 db n cap (Mm enc H db l T) 0 a b
  have s1:=rvs_b_0 0 db n cap (Mm enc H db l T) 0 a b a (y7:=Ud)
  rw [wrap_pred (by omega) (by omega)] at s1
  have t:=sq (s0) (sq (s1) (bke (c:=sub [1,1] B76) (r)) (c:=sub [1] B76)) (c:=B76)
  have hc:=CallsTo.shared (P:=Tp) (pol:=polSo) (g:=76) (fn:=Try.f76) (cd:=B76) (args:=[.sl db 0 n cap n 1,.int .i64 (a:Int),.int .i64 (b:Int)]) (v:=.tuple []) (by kernel_rfl) (by kernel_rfl) (by kernel_rfl) (by kernel_rfl) t (by kernel_rfl) (by simp) (by kernel_rfl)
  rw [gcM _ _ _ _ _ rfl] at hc
  exact ⟨l',hc,q⟩
end
end Go.Proofs.Ytaibmipamkaljaa
end
