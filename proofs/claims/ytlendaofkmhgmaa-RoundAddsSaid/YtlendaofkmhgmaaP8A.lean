/- A part of the proof. -/
import Derived.Test.YtlendaofkmhgmaaHlA
import Derived.Test.YtlendaofkmhgmaaHlB
import Derived.Test.YtlendaofkmhgmaaHlC
import Derived.Test.YtlendaofkmhgmaaHlD
import Derived.Test.YtlendaofkmhgmaaHlE
import Derived.Test.YtlendaofkmhgmaaHlF
import Derived.ProofKit
import Derived.Test.YtlendaofkmhgmaaProg
import Derived.Deep.Slices
import Derived.OpenShut
set_option linter.unusedVariables false
set_option linter.unusedSimpArgs false
namespace Go.HL
abbrev HV.i (n:Int):HV:=.int .i64 n
section
variable {P:Program} {pol:Pol} {f:FuncId} {c:Code} {e E:Env} {H H':Heap} {x:X} {K:List Nat}
theorem RunsTo.hin (d n:Nat) (hs:List Hint) (h:∀ k,d ≤ k → ∃ ob,hview K (evCH P pol (callN P pol (k+1)) n f c e H hs)=some (x,E,H',ob)∧Obls ob):RunsTo P pol f c e H x K E H':=RunsTo.hint (d+1) n hs fun k hk=>by
  obtain ⟨k,rfl⟩:∃ n,k=n+1:=⟨k - 1,by omega⟩
  exact h k (by omega)
theorem oC {p:Prop} {os:List Prop} (h:p) (t:Obls os):Obls (p :: os):=Obls.cons h t
theorem oP (H:Heap) {r:Option HV} {v:HV} {os:List Prop} (h:r=some v) (t:Obls os):Obls ((r.map (fun v=>(v,H))=some (v,H)) :: os):=Obls.cons (hintOp h) t
theorem oS {r:Option Heap} {H:Heap} {os:List Prop} (h:r=some H) (t:Obls os):Obls ((r.map (fun H=>(HV.tuple [],H))=some (.tuple [],H)) :: os):=Obls.cons (hintSt h) t
theorem oB (H:Heap) {p b:Bool} {os:List Prop} (h:p=b) (t:Obls os):Obls ((some (HV.bool p,H)=some (HV.bool b,H)) :: os):=Obls.cons (hintB h) t
end
end Go.HL
namespace Go.HL
theorem sq {P:Program} {pol:Pol} {f:FuncId} {a b c:Code} {e E1 E:Env} {H H1 H':Heap} {x:X} {K K1:List Nat} (h1:RunsTo P pol f a e H .normal K1 E1 H1) (h2:RunsTo P pol f b E1 H1 x K E H') (hc:c=.seq a b:=by kernel_rfl) (hK:K1=pol.keys f ++ headTmp b:=by kernel_rfl):RunsTo P pol f c e H x K E H':=RunsTo.seq h1 h2 hc hK
theorem sqo {P:Program} {pol:Pol} {f:FuncId} {a b c:Code} {e E:Env} {H H':Heap} {x:X} {K:List Nat} (h1:RunsTo P pol f a e H x K E H') (hx:x ≠ .normal:=by simp) (hc:c=.seq a b:=by kernel_rfl):RunsTo P pol f c e H x K E H':=RunsTo.seq_out h1 hx hc
theorem lpo {P:Program} {pol:Pol} {f:FuncId} {b c:Code} {e E:Env} {H H':Heap} {x:X} {K:List Nat} (h1:RunsTo P pol f b e H x K E H') (hx:x ≠ .normal:=by simp) (hc:c=.loop b:=by kernel_rfl) (he:lrestr pol f b e=e:=by kernel_rfl):RunsTo P pol f c e H x K E H':=RunsTo.loop_out h1 hx hc he
theorem lpi {P:Program} {pol:Pol} {f:FuncId} {b c:Code} {e0 e E:Env} {H H':Heap} {x:X} {K:List Nat} (h:RunsTo P pol f c e H x K E H') (hc:c=.loop b:=by kernel_rfl) (h0:lrestr pol f b e0=e:=by kernel_rfl) (he:lrestr pol f b e=e:=by kernel_rfl):RunsTo P pol f c e0 H x K E H':=RunsTo.loop_in h hc h0 he
theorem bke {P:Program} {pol:Pol} {f:FuncId} {b c:Code} {e E:Env} {H H':Heap} {K:List Nat} {i:Nat} (h:RunsTo P pol f b e H (.exit i) K E H') (hc:c=.block i b:=by kernel_rfl):RunsTo P pol f c e H .normal K E H':=RunsTo.block_exit h hc
theorem lop {P:Program} {pol:Pol} {f:FuncId} {b c:Code} {e E0 E1 E:Env} {H H1 H2 H':Heap} {x:X} {K K1:List Nat} (h1:RunsTo P pol f b e H .normal K1 E0 H1) (hg:gc H.length (bndE E1) H1=H2) (h2:RunsTo P pol f c E1 H2 x K E H') (hE:lrestr pol f b E0=E1:=by kernel_rfl) (hK:K1=pol.keys f:=by rfl) (hc:c=.loop b:=by kernel_rfl) (he:lrestr pol f b e=e:=by kernel_rfl):RunsTo P pol f c e H x K E H':=RunsTo.loop h1 hE hg h2 hK hc he
end Go.HL
section
open Go Go.HL
namespace Go.Proofs.Ytlendaofkmhgmaa
abbrev RT (pol:Pol) (f:FuncId) (c:Code) (e:Env) (H:Heap) (x:X) (E:Env) (H':Heap):Prop:=RunsTo Try.prog pol f c e H x (pol.keys f) E H'
end Go.Proofs.Ytlendaofkmhgmaa
end
section
open Go Go.HL
namespace Go.Proofs.Ytlendaofkmhgmaa
open Go.Proofs.Try renaming prog → Tp
open Go.HL.HV renaming undef → Ud
def keysT:List (List Nat):=[[],[],[],[0,1,4,5,6,7,8],[0,1,3,4,5,6,7,8,9,10,11,12,13,14,15],[0,2,3,4,5,6,7,8,9],[0,1,4,5,6,7,8,9,10],[0,1,4,5,6,7,8,9,10,11,12,13,14,15,16,17],[0,1,2,5,6,7,8,9,10,11,12,13,14,15,16,17,18,19,20,21,22,23,24,25,26,27,28,29,30,31],[0,1,2,6,7,8,9,10,11,12,13,14,15,16,17,18,19,20,21,22,23,24,25,26],[0,1,4,5,6,7,8,9,10],[0,1,2,5,6,7,8,9,10,11,12,13,14,15,16,17,18,19,20,21,22,23,24,25,26],[0,1,4,5,6,7,8,9,10,12,13,14,15,17,18,19,20,21,23,24],[0,2,3,4,5,6,7,8,9,10,11],[0,1,3,4,5,6,7,8,10,11,13,14,15,16,17,18,20,21,22,23,24,25,26,27,28],[0,2,3,4],[0,2,3],[0,1,4,5,6,7],[0,2,3,4,5,6],[0,1,4,5],[0,1,2,3,4,5,6,7,8,9,10,11,12],[0,1,4,5,6,7,8,9],[0,2,3,4,5,6,7,13,14,18,19,23,24],[0,1,2,3,5,6,7,8,9,10,11,12,13,14,15,16,17,43,44,47,48,52,53,97,98],[0,2,3,4,5,6,7],[0,1,2,6,7,8,9,10,11,12,13,14],[0,1,4,5],[0,1,4],[0,1,2,6,7,8,9,10,11,12,13],[0,2,3,4,5,6,7,8,9,10,29,30],[0,1,2,3,8,9,10,11,12,13,14],[0,1,4,5,6,7,8,9,10,11,12,42,43,46,47],[0,1,4,5,6,7,8,9,10,11,12,13,14,15,16,17],[0,1,4,5,6,7,8],[0,1,4,5],[0,1,4,5,6,7],[0,1,4,5,6],[0,1,4,5,6,7],[0,1,4,5],[0,1,2,6,7,8],[0,2,3,4,5,6,7,8,9,10,11,12,13],[0,2,3,4,5,6,7,24,25],[0,2,3,4,6,7,8,17,18,19],[0,2,3,4,5,6,7,8],[0,2,3,4],[0,2,3,4,5,6,7,8],[0,2,4,5,6,7,8,13,14,15,29,30,31,36,37,38],[0,1,4],[0,2],[0,1,2,6],[0,1,3,4,5,6,7,9,10,11,13,15,21,22,23,41,42,43,64,65],[0,1,4,5,6,7,8],[0,2],[0,1,2,3,4,5,6,7,9,10,26,27],[0,1,2,3,8,9,10,11,12,13,14],[0,1,2,5,6,8,9,10,11,31,32],[0,1,4,5,6,7,8,9,10],[0,1,4,5,6,18,19,20],[0,1,4,5,6,7,8,9],[0,1,4,5,6,7],[0,1,4],[0,1,2,5,6,7,8,9,11,12,13,14,19,20,31,32,33,55,56],[0,1,2,3,6,16,17,18],[0,2,3],[0,1,2],[0,1,4,5,6,7,8,9,10,11],[0,1,2,6,7,8,9,10,11,12],[0,1,2,6,7,8,9,10,11,12],[0,2],[0,1,4,5,7,8],[0,1,2,5,6,7,8,9,11,12],[0,2,3],[0,1,4,5,7,8],[0,2],[0,2],[0,1,4,5,6,7],[0,1,4],[0,1,2,3,4],[0,2,4,5,6,7],[0,1,4,5,6],[0,1,2,4],[0,1,2,3,8,9,10,11,12,13,14,15,16,17,18],[0,2],[0,1,2,3,4,10,11,12,13,14,15,16,17,18,19,20],[0,2],[0,1,2,6,7],[0,1,2,6,7,8,9,10],[0,1,2,6,7,8,9,10],[0,1,2,6,7,8,9,10,11,12,49],[0,1,2,6,7],[0,1,2,6,7,8,9,10],[0,1,4],[0,1,2,3,8,9,10],[0,1,2,3,8,9,10,11],[0,2],[0,2],[0,1,2,3,8,9],[0,1,2,3,8,9,10,11,12],[0,1,2,8,9,10,11,12],[0,1,2,3,8,9,10,11,12,13,14,55],[0,1,2,8,9],[0,1,2,3,8,9,10,11,12],[0,1,2,3,4,10,11,12],[0,1,2,3,4,10,11,12,13],[0,1,2,3,8,9],[0,2],[0,2],[0,1,2,6],[0,1,2,3,4,10],[0,1,2,3,4,10,11],[0,1,2,3,8],[0,1,2,3,4,5,12],[0,1,2,3,8,9],[0,1,2,3,4,10,11],[],[],[],[],[],[],[],[],[],[],[],[],[],[],[],[]]
def resT:List (List Nat):=[[],[],[],[4],[4],[2],[4],[4],[6],[6],[4],[6],[4],[2],[4],[2],[2],[4,5],[2],[4],[0],[4],[3,4],[6,7,8],[3],[6,7],[4],[4],[6],[2,3,4],[8,9],[4,5,6],[4,5],[4],[4,5],[4,5],[4],[4],[4],[6],[2],[2,3],[2,3],[2],[2],[2],[2],[4],[2],[6],[4],[4],[2],[7],[8],[6],[4],[4],[4,5],[4],[4],[6],[],[2],[2],[4],[6],[6],[2],[4],[6],[],[4],[2],[],[],[],[4],[2],[4],[4],[],[2],[],[2],[],[],[],[6,7],[],[6],[4],[8],[8,9],[2],[2],[],[],[],[8,9],[],[8],[10],[10,11],[],[2],[2],[6],[10],[],[8],[12],[8,9],[10,11],[],[],[],[],[],[],[],[],[],[],[],[],[],[],[],[]]
def sharedT:List Nat:=[30,38,47,53,55,58,62,63,69,71,73,74,75,76,80,81,83,85,86,87,88,89,90,92,93,96,97,98,99,100,101,102,103,104,106,107,108,109,110,111,112,113,122,123,124,125,126,127,128]
def deadT:List (Nat × Nat × List Nat):=[(8,6,[5,13,14,15,16,17,18,19,20,21,22,23,24,25,26,27,28,29,30,31]),(9,6,[12,13,14,15,16,17,18,19,20,21,22,23,24,25,26]),(12,11,[10,13,15,20,21,23,24]),(12,14,[10,13,15,21,23,24]),(12,21,[8,9,10,12,13,14,15,17,18,19,20,21,23]),(14,5,[10,11,13,14,15,16,17,18,20,21,22,23,24,25,26,27,28]),(14,19,[3,7,8,10,11,13,14,15,16,17,18,20,21,26]),(18,5,[5,6]),(18,10,[4,6]),(18,13,[4]),(21,9,[9]),(21,13,[7,8]),(22,4,[5,6,7,18,19,23,24]),(22,7,[6,7,23,24]),(22,10,[7]),(23,5,[10,11,12,13,14,15,16,17,47,48,52,53,97,98]),(23,7,[10,11,12,13,14,15,16,17,52,53,97,98]),(23,10,[11,12,13,14,15,16,17,97,98]),(23,21,[10,11,12,16,17,43,44,47,48,52,53,97,98]),(23,23,[10,11,12,16,17,43,44,47,48,52,53]),(24,3,[6,7]),(24,6,[7]),(25,6,[14]),(28,3,[9,10,11,12,13]),(28,7,[8,10,11,12,13]),(28,10,[8,11,12,13]),(29,6,[8,9,10,29,30]),(29,9,[9,10]),(30,8,[11,13,14]),(30,12,[11]),(31,8,[11,12,46,47]),(31,10,[11,12]),(32,5,[11,12,13,14,15,16,17]),(32,10,[14,15,16,17]),(32,14,[7,13,15,16,17]),(33,3,[7,8]),(38,1,[5]),(40,5,[7,8,9,10,11,12,13]),(40,8,[8,9,10,11,12,13]),(40,14,[10,11,12,13]),(40,21,[4,6,7,8,9,13]),(40,23,[4,6,7,8,9]),(41,4,[5,6,7,24,25]),(41,7,[7]),(42,5,[6,7,8]),(43,5,[6,7,8]),(45,4,[6,7,8]),(45,7,[7,8]),(45,10,[8]),(46,4,[4,5,6,7,8,29,30,31,36,37,38]),(46,10,[4,5,6,7,8,13,14,15,36,37,38]),(46,13,[4,6,7,8,13,14,15]),(50,4,[9,10,11,13,15,41,42,43,64,65]),(50,13,[6,7,9,13,15,21,22,23,64,65]),(50,20,[3,6,7,9,13,15,21,22,23,41,42,43]),(53,7,[9,10]),(54,4,[12,13,14]),(54,9,[11,13,14]),(54,12,[11,14]),(54,15,[11]),(55,7,[8,10,11]),(56,3,[6,7]),(57,4,[5,6]),(58,3,[8,9]),(58,6,[9]),(59,2,[6,7]),(59,5,[7]),(61,3,[8,9,11,12,13,14,31,32,33,55,56]),(61,9,[5,8,11,12,13,14,19,20,55,56]),(61,15,[5,8,11,14,19,20]),(62,2,[6]),(65,3,[7,8,9,10,11]),(65,8,[6,9,10,11]),(65,14,[6]),(66,3,[9,10,11,12]),(66,6,[10,11,12]),(66,10,[12]),(67,3,[9,10,11,12]),(67,7,[12]),(67,11,[11]),(69,2,[5]),(70,3,[8,9]),(72,2,[5]),(75,1,[4]),(78,2,[4]),(81,2,[10,11,12,13,14,15,16,17,18]),(83,2,[12,13,14,15,16,17,18,19,20]),(85,1,[7]),(86,4,[10]),(86,8,[8,9]),(87,5,[10]),(90,3,[9,10]),(90,5,[9,10]),(90,14,[10]),(90,20,[9]),(96,1,[9]),(97,4,[12]),(97,8,[10,11]),(98,5,[12]),(101,3,[11,12]),(101,5,[11,12]),(101,14,[12]),(101,20,[11]),(104,1,[9]),(109,1,[11])]
def pol:Pol where
  shared g:=sharedT.contains g
  freeze _ _:=true
  freezeS _ _:=false
  blk g d:=!((resT.getD g []).contains d)
  nilf g:=g == 52
  deep _:=false
  prim _:=none
  rows g _:=g == 42
  keys g:=keysT.getD g []
  quiet f r:=if f == 8 && r == 17 then [1,3] else []
  dead f r:=((deadT.find? fun p=>p.1 == f && p.2.1 == r).map (·.2.2)).getD []
theorem follows_mixed:Tp.follows .mixedOrders=true:=by kernel_rfl
set_option maxRecDepth 100000 in
theorem fns_ok:(Tp.funcs.toList.zipIdx.all fun p=>fnOk pol p.2 p.1)=true:=by kernel_rfl
theorem sound (n:Nat):CallSound Tp (callN Tp pol n) :=
  callN_ok follows_mixed (fun g fn h=>List.all_eq_true.1 fns_ok (fn,g) (by
      rw [List.mem_zipIdx_iff_getElem?]
      simpa using h)) (fun g F h=>by cases h) n
theorem sound_prim (F:FuncId → Option (List HV → Option HV)) (hF:∀ g f,F g=some f → PrimOk Tp g f) (n:Nat):CallSound Tp (callN Tp { pol with prim:=F } n) :=
  callN_ok follows_mixed (fun g fn h=>by
    rw [fnOk_prim]
    exact List.all_eq_true.1 fns_ok (fn,g) (by
      rw [List.mem_zipIdx_iff_getElem?]
      simpa using h)) hF n
def modW (a:Int) (n:Int):Int:=IntKind.i64.wrap ((IntKind.u64.wrap a).tmod (IntKind.u64.wrap n))
theorem wrapU64 (n:Int):IntKind.u64.wrap n=n % 18446744073709551616:=by simp [IntKind.wrap,IntKind.signed,IntKind.bits]
theorem wrapI64 (n:Int):IntKind.i64.wrap n=(n+9223372036854775808) % 18446744073709551616 - 9223372036854775808:=by rw [IntKind.wrap_i64]
theorem modW_bounds (a n:Int) (h0:0 < n) (h1:n < 9223372036854775808):0 ≤ modW a n∧modW a n < n:=by
  have hn:IntKind.u64.wrap n=n:=by rw [wrapU64]; omega
  have ha:0 ≤ IntKind.u64.wrap a:=by rw [wrapU64]; omega
  have hm0:0 ≤ IntKind.u64.wrap a % n:=Int.emod_nonneg _ (by omega)
  have hm1:IntKind.u64.wrap a % n < n:=Int.emod_lt_of_pos _ h0
  simp only [modW,hn]
  rw [Int.tmod_eq_emod_of_nonneg ha,wrapI64]
  constructor <;> omega
end Go.Proofs.Ytlendaofkmhgmaa
end
section
open Go Go.HL
namespace Go.Proofs.Ytlendaofkmhgmaa
open Go.Proofs.Try renaming prog → Tp
open Go.HL.HV renaming undef → Ud
abbrev bI (l:List Int):Blk:=.arr 1 (l.map encI) true 0
def encR (r:List Int):HV:=.imm .arg 1 (r.map encI)
def encO (r:List Int):HV:=.imm .own 1 (r.map encI)
def decR:HV → Option (List Int) | .imm .arg 1 l=>mapO decI l | _=>none
theorem decR_enc (r:List Int):decR (encR r)=some r:=mapO_map decI_enc r
theorem decR_inv (b:HV) (a:List Int) (h:decR b=some a):b=encR a:=by
  unfold decR at h
  split at h
  · rw [mapO_inv decI_inv h]; rfl
  · cases h
theorem wrap_succ {j:Nat} (h:j < 4611686018427387904):IntKind.i64.wrap ((j:Int)+1)=((j+1:Nat):Int):=by rw [wrapI64]; omega
theorem wrap_pred {j:Nat} (h0:0 < j) (h:j < 4611686018427387904):IntKind.i64.wrap ((j:Int) - 1)=((j - 1:Nat):Int):=by rw [wrapI64]; omega
theorem wrap_id {n:Int} (h0:-4611686018427387904 ≤ n) (h:n < 4611686018427387904):IntKind.i64.wrap n=n:=by rw [wrapI64]; omega
theorem argP_ints':∀ (l:List Int),argPL (l.map encI)=some (l.map encI)
  | []=>rfl
  | p :: l=>by simp only [List.map_cons,argPL,argP_ints' l,encI,argP]
theorem argP_rows':∀ (R:List (List Int)),argPL (R.map encR)=some (R.map encR)
  | []=>rfl
  | p :: l=>by simp only [List.map_cons,argPL,argP_rows' l,encR,argP,argP_ints']
theorem arg_li (H:Heap) (l:List Int):toArg H 6 (.imm .arg 1 (l.map encI))=some (.imm .arg 1 (l.map encI)):=by
  show argP (.imm .arg 1 (l.map encI))=_
  simp only [argP,argP_ints']
theorem arg_rw (H:Heap) (R:List (List Int)):toArg H 6 (.imm .arg 1 (R.map encR))=some (.imm .arg 1 (R.map encR)):=by
  show argP (.imm .arg 1 (R.map encR))=_
  simp only [argP,argP_rows']
theorem encI_any (l:List Int):(l.map encI).any isOwn=false:=by
  rw [List.any_eq_false]
  intro v hv
  obtain ⟨k,_,rfl⟩:=List.mem_map.1 hv
  simp [encI,isOwn]
theorem encO_any (l:List (List Int)):(l.map encO).any isOwn=false:=by
  rw [List.any_eq_false]
  intro v hv
  obtain ⟨k,_,rfl⟩:=List.mem_map.1 hv
  simp [encO,isOwn]
theorem recv_ints (l:List Int) (H:Heap):recv (.own 1 (l.map encI)) H=(.sl H.length 0 l.length none l.length 1,H ++ [bI l]):=by
  simp only [recv,recvVal,recvCell,encI_any,List.length_map]
  rfl
theorem recv_rows (l:List (List Int)) (H:Heap):recv (.own 1 (l.map encO)) H=(.sl H.length 0 l.length none l.length 1,H ++ [.arr 1 (l.map encO) true 0]):=by
  simp only [recv,recvVal,recvCell,encO_any,List.length_map]
  rfl
theorem ints_bnd:∀ (l:List Int),bndL (l.map encI)=0
  | []=>rfl
  | a :: l=>by simp only [List.map_cons,bndL,ints_bnd l,encI,bnd]; rfl
theorem ints_res:∀ (l:List Int),resPL (l.map encI)=true
  | []=>rfl
  | a :: l=>by simp only [List.map_cons,resPL,ints_res l,encI,resP]; rfl
theorem fnok (F:FuncId → Option (List HV → Option HV)) (g:FuncId) (fn:Func) (h:Tp.funcs[g]?=some fn):fnOk { pol with prim:=F } g fn=true:=by
  rw [fnOk_prim]
  exact List.all_eq_true.1 fns_ok (fn,g) (by
    rw [List.mem_zipIdx_iff_getElem?]
    simpa using h)
theorem gc_eq {H H':Heap} (r:Nat) (h:H'.length=H.length):gc H.length r H'=H':=by
  unfold gc
  rw [List.take_of_length_le (by omega)]
theorem nb_false {b:Bool} (h:¬ b=true):b=false:=by cases b <;> simp_all
theorem u23:Tp.underlying 23=some (.slice 3):=by kernel_rfl
theorem u22:Tp.underlying 22=some (.slice 23):=by kernel_rfl
theorem u68:Tp.underlying 68=some (.slice 23):=by kernel_rfl
theorem z3:tySize Tp 3=some 1:=by kernel_rfl
theorem z4:tySize Tp 4=some 1:=by kernel_rfl
theorem z23:tySize Tp 23=some 1:=by kernel_rfl
theorem a3:tyAgg Tp 3=false:=by kernel_rfl
theorem i3:(Tp.underlying 3).isSome=true:=by kernel_rfl
theorem a4:tyAgg Tp 4=false:=by kernel_rfl
theorem a23:tyAgg Tp 23=false:=by kernel_rfl
theorem i23:(Tp.underlying 23).isSome=true:=by kernel_rfl
theorem gx {l:List Int} {y:Nat} (hy:y < l.length):idxV Tp 23 (.imm .arg 1 (l.map encI)) (.int .i64 (y:Int))=some (.vptr (.int .i64 (l.getD y 0))) :=
  idx_imm u23 z3 (by omega) (by rw [Int.toNat_natCast,List.getElem?_map,List.getElem?_eq_getElem hy]; simp [List.getD,List.getElem?_eq_getElem hy,encI])
theorem gxi {l:List Int} {y:Int} (h0:0 ≤ y) (hy:y.toNat < l.length):idxV Tp 23 (.imm .arg 1 (l.map encI)) (.int .i64 y)=some (.vptr (.int .i64 (l.getD y.toNat 0))):=by
  have:=gx (l:=l) (y:=y.toNat) hy
  rwa [show ((y.toNat:Nat):Int)=y by omega] at this
theorem gr {R:List (List Int)} {y:Nat} (hy:y < R.length):idxV Tp 22 (.imm .arg 1 (R.map encR)) (.int .i64 (y:Int))=some (.vptr (.imm .arg 1 ((R.getD y []).map encI))) :=
  idx_imm u22 z23 (by omega) (by rw [Int.toNat_natCast,List.getElem?_map,List.getElem?_eq_getElem hy]; simp [List.getD,List.getElem?_eq_getElem hy,encR])
theorem gm {R:List (List Int)} {y:Int} (h0:0 ≤ y) (hy:y.toNat < R.length):idxV Tp 68 (.imm .arg 1 (R.map encR)) (.int .i64 y)=some (.vptr (.imm .arg 1 ((R.getD y.toNat []).map encI))) :=
  idx_imm u68 z23 h0 (by rw [List.getElem?_map,List.getElem?_eq_getElem hy]; simp [List.getD,List.getElem?_eq_getElem hy,encR])
theorem load_out {H:Heap} {k:Nat} {o:List Int} (h:H[k]?=some (bI o)) {y:Nat} (hy:y < o.length):loadV Tp H 3 (.ptr k y 0 o.length)=some (.int .i64 (o.getD y 0)) :=
  load_elem (b:=k) h (by simp) (by rw [List.getElem?_map,List.getElem?_eq_getElem hy]; simp [List.getD,List.getElem?_eq_getElem hy,encI]) rfl a3 i3
theorem store_out {H:Heap} {k:Nat} {o:List Int} (h:H[k]?=some (bI o)) {y:Nat} (hy:y < o.length) (v:Int):storeV Tp H 3 (.ptr k y 0 o.length) (.int .i64 v)=some (H.set k (bI (o.set y v))):=by
  have hi:(o.map encI)[y]?=some (encI o[y]):=by rw [List.getElem?_map,List.getElem?_eq_getElem hy]; rfl
  have:=store_elem (P:=Tp) (t:=3) (b:=k) (tot:=o.length) (v:=.int .i64 v) h (by simp) hi rfl (by intro cs h; cases h) z3 rfl rfl (by simp [bnd])
  rw [this]
  show some (H.set k (.arr 1 ((o.map encI).set y (encI v)) true 0))=_
  rw [bI,List.map_set]
theorem res_li {H:Heap} {b k:Nat} {o:List Int} (hb:H[b]?=some (bI o)) (hk:o.length=k):toRes H false (.sl b 0 k none k 1)=some (.own 1 (o.map encI)):=by
  have hr:=resCell_sl (H:=H) (no:=[b]) (b:=b) (k:=1) (m:=k) (cap:=none) (els:=o.map encI) hb (by simpa using hk) (mapO_self (fun r=>frz_int 4 r) _)
  have ho:ownedAll H false (.sl b 0 k none k 1)=[b]:=by simp [ownedAll,cellsOf,owned,hb]
  simp only [toRes,ho,List.nodup_cons,List.not_mem_nil,not_false_eq_true,List.nodup_nil,and_self,if_true,resVal,hr]
theorem app_ints {H:Heap} {b:Nat} {o xs:List Int} (hb:H[b]?=some (bI o)) (hlen:o.length+xs.length ≤ 1000) (hx:xs ≠ []) :
    appV H 1 8 (.sl b 0 o.length none o.length 1) (xs.map encI)=some (.sl b 0 (o ++ xs).length none (o ++ xs).length 1,H.set b (bI (o ++ xs))):=by
  have:=app_sl (H:=H) (k:=1) (bytes:=8) (b:=b) (n:=o.length) (mx:=0) (els:=o.map encI) (xs:=xs.map encI) hb (by simp) (by simpa using hx) (by rw [List.length_map]; simp only [roomMax]; omega) (ints_bnd xs)
  rw [this]
  simp [bI]
theorem arg_sl {H:Heap} {l:List Int} {b m:Nat} (hm:l.length=m) (hb:H[b]?=some (bI l)):toArg H 6 (.sl b 0 m none m 1)=some (.imm .arg 1 (l.map encI)):=by
  subst hm
  have e:toArg H 6 (.sl b 0 l.length none l.length 1)=if l.length=0 then some (.imm .arg 1 []) else match view H b 0 l.length l.length 1 with | some l=>(match mapO (toArg H 5) l with | some l=>some (.imm .arg 1 l) | none=>none) | none=>none:=rfl
  rw [e]
  split
  · rename_i h0
    rw [List.length_eq_zero_iff.1 h0]; rfl
  · have hv:view H b 0 l.length l.length 1=some (l.map encI):=by
      simp only [view,hb,List.length_map]
      rw [if_pos ⟨trivial,by omega,trivial⟩]
      simp [List.take_of_length_le]
    have hm:mapO (toArg H 5) (l.map encI)=some (l.map encI):=mapO_self (f:=toArg H 5) (g:=encI) (fun _=>rfl) l
    rw [hv]
    simp only [hm]
theorem arg_rs {H:Heap} {R:List (List Int)} {b m mx:Nat} (hm:R.length=m) (hb:H[b]?=some (.arr 1 (R.map encO) true mx)):toArg H 6 (.sl b 0 m none m 1)=some (.imm .arg 1 (R.map encR)):=by
  subst hm
  have e:toArg H 6 (.sl b 0 R.length none R.length 1)=if R.length=0 then some (.imm .arg 1 []) else match view H b 0 R.length R.length 1 with | some l=>(match mapO (toArg H 5) l with | some l=>some (.imm .arg 1 l) | none=>none) | none=>none:=rfl
  rw [e]
  split
  · rename_i h0
    rw [List.length_eq_zero_iff.1 h0]; rfl
  · have hv:view H b 0 R.length R.length 1=some (R.map encO):=by
      simp only [view,hb,List.length_map]
      rw [if_pos ⟨trivial,by omega,trivial⟩]
      simp [List.take_of_length_le]
    have hm:∀ (R:List (List Int)),mapO (toArg H 5) (R.map encO)=some (R.map encR):=by
      intro R
      induction R with
      | nil=>rfl
      | cons r R ih =>
        have e:toArg H 5 (encO r)=some (encR r):=by
          show argP (.imm .own 1 (r.map encI))=_
          simp only [argP,argP_ints']
          rfl
        simp only [List.map_cons,mapO,e,ih]
    rw [hv]
    simp only [hm]
end Go.Proofs.Ytlendaofkmhgmaa
end
section
open Go Go.HL
namespace Go.Proofs.Ytlendaofkmhgmaa
def awakeF:List HV → Option HV | []=>some (.bool true) | _=>none
def withinF:List HV → Option HV
  | [.int .i64 n,.int .i64 lo,.int .i64 hi]=>some (.bool (decide (lo ≤ n∧n ≤ hi)))
  | _=>none
def modF:List HV → Option HV
  | [.int .i64 a,.int .i64 n]=>if 0 < n∧n < 9223372036854775808 then some (.int .i64 (modW a n)) else none
  | _=>none
def liF (f:List Int → Option HV):List HV → Option HV
  | [.imm .arg 1 la]=>(match mapO decI la with | some l=>f l | none=>none)
  | _=>none
def rwF (f:List (List Int) → Option HV):List HV → Option HV
  | [.imm .arg 1 rw]=>(match mapO decR rw with | some R=>f R | none=>none)
  | _=>none
def rlF (f:List (List Int) → List Int → Option HV):List HV → Option HV
  | [.imm .arg 1 rw,.imm .arg 1 la]=>(match mapO decR rw,mapO decI la with | some R,some l=>f R l | _,_=>none)
  | _=>none
def llF (f:List Int → List Int → Option HV):List HV → Option HV
  | [.imm .arg 1 la,.imm .arg 1 lb]=>(match mapO decI la,mapO decI lb with | some a,some b=>f a b | _,_=>none)
  | _=>none
def lnF (f:List Int → Int → Option HV):List HV → Option HV
  | [.imm .arg 1 la,.int .i64 v]=>(match mapO decI la with | some l=>f l v | none=>none)
  | _=>none
def list16:List HV → Option HV:=liF fun l=>some (.own 1 ((l.take 13).map encI))
def tabL (R:List (List Int)):List (List Int):=(R.take 12).map (·.take 13)
def ints26:List HV → Option HV:=llF fun a b=>if a.length ≤ 1000 then some (.bool (decide (a=b))) else none
def idxFrom (v:Int):Nat → List Int → Int
  | _,[]=>-1
  | j,x :: l=>if v=x then (j:Int) else idxFrom v (j+1) l
def index72:List HV → Option HV:=lnF fun l v=>if l.length ≤ 1000 then some (.int .i64 (idxFrom v 0 l)) else none
def contains60:List HV → Option HV:=lnF fun l v=>if l.length ≤ 1000 then some (.bool (decide (v ∈ l))) else none
def mile68:List HV → Option HV
  | [.int .i64 n]=>some (.bool (!decide (0 ≤ n∧n ≤ 1000)))
  | _=>none
def at2 (d:List (List Int)) (i j:Nat):Int:=(d.getD i []).getD j 0
def okD (d:List (List Int)):Prop:=(1 ≤ d.length∧d.length ≤ 11)∧(∀ i,i < d.length → (d.getD i []).length=d.length)∧∀ i,i < d.length → ∀ j,j < d.length → (0 ≤ at2 d i j∧at2 d i j ≤ 1000)∧at2 d i j=at2 d j i∧(i=j → at2 d i j=0)
open Classical in
noncomputable def okB (d:List (List Int)):Bool:=decide (okD d)
noncomputable def miles46:List HV → Option HV:=rwF fun R=>if R.length ≤ 1000∧(R.all fun r=>decide (r.length ≤ 1000))=true then some (.bool (okB R)) else none
def inT (n:Nat) (l:List Int):Prop:=∀ v,v ∈ l → 0 ≤ v∧v < (n:Int)
def trOk (n:Nat) (l:List Int):Bool:=decide (l.length=n∧l.getD 0 0=0∧(∀ v,v ∈ l → 0 ≤ v∧v < (n:Int))∧l.Nodup)
def tour57:List HV → Option HV:=rlF fun R l=>if 1 ≤ R.length∧l.length ≤ 1000 then some (.bool (trOk R.length l)) else none
def lenGo (d:List (List Int)) (l:List Int):Nat → Nat → Int → Int
  | 0,_,s=>s
  | k+1,j,s=>lenGo d l k (j+1) (s+at2 d (l.getD j 0).toNat (l.getD ((j+1) % l.length) 0).toNat)
def lenT (d:List (List Int)) (l:List Int):Int:=lenGo d l l.length 0 0
open Classical in
noncomputable def len56:List HV → Option HV:=rlF fun R l=>if okD R∧inT R.length l∧l.length ≤ 1000 then some (.int .i64 (lenT R l)) else none
def revP (l:List Int) (i j:Nat):List Int:=l.take i ++ (((l.drop i).take (j+1 - i)).reverse ++ l.drop (j+1))
open Classical in
noncomputable def length34:List HV → Option HV:=rlF fun R l=>if R.length ≤ 1000∧(R.all fun r=>decide (r.length ≤ 1000))=true∧l.length ≤ 1000 then some (if okD R∧trOk R.length l=true then .tuple [.int .i64 (lenT R l),.int .i64 0] else .tuple [.int .i64 0,.int .i64 2]) else none
def polW:Pol:={ pol with prim:=fun g=>if g == 49 then some withinF else none }
def polX:Pol:={ pol with prim:=fun g=>if g == 72 then some index72 else none }
def polT:Pol:={ pol with prim:=fun g=>if g == 49 then some withinF else if g == 60 then some contains60 else none }
def polM:Pol:={ pol with prim:=fun g=>if g == 49 then some withinF else if g == 68 then some mile68 else none }
noncomputable def polN:Pol:={ pol with prim:=fun g=>if g == 46 then some miles46 else if g == 57 then some tour57 else if g == 56 then some len56 else none }
end Go.Proofs.Ytlendaofkmhgmaa
end
section
open Go Go.HL
namespace Go.Proofs.Ytlendaofkmhgmaa
def wo (L v:Nat):Nat:=if L.testBit v then L - 2 ^ v else L
def xorOk:Bool:=(List.range 2048).all fun L=>(List.range 11).all fun v=>!L.testBit v || L - 2 ^ v == L ^^^ 2 ^ v
theorem xorOk_true:xorOk=true:=by kernel_rfl
theorem wo_bit {L v:Nat} (hL:L < 2048) (hv:v < 11) (u:Nat):(wo L v).testBit u=(L.testBit u && decide (u ≠ v)):=by
  unfold wo
  split
  · rename_i h
    have h1:=List.all_eq_true.1 (List.all_eq_true.1 xorOk_true L (List.mem_range.2 hL)) v (List.mem_range.2 hv)
    rw [h,Bool.not_true,Bool.false_or,beq_iff_eq] at h1
    rw [h1,Nat.testBit_xor,Nat.testBit_two_pow]
    by_cases e:v=u
    · subst e; simp [h]
    · have e':u ≠ v:=fun h=>e h.symm
      simp [e,e']
  · rename_i h
    by_cases e:u=v
    · subst e; simp [nb_false h]
    · simp [e]
theorem wo_le (L v:Nat):wo L v ≤ L:=by unfold wo; split; exact Nat.sub_le _ _; exact Nat.le_refl _
theorem wo_lt {L v:Nat} (h:L.testBit v=true):wo L v < L:=by
  unfold wo
  rw [if_pos h]
  have:=Nat.ge_two_pow_of_testBit h
  have:0 < 2 ^ v:=Nat.two_pow_pos v
  omega
theorem bit_lt {L v n:Nat} (hL:L < 2 ^ n) (h:L.testBit v=true):v < n:=by
  rcases Nat.lt_or_ge v n with h1 | h1
  · exact h1
  · have h2:=Nat.ge_two_pow_of_testBit h
    have h3:2 ^ n ≤ 2 ^ v:=Nat.pow_le_pow_right (by omega) h1
    omega
theorem pow_le {n:Nat} (h:n ≤ 11):2 ^ n ≤ 2048:=Nat.pow_le_pow_right (n:=2) (by omega) h
def lst (f:Nat → Int) (L:Nat):Nat → Nat → Int → Int
  | 0,_,m=>m
  | k+1,i,m=>lst f L k (i+1) (if L.testBit i then (if m < 0 ∨ f i < m then f i else m) else m)
def rsF (d:List (List Int)):Nat → Nat → Nat → Int
  | 0,s,_=>at2 d s 0
  | k+1,s,L=>if L=0 then at2 d s 0 else lst (fun v=>at2 d s v+rsF d k v (wo L v)) L d.length 0 (-1)
def rsT (d:List (List Int)) (s L:Nat):Int:=rsF d L s L
theorem lst_congr {f g:Nat → Int} {L:Nat} (h:∀ v,L.testBit v=true → f v=g v):∀ k i m,lst f L k i m=lst g L k i m:=by
  intro k
  induction k with
  | zero=>intros; rfl
  | succ k ih =>
    intro i m
    rw [lst,lst,ih]
    by_cases c:L.testBit i=true
    · rw [h i c]
    · rw [nb_false c]; rfl
theorem rsF_fuel (d:List (List Int)):∀ k k' s L,L ≤ k → L ≤ k' → rsF d k s L=rsF d k' s L:=by
  intro k
  induction k with
  | zero =>
    intro k' s L h _
    have:L=0:=by omega
    subst this
    cases k' with
    | zero=>rfl
    | succ k'=>rw [rsF,rsF,if_pos rfl]
  | succ k ih =>
    intro k' s L h h'
    by_cases c:L=0
    · subst c
      cases k' with
      | zero=>rw [rsF,rsF,if_pos rfl]
      | succ k'=>rw [rsF,rsF,if_pos rfl,if_pos rfl]
    · obtain ⟨k',rfl⟩:∃ n,k'=n+1:=⟨k' - 1,by omega⟩
      rw [rsF,rsF,if_neg c,if_neg c]
      refine lst_congr (fun v hv=>?_) _ _ _
      have:=wo_lt hv
      rw [ih k' v (wo L v) (by omega) (by omega)]
theorem rsT_zero (d:List (List Int)) (s:Nat):rsT d s 0=at2 d s 0:=rfl
theorem rsT_step (d:List (List Int)) (s:Nat) {L:Nat} (h:L ≠ 0):rsT d s L=lst (fun v=>at2 d s v+rsT d v (wo L v)) L d.length 0 (-1):=by
  obtain ⟨k,rfl⟩:∃ k,L=k+1:=⟨L - 1,by omega⟩
  unfold rsT
  rw [rsF,if_neg h]
  refine lst_congr (fun v hv=>?_) _ _ _
  have:=wo_lt hv
  rw [rsF_fuel d k (wo (k+1) v) v _ (by omega) (Nat.le_refl _)]
theorem lst_pos {f:Nat → Int} {L:Nat}:∀ k i m,(∀ v,v < i+k → L.testBit v=true → 0 ≤ f v) → 0 ≤ m → (0 ≤ lst f L k i m∧lst f L k i m ≤ m)∧(∀ v,i ≤ v → v < i+k → L.testBit v=true → lst f L k i m ≤ f v)∧(lst f L k i m=m ∨ ∃ v,(i ≤ v∧v < i+k)∧L.testBit v=true∧lst f L k i m=f v):=by
  intro k
  induction k with
  | zero=>intro i m _ hm; exact ⟨⟨hm,Int.le_refl _⟩,fun v h1 h2=>by omega,.inl rfl⟩
  | succ k ih =>
    intro i m h hm
    rw [lst]
    by_cases c:L.testBit i=true
    · have h0:=h i (by omega) c
      rw [if_pos c]
      by_cases c2:m < 0 ∨ f i < m
      · rw [if_pos c2]
        obtain ⟨⟨a1,a2⟩,a3,a4⟩:=ih (i+1) (f i) (fun v hv=>h v (by omega)) h0
        refine ⟨⟨a1,by omega⟩,fun v h1 h2 h3=>?_,?_⟩
        · by_cases e:v=i
          · subst e; exact a2
          · exact a3 v (by omega) (by omega) h3
        · rcases a4 with a4 | ⟨v,a5,a6,a7⟩
          · exact .inr ⟨i,by omega,c,a4⟩
          · exact .inr ⟨v,by omega,a6,a7⟩
      · rw [if_neg c2]
        obtain ⟨⟨a1,a2⟩,a3,a4⟩:=ih (i+1) m (fun v hv=>h v (by omega)) hm
        refine ⟨⟨a1,a2⟩,fun v h1 h2 h3=>?_,?_⟩
        · by_cases e:v=i
          · subst e; omega
          · exact a3 v (by omega) (by omega) h3
        · rcases a4 with a4 | ⟨v,a5,a6,a7⟩
          · exact .inl a4
          · exact .inr ⟨v,by omega,a6,a7⟩
    · rw [if_neg c]
      obtain ⟨⟨a1,a2⟩,a3,a4⟩:=ih (i+1) m (fun v hv=>h v (by omega)) hm
      refine ⟨⟨a1,a2⟩,fun v h1 h2 h3=>?_,?_⟩
      · by_cases e:v=i
        · subst e; exact absurd h3 c
        · exact a3 v (by omega) (by omega) h3
      · rcases a4 with a4 | ⟨v,a5,a6,a7⟩
        · exact .inl a4
        · exact .inr ⟨v,by omega,a6,a7⟩
theorem lst_neg {f:Nat → Int} {L:Nat}:∀ k i m,(∀ v,v < i+k → L.testBit v=true → 0 ≤ f v) → m < 0 → (∃ v,(i ≤ v∧v < i+k)∧L.testBit v=true) → 0 ≤ lst f L k i m∧(∀ v,i ≤ v → v < i+k → L.testBit v=true → lst f L k i m ≤ f v)∧∃ v,(i ≤ v∧v < i+k)∧L.testBit v=true∧lst f L k i m=f v:=by
  intro k
  induction k with
  | zero=>intro i m _ _ ⟨v,h,_⟩; omega
  | succ k ih =>
    intro i m h hm ⟨v,h1,h2⟩
    rw [lst]
    by_cases c:L.testBit i=true
    · have h0:=h i (by omega) c
      rw [if_pos c,if_pos (.inl hm)]
      obtain ⟨⟨a1,a2⟩,a3,a4⟩:=lst_pos (L:=L) k (i+1) (f i) (fun v hv=>h v (by omega)) h0
      refine ⟨a1,fun v h1 h2 h3=>?_,?_⟩
      · by_cases e:v=i
        · subst e; exact a2
        · exact a3 v (by omega) (by omega) h3
      · rcases a4 with a4 | ⟨v,a5,a6,a7⟩
        · exact ⟨i,by omega,c,a4⟩
        · exact ⟨v,by omega,a6,a7⟩
    · rw [if_neg c]
      have hv:v ≠ i:=fun e=>c (e ▸ h2)
      obtain ⟨a1,a3,v',a5,a6,a7⟩:=ih (i+1) m (fun v hv=>h v (by omega)) hm ⟨v,by omega,h2⟩
      refine ⟨a1,fun v h1 h2 h3=>?_,v',by omega,a6,a7⟩
      by_cases e:v=i
      · subst e; exact absurd h3 c
      · exact a3 v (by omega) (by omega) h3
section
variable {d:List (List Int)}
theorem okD.at (h:okD d) {i j:Nat} (hi:i < d.length) (hj:j < d.length):0 ≤ at2 d i j∧at2 d i j ≤ 1000:=(h.2.2 i hi j hj).1
theorem rsF_bnd (h:okD d):∀ k s L,s < d.length → L < 2 ^ d.length → L ≤ k → 0 ≤ rsF d k s L∧rsF d k s L ≤ 1000 * (k+1):=by
  intro k
  induction k with
  | zero =>
    intro s L hs _ _
    have:=h.at hs (j:=0) (by omega)
    rw [rsF]; omega
  | succ k ih =>
    intro s L hs hL hk
    rw [rsF]
    split
    · have:=h.at hs (j:=0) (by omega)
      omega
    · rename_i c
      have hf:∀ v,v < 0+d.length → L.testBit v=true → 0 ≤ at2 d s v+rsF d k v (wo L v)∧at2 d s v+rsF d k v (wo L v) ≤ 1000 * (k+2):=fun v hv hb=>by
        have h1:=h.at hs (j:=v) (by omega)
        have h2:=wo_lt hb
        have h3:=ih v (wo L v) (by omega) (by omega) (by omega)
        omega
      obtain ⟨v,hb⟩:=Nat.exists_testBit_of_ne_zero c
      have hv:=bit_lt hL hb
      obtain ⟨a1,_,v',a5,a6,a7⟩:=lst_neg (f:=fun v=>at2 d s v+rsF d k v (wo L v)) (L:=L) d.length 0 (-1) (fun v hv hb=>(hf v hv hb).1) (by omega) ⟨v,by omega,hb⟩
      refine ⟨a1,?_⟩
      rw [a7]
      have:=(hf v' (by omega) a6).2
      push_cast
      omega
theorem rsT_bnd (h:okD d) {s L:Nat} (hs:s < d.length) (hL:L < 2 ^ d.length):0 ≤ rsT d s L∧rsT d s L ≤ 3000000:=by
  have h1:=rsF_bnd h L s L hs hL (Nat.le_refl _)
  have h2:=pow_le h.1.2
  unfold rsT
  omega
theorem rsT_min (h:okD d) {s L:Nat} (hs:s < d.length) (hL:L < 2 ^ d.length) (c:L ≠ 0):(∀ v,L.testBit v=true → rsT d s L ≤ at2 d s v+rsT d v (wo L v))∧∃ v,L.testBit v=true∧rsT d s L=at2 d s v+rsT d v (wo L v):=by
  obtain ⟨v,hb⟩:=Nat.exists_testBit_of_ne_zero c
  have hv:=bit_lt hL hb
  have hf:∀ v,v < 0+d.length → L.testBit v=true → 0 ≤ at2 d s v+rsT d v (wo L v):=fun v hv hb=>by
    have h1:=h.at hs (j:=v) (by omega)
    have h2:=wo_lt hb
    have h3:=rsT_bnd h (s:=v) (L:=wo L v) (by omega) (by omega)
    omega
  obtain ⟨_,a2,v',a5,a6,a7⟩:=lst_neg (f:=fun v=>at2 d s v+rsT d v (wo L v)) (L:=L) d.length 0 (-1) hf (by omega) ⟨v,by omega,hb⟩
  rw [rsT_step d s c]
  exact ⟨fun v hb=>a2 v (by omega) (by have:=bit_lt hL hb; omega) hb,v',a6,a7⟩
def pck (g:Nat → Bool):Nat → Nat → Option Nat
  | 0,_=>none
  | k+1,i=>if g i then some i else pck g k (i+1)
theorem pck_some {g:Nat → Bool} {v:Nat}:∀ k i,pck g k i=some v → (i ≤ v∧v < i+k)∧g v=true∧∀ u,i ≤ u → u < v → g u=false:=by
  intro k
  induction k with
  | zero=>intro i h; cases h
  | succ k ih =>
    intro i h
    rw [pck] at h
    split at h
    · rename_i c
      cases h
      exact ⟨by omega,c,fun u h1 h2=>by omega⟩
    · rename_i c
      obtain ⟨h1,h2,h3⟩:=ih _ h
      refine ⟨by omega,h2,fun u h4 h5=>?_⟩
      by_cases e:u=i
      · subst e; exact nb_false c
      · exact h3 u (by omega) h5
theorem pck_none {g:Nat → Bool}:∀ k i,pck g k i=none → ∀ u,i ≤ u → u < i+k → g u=false:=by
  intro k
  induction k with
  | zero=>intro i _ u h1 h2; omega
  | succ k ih =>
    intro i h u h1 h2
    rw [pck] at h
    split at h
    · cases h
    · rename_i c
      by_cases e:u=i
      · subst e; exact nb_false c
      · exact ih _ h u (by omega) (by omega)
def okV (d:List (List Int)) (s L v:Nat):Bool:=L.testBit v && decide (at2 d s v+rsT d v (wo L v)=rsT d s L)
def grd (d:List (List Int)):Nat → Nat → Nat → List Int
  | 0,_,_=>[]
  | k+1,s,L=>if L=0 then [] else match pck (okV d s L) d.length 0 with | some v=>(v:Int) :: grd d k v (wo L v) | none=>[]
def bestT (d:List (List Int)):List Int:=0 :: grd d (2 ^ d.length) 0 (2 ^ d.length - 2)
theorem pck_ok (h:okD d) {s L:Nat} (hs:s < d.length) (hL:L < 2 ^ d.length) (c:L ≠ 0):∃ v,pck (okV d s L) d.length 0=some v∧v < d.length∧L.testBit v=true∧at2 d s v+rsT d v (wo L v)=rsT d s L:=by
  obtain ⟨_,v,h1,h2⟩:=rsT_min h hs hL c
  have hv:=bit_lt hL h1
  cases hp:pck (okV d s L) d.length 0 with
  | none =>
    have:=pck_none _ _ hp v (by omega) (by omega)
    simp [okV,h1,h2] at this
  | some u =>
    obtain ⟨h3,h4,_⟩:=pck_some _ _ hp
    simp only [okV,Bool.and_eq_true,decide_eq_true_eq] at h4
    exact ⟨u,rfl,by omega,h4.1,h4.2⟩
def pl (d:List (List Int)):Nat → List Int → Int
  | s,[]=>at2 d s 0
  | s,v :: p=>at2 d s v.toNat+pl d v.toNat p
def Cp (L:Nat) (p:List Int):Prop:=p.Nodup∧∀ v:Int,v ∈ p ↔ 0 ≤ v∧L.testBit v.toNat=true
theorem Cp.cons {L v:Nat} {p:List Int} (hL:L < 2048) (hv:v < 11) (hb:L.testBit v=true) (h:Cp (wo L v) p):Cp L ((v:Int) :: p):=by
  refine ⟨List.nodup_cons.2 ⟨fun hm=>?_,h.1⟩,fun u=>?_⟩
  · have:=((h.2 v).1 hm).2
    rw [wo_bit hL hv] at this
    simp at this
  · rw [List.mem_cons,h.2]
    rw [wo_bit hL hv]
    constructor
    · rintro (rfl | ⟨h1,h2⟩)
      · exact ⟨by omega,by rw [Int.toNat_natCast]; exact hb⟩
      · simp only [Bool.and_eq_true] at h2
        exact ⟨h1,h2.1⟩
    · rintro ⟨h1,h2⟩
      by_cases e:u=(v:Int)
      · exact .inl e
      · refine .inr ⟨h1,?_⟩
        simp only [Bool.and_eq_true,decide_eq_true_eq]
        exact ⟨h2,by omega⟩
theorem Cp.tail {L:Nat} {v:Int} {p:List Int} (hL:L < 2048) (h:Cp L (v :: p)):(0 ≤ v∧L.testBit v.toNat=true)∧Cp (wo L v.toNat) p:=by
  have h1:=(h.2 v).1 (by simp)
  have hv:v.toNat < 11:=bit_lt (n:=11) hL h1.2
  obtain ⟨h2,h3⟩:=List.nodup_cons.1 h.1
  refine ⟨h1,h3,fun u=>?_⟩
  rw [wo_bit hL hv]
  simp only [Bool.and_eq_true,decide_eq_true_eq]
  constructor
  · intro hu
    have h4:=(h.2 u).1 (by simp [hu])
    refine ⟨h4.1,h4.2,fun e=>?_⟩
    have:u=v:=by omega
    exact h2 (this ▸ hu)
  · rintro ⟨h4,h5,h6⟩
    have:=(h.2 u).2 ⟨h4,h5⟩
    rw [List.mem_cons] at this
    rcases this with rfl | h7
    · exact absurd rfl h6
    · exact h7
theorem grd_ok (h:okD d):∀ (k s L:Nat),s < d.length → L < 2 ^ d.length → L ≤ k → Cp L (grd d k s L)∧pl d s (grd d k s L)=rsT d s L:=by
  have hp:=pow_le h.1.2
  have h0:∀ s,Cp 0 []∧pl d s []=rsT d s 0:=fun s=>⟨⟨List.nodup_nil,fun v=>by simp⟩,rfl⟩
  intro k
  induction k with
  | zero =>
    intro s L hs hL hk
    have:L=0:=by omega
    subst this
    exact h0 s
  | succ k ih =>
    intro s L hs hL hk
    rw [grd]
    by_cases c:L=0
    · subst c; rw [if_pos rfl]; exact h0 s
    · rw [if_neg c]
      obtain ⟨v,h1,h2,h3,h4⟩:=pck_ok h hs hL c
      rw [h1]
      have h5:=wo_lt h3
      obtain ⟨h6,h7⟩:=ih v (wo L v) h2 (by omega) (by omega)
      refine ⟨h6.cons (by omega) (by have:=h.1.2; omega) h3,?_⟩
      show pl d s ((v:Int) :: grd d k v (wo L v))=_
      rw [pl,Int.toNat_natCast,h7,h4]
theorem lenGo_pl {l:List Int} (h0:l.getD 0 0=0):∀ (k j:Nat) (s:Int),j+(k+1)=l.length → lenGo d l (k+1) j s=s+pl d (l.getD j 0).toNat (l.drop (j+1)):=by
  intro k
  induction k with
  | zero =>
    intro j s hj
    rw [lenGo,lenGo,List.drop_of_length_le (by omega),pl,show j+1=l.length by omega,Nat.mod_self,h0]
    rfl
  | succ k ih =>
    intro j s hj
    rw [lenGo,ih (j+1) _ (by omega),Nat.mod_eq_of_lt (by omega),List.drop_eq_getElem_cons (show j+1 < l.length by omega),pl]
    have e:l[j+1]'(by omega)=l.getD (j+1) 0:=by simp [List.getD,List.getElem?_eq_getElem (show j+1 < l.length by omega)]
    rw [e]; omega
theorem lenT_pl (p:List Int):lenT d (0 :: p)=pl d 0 p:=by
  have:=lenGo_pl (d:=d) (l:=0 :: p) rfl p.length 0 0 (by simp)
  unfold lenT
  rw [List.length_cons,this]
  simp
theorem all_bit {n v:Nat} (hn:1 ≤ n):(2 ^ n - 2).testBit v=decide (1 ≤ v∧v < n):=by
  have h1:2 ^ n - 2=2 * (2 ^ (n - 1) - 1):=by
    obtain ⟨k,rfl⟩:∃ k,n=k+1:=⟨n - 1,by omega⟩
    rw [Nat.pow_succ,Nat.add_sub_cancel]; omega
  rw [h1]
  cases v with
  | zero=>simp [Nat.testBit_zero]
  | succ v =>
    rw [Nat.testBit_succ,Nat.mul_comm,Nat.mul_div_cancel _ (by omega),Nat.testBit_two_pow_sub_one]
    congr 1
    apply propext
    omega
theorem tour_cp {n:Nat} {l:List Int} (hn:1 ≤ n) (h:trOk n l=true):∃ p,l=0 :: p∧Cp (2 ^ n - 2) p:=by
  simp only [trOk,decide_eq_true_eq] at h
  obtain ⟨t1,t2,t3,t4⟩:=h
  cases l with
  | nil=>simp at t1; omega
  | cons a p =>
    simp at t2
    subst t2
    obtain ⟨n1,n2⟩:=List.nodup_cons.1 t4
    refine ⟨p,rfl,n2,fun v=>?_⟩
    rw [all_bit hn,decide_eq_true_eq]
    constructor
    · intro hv
      have:=t3 v (by simp [hv])
      have:v ≠ 0:=fun e=>n1 (e ▸ hv)
      omega
    · rintro ⟨h1,h2,h3⟩
      have hs:(0 :: p) ⊆ (List.range n).map fun i:Nat=>(i:Int):=fun x hx=>by
        have:=t3 x hx
        exact List.mem_map.2 ⟨x.toNat,List.mem_range.2 (by omega),by omega⟩
      apply Classical.byContradiction
      intro hm
      have h4:(v :: 0 :: p).Nodup:=List.nodup_cons.2 ⟨by simp only [List.mem_cons,not_or]; exact ⟨by omega,hm⟩,t4⟩
      have h5:=h4.length_le_of_subset (l₂:=(List.range n).map fun i:Nat=>(i:Int)) (fun x hx=>by
        rcases List.mem_cons.1 hx with rfl | hx
        · exact List.mem_map.2 ⟨x.toNat,List.mem_range.2 (by omega),by omega⟩
        · exact hs hx)
      simp only [List.length_cons,List.length_map,List.length_range] at h5 t1
      omega
theorem cp_tour {n:Nat} {p:List Int} (hn:1 ≤ n) (h:Cp (2 ^ n - 2) p):trOk n (0 :: p)=true:=by
  have hm:∀ v:Int,v ∈ p ↔ 1 ≤ v∧v < n:=fun v=>by
    rw [h.2,all_bit hn,decide_eq_true_eq]; omega
  have nd:(0 :: p).Nodup:=List.nodup_cons.2 ⟨fun h0=>by have:=(hm 0).1 h0; omega,h.1⟩
  have ndR:((List.range n).map fun i:Nat=>(i:Int)).Nodup:=by
    refine List.Pairwise.map _ (fun a b (hab:a ≠ b)=>?_) List.nodup_range
    intro e
    exact hab (by omega)
  have hmem:∀ x:Int,x ∈ (0 :: p) ↔ x ∈ (List.range n).map fun i:Nat=>(i:Int):=fun x=>by
    rw [List.mem_cons,hm,List.mem_map]
    constructor
    · intro hx
      exact ⟨x.toNat,List.mem_range.2 (by omega),by omega⟩
    · rintro ⟨i,hi,rfl⟩
      have:=List.mem_range.1 hi
      omega
  have hl:(0 :: p).length=n:=by
    have h1:=nd.length_le_of_subset (fun x hx=>(hmem x).1 hx)
    have h2:=ndR.length_le_of_subset (fun x hx=>(hmem x).2 hx)
    simp only [List.length_map,List.length_range] at h1 h2
    omega
  simp only [trOk,decide_eq_true_eq]
  refine ⟨hl,rfl,fun v hv=>?_,nd⟩
  obtain ⟨i,hi,rfl⟩:=List.mem_map.1 ((hmem v).1 hv)
  have:=List.mem_range.1 hi
  omega
theorem all_lt {n:Nat}:2 ^ n - 2 < 2 ^ n:=by
  have:=Nat.two_pow_pos n
  omega
theorem best_tour (h:okD d):trOk d.length (bestT d)=true:=cp_tour h.1.1 (grd_ok h _ 0 _ (by have:=h.1.1; omega) all_lt (Nat.sub_le _ _)).1
theorem best_len (h:okD d):lenT d (bestT d)=rsT d 0 (2 ^ d.length - 2):=by
  unfold bestT
  rw [lenT_pl,(grd_ok h _ 0 _ (by have:=h.1.1; omega) all_lt (Nat.sub_le _ _)).2]
end
end Go.Proofs.Ytlendaofkmhgmaa
end
section
open Go Go.HL
namespace Go.Proofs.Ytlendaofkmhgmaa
def clm (mo x:Int):Int:=if x < 0 ∨ mo < x then modW x (mo+1) else x
def tmX (R:List (List Int)) (mo:Int) (i k:Nat):Int:=clm mo (if i < R.length∧k < (R.getD i []).length then at2 R i k else 1)
def mat (n:Nat) (f:Nat → Nat → Int):List (List Int):=(List.range n).map fun a=>(List.range n).map (f a)
def tameF (R:List (List Int)) (mo:Int) (a b:Nat):Int:=if a=b then 0 else if a < b then tmX R mo a b else tmX R mo b a
def tameL (R:List (List Int)) (n:Nat) (mo:Int):List (List Int):=mat n (tameF R mo)
def nmF (f:List (List Int) → Int → Int → Option HV):List HV → Option HV
  | [.imm .arg 1 rw,.int .i64 n,.int .i64 mo]=>(match mapO decR rw with | some R=>f R n mo | none=>none)
  | _=>none
theorem nmF_inv {f:List (List Int) → Int → Int → Option HV} {args:List HV} {res:HV} (h:nmF f args=some res):∃ R n mo,args=[.imm .arg 1 (R.map encR),.int .i64 n,.int .i64 mo]∧f R n mo=some res:=by
  unfold nmF at h
  split at h
  · rename_i rw n mo
    split at h
    · rename_i R hR
      exact ⟨R,n,mo,by rw [mapO_inv decR_inv hR],h⟩
    · cases h
  · cases h
def tame28:List HV → Option HV:=nmF fun R n mo=>if (1 ≤ n∧n ≤ 12)∧0 ≤ mo∧mo ≤ 1000000 then some (.own 1 ((tameL R n.toNat mo).map encO)) else none
theorem mat_len (n:Nat) (f:Nat → Nat → Int):(mat n f).length=n:=by simp [mat]
theorem mat_row {n:Nat} {f:Nat → Nat → Int} {a:Nat} (ha:a < n):(mat n f).getD a []=(List.range n).map (f a):=by
  simp [mat,List.getD,List.getElem?_map,List.getElem?_range ha]
theorem row_at {n:Nat} {g:Nat → Int} {b:Nat} (hb:b < n):((List.range n).map g).getD b 0=g b:=by
  simp [List.getD,List.getElem?_map,List.getElem?_range hb]
theorem mat_at {n:Nat} {f:Nat → Nat → Int} {a b:Nat} (ha:a < n) (hb:b < n):at2 (mat n f) a b=f a b:=by
  unfold at2
  rw [mat_row ha,row_at hb]
theorem row_set {n:Nat} {g:Nat → Int} {k:Nat} {x:Int}:((List.range n).map g).set k x=(List.range n).map fun b=>if b=k then x else g b:=by
  apply List.ext_getElem?
  intro i
  rw [List.getElem?_set,List.length_map,List.length_range]
  by_cases e:k=i
  · subst e
    rw [if_pos rfl]
    by_cases h:k < n
    · rw [if_pos h,List.getElem?_map,List.getElem?_range h]; simp
    · rw [if_neg h,List.getElem?_eq_none (by simp; omega)]
  · rw [if_neg e,List.getElem?_map,List.getElem?_map]
    by_cases h:i < n
    · rw [List.getElem?_range h]; simp; intro h2; exact absurd h2.symm e
    · rw [List.getElem?_eq_none (by simp; omega)]; rfl
theorem row_congr {n:Nat} {g h:Nat → Int} (e:∀ b,b < n → g b=h b):(List.range n).map g=(List.range n).map h:=List.map_congr_left fun b hb=>e b (List.mem_range.1 hb)
theorem clm_bnd {mo:Int} (h:0 ≤ mo∧mo ≤ 1000000) (x:Int):0 ≤ clm mo x∧clm mo x ≤ mo:=by
  unfold clm
  split
  · have:=modW_bounds x (mo+1) (by omega) (by omega)
    omega
  · omega
theorem tmX_bnd {R:List (List Int)} {mo:Int} (h:0 ≤ mo∧mo ≤ 1000000) (i k:Nat):0 ≤ tmX R mo i k∧tmX R mo i k ≤ mo:=clm_bnd h _
theorem tame_okD {R:List (List Int)} {n:Nat} {mo:Int} (hn:1 ≤ n∧n ≤ 11) (h:0 ≤ mo∧mo ≤ 1000):okD (tameL R n mo):=by
  have hl:(tameL R n mo).length=n:=mat_len _ _
  refine ⟨by rw [hl]; exact hn,fun i hi=>?_,fun i hi j hj=>?_⟩
  · rw [hl] at hi ⊢
    rw [tameL,mat_row hi]; simp
  · rw [hl] at hi hj
    rw [tameL,mat_at hi hj,mat_at hj hi]
    refine ⟨?_,?_,?_⟩
    · unfold tameF
      split
      · omega
      · have h1:=tmX_bnd (R:=R) (mo:=mo) (by omega) i j
        have h2:=tmX_bnd (R:=R) (mo:=mo) (by omega) j i
        split <;> omega
    · unfold tameF
      by_cases e:i=j
      · subst e; rfl
      · rw [if_neg e,if_neg (fun h:j=i=>e h.symm)]
        by_cases c:i < j
        · rw [if_pos c,if_neg (by omega)]
        · rw [if_neg c,if_pos (by omega)]
    · rintro rfl; simp [tameF]
def insT (l:List Int) (x:Nat) (o:List Int):List Int :=
  let at_:=(if x < l.length then 1+modW (l.getD x 0) x else (x:Int)).toNat
  o.take at_ ++ ((x:Int) :: o.drop at_)
def tourGo (l:List Int):Nat → Nat → List Int → List Int
  | 0,_,o=>o
  | k+1,x,o=>tourGo l k (x+1) (insT l x o)
def tourL (l:List Int) (n:Nat):List Int:=tourGo l (n - 1) 1 [0]
def tour33:List HV → Option HV:=lnF fun l n=>if 1 ≤ n∧n ≤ 12 then some (.own 1 ((tourL l n.toNat).map encI)) else none
theorem ins_at {l:List Int} {x:Nat} (hx:1 ≤ x) (hx2:x ≤ 1000):1 ≤ (if x < l.length then 1+modW (l.getD x 0) x else (x:Int))∧(if x < l.length then 1+modW (l.getD x 0) x else (x:Int)) ≤ x:=by
  split
  · have:=modW_bounds (l.getD x 0) (x:Int) (by omega) (by omega)
    omega
  · omega
theorem tourGo_ok (l:List Int):∀ (k x:Nat) (o:List Int),1 ≤ x → x+k ≤ 1000 → trOk x o=true → trOk (x+k) (tourGo l k x o)=true:=by
  intro k
  induction k with
  | zero=>intro x o _ _ h; exact h
  | succ k ih =>
    intro x o hx hk h
    rw [tourGo,show x+(k+1)=(x+1)+k by omega]
    refine ih (x+1) _ (by omega) (by omega) ?_
    simp only [trOk,decide_eq_true_eq] at h ⊢
    obtain ⟨t1,t2,t3,t4⟩:=h
    have ha:=ins_at (l:=l) hx (by omega)
    unfold insT
    simp only
    generalize (if x < l.length then 1+modW (l.getD x 0) x else (x:Int))=a at ha
    have hp:(o.take a.toNat ++ ((x:Int) :: o.drop a.toNat)).Perm ((x:Int) :: o):=by
      have h1:(o.take a.toNat ++ ((x:Int) :: o.drop a.toNat)).Perm ((x:Int) :: (o.take a.toNat ++ o.drop a.toNat)):=List.perm_middle
      rwa [List.take_append_drop] at h1
    have hx':(x:Int) ∉ o:=fun hm=>by have:=t3 _ hm; omega
    refine ⟨by rw [hp.length_eq,List.length_cons,t1],?_,fun v hv=>?_,hp.nodup_iff.2 (List.nodup_cons.2 ⟨hx',t4⟩)⟩
    · cases o with
      | nil=>simp at t1; omega
      | cons b o =>
        obtain ⟨m,hm⟩:∃ m,a.toNat=m+1:=⟨a.toNat - 1,by omega⟩
        rw [hm,List.take_succ_cons]
        simpa using t2
    · rw [hp.mem_iff,List.mem_cons] at hv
      rcases hv with rfl | hv
      · omega
      · have:=t3 v hv; omega
theorem tour_trOk (l:List Int) {n:Nat} (hn:1 ≤ n∧n ≤ 12):trOk n (tourL l n)=true:=by
  have:=tourGo_ok l (n - 1) 1 [0] (by omega) (by omega) (by decide)
  rwa [show 1+(n - 1)=n by omega] at this
def polA:Pol:={ pol with prim:=fun g=>if g == 27 then some modF else none,freeze:=fun g _=>!(g == 28) }
end Go.Proofs.Ytlendaofkmhgmaa
end
section
open Go Go.HL
namespace Go.Proofs.Ytlendaofkmhgmaa
set_option maxRecDepth 100000
open Go.Proofs.Try renaming prog → Tp
open Go.HL.HV renaming undef → Ud
noncomputable def B28:Code:=Try.f28.body.getD .skip
abbrev env28 (v0 v1 v2 v6 v7 v8 v9 v10 v11 v12 v13:HV):Env:=[(0,v0),(1,v1),(2,v2),(6,v6),(7,v7),(8,v8),(9,v9),(10,v10),(11,v11),(12,v12),(13,v13)]
theorem tm_a_0 (rw:List HV) (n:Nat) (mo:Int) (H:Heap):RT polA 28 (sub [0] B28) [(0,.imm .arg 1 rw),(1,.i (n:Int)),(2,.i mo)] H .normal (env28 (.imm .arg 1 rw) (.i (n:Int)) (.i mo) (.imm .lit 1 []) Ud Ud Ud Ud Ud Ud Ud) H :=
  RunsTo.hin 0 60 [] fun kf hk=>⟨_,by kernel_rfl,.nil⟩
theorem tm_b_0 (rw:List HV) (n:Nat) (mo:Int) (H:Heap) (H0:Heap) (g0:some (HV.sl H.length 0 0 none 0 1,H ++ [Blk.arr 1 [] true 0])=some (.sl 0 0 0 none 0 1,H0)):RT polA 28 (sub [1,0] B28) (env28 (.imm .arg 1 rw) (.i (n:Int)) (.i mo) (.imm .lit 1 []) Ud Ud Ud Ud Ud Ud Ud) H .normal (env28 (.imm .arg 1 rw) (.i (n:Int)) (.i mo) (.imm .lit 1 []) (.sl 0 0 0 none 0 1) Ud Ud Ud Ud Ud Ud) H0 :=
  RunsTo.hin 0 60 [⟨1,0,.sl 0 0 0 none 0 1,H0⟩] fun kf hk=>⟨_,by kernel_rfl,(oC (g0) .nil)⟩
theorem tm_c_0 (rw:List HV) (n:Nat) (mo:Int) (H:Heap):RT polA 28 (sub [1,1,0,0] B28) (env28 (.imm .arg 1 rw) (.i (n:Int)) (.i mo) (.imm .lit 1 []) (.sl 0 0 0 none 0 1) Ud Ud Ud Ud Ud Ud) H .normal (env28 (.imm .arg 1 rw) (.i (n:Int)) (.i mo) (.imm .lit 1 []) (.sl 0 0 0 none 0 1) (.i 0) Ud Ud Ud Ud Ud) H :=
  RunsTo.hin 0 60 [] fun kf hk=>⟨_,by kernel_rfl,.nil⟩
theorem tm_l_0 (rw:List HV) (n:Nat) (mo:Int) (i rb lb:Nat) (H:Heap) (H0:Heap) (H1:Heap) (H2:Heap) (g0:(i:Int) < (n:Int)) (g1:makeV Tp false 23 (.i (n:Int)) (.i (n:Int)) H=some (.sl rb 0 n (some n) n 1,H0)) (g2:litV Tp false false 22 1 [(0,.sl rb 0 n (some n) n 1)] H0=some (.sl lb 0 1 (some 1) 1 1,H1)) (g3:builtinV Tp .append [22,22] [.sl 0 0 i none i 1,.sl lb 0 1 (some 1) 1 1] H1=some (.sl 0 0 (i+1) none (i+1) 1,H2)):RT polA 28 (sub [1,1,0,1,0,0] B28) (env28 (.imm .arg 1 rw) (.i (n:Int)) (.i mo) (.imm .lit 1 []) (.sl 0 0 i none i 1) (.i (i:Int)) Ud Ud Ud Ud Ud) H .normal (env28 (.imm .arg 1 rw) (.i (n:Int)) (.i mo) (.imm .lit 1 []) (.sl 0 0 (i+1) none (i+1) 1) (.i (IntKind.i64.wrap ((i:Int)+1))) Ud Ud Ud Ud Ud) H2 :=
  RunsTo.hin 0 60 [⟨3,2,.bool true,H⟩,⟨5,2,.sl rb 0 n (some n) n 1,H0⟩,⟨5,3,.sl lb 0 1 (some 1) 1 1,H1⟩,⟨5,4,.sl 0 0 (i+1) none (i+1) 1,H2⟩] fun kf hk=>⟨_,by kernel_rfl,(oB H (decide_eq_true g0) (oC (g1) (oC (g2) (oC (g3) .nil))))⟩
theorem tm_l_1 (rw:List HV) (n:Nat) (mo:Int) (i rb lb:Nat) (H:Heap)(g0:¬ ((i:Int) < (n:Int))):RT polA 28 (sub [1,1,0,1,0,0] B28) (env28 (.imm .arg 1 rw) (.i (n:Int)) (.i mo) (.imm .lit 1 []) (.sl 0 0 i none i 1) (.i (i:Int)) Ud Ud Ud Ud Ud) H (.exit 0) (env28 (.imm .arg 1 rw) (.i (n:Int)) (.i mo) (.imm .lit 1 []) (.sl 0 0 i none i 1) (.i (i:Int)) Ud Ud Ud Ud Ud) H :=
  RunsTo.hin 0 60 [⟨3,2,.bool false,H⟩] fun kf hk=>⟨_,by kernel_rfl,(oB H (decide_eq_false g0) .nil)⟩
theorem tm_d_0 (rw:List HV) (n:Nat) (mo:Int) (y8:HV) (H:Heap):RT polA 28 (sub [1,1,1,0,0] B28) (env28 (.imm .arg 1 rw) (.i (n:Int)) (.i mo) (.imm .lit 1 []) (.sl 0 0 n none n 1) y8 Ud Ud Ud Ud Ud) H .normal (env28 (.imm .arg 1 rw) (.i (n:Int)) (.i mo) (.imm .lit 1 []) (.sl 0 0 n none n 1) y8 (.i 0) Ud Ud Ud Ud) H :=
  RunsTo.hin 0 60 [] fun kf hk=>⟨_,by kernel_rfl,.nil⟩
theorem tm_e_0 (rw:List HV) (n:Nat) (mo:Int) (y8:HV) (i:Nat) (H:Heap)(g0:(i:Int) < (n:Int)):RT polA 28 (sub [1,1,1,0,1,0,0,0] B28) (env28 (.imm .arg 1 rw) (.i (n:Int)) (.i mo) (.imm .lit 1 []) (.sl 0 0 n none n 1) y8 (.i (i:Int)) Ud Ud Ud Ud) H .normal (env28 (.imm .arg 1 rw) (.i (n:Int)) (.i mo) (.imm .lit 1 []) (.sl 0 0 n none n 1) y8 (.i (i:Int)) Ud Ud Ud Ud) H :=
  RunsTo.hin 0 60 [⟨7,2,.bool true,H⟩] fun kf hk=>⟨_,by kernel_rfl,(oB H (decide_eq_true g0) .nil)⟩
theorem tm_e_1 (rw:List HV) (n:Nat) (mo:Int) (y8:HV) (i:Nat) (H:Heap)(g0:¬ ((i:Int) < (n:Int))):RT polA 28 (sub [1,1,1,0,1,0,0,0] B28) (env28 (.imm .arg 1 rw) (.i (n:Int)) (.i mo) (.imm .lit 1 []) (.sl 0 0 n none n 1) y8 (.i (i:Int)) Ud Ud Ud Ud) H (.exit 2) (env28 (.imm .arg 1 rw) (.i (n:Int)) (.i mo) (.imm .lit 1 []) (.sl 0 0 n none n 1) y8 (.i (i:Int)) Ud Ud Ud Ud) H :=
  RunsTo.hin 0 60 [⟨7,2,.bool false,H⟩] fun kf hk=>⟨_,by kernel_rfl,(oB H (decide_eq_false g0) .nil)⟩
theorem tm_f_0 (rw:List HV) (n:Nat) (mo:Int) (y8:HV) (i:Nat) (H:Heap):RT polA 28 (sub [1,1,1,0,1,0,0,1,0,0,0] B28) (env28 (.imm .arg 1 rw) (.i (n:Int)) (.i mo) (.imm .lit 1 []) (.sl 0 0 n none n 1) y8 (.i (i:Int)) Ud Ud Ud Ud) H .normal (env28 (.imm .arg 1 rw) (.i (n:Int)) (.i mo) (.imm .lit 1 []) (.sl 0 0 n none n 1) y8 (.i (i:Int)) (.i (IntKind.i64.wrap ((i:Int)+1))) Ud Ud Ud) H :=
  RunsTo.hin 0 60 [] fun kf hk=>⟨_,by kernel_rfl,.nil⟩
theorem tm_m_0 (rw:List HV) (n:Nat) (mo:Int) (y8:HV) (i k:Nat) (H:Heap) (l0:List HV) (l1:List HV) (x0:Int) (md:Int) (H0:Heap) (H1:Heap) (H2:Heap) (g0:(k:Int) < (n:Int)) (g1:(i:Int) < (rw.length:Int)) (g2:idxV Tp 22 (.imm .arg 1 rw) (.i (i:Int))=some (.vptr (.imm .arg 1 l0))) (g3:(k:Int) < (l0.length:Int)) (g4:idxV Tp 22 (.imm .arg 1 rw) (.i (i:Int))=some (.vptr (.imm .arg 1 l1))) (g5:idxV Tp 23 (.imm .arg 1 l1) (.i (k:Int))=some (.vptr (.i x0))) (g6:x0 < 0) (g7:∀ kf,callN Tp polA (kf+1) 27 [.i x0,.i (IntKind.i64.wrap (mo+1))] H=some (.i md,H0)) (g8:idxV Tp 22 (.sl 0 0 n none n 1) (.i (i:Int))=some (.ptr 0 i 0 n)) (g9:loadV Tp H0 23 (.ptr 0 i 0 n)=some (.sl (i+1) 0 n (some n) n 1)) (g10:idxV Tp 22 (.sl 0 0 n none n 1) (.i (k:Int))=some (.ptr 0 k 0 n)) (g11:loadV Tp H0 23 (.ptr 0 k 0 n)=some (.sl (k+1) 0 n (some n) n 1)) (g12:idxV Tp 23 (.sl (i+1) 0 n (some n) n 1) (.i (k:Int))=some (.ptr (i+1) k 0 n)) (g13:storeV Tp H0 3 (.ptr (i+1) k 0 n) (.i md)=some H1) (g14:idxV Tp 23 (.sl (k+1) 0 n (some n) n 1) (.i (i:Int))=some (.ptr (k+1) i 0 n)) (g15:storeV Tp H1 3 (.ptr (k+1) i 0 n) (.i md)=some H2):RT polA 28 (sub [1,1,1,0,1,0,0,1,0,0,1,0,0] B28) (env28 (.imm .arg 1 rw) (.i (n:Int)) (.i mo) (.imm .lit 1 []) (.sl 0 0 n none n 1) y8 (.i (i:Int)) (.i (k:Int)) Ud Ud Ud) H .normal (env28 (.imm .arg 1 rw) (.i (n:Int)) (.i mo) (.imm .lit 1 []) (.sl 0 0 n none n 1) y8 (.i (i:Int)) (.i (IntKind.i64.wrap ((k:Int)+1))) (.i md) (.sl (i+1) 0 n (some n) n 1) (.sl (k+1) 0 n (some n) n 1)) H2 :=
  RunsTo.hin 0 60 [⟨10,2,.bool true,H⟩,⟨13,3,.bool true,H⟩,⟨13,8,.vptr (.imm .arg 1 l0),H⟩,⟨13,11,.bool true,H⟩,⟨14,2,.vptr (.imm .arg 1 l1),H⟩,⟨14,5,.vptr (.i x0),H⟩,⟨15,1,.bool true,H⟩,⟨16,3,.i md,H0⟩,⟨17,2,.ptr 0 i 0 n,H0⟩,⟨17,3,.sl (i+1) 0 n (some n) n 1,H0⟩,⟨17,6,.ptr 0 k 0 n,H0⟩,⟨17,7,.sl (k+1) 0 n (some n) n 1,H0⟩,⟨18,3,.ptr (i+1) k 0 n,H0⟩,⟨18,4,.tuple [],H1⟩,⟨19,3,.ptr (k+1) i 0 n,H1⟩,⟨19,4,.tuple [],H2⟩] fun kf hk=>⟨_,by kernel_rfl,(oB H (decide_eq_true g0) (oB H (decide_eq_true g1) (oP H g2 (oB H (decide_eq_true g3) (oP H g4 (oP H g5 (oB H (decide_eq_true g6) (oC (g7 kf) (oP H0 g8 (oP H0 g9 (oP H0 g10 (oP H0 g11 (oP H0 g12 (oS g13 (oP H1 g14 (oS g15 .nil))))))))))))))))⟩
theorem tm_m_1 (rw:List HV) (n:Nat) (mo:Int) (y8:HV) (i k:Nat) (H:Heap) (l0:List HV) (l1:List HV) (x0:Int) (md:Int) (H0:Heap) (H1:Heap) (H2:Heap) (g0:(k:Int) < (n:Int)) (g1:(i:Int) < (rw.length:Int)) (g2:idxV Tp 22 (.imm .arg 1 rw) (.i (i:Int))=some (.vptr (.imm .arg 1 l0))) (g3:(k:Int) < (l0.length:Int)) (g4:idxV Tp 22 (.imm .arg 1 rw) (.i (i:Int))=some (.vptr (.imm .arg 1 l1))) (g5:idxV Tp 23 (.imm .arg 1 l1) (.i (k:Int))=some (.vptr (.i x0))) (g6:¬ (x0 < 0)) (g7:mo < x0) (g8:∀ kf,callN Tp polA (kf+1) 27 [.i x0,.i (IntKind.i64.wrap (mo+1))] H=some (.i md,H0)) (g9:idxV Tp 22 (.sl 0 0 n none n 1) (.i (i:Int))=some (.ptr 0 i 0 n)) (g10:loadV Tp H0 23 (.ptr 0 i 0 n)=some (.sl (i+1) 0 n (some n) n 1)) (g11:idxV Tp 22 (.sl 0 0 n none n 1) (.i (k:Int))=some (.ptr 0 k 0 n)) (g12:loadV Tp H0 23 (.ptr 0 k 0 n)=some (.sl (k+1) 0 n (some n) n 1)) (g13:idxV Tp 23 (.sl (i+1) 0 n (some n) n 1) (.i (k:Int))=some (.ptr (i+1) k 0 n)) (g14:storeV Tp H0 3 (.ptr (i+1) k 0 n) (.i md)=some H1) (g15:idxV Tp 23 (.sl (k+1) 0 n (some n) n 1) (.i (i:Int))=some (.ptr (k+1) i 0 n)) (g16:storeV Tp H1 3 (.ptr (k+1) i 0 n) (.i md)=some H2):RT polA 28 (sub [1,1,1,0,1,0,0,1,0,0,1,0,0] B28) (env28 (.imm .arg 1 rw) (.i (n:Int)) (.i mo) (.imm .lit 1 []) (.sl 0 0 n none n 1) y8 (.i (i:Int)) (.i (k:Int)) Ud Ud Ud) H .normal (env28 (.imm .arg 1 rw) (.i (n:Int)) (.i mo) (.imm .lit 1 []) (.sl 0 0 n none n 1) y8 (.i (i:Int)) (.i (IntKind.i64.wrap ((k:Int)+1))) (.i md) (.sl (i+1) 0 n (some n) n 1) (.sl (k+1) 0 n (some n) n 1)) H2 :=
  RunsTo.hin 0 60 [⟨10,2,.bool true,H⟩,⟨13,3,.bool true,H⟩,⟨13,8,.vptr (.imm .arg 1 l0),H⟩,⟨13,11,.bool true,H⟩,⟨14,2,.vptr (.imm .arg 1 l1),H⟩,⟨14,5,.vptr (.i x0),H⟩,⟨15,1,.bool false,H⟩,⟨15,5,.bool true,H⟩,⟨16,3,.i md,H0⟩,⟨17,2,.ptr 0 i 0 n,H0⟩,⟨17,3,.sl (i+1) 0 n (some n) n 1,H0⟩,⟨17,6,.ptr 0 k 0 n,H0⟩,⟨17,7,.sl (k+1) 0 n (some n) n 1,H0⟩,⟨18,3,.ptr (i+1) k 0 n,H0⟩,⟨18,4,.tuple [],H1⟩,⟨19,3,.ptr (k+1) i 0 n,H1⟩,⟨19,4,.tuple [],H2⟩] fun kf hk=>⟨_,by kernel_rfl,(oB H (decide_eq_true g0) (oB H (decide_eq_true g1) (oP H g2 (oB H (decide_eq_true g3) (oP H g4 (oP H g5 (oB H (decide_eq_false g6) (oB H (decide_eq_true g7) (oC (g8 kf) (oP H0 g9 (oP H0 g10 (oP H0 g11 (oP H0 g12 (oP H0 g13 (oS g14 (oP H1 g15 (oS g16 .nil)))))))))))))))))⟩
theorem tm_m_2 (rw:List HV) (n:Nat) (mo:Int) (y8:HV) (i k:Nat) (H:Heap) (l0:List HV) (l1:List HV) (x0:Int) (H0:Heap) (H1:Heap) (g0:(k:Int) < (n:Int)) (g1:(i:Int) < (rw.length:Int)) (g2:idxV Tp 22 (.imm .arg 1 rw) (.i (i:Int))=some (.vptr (.imm .arg 1 l0))) (g3:(k:Int) < (l0.length:Int)) (g4:idxV Tp 22 (.imm .arg 1 rw) (.i (i:Int))=some (.vptr (.imm .arg 1 l1))) (g5:idxV Tp 23 (.imm .arg 1 l1) (.i (k:Int))=some (.vptr (.i x0))) (g6:¬ (x0 < 0)) (g7:¬ (mo < x0)) (g8:idxV Tp 22 (.sl 0 0 n none n 1) (.i (i:Int))=some (.ptr 0 i 0 n)) (g9:loadV Tp H 23 (.ptr 0 i 0 n)=some (.sl (i+1) 0 n (some n) n 1)) (g10:idxV Tp 22 (.sl 0 0 n none n 1) (.i (k:Int))=some (.ptr 0 k 0 n)) (g11:loadV Tp H 23 (.ptr 0 k 0 n)=some (.sl (k+1) 0 n (some n) n 1)) (g12:idxV Tp 23 (.sl (i+1) 0 n (some n) n 1) (.i (k:Int))=some (.ptr (i+1) k 0 n)) (g13:storeV Tp H 3 (.ptr (i+1) k 0 n) (.i x0)=some H0) (g14:idxV Tp 23 (.sl (k+1) 0 n (some n) n 1) (.i (i:Int))=some (.ptr (k+1) i 0 n)) (g15:storeV Tp H0 3 (.ptr (k+1) i 0 n) (.i x0)=some H1):RT polA 28 (sub [1,1,1,0,1,0,0,1,0,0,1,0,0] B28) (env28 (.imm .arg 1 rw) (.i (n:Int)) (.i mo) (.imm .lit 1 []) (.sl 0 0 n none n 1) y8 (.i (i:Int)) (.i (k:Int)) Ud Ud Ud) H .normal (env28 (.imm .arg 1 rw) (.i (n:Int)) (.i mo) (.imm .lit 1 []) (.sl 0 0 n none n 1) y8 (.i (i:Int)) (.i (IntKind.i64.wrap ((k:Int)+1))) (.i x0) (.sl (i+1) 0 n (some n) n 1) (.sl (k+1) 0 n (some n) n 1)) H1 :=
  RunsTo.hin 0 60 [⟨10,2,.bool true,H⟩,⟨13,3,.bool true,H⟩,⟨13,8,.vptr (.imm .arg 1 l0),H⟩,⟨13,11,.bool true,H⟩,⟨14,2,.vptr (.imm .arg 1 l1),H⟩,⟨14,5,.vptr (.i x0),H⟩,⟨15,1,.bool false,H⟩,⟨15,5,.bool false,H⟩,⟨17,2,.ptr 0 i 0 n,H⟩,⟨17,3,.sl (i+1) 0 n (some n) n 1,H⟩,⟨17,6,.ptr 0 k 0 n,H⟩,⟨17,7,.sl (k+1) 0 n (some n) n 1,H⟩,⟨18,3,.ptr (i+1) k 0 n,H⟩,⟨18,4,.tuple [],H0⟩,⟨19,3,.ptr (k+1) i 0 n,H0⟩,⟨19,4,.tuple [],H1⟩] fun kf hk=>⟨_,by kernel_rfl,(oB H (decide_eq_true g0) (oB H (decide_eq_true g1) (oP H g2 (oB H (decide_eq_true g3) (oP H g4 (oP H g5 (oB H (decide_eq_false g6) (oB H (decide_eq_false g7) (oP H g8 (oP H g9 (oP H g10 (oP H g11 (oP H g12 (oS g13 (oP H0 g14 (oS g15 .nil))))))))))))))))⟩
theorem tm_m_3 (rw:List HV) (n:Nat) (mo:Int) (y8:HV) (i k:Nat) (H:Heap) (l0:List HV) (md:Int) (H0:Heap) (H1:Heap) (H2:Heap) (g0:(k:Int) < (n:Int)) (g1:(i:Int) < (rw.length:Int)) (g2:idxV Tp 22 (.imm .arg 1 rw) (.i (i:Int))=some (.vptr (.imm .arg 1 l0))) (g3:¬ ((k:Int) < (l0.length:Int))) (g4:mo < (1:Int)) (g5:∀ kf,callN Tp polA (kf+1) 27 [.i 1,.i (IntKind.i64.wrap (mo+1))] H=some (.i md,H0)) (g6:idxV Tp 22 (.sl 0 0 n none n 1) (.i (i:Int))=some (.ptr 0 i 0 n)) (g7:loadV Tp H0 23 (.ptr 0 i 0 n)=some (.sl (i+1) 0 n (some n) n 1)) (g8:idxV Tp 22 (.sl 0 0 n none n 1) (.i (k:Int))=some (.ptr 0 k 0 n)) (g9:loadV Tp H0 23 (.ptr 0 k 0 n)=some (.sl (k+1) 0 n (some n) n 1)) (g10:idxV Tp 23 (.sl (i+1) 0 n (some n) n 1) (.i (k:Int))=some (.ptr (i+1) k 0 n)) (g11:storeV Tp H0 3 (.ptr (i+1) k 0 n) (.i md)=some H1) (g12:idxV Tp 23 (.sl (k+1) 0 n (some n) n 1) (.i (i:Int))=some (.ptr (k+1) i 0 n)) (g13:storeV Tp H1 3 (.ptr (k+1) i 0 n) (.i md)=some H2):RT polA 28 (sub [1,1,1,0,1,0,0,1,0,0,1,0,0] B28) (env28 (.imm .arg 1 rw) (.i (n:Int)) (.i mo) (.imm .lit 1 []) (.sl 0 0 n none n 1) y8 (.i (i:Int)) (.i (k:Int)) Ud Ud Ud) H .normal (env28 (.imm .arg 1 rw) (.i (n:Int)) (.i mo) (.imm .lit 1 []) (.sl 0 0 n none n 1) y8 (.i (i:Int)) (.i (IntKind.i64.wrap ((k:Int)+1))) (.i md) (.sl (i+1) 0 n (some n) n 1) (.sl (k+1) 0 n (some n) n 1)) H2 :=
  RunsTo.hin 0 60 [⟨10,2,.bool true,H⟩,⟨13,3,.bool true,H⟩,⟨13,8,.vptr (.imm .arg 1 l0),H⟩,⟨13,11,.bool false,H⟩,⟨15,5,.bool true,H⟩,⟨16,3,.i md,H0⟩,⟨17,2,.ptr 0 i 0 n,H0⟩,⟨17,3,.sl (i+1) 0 n (some n) n 1,H0⟩,⟨17,6,.ptr 0 k 0 n,H0⟩,⟨17,7,.sl (k+1) 0 n (some n) n 1,H0⟩,⟨18,3,.ptr (i+1) k 0 n,H0⟩,⟨18,4,.tuple [],H1⟩,⟨19,3,.ptr (k+1) i 0 n,H1⟩,⟨19,4,.tuple [],H2⟩] fun kf hk=>⟨_,by kernel_rfl,(oB H (decide_eq_true g0) (oB H (decide_eq_true g1) (oP H g2 (oB H (decide_eq_false g3) (oB H (decide_eq_true g4) (oC (g5 kf) (oP H0 g6 (oP H0 g7 (oP H0 g8 (oP H0 g9 (oP H0 g10 (oS g11 (oP H1 g12 (oS g13 .nil))))))))))))))⟩
theorem tm_m_4 (rw:List HV) (n:Nat) (mo:Int) (y8:HV) (i k:Nat) (H:Heap) (l0:List HV) (H0:Heap) (H1:Heap) (g0:(k:Int) < (n:Int)) (g1:(i:Int) < (rw.length:Int)) (g2:idxV Tp 22 (.imm .arg 1 rw) (.i (i:Int))=some (.vptr (.imm .arg 1 l0))) (g3:¬ ((k:Int) < (l0.length:Int))) (g4:¬ (mo < (1:Int))) (g5:idxV Tp 22 (.sl 0 0 n none n 1) (.i (i:Int))=some (.ptr 0 i 0 n)) (g6:loadV Tp H 23 (.ptr 0 i 0 n)=some (.sl (i+1) 0 n (some n) n 1)) (g7:idxV Tp 22 (.sl 0 0 n none n 1) (.i (k:Int))=some (.ptr 0 k 0 n)) (g8:loadV Tp H 23 (.ptr 0 k 0 n)=some (.sl (k+1) 0 n (some n) n 1)) (g9:idxV Tp 23 (.sl (i+1) 0 n (some n) n 1) (.i (k:Int))=some (.ptr (i+1) k 0 n)) (g10:storeV Tp H 3 (.ptr (i+1) k 0 n) (.i 1)=some H0) (g11:idxV Tp 23 (.sl (k+1) 0 n (some n) n 1) (.i (i:Int))=some (.ptr (k+1) i 0 n)) (g12:storeV Tp H0 3 (.ptr (k+1) i 0 n) (.i 1)=some H1):RT polA 28 (sub [1,1,1,0,1,0,0,1,0,0,1,0,0] B28) (env28 (.imm .arg 1 rw) (.i (n:Int)) (.i mo) (.imm .lit 1 []) (.sl 0 0 n none n 1) y8 (.i (i:Int)) (.i (k:Int)) Ud Ud Ud) H .normal (env28 (.imm .arg 1 rw) (.i (n:Int)) (.i mo) (.imm .lit 1 []) (.sl 0 0 n none n 1) y8 (.i (i:Int)) (.i (IntKind.i64.wrap ((k:Int)+1))) (.i 1) (.sl (i+1) 0 n (some n) n 1) (.sl (k+1) 0 n (some n) n 1)) H1 :=
  RunsTo.hin 0 60 [⟨10,2,.bool true,H⟩,⟨13,3,.bool true,H⟩,⟨13,8,.vptr (.imm .arg 1 l0),H⟩,⟨13,11,.bool false,H⟩,⟨15,5,.bool false,H⟩,⟨17,2,.ptr 0 i 0 n,H⟩,⟨17,3,.sl (i+1) 0 n (some n) n 1,H⟩,⟨17,6,.ptr 0 k 0 n,H⟩,⟨17,7,.sl (k+1) 0 n (some n) n 1,H⟩,⟨18,3,.ptr (i+1) k 0 n,H⟩,⟨18,4,.tuple [],H0⟩,⟨19,3,.ptr (k+1) i 0 n,H0⟩,⟨19,4,.tuple [],H1⟩] fun kf hk=>⟨_,by kernel_rfl,(oB H (decide_eq_true g0) (oB H (decide_eq_true g1) (oP H g2 (oB H (decide_eq_false g3) (oB H (decide_eq_false g4) (oP H g5 (oP H g6 (oP H g7 (oP H g8 (oP H g9 (oS g10 (oP H0 g11 (oS g12 .nil)))))))))))))⟩
theorem tm_m_5 (rw:List HV) (n:Nat) (mo:Int) (y8:HV) (i k:Nat) (H:Heap) (md:Int) (H0:Heap) (H1:Heap) (H2:Heap) (g0:(k:Int) < (n:Int)) (g1:¬ ((i:Int) < (rw.length:Int))) (g2:mo < (1:Int)) (g3:∀ kf,callN Tp polA (kf+1) 27 [.i 1,.i (IntKind.i64.wrap (mo+1))] H=some (.i md,H0)) (g4:idxV Tp 22 (.sl 0 0 n none n 1) (.i (i:Int))=some (.ptr 0 i 0 n)) (g5:loadV Tp H0 23 (.ptr 0 i 0 n)=some (.sl (i+1) 0 n (some n) n 1)) (g6:idxV Tp 22 (.sl 0 0 n none n 1) (.i (k:Int))=some (.ptr 0 k 0 n)) (g7:loadV Tp H0 23 (.ptr 0 k 0 n)=some (.sl (k+1) 0 n (some n) n 1)) (g8:idxV Tp 23 (.sl (i+1) 0 n (some n) n 1) (.i (k:Int))=some (.ptr (i+1) k 0 n)) (g9:storeV Tp H0 3 (.ptr (i+1) k 0 n) (.i md)=some H1) (g10:idxV Tp 23 (.sl (k+1) 0 n (some n) n 1) (.i (i:Int))=some (.ptr (k+1) i 0 n)) (g11:storeV Tp H1 3 (.ptr (k+1) i 0 n) (.i md)=some H2):RT polA 28 (sub [1,1,1,0,1,0,0,1,0,0,1,0,0] B28) (env28 (.imm .arg 1 rw) (.i (n:Int)) (.i mo) (.imm .lit 1 []) (.sl 0 0 n none n 1) y8 (.i (i:Int)) (.i (k:Int)) Ud Ud Ud) H .normal (env28 (.imm .arg 1 rw) (.i (n:Int)) (.i mo) (.imm .lit 1 []) (.sl 0 0 n none n 1) y8 (.i (i:Int)) (.i (IntKind.i64.wrap ((k:Int)+1))) (.i md) (.sl (i+1) 0 n (some n) n 1) (.sl (k+1) 0 n (some n) n 1)) H2 :=
  RunsTo.hin 0 60 [⟨10,2,.bool true,H⟩,⟨13,3,.bool false,H⟩,⟨15,5,.bool true,H⟩,⟨16,3,.i md,H0⟩,⟨17,2,.ptr 0 i 0 n,H0⟩,⟨17,3,.sl (i+1) 0 n (some n) n 1,H0⟩,⟨17,6,.ptr 0 k 0 n,H0⟩,⟨17,7,.sl (k+1) 0 n (some n) n 1,H0⟩,⟨18,3,.ptr (i+1) k 0 n,H0⟩,⟨18,4,.tuple [],H1⟩,⟨19,3,.ptr (k+1) i 0 n,H1⟩,⟨19,4,.tuple [],H2⟩] fun kf hk=>⟨_,by kernel_rfl,(oB H (decide_eq_true g0) (oB H (decide_eq_false g1) (oB H (decide_eq_true g2) (oC (g3 kf) (oP H0 g4 (oP H0 g5 (oP H0 g6 (oP H0 g7 (oP H0 g8 (oS g9 (oP H1 g10 (oS g11 .nil))))))))))))⟩
theorem tm_m_6 (rw:List HV) (n:Nat) (mo:Int) (y8:HV) (i k:Nat) (H:Heap) (H0:Heap) (H1:Heap) (g0:(k:Int) < (n:Int)) (g1:¬ ((i:Int) < (rw.length:Int))) (g2:¬ (mo < (1:Int))) (g3:idxV Tp 22 (.sl 0 0 n none n 1) (.i (i:Int))=some (.ptr 0 i 0 n)) (g4:loadV Tp H 23 (.ptr 0 i 0 n)=some (.sl (i+1) 0 n (some n) n 1)) (g5:idxV Tp 22 (.sl 0 0 n none n 1) (.i (k:Int))=some (.ptr 0 k 0 n)) (g6:loadV Tp H 23 (.ptr 0 k 0 n)=some (.sl (k+1) 0 n (some n) n 1)) (g7:idxV Tp 23 (.sl (i+1) 0 n (some n) n 1) (.i (k:Int))=some (.ptr (i+1) k 0 n)) (g8:storeV Tp H 3 (.ptr (i+1) k 0 n) (.i 1)=some H0) (g9:idxV Tp 23 (.sl (k+1) 0 n (some n) n 1) (.i (i:Int))=some (.ptr (k+1) i 0 n)) (g10:storeV Tp H0 3 (.ptr (k+1) i 0 n) (.i 1)=some H1):RT polA 28 (sub [1,1,1,0,1,0,0,1,0,0,1,0,0] B28) (env28 (.imm .arg 1 rw) (.i (n:Int)) (.i mo) (.imm .lit 1 []) (.sl 0 0 n none n 1) y8 (.i (i:Int)) (.i (k:Int)) Ud Ud Ud) H .normal (env28 (.imm .arg 1 rw) (.i (n:Int)) (.i mo) (.imm .lit 1 []) (.sl 0 0 n none n 1) y8 (.i (i:Int)) (.i (IntKind.i64.wrap ((k:Int)+1))) (.i 1) (.sl (i+1) 0 n (some n) n 1) (.sl (k+1) 0 n (some n) n 1)) H1 :=
  RunsTo.hin 0 60 [⟨10,2,.bool true,H⟩,⟨13,3,.bool false,H⟩,⟨15,5,.bool false,H⟩,⟨17,2,.ptr 0 i 0 n,H⟩,⟨17,3,.sl (i+1) 0 n (some n) n 1,H⟩,⟨17,6,.ptr 0 k 0 n,H⟩,⟨17,7,.sl (k+1) 0 n (some n) n 1,H⟩,⟨18,3,.ptr (i+1) k 0 n,H⟩,⟨18,4,.tuple [],H0⟩,⟨19,3,.ptr (k+1) i 0 n,H0⟩,⟨19,4,.tuple [],H1⟩] fun kf hk=>⟨_,by kernel_rfl,(oB H (decide_eq_true g0) (oB H (decide_eq_false g1) (oB H (decide_eq_false g2) (oP H g3 (oP H g4 (oP H g5 (oP H g6 (oP H g7 (oS g8 (oP H0 g9 (oS g10 .nil)))))))))))⟩
theorem tm_m_7 (rw:List HV) (n:Nat) (mo:Int) (y8:HV) (i k:Nat) (H:Heap)(g0:¬ ((k:Int) < (n:Int))):RT polA 28 (sub [1,1,1,0,1,0,0,1,0,0,1,0,0] B28) (env28 (.imm .arg 1 rw) (.i (n:Int)) (.i mo) (.imm .lit 1 []) (.sl 0 0 n none n 1) y8 (.i (i:Int)) (.i (k:Int)) Ud Ud Ud) H (.exit 4) (env28 (.imm .arg 1 rw) (.i (n:Int)) (.i mo) (.imm .lit 1 []) (.sl 0 0 n none n 1) y8 (.i (i:Int)) (.i (k:Int)) Ud Ud Ud) H :=
  RunsTo.hin 0 60 [⟨10,2,.bool false,H⟩] fun kf hk=>⟨_,by kernel_rfl,(oB H (decide_eq_false g0) .nil)⟩
theorem tm_g_0 (rw:List HV) (n:Nat) (mo:Int) (y8:HV) (i k:Nat) (H:Heap):RT polA 28 (sub [1,1,1,0,1,0,0,1,1] B28) (env28 (.imm .arg 1 rw) (.i (n:Int)) (.i mo) (.imm .lit 1 []) (.sl 0 0 n none n 1) y8 (.i (i:Int)) (.i (k:Int)) Ud Ud Ud) H .normal (env28 (.imm .arg 1 rw) (.i (n:Int)) (.i mo) (.imm .lit 1 []) (.sl 0 0 n none n 1) y8 (.i (IntKind.i64.wrap ((i:Int)+1))) (.i (k:Int)) Ud Ud Ud) H :=
  RunsTo.hin 0 60 [] fun kf hk=>⟨_,by kernel_rfl,.nil⟩
theorem tm_z_0 (rw:List HV) (n:Nat) (mo:Int) (y8 y9 y10 y11 y12 y13:HV) (H:Heap):RT polA 28 (sub [1,1,1,1] B28) (env28 (.imm .arg 1 rw) (.i (n:Int)) (.i mo) (.imm .lit 1 []) (.sl 0 0 n none n 1) y8 y9 y10 y11 y12 y13) H .ret (env28 (.imm .arg 1 rw) (.i (n:Int)) (.i mo) (.sl 0 0 n none n 1) (.sl 0 0 n none n 1) y8 y9 y10 y11 y12 y13) H :=
  RunsTo.hin 0 60 [] fun kf hk=>⟨_,by kernel_rfl,.nil⟩
end Go.Proofs.Ytlendaofkmhgmaa
end
section
open Go Go.HL
namespace Go.Proofs.Ytlendaofkmhgmaa
set_option maxRecDepth 100000
open Go.Proofs.Try renaming prog → Tp
open Go.HL.HV renaming undef → Ud
noncomputable def B49:Code:=Try.f49.body.getD .skip
abbrev env49 (v0 v1 v2 v6:HV):Env:=[(0,v0),(1,v1),(2,v2),(6,v6)]
theorem w49_0 (n lo hi:Int)(g0:lo ≤ n) (g1:n ≤ hi):RT pol 49 (sub [] B49) [(0,.i n),(1,.i lo),(2,.i hi)] [] .ret (env49 (.i n) (.i lo) (.i hi) (.bool true)) [] :=
  RunsTo.hin 0 60 [⟨1,2,.bool true,[]⟩,⟨1,6,.bool true,[]⟩] fun kf hk=>⟨_,by kernel_rfl,(oB [] (decide_eq_true g0) (oB [] (decide_eq_true g1) .nil))⟩
theorem w49_1 (n lo hi:Int)(g0:lo ≤ n) (g1:¬ (n ≤ hi)):RT pol 49 (sub [] B49) [(0,.i n),(1,.i lo),(2,.i hi)] [] .ret (env49 (.i n) (.i lo) (.i hi) (.bool false)) [] :=
  RunsTo.hin 0 60 [⟨1,2,.bool true,[]⟩,⟨1,6,.bool false,[]⟩] fun kf hk=>⟨_,by kernel_rfl,(oB [] (decide_eq_true g0) (oB [] (decide_eq_false g1) .nil))⟩
theorem w49_2 (n lo hi:Int)(g0:¬ (lo ≤ n)):RT pol 49 (sub [] B49) [(0,.i n),(1,.i lo),(2,.i hi)] [] .ret (env49 (.i n) (.i lo) (.i hi) (.bool false)) [] :=
  RunsTo.hin 0 60 [⟨1,2,.bool false,[]⟩] fun kf hk=>⟨_,by kernel_rfl,(oB [] (decide_eq_false g0) .nil)⟩
noncomputable def B27:Code:=Try.f27.body.getD .skip
abbrev env27 (v0 v1 v4:HV):Env:=[(0,v0),(1,v1),(4,v4)]
theorem m27_0 (a n:Int)(g0:binV Tp .rem 81 (.int .u64 (IntKind.u64.wrap a)) (.int .u64 (IntKind.u64.wrap n))=some (.int .u64 ((IntKind.u64.wrap a:Int).tmod (IntKind.u64.wrap n)))):RT pol 27 (sub [] B27) [(0,.i a),(1,.i n)] [] .ret (env27 (.i a) (.i n) (.i (IntKind.i64.wrap ((IntKind.u64.wrap a:Int).tmod (IntKind.u64.wrap n))))) [] :=
  RunsTo.hin 0 60 [⟨1,4,.int .u64 ((IntKind.u64.wrap a:Int).tmod (IntKind.u64.wrap n)),[]⟩] fun kf hk=>⟨_,by kernel_rfl,(oP [] g0 .nil)⟩
noncomputable def B16:Code:=Try.f16.body.getD .skip
abbrev env16 (v0 v2 v3:HV):Env:=[(0,v0),(2,v2),(3,v3)]
theorem li_0 (la:List HV) (m:Nat)(g0:sliceV Tp 23 (.imm .arg 1 la) none (some (.i (min (la.length:Int) 13))) none=some (.imm .arg 1 (la.take m))) (g1:appV [.arr 1 [] true 0] 1 8 (.sl 0 0 0 none 0 1) (la.take m)=some (.sl 0 0 ((la.take m).length) none ((la.take m).length) 1,[.arr 1 (la.take m) true 0])):RT pol 16 (sub [] B16) [(0,.imm .arg 1 la)] [] .ret (env16 (.imm .arg 1 la) (.sl 0 0 ((la.take m).length) none ((la.take m).length) 1) (.sl 0 0 0 none 0 1)) [.arr 1 (la.take m) true 0] :=
  RunsTo.hin 0 60 [⟨2,5,.imm .arg 1 (la.take m),[.arr 1 [] true 0]⟩,⟨2,6,.sl 0 0 ((la.take m).length) none ((la.take m).length) 1,[.arr 1 (la.take m) true 0]⟩] fun kf hk=>⟨_,by kernel_rfl,(oP [.arr 1 [] true 0] g0 (oC (g1) .nil))⟩
noncomputable def B15:Code:=Try.f15.body.getD .skip
abbrev env15 (v0 v2 v3 v4:HV):Env:=[(0,v0),(2,v2),(3,v3),(4,v4)]
noncomputable def B26:Code:=Try.f26.body.getD .skip
abbrev env26 (v0 v1 v4 v5:HV):Env:=[(0,v0),(1,v1),(4,v4),(5,v5)]
theorem r26_a_0 (la lb:List HV):RT pol 26 (sub [0] B26) [(0,.imm .arg 1 la),(1,.imm .arg 1 lb)] [] .normal (env26 (.imm .arg 1 la) (.imm .arg 1 lb) (.bool false) Ud) [] :=
  RunsTo.hin 0 60 [] fun kf hk=>⟨_,by kernel_rfl,.nil⟩
theorem r26_b_0 (la lb:List HV)(g0:(la.length:Int)=(lb.length:Int)):RT pol 26 (sub [1,0] B26) (env26 (.imm .arg 1 la) (.imm .arg 1 lb) (.bool false) Ud) [] .normal (env26 (.imm .arg 1 la) (.imm .arg 1 lb) (.bool false) Ud) [] :=
  RunsTo.hin 0 60 [⟨1,4,.bool false,[]⟩] fun kf hk=>⟨_,by kernel_rfl,(oB [] (congrArg not (decide_eq_true g0)) .nil)⟩
theorem r26_b_1 (la lb:List HV)(g0:¬ ((la.length:Int)=(lb.length:Int))):RT pol 26 (sub [1,0] B26) (env26 (.imm .arg 1 la) (.imm .arg 1 lb) (.bool false) Ud) [] .ret (env26 (.imm .arg 1 la) (.imm .arg 1 lb) (.bool false) Ud) [] :=
  RunsTo.hin 0 60 [⟨1,4,.bool true,[]⟩] fun kf hk=>⟨_,by kernel_rfl,(oB [] (congrArg not (decide_eq_false g0)) .nil)⟩
theorem r26_c_0 (la lb:List HV):RT pol 26 (sub [1,1,0,0] B26) (env26 (.imm .arg 1 la) (.imm .arg 1 lb) (.bool false) Ud) [] .normal (env26 (.imm .arg 1 la) (.imm .arg 1 lb) (.bool false) (.i 0)) [] :=
  RunsTo.hin 0 60 [] fun kf hk=>⟨_,by kernel_rfl,.nil⟩
theorem r26_l_0 (la lb:List HV) (j:Nat) (x0:Int) (x1:Int) (g0:(j:Int) < (la.length:Int)) (g1:idxV Tp 23 (.imm .arg 1 la) (.i (j:Int))=some (.vptr (.i x0))) (g2:idxV Tp 23 (.imm .arg 1 lb) (.i (j:Int))=some (.vptr (.i x1))) (g3:x0=x1):RT pol 26 (sub [1,1,0,1,0,0] B26) (env26 (.imm .arg 1 la) (.imm .arg 1 lb) (.bool false) (.i (j:Int))) [] .normal (env26 (.imm .arg 1 la) (.imm .arg 1 lb) (.bool false) (.i (IntKind.i64.wrap ((j:Int)+1)))) [] :=
  RunsTo.hin 0 60 [⟨4,3,.bool true,[]⟩,⟨6,2,.vptr (.i x0),[]⟩,⟨6,6,.vptr (.i x1),[]⟩,⟨6,8,.bool false,[]⟩] fun kf hk=>⟨_,by kernel_rfl,(oB [] (decide_eq_true g0) (oP [] g1 (oP [] g2 (oB [] (congrArg not (decide_eq_true g3)) .nil))))⟩
theorem r26_l_1 (la lb:List HV) (j:Nat) (x0:Int) (x1:Int) (g0:(j:Int) < (la.length:Int)) (g1:idxV Tp 23 (.imm .arg 1 la) (.i (j:Int))=some (.vptr (.i x0))) (g2:idxV Tp 23 (.imm .arg 1 lb) (.i (j:Int))=some (.vptr (.i x1))) (g3:¬ (x0=x1)):RT pol 26 (sub [1,1,0,1,0,0] B26) (env26 (.imm .arg 1 la) (.imm .arg 1 lb) (.bool false) (.i (j:Int))) [] .ret (env26 (.imm .arg 1 la) (.imm .arg 1 lb) (.bool false) (.i (j:Int))) [] :=
  RunsTo.hin 0 60 [⟨4,3,.bool true,[]⟩,⟨6,2,.vptr (.i x0),[]⟩,⟨6,6,.vptr (.i x1),[]⟩,⟨6,8,.bool true,[]⟩] fun kf hk=>⟨_,by kernel_rfl,(oB [] (decide_eq_true g0) (oP [] g1 (oP [] g2 (oB [] (congrArg not (decide_eq_false g3)) .nil))))⟩
theorem r26_l_2 (la lb:List HV) (j:Nat)(g0:¬ ((j:Int) < (la.length:Int))):RT pol 26 (sub [1,1,0,1,0,0] B26) (env26 (.imm .arg 1 la) (.imm .arg 1 lb) (.bool false) (.i (j:Int))) [] (.exit 0) (env26 (.imm .arg 1 la) (.imm .arg 1 lb) (.bool false) (.i (j:Int))) [] :=
  RunsTo.hin 0 60 [⟨4,3,.bool false,[]⟩] fun kf hk=>⟨_,by kernel_rfl,(oB [] (decide_eq_false g0) .nil)⟩
theorem r26_z_0 (la lb:List HV) (j:Nat):RT pol 26 (sub [1,1,1] B26) (env26 (.imm .arg 1 la) (.imm .arg 1 lb) (.bool false) (.i (j:Int))) [] .ret (env26 (.imm .arg 1 la) (.imm .arg 1 lb) (.bool true) (.i (j:Int))) [] :=
  RunsTo.hin 0 60 [] fun kf hk=>⟨_,by kernel_rfl,.nil⟩
noncomputable def B72:Code:=Try.f72.body.getD .skip
abbrev env72 (v0 v1 v4 v5 v7 v8:HV):Env:=[(0,v0),(1,v1),(4,v4),(5,v5),(7,v7),(8,v8)]
theorem ix_a_0 (la:List HV) (v:Int):RT pol 72 (sub [0] B72) [(0,.imm .arg 1 la),(1,.i v)] [] .normal (env72 (.imm .arg 1 la) (.i v) (.i 0) Ud Ud Ud) [] :=
  RunsTo.hin 0 60 [] fun kf hk=>⟨_,by kernel_rfl,.nil⟩
theorem ix_b_0 (la:List HV) (v:Int):RT pol 72 (sub [1,0,0] B72) (env72 (.imm .arg 1 la) (.i v) (.i 0) Ud Ud Ud) [] .normal (env72 (.imm .arg 1 la) (.i v) (.i 0) Ud (.i (la.length:Int)) (.i 0)) [] :=
  RunsTo.hin 0 60 [] fun kf hk=>⟨_,by kernel_rfl,.nil⟩
theorem ix_l_0 (la:List HV) (v:Int) (j:Nat) (x0:Int) (g0:(j:Int) < (la.length:Int)) (g1:idxV Tp 23 (.imm .arg 1 la) (.i (j:Int))=some (.vptr (.i x0))) (g2:v=x0):RT pol 72 (sub [1,0,1,0,0] B72) (env72 (.imm .arg 1 la) (.i v) (.i 0) Ud (.i (la.length:Int)) (.i (j:Int))) [] .ret (env72 (.imm .arg 1 la) (.i v) (.i (j:Int)) (.i (j:Int)) (.i (la.length:Int)) (.i (j:Int))) [] :=
  RunsTo.hin 0 60 [⟨2,0,.bool true,[]⟩,⟨4,3,.vptr (.i x0),[]⟩,⟨4,5,.bool true,[]⟩] fun kf hk=>⟨_,by kernel_rfl,(oB [] (decide_eq_true g0) (oP [] g1 (oB [] (decide_eq_true g2) .nil)))⟩
theorem ix_l_1 (la:List HV) (v:Int) (j:Nat) (x0:Int) (g0:(j:Int) < (la.length:Int)) (g1:idxV Tp 23 (.imm .arg 1 la) (.i (j:Int))=some (.vptr (.i x0))) (g2:¬ (v=x0)):RT pol 72 (sub [1,0,1,0,0] B72) (env72 (.imm .arg 1 la) (.i v) (.i 0) Ud (.i (la.length:Int)) (.i (j:Int))) [] .normal (env72 (.imm .arg 1 la) (.i v) (.i 0) (.i (j:Int)) (.i (la.length:Int)) (.i (IntKind.i64.wrap ((j:Int)+1)))) [] :=
  RunsTo.hin 0 60 [⟨2,0,.bool true,[]⟩,⟨4,3,.vptr (.i x0),[]⟩,⟨4,5,.bool false,[]⟩] fun kf hk=>⟨_,by kernel_rfl,(oB [] (decide_eq_true g0) (oP [] g1 (oB [] (decide_eq_false g2) .nil)))⟩
theorem ix_l_2 (la:List HV) (v:Int) (j:Nat)(g0:¬ ((j:Int) < (la.length:Int))):RT pol 72 (sub [1,0,1,0,0] B72) (env72 (.imm .arg 1 la) (.i v) (.i 0) Ud (.i (la.length:Int)) (.i (j:Int))) [] (.exit 0) (env72 (.imm .arg 1 la) (.i v) (.i 0) Ud (.i (la.length:Int)) (.i (j:Int))) [] :=
  RunsTo.hin 0 60 [⟨2,0,.bool false,[]⟩] fun kf hk=>⟨_,by kernel_rfl,(oB [] (decide_eq_false g0) .nil)⟩
theorem ix_z_0 (la:List HV) (v:Int) (j:Nat):RT pol 72 (sub [1,1] B72) (env72 (.imm .arg 1 la) (.i v) (.i 0) Ud (.i (la.length:Int)) (.i (j:Int))) [] .ret (env72 (.imm .arg 1 la) (.i v) (.i (-1)) Ud (.i (la.length:Int)) (.i (j:Int))) [] :=
  RunsTo.hin 0 60 [] fun kf hk=>⟨_,by kernel_rfl,.nil⟩
noncomputable def B60:Code:=Try.f60.body.getD .skip
abbrev env60 (v0 v1 v4:HV):Env:=[(0,v0),(1,v1),(4,v4)]
theorem ct_0 (la:List HV) (x:Int) (r:Int) (g0:∀ kf,callN Tp polX (kf+1) 72 [.imm .arg 1 la,.i x] []=some (.i r,[])) (g1:0 ≤ r):RT polX 60 (sub [] B60) [(0,.imm .arg 1 la),(1,.i x)] [] .ret (env60 (.imm .arg 1 la) (.i x) (.bool true)) [] :=
  RunsTo.hin 0 60 [⟨1,2,.i r,[]⟩,⟨1,3,.bool true,[]⟩] fun kf hk=>⟨_,by kernel_rfl,(oC (g0 kf) (oB [] (decide_eq_true g1) .nil))⟩
theorem ct_1 (la:List HV) (x:Int) (r:Int) (g0:∀ kf,callN Tp polX (kf+1) 72 [.imm .arg 1 la,.i x] []=some (.i r,[])) (g1:¬ (0 ≤ r)):RT polX 60 (sub [] B60) [(0,.imm .arg 1 la),(1,.i x)] [] .ret (env60 (.imm .arg 1 la) (.i x) (.bool false)) [] :=
  RunsTo.hin 0 60 [⟨1,2,.i r,[]⟩,⟨1,3,.bool false,[]⟩] fun kf hk=>⟨_,by kernel_rfl,(oC (g0 kf) (oB [] (decide_eq_false g1) .nil))⟩
noncomputable def B56:Code:=Try.f56.body.getD .skip
abbrev env56 (v0 v1 v4 v5 v6 v7 v8 v9 v10:HV):Env:=[(0,v0),(1,v1),(4,v4),(5,v5),(6,v6),(7,v7),(8,v8),(9,v9),(10,v10)]
theorem ml_a_0 (rw la:List HV):RT pol 56 (sub [0] B56) [(0,.imm .arg 1 rw),(1,.imm .arg 1 la)] [] .normal (env56 (.imm .arg 1 rw) (.imm .arg 1 la) (.i 0) Ud Ud Ud Ud Ud Ud) [] :=
  RunsTo.hin 0 60 [] fun kf hk=>⟨_,by kernel_rfl,.nil⟩
theorem ml_b_0 (rw la:List HV):RT pol 56 (sub [1,0] B56) (env56 (.imm .arg 1 rw) (.imm .arg 1 la) (.i 0) Ud Ud Ud Ud Ud Ud) [] .normal (env56 (.imm .arg 1 rw) (.imm .arg 1 la) (.i 0) (.i 0) Ud Ud Ud Ud Ud) [] :=
  RunsTo.hin 0 60 [] fun kf hk=>⟨_,by kernel_rfl,.nil⟩
theorem ml_c_0 (rw la:List HV) (sm:Int):RT pol 56 (sub [1,1,0,0] B56) (env56 (.imm .arg 1 rw) (.imm .arg 1 la) (.i 0) (.i sm) Ud Ud Ud Ud Ud) [] .normal (env56 (.imm .arg 1 rw) (.imm .arg 1 la) (.i 0) (.i sm) Ud Ud (.imm .arg 1 la) (.i (la.length:Int)) (.i 0)) [] :=
  RunsTo.hin 0 60 [] fun kf hk=>⟨_,by kernel_rfl,.nil⟩
theorem ml_l_0 (rw la:List HV) (sm:Int) (j:Nat) (x0:Int) (l0:List HV) (x1:Int) (x2:Int) (g0:(j:Int) < (la.length:Int)) (g1:idxV Tp 23 (.imm .arg 1 la) (.i (j:Int))=some (.vptr (.i x0))) (g2:idxV Tp 68 (.imm .arg 1 rw) (.i x0)=some (.vptr (.imm .arg 1 l0))) (g3:binV Tp .rem 3 (.i (IntKind.i64.wrap ((j:Int)+1))) (.i (la.length:Int))=some (.i ((IntKind.i64.wrap ((j:Int)+1):Int).tmod (la.length:Int)))) (g4:idxV Tp 23 (.imm .arg 1 la) (.i ((IntKind.i64.wrap ((j:Int)+1):Int).tmod (la.length:Int)))=some (.vptr (.i x1))) (g5:idxV Tp 23 (.imm .arg 1 l0) (.i x1)=some (.vptr (.i x2))):RT pol 56 (sub [1,1,0,1,0,0] B56) (env56 (.imm .arg 1 rw) (.imm .arg 1 la) (.i 0) (.i sm) Ud Ud (.imm .arg 1 la) (.i (la.length:Int)) (.i (j:Int))) [] .normal (env56 (.imm .arg 1 rw) (.imm .arg 1 la) (.i 0) (.i (IntKind.i64.wrap (sm+x2))) (.i (j:Int)) (.i x0) (.imm .arg 1 la) (.i (la.length:Int)) (.i (IntKind.i64.wrap ((j:Int)+1)))) [] :=
  RunsTo.hin 0 60 [⟨3,0,.bool true,[]⟩,⟨4,1,.vptr (.i x0),[]⟩,⟨5,3,.vptr (.imm .arg 1 l0),[]⟩,⟨5,10,.i ((IntKind.i64.wrap ((j:Int)+1):Int).tmod (la.length:Int)),[]⟩,⟨5,11,.vptr (.i x1),[]⟩,⟨5,13,.vptr (.i x2),[]⟩] fun kf hk=>⟨_,by kernel_rfl,(oB [] (decide_eq_true g0) (oP [] g1 (oP [] g2 (oP [] g3 (oP [] g4 (oP [] g5 .nil))))))⟩
theorem ml_l_1 (rw la:List HV) (sm:Int) (j:Nat)(g0:¬ ((j:Int) < (la.length:Int))):RT pol 56 (sub [1,1,0,1,0,0] B56) (env56 (.imm .arg 1 rw) (.imm .arg 1 la) (.i 0) (.i sm) Ud Ud (.imm .arg 1 la) (.i (la.length:Int)) (.i (j:Int))) [] (.exit 0) (env56 (.imm .arg 1 rw) (.imm .arg 1 la) (.i 0) (.i sm) Ud Ud (.imm .arg 1 la) (.i (la.length:Int)) (.i (j:Int))) [] :=
  RunsTo.hin 0 60 [⟨3,0,.bool false,[]⟩] fun kf hk=>⟨_,by kernel_rfl,(oB [] (decide_eq_false g0) .nil)⟩
theorem ml_z_0 (rw la:List HV) (sm:Int) (j:Nat):RT pol 56 (sub [1,1,1] B56) (env56 (.imm .arg 1 rw) (.imm .arg 1 la) (.i 0) (.i sm) Ud Ud (.imm .arg 1 la) (.i (la.length:Int)) (.i (j:Int))) [] .ret (env56 (.imm .arg 1 rw) (.imm .arg 1 la) (.i sm) (.i sm) Ud Ud (.imm .arg 1 la) (.i (la.length:Int)) (.i (j:Int))) [] :=
  RunsTo.hin 0 60 [] fun kf hk=>⟨_,by kernel_rfl,.nil⟩
end Go.Proofs.Ytlendaofkmhgmaa
end
section
open Go Go.HL
namespace Go.Proofs.Ytlendaofkmhgmaa
open Go.Proofs.Try renaming prog → Tp
open Go.HL.HV renaming undef → Ud
theorem within_ok:PrimOk Tp 49 withinF:=by
  refine primOk_pure (pol:=pol) (fn:=Try.f49) (cd:=B49) follows_mixed sound (by kernel_rfl) (by kernel_rfl) (fnok pol.prim _ _ (by kernel_rfl)) (by kernel_rfl) ?_
  intro args res h
  unfold withinF at h
  split at h
  · rename_i n lo hi
    cases h
    have hr:Try.f49.results.toList=[.tmp 6]:=by kernel_rfl
    by_cases g0:lo ≤ n
    · by_cases g1:n ≤ hi
      · exact ⟨_,_,_,_,w49_0 n lo hi g0 g1,by simp,by simp only [resultsV,hr]; rfl,by rw [decide_eq_true ⟨g0,g1⟩]; rfl⟩
      · exact ⟨_,_,_,_,w49_1 n lo hi g0 g1,by simp,by simp only [resultsV,hr]; rfl,by rw [decide_eq_false (fun h=>g1 h.2)]; rfl⟩
    · exact ⟨_,_,_,_,w49_2 n lo hi g0,by simp,by simp only [resultsV,hr]; rfl,by rw [decide_eq_false (fun h=>g0 h.1)]; rfl⟩
  · cases h
theorem mod_ok:PrimOk Tp 27 modF:=by
  refine primOk_pure (pol:=pol) (fn:=Try.f27) (cd:=B27) follows_mixed sound (by kernel_rfl) (by kernel_rfl) (fnok pol.prim _ _ (by kernel_rfl)) (by kernel_rfl) ?_
  intro args res h
  unfold modF at h
  split at h
  · rename_i a n
    split at h
    · rename_i hn
      cases h
      have hr:Try.f27.results.toList=[.tmp 4]:=by kernel_rfl
      refine ⟨_,_,_,_,m27_0 a n ?_,by simp,by simp only [resultsV,hr]; rfl,rfl⟩
      have:IntKind.u64.wrap n ≠ 0:=by rw [wrapU64]; omega
      simp only [binV,intBin,if_neg this,if_true]
    · cases h
  · cases h
theorem liF_inv {f:List Int → Option HV} {args:List HV} {res:HV} (h:liF f args=some res):∃ l,args=[.imm .arg 1 (l.map encI)]∧f l=some res:=by
  unfold liF at h
  split at h
  · rename_i la
    split at h
    · rename_i l hl
      exact ⟨l,by rw [mapO_inv decI_inv hl],h⟩
    · cases h
  · cases h
theorem rwF_inv {f:List (List Int) → Option HV} {args:List HV} {res:HV} (h:rwF f args=some res):∃ l,args=[.imm .arg 1 (l.map encR)]∧f l=some res:=by
  unfold rwF at h
  split at h
  · rename_i la
    split at h
    · rename_i l hl
      exact ⟨l,by rw [mapO_inv decR_inv hl],h⟩
    · cases h
  · cases h
theorem rlF_inv {f:List (List Int) → List Int → Option HV} {args:List HV} {res:HV} (h:rlF f args=some res):∃ R l,args=[.imm .arg 1 (R.map encR),.imm .arg 1 (l.map encI)]∧f R l=some res:=by
  unfold rlF at h
  split at h
  · rename_i la
    split at h
    · rename_i R l hR hl
      exact ⟨R,l,by rw [mapO_inv decR_inv hR,mapO_inv decI_inv hl],h⟩
    · cases h
  · cases h
theorem llF_inv {f:List Int → List Int → Option HV} {args:List HV} {res:HV} (h:llF f args=some res):∃ R l,args=[.imm .arg 1 (R.map encI),.imm .arg 1 (l.map encI)]∧f R l=some res:=by
  unfold llF at h
  split at h
  · rename_i la
    split at h
    · rename_i R l hR hl
      exact ⟨R,l,by rw [mapO_inv decI_inv hR,mapO_inv decI_inv hl],h⟩
    · cases h
  · cases h
theorem lnF_inv {f:List Int → Int → Option HV} {args:List HV} {res:HV} (h:lnF f args=some res):∃ l v,args=[.imm .arg 1 (l.map encI),.int .i64 v]∧f l v=some res:=by
  unfold lnF at h
  split at h
  · rename_i la v
    split at h
    · rename_i l hl
      exact ⟨l,v,by rw [mapO_inv decI_inv hl],h⟩
    · cases h
  · cases h
theorem slice_imm {w:Nat} {l:List HV} (hw:w ≤ l.length):sliceV Tp 23 (.imm .arg 1 l) none (some (.int .i64 (w:Int))) none=some (.imm .arg 1 (l.take w)):=by
  simp only [sliceV,boundV,u23,z3]
  rw [if_pos (by omega:(0:Int) ≤ (w:Int))]
  simp [hw]
theorem take_min {α:Type} (l:List α) (k:Nat):l.take (min l.length k)=l.take k:=by
  rw [List.take_eq_take_iff]; omega
theorem res16:Try.f16.results.toList=[.tmp 2]:=by kernel_rfl
theorem list_ok:PrimOk Tp 16 list16:=by
  refine primOk_pure (pol:=pol) (fn:=Try.f16) (cd:=B16) follows_mixed sound (by kernel_rfl) (by kernel_rfl) (fnok pol.prim _ _ (by kernel_rfl)) (by kernel_rfl) ?_
  intro args res h
  obtain ⟨l,rfl,hq⟩:=liF_inv h
  clear h
  have h:=hq
  clear hq
  cases h
  have hmin:min ((l.map encI).length:Int) 13=((min l.length 13:Nat):Int):=by rw [List.length_map]; omega
  have hw:(l.map encI).take (min l.length 13)=(l.take 13).map encI:=by rw [← List.map_take,take_min]
  have s1:=li_0 (l.map encI) (min l.length 13) (by rw [hmin]; exact slice_imm (by rw [List.length_map]; omega)) (by
    rw [hw]
    by_cases h0:l.take 13=[]
    · rw [h0]; rfl
    · have hlen:(l.take 13).length ≤ 13:=by rw [List.length_take]; omega
      have:=app_ints (H:=[bI []]) (b:=0) (o:=[]) (xs:=l.take 13) rfl (by simp; omega) h0
      rw [List.nil_append] at this
      simpa [bI] using this)
  rw [hw] at s1
  refine ⟨_,_,_,.sl 0 0 ((l.take 13).map encI).length none ((l.take 13).map encI).length 1,s1,by simp,by simp only [resultsV,res16]; rfl,?_⟩
  exact res_li (b:=0) rfl (by simp)
theorem res26:Try.f26.results.toList=[.tmp 4]:=by kernel_rfl
abbrev iE (la lb:List HV) (j:Nat):Env:=env26 (.imm .arg 1 la) (.imm .arg 1 lb) (.bool false) (.int .i64 (j:Int))
theorem getD_at {o:List Int} {y:Nat} (h:y < o.length):o.getD y 0=o[y]:=by simp [List.getD,List.getElem?_eq_getElem h]
theorem ints_loop (a b:List Int) (hl:a.length=b.length) (hl2:a.length ≤ 1000):∀ (d j:Nat),j+d=a.length →
    ∃ x E,RT pol 26 (sub [1,1,0,1,0] B26) (iE (a.map encI) (b.map encI) j) [] x E [] ∧
      ((a.drop j=b.drop j∧x=.exit 0∧E=iE (a.map encI) (b.map encI) a.length) ∨ (a.drop j ≠ b.drop j∧x=.ret∧E.get 4=.bool false)):=by
  intro d
  induction d with
  | zero =>
    intro j hj
    have hj:j=a.length:=by omega
    subst hj
    exact ⟨_,_,lpo (r26_l_2 (a.map encI) (b.map encI) a.length (by simp)),.inl ⟨by rw [List.drop_length,hl,List.drop_length],rfl,rfl⟩⟩
  | succ d ih =>
    intro j hj
    have hja:j < a.length:=by omega
    have hjb:j < b.length:=by omega
    rw [List.drop_eq_getElem_cons hja,List.drop_eq_getElem_cons hjb]
    have g1:=gx hja
    have g2:=gx hjb
    rw [getD_at hja] at g1
    rw [getD_at hjb] at g2
    by_cases he:a[j]=b[j]
    · obtain ⟨x,E,h1,h2⟩:=ih (j+1) (by omega)
      have s1:=r26_l_0 (a.map encI) (b.map encI) j _ _ (by simp; omega) g1 g2 he
      rw [wrap_succ (by omega)] at s1
      refine ⟨x,E,lop s1 rfl h1,?_⟩
      rw [he]
      simpa only [List.cons.injEq,true_and,ne_eq] using h2
    · have s1:=r26_l_1 (a.map encI) (b.map encI) j _ _ (by simp; omega) g1 g2 he
      exact ⟨_,_,lpo s1,.inr ⟨fun h=>he (List.cons.inj h).1,rfl,rfl⟩⟩
theorem ints_ok:PrimOk Tp 26 ints26:=by
  refine primOk_pure (pol:=pol) (fn:=Try.f26) (cd:=B26) follows_mixed sound (by kernel_rfl) (by kernel_rfl) (fnok pol.prim _ _ (by kernel_rfl)) (by kernel_rfl) ?_
  intro args res h
  obtain ⟨a,b,rfl,hq⟩:=llF_inv h
  clear h
  have h:=hq
  clear hq
  split at h
  · rename_i hlen
    cases h
    have a1:=r26_a_0 (a.map encI) (b.map encI)
    by_cases hl:a.length=b.length
    · have b1:=r26_b_0 (a.map encI) (b.map encI) (by simp [hl])
      have c1:=r26_c_0 (a.map encI) (b.map encI)
      obtain ⟨x,E,h1,h2⟩:=ints_loop a b hl hlen a.length 0 (by omega)
      rw [List.drop_zero,List.drop_zero] at h2
      rcases h2 with ⟨k1,rfl,rfl⟩ | ⟨k1,rfl,k2⟩
      · have t1:=sq c1 (bke (c:=sub [1,1,0,1] B26) h1) (c:=sub [1,1,0] B26)
        have t2:=sq t1 (r26_z_0 (a.map encI) (b.map encI) a.length) (c:=sub [1,1] B26)
        have t3:=sq b1 t2 (c:=sub [1] B26)
        have t4:=sq a1 t3 (c:=B26)
        exact ⟨_,_,_,.bool (decide (a=b)),t4,by simp,by rw [decide_eq_true k1]; simp only [resultsV,res26]; rfl,rfl⟩
      · have t1:=sq c1 (RunsTo.block_ret (c:=sub [1,1,0,1] B26) (i:=0) h1 (by kernel_rfl)) (c:=sub [1,1,0] B26)
        have t2:=sqo t1 (c:=sub [1,1] B26) (b:=sub [1,1,1] B26)
        have t3:=sq b1 t2 (c:=sub [1] B26)
        have t4:=sq a1 t3 (c:=B26)
        exact ⟨_,_,_,.bool (decide (a=b)),t4,by simp,by rw [decide_eq_false k1]; simp only [resultsV,res26,mapO,resultV,k2],rfl⟩
    · have b1:=r26_b_1 (a.map encI) (b.map encI) (by simp; omega)
      have t3:=sqo b1 (c:=sub [1] B26) (b:=sub [1,1] B26)
      have t4:=sq a1 t3 (c:=B26)
      exact ⟨_,_,_,.bool (decide (a=b)),t4,by simp,by rw [decide_eq_false (fun h=>hl (by rw [h]))]; simp only [resultsV,res26]; rfl,rfl⟩
  · cases h
theorem res72:Try.f72.results.toList=[.tmp 4]:=by kernel_rfl
abbrev ixE (la:List HV) (v:Int) (j:Nat):Env:=env72 (.imm .arg 1 la) (.int .i64 v) (.int .i64 0) Ud (.int .i64 (la.length:Int)) (.int .i64 (j:Int))
theorem index_loop (l:List Int) (v:Int) (hl:l.length ≤ 1000):∀ (d j:Nat),j+d=l.length →
    ∃ x E,RT pol 72 (sub [1,0,1,0] B72) (ixE (l.map encI) v j) [] x E [] ∧
      ((idxFrom v j (l.drop j)=-1∧x=.exit 0∧E=ixE (l.map encI) v l.length) ∨ (x=.ret∧E.get 4=.int .i64 (idxFrom v j (l.drop j)))):=by
  intro d
  induction d with
  | zero =>
    intro j hj
    have hj:j=l.length:=by omega
    subst hj
    exact ⟨_,_,lpo (ix_l_2 (l.map encI) v l.length (by simp)),.inl ⟨by rw [List.drop_length]; rfl,rfl,rfl⟩⟩
  | succ d ih =>
    intro j hj
    have hjl:j < l.length:=by omega
    have g1:=gx hjl
    rw [getD_at hjl] at g1
    rw [List.drop_eq_getElem_cons hjl,idxFrom]
    by_cases he:v=l[j]
    · rw [if_pos he]
      have s1:=ix_l_0 (l.map encI) v j _ (by simp; omega) g1 he
      exact ⟨_,_,lpo s1,.inr ⟨rfl,rfl⟩⟩
    · rw [if_neg he]
      obtain ⟨x,E,h1,h2⟩:=ih (j+1) (by omega)
      have s1:=ix_l_1 (l.map encI) v j _ (by simp; omega) g1 he
      rw [wrap_succ (by omega)] at s1
      exact ⟨x,E,lop s1 rfl h1,h2⟩
theorem index_ok:PrimOk Tp 72 index72:=by
  refine primOk_pure (pol:=pol) (fn:=Try.f72) (cd:=B72) follows_mixed sound (by kernel_rfl) (by kernel_rfl) (fnok pol.prim _ _ (by kernel_rfl)) (by kernel_rfl) ?_
  intro args res h
  obtain ⟨l,v,rfl,hq⟩:=lnF_inv h
  clear h
  have h:=hq
  clear hq
  split at h
  · rename_i hlen
    cases h
    have a1:=ix_a_0 (l.map encI) v
    have b1:=ix_b_0 (l.map encI) v
    obtain ⟨x,E,h1,h2⟩:=index_loop l v hlen l.length 0 (by omega)
    rw [List.drop_zero] at h2
    rcases h2 with ⟨k1,rfl,rfl⟩ | ⟨rfl,k2⟩
    · have t1:=sq b1 (bke (c:=sub [1,0,1] B72) h1) (c:=sub [1,0] B72)
      have t2:=sq t1 (ix_z_0 (l.map encI) v l.length) (c:=sub [1] B72)
      have t3:=sq a1 t2 (c:=B72)
      exact ⟨_,_,_,.int .i64 (idxFrom v 0 l),t3,by simp,by rw [k1]; simp only [resultsV,res72]; rfl,rfl⟩
    · have t1:=sq b1 (RunsTo.block_ret (c:=sub [1,0,1] B72) (i:=0) h1 (by kernel_rfl)) (c:=sub [1,0] B72)
      have t2:=sqo t1 (c:=sub [1] B72) (b:=sub [1,1] B72)
      have t3:=sq a1 t2 (c:=B72)
      exact ⟨_,_,_,.int .i64 (idxFrom v 0 l),t3,by simp,by simp only [resultsV,res72,mapO,resultV,k2],rfl⟩
  · cases h
theorem soundX (n:Nat):CallSound Tp (callN Tp polX n):=sound_prim _ (fun g f h=>by
  split at h
  · rename_i hg; cases h; rw [eq_of_beq hg]; exact index_ok
  · cases h) n
theorem idxFrom_mem (v:Int):∀ (l:List Int) (j:Nat),0 ≤ idxFrom v j l ↔ v ∈ l
  | [],j=>by simp [idxFrom]
  | x :: l,j=>by
    rw [idxFrom]
    by_cases h:v=x
    · subst h; simp
    · have h':¬ x=v:=fun e=>h e.symm
      simp [h,h',idxFrom_mem v l (j+1)]
theorem res60:Try.f60.results.toList=[.tmp 4]:=by kernel_rfl
theorem contains_ok:PrimOk Tp 60 contains60:=by
  refine primOk_pure (pol:=polX) (fn:=Try.f60) (cd:=B60) follows_mixed soundX (by kernel_rfl) (by kernel_rfl) (fnok polX.prim _ _ (by kernel_rfl)) (by kernel_rfl) ?_
  intro args res h
  obtain ⟨l,v,rfl,hq⟩:=lnF_inv h
  clear h
  have h:=hq
  clear hq
  split at h
  · rename_i hl
    cases h
    have hc:∀ k,callN Tp polX (k+1) 72 [.imm .arg 1 (l.map encI),.int .i64 v] []=some (.int .i64 (idxFrom v 0 l),[]):=fun k=>by
      rw [prim_call (pol:=polX) (g:=72) (F:=index72) (by kernel_rfl) (rs:=[.imm .arg 1 (l.map encI),.int .i64 v]) (by simp only [mapO,arg_li]; rfl) (res:=.int .i64 (idxFrom v 0 l)) (by simp only [index72,lnF,mapO_map decI_enc]; rw [if_pos hl])]; rfl
    by_cases hm:v ∈ l
    · rw [decide_eq_true hm]
      exact ⟨_,_,_,_,ct_0 (l.map encI) v _ hc ((idxFrom_mem v l 0).2 hm),by simp,by simp only [resultsV,res60]; rfl,rfl⟩
    · rw [decide_eq_false hm]
      exact ⟨_,_,_,_,ct_1 (l.map encI) v _ hc (fun h=>hm ((idxFrom_mem v l 0).1 h)),by simp,by simp only [resultsV,res60]; rfl,rfl⟩
  · cases h
theorem at_bd {d:List (List Int)} (h:okD d) {i j:Nat} (hi:i < d.length) (hj:j < d.length):0 ≤ at2 d i j∧at2 d i j ≤ 1000:=(h.2.2 i hi j hj).1
theorem inT_at {n:Nat} {l:List Int} (h:inT n l) {j:Nat} (hj:j < l.length):0 ≤ l.getD j 0∧(l.getD j 0).toNat < n:=by
  have:=h (l.getD j 0) (by rw [getD_at hj]; exact List.getElem_mem hj)
  omega
theorem rem_len {j n:Nat} (hn:0 < n) (hj:j < 1000000):binV Tp .rem 3 (.int .i64 (IntKind.i64.wrap ((j:Int)+1))) (.int .i64 (n:Int))=some (.int .i64 ((IntKind.i64.wrap ((j:Int)+1):Int).tmod (n:Int)))∧(IntKind.i64.wrap ((j:Int)+1):Int).tmod (n:Int)=(((j+1) % n:Nat):Int):=by
  refine ⟨?_,?_⟩
  · have:(n:Int) ≠ 0:=by omega
    simp only [binV,intBin,if_neg this,if_true]
  · rw [wrap_succ (by omega),← Int.ofNat_tmod]
theorem getR_len {d:List (List Int)} (h:okD d) {i:Nat} (hi:i < d.length):(d.getD i []).length=d.length:=h.2.1 i hi
section
variable {d:List (List Int)} {l:List Int}
theorem len_args (h:okD d) (hl:inT d.length l) {j:Nat} (hj:j < l.length):∃ a b:Int,l.getD j 0=a∧l.getD ((j+1) % l.length) 0=b∧(0 ≤ a∧a.toNat < d.length)∧(0 ≤ b∧b.toNat < d.length)∧(j+1) % l.length < l.length:=by
  have hm:(j+1) % l.length < l.length:=Nat.mod_lt _ (by omega)
  exact ⟨_,_,rfl,rfl,inT_at hl hj,inT_at hl hm,hm⟩
abbrev mlE (d:List (List Int)) (l:List Int) (s:Int) (j:Nat):Env:=env56 (.imm .arg 1 (d.map encR)) (.imm .arg 1 (l.map encI)) (.int .i64 0) (.int .i64 s) Ud Ud (.imm .arg 1 (l.map encI)) (.int .i64 (l.length:Int)) (.int .i64 (j:Int))
theorem ml_loop (h:okD d) (hl:inT d.length l) (h9:l.length ≤ 1000):∀ (k j:Nat) (s:Int),j+k=l.length → (0 ≤ s∧s ≤ 1000 * j) →
    RT pol 56 (sub [1,1,0,1,0] B56) (mlE d l s j) [] (.exit 0) (mlE d l (lenGo d l k j s) l.length) []:=by
  intro k
  induction k with
  | zero =>
    intro j s hj hs
    have hj:j=l.length:=by omega
    subst hj
    have s1:=ml_l_1 (d.map encR) (l.map encI) s l.length (by simp)
    rw [List.length_map] at s1
    exact lpo s1
  | succ k ih =>
    intro j s hj hs
    have hjl:j < l.length:=by omega
    obtain ⟨a,b,ha,hb,⟨a0,a1⟩,⟨b0,b1⟩,hm⟩:=len_args h hl hjl
    obtain ⟨r1,r2⟩:=rem_len (j:=j) (n:=l.length) (by omega) (by omega)
    have g1:=gx hjl
    rw [ha] at g1
    have g4:=gx hm
    rw [hb,← r2] at g4
    have hbd:=at_bd h a1 b1
    have g5:=gxi (l:=d.getD a.toNat []) b0 (by rw [getR_len h a1]; exact b1)
    have s1:=ml_l_0 (d.map encR) (l.map encI) s j a ((d.getD a.toNat []).map encI) b (at2 d a.toNat b.toNat) (by simp; omega) g1 (gm a0 a1) (by rw [List.length_map]; exact r1) (by rw [List.length_map]; exact g4) g5
    rw [wrap_succ (by omega),wrap_id (by omega) (by omega),List.length_map] at s1
    have hr:=ih (j+1) (s+at2 d a.toNat b.toNat) (by omega) (by omega)
    rw [lenGo,ha,hb]
    exact lop s1 rfl hr
end
theorem res56:Try.f56.results.toList=[.tmp 4]:=by kernel_rfl
theorem mlen_ok:PrimOk Tp 56 len56:=by
  refine primOk_pure (pol:=pol) (fn:=Try.f56) (cd:=B56) follows_mixed sound (by kernel_rfl) (by kernel_rfl) (fnok pol.prim _ _ (by kernel_rfl)) (by kernel_rfl) ?_
  intro args res h
  obtain ⟨d,l,rfl,hq⟩:=rlF_inv h
  clear h
  have h:=hq
  clear hq
  split at h
  · rename_i hc
    cases h
    obtain ⟨h1,h2,h3⟩:=hc
    have a1:=ml_a_0 (d.map encR) (l.map encI)
    have b1:=ml_b_0 (d.map encR) (l.map encI)
    have c1:=ml_c_0 (d.map encR) (l.map encI) 0
    have r:=ml_loop h1 h2 h3 l.length 0 0 (by omega) (by omega)
    have z1:=ml_z_0 (d.map encR) (l.map encI) (lenT d l) l.length
    rw [List.length_map] at c1 z1
    have t1:=sq c1 (bke (c:=sub [1,1,0,1] B56) r) (c:=sub [1,1,0] B56)
    have t2:=sq b1 (sq t1 z1 (c:=sub [1,1] B56)) (c:=sub [1] B56)
    exact ⟨_,_,_,.int .i64 (lenT d l),sq a1 t2 (c:=B56),by simp,by simp only [resultsV,res56]; rfl,rfl⟩
  · cases h
end Go.Proofs.Ytlendaofkmhgmaa
end
section
open Go Go.HL
namespace Go.Proofs.Ytlendaofkmhgmaa
theorem res15:Try.f15.results.toList=[.tmp 2]:=by kernel_rfl
theorem nodup_take {l:List Int} {j:Nat} (hj:j < l.length):(l.take (j+1)).Nodup ↔ (l.take j).Nodup∧l[j] ∉ l.take j:=by
  rw [List.take_succ_eq_append_getElem hj,List.nodup_append]
  constructor
  · rintro ⟨h1,_,h3⟩
    exact ⟨h1,fun hm=>h3 _ hm _ (by simp) rfl⟩
  · rintro ⟨h1,h2⟩
    exact ⟨h1,by simp,fun x hx y hy e=>by
      rw [List.mem_singleton] at hy
      exact h2 (by rw [← hy,← e]; exact hx)⟩
theorem nodup_of_take {l:List Int} (h:l.Nodup) (j:Nat):(l.take j).Nodup:=List.Pairwise.sublist (List.take_sublist j l) h
structure Gd (n:Nat) (l:List Int) (j:Nat):Prop where
  rng:inT n (l.take j)
  nd:(l.take j).Nodup
theorem Gd.zero (n:Nat) (l:List Int):Gd n l 0:=⟨by simp [inT],by simp⟩
theorem Gd.succ {n:Nat} {l:List Int} {j:Nat} (h:Gd n l j) (hj:j < l.length) (h1:0 ≤ l[j]∧l[j] < (n:Int)) (h2:l[j] ∉ l.take j):Gd n l (j+1):=by
  refine ⟨fun v hv=>?_,(nodup_take hj).2 ⟨h.nd,h2⟩⟩
  rw [List.take_succ_eq_append_getElem hj,List.mem_append,List.mem_singleton] at hv
  rcases hv with hv | rfl
  · exact h.rng v hv
  · exact h1
theorem Gd.all {n:Nat} {l:List Int} (h:Gd n l l.length):inT n l∧l.Nodup:=by
  obtain ⟨h1,h2⟩:=h
  rw [List.take_length] at h1 h2
  exact ⟨h1,h2⟩
theorem dup_not {l:List Int} {j:Nat} (hj:j < l.length) (h:l[j] ∈ l.take j):¬ l.Nodup:=fun hn=>((nodup_take hj).1 (nodup_of_take hn (j+1))).2 h
structure Mk (n:Nat) (l:List Int) (j:Nat) (bs:List Bool):Prop where
  len:bs.length=n
  iff:∀ y,y < n → (bs.getD y false=true ↔ (y:Int) ∈ l.take j)
theorem Mk.succ {n:Nat} {l:List Int} {j:Nat} {bs:List Bool} (h:Mk n l j bs) (hj:j < l.length) (h1:0 ≤ l[j]∧l[j].toNat < n):Mk n l (j+1) (bs.set l[j].toNat true):=by
  refine ⟨by rw [List.length_set]; exact h.len,fun y hy=>?_⟩
  have hl:=h.len
  rw [List.take_succ_eq_append_getElem hj,List.mem_append,List.mem_singleton,List.getD,List.getElem?_set]
  by_cases e:l[j].toNat=y
  · rw [if_pos e,if_pos (by omega)]
    simp
    right; omega
  · rw [if_neg e]
    have:=h.iff y hy
    rw [List.getD] at this
    rw [this]
    constructor
    · exact fun h=>.inl h
    · rintro (h | h)
      · exact h
      · omega
end Go.Proofs.Ytlendaofkmhgmaa
end
section
open Go Go.HL
namespace Go.Proofs.Ytlendaofkmhgmaa
set_option maxRecDepth 100000
open Go.Proofs.Try renaming prog → Tp
open Go.HL.HV renaming undef → Ud
noncomputable def B68:Code:=Try.f68.body.getD .skip
abbrev env68 (v0 v2:HV):Env:=[(0,v0),(2,v2)]
theorem m1_0 (n:Int)(g0:(0:Int) ≤ n∧n ≤ (1000:Int)):RT polW 68 (sub [] B68) [(0,.i n)] [] .ret (env68 (.i n) (.bool false)) [] :=
  RunsTo.hin 0 60 [⟨1,1,.bool true,[]⟩] fun kf hk=>⟨_,by kernel_rfl,(oB [] (decide_eq_true g0) .nil)⟩
theorem m1_1 (n:Int)(g0:¬ ((0:Int) ≤ n∧n ≤ (1000:Int))):RT polW 68 (sub [] B68) [(0,.i n)] [] .ret (env68 (.i n) (.bool true)) [] :=
  RunsTo.hin 0 60 [⟨1,1,.bool false,[]⟩] fun kf hk=>⟨_,by kernel_rfl,(oB [] (decide_eq_false g0) .nil)⟩
noncomputable def B69:Code:=Try.f69.body.getD .skip
abbrev env69 (v0 v1 v4 v5 v7 v8:HV):Env:=[(0,v0),(1,v1),(4,v4),(5,v5),(7,v7),(8,v8)]
theorem jx_a_0 (la:List HV) (H:Heap):RT polM 69 (sub [0] B69) [(0,.imm .arg 1 la),(1,.func 68 [] [])] H .normal (env69 (.imm .arg 1 la) (.func 68 [] []) (.i 0) Ud Ud Ud) H :=
  RunsTo.hin 0 60 [] fun kf hk=>⟨_,by kernel_rfl,.nil⟩
theorem jx_b_0 (la:List HV) (H:Heap):RT polM 69 (sub [1,0,0] B69) (env69 (.imm .arg 1 la) (.func 68 [] []) (.i 0) Ud Ud Ud) H .normal (env69 (.imm .arg 1 la) (.func 68 [] []) (.i 0) Ud (.i (la.length:Int)) (.i 0)) H :=
  RunsTo.hin 0 60 [] fun kf hk=>⟨_,by kernel_rfl,.nil⟩
theorem jx_l_0 (la:List HV) (H:Heap) (j:Nat) (x0:Int) (H0:Heap) (g0:(j:Int) < (la.length:Int)) (g1:idxV Tp 23 (.imm .arg 1 la) (.i (j:Int))=some (.vptr (.i x0))) (g2:∀ kf,callN Tp polM (kf+1) 68 [.i x0] H=some (.bool true,H0)):RT polM 69 (sub [1,0,1,0,0] B69) (env69 (.imm .arg 1 la) (.func 68 [] []) (.i 0) Ud (.i (la.length:Int)) (.i (j:Int))) H .ret (env69 (.imm .arg 1 la) (.func 68 [] []) (.i (j:Int)) (.i (j:Int)) (.i (la.length:Int)) (.i (j:Int))) H0 :=
  RunsTo.hin 0 60 [⟨2,0,.bool true,H⟩,⟨4,3,.vptr (.i x0),H⟩,⟨4,5,.bool true,H0⟩] fun kf hk=>⟨_,by kernel_rfl,(oB H (decide_eq_true g0) (oP H g1 (oC (g2 kf) .nil)))⟩
theorem jx_l_1 (la:List HV) (H:Heap) (j:Nat) (x0:Int) (H0:Heap) (g0:(j:Int) < (la.length:Int)) (g1:idxV Tp 23 (.imm .arg 1 la) (.i (j:Int))=some (.vptr (.i x0))) (g2:∀ kf,callN Tp polM (kf+1) 68 [.i x0] H=some (.bool false,H0)):RT polM 69 (sub [1,0,1,0,0] B69) (env69 (.imm .arg 1 la) (.func 68 [] []) (.i 0) Ud (.i (la.length:Int)) (.i (j:Int))) H .normal (env69 (.imm .arg 1 la) (.func 68 [] []) (.i 0) (.i (j:Int)) (.i (la.length:Int)) (.i (IntKind.i64.wrap ((j:Int)+1)))) H0 :=
  RunsTo.hin 0 60 [⟨2,0,.bool true,H⟩,⟨4,3,.vptr (.i x0),H⟩,⟨4,5,.bool false,H0⟩] fun kf hk=>⟨_,by kernel_rfl,(oB H (decide_eq_true g0) (oP H g1 (oC (g2 kf) .nil)))⟩
theorem jx_l_2 (la:List HV) (H:Heap) (j:Nat)(g0:¬ ((j:Int) < (la.length:Int))):RT polM 69 (sub [1,0,1,0,0] B69) (env69 (.imm .arg 1 la) (.func 68 [] []) (.i 0) Ud (.i (la.length:Int)) (.i (j:Int))) H (.exit 0) (env69 (.imm .arg 1 la) (.func 68 [] []) (.i 0) Ud (.i (la.length:Int)) (.i (j:Int))) H :=
  RunsTo.hin 0 60 [⟨2,0,.bool false,H⟩] fun kf hk=>⟨_,by kernel_rfl,(oB H (decide_eq_false g0) .nil)⟩
theorem jx_z_0 (la:List HV) (H:Heap) (j:Nat):RT polM 69 (sub [1,1] B69) (env69 (.imm .arg 1 la) (.func 68 [] []) (.i 0) Ud (.i (la.length:Int)) (.i (j:Int))) H .ret (env69 (.imm .arg 1 la) (.func 68 [] []) (.i (-1)) Ud (.i (la.length:Int)) (.i (j:Int))) H :=
  RunsTo.hin 0 60 [] fun kf hk=>⟨_,by kernel_rfl,.nil⟩
noncomputable def B47:Code:=Try.f47.body.getD .skip
abbrev env47 (v0 v1 v4:HV):Env:=[(0,v0),(1,v1),(4,v4)]
theorem cf_0 (N:Nat) (la:List HV) (H:Heap) (r:Int) (H0:Heap) (g0:∀ kf,N ≤ kf → callN Tp polM (kf+1) 69 [.imm .arg 1 la,.func 68 [] []] H=some (.i r,H0)) (g1:0 ≤ r):RT polM 47 (sub [] B47) [(0,.imm .arg 1 la),(1,.func 68 [] [])] H .ret (env47 (.imm .arg 1 la) (.func 68 [] []) (.bool true)) H0 :=
  RunsTo.hin N 60 [⟨1,2,.i r,H0⟩,⟨1,3,.bool true,H0⟩] fun kf hk=>⟨_,by kernel_rfl,(oC (g0 kf (by omega)) (oB H0 (decide_eq_true g1) .nil))⟩
theorem cf_1 (N:Nat) (la:List HV) (H:Heap) (r:Int) (H0:Heap) (g0:∀ kf,N ≤ kf → callN Tp polM (kf+1) 69 [.imm .arg 1 la,.func 68 [] []] H=some (.i r,H0)) (g1:¬ (0 ≤ r)):RT polM 47 (sub [] B47) [(0,.imm .arg 1 la),(1,.func 68 [] [])] H .ret (env47 (.imm .arg 1 la) (.func 68 [] []) (.bool false)) H0 :=
  RunsTo.hin N 60 [⟨1,2,.i r,H0⟩,⟨1,3,.bool false,H0⟩] fun kf hk=>⟨_,by kernel_rfl,(oC (g0 kf (by omega)) (oB H0 (decide_eq_false g1) .nil))⟩
noncomputable def B46:Code:=Try.f46.body.getD .skip
abbrev env46 (v0 v2 v4 v5 v6 v7 v8 v13 v14 v15 v29 v30 v31 v36 v37 v38:HV):Env:=[(0,v0),(2,v2),(4,v4),(5,v5),(6,v6),(7,v7),(8,v8),(13,v13),(14,v14),(15,v15),(29,v29),(30,v30),(31,v31),(36,v36),(37,v37),(38,v38)]
theorem im_a_0 (N:Nat) (rw:List HV):RT polM 46 (sub [0] B46) [(0,.imm .arg 1 rw)] [] .normal (env46 (.imm .arg 1 rw) (.bool false) Ud Ud Ud Ud Ud Ud Ud Ud Ud Ud Ud Ud Ud Ud) [] :=
  RunsTo.hin N 60 [] fun kf hk=>⟨_,by kernel_rfl,.nil⟩
theorem im_b_0 (N:Nat) (rw:List HV)(g0:(1:Int) ≤ (rw.length:Int)∧(rw.length:Int) ≤ (11:Int)):RT polM 46 (sub [1,0] B46) (env46 (.imm .arg 1 rw) (.bool false) Ud Ud Ud Ud Ud Ud Ud Ud Ud Ud Ud Ud Ud Ud) [] .normal (env46 (.imm .arg 1 rw) (.bool false) Ud Ud Ud Ud Ud Ud Ud Ud Ud Ud Ud Ud Ud Ud) [] :=
  RunsTo.hin N 60 [⟨1,2,.bool true,[]⟩] fun kf hk=>⟨_,by kernel_rfl,(oB [] (decide_eq_true g0) .nil)⟩
theorem im_b_1 (N:Nat) (rw:List HV)(g0:¬ ((1:Int) ≤ (rw.length:Int)∧(rw.length:Int) ≤ (11:Int))):RT polM 46 (sub [1,0] B46) (env46 (.imm .arg 1 rw) (.bool false) Ud Ud Ud Ud Ud Ud Ud Ud Ud Ud Ud Ud Ud Ud) [] .ret (env46 (.imm .arg 1 rw) (.bool false) Ud Ud Ud Ud Ud Ud Ud Ud Ud Ud Ud Ud Ud Ud) [] :=
  RunsTo.hin N 60 [⟨1,2,.bool false,[]⟩] fun kf hk=>⟨_,by kernel_rfl,(oB [] (decide_eq_false g0) .nil)⟩
theorem im_c_0 (N:Nat) (rw:List HV):RT polM 46 (sub [1,1,0,0] B46) (env46 (.imm .arg 1 rw) (.bool false) Ud Ud Ud Ud Ud Ud Ud Ud Ud Ud Ud Ud Ud Ud) [] .normal (env46 (.imm .arg 1 rw) (.bool false) Ud Ud Ud Ud Ud (.imm .arg 1 rw) (.i (rw.length:Int)) (.i 0) Ud Ud Ud Ud Ud Ud) [] :=
  RunsTo.hin N 60 [] fun kf hk=>⟨_,by kernel_rfl,.nil⟩
theorem im_l_0 (N:Nat) (rw:List HV) (i:Nat) (H:Heap) (la:List HV) (l0:List HV) (H0:Heap) (g0:(i:Int) < (rw.length:Int)) (g1:idxV Tp 22 (.imm .arg 1 rw) (.i (i:Int))=some (.vptr (.imm .arg 1 l0))) (g2:(l0.length:Int)=(rw.length:Int)) (g3:∀ kf,N ≤ kf → callN Tp polM (kf+1) 47 [.imm .arg 1 l0,.func 68 [] []] H=some (.bool true,H0)):RT polM 46 (sub [1,1,0,1,0,0] B46) (env46 (.imm .arg 1 rw) (.bool false) Ud Ud Ud Ud Ud (.imm .arg 1 rw) (.i (rw.length:Int)) (.i (i:Int)) Ud Ud Ud Ud Ud Ud) H .ret (env46 (.imm .arg 1 rw) (.bool false) (.imm .arg 1 l0) Ud Ud Ud Ud (.imm .arg 1 rw) (.i (rw.length:Int)) (.i (i:Int)) Ud Ud Ud Ud Ud Ud) H0 :=
  RunsTo.hin N 60 [⟨4,0,.bool true,H⟩,⟨5,0,.vptr (.imm .arg 1 l0),H⟩,⟨6,4,.bool false,H⟩,⟨6,7,.bool true,H0⟩] fun kf hk=>⟨_,by kernel_rfl,(oB H (decide_eq_true g0) (oP H g1 (oB H (congrArg not (decide_eq_true g2)) (oC (g3 kf (by omega)) .nil))))⟩
theorem im_l_1 (N:Nat) (rw:List HV) (i:Nat) (H:Heap) (la:List HV) (l0:List HV) (H0:Heap) (g0:(i:Int) < (rw.length:Int)) (g1:idxV Tp 22 (.imm .arg 1 rw) (.i (i:Int))=some (.vptr (.imm .arg 1 l0))) (g2:(l0.length:Int)=(rw.length:Int)) (g3:∀ kf,N ≤ kf → callN Tp polM (kf+1) 47 [.imm .arg 1 l0,.func 68 [] []] H=some (.bool false,H0)):RT polM 46 (sub [1,1,0,1,0,0] B46) (env46 (.imm .arg 1 rw) (.bool false) Ud Ud Ud Ud Ud (.imm .arg 1 rw) (.i (rw.length:Int)) (.i (i:Int)) Ud Ud Ud Ud Ud Ud) H .normal (env46 (.imm .arg 1 rw) (.bool false) (.imm .arg 1 l0) Ud Ud Ud Ud (.imm .arg 1 rw) (.i (rw.length:Int)) (.i (IntKind.i64.wrap ((i:Int)+1))) Ud Ud Ud Ud Ud Ud) H0 :=
  RunsTo.hin N 60 [⟨4,0,.bool true,H⟩,⟨5,0,.vptr (.imm .arg 1 l0),H⟩,⟨6,4,.bool false,H⟩,⟨6,7,.bool false,H0⟩] fun kf hk=>⟨_,by kernel_rfl,(oB H (decide_eq_true g0) (oP H g1 (oB H (congrArg not (decide_eq_true g2)) (oC (g3 kf (by omega)) .nil))))⟩
theorem im_l_2 (N:Nat) (rw:List HV) (i:Nat) (H:Heap) (la:List HV) (l0:List HV) (g0:(i:Int) < (rw.length:Int)) (g1:idxV Tp 22 (.imm .arg 1 rw) (.i (i:Int))=some (.vptr (.imm .arg 1 l0))) (g2:¬ ((l0.length:Int)=(rw.length:Int))):RT polM 46 (sub [1,1,0,1,0,0] B46) (env46 (.imm .arg 1 rw) (.bool false) Ud Ud Ud Ud Ud (.imm .arg 1 rw) (.i (rw.length:Int)) (.i (i:Int)) Ud Ud Ud Ud Ud Ud) H .ret (env46 (.imm .arg 1 rw) (.bool false) (.imm .arg 1 l0) Ud Ud Ud Ud (.imm .arg 1 rw) (.i (rw.length:Int)) (.i (i:Int)) Ud Ud Ud Ud Ud Ud) H :=
  RunsTo.hin N 60 [⟨4,0,.bool true,H⟩,⟨5,0,.vptr (.imm .arg 1 l0),H⟩,⟨6,4,.bool true,H⟩] fun kf hk=>⟨_,by kernel_rfl,(oB H (decide_eq_true g0) (oP H g1 (oB H (congrArg not (decide_eq_false g2)) .nil)))⟩
theorem im_l_3 (N:Nat) (rw:List HV) (i:Nat) (H:Heap) (la:List HV)(g0:¬ ((i:Int) < (rw.length:Int))):RT polM 46 (sub [1,1,0,1,0,0] B46) (env46 (.imm .arg 1 rw) (.bool false) Ud Ud Ud Ud Ud (.imm .arg 1 rw) (.i (rw.length:Int)) (.i (i:Int)) Ud Ud Ud Ud Ud Ud) H (.exit 0) (env46 (.imm .arg 1 rw) (.bool false) Ud Ud Ud Ud Ud (.imm .arg 1 rw) (.i (rw.length:Int)) (.i (i:Int)) Ud Ud Ud Ud Ud Ud) H :=
  RunsTo.hin N 60 [⟨4,0,.bool false,H⟩] fun kf hk=>⟨_,by kernel_rfl,(oB H (decide_eq_false g0) .nil)⟩
theorem im_d_0 (N:Nat) (rw:List HV) (i:Nat) (H:Heap) (v4:HV):RT polM 46 (sub [1,1,1,0,0] B46) (env46 (.imm .arg 1 rw) (.bool false) v4 Ud Ud Ud Ud (.imm .arg 1 rw) (.i (rw.length:Int)) (.i (i:Int)) Ud Ud Ud Ud Ud Ud) H .normal (env46 (.imm .arg 1 rw) (.bool false) v4 Ud Ud Ud Ud (.imm .arg 1 rw) (.i (rw.length:Int)) (.i (i:Int)) (.imm .arg 1 rw) (.i (rw.length:Int)) (.i 0) Ud Ud Ud) H :=
  RunsTo.hin N 60 [] fun kf hk=>⟨_,by kernel_rfl,.nil⟩
theorem im_e_0 (N:Nat) (rw:List HV) (i:Nat) (H:Heap)(g0:(i:Int) < (rw.length:Int)):RunsTo Tp polM 46 (sub [1,1,1,0,1,0,0,0] B46) (env46 (.imm .arg 1 rw) (.bool false) Ud Ud Ud Ud Ud Ud Ud Ud (.imm .arg 1 rw) (.i (rw.length:Int)) (.i (i:Int)) Ud Ud Ud) H .normal [0,2,4,5,6,7,8,13,14,15,29,30,31,36,37,38,32] [(0,.imm .arg 1 rw),(2,.bool false),(4,Ud),(5,Ud),(6,Ud),(7,Ud),(8,Ud),(13,Ud),(14,Ud),(15,Ud),(29,.imm .arg 1 rw),(30,.i (rw.length:Int)),(31,.i (i:Int)),(36,Ud),(37,Ud),(38,Ud),(32,.bool true)] H :=
  RunsTo.hin N 60 [⟨10,0,.bool true,H⟩] fun kf hk=>⟨_,by kernel_rfl,(oB H (decide_eq_true g0) .nil)⟩
theorem im_e_1 (N:Nat) (rw:List HV) (i:Nat) (H:Heap)(g0:¬ ((i:Int) < (rw.length:Int))):RunsTo Tp polM 46 (sub [1,1,1,0,1,0,0,0] B46) (env46 (.imm .arg 1 rw) (.bool false) Ud Ud Ud Ud Ud Ud Ud Ud (.imm .arg 1 rw) (.i (rw.length:Int)) (.i (i:Int)) Ud Ud Ud) H .normal [0,2,4,5,6,7,8,13,14,15,29,30,31,36,37,38,32] [(0,.imm .arg 1 rw),(2,.bool false),(4,Ud),(5,Ud),(6,Ud),(7,Ud),(8,Ud),(13,Ud),(14,Ud),(15,Ud),(29,.imm .arg 1 rw),(30,.i (rw.length:Int)),(31,.i (i:Int)),(36,Ud),(37,Ud),(38,Ud),(32,.bool false)] H :=
  RunsTo.hin N 60 [⟨10,0,.bool false,H⟩] fun kf hk=>⟨_,by kernel_rfl,(oB H (decide_eq_false g0) .nil)⟩
theorem im_ft_0 (N:Nat) (rw:List HV) (i:Nat) (H:Heap):RT polM 46 (sub [1,1,1,0,1,0,0,1,0] B46) [(0,.imm .arg 1 rw),(2,.bool false),(4,Ud),(5,Ud),(6,Ud),(7,Ud),(8,Ud),(13,Ud),(14,Ud),(15,Ud),(29,.imm .arg 1 rw),(30,.i (rw.length:Int)),(31,.i (i:Int)),(36,Ud),(37,Ud),(38,Ud),(32,.bool true)] H .normal (env46 (.imm .arg 1 rw) (.bool false) Ud Ud Ud Ud Ud Ud Ud Ud (.imm .arg 1 rw) (.i (rw.length:Int)) (.i (i:Int)) Ud Ud Ud) H :=
  RunsTo.hin N 60 [] fun kf hk=>⟨_,by kernel_rfl,.nil⟩
theorem im_ff_0 (N:Nat) (rw:List HV) (i:Nat) (H:Heap):RT polM 46 (sub [1,1,1,0,1,0,0,1,0] B46) [(0,.imm .arg 1 rw),(2,.bool false),(4,Ud),(5,Ud),(6,Ud),(7,Ud),(8,Ud),(13,Ud),(14,Ud),(15,Ud),(29,.imm .arg 1 rw),(30,.i (rw.length:Int)),(31,.i (i:Int)),(36,Ud),(37,Ud),(38,Ud),(32,.bool false)] H (.exit 2) (env46 (.imm .arg 1 rw) (.bool false) Ud Ud Ud Ud Ud Ud Ud Ud (.imm .arg 1 rw) (.i (rw.length:Int)) (.i (i:Int)) Ud Ud Ud) H :=
  RunsTo.hin N 60 [] fun kf hk=>⟨_,by kernel_rfl,.nil⟩
theorem im_g_0 (N:Nat) (rw:List HV) (i:Nat) (H:Heap) (la:List HV) (l0:List HV) (g0:idxV Tp 22 (.imm .arg 1 rw) (.i (i:Int))=some (.vptr (.imm .arg 1 l0))):RT polM 46 (sub [1,1,1,0,1,0,0,1,1,0,0,0] B46) (env46 (.imm .arg 1 rw) (.bool false) Ud Ud Ud Ud Ud Ud Ud Ud (.imm .arg 1 rw) (.i (rw.length:Int)) (.i (i:Int)) Ud Ud Ud) H .normal (env46 (.imm .arg 1 rw) (.bool false) Ud (.i (i:Int)) (.imm .arg 1 l0) Ud Ud Ud Ud Ud (.imm .arg 1 rw) (.i (rw.length:Int)) (.i (i:Int)) Ud Ud Ud) H :=
  RunsTo.hin N 60 [⟨11,1,.vptr (.imm .arg 1 l0),H⟩] fun kf hk=>⟨_,by kernel_rfl,(oP H g0 .nil)⟩
theorem im_h_0 (N:Nat) (rw:List HV) (i:Nat) (H:Heap) (la:List HV):RT polM 46 (sub [1,1,1,0,1,0,0,1,1,0,0,1,0] B46) (env46 (.imm .arg 1 rw) (.bool false) Ud (.i (i:Int)) (.imm .arg 1 la) Ud Ud Ud Ud Ud (.imm .arg 1 rw) (.i (rw.length:Int)) (.i (i:Int)) Ud Ud Ud) H .normal (env46 (.imm .arg 1 rw) (.bool false) Ud (.i (i:Int)) (.imm .arg 1 la) Ud Ud Ud Ud Ud (.imm .arg 1 rw) (.i (rw.length:Int)) (.i (i:Int)) (.imm .arg 1 la) (.i (la.length:Int)) (.i 0)) H :=
  RunsTo.hin N 60 [] fun kf hk=>⟨_,by kernel_rfl,.nil⟩
theorem im_k_0 (N:Nat) (rw:List HV) (i:Nat) (H:Heap) (la:List HV) (j:Nat) (x0:Int) (l0:List HV) (x1:Int) (g0:(j:Int) < (la.length:Int)) (g1:idxV Tp 23 (.imm .arg 1 la) (.i (j:Int))=some (.vptr (.i x0))) (g2:idxV Tp 22 (.imm .arg 1 rw) (.i (j:Int))=some (.vptr (.imm .arg 1 l0))) (g3:idxV Tp 23 (.imm .arg 1 l0) (.i (i:Int))=some (.vptr (.i x1))) (g4:x0=x1) (g5:(i:Int)=(j:Int)) (g6:x0=0):RT polM 46 (sub [1,1,1,0,1,0,0,1,1,0,0,1,1,0,0] B46) (env46 (.imm .arg 1 rw) (.bool false) Ud (.i (i:Int)) Ud Ud Ud Ud Ud Ud (.imm .arg 1 rw) (.i (rw.length:Int)) (.i (i:Int)) (.imm .arg 1 la) (.i (la.length:Int)) (.i (j:Int))) H .normal (env46 (.imm .arg 1 rw) (.bool false) Ud (.i (i:Int)) Ud (.i (j:Int)) (.i x0) Ud Ud Ud (.imm .arg 1 rw) (.i (rw.length:Int)) (.i (i:Int)) (.imm .arg 1 la) (.i (la.length:Int)) (.i (IntKind.i64.wrap ((j:Int)+1)))) H :=
  RunsTo.hin N 60 [⟨13,0,.bool true,H⟩,⟨14,1,.vptr (.i x0),H⟩,⟨15,3,.vptr (.imm .arg 1 l0),H⟩,⟨15,6,.vptr (.i x1),H⟩,⟨15,8,.bool false,H⟩,⟨15,12,.bool true,H⟩,⟨15,15,.bool false,H⟩] fun kf hk=>⟨_,by kernel_rfl,(oB H (decide_eq_true g0) (oP H g1 (oP H g2 (oP H g3 (oB H (congrArg not (decide_eq_true g4)) (oB H (decide_eq_true g5) (oB H (congrArg not (decide_eq_true g6)) .nil)))))))⟩
theorem im_k_1 (N:Nat) (rw:List HV) (i:Nat) (H:Heap) (la:List HV) (j:Nat) (x0:Int) (l0:List HV) (x1:Int) (g0:(j:Int) < (la.length:Int)) (g1:idxV Tp 23 (.imm .arg 1 la) (.i (j:Int))=some (.vptr (.i x0))) (g2:idxV Tp 22 (.imm .arg 1 rw) (.i (j:Int))=some (.vptr (.imm .arg 1 l0))) (g3:idxV Tp 23 (.imm .arg 1 l0) (.i (i:Int))=some (.vptr (.i x1))) (g4:x0=x1) (g5:(i:Int)=(j:Int)) (g6:¬ (x0=0)):RT polM 46 (sub [1,1,1,0,1,0,0,1,1,0,0,1,1,0,0] B46) (env46 (.imm .arg 1 rw) (.bool false) Ud (.i (i:Int)) Ud Ud Ud Ud Ud Ud (.imm .arg 1 rw) (.i (rw.length:Int)) (.i (i:Int)) (.imm .arg 1 la) (.i (la.length:Int)) (.i (j:Int))) H .ret (env46 (.imm .arg 1 rw) (.bool false) Ud (.i (i:Int)) Ud (.i (j:Int)) (.i x0) Ud Ud Ud (.imm .arg 1 rw) (.i (rw.length:Int)) (.i (i:Int)) (.imm .arg 1 la) (.i (la.length:Int)) (.i (j:Int))) H :=
  RunsTo.hin N 60 [⟨13,0,.bool true,H⟩,⟨14,1,.vptr (.i x0),H⟩,⟨15,3,.vptr (.imm .arg 1 l0),H⟩,⟨15,6,.vptr (.i x1),H⟩,⟨15,8,.bool false,H⟩,⟨15,12,.bool true,H⟩,⟨15,15,.bool true,H⟩] fun kf hk=>⟨_,by kernel_rfl,(oB H (decide_eq_true g0) (oP H g1 (oP H g2 (oP H g3 (oB H (congrArg not (decide_eq_true g4)) (oB H (decide_eq_true g5) (oB H (congrArg not (decide_eq_false g6)) .nil)))))))⟩
theorem im_k_2 (N:Nat) (rw:List HV) (i:Nat) (H:Heap) (la:List HV) (j:Nat) (x0:Int) (l0:List HV) (x1:Int) (g0:(j:Int) < (la.length:Int)) (g1:idxV Tp 23 (.imm .arg 1 la) (.i (j:Int))=some (.vptr (.i x0))) (g2:idxV Tp 22 (.imm .arg 1 rw) (.i (j:Int))=some (.vptr (.imm .arg 1 l0))) (g3:idxV Tp 23 (.imm .arg 1 l0) (.i (i:Int))=some (.vptr (.i x1))) (g4:x0=x1) (g5:¬ ((i:Int)=(j:Int))):RT polM 46 (sub [1,1,1,0,1,0,0,1,1,0,0,1,1,0,0] B46) (env46 (.imm .arg 1 rw) (.bool false) Ud (.i (i:Int)) Ud Ud Ud Ud Ud Ud (.imm .arg 1 rw) (.i (rw.length:Int)) (.i (i:Int)) (.imm .arg 1 la) (.i (la.length:Int)) (.i (j:Int))) H .normal (env46 (.imm .arg 1 rw) (.bool false) Ud (.i (i:Int)) Ud (.i (j:Int)) (.i x0) Ud Ud Ud (.imm .arg 1 rw) (.i (rw.length:Int)) (.i (i:Int)) (.imm .arg 1 la) (.i (la.length:Int)) (.i (IntKind.i64.wrap ((j:Int)+1)))) H :=
  RunsTo.hin N 60 [⟨13,0,.bool true,H⟩,⟨14,1,.vptr (.i x0),H⟩,⟨15,3,.vptr (.imm .arg 1 l0),H⟩,⟨15,6,.vptr (.i x1),H⟩,⟨15,8,.bool false,H⟩,⟨15,12,.bool false,H⟩] fun kf hk=>⟨_,by kernel_rfl,(oB H (decide_eq_true g0) (oP H g1 (oP H g2 (oP H g3 (oB H (congrArg not (decide_eq_true g4)) (oB H (decide_eq_false g5) .nil))))))⟩
theorem im_k_3 (N:Nat) (rw:List HV) (i:Nat) (H:Heap) (la:List HV) (j:Nat) (x0:Int) (l0:List HV) (x1:Int) (g0:(j:Int) < (la.length:Int)) (g1:idxV Tp 23 (.imm .arg 1 la) (.i (j:Int))=some (.vptr (.i x0))) (g2:idxV Tp 22 (.imm .arg 1 rw) (.i (j:Int))=some (.vptr (.imm .arg 1 l0))) (g3:idxV Tp 23 (.imm .arg 1 l0) (.i (i:Int))=some (.vptr (.i x1))) (g4:¬ (x0=x1)):RT polM 46 (sub [1,1,1,0,1,0,0,1,1,0,0,1,1,0,0] B46) (env46 (.imm .arg 1 rw) (.bool false) Ud (.i (i:Int)) Ud Ud Ud Ud Ud Ud (.imm .arg 1 rw) (.i (rw.length:Int)) (.i (i:Int)) (.imm .arg 1 la) (.i (la.length:Int)) (.i (j:Int))) H .ret (env46 (.imm .arg 1 rw) (.bool false) Ud (.i (i:Int)) Ud (.i (j:Int)) (.i x0) Ud Ud Ud (.imm .arg 1 rw) (.i (rw.length:Int)) (.i (i:Int)) (.imm .arg 1 la) (.i (la.length:Int)) (.i (j:Int))) H :=
  RunsTo.hin N 60 [⟨13,0,.bool true,H⟩,⟨14,1,.vptr (.i x0),H⟩,⟨15,3,.vptr (.imm .arg 1 l0),H⟩,⟨15,6,.vptr (.i x1),H⟩,⟨15,8,.bool true,H⟩] fun kf hk=>⟨_,by kernel_rfl,(oB H (decide_eq_true g0) (oP H g1 (oP H g2 (oP H g3 (oB H (congrArg not (decide_eq_false g4)) .nil)))))⟩
theorem im_k_4 (N:Nat) (rw:List HV) (i:Nat) (H:Heap) (la:List HV) (j:Nat)(g0:¬ ((j:Int) < (la.length:Int))):RT polM 46 (sub [1,1,1,0,1,0,0,1,1,0,0,1,1,0,0] B46) (env46 (.imm .arg 1 rw) (.bool false) Ud (.i (i:Int)) Ud Ud Ud Ud Ud Ud (.imm .arg 1 rw) (.i (rw.length:Int)) (.i (i:Int)) (.imm .arg 1 la) (.i (la.length:Int)) (.i (j:Int))) H (.exit 4) (env46 (.imm .arg 1 rw) (.bool false) Ud (.i (i:Int)) Ud Ud Ud Ud Ud Ud (.imm .arg 1 rw) (.i (rw.length:Int)) (.i (i:Int)) (.imm .arg 1 la) (.i (la.length:Int)) (.i (j:Int))) H :=
  RunsTo.hin N 60 [⟨13,0,.bool false,H⟩] fun kf hk=>⟨_,by kernel_rfl,(oB H (decide_eq_false g0) .nil)⟩
theorem im_n_0 (N:Nat) (rw:List HV) (i:Nat) (H:Heap) (la:List HV) (j:Nat):RT polM 46 (sub [1,1,1,0,1,0,0,1,1,1] B46) (env46 (.imm .arg 1 rw) (.bool false) Ud (.i (i:Int)) Ud Ud Ud Ud Ud Ud (.imm .arg 1 rw) (.i (rw.length:Int)) (.i (i:Int)) (.imm .arg 1 la) (.i (la.length:Int)) (.i (j:Int))) H .normal (env46 (.imm .arg 1 rw) (.bool false) Ud (.i (i:Int)) Ud Ud Ud Ud Ud Ud (.imm .arg 1 rw) (.i (rw.length:Int)) (.i (IntKind.i64.wrap ((i:Int)+1))) (.imm .arg 1 la) (.i (la.length:Int)) (.i (j:Int))) H :=
  RunsTo.hin N 60 [] fun kf hk=>⟨_,by kernel_rfl,.nil⟩
theorem im_z_0 (N:Nat) (rw:List HV) (i:Nat) (H:Heap):RT polM 46 (sub [1,1,1,1] B46) (env46 (.imm .arg 1 rw) (.bool false) Ud Ud Ud Ud Ud Ud Ud Ud (.imm .arg 1 rw) (.i (rw.length:Int)) (.i (i:Int)) Ud Ud Ud) H .ret (env46 (.imm .arg 1 rw) (.bool true) Ud Ud Ud Ud Ud Ud Ud Ud (.imm .arg 1 rw) (.i (rw.length:Int)) (.i (i:Int)) Ud Ud Ud) H :=
  RunsTo.hin N 60 [] fun kf hk=>⟨_,by kernel_rfl,.nil⟩
end Go.Proofs.Ytlendaofkmhgmaa
end
section
open Go Go.HL
namespace Go.Proofs.Ytlendaofkmhgmaa
open Go.Proofs.Try renaming prog → Tp
open Go.HL.HV renaming undef → Ud
theorem soundW (n:Nat):CallSound Tp (callN Tp polW n):=sound_prim _ (fun g f h=>by
  split at h
  · rename_i hg; cases h; rw [eq_of_beq hg]; exact within_ok
  · cases h) n
theorem res68:Try.f68.results.toList=[.tmp 2]:=by kernel_rfl
theorem mile_ok:PrimOk Tp 68 mile68:=by
  refine primOk_pure (pol:=polW) (fn:=Try.f68) (cd:=B68) follows_mixed soundW (by kernel_rfl) (by kernel_rfl) (fnok polW.prim _ _ (by kernel_rfl)) (by kernel_rfl) ?_
  intro args res h
  unfold mile68 at h
  split at h
  · rename_i n
    cases h
    by_cases g:(0:Int) ≤ n∧n ≤ 1000
    · exact ⟨_,_,_,.bool false,m1_0 n g,by simp,by simp only [resultsV,res68]; rfl,by rw [decide_eq_true g]; rfl⟩
    · exact ⟨_,_,_,.bool true,m1_1 n g,by simp,by simp only [resultsV,res68]; rfl,by rw [decide_eq_false g]; rfl⟩
  · cases h
theorem soundM (n:Nat):CallSound Tp (callN Tp polM n):=sound_prim _ (fun g f h=>by
  split at h
  · rename_i hg; cases h; rw [eq_of_beq hg]; exact within_ok
  split at h
  · rename_i hg; cases h; rw [eq_of_beq hg]; exact mile_ok
  · cases h) n
theorem CallsTo.shared {P:Program} {pol:Pol} {g:FuncId} {fn:Func} {cd:Code} {args:List HV} {x:X} {E:Env} {H H':Heap} {v:HV} (hp:pol.prim g=none) (hf:P.funcs[g]?=some fn) (hb:fn.body=some cd) (hs:pol.shared g=true)
    (hrun:RunsTo P pol g cd (args0 args) H x (pol.keys g) E H') (hres:(fn.results.toList.all fun r=>match r with | .tmp t=>(pol.keys g).contains t | .cell t _=>(pol.keys g).contains t)=true) (hx:∀ i,x ≠ .exit i) (hv:resultsV P fn E H'=some v) :
    CallsTo (P:=P) (pol:=pol) g args H v (gc H.length (bnd v) H'):=by
  obtain ⟨m,h⟩:=hrun
  refine ⟨m+1,fun k hk=>?_⟩
  obtain ⟨k,rfl⟩:∃ n',k=n'+1:=⟨k - 1,by omega⟩
  obtain ⟨e1,g1,g2⟩:=h k k (by omega) (by omega)
  subst g2
  rw [resultsV_restr hres] at hv
  simp only [callN,doCall,hp,hf,hb,hs,if_true,sharedCall,g1]
  cases x with
  | exit i=>exact absurd rfl (hx i)
  | normal=>simp only [hv]
  | ret=>simp only [hv]
theorem CallsTo.from {pol:Pol} {g:FuncId} {args:List HV} {H H':Heap} {r:HV} (h:CallsTo (P:=Tp) (pol:=pol) g args H r H'):∃ N,∀ kf,N ≤ kf → callN Tp pol (kf+1) g args H=some (r,H'):=by
  obtain ⟨m,h⟩:=h
  exact ⟨m,fun kf hk=>h (kf+1) (by omega)⟩
theorem res69:Try.f69.results.toList=[.tmp 4]:=by kernel_rfl
theorem res47:Try.f47.results.toList=[.tmp 4]:=by kernel_rfl
abbrev jxE (l:List Int) (j:Nat):Env:=env69 (.imm .arg 1 (l.map encI)) (.func 68 [] []) (.int .i64 0) Ud (.int .i64 (l.length:Int)) (.int .i64 (j:Int))
def mi (v:Int):Prop:=0 ≤ v∧v ≤ 1000
theorem prim_mile (n:Int) (H:Heap) (b:Bool) (hb:(!decide (0 ≤ n∧n ≤ 1000))=b):∀ k,callN Tp polM (k+1) 68 [.int .i64 n] H=some (.bool b,H):=fun k=>by
  rw [prim_call (pol:=polM) (g:=68) (F:=mile68) (by kernel_rfl) (rs:=[.int .i64 n]) rfl (res:=.bool b) (by rw [← hb]; rfl)]; rfl
theorem jx_loop (l:List Int) (H:Heap) (hl:l.length ≤ 1000):∀ (d j:Nat),j+d=l.length →
    ∃ x E r,RT polM 69 (sub [1,0,1,0] B69) (jxE l j) H x E H ∧
      (((∀ v,v ∈ l.drop j → mi v)∧x=.exit 0∧E=jxE l l.length) ∨ (x=.ret∧E.get 4=.int .i64 r∧0 ≤ r∧¬ ∀ v,v ∈ l.drop j → mi v)):=by
  intro d
  induction d with
  | zero =>
    intro j hj
    have hj:j=l.length:=by omega
    subst hj
    have s1:=jx_l_2 (l.map encI) H l.length (by simp)
    rw [List.length_map] at s1
    exact ⟨_,_,0,lpo s1,.inl ⟨by simp,rfl,rfl⟩⟩
  | succ d ih =>
    intro j hj
    have hjl:j < l.length:=by omega
    have g1:=gx hjl
    rw [getD_at hjl] at g1
    rw [List.drop_eq_getElem_cons hjl]
    by_cases he:0 ≤ l[j]∧l[j] ≤ 1000
    · obtain ⟨x,E,r,h1,h2⟩:=ih (j+1) (by omega)
      have s1:=jx_l_1 (l.map encI) H j _ H (by simp; omega) g1 (prim_mile _ H false (by rw [decide_eq_true he]; rfl))
      rw [wrap_succ (by omega),List.length_map] at s1
      refine ⟨x,E,r,lop s1 (gc_eq _ rfl) h1,?_⟩
      rcases h2 with ⟨k1,k2,k3⟩ | ⟨k1,k2,k3,k4⟩
      · exact .inl ⟨fun v hv=>by
          rcases List.mem_cons.1 hv with rfl | hv
          · exact he
          · exact k1 v hv,k2,k3⟩
      · exact .inr ⟨k1,k2,k3,fun h=>k4 fun v hv=>h v (List.mem_cons_of_mem _ hv)⟩
    · have s1:=jx_l_0 (l.map encI) H j _ H (by simp; omega) g1 (prim_mile _ H true (by rw [decide_eq_false he]; rfl))
      rw [List.length_map] at s1
      exact ⟨_,_,(j:Int),lpo s1,.inr ⟨rfl,rfl,by omega,fun h=>he (h _ List.mem_cons_self)⟩⟩
theorem jx_call (l:List Int) (H:Heap) (hl:l.length ≤ 1000):∃ r,CallsTo (P:=Tp) (pol:=polM) 69 [.imm .arg 1 (l.map encI),.func 68 [] []] H (.int .i64 r) H∧(0 ≤ r ↔ ¬ ∀ v,v ∈ l → mi v):=by
  have a1:=jx_a_0 (l.map encI) H
  have b1:=jx_b_0 (l.map encI) H
  rw [List.length_map] at b1
  obtain ⟨x,E,r,h1,h2⟩:=jx_loop l H hl l.length 0 (by omega)
  rw [List.drop_zero] at h2
  rcases h2 with ⟨k1,rfl,rfl⟩ | ⟨rfl,k2,k3,k4⟩
  · have t1:=sq b1 (bke (c:=sub [1,0,1] B69) h1) (c:=sub [1,0] B69)
    have z1:=jx_z_0 (l.map encI) H l.length
    rw [List.length_map] at z1
    have t2:=sq a1 (sq t1 z1 (c:=sub [1] B69)) (c:=B69)
    have:=CallsTo.shared (P:=Tp) (pol:=polM) (g:=69) (fn:=Try.f69) (cd:=B69) (args:=[.imm .arg 1 (l.map encI),.func 68 [] []]) (v:=.int .i64 (-1)) (by kernel_rfl) (by kernel_rfl) (by kernel_rfl) (by kernel_rfl) t2 (by kernel_rfl) (by simp) (by simp only [resultsV,res69]; rfl)
    rw [gc_eq _ rfl] at this
    exact ⟨-1,this,fun h=>absurd h (by omega),fun h=>absurd k1 h⟩
  · have t1:=sq b1 (RunsTo.block_ret (c:=sub [1,0,1] B69) (i:=0) h1 (by kernel_rfl)) (c:=sub [1,0] B69)
    have t2:=sq a1 (sqo t1 (c:=sub [1] B69) (b:=sub [1,1] B69)) (c:=B69)
    have:=CallsTo.shared (P:=Tp) (pol:=polM) (g:=69) (fn:=Try.f69) (cd:=B69) (args:=[.imm .arg 1 (l.map encI),.func 68 [] []]) (v:=.int .i64 r) (by kernel_rfl) (by kernel_rfl) (by kernel_rfl) (by kernel_rfl) t2 (by kernel_rfl) (by simp) (by simp only [resultsV,res69,mapO,resultV,k2])
    rw [gc_eq _ rfl] at this
    exact ⟨r,this,by simp only [k3,true_iff]; exact k4⟩
open Classical in
theorem cf_call (l:List Int) (H:Heap) (hl:l.length ≤ 1000):CallsTo (P:=Tp) (pol:=polM) 47 [.imm .arg 1 (l.map encI),.func 68 [] []] H (.bool (decide (¬ ∀ v,v ∈ l → mi v))) H:=by
  obtain ⟨r,hc,hr⟩:=jx_call l H hl
  obtain ⟨N,hN⟩:=CallsTo.from hc
  by_cases h0:0 ≤ r
  · rw [decide_eq_true (hr.1 h0)]
    have:=CallsTo.shared (P:=Tp) (pol:=polM) (g:=47) (fn:=Try.f47) (cd:=B47) (args:=[.imm .arg 1 (l.map encI),.func 68 [] []]) (v:=.bool true) (by kernel_rfl) (by kernel_rfl) (by kernel_rfl) (by kernel_rfl) (cf_0 N (l.map encI) H r H hN h0) (by kernel_rfl) (by simp) (by simp only [resultsV,res47]; rfl)
    rw [gc_eq _ rfl] at this
    exact this
  · rw [decide_eq_false (fun h=>h0 (hr.2 h))]
    have:=CallsTo.shared (P:=Tp) (pol:=polM) (g:=47) (fn:=Try.f47) (cd:=B47) (args:=[.imm .arg 1 (l.map encI),.func 68 [] []]) (v:=.bool false) (by kernel_rfl) (by kernel_rfl) (by kernel_rfl) (by kernel_rfl) (cf_1 N (l.map encI) H r H hN h0) (by kernel_rfl) (by simp) (by simp only [resultsV,res47]; rfl)
    rw [gc_eq _ rfl] at this
    exact this
def rowLen (d:List (List Int)) (i:Nat):Prop:=(d.getD i []).length=d.length
def symAt (d:List (List Int)) (i j:Nat):Prop:=at2 d i j=at2 d j i∧(i=j → at2 d i j=0)
def cellAt (d:List (List Int)) (i j:Nat):Prop:=(0 ≤ at2 d i j∧at2 d i j ≤ 1000)∧symAt d i j
section
variable {d:List (List Int)}
theorem gri' {i:Nat} (hi:i < d.length):idxV Tp 22 (.imm .arg 1 (d.map encR)) (.int .i64 (i:Int))=some (.vptr (.imm .arg 1 ((d.getD i []).map encI))):=gr hi
theorem gat {i j:Nat} (hr:rowLen d i) (hj:j < d.length):idxV Tp 23 (.imm .arg 1 ((d.getD i []).map encI)) (.int .i64 (j:Int))=some (.vptr (.int .i64 (at2 d i j))):=gx (by rw [hr]; exact hj)
end
theorem okD_iff {d:List (List Int)}:okD d ↔ (1 ≤ d.length∧d.length ≤ 11)∧(∀ a,a < d.length → rowLen d a)∧∀ b,b < d.length → ∀ a,a < d.length → cellAt d b a:=Iff.rfl
theorem okB_true {d:List (List Int)} (h:okD d):okB d=true:=by unfold okB; simp [h]
theorem okB_false {d:List (List Int)} (h:¬ okD d):okB d=false:=by unfold okB; simp [h]
end Go.Proofs.Ytlendaofkmhgmaa
end
section
open Go Go.HL
namespace Go.Proofs.Ytlendaofkmhgmaa
open Go.Proofs.Try renaming prog → Tp
open Go.HL.HV renaming undef → Ud
noncomputable def polI:Pol:={ pol with prim:=fun g=>if g == 46 then some miles46 else if g == 56 then some len56 else none }
def recL (x x':Option (HV × Heap)) (H H':Heap):Bool :=
  match x,x' with
  | some (v,H1),some (v',H1')=>same v v' && sameH H1 H && sameH H1' H'
  | _,_=>false
def lkG (P:Program) (T:TypeId) (H:Heap) (b:Nat) (k:HV) (ok:Bool):Option (HV × Heap) :=
  match H[b]? with
  | some (.map ks vs _)=>(lookV P T ks vs k ok).map fun v=>(v,H)
  | _=>none
theorem u82:Tp.underlying 82=some (.map 77 3):=by kernel_rfl
theorem z3q:tyZero Tp 3=some (.int .i64 0):=by kernel_rfl
theorem key77 (p:Int × Int):keyTy Tp 77 (encP p)=true:=by kernel_rfl
theorem a77:tyAgg Tp 77=true:=by kernel_rfl
theorem s77:tySize Tp 77=some 2:=by kernel_rfl
abbrev valT (T:Nat → Nat → Int) (k:Int × Int):HV:=.int .i64 (T k.1.toNat k.2.toNat)
theorem keyEq_pair (p q:Int × Int):keyEq (encP p) (encP q)=some (decide (p=q)):=by
  obtain ⟨a,b⟩:=p
  obtain ⟨c,d⟩:=q
  simp only [encP,keyEq,aggEq,scEq,if_true,Bool.and_true,Prod.mk.injEq]
  by_cases h1:a=c <;> by_cases h2:b=d <;> simp [h1,h2]
theorem findK_pairs (x:Int × Int):∀ (ks:List (Int × Int)) (i:Nat),∃ r,findK (encP x) (ks.map encP) i=some r∧((x ∈ ks∧∃ j,r=some (i+j)∧ks[j]?=some x) ∨ (x ∉ ks∧r=none))
  | [],i=>⟨none,rfl,.inr ⟨by simp,rfl⟩⟩
  | k :: ks,i=>by
    by_cases e:x=k
    · subst e
      refine ⟨some i,?_,.inl ⟨by simp,0,rfl,by simp⟩⟩
      simp only [List.map_cons,findK,keyEq_pair,decide_true]
    · obtain ⟨r,h1,h2⟩:=findK_pairs x ks (i+1)
      refine ⟨r,?_,?_⟩
      · simp only [List.map_cons,findK,keyEq_pair,decide_eq_false e]
        exact h1
      · rcases h2 with ⟨h3,j,h4,h5⟩ | ⟨h3,h4⟩
        · exact .inl ⟨by simp [h3],j+1,by rw [h4]; congr 1; omega,by simpa using h5⟩
        · exact .inr ⟨by simp [h3,e],h4⟩
theorem mxs_le {m:Nat}:∀ {H:Heap},mxs H ≤ m ↔ ∀ B ∈ H,B.mx ≤ m
  | []=>by simp [mxs]
  | B :: H=>by
    have:=mxs_le (m:=m) (H:=H)
    simp only [mxs,List.mem_cons,forall_eq_or_imp,← this]
    omega
theorem sameH_iff:∀ {H:Heap},sameH H H=true ↔ ∀ B ∈ H,sameH [B] [B]=true
  | []=>by simp [sameH]
  | B :: H=>by
    have ih:=sameH_iff (H:=H)
    cases B with
    | arr k els w m=>simp only [sameH,List.forall_mem_cons,← ih,Bool.and_eq_true,and_true,Bool.and_true]
    | map ks vs m=>simp only [sameH,List.forall_mem_cons,← ih,Bool.and_eq_true,and_true,Bool.and_true]
    | dead=>simp only [sameH,List.forall_mem_cons,← ih,true_and]
theorem sameH_set {H:Heap} {B:Blk} {i:Nat} (h:sameH H H=true) (hB:sameH [B] [B]=true):sameH (H.set i B) (H.set i B)=true:=by
  rw [sameH_iff] at h ⊢
  intro C hC
  rcases List.mem_or_eq_of_mem_set hC with hC | rfl
  · exact h C hC
  · exact hB
theorem sameH_app {H:Heap} {B:Blk} (h:sameH H H=true) (hB:sameH [B] [B]=true):sameH (H ++ [B]) (H ++ [B])=true:=by
  rw [sameH_iff] at h ⊢
  intro C hC
  rcases List.mem_append.1 hC with hC | hC
  · exact h C hC
  · rw [List.mem_singleton] at hC; rw [hC]; exact hB
theorem sameH_take {H:Heap} {k:Nat} (h:sameH H H=true):sameH (H.take k) (H.take k)=true:=by
  rw [sameH_iff] at h ⊢
  exact fun C hC=>h C (List.mem_of_mem_take hC)
theorem sameL_all:∀ {l:List HV},(∀ v ∈ l,same v v=true) → sameL l l=true
  | [],_=>rfl
  | v :: l,h=>by simp only [sameL,h v (by simp),sameL_all (l:=l) (fun w hw=>h w (by simp [hw])),Bool.and_self]
theorem same_arr {k m:Nat} {l:List HV} {w:Bool} (h:∀ v ∈ l,same v v=true):sameH [.arr k l w m] [.arr k l w m]=true:=by
  simp [sameH,sameL_all h]
theorem same_bI (l:List Int):sameH [bI l] [bI l]=true:=same_arr fun v hv=>by
  obtain ⟨k,_,rfl⟩:=List.mem_map.1 hv
  simp [encI,same]
theorem same_li (l:List Int):sameL (l.map encI) (l.map encI)=true:=sameL_all fun v hv=>by
  obtain ⟨k,_,rfl⟩:=List.mem_map.1 hv
  simp [encI,same]
theorem same_imm (l:List Int):same (.imm .arg 1 (l.map encI)) (.imm .arg 1 (l.map encI))=true:=by simp [same,same_li]
abbrev boxK (v w:Int):Blk:=.arr 2 [encP (v,w)] true 0
theorem same_box (v w:Int):sameH [boxK v w] [boxK v w]=true:=same_arr fun x hx=>by
  rw [List.mem_singleton] at hx; subst hx
  simp [encP,same,sameL]
structure Mem (T:Nat → Nat → Int) (H:Heap):Prop where
  memo:∃ ks:List (Int × Int),H[0]?=some (.map (ks.map encP) (ks.map (valT T)) 0)
  rf:sameH H H=true
  mx:mxs H ≤ 0
structure Fr (H H':Heap):Prop where
  len:H'.length=H.length
  same:∀ k,k ≠ 0 → H'[k]?=H[k]?
theorem Fr.refl (H:Heap):Fr H H:=⟨rfl,fun _ _=>rfl⟩
theorem Fr.trans {H H' H'':Heap} (h:Fr H H') (h':Fr H' H''):Fr H H'':=⟨h'.len.trans h.len,fun k hk=>(h'.same k hk).trans (h.same k hk)⟩
section
variable {T:Nat → Nat → Int} {H:Heap}
theorem Mem.pos (h:Mem T H):0 < H.length:=by
  obtain ⟨ks,hk⟩:=h.memo
  exact lt_of_get hk
theorem Mem.lk (h:Mem T H) (k:Int × Int):∃ b:Bool,lkG Tp 82 H 0 (encP k) true=some (.tuple [.int .i64 (if b then T k.1.toNat k.2.toNat else 0),.bool b],H)∧(b=true → lkG Tp 82 H 0 (encP k) false=some (valT T k,H)):=by
  obtain ⟨ks,hm⟩:=h.memo
  obtain ⟨r,h1,h2⟩:=findK_pairs k ks 0
  have hk:=key77 k
  have hz:=z3q
  rcases h2 with ⟨h3,j,rfl,h5⟩ | ⟨h3,rfl⟩
  · have hj:(ks.map (valT T))[0+j]?=some (valT T k):=by rw [Nat.zero_add,List.getElem?_map,h5]; rfl
    refine ⟨true,?_,fun _=>?_⟩
    · simp only [lkG,hm,lookV,u82,hk,if_true,h1,hj,Option.map]
    · simp only [lkG,hm,lookV,u82,hk,if_true,h1,hj,Option.map,Bool.false_eq_true,if_false]
  · refine ⟨false,?_,fun h=>absurd h (by simp)⟩
    simp only [lkG,hm,lookV,u82,hk,if_true,h1,hz]
    rfl
theorem same_map (T:Nat → Nat → Int) (ks:List (Int × Int)):sameH [.map (ks.map encP) (ks.map (valT T)) 0] [.map (ks.map encP) (ks.map (valT T)) 0]=true:=by
  have e1:sameL (ks.map encP) (ks.map encP)=true:=sameL_all fun v hv=>by
    obtain ⟨k,_,rfl⟩:=List.mem_map.1 hv
    simp [encP,same,sameL]
  have e2:sameL (ks.map (valT T)) (ks.map (valT T))=true:=sameL_all fun v hv=>by
    obtain ⟨k,_,rfl⟩:=List.mem_map.1 hv
    simp [same]
  simp only [sameH,e1,e2,beq_self_eq_true,Bool.and_self]
theorem Mem.set (h:Mem T H) {k:Nat} {B:Blk} (h1:k ≠ 0) (hB:sameH [B] [B]=true) (hm:B.mx=0):Mem T (H.set k B):=by
  obtain ⟨ks,hk⟩:=h.memo
  refine ⟨⟨ks,by rw [List.getElem?_set_ne (by omega)]; exact hk⟩,sameH_set h.rf hB,?_⟩
  rw [mxs_le]
  intro C hC
  rcases List.mem_or_eq_of_mem_set hC with hC | rfl
  · exact mxs_le.1 h.mx C hC
  · omega
theorem Mem.app (h:Mem T H) {B:Blk} (hB:sameH [B] [B]=true) (hm:B.mx=0):Mem T (H ++ [B]):=by
  obtain ⟨ks,hk⟩:=h.memo
  have h2:=h.pos
  refine ⟨⟨ks,by rw [List.getElem?_append_left (by omega)]; exact hk⟩,sameH_app h.rf hB,?_⟩
  rw [mxs_le]
  intro C hC
  rcases List.mem_append.1 hC with hC | hC
  · exact mxs_le.1 h.mx C hC
  · rw [List.mem_singleton.1 hC]; omega
theorem Mem.take (h:Mem T H) {m:Nat} (h1:0 < m):Mem T (H.take m):=by
  obtain ⟨ks,hk⟩:=h.memo
  refine ⟨⟨ks,by rw [List.getElem?_take,if_pos (by omega)]; exact hk⟩,sameH_take h.rf,?_⟩
  rw [mxs_le]
  intro C hC
  exact mxs_le.1 h.mx C (List.mem_of_mem_take hC)
theorem Mem.gc (h:Mem T H) {b r:Nat}:gc b r H=H.take (max b r):=by
  have:=h.mx
  unfold HL.gc
  congr 1
  omega
theorem Mem.upd (h:Mem T H) (k:Int × Int):∃ H',updV Tp false 82 (.map 0) (encP k) (valT T k) H=some H'∧Mem T H'∧Fr H H'∧lkG Tp 82 H' 0 (encP k) false=some (valT T k,H'):=by
  obtain ⟨ks,hm⟩:=h.memo
  obtain ⟨r,h1,h2⟩:=findK_pairs k ks 0
  have hk:=key77 k
  have h1l:=lt_of_get hm
  have key:∀ ks':List (Int × Int),k ∈ ks' → updV Tp false 82 (.map 0) (encP k) (valT T k) H=some (H.set 0 (.map (ks'.map encP) (ks'.map (valT T)) 0)) → ∃ H',updV Tp false 82 (.map 0) (encP k) (valT T k) H=some H'∧Mem T H'∧Fr H H'∧lkG Tp 82 H' 0 (encP k) false=some (valT T k,H'):=by
    intro ks' hin hu
    have hM:Mem T (H.set 0 (.map (ks'.map encP) (ks'.map (valT T)) 0)):=by
      refine ⟨⟨ks',List.getElem?_set_self h1l⟩,sameH_set h.rf (same_map T ks'),?_⟩
      rw [mxs_le]
      intro C hC
      rcases List.mem_or_eq_of_mem_set hC with hC | rfl
      · exact mxs_le.1 h.mx C hC
      · exact Nat.zero_le _
    have hs:∀ j,j ≠ 0 → (H.set 0 (.map (ks'.map encP) (ks'.map (valT T)) 0))[j]?=H[j]?:=fun j hj=>List.getElem?_set_ne (by omega)
    refine ⟨_,hu,hM,⟨by simp,hs⟩,?_⟩
    obtain ⟨r,h1,h2⟩:=findK_pairs k ks' 0
    rcases h2 with ⟨h3,j,rfl,h5⟩ | ⟨h3,rfl⟩
    · have hj:(ks'.map (valT T))[0+j]?=some (valT T k):=by rw [Nat.zero_add,List.getElem?_map,h5]; rfl
      simp only [lkG,List.getElem?_set_self h1l,lookV,u82,hk,if_true,h1,hj,Option.map,Bool.false_eq_true,if_false]
    · exact absurd hin h3
  rcases h2 with ⟨h3,j,rfl,h5⟩ | ⟨h3,rfl⟩
  · refine key ks h3 ?_
    simp only [updV,u82,hk,if_true,hm,h1,Bool.false_eq_true,if_false]
    have hs:(ks.map (valT T)).set (0+j) (valT T k)=ks.map (valT T):=by
      apply List.ext_getElem?
      intro i
      rw [List.getElem?_set,List.length_map]
      have hjl:=lt_of_get h5
      by_cases e:0+j=i
      · subst e
        rw [if_pos rfl,if_pos (by omega),Nat.zero_add,List.getElem?_map,h5]; rfl
      · rw [if_neg e]
    simp only [hs,bnd,Nat.max_zero]
  · refine key (ks ++ [k]) (by simp) ?_
    have ha:(aggEq (cellsOf (encP k)) (cellsOf (encP k))).isSome=true:=by simp [encP,cellsOf,aggEq,scEq]
    simp only [updV,u82,hk,if_true,hm,h1,ha,Bool.false_eq_true,if_false,bnd,Nat.max_zero,List.map_append,List.map_cons,List.map_nil]
theorem ld_k {v w:Int} {b:Nat} (h:H[b]?=some (boxK v w)):loadV Tp H 77 (.ptr b 0 0 1)=some (encP (v,w)):=load_agg h rfl rfl a77 s77
theorem ld_k0 {v w:Int} {b:Nat} (h:H[b]?=some (boxK v w)):loadV Tp H 3 (.ptr b 0 0 1)=some (.int .i64 v):=load_cell h rfl rfl a3 i3 rfl
theorem ld_k1 {v w:Int} {b:Nat} (h:H[b]?=some (boxK v w)):loadV Tp H 3 (.ptr b 0 1 1)=some (.int .i64 w):=load_cell h rfl rfl a3 i3 rfl
theorem st_k {v w x y:Int} {b:Nat} (h:H[b]?=some (boxK v w)):storeV Tp H 77 (.ptr b 0 0 1) (encP (x,y))=some (H.set b (boxK x y)):=by
  have:=store_agg (P:=Tp) (t:=77) (b:=b) (i:=0) (tot:=1) (new:=[.int .i64 x,.int .i64 y]) h rfl rfl s77 rfl (by simp) rfl rfl
  exact this
theorem new_k (v w:Int) (H:Heap):newV (encP (v,w)) H=(.ptr H.length 0 0 1,H ++ [boxK v w]):=by
  simp only [encP,newV,cellsOf,bnd,bndL,List.length_cons,List.length_nil]
  simp
  rfl
end
def bitsOk:Bool:=(List.range 2048).all fun L=>(List.range 11).all fun v=>decide (IntKind.i64.wrap (BitVec.ofInt IntKind.i64.bits (L:Int) &&& ~~~(BitVec.ofInt IntKind.i64.bits ((2 ^ v:Nat):Int))).toNat=((wo L v:Nat):Int)) && decide (IntKind.i64.wrap (BitVec.ofInt IntKind.i64.bits ((L / 2 ^ v:Nat):Int) &&& (BitVec.ofInt IntKind.i64.bits 1)).toNat=if L.testBit v then 1 else 0)
theorem bitsOk_true:bitsOk=true:=by kernel_rfl
theorem bo_andn {L v:Nat} (hL:L < 2048) (hv:v < 11):binV Tp .andNot 3 (.int .i64 (L:Int)) (.int .i64 ((2 ^ v:Nat):Int))=some (.int .i64 ((wo L v:Nat):Int)):=by
  have h1:=List.all_eq_true.1 (List.all_eq_true.1 bitsOk_true L (List.mem_range.2 hL)) v (List.mem_range.2 hv)
  simp only [Bool.and_eq_true,decide_eq_true_eq] at h1
  rw [← h1.1]; rfl
theorem bo_and {L v:Nat} (hL:L < 2048) (hv:v < 11):binV Tp .and 3 (.int .i64 ((L / 2 ^ v:Nat):Int)) (.int .i64 1)=some (.int .i64 (if L.testBit v then 1 else 0)):=by
  have h1:=List.all_eq_true.1 (List.all_eq_true.1 bitsOk_true L (List.mem_range.2 hL)) v (List.mem_range.2 hv)
  simp only [Bool.and_eq_true,decide_eq_true_eq] at h1
  rw [← h1.2]; rfl
theorem bo_shl {v:Nat} (hv:v < 60):binV Tp .shl 3 (.int .i64 1) (.int .i64 (v:Int))=some (.int .i64 ((2 ^ v:Nat):Int)):=by
  have e:binV Tp .shl 3 (.int .i64 1) (.int .i64 (v:Int))=if (v:Int) < 0 then none else some (.int .i64 (IntKind.i64.wrap (1 * 2 ^ min (v:Int).toNat 64))):=rfl
  rw [e,if_neg (by omega),Int.toNat_natCast,show min v 64=v by omega,Int.one_mul]
  have:(2:Nat) ^ v < 2 ^ 60:=Nat.pow_lt_pow_right (by omega) hv
  have h2:2 ^ v < 1152921504606846976:=this
  rw [show ((2:Int) ^ v)=((2 ^ v:Nat):Int) by push_cast; rfl]
  generalize 2 ^ v=x at h2
  rw [wrap_id (by omega) (by omega)]
theorem bo_shr {L v:Nat} (hv:v < 60):binV Tp .shr 3 (.int .i64 (L:Int)) (.int .i64 (v:Int))=some (.int .i64 ((L / 2 ^ v:Nat):Int)):=by
  have e:binV Tp .shr 3 (.int .i64 (L:Int)) (.int .i64 (v:Int))=if (v:Int) < 0 then none else some (.int .i64 ((L:Int).fdiv (2 ^ min (v:Int).toNat 64))):=rfl
  rw [e,if_neg (by omega),Int.toNat_natCast,show min v 64=v by omega]
  rw [show ((2:Int) ^ v)=((2 ^ v:Nat):Int) by push_cast; rfl,Int.fdiv_eq_ediv_of_nonneg _ (Int.natCast_nonneg _)]
  rfl
end Go.Proofs.Ytlendaofkmhgmaa
end
section
open Go Go.HL
namespace Go.Proofs.Ytlendaofkmhgmaa
open Go.Proofs.Try renaming prog → Tp
open Go.HL.HV renaming undef → Ud
theorem soundA (n:Nat):CallSound Tp (callN Tp polA n) :=
  callN_ok follows_mixed (fun g fn h=>by
    have e:fnOk polA g fn=fnOk pol g fn:=rfl
    rw [e]
    exact List.all_eq_true.1 fns_ok (fn,g) (by
      rw [List.mem_zipIdx_iff_getElem?]
      simpa using h)) (fun g f h=>by
  simp only [polA] at h
  split at h
  · rename_i hg; cases h; rw [eq_of_beq hg]; exact mod_ok
  · cases h) n
theorem fnokA (g:FuncId) (fn:Func) (h:Tp.funcs[g]?=some fn):fnOk polA g fn=true:=by
  have e:fnOk polA g fn=fnOk pol g fn:=rfl
  rw [e]
  exact List.all_eq_true.1 fns_ok (fn,g) (by
    rw [List.mem_zipIdx_iff_getElem?]
    simpa using h)
theorem res28:Try.f28.results.toList=[.tmp 6]:=by kernel_rfl
theorem info23b:(Tp.info? 23).map (fun i=>(i.size,i.bytes,zeroFits i))=some (1,24,true):=by kernel_rfl
theorem info3m:(Tp.info? 3).map (fun i=>(i.size,i.bytes,i.zero.map ofConst))=some (1,8,some (.int .i64 0)):=by kernel_rfl
abbrev slT (n a:Nat):HV:=.sl (a+1) 0 n (some n) n 1
theorem lit_sl (b n:Nat) (H:Heap):litV Tp false false 22 1 [(0,slT n b)] H=some (.sl H.length 0 1 (some 1) 1 1,H ++ [.arr 1 [slT n b] true (b+2)]):=by kernel_rfl
theorem app_one {H:Heap} {n i lb mx m2:Nat} {els:List HV} {v:HV} (hi:els.length=i) (h0:H[0]?=some (.arr 1 els true mx)) (hl:H[lb]?=some (.arr 1 [v] true m2)) (hb:i ≤ 1000) (hm:bndL [v]=m2) :
    builtinV Tp .append [22,22] [.sl 0 0 i none i 1,.sl lb 0 1 (some 1) 1 1] H=some (.sl 0 0 (i+1) none (i+1) 1,H.set 0 (.arr 1 (els ++ [v]) true (max mx m2))):=by
  have hinfo:=info23b
  cases hinf:Tp.info? 23 with
  | none=>rw [hinf] at hinfo; cases hinfo
  | some inf =>
    rw [hinf] at hinfo
    simp only [Option.map,Option.some.injEq,Prod.mk.injEq] at hinfo
    obtain ⟨e1,e2,e3⟩:=hinfo
    have hs:srcOf H (.sl lb 0 1 (some 1) 1 1)=some ([v],1):=by simp [srcOf,view,hl]
    simp only [builtinV,u22,hinf,hs,e1,e2,e3]
    rw [if_pos ⟨.inl trivial,by omega,trivial⟩]
    simp only [appV,h0,hi,hm,List.length_cons,List.length_nil,List.cons_ne_nil,if_false]
    rw [if_pos ⟨trivial,trivial,trivial,by rw [show roomMax=70368744177664 from rfl]; omega⟩,if_pos ⟨trivial,trivial,trivial⟩]
structure TS (n i:Nat) (H:Heap):Prop where
  len:H.length=i+1
  out:H[0]?=some (.arr 1 ((List.range i).map (slT n)) true (if i=0 then 0 else i+1))
  row:∀ a,a < i → H[a+1]?=some (bI (List.replicate n 0))
theorem mxs_ge {H:Heap} {j:Nat} {B:Blk} (h:H[j]?=some B):B.mx ≤ mxs H:=mxs_le.1 (Nat.le_refl _) B (List.mem_of_getElem? h)
section
variable {R:List (List Int)} {n:Nat} {mo:Int}
abbrev tmE (R:List (List Int)) (n:Nat) (mo:Int) (v7 y8 y9 y10 y11 y12 y13:HV):Env:=env28 (.imm .arg 1 (R.map encR)) (.int .i64 (n:Int)) (.int .i64 mo) (.imm .lit 1 []) v7 y8 y9 y10 y11 y12 y13
theorem tm_make (hn:n ≤ 12):∀ k i H,i+k=n → TS n i H →
    ∃ H',RT polA 28 (sub [1,1,0,1,0] B28) (tmE R n mo (.sl 0 0 i none i 1) (.int .i64 (i:Int)) Ud Ud Ud Ud Ud) H (.exit 0) (tmE R n mo (.sl 0 0 n none n 1) (.int .i64 (n:Int)) Ud Ud Ud Ud Ud) H'∧TS n n H':=by
  intro k
  induction k with
  | zero =>
    intro i H hi hT
    have:i=n:=by omega
    subst this
    exact ⟨H,lpo (tm_l_1 (R.map encR) i mo i 0 0 H (by omega)),hT⟩
  | succ k ih =>
    intro i H hi hT
    have hl:=hT.len
    have m1:=makeV_ok (P:=Tp) (H:=H) (t:=23) (n:=(n:Int)) u23 info3m rfl rfl (by omega) (by omega) (by rw [show roomMax=70368744177664 from rfl]; omega)
    rw [Int.toNat_natCast,hl] at m1
    have m2:=lit_sl i n (H ++ [.arr 1 (List.replicate n (.int .i64 0)) true 0])
    have hl2:(H ++ [Blk.arr 1 (List.replicate n (.int .i64 0)) true 0]).length=i+2:=by simp [hl]
    rw [hl2] at m2
    have m3:=app_one (H:=H ++ [.arr 1 (List.replicate n (.int .i64 0)) true 0] ++ [.arr 1 [slT n i] true (i+2)]) (n:=n) (i:=i) (lb:=i+2) (m2:=i+2) (v:=slT n i) (els:=(List.range i).map (slT n)) (by simp) (by rw [List.getElem?_append_left (by omega),List.getElem?_append_left (by omega)]; exact hT.out) (by rw [List.getElem?_append_right (by omega),hl2]; simp) (by omega) (by simp [bndL,bnd])
    have s:=tm_l_0 (R.map encR) n mo i (i+1) (i+2) H _ _ _ (by omega) m1 m2 m3
    rw [wrap_succ (by omega)] at s
    generalize hH2:(H ++ [Blk.arr 1 (List.replicate n (.int .i64 0)) true 0] ++ [Blk.arr 1 [slT n i] true (i+2)]).set 0 (.arr 1 ((List.range i).map (slT n) ++ [slT n i]) true (max (if i=0 then 0 else i+1) (i+2)))=H2 at s
    have hlen:H2.length=i+3:=by rw [← hH2]; simp [hl]
    have g0:H2[0]?=some (.arr 1 ((List.range (i+1)).map (slT n)) true (i+2)):=by
      rw [← hH2,List.getElem?_set_self (by simp),List.range_succ,List.map_append]
      have:max (if i=0 then 0 else i+1) (i+2)=i+2:=by split <;> omega
      rw [this]; rfl
    have g1:∀ a,a < i+1 → H2[a+1]?=some (bI (List.replicate n 0)):=fun a ha=>by
      rw [← hH2,List.getElem?_set_ne (by omega),List.getElem?_append_left (by omega)]
      by_cases e:a=i
      · subst e
        rw [List.getElem?_append_right (by omega),show a+1 - H.length=0 by omega]
        simp [bI,encI]
      · rw [List.getElem?_append_left (by omega)]
        exact hT.row a (by omega)
    have hmx:mxs H2=i+2:=by
      have h1:i+2 ≤ mxs H2:=mxs_ge g0
      have h2:mxs H2 ≤ i+2:=by
        rw [mxs_le]
        intro B hB
        obtain ⟨j,hj⟩:=List.mem_iff_getElem?.1 hB
        have hjl:=lt_of_get hj
        by_cases e0:j=0
        · rw [e0,g0] at hj
          rw [← Option.some.inj hj]; exact Nat.le_refl _
        · by_cases e1:j ≤ i+1
          · rw [show j=(j - 1)+1 by omega,g1 (j - 1) (by omega)] at hj
            rw [← Option.some.inj hj]; exact Nat.zero_le _
          · have ej:j=i+2:=by omega
            rw [ej,← hH2,List.getElem?_set_ne (by omega),List.getElem?_append_right (by omega),hl2] at hj
            simp at hj
            rw [← hj]; exact Nat.le_refl _
      omega
    have ec:gc H.length (bndE (tmE R n mo (.sl 0 0 (i+1) none (i+1) 1) (.int .i64 ((i+1:Nat):Int)) Ud Ud Ud Ud Ud)) H2=H2.take (i+2):=by
      unfold gc
      rw [hmx,hl]
      have e:max (i+1) (max (bndE (tmE R n mo (.sl 0 0 (i+1) none (i+1) 1) (.int .i64 ((i+1:Nat):Int)) Ud Ud Ud Ud Ud)) (i+2))=i+2:=by
        simp only [bndE,bnd,bndL]
        omega
      rw [e]
    have hT2:TS n (i+1) (H2.take (i+2)):=by
      refine ⟨by rw [List.length_take]; omega,?_,fun a ha=>?_⟩
      · rw [List.getElem?_take,if_pos (by omega),g0,if_neg (by omega)]
      · rw [List.getElem?_take,if_pos (by omega),g1 a ha]
    obtain ⟨H',r,hT'⟩:=ih (i+1) _ (by omega) hT2
    exact ⟨H',lop s ec r,hT'⟩
structure TM (n:Nat) (f:Nat → Nat → Int) (H:Heap):Prop where
  len:H.length=n+1
  out:H[0]?=some (.arr 1 ((List.range n).map (slT n)) true (n+1))
  row:∀ a,a < n → H[a+1]?=some (bI ((List.range n).map (f a)))
theorem TS.mem {H:Heap} (h:TS n n H) (hn:1 ≤ n):TM n (fun _ _=>0) H:=by
  refine ⟨h.len,by rw [h.out,if_neg (by omega)],fun a ha=>?_⟩
  rw [h.row a ha]
  have e:List.replicate n (0:Int)=(List.range n).map fun _=>(0:Int):=by
    apply List.ext_getElem?
    intro i
    by_cases h:i < n
    · rw [List.getElem?_map,List.getElem?_range h,List.getElem?_replicate,if_pos h]; simp
    · rw [List.getElem?_eq_none (by simp; omega),List.getElem?_eq_none (by simp; omega)]
  rw [e]
def up2 (f:Nat → Nat → Int) (i k:Nat) (x:Int) (a b:Nat):Int:=if a=i∧b=k ∨ a=k∧b=i then x else f a b
theorem ixo {i:Nat} (hi:i < n):idxV Tp 22 (.sl 0 0 n none n 1) (.int .i64 (i:Int))=some (.ptr 0 i 0 n):=by
  have:=idx_sl (P:=Tp) (t:=22) (b:=0) (len:=n) (tot:=n) (cap:=none) (ik:=.i64) (n:=(i:Int)) u22 z23 (by omega) (by omega)
  rwa [Int.toNat_natCast] at this
theorem ixr {b k:Nat} (hk:k < n):idxV Tp 23 (.sl b 0 n (some n) n 1) (.int .i64 (k:Int))=some (.ptr b k 0 n):=by
  have:=idx_sl (P:=Tp) (t:=23) (b:=b) (len:=n) (tot:=n) (cap:=some n) (ik:=.i64) (n:=(k:Int)) u23 z3 (by omega) (by omega)
  rwa [Int.toNat_natCast] at this
theorem TM.ld {f:Nat → Nat → Int} {H:Heap} (h:TM n f H) {i:Nat} (hi:i < n):loadV Tp H 23 (.ptr 0 i 0 n)=some (slT n i):=by
  refine load_elem (b:=0) h.out (by simp) ?_ rfl a23 i23
  rw [List.getElem?_map,List.getElem?_range hi]; rfl
theorem TM.st {f:Nat → Nat → Int} {H:Heap} (h:TM n f H) {i k:Nat} (hi:i < n) (hk:k < n) (x:Int):storeV Tp H 3 (.ptr (i+1) k 0 n) (.int .i64 x)=some (H.set (i+1) (bI (((List.range n).map (f i)).set k x))):=by
  have:=store_out (h.row i hi) (y:=k) (by simpa using hk) x
  rwa [show ((List.range n).map (f i)).length=n by simp] at this
theorem TM.two {f:Nat → Nat → Int} {H:Heap} (h:TM n f H) {i k:Nat} (hi:i < n) (hk:k < n) (hik:i < k) (x:Int) :
    storeV Tp H 3 (.ptr (i+1) k 0 n) (.int .i64 x)=some (H.set (i+1) (bI (((List.range n).map (f i)).set k x))) ∧
    storeV Tp (H.set (i+1) (bI (((List.range n).map (f i)).set k x))) 3 (.ptr (k+1) i 0 n) (.int .i64 x)=some ((H.set (i+1) (bI (((List.range n).map (f i)).set k x))).set (k+1) (bI (((List.range n).map (f k)).set i x))) ∧
    TM n (up2 f i k x) ((H.set (i+1) (bI (((List.range n).map (f i)).set k x))).set (k+1) (bI (((List.range n).map (f k)).set i x))):=by
  have hl:=h.len
  refine ⟨h.st hi hk x,?_,?_⟩
  · have hr:(H.set (i+1) (bI (((List.range n).map (f i)).set k x)))[k+1]?=some (bI ((List.range n).map (f k))):=by
      rw [List.getElem?_set_ne (by omega)]; exact h.row k hk
    have:=store_out hr (y:=i) (by simpa using hi) x
    rwa [show ((List.range n).map (f k)).length=n by simp] at this
  · refine ⟨by simp [hl],by rw [List.getElem?_set_ne (by omega),List.getElem?_set_ne (by omega)]; exact h.out,fun a ha=>?_⟩
    by_cases e1:a=k
    · subst e1
      rw [List.getElem?_set_self (by simp; omega),row_set]
      congr 2
      refine row_congr fun b hb=>?_
      unfold up2
      by_cases e:b=i
      · rw [if_pos e,if_pos (.inr ⟨rfl,e⟩)]
      · rw [if_neg e,if_neg (by omega)]
    · rw [List.getElem?_set_ne (by omega)]
      by_cases e2:a=i
      · subst e2
        rw [List.getElem?_set_self (by omega),row_set]
        congr 2
        refine row_congr fun b hb=>?_
        unfold up2
        by_cases e:b=k
        · rw [if_pos e,if_pos (.inl ⟨rfl,e⟩)]
        · rw [if_neg e,if_neg (by omega)]
      · rw [List.getElem?_set_ne (by omega),h.row a ha]
        congr 2
        refine row_congr fun b hb=>?_
        unfold up2
        rw [if_neg (by omega)]
theorem TM.congr {f g:Nat → Nat → Int} {H:Heap} (h:TM n f H) (e:∀ a b,a < n → b < n → f a b=g a b):TM n g H:=⟨h.len,h.out,fun a ha=>by rw [h.row a ha,row_congr fun b hb=>e a b ha hb]⟩
theorem prim_mod {pol':Pol} (hp:pol'.prim 27=some modF) {a m:Int} (hm:0 < m∧m < 9223372036854775808) (H:Heap):∀ k,callN Tp pol' (k+1) 27 [.int .i64 a,.int .i64 m] H=some (.int .i64 (modW a m),H):=fun k=>by
  rw [prim_call (pol:=pol') (g:=27) (F:=modF) hp (rs:=[.int .i64 a,.int .i64 m]) rfl (res:=.int .i64 (modW a m)) (by simp only [modF]; rw [if_pos hm])]; rfl
theorem tm_step (hn:n ≤ 12) (hmo:0 ≤ mo∧mo ≤ 1000000) {f:Nat → Nat → Int} {H:Heap} (h:TM n f H) {i k:Nat} (hk:k < n) (hik:i < k) :
    ∃ H' y11 y12 y13,RT polA 28 (sub [1,1,1,0,1,0,0,1,0,0,1,0,0] B28) (tmE R n mo (.sl 0 0 n none n 1) Ud (.int .i64 (i:Int)) (.int .i64 (k:Int)) Ud Ud Ud) H .normal (tmE R n mo (.sl 0 0 n none n 1) Ud (.int .i64 (i:Int)) (.int .i64 ((k+1:Nat):Int)) y11 y12 y13) H'∧TM n (up2 f i k (tmX R mo i k)) H':=by
  have hi:i < n:=by omega
  obtain ⟨s1,s2,s3⟩:=h.two hi hk hik (tmX R mo i k)
  have hwm:IntKind.i64.wrap (mo+1)=mo+1:=wrap_id (by omega) (by omega)
  have hm:∀ a:Int,∀ kf,callN Tp polA (kf+1) 27 [.int .i64 a,.int .i64 (IntKind.i64.wrap (mo+1))] H=some (.int .i64 (modW a (mo+1)),H):=fun a=>by
    rw [hwm]; exact prim_mod (by kernel_rfl) (by omega) H
  refine ⟨_,.int .i64 (tmX R mo i k),slT n i,slT n k,?_,s3⟩
  by_cases c1:i < R.length
  · have gi:=gr (R:=R) (y:=i) c1
    by_cases c2:k < (R.getD i []).length
    · have gk:=gx (l:=R.getD i []) (y:=k) c2
      have ex:tmX R mo i k=clm mo (at2 R i k):=by unfold tmX; rw [if_pos ⟨c1,c2⟩]
      rw [ex] at s1 s2 ⊢
      by_cases c3:at2 R i k < 0
      · rw [show clm mo (at2 R i k)=modW (at2 R i k) (mo+1) by unfold clm; rw [if_pos (.inl c3)]] at s1 s2 ⊢
        have s:=tm_m_0 (R.map encR) n mo Ud i k H _ _ (at2 R i k) _ H _ _ (by omega) (by rw [List.length_map]; omega) gi (by rw [List.length_map]; omega) gi gk c3 (hm _) (ixo hi) (h.ld hi) (ixo hk) (h.ld hk) (ixr hk) s1 (ixr hi) s2
        rwa [wrap_succ (by omega)] at s
      · by_cases c4:mo < at2 R i k
        · rw [show clm mo (at2 R i k)=modW (at2 R i k) (mo+1) by unfold clm; rw [if_pos (.inr c4)]] at s1 s2 ⊢
          have s:=tm_m_1 (R.map encR) n mo Ud i k H _ _ (at2 R i k) _ H _ _ (by omega) (by rw [List.length_map]; omega) gi (by rw [List.length_map]; omega) gi gk c3 c4 (hm _) (ixo hi) (h.ld hi) (ixo hk) (h.ld hk) (ixr hk) s1 (ixr hi) s2
          rwa [wrap_succ (by omega)] at s
        · rw [show clm mo (at2 R i k)=at2 R i k by unfold clm; rw [if_neg (by omega)]] at s1 s2 ⊢
          have s:=tm_m_2 (R.map encR) n mo Ud i k H _ _ (at2 R i k) _ _ (by omega) (by rw [List.length_map]; omega) gi (by rw [List.length_map]; omega) gi gk c3 c4 (ixo hi) (h.ld hi) (ixo hk) (h.ld hk) (ixr hk) s1 (ixr hi) s2
          rwa [wrap_succ (by omega)] at s
    · have ex:tmX R mo i k=clm mo 1:=by unfold tmX; rw [if_neg (fun h=>c2 h.2)]
      rw [ex] at s1 s2 ⊢
      by_cases c4:mo < 1
      · rw [show clm mo 1=modW 1 (mo+1) by unfold clm; rw [if_pos (.inr c4)]] at s1 s2 ⊢
        have s:=tm_m_3 (R.map encR) n mo Ud i k H _ _ H _ _ (by omega) (by rw [List.length_map]; omega) gi (by rw [List.length_map]; omega) c4 (hm _) (ixo hi) (h.ld hi) (ixo hk) (h.ld hk) (ixr hk) s1 (ixr hi) s2
        rwa [wrap_succ (by omega)] at s
      · rw [show clm mo 1=1 by unfold clm; rw [if_neg (by omega)]] at s1 s2 ⊢
        have s:=tm_m_4 (R.map encR) n mo Ud i k H _ _ _ (by omega) (by rw [List.length_map]; omega) gi (by rw [List.length_map]; omega) c4 (ixo hi) (h.ld hi) (ixo hk) (h.ld hk) (ixr hk) s1 (ixr hi) s2
        rwa [wrap_succ (by omega)] at s
  · have ex:tmX R mo i k=clm mo 1:=by unfold tmX; rw [if_neg (fun h=>c1 h.1)]
    rw [ex] at s1 s2 ⊢
    by_cases c4:mo < 1
    · rw [show clm mo 1=modW 1 (mo+1) by unfold clm; rw [if_pos (.inr c4)]] at s1 s2 ⊢
      have s:=tm_m_5 (R.map encR) n mo Ud i k H _ H _ _ (by omega) (by rw [List.length_map]; omega) c4 (hm _) (ixo hi) (h.ld hi) (ixo hk) (h.ld hk) (ixr hk) s1 (ixr hi) s2
      rwa [wrap_succ (by omega)] at s
    · rw [show clm mo 1=1 by unfold clm; rw [if_neg (by omega)]] at s1 s2 ⊢
      have s:=tm_m_6 (R.map encR) n mo Ud i k H _ _ (by omega) (by rw [List.length_map]; omega) c4 (ixo hi) (h.ld hi) (ixo hk) (h.ld hk) (ixr hk) s1 (ixr hi) s2
      rwa [wrap_succ (by omega)] at s
def tmP (R:List (List Int)) (mo:Int) (i k a b:Nat):Int:=if a=b then 0 else if min a b < i ∨ min a b=i∧max a b < k then tmX R mo (min a b) (max a b) else 0
theorem tmP_up {i k a b:Nat} (hik:i < k):up2 (tmP R mo i k) i k (tmX R mo i k) a b=tmP R mo i (k+1) a b:=by
  unfold up2 tmP
  by_cases e:a=i∧b=k ∨ a=k∧b=i
  · rw [if_pos e,if_neg (by omega),show min a b=i by omega,show max a b=k by omega,if_pos (by omega)]
  · rw [if_neg e]
    by_cases e2:a=b
    · rw [if_pos e2,if_pos e2]
    · rw [if_neg e2,if_neg e2]
      by_cases c:min a b < i ∨ min a b=i∧max a b < k
      · rw [if_pos c,if_pos (by omega)]
      · rw [if_neg c,if_neg (by omega)]
theorem tm_in (hn:n ≤ 12) (hmo:0 ≤ mo∧mo ≤ 1000000):∀ j i k H,k+j=n → i < k → TM n (tmP R mo i k) H →
    ∃ H',RT polA 28 (sub [1,1,1,0,1,0,0,1,0,0,1,0] B28) (tmE R n mo (.sl 0 0 n none n 1) Ud (.int .i64 (i:Int)) (.int .i64 (k:Int)) Ud Ud Ud) H (.exit 4) (tmE R n mo (.sl 0 0 n none n 1) Ud (.int .i64 (i:Int)) (.int .i64 (n:Int)) Ud Ud Ud) H'∧TM n (tmP R mo i n) H':=by
  intro j
  induction j with
  | zero =>
    intro i k H hj hik h
    have:k=n:=by omega
    subst this
    exact ⟨H,lpo (tm_m_7 (R.map encR) k mo Ud i k H (by omega)),h⟩
  | succ j ih =>
    intro i k H hj hik h
    obtain ⟨H1,y11,y12,y13,s,h1⟩:=tm_step (R:=R) hn hmo h (k:=k) (by omega) hik
    obtain ⟨H',r,h'⟩:=ih i (k+1) H1 (by omega) (by omega) (h1.congr fun a b _ _=>tmP_up hik)
    exact ⟨H',lop s (gc_eq _ (by rw [h1.len,h.len])) r,h'⟩
theorem tmP_next {i a b:Nat} (ha:a < n) (hb:b < n):tmP R mo i n a b=tmP R mo (i+1) (i+2) a b:=by
  unfold tmP
  by_cases e2:a=b
  · rw [if_pos e2,if_pos e2]
  · rw [if_neg e2,if_neg e2]
    by_cases c:min a b < i ∨ min a b=i∧max a b < n
    · rw [if_pos c,if_pos (by omega)]
    · rw [if_neg c,if_neg (by omega)]
theorem tm_out (hn:n ≤ 12) (hmo:0 ≤ mo∧mo ≤ 1000000):∀ j i H,i+j=n → TM n (tmP R mo i (i+1)) H →
    ∃ H',RT polA 28 (sub [1,1,1,0,1,0] B28) (tmE R n mo (.sl 0 0 n none n 1) Ud (.int .i64 (i:Int)) Ud Ud Ud Ud) H (.exit 2) (tmE R n mo (.sl 0 0 n none n 1) Ud (.int .i64 (n:Int)) Ud Ud Ud Ud) H'∧TM n (tmP R mo n (n+1)) H':=by
  intro j
  induction j with
  | zero =>
    intro i H hj h
    have:i=n:=by omega
    subst this
    exact ⟨H,lpo (sqo (tm_e_1 (R.map encR) i mo Ud i H (by omega)) (c:=sub [1,1,1,0,1,0,0] B28) (b:=sub [1,1,1,0,1,0,0,1] B28)),h⟩
  | succ j ih =>
    intro i H hj h
    have e:=tm_e_0 (R.map encR) n mo Ud i H (by omega)
    have f:=tm_f_0 (R.map encR) n mo Ud i H
    rw [wrap_succ (by omega)] at f
    obtain ⟨H1,r,h1⟩:=tm_in (R:=R) hn hmo (n - (i+1)) i (i+1) H (by omega) (by omega) h
    have g:=tm_g_0 (R.map encR) n mo Ud i n H1
    rw [wrap_succ (by omega)] at g
    have t1:=sq f (bke (c:=sub [1,1,1,0,1,0,0,1,0,0,1] B28) r) (c:=sub [1,1,1,0,1,0,0,1,0,0] B28)
    have t2:=RunsTo.block_normal (i:=3) (c:=sub [1,1,1,0,1,0,0,1,0] B28) t1 (by kernel_rfl)
    have t3:=sq t2 g (c:=sub [1,1,1,0,1,0,0,1] B28)
    have t4:=sq e t3 (c:=sub [1,1,1,0,1,0,0] B28)
    obtain ⟨H',r2,h'⟩:=ih (i+1) H1 (by omega) (h1.congr fun a b ha hb=>tmP_next ha hb)
    exact ⟨H',lop t4 (gc_eq _ (by rw [h1.len,h.len])) r2,h'⟩
theorem frz_rows {H:Heap} (hn:1 ≤ n) {f:Nat → Nat → Int} (h:TM n f H):∀ (j i:Nat),i+j=n → mapO (frz H [0] 4) ((List.range' i j).map (slT n))=some ((List.range' i j).map fun a=>encO ((List.range n).map (f a))):=by
  intro j
  induction j with
  | zero=>intro i _; rfl
  | succ j ih =>
    intro i hi
    rw [List.range'_succ,List.map_cons,List.map_cons,mapO,ih (i+1) (by omega)]
    have hr:=h.row i (by omega)
    have hv:view H (i+1) 0 n n 1=some (((List.range n).map (f i)).map encI):=by
      simp only [view,hr,List.length_map,List.length_range]
      rw [if_pos ⟨trivial,by omega,trivial⟩]
      rw [List.drop_zero,List.take_of_length_le (by simp)]
    have hm:mapO (frz H [0] 3) (((List.range n).map (f i)).map encI)=some (((List.range n).map (f i)).map encI):=mapO_self (f:=frz H [0] 3) (g:=encI) (fun r=>frz_int 3 r) _
    have:frz H [0] 4 (slT n i)=some (encO ((List.range n).map (f i))):=by
      have e:frz H [0] 4 (slT n i)=if n=0 then some (.imm .own 1 []) else if [0].contains (i+1) then none else match view H (i+1) 0 n n 1 with | some l=>(match mapO (frz H [0] 3) l with | some l=>some (.imm .own 1 l) | none=>none) | none=>none:=rfl
      rw [e,if_neg (by omega),if_neg (by simp)]
      simp only [hv,hm]
      rfl
    rw [this]
theorem res_rows {H:Heap} (hn:1 ≤ n) {f:Nat → Nat → Int} (h:TM n f H):toRes H false (.sl 0 0 n none n 1)=some (.own 1 ((mat n f).map encO)):=by
  have ho:ownedAll H false (.sl 0 0 n none n 1)=[0]:=by simp [ownedAll,cellsOf,owned,h.out]
  have hv:view H 0 0 n n 1=some ((List.range n).map (slT n)):=by
    simp only [view,h.out,List.length_map,List.length_range]
    rw [if_pos ⟨trivial,by omega,trivial⟩]
    rw [List.drop_zero,List.take_of_length_le (by simp)]
  have hf:=frz_rows hn h n 0 (by omega)
  rw [← List.range_eq_range'] at hf
  have hr:(resElem H [0] false)=frz H [0] 4:=by funext v; rfl
  have e:(mat n f).map encO=(List.range n).map fun a=>encO ((List.range n).map (f a)):=by simp [mat,List.map_map,Function.comp_def]
  simp only [toRes,ho,List.nodup_cons,List.not_mem_nil,not_false_eq_true,List.nodup_nil,and_self,if_true,resVal,resCell,h.out,hv,hr,hf,e]
end
theorem tame_ok:PrimOk Tp 28 tame28:=by
  refine primOk_pure (pol:=polA) (fn:=Try.f28) (cd:=B28) follows_mixed soundA (by kernel_rfl) (by kernel_rfl) (fnokA _ _ (by kernel_rfl)) (by kernel_rfl) ?_
  intro args res h
  obtain ⟨R,n0,mo,rfl,hq⟩:=nmF_inv h
  clear h
  split at hq
  · rename_i hc
    cases hq
    obtain ⟨n,rfl⟩:∃ n:Nat,n0=(n:Int):=⟨n0.toNat,by omega⟩
    rw [Int.toNat_natCast]
    have a:=tm_a_0 (R.map encR) n mo []
    have b:=tm_b_0 (R.map encR) n mo [] _ rfl
    have c:=tm_c_0 (R.map encR) n mo [.arr 1 [] true 0]
    obtain ⟨H1,r1,h1⟩:=tm_make (R:=R) (n:=n) (mo:=mo) (by omega) n 0 [.arr 1 [] true 0] (by omega) ⟨rfl,rfl,fun a ha=>by omega⟩
    have d:=tm_d_0 (R.map encR) n mo (.int .i64 (n:Int)) H1
    have hM:TM n (tmP R mo 0 1) H1:=(h1.mem (by omega)).congr fun a b _ _=>by
      unfold tmP
      split
      · rfl
      · rw [if_neg (by omega)]
    obtain ⟨H2,r2,h2⟩:=tm_out (R:=R) (n:=n) (mo:=mo) (by omega) hc.2 n 0 H1 (by omega) hM
    have z:=tm_z_0 (R.map encR) n mo Ud (.int .i64 (n:Int)) Ud Ud Ud Ud H2
    have r2':=lpi (e0:=tmE R n mo (.sl 0 0 n none n 1) (.int .i64 (n:Int)) (.int .i64 0) Ud Ud Ud Ud) r2 (b:=sub [1,1,1,0,1,0,0] B28)
    have t1:=sq c (bke (c:=sub [1,1,0,1] B28) r1) (c:=sub [1,1,0] B28)
    have t2:=sq d (bke (c:=sub [1,1,1,0,1] B28) r2') (c:=sub [1,1,1,0] B28)
    have t3:=sq t1 (sq t2 z (c:=sub [1,1,1] B28)) (c:=sub [1,1] B28)
    have t4:=sq a (sq b t3 (c:=sub [1] B28)) (c:=B28)
    have hfin:TM n (tameF R mo) H2:=h2.congr fun a b ha hb=>by
      unfold tmP tameF
      by_cases e:a=b
      · rw [if_pos e,if_pos e]
      · rw [if_neg e,if_neg e,if_pos (by omega)]
        by_cases c:a < b
        · rw [if_pos c,show min a b=a by omega,show max a b=b by omega]
        · rw [if_neg c,show min a b=b by omega,show max a b=a by omega]
    exact ⟨_,_,_,.sl 0 0 n none n 1,t4,by simp,by simp only [resultsV,res28]; rfl,res_rows (by omega) hfin⟩
  · cases hq
end Go.Proofs.Ytlendaofkmhgmaa
end
section
open Go Go.HL
namespace Go.Proofs.Ytlendaofkmhgmaa
open Go.Proofs.Try renaming prog → Tp
open Go.HL.HV renaming undef → Ud
noncomputable def polTd:Pol:={ pol with prim:=fun g=>if g == 16 then some list16 else none,freeze:=fun g _=>!(g == 15) }
theorem soundTd (n:Nat):CallSound Tp (callN Tp polTd n) :=
  callN_ok follows_mixed (fun g fn h=>by
    have e:fnOk polTd g fn=fnOk pol g fn:=rfl
    rw [e]
    exact List.all_eq_true.1 fns_ok (fn,g) (by
      rw [List.mem_zipIdx_iff_getElem?]
      simpa using h)) (fun g f h=>by
  simp only [polTd] at h
  split at h
  · rename_i hg; cases h; rw [eq_of_beq hg]; exact list_ok
  · cases h) n
end Go.Proofs.Ytlendaofkmhgmaa
end
section
open Go Go.HL
namespace Go.Proofs.Ytlendaofkmhgmaa
set_option maxRecDepth 100000
open Go.Proofs.Try renaming prog → Tp
open Go.HL.HV renaming undef → Ud
theorem td_a_0 (rw:List HV):RT polTd 15 (sub [0] B15) [(0,.imm .arg 1 rw)] [] .normal (env15 (.imm .arg 1 rw) (.imm .lit 1 []) Ud Ud) [] :=
  RunsTo.hin 0 60 [] fun kf hk=>⟨_,by kernel_rfl,.nil⟩
theorem td_b_0 (rw:List HV):RT polTd 15 (sub [1,0] B15) (env15 (.imm .arg 1 rw) (.imm .lit 1 []) Ud Ud) [] .normal (env15 (.imm .arg 1 rw) (.imm .lit 1 []) (.sl 0 0 0 none 0 1) Ud) [.arr 1 [] true 0] :=
  RunsTo.hin 0 60 [] fun kf hk=>⟨_,by kernel_rfl,.nil⟩
theorem td_c_0 (rw:List HV) (H:Heap):RT polTd 15 (sub [1,1,0,0] B15) (env15 (.imm .arg 1 rw) (.imm .lit 1 []) (.sl 0 0 0 none 0 1) Ud) H .normal (env15 (.imm .arg 1 rw) (.imm .lit 1 []) (.sl 0 0 0 none 0 1) (.i 0)) H :=
  RunsTo.hin 0 60 [] fun kf hk=>⟨_,by kernel_rfl,.nil⟩
theorem td_l_0 (rw:List HV) (i rb q lb:Nat) (H:Heap) (l0:List HV) (H0:Heap) (H1:Heap) (H2:Heap) (g0:(i:Int) < (rw.length:Int)) (g1:(i:Int) ≤ 11) (g2:idxV Tp 22 (.imm .arg 1 rw) (.i (i:Int))=some (.vptr (.imm .arg 1 l0))) (g3:∀ kf,callN Tp polTd (kf+1) 16 [.imm .arg 1 l0] H=some (.sl rb 0 q none q 1,H0)) (g4:litV Tp false false 22 1 [(0,.sl rb 0 q none q 1)] H0=some (.sl lb 0 1 (some 1) 1 1,H1)) (g5:builtinV Tp .append [22,22] [.sl 0 0 i none i 1,.sl lb 0 1 (some 1) 1 1] H1=some (.sl 0 0 (i+1) none (i+1) 1,H2)):RT polTd 15 (sub [1,1,0,1,0,0] B15) (env15 (.imm .arg 1 rw) (.imm .lit 1 []) (.sl 0 0 i none i 1) (.i (i:Int))) H .normal (env15 (.imm .arg 1 rw) (.imm .lit 1 []) (.sl 0 0 (i+1) none (i+1) 1) (.i (IntKind.i64.wrap ((i:Int)+1)))) H2 :=
  RunsTo.hin 0 60 [⟨3,3,.bool true,H⟩,⟨3,6,.bool true,H⟩,⟨5,3,.vptr (.imm .arg 1 l0),H⟩,⟨5,5,.sl rb 0 q none q 1,H0⟩,⟨5,6,.sl lb 0 1 (some 1) 1 1,H1⟩,⟨5,7,.sl 0 0 (i+1) none (i+1) 1,H2⟩] fun kf hk=>⟨_,by kernel_rfl,(oB H (decide_eq_true g0) (oB H (decide_eq_true g1) (oP H g2 (oC (g3 kf) (oC (g4) (oC (g5) .nil))))))⟩
theorem td_l_1 (rw:List HV) (i rb q lb:Nat) (H:Heap)(g0:(i:Int) < (rw.length:Int)) (g1:¬ ((i:Int) ≤ 11)):RT polTd 15 (sub [1,1,0,1,0,0] B15) (env15 (.imm .arg 1 rw) (.imm .lit 1 []) (.sl 0 0 i none i 1) (.i (i:Int))) H (.exit 0) (env15 (.imm .arg 1 rw) (.imm .lit 1 []) (.sl 0 0 i none i 1) (.i (i:Int))) H :=
  RunsTo.hin 0 60 [⟨3,3,.bool true,H⟩,⟨3,6,.bool false,H⟩] fun kf hk=>⟨_,by kernel_rfl,(oB H (decide_eq_true g0) (oB H (decide_eq_false g1) .nil))⟩
theorem td_l_2 (rw:List HV) (i rb q lb:Nat) (H:Heap)(g0:¬ ((i:Int) < (rw.length:Int))):RT polTd 15 (sub [1,1,0,1,0,0] B15) (env15 (.imm .arg 1 rw) (.imm .lit 1 []) (.sl 0 0 i none i 1) (.i (i:Int))) H (.exit 0) (env15 (.imm .arg 1 rw) (.imm .lit 1 []) (.sl 0 0 i none i 1) (.i (i:Int))) H :=
  RunsTo.hin 0 60 [⟨3,3,.bool false,H⟩] fun kf hk=>⟨_,by kernel_rfl,(oB H (decide_eq_false g0) .nil)⟩
theorem td_z_0 (rw:List HV) (i:Nat) (H:Heap):RT polTd 15 (sub [1,1,1] B15) (env15 (.imm .arg 1 rw) (.imm .lit 1 []) (.sl 0 0 i none i 1) (.i (i:Int))) H .ret (env15 (.imm .arg 1 rw) (.sl 0 0 i none i 1) (.sl 0 0 i none i 1) (.i (i:Int))) H :=
  RunsTo.hin 0 60 [] fun kf hk=>⟨_,by kernel_rfl,.nil⟩
end Go.Proofs.Ytlendaofkmhgmaa
end
section
open Go Go.HL
namespace Go.Proofs.Ytlendaofkmhgmaa
open Go.Proofs.Try renaming prog → Tp
open Go.HL.HV renaming undef → Ud
abbrev slD (m:Nat) (r:Nat → List Int) (a:Nat):HV:=.sl (m+1+a) 0 (r a).length none (r a).length 1
theorem lit_slD (b q:Nat) (H:Heap):litV Tp false false 22 1 [(0,.sl b 0 q none q 1)] H=some (.sl H.length 0 1 (some 1) 1 1,H ++ [.arr 1 [.sl b 0 q none q 1] true (b+1)]):=by kernel_rfl
structure TD (m:Nat) (r:Nat → List Int) (i:Nat) (H:Heap):Prop where
  len:H.length=m+i+1
  out:H[m]?=some (.arr 1 ((List.range i).map (slD m r)) true (if i=0 then 0 else m+i+1))
  row:∀ a,a < i → H[m+1+a]?=some (bI (r a))
section
variable {R:List (List Int)}
abbrev tdE (R:List (List Int)) (v3 v4:HV):Env:=env15 (.imm .arg 1 (R.map encR)) (.imm .lit 1 []) v3 v4
abbrev rT (R:List (List Int)) (a:Nat):List Int:=(R.getD a []).take 13
theorem td_loop:∀ k i H,i+k=min R.length 12 → TD 0 (rT R) i H →
    ∃ H',RT polTd 15 (sub [1,1,0,1,0] B15) (tdE R (.sl 0 0 i none i 1) (.int .i64 (i:Int))) H (.exit 0) (tdE R (.sl 0 0 (min R.length 12) none (min R.length 12) 1) (.int .i64 ((min R.length 12:Nat):Int))) H'∧TD 0 (rT R) (min R.length 12) H':=by
  intro k
  induction k with
  | zero =>
    intro i H hi hT
    have:i=min R.length 12:=by omega
    subst this
    by_cases c:R.length ≤ 12
    · exact ⟨H,lpo (td_l_2 (R.map encR) (min R.length 12) 0 0 0 H (by rw [List.length_map]; omega)),hT⟩
    · exact ⟨H,lpo (td_l_1 (R.map encR) (min R.length 12) 0 0 0 H (by rw [List.length_map]; omega) (by omega)),hT⟩
  | succ k ih =>
    intro i H hi hT
    have hl:=hT.len
    have hil:i < R.length:=by omega
    have hg:=gr hil
    have hc:∀ kf,callN Tp polTd (kf+1) 16 [.imm .arg 1 ((R.getD i []).map encI)] H=some (.sl (i+1) 0 (rT R i).length none (rT R i).length 1,H ++ [bI (rT R i)]):=fun kf=>by
      rw [prim_call (pol:=polTd) (g:=16) (F:=list16) (by kernel_rfl) (rs:=[.imm .arg 1 ((R.getD i []).map encI)]) (by simp only [mapO,arg_li]) (res:=.own 1 ((rT R i).map encI)) (by simp only [list16,liF,mapO_map decI_enc]),recv_ints,hl]
      simp only [Nat.zero_add]
    have m2:=lit_slD (i+1) (rT R i).length (H ++ [bI (rT R i)])
    have hl2:(H ++ [bI (rT R i)]).length=i+2:=by simp [hl]
    rw [hl2] at m2
    have m3:=app_one (H:=H ++ [bI (rT R i)] ++ [.arr 1 [slD 0 (rT R) i] true (i+2)]) (n:=0) (i:=i) (lb:=i+2) (m2:=i+2) (v:=slD 0 (rT R) i) (els:=(List.range i).map (slD 0 (rT R))) (by simp) (by rw [List.getElem?_append_left (by omega),List.getElem?_append_left (by omega)]; exact hT.out) (by rw [List.getElem?_append_right (by omega),hl2]; simp) (by omega) (by simp only [bndL,bnd]; omega)
    have e1:slD 0 (rT R) i=.sl (i+1) 0 (rT R i).length none (rT R i).length 1:=by simp only [slD]; rw [show 0+1+i=i+1 by omega]
    rw [e1] at m3
    have s:=td_l_0 (R.map encR) i (i+1) (rT R i).length (i+2) H _ _ _ _ (by rw [List.length_map]; omega) (by omega) hg hc m2 m3
    rw [wrap_succ (by omega)] at s
    rw [← e1] at s
    generalize hH2:(H ++ [bI (rT R i)] ++ [Blk.arr 1 [slD 0 (rT R) i] true (i+2)]).set 0 (.arr 1 ((List.range i).map (slD 0 (rT R)) ++ [slD 0 (rT R) i]) true (max (if i=0 then 0 else 0+i+1) (i+2)))=H2 at s
    have hlen:H2.length=i+3:=by rw [← hH2]; simp [hl]
    have g0:H2[0]?=some (.arr 1 ((List.range (i+1)).map (slD 0 (rT R))) true (i+2)):=by
      rw [← hH2,List.getElem?_set_self (by simp),List.range_succ,List.map_append]
      have:max (if i=0 then 0 else 0+i+1) (i+2)=i+2:=by split <;> omega
      rw [this]; rfl
    have g1:∀ a,a < i+1 → H2[0+1+a]?=some (bI (rT R a)):=fun a ha=>by
      rw [← hH2,List.getElem?_set_ne (by omega),List.getElem?_append_left (by omega)]
      by_cases e:a=i
      · subst e
        rw [List.getElem?_append_right (by omega),show 0+1+a - H.length=0 by omega]
        rfl
      · rw [List.getElem?_append_left (by omega)]
        exact hT.row a (by omega)
    have hmx:mxs H2=i+2:=by
      have h1:i+2 ≤ mxs H2:=mxs_ge g0
      have h2:mxs H2 ≤ i+2:=by
        rw [mxs_le]
        intro B hB
        obtain ⟨j,hj⟩:=List.mem_iff_getElem?.1 hB
        have hjl:=lt_of_get hj
        by_cases e0:j=0
        · rw [e0,g0] at hj
          rw [← Option.some.inj hj]; exact Nat.le_refl _
        · by_cases e1:j ≤ i+1
          · rw [show j=0+1+(j - 1) by omega,g1 (j - 1) (by omega)] at hj
            rw [← Option.some.inj hj]; exact Nat.zero_le _
          · have ej:j=i+2:=by omega
            rw [ej,← hH2,List.getElem?_set_ne (by omega),List.getElem?_append_right (by omega),hl2] at hj
            simp at hj
            rw [← hj]; exact Nat.le_refl _
      omega
    have ec:gc H.length (bndE (tdE R (.sl 0 0 (i+1) none (i+1) 1) (.int .i64 ((i+1:Nat):Int)))) H2=H2.take (i+2):=by
      unfold gc
      rw [hmx,hl]
      have e:max (0+i+1) (max (bndE (tdE R (.sl 0 0 (i+1) none (i+1) 1) (.int .i64 ((i+1:Nat):Int)))) (i+2))=i+2:=by
        simp only [bndE,bnd,bndL]
        omega
      rw [e]
    have hT2:TD 0 (rT R) (i+1) (H2.take (i+2)):=by
      refine ⟨by rw [List.length_take]; omega,?_,fun a ha=>?_⟩
      · rw [List.getElem?_take,if_pos (by omega),g0,if_neg (by omega)]
        rw [show 0+(i+1)+1=i+2 by omega]
      · rw [List.getElem?_take,if_pos (by omega),g1 a ha]
    obtain ⟨H',r,hT'⟩:=ih (i+1) _ (by omega) hT2
    exact ⟨H',lop s ec r,hT'⟩
end
def encW (r:List Int):HV:=.own 1 (r.map encI)
def table15D:List HV → Option HV:=rwF fun R=>some (.own 1 ((tabL R).map encW))
theorem rT_tab (R:List (List Int)):(List.range (min R.length 12)).map (rT R)=tabL R:=by
  refine List.ext_getElem (by simp [tabL]; omega) fun i h1 h2=>?_
  simp [tabL,rT] at h1 ⊢
  rw [List.getElem?_eq_getElem (by omega)]
  rfl
theorem td_view {m i a:Nat} {r:Nat → List Int} {H:Heap} (h:TD m r i H) (ha:a < i):view H (m+1+a) 0 (r a).length (r a).length 1=some ((r a).map encI):=by
  simp only [view,h.row a ha,List.length_map]
  rw [if_pos ⟨trivial,by omega,trivial⟩,List.drop_zero,List.take_of_length_le (by simp)]
theorem td_elem {m i a:Nat} {r:Nat → List Int} {H:Heap} {no:List Nat} (h:TD m r i H) (ha:a < i):resElem H no true (slD m r a)=some (encW (r a)):=by
  have hv:=td_view h ha
  have hr:=h.row a ha
  simp only [resElem,slD,if_true,hr,hv,ints_res]
  rfl
theorem td_elems {m i:Nat} {r:Nat → List Int} {H:Heap} {no:List Nat} (h:TD m r i H):∀ (j k:Nat),k+j ≤ i → mapO (resElem H no true) ((List.range' k j).map (slD m r))=some ((List.range' k j).map fun a=>encW (r a))
  | 0,k,_=>rfl
  | j+1,k,hk=>by
    rw [List.range'_succ,List.map_cons,List.map_cons,mapO,td_elem h (by omega),td_elems h j (k+1) (by omega)]
theorem td_owned {m i:Nat} {r:Nat → List Int} {H:Heap} (h:TD m r i H):∀ (j k:Nat),k+j ≤ i → ((List.range' k j).map (slD m r)).flatMap (owned1 H)=(List.range' k j).map fun a=>m+1+a
  | 0,k,_=>rfl
  | j+1,k,hk=>by
    have hr:=h.row k (by omega)
    rw [List.range'_succ,List.map_cons,List.map_cons,List.flatMap_cons,td_owned h j (k+1) (by omega)]
    simp only [owned1,slD,hr,List.singleton_append]
theorem td_res {i:Nat} {r:Nat → List Int} {H:Heap} (h:TD 0 r i H):toRes H true (.sl 0 0 i none i 1)=some (.own 1 ((List.range i).map fun a=>encW (r a))):=by
  have ho:=h.out
  have hv:view H 0 0 i i 1=some ((List.range i).map (slD 0 r)):=by
    simp only [view,ho,List.length_map,List.length_range]
    rw [if_pos ⟨trivial,by omega,trivial⟩,List.drop_zero,List.take_of_length_le (by simp)]
  have hw:ownedAll H true (.sl 0 0 i none i 1)=0 :: (List.range i).map fun a=>0+1+a:=by
    have e:ownedAll H true (.sl 0 0 i none i 1)=owned H true (.sl 0 0 i none i 1):=by simp [ownedAll,cellsOf]
    rw [e]
    simp only [owned,ho,if_true,hv]
    rw [List.range_eq_range',td_owned h i 0 (by omega)]
  have hn:(ownedAll H true (.sl 0 0 i none i 1)).Nodup:=by
    rw [hw,List.nodup_cons]
    refine ⟨fun hm=>?_,?_⟩
    · obtain ⟨a,_,h2⟩:=List.mem_map.1 hm
      omega
    · exact List.Pairwise.map _ (fun a b hab=>by simp only [ne_eq] at *; omega) List.nodup_range
  simp only [toRes,hn,if_true,resVal,resCell,ho,hv]
  have:=td_elems (no:=ownedAll H true (.sl 0 0 i none i 1)) h i 0 (by omega)
  rw [← List.range_eq_range'] at this
  rw [this]
theorem tableD_ok:PrimOk Tp 15 table15D:=by
  refine primOk_trip (fn:=Try.f15) (cd:=B15) (deep:=true) (by kernel_rfl) (by kernel_rfl) ?_
  intro args res h
  obtain ⟨R,rfl,hq⟩:=rwF_inv h
  clear h
  cases hq
  have a1:=td_a_0 (R.map encR)
  have b1:=td_b_0 (R.map encR)
  have c1:=td_c_0 (R.map encR) [.arr 1 [] true 0]
  obtain ⟨H',l1,hT⟩:=td_loop (R:=R) (min R.length 12) 0 [.arr 1 [] true 0] (by omega) ⟨rfl,rfl,fun a ha=>by omega⟩
  have z1:=td_z_0 (R.map encR) (min R.length 12) H'
  have t:=sq (a1) (sq (b1) (sq (sq (c1) (bke (c:=sub [1,1,0,1] B15) (l1)) (c:=sub [1,1,0] B15)) (z1) (c:=sub [1,1] B15)) (c:=sub [1] B15)) (c:=B15)
  refine (Trip.run follows_mixed soundTd (by kernel_rfl) t).mono ?_
  rintro x e H1 ⟨rfl,rfl,rfl⟩
  refine ⟨by simp,.sl 0 0 (min R.length 12) none (min R.length 12) 1,by simp only [resultsV,res15]; rfl,?_⟩
  rw [td_res hT,← rT_tab,List.map_map]
  rfl
theorem recvRows_W:∀ (l:List (List Int)) (n:Nat),recvRows (l.map encW) n=((l.zipIdx n).map (fun p=>.sl p.2 0 p.1.length none p.1.length 1),l.map bI)
  | [],n=>rfl
  | r :: l,n=>by
    have ih:=recvRows_W l (n+1)
    show recvRows (HV.own 1 (r.map encI) :: l.map encW) n=_
    simp only [recvRows,ih,List.zipIdx_cons,List.map_cons,List.length_map]
theorem recv_W (l:List (List Int)) (h1:l ≠ []) (H:Heap):∃ H',recv (.own 1 (l.map encW)) H=(.sl H.length 0 l.length none l.length 1,H ++ H')∧TD H.length (fun a=>l.getD a []) l.length (H ++ H'):=by
  have hany:(l.map encW).any isOwn=true:=by
    cases l with
    | nil=>exact absurd rfl h1
    | cons r l=>rfl
  have e:recv (.own 1 (l.map encW)) H=(.sl H.length 0 l.length none l.length 1,H ++ [.arr 1 (recvRows (l.map encW) (H.length+1)).1 true (H.length+1+l.length)] ++ (recvRows (l.map encW) (H.length+1)).2):=by
    simp only [recv,recvVal,recvCell,hany,if_true,List.length_map]
  refine ⟨[.arr 1 (recvRows (l.map encW) (H.length+1)).1 true (H.length+1+l.length)] ++ (recvRows (l.map encW) (H.length+1)).2,by rw [e,List.append_assoc],?_⟩
  rw [recvRows_W]
  have hpos:0 < l.length:=List.length_pos_iff.2 h1
  refine ⟨by simp; omega,?_,fun a ha=>?_⟩
  · rw [List.getElem?_append_right (by omega),Nat.sub_self,if_neg (by omega)]
    simp only [List.singleton_append,List.getElem?_cons_zero]
    congr 2
    · refine List.ext_getElem (by simp) fun i h2 h3=>?_
      simp at h2
      simp [List.getD,slD,List.getElem?_eq_getElem h2]
    · omega
  · rw [List.getElem?_append_right (by omega),show H.length+1+a - H.length=a+1 by omega]
    simp only [List.singleton_append,List.getElem?_cons_succ]
    simp [List.getD,List.getElem?_eq_getElem ha]
end Go.Proofs.Ytlendaofkmhgmaa
end
section
open Go Go.HL
namespace Go.Proofs.Ytlendaofkmhgmaa
def nan84:List HV → Option HV | [.int .i64 _]=>some (.bool false) | _=>none
def cmpI (x y:Int):Int:=if x < y then -1 else if y < x then 1 else 0
def fstL:List Int → Int
  | []=>0
  | x :: l=>if x=0 then fstL l else x
def compare79:List HV → Option HV | [.int .i64 x,.int .i64 y]=>some (.int .i64 (cmpI x y)) | _=>none
def less91:List HV → Option HV | [.int .i64 x,.int .i64 y]=>some (.bool (decide (x < y))) | _=>none
def first78:List HV → Option HV:=liF fun l=>if l.length ≤ 1000 then some (.int .i64 (fstL l)) else none
def edge77:List HV → Option HV
  | [.agg [.int .i64 a,.int .i64 b,.int .i64 c],.agg [.int .i64 d,.int .i64 e,.int .i64 f]]=>some (.int .i64 (fstL [cmpI a d,cmpI b e,cmpI c f]))
  | _=>none
def polNa:Pol:={ pol with prim:=fun g=>if g == 84 then some nan84 else none }
def polCe:Pol:={ pol with prim:=fun g=>if g == 79 then some compare79 else if g == 78 then some first78 else none }
end Go.Proofs.Ytlendaofkmhgmaa
end
section
open Go Go.HL
namespace Go.Proofs.Ytlendaofkmhgmaa
set_option maxRecDepth 100000
open Go.Proofs.Try renaming prog → Tp
open Go.HL.HV renaming undef → Ud
noncomputable def B84:Code:=Try.f84.body.getD .skip
abbrev env84 (v0 v2:HV):Env:=[(0,v0),(2,v2)]
theorem nan_0 (x:Int)(g0:x=x):RT pol 84 (sub [] B84) [(0,.i x)] [] .ret (env84 (.i x) (.bool false)) [] :=
  RunsTo.hin 0 60 [⟨1,2,.bool false,[]⟩] fun kf hk=>⟨_,by kernel_rfl,(oB [] (congrArg not (decide_eq_true g0)) .nil)⟩
noncomputable def B79:Code:=Try.f79.body.getD .skip
abbrev env79 (v0 v1 v4 v5 v6:HV):Env:=[(0,v0),(1,v1),(4,v4),(5,v5),(6,v6)]
theorem cpr_0 (x y:Int)(g0:∀ kf,callN Tp polNa (kf+1) 84 [.i x] []=some (.bool false,[])) (g1:∀ kf,callN Tp polNa (kf+1) 84 [.i y] []=some (.bool false,[])) (g2:x < y):RT polNa 79 (sub [] B79) [(0,.i x),(1,.i y)] [] .ret (env79 (.i x) (.i y) (.i (-1)) (.bool false) (.bool false)) [] :=
  RunsTo.hin 0 60 [⟨1,1,.bool false,[]⟩,⟨2,1,.bool false,[]⟩,⟨9,2,.bool true,[]⟩] fun kf hk=>⟨_,by kernel_rfl,(oC (g0 kf) (oC (g1 kf) (oB [] (decide_eq_true g2) .nil)))⟩
theorem cpr_1 (x y:Int)(g0:∀ kf,callN Tp polNa (kf+1) 84 [.i x] []=some (.bool false,[])) (g1:∀ kf,callN Tp polNa (kf+1) 84 [.i y] []=some (.bool false,[])) (g2:¬ (x < y)) (g3:y < x):RT polNa 79 (sub [] B79) [(0,.i x),(1,.i y)] [] .ret (env79 (.i x) (.i y) (.i 1) (.bool false) (.bool false)) [] :=
  RunsTo.hin 0 60 [⟨1,1,.bool false,[]⟩,⟨2,1,.bool false,[]⟩,⟨9,2,.bool false,[]⟩,⟨11,2,.bool true,[]⟩] fun kf hk=>⟨_,by kernel_rfl,(oC (g0 kf) (oC (g1 kf) (oB [] (decide_eq_false g2) (oB [] (decide_eq_true g3) .nil))))⟩
theorem cpr_2 (x y:Int)(g0:∀ kf,callN Tp polNa (kf+1) 84 [.i x] []=some (.bool false,[])) (g1:∀ kf,callN Tp polNa (kf+1) 84 [.i y] []=some (.bool false,[])) (g2:¬ (x < y)) (g3:¬ (y < x)):RT polNa 79 (sub [] B79) [(0,.i x),(1,.i y)] [] .ret (env79 (.i x) (.i y) (.i 0) (.bool false) (.bool false)) [] :=
  RunsTo.hin 0 60 [⟨1,1,.bool false,[]⟩,⟨2,1,.bool false,[]⟩,⟨9,2,.bool false,[]⟩,⟨11,2,.bool false,[]⟩] fun kf hk=>⟨_,by kernel_rfl,(oC (g0 kf) (oC (g1 kf) (oB [] (decide_eq_false g2) (oB [] (decide_eq_false g3) .nil))))⟩
noncomputable def B91:Code:=Try.f91.body.getD .skip
abbrev env91 (v0 v1 v4:HV):Env:=[(0,v0),(1,v1),(4,v4)]
theorem les_0 (x y:Int)(g0:∀ kf,callN Tp polNa (kf+1) 84 [.i x] []=some (.bool false,[])) (g1:x < y):RT polNa 91 (sub [] B91) [(0,.i x),(1,.i y)] [] .ret (env91 (.i x) (.i y) (.bool true)) [] :=
  RunsTo.hin 0 60 [⟨1,1,.bool false,[]⟩,⟨1,10,.bool true,[]⟩] fun kf hk=>⟨_,by kernel_rfl,(oC (g0 kf) (oB [] (decide_eq_true g1) .nil))⟩
theorem les_1 (x y:Int)(g0:∀ kf,callN Tp polNa (kf+1) 84 [.i x] []=some (.bool false,[])) (g1:¬ (x < y)):RT polNa 91 (sub [] B91) [(0,.i x),(1,.i y)] [] .ret (env91 (.i x) (.i y) (.bool false)) [] :=
  RunsTo.hin 0 60 [⟨1,1,.bool false,[]⟩,⟨1,10,.bool false,[]⟩] fun kf hk=>⟨_,by kernel_rfl,(oC (g0 kf) (oB [] (decide_eq_false g1) .nil))⟩
noncomputable def B78:Code:=Try.f78.body.getD .skip
abbrev env78 (v0 v2 v4 v5 v6 v7:HV):Env:=[(0,v0),(2,v2),(4,v4),(5,v5),(6,v6),(7,v7)]
theorem fst_a_0 (la:List HV):RT pol 78 (sub [0] B78) [(0,.imm .arg 1 la)] [] .normal (env78 (.imm .arg 1 la) (.i 0) Ud Ud Ud Ud) [] :=
  RunsTo.hin 0 60 [] fun kf hk=>⟨_,by kernel_rfl,.nil⟩
theorem fst_b_0 (la:List HV):RT pol 78 (sub [1,0,0] B78) (env78 (.imm .arg 1 la) (.i 0) Ud Ud Ud Ud) [] .normal (env78 (.imm .arg 1 la) (.i 0) Ud (.imm .arg 1 la) (.i (la.length:Int)) (.i 0)) [] :=
  RunsTo.hin 0 60 [] fun kf hk=>⟨_,by kernel_rfl,.nil⟩
theorem fst_l_0 (la:List HV) (i:Nat) (y4:HV) (x0:Int) (g0:(i:Int) < (la.length:Int)) (g1:idxV Tp 23 (.imm .arg 1 la) (.i (i:Int))=some (.vptr (.i x0))) (g2:x0=0):RT pol 78 (sub [1,0,1,0,0] B78) (env78 (.imm .arg 1 la) (.i 0) y4 (.imm .arg 1 la) (.i (la.length:Int)) (.i (i:Int))) [] .normal (env78 (.imm .arg 1 la) (.i 0) (.i x0) (.imm .arg 1 la) (.i (la.length:Int)) (.i (IntKind.i64.wrap ((i:Int)+1)))) [] :=
  RunsTo.hin 0 60 [⟨2,0,.bool true,[]⟩,⟨3,0,.vptr (.i x0),[]⟩,⟨4,1,.bool false,[]⟩] fun kf hk=>⟨_,by kernel_rfl,(oB [] (decide_eq_true g0) (oP [] g1 (oB [] (congrArg not (decide_eq_true g2)) .nil)))⟩
theorem fst_l_1 (la:List HV) (i:Nat) (y4:HV) (x0:Int) (g0:(i:Int) < (la.length:Int)) (g1:idxV Tp 23 (.imm .arg 1 la) (.i (i:Int))=some (.vptr (.i x0))) (g2:¬ (x0=0)):RT pol 78 (sub [1,0,1,0,0] B78) (env78 (.imm .arg 1 la) (.i 0) y4 (.imm .arg 1 la) (.i (la.length:Int)) (.i (i:Int))) [] .ret (env78 (.imm .arg 1 la) (.i x0) (.i x0) (.imm .arg 1 la) (.i (la.length:Int)) (.i (i:Int))) [] :=
  RunsTo.hin 0 60 [⟨2,0,.bool true,[]⟩,⟨3,0,.vptr (.i x0),[]⟩,⟨4,1,.bool true,[]⟩] fun kf hk=>⟨_,by kernel_rfl,(oB [] (decide_eq_true g0) (oP [] g1 (oB [] (congrArg not (decide_eq_false g2)) .nil)))⟩
theorem fst_l_2 (la:List HV) (i:Nat) (y4:HV)(g0:¬ ((i:Int) < (la.length:Int))):RT pol 78 (sub [1,0,1,0,0] B78) (env78 (.imm .arg 1 la) (.i 0) y4 (.imm .arg 1 la) (.i (la.length:Int)) (.i (i:Int))) [] (.exit 0) (env78 (.imm .arg 1 la) (.i 0) y4 (.imm .arg 1 la) (.i (la.length:Int)) (.i (i:Int))) [] :=
  RunsTo.hin 0 60 [⟨2,0,.bool false,[]⟩] fun kf hk=>⟨_,by kernel_rfl,(oB [] (decide_eq_false g0) .nil)⟩
theorem fst_z_0 (la:List HV) (i:Nat) (y4:HV):RT pol 78 (sub [1,1] B78) (env78 (.imm .arg 1 la) (.i 0) y4 (.imm .arg 1 la) (.i (la.length:Int)) (.i (i:Int))) [] .ret (env78 (.imm .arg 1 la) (.i 0) y4 (.imm .arg 1 la) (.i (la.length:Int)) (.i (i:Int))) [] :=
  RunsTo.hin 0 60 [] fun kf hk=>⟨_,by kernel_rfl,.nil⟩
noncomputable def B77:Code:=Try.f77.body.getD .skip
abbrev env77 (v0 v1 v2 v3 v4:HV):Env:=[(0,v0),(1,v1),(2,v2),(3,v3),(4,v4)]
theorem ec_0 (a b c d e f:Int) (c0:Int) (c1:Int) (c2:Int) (c3:Int) (g0:∀ kf,callN Tp polCe (kf+1) 79 [.i a,.i d] [.arr 3 [.agg [.i a,.i b,.i c]] true 0,.arr 3 [.agg [.i d,.i e,.i f]] true 0]=some (.i c0,[.arr 3 [.agg [.i a,.i b,.i c]] true 0,.arr 3 [.agg [.i d,.i e,.i f]] true 0])) (g1:∀ kf,callN Tp polCe (kf+1) 79 [.i b,.i e] [.arr 3 [.agg [.i a,.i b,.i c]] true 0,.arr 3 [.agg [.i d,.i e,.i f]] true 0]=some (.i c1,[.arr 3 [.agg [.i a,.i b,.i c]] true 0,.arr 3 [.agg [.i d,.i e,.i f]] true 0])) (g2:∀ kf,callN Tp polCe (kf+1) 79 [.i c,.i f] [.arr 3 [.agg [.i a,.i b,.i c]] true 0,.arr 3 [.agg [.i d,.i e,.i f]] true 0]=some (.i c2,[.arr 3 [.agg [.i a,.i b,.i c]] true 0,.arr 3 [.agg [.i d,.i e,.i f]] true 0])) (g3:∀ kf,callN Tp polCe (kf+1) 78 [.imm .lit 1 [.i c0,.i c1,.i c2]] [.arr 3 [.agg [.i a,.i b,.i c]] true 0,.arr 3 [.agg [.i d,.i e,.i f]] true 0]=some (.i c3,[.arr 3 [.agg [.i a,.i b,.i c]] true 0,.arr 3 [.agg [.i d,.i e,.i f]] true 0])) (gS1:((same (.i b) (.i b) && sameH ([.arr 3 [.agg [.i a,.i b,.i c]] true 0,.arr 3 [.agg [.i d,.i e,.i f]] true 0]:Heap) [.arr 3 [.agg [.i a,.i b,.i c]] true 0,.arr 3 [.agg [.i d,.i e,.i f]] true 0] && sameH ([.arr 3 [.agg [.i a,.i b,.i c]] true 0,.arr 3 [.agg [.i d,.i e,.i f]] true 0]:Heap) [.arr 3 [.agg [.i a,.i b,.i c]] true 0,.arr 3 [.agg [.i d,.i e,.i f]] true 0]) && ((same (.i e) (.i e) && sameH ([.arr 3 [.agg [.i a,.i b,.i c]] true 0,.arr 3 [.agg [.i d,.i e,.i f]] true 0]:Heap) [.arr 3 [.agg [.i a,.i b,.i c]] true 0,.arr 3 [.agg [.i d,.i e,.i f]] true 0] && sameH ([.arr 3 [.agg [.i a,.i b,.i c]] true 0,.arr 3 [.agg [.i d,.i e,.i f]] true 0]:Heap) [.arr 3 [.agg [.i a,.i b,.i c]] true 0,.arr 3 [.agg [.i d,.i e,.i f]] true 0]) && ((same (.i c) (.i c) && sameH ([.arr 3 [.agg [.i a,.i b,.i c]] true 0,.arr 3 [.agg [.i d,.i e,.i f]] true 0]:Heap) [.arr 3 [.agg [.i a,.i b,.i c]] true 0,.arr 3 [.agg [.i d,.i e,.i f]] true 0] && sameH ([.arr 3 [.agg [.i a,.i b,.i c]] true 0,.arr 3 [.agg [.i d,.i e,.i f]] true 0]:Heap) [.arr 3 [.agg [.i a,.i b,.i c]] true 0,.arr 3 [.agg [.i d,.i e,.i f]] true 0]) && ((same (.i c) (.i c) && sameH ([.arr 3 [.agg [.i a,.i b,.i c]] true 0,.arr 3 [.agg [.i d,.i e,.i f]] true 0]:Heap) [.arr 3 [.agg [.i a,.i b,.i c]] true 0,.arr 3 [.agg [.i d,.i e,.i f]] true 0] && sameH ([.arr 3 [.agg [.i a,.i b,.i c]] true 0,.arr 3 [.agg [.i d,.i e,.i f]] true 0]:Heap) [.arr 3 [.agg [.i a,.i b,.i c]] true 0,.arr 3 [.agg [.i d,.i e,.i f]] true 0]) && ((same (.i f) (.i f) && sameH ([.arr 3 [.agg [.i a,.i b,.i c]] true 0,.arr 3 [.agg [.i d,.i e,.i f]] true 0]:Heap) [.arr 3 [.agg [.i a,.i b,.i c]] true 0,.arr 3 [.agg [.i d,.i e,.i f]] true 0] && sameH ([.arr 3 [.agg [.i a,.i b,.i c]] true 0,.arr 3 [.agg [.i d,.i e,.i f]] true 0]:Heap) [.arr 3 [.agg [.i a,.i b,.i c]] true 0,.arr 3 [.agg [.i d,.i e,.i f]] true 0]) && ((same (.i f) (.i f) && sameH ([.arr 3 [.agg [.i a,.i b,.i c]] true 0,.arr 3 [.agg [.i d,.i e,.i f]] true 0]:Heap) [.arr 3 [.agg [.i a,.i b,.i c]] true 0,.arr 3 [.agg [.i d,.i e,.i f]] true 0] && sameH ([.arr 3 [.agg [.i a,.i b,.i c]] true 0,.arr 3 [.agg [.i d,.i e,.i f]] true 0]:Heap) [.arr 3 [.agg [.i a,.i b,.i c]] true 0,.arr 3 [.agg [.i d,.i e,.i f]] true 0]) && true))))))=true):RT polCe 77 (sub [] B77) [(0,.agg [.i a,.i b,.i c]),(1,.agg [.i d,.i e,.i f])] [] .ret (env77 (.agg [.i a,.i b,.i c]) (.agg [.i d,.i e,.i f]) (.ptr 0 0 0 1) (.ptr 1 0 0 1) (.i c3)) [.arr 3 [.agg [.i a,.i b,.i c]] true 0,.arr 3 [.agg [.i d,.i e,.i f]] true 0] :=
  RunsTo.hin 0 60 [⟨1,4,.i c0,[.arr 3 [.agg [.i a,.i b,.i c]] true 0,.arr 3 [.agg [.i d,.i e,.i f]] true 0]⟩,⟨1,9,.i c1,[.arr 3 [.agg [.i a,.i b,.i c]] true 0,.arr 3 [.agg [.i d,.i e,.i f]] true 0]⟩,⟨1,14,.i c2,[.arr 3 [.agg [.i a,.i b,.i c]] true 0,.arr 3 [.agg [.i d,.i e,.i f]] true 0]⟩,⟨1,16,.i c3,[.arr 3 [.agg [.i a,.i b,.i c]] true 0,.arr 3 [.agg [.i d,.i e,.i f]] true 0]⟩] fun kf hk=>⟨_,by kernel_rfl,(oC (gS1) (oC (g0 kf) (oC (g1 kf) (oC (g2 kf) (oC (g3 kf) .nil)))))⟩
end Go.Proofs.Ytlendaofkmhgmaa
end
section
open Go Go.HL
namespace Go.Proofs.Ytlendaofkmhgmaa
open Go.Proofs.Try renaming prog → Tp
open Go.HL.HV renaming undef → Ud
theorem res84:Try.f84.results.toList=[.tmp 2]:=by kernel_rfl
theorem res79:Try.f79.results.toList=[.tmp 4]:=by kernel_rfl
theorem res91:Try.f91.results.toList=[.tmp 4]:=by kernel_rfl
theorem res78:Try.f78.results.toList=[.tmp 2]:=by kernel_rfl
theorem res77:Try.f77.results.toList=[.tmp 4]:=by kernel_rfl
theorem nan_ok:PrimOk Tp 84 nan84:=by
  refine primOk_pure (pol:=pol) (fn:=Try.f84) (cd:=B84) follows_mixed sound (by kernel_rfl) (by kernel_rfl) (fnok pol.prim _ _ (by kernel_rfl)) (by kernel_rfl) ?_
  intro args res h
  unfold nan84 at h
  split at h
  · rename_i x
    cases h
    exact ⟨_,_,_,.bool false,nan_0 x rfl,by simp,by simp only [resultsV,res84]; rfl,rfl⟩
  · cases h
theorem soundNa (n:Nat):CallSound Tp (callN Tp polNa n):=sound_prim _ (fun g f h=>by
  split at h
  · rename_i hg; cases h; rw [eq_of_beq hg]; exact nan_ok
  · cases h) n
theorem qnan (x:Int) (H:Heap):∀ kf,callN Tp polNa (kf+1) 84 [.int .i64 x] H=some (.bool false,H):=fun kf=>by
  rw [prim_call (pol:=polNa) (g:=84) (F:=nan84) (by kernel_rfl) (rs:=[.int .i64 x]) rfl (res:=.bool false) rfl]; rfl
theorem compare_ok:PrimOk Tp 79 compare79:=by
  refine primOk_pure (pol:=polNa) (fn:=Try.f79) (cd:=B79) follows_mixed soundNa (by kernel_rfl) (by kernel_rfl) (fnok polNa.prim _ _ (by kernel_rfl)) (by kernel_rfl) ?_
  intro args res h
  unfold compare79 at h
  split at h
  · rename_i x y
    cases h
    unfold cmpI
    by_cases c1:x < y
    · rw [if_pos c1]
      exact ⟨_,_,_,.int .i64 (-1),cpr_0 x y (qnan x []) (qnan y []) c1,by simp,by simp only [resultsV,res79]; rfl,rfl⟩
    · rw [if_neg c1]
      by_cases c2:y < x
      · rw [if_pos c2]
        exact ⟨_,_,_,.int .i64 1,cpr_1 x y (qnan x []) (qnan y []) c1 c2,by simp,by simp only [resultsV,res79]; rfl,rfl⟩
      · rw [if_neg c2]
        exact ⟨_,_,_,.int .i64 0,cpr_2 x y (qnan x []) (qnan y []) c1 c2,by simp,by simp only [resultsV,res79]; rfl,rfl⟩
  · cases h
theorem less_ok:PrimOk Tp 91 less91:=by
  refine primOk_pure (pol:=polNa) (fn:=Try.f91) (cd:=B91) follows_mixed soundNa (by kernel_rfl) (by kernel_rfl) (fnok polNa.prim _ _ (by kernel_rfl)) (by kernel_rfl) ?_
  intro args res h
  unfold less91 at h
  split at h
  · rename_i x y
    cases h
    by_cases c1:x < y
    · rw [decide_eq_true c1]
      exact ⟨_,_,_,.bool true,les_0 x y (qnan x []) c1,by simp,by simp only [resultsV,res91]; rfl,rfl⟩
    · rw [decide_eq_false c1]
      exact ⟨_,_,_,.bool false,les_1 x y (qnan x []) c1,by simp,by simp only [resultsV,res91]; rfl,rfl⟩
  · cases h
theorem fst_loop {l:List Int} (hl:l.length ≤ 1000):∀ k i (y4:HV),i+k=l.length → ∃ x E,RT pol 78 (sub [1,0,1,0] B78) (env78 (.imm .arg 1 (l.map encI)) (.int .i64 0) Ud (.imm .arg 1 (l.map encI)) (.int .i64 ((l.map encI).length:Int)) (.int .i64 (i:Int))) [] x E [] ∧
    ((x=.ret∧E.get 2=.int .i64 (fstL (l.drop i))) ∨ (x=.exit 0∧(∃ y4:HV,E=env78 (.imm .arg 1 (l.map encI)) (.int .i64 0) y4 (.imm .arg 1 (l.map encI)) (.int .i64 ((l.map encI).length:Int)) (.int .i64 ((l.length:Nat):Int)))∧fstL (l.drop i)=0)):=by
  intro k
  induction k with
  | zero =>
    intro i y4 hi
    have:i=l.length:=by omega
    subst this
    exact ⟨_,_,lpo (fst_l_2 (l.map encI) l.length Ud (by simp)),.inr ⟨rfl,⟨_,rfl⟩,by simp [fstL]⟩⟩
  | succ k ih =>
    intro i y4 hi
    have g:=gx (l:=l) (y:=i) (by omega)
    have hd:l.drop i=l.getD i 0 :: l.drop (i+1):=by
      rw [List.drop_eq_getElem_cons (by omega)]
      simp [List.getD,List.getElem?_eq_getElem (show i < l.length by omega)]
    by_cases c:l.getD i 0=0
    · have s:=fst_l_0 (l.map encI) i Ud _ (by rw [List.length_map]; omega) g c
      rw [wrap_succ (by omega)] at s
      obtain ⟨x,E,r,q⟩:=ih (i+1) Ud (by omega)
      have e:fstL (l.drop i)=fstL (l.drop (i+1)):=by rw [hd,fstL,if_pos c]
      rw [e]
      exact ⟨x,E,lop s rfl r,q⟩
    · have s:=fst_l_1 (l.map encI) i Ud _ (by rw [List.length_map]; omega) g c
      have e:fstL (l.drop i)=l.getD i 0:=by rw [hd,fstL,if_neg c]
      exact ⟨_,_,lpo s,.inl ⟨rfl,by rw [e]; rfl⟩⟩
theorem first_ok:PrimOk Tp 78 first78:=by
  refine primOk_pure (pol:=pol) (fn:=Try.f78) (cd:=B78) follows_mixed sound (by kernel_rfl) (by kernel_rfl) (fnok pol.prim _ _ (by kernel_rfl)) (by kernel_rfl) ?_
  intro args res h
  obtain ⟨l,rfl,hq⟩:=liF_inv h
  clear h
  split at hq
  · rename_i hl
    cases hq
    obtain ⟨x,E,r,q⟩:=fst_loop hl l.length 0 Ud (by omega)
    have a:=fst_a_0 (l.map encI)
    have b:=fst_b_0 (l.map encI)
    rcases q with ⟨rfl,q⟩ | ⟨rfl,⟨y4,rfl⟩,q⟩
    · have t1:=sq b (RunsTo.block_ret (i:=0) (c:=sub [1,0,1] B78) r (by kernel_rfl)) (c:=sub [1,0] B78)
      have t2:=sq a (sqo t1 (c:=sub [1] B78) (b:=sub [1,1] B78)) (c:=B78)
      exact ⟨_,_,_,.int .i64 (fstL l),t2,by simp,by simp only [resultsV,res78,mapO,resultV,q]; rfl,rfl⟩
    · have t1:=sq b (bke (c:=sub [1,0,1] B78) r) (c:=sub [1,0] B78)
      have z:=fst_z_0 (l.map encI) l.length y4
      have t2:=sq a (sq t1 z (c:=sub [1] B78)) (c:=B78)
      rw [List.drop_zero] at q
      rw [q]
      exact ⟨_,_,_,.int .i64 0,t2,by simp,by simp only [resultsV,res78]; rfl,rfl⟩
  · cases hq
theorem soundCe (n:Nat):CallSound Tp (callN Tp polCe n):=sound_prim _ (fun g f h=>by
  split at h
  · rename_i hg; cases h; rw [eq_of_beq hg]; exact compare_ok
  split at h
  · rename_i hg; cases h; rw [eq_of_beq hg]; exact first_ok
  · cases h) n
theorem qcmp (x y:Int) (H:Heap):∀ kf,callN Tp polCe (kf+1) 79 [.int .i64 x,.int .i64 y] H=some (.int .i64 (cmpI x y),H):=fun kf=>by
  rw [prim_call (pol:=polCe) (g:=79) (F:=compare79) (by kernel_rfl) (rs:=[.int .i64 x,.int .i64 y]) rfl (res:=.int .i64 (cmpI x y)) rfl]; rfl
theorem edge_ok:PrimOk Tp 77 edge77:=by
  refine primOk_pure (pol:=polCe) (fn:=Try.f77) (cd:=B77) follows_mixed soundCe (by kernel_rfl) (by kernel_rfl) (fnok polCe.prim _ _ (by kernel_rfl)) (by kernel_rfl) ?_
  intro args res h
  unfold edge77 at h
  split at h
  · rename_i a b c d e f
    cases h
    have s:=ec_0 a b c d e f _ _ _ (fstL [cmpI a d,cmpI b e,cmpI c f]) (qcmp a d _) (qcmp b e _) (qcmp c f _) (fun kf=>by
      rw [prim_call (pol:=polCe) (g:=78) (F:=first78) (by kernel_rfl) (rs:=[.imm .arg 1 [.int .i64 (cmpI a d),.int .i64 (cmpI b e),.int .i64 (cmpI c f)]]) rfl (res:=.int .i64 (fstL [cmpI a d,cmpI b e,cmpI c f])) rfl]; rfl) (by simp [same,sameL,sameH])
    exact ⟨_,_,_,.int .i64 (fstL [cmpI a d,cmpI b e,cmpI c f]),s,by simp,by simp only [resultsV,res77]; rfl,rfl⟩
  · cases h
end Go.Proofs.Ytlendaofkmhgmaa
end
section
namespace Go.HL.So
set_option linter.unusedSectionVars false
variable {α:Type} [Inhabited α]
abbrev at_ (l:List α) (i:Nat):α:=l.getD i default
def swp (l:List α) (i j:Nat):List α:=(l.set i (at_ l j)).set j (at_ l i)
theorem swp_len (l:List α) (i j:Nat):(swp l i j).length=l.length:=by simp [swp]
theorem set_at (l:List α) (i k:Nat) (v:α) (hi:i < l.length):at_ (l.set i v) k=if i=k then v else at_ l k:=by
  simp only [at_,List.getD,List.getElem?_set,hi]
  split
  · rename_i e; subst e; simp
  · rfl
theorem swp_at {l:List α} {i j:Nat} (hi:i < l.length) (hj:j < l.length) (k:Nat):at_ (swp l i j) k=if k=j then at_ l i else if k=i then at_ l j else at_ l k:=by
  unfold swp
  rw [set_at (l.set i (at_ l j)) j k (at_ l i) (by simpa using hj),set_at l i k (at_ l j) hi]
  by_cases e:j=k
  · subst e; simp
  · have e':¬ k=j:=fun h=>e h.symm
    rw [if_neg e,if_neg e']
    by_cases e2:i=k
    · subst e2; simp
    · have e2':¬ k=i:=fun h=>e2 h.symm
      rw [if_neg e2,if_neg e2']
theorem swp_perm {l:List α} {i j:Nat} (hi:i < l.length) (hj:j < l.length):(swp l i j).Perm l:=by
  have h:=Array.swap_perm (xs:=l.toArray) (i:=i) (j:=j) (by simpa using hi) (by simpa using hj)
  have h2:=h.toList
  rw [Array.toList_swap] at h2
  simpa [swp,at_,List.getD,List.getElem?_eq_getElem hi,List.getElem?_eq_getElem hj] using h2
inductive Sw (a b:Nat) (l:List α):List α → Prop
  | refl:Sw a b l l
  | step {l':List α} {i j:Nat}:Sw a b l l' → a ≤ i → i < b → a ≤ j → j < b → Sw a b l (swp l' i j)
theorem Sw.len {a b:Nat} {l l':List α} (h:Sw a b l l'):l'.length=l.length:=by
  induction h with
  | refl=>rfl
  | step h1 _ _ _ _ ih=>rw [swp_len,ih]
theorem Sw.trans {a b:Nat} {l l' l'':List α} (h:Sw a b l l') (h':Sw a b l' l''):Sw a b l l'':=by
  induction h' with
  | refl=>exact h
  | step _ h1 h2 h3 h4 ih=>exact ih.step h1 h2 h3 h4
theorem Sw.one {a b i j:Nat} {l:List α} (h1:a ≤ i) (h2:i < b) (h3:a ≤ j) (h4:j < b):Sw a b l (swp l i j):=Sw.refl.step h1 h2 h3 h4
theorem Sw.mono {a b a' b':Nat} {l l':List α} (h:Sw a b l l') (ha:a' ≤ a) (hb:b ≤ b'):Sw a' b' l l':=by
  induction h with
  | refl=>exact .refl
  | step _ h1 h2 h3 h4 ih=>exact ih.step (by omega) (by omega) (by omega) (by omega)
theorem Sw.perm {a b:Nat} {l l':List α} (h:Sw a b l l') (hb:b ≤ l.length):l'.Perm l:=by
  induction h with
  | refl=>exact List.Perm.refl _
  | step h1 h2 h3 h4 h5 ih=>exact (swp_perm (by rw [h1.len]; omega) (by rw [h1.len]; omega)).trans ih
theorem Sw.out {a b:Nat} {l l':List α} (h:Sw a b l l') (hb:b ≤ l.length) {k:Nat} (hk:k < a ∨ b ≤ k):at_ l' k=at_ l k:=by
  induction h with
  | refl=>rfl
  | step h1 h2 h3 h4 h5 ih=>rw [swp_at (by rw [h1.len]; omega) (by rw [h1.len]; omega),if_neg (by omega),if_neg (by omega),ih]
theorem Sw.all {a b:Nat} {l l':List α} (h:Sw a b l l') (hb:b ≤ l.length) {Q:α → Prop} {lo hi:Nat} (hlo:lo ≤ a) (hhi:b ≤ hi) (hQ:∀ i,lo ≤ i → i < hi → Q (at_ l i)):∀ i,lo ≤ i → i < hi → Q (at_ l' i):=by
  induction h with
  | refl=>exact hQ
  | step h1 h2 h3 h4 h5 ih =>
    intro k hk1 hk2
    rw [swp_at (by rw [h1.len]; omega) (by rw [h1.len]; omega)]
    split
    · exact ih _ (by omega) (by omega)
    · split
      · exact ih _ (by omega) (by omega)
      · exact ih _ hk1 hk2
theorem Sw.mem {a b:Nat} {l l':List α} (h:Sw a b l l') (hb:b ≤ l.length) {Q:α → Prop} (hQ:∀ x ∈ l,Q x):∀ x ∈ l',Q x:=fun x hx=>hQ x ((h.perm hb).mem_iff.1 hx)
structure Lin (lt:α → α → Prop):Prop where
  tr:∀ x y z,¬ lt y x → ¬ lt z y → ¬ lt z x
  asy:∀ x y,lt x y → ¬ lt y x
def Sorted (lt:α → α → Prop) (a b:Nat) (l:List α):Prop:=∀ i j,a ≤ i → i < j → j < b → ¬ lt (at_ l j) (at_ l i)
section
variable {lt:α → α → Prop} (hL:Lin lt)
include hL
theorem Lin.rf (x:α):¬ lt x x:=fun h=>hL.asy x x h h
def Sink (lt:α → α → Prop) (a i j:Nat) (l:List α):Prop:=∀ p q,a ≤ p → p < q → q < i → q ≠ j → ¬ lt (at_ l q) (at_ l p)
omit hL in
theorem sink_start {a i:Nat} {l:List α} (h:Sorted lt a i l):Sink lt a (i+1) i l:=fun p q h1 h2 h3 h4=>h p q h1 h2 (by omega)
theorem sink_step {a i j:Nat} {l:List α} (hi:i ≤ l.length) (hj:j < i) (ha:a < j) (h:Sink lt a i j l) (hc:lt (at_ l j) (at_ l (j - 1))):Sink lt a i (j - 1) (swp l j (j - 1)):=by
  intro p q h1 h2 h3 h4
  rw [swp_at (by omega) (by omega),swp_at (by omega) (by omega)]
  have hne:¬ q=j - 1:=h4
  rw [if_neg hne]
  by_cases eq:q=j
  · rw [if_pos eq]
    by_cases ep:p=j - 1
    · rw [if_pos ep]; exact hL.asy _ _ hc
    · rw [if_neg ep,if_neg (by omega)]
      exact h p (j - 1) h1 (by omega) (by omega) (by omega)
  · rw [if_neg eq]
    by_cases ep:p=j - 1
    · rw [if_pos ep]; exact h j q (by omega) (by omega) h3 eq
    · rw [if_neg ep]
      by_cases ep2:p=j
      · rw [if_pos ep2]; exact h (j - 1) q (by omega) (by omega) h3 eq
      · rw [if_neg ep2]; exact h p q h1 h2 h3 eq
theorem sink_end {a i j:Nat} {l:List α} (h:Sink lt a i j l) (hc:j ≤ a ∨ ¬ lt (at_ l j) (at_ l (j - 1))):Sorted lt a i l:=by
  intro p q h1 h2 h3
  by_cases e:q=j
  · subst e
    rcases hc with hc | hc
    · omega
    · by_cases ep:p=q - 1
      · subst ep; exact hc
      · exact hL.tr _ _ _ (h p (q - 1) h1 (by omega) (by omega) (by omega)) hc
  · exact h p q h1 h2 h3 e
def Hp (lt:α → α → Prop) (fi lo hi:Nat) (l:List α):Prop:=∀ k c,lo ≤ k → (c=2 * k+1 ∨ c=2 * k+2) → c < hi → ¬ lt (at_ l (fi+k)) (at_ l (fi+c))
def HpX (lt:α → α → Prop) (fi lo hi r:Nat) (l:List α):Prop :=
  (∀ k c,lo ≤ k → k ≠ r → (c=2 * k+1 ∨ c=2 * k+2) → c < hi → ¬ lt (at_ l (fi+k)) (at_ l (fi+c))) ∧
  (∀ k c,lo ≤ k → (r=2 * k+1 ∨ r=2 * k+2) → (c=2 * r+1 ∨ c=2 * r+2) → c < hi → ¬ lt (at_ l (fi+k)) (at_ l (fi+c)))
omit hL in
theorem hpx_start {fi lo hi:Nat} {l:List α} (h:Hp lt fi (lo+1) hi l):HpX lt fi lo hi lo l :=
  ⟨fun k c h1 h2 h3 h4=>h k c (by omega) h3 h4,fun k c h1 h2=>by omega⟩
theorem hpx_end {fi lo hi r:Nat} {l:List α} (h:HpX lt fi lo hi r l) (hr:∀ c,(c=2 * r+1 ∨ c=2 * r+2) → c < hi → ¬ lt (at_ l (fi+r)) (at_ l (fi+c))):Hp lt fi lo hi l:=by
  intro k c h1 h2 h3
  by_cases e:k=r
  · subst e; exact hr c h2 h3
  · exact h.1 k c h1 e h2 h3
theorem hpx_step {fi lo hi r c:Nat} {l:List α} (hb:fi+hi ≤ l.length) (h:HpX lt fi lo hi r l) (hr:lo ≤ r) (hc:c=2 * r+1 ∨ c=2 * r+2) (hch:c < hi) (hm:∀ c',(c'=2 * r+1 ∨ c'=2 * r+2) → c' < hi → ¬ lt (at_ l (fi+c)) (at_ l (fi+c'))) (hlt:lt (at_ l (fi+r)) (at_ l (fi+c))) :
    HpX lt fi lo hi c (swp l (fi+r) (fi+c)):=by
  have hsw:∀ k,at_ (swp l (fi+r) (fi+c)) (fi+k)=if k=c then at_ l (fi+r) else if k=r then at_ l (fi+c) else at_ l (fi+k):=fun k=>by
    rw [swp_at (by omega) (by omega)]
    by_cases e:k=c
    · subst e; simp
    · rw [if_neg (by omega),if_neg e]
      by_cases e2:k=r
      · subst e2; simp
      · rw [if_neg (by omega),if_neg e2]
  refine ⟨fun k c' h1 h2 h3 h4=>?_,fun k c' h1 h2 h3 h4=>?_⟩
  · rw [hsw,hsw,if_neg h2]
    by_cases ek:k=r
    · rw [if_pos ek]
      subst ek
      by_cases ec:c'=c
      · rw [if_pos ec]; exact hL.asy _ _ hlt
      · rw [if_neg ec,if_neg (by omega)]; exact hm c' h3 h4
    · rw [if_neg ek,if_neg (by omega)]
      by_cases ec:c'=r
      · rw [if_pos ec]
        exact h.2 k c h1 (by omega) hc hch
      · rw [if_neg ec]; exact h.1 k c' h1 ek h3 h4
  · have hk:k=r:=by omega
    subst hk
    rw [hsw,hsw,if_neg (by omega),if_pos rfl,if_neg (by omega),if_neg (by omega)]
    exact h.1 c c' (by omega) (by omega) h3 h4
theorem hp_root {fi hi:Nat} {l:List α} (h:Hp lt fi 0 hi l):∀ (m k:Nat),k ≤ m → k < hi → ¬ lt (at_ l fi) (at_ l (fi+k)):=by
  intro m
  induction m with
  | zero =>
    intro k hk _
    have:k=0:=by omega
    subst this
    exact hL.rf _
  | succ m ih =>
    intro k hk hlt
    by_cases e:k=0
    · subst e; exact hL.rf _
    · have h1:=ih ((k - 1) / 2) (by omega) (by omega)
      have h2:=h ((k - 1) / 2) k (Nat.zero_le _) (by omega) hlt
      exact fun h3=>by
        -- l[fi] < l[fi+k] <= l[parent] <= l[fi]
        exact hL.tr _ _ _ h2 h1 h3
def HsInv (lt:α → α → Prop) (fi hi m:Nat) (l:List α):Prop:=Hp lt fi 0 m l∧(∀ p q,m ≤ p → p < q → q < hi → ¬ lt (at_ l (fi+q)) (at_ l (fi+p)))∧∀ p q,p < m → m ≤ q → q < hi → ¬ lt (at_ l (fi+q)) (at_ l (fi+p))
theorem hs_swap {fi hi m:Nat} {l:List α} (hb:fi+hi ≤ l.length) (hm:m+1 ≤ hi) (h:HsInv lt fi hi (m+1) l) :
    Hp lt fi 1 m (swp l fi (fi+m))∧(∀ p q,m ≤ p → p < q → q < hi → ¬ lt (at_ (swp l fi (fi+m)) (fi+q)) (at_ (swp l fi (fi+m)) (fi+p)))∧∀ p q,p < m → m ≤ q → q < hi → ¬ lt (at_ (swp l fi (fi+m)) (fi+q)) (at_ (swp l fi (fi+m)) (fi+p)):=by
  obtain ⟨h1,h2,h3⟩:=h
  have hsw:∀ k,at_ (swp l fi (fi+m)) (fi+k)=if k=m then at_ l fi else if k=0 then at_ l (fi+m) else at_ l (fi+k):=fun k=>by
    rw [swp_at (by omega) (by omega)]
    by_cases e:k=m
    · subst e; simp
    · rw [if_neg (by omega),if_neg e]
      by_cases e2:k=0
      · subst e2; simp
      · rw [if_neg (by omega),if_neg e2]
  refine ⟨fun k c q1 q2 q3=>?_,fun p q q1 q2 q3=>?_,fun p q q1 q2 q3=>?_⟩
  · rw [hsw,hsw,if_neg (by omega),if_neg (by omega),if_neg (by omega),if_neg (by omega)]
    exact h1 k c (by omega) q2 (by omega)
  · rw [hsw q,if_neg (by omega),if_neg (by omega),hsw]
    by_cases e:p=m
    · rw [if_pos e]
      have:=h3 0 q (by omega) (by omega) q3
      simpa using this
    · rw [if_neg e,if_neg (by omega)]; exact h2 p q (by omega) q2 q3
  · rw [hsw p,if_neg (by omega),hsw]
    have key:∀ x,(∃ k,k < m+1∧x=at_ l (fi+k)) → ¬ lt (at_ l fi) x:=by
      rintro x ⟨k,hk,rfl⟩
      exact hp_root hL h1 k k (Nat.le_refl _) hk
    have hx:∃ k,k < m+1∧(if p=0 then at_ l (fi+m) else at_ l (fi+p))=at_ l (fi+k):=by
      by_cases e:p=0
      · exact ⟨m,by omega,by rw [if_pos e]⟩
      · exact ⟨p,by omega,by rw [if_neg e]⟩
    by_cases e:q=m
    · rw [if_pos e]; exact key _ hx
    · rw [if_neg e,if_neg (by omega)]
      obtain ⟨k,hk,e2⟩:=hx
      rw [e2]
      exact h3 k q hk (by omega) q3
end
end Go.HL.So
end
section
open Go Go.HL
namespace Go.Proofs.Ytlendaofkmhgmaa
open Go.Proofs.Try renaming prog → Tp
open Go.HL.HV renaming undef → Ud
noncomputable def tabS:HV:=match sub [1,1,1,1,0] (Try.f95.body.getD .skip) with
  | .region _ ops _=>(match ops[3]? with | some o=>(match o.op with | .index _ x _=>opVal [] x | _=>Ud) | none=>Ud)
  | _=>Ud
def bl:Nat → Nat → Nat
  | 0,_=>0
  | k+1,y=>if y=0 then 0 else 1+bl k (y / 2)
noncomputable def tabOk:Bool:=(List.range 256).all fun y=>(match elemV Tp 9 tabS (.int .u8 (y:Int)) with | some (.int .u8 z)=>decide (z=(bl 8 y:Int)) | _=>false) && decide (y < 2 ^ bl 8 y) && (decide (y=0) || decide (2 ^ bl 8 y ≤ 2 * y)) && decide (bl 8 y ≤ 8)
theorem tabOk_true:tabOk=true:=by kernel_rfl
def lenN (x:Nat):Nat:=if x < 256 then bl 8 x else 8+bl 8 (x / 256)
theorem tab_at {y:Nat} (hy:y < 256):elemV Tp 9 tabS (.int .u8 (y:Int))=some (.int .u8 (bl 8 y:Int))∧y < 2 ^ bl 8 y∧(0 < y → 2 ^ bl 8 y ≤ 2 * y)∧bl 8 y ≤ 8:=by
  have h:=List.all_eq_true.1 tabOk_true y (List.mem_range.2 hy)
  simp only [Bool.and_eq_true,Bool.or_eq_true,decide_eq_true_eq] at h
  obtain ⟨⟨⟨h1,h2⟩,h3⟩,h4⟩:=h
  refine ⟨?_,h2,fun h0=>h3.resolve_left (by omega),h4⟩
  split at h1
  · rename_i z hz
    rw [hz,of_decide_eq_true h1]
  · cases h1
theorem lenN_ok {x:Nat} (hx:x < 65536):(0 < x → x < 2 ^ lenN x∧2 ^ lenN x ≤ 2 * x)∧lenN x ≤ 16:=by
  unfold lenN
  split
  · rename_i c
    obtain ⟨_,h2,h3,h4⟩:=tab_at c
    exact ⟨fun h=>⟨h2,h3 h⟩,by omega⟩
  · rename_i c
    obtain ⟨_,h2,h3,h4⟩:=tab_at (y:=x / 256) (by omega)
    have h5:=h3 (by omega)
    rw [Nat.pow_add]
    generalize 2 ^ bl 8 (x / 256)=p at h2 h5
    exact ⟨fun h=>by omega,by omega⟩
def len95:List HV → Option HV
  | [.int .u64 x]=>if 0 ≤ x∧x < 65536 then some (.int .i64 (lenN x.toNat:Int)) else none
  | _=>none
def next105:List HV → Option HV
  | [.int .i64 x]=>if 0 ≤ x∧x < 65536 then some (.int .u64 ((2 ^ lenN x.toNat:Nat):Int)) else none
  | _=>none
def polLb:Pol:={ pol with prim:=fun g=>if g == 95 then some len95 else none }
def polLc:Pol:={ pol with prim:=fun g=>if g == 82 then some len95 else none }
end Go.Proofs.Ytlendaofkmhgmaa
end
section
open Go Go.HL
namespace Go.Proofs.Ytlendaofkmhgmaa
set_option maxRecDepth 100000
open Go.Proofs.Try renaming prog → Tp
open Go.HL.HV renaming undef → Ud
noncomputable def B95:Code:=Try.f95.body.getD .skip
abbrev env95 (v0 v2:HV):Env:=[(0,v0),(2,v2)]
theorem l95_6 (x:Int) (h0:Int) (z0:Int) (g0:¬ (4294967296 ≤ x)) (g1:¬ (65536 ≤ x)) (g2:256 ≤ x) (g3:binV Tp .shr 122 (.int .u64 x) (.int .u64 8)=some (.int .u64 h0)) (g4:elemV Tp 9 tabS (.int .u8 (IntKind.u8.wrap h0))=some (.int .u8 z0)):RT pol 95 (sub [] B95) [(0,.int .u64 x)] [] .ret (env95 (.int .u64 h0) (.i (IntKind.i64.wrap (8+IntKind.i64.wrap z0)))) [] :=
  RunsTo.hin 0 60 [⟨1,1,.bool false,[]⟩,⟨4,1,.bool false,[]⟩,⟨7,1,.bool true,[]⟩,⟨8,1,.int .u64 h0,[]⟩,⟨10,3,.int .u8 z0,[]⟩] fun kf hk=>⟨_,by kernel_rfl,(oB [] (decide_eq_false g0) (oB [] (decide_eq_false g1) (oB [] (decide_eq_true g2) (oP [] g3 (oP [] g4 .nil)))))⟩
theorem l95_7 (x:Int) (z0:Int) (g0:¬ (4294967296 ≤ x)) (g1:¬ (65536 ≤ x)) (g2:¬ (256 ≤ x)) (g3:elemV Tp 9 tabS (.int .u8 (IntKind.u8.wrap x))=some (.int .u8 z0)):RT pol 95 (sub [] B95) [(0,.int .u64 x)] [] .ret (env95 (.int .u64 x) (.i (IntKind.i64.wrap (0+IntKind.i64.wrap z0)))) [] :=
  RunsTo.hin 0 60 [⟨1,1,.bool false,[]⟩,⟨4,1,.bool false,[]⟩,⟨7,1,.bool false,[]⟩,⟨10,3,.int .u8 z0,[]⟩] fun kf hk=>⟨_,by kernel_rfl,(oB [] (decide_eq_false g0) (oB [] (decide_eq_false g1) (oB [] (decide_eq_false g2) (oP [] g3 .nil))))⟩
noncomputable def B82:Code:=Try.f82.body.getD .skip
abbrev env82 (v0 v2:HV):Env:=[(0,v0),(2,v2)]
theorem l82_0 (x:Int) (c0:Int) (g0:∀ kf,callN Tp polLb (kf+1) 95 [.int .u64 x] []=some (.i c0,[])):RT polLb 82 (sub [] B82) [(0,.int .u64 x)] [] .ret (env82 (.int .u64 x) (.i c0)) [] :=
  RunsTo.hin 0 60 [⟨2,1,.i c0,[]⟩] fun kf hk=>⟨_,by kernel_rfl,(oC (g0 kf) .nil)⟩
noncomputable def B105:Code:=Try.f105.body.getD .skip
abbrev env105 (v0 v2:HV):Env:=[(0,v0),(2,v2)]
theorem l105_0 (x:Int) (c0:Int) (h0:Int) (g0:∀ kf,callN Tp polLc (kf+1) 82 [.int .u64 (IntKind.u64.wrap x)] []=some (.i c0,[])) (g1:binV Tp .shl 81 (.int .u64 1) (.i c0)=some (.int .u64 h0)):RT polLc 105 (sub [] B105) [(0,.i x)] [] .ret (env105 (.i x) (.int .u64 h0)) [] :=
  RunsTo.hin 0 60 [⟨1,2,.i c0,[]⟩,⟨1,3,.int .u64 h0,[]⟩] fun kf hk=>⟨_,by kernel_rfl,(oC (g0 kf) (oP [] g1 .nil))⟩
end Go.Proofs.Ytlendaofkmhgmaa
end
section
open Go Go.HL
namespace Go.Proofs.Ytlendaofkmhgmaa
open Go.Proofs.Try renaming prog → Tp
open Go.HL.HV renaming undef → Ud
theorem res95:Try.f95.results.toList=[.tmp 2]:=by kernel_rfl
theorem res82:Try.f82.results.toList=[.tmp 2]:=by kernel_rfl
theorem res105:Try.f105.results.toList=[.tmp 2]:=by kernel_rfl
theorem u8w {n:Nat} (h:n < 256):IntKind.u8.wrap (n:Int)=(n:Int):=by
  have:IntKind.u8.wrap (n:Int)=(n:Int) % 256:=by simp [IntKind.wrap,IntKind.signed,IntKind.bits]
  rw [this]; omega
theorem len95_ok:PrimOk Tp 95 len95:=by
  refine primOk_pure (pol:=pol) (fn:=Try.f95) (cd:=B95) follows_mixed sound (by kernel_rfl) (by kernel_rfl) (fnok pol.prim _ _ (by kernel_rfl)) (by kernel_rfl) ?_
  intro args res h
  unfold len95 at h
  split at h
  · rename_i x
    split at h
    · rename_i hx
      cases h
      obtain ⟨n,rfl⟩:∃ n:Nat,x=(n:Int):=⟨x.toNat,by omega⟩
      rw [Int.toNat_natCast]
      unfold lenN
      split
      · rename_i c
        obtain ⟨h1,_,_,h4⟩:=tab_at c
        have t:=l95_7 (n:Int) (bl 8 n:Int) (by omega) (by omega) (by omega) (by rw [u8w c]; exact h1)
        rw [wrap_id (n:=(bl 8 n:Int)) (by omega) (by omega),wrap_id (by omega) (by omega),Int.zero_add] at t
        exact ⟨_,_,_,.int .i64 (bl 8 n:Int),t,by simp,by simp only [resultsV,res95]; rfl,rfl⟩
      · rename_i c
        obtain ⟨h1,_,_,h4⟩:=tab_at (y:=n / 256) (by omega)
        have hs:binV Tp .shr 122 (.int .u64 (n:Int)) (.int .u64 8)=some (.int .u64 ((n / 256:Nat):Int)):=by
          have e:binV Tp .shr 122 (.int .u64 (n:Int)) (.int .u64 8)=some (.int .u64 ((n:Int).fdiv (2 ^ min (8:Int).toNat 64))):=rfl
          rw [e]
          have:((n:Int).fdiv (2 ^ min (8:Int).toNat 64))=((n / 256:Nat):Int):=by
            rw [show ((2:Int) ^ min (8:Int).toNat 64)=((256:Nat):Int) by decide,Int.fdiv_eq_ediv_of_nonneg _ (Int.natCast_nonneg _)]
            rfl
          rw [this]
        have t:=l95_6 (n:Int) _ (bl 8 (n / 256):Int) (by omega) (by omega) (by omega) hs (by rw [u8w (by omega)]; exact h1)
        rw [wrap_id (n:=(bl 8 (n / 256):Int)) (by omega) (by omega),wrap_id (by omega) (by omega),show (8:Int)+(bl 8 (n / 256):Int)=((8+bl 8 (n / 256):Nat):Int) by omega] at t
        exact ⟨_,_,_,.int .i64 ((8+bl 8 (n / 256):Nat):Int),t,by simp,by simp only [resultsV,res95]; rfl,rfl⟩
    · cases h
  · cases h
theorem soundLb (n:Nat):CallSound Tp (callN Tp polLb n):=sound_prim _ (fun g f h=>by
  split at h
  · rename_i hg; cases h; rw [eq_of_beq hg]; exact len95_ok
  · cases h) n
theorem len82_ok:PrimOk Tp 82 len95:=by
  refine primOk_pure (pol:=polLb) (fn:=Try.f82) (cd:=B82) follows_mixed soundLb (by kernel_rfl) (by kernel_rfl) (fnok polLb.prim _ _ (by kernel_rfl)) (by kernel_rfl) ?_
  intro args res h
  have h':=h
  unfold len95 at h
  split at h
  · rename_i x
    split at h
    · rename_i hx
      cases h
      have t:=l82_0 x _ (fun kf=>by
        rw [prim_call (pol:=polLb) (g:=95) (F:=len95) (by kernel_rfl) (rs:=[.int .u64 x]) rfl h']; rfl)
      exact ⟨_,_,_,.int .i64 (lenN x.toNat:Int),t,by simp,by simp only [resultsV,res82]; rfl,rfl⟩
    · cases h
  · cases h
theorem soundLc (n:Nat):CallSound Tp (callN Tp polLc n):=sound_prim _ (fun g f h=>by
  split at h
  · rename_i hg; cases h; rw [eq_of_beq hg]; exact len82_ok
  · cases h) n
theorem next_ok:PrimOk Tp 105 next105:=by
  refine primOk_pure (pol:=polLc) (fn:=Try.f105) (cd:=B105) follows_mixed soundLc (by kernel_rfl) (by kernel_rfl) (fnok polLc.prim _ _ (by kernel_rfl)) (by kernel_rfl) ?_
  intro args res h
  unfold next105 at h
  split at h
  · rename_i x
    split at h
    · rename_i hx
      cases h
      obtain ⟨n,rfl⟩:∃ n:Nat,x=(n:Int):=⟨x.toNat,by omega⟩
      rw [Int.toNat_natCast]
      have hl:=(lenN_ok (x:=n) (by omega)).2
      have hu:IntKind.u64.wrap (n:Int)=(n:Int):=by rw [wrapU64]; omega
      have hs:binV Tp .shl 81 (.int .u64 1) (.int .i64 (lenN n:Int))=some (.int .u64 ((2 ^ lenN n:Nat):Int)):=by
        have e:binV Tp .shl 81 (.int .u64 1) (.int .i64 (lenN n:Int))=if (lenN n:Int) < 0 then none else some (.int .u64 (IntKind.u64.wrap (1 * 2 ^ min (lenN n:Int).toNat 64))):=rfl
        rw [e,if_neg (by omega),Int.toNat_natCast,show min (lenN n) 64=lenN n by omega,Int.one_mul,show ((2:Int) ^ lenN n)=((2 ^ lenN n:Nat):Int) by push_cast; rfl]
        have h2:2 ^ lenN n ≤ 2 ^ 16:=Nat.pow_le_pow_right (by omega) hl
        have h3:2 ^ lenN n ≤ 65536:=h2
        generalize 2 ^ lenN n=p at h3
        rw [wrapU64,show (p:Int) % 18446744073709551616=p by omega]
      have t:=l105_0 (n:Int) (lenN n:Int) _ (fun kf=>by
        rw [hu,prim_call (pol:=polLc) (g:=82) (F:=len95) (by kernel_rfl) (rs:=[.int .u64 (n:Int)]) rfl (res:=.int .i64 (lenN n:Int)) (by simp only [len95]; rw [if_pos (by omega),Int.toNat_natCast])]; rfl) hs
      exact ⟨_,_,_,.int .u64 ((2 ^ lenN n:Nat):Int),t,by simp,by simp only [resultsV,res105]; rfl,rfl⟩
    · cases h
  · cases h
end Go.Proofs.Ytlendaofkmhgmaa
end
section
open Go Go.HL Go.HL.So
namespace Go.Proofs.Ytlendaofkmhgmaa
open Go.Proofs.Try renaming prog → Tp
open Go.HL.HV renaming undef → Ud
def polSo:Pol:={ pol with prim:=fun g=>if g == 77 then some edge77 else if g == 91 then some less91 else if g == 82 then some len95 else if g == 105 then some next105 else none }
theorem soundSo (n:Nat):CallSound Tp (callN Tp polSo n):=sound_prim _ (fun g f h=>by
  split at h
  · rename_i hg; cases h; rw [eq_of_beq hg]; exact edge_ok
  split at h
  · rename_i hg; cases h; rw [eq_of_beq hg]; exact less_ok
  split at h
  · rename_i hg; cases h; rw [eq_of_beq hg]; exact len82_ok
  split at h
  · rename_i hg; cases h; rw [eq_of_beq hg]; exact next_ok
  · cases h) n
theorem RunsTo.block_other {P:Program} {pol:Pol} {f:FuncId} {b c:Code} {e E:Env} {H H':Heap} {x:X} {K:List Nat} {i:Nat} (h:RunsTo P pol f b e H x K E H') (hx:x ≠ .exit i) (hc:c=.block i b):RunsTo P pol f c e H x K E H':=by
  have:=RunsTo.block hc h
  rwa [if_neg hx] at this
theorem RunsTo.skip {P:Program} {pol:Pol} {f:FuncId} {c:Code} {e E:Env} {H:Heap} {K:List Nat} (hE:restr K e=E) (hc:c=.skip):RunsTo P pol f c e H .normal K E H:=by
  subst hc
  refine ⟨1,fun n k hn _=>⟨e,?_,hE⟩⟩
  obtain ⟨n,rfl⟩:∃ m,n=m+1:=⟨n - 1,by omega⟩
  rfl
abbrev ClS (g:FuncId) (args:List HV) (H:Heap) (r:HV) (H':Heap):Prop:=CallsTo (P:=Tp) (pol:=polSo) g args H r H'
end Go.Proofs.Ytlendaofkmhgmaa
end
