/- A part of the proof. -/
import Derived.Test.YtaibmipamkaljaaHlA
import Derived.Test.YtaibmipamkaljaaHlB
import Derived.Test.YtaibmipamkaljaaHlC
import Derived.Test.YtaibmipamkaljaaHlD
import Derived.Test.YtaibmipamkaljaaHlE
import Derived.Test.YtaibmipamkaljaaHlF
import Derived.ProofKit
import Derived.Test.YtaibmipamkaljaaProg
import Derived.Deep.Slices
import Derived.OpenShut
set_option linter.unusedVariables false
set_option linter.unusedSimpArgs false
set_option linter.unnecessarySimpa false
namespace Go.HL
abbrev HV.i (n:Int):HV:=.int .i64 n
abbrev HV.a (l:List HV):HV:=.imm .arg 1 l
abbrev HV.s (b n:Nat):HV:=.sl b 0 n none n 1
abbrev HV.c (b n:Nat) (cap:Option Nat):HV:=.sl b 0 n cap n 1
abbrev HV.o (b n:Nat):HV:=.sl b 0 n (some n) n 1
abbrev Blk.b (l:List HV):Blk:=.arr 1 l true 0
section
variable {P:Program} {pol:Pol} {f:FuncId} {c:Code} {e E:Env} {H H':Heap} {x:X} {K:List Nat}
theorem RunsTo.hin (d n:Nat) (hs:List Hint) (h:∀ k,d ≤ k → ∃ ob,hview K (evCH P pol (callN P pol (k+1)) n f c e H hs)=some (x,E,H',ob)∧Obls ob):RunsTo P pol f c e H x K E H':=RunsTo.hint (d+1) n hs fun k hk=>by
  obtain ⟨k,rfl⟩:∃ n,k=n+1:=⟨k - 1,by omega⟩
  exact h k (by omega)
theorem oC {p:Prop} {os:List Prop} (h:p) (t:Obls os):Obls (p :: os):=Obls.cons h t
theorem oP (H:Heap) {r:Option HV} {v:HV} {os:List Prop} (h:r=some v) (t:Obls os):Obls ((r.map (fun v=>(v,H))=some (v,H)) :: os):=Obls.cons (hintOp h) t
theorem oS {r:Option Heap} {H:Heap} {os:List Prop} (h:r=some H) (t:Obls os):Obls ((r.map (fun H=>(HV.tuple [],H))=some (.tuple [],H)) :: os):=Obls.cons (hintSt h) t
theorem oB (H:Heap) {p b:Bool} {os:List Prop} (h:p=b) (t:Obls os):Obls ((some (HV.bool p,H)=some (HV.bool b,H)) :: os):=Obls.cons (hintB h) t
end
end Go.HL
namespace Go.HL
theorem sq {P:Program} {pol:Pol} {f:FuncId} {a b c:Code} {e E1 E:Env} {H H1 H':Heap} {x:X} {K K1:List Nat} (h1:RunsTo P pol f a e H .normal K1 E1 H1) (h2:RunsTo P pol f b E1 H1 x K E H') (hc:c=.seq a b:=by kernel_rfl) (hK:K1=pol.keys f ++ headTmp b:=by kernel_rfl):RunsTo P pol f c e H x K E H':=RunsTo.seq h1 h2 hc hK
theorem sqo {P:Program} {pol:Pol} {f:FuncId} {a b c:Code} {e E:Env} {H H':Heap} {x:X} {K:List Nat} (h1:RunsTo P pol f a e H x K E H') (hx:x ≠ .normal:=by simp) (hc:c=.seq a b:=by kernel_rfl):RunsTo P pol f c e H x K E H':=RunsTo.seq_out h1 hx hc
theorem lpo {P:Program} {pol:Pol} {f:FuncId} {b c:Code} {e E:Env} {H H':Heap} {x:X} {K:List Nat} (h1:RunsTo P pol f b e H x K E H') (hx:x ≠ .normal:=by simp) (hc:c=.loop b:=by kernel_rfl) (he:lrestr pol f b e=e:=by kernel_rfl):RunsTo P pol f c e H x K E H':=RunsTo.loop_out h1 hx hc he
theorem lpi {P:Program} {pol:Pol} {f:FuncId} {b c:Code} {e0 e E:Env} {H H':Heap} {x:X} {K:List Nat} (h:RunsTo P pol f c e H x K E H') (hc:c=.loop b:=by kernel_rfl) (h0:lrestr pol f b e0=e:=by kernel_rfl) (he:lrestr pol f b e=e:=by kernel_rfl):RunsTo P pol f c e0 H x K E H':=RunsTo.loop_in h hc h0 he
theorem bke {P:Program} {pol:Pol} {f:FuncId} {b c:Code} {e E:Env} {H H':Heap} {K:List Nat} {i:Nat} (h:RunsTo P pol f b e H (.exit i) K E H') (hc:c=.block i b:=by kernel_rfl):RunsTo P pol f c e H .normal K E H':=RunsTo.block_exit h hc
theorem lop {P:Program} {pol:Pol} {f:FuncId} {b c:Code} {e E0 E1 E:Env} {H H1 H2 H':Heap} {x:X} {K K1:List Nat} (h1:RunsTo P pol f b e H .normal K1 E0 H1) (hg:gc H.length (bndE E1) H1=H2) (h2:RunsTo P pol f c E1 H2 x K E H') (hE:lrestr pol f b E0=E1:=by kernel_rfl) (hK:K1=pol.keys f:=by rfl) (hc:c=.loop b:=by kernel_rfl) (he:lrestr pol f b e=e:=by kernel_rfl):RunsTo P pol f c e H x K E H':=RunsTo.loop h1 hE hg h2 hK hc he
end Go.HL
section
open Go Go.HL
namespace Go.Proofs.Ytaibmipamkaljaa
abbrev RT (pol:Pol) (f:FuncId) (c:Code) (e:Env) (H:Heap) (x:X) (E:Env) (H':Heap):Prop:=RunsTo Try.prog pol f c e H x (pol.keys f) E H'
end Go.Proofs.Ytaibmipamkaljaa
end
section
open Go Go.HL
namespace Go.Proofs.Ytaibmipamkaljaa
open Go.Proofs.Try renaming prog → Tp
open Go.HL.HV renaming undef → Ud
def keysT:List (List Nat):=[[],[],[],[0,1,4,5,6,7],[0,1,2,6,7,8,9,10],[0,1,4,5,6,7,8,9,10,11,12,13,14,16],[0,1,4,5,6,7,8,9,10,11,12,13,14,15,16],[0,1,2,6,7,8,9,10,11,12,13,14,15,16],[0,1,2,3,8,9,10,11,12,13,14,15,16,17,18,19,20,21,22,23],[0,1,2,6,7,8,9,10,11,12,13,14,15,16,17],[0,1,4,5,6,7,8,10,11,12,13,14,15,16,17,18],[0,1,2,6,7,8,9,10,11,12,13,14,15,16,17,19],[0,1,2,6,7,8,10,11,12,14,15,16,17,19,21],[0,1,4,5,6,7,8,9,11,12,13,14,15,16,17,18,19,20,21,22],[0,2,3],[0,1,4,5,6,7,9,24,25,26],[0,1,2,3,4,5,6,7,8,9,10],[0,1,4,5],[0,1,4,5,6,7,8,9,10,11,12,13,14],[0,1,2,6,7,8,10,12,33,34,35,39,40,41],[0,2,3],[0,1,4,5,6],[0,1,2,6,7,8,9,10,11],[0,2,3,4],[0,1,2,6,7,8,9,10],[0,2,3,4,5],[0,1,4,5,6,7,8],[0,1,2,6,7,8,9,10],[0,2],[0,1,4,5,6,7,8,9,10,36],[0,1,4],[0,1,4],[0,1,4,5,6,7],[0,2,3,4,5],[0,1,2,6,7,8,9,10,11,12],[0,2,3,4],[0,1,4,5],[0,1,2,3,8,9,10,11,12,13,14,15,16,17,18,19,20],[0,1,4,5],[0,1,4,5,6,7,8,9,11,12,13,14,15,32,33,34,42,57],[0,2,3,4],[0,1,4],[0,2,3,4,5,6,7,8,17,18,25,26],[0,2],[0,1,4,5,6,7,8],[0,1,4,5],[0,1,4,5,6,7,8,9,10],[0,1,2,6],[0,1,2,3,4,5,6,7,8,9,10],[0,1,2,4,5,6,7,35],[0,1,2,6],[0,2,3],[0,1,4,5,7,9,10,11],[0,2],[0,2,3,4,5],[0,2,3,4,5,6,16,17,18],[0,1,2,4,5,6,8,9,10,11,12,13],[0,1,2,3,4,6,8,9,10,11,12],[0,1,2,4,5,6,7,8,15,16,17],[0,1,2,3,4,5,6],[0,1,2,6,7,8],[0,1,4,5,6],[0,1,2,3,4],[0,1,4],[0,1,4,5,6,7,8,9,10,11],[0,1,2,3,4,5,6,8,9,10],[0,1,2,3,4,5,6],[0,1,2,3,8,9,10,11,12,13,14,15,16,17,18],[0,2],[0,2],[0,1,2,3,4,10,11,12,13,14,15,16,17,18,19,20],[0,1,4,5,6],[0,1,2,6,7],[0,1,2,6,7,8,9,10],[0,1,2,6,7,8,9,10],[0,1,2,6,7,8,9,10,11,12,49],[0,1,2,6,7],[0,1,2,6,7,8,9,10],[0,1,4],[0,1,2,3,8,9,10],[0,1,2,3,8,9,10,11],[0,2],[0,2],[0,1,2,3,8,9],[0,1,2,3,8,9,10,11,12],[0,1,2,8,9,10,11,12],[0,1,2,3,8,9,10,11,12,13,14,55],[0,1,2,8,9],[0,1,2,3,8,9,10,11,12],[0,1,2,3,4,10,11,12],[0,1,2,3,4,10,11,12,13],[0,2],[0,1,2,3,8,9],[0,2],[0,2],[0,1,2,6],[0,1,2,3,4,10],[0,1,2,3,4,10,11],[0,1,2,3,8],[0,1,2,3,4,5,12],[0,1,2,3,8,9],[0,1,2,3,4,10,11],[],[],[],[],[],[],[],[],[],[],[],[],[],[],[],[]]
def resT:List (List Nat):=[[],[],[],[4],[6],[4],[4],[6],[8],[6],[4],[6],[6],[4],[2],[4,5],[0],[4],[4],[6,7],[2],[4],[6],[2],[6],[2,3],[4,5],[6,7],[2],[4,5],[4],[4],[4],[2],[6,7],[2],[4],[8,9],[4],[4,5],[2],[4],[2,3],[2],[4],[4],[4],[6],[8],[4],[6],[2],[4],[],[2],[3],[4,5],[8,9],[5],[],[6],[4],[4],[],[4],[],[],[],[2],[2],[],[4],[],[],[],[6,7],[],[6],[4],[8],[8,9],[2],[2],[],[],[],[8,9],[],[8],[10],[10,11],[2],[],[2],[2],[6],[10],[],[8],[12],[8,9],[10,11],[],[],[],[],[],[],[],[],[],[],[],[],[],[],[],[]]
def sharedT:List Nat:=[53,63,65,67,70,72,73,74,75,76,77,79,80,83,84,85,86,87,88,89,90,92,94,95,96,97,98,99,100,101,110,111,112,113,114,115,116]
def deadT:List (Nat × Nat × List Nat):=[(5,14,[7,8,10,11,12,16]),(6,9,[8,12,13,14,15,16]),(6,13,[8,11,13,14,15,16]),(7,4,[10,11,12,13,14,15,16]),(7,17,[8,9,10,12,13,14]),(8,8,[9,19,20,21,22,23]),(8,15,[9,11,12,14,15,16,17,18,20,22,23]),(8,19,[9,11,12,14,15,16,17,18,20]),(10,9,[8,13,14,15,16,17,18]),(13,9,[16,17,18,19,20,21,22]),(13,14,[9,11,13,15,18,19,20,21,22]),(13,17,[9,11,13,15,19,20,21,22]),(15,6,[9]),(18,4,[8,9,10,11,12,13,14]),(18,8,[10,11,12,13,14]),(18,11,[11,12,13,14]),(18,20,[7,8,9,10,14]),(19,5,[10,12,39,40,41]),(19,8,[12]),(21,2,[6]),(22,3,[9,10,11]),(22,6,[10,11]),(22,11,[8,9]),(24,3,[9,10]),(27,3,[10]),(29,9,[7,36]),(32,3,[7]),(33,3,[5]),(37,4,[13,14,15,16,17,18,19,20]),(37,8,[15,16,17,18,19,20]),(37,21,[12,13,14,18,19,20]),(37,28,[12,13,14,17,20]),(39,9,[7,8,11,12,13,14,15,42,57]),(39,13,[7,8,9,13,14,15,42,57]),(39,21,[7,8,9,11,12,13,15,32,33,34,42,57]),(42,6,[5,7,8,25,26]),(42,9,[5,8]),(44,3,[7,8]),(44,7,[6]),(46,3,[7,8,9,10]),(46,7,[9,10]),(46,13,[6,7,8]),(49,4,[7,35]),(49,8,[7,35]),(52,3,[7]),(54,4,[4,5]),(55,5,[5,6]),(56,3,[8,9,10]),(57,3,[12]),(58,5,[7,8]),(64,2,[5,6,7,8]),(65,4,[10]),(67,2,[10,11,12,13,14,15,16,17,18]),(70,2,[12,13,14,15,16,17,18,19,20]),(72,1,[7]),(73,4,[10]),(73,8,[8,9]),(74,5,[10]),(77,3,[9,10]),(77,5,[9,10]),(77,14,[10]),(77,20,[9]),(83,1,[9]),(84,4,[12]),(84,8,[10,11]),(85,5,[12]),(88,3,[11,12]),(88,5,[11,12]),(88,14,[12]),(88,20,[11]),(92,1,[9]),(97,1,[11])]
def pol:Pol where
  shared g:=sharedT.contains g
  freeze _ _:=true
  freezeS _ _:=false
  blk g d:=!((resT.getD g []).contains d)
  nilf g:=g == 69
  deep _:=false
  prim _:=none
  rows _ _:=false
  keys g:=keysT.getD g []
  quiet f r:=if f == 65 && r == 4 then [10] else []
  dead f r:=((deadT.find? fun p=>p.1 == f && p.2.1 == r).map (·.2.2)).getD []
theorem follows_mixed:Tp.follows .mixedOrders=true:=by kernel_rfl
set_option maxRecDepth 100000 in
theorem fns_ok:(Tp.funcs.toList.zipIdx.all fun p=>fnOk pol p.2 p.1)=true:=by kernel_rfl
theorem sound (n:Nat):CallSound Tp (callN Tp pol n) :=
  callN_ok follows_mixed (fun g fn h=>List.all_eq_true.1 fns_ok (fn,g) (by
      rw [List.mem_zipIdx_iff_getElem?]
      simpa using h)) (fun g F h=>by cases h) n
theorem sound_prim (F:FuncId → Option (List HV → Option HV)) (hF:∀ g f,F g=some f → PrimOk Tp g f) (n:Nat):CallSound Tp (callN Tp { pol with prim:=F } n) :=
  callN_ok follows_mixed (fun g fn h=>by
    rw [fnOk_prim]
    exact List.all_eq_true.1 fns_ok (fn,g) (by
      rw [List.mem_zipIdx_iff_getElem?]
      simpa using h)) hF n
def modW (a:Int) (n:Int):Int:=IntKind.i64.wrap ((IntKind.u64.wrap a).tmod (IntKind.u64.wrap n))
theorem wrapU64 (n:Int):IntKind.u64.wrap n=n % 18446744073709551616:=by simp [IntKind.wrap,IntKind.signed,IntKind.bits]
theorem wrapI64 (n:Int):IntKind.i64.wrap n=(n+9223372036854775808) % 18446744073709551616 - 9223372036854775808:=by rw [IntKind.wrap_i64]
theorem modW_bounds (a n:Int) (h0:0 < n) (h1:n < 9223372036854775808):0 ≤ modW a n∧modW a n < n:=by
  have hn:IntKind.u64.wrap n=n:=by rw [wrapU64]; omega
  have ha:0 ≤ IntKind.u64.wrap a:=by rw [wrapU64]; omega
  have hm0:0 ≤ IntKind.u64.wrap a % n:=Int.emod_nonneg _ (by omega)
  have hm1:IntKind.u64.wrap a % n < n:=Int.emod_lt_of_pos _ h0
  simp only [modW,hn]
  rw [Int.tmod_eq_emod_of_nonneg ha,wrapI64]
  constructor <;> omega
end Go.Proofs.Ytaibmipamkaljaa
end
section
open Go Go.HL
namespace Go.Proofs.Ytaibmipamkaljaa
open Go.Proofs.Try renaming prog → Tp
open Go.HL.HV renaming undef → Ud
abbrev bI (l:List Int):Blk:=.arr 1 (l.map encI) true 0
def encR (r:List Int):HV:=.imm .arg 1 (r.map encI)
def encO (r:List Int):HV:=.imm .own 1 (r.map encI)
def decR:HV → Option (List Int) | .imm .arg 1 l=>mapO decI l | _=>none
theorem decR_enc (r:List Int):decR (encR r)=some r:=mapO_map decI_enc r
theorem decR_inv (b:HV) (a:List Int) (h:decR b=some a):b=encR a:=by
  unfold decR at h
  split at h
  · rw [mapO_inv decI_inv h]; rfl
  · cases h
theorem wrap_succ {j:Nat} (h:j < 4611686018427387904):IntKind.i64.wrap ((j:Int)+1)=((j+1:Nat):Int):=by rw [wrapI64]; omega
theorem wrap_pred {j:Nat} (h0:0 < j) (h:j < 4611686018427387904):IntKind.i64.wrap ((j:Int) - 1)=((j - 1:Nat):Int):=by rw [wrapI64]; omega
theorem wrap_id {n:Int} (h0:-4611686018427387904 ≤ n) (h:n < 4611686018427387904):IntKind.i64.wrap n=n:=by rw [wrapI64]; omega
theorem argP_ints':∀ (l:List Int),argPL (l.map encI)=some (l.map encI)
  | []=>rfl
  | p :: l=>by simp only [List.map_cons,argPL,argP_ints' l,encI,argP]
theorem argP_rows':∀ (R:List (List Int)),argPL (R.map encR)=some (R.map encR)
  | []=>rfl
  | p :: l=>by simp only [List.map_cons,argPL,argP_rows' l,encR,argP,argP_ints']
theorem arg_li (H:Heap) (l:List Int):toArg H 6 (.imm .arg 1 (l.map encI))=some (.imm .arg 1 (l.map encI)):=by
  show argP (.imm .arg 1 (l.map encI))=_
  simp only [argP,argP_ints']
theorem arg_rw (H:Heap) (R:List (List Int)):toArg H 6 (.imm .arg 1 (R.map encR))=some (.imm .arg 1 (R.map encR)):=by
  show argP (.imm .arg 1 (R.map encR))=_
  simp only [argP,argP_rows']
theorem encI_any (l:List Int):(l.map encI).any isOwn=false:=by
  rw [List.any_eq_false]
  intro v hv
  obtain ⟨k,_,rfl⟩:=List.mem_map.1 hv
  simp [encI,isOwn]
theorem encO_any (l:List (List Int)):(l.map encO).any isOwn=false:=by
  rw [List.any_eq_false]
  intro v hv
  obtain ⟨k,_,rfl⟩:=List.mem_map.1 hv
  simp [encO,isOwn]
theorem recv_ints (l:List Int) (H:Heap):recv (.own 1 (l.map encI)) H=(.sl H.length 0 l.length none l.length 1,H ++ [bI l]):=by
  simp only [recv,recvVal,recvCell,encI_any,List.length_map]
  rfl
theorem recv_rows (l:List (List Int)) (H:Heap):recv (.own 1 (l.map encO)) H=(.sl H.length 0 l.length none l.length 1,H ++ [.arr 1 (l.map encO) true 0]):=by
  simp only [recv,recvVal,recvCell,encO_any,List.length_map]
  rfl
theorem ints_bnd:∀ (l:List Int),bndL (l.map encI)=0
  | []=>rfl
  | a :: l=>by simp only [List.map_cons,bndL,ints_bnd l,encI,bnd]; rfl
theorem ints_res:∀ (l:List Int),resPL (l.map encI)=true
  | []=>rfl
  | a :: l=>by simp only [List.map_cons,resPL,ints_res l,encI,resP]; rfl
theorem fnok (F:FuncId → Option (List HV → Option HV)) (g:FuncId) (fn:Func) (h:Tp.funcs[g]?=some fn):fnOk { pol with prim:=F } g fn=true:=by
  rw [fnOk_prim]
  exact List.all_eq_true.1 fns_ok (fn,g) (by
    rw [List.mem_zipIdx_iff_getElem?]
    simpa using h)
theorem gc_eq {H H':Heap} (r:Nat) (h:H'.length=H.length):gc H.length r H'=H':=by
  unfold gc
  rw [List.take_of_length_le (by omega)]
theorem nb_false {b:Bool} (h:¬ b=true):b=false:=by cases b <;> simp_all
theorem u22:Tp.underlying 22=some (.slice 3):=by kernel_rfl
theorem u35:Tp.underlying 35=some (.slice 22):=by kernel_rfl
theorem u74:Tp.underlying 74=some (.slice 4):=by kernel_rfl
theorem z3:tySize Tp 3=some 1:=by kernel_rfl
theorem z4:tySize Tp 4=some 1:=by kernel_rfl
theorem z22:tySize Tp 22=some 1:=by kernel_rfl
theorem a3:tyAgg Tp 3=false:=by kernel_rfl
theorem i3:(Tp.underlying 3).isSome=true:=by kernel_rfl
theorem a4:tyAgg Tp 4=false:=by kernel_rfl
theorem i4:(Tp.underlying 4).isSome=true:=by kernel_rfl
theorem a22:tyAgg Tp 22=false:=by kernel_rfl
theorem i22:(Tp.underlying 22).isSome=true:=by kernel_rfl
theorem gx {l:List Int} {y:Nat} (hy:y < l.length):idxV Tp 22 (.imm .arg 1 (l.map encI)) (.int .i64 (y:Int))=some (.vptr (.int .i64 (l.getD y 0))) :=
  idx_imm u22 z3 (by omega) (by rw [Int.toNat_natCast,List.getElem?_map,List.getElem?_eq_getElem hy]; simp [List.getD,List.getElem?_eq_getElem hy,encI])
theorem gxi {l:List Int} {y:Int} (h0:0 ≤ y) (hy:y.toNat < l.length):idxV Tp 22 (.imm .arg 1 (l.map encI)) (.int .i64 y)=some (.vptr (.int .i64 (l.getD y.toNat 0))):=by
  have:=gx (l:=l) (y:=y.toNat) hy
  rwa [show ((y.toNat:Nat):Int)=y by omega] at this
theorem gr {R:List (List Int)} {y:Nat} (hy:y < R.length):idxV Tp 35 (.imm .arg 1 (R.map encR)) (.int .i64 (y:Int))=some (.vptr (.imm .arg 1 ((R.getD y []).map encI))) :=
  idx_imm u35 z22 (by omega) (by rw [Int.toNat_natCast,List.getElem?_map,List.getElem?_eq_getElem hy]; simp [List.getD,List.getElem?_eq_getElem hy,encR])
theorem store_out {H:Heap} {k:Nat} {o:List Int} (h:H[k]?=some (bI o)) {y:Nat} (hy:y < o.length) (v:Int):storeV Tp H 3 (.ptr k y 0 o.length) (.int .i64 v)=some (H.set k (bI (o.set y v))):=by
  have hi:(o.map encI)[y]?=some (encI o[y]):=by rw [List.getElem?_map,List.getElem?_eq_getElem hy]; rfl
  have:=store_elem (P:=Tp) (t:=3) (b:=k) (tot:=o.length) (v:=.int .i64 v) h (by simp) hi rfl (by intro cs h; cases h) z3 rfl rfl (by simp [bnd])
  rw [this]
  show some (H.set k (.arr 1 ((o.map encI).set y (encI v)) true 0))=_
  rw [bI,List.map_set]
theorem res_li {H:Heap} {b k:Nat} {o:List Int} (hb:H[b]?=some (bI o)) (hk:o.length=k):toRes H false (.sl b 0 k none k 1)=some (.own 1 (o.map encI)):=by
  have hr:=resCell_sl (H:=H) (no:=[b]) (b:=b) (k:=1) (m:=k) (cap:=none) (els:=o.map encI) hb (by simpa using hk) (mapO_self (fun r=>frz_int 4 r) _)
  have ho:ownedAll H false (.sl b 0 k none k 1)=[b]:=by simp [ownedAll,cellsOf,owned,hb]
  simp only [toRes,ho,List.nodup_cons,List.not_mem_nil,not_false_eq_true,List.nodup_nil,and_self,if_true,resVal,hr]
theorem app_ints {H:Heap} {b:Nat} {o xs:List Int} (hb:H[b]?=some (bI o)) (hlen:o.length+xs.length ≤ 1000) (hx:xs ≠ []) :
    appV H 1 8 (.sl b 0 o.length none o.length 1) (xs.map encI)=some (.sl b 0 (o ++ xs).length none (o ++ xs).length 1,H.set b (bI (o ++ xs))):=by
  have:=app_sl (H:=H) (k:=1) (bytes:=8) (b:=b) (n:=o.length) (mx:=0) (els:=o.map encI) (xs:=xs.map encI) hb (by simp) (by simpa using hx) (by rw [List.length_map]; simp only [roomMax]; omega) (ints_bnd xs)
  rw [this]
  simp [bI]
theorem arg_sl {H:Heap} {l:List Int} {b m:Nat} (hm:l.length=m) (hb:H[b]?=some (bI l)):toArg H 6 (.sl b 0 m none m 1)=some (.imm .arg 1 (l.map encI)):=by
  subst hm
  have e:toArg H 6 (.sl b 0 l.length none l.length 1)=if l.length=0 then some (.imm .arg 1 []) else match view H b 0 l.length l.length 1 with | some l=>(match mapO (toArg H 5) l with | some l=>some (.imm .arg 1 l) | none=>none) | none=>none:=rfl
  rw [e]
  split
  · rename_i h0
    rw [List.length_eq_zero_iff.1 h0]; rfl
  · have hv:view H b 0 l.length l.length 1=some (l.map encI):=by
      simp only [view,hb,List.length_map]
      rw [if_pos ⟨trivial,by omega,trivial⟩]
      simp [List.take_of_length_le]
    have hm:mapO (toArg H 5) (l.map encI)=some (l.map encI):=mapO_self (f:=toArg H 5) (g:=encI) (fun _=>rfl) l
    rw [hv]
    simp only [hm]
theorem arg_rs {H:Heap} {R:List (List Int)} {b m mx:Nat} (hm:R.length=m) (hb:H[b]?=some (.arr 1 (R.map encO) true mx)):toArg H 6 (.sl b 0 m none m 1)=some (.imm .arg 1 (R.map encR)):=by
  subst hm
  have e:toArg H 6 (.sl b 0 R.length none R.length 1)=if R.length=0 then some (.imm .arg 1 []) else match view H b 0 R.length R.length 1 with | some l=>(match mapO (toArg H 5) l with | some l=>some (.imm .arg 1 l) | none=>none) | none=>none:=rfl
  rw [e]
  split
  · rename_i h0
    rw [List.length_eq_zero_iff.1 h0]; rfl
  · have hv:view H b 0 R.length R.length 1=some (R.map encO):=by
      simp only [view,hb,List.length_map]
      rw [if_pos ⟨trivial,by omega,trivial⟩]
      simp [List.take_of_length_le]
    have hm:∀ (R:List (List Int)),mapO (toArg H 5) (R.map encO)=some (R.map encR):=by
      intro R
      induction R with
      | nil=>rfl
      | cons r R ih =>
        have e:toArg H 5 (encO r)=some (encR r):=by
          show argP (.imm .own 1 (r.map encI))=_
          simp only [argP,argP_ints']
          rfl
        simp only [List.map_cons,mapO,e,ih]
    rw [hv]
    simp only [hm]
end Go.Proofs.Ytaibmipamkaljaa
end
section
open Go Go.HL
namespace Go.Proofs.Ytaibmipamkaljaa
set_option maxRecDepth 100000
open Go.Proofs.Try renaming prog → Tp
open Go.HL.HV renaming undef → Ud
noncomputable def B47:Code:=Try.f47.body.getD .skip
abbrev env47 (v0 v1 v2 v6:HV):Env:=[(0,v0),(1,v1),(2,v2),(6,v6)]
theorem w47_0 (n lo hi:Int)(g0:lo ≤ n) (g1:n ≤ hi):RT pol 47 (sub [] B47) [(0,.i n),(1,.i lo),(2,.i hi)] [] .ret (env47 (.i n) (.i lo) (.i hi) (.bool true)) [] :=
  RunsTo.hin 0 60 [⟨1,2,.bool true,[]⟩,⟨1,6,.bool true,[]⟩] fun kf hk=>⟨_,by kernel_rfl,(oB [] (decide_eq_true g0) (oB [] (decide_eq_true g1) .nil))⟩
theorem w47_1 (n lo hi:Int)(g0:lo ≤ n) (g1:¬ (n ≤ hi)):RT pol 47 (sub [] B47) [(0,.i n),(1,.i lo),(2,.i hi)] [] .ret (env47 (.i n) (.i lo) (.i hi) (.bool false)) [] :=
  RunsTo.hin 0 60 [⟨1,2,.bool true,[]⟩,⟨1,6,.bool false,[]⟩] fun kf hk=>⟨_,by kernel_rfl,(oB [] (decide_eq_true g0) (oB [] (decide_eq_false g1) .nil))⟩
theorem w47_2 (n lo hi:Int)(g0:¬ (lo ≤ n)):RT pol 47 (sub [] B47) [(0,.i n),(1,.i lo),(2,.i hi)] [] .ret (env47 (.i n) (.i lo) (.i hi) (.bool false)) [] :=
  RunsTo.hin 0 60 [⟨1,2,.bool false,[]⟩] fun kf hk=>⟨_,by kernel_rfl,(oB [] (decide_eq_false g0) .nil)⟩
noncomputable def B30:Code:=Try.f30.body.getD .skip
abbrev env30 (v0 v1 v4:HV):Env:=[(0,v0),(1,v1),(4,v4)]
theorem m30_0 (a n:Int)(g0:binV Tp .rem 85 (.int .u64 (IntKind.u64.wrap a)) (.int .u64 (IntKind.u64.wrap n))=some (.int .u64 ((IntKind.u64.wrap a:Int).tmod (IntKind.u64.wrap n)))):RT pol 30 (sub [] B30) [(0,.i a),(1,.i n)] [] .ret (env30 (.i a) (.i n) (.i (IntKind.i64.wrap ((IntKind.u64.wrap a:Int).tmod (IntKind.u64.wrap n))))) [] :=
  RunsTo.hin 0 60 [⟨1,4,.int .u64 ((IntKind.u64.wrap a:Int).tmod (IntKind.u64.wrap n)),[]⟩] fun kf hk=>⟨_,by kernel_rfl,(oP [] g0 .nil)⟩
noncomputable def B14:Code:=Try.f14.body.getD .skip
abbrev env14 (v0 v2 v3:HV):Env:=[(0,v0),(2,v2),(3,v3)]
theorem li_0 (la:List HV) (m:Nat)(g0:sliceV Tp 22 (.a la) none (some (.i (min (la.length:Int) 110))) none=some (.a (la.take m))) (g1:appV [.b []] 1 8 (.s 0 0) (la.take m)=some (.sl 0 0 ((la.take m).length) none ((la.take m).length) 1,[.arr 1 (la.take m) true 0])):RT pol 14 (sub [] B14) [(0,.a la)] [] .ret (env14 (.a la) (.sl 0 0 ((la.take m).length) none ((la.take m).length) 1) (.s 0 0)) [.arr 1 (la.take m) true 0] :=
  RunsTo.hin 0 60 [⟨2,5,.a (la.take m),[.b []]⟩,⟨2,6,.sl 0 0 ((la.take m).length) none ((la.take m).length) 1,[.arr 1 (la.take m) true 0]⟩] fun kf hk=>⟨_,by kernel_rfl,(oP [.b []] g0 (oC (g1) .nil))⟩
noncomputable def B17:Code:=Try.f17.body.getD .skip
abbrev env17 (v0 v1 v4 v5:HV):Env:=[(0,v0),(1,v1),(4,v4),(5,v5)]
theorem r17_a_0 (la lb:List HV):RT pol 17 (sub [0] B17) [(0,.a la),(1,.a lb)] [] .normal (env17 (.a la) (.a lb) (.bool false) Ud) [] :=
  RunsTo.hin 0 60 [] fun kf hk=>⟨_,by kernel_rfl,.nil⟩
theorem r17_b_0 (la lb:List HV)(g0:(la.length:Int)=(lb.length:Int)):RT pol 17 (sub [1,0] B17) (env17 (.a la) (.a lb) (.bool false) Ud) [] .normal (env17 (.a la) (.a lb) (.bool false) Ud) [] :=
  RunsTo.hin 0 60 [⟨1,4,.bool false,[]⟩] fun kf hk=>⟨_,by kernel_rfl,(oB [] (congrArg not (decide_eq_true g0)) .nil)⟩
theorem r17_b_1 (la lb:List HV)(g0:¬ ((la.length:Int)=(lb.length:Int))):RT pol 17 (sub [1,0] B17) (env17 (.a la) (.a lb) (.bool false) Ud) [] .ret (env17 (.a la) (.a lb) (.bool false) Ud) [] :=
  RunsTo.hin 0 60 [⟨1,4,.bool true,[]⟩] fun kf hk=>⟨_,by kernel_rfl,(oB [] (congrArg not (decide_eq_false g0)) .nil)⟩
theorem r17_c_0 (la lb:List HV):RT pol 17 (sub [1,1,0,0] B17) (env17 (.a la) (.a lb) (.bool false) Ud) [] .normal (env17 (.a la) (.a lb) (.bool false) (.i 0)) [] :=
  RunsTo.hin 0 60 [] fun kf hk=>⟨_,by kernel_rfl,.nil⟩
theorem r17_l_0 (la lb:List HV) (j:Nat) (x0:Int) (x1:Int) (g0:(j:Int) < (la.length:Int)) (g1:idxV Tp 22 (.a la) (.i (j:Int))=some (.vptr (.i x0))) (g2:idxV Tp 22 (.a lb) (.i (j:Int))=some (.vptr (.i x1))) (g3:x0=x1):RT pol 17 (sub [1,1,0,1,0,0] B17) (env17 (.a la) (.a lb) (.bool false) (.i (j:Int))) [] .normal (env17 (.a la) (.a lb) (.bool false) (.i (IntKind.i64.wrap ((j:Int)+1)))) [] :=
  RunsTo.hin 0 60 [⟨4,3,.bool true,[]⟩,⟨6,2,.vptr (.i x0),[]⟩,⟨6,6,.vptr (.i x1),[]⟩,⟨6,8,.bool false,[]⟩] fun kf hk=>⟨_,by kernel_rfl,(oB [] (decide_eq_true g0) (oP [] g1 (oP [] g2 (oB [] (congrArg not (decide_eq_true g3)) .nil))))⟩
theorem r17_l_1 (la lb:List HV) (j:Nat) (x0:Int) (x1:Int) (g0:(j:Int) < (la.length:Int)) (g1:idxV Tp 22 (.a la) (.i (j:Int))=some (.vptr (.i x0))) (g2:idxV Tp 22 (.a lb) (.i (j:Int))=some (.vptr (.i x1))) (g3:¬ (x0=x1)):RT pol 17 (sub [1,1,0,1,0,0] B17) (env17 (.a la) (.a lb) (.bool false) (.i (j:Int))) [] .ret (env17 (.a la) (.a lb) (.bool false) (.i (j:Int))) [] :=
  RunsTo.hin 0 60 [⟨4,3,.bool true,[]⟩,⟨6,2,.vptr (.i x0),[]⟩,⟨6,6,.vptr (.i x1),[]⟩,⟨6,8,.bool true,[]⟩] fun kf hk=>⟨_,by kernel_rfl,(oB [] (decide_eq_true g0) (oP [] g1 (oP [] g2 (oB [] (congrArg not (decide_eq_false g3)) .nil))))⟩
theorem r17_l_2 (la lb:List HV) (j:Nat)(g0:¬ ((j:Int) < (la.length:Int))):RT pol 17 (sub [1,1,0,1,0,0] B17) (env17 (.a la) (.a lb) (.bool false) (.i (j:Int))) [] (.exit 0) (env17 (.a la) (.a lb) (.bool false) (.i (j:Int))) [] :=
  RunsTo.hin 0 60 [⟨4,3,.bool false,[]⟩] fun kf hk=>⟨_,by kernel_rfl,(oB [] (decide_eq_false g0) .nil)⟩
theorem r17_z_0 (la lb:List HV) (j:Nat):RT pol 17 (sub [1,1,1] B17) (env17 (.a la) (.a lb) (.bool false) (.i (j:Int))) [] .ret (env17 (.a la) (.a lb) (.bool true) (.i (j:Int))) [] :=
  RunsTo.hin 0 60 [] fun kf hk=>⟨_,by kernel_rfl,.nil⟩
noncomputable def B59:Code:=Try.f59.body.getD .skip
abbrev env59 (v0 v1 v2 v3 v4 v5 v6:HV):Env:=[(0,v0),(1,v1),(2,v2),(3,v3),(4,v4),(5,v5),(6,v6)]
theorem ad_0 (m0 m1 sz x0 x1 y0 y1:Int)(g0:binV Tp .rem 3 (.i (IntKind.i64.wrap (x0+y0))) (.i m0)=some (.i ((IntKind.i64.wrap (x0+y0):Int).tmod m0))) (g1:binV Tp .rem 3 (.i (IntKind.i64.wrap (x1+y1))) (.i m1)=some (.i ((IntKind.i64.wrap (x1+y1):Int).tmod m1))):RT pol 59 (sub [] B59) [(0,.agg [.i m0,.i m1,.i sz]),(1,.agg [.i x0,.i x1]),(2,.agg [.i y0,.i y1])] [] .ret (env59 (.agg [.i m0,.i m1,.i sz]) (.agg [.i x0,.i x1]) (.agg [.i y0,.i y1]) (.ptr 0 0 0 1) (.ptr 1 0 0 1) (.ptr 2 0 0 1) (.ptr 3 0 0 1)) [.arr 3 [.agg [.i m0,.i m1,.i sz]] true 0,.arr 2 [.agg [.i x0,.i x1]] true 0,.arr 2 [.agg [.i y0,.i y1]] true 0,.arr 2 [.agg [.i ((IntKind.i64.wrap (x0+y0):Int).tmod m0),.i ((IntKind.i64.wrap (x1+y1):Int).tmod m1)]] true 0] :=
  RunsTo.hin 0 60 [⟨1,8,.i ((IntKind.i64.wrap (x0+y0):Int).tmod m0),[.arr 3 [.agg [.i m0,.i m1,.i sz]] true 0,.arr 2 [.agg [.i x0,.i x1]] true 0,.arr 2 [.agg [.i y0,.i y1]] true 0,.arr 2 [.agg [.i 0,.i 0]] true 0]⟩,⟨1,17,.i ((IntKind.i64.wrap (x1+y1):Int).tmod m1),[.arr 3 [.agg [.i m0,.i m1,.i sz]] true 0,.arr 2 [.agg [.i x0,.i x1]] true 0,.arr 2 [.agg [.i y0,.i y1]] true 0,.arr 2 [.agg [.i 0,.i 0]] true 0]⟩] fun kf hk=>⟨_,by kernel_rfl,(oP [.arr 3 [.agg [.i m0,.i m1,.i sz]] true 0,.arr 2 [.agg [.i x0,.i x1]] true 0,.arr 2 [.agg [.i y0,.i y1]] true 0,.arr 2 [.agg [.i 0,.i 0]] true 0] g0 (oP [.arr 3 [.agg [.i m0,.i m1,.i sz]] true 0,.arr 2 [.agg [.i x0,.i x1]] true 0,.arr 2 [.agg [.i y0,.i y1]] true 0,.arr 2 [.agg [.i 0,.i 0]] true 0] g1 .nil))⟩
noncomputable def B66:Code:=Try.f66.body.getD .skip
abbrev env66 (v0 v1 v2 v3 v4 v5 v6:HV):Env:=[(0,v0),(1,v1),(2,v2),(3,v3),(4,v4),(5,v5),(6,v6)]
theorem mi_0 (m0 m1 sz x0 x1 y0 y1:Int)(g0:binV Tp .rem 3 (.i (IntKind.i64.wrap (IntKind.i64.wrap (x0 - y0)+m0))) (.i m0)=some (.i ((IntKind.i64.wrap (IntKind.i64.wrap (x0 - y0)+m0):Int).tmod m0))) (g1:binV Tp .rem 3 (.i (IntKind.i64.wrap (IntKind.i64.wrap (x1 - y1)+m1))) (.i m1)=some (.i ((IntKind.i64.wrap (IntKind.i64.wrap (x1 - y1)+m1):Int).tmod m1))):RT pol 66 (sub [] B66) [(0,.agg [.i m0,.i m1,.i sz]),(1,.agg [.i x0,.i x1]),(2,.agg [.i y0,.i y1])] [] .ret (env66 (.agg [.i m0,.i m1,.i sz]) (.agg [.i x0,.i x1]) (.agg [.i y0,.i y1]) (.ptr 0 0 0 1) (.ptr 1 0 0 1) (.ptr 2 0 0 1) (.ptr 3 0 0 1)) [.arr 3 [.agg [.i m0,.i m1,.i sz]] true 0,.arr 2 [.agg [.i x0,.i x1]] true 0,.arr 2 [.agg [.i y0,.i y1]] true 0,.arr 2 [.agg [.i ((IntKind.i64.wrap (IntKind.i64.wrap (x0 - y0)+m0):Int).tmod m0),.i ((IntKind.i64.wrap (IntKind.i64.wrap (x1 - y1)+m1):Int).tmod m1)]] true 0] :=
  RunsTo.hin 0 60 [⟨1,12,.i ((IntKind.i64.wrap (IntKind.i64.wrap (x0 - y0)+m0):Int).tmod m0),[.arr 3 [.agg [.i m0,.i m1,.i sz]] true 0,.arr 2 [.agg [.i x0,.i x1]] true 0,.arr 2 [.agg [.i y0,.i y1]] true 0,.arr 2 [.agg [.i 0,.i 0]] true 0]⟩,⟨1,25,.i ((IntKind.i64.wrap (IntKind.i64.wrap (x1 - y1)+m1):Int).tmod m1),[.arr 3 [.agg [.i m0,.i m1,.i sz]] true 0,.arr 2 [.agg [.i x0,.i x1]] true 0,.arr 2 [.agg [.i y0,.i y1]] true 0,.arr 2 [.agg [.i 0,.i 0]] true 0]⟩] fun kf hk=>⟨_,by kernel_rfl,(oP [.arr 3 [.agg [.i m0,.i m1,.i sz]] true 0,.arr 2 [.agg [.i x0,.i x1]] true 0,.arr 2 [.agg [.i y0,.i y1]] true 0,.arr 2 [.agg [.i 0,.i 0]] true 0] g0 (oP [.arr 3 [.agg [.i m0,.i m1,.i sz]] true 0,.arr 2 [.agg [.i x0,.i x1]] true 0,.arr 2 [.agg [.i y0,.i y1]] true 0,.arr 2 [.agg [.i 0,.i 0]] true 0] g1 .nil))⟩
end Go.Proofs.Ytaibmipamkaljaa
end
section
open Go Go.HL
namespace Go.Proofs.Ytaibmipamkaljaa
def awakeF:List HV → Option HV | []=>some (.bool true) | _=>none
def withinF:List HV → Option HV
  | [.int .i64 n,.int .i64 lo,.int .i64 hi]=>some (.bool (decide (lo ≤ n∧n ≤ hi)))
  | _=>none
def modF:List HV → Option HV
  | [.int .i64 a,.int .i64 n]=>if 0 < n∧n < 9223372036854775808 then some (.int .i64 (modW a n)) else none
  | _=>none
def liF (f:List Int → Option HV):List HV → Option HV
  | [.imm .arg 1 la]=>(match mapO decI la with | some l=>f l | none=>none)
  | _=>none
def rwF (f:List (List Int) → Option HV):List HV → Option HV
  | [.imm .arg 1 rw]=>(match mapO decR rw with | some R=>f R | none=>none)
  | _=>none
def llF (f:List Int → List Int → Option HV):List HV → Option HV
  | [.imm .arg 1 la,.imm .arg 1 lb]=>(match mapO decI la,mapO decI lb with | some a,some b=>f a b | _,_=>none)
  | _=>none
def lnF (f:List Int → Int → Option HV):List HV → Option HV
  | [.imm .arg 1 la,.int .i64 v]=>(match mapO decI la with | some l=>f l v | none=>none)
  | _=>none
def list14:List HV → Option HV:=liF fun l=>some (.own 1 ((l.take 110).map encI))
def ints17:List HV → Option HV:=llF fun a b=>if a.length ≤ 1000 then some (.bool (decide (a=b))) else none
abbrev El:=Int × Int
abbrev Gr:=Int × Int × Int
def encX (x:El):HV:=.agg [.int .i64 x.1,.int .i64 x.2]
def encG (g:Gr):HV:=.agg [.int .i64 g.1,.int .i64 g.2.1,.int .i64 g.2.2]
def decX:HV → Option El | .agg [.int .i64 a,.int .i64 b]=>some (a,b) | _=>none
def decG:HV → Option Gr | .agg [.int .i64 a,.int .i64 b,.int .i64 c]=>some (a,b,c) | _=>none
theorem decX_enc (x:El):decX (encX x)=some x:=rfl
theorem decG_enc (x:Gr):decG (encG x)=some x:=rfl
theorem decX_inv (b:HV) (a:El) (h:decX b=some a):b=encX a:=by
  unfold decX at h
  split at h
  · cases h; rfl
  · cases h
theorem decG_inv (b:HV) (a:Gr) (h:decG b=some a):b=encG a:=by
  unfold decG at h
  split at h
  · cases h; rfl
  · cases h
def grOk (g:Gr):Prop:=(1 ≤ g.1∧g.1 ≤ 1000)∧1 ≤ g.2.1∧g.2.1 ≤ 1000
def elOk (g:Gr) (x:El):Prop:=(0 ≤ x.1∧x.1 < g.1)∧0 ≤ x.2∧x.2 < g.2.1
instance (g:Gr):Decidable (grOk g):=inferInstanceAs (Decidable (_∧_))
instance (g:Gr) (x:El):Decidable (elOk g x):=inferInstanceAs (Decidable (_∧_))
def addT (g:Gr) (x y:El):El:=((x.1+y.1) % g.1,(x.2+y.2) % g.2.1)
def subT (g:Gr) (x y:El):El:=((x.1 - y.1+g.1) % g.1,(x.2 - y.2+g.2.1) % g.2.1)
theorem addT_ok {g:Gr} {x y:El} (hg:grOk g):elOk g (addT g x y):=by
  obtain ⟨⟨a,b⟩,c,d⟩:=hg
  exact ⟨⟨Int.emod_nonneg _ (by omega),Int.emod_lt_of_pos _ (by omega)⟩,Int.emod_nonneg _ (by omega),Int.emod_lt_of_pos _ (by omega)⟩
def gxxF (f:Gr → El → El → HV):List HV → Option HV
  | [a,b,c]=>(match decG a,decX b,decX c with | some g,some x,some y=>if grOk g∧elOk g x∧elOk g y then some (f g x y) else none | _,_,_=>none)
  | _=>none
def add59:List HV → Option HV:=gxxF fun g x y=>encX (addT g x y)
def minus66:List HV → Option HV:=gxxF fun g x y=>encX (subT g x y)
end Go.Proofs.Ytaibmipamkaljaa
end
section
open Go Go.HL
namespace Go.Proofs.Ytaibmipamkaljaa
open Go.Proofs.Try renaming prog → Tp
open Go.HL.HV renaming undef → Ud
theorem within_ok:PrimOk Tp 47 withinF:=by
  refine primOk_pure (pol:=pol) (fn:=Try.f47) (cd:=B47) follows_mixed sound (by kernel_rfl) (by kernel_rfl) (fnok pol.prim _ _ (by kernel_rfl)) (by kernel_rfl) ?_
  intro args res h
  unfold withinF at h
  split at h
  · rename_i n lo hi
    cases h
    have hr:Try.f47.results.toList=[.tmp 6]:=by kernel_rfl
    by_cases g0:lo ≤ n
    · by_cases g1:n ≤ hi
      · exact ⟨_,_,_,_,w47_0 n lo hi g0 g1,by simp,by simp only [resultsV,hr]; rfl,by rw [decide_eq_true ⟨g0,g1⟩]; rfl⟩
      · exact ⟨_,_,_,_,w47_1 n lo hi g0 g1,by simp,by simp only [resultsV,hr]; rfl,by rw [decide_eq_false (fun h=>g1 h.2)]; rfl⟩
    · exact ⟨_,_,_,_,w47_2 n lo hi g0,by simp,by simp only [resultsV,hr]; rfl,by rw [decide_eq_false (fun h=>g0 h.1)]; rfl⟩
  · cases h
theorem mod_ok:PrimOk Tp 30 modF:=by
  refine primOk_pure (pol:=pol) (fn:=Try.f30) (cd:=B30) follows_mixed sound (by kernel_rfl) (by kernel_rfl) (fnok pol.prim _ _ (by kernel_rfl)) (by kernel_rfl) ?_
  intro args res h
  unfold modF at h
  split at h
  · rename_i a n
    split at h
    · rename_i hn
      cases h
      have hr:Try.f30.results.toList=[.tmp 4]:=by kernel_rfl
      refine ⟨_,_,_,_,m30_0 a n ?_,by simp,by simp only [resultsV,hr]; rfl,rfl⟩
      have:IntKind.u64.wrap n ≠ 0:=by rw [wrapU64]; omega
      simp only [binV,intBin,if_neg this,if_true]
    · cases h
  · cases h
theorem liF_inv {f:List Int → Option HV} {args:List HV} {res:HV} (h:liF f args=some res):∃ l,args=[.imm .arg 1 (l.map encI)]∧f l=some res:=by
  unfold liF at h
  split at h
  · rename_i la
    split at h
    · rename_i l hl
      exact ⟨l,by rw [mapO_inv decI_inv hl],h⟩
    · cases h
  · cases h
theorem rwF_inv {f:List (List Int) → Option HV} {args:List HV} {res:HV} (h:rwF f args=some res):∃ l,args=[.imm .arg 1 (l.map encR)]∧f l=some res:=by
  unfold rwF at h
  split at h
  · rename_i la
    split at h
    · rename_i l hl
      exact ⟨l,by rw [mapO_inv decR_inv hl],h⟩
    · cases h
  · cases h
theorem llF_inv {f:List Int → List Int → Option HV} {args:List HV} {res:HV} (h:llF f args=some res):∃ R l,args=[.imm .arg 1 (R.map encI),.imm .arg 1 (l.map encI)]∧f R l=some res:=by
  unfold llF at h
  split at h
  · rename_i la
    split at h
    · rename_i R l hR hl
      exact ⟨R,l,by rw [mapO_inv decI_inv hR,mapO_inv decI_inv hl],h⟩
    · cases h
  · cases h
theorem lnF_inv {f:List Int → Int → Option HV} {args:List HV} {res:HV} (h:lnF f args=some res):∃ l v,args=[.imm .arg 1 (l.map encI),.int .i64 v]∧f l v=some res:=by
  unfold lnF at h
  split at h
  · rename_i la v
    split at h
    · rename_i l hl
      exact ⟨l,v,by rw [mapO_inv decI_inv hl],h⟩
    · cases h
  · cases h
theorem slice_imm {w:Nat} {l:List HV} (hw:w ≤ l.length):sliceV Tp 22 (.imm .arg 1 l) none (some (.int .i64 (w:Int))) none=some (.imm .arg 1 (l.take w)):=by
  simp only [sliceV,boundV,u22,z3]
  rw [if_pos (by omega:(0:Int) ≤ (w:Int))]
  simp [hw]
theorem take_min {α:Type} (l:List α) (k:Nat):l.take (min l.length k)=l.take k:=by
  rw [List.take_eq_take_iff]; omega
theorem res14:Try.f14.results.toList=[.tmp 2]:=by kernel_rfl
theorem list_ok:PrimOk Tp 14 list14:=by
  refine primOk_pure (pol:=pol) (fn:=Try.f14) (cd:=B14) follows_mixed sound (by kernel_rfl) (by kernel_rfl) (fnok pol.prim _ _ (by kernel_rfl)) (by kernel_rfl) ?_
  intro args res h
  obtain ⟨l,rfl,hq⟩:=liF_inv h
  clear h
  have h:=hq
  clear hq
  cases h
  have hmin:min ((l.map encI).length:Int) 110=((min l.length 110:Nat):Int):=by rw [List.length_map]; omega
  have hw:(l.map encI).take (min l.length 110)=(l.take 110).map encI:=by rw [← List.map_take,take_min]
  have s1:=li_0 (l.map encI) (min l.length 110) (by rw [hmin]; exact slice_imm (by rw [List.length_map]; omega)) (by
    rw [hw]
    by_cases h0:l.take 110=[]
    · rw [h0]; rfl
    · have hlen:(l.take 110).length ≤ 110:=by rw [List.length_take]; omega
      have:=app_ints (H:=[bI []]) (b:=0) (o:=[]) (xs:=l.take 110) rfl (by simp; omega) h0
      rw [List.nil_append] at this
      simpa [bI] using this)
  rw [hw] at s1
  refine ⟨_,_,_,.sl 0 0 ((l.take 110).map encI).length none ((l.take 110).map encI).length 1,s1,by simp,by simp only [resultsV,res14]; rfl,?_⟩
  exact res_li (b:=0) rfl (by simp)
theorem res17:Try.f17.results.toList=[.tmp 4]:=by kernel_rfl
abbrev iE (la lb:List HV) (j:Nat):Env:=env17 (.imm .arg 1 la) (.imm .arg 1 lb) (.bool false) (.int .i64 (j:Int))
theorem getD_at {o:List Int} {y:Nat} (h:y < o.length):o.getD y 0=o[y]:=by simp [List.getD,List.getElem?_eq_getElem h]
theorem ints_loop (a b:List Int) (hl:a.length=b.length) (hl2:a.length ≤ 1000):∀ (d j:Nat),j+d=a.length →
    ∃ x E,RT pol 17 (sub [1,1,0,1,0] B17) (iE (a.map encI) (b.map encI) j) [] x E [] ∧
      ((a.drop j=b.drop j∧x=.exit 0∧E=iE (a.map encI) (b.map encI) a.length) ∨ (a.drop j ≠ b.drop j∧x=.ret∧E.get 4=.bool false)):=by
  intro d
  induction d with
  | zero =>
    intro j hj
    have hj:j=a.length:=by omega
    subst hj
    exact ⟨_,_,lpo (r17_l_2 (a.map encI) (b.map encI) a.length (by simp)),.inl ⟨by rw [List.drop_length,hl,List.drop_length],rfl,rfl⟩⟩
  | succ d ih =>
    intro j hj
    have hja:j < a.length:=by omega
    have hjb:j < b.length:=by omega
    rw [List.drop_eq_getElem_cons hja,List.drop_eq_getElem_cons hjb]
    have g1:=gx hja
    have g2:=gx hjb
    rw [getD_at hja] at g1
    rw [getD_at hjb] at g2
    by_cases he:a[j]=b[j]
    · obtain ⟨x,E,h1,h2⟩:=ih (j+1) (by omega)
      have s1:=r17_l_0 (a.map encI) (b.map encI) j _ _ (by simp; omega) g1 g2 he
      rw [wrap_succ (by omega)] at s1
      refine ⟨x,E,lop s1 rfl h1,?_⟩
      rw [he]
      simpa only [List.cons.injEq,true_and,ne_eq] using h2
    · have s1:=r17_l_1 (a.map encI) (b.map encI) j _ _ (by simp; omega) g1 g2 he
      exact ⟨_,_,lpo s1,.inr ⟨fun h=>he (List.cons.inj h).1,rfl,rfl⟩⟩
theorem ints_ok:PrimOk Tp 17 ints17:=by
  refine primOk_pure (pol:=pol) (fn:=Try.f17) (cd:=B17) follows_mixed sound (by kernel_rfl) (by kernel_rfl) (fnok pol.prim _ _ (by kernel_rfl)) (by kernel_rfl) ?_
  intro args res h
  obtain ⟨a,b,rfl,hq⟩:=llF_inv h
  clear h
  have h:=hq
  clear hq
  split at h
  · rename_i hlen
    cases h
    have a1:=r17_a_0 (a.map encI) (b.map encI)
    by_cases hl:a.length=b.length
    · have b1:=r17_b_0 (a.map encI) (b.map encI) (by simp [hl])
      have c1:=r17_c_0 (a.map encI) (b.map encI)
      obtain ⟨x,E,h1,h2⟩:=ints_loop a b hl hlen a.length 0 (by omega)
      rw [List.drop_zero,List.drop_zero] at h2
      rcases h2 with ⟨k1,rfl,rfl⟩ | ⟨k1,rfl,k2⟩
      · have t1:=sq c1 (bke (c:=sub [1,1,0,1] B17) h1) (c:=sub [1,1,0] B17)
        have t2:=sq t1 (r17_z_0 (a.map encI) (b.map encI) a.length) (c:=sub [1,1] B17)
        have t3:=sq b1 t2 (c:=sub [1] B17)
        have t4:=sq a1 t3 (c:=B17)
        exact ⟨_,_,_,.bool (decide (a=b)),t4,by simp,by rw [decide_eq_true k1]; simp only [resultsV,res17]; rfl,rfl⟩
      · have t1:=sq c1 (RunsTo.block_ret (c:=sub [1,1,0,1] B17) (i:=0) h1 (by kernel_rfl)) (c:=sub [1,1,0] B17)
        have t2:=sqo t1 (c:=sub [1,1] B17) (b:=sub [1,1,1] B17)
        have t3:=sq b1 t2 (c:=sub [1] B17)
        have t4:=sq a1 t3 (c:=B17)
        exact ⟨_,_,_,.bool (decide (a=b)),t4,by simp,by rw [decide_eq_false k1]; simp only [resultsV,res17,mapO,resultV,k2],rfl⟩
    · have b1:=r17_b_1 (a.map encI) (b.map encI) (by simp; omega)
      have t3:=sqo b1 (c:=sub [1] B17) (b:=sub [1,1] B17)
      have t4:=sq a1 t3 (c:=B17)
      exact ⟨_,_,_,.bool (decide (a=b)),t4,by simp,by rw [decide_eq_false (fun h=>hl (by rw [h]))]; simp only [resultsV,res17]; rfl,rfl⟩
  · cases h
theorem gxxF_inv {f:Gr → El → El → HV} {args:List HV} {res:HV} (h:gxxF f args=some res):∃ g x y,args=[encG g,encX x,encX y]∧grOk g∧elOk g x∧elOk g y∧res=f g x y:=by
  unfold gxxF at h
  split at h
  · rename_i a b c
    split at h
    · rename_i g x y ha hb hc
      split at h
      · rename_i hk
        cases h
        exact ⟨g,x,y,by rw [decG_inv _ _ ha,decX_inv _ _ hb,decX_inv _ _ hc],hk.1,hk.2.1,hk.2.2,rfl⟩
      · cases h
    · cases h
  · cases h
theorem rem3 {a b:Int} (hb:b ≠ 0):binV Tp .rem 3 (.int .i64 a) (.int .i64 b)=some (.int .i64 (a.tmod b)):=by
  simp only [binV,intBin,if_neg hb,if_true]
theorem add_ok:PrimOk Tp 59 add59:=by
  refine primOk_pure (pol:=pol) (fn:=Try.f59) (cd:=B59) follows_mixed sound (by kernel_rfl) (by kernel_rfl) (fnok pol.prim _ _ (by kernel_rfl)) (by kernel_rfl) ?_
  intro args res h
  obtain ⟨⟨m0,m1,sz⟩,⟨x0,x1⟩,⟨y0,y1⟩,rfl,hg,hx,hy,rfl⟩:=gxxF_inv h
  obtain ⟨⟨g1,g2⟩,g3,g4⟩:=hg
  obtain ⟨⟨a1,a2⟩,a3,a4⟩:=hx
  obtain ⟨⟨b1,b2⟩,b3,b4⟩:=hy
  simp only at g1 g2 g3 g4 a1 a2 a3 a4 b1 b2 b3 b4
  have w0:IntKind.i64.wrap (x0+y0)=x0+y0:=wrap_id (by omega) (by omega)
  have w1:IntKind.i64.wrap (x1+y1)=x1+y1:=wrap_id (by omega) (by omega)
  have s:=ad_0 m0 m1 sz x0 x1 y0 y1 (rem3 (by omega)) (rem3 (by omega))
  rw [w0,w1,Int.tmod_eq_emod_of_nonneg (by omega),Int.tmod_eq_emod_of_nonneg (by omega)] at s
  exact ⟨_,_,_,encX (addT (m0,m1,sz) (x0,x1) (y0,y1)),s,by simp,by kernel_rfl,by kernel_rfl⟩
theorem minus_ok:PrimOk Tp 66 minus66:=by
  refine primOk_pure (pol:=pol) (fn:=Try.f66) (cd:=B66) follows_mixed sound (by kernel_rfl) (by kernel_rfl) (fnok pol.prim _ _ (by kernel_rfl)) (by kernel_rfl) ?_
  intro args res h
  obtain ⟨⟨m0,m1,sz⟩,⟨x0,x1⟩,⟨y0,y1⟩,rfl,hg,hx,hy,rfl⟩:=gxxF_inv h
  obtain ⟨⟨g1,g2⟩,g3,g4⟩:=hg
  obtain ⟨⟨a1,a2⟩,a3,a4⟩:=hx
  obtain ⟨⟨b1,b2⟩,b3,b4⟩:=hy
  simp only at g1 g2 g3 g4 a1 a2 a3 a4 b1 b2 b3 b4
  have v0:IntKind.i64.wrap (x0 - y0)=x0 - y0:=wrap_id (by omega) (by omega)
  have v1:IntKind.i64.wrap (x1 - y1)=x1 - y1:=wrap_id (by omega) (by omega)
  have w0:IntKind.i64.wrap (x0 - y0+m0)=x0 - y0+m0:=wrap_id (by omega) (by omega)
  have w1:IntKind.i64.wrap (x1 - y1+m1)=x1 - y1+m1:=wrap_id (by omega) (by omega)
  have s:=mi_0 m0 m1 sz x0 x1 y0 y1 (rem3 (by omega)) (rem3 (by omega))
  rw [v0,v1,w0,w1,Int.tmod_eq_emod_of_nonneg (by omega),Int.tmod_eq_emod_of_nonneg (by omega)] at s
  exact ⟨_,_,_,encX (subT (m0,m1,sz) (x0,x1) (y0,y1)),s,by simp,by kernel_rfl,by kernel_rfl⟩
end Go.Proofs.Ytaibmipamkaljaa
end
section
open Go Go.HL
namespace Go.Proofs.Ytaibmipamkaljaa
def nan91:List HV → Option HV | [.int .i64 _]=>some (.bool false) | _=>none
def polNa:Pol:={ pol with prim:=fun g=>if g == 91 then some nan91 else none }
end Go.Proofs.Ytaibmipamkaljaa
end
section
open Go Go.HL
namespace Go.Proofs.Ytaibmipamkaljaa
set_option maxRecDepth 100000
open Go.Proofs.Try renaming prog → Tp
open Go.HL.HV renaming undef → Ud
noncomputable def B91:Code:=Try.f91.body.getD .skip
abbrev env91 (v0 v2:HV):Env:=[(0,v0),(2,v2)]
theorem nan_0 (x:Int)(g0:x=x):RT pol 91 (sub [] B91) [(0,.i x)] [] .ret (env91 (.i x) (.bool false)) [] :=
  RunsTo.hin 0 60 [⟨1,2,.bool false,[]⟩] fun kf hk=>⟨_,by kernel_rfl,(oB [] (congrArg not (decide_eq_true g0)) .nil)⟩
end Go.Proofs.Ytaibmipamkaljaa
end
section
open Go Go.HL
namespace Go.Proofs.Ytaibmipamkaljaa
open Go.Proofs.Try renaming prog → Tp
open Go.HL.HV renaming undef → Ud
theorem res91:Try.f91.results.toList=[.tmp 2]:=by kernel_rfl
theorem nan_ok:PrimOk Tp 91 nan91:=by
  refine primOk_pure (pol:=pol) (fn:=Try.f91) (cd:=B91) follows_mixed sound (by kernel_rfl) (by kernel_rfl) (fnok pol.prim _ _ (by kernel_rfl)) (by kernel_rfl) ?_
  intro args res h
  unfold nan91 at h
  split at h
  · rename_i x
    cases h
    exact ⟨_,_,_,.bool false,nan_0 x rfl,by simp,by simp only [resultsV,res91]; rfl,rfl⟩
  · cases h
theorem soundNa (n:Nat):CallSound Tp (callN Tp polNa n):=sound_prim _ (fun g f h=>by
  split at h
  · rename_i hg; cases h; rw [eq_of_beq hg]; exact nan_ok
  · cases h) n
theorem qnan (x:Int) (H:Heap):∀ kf,callN Tp polNa (kf+1) 91 [.int .i64 x] H=some (.bool false,H):=fun kf=>by
  rw [prim_call (pol:=polNa) (g:=91) (F:=nan91) (by kernel_rfl) (rs:=[.int .i64 x]) rfl (res:=.bool false) rfl]; rfl
end Go.Proofs.Ytaibmipamkaljaa
end
section
open Go Go.HL
namespace Go.Proofs.Ytaibmipamkaljaa
def cmpI (x y:Int):Int:=if x < y then -1 else if y < x then 1 else 0
def compare71:List HV → Option HV | [.int .i64 x,.int .i64 y]=>some (.int .i64 (cmpI x y)) | _=>none
def polCp:Pol:={ pol with prim:=fun g=>if g == 71 then some compare71 else none }
end Go.Proofs.Ytaibmipamkaljaa
end
section
open Go Go.HL
namespace Go.Proofs.Ytaibmipamkaljaa
set_option maxRecDepth 100000
open Go.Proofs.Try renaming prog → Tp
open Go.HL.HV renaming undef → Ud
noncomputable def B71:Code:=Try.f71.body.getD .skip
abbrev env71 (v0 v1 v4 v5 v6:HV):Env:=[(0,v0),(1,v1),(4,v4),(5,v5),(6,v6)]
theorem cpr_0 (x y:Int)(g0:∀ kf,callN Tp polNa (kf+1) 91 [.i x] []=some (.bool false,[])) (g1:∀ kf,callN Tp polNa (kf+1) 91 [.i y] []=some (.bool false,[])) (g2:x < y):RT polNa 71 (sub [] B71) [(0,.i x),(1,.i y)] [] .ret (env71 (.i x) (.i y) (.i (-1)) (.bool false) (.bool false)) [] :=
  RunsTo.hin 0 60 [⟨1,1,.bool false,[]⟩,⟨2,1,.bool false,[]⟩,⟨9,2,.bool true,[]⟩] fun kf hk=>⟨_,by kernel_rfl,(oC (g0 kf) (oC (g1 kf) (oB [] (decide_eq_true g2) .nil)))⟩
theorem cpr_1 (x y:Int)(g0:∀ kf,callN Tp polNa (kf+1) 91 [.i x] []=some (.bool false,[])) (g1:∀ kf,callN Tp polNa (kf+1) 91 [.i y] []=some (.bool false,[])) (g2:¬ (x < y)) (g3:y < x):RT polNa 71 (sub [] B71) [(0,.i x),(1,.i y)] [] .ret (env71 (.i x) (.i y) (.i 1) (.bool false) (.bool false)) [] :=
  RunsTo.hin 0 60 [⟨1,1,.bool false,[]⟩,⟨2,1,.bool false,[]⟩,⟨9,2,.bool false,[]⟩,⟨11,2,.bool true,[]⟩] fun kf hk=>⟨_,by kernel_rfl,(oC (g0 kf) (oC (g1 kf) (oB [] (decide_eq_false g2) (oB [] (decide_eq_true g3) .nil))))⟩
theorem cpr_2 (x y:Int)(g0:∀ kf,callN Tp polNa (kf+1) 91 [.i x] []=some (.bool false,[])) (g1:∀ kf,callN Tp polNa (kf+1) 91 [.i y] []=some (.bool false,[])) (g2:¬ (x < y)) (g3:¬ (y < x)):RT polNa 71 (sub [] B71) [(0,.i x),(1,.i y)] [] .ret (env71 (.i x) (.i y) (.i 0) (.bool false) (.bool false)) [] :=
  RunsTo.hin 0 60 [⟨1,1,.bool false,[]⟩,⟨2,1,.bool false,[]⟩,⟨9,2,.bool false,[]⟩,⟨11,2,.bool false,[]⟩] fun kf hk=>⟨_,by kernel_rfl,(oC (g0 kf) (oC (g1 kf) (oB [] (decide_eq_false g2) (oB [] (decide_eq_false g3) .nil))))⟩
noncomputable def B64:Code:=Try.f64.body.getD .skip
abbrev env64 (v0 v1 v4 v5 v6 v7 v8 v9 v10 v11:HV):Env:=[(0,v0),(1,v1),(4,v4),(5,v5),(6,v6),(7,v7),(8,v8),(9,v9),(10,v10),(11,v11)]
theorem cl_a_0 (a x:Int) (c0:Int) (g0:∀ kf,callN Tp polCp (kf+1) 71 [.i a,.i x] []=some (.i c0,[])) (g1:¬ (c0=0)):RT polCp 64 (sub [] B64) [(0,.a [.i a]),(1,.a [.i x])] [] .ret (env64 (.a [.i a]) (.a [.i x]) (.i c0) (.i 0) (.i a) (.i x) (.i c0) (.a [.i a]) (.i 1) (.i 0)) [] :=
  RunsTo.hin 0 60 [⟨7,2,.i c0,[]⟩,⟨8,1,.bool true,[]⟩] fun kf hk=>⟨_,by kernel_rfl,(oC (g0 kf) (oB [] (congrArg not (decide_eq_false g1)) .nil))⟩
theorem cl_a_1 (a x:Int) (c0:Int) (g0:∀ kf,callN Tp polCp (kf+1) 71 [.i a,.i x] []=some (.i c0,[])) (g1:c0=0):RT polCp 64 (sub [] B64) [(0,.a [.i a]),(1,.a [.i x])] [] .ret (env64 (.a [.i a]) (.a [.i x]) (.i 0) Ud Ud Ud Ud (.a [.i a]) (.i 1) (.i 1)) [] :=
  RunsTo.hin 0 60 [⟨7,2,.i c0,[]⟩,⟨8,1,.bool false,[]⟩] fun kf hk=>⟨_,by kernel_rfl,(oC (g0 kf) (oB [] (congrArg not (decide_eq_true g1)) .nil))⟩
theorem cl_b_0 (a b x y:Int) (c0:Int) (g0:∀ kf,callN Tp polCp (kf+1) 71 [.i a,.i x] []=some (.i c0,[])) (g1:¬ (c0=0)):RT polCp 64 (sub [] B64) [(0,.a [.i a,.i b]),(1,.a [.i x,.i y])] [] .ret (env64 (.a [.i a,.i b]) (.a [.i x,.i y]) (.i c0) (.i 0) (.i a) (.i x) (.i c0) (.a [.i a,.i b]) (.i 2) (.i 0)) [] :=
  RunsTo.hin 0 60 [⟨7,2,.i c0,[]⟩,⟨8,1,.bool true,[]⟩] fun kf hk=>⟨_,by kernel_rfl,(oC (g0 kf) (oB [] (congrArg not (decide_eq_false g1)) .nil))⟩
theorem cl_b_1 (a b x y:Int) (c0:Int) (c1:Int) (g0:∀ kf,callN Tp polCp (kf+1) 71 [.i a,.i x] []=some (.i c0,[])) (g1:c0=0) (g2:∀ kf,callN Tp polCp (kf+1) 71 [.i b,.i y] []=some (.i c1,[])) (g3:¬ (c1=0)):RT polCp 64 (sub [] B64) [(0,.a [.i a,.i b]),(1,.a [.i x,.i y])] [] .ret (env64 (.a [.i a,.i b]) (.a [.i x,.i y]) (.i c1) (.i 1) (.i b) (.i y) (.i c1) (.a [.i a,.i b]) (.i 2) (.i 1)) [] :=
  RunsTo.hin 0 60 [⟨7,2,.i c0,[]⟩,⟨8,1,.bool false,[]⟩,⟨7,2,.i c1,[]⟩,⟨8,1,.bool true,[]⟩] fun kf hk=>⟨_,by kernel_rfl,(oC (g0 kf) (oB [] (congrArg not (decide_eq_true g1)) (oC (g2 kf) (oB [] (congrArg not (decide_eq_false g3)) .nil))))⟩
theorem cl_b_2 (a b x y:Int) (c0:Int) (c1:Int) (g0:∀ kf,callN Tp polCp (kf+1) 71 [.i a,.i x] []=some (.i c0,[])) (g1:c0=0) (g2:∀ kf,callN Tp polCp (kf+1) 71 [.i b,.i y] []=some (.i c1,[])) (g3:c1=0):RT polCp 64 (sub [] B64) [(0,.a [.i a,.i b]),(1,.a [.i x,.i y])] [] .ret (env64 (.a [.i a,.i b]) (.a [.i x,.i y]) (.i 0) Ud Ud Ud Ud (.a [.i a,.i b]) (.i 2) (.i 2)) [] :=
  RunsTo.hin 0 60 [⟨7,2,.i c0,[]⟩,⟨8,1,.bool false,[]⟩,⟨7,2,.i c1,[]⟩,⟨8,1,.bool false,[]⟩] fun kf hk=>⟨_,by kernel_rfl,(oC (g0 kf) (oB [] (congrArg not (decide_eq_true g1)) (oC (g2 kf) (oB [] (congrArg not (decide_eq_true g3)) .nil))))⟩
end Go.Proofs.Ytaibmipamkaljaa
end
section
open Go Go.HL
namespace Go.Proofs.Ytaibmipamkaljaa
open Go.Proofs.Try renaming prog → Tp
open Go.HL.HV renaming undef → Ud
def polW:Pol:={ pol with prim:=fun g=>if g == 47 then some withinF else none }
theorem soundW (n:Nat):CallSound Tp (callN Tp polW n):=sound_prim _ (fun g f h=>by
  split at h
  · rename_i hg; cases h; rw [eq_of_beq hg]; exact within_ok
  · cases h) n
def inB (a lo hi:Int):Bool:=decide (lo ≤ a∧a ≤ hi)
def newGroupT:List Int → Gr × Bool
  | [a]=>if inB a 2 24 then ((a,1,1),true) else ((0,0,0),false)
  | [a,b]=>if inB a 2 24 && inB b 2 24 then ((a,b,2),decide (a * b ≤ 144) && decide (b % a=0)) else ((0,0,0),false)
  | _=>((0,0,0),false)
def newGroup55:List HV → Option HV:=liF fun l=>some (.tuple [encG (newGroupT l).1,.bool (newGroupT l).2])
def elementT (g:Gr):List Int → El × Bool
  | [a]=>if g.2.2=1∧inB a 0 (g.1 - 1) then ((a,0),true) else ((0,0),false)
  | [a,b]=>if g.2.2=2∧inB a 0 (g.1 - 1) then (if inB b 0 (g.2.1 - 1) then ((a,b),true) else ((a,0),false)) else ((0,0),false)
  | _=>((0,0),false)
def element58:List HV → Option HV
  | [a,.imm .arg 1 la]=>(match decG a,mapO decI la with | some g,some l=>if grOk g∧(g.2.2=1 ∨ g.2.2=2) then some (.tuple [encX (elementT g l).1,.bool (elementT g l).2]) else none | _,_=>none)
  | _=>none
theorem element_inv {args:List HV} {res:HV} (h:element58 args=some res):∃ g l,args=[encG g,.imm .arg 1 (l.map encI)]∧(grOk g∧(g.2.2=1 ∨ g.2.2=2))∧res=.tuple [encX (elementT g l).1,.bool (elementT g l).2]:=by
  unfold element58 at h
  split at h
  · rename_i a la
    split at h
    · rename_i g l hg hl
      split at h
      · rename_i hk
        cases h
        exact ⟨g,l,by rw [decG_inv _ _ hg,mapO_inv decI_inv hl],hk,rfl⟩
      · cases h
    · cases h
  · cases h
end Go.Proofs.Ytaibmipamkaljaa
end
section
open Go Go.HL
namespace Go.Proofs.Ytaibmipamkaljaa
set_option maxRecDepth 100000
open Go.Proofs.Try renaming prog → Tp
open Go.HL.HV renaming undef → Ud
noncomputable def B55:Code:=Try.f55.body.getD .skip
abbrev env55 (v0 v2 v3 v4 v5 v6 v16 v17 v18:HV):Env:=[(0,v0),(2,v2),(3,v3),(4,v4),(5,v5),(6,v6),(16,v16),(17,v17),(18,v18)]
theorem ng_z_0 (l:List HV)(g0:¬ ((1:Int) ≤ (l.length:Int)∧(l.length:Int) ≤ (2:Int))):RT polW 55 (sub [] B55) [(0,.a l)] [] .ret (env55 (.a l) (.ptr 0 0 0 1) (.bool false) Ud Ud Ud Ud Ud Ud) [.arr 3 [.agg [.i 0,.i 0,.i 0]] true 0] :=
  RunsTo.hin 0 60 [⟨1,2,.bool false,[.arr 3 [.agg [.i 0,.i 0,.i 0]] true 0]⟩] fun kf hk=>⟨_,by kernel_rfl,(oB [.arr 3 [.agg [.i 0,.i 0,.i 0]] true 0] (decide_eq_false g0) .nil)⟩
theorem ng_a_0 (a:Int)(g0:(1:Int) ≤ (1:Int)∧(1:Int) ≤ (2:Int)) (g1:¬ ((2:Int) ≤ a∧a ≤ (24:Int))):RT polW 55 (sub [] B55) [(0,.a [.i a])] [] .ret (env55 (.a [.i a]) (.ptr 0 0 0 1) (.bool false) (.ptr 1 0 0 1) (.i 0) (.i a) (.a [.i a]) (.i 1) (.i 0)) [.arr 3 [.agg [.i 0,.i 0,.i 0]] true 0,.arr 3 [.agg [.i 1,.i 1,.i 1]] true 0] :=
  RunsTo.hin 0 60 [⟨1,2,.bool true,[.arr 3 [.agg [.i 0,.i 0,.i 0]] true 0]⟩,⟨7,1,.bool false,[.arr 3 [.agg [.i 0,.i 0,.i 0]] true 0,.arr 3 [.agg [.i 1,.i 1,.i 1]] true 0]⟩] fun kf hk=>⟨_,by kernel_rfl,(oB [.arr 3 [.agg [.i 0,.i 0,.i 0]] true 0] (decide_eq_true g0) (oB [.arr 3 [.agg [.i 0,.i 0,.i 0]] true 0,.arr 3 [.agg [.i 1,.i 1,.i 1]] true 0] (decide_eq_false g1) .nil))⟩
theorem ng_a_1 (a:Int)(g0:(1:Int) ≤ (1:Int)∧(1:Int) ≤ (2:Int)) (g1:(2:Int) ≤ a∧a ≤ (24:Int)) (g2:IntKind.i64.wrap (a * 1) ≤ 144) (gS11:(true && (true && true))=true):RT polW 55 (sub [] B55) [(0,.a [.i a])] [] .ret (env55 (.a [.i a]) (.ptr 0 0 0 1) (.bool true) (.ptr 1 0 0 1) Ud Ud (.a [.i a]) (.i 1) (.i 1)) [.arr 3 [.agg [.i a,.i 1,.i 1]] true 0,.arr 3 [.agg [.i a,.i 1,.i 1]] true 0] :=
  RunsTo.hin 0 60 [⟨1,2,.bool true,[.arr 3 [.agg [.i 0,.i 0,.i 0]] true 0]⟩,⟨7,1,.bool true,[.arr 3 [.agg [.i 0,.i 0,.i 0]] true 0,.arr 3 [.agg [.i 1,.i 1,.i 1]] true 0]⟩,⟨11,8,.bool true,[.arr 3 [.agg [.i 0,.i 0,.i 0]] true 0,.arr 3 [.agg [.i a,.i 1,.i 1]] true 0]⟩] fun kf hk=>⟨_,by kernel_rfl,(oB [.arr 3 [.agg [.i 0,.i 0,.i 0]] true 0] (decide_eq_true g0) (oB [.arr 3 [.agg [.i 0,.i 0,.i 0]] true 0,.arr 3 [.agg [.i 1,.i 1,.i 1]] true 0] (decide_eq_true g1) (oC (gS11) (oB [.arr 3 [.agg [.i 0,.i 0,.i 0]] true 0,.arr 3 [.agg [.i a,.i 1,.i 1]] true 0] (decide_eq_true g2) .nil))))⟩
theorem ng_b_0 (a b:Int)(g0:(1:Int) ≤ (2:Int)∧(2:Int) ≤ (2:Int)) (g1:¬ ((2:Int) ≤ a∧a ≤ (24:Int))):RT polW 55 (sub [] B55) [(0,.a [.i a,.i b])] [] .ret (env55 (.a [.i a,.i b]) (.ptr 0 0 0 1) (.bool false) (.ptr 1 0 0 1) (.i 0) (.i a) (.a [.i a,.i b]) (.i 2) (.i 0)) [.arr 3 [.agg [.i 0,.i 0,.i 0]] true 0,.arr 3 [.agg [.i 1,.i 1,.i 2]] true 0] :=
  RunsTo.hin 0 60 [⟨1,2,.bool true,[.arr 3 [.agg [.i 0,.i 0,.i 0]] true 0]⟩,⟨7,1,.bool false,[.arr 3 [.agg [.i 0,.i 0,.i 0]] true 0,.arr 3 [.agg [.i 1,.i 1,.i 2]] true 0]⟩] fun kf hk=>⟨_,by kernel_rfl,(oB [.arr 3 [.agg [.i 0,.i 0,.i 0]] true 0] (decide_eq_true g0) (oB [.arr 3 [.agg [.i 0,.i 0,.i 0]] true 0,.arr 3 [.agg [.i 1,.i 1,.i 2]] true 0] (decide_eq_false g1) .nil))⟩
theorem ng_b_1 (a b:Int)(g0:(1:Int) ≤ (2:Int)∧(2:Int) ≤ (2:Int)) (g1:(2:Int) ≤ a∧a ≤ (24:Int)) (g2:¬ ((2:Int) ≤ b∧b ≤ (24:Int))):RT polW 55 (sub [] B55) [(0,.a [.i a,.i b])] [] .ret (env55 (.a [.i a,.i b]) (.ptr 0 0 0 1) (.bool false) (.ptr 1 0 0 1) (.i 1) (.i b) (.a [.i a,.i b]) (.i 2) (.i 1)) [.arr 3 [.agg [.i 0,.i 0,.i 0]] true 0,.arr 3 [.agg [.i a,.i 1,.i 2]] true 0] :=
  RunsTo.hin 0 60 [⟨1,2,.bool true,[.arr 3 [.agg [.i 0,.i 0,.i 0]] true 0]⟩,⟨7,1,.bool true,[.arr 3 [.agg [.i 0,.i 0,.i 0]] true 0,.arr 3 [.agg [.i 1,.i 1,.i 2]] true 0]⟩,⟨7,1,.bool false,[.arr 3 [.agg [.i 0,.i 0,.i 0]] true 0,.arr 3 [.agg [.i a,.i 1,.i 2]] true 0]⟩] fun kf hk=>⟨_,by kernel_rfl,(oB [.arr 3 [.agg [.i 0,.i 0,.i 0]] true 0] (decide_eq_true g0) (oB [.arr 3 [.agg [.i 0,.i 0,.i 0]] true 0,.arr 3 [.agg [.i 1,.i 1,.i 2]] true 0] (decide_eq_true g1) (oB [.arr 3 [.agg [.i 0,.i 0,.i 0]] true 0,.arr 3 [.agg [.i a,.i 1,.i 2]] true 0] (decide_eq_false g2) .nil)))⟩
theorem ng_b_2 (a b:Int)(g0:(1:Int) ≤ (2:Int)∧(2:Int) ≤ (2:Int)) (g1:(2:Int) ≤ a∧a ≤ (24:Int)) (g2:(2:Int) ≤ b∧b ≤ (24:Int)) (g3:IntKind.i64.wrap (a * b) ≤ 144) (g4:binV Tp .rem 3 (.i b) (.i a)=some (.i ((b:Int).tmod a))) (g5:(b:Int).tmod a=0) (gS11:((same (.i b) (.i b) && sameH ([.arr 3 [.agg [.i 0,.i 0,.i 0]] true 0,.arr 3 [.agg [.i a,.i b,.i 2]] true 0]:Heap) [.arr 3 [.agg [.i 0,.i 0,.i 0]] true 0,.arr 3 [.agg [.i a,.i b,.i 2]] true 0] && sameH ([.arr 3 [.agg [.i a,.i b,.i 2]] true 0,.arr 3 [.agg [.i a,.i b,.i 2]] true 0]:Heap) [.arr 3 [.agg [.i a,.i b,.i 2]] true 0,.arr 3 [.agg [.i a,.i b,.i 2]] true 0]) && ((same (.i a) (.i a) && sameH ([.arr 3 [.agg [.i 0,.i 0,.i 0]] true 0,.arr 3 [.agg [.i a,.i b,.i 2]] true 0]:Heap) [.arr 3 [.agg [.i 0,.i 0,.i 0]] true 0,.arr 3 [.agg [.i a,.i b,.i 2]] true 0] && sameH ([.arr 3 [.agg [.i a,.i b,.i 2]] true 0,.arr 3 [.agg [.i a,.i b,.i 2]] true 0]:Heap) [.arr 3 [.agg [.i a,.i b,.i 2]] true 0,.arr 3 [.agg [.i a,.i b,.i 2]] true 0]) && true))=true):RT polW 55 (sub [] B55) [(0,.a [.i a,.i b])] [] .ret (env55 (.a [.i a,.i b]) (.ptr 0 0 0 1) (.bool true) (.ptr 1 0 0 1) Ud Ud (.a [.i a,.i b]) (.i 2) (.i 2)) [.arr 3 [.agg [.i a,.i b,.i 2]] true 0,.arr 3 [.agg [.i a,.i b,.i 2]] true 0] :=
  RunsTo.hin 0 60 [⟨1,2,.bool true,[.arr 3 [.agg [.i 0,.i 0,.i 0]] true 0]⟩,⟨7,1,.bool true,[.arr 3 [.agg [.i 0,.i 0,.i 0]] true 0,.arr 3 [.agg [.i 1,.i 1,.i 2]] true 0]⟩,⟨7,1,.bool true,[.arr 3 [.agg [.i 0,.i 0,.i 0]] true 0,.arr 3 [.agg [.i a,.i 1,.i 2]] true 0]⟩,⟨11,8,.bool true,[.arr 3 [.agg [.i 0,.i 0,.i 0]] true 0,.arr 3 [.agg [.i a,.i b,.i 2]] true 0]⟩,⟨11,20,.i ((b:Int).tmod a),[.arr 3 [.agg [.i 0,.i 0,.i 0]] true 0,.arr 3 [.agg [.i a,.i b,.i 2]] true 0]⟩,⟨11,21,.bool true,[.arr 3 [.agg [.i 0,.i 0,.i 0]] true 0,.arr 3 [.agg [.i a,.i b,.i 2]] true 0]⟩] fun kf hk=>⟨_,by kernel_rfl,(oB [.arr 3 [.agg [.i 0,.i 0,.i 0]] true 0] (decide_eq_true g0) (oB [.arr 3 [.agg [.i 0,.i 0,.i 0]] true 0,.arr 3 [.agg [.i 1,.i 1,.i 2]] true 0] (decide_eq_true g1) (oB [.arr 3 [.agg [.i 0,.i 0,.i 0]] true 0,.arr 3 [.agg [.i a,.i 1,.i 2]] true 0] (decide_eq_true g2) (oC (gS11) (oB [.arr 3 [.agg [.i 0,.i 0,.i 0]] true 0,.arr 3 [.agg [.i a,.i b,.i 2]] true 0] (decide_eq_true g3) (oP [.arr 3 [.agg [.i 0,.i 0,.i 0]] true 0,.arr 3 [.agg [.i a,.i b,.i 2]] true 0] g4 (oB [.arr 3 [.agg [.i 0,.i 0,.i 0]] true 0,.arr 3 [.agg [.i a,.i b,.i 2]] true 0] (decide_eq_true g5) .nil)))))))⟩
theorem ng_b_3 (a b:Int)(g0:(1:Int) ≤ (2:Int)∧(2:Int) ≤ (2:Int)) (g1:(2:Int) ≤ a∧a ≤ (24:Int)) (g2:(2:Int) ≤ b∧b ≤ (24:Int)) (g3:IntKind.i64.wrap (a * b) ≤ 144) (g4:binV Tp .rem 3 (.i b) (.i a)=some (.i ((b:Int).tmod a))) (g5:¬ ((b:Int).tmod a=0)) (gS11:((same (.i b) (.i b) && sameH ([.arr 3 [.agg [.i 0,.i 0,.i 0]] true 0,.arr 3 [.agg [.i a,.i b,.i 2]] true 0]:Heap) [.arr 3 [.agg [.i 0,.i 0,.i 0]] true 0,.arr 3 [.agg [.i a,.i b,.i 2]] true 0] && sameH ([.arr 3 [.agg [.i a,.i b,.i 2]] true 0,.arr 3 [.agg [.i a,.i b,.i 2]] true 0]:Heap) [.arr 3 [.agg [.i a,.i b,.i 2]] true 0,.arr 3 [.agg [.i a,.i b,.i 2]] true 0]) && ((same (.i a) (.i a) && sameH ([.arr 3 [.agg [.i 0,.i 0,.i 0]] true 0,.arr 3 [.agg [.i a,.i b,.i 2]] true 0]:Heap) [.arr 3 [.agg [.i 0,.i 0,.i 0]] true 0,.arr 3 [.agg [.i a,.i b,.i 2]] true 0] && sameH ([.arr 3 [.agg [.i a,.i b,.i 2]] true 0,.arr 3 [.agg [.i a,.i b,.i 2]] true 0]:Heap) [.arr 3 [.agg [.i a,.i b,.i 2]] true 0,.arr 3 [.agg [.i a,.i b,.i 2]] true 0]) && true))=true):RT polW 55 (sub [] B55) [(0,.a [.i a,.i b])] [] .ret (env55 (.a [.i a,.i b]) (.ptr 0 0 0 1) (.bool false) (.ptr 1 0 0 1) Ud Ud (.a [.i a,.i b]) (.i 2) (.i 2)) [.arr 3 [.agg [.i a,.i b,.i 2]] true 0,.arr 3 [.agg [.i a,.i b,.i 2]] true 0] :=
  RunsTo.hin 0 60 [⟨1,2,.bool true,[.arr 3 [.agg [.i 0,.i 0,.i 0]] true 0]⟩,⟨7,1,.bool true,[.arr 3 [.agg [.i 0,.i 0,.i 0]] true 0,.arr 3 [.agg [.i 1,.i 1,.i 2]] true 0]⟩,⟨7,1,.bool true,[.arr 3 [.agg [.i 0,.i 0,.i 0]] true 0,.arr 3 [.agg [.i a,.i 1,.i 2]] true 0]⟩,⟨11,8,.bool true,[.arr 3 [.agg [.i 0,.i 0,.i 0]] true 0,.arr 3 [.agg [.i a,.i b,.i 2]] true 0]⟩,⟨11,20,.i ((b:Int).tmod a),[.arr 3 [.agg [.i 0,.i 0,.i 0]] true 0,.arr 3 [.agg [.i a,.i b,.i 2]] true 0]⟩,⟨11,21,.bool false,[.arr 3 [.agg [.i 0,.i 0,.i 0]] true 0,.arr 3 [.agg [.i a,.i b,.i 2]] true 0]⟩] fun kf hk=>⟨_,by kernel_rfl,(oB [.arr 3 [.agg [.i 0,.i 0,.i 0]] true 0] (decide_eq_true g0) (oB [.arr 3 [.agg [.i 0,.i 0,.i 0]] true 0,.arr 3 [.agg [.i 1,.i 1,.i 2]] true 0] (decide_eq_true g1) (oB [.arr 3 [.agg [.i 0,.i 0,.i 0]] true 0,.arr 3 [.agg [.i a,.i 1,.i 2]] true 0] (decide_eq_true g2) (oC (gS11) (oB [.arr 3 [.agg [.i 0,.i 0,.i 0]] true 0,.arr 3 [.agg [.i a,.i b,.i 2]] true 0] (decide_eq_true g3) (oP [.arr 3 [.agg [.i 0,.i 0,.i 0]] true 0,.arr 3 [.agg [.i a,.i b,.i 2]] true 0] g4 (oB [.arr 3 [.agg [.i 0,.i 0,.i 0]] true 0,.arr 3 [.agg [.i a,.i b,.i 2]] true 0] (decide_eq_false g5) .nil)))))))⟩
theorem ng_b_4 (a b:Int)(g0:(1:Int) ≤ (2:Int)∧(2:Int) ≤ (2:Int)) (g1:(2:Int) ≤ a∧a ≤ (24:Int)) (g2:(2:Int) ≤ b∧b ≤ (24:Int)) (g3:¬ (IntKind.i64.wrap (a * b) ≤ 144)) (gS11:(true && (true && true))=true):RT polW 55 (sub [] B55) [(0,.a [.i a,.i b])] [] .ret (env55 (.a [.i a,.i b]) (.ptr 0 0 0 1) (.bool false) (.ptr 1 0 0 1) Ud Ud (.a [.i a,.i b]) (.i 2) (.i 2)) [.arr 3 [.agg [.i a,.i b,.i 2]] true 0,.arr 3 [.agg [.i a,.i b,.i 2]] true 0] :=
  RunsTo.hin 0 60 [⟨1,2,.bool true,[.arr 3 [.agg [.i 0,.i 0,.i 0]] true 0]⟩,⟨7,1,.bool true,[.arr 3 [.agg [.i 0,.i 0,.i 0]] true 0,.arr 3 [.agg [.i 1,.i 1,.i 2]] true 0]⟩,⟨7,1,.bool true,[.arr 3 [.agg [.i 0,.i 0,.i 0]] true 0,.arr 3 [.agg [.i a,.i 1,.i 2]] true 0]⟩,⟨11,8,.bool false,[.arr 3 [.agg [.i 0,.i 0,.i 0]] true 0,.arr 3 [.agg [.i a,.i b,.i 2]] true 0]⟩] fun kf hk=>⟨_,by kernel_rfl,(oB [.arr 3 [.agg [.i 0,.i 0,.i 0]] true 0] (decide_eq_true g0) (oB [.arr 3 [.agg [.i 0,.i 0,.i 0]] true 0,.arr 3 [.agg [.i 1,.i 1,.i 2]] true 0] (decide_eq_true g1) (oB [.arr 3 [.agg [.i 0,.i 0,.i 0]] true 0,.arr 3 [.agg [.i a,.i 1,.i 2]] true 0] (decide_eq_true g2) (oC (gS11) (oB [.arr 3 [.agg [.i 0,.i 0,.i 0]] true 0,.arr 3 [.agg [.i a,.i b,.i 2]] true 0] (decide_eq_false g3) .nil)))))⟩
noncomputable def B58:Code:=Try.f58.body.getD .skip
abbrev env58 (v0 v1 v2 v4 v5 v6 v7 v8 v15 v16 v17:HV):Env:=[(0,v0),(1,v1),(2,v2),(4,v4),(5,v5),(6,v6),(7,v7),(8,v8),(15,v15),(16,v16),(17,v17)]
theorem em_z_0 (m0 m1 rk:Int) (l:List HV)(g0:¬ ((l.length:Int)=rk)):RT polW 58 (sub [] B58) [(0,.agg [.i m0,.i m1,.i rk]),(1,.a l)] [] .ret (env58 (.agg [.i m0,.i m1,.i rk]) (.a l) (.ptr 0 0 0 1) (.ptr 1 0 0 1) (.bool false) (.ptr 2 0 0 1) Ud Ud Ud Ud Ud) [.arr 3 [.agg [.i m0,.i m1,.i rk]] true 0,.arr 2 [.agg [.i 0,.i 0]] true 0,.arr 2 [.agg [.i 0,.i 0]] true 0] :=
  RunsTo.hin 0 60 [⟨2,4,.bool true,[.arr 3 [.agg [.i m0,.i m1,.i rk]] true 0,.arr 2 [.agg [.i 0,.i 0]] true 0,.arr 2 [.agg [.i 0,.i 0]] true 0]⟩] fun kf hk=>⟨_,by kernel_rfl,(oB [.arr 3 [.agg [.i m0,.i m1,.i rk]] true 0,.arr 2 [.agg [.i 0,.i 0]] true 0,.arr 2 [.agg [.i 0,.i 0]] true 0] (congrArg not (decide_eq_false g0)) .nil)⟩
theorem em_a_0 (m0 m1 rk:Int) (a:Int)(g0:(1:Int)=rk) (g1:¬ ((0:Int) ≤ a∧a ≤ IntKind.i64.wrap (m0 - 1))):RT polW 58 (sub [] B58) [(0,.agg [.i m0,.i m1,.i rk]),(1,.a [.i a])] [] .ret (env58 (.agg [.i m0,.i m1,.i rk]) (.a [.i a]) (.ptr 0 0 0 1) (.ptr 1 0 0 1) (.bool false) (.ptr 2 0 0 1) (.i 0) (.i a) (.a [.i a]) (.i 1) (.i 0)) [.arr 3 [.agg [.i m0,.i m1,.i rk]] true 0,.arr 2 [.agg [.i 0,.i 0]] true 0,.arr 2 [.agg [.i 0,.i 0]] true 0] :=
  RunsTo.hin 0 60 [⟨2,4,.bool false,[.arr 3 [.agg [.i m0,.i m1,.i rk]] true 0,.arr 2 [.agg [.i 0,.i 0]] true 0,.arr 2 [.agg [.i 0,.i 0]] true 0]⟩,⟨7,6,.bool false,[.arr 3 [.agg [.i m0,.i m1,.i rk]] true 0,.arr 2 [.agg [.i 0,.i 0]] true 0,.arr 2 [.agg [.i 0,.i 0]] true 0]⟩] fun kf hk=>⟨_,by kernel_rfl,(oB [.arr 3 [.agg [.i m0,.i m1,.i rk]] true 0,.arr 2 [.agg [.i 0,.i 0]] true 0,.arr 2 [.agg [.i 0,.i 0]] true 0] (congrArg not (decide_eq_true g0)) (oB [.arr 3 [.agg [.i m0,.i m1,.i rk]] true 0,.arr 2 [.agg [.i 0,.i 0]] true 0,.arr 2 [.agg [.i 0,.i 0]] true 0] (decide_eq_false g1) .nil))⟩
theorem em_a_1 (m0 m1 rk:Int) (a:Int)(g0:(1:Int)=rk) (g1:(0:Int) ≤ a∧a ≤ IntKind.i64.wrap (m0 - 1)):RT polW 58 (sub [] B58) [(0,.agg [.i m0,.i m1,.i rk]),(1,.a [.i a])] [] .ret (env58 (.agg [.i m0,.i m1,.i rk]) (.a [.i a]) (.ptr 0 0 0 1) (.ptr 1 0 0 1) (.bool true) (.ptr 2 0 0 1) Ud Ud (.a [.i a]) (.i 1) (.i 1)) [.arr 3 [.agg [.i m0,.i m1,.i rk]] true 0,.arr 2 [.agg [.i a,.i 0]] true 0,.arr 2 [.agg [.i a,.i 0]] true 0] :=
  RunsTo.hin 0 60 [⟨2,4,.bool false,[.arr 3 [.agg [.i m0,.i m1,.i rk]] true 0,.arr 2 [.agg [.i 0,.i 0]] true 0,.arr 2 [.agg [.i 0,.i 0]] true 0]⟩,⟨7,6,.bool true,[.arr 3 [.agg [.i m0,.i m1,.i rk]] true 0,.arr 2 [.agg [.i 0,.i 0]] true 0,.arr 2 [.agg [.i 0,.i 0]] true 0]⟩] fun kf hk=>⟨_,by kernel_rfl,(oB [.arr 3 [.agg [.i m0,.i m1,.i rk]] true 0,.arr 2 [.agg [.i 0,.i 0]] true 0,.arr 2 [.agg [.i 0,.i 0]] true 0] (congrArg not (decide_eq_true g0)) (oB [.arr 3 [.agg [.i m0,.i m1,.i rk]] true 0,.arr 2 [.agg [.i 0,.i 0]] true 0,.arr 2 [.agg [.i 0,.i 0]] true 0] (decide_eq_true g1) .nil))⟩
theorem em_b_0 (m0 m1 rk:Int) (a b:Int)(g0:(2:Int)=rk) (g1:¬ ((0:Int) ≤ a∧a ≤ IntKind.i64.wrap (m0 - 1))):RT polW 58 (sub [] B58) [(0,.agg [.i m0,.i m1,.i rk]),(1,.a [.i a,.i b])] [] .ret (env58 (.agg [.i m0,.i m1,.i rk]) (.a [.i a,.i b]) (.ptr 0 0 0 1) (.ptr 1 0 0 1) (.bool false) (.ptr 2 0 0 1) (.i 0) (.i a) (.a [.i a,.i b]) (.i 2) (.i 0)) [.arr 3 [.agg [.i m0,.i m1,.i rk]] true 0,.arr 2 [.agg [.i 0,.i 0]] true 0,.arr 2 [.agg [.i 0,.i 0]] true 0] :=
  RunsTo.hin 0 60 [⟨2,4,.bool false,[.arr 3 [.agg [.i m0,.i m1,.i rk]] true 0,.arr 2 [.agg [.i 0,.i 0]] true 0,.arr 2 [.agg [.i 0,.i 0]] true 0]⟩,⟨7,6,.bool false,[.arr 3 [.agg [.i m0,.i m1,.i rk]] true 0,.arr 2 [.agg [.i 0,.i 0]] true 0,.arr 2 [.agg [.i 0,.i 0]] true 0]⟩] fun kf hk=>⟨_,by kernel_rfl,(oB [.arr 3 [.agg [.i m0,.i m1,.i rk]] true 0,.arr 2 [.agg [.i 0,.i 0]] true 0,.arr 2 [.agg [.i 0,.i 0]] true 0] (congrArg not (decide_eq_true g0)) (oB [.arr 3 [.agg [.i m0,.i m1,.i rk]] true 0,.arr 2 [.agg [.i 0,.i 0]] true 0,.arr 2 [.agg [.i 0,.i 0]] true 0] (decide_eq_false g1) .nil))⟩
theorem em_b_1 (m0 m1 rk:Int) (a b:Int)(g0:(2:Int)=rk) (g1:(0:Int) ≤ a∧a ≤ IntKind.i64.wrap (m0 - 1)) (g2:¬ ((0:Int) ≤ b∧b ≤ IntKind.i64.wrap (m1 - 1))):RT polW 58 (sub [] B58) [(0,.agg [.i m0,.i m1,.i rk]),(1,.a [.i a,.i b])] [] .ret (env58 (.agg [.i m0,.i m1,.i rk]) (.a [.i a,.i b]) (.ptr 0 0 0 1) (.ptr 1 0 0 1) (.bool false) (.ptr 2 0 0 1) (.i 1) (.i b) (.a [.i a,.i b]) (.i 2) (.i 1)) [.arr 3 [.agg [.i m0,.i m1,.i rk]] true 0,.arr 2 [.agg [.i a,.i 0]] true 0,.arr 2 [.agg [.i a,.i 0]] true 0] :=
  RunsTo.hin 0 60 [⟨2,4,.bool false,[.arr 3 [.agg [.i m0,.i m1,.i rk]] true 0,.arr 2 [.agg [.i 0,.i 0]] true 0,.arr 2 [.agg [.i 0,.i 0]] true 0]⟩,⟨7,6,.bool true,[.arr 3 [.agg [.i m0,.i m1,.i rk]] true 0,.arr 2 [.agg [.i 0,.i 0]] true 0,.arr 2 [.agg [.i 0,.i 0]] true 0]⟩,⟨7,6,.bool false,[.arr 3 [.agg [.i m0,.i m1,.i rk]] true 0,.arr 2 [.agg [.i 0,.i 0]] true 0,.arr 2 [.agg [.i a,.i 0]] true 0]⟩] fun kf hk=>⟨_,by kernel_rfl,(oB [.arr 3 [.agg [.i m0,.i m1,.i rk]] true 0,.arr 2 [.agg [.i 0,.i 0]] true 0,.arr 2 [.agg [.i 0,.i 0]] true 0] (congrArg not (decide_eq_true g0)) (oB [.arr 3 [.agg [.i m0,.i m1,.i rk]] true 0,.arr 2 [.agg [.i 0,.i 0]] true 0,.arr 2 [.agg [.i 0,.i 0]] true 0] (decide_eq_true g1) (oB [.arr 3 [.agg [.i m0,.i m1,.i rk]] true 0,.arr 2 [.agg [.i 0,.i 0]] true 0,.arr 2 [.agg [.i a,.i 0]] true 0] (decide_eq_false g2) .nil)))⟩
theorem em_b_2 (m0 m1 rk:Int) (a b:Int)(g0:(2:Int)=rk) (g1:(0:Int) ≤ a∧a ≤ IntKind.i64.wrap (m0 - 1)) (g2:(0:Int) ≤ b∧b ≤ IntKind.i64.wrap (m1 - 1)):RT polW 58 (sub [] B58) [(0,.agg [.i m0,.i m1,.i rk]),(1,.a [.i a,.i b])] [] .ret (env58 (.agg [.i m0,.i m1,.i rk]) (.a [.i a,.i b]) (.ptr 0 0 0 1) (.ptr 1 0 0 1) (.bool true) (.ptr 2 0 0 1) Ud Ud (.a [.i a,.i b]) (.i 2) (.i 2)) [.arr 3 [.agg [.i m0,.i m1,.i rk]] true 0,.arr 2 [.agg [.i a,.i b]] true 0,.arr 2 [.agg [.i a,.i b]] true 0] :=
  RunsTo.hin 0 60 [⟨2,4,.bool false,[.arr 3 [.agg [.i m0,.i m1,.i rk]] true 0,.arr 2 [.agg [.i 0,.i 0]] true 0,.arr 2 [.agg [.i 0,.i 0]] true 0]⟩,⟨7,6,.bool true,[.arr 3 [.agg [.i m0,.i m1,.i rk]] true 0,.arr 2 [.agg [.i 0,.i 0]] true 0,.arr 2 [.agg [.i 0,.i 0]] true 0]⟩,⟨7,6,.bool true,[.arr 3 [.agg [.i m0,.i m1,.i rk]] true 0,.arr 2 [.agg [.i 0,.i 0]] true 0,.arr 2 [.agg [.i a,.i 0]] true 0]⟩] fun kf hk=>⟨_,by kernel_rfl,(oB [.arr 3 [.agg [.i m0,.i m1,.i rk]] true 0,.arr 2 [.agg [.i 0,.i 0]] true 0,.arr 2 [.agg [.i 0,.i 0]] true 0] (congrArg not (decide_eq_true g0)) (oB [.arr 3 [.agg [.i m0,.i m1,.i rk]] true 0,.arr 2 [.agg [.i 0,.i 0]] true 0,.arr 2 [.agg [.i 0,.i 0]] true 0] (decide_eq_true g1) (oB [.arr 3 [.agg [.i m0,.i m1,.i rk]] true 0,.arr 2 [.agg [.i 0,.i 0]] true 0,.arr 2 [.agg [.i a,.i 0]] true 0] (decide_eq_true g2) .nil)))⟩
end Go.Proofs.Ytaibmipamkaljaa
end
section
open Go Go.HL
namespace Go.Proofs.Ytaibmipamkaljaa
open Go.Proofs.Try renaming prog → Tp
open Go.HL.HV renaming undef → Ud
theorem in_t {a lo hi:Int} (h:lo ≤ a∧a ≤ hi):inB a lo hi=true:=decide_eq_true h
theorem in_f {a lo hi:Int} (h:¬ (lo ≤ a∧a ≤ hi)):inB a lo hi=false:=decide_eq_false h
theorem newGroup_ok:PrimOk Tp 55 newGroup55:=by
  refine primOk_pure (pol:=polW) (fn:=Try.f55) (cd:=B55) follows_mixed soundW (by kernel_rfl) (by kernel_rfl) (fnok polW.prim _ _ (by kernel_rfl)) (by kernel_rfl) ?_
  intro args res h
  obtain ⟨l,rfl,hq⟩:=liF_inv h
  clear h
  cases hq
  match l with
  | []=>exact ⟨_,_,_,.tuple [encG (0,0,0),.bool false],ng_z_0 [] (by decide),by simp,by kernel_rfl,by kernel_rfl⟩
  | [a] =>
    by_cases c:2 ≤ a∧a ≤ 24
    · have hw:IntKind.i64.wrap (a * 1) ≤ 144:=by rw [Int.mul_one,wrap_id (by omega) (by omega)]; omega
      refine ⟨_,_,_,.tuple [encG (a,1,1),.bool true],ng_a_1 a (by decide) c hw rfl,by simp,by kernel_rfl,?_⟩
      simp only [newGroupT,in_t c,if_true]; rfl
    · refine ⟨_,_,_,.tuple [encG (0,0,0),.bool false],ng_a_0 a (by decide) c,by simp,by kernel_rfl,?_⟩
      simp only [newGroupT,in_f c,Bool.false_eq_true,if_false]; rfl
  | [a,b] =>
    by_cases c:2 ≤ a∧a ≤ 24
    · by_cases d:2 ≤ b∧b ≤ 24
      · have hm:IntKind.i64.wrap (a * b)=a * b:=by
          have h1:0 ≤ a * b:=Int.mul_nonneg (by omega) (by omega)
          have h2:a * b ≤ 24 * 24:=Int.mul_le_mul c.2 d.2 (by omega) (by omega)
          exact wrap_id (by omega) (by omega)
        have ht:b.tmod a=b % a:=Int.tmod_eq_emod_of_nonneg (by omega)
        by_cases e:a * b ≤ 144
        · by_cases f:b % a=0
          · refine ⟨_,_,_,.tuple [encG (a,b,2),.bool true],ng_b_2 a b (by decide) c d (by rw [hm]; exact e) (rem3 (by omega)) (by rw [ht]; exact f) (by simp [same,sameH,sameL,scEq]),by simp,by kernel_rfl,?_⟩
            simp only [newGroupT,in_t c,in_t d,Bool.and_self,if_true,decide_eq_true e,decide_eq_true f]; rfl
          · refine ⟨_,_,_,.tuple [encG (a,b,2),.bool false],ng_b_3 a b (by decide) c d (by rw [hm]; exact e) (rem3 (by omega)) (by rw [ht]; exact f) (by simp [same,sameH,sameL,scEq]),by simp,by kernel_rfl,?_⟩
            simp only [newGroupT,in_t c,in_t d,Bool.and_self,if_true,decide_eq_false f,Bool.and_false]; rfl
        · refine ⟨_,_,_,.tuple [encG (a,b,2),.bool false],ng_b_4 a b (by decide) c d (by rw [hm]; exact e) rfl,by simp,by kernel_rfl,?_⟩
          simp only [newGroupT,in_t c,in_t d,Bool.and_self,if_true,decide_eq_false e,Bool.false_and]; rfl
      · refine ⟨_,_,_,.tuple [encG (0,0,0),.bool false],ng_b_1 a b (by decide) c d,by simp,by kernel_rfl,?_⟩
        simp only [newGroupT,in_t c,in_f d,Bool.true_and,Bool.false_eq_true,if_false]; rfl
    · refine ⟨_,_,_,.tuple [encG (0,0,0),.bool false],ng_b_0 a b (by decide) c,by simp,by kernel_rfl,?_⟩
      simp only [newGroupT,in_f c,Bool.false_and,Bool.false_eq_true,if_false]; rfl
  | a :: b :: c :: l =>
    exact ⟨_,_,_,.tuple [encG (0,0,0),.bool false],ng_z_0 ((a :: b :: c :: l).map encI) (by simp only [List.length_map,List.length_cons]; omega),by simp,by kernel_rfl,rfl⟩
theorem element_ok:PrimOk Tp 58 element58:=by
  refine primOk_pure (pol:=polW) (fn:=Try.f58) (cd:=B58) follows_mixed soundW (by kernel_rfl) (by kernel_rfl) (fnok polW.prim _ _ (by kernel_rfl)) (by kernel_rfl) ?_
  intro args res h
  obtain ⟨⟨m0,m1,rk⟩,l,rfl,⟨hg,hr⟩,rfl⟩:=element_inv h
  obtain ⟨⟨g1,g2⟩,g3,g4⟩:=hg
  simp only at g1 g2 g3 g4 hr
  have w0:IntKind.i64.wrap (m0 - 1)=m0 - 1:=wrap_id (by omega) (by omega)
  have w1:IntKind.i64.wrap (m1 - 1)=m1 - 1:=wrap_id (by omega) (by omega)
  match l with
  | []=>exact ⟨_,_,_,.tuple [encX (0,0),.bool false],em_z_0 m0 m1 rk [] (by simp only [List.length_nil]; omega),by simp,by kernel_rfl,by kernel_rfl⟩
  | [a] =>
    by_cases k:rk=1
    · subst k
      by_cases c:0 ≤ a∧a ≤ m0 - 1
      · refine ⟨_,_,_,.tuple [encX (a,0),.bool true],em_a_1 m0 m1 1 a rfl (by rw [w0]; exact c),by simp,by kernel_rfl,?_⟩
        simp only [elementT,in_t c,and_self,if_true]; rfl
      · refine ⟨_,_,_,.tuple [encX (0,0),.bool false],em_a_0 m0 m1 1 a rfl (by rw [w0]; exact c),by simp,by kernel_rfl,?_⟩
        simp only [elementT,in_f c,Bool.false_eq_true,and_false,if_false]; rfl
    · refine ⟨_,_,_,.tuple [encX (0,0),.bool false],em_z_0 m0 m1 rk [.int .i64 a] (by simp only [List.length_cons,List.length_nil]; omega),by simp,by kernel_rfl,?_⟩
      simp only [elementT,k,false_and,if_false]; rfl
  | [a,b] =>
    by_cases k:rk=2
    · subst k
      by_cases c:0 ≤ a∧a ≤ m0 - 1
      · by_cases d:0 ≤ b∧b ≤ m1 - 1
        · refine ⟨_,_,_,.tuple [encX (a,b),.bool true],em_b_2 m0 m1 2 a b rfl (by rw [w0]; exact c) (by rw [w1]; exact d),by simp,by kernel_rfl,?_⟩
          simp only [elementT,in_t c,in_t d,and_self,if_true]; rfl
        · refine ⟨_,_,_,.tuple [encX (a,0),.bool false],em_b_1 m0 m1 2 a b rfl (by rw [w0]; exact c) (by rw [w1]; exact d),by simp,by kernel_rfl,?_⟩
          simp only [elementT,in_t c,in_f d,and_self,if_true,Bool.false_eq_true,if_false]; rfl
      · refine ⟨_,_,_,.tuple [encX (0,0),.bool false],em_b_0 m0 m1 2 a b rfl (by rw [w0]; exact c),by simp,by kernel_rfl,?_⟩
        simp only [elementT,in_f c,Bool.false_eq_true,and_false,if_false]; rfl
    · refine ⟨_,_,_,.tuple [encX (0,0),.bool false],em_z_0 m0 m1 rk [.int .i64 a,.int .i64 b] (by simp only [List.length_cons,List.length_nil]; omega),by simp,by kernel_rfl,?_⟩
      simp only [elementT,k,false_and,if_false]; rfl
  | a :: b :: c :: l =>
    exact ⟨_,_,_,.tuple [encX (0,0),.bool false],em_z_0 m0 m1 rk ((a :: b :: c :: l).map encI) (by simp only [List.length_map,List.length_cons]; omega),by simp,by kernel_rfl,rfl⟩
end Go.Proofs.Ytaibmipamkaljaa
end
section
open Go Go.HL
namespace Go.Proofs.Ytaibmipamkaljaa
open Go.Proofs.Try renaming prog → Tp
open Go.HL.HV renaming undef → Ud
def polE:Pol:={ pol with prim:=fun g=>if g == 58 then some element58 else none }
theorem soundE (n:Nat):CallSound Tp (callN Tp polE n):=sound_prim _ (fun g f h=>by
  split at h
  · rename_i hg; cases h; rw [eq_of_beq hg]; exact element_ok
  · cases h) n
theorem element_at {pol':Pol} (hp:pol'.prim 58=some element58) {g:Gr} (hg:grOk g) (hr:g.2.2=1 ∨ g.2.2=2) (l:List Int) (H:Heap):∀ k,callN Tp pol' (k+1) 58 [encG g,.imm .arg 1 (l.map encI)] H=some (.tuple [encX (elementT g l).1,.bool (elementT g l).2],H):=fun k=>by
  have hG:toArg H 6 (encG g)=some (encG g):=rfl
  have hL:=arg_li H l
  have hd:=decG_enc g
  have hm:mapO decI (l.map encI)=some l:=mapO_map decI_enc l
  show doCall Tp pol' _ 58 _ H=_
  unfold doCall
  simp only [hp,primCall,mapO,hG,hL,element58,hd,hm]
  rw [if_pos ⟨hg,hr⟩]
  rfl
abbrev bX (l:List El):Blk:=.arr 2 (l.map encX) true 0
theorem encX_bnd:∀ (l:List El),bndL (l.map encX)=0
  | []=>rfl
  | e :: l=>by simp only [List.map_cons,bndL,encX,bnd,encX_bnd l]; rfl
theorem frz_X {H:Heap} {no:List Nat} {d:Nat} (x:El):frz H no (d+1) (encX x)=some (encX x):=by cases d <;> rfl
theorem app_X {H:Heap} {b:Nat} {o:List El} (hb:H[b]?=some (bX o)) (hl:o.length ≤ 1000) (x:El) :
    appV H 2 16 (.sl b 0 o.length none o.length 2) [encX x]=some (.sl b 0 (o.length+1) none (o.length+1) 2,H.set b (bX (o ++ [x]))):=by
  have:=app_sl (H:=H) (k:=2) (bytes:=16) (b:=b) (n:=o.length) (mx:=0) (els:=o.map encX) (xs:=[encX x]) hb (by simp) (by simp) (by simp only [roomMax,List.length_singleton]; omega) (encX_bnd [x])
  rw [this]
  simp only [bX,List.map_append,List.map_cons,List.map_nil,List.length_singleton]
theorem toRes_X {H:Heap} {b k:Nat} {cap:Option Nat} {o:List El} (hb:H[b]?=some (bX o)) (hk:o.length=k) (t:Bool):toRes H false (.tuple [.sl b 0 k cap k 2,.bool t])=some (.tuple [.own 2 (o.map encX),.bool t]):=by
  have hr:=resCell_sl (H:=H) (no:=[b]) (b:=b) (k:=2) (m:=k) (cap:=cap) (els:=o.map encX) hb (by simpa using hk) (mapO_self (fun r=>frz_X r) _)
  have ho:ownedAll H false (.tuple [.sl b 0 k cap k 2,.bool t])=[b]:=by simp [ownedAll,cellsOf,owned,hb]
  simp only [toRes,ho,List.nodup_cons,List.not_mem_nil,not_false_eq_true,List.nodup_nil,and_self,if_true,mapO,resVal,hr]
  rfl
def elemsT (g:Gr) (R:List (List Int)):Option (List El):=if R.length ≤ 60∧(R.all fun r=>(elementT g r).2)=true then some (R.map fun r=>(elementT g r).1) else none
def elements56:List HV → Option HV
  | [a,.imm .arg 1 rw]=>(match decG a,mapO decR rw with | some g,some R=>if grOk g∧(g.2.2=1 ∨ g.2.2=2)∧R.length ≤ 1000 then some (match elemsT g R with | some l=>.tuple [.own 2 (l.map encX),.bool true] | none=>.tuple [.own 2 [],.bool false]) else none | _,_=>none)
  | _=>none
theorem elements_inv {args:List HV} {res:HV} (h:elements56 args=some res):∃ g R,args=[encG g,.imm .arg 1 (R.map encR)]∧(grOk g∧(g.2.2=1 ∨ g.2.2=2)∧R.length ≤ 1000)∧res=(match elemsT g R with | some l=>.tuple [.own 2 (l.map encX),.bool true] | none=>.tuple [.own 2 [],.bool false]):=by
  unfold elements56 at h
  split at h
  · rename_i a la
    split at h
    · rename_i g R hg hl
      split at h
      · rename_i hk
        cases h
        exact ⟨g,R,by rw [decG_inv _ _ hg,mapO_inv decR_inv hl],hk,rfl⟩
      · cases h
    · cases h
  · cases h
end Go.Proofs.Ytaibmipamkaljaa
end
section
open Go Go.HL
namespace Go.Proofs.Ytaibmipamkaljaa
set_option maxRecDepth 100000
open Go.Proofs.Try renaming prog → Tp
open Go.HL.HV renaming undef → Ud
noncomputable def B56:Code:=Try.f56.body.getD .skip
abbrev env56 (v0 v1 v2 v4 v5 v6 v8 v9 v10 v11 v12 v13:HV):Env:=[(0,v0),(1,v1),(2,v2),(4,v4),(5,v5),(6,v6),(8,v8),(9,v9),(10,v10),(11,v11),(12,v12),(13,v13)]
theorem es_a_0 (m0 m1 sz:Int) (rw:List HV) :RT polE 56 (sub [0] B56) [(0,.agg [.i m0,.i m1,.i sz]),(1,.a rw)] [] .normal (env56 (.agg [.i m0,.i m1,.i sz]) (.a rw) (.ptr 0 0 0 1) (.imm .lit 2 []) (.bool false) Ud Ud Ud Ud Ud Ud Ud) [.arr 3 [.agg [.i m0,.i m1,.i sz]] true 0] :=
  RunsTo.hin 0 60 [] fun kf hk=>⟨_,by kernel_rfl,.nil⟩
theorem es_b_0 (m0 m1 sz:Int) (rw:List HV)  {y6 y8 y9 y10 y11 y12 y13:HV}:RT polE 56 (sub [1,0] B56) (env56 (.agg [.i m0,.i m1,.i sz]) (.a rw) (.ptr 0 0 0 1) (.imm .lit 2 []) (.bool false) y6 y8 y9 y10 y11 y12 y13) [.arr 3 [.agg [.i m0,.i m1,.i sz]] true 0] .normal (env56 (.agg [.i m0,.i m1,.i sz]) (.a rw) (.ptr 0 0 0 1) (.imm .lit 2 []) (.bool false) (.sl 1 0 0 none 0 2) y8 y9 y10 y11 y12 y13) [.arr 3 [.agg [.i m0,.i m1,.i sz]] true 0,.arr 2 [] true 0] :=
  RunsTo.hin 0 60 [] fun kf hk=>⟨_,by kernel_rfl,.nil⟩
theorem es_c_0 (m0 m1 sz:Int) (rw:List HV) (n:Nat) (os:List HV) {y8 y9 y10 y11 y12 y13:HV}:RT polE 56 (sub [1,1,0,0] B56) (env56 (.agg [.i m0,.i m1,.i sz]) (.a rw) (.ptr 0 0 0 1) (.imm .lit 2 []) (.bool false) (.sl 1 0 n none n 2) y8 y9 y10 y11 y12 y13) [.arr 3 [.agg [.i m0,.i m1,.i sz]] true 0,.arr 2 os true 0] .normal (env56 (.agg [.i m0,.i m1,.i sz]) (.a rw) (.ptr 0 0 0 1) (.imm .lit 2 []) (.bool false) (.sl 1 0 n none n 2) y8 y9 y10 (.a rw) (.i (rw.length:Int)) (.i 0)) [.arr 3 [.agg [.i m0,.i m1,.i sz]] true 0,.arr 2 os true 0] :=
  RunsTo.hin 0 60 [] fun kf hk=>⟨_,by kernel_rfl,.nil⟩
theorem es_d_0 (m0 m1 sz:Int) (rw:List HV) (n:Nat) (os:List HV) (i:Nat) {y8 y9 y10:HV} {l0:List HV} {e0:Int} {e1:Int} (g0:(i:Int) < (rw.length:Int)) (g1:idxV Tp 35 (.a rw) (.i (i:Int))=some (.vptr (.a l0))) (g2:∀ kf,callN Tp polE (kf+1) 58 [.agg [.i m0,.i m1,.i sz],.a l0] [.arr 3 [.agg [.i m0,.i m1,.i sz]] true 0,.arr 2 os true 0]=some (.tuple [.agg [.i e0,.i e1],.bool true],[.arr 3 [.agg [.i m0,.i m1,.i sz]] true 0,.arr 2 os true 0])) (g3:60 < (rw.length:Int)):RT polE 56 (sub [1,1,0,1,0,0] B56) (env56 (.agg [.i m0,.i m1,.i sz]) (.a rw) (.ptr 0 0 0 1) (.imm .lit 2 []) (.bool false) (.sl 1 0 n none n 2) y8 y9 y10 (.a rw) (.i (rw.length:Int)) (.i (i:Int))) [.arr 3 [.agg [.i m0,.i m1,.i sz]] true 0,.arr 2 os true 0] .ret (env56 (.agg [.i m0,.i m1,.i sz]) (.a rw) (.ptr 0 0 0 1) (.imm .lit 2 []) (.bool false) (.sl 1 0 n none n 2) (.a l0) (.ptr 2 0 0 1) (.bool true) (.a rw) (.i (rw.length:Int)) (.i (i:Int))) [.arr 3 [.agg [.i m0,.i m1,.i sz]] true 0,.arr 2 os true 0,.arr 2 [.agg [.i e0,.i e1]] true 0] :=
  RunsTo.hin 0 60 [⟨3,0,.bool true,[.arr 3 [.agg [.i m0,.i m1,.i sz]] true 0,.arr 2 os true 0]⟩,⟨4,0,.vptr (.a l0),[.arr 3 [.agg [.i m0,.i m1,.i sz]] true 0,.arr 2 os true 0]⟩,⟨5,2,.tuple [.agg [.i e0,.i e1],.bool true],[.arr 3 [.agg [.i m0,.i m1,.i sz]] true 0,.arr 2 os true 0]⟩,⟨6,5,.bool true,[.arr 3 [.agg [.i m0,.i m1,.i sz]] true 0,.arr 2 os true 0,.arr 2 [.agg [.i e0,.i e1]] true 0]⟩] fun kf hk=>⟨_,by kernel_rfl,(oB [.arr 3 [.agg [.i m0,.i m1,.i sz]] true 0,.arr 2 os true 0] (decide_eq_true g0) (oP [.arr 3 [.agg [.i m0,.i m1,.i sz]] true 0,.arr 2 os true 0] g1 (oC (g2 kf) (oB [.arr 3 [.agg [.i m0,.i m1,.i sz]] true 0,.arr 2 os true 0,.arr 2 [.agg [.i e0,.i e1]] true 0] (decide_eq_true g3) .nil))))⟩
theorem es_d_1 (m0 m1 sz:Int) (rw:List HV) (n:Nat) (os:List HV) (i:Nat) {y8 y9 y10:HV} {l0:List HV} {e0:Int} {e1:Int} (g0:(i:Int) < (rw.length:Int)) (g1:idxV Tp 35 (.a rw) (.i (i:Int))=some (.vptr (.a l0))) (g2:∀ kf,callN Tp polE (kf+1) 58 [.agg [.i m0,.i m1,.i sz],.a l0] [.arr 3 [.agg [.i m0,.i m1,.i sz]] true 0,.arr 2 os true 0]=some (.tuple [.agg [.i e0,.i e1],.bool true],[.arr 3 [.agg [.i m0,.i m1,.i sz]] true 0,.arr 2 os true 0])) (g3:¬ (60 < (rw.length:Int))) (g4:appV [.arr 3 [.agg [.i m0,.i m1,.i sz]] true 0,.arr 2 os true 0,.arr 2 [.agg [.i e0,.i e1]] true 0] 2 16 (.sl 1 0 n none n 2) [.agg [.i e0,.i e1]]=some (.sl 1 0 (n+1) none (n+1) 2,[.arr 3 [.agg [.i m0,.i m1,.i sz]] true 0,.arr 2 (os ++ [.agg [.i e0,.i e1]]) true 0,.arr 2 [.agg [.i e0,.i e1]] true 0])):RT polE 56 (sub [1,1,0,1,0,0] B56) (env56 (.agg [.i m0,.i m1,.i sz]) (.a rw) (.ptr 0 0 0 1) (.imm .lit 2 []) (.bool false) (.sl 1 0 n none n 2) y8 y9 y10 (.a rw) (.i (rw.length:Int)) (.i (i:Int))) [.arr 3 [.agg [.i m0,.i m1,.i sz]] true 0,.arr 2 os true 0] .normal (env56 (.agg [.i m0,.i m1,.i sz]) (.a rw) (.ptr 0 0 0 1) (.imm .lit 2 []) (.bool false) (.sl 1 0 (n+1) none (n+1) 2) (.a l0) (.ptr 2 0 0 1) (.bool true) (.a rw) (.i (rw.length:Int)) (.i (IntKind.i64.wrap ((i:Int)+1)))) [.arr 3 [.agg [.i m0,.i m1,.i sz]] true 0,.arr 2 (os ++ [.agg [.i e0,.i e1]]) true 0,.arr 2 [.agg [.i e0,.i e1]] true 0] :=
  RunsTo.hin 0 60 [⟨3,0,.bool true,[.arr 3 [.agg [.i m0,.i m1,.i sz]] true 0,.arr 2 os true 0]⟩,⟨4,0,.vptr (.a l0),[.arr 3 [.agg [.i m0,.i m1,.i sz]] true 0,.arr 2 os true 0]⟩,⟨5,2,.tuple [.agg [.i e0,.i e1],.bool true],[.arr 3 [.agg [.i m0,.i m1,.i sz]] true 0,.arr 2 os true 0]⟩,⟨6,5,.bool false,[.arr 3 [.agg [.i m0,.i m1,.i sz]] true 0,.arr 2 os true 0,.arr 2 [.agg [.i e0,.i e1]] true 0]⟩,⟨8,3,.sl 1 0 (n+1) none (n+1) 2,[.arr 3 [.agg [.i m0,.i m1,.i sz]] true 0,.arr 2 (os ++ [.agg [.i e0,.i e1]]) true 0,.arr 2 [.agg [.i e0,.i e1]] true 0]⟩] fun kf hk=>⟨_,by kernel_rfl,(oB [.arr 3 [.agg [.i m0,.i m1,.i sz]] true 0,.arr 2 os true 0] (decide_eq_true g0) (oP [.arr 3 [.agg [.i m0,.i m1,.i sz]] true 0,.arr 2 os true 0] g1 (oC (g2 kf) (oB [.arr 3 [.agg [.i m0,.i m1,.i sz]] true 0,.arr 2 os true 0,.arr 2 [.agg [.i e0,.i e1]] true 0] (decide_eq_false g3) (oC (g4) .nil)))))⟩
theorem es_d_2 (m0 m1 sz:Int) (rw:List HV) (n:Nat) (os:List HV) (i:Nat) {y8 y9 y10:HV} {l0:List HV} {e0:Int} {e1:Int} (g0:(i:Int) < (rw.length:Int)) (g1:idxV Tp 35 (.a rw) (.i (i:Int))=some (.vptr (.a l0))) (g2:∀ kf,callN Tp polE (kf+1) 58 [.agg [.i m0,.i m1,.i sz],.a l0] [.arr 3 [.agg [.i m0,.i m1,.i sz]] true 0,.arr 2 os true 0]=some (.tuple [.agg [.i e0,.i e1],.bool false],[.arr 3 [.agg [.i m0,.i m1,.i sz]] true 0,.arr 2 os true 0])):RT polE 56 (sub [1,1,0,1,0,0] B56) (env56 (.agg [.i m0,.i m1,.i sz]) (.a rw) (.ptr 0 0 0 1) (.imm .lit 2 []) (.bool false) (.sl 1 0 n none n 2) y8 y9 y10 (.a rw) (.i (rw.length:Int)) (.i (i:Int))) [.arr 3 [.agg [.i m0,.i m1,.i sz]] true 0,.arr 2 os true 0] .ret (env56 (.agg [.i m0,.i m1,.i sz]) (.a rw) (.ptr 0 0 0 1) (.imm .lit 2 []) (.bool false) (.sl 1 0 n none n 2) (.a l0) (.ptr 2 0 0 1) (.bool false) (.a rw) (.i (rw.length:Int)) (.i (i:Int))) [.arr 3 [.agg [.i m0,.i m1,.i sz]] true 0,.arr 2 os true 0,.arr 2 [.agg [.i e0,.i e1]] true 0] :=
  RunsTo.hin 0 60 [⟨3,0,.bool true,[.arr 3 [.agg [.i m0,.i m1,.i sz]] true 0,.arr 2 os true 0]⟩,⟨4,0,.vptr (.a l0),[.arr 3 [.agg [.i m0,.i m1,.i sz]] true 0,.arr 2 os true 0]⟩,⟨5,2,.tuple [.agg [.i e0,.i e1],.bool false],[.arr 3 [.agg [.i m0,.i m1,.i sz]] true 0,.arr 2 os true 0]⟩] fun kf hk=>⟨_,by kernel_rfl,(oB [.arr 3 [.agg [.i m0,.i m1,.i sz]] true 0,.arr 2 os true 0] (decide_eq_true g0) (oP [.arr 3 [.agg [.i m0,.i m1,.i sz]] true 0,.arr 2 os true 0] g1 (oC (g2 kf) .nil)))⟩
theorem es_d_3 (m0 m1 sz:Int) (rw:List HV) (n:Nat) (os:List HV) (i:Nat) {y8 y9 y10:HV}(g0:¬ ((i:Int) < (rw.length:Int))):RT polE 56 (sub [1,1,0,1,0,0] B56) (env56 (.agg [.i m0,.i m1,.i sz]) (.a rw) (.ptr 0 0 0 1) (.imm .lit 2 []) (.bool false) (.sl 1 0 n none n 2) y8 y9 y10 (.a rw) (.i (rw.length:Int)) (.i (i:Int))) [.arr 3 [.agg [.i m0,.i m1,.i sz]] true 0,.arr 2 os true 0] (.exit 0) (env56 (.agg [.i m0,.i m1,.i sz]) (.a rw) (.ptr 0 0 0 1) (.imm .lit 2 []) (.bool false) (.sl 1 0 n none n 2) y8 y9 y10 (.a rw) (.i (rw.length:Int)) (.i (i:Int))) [.arr 3 [.agg [.i m0,.i m1,.i sz]] true 0,.arr 2 os true 0] :=
  RunsTo.hin 0 60 [⟨3,0,.bool false,[.arr 3 [.agg [.i m0,.i m1,.i sz]] true 0,.arr 2 os true 0]⟩] fun kf hk=>⟨_,by kernel_rfl,(oB [.arr 3 [.agg [.i m0,.i m1,.i sz]] true 0,.arr 2 os true 0] (decide_eq_false g0) .nil)⟩
theorem es_e_0 (m0 m1 sz:Int) (rw:List HV) (n:Nat) (os:List HV) (i:Nat) {y8 y9 y10:HV}:RT polE 56 (sub [1,1,1] B56) (env56 (.agg [.i m0,.i m1,.i sz]) (.a rw) (.ptr 0 0 0 1) (.imm .lit 2 []) (.bool false) (.sl 1 0 n none n 2) y8 y9 y10 (.a rw) (.i (rw.length:Int)) (.i (i:Int))) [.arr 3 [.agg [.i m0,.i m1,.i sz]] true 0,.arr 2 os true 0] .ret (env56 (.agg [.i m0,.i m1,.i sz]) (.a rw) (.ptr 0 0 0 1) (.sl 1 0 n none n 2) (.bool true) (.sl 1 0 n none n 2) y8 y9 y10 (.a rw) (.i (rw.length:Int)) (.i (i:Int))) [.arr 3 [.agg [.i m0,.i m1,.i sz]] true 0,.arr 2 os true 0] :=
  RunsTo.hin 0 60 [] fun kf hk=>⟨_,by kernel_rfl,.nil⟩
end Go.Proofs.Ytaibmipamkaljaa
end
section
open Go Go.HL
namespace Go.Proofs.Ytaibmipamkaljaa
open Go.Proofs.Try renaming prog → Tp
open Go.HL.HV renaming undef → Ud
theorem res56:Try.f56.results.toList=[.tmp 4,.tmp 5]:=by kernel_rfl
abbrev esE (g:Gr) (R:List (List Int)) (n i:Nat):Env:=(env56 (encG g) (.imm .arg 1 (R.map encR)) (.ptr 0 0 0 1) (.imm .lit 2 []) (.bool false) (.sl 1 0 n none n 2) Ud Ud Ud (.imm .arg 1 (R.map encR)) (.int .i64 ((R.map encR).length:Int)) (.int .i64 (i:Int)))
abbrev bGr (g:Gr):Blk:=.arr 3 [encG g] true 0
theorem es_gc (g:Gr) (os:List El) (x:El) (R:List (List Int)) (n i:Nat):gc [bGr g,bX os].length (bndE (esE g R n i)) [bGr g,bX os,bX [x]]=[bGr g,bX os]:=by
  unfold gc
  have hr:bndL (R.map encR)=0:=by
    induction R with
    | nil=>rfl
    | cons r R ih=>simp only [List.map_cons,bndL,encR,bnd,ints_bnd,ih]; rfl
  have:bndE (esE g R n i) ≤ 2:=by simp only [bndE,bnd,encG,bndL]; decide
  have h2:mxs [bGr g,bX os,bX [x]]=0:=rfl
  rw [h2]
  have:max [bGr g,bX os].length (max (bndE (esE g R n i)) 0)=2:=by simp only [List.length_cons,List.length_nil]; omega
  rw [this]; rfl
theorem es_loop {g:Gr} (hg:grOk g) (hr:g.2.2=1 ∨ g.2.2=2) {R:List (List Int)} (hR:R.length ≤ 60):∀ k i (os:List El),i+k=R.length → os.length=i →
    ∃ x E H',RT polE 56 (sub [1,1,0,1,0] B56) (esE g R os.length i) [bGr g,bX os] x E H' ∧
      ((∃ l,elemsT g (R.drop i)=some l∧x=.exit 0∧E=esE g R (os ++ l).length R.length∧H'=[bGr g,bX (os ++ l)]) ∨ (elemsT g (R.drop i)=none∧x=.ret∧E.get 4=.imm .lit 2 []∧E.get 5=.bool false)):=by
  intro k
  induction k with
  | zero =>
    intro i os hi ho
    have:i=R.length:=by omega
    have s:=es_d_3 g.1 g.2.1 g.2.2 (R.map encR) os.length (os.map encX) i (y8:=Ud) (y9:=Ud) (y10:=Ud) (by rw [List.length_map]; omega)
    refine ⟨_,_,_,lpo (s),.inl ⟨[],?_,rfl,?_,?_⟩⟩
    · rw [this,List.drop_length]; rfl
    · rw [List.append_nil,← this]; rfl
    · rw [List.append_nil]; rfl
  | succ k ih =>
    intro i os hi ho
    have hil:i < R.length:=by omega
    have hd:R.drop i=R.getD i [] :: R.drop (i+1):=by
      rw [List.drop_eq_getElem_cons hil]; simp [List.getD,List.getElem?_eq_getElem hil]
    have g1:=gr hil
    have hc:=element_at (pol':=polE) rfl hg hr (R.getD i []) [bGr g,bX os]
    by_cases c:(elementT g (R.getD i [])).2=true
    · rw [c] at hc
      have ap:=app_X (H:=[bGr g,bX os,bX [(elementT g (R.getD i [])).1]]) (b:=1) (o:=os) rfl (by omega) (elementT g (R.getD i [])).1
      have s:=es_d_1 g.1 g.2.1 g.2.2 (R.map encR) os.length (os.map encX) i (y8:=Ud) (y9:=Ud) (y10:=Ud) (by rw [List.length_map]; omega) g1 hc (by rw [List.length_map]; omega) (ap.trans (by simp only [bX,List.map_append]; rfl))
      rw [wrap_succ (by omega)] at s
      obtain ⟨x,E,H',h1,h2⟩:=ih (i+1) (os ++ [(elementT g (R.getD i [])).1]) (by omega) (by simp; omega)
      have e1:[bGr g,bX (os ++ [(elementT g (R.getD i [])).1])]=[Blk.arr 3 [.agg [.int .i64 g.1,.int .i64 g.2.1,.int .i64 g.2.2]] true 0,.arr 2 (os.map encX ++ [.agg [.int .i64 (elementT g (R.getD i [])).1.1,.int .i64 (elementT g (R.getD i [])).1.2]]) true 0]:=by
        simp only [bX,List.map_append]; rfl
      rw [List.length_append,List.length_singleton] at h1
      have hgc:=es_gc g (os ++ [(elementT g (R.getD i [])).1]) (elementT g (R.getD i [])).1 R (os.length+1) (i+1)
      have e2:gc [bGr g,bX os].length (bndE (esE g R (os.length+1) (i+1))) [Blk.arr 3 [.agg [.int .i64 g.1,.int .i64 g.2.1,.int .i64 g.2.2]] true 0,.arr 2 (os.map encX ++ [.agg [.int .i64 (elementT g (R.getD i [])).1.1,.int .i64 (elementT g (R.getD i [])).1.2]]) true 0,.arr 2 [.agg [.int .i64 (elementT g (R.getD i [])).1.1,.int .i64 (elementT g (R.getD i [])).1.2]] true 0]=[bGr g,bX (os ++ [(elementT g (R.getD i [])).1])]:=by
        rw [← hgc]; simp only [bX,List.map_append]; rfl
      refine ⟨x,E,H',lop s e2 h1,?_⟩
      have hee:elemsT g (R.drop i)=(elemsT g (R.drop (i+1))).map fun l=>(elementT g (R.getD i [])).1 :: l:=by
        rw [hd]
        have h1:(R.drop (i+1)).length ≤ 60:=by rw [List.length_drop]; omega
        have h2:(R.getD i [] :: R.drop (i+1)).length ≤ 60:=by rw [← hd,List.length_drop]; omega
        simp only [elemsT,h1,h2,true_and,List.all_cons,c,Bool.true_and,List.map_cons]
        split <;> rfl
      rcases h2 with ⟨l,k1,k2,k3,k4⟩ | ⟨k1,k2⟩
      · refine .inl ⟨(elementT g (R.getD i [])).1 :: l,by rw [hee,k1]; rfl,k2,?_,?_⟩
        · rw [k3,List.append_assoc]; rfl
        · rw [k4,List.append_assoc]; rfl
      · exact .inr ⟨by rw [hee,k1]; rfl,k2⟩
    · rw [nb_false c] at hc
      have s:=es_d_2 g.1 g.2.1 g.2.2 (R.map encR) os.length (os.map encX) i (y8:=Ud) (y9:=Ud) (y10:=Ud) (by rw [List.length_map]; omega) g1 hc
      refine ⟨_,_,_,lpo (s),.inr ⟨?_,rfl,rfl,rfl⟩⟩
      rw [hd]
      simp only [elemsT,List.all_cons,nb_false c,Bool.false_and,Bool.false_eq_true,and_false,if_false]
theorem elements_ok:PrimOk Tp 56 elements56:=by
  refine primOk_pure (pol:=polE) (fn:=Try.f56) (cd:=B56) follows_mixed soundE (by kernel_rfl) (by kernel_rfl) (fnok polE.prim _ _ (by kernel_rfl)) (by kernel_rfl) ?_
  intro args res h
  obtain ⟨g,R,rfl,⟨hg,hr,hR⟩,rfl⟩:=elements_inv h
  have a:=es_a_0 g.1 g.2.1 g.2.2 (R.map encR)
  have b:=es_b_0 g.1 g.2.1 g.2.2 (R.map encR) (y6:=Ud) (y8:=Ud) (y9:=Ud) (y10:=Ud) (y11:=Ud) (y12:=Ud) (y13:=Ud)
  have c:=es_c_0 g.1 g.2.1 g.2.2 (R.map encR) 0 [] (y8:=Ud) (y9:=Ud) (y10:=Ud) (y11:=Ud) (y12:=Ud) (y13:=Ud)
  by_cases h60:R.length ≤ 60
  · obtain ⟨x,E,H',l1,l2⟩:=es_loop hg hr h60 R.length 0 [] (by omega) rfl
    rw [List.drop_zero] at l2
    rcases l2 with ⟨l,k1,rfl,rfl,rfl⟩ | ⟨k1,rfl,k2,k3⟩
    · have z:=es_e_0 g.1 g.2.1 g.2.2 (R.map encR) ([] ++ l).length (([] ++ l).map encX) R.length (y8:=Ud) (y9:=Ud) (y10:=Ud)
      have t:=sq (a) (sq (b) (sq (sq (c) (bke (c:=sub [1,1,0,1] B56) (l1)) (c:=sub [1,1,0] B56)) (z) (c:=sub [1,1] B56)) (c:=sub [1] B56)) (c:=B56)
      refine ⟨_,_,_,.tuple [.sl 1 0 ([] ++ l).length none ([] ++ l).length 2,.bool true],t,by simp,by simp only [resultsV,res56]; rfl,?_⟩
      rw [k1]
      exact toRes_X (o:=l) rfl rfl true
    · have t:=sq (a) (sq (b) (sqo (sq (c) (RunsTo.block_ret (i:=0) (c:=sub [1,1,0,1] B56) (l1) (by kernel_rfl)) (c:=sub [1,1,0] B56)) (c:=sub [1,1] B56) (b:=sub [1,1,1] B56)) (c:=sub [1] B56)) (c:=B56)
      refine ⟨_,_,_,.tuple [.imm .lit 2 [],.bool false],t,by simp,by simp only [resultsV,res56,mapO,resultV,k2,k3],?_⟩
      rw [k1]; rfl
  · have hn:elemsT g R=none:=by simp only [elemsT,h60,false_and,if_false]
    have hil:0 < R.length:=by omega
    have g1:=gr hil
    have hc:=element_at (pol':=polE) rfl hg hr (R.getD 0 []) [bGr g,bX []]
    by_cases cc:(elementT g (R.getD 0 [])).2=true
    · rw [cc] at hc
      have s:=es_d_0 g.1 g.2.1 g.2.2 (R.map encR) 0 [] 0 (y8:=Ud) (y9:=Ud) (y10:=Ud) (by rw [List.length_map]; omega) g1 hc (by rw [List.length_map]; omega)
      have l1:=lpo (s) (c:=sub [1,1,0,1,0] B56)
      have t:=sq (a) (sq (b) (sqo (sq (c) (RunsTo.block_ret (i:=0) (c:=sub [1,1,0,1] B56) (l1) (by kernel_rfl)) (c:=sub [1,1,0] B56)) (c:=sub [1,1] B56) (b:=sub [1,1,1] B56)) (c:=sub [1] B56)) (c:=B56)
      refine ⟨_,_,_,.tuple [.imm .lit 2 [],.bool false],t,by simp,by simp only [resultsV,res56]; rfl,?_⟩
      rw [hn]; rfl
    · rw [nb_false cc] at hc
      have s:=es_d_2 g.1 g.2.1 g.2.2 (R.map encR) 0 [] 0 (y8:=Ud) (y9:=Ud) (y10:=Ud) (by rw [List.length_map]; omega) g1 hc
      have l1:=lpo (s) (c:=sub [1,1,0,1,0] B56)
      have t:=sq (a) (sq (b) (sqo (sq (c) (RunsTo.block_ret (i:=0) (c:=sub [1,1,0,1] B56) (l1) (by kernel_rfl)) (c:=sub [1,1,0] B56)) (c:=sub [1,1] B56) (b:=sub [1,1,1] B56)) (c:=sub [1] B56)) (c:=B56)
      refine ⟨_,_,_,.tuple [.imm .lit 2 [],.bool false],t,by simp,by simp only [resultsV,res56]; rfl,?_⟩
      rw [hn]; rfl
end Go.Proofs.Ytaibmipamkaljaa
end
section
open Go Go.HL
namespace Go.Proofs.Ytaibmipamkaljaa
open Go.Proofs.Try renaming prog → Tp
open Go.HL.HV renaming undef → Ud
def ins {α:Type} [DecidableEq α] (x:α) (s:List α):List α:=if x ∈ s then s else s ++ [x]
theorem mem_ins {α:Type} [DecidableEq α] {x y:α} {s:List α}:y ∈ ins x s ↔ y=x ∨ y ∈ s:=by
  unfold ins
  split
  · rename_i h
    constructor
    · exact .inr
    · rintro (rfl | h')
      · exact h
      · exact h'
  · simp [or_comm]
theorem nodup_ins {α:Type} [DecidableEq α] {x:α} {s:List α} (h:s.Nodup):(ins x s).Nodup:=by
  unfold ins
  split
  · exact h
  · rename_i hx
    rw [List.nodup_append]
    exact ⟨h,by simp,fun a ha b hb e=>by rw [List.mem_singleton] at hb; subst hb; subst e; exact hx ha⟩
theorem z4t:tyZero Tp 4=some (.bool false):=by kernel_rfl
structure KeyT (α:Type) [DecidableEq α] (enc:α → HV) (T kt:TypeId):Prop where
  und:Tp.underlying T=some (.map kt 4)
  key:∀ a,keyTy Tp kt (enc a)=true
  eq:∀ a b,keyEq (enc a) (enc b)=some (decide (a=b))
  self:∀ a,(aggEq (cellsOf (enc a)) (cellsOf (enc a))).isSome=true
  inj:∀ a b,enc a=enc b → a=b
section
variable {α:Type} [DecidableEq α] {enc:α → HV} {T kt:TypeId}
abbrev mapK (enc:α → HV) (ks:List α):Blk:=.map (ks.map enc) (ks.map fun _=>.bool true) 0
theorem findK_k (hK:KeyT α enc T kt) (x:α):∀ (ks:List α) (i:Nat),∃ r,findK (enc x) (ks.map enc) i=some r∧((x ∈ ks∧∃ j,r=some (i+j)∧j < ks.length) ∨ (x ∉ ks∧r=none))
  | [],i=>⟨none,rfl,.inr ⟨by simp,rfl⟩⟩
  | k :: ks,i=>by
    by_cases e:x=k
    · subst e
      refine ⟨some i,?_,.inl ⟨by simp,0,rfl,by simp⟩⟩
      simp only [List.map_cons,findK,hK.eq,decide_true]
    · obtain ⟨r,h1,h2⟩:=findK_k hK x ks (i+1)
      refine ⟨r,?_,?_⟩
      · simp only [List.map_cons,findK,hK.eq,decide_eq_false e]
        exact h1
      · rcases h2 with ⟨h3,j,h4,h5⟩ | ⟨h3,h4⟩
        · exact .inl ⟨by simp [h3],j+1,by rw [h4]; congr 1; omega,by simp; omega⟩
        · exact .inr ⟨by simp [h3,e],h4⟩
theorem look_k (hK:KeyT α enc T kt) (ks:List α) (x:α):lookV Tp T (ks.map enc) (ks.map fun _=>.bool true) (enc x) false=some (.bool (decide (x ∈ ks))):=by
  obtain ⟨r,h1,h2⟩:=findK_k hK x ks 0
  have hk:=hK.key x
  have hz:=z4t
  simp only [lookV,hK.und,hk,if_true,h1]
  rcases h2 with ⟨h3,j,rfl,h5⟩ | ⟨h3,rfl⟩
  · rw [decide_eq_true h3]
    have:(ks.map fun _=>HV.bool true)[0+j]?=some (.bool true):=by rw [Nat.zero_add,List.getElem?_map,List.getElem?_eq_getElem h5]; rfl
    simp only [this]
    rfl
  · rw [decide_eq_false h3]
    simp only [hz]
    rfl
theorem map_upd (hK:KeyT α enc T kt) {H:Heap} {b:Nat} {ks:List α} (h:H[b]?=some (mapK enc ks)) (x:α):updV Tp false T (.map b) (enc x) (.bool true) H=some (H.set b (mapK enc (ins x ks))):=by
  obtain ⟨r,h1,h2⟩:=findK_k hK x ks 0
  have hk:=hK.key x
  simp only [updV,hK.und,hk,if_true,h,h1,Bool.false_eq_true,if_false]
  rcases h2 with ⟨h3,j,rfl,h5⟩ | ⟨h3,rfl⟩
  · have hs:(ks.map fun _=>HV.bool true).set (0+j) (.bool true)=ks.map fun _=>.bool true:=by
      apply List.ext_getElem?
      intro i
      rw [List.getElem?_set,List.length_map]
      by_cases e:0+j=i
      · subst e
        rw [if_pos rfl,if_pos (by omega),List.getElem?_map,List.getElem?_eq_getElem (by omega)]; rfl
      · rw [if_neg e]
    simp only [hs,ins,if_pos h3,bnd,Nat.max_zero]
  · simp only [hK.self x,if_true,ins,if_neg h3,bnd,Nat.max_zero,mapK,List.map_append,List.map_cons,List.map_nil]
end
abbrev Wt:=Int × El
def encW (w:Wt):HV:=.agg [.int .i64 w.1,.int .i64 w.2.1,.int .i64 w.2.2]
def decW:HV → Option Wt | .agg [.int .i64 a,.int .i64 b,.int .i64 c]=>some (a,b,c) | _=>none
theorem decW_enc (w:Wt):decW (encW w)=some w:=rfl
theorem decW_inv (b:HV) (a:Wt) (h:decW b=some a):b=encW a:=by
  unfold decW at h
  split at h
  · cases h; rfl
  · cases h
theorem keyX:KeyT El encX 87 64:=by
  refine ⟨by kernel_rfl,fun a=>by kernel_rfl,fun a b=>?_,fun a=>?_,fun a b h=>?_⟩
  · obtain ⟨a,b⟩:=a
    rename_i y
    obtain ⟨c,d⟩:=y
    simp only [encX,keyEq,aggEq,scEq,if_true,Bool.and_true,Prod.mk.injEq]
    by_cases h1:a=c <;> by_cases h2:b=d <;> simp [h1,h2]
  · simp [encX,cellsOf,aggEq,scEq]
  · simp [encX] at h
    exact Prod.ext h.1 h.2
theorem keyW:KeyT Wt encW 91 72:=by
  refine ⟨by kernel_rfl,fun a=>by kernel_rfl,fun a b=>?_,fun a=>?_,fun a b h=>?_⟩
  · obtain ⟨a,b,c⟩:=a
    rename_i y
    obtain ⟨d,e,f⟩:=y
    simp only [encW,keyEq,aggEq,scEq,if_true,Bool.and_true,Prod.mk.injEq]
    by_cases h1:a=d <;> by_cases h2:b=e <;> by_cases h3:c=f <;> simp [h1,h2,h3]
  · simp [encW,cellsOf,aggEq,scEq]
  · simp [encW] at h
    exact Prod.ext h.1 (Prod.ext h.2.1 h.2.2)
def rchW (g:Gr) (x:El) (w:Wt):Wt:=(w.1+1,addT g w.2 x)
def rchStep (g:Gr) (x:El) (K:List Wt):List Wt:=K.foldl (fun A w=>ins (rchW g x w) (ins w A)) []
def rchT (g:Gr):List El → List (List Wt)
  | []=>[[(0,0,0)]]
  | x :: l=>rchStep g x ((rchT g l).headD []) :: rchT g l
def encM (K:List Wt):HV:=.imap .own (K.map encW) (K.map fun _=>.bool true)
end Go.Proofs.Ytaibmipamkaljaa
end
section
open Go Go.HL
namespace Go.Proofs.Ytaibmipamkaljaa
open Go.Proofs.Try renaming prog → Tp
open Go.HL.HV renaming undef → Ud
def recL (x x':Option (HV × Heap)) (H H':Heap):Bool :=
  match x,x' with
  | some (v,H1),some (v',H1')=>same v v' && sameH H1 H && sameH H1' H'
  | _,_=>false
theorem sameH_iff:∀ {H:Heap},sameH H H=true ↔ ∀ B ∈ H,sameH [B] [B]=true
  | []=>by simp [sameH]
  | B :: H=>by
    have ih:=sameH_iff (H:=H)
    cases B with
    | arr k els w m=>simp only [sameH,List.forall_mem_cons,← ih,Bool.and_eq_true,and_true,Bool.and_true]
    | iter a b c d=>simp only [sameH,List.forall_mem_cons,← ih,Bool.and_eq_true,and_true,Bool.and_true]
    | map ks vs m=>simp only [sameH,List.forall_mem_cons,← ih,Bool.and_eq_true,and_true,Bool.and_true]
    | dead=>simp only [sameH,List.forall_mem_cons,← ih,true_and]
theorem sameL_all:∀ {l:List HV},(∀ v ∈ l,same v v=true) → sameL l l=true
  | [],_=>rfl
  | v :: l,h=>by simp only [sameL,h v (by simp),sameL_all (l:=l) (fun w hw=>h w (by simp [hw])),Bool.and_self]
theorem same_arr {k m:Nat} {l:List HV} {w:Bool} (h:∀ v ∈ l,same v v=true):sameH [.arr k l w m] [.arr k l w m]=true:=by
  simp [sameH,sameL_all h]
noncomputable def polR:Pol:={ pol with prim:=fun g=>if g == 59 then some add59 else none }
theorem primR (g:FuncId) (f:List HV → Option HV) (h:polR.prim g=some f):PrimOk Tp g f:=by
  unfold polR at h
  simp only at h
  split at h
  · rename_i hg; cases h; rw [eq_of_beq hg]; exact add_ok
  · cases h
theorem soundR (n:Nat):CallSound Tp (callN Tp polR n):=sound_prim _ primR n
end Go.Proofs.Ytaibmipamkaljaa
end
section
open Go Go.HL
namespace Go.Proofs.Ytaibmipamkaljaa
set_option maxRecDepth 100000
open Go.Proofs.Try renaming prog → Tp
open Go.HL.HV renaming undef → Ud
noncomputable def B49:Code:=Try.f49.body.getD .skip
abbrev env49 (v0 v1 v2 v4 v5 v6 v7 v35:HV):Env:=[(0,v0),(1,v1),(2,v2),(4,v4),(5,v5),(6,v6),(7,v7),(35,v35)]
theorem rc_a_0 (m0 m1 sz:Int) (l:List HV) :RT polR 49 (sub [0] B49) [(0,.agg [.i m0,.i m1,.i sz]),(1,.imm .arg 2 l)] [] .normal (env49 (.agg [.i m0,.i m1,.i sz]) (.imm .arg 2 l) (.ptr 0 0 0 1) (.imm .lit 1 []) Ud Ud Ud Ud) [.arr 3 [.agg [.i m0,.i m1,.i sz]] true 0] :=
  RunsTo.hin 0 60 [] fun kf hk=>⟨_,by kernel_rfl,.nil⟩
theorem rc_b_0 (m0 m1 sz:Int) (l:List HV) (n:Nat) {y5 y6 y7 y35:HV}(g0:makeV Tp false 69 (.i (IntKind.i64.wrap ((l.length:Int)+1))) (.i (IntKind.i64.wrap ((l.length:Int)+1))) [.arr 3 [.agg [.i m0,.i m1,.i sz]] true 0]=some (.o 1 n,[.arr 3 [.agg [.i m0,.i m1,.i sz]] true 0,.arr 1 (List.replicate n (.nilmap)) true 0])):RT polR 49 (sub [1,0] B49) (env49 (.agg [.i m0,.i m1,.i sz]) (.imm .arg 2 l) (.ptr 0 0 0 1) (.imm .lit 1 []) y5 y6 y7 y35) [.arr 3 [.agg [.i m0,.i m1,.i sz]] true 0] .normal (env49 (.agg [.i m0,.i m1,.i sz]) (.imm .arg 2 l) (.ptr 0 0 0 1) (.imm .lit 1 []) (.o 1 n) y6 y7 y35) [.arr 3 [.agg [.i m0,.i m1,.i sz]] true 0,.arr 1 (List.replicate n (.nilmap)) true 0] :=
  RunsTo.hin 0 60 [⟨1,3,.o 1 n,[.arr 3 [.agg [.i m0,.i m1,.i sz]] true 0,.arr 1 (List.replicate n (.nilmap)) true 0]⟩] fun kf hk=>⟨_,by kernel_rfl,(oC (g0) .nil)⟩
theorem rc_c_0 (m0 m1 sz:Int) (l:List HV) (n:Nat) (H:Heap) {y6 y7 y35:HV} {H0:Heap} {H1:Heap} {H2:Heap} (g0:some (HV.map H.length,H ++ [Blk.map [] [] 0])=some (.map 2,H0)) (g1:updV Tp false 91 (.map 2) (.agg [.i 0,.i 0,.i 0]) (.bool true) H0=some H1) (g2:idxV Tp 69 (.o 1 n) (.i (l.length:Int))=some (.ptr 1 l.length 0 n)) (g3:storeV Tp H1 91 (.ptr 1 l.length 0 n) (.map 2)=some H2):RT polR 49 (sub [1,1,0] B49) (env49 (.agg [.i m0,.i m1,.i sz]) (.imm .arg 2 l) (.ptr 0 0 0 1) (.imm .lit 1 []) (.o 1 n) y6 y7 y35) H .normal (env49 (.agg [.i m0,.i m1,.i sz]) (.imm .arg 2 l) (.ptr 0 0 0 1) (.imm .lit 1 []) (.o 1 n) y6 y7 y35) H2 :=
  RunsTo.hin 0 60 [⟨2,3,.map 2,H0⟩,⟨2,5,.tuple [],H1⟩,⟨2,7,.ptr 1 l.length 0 n,H1⟩,⟨2,8,.tuple [],H2⟩] fun kf hk=>⟨_,by kernel_rfl,(oC (g0) (oS g1 (oP H1 g2 (oS g3 .nil))))⟩
theorem rc_d_0 (m0 m1 sz:Int) (l:List HV) (n:Nat) (H:Heap) {y6 y7 y35:HV}:RT polR 49 (sub [1,1,1,0,0] B49) (env49 (.agg [.i m0,.i m1,.i sz]) (.imm .arg 2 l) (.ptr 0 0 0 1) (.imm .lit 1 []) (.o 1 n) y6 y7 y35) H .normal (env49 (.agg [.i m0,.i m1,.i sz]) (.imm .arg 2 l) (.ptr 0 0 0 1) (.imm .lit 1 []) (.o 1 n) (.i (IntKind.i64.wrap ((l.length:Int) - 1))) y7 y35) H :=
  RunsTo.hin 0 60 [] fun kf hk=>⟨_,by kernel_rfl,.nil⟩
theorem rc_e_0 (m0 m1 sz:Int) (l:List HV) (n:Nat) (H:Heap) (i:Int) {y7 y35:HV}(g0:0 ≤ i):RT polR 49 (sub [1,1,1,0,1,0,0,0] B49) (env49 (.agg [.i m0,.i m1,.i sz]) (.imm .arg 2 l) (.ptr 0 0 0 1) (.imm .lit 1 []) (.o 1 n) (.i i) y7 y35) H .normal (env49 (.agg [.i m0,.i m1,.i sz]) (.imm .arg 2 l) (.ptr 0 0 0 1) (.imm .lit 1 []) (.o 1 n) (.i i) y7 y35) H :=
  RunsTo.hin 0 60 [⟨4,1,.bool true,H⟩] fun kf hk=>⟨_,by kernel_rfl,(oB H (decide_eq_true g0) .nil)⟩
theorem rc_e_1 (m0 m1 sz:Int) (l:List HV) (n:Nat) (H:Heap) (i:Int) {y7 y35:HV}(g0:¬ (0 ≤ i)):RT polR 49 (sub [1,1,1,0,1,0,0,0] B49) (env49 (.agg [.i m0,.i m1,.i sz]) (.imm .arg 2 l) (.ptr 0 0 0 1) (.imm .lit 1 []) (.o 1 n) (.i i) y7 y35) H (.exit 0) (env49 (.agg [.i m0,.i m1,.i sz]) (.imm .arg 2 l) (.ptr 0 0 0 1) (.imm .lit 1 []) (.o 1 n) (.i i) y7 y35) H :=
  RunsTo.hin 0 60 [⟨4,1,.bool false,H⟩] fun kf hk=>⟨_,by kernel_rfl,(oB H (decide_eq_false g0) .nil)⟩
theorem rc_f_0 (m0 m1 sz:Int) (l:List HV) (n:Nat) (H:Heap) (i:Nat) {y7 y35:HV} {H0:Heap} {H1:Heap} (g0:some (HV.map H.length,H ++ [Blk.map [] [] 0])=some (.map 2,H0)) (g1:idxV Tp 69 (.o 1 n) (.i (i:Int))=some (.ptr 1 i 0 n)) (g2:storeV Tp H0 91 (.ptr 1 i 0 n) (.map 2)=some H1):RT polR 49 (sub [1,1,1,0,1,0,0,1,0,0,0] B49) (env49 (.agg [.i m0,.i m1,.i sz]) (.imm .arg 2 l) (.ptr 0 0 0 1) (.imm .lit 1 []) (.o 1 n) (.i (i:Int)) y7 y35) H .normal (env49 (.agg [.i m0,.i m1,.i sz]) (.imm .arg 2 l) (.ptr 0 0 0 1) (.imm .lit 1 []) (.o 1 n) (.i (i:Int)) y7 y35) H1 :=
  RunsTo.hin 0 60 [⟨6,2,.map 2,H0⟩,⟨6,3,.ptr 1 i 0 n,H0⟩,⟨6,4,.tuple [],H1⟩] fun kf hk=>⟨_,by kernel_rfl,(oC (g0) (oP H0 g1 (oS g2 .nil)))⟩
theorem rc_g_0 (m0 m1 sz:Int) (l:List HV) (n:Nat) (H:Heap) (i:Nat) (w0 w1 w2:Int) (kb mb:Nat) {y35:HV} {H0:Heap} (g0:idxV Tp 69 (.o 1 n) (.i (i:Int))=some (.ptr 1 i 0 n)) (g1:loadV Tp H 91 (.ptr 1 i 0 n)=some (.map mb)) (g2:loadV Tp H 72 (.ptr kb 0 0 1)=some (.agg [.i w0,.i w1,.i w2])) (g3:updV Tp false 91 (.map mb) (.agg [.i w0,.i w1,.i w2]) (.bool true) H=some H0):RT polR 49 (sub [1,1,1,0,1,0,0,1,0,0,1,1,0,0,1,1,0,1,0] B49) (env49 (.agg [.i m0,.i m1,.i sz]) (.imm .arg 2 l) (.ptr 0 0 0 1) (.imm .lit 1 []) (.o 1 n) (.i (i:Int)) (.ptr kb 0 0 1) y35) H .normal (env49 (.agg [.i m0,.i m1,.i sz]) (.imm .arg 2 l) (.ptr 0 0 0 1) (.imm .lit 1 []) (.o 1 n) (.i (i:Int)) (.ptr kb 0 0 1) y35) H0 :=
  RunsTo.hin 0 60 [⟨10,2,.ptr 1 i 0 n,H⟩,⟨10,3,.map mb,H⟩,⟨10,4,.agg [.i w0,.i w1,.i w2],H⟩,⟨10,5,.tuple [],H0⟩] fun kf hk=>⟨_,by kernel_rfl,(oP H g0 (oP H g1 (oP H g2 (oS g3 .nil))))⟩
theorem rc_h_0 (m0 m1 sz:Int) (l:List HV) (n:Nat) (H:Heap) (i:Nat) (w0 w1 w2 x0 x1:Int) (kb mb:Nat) {y35:HV} {x2:Int} {x3:Int} {z0:Int} {z1:Int} {H0:Heap} (g0:idxV Tp 69 (.o 1 n) (.i (i:Int))=some (.ptr 1 i 0 n)) (g1:loadV Tp H 91 (.ptr 1 i 0 n)=some (.map mb)) (g2:loadV Tp H 3 (.ptr kb 0 0 1)=some (.i w0)) (g3:loadV Tp H 66 (.ptr 0 0 0 1)=some (.agg [.i m0,.i m1,.i sz])) (g4:loadV Tp H 64 (.ptr kb 0 1 1)=some (.agg [.i w1,.i w2])) (g5:idxV Tp 67 (.imm .arg 2 l) (.i (i:Int))=some (.vptr (.agg [.i x2,.i x3]))) (g6:∀ kf,callN Tp polR (kf+1) 59 [.agg [.i m0,.i m1,.i sz],.agg [.i w1,.i w2],.agg [.i x2,.i x3]] H=some (.agg [.i z0,.i z1],H)) (g7:updV Tp false 91 (.map mb) (.agg [.i (IntKind.i64.wrap (w0+1)),.i z0,.i z1]) (.bool true) H=some H0) (gS11:(recL ((loadV Tp H 91 (.ptr 1 i 0 n)).map (fun v=>(v,(H:Heap)))) ((loadV Tp H 91 (.ptr 1 i 0 n)).map (fun v=>(v,(H:Heap)))) H H && (recL ((loadV Tp H 3 (.ptr kb 0 0 1)).map (fun v=>(v,(H:Heap)))) ((loadV Tp H 3 (.ptr kb 0 0 1)).map (fun v=>(v,(H:Heap)))) H H && true))=true):RT polR 49 (sub [1,1,1,0,1,0,0,1,0,0,1,1,0,0,1,1,0,1,1] B49) (env49 (.agg [.i m0,.i m1,.i sz]) (.imm .arg 2 l) (.ptr 0 0 0 1) (.imm .lit 1 []) (.o 1 n) (.i (i:Int)) (.ptr kb 0 0 1) y35) H .normal (env49 (.agg [.i m0,.i m1,.i sz]) (.imm .arg 2 l) (.ptr 0 0 0 1) (.imm .lit 1 []) (.o 1 n) (.i (i:Int)) (.ptr kb 0 0 1) y35) H0 :=
  RunsTo.hin 0 60 [⟨11,2,.ptr 1 i 0 n,H⟩,⟨11,3,.map mb,H⟩,⟨11,5,.i w0,H⟩,⟨11,7,.agg [.i m0,.i m1,.i sz],H⟩,⟨11,9,.agg [.i w1,.i w2],H⟩,⟨11,12,.vptr (.agg [.i x2,.i x3]),H⟩,⟨11,14,.agg [.i z0,.i z1],H⟩,⟨11,16,.tuple [],H0⟩] fun kf hk=>⟨_,by kernel_rfl,(oC (gS11) (oP H g0 (oP H g1 (oP H g2 (oP H g3 (oP H g4 (oP H g5 (oC (g6 kf) (oS g7 .nil)))))))))⟩
theorem rc_i_0 (m0 m1 sz:Int) (l:List HV) (n:Nat) (H:Heap) (i:Nat) {y7 y35:HV}:RT polR 49 (sub [1,1,1,0,1,0,0,1,1] B49) (env49 (.agg [.i m0,.i m1,.i sz]) (.imm .arg 2 l) (.ptr 0 0 0 1) (.imm .lit 1 []) (.o 1 n) (.i (i:Int)) y7 y35) H .normal (env49 (.agg [.i m0,.i m1,.i sz]) (.imm .arg 2 l) (.ptr 0 0 0 1) (.imm .lit 1 []) (.o 1 n) (.i (IntKind.i64.wrap ((i:Int) - 1))) y7 y35) H :=
  RunsTo.hin 0 60 [] fun kf hk=>⟨_,by kernel_rfl,.nil⟩
theorem rc_j_0 (m0 m1 sz:Int) (l:List HV) (n:Nat) (H:Heap) {y6 y7 y35:HV}:RT polR 49 (sub [1,1,1,1] B49) (env49 (.agg [.i m0,.i m1,.i sz]) (.imm .arg 2 l) (.ptr 0 0 0 1) (.imm .lit 1 []) (.o 1 n) y6 y7 y35) H .ret (env49 (.agg [.i m0,.i m1,.i sz]) (.imm .arg 2 l) (.ptr 0 0 0 1) (.o 1 n) (.o 1 n) y6 y7 y35) H :=
  RunsTo.hin 0 60 [] fun kf hk=>⟨_,by kernel_rfl,.nil⟩
end Go.Proofs.Ytaibmipamkaljaa
end
section
open Go Go.HL
namespace Go.Proofs.Ytaibmipamkaljaa
open Go.Proofs.Try renaming prog → Tp
open Go.HL.HV renaming undef → Ud
theorem u69:Tp.underlying 69=some (.slice 91):=by kernel_rfl
theorem u67:Tp.underlying 67=some (.slice 64):=by kernel_rfl
theorem z91:tySize Tp 91=some 1:=by kernel_rfl
theorem z64:tySize Tp 64=some 2:=by kernel_rfl
theorem z72:tySize Tp 72=some 3:=by kernel_rfl
theorem z66:tySize Tp 66=some 3:=by kernel_rfl
theorem a91:tyAgg Tp 91=false:=by kernel_rfl
theorem i91:(Tp.underlying 91).isSome=true:=by kernel_rfl
theorem a72:tyAgg Tp 72=true:=by kernel_rfl
theorem a66:tyAgg Tp 66=true:=by kernel_rfl
theorem a64:tyAgg Tp 64=true:=by kernel_rfl
theorem info91:(Tp.info? 91).map (fun i=>(i.size,i.bytes,i.zero.map ofConst))=some (1,8,some .nilmap):=by kernel_rfl
theorem st_any {H:Heap} {t b i tot k mx:Nat} {els:List HV} {v old:HV} (hb:H[b]?=some (.arr k els true mx)) (ht:tot=els.length) (hi:els[i]?=some old) (ho:cellsOf old=[old]) (hna:∀ cs,old ≠ .agg cs) (hs:tySize Tp t=some 1) (hc:cellsOf v=[v]) (hcv:cellV v=true) :
    storeV Tp H t (.ptr b i 0 tot) v=some (H.set b (.arr k (els.set i v) true (max mx (bnd v)))):=by
  have hsp:splice [old] 0 [v]=[v]:=rfl
  simp only [storeV,hb,hi,ho,hc,hs,List.length_cons,List.length_nil,List.all_cons,List.all_nil,hcv,Bool.and_self,hsp]
  rw [if_pos ⟨ht,trivial⟩,if_pos ⟨by omega,trivial,by omega⟩]
theorem fold_mem {g:Gr} {x:El}:∀ (L A:List Wt) (w:Wt),w ∈ L.foldl (fun A w=>ins (rchW g x w) (ins w A)) A ↔ w ∈ A ∨ ∃ u ∈ L,w=u ∨ w=rchW g x u
  | [],A,w=>by simp
  | u :: L,A,w=>by
    rw [List.foldl_cons,fold_mem L _ w,mem_ins,mem_ins]
    constructor
    · rintro ((h | h | h) | ⟨v,h1,h2⟩)
      · exact .inr ⟨u,by simp,.inr h⟩
      · exact .inr ⟨u,by simp,.inl h⟩
      · exact .inl h
      · exact .inr ⟨v,by simp [h1],h2⟩
    · rintro (h | ⟨v,h1,h2⟩)
      · exact .inl (.inr (.inr h))
      · rcases List.mem_cons.1 h1 with rfl | h1
        · rcases h2 with h2 | h2
          · exact .inl (.inr (.inl h2))
          · exact .inl (.inl h2)
        · exact .inr ⟨v,h1,h2⟩
theorem fold_nodup {g:Gr} {x:El}:∀ (L A:List Wt),A.Nodup → (L.foldl (fun A w=>ins (rchW g x w) (ins w A)) A).Nodup
  | [],A,h=>h
  | u :: L,A,h=>by
    rw [List.foldl_cons]
    exact fold_nodup L _ (nodup_ins (nodup_ins h))
theorem mem_step {g:Gr} {x:El} {K:List Wt} {w:Wt}:w ∈ rchStep g x K ↔ ∃ u ∈ K,w=u ∨ w=rchW g x u:=by
  unfold rchStep
  rw [fold_mem]
  simp
theorem nodup_step {g:Gr} {x:El} {K:List Wt}:(rchStep g x K).Nodup:=fold_nodup K [] (by simp)
theorem step_perm {g:Gr} {x:El} {K L:List Wt} (h:∀ w,w ∈ L ↔ w ∈ K):(rchStep g x L).Perm (rchStep g x K):=by
  rw [List.perm_ext_iff_of_nodup nodup_step nodup_step]
  intro a
  rw [mem_step,mem_step]
  constructor
  · rintro ⟨u,h1,h2⟩; exact ⟨u,(h u).1 h1,h2⟩
  · rintro ⟨u,h1,h2⟩; exact ⟨u,(h u).2 h1,h2⟩
theorem rch_len (g:Gr):∀ l,(rchT g l).length=l.length+1
  | []=>rfl
  | x :: l=>by simp [rchT,rch_len g l]
def wtOk (g:Gr) (n:Nat) (w:Wt):Prop:=elOk g w.2∧0 ≤ w.1∧w.1 ≤ n
theorem head_ok {g:Gr} (hg:grOk g):∀ (l:List El),∀ w ∈ (rchT g l).headD [],wtOk g l.length w
  | [],w,h=>by
    simp [rchT] at h
    subst h
    obtain ⟨⟨a,b⟩,c,d⟩:=hg
    exact ⟨⟨⟨Int.le_refl _,by show (0:Int) < g.1; omega⟩,Int.le_refl _,by show (0:Int) < g.2.1; omega⟩,Int.le_refl _,Int.le_refl _⟩
  | x :: l,w,h=>by
    have h':w ∈ rchStep g x ((rchT g l).headD []):=h
    rw [mem_step] at h'
    obtain ⟨u,h1,h2⟩:=h'
    obtain ⟨k1,k2,k3⟩:=head_ok hg l u h1
    rcases h2 with rfl | rfl
    · exact ⟨k1,k2,by simp; omega⟩
    · exact ⟨addT_ok hg,by show 0 ≤ u.1+1; omega,by show u.1+1 ≤ _; simp; omega⟩
theorem head_cons (g:Gr) (l:List El):rchT g l=(rchT g l).headD [] :: (rchT g l).tail:=by cases l <;> rfl
abbrev bG (g:Gr):Blk:=.arr 3 [encG g] true 0
def elsR (g:Gr) (l:List El) (k:Nat):List HV:=List.replicate k .nilmap ++ (rchT g (l.drop k)).map encM
abbrev rwB (els:List HV) (mx:Nat):Blk:=.arr 1 els true mx
section
variable {g:Gr} {l:List El} {n:Nat}
abbrev rcE (g:Gr) (l:List El) (n:Nat) (v6 v7 v35:HV):Env:=(env49 (encG g) (.imm .arg 2 (l.map encX)) (.ptr 0 0 0 1) (.imm .lit 1 []) (.sl 1 0 n (some n) n 1) v6 v7 v35)
theorem ix69 {i:Nat} (hi:i < n):idxV Tp 69 (.sl 1 0 n (some n) n 1) (.int .i64 (i:Int))=some (.ptr 1 i 0 n):=by
  have:=idx_sl (P:=Tp) (t:=69) (b:=1) (len:=n) (tot:=n) (cap:=some n) (ik:=.i64) (n:=(i:Int)) u69 z91 (by omega) (by omega)
  rwa [Int.toNat_natCast] at this
theorem gX {i:Nat} (hi:i < l.length):idxV Tp 67 (.imm .arg 2 (l.map encX)) (.int .i64 (i:Int))=some (.vptr (encX (l.getD i (0,0)))) :=
  idx_imm u67 z64 (by omega) (by rw [Int.toNat_natCast,List.getElem?_map,List.getElem?_eq_getElem hi]; simp [List.getD,List.getElem?_eq_getElem hi])
theorem add_at {pol':Pol} (hp:pol'.prim 59=some add59) {x y:El} (hg:grOk g) (hx:elOk g x) (hy:elOk g y) (H:Heap):∀ k,callN Tp pol' (k+1) 59 [encG g,encX x,encX y] H=some (encX (addT g x y),H):=fun k=>by
  rw [prim_call (pol:=pol') (g:=59) (F:=add59) hp (rs:=[encG g,encX x,encX y]) rfl (res:=encX (addT g x y)) (by simp only [add59,gxxF,decG_enc,decX_enc]; rw [if_pos ⟨hg,hx,hy⟩])]
  rfl
noncomputable def C9:Code:=sub [1,1,1,0,1,0,0,1,0,0,1,1,0,0,1,1,0,0] B49
noncomputable def C7:Code:=sub [1,1,1,0,1,0,0,1,0,0,1,0] B49
noncomputable def C8:Code:=sub [1,1,1,0,1,0,0,1,0,0,1,1,0,0,0] B49
theorem st_box (H:Heap) (w:Wt):storeV Tp (H ++ [.arr 3 [.agg [.int .i64 0,.int .i64 0,.int .i64 0]] true 0]) 72 (.ptr H.length 0 0 1) (encW w)=some (H ++ [.arr 3 [encW w] true 0]):=by
  have:=store_agg (P:=Tp) (H:=H ++ [.arr 3 [.agg [.int .i64 0,.int .i64 0,.int .i64 0]] true 0]) (t:=72) (b:=H.length) (i:=0) (tot:=1) (k:=3) (mx:=0) (els:=[.agg [.int .i64 0,.int .i64 0,.int .i64 0]]) (cs:=[.int .i64 0,.int .i64 0,.int .i64 0]) (new:=[.int .i64 w.1,.int .i64 w.2.1,.int .i64 w.2.2])
    (by rw [List.getElem?_append_right (Nat.le_refl _),Nat.sub_self]; rfl) rfl rfl z72 rfl (by simp) rfl rfl
  rw [show encW w=.agg [.int .i64 w.1,.int .i64 w.2.1,.int .i64 w.2.2] from rfl,this]
  simp
theorem box_in (e:Env) (H:Heap) (w:Wt):evOps Tp polR 49 9 (regOps C9) [] (callN Tp polR 1) ((regOps C9).toList.drop 1) (e.put (some 38) (.tuple [encW w,.bool true])) H=some ([(7,.ptr H.length 0 0 1),(39,encW w),(38,.tuple [encW w,.bool true])] ++ e,H ++ [.arr 3 [encW w] true 0]) :=
  evOpsH_ok Tp polR ((regOps C9).toList.drop 1) 1 _ _ [⟨9,3,.tuple [],H ++ [.arr 3 [encW w] true 0]⟩] (hs':=[])
    (ob:=[(storeV Tp (H ++ [.arr 3 [.agg [.int .i64 0,.int .i64 0,.int .i64 0]] true 0]) 72 (.ptr H.length 0 0 1) (encW w)).map (fun H=>(HV.tuple [],H))=some (.tuple [],H ++ [.arr 3 [encW w] true 0])]) (by kernel_rfl) (Obls.cons (hintSt (st_box H w)) Obls.nil)
theorem pre_in {H:Heap} {i:Nat} {K:List Wt} (v7 v35:HV) (hi:IntKind.i64.wrap ((i:Int)+1)=((i+1:Nat):Int)) (h1:idxV Tp 69 (.sl 1 0 n (some n) n 1) (.int .i64 ((i+1:Nat):Int))=some (.ptr 1 (i+1) 0 n)) (h2:loadV Tp H 91 (.ptr 1 (i+1) 0 n)=some (encM K)) :
    evOps Tp polR 49 7 (regOps C7) [] (callN Tp polR 1) ((regOps C7).toList.take 5) (rcE g l n (.int .i64 (i:Int)) v7 v35) H =
      some ([(34,encM K),(33,.ptr 1 (i+1) 0 n),(32,.int .i64 (IntKind.i64.wrap ((i:Int)+1))),(31,.int .i64 (i:Int)),(30,.sl 1 0 n (some n) n 1)] ++ rcE g l n (.int .i64 (i:Int)) v7 v35,H) :=
  evOpsH_ok Tp polR ((regOps C7).toList.take 5) 0 _ _ [⟨7,3,.ptr 1 (i+1) 0 n,H⟩,⟨7,4,encM K,H⟩] (hs':=[])
    (ob:=[(idxV Tp 69 (.sl 1 0 n (some n) n 1) (.int .i64 (IntKind.i64.wrap ((i:Int)+1)))).map (fun v=>(v,H))=some (.ptr 1 (i+1) 0 n,H),(loadV Tp H 91 (.ptr 1 (i+1) 0 n)).map (fun v=>(v,H))=some (encM K,H)]) (by kernel_rfl) (Obls.cons (hintOp (by rw [hi]; exact h1)) (Obls.cons (hintOp h2) Obls.nil))
end
end Go.Proofs.Ytaibmipamkaljaa
end
section
open Go Go.HL
namespace Go.Proofs.Ytaibmipamkaljaa
open Go.Proofs.Try renaming prog → Tp
open Go.HL.HV renaming undef → Ud
section
variable {g:Gr} {l:List El} {n:Nat}
theorem g72 {H:Heap} {b:Nat} {w:Wt} (h:H[b]?=some (.arr 3 [encW w] true 0)):loadV Tp H 72 (.ptr b 0 0 1)=some (encW w):=load_agg (b:=b) h rfl rfl a72 z72
theorem same_encW (w:Wt):same (encW w) (encW w)=true:=by simp [encW,same,sameL]
theorem same_mapK (A:List Wt):sameH [mapK encW A] [mapK encW A]=true:=by
  have e1:sameL (A.map encW) (A.map encW)=true:=sameL_all fun v hv=>by
    obtain ⟨k,_,rfl⟩:=List.mem_map.1 hv
    exact same_encW k
  have e2:sameL (A.map fun _=>HV.bool true) (A.map fun _=>HV.bool true)=true:=sameL_all fun v hv=>by
    obtain ⟨k,_,rfl⟩:=List.mem_map.1 hv
    simp [same]
  simp only [mapK,sameH,e1,e2,beq_self_eq_true,Bool.and_self]
theorem same_encM (K:List Wt):same (encM K) (encM K)=true:=by
  have h:=same_mapK K
  simp only [mapK,sameH,beq_self_eq_true,Bool.and_true,Bool.and_eq_true] at h
  simp [encM,same,h.1,h.2]
theorem sameH_cons {B:Blk} {H:Heap} (hB:sameH [B] [B]=true) (hH:sameH H H=true):sameH (B :: H) (B :: H)=true:=by
  rw [sameH_iff] at hH ⊢
  intro C hC
  rcases List.mem_cons.1 hC with rfl | hC
  · exact hB
  · exact hH C hC
theorem rc_round (hg:grOk g) {i:Nat} (hi:i < l.length) (hl:∀ x ∈ l,elOk g x) (hll:l.length ≤ 1000) {w:Wt} (hw:elOk g w.2) (hw0:0 ≤ w.1∧w.1 ≤ 2000) {H:Heap} {A:List Wt} {v35:HV} (hn:i < n)
    (h0:H[0]?=some (bG g)) (h1:loadV Tp H 91 (.ptr 1 i 0 n)=some (.map 2)) (h2:H[2]?=some (mapK encW A)) (h1b:∀ X,loadV Tp (H.set 2 X) 91 (.ptr 1 i 0 n)=some (.map 2)) {kb:Nat} (hk:H[kb]?=some (.arr 3 [encW w] true 0)) (hkb:3 ≤ kb) (hs:sameH H H=true) :
    RT polR 49 (sub [1,1,1,0,1,0,0,1,0,0,1,1,0,0,1,1,0,1] B49) (rcE g l n (.int .i64 (i:Int)) (.ptr kb 0 0 1) v35) H .normal (rcE g l n (.int .i64 (i:Int)) (.ptr kb 0 0 1) v35)
      (H.set 2 (mapK encW (ins (rchW g (l.getD i (0,0)) w) (ins w A)))):=by
  have hx:elOk g (l.getD i (0,0)):=by
    have:l.getD i (0,0)=l[i]:=by simp [List.getD,List.getElem?_eq_getElem hi]
    rw [this]; exact hl _ (List.getElem_mem _)
  have hl2:2 < H.length:=lt_of_get h2
  have u1:=map_upd keyW (b:=2) h2 w
  have h2':(H.set 2 (mapK encW (ins w A)))[2]?=some (mapK encW (ins w A)):=List.getElem?_set_self hl2
  have u2:=map_upd keyW (b:=2) h2' (rchW g (l.getD i (0,0)) w)
  rw [List.set_set] at u2
  have hk':(H.set 2 (mapK encW (ins w A)))[kb]?=some (.arr 3 [encW w] true 0):=by rw [List.getElem?_set_ne (by omega)]; exact hk
  have h0':(H.set 2 (mapK encW (ins w A)))[0]?=some (bG g):=by rw [List.getElem?_set_ne (by omega)]; exact h0
  have s1:=rc_g_0 g.1 g.2.1 g.2.2 (l.map encX) n H i w.1 w.2.1 w.2.2 kb 2 (y35:=v35) (ix69 hn) h1 (g72 hk) u1
  have ld0:loadV Tp (H.set 2 (mapK encW (ins w A))) 3 (.ptr kb 0 0 1)=some (.int .i64 w.1):=load_cell (b:=kb) (off:=0) (cs:=[.int .i64 w.1,.int .i64 w.2.1,.int .i64 w.2.2]) hk' rfl rfl a3 i3 rfl
  have ldG:loadV Tp (H.set 2 (mapK encW (ins w A))) 66 (.ptr 0 0 0 1)=some (encG g):=load_agg (b:=0) h0' rfl rfl a66 z66
  have ldS:loadV Tp (H.set 2 (mapK encW (ins w A))) 64 (.ptr kb 0 1 1)=some (encX w.2):=by
    have e:loadV Tp (H.set 2 (mapK encW (ins w A))) 64 (.ptr kb 0 1 1)=partV Tp 64 [.int .i64 w.1,.int .i64 w.2.1,.int .i64 w.2.2] 1:=by
      simp only [loadV,hk',List.length_cons,List.length_nil,if_true]
      show partV Tp 64 (cellsOf (encW w)) 1=_
      simp only [encW,cellsOf]
    rw [e]
    show _=_
    kernel_rfl
  have hsame:sameH (H.set 2 (mapK encW (ins w A))) (H.set 2 (mapK encW (ins w A)))=true:=by
    rw [sameH_iff] at hs ⊢
    intro B hB
    rcases List.mem_or_eq_of_mem_set hB with h | rfl
    · exact hs B h
    · exact same_mapK _
  have hw1:IntKind.i64.wrap (w.1+1)=w.1+1:=wrap_id (by omega) (by omega)
  have s2:=rc_h_0 g.1 g.2.1 g.2.2 (l.map encX) n (H.set 2 (mapK encW (ins w A))) i w.1 w.2.1 w.2.2 0 0 kb 2 (y35:=v35) (H0:=H.set 2 (mapK encW (ins (rchW g (l.getD i (0,0)) w) (ins w A)))) (ix69 hn) (h1b _) ld0 ldG ldS (gX hi) (add_at (pol':=polR) (by kernel_rfl) hg hw hx _)
    (by rw [hw1]; exact u2) (by simp only [recL,ld0,h1b,Option.map,hsame,same,beq_self_eq_true,Bool.and_self])
  exact sq s1 s2
end
end Go.Proofs.Ytaibmipamkaljaa
end
section
open Go Go.HL
namespace Go.Proofs.Ytaibmipamkaljaa
open Go.Proofs.Try renaming prog → Tp
open Go.HL.HV renaming undef → Ud
section
variable {g:Gr} {l:List El} {n:Nat}
def ksI49:List Nat:=[0,1,2,4,5,6,35]
abbrev rcI (g:Gr) (l:List El) (n:Nat) (v6 v35:HV):Env:=[(0,encG g),(1,.imm .arg 2 (l.map encX)),(2,.ptr 0 0 0 1),(4,.imm .lit 1 []),(5,.sl 1 0 n (some n) n 1),(6,v6),(35,v35)]
def opAt (ops:Array Oper) (i:Nat):Oper:=ops.toList.getD i default
theorem mx4 {els:List HV} {A:List Wt} {B':Blk} {w:Wt} (hB:B'.mx=0):gc 4 4 [bG g,rwB els 3,mapK encW A,B',.arr 3 [encW w] true 0]=[bG g,rwB els 3,mapK encW A,B']:=by
  unfold gc
  have:mxs [bG g,rwB els 3,mapK encW A,B',.arr 3 [encW w] true 0]=3:=by
    show max 0 (max 3 (max 0 (max B'.mx (max 0 0))))=3
    rw [hB]; rfl
  rw [this]
  rfl
theorem bndI (v:Int):bndE (rcI g l n (.int .i64 v) (.ptr 3 0 0 0)) ≤ 4:=by simp [rcI,bndE,bnd,bndL,encG]
theorem rc_inner (hg:grOk g) {i:Nat} (hi:i < l.length) (hl:∀ x ∈ l,elOk g x) (hll:l.length ≤ 1000) {els:List HV} (hn:els.length=n) (hin:i+1 < n) {K:List Wt} (hK:∀ w ∈ K,elOk g w.2∧0 ≤ w.1∧w.1 ≤ 2000) (he1:els[i]?=some (.map 2)) (he2:els[i+1]?=some (encM K)) (hsm:∀ v ∈ els,same v v=true) :
    Trip Tp Try.f49.ntmps (sub [1,1,1,0,1,0,0,1,0,0,1] B49) (rcE g l n (.int .i64 (i:Int)) Ud Ud) [bG g,rwB els 3,mapK encW ([]:List Wt)]
      (fun x e H=>x=.normal∧∃ A Bk,A.Perm (rchStep g (l.getD i (0,0)) K)∧Bk.mx=0∧restr (polR.keys 49) e=rcE g l n (.int .i64 (i:Int)) Ud (.ptr 3 0 0 0)∧H=[bG g,rwB els 3,mapK encW A,Bk]):=by
  have hc:sub [1,1,1,0,1,0,0,1,0,0,1] B49=.seq (.region 7 (regOps C7) false) (.block 2 (.loop (.seq (.region 8 (regOps C8) false) (.seq (.cond (.tmp 37) .skip (.exit 2)) (.block 3 (.seq (.region 9 (regOps C9) false) (sub [1,1,1,0,1,0,0,1,0,0,1,1,0,0,1,1,0,1] B49))))))):=by kernel_rfl
  rw [hc]
  have hld:∀ (X Y:Heap) ,loadV Tp (bG g :: rwB els 3 :: X) 91 (.ptr 1 i 0 n)=some (.map 2):=fun X _=>load_elem (b:=1) (els:=els) rfl hn.symm he1 rfl a91 i91
  have hld2:loadV Tp [bG g,rwB els 3,mapK encW ([]:List Wt)] 91 (.ptr 1 (i+1) 0 n)=some (encM K):=load_elem (b:=1) (els:=els) rfl hn.symm he2 rfl a91 i91
  refine Trip.range (pol:=polR) (f:=49) (k:=1) (it:=35) (tm:=34) (tn:=36) (tb:=37) (te:=38) (T:=91) (kt:=72) (et:=4) (oR:=opAt (regOps C7) 5) (oN:=opAt (regOps C8) 0) (oX:=opAt (regOps C8) 1) (oE:=opAt (regOps C9) 0) (pre:=(regOps C7).toList.take 5) (os:=(regOps C9).toList.drop 1)
    (g:=.own) (kl:=K.map encW) (vl:=K.map fun _=>.bool true) (asgA:=[]) (asg2:=[]) ksI49
    (I:=fun S Bk e H=>e=rcI g l n (.int .i64 (i:Int)) (.ptr 3 0 0 0)∧H=[bG g,rwB els 3,mapK encW (rchStep g (l.getD i (0,0)) (S.map fun j=>K.getD j (0,0,0))),Bk]∧Bk.mx=0∧sameH [Bk] [Bk]=true)
    soundR (by kernel_rfl) (by kernel_rfl) (by kernel_rfl) (by kernel_rfl) (by kernel_rfl) (by kernel_rfl) (by kernel_rfl) (by kernel_rfl) (by kernel_rfl) (by kernel_rfl) (by kernel_rfl) (by kernel_rfl) (by kernel_rfl) (by kernel_rfl) (by kernel_rfl) (by kernel_rfl) (by decide)
    (by kernel_rfl) (by kernel_rfl) (by kernel_rfl) (pre_in Ud Ud (wrap_succ (by omega)) (ix69 hin) hld2) rfl ?_ ?_ ?_ ?_
  · intro Bk hB hS
    exact ⟨rfl,rfl,hB,hS⟩
  · rintro S Bk e H' ⟨rfl,rfl,_,_⟩
    exact ⟨rfl,rfl⟩
  · rintro S Bk e H' j kv vv ⟨rfl,rfl,hB,hS⟩ hj hjS hnd hkv hvv B' hB' hS'
    rw [List.length_map] at hj
    have hw:K[j]=K.getD j (0,0,0):=by simp [List.getD,List.getElem?_eq_getElem hj]
    have ekv:kv=encW (K.getD j (0,0,0)):=by
      rw [List.getElem?_map,List.getElem?_eq_getElem hj] at hkv
      rw [← hw]; exact (Option.some.inj hkv).symm
    have evv:vv=.bool true:=by
      rw [List.getElem?_map,List.getElem?_eq_getElem hj] at hvv
      exact (Option.some.inj hvv).symm
    subst ekv; subst evv
    have hKw:=hK _ (List.getElem_mem hj)
    rw [hw] at hKw
    generalize hww:K.getD j (0,0,0)=w at *
    refine ⟨_,_,box_in _ _ w,?_⟩
    have hround:=rc_round (g:=g) (l:=l) (n:=n) (i:=i) hg hi hl hll (w:=w) hKw.1 ⟨hKw.2.1,hKw.2.2⟩ (H:=[bG g,rwB els 3,mapK encW (rchStep g (l.getD i (0,0)) (S.map fun j=>K.getD j (0,0,0))),B',.arr 3 [encW w] true 0]) (A:=rchStep g (l.getD i (0,0)) (S.map fun j=>K.getD j (0,0,0))) (v35:=.ptr 3 0 0 0) (by omega)
      rfl (hld _ []) rfl (fun X=>hld _ []) (kb:=4) rfl (by omega) (by
        refine sameH_cons (by simp [sameH,sameL,same,encG]) (sameH_cons (same_arr hsm) (sameH_cons (same_mapK _) (sameH_cons hS' (by simp [sameH,sameL,same_encW]))))
        )
    refine Trip.restrict (polR.keys 49) ?_
    have hrun:=Trip.run (nt:=Try.f49.ntmps) follows_mixed soundR (by kernel_rfl) hround
    refine Trip.mono hrun ?_
    rintro x e2 H2 ⟨rfl,rfl,rfl⟩
    refine ⟨rfl,ksI49,4,bndI (g:=g) (l:=l) (n:=n) (i:Int),?_⟩
    refine ⟨rfl,?_,hB',hS'⟩
    show gc 4 4 [bG g,rwB els 3,mapK encW _,B',.arr 3 [encW w] true 0]=_
    rw [mx4 hB',List.map_append]
    simp only [List.map_cons,List.map_nil,hww,rchStep,List.foldl_append,List.foldl_cons,List.foldl_nil]
  · rintro S Bk e H' ⟨rfl,rfl,hB,hS⟩ hall hlt hnd
    refine ⟨rfl,_,Bk,?_,hB,rfl,rfl⟩
    refine step_perm fun w=>?_
    constructor
    · intro hw
      obtain ⟨j,hj,rfl⟩:=List.mem_map.1 hw
      have c:j < K.length:=by simpa using hlt j hj
      have:K.getD j (0,0,0)=K[j]:=by simp [List.getD,List.getElem?_eq_getElem c]
      rw [this]; exact List.getElem_mem c
    · intro hw
      obtain ⟨j,hj,rfl⟩:=List.getElem_of_mem hw
      refine List.mem_map.2 ⟨j,hall j (by simpa using hj),by simp [List.getD,List.getElem?_eq_getElem hj]⟩
end
end Go.Proofs.Ytaibmipamkaljaa
end
section
open Go Go.HL
namespace Go.Proofs.Ytaibmipamkaljaa
open Go.Proofs.Try renaming prog → Tp
open Go.HL.HV renaming undef → Ud
section
variable {g:Gr} {l:List El}
abbrev rcJ (g:Gr) (l:List El) (v6:HV):Env:=[(0,encG g),(1,.imm .arg 2 (l.map encX)),(2,.ptr 0 0 0 1),(4,.imm .lit 1 []),(5,.sl 1 0 (l.length+1) (some (l.length+1)) (l.length+1) 1),(6,v6)]
def ksJ:List Nat:=[0,1,2,4,5,6]
theorem bndJ (v:Int):bndE (rcJ g l (.int .i64 v)) ≤ 2:=by simp [rcJ,bndE,bnd,bndL,encG]
theorem bndL_M:∀ (T:List (List Wt)),bndL (T.map encM)=0
  | []=>rfl
  | K :: T=>by simp [bndL,bndL_M T,encM,bnd]
theorem bndL_nil:∀ (k:Nat),bndL (List.replicate k .nilmap)=0
  | 0=>rfl
  | k+1=>by simp [List.replicate_succ,bndL,bndL_nil k,bnd]
theorem bndL_app:∀ (a b:List HV),bndL (a ++ b)=max (bndL a) (bndL b)
  | [],b=>by simp [bndL]
  | x :: a,b=>by simp only [List.cons_append,bndL,bndL_app a b]; omega
theorem els_set (k:Nat) (L:List HV) (v:HV):(List.replicate (k+1) HV.nilmap ++ L).set k v=List.replicate k .nilmap ++ v :: L:=by
  induction k with
  | zero=>rfl
  | succ k ih=>simp only [List.replicate_succ,List.cons_append,List.set_cons_succ] at ih ⊢; rw [ih]
theorem els_at (k:Nat) (L:List HV) (v:HV):(List.replicate k HV.nilmap ++ v :: L)[k]?=some v∧∀ u,L[0]?=some u → (List.replicate k HV.nilmap ++ v :: L)[k+1]?=some u:=by
  refine ⟨?_,fun u hu=>?_⟩
  · rw [List.getElem?_append_right (by simp)]; simp
  · rw [List.getElem?_append_right (by simp)]; simpa using hu
theorem elsR_len {k:Nat} (hk:k ≤ l.length):(elsR g l k).length=l.length+1:=by
  simp [elsR,rch_len]; omega
theorem elsR_step {p:Nat} (hp:p < l.length):elsR g l p=List.replicate p .nilmap ++ encM (rchStep g (l.getD p (0,0)) ((rchT g (l.drop (p+1))).headD [])) :: (rchT g (l.drop (p+1))).map encM:=by
  have e:l.getD p (0,0)=l[p]:=by simp [List.getD,List.getElem?_eq_getElem hp]
  unfold elsR
  rw [List.drop_eq_getElem_cons hp,e]
  rfl
theorem conv_end {p:Nat} (hp:p < l.length) (v:Int) {A:List Wt} {Bk:Blk} (hA:A.Perm (rchStep g (l.getD p (0,0)) ((rchT g (l.drop (p+1))).headD []))) (hB:Bk.mx=0) :
    Conv Tp 2 (rcE g l (l.length+1) (.int .i64 v) Ud (.ptr 3 0 0 0)) [bG g,rwB ((elsR g l (p+1)).set p (.map 2)) 3,mapK encW A,Bk] (rcJ g l (.int .i64 v)) [bG g,rwB (elsR g l p) 0]:=by
  have e1:restr ksJ (rcE g l (l.length+1) (.int .i64 v) Ud (.ptr 3 0 0 0))=rcJ g l (.int .i64 v):=rfl
  have c1:Conv Tp 2 (rcE g l (l.length+1) (.int .i64 v) Ud (.ptr 3 0 0 0)) [bG g,rwB ((elsR g l (p+1)).set p (.map 2)) 3,mapK encW A,Bk] (rcJ g l (.int .i64 v)) [bG g,rwB ((elsR g l (p+1)).set p (.map 2)) 3,mapK encW A,Bk]:=by
    rw [← e1]; exact Conv.restr ksJ
  have e2:gc 2 2 [bG g,rwB ((elsR g l (p+1)).set p (.map 2)) 3,mapK encW A,Bk]=[bG g,rwB ((elsR g l (p+1)).set p (.map 2)) 3] ++ [.map (A.map encW) (A.map fun _=>.bool true) 0]:=by
    unfold gc
    have:mxs [bG g,rwB ((elsR g l (p+1)).set p (.map 2)) 3,mapK encW A,Bk]=3:=by
      show max 0 (max 3 (max 0 (max Bk.mx 0)))=3
      rw [hB]; rfl
    rw [this]
    rfl
  have c2:=Conv.gc (P:=Tp) (n:=2) (e:=rcJ g l (.int .i64 v)) (H:=[bG g,rwB ((elsR g l (p+1)).set p (.map 2)) 3,mapK encW A,Bk]) 2 (bndJ v)
  rw [e2] at c2
  have eset:(elsR g l (p+1)).set p (.map 2)=List.replicate p .nilmap ++ .map 2 :: (rchT g (l.drop (p+1))).map encM:=els_set _ _ _
  have hz:∀ X:List Wt,(X.map encW).zip (X.map fun _=>HV.bool true)=X.map fun w=>(encW w,HV.bool true):=by
    intro X; induction X with
    | nil=>rfl
    | cons x X ih=>simp [ih]
  have hlen:A.length=(rchStep g (l.getD p (0,0)) ((rchT g (l.drop (p+1))).headD [])).length:=hA.length_eq
  have c3:=Conv.sealM (P:=Tp) (n:=2) (e:=rcJ g l (.int .i64 v)) (H0:=[bG g,rwB ((elsR g l (p+1)).set p (.map 2)) 3]) (ks:=A.map encW) (vs:=A.map fun _=>.bool true) (mx:=0) (mb:=2)
    (ks':=(rchStep g (l.getD p (0,0)) ((rchT g (l.drop (p+1))).headD [])).map encW) (vs':=(rchStep g (l.getD p (0,0)) ((rchT g (l.drop (p+1))).headD [])).map fun _=>.bool true)
    rfl (Nat.le_refl _) (fun v hv=>by obtain ⟨_,_,rfl⟩:=List.mem_map.1 hv; rfl) (by rw [hz,hz]; exact (hA.symm).map _) (by simp [hlen]) (by simp [hlen])
    (fun q hq=>.inr (by
      simp only [rcJ,List.mem_cons,List.not_mem_nil,or_false] at hq
      rcases hq with rfl | rfl | rfl | rfl | rfl | rfl <;> simp [bnd,bndL,encG]))
    (fun b x hx=>by
      match b,hx with
      | 0,hx=>cases hx; intro v hv; rw [List.mem_singleton] at hv; subst hv; exact .inr (by simp [encG,bnd,bndL])
      | 1,hx =>
        cases hx
        intro v hv
        rw [eset] at hv
        rcases List.mem_append.1 hv with h | h
        · rw [List.mem_replicate] at h; rw [h.2]; exact .inr (by simp [bnd])
        · rcases List.mem_cons.1 h with rfl | h
          · exact .inl rfl
          · obtain ⟨K,_,rfl⟩:=List.mem_map.1 h
            exact .inr (by simp [encM,bnd])
      | b+2,hx=>simp at hx)
  refine (c1.trans c2).trans ?_
  have e3:([bG g,rwB ((elsR g l (p+1)).set p (.map 2)) 3].map (sealB 2 (encM (rchStep g (l.getD p (0,0)) ((rchT g (l.drop (p+1))).headD [])))))=[bG g,rwB (elsR g l p) 0]:=by
    have h1:((elsR g l (p+1)).set p (.map 2)).map (sealV 2 (encM (rchStep g (l.getD p (0,0)) ((rchT g (l.drop (p+1))).headD []))))=elsR g l p:=by
      rw [eset,elsR_step hp,List.map_append,List.map_cons,List.map_replicate,List.map_map]
      congr 1
    have h2:bndL (elsR g l p)=0:=by unfold elsR; rw [bndL_app,bndL_nil,bndL_M]; rfl
    simp only [List.map_cons,List.map_nil,sealB,h1,h2]
    rfl
  rw [show HV.imap G.own ((rchStep g (l.getD p (0,0)) ((rchT g (l.drop (p+1))).headD [])).map encW) ((rchStep g (l.getD p (0,0)) ((rchT g (l.drop (p+1))).headD [])).map fun _=>.bool true)=encM (rchStep g (l.getD p (0,0)) ((rchT g (l.drop (p+1))).headD [])) from rfl,e3] at c3
  exact c3
theorem rc_body (hg:grOk g) (hl:∀ x ∈ l,elOk g x) (hll:l.length ≤ 1000) {p:Nat} (hp:p < l.length) :
    Trip Tp Try.f49.ntmps (sub [1,1,1,0,1,0,0] B49) (rcJ g l (.int .i64 (p:Int))) [bG g,rwB (elsR g l (p+1)) 0] (fun x e H=>x=.normal∧e=rcJ g l (.int .i64 (IntKind.i64.wrap ((p:Int) - 1)))∧H=[bG g,rwB (elsR g l p) 0]):=by
  have hlen:=elsR_len (g:=g) (l:=l) (k:=p+1) (by omega)
  have eset:(elsR g l (p+1)).set p (.map 2)=List.replicate p .nilmap ++ .map 2 :: (rchT g (l.drop (p+1))).map encM:=els_set _ _ _
  have hold:(elsR g l (p+1))[p]?=some .nilmap:=by
    unfold elsR
    rw [List.getElem?_append_left (by simp),List.getElem?_replicate,if_pos (by omega)]
  refine Trip.conv (Q:=fun x e H=>x=.normal∧∃ A Bk,A.Perm (rchStep g (l.getD p (0,0)) ((rchT g (l.drop (p+1))).headD []))∧Bk.mx=0∧e=rcE g l (l.length+1) (.int .i64 (IntKind.i64.wrap ((p:Int) - 1))) Ud (.ptr 3 0 0 0)∧H=[bG g,rwB ((elsR g l (p+1)).set p (.map 2)) 3,mapK encW A,Bk]) ?_ (by
    rintro x e' H' ⟨rfl,A,Bk,hA,hB,rfl,rfl⟩
    exact ⟨_,_,conv_end hp _ hA hB,rfl,rfl,rfl⟩)
  refine Trip.restrict (polR.keys 49) ?_
  have s1:=rc_e_0 g.1 g.2.1 g.2.2 (l.map encX) (l.length+1) [bG g,rwB (elsR g l (p+1)) 0] (p:Int) (y7:=Ud) (y35:=Ud) (by omega)
  refine Trip.seqR (ca:=sub [1,1,1,0,1,0,0,0] B49) (cb:=sub [1,1,1,0,1,0,0,1] B49) s1 follows_mixed soundR (by kernel_rfl) (by kernel_rfl) ?_
  have hc:sub [1,1,1,0,1,0,0,1] B49=.seq (.block 1 (.seq (sub [1,1,1,0,1,0,0,1,0,0,0] B49) (sub [1,1,1,0,1,0,0,1,0,0,1] B49))) (sub [1,1,1,0,1,0,0,1,1] B49):=by kernel_rfl
  rw [hc]
  have hst:storeV Tp [bG g,rwB (elsR g l (p+1)) 0,.map [] [] 0] 91 (.ptr 1 p 0 (l.length+1)) (.map 2)=some [bG g,rwB ((elsR g l (p+1)).set p (.map 2)) 3,.map [] [] 0]:=by
    have:=st_any (H:=[bG g,rwB (elsR g l (p+1)) 0,.map [] [] 0]) (t:=91) (b:=1) (i:=p) (tot:=l.length+1) (k:=1) (mx:=0) (els:=elsR g l (p+1)) (v:=.map 2) rfl hlen.symm hold rfl (by intro cs h; cases h) z91 rfl rfl
    rw [this]; rfl
  have s2:=rc_f_0 g.1 g.2.1 g.2.2 (l.map encX) (l.length+1) [bG g,rwB (elsR g l (p+1)) 0] p (y7:=Ud) (y35:=Ud) (H0:=[bG g,rwB (elsR g l (p+1)) 0,.map [] [] 0]) rfl (ix69 (by omega)) hst
  refine Trip.seq (Q1:=fun x e H=>x=.normal∧∃ A Bk,A.Perm (rchStep g (l.getD p (0,0)) ((rchT g (l.drop (p+1))).headD []))∧Bk.mx=0∧restr (polR.keys 49) e=rcE g l (l.length+1) (.int .i64 (p:Int)) Ud (.ptr 3 0 0 0)∧H=[bG g,rwB ((elsR g l (p+1)).set p (.map 2)) 3,mapK encW A,Bk]) ?_ ?_ (fun x e1 H1 hx q=>absurd q.1 hx)
  · refine Trip.block ?_
    refine Trip.seqR s2 follows_mixed soundR (by kernel_rfl) rfl ?_
    have hK:∀ w ∈ (rchT g (l.drop (p+1))).headD [],elOk g w.2∧0 ≤ w.1∧w.1 ≤ 2000:=fun w hw=>by
      obtain ⟨h1,h2,h3⟩:=head_ok hg _ w hw
      rw [List.length_drop] at h3
      exact ⟨h1,h2,by omega⟩
    obtain ⟨a1,a2⟩:=els_at p ((rchT g (l.drop (p+1))).map encM) (.map 2)
    have hh:((rchT g (l.drop (p+1))).map encM)[0]?=some (encM ((rchT g (l.drop (p+1))).headD [])):=by rw [head_cons]; rfl
    refine (rc_inner hg hp hl hll (els:=(elsR g l (p+1)).set p (.map 2)) (n:=l.length+1) (by rw [List.length_set]; exact hlen) (by omega) (K:=(rchT g (l.drop (p+1))).headD []) hK (by rw [eset]; exact a1) (by rw [eset]; exact a2 _ hh) ?_).mono ?_
    · intro v hv
      rw [eset] at hv
      rcases List.mem_append.1 hv with h | h
      · rw [List.mem_replicate] at h; rw [h.2]; simp [same]
      · rcases List.mem_cons.1 h with rfl | h
        · simp [same]
        · obtain ⟨K,_,rfl⟩:=List.mem_map.1 h
          exact same_encM K
    · rintro x e H ⟨rfl,q⟩
      exact ⟨rfl,q⟩
  · rintro e1 H1 ⟨_,A,Bk,hA,hB,he,rfl⟩
    refine Trip.restrict (polR.keys 49) ?_
    rw [he]
    have s3:=rc_i_0 g.1 g.2.1 g.2.2 (l.map encX) (l.length+1) [bG g,rwB ((elsR g l (p+1)).set p (.map 2)) 3,mapK encW A,Bk] p (y7:=Ud) (y35:=.ptr 3 0 0 0)
    refine (Trip.run follows_mixed soundR (by kernel_rfl) s3).mono ?_
    rintro x e H ⟨rfl,rfl,rfl⟩
    exact ⟨rfl,A,Bk,hA,hB,rfl,rfl⟩
end
end Go.Proofs.Ytaibmipamkaljaa
end
section
open Go Go.HL
namespace Go.Proofs.Ytaibmipamkaljaa
open Go.Proofs.Try renaming prog → Tp
open Go.HL.HV renaming undef → Ud
theorem res49:Try.f49.results.toList=[.tmp 4]:=by kernel_rfl
def glF (f:Gr → List El → Option HV):List HV → Option HV
  | [a,.imm .arg 2 la]=>(match decG a,mapO decX la with | some g,some l=>f g l | _,_=>none)
  | _=>none
theorem glF_inv {f:Gr → List El → Option HV} {args:List HV} {res:HV} (h:glF f args=some res):∃ g l,args=[encG g,.imm .arg 2 (l.map encX)]∧f g l=some res:=by
  unfold glF at h
  split at h
  · rename_i a la
    split at h
    · rename_i g l hg hl
      exact ⟨g,l,by rw [decG_inv _ _ hg,mapO_inv decX_inv hl],h⟩
    · cases h
  · cases h
def allEl (g:Gr) (l:List El):Bool:=l.all fun x=>decide (elOk g x)
theorem allEl_iff {g:Gr} {l:List El}:allEl g l=true ↔ ∀ x ∈ l,elOk g x:=by simp [allEl]
def reached49:List HV → Option HV:=glF fun g l=>if grOk g∧allEl g l=true∧l.length ≤ 1000 then some (.own 1 ((rchT g l).map encM)) else none
theorem frz_M {H:Heap} {no:List Nat} (K:List Wt):frz H no 4 (encM K)=some (encM K):=by
  have hk:∀ (K:List Wt),resPL (K.map encW)=true:=by
    intro K; induction K with
    | nil=>rfl
    | cons w K ih=>simp [resPL,ih,encW,resP]
  have hv:∀ (K:List Wt),resPL (K.map fun _=>HV.bool true)=true:=by
    intro K; induction K with
    | nil=>rfl
    | cons w K ih=>simp [resPL,resP] at ih ⊢; exact ih
  have:resP (encM K)=true:=by simp only [encM,resP,hk K,hv K]; rfl
  show (if resP (encM K) then some (encM K) else none)=_
  rw [this]; rfl
theorem reached_ok:PrimOk Tp 49 reached49:=by
  refine primOk_trip (fn:=Try.f49) (cd:=B49) (deep:=false) (by kernel_rfl) (by kernel_rfl) ?_
  intro args res h
  obtain ⟨g,l,rfl,hq⟩:=glF_inv h
  clear h
  split at hq
  case isFalse=>cases hq
  rename_i hd
  cases hq
  obtain ⟨hg,hl,hll⟩:=hd
  rw [allEl_iff] at hl
  have a:=rc_a_0 g.1 g.2.1 g.2.2 (l.map encX)
  have mk:=makeV_ok (P:=Tp) (H:=[bG g]) (t:=69) (e:=91) (k:=1) (bt:=8) (zv:=.nilmap) (n:=((l.length+1:Nat):Int)) u69 info91 (by simp [cellsOf,cellV]) (by simp [cellsOf]) (by omega) (by omega) (by simp only [roomMax]; omega)
  rw [Int.toNat_natCast] at mk
  have ew:IntKind.i64.wrap (((l.map encX).length:Int)+1)=((l.length+1:Nat):Int):=by rw [List.length_map]; exact wrap_succ (by omega)
  have b:=rc_b_0 g.1 g.2.1 g.2.2 (l.map encX) (l.length+1) (y5:=Ud) (y6:=Ud) (y7:=Ud) (y35:=Ud) (by rw [ew]; exact mk)
  have up:=map_upd keyW (H:=[bG g,rwB (List.replicate (l.length+1) .nilmap) 0,mapK encW []]) (b:=2) rfl (0,0,0)
  have hset:(List.replicate (l.length+1) HV.nilmap).set l.length (.map 2)=List.replicate l.length .nilmap ++ [.map 2]:=by
    have:=els_set l.length [] (.map 2)
    rwa [List.append_nil] at this
  have hst:storeV Tp [bG g,rwB (List.replicate (l.length+1) .nilmap) 0,mapK encW [(0,0,0)]] 91 (.ptr 1 l.length 0 (l.length+1)) (.map 2)=some [bG g,rwB (List.replicate l.length .nilmap ++ [.map 2]) 3,mapK encW [(0,0,0)]]:=by
    have:=st_any (H:=[bG g,rwB (List.replicate (l.length+1) .nilmap) 0,mapK encW [(0,0,0)]]) (t:=91) (b:=1) (i:=l.length) (tot:=l.length+1) (k:=1) (mx:=0) (els:=List.replicate (l.length+1) .nilmap) (v:=.map 2) (old:=.nilmap) rfl (by simp) (by rw [List.getElem?_replicate,if_pos (by omega)]) rfl (by intro cs h; cases h) z91 rfl rfl
    rw [this,hset]; rfl
  have c:=rc_c_0 g.1 g.2.1 g.2.2 (l.map encX) (l.length+1) [bG g,rwB (List.replicate (l.length+1) .nilmap) 0] (y6:=Ud) (y7:=Ud) (y35:=Ud) (H0:=[bG g,rwB (List.replicate (l.length+1) .nilmap) 0,mapK encW []]) rfl up
    (by rw [List.length_map]; exact ix69 (by omega)) (by rw [List.length_map]; exact hst)
  have ab:RunsTo Tp polR 49 (sub [0] B49) _ _ _ _ _ _:=a
  refine Trip.seqR (cd:=B49) (ca:=sub [0] B49) (cb:=sub [1] B49) a follows_mixed soundR (by kernel_rfl) (by kernel_rfl) ?_
  refine Trip.seqR (cd:=sub [1] B49) (ca:=sub [1,0] B49) (cb:=sub [1,1] B49) b follows_mixed soundR (by kernel_rfl) (by kernel_rfl) ?_
  have hc:sub [1,1] B49=.seq (sub [1,1,0] B49) (.seq (.seq (sub [1,1,1,0,0] B49) (.block 0 (.loop (sub [1,1,1,0,1,0,0] B49)))) (sub [1,1,1,1] B49)):=by kernel_rfl
  rw [hc]
  -- the map of the end,made read-only
  have hc2:Trip Tp Try.f49.ntmps (sub [1,1,0] B49) (rcE g l (l.length+1) Ud Ud Ud) [bG g,rwB (List.replicate (l.length+1) .nilmap) 0] (fun x e H=>x=.normal∧e=rcE g l (l.length+1) Ud Ud Ud∧H=[bG g,rwB (elsR g l l.length) 0]):=by
    refine Trip.conv (Trip.run follows_mixed soundR (by kernel_rfl) c) ?_
    rintro x e H ⟨rfl,rfl,rfl⟩
    refine ⟨_,_,Conv.sealM (P:=Tp) (n:=2) (H0:=[bG g,rwB (List.replicate l.length .nilmap ++ [.map 2]) 3]) (ks:=([(0,0,0)]:List Wt).map encW) (vs:=([(0,0,0)]:List Wt).map fun _=>.bool true) (ks':=([(0,0,0)]:List Wt).map encW) (vs':=([(0,0,0)]:List Wt).map fun _=>.bool true) (mx:=0) (mb:=2)
      rfl (Nat.le_refl _) (fun v hv=>by simp at hv; subst hv; rfl) (.refl _) rfl rfl ?_ ?_,rfl,?_,?_⟩
    · intro q hq
      refine .inr ?_
      simp only [List.mem_cons,List.not_mem_nil,or_false] at hq
      rcases hq with rfl | rfl | rfl | rfl | rfl | rfl | rfl | rfl <;> simp [bnd,bndL]
    · intro b x hx
      match b,hx with
      | 0,hx=>cases hx; intro v hv; rw [List.mem_singleton] at hv; subst hv; exact .inr (by simp [encG,bnd,bndL])
      | 1,hx =>
        cases hx
        intro v hv
        rcases List.mem_append.1 hv with h | h
        · rw [List.mem_replicate] at h; rw [h.2]; exact .inr (by simp [bnd])
        · rw [List.mem_singleton] at h; exact .inl h
      | b+2,hx=>simp at hx
    · rfl
    · have h1:(List.replicate l.length HV.nilmap ++ [HV.map 2]).map (sealV 2 (encM [(0,0,0)]))=elsR g l l.length:=by
        unfold elsR
        rw [List.drop_length,List.map_append,List.map_replicate]
        rfl
      have h2:bndL (elsR g l l.length)=0:=by unfold elsR; rw [bndL_app,bndL_nil,bndL_M]; rfl
      simp only [List.map_cons,List.map_nil,sealB]
      rw [show HV.imap G.own [encW (0,0,0)] [HV.bool true]=encM [(0,0,0)] from rfl,h1,h2]
      rfl
  refine Trip.seq hc2 ?_ (fun x e1 H1 hx q=>absurd q.1 hx)
  rintro e1 H1 ⟨_,rfl,rfl⟩
  have d:=rc_d_0 g.1 g.2.1 g.2.2 (l.map encX) (l.length+1) [bG g,rwB (elsR g l l.length) 0] (y6:=Ud) (y7:=Ud) (y35:=Ud)
  have ewd:IntKind.i64.wrap (((l.map encX).length:Int) - 1)=(l.length:Int) - 1:=by rw [List.length_map]; exact wrap_id (by omega) (by omega)
  rw [ewd] at d
  refine Trip.seq (Q1:=fun x e H=>x=.normal∧e=rcE g l (l.length+1) (.int .i64 (-1)) Ud Ud∧H=[bG g,rwB (elsR g l 0) 0]) ?_ ?_ (fun x e1 H1 hx q=>absurd q.1 hx)
  · refine Trip.seqR d follows_mixed soundR (by kernel_rfl) rfl ?_
    refine Trip.block ?_
    refine Trip.restrict ksJ ?_
    refine Trip.loop (I:=fun k e H=>k ≤ l.length∧e=rcJ g l (.int .i64 ((k:Int) - 1))∧H=[bG g,rwB (elsR g l k) 0]) ?_ (n:=l.length) ⟨Nat.le_refl _,rfl,rfl⟩
    rintro k e H ⟨hk,rfl,rfl⟩
    cases k with
    | zero =>
      have s:=rc_e_1 g.1 g.2.1 g.2.2 (l.map encX) (l.length+1) [bG g,rwB (elsR g l 0) 0] (-1) (y7:=Ud) (y35:=Ud) (by omega)
      have hcb:sub [1,1,1,0,1,0,0] B49=.seq (sub [1,1,1,0,1,0,0,0] B49) (sub [1,1,1,0,1,0,0,1] B49):=by kernel_rfl
      rw [hcb]
      refine Trip.restrict (polR.keys 49) ?_
      refine Trip.seq (Trip.run follows_mixed soundR (by kernel_rfl) s) (fun e1 H1 q=>absurd q.1 (by simp)) ?_
      rintro x e1 H1 _ ⟨rfl,rfl,rfl⟩
      exact ⟨rfl,rfl,rfl⟩
    | succ p =>
      have hb:=rc_body (g:=g) (l:=l) hg hl hll (p:=p) (by omega)
      rw [show (((p+1:Nat):Int) - 1)=(p:Int) by omega]
      refine hb.mono ?_
      rintro x e H ⟨rfl,rfl,rfl⟩
      refine ⟨p,ksJ,2,by omega,bndJ _,⟨by omega,?_,?_⟩⟩
      · rw [wrap_id (by omega) (by omega)]
        rfl
      · unfold gc
        exact List.take_of_length_le (by simp only [List.length_cons,List.length_nil]; omega)
  · rintro e1 H1 ⟨_,rfl,rfl⟩
    have j:=rc_j_0 g.1 g.2.1 g.2.2 (l.map encX) (l.length+1) [bG g,rwB (elsR g l 0) 0] (y6:=.int .i64 (-1)) (y7:=Ud) (y35:=Ud)
    refine (Trip.run follows_mixed soundR (by kernel_rfl) j).mono ?_
    rintro x e H ⟨rfl,rfl,rfl⟩
    refine ⟨by simp,.sl 1 0 (l.length+1) (some (l.length+1)) (l.length+1) 1,by simp only [resultsV,res49]; rfl,?_⟩
    have e0:elsR g l 0=(rchT g l).map encM:=by simp [elsR]
    have hr:=resCell_sl (H:=[bG g,rwB ((rchT g l).map encM) 0]) (no:=[1]) (b:=1) (k:=1) (m:=l.length+1) (cap:=some (l.length+1)) (els:=(rchT g l).map encM) rfl (by simp [rch_len]) (mapO_self frz_M _)
    have ho:ownedAll [bG g,rwB ((rchT g l).map encM) 0] false (.sl 1 0 (l.length+1) (some (l.length+1)) (l.length+1) 1)=[1]:=rfl
    rw [e0]
    simp only [toRes,ho,List.nodup_cons,List.not_mem_nil,not_false_eq_true,List.nodup_nil,and_self,if_true,resVal,hr]
end Go.Proofs.Ytaibmipamkaljaa
end
section
open Go Go.HL
namespace Go.Proofs.Ytaibmipamkaljaa
open Go.Proofs.Try renaming prog → Tp
open Go.HL.HV renaming undef → Ud
def polF:Pol:={ pol with prim:=fun g=>if g == 66 then some minus66 else none }
theorem soundF (n:Nat):CallSound Tp (callN Tp polF n):=sound_prim _ (fun g f h=>by
  split at h
  · rename_i hg; cases h; rw [eq_of_beq hg]; exact minus_ok
  · cases h) n
theorem CallsTo.shared {P:Program} {pol:Pol} {g:FuncId} {fn:Func} {cd:Code} {args:List HV} {x:X} {E:Env} {H H':Heap} {v:HV} (hp:pol.prim g=none) (hf:P.funcs[g]?=some fn) (hb:fn.body=some cd) (hs:pol.shared g=true)
    (hrun:RunsTo P pol g cd (args0 args) H x (pol.keys g) E H') (hres:(fn.results.toList.all fun r=>match r with | .tmp t=>(pol.keys g).contains t | .cell t _=>(pol.keys g).contains t)=true) (hx:∀ i,x ≠ .exit i) (hv:resultsV P fn E H'=some v) :
    CallsTo (P:=P) (pol:=pol) g args H v (gc H.length (bnd v) H'):=by
  obtain ⟨m,h⟩:=hrun
  refine ⟨m+1,fun k hk=>?_⟩
  obtain ⟨k,rfl⟩:∃ n',k=n'+1:=⟨k - 1,by omega⟩
  obtain ⟨e1,g1,g2⟩:=h k k (by omega) (by omega)
  subst g2
  rw [resultsV_restr hres] at hv
  simp only [callN,doCall,hp,hf,hb,hs,if_true,sharedCall,g1]
  cases x with
  | exit i=>exact absurd rfl (hx i)
  | normal=>simp only [hv]
  | ret=>simp only [hv]
theorem CallsTo.from {pol:Pol} {g:FuncId} {args:List HV} {H H':Heap} {r:HV} (h:CallsTo (P:=Tp) (pol:=pol) g args H r H'):∃ N,∀ kf,N ≤ kf → callN Tp pol (kf+1) g args H=some (r,H'):=by
  obtain ⟨m,h⟩:=h
  exact ⟨m,fun kf hk=>h (kf+1) (by omega)⟩
theorem minus_at {g:Gr} {pol':Pol} (hp:pol'.prim 66=some minus66) {x y:El} (hg:grOk g) (hx:elOk g x) (hy:elOk g y) (H:Heap):∀ k,callN Tp pol' (k+1) 66 [encG g,encX x,encX y] H=some (encX (subT g x y),H):=fun k=>by
  rw [prim_call (pol:=pol') (g:=66) (F:=minus66) hp (rs:=[encG g,encX x,encX y]) rfl (res:=encX (subT g x y)) (by simp only [minus66,gxxF,decG_enc,decX_enc]; rw [if_pos ⟨hg,hx,hy⟩])]
  rfl
def partT (g:Gr):List El → Nat → Wt → List Nat
  | [],_,_=>[]
  | x :: l,i,w=>if w.1=0 then [] else if (w.1 - 1,subT g w.2 x) ∈ (rchT g l).headD [] then i :: partT g l (i+1) (w.1 - 1,subT g w.2 x) else partT g l (i+1) w
theorem partT_zero (g:Gr) (l:List El) (i:Nat) (w:Wt) (h:w.1=0):partT g l i w=[]:=by
  cases l with
  | nil=>rfl
  | cons x l=>simp only [partT,h,if_true]
theorem sub_add {g:Gr} (hg:grOk g) {x u:El} (hx:elOk g x) (hu:elOk g u):subT g (addT g u x) x=u:=by
  obtain ⟨m0,m1,sz⟩:=g
  obtain ⟨⟨g1,g2⟩,g3,g4⟩:=hg
  obtain ⟨x0,x1⟩:=x
  obtain ⟨u0,u1⟩:=u
  obtain ⟨⟨a1,a2⟩,a3,a4⟩:=hx
  obtain ⟨⟨b1,b2⟩,b3,b4⟩:=hu
  simp only at g1 g2 g3 g4 a1 a2 a3 a4 b1 b2 b3 b4
  have key:∀ (m a b:Int),0 ≤ a → a < m → 0 ≤ b → b < m → ((b+a) % m - a+m) % m=b:=by
    intro m a b h1 h2 h3 h4
    have e:((b+a) % m - a+m) % m=(b+m) % m:=by
      rw [show (b+a) % m - a+m=(b+a) % m+(m - a) by omega,Int.emod_add_emod]
      congr 1; omega
    rw [e,Int.add_emod_right]
    exact Int.emod_eq_of_lt h3 h4
  simp only [subT,addT]
  rw [key m0 x0 u0 a1 a2 b1 b2,key m1 x1 u1 a3 a4 b3 b4]
theorem part_next {g:Gr} (hg:grOk g) {x:El} {l:List El} (hx:elOk g x) {w:Wt} (h:w ∈ (rchT g (x :: l)).headD []) :
    (w.1 - 1,subT g w.2 x) ∈ (rchT g l).headD [] ∨ w ∈ (rchT g l).headD []:=by
  have h':w ∈ rchStep g x ((rchT g l).headD []):=h
  rw [mem_step] at h'
  obtain ⟨u,h1,h2⟩:=h'
  rcases h2 with rfl | rfl
  · exact .inr h1
  · refine .inl ?_
    have ho:=(head_ok hg l u h1).1
    have:((rchW g x u).1 - 1,subT g (rchW g x u).2 x)=u:=by
      refine Prod.ext ?_ ?_
      · show u.1+1 - 1=u.1; omega
      · exact sub_add hg hx ho
    rw [this]; exact h1
end Go.Proofs.Ytaibmipamkaljaa
end
section
open Go Go.HL
namespace Go.Proofs.Ytaibmipamkaljaa
set_option maxRecDepth 100000
open Go.Proofs.Try renaming prog → Tp
open Go.HL.HV renaming undef → Ud
noncomputable def B65:Code:=Try.f65.body.getD .skip
abbrev env65 (v0 v1 v2 v3 v4 v5 v6 v8 v9 v10:HV):Env:=[(0,v0),(1,v1),(2,v2),(3,v3),(4,v4),(5,v5),(6,v6),(8,v8),(9,v9),(10,v10)]
theorem pt_a_0 (N:Nat) (i:Int) (w0 w1 w2:Int) (H:Heap) (hb:Nat) {H0:Heap} (g0:some (newV (.agg [.i w0,.i w1,.i w2]) H)=some (.ptr hb 0 0 1,H0)):RT polF 65 (sub [0] B65) [(0,.i i),(1,.agg [.i w0,.i w1,.i w2]),(2,.ptr 0 0 0 1),(3,.ptr 1 0 0 1),(4,.ptr 2 0 0 1),(5,.ptr 4 0 0 1),(6,.ptr 6 0 0 1)] H .normal (env65 (.i i) (.agg [.i w0,.i w1,.i w2]) (.ptr 0 0 0 1) (.ptr 1 0 0 1) (.ptr 2 0 0 1) (.ptr 4 0 0 1) (.ptr 6 0 0 1) (.ptr hb 0 0 1) Ud Ud) H0 :=
  RunsTo.hin N 60 [⟨0,0,.ptr hb 0 0 1,H0⟩] fun kf hk=>⟨_,by kernel_rfl,(oC (g0) .nil)⟩
theorem pt_b_0 (N:Nat) (i:Int) (w0 w1 w2:Int) (H:Heap) (hb:Nat) {y9 y10:HV}(g0:loadV Tp H 3 (.ptr hb 0 0 1)=some (.i w0)) (g1:w0=0):RT polF 65 (sub [1,0] B65) (env65 (.i i) (.agg [.i w0,.i w1,.i w2]) (.ptr 0 0 0 1) (.ptr 1 0 0 1) (.ptr 2 0 0 1) (.ptr 4 0 0 1) (.ptr 6 0 0 1) (.ptr hb 0 0 1) y9 y10) H .ret (env65 (.i i) (.agg [.i w0,.i w1,.i w2]) (.ptr 0 0 0 1) (.ptr 1 0 0 1) (.ptr 2 0 0 1) (.ptr 4 0 0 1) (.ptr 6 0 0 1) (.ptr hb 0 0 1) y9 y10) H :=
  RunsTo.hin N 60 [⟨1,1,.i w0,H⟩,⟨1,2,.bool true,H⟩] fun kf hk=>⟨_,by kernel_rfl,(oP H g0 (oB H (decide_eq_true g1) .nil))⟩
theorem pt_b_1 (N:Nat) (i:Int) (w0 w1 w2:Int) (H:Heap) (hb:Nat) {y9 y10:HV}(g0:loadV Tp H 3 (.ptr hb 0 0 1)=some (.i w0)) (g1:¬ (w0=0)):RT polF 65 (sub [1,0] B65) (env65 (.i i) (.agg [.i w0,.i w1,.i w2]) (.ptr 0 0 0 1) (.ptr 1 0 0 1) (.ptr 2 0 0 1) (.ptr 4 0 0 1) (.ptr 6 0 0 1) (.ptr hb 0 0 1) y9 y10) H .normal (env65 (.i i) (.agg [.i w0,.i w1,.i w2]) (.ptr 0 0 0 1) (.ptr 1 0 0 1) (.ptr 2 0 0 1) (.ptr 4 0 0 1) (.ptr 6 0 0 1) (.ptr hb 0 0 1) y9 y10) H :=
  RunsTo.hin N 60 [⟨1,1,.i w0,H⟩,⟨1,2,.bool false,H⟩] fun kf hk=>⟨_,by kernel_rfl,(oP H g0 (oB H (decide_eq_false g1) .nil))⟩
theorem pt_c_0 (N:Nat) (i:Int) (w0 w1 w2:Int) (H:Heap) (hb:Nat) {y9 y10:HV}:RT polF 65 (sub [1,1,0] B65) (env65 (.i i) (.agg [.i w0,.i w1,.i w2]) (.ptr 0 0 0 1) (.ptr 1 0 0 1) (.ptr 2 0 0 1) (.ptr 4 0 0 1) (.ptr 6 0 0 1) (.ptr hb 0 0 1) y9 y10) H .normal (env65 (.i i) (.agg [.i w0,.i w1,.i w2]) (.ptr 0 0 0 1) (.ptr 1 0 0 1) (.ptr 2 0 0 1) (.ptr 4 0 0 1) (.ptr 6 0 0 1) (.ptr hb 0 0 1) (.i i) y10) H :=
  RunsTo.hin N 60 [] fun kf hk=>⟨_,by kernel_rfl,.nil⟩
theorem pt_e_0 (N:Nat) (i:Int) (w0 w1 w2:Int) (H:Heap) (hb j tb:Nat) (m0 m1 sz:Int) (l:List HV) {y10:HV} {x0:Int} {x1:Int} {z0:Int} {z1:Int} {H0:Heap} {H1:Heap} (g0:loadV Tp H 3 (.ptr hb 0 0 1)=some (.i w0)) (g1:loadV Tp H 66 (.ptr 0 0 0 1)=some (.agg [.i m0,.i m1,.i sz])) (g2:loadV Tp H 64 (.ptr hb 0 1 1)=some (.agg [.i w1,.i w2])) (g3:loadV Tp H 67 (.ptr 1 0 0 1)=some (.imm .arg 2 l)) (g4:idxV Tp 67 (.imm .arg 2 l) (.i (j:Int))=some (.vptr (.agg [.i x0,.i x1]))) (g5:∀ kf,callN Tp polF (kf+1) 66 [.agg [.i m0,.i m1,.i sz],.agg [.i w1,.i w2],.agg [.i x0,.i x1]] H=some (.agg [.i z0,.i z1],H)) (g6:some (newV (.agg [.i 0,.i 0,.i 0]) H)=some (.ptr tb 0 0 1,H0)) (g7:storeV Tp H0 72 (.ptr tb 0 0 1) (.agg [.i (IntKind.i64.wrap (w0 - 1)),.i z0,.i z1])=some H1) (gS4:∀ kf,(recL ((loadV Tp H 3 (.ptr hb 0 0 1)).map (fun v=>(v,(H:Heap)))) ((loadV Tp H0 3 (.ptr hb 0 0 1)).map (fun v=>(v,(H0:Heap)))) H H0 && (recL ((loadV Tp H 66 (.ptr 0 0 0 1)).map (fun v=>(v,(H:Heap)))) ((loadV Tp H0 66 (.ptr 0 0 0 1)).map (fun v=>(v,(H0:Heap)))) H H0 && (recL ((loadV Tp H 64 (.ptr hb 0 1 1)).map (fun v=>(v,(H:Heap)))) ((loadV Tp H0 64 (.ptr hb 0 1 1)).map (fun v=>(v,(H0:Heap)))) H H0 && (recL ((loadV Tp H 67 (.ptr 1 0 0 1)).map (fun v=>(v,(H:Heap)))) ((loadV Tp H0 67 (.ptr 1 0 0 1)).map (fun v=>(v,(H0:Heap)))) H H0 && ((same (.agg [.i x0,.i x1]) (.agg [.i x0,.i x1]) && sameH (H:Heap) H && sameH (H0:Heap) H0) && (recL (callN Tp polF (kf+1) 66 [.agg [.i m0,.i m1,.i sz],.agg [.i w1,.i w2],.agg [.i x0,.i x1]] H) (callN Tp polF (kf+1) 66 [.agg [.i m0,.i m1,.i sz],.agg [.i w1,.i w2],.agg [.i x0,.i x1]] H) H H && (recL (callN Tp polF (kf+1) 66 [.agg [.i m0,.i m1,.i sz],.agg [.i w1,.i w2],.agg [.i x0,.i x1]] H) (callN Tp polF (kf+1) 66 [.agg [.i m0,.i m1,.i sz],.agg [.i w1,.i w2],.agg [.i x0,.i x1]] H0) H H0 && true)))))))=true):RT polF 65 (sub [1,1,1,0,0,0,0,0] B65) (env65 (.i i) (.agg [.i w0,.i w1,.i w2]) (.ptr 0 0 0 1) (.ptr 1 0 0 1) (.ptr 2 0 0 1) (.ptr 4 0 0 1) (.ptr 6 0 0 1) (.ptr hb 0 0 1) (.i (j:Int)) y10) H .normal (env65 (.i i) (.agg [.i w0,.i w1,.i w2]) (.ptr 0 0 0 1) (.ptr 1 0 0 1) (.ptr 2 0 0 1) (.ptr 4 0 0 1) (.ptr 6 0 0 1) (.ptr hb 0 0 1) (.i (j:Int)) (.ptr tb 0 0 1)) H1 :=
  RunsTo.hin N 60 [⟨4,1,.i w0,H⟩,⟨4,3,.agg [.i m0,.i m1,.i sz],H⟩,⟨4,5,.agg [.i w1,.i w2],H⟩,⟨4,6,.imm .arg 2 l,H⟩,⟨4,8,.vptr (.agg [.i x0,.i x1]),H⟩,⟨4,10,.agg [.i z0,.i z1],H⟩,⟨4,12,.ptr tb 0 0 1,H0⟩,⟨4,13,.tuple [],H1⟩] fun kf hk=>⟨_,by kernel_rfl,(oC (gS4 kf) (oP H g0 (oP H g1 (oP H g2 (oP H g3 (oP H g4 (oC (g5 kf) (oC (g6) (oS g7 .nil)))))))))⟩
theorem pt_f_0 (N:Nat) (i:Int) (w0 w1 w2:Int) (H:Heap) (hb j tb:Nat) (u0 u1 u2:Int) (rm ks vs:List HV) (n:Nat) {H0:Heap} {H1:Heap} {H2:Heap} (g0:loadV Tp H 69 (.ptr 2 0 0 1)=some (.a rm)) (g1:idxV Tp 69 (.a rm) (.i (IntKind.i64.wrap ((j:Int)+1)))=some (.vptr (.imap .arg ks vs))) (g2:loadV Tp H 72 (.ptr tb 0 0 1)=some (.agg [.i u0,.i u1,.i u2])) (g3:lookV Tp 91 ks vs (.agg [.i u0,.i u1,.i u2]) false=some (.bool true)) (g4:loadV Tp H 22 (.ptr 4 0 0 1)=some (.s 5 n)) (g5:appV H 1 8 (.s 5 n) [.i (j:Int)]=some (.sl 5 0 (n+1) none (n+1) 1,H0)) (g6:storeV Tp H0 22 (.ptr 4 0 0 1) (.sl 5 0 (n+1) none (n+1) 1)=some H1) (g7:loadV Tp H1 90 (.ptr 6 0 0 1)=some (.func 65 [] [.ptr 0 0 0 1,.ptr 1 0 0 1,.ptr 2 0 0 1,.ptr 4 0 0 1,.ptr 6 0 0 1])) (g8:loadV Tp H1 72 (.ptr tb 0 0 1)=some (.agg [.i u0,.i u1,.i u2])) (g9:∀ kf,N ≤ kf → callN Tp polF (kf+1) 65 [.i (IntKind.i64.wrap ((j:Int)+1)),.agg [.i u0,.i u1,.i u2],.ptr 0 0 0 1,.ptr 1 0 0 1,.ptr 2 0 0 1,.ptr 4 0 0 1,.ptr 6 0 0 1] H1=some (.tuple [],H2)):RT polF 65 (sub [1,1,1,0,0,0,0,1] B65) (env65 (.i i) (.agg [.i w0,.i w1,.i w2]) (.ptr 0 0 0 1) (.ptr 1 0 0 1) (.ptr 2 0 0 1) (.ptr 4 0 0 1) (.ptr 6 0 0 1) (.ptr hb 0 0 1) (.i (j:Int)) (.ptr tb 0 0 1)) H .ret (env65 (.i i) (.agg [.i w0,.i w1,.i w2]) (.ptr 0 0 0 1) (.ptr 1 0 0 1) (.ptr 2 0 0 1) (.ptr 4 0 0 1) (.ptr 6 0 0 1) (.ptr hb 0 0 1) (.i (j:Int)) (.ptr tb 0 0 1)) H2 :=
  RunsTo.hin N 60 [⟨5,0,.a rm,H⟩,⟨5,3,.vptr (.imap .arg ks vs),H⟩,⟨5,5,.agg [.i u0,.i u1,.i u2],H⟩,⟨5,6,.bool true,H⟩,⟨6,0,.s 5 n,H⟩,⟨6,3,.sl 5 0 (n+1) none (n+1) 1,H0⟩,⟨6,4,.tuple [],H1⟩,⟨7,0,.func 65 [] [.ptr 0 0 0 1,.ptr 1 0 0 1,.ptr 2 0 0 1,.ptr 4 0 0 1,.ptr 6 0 0 1],H1⟩,⟨7,3,.agg [.i u0,.i u1,.i u2],H1⟩,⟨7,4,.tuple [],H2⟩] fun kf hk=>⟨_,by kernel_rfl,(oP H g0 (oP H g1 (oP H g2 (oP H g3 (oP H g4 (oC (g5) (oS g6 (oP H1 g7 (oP H1 g8 (oC (g9 kf (by omega)) .nil))))))))))⟩
theorem pt_f_1 (N:Nat) (i:Int) (w0 w1 w2:Int) (H:Heap) (hb j tb:Nat) (u0 u1 u2:Int) (rm ks vs:List HV) (n:Nat)(g0:loadV Tp H 69 (.ptr 2 0 0 1)=some (.a rm)) (g1:idxV Tp 69 (.a rm) (.i (IntKind.i64.wrap ((j:Int)+1)))=some (.vptr (.imap .arg ks vs))) (g2:loadV Tp H 72 (.ptr tb 0 0 1)=some (.agg [.i u0,.i u1,.i u2])) (g3:lookV Tp 91 ks vs (.agg [.i u0,.i u1,.i u2]) false=some (.bool false)):RT polF 65 (sub [1,1,1,0,0,0,0,1] B65) (env65 (.i i) (.agg [.i w0,.i w1,.i w2]) (.ptr 0 0 0 1) (.ptr 1 0 0 1) (.ptr 2 0 0 1) (.ptr 4 0 0 1) (.ptr 6 0 0 1) (.ptr hb 0 0 1) (.i (j:Int)) (.ptr tb 0 0 1)) H .normal (env65 (.i i) (.agg [.i w0,.i w1,.i w2]) (.ptr 0 0 0 1) (.ptr 1 0 0 1) (.ptr 2 0 0 1) (.ptr 4 0 0 1) (.ptr 6 0 0 1) (.ptr hb 0 0 1) (.i (j:Int)) (.ptr tb 0 0 1)) H :=
  RunsTo.hin N 60 [⟨5,0,.a rm,H⟩,⟨5,3,.vptr (.imap .arg ks vs),H⟩,⟨5,5,.agg [.i u0,.i u1,.i u2],H⟩,⟨5,6,.bool false,H⟩] fun kf hk=>⟨_,by kernel_rfl,(oP H g0 (oP H g1 (oP H g2 (oP H g3 .nil))))⟩
theorem pt_g_0 (N:Nat) (i:Int) (w0 w1 w2:Int) (H:Heap) (hb j:Nat) {y10:HV}:RT polF 65 (sub [1,1,1,0,0,1] B65) (env65 (.i i) (.agg [.i w0,.i w1,.i w2]) (.ptr 0 0 0 1) (.ptr 1 0 0 1) (.ptr 2 0 0 1) (.ptr 4 0 0 1) (.ptr 6 0 0 1) (.ptr hb 0 0 1) (.i (j:Int)) y10) H .normal (env65 (.i i) (.agg [.i w0,.i w1,.i w2]) (.ptr 0 0 0 1) (.ptr 1 0 0 1) (.ptr 2 0 0 1) (.ptr 4 0 0 1) (.ptr 6 0 0 1) (.ptr hb 0 0 1) (.i (IntKind.i64.wrap ((j:Int)+1))) y10) H :=
  RunsTo.hin N 60 [] fun kf hk=>⟨_,by kernel_rfl,.nil⟩
end Go.Proofs.Ytaibmipamkaljaa
end
section
open Go Go.HL
namespace Go.Proofs.Ytaibmipamkaljaa
open Go.Proofs.Try renaming prog → Tp
open Go.HL.HV renaming undef → Ud
def encA (K:List Wt):HV:=.imap .arg (K.map encW) (K.map fun _=>.bool true)
abbrev bW (w:Wt):Blk:=.arr 3 [encW w] true 0
abbrev fv65:HV:=.func 65 [] [.ptr 0 0 0 1,.ptr 1 0 0 1,.ptr 2 0 0 1,.ptr 4 0 0 1,.ptr 6 0 0 1]
abbrev memP (g:Gr) (l:List El) (w:Wt) (os:List Int) (T:Heap):Heap :=
  bG g :: .arr 1 [.imm .arg 2 (l.map encX)] true 0 :: .arr 1 [.imm .arg 1 ((rchT g l).map encA)] true 0 :: bW w :: .arr 1 [.sl 5 0 os.length none os.length 1] true 6 :: bI os :: .arr 1 [fv65] true 7 :: T
theorem same_encX (x:El):same (encX x) (encX x)=true:=by simp [encX,same,sameL]
theorem same_encA (K:List Wt):same (encA K) (encA K)=true:=by
  have h:=same_mapK K
  simp only [mapK,sameH,beq_self_eq_true,Bool.and_true,Bool.and_eq_true] at h
  simp [encA,same,h.1,h.2]
theorem same_mapL {α:Type} {f:α → HV} (hf:∀ a,same (f a) (f a)=true) (l:List α):sameL (l.map f) (l.map f)=true:=sameL_all fun v hv=>by
  obtain ⟨k,_,rfl⟩:=List.mem_map.1 hv
  exact hf k
theorem same_mem (g:Gr) (l:List El) (w:Wt) (os:List Int) {T:Heap} (hT:sameH T T=true):sameH (memP g l w os T) (memP g l w os T)=true:=by
  refine sameH_cons (by simp [sameH,sameL,same,encG]) (sameH_cons ?_ (sameH_cons ?_ (sameH_cons ?_ (sameH_cons ?_ (sameH_cons ?_ (sameH_cons ?_ hT))))))
  · simp [sameH,sameL,same,same_mapL same_encX]
  · simp [sameH,sameL,same,same_mapL same_encA]
  · simp [sameH,sameL,same_encW]
  · simp [sameH,sameL,same]
  · simp [sameH,same_mapL (f:=encI) (fun a=>by simp [encI,same])]
  · simp [sameH,sameL,same]
theorem same_T {T:Heap} (hT:sameH T T=true) (w:Wt):sameH (T ++ [bW w]) (T ++ [bW w])=true:=by
  rw [sameH_iff] at hT ⊢
  intro B hB
  rcases List.mem_append.1 hB with h | h
  · exact hT B h
  · rw [List.mem_singleton] at h; subst h; simp [sameH,sameL,same_encW]
theorem mxs_T:∀ {T:Heap} (_:mxs T=0) (w:Wt),mxs (T ++ [bW w])=0
  | [],_,w=>rfl
  | b :: T,h,w=>by
    simp only [mxs] at h
    simp only [List.cons_append,mxs,mxs_T (T:=T) (by omega) w]; omega
theorem mxs_mem (g:Gr) (l:List El) (w:Wt) (os:List Int) {T:Heap} (h:mxs T=0):mxs (memP g l w os T) ≤ 7:=by simp only [memP,mxs,Blk.mx,h]; omega
theorem rch_drop (g:Gr):∀ (l:List El) (k:Nat),k ≤ l.length → rchT g (l.drop k)=(rchT g l).drop k
  | l,0,_=>by simp
  | [],k+1,h=>by simp at h
  | x :: l,k+1,h=>by
    simp only [List.drop_succ_cons,rchT]
    exact rch_drop g l k (by simpa using h)
theorem rch_at (g:Gr) {l:List El} {k:Nat} (h:k ≤ l.length):(rchT g l).getD k []=(rchT g (l.drop k)).headD []:=by
  rw [rch_drop g l k h]
  simp [List.getD,List.headD_eq_head?_getD,List.head?_drop]
theorem ixA {g:Gr} {l:List El} {k:Nat} (h:k ≤ l.length):idxV Tp 69 (.imm .arg 1 ((rchT g l).map encA)) (.int .i64 (k:Int))=some (.vptr (encA ((rchT g (l.drop k)).headD []))):=by
  refine idx_imm u69 z91 (by omega) ?_
  rw [Int.toNat_natCast,List.getElem?_map,← rch_at g h]
  have:k < (rchT g l).length:=by rw [rch_len]; omega
  simp [List.getD,List.getElem?_eq_getElem this]
def CallP (g:Gr) (l:List El) (wb:Wt) (d:Nat):Prop:=∀ (i:Nat) (w:Wt) (os:List Int) (T:Heap),i+d=l.length → mxs T=0 → sameH T T=true → w ∈ (rchT g (l.drop i)).headD [] → os.length+d ≤ 1000 →
  CallsTo (P:=Tp) (pol:=polF) 65 [.int .i64 (i:Int),encW w,.ptr 0 0 0 1,.ptr 1 0 0 1,.ptr 2 0 0 1,.ptr 4 0 0 1,.ptr 6 0 0 1] (memP g l wb os T) (.tuple []) (memP g l wb (os ++ (partT g (l.drop i) i w).map fun q=>((q:Nat):Int)) T)
abbrev ptE (i:Int) (w:Wt) (hb:Nat) (v9 v10:HV):Env:=(env65 (.int .i64 i) (encW w) (.ptr 0 0 0 1) (.ptr 1 0 0 1) (.ptr 2 0 0 1) (.ptr 4 0 0 1) (.ptr 6 0 0 1) (.ptr hb 0 0 1) v9 v10)
section
variable {g:Gr} {l:List El} {wb:Wt}
theorem get_last {g:Gr} {l:List El} {wb w:Wt} {os:List Int} {T:Heap}:(memP g l wb os (T ++ [bW w]))[7+T.length]?=some (bW w):=by
  have:memP g l wb os (T ++ [bW w])=memP g l wb os T ++ [bW w]:=rfl
  rw [this,List.getElem?_append_right (by simp only [List.length_cons]; omega)]
  have:7+T.length - (memP g l wb os T).length=0:=by simp only [List.length_cons]; omega
  rw [this]; rfl
theorem ld0 {H:Heap} {b:Nat} {w:Wt} (h:H[b]?=some (bW w)):loadV Tp H 3 (.ptr b 0 0 1)=some (.int .i64 w.1):=load_cell (b:=b) (off:=0) (cs:=[.int .i64 w.1,.int .i64 w.2.1,.int .i64 w.2.2]) h rfl rfl a3 i3 rfl
theorem ld1 {H:Heap} {b:Nat} {w:Wt} (h:H[b]?=some (bW w)):loadV Tp H 64 (.ptr b 0 1 1)=some (encX w.2):=by
  have e:loadV Tp H 64 (.ptr b 0 1 1)=partV Tp 64 [.int .i64 w.1,.int .i64 w.2.1,.int .i64 w.2.2] 1:=by
    simp only [loadV,h,List.length_cons,List.length_nil,if_true]
    show partV Tp 64 (cellsOf (encW w)) 1=_
    simp only [encW,cellsOf]
  rw [e]
  show _=_
  kernel_rfl
theorem pt_loop (hg:grOk g) (hl:∀ x ∈ l,elOk g x) (hll:l.length ≤ 1000) {D:Nat} (IH:∀ d,d < D → CallP g l wb d) {i:Int} {w:Wt} {os:List Int} {T:Heap} (hT:mxs T=0) (hS:sameH T T=true) (hw:w.1 ≠ 0) (ho:os.length+D ≤ 1000) :
    ∀ k j:Nat,j+k=l.length → k ≤ D → w ∈ (rchT g (l.drop j)).headD [] →
    ∃ E T',mxs T'=0∧RT polF 65 (sub [1,1,1,0] B65) (ptE i w (7+T.length) (.int .i64 (j:Int)) Ud) (memP g l wb os (T ++ [bW w])) .ret E (memP g l wb (os ++ (partT g (l.drop j) j w).map fun q=>((q:Nat):Int)) (T ++ T')):=by
  intro k
  induction k with
  | zero =>
    intro j hj hk hm
    have:j=l.length:=by omega
    rw [this,List.drop_length] at hm
    simp [rchT] at hm
    rw [hm] at hw
    exact absurd rfl hw
  | succ k ih =>
    intro j hj hk hm
    have hjl:j < l.length:=by omega
    have hd:l.drop j=l.getD j (0,0) :: l.drop (j+1):=by
      rw [List.drop_eq_getElem_cons hjl]; simp [List.getD,List.getElem?_eq_getElem hjl]
    have hx:elOk g (l.getD j (0,0)):=by
      have:l.getD j (0,0)=l[j]:=by simp [List.getD,List.getElem?_eq_getElem hjl]
      rw [this]; exact hl _ (List.getElem_mem _)
    have hwk:=head_ok hg (l.drop j) w hm
    have hw2:elOk g w.2:=hwk.1
    have hwb:0 ≤ w.1∧w.1 ≤ 1000:=⟨hwk.2.1,by have:=hwk.2.2; rw [List.length_drop] at this; omega⟩
    rw [hd] at hm
    have hn:=part_next hg hx hm
    -- the round's key
    have hH:=get_last (g:=g) (l:=l) (wb:=wb) (w:=w) (os:=os) (T:=T)
    have hS1:=same_T hS w
    have nv:newV (.agg [.int .i64 0,.int .i64 0,.int .i64 0]) (memP g l wb os (T ++ [bW w]))=(.ptr (memP g l wb os (T ++ [bW w])).length 0 0 1,memP g l wb os (T ++ [bW w]) ++ [.arr 3 [.agg [.int .i64 0,.int .i64 0,.int .i64 0]] true 0]):=rfl
    have hS2:sameH (memP g l wb os (T ++ [bW w]) ++ [.arr 3 [.agg [.int .i64 0,.int .i64 0,.int .i64 0]] true 0]) (memP g l wb os (T ++ [bW w]) ++ [.arr 3 [.agg [.int .i64 0,.int .i64 0,.int .i64 0]] true 0])=true:=same_mem g l wb os (same_T hS1 (0,0,0))
    have st:=st_box (memP g l wb os (T ++ [bW w])) (w.1 - 1,subT g w.2 (l.getD j (0,0)))
    have hH':(memP g l wb os (T ++ [bW w]) ++ [.arr 3 [.agg [.int .i64 0,.int .i64 0,.int .i64 0]] true 0])[7+T.length]?=some (bW w):=by
      rw [List.getElem?_append_left (lt_of_get hH)]; exact hH
    have m1:=minus_at (pol':=polF) (g:=g) (by kernel_rfl) hg hw2 hx (memP g l wb os (T ++ [bW w]))
    have m2:=minus_at (pol':=polF) (g:=g) (by kernel_rfl) hg hw2 hx (memP g l wb os (T ++ [bW w]) ++ [.arr 3 [.agg [.int .i64 0,.int .i64 0,.int .i64 0]] true 0])
    have hw1:IntKind.i64.wrap (w.1 - 1)=w.1 - 1:=wrap_id (by omega) (by omega)
    have gg:loadV Tp (memP g l wb os (T ++ [bW w])) 66 (.ptr 0 0 0 1)=some (encG g):=load_agg (b:=0) rfl rfl rfl a66 z66
    have gg':loadV Tp (memP g l wb os (T ++ [bW w]) ++ [.arr 3 [.agg [.int .i64 0,.int .i64 0,.int .i64 0]] true 0]) 66 (.ptr 0 0 0 1)=some (encG g):=load_agg (b:=0) rfl rfl rfl a66 z66
    have gl:loadV Tp (memP g l wb os (T ++ [bW w])) 67 (.ptr 1 0 0 1)=some (.imm .arg 2 (l.map encX)):=by kernel_rfl
    have gl':loadV Tp (memP g l wb os (T ++ [bW w]) ++ [.arr 3 [.agg [.int .i64 0,.int .i64 0,.int .i64 0]] true 0]) 67 (.ptr 1 0 0 1)=some (.imm .arg 2 (l.map encX)):=by kernel_rfl
    have e:=pt_e_0 0 i w.1 w.2.1 w.2.2 (memP g l wb os (T ++ [bW w])) (7+T.length) j (memP g l wb os (T ++ [bW w])).length g.1 g.2.1 g.2.2 (l.map encX) (y10:=Ud)
      (x0:=(l.getD j (0,0)).1) (x1:=(l.getD j (0,0)).2) (z0:=(subT g w.2 (l.getD j (0,0))).1) (z1:=(subT g w.2 (l.getD j (0,0))).2) (H0:=memP g l wb os (T ++ [bW w]) ++ [.arr 3 [.agg [.int .i64 0,.int .i64 0,.int .i64 0]] true 0]) (H1:=memP g l wb os (T ++ [bW w]) ++ [bW (w.1 - 1,subT g w.2 (l.getD j (0,0)))])
      (ld0 hH) gg (ld1 hH) gl (gX hjl) m1 (by rw [nv]) (by rw [hw1]; exact st) (fun kf=>by
        have r1:=m1 kf
        have r2:=m2 kf
        have q:=same_encX (subT g w.2 (l.getD j (0,0)))
        have q1:=same_encX w.2
        have q2:=same_mapL same_encX l
        have q3:same (encG g) (encG g)=true:=by simp [encG,same,sameL]
        have q4:=same_encX (l.getD j (0,0))
        have t1:=same_mem g l wb os hS1
        simp only [encG,encX] at r1 r2 q q1 q3 q4 gg gg'
        have k1:=ld1 hH
        have k2:=ld1 hH'
        simp only [encX] at k1 k2
        simp only [recL,ld0 hH,ld0 hH',gg,gg',k1,k2,gl,gl',r1,r2,Option.map,t1,hS2,q,q1,q2,q3,q4,same,sameL,beq_self_eq_true,Bool.and_self])
    have hM:memP g l wb os (T ++ [bW w]) ++ [bW (w.1 - 1,subT g w.2 (l.getD j (0,0)))]=memP g l wb os (T ++ [bW w] ++ [bW (w.1 - 1,subT g w.2 (l.getD j (0,0)))]):=rfl
    rw [hM] at e
    have hlen:(memP g l wb os (T ++ [bW w])).length=7+(T ++ [bW w]).length:=by simp only [List.length_cons]; omega
    have hK:=get_last (g:=g) (l:=l) (wb:=wb) (w:=(w.1 - 1,subT g w.2 (l.getD j (0,0)))) (os:=os) (T:=T ++ [bW w])
    rw [← hlen] at hK
    have gR:loadV Tp (memP g l wb os (T ++ [bW w] ++ [bW (w.1 - 1,subT g w.2 (l.getD j (0,0)))])) 69 (.ptr 2 0 0 1)=some (.imm .arg 1 ((rchT g l).map encA)):=by kernel_rfl
    have lk:=look_k keyW ((rchT g (l.drop (j+1))).headD []) (w.1 - 1,subT g w.2 (l.getD j (0,0)))
    have ix:=ixA (g:=g) (l:=l) (k:=j+1) (by omega)
    have ws:IntKind.i64.wrap ((j:Int)+1)=((j+1:Nat):Int):=wrap_succ (by omega)
    by_cases c:(w.1 - 1,subT g w.2 (l.getD j (0,0))) ∈ (rchT g (l.drop (j+1))).headD []
    · have cal:=IH k (by omega) (j+1) (w.1 - 1,subT g w.2 (l.getD j (0,0))) (os ++ [(j:Int)]) (T ++ [bW w] ++ [bW (w.1 - 1,subT g w.2 (l.getD j (0,0)))]) (by omega) (mxs_T (mxs_T hT _) _) (same_T hS1 _) c (by simp; omega)
      obtain ⟨N,cal⟩:=CallsTo.from cal
      simp only [c,decide_true] at lk
      have hK2:=get_last (g:=g) (l:=l) (wb:=wb) (w:=(w.1 - 1,subT g w.2 (l.getD j (0,0)))) (os:=os ++ [(j:Int)]) (T:=T ++ [bW w])
      rw [← hlen] at hK2
      have ap:=app_ints (H:=memP g l wb os (T ++ [bW w] ++ [bW (w.1 - 1,subT g w.2 (l.getD j (0,0)))])) (b:=5) (o:=os) (xs:=[(j:Int)]) rfl (by simp; omega) (by simp)
      have s:=pt_f_0 N i w.1 w.2.1 w.2.2 (memP g l wb os (T ++ [bW w] ++ [bW (w.1 - 1,subT g w.2 (l.getD j (0,0)))])) (7+T.length) j (memP g l wb os (T ++ [bW w])).length (w.1 - 1) (subT g w.2 (l.getD j (0,0))).1 (subT g w.2 (l.getD j (0,0))).2 ((rchT g l).map encA) _ _ os.length
        (H0:=(memP g l wb os (T ++ [bW w] ++ [bW (w.1 - 1,subT g w.2 (l.getD j (0,0)))])).set 5 (bI (os ++ [(j:Int)]))) (H1:=memP g l wb (os ++ [(j:Int)]) (T ++ [bW w] ++ [bW (w.1 - 1,subT g w.2 (l.getD j (0,0)))]))
        gR (by rw [ws]; exact ix) (g72 hK) lk (by kernel_rfl) (ap.trans (by rw [List.length_append]; rfl)) (by simp only [memP,List.length_append,List.length_singleton]; kernel_rfl) (by kernel_rfl) (g72 hK2) (by rw [ws]; exact cal)
      have tt:=lpo (sqo (RunsTo.block_ret (i:=1) (c:=sub [1,1,1,0,0,0] B65) (sq (e) (s) (c:=sub [1,1,1,0,0,0,0] B65)) (by kernel_rfl)) (c:=sub [1,1,1,0,0] B65) (b:=sub [1,1,1,0,0,1] B65)) (c:=sub [1,1,1,0] B65)
      rw [List.append_assoc T] at tt
      rw [hd,partT,if_neg hw,if_pos c,List.map_cons,List.append_cons os]
      exact ⟨_,[bW w] ++ [bW (w.1 - 1,subT g w.2 (l.getD j (0,0)))],rfl,tt⟩
    · rcases hn with hn | hn
      · exact absurd hn c
      simp only [c,decide_false] at lk
      have s:=pt_f_1 0 i w.1 w.2.1 w.2.2 (memP g l wb os (T ++ [bW w] ++ [bW (w.1 - 1,subT g w.2 (l.getD j (0,0)))])) (7+T.length) j (memP g l wb os (T ++ [bW w])).length (w.1 - 1) (subT g w.2 (l.getD j (0,0))).1 (subT g w.2 (l.getD j (0,0))).2 ((rchT g l).map encA) _ _ 0
        gR (by rw [ws]; exact ix) (g72 hK) lk
      have s3:=pt_g_0 0 i w.1 w.2.1 w.2.2 (memP g l wb os (T ++ [bW w] ++ [bW (w.1 - 1,subT g w.2 (l.getD j (0,0)))])) (7+T.length) j (y10:=.ptr (memP g l wb os (T ++ [bW w])).length 0 0 1)
      rw [ws] at s3
      obtain ⟨E,T',hT',h⟩:=ih (j+1) (by omega) (by omega) hn
      refine ⟨E,T',hT',?_⟩
      rw [hd,partT,if_neg hw,if_neg c]
      have hgc:gc (memP g l wb os (T ++ [bW w])).length (bndE (ptE i w (7+T.length) (.int .i64 ((j+1:Nat):Int)) Ud)) (memP g l wb os (T ++ [bW w] ++ [bW (w.1 - 1,subT g w.2 (l.getD j (0,0)))]))=memP g l wb os (T ++ [bW w]):=by
        have h1:=mxs_mem g l wb os (mxs_T (mxs_T hT w) (w.1 - 1,subT g w.2 (l.getD j (0,0))))
        have h2:bndE (ptE i w (7+T.length) (.int .i64 ((j+1:Nat):Int)) Ud) ≤ 8+T.length:=by
          simp only [bndE,bnd,encW,bndL]; omega
        unfold gc
        have h3:max (memP g l wb os (T ++ [bW w])).length (max (bndE (ptE i w (7+T.length) (.int .i64 ((j+1:Nat):Int)) Ud)) (mxs (memP g l wb os (T ++ [bW w] ++ [bW (w.1 - 1,subT g w.2 (l.getD j (0,0)))]))))=(memP g l wb os (T ++ [bW w])).length:=by
          have:(memP g l wb os (T ++ [bW w])).length=8+T.length:=by simp only [List.length_cons,List.length_append,List.length_nil]; omega
          omega
        rw [h3,← hM,List.take_append_of_le_length (Nat.le_refl _),List.take_length]
      exact lop (sq (RunsTo.block_normal (i:=1) (c:=sub [1,1,1,0,0,0] B65) (sq (e) (s) (c:=sub [1,1,1,0,0,0,0] B65)) (by kernel_rfl)) (s3) (c:=sub [1,1,1,0,0] B65)) hgc (h)
theorem res65:Try.f65.results.toList=[]:=by kernel_rfl
theorem gc_mem {g:Gr} {l:List El} {wb:Wt} {os os':List Int} {T T':Heap} (hT:mxs T=0) (hT':mxs T'=0):gc (memP g l wb os T).length 0 (memP g l wb os' (T ++ T'))=memP g l wb os' T:=by
  have hm:mxs (T ++ T')=0:=by
    clear os os'
    induction T with
    | nil=>exact hT'
    | cons b T ih=>simp only [mxs] at hT; simp only [List.cons_append,mxs,ih (by omega)]; omega
  have h1:=mxs_mem g l wb os' hm
  have h2:(memP g l wb os T).length=(memP g l wb os' T).length:=rfl
  have h3:max (memP g l wb os T).length (max 0 (mxs (memP g l wb os' (T ++ T'))))=(memP g l wb os' T).length:=by
    rw [h2]
    have:(memP g l wb os' T).length=7+T.length:=by simp only [List.length_cons]; omega
    omega
  unfold gc
  rw [h3,show memP g l wb os' (T ++ T')=memP g l wb os' T ++ T' from rfl,List.take_append_of_le_length (Nat.le_refl _),List.take_length]
theorem pt_call (hg:grOk g) (hl:∀ x ∈ l,elOk g x) (hll:l.length ≤ 1000):∀ d,CallP g l wb d:=by
  intro d
  induction d using Nat.strongRecOn with
  | ind d IH =>
    intro i w os T hi hT hS hm ho
    have nv:newV (encW w) (memP g l wb os T)=(.ptr (memP g l wb os T).length 0 0 1,memP g l wb os T ++ [bW w]):=rfl
    have hlen:(memP g l wb os T).length=7+T.length:=by simp only [List.length_cons]; omega
    rw [hlen] at nv
    have hM:memP g l wb os T ++ [bW w]=memP g l wb os (T ++ [bW w]):=rfl
    rw [hM] at nv
    have a:=pt_a_0 0 (i:Int) w.1 w.2.1 w.2.2 (memP g l wb os T) (7+T.length) (H0:=memP g l wb os (T ++ [bW w])) (congrArg some nv)
    have hH:=get_last (g:=g) (l:=l) (wb:=wb) (w:=w) (os:=os) (T:=T)
    by_cases c:w.1=0
    · have b:=pt_b_0 0 (i:Int) w.1 w.2.1 w.2.2 (memP g l wb os (T ++ [bW w])) (7+T.length) (y9:=Ud) (y10:=Ud) (ld0 hH) c
      have t:=sq (a) (sqo (b) (c:=sub [1] B65) (b:=sub [1,1] B65)) (c:=B65)
      have cl:=CallsTo.shared (pol:=polF) (g:=65) (fn:=Try.f65) (cd:=B65) (args:=[.int .i64 (i:Int),encW w,.ptr 0 0 0 1,.ptr 1 0 0 1,.ptr 2 0 0 1,.ptr 4 0 0 1,.ptr 6 0 0 1]) (by kernel_rfl) (by kernel_rfl) (by kernel_rfl) (by kernel_rfl) t (by kernel_rfl) (by simp) (v:=.tuple []) (by simp only [resultsV,res65]; rfl)
      have e:=gc_mem (g:=g) (l:=l) (wb:=wb) (os:=os) (os':=os) hT (T':=[bW w]) rfl
      have e2:bnd (.tuple [])=0:=rfl
      rw [e2,e] at cl
      rw [partT_zero g _ i w c,List.map_nil,List.append_nil]
      exact cl
    · have b:=pt_b_1 0 (i:Int) w.1 w.2.1 w.2.2 (memP g l wb os (T ++ [bW w])) (7+T.length) (y9:=Ud) (y10:=Ud) (ld0 hH) c
      have c1:=pt_c_0 0 (i:Int) w.1 w.2.1 w.2.2 (memP g l wb os (T ++ [bW w])) (7+T.length) (y9:=Ud) (y10:=Ud)
      obtain ⟨E,T',hT',lp⟩:=pt_loop hg hl hll IH (i:=(i:Int)) hT hS c ho d i hi (Nat.le_refl _) hm
      have t:=sq (a) (sq (b) (sq (c1) (RunsTo.block_ret (i:=0) (c:=sub [1,1,1] B65) (lp) (by kernel_rfl)) (c:=sub [1,1] B65)) (c:=sub [1] B65)) (c:=B65)
      have cl:=CallsTo.shared (pol:=polF) (g:=65) (fn:=Try.f65) (cd:=B65) (args:=[.int .i64 (i:Int),encW w,.ptr 0 0 0 1,.ptr 1 0 0 1,.ptr 2 0 0 1,.ptr 4 0 0 1,.ptr 6 0 0 1]) (by kernel_rfl) (by kernel_rfl) (by kernel_rfl) (by kernel_rfl) t (by kernel_rfl) (by simp) (v:=.tuple []) (by simp only [resultsV,res65]; rfl)
      have e:=gc_mem (g:=g) (l:=l) (wb:=wb) (os:=os) (os':=os ++ (partT g (l.drop i) i w).map fun q=>((q:Nat):Int)) hT hT'
      have e2:bnd (.tuple [])=0:=rfl
      rw [e2,e] at cl
      exact cl
end
end Go.Proofs.Ytaibmipamkaljaa
end
section
open Go Go.HL
namespace Go.Proofs.Ytaibmipamkaljaa
set_option maxRecDepth 100000
open Go.Proofs.Try renaming prog → Tp
open Go.HL.HV renaming undef → Ud
noncomputable def B48:Code:=Try.f48.body.getD .skip
abbrev env48 (v0 v1 v2 v3 v4 v5 v6 v7 v8 v9 v10:HV):Env:=[(0,v0),(1,v1),(2,v2),(3,v3),(4,v4),(5,v5),(6,v6),(7,v7),(8,v8),(9,v9),(10,v10)]
theorem pp_a_0 (N:Nat) (m0 m1 sz:Int) (l rm:List HV) (w0 w1 w2:Int) (n:Nat)  {H0:Heap} (g0:∀ kf,N ≤ kf → callN Tp polF (kf+1) 65 [.i 0,.agg [.i w0,.i w1,.i w2],.ptr 0 0 0 1,.ptr 1 0 0 1,.ptr 2 0 0 1,.ptr 4 0 0 1,.ptr 6 0 0 1] [.arr 3 [.agg [.i m0,.i m1,.i sz]] true 0,.arr 1 [.imm .arg 2 l] true 0,.arr 1 [.a rm] true 0,.arr 3 [.agg [.i w0,.i w1,.i w2]] true 0,.arr 1 [.s 5 0] true 6,.b [],.arr 1 [.func 65 [] [.ptr 0 0 0 1,.ptr 1 0 0 1,.ptr 2 0 0 1,.ptr 4 0 0 1,.ptr 6 0 0 1]] true 7]=some (.tuple [],H0)) (g1:loadV Tp H0 22 (.ptr 4 0 0 1)=some (.s 5 n)):RT polF 48 (sub [] B48) [(0,.agg [.i m0,.i m1,.i sz]),(1,.imm .arg 2 l),(2,.a rm),(3,.agg [.i w0,.i w1,.i w2])] [] .ret (env48 (.agg [.i m0,.i m1,.i sz]) (.imm .arg 2 l) (.a rm) (.agg [.i w0,.i w1,.i w2]) (.ptr 0 0 0 1) (.ptr 1 0 0 1) (.ptr 2 0 0 1) (.ptr 3 0 0 1) (.s 5 n) (.ptr 4 0 0 1) (.ptr 6 0 0 1)) H0 :=
  RunsTo.hin N 60 [⟨4,2,.tuple [],H0⟩,⟨5,0,.s 5 n,H0⟩] fun kf hk=>⟨_,by kernel_rfl,(oC (g0 kf (by omega)) (oP H0 g1 .nil))⟩
end Go.Proofs.Ytaibmipamkaljaa
end
section
open Go Go.HL
namespace Go.Proofs.Ytaibmipamkaljaa
open Go.Proofs.Try renaming prog → Tp
open Go.HL.HV renaming undef → Ud
def decA:HV → Option (List Wt)
  | .imap .arg ks vs=>(match mapO decW ks with | some K=>if vs.all (fun v=>match v with | .bool true=>true | _=>false)=true∧vs.length=K.length then some K else none | none=>none)
  | _=>none
theorem trues_inv {α:Type}:∀ (vs:List HV) (K:List α),vs.all (fun v=>match v with | .bool true=>true | _=>false)=true → vs.length=K.length → vs=K.map fun _=>.bool true
  | [],[],_,_=>rfl
  | v :: vs,k :: K,h,hl=>by
    simp only [List.all_cons,Bool.and_eq_true] at h
    rw [List.map_cons,trues_inv vs K h.2 (by simpa using hl)]
    congr 1
    have:=h.1
    split at this
    · rfl
    · cases this
  | [],k :: K,_,hl=>by simp at hl
  | v :: vs,[],_,hl=>by simp at hl
theorem decA_inv (b:HV) (K:List Wt) (h:decA b=some K):b=encA K:=by
  unfold decA at h
  split at h
  · rename_i ks vs
    split at h
    · rename_i K' hk
      split at h
      · rename_i hv
        cases h
        rw [encA,mapO_inv decW_inv hk,← trues_inv vs K hv.1 hv.2]
      · cases h
    · cases h
  · cases h
theorem decA_enc (K:List Wt):decA (encA K)=some K:=by
  have h1:mapO decW (K.map encW)=some K:=mapO_map decW_enc K
  have h2:((K.map fun _=>HV.bool true).all (fun v=>match v with | .bool true=>true | _=>false))=true:=by simp [List.all_eq_true]
  simp only [decA,encA,h1,h2,List.length_map,and_self,if_true]
def partI (g:Gr) (l:List El) (w:Wt):List Int:=(partT g l 0 w).map fun q=>((q:Nat):Int)
def part48:List HV → Option HV
  | [a,.imm .arg 2 la,.imm .arg 1 rm,d]=>(match decG a,mapO decX la,mapO decA rm,decW d with
    | some g,some l,some R,some w=>if (grOk g∧allEl g l=true∧l.length ≤ 1000)∧R=rchT g l∧w ∈ (rchT g l).headD [] then some (.own 1 ((partI g l w).map encI)) else none
    | _,_,_,_=>none)
  | _=>none
theorem part_inv {args:List HV} {res:HV} (h:part48 args=some res):∃ g l w,args=[encG g,.imm .arg 2 (l.map encX),.imm .arg 1 ((rchT g l).map encA),encW w]∧(grOk g∧allEl g l=true∧l.length ≤ 1000)∧w ∈ (rchT g l).headD []∧res=.own 1 ((partI g l w).map encI):=by
  unfold part48 at h
  split at h
  · rename_i a la rm d
    split at h
    · rename_i g l R w hg hl hR hw
      split at h
      · rename_i hk
        cases h
        obtain ⟨h1,h2,h3⟩:=hk
        refine ⟨g,l,w,?_,h1,h3,rfl⟩
        rw [decG_inv _ _ hg,mapO_inv decX_inv hl,mapO_inv decA_inv hR,decW_inv _ _ hw,h2]
      · cases h
    · cases h
  · cases h
theorem res48:Try.f48.results.toList=[.tmp 8]:=by kernel_rfl
theorem part_ok:PrimOk Tp 48 part48:=by
  refine primOk_pure (pol:=polF) (fn:=Try.f48) (cd:=B48) follows_mixed soundF (by kernel_rfl) (by kernel_rfl) (fnok polF.prim _ _ (by kernel_rfl)) (by kernel_rfl) ?_
  intro args res h
  obtain ⟨g,l,w,rfl,⟨hg,hl,hll⟩,hw,rfl⟩:=part_inv h
  rw [allEl_iff] at hl
  have c:=pt_call (wb:=w) hg hl hll l.length 0 w [] [] (by omega) rfl rfl (by simpa using hw) (by simpa using hll)
  obtain ⟨N,c⟩:=CallsTo.from c
  rw [List.drop_zero,List.nil_append] at c
  have s:=pp_a_0 N g.1 g.2.1 g.2.2 (l.map encX) ((rchT g l).map encA) w.1 w.2.1 w.2.2 (partI g l w).length (H0:=memP g l w (partI g l w) []) c (by kernel_rfl)
  exact ⟨_,_,_,.sl 5 0 (partI g l w).length none (partI g l w).length 1,s,by simp,by simp only [resultsV,res48]; rfl,res_li (o:=partI g l w) rfl rfl⟩
end Go.Proofs.Ytaibmipamkaljaa
end
section
open Go Go.HL
namespace Go.Proofs.Ytaibmipamkaljaa
open Go.Proofs.Try renaming prog → Tp
open Go.HL.HV renaming undef → Ud
def polH:Pol:={ pol with prim:=fun g=>if g == 49 then some reached49 else if g == 48 then some part48 else none }
theorem soundH (n:Nat):CallSound Tp (callN Tp polH n):=sound_prim _ (fun g f h=>by
  split at h
  · rename_i hg; cases h; rw [eq_of_beq hg]; exact reached_ok
  split at h
  · rename_i hg; cases h; rw [eq_of_beq hg]; exact part_ok
  · cases h) n
theorem argP_X:∀ (l:List El),argPL (l.map encX)=some (l.map encX)
  | []=>rfl
  | e :: l=>by simp only [List.map_cons,argPL,argP_X l,encX,argP]
theorem argP_W:∀ (l:List Wt),argPL (l.map encW)=some (l.map encW)
  | []=>rfl
  | e :: l=>by simp only [List.map_cons,argPL,argP_W l,encW,argP]
theorem argP_T {α:Type}:∀ (l:List α),argPL (l.map fun _=>HV.bool true)=some (l.map fun _=>HV.bool true)
  | []=>rfl
  | e :: l=>by simp only [List.map_cons,argPL,argP_T l,argP]
theorem arg_X (H:Heap) (l:List El):toArg H 6 (.imm .arg 2 (l.map encX))=some (.imm .arg 2 (l.map encX)):=by
  show argP (.imm .arg 2 (l.map encX))=_
  simp only [argP,argP_X]
theorem arg_M {H:Heap} {R:List (List Wt)} {b m mx:Nat} (hm:R.length=m) (hb:H[b]?=some (.arr 1 (R.map encM) true mx)):toArg H 6 (.sl b 0 m none m 1)=some (.imm .arg 1 (R.map encA)):=by
  subst hm
  have e:toArg H 6 (.sl b 0 R.length none R.length 1)=if R.length=0 then some (.imm .arg 1 []) else match view H b 0 R.length R.length 1 with | some l=>(match mapO (toArg H 5) l with | some l=>some (.imm .arg 1 l) | none=>none) | none=>none:=rfl
  rw [e]
  split
  · rename_i h0
    rw [List.length_eq_zero_iff.1 h0]; rfl
  · have hv:view H b 0 R.length R.length 1=some (R.map encM):=by
      simp only [view,hb,List.length_map]
      rw [if_pos ⟨trivial,by omega,trivial⟩]
      simp [List.take_of_length_le]
    have hm:∀ (R:List (List Wt)),mapO (toArg H 5) (R.map encM)=some (R.map encA):=by
      intro R
      induction R with
      | nil=>rfl
      | cons r R ih =>
        have e:toArg H 5 (encM r)=some (encA r):=by
          show argP (.imap .own (r.map encW) (r.map fun _=>HV.bool true))=_
          simp only [argP,argP_W,argP_T]
          rfl
        simp only [List.map_cons,mapO,e,ih]
    rw [hv]
    simp only [hm]
theorem arg_Xs {H:Heap} {l:List El} {b m:Nat} {cap:Option Nat} (hm:l.length=m) (hb:H[b]?=some (bX l)):toArg H 6 (.sl b 0 m cap m 2)=some (.imm .arg 2 (l.map encX)):=by
  subst hm
  have e:toArg H 6 (.sl b 0 l.length cap l.length 2)=if l.length=0 then some (.imm .arg 2 []) else match view H b 0 l.length l.length 2 with | some l=>(match mapO (toArg H 5) l with | some l=>some (.imm .arg 2 l) | none=>none) | none=>none:=rfl
  rw [e]
  split
  · rename_i h0
    rw [List.length_eq_zero_iff.1 h0]; rfl
  · have hv:view H b 0 l.length l.length 2=some (l.map encX):=by
      simp only [view,hb,List.length_map]
      rw [if_pos ⟨trivial,by omega,trivial⟩]
      simp [List.take_of_length_le]
    have hm:mapO (toArg H 5) (l.map encX)=some (l.map encX):=mapO_self (f:=toArg H 5) (g:=encX) (fun _=>rfl) l
    rw [hv]
    simp only [hm]
theorem encM_any (l:List (List Wt)):(l.map encM).any isOwn=false:=by
  rw [List.any_eq_false]
  intro v hv
  obtain ⟨k,_,rfl⟩:=List.mem_map.1 hv
  simp [encM,isOwn]
theorem encX_any (l:List El):(l.map encX).any isOwn=false:=by
  rw [List.any_eq_false]
  intro v hv
  obtain ⟨k,_,rfl⟩:=List.mem_map.1 hv
  simp [encX,isOwn]
theorem recv_M (l:List (List Wt)) (H:Heap):recv (.own 1 (l.map encM)) H=(.sl H.length 0 l.length none l.length 1,H ++ [.arr 1 (l.map encM) true 0]):=by
  simp only [recv,recvVal,recvCell,encM_any,List.length_map]
  rfl
theorem reached_at {g:Gr} {l:List El} {pol':Pol} (hp:pol'.prim 49=some reached49) (hg:grOk g) (hl:allEl g l=true) (hll:l.length ≤ 1000) (H:Heap):∀ k,callN Tp pol' (k+1) 49 [encG g,.imm .arg 2 (l.map encX)] H=some (.sl H.length 0 (l.length+1) none (l.length+1) 1,H ++ [.arr 1 ((rchT g l).map encM) true 0]):=fun k=>by
  have hG:toArg H 6 (encG g)=some (encG g):=rfl
  have hX:=arg_X H l
  have hd:mapO decX (l.map encX)=some l:=mapO_map decX_enc l
  rw [prim_call (pol:=pol') (g:=49) (F:=reached49) hp (rs:=[encG g,.imm .arg 2 (l.map encX)]) (by simp only [mapO,hG,hX]) (res:=.own 1 ((rchT g l).map encM)) (by simp only [reached49,glF,decG_enc,hd]; rw [if_pos ⟨hg,hl,hll⟩]),recv_M,rch_len]
theorem part_at {g:Gr} {l:List El} {w:Wt} {pol':Pol} (hp:pol'.prim 48=some part48) (hg:grOk g) (hl:allEl g l=true) (hll:l.length ≤ 1000) (hw:w ∈ (rchT g l).headD []) {H:Heap} {b mx:Nat} (hb:H[b]?=some (.arr 1 ((rchT g l).map encM) true mx)) :
    ∀ k,callN Tp pol' (k+1) 48 [encG g,.imm .arg 2 (l.map encX),.sl b 0 (l.length+1) none (l.length+1) 1,encW w] H=some (.sl H.length 0 (partI g l w).length none (partI g l w).length 1,H ++ [bI (partI g l w)]):=fun k=>by
  have hG:toArg H 6 (encG g)=some (encG g):=rfl
  have hW:toArg H 6 (encW w)=some (encW w):=rfl
  have hX:=arg_X H l
  have hM:=arg_M (m:=l.length+1) (rch_len g l) hb
  have hd:mapO decX (l.map encX)=some l:=mapO_map decX_enc l
  have hd2:mapO decA ((rchT g l).map encA)=some (rchT g l):=mapO_map decA_enc _
  rw [prim_call (pol:=pol') (g:=48) (F:=part48) hp (rs:=[encG g,.imm .arg 2 (l.map encX),.imm .arg 1 ((rchT g l).map encA),encW w]) (by simp only [mapO,hG,hX,hM,hW]) (res:=.own 1 ((partI g l w).map encI)) (by simp only [part48,decG_enc,hd,hd2,decW_enc]; rw [if_pos ⟨⟨hg,hl,hll⟩,trivial,hw⟩]),recv_ints]
theorem toRes_li1 {H:Heap} {b k:Nat} {cap:Option Nat} {o:List Int} (hb:H[b]?=some (bI o)) (hk:o.length=k) (x:Int):toRes H false (.tuple [.sl b 0 k cap k 1,.int .i64 x])=some (.tuple [.own 1 (o.map encI),.int .i64 x]):=by
  have hr:=resCell_sl (H:=H) (no:=[b]) (b:=b) (k:=1) (m:=k) (cap:=cap) (els:=o.map encI) hb (by simpa using hk) (mapO_self (fun r=>frz_int 4 r) _)
  have ho:ownedAll H false (.tuple [.sl b 0 k cap k 1,.int .i64 x])=[b]:=by simp [ownedAll,cellsOf,owned,hb]
  simp only [toRes,ho,List.nodup_cons,List.not_mem_nil,not_false_eq_true,List.nodup_nil,and_self,if_true,mapO,resVal,hr]
  rfl
def shT (g:Gr) (l:List El) (t:El):Nat → Nat → Option (List Int)
  | 0,_=>none
  | f+1,j=>if ((j:Int),t) ∈ (rchT g l).headD [] then some (partI g l ((j:Int),t)) else shT g l t f (j+1)
def shR (r:Option (List Int)):HV:=match r with | some p=>.tuple [.own 1 (p.map encI),.int .i64 0] | none=>.tuple [.own 1 [],.int .i64 6]
def short57:List HV → Option HV
  | [a,.imm .arg 2 la,b,.int .i64 k]=>(match decG a,mapO decX la,decX b with
    | some g,some l,some t=>if (grOk g∧allEl g l=true∧l.length ≤ 1000)∧0 ≤ k∧k ≤ 1001 then some (shR (shT g l t (l.length+1 - k.toNat) k.toNat)) else none
    | _,_,_=>none)
  | _=>none
theorem short_inv {args:List HV} {res:HV} (h:short57 args=some res):∃ g l t,∃ k:Nat,args=[encG g,.imm .arg 2 (l.map encX),encX t,.int .i64 (k:Int)]∧(grOk g∧allEl g l=true∧l.length ≤ 1000)∧k ≤ 1001∧res=shR (shT g l t (l.length+1 - k) k):=by
  unfold short57 at h
  split at h
  · rename_i a la b k
    split at h
    · rename_i g l t hg hl ht
      split at h
      · rename_i hk
        cases h
        obtain ⟨h1,h2,h3⟩:=hk
        refine ⟨g,l,t,k.toNat,?_,h1,by omega,rfl⟩
        rw [decG_inv _ _ hg,mapO_inv decX_inv hl,decX_inv _ _ ht,Int.toNat_of_nonneg h2]
      · cases h
    · cases h
  · cases h
end Go.Proofs.Ytaibmipamkaljaa
end
section
open Go Go.HL
namespace Go.Proofs.Ytaibmipamkaljaa
set_option maxRecDepth 100000
open Go.Proofs.Try renaming prog → Tp
open Go.HL.HV renaming undef → Ud
noncomputable def B57:Code:=Try.f57.body.getD .skip
abbrev env57 (v0 v1 v2 v3 v4 v6 v8 v9 v10 v11 v12:HV):Env:=[(0,v0),(1,v1),(2,v2),(3,v3),(4,v4),(6,v6),(8,v8),(9,v9),(10,v10),(11,v11),(12,v12)]
theorem sh_a_0 (m0 m1 sz:Int) (l:List HV) (t0 t1 k:Int) :RT polH 57 (sub [0] B57) [(0,.agg [.i m0,.i m1,.i sz]),(1,.imm .arg 2 l),(2,.agg [.i t0,.i t1]),(3,.i k)] [] .normal (env57 (.agg [.i m0,.i m1,.i sz]) (.imm .arg 2 l) (.agg [.i t0,.i t1]) (.i k) (.ptr 0 0 0 1) (.ptr 1 0 0 1) (.imm .lit 1 []) (.i 0) Ud Ud Ud) [.arr 3 [.agg [.i m0,.i m1,.i sz]] true 0,.arr 2 [.agg [.i t0,.i t1]] true 0] :=
  RunsTo.hin 0 60 [] fun kf hk=>⟨_,by kernel_rfl,.nil⟩
theorem sh_b_0 (m0 m1 sz:Int) (l:List HV) (t0 t1 k:Int) (n:Nat) (rm:List HV) {y10 y11 y12:HV}(g0:∀ kf,callN Tp polH (kf+1) 49 [.agg [.i m0,.i m1,.i sz],.imm .arg 2 l] [.arr 3 [.agg [.i m0,.i m1,.i sz]] true 0,.arr 2 [.agg [.i t0,.i t1]] true 0]=some (.s 2 n,[.arr 3 [.agg [.i m0,.i m1,.i sz]] true 0,.arr 2 [.agg [.i t0,.i t1]] true 0,.b rm])):RT polH 57 (sub [1,0] B57) (env57 (.agg [.i m0,.i m1,.i sz]) (.imm .arg 2 l) (.agg [.i t0,.i t1]) (.i k) (.ptr 0 0 0 1) (.ptr 1 0 0 1) (.imm .lit 1 []) (.i 0) y10 y11 y12) [.arr 3 [.agg [.i m0,.i m1,.i sz]] true 0,.arr 2 [.agg [.i t0,.i t1]] true 0] .normal (env57 (.agg [.i m0,.i m1,.i sz]) (.imm .arg 2 l) (.agg [.i t0,.i t1]) (.i k) (.ptr 0 0 0 1) (.ptr 1 0 0 1) (.imm .lit 1 []) (.i 0) (.s 2 n) y11 y12) [.arr 3 [.agg [.i m0,.i m1,.i sz]] true 0,.arr 2 [.agg [.i t0,.i t1]] true 0,.b rm] :=
  RunsTo.hin 0 60 [⟨1,2,.s 2 n,[.arr 3 [.agg [.i m0,.i m1,.i sz]] true 0,.arr 2 [.agg [.i t0,.i t1]] true 0,.b rm]⟩] fun kf hk=>⟨_,by kernel_rfl,(oC (g0 kf) .nil)⟩
theorem sh_c_0 (m0 m1 sz:Int) (l:List HV) (t0 t1 k:Int) (n:Nat) (H:Heap) {y11 y12:HV}:RT polH 57 (sub [1,1,0,0] B57) (env57 (.agg [.i m0,.i m1,.i sz]) (.imm .arg 2 l) (.agg [.i t0,.i t1]) (.i k) (.ptr 0 0 0 1) (.ptr 1 0 0 1) (.imm .lit 1 []) (.i 0) (.s 2 n) y11 y12) H .normal (env57 (.agg [.i m0,.i m1,.i sz]) (.imm .arg 2 l) (.agg [.i t0,.i t1]) (.i k) (.ptr 0 0 0 1) (.ptr 1 0 0 1) (.imm .lit 1 []) (.i 0) (.s 2 n) (.i k) y12) H :=
  RunsTo.hin 0 60 [] fun kf hk=>⟨_,by kernel_rfl,.nil⟩
theorem sh_d_0 (m0 m1 sz:Int) (l:List HV) (t0 t1 k:Int) (n j pn tb:Nat) (ks vs:List HV) (H:Heap) {y12:HV} {H0:Heap} {H1:Heap} {H2:Heap} (g0:(j:Int) ≤ (l.length:Int)) (g1:loadV Tp H 64 (.ptr 1 0 0 1)=some (.agg [.i t0,.i t1])) (g2:some (newV (.agg [.i 0,.i 0,.i 0]) H)=some (.ptr tb 0 0 1,H0)) (g3:storeV Tp H0 72 (.ptr tb 0 0 1) (.agg [.i (j:Int),.i t0,.i t1])=some H1) (g4:idxV Tp 69 (.s 2 n) (.i 0)=some (.ptr 2 0 0 n)) (g5:loadV Tp H1 91 (.ptr 2 0 0 n)=some (.imap .own ks vs)) (g6:loadV Tp H1 72 (.ptr tb 0 0 1)=some (.agg [.i (j:Int),.i t0,.i t1])) (g7:lookV Tp 91 ks vs (.agg [.i (j:Int),.i t0,.i t1]) false=some (.bool true)) (g8:loadV Tp H1 66 (.ptr 0 0 0 1)=some (.agg [.i m0,.i m1,.i sz])) (g9:loadV Tp H1 72 (.ptr tb 0 0 1)=some (.agg [.i (j:Int),.i t0,.i t1])) (g10:∀ kf,callN Tp polH (kf+1) 48 [.agg [.i m0,.i m1,.i sz],.imm .arg 2 l,.s 2 n,.agg [.i (j:Int),.i t0,.i t1]] H1=some (.s 4 pn,H2)):RT polH 57 (sub [1,1,0,1,0,0] B57) (env57 (.agg [.i m0,.i m1,.i sz]) (.imm .arg 2 l) (.agg [.i t0,.i t1]) (.i k) (.ptr 0 0 0 1) (.ptr 1 0 0 1) (.imm .lit 1 []) (.i 0) (.s 2 n) (.i (j:Int)) y12) H .ret (env57 (.agg [.i m0,.i m1,.i sz]) (.imm .arg 2 l) (.agg [.i t0,.i t1]) (.i k) (.ptr 0 0 0 1) (.ptr 1 0 0 1) (.s 4 pn) (.i 0) (.s 2 n) (.i (j:Int)) (.ptr tb 0 0 1)) H2 :=
  RunsTo.hin 0 60 [⟨3,3,.bool true,H⟩,⟨5,1,.agg [.i t0,.i t1],H⟩,⟨5,3,.ptr tb 0 0 1,H0⟩,⟨5,4,.tuple [],H1⟩,⟨6,1,.ptr 2 0 0 n,H1⟩,⟨6,2,.imap .own ks vs,H1⟩,⟨6,3,.agg [.i (j:Int),.i t0,.i t1],H1⟩,⟨6,4,.bool true,H1⟩,⟨7,0,.agg [.i m0,.i m1,.i sz],H1⟩,⟨7,3,.agg [.i (j:Int),.i t0,.i t1],H1⟩,⟨7,4,.s 4 pn,H2⟩] fun kf hk=>⟨_,by kernel_rfl,(oB H (decide_eq_true g0) (oP H g1 (oC (g2) (oS g3 (oP H1 g4 (oP H1 g5 (oP H1 g6 (oP H1 g7 (oP H1 g8 (oP H1 g9 (oC (g10 kf) .nil)))))))))))⟩
theorem sh_d_1 (m0 m1 sz:Int) (l:List HV) (t0 t1 k:Int) (n j pn tb:Nat) (ks vs:List HV) (H:Heap) {y12:HV} {H0:Heap} {H1:Heap} (g0:(j:Int) ≤ (l.length:Int)) (g1:loadV Tp H 64 (.ptr 1 0 0 1)=some (.agg [.i t0,.i t1])) (g2:some (newV (.agg [.i 0,.i 0,.i 0]) H)=some (.ptr tb 0 0 1,H0)) (g3:storeV Tp H0 72 (.ptr tb 0 0 1) (.agg [.i (j:Int),.i t0,.i t1])=some H1) (g4:idxV Tp 69 (.s 2 n) (.i 0)=some (.ptr 2 0 0 n)) (g5:loadV Tp H1 91 (.ptr 2 0 0 n)=some (.imap .own ks vs)) (g6:loadV Tp H1 72 (.ptr tb 0 0 1)=some (.agg [.i (j:Int),.i t0,.i t1])) (g7:lookV Tp 91 ks vs (.agg [.i (j:Int),.i t0,.i t1]) false=some (.bool false)):RT polH 57 (sub [1,1,0,1,0,0] B57) (env57 (.agg [.i m0,.i m1,.i sz]) (.imm .arg 2 l) (.agg [.i t0,.i t1]) (.i k) (.ptr 0 0 0 1) (.ptr 1 0 0 1) (.imm .lit 1 []) (.i 0) (.s 2 n) (.i (j:Int)) y12) H .normal (env57 (.agg [.i m0,.i m1,.i sz]) (.imm .arg 2 l) (.agg [.i t0,.i t1]) (.i k) (.ptr 0 0 0 1) (.ptr 1 0 0 1) (.imm .lit 1 []) (.i 0) (.s 2 n) (.i (IntKind.i64.wrap ((j:Int)+1))) (.ptr tb 0 0 1)) H1 :=
  RunsTo.hin 0 60 [⟨3,3,.bool true,H⟩,⟨5,1,.agg [.i t0,.i t1],H⟩,⟨5,3,.ptr tb 0 0 1,H0⟩,⟨5,4,.tuple [],H1⟩,⟨6,1,.ptr 2 0 0 n,H1⟩,⟨6,2,.imap .own ks vs,H1⟩,⟨6,3,.agg [.i (j:Int),.i t0,.i t1],H1⟩,⟨6,4,.bool false,H1⟩] fun kf hk=>⟨_,by kernel_rfl,(oB H (decide_eq_true g0) (oP H g1 (oC (g2) (oS g3 (oP H1 g4 (oP H1 g5 (oP H1 g6 (oP H1 g7 .nil))))))))⟩
theorem sh_d_2 (m0 m1 sz:Int) (l:List HV) (t0 t1 k:Int) (n j pn tb:Nat) (ks vs:List HV) (H:Heap) {y12:HV}(g0:¬ ((j:Int) ≤ (l.length:Int))):RT polH 57 (sub [1,1,0,1,0,0] B57) (env57 (.agg [.i m0,.i m1,.i sz]) (.imm .arg 2 l) (.agg [.i t0,.i t1]) (.i k) (.ptr 0 0 0 1) (.ptr 1 0 0 1) (.imm .lit 1 []) (.i 0) (.s 2 n) (.i (j:Int)) y12) H (.exit 0) (env57 (.agg [.i m0,.i m1,.i sz]) (.imm .arg 2 l) (.agg [.i t0,.i t1]) (.i k) (.ptr 0 0 0 1) (.ptr 1 0 0 1) (.imm .lit 1 []) (.i 0) (.s 2 n) (.i (j:Int)) y12) H :=
  RunsTo.hin 0 60 [⟨3,3,.bool false,H⟩] fun kf hk=>⟨_,by kernel_rfl,(oB H (decide_eq_false g0) .nil)⟩
theorem sh_e_0 (m0 m1 sz:Int) (l:List HV) (t0 t1 k:Int) (n j:Nat) (H:Heap) {y12:HV}:RT polH 57 (sub [1,1,1] B57) (env57 (.agg [.i m0,.i m1,.i sz]) (.imm .arg 2 l) (.agg [.i t0,.i t1]) (.i k) (.ptr 0 0 0 1) (.ptr 1 0 0 1) (.imm .lit 1 []) (.i 0) (.s 2 n) (.i (j:Int)) y12) H .ret (env57 (.agg [.i m0,.i m1,.i sz]) (.imm .arg 2 l) (.agg [.i t0,.i t1]) (.i k) (.ptr 0 0 0 1) (.ptr 1 0 0 1) (.imm .lit 1 []) (.i 6) (.s 2 n) (.i (j:Int)) y12) H :=
  RunsTo.hin 0 60 [] fun kf hk=>⟨_,by kernel_rfl,.nil⟩
end Go.Proofs.Ytaibmipamkaljaa
end
section
open Go Go.HL
namespace Go.Proofs.Ytaibmipamkaljaa
open Go.Proofs.Try renaming prog → Tp
open Go.HL.HV renaming undef → Ud
theorem res57:Try.f57.results.toList=[.tmp 8,.tmp 9]:=by kernel_rfl
abbrev shH (g:Gr) (l:List El) (t:El):Heap:=[bGr g,bX [t],.arr 1 ((rchT g l).map encM) true 0]
abbrev shE (g:Gr) (l:List El) (t:El) (k:Nat) (j:Nat):Env:=(env57 (encG g) (.imm .arg 2 (l.map encX)) (encX t) (.int .i64 (k:Int)) (.ptr 0 0 0 1) (.ptr 1 0 0 1) (.imm .lit 1 []) (.int .i64 0) (.sl 2 0 (l.length+1) none (l.length+1) 1) (.int .i64 (j:Int)) Ud)
theorem head_get (g:Gr) (l:List El):((rchT g l).map encM)[0]?=some (encM ((rchT g l).headD [])):=by cases l <;> rfl
theorem sh_loop {g:Gr} (hg:grOk g) {l:List El} (hl:allEl g l=true) (hll:l.length ≤ 1000) (t:El) (k:Nat):∀ f j:Nat,j ≤ 2000 → f=l.length+1 - j →
    ∃ x E H',RT polH 57 (sub [1,1,0,1,0] B57) (shE g l t k j) (shH g l t) x E H' ∧
      ((∃ p,shT g l t f j=some p∧x=.ret∧E.get 8=.sl 4 0 p.length none p.length 1∧E.get 9=.int .i64 0∧H'[4]?=some (bI p)) ∨ (∃ j',shT g l t f j=none∧x=.exit 0∧E=shE g l t k j'∧H'=shH g l t)):=by
  intro f
  induction f with
  | zero =>
    intro j hj hf
    have s:=sh_d_2 g.1 g.2.1 g.2.2 (l.map encX) t.1 t.2 k (l.length+1) j 0 0 [] [] (shH g l t) (y12:=Ud) (by rw [List.length_map]; omega)
    exact ⟨_,_,_,lpo (s) (c:=sub [1,1,0,1,0] B57),.inr ⟨j,rfl,rfl,rfl,rfl⟩⟩
  | succ f ih =>
    intro j hj hf
    have nv:newV (.agg [.int .i64 0,.int .i64 0,.int .i64 0]) (shH g l t)=(.ptr 3 0 0 1,shH g l t ++ [.arr 3 [.agg [.int .i64 0,.int .i64 0,.int .i64 0]] true 0]):=rfl
    have st:=st_box (shH g l t) ((j:Int),t)
    have st':storeV Tp (shH g l t ++ [.arr 3 [.agg [.int .i64 0,.int .i64 0,.int .i64 0]] true 0]) 72 (.ptr 3 0 0 1) (encW ((j:Int),t))=some (shH g l t ++ [bW ((j:Int),t)]):=st
    have ix:=idx_sl (P:=Tp) (t:=69) (b:=2) (len:=l.length+1) (tot:=l.length+1) (cap:=none) (ik:=.i64) (n:=0) u69 z91 (by omega) (by omega)
    have ldm:loadV Tp (shH g l t ++ [bW ((j:Int),t)]) 91 (.ptr 2 0 0 (l.length+1))=some (encM ((rchT g l).headD [])):=load_elem (b:=2) (i:=0) (els:=(rchT g l).map encM) rfl (by rw [List.length_map,rch_len]) (head_get g l) rfl a91 i91
    have lk:=look_k keyW ((rchT g l).headD []) ((j:Int),t)
    have gt:loadV Tp (shH g l t) 64 (.ptr 1 0 0 1)=some (encX t):=load_agg (b:=1) rfl rfl rfl a64 z64
    have gw:loadV Tp (shH g l t ++ [bW ((j:Int),t)]) 72 (.ptr 3 0 0 1)=some (encW ((j:Int),t)):=g72 rfl
    have gg:loadV Tp (shH g l t ++ [bW ((j:Int),t)]) 66 (.ptr 0 0 0 1)=some (encG g):=load_agg (b:=0) rfl rfl rfl a66 z66
    by_cases c:((j:Int),t) ∈ (rchT g l).headD []
    · simp only [c,decide_true] at lk
      have pa:=part_at (pol':=polH) (by kernel_rfl) hg hl hll c (H:=shH g l t ++ [bW ((j:Int),t)]) (b:=2) (mx:=0) rfl
      have s:=sh_d_0 g.1 g.2.1 g.2.2 (l.map encX) t.1 t.2 k (l.length+1) j (partI g l ((j:Int),t)).length 3 _ _ (shH g l t) (y12:=Ud) (by rw [List.length_map]; omega) gt (congrArg some nv) st' ix ldm gw lk gg gw pa
      exact ⟨_,_,_,lpo (s) (c:=sub [1,1,0,1,0] B57),.inl ⟨_,by rw [shT,if_pos c],rfl,rfl,rfl,rfl⟩⟩
    · simp only [c,decide_false] at lk
      have s:=sh_d_1 g.1 g.2.1 g.2.2 (l.map encX) t.1 t.2 k (l.length+1) j 0 3 _ _ (shH g l t) (y12:=Ud) (by rw [List.length_map]; omega) gt (congrArg some nv) st' ix ldm gw lk
      rw [wrap_succ (by omega)] at s
      obtain ⟨x,E,H',h1,h2⟩:=ih (j+1) (by omega) (by omega)
      have hgc:gc (shH g l t).length (bndE (shE g l t k (j+1))) (shH g l t ++ [bW ((j:Int),t)])=shH g l t:=by
        unfold gc
        have h1:bndE (shE g l t k (j+1)) ≤ 3:=by simp only [bndE,bnd,encG,encX,bndL]; decide
        have h2:mxs (shH g l t ++ [bW ((j:Int),t)])=0:=rfl
        have h3:max (shH g l t).length (max (bndE (shE g l t k (j+1))) (mxs (shH g l t ++ [bW ((j:Int),t)])))=3:=by
          rw [h2]; have:(shH g l t).length=3:=rfl
          omega
        rw [h3]; rfl
      refine ⟨x,E,H',lop (s) hgc (h1),?_⟩
      rw [shT,if_neg c]
      exact h2
theorem short_ok:PrimOk Tp 57 short57:=by
  refine primOk_pure (pol:=polH) (fn:=Try.f57) (cd:=B57) follows_mixed soundH (by kernel_rfl) (by kernel_rfl) (fnok polH.prim _ _ (by kernel_rfl)) (by kernel_rfl) ?_
  intro args res h
  obtain ⟨g,l,t,k,rfl,⟨hg,hl,hll⟩,hk,rfl⟩:=short_inv h
  have a:=sh_a_0 g.1 g.2.1 g.2.2 (l.map encX) t.1 t.2 k
  have ra:=reached_at (pol':=polH) (by kernel_rfl) hg hl hll [bGr g,bX [t]]
  have b:=sh_b_0 g.1 g.2.1 g.2.2 (l.map encX) t.1 t.2 k (l.length+1) ((rchT g l).map encM) (y10:=Ud) (y11:=Ud) (y12:=Ud) ra
  have c:=sh_c_0 g.1 g.2.1 g.2.2 (l.map encX) t.1 t.2 k (l.length+1) (shH g l t) (y11:=Ud) (y12:=Ud)
  obtain ⟨x,E,H',lp,h2⟩:=sh_loop hg hl hll t k (l.length+1 - k) k (by omega) rfl
  rcases h2 with ⟨p,h3,rfl,h4,h5,h6⟩ | ⟨j',h3,rfl,rfl,rfl⟩
  · have u:=sq (a) (sq (b) (sqo (sq (c) (RunsTo.block_ret (i:=0) (c:=sub [1,1,0,1] B57) (lp) (by kernel_rfl)) (c:=sub [1,1,0] B57)) (c:=sub [1,1] B57) (b:=sub [1,1,1] B57)) (c:=sub [1] B57)) (c:=B57)
    refine ⟨_,_,_,.tuple [.sl 4 0 p.length none p.length 1,.int .i64 0],u,by simp,by simp only [resultsV,res57,mapO,resultV,h4,h5],?_⟩
    rw [h3]
    exact toRes_li1 h6 rfl 0
  · have z:=sh_e_0 g.1 g.2.1 g.2.2 (l.map encX) t.1 t.2 k (l.length+1) j' (shH g l t) (y12:=Ud)
    have u:=sq (a) (sq (b) (sq (sq (c) (bke (c:=sub [1,1,0,1] B57) (lp)) (c:=sub [1,1,0] B57)) (z) (c:=sub [1,1] B57)) (c:=sub [1] B57)) (c:=B57)
    refine ⟨_,_,_,.tuple [.imm .lit 1 [],.int .i64 6],u,by simp,by simp only [resultsV,res57]; rfl,?_⟩
    rw [h3]; rfl
end Go.Proofs.Ytaibmipamkaljaa
end
section
open Go Go.HL
namespace Go.Proofs.Ytaibmipamkaljaa
open Go.Proofs.Try renaming prog → Tp
open Go.HL.HV renaming undef → Ud
theorem info4:(Tp.info? 4).map (fun i=>(i.size,i.bytes,i.zero.map ofConst))=some (1,1,some (.bool false)):=by kernel_rfl
abbrev bT (T:List Bool):Blk:=.arr 1 (T.map .bool) true 0
end Go.Proofs.Ytaibmipamkaljaa
end
section
open Go Go.HL
namespace Go.Proofs.Ytaibmipamkaljaa
open Go.Proofs.Try renaming prog → Tp
open Go.HL.HV renaming undef → Ud
theorem li_a (m0 m1 x0 x1:Int):callN Tp pol 60 62 [.agg [.int .i64 m0,.int .i64 m1,.int .i64 1],.agg [.int .i64 x0,.int .i64 x1]] []=some (.sl 0 0 1 none 1 1,[.arr 1 [.int .i64 x0] true 0]):=by kernel_rfl
theorem li_b (m0 m1 x0 x1:Int):callN Tp pol 60 62 [.agg [.int .i64 m0,.int .i64 m1,.int .i64 2],.agg [.int .i64 x0,.int .i64 x1]] []=some (.sl 0 0 2 none 2 1,[.arr 1 [.int .i64 x0,.int .i64 x1] true 0]):=by kernel_rfl
end Go.Proofs.Ytaibmipamkaljaa
end
section
open Go Go.HL
namespace Go.Proofs.Ytaibmipamkaljaa
open Go.Proofs.Try renaming prog → Tp
open Go.HL.HV renaming undef → Ud
theorem res71:Try.f71.results.toList=[.tmp 4]:=by kernel_rfl
theorem res64:Try.f64.results.toList=[.tmp 4]:=by kernel_rfl
theorem compare_ok:PrimOk Tp 71 compare71:=by
  refine primOk_pure (pol:=polNa) (fn:=Try.f71) (cd:=B71) follows_mixed soundNa (by kernel_rfl) (by kernel_rfl) (fnok polNa.prim _ _ (by kernel_rfl)) (by kernel_rfl) ?_
  intro args res h
  unfold compare71 at h
  split at h
  · rename_i x y
    cases h
    unfold cmpI
    by_cases c1:x < y
    · rw [if_pos c1]
      exact ⟨_,_,_,.int .i64 (-1),cpr_0 x y (qnan x []) (qnan y []) c1,by simp,by simp only [resultsV,res71]; rfl,rfl⟩
    · rw [if_neg c1]
      by_cases c2:y < x
      · rw [if_pos c2]
        exact ⟨_,_,_,.int .i64 1,cpr_1 x y (qnan x []) (qnan y []) c1 c2,by simp,by simp only [resultsV,res71]; rfl,rfl⟩
      · rw [if_neg c2]
        exact ⟨_,_,_,.int .i64 0,cpr_2 x y (qnan x []) (qnan y []) c1 c2,by simp,by simp only [resultsV,res71]; rfl,rfl⟩
  · cases h
theorem soundCp (n:Nat):CallSound Tp (callN Tp polCp n):=sound_prim _ (fun g f h=>by
  split at h
  · rename_i hg; cases h; rw [eq_of_beq hg]; exact compare_ok
  · cases h) n
theorem qcmp (x y:Int) (H:Heap):∀ kf,callN Tp polCp (kf+1) 71 [.int .i64 x,.int .i64 y] H=some (.int .i64 (cmpI x y),H):=fun kf=>by
  rw [prim_call (pol:=polCp) (g:=71) (F:=compare71) (by kernel_rfl) (rs:=[.int .i64 x,.int .i64 y]) rfl (res:=.int .i64 (cmpI x y)) rfl]; rfl
def cmpL:List Int → List Int → Option Int
  | [a],[x]=>some (cmpI a x)
  | [a,b],[x,y]=>some (if cmpI a x=0 then cmpI b y else cmpI a x)
  | _,_=>none
def compare64:List HV → Option HV
  | [.imm .arg 1 la,.imm .arg 1 lb]=>(match mapO decI la,mapO decI lb with | some a,some b=>(cmpL a b).map fun c=>.int .i64 c | _,_=>none)
  | _=>none
theorem compare64_ok:PrimOk Tp 64 compare64:=by
  refine primOk_pure (pol:=polCp) (fn:=Try.f64) (cd:=B64) follows_mixed soundCp (by kernel_rfl) (by kernel_rfl) (fnok polCp.prim _ _ (by kernel_rfl)) (by kernel_rfl) ?_
  intro args res h
  unfold compare64 at h
  split at h
  · split at h
    · rename_i a b ha hb
      rw [mapO_inv decI_inv ha,mapO_inv decI_inv hb]
      match a,b,h with
      | [a],[x],h =>
        cases h
        by_cases c:cmpI a x=0
        · exact ⟨_,_,_,.int .i64 0,cl_a_1 a x _ (qcmp a x []) c,by simp,by simp only [resultsV,res64]; rfl,by rw [c]; rfl⟩
        · exact ⟨_,_,_,.int .i64 (cmpI a x),cl_a_0 a x _ (qcmp a x []) c,by simp,by simp only [resultsV,res64]; rfl,rfl⟩
      | [a,b],[x,y],h =>
        cases h
        by_cases c:cmpI a x=0
        · rw [if_pos c]
          by_cases d:cmpI b y=0
          · exact ⟨_,_,_,.int .i64 0,cl_b_2 a b x y _ _ (qcmp a x []) c (qcmp b y []) d,by simp,by simp only [resultsV,res64]; rfl,by rw [d]; rfl⟩
          · exact ⟨_,_,_,.int .i64 (cmpI b y),cl_b_1 a b x y _ _ (qcmp a x []) c (qcmp b y []) d,by simp,by simp only [resultsV,res64]; rfl,rfl⟩
        · rw [if_neg c]
          exact ⟨_,_,_,.int .i64 (cmpI a x),cl_b_0 a b x y _ (qcmp a x []) c,by simp,by simp only [resultsV,res64]; rfl,rfl⟩
    · cases h
  · cases h
def lstT (g:Gr) (x:El):List Int:=if g.2.2=1 then [x.1] else [x.1,x.2]
def list62:List HV → Option HV
  | [a,b]=>(match decG a,decX b with | some g,some x=>if g.2.2=1 ∨ g.2.2=2 then some (.own 1 ((lstT g x).map encI)) else none | _,_=>none)
  | _=>none
theorem list62_ok:PrimOk Tp 62 list62:=by
  refine primOk_of (pol:=pol) sound (by kernel_rfl) fun args res h=>?_
  unfold list62 at h
  split at h
  · rename_i a b
    split at h
    · rename_i g x hg hx
      split at h
      · rename_i hs
        cases h
        rw [decG_inv _ _ hg,decX_inv _ _ hx]
        obtain ⟨m0,m1,sz⟩:=g
        obtain ⟨x0,x1⟩:=x
        rcases hs with hs | hs
        · have hs:sz=1:=hs
          subst hs
          exact ⟨60,_,_,false,li_a m0 m1 x0 x1,res_li (o:=[x0]) rfl rfl⟩
        · have hs:sz=2:=hs
          subst hs
          exact ⟨60,_,_,false,li_b m0 m1 x0 x1,res_li (o:=[x0,x1]) rfl rfl⟩
      · cases h
    · cases h
  · cases h
end Go.Proofs.Ytaibmipamkaljaa
end
section
namespace Go.HL.So
set_option linter.unusedSectionVars false
variable {α:Type} [Inhabited α]
abbrev at_ (l:List α) (i:Nat):α:=l.getD i default
def swp (l:List α) (i j:Nat):List α:=(l.set i (at_ l j)).set j (at_ l i)
theorem swp_len (l:List α) (i j:Nat):(swp l i j).length=l.length:=by simp [swp]
theorem set_at (l:List α) (i k:Nat) (v:α) (hi:i < l.length):at_ (l.set i v) k=if i=k then v else at_ l k:=by
  simp only [at_,List.getD,List.getElem?_set,hi]
  split
  · rename_i e; subst e; simp
  · rfl
theorem swp_at {l:List α} {i j:Nat} (hi:i < l.length) (hj:j < l.length) (k:Nat):at_ (swp l i j) k=if k=j then at_ l i else if k=i then at_ l j else at_ l k:=by
  unfold swp
  rw [set_at (l.set i (at_ l j)) j k (at_ l i) (by simpa using hj),set_at l i k (at_ l j) hi]
  by_cases e:j=k
  · subst e; simp
  · have e':¬ k=j:=fun h=>e h.symm
    rw [if_neg e,if_neg e']
    by_cases e2:i=k
    · subst e2; simp
    · have e2':¬ k=i:=fun h=>e2 h.symm
      rw [if_neg e2,if_neg e2']
theorem swp_perm {l:List α} {i j:Nat} (hi:i < l.length) (hj:j < l.length):(swp l i j).Perm l:=by
  have h:=Array.swap_perm (xs:=l.toArray) (i:=i) (j:=j) (by simpa using hi) (by simpa using hj)
  have h2:=h.toList
  rw [Array.toList_swap] at h2
  simpa [swp,at_,List.getD,List.getElem?_eq_getElem hi,List.getElem?_eq_getElem hj] using h2
inductive Sw (a b:Nat) (l:List α):List α → Prop
  | refl:Sw a b l l
  | step {l':List α} {i j:Nat}:Sw a b l l' → a ≤ i → i < b → a ≤ j → j < b → Sw a b l (swp l' i j)
theorem Sw.len {a b:Nat} {l l':List α} (h:Sw a b l l'):l'.length=l.length:=by
  induction h with
  | refl=>rfl
  | step h1 _ _ _ _ ih=>rw [swp_len,ih]
theorem Sw.trans {a b:Nat} {l l' l'':List α} (h:Sw a b l l') (h':Sw a b l' l''):Sw a b l l'':=by
  induction h' with
  | refl=>exact h
  | step _ h1 h2 h3 h4 ih=>exact ih.step h1 h2 h3 h4
theorem Sw.one {a b i j:Nat} {l:List α} (h1:a ≤ i) (h2:i < b) (h3:a ≤ j) (h4:j < b):Sw a b l (swp l i j):=Sw.refl.step h1 h2 h3 h4
theorem Sw.mono {a b a' b':Nat} {l l':List α} (h:Sw a b l l') (ha:a' ≤ a) (hb:b ≤ b'):Sw a' b' l l':=by
  induction h with
  | refl=>exact .refl
  | step _ h1 h2 h3 h4 ih=>exact ih.step (by omega) (by omega) (by omega) (by omega)
theorem Sw.perm {a b:Nat} {l l':List α} (h:Sw a b l l') (hb:b ≤ l.length):l'.Perm l:=by
  induction h with
  | refl=>exact List.Perm.refl _
  | step h1 h2 h3 h4 h5 ih=>exact (swp_perm (by rw [h1.len]; omega) (by rw [h1.len]; omega)).trans ih
theorem Sw.out {a b:Nat} {l l':List α} (h:Sw a b l l') (hb:b ≤ l.length) {k:Nat} (hk:k < a ∨ b ≤ k):at_ l' k=at_ l k:=by
  induction h with
  | refl=>rfl
  | step h1 h2 h3 h4 h5 ih=>rw [swp_at (by rw [h1.len]; omega) (by rw [h1.len]; omega),if_neg (by omega),if_neg (by omega),ih]
theorem Sw.all {a b:Nat} {l l':List α} (h:Sw a b l l') (hb:b ≤ l.length) {Q:α → Prop} {lo hi:Nat} (hlo:lo ≤ a) (hhi:b ≤ hi) (hQ:∀ i,lo ≤ i → i < hi → Q (at_ l i)):∀ i,lo ≤ i → i < hi → Q (at_ l' i):=by
  induction h with
  | refl=>exact hQ
  | step h1 h2 h3 h4 h5 ih =>
    intro k hk1 hk2
    rw [swp_at (by rw [h1.len]; omega) (by rw [h1.len]; omega)]
    split
    · exact ih _ (by omega) (by omega)
    · split
      · exact ih _ (by omega) (by omega)
      · exact ih _ hk1 hk2
theorem Sw.mem {a b:Nat} {l l':List α} (h:Sw a b l l') (hb:b ≤ l.length) {Q:α → Prop} (hQ:∀ x ∈ l,Q x):∀ x ∈ l',Q x:=fun x hx=>hQ x ((h.perm hb).mem_iff.1 hx)
structure Lin (lt:α → α → Prop):Prop where
  tr:∀ x y z,¬ lt y x → ¬ lt z y → ¬ lt z x
  asy:∀ x y,lt x y → ¬ lt y x
def Sorted (lt:α → α → Prop) (a b:Nat) (l:List α):Prop:=∀ i j,a ≤ i → i < j → j < b → ¬ lt (at_ l j) (at_ l i)
section
variable {lt:α → α → Prop} (hL:Lin lt)
include hL
theorem Lin.rf (x:α):¬ lt x x:=fun h=>hL.asy x x h h
def Sink (lt:α → α → Prop) (a i j:Nat) (l:List α):Prop:=∀ p q,a ≤ p → p < q → q < i → q ≠ j → ¬ lt (at_ l q) (at_ l p)
omit hL in
theorem sink_start {a i:Nat} {l:List α} (h:Sorted lt a i l):Sink lt a (i+1) i l:=fun p q h1 h2 h3 h4=>h p q h1 h2 (by omega)
theorem sink_step {a i j:Nat} {l:List α} (hi:i ≤ l.length) (hj:j < i) (ha:a < j) (h:Sink lt a i j l) (hc:lt (at_ l j) (at_ l (j - 1))):Sink lt a i (j - 1) (swp l j (j - 1)):=by
  intro p q h1 h2 h3 h4
  rw [swp_at (by omega) (by omega),swp_at (by omega) (by omega)]
  have hne:¬ q=j - 1:=h4
  rw [if_neg hne]
  by_cases eq:q=j
  · rw [if_pos eq]
    by_cases ep:p=j - 1
    · rw [if_pos ep]; exact hL.asy _ _ hc
    · rw [if_neg ep,if_neg (by omega)]
      exact h p (j - 1) h1 (by omega) (by omega) (by omega)
  · rw [if_neg eq]
    by_cases ep:p=j - 1
    · rw [if_pos ep]; exact h j q (by omega) (by omega) h3 eq
    · rw [if_neg ep]
      by_cases ep2:p=j
      · rw [if_pos ep2]; exact h (j - 1) q (by omega) (by omega) h3 eq
      · rw [if_neg ep2]; exact h p q h1 h2 h3 eq
theorem sink_end {a i j:Nat} {l:List α} (h:Sink lt a i j l) (hc:j ≤ a ∨ ¬ lt (at_ l j) (at_ l (j - 1))):Sorted lt a i l:=by
  intro p q h1 h2 h3
  by_cases e:q=j
  · subst e
    rcases hc with hc | hc
    · omega
    · by_cases ep:p=q - 1
      · subst ep; exact hc
      · exact hL.tr _ _ _ (h p (q - 1) h1 (by omega) (by omega) (by omega)) hc
  · exact h p q h1 h2 h3 e
def Hp (lt:α → α → Prop) (fi lo hi:Nat) (l:List α):Prop:=∀ k c,lo ≤ k → (c=2 * k+1 ∨ c=2 * k+2) → c < hi → ¬ lt (at_ l (fi+k)) (at_ l (fi+c))
def HpX (lt:α → α → Prop) (fi lo hi r:Nat) (l:List α):Prop :=
  (∀ k c,lo ≤ k → k ≠ r → (c=2 * k+1 ∨ c=2 * k+2) → c < hi → ¬ lt (at_ l (fi+k)) (at_ l (fi+c))) ∧
  (∀ k c,lo ≤ k → (r=2 * k+1 ∨ r=2 * k+2) → (c=2 * r+1 ∨ c=2 * r+2) → c < hi → ¬ lt (at_ l (fi+k)) (at_ l (fi+c)))
omit hL in
theorem hpx_start {fi lo hi:Nat} {l:List α} (h:Hp lt fi (lo+1) hi l):HpX lt fi lo hi lo l :=
  ⟨fun k c h1 h2 h3 h4=>h k c (by omega) h3 h4,fun k c h1 h2=>by omega⟩
theorem hpx_end {fi lo hi r:Nat} {l:List α} (h:HpX lt fi lo hi r l) (hr:∀ c,(c=2 * r+1 ∨ c=2 * r+2) → c < hi → ¬ lt (at_ l (fi+r)) (at_ l (fi+c))):Hp lt fi lo hi l:=by
  intro k c h1 h2 h3
  by_cases e:k=r
  · subst e; exact hr c h2 h3
  · exact h.1 k c h1 e h2 h3
theorem hpx_step {fi lo hi r c:Nat} {l:List α} (hb:fi+hi ≤ l.length) (h:HpX lt fi lo hi r l) (hr:lo ≤ r) (hc:c=2 * r+1 ∨ c=2 * r+2) (hch:c < hi) (hm:∀ c',(c'=2 * r+1 ∨ c'=2 * r+2) → c' < hi → ¬ lt (at_ l (fi+c)) (at_ l (fi+c'))) (hlt:lt (at_ l (fi+r)) (at_ l (fi+c))) :
    HpX lt fi lo hi c (swp l (fi+r) (fi+c)):=by
  have hsw:∀ k,at_ (swp l (fi+r) (fi+c)) (fi+k)=if k=c then at_ l (fi+r) else if k=r then at_ l (fi+c) else at_ l (fi+k):=fun k=>by
    rw [swp_at (by omega) (by omega)]
    by_cases e:k=c
    · subst e; simp
    · rw [if_neg (by omega),if_neg e]
      by_cases e2:k=r
      · subst e2; simp
      · rw [if_neg (by omega),if_neg e2]
  refine ⟨fun k c' h1 h2 h3 h4=>?_,fun k c' h1 h2 h3 h4=>?_⟩
  · rw [hsw,hsw,if_neg h2]
    by_cases ek:k=r
    · rw [if_pos ek]
      subst ek
      by_cases ec:c'=c
      · rw [if_pos ec]; exact hL.asy _ _ hlt
      · rw [if_neg ec,if_neg (by omega)]; exact hm c' h3 h4
    · rw [if_neg ek,if_neg (by omega)]
      by_cases ec:c'=r
      · rw [if_pos ec]
        exact h.2 k c h1 (by omega) hc hch
      · rw [if_neg ec]; exact h.1 k c' h1 ek h3 h4
  · have hk:k=r:=by omega
    subst hk
    rw [hsw,hsw,if_neg (by omega),if_pos rfl,if_neg (by omega),if_neg (by omega)]
    exact h.1 c c' (by omega) (by omega) h3 h4
theorem hp_root {fi hi:Nat} {l:List α} (h:Hp lt fi 0 hi l):∀ (m k:Nat),k ≤ m → k < hi → ¬ lt (at_ l fi) (at_ l (fi+k)):=by
  intro m
  induction m with
  | zero =>
    intro k hk _
    have:k=0:=by omega
    subst this
    exact hL.rf _
  | succ m ih =>
    intro k hk hlt
    by_cases e:k=0
    · subst e; exact hL.rf _
    · have h1:=ih ((k - 1) / 2) (by omega) (by omega)
      have h2:=h ((k - 1) / 2) k (Nat.zero_le _) (by omega) hlt
      exact fun h3=>by
        -- l[fi] < l[fi+k] <= l[parent] <= l[fi]
        exact hL.tr _ _ _ h2 h1 h3
def HsInv (lt:α → α → Prop) (fi hi m:Nat) (l:List α):Prop:=Hp lt fi 0 m l∧(∀ p q,m ≤ p → p < q → q < hi → ¬ lt (at_ l (fi+q)) (at_ l (fi+p)))∧∀ p q,p < m → m ≤ q → q < hi → ¬ lt (at_ l (fi+q)) (at_ l (fi+p))
theorem hs_swap {fi hi m:Nat} {l:List α} (hb:fi+hi ≤ l.length) (hm:m+1 ≤ hi) (h:HsInv lt fi hi (m+1) l) :
    Hp lt fi 1 m (swp l fi (fi+m))∧(∀ p q,m ≤ p → p < q → q < hi → ¬ lt (at_ (swp l fi (fi+m)) (fi+q)) (at_ (swp l fi (fi+m)) (fi+p)))∧∀ p q,p < m → m ≤ q → q < hi → ¬ lt (at_ (swp l fi (fi+m)) (fi+q)) (at_ (swp l fi (fi+m)) (fi+p)):=by
  obtain ⟨h1,h2,h3⟩:=h
  have hsw:∀ k,at_ (swp l fi (fi+m)) (fi+k)=if k=m then at_ l fi else if k=0 then at_ l (fi+m) else at_ l (fi+k):=fun k=>by
    rw [swp_at (by omega) (by omega)]
    by_cases e:k=m
    · subst e; simp
    · rw [if_neg (by omega),if_neg e]
      by_cases e2:k=0
      · subst e2; simp
      · rw [if_neg (by omega),if_neg e2]
  refine ⟨fun k c q1 q2 q3=>?_,fun p q q1 q2 q3=>?_,fun p q q1 q2 q3=>?_⟩
  · rw [hsw,hsw,if_neg (by omega),if_neg (by omega),if_neg (by omega),if_neg (by omega)]
    exact h1 k c (by omega) q2 (by omega)
  · rw [hsw q,if_neg (by omega),if_neg (by omega),hsw]
    by_cases e:p=m
    · rw [if_pos e]
      have:=h3 0 q (by omega) (by omega) q3
      simpa using this
    · rw [if_neg e,if_neg (by omega)]; exact h2 p q (by omega) q2 q3
  · rw [hsw p,if_neg (by omega),hsw]
    have key:∀ x,(∃ k,k < m+1∧x=at_ l (fi+k)) → ¬ lt (at_ l fi) x:=by
      rintro x ⟨k,hk,rfl⟩
      exact hp_root hL h1 k k (Nat.le_refl _) hk
    have hx:∃ k,k < m+1∧(if p=0 then at_ l (fi+m) else at_ l (fi+p))=at_ l (fi+k):=by
      by_cases e:p=0
      · exact ⟨m,by omega,by rw [if_pos e]⟩
      · exact ⟨p,by omega,by rw [if_neg e]⟩
    by_cases e:q=m
    · rw [if_pos e]; exact key _ hx
    · rw [if_neg e,if_neg (by omega)]
      obtain ⟨k,hk,e2⟩:=hx
      rw [e2]
      exact h3 k q hk (by omega) q3
end
end Go.HL.So
end
section
open Go Go.HL
namespace Go.Proofs.Ytaibmipamkaljaa
open Go.Proofs.Try renaming prog → Tp
open Go.HL.HV renaming undef → Ud
noncomputable def tabS:HV:=match sub [1,1,1,1,0] (Try.f82.body.getD .skip) with
  | .region _ ops _=>(match ops[3]? with | some o=>(match o.op with | .index _ x _=>opVal [] x | _=>Ud) | none=>Ud)
  | _=>Ud
def bl:Nat → Nat → Nat
  | 0,_=>0
  | k+1,y=>if y=0 then 0 else 1+bl k (y / 2)
noncomputable def tabOk:Bool:=(List.range 256).all fun y=>(match elemV Tp 9 tabS (.int .u8 (y:Int)) with | some (.int .u8 z)=>decide (z=(bl 8 y:Int)) | _=>false) && decide (y < 2 ^ bl 8 y) && (decide (y=0) || decide (2 ^ bl 8 y ≤ 2 * y)) && decide (bl 8 y ≤ 8)
theorem tabOk_true:tabOk=true:=by kernel_rfl
def lenN (x:Nat):Nat:=if x < 256 then bl 8 x else 8+bl 8 (x / 256)
theorem tab_at {y:Nat} (hy:y < 256):elemV Tp 9 tabS (.int .u8 (y:Int))=some (.int .u8 (bl 8 y:Int))∧y < 2 ^ bl 8 y∧(0 < y → 2 ^ bl 8 y ≤ 2 * y)∧bl 8 y ≤ 8:=by
  have h:=List.all_eq_true.1 tabOk_true y (List.mem_range.2 hy)
  simp only [Bool.and_eq_true,Bool.or_eq_true,decide_eq_true_eq] at h
  obtain ⟨⟨⟨h1,h2⟩,h3⟩,h4⟩:=h
  refine ⟨?_,h2,fun h0=>h3.resolve_left (by omega),h4⟩
  split at h1
  · rename_i z hz
    rw [hz,of_decide_eq_true h1]
  · cases h1
theorem lenN_ok {x:Nat} (hx:x < 65536):(0 < x → x < 2 ^ lenN x∧2 ^ lenN x ≤ 2 * x)∧lenN x ≤ 16:=by
  unfold lenN
  split
  · rename_i c
    obtain ⟨_,h2,h3,h4⟩:=tab_at c
    exact ⟨fun h=>⟨h2,h3 h⟩,by omega⟩
  · rename_i c
    obtain ⟨_,h2,h3,h4⟩:=tab_at (y:=x / 256) (by omega)
    have h5:=h3 (by omega)
    rw [Nat.pow_add]
    generalize 2 ^ bl 8 (x / 256)=p at h2 h5
    exact ⟨fun h=>by omega,by omega⟩
def len82:List HV → Option HV
  | [.int .u64 x]=>if 0 ≤ x∧x < 65536 then some (.int .i64 (lenN x.toNat:Int)) else none
  | _=>none
def next93:List HV → Option HV
  | [.int .i64 x]=>if 0 ≤ x∧x < 65536 then some (.int .u64 ((2 ^ lenN x.toNat:Nat):Int)) else none
  | _=>none
def polLb:Pol:={ pol with prim:=fun g=>if g == 82 then some len82 else none }
def polLc:Pol:={ pol with prim:=fun g=>if g == 68 then some len82 else none }
end Go.Proofs.Ytaibmipamkaljaa
end
section
open Go Go.HL
namespace Go.Proofs.Ytaibmipamkaljaa
set_option maxRecDepth 100000
open Go.Proofs.Try renaming prog → Tp
open Go.HL.HV renaming undef → Ud
noncomputable def B82:Code:=Try.f82.body.getD .skip
abbrev env82 (v0 v2:HV):Env:=[(0,v0),(2,v2)]
theorem l82_6 (x:Int) (h0:Int) (z0:Int) (g0:¬ (4294967296 ≤ x)) (g1:¬ (65536 ≤ x)) (g2:256 ≤ x) (g3:binV Tp .shr 108 (.int .u64 x) (.int .u64 8)=some (.int .u64 h0)) (g4:elemV Tp 9 tabS (.int .u8 (IntKind.u8.wrap h0))=some (.int .u8 z0)):RT pol 82 (sub [] B82) [(0,.int .u64 x)] [] .ret (env82 (.int .u64 h0) (.i (IntKind.i64.wrap (8+IntKind.i64.wrap z0)))) [] :=
  RunsTo.hin 0 60 [⟨1,1,.bool false,[]⟩,⟨4,1,.bool false,[]⟩,⟨7,1,.bool true,[]⟩,⟨8,1,.int .u64 h0,[]⟩,⟨10,3,.int .u8 z0,[]⟩] fun kf hk=>⟨_,by kernel_rfl,(oB [] (decide_eq_false g0) (oB [] (decide_eq_false g1) (oB [] (decide_eq_true g2) (oP [] g3 (oP [] g4 .nil)))))⟩
theorem l82_7 (x:Int) (z0:Int) (g0:¬ (4294967296 ≤ x)) (g1:¬ (65536 ≤ x)) (g2:¬ (256 ≤ x)) (g3:elemV Tp 9 tabS (.int .u8 (IntKind.u8.wrap x))=some (.int .u8 z0)):RT pol 82 (sub [] B82) [(0,.int .u64 x)] [] .ret (env82 (.int .u64 x) (.i (IntKind.i64.wrap (0+IntKind.i64.wrap z0)))) [] :=
  RunsTo.hin 0 60 [⟨1,1,.bool false,[]⟩,⟨4,1,.bool false,[]⟩,⟨7,1,.bool false,[]⟩,⟨10,3,.int .u8 z0,[]⟩] fun kf hk=>⟨_,by kernel_rfl,(oB [] (decide_eq_false g0) (oB [] (decide_eq_false g1) (oB [] (decide_eq_false g2) (oP [] g3 .nil))))⟩
noncomputable def B68:Code:=Try.f68.body.getD .skip
abbrev env68 (v0 v2:HV):Env:=[(0,v0),(2,v2)]
theorem l68_0 (x:Int) (c0:Int) (g0:∀ kf,callN Tp polLb (kf+1) 82 [.int .u64 x] []=some (.i c0,[])):RT polLb 68 (sub [] B68) [(0,.int .u64 x)] [] .ret (env68 (.int .u64 x) (.i c0)) [] :=
  RunsTo.hin 0 60 [⟨2,1,.i c0,[]⟩] fun kf hk=>⟨_,by kernel_rfl,(oC (g0 kf) .nil)⟩
noncomputable def B93:Code:=Try.f93.body.getD .skip
abbrev env93 (v0 v2:HV):Env:=[(0,v0),(2,v2)]
theorem l93_0 (x:Int) (c0:Int) (h0:Int) (g0:∀ kf,callN Tp polLc (kf+1) 68 [.int .u64 (IntKind.u64.wrap x)] []=some (.i c0,[])) (g1:binV Tp .shl 85 (.int .u64 1) (.i c0)=some (.int .u64 h0)):RT polLc 93 (sub [] B93) [(0,.i x)] [] .ret (env93 (.i x) (.int .u64 h0)) [] :=
  RunsTo.hin 0 60 [⟨1,2,.i c0,[]⟩,⟨1,3,.int .u64 h0,[]⟩] fun kf hk=>⟨_,by kernel_rfl,(oC (g0 kf) (oP [] g1 .nil))⟩
end Go.Proofs.Ytaibmipamkaljaa
end
