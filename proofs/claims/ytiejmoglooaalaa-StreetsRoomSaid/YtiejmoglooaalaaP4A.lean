/- A part of the proof. -/
import Derived.Test.YtiejmoglooaalaaHlA
import Derived.Test.YtiejmoglooaalaaHlB
import Derived.Test.YtiejmoglooaalaaHlC
import Derived.Test.YtiejmoglooaalaaHlD
import Derived.Test.YtiejmoglooaalaaHlE
import Derived.Test.YtiejmoglooaalaaHlF
import Derived.ProofKit
import Derived.Test.YtiejmoglooaalaaProg
import Derived.Deep.Slices
import Derived.OpenShut
import Derived.Deep.Strs
set_option linter.unusedVariables false
set_option linter.unusedSimpArgs false
set_option linter.unnecessarySimpa false
namespace Go.HL
abbrev HV.i (n:Int):HV:=.int .i64 n
abbrev HV.a (l:List HV):HV:=.imm .arg 1 l
abbrev HV.s (b n:Nat):HV:=.sl b 0 n none n 1
abbrev HV.c (b n:Nat) (cap:Option Nat):HV:=.sl b 0 n cap n 1
abbrev HV.o (b n:Nat):HV:=.sl b 0 n (some n) n 1
abbrev Blk.b (l:List HV):Blk:=.arr 1 l true 0
section
variable {P:Program} {pol:Pol} {f:FuncId} {c:Code} {e E:Env} {H H':Heap} {x:X} {K:List Nat}
theorem RunsTo.hin (d n:Nat) (hs:List Hint) (h:∀ k,d ≤ k → ∃ ob,hview K (evCH P pol (callN P pol (k+1)) n f c e H hs)=some (x,E,H',ob)∧Obls ob):RunsTo P pol f c e H x K E H':=RunsTo.hint (d+1) n hs fun k hk=>by
  obtain ⟨k,rfl⟩:∃ n,k=n+1:=⟨k - 1,by omega⟩
  exact h k (by omega)
theorem oC {p:Prop} {os:List Prop} (h:p) (t:Obls os):Obls (p :: os):=Obls.cons h t
theorem oP (H:Heap) {r:Option HV} {v:HV} {os:List Prop} (h:r=some v) (t:Obls os):Obls ((r.map (fun v=>(v,H))=some (v,H)) :: os):=Obls.cons (hintOp h) t
theorem oS {r:Option Heap} {H:Heap} {os:List Prop} (h:r=some H) (t:Obls os):Obls ((r.map (fun H=>(HV.tuple [],H))=some (.tuple [],H)) :: os):=Obls.cons (hintSt h) t
theorem oB (H:Heap) {p b:Bool} {os:List Prop} (h:p=b) (t:Obls os):Obls ((some (HV.bool p,H)=some (HV.bool b,H)) :: os):=Obls.cons (hintB h) t
end
end Go.HL
namespace Go.HL
theorem sq {P:Program} {pol:Pol} {f:FuncId} {a b c:Code} {e E1 E:Env} {H H1 H':Heap} {x:X} {K K1:List Nat} (h1:RunsTo P pol f a e H .normal K1 E1 H1) (h2:RunsTo P pol f b E1 H1 x K E H') (hc:c=.seq a b:=by kernel_rfl) (hK:K1=pol.keys f ++ headTmp b:=by kernel_rfl):RunsTo P pol f c e H x K E H':=RunsTo.seq h1 h2 hc hK
theorem sqo {P:Program} {pol:Pol} {f:FuncId} {a b c:Code} {e E:Env} {H H':Heap} {x:X} {K:List Nat} (h1:RunsTo P pol f a e H x K E H') (hx:x ≠ .normal:=by simp) (hc:c=.seq a b:=by kernel_rfl):RunsTo P pol f c e H x K E H':=RunsTo.seq_out h1 hx hc
theorem lpo {P:Program} {pol:Pol} {f:FuncId} {b c:Code} {e E:Env} {H H':Heap} {x:X} {K:List Nat} (h1:RunsTo P pol f b e H x K E H') (hx:x ≠ .normal:=by simp) (hc:c=.loop b:=by kernel_rfl) (he:lrestr pol f b e=e:=by kernel_rfl):RunsTo P pol f c e H x K E H':=RunsTo.loop_out h1 hx hc he
theorem lpi {P:Program} {pol:Pol} {f:FuncId} {b c:Code} {e0 e E:Env} {H H':Heap} {x:X} {K:List Nat} (h:RunsTo P pol f c e H x K E H') (hc:c=.loop b:=by kernel_rfl) (h0:lrestr pol f b e0=e:=by kernel_rfl) (he:lrestr pol f b e=e:=by kernel_rfl):RunsTo P pol f c e0 H x K E H':=RunsTo.loop_in h hc h0 he
theorem bke {P:Program} {pol:Pol} {f:FuncId} {b c:Code} {e E:Env} {H H':Heap} {K:List Nat} {i:Nat} (h:RunsTo P pol f b e H (.exit i) K E H') (hc:c=.block i b:=by kernel_rfl):RunsTo P pol f c e H .normal K E H':=RunsTo.block_exit h hc
theorem lop {P:Program} {pol:Pol} {f:FuncId} {b c:Code} {e E0 E1 E:Env} {H H1 H2 H':Heap} {x:X} {K K1:List Nat} (h1:RunsTo P pol f b e H .normal K1 E0 H1) (hg:gc H.length (bndE E1) H1=H2) (h2:RunsTo P pol f c E1 H2 x K E H') (hE:lrestr pol f b E0=E1:=by kernel_rfl) (hK:K1=pol.keys f:=by rfl) (hc:c=.loop b:=by kernel_rfl) (he:lrestr pol f b e=e:=by kernel_rfl):RunsTo P pol f c e H x K E H':=RunsTo.loop h1 hE hg h2 hK hc he
end Go.HL
section
open Go Go.HL
namespace Go.Proofs.Ytiejmoglooaalaa
abbrev RT (pol:Pol) (f:FuncId) (c:Code) (e:Env) (H:Heap) (x:X) (E:Env) (H':Heap):Prop:=RunsTo Try.prog pol f c e H x (pol.keys f) E H'
end Go.Proofs.Ytiejmoglooaalaa
end
section
open Go Go.HL
namespace Go.Proofs.Ytiejmoglooaalaa
open Go.Proofs.Try renaming prog → Tp
open Go.HL.HV renaming undef → Ud
def keysT:List (List Nat):=[[],[],[],[0,1,4,5,6,7,8,9,10,11,12,13,14,15,16],[0,1,2,6,7,8,9,10,11,12,13,14,15,16,17,18,19,21,22,24,25,26,28,29,31,32],[0,1,2,5,6,7,8,9,10,11,13,14,15,16,17,18,19,20,21,22,23,24,25],[0,1,4,5,6,7,8,9,10,11,13,14,15],[0,1,4,5,6,7,9,10,11,12,13,14,15,16,17,18,19,20,21,22,23,24,25],[0,1,2,6,7,8,9,10,11,12,13,14,15,16,17,18,19,20,21,23,24,26,27],[0,1,4,5,6,7,9,10,11,12,14,15,16,17,18,20,21,23],[0,1,2,6,7,8,9,10,11,12,14,15,16,17],[0,1,2,6,7,8,9,10,11,12,13,14,15,16,17,18,19,20],[0,1,2,5,6,7,8,9,10,11,12,13,14,15,16,17,19,20,21],[0,2,3],[0,1,4,5,6,7,8,9],[0,1,4,5,6,7,8,9,10,11,12,13,38,39,40],[0,1,4,5,6,7,9,10,11,12],[0,1,4,5,6],[0,1,2,3,4,5,6,7,8,9,10],[0,1,4,6,7,8,9,10,11,12],[0,1,4,5,6],[0,1,4,5],[0,1,4,5,6],[0,1,4,5,6,7,8,9,10,11],[0,1,4],[0,1,2,6,7,8,9,10],[0,1,4,5,6,7,8],[0,1,2,3,8,9,10,11,12,13,15,40,41,42],[0,1,2,6,7,8],[0,1,2,3,8,9,10,11,12,13],[0,1,4,5,6,7,8,9,10,11,12,13,14,31,32,33],[0,1,4,5,6,8,9,10,11],[0,1,4,5,7,8,9,10,11,12,13],[0,1,2,6,7,8,9,10,11,12,14,15,16,18,50,51,61,62,63],[0,2,3],[0,1,2,6,7,8,9,10,12,14,29,30,31,38,39,40],[0,1,2,6,7,8,9],[0,1,2,6,7,8,9,10,11],[0,1,2,6,7,8,10,11,12,14,15,16],[0,1,2,4,5,6,7],[0,1,2,3,4,5,7,10,11,12],[0,2],[0,1,2,4,5,7,8,9,10],[0,1,2,3,4,5,6,7,8,9,10,12,14,15,29,30,38,39,40,49,50,51],[0,1,2,4,5,6,7,8,9,10,11,16,17,18],[0,1,2,6,7],[0,2,3,4],[0,2,3,4,5,6],[0,1,2,3,8,9,10,11,12,13,14,15,16,17,18,19,20,21,22,23,24,25,26,27],[0,1,2,6,7,8,9,10],[0,1,2,6,7,8,9,10,11,12,13],[0,1,4,5],[0,1,2,6],[0,1,2,5],[0,1,2,3,4,7,8],[0,1,4],[0,1,2,6,7,8],[0,1,2,4,5,6,7,9,11,12,13],[0,1,2,4,5,6,8,9,10,11],[0,1,2,3,6,7,9,10,11,21,22,23],[0,1,2,3],[0,1,4],[0,1,2,3,8,9,10,11,12,13,14,15,16,17,18],[0,2],[0,1,2],[0,1,2,3,4,5,9,10,11,12,13,14,15,16,17,18,20,21,22,23,25,26,31,32,60,61,72,73,74],[0,1,4,5,6,7,8,9,10,11,12,13,14,15,16,17,18],[0,1,2,6,7],[0,1,4],[0,1,2,5],[0,2,4,5,6,7],[0,1,4,5,6],[0,1,3,4],[0,1,4],[0,1,4,5,7,8],[0,1,2,6,7],[0,1,2,6,7,8,9,10],[0,1,2,6,7,8,9,10],[0,1,2,6,7,8,9,10,11,12,49],[0,1,2,6,7],[0,1,2,6,7,8,9,10],[0,1,4],[0,1,2,3,8,9,10],[0,1,2,3,8,9,10,11],[0,2],[0,2],[0,1,2,3,4,5],[0,1,4,5,6,7,8,9,10,11,13,14],[0,1,2,3,4,10,11,12,13,14,15,16,17,18,19,20],[0,2],[0,1,4,5,6,7],[0,2],[0,1,3],[0,1,4,5,7,8],[0,1,2,3,8,9],[0,2],[0,2],[0,1,2,6],[0,1,2,3,4,10],[0,1,2,3,8,9],[0,1,2,3,8,9,10,11,12],[0,1,2,8,9,10,11,12],[0,1,2,3,8,9,10,11,12,13,14,55],[0,1,2,8,9],[0,1,2,3,8,9,10,11,12],[0,1,2,3,4,10,11,12],[0,1,2,3,4,10,11,12,13],[0,1,4,5,7,8],[0,1,2,3,8,9],[0,1,2,3,4,10,11],[0,1,2,3,8],[0,1,2,3,4,5,12],[0,1,2,3,4,10,11],[],[],[],[],[],[],[],[],[],[],[],[],[],[],[],[]]
def resT:List (List Nat):=[[],[],[],[4],[6],[6],[4],[4],[6],[4],[6],[6],[6],[2],[4,5,6],[4,5],[4,5],[4],[0],[4],[4,5],[4],[4],[4,5],[4],[6],[4,5],[8,9],[6],[8,9],[4,5,6],[4,5],[4],[6,7,8],[2],[6,7,8],[6],[6],[6,7],[5],[2,3],[],[4],[2,3,4],[4],[6],[2],[2],[8],[6],[6,7],[4],[6],[0],[2],[4],[6],[4,5],[4],[6],[3],[4],[],[2],[],[10],[4],[6],[],[5],[2],[4],[4],[4],[4],[],[],[],[6,7],[],[6],[4],[8],[8,9],[2],[2],[],[4],[],[2],[4],[2],[3],[4],[],[2],[2],[6],[10],[],[],[],[8,9],[],[8],[10],[10,11],[4],[8,9],[],[8],[12],[10,11],[],[],[],[],[],[],[],[],[],[],[],[],[],[],[],[]]
def sharedT:List Nat:=[39,41,53,55,56,57,60,61,62,64,65,68,69,74,75,76,77,78,79,80,82,83,86,87,88,90,92,94,96,97,98,99,100,101,102,103,104,105,106,107,108,109,110,111,112,121,122,123,124,125,126,127]
def deadT:List (Nat × Nat × List Nat):=[(4,4,[9,10,11,12,13,14,15,16,17,18,19,21,22,24,25,26,28,29,31,32]),(4,14,[8,12,14,17,18,19,21,22,24,25,26,28,29,31,32]),(5,13,[5,10,13,15,16,17,18,19,20,21,24,25]),(7,4,[7,9,10,11,12,13,14,15,16,17,18,19,20,21,22,23,24,25]),(7,14,[6,19,20,21,22,23,24,25]),(7,18,[6,21,22,23,24,25]),(7,25,[6,20,22,23,24,25]),(7,31,[5,6,9,18,19,20,21,22]),(8,6,[12,13,14,15,16,17,18,19,20,21,23,24,26,27]),(8,14,[15,16,17,18,19,20,21,23,24,26,27]),(8,22,[9,11,12,13,14,17,18,19,20,21,23,24,26,27]),(8,31,[8,9,11,12,13,14,15,16,18,19,23,24,26,27]),(9,9,[7,10,12,17,18,20,21,23]),(9,12,[7,10,12,18,20,21,23]),(9,20,[7,9,10,11,12,14,15,16,17,18,20,21]),(10,10,[12,17]),(11,13,[8,10,12,13,14,15,17,18,19,20]),(15,9,[7,8,11,12,13]),(17,2,[6]),(19,8,[6,11,12]),(19,14,[6]),(23,4,[10,11]),(23,7,[11]),(25,3,[9,10]),(25,11,[8,9]),(27,7,[10,11,15]),(28,2,[8]),(29,6,[13]),(30,9,[7,8,9,13,14]),(32,4,[9,10,11,12,13]),(32,9,[11,12,13]),(32,14,[10,12,13]),(33,10,[9,10,11,15,16,18,61,62,63]),(33,16,[9,10,11,12,15,18,50,51]),(35,5,[10,12,14,38,39,40]),(35,8,[10,14]),(37,3,[9,10,11]),(38,5,[14,15,16]),(38,12,[8,10,11,12]),(40,4,[7]),(42,3,[7]),(43,7,[6,9,10,12,14,15,38,39,40,49,50,51]),(43,13,[6,9,12,14,15,29,30,49,50,51]),(43,17,[6,9,14,15,29,30]),(44,5,[8,9,10,11]),(47,3,[5,6]),(47,6,[6]),(48,4,[12,13,14,15,16,17,18,19,20,21,22,23,24,25,26,27]),(48,8,[11,13,14,15,16,17,18,19,20,21,22,23,24,25,26,27]),(48,20,[11,12,13,14,15,16,19,20,21,22,23,24,25,26,27]),(48,25,[11,12,13,14,15,16,21,22,23,24,25,26,27]),(48,31,[11,12,13,14,15,16,20,23,24,25,26,27]),(48,35,[11,12,13,14,15,16,20,25,26,27]),(50,4,[11,12,13]),(50,12,[10,11]),(53,3,[2]),(54,3,[4]),(57,4,[9]),(58,2,[5,6,8]),(59,4,[3,10,11]),(62,2,[10,11,12,13,14,15,16,17,18]),(65,3,[12,13,14,15,16,17,18,20,21,22,23,31,32,60,61,72,73,74]),(65,7,[14,15,16,17,18,20,21,22,23,60,61,72,73,74]),(65,16,[12,14,17,18,20,21,22,23,31,32,72,73,74]),(65,22,[12,14,15,17,20,21,22,23,31,32,60,61]),(66,3,[7,8,9,10,11,12,13,14,15,16,17,18]),(66,7,[9,10,11,12,13,14,15,16,17,18]),(66,13,[6,7,8,11,12,13,14,15,16,17,18]),(66,16,[6,7,8,12,13,14,15,16,17,18]),(66,29,[6,7,8,11,12,16,17,18]),(66,34,[6,7,8,11,12]),(70,2,[4]),(74,2,[5]),(75,1,[7]),(76,4,[10]),(76,8,[8,9]),(77,5,[10]),(80,3,[9,10]),(80,5,[9,10]),(80,14,[10]),(80,20,[9]),(87,3,[6,7,8,9,10,11]),(87,6,[8,9,10,11]),(87,16,[7,10,11]),(87,20,[7]),(88,2,[12,13,14,15,16,17,18,19,20]),(90,5,[7]),(93,2,[5]),(94,1,[9]),(99,1,[9]),(100,4,[12]),(100,8,[10,11]),(101,5,[12]),(104,3,[11,12]),(104,5,[11,12]),(104,14,[12]),(104,20,[11]),(107,2,[5]),(109,1,[11])]
def pol:Pol where
  shared g:=sharedT.contains g
  freeze _ _:=true
  freezeS _ _:=false
  blk g d:=!((resT.getD g []).contains d)
  nilf g:=g == 91
  deep _:=false
  prim _:=none
  rows _ _:=false
  keys g:=keysT.getD g []
  quiet f r:=if f == 25 && r == 5 then [6,13] else []
  dead f r:=((deadT.find? fun p=>p.1 == f && p.2.1 == r).map (·.2.2)).getD []
theorem follows_mixed:Tp.follows .mixedOrders=true:=by kernel_rfl
set_option maxRecDepth 100000 in
theorem fns_ok:(Tp.funcs.toList.zipIdx.all fun p=>fnOk pol p.2 p.1)=true:=by kernel_rfl
theorem sound (n:Nat):CallSound Tp (callN Tp pol n) :=
  callN_ok follows_mixed (fun g fn h=>List.all_eq_true.1 fns_ok (fn,g) (by
      rw [List.mem_zipIdx_iff_getElem?]
      simpa using h)) (fun g F h=>by cases h) n
theorem sound_prim (F:FuncId → Option (List HV → Option HV)) (hF:∀ g f,F g=some f → PrimOk Tp g f) (n:Nat):CallSound Tp (callN Tp { pol with prim:=F } n) :=
  callN_ok follows_mixed (fun g fn h=>by
    rw [fnOk_prim]
    exact List.all_eq_true.1 fns_ok (fn,g) (by
      rw [List.mem_zipIdx_iff_getElem?]
      simpa using h)) hF n
def modW (a:Int) (n:Int):Int:=IntKind.i64.wrap ((IntKind.u64.wrap a).tmod (IntKind.u64.wrap n))
theorem wrapU64 (n:Int):IntKind.u64.wrap n=n % 18446744073709551616:=by simp [IntKind.wrap,IntKind.signed,IntKind.bits]
theorem wrapI64 (n:Int):IntKind.i64.wrap n=(n+9223372036854775808) % 18446744073709551616 - 9223372036854775808:=by rw [IntKind.wrap_i64]
theorem modW_bounds (a n:Int) (h0:0 < n) (h1:n < 9223372036854775808):0 ≤ modW a n∧modW a n < n:=by
  have hn:IntKind.u64.wrap n=n:=by rw [wrapU64]; omega
  have ha:0 ≤ IntKind.u64.wrap a:=by rw [wrapU64]; omega
  have hm0:0 ≤ IntKind.u64.wrap a % n:=Int.emod_nonneg _ (by omega)
  have hm1:IntKind.u64.wrap a % n < n:=Int.emod_lt_of_pos _ h0
  simp only [modW,hn]
  rw [Int.tmod_eq_emod_of_nonneg ha,wrapI64]
  constructor <;> omega
end Go.Proofs.Ytiejmoglooaalaa
end
section
open Go Go.HL
namespace Go.Proofs.Ytiejmoglooaalaa
open Go.Proofs.Try renaming prog → Tp
open Go.HL.HV renaming undef → Ud
abbrev bI (l:List Int):Blk:=.arr 1 (l.map encI) true 0
theorem wrap_succ {j:Nat} (h:j < 4611686018427387904):IntKind.i64.wrap ((j:Int)+1)=((j+1:Nat):Int):=by rw [wrapI64]; omega
theorem wrap_pred {j:Nat} (h0:0 < j) (h:j < 4611686018427387904):IntKind.i64.wrap ((j:Int) - 1)=((j - 1:Nat):Int):=by rw [wrapI64]; omega
theorem wrap_id {n:Int} (h0:-4611686018427387904 ≤ n) (h:n < 4611686018427387904):IntKind.i64.wrap n=n:=by rw [wrapI64]; omega
theorem argP_ints':∀ (l:List Int),argPL (l.map encI)=some (l.map encI)
  | []=>rfl
  | p :: l=>by simp only [List.map_cons,argPL,argP_ints' l,encI,argP]
theorem arg_li (H:Heap) (l:List Int):toArg H 6 (.imm .arg 1 (l.map encI))=some (.imm .arg 1 (l.map encI)):=by
  show argP (.imm .arg 1 (l.map encI))=_
  simp only [argP,argP_ints']
theorem encI_any (l:List Int):(l.map encI).any isOwn=false:=by
  rw [List.any_eq_false]
  intro v hv
  obtain ⟨k,_,rfl⟩:=List.mem_map.1 hv
  simp [encI,isOwn]
theorem recv_ints (l:List Int) (H:Heap):recv (.own 1 (l.map encI)) H=(.sl H.length 0 l.length none l.length 1,H ++ [bI l]):=by
  simp only [recv,recvVal,recvCell,encI_any,List.length_map]
  rfl
theorem ints_bnd:∀ (l:List Int),bndL (l.map encI)=0
  | []=>rfl
  | a :: l=>by simp only [List.map_cons,bndL,ints_bnd l,encI,bnd]; rfl
theorem fnok (F:FuncId → Option (List HV → Option HV)) (g:FuncId) (fn:Func) (h:Tp.funcs[g]?=some fn):fnOk { pol with prim:=F } g fn=true:=by
  rw [fnOk_prim]
  exact List.all_eq_true.1 fns_ok (fn,g) (by
    rw [List.mem_zipIdx_iff_getElem?]
    simpa using h)
theorem gc_eq {H H':Heap} (r:Nat) (h:H'.length=H.length):gc H.length r H'=H':=by
  unfold gc
  rw [List.take_of_length_le (by omega)]
theorem nb_false {b:Bool} (h:¬ b=true):b=false:=by cases b <;> simp_all
theorem u24:Tp.underlying 24=some (.slice 3):=by kernel_rfl
theorem z3:tySize Tp 3=some 1:=by kernel_rfl
theorem a3:tyAgg Tp 3=false:=by kernel_rfl
theorem i3:(Tp.underlying 3).isSome=true:=by kernel_rfl
theorem a4:tyAgg Tp 4=false:=by kernel_rfl
theorem i4:(Tp.underlying 4).isSome=true:=by kernel_rfl
theorem a24:tyAgg Tp 24=false:=by kernel_rfl
theorem i24:(Tp.underlying 24).isSome=true:=by kernel_rfl
theorem gx {l:List Int} {y:Nat} (hy:y < l.length):idxV Tp 24 (.imm .arg 1 (l.map encI)) (.int .i64 (y:Int))=some (.vptr (.int .i64 (l.getD y 0))) :=
  idx_imm u24 z3 (by omega) (by rw [Int.toNat_natCast,List.getElem?_map,List.getElem?_eq_getElem hy]; simp [List.getD,List.getElem?_eq_getElem hy,encI])
theorem load_out {H:Heap} {k:Nat} {o:List Int} (h:H[k]?=some (bI o)) {y:Nat} (hy:y < o.length):loadV Tp H 3 (.ptr k y 0 o.length)=some (.int .i64 (o.getD y 0)) :=
  load_elem (b:=k) h (by simp) (by rw [List.getElem?_map,List.getElem?_eq_getElem hy]; simp [List.getD,List.getElem?_eq_getElem hy,encI]) rfl a3 i3
theorem store_out {H:Heap} {k:Nat} {o:List Int} (h:H[k]?=some (bI o)) {y:Nat} (hy:y < o.length) (v:Int):storeV Tp H 3 (.ptr k y 0 o.length) (.int .i64 v)=some (H.set k (bI (o.set y v))):=by
  have hi:(o.map encI)[y]?=some (encI o[y]):=by rw [List.getElem?_map,List.getElem?_eq_getElem hy]; rfl
  have:=store_elem (P:=Tp) (t:=3) (b:=k) (tot:=o.length) (v:=.int .i64 v) h (by simp) hi rfl (by intro cs h; cases h) z3 rfl rfl (by simp [bnd])
  rw [this]
  show some (H.set k (.arr 1 ((o.map encI).set y (encI v)) true 0))=_
  rw [bI,List.map_set]
theorem res_li {H:Heap} {b k:Nat} {o:List Int} (hb:H[b]?=some (bI o)) (hk:o.length=k):toRes H false (.sl b 0 k none k 1)=some (.own 1 (o.map encI)):=by
  have hr:=resCell_sl (H:=H) (no:=[b]) (b:=b) (k:=1) (m:=k) (cap:=none) (els:=o.map encI) hb (by simpa using hk) (mapO_self (fun r=>frz_int 4 r) _)
  have ho:ownedAll H false (.sl b 0 k none k 1)=[b]:=by simp [ownedAll,cellsOf,owned,hb]
  simp only [toRes,ho,List.nodup_cons,List.not_mem_nil,not_false_eq_true,List.nodup_nil,and_self,if_true,resVal,hr]
theorem app_ints {H:Heap} {b:Nat} {o xs:List Int} (hb:H[b]?=some (bI o)) (hlen:o.length+xs.length ≤ 1000) (hx:xs ≠ []) :
    appV H 1 8 (.sl b 0 o.length none o.length 1) (xs.map encI)=some (.sl b 0 (o ++ xs).length none (o ++ xs).length 1,H.set b (bI (o ++ xs))):=by
  have:=app_sl (H:=H) (k:=1) (bytes:=8) (b:=b) (n:=o.length) (mx:=0) (els:=o.map encI) (xs:=xs.map encI) hb (by simp) (by simpa using hx) (by rw [List.length_map]; simp only [roomMax]; omega) (ints_bnd xs)
  rw [this]
  simp [bI]
theorem arg_sl {H:Heap} {l:List Int} {b m:Nat} (hm:l.length=m) (hb:H[b]?=some (bI l)):toArg H 6 (.sl b 0 m none m 1)=some (.imm .arg 1 (l.map encI)):=by
  subst hm
  have e:toArg H 6 (.sl b 0 l.length none l.length 1)=if l.length=0 then some (.imm .arg 1 []) else match view H b 0 l.length l.length 1 with | some l=>(match mapO (toArg H 5) l with | some l=>some (.imm .arg 1 l) | none=>none) | none=>none:=rfl
  rw [e]
  split
  · rename_i h0
    rw [List.length_eq_zero_iff.1 h0]; rfl
  · have hv:view H b 0 l.length l.length 1=some (l.map encI):=by
      simp only [view,hb,List.length_map]
      rw [if_pos ⟨trivial,by omega,trivial⟩]
      simp [List.take_of_length_le]
    have hm:mapO (toArg H 5) (l.map encI)=some (l.map encI):=mapO_self (f:=toArg H 5) (g:=encI) (fun _=>rfl) l
    rw [hv]
    simp only [hm]
abbrev St:Type:=Int × Int × Int
def encT (s:St):HV:=.agg [.int .i64 s.1,.int .i64 s.2.1,.int .i64 s.2.2]
def decT:HV → Option St | .agg [.int .i64 a,.int .i64 b,.int .i64 w]=>some (a,b,w) | _=>none
theorem decT_enc (s:St):decT (encT s)=some s:=rfl
theorem decT_inv (b:HV) (a:St) (h:decT b=some a):b=encT a:=by
  unfold decT at h
  split at h
  · cases h; rfl
  · cases h
abbrev bS (l:List St):Blk:=.arr 3 (l.map encT) true 0
theorem u22:Tp.underlying 22=some (.slice 42):=by kernel_rfl
theorem z42:tySize Tp 42=some 3:=by kernel_rfl
theorem a22:tyAgg Tp 22=false:=by kernel_rfl
theorem i22:(Tp.underlying 22).isSome=true:=by kernel_rfl
theorem a66:tyAgg Tp 66=true:=by kernel_rfl
theorem z66:tySize Tp 66=some 2:=by kernel_rfl
theorem argP_sts:∀ (l:List St),argPL (l.map encT)=some (l.map encT)
  | []=>rfl
  | p :: l=>by simp only [List.map_cons,argPL,argP_sts l,encT,argP]
theorem arg_sts (H:Heap) (l:List St):toArg H 6 (.imm .arg 3 (l.map encT))=some (.imm .arg 3 (l.map encT)):=by
  show argP (.imm .arg 3 (l.map encT))=_
  simp only [argP,argP_sts]
theorem arg_sts5 (H:Heap) (l:List St):toArg H 5 (.imm .arg 3 (l.map encT))=some (.imm .arg 3 (l.map encT)):=by
  show argP (.imm .arg 3 (l.map encT))=_
  simp only [argP,argP_sts]
theorem sts_bnd:∀ (l:List St),bndL (l.map encT)=0
  | []=>rfl
  | a :: l=>by simp only [List.map_cons,bndL,sts_bnd l,encT,bnd]; rfl
theorem sts_any (l:List St):(l.map encT).any isOwn=false:=by
  rw [List.any_eq_false]
  intro v hv
  obtain ⟨k,_,rfl⟩:=List.mem_map.1 hv
  simp [encT,isOwn]
theorem recv_sts (l:List St) (H:Heap):recv (.own 3 (l.map encT)) H=(.sl H.length 0 l.length none l.length 3,H ++ [bS l]):=by
  simp only [recv,recvVal,recvCell,sts_any,List.length_map]
  rfl
theorem gs {l:List St} {y:Nat} (hy:y < l.length):idxV Tp 22 (.imm .arg 3 (l.map encT)) (.int .i64 (y:Int))=some (.vptr (encT (l.getD y (0,0,0)))) :=
  idx_imm u22 z42 (by omega) (by rw [Int.toNat_natCast,List.getElem?_map,List.getElem?_eq_getElem hy]; simp [List.getD,List.getElem?_eq_getElem hy])
theorem arg_slS {H:Heap} {l:List St} {b m:Nat} (hm:l.length=m) (hb:H[b]?=some (bS l)):toArg H 6 (.sl b 0 m none m 3)=some (.imm .arg 3 (l.map encT)):=by
  subst hm
  have e:toArg H 6 (.sl b 0 l.length none l.length 3)=if l.length=0 then some (.imm .arg 3 []) else match view H b 0 l.length l.length 3 with | some l=>(match mapO (toArg H 5) l with | some l=>some (.imm .arg 3 l) | none=>none) | none=>none:=rfl
  rw [e]
  split
  · rename_i h0
    rw [List.length_eq_zero_iff.1 h0]; rfl
  · have hv:view H b 0 l.length l.length 3=some (l.map encT):=by
      simp only [view,hb,List.length_map]
      rw [if_pos ⟨trivial,by omega,trivial⟩]
      simp [List.take_of_length_le]
    have hm:mapO (toArg H 5) (l.map encT)=some (l.map encT):=mapO_self (f:=toArg H 5) (g:=encT) (fun _=>rfl) l
    rw [hv]
    simp only [hm]
def encN (n:Int) (l:List St):HV:=.agg [.int .i64 n,.imm .arg 3 (l.map encT)]
theorem arg_net (H:Heap) (n:Int) (l:List St):toArg H 6 (encN n l)=some (encN n l):=by
  have h5:=arg_sts5 H l
  have e:toArg H 6 (encN n l)=match mapO (toArg H 5) [.int .i64 n,.imm .arg 3 (l.map encT)] with | some l=>some (.agg l) | none=>none:=rfl
  rw [e]
  have h6:toArg H 5 (.int .i64 n)=some (.int .i64 n):=rfl
  simp only [mapO,h5,h6]
  rfl
end Go.Proofs.Ytiejmoglooaalaa
end
section
open Go Go.HL
namespace Go.Proofs.Ytiejmoglooaalaa
open Go.Proofs.Try renaming prog → Tp
open Go.HL.HV renaming undef → Ud
structure Cd (α:Type) where
  enc:α → HV
  dec:HV → Option α
  inv:∀ a x,dec a=some x → a=enc x
  de:∀ x,dec (enc x)=some x
  arg:∀ (H:Heap) x,toArg H 6 (enc x)=some (enc x)
def kI:Cd Int:=⟨encI,decI,decI_inv,decI_enc,fun _ _=>rfl⟩
def decL:HV → Option (List Int) | .imm .arg 1 l=>mapO decI l | _=>none
theorem decL_inv (a:HV) (x:List Int) (h:decL a=some x):a=.imm .arg 1 (x.map encI):=by
  unfold decL at h
  split at h
  · rw [mapO_inv decI_inv h]
  · cases h
def kL:Cd (List Int):=⟨fun l=>.imm .arg 1 (l.map encI),decL,decL_inv,fun l=>mapO_map decI_enc l,fun H l=>arg_li H l⟩
def decS:HV → Option (List St) | .imm .arg 3 l=>mapO decT l | _=>none
theorem decS_inv (a:HV) (x:List St) (h:decS a=some x):a=.imm .arg 3 (x.map encT):=by
  unfold decS at h
  split at h
  · rw [mapO_inv decT_inv h]
  · cases h
def kS:Cd (List St):=⟨fun l=>.imm .arg 3 (l.map encT),decS,decS_inv,fun l=>mapO_map decT_enc l,fun H l=>arg_sts H l⟩
def decN:HV → Option (Int × List St) | .agg [.int .i64 n,.imm .arg 3 l]=>(match mapO decT l with | some l=>some (n,l) | none=>none) | _=>none
theorem decN_inv (a:HV) (x:Int × List St) (h:decN a=some x):a=encN x.1 x.2:=by
  unfold decN at h
  split at h
  · split at h
    · rename_i hl
      cases h
      rw [mapO_inv decT_inv hl]; rfl
    · cases h
  · cases h
theorem decN_enc (p:Int × List St):decN (encN p.1 p.2)=some p:=by
  have:=mapO_map decT_enc p.2
  simp only [decN,encN,this]
def kN:Cd (Int × List St):=⟨fun p=>encN p.1 p.2,decN,decN_inv,decN_enc,fun H p=>arg_net H p.1 p.2⟩
section
variable {α β γ δ:Type}
def f1 (c1:Cd α) (f:α → Option HV):List HV → Option HV
  | [a]=>(match c1.dec a with | some x=>f x | none=>none)
  | _=>none
def f2 (c1:Cd α) (c2:Cd β) (f:α → β → Option HV):List HV → Option HV
  | [a,b]=>(match c1.dec a,c2.dec b with | some x,some y=>f x y | _,_=>none)
  | _=>none
def f3 (c1:Cd α) (c2:Cd β) (c3:Cd γ) (f:α → β → γ → Option HV):List HV → Option HV
  | [a,b,c]=>(match c1.dec a,c2.dec b,c3.dec c with | some x,some y,some z=>f x y z | _,_,_=>none)
  | _=>none
def f4 (c1:Cd α) (c2:Cd β) (c3:Cd γ) (c4:Cd δ) (f:α → β → γ → δ → Option HV):List HV → Option HV
  | [a,b,c,d]=>(match c1.dec a,c2.dec b,c3.dec c,c4.dec d with | some x,some y,some z,some w=>f x y z w | _,_,_,_=>none)
  | _=>none
theorem f1_inv {c1:Cd α} {f:α → Option HV} {args:List HV} {res:HV} (h:f1 c1 f args=some res):∃ x,args=[c1.enc x]∧f x=some res:=by
  unfold f1 at h
  split at h
  · rename_i a
    split at h
    · rename_i x hx
      exact ⟨x,by rw [c1.inv _ _ hx],h⟩
    · cases h
  · cases h
theorem f2_inv {c1:Cd α} {c2:Cd β} {f:α → β → Option HV} {args:List HV} {res:HV} (h:f2 c1 c2 f args=some res):∃ x y,args=[c1.enc x,c2.enc y]∧f x y=some res:=by
  unfold f2 at h
  split at h
  · rename_i a b
    split at h
    · rename_i x y hx hy
      exact ⟨x,y,by rw [c1.inv _ _ hx,c2.inv _ _ hy],h⟩
    · cases h
  · cases h
theorem f3_inv {c1:Cd α} {c2:Cd β} {c3:Cd γ} {f:α → β → γ → Option HV} {args:List HV} {res:HV} (h:f3 c1 c2 c3 f args=some res):∃ x y z,args=[c1.enc x,c2.enc y,c3.enc z]∧f x y z=some res:=by
  unfold f3 at h
  split at h
  · rename_i a b c
    split at h
    · rename_i x y z hx hy hz
      exact ⟨x,y,z,by rw [c1.inv _ _ hx,c2.inv _ _ hy,c3.inv _ _ hz],h⟩
    · cases h
  · cases h
def Sh (c:Cd α) (H:Heap) (v:HV) (x:α):Prop:=toArg H 6 v=some (c.enc x)
theorem Sh.enc (c:Cd α) (H:Heap) (x:α):Sh c H (c.enc x) x:=c.arg H x
end
section
variable {α β γ δ:Type}
variable {pol':Pol} {g:FuncId} {H:Heap} {v1 v2 v3 v4:HV} {res:HV}
theorem at1 {c1:Cd α} {f:α → Option HV} {x:α} (hp:pol'.prim g=some (f1 c1 f)) (h1:Sh c1 H v1 x) (hr:f x=some res):∀ k,callN Tp pol' (k+1) g [v1] H=some (recv res H):=fun k=>by
  unfold Sh at h1
  exact prim_call hp (rs:=[c1.enc x]) (by simp only [mapO,h1]) (by simp only [f1,c1.de]; exact hr)
theorem at2 {c1:Cd α} {c2:Cd β} {f:α → β → Option HV} {x:α} {y:β} (hp:pol'.prim g=some (f2 c1 c2 f)) (h1:Sh c1 H v1 x) (h2:Sh c2 H v2 y) (hr:f x y=some res):∀ k,callN Tp pol' (k+1) g [v1,v2] H=some (recv res H):=fun k=>by
  unfold Sh at h1 h2
  exact prim_call hp (rs:=[c1.enc x,c2.enc y]) (by simp only [mapO,h1,h2]) (by simp only [f2,c1.de,c2.de]; exact hr)
theorem at3 {c1:Cd α} {c2:Cd β} {c3:Cd γ} {f:α → β → γ → Option HV} {x:α} {y:β} {z:γ} (hp:pol'.prim g=some (f3 c1 c2 c3 f)) (h1:Sh c1 H v1 x) (h2:Sh c2 H v2 y) (h3:Sh c3 H v3 z) (hr:f x y z=some res):∀ k,callN Tp pol' (k+1) g [v1,v2,v3] H=some (recv res H):=fun k=>by
  unfold Sh at h1 h2 h3
  exact prim_call hp (rs:=[c1.enc x,c2.enc y,c3.enc z]) (by simp only [mapO,h1,h2,h3]) (by simp only [f3,c1.de,c2.de,c3.de]; exact hr)
end
theorem ShI (H:Heap) (n:Int):Sh kI H (.int .i64 n) n:=rfl
theorem ShL_imm (H:Heap) (l:List Int):Sh kL H (.imm .arg 1 (l.map encI)) l:=arg_li H l
theorem ShL_sl {H:Heap} {l:List Int} {b m:Nat} (hm:l.length=m) (hb:H[b]?=some (bI l)):Sh kL H (.sl b 0 m none m 1) l:=arg_sl hm hb
theorem ShS_imm (H:Heap) (l:List St):Sh kS H (.imm .arg 3 (l.map encT)) l:=arg_sts H l
theorem ShS_sl {H:Heap} {l:List St} {b m:Nat} (hm:l.length=m) (hb:H[b]?=some (bS l)):Sh kS H (.sl b 0 m none m 3) l:=arg_slS hm hb
theorem ShN (H:Heap) (n:Int) (l:List St):Sh kN H (encN n l) (n,l):=arg_net H n l
end Go.Proofs.Ytiejmoglooaalaa
end
section
open Go Go.HL
namespace Go.Proofs.Ytiejmoglooaalaa
open Go.Proofs.Try renaming prog → Tp
open Go.HL.HV renaming undef → Ud
theorem count {pol':Pol} {f:FuncId} {b c:Code} {E E0:Nat → Env} {Hs H1:Nat → Heap} {x:X} {E':Env} {H':Heap} (n:Nat)
    (step:∀ i,i < n → RunsTo Tp pol' f b (E i) (Hs i) .normal (pol'.keys f) (E0 i) (H1 i)) (hE:∀ i,i < n → lrestr pol' f b (E0 i)=E (i+1))
    (hg:∀ i,i < n → gc (Hs i).length (bndE (E (i+1))) (H1 i)=Hs (i+1)) (out:RunsTo Tp pol' f b (E n) (Hs n) x (pol'.keys f) E' H') (hx:x ≠ .normal) (hc:c=.loop b) (he:∀ i,i ≤ n → lrestr pol' f b (E i)=E i) :
    RunsTo Tp pol' f c (E 0) (Hs 0) x (pol'.keys f) E' H':=by
  have key:∀ k i,i+k=n → RunsTo Tp pol' f c (E i) (Hs i) x (pol'.keys f) E' H':=by
    intro k
    induction k with
    | zero =>
      intro i hi
      have:i=n:=by omega
      subst this
      exact RunsTo.loop_out out hx hc (he _ (Nat.le_refl _))
    | succ k ih =>
      intro i hi
      exact RunsTo.loop (step i (by omega)) (hE i (by omega)) (hg i (by omega)) (ih (i+1) (by omega)) rfl hc (he i (by omega))
  exact key n 0 (Nat.zero_add n)
theorem CallsTo.shared {P:Program} {pol:Pol} {g:FuncId} {fn:Func} {cd:Code} {args:List HV} {x:X} {E:Env} {H H':Heap} {v:HV} (hp:pol.prim g=none) (hf:P.funcs[g]?=some fn) (hb:fn.body=some cd) (hs:pol.shared g=true)
    (hrun:RunsTo P pol g cd (args0 args) H x (pol.keys g) E H') (hres:(fn.results.toList.all fun r=>match r with | .tmp t=>(pol.keys g).contains t | .cell t _=>(pol.keys g).contains t)=true) (hx:∀ i,x ≠ .exit i) (hv:resultsV P fn E H'=some v) :
    CallsTo (P:=P) (pol:=pol) g args H v (gc H.length (bnd v) H'):=by
  obtain ⟨m,h⟩:=hrun
  refine ⟨m+1,fun k hk=>?_⟩
  obtain ⟨k,rfl⟩:∃ n',k=n'+1:=⟨k - 1,by omega⟩
  obtain ⟨e1,g1,g2⟩:=h k k (by omega) (by omega)
  subst g2
  rw [resultsV_restr hres] at hv
  simp only [callN,doCall,hp,hf,hb,hs,if_true,sharedCall,g1]
  cases x with
  | exit i=>exact absurd rfl (hx i)
  | normal=>simp only [hv]
  | ret=>simp only [hv]
theorem CallsTo.from {pol:Pol} {g:FuncId} {args:List HV} {H H':Heap} {r:HV} (h:CallsTo (P:=Tp) (pol:=pol) g args H r H'):∃ N,∀ kf,N ≤ kf → callN Tp pol (kf+1) g args H=some (r,H'):=by
  obtain ⟨m,h⟩:=h
  exact ⟨m,fun kf hk=>h (kf+1) (by omega)⟩
theorem countI {pol':Pol} {f:FuncId} {b c:Code} {I:Nat → Env → Heap → Prop} {Q:X → Env → Heap → Prop} (n:Nat)
    (step:∀ i,i < n → ∀ e H,I i e H → ∃ E0 H1,RunsTo Tp pol' f b e H .normal (pol'.keys f) E0 H1∧I (i+1) (lrestr pol' f b E0) (gc H.length (bndE (lrestr pol' f b E0)) H1))
    (out:∀ e H,I n e H → ∃ x E' H',RunsTo Tp pol' f b e H x (pol'.keys f) E' H'∧x ≠ .normal∧Q x E' H') (hc:c=.loop b) (he:∀ i e H,I i e H → lrestr pol' f b e=e) {e:Env} {H:Heap} (h0:I 0 e H) :
    ∃ x E' H',RunsTo Tp pol' f c e H x (pol'.keys f) E' H'∧Q x E' H':=by
  have key:∀ k i e H,i+k=n → I i e H → ∃ x E' H',RunsTo Tp pol' f c e H x (pol'.keys f) E' H'∧Q x E' H':=by
    intro k
    induction k with
    | zero =>
      intro i e H hi hI
      have:i=n:=by omega
      subst this
      obtain ⟨x,E',H',h1,h2,h3⟩:=out e H hI
      exact ⟨x,E',H',RunsTo.loop_out h1 h2 hc (he _ _ _ hI),h3⟩
    | succ k ih =>
      intro i e H hi hI
      obtain ⟨E0,H1,h1,h2⟩:=step i (by omega) e H hI
      obtain ⟨x,E',H',h3,h4⟩:=ih (i+1) _ _ (by omega) h2
      exact ⟨x,E',H',RunsTo.loop h1 rfl rfl h3 rfl hc (he _ _ _ hI),h4⟩
  exact key n 0 e H (Nat.zero_add n) h0
theorem take_min {α:Type} (l:List α) (k:Nat):l.take (min l.length k)=l.take k:=by
  rw [List.take_eq_take_iff]; omega
theorem slice_immS {w:Nat} {l:List HV} (hw:w ≤ l.length):sliceV Tp 22 (.imm .arg 3 l) none (some (.int .i64 (w:Int))) none=some (.imm .arg 3 (l.take w)):=by
  simp only [sliceV,boundV,u22,z42]
  rw [if_pos (by omega:(0:Int) ≤ (w:Int))]
  simp [hw]
theorem getD_at {α:Type} {o:List α} {d:α} {y:Nat} (h:y < o.length):o.getD y d=o[y]:=by simp [List.getD,List.getElem?_eq_getElem h]
theorem app_in1 {H:Heap} {b:Nat} {o:List Int} (hb:H[b]?=some (bI o)) (hlen:o.length ≤ 990) (x:Int) :
    appV H 1 8 (.sl b 0 o.length none o.length 1) [.int .i64 x]=some (.sl b 0 (o.length+1) none (o.length+1) 1,H.set b (bI (o ++ [x]))):=by
  have:=app_ints (H:=H) (b:=b) (o:=o) (xs:=[x]) hb (by simp; omega) (by simp)
  rw [List.length_append,List.length_singleton] at this
  exact this
theorem app_sts {H:Heap} {b:Nat} {o xs:List St} (hb:H[b]?=some (bS o)) (hlen:o.length+xs.length ≤ 1000) (hx:xs ≠ []) :
    appV H 3 24 (.sl b 0 o.length none o.length 3) (xs.map encT)=some (.sl b 0 (o ++ xs).length none (o ++ xs).length 3,H.set b (bS (o ++ xs))):=by
  have:=app_sl (H:=H) (k:=3) (bytes:=24) (b:=b) (n:=o.length) (mx:=0) (els:=o.map encT) (xs:=xs.map encT) hb (by simp) (by simpa using hx) (by rw [List.length_map]; simp only [roomMax]; omega) (sts_bnd xs)
  rw [this]
  simp [bS]
theorem frz_sts (no:List Nat) (H:Heap) (s:St):frz H no 4 (encT s)=some (encT s):=by
  have e:frz H no 4 (encT s)=match mapO (frz H no 3) [.int .i64 s.1,.int .i64 s.2.1,.int .i64 s.2.2] with | some l=>some (.agg l) | none=>none:=rfl
  rw [e]; rfl
theorem res_sts {H:Heap} {b k:Nat} {o:List St} (hb:H[b]?=some (bS o)) (hk:o.length=k):toRes H false (.sl b 0 k none k 3)=some (.own 3 (o.map encT)):=by
  have hr:=resCell_sl (H:=H) (no:=[b]) (b:=b) (k:=3) (m:=k) (cap:=none) (els:=o.map encT) hb (by simpa using hk) (mapO_self (fun r=>frz_sts _ _ r) _)
  have ho:ownedAll H false (.sl b 0 k none k 3)=[b]:=by simp [ownedAll,cellsOf,owned,hb]
  simp only [toRes,ho,List.nodup_cons,List.not_mem_nil,not_false_eq_true,List.nodup_nil,and_self,if_true,resVal,hr]
end Go.Proofs.Ytiejmoglooaalaa
end
section
open Go Go.HL
namespace Go.Proofs.Ytiejmoglooaalaa
abbrev plF (F:FuncId → Option (List HV → Option HV)):Pol:={ pol with prim:=F }
end Go.Proofs.Ytiejmoglooaalaa
end
section
open Go Go.HL
namespace Go.Proofs.Ytiejmoglooaalaa
def recL (x x':Option (HV × Heap)) (H H':Heap):Bool :=
  match x,x' with
  | some (v,H1),some (v',H1')=>same v v' && sameH H1 H && sameH H1' H'
  | _,_=>false
theorem same_mapL {α:Type} {f:α → HV} (h:∀ x,same (f x) (f x)=true):∀ l:List α,sameL (l.map f) (l.map f)=true
  | []=>rfl
  | x :: l=>by simp only [List.map_cons,sameL,h x,same_mapL h l,Bool.and_self]
theorem same_int (x:Int):same (encI x) (encI x)=true:=by simp [encI,same]
theorem same_st (s:St):same (encT s) (encT s)=true:=by simp [encT,same,sameL]
theorem same_net (n:Int) (l:List St):same (encN n l) (encN n l)=true:=by
  simp only [encN,same,sameL,same_mapL same_st,beq_self_eq_true,Bool.and_self]
theorem sameH_cons {B:Blk} {H:Heap} (hB:sameH [B] [B]=true) (hH:sameH H H=true):sameH (B :: H) (B :: H)=true:=by
  cases B <;> simp_all [sameH]
theorem sameB_I (l:List Int):sameH [bI l] [bI l]=true:=by simp only [sameH,same_mapL same_int,beq_self_eq_true,Bool.and_self]
end Go.Proofs.Ytiejmoglooaalaa
end
section
open Go Go.HL
namespace Go.Proofs.Ytiejmoglooaalaa
set_option maxRecDepth 100000
open Go.Proofs.Try renaming prog → Tp
open Go.HL.HV renaming undef → Ud
section
variable {F:FuncId → Option (List HV → Option HV)}
noncomputable def B4:Code:=Try.f4.body.getD .skip
abbrev env4 (v0 v1 v2 v6 v7 v8 v9 v10 v11 v12 v13 v14 v15 v16 v17 v18 v19 v21 v22 v24 v25 v26 v28 v29 v31 v32:HV):Env:=[(0,v0),(1,v1),(2,v2),(6,v6),(7,v7),(8,v8),(9,v9),(10,v10),(11,v11),(12,v12),(13,v13),(14,v14),(15,v15),(16,v16),(17,v17),(18,v18),(19,v19),(21,v21),(22,v22),(24,v24),(25,v25),(26,v26),(28,v28),(29,v29),(31,v31),(32,v32)]
theorem rm_a_0 (n:Int) (ls:List HV) (at0:Int) :RunsTo Tp (plF F) 4 (sub [0] B4) [(0,.i n),(1,.imm .arg 3 ls),(2,.i at0)] [] .normal ((plF F).keys 4) (env4 (.i n) (.imm .arg 3 ls) (.i at0) (.bool false) Ud Ud Ud Ud Ud Ud Ud Ud Ud Ud Ud Ud Ud Ud Ud Ud Ud Ud Ud Ud Ud Ud) [] :=
  RunsTo.hin 0 60 [] fun kf hk=>⟨_,by kernel_rfl,.nil⟩
theorem rm_b_0 (n:Int) (ls:List HV) (at0:Int) (H:Heap) (p:Int) {y7 y8 y9 y10 y11 y12 y13 y14 y15 y16 y17 y18 y19 y21 y22 y24 y25 y26 y28 y29 y31 y32:HV} {H0:Heap} (g0:∀ kf,callN Tp (plF F) (kf+1) 24 [.i n,.i 8] H=some (.i p,H0)):RunsTo Tp (plF F) 4 (sub [1,0] B4) (env4 (.i n) (.imm .arg 3 ls) (.i at0) (.bool false) y7 y8 y9 y10 y11 y12 y13 y14 y15 y16 y17 y18 y19 y21 y22 y24 y25 y26 y28 y29 y31 y32) H .normal ((plF F).keys 4) (env4 (.i (IntKind.i64.wrap (2+p))) (.imm .arg 3 ls) (.i at0) (.bool false) y7 y8 y9 y10 y11 y12 y13 y14 y15 y16 y17 y18 y19 y21 y22 y24 y25 y26 y28 y29 y31 y32) H0 :=
  RunsTo.hin 0 60 [⟨1,1,.i p,H0⟩] fun kf hk=>⟨_,by kernel_rfl,(oC (g0 kf) .nil)⟩
theorem rm_c_0 (n:Int) (ls:List HV) (at0:Int) (H:Heap) (q:Nat) {y7 y8 y9 y10 y11 y12 y13 y14 y15 y16 y17 y18 y19 y21 y22 y24 y25 y26 y28 y29 y31 y32:HV} {H0:Heap} (g0:∀ kf,callN Tp (plF F) (kf+1) 25 [.imm .arg 3 ls,.i n,.i 20] H=some (.sl 0 0 q none q 3,H0)):RunsTo Tp (plF F) 4 (sub [1,1,0] B4) (env4 (.i n) (.imm .arg 3 ls) (.i at0) (.bool false) y7 y8 y9 y10 y11 y12 y13 y14 y15 y16 y17 y18 y19 y21 y22 y24 y25 y26 y28 y29 y31 y32) H .normal ((plF F).keys 4) (env4 (.i n) (.imm .arg 3 ls) (.i at0) (.bool false) (.sl 0 0 q none q 3) y8 y9 y10 y11 y12 y13 y14 y15 y16 y17 y18 y19 y21 y22 y24 y25 y26 y28 y29 y31 y32) H0 :=
  RunsTo.hin 0 60 [⟨2,2,.sl 0 0 q none q 3,H0⟩] fun kf hk=>⟨_,by kernel_rfl,(oC (g0 kf) .nil)⟩
theorem rm_d_0 (n:Int) (ls:List HV) (at0:Int) (H:Heap) (q:Nat) {y8 y9 y10 y11 y12 y13 y14 y15 y16 y17 y18 y19 y21 y22 y24 y25 y26 y28 y29 y31 y32:HV}:RunsTo Tp (plF F) 4 (sub [1,1,1,0,0] B4) (env4 (.i n) (.imm .arg 3 ls) (.i at0) (.bool false) (.sl 0 0 q none q 3) y8 y9 y10 y11 y12 y13 y14 y15 y16 y17 y18 y19 y21 y22 y24 y25 y26 y28 y29 y31 y32) H .normal ((plF F).keys 4) (env4 (.i n) (.imm .arg 3 ls) (.i at0) (.bool false) (.sl 0 0 q none q 3) (.i 0) y9 y10 y11 y12 y13 y14 y15 y16 y17 y18 y19 y21 y22 y24 y25 y26 y28 y29 y31 y32) H :=
  RunsTo.hin 0 60 [] fun kf hk=>⟨_,by kernel_rfl,.nil⟩
theorem rm_l_0 (n:Int) (ls:List HV) (at0:Int) (H:Heap) (q:Nat) (i:Nat) (W p:Int) {y9 y10 y11 y12 y13 y14 y15 y16 y17 y18 y19 y21 y22 y24 y25 y26 y28 y29 y31 y32:HV} {H0:Heap} {H1:Heap} (g0:(i:Int) < (q:Int)) (g1:idxV Tp 22 (.sl 0 0 q none q 3) (.i (i:Int))=some (.ptr 0 i 0 q)) (g2:loadV Tp H 3 (.ptr 0 i 2 q)=some (.i W)) (g3:∀ kf,callN Tp (plF F) (kf+1) 24 [.i W,.i 400] H=some (.i p,H0)) (g4:idxV Tp 22 (.sl 0 0 q none q 3) (.i (i:Int))=some (.ptr 0 i 0 q)) (g5:storeV Tp H0 3 (.ptr 0 i 2 q) (.i (IntKind.i64.wrap (1+p)))=some H1):RunsTo Tp (plF F) 4 (sub [1,1,1,0,1,0,0] B4) (env4 (.i n) (.imm .arg 3 ls) (.i at0) (.bool false) (.sl 0 0 q none q 3) (.i (i:Int)) y9 y10 y11 y12 y13 y14 y15 y16 y17 y18 y19 y21 y22 y24 y25 y26 y28 y29 y31 y32) H .normal ((plF F).keys 4) (env4 (.i n) (.imm .arg 3 ls) (.i at0) (.bool false) (.sl 0 0 q none q 3) (.i (IntKind.i64.wrap ((i:Int)+1))) y9 y10 y11 y12 y13 y14 y15 y16 y17 y18 y19 y21 y22 y24 y25 y26 y28 y29 y31 y32) H1 :=
  RunsTo.hin 0 60 [⟨4,3,.bool true,H⟩,⟨6,4,.ptr 0 i 0 q,H⟩,⟨6,6,.i W,H⟩,⟨6,7,.i p,H0⟩,⟨6,9,.ptr 0 i 0 q,H0⟩,⟨6,11,.tuple [],H1⟩] fun kf hk=>⟨_,by kernel_rfl,(oB H (decide_eq_true g0) (oP H g1 (oP H g2 (oC (g3 kf) (oP H0 g4 (oS g5 .nil))))))⟩
theorem rm_l_1 (n:Int) (ls:List HV) (at0:Int) (H:Heap) (q:Nat) (i:Nat) (W p:Int) {y9 y10 y11 y12 y13 y14 y15 y16 y17 y18 y19 y21 y22 y24 y25 y26 y28 y29 y31 y32:HV}(g0:¬ ((i:Int) < (q:Int))):RunsTo Tp (plF F) 4 (sub [1,1,1,0,1,0,0] B4) (env4 (.i n) (.imm .arg 3 ls) (.i at0) (.bool false) (.sl 0 0 q none q 3) (.i (i:Int)) y9 y10 y11 y12 y13 y14 y15 y16 y17 y18 y19 y21 y22 y24 y25 y26 y28 y29 y31 y32) H (.exit 0) ((plF F).keys 4) (env4 (.i n) (.imm .arg 3 ls) (.i at0) (.bool false) (.sl 0 0 q none q 3) (.i (i:Int)) y9 y10 y11 y12 y13 y14 y15 y16 y17 y18 y19 y21 y22 y24 y25 y26 y28 y29 y31 y32) H :=
  RunsTo.hin 0 60 [⟨4,3,.bool false,H⟩] fun kf hk=>⟨_,by kernel_rfl,(oB H (decide_eq_false g0) .nil)⟩
theorem rm_e_0 (n:Int) (ls:List HV) (at0:Int) (H:Heap) (q:Nat) (k:Nat) {y8 y9 y10 y11 y12 y13 y14 y15 y16 y17 y18 y19 y21 y22 y24 y25 y26 y28 y29 y31 y32:HV} {H0:Heap} (g0:∀ kf,callN Tp (plF F) (kf+1) 24 [.i at0,.i (q:Int)] H=some (.i (k:Int),H0)):RunsTo Tp (plF F) 4 (sub [1,1,1,1,0] B4) (env4 (.i n) (.imm .arg 3 ls) (.i at0) (.bool false) (.sl 0 0 q none q 3) y8 y9 y10 y11 y12 y13 y14 y15 y16 y17 y18 y19 y21 y22 y24 y25 y26 y28 y29 y31 y32) H .normal ((plF F).keys 4) (env4 (.i n) (.imm .arg 3 ls) (.i at0) (.bool false) (.sl 0 0 q none q 3) y8 (.i (k:Int)) y10 y11 y12 y13 y14 y15 y16 y17 y18 y19 y21 y22 y24 y25 y26 y28 y29 y31 y32) H0 :=
  RunsTo.hin 0 60 [⟨7,3,.i (k:Int),H0⟩] fun kf hk=>⟨_,by kernel_rfl,(oC (g0 kf) .nil)⟩
theorem rm_f_0 (n:Int) (ls:List HV) (at0:Int) (H:Heap) (q:Nat) (k:Nat) (m:Nat) (w:Int) {y8 y10 y11 y12 y13 y14 y15 y16 y17 y18 y19 y21 y22 y24 y25 y26 y28 y29 y31 y32:HV} {H0:Heap} (g0:∀ kf,callN Tp (plF F) (kf+1) 14 [.i n,.sl 0 0 q none q 3] H=some (.tuple [.s 1 m,.i w,.i 0],H0)):RunsTo Tp (plF F) 4 (sub [1,1,1,1,1,0] B4) (env4 (.i n) (.imm .arg 3 ls) (.i at0) (.bool false) (.sl 0 0 q none q 3) y8 (.i (k:Int)) y10 y11 y12 y13 y14 y15 y16 y17 y18 y19 y21 y22 y24 y25 y26 y28 y29 y31 y32) H .normal ((plF F).keys 4) (env4 (.i n) (.imm .arg 3 ls) (.i at0) (.bool false) (.sl 0 0 q none q 3) y8 (.i (k:Int)) (.s 1 m) (.i w) (.i 0) y13 y14 y15 y16 y17 y18 y19 y21 y22 y24 y25 y26 y28 y29 y31 y32) H0 :=
  RunsTo.hin 0 60 [⟨8,2,.tuple [.s 1 m,.i w,.i 0],H0⟩] fun kf hk=>⟨_,by kernel_rfl,(oC (g0 kf) .nil)⟩
theorem rm_g_0 (n:Int) (ls:List HV) (at0:Int) (H:Heap) (q:Nat) (k:Nat) (m:Nat) (w:Int) {y8 y13 y14 y15 y16 y17 y18 y19 y21 y22 y24 y25 y26 y28 y29 y31 y32:HV} {H0:Heap} (g0:∀ kf,callN Tp (plF F) (kf+1) 26 [.i n,.sl 0 0 q none q 3] H=some (.tuple [.s 2 q,.i 0],H0)):RunsTo Tp (plF F) 4 (sub [1,1,1,1,1,1,0] B4) (env4 (.i n) (.imm .arg 3 ls) (.i at0) (.bool false) (.sl 0 0 q none q 3) y8 (.i (k:Int)) (.s 1 m) (.i w) (.i 0) y13 y14 y15 y16 y17 y18 y19 y21 y22 y24 y25 y26 y28 y29 y31 y32) H .normal ((plF F).keys 4) (env4 (.i n) (.imm .arg 3 ls) (.i at0) (.bool false) (.sl 0 0 q none q 3) y8 (.i (k:Int)) (.s 1 m) (.i w) (.i 0) (.s 2 q) (.i 0) y15 y16 y17 y18 y19 y21 y22 y24 y25 y26 y28 y29 y31 y32) H0 :=
  RunsTo.hin 0 60 [⟨9,2,.tuple [.s 2 q,.i 0],H0⟩] fun kf hk=>⟨_,by kernel_rfl,(oC (g0 kf) .nil)⟩
theorem rm_h_0 (n:Int) (ls:List HV) (at0:Int) (H:Heap) (q:Nat) (k:Nat) (m:Nat) (w:Int) {y8 y15 y16 y17 y18 y19 y21 y22 y24 y25 y26 y28 y29 y31 y32:HV}(g0:(q:Int)=(q:Int)):RunsTo Tp (plF F) 4 (sub [1,1,1,1,1,1,1,0] B4) (env4 (.i n) (.imm .arg 3 ls) (.i at0) (.bool false) (.sl 0 0 q none q 3) y8 (.i (k:Int)) (.s 1 m) (.i w) (.i 0) (.s 2 q) (.i 0) y15 y16 y17 y18 y19 y21 y22 y24 y25 y26 y28 y29 y31 y32) H .normal ((plF F).keys 4) (env4 (.i n) (.imm .arg 3 ls) (.i at0) (.bool false) (.sl 0 0 q none q 3) y8 (.i (k:Int)) (.s 1 m) (.i w) (.i 0) (.s 2 q) (.i 0) y15 y16 y17 y18 y19 y21 y22 y24 y25 y26 y28 y29 y31 y32) H :=
  RunsTo.hin 0 60 [⟨10,11,.bool false,H⟩] fun kf hk=>⟨_,by kernel_rfl,(oB H (congrArg not (decide_eq_true g0)) .nil)⟩
theorem rm_i_0 (n:Int) (ls:List HV) (at0:Int) (H:Heap) (q:Nat) (k:Nat) (m:Nat) (w:Int) {y8 y12 y14 y15 y16 y17 y18 y19 y21 y22 y24 y25 y26 y28 y29 y31 y32:HV}:RunsTo Tp (plF F) 4 (sub [1,1,1,1,1,1,1,1,0] B4) (env4 (.i n) (.imm .arg 3 ls) (.i at0) (.bool false) (.sl 0 0 q none q 3) y8 (.i (k:Int)) (.s 1 m) (.i w) y12 (.s 2 q) y14 y15 y16 y17 y18 y19 y21 y22 y24 y25 y26 y28 y29 y31 y32) H .normal ((plF F).keys 4) (env4 (.i n) (.imm .arg 3 ls) (.i at0) (.bool false) (.sl 0 0 q none q 3) y8 (.i (k:Int)) (.s 1 m) (.i w) y12 (.s 2 q) y14 (.bool false) y16 y17 y18 y19 y21 y22 y24 y25 y26 y28 y29 y31 y32) H :=
  RunsTo.hin 0 60 [] fun kf hk=>⟨_,by kernel_rfl,.nil⟩
theorem rm_j_0 (n:Int) (ls:List HV) (at0:Int) (H:Heap) (q:Nat) (k:Nat) (m:Nat) (w:Int) {y8 y12 y14 y16 y17 y18 y19 y21 y22 y24 y25 y26 y28 y29 y31 y32:HV}:RunsTo Tp (plF F) 4 (sub [1,1,1,1,1,1,1,1,1,0,0] B4) (env4 (.i n) (.imm .arg 3 ls) (.i at0) (.bool false) (.sl 0 0 q none q 3) y8 (.i (k:Int)) (.s 1 m) (.i w) y12 (.s 2 q) y14 (.bool false) y16 y17 y18 y19 y21 y22 y24 y25 y26 y28 y29 y31 y32) H .normal ((plF F).keys 4) (env4 (.i n) (.imm .arg 3 ls) (.i at0) (.bool false) (.sl 0 0 q none q 3) y8 (.i (k:Int)) (.s 1 m) (.i w) y12 (.s 2 q) y14 (.bool false) (.i 0) y17 y18 y19 y21 y22 y24 y25 y26 y28 y29 y31 y32) H :=
  RunsTo.hin 0 60 [] fun kf hk=>⟨_,by kernel_rfl,.nil⟩
theorem rm_m_0 (n:Int) (ls:List HV) (at0:Int) (H:Heap) (q:Nat) (k:Nat) (m:Nat) (w:Int) (i:Nat) (y:Int) {y8 y12 y14 y17 y18 y19 y21 y22 y24 y25 y26 y28 y29 y31 y32:HV}(g0:(i:Int) < (m:Int)) (g1:idxV Tp 24 (.s 1 m) (.i (i:Int))=some (.ptr 1 i 0 m)) (g2:loadV Tp H 3 (.ptr 1 i 0 m)=some (.i y)) (g3:y=(k:Int)):RunsTo Tp (plF F) 4 (sub [1,1,1,1,1,1,1,1,1,0,1,0,0] B4) (env4 (.i n) (.imm .arg 3 ls) (.i at0) (.bool false) (.sl 0 0 q none q 3) y8 (.i (k:Int)) (.s 1 m) (.i w) y12 (.s 2 q) y14 (.bool false) (.i (i:Int)) y17 y18 y19 y21 y22 y24 y25 y26 y28 y29 y31 y32) H .normal ((plF F).keys 4) (env4 (.i n) (.imm .arg 3 ls) (.i at0) (.bool false) (.sl 0 0 q none q 3) y8 (.i (k:Int)) (.s 1 m) (.i w) y12 (.s 2 q) y14 (.bool true) (.i (IntKind.i64.wrap ((i:Int)+1))) y17 y18 y19 y21 y22 y24 y25 y26 y28 y29 y31 y32) H :=
  RunsTo.hin 0 60 [⟨14,3,.bool true,H⟩,⟨16,4,.ptr 1 i 0 m,H⟩,⟨16,5,.i y,H⟩,⟨16,7,.bool true,H⟩] fun kf hk=>⟨_,by kernel_rfl,(oB H (decide_eq_true g0) (oP H g1 (oP H g2 (oB H (decide_eq_true g3) .nil))))⟩
theorem rm_m_1 (n:Int) (ls:List HV) (at0:Int) (H:Heap) (q:Nat) (k:Nat) (m:Nat) (w:Int) (i:Nat) (y:Int) {y8 y12 y14 y17 y18 y19 y21 y22 y24 y25 y26 y28 y29 y31 y32:HV}(g0:(i:Int) < (m:Int)) (g1:idxV Tp 24 (.s 1 m) (.i (i:Int))=some (.ptr 1 i 0 m)) (g2:loadV Tp H 3 (.ptr 1 i 0 m)=some (.i y)) (g3:¬ (y=(k:Int))):RunsTo Tp (plF F) 4 (sub [1,1,1,1,1,1,1,1,1,0,1,0,0] B4) (env4 (.i n) (.imm .arg 3 ls) (.i at0) (.bool false) (.sl 0 0 q none q 3) y8 (.i (k:Int)) (.s 1 m) (.i w) y12 (.s 2 q) y14 (.bool false) (.i (i:Int)) y17 y18 y19 y21 y22 y24 y25 y26 y28 y29 y31 y32) H .normal ((plF F).keys 4) (env4 (.i n) (.imm .arg 3 ls) (.i at0) (.bool false) (.sl 0 0 q none q 3) y8 (.i (k:Int)) (.s 1 m) (.i w) y12 (.s 2 q) y14 (.bool false) (.i (IntKind.i64.wrap ((i:Int)+1))) y17 y18 y19 y21 y22 y24 y25 y26 y28 y29 y31 y32) H :=
  RunsTo.hin 0 60 [⟨14,3,.bool true,H⟩,⟨16,4,.ptr 1 i 0 m,H⟩,⟨16,5,.i y,H⟩,⟨16,7,.bool false,H⟩] fun kf hk=>⟨_,by kernel_rfl,(oB H (decide_eq_true g0) (oP H g1 (oP H g2 (oB H (decide_eq_false g3) .nil))))⟩
theorem rm_m_2 (n:Int) (ls:List HV) (at0:Int) (H:Heap) (q:Nat) (k:Nat) (m:Nat) (w:Int) (i:Nat) (y:Int) {y8 y12 y14 y17 y18 y19 y21 y22 y24 y25 y26 y28 y29 y31 y32:HV}(g0:¬ ((i:Int) < (m:Int))):RunsTo Tp (plF F) 4 (sub [1,1,1,1,1,1,1,1,1,0,1,0,0] B4) (env4 (.i n) (.imm .arg 3 ls) (.i at0) (.bool false) (.sl 0 0 q none q 3) y8 (.i (k:Int)) (.s 1 m) (.i w) y12 (.s 2 q) y14 (.bool false) (.i (i:Int)) y17 y18 y19 y21 y22 y24 y25 y26 y28 y29 y31 y32) H (.exit 2) ((plF F).keys 4) (env4 (.i n) (.imm .arg 3 ls) (.i at0) (.bool false) (.sl 0 0 q none q 3) y8 (.i (k:Int)) (.s 1 m) (.i w) y12 (.s 2 q) y14 (.bool false) (.i (i:Int)) y17 y18 y19 y21 y22 y24 y25 y26 y28 y29 y31 y32) H :=
  RunsTo.hin 0 60 [⟨14,3,.bool false,H⟩] fun kf hk=>⟨_,by kernel_rfl,(oB H (decide_eq_false g0) .nil)⟩
theorem rm_n_0 (n:Int) (ls:List HV) (at0:Int) (H:Heap) (q:Nat) (k:Nat) (m:Nat) (w:Int) (i:Nat) (y:Int) {y8 y12 y14 y17 y18 y19 y21 y22 y24 y25 y26 y28 y29 y31 y32:HV}(g0:(i:Int) < (m:Int)):RunsTo Tp (plF F) 4 (sub [1,1,1,1,1,1,1,1,1,0,1,0,0] B4) (env4 (.i n) (.imm .arg 3 ls) (.i at0) (.bool false) (.sl 0 0 q none q 3) y8 (.i (k:Int)) (.s 1 m) (.i w) y12 (.s 2 q) y14 (.bool true) (.i (i:Int)) y17 y18 y19 y21 y22 y24 y25 y26 y28 y29 y31 y32) H .normal ((plF F).keys 4) (env4 (.i n) (.imm .arg 3 ls) (.i at0) (.bool false) (.sl 0 0 q none q 3) y8 (.i (k:Int)) (.s 1 m) (.i w) y12 (.s 2 q) y14 (.bool true) (.i (IntKind.i64.wrap ((i:Int)+1))) y17 y18 y19 y21 y22 y24 y25 y26 y28 y29 y31 y32) H :=
  RunsTo.hin 0 60 [⟨14,3,.bool true,H⟩] fun kf hk=>⟨_,by kernel_rfl,(oB H (decide_eq_true g0) .nil)⟩
theorem rm_n_1 (n:Int) (ls:List HV) (at0:Int) (H:Heap) (q:Nat) (k:Nat) (m:Nat) (w:Int) (i:Nat) (y:Int) {y8 y12 y14 y17 y18 y19 y21 y22 y24 y25 y26 y28 y29 y31 y32:HV}(g0:¬ ((i:Int) < (m:Int))):RunsTo Tp (plF F) 4 (sub [1,1,1,1,1,1,1,1,1,0,1,0,0] B4) (env4 (.i n) (.imm .arg 3 ls) (.i at0) (.bool false) (.sl 0 0 q none q 3) y8 (.i (k:Int)) (.s 1 m) (.i w) y12 (.s 2 q) y14 (.bool true) (.i (i:Int)) y17 y18 y19 y21 y22 y24 y25 y26 y28 y29 y31 y32) H (.exit 2) ((plF F).keys 4) (env4 (.i n) (.imm .arg 3 ls) (.i at0) (.bool false) (.sl 0 0 q none q 3) y8 (.i (k:Int)) (.s 1 m) (.i w) y12 (.s 2 q) y14 (.bool true) (.i (i:Int)) y17 y18 y19 y21 y22 y24 y25 y26 y28 y29 y31 y32) H :=
  RunsTo.hin 0 60 [⟨14,3,.bool false,H⟩] fun kf hk=>⟨_,by kernel_rfl,(oB H (decide_eq_false g0) .nil)⟩
theorem rm_o_0 (n:Int) (ls:List HV) (at0:Int) (H:Heap) (q:Nat) (k:Nat) (w:Int) {y8 y10 y12 y14 y15 y16 y17 y18 y19 y21 y22 y24 y25 y26 y28 y29 y31 y32:HV} {H0:Heap} {H1:Heap} (g0:∀ kf,callN Tp (plF F) (kf+1) 13 [.sl 0 0 q none q 3] H=some (.sl 3 0 q none q 3,H0)) (g1:∀ kf,callN Tp (plF F) (kf+1) 13 [.sl 0 0 q none q 3] H0=some (.sl 4 0 q none q 3,H1)):RunsTo Tp (plF F) 4 (sub [1,1,1,1,1,1,1,1,1,1,0] B4) (env4 (.i n) (.imm .arg 3 ls) (.i at0) (.bool false) (.sl 0 0 q none q 3) y8 (.i (k:Int)) y10 (.i w) y12 (.s 2 q) y14 y15 y16 y17 y18 y19 y21 y22 y24 y25 y26 y28 y29 y31 y32) H .normal ((plF F).keys 4) (env4 (.i n) (.imm .arg 3 ls) (.i at0) (.bool false) (.sl 0 0 q none q 3) y8 (.i (k:Int)) y10 (.i w) y12 (.s 2 q) y14 y15 y16 (.sl 3 0 q none q 3) (.sl 4 0 q none q 3) y19 y21 y22 y24 y25 y26 y28 y29 y31 y32) H1 :=
  RunsTo.hin 0 60 [⟨17,1,.sl 3 0 q none q 3,H0⟩,⟨17,3,.sl 4 0 q none q 3,H1⟩] fun kf hk=>⟨_,by kernel_rfl,(oC (g0 kf) (oC (g1 kf) .nil))⟩
theorem rm_pf_0 (n:Int) (ls:List HV) (at0:Int) (H:Heap) (q:Nat) (k:Nat) (w:Int) {y8 y10 y12 y14 y16 y19 y21 y22 y24 y25 y26 y28 y29 y31 y32:HV}:RunsTo Tp (plF F) 4 (sub [1,1,1,1,1,1,1,1,1,1,1,0] B4) (env4 (.i n) (.imm .arg 3 ls) (.i at0) (.bool false) (.sl 0 0 q none q 3) y8 (.i (k:Int)) y10 (.i w) y12 (.s 2 q) y14 (.bool false) y16 (.sl 3 0 q none q 3) (.sl 4 0 q none q 3) y19 y21 y22 y24 y25 y26 y28 y29 y31 y32) H .normal ((plF F).keys 4) (env4 (.i n) (.imm .arg 3 ls) (.i at0) (.bool false) (.sl 0 0 q none q 3) y8 (.i (k:Int)) y10 (.i w) y12 (.s 2 q) y14 (.bool false) y16 (.sl 3 0 q none q 3) (.sl 4 0 q none q 3) y19 y21 y22 y24 y25 y26 y28 y29 y31 y32) H :=
  RunsTo.hin 0 60 [] fun kf hk=>⟨_,by kernel_rfl,.nil⟩
theorem rm_pt_0 (n:Int) (ls:List HV) (at0:Int) (H:Heap) (q:Nat) (k:Nat) (w s W a b:Int) (ab am bb bm:Nat) {y8 y10 y12 y14 y16 y19 y21 y22 y24 y25 y26 y28 y29 y31 y32:HV} {H0:Heap} {H1:Heap} {H2:Heap} {H3:Heap} {H4:Heap} (g0:idxV Tp 24 (.s 2 q) (.i (k:Int))=some (.ptr 2 k 0 q)) (g1:loadV Tp H 3 (.ptr 2 k 0 q)=some (.i s)) (g2:s=(-1)) (g3:idxV Tp 22 (.sl 0 0 q none q 3) (.i (k:Int))=some (.ptr 0 k 0 q)) (g4:loadV Tp H 3 (.ptr 0 k 2 q)=some (.i W)) (g5:idxV Tp 22 (.sl 3 0 q none q 3) (.i (k:Int))=some (.ptr 3 k 0 q)) (g6:storeV Tp H 3 (.ptr 3 k 2 q) (.i (IntKind.i64.wrap (W+300)))=some H0) (g7:idxV Tp 22 (.sl 0 0 q none q 3) (.i (k:Int))=some (.ptr 0 k 0 q)) (g8:loadV Tp H0 3 (.ptr 0 k 2 q)=some (.i W)) (g9:idxV Tp 22 (.sl 4 0 q none q 3) (.i (k:Int))=some (.ptr 4 k 0 q)) (g10:storeV Tp H0 3 (.ptr 4 k 2 q) (.i (IntKind.i64.wrap (IntKind.i64.wrap (W+300)+5)))=some H1) (g11:∀ kf,callN Tp (plF F) (kf+1) 14 [.i n,.sl 3 0 q none q 3] H1=some (.tuple [.s ab am,.i a,.i 0],H2)) (g12:∀ kf,callN Tp (plF F) (kf+1) 14 [.i n,.sl 4 0 q none q 3] H2=some (.tuple [.s bb bm,.i b,.i 0],H3)) (g13:idxV Tp 24 (.s 2 q) (.i (k:Int))=some (.ptr 2 k 0 q)) (g14:loadV Tp H3 3 (.ptr 2 k 0 q)=some (.i s)) (g15:s=(-1)) (g16:a=IntKind.i64.wrap (w+300)) (g17:b=IntKind.i64.wrap (IntKind.i64.wrap (w+300)+5)) (g18:∀ kf,callN Tp (plF F) (kf+1) 18 [] H3=some (.bool true,H4)):RunsTo Tp (plF F) 4 (sub [1,1,1,1,1,1,1,1,1,1,1,0] B4) (env4 (.i n) (.imm .arg 3 ls) (.i at0) (.bool false) (.sl 0 0 q none q 3) y8 (.i (k:Int)) y10 (.i w) y12 (.s 2 q) y14 (.bool true) y16 (.sl 3 0 q none q 3) (.sl 4 0 q none q 3) y19 y21 y22 y24 y25 y26 y28 y29 y31 y32) H .ret ((plF F).keys 4) (env4 (.i n) (.imm .arg 3 ls) (.i at0) (.bool true) (.sl 0 0 q none q 3) y8 (.i (k:Int)) y10 (.i w) y12 (.s 2 q) y14 (.bool true) y16 (.sl 3 0 q none q 3) (.sl 4 0 q none q 3) (.i 300) (.i a) (.i 0) (.i b) (.i 0) (.i (IntKind.i64.wrap (IntKind.i64.wrap (w+300)+5))) y28 y29 y31 y32) H4 :=
  RunsTo.hin 0 60 [⟨19,2,.ptr 2 k 0 q,H⟩,⟨19,3,.i s,H⟩,⟨20,1,.bool true,H⟩,⟨24,4,.ptr 0 k 0 q,H⟩,⟨24,6,.i W,H⟩,⟨24,9,.ptr 3 k 0 q,H⟩,⟨24,11,.tuple [],H0⟩,⟨25,4,.ptr 0 k 0 q,H0⟩,⟨25,6,.i W,H0⟩,⟨25,10,.ptr 4 k 0 q,H0⟩,⟨25,12,.tuple [],H1⟩,⟨26,2,.tuple [.s ab am,.i a,.i 0],H2⟩,⟨27,2,.tuple [.s bb bm,.i b,.i 0],H3⟩,⟨29,2,.ptr 2 k 0 q,H3⟩,⟨29,3,.i s,H3⟩,⟨29,4,.bool true,H3⟩,⟨31,11,.bool true,H3⟩,⟨31,16,.bool true,H3⟩,⟨31,19,.bool true,H4⟩] fun kf hk=>⟨_,by kernel_rfl,(oP H g0 (oP H g1 (oB H (decide_eq_true g2) (oP H g3 (oP H g4 (oP H g5 (oS g6 (oP H0 g7 (oP H0 g8 (oP H0 g9 (oS g10 (oC (g11 kf) (oC (g12 kf) (oP H3 g13 (oP H3 g14 (oB H3 (decide_eq_true g15) (oB H3 (decide_eq_true g16) (oB H3 (decide_eq_true g17) (oC (g18 kf) .nil)))))))))))))))))))⟩
theorem rm_pt_5 (n:Int) (ls:List HV) (at0:Int) (H:Heap) (q:Nat) (k:Nat) (w s W a b:Int) (ab am bb bm:Nat) {y8 y10 y12 y14 y16 y19 y21 y22 y24 y25 y26 y28 y29 y31 y32:HV} {H0:Heap} {H1:Heap} {H2:Heap} {H3:Heap} {H4:Heap} (g0:idxV Tp 24 (.s 2 q) (.i (k:Int))=some (.ptr 2 k 0 q)) (g1:loadV Tp H 3 (.ptr 2 k 0 q)=some (.i s)) (g2:¬ (s=(-1))) (g3:¬ (s < 0)) (g4:¬ (400 < s)) (g5:idxV Tp 22 (.sl 0 0 q none q 3) (.i (k:Int))=some (.ptr 0 k 0 q)) (g6:loadV Tp H 3 (.ptr 0 k 2 q)=some (.i W)) (g7:idxV Tp 22 (.sl 3 0 q none q 3) (.i (k:Int))=some (.ptr 3 k 0 q)) (g8:storeV Tp H 3 (.ptr 3 k 2 q) (.i (IntKind.i64.wrap (W+s)))=some H0) (g9:idxV Tp 22 (.sl 0 0 q none q 3) (.i (k:Int))=some (.ptr 0 k 0 q)) (g10:loadV Tp H0 3 (.ptr 0 k 2 q)=some (.i W)) (g11:idxV Tp 22 (.sl 4 0 q none q 3) (.i (k:Int))=some (.ptr 4 k 0 q)) (g12:storeV Tp H0 3 (.ptr 4 k 2 q) (.i (IntKind.i64.wrap (IntKind.i64.wrap (W+s)+5)))=some H1) (g13:∀ kf,callN Tp (plF F) (kf+1) 14 [.i n,.sl 3 0 q none q 3] H1=some (.tuple [.s ab am,.i a,.i 0],H2)) (g14:∀ kf,callN Tp (plF F) (kf+1) 14 [.i n,.sl 4 0 q none q 3] H2=some (.tuple [.s bb bm,.i b,.i 0],H3)) (g15:idxV Tp 24 (.s 2 q) (.i (k:Int))=some (.ptr 2 k 0 q)) (g16:loadV Tp H3 3 (.ptr 2 k 0 q)=some (.i s)) (g17:¬ (s=(-1))) (g18:a=IntKind.i64.wrap (w+s)) (g19:b=IntKind.i64.wrap (w+s)) (g20:∀ kf,callN Tp (plF F) (kf+1) 18 [] H3=some (.bool true,H4)):RunsTo Tp (plF F) 4 (sub [1,1,1,1,1,1,1,1,1,1,1,0] B4) (env4 (.i n) (.imm .arg 3 ls) (.i at0) (.bool false) (.sl 0 0 q none q 3) y8 (.i (k:Int)) y10 (.i w) y12 (.s 2 q) y14 (.bool true) y16 (.sl 3 0 q none q 3) (.sl 4 0 q none q 3) y19 y21 y22 y24 y25 y26 y28 y29 y31 y32) H .ret ((plF F).keys 4) (env4 (.i n) (.imm .arg 3 ls) (.i at0) (.bool true) (.sl 0 0 q none q 3) y8 (.i (k:Int)) y10 (.i w) y12 (.s 2 q) y14 (.bool true) y16 (.sl 3 0 q none q 3) (.sl 4 0 q none q 3) (.i s) (.i a) (.i 0) (.i b) (.i 0) (.i (IntKind.i64.wrap (w+s))) y28 y29 y31 y32) H4 :=
  RunsTo.hin 0 60 [⟨19,2,.ptr 2 k 0 q,H⟩,⟨19,3,.i s,H⟩,⟨20,1,.bool false,H⟩,⟨22,1,.bool false,H⟩,⟨22,4,.bool false,H⟩,⟨24,4,.ptr 0 k 0 q,H⟩,⟨24,6,.i W,H⟩,⟨24,9,.ptr 3 k 0 q,H⟩,⟨24,11,.tuple [],H0⟩,⟨25,4,.ptr 0 k 0 q,H0⟩,⟨25,6,.i W,H0⟩,⟨25,10,.ptr 4 k 0 q,H0⟩,⟨25,12,.tuple [],H1⟩,⟨26,2,.tuple [.s ab am,.i a,.i 0],H2⟩,⟨27,2,.tuple [.s bb bm,.i b,.i 0],H3⟩,⟨29,2,.ptr 2 k 0 q,H3⟩,⟨29,3,.i s,H3⟩,⟨29,4,.bool false,H3⟩,⟨31,11,.bool true,H3⟩,⟨31,16,.bool true,H3⟩,⟨31,19,.bool true,H4⟩] fun kf hk=>⟨_,by kernel_rfl,(oP H g0 (oP H g1 (oB H (decide_eq_false g2) (oB H (decide_eq_false g3) (oB H (decide_eq_false g4) (oP H g5 (oP H g6 (oP H g7 (oS g8 (oP H0 g9 (oP H0 g10 (oP H0 g11 (oS g12 (oC (g13 kf) (oC (g14 kf) (oP H3 g15 (oP H3 g16 (oB H3 (decide_eq_false g17) (oB H3 (decide_eq_true g18) (oB H3 (decide_eq_true g19) (oC (g20 kf) .nil)))))))))))))))))))))⟩
theorem rm_z_2 (n:Int) (ls:List HV) (at0:Int) (H:Heap) (q:Nat) (k:Nat) (w s W V a b:Int) (ab am bb bm:Nat) {y8 y10 y12 y14 y15 y16 y19 y21 y22 y24 y25 y26 y28 y29 y31 y32:HV} {H0:Heap} {H1:Heap} {H2:Heap} {H3:Heap} {H4:Heap} (g0:idxV Tp 24 (.s 2 q) (.i (k:Int))=some (.ptr 2 k 0 q)) (g1:loadV Tp H 3 (.ptr 2 k 0 q)=some (.i s)) (g2:¬ (s < 0)) (g3:idxV Tp 24 (.s 2 q) (.i (k:Int))=some (.ptr 2 k 0 q)) (g4:loadV Tp H 3 (.ptr 2 k 0 q)=some (.i s)) (g5:idxV Tp 22 (.sl 0 0 q none q 3) (.i (k:Int))=some (.ptr 0 k 0 q)) (g6:loadV Tp H 3 (.ptr 0 k 2 q)=some (.i W)) (g7:¬ (W ≤ s)) (g8:idxV Tp 22 (.sl 0 0 q none q 3) (.i (k:Int))=some (.ptr 0 k 0 q)) (g9:loadV Tp H 3 (.ptr 0 k 2 q)=some (.i W)) (g10:idxV Tp 24 (.s 2 q) (.i (k:Int))=some (.ptr 2 k 0 q)) (g11:loadV Tp H 3 (.ptr 2 k 0 q)=some (.i s)) (g12:idxV Tp 22 (.sl 3 0 q none q 3) (.i (k:Int))=some (.ptr 3 k 0 q)) (g13:storeV Tp H 3 (.ptr 3 k 2 q) (.i (IntKind.i64.wrap (W - s)))=some H0) (g14:idxV Tp 22 (.sl 3 0 q none q 3) (.i (k:Int))=some (.ptr 3 k 0 q)) (g15:loadV Tp H0 3 (.ptr 3 k 2 q)=some (.i V)) (g16:idxV Tp 22 (.sl 4 0 q none q 3) (.i (k:Int))=some (.ptr 4 k 0 q)) (g17:storeV Tp H0 3 (.ptr 4 k 2 q) (.i (IntKind.i64.wrap (V - 1)))=some H1) (g18:∀ kf,callN Tp (plF F) (kf+1) 14 [.i n,.sl 3 0 q none q 3] H1=some (.tuple [.s ab am,.i a,.i 0],H2)) (g19:∀ kf,callN Tp (plF F) (kf+1) 14 [.i n,.sl 4 0 q none q 3] H2=some (.tuple [.s bb bm,.i b,.i 0],H3)) (g20:a=w) (g21:b=IntKind.i64.wrap (w - 1)) (g22:∀ kf,callN Tp (plF F) (kf+1) 18 [] H3=some (.bool true,H4)):RunsTo Tp (plF F) 4 (sub [1,1,1,1,1,1,1,1,1,1,1,1] B4) (env4 (.i n) (.imm .arg 3 ls) (.i at0) (.bool false) (.sl 0 0 q none q 3) y8 (.i (k:Int)) y10 (.i w) y12 (.s 2 q) y14 y15 y16 (.sl 3 0 q none q 3) (.sl 4 0 q none q 3) y19 y21 y22 y24 y25 y26 y28 y29 y31 y32) H .ret ((plF F).keys 4) (env4 (.i n) (.imm .arg 3 ls) (.i at0) (.bool true) (.sl 0 0 q none q 3) y8 (.i (k:Int)) y10 (.i w) y12 (.s 2 q) y14 y15 y16 (.sl 3 0 q none q 3) (.sl 4 0 q none q 3) y19 y21 y22 y24 y25 y26 (.i a) (.i 0) (.i b) (.i 0)) H4 :=
  RunsTo.hin 0 60 [⟨32,2,.ptr 2 k 0 q,H⟩,⟨32,3,.i s,H⟩,⟨32,4,.bool false,H⟩,⟨32,8,.ptr 2 k 0 q,H⟩,⟨32,9,.i s,H⟩,⟨32,12,.ptr 0 k 0 q,H⟩,⟨32,14,.i W,H⟩,⟨32,15,.bool false,H⟩,⟨34,4,.ptr 0 k 0 q,H⟩,⟨34,6,.i W,H⟩,⟨34,9,.ptr 2 k 0 q,H⟩,⟨34,10,.i s,H⟩,⟨34,12,.ptr 3 k 0 q,H⟩,⟨34,14,.tuple [],H0⟩,⟨35,4,.ptr 3 k 0 q,H0⟩,⟨35,6,.i V,H0⟩,⟨35,8,.ptr 4 k 0 q,H0⟩,⟨35,10,.tuple [],H1⟩,⟨36,2,.tuple [.s ab am,.i a,.i 0],H2⟩,⟨37,2,.tuple [.s bb bm,.i b,.i 0],H3⟩,⟨38,9,.bool true,H3⟩,⟨38,15,.bool true,H3⟩,⟨38,18,.bool true,H4⟩] fun kf hk=>⟨_,by kernel_rfl,(oP H g0 (oP H g1 (oB H (decide_eq_false g2) (oP H g3 (oP H g4 (oP H g5 (oP H g6 (oB H (decide_eq_false g7) (oP H g8 (oP H g9 (oP H g10 (oP H g11 (oP H g12 (oS g13 (oP H0 g14 (oP H0 g15 (oP H0 g16 (oS g17 (oC (g18 kf) (oC (g19 kf) (oB H3 (decide_eq_true g20) (oB H3 (decide_eq_true g21) (oC (g22 kf) .nil)))))))))))))))))))))))⟩
end
end Go.Proofs.Ytiejmoglooaalaa
end
section
open Go Go.HL
namespace Go.Proofs.Ytiejmoglooaalaa
set_option maxRecDepth 100000
open Go.Proofs.Try renaming prog → Tp
open Go.HL.HV renaming undef → Ud
noncomputable def B52:Code:=Try.f52.body.getD .skip
abbrev env52 (v0 v1 v2 v6:HV):Env:=[(0,v0),(1,v1),(2,v2),(6,v6)]
theorem w52_0 (n lo hi:Int)(g0:lo ≤ n) (g1:n ≤ hi):RT pol 52 (sub [] B52) [(0,.i n),(1,.i lo),(2,.i hi)] [] .ret (env52 (.i n) (.i lo) (.i hi) (.bool true)) [] :=
  RunsTo.hin 0 60 [⟨1,2,.bool true,[]⟩,⟨1,6,.bool true,[]⟩] fun kf hk=>⟨_,by kernel_rfl,(oB [] (decide_eq_true g0) (oB [] (decide_eq_true g1) .nil))⟩
theorem w52_1 (n lo hi:Int)(g0:lo ≤ n) (g1:¬ (n ≤ hi)):RT pol 52 (sub [] B52) [(0,.i n),(1,.i lo),(2,.i hi)] [] .ret (env52 (.i n) (.i lo) (.i hi) (.bool false)) [] :=
  RunsTo.hin 0 60 [⟨1,2,.bool true,[]⟩,⟨1,6,.bool false,[]⟩] fun kf hk=>⟨_,by kernel_rfl,(oB [] (decide_eq_true g0) (oB [] (decide_eq_false g1) .nil))⟩
theorem w52_2 (n lo hi:Int)(g0:¬ (lo ≤ n)):RT pol 52 (sub [] B52) [(0,.i n),(1,.i lo),(2,.i hi)] [] .ret (env52 (.i n) (.i lo) (.i hi) (.bool false)) [] :=
  RunsTo.hin 0 60 [⟨1,2,.bool false,[]⟩] fun kf hk=>⟨_,by kernel_rfl,(oB [] (decide_eq_false g0) .nil)⟩
noncomputable def B24:Code:=Try.f24.body.getD .skip
abbrev env24 (v0 v1 v4:HV):Env:=[(0,v0),(1,v1),(4,v4)]
theorem m24_0 (a n:Int)(g0:binV Tp .rem 82 (.int .u64 (IntKind.u64.wrap a)) (.int .u64 (IntKind.u64.wrap n))=some (.int .u64 ((IntKind.u64.wrap a:Int).tmod (IntKind.u64.wrap n)))):RT pol 24 (sub [] B24) [(0,.i a),(1,.i n)] [] .ret (env24 (.i a) (.i n) (.i (IntKind.i64.wrap ((IntKind.u64.wrap a:Int).tmod (IntKind.u64.wrap n))))) [] :=
  RunsTo.hin 0 60 [⟨1,4,.int .u64 ((IntKind.u64.wrap a:Int).tmod (IntKind.u64.wrap n)),[]⟩] fun kf hk=>⟨_,by kernel_rfl,(oP [] g0 .nil)⟩
noncomputable def B13:Code:=Try.f13.body.getD .skip
abbrev env13 (v0 v2 v3:HV):Env:=[(0,v0),(2,v2),(3,v3)]
theorem ne_0 (ls:List HV) (m:Nat)(g0:sliceV Tp 22 (.imm .arg 3 ls) none (some (.i (min (ls.length:Int) 61))) none=some (.imm .arg 3 (ls.take m))) (g1:appV [.arr 3 [] true 0] 3 24 (.sl 0 0 0 none 0 3) (ls.take m)=some (.sl 0 0 ((ls.take m).length) none ((ls.take m).length) 3,[.arr 3 (ls.take m) true 0])):RT pol 13 (sub [] B13) [(0,.imm .arg 3 ls)] [] .ret (env13 (.imm .arg 3 ls) (.sl 0 0 ((ls.take m).length) none ((ls.take m).length) 3) (.sl 0 0 0 none 0 3)) [.arr 3 (ls.take m) true 0] :=
  RunsTo.hin 0 60 [⟨2,5,.imm .arg 3 (ls.take m),[.arr 3 [] true 0]⟩,⟨2,6,.sl 0 0 ((ls.take m).length) none ((ls.take m).length) 3,[.arr 3 (ls.take m) true 0]⟩] fun kf hk=>⟨_,by kernel_rfl,(oP [.arr 3 [] true 0] g0 (oC (g1) .nil))⟩
noncomputable def B21:Code:=Try.f21.body.getD .skip
abbrev env21 (v0 v1 v4 v5:HV):Env:=[(0,v0),(1,v1),(4,v4),(5,v5)]
theorem in_a_0 (la lb:List HV) :RT pol 21 (sub [0] B21) [(0,.a la),(1,.a lb)] [] .normal (env21 (.a la) (.a lb) (.bool false) Ud) [] :=
  RunsTo.hin 0 60 [] fun kf hk=>⟨_,by kernel_rfl,.nil⟩
theorem in_b_0 (la lb:List HV)  {y5:HV}(g0:(la.length:Int)=(lb.length:Int)):RT pol 21 (sub [1,0] B21) (env21 (.a la) (.a lb) (.bool false) y5) [] .normal (env21 (.a la) (.a lb) (.bool false) y5) [] :=
  RunsTo.hin 0 60 [⟨1,4,.bool false,[]⟩] fun kf hk=>⟨_,by kernel_rfl,(oB [] (congrArg not (decide_eq_true g0)) .nil)⟩
theorem in_b_1 (la lb:List HV)  {y5:HV}(g0:¬ ((la.length:Int)=(lb.length:Int))):RT pol 21 (sub [1,0] B21) (env21 (.a la) (.a lb) (.bool false) y5) [] .ret (env21 (.a la) (.a lb) (.bool false) y5) [] :=
  RunsTo.hin 0 60 [⟨1,4,.bool true,[]⟩] fun kf hk=>⟨_,by kernel_rfl,(oB [] (congrArg not (decide_eq_false g0)) .nil)⟩
theorem in_c_0 (la lb:List HV)  {y5:HV}:RT pol 21 (sub [1,1,0,0] B21) (env21 (.a la) (.a lb) (.bool false) y5) [] .normal (env21 (.a la) (.a lb) (.bool false) (.i 0)) [] :=
  RunsTo.hin 0 60 [] fun kf hk=>⟨_,by kernel_rfl,.nil⟩
theorem in_l_0 (la lb:List HV)  (j:Nat) {x0:Int} {x1:Int} (g0:(j:Int) < (la.length:Int)) (g1:idxV Tp 24 (.a la) (.i (j:Int))=some (.vptr (.i x0))) (g2:idxV Tp 24 (.a lb) (.i (j:Int))=some (.vptr (.i x1))) (g3:x0=x1):RT pol 21 (sub [1,1,0,1,0,0] B21) (env21 (.a la) (.a lb) (.bool false) (.i (j:Int))) [] .normal (env21 (.a la) (.a lb) (.bool false) (.i (IntKind.i64.wrap ((j:Int)+1)))) [] :=
  RunsTo.hin 0 60 [⟨4,3,.bool true,[]⟩,⟨6,2,.vptr (.i x0),[]⟩,⟨6,6,.vptr (.i x1),[]⟩,⟨6,8,.bool false,[]⟩] fun kf hk=>⟨_,by kernel_rfl,(oB [] (decide_eq_true g0) (oP [] g1 (oP [] g2 (oB [] (congrArg not (decide_eq_true g3)) .nil))))⟩
theorem in_l_1 (la lb:List HV)  (j:Nat) {x0:Int} {x1:Int} (g0:(j:Int) < (la.length:Int)) (g1:idxV Tp 24 (.a la) (.i (j:Int))=some (.vptr (.i x0))) (g2:idxV Tp 24 (.a lb) (.i (j:Int))=some (.vptr (.i x1))) (g3:¬ (x0=x1)):RT pol 21 (sub [1,1,0,1,0,0] B21) (env21 (.a la) (.a lb) (.bool false) (.i (j:Int))) [] .ret (env21 (.a la) (.a lb) (.bool false) (.i (j:Int))) [] :=
  RunsTo.hin 0 60 [⟨4,3,.bool true,[]⟩,⟨6,2,.vptr (.i x0),[]⟩,⟨6,6,.vptr (.i x1),[]⟩,⟨6,8,.bool true,[]⟩] fun kf hk=>⟨_,by kernel_rfl,(oB [] (decide_eq_true g0) (oP [] g1 (oP [] g2 (oB [] (congrArg not (decide_eq_false g3)) .nil))))⟩
theorem in_l_2 (la lb:List HV)  (j:Nat)(g0:¬ ((j:Int) < (la.length:Int))):RT pol 21 (sub [1,1,0,1,0,0] B21) (env21 (.a la) (.a lb) (.bool false) (.i (j:Int))) [] (.exit 0) (env21 (.a la) (.a lb) (.bool false) (.i (j:Int))) [] :=
  RunsTo.hin 0 60 [⟨4,3,.bool false,[]⟩] fun kf hk=>⟨_,by kernel_rfl,(oB [] (decide_eq_false g0) .nil)⟩
theorem in_z_0 (la lb:List HV)  {y5:HV}:RT pol 21 (sub [1,1,1] B21) (env21 (.a la) (.a lb) (.bool false) y5) [] .ret (env21 (.a la) (.a lb) (.bool true) y5) [] :=
  RunsTo.hin 0 60 [] fun kf hk=>⟨_,by kernel_rfl,.nil⟩
noncomputable def B42:Code:=Try.f42.body.getD .skip
abbrev env42 (v0 v1 v2 v4 v5 v7 v8 v9 v10:HV):Env:=[(0,v0),(1,v1),(2,v2),(4,v4),(5,v5),(7,v7),(8,v8),(9,v9),(10,v10)]
theorem we_a_0 (n:Int) (ls la:List HV) :RT pol 42 (sub [0] B42) [(0,.agg [.i n,.imm .arg 3 ls]),(1,.a la)] [] .normal (env42 (.agg [.i n,.imm .arg 3 ls]) (.a la) (.ptr 0 0 0 1) (.i 0) Ud Ud Ud Ud Ud) [.arr 2 [.agg [.i n,.imm .arg 3 ls]] true 0] :=
  RunsTo.hin 0 60 [] fun kf hk=>⟨_,by kernel_rfl,.nil⟩
theorem we_b_0 (n:Int) (ls la:List HV)  {y5 y7 y8 y9 y10:HV}:RT pol 42 (sub [1,0] B42) (env42 (.agg [.i n,.imm .arg 3 ls]) (.a la) (.ptr 0 0 0 1) (.i 0) y5 y7 y8 y9 y10) [.arr 2 [.agg [.i n,.imm .arg 3 ls]] true 0] .normal (env42 (.agg [.i n,.imm .arg 3 ls]) (.a la) (.ptr 0 0 0 1) (.i 0) (.i 0) y7 y8 y9 y10) [.arr 2 [.agg [.i n,.imm .arg 3 ls]] true 0] :=
  RunsTo.hin 0 60 [] fun kf hk=>⟨_,by kernel_rfl,.nil⟩
theorem we_c_0 (n:Int) (ls la:List HV)  (s:Int) {y7 y8 y9 y10:HV}:RT pol 42 (sub [1,1,0,0] B42) (env42 (.agg [.i n,.imm .arg 3 ls]) (.a la) (.ptr 0 0 0 1) (.i 0) (.i s) y7 y8 y9 y10) [.arr 2 [.agg [.i n,.imm .arg 3 ls]] true 0] .normal (env42 (.agg [.i n,.imm .arg 3 ls]) (.a la) (.ptr 0 0 0 1) (.i 0) (.i s) y7 (.a la) (.i (la.length:Int)) (.i 0)) [.arr 2 [.agg [.i n,.imm .arg 3 ls]] true 0] :=
  RunsTo.hin 0 60 [] fun kf hk=>⟨_,by kernel_rfl,.nil⟩
theorem we_l_0 (n:Int) (ls la:List HV)  (s:Int) (j q k:Nat) (a b w:Int) {y7:HV}(g0:(j:Int) < (q:Int)) (g1:idxV Tp 24 (.a la) (.i (j:Int))=some (.vptr (.i (k:Int)))) (g2:idxV Tp 22 (.imm .arg 3 ls) (.i (k:Int))=some (.vptr (.agg [.i a,.i b,.i w]))):RT pol 42 (sub [1,1,0,1,0,0] B42) (env42 (.agg [.i n,.imm .arg 3 ls]) (.a la) (.ptr 0 0 0 1) (.i 0) (.i s) y7 (.a la) (.i (q:Int)) (.i (j:Int))) [.arr 2 [.agg [.i n,.imm .arg 3 ls]] true 0] .normal (env42 (.agg [.i n,.imm .arg 3 ls]) (.a la) (.ptr 0 0 0 1) (.i 0) (.i (IntKind.i64.wrap (s+w))) (.i (k:Int)) (.a la) (.i (q:Int)) (.i (IntKind.i64.wrap ((j:Int)+1)))) [.arr 2 [.agg [.i n,.imm .arg 3 ls]] true 0] :=
  RunsTo.hin 0 60 [⟨3,0,.bool true,[.arr 2 [.agg [.i n,.imm .arg 3 ls]] true 0]⟩,⟨4,0,.vptr (.i (k:Int)),[.arr 2 [.agg [.i n,.imm .arg 3 ls]] true 0]⟩,⟨5,4,.vptr (.agg [.i a,.i b,.i w]),[.arr 2 [.agg [.i n,.imm .arg 3 ls]] true 0]⟩] fun kf hk=>⟨_,by kernel_rfl,(oB [.arr 2 [.agg [.i n,.imm .arg 3 ls]] true 0] (decide_eq_true g0) (oP [.arr 2 [.agg [.i n,.imm .arg 3 ls]] true 0] g1 (oP [.arr 2 [.agg [.i n,.imm .arg 3 ls]] true 0] g2 .nil)))⟩
theorem we_l_1 (n:Int) (ls la:List HV)  (s:Int) (j q k:Nat) (a b w:Int) {y7:HV}(g0:¬ ((j:Int) < (q:Int))):RT pol 42 (sub [1,1,0,1,0,0] B42) (env42 (.agg [.i n,.imm .arg 3 ls]) (.a la) (.ptr 0 0 0 1) (.i 0) (.i s) y7 (.a la) (.i (q:Int)) (.i (j:Int))) [.arr 2 [.agg [.i n,.imm .arg 3 ls]] true 0] (.exit 0) (env42 (.agg [.i n,.imm .arg 3 ls]) (.a la) (.ptr 0 0 0 1) (.i 0) (.i s) y7 (.a la) (.i (q:Int)) (.i (j:Int))) [.arr 2 [.agg [.i n,.imm .arg 3 ls]] true 0] :=
  RunsTo.hin 0 60 [⟨3,0,.bool false,[.arr 2 [.agg [.i n,.imm .arg 3 ls]] true 0]⟩] fun kf hk=>⟨_,by kernel_rfl,(oB [.arr 2 [.agg [.i n,.imm .arg 3 ls]] true 0] (decide_eq_false g0) .nil)⟩
theorem we_z_0 (n:Int) (ls la:List HV)  (s:Int) {y7 y8 y9 y10:HV}:RT pol 42 (sub [1,1,1] B42) (env42 (.agg [.i n,.imm .arg 3 ls]) (.a la) (.ptr 0 0 0 1) (.i 0) (.i s) y7 y8 y9 y10) [.arr 2 [.agg [.i n,.imm .arg 3 ls]] true 0] .ret (env42 (.agg [.i n,.imm .arg 3 ls]) (.a la) (.ptr 0 0 0 1) (.i s) (.i s) y7 y8 y9 y10) [.arr 2 [.agg [.i n,.imm .arg 3 ls]] true 0] :=
  RunsTo.hin 0 60 [] fun kf hk=>⟨_,by kernel_rfl,.nil⟩
end Go.Proofs.Ytiejmoglooaalaa
end
section
open Go Go.HL
namespace Go.Proofs.Ytiejmoglooaalaa
open Go.Proofs.Try renaming prog → Tp
open Go.HL.HV renaming undef → Ud
def within52:List HV → Option HV:=f3 kI kI kI fun n lo hi=>some (.bool (decide (lo ≤ n∧n ≤ hi)))
theorem within_ok:PrimOk Tp 52 within52:=by
  refine primOk_pure (pol:=pol) (fn:=Try.f52) (cd:=B52) follows_mixed sound (by kernel_rfl) (by kernel_rfl) (fnok pol.prim _ _ (by kernel_rfl)) (by kernel_rfl) ?_
  intro args res h
  obtain ⟨n,lo,hi,rfl,hq⟩:=f3_inv h
  cases hq
  have hr:Try.f52.results.toList=[.tmp 6]:=by kernel_rfl
  by_cases g0:lo ≤ n
  · by_cases g1:n ≤ hi
    · exact ⟨_,_,_,_,w52_0 n lo hi g0 g1,by simp,by simp only [resultsV,hr]; rfl,by rw [decide_eq_true ⟨g0,g1⟩]; rfl⟩
    · exact ⟨_,_,_,_,w52_1 n lo hi g0 g1,by simp,by simp only [resultsV,hr]; rfl,by rw [decide_eq_false (fun h=>g1 h.2)]; rfl⟩
  · exact ⟨_,_,_,_,w52_2 n lo hi g0,by simp,by simp only [resultsV,hr]; rfl,by rw [decide_eq_false (fun h=>g0 h.1)]; rfl⟩
def mod24:List HV → Option HV:=f2 kI kI fun a n=>if 0 < n∧n < 9223372036854775808 then some (.int .i64 (modW a n)) else none
theorem mod_ok:PrimOk Tp 24 mod24:=by
  refine primOk_pure (pol:=pol) (fn:=Try.f24) (cd:=B24) follows_mixed sound (by kernel_rfl) (by kernel_rfl) (fnok pol.prim _ _ (by kernel_rfl)) (by kernel_rfl) ?_
  intro args res h
  obtain ⟨a,n,rfl,hq⟩:=f2_inv h
  split at hq
  case isFalse=>cases hq
  rename_i hn
  cases hq
  have hr:Try.f24.results.toList=[.tmp 4]:=by kernel_rfl
  refine ⟨_,_,_,_,m24_0 a n ?_,by simp,by simp only [resultsV,hr]; rfl,rfl⟩
  have:IntKind.u64.wrap n ≠ 0:=by rw [wrapU64]; omega
  simp only [binV,intBin,if_neg this,if_true]
def net13:List HV → Option HV:=f1 kS fun l=>some (.own 3 ((l.take 61).map encT))
theorem res13:Try.f13.results.toList=[.tmp 2]:=by kernel_rfl
theorem net_ok:PrimOk Tp 13 net13:=by
  refine primOk_pure (pol:=pol) (fn:=Try.f13) (cd:=B13) follows_mixed sound (by kernel_rfl) (by kernel_rfl) (fnok pol.prim _ _ (by kernel_rfl)) (by kernel_rfl) ?_
  intro args res h
  obtain ⟨l,rfl,hq⟩:=f1_inv h
  cases hq
  have hmin:min ((l.map encT).length:Int) 61=((min l.length 61:Nat):Int):=by rw [List.length_map]; omega
  have hw:(l.map encT).take (min l.length 61)=(l.take 61).map encT:=by rw [← List.map_take,take_min]
  have s1:=ne_0 (l.map encT) (min l.length 61) (by rw [hmin]; exact slice_immS (by rw [List.length_map]; omega)) (by
    rw [hw]
    by_cases h0:l.take 61=[]
    · rw [h0]; rfl
    · have hlen:(l.take 61).length ≤ 61:=by rw [List.length_take]; omega
      have:=app_sts (H:=[bS []]) (b:=0) (o:=[]) (xs:=l.take 61) rfl (by simp; omega) h0
      rw [List.nil_append] at this
      simpa [bS] using this)
  rw [hw] at s1
  refine ⟨_,_,_,.sl 0 0 ((l.take 61).map encT).length none ((l.take 61).map encT).length 3,s1,by simp,by simp only [resultsV,res13]; rfl,?_⟩
  exact res_sts (b:=0) rfl (by simp)
theorem first_at {α:Type} (d:α) (p:α → Prop) [DecidablePred p]:∀ (l:List α),(∃ m,m < l.length∧p (l.getD m d)∧∀ i,i < m → ¬ p (l.getD i d)) ∨ ∀ x ∈ l,¬ p x
  | []=>.inr (by simp)
  | x :: l=>by
    by_cases hx:p x
    · exact .inl ⟨0,by simp,hx,fun i hi=>absurd hi (Nat.not_lt_zero _)⟩
    · rcases first_at d p l with ⟨m,h1,h2,h3⟩ | h
      · refine .inl ⟨m+1,by simpa using h1,h2,fun i hi=>?_⟩
        cases i with
        | zero=>exact hx
        | succ i=>exact h3 i (by omega)
      · exact .inr fun y hy=>by
          rcases List.mem_cons.1 hy with rfl | hy
          · exact hx
          · exact h y hy
theorem mem_getD {α:Type} (d:α) {l:List α} {i:Nat} (h:i < l.length):l.getD i d ∈ l:=by rw [getD_at h]; exact List.getElem_mem h
end Go.Proofs.Ytiejmoglooaalaa
end
section
open Go Go.HL
namespace Go.Proofs.Ytiejmoglooaalaa
open Go.Proofs.Try renaming prog → Tp
open Go.HL.HV renaming undef → Ud
def ints21:List HV → Option HV:=f2 kL kL fun a b=>if a.length ≤ 1000 then some (.bool (decide (a=b))) else none
theorem res21:Try.f21.results.toList=[.tmp 4]:=by kernel_rfl
theorem ints_ok:PrimOk Tp 21 ints21:=by
  refine primOk_pure (pol:=pol) (fn:=Try.f21) (cd:=B21) follows_mixed sound (by kernel_rfl) (by kernel_rfl) (fnok pol.prim _ _ (by kernel_rfl)) (by kernel_rfl) ?_
  intro args res h
  obtain ⟨a,b,rfl,hq⟩:=f2_inv h
  split at hq
  case isFalse=>cases hq
  rename_i hl
  cases hq
  have s0:=in_a_0 (a.map encI) (b.map encI)
  by_cases hab:a.length=b.length
  · have s1:=in_b_0 (a.map encI) (b.map encI) (y5:=Ud) (by simp [hab])
    have s2:=in_c_0 (a.map encI) (b.map encI) (y5:=Ud)
    have go:∀ m,m ≤ a.length → (∀ i,i < m → ¬ a.getD i 0 ≠ b.getD i 0) → ∀ i,i < m → RT pol 21 (sub [1,1,0,1,0,0] B21) ((env21 (.imm .arg 1 (a.map encI)) (.imm .arg 1 (b.map encI)) (.bool false) (.int .i64 (i:Int)))) [] .normal ((env21 (.imm .arg 1 (a.map encI)) (.imm .arg 1 (b.map encI)) (.bool false) (.int .i64 ((i+1:Nat):Int)))) []:=fun m hm hn i hi=>by
      have s:=in_l_0 (a.map encI) (b.map encI) i (x0:=a.getD i 0) (x1:=b.getD i 0) (by rw [List.length_map]; omega) (gx (by omega)) (gx (by omega)) (Decidable.not_not.1 (hn i hi))
      rw [wrap_succ (by omega)] at s
      exact s
    rcases first_at 0 (fun i:Nat=>a.getD i 0 ≠ b.getD i 0) (List.range a.length) with ⟨m,h1,h2,h3⟩ | hn
    · rw [List.length_range] at h1
      have er:∀ i,i < a.length → (List.range a.length).getD i 0=i:=fun i hi=>by simp [List.getD,hi]
      rw [er m h1] at h2
      have h3:∀ i,i < m → ¬ a.getD i 0 ≠ b.getD i 0:=fun i hi=>by have:=h3 i hi; rwa [er i (by omega)] at this
      have r:=count (E:=fun i=>(env21 (.imm .arg 1 (a.map encI)) (.imm .arg 1 (b.map encI)) (.bool false) (.int .i64 (i:Int)))) (Hs:=fun _=>[]) m (go m (by omega) h3) (fun i _=>by kernel_rfl) (fun i _=>rfl) (in_l_1 (a.map encI) (b.map encI) m (x0:=a.getD m 0) (x1:=b.getD m 0) (by rw [List.length_map]; omega) (gx h1) (gx (by omega)) h2) (by simp) (c:=sub [1,1,0,1,0] B21) (by kernel_rfl) (fun i _=>by kernel_rfl)
      refine ⟨_,_,_,.bool false,sq (s0) (sq (s1) (sqo (sq (s2) (RunsTo.block_ret (i:=0) (c:=sub [1,1,0,1] B21) (r) (by kernel_rfl)) (c:=sub [1,1,0] B21)) (c:=sub [1,1] B21) (b:=sub [1,1,1] B21)) (c:=sub [1] B21)) (c:=B21),by simp,by simp only [resultsV,res21]; rfl,?_⟩
      rw [decide_eq_false (fun e=>h2 (by rw [e]))]; rfl
    · have hn:∀ i,i < a.length → ¬ a.getD i 0 ≠ b.getD i 0:=fun i hi=>hn i (List.mem_range.2 hi)
      have r:=count (E:=fun i=>(env21 (.imm .arg 1 (a.map encI)) (.imm .arg 1 (b.map encI)) (.bool false) (.int .i64 (i:Int)))) (Hs:=fun _=>[]) a.length (go a.length (Nat.le_refl _) hn) (fun i _=>by kernel_rfl) (fun i _=>rfl) (in_l_2 (a.map encI) (b.map encI) a.length (by rw [List.length_map]; omega)) (by simp) (c:=sub [1,1,0,1,0] B21) (by kernel_rfl) (fun i _=>by kernel_rfl)
      have z:=in_z_0 (a.map encI) (b.map encI) (y5:=.int .i64 (a.length:Int))
      refine ⟨_,_,_,.bool true,sq (s0) (sq (s1) (sq (sq (s2) (bke (c:=sub [1,1,0,1] B21) (r)) (c:=sub [1,1,0] B21)) (z) (c:=sub [1,1] B21)) (c:=sub [1] B21)) (c:=B21),by simp,by simp only [resultsV,res21]; rfl,?_⟩
      rw [decide_eq_true (List.ext_getElem hab fun i h1 h2=>by have:=Decidable.not_not.1 (hn i h1); rwa [getD_at h1,getD_at h2] at this)]; rfl
  · have s1:=in_b_1 (a.map encI) (b.map encI) (y5:=Ud) (by rw [List.length_map,List.length_map]; omega)
    refine ⟨_,_,_,.bool false,sq (s0) (sqo (s1) (c:=sub [1] B21) (b:=sub [1,1] B21)) (c:=B21),by simp,by simp only [resultsV,res21]; rfl,?_⟩
    rw [decide_eq_false (fun e=>hab (by rw [e]))]; rfl
def wOf (l:List St) (k:Int):Int:=(l.getD k.toNat (0,0,0)).2.2
def wgt (l:List St) (t:List Int):Int:=(t.map (wOf l)).sum
def inR (m:Nat) (t:List Int):Bool:=t.all fun k=>decide (0 ≤ k∧k < (m:Int))
def wB (l:List St):Bool:=l.all fun s=>decide (0 ≤ s.2.2∧s.2.2 ≤ 1000000)
theorem inR_iff {m:Nat} {t:List Int}:inR m t=true ↔ ∀ k ∈ t,0 ≤ k∧k < (m:Int):=by simp [inR]
theorem wB_iff {l:List St}:wB l=true ↔ ∀ s ∈ l,0 ≤ s.2.2∧s.2.2 ≤ 1000000:=by simp [wB]
theorem sum_take_succ (l:List Int) {i:Nat} (h:i < l.length):(l.take (i+1)).sum=(l.take i).sum+l.getD i 0:=by
  rw [List.take_add_one,List.getElem?_eq_getElem h,List.sum_append]; simp [List.getD,List.getElem?_eq_getElem h]
theorem sum_bnd {l:List Int} {M:Int} (h0:0 ≤ M) (h:∀ x ∈ l,0 ≤ x∧x ≤ M):0 ≤ l.sum∧l.sum ≤ M * l.length:=by
  induction l with
  | nil=>simp
  | cons x l ih =>
    have:=ih fun y hy=>h y (by simp [hy])
    have:=h x (by simp)
    rw [List.sum_cons,List.length_cons,Int.natCast_add,Int.mul_add]
    omega
theorem wOf_bnd {l:List St} (hw:∀ s ∈ l,0 ≤ s.2.2∧s.2.2 ≤ 1000000) (k:Int):0 ≤ wOf l k∧wOf l k ≤ 1000000:=by
  unfold wOf
  by_cases h:k.toNat < l.length
  · exact hw _ (mem_getD _ h)
  · have e:l.getD k.toNat (0,0,0)=(0,0,0):=by simp [List.getD,List.getElem?_eq_none (Nat.le_of_not_lt h)]
    rw [e]; exact ⟨by decide,by decide⟩
theorem wgt_take {l:List St} (hw:∀ s ∈ l,0 ≤ s.2.2∧s.2.2 ≤ 1000000) {t:List Int} (ht:t.length ≤ 1000) (i:Nat):0 ≤ ((t.map (wOf l)).take i).sum∧((t.map (wOf l)).take i).sum ≤ 1000000000:=by
  have h:=sum_bnd (l:=(t.map (wOf l)).take i) (M:=1000000) (by omega) fun x hx=>by
    obtain ⟨k,_,rfl⟩:=List.mem_map.1 (List.mem_of_mem_take hx)
    exact wOf_bnd hw k
  have:((t.map (wOf l)).take i).length ≤ 1000:=by rw [List.length_take,List.length_map]; omega
  omega
theorem gk {t:List Int} {i m:Nat} (hi:i < t.length) (ht:∀ k ∈ t,0 ≤ k∧k < (m:Int)):idxV Tp 24 (.imm .arg 1 (t.map encI)) (.int .i64 (i:Int))=some (.vptr (.int .i64 ((t.getD i 0).toNat:Int)))∧(t.getD i 0).toNat < m:=by
  have:=ht _ (mem_getD 0 hi)
  have g:=gx hi
  rw [show (((t.getD i 0).toNat:Nat):Int)=t.getD i 0 by omega]
  exact ⟨g,by omega⟩
def weight42:List HV → Option HV:=f2 kN kL fun p t=>if inR p.2.length t=true∧wB p.2=true∧t.length ≤ 1000 then some (.int .i64 (wgt p.2 t)) else none
theorem res42:Try.f42.results.toList=[.tmp 4]:=by kernel_rfl
theorem weight_ok:PrimOk Tp 42 weight42:=by
  refine primOk_pure (pol:=pol) (fn:=Try.f42) (cd:=B42) follows_mixed sound (by kernel_rfl) (by kernel_rfl) (fnok pol.prim _ _ (by kernel_rfl)) (by kernel_rfl) ?_
  intro args res h
  obtain ⟨⟨n,l⟩,t,rfl,hq⟩:=f2_inv h
  split at hq
  case isFalse=>cases hq
  rename_i hc
  obtain ⟨h1,h2,h3⟩:=hc
  simp only at h1 h2
  cases hq
  have ht:=inR_iff.1 h1
  have hw:=wB_iff.1 h2
  have a:=we_a_0 n (l.map encT) (t.map encI)
  have b:=we_b_0 n (l.map encT) (t.map encI) (y5:=Ud) (y7:=Ud) (y8:=Ud) (y9:=Ud) (y10:=Ud)
  have c:=we_c_0 n (l.map encT) (t.map encI) 0 (y7:=Ud) (y8:=Ud) (y9:=Ud) (y10:=Ud)
  rw [List.length_map] at c
  have r:=count (E:=fun i=>(env42 (encN n l) (.imm .arg 1 (t.map encI)) (.ptr 0 0 0 1) (.int .i64 0) (.int .i64 ((t.map (wOf l)).take i).sum) Ud (.imm .arg 1 (t.map encI)) (.int .i64 (t.length:Int)) (.int .i64 (i:Int)))) (Hs:=fun _=>[.arr 2 [encN n l] true 0]) t.length
    (E0:=fun i=>(env42 (encN n l) (.imm .arg 1 (t.map encI)) (.ptr 0 0 0 1) (.int .i64 0) (.int .i64 ((t.map (wOf l)).take (i+1)).sum) (.int .i64 ((t.getD i 0).toNat:Int)) (.imm .arg 1 (t.map encI)) (.int .i64 (t.length:Int)) (.int .i64 ((i+1:Nat):Int)))) (H1:=fun _=>[.arr 2 [encN n l] true 0])
    (fun i hi=>by
      obtain ⟨g1,g2⟩:=gk hi ht
      have s:=we_l_0 n (l.map encT) (t.map encI) ((t.map (wOf l)).take i).sum i t.length (t.getD i 0).toNat (l.getD (t.getD i 0).toNat (0,0,0)).1 (l.getD (t.getD i 0).toNat (0,0,0)).2.1 (l.getD (t.getD i 0).toNat (0,0,0)).2.2 (y7:=Ud) (by omega) g1 (gs g2)
      have b1:=wgt_take hw (t:=t) h3 i
      have b2:=wOf_bnd hw (t.getD i 0)
      have e1:((t.map (wOf l)).take (i+1)).sum=((t.map (wOf l)).take i).sum+(l.getD (t.getD i 0).toNat (0,0,0)).2.2:=by
        rw [sum_take_succ _ (by rw [List.length_map]; exact hi),getD_at (by rw [List.length_map]; exact hi),List.getElem_map,wOf,getD_at hi]
      rw [wrap_succ (by omega),wrap_id (by unfold wOf at b2; omega) (by unfold wOf at b2; omega),← e1] at s
      exact s) (fun i _=>by kernel_rfl) (fun i _=>gc_eq _ rfl) (we_l_1 n (l.map encT) (t.map encI) ((t.map (wOf l)).take t.length).sum t.length t.length 0 0 0 0 (y7:=Ud) (by omega)) (by simp) (c:=sub [1,1,0,1,0] B42) (by kernel_rfl) (fun i _=>by kernel_rfl)
  have z:=we_z_0 n (l.map encT) (t.map encI) ((t.map (wOf l)).take t.length).sum (y7:=Ud) (y8:=.imm .arg 1 (t.map encI)) (y9:=.int .i64 (t.length:Int)) (y10:=.int .i64 (t.length:Int))
  refine ⟨_,_,_,.int .i64 ((t.map (wOf l)).take t.length).sum,sq (a) (sq (b) (sq (sq (c) (bke (c:=sub [1,1,0,1] B42) (r)) (c:=sub [1,1,0] B42)) (z) (c:=sub [1,1] B42)) (c:=sub [1] B42)) (c:=B42),by simp,by simp only [resultsV,res42]; rfl,?_⟩
  rw [List.take_of_length_le (by rw [List.length_map]; exact Nat.le_refl _)]; rfl
def startT (n:Nat):List Int:=(List.range n).map fun (i:Nat)=>(i:Int)
theorem startT_len (n:Nat):(startT n).length=n:=by simp [startT]
theorem startT_succ (n:Nat):startT (n+1)=startT n ++ [(n:Int)]:=by simp [startT,List.range_succ]
def labS (x y v:Int):Int:=if v=y then x else v
def joinT (g:List Int) (a b:Int):List Int:=g.map (labS (min (g.getD a.toNat 0) (g.getD b.toNat 0)) (max (g.getD a.toNat 0) (g.getD b.toNat 0)))
def stB (n:Int) (s:St):Bool:=decide ((0 ≤ s.1∧s.1 < n)∧(0 ≤ s.2.1∧s.2.1 < n)∧s.1 ≠ s.2.1∧(0 ≤ s.2.2∧s.2.2 ≤ 1000))
def netB (n:Int) (l:List St):Bool:=l.all (stB n) && decide ((1 ≤ n∧n ≤ 16)∧l.length ≤ 60)
end Go.Proofs.Ytiejmoglooaalaa
end
section
open Go Go.HL
namespace Go.Proofs.Ytiejmoglooaalaa
set_option maxRecDepth 100000
open Go.Proofs.Try renaming prog → Tp
open Go.HL.HV renaming undef → Ud
section
variable {F:FuncId → Option (List HV → Option HV)}
noncomputable def B53:Code:=Try.f53.body.getD .skip
abbrev env53 (v0 v1 v2 v5:HV):Env:=[(0,v0),(1,v1),(2,v2),(5,v5)]
theorem ap_a_0  (H:Heap):RunsTo Tp (plF F) 53 (sub [0] B53) [] H .normal ((plF F).keys 53) (env53 Ud Ud Ud Ud) H :=
  RunsTo.hin 0 60 [] fun kf hk=>⟨_,by kernel_rfl,.nil⟩
theorem ap_b_0  (H:Heap) (b:Nat) {y0 y1 y2 y5:HV} {a0:HV} {H0:Heap} (g0:some (newV (.agg [.i 0,.i 0,.i 0,.i 0,.i 0,.i 0,.i 0,.i 0,.i 0,.i 0,.i 0,.i 0,.i 0,.i 0,.i 0,.i 0]) H)=some (a0,H0)):RunsTo Tp (plF F) 53 (sub [1,0] B53) (env53 y0 y1 y2 y5) H .normal ((plF F).keys 53) (env53 y0 a0 y2 y5) H0 :=
  RunsTo.hin 0 60 [⟨1,1,a0,H0⟩] fun kf hk=>⟨_,by kernel_rfl,(oC (g0) .nil)⟩
theorem ap_c_0  (H:Heap) (b:Nat) {y0 y2 y5:HV}:RunsTo Tp (plF F) 53 (sub [1,1,0,0] B53) (env53 y0 (.ptr b 0 0 1) y2 y5) H .normal ((plF F).keys 53) (env53 y0 (.ptr b 0 0 1) y2 (.i 0)) H :=
  RunsTo.hin 0 60 [] fun kf hk=>⟨_,by kernel_rfl,.nil⟩
theorem ap_l_0  (H:Heap) (b:Nat) (i:Nat) {y0 y2:HV} {H0:Heap} (g0:(i:Int) < 16) (g1:idxV Tp 100 (.ptr b 0 0 1) (.i (i:Int))=some (.ptr b 0 i 1)) (g2:storeV Tp H 3 (.ptr b 0 i 1) (.i (i:Int))=some H0):RunsTo Tp (plF F) 53 (sub [1,1,0,1,0,0] B53) (env53 y0 (.ptr b 0 0 1) y2 (.i (i:Int))) H .normal ((plF F).keys 53) (env53 y0 (.ptr b 0 0 1) (.i (i:Int)) (.i (IntKind.i64.wrap ((i:Int)+1)))) H0 :=
  RunsTo.hin 0 60 [⟨3,0,.bool true,H⟩,⟨5,5,.ptr b 0 i 1,H⟩,⟨5,6,.tuple [],H0⟩] fun kf hk=>⟨_,by kernel_rfl,(oB H (decide_eq_true g0) (oP H g1 (oS g2 .nil)))⟩
theorem ap_l_1  (H:Heap) (b:Nat) (i:Nat) {y0 y2:HV}(g0:¬ ((i:Int) < 16)):RunsTo Tp (plF F) 53 (sub [1,1,0,1,0,0] B53) (env53 y0 (.ptr b 0 0 1) y2 (.i (i:Int))) H (.exit 0) ((plF F).keys 53) (env53 y0 (.ptr b 0 0 1) y2 (.i (i:Int))) H :=
  RunsTo.hin 0 60 [⟨3,0,.bool false,H⟩] fun kf hk=>⟨_,by kernel_rfl,(oB H (decide_eq_false g0) .nil)⟩
theorem ap_z_0  (H:Heap) (b:Nat) {y0 y2 y5:HV}:RunsTo Tp (plF F) 53 (sub [1,1,1] B53) (env53 y0 (.ptr b 0 0 1) y2 y5) H .ret ((plF F).keys 53) (env53 (.ptr b 0 0 1) (.ptr b 0 0 1) y2 y5) H :=
  RunsTo.hin 0 60 [] fun kf hk=>⟨_,by kernel_rfl,.nil⟩
noncomputable def B55:Code:=Try.f55.body.getD .skip
abbrev env55 (v0 v1 v4:HV):Env:=[(0,v0),(1,v1),(4,v4)]
theorem of_a_0 (v:Int) (H:Heap) (b:Nat):RunsTo Tp (plF F) 55 (sub [0] B55) [(0,.ptr b 0 0 1),(1,.i v)] H .normal ((plF F).keys 55) (env55 (.ptr b 0 0 1) (.i v) (.i 0)) H :=
  RunsTo.hin 0 60 [] fun kf hk=>⟨_,by kernel_rfl,.nil⟩
theorem of_l_0 (v:Int) (H:Heap) (b:Nat) (w x:Int)(g0:idxV Tp 100 (.ptr b 0 0 1) (.i v)=some (.ptr b 0 ((v).toNat) 1)) (g1:loadV Tp H 3 (.ptr b 0 ((v).toNat) 1)=some (.i w)) (g2:w=v):RunsTo Tp (plF F) 55 (sub [1,0,0,0] B55) (env55 (.ptr b 0 0 1) (.i v) (.i 0)) H (.exit 0) ((plF F).keys 55) (env55 (.ptr b 0 0 1) (.i v) (.i 0)) H :=
  RunsTo.hin 0 60 [⟨1,4,.ptr b 0 ((v).toNat) 1,H⟩,⟨1,5,.i w,H⟩,⟨1,7,.bool false,H⟩] fun kf hk=>⟨_,by kernel_rfl,(oP H g0 (oP H g1 (oB H (congrArg not (decide_eq_true g2)) .nil)))⟩
theorem of_l_1 (v:Int) (H:Heap) (b:Nat) (w x:Int)(g0:idxV Tp 100 (.ptr b 0 0 1) (.i v)=some (.ptr b 0 ((v).toNat) 1)) (g1:loadV Tp H 3 (.ptr b 0 ((v).toNat) 1)=some (.i w)) (g2:¬ (w=v)) (g3:idxV Tp 100 (.ptr b 0 0 1) (.i v)=some (.ptr b 0 ((v).toNat) 1)) (g4:loadV Tp H 3 (.ptr b 0 ((v).toNat) 1)=some (.i x)):RunsTo Tp (plF F) 55 (sub [1,0,0,0] B55) (env55 (.ptr b 0 0 1) (.i v) (.i 0)) H .normal ((plF F).keys 55) (env55 (.ptr b 0 0 1) (.i x) (.i 0)) H :=
  RunsTo.hin 0 60 [⟨1,4,.ptr b 0 ((v).toNat) 1,H⟩,⟨1,5,.i w,H⟩,⟨1,7,.bool true,H⟩,⟨2,4,.ptr b 0 ((v).toNat) 1,H⟩,⟨2,5,.i x,H⟩] fun kf hk=>⟨_,by kernel_rfl,(oP H g0 (oP H g1 (oB H (congrArg not (decide_eq_false g2)) (oP H g3 (oP H g4 .nil)))))⟩
theorem of_z_0 (v:Int) (H:Heap) (b:Nat):RunsTo Tp (plF F) 55 (sub [1,1] B55) (env55 (.ptr b 0 0 1) (.i v) (.i 0)) H .ret ((plF F).keys 55) (env55 (.ptr b 0 0 1) (.i v) (.i v)) H :=
  RunsTo.hin 0 60 [] fun kf hk=>⟨_,by kernel_rfl,.nil⟩
noncomputable def B56:Code:=Try.f56.body.getD .skip
abbrev env56 (v0 v1 v2 v6 v7 v8:HV):Env:=[(0,v0),(1,v1),(2,v2),(6,v6),(7,v7),(8,v8)]
theorem jo_a_0 (N:Nat) (u v:Int) (H:Heap) (b:Nat) {r0:Int} {H0:Heap} {r1:Int} {H1:Heap} {H2:Heap} (g0:∀ kf,N ≤ kf → callN Tp (plF F) (kf+1) 55 [.ptr b 0 0 1,.i u] H=some (.i r0,H0)) (g1:∀ kf,N ≤ kf → callN Tp (plF F) (kf+1) 55 [.ptr b 0 0 1,.i v] H0=some (.i r1,H1)) (g2:idxV Tp 100 (.ptr b 0 0 1) (.i (max r0 r1))=some (.ptr b 0 ((max r0 r1).toNat) 1)) (g3:storeV Tp H1 3 (.ptr b 0 ((max r0 r1).toNat) 1) (.i (min r0 r1))=some H2) (g4:r0=r1):RunsTo Tp (plF F) 56 (sub [] B56) [(0,.ptr b 0 0 1),(1,.i u),(2,.i v)] H .ret ((plF F).keys 56) (env56 (.ptr b 0 0 1) (.i u) (.i v) (.bool false) (.i r0) (.i r1)) H2 :=
  RunsTo.hin N 60 [⟨1,2,.i r0,H0⟩,⟨1,5,.i r1,H1⟩,⟨2,9,.ptr b 0 ((max r0 r1).toNat) 1,H1⟩,⟨2,10,.tuple [],H2⟩,⟨3,2,.bool false,H2⟩] fun kf hk=>⟨_,by kernel_rfl,(oC (g0 kf (by omega)) (oC (g1 kf (by omega)) (oP H1 g2 (oS g3 (oB H2 (congrArg not (decide_eq_true g4)) .nil)))))⟩
theorem jo_a_1 (N:Nat) (u v:Int) (H:Heap) (b:Nat) {r0:Int} {H0:Heap} {r1:Int} {H1:Heap} {H2:Heap} (g0:∀ kf,N ≤ kf → callN Tp (plF F) (kf+1) 55 [.ptr b 0 0 1,.i u] H=some (.i r0,H0)) (g1:∀ kf,N ≤ kf → callN Tp (plF F) (kf+1) 55 [.ptr b 0 0 1,.i v] H0=some (.i r1,H1)) (g2:idxV Tp 100 (.ptr b 0 0 1) (.i (max r0 r1))=some (.ptr b 0 ((max r0 r1).toNat) 1)) (g3:storeV Tp H1 3 (.ptr b 0 ((max r0 r1).toNat) 1) (.i (min r0 r1))=some H2) (g4:¬ (r0=r1)):RunsTo Tp (plF F) 56 (sub [] B56) [(0,.ptr b 0 0 1),(1,.i u),(2,.i v)] H .ret ((plF F).keys 56) (env56 (.ptr b 0 0 1) (.i u) (.i v) (.bool true) (.i r0) (.i r1)) H2 :=
  RunsTo.hin N 60 [⟨1,2,.i r0,H0⟩,⟨1,5,.i r1,H1⟩,⟨2,9,.ptr b 0 ((max r0 r1).toNat) 1,H1⟩,⟨2,10,.tuple [],H2⟩,⟨3,2,.bool true,H2⟩] fun kf hk=>⟨_,by kernel_rfl,(oC (g0 kf (by omega)) (oC (g1 kf (by omega)) (oP H1 g2 (oS g3 (oB H2 (congrArg not (decide_eq_false g4)) .nil)))))⟩
end
end Go.Proofs.Ytiejmoglooaalaa
end
section
open Go Go.HL
namespace Go.Proofs.Ytiejmoglooaalaa
open Go.Proofs.Try renaming prog → Tp
open Go.HL.HV renaming undef → Ud
abbrev bU (us:List Int):Blk:=.arr 16 [.agg (us.map encI)] true 0
theorem u100:Tp.underlying 100=some (.array 16 3):=by kernel_rfl
theorem ixU {b:Nat} {v:Int} (h0:0 ≤ v) (h:v < 16):idxV Tp 100 (.ptr b 0 0 1) (.int .i64 v)=some (.ptr b 0 v.toNat 1):=idx_arr u100 z3 h0 (by omega)
theorem ldU {H:Heap} {b:Nat} {us:List Int} (hb:H[b]?=some (bU us)) {v:Nat} (h:v < us.length):loadV Tp H 3 (.ptr b 0 v 1)=some (.int .i64 (us.getD v 0)) :=
  load_cell (P:=Tp) (t:=3) (b:=b) (i:=0) (off:=v) (tot:=1) (els:=[.agg (us.map encI)]) (cs:=us.map encI) hb rfl rfl a3 i3 (by rw [List.getElem?_map,List.getElem?_eq_getElem h]; simp [List.getD,List.getElem?_eq_getElem h,encI])
theorem stU {H:Heap} {b:Nat} {us:List Int} (hb:H[b]?=some (bU us)) {v:Nat} (h:v < us.length) (x:Int):storeV Tp H 3 (.ptr b 0 v 1) (.int .i64 x)=some (H.set b (bU (us.set v x))):=by
  have:=store_cell (P:=Tp) (t:=3) (b:=b) (i:=0) (off:=v) (tot:=1) (v:=.int .i64 x) (els:=[.agg (us.map encI)]) (cs:=us.map encI) hb rfl rfl z3 rfl rfl (by simp [bnd]) (by simpa using h)
  rw [this]
  show some (H.set b (.arr 16 [.agg ((us.map encI).set v (encI x))] true 0))=_
  rw [bU,List.map_set]
structure Up (us g:List Int):Prop where
  lu:us.length=16
  lg:g.length=16
  up:∀ v,v < 16 → (us.getD v 0=(v:Int)∧g.getD v 0=(v:Int)) ∨ (0 ≤ us.getD v 0∧us.getD v 0 < (v:Int)∧g.getD v 0=g.getD (us.getD v 0).toNat 0)
theorem Up.lab {us g:List Int} (h:Up us g):∀ v,v < 16 → 0 ≤ g.getD v 0∧g.getD v 0 ≤ (v:Int)∧us.getD (g.getD v 0).toNat 0=g.getD v 0∧g.getD (g.getD v 0).toNat 0=g.getD v 0:=by
  intro v
  induction v using Nat.strongRecOn with
  | _ v ih =>
    intro hv
    rcases h.up v hv with ⟨h1,h2⟩ | ⟨h1,h2,h3⟩
    · rw [h2,Int.toNat_natCast]
      exact ⟨by omega,by omega,h1,h2⟩
    · rw [h3]
      obtain ⟨k1,k2,k3,k4⟩:=ih (us.getD v 0).toNat (by omega) (by omega)
      exact ⟨k1,by omega,k3,k4⟩
theorem Up.start:Up (startT 16) (startT 16):=by
  refine ⟨rfl,rfl,fun v hv=>.inl ?_⟩
  have:(startT 16).getD v 0=(v:Int):=by simp [startT,List.getD,hv]
  exact ⟨this,this⟩
theorem getD_set {us:List Int} {i v:Nat} {x:Int} (hi:i < us.length):(us.set i x).getD v 0=if i=v then x else us.getD v 0:=by
  simp only [List.getD,List.getElem?_set]
  split
  · rename_i h; subst h; simp [hi]
  · rfl
theorem getD_map {g:List Int} {f:Int → Int} {v:Nat} (hv:v < g.length):(g.map f).getD v 0=f (g.getD v 0):=by
  simp [List.getD,List.getElem?_eq_getElem hv]
theorem Up.join {us g:List Int} (h:Up us g) {u v:Nat} (hu:u < 16) (hv:v < 16):Up (us.set (max (g.getD u 0) (g.getD v 0)).toNat (min (g.getD u 0) (g.getD v 0))) (joinT g (u:Int) (v:Int)):=by
  obtain ⟨a1,a2,a3,a4⟩:=h.lab u hu
  obtain ⟨b1,b2,b3,b4⟩:=h.lab v hv
  have hx:∃ x y:Nat,min (g.getD u 0) (g.getD v 0)=(x:Int)∧max (g.getD u 0) (g.getD v 0)=(y:Int)∧x ≤ y∧y < 16∧us.getD x 0=(x:Int)∧g.getD x 0=(x:Int)∧us.getD y 0=(y:Int)∧g.getD y 0=(y:Int):=by
    obtain ⟨p,hp⟩:∃ p:Nat,g.getD u 0=(p:Int):=⟨(g.getD u 0).toNat,by omega⟩
    obtain ⟨q,hq⟩:∃ q:Nat,g.getD v 0=(q:Int):=⟨(g.getD v 0).toNat,by omega⟩
    rw [hp,Int.toNat_natCast] at a3 a4
    rw [hq,Int.toNat_natCast] at b3 b4
    rcases Nat.le_total p q with hpq | hpq
    · exact ⟨p,q,by omega,by omega,hpq,by omega,a3,a4,b3,b4⟩
    · exact ⟨q,p,by omega,by omega,hpq,by omega,b3,b4,a3,a4⟩
  obtain ⟨x,y,ex,ey,hxy,hy,ux,gx',uy,gy⟩:=hx
  unfold joinT
  rw [Int.toNat_natCast,Int.toNat_natCast,ex,ey,Int.toNat_natCast]
  refine ⟨by simp [h.lu],by simp [h.lg],fun w hw=>?_⟩
  rw [getD_set (by rw [h.lu]; exact hy),getD_map (by rw [h.lg]; exact hw)]
  by_cases e:y=w
  · subst e
    rw [if_pos rfl,gy]
    rcases Nat.lt_or_ge x y with c | c
    · refine .inr ⟨by omega,by omega,?_⟩
      rw [Int.toNat_natCast,getD_map (by rw [h.lg]; omega),gx']
      unfold labS
      rw [if_pos rfl,if_neg (by omega)]
    · have:x=y:=by omega
      subst this
      exact .inl ⟨rfl,by unfold labS; rw [if_pos rfl]⟩
  · rw [if_neg e]
    rcases h.up w hw with ⟨h1,h2⟩ | ⟨h1,h2,h3⟩
    · refine .inl ⟨h1,?_⟩
      rw [h2]; unfold labS; rw [if_neg (by omega)]
    · refine .inr ⟨h1,h2,?_⟩
      rw [h3,getD_map (by rw [h.lg]; omega)]
def upJ (us g:List Int) (u v:Int):List Int:=us.set (max (g.getD u.toNat 0) (g.getD v.toNat 0)).toNat (min (g.getD u.toNat 0) (g.getD v.toNat 0))
section
variable {F:FuncId → Option (List HV → Option HV)}
abbrev ClF (F:FuncId → Option (List HV → Option HV)) (g:FuncId) (args:List HV) (H:Heap) (r:HV) (H':Heap):Prop:=CallsTo (P:=Tp) (pol:=plF F) g args H r H'
theorem apart_call (hF:F 53=none) (H:Heap) (hm:mxs H ≤ H.length+1):ClF F 53 [] H (.ptr H.length 0 0 1) (H ++ [bU (startT 16)]):=by
  have a:=ap_a_0 (F:=F) H
  have b:=ap_b_0 (F:=F) H 0 (y0:=Ud) (y1:=Ud) (y2:=Ud) (y5:=Ud) (a0:=.ptr H.length 0 0 1) (H0:=H ++ [bU (List.replicate 16 0)]) rfl
  have c:=ap_c_0 (F:=F) (H ++ [bU (List.replicate 16 0)]) H.length (y0:=Ud) (y2:=Ud) (y5:=Ud)
  have hset:∀ i,i ≤ 16 → (startT i ++ List.replicate (16 - i) (0:Int)).length=16:=fun i hi=>by simp [startT_len]; omega
  have hstep:∀ i,i < 16 → (startT i ++ List.replicate (16 - i) (0:Int)).set i (i:Int)=startT (i+1) ++ List.replicate (16 - (i+1)) 0:=fun i hi=>by
    rw [List.set_append_right _ _ (by rw [startT_len]; exact Nat.le_refl _),startT_len,Nat.sub_self,show 16 - i=(16 - (i+1))+1 by omega,List.replicate_succ,List.set_cons_zero,startT_succ,List.append_assoc]; rfl
  have r:=count (pol':=plF F) (f:=53) (E:=fun i=>(env53 Ud (.ptr H.length 0 0 1) Ud (.int .i64 (i:Int)))) (Hs:=fun i=>H ++ [bU (startT i ++ List.replicate (16 - i) 0)]) 16
    (E0:=fun i=>(env53 Ud (.ptr H.length 0 0 1) (.int .i64 (i:Int)) (.int .i64 ((i+1:Nat):Int)))) (H1:=fun i=>H ++ [bU (startT (i+1) ++ List.replicate (16 - (i+1)) 0)])
    (fun i hi=>by
      have st:=stU (H:=H ++ [bU (startT i ++ List.replicate (16 - i) 0)]) (b:=H.length) (us:=startT i ++ List.replicate (16 - i) 0) (by rw [List.getElem?_append_right (Nat.le_refl _),Nat.sub_self]; rfl) (v:=i) (by rw [hset i (by omega)]; exact hi) (i:Int)
      rw [hstep i hi,List.set_append_right _ _ (Nat.le_refl _),Nat.sub_self] at st
      have s:=ap_l_0 (F:=F) (H ++ [bU (startT i ++ List.replicate (16 - i) 0)]) H.length i (y0:=Ud) (y2:=Ud) (by omega) (by have:=ixU (b:=H.length) (v:=(i:Int)) (by omega) (by omega); rwa [Int.toNat_natCast] at this) st
      rw [wrap_succ (by omega)] at s
      exact s) (fun i _=>by kernel_rfl) (fun i _=>gc_eq _ (by simp)) (ap_l_1 (F:=F) (H ++ [bU (startT 16 ++ List.replicate (16 - 16) 0)]) H.length 16 (y0:=Ud) (y2:=Ud) (by omega)) (by simp) (c:=sub [1,1,0,1,0] B53) (by kernel_rfl) (fun i _=>by kernel_rfl)
  have z:=ap_z_0 (F:=F) (H ++ [bU (startT 16)]) H.length (y0:=Ud) (y2:=Ud) (y5:=.int .i64 16)
  have e16:H ++ [bU (startT 16 ++ List.replicate (16 - 16) 0)]=H ++ [bU (startT 16)]:=rfl
  have t:=sq (a) (sq (b) (sq (sq (c) (bke (c:=sub [1,1,0,1] B53) (r)) (c:=sub [1,1,0] B53)) (z) (c:=sub [1,1] B53)) (c:=sub [1] B53)) (c:=B53)
  have h:=CallsTo.shared (P:=Tp) (pol:=plF F) (g:=53) (fn:=Try.f53) (cd:=B53) (args:=[]) (v:=.ptr H.length 0 0 1) hF (by kernel_rfl) (by kernel_rfl) (by kernel_rfl) t (by kernel_rfl) (by simp) (by kernel_rfl)
  have e:gc H.length (bnd (.ptr H.length 0 0 1)) (H ++ [bU (startT 16)])=H ++ [bU (startT 16)]:=by
    unfold gc
    rw [List.take_of_length_le]
    simp only [List.length_append,List.length_singleton,bnd]
    omega
  rw [e] at h
  exact h
theorem of_call (hF:F 55=none) {H:Heap} {b:Nat} {us g:List Int} (hb:H[b]?=some (bU us)) (hU:Up us g) {v:Int} (h0:0 ≤ v) (h1:v < 16):ClF F 55 [.ptr b 0 0 1,.int .i64 v] H (.int .i64 (g.getD v.toNat 0)) H:=by
  have loop:∀ (n:Nat),n < 16 → RunsTo Tp (plF F) 55 (sub [1,0,0] B55) ((env55 (.ptr b 0 0 1) (.int .i64 (n:Int)) (.int .i64 0))) H (.exit 0) ((plF F).keys 55) ((env55 (.ptr b 0 0 1) (.int .i64 (g.getD n 0)) (.int .i64 0))) H:=by
    intro n
    induction n using Nat.strongRecOn with
    | _ n ih =>
      intro hn
      have ix:=ixU (b:=b) (v:=(n:Int)) (by omega) (by omega)
      have ld:=ldU hb (v:=n) (by rw [hU.lu]; exact hn)
      rcases hU.up n hn with ⟨k1,k2⟩ | ⟨k1,k2,k3⟩
      · have s:=of_l_0 (F:=F) (n:Int) H b (us.getD n 0) 0 ix ld k1
        rw [k2]
        exact lpo (s) (c:=sub [1,0,0] B55)
      · have s:=of_l_1 (F:=F) (n:Int) H b (us.getD n 0) (us.getD n 0) ix ld (by omega) ix ld
        have r:=ih (us.getD n 0).toNat (by omega) (by omega)
        rw [← k3,show (((us.getD n 0).toNat:Nat):Int)=us.getD n 0 by omega] at r
        exact lop (s) (gc_eq _ rfl) (r)
  have r:=loop v.toNat (by omega)
  rw [show ((v.toNat:Nat):Int)=v by omega] at r
  have a:=of_a_0 (F:=F) v H b
  have z:=of_z_0 (F:=F) (g.getD v.toNat 0) H b
  have t:=sq (a) (sq (bke (c:=sub [1,0] B55) (r)) (z) (c:=sub [1] B55)) (c:=B55)
  have h:=CallsTo.shared (P:=Tp) (pol:=plF F) (g:=55) (fn:=Try.f55) (cd:=B55) (args:=[.ptr b 0 0 1,.int .i64 v]) (v:=.int .i64 (g.getD v.toNat 0)) hF (by kernel_rfl) (by kernel_rfl) (by kernel_rfl) t (by kernel_rfl) (by simp) (by kernel_rfl)
  rw [gc_eq _ rfl] at h
  exact h
theorem join_call' (hF:F 55=none) (hG:F 56=none) {H:Heap} {b:Nat} {us g:List Int} (hb:H[b]?=some (bU us)) (hU:Up us g) {u v:Int} (h01:0 ≤ u∧u < 16) (h23:0 ≤ v∧v < 16) :
    ClF F 56 [.ptr b 0 0 1,.int .i64 u,.int .i64 v] H (.bool (decide (g.getD u.toNat 0 ≠ g.getD v.toNat 0))) (H.set b (bU (upJ us g u v))):=by
  obtain ⟨h0,h1⟩:=h01
  obtain ⟨h2,h3⟩:=h23
  obtain ⟨N1,c1⟩:=CallsTo.from (of_call hF hb hU h0 h1)
  obtain ⟨N2,c2⟩:=CallsTo.from (of_call hF hb hU h2 h3)
  obtain ⟨p,rfl⟩:∃ p:Nat,u=(p:Int):=⟨u.toNat,by omega⟩
  obtain ⟨q,rfl⟩:∃ q:Nat,v=(q:Int):=⟨v.toNat,by omega⟩
  unfold upJ
  simp only [Int.toNat_natCast] at c1 c2 ⊢
  obtain ⟨a1,a2,_⟩:=hU.lab p (by omega)
  obtain ⟨b1,b2,_⟩:=hU.lab q (by omega)
  have hmax:0 ≤ max (g.getD p 0) (g.getD q 0)∧max (g.getD p 0) (g.getD q 0) < 16:=by omega
  have ix:=ixU (b:=b) hmax.1 hmax.2
  have st:=stU hb (v:=(max (g.getD p 0) (g.getD q 0)).toNat) (by rw [hU.lu]; omega) (min (g.getD p 0) (g.getD q 0))
  have e:gc H.length (bnd (.bool (decide (g.getD p 0 ≠ g.getD q 0)))) (H.set b (bU (us.set (max (g.getD p 0) (g.getD q 0)).toNat (min (g.getD p 0) (g.getD q 0)))))=H.set b (bU (us.set (max (g.getD p 0) (g.getD q 0)).toNat (min (g.getD p 0) (g.getD q 0)))):=gc_eq _ (by simp)
  by_cases c:g.getD p 0=g.getD q 0
  · have t:=jo_a_0 (F:=F) (N1+N2) (p:Int) (q:Int) H b (fun kf hk=>c1 kf (by omega)) (fun kf hk=>c2 kf (by omega)) ix st c
    have h:=CallsTo.shared (P:=Tp) (pol:=plF F) (g:=56) (fn:=Try.f56) (cd:=B56) (args:=[.ptr b 0 0 1,.int .i64 (p:Int),.int .i64 (q:Int)]) (v:=.bool false) hG (by kernel_rfl) (by kernel_rfl) (by kernel_rfl) t (by kernel_rfl) (by simp) (by kernel_rfl)
    rw [decide_eq_false (fun k=>k c)] at e ⊢
    rw [e] at h
    exact h
  · have t:=jo_a_1 (F:=F) (N1+N2) (p:Int) (q:Int) H b (fun kf hk=>c1 kf (by omega)) (fun kf hk=>c2 kf (by omega)) ix st c
    have h:=CallsTo.shared (P:=Tp) (pol:=plF F) (g:=56) (fn:=Try.f56) (cd:=B56) (args:=[.ptr b 0 0 1,.int .i64 (p:Int),.int .i64 (q:Int)]) (v:=.bool true) hG (by kernel_rfl) (by kernel_rfl) (by kernel_rfl) t (by kernel_rfl) (by simp) (by kernel_rfl)
    rw [decide_eq_true c] at e ⊢
    rw [e] at h
    exact h
end
end Go.Proofs.Ytiejmoglooaalaa
end
section
open Go Go.HL
namespace Go.Proofs.Ytiejmoglooaalaa
open Go.Proofs.Try renaming prog → Tp
open Go.HL.HV renaming undef → Ud
theorem slice_hi {b q k:Nat} (h:k ≤ q):sliceV Tp 24 (.sl b 0 q none q 1) none (some (.int .i64 (k:Int))) none=some (.sl b 0 k none q 1):=by
  simp [sliceV,boundV,u24,z3,h]
theorem slice_lo {b q k:Nat} (h:k ≤ q):sliceV Tp 24 (.sl b 0 q none q 1) (some (.int .i64 (k:Int))) none none=some (.sl b k (q - k) none q 1):=by
  simp [sliceV,boundV,u24,z3,h]
theorem set_same {H:Heap} {b:Nat} {B:Blk} (h:H[b]?=some B):H.set b B=H:=by
  apply List.ext_getElem?
  intro i
  by_cases e:b=i
  · subst e
    rcases Nat.lt_or_ge b H.length with c | c
    · rw [List.getElem?_set_self c,h]
    · rw [List.getElem?_eq_none c] at h; cases h
  · rw [List.getElem?_set_ne e]
theorem mxs_app:∀ (A B:Heap),mxs (A ++ B)=max (mxs A) (mxs B)
  | [],B=>by simp [mxs]
  | x :: A,B=>by simp only [List.cons_append,mxs,mxs_app A B]; omega
end Go.Proofs.Ytiejmoglooaalaa
end
section
namespace Go.HL.So
set_option linter.unusedSectionVars false
variable {α:Type} [Inhabited α]
abbrev at_ (l:List α) (i:Nat):α:=l.getD i default
def swp (l:List α) (i j:Nat):List α:=(l.set i (at_ l j)).set j (at_ l i)
theorem swp_len (l:List α) (i j:Nat):(swp l i j).length=l.length:=by simp [swp]
theorem set_at (l:List α) (i k:Nat) (v:α) (hi:i < l.length):at_ (l.set i v) k=if i=k then v else at_ l k:=by
  simp only [at_,List.getD,List.getElem?_set,hi]
  split
  · rename_i e; subst e; simp
  · rfl
theorem swp_at {l:List α} {i j:Nat} (hi:i < l.length) (hj:j < l.length) (k:Nat):at_ (swp l i j) k=if k=j then at_ l i else if k=i then at_ l j else at_ l k:=by
  unfold swp
  rw [set_at (l.set i (at_ l j)) j k (at_ l i) (by simpa using hj),set_at l i k (at_ l j) hi]
  by_cases e:j=k
  · subst e; simp
  · have e':¬ k=j:=fun h=>e h.symm
    rw [if_neg e,if_neg e']
    by_cases e2:i=k
    · subst e2; simp
    · have e2':¬ k=i:=fun h=>e2 h.symm
      rw [if_neg e2,if_neg e2']
theorem swp_perm {l:List α} {i j:Nat} (hi:i < l.length) (hj:j < l.length):(swp l i j).Perm l:=by
  have h:=Array.swap_perm (xs:=l.toArray) (i:=i) (j:=j) (by simpa using hi) (by simpa using hj)
  have h2:=h.toList
  rw [Array.toList_swap] at h2
  simpa [swp,at_,List.getD,List.getElem?_eq_getElem hi,List.getElem?_eq_getElem hj] using h2
inductive Sw (a b:Nat) (l:List α):List α → Prop
  | refl:Sw a b l l
  | step {l':List α} {i j:Nat}:Sw a b l l' → a ≤ i → i < b → a ≤ j → j < b → Sw a b l (swp l' i j)
theorem Sw.len {a b:Nat} {l l':List α} (h:Sw a b l l'):l'.length=l.length:=by
  induction h with
  | refl=>rfl
  | step h1 _ _ _ _ ih=>rw [swp_len,ih]
theorem Sw.trans {a b:Nat} {l l' l'':List α} (h:Sw a b l l') (h':Sw a b l' l''):Sw a b l l'':=by
  induction h' with
  | refl=>exact h
  | step _ h1 h2 h3 h4 ih=>exact ih.step h1 h2 h3 h4
theorem Sw.one {a b i j:Nat} {l:List α} (h1:a ≤ i) (h2:i < b) (h3:a ≤ j) (h4:j < b):Sw a b l (swp l i j):=Sw.refl.step h1 h2 h3 h4
theorem Sw.mono {a b a' b':Nat} {l l':List α} (h:Sw a b l l') (ha:a' ≤ a) (hb:b ≤ b'):Sw a' b' l l':=by
  induction h with
  | refl=>exact .refl
  | step _ h1 h2 h3 h4 ih=>exact ih.step (by omega) (by omega) (by omega) (by omega)
theorem Sw.perm {a b:Nat} {l l':List α} (h:Sw a b l l') (hb:b ≤ l.length):l'.Perm l:=by
  induction h with
  | refl=>exact List.Perm.refl _
  | step h1 h2 h3 h4 h5 ih=>exact (swp_perm (by rw [h1.len]; omega) (by rw [h1.len]; omega)).trans ih
theorem Sw.out {a b:Nat} {l l':List α} (h:Sw a b l l') (hb:b ≤ l.length) {k:Nat} (hk:k < a ∨ b ≤ k):at_ l' k=at_ l k:=by
  induction h with
  | refl=>rfl
  | step h1 h2 h3 h4 h5 ih=>rw [swp_at (by rw [h1.len]; omega) (by rw [h1.len]; omega),if_neg (by omega),if_neg (by omega),ih]
theorem Sw.all {a b:Nat} {l l':List α} (h:Sw a b l l') (hb:b ≤ l.length) {Q:α → Prop} {lo hi:Nat} (hlo:lo ≤ a) (hhi:b ≤ hi) (hQ:∀ i,lo ≤ i → i < hi → Q (at_ l i)):∀ i,lo ≤ i → i < hi → Q (at_ l' i):=by
  induction h with
  | refl=>exact hQ
  | step h1 h2 h3 h4 h5 ih =>
    intro k hk1 hk2
    rw [swp_at (by rw [h1.len]; omega) (by rw [h1.len]; omega)]
    split
    · exact ih _ (by omega) (by omega)
    · split
      · exact ih _ (by omega) (by omega)
      · exact ih _ hk1 hk2
theorem Sw.mem {a b:Nat} {l l':List α} (h:Sw a b l l') (hb:b ≤ l.length) {Q:α → Prop} (hQ:∀ x ∈ l,Q x):∀ x ∈ l',Q x:=fun x hx=>hQ x ((h.perm hb).mem_iff.1 hx)
structure Lin (lt:α → α → Prop):Prop where
  tr:∀ x y z,¬ lt y x → ¬ lt z y → ¬ lt z x
  asy:∀ x y,lt x y → ¬ lt y x
def Sorted (lt:α → α → Prop) (a b:Nat) (l:List α):Prop:=∀ i j,a ≤ i → i < j → j < b → ¬ lt (at_ l j) (at_ l i)
section
variable {lt:α → α → Prop} (hL:Lin lt)
include hL
theorem Lin.rf (x:α):¬ lt x x:=fun h=>hL.asy x x h h
def Sink (lt:α → α → Prop) (a i j:Nat) (l:List α):Prop:=∀ p q,a ≤ p → p < q → q < i → q ≠ j → ¬ lt (at_ l q) (at_ l p)
omit hL in
theorem sink_start {a i:Nat} {l:List α} (h:Sorted lt a i l):Sink lt a (i+1) i l:=fun p q h1 h2 h3 h4=>h p q h1 h2 (by omega)
theorem sink_step {a i j:Nat} {l:List α} (hi:i ≤ l.length) (hj:j < i) (ha:a < j) (h:Sink lt a i j l) (hc:lt (at_ l j) (at_ l (j - 1))):Sink lt a i (j - 1) (swp l j (j - 1)):=by
  intro p q h1 h2 h3 h4
  rw [swp_at (by omega) (by omega),swp_at (by omega) (by omega)]
  have hne:¬ q=j - 1:=h4
  rw [if_neg hne]
  by_cases eq:q=j
  · rw [if_pos eq]
    by_cases ep:p=j - 1
    · rw [if_pos ep]; exact hL.asy _ _ hc
    · rw [if_neg ep,if_neg (by omega)]
      exact h p (j - 1) h1 (by omega) (by omega) (by omega)
  · rw [if_neg eq]
    by_cases ep:p=j - 1
    · rw [if_pos ep]; exact h j q (by omega) (by omega) h3 eq
    · rw [if_neg ep]
      by_cases ep2:p=j
      · rw [if_pos ep2]; exact h (j - 1) q (by omega) (by omega) h3 eq
      · rw [if_neg ep2]; exact h p q h1 h2 h3 eq
theorem sink_end {a i j:Nat} {l:List α} (h:Sink lt a i j l) (hc:j ≤ a ∨ ¬ lt (at_ l j) (at_ l (j - 1))):Sorted lt a i l:=by
  intro p q h1 h2 h3
  by_cases e:q=j
  · subst e
    rcases hc with hc | hc
    · omega
    · by_cases ep:p=q - 1
      · subst ep; exact hc
      · exact hL.tr _ _ _ (h p (q - 1) h1 (by omega) (by omega) (by omega)) hc
  · exact h p q h1 h2 h3 e
def Hp (lt:α → α → Prop) (fi lo hi:Nat) (l:List α):Prop:=∀ k c,lo ≤ k → (c=2 * k+1 ∨ c=2 * k+2) → c < hi → ¬ lt (at_ l (fi+k)) (at_ l (fi+c))
def HpX (lt:α → α → Prop) (fi lo hi r:Nat) (l:List α):Prop :=
  (∀ k c,lo ≤ k → k ≠ r → (c=2 * k+1 ∨ c=2 * k+2) → c < hi → ¬ lt (at_ l (fi+k)) (at_ l (fi+c))) ∧
  (∀ k c,lo ≤ k → (r=2 * k+1 ∨ r=2 * k+2) → (c=2 * r+1 ∨ c=2 * r+2) → c < hi → ¬ lt (at_ l (fi+k)) (at_ l (fi+c)))
omit hL in
theorem hpx_start {fi lo hi:Nat} {l:List α} (h:Hp lt fi (lo+1) hi l):HpX lt fi lo hi lo l :=
  ⟨fun k c h1 h2 h3 h4=>h k c (by omega) h3 h4,fun k c h1 h2=>by omega⟩
theorem hpx_end {fi lo hi r:Nat} {l:List α} (h:HpX lt fi lo hi r l) (hr:∀ c,(c=2 * r+1 ∨ c=2 * r+2) → c < hi → ¬ lt (at_ l (fi+r)) (at_ l (fi+c))):Hp lt fi lo hi l:=by
  intro k c h1 h2 h3
  by_cases e:k=r
  · subst e; exact hr c h2 h3
  · exact h.1 k c h1 e h2 h3
theorem hpx_step {fi lo hi r c:Nat} {l:List α} (hb:fi+hi ≤ l.length) (h:HpX lt fi lo hi r l) (hr:lo ≤ r) (hc:c=2 * r+1 ∨ c=2 * r+2) (hch:c < hi) (hm:∀ c',(c'=2 * r+1 ∨ c'=2 * r+2) → c' < hi → ¬ lt (at_ l (fi+c)) (at_ l (fi+c'))) (hlt:lt (at_ l (fi+r)) (at_ l (fi+c))) :
    HpX lt fi lo hi c (swp l (fi+r) (fi+c)):=by
  have hsw:∀ k,at_ (swp l (fi+r) (fi+c)) (fi+k)=if k=c then at_ l (fi+r) else if k=r then at_ l (fi+c) else at_ l (fi+k):=fun k=>by
    rw [swp_at (by omega) (by omega)]
    by_cases e:k=c
    · subst e; simp
    · rw [if_neg (by omega),if_neg e]
      by_cases e2:k=r
      · subst e2; simp
      · rw [if_neg (by omega),if_neg e2]
  refine ⟨fun k c' h1 h2 h3 h4=>?_,fun k c' h1 h2 h3 h4=>?_⟩
  · rw [hsw,hsw,if_neg h2]
    by_cases ek:k=r
    · rw [if_pos ek]
      subst ek
      by_cases ec:c'=c
      · rw [if_pos ec]; exact hL.asy _ _ hlt
      · rw [if_neg ec,if_neg (by omega)]; exact hm c' h3 h4
    · rw [if_neg ek,if_neg (by omega)]
      by_cases ec:c'=r
      · rw [if_pos ec]
        exact h.2 k c h1 (by omega) hc hch
      · rw [if_neg ec]; exact h.1 k c' h1 ek h3 h4
  · have hk:k=r:=by omega
    subst hk
    rw [hsw,hsw,if_neg (by omega),if_pos rfl,if_neg (by omega),if_neg (by omega)]
    exact h.1 c c' (by omega) (by omega) h3 h4
theorem hp_root {fi hi:Nat} {l:List α} (h:Hp lt fi 0 hi l):∀ (m k:Nat),k ≤ m → k < hi → ¬ lt (at_ l fi) (at_ l (fi+k)):=by
  intro m
  induction m with
  | zero =>
    intro k hk _
    have:k=0:=by omega
    subst this
    exact hL.rf _
  | succ m ih =>
    intro k hk hlt
    by_cases e:k=0
    · subst e; exact hL.rf _
    · have h1:=ih ((k - 1) / 2) (by omega) (by omega)
      have h2:=h ((k - 1) / 2) k (Nat.zero_le _) (by omega) hlt
      exact fun h3=>by
        -- l[fi] < l[fi+k] <= l[parent] <= l[fi]
        exact hL.tr _ _ _ h2 h1 h3
def HsInv (lt:α → α → Prop) (fi hi m:Nat) (l:List α):Prop:=Hp lt fi 0 m l∧(∀ p q,m ≤ p → p < q → q < hi → ¬ lt (at_ l (fi+q)) (at_ l (fi+p)))∧∀ p q,p < m → m ≤ q → q < hi → ¬ lt (at_ l (fi+q)) (at_ l (fi+p))
theorem hs_swap {fi hi m:Nat} {l:List α} (hb:fi+hi ≤ l.length) (hm:m+1 ≤ hi) (h:HsInv lt fi hi (m+1) l) :
    Hp lt fi 1 m (swp l fi (fi+m))∧(∀ p q,m ≤ p → p < q → q < hi → ¬ lt (at_ (swp l fi (fi+m)) (fi+q)) (at_ (swp l fi (fi+m)) (fi+p)))∧∀ p q,p < m → m ≤ q → q < hi → ¬ lt (at_ (swp l fi (fi+m)) (fi+q)) (at_ (swp l fi (fi+m)) (fi+p)):=by
  obtain ⟨h1,h2,h3⟩:=h
  have hsw:∀ k,at_ (swp l fi (fi+m)) (fi+k)=if k=m then at_ l fi else if k=0 then at_ l (fi+m) else at_ l (fi+k):=fun k=>by
    rw [swp_at (by omega) (by omega)]
    by_cases e:k=m
    · subst e; simp
    · rw [if_neg (by omega),if_neg e]
      by_cases e2:k=0
      · subst e2; simp
      · rw [if_neg (by omega),if_neg e2]
  refine ⟨fun k c q1 q2 q3=>?_,fun p q q1 q2 q3=>?_,fun p q q1 q2 q3=>?_⟩
  · rw [hsw,hsw,if_neg (by omega),if_neg (by omega),if_neg (by omega),if_neg (by omega)]
    exact h1 k c (by omega) q2 (by omega)
  · rw [hsw q,if_neg (by omega),if_neg (by omega),hsw]
    by_cases e:p=m
    · rw [if_pos e]
      have:=h3 0 q (by omega) (by omega) q3
      simpa using this
    · rw [if_neg e,if_neg (by omega)]; exact h2 p q (by omega) q2 q3
  · rw [hsw p,if_neg (by omega),hsw]
    have key:∀ x,(∃ k,k < m+1∧x=at_ l (fi+k)) → ¬ lt (at_ l fi) x:=by
      rintro x ⟨k,hk,rfl⟩
      exact hp_root hL h1 k k (Nat.le_refl _) hk
    have hx:∃ k,k < m+1∧(if p=0 then at_ l (fi+m) else at_ l (fi+p))=at_ l (fi+k):=by
      by_cases e:p=0
      · exact ⟨m,by omega,by rw [if_pos e]⟩
      · exact ⟨p,by omega,by rw [if_neg e]⟩
    by_cases e:q=m
    · rw [if_pos e]; exact key _ hx
    · rw [if_neg e,if_neg (by omega)]
      obtain ⟨k,hk,e2⟩:=hx
      rw [e2]
      exact h3 k q hk (by omega) q3
end
end Go.HL.So
end
section
open Go Go.HL Go.HL.So
namespace Go.Proofs.Ytiejmoglooaalaa
def ltK (l:List St) (i j:Int):Prop:=wOf l i < wOf l j ∨ (wOf l i=wOf l j∧i < j)
instance (l:List St) (i j:Int):Decidable (ltK l i j):=inferInstanceAs (Decidable (_ ∨ _))
theorem ltK_lin (l:List St):Lin (ltK l):=⟨fun x y z h1 h2=>by unfold ltK at *; omega,fun x y h=>by unfold ltK at *; omega⟩
theorem ltK_tot {l:List St} {i j:Int} (h:i ≠ j) (hn:¬ ltK l j i):ltK l i j:=by unfold ltK at *; omega
def leW (l:List St) (i:Int) (x:Int):Bool:=decide (wOf l x ≤ wOf l i)
def insK (l:List St) (out:List Int) (i:Int):List Int:=out.takeWhile (leW l i) ++ i :: out.dropWhile (leW l i)
def ordN (l:List St):Nat → List Int
  | 0=>[]
  | k+1=>insK l (ordN l k) (k:Int)
def ordT (l:List St):List Int:=ordN l l.length
theorem insK_perm (l:List St) (out:List Int) (i:Int):(insK l out i).Perm (out ++ [i]):=by
  have h:(insK l out i).Perm (i :: (out.takeWhile (leW l i) ++ out.dropWhile (leW l i))):=List.perm_middle
  rw [List.takeWhile_append_dropWhile] at h
  exact h.trans (List.perm_append_singleton i out).symm
theorem ordN_perm (l:List St):∀ k,(ordN l k).Perm (startT k)
  | 0=>List.Perm.refl _
  | k+1=>by
    rw [ordN,startT_succ]
    exact (insK_perm l _ _).trans ((ordN_perm l k).append_right _)
theorem startT_mem {k:Nat} {x:Int}:x ∈ startT k ↔ 0 ≤ x∧x < (k:Int):=by
  simp only [startT,List.mem_map,List.mem_range]
  constructor
  · rintro ⟨i,hi,rfl⟩; omega
  · rintro ⟨h1,h2⟩; exact ⟨x.toNat,by omega,by omega⟩
theorem startT_nodup (k:Nat):(startT k).Nodup:=List.pairwise_map.2 (List.Pairwise.imp (fun {a b} h=>by omega) (List.nodup_range (n:=k)))
theorem ordN_mem {l:List St} {k:Nat} {x:Int}:x ∈ ordN l k ↔ 0 ≤ x∧x < (k:Int):=by rw [(ordN_perm l k).mem_iff,startT_mem]
theorem takeWhile_all {α:Type} {p:α → Bool}:∀ {l:List α} {x:α},x ∈ l.takeWhile p → p x=true∧x ∈ l
  | a :: l,x,h=>by
    rw [List.takeWhile_cons] at h
    split at h
    · rename_i ha
      rcases List.mem_cons.1 h with rfl | h
      · exact ⟨ha,by simp⟩
      · obtain ⟨h1,h2⟩:=takeWhile_all h
        exact ⟨h1,by simp [h2]⟩
    · cases h
theorem insK_sorted {l:List St} {out:List Int} {i:Int} (hs:out.Pairwise (ltK l)) (hi:∀ x ∈ out,x < i):(insK l out i).Pairwise (ltK l):=by
  unfold insK
  have hs2:=hs
  rw [← List.takeWhile_append_dropWhile (p:=leW l i) (l:=out),List.pairwise_append] at hs2
  obtain ⟨h1,h2,h3⟩:=hs2
  have drop:∀ y ∈ out.dropWhile (leW l i),wOf l i < wOf l y:=by
    cases hd:out.dropWhile (leW l i) with
    | nil=>simp
    | cons z r =>
      rw [hd] at h2
      have hz:leW l i z=false:=by
        have:=List.head?_dropWhile_not (leW l i) out
        rw [hd] at this
        simpa using this
      have hz:=of_decide_eq_false hz
      intro y hy
      rcases List.mem_cons.1 hy with rfl | hy
      · omega
      · have:=(List.pairwise_cons.1 h2).1 y hy
        unfold ltK at this; omega
  rw [List.pairwise_append]
  refine ⟨h1,List.pairwise_cons.2 ⟨fun y hy=>.inl (drop y hy),h2⟩,fun x hx y hy=>?_⟩
  rcases List.mem_cons.1 hy with rfl | hy
  · obtain ⟨k1,k2⟩:=takeWhile_all hx
    have:=of_decide_eq_true k1
    have:=hi x k2
    unfold ltK; omega
  · exact h3 x hx y hy
theorem ordN_sorted (l:List St):∀ k,(ordN l k).Pairwise (ltK l)
  | 0=>List.Pairwise.nil
  | k+1=>insK_sorted (ordN_sorted l k) fun x hx=>(ordN_mem.1 hx).2
theorem strict_ext {α:Type} {lt:α → α → Prop} (asy:∀ x y,lt x y → ¬ lt y x):∀ {l m:List α},l.Pairwise lt → m.Pairwise lt → (∀ x,x ∈ l ↔ x ∈ m) → l=m
  | [],[],_,_,_=>rfl
  | [],y :: m,_,_,h=>absurd ((h y).2 (by simp)) (by simp)
  | x :: l,[],_,_,h=>absurd ((h x).1 (by simp)) (by simp)
  | x :: l,y :: m,hl,hm,h=>by
    obtain ⟨l1,l2⟩:=List.pairwise_cons.1 hl
    obtain ⟨m1,m2⟩:=List.pairwise_cons.1 hm
    have e:x=y:=by
      rcases List.mem_cons.1 ((h x).1 (by simp)) with e | e
      · exact e
      · have a1:=m1 x e
        rcases List.mem_cons.1 ((h y).2 (by simp)) with e2 | e2
        · exact e2.symm
        · exact absurd (l1 y e2) (asy _ _ a1)
    subst e
    rw [strict_ext asy l2 m2 fun z=>?_]
    constructor
    · intro hz
      rcases List.mem_cons.1 ((h z).1 (List.mem_cons_of_mem _ hz)) with e | e
      · subst e; exact absurd (l1 z hz) (asy _ _ (l1 z hz))
      · exact e
    · intro hz
      rcases List.mem_cons.1 ((h z).2 (List.mem_cons_of_mem _ hz)) with e | e
      · subst e; exact absurd (m1 z hz) (asy _ _ (m1 z hz))
      · exact e
theorem ord_unique {l:List St} {l':List Int} (hp:l'.Perm (startT l.length)) (hs:Sorted (ltK l) 0 l'.length l'):l'=ordT l:=by
  have hnd:l'.Nodup:=hp.nodup_iff.2 (startT_nodup _)
  refine strict_ext (fun x y h=>(ltK_lin l).asy x y h) ?_ (ordN_sorted l l.length) fun x=>by rw [hp.mem_iff,startT_mem,ordT,ordN_mem]
  rw [List.pairwise_iff_getElem]
  intro i j hi hj hij
  have e:∀ k,(hk:k < l'.length) → at_ l' k=l'[k]:=fun k hk=>by simp [at_,List.getD,List.getElem?_eq_getElem hk]
  have:=hs i j (Nat.zero_le _) hij hj
  rw [e i hi,e j hj] at this
  exact ltK_tot (List.pairwise_iff_getElem.1 hnd i j hi hj hij) this
theorem ordT_len (l:List St):(ordT l).length=l.length:=by rw [ordT,(ordN_perm l _).length_eq,startT_len]
theorem ordT_mem {l:List St} {x:Int}:x ∈ ordT l ↔ 0 ≤ x∧x < (l.length:Int):=ordN_mem
end Go.Proofs.Ytiejmoglooaalaa
end
section
open Go Go.HL
namespace Go.Proofs.Ytiejmoglooaalaa
set_option maxRecDepth 100000
open Go.Proofs.Try renaming prog → Tp
open Go.HL.HV renaming undef → Ud
section
variable {F:FuncId → Option (List HV → Option HV)}
noncomputable def B40:Code:=Try.f40.body.getD .skip
abbrev env40 (v0 v1 v2 v3 v4 v5 v7 v10 v11 v12:HV):Env:=[(0,v0),(1,v1),(2,v2),(3,v3),(4,v4),(5,v5),(7,v7),(10,v10),(11,v11),(12,v12)]
theorem tr_a_0 (N:Nat) (n:Int) (ls:List HV) :RunsTo Tp (plF F) 40 (sub [0] B40) [(0,.agg [.i n,.imm .arg 3 ls])] [] .normal ((plF F).keys 40) (env40 (.agg [.i n,.imm .arg 3 ls]) (.ptr 0 0 0 1) (.imm .lit 1 []) (.bool false) Ud Ud Ud Ud Ud Ud) [.arr 2 [.agg [.i n,.imm .arg 3 ls]] true 0] :=
  RunsTo.hin N 60 [] fun kf hk=>⟨_,by kernel_rfl,.nil⟩
theorem tr_b_0 (N:Nat) (n:Int) (ls:List HV) (H:Heap) {y4 y5 y7 y10 y11 y12:HV} {H0:Heap} (g0:∀ kf,N ≤ kf → callN Tp (plF F) (kf+1) 53 [] H=some (.ptr 1 0 0 1,H0)):RunsTo Tp (plF F) 40 (sub [1,0] B40) (env40 (.agg [.i n,.imm .arg 3 ls]) (.ptr 0 0 0 1) (.imm .lit 1 []) (.bool false) y4 y5 y7 y10 y11 y12) H .normal ((plF F).keys 40) (env40 (.agg [.i n,.imm .arg 3 ls]) (.ptr 0 0 0 1) (.imm .lit 1 []) (.bool false) (.ptr 1 0 0 1) y5 y7 y10 y11 y12) H0 :=
  RunsTo.hin N 60 [⟨1,0,.ptr 1 0 0 1,H0⟩] fun kf hk=>⟨_,by kernel_rfl,(oC (g0 kf (by omega)) .nil)⟩
theorem tr_c_0 (N:Nat) (n:Int) (ls:List HV) (us:List HV) {y5 y7 y10 y11 y12:HV}:RunsTo Tp (plF F) 40 (sub [1,1,0] B40) (env40 (.agg [.i n,.imm .arg 3 ls]) (.ptr 0 0 0 1) (.imm .lit 1 []) (.bool false) (.ptr 1 0 0 1) y5 y7 y10 y11 y12) [.arr 2 [.agg [.i n,.imm .arg 3 ls]] true 0,.arr 16 [.agg us] true 0] .normal ((plF F).keys 40) (env40 (.agg [.i n,.imm .arg 3 ls]) (.ptr 0 0 0 1) (.imm .lit 1 []) (.bool false) (.ptr 1 0 0 1) (.s 2 0) y7 y10 y11 y12) [.arr 2 [.agg [.i n,.imm .arg 3 ls]] true 0,.arr 16 [.agg us] true 0,.b []] :=
  RunsTo.hin N 60 [] fun kf hk=>⟨_,by kernel_rfl,.nil⟩
theorem tr_d_0 (N:Nat) (n:Int) (ls:List HV) (H:Heap) (c m:Nat) {y7 y10 y11 y12:HV} {H0:Heap} (g0:loadV Tp H 66 (.ptr 0 0 0 1)=some (.agg [.i n,.imm .arg 3 ls])) (g1:∀ kf,callN Tp (plF F) (kf+1) 54 [.agg [.i n,.imm .arg 3 ls]] H=some (.s 3 m,H0)):RunsTo Tp (plF F) 40 (sub [1,1,1,0,0] B40) (env40 (.agg [.i n,.imm .arg 3 ls]) (.ptr 0 0 0 1) (.imm .lit 1 []) (.bool false) (.ptr 1 0 0 1) (.s 2 c) y7 y10 y11 y12) H .normal ((plF F).keys 40) (env40 (.agg [.i n,.imm .arg 3 ls]) (.ptr 0 0 0 1) (.imm .lit 1 []) (.bool false) (.ptr 1 0 0 1) (.s 2 c) y7 (.s 3 m) (.i (m:Int)) (.i 0)) H0 :=
  RunsTo.hin N 60 [⟨3,0,.agg [.i n,.imm .arg 3 ls],H⟩,⟨3,1,.s 3 m,H0⟩] fun kf hk=>⟨_,by kernel_rfl,(oP H g0 (oC (g1 kf) .nil))⟩
theorem tr_l_0 (N:Nat) (n:Int) (ls:List HV) (H:Heap) (c m j k:Nat) (a b w:Int) {y7:HV} {H0:Heap} {H1:Heap} {v0:HV} (g0:(j:Int) < (m:Int)) (g1:idxV Tp 24 (.s 3 m) (.i (j:Int))=some (.ptr 3 j 0 m)) (g2:loadV Tp H 3 (.ptr 3 j 0 m)=some (.i (k:Int))) (g3:loadV Tp H 22 (.ptr 0 0 1 1)=some (.imm .arg 3 ls)) (g4:idxV Tp 22 (.imm .arg 3 ls) (.i (k:Int))=some (.vptr (.agg [.i a,.i b,.i w]))) (g5:loadV Tp H 22 (.ptr 0 0 1 1)=some (.imm .arg 3 ls)) (g6:idxV Tp 22 (.imm .arg 3 ls) (.i (k:Int))=some (.vptr (.agg [.i a,.i b,.i w]))) (g7:∀ kf,N ≤ kf → callN Tp (plF F) (kf+1) 56 [.ptr 1 0 0 1,.i a,.i b] H=some (.bool true,H0)) (g8:appV H0 1 8 (.s 2 c) [.i (k:Int)]=some (v0,H1)):RunsTo Tp (plF F) 40 (sub [1,1,1,0,1,0,0] B40) (env40 (.agg [.i n,.imm .arg 3 ls]) (.ptr 0 0 0 1) (.imm .lit 1 []) (.bool false) (.ptr 1 0 0 1) (.s 2 c) y7 (.s 3 m) (.i (m:Int)) (.i (j:Int))) H .normal ((plF F).keys 40) (env40 (.agg [.i n,.imm .arg 3 ls]) (.ptr 0 0 0 1) (.imm .lit 1 []) (.bool false) (.ptr 1 0 0 1) v0 (.i (k:Int)) (.s 3 m) (.i (m:Int)) (.i (IntKind.i64.wrap ((j:Int)+1)))) H1 :=
  RunsTo.hin N 60 [⟨4,0,.bool true,H⟩,⟨5,0,.ptr 3 j 0 m,H⟩,⟨5,1,.i (k:Int),H⟩,⟨6,2,.imm .arg 3 ls,H⟩,⟨6,4,.vptr (.agg [.i a,.i b,.i w]),H⟩,⟨6,8,.imm .arg 3 ls,H⟩,⟨6,10,.vptr (.agg [.i a,.i b,.i w]),H⟩,⟨6,13,.bool true,H0⟩,⟨7,3,v0,H1⟩] fun kf hk=>⟨_,by kernel_rfl,(oB H (decide_eq_true g0) (oP H g1 (oP H g2 (oP H g3 (oP H g4 (oP H g5 (oP H g6 (oC (g7 kf (by omega)) (oC (g8) .nil)))))))))⟩
theorem tr_l_1 (N:Nat) (n:Int) (ls:List HV) (H:Heap) (c m j k:Nat) (a b w:Int) {y7:HV} {H0:Heap} (g0:(j:Int) < (m:Int)) (g1:idxV Tp 24 (.s 3 m) (.i (j:Int))=some (.ptr 3 j 0 m)) (g2:loadV Tp H 3 (.ptr 3 j 0 m)=some (.i (k:Int))) (g3:loadV Tp H 22 (.ptr 0 0 1 1)=some (.imm .arg 3 ls)) (g4:idxV Tp 22 (.imm .arg 3 ls) (.i (k:Int))=some (.vptr (.agg [.i a,.i b,.i w]))) (g5:loadV Tp H 22 (.ptr 0 0 1 1)=some (.imm .arg 3 ls)) (g6:idxV Tp 22 (.imm .arg 3 ls) (.i (k:Int))=some (.vptr (.agg [.i a,.i b,.i w]))) (g7:∀ kf,N ≤ kf → callN Tp (plF F) (kf+1) 56 [.ptr 1 0 0 1,.i a,.i b] H=some (.bool false,H0)):RunsTo Tp (plF F) 40 (sub [1,1,1,0,1,0,0] B40) (env40 (.agg [.i n,.imm .arg 3 ls]) (.ptr 0 0 0 1) (.imm .lit 1 []) (.bool false) (.ptr 1 0 0 1) (.s 2 c) y7 (.s 3 m) (.i (m:Int)) (.i (j:Int))) H .normal ((plF F).keys 40) (env40 (.agg [.i n,.imm .arg 3 ls]) (.ptr 0 0 0 1) (.imm .lit 1 []) (.bool false) (.ptr 1 0 0 1) (.s 2 c) (.i (k:Int)) (.s 3 m) (.i (m:Int)) (.i (IntKind.i64.wrap ((j:Int)+1)))) H0 :=
  RunsTo.hin N 60 [⟨4,0,.bool true,H⟩,⟨5,0,.ptr 3 j 0 m,H⟩,⟨5,1,.i (k:Int),H⟩,⟨6,2,.imm .arg 3 ls,H⟩,⟨6,4,.vptr (.agg [.i a,.i b,.i w]),H⟩,⟨6,8,.imm .arg 3 ls,H⟩,⟨6,10,.vptr (.agg [.i a,.i b,.i w]),H⟩,⟨6,13,.bool false,H0⟩] fun kf hk=>⟨_,by kernel_rfl,(oB H (decide_eq_true g0) (oP H g1 (oP H g2 (oP H g3 (oP H g4 (oP H g5 (oP H g6 (oC (g7 kf (by omega)) .nil))))))))⟩
theorem tr_l_2 (N:Nat) (n:Int) (ls:List HV) (H:Heap) (c m j k:Nat) (a b w:Int) {y7:HV}(g0:¬ ((j:Int) < (m:Int))):RunsTo Tp (plF F) 40 (sub [1,1,1,0,1,0,0] B40) (env40 (.agg [.i n,.imm .arg 3 ls]) (.ptr 0 0 0 1) (.imm .lit 1 []) (.bool false) (.ptr 1 0 0 1) (.s 2 c) y7 (.s 3 m) (.i (m:Int)) (.i (j:Int))) H (.exit 0) ((plF F).keys 40) (env40 (.agg [.i n,.imm .arg 3 ls]) (.ptr 0 0 0 1) (.imm .lit 1 []) (.bool false) (.ptr 1 0 0 1) (.s 2 c) y7 (.s 3 m) (.i (m:Int)) (.i (j:Int))) H :=
  RunsTo.hin N 60 [⟨4,0,.bool false,H⟩] fun kf hk=>⟨_,by kernel_rfl,(oB H (decide_eq_false g0) .nil)⟩
theorem tr_z_0 (N:Nat) (n:Int) (ls:List HV) (H:Heap) (c m:Nat) {y7 y10 y11 y12:HV}(g0:loadV Tp H 3 (.ptr 0 0 0 1)=some (.i n)) (g1:(c:Int)=IntKind.i64.wrap (n - 1)):RunsTo Tp (plF F) 40 (sub [1,1,1,1] B40) (env40 (.agg [.i n,.imm .arg 3 ls]) (.ptr 0 0 0 1) (.imm .lit 1 []) (.bool false) (.ptr 1 0 0 1) (.s 2 c) y7 y10 y11 y12) H .ret ((plF F).keys 40) (env40 (.agg [.i n,.imm .arg 3 ls]) (.ptr 0 0 0 1) (.s 2 c) (.bool true) (.ptr 1 0 0 1) (.s 2 c) y7 y10 y11 y12) H :=
  RunsTo.hin N 60 [⟨9,4,.i n,H⟩,⟨9,6,.bool true,H⟩] fun kf hk=>⟨_,by kernel_rfl,(oP H g0 (oB H (decide_eq_true g1) .nil))⟩
theorem tr_z_1 (N:Nat) (n:Int) (ls:List HV) (H:Heap) (c m:Nat) {y7 y10 y11 y12:HV}(g0:loadV Tp H 3 (.ptr 0 0 0 1)=some (.i n)) (g1:¬ ((c:Int)=IntKind.i64.wrap (n - 1))):RunsTo Tp (plF F) 40 (sub [1,1,1,1] B40) (env40 (.agg [.i n,.imm .arg 3 ls]) (.ptr 0 0 0 1) (.imm .lit 1 []) (.bool false) (.ptr 1 0 0 1) (.s 2 c) y7 y10 y11 y12) H .ret ((plF F).keys 40) (env40 (.agg [.i n,.imm .arg 3 ls]) (.ptr 0 0 0 1) (.s 2 c) (.bool false) (.ptr 1 0 0 1) (.s 2 c) y7 y10 y11 y12) H :=
  RunsTo.hin N 60 [⟨9,4,.i n,H⟩,⟨9,6,.bool false,H⟩] fun kf hk=>⟨_,by kernel_rfl,(oP H g0 (oB H (decide_eq_false g1) .nil))⟩
end
end Go.Proofs.Ytiejmoglooaalaa
end
section
open Go Go.HL
namespace Go.Proofs.Ytiejmoglooaalaa
set_option maxRecDepth 100000
open Go.Proofs.Try renaming prog → Tp
open Go.HL.HV renaming undef → Ud
section
variable {F:FuncId → Option (List HV → Option HV)}
noncomputable def B57:Code:=Try.f57.body.getD .skip
abbrev env57 (v0 v1 v2 v4 v5 v6 v7 v9 v11 v12 v13:HV):Env:=[(0,v0),(1,v1),(2,v2),(4,v4),(5,v5),(6,v6),(7,v7),(9,v9),(11,v11),(12,v12),(13,v13)]
theorem js_a_0 (N:Nat) (n:Int) (ls:List HV) (lb q tt:Nat) (cap:Option Nat) (H:Heap) {a0:HV} {H0:Heap} (g0:some (newV (.agg [.i n,.imm .arg 3 ls]) H)=some (a0,H0)):RunsTo Tp (plF F) 57 (sub [0] B57) [(0,.agg [.i n,.imm .arg 3 ls]),(1,.sl lb 0 q cap tt 1)] H .normal ((plF F).keys 57) (env57 (.agg [.i n,.imm .arg 3 ls]) (.sl lb 0 q cap tt 1) a0 Ud (.i 0) Ud Ud Ud Ud Ud Ud) H0 :=
  RunsTo.hin N 60 [⟨0,0,a0,H0⟩] fun kf hk=>⟨_,by kernel_rfl,(oC (g0) .nil)⟩
theorem js_b_0 (N:Nat) (n:Int) (ls:List HV) (lb q tt:Nat) (cap:Option Nat) (H:Heap) (nb pb:Nat) {y4 y6 y7 y9 y11 y12 y13:HV} {H0:Heap} (g0:∀ kf,N ≤ kf → callN Tp (plF F) (kf+1) 53 [] H=some (.ptr pb 0 0 1,H0)):RunsTo Tp (plF F) 57 (sub [1,0] B57) (env57 (.agg [.i n,.imm .arg 3 ls]) (.sl lb 0 q cap tt 1) (.ptr nb 0 0 1) y4 (.i 0) y6 y7 y9 y11 y12 y13) H .normal ((plF F).keys 57) (env57 (.agg [.i n,.imm .arg 3 ls]) (.sl lb 0 q cap tt 1) (.ptr nb 0 0 1) y4 (.i 0) (.ptr pb 0 0 1) y7 y9 y11 y12 y13) H0 :=
  RunsTo.hin N 60 [⟨1,0,.ptr pb 0 0 1,H0⟩] fun kf hk=>⟨_,by kernel_rfl,(oC (g0 kf (by omega)) .nil)⟩
theorem js_c_0 (N:Nat) (n:Int) (ls:List HV) (lb q tt:Nat) (cap:Option Nat) (H:Heap) (nb pb:Nat) {y4 y7 y9 y11 y12 y13:HV}:RunsTo Tp (plF F) 57 (sub [1,1,0] B57) (env57 (.agg [.i n,.imm .arg 3 ls]) (.sl lb 0 q cap tt 1) (.ptr nb 0 0 1) y4 (.i 0) (.ptr pb 0 0 1) y7 y9 y11 y12 y13) H .normal ((plF F).keys 57) (env57 (.agg [.i n,.imm .arg 3 ls]) (.sl lb 0 q cap tt 1) (.ptr nb 0 0 1) y4 (.i 0) (.ptr pb 0 0 1) (.i 0) y9 y11 y12 y13) H :=
  RunsTo.hin N 60 [] fun kf hk=>⟨_,by kernel_rfl,.nil⟩
theorem js_d_0 (N:Nat) (n:Int) (ls:List HV) (lb q tt:Nat) (cap:Option Nat) (H:Heap) (nb pb c:Nat) {y4 y9 y11 y12 y13:HV}:RunsTo Tp (plF F) 57 (sub [1,1,1,0,0] B57) (env57 (.agg [.i n,.imm .arg 3 ls]) (.sl lb 0 q cap tt 1) (.ptr nb 0 0 1) y4 (.i 0) (.ptr pb 0 0 1) (.i (c:Int)) y9 y11 y12 y13) H .normal ((plF F).keys 57) (env57 (.agg [.i n,.imm .arg 3 ls]) (.sl lb 0 q cap tt 1) (.ptr nb 0 0 1) y4 (.i 0) (.ptr pb 0 0 1) (.i (c:Int)) y9 (.sl lb 0 q cap tt 1) (.i (q:Int)) (.i 0)) H :=
  RunsTo.hin N 60 [] fun kf hk=>⟨_,by kernel_rfl,.nil⟩
theorem js_l_0 (N:Nat) (n:Int) (ls:List HV) (lb q tt:Nat) (cap:Option Nat) (H:Heap) (nb pb c m j k:Nat) (a b w:Int) {y4 y9:HV} {H0:Heap} (g0:(j:Int) < (m:Int)) (g1:idxV Tp 24 (.sl lb 0 q cap tt 1) (.i (j:Int))=some (.ptr lb j 0 tt)) (g2:loadV Tp H 3 (.ptr lb j 0 tt)=some (.i (k:Int))) (g3:loadV Tp H 22 (.ptr nb 0 1 1)=some (.imm .arg 3 ls)) (g4:idxV Tp 22 (.imm .arg 3 ls) (.i (k:Int))=some (.vptr (.agg [.i a,.i b,.i w]))) (g5:loadV Tp H 22 (.ptr nb 0 1 1)=some (.imm .arg 3 ls)) (g6:idxV Tp 22 (.imm .arg 3 ls) (.i (k:Int))=some (.vptr (.agg [.i a,.i b,.i w]))) (g7:∀ kf,N ≤ kf → callN Tp (plF F) (kf+1) 56 [.ptr pb 0 0 1,.i a,.i b] H=some (.bool true,H0)):RunsTo Tp (plF F) 57 (sub [1,1,1,0,1,0,0] B57) (env57 (.agg [.i n,.imm .arg 3 ls]) (.sl lb 0 q cap tt 1) (.ptr nb 0 0 1) y4 (.i 0) (.ptr pb 0 0 1) (.i (c:Int)) y9 (.sl lb 0 q cap tt 1) (.i (m:Int)) (.i (j:Int))) H .normal ((plF F).keys 57) (env57 (.agg [.i n,.imm .arg 3 ls]) (.sl lb 0 q cap tt 1) (.ptr nb 0 0 1) y4 (.i 0) (.ptr pb 0 0 1) (.i (IntKind.i64.wrap ((c:Int)+1))) (.i (k:Int)) (.sl lb 0 q cap tt 1) (.i (m:Int)) (.i (IntKind.i64.wrap ((j:Int)+1)))) H0 :=
  RunsTo.hin N 60 [⟨4,0,.bool true,H⟩,⟨5,0,.ptr lb j 0 tt,H⟩,⟨5,1,.i (k:Int),H⟩,⟨6,2,.imm .arg 3 ls,H⟩,⟨6,4,.vptr (.agg [.i a,.i b,.i w]),H⟩,⟨6,8,.imm .arg 3 ls,H⟩,⟨6,10,.vptr (.agg [.i a,.i b,.i w]),H⟩,⟨6,13,.bool true,H0⟩] fun kf hk=>⟨_,by kernel_rfl,(oB H (decide_eq_true g0) (oP H g1 (oP H g2 (oP H g3 (oP H g4 (oP H g5 (oP H g6 (oC (g7 kf (by omega)) .nil))))))))⟩
theorem js_l_1 (N:Nat) (n:Int) (ls:List HV) (lb q tt:Nat) (cap:Option Nat) (H:Heap) (nb pb c m j k:Nat) (a b w:Int) {y4 y9:HV} {H0:Heap} (g0:(j:Int) < (m:Int)) (g1:idxV Tp 24 (.sl lb 0 q cap tt 1) (.i (j:Int))=some (.ptr lb j 0 tt)) (g2:loadV Tp H 3 (.ptr lb j 0 tt)=some (.i (k:Int))) (g3:loadV Tp H 22 (.ptr nb 0 1 1)=some (.imm .arg 3 ls)) (g4:idxV Tp 22 (.imm .arg 3 ls) (.i (k:Int))=some (.vptr (.agg [.i a,.i b,.i w]))) (g5:loadV Tp H 22 (.ptr nb 0 1 1)=some (.imm .arg 3 ls)) (g6:idxV Tp 22 (.imm .arg 3 ls) (.i (k:Int))=some (.vptr (.agg [.i a,.i b,.i w]))) (g7:∀ kf,N ≤ kf → callN Tp (plF F) (kf+1) 56 [.ptr pb 0 0 1,.i a,.i b] H=some (.bool false,H0)):RunsTo Tp (plF F) 57 (sub [1,1,1,0,1,0,0] B57) (env57 (.agg [.i n,.imm .arg 3 ls]) (.sl lb 0 q cap tt 1) (.ptr nb 0 0 1) y4 (.i 0) (.ptr pb 0 0 1) (.i (c:Int)) y9 (.sl lb 0 q cap tt 1) (.i (m:Int)) (.i (j:Int))) H .normal ((plF F).keys 57) (env57 (.agg [.i n,.imm .arg 3 ls]) (.sl lb 0 q cap tt 1) (.ptr nb 0 0 1) y4 (.i 0) (.ptr pb 0 0 1) (.i (c:Int)) (.i (k:Int)) (.sl lb 0 q cap tt 1) (.i (m:Int)) (.i (IntKind.i64.wrap ((j:Int)+1)))) H0 :=
  RunsTo.hin N 60 [⟨4,0,.bool true,H⟩,⟨5,0,.ptr lb j 0 tt,H⟩,⟨5,1,.i (k:Int),H⟩,⟨6,2,.imm .arg 3 ls,H⟩,⟨6,4,.vptr (.agg [.i a,.i b,.i w]),H⟩,⟨6,8,.imm .arg 3 ls,H⟩,⟨6,10,.vptr (.agg [.i a,.i b,.i w]),H⟩,⟨6,13,.bool false,H0⟩] fun kf hk=>⟨_,by kernel_rfl,(oB H (decide_eq_true g0) (oP H g1 (oP H g2 (oP H g3 (oP H g4 (oP H g5 (oP H g6 (oC (g7 kf (by omega)) .nil))))))))⟩
theorem js_l_2 (N:Nat) (n:Int) (ls:List HV) (lb q tt:Nat) (cap:Option Nat) (H:Heap) (nb pb c m j k:Nat) (a b w:Int) {y4 y9:HV}(g0:¬ ((j:Int) < (m:Int))):RunsTo Tp (plF F) 57 (sub [1,1,1,0,1,0,0] B57) (env57 (.agg [.i n,.imm .arg 3 ls]) (.sl lb 0 q cap tt 1) (.ptr nb 0 0 1) y4 (.i 0) (.ptr pb 0 0 1) (.i (c:Int)) y9 (.sl lb 0 q cap tt 1) (.i (m:Int)) (.i (j:Int))) H (.exit 0) ((plF F).keys 57) (env57 (.agg [.i n,.imm .arg 3 ls]) (.sl lb 0 q cap tt 1) (.ptr nb 0 0 1) y4 (.i 0) (.ptr pb 0 0 1) (.i (c:Int)) y9 (.sl lb 0 q cap tt 1) (.i (m:Int)) (.i (j:Int))) H :=
  RunsTo.hin N 60 [⟨4,0,.bool false,H⟩] fun kf hk=>⟨_,by kernel_rfl,(oB H (decide_eq_false g0) .nil)⟩
theorem js_z_0 (N:Nat) (n:Int) (ls:List HV) (lb q tt:Nat) (cap:Option Nat) (H:Heap) (nb pb c:Nat) {y4 y9 y11 y12 y13:HV}:RunsTo Tp (plF F) 57 (sub [1,1,1,1] B57) (env57 (.agg [.i n,.imm .arg 3 ls]) (.sl lb 0 q cap tt 1) (.ptr nb 0 0 1) y4 (.i 0) (.ptr pb 0 0 1) (.i (c:Int)) y9 y11 y12 y13) H .ret ((plF F).keys 57) (env57 (.agg [.i n,.imm .arg 3 ls]) (.sl lb 0 q cap tt 1) (.ptr nb 0 0 1) (.ptr pb 0 0 1) (.i (c:Int)) (.ptr pb 0 0 1) (.i (c:Int)) y9 y11 y12 y13) H :=
  RunsTo.hin N 60 [] fun kf hk=>⟨_,by kernel_rfl,.nil⟩
end
end Go.Proofs.Ytiejmoglooaalaa
end
section
open Go Go.HL
namespace Go.Proofs.Ytiejmoglooaalaa
def nan89:List HV → Option HV:=f1 kI fun _=>some (.bool false)
def cmpI (x y:Int):Int:=if x < y then -1 else if y < x then 1 else 0
def cmp71:List HV → Option HV:=f2 kI kI fun x y=>some (.int .i64 (cmpI x y))
def fstI (a b:Int):Int:=if a ≠ 0 then a else b
def fst70:List HV → Option HV:=f1 kL fun l=>match l with | [a,b]=>some (.int .i64 (fstI a b)) | _=>none
def polCm:Pol:={ pol with prim:=fun g=>if g == 89 then some nan89 else none }
end Go.Proofs.Ytiejmoglooaalaa
end
section
open Go Go.HL
namespace Go.Proofs.Ytiejmoglooaalaa
set_option maxRecDepth 100000
open Go.Proofs.Try renaming prog → Tp
open Go.HL.HV renaming undef → Ud
noncomputable def B89:Code:=Try.f89.body.getD .skip
abbrev env89 (v0 v2:HV):Env:=[(0,v0),(2,v2)]
theorem nan_0 (x:Int)(g0:x=x):RT pol 89 (sub [] B89) [(0,.i x)] [] .ret (env89 (.i x) (.bool false)) [] :=
  RunsTo.hin 0 60 [⟨1,2,.bool false,[]⟩] fun kf hk=>⟨_,by kernel_rfl,(oB [] (congrArg not (decide_eq_true g0)) .nil)⟩
noncomputable def B71:Code:=Try.f71.body.getD .skip
abbrev env71 (v0 v1 v4 v5 v6:HV):Env:=[(0,v0),(1,v1),(4,v4),(5,v5),(6,v6)]
theorem cmp_0 (x y:Int)(g0:∀ kf,callN Tp polCm (kf+1) 89 [.i x] []=some (.bool false,[])) (g1:∀ kf,callN Tp polCm (kf+1) 89 [.i y] []=some (.bool false,[])) (g2:x < y):RT polCm 71 (sub [] B71) [(0,.i x),(1,.i y)] [] .ret (env71 (.i x) (.i y) (.i (-1)) (.bool false) (.bool false)) [] :=
  RunsTo.hin 0 60 [⟨1,1,.bool false,[]⟩,⟨2,1,.bool false,[]⟩,⟨9,2,.bool true,[]⟩] fun kf hk=>⟨_,by kernel_rfl,(oC (g0 kf) (oC (g1 kf) (oB [] (decide_eq_true g2) .nil)))⟩
theorem cmp_1 (x y:Int)(g0:∀ kf,callN Tp polCm (kf+1) 89 [.i x] []=some (.bool false,[])) (g1:∀ kf,callN Tp polCm (kf+1) 89 [.i y] []=some (.bool false,[])) (g2:¬ (x < y)) (g3:y < x):RT polCm 71 (sub [] B71) [(0,.i x),(1,.i y)] [] .ret (env71 (.i x) (.i y) (.i 1) (.bool false) (.bool false)) [] :=
  RunsTo.hin 0 60 [⟨1,1,.bool false,[]⟩,⟨2,1,.bool false,[]⟩,⟨9,2,.bool false,[]⟩,⟨11,2,.bool true,[]⟩] fun kf hk=>⟨_,by kernel_rfl,(oC (g0 kf) (oC (g1 kf) (oB [] (decide_eq_false g2) (oB [] (decide_eq_true g3) .nil))))⟩
theorem cmp_2 (x y:Int)(g0:∀ kf,callN Tp polCm (kf+1) 89 [.i x] []=some (.bool false,[])) (g1:∀ kf,callN Tp polCm (kf+1) 89 [.i y] []=some (.bool false,[])) (g2:¬ (x < y)) (g3:¬ (y < x)):RT polCm 71 (sub [] B71) [(0,.i x),(1,.i y)] [] .ret (env71 (.i x) (.i y) (.i 0) (.bool false) (.bool false)) [] :=
  RunsTo.hin 0 60 [⟨1,1,.bool false,[]⟩,⟨2,1,.bool false,[]⟩,⟨9,2,.bool false,[]⟩,⟨11,2,.bool false,[]⟩] fun kf hk=>⟨_,by kernel_rfl,(oC (g0 kf) (oC (g1 kf) (oB [] (decide_eq_false g2) (oB [] (decide_eq_false g3) .nil))))⟩
noncomputable def B70:Code:=Try.f70.body.getD .skip
abbrev env70 (v0 v2 v4 v5 v6 v7:HV):Env:=[(0,v0),(2,v2),(4,v4),(5,v5),(6,v6),(7,v7)]
theorem fst_0 (a b:Int)(g0:¬ (a=0)):RT pol 70 (sub [] B70) [(0,.a [.i a,.i b])] [] .ret (env70 (.a [.i a,.i b]) (.i a) (.i a) (.a [.i a,.i b]) (.i 2) (.i 0)) [] :=
  RunsTo.hin 0 60 [⟨4,1,.bool true,[]⟩] fun kf hk=>⟨_,by kernel_rfl,(oB [] (congrArg not (decide_eq_false g0)) .nil)⟩
theorem fst_1 (a b:Int)(g0:a=0) (g1:¬ (b=0)):RT pol 70 (sub [] B70) [(0,.a [.i a,.i b])] [] .ret (env70 (.a [.i a,.i b]) (.i b) (.i b) (.a [.i a,.i b]) (.i 2) (.i 1)) [] :=
  RunsTo.hin 0 60 [⟨4,1,.bool false,[]⟩,⟨4,1,.bool true,[]⟩] fun kf hk=>⟨_,by kernel_rfl,(oB [] (congrArg not (decide_eq_true g0)) (oB [] (congrArg not (decide_eq_false g1)) .nil))⟩
theorem fst_2 (a b:Int)(g0:a=0) (g1:b=0):RT pol 70 (sub [] B70) [(0,.a [.i a,.i b])] [] .ret (env70 (.a [.i a,.i b]) (.i 0) Ud (.a [.i a,.i b]) (.i 2) (.i 2)) [] :=
  RunsTo.hin 0 60 [⟨4,1,.bool false,[]⟩,⟨4,1,.bool false,[]⟩] fun kf hk=>⟨_,by kernel_rfl,(oB [] (congrArg not (decide_eq_true g0)) (oB [] (congrArg not (decide_eq_true g1)) .nil))⟩
end Go.Proofs.Ytiejmoglooaalaa
end
section
open Go Go.HL
namespace Go.Proofs.Ytiejmoglooaalaa
open Go.Proofs.Try renaming prog → Tp
open Go.HL.HV renaming undef → Ud
theorem res89:Try.f89.results.toList=[.tmp 2]:=by kernel_rfl
theorem nan_ok:PrimOk Tp 89 nan89:=by
  refine primOk_pure (pol:=pol) (fn:=Try.f89) (cd:=B89) follows_mixed sound (by kernel_rfl) (by kernel_rfl) (fnok pol.prim _ _ (by kernel_rfl)) (by kernel_rfl) ?_
  intro args res h
  obtain ⟨x,rfl,hq⟩:=f1_inv h
  cases hq
  exact ⟨_,_,_,_,nan_0 x rfl,by simp,by simp only [resultsV,res89]; rfl,rfl⟩
theorem soundCm (n:Nat):CallSound Tp (callN Tp polCm n):=sound_prim _ (fun g f h=>by
  split at h
  · rename_i hg; cases h; rw [eq_of_beq hg]; exact nan_ok
  · cases h) n
theorem res71:Try.f71.results.toList=[.tmp 4]:=by kernel_rfl
theorem cmp_ok:PrimOk Tp 71 cmp71:=by
  refine primOk_pure (pol:=polCm) (fn:=Try.f71) (cd:=B71) follows_mixed soundCm (by kernel_rfl) (by kernel_rfl) (fnok polCm.prim _ _ (by kernel_rfl)) (by kernel_rfl) ?_
  intro args res h
  obtain ⟨x,y,rfl,hq⟩:=f2_inv h
  cases hq
  have g0:=at1 (pol':=polCm) (g:=89) (c1:=kI) (f:=fun _=>some (.bool false)) (H:=[]) (by kernel_rfl) (ShI [] x) rfl
  have g1:=at1 (pol':=polCm) (g:=89) (c1:=kI) (f:=fun _=>some (.bool false)) (H:=[]) (by kernel_rfl) (ShI [] y) rfl
  unfold cmpI
  by_cases c:x < y
  · rw [if_pos c]
    exact ⟨_,_,_,_,cmp_0 x y g0 g1 c,by simp,by simp only [resultsV,res71]; rfl,rfl⟩
  · rw [if_neg c]
    by_cases d:y < x
    · rw [if_pos d]
      exact ⟨_,_,_,_,cmp_1 x y g0 g1 c d,by simp,by simp only [resultsV,res71]; rfl,rfl⟩
    · rw [if_neg d]
      exact ⟨_,_,_,_,cmp_2 x y g0 g1 c d,by simp,by simp only [resultsV,res71]; rfl,rfl⟩
theorem res70:Try.f70.results.toList=[.tmp 2]:=by kernel_rfl
theorem fst_ok:PrimOk Tp 70 fst70:=by
  refine primOk_pure (pol:=pol) (fn:=Try.f70) (cd:=B70) follows_mixed sound (by kernel_rfl) (by kernel_rfl) (fnok pol.prim _ _ (by kernel_rfl)) (by kernel_rfl) ?_
  intro args res h
  obtain ⟨l,rfl,hq⟩:=f1_inv h
  split at hq
  case h_2=>cases hq
  rename_i a b
  cases hq
  unfold fstI
  by_cases c:a=0
  · rw [if_neg (by simp [c])]
    by_cases d:b=0
    · exact ⟨_,_,_,.int .i64 0,fst_2 a b c d,by simp,by simp only [resultsV,res70]; rfl,by rw [d]; rfl⟩
    · exact ⟨_,_,_,.int .i64 b,fst_1 a b c d,by simp,by simp only [resultsV,res70]; rfl,rfl⟩
  · rw [if_pos c]
    exact ⟨_,_,_,.int .i64 a,fst_0 a b c,by simp,by simp only [resultsV,res70]; rfl,rfl⟩
end Go.Proofs.Ytiejmoglooaalaa
end
section
open Go Go.HL
namespace Go.Proofs.Ytiejmoglooaalaa
open Go.Proofs.Try renaming prog → Tp
open Go.HL.HV renaming undef → Ud
noncomputable def tabS:HV:=match sub [1,1,1,1,0] (Try.f85.body.getD .skip) with
  | .region _ ops _=>(match ops[3]? with | some o=>(match o.op with | .index _ x _=>opVal [] x | _=>Ud) | none=>Ud)
  | _=>Ud
def bl:Nat → Nat → Nat
  | 0,_=>0
  | k+1,y=>if y=0 then 0 else 1+bl k (y / 2)
noncomputable def tabOk:Bool:=(List.range 256).all fun y=>(match elemV Tp 9 tabS (.int .u8 (y:Int)) with | some (.int .u8 z)=>decide (z=(bl 8 y:Int)) | _=>false) && decide (y < 2 ^ bl 8 y) && (decide (y=0) || decide (2 ^ bl 8 y ≤ 2 * y)) && decide (bl 8 y ≤ 8)
theorem tabOk_true:tabOk=true:=by kernel_rfl
def lenN (x:Nat):Nat:=if x < 256 then bl 8 x else 8+bl 8 (x / 256)
theorem tab_at {y:Nat} (hy:y < 256):elemV Tp 9 tabS (.int .u8 (y:Int))=some (.int .u8 (bl 8 y:Int))∧y < 2 ^ bl 8 y∧(0 < y → 2 ^ bl 8 y ≤ 2 * y)∧bl 8 y ≤ 8:=by
  have h:=List.all_eq_true.1 tabOk_true y (List.mem_range.2 hy)
  simp only [Bool.and_eq_true,Bool.or_eq_true,decide_eq_true_eq] at h
  obtain ⟨⟨⟨h1,h2⟩,h3⟩,h4⟩:=h
  refine ⟨?_,h2,fun h0=>h3.resolve_left (by omega),h4⟩
  split at h1
  · rename_i z hz
    rw [hz,of_decide_eq_true h1]
  · cases h1
theorem lenN_ok {x:Nat} (hx:x < 65536):(0 < x → x < 2 ^ lenN x∧2 ^ lenN x ≤ 2 * x)∧lenN x ≤ 16:=by
  unfold lenN
  split
  · rename_i c
    obtain ⟨_,h2,h3,h4⟩:=tab_at c
    exact ⟨fun h=>⟨h2,h3 h⟩,by omega⟩
  · rename_i c
    obtain ⟨_,h2,h3,h4⟩:=tab_at (y:=x / 256) (by omega)
    have h5:=h3 (by omega)
    rw [Nat.pow_add]
    generalize 2 ^ bl 8 (x / 256)=p at h2 h5
    exact ⟨fun h=>by omega,by omega⟩
def len82:List HV → Option HV
  | [.int .u64 x]=>if 0 ≤ x∧x < 65536 then some (.int .i64 (lenN x.toNat:Int)) else none
  | _=>none
def next93:List HV → Option HV
  | [.int .i64 x]=>if 0 ≤ x∧x < 65536 then some (.int .u64 ((2 ^ lenN x.toNat:Nat):Int)) else none
  | _=>none
def polLb:Pol:={ pol with prim:=fun g=>if g == 85 then some len82 else none }
def polLc:Pol:={ pol with prim:=fun g=>if g == 63 then some len82 else none }
end Go.Proofs.Ytiejmoglooaalaa
end
section
open Go Go.HL
namespace Go.Proofs.Ytiejmoglooaalaa
set_option maxRecDepth 100000
open Go.Proofs.Try renaming prog → Tp
open Go.HL.HV renaming undef → Ud
noncomputable def B85:Code:=Try.f85.body.getD .skip
abbrev env85 (v0 v2:HV):Env:=[(0,v0),(2,v2)]
theorem l82_6 (x:Int) (h0:Int) (z0:Int) (g0:¬ (4294967296 ≤ x)) (g1:¬ (65536 ≤ x)) (g2:256 ≤ x) (g3:binV Tp .shr 116 (.int .u64 x) (.int .u64 8)=some (.int .u64 h0)) (g4:elemV Tp 9 tabS (.int .u8 (IntKind.u8.wrap h0))=some (.int .u8 z0)):RT pol 85 (sub [] B85) [(0,.int .u64 x)] [] .ret (env85 (.int .u64 h0) (.i (IntKind.i64.wrap (8+IntKind.i64.wrap z0)))) [] :=
  RunsTo.hin 0 60 [⟨1,1,.bool false,[]⟩,⟨4,1,.bool false,[]⟩,⟨7,1,.bool true,[]⟩,⟨8,1,.int .u64 h0,[]⟩,⟨10,3,.int .u8 z0,[]⟩] fun kf hk=>⟨_,by kernel_rfl,(oB [] (decide_eq_false g0) (oB [] (decide_eq_false g1) (oB [] (decide_eq_true g2) (oP [] g3 (oP [] g4 .nil)))))⟩
theorem l82_7 (x:Int) (z0:Int) (g0:¬ (4294967296 ≤ x)) (g1:¬ (65536 ≤ x)) (g2:¬ (256 ≤ x)) (g3:elemV Tp 9 tabS (.int .u8 (IntKind.u8.wrap x))=some (.int .u8 z0)):RT pol 85 (sub [] B85) [(0,.int .u64 x)] [] .ret (env85 (.int .u64 x) (.i (IntKind.i64.wrap (0+IntKind.i64.wrap z0)))) [] :=
  RunsTo.hin 0 60 [⟨1,1,.bool false,[]⟩,⟨4,1,.bool false,[]⟩,⟨7,1,.bool false,[]⟩,⟨10,3,.int .u8 z0,[]⟩] fun kf hk=>⟨_,by kernel_rfl,(oB [] (decide_eq_false g0) (oB [] (decide_eq_false g1) (oB [] (decide_eq_false g2) (oP [] g3 .nil))))⟩
noncomputable def B63:Code:=Try.f63.body.getD .skip
abbrev env63 (v0 v2:HV):Env:=[(0,v0),(2,v2)]
theorem l68_0 (x:Int) (c0:Int) (g0:∀ kf,callN Tp polLb (kf+1) 85 [.int .u64 x] []=some (.i c0,[])):RT polLb 63 (sub [] B63) [(0,.int .u64 x)] [] .ret (env63 (.int .u64 x) (.i c0)) [] :=
  RunsTo.hin 0 60 [⟨2,1,.i c0,[]⟩] fun kf hk=>⟨_,by kernel_rfl,(oC (g0 kf) .nil)⟩
noncomputable def B95:Code:=Try.f95.body.getD .skip
abbrev env95 (v0 v2:HV):Env:=[(0,v0),(2,v2)]
theorem l93_0 (x:Int) (c0:Int) (h0:Int) (g0:∀ kf,callN Tp polLc (kf+1) 63 [.int .u64 (IntKind.u64.wrap x)] []=some (.i c0,[])) (g1:binV Tp .shl 82 (.int .u64 1) (.i c0)=some (.int .u64 h0)):RT polLc 95 (sub [] B95) [(0,.i x)] [] .ret (env95 (.i x) (.int .u64 h0)) [] :=
  RunsTo.hin 0 60 [⟨1,2,.i c0,[]⟩,⟨1,3,.int .u64 h0,[]⟩] fun kf hk=>⟨_,by kernel_rfl,(oC (g0 kf) (oP [] g1 .nil))⟩
end Go.Proofs.Ytiejmoglooaalaa
end
section
open Go Go.HL
namespace Go.Proofs.Ytiejmoglooaalaa
open Go.Proofs.Try renaming prog → Tp
open Go.HL.HV renaming undef → Ud
theorem res82:Try.f85.results.toList=[.tmp 2]:=by kernel_rfl
theorem res68:Try.f63.results.toList=[.tmp 2]:=by kernel_rfl
theorem res93:Try.f95.results.toList=[.tmp 2]:=by kernel_rfl
theorem u8w {n:Nat} (h:n < 256):IntKind.u8.wrap (n:Int)=(n:Int):=by
  have:IntKind.u8.wrap (n:Int)=(n:Int) % 256:=by simp [IntKind.wrap,IntKind.signed,IntKind.bits]
  rw [this]; omega
theorem len82_ok:PrimOk Tp 85 len82:=by
  refine primOk_pure (pol:=pol) (fn:=Try.f85) (cd:=B85) follows_mixed sound (by kernel_rfl) (by kernel_rfl) (fnok pol.prim _ _ (by kernel_rfl)) (by kernel_rfl) ?_
  intro args res h
  unfold len82 at h
  split at h
  · rename_i x
    split at h
    · rename_i hx
      cases h
      obtain ⟨n,rfl⟩:∃ n:Nat,x=(n:Int):=⟨x.toNat,by omega⟩
      rw [Int.toNat_natCast]
      unfold lenN
      split
      · rename_i c
        obtain ⟨h1,_,_,h4⟩:=tab_at c
        have t:=l82_7 (n:Int) (bl 8 n:Int) (by omega) (by omega) (by omega) (by rw [u8w c]; exact h1)
        rw [wrap_id (n:=(bl 8 n:Int)) (by omega) (by omega),wrap_id (by omega) (by omega),Int.zero_add] at t
        exact ⟨_,_,_,.int .i64 (bl 8 n:Int),t,by simp,by simp only [resultsV,res82]; rfl,rfl⟩
      · rename_i c
        obtain ⟨h1,_,_,h4⟩:=tab_at (y:=n / 256) (by omega)
        have hs:binV Tp .shr 116 (.int .u64 (n:Int)) (.int .u64 8)=some (.int .u64 ((n / 256:Nat):Int)):=by
          have e:binV Tp .shr 116 (.int .u64 (n:Int)) (.int .u64 8)=some (.int .u64 ((n:Int).fdiv (2 ^ min (8:Int).toNat 64))):=rfl
          rw [e]
          have:((n:Int).fdiv (2 ^ min (8:Int).toNat 64))=((n / 256:Nat):Int):=by
            rw [show ((2:Int) ^ min (8:Int).toNat 64)=((256:Nat):Int) by decide,Int.fdiv_eq_ediv_of_nonneg _ (Int.natCast_nonneg _)]
            rfl
          rw [this]
        have t:=l82_6 (n:Int) _ (bl 8 (n / 256):Int) (by omega) (by omega) (by omega) hs (by rw [u8w (by omega)]; exact h1)
        rw [wrap_id (n:=(bl 8 (n / 256):Int)) (by omega) (by omega),wrap_id (by omega) (by omega),show (8:Int)+(bl 8 (n / 256):Int)=((8+bl 8 (n / 256):Nat):Int) by omega] at t
        exact ⟨_,_,_,.int .i64 ((8+bl 8 (n / 256):Nat):Int),t,by simp,by simp only [resultsV,res82]; rfl,rfl⟩
    · cases h
  · cases h
theorem soundLb (n:Nat):CallSound Tp (callN Tp polLb n):=sound_prim _ (fun g f h=>by
  split at h
  · rename_i hg; cases h; rw [eq_of_beq hg]; exact len82_ok
  · cases h) n
theorem len68_ok:PrimOk Tp 63 len82:=by
  refine primOk_pure (pol:=polLb) (fn:=Try.f63) (cd:=B63) follows_mixed soundLb (by kernel_rfl) (by kernel_rfl) (fnok polLb.prim _ _ (by kernel_rfl)) (by kernel_rfl) ?_
  intro args res h
  have h':=h
  unfold len82 at h
  split at h
  · rename_i x
    split at h
    · rename_i hx
      cases h
      have t:=l68_0 x _ (fun kf=>by
        rw [prim_call (pol:=polLb) (g:=85) (F:=len82) (by kernel_rfl) (rs:=[.int .u64 x]) rfl h']; rfl)
      exact ⟨_,_,_,.int .i64 (lenN x.toNat:Int),t,by simp,by simp only [resultsV,res68]; rfl,rfl⟩
    · cases h
  · cases h
theorem soundLc (n:Nat):CallSound Tp (callN Tp polLc n):=sound_prim _ (fun g f h=>by
  split at h
  · rename_i hg; cases h; rw [eq_of_beq hg]; exact len68_ok
  · cases h) n
theorem next_ok:PrimOk Tp 95 next93:=by
  refine primOk_pure (pol:=polLc) (fn:=Try.f95) (cd:=B95) follows_mixed soundLc (by kernel_rfl) (by kernel_rfl) (fnok polLc.prim _ _ (by kernel_rfl)) (by kernel_rfl) ?_
  intro args res h
  unfold next93 at h
  split at h
  · rename_i x
    split at h
    · rename_i hx
      cases h
      obtain ⟨n,rfl⟩:∃ n:Nat,x=(n:Int):=⟨x.toNat,by omega⟩
      rw [Int.toNat_natCast]
      have hl:=(lenN_ok (x:=n) (by omega)).2
      have hu:IntKind.u64.wrap (n:Int)=(n:Int):=by rw [wrapU64]; omega
      have hs:binV Tp .shl 82 (.int .u64 1) (.int .i64 (lenN n:Int))=some (.int .u64 ((2 ^ lenN n:Nat):Int)):=by
        have e:binV Tp .shl 82 (.int .u64 1) (.int .i64 (lenN n:Int))=if (lenN n:Int) < 0 then none else some (.int .u64 (IntKind.u64.wrap (1 * 2 ^ min (lenN n:Int).toNat 64))):=rfl
        rw [e,if_neg (by omega),Int.toNat_natCast,show min (lenN n) 64=lenN n by omega,Int.one_mul,show ((2:Int) ^ lenN n)=((2 ^ lenN n:Nat):Int) by push_cast; rfl]
        have h2:2 ^ lenN n ≤ 2 ^ 16:=Nat.pow_le_pow_right (by omega) hl
        have h3:2 ^ lenN n ≤ 65536:=h2
        generalize 2 ^ lenN n=p at h3
        rw [wrapU64,show (p:Int) % 18446744073709551616=p by omega]
      have t:=l93_0 (n:Int) (lenN n:Int) _ (fun kf=>by
        rw [hu,prim_call (pol:=polLc) (g:=63) (F:=len82) (by kernel_rfl) (rs:=[.int .u64 (n:Int)]) rfl (res:=.int .i64 (lenN n:Int)) (by simp only [len82]; rw [if_pos (by omega),Int.toNat_natCast])]; rfl) hs
      exact ⟨_,_,_,.int .u64 ((2 ^ lenN n:Nat):Int),t,by simp,by simp only [resultsV,res93]; rfl,rfl⟩
    · cases h
  · cases h
end Go.Proofs.Ytiejmoglooaalaa
end
section
open Go Go.HL Go.HL.So
namespace Go.Proofs.Ytiejmoglooaalaa
open Go.Proofs.Try renaming prog → Tp
open Go.HL.HV renaming undef → Ud
def prSo:FuncId → Option (List HV → Option HV):=fun g=>if g == 71 then some cmp71 else if g == 70 then some fst70 else if g == 63 then some len82 else if g == 95 then some next93 else none
def polSo:Pol:={ pol with prim:=prSo }
theorem soundSo (n:Nat):CallSound Tp (callN Tp polSo n):=sound_prim prSo (fun g f h=>by
  unfold prSo at h
  split at h
  · rename_i hg; cases h; rw [eq_of_beq hg]; exact cmp_ok
  split at h
  · rename_i hg; cases h; rw [eq_of_beq hg]; exact fst_ok
  split at h
  · rename_i hg; cases h; rw [eq_of_beq hg]; exact len68_ok
  split at h
  · rename_i hg; cases h; rw [eq_of_beq hg]; exact next_ok
  · cases h) n
theorem RunsTo.block_other {P:Program} {pol:Pol} {f:FuncId} {b c:Code} {e E:Env} {H H':Heap} {x:X} {K:List Nat} {i:Nat} (h:RunsTo P pol f b e H x K E H') (hx:x ≠ .exit i) (hc:c=.block i b):RunsTo P pol f c e H x K E H':=by
  have:=RunsTo.block hc h
  rwa [if_neg hx] at this
theorem RunsTo.skip {P:Program} {pol:Pol} {f:FuncId} {c:Code} {e E:Env} {H:Heap} {K:List Nat} (hE:restr K e=E) (hc:c=.skip):RunsTo P pol f c e H .normal K E H:=by
  subst hc
  refine ⟨1,fun n k hn _=>⟨e,?_,hE⟩⟩
  obtain ⟨n,rfl⟩:∃ m,n=m+1:=⟨n - 1,by omega⟩
  rfl
theorem mxs_le {m:Nat}:∀ {H:Heap},mxs H ≤ m ↔ ∀ B ∈ H,B.mx ≤ m
  | []=>by simp [mxs]
  | B :: H=>by
    have:=mxs_le (m:=m) (H:=H)
    simp only [mxs,List.mem_cons,forall_eq_or_imp,← this]
    omega
abbrev ClS (g:FuncId) (args:List HV) (H:Heap) (r:HV) (H':Heap):Prop:=CallsTo (P:=Tp) (pol:=polSo) g args H r H'
end Go.Proofs.Ytiejmoglooaalaa
end
section
open Go Go.HL
namespace Go.Proofs.Ytiejmoglooaalaa
set_option maxRecDepth 100000
open Go.Proofs.Try renaming prog → Tp
open Go.HL.HV renaming undef → Ud
noncomputable def B54:Code:=Try.f54.body.getD .skip
abbrev env54 (v0 v1 v2 v3 v4 v7 v8:HV):Env:=[(0,v0),(1,v1),(2,v2),(3,v3),(4,v4),(7,v7),(8,v8)]
theorem od_a_0 (N:Nat) (n:Int) (ls:List HV) :RT polSo 54 (sub [0] B54) [(0,.agg [.i n,.imm .arg 3 ls])] [] .normal (env54 (.agg [.i n,.imm .arg 3 ls]) (.ptr 0 0 0 1) (.imm .lit 1 []) Ud Ud Ud Ud) [.arr 2 [.agg [.i n,.imm .arg 3 ls]] true 0] :=
  RunsTo.hin N 60 [] fun kf hk=>⟨_,by kernel_rfl,.nil⟩
theorem od_b_0 (N:Nat) (n:Int) (ls:List HV)  {y3 y4 y7 y8:HV}:RT polSo 54 (sub [1,0] B54) (env54 (.agg [.i n,.imm .arg 3 ls]) (.ptr 0 0 0 1) (.imm .lit 1 []) y3 y4 y7 y8) [.arr 2 [.agg [.i n,.imm .arg 3 ls]] true 0] .normal (env54 (.agg [.i n,.imm .arg 3 ls]) (.ptr 0 0 0 1) (.imm .lit 1 []) (.s 1 0) y4 y7 y8) [.arr 2 [.agg [.i n,.imm .arg 3 ls]] true 0,.b []] :=
  RunsTo.hin N 60 [] fun kf hk=>⟨_,by kernel_rfl,.nil⟩
theorem od_c_0 (N:Nat) (n:Int) (ls:List HV)  (q:Nat) (os:List HV) {y4 y7 y8:HV}:RT polSo 54 (sub [1,1,0,0] B54) (env54 (.agg [.i n,.imm .arg 3 ls]) (.ptr 0 0 0 1) (.imm .lit 1 []) (.s 1 q) y4 y7 y8) [.arr 2 [.agg [.i n,.imm .arg 3 ls]] true 0,.b os] .normal (env54 (.agg [.i n,.imm .arg 3 ls]) (.ptr 0 0 0 1) (.imm .lit 1 []) (.s 1 q) y4 (.i (ls.length:Int)) (.i 0)) [.arr 2 [.agg [.i n,.imm .arg 3 ls]] true 0,.b os] :=
  RunsTo.hin N 60 [] fun kf hk=>⟨_,by kernel_rfl,.nil⟩
theorem od_l_0 (N:Nat) (n:Int) (ls:List HV)  (q m j:Nat) (os:List HV) {y4:HV}(g0:(j:Int) < (m:Int)) (g1:appV [.arr 2 [.agg [.i n,.imm .arg 3 ls]] true 0,.b os] 1 8 (.s 1 q) [.i (j:Int)]=some (.sl 1 0 (q+1) none (q+1) 1,[.arr 2 [.agg [.i n,.imm .arg 3 ls]] true 0,.arr 1 (os ++ [.i (j:Int)]) true 0])):RT polSo 54 (sub [1,1,0,1,0,0] B54) (env54 (.agg [.i n,.imm .arg 3 ls]) (.ptr 0 0 0 1) (.imm .lit 1 []) (.s 1 q) y4 (.i (m:Int)) (.i (j:Int))) [.arr 2 [.agg [.i n,.imm .arg 3 ls]] true 0,.b os] .normal (env54 (.agg [.i n,.imm .arg 3 ls]) (.ptr 0 0 0 1) (.imm .lit 1 []) (.sl 1 0 (q+1) none (q+1) 1) (.i (j:Int)) (.i (m:Int)) (.i (IntKind.i64.wrap ((j:Int)+1)))) [.arr 2 [.agg [.i n,.imm .arg 3 ls]] true 0,.arr 1 (os ++ [.i (j:Int)]) true 0] :=
  RunsTo.hin N 60 [⟨3,0,.bool true,[.arr 2 [.agg [.i n,.imm .arg 3 ls]] true 0,.b os]⟩,⟨5,3,.sl 1 0 (q+1) none (q+1) 1,[.arr 2 [.agg [.i n,.imm .arg 3 ls]] true 0,.arr 1 (os ++ [.i (j:Int)]) true 0]⟩] fun kf hk=>⟨_,by kernel_rfl,(oB [.arr 2 [.agg [.i n,.imm .arg 3 ls]] true 0,.b os] (decide_eq_true g0) (oC (g1) .nil))⟩
theorem od_l_1 (N:Nat) (n:Int) (ls:List HV)  (q m j:Nat) (os:List HV) {y4:HV}(g0:¬ ((j:Int) < (m:Int))):RT polSo 54 (sub [1,1,0,1,0,0] B54) (env54 (.agg [.i n,.imm .arg 3 ls]) (.ptr 0 0 0 1) (.imm .lit 1 []) (.s 1 q) y4 (.i (m:Int)) (.i (j:Int))) [.arr 2 [.agg [.i n,.imm .arg 3 ls]] true 0,.b os] (.exit 0) (env54 (.agg [.i n,.imm .arg 3 ls]) (.ptr 0 0 0 1) (.imm .lit 1 []) (.s 1 q) y4 (.i (m:Int)) (.i (j:Int))) [.arr 2 [.agg [.i n,.imm .arg 3 ls]] true 0,.b os] :=
  RunsTo.hin N 60 [⟨3,0,.bool false,[.arr 2 [.agg [.i n,.imm .arg 3 ls]] true 0,.b os]⟩] fun kf hk=>⟨_,by kernel_rfl,(oB [.arr 2 [.agg [.i n,.imm .arg 3 ls]] true 0,.b os] (decide_eq_false g0) .nil)⟩
theorem od_z_0 (N:Nat) (n:Int) (ls:List HV)  (q:Nat) (H:Heap) {y4 y7 y8:HV} {H0:Heap} (g0:∀ kf,N ≤ kf → callN Tp polSo (kf+1) 68 [.s 1 q,.func 69 [] [.ptr 0 0 0 1]] H=some (.tuple [],H0)):RT polSo 54 (sub [1,1,1] B54) (env54 (.agg [.i n,.imm .arg 3 ls]) (.ptr 0 0 0 1) (.imm .lit 1 []) (.s 1 q) y4 y7 y8) H .ret (env54 (.agg [.i n,.imm .arg 3 ls]) (.ptr 0 0 0 1) (.s 1 q) (.s 1 q) y4 y7 y8) H0 :=
  RunsTo.hin N 60 [⟨7,2,.tuple [],H0⟩] fun kf hk=>⟨_,by kernel_rfl,(oC (g0 kf (by omega)) .nil)⟩
end Go.Proofs.Ytiejmoglooaalaa
end
section
open Go Go.HL
namespace Go.Proofs.Ytiejmoglooaalaa
set_option maxRecDepth 100000
open Go.Proofs.Try renaming prog → Tp
open Go.HL.HV renaming undef → Ud
noncomputable def B69:Code:=Try.f69.body.getD .skip
abbrev env69 (v0 v1 v2 v5:HV):Env:=[(0,v0),(1,v1),(2,v2),(5,v5)]
theorem cl_0 (i j xb:Nat) (H:Heap) (ls:List HV) (a b w a2 b2 w2:Int) (c0:Int) (H0:Heap) (c1:Int) (H1:Heap) (c2:Int) (H2:Heap) (g0:loadV Tp H 22 (.ptr xb 0 1 1)=some (.imm .arg 3 ls)) (g1:idxV Tp 22 (.imm .arg 3 ls) (.i (i:Int))=some (.vptr (.agg [.i a,.i b,.i w]))) (g2:loadV Tp H 22 (.ptr xb 0 1 1)=some (.imm .arg 3 ls)) (g3:idxV Tp 22 (.imm .arg 3 ls) (.i (j:Int))=some (.vptr (.agg [.i a2,.i b2,.i w2]))) (g4:∀ kf,callN Tp polSo (kf+1) 71 [.i w,.i w2] H=some (.i c0,H0)) (g5:∀ kf,callN Tp polSo (kf+1) 71 [.i (i:Int),.i (j:Int)] H0=some (.i c1,H1)) (g6:∀ kf,callN Tp polSo (kf+1) 70 [.imm .lit 1 [.i c0,.i c1]] H1=some (.i c2,H2)):RT polSo 69 (sub [] B69) [(0,.i (i:Int)),(1,.i (j:Int)),(2,.ptr xb 0 0 1)] H .ret (env69 (.i (i:Int)) (.i (j:Int)) (.ptr xb 0 0 1) (.i c2)) H2 :=
  RunsTo.hin 0 60 [⟨1,1,.imm .arg 3 ls,H⟩,⟨1,3,.vptr (.agg [.i a,.i b,.i w]),H⟩,⟨1,7,.imm .arg 3 ls,H⟩,⟨1,9,.vptr (.agg [.i a2,.i b2,.i w2]),H⟩,⟨1,12,.i c0,H0⟩,⟨1,15,.i c1,H1⟩,⟨1,17,.i c2,H2⟩] fun kf hk=>⟨_,by kernel_rfl,(oP H g0 (oP H g1 (oP H g2 (oP H g3 (oC (g4 kf) (oC (g5 kf) (oC (g6 kf) .nil)))))))⟩
end Go.Proofs.Ytiejmoglooaalaa
end
section
open Go Go.HL
namespace Go.Proofs.Ytiejmoglooaalaa
set_option maxRecDepth 100000
open Go.Proofs.Try renaming prog → Tp
open Go.HL.HV renaming undef → Ud
section
variable {xb:Nat}
noncomputable def B99:Code:=Try.f99.body.getD .skip
abbrev env99 (v0 v1 v2 v3 v8 v9:HV):Env:=[(0,v0),(1,v1),(2,v2),(3,v3),(8,v8),(9,v9)]
theorem is_a_0 (N:Nat) (db n:Nat) (cap:Option Nat) (H:Heap) (x:Nat) (a:Nat) (b:Nat):RT polSo 99 (sub [0] B99) [(0,.c db n cap),(1,.i (a:Int)),(2,.i (b:Int)),(3,.func 69 [] [.ptr xb 0 0 1])] H .normal (env99 (.c db n cap) (.i (a:Int)) (.i (b:Int)) (.func 69 [] [.ptr xb 0 0 1]) (.i (IntKind.i64.wrap ((a:Int)+1))) Ud) H :=
  RunsTo.hin N 60 [] fun kf hk=>⟨_,by kernel_rfl,.nil⟩
theorem is_b_0 (N:Nat) (db n:Nat) (cap:Option Nat) (H:Heap) (x:Nat) (a:Nat) (b:Nat) (i:Nat) {y9:HV}(g0:(i:Int) < (b:Int)):RT polSo 99 (sub [1,0,0,0] B99) (env99 (.c db n cap) (.i (a:Int)) (.i (b:Int)) (.func 69 [] [.ptr xb 0 0 1]) (.i (i:Int)) y9) H .normal (env99 (.c db n cap) (.i (a:Int)) (.i (b:Int)) (.func 69 [] [.ptr xb 0 0 1]) (.i (i:Int)) y9) H :=
  RunsTo.hin N 60 [⟨1,2,.bool true,H⟩] fun kf hk=>⟨_,by kernel_rfl,(oB H (decide_eq_true g0) .nil)⟩
theorem is_b_1 (N:Nat) (db n:Nat) (cap:Option Nat) (H:Heap) (x:Nat) (a:Nat) (b:Nat) (i:Nat) {y9:HV}(g0:¬ ((i:Int) < (b:Int))):RT polSo 99 (sub [1,0,0,0] B99) (env99 (.c db n cap) (.i (a:Int)) (.i (b:Int)) (.func 69 [] [.ptr xb 0 0 1]) (.i (i:Int)) y9) H (.exit 0) (env99 (.c db n cap) (.i (a:Int)) (.i (b:Int)) (.func 69 [] [.ptr xb 0 0 1]) (.i (i:Int)) y9) H :=
  RunsTo.hin N 60 [⟨1,2,.bool false,H⟩] fun kf hk=>⟨_,by kernel_rfl,(oB H (decide_eq_false g0) .nil)⟩
theorem is_c_0 (N:Nat) (db n:Nat) (cap:Option Nat) (H:Heap) (x:Nat) (a:Nat) (b:Nat) (i:Nat) {y9:HV}:RT polSo 99 (sub [1,0,0,1,0,0,0] B99) (env99 (.c db n cap) (.i (a:Int)) (.i (b:Int)) (.func 69 [] [.ptr xb 0 0 1]) (.i (i:Int)) y9) H .normal (env99 (.c db n cap) (.i (a:Int)) (.i (b:Int)) (.func 69 [] [.ptr xb 0 0 1]) (.i (i:Int)) (.i (i:Int))) H :=
  RunsTo.hin N 60 [] fun kf hk=>⟨_,by kernel_rfl,.nil⟩
theorem is_d_0 (N:Nat) (db n:Nat) (cap:Option Nat) (H:Heap) (x:Nat) (a:Nat) (b:Nat) (i:Nat) (j:Nat) {a0:HV} {v0:HV} {a1:HV} {v1:HV} {c0:Int} {H0:Heap} {a2:HV} {v2:HV} {a3:HV} {v3:HV} {a4:HV} {H1:Heap} {a5:HV} {H2:Heap} (g0:(a:Int) < (j:Int)) (g1:idxV Tp 24 (.c db n cap) (.i (j:Int))=some (a0)) (g2:loadV Tp H 3 (a0)=some (v0)) (g3:idxV Tp 24 (.c db n cap) (.i (IntKind.i64.wrap ((j:Int) - 1)))=some (a1)) (g4:loadV Tp H 3 (a1)=some (v1)) (g5:∀ kf,N ≤ kf → callN Tp polSo (kf+1) 69 [v0,v1,.ptr xb 0 0 1] H=some (.i c0,H0)) (g6:c0 < 0) (g7:idxV Tp 24 (.c db n cap) (.i (IntKind.i64.wrap ((j:Int) - 1)))=some (a2)) (g8:loadV Tp H0 3 (a2)=some (v2)) (g9:idxV Tp 24 (.c db n cap) (.i (j:Int))=some (a3)) (g10:loadV Tp H0 3 (a3)=some (v3)) (g11:idxV Tp 24 (.c db n cap) (.i (j:Int))=some (a4)) (g12:storeV Tp H0 3 (a4) (v2)=some H1) (g13:idxV Tp 24 (.c db n cap) (.i (IntKind.i64.wrap ((j:Int) - 1)))=some (a5)) (g14:storeV Tp H1 3 (a5) (v3)=some H2):RT polSo 99 (sub [1,0,0,1,0,0,1,0,0] B99) (env99 (.c db n cap) (.i (a:Int)) (.i (b:Int)) (.func 69 [] [.ptr xb 0 0 1]) (.i (i:Int)) (.i (j:Int))) H .normal (env99 (.c db n cap) (.i (a:Int)) (.i (b:Int)) (.func 69 [] [.ptr xb 0 0 1]) (.i (i:Int)) (.i (IntKind.i64.wrap ((j:Int) - 1)))) H2 :=
  RunsTo.hin N 60 [⟨4,2,.bool true,H⟩,⟨4,7,a0,H⟩,⟨4,8,v0,H⟩,⟨4,12,a1,H⟩,⟨4,13,v1,H⟩,⟨4,14,.i c0,H0⟩,⟨4,15,.bool true,H0⟩,⟨6,8,a2,H0⟩,⟨6,9,v2,H0⟩,⟨6,12,a3,H0⟩,⟨6,13,v3,H0⟩,⟨6,14,a4,H0⟩,⟨6,15,.tuple [],H1⟩,⟨6,16,a5,H1⟩,⟨6,17,.tuple [],H2⟩] fun kf hk=>⟨_,by kernel_rfl,(oB H (decide_eq_true g0) (oP H g1 (oP H g2 (oP H g3 (oP H g4 (oC (g5 kf (by omega)) (oB H0 (decide_eq_true g6) (oP H0 g7 (oP H0 g8 (oP H0 g9 (oP H0 g10 (oP H0 g11 (oS g12 (oP H1 g13 (oS g14 .nil)))))))))))))))⟩
theorem is_d_1 (N:Nat) (db n:Nat) (cap:Option Nat) (H:Heap) (x:Nat) (a:Nat) (b:Nat) (i:Nat) (j:Nat) {a0:HV} {v0:HV} {a1:HV} {v1:HV} {c0:Int} {H0:Heap} (g0:(a:Int) < (j:Int)) (g1:idxV Tp 24 (.c db n cap) (.i (j:Int))=some (a0)) (g2:loadV Tp H 3 (a0)=some (v0)) (g3:idxV Tp 24 (.c db n cap) (.i (IntKind.i64.wrap ((j:Int) - 1)))=some (a1)) (g4:loadV Tp H 3 (a1)=some (v1)) (g5:∀ kf,N ≤ kf → callN Tp polSo (kf+1) 69 [v0,v1,.ptr xb 0 0 1] H=some (.i c0,H0)) (g6:¬ (c0 < 0)):RT polSo 99 (sub [1,0,0,1,0,0,1,0,0] B99) (env99 (.c db n cap) (.i (a:Int)) (.i (b:Int)) (.func 69 [] [.ptr xb 0 0 1]) (.i (i:Int)) (.i (j:Int))) H (.exit 2) (env99 (.c db n cap) (.i (a:Int)) (.i (b:Int)) (.func 69 [] [.ptr xb 0 0 1]) (.i (i:Int)) (.i (j:Int))) H0 :=
  RunsTo.hin N 60 [⟨4,2,.bool true,H⟩,⟨4,7,a0,H⟩,⟨4,8,v0,H⟩,⟨4,12,a1,H⟩,⟨4,13,v1,H⟩,⟨4,14,.i c0,H0⟩,⟨4,15,.bool false,H0⟩] fun kf hk=>⟨_,by kernel_rfl,(oB H (decide_eq_true g0) (oP H g1 (oP H g2 (oP H g3 (oP H g4 (oC (g5 kf (by omega)) (oB H0 (decide_eq_false g6) .nil)))))))⟩
theorem is_d_2 (N:Nat) (db n:Nat) (cap:Option Nat) (H:Heap) (x:Nat) (a:Nat) (b:Nat) (i:Nat) (j:Nat)(g0:¬ ((a:Int) < (j:Int))):RT polSo 99 (sub [1,0,0,1,0,0,1,0,0] B99) (env99 (.c db n cap) (.i (a:Int)) (.i (b:Int)) (.func 69 [] [.ptr xb 0 0 1]) (.i (i:Int)) (.i (j:Int))) H (.exit 2) (env99 (.c db n cap) (.i (a:Int)) (.i (b:Int)) (.func 69 [] [.ptr xb 0 0 1]) (.i (i:Int)) (.i (j:Int))) H :=
  RunsTo.hin N 60 [⟨4,2,.bool false,H⟩] fun kf hk=>⟨_,by kernel_rfl,(oB H (decide_eq_false g0) .nil)⟩
theorem is_e_0 (N:Nat) (db n:Nat) (cap:Option Nat) (H:Heap) (x:Nat) (a:Nat) (b:Nat) (i:Nat) {y9:HV}:RT polSo 99 (sub [1,0,0,1,1] B99) (env99 (.c db n cap) (.i (a:Int)) (.i (b:Int)) (.func 69 [] [.ptr xb 0 0 1]) (.i (i:Int)) y9) H .normal (env99 (.c db n cap) (.i (a:Int)) (.i (b:Int)) (.func 69 [] [.ptr xb 0 0 1]) (.i (IntKind.i64.wrap ((i:Int)+1))) y9) H :=
  RunsTo.hin N 60 [] fun kf hk=>⟨_,by kernel_rfl,.nil⟩
noncomputable def B103:Code:=Try.f103.body.getD .skip
abbrev env103 (v0 v1 v2 v8 v9:HV):Env:=[(0,v0),(1,v1),(2,v2),(8,v8),(9,v9)]
theorem rvs_a_0 (N:Nat) (db n:Nat) (cap:Option Nat) (H:Heap) (x:Nat) (a:Nat) (b:Nat):RT polSo 103 (sub [0] B103) [(0,.c db n cap),(1,.i (a:Int)),(2,.i (b:Int)),(3,.func 69 [] [.ptr xb 0 0 1])] H .normal (env103 (.c db n cap) (.i (a:Int)) (.i (b:Int)) (.i (a:Int)) Ud) H :=
  RunsTo.hin N 60 [] fun kf hk=>⟨_,by kernel_rfl,.nil⟩
theorem rvs_b_0 (N:Nat) (db n:Nat) (cap:Option Nat) (H:Heap) (x:Nat) (a:Nat) (b:Nat) (i:Nat) {y9:HV}:RT polSo 103 (sub [1,0] B103) (env103 (.c db n cap) (.i (a:Int)) (.i (b:Int)) (.i (i:Int)) y9) H .normal (env103 (.c db n cap) (.i (a:Int)) (.i (b:Int)) (.i (i:Int)) (.i (IntKind.i64.wrap ((b:Int) - 1)))) H :=
  RunsTo.hin N 60 [] fun kf hk=>⟨_,by kernel_rfl,.nil⟩
theorem rvs_c_0 (N:Nat) (db n:Nat) (cap:Option Nat) (H:Heap) (x:Nat) (a:Nat) (b:Nat) (i:Nat) (j:Nat) {a0:HV} {v0:HV} {a1:HV} {v1:HV} {a2:HV} {H0:Heap} {a3:HV} {H1:Heap} (g0:(i:Int) < (j:Int)) (g1:idxV Tp 24 (.c db n cap) (.i (j:Int))=some (a0)) (g2:loadV Tp H 3 (a0)=some (v0)) (g3:idxV Tp 24 (.c db n cap) (.i (i:Int))=some (a1)) (g4:loadV Tp H 3 (a1)=some (v1)) (g5:idxV Tp 24 (.c db n cap) (.i (i:Int))=some (a2)) (g6:storeV Tp H 3 (a2) (v0)=some H0) (g7:idxV Tp 24 (.c db n cap) (.i (j:Int))=some (a3)) (g8:storeV Tp H0 3 (a3) (v1)=some H1):RT polSo 103 (sub [1,1,0,0] B103) (env103 (.c db n cap) (.i (a:Int)) (.i (b:Int)) (.i (i:Int)) (.i (j:Int))) H .normal (env103 (.c db n cap) (.i (a:Int)) (.i (b:Int)) (.i (IntKind.i64.wrap ((i:Int)+1))) (.i (IntKind.i64.wrap ((j:Int) - 1)))) H1 :=
  RunsTo.hin N 60 [⟨2,2,.bool true,H⟩,⟨3,6,a0,H⟩,⟨3,7,v0,H⟩,⟨3,10,a1,H⟩,⟨3,11,v1,H⟩,⟨3,12,a2,H⟩,⟨3,13,.tuple [],H0⟩,⟨3,14,a3,H0⟩,⟨3,15,.tuple [],H1⟩] fun kf hk=>⟨_,by kernel_rfl,(oB H (decide_eq_true g0) (oP H g1 (oP H g2 (oP H g3 (oP H g4 (oP H g5 (oS g6 (oP H0 g7 (oS g8 .nil)))))))))⟩
theorem rvs_c_1 (N:Nat) (db n:Nat) (cap:Option Nat) (H:Heap) (x:Nat) (a:Nat) (b:Nat) (i:Nat) (j:Nat)(g0:¬ ((i:Int) < (j:Int))):RT polSo 103 (sub [1,1,0,0] B103) (env103 (.c db n cap) (.i (a:Int)) (.i (b:Int)) (.i (i:Int)) (.i (j:Int))) H (.exit 0) (env103 (.c db n cap) (.i (a:Int)) (.i (b:Int)) (.i (i:Int)) (.i (j:Int))) H :=
  RunsTo.hin N 60 [⟨2,2,.bool false,H⟩] fun kf hk=>⟨_,by kernel_rfl,(oB H (decide_eq_false g0) .nil)⟩
noncomputable def B109:Code:=Try.f109.body.getD .skip
abbrev env109 (v0 v1 v2 v3 v4 v10 v11:HV):Env:=[(0,v0),(1,v1),(2,v2),(3,v3),(4,v4),(10,v10),(11,v11)]
theorem sf_a_0 (N:Nat) (db n:Nat) (cap:Option Nat) (H:Heap) (x:Nat) (lo:Nat) (hi:Nat) (fi:Nat):RT polSo 109 (sub [0] B109) [(0,.c db n cap),(1,.i (lo:Int)),(2,.i (hi:Int)),(3,.i (fi:Int)),(4,.func 69 [] [.ptr xb 0 0 1])] H .normal (env109 (.c db n cap) (.i (lo:Int)) (.i (hi:Int)) (.i (fi:Int)) (.func 69 [] [.ptr xb 0 0 1]) (.i (lo:Int)) Ud) H :=
  RunsTo.hin N 60 [] fun kf hk=>⟨_,by kernel_rfl,.nil⟩
theorem sf_b_0 (N:Nat) (db n:Nat) (cap:Option Nat) (H:Heap) (x:Nat) (lo:Nat) (hi:Nat) (fi:Nat) (r:Nat) {y11:HV}(g0:(hi:Int) ≤ IntKind.i64.wrap (IntKind.i64.wrap (2 * (r:Int))+1)):RT polSo 109 (sub [1,0,0] B109) (env109 (.c db n cap) (.i (lo:Int)) (.i (hi:Int)) (.i (fi:Int)) (.func 69 [] [.ptr xb 0 0 1]) (.i (r:Int)) y11) H (.exit 0) (env109 (.c db n cap) (.i (lo:Int)) (.i (hi:Int)) (.i (fi:Int)) (.func 69 [] [.ptr xb 0 0 1]) (.i (r:Int)) (.i (IntKind.i64.wrap (IntKind.i64.wrap (2 * (r:Int))+1)))) H :=
  RunsTo.hin N 60 [⟨2,2,.bool true,H⟩] fun kf hk=>⟨_,by kernel_rfl,(oB H (decide_eq_true g0) .nil)⟩
theorem sf_b_1 (N:Nat) (db n:Nat) (cap:Option Nat) (H:Heap) (x:Nat) (lo:Nat) (hi:Nat) (fi:Nat) (r:Nat) {y11:HV} {a0:HV} {v0:HV} {a1:HV} {v1:HV} {c0:Int} {H0:Heap} {a2:HV} {v2:HV} {a3:HV} {v3:HV} {c1:Int} {H1:Heap} {a4:HV} {v4:HV} {a5:HV} {v5:HV} {a6:HV} {H2:Heap} {a7:HV} {H3:Heap} (g0:¬ ((hi:Int) ≤ IntKind.i64.wrap (IntKind.i64.wrap (2 * (r:Int))+1))) (g1:IntKind.i64.wrap (IntKind.i64.wrap (IntKind.i64.wrap (2 * (r:Int))+1)+1) < (hi:Int)) (g2:idxV Tp 24 (.c db n cap) (.i (IntKind.i64.wrap ((fi:Int)+IntKind.i64.wrap (IntKind.i64.wrap (2 * (r:Int))+1))))=some (a0)) (g3:loadV Tp H 3 (a0)=some (v0)) (g4:idxV Tp 24 (.c db n cap) (.i (IntKind.i64.wrap (IntKind.i64.wrap ((fi:Int)+IntKind.i64.wrap (IntKind.i64.wrap (2 * (r:Int))+1))+1)))=some (a1)) (g5:loadV Tp H 3 (a1)=some (v1)) (g6:∀ kf,N ≤ kf → callN Tp polSo (kf+1) 69 [v0,v1,.ptr xb 0 0 1] H=some (.i c0,H0)) (g7:c0 < 0) (g8:idxV Tp 24 (.c db n cap) (.i (IntKind.i64.wrap ((fi:Int)+(r:Int))))=some (a2)) (g9:loadV Tp H0 3 (a2)=some (v2)) (g10:idxV Tp 24 (.c db n cap) (.i (IntKind.i64.wrap ((fi:Int)+IntKind.i64.wrap (IntKind.i64.wrap (IntKind.i64.wrap (2 * (r:Int))+1)+1))))=some (a3)) (g11:loadV Tp H0 3 (a3)=some (v3)) (g12:∀ kf,N ≤ kf → callN Tp polSo (kf+1) 69 [v2,v3,.ptr xb 0 0 1] H0=some (.i c1,H1)) (g13:c1 < 0) (g14:idxV Tp 24 (.c db n cap) (.i (IntKind.i64.wrap ((fi:Int)+IntKind.i64.wrap (IntKind.i64.wrap (IntKind.i64.wrap (2 * (r:Int))+1)+1))))=some (a4)) (g15:loadV Tp H1 3 (a4)=some (v4)) (g16:idxV Tp 24 (.c db n cap) (.i (IntKind.i64.wrap ((fi:Int)+(r:Int))))=some (a5)) (g17:loadV Tp H1 3 (a5)=some (v5)) (g18:idxV Tp 24 (.c db n cap) (.i (IntKind.i64.wrap ((fi:Int)+(r:Int))))=some (a6)) (g19:storeV Tp H1 3 (a6) (v4)=some H2) (g20:idxV Tp 24 (.c db n cap) (.i (IntKind.i64.wrap ((fi:Int)+IntKind.i64.wrap (IntKind.i64.wrap (IntKind.i64.wrap (2 * (r:Int))+1)+1))))=some (a7)) (g21:storeV Tp H2 3 (a7) (v5)=some H3):RT polSo 109 (sub [1,0,0] B109) (env109 (.c db n cap) (.i (lo:Int)) (.i (hi:Int)) (.i (fi:Int)) (.func 69 [] [.ptr xb 0 0 1]) (.i (r:Int)) y11) H .normal (env109 (.c db n cap) (.i (lo:Int)) (.i (hi:Int)) (.i (fi:Int)) (.func 69 [] [.ptr xb 0 0 1]) (.i (IntKind.i64.wrap (IntKind.i64.wrap (IntKind.i64.wrap (2 * (r:Int))+1)+1))) (.i (IntKind.i64.wrap (IntKind.i64.wrap (IntKind.i64.wrap (2 * (r:Int))+1)+1)))) H3 :=
  RunsTo.hin N 60 [⟨2,2,.bool false,H⟩,⟨3,3,.bool true,H⟩,⟨3,10,a0,H⟩,⟨3,11,v0,H⟩,⟨3,17,a1,H⟩,⟨3,18,v1,H⟩,⟨3,19,.i c0,H0⟩,⟨3,20,.bool true,H0⟩,⟨5,5,a2,H0⟩,⟨5,6,v2,H0⟩,⟨5,11,a3,H0⟩,⟨5,12,v3,H0⟩,⟨5,13,.i c1,H1⟩,⟨5,14,.bool true,H1⟩,⟨6,12,a4,H1⟩,⟨6,13,v4,H1⟩,⟨6,18,a5,H1⟩,⟨6,19,v5,H1⟩,⟨6,20,a6,H1⟩,⟨6,21,.tuple [],H2⟩,⟨6,22,a7,H2⟩,⟨6,23,.tuple [],H3⟩] fun kf hk=>⟨_,by kernel_rfl,(oB H (decide_eq_false g0) (oB H (decide_eq_true g1) (oP H g2 (oP H g3 (oP H g4 (oP H g5 (oC (g6 kf (by omega)) (oB H0 (decide_eq_true g7) (oP H0 g8 (oP H0 g9 (oP H0 g10 (oP H0 g11 (oC (g12 kf (by omega)) (oB H1 (decide_eq_true g13) (oP H1 g14 (oP H1 g15 (oP H1 g16 (oP H1 g17 (oP H1 g18 (oS g19 (oP H2 g20 (oS g21 .nil))))))))))))))))))))))⟩
theorem sf_b_2 (N:Nat) (db n:Nat) (cap:Option Nat) (H:Heap) (x:Nat) (lo:Nat) (hi:Nat) (fi:Nat) (r:Nat) {y11:HV} {a0:HV} {v0:HV} {a1:HV} {v1:HV} {c0:Int} {H0:Heap} {a2:HV} {v2:HV} {a3:HV} {v3:HV} {c1:Int} {H1:Heap} (g0:¬ ((hi:Int) ≤ IntKind.i64.wrap (IntKind.i64.wrap (2 * (r:Int))+1))) (g1:IntKind.i64.wrap (IntKind.i64.wrap (IntKind.i64.wrap (2 * (r:Int))+1)+1) < (hi:Int)) (g2:idxV Tp 24 (.c db n cap) (.i (IntKind.i64.wrap ((fi:Int)+IntKind.i64.wrap (IntKind.i64.wrap (2 * (r:Int))+1))))=some (a0)) (g3:loadV Tp H 3 (a0)=some (v0)) (g4:idxV Tp 24 (.c db n cap) (.i (IntKind.i64.wrap (IntKind.i64.wrap ((fi:Int)+IntKind.i64.wrap (IntKind.i64.wrap (2 * (r:Int))+1))+1)))=some (a1)) (g5:loadV Tp H 3 (a1)=some (v1)) (g6:∀ kf,N ≤ kf → callN Tp polSo (kf+1) 69 [v0,v1,.ptr xb 0 0 1] H=some (.i c0,H0)) (g7:c0 < 0) (g8:idxV Tp 24 (.c db n cap) (.i (IntKind.i64.wrap ((fi:Int)+(r:Int))))=some (a2)) (g9:loadV Tp H0 3 (a2)=some (v2)) (g10:idxV Tp 24 (.c db n cap) (.i (IntKind.i64.wrap ((fi:Int)+IntKind.i64.wrap (IntKind.i64.wrap (IntKind.i64.wrap (2 * (r:Int))+1)+1))))=some (a3)) (g11:loadV Tp H0 3 (a3)=some (v3)) (g12:∀ kf,N ≤ kf → callN Tp polSo (kf+1) 69 [v2,v3,.ptr xb 0 0 1] H0=some (.i c1,H1)) (g13:¬ (c1 < 0)):RT polSo 109 (sub [1,0,0] B109) (env109 (.c db n cap) (.i (lo:Int)) (.i (hi:Int)) (.i (fi:Int)) (.func 69 [] [.ptr xb 0 0 1]) (.i (r:Int)) y11) H .ret (env109 (.c db n cap) (.i (lo:Int)) (.i (hi:Int)) (.i (fi:Int)) (.func 69 [] [.ptr xb 0 0 1]) (.i (r:Int)) (.i (IntKind.i64.wrap (IntKind.i64.wrap (IntKind.i64.wrap (2 * (r:Int))+1)+1)))) H1 :=
  RunsTo.hin N 60 [⟨2,2,.bool false,H⟩,⟨3,3,.bool true,H⟩,⟨3,10,a0,H⟩,⟨3,11,v0,H⟩,⟨3,17,a1,H⟩,⟨3,18,v1,H⟩,⟨3,19,.i c0,H0⟩,⟨3,20,.bool true,H0⟩,⟨5,5,a2,H0⟩,⟨5,6,v2,H0⟩,⟨5,11,a3,H0⟩,⟨5,12,v3,H0⟩,⟨5,13,.i c1,H1⟩,⟨5,14,.bool false,H1⟩] fun kf hk=>⟨_,by kernel_rfl,(oB H (decide_eq_false g0) (oB H (decide_eq_true g1) (oP H g2 (oP H g3 (oP H g4 (oP H g5 (oC (g6 kf (by omega)) (oB H0 (decide_eq_true g7) (oP H0 g8 (oP H0 g9 (oP H0 g10 (oP H0 g11 (oC (g12 kf (by omega)) (oB H1 (decide_eq_false g13) .nil))))))))))))))⟩
theorem sf_b_3 (N:Nat) (db n:Nat) (cap:Option Nat) (H:Heap) (x:Nat) (lo:Nat) (hi:Nat) (fi:Nat) (r:Nat) {y11:HV} {a0:HV} {v0:HV} {a1:HV} {v1:HV} {c0:Int} {H0:Heap} {a2:HV} {v2:HV} {a3:HV} {v3:HV} {c1:Int} {H1:Heap} {a4:HV} {v4:HV} {a5:HV} {v5:HV} {a6:HV} {H2:Heap} {a7:HV} {H3:Heap} (g0:¬ ((hi:Int) ≤ IntKind.i64.wrap (IntKind.i64.wrap (2 * (r:Int))+1))) (g1:IntKind.i64.wrap (IntKind.i64.wrap (IntKind.i64.wrap (2 * (r:Int))+1)+1) < (hi:Int)) (g2:idxV Tp 24 (.c db n cap) (.i (IntKind.i64.wrap ((fi:Int)+IntKind.i64.wrap (IntKind.i64.wrap (2 * (r:Int))+1))))=some (a0)) (g3:loadV Tp H 3 (a0)=some (v0)) (g4:idxV Tp 24 (.c db n cap) (.i (IntKind.i64.wrap (IntKind.i64.wrap ((fi:Int)+IntKind.i64.wrap (IntKind.i64.wrap (2 * (r:Int))+1))+1)))=some (a1)) (g5:loadV Tp H 3 (a1)=some (v1)) (g6:∀ kf,N ≤ kf → callN Tp polSo (kf+1) 69 [v0,v1,.ptr xb 0 0 1] H=some (.i c0,H0)) (g7:¬ (c0 < 0)) (g8:idxV Tp 24 (.c db n cap) (.i (IntKind.i64.wrap ((fi:Int)+(r:Int))))=some (a2)) (g9:loadV Tp H0 3 (a2)=some (v2)) (g10:idxV Tp 24 (.c db n cap) (.i (IntKind.i64.wrap ((fi:Int)+IntKind.i64.wrap (IntKind.i64.wrap (2 * (r:Int))+1))))=some (a3)) (g11:loadV Tp H0 3 (a3)=some (v3)) (g12:∀ kf,N ≤ kf → callN Tp polSo (kf+1) 69 [v2,v3,.ptr xb 0 0 1] H0=some (.i c1,H1)) (g13:c1 < 0) (g14:idxV Tp 24 (.c db n cap) (.i (IntKind.i64.wrap ((fi:Int)+IntKind.i64.wrap (IntKind.i64.wrap (2 * (r:Int))+1))))=some (a4)) (g15:loadV Tp H1 3 (a4)=some (v4)) (g16:idxV Tp 24 (.c db n cap) (.i (IntKind.i64.wrap ((fi:Int)+(r:Int))))=some (a5)) (g17:loadV Tp H1 3 (a5)=some (v5)) (g18:idxV Tp 24 (.c db n cap) (.i (IntKind.i64.wrap ((fi:Int)+(r:Int))))=some (a6)) (g19:storeV Tp H1 3 (a6) (v4)=some H2) (g20:idxV Tp 24 (.c db n cap) (.i (IntKind.i64.wrap ((fi:Int)+IntKind.i64.wrap (IntKind.i64.wrap (2 * (r:Int))+1))))=some (a7)) (g21:storeV Tp H2 3 (a7) (v5)=some H3):RT polSo 109 (sub [1,0,0] B109) (env109 (.c db n cap) (.i (lo:Int)) (.i (hi:Int)) (.i (fi:Int)) (.func 69 [] [.ptr xb 0 0 1]) (.i (r:Int)) y11) H .normal (env109 (.c db n cap) (.i (lo:Int)) (.i (hi:Int)) (.i (fi:Int)) (.func 69 [] [.ptr xb 0 0 1]) (.i (IntKind.i64.wrap (IntKind.i64.wrap (2 * (r:Int))+1))) (.i (IntKind.i64.wrap (IntKind.i64.wrap (2 * (r:Int))+1)))) H3 :=
  RunsTo.hin N 60 [⟨2,2,.bool false,H⟩,⟨3,3,.bool true,H⟩,⟨3,10,a0,H⟩,⟨3,11,v0,H⟩,⟨3,17,a1,H⟩,⟨3,18,v1,H⟩,⟨3,19,.i c0,H0⟩,⟨3,20,.bool false,H0⟩,⟨5,5,a2,H0⟩,⟨5,6,v2,H0⟩,⟨5,11,a3,H0⟩,⟨5,12,v3,H0⟩,⟨5,13,.i c1,H1⟩,⟨5,14,.bool true,H1⟩,⟨6,12,a4,H1⟩,⟨6,13,v4,H1⟩,⟨6,18,a5,H1⟩,⟨6,19,v5,H1⟩,⟨6,20,a6,H1⟩,⟨6,21,.tuple [],H2⟩,⟨6,22,a7,H2⟩,⟨6,23,.tuple [],H3⟩] fun kf hk=>⟨_,by kernel_rfl,(oB H (decide_eq_false g0) (oB H (decide_eq_true g1) (oP H g2 (oP H g3 (oP H g4 (oP H g5 (oC (g6 kf (by omega)) (oB H0 (decide_eq_false g7) (oP H0 g8 (oP H0 g9 (oP H0 g10 (oP H0 g11 (oC (g12 kf (by omega)) (oB H1 (decide_eq_true g13) (oP H1 g14 (oP H1 g15 (oP H1 g16 (oP H1 g17 (oP H1 g18 (oS g19 (oP H2 g20 (oS g21 .nil))))))))))))))))))))))⟩
theorem sf_b_4 (N:Nat) (db n:Nat) (cap:Option Nat) (H:Heap) (x:Nat) (lo:Nat) (hi:Nat) (fi:Nat) (r:Nat) {y11:HV} {a0:HV} {v0:HV} {a1:HV} {v1:HV} {c0:Int} {H0:Heap} {a2:HV} {v2:HV} {a3:HV} {v3:HV} {c1:Int} {H1:Heap} (g0:¬ ((hi:Int) ≤ IntKind.i64.wrap (IntKind.i64.wrap (2 * (r:Int))+1))) (g1:IntKind.i64.wrap (IntKind.i64.wrap (IntKind.i64.wrap (2 * (r:Int))+1)+1) < (hi:Int)) (g2:idxV Tp 24 (.c db n cap) (.i (IntKind.i64.wrap ((fi:Int)+IntKind.i64.wrap (IntKind.i64.wrap (2 * (r:Int))+1))))=some (a0)) (g3:loadV Tp H 3 (a0)=some (v0)) (g4:idxV Tp 24 (.c db n cap) (.i (IntKind.i64.wrap (IntKind.i64.wrap ((fi:Int)+IntKind.i64.wrap (IntKind.i64.wrap (2 * (r:Int))+1))+1)))=some (a1)) (g5:loadV Tp H 3 (a1)=some (v1)) (g6:∀ kf,N ≤ kf → callN Tp polSo (kf+1) 69 [v0,v1,.ptr xb 0 0 1] H=some (.i c0,H0)) (g7:¬ (c0 < 0)) (g8:idxV Tp 24 (.c db n cap) (.i (IntKind.i64.wrap ((fi:Int)+(r:Int))))=some (a2)) (g9:loadV Tp H0 3 (a2)=some (v2)) (g10:idxV Tp 24 (.c db n cap) (.i (IntKind.i64.wrap ((fi:Int)+IntKind.i64.wrap (IntKind.i64.wrap (2 * (r:Int))+1))))=some (a3)) (g11:loadV Tp H0 3 (a3)=some (v3)) (g12:∀ kf,N ≤ kf → callN Tp polSo (kf+1) 69 [v2,v3,.ptr xb 0 0 1] H0=some (.i c1,H1)) (g13:¬ (c1 < 0)):RT polSo 109 (sub [1,0,0] B109) (env109 (.c db n cap) (.i (lo:Int)) (.i (hi:Int)) (.i (fi:Int)) (.func 69 [] [.ptr xb 0 0 1]) (.i (r:Int)) y11) H .ret (env109 (.c db n cap) (.i (lo:Int)) (.i (hi:Int)) (.i (fi:Int)) (.func 69 [] [.ptr xb 0 0 1]) (.i (r:Int)) (.i (IntKind.i64.wrap (IntKind.i64.wrap (2 * (r:Int))+1)))) H1 :=
  RunsTo.hin N 60 [⟨2,2,.bool false,H⟩,⟨3,3,.bool true,H⟩,⟨3,10,a0,H⟩,⟨3,11,v0,H⟩,⟨3,17,a1,H⟩,⟨3,18,v1,H⟩,⟨3,19,.i c0,H0⟩,⟨3,20,.bool false,H0⟩,⟨5,5,a2,H0⟩,⟨5,6,v2,H0⟩,⟨5,11,a3,H0⟩,⟨5,12,v3,H0⟩,⟨5,13,.i c1,H1⟩,⟨5,14,.bool false,H1⟩] fun kf hk=>⟨_,by kernel_rfl,(oB H (decide_eq_false g0) (oB H (decide_eq_true g1) (oP H g2 (oP H g3 (oP H g4 (oP H g5 (oC (g6 kf (by omega)) (oB H0 (decide_eq_false g7) (oP H0 g8 (oP H0 g9 (oP H0 g10 (oP H0 g11 (oC (g12 kf (by omega)) (oB H1 (decide_eq_false g13) .nil))))))))))))))⟩
theorem sf_b_5 (N:Nat) (db n:Nat) (cap:Option Nat) (H:Heap) (x:Nat) (lo:Nat) (hi:Nat) (fi:Nat) (r:Nat) {y11:HV} {a0:HV} {v0:HV} {a1:HV} {v1:HV} {c0:Int} {H0:Heap} {a2:HV} {v2:HV} {a3:HV} {v3:HV} {a4:HV} {H1:Heap} {a5:HV} {H2:Heap} (g0:¬ ((hi:Int) ≤ IntKind.i64.wrap (IntKind.i64.wrap (2 * (r:Int))+1))) (g1:¬ (IntKind.i64.wrap (IntKind.i64.wrap (IntKind.i64.wrap (2 * (r:Int))+1)+1) < (hi:Int))) (g2:idxV Tp 24 (.c db n cap) (.i (IntKind.i64.wrap ((fi:Int)+(r:Int))))=some (a0)) (g3:loadV Tp H 3 (a0)=some (v0)) (g4:idxV Tp 24 (.c db n cap) (.i (IntKind.i64.wrap ((fi:Int)+IntKind.i64.wrap (IntKind.i64.wrap (2 * (r:Int))+1))))=some (a1)) (g5:loadV Tp H 3 (a1)=some (v1)) (g6:∀ kf,N ≤ kf → callN Tp polSo (kf+1) 69 [v0,v1,.ptr xb 0 0 1] H=some (.i c0,H0)) (g7:c0 < 0) (g8:idxV Tp 24 (.c db n cap) (.i (IntKind.i64.wrap ((fi:Int)+IntKind.i64.wrap (IntKind.i64.wrap (2 * (r:Int))+1))))=some (a2)) (g9:loadV Tp H0 3 (a2)=some (v2)) (g10:idxV Tp 24 (.c db n cap) (.i (IntKind.i64.wrap ((fi:Int)+(r:Int))))=some (a3)) (g11:loadV Tp H0 3 (a3)=some (v3)) (g12:idxV Tp 24 (.c db n cap) (.i (IntKind.i64.wrap ((fi:Int)+(r:Int))))=some (a4)) (g13:storeV Tp H0 3 (a4) (v2)=some H1) (g14:idxV Tp 24 (.c db n cap) (.i (IntKind.i64.wrap ((fi:Int)+IntKind.i64.wrap (IntKind.i64.wrap (2 * (r:Int))+1))))=some (a5)) (g15:storeV Tp H1 3 (a5) (v3)=some H2):RT polSo 109 (sub [1,0,0] B109) (env109 (.c db n cap) (.i (lo:Int)) (.i (hi:Int)) (.i (fi:Int)) (.func 69 [] [.ptr xb 0 0 1]) (.i (r:Int)) y11) H .normal (env109 (.c db n cap) (.i (lo:Int)) (.i (hi:Int)) (.i (fi:Int)) (.func 69 [] [.ptr xb 0 0 1]) (.i (IntKind.i64.wrap (IntKind.i64.wrap (2 * (r:Int))+1))) (.i (IntKind.i64.wrap (IntKind.i64.wrap (2 * (r:Int))+1)))) H2 :=
  RunsTo.hin N 60 [⟨2,2,.bool false,H⟩,⟨3,3,.bool false,H⟩,⟨5,5,a0,H⟩,⟨5,6,v0,H⟩,⟨5,11,a1,H⟩,⟨5,12,v1,H⟩,⟨5,13,.i c0,H0⟩,⟨5,14,.bool true,H0⟩,⟨6,12,a2,H0⟩,⟨6,13,v2,H0⟩,⟨6,18,a3,H0⟩,⟨6,19,v3,H0⟩,⟨6,20,a4,H0⟩,⟨6,21,.tuple [],H1⟩,⟨6,22,a5,H1⟩,⟨6,23,.tuple [],H2⟩] fun kf hk=>⟨_,by kernel_rfl,(oB H (decide_eq_false g0) (oB H (decide_eq_false g1) (oP H g2 (oP H g3 (oP H g4 (oP H g5 (oC (g6 kf (by omega)) (oB H0 (decide_eq_true g7) (oP H0 g8 (oP H0 g9 (oP H0 g10 (oP H0 g11 (oP H0 g12 (oS g13 (oP H1 g14 (oS g15 .nil))))))))))))))))⟩
theorem sf_b_6 (N:Nat) (db n:Nat) (cap:Option Nat) (H:Heap) (x:Nat) (lo:Nat) (hi:Nat) (fi:Nat) (r:Nat) {y11:HV} {a0:HV} {v0:HV} {a1:HV} {v1:HV} {c0:Int} {H0:Heap} (g0:¬ ((hi:Int) ≤ IntKind.i64.wrap (IntKind.i64.wrap (2 * (r:Int))+1))) (g1:¬ (IntKind.i64.wrap (IntKind.i64.wrap (IntKind.i64.wrap (2 * (r:Int))+1)+1) < (hi:Int))) (g2:idxV Tp 24 (.c db n cap) (.i (IntKind.i64.wrap ((fi:Int)+(r:Int))))=some (a0)) (g3:loadV Tp H 3 (a0)=some (v0)) (g4:idxV Tp 24 (.c db n cap) (.i (IntKind.i64.wrap ((fi:Int)+IntKind.i64.wrap (IntKind.i64.wrap (2 * (r:Int))+1))))=some (a1)) (g5:loadV Tp H 3 (a1)=some (v1)) (g6:∀ kf,N ≤ kf → callN Tp polSo (kf+1) 69 [v0,v1,.ptr xb 0 0 1] H=some (.i c0,H0)) (g7:¬ (c0 < 0)):RT polSo 109 (sub [1,0,0] B109) (env109 (.c db n cap) (.i (lo:Int)) (.i (hi:Int)) (.i (fi:Int)) (.func 69 [] [.ptr xb 0 0 1]) (.i (r:Int)) y11) H .ret (env109 (.c db n cap) (.i (lo:Int)) (.i (hi:Int)) (.i (fi:Int)) (.func 69 [] [.ptr xb 0 0 1]) (.i (r:Int)) (.i (IntKind.i64.wrap (IntKind.i64.wrap (2 * (r:Int))+1)))) H0 :=
  RunsTo.hin N 60 [⟨2,2,.bool false,H⟩,⟨3,3,.bool false,H⟩,⟨5,5,a0,H⟩,⟨5,6,v0,H⟩,⟨5,11,a1,H⟩,⟨5,12,v1,H⟩,⟨5,13,.i c0,H0⟩,⟨5,14,.bool false,H0⟩] fun kf hk=>⟨_,by kernel_rfl,(oB H (decide_eq_false g0) (oB H (decide_eq_false g1) (oP H g2 (oP H g3 (oP H g4 (oP H g5 (oC (g6 kf (by omega)) (oB H0 (decide_eq_false g7) .nil))))))))⟩
noncomputable def B100:Code:=Try.f100.body.getD .skip
abbrev env100 (v0 v1 v2 v3 v8 v9 v10 v11 v12:HV):Env:=[(0,v0),(1,v1),(2,v2),(3,v3),(8,v8),(9,v9),(10,v10),(11,v11),(12,v12)]
theorem hs_a_0 (N:Nat) (db n:Nat) (cap:Option Nat) (H:Heap) (x:Nat) (a:Nat) (b:Nat):RT polSo 100 (sub [0] B100) [(0,.c db n cap),(1,.i (a:Int)),(2,.i (b:Int)),(3,.func 69 [] [.ptr xb 0 0 1])] H .normal (env100 (.c db n cap) (.i (a:Int)) (.i (b:Int)) (.func 69 [] [.ptr xb 0 0 1]) (.i (a:Int)) Ud Ud Ud Ud) H :=
  RunsTo.hin N 60 [] fun kf hk=>⟨_,by kernel_rfl,.nil⟩
theorem hs_b_0 (N:Nat) (db n:Nat) (cap:Option Nat) (H:Heap) (x:Nat) (a:Nat) (b:Nat) (fi:Nat) {y9 y10 y11 y12:HV}:RT polSo 100 (sub [1,0] B100) (env100 (.c db n cap) (.i (a:Int)) (.i (b:Int)) (.func 69 [] [.ptr xb 0 0 1]) (.i (fi:Int)) y9 y10 y11 y12) H .normal (env100 (.c db n cap) (.i (a:Int)) (.i (b:Int)) (.func 69 [] [.ptr xb 0 0 1]) (.i (fi:Int)) (.i 0) y10 y11 y12) H :=
  RunsTo.hin N 60 [] fun kf hk=>⟨_,by kernel_rfl,.nil⟩
theorem hs_c_0 (N:Nat) (db n:Nat) (cap:Option Nat) (H:Heap) (x:Nat) (a:Nat) (b:Nat) (fi:Nat) {y10 y11 y12:HV}:RT polSo 100 (sub [1,1,0] B100) (env100 (.c db n cap) (.i (a:Int)) (.i (b:Int)) (.func 69 [] [.ptr xb 0 0 1]) (.i (fi:Int)) (.i 0) y10 y11 y12) H .normal (env100 (.c db n cap) (.i (a:Int)) (.i (b:Int)) (.func 69 [] [.ptr xb 0 0 1]) (.i (fi:Int)) (.i 0) (.i (IntKind.i64.wrap ((b:Int) - (a:Int)))) y11 y12) H :=
  RunsTo.hin N 60 [] fun kf hk=>⟨_,by kernel_rfl,.nil⟩
theorem hs_d_0 (N:Nat) (db n:Nat) (cap:Option Nat) (H:Heap) (x:Nat) (a:Nat) (b:Nat) (fi:Nat) (hi:Nat) {y11 y12:HV}:RT polSo 100 (sub [1,1,1,0,0] B100) (env100 (.c db n cap) (.i (a:Int)) (.i (b:Int)) (.func 69 [] [.ptr xb 0 0 1]) (.i (fi:Int)) (.i 0) (.i (hi:Int)) y11 y12) H .normal (env100 (.c db n cap) (.i (a:Int)) (.i (b:Int)) (.func 69 [] [.ptr xb 0 0 1]) (.i (fi:Int)) (.i 0) (.i (hi:Int)) (.i (IntKind.i64.wrap ((IntKind.i64.wrap ((hi:Int) - 1):Int).tdiv 2))) y12) H :=
  RunsTo.hin N 60 [] fun kf hk=>⟨_,by kernel_rfl,.nil⟩
theorem hs_e_0 (N:Nat) (db n:Nat) (cap:Option Nat) (H:Heap) (x:Nat) (a:Nat) (b:Nat) (fi:Nat) (hi:Nat) (x:Int) {y12:HV} {H0:Heap} (g0:0 ≤ x) (g1:∀ kf,N ≤ kf → callN Tp polSo (kf+1) 109 [.c db n cap,.i x,.i (hi:Int),.i (fi:Int),.func 69 [] [.ptr xb 0 0 1]] H=some (.tuple [],H0)):RT polSo 100 (sub [1,1,1,0,1,0,0] B100) (env100 (.c db n cap) (.i (a:Int)) (.i (b:Int)) (.func 69 [] [.ptr xb 0 0 1]) (.i (fi:Int)) (.i 0) (.i (hi:Int)) (.i x) y12) H .normal (env100 (.c db n cap) (.i (a:Int)) (.i (b:Int)) (.func 69 [] [.ptr xb 0 0 1]) (.i (fi:Int)) (.i 0) (.i (hi:Int)) (.i (IntKind.i64.wrap (x - 1))) y12) H0 :=
  RunsTo.hin N 60 [⟨4,1,.bool true,H⟩,⟨6,5,.tuple [],H0⟩] fun kf hk=>⟨_,by kernel_rfl,(oB H (decide_eq_true g0) (oC (g1 kf (by omega)) .nil))⟩
theorem hs_e_1 (N:Nat) (db n:Nat) (cap:Option Nat) (H:Heap) (x:Nat) (a:Nat) (b:Nat) (fi:Nat) (hi:Nat) (x:Int) {y12:HV}(g0:¬ (0 ≤ x)):RT polSo 100 (sub [1,1,1,0,1,0,0] B100) (env100 (.c db n cap) (.i (a:Int)) (.i (b:Int)) (.func 69 [] [.ptr xb 0 0 1]) (.i (fi:Int)) (.i 0) (.i (hi:Int)) (.i x) y12) H (.exit 0) (env100 (.c db n cap) (.i (a:Int)) (.i (b:Int)) (.func 69 [] [.ptr xb 0 0 1]) (.i (fi:Int)) (.i 0) (.i (hi:Int)) (.i x) y12) H :=
  RunsTo.hin N 60 [⟨4,1,.bool false,H⟩] fun kf hk=>⟨_,by kernel_rfl,(oB H (decide_eq_false g0) .nil)⟩
theorem hs_f_0 (N:Nat) (db n:Nat) (cap:Option Nat) (H:Heap) (x:Nat) (a:Nat) (b:Nat) (fi:Nat) (hi:Nat) {y11 y12:HV}:RT polSo 100 (sub [1,1,1,1,0] B100) (env100 (.c db n cap) (.i (a:Int)) (.i (b:Int)) (.func 69 [] [.ptr xb 0 0 1]) (.i (fi:Int)) (.i 0) (.i (hi:Int)) y11 y12) H .normal (env100 (.c db n cap) (.i (a:Int)) (.i (b:Int)) (.func 69 [] [.ptr xb 0 0 1]) (.i (fi:Int)) (.i 0) (.i (hi:Int)) y11 (.i (IntKind.i64.wrap ((hi:Int) - 1)))) H :=
  RunsTo.hin N 60 [] fun kf hk=>⟨_,by kernel_rfl,.nil⟩
theorem hs_g_0 (N:Nat) (db n:Nat) (cap:Option Nat) (H:Heap) (x:Nat) (a:Nat) (b:Nat) (fi:Nat) (x:Int) {y10 y11:HV} {a0:HV} {v0:HV} {a1:HV} {v1:HV} {a2:HV} {H0:Heap} {a3:HV} {H1:Heap} {H2:Heap} (g0:0 ≤ x) (g1:idxV Tp 24 (.c db n cap) (.i (IntKind.i64.wrap ((fi:Int)+x)))=some (a0)) (g2:loadV Tp H 3 (a0)=some (v0)) (g3:idxV Tp 24 (.c db n cap) (.i (fi:Int))=some (a1)) (g4:loadV Tp H 3 (a1)=some (v1)) (g5:idxV Tp 24 (.c db n cap) (.i (fi:Int))=some (a2)) (g6:storeV Tp H 3 (a2) (v0)=some H0) (g7:idxV Tp 24 (.c db n cap) (.i (IntKind.i64.wrap ((fi:Int)+x)))=some (a3)) (g8:storeV Tp H0 3 (a3) (v1)=some H1) (g9:∀ kf,N ≤ kf → callN Tp polSo (kf+1) 109 [.c db n cap,.i 0,.i x,.i (fi:Int),.func 69 [] [.ptr xb 0 0 1]] H1=some (.tuple [],H2)):RT polSo 100 (sub [1,1,1,1,1,0,0] B100) (env100 (.c db n cap) (.i (a:Int)) (.i (b:Int)) (.func 69 [] [.ptr xb 0 0 1]) (.i (fi:Int)) (.i 0) y10 y11 (.i x)) H .normal (env100 (.c db n cap) (.i (a:Int)) (.i (b:Int)) (.func 69 [] [.ptr xb 0 0 1]) (.i (fi:Int)) (.i 0) y10 y11 (.i (IntKind.i64.wrap (x - 1)))) H2 :=
  RunsTo.hin N 60 [⟨8,1,.bool true,H⟩,⟨10,10,a0,H⟩,⟨10,11,v0,H⟩,⟨10,14,a1,H⟩,⟨10,15,v1,H⟩,⟨10,16,a2,H⟩,⟨10,17,.tuple [],H0⟩,⟨10,18,a3,H0⟩,⟨10,19,.tuple [],H1⟩,⟨11,5,.tuple [],H2⟩] fun kf hk=>⟨_,by kernel_rfl,(oB H (decide_eq_true g0) (oP H g1 (oP H g2 (oP H g3 (oP H g4 (oP H g5 (oS g6 (oP H0 g7 (oS g8 (oC (g9 kf (by omega)) .nil))))))))))⟩
theorem hs_g_1 (N:Nat) (db n:Nat) (cap:Option Nat) (H:Heap) (x:Nat) (a:Nat) (b:Nat) (fi:Nat) (x:Int) {y10 y11:HV}(g0:¬ (0 ≤ x)):RT polSo 100 (sub [1,1,1,1,1,0,0] B100) (env100 (.c db n cap) (.i (a:Int)) (.i (b:Int)) (.func 69 [] [.ptr xb 0 0 1]) (.i (fi:Int)) (.i 0) y10 y11 (.i x)) H (.exit 2) (env100 (.c db n cap) (.i (a:Int)) (.i (b:Int)) (.func 69 [] [.ptr xb 0 0 1]) (.i (fi:Int)) (.i 0) y10 y11 (.i x)) H :=
  RunsTo.hin N 60 [⟨8,1,.bool false,H⟩] fun kf hk=>⟨_,by kernel_rfl,(oB H (decide_eq_false g0) .nil)⟩
end
end Go.Proofs.Ytiejmoglooaalaa
end
section
open Go Go.HL Go.HL.So
namespace Go.Proofs.Ytiejmoglooaalaa
set_option linter.unusedSectionVars false
open Go.Proofs.Try renaming prog → Tp
open Go.HL.HV renaming undef → Ud
section
variable {α:Type} [Inhabited α]
def bE (enc:α → HV) (l:List α):Blk:=.arr 1 (l.map enc) true 0
def Mm (enc:α → HV) (H:Heap) (db:Nat) (l:List α) (T:Heap):Heap:=H.set db (bE enc l) ++ T
structure So (xb:Nat) (enc:α → HV) (lt:α → α → Prop) (dom:α → Prop) (H:Heap) (db n:Nat):Prop where
  nb:n ≤ 60000
  hdb:db < H.length
  mx:mxs H ≤ H.length
  ld:∀ (l:List α) (T:Heap) (i:Nat),l.length=n → i < n → loadV Tp (Mm enc H db l T) 3 (.ptr db i 0 n)=some (enc (at_ l i))
  st:∀ (l:List α) (T:Heap) (i:Nat) (x:α),l.length=n → i < n → storeV Tp (Mm enc H db l T) 3 (.ptr db i 0 n) (enc x)=some (Mm enc H db (l.set i x) T)
  call:∀ (l:List α) (T:Heap) (x y:α),l.length=n → mxs T=0 → dom x → dom y → ∃ c N,(∀ kf,N ≤ kf → callN Tp polSo (kf+1) 69 [enc x,enc y,.ptr xb 0 0 1] (Mm enc H db l T)=some (.int .i64 c,Mm enc H db l T))∧(c < 0 ↔ lt x y)
end
section
variable {α:Type} [Inhabited α]
variable {xb:Nat} {enc:α → HV} {lt:α → α → Prop} {dom:α → Prop} {H:Heap} {db n:Nat} {cap:Option Nat}
theorem Mm_len (l l':List α) (T T':Heap) (h:T.length=T'.length):(Mm enc H db l T).length=(Mm enc H db l' T').length:=by simp [Mm,h]
theorem gcM (l l':List α) (T T':Heap) (r:Nat) (h:T.length=T'.length):gc (Mm enc H db l T).length r (Mm enc H db l' T')=Mm enc H db l' T':=gc_eq r (Mm_len l' l T' T h.symm)
theorem u24s:Tp.underlying 24=some (.slice 3):=by kernel_rfl
theorem z3s:tySize Tp 3=some 1:=by kernel_rfl
theorem ixs {i:Nat} {e:Int} (he:e=(i:Int)) (hi:i < n):idxV Tp 24 (.sl db 0 n cap n 1) (.int .i64 e)=some (.ptr db i 0 n):=by
  subst he
  have:=idx_sl (P:=Tp) (t:=24) (b:=db) (len:=n) (tot:=n) (cap:=cap) (ik:=.i64) (n:=(i:Int)) u24s z3s (by omega) (by omega)
  rwa [Int.toNat_natCast] at this
theorem So.ct (S:So xb enc lt dom H db n) {l:List α} {T:Heap} {x y:α} (hl:l.length=n) (hT:mxs T=0) (hx:dom x) (hy:dom y) (h:lt x y):∃ c N,(∀ kf,N ≤ kf → callN Tp polSo (kf+1) 69 [enc x,enc y,.ptr xb 0 0 1] (Mm enc H db l T)=some (.int .i64 c,Mm enc H db l T))∧c < 0:=by
  obtain ⟨c,N,hN,hc⟩:=S.call l T x y hl hT hx hy
  exact ⟨c,N,hN,hc.2 h⟩
theorem So.cf (S:So xb enc lt dom H db n) {l:List α} {T:Heap} {x y:α} (hl:l.length=n) (hT:mxs T=0) (hx:dom x) (hy:dom y) (h:¬ lt x y):∃ c N,(∀ kf,N ≤ kf → callN Tp polSo (kf+1) 69 [enc x,enc y,.ptr xb 0 0 1] (Mm enc H db l T)=some (.int .i64 c,Mm enc H db l T))∧¬ (c < 0):=by
  obtain ⟨c,N,hN,hc⟩:=S.call l T x y hl hT hx hy
  exact ⟨c,N,hN,fun q=>h (hc.1 q)⟩
def Dm (dom:α → Prop) (l:List α):Prop:=∀ x ∈ l,dom x
theorem Dm.at {l:List α} (h:Dm dom l) {i:Nat} (hi:i < l.length):dom (at_ l i):=by
  have:at_ l i=l[i]:=by simp [at_,List.getD,List.getElem?_eq_getElem hi]
  rw [this]; exact h _ (List.getElem_mem hi)
theorem Dm.sw {l l':List α} {a b:Nat} (h:Dm dom l) (hs:Sw a b l l') (hb:b ≤ l.length):Dm dom l':=hs.mem hb h
theorem sw_len {l l':List α} {a b:Nat} (hs:Sw a b l l') (hl:l.length=n):l'.length=n:=hs.len.trans hl
theorem So.st2 (S:So xb enc lt dom H db n) {l:List α} {T:Heap} {i j:Nat} (hl:l.length=n) (hi:i < n) (hj:j < n):storeV Tp (Mm enc H db l T) 3 (.ptr db i 0 n) (enc (at_ l j))=some (Mm enc H db (l.set i (at_ l j)) T)∧storeV Tp (Mm enc H db (l.set i (at_ l j)) T) 3 (.ptr db j 0 n) (enc (at_ l i))=some (Mm enc H db (swp l i j) T) :=
  ⟨S.st l T i _ hl hi,S.st _ T j _ (by simpa using hl) hj⟩
theorem is_in (S:So xb enc lt dom H db n) (hL:Lin lt) {T:Heap} (hT:mxs T=0) {a b i:Nat} (hi:i < n):∀ (j:Nat) (l:List α),l.length=n → j ≤ i → a ≤ j → Dm dom l → Sink lt a (i+1) j l →
    ∃ y l',RT polSo 99 (sub [1,0,0,1,0,0,1,0] B99) (env99 (.sl db 0 n cap n 1) (.int .i64 (a:Int)) (.int .i64 (b:Int)) (.func 69 [] [.ptr xb 0 0 1]) (.int .i64 (i:Int)) (.int .i64 (j:Int))) (Mm enc H db l T) (.exit 2) (env99 (.sl db 0 n cap n 1) (.int .i64 (a:Int)) (.int .i64 (b:Int)) (.func 69 [] [.ptr xb 0 0 1]) (.int .i64 (i:Int)) y) (Mm enc H db l' T)∧Sw a (i+1) l l'∧Sorted lt a (i+1) l':=by
  have hn:=S.nb
  intro j
  induction j with
  | zero =>
    intro l hl hj ha hD hS
    exact ⟨_,l,lpo (is_d_2 (xb:=xb) 0 db n cap (Mm enc H db l T) 0 a b i 0 (by omega)),.refl,sink_end hL hS (.inl (Nat.zero_le _))⟩
  | succ j ih =>
    intro l hl hj ha hD hS
    by_cases c1:a < j+1
    · by_cases c2:lt (at_ l (j+1)) (at_ l j)
      · obtain ⟨cc,N,hN,hc⟩:=S.ct (T:=T) hl hT (hD.at (i:=j+1) (by omega)) (hD.at (i:=j) (by omega)) c2
        obtain ⟨s1,s2⟩:=S.st2 (T:=T) hl (i:=j+1) (j:=j) (by omega) (by omega)
        have sw:Sw a (i+1) l (swp l (j+1) j):=Sw.one (by omega) (by omega) (by omega) (by omega)
        have st:=is_d_0 (xb:=xb) N db n cap (Mm enc H db l T) 0 a b i (j+1) (by omega) (ixs (i:=j+1) (by omega) (by omega)) (S.ld l T (j+1) hl (by omega)) (ixs (i:=j) (by simp only [wrapI64]; omega) (by omega)) (S.ld l T j hl (by omega)) hN hc (ixs (i:=j) (by simp only [wrapI64]; omega) (by omega)) (S.ld l T j hl (by omega)) (ixs (i:=j+1) (by omega) (by omega)) (S.ld l T (j+1) hl (by omega)) (ixs (i:=j+1) (by omega) (by omega)) s1 (ixs (i:=j) (by simp only [wrapI64]; omega) (by omega)) s2
        rw [show IntKind.i64.wrap (((j+1:Nat):Int) - 1)=(j:Int) by simp only [wrapI64]; omega] at st
        obtain ⟨y,l',r,q1,q2⟩:=ih (swp l (j+1) j) (by rw [swp_len]; exact hl) (by omega) (by omega) (hD.sw sw (by omega)) (sink_step hL (j:=j+1) (by omega) (by omega) c1 hS c2)
        exact ⟨y,l',lop (st) (gcM _ _ _ _ _ rfl) (r),sw.trans q1,q2⟩
      · obtain ⟨cc,N,hN,hc⟩:=S.cf (T:=T) hl hT (hD.at (i:=j+1) (by omega)) (hD.at (i:=j) (by omega)) c2
        have st:=is_d_1 (xb:=xb) N db n cap (Mm enc H db l T) 0 a b i (j+1) (by omega) (ixs (i:=j+1) (by omega) (by omega)) (S.ld l T (j+1) hl (by omega)) (ixs (i:=j) (by simp only [wrapI64]; omega) (by omega)) (S.ld l T j hl (by omega)) hN hc
        exact ⟨_,l,lpo (st),.refl,sink_end hL hS (.inr c2)⟩
    · exact ⟨_,l,lpo (is_d_2 (xb:=xb) 0 db n cap (Mm enc H db l T) 0 a b i (j+1) (by omega)),.refl,sink_end hL hS (.inl (by omega))⟩
theorem is_out (S:So xb enc lt dom H db n) (hL:Lin lt) {T:Heap} (hT:mxs T=0) {a b:Nat} (hb:b ≤ n):∀ (d i:Nat) (l:List α),i+d=b → a ≤ i → l.length=n → Dm dom l → Sorted lt a i l →
    ∃ l',RT polSo 99 (sub [1,0] B99) (env99 (.sl db 0 n cap n 1) (.int .i64 (a:Int)) (.int .i64 (b:Int)) (.func 69 [] [.ptr xb 0 0 1]) (.int .i64 (i:Int)) Ud) (Mm enc H db l T) (.exit 0) (env99 (.sl db 0 n cap n 1) (.int .i64 (a:Int)) (.int .i64 (b:Int)) (.func 69 [] [.ptr xb 0 0 1]) (.int .i64 (b:Int)) Ud) (Mm enc H db l' T)∧Sw a b l l'∧Sorted lt a b l':=by
  have hn:=S.nb
  intro d
  induction d with
  | zero =>
    intro i l hi ha hl hD hS
    have:i=b:=by omega
    subst this
    exact ⟨l,lpo (sqo (is_b_1 (xb:=xb) 0 db n cap (Mm enc H db l T) 0 a i i (by omega)) (c:=sub [1,0,0] B99) (b:=sub [1,0,0,1] B99)),.refl,hS⟩
  | succ d ih =>
    intro i l hi ha hl hD hS
    obtain ⟨y,l1,r1,q1,q2⟩:=is_in S hL (cap:=cap) hT (a:=a) (b:=b) (i:=i) (by omega) i l hl (Nat.le_refl _) ha hD (sink_start hS)
    have r1':=lpi (e0:=(env99 (.sl db 0 n cap n 1) (.int .i64 (a:Int)) (.int .i64 (b:Int)) (.func 69 [] [.ptr xb 0 0 1]) (.int .i64 (i:Int)) (.int .i64 (i:Int)))) r1 (b:=sub [1,0,0,1,0,0,1,0,0] B99)
    have st:=sq (is_b_0 (xb:=xb) 0 db n cap (Mm enc H db l T) 0 a b i (by omega) (y9:=Ud)) (sq (RunsTo.block_normal (i:=1) (c:=sub [1,0,0,1,0] B99) (sq (is_c_0 (xb:=xb) 0 db n cap (Mm enc H db l T) 0 a b i) (bke (c:=sub [1,0,0,1,0,0,1] B99) (r1')) (c:=sub [1,0,0,1,0,0] B99)) (by kernel_rfl)) (is_e_0 (xb:=xb) 0 db n cap (Mm enc H db l1 T) 0 a b i) (c:=sub [1,0,0,1] B99)) (c:=sub [1,0,0] B99)
    rw [wrap_succ (by omega)] at st
    obtain ⟨l',r,q3,q4⟩:=ih (i+1) l1 (by omega) (by omega) (sw_len q1 hl) (hD.sw q1 (by omega)) q2
    exact ⟨l',lop (st) (gcM _ _ _ _ _ rfl) (r),(q1.mono (Nat.le_refl _) (by omega)).trans q3,q4⟩
theorem ins_ok (S:So xb enc lt dom H db n) (hL:Lin lt) {T:Heap} (hT:mxs T=0) {a b:Nat} (hab:a ≤ b) (hb:b ≤ n) {l:List α} (hl:l.length=n) (hD:Dm dom l) :
    ∃ l',ClS 99 [.sl db 0 n cap n 1,.int .i64 (a:Int),.int .i64 (b:Int),.func 69 [] [.ptr xb 0 0 1]] (Mm enc H db l T) (.tuple []) (Mm enc H db l' T)∧Sw a b l l'∧Sorted lt a b l':=by
  have hn:=S.nb
  have key:∃ i l',RT polSo 99 (sub [1,0] B99) (env99 (.sl db 0 n cap n 1) (.int .i64 (a:Int)) (.int .i64 (b:Int)) (.func 69 [] [.ptr xb 0 0 1]) (.int .i64 ((a+1:Nat):Int)) Ud) (Mm enc H db l T) (.exit 0) (env99 (.sl db 0 n cap n 1) (.int .i64 (a:Int)) (.int .i64 (b:Int)) (.func 69 [] [.ptr xb 0 0 1]) (.int .i64 i) Ud) (Mm enc H db l' T)∧Sw a b l l'∧Sorted lt a b l':=by
    by_cases c:a+1 ≤ b
    · obtain ⟨l',r,q⟩:=is_out S hL (cap:=cap) hT (a:=a) hb (b - (a+1)) (a+1) l (by omega) (by omega) hl hD (fun p q h1 h2 h3=>by omega)
      exact ⟨_,l',r,q⟩
    · exact ⟨_,l,lpo (sqo (is_b_1 (xb:=xb) 0 db n cap (Mm enc H db l T) 0 a b (a+1) (by omega)) (c:=sub [1,0,0] B99) (b:=sub [1,0,0,1] B99)),.refl,fun p q h1 h2 h3=>by omega⟩
  obtain ⟨i,l',r,q⟩:=key
  have s0:=is_a_0 (xb:=xb) 0 db n cap (Mm enc H db l T) 0 a b
  rw [wrap_succ (by omega)] at s0
  have t:=sq (s0) (bke (c:=sub [1] B99) (r)) (c:=B99)
  have hc:=CallsTo.shared (P:=Tp) (pol:=polSo) (g:=99) (fn:=Try.f99) (cd:=B99) (args:=[.sl db 0 n cap n 1,.int .i64 (a:Int),.int .i64 (b:Int),.func 69 [] [.ptr xb 0 0 1]]) (v:=.tuple []) (by kernel_rfl) (by kernel_rfl) (by kernel_rfl) (by kernel_rfl) t (by kernel_rfl) (by simp) (by kernel_rfl)
  rw [gcM _ _ _ _ _ rfl] at hc
  exact ⟨l',hc,q⟩
theorem rvs_loop (S:So xb enc lt dom H db n) {T:Heap} {a b:Nat} (hb:b ≤ n):∀ (d i j:Nat) (l:List α),j+1 - i ≤ d → a ≤ i → j < b → l.length=n →
    ∃ y1 y2 l',RT polSo 103 (sub [1,1,0] B103) (env103 (.sl db 0 n cap n 1) (.int .i64 (a:Int)) (.int .i64 (b:Int)) (.int .i64 (i:Int)) (.int .i64 (j:Int))) (Mm enc H db l T) (.exit 0) (env103 (.sl db 0 n cap n 1) (.int .i64 (a:Int)) (.int .i64 (b:Int)) y1 y2) (Mm enc H db l' T)∧Sw a b l l':=by
  have hn:=S.nb
  intro d
  induction d with
  | zero =>
    intro i j l hd ha hj hl
    exact ⟨_,_,l,lpo (rvs_c_1 0 db n cap (Mm enc H db l T) 0 a b i j (by omega)),.refl⟩
  | succ d ih =>
    intro i j l hd ha hj hl
    by_cases c:i < j
    · obtain ⟨s1,s2⟩:=S.st2 (T:=T) hl (i:=i) (j:=j) (by omega) (by omega)
      have st:=rvs_c_0 0 db n cap (Mm enc H db l T) 0 a b i j (by omega) (ixs (i:=j) rfl (by omega)) (S.ld l T j hl (by omega)) (ixs (i:=i) rfl (by omega)) (S.ld l T i hl (by omega)) (ixs (i:=i) rfl (by omega)) s1 (ixs (i:=j) rfl (by omega)) s2
      rw [wrap_succ (by omega),wrap_pred (by omega) (by omega)] at st
      have sw:Sw a b l (swp l i j):=Sw.one (by omega) (by omega) (by omega) (by omega)
      obtain ⟨y1,y2,l',r,q⟩:=ih (i+1) (j - 1) (swp l i j) (by omega) (by omega) (by omega) (by rw [swp_len]; exact hl)
      exact ⟨y1,y2,l',lop (st) (gcM _ _ _ _ _ rfl) (r),sw.trans q⟩
    · exact ⟨_,_,l,lpo (rvs_c_1 0 db n cap (Mm enc H db l T) 0 a b i j (by omega)),.refl⟩
theorem rvs_ok (S:So xb enc lt dom H db n) {T:Heap} {a b:Nat} (hab:a < b) (hb:b ≤ n) {l:List α} (hl:l.length=n) :
    ∃ l',ClS 103 [.sl db 0 n cap n 1,.int .i64 (a:Int),.int .i64 (b:Int),.func 69 [] [.ptr xb 0 0 1]] (Mm enc H db l T) (.tuple []) (Mm enc H db l' T)∧Sw a b l l':=by
  have hn:=S.nb
  obtain ⟨y1,y2,l',r,q⟩:=rvs_loop S (cap:=cap) (T:=T) (a:=a) hb (b+1) a (b - 1) l (by omega) (Nat.le_refl _) (by omega) hl
  have s0:=rvs_a_0 (xb:=xb) 0 db n cap (Mm enc H db l T) 0 a b
  have s1:=rvs_b_0 0 db n cap (Mm enc H db l T) 0 a b a (y9:=Ud)
  rw [wrap_pred (by omega) (by omega)] at s1
  have t:=sq (s0) (sq (s1) (bke (c:=sub [1,1] B103) (r)) (c:=sub [1] B103)) (c:=B103)
  have hc:=CallsTo.shared (P:=Tp) (pol:=polSo) (g:=103) (fn:=Try.f103) (cd:=B103) (args:=[.sl db 0 n cap n 1,.int .i64 (a:Int),.int .i64 (b:Int),.func 69 [] [.ptr xb 0 0 1]]) (v:=.tuple []) (by kernel_rfl) (by kernel_rfl) (by kernel_rfl) (by kernel_rfl) t (by kernel_rfl) (by simp) (by kernel_rfl)
  rw [gcM _ _ _ _ _ rfl] at hc
  exact ⟨l',hc,q⟩
end
end Go.Proofs.Ytiejmoglooaalaa
end
section
open Go Go.HL Go.HL.So
namespace Go.Proofs.Ytiejmoglooaalaa
set_option linter.unusedSectionVars false
open Go.Proofs.Try renaming prog → Tp
open Go.HL.HV renaming undef → Ud
section
variable {xb:Nat} {α:Type} [Inhabited α] {enc:α → HV} {lt:α → α → Prop} {dom:α → Prop} {H:Heap} {db n:Nat} {cap:Option Nat}
theorem ClS.from {g:FuncId} {args:List HV} {H H':Heap} {r:HV} (h:ClS g args H r H'):∃ N,∀ kf,N ≤ kf → callN Tp polSo (kf+1) g args H=some (r,H'):=CallsTo.from h
set_option maxHeartbeats 4000000 in
theorem sf_loop (S:So xb enc lt dom H db n) (hL:Lin lt) {T:Heap} (hT:mxs T=0) {lo hi fi:Nat} (hfi:fi+hi ≤ n):∀ (d r:Nat) (l:List α),hi - r ≤ d → lo ≤ r → r < hi+1 → l.length=n → Dm dom l → HpX lt fi lo hi r l →
    ∃ x y1 y2 l',RT polSo 109 (sub [1,0] B109) (env109 (.sl db 0 n cap n 1) (.int .i64 (lo:Int)) (.int .i64 (hi:Int)) (.int .i64 (fi:Int)) (.func 69 [] [.ptr xb 0 0 1]) (.int .i64 (r:Int)) Ud) (Mm enc H db l T) x (env109 (.sl db 0 n cap n 1) (.int .i64 (lo:Int)) (.int .i64 (hi:Int)) (.int .i64 (fi:Int)) (.func 69 [] [.ptr xb 0 0 1]) y1 y2) (Mm enc H db l' T)∧(x=.exit 0 ∨ x=.ret)∧Sw fi (fi+hi) l l'∧Hp lt fi lo hi l':=by
  have hn:=S.nb
  intro d
  induction d with
  | zero =>
    intro r l hd hr hr2 hl hD hX
    exact ⟨_,_,_,l,lpo (sf_b_0 (xb:=xb) 0 db n cap (Mm enc H db l T) 0 lo hi fi r (by rw [wrap_id (n:=2 * (r:Int)) (by omega) (by omega),wrap_id (by omega) (by omega)]; omega)),.inl rfl,.refl,hpx_end hL hX (fun c h1 h2=>by omega)⟩
  | succ d ih =>
    intro r l hd hr hr2 hl hD hX
    by_cases c0:hi ≤ 2 * r+1
    · exact ⟨_,_,_,l,lpo (sf_b_0 (xb:=xb) 0 db n cap (Mm enc H db l T) 0 lo hi fi r (by rw [wrap_id (n:=2 * (r:Int)) (by omega) (by omega),wrap_id (by omega) (by omega)]; omega)),.inl rfl,.refl,hpx_end hL hX (fun c h1 h2=>by omega)⟩
    have e0:IntKind.i64.wrap (2 * (r:Int))=((2 * r:Nat):Int):=(by rw [wrap_id (by omega) (by omega)]; omega)
    have e1:IntKind.i64.wrap (IntKind.i64.wrap (2 * (r:Int))+1)=((2 * r+1:Nat):Int):=by rw [e0,wrap_id (by omega) (by omega)]; omega
    have e2:IntKind.i64.wrap (IntKind.i64.wrap (IntKind.i64.wrap (2 * (r:Int))+1)+1)=((2 * r+2:Nat):Int):=by rw [e1,wrap_id (by omega) (by omega)]; omega
    have f0:IntKind.i64.wrap ((fi:Int)+(r:Int))=((fi+r:Nat):Int):=(by rw [wrap_id (by omega) (by omega)]; omega)
    have f1:IntKind.i64.wrap ((fi:Int)+IntKind.i64.wrap (IntKind.i64.wrap (2 * (r:Int))+1))=((fi+(2 * r+1):Nat):Int):=by rw [e1,wrap_id (by omega) (by omega)]; omega
    have f2:IntKind.i64.wrap ((fi:Int)+IntKind.i64.wrap (IntKind.i64.wrap (IntKind.i64.wrap (2 * (r:Int))+1)+1))=((fi+(2 * r+2):Nat):Int):=by rw [e2,wrap_id (by omega) (by omega)]; omega
    have f3:IntKind.i64.wrap (IntKind.i64.wrap ((fi:Int)+IntKind.i64.wrap (IntKind.i64.wrap (2 * (r:Int))+1))+1)=((fi+(2 * r+2):Nat):Int):=by rw [f1,wrap_id (by omega) (by omega)]; omega
    have w1:fi+r < n:=by omega
    have w2:fi+(2 * r+1) < n:=by omega
    have next:∀ c,(c=2 * r+1 ∨ c=2 * r+2) → c < hi → (∀ c',(c'=2 * r+1 ∨ c'=2 * r+2) → c' < hi → ¬ lt (at_ l (fi+c)) (at_ l (fi+c'))) → lt (at_ l (fi+r)) (at_ l (fi+c)) →
        RT polSo 109 (sub [1,0,0] B109) (env109 (.sl db 0 n cap n 1) (.int .i64 (lo:Int)) (.int .i64 (hi:Int)) (.int .i64 (fi:Int)) (.func 69 [] [.ptr xb 0 0 1]) (.int .i64 (r:Int)) Ud) (Mm enc H db l T) .normal (env109 (.sl db 0 n cap n 1) (.int .i64 (lo:Int)) (.int .i64 (hi:Int)) (.int .i64 (fi:Int)) (.func 69 [] [.ptr xb 0 0 1]) (.int .i64 (c:Int)) (.int .i64 (c:Int))) (Mm enc H db (swp l (fi+r) (fi+c)) T) →
        ∃ x y1 y2 l',RT polSo 109 (sub [1,0] B109) (env109 (.sl db 0 n cap n 1) (.int .i64 (lo:Int)) (.int .i64 (hi:Int)) (.int .i64 (fi:Int)) (.func 69 [] [.ptr xb 0 0 1]) (.int .i64 (r:Int)) Ud) (Mm enc H db l T) x (env109 (.sl db 0 n cap n 1) (.int .i64 (lo:Int)) (.int .i64 (hi:Int)) (.int .i64 (fi:Int)) (.func 69 [] [.ptr xb 0 0 1]) y1 y2) (Mm enc H db l' T)∧(x=.exit 0 ∨ x=.ret)∧Sw fi (fi+hi) l l'∧Hp lt fi lo hi l':=by
      intro c h1 h2 h3 h4 st
      have sw:Sw fi (fi+hi) l (swp l (fi+r) (fi+c)):=Sw.one (by omega) (by omega) (by omega) (by omega)
      obtain ⟨x,y1,y2,l',q,q1,q2,q3⟩:=ih c _ (by omega) (by omega) (by omega) (by rw [swp_len]; exact hl) (hD.sw sw (by omega)) (hpx_step hL (by omega) hX hr h1 h2 h3 h4)
      exact ⟨x,y1,y2,l',lop (st) (gcM _ _ _ _ _ rfl) (q),q1,sw.trans q2,q3⟩
    have ld:=fun k (hk:k < hi)=>S.ld l T (fi+k) hl (by omega)
    by_cases c1:2 * r+2 < hi
    · have w3:fi+(2 * r+2) < n:=by omega
      by_cases c2:lt (at_ l (fi+(2 * r+1))) (at_ l (fi+(2 * r+2)))
      · obtain ⟨cc1,N1,hN1,hc1⟩:=S.ct (T:=T) hl hT (hD.at (i:=fi+(2 * r+1)) (by omega)) (hD.at (i:=fi+(2 * r+2)) (by omega)) c2
        by_cases c3:lt (at_ l (fi+r)) (at_ l (fi+(2 * r+2)))
        · obtain ⟨cc2,N2,hN2,hc2⟩:=S.ct (T:=T) hl hT (hD.at (i:=fi+r) (by omega)) (hD.at (i:=fi+(2 * r+2)) (by omega)) c3
          obtain ⟨s1,s2⟩:=S.st2 (T:=T) hl (i:=fi+r) (j:=fi+(2 * r+2)) (by omega) (by omega)
          have st:=sf_b_1 (xb:=xb) (N1+N2) db n cap (Mm enc H db l T) 0 lo hi fi r (by rw [e1]; omega) (by rw [e2]; omega) (ixs f1 w2) (ld _ (by omega)) (ixs f3 w3) (ld _ (by omega)) (fun kf hk=>hN1 kf (by omega)) hc1
            (ixs f0 w1) (ld r (by omega)) (ixs f2 w3) (ld _ (by omega)) (fun kf hk=>hN2 kf (by omega)) hc2 (ixs f2 w3) (ld _ (by omega)) (ixs f0 w1) (ld r (by omega)) (ixs f0 w1) s1 (ixs f2 w3) s2 (y11:=Ud)
          rw [e2] at st
          exact next (2 * r+2) (by omega) (by omega) (fun c' h1 h2=>by
            rcases h1 with rfl | rfl
            · exact hL.asy _ _ c2
            · exact hL.rf _) c3 st
        · obtain ⟨cc2,N2,hN2,hc2⟩:=S.cf (T:=T) hl hT (hD.at (i:=fi+r) (by omega)) (hD.at (i:=fi+(2 * r+2)) (by omega)) c3
          have st:=sf_b_2 (xb:=xb) (N1+N2) db n cap (Mm enc H db l T) 0 lo hi fi r (by rw [e1]; omega) (by rw [e2]; omega) (ixs f1 w2) (ld _ (by omega)) (ixs f3 w3) (ld _ (by omega)) (fun kf hk=>hN1 kf (by omega)) hc1
            (ixs f0 w1) (ld r (by omega)) (ixs f2 w3) (ld _ (by omega)) (fun kf hk=>hN2 kf (by omega)) hc2 (y11:=Ud)
          exact ⟨_,_,_,l,lpo (st),.inr rfl,.refl,hpx_end hL hX fun c' h1 h2=>by
            rcases h1 with rfl | rfl
            · exact hL.tr _ _ _ (hL.asy _ _ c2) c3
            · exact c3⟩
      · obtain ⟨cc1,N1,hN1,hc1⟩:=S.cf (T:=T) hl hT (hD.at (i:=fi+(2 * r+1)) (by omega)) (hD.at (i:=fi+(2 * r+2)) (by omega)) c2
        by_cases c3:lt (at_ l (fi+r)) (at_ l (fi+(2 * r+1)))
        · obtain ⟨cc2,N2,hN2,hc2⟩:=S.ct (T:=T) hl hT (hD.at (i:=fi+r) (by omega)) (hD.at (i:=fi+(2 * r+1)) (by omega)) c3
          obtain ⟨s1,s2⟩:=S.st2 (T:=T) hl (i:=fi+r) (j:=fi+(2 * r+1)) (by omega) (by omega)
          have st:=sf_b_3 (xb:=xb) (N1+N2) db n cap (Mm enc H db l T) 0 lo hi fi r (by rw [e1]; omega) (by rw [e2]; omega) (ixs f1 w2) (ld _ (by omega)) (ixs f3 w3) (ld _ (by omega)) (fun kf hk=>hN1 kf (by omega)) hc1
            (ixs f0 w1) (ld r (by omega)) (ixs f1 w2) (ld _ (by omega)) (fun kf hk=>hN2 kf (by omega)) hc2 (ixs f1 w2) (ld _ (by omega)) (ixs f0 w1) (ld r (by omega)) (ixs f0 w1) s1 (ixs f1 w2) s2 (y11:=Ud)
          rw [e1] at st
          exact next (2 * r+1) (by omega) (by omega) (fun c' h1 h2=>by
            rcases h1 with rfl | rfl
            · exact hL.rf _
            · exact c2) c3 st
        · obtain ⟨cc2,N2,hN2,hc2⟩:=S.cf (T:=T) hl hT (hD.at (i:=fi+r) (by omega)) (hD.at (i:=fi+(2 * r+1)) (by omega)) c3
          have st:=sf_b_4 (xb:=xb) (N1+N2) db n cap (Mm enc H db l T) 0 lo hi fi r (by rw [e1]; omega) (by rw [e2]; omega) (ixs f1 w2) (ld _ (by omega)) (ixs f3 w3) (ld _ (by omega)) (fun kf hk=>hN1 kf (by omega)) hc1
            (ixs f0 w1) (ld r (by omega)) (ixs f1 w2) (ld _ (by omega)) (fun kf hk=>hN2 kf (by omega)) hc2 (y11:=Ud)
          exact ⟨_,_,_,l,lpo (st),.inr rfl,.refl,hpx_end hL hX fun c' h1 h2=>by
            rcases h1 with rfl | rfl
            · exact c3
            · exact hL.tr _ _ _ c2 c3⟩
    · by_cases c3:lt (at_ l (fi+r)) (at_ l (fi+(2 * r+1)))
      · obtain ⟨cc2,N2,hN2,hc2⟩:=S.ct (T:=T) hl hT (hD.at (i:=fi+r) (by omega)) (hD.at (i:=fi+(2 * r+1)) (by omega)) c3
        obtain ⟨s1,s2⟩:=S.st2 (T:=T) hl (i:=fi+r) (j:=fi+(2 * r+1)) (by omega) (by omega)
        have st:=sf_b_5 (xb:=xb) N2 db n cap (Mm enc H db l T) 0 lo hi fi r (by rw [e1]; omega) (by rw [e2]; omega)
            (ixs f0 w1) (ld r (by omega)) (ixs f1 w2) (ld _ (by omega)) (fun kf hk=>hN2 kf (by omega)) hc2 (ixs f1 w2) (ld _ (by omega)) (ixs f0 w1) (ld r (by omega)) (ixs f0 w1) s1 (ixs f1 w2) s2 (y11:=Ud)
        rw [e1] at st
        exact next (2 * r+1) (by omega) (by omega) (fun c' h1 h2=>by
            have:c'=2 * r+1:=by omega
            subst this
            exact hL.rf _) c3 st
      · obtain ⟨cc2,N2,hN2,hc2⟩:=S.cf (T:=T) hl hT (hD.at (i:=fi+r) (by omega)) (hD.at (i:=fi+(2 * r+1)) (by omega)) c3
        have st:=sf_b_6 (xb:=xb) N2 db n cap (Mm enc H db l T) 0 lo hi fi r (by rw [e1]; omega) (by rw [e2]; omega)
            (ixs f0 w1) (ld r (by omega)) (ixs f1 w2) (ld _ (by omega)) (fun kf hk=>hN2 kf (by omega)) hc2 (y11:=Ud)
        exact ⟨_,_,_,l,lpo (st),.inr rfl,.refl,hpx_end hL hX fun c' h1 h2=>by
            have:c'=2 * r+1:=by omega
            subst this
            exact c3⟩
theorem sift_ok (S:So xb enc lt dom H db n) (hL:Lin lt) {T:Heap} (hT:mxs T=0) {lo hi fi:Nat} (hlo:lo ≤ hi) (hfi:fi+hi ≤ n) {l:List α} (hl:l.length=n) (hD:Dm dom l) (hH:Hp lt fi (lo+1) hi l) :
    ∃ l',ClS 109 [.sl db 0 n cap n 1,.int .i64 (lo:Int),.int .i64 (hi:Int),.int .i64 (fi:Int),.func 69 [] [.ptr xb 0 0 1]] (Mm enc H db l T) (.tuple []) (Mm enc H db l' T)∧Sw fi (fi+hi) l l'∧Hp lt fi lo hi l':=by
  obtain ⟨x,y1,y2,l',r,q1,q2⟩:=sf_loop S hL (cap:=cap) hT hfi (hi+1) lo l (by omega) (Nat.le_refl _) (by omega) hl hD (hpx_start hH)
  have s0:=sf_a_0 (xb:=xb) 0 db n cap (Mm enc H db l T) 0 lo hi fi
  rcases q1 with rfl | rfl
  · have t:=sq (s0) (bke (c:=sub [1] B109) (r)) (c:=B109)
    have hc:=CallsTo.shared (P:=Tp) (pol:=polSo) (g:=109) (fn:=Try.f109) (cd:=B109) (args:=[.sl db 0 n cap n 1,.int .i64 (lo:Int),.int .i64 (hi:Int),.int .i64 (fi:Int),.func 69 [] [.ptr xb 0 0 1]]) (v:=.tuple []) (by kernel_rfl) (by kernel_rfl) (by kernel_rfl) (by kernel_rfl) t (by kernel_rfl) (by simp) (by kernel_rfl)
    rw [gcM _ _ _ _ _ rfl] at hc
    exact ⟨l',hc,q2⟩
  · have t:=sq (s0) (RunsTo.block_ret (i:=0) (c:=sub [1] B109) (r) (by kernel_rfl)) (c:=B109)
    have hc:=CallsTo.shared (P:=Tp) (pol:=polSo) (g:=109) (fn:=Try.f109) (cd:=B109) (args:=[.sl db 0 n cap n 1,.int .i64 (lo:Int),.int .i64 (hi:Int),.int .i64 (fi:Int),.func 69 [] [.ptr xb 0 0 1]]) (v:=.tuple []) (by kernel_rfl) (by kernel_rfl) (by kernel_rfl) (by kernel_rfl) t (by kernel_rfl) (by simp) (by kernel_rfl)
    rw [gcM _ _ _ _ _ rfl] at hc
    exact ⟨l',hc,q2⟩
theorem hs_build (S:So xb enc lt dom H db n) (hL:Lin lt) {T:Heap} (hT:mxs T=0) {a b hi:Nat} (hhi:a+hi ≤ n):∀ (k:Nat) (l:List α),k ≤ hi → l.length=n → Dm dom l → Hp lt a k hi l →
    ∃ l',RT polSo 100 (sub [1,1,1,0,1,0] B100) (env100 (.sl db 0 n cap n 1) (.int .i64 (a:Int)) (.int .i64 (b:Int)) (.func 69 [] [.ptr xb 0 0 1]) (.int .i64 (a:Int)) (.int .i64 0) (.int .i64 (hi:Int)) (.int .i64 ((k:Int) - 1)) Ud) (Mm enc H db l T) (.exit 0) (env100 (.sl db 0 n cap n 1) (.int .i64 (a:Int)) (.int .i64 (b:Int)) (.func 69 [] [.ptr xb 0 0 1]) (.int .i64 (a:Int)) (.int .i64 0) (.int .i64 (hi:Int)) (.int .i64 (-1)) Ud) (Mm enc H db l' T)∧Sw a (a+hi) l l'∧Hp lt a 0 hi l':=by
  have hn:=S.nb
  intro k
  induction k with
  | zero =>
    intro l hk hl hD hH
    exact ⟨l,lpo (hs_e_1 (xb:=xb) 0 db n cap (Mm enc H db l T) 0 a b a hi (((0:Nat):Int) - 1) (by omega)),.refl,hH⟩
  | succ k ih =>
    intro l hk hl hD hH
    obtain ⟨l1,hc,q1,q2⟩:=sift_ok S hL (cap:=cap) hT (lo:=k) (by omega) hhi hl hD hH
    obtain ⟨N,hN⟩:=hc.from
    have st:=hs_e_0 (xb:=xb) N db n cap (Mm enc H db l T) 0 a b a hi (k:Int) (y12:=Ud) (by omega) hN
    rw [show IntKind.i64.wrap ((k:Int) - 1)=(k:Int) - 1 by simp only [wrapI64]; omega] at st
    obtain ⟨l',r,q3,q4⟩:=ih l1 (by omega) (sw_len q1 hl) (hD.sw q1 (by omega)) q2
    rw [show ((k+1:Nat):Int) - 1=(k:Int) by omega]
    exact ⟨l',lop (st) (gcM _ _ _ _ _ rfl) (r),q1.trans q3,q4⟩
theorem hs_take (S:So xb enc lt dom H db n) (hL:Lin lt) {T:Heap} (hT:mxs T=0) {a b hi:Nat} (hhi:a+hi ≤ n):∀ (k:Nat) (l:List α),k ≤ hi → l.length=n → Dm dom l → HsInv lt a hi k l →
    ∃ l',RT polSo 100 (sub [1,1,1,1,1,0] B100) (env100 (.sl db 0 n cap n 1) (.int .i64 (a:Int)) (.int .i64 (b:Int)) (.func 69 [] [.ptr xb 0 0 1]) (.int .i64 (a:Int)) (.int .i64 0) Ud Ud (.int .i64 ((k:Int) - 1))) (Mm enc H db l T) (.exit 2) (env100 (.sl db 0 n cap n 1) (.int .i64 (a:Int)) (.int .i64 (b:Int)) (.func 69 [] [.ptr xb 0 0 1]) (.int .i64 (a:Int)) (.int .i64 0) Ud Ud (.int .i64 (-1))) (Mm enc H db l' T)∧Sw a (a+hi) l l'∧HsInv lt a hi 0 l':=by
  have hn:=S.nb
  intro k
  induction k with
  | zero =>
    intro l hk hl hD hH
    exact ⟨l,lpo (hs_g_1 (xb:=xb) 0 db n cap (Mm enc H db l T) 0 a b a (((0:Nat):Int) - 1) (by omega)),.refl,hH⟩
  | succ k ih =>
    intro l hk hl hD hH
    obtain ⟨p1,p2,p3⟩:=hs_swap hL (by omega) (by omega) hH
    have sw:Sw a (a+hi) l (swp l a (a+k)):=Sw.one (by omega) (by omega) (by omega) (by omega)
    have hl1:=sw_len sw hl
    obtain ⟨l1,hc,q1,q2⟩:=sift_ok S hL (cap:=cap) hT (lo:=0) (hi:=k) (fi:=a) (Nat.zero_le _) (by omega) hl1 (hD.sw sw (by omega)) p1
    obtain ⟨N,hN⟩:=hc.from
    obtain ⟨s1,s2⟩:=S.st2 (T:=T) hl (i:=a) (j:=a+k) (by omega) (by omega)
    have st:=hs_g_0 (xb:=xb) N db n cap (Mm enc H db l T) 0 a b a (k:Int) (y10:=Ud) (y11:=Ud) (by omega) (ixs (i:=a+k) (by simp only [wrapI64]; omega) (by omega)) (S.ld l T _ hl (by omega)) (ixs (i:=a) rfl (by omega)) (S.ld l T _ hl (by omega)) (ixs (i:=a) rfl (by omega)) s1 (ixs (i:=a+k) (by simp only [wrapI64]; omega) (by omega)) s2 hN
    rw [show IntKind.i64.wrap ((k:Int) - 1)=(k:Int) - 1 by simp only [wrapI64]; omega] at st
    have sw2:Sw a (a+hi) l l1:=sw.trans (q1.mono (Nat.le_refl _) (by omega))
    have hI:HsInv lt a hi k l1:=by
      refine ⟨q2,fun p q h1 h2 h3=>?_,fun p q h1 h2 h3=>?_⟩
      · rw [q1.out (by rw [hl1]; omega) (k:=a+p) (by omega),q1.out (by rw [hl1]; omega) (k:=a+q) (by omega)]
        exact p2 p q h1 h2 h3
      · rw [q1.out (by rw [hl1]; omega) (k:=a+q) (by omega)]
        have:=q1.all (by rw [hl1]; omega) (Q:=fun x=>¬ lt (at_ (swp l a (a+k)) (a+q)) x) (lo:=a) (hi:=a+k) (Nat.le_refl _) (Nat.le_refl _) (fun i h4 h5=>by
          obtain ⟨m,rfl⟩:∃ m,i=a+m:=⟨i - a,by omega⟩
          exact p3 m q (by omega) h2 h3)
        exact this (a+p) (by omega) (by omega)
    obtain ⟨l',r,q3,q4⟩:=ih l1 (by omega) (sw_len sw2 hl) (hD.sw sw2 (by omega)) hI
    rw [show ((k+1:Nat):Int) - 1=(k:Int) by omega]
    exact ⟨l',lop (st) (gcM _ _ _ _ _ rfl) (r),sw2.trans q3,q4⟩
theorem heap_ok (S:So xb enc lt dom H db n) (hL:Lin lt) {T:Heap} (hT:mxs T=0) {a b:Nat} (hab:a < b) (hb:b ≤ n) {l:List α} (hl:l.length=n) (hD:Dm dom l) :
    ∃ l',ClS 100 [.sl db 0 n cap n 1,.int .i64 (a:Int),.int .i64 (b:Int),.func 69 [] [.ptr xb 0 0 1]] (Mm enc H db l T) (.tuple []) (Mm enc H db l' T)∧Sw a b l l'∧Sorted lt a b l':=by
  have hn:=S.nb
  obtain ⟨hi,rfl⟩:∃ hi,b=a+hi:=⟨b - a,by omega⟩
  have h0:Hp lt a ((hi - 1) / 2+1) hi l:=fun k c h1 h2 h3=>by omega
  obtain ⟨l1,r1,q1,q2⟩:=hs_build S hL (cap:=cap) hT (b:=a+hi) (by omega) ((hi - 1) / 2+1) l (by omega) hl hD h0
  have hl1:=sw_len q1 hl
  obtain ⟨l2,r2,q3,q4⟩:=hs_take S hL (cap:=cap) hT (b:=a+hi) (by omega) hi l1 (Nat.le_refl _) hl1 (hD.sw q1 (by omega)) ⟨q2,fun p q h1 h2 h3=>by omega,fun p q h1 h2 h3=>by omega⟩
  have s0:=hs_a_0 (xb:=xb) 0 db n cap (Mm enc H db l T) 0 a (a+hi)
  have s1:=hs_b_0 (xb:=xb) 0 db n cap (Mm enc H db l T) 0 a (a+hi) a (y9:=Ud) (y10:=Ud) (y11:=Ud) (y12:=Ud)
  have s2:=hs_c_0 (xb:=xb) 0 db n cap (Mm enc H db l T) 0 a (a+hi) a (y10:=Ud) (y11:=Ud) (y12:=Ud)
  rw [show IntKind.i64.wrap (((a+hi:Nat):Int) - (a:Int))=(hi:Int) by simp only [wrapI64]; omega] at s2
  have s3:=hs_d_0 (xb:=xb) 0 db n cap (Mm enc H db l T) 0 a (a+hi) a hi (y11:=Ud) (y12:=Ud)
  rw [show IntKind.i64.wrap ((IntKind.i64.wrap ((hi:Int) - 1):Int).tdiv 2)=(((hi - 1) / 2+1:Nat):Int) - 1 by
    rw [show IntKind.i64.wrap ((hi:Int) - 1)=((hi - 1:Nat):Int) by simp only [wrapI64]; omega,Int.tdiv_eq_ediv_of_nonneg (by omega)]
    simp only [wrapI64]; omega] at s3
  have r1':=lpi (e0:=(env100 (.sl db 0 n cap n 1) (.int .i64 (a:Int)) (.int .i64 ((a+hi:Nat):Int)) (.func 69 [] [.ptr xb 0 0 1]) (.int .i64 (a:Int)) (.int .i64 0) (.int .i64 (hi:Int)) (.int .i64 ((((hi - 1) / 2+1:Nat):Int) - 1)) Ud)) r1 (b:=sub [1,1,1,0,1,0,0] B100)
  have s4:=hs_f_0 (xb:=xb) 0 db n cap (Mm enc H db l1 T) 0 a (a+hi) a hi (y11:=.int .i64 (-1)) (y12:=Ud)
  rw [show IntKind.i64.wrap ((hi:Int) - 1)=(hi:Int) - 1 by simp only [wrapI64]; omega] at s4
  have r2':=lpi (e0:=(env100 (.sl db 0 n cap n 1) (.int .i64 (a:Int)) (.int .i64 ((a+hi:Nat):Int)) (.func 69 [] [.ptr xb 0 0 1]) (.int .i64 (a:Int)) (.int .i64 0) (.int .i64 (hi:Int)) (.int .i64 (-1)) (.int .i64 ((hi:Int) - 1)))) r2 (b:=sub [1,1,1,1,1,0,0] B100)
  have t:=sq (s0) (sq (s1) (sq (s2) (sq (sq (s3) (bke (c:=sub [1,1,1,0,1] B100) (r1')) (c:=sub [1,1,1,0] B100)) (sq (s4) (bke (c:=sub [1,1,1,1,1] B100) (r2')) (c:=sub [1,1,1,1] B100)) (c:=sub [1,1,1] B100)) (c:=sub [1,1] B100)) (c:=sub [1] B100)) (c:=B100)
  have hc:=CallsTo.shared (P:=Tp) (pol:=polSo) (g:=100) (fn:=Try.f100) (cd:=B100) (args:=[.sl db 0 n cap n 1,.int .i64 (a:Int),.int .i64 ((a+hi:Nat):Int),.func 69 [] [.ptr xb 0 0 1]]) (v:=.tuple []) (by kernel_rfl) (by kernel_rfl) (by kernel_rfl) (by kernel_rfl) t (by kernel_rfl) (by simp) (by kernel_rfl)
  rw [gcM _ _ _ _ _ rfl] at hc
  refine ⟨l2,hc,q1.trans q3,fun i j h1 h2 h3=>?_⟩
  have:=q4.2.1 (i - a) (j - a) (Nat.zero_le _) (by omega) (by omega)
  rwa [show a+(i - a)=i by omega,show a+(j - a)=j by omega] at this
end
end Go.Proofs.Ytiejmoglooaalaa
end
