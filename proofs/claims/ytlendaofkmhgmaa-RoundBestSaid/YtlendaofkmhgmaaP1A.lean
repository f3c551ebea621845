/- A part of the proof. -/
import Derived.Test.YtlendaofkmhgmaaHlA
import Derived.Test.YtlendaofkmhgmaaHlB
import Derived.Test.YtlendaofkmhgmaaHlC
import Derived.Test.YtlendaofkmhgmaaHlD
import Derived.Test.YtlendaofkmhgmaaHlE
import Derived.Test.YtlendaofkmhgmaaHlF
import Derived.Test.YtlendaofkmhgmaaHlG
import Derived.ProofKit
import Derived.Test.YtlendaofkmhgmaaProg
import Derived.Shelf.SlIterI.Sorted
import Derived.RangeFuncBox
import Derived.RangeFuncLeaves
import Derived.Shelf.Abstract
import Derived.WalkKit
import Derived.OwnWalkIn
import Derived.TacticsInMore
import Derived.LoopNIn
import Derived.LoopIn
import Derived.Shelf.Sort.Plain
import Derived.Shelf.Slices.In.SortNone
import Derived.Deep.Slices
import Derived.OpenShut
set_option linter.unusedVariables false
set_option linter.unusedSimpArgs false
set_option linter.unnecessarySimpa false
namespace Go.HL
abbrev HV.i (n:Int):HV:=.int .i64 n
abbrev HV.a (l:List HV):HV:=.imm .arg 1 l
abbrev HV.s (b n:Nat):HV:=.sl b 0 n none n 1
abbrev HV.c (b n:Nat) (cap:Option Nat):HV:=.sl b 0 n cap n 1
abbrev HV.o (b n:Nat):HV:=.sl b 0 n (some n) n 1
abbrev HV.g (l:List HV):HV:=.imm .arg 3 l
abbrev HV.N (n:Int) (l:List HV):HV:=.agg [.int .i64 n,.imm .arg 3 l]
abbrev HV.q (b:Nat):HV:=.ptr b 0 0 1
abbrev HV.n (n:Nat):HV:=.int .i64 (n:Int)
def pb:Nat → Nat → List Nat → List Nat
  | 0,_,a=>a
  | k+1,n,a=>if n < 2 then a else pb k (n / 2) (n % 2 :: a)
abbrev sn (n:Nat) (c:Code):Code:=sub (pb 60 n []) c
abbrev Blk.b (l:List HV):Blk:=.arr 1 l true 0
section
variable {P:Program} {pol:Pol} {f:FuncId} {c:Code} {e E:Env} {H H':Heap} {x:X} {K:List Nat}
theorem RunsTo.hin (d n:Nat) (hs:List Hint) (h:∀ k,d ≤ k → ∃ ob,hview K (evCH P pol (callN P pol (k+1)) n f c e H hs)=some (x,E,H',ob)∧Obls ob):RunsTo P pol f c e H x K E H':=RunsTo.hint (d+1) n hs fun k hk=>by
  obtain ⟨k,rfl⟩:∃ n,k=n+1:=⟨k - 1,by omega⟩
  exact h k (by omega)
theorem oC {p:Prop} {os:List Prop} (h:p) (t:Obls os):Obls (p :: os):=Obls.cons h t
theorem oP (H:Heap) {r:Option HV} {v:HV} {os:List Prop} (h:r=some v) (t:Obls os):Obls ((r.map (fun v=>(v,H))=some (v,H)) :: os):=Obls.cons (hintOp h) t
theorem oS {r:Option Heap} {H:Heap} {os:List Prop} (h:r=some H) (t:Obls os):Obls ((r.map (fun H=>(HV.tuple [],H))=some (.tuple [],H)) :: os):=Obls.cons (hintSt h) t
theorem oB (H:Heap) {p b:Bool} {os:List Prop} (h:p=b) (t:Obls os):Obls ((some (HV.bool p,H)=some (HV.bool b,H)) :: os):=Obls.cons (hintB h) t
/-- A hint with what is to be shown for it. -/
structure HO (d:Nat) where
  h:Option Hint
  p:Nat → Prop
  q:∀ k,d ≤ k → p k
variable {d:Nat}
def jO (rg i:Nat) (H:Heap) {r:Option HV} {v:HV} (g:r=some v):HO d:=⟨some ⟨rg,i,v,H⟩,fun _=>r.map (fun v=>(v,H))=some (v,H),fun _ _=>hintOp g⟩
def jB (rg i:Nat) (H:Heap) {p b:Bool} (g:p=b):HO d:=⟨some ⟨rg,i,.bool b,H⟩,fun _=>some (HV.bool p,H)=some (HV.bool b,H),fun _ _=>hintB g⟩
def jT (rg i:Nat) (H:Heap) {p:Prop} [Decidable p] (g:p):HO d:=jB rg i H (decide_eq_true g)
def jF (rg i:Nat) (H:Heap) {p:Prop} [Decidable p] (g:¬ p):HO d:=jB rg i H (decide_eq_false g)
def jS (rg i:Nat) {r:Option Heap} {H:Heap} (g:r=some H):HO d:=⟨some ⟨rg,i,.tuple [],H⟩,fun _=>r.map (fun H=>(HV.tuple [],H))=some (.tuple [],H),fun _ _=>hintSt g⟩
def jC (rg i:Nat) {r:Nat → Option (HV × Heap)} {v:HV} {H:Heap} (g:∀ k,d ≤ k → r k=some (v,H)):HO d:=⟨some ⟨rg,i,v,H⟩,fun k=>r k=some (v,H),g⟩
def jD (rg i:Nat) {r:Nat → Option (HV × Heap)} {v:HV} {H:Heap} (g:∀ k,r k=some (v,H)):HO d:=⟨some ⟨rg,i,v,H⟩,fun k=>r k=some (v,H),fun k _=>g k⟩
def jR (rg i:Nat) {r:Option (HV × Heap)} {v:HV} {H:Heap} (g:r=some (v,H)):HO d:=⟨some ⟨rg,i,v,H⟩,fun _=>r=some (v,H),fun _ _=>g⟩
def jL {p:Nat → Prop} (g:∀ k,p k):HO d:=⟨none,p,fun k _=>g k⟩
def jM {p:Nat → Prop} (g:∀ k,d ≤ k → p k):HO d:=⟨none,p,g⟩
def jK {p:Prop} (g:p):HO d:=⟨none,fun _=>p,fun _ _=>g⟩
theorem HO.all (k:Nat) (hk:d ≤ k):∀ L:List (HO d),Obls (L.map fun o=>o.p k)
  | []=>Obls.nil
  | o :: L=>Obls.cons (o.q k hk) (HO.all k hk L)
theorem hx (d n:Nat) (L:List (HO d)) (h:∀ k,d ≤ k → hview K (evCH P pol (callN P pol (k+1)) n f c e H (L.filterMap fun o=>o.h))=some (x,E,H',L.map fun o=>o.p k):=by intro _ _; kernel_rfl):RunsTo P pol f c e H x K E H':=RunsTo.hin d n _ fun k hk=>⟨_,h k hk,HO.all k hk L⟩
end
end Go.HL
namespace Go.HL
theorem sq {P:Program} {pol:Pol} {f:FuncId} {a b c:Code} {e E1 E:Env} {H H1 H':Heap} {x:X} {K K1:List Nat} (h1:RunsTo P pol f a e H .normal K1 E1 H1) (h2:RunsTo P pol f b E1 H1 x K E H') (hc:c=.seq a b:=by kernel_rfl) (hK:K1=pol.keys f ++ headTmp b:=by kernel_rfl):RunsTo P pol f c e H x K E H':=RunsTo.seq h1 h2 hc hK
theorem sqo {P:Program} {pol:Pol} {f:FuncId} {a b c:Code} {e E:Env} {H H':Heap} {x:X} {K:List Nat} (h1:RunsTo P pol f a e H x K E H') (hx:x ≠ .normal:=by simp) (hc:c=.seq a b:=by kernel_rfl):RunsTo P pol f c e H x K E H':=RunsTo.seq_out h1 hx hc
theorem lpo {P:Program} {pol:Pol} {f:FuncId} {b c:Code} {e E:Env} {H H':Heap} {x:X} {K:List Nat} (h1:RunsTo P pol f b e H x K E H') (hx:x ≠ .normal:=by simp) (hc:c=.loop b:=by kernel_rfl) (he:lrestr pol f b e=e:=by kernel_rfl):RunsTo P pol f c e H x K E H':=RunsTo.loop_out h1 hx hc he
theorem lpi {P:Program} {pol:Pol} {f:FuncId} {b c:Code} {e0 e E:Env} {H H':Heap} {x:X} {K:List Nat} (h:RunsTo P pol f c e H x K E H') (hc:c=.loop b:=by kernel_rfl) (h0:lrestr pol f b e0=e:=by kernel_rfl) (he:lrestr pol f b e=e:=by kernel_rfl):RunsTo P pol f c e0 H x K E H':=RunsTo.loop_in h hc h0 he
theorem bke {P:Program} {pol:Pol} {f:FuncId} {b c:Code} {e E:Env} {H H':Heap} {K:List Nat} {i:Nat} (h:RunsTo P pol f b e H (.exit i) K E H') (hc:c=.block i b:=by kernel_rfl):RunsTo P pol f c e H .normal K E H':=RunsTo.block_exit h hc
theorem lop {P:Program} {pol:Pol} {f:FuncId} {b c:Code} {e E0 E1 E:Env} {H H1 H2 H':Heap} {x:X} {K K1:List Nat} (h1:RunsTo P pol f b e H .normal K1 E0 H1) (hg:gc H.length (bndE E1) H1=H2) (h2:RunsTo P pol f c E1 H2 x K E H') (hE:lrestr pol f b E0=E1:=by kernel_rfl) (hK:K1=pol.keys f:=by rfl) (hc:c=.loop b:=by kernel_rfl) (he:lrestr pol f b e=e:=by kernel_rfl):RunsTo P pol f c e H x K E H':=RunsTo.loop h1 hE hg h2 hK hc he
end Go.HL
section
open Go Go.HL
namespace Go.Proofs.Ytlendaofkmhgmaa
abbrev LD (H:Heap) (t:TypeId) (a v:HV):Prop:=loadV Try.prog H t a=some v
abbrev ST (H:Heap) (t:TypeId) (a v:HV) (H':Heap):Prop:=storeV Try.prog H t a v=some H'
abbrev IX (t:TypeId) (x i v:HV):Prop:=idxV Try.prog t x i=some v
abbrev IO (t:TypeId) (b n i:Nat):Prop:=idxV Try.prog t (.sl b 0 n (some n) n 1) (.int .i64 (i:Int))=some (.ptr b i 0 n)
abbrev IS (t:TypeId) (b n i:Nat):Prop:=idxV Try.prog t (.sl b 0 n none n 1) (.int .i64 (i:Int))=some (.ptr b i 0 n)
abbrev BV (o:BinOp) (t:TypeId) (x y v:HV):Prop:=binV Try.prog o t x y=some v
abbrev RT (pol:Pol) (f:FuncId) (c:Code) (e:Env) (H:Heap) (x:X) (E:Env) (H':Heap):Prop:=RunsTo Try.prog pol f c e H x (pol.keys f) E H'
end Go.Proofs.Ytlendaofkmhgmaa
end
section
open Go Go.HL
namespace Go.Proofs.Ytlendaofkmhgmaa
set_option linter.unusedSectionVars false
open Go.Proofs.Try renaming prog → Tp
open Go.HL.HV renaming undef → Ud
def keysT:List (List Nat):=[[],[],[],[0,1,4,5,6,7,8],[0,1,3,4,5,6,7,8,9,10,11,12,13,14,15],[0,2,3,4,5,6,7,8,9],[0,1,4,5,6,7,8,9,10],[0,1,4,5,6,7,8,9,10,11,12,13,14,15,16,17],[0,1,2,5,6,7,8,9,10,11,12,13,14,15,16,17,18,19,20,21,22,23,24,25,26,27,28,29,30,31],[0,1,2,6,7,8,9,10,11,12,13,14,15,16,17,18,19,20,21,22,23,24,25,26],[0,1,4,5,6,7,8,9,10],[0,1,2,5,6,7,8,9,10,11,12,13,14,15,16,17,18,19,20,21,22,23,24,25,26],[0,1,4,5,6,7,8,9,10,12,13,14,15,17,18,19,20,21,23,24],[0,2,3,4,5,6,7,8,9,10,11],[0,1,3,4,5,6,7,8,10,11,13,14,15,16,17,18,20,21,22,23,24,25,26,27,28],[0,2,3,4],[0,2,3],[0,1,4,5,6,7],[0,2,3,4,5,6],[0,1,4,5],[0,1,2,3,4,5,6,7,8,9,10,11,12],[0,1,4,5,6,7,8,9],[0,2,3,4,5,6,7,13,14,18,19,23,24],[0,1,2,3,5,6,7,8,9,10,11,12,13,14,15,16,17,43,44,47,48,52,53,97,98],[0,2,3,4,5,6,7],[0,1,2,6,7,8,9,10,11,12,13,14],[0,1,4,5],[0,1,4],[0,1,2,6,7,8,9,10,11,12,13],[0,2,3,4,5,6,7,8,9,10,29,30],[0,1,2,3,8,9,10,11,12,13,14],[0,1,4,5,6,7,8,9,10,11,12,42,43,46,47],[0,1,4,5,6,7,8,9,10,11,12,13,14,15,16,17],[0,1,4,5,6,7,8],[0,1,4,5],[0,1,4,5,6,7],[0,1,4,5,6],[0,1,4,5,6,7],[0,1,4,5],[0,1,2,6,7,8],[0,2,3,4,5,6,7,8,9,10,11,12,13],[0,2,3,4,5,6,7,24,25],[0,2,3,4,6,7,8,17,18,19],[0,2,3,4,5,6,7,8],[0,2,3,4],[0,2,3,4,5,6,7,8],[0,2,4,5,6,7,8,13,14,15,29,30,31,36,37,38],[0,1,4],[0,2],[0,1,2,6],[0,1,3,4,5,6,7,9,10,11,13,15,21,22,23,41,42,43,64,65],[0,1,4,5,6,7,8],[0,2],[0,1,2,3,4,5,6,7,9,10,26,27],[0,1,2,3,8,9,10,11,12,13,14],[0,1,2,5,6,8,9,10,11,31,32],[0,1,4,5,6,7,8,9,10],[0,1,4,5,6,18,19,20],[0,1,4,5,6,7,8,9],[0,1,4,5,6,7],[0,1,4],[0,1,2,5,6,7,8,9,11,12,13,14,19,20,31,32,33,55,56],[0,1,2,3,6,16,17,18],[0,2,3],[0,1,2],[0,1,4,5,6,7,8,9,10,11],[0,1,2,6,7,8,9,10,11,12],[0,1,2,6,7,8,9,10,11,12],[0,2],[0,1,4,5,7,8],[0,1,2,5,6,7,8,9,11,12],[0,2,3],[0,1,4,5,7,8],[0,2],[0,2],[0,1,4,5,6,7],[0,1,4],[0,1,2,3,4],[0,2,4,5,6,7],[0,1,4,5,6],[0,1,2,4],[0,1,2,3,8,9,10,11,12,13,14,15,16,17,18],[0,2],[0,1,2,3,4,10,11,12,13,14,15,16,17,18,19,20],[0,2],[0,1,2,6,7],[0,1,2,6,7,8,9,10],[0,1,2,6,7,8,9,10],[0,1,2,6,7,8,9,10,11,12,49],[0,1,2,6,7],[0,1,2,6,7,8,9,10],[0,1,4],[0,1,2,3,8,9,10],[0,1,2,3,8,9,10,11],[0,2],[0,2],[0,1,2,3,8,9],[0,1,2,3,8,9,10,11,12],[0,1,2,8,9,10,11,12],[0,1,2,3,8,9,10,11,12,13,14,55],[0,1,2,8,9],[0,1,2,3,8,9,10,11,12],[0,1,2,3,4,10,11,12],[0,1,2,3,4,10,11,12,13],[0,1,2,3,8,9],[0,2],[0,2],[0,1,2,6],[0,1,2,3,4,10],[0,1,2,3,4,10,11],[0,1,2,3,8],[0,1,2,3,4,5,12],[0,1,2,3,8,9],[0,1,2,3,4,10,11],[],[],[],[],[],[],[],[],[],[],[],[],[],[],[],[]]
def resT:List (List Nat):=[[],[],[],[4],[4],[2],[4],[4],[6],[6],[4],[6],[4],[2],[4],[2],[2],[4,5],[2],[4],[0],[4],[3,4],[6,7,8],[3],[6,7],[4],[4],[6],[2,3,4],[8,9],[4,5,6],[4,5],[4],[4,5],[4,5],[4],[4],[4],[6],[2],[2,3],[2,3],[2],[2],[2],[2],[4],[2],[6],[4],[4],[2],[7],[8],[6],[4],[4],[4,5],[4],[4],[6],[],[2],[2],[4],[6],[6],[2],[4],[6],[],[4],[2],[],[],[],[4],[2],[4],[4],[],[2],[],[2],[],[],[],[6,7],[],[6],[4],[8],[8,9],[2],[2],[],[],[],[8,9],[],[8],[10],[10,11],[],[2],[2],[6],[10],[],[8],[12],[8,9],[10,11],[],[],[],[],[],[],[],[],[],[],[],[],[],[],[],[]]
def sharedT:List Nat:=[30,38,47,53,55,58,62,63,69,71,73,74,75,76,80,81,83,85,86,87,88,89,90,92,93,96,97,98,99,100,101,102,103,104,106,107,108,109,110,111,112,113,122,123,124,125,126,127,128]
def deadT:List (Nat × Nat × List Nat):=[(8,6,[5,13,14,15,16,17,18,19,20,21,22,23,24,25,26,27,28,29,30,31]),(9,6,[12,13,14,15,16,17,18,19,20,21,22,23,24,25,26]),(12,11,[10,13,15,20,21,23,24]),(12,14,[10,13,15,21,23,24]),(12,21,[8,9,10,12,13,14,15,17,18,19,20,21,23]),(14,5,[10,11,13,14,15,16,17,18,20,21,22,23,24,25,26,27,28]),(14,19,[3,7,8,10,11,13,14,15,16,17,18,20,21,26]),(18,5,[5,6]),(18,10,[4,6]),(18,13,[4]),(21,9,[9]),(21,13,[7,8]),(22,4,[5,6,7,18,19,23,24]),(22,7,[6,7,23,24]),(22,10,[7]),(23,5,[10,11,12,13,14,15,16,17,47,48,52,53,97,98]),(23,7,[10,11,12,13,14,15,16,17,52,53,97,98]),(23,10,[11,12,13,14,15,16,17,97,98]),(23,21,[10,11,12,16,17,43,44,47,48,52,53,97,98]),(23,23,[10,11,12,16,17,43,44,47,48,52,53]),(24,3,[6,7]),(24,6,[7]),(25,6,[14]),(28,3,[9,10,11,12,13]),(28,7,[8,10,11,12,13]),(28,10,[8,11,12,13]),(29,6,[8,9,10,29,30]),(29,9,[9,10]),(30,8,[11,13,14]),(30,12,[11]),(31,8,[11,12,46,47]),(31,10,[11,12]),(32,5,[11,12,13,14,15,16,17]),(32,10,[14,15,16,17]),(32,14,[7,13,15,16,17]),(33,3,[7,8]),(38,1,[5]),(40,5,[7,8,9,10,11,12,13]),(40,8,[8,9,10,11,12,13]),(40,14,[10,11,12,13]),(40,21,[4,6,7,8,9,13]),(40,23,[4,6,7,8,9]),(41,4,[5,6,7,24,25]),(41,7,[7]),(42,5,[6,7,8]),(43,5,[6,7,8]),(45,4,[6,7,8]),(45,7,[7,8]),(45,10,[8]),(46,4,[4,5,6,7,8,29,30,31,36,37,38]),(46,10,[4,5,6,7,8,13,14,15,36,37,38]),(46,13,[4,6,7,8,13,14,15]),(50,4,[9,10,11,13,15,41,42,43,64,65]),(50,13,[6,7,9,13,15,21,22,23,64,65]),(50,20,[3,6,7,9,13,15,21,22,23,41,42,43]),(53,7,[9,10]),(54,4,[12,13,14]),(54,9,[11,13,14]),(54,12,[11,14]),(54,15,[11]),(55,7,[8,10,11]),(56,3,[6,7]),(57,4,[5,6]),(58,3,[8,9]),(58,6,[9]),(59,2,[6,7]),(59,5,[7]),(61,3,[8,9,11,12,13,14,31,32,33,55,56]),(61,9,[5,8,11,12,13,14,19,20,55,56]),(61,15,[5,8,11,14,19,20]),(62,2,[6]),(65,3,[7,8,9,10,11]),(65,8,[6,9,10,11]),(65,14,[6]),(66,3,[9,10,11,12]),(66,6,[10,11,12]),(66,10,[12]),(67,3,[9,10,11,12]),(67,7,[12]),(67,11,[11]),(69,2,[5]),(70,3,[8,9]),(72,2,[5]),(75,1,[4]),(78,2,[4]),(81,2,[10,11,12,13,14,15,16,17,18]),(83,2,[12,13,14,15,16,17,18,19,20]),(85,1,[7]),(86,4,[10]),(86,8,[8,9]),(87,5,[10]),(90,3,[9,10]),(90,5,[9,10]),(90,14,[10]),(90,20,[9]),(96,1,[9]),(97,4,[12]),(97,8,[10,11]),(98,5,[12]),(101,3,[11,12]),(101,5,[11,12]),(101,14,[12]),(101,20,[11]),(104,1,[9]),(109,1,[11])]
def pol:Pol where
  shared g:=sharedT.contains g
  freeze _ _:=true
  freezeS _ _:=false
  blk g d:=!((resT.getD g []).contains d)
  nilf g:=g == 52
  deep _:=false
  prim _:=none
  rows g _:=g == 42
  keys g:=keysT.getD g []
  quiet f r:=if f == 8 && r == 17 then [1,3] else []
  dead f r:=((deadT.find? fun p=>p.1 == f && p.2.1 == r).map (·.2.2)).getD []
theorem follows_mixed:Tp.follows .mixedOrders=true:=by kernel_rfl
set_option maxRecDepth 100000 in
theorem fns_ok:(Tp.funcs.toList.zipIdx.all fun p=>fnOk pol p.2 p.1)=true:=by kernel_rfl
theorem sound (n:Nat):CallSound Tp (callN Tp pol n) :=
  callN_ok follows_mixed (fun g fn h=>List.all_eq_true.1 fns_ok (fn,g) (by
      rw [List.mem_zipIdx_iff_getElem?]
      simpa using h)) (fun g F h=>by cases h) n
theorem sound_prim (F:FuncId → Option (List HV → Option HV)) (hF:∀ g f,F g=some f → PrimOk Tp g f) (n:Nat):CallSound Tp (callN Tp { pol with prim:=F } n) :=
  callN_ok follows_mixed (fun g fn h=>by
    rw [fnOk_prim]
    exact List.all_eq_true.1 fns_ok (fn,g) (by
      rw [List.mem_zipIdx_iff_getElem?]
      simpa using h)) hF n
def cL:Code → Code | .seq a _=>a | c=>c
theorem wrapU64 (n:Int):IntKind.u64.wrap n=n % 18446744073709551616:=by simp [IntKind.wrap,IntKind.signed,IntKind.bits]
theorem wrapI64 (n:Int):IntKind.i64.wrap n=(n+9223372036854775808) % 18446744073709551616 - 9223372036854775808:=by rw [IntKind.wrap_i64]
abbrev bI (l:List Int):Blk:=.arr 1 (l.map hvI) true 0
def encR (r:List Int):HV:=.imm .arg 1 (r.map hvI)
def encO (r:List Int):HV:=.imm .own 1 (r.map hvI)
def decR:HV → Option (List Int) | .imm .arg 1 l=>mapO decI l | _=>none
theorem decR_enc (r:List Int):decR (encR r)=some r:=mapO_map decI_enc r
theorem decR_inv (b:HV) (a:List Int) (h:decR b=some a):b=encR a:=by
  unfold decR at h
  split at h
  · rw [mapO_inv decI_inv h]; rfl
  · cases h
theorem wrap_succ {j:Nat} (h:j < 4611686018427387904):IntKind.i64.wrap ((j:Int)+1)=((j+1:Nat):Int):=by rw [wrapI64]; omega
theorem wrap_pred {j:Nat} (h0:0 < j) (h:j < 4611686018427387904):IntKind.i64.wrap ((j:Int) - 1)=((j - 1:Nat):Int):=by rw [wrapI64]; omega
theorem wrap_id {n:Int} (h0:-4611686018427387904 ≤ n) (h:n < 4611686018427387904):IntKind.i64.wrap n=n:=by rw [wrapI64]; omega
theorem argP_ints':∀ (l:List Int),argPL (l.map hvI)=some (l.map hvI)
  | []=>rfl
  | p :: l=>by simp only [List.map_cons,argPL,argP_ints' l,hvI,argP]
theorem argP_rows':∀ (R:List (List Int)),argPL (R.map encR)=some (R.map encR)
  | []=>rfl
  | p :: l=>by simp only [List.map_cons,argPL,argP_rows' l,encR,argP,argP_ints']
theorem arg_li (H:Heap) (l:List Int):toArg H 6 (.imm .arg 1 (l.map hvI))=some (.imm .arg 1 (l.map hvI)):=by
  show argP (.imm .arg 1 (l.map hvI))=_
  simp only [argP,argP_ints']
theorem arg_rw (H:Heap) (R:List (List Int)):toArg H 6 (.imm .arg 1 (R.map encR))=some (.imm .arg 1 (R.map encR)):=by
  show argP (.imm .arg 1 (R.map encR))=_
  simp only [argP,argP_rows']
theorem encI_any (l:List Int):(l.map hvI).any isOwn=false:=by
  rw [List.any_eq_false]
  intro v hv
  obtain ⟨k,_,rfl⟩:=List.mem_map.1 hv
  simp [hvI,isOwn]
theorem encO_any (l:List (List Int)):(l.map encO).any isOwn=false:=by
  rw [List.any_eq_false]
  intro v hv
  obtain ⟨k,_,rfl⟩:=List.mem_map.1 hv
  simp [encO,isOwn]
theorem recv_ints (l:List Int) (H:Heap):recv (.own 1 (l.map hvI)) H=(.sl H.length 0 l.length none l.length 1,H ++ [bI l]):=by
  simp only [recv,recvVal,recvCell,encI_any,List.length_map]
  rfl
theorem recv_rows (l:List (List Int)) (H:Heap):recv (.own 1 (l.map encO)) H=(.sl H.length 0 l.length none l.length 1,H ++ [.arr 1 (l.map encO) true 0]):=by
  simp only [recv,recvVal,recvCell,encO_any,List.length_map]
  rfl
theorem ints_bnd:∀ (l:List Int),bndL (l.map hvI)=0
  | []=>rfl
  | a :: l=>by simp only [List.map_cons,bndL,ints_bnd l,hvI,bnd]; rfl
theorem ints_res:∀ (l:List Int),resPL (l.map hvI)=true
  | []=>rfl
  | a :: l=>by simp only [List.map_cons,resPL,ints_res l,hvI,resP]; rfl
theorem fnok (F:FuncId → Option (List HV → Option HV)) (g:FuncId) (fn:Func) (h:Tp.funcs[g]?=some fn):fnOk { pol with prim:=F } g fn=true:=by
  rw [fnOk_prim]
  exact List.all_eq_true.1 fns_ok (fn,g) (by
    rw [List.mem_zipIdx_iff_getElem?]
    simpa using h)
theorem gc_eq {H H':Heap} (r:Nat) (h:H'.length=H.length):gc H.length r H'=H':=by
  unfold gc
  rw [List.take_of_length_le (by omega)]
theorem nb_false {b:Bool} (h:¬ b=true):b=false:=by cases b <;> simp_all
theorem u23:Tp.underlying 23=some (.slice 3):=by kernel_rfl
theorem u22:Tp.underlying 22=some (.slice 23):=by kernel_rfl
theorem u68:Tp.underlying 68=some (.slice 23):=by kernel_rfl
theorem u79:Tp.underlying 79=some (.slice 4):=by kernel_rfl
theorem z3:tySize Tp 3=some 1:=by kernel_rfl
theorem z4:tySize Tp 4=some 1:=by kernel_rfl
theorem z23:tySize Tp 23=some 1:=by kernel_rfl
theorem a3:tyAgg Tp 3=false:=by kernel_rfl
theorem i3:(Tp.underlying 3).isSome=true:=by kernel_rfl
theorem a4:tyAgg Tp 4=false:=by kernel_rfl
theorem i4:(Tp.underlying 4).isSome=true:=by kernel_rfl
theorem a23:tyAgg Tp 23=false:=by kernel_rfl
theorem i23:(Tp.underlying 23).isSome=true:=by kernel_rfl
theorem gx {l:List Int} {y:Nat} (hy:y < l.length):idxV Tp 23 (.imm .arg 1 (l.map hvI)) (.int .i64 (y:Int))=some (.vptr (.int .i64 (l.getD y 0))) :=
  idx_imm u23 z3 (by omega) (by rw [Int.toNat_natCast,List.getElem?_map,List.getElem?_eq_getElem hy]; simp [List.getD,List.getElem?_eq_getElem hy,hvI])
theorem gxi {l:List Int} {y:Int} (h0:0 ≤ y) (hy:y.toNat < l.length):idxV Tp 23 (.imm .arg 1 (l.map hvI)) (.int .i64 y)=some (.vptr (.int .i64 (l.getD y.toNat 0))):=by
  have:=gx (l:=l) (y:=y.toNat) hy
  rwa [show ((y.toNat:Nat):Int)=y by omega] at this
theorem gr {R:List (List Int)} {y:Nat} (hy:y < R.length):idxV Tp 22 (.imm .arg 1 (R.map encR)) (.int .i64 (y:Int))=some (.vptr (.imm .arg 1 ((R.getD y []).map hvI))) :=
  idx_imm u22 z23 (by omega) (by rw [Int.toNat_natCast,List.getElem?_map,List.getElem?_eq_getElem hy]; simp [List.getD,List.getElem?_eq_getElem hy,encR])
theorem gm {R:List (List Int)} {y:Int} (h0:0 ≤ y) (hy:y.toNat < R.length):idxV Tp 68 (.imm .arg 1 (R.map encR)) (.int .i64 y)=some (.vptr (.imm .arg 1 ((R.getD y.toNat []).map hvI))) :=
  idx_imm u68 z23 h0 (by rw [List.getElem?_map,List.getElem?_eq_getElem hy]; simp [List.getD,List.getElem?_eq_getElem hy,encR])
theorem gri {R:List (List Int)} {y:Int} (h0:0 ≤ y) (hy:y.toNat < R.length):idxV Tp 22 (.imm .arg 1 (R.map encR)) (.int .i64 y)=some (.vptr (.imm .arg 1 ((R.getD y.toNat []).map hvI))) :=
  idx_imm u22 z23 h0 (by rw [List.getElem?_map,List.getElem?_eq_getElem hy]; simp [List.getD,List.getElem?_eq_getElem hy,encR])
theorem load_out {H:Heap} {k:Nat} {o:List Int} (h:H[k]?=some (bI o)) {y:Nat} (hy:y < o.length):loadV Tp H 3 (.ptr k y 0 o.length)=some (.int .i64 (o.getD y 0)) :=
  load_elem (b:=k) h (by simp) (by rw [List.getElem?_map,List.getElem?_eq_getElem hy]; simp [List.getD,List.getElem?_eq_getElem hy,hvI]) rfl a3 i3
theorem store_out {H:Heap} {k:Nat} {o:List Int} (h:H[k]?=some (bI o)) {y:Nat} (hy:y < o.length) (v:Int):storeV Tp H 3 (.ptr k y 0 o.length) (.int .i64 v)=some (H.set k (bI (o.set y v))):=by
  have hi:(o.map hvI)[y]?=some (hvI o[y]):=by rw [List.getElem?_map,List.getElem?_eq_getElem hy]; rfl
  have:=store_elem (P:=Tp) (t:=3) (b:=k) (tot:=o.length) (v:=.int .i64 v) h (by simp) hi rfl (by intro cs h; cases h) z3 rfl rfl (by simp [bnd])
  rw [this]
  show some (H.set k (.arr 1 ((o.map hvI).set y (hvI v)) true 0))=_
  rw [bI,List.map_set]
theorem res_li {H:Heap} {b k:Nat} {o:List Int} (hb:H[b]?=some (bI o)) (hk:o.length=k):toRes H false (.sl b 0 k none k 1)=some (.own 1 (o.map hvI)):=by
  have hr:=resCell_sl (H:=H) (no:=[b]) (b:=b) (k:=1) (m:=k) (cap:=none) (els:=o.map hvI) hb (by simpa using hk) (mapO_self (fun r=>frz_int 4 r) _)
  have ho:ownedAll H false (.sl b 0 k none k 1)=[b]:=by simp [ownedAll,cellsOf,owned,hb]
  simp only [toRes,ho,List.nodup_cons,List.not_mem_nil,not_false_eq_true,List.nodup_nil,and_self,if_true,resVal,hr]
theorem app_ints {H:Heap} {b:Nat} {o xs:List Int} (hb:H[b]?=some (bI o)) (hlen:o.length+xs.length ≤ 1000) (hx:xs ≠ []) :
    appV H 1 8 (.sl b 0 o.length none o.length 1) (xs.map hvI)=some (.sl b 0 (o ++ xs).length none (o ++ xs).length 1,H.set b (bI (o ++ xs))):=by
  have:=app_sl (H:=H) (k:=1) (bytes:=8) (b:=b) (n:=o.length) (mx:=0) (els:=o.map hvI) (xs:=xs.map hvI) hb (by simp) (by simpa using hx) (by rw [List.length_map]; simp only [roomMax]; omega) (ints_bnd xs)
  rw [this]
  simp [bI]
theorem arg_sl {H:Heap} {l:List Int} {b m:Nat} (hm:l.length=m) (hb:H[b]?=some (bI l)):toArg H 6 (.sl b 0 m none m 1)=some (.imm .arg 1 (l.map hvI)):=by
  subst hm
  have e:toArg H 6 (.sl b 0 l.length none l.length 1)=if l.length=0 then some (.imm .arg 1 []) else match view H b 0 l.length l.length 1 with | some l=>(match mapO (toArg H 5) l with | some l=>some (.imm .arg 1 l) | none=>none) | none=>none:=rfl
  rw [e]
  split
  · rename_i h0
    rw [List.length_eq_zero_iff.1 h0]; rfl
  · have hv:view H b 0 l.length l.length 1=some (l.map hvI):=by
      simp only [view,hb,List.length_map]
      rw [if_pos ⟨trivial,by omega,trivial⟩]
      simp [List.take_of_length_le]
    have hm:mapO (toArg H 5) (l.map hvI)=some (l.map hvI):=mapO_self (f:=toArg H 5) (g:=hvI) (fun _=>rfl) l
    rw [hv]
    simp only [hm]
theorem arg_rs {H:Heap} {R:List (List Int)} {b m mx:Nat} (hm:R.length=m) (hb:H[b]?=some (.arr 1 (R.map encO) true mx)):toArg H 6 (.sl b 0 m none m 1)=some (.imm .arg 1 (R.map encR)):=by
  subst hm
  have e:toArg H 6 (.sl b 0 R.length none R.length 1)=if R.length=0 then some (.imm .arg 1 []) else match view H b 0 R.length R.length 1 with | some l=>(match mapO (toArg H 5) l with | some l=>some (.imm .arg 1 l) | none=>none) | none=>none:=rfl
  rw [e]
  split
  · rename_i h0
    rw [List.length_eq_zero_iff.1 h0]; rfl
  · have hv:view H b 0 R.length R.length 1=some (R.map encO):=by
      simp only [view,hb,List.length_map]
      rw [if_pos ⟨trivial,by omega,trivial⟩]
      simp [List.take_of_length_le]
    have hm:∀ (R:List (List Int)),mapO (toArg H 5) (R.map encO)=some (R.map encR):=by
      intro R
      induction R with
      | nil=>rfl
      | cons r R ih =>
        have e:toArg H 5 (encO r)=some (encR r):=by
          show argP (.imm .own 1 (r.map hvI))=_
          simp only [argP,argP_ints']
          rfl
        simp only [List.map_cons,mapO,e,ih]
    rw [hv]
    simp only [hm]
def awakeF:List HV → Option HV | []=>some (.bool true) | _=>none
def withinF:List HV → Option HV
  | [.int .i64 n,.int .i64 lo,.int .i64 hi]=>some (.bool (decide (lo ≤ n∧n ≤ hi)))
  | _=>none
def liF (f:List Int → Option HV):List HV → Option HV
  | [.imm .arg 1 la]=>(match mapO decI la with | some l=>f l | none=>none)
  | _=>none
def rwF (f:List (List Int) → Option HV):List HV → Option HV
  | [.imm .arg 1 rw]=>(match mapO decR rw with | some R=>f R | none=>none)
  | _=>none
def rlF (f:List (List Int) → List Int → Option HV):List HV → Option HV
  | [.imm .arg 1 rw,.imm .arg 1 la]=>(match mapO decR rw,mapO decI la with | some R,some l=>f R l | _,_=>none)
  | _=>none
def llF (f:List Int → List Int → Option HV):List HV → Option HV
  | [.imm .arg 1 la,.imm .arg 1 lb]=>(match mapO decI la,mapO decI lb with | some a,some b=>f a b | _,_=>none)
  | _=>none
def lnF (f:List Int → Int → Option HV):List HV → Option HV
  | [.imm .arg 1 la,.int .i64 v]=>(match mapO decI la with | some l=>f l v | none=>none)
  | _=>none
def list16:List HV → Option HV:=liF fun l=>some (.own 1 ((l.take 13).map hvI))
def tabL (R:List (List Int)):List (List Int):=(R.take 12).map (·.take 13)
def table15:List HV → Option HV:=rwF fun R=>some (.own 1 ((tabL R).map encO))
def ints26:List HV → Option HV:=llF fun a b=>if a.length ≤ 1000 then some (.bool (decide (a=b))) else none
def idxFrom (v:Int):Nat → List Int → Int
  | _,[]=>-1
  | j,x :: l=>if v=x then (j:Int) else idxFrom v (j+1) l
def index72:List HV → Option HV:=lnF fun l v=>if l.length ≤ 1000 then some (.int .i64 (idxFrom v 0 l)) else none
def contains60:List HV → Option HV:=lnF fun l v=>if l.length ≤ 1000 then some (.bool (decide (v ∈ l))) else none
def mile68:List HV → Option HV
  | [.int .i64 n]=>some (.bool (!decide (0 ≤ n∧n ≤ 1000)))
  | _=>none
def at2 (d:List (List Int)) (i j:Nat):Int:=(d.getD i []).getD j 0
def okD (d:List (List Int)):Prop:=(1 ≤ d.length∧d.length ≤ 11)∧(∀ i,i < d.length → (d.getD i []).length=d.length)∧∀ i,i < d.length → ∀ j,j < d.length → (0 ≤ at2 d i j∧at2 d i j ≤ 1000)∧at2 d i j=at2 d j i∧(i=j → at2 d i j=0)
open Classical in
noncomputable def okB (d:List (List Int)):Bool:=decide (okD d)
noncomputable def miles46:List HV → Option HV:=rwF fun R=>if R.length ≤ 1000∧(R.all fun r=>decide (r.length ≤ 1000))=true then some (.bool (okB R)) else none
def inT (n:Nat) (l:List Int):Prop:=∀ v,v ∈ l → 0 ≤ v∧v < (n:Int)
def trOk (n:Nat) (l:List Int):Bool:=decide (l.length=n∧l.getD 0 0=0∧(∀ v,v ∈ l → 0 ≤ v∧v < (n:Int))∧l.Nodup)
def lenGo (d:List (List Int)) (l:List Int):Nat → Nat → Int → Int
  | 0,_,s=>s
  | k+1,j,s=>lenGo d l k (j+1) (s+at2 d (l.getD j 0).toNat (l.getD ((j+1) % l.length) 0).toNat)
def lenT (d:List (List Int)) (l:List Int):Int:=lenGo d l l.length 0 0
open Classical in
noncomputable def len56:List HV → Option HV:=rlF fun R l=>if okD R∧inT R.length l∧l.length ≤ 1000 then some (.int .i64 (lenT R l)) else none
def revP (l:List Int) (i j:Nat):List Int:=l.take i ++ (((l.drop i).take (j+1 - i)).reverse ++ l.drop (j+1))
def polW:Pol:={ pol with prim:=fun g=>if g == 49 then some withinF else none }
def polL:Pol:={ pol with prim:=fun g=>if g == 16 then some list16 else none }
def polX:Pol:={ pol with prim:=fun g=>if g == 72 then some index72 else none }
def polM:Pol:={ pol with prim:=fun g=>if g == 49 then some withinF else if g == 68 then some mile68 else none }
def wo (L v:Nat):Nat:=if L.testBit v then L - 2 ^ v else L
def xorOk:Bool:=(List.range 2048).all fun L=>(List.range 11).all fun v=>!L.testBit v || L - 2 ^ v == L ^^^ 2 ^ v
theorem xorOk_true:xorOk=true:=by kernel_rfl
theorem wo_bit {L v:Nat} (hL:L < 2048) (hv:v < 11) (u:Nat):(wo L v).testBit u=(L.testBit u && decide (u ≠ v)):=by
  unfold wo
  split
  · rename_i h
    have h1:=List.all_eq_true.1 (List.all_eq_true.1 xorOk_true L (List.mem_range.2 hL)) v (List.mem_range.2 hv)
    rw [h,Bool.not_true,Bool.false_or,beq_iff_eq] at h1
    rw [h1,Nat.testBit_xor,Nat.testBit_two_pow]
    by_cases e:v=u
    · subst e; simp [h]
    · have e':u ≠ v:=fun h=>e h.symm
      simp [e,e']
  · rename_i h
    by_cases e:u=v
    · subst e; simp [nb_false h]
    · simp [e]
theorem wo_le (L v:Nat):wo L v ≤ L:=by unfold wo; split; exact Nat.sub_le _ _; exact Nat.le_refl _
theorem wo_lt {L v:Nat} (h:L.testBit v=true):wo L v < L:=by
  unfold wo
  rw [if_pos h]
  have:=Nat.ge_two_pow_of_testBit h
  have:0 < 2 ^ v:=Nat.two_pow_pos v
  omega
theorem bit_lt {L v n:Nat} (hL:L < 2 ^ n) (h:L.testBit v=true):v < n:=by
  rcases Nat.lt_or_ge v n with h1 | h1
  · exact h1
  · have h2:=Nat.ge_two_pow_of_testBit h
    have h3:2 ^ n ≤ 2 ^ v:=Nat.pow_le_pow_right (by omega) h1
    omega
theorem pow_le {n:Nat} (h:n ≤ 11):2 ^ n ≤ 2048:=Nat.pow_le_pow_right (n:=2) (by omega) h
def lst (f:Nat → Int) (L:Nat):Nat → Nat → Int → Int
  | 0,_,m=>m
  | k+1,i,m=>lst f L k (i+1) (if L.testBit i then (if m < 0 ∨ f i < m then f i else m) else m)
def rsF (d:List (List Int)):Nat → Nat → Nat → Int
  | 0,s,_=>at2 d s 0
  | k+1,s,L=>if L=0 then at2 d s 0 else lst (fun v=>at2 d s v+rsF d k v (wo L v)) L d.length 0 (-1)
def rsT (d:List (List Int)) (s L:Nat):Int:=rsF d L s L
theorem lst_congr {f g:Nat → Int} {L:Nat} (h:∀ v,L.testBit v=true → f v=g v):∀ k i m,lst f L k i m=lst g L k i m:=by
  intro k
  induction k with
  | zero=>intros; rfl
  | succ k ih =>
    intro i m
    rw [lst,lst,ih]
    by_cases c:L.testBit i=true
    · rw [h i c]
    · rw [nb_false c]; rfl
theorem rsF_fuel (d:List (List Int)):∀ k k' s L,L ≤ k → L ≤ k' → rsF d k s L=rsF d k' s L:=by
  intro k
  induction k with
  | zero =>
    intro k' s L h _
    have:L=0:=by omega
    subst this
    cases k' with
    | zero=>rfl
    | succ k'=>rw [rsF,rsF,if_pos rfl]
  | succ k ih =>
    intro k' s L h h'
    by_cases c:L=0
    · subst c
      cases k' with
      | zero=>rw [rsF,rsF,if_pos rfl]
      | succ k'=>rw [rsF,rsF,if_pos rfl,if_pos rfl]
    · obtain ⟨k',rfl⟩:∃ n,k'=n+1:=⟨k' - 1,by omega⟩
      rw [rsF,rsF,if_neg c,if_neg c]
      refine lst_congr (fun v hv=>?_) _ _ _
      have:=wo_lt hv
      rw [ih k' v (wo L v) (by omega) (by omega)]
theorem rsT_step (d:List (List Int)) (s:Nat) {L:Nat} (h:L ≠ 0):rsT d s L=lst (fun v=>at2 d s v+rsT d v (wo L v)) L d.length 0 (-1):=by
  obtain ⟨k,rfl⟩:∃ k,L=k+1:=⟨L - 1,by omega⟩
  unfold rsT
  rw [rsF,if_neg h]
  refine lst_congr (fun v hv=>?_) _ _ _
  have:=wo_lt hv
  rw [rsF_fuel d k (wo (k+1) v) v _ (by omega) (Nat.le_refl _)]
theorem lst_pos {f:Nat → Int} {L:Nat}:∀ k i m,(∀ v,v < i+k → L.testBit v=true → 0 ≤ f v) → 0 ≤ m → (0 ≤ lst f L k i m∧lst f L k i m ≤ m)∧(∀ v,i ≤ v → v < i+k → L.testBit v=true → lst f L k i m ≤ f v)∧(lst f L k i m=m ∨ ∃ v,(i ≤ v∧v < i+k)∧L.testBit v=true∧lst f L k i m=f v):=by
  intro k
  induction k with
  | zero=>intro i m _ hm; exact ⟨⟨hm,Int.le_refl _⟩,fun v h1 h2=>by omega,.inl rfl⟩
  | succ k ih =>
    intro i m h hm
    rw [lst]
    by_cases c:L.testBit i=true
    · have h0:=h i (by omega) c
      rw [if_pos c]
      by_cases c2:m < 0 ∨ f i < m
      · rw [if_pos c2]
        obtain ⟨⟨a1,a2⟩,a3,a4⟩:=ih (i+1) (f i) (fun v hv=>h v (by omega)) h0
        refine ⟨⟨a1,by omega⟩,fun v h1 h2 h3=>?_,?_⟩
        · by_cases e:v=i
          · subst e; exact a2
          · exact a3 v (by omega) (by omega) h3
        · rcases a4 with a4 | ⟨v,a5,a6,a7⟩
          · exact .inr ⟨i,by omega,c,a4⟩
          · exact .inr ⟨v,by omega,a6,a7⟩
      · rw [if_neg c2]
        obtain ⟨⟨a1,a2⟩,a3,a4⟩:=ih (i+1) m (fun v hv=>h v (by omega)) hm
        refine ⟨⟨a1,a2⟩,fun v h1 h2 h3=>?_,?_⟩
        · by_cases e:v=i
          · subst e; omega
          · exact a3 v (by omega) (by omega) h3
        · rcases a4 with a4 | ⟨v,a5,a6,a7⟩
          · exact .inl a4
          · exact .inr ⟨v,by omega,a6,a7⟩
    · rw [if_neg c]
      obtain ⟨⟨a1,a2⟩,a3,a4⟩:=ih (i+1) m (fun v hv=>h v (by omega)) hm
      refine ⟨⟨a1,a2⟩,fun v h1 h2 h3=>?_,?_⟩
      · by_cases e:v=i
        · subst e; exact absurd h3 c
        · exact a3 v (by omega) (by omega) h3
      · rcases a4 with a4 | ⟨v,a5,a6,a7⟩
        · exact .inl a4
        · exact .inr ⟨v,by omega,a6,a7⟩
theorem lst_neg {f:Nat → Int} {L:Nat}:∀ k i m,(∀ v,v < i+k → L.testBit v=true → 0 ≤ f v) → m < 0 → (∃ v,(i ≤ v∧v < i+k)∧L.testBit v=true) → 0 ≤ lst f L k i m∧(∀ v,i ≤ v → v < i+k → L.testBit v=true → lst f L k i m ≤ f v)∧∃ v,(i ≤ v∧v < i+k)∧L.testBit v=true∧lst f L k i m=f v:=by
  intro k
  induction k with
  | zero=>intro i m _ _ ⟨v,h,_⟩; omega
  | succ k ih =>
    intro i m h hm ⟨v,h1,h2⟩
    rw [lst]
    by_cases c:L.testBit i=true
    · have h0:=h i (by omega) c
      rw [if_pos c,if_pos (.inl hm)]
      obtain ⟨⟨a1,a2⟩,a3,a4⟩:=lst_pos (L:=L) k (i+1) (f i) (fun v hv=>h v (by omega)) h0
      refine ⟨a1,fun v h1 h2 h3=>?_,?_⟩
      · by_cases e:v=i
        · subst e; exact a2
        · exact a3 v (by omega) (by omega) h3
      · rcases a4 with a4 | ⟨v,a5,a6,a7⟩
        · exact ⟨i,by omega,c,a4⟩
        · exact ⟨v,by omega,a6,a7⟩
    · rw [if_neg c]
      have hv:v ≠ i:=fun e=>c (e ▸ h2)
      obtain ⟨a1,a3,v',a5,a6,a7⟩:=ih (i+1) m (fun v hv=>h v (by omega)) hm ⟨v,by omega,h2⟩
      refine ⟨a1,fun v h1 h2 h3=>?_,v',by omega,a6,a7⟩
      by_cases e:v=i
      · subst e; exact absurd h3 c
      · exact a3 v (by omega) (by omega) h3
section
variable {d:List (List Int)}
theorem okD.at (h:okD d) {i j:Nat} (hi:i < d.length) (hj:j < d.length):0 ≤ at2 d i j∧at2 d i j ≤ 1000:=(h.2.2 i hi j hj).1
theorem rsF_bnd (h:okD d):∀ k s L,s < d.length → L < 2 ^ d.length → L ≤ k → 0 ≤ rsF d k s L∧rsF d k s L ≤ 1000 * (k+1):=by
  intro k
  induction k with
  | zero =>
    intro s L hs _ _
    have:=h.at hs (j:=0) (by omega)
    rw [rsF]; omega
  | succ k ih =>
    intro s L hs hL hk
    rw [rsF]
    split
    · have:=h.at hs (j:=0) (by omega)
      omega
    · rename_i c
      have hf:∀ v,v < 0+d.length → L.testBit v=true → 0 ≤ at2 d s v+rsF d k v (wo L v)∧at2 d s v+rsF d k v (wo L v) ≤ 1000 * (k+2):=fun v hv hb=>by
        have h1:=h.at hs (j:=v) (by omega)
        have h2:=wo_lt hb
        have h3:=ih v (wo L v) (by omega) (by omega) (by omega)
        omega
      obtain ⟨v,hb⟩:=Nat.exists_testBit_of_ne_zero c
      have hv:=bit_lt hL hb
      obtain ⟨a1,_,v',a5,a6,a7⟩:=lst_neg (f:=fun v=>at2 d s v+rsF d k v (wo L v)) (L:=L) d.length 0 (-1) (fun v hv hb=>(hf v hv hb).1) (by omega) ⟨v,by omega,hb⟩
      refine ⟨a1,?_⟩
      rw [a7]
      have:=(hf v' (by omega) a6).2
      push_cast
      omega
theorem rsT_bnd (h:okD d) {s L:Nat} (hs:s < d.length) (hL:L < 2 ^ d.length):0 ≤ rsT d s L∧rsT d s L ≤ 3000000:=by
  have h1:=rsF_bnd h L s L hs hL (Nat.le_refl _)
  have h2:=pow_le h.1.2
  unfold rsT
  omega
theorem rsT_min (h:okD d) {s L:Nat} (hs:s < d.length) (hL:L < 2 ^ d.length) (c:L ≠ 0):(∀ v,L.testBit v=true → rsT d s L ≤ at2 d s v+rsT d v (wo L v))∧∃ v,L.testBit v=true∧rsT d s L=at2 d s v+rsT d v (wo L v):=by
  obtain ⟨v,hb⟩:=Nat.exists_testBit_of_ne_zero c
  have hv:=bit_lt hL hb
  have hf:∀ v,v < 0+d.length → L.testBit v=true → 0 ≤ at2 d s v+rsT d v (wo L v):=fun v hv hb=>by
    have h1:=h.at hs (j:=v) (by omega)
    have h2:=wo_lt hb
    have h3:=rsT_bnd h (s:=v) (L:=wo L v) (by omega) (by omega)
    omega
  obtain ⟨_,a2,v',a5,a6,a7⟩:=lst_neg (f:=fun v=>at2 d s v+rsT d v (wo L v)) (L:=L) d.length 0 (-1) hf (by omega) ⟨v,by omega,hb⟩
  rw [rsT_step d s c]
  exact ⟨fun v hb=>a2 v (by omega) (by have:=bit_lt hL hb; omega) hb,v',a6,a7⟩
def pck (g:Nat → Bool):Nat → Nat → Option Nat
  | 0,_=>none
  | k+1,i=>if g i then some i else pck g k (i+1)
theorem pck_some {g:Nat → Bool} {v:Nat}:∀ k i,pck g k i=some v → (i ≤ v∧v < i+k)∧g v=true∧∀ u,i ≤ u → u < v → g u=false:=by
  intro k
  induction k with
  | zero=>intro i h; cases h
  | succ k ih =>
    intro i h
    rw [pck] at h
    split at h
    · rename_i c
      cases h
      exact ⟨by omega,c,fun u h1 h2=>by omega⟩
    · rename_i c
      obtain ⟨h1,h2,h3⟩:=ih _ h
      refine ⟨by omega,h2,fun u h4 h5=>?_⟩
      by_cases e:u=i
      · subst e; exact nb_false c
      · exact h3 u (by omega) h5
theorem pck_none {g:Nat → Bool}:∀ k i,pck g k i=none → ∀ u,i ≤ u → u < i+k → g u=false:=by
  intro k
  induction k with
  | zero=>intro i _ u h1 h2; omega
  | succ k ih =>
    intro i h u h1 h2
    rw [pck] at h
    split at h
    · cases h
    · rename_i c
      by_cases e:u=i
      · subst e; exact nb_false c
      · exact ih _ h u (by omega) (by omega)
def okV (d:List (List Int)) (s L v:Nat):Bool:=L.testBit v && decide (at2 d s v+rsT d v (wo L v)=rsT d s L)
def grd (d:List (List Int)):Nat → Nat → Nat → List Int
  | 0,_,_=>[]
  | k+1,s,L=>if L=0 then [] else match pck (okV d s L) d.length 0 with | some v=>(v:Int) :: grd d k v (wo L v) | none=>[]
def bestT (d:List (List Int)):List Int:=0 :: grd d (2 ^ d.length) 0 (2 ^ d.length - 2)
theorem pck_ok (h:okD d) {s L:Nat} (hs:s < d.length) (hL:L < 2 ^ d.length) (c:L ≠ 0):∃ v,pck (okV d s L) d.length 0=some v∧v < d.length∧L.testBit v=true∧at2 d s v+rsT d v (wo L v)=rsT d s L:=by
  obtain ⟨_,v,h1,h2⟩:=rsT_min h hs hL c
  have hv:=bit_lt hL h1
  cases hp:pck (okV d s L) d.length 0 with
  | none =>
    have:=pck_none _ _ hp v (by omega) (by omega)
    simp [okV,h1,h2] at this
  | some u =>
    obtain ⟨h3,h4,_⟩:=pck_some _ _ hp
    simp only [okV,Bool.and_eq_true,decide_eq_true_eq] at h4
    exact ⟨u,rfl,by omega,h4.1,h4.2⟩
def pl (d:List (List Int)):Nat → List Int → Int
  | s,[]=>at2 d s 0
  | s,v :: p=>at2 d s v.toNat+pl d v.toNat p
def Cp (L:Nat) (p:List Int):Prop:=p.Nodup∧∀ v:Int,v ∈ p ↔ 0 ≤ v∧L.testBit v.toNat=true
theorem Cp.cons {L v:Nat} {p:List Int} (hL:L < 2048) (hv:v < 11) (hb:L.testBit v=true) (h:Cp (wo L v) p):Cp L ((v:Int) :: p):=by
  refine ⟨List.nodup_cons.2 ⟨fun hm=>?_,h.1⟩,fun u=>?_⟩
  · have:=((h.2 v).1 hm).2
    rw [wo_bit hL hv] at this
    simp at this
  · rw [List.mem_cons,h.2]
    rw [wo_bit hL hv]
    constructor
    · rintro (rfl | ⟨h1,h2⟩)
      · exact ⟨by omega,by rw [Int.toNat_natCast]; exact hb⟩
      · simp only [Bool.and_eq_true] at h2
        exact ⟨h1,h2.1⟩
    · rintro ⟨h1,h2⟩
      by_cases e:u=(v:Int)
      · exact .inl e
      · refine .inr ⟨h1,?_⟩
        simp only [Bool.and_eq_true,decide_eq_true_eq]
        exact ⟨h2,by omega⟩
theorem grd_ok (h:okD d):∀ (k s L:Nat),s < d.length → L < 2 ^ d.length → L ≤ k → Cp L (grd d k s L)∧pl d s (grd d k s L)=rsT d s L:=by
  have hp:=pow_le h.1.2
  have h0:∀ s,Cp 0 []∧pl d s []=rsT d s 0:=fun s=>⟨⟨List.nodup_nil,fun v=>by simp⟩,rfl⟩
  intro k
  induction k with
  | zero =>
    intro s L hs hL hk
    have:L=0:=by omega
    subst this
    exact h0 s
  | succ k ih =>
    intro s L hs hL hk
    rw [grd]
    by_cases c:L=0
    · subst c; rw [if_pos rfl]; exact h0 s
    · rw [if_neg c]
      obtain ⟨v,h1,h2,h3,h4⟩:=pck_ok h hs hL c
      rw [h1]
      have h5:=wo_lt h3
      obtain ⟨h6,h7⟩:=ih v (wo L v) h2 (by omega) (by omega)
      refine ⟨h6.cons (by omega) (by have:=h.1.2; omega) h3,?_⟩
      show pl d s ((v:Int) :: grd d k v (wo L v))=_
      rw [pl,Int.toNat_natCast,h7,h4]
theorem all_bit {n v:Nat} (hn:1 ≤ n):(2 ^ n - 2).testBit v=decide (1 ≤ v∧v < n):=by
  have h1:2 ^ n - 2=2 * (2 ^ (n - 1) - 1):=by
    obtain ⟨k,rfl⟩:∃ k,n=k+1:=⟨n - 1,by omega⟩
    rw [Nat.pow_succ,Nat.add_sub_cancel]; omega
  rw [h1]
  cases v with
  | zero=>simp [Nat.testBit_zero]
  | succ v =>
    rw [Nat.testBit_succ,Nat.mul_comm,Nat.mul_div_cancel _ (by omega),Nat.testBit_two_pow_sub_one]
    congr 1
    apply propext
    omega
theorem cp_tour {n:Nat} {p:List Int} (hn:1 ≤ n) (h:Cp (2 ^ n - 2) p):trOk n (0 :: p)=true:=by
  have hm:∀ v:Int,v ∈ p ↔ 1 ≤ v∧v < n:=fun v=>by
    rw [h.2,all_bit hn,decide_eq_true_eq]; omega
  have nd:(0 :: p).Nodup:=List.nodup_cons.2 ⟨fun h0=>by have:=(hm 0).1 h0; omega,h.1⟩
  have ndR:((List.range n).map fun i:Nat=>(i:Int)).Nodup:=by
    refine List.Pairwise.map _ (fun a b (hab:a ≠ b)=>?_) List.nodup_range
    intro e
    exact hab (by omega)
  have hmem:∀ x:Int,x ∈ (0 :: p) ↔ x ∈ (List.range n).map fun i:Nat=>(i:Int):=fun x=>by
    rw [List.mem_cons,hm,List.mem_map]
    constructor
    · intro hx
      exact ⟨x.toNat,List.mem_range.2 (by omega),by omega⟩
    · rintro ⟨i,hi,rfl⟩
      have:=List.mem_range.1 hi
      omega
  have hl:(0 :: p).length=n:=by
    have h1:=nd.length_le_of_subset (fun x hx=>(hmem x).1 hx)
    have h2:=ndR.length_le_of_subset (fun x hx=>(hmem x).2 hx)
    simp only [List.length_map,List.length_range] at h1 h2
    omega
  simp only [trOk,decide_eq_true_eq]
  refine ⟨hl,rfl,fun v hv=>?_,nd⟩
  obtain ⟨i,hi,rfl⟩:=List.mem_map.1 ((hmem v).1 hv)
  have:=List.mem_range.1 hi
  omega
theorem all_lt {n:Nat}:2 ^ n - 2 < 2 ^ n:=by
  have:=Nat.two_pow_pos n
  omega
theorem best_tour (h:okD d):trOk d.length (bestT d)=true:=cp_tour h.1.1 (grd_ok h _ 0 _ (by have:=h.1.1; omega) all_lt (Nat.sub_le _ _)).1
end
end Go.Proofs.Ytlendaofkmhgmaa
end
section
open Go Go.HL
namespace Go.Proofs.Ytlendaofkmhgmaa
set_option maxRecDepth 100000
set_option linter.unusedSectionVars false
open Go.Proofs.Try renaming prog → Tp
open Go.HL.HV renaming undef → Ud
noncomputable def B49:Code:=Try.f49.body.getD .skip
abbrev env49 (v0 v1 v2 v6:HV):Env:=[(0,v0),(1,v1),(2,v2),(6,v6)]
section
variable (n lo hi:Int)
include n lo hi
theorem w49_0 (g0:lo ≤ n) (g1:n ≤ hi): RT pol 49 (sub [] B49) [(0,.i n),(1,.i lo),(2,.i hi)] [] .ret (env49 (.i n) (.i lo) (.i hi) (.bool true)) [] :=
  hx 0 60 [jT 1 2 [] g0,jT 1 6 [] g1]
theorem w49_1 (g0:lo ≤ n) (g1:¬ (n ≤ hi)): RT pol 49 (sub [] B49) [(0,.i n),(1,.i lo),(2,.i hi)] [] .ret (env49 (.i n) (.i lo) (.i hi) (.bool false)) [] :=
  hx 0 60 [jT 1 2 [] g0,jF 1 6 [] g1]
theorem w49_2 (g0:¬ (lo ≤ n)): RT pol 49 (sub [] B49) [(0,.i n),(1,.i lo),(2,.i hi)] [] .ret (env49 (.i n) (.i lo) (.i hi) (.bool false)) [] :=
  hx 0 60 [jF 1 2 [] g0]
end
noncomputable def B16:Code:=Try.f16.body.getD .skip
abbrev env16 (v0 v2 v3:HV):Env:=[(0,v0),(2,v2),(3,v3)]
theorem li_0 (la:List HV) (m:Nat) (g0:sliceV Tp 23 (.a la) none (some (.i (min (la.length:Int) 13))) none=some (.a (la.take m))) (g1:appV [.b []] 1 8 (.s 0 0) (la.take m)=some (.sl 0 0 ((la.take m).length) none ((la.take m).length) 1,[.arr 1 (la.take m) true 0])): RT pol 16 (sub [] B16) [(0,.a la)] [] .ret (env16 (.a la) (.sl 0 0 ((la.take m).length) none ((la.take m).length) 1) (.s 0 0)) [.arr 1 (la.take m) true 0] :=
  hx 0 60 [jO 2 5 [.b []] g0,jR 2 6 g1]
noncomputable def B15:Code:=Try.f15.body.getD .skip
abbrev env15 (v0 v2 v3 v4:HV):Env:=[(0,v0),(2,v2),(3,v3),(4,v4)]
abbrev e15 (rw:List HV) (u2 u3:HV):Env:=env15 (.a rw) (.imm .lit 1 []) u2 u3
section
variable (rw:List HV)
include rw
theorem ta_a_0:RT polL 15 (sn 2 B15) [(0,.a rw)] [] .normal (e15 rw Ud Ud) [] :=
  hx 0 60 []
end
section
variable (rw:List HV)
include rw
theorem ta_b_0:RT polL 15 (sn 6 B15) (e15 rw Ud Ud) [] .normal (e15 rw (.s 0 0) Ud) [.b []] :=
  hx 0 60 []
theorem ta_c_0 (out:List HV) (p:Nat): RT polL 15 (sn 28 B15) (e15 rw (.s 0 p) Ud) [.b out] .normal (e15 rw (.s 0 p) (.i 0)) [.b out] :=
  hx 0 60 []
theorem ta_l_0 (out:List HV) (p:Nat) (i:Nat) (l0:List HV) (q:Nat) (row:List HV) (w0:Bool) (g0:(i:Int) < (rw.length:Int)) (g1:(i:Int) ≤ 11) (g2:IX 22 (.a rw) (.n i) (.vptr (.a l0))) (g3:∀ kf,callN Tp polL (kf+1) 16 [.a l0] [.b out]=some (.s 1 q,[.b out,.b row])) (g4:litV Tp true false 22 1 [(0,.s 1 q)] [.b out,.b row]=some (.imm .lit 1 [.imm .own 1 row],[.b out,.arr 1 row w0 0])) (g5:appV [.b out,.arr 1 row w0 0] 1 24 (.s 0 p) [.imm .own 1 row]=some (.sl 0 0 (p+1) none (p+1) 1,[.arr 1 (out ++ [.imm .own 1 row]) true 0,.arr 1 row w0 0])): RT polL 15 (sn 116 B15) (e15 rw (.s 0 p) (.n i)) [.b out] .normal (e15 rw (.sl 0 0 (p+1) none (p+1) 1) (.i (IntKind.i64.wrap ((i:Int)+1)))) [.arr 1 (out ++ [.imm .own 1 row]) true 0,.arr 1 row w0 0] :=
  hx 0 60 [jT 3 3 [.b out] g0,jT 3 6 [.b out] g1,jO 5 3 [.b out] g2,jD 5 5 g3,jR 5 6 g4,jR 5 7 g5]
theorem ta_l_1 (out:List HV) (p:Nat) (i:Nat) (g0:(i:Int) < (rw.length:Int)) (g1:¬ ((i:Int) ≤ 11)): RT polL 15 (sn 116 B15) (e15 rw (.s 0 p) (.n i)) [.b out] (.exit 0) (e15 rw (.s 0 p) (.n i)) [.b out] :=
  hx 0 60 [jT 3 3 [.b out] g0,jF 3 6 [.b out] g1]
theorem ta_l_2 (out:List HV) (p:Nat) (i:Nat) (g0:¬ ((i:Int) < (rw.length:Int))): RT polL 15 (sn 116 B15) (e15 rw (.s 0 p) (.n i)) [.b out] (.exit 0) (e15 rw (.s 0 p) (.n i)) [.b out] :=
  hx 0 60 [jF 3 3 [.b out] g0]
theorem ta_z_0 (out:List HV) (p:Nat) (i:Nat): RT polL 15 (sn 15 B15) (e15 rw (.s 0 p) (.n i)) [.b out] .ret (env15 (.a rw) (.s 0 p) (.s 0 p) (.n i)) [.b out] :=
  hx 0 60 []
end
noncomputable def B26:Code:=Try.f26.body.getD .skip
abbrev env26 (v0 v1 v4 v5:HV):Env:=[(0,v0),(1,v1),(4,v4),(5,v5)]
abbrev e26 (la:List HV) (lb:List HV) (u3:HV):Env:=env26 (.a la) (.a lb) (.bool false) u3
section
variable (la lb:List HV)
include la lb
theorem r26_a_0:RT pol 26 (sn 2 B26) [(0,.a la),(1,.a lb)] [] .normal (e26 la lb Ud) [] :=
  hx 0 60 []
end
section
variable (la lb:List HV)
include la lb
theorem r26_b_0 (g0:(la.length:Int)=(lb.length:Int)): RT pol 26 (sn 6 B26) (e26 la lb Ud) [] .normal (e26 la lb Ud) [] :=
  hx 0 60 [jB 1 4 [] (congrArg not (decide_eq_true g0))]
theorem r26_b_1 (g0:¬ ((la.length:Int)=(lb.length:Int))): RT pol 26 (sn 6 B26) (e26 la lb Ud) [] .ret (e26 la lb Ud) [] :=
  hx 0 60 [jB 1 4 [] (congrArg not (decide_eq_false g0))]
theorem r26_c_0:RT pol 26 (sn 28 B26) (e26 la lb Ud) [] .normal (e26 la lb (.i 0)) [] :=
  hx 0 60 []
theorem r26_l_0 (j:Nat) (x0:Int) (x1:Int) (g0:(j:Int) < (la.length:Int)) (g1:IX 23 (.a la) (.n j) (.vptr (.i x0))) (g2:IX 23 (.a lb) (.n j) (.vptr (.i x1))) (g3:x0=x1): RT pol 26 (sn 116 B26) (e26 la lb (.n j)) [] .normal (e26 la lb (.i (IntKind.i64.wrap ((j:Int)+1)))) [] :=
  hx 0 60 [jT 4 3 [] g0,jO 6 2 [] g1,jO 6 6 [] g2,jB 6 8 [] (congrArg not (decide_eq_true g3))]
theorem r26_l_1 (j:Nat) (x0:Int) (x1:Int) (g0:(j:Int) < (la.length:Int)) (g1:IX 23 (.a la) (.n j) (.vptr (.i x0))) (g2:IX 23 (.a lb) (.n j) (.vptr (.i x1))) (g3:¬ (x0=x1)): RT pol 26 (sn 116 B26) (e26 la lb (.n j)) [] .ret (e26 la lb (.n j)) [] :=
  hx 0 60 [jT 4 3 [] g0,jO 6 2 [] g1,jO 6 6 [] g2,jB 6 8 [] (congrArg not (decide_eq_false g3))]
theorem r26_l_2 (j:Nat) (g0:¬ ((j:Int) < (la.length:Int))): RT pol 26 (sn 116 B26) (e26 la lb (.n j)) [] (.exit 0) (e26 la lb (.n j)) [] :=
  hx 0 60 [jF 4 3 [] g0]
theorem r26_z_0 (j:Nat): RT pol 26 (sn 15 B26) (e26 la lb (.n j)) [] .ret (env26 (.a la) (.a lb) (.bool true) (.n j)) [] :=
  hx 0 60 []
end
noncomputable def B72:Code:=Try.f72.body.getD .skip
abbrev env72 (v0 v1 v4 v5 v7 v8:HV):Env:=[(0,v0),(1,v1),(4,v4),(5,v5),(7,v7),(8,v8)]
abbrev e72 (la:List HV) (v:Int) (u3 u4 u5:HV):Env:=env72 (.a la) (.i v) (.i 0) u3 u4 u5
section
variable (la:List HV) (v:Int)
include la v
theorem ix_a_0:RT pol 72 (sn 2 B72) [(0,.a la),(1,.i v)] [] .normal (e72 la v Ud Ud Ud) [] :=
  hx 0 60 []
end
section
variable (la:List HV) (v:Int)
include la v
theorem ix_b_0:RT pol 72 (sn 12 B72) (e72 la v Ud Ud Ud) [] .normal (e72 la v Ud (.i (la.length:Int)) (.i 0)) [] :=
  hx 0 60 []
theorem ix_l_0 (j:Nat) (x0:Int) (g0:(j:Int) < (la.length:Int)) (g1:IX 23 (.a la) (.n j) (.vptr (.i x0))) (g2:v=x0): RT pol 72 (sn 52 B72) (e72 la v Ud (.i (la.length:Int)) (.n j)) [] .ret (env72 (.a la) (.i v) (.n j) (.n j) (.i (la.length:Int)) (.n j)) [] :=
  hx 0 60 [jT 2 0 [] g0,jO 4 3 [] g1,jT 4 5 [] g2]
theorem ix_l_1 (j:Nat) (x0:Int) (g0:(j:Int) < (la.length:Int)) (g1:IX 23 (.a la) (.n j) (.vptr (.i x0))) (g2:¬ (v=x0)): RT pol 72 (sn 52 B72) (e72 la v Ud (.i (la.length:Int)) (.n j)) [] .normal (e72 la v (.n j) (.i (la.length:Int)) (.i (IntKind.i64.wrap ((j:Int)+1)))) [] :=
  hx 0 60 [jT 2 0 [] g0,jO 4 3 [] g1,jF 4 5 [] g2]
theorem ix_l_2 (j:Nat) (g0:¬ ((j:Int) < (la.length:Int))): RT pol 72 (sn 52 B72) (e72 la v Ud (.i (la.length:Int)) (.n j)) [] (.exit 0) (e72 la v Ud (.i (la.length:Int)) (.n j)) [] :=
  hx 0 60 [jF 2 0 [] g0]
theorem ix_z_0 (j:Nat): RT pol 72 (sn 7 B72) (e72 la v Ud (.i (la.length:Int)) (.n j)) [] .ret (env72 (.a la) (.i v) (.i (-1)) Ud (.i (la.length:Int)) (.n j)) [] :=
  hx 0 60 []
end
noncomputable def B60:Code:=Try.f60.body.getD .skip
abbrev env60 (v0 v1 v4:HV):Env:=[(0,v0),(1,v1),(4,v4)]
theorem ct_0 (la:List HV) (x:Int) (r:Int) (g0:∀ kf,callN Tp polX (kf+1) 72 [.a la,.i x] []=some (.i r,[])) (g1:0 ≤ r): RT polX 60 (sub [] B60) [(0,.a la),(1,.i x)] [] .ret (env60 (.a la) (.i x) (.bool true)) [] :=
  hx 0 60 [jD 1 2 g0,jT 1 3 [] g1]
theorem ct_1 (la:List HV) (x:Int) (r:Int) (g0:∀ kf,callN Tp polX (kf+1) 72 [.a la,.i x] []=some (.i r,[])) (g1:¬ (0 ≤ r)): RT polX 60 (sub [] B60) [(0,.a la),(1,.i x)] [] .ret (env60 (.a la) (.i x) (.bool false)) [] :=
  hx 0 60 [jD 1 2 g0,jF 1 3 [] g1]
noncomputable def B37:Code:=Try.f37.body.getD .skip
abbrev env37 (v0 v1 v4 v5 v6 v7:HV):Env:=[(0,v0),(1,v1),(4,v4),(5,v5),(6,v6),(7,v7)]
abbrev e37 (rw:List HV) (la:List HV) (u3 u4 u5:HV):Env:=env37 (.a rw) (.a la) (.i 0) u3 u4 u5
section
variable (rw la:List HV)
include rw la
theorem rl_a_0:RT pol 37 (sn 2 B37) [(0,.a rw),(1,.a la)] [] .normal (e37 rw la Ud Ud Ud) [] :=
  hx 0 60 []
end
section
variable (rw la:List HV)
include rw la
theorem rl_b_0:RT pol 37 (sn 6 B37) (e37 rw la Ud Ud Ud) [] .normal (e37 rw la (.i (la.length:Int)) Ud Ud) [] :=
  hx 0 60 []
theorem rl_c_0:RT pol 37 (sn 14 B37) (e37 rw la (.i (la.length:Int)) Ud Ud) [] .normal (e37 rw la (.i (la.length:Int)) (.i 0) Ud) [] :=
  hx 0 60 []
theorem rl_d_0 (sm:Int): RT pol 37 (sn 60 B37) (e37 rw la (.i (la.length:Int)) (.i sm) Ud) [] .normal (e37 rw la (.i (la.length:Int)) (.i sm) (.i 0)) [] :=
  hx 0 60 []
theorem rl_l_0 (sm:Int) (j:Nat) (x0:Int) (l0:List HV) (x1:Int) (x2:Int) (g0:(j:Int) < (la.length:Int)) (g1:IX 23 (.a la) (.n j) (.vptr (.i x0))) (g2:IX 22 (.a rw) (.i x0) (.vptr (.a l0))) (g3:BV .rem 3 (.i (IntKind.i64.wrap ((j:Int)+1))) (.i (la.length:Int)) (.i ((IntKind.i64.wrap ((j:Int)+1):Int).tmod (la.length:Int)))) (g4:IX 23 (.a la) (.i ((IntKind.i64.wrap ((j:Int)+1):Int).tmod (la.length:Int))) (.vptr (.i x1))) (g5:IX 23 (.a l0) (.i x1) (.vptr (.i x2))): RT pol 37 (sn 244 B37) (e37 rw la (.i (la.length:Int)) (.i sm) (.n j)) [] .normal (e37 rw la (.i (la.length:Int)) (.i (IntKind.i64.wrap (sm+x2))) (.i (IntKind.i64.wrap ((j:Int)+1)))) [] :=
  hx 0 60 [jT 4 2 [] g0,jO 6 4 [] g1,jO 6 6 [] g2,jO 6 12 [] g3,jO 6 13 [] g4,jO 6 15 [] g5]
theorem rl_l_1 (sm:Int) (j:Nat) (g0:¬ ((j:Int) < (la.length:Int))): RT pol 37 (sn 244 B37) (e37 rw la (.i (la.length:Int)) (.i sm) (.n j)) [] (.exit 0) (e37 rw la (.i (la.length:Int)) (.i sm) (.n j)) [] :=
  hx 0 60 [jF 4 2 [] g0]
theorem rl_z_0 (sm:Int) (j:Nat): RT pol 37 (sn 31 B37) (e37 rw la (.i (la.length:Int)) (.i sm) (.n j)) [] .ret (env37 (.a rw) (.a la) (.i sm) (.i (la.length:Int)) (.i sm) (.n j)) [] :=
  hx 0 60 []
end
noncomputable def B56:Code:=Try.f56.body.getD .skip
abbrev env56 (v0 v1 v4 v5 v6 v7 v8 v9 v10:HV):Env:=[(0,v0),(1,v1),(4,v4),(5,v5),(6,v6),(7,v7),(8,v8),(9,v9),(10,v10)]
abbrev e56 (rw:List HV) (la:List HV) (u3 u4 u5 u6 u7 u8:HV):Env:=env56 (.a rw) (.a la) (.i 0) u3 u4 u5 u6 u7 u8
section
variable (rw la:List HV)
include rw la
theorem ml_a_0:RT pol 56 (sn 2 B56) [(0,.a rw),(1,.a la)] [] .normal (e56 rw la Ud Ud Ud Ud Ud Ud) [] :=
  hx 0 60 []
end
section
variable (rw la:List HV)
include rw la
theorem ml_b_0:RT pol 56 (sn 6 B56) (e56 rw la Ud Ud Ud Ud Ud Ud) [] .normal (e56 rw la (.i 0) Ud Ud Ud Ud Ud) [] :=
  hx 0 60 []
theorem ml_c_0 (sm:Int): RT pol 56 (sn 28 B56) (e56 rw la (.i sm) Ud Ud Ud Ud Ud) [] .normal (e56 rw la (.i sm) Ud Ud (.a la) (.i (la.length:Int)) (.i 0)) [] :=
  hx 0 60 []
theorem ml_l_0 (sm:Int) (j:Nat) (x0:Int) (l0:List HV) (x1:Int) (x2:Int) (g0:(j:Int) < (la.length:Int)) (g1:IX 23 (.a la) (.n j) (.vptr (.i x0))) (g2:IX 68 (.a rw) (.i x0) (.vptr (.a l0))) (g3:BV .rem 3 (.i (IntKind.i64.wrap ((j:Int)+1))) (.i (la.length:Int)) (.i ((IntKind.i64.wrap ((j:Int)+1):Int).tmod (la.length:Int)))) (g4:IX 23 (.a la) (.i ((IntKind.i64.wrap ((j:Int)+1):Int).tmod (la.length:Int))) (.vptr (.i x1))) (g5:IX 23 (.a l0) (.i x1) (.vptr (.i x2))): RT pol 56 (sn 116 B56) (e56 rw la (.i sm) Ud Ud (.a la) (.i (la.length:Int)) (.n j)) [] .normal (e56 rw la (.i (IntKind.i64.wrap (sm+x2))) (.n j) (.i x0) (.a la) (.i (la.length:Int)) (.i (IntKind.i64.wrap ((j:Int)+1)))) [] :=
  hx 0 60 [jT 3 0 [] g0,jO 4 1 [] g1,jO 5 3 [] g2,jO 5 10 [] g3,jO 5 11 [] g4,jO 5 13 [] g5]
theorem ml_l_1 (sm:Int) (j:Nat) (g0:¬ ((j:Int) < (la.length:Int))): RT pol 56 (sn 116 B56) (e56 rw la (.i sm) Ud Ud (.a la) (.i (la.length:Int)) (.n j)) [] (.exit 0) (e56 rw la (.i sm) Ud Ud (.a la) (.i (la.length:Int)) (.n j)) [] :=
  hx 0 60 [jF 3 0 [] g0]
theorem ml_z_0 (sm:Int) (j:Nat): RT pol 56 (sn 15 B56) (e56 rw la (.i sm) Ud Ud (.a la) (.i (la.length:Int)) (.n j)) [] .ret (env56 (.a rw) (.a la) (.i sm) (.i sm) Ud Ud (.a la) (.i (la.length:Int)) (.n j)) [] :=
  hx 0 60 []
end
end Go.Proofs.Ytlendaofkmhgmaa
end
section
open Go Go.HL
namespace Go.Proofs.Ytlendaofkmhgmaa
set_option linter.unusedSectionVars false
open Go.Proofs.Try renaming prog → Tp
open Go.HL.HV renaming undef → Ud
theorem within_ok:PrimOk Tp 49 withinF:=by
  refine primOk_pure (pol:=pol) (fn:=Try.f49) (cd:=B49) follows_mixed sound (by kernel_rfl) (by kernel_rfl) (fnok pol.prim _ _ (by kernel_rfl)) (by kernel_rfl) ?_
  intro args res h
  unfold withinF at h
  split at h
  · rename_i n lo hi
    cases h
    have hr:Try.f49.results.toList=[.tmp 6]:=by kernel_rfl
    by_cases g0:lo ≤ n
    · by_cases g1:n ≤ hi
      · exact ⟨_,_,_,_,w49_0 n lo hi g0 g1,by simp,by simp only [resultsV,hr]; rfl,by rw [decide_eq_true ⟨g0,g1⟩]; rfl⟩
      · exact ⟨_,_,_,_,w49_1 n lo hi g0 g1,by simp,by simp only [resultsV,hr]; rfl,by rw [decide_eq_false (fun h=>g1 h.2)]; rfl⟩
    · exact ⟨_,_,_,_,w49_2 n lo hi g0,by simp,by simp only [resultsV,hr]; rfl,by rw [decide_eq_false (fun h=>g0 h.1)]; rfl⟩
  · cases h
theorem liF_inv {f:List Int → Option HV} {args:List HV} {res:HV} (h:liF f args=some res):∃ l,args=[.imm .arg 1 (l.map hvI)]∧f l=some res:=by
  unfold liF at h
  split at h
  · rename_i la
    split at h
    · rename_i l hl
      exact ⟨l,by rw [mapO_inv decI_inv hl],h⟩
    · cases h
  · cases h
theorem rwF_inv {f:List (List Int) → Option HV} {args:List HV} {res:HV} (h:rwF f args=some res):∃ l,args=[.imm .arg 1 (l.map encR)]∧f l=some res:=by
  unfold rwF at h
  split at h
  · rename_i la
    split at h
    · rename_i l hl
      exact ⟨l,by rw [mapO_inv decR_inv hl],h⟩
    · cases h
  · cases h
theorem rlF_inv {f:List (List Int) → List Int → Option HV} {args:List HV} {res:HV} (h:rlF f args=some res):∃ R l,args=[.imm .arg 1 (R.map encR),.imm .arg 1 (l.map hvI)]∧f R l=some res:=by
  unfold rlF at h
  split at h
  · rename_i la
    split at h
    · rename_i R l hR hl
      exact ⟨R,l,by rw [mapO_inv decR_inv hR,mapO_inv decI_inv hl],h⟩
    · cases h
  · cases h
theorem llF_inv {f:List Int → List Int → Option HV} {args:List HV} {res:HV} (h:llF f args=some res):∃ R l,args=[.imm .arg 1 (R.map hvI),.imm .arg 1 (l.map hvI)]∧f R l=some res:=by
  unfold llF at h
  split at h
  · rename_i la
    split at h
    · rename_i R l hR hl
      exact ⟨R,l,by rw [mapO_inv decI_inv hR,mapO_inv decI_inv hl],h⟩
    · cases h
  · cases h
theorem lnF_inv {f:List Int → Int → Option HV} {args:List HV} {res:HV} (h:lnF f args=some res):∃ l v,args=[.imm .arg 1 (l.map hvI),.int .i64 v]∧f l v=some res:=by
  unfold lnF at h
  split at h
  · rename_i la v
    split at h
    · rename_i l hl
      exact ⟨l,v,by rw [mapO_inv decI_inv hl],h⟩
    · cases h
  · cases h
theorem slice_imm {w:Nat} {l:List HV} (hw:w ≤ l.length):sliceV Tp 23 (.imm .arg 1 l) none (some (.int .i64 (w:Int))) none=some (.imm .arg 1 (l.take w)):=by
  simp only [sliceV,boundV,u23,z3]
  rw [if_pos (by omega:(0:Int) ≤ (w:Int))]
  simp [hw]
theorem take_min {α:Type} (l:List α) (k:Nat):l.take (min l.length k)=l.take k:=by
  rw [List.take_eq_take_iff]; omega
theorem res16:Try.f16.results.toList=[.tmp 2]:=by kernel_rfl
theorem list_ok:PrimOk Tp 16 list16:=by
  refine primOk_pure (pol:=pol) (fn:=Try.f16) (cd:=B16) follows_mixed sound (by kernel_rfl) (by kernel_rfl) (fnok pol.prim _ _ (by kernel_rfl)) (by kernel_rfl) ?_
  intro args res h
  obtain ⟨l,rfl,hq⟩:=liF_inv h
  clear h
  have h:=hq
  clear hq
  cases h
  have hmin:min ((l.map hvI).length:Int) 13=((min l.length 13:Nat):Int):=by rw [List.length_map]; omega
  have hw:(l.map hvI).take (min l.length 13)=(l.take 13).map hvI:=by rw [← List.map_take,take_min]
  have s1:=li_0 (l.map hvI) (min l.length 13) (by rw [hmin]; exact slice_imm (by rw [List.length_map]; omega)) (by
    rw [hw]
    by_cases h0:l.take 13=[]
    · rw [h0]; rfl
    · have hlen:(l.take 13).length ≤ 13:=by rw [List.length_take]; omega
      have:=app_ints (H:=[bI []]) (b:=0) (o:=[]) (xs:=l.take 13) rfl (by simp; omega) h0
      rw [List.nil_append] at this
      simpa [bI] using this)
  rw [hw] at s1
  refine ⟨_,_,_,.sl 0 0 ((l.take 13).map hvI).length none ((l.take 13).map hvI).length 1,s1,by simp,by simp only [resultsV,res16]; rfl,?_⟩
  exact res_li (b:=0) rfl (by simp)
theorem res26:Try.f26.results.toList=[.tmp 4]:=by kernel_rfl
abbrev iE (la lb:List HV) (j:Nat):Env:=env26 (.imm .arg 1 la) (.imm .arg 1 lb) (.bool false) (.int .i64 (j:Int))
theorem getD_at {o:List Int} {y:Nat} (h:y < o.length):o.getD y 0=o[y]:=by simp [List.getD,List.getElem?_eq_getElem h]
theorem ints_loop (a b:List Int) (hl:a.length=b.length) (hl2:a.length ≤ 1000):∀ (d j:Nat),j+d=a.length →
    ∃ x E,RT pol 26 (sn 58 B26) (iE (a.map hvI) (b.map hvI) j) [] x E [] ∧
      ((a.drop j=b.drop j∧x=.exit 0∧E=iE (a.map hvI) (b.map hvI) a.length) ∨ (a.drop j ≠ b.drop j∧x=.ret∧E.get 4=.bool false)):=by
  intro d
  induction d with
  | zero =>
    intro j hj
    have hj:j=a.length:=by omega
    subst hj
    exact ⟨_,_,lpo (r26_l_2 (a.map hvI) (b.map hvI) a.length (by simp)),.inl ⟨by rw [List.drop_length,hl,List.drop_length],rfl,rfl⟩⟩
  | succ d ih =>
    intro j hj
    have hja:j < a.length:=by omega
    have hjb:j < b.length:=by omega
    rw [List.drop_eq_getElem_cons hja,List.drop_eq_getElem_cons hjb]
    have g1:=gx hja
    have g2:=gx hjb
    rw [getD_at hja] at g1
    rw [getD_at hjb] at g2
    by_cases he:a[j]=b[j]
    · obtain ⟨x,E,h1,h2⟩:=ih (j+1) (by omega)
      have s1:=r26_l_0 (a.map hvI) (b.map hvI) j _ _ (by simp; omega) g1 g2 he
      rw [wrap_succ (by omega)] at s1
      refine ⟨x,E,lop s1 rfl h1,?_⟩
      rw [he]
      simpa only [List.cons.injEq,true_and,ne_eq] using h2
    · have s1:=r26_l_1 (a.map hvI) (b.map hvI) j _ _ (by simp; omega) g1 g2 he
      exact ⟨_,_,lpo s1,.inr ⟨fun h=>he (List.cons.inj h).1,rfl,rfl⟩⟩
theorem ints_ok:PrimOk Tp 26 ints26:=by
  refine primOk_pure (pol:=pol) (fn:=Try.f26) (cd:=B26) follows_mixed sound (by kernel_rfl) (by kernel_rfl) (fnok pol.prim _ _ (by kernel_rfl)) (by kernel_rfl) ?_
  intro args res h
  obtain ⟨a,b,rfl,hq⟩:=llF_inv h
  clear h
  have h:=hq
  clear hq
  split at h
  · rename_i hlen
    cases h
    have a1:=r26_a_0 (a.map hvI) (b.map hvI)
    by_cases hl:a.length=b.length
    · have b1:=r26_b_0 (a.map hvI) (b.map hvI) (by simp [hl])
      have c1:=r26_c_0 (a.map hvI) (b.map hvI)
      obtain ⟨x,E,h1,h2⟩:=ints_loop a b hl hlen a.length 0 (by omega)
      rw [List.drop_zero,List.drop_zero] at h2
      rcases h2 with ⟨k1,rfl,rfl⟩ | ⟨k1,rfl,k2⟩
      · have t1:=sq c1 (bke (c:=sn 29 B26) h1) (c:=sn 14 B26)
        have t2:=sq t1 (r26_z_0 (a.map hvI) (b.map hvI) a.length) (c:=sn 7 B26)
        have t3:=sq b1 t2 (c:=sn 3 B26)
        have t4:=sq a1 t3 (c:=B26)
        exact ⟨_,_,_,.bool (decide (a=b)),t4,by simp,by rw [decide_eq_true k1]; simp only [resultsV,res26]; rfl,rfl⟩
      · have t1:=sq c1 (RunsTo.block_ret (c:=sn 29 B26) (i:=0) h1 (by kernel_rfl)) (c:=sn 14 B26)
        have t2:=sqo t1 (c:=sn 7 B26) (b:=sn 15 B26)
        have t3:=sq b1 t2 (c:=sn 3 B26)
        have t4:=sq a1 t3 (c:=B26)
        exact ⟨_,_,_,.bool (decide (a=b)),t4,by simp,by rw [decide_eq_false k1]; simp only [resultsV,res26,mapO,resultV,k2],rfl⟩
    · have b1:=r26_b_1 (a.map hvI) (b.map hvI) (by simp; omega)
      have t3:=sqo b1 (c:=sn 3 B26) (b:=sn 7 B26)
      have t4:=sq a1 t3 (c:=B26)
      exact ⟨_,_,_,.bool (decide (a=b)),t4,by simp,by rw [decide_eq_false (fun h=>hl (by rw [h]))]; simp only [resultsV,res26]; rfl,rfl⟩
  · cases h
theorem res72:Try.f72.results.toList=[.tmp 4]:=by kernel_rfl
abbrev ixE (la:List HV) (v:Int) (j:Nat):Env:=env72 (.imm .arg 1 la) (.int .i64 v) (.int .i64 0) Ud (.int .i64 (la.length:Int)) (.int .i64 (j:Int))
theorem index_loop (l:List Int) (v:Int) (hl:l.length ≤ 1000):∀ (d j:Nat),j+d=l.length →
    ∃ x E,RT pol 72 (sn 26 B72) (ixE (l.map hvI) v j) [] x E [] ∧
      ((idxFrom v j (l.drop j)=-1∧x=.exit 0∧E=ixE (l.map hvI) v l.length) ∨ (x=.ret∧E.get 4=.int .i64 (idxFrom v j (l.drop j)))):=by
  intro d
  induction d with
  | zero =>
    intro j hj
    have hj:j=l.length:=by omega
    subst hj
    exact ⟨_,_,lpo (ix_l_2 (l.map hvI) v l.length (by simp)),.inl ⟨by rw [List.drop_length]; rfl,rfl,rfl⟩⟩
  | succ d ih =>
    intro j hj
    have hjl:j < l.length:=by omega
    have g1:=gx hjl
    rw [getD_at hjl] at g1
    rw [List.drop_eq_getElem_cons hjl,idxFrom]
    by_cases he:v=l[j]
    · rw [if_pos he]
      have s1:=ix_l_0 (l.map hvI) v j _ (by simp; omega) g1 he
      exact ⟨_,_,lpo s1,.inr ⟨rfl,rfl⟩⟩
    · rw [if_neg he]
      obtain ⟨x,E,h1,h2⟩:=ih (j+1) (by omega)
      have s1:=ix_l_1 (l.map hvI) v j _ (by simp; omega) g1 he
      rw [wrap_succ (by omega)] at s1
      exact ⟨x,E,lop s1 rfl h1,h2⟩
theorem index_ok:PrimOk Tp 72 index72:=by
  refine primOk_pure (pol:=pol) (fn:=Try.f72) (cd:=B72) follows_mixed sound (by kernel_rfl) (by kernel_rfl) (fnok pol.prim _ _ (by kernel_rfl)) (by kernel_rfl) ?_
  intro args res h
  obtain ⟨l,v,rfl,hq⟩:=lnF_inv h
  clear h
  have h:=hq
  clear hq
  split at h
  · rename_i hlen
    cases h
    have a1:=ix_a_0 (l.map hvI) v
    have b1:=ix_b_0 (l.map hvI) v
    obtain ⟨x,E,h1,h2⟩:=index_loop l v hlen l.length 0 (by omega)
    rw [List.drop_zero] at h2
    rcases h2 with ⟨k1,rfl,rfl⟩ | ⟨rfl,k2⟩
    · have t1:=sq b1 (bke (c:=sn 13 B72) h1) (c:=sn 6 B72)
      have t2:=sq t1 (ix_z_0 (l.map hvI) v l.length) (c:=sn 3 B72)
      have t3:=sq a1 t2 (c:=B72)
      exact ⟨_,_,_,.int .i64 (idxFrom v 0 l),t3,by simp,by rw [k1]; simp only [resultsV,res72]; rfl,rfl⟩
    · have t1:=sq b1 (RunsTo.block_ret (c:=sn 13 B72) (i:=0) h1 (by kernel_rfl)) (c:=sn 6 B72)
      have t2:=sqo t1 (c:=sn 3 B72) (b:=sn 7 B72)
      have t3:=sq a1 t2 (c:=B72)
      exact ⟨_,_,_,.int .i64 (idxFrom v 0 l),t3,by simp,by simp only [resultsV,res72,mapO,resultV,k2],rfl⟩
  · cases h
theorem soundX (n:Nat):CallSound Tp (callN Tp polX n):=sound_prim _ (fun g f h=>by
  split at h
  · rename_i hg; cases h; rw [eq_of_beq hg]; exact index_ok
  · cases h) n
theorem idxFrom_mem (v:Int):∀ (l:List Int) (j:Nat),0 ≤ idxFrom v j l ↔ v ∈ l
  | [],j=>by simp [idxFrom]
  | x :: l,j=>by
    rw [idxFrom]
    by_cases h:v=x
    · subst h; simp
    · have h':¬ x=v:=fun e=>h e.symm
      simp [h,h',idxFrom_mem v l (j+1)]
theorem res60:Try.f60.results.toList=[.tmp 4]:=by kernel_rfl
theorem contains_ok:PrimOk Tp 60 contains60:=by
  refine primOk_pure (pol:=polX) (fn:=Try.f60) (cd:=B60) follows_mixed soundX (by kernel_rfl) (by kernel_rfl) (fnok polX.prim _ _ (by kernel_rfl)) (by kernel_rfl) ?_
  intro args res h
  obtain ⟨l,v,rfl,hq⟩:=lnF_inv h
  clear h
  have h:=hq
  clear hq
  split at h
  · rename_i hl
    cases h
    have hc:∀ k,callN Tp polX (k+1) 72 [.imm .arg 1 (l.map hvI),.int .i64 v] []=some (.int .i64 (idxFrom v 0 l),[]):=fun k=>by
      rw [prim_call (pol:=polX) (g:=72) (F:=index72) (by kernel_rfl) (rs:=[.imm .arg 1 (l.map hvI),.int .i64 v]) (by simp only [mapO,arg_li]; rfl) (res:=.int .i64 (idxFrom v 0 l)) (by simp only [index72,lnF,mapO_map decI_enc]; rw [if_pos hl])]; rfl
    by_cases hm:v ∈ l
    · rw [decide_eq_true hm]
      exact ⟨_,_,_,_,ct_0 (l.map hvI) v _ hc ((idxFrom_mem v l 0).2 hm),by simp,by simp only [resultsV,res60]; rfl,rfl⟩
    · rw [decide_eq_false hm]
      exact ⟨_,_,_,_,ct_1 (l.map hvI) v _ hc (fun h=>hm ((idxFrom_mem v l 0).1 h)),by simp,by simp only [resultsV,res60]; rfl,rfl⟩
  · cases h
theorem at_bd {d:List (List Int)} (h:okD d) {i j:Nat} (hi:i < d.length) (hj:j < d.length):0 ≤ at2 d i j∧at2 d i j ≤ 1000:=(h.2.2 i hi j hj).1
theorem inT_at {n:Nat} {l:List Int} (h:inT n l) {j:Nat} (hj:j < l.length):0 ≤ l.getD j 0∧(l.getD j 0).toNat < n:=by
  have:=h (l.getD j 0) (by rw [getD_at hj]; exact List.getElem_mem hj)
  omega
theorem rem_len {j n:Nat} (hn:0 < n) (hj:j < 1000000):binV Tp .rem 3 (.int .i64 (IntKind.i64.wrap ((j:Int)+1))) (.int .i64 (n:Int))=some (.int .i64 ((IntKind.i64.wrap ((j:Int)+1):Int).tmod (n:Int)))∧(IntKind.i64.wrap ((j:Int)+1):Int).tmod (n:Int)=(((j+1) % n:Nat):Int):=by
  refine ⟨?_,?_⟩
  · have:(n:Int) ≠ 0:=by omega
    simp only [BV,binV,intBin,if_neg this,if_true]
  · rw [wrap_succ (by omega),← Int.ofNat_tmod]
theorem getR_len {d:List (List Int)} (h:okD d) {i:Nat} (hi:i < d.length):(d.getD i []).length=d.length:=h.2.1 i hi
section
variable {d:List (List Int)} {l:List Int}
theorem len_args (h:okD d) (hl:inT d.length l) {j:Nat} (hj:j < l.length):∃ a b:Int,l.getD j 0=a∧l.getD ((j+1) % l.length) 0=b∧(0 ≤ a∧a.toNat < d.length)∧(0 ≤ b∧b.toNat < d.length)∧(j+1) % l.length < l.length:=by
  have hm:(j+1) % l.length < l.length:=Nat.mod_lt _ (by omega)
  exact ⟨_,_,rfl,rfl,inT_at hl hj,inT_at hl hm,hm⟩
theorem rl_loop (h:okD d) (hl:inT d.length l) (h9:l.length ≤ 1000):∀ (k j:Nat) (s:Int),j+k=l.length → (0 ≤ s∧s ≤ 1000 * j) →
    RT pol 37 (sn 122 B37) (env37 (.a (d.map encR)) (.a (l.map hvI)) (.i 0) (.i (l.length:Int)) (.i s) (.i (j:Int))) [] (.exit 0)
      (env37 (.a (d.map encR)) (.a (l.map hvI)) (.i 0) (.i (l.length:Int)) (.i (lenGo d l k j s)) (.i (l.length:Int))) []:=by
  intro k
  induction k with
  | zero =>
    intro j s hj hs
    have hj:j=l.length:=by omega
    subst hj
    have s1:=rl_l_1 (d.map encR) (l.map hvI) s l.length (by simp)
    rw [List.length_map] at s1
    exact lpo s1
  | succ k ih =>
    intro j s hj hs
    have hjl:j < l.length:=by omega
    obtain ⟨a,b,ha,hb,⟨a0,a1⟩,⟨b0,b1⟩,hm⟩:=len_args h hl hjl
    obtain ⟨r1,r2⟩:=rem_len (j:=j) (n:=l.length) (by omega) (by omega)
    have g1:=gx hjl
    rw [ha] at g1
    have g4:=gx hm
    rw [hb,← r2] at g4
    have hbd:=at_bd h a1 b1
    have g5:=gxi (l:=d.getD a.toNat []) b0 (by rw [getR_len h a1]; exact b1)
    have s1:=rl_l_0 (d.map encR) (l.map hvI) s j a ((d.getD a.toNat []).map hvI) b (at2 d a.toNat b.toNat) (by simp; omega) g1 (gri a0 a1) (by rw [List.length_map]; exact r1) (by rw [List.length_map]; exact g4) g5
    rw [wrap_succ (by omega),wrap_id (by omega) (by omega),List.length_map] at s1
    have hr:=ih (j+1) (s+at2 d a.toNat b.toNat) (by omega) (by omega)
    rw [lenGo,ha,hb]
    exact lop s1 rfl hr
abbrev mlE (d:List (List Int)) (l:List Int) (s:Int) (j:Nat):Env:=env56 (.imm .arg 1 (d.map encR)) (.imm .arg 1 (l.map hvI)) (.int .i64 0) (.int .i64 s) Ud Ud (.imm .arg 1 (l.map hvI)) (.int .i64 (l.length:Int)) (.int .i64 (j:Int))
theorem ml_loop (h:okD d) (hl:inT d.length l) (h9:l.length ≤ 1000):∀ (k j:Nat) (s:Int),j+k=l.length → (0 ≤ s∧s ≤ 1000 * j) →
    RT pol 56 (sn 58 B56) (mlE d l s j) [] (.exit 0) (mlE d l (lenGo d l k j s) l.length) []:=by
  intro k
  induction k with
  | zero =>
    intro j s hj hs
    have hj:j=l.length:=by omega
    subst hj
    have s1:=ml_l_1 (d.map encR) (l.map hvI) s l.length (by simp)
    rw [List.length_map] at s1
    exact lpo s1
  | succ k ih =>
    intro j s hj hs
    have hjl:j < l.length:=by omega
    obtain ⟨a,b,ha,hb,⟨a0,a1⟩,⟨b0,b1⟩,hm⟩:=len_args h hl hjl
    obtain ⟨r1,r2⟩:=rem_len (j:=j) (n:=l.length) (by omega) (by omega)
    have g1:=gx hjl
    rw [ha] at g1
    have g4:=gx hm
    rw [hb,← r2] at g4
    have hbd:=at_bd h a1 b1
    have g5:=gxi (l:=d.getD a.toNat []) b0 (by rw [getR_len h a1]; exact b1)
    have s1:=ml_l_0 (d.map encR) (l.map hvI) s j a ((d.getD a.toNat []).map hvI) b (at2 d a.toNat b.toNat) (by simp; omega) g1 (gm a0 a1) (by rw [List.length_map]; exact r1) (by rw [List.length_map]; exact g4) g5
    rw [wrap_succ (by omega),wrap_id (by omega) (by omega),List.length_map] at s1
    have hr:=ih (j+1) (s+at2 d a.toNat b.toNat) (by omega) (by omega)
    rw [lenGo,ha,hb]
    exact lop s1 rfl hr
end
theorem res37:Try.f37.results.toList=[.tmp 4]:=by kernel_rfl
theorem res56:Try.f56.results.toList=[.tmp 4]:=by kernel_rfl
theorem rlen_ok:PrimOk Tp 37 len56:=by
  refine primOk_pure (pol:=pol) (fn:=Try.f37) (cd:=B37) follows_mixed sound (by kernel_rfl) (by kernel_rfl) (fnok pol.prim _ _ (by kernel_rfl)) (by kernel_rfl) ?_
  intro args res h
  obtain ⟨d,l,rfl,hq⟩:=rlF_inv h
  clear h
  have h:=hq
  clear hq
  split at h
  · rename_i hc
    cases h
    obtain ⟨h1,h2,h3⟩:=hc
    have a1:=rl_a_0 (d.map encR) (l.map hvI)
    have b1:=rl_b_0 (d.map encR) (l.map hvI)
    have c1:=rl_c_0 (d.map encR) (l.map hvI)
    have d1:=rl_d_0 (d.map encR) (l.map hvI) 0
    have r:=rl_loop h1 h2 h3 l.length 0 0 (by omega) (by omega)
    have z1:=rl_z_0 (d.map encR) (l.map hvI) (lenT d l) l.length
    rw [List.length_map] at b1 c1 d1 z1
    have t1:=sq d1 (bke (c:=sn 61 B37) r) (c:=sn 30 B37)
    have t2:=sq c1 (sq t1 z1 (c:=sn 15 B37)) (c:=sn 7 B37)
    have t3:=sq a1 (sq b1 t2 (c:=sn 3 B37)) (c:=B37)
    exact ⟨_,_,_,.int .i64 (lenT d l),t3,by simp,by simp only [resultsV,res37]; rfl,rfl⟩
  · cases h
theorem mlen_ok:PrimOk Tp 56 len56:=by
  refine primOk_pure (pol:=pol) (fn:=Try.f56) (cd:=B56) follows_mixed sound (by kernel_rfl) (by kernel_rfl) (fnok pol.prim _ _ (by kernel_rfl)) (by kernel_rfl) ?_
  intro args res h
  obtain ⟨d,l,rfl,hq⟩:=rlF_inv h
  clear h
  have h:=hq
  clear hq
  split at h
  · rename_i hc
    cases h
    obtain ⟨h1,h2,h3⟩:=hc
    have a1:=ml_a_0 (d.map encR) (l.map hvI)
    have b1:=ml_b_0 (d.map encR) (l.map hvI)
    have c1:=ml_c_0 (d.map encR) (l.map hvI) 0
    have r:=ml_loop h1 h2 h3 l.length 0 0 (by omega) (by omega)
    have z1:=ml_z_0 (d.map encR) (l.map hvI) (lenT d l) l.length
    rw [List.length_map] at c1 z1
    have t1:=sq c1 (bke (c:=sn 29 B56) r) (c:=sn 14 B56)
    have t2:=sq b1 (sq t1 z1 (c:=sn 7 B56)) (c:=sn 3 B56)
    exact ⟨_,_,_,.int .i64 (lenT d l),sq a1 t2 (c:=B56),by simp,by simp only [resultsV,res56]; rfl,rfl⟩
  · cases h
theorem lit_seal' {P:Program} {H:Heap} {t e k b p mx bt:Nat} {zv:HV} {els:List HV} (ht:P.underlying t=some (.slice e)) (hI:(P.info? e).map (fun i=>(i.size,i.bytes,i.zero.map ofConst))=some (1,bt,some zv)) (hc:(cellsOf zv).all cellV=true) (hs:(cellsOf zv).length=1)
    (hb:H[b]?=some (.arr k els true mx)) (hp:els.length=p) (hr:resPL els=true) :
    ∃ w,litV P true false t 1 [(0,.sl b 0 p none p k)] H=some (.imm .lit 1 [.imm .own k els],H.set b (.arr k els w mx)):=by
  by_cases h0:p=0
  · subst h0
    have hn:els=[]:=List.length_eq_zero_iff.1 hp
    subst hn
    refine ⟨true,?_⟩
    have hH:H.set b (.arr k [] true mx)=H:=by
      apply List.ext_getElem?
      intro i
      rw [List.getElem?_set]
      split
      · rename_i hi
        subst hi
        split
        · exact hb.symm
        · rename_i hlt; exact absurd (lt_of_get hb) hlt
      · rfl
    rw [hH]
    cases hi:P.info? e with
    | none=>rw [hi] at hI; cases hI
    | some i =>
      rw [hi] at hI
      simp only [Option.map_some,Option.some.injEq,Prod.mk.injEq] at hI
      obtain ⟨h1,rfl,hz⟩:=hI
      cases hz2:i.zero with
      | none=>rw [hz2] at hz; cases hz
      | some z =>
        rw [hz2] at hz
        simp only [Option.map_some,Option.some.injEq] at hz
        subst hz
        have hse:seals [.sl b 0 0 none 0 k] H=some ([.imm .own k []],H):=by simp only [seals,seal1,if_true]
        simp only [litV,ht,hi,hz2,if_true,List.map_cons,List.map_nil,hse,h1]
        rw [if_pos ⟨by omega,hs,hc,by omega,by simp [cellsOf,cellV],by simp⟩]
        simp [bndL,bnd]
  · exact ⟨false,lit_seal ht hI hc hs hb hp h0 hr⟩
theorem info23:(Tp.info? 23).map (fun i=>(i.size,i.bytes,i.zero.map ofConst))=some (1,24,some (.imm .lit 0 [])):=by kernel_rfl
theorem soundL (n:Nat):CallSound Tp (callN Tp polL n):=sound_prim _ (fun g f h=>by
  split at h
  · rename_i hg; cases h; rw [eq_of_beq hg]; exact list_ok
  · cases h) n
theorem frz_rowO {H:Heap} {no:List Nat} (l:List Int):frz H no 4 (encO l)=some (encO l):=by
  have:resP (encO l)=true:=by simp only [encO,resP,ints_res]; rfl
  show (if resP (encO l) then some (encO l) else none)=_
  rw [this]; rfl
abbrev bR (L:List (List Int)):Blk:=.arr 1 (L.map encO) true 0
theorem table_loop (R:List (List Int)):∀ (d i:Nat) (L:List (List Int)),i+d=min R.length 12 → L.length=i →
    RunsTo Tp polL 15 (sn 58 B15) (env15 (.a (R.map encR)) (.imm .lit 1 []) (.s 0 L.length) (.i (i:Int))) [bR L]
      (.exit 0) (polL.keys 15) (env15 (.a (R.map encR)) (.imm .lit 1 []) (.sl 0 0 (L ++ ((R.drop i).take d).map (·.take 13)).length none (L ++ ((R.drop i).take d).map (·.take 13)).length 1) (.i ((min R.length 12:Nat):Int))) [bR (L ++ ((R.drop i).take d).map (·.take 13))]:=by
  intro d
  induction d with
  | zero =>
    intro i L hi hL
    rw [List.take_zero,List.map_nil,List.append_nil]
    have hi:i=min R.length 12:=by omega
    by_cases h:R.length ≤ 12
    · have s1:=ta_l_2 (R.map encR) (L.map encO) L.length i (by rw [List.length_map]; omega)
      rw [← hi]
      exact lpo s1
    · have s1:=ta_l_1 (R.map encR) (L.map encO) L.length i (by rw [List.length_map]; omega) (by omega)
      rw [← hi]
      exact lpo s1
  | succ d ih =>
    intro i L hi hL
    have hil:i < R.length:=by omega
    rw [List.drop_eq_getElem_cons hil,List.take_succ_cons,List.map_cons]
    have hg:=gr hil
    have hRi:R.getD i []=R[i]:=by simp [List.getD,List.getElem?_eq_getElem hil]
    rw [hRi] at hg
    generalize R[i]=r at hg
    have h:=ih (i+1) (L ++ [r.take 13]) (by omega) (by simp [hL])
    rw [List.append_assoc,List.singleton_append] at h
    have hc:∀ kf,callN Tp polL (kf+1) 16 [.imm .arg 1 (r.map hvI)] [bR L]=some (.sl 1 0 (r.take 13).length none (r.take 13).length 1,[bR L,bI (r.take 13)]):=fun kf=>by
      rw [prim_call (pol:=polL) (g:=16) (F:=list16) (by kernel_rfl) (rs:=[.imm .arg 1 (r.map hvI)]) (by simp only [mapO,arg_li]) (res:=.own 1 ((r.take 13).map hvI)) (by simp only [list16,liF,mapO_map decI_enc]),recv_ints]
      rfl
    generalize r.take 13=row at h hc
    obtain ⟨w,hlit⟩:=lit_seal' (P:=Tp) (H:=[bR L,bI row]) (t:=22) (b:=1) (p:=row.length) u22 info23 rfl rfl rfl (by simp) (ints_res row)
    have hap:=app_sl (H:=[bR L,.arr 1 (row.map hvI) w 0]) (k:=1) (bytes:=24) (b:=0) (n:=L.length) (mx:=0) (els:=L.map encO) (xs:=[.imm .own 1 (row.map hvI)]) rfl (by simp) (by simp) (by simp only [List.length_singleton,roomMax]; omega) rfl
    have s2:=ta_l_0 (R.map encR) (L.map encO) L.length i (r.map hvI) row.length (row.map hvI) w (by rw [List.length_map]; omega) (by omega) hg hc hlit hap
    rw [wrap_succ (by omega)] at s2
    have e3:(L ++ [row]).length=L.length+1:=by simp
    have e4:(L ++ [row]).map encO=L.map encO ++ [.imm .own 1 (row.map hvI)]:=by simp [encO]
    unfold bR at h
    rw [e3,e4] at h
    exact lop s2 (by kernel_rfl) h
theorem res15:Try.f15.results.toList=[.tmp 2]:=by kernel_rfl
theorem table_ok:PrimOk Tp 15 table15:=by
  refine primOk_pure (pol:=polL) (fn:=Try.f15) (cd:=B15) follows_mixed soundL (by kernel_rfl) (by kernel_rfl) (fnok polL.prim _ _ (by kernel_rfl)) (by kernel_rfl) ?_
  intro args res h
  obtain ⟨R,rfl,hq⟩:=rwF_inv h
  clear h
  cases hq
  have a1:=ta_a_0 (R.map encR)
  have b1:=ta_b_0 (R.map encR)
  have c1:=ta_c_0 (R.map encR) [] 0
  have l1:=table_loop R (min R.length 12) 0 [] (by omega) rfl
  have eL:[] ++ ((R.drop 0).take (min R.length 12)).map (·.take 13)=tabL R:=by rw [List.nil_append,List.drop_zero,tabL,take_min]
  rw [eL] at l1
  have z1:=ta_z_0 (R.map encR) ((tabL R).map encO) (tabL R).length (min R.length 12)
  have t1:=sq c1 (bke (c:=sn 29 B15) l1) (c:=sn 14 B15)
  have t2:=sq t1 z1 (c:=sn 7 B15)
  have t3:=sq b1 t2 (c:=sn 3 B15)
  have t4:=sq a1 t3 (c:=B15)
  have hr2:=resCell_sl (H:=[bR (tabL R)]) (no:=[0]) (b:=0) (k:=1) (m:=(tabL R).length) (cap:=none) (els:=(tabL R).map encO) rfl (by simp) (mapO_self frz_rowO _)
  have ho:ownedAll [bR (tabL R)] false (.sl 0 0 (tabL R).length none (tabL R).length 1)=[0]:=rfl
  refine ⟨_,_,_,.sl 0 0 (tabL R).length none (tabL R).length 1,t4,by simp,by simp only [resultsV,res15]; rfl,?_⟩
  show toRes _ false _=_
  simp only [toRes,ho,List.nodup_cons,List.not_mem_nil,not_false_eq_true,List.nodup_nil,and_self,if_true,resVal,hr2]
theorem nodup_take {l:List Int} {j:Nat} (hj:j < l.length):(l.take (j+1)).Nodup ↔ (l.take j).Nodup∧l[j] ∉ l.take j:=by
  rw [List.take_succ_eq_append_getElem hj,List.nodup_append]
  constructor
  · rintro ⟨h1,_,h3⟩
    exact ⟨h1,fun hm=>h3 _ hm _ (by simp) rfl⟩
  · rintro ⟨h1,h2⟩
    exact ⟨h1,by simp,fun x hx y hy e=>by
      rw [List.mem_singleton] at hy
      exact h2 (by rw [← hy,← e]; exact hx)⟩
structure Gd (n:Nat) (l:List Int) (j:Nat):Prop where
  rng:inT n (l.take j)
  nd:(l.take j).Nodup
theorem Gd.zero (n:Nat) (l:List Int):Gd n l 0:=⟨by simp [inT],by simp⟩
theorem Gd.succ {n:Nat} {l:List Int} {j:Nat} (h:Gd n l j) (hj:j < l.length) (h1:0 ≤ l[j]∧l[j] < (n:Int)) (h2:l[j] ∉ l.take j):Gd n l (j+1):=by
  refine ⟨fun v hv=>?_,(nodup_take hj).2 ⟨h.nd,h2⟩⟩
  rw [List.take_succ_eq_append_getElem hj,List.mem_append,List.mem_singleton] at hv
  rcases hv with hv | rfl
  · exact h.rng v hv
  · exact h1
theorem Gd.all {n:Nat} {l:List Int} (h:Gd n l l.length):inT n l∧l.Nodup:=by
  obtain ⟨h1,h2⟩:=h
  rw [List.take_length] at h1 h2
  exact ⟨h1,h2⟩
structure Mk (n:Nat) (l:List Int) (j:Nat) (bs:List Bool):Prop where
  len:bs.length=n
  iff:∀ y,y < n → (bs.getD y false=true ↔ (y:Int) ∈ l.take j)
theorem Mk.succ {n:Nat} {l:List Int} {j:Nat} {bs:List Bool} (h:Mk n l j bs) (hj:j < l.length) (h1:0 ≤ l[j]∧l[j].toNat < n):Mk n l (j+1) (bs.set l[j].toNat true):=by
  refine ⟨by rw [List.length_set]; exact h.len,fun y hy=>?_⟩
  have hl:=h.len
  rw [List.take_succ_eq_append_getElem hj,List.mem_append,List.mem_singleton,List.getD,List.getElem?_set]
  by_cases e:l[j].toNat=y
  · rw [if_pos e,if_pos (by omega)]
    simp
    right; omega
  · rw [if_neg e]
    have:=h.iff y hy
    rw [List.getD] at this
    rw [this]
    constructor
    · exact fun h=>.inl h
    · rintro (h | h)
      · exact h
      · omega
end Go.Proofs.Ytlendaofkmhgmaa
end
section
open Go Go.HL
namespace Go.Proofs.Ytlendaofkmhgmaa
set_option maxRecDepth 100000
set_option linter.unusedSectionVars false
open Go.Proofs.Try renaming prog → Tp
open Go.HL.HV renaming undef → Ud
noncomputable def B68:Code:=Try.f68.body.getD .skip
abbrev env68 (v0 v2:HV):Env:=[(0,v0),(2,v2)]
theorem m1_0 (n:Int) (g0:(0:Int) ≤ n∧n ≤ (1000:Int)): RT polW 68 (sub [] B68) [(0,.i n)] [] .ret (env68 (.i n) (.bool false)) [] :=
  hx 0 60 [jT 1 1 [] g0]
theorem m1_1 (n:Int) (g0:¬ ((0:Int) ≤ n∧n ≤ (1000:Int))): RT polW 68 (sub [] B68) [(0,.i n)] [] .ret (env68 (.i n) (.bool true)) [] :=
  hx 0 60 [jF 1 1 [] g0]
noncomputable def B69:Code:=Try.f69.body.getD .skip
abbrev env69 (v0 v1 v4 v5 v7 v8:HV):Env:=[(0,v0),(1,v1),(4,v4),(5,v5),(7,v7),(8,v8)]
abbrev e69 (la:List HV) (u3 u4 u5:HV):Env:=env69 (.a la) (.func 68 [] []) (.i 0) u3 u4 u5
section
variable (la:List HV) (H:Heap)
include la H
theorem jx_a_0:RT polM 69 (sn 2 B69) [(0,.a la),(1,.func 68 [] [])] H .normal (e69 la Ud Ud Ud) H :=
  hx 0 60 []
end
section
variable (la:List HV) (H:Heap)
include la H
theorem jx_b_0:RT polM 69 (sn 12 B69) (e69 la Ud Ud Ud) H .normal (e69 la Ud (.i (la.length:Int)) (.i 0)) H :=
  hx 0 60 []
theorem jx_l_0 (j:Nat) (x0:Int) (H0:Heap) (g0:(j:Int) < (la.length:Int)) (g1:IX 23 (.a la) (.n j) (.vptr (.i x0))) (g2:∀ kf,callN Tp polM (kf+1) 68 [.i x0] H=some (.bool true,H0)): RT polM 69 (sn 52 B69) (e69 la Ud (.i (la.length:Int)) (.n j)) H .ret (env69 (.a la) (.func 68 [] []) (.n j) (.n j) (.i (la.length:Int)) (.n j)) H0 :=
  hx 0 60 [jT 2 0 H g0,jO 4 3 H g1,jD 4 5 g2]
theorem jx_l_1 (j:Nat) (x0:Int) (H0:Heap) (g0:(j:Int) < (la.length:Int)) (g1:IX 23 (.a la) (.n j) (.vptr (.i x0))) (g2:∀ kf,callN Tp polM (kf+1) 68 [.i x0] H=some (.bool false,H0)): RT polM 69 (sn 52 B69) (e69 la Ud (.i (la.length:Int)) (.n j)) H .normal (e69 la (.n j) (.i (la.length:Int)) (.i (IntKind.i64.wrap ((j:Int)+1)))) H0 :=
  hx 0 60 [jT 2 0 H g0,jO 4 3 H g1,jD 4 5 g2]
theorem jx_l_2 (j:Nat) (g0:¬ ((j:Int) < (la.length:Int))): RT polM 69 (sn 52 B69) (e69 la Ud (.i (la.length:Int)) (.n j)) H (.exit 0) (e69 la Ud (.i (la.length:Int)) (.n j)) H :=
  hx 0 60 [jF 2 0 H g0]
theorem jx_z_0 (j:Nat): RT polM 69 (sn 7 B69) (e69 la Ud (.i (la.length:Int)) (.n j)) H .ret (env69 (.a la) (.func 68 [] []) (.i (-1)) Ud (.i (la.length:Int)) (.n j)) H :=
  hx 0 60 []
end
noncomputable def B47:Code:=Try.f47.body.getD .skip
abbrev env47 (v0 v1 v4:HV):Env:=[(0,v0),(1,v1),(4,v4)]
theorem cf_0 (N:Nat) (la:List HV) (H:Heap) (r:Int) (H0:Heap) (g0:∀ kf,N ≤ kf → callN Tp polM (kf+1) 69 [.a la,.func 68 [] []] H=some (.i r,H0)) (g1:0 ≤ r): RT polM 47 (sub [] B47) [(0,.a la),(1,.func 68 [] [])] H .ret (env47 (.a la) (.func 68 [] []) (.bool true)) H0 :=
  hx N 60 [jC 1 2 g0,jT 1 3 H0 g1]
theorem cf_1 (N:Nat) (la:List HV) (H:Heap) (r:Int) (H0:Heap) (g0:∀ kf,N ≤ kf → callN Tp polM (kf+1) 69 [.a la,.func 68 [] []] H=some (.i r,H0)) (g1:¬ (0 ≤ r)): RT polM 47 (sub [] B47) [(0,.a la),(1,.func 68 [] [])] H .ret (env47 (.a la) (.func 68 [] []) (.bool false)) H0 :=
  hx N 60 [jC 1 2 g0,jF 1 3 H0 g1]
noncomputable def B46:Code:=Try.f46.body.getD .skip
abbrev env46 (v0 v2 v4 v5 v6 v7 v8 v13 v14 v15 v29 v30 v31 v36 v37 v38:HV):Env:=[(0,v0),(2,v2),(4,v4),(5,v5),(6,v6),(7,v7),(8,v8),(13,v13),(14,v14),(15,v15),(29,v29),(30,v30),(31,v31),(36,v36),(37,v37),(38,v38)]
abbrev e46 (rw:List HV) (u2 u3 u4 u5 u6 u7 u8 u9 u10 u11 u12 u13 u14 u15:HV):Env:=env46 (.a rw) (.bool false) u2 u3 u4 u5 u6 u7 u8 u9 u10 u11 u12 u13 u14 u15
section
variable (N:Nat) (rw:List HV)
include N rw
theorem im_a_0:RT polM 46 (sn 2 B46) [(0,.a rw)] [] .normal (e46 rw Ud Ud Ud Ud Ud Ud Ud Ud Ud Ud Ud Ud Ud Ud) [] :=
  hx N 60 []
end
section
variable (N:Nat) (rw:List HV)
include N rw
theorem im_b_0 (g0:(1:Int) ≤ (rw.length:Int)∧(rw.length:Int) ≤ (11:Int)): RT polM 46 (sn 6 B46) (e46 rw Ud Ud Ud Ud Ud Ud Ud Ud Ud Ud Ud Ud Ud Ud) [] .normal (e46 rw Ud Ud Ud Ud Ud Ud Ud Ud Ud Ud Ud Ud Ud Ud) [] :=
  hx N 60 [jT 1 2 [] g0]
theorem im_b_1 (g0:¬ ((1:Int) ≤ (rw.length:Int)∧(rw.length:Int) ≤ (11:Int))): RT polM 46 (sn 6 B46) (e46 rw Ud Ud Ud Ud Ud Ud Ud Ud Ud Ud Ud Ud Ud Ud) [] .ret (e46 rw Ud Ud Ud Ud Ud Ud Ud Ud Ud Ud Ud Ud Ud Ud) [] :=
  hx N 60 [jF 1 2 [] g0]
theorem im_c_0:RT polM 46 (sn 28 B46) (e46 rw Ud Ud Ud Ud Ud Ud Ud Ud Ud Ud Ud Ud Ud Ud) [] .normal (e46 rw Ud Ud Ud Ud Ud (.a rw) (.i (rw.length:Int)) (.i 0) Ud Ud Ud Ud Ud Ud) [] :=
  hx N 60 []
theorem im_l_0 (i:Nat) (H:Heap) (la:List HV) (l0:List HV) (H0:Heap) (g0:(i:Int) < (rw.length:Int)) (g1:IX 22 (.a rw) (.n i) (.vptr (.a l0))) (g2:(l0.length:Int)=(rw.length:Int)) (g3:∀ kf,N ≤ kf → callN Tp polM (kf+1) 47 [.a l0,.func 68 [] []] H=some (.bool true,H0)): RT polM 46 (sn 116 B46) (e46 rw Ud Ud Ud Ud Ud (.a rw) (.i (rw.length:Int)) (.n i) Ud Ud Ud Ud Ud Ud) H .ret (e46 rw (.a l0) Ud Ud Ud Ud (.a rw) (.i (rw.length:Int)) (.n i) Ud Ud Ud Ud Ud Ud) H0 :=
  hx N 60 [jT 4 0 H g0,jO 5 0 H g1,jB 6 4 H (congrArg not (decide_eq_true g2)),jC 6 7 g3]
theorem im_l_1 (i:Nat) (H:Heap) (la:List HV) (l0:List HV) (H0:Heap) (g0:(i:Int) < (rw.length:Int)) (g1:IX 22 (.a rw) (.n i) (.vptr (.a l0))) (g2:(l0.length:Int)=(rw.length:Int)) (g3:∀ kf,N ≤ kf → callN Tp polM (kf+1) 47 [.a l0,.func 68 [] []] H=some (.bool false,H0)): RT polM 46 (sn 116 B46) (e46 rw Ud Ud Ud Ud Ud (.a rw) (.i (rw.length:Int)) (.n i) Ud Ud Ud Ud Ud Ud) H .normal (e46 rw (.a l0) Ud Ud Ud Ud (.a rw) (.i (rw.length:Int)) (.i (IntKind.i64.wrap ((i:Int)+1))) Ud Ud Ud Ud Ud Ud) H0 :=
  hx N 60 [jT 4 0 H g0,jO 5 0 H g1,jB 6 4 H (congrArg not (decide_eq_true g2)),jC 6 7 g3]
theorem im_l_2 (i:Nat) (H:Heap) (la:List HV) (l0:List HV) (g0:(i:Int) < (rw.length:Int)) (g1:IX 22 (.a rw) (.n i) (.vptr (.a l0))) (g2:¬ ((l0.length:Int)=(rw.length:Int))): RT polM 46 (sn 116 B46) (e46 rw Ud Ud Ud Ud Ud (.a rw) (.i (rw.length:Int)) (.n i) Ud Ud Ud Ud Ud Ud) H .ret (e46 rw (.a l0) Ud Ud Ud Ud (.a rw) (.i (rw.length:Int)) (.n i) Ud Ud Ud Ud Ud Ud) H :=
  hx N 60 [jT 4 0 H g0,jO 5 0 H g1,jB 6 4 H (congrArg not (decide_eq_false g2))]
theorem im_l_3 (i:Nat) (H:Heap) (la:List HV) (g0:¬ ((i:Int) < (rw.length:Int))): RT polM 46 (sn 116 B46) (e46 rw Ud Ud Ud Ud Ud (.a rw) (.i (rw.length:Int)) (.n i) Ud Ud Ud Ud Ud Ud) H (.exit 0) (e46 rw Ud Ud Ud Ud Ud (.a rw) (.i (rw.length:Int)) (.n i) Ud Ud Ud Ud Ud Ud) H :=
  hx N 60 [jF 4 0 H g0]
theorem im_d_0 (i:Nat) (H:Heap) (v4:HV): RT polM 46 (sn 60 B46) (e46 rw v4 Ud Ud Ud Ud (.a rw) (.i (rw.length:Int)) (.n i) Ud Ud Ud Ud Ud Ud) H .normal (e46 rw v4 Ud Ud Ud Ud (.a rw) (.i (rw.length:Int)) (.n i) (.a rw) (.i (rw.length:Int)) (.i 0) Ud Ud Ud) H :=
  hx N 60 []
theorem im_e_0 (i:Nat) (H:Heap) (g0:(i:Int) < (rw.length:Int)): RunsTo Tp polM 46 (sn 488 B46) (e46 rw Ud Ud Ud Ud Ud Ud Ud Ud (.a rw) (.i (rw.length:Int)) (.n i) Ud Ud Ud) H .normal [0,2,4,5,6,7,8,13,14,15,29,30,31,36,37,38,32] [(0,.a rw),(2,.bool false),(4,Ud),(5,Ud),(6,Ud),(7,Ud),(8,Ud),(13,Ud),(14,Ud),(15,Ud),(29,.a rw),(30,.i (rw.length:Int)),(31,.n i),(36,Ud),(37,Ud),(38,Ud),(32,.bool true)] H :=
  hx N 60 [jT 10 0 H g0]
theorem im_e_1 (i:Nat) (H:Heap) (g0:¬ ((i:Int) < (rw.length:Int))): RunsTo Tp polM 46 (sn 488 B46) (e46 rw Ud Ud Ud Ud Ud Ud Ud Ud (.a rw) (.i (rw.length:Int)) (.n i) Ud Ud Ud) H .normal [0,2,4,5,6,7,8,13,14,15,29,30,31,36,37,38,32] [(0,.a rw),(2,.bool false),(4,Ud),(5,Ud),(6,Ud),(7,Ud),(8,Ud),(13,Ud),(14,Ud),(15,Ud),(29,.a rw),(30,.i (rw.length:Int)),(31,.n i),(36,Ud),(37,Ud),(38,Ud),(32,.bool false)] H :=
  hx N 60 [jF 10 0 H g0]
theorem im_ft_0 (i:Nat) (H:Heap): RT polM 46 (sn 978 B46) [(0,.a rw),(2,.bool false),(4,Ud),(5,Ud),(6,Ud),(7,Ud),(8,Ud),(13,Ud),(14,Ud),(15,Ud),(29,.a rw),(30,.i (rw.length:Int)),(31,.n i),(36,Ud),(37,Ud),(38,Ud),(32,.bool true)] H .normal (e46 rw Ud Ud Ud Ud Ud Ud Ud Ud (.a rw) (.i (rw.length:Int)) (.n i) Ud Ud Ud) H :=
  hx N 60 []
theorem im_ff_0 (i:Nat) (H:Heap): RT polM 46 (sn 978 B46) [(0,.a rw),(2,.bool false),(4,Ud),(5,Ud),(6,Ud),(7,Ud),(8,Ud),(13,Ud),(14,Ud),(15,Ud),(29,.a rw),(30,.i (rw.length:Int)),(31,.n i),(36,Ud),(37,Ud),(38,Ud),(32,.bool false)] H (.exit 2) (e46 rw Ud Ud Ud Ud Ud Ud Ud Ud (.a rw) (.i (rw.length:Int)) (.n i) Ud Ud Ud) H :=
  hx N 60 []
theorem im_g_0 (i:Nat) (H:Heap) (la:List HV) (l0:List HV) (g0:IX 22 (.a rw) (.n i) (.vptr (.a l0))): RT polM 46 (sn 7832 B46) (e46 rw Ud Ud Ud Ud Ud Ud Ud Ud (.a rw) (.i (rw.length:Int)) (.n i) Ud Ud Ud) H .normal (e46 rw Ud (.n i) (.a l0) Ud Ud Ud Ud Ud (.a rw) (.i (rw.length:Int)) (.n i) Ud Ud Ud) H :=
  hx N 60 [jO 11 1 H g0]
theorem im_h_0 (i:Nat) (H:Heap) (la:List HV): RT polM 46 (sn 15666 B46) (e46 rw Ud (.n i) (.a la) Ud Ud Ud Ud Ud (.a rw) (.i (rw.length:Int)) (.n i) Ud Ud Ud) H .normal (e46 rw Ud (.n i) (.a la) Ud Ud Ud Ud Ud (.a rw) (.i (rw.length:Int)) (.n i) (.a la) (.i (la.length:Int)) (.i 0)) H :=
  hx N 60 []
theorem im_k_0 (i:Nat) (H:Heap) (la:List HV) (j:Nat) (x0:Int) (l0:List HV) (x1:Int) (g0:(j:Int) < (la.length:Int)) (g1:IX 23 (.a la) (.n j) (.vptr (.i x0))) (g2:IX 22 (.a rw) (.n j) (.vptr (.a l0))) (g3:IX 23 (.a l0) (.n i) (.vptr (.i x1))) (g4:x0=x1) (g5:(i:Int)=(j:Int)) (g6:x0=0): RT polM 46 (sn 62668 B46) (e46 rw Ud (.n i) Ud Ud Ud Ud Ud Ud (.a rw) (.i (rw.length:Int)) (.n i) (.a la) (.i (la.length:Int)) (.n j)) H .normal (e46 rw Ud (.n i) Ud (.n j) (.i x0) Ud Ud Ud (.a rw) (.i (rw.length:Int)) (.n i) (.a la) (.i (la.length:Int)) (.i (IntKind.i64.wrap ((j:Int)+1)))) H :=
  hx N 60 [jT 13 0 H g0,jO 14 1 H g1,jO 15 3 H g2,jO 15 6 H g3,jB 15 8 H (congrArg not (decide_eq_true g4)),jT 15 12 H g5,jB 15 15 H (congrArg not (decide_eq_true g6))]
theorem im_k_1 (i:Nat) (H:Heap) (la:List HV) (j:Nat) (x0:Int) (l0:List HV) (x1:Int) (g0:(j:Int) < (la.length:Int)) (g1:IX 23 (.a la) (.n j) (.vptr (.i x0))) (g2:IX 22 (.a rw) (.n j) (.vptr (.a l0))) (g3:IX 23 (.a l0) (.n i) (.vptr (.i x1))) (g4:x0=x1) (g5:(i:Int)=(j:Int)) (g6:¬ (x0=0)): RT polM 46 (sn 62668 B46) (e46 rw Ud (.n i) Ud Ud Ud Ud Ud Ud (.a rw) (.i (rw.length:Int)) (.n i) (.a la) (.i (la.length:Int)) (.n j)) H .ret (e46 rw Ud (.n i) Ud (.n j) (.i x0) Ud Ud Ud (.a rw) (.i (rw.length:Int)) (.n i) (.a la) (.i (la.length:Int)) (.n j)) H :=
  hx N 60 [jT 13 0 H g0,jO 14 1 H g1,jO 15 3 H g2,jO 15 6 H g3,jB 15 8 H (congrArg not (decide_eq_true g4)),jT 15 12 H g5,jB 15 15 H (congrArg not (decide_eq_false g6))]
theorem im_k_2 (i:Nat) (H:Heap) (la:List HV) (j:Nat) (x0:Int) (l0:List HV) (x1:Int) (g0:(j:Int) < (la.length:Int)) (g1:IX 23 (.a la) (.n j) (.vptr (.i x0))) (g2:IX 22 (.a rw) (.n j) (.vptr (.a l0))) (g3:IX 23 (.a l0) (.n i) (.vptr (.i x1))) (g4:x0=x1) (g5:¬ ((i:Int)=(j:Int))): RT polM 46 (sn 62668 B46) (e46 rw Ud (.n i) Ud Ud Ud Ud Ud Ud (.a rw) (.i (rw.length:Int)) (.n i) (.a la) (.i (la.length:Int)) (.n j)) H .normal (e46 rw Ud (.n i) Ud (.n j) (.i x0) Ud Ud Ud (.a rw) (.i (rw.length:Int)) (.n i) (.a la) (.i (la.length:Int)) (.i (IntKind.i64.wrap ((j:Int)+1)))) H :=
  hx N 60 [jT 13 0 H g0,jO 14 1 H g1,jO 15 3 H g2,jO 15 6 H g3,jB 15 8 H (congrArg not (decide_eq_true g4)),jF 15 12 H g5]
theorem im_k_3 (i:Nat) (H:Heap) (la:List HV) (j:Nat) (x0:Int) (l0:List HV) (x1:Int) (g0:(j:Int) < (la.length:Int)) (g1:IX 23 (.a la) (.n j) (.vptr (.i x0))) (g2:IX 22 (.a rw) (.n j) (.vptr (.a l0))) (g3:IX 23 (.a l0) (.n i) (.vptr (.i x1))) (g4:¬ (x0=x1)): RT polM 46 (sn 62668 B46) (e46 rw Ud (.n i) Ud Ud Ud Ud Ud Ud (.a rw) (.i (rw.length:Int)) (.n i) (.a la) (.i (la.length:Int)) (.n j)) H .ret (e46 rw Ud (.n i) Ud (.n j) (.i x0) Ud Ud Ud (.a rw) (.i (rw.length:Int)) (.n i) (.a la) (.i (la.length:Int)) (.n j)) H :=
  hx N 60 [jT 13 0 H g0,jO 14 1 H g1,jO 15 3 H g2,jO 15 6 H g3,jB 15 8 H (congrArg not (decide_eq_false g4))]
theorem im_k_4 (i:Nat) (H:Heap) (la:List HV) (j:Nat) (g0:¬ ((j:Int) < (la.length:Int))): RT polM 46 (sn 62668 B46) (e46 rw Ud (.n i) Ud Ud Ud Ud Ud Ud (.a rw) (.i (rw.length:Int)) (.n i) (.a la) (.i (la.length:Int)) (.n j)) H (.exit 4) (e46 rw Ud (.n i) Ud Ud Ud Ud Ud Ud (.a rw) (.i (rw.length:Int)) (.n i) (.a la) (.i (la.length:Int)) (.n j)) H :=
  hx N 60 [jF 13 0 H g0]
theorem im_n_0 (i:Nat) (H:Heap) (la:List HV) (j:Nat): RT polM 46 (sn 1959 B46) (e46 rw Ud (.n i) Ud Ud Ud Ud Ud Ud (.a rw) (.i (rw.length:Int)) (.n i) (.a la) (.i (la.length:Int)) (.n j)) H .normal (e46 rw Ud (.n i) Ud Ud Ud Ud Ud Ud (.a rw) (.i (rw.length:Int)) (.i (IntKind.i64.wrap ((i:Int)+1))) (.a la) (.i (la.length:Int)) (.n j)) H :=
  hx N 60 []
theorem im_z_0 (i:Nat) (H:Heap): RT polM 46 (sn 31 B46) (e46 rw Ud Ud Ud Ud Ud Ud Ud Ud (.a rw) (.i (rw.length:Int)) (.n i) Ud Ud Ud) H .ret (env46 (.a rw) (.bool true) Ud Ud Ud Ud Ud Ud Ud Ud (.a rw) (.i (rw.length:Int)) (.n i) Ud Ud Ud) H :=
  hx N 60 []
end
noncomputable def B18:Code:=Try.f18.body.getD .skip
abbrev env18 (v0 v2 v3 v4 v5 v6:HV):Env:=[(0,v0),(2,v2),(3,v3),(4,v4),(5,v5),(6,v6)]
abbrev e18 (rw:List HV) (n:Nat) (u3 u4 u5:HV):Env:=env18 (.a rw) (.bool false) (.n n) u3 u4 u5
section
variable (rw:List HV)
include rw
theorem ds_a_0:RT pol 18 (sn 2 B18) [(0,.a rw)] [] .normal (env18 (.a rw) (.bool false) Ud Ud Ud Ud) [] :=
  hx 0 60 []
end
section
variable (rw:List HV)
include rw
theorem ds_b_0:RT pol 18 (sn 6 B18) (env18 (.a rw) (.bool false) Ud Ud Ud Ud) [] .normal (env18 (.a rw) (.bool false) (.i (rw.length:Int)) Ud Ud Ud) [] :=
  hx 0 60 []
theorem ds_c_0 (n:Nat) (g0:(n:Int) < 1): RT pol 18 (sn 14 B18) (e18 rw n Ud Ud Ud) [] .ret (e18 rw n Ud Ud Ud) [] :=
  hx 0 60 [jT 2 1 [] g0]
theorem ds_c_1 (n:Nat) (g0:¬ ((n:Int) < 1)) (g1:11 < (n:Int)): RT pol 18 (sn 14 B18) (e18 rw n Ud Ud Ud) [] .ret (e18 rw n Ud Ud Ud) [] :=
  hx 0 60 [jF 2 1 [] g0,jT 2 4 [] g1]
theorem ds_c_2 (n:Nat) (g0:¬ ((n:Int) < 1)) (g1:¬ (11 < (n:Int))): RT pol 18 (sn 14 B18) (e18 rw n Ud Ud Ud) [] .normal (e18 rw n Ud Ud Ud) [] :=
  hx 0 60 [jF 2 1 [] g0,jF 2 4 [] g1]
theorem ds_d_0 (n:Nat): RT pol 18 (sn 60 B18) (e18 rw n Ud Ud Ud) [] .normal (e18 rw n (.i 0) Ud Ud) [] :=
  hx 0 60 []
theorem ds_l_0 (n:Nat) (i:Nat) (l0:List HV) (g0:(i:Int) < (n:Int)) (g1:IX 22 (.a rw) (.n i) (.vptr (.a l0))) (g2:(l0.length:Int)=(n:Int)): RT pol 18 (sn 244 B18) (e18 rw n (.n i) Ud Ud) [] .normal (e18 rw n (.i (IntKind.i64.wrap ((i:Int)+1))) Ud Ud) [] :=
  hx 0 60 [jT 5 2 [] g0,jO 7 2 [] g1,jB 7 6 [] (congrArg not (decide_eq_true g2))]
theorem ds_l_1 (n:Nat) (i:Nat) (l0:List HV) (g0:(i:Int) < (n:Int)) (g1:IX 22 (.a rw) (.n i) (.vptr (.a l0))) (g2:¬ ((l0.length:Int)=(n:Int))): RT pol 18 (sn 244 B18) (e18 rw n (.n i) Ud Ud) [] .ret (e18 rw n (.n i) Ud Ud) [] :=
  hx 0 60 [jT 5 2 [] g0,jO 7 2 [] g1,jB 7 6 [] (congrArg not (decide_eq_false g2))]
theorem ds_l_2 (n:Nat) (i:Nat) (g0:¬ ((i:Int) < (n:Int))): RT pol 18 (sn 244 B18) (e18 rw n (.n i) Ud Ud) [] (.exit 0) (e18 rw n (.n i) Ud Ud) [] :=
  hx 0 60 [jF 5 2 [] g0]
theorem ds_e_0 (n:Nat) (i:Nat): RT pol 18 (sn 124 B18) (e18 rw n (.n i) Ud Ud) [] .normal (e18 rw n (.n i) (.i 0) Ud) [] :=
  hx 0 60 []
theorem ds_f_0 (n:Nat) (i:Nat) (g0:(i:Int) < (n:Int)): RT pol 18 (sn 1000 B18) (e18 rw n Ud (.n i) Ud) [] .normal (e18 rw n Ud (.n i) Ud) [] :=
  hx 0 60 [jT 10 2 [] g0]
theorem ds_f_1 (n:Nat) (i:Nat) (g0:¬ ((i:Int) < (n:Int))): RT pol 18 (sn 1000 B18) (e18 rw n Ud (.n i) Ud) [] (.exit 2) (e18 rw n Ud (.n i) Ud) [] :=
  hx 0 60 [jF 10 2 [] g0]
theorem ds_g_0 (n:Nat) (i:Nat): RT pol 18 (sn 8008 B18) (e18 rw n Ud (.n i) Ud) [] .normal (e18 rw n Ud (.n i) (.i 0)) [] :=
  hx 0 60 []
theorem ds_k_0 (n:Nat) (i:Nat) (j:Nat) (l0:List HV) (x0:Int) (g0:(j:Int) < (n:Int)) (g1:IX 22 (.a rw) (.n i) (.vptr (.a l0))) (g2:IX 23 (.a l0) (.n j) (.vptr (.i x0))) (g3:x0 < 0): RT pol 18 (sn 32036 B18) (e18 rw n Ud (.n i) (.n j)) [] .ret (e18 rw n Ud (.n i) (.n j)) [] :=
  hx 0 60 [jT 13 2 [] g0,jO 15 2 [] g1,jO 15 5 [] g2,jT 15 7 [] g3]
theorem ds_k_1 (n:Nat) (i:Nat) (j:Nat) (l0:List HV) (x0:Int) (l1:List HV) (x1:Int) (g0:(j:Int) < (n:Int)) (g1:IX 22 (.a rw) (.n i) (.vptr (.a l0))) (g2:IX 23 (.a l0) (.n j) (.vptr (.i x0))) (g3:¬ (x0 < 0)) (g4:IX 22 (.a rw) (.n i) (.vptr (.a l1))) (g5:IX 23 (.a l1) (.n j) (.vptr (.i x1))) (g6:1000 < x1): RT pol 18 (sn 32036 B18) (e18 rw n Ud (.n i) (.n j)) [] .ret (e18 rw n Ud (.n i) (.n j)) [] :=
  hx 0 60 [jT 13 2 [] g0,jO 15 2 [] g1,jO 15 5 [] g2,jF 15 7 [] g3,jO 15 11 [] g4,jO 15 14 [] g5,jT 15 16 [] g6]
theorem ds_k_2 (n:Nat) (i:Nat) (j:Nat) (l0:List HV) (x0:Int) (l1:List HV) (x1:Int) (l2:List HV) (x2:Int) (l3:List HV) (x3:Int) (l4:List HV) (x4:Int) (g0:(j:Int) < (n:Int)) (g1:IX 22 (.a rw) (.n i) (.vptr (.a l0))) (g2:IX 23 (.a l0) (.n j) (.vptr (.i x0))) (g3:¬ (x0 < 0)) (g4:IX 22 (.a rw) (.n i) (.vptr (.a l1))) (g5:IX 23 (.a l1) (.n j) (.vptr (.i x1))) (g6:¬ (1000 < x1)) (g7:IX 22 (.a rw) (.n i) (.vptr (.a l2))) (g8:IX 23 (.a l2) (.n j) (.vptr (.i x2))) (g9:IX 22 (.a rw) (.n j) (.vptr (.a l3))) (g10:IX 23 (.a l3) (.n i) (.vptr (.i x3))) (g11:x2=x3) (g12:(i:Int)=(j:Int)) (g13:IX 22 (.a rw) (.n i) (.vptr (.a l4))) (g14:IX 23 (.a l4) (.n j) (.vptr (.i x4))) (g15:x4=0): RT pol 18 (sn 32036 B18) (e18 rw n Ud (.n i) (.n j)) [] .normal (e18 rw n Ud (.n i) (.i (IntKind.i64.wrap ((j:Int)+1)))) [] :=
  hx 0 60 [jT 13 2 [] g0,jO 15 2 [] g1,jO 15 5 [] g2,jF 15 7 [] g3,jO 15 11 [] g4,jO 15 14 [] g5,jF 15 16 [] g6,jO 15 21 [] g7,jO 15 24 [] g8,jO 15 28 [] g9,jO 15 31 [] g10,jB 15 33 [] (congrArg not (decide_eq_true g11)),jT 15 38 [] g12,jO 15 42 [] g13,jO 15 45 [] g14,jB 15 47 [] (congrArg not (decide_eq_true g15))]
theorem ds_k_3 (n:Nat) (i:Nat) (j:Nat) (l0:List HV) (x0:Int) (l1:List HV) (x1:Int) (l2:List HV) (x2:Int) (l3:List HV) (x3:Int) (l4:List HV) (x4:Int) (g0:(j:Int) < (n:Int)) (g1:IX 22 (.a rw) (.n i) (.vptr (.a l0))) (g2:IX 23 (.a l0) (.n j) (.vptr (.i x0))) (g3:¬ (x0 < 0)) (g4:IX 22 (.a rw) (.n i) (.vptr (.a l1))) (g5:IX 23 (.a l1) (.n j) (.vptr (.i x1))) (g6:¬ (1000 < x1)) (g7:IX 22 (.a rw) (.n i) (.vptr (.a l2))) (g8:IX 23 (.a l2) (.n j) (.vptr (.i x2))) (g9:IX 22 (.a rw) (.n j) (.vptr (.a l3))) (g10:IX 23 (.a l3) (.n i) (.vptr (.i x3))) (g11:x2=x3) (g12:(i:Int)=(j:Int)) (g13:IX 22 (.a rw) (.n i) (.vptr (.a l4))) (g14:IX 23 (.a l4) (.n j) (.vptr (.i x4))) (g15:¬ (x4=0)): RT pol 18 (sn 32036 B18) (e18 rw n Ud (.n i) (.n j)) [] .ret (e18 rw n Ud (.n i) (.n j)) [] :=
  hx 0 60 [jT 13 2 [] g0,jO 15 2 [] g1,jO 15 5 [] g2,jF 15 7 [] g3,jO 15 11 [] g4,jO 15 14 [] g5,jF 15 16 [] g6,jO 15 21 [] g7,jO 15 24 [] g8,jO 15 28 [] g9,jO 15 31 [] g10,jB 15 33 [] (congrArg not (decide_eq_true g11)),jT 15 38 [] g12,jO 15 42 [] g13,jO 15 45 [] g14,jB 15 47 [] (congrArg not (decide_eq_false g15))]
theorem ds_k_4 (n:Nat) (i:Nat) (j:Nat) (l0:List HV) (x0:Int) (l1:List HV) (x1:Int) (l2:List HV) (x2:Int) (l3:List HV) (x3:Int) (g0:(j:Int) < (n:Int)) (g1:IX 22 (.a rw) (.n i) (.vptr (.a l0))) (g2:IX 23 (.a l0) (.n j) (.vptr (.i x0))) (g3:¬ (x0 < 0)) (g4:IX 22 (.a rw) (.n i) (.vptr (.a l1))) (g5:IX 23 (.a l1) (.n j) (.vptr (.i x1))) (g6:¬ (1000 < x1)) (g7:IX 22 (.a rw) (.n i) (.vptr (.a l2))) (g8:IX 23 (.a l2) (.n j) (.vptr (.i x2))) (g9:IX 22 (.a rw) (.n j) (.vptr (.a l3))) (g10:IX 23 (.a l3) (.n i) (.vptr (.i x3))) (g11:x2=x3) (g12:¬ ((i:Int)=(j:Int))): RT pol 18 (sn 32036 B18) (e18 rw n Ud (.n i) (.n j)) [] .normal (e18 rw n Ud (.n i) (.i (IntKind.i64.wrap ((j:Int)+1)))) [] :=
  hx 0 60 [jT 13 2 [] g0,jO 15 2 [] g1,jO 15 5 [] g2,jF 15 7 [] g3,jO 15 11 [] g4,jO 15 14 [] g5,jF 15 16 [] g6,jO 15 21 [] g7,jO 15 24 [] g8,jO 15 28 [] g9,jO 15 31 [] g10,jB 15 33 [] (congrArg not (decide_eq_true g11)),jF 15 38 [] g12]
theorem ds_k_5 (n:Nat) (i:Nat) (j:Nat) (l0:List HV) (x0:Int) (l1:List HV) (x1:Int) (l2:List HV) (x2:Int) (l3:List HV) (x3:Int) (g0:(j:Int) < (n:Int)) (g1:IX 22 (.a rw) (.n i) (.vptr (.a l0))) (g2:IX 23 (.a l0) (.n j) (.vptr (.i x0))) (g3:¬ (x0 < 0)) (g4:IX 22 (.a rw) (.n i) (.vptr (.a l1))) (g5:IX 23 (.a l1) (.n j) (.vptr (.i x1))) (g6:¬ (1000 < x1)) (g7:IX 22 (.a rw) (.n i) (.vptr (.a l2))) (g8:IX 23 (.a l2) (.n j) (.vptr (.i x2))) (g9:IX 22 (.a rw) (.n j) (.vptr (.a l3))) (g10:IX 23 (.a l3) (.n i) (.vptr (.i x3))) (g11:¬ (x2=x3)): RT pol 18 (sn 32036 B18) (e18 rw n Ud (.n i) (.n j)) [] .ret (e18 rw n Ud (.n i) (.n j)) [] :=
  hx 0 60 [jT 13 2 [] g0,jO 15 2 [] g1,jO 15 5 [] g2,jF 15 7 [] g3,jO 15 11 [] g4,jO 15 14 [] g5,jF 15 16 [] g6,jO 15 21 [] g7,jO 15 24 [] g8,jO 15 28 [] g9,jO 15 31 [] g10,jB 15 33 [] (congrArg not (decide_eq_false g11))]
theorem ds_k_6 (n:Nat) (i:Nat) (j:Nat) (g0:¬ ((j:Int) < (n:Int))): RT pol 18 (sn 32036 B18) (e18 rw n Ud (.n i) (.n j)) [] (.exit 4) (e18 rw n Ud (.n i) (.n j)) [] :=
  hx 0 60 [jF 13 2 [] g0]
theorem ds_n_0 (n:Nat) (i:Nat) (j:Nat): RT pol 18 (sn 2003 B18) (e18 rw n Ud (.n i) (.n j)) [] .normal (e18 rw n Ud (.i (IntKind.i64.wrap ((i:Int)+1))) (.n j)) [] :=
  hx 0 60 []
theorem ds_z_0 (n:Nat) (i:Nat): RT pol 18 (sn 63 B18) (e18 rw n Ud (.n i) Ud) [] .ret (env18 (.a rw) (.bool true) (.n n) Ud (.n i) Ud) [] :=
  hx 0 60 []
end
end Go.Proofs.Ytlendaofkmhgmaa
end
section
open Go Go.HL
namespace Go.Proofs.Ytlendaofkmhgmaa
set_option linter.unusedSectionVars false
open Go.Proofs.Try renaming prog → Tp
open Go.HL.HV renaming undef → Ud
theorem soundW (n:Nat):CallSound Tp (callN Tp polW n):=sound_prim _ (fun g f h=>by
  split at h
  · rename_i hg; cases h; rw [eq_of_beq hg]; exact within_ok
  · cases h) n
theorem res68:Try.f68.results.toList=[.tmp 2]:=by kernel_rfl
theorem mile_ok:PrimOk Tp 68 mile68:=by
  refine primOk_pure (pol:=polW) (fn:=Try.f68) (cd:=B68) follows_mixed soundW (by kernel_rfl) (by kernel_rfl) (fnok polW.prim _ _ (by kernel_rfl)) (by kernel_rfl) ?_
  intro args res h
  unfold mile68 at h
  split at h
  · rename_i n
    cases h
    by_cases g:(0:Int) ≤ n∧n ≤ 1000
    · exact ⟨_,_,_,.bool false,m1_0 n g,by simp,by simp only [resultsV,res68]; rfl,by rw [decide_eq_true g]; rfl⟩
    · exact ⟨_,_,_,.bool true,m1_1 n g,by simp,by simp only [resultsV,res68]; rfl,by rw [decide_eq_false g]; rfl⟩
  · cases h
theorem soundM (n:Nat):CallSound Tp (callN Tp polM n):=sound_prim _ (fun g f h=>by
  split at h
  · rename_i hg; cases h; rw [eq_of_beq hg]; exact within_ok
  split at h
  · rename_i hg; cases h; rw [eq_of_beq hg]; exact mile_ok
  · cases h) n
theorem CallsTo.shared {P:Program} {pol:Pol} {g:FuncId} {fn:Func} {cd:Code} {args:List HV} {x:X} {E:Env} {H H':Heap} {v:HV} (hp:pol.prim g=none) (hf:P.funcs[g]?=some fn) (hb:fn.body=some cd) (hs:pol.shared g=true)
    (hrun:RunsTo P pol g cd (args0 args) H x (pol.keys g) E H') (hres:(fn.results.toList.all fun r=>match r with | .tmp t=>(pol.keys g).contains t | .cell t _=>(pol.keys g).contains t)=true) (hx:∀ i,x ≠ .exit i) (hv:resultsV P fn E H'=some v) (hh:pol.heapP g=none:=by rfl) :
    CallsTo (P:=P) (pol:=pol) g args H v (gc H.length (bnd v) H'):=by
  obtain ⟨m,h⟩:=hrun
  refine ⟨m+1,fun k hk=>?_⟩
  obtain ⟨k,rfl⟩:∃ n',k=n'+1:=⟨k - 1,by omega⟩
  obtain ⟨e1,g1,g2⟩:=h k k (by omega) (by omega)
  subst g2
  rw [resultsV_restr hres] at hv
  simp only [callN,doCall,hp,hh,hf,hb,hs,if_true,sharedCall,g1]
  cases x with
  | exit i=>exact absurd rfl (hx i)
  | normal=>simp only [hv]
  | ret=>simp only [hv]
theorem CallsTo.from {pol:Pol} {g:FuncId} {args:List HV} {H H':Heap} {r:HV} (h:CallsTo (P:=Tp) (pol:=pol) g args H r H'):∃ N,∀ kf,N ≤ kf → callN Tp pol (kf+1) g args H=some (r,H'):=by
  obtain ⟨m,h⟩:=h
  exact ⟨m,fun kf hk=>h (kf+1) (by omega)⟩
theorem res69:Try.f69.results.toList=[.tmp 4]:=by kernel_rfl
theorem res47:Try.f47.results.toList=[.tmp 4]:=by kernel_rfl
abbrev jxE (l:List Int) (j:Nat):Env:=env69 (.imm .arg 1 (l.map hvI)) (.func 68 [] []) (.int .i64 0) Ud (.int .i64 (l.length:Int)) (.int .i64 (j:Int))
def mi (v:Int):Prop:=0 ≤ v∧v ≤ 1000
theorem prim_mile (n:Int) (H:Heap) (b:Bool) (hb:(!decide (0 ≤ n∧n ≤ 1000))=b):∀ k,callN Tp polM (k+1) 68 [.int .i64 n] H=some (.bool b,H):=fun k=>by
  rw [prim_call (pol:=polM) (g:=68) (F:=mile68) (by kernel_rfl) (rs:=[.int .i64 n]) rfl (res:=.bool b) (by rw [← hb]; rfl)]; rfl
theorem jx_loop (l:List Int) (H:Heap) (hl:l.length ≤ 1000):∀ (d j:Nat),j+d=l.length →
    ∃ x E r,RT polM 69 (sn 26 B69) (jxE l j) H x E H ∧
      (((∀ v,v ∈ l.drop j → mi v)∧x=.exit 0∧E=jxE l l.length) ∨ (x=.ret∧E.get 4=.int .i64 r∧0 ≤ r∧¬ ∀ v,v ∈ l.drop j → mi v)):=by
  intro d
  induction d with
  | zero =>
    intro j hj
    have hj:j=l.length:=by omega
    subst hj
    have s1:=jx_l_2 (l.map hvI) H l.length (by simp)
    rw [List.length_map] at s1
    exact ⟨_,_,0,lpo s1,.inl ⟨by simp,rfl,rfl⟩⟩
  | succ d ih =>
    intro j hj
    have hjl:j < l.length:=by omega
    have g1:=gx hjl
    rw [getD_at hjl] at g1
    rw [List.drop_eq_getElem_cons hjl]
    by_cases he:0 ≤ l[j]∧l[j] ≤ 1000
    · obtain ⟨x,E,r,h1,h2⟩:=ih (j+1) (by omega)
      have s1:=jx_l_1 (l.map hvI) H j _ H (by simp; omega) g1 (prim_mile _ H false (by rw [decide_eq_true he]; rfl))
      rw [wrap_succ (by omega),List.length_map] at s1
      refine ⟨x,E,r,lop s1 (gc_eq _ rfl) h1,?_⟩
      rcases h2 with ⟨k1,k2,k3⟩ | ⟨k1,k2,k3,k4⟩
      · exact .inl ⟨fun v hv=>by
          rcases List.mem_cons.1 hv with rfl | hv
          · exact he
          · exact k1 v hv,k2,k3⟩
      · exact .inr ⟨k1,k2,k3,fun h=>k4 fun v hv=>h v (List.mem_cons_of_mem _ hv)⟩
    · have s1:=jx_l_0 (l.map hvI) H j _ H (by simp; omega) g1 (prim_mile _ H true (by rw [decide_eq_false he]; rfl))
      rw [List.length_map] at s1
      exact ⟨_,_,(j:Int),lpo s1,.inr ⟨rfl,rfl,by omega,fun h=>he (h _ List.mem_cons_self)⟩⟩
theorem jx_call (l:List Int) (H:Heap) (hl:l.length ≤ 1000):∃ r,CallsTo (P:=Tp) (pol:=polM) 69 [.imm .arg 1 (l.map hvI),.func 68 [] []] H (.int .i64 r) H∧(0 ≤ r ↔ ¬ ∀ v,v ∈ l → mi v):=by
  have a1:=jx_a_0 (l.map hvI) H
  have b1:=jx_b_0 (l.map hvI) H
  rw [List.length_map] at b1
  obtain ⟨x,E,r,h1,h2⟩:=jx_loop l H hl l.length 0 (by omega)
  rw [List.drop_zero] at h2
  rcases h2 with ⟨k1,rfl,rfl⟩ | ⟨rfl,k2,k3,k4⟩
  · have t1:=sq b1 (bke (c:=sn 13 B69) h1) (c:=sn 6 B69)
    have z1:=jx_z_0 (l.map hvI) H l.length
    rw [List.length_map] at z1
    have t2:=sq a1 (sq t1 z1 (c:=sn 3 B69)) (c:=B69)
    have:=CallsTo.shared (P:=Tp) (pol:=polM) (g:=69) (fn:=Try.f69) (cd:=B69) (args:=[.imm .arg 1 (l.map hvI),.func 68 [] []]) (v:=.int .i64 (-1)) (by kernel_rfl) (by kernel_rfl) (by kernel_rfl) (by kernel_rfl) t2 (by kernel_rfl) (by simp) (by simp only [resultsV,res69]; rfl)
    rw [gc_eq _ rfl] at this
    exact ⟨-1,this,fun h=>absurd h (by omega),fun h=>absurd k1 h⟩
  · have t1:=sq b1 (RunsTo.block_ret (c:=sn 13 B69) (i:=0) h1 (by kernel_rfl)) (c:=sn 6 B69)
    have t2:=sq a1 (sqo t1 (c:=sn 3 B69) (b:=sn 7 B69)) (c:=B69)
    have:=CallsTo.shared (P:=Tp) (pol:=polM) (g:=69) (fn:=Try.f69) (cd:=B69) (args:=[.imm .arg 1 (l.map hvI),.func 68 [] []]) (v:=.int .i64 r) (by kernel_rfl) (by kernel_rfl) (by kernel_rfl) (by kernel_rfl) t2 (by kernel_rfl) (by simp) (by simp only [resultsV,res69,mapO,resultV,k2])
    rw [gc_eq _ rfl] at this
    exact ⟨r,this,by simp only [k3,true_iff]; exact k4⟩
open Classical in
theorem cf_call (l:List Int) (H:Heap) (hl:l.length ≤ 1000):CallsTo (P:=Tp) (pol:=polM) 47 [.imm .arg 1 (l.map hvI),.func 68 [] []] H (.bool (decide (¬ ∀ v,v ∈ l → mi v))) H:=by
  obtain ⟨r,hc,hr⟩:=jx_call l H hl
  obtain ⟨N,hN⟩:=CallsTo.from hc
  by_cases h0:0 ≤ r
  · rw [decide_eq_true (hr.1 h0)]
    have:=CallsTo.shared (P:=Tp) (pol:=polM) (g:=47) (fn:=Try.f47) (cd:=B47) (args:=[.imm .arg 1 (l.map hvI),.func 68 [] []]) (v:=.bool true) (by kernel_rfl) (by kernel_rfl) (by kernel_rfl) (by kernel_rfl) (cf_0 N (l.map hvI) H r H hN h0) (by kernel_rfl) (by simp) (by simp only [resultsV,res47]; rfl)
    rw [gc_eq _ rfl] at this
    exact this
  · rw [decide_eq_false (fun h=>h0 (hr.2 h))]
    have:=CallsTo.shared (P:=Tp) (pol:=polM) (g:=47) (fn:=Try.f47) (cd:=B47) (args:=[.imm .arg 1 (l.map hvI),.func 68 [] []]) (v:=.bool false) (by kernel_rfl) (by kernel_rfl) (by kernel_rfl) (by kernel_rfl) (cf_1 N (l.map hvI) H r H hN h0) (by kernel_rfl) (by simp) (by simp only [resultsV,res47]; rfl)
    rw [gc_eq _ rfl] at this
    exact this
def rowLen (d:List (List Int)) (i:Nat):Prop:=(d.getD i []).length=d.length
def symAt (d:List (List Int)) (i j:Nat):Prop:=at2 d i j=at2 d j i∧(i=j → at2 d i j=0)
def cellAt (d:List (List Int)) (i j:Nat):Prop:=(0 ≤ at2 d i j∧at2 d i j ≤ 1000)∧symAt d i j
section
variable {d:List (List Int)}
theorem gri' {i:Nat} (hi:i < d.length):idxV Tp 22 (.imm .arg 1 (d.map encR)) (.int .i64 (i:Int))=some (.vptr (.imm .arg 1 ((d.getD i []).map hvI))):=gr hi
theorem gat {i j:Nat} (hr:rowLen d i) (hj:j < d.length):idxV Tp 23 (.imm .arg 1 ((d.getD i []).map hvI)) (.int .i64 (j:Int))=some (.vptr (.int .i64 (at2 d i j))):=gx (by rw [hr]; exact hj)
abbrev dsE (d:List (List Int)) (v4 v5 v6:HV):Env:=env18 (.imm .arg 1 (d.map encR)) (.bool false) (.int .i64 (d.length:Int)) v4 v5 v6
theorem ds_rows (hd:d.length ≤ 1000):∀ (k i:Nat),i+k=d.length →
    ∃ x E,RT pol 18 (sn 122 B18) (dsE d (.int .i64 (i:Int)) Ud Ud) [] x E [] ∧
      ((x=.exit 0∧E=dsE d (.int .i64 (d.length:Int)) Ud Ud∧∀ a,i ≤ a → a < d.length → rowLen d a) ∨ (x=.ret∧E.get 2=.bool false∧¬ ∀ a,a < d.length → rowLen d a)):=by
  intro k
  induction k with
  | zero =>
    intro i hi
    have hi:i=d.length:=by omega
    subst hi
    exact ⟨_,_,lpo (ds_l_2 (d.map encR) d.length d.length (by omega)),.inl ⟨rfl,rfl,fun a h1 h2=>by omega⟩⟩
  | succ k ih =>
    intro i hi
    have hil:i < d.length:=by omega
    by_cases c:(d.getD i []).length=d.length
    · obtain ⟨x,E,h1,h2⟩:=ih (i+1) (by omega)
      have s1:=ds_l_0 (d.map encR) d.length i _ (by omega) (gri' hil) (by rw [List.length_map]; omega)
      rw [wrap_succ (by omega)] at s1
      refine ⟨x,E,lop s1 rfl h1,?_⟩
      rcases h2 with ⟨k1,k2,k3⟩ | h2
      · exact .inl ⟨k1,k2,fun a h1 h2=>by
          by_cases e:a=i
          · rw [e]; exact c
          · exact k3 a (by omega) h2⟩
      · exact .inr h2
    · have s1:=ds_l_1 (d.map encR) d.length i _ (by omega) (gri' hil) (by rw [List.length_map]; omega)
      exact ⟨_,_,lpo s1,.inr ⟨rfl,rfl,fun h=>c (h i hil)⟩⟩
theorem ds_cells (hd:d.length ≤ 1000) (hr:∀ a,a < d.length → rowLen d a) {i:Nat} (hi:i < d.length):∀ (k j:Nat),j+k=d.length →
    ∃ x E,RT pol 18 (sn 16018 B18) (dsE d Ud (.int .i64 (i:Int)) (.int .i64 (j:Int))) [] x E [] ∧
      ((x=.exit 4∧E=dsE d Ud (.int .i64 (i:Int)) (.int .i64 (d.length:Int))∧∀ a,j ≤ a → a < d.length → cellAt d i a) ∨ (x=.ret∧E.get 2=.bool false∧¬ ∀ a,a < d.length → cellAt d i a)):=by
  intro k
  induction k with
  | zero =>
    intro j hj
    have hj:j=d.length:=by omega
    subst hj
    exact ⟨_,_,lpo (ds_k_6 (d.map encR) d.length i d.length (by omega)),.inl ⟨rfl,rfl,fun a h1 h2=>by omega⟩⟩
  | succ k ih =>
    intro j hj
    have hjl:j < d.length:=by omega
    have bad:∀ E,RT pol 18 (sn 32036 B18) (dsE d Ud (.int .i64 (i:Int)) (.int .i64 (j:Int))) [] .ret E [] → E.get 2=.bool false → ¬ cellAt d i j → _:=fun E t hE hc =>
      (⟨_,E,lpo t,.inr ⟨rfl,hE,fun h=>hc (h j hjl)⟩⟩:∃ x E,RT pol 18 (sn 16018 B18) (dsE d Ud (.int .i64 (i:Int)) (.int .i64 (j:Int))) [] x E [] ∧
      ((x=.exit 4∧E=dsE d Ud (.int .i64 (i:Int)) (.int .i64 (d.length:Int))∧∀ a,j ≤ a → a < d.length → cellAt d i a) ∨ (x=.ret∧E.get 2=.bool false∧¬ ∀ a,a < d.length → cellAt d i a)))
    have good:cellAt d i j → RT pol 18 (sn 32036 B18) (dsE d Ud (.int .i64 (i:Int)) (.int .i64 (j:Int))) [] .normal (dsE d Ud (.int .i64 (i:Int)) (.int .i64 (IntKind.i64.wrap ((j:Int)+1)))) [] → _:=fun hc t=>(by
      rw [wrap_succ (by omega)] at t
      obtain ⟨x,E,h1,h2⟩:=ih (j+1) (by omega)
      refine ⟨x,E,lop t rfl h1,?_⟩
      rcases h2 with ⟨k1,k2,k3⟩ | h2
      · exact .inl ⟨k1,k2,fun a h1 h2=>by
          by_cases e:a=j
          · rw [e]; exact hc
          · exact k3 a (by omega) h2⟩
      · exact .inr h2:∃ x E,RT pol 18 (sn 16018 B18) (dsE d Ud (.int .i64 (i:Int)) (.int .i64 (j:Int))) [] x E [] ∧
      ((x=.exit 4∧E=dsE d Ud (.int .i64 (i:Int)) (.int .i64 (d.length:Int))∧∀ a,j ≤ a → a < d.length → cellAt d i a) ∨ (x=.ret∧E.get 2=.bool false∧¬ ∀ a,a < d.length → cellAt d i a)))
    have gi:=gri' hi
    have gj:=gri' hjl
    have g1:=gat (hr i hi) hjl
    have g2:=gat (hr j hjl) hi
    by_cases c1:at2 d i j < 0
    · exact bad _ (ds_k_0 (d.map encR) d.length i j _ _ (by omega) gi g1 c1) rfl fun h=>by have:=h.1.1; omega
    · by_cases c2:1000 < at2 d i j
      · exact bad _ (ds_k_1 (d.map encR) d.length i j _ _ _ _ (by omega) gi g1 c1 gi g1 c2) rfl fun h=>by have:=h.1.2; omega
      · by_cases c3:at2 d i j=at2 d j i
        · by_cases c4:i=j
          · by_cases c5:at2 d i j=0
            · exact good ⟨⟨by omega,by omega⟩,c3,fun _=>c5⟩ (ds_k_2 (d.map encR) d.length i j _ _ _ _ _ _ _ _ _ _ (by omega) gi g1 c1 gi g1 c2 gi g1 gj g2 c3 (by omega) gi g1 c5)
            · exact bad _ (ds_k_3 (d.map encR) d.length i j _ _ _ _ _ _ _ _ _ _ (by omega) gi g1 c1 gi g1 c2 gi g1 gj g2 c3 (by omega) gi g1 c5) rfl fun h=>c5 (h.2.2 c4)
          · exact good ⟨⟨by omega,by omega⟩,c3,fun h=>absurd h c4⟩ (ds_k_4 (d.map encR) d.length i j _ _ _ _ _ _ _ _ (by omega) gi g1 c1 gi g1 c2 gi g1 gj g2 c3 (by omega))
        · exact bad _ (ds_k_5 (d.map encR) d.length i j _ _ _ _ _ _ _ _ (by omega) gi g1 c1 gi g1 c2 gi g1 gj g2 c3) rfl fun h=>c3 h.2.1
theorem ds_outer (hd:d.length ≤ 1000) (hr:∀ a,a < d.length → rowLen d a):∀ (k i:Nat),i+k=d.length →
    ∃ x E,RT pol 18 (sn 250 B18) (dsE d Ud (.int .i64 (i:Int)) Ud) [] x E [] ∧
      ((x=.exit 2∧E=dsE d Ud (.int .i64 (d.length:Int)) Ud∧∀ b,i ≤ b → b < d.length → ∀ a,a < d.length → cellAt d b a) ∨ (x=.ret∧E.get 2=.bool false∧¬ ∀ b,b < d.length → ∀ a,a < d.length → cellAt d b a)):=by
  intro k
  induction k with
  | zero =>
    intro i hi
    have hi:i=d.length:=by omega
    subst hi
    exact ⟨_,_,lpo (sqo (ds_f_1 (d.map encR) d.length d.length (by omega)) (c:=sn 500 B18) (b:=sn 1001 B18)),.inl ⟨rfl,rfl,fun a h1 h2=>by omega⟩⟩
  | succ k ih =>
    intro i hi
    have hil:i < d.length:=by omega
    have f1:=ds_f_0 (d.map encR) d.length i (by omega)
    have g1:=ds_g_0 (d.map encR) d.length i
    obtain ⟨x,E,h1,h2⟩:=ds_cells hd hr hil d.length 0 (by omega)
    have h1':=lpi (e0:=dsE d Ud (.int .i64 (i:Int)) (.int .i64 0)) h1 (b:=sn 32036 B18)
    rcases h2 with ⟨rfl,rfl,k3⟩ | ⟨rfl,k2,k3⟩
    · have n1:=ds_n_0 (d.map encR) d.length i d.length
      rw [wrap_succ (by omega)] at n1
      have t1:=sq g1 (bke (c:=sn 8009 B18) h1') (c:=sn 4004 B18)
      have t2:=RunsTo.block_normal (i:=3) (c:=sn 2002 B18) t1 (by kernel_rfl)
      have t3:=sq f1 (sq t2 n1 (c:=sn 1001 B18)) (c:=sn 500 B18)
      obtain ⟨x,E,r1,r2⟩:=ih (i+1) (by omega)
      refine ⟨x,E,lop t3 rfl r1,?_⟩
      rcases r2 with ⟨q1,q2,q3⟩ | r2
      · exact .inl ⟨q1,q2,fun b h1 h2=>by
          by_cases e:b=i
          · rw [e]; exact fun a ha=>k3 a (by omega) ha
          · exact q3 b (by omega) h2⟩
      · exact .inr r2
    · have t1:=sq g1 (RunsTo.block_ret (c:=sn 8009 B18) (i:=4) h1' (by kernel_rfl)) (c:=sn 4004 B18)
      have t2:=RunsTo.block_ret (i:=3) (c:=sn 2002 B18) t1 (by kernel_rfl)
      have t3:=sq f1 (sqo t2 (c:=sn 1001 B18) (b:=sn 2003 B18)) (c:=sn 500 B18)
      exact ⟨_,E,lpo t3,.inr ⟨rfl,k2,fun h=>k3 (h i hil)⟩⟩
end
theorem okD_iff {d:List (List Int)}:okD d ↔ (1 ≤ d.length∧d.length ≤ 11)∧(∀ a,a < d.length → rowLen d a)∧∀ b,b < d.length → ∀ a,a < d.length → cellAt d b a:=Iff.rfl
theorem okB_true {d:List (List Int)} (h:okD d):okB d=true:=by unfold okB; simp [h]
theorem okB_false {d:List (List Int)} (h:¬ okD d):okB d=false:=by unfold okB; simp [h]
theorem res18:Try.f18.results.toList=[.tmp 2]:=by kernel_rfl
theorem dist_ok:PrimOk Tp 18 miles46:=by
  refine primOk_pure (pol:=pol) (fn:=Try.f18) (cd:=B18) follows_mixed sound (by kernel_rfl) (by kernel_rfl) (fnok pol.prim _ _ (by kernel_rfl)) (by kernel_rfl) ?_
  intro args res h
  obtain ⟨d,rfl,hq⟩:=rwF_inv h
  clear h
  split at hq
  · rename_i hc
    cases hq
    have a1:=ds_a_0 (d.map encR)
    have b1:=ds_b_0 (d.map encR)
    rw [List.length_map] at b1
    have fin:∀ b E,RT pol 18 (sn 7 B18) (dsE d Ud Ud Ud) [] .ret E [] → E.get 2=.bool b → okB d=b →
        ∃ x E H' v,RT pol 18 B18 (args0 [.imm .arg 1 (d.map encR)]) [] x E H'∧(∀ i,x ≠ .exit i)∧resultsV Tp Try.f18 E H'=some v∧toRes H' (pol.deep 18) v=some (.bool (okB d)):=by
      intro b E t hE hb
      have t2:=sq a1 (sq b1 t (c:=sn 3 B18)) (c:=B18)
      exact ⟨_,E,[],.bool b,t2,by simp,by simp only [resultsV,res18,mapO,resultV,hE],by rw [hb]; rfl⟩
    by_cases c1:(d.length:Int) < 1
    · exact fin false _ (sqo (ds_c_0 (d.map encR) d.length c1) (c:=sn 7 B18) (b:=sn 15 B18)) rfl (okB_false fun h=>by have:=h.1.1; omega)
    · by_cases c2:11 < (d.length:Int)
      · exact fin false _ (sqo (ds_c_1 (d.map encR) d.length c1 c2) (c:=sn 7 B18) (b:=sn 15 B18)) rfl (okB_false fun h=>by have:=h.1.2; omega)
      · have c3:=ds_c_2 (d.map encR) d.length c1 c2
        have d1:=ds_d_0 (d.map encR) d.length
        obtain ⟨x,E,h1,h2⟩:=ds_rows hc.1 d.length 0 (by omega)
        rcases h2 with ⟨rfl,rfl,k3⟩ | ⟨rfl,k2,k3⟩
        · have hr:∀ a,a < d.length → rowLen d a:=fun a ha=>k3 a (Nat.zero_le _) ha
          have e1:=ds_e_0 (d.map encR) d.length d.length
          obtain ⟨x,E,r1,r2⟩:=ds_outer hc.1 hr d.length 0 (by omega)
          have r1':=lpi (e0:=dsE d (.int .i64 (d.length:Int)) (.int .i64 0) Ud) r1 (b:=sn 500 B18)
          have t1:=sq d1 (bke (c:=sn 61 B18) h1) (c:=sn 30 B18)
          rcases r2 with ⟨rfl,rfl,q3⟩ | ⟨rfl,q2,q3⟩
          · have z1:=ds_z_0 (d.map encR) d.length d.length
            have t2:=sq e1 (bke (c:=sn 125 B18) r1') (c:=sn 62 B18)
            have t3:=sq t1 (sq t2 z1 (c:=sn 31 B18)) (c:=sn 15 B18)
            exact fin true _ (sq c3 t3 (c:=sn 7 B18)) rfl (okB_true (okD_iff.2 ⟨⟨by omega,by omega⟩,hr,fun b hb=>q3 b (Nat.zero_le _) hb⟩))
          · have t2:=sq e1 (RunsTo.block_ret (c:=sn 125 B18) (i:=2) r1' (by kernel_rfl)) (c:=sn 62 B18)
            have t3:=sq t1 (sqo t2 (c:=sn 31 B18) (b:=sn 63 B18)) (c:=sn 15 B18)
            exact fin false _ (sq c3 t3 (c:=sn 7 B18)) q2 (okB_false fun h=>q3 h.2.2)
        · have t1:=sq d1 (RunsTo.block_ret (c:=sn 61 B18) (i:=0) h1 (by kernel_rfl)) (c:=sn 30 B18)
          have t3:=sq c3 (sqo t1 (c:=sn 15 B18) (b:=sn 31 B18)) (c:=sn 7 B18)
          exact fin false _ t3 k2 (okB_false fun h=>k3 h.2.1)
  · cases hq
noncomputable def polI:Pol:={ pol with prim:=fun g=>if g == 46 then some miles46 else if g == 56 then some len56 else none }
def recL (x x':Option (HV × Heap)) (H H':Heap):Bool :=
  match x,x' with
  | some (v,H1),some (v',H1')=>same v v' && sameH H1 H && sameH H1' H'
  | _,_=>false
def lkG (P:Program) (T:TypeId) (H:Heap) (b:Nat) (k:HV) (ok:Bool):Option (HV × Heap) :=
  match H[b]? with
  | some (.map ks vs _)=>(lookV P T ks vs k ok).map fun v=>(v,H)
  | _=>none
theorem u82:Tp.underlying 82=some (.map 77 3):=by kernel_rfl
theorem z3q:tyZero Tp 3=some (.int .i64 0):=by kernel_rfl
theorem key77 (p:Int × Int):keyTy Tp 77 (encP p)=true:=by kernel_rfl
theorem a77:tyAgg Tp 77=true:=by kernel_rfl
theorem s77:tySize Tp 77=some 2:=by kernel_rfl
abbrev valT (T:Nat → Nat → Int) (k:Int × Int):HV:=.int .i64 (T k.1.toNat k.2.toNat)
theorem keyEq_pair (p q:Int × Int):keyEq (encP p) (encP q)=some (decide (p=q)):=by
  obtain ⟨a,b⟩:=p
  obtain ⟨c,d⟩:=q
  simp only [encP,keyEq,aggEq,scEq,if_true,Bool.and_true,Prod.mk.injEq]
  by_cases h1:a=c <;> by_cases h2:b=d <;> simp [h1,h2]
theorem findK_pairs (x:Int × Int):∀ (ks:List (Int × Int)) (i:Nat),∃ r,findK (encP x) (ks.map encP) i=some r∧((x ∈ ks∧∃ j,r=some (i+j)∧ks[j]?=some x) ∨ (x ∉ ks∧r=none))
  | [],i=>⟨none,rfl,.inr ⟨by simp,rfl⟩⟩
  | k :: ks,i=>by
    by_cases e:x=k
    · subst e
      refine ⟨some i,?_,.inl ⟨by simp,0,rfl,by simp⟩⟩
      simp only [List.map_cons,findK,keyEq_pair,decide_true]
    · obtain ⟨r,h1,h2⟩:=findK_pairs x ks (i+1)
      refine ⟨r,?_,?_⟩
      · simp only [List.map_cons,findK,keyEq_pair,decide_eq_false e]
        exact h1
      · rcases h2 with ⟨h3,j,h4,h5⟩ | ⟨h3,h4⟩
        · exact .inl ⟨by simp [h3],j+1,by rw [h4]; congr 1; omega,by simpa using h5⟩
        · exact .inr ⟨by simp [h3,e],h4⟩
theorem mxs_le {m:Nat}:∀ {H:Heap},mxs H ≤ m ↔ ∀ B ∈ H,B.mx ≤ m
  | []=>by simp [mxs]
  | B :: H=>by
    have:=mxs_le (m:=m) (H:=H)
    simp only [mxs,List.mem_cons,forall_eq_or_imp,← this]
    omega
theorem sameH_iff:∀ {H:Heap},sameH H H=true ↔ ∀ B ∈ H,sameH [B] [B]=true
  | []=>by simp [sameH]
  | B :: H=>by
    have ih:=sameH_iff (H:=H)
    cases B with
    | arr k els w m=>simp only [sameH,List.forall_mem_cons,← ih,Bool.and_eq_true,and_true,Bool.and_true]
    | map ks vs m=>simp only [sameH,List.forall_mem_cons,← ih,Bool.and_eq_true,and_true,Bool.and_true]
    | iter a b c d=>simp only [sameH,List.forall_mem_cons,← ih,Bool.and_eq_true,and_true,Bool.and_true]
    | dead=>simp only [sameH,List.forall_mem_cons,← ih,true_and]
theorem sameH_set {H:Heap} {B:Blk} {i:Nat} (h:sameH H H=true) (hB:sameH [B] [B]=true):sameH (H.set i B) (H.set i B)=true:=by
  rw [sameH_iff] at h ⊢
  intro C hC
  rcases List.mem_or_eq_of_mem_set hC with hC | rfl
  · exact h C hC
  · exact hB
theorem sameH_app {H:Heap} {B:Blk} (h:sameH H H=true) (hB:sameH [B] [B]=true):sameH (H ++ [B]) (H ++ [B])=true:=by
  rw [sameH_iff] at h ⊢
  intro C hC
  rcases List.mem_append.1 hC with hC | hC
  · exact h C hC
  · rw [List.mem_singleton] at hC; rw [hC]; exact hB
theorem sameH_take {H:Heap} {k:Nat} (h:sameH H H=true):sameH (H.take k) (H.take k)=true:=by
  rw [sameH_iff] at h ⊢
  exact fun C hC=>h C (List.mem_of_mem_take hC)
theorem sameL_all:∀ {l:List HV},(∀ v ∈ l,same v v=true) → sameL l l=true
  | [],_=>rfl
  | v :: l,h=>by simp only [sameL,h v (by simp),sameL_all (l:=l) (fun w hw=>h w (by simp [hw])),Bool.and_self]
theorem same_arr {k m:Nat} {l:List HV} {w:Bool} (h:∀ v ∈ l,same v v=true):sameH [.arr k l w m] [.arr k l w m]=true:=by
  simp [sameH,sameL_all h]
theorem same_bI (l:List Int):sameH [bI l] [bI l]=true:=same_arr fun v hv=>by
  obtain ⟨k,_,rfl⟩:=List.mem_map.1 hv
  simp [hvI,same]
theorem same_li (l:List Int):sameL (l.map hvI) (l.map hvI)=true:=sameL_all fun v hv=>by
  obtain ⟨k,_,rfl⟩:=List.mem_map.1 hv
  simp [hvI,same]
theorem same_imm (l:List Int):same (.imm .arg 1 (l.map hvI)) (.imm .arg 1 (l.map hvI))=true:=by simp [same,same_li]
abbrev boxK (v w:Int):Blk:=.arr 2 [encP (v,w)] true 0
theorem same_box (v w:Int):sameH [boxK v w] [boxK v w]=true:=same_arr fun x hx=>by
  rw [List.mem_singleton] at hx; subst hx
  simp [encP,same,sameL]
structure Mem (T:Nat → Nat → Int) (H:Heap):Prop where
  memo:∃ ks:List (Int × Int),H[0]?=some (.map (ks.map encP) (ks.map (valT T)) 0)
  rf:sameH H H=true
  mx:mxs H ≤ 0
structure Fr (H H':Heap):Prop where
  len:H'.length=H.length
  same:∀ k,k ≠ 0 → H'[k]?=H[k]?
theorem Fr.refl (H:Heap):Fr H H:=⟨rfl,fun _ _=>rfl⟩
theorem Fr.trans {H H' H'':Heap} (h:Fr H H') (h':Fr H' H''):Fr H H'':=⟨h'.len.trans h.len,fun k hk=>(h'.same k hk).trans (h.same k hk)⟩
section
variable {T:Nat → Nat → Int} {H:Heap}
theorem Mem.pos (h:Mem T H):0 < H.length:=by
  obtain ⟨ks,hk⟩:=h.memo
  exact lt_of_get hk
theorem Mem.lk (h:Mem T H) (k:Int × Int):∃ b:Bool,lkG Tp 82 H 0 (encP k) true=some (.tuple [.int .i64 (if b then T k.1.toNat k.2.toNat else 0),.bool b],H)∧(b=true → lkG Tp 82 H 0 (encP k) false=some (valT T k,H)):=by
  obtain ⟨ks,hm⟩:=h.memo
  obtain ⟨r,h1,h2⟩:=findK_pairs k ks 0
  have hk:=key77 k
  have hz:=z3q
  rcases h2 with ⟨h3,j,rfl,h5⟩ | ⟨h3,rfl⟩
  · have hj:(ks.map (valT T))[0+j]?=some (valT T k):=by rw [Nat.zero_add,List.getElem?_map,h5]; rfl
    refine ⟨true,?_,fun _=>?_⟩
    · simp only [lkG,hm,lookV,u82,hk,if_true,h1,hj,Option.map]
    · simp only [lkG,hm,lookV,u82,hk,if_true,h1,hj,Option.map,Bool.false_eq_true,if_false]
  · refine ⟨false,?_,fun h=>absurd h (by simp)⟩
    simp only [lkG,hm,lookV,u82,hk,if_true,h1,hz]
    rfl
theorem same_map (T:Nat → Nat → Int) (ks:List (Int × Int)):sameH [.map (ks.map encP) (ks.map (valT T)) 0] [.map (ks.map encP) (ks.map (valT T)) 0]=true:=by
  have e1:sameL (ks.map encP) (ks.map encP)=true:=sameL_all fun v hv=>by
    obtain ⟨k,_,rfl⟩:=List.mem_map.1 hv
    simp [encP,same,sameL]
  have e2:sameL (ks.map (valT T)) (ks.map (valT T))=true:=sameL_all fun v hv=>by
    obtain ⟨k,_,rfl⟩:=List.mem_map.1 hv
    simp [same]
  simp only [sameH,e1,e2,beq_self_eq_true,Bool.and_self]
theorem Mem.set (h:Mem T H) {k:Nat} {B:Blk} (h1:k ≠ 0) (hB:sameH [B] [B]=true) (hm:B.mx=0):Mem T (H.set k B):=by
  obtain ⟨ks,hk⟩:=h.memo
  refine ⟨⟨ks,by rw [List.getElem?_set_ne (by omega)]; exact hk⟩,sameH_set h.rf hB,?_⟩
  rw [mxs_le]
  intro C hC
  rcases List.mem_or_eq_of_mem_set hC with hC | rfl
  · exact mxs_le.1 h.mx C hC
  · omega
theorem Mem.app (h:Mem T H) {B:Blk} (hB:sameH [B] [B]=true) (hm:B.mx=0):Mem T (H ++ [B]):=by
  obtain ⟨ks,hk⟩:=h.memo
  have h2:=h.pos
  refine ⟨⟨ks,by rw [List.getElem?_append_left (by omega)]; exact hk⟩,sameH_app h.rf hB,?_⟩
  rw [mxs_le]
  intro C hC
  rcases List.mem_append.1 hC with hC | hC
  · exact mxs_le.1 h.mx C hC
  · rw [List.mem_singleton.1 hC]; omega
theorem Mem.take (h:Mem T H) {m:Nat} (h1:0 < m):Mem T (H.take m):=by
  obtain ⟨ks,hk⟩:=h.memo
  refine ⟨⟨ks,by rw [List.getElem?_take,if_pos (by omega)]; exact hk⟩,sameH_take h.rf,?_⟩
  rw [mxs_le]
  intro C hC
  exact mxs_le.1 h.mx C (List.mem_of_mem_take hC)
theorem Mem.gc (h:Mem T H) {b r:Nat}:gc b r H=H.take (max b r):=by
  have:=h.mx
  unfold HL.gc
  congr 1
  omega
theorem Mem.upd (h:Mem T H) (k:Int × Int):∃ H',updV Tp false 82 (.map 0) (encP k) (valT T k) H=some H'∧Mem T H'∧Fr H H'∧lkG Tp 82 H' 0 (encP k) false=some (valT T k,H'):=by
  obtain ⟨ks,hm⟩:=h.memo
  obtain ⟨r,h1,h2⟩:=findK_pairs k ks 0
  have hk:=key77 k
  have h1l:=lt_of_get hm
  have key:∀ ks':List (Int × Int),k ∈ ks' → updV Tp false 82 (.map 0) (encP k) (valT T k) H=some (H.set 0 (.map (ks'.map encP) (ks'.map (valT T)) 0)) → ∃ H',updV Tp false 82 (.map 0) (encP k) (valT T k) H=some H'∧Mem T H'∧Fr H H'∧lkG Tp 82 H' 0 (encP k) false=some (valT T k,H'):=by
    intro ks' hin hu
    have hM:Mem T (H.set 0 (.map (ks'.map encP) (ks'.map (valT T)) 0)):=by
      refine ⟨⟨ks',List.getElem?_set_self h1l⟩,sameH_set h.rf (same_map T ks'),?_⟩
      rw [mxs_le]
      intro C hC
      rcases List.mem_or_eq_of_mem_set hC with hC | rfl
      · exact mxs_le.1 h.mx C hC
      · exact Nat.zero_le _
    have hs:∀ j,j ≠ 0 → (H.set 0 (.map (ks'.map encP) (ks'.map (valT T)) 0))[j]?=H[j]?:=fun j hj=>List.getElem?_set_ne (by omega)
    refine ⟨_,hu,hM,⟨by simp,hs⟩,?_⟩
    obtain ⟨r,h1,h2⟩:=findK_pairs k ks' 0
    rcases h2 with ⟨h3,j,rfl,h5⟩ | ⟨h3,rfl⟩
    · have hj:(ks'.map (valT T))[0+j]?=some (valT T k):=by rw [Nat.zero_add,List.getElem?_map,h5]; rfl
      simp only [lkG,List.getElem?_set_self h1l,lookV,u82,hk,if_true,h1,hj,Option.map,Bool.false_eq_true,if_false]
    · exact absurd hin h3
  rcases h2 with ⟨h3,j,rfl,h5⟩ | ⟨h3,rfl⟩
  · refine key ks h3 ?_
    simp only [updV,u82,hk,if_true,hm,h1,Bool.false_eq_true,if_false]
    have hs:(ks.map (valT T)).set (0+j) (valT T k)=ks.map (valT T):=by
      apply List.ext_getElem?
      intro i
      rw [List.getElem?_set,List.length_map]
      have hjl:=lt_of_get h5
      by_cases e:0+j=i
      · subst e
        rw [if_pos rfl,if_pos (by omega),Nat.zero_add,List.getElem?_map,h5]; rfl
      · rw [if_neg e]
    simp only [hs,bnd,Nat.max_zero]
  · refine key (ks ++ [k]) (by simp) ?_
    have ha:(aggEq (cellsOf (encP k)) (cellsOf (encP k))).isSome=true:=by simp [encP,cellsOf,aggEq,scEq]
    simp only [updV,u82,hk,if_true,hm,h1,ha,Bool.false_eq_true,if_false,bnd,Nat.max_zero,List.map_append,List.map_cons,List.map_nil]
theorem ld_k {v w:Int} {b:Nat} (h:H[b]?=some (boxK v w)):loadV Tp H 77 (.ptr b 0 0 1)=some (encP (v,w)):=load_agg h rfl rfl a77 s77
theorem ld_k0 {v w:Int} {b:Nat} (h:H[b]?=some (boxK v w)):loadV Tp H 3 (.ptr b 0 0 1)=some (.int .i64 v):=load_cell h rfl rfl a3 i3 rfl
theorem ld_k1 {v w:Int} {b:Nat} (h:H[b]?=some (boxK v w)):loadV Tp H 3 (.ptr b 0 1 1)=some (.int .i64 w):=load_cell h rfl rfl a3 i3 rfl
theorem st_k {v w x y:Int} {b:Nat} (h:H[b]?=some (boxK v w)):storeV Tp H 77 (.ptr b 0 0 1) (encP (x,y))=some (H.set b (boxK x y)):=by
  have:=store_agg (P:=Tp) (t:=77) (b:=b) (i:=0) (tot:=1) (new:=[.int .i64 x,.int .i64 y]) h rfl rfl s77 rfl (by simp) rfl rfl
  exact this
theorem new_k (v w:Int) (H:Heap):newV (encP (v,w)) H=(.ptr H.length 0 0 1,H ++ [boxK v w]):=by
  simp only [encP,newV,cellsOf,bnd,bndL,List.length_cons,List.length_nil]
  simp
  rfl
end
def bitsOk:Bool:=(List.range 2048).all fun L=>(List.range 11).all fun v=>decide (IntKind.i64.wrap (BitVec.ofInt IntKind.i64.bits (L:Int) &&& ~~~(BitVec.ofInt IntKind.i64.bits ((2 ^ v:Nat):Int))).toNat=((wo L v:Nat):Int)) && decide (IntKind.i64.wrap (BitVec.ofInt IntKind.i64.bits ((L / 2 ^ v:Nat):Int) &&& (BitVec.ofInt IntKind.i64.bits 1)).toNat=if L.testBit v then 1 else 0)
theorem bitsOk_true:bitsOk=true:=by kernel_rfl
theorem bo_andn {L v:Nat} (hL:L < 2048) (hv:v < 11):binV Tp .andNot 3 (.int .i64 (L:Int)) (.int .i64 ((2 ^ v:Nat):Int))=some (.int .i64 ((wo L v:Nat):Int)):=by
  have h1:=List.all_eq_true.1 (List.all_eq_true.1 bitsOk_true L (List.mem_range.2 hL)) v (List.mem_range.2 hv)
  simp only [Bool.and_eq_true,decide_eq_true_eq] at h1
  rw [← h1.1]; rfl
theorem bo_and {L v:Nat} (hL:L < 2048) (hv:v < 11):binV Tp .and 3 (.int .i64 ((L / 2 ^ v:Nat):Int)) (.int .i64 1)=some (.int .i64 (if L.testBit v then 1 else 0)):=by
  have h1:=List.all_eq_true.1 (List.all_eq_true.1 bitsOk_true L (List.mem_range.2 hL)) v (List.mem_range.2 hv)
  simp only [Bool.and_eq_true,decide_eq_true_eq] at h1
  rw [← h1.2]; rfl
theorem bo_shl {v:Nat} (hv:v < 60):binV Tp .shl 3 (.int .i64 1) (.int .i64 (v:Int))=some (.int .i64 ((2 ^ v:Nat):Int)):=by
  have e:binV Tp .shl 3 (.int .i64 1) (.int .i64 (v:Int))=if (v:Int) < 0 then none else some (.int .i64 (IntKind.i64.wrap (1 * 2 ^ min (v:Int).toNat 64))):=rfl
  rw [e,if_neg (by omega),Int.toNat_natCast,show min v 64=v by omega,Int.one_mul]
  have:(2:Nat) ^ v < 2 ^ 60:=Nat.pow_lt_pow_right (by omega) hv
  have h2:2 ^ v < 1152921504606846976:=this
  rw [show ((2:Int) ^ v)=((2 ^ v:Nat):Int) by push_cast; rfl]
  generalize 2 ^ v=x at h2
  rw [wrap_id (by omega) (by omega)]
theorem bo_shr {L v:Nat} (hv:v < 60):binV Tp .shr 3 (.int .i64 (L:Int)) (.int .i64 (v:Int))=some (.int .i64 ((L / 2 ^ v:Nat):Int)):=by
  have e:binV Tp .shr 3 (.int .i64 (L:Int)) (.int .i64 (v:Int))=if (v:Int) < 0 then none else some (.int .i64 ((L:Int).fdiv (2 ^ min (v:Int).toNat 64))):=rfl
  rw [e,if_neg (by omega),Int.toNat_natCast,show min v 64=v by omega]
  rw [show ((2:Int) ^ v)=((2 ^ v:Nat):Int) by push_cast; rfl,Int.fdiv_eq_ediv_of_nonneg _ (Int.natCast_nonneg _)]
  rfl
end Go.Proofs.Ytlendaofkmhgmaa
end
section
open Go Go.HL
namespace Go.Proofs.Ytlendaofkmhgmaa
set_option maxRecDepth 100000
set_option linter.unusedSectionVars false
open Go.Proofs.Try renaming prog → Tp
open Go.HL.HV renaming undef → Ud
noncomputable def B55:Code:=Try.f55.body.getD .skip
abbrev env55 (v0 v1 v2 v5 v6 v8 v9 v10 v11 v31 v32:HV):Env:=[(0,v0),(1,v1),(2,v2),(5,v5),(6,v6),(8,v8),(9,v9),(10,v10),(11,v11),(31,v31),(32,v32)]
abbrev e55 (rw:List HV) (mb:Nat) (v:Nat) (w:Nat) (kb:Nat) (u5 u6 u7 u8 u9 u10:HV):Env:=env55 (.a rw) (.map mb) (.agg [.n v,.n w]) (.q kb) (.i 0) u5 u6 u7 u8 u9 u10
section
variable (N:Nat) (rw:List HV) (mb v w kb:Nat) (H:Heap)
include N rw mb v w kb H
theorem rs_a_0 (H0:Heap) (g0:some (newV (.agg [.n v,.n w]) H)=some (.q kb,H0)): RT polI 55 (sn 2 B55) [(0,.a rw),(1,.map mb),(2,.agg [.n v,.n w])] H .normal (e55 rw mb v w kb Ud Ud Ud Ud Ud Ud) H0 :=
  hx N 60 [jR 0 0 g0]
end
section
variable (N:Nat) (rw:List HV) (mb v w kb:Nat) (H:Heap)
include N rw mb v w kb H
theorem rs_b_0 (l0:List HV) (x0:Int) (g0:LD H 3 (.ptr kb 0 1 1) (.n w)) (g1:(w:Int)=0) (g2:LD H 3 (.q kb) (.n v)) (g3:IX 68 (.a rw) (.n v) (.vptr (.a l0))) (g4:IX 23 (.a l0) (.i 0) (.vptr (.i x0))): RT polI 55 (sn 6 B55) (e55 rw mb v w kb Ud Ud Ud Ud Ud Ud) H .ret (env55 (.a rw) (.map mb) (.agg [.n v,.n w]) (.q kb) (.i x0) Ud Ud Ud Ud Ud Ud) H :=
  hx N 60 [jO 1 1 H g0,jT 1 2 H g1,jO 2 2 H g2,jO 2 3 H g3,jO 2 5 H g4]
theorem rs_b_1 (g0:LD H 3 (.ptr kb 0 1 1) (.n w)) (g1:¬ ((w:Int)=0)): RT polI 55 (sn 6 B55) (e55 rw mb v w kb Ud Ud Ud Ud Ud Ud) H .normal (e55 rw mb v w kb Ud Ud Ud Ud Ud Ud) H :=
  hx N 60 [jO 1 1 H g0,jF 1 2 H g1]
theorem rs_c_0 (t0:Int) (g0:LD H 77 (.q kb) (.agg [.n v,.n w])) (g1:lkG Tp 82 H mb (.agg [.n v,.n w]) true=some (.tuple [.i t0,.bool true],H)): RT polI 55 (sn 28 B55) (e55 rw mb v w kb Ud Ud Ud Ud Ud Ud) H .normal (e55 rw mb v w kb (.bool true) Ud Ud Ud Ud Ud) H :=
  hx N 60 [jO 3 1 H g0,jR 3 2 g1]
theorem rs_c_1 (g0:LD H 77 (.q kb) (.agg [.n v,.n w])) (g1:lkG Tp 82 H mb (.agg [.n v,.n w]) true=some (.tuple [.i 0,.bool false],H)): RT polI 55 (sn 28 B55) (e55 rw mb v w kb Ud Ud Ud Ud Ud Ud) H .normal (e55 rw mb v w kb (.bool false) Ud Ud Ud Ud Ud) H :=
  hx N 60 [jO 3 1 H g0,jR 3 2 g1]
theorem rs_dt_0:RunsTo Tp polI 55 (sn 58 B55) (e55 rw mb v w kb (.bool true) Ud Ud Ud Ud Ud) H .normal [0,1,2,5,6,8,9,10,11,31,32,29] [(0,.a rw),(1,.map mb),(2,.agg [.n v,.n w]),(5,.q kb),(6,.i 0),(8,.bool true),(9,Ud),(10,Ud),(11,Ud),(31,Ud),(32,Ud),(29,.bool false)] H :=
  hx N 60 []
theorem rs_df_0:RunsTo Tp polI 55 (sn 58 B55) (e55 rw mb v w kb (.bool false) Ud Ud Ud Ud Ud) H .normal [0,1,2,5,6,8,9,10,11,31,32,29] [(0,.a rw),(1,.map mb),(2,.agg [.n v,.n w]),(5,.q kb),(6,.i 0),(8,.bool false),(9,Ud),(10,Ud),(11,Ud),(31,Ud),(32,Ud),(29,.bool true)] H :=
  hx N 60 []
theorem rs_e_0:RT polI 55 (sn 236 B55) (e55 rw mb v w kb (.bool false) Ud Ud Ud Ud Ud) H .normal (e55 rw mb v w kb (.bool false) (.i (-1)) Ud Ud Ud Ud) H :=
  hx N 60 []
theorem rs_f_0 (mo:Int): RT polI 55 (sn 948 B55) (e55 rw mb v w kb (.bool false) (.i mo) Ud Ud Ud Ud) H .normal (e55 rw mb v w kb (.bool false) (.i mo) Ud Ud (.i (rw.length:Int)) (.i 0)) H :=
  hx N 60 []
theorem rs_l_0 (mo:Int) (n i:Nat) (h0:Int) (h1:Int) (l0:List HV) (x0:Int) (h2:Int) (h3:Int) (s:Int) (H0:Heap) (g0:(i:Int) < (n:Int)) (g1:LD H 3 (.ptr kb 0 1 1) (.n w)) (g2:BV .shr 3 (.n w) (.n i) (.i h0)) (g3:BV .and 3 (.i h0) (.i 1) (.i h1)) (g4:h1=1) (g5:LD H 3 (.q kb) (.n v)) (g6:IX 68 (.a rw) (.n v) (.vptr (.a l0))) (g7:IX 23 (.a l0) (.n i) (.vptr (.i x0))) (g8:LD H 3 (.ptr kb 0 1 1) (.n w)) (g9:BV .shl 3 (.i 1) (.n i) (.i h2)) (g10:BV .andNot 3 (.n w) (.i h2) (.i h3)) (g11:∀ kf,N ≤ kf → callN Tp polI (kf+1) 55 [.a rw,.map mb,.agg [.n i,.i h3]] H=some (.i s,H0)) (gS10:(recL ((loadV Tp H 3 (.q kb)).map (fun v=>(v,(H:Heap)))) ((loadV Tp H0 3 (.q kb)).map (fun v=>(v,(H0:Heap)))) H H0 && ((same (.a l0) (.a l0) && sameH (H:Heap) H && sameH (H0:Heap) H0) && ((same (.i x0) (.i x0) && sameH (H:Heap) H && sameH (H0:Heap) H0) && true)))=true) (g13:mo < 0): RT polI 55 (sn 3796 B55) (e55 rw mb v w kb Ud (.i mo) Ud Ud (.n n) (.n i)) H .normal (e55 rw mb v w kb Ud (.i (IntKind.i64.wrap (x0+s))) (.n i) (.i (IntKind.i64.wrap (x0+s))) (.n n) (.i (IntKind.i64.wrap ((i:Int)+1)))) H0 :=
  hx N 60 [jT 7 0 H g0,jO 9 1 H g1,jO 9 3 H g2,jO 9 4 H g3,jT 9 5 H g4,jK gS10,jO 10 2 H g5,jO 10 3 H g6,jO 10 6 H g7,jO 10 12 H g8,jO 10 14 H g9,jO 10 15 H g10,jC 10 17 g11,jT 11 1 H0 g13]
theorem rs_l_1 (mo:Int) (n i:Nat) (h0:Int) (h1:Int) (l0:List HV) (x0:Int) (h2:Int) (h3:Int) (s:Int) (H0:Heap) (g0:(i:Int) < (n:Int)) (g1:LD H 3 (.ptr kb 0 1 1) (.n w)) (g2:BV .shr 3 (.n w) (.n i) (.i h0)) (g3:BV .and 3 (.i h0) (.i 1) (.i h1)) (g4:h1=1) (g5:LD H 3 (.q kb) (.n v)) (g6:IX 68 (.a rw) (.n v) (.vptr (.a l0))) (g7:IX 23 (.a l0) (.n i) (.vptr (.i x0))) (g8:LD H 3 (.ptr kb 0 1 1) (.n w)) (g9:BV .shl 3 (.i 1) (.n i) (.i h2)) (g10:BV .andNot 3 (.n w) (.i h2) (.i h3)) (g11:∀ kf,N ≤ kf → callN Tp polI (kf+1) 55 [.a rw,.map mb,.agg [.n i,.i h3]] H=some (.i s,H0)) (gS10:(recL ((loadV Tp H 3 (.q kb)).map (fun v=>(v,(H:Heap)))) ((loadV Tp H0 3 (.q kb)).map (fun v=>(v,(H0:Heap)))) H H0 && ((same (.a l0) (.a l0) && sameH (H:Heap) H && sameH (H0:Heap) H0) && ((same (.i x0) (.i x0) && sameH (H:Heap) H && sameH (H0:Heap) H0) && true)))=true) (g13:¬ (mo < 0)) (g14:IntKind.i64.wrap (x0+s) < mo): RT polI 55 (sn 3796 B55) (e55 rw mb v w kb Ud (.i mo) Ud Ud (.n n) (.n i)) H .normal (e55 rw mb v w kb Ud (.i (IntKind.i64.wrap (x0+s))) (.n i) (.i (IntKind.i64.wrap (x0+s))) (.n n) (.i (IntKind.i64.wrap ((i:Int)+1)))) H0 :=
  hx N 60 [jT 7 0 H g0,jO 9 1 H g1,jO 9 3 H g2,jO 9 4 H g3,jT 9 5 H g4,jK gS10,jO 10 2 H g5,jO 10 3 H g6,jO 10 6 H g7,jO 10 12 H g8,jO 10 14 H g9,jO 10 15 H g10,jC 10 17 g11,jF 11 1 H0 g13,jT 11 5 H0 g14]
theorem rs_l_2 (mo:Int) (n i:Nat) (h0:Int) (h1:Int) (l0:List HV) (x0:Int) (h2:Int) (h3:Int) (s:Int) (H0:Heap) (g0:(i:Int) < (n:Int)) (g1:LD H 3 (.ptr kb 0 1 1) (.n w)) (g2:BV .shr 3 (.n w) (.n i) (.i h0)) (g3:BV .and 3 (.i h0) (.i 1) (.i h1)) (g4:h1=1) (g5:LD H 3 (.q kb) (.n v)) (g6:IX 68 (.a rw) (.n v) (.vptr (.a l0))) (g7:IX 23 (.a l0) (.n i) (.vptr (.i x0))) (g8:LD H 3 (.ptr kb 0 1 1) (.n w)) (g9:BV .shl 3 (.i 1) (.n i) (.i h2)) (g10:BV .andNot 3 (.n w) (.i h2) (.i h3)) (g11:∀ kf,N ≤ kf → callN Tp polI (kf+1) 55 [.a rw,.map mb,.agg [.n i,.i h3]] H=some (.i s,H0)) (gS10:(recL ((loadV Tp H 3 (.q kb)).map (fun v=>(v,(H:Heap)))) ((loadV Tp H0 3 (.q kb)).map (fun v=>(v,(H0:Heap)))) H H0 && ((same (.a l0) (.a l0) && sameH (H:Heap) H && sameH (H0:Heap) H0) && ((same (.i x0) (.i x0) && sameH (H:Heap) H && sameH (H0:Heap) H0) && true)))=true) (g13:¬ (mo < 0)) (g14:¬ (IntKind.i64.wrap (x0+s) < mo)): RT polI 55 (sn 3796 B55) (e55 rw mb v w kb Ud (.i mo) Ud Ud (.n n) (.n i)) H .normal (e55 rw mb v w kb Ud (.i mo) (.n i) (.i (IntKind.i64.wrap (x0+s))) (.n n) (.i (IntKind.i64.wrap ((i:Int)+1)))) H0 :=
  hx N 60 [jT 7 0 H g0,jO 9 1 H g1,jO 9 3 H g2,jO 9 4 H g3,jT 9 5 H g4,jK gS10,jO 10 2 H g5,jO 10 3 H g6,jO 10 6 H g7,jO 10 12 H g8,jO 10 14 H g9,jO 10 15 H g10,jC 10 17 g11,jF 11 1 H0 g13,jF 11 5 H0 g14]
theorem rs_l_3 (mo:Int) (n i:Nat) (h0:Int) (h1:Int) (g0:(i:Int) < (n:Int)) (g1:LD H 3 (.ptr kb 0 1 1) (.n w)) (g2:BV .shr 3 (.n w) (.n i) (.i h0)) (g3:BV .and 3 (.i h0) (.i 1) (.i h1)) (g4:¬ (h1=1)): RT polI 55 (sn 3796 B55) (e55 rw mb v w kb Ud (.i mo) Ud Ud (.n n) (.n i)) H .normal (e55 rw mb v w kb Ud (.i mo) (.n i) Ud (.n n) (.i (IntKind.i64.wrap ((i:Int)+1)))) H :=
  hx N 60 [jT 7 0 H g0,jO 9 1 H g1,jO 9 3 H g2,jO 9 4 H g3,jF 9 5 H g4]
theorem rs_l_4 (mo:Int) (n i:Nat) (g0:¬ ((i:Int) < (n:Int))): RT polI 55 (sn 3796 B55) (e55 rw mb v w kb Ud (.i mo) Ud Ud (.n n) (.n i)) H (.exit 0) (e55 rw mb v w kb Ud (.i mo) Ud Ud (.n n) (.n i)) H :=
  hx N 60 [jF 7 0 H g0]
theorem rs_g_0 (mo:Int) (n i:Nat) (y10 y11:HV) (H0:Heap) (g0:LD H 77 (.q kb) (.agg [.n v,.n w])) (g1:updV Tp false 82 (.map mb) (.agg [.n v,.n w]) (.i mo) H=some H0): RT polI 55 (sn 475 B55) (e55 rw mb v w kb Ud (.i mo) y10 y11 (.n n) (.n i)) H .normal (e55 rw mb v w kb Ud (.i mo) y10 y11 (.n n) (.n i)) H0 :=
  hx N 60 [jO 14 1 H g0,jS 14 3 g1]
theorem rs_z_0 (y8 y9 y10 y11 y31 y32:HV) (t0:Int) (g0:LD H 77 (.q kb) (.agg [.n v,.n w])) (g1:lkG Tp 82 H mb (.agg [.n v,.n w]) false=some (.i t0,H)): RT polI 55 (sn 15 B55) (e55 rw mb v w kb y8 y9 y10 y11 y31 y32) H .ret (env55 (.a rw) (.map mb) (.agg [.n v,.n w]) (.q kb) (.i t0) y8 y9 y10 y11 y31 y32) H :=
  hx N 60 [jO 15 1 H g0,jR 15 2 g1]
end
end Go.Proofs.Ytlendaofkmhgmaa
end
section
open Go Go.HL
namespace Go.Proofs.Ytlendaofkmhgmaa
set_option linter.unusedSectionVars false
open Go.Proofs.Try renaming prog → Tp
open Go.HL.HV renaming undef → Ud
theorem res55:Try.f55.results.toList=[.tmp 6]:=by kernel_rfl
abbrev ClI (g:FuncId) (args:List HV) (H:Heap) (r:HV) (H':Heap):Prop:=CallsTo (P:=Tp) (pol:=polI) g args H r H'
def RsOk (d:List (List Int)) (v w:Nat):Prop:=∀ H,Mem (rsT d) H → ∃ H',ClI 55 [.imm .arg 1 (d.map encR),.map 0,.agg [.int .i64 (v:Int),.int .i64 (w:Int)]] H (.int .i64 (rsT d v w)) H'∧Mem (rsT d) H'∧Fr H H'
section
variable {d:List (List Int)}
theorem g68 {v:Nat} (hv:v < d.length):idxV Tp 68 (.imm .arg 1 (d.map encR)) (.int .i64 (v:Int))=some (.vptr (.imm .arg 1 ((d.getD v []).map hvI))):=by
  exact gm (R:=d) (y:=(v:Int)) (Int.natCast_nonneg v) hv
theorem g22 {v:Nat} (hv:v < d.length):idxV Tp 22 (.imm .arg 1 (d.map encR)) (.int .i64 (v:Int))=some (.vptr (.imm .arg 1 ((d.getD v []).map hvI))):=gr hv
theorem g23 (h:okD d) {v u:Nat} (hv:v < d.length) (hu:u < d.length):idxV Tp 23 (.imm .arg 1 ((d.getD v []).map hvI)) (.int .i64 (u:Int))=some (.vptr (.int .i64 (at2 d v u))):=gx (by rw [h.2.1 v hv]; exact hu)
abbrev rsE (d:List (List Int)) (v w kb:Nat) (y8 y9 y10 y11 y31 y32:HV):Env:=env55 (.imm .arg 1 (d.map encR)) (.map 0) (.agg [.int .i64 (v:Int),.int .i64 (w:Int)]) (.ptr kb 0 0 1) (.int .i64 0) y8 y9 y10 y11 y31 y32
theorem rs_loop (hd:okD d) {v w kb:Nat} (hv:v < d.length) (hw:w < 2 ^ d.length) (hR:∀ u,w.testBit u=true → RsOk d u (wo w u)) (hkb:kb ≠ 0) :
    ∀ k i mo H,i+k=d.length → Mem (rsT d) H → H[kb]?=some (boxK v w) →
    ∃ H',RunsTo Tp polI 55 (sn 1898 B55) (rsE d v w kb Ud (.int .i64 mo) Ud Ud (.int .i64 (d.length:Int)) (.int .i64 (i:Int))) H
      (.exit 0) (polI.keys 55) (rsE d v w kb Ud (.int .i64 (lst (fun u=>at2 d v u+rsT d u (wo w u)) w k i mo)) Ud Ud (.int .i64 (d.length:Int)) (.int .i64 (d.length:Int))) H'∧Mem (rsT d) H'∧Fr H H':=by
  have hp:=pow_le hd.1.2
  have hn:=hd.1.2
  intro k
  induction k with
  | zero =>
    intro i mo H hi hM hK
    have hi:i=d.length:=by omega
    subst hi
    exact ⟨H,lpo (rs_l_4 0 (d.map encR) 0 v w kb H mo d.length d.length (by omega)),hM,Fr.refl _⟩
  | succ k ih =>
    intro i mo H hi hM hK
    rw [lst]
    by_cases c:w.testBit i=true
    · obtain ⟨H1,hcl,hM1,hF⟩:=hR i c H hM
      obtain ⟨N,hN⟩:=CallsTo.from hcl
      have b1:=hd.at hv (j:=i) (by omega)
      have b2:=wo_lt c
      have b3:=rsT_bnd hd (s:=i) (L:=wo w i) (by omega) (by omega)
      have hwr:IntKind.i64.wrap (at2 d v i+rsT d i (wo w i))=at2 d v i+rsT d i (wo w i):=wrap_id (by omega) (by omega)
      have l1:=ld_k0 hK
      have l2:loadV Tp H1 3 (.ptr kb 0 0 1)=some (.int .i64 (v:Int)):=ld_k0 (by rw [hF.same _ hkb]; exact hK)
      have gS:(recL ((loadV Tp H 3 (.ptr kb 0 0 1)).map (fun v=>(v,(H:Heap)))) ((loadV Tp H1 3 (.ptr kb 0 0 1)).map (fun v=>(v,(H1:Heap)))) H H1 && ((same (.imm .arg 1 ((d.getD v []).map hvI)) (.imm .arg 1 ((d.getD v []).map hvI)) && sameH (H:Heap) H && sameH (H1:Heap) H1) && ((same (.int .i64 (at2 d v i)) (.int .i64 (at2 d v i)) && sameH (H:Heap) H && sameH (H1:Heap) H1) && true)))=true:=by
        rw [l1,l2]
        simp only [Option.map,recL,hM.rf,hM1.rf,same_imm]
        simp [same]
      obtain ⟨H',r,hM',hF'⟩:=ih (i+1) (if w.testBit i then (if mo < 0 ∨ (at2 d v i+rsT d i (wo w i)) < mo then at2 d v i+rsT d i (wo w i) else mo) else mo) H1 (by omega) hM1 (by rw [hF.same _ hkb]; exact hK)
      have done:RT polI 55 (sn 3796 B55) (rsE d v w kb Ud (.int .i64 mo) Ud Ud (.int .i64 (d.length:Int)) (.int .i64 (i:Int))) H .normal
          (rsE d v w kb Ud (.int .i64 (if w.testBit i then (if mo < 0 ∨ (at2 d v i+rsT d i (wo w i)) < mo then at2 d v i+rsT d i (wo w i) else mo) else mo)) (.int .i64 (i:Int)) (.int .i64 (at2 d v i+rsT d i (wo w i))) (.int .i64 (d.length:Int)) (.int .i64 ((i+1:Nat):Int))) H1:=by
        rw [if_pos c]
        have bs:=bo_shr (L:=w) (v:=i) (by omega)
        have ba:=bo_and (L:=w) (v:=i) (by omega) (by omega)
        rw [if_pos c] at ba
        have bl:=bo_shl (v:=i) (by omega)
        have bn:=bo_andn (L:=w) (v:=i) (by omega) (by omega)
        by_cases c1:mo < 0
        · have s:=rs_l_0 N (d.map encR) 0 v w kb H mo d.length i _ _ _ _ _ _ _ H1 (by omega) (ld_k1 hK) bs ba rfl l1 (g68 hv) (g23 hd hv (by omega)) (ld_k1 hK) bl bn hN gS c1
          rw [hwr,wrap_succ (by omega)] at s
          rw [if_pos (.inl c1)]; exact s
        · by_cases c2:(at2 d v i+rsT d i (wo w i)) < mo
          · have s:=rs_l_1 N (d.map encR) 0 v w kb H mo d.length i _ _ _ _ _ _ _ H1 (by omega) (ld_k1 hK) bs ba rfl l1 (g68 hv) (g23 hd hv (by omega)) (ld_k1 hK) bl bn hN gS c1 (by rw [hwr]; exact c2)
            rw [hwr,wrap_succ (by omega)] at s
            rw [if_pos (.inr c2)]; exact s
          · have s:=rs_l_2 N (d.map encR) 0 v w kb H mo d.length i _ _ _ _ _ _ _ H1 (by omega) (ld_k1 hK) bs ba rfl l1 (g68 hv) (g23 hd hv (by omega)) (ld_k1 hK) bl bn hN gS c1 (by rw [hwr]; exact c2)
            rw [hwr,wrap_succ (by omega)] at s
            rw [if_neg (by omega)]; exact s
      exact ⟨H',lop done (gc_eq _ hF.len) r,hM',hF.trans hF'⟩
    · have bs:=bo_shr (L:=w) (v:=i) (by omega)
      have ba:=bo_and (L:=w) (v:=i) (by omega) (by omega)
      rw [if_neg c] at ba
      have s:=rs_l_3 0 (d.map encR) 0 v w kb H mo d.length i _ _ (by omega) (ld_k1 hK) bs ba (by omega)
      rw [wrap_succ (by omega)] at s
      rw [if_neg c]
      obtain ⟨H',r,hM',hF'⟩:=ih (i+1) mo H (by omega) hM hK
      exact ⟨H',lop s (gc_eq _ rfl) r,hM',hF'⟩
theorem rs_step (hd:okD d) {v w:Nat} (hv:v < d.length) (hw:w < 2 ^ d.length) (hR:∀ u,w.testBit u=true → RsOk d u (wo w u)):RsOk d v w:=by
  intro H hM
  have hp:=pow_le hd.1.2
  have hn:=hd.1
  have h0:=hM.pos
  have a:=rs_a_0 0 (d.map encR) 0 v w H.length H _ (by rw [show (HV.agg [.int .i64 (v:Int),.int .i64 (w:Int)])=encP ((v:Int),(w:Int)) from rfl,new_k])
  have hMa:Mem (rsT d) (H ++ [boxK v w]):=hM.app (same_box _ _) rfl
  have hla:(H ++ [boxK (v:Int) w]).length=H.length+1:=by simp
  have hlow:∀ j,j < H.length → (H ++ [boxK (v:Int) w])[j]?=H[j]?:=fun j hj=>List.getElem?_append_left hj
  have gK:(H ++ [boxK (v:Int) w])[H.length]?=some (boxK v w):=by
    rw [List.getElem?_append_right (Nat.le_refl _)]; simp
  generalize H ++ [boxK (v:Int) w]=Ha at a hMa hla hlow gK
  have done:∀ (E:Env) (Hd:Heap),RT polI 55 (sn 3 B55) (rsE d v w H.length Ud Ud Ud Ud Ud Ud) Ha .ret E Hd → E.get 6=.int .i64 (rsT d v w) → Mem (rsT d) Hd → Fr Ha Hd →
      ∃ H',ClI 55 [.imm .arg 1 (d.map encR),.map 0,.agg [.int .i64 (v:Int),.int .i64 (w:Int)]] H (.int .i64 (rsT d v w)) H'∧Mem (rsT d) H'∧Fr H H':=by
    intro E Hd t h6 hMd hFd
    have t2:=sq a t (c:=B55)
    have hc:=CallsTo.shared (P:=Tp) (pol:=polI) (g:=55) (fn:=Try.f55) (cd:=B55) (args:=[.imm .arg 1 (d.map encR),.map 0,.agg [.int .i64 (v:Int),.int .i64 (w:Int)]]) (v:=.int .i64 (rsT d v w)) (by kernel_rfl) (by kernel_rfl) (by kernel_rfl) (by kernel_rfl) t2 (by kernel_rfl) (by simp) (by simp only [resultsV,res55,mapO,resultV,h6])
    rw [hMd.gc] at hc
    have e:max H.length (bnd (.int .i64 (rsT d v w)))=H.length:=by simp [bnd]
    rw [e] at hc
    refine ⟨_,hc,hMd.take h0,by rw [List.length_take,hFd.len]; omega,fun k hk=>?_⟩
    rw [List.getElem?_take]
    split
    · rename_i hl
      rw [hFd.same k hk,hlow k hl]
    · rename_i hl
      rw [List.getElem?_eq_none (by omega)]
  by_cases cw:w=0
  · subst cw
    have b:=rs_b_0 0 (d.map encR) 0 v 0 H.length Ha _ _ (ld_k1 gK) rfl (ld_k0 gK) (g68 hv) (g23 hd hv (u:=0) (by omega))
    exact done _ _ (sqo b (c:=sn 3 B55) (b:=sn 7 B55)) rfl hMa (Fr.refl _)
  · have b:=rs_b_1 0 (d.map encR) 0 v w H.length Ha (ld_k1 gK) (by omega)
    have up:∀ (E:Env) (Hd:Heap),RT polI 55 (sn 7 B55) (rsE d v w H.length Ud Ud Ud Ud Ud Ud) Ha .ret E Hd → RT polI 55 (sn 3 B55) (rsE d v w H.length Ud Ud Ud Ud Ud Ud) Ha .ret E Hd:=fun E Hd t=>sq b t (c:=sn 3 B55)
    obtain ⟨bb,hl1,hl2⟩:=hMa.lk ((v:Int),(w:Int))
    simp only [Int.toNat_natCast] at hl1 hl2
    cases bb with
    | true =>
      have c:=rs_c_0 0 (d.map encR) 0 v w H.length Ha _ (ld_k gK) hl1
      have e:=rs_dt_0 0 (d.map encR) 0 v w H.length Ha
      have z:=rs_z_0 0 (d.map encR) 0 v w H.length Ha (.bool true) Ud Ud Ud Ud Ud (rsT d v w) (ld_k gK) (hl2 rfl)
      have sk:RT polI 55 (sn 119 B55) (rsE d v w H.length (.bool true) Ud Ud Ud Ud Ud) Ha .normal (rsE d v w H.length (.bool true) Ud Ud Ud Ud Ud) Ha:=RunsTo.hint 1 60 [] fun kf hk=>by
        obtain ⟨kf,rfl⟩:∃ n,kf=n+1:=⟨kf - 1,by omega⟩
        exact ⟨[],by kernel_rfl,Obls.nil⟩
      have t1:=sq e (RunsTo.cond (y:=.tmp 29) (t:=false) (c:=sn 59 B55) (a:=sn 118 B55) (b:=sn 119 B55) (by kernel_rfl) rfl sk) (c:=sn 29 B55)
      have t2:=sq (sq c t1 (c:=sn 14 B55)) z (c:=sn 7 B55)
      exact done _ _ (up _ _ t2) rfl hMa (Fr.refl _)
    | false =>
      have c:=rs_c_1 0 (d.map encR) 0 v w H.length Ha (ld_k gK) hl1
      have e:=rs_df_0 0 (d.map encR) 0 v w H.length Ha
      have f:=rs_e_0 0 (d.map encR) 0 v w H.length Ha
      have g:=rs_f_0 0 (d.map encR) 0 v w H.length Ha (-1)
      rw [List.length_map] at g
      obtain ⟨Hc,rl,hMc,hFc⟩:=rs_loop hd hv hw hR (kb:=H.length) (by omega) d.length 0 (-1) Ha (by omega) hMa gK
      rw [← rsT_step d v cw] at rl
      have gKc:Hc[H.length]?=some (boxK v w):=by rw [hFc.same _ (by omega)]; exact gK
      obtain ⟨Hd,hu,hMd,hFd,hlk⟩:=hMc.upd ((v:Int),(w:Int))
      have gKd:Hd[H.length]?=some (boxK v w):=by rw [hFd.same _ (by omega)]; exact gKc
      have m:=rs_g_0 0 (d.map encR) 0 v w H.length Hc (rsT d v w) d.length d.length Ud Ud Hd (ld_k gKc) hu
      have z:=rs_z_0 0 (d.map encR) 0 v w H.length Hd Ud (.int .i64 (rsT d v w)) Ud Ud (.int .i64 (d.length:Int)) (.int .i64 (d.length:Int)) (rsT d v w) (ld_k gKd) hlk
      have rl':=lpi (e0:=rsE d v w H.length (.bool false) (.int .i64 (-1)) Ud Ud (.int .i64 (d.length:Int)) (.int .i64 0)) rl (b:=sn 3796 B55)
      have t1:=sq g (bke (c:=sn 949 B55) rl') (c:=sn 474 B55)
      have t2:=sq t1 m (c:=sn 237 B55)
      have t3:=sq f t2 (c:=sn 118 B55)
      have t4:=sq e (RunsTo.cond (y:=.tmp 29) (t:=true) (c:=sn 59 B55) (a:=sn 118 B55) (b:=sn 119 B55) (by kernel_rfl) rfl t3) (c:=sn 29 B55)
      have t5:=sq (sq c t4 (c:=sn 14 B55)) z (c:=sn 7 B55)
      exact done _ _ (up _ _ t5) rfl hMd (hFc.trans hFd)
theorem rs_call (hd:okD d):∀ (k v w:Nat),w ≤ k → v < d.length → w < 2 ^ d.length → RsOk d v w:=by
  intro k
  induction k with
  | zero =>
    intro v w hk hv hw
    have:w=0:=by omega
    subst this
    exact rs_step hd hv hw fun u hu=>by simp at hu
  | succ k ih =>
    intro v w hk hv hw
    refine rs_step hd hv hw fun u hu=>?_
    have:=wo_lt hu
    exact ih u (wo w u) (by omega) (bit_lt hw hu) (by omega)
end
end Go.Proofs.Ytlendaofkmhgmaa
end
section
open Go Go.HL
namespace Go.Proofs.Ytlendaofkmhgmaa
set_option maxRecDepth 100000
set_option linter.unusedSectionVars false
open Go.Proofs.Try renaming prog → Tp
open Go.HL.HV renaming undef → Ud
noncomputable def B29:Code:=Try.f29.body.getD .skip
abbrev env29 (v0 v2 v3 v4 v5 v6 v7 v8 v9 v10 v29 v30:HV):Env:=[(0,v0),(2,v2),(3,v3),(4,v4),(5,v5),(6,v6),(7,v7),(8,v8),(9,v9),(10,v10),(29,v29),(30,v30)]
abbrev e29 (rw:List HV) (u4 u5 u6 u7 u8 u9 u10 u11:HV):Env:=env29 (.a rw) (.imm .lit 1 []) (.i 0) (.i 0) u4 u5 u6 u7 u8 u9 u10 u11
section
variable (N:Nat) (rw:List HV)
include N rw
theorem bs_a_0:RT polI 29 (sn 2 B29) [(0,.a rw)] [] .normal (e29 rw Ud Ud Ud Ud Ud Ud Ud Ud) [] :=
  hx N 60 []
end
section
variable (N:Nat) (rw:List HV)
include N rw
theorem bs_b_0 (g0:∀ kf,callN Tp polI (kf+1) 46 [.a rw] []=some (.bool true,[])): RT polI 29 (sn 6 B29) (e29 rw Ud Ud Ud Ud Ud Ud Ud Ud) [] .normal (e29 rw Ud Ud Ud Ud Ud Ud Ud Ud) [] :=
  hx N 60 [jD 1 1 g0]
theorem bs_b_1 (g0:∀ kf,callN Tp polI (kf+1) 46 [.a rw] []=some (.bool false,[])): RT polI 29 (sn 6 B29) (e29 rw Ud Ud Ud Ud Ud Ud Ud Ud) [] .ret (env29 (.a rw) (.imm .lit 1 []) (.i 0) (.i 2) Ud Ud Ud Ud Ud Ud Ud Ud) [] :=
  hx N 60 [jD 1 1 g0]
theorem bs_c_0 (H:Heap) (H0:Heap) (g0:some (HV.map H.length,H ++ [Blk.map [] [] 0])=some (.map 0,H0)): RT polI 29 (sn 14 B29) (e29 rw Ud Ud Ud Ud Ud Ud Ud Ud) H .normal (e29 rw (.map 0) Ud Ud Ud Ud Ud Ud Ud) H0 :=
  hx N 60 [jR 3 0 g0]
theorem bs_d_0 (H:Heap) (h0:Int) (H0:Heap) (H1:Heap) (g0:BV .shl 3 (.i 1) (.i (rw.length:Int)) (.i h0)) (g1:some (newV (.agg [.i 0,.i 0]) H)=some (.q 1,H0)) (g2:ST H0 77 (.q 1) (.agg [.i 0,.i (IntKind.i64.wrap (h0 - 2))]) H1): RT polI 29 (sn 30 B29) (e29 rw (.map 0) Ud Ud Ud Ud Ud Ud Ud) H .normal (e29 rw (.map 0) (.q 1) Ud Ud Ud Ud Ud Ud) H1 :=
  hx N 60 [jO 4 2 H g0,jR 4 5 g1,jS 4 6 g2]
theorem bs_e_0 (tv:HV) (H:Heap) (H0:Heap) (g0:litV Tp true true 23 1 [(0,.i 0)] H=some (tv,H0)): RT polI 29 (sn 62 B29) (e29 rw (.map 0) (.q 1) Ud Ud Ud Ud Ud Ud) H .normal (e29 rw (.map 0) (.q 1) tv Ud Ud Ud Ud Ud) H0 :=
  hx N 60 [jR 5 0 g0]
theorem bs_f_0 (tv:HV) (v w:Nat) (H:Heap) (g0:LD H 3 (.ptr 1 0 1 1) (.n w)) (g1:0 < (w:Int)): RT polI 29 (sn 1008 B29) (e29 rw (.map 0) (.q 1) tv Ud Ud Ud Ud Ud) H .normal (e29 rw (.map 0) (.q 1) tv Ud Ud Ud Ud Ud) H :=
  hx N 60 [jO 6 1 H g0,jT 6 2 H g1]
theorem bs_f_1 (tv:HV) (v w:Nat) (H:Heap) (g0:LD H 3 (.ptr 1 0 1 1) (.n w)) (g1:¬ (0 < (w:Int))): RT polI 29 (sn 1008 B29) (e29 rw (.map 0) (.q 1) tv Ud Ud Ud Ud Ud) H (.exit 0) (e29 rw (.map 0) (.q 1) tv Ud Ud Ud Ud Ud) H :=
  hx N 60 [jO 6 1 H g0,jF 6 2 H g1]
theorem bs_g_0 (tv:HV) (v w:Nat) (H:Heap) (s:Int) (H0:Heap) (g0:LD H 77 (.q 1) (.agg [.n v,.n w])) (g1:∀ kf,N ≤ kf → callN Tp polI (kf+1) 55 [.a rw,.map 0,.agg [.n v,.n w]] H=some (.i s,H0)): RT polI 29 (sn 4036 B29) (e29 rw (.map 0) (.q 1) tv Ud Ud Ud Ud Ud) H .normal (e29 rw (.map 0) (.q 1) tv (.i s) Ud Ud Ud Ud) H0 :=
  hx N 60 [jO 7 2 H g0,jC 7 3 g1]
theorem bs_h_0 (tv:HV) (v w:Nat) (H:Heap) (mo:Int): RT polI 29 (sn 8074 B29) (e29 rw (.map 0) (.q 1) tv (.i mo) Ud Ud Ud Ud) H .normal (e29 rw (.map 0) (.q 1) tv (.i mo) Ud Ud (.i (rw.length:Int)) (.i 0)) H :=
  hx N 60 []
theorem bs_l_0 (tv:HV) (v w:Nat) (H:Heap) (mo:Int) (n i:Nat) (nb:Nat) (w2:Int) (h0:Int) (h1:Int) (H0:Heap) (H1:Heap) (g0:(i:Int) < (n:Int)) (g1:LD H 3 (.ptr 1 0 1 1) (.n w)) (g2:BV .shl 3 (.i 1) (.n i) (.i h0)) (g3:BV .andNot 3 (.n w) (.i h0) (.i h1)) (g4:some (newV (.agg [.i 0,.i 0]) H)=some (.q nb,H0)) (g5:ST H0 77 (.q nb) (.agg [.n i,.i h1]) H1) (gS11:(recL ((loadV Tp H 3 (.ptr 1 0 1 1)).map (fun v=>(v,(H:Heap)))) ((loadV Tp H0 3 (.ptr 1 0 1 1)).map (fun v=>(v,(H0:Heap)))) H H0 && true)=true) (g7:LD H1 3 (.ptr 1 0 1 1) (.n w)) (g8:LD H1 3 (.ptr nb 0 1 1) (.i w2)) (g9:(w:Int)=w2) (gS12:(true && (true && (true && true)))=true): RT polI 29 (sn 32300 B29) (e29 rw (.map 0) (.q 1) tv (.i mo) Ud Ud (.n n) (.n i)) H .normal (e29 rw (.map 0) (.q 1) tv (.i mo) (.n i) (.q nb) (.n n) (.i (IntKind.i64.wrap ((i:Int)+1)))) H1 :=
  hx N 60 [jT 9 0 H g0,jK gS11,jO 11 2 H g1,jO 11 4 H g2,jO 11 5 H g3,jR 11 7 g4,jS 11 8 g5,jK gS12,jO 12 1 H1 g7,jO 12 3 H1 g8,jB 12 4 H1 (congrArg not (decide_eq_true g9))]
theorem bs_l_1 (tv:HV) (v w:Nat) (H:Heap) (mo:Int) (n i:Nat) (nb:Nat) (w2:Int) (h0:Int) (h1:Int) (H0:Heap) (H1:Heap) (l0:List HV) (x0:Int) (s:Int) (H2:Heap) (H3:Heap) (H4:Heap) (v0:HV) (g0:(i:Int) < (n:Int)) (g1:LD H 3 (.ptr 1 0 1 1) (.n w)) (g2:BV .shl 3 (.i 1) (.n i) (.i h0)) (g3:BV .andNot 3 (.n w) (.i h0) (.i h1)) (g4:some (newV (.agg [.i 0,.i 0]) H)=some (.q nb,H0)) (g5:ST H0 77 (.q nb) (.agg [.n i,.i h1]) H1) (gS11:(recL ((loadV Tp H 3 (.ptr 1 0 1 1)).map (fun v=>(v,(H:Heap)))) ((loadV Tp H0 3 (.ptr 1 0 1 1)).map (fun v=>(v,(H0:Heap)))) H H0 && true)=true) (g7:LD H1 3 (.ptr 1 0 1 1) (.n w)) (g8:LD H1 3 (.ptr nb 0 1 1) (.i w2)) (g9:¬ ((w:Int)=w2)) (g10:LD H1 3 (.q 1) (.n v)) (g11:IX 22 (.a rw) (.n v) (.vptr (.a l0))) (g12:IX 23 (.a l0) (.n i) (.vptr (.i x0))) (g13:LD H1 77 (.q nb) (.agg [.n i,.i w2])) (g14:∀ kf,N ≤ kf → callN Tp polI (kf+1) 55 [.a rw,.map 0,.agg [.n i,.i w2]] H1=some (.i s,H2)) (g15:IntKind.i64.wrap (x0+s)=mo) (gS12:(recL ((loadV Tp H1 3 (.q 1)).map (fun v=>(v,(H1:Heap)))) ((loadV Tp H2 3 (.q 1)).map (fun v=>(v,(H2:Heap)))) H1 H2 && ((same (.a l0) (.a l0) && sameH (H1:Heap) H1 && sameH (H2:Heap) H2) && ((same (.i x0) (.i x0) && sameH (H1:Heap) H1 && sameH (H2:Heap) H2) && true)))=true) (g17:LD H2 77 (.q nb) (.agg [.n i,.i w2])) (g18:ST H2 77 (.q 1) (.agg [.n i,.i w2]) H3) (g19:appV H3 1 8 (tv) [.n i]=some (v0,H4)): RT polI 29 (sn 32300 B29) (e29 rw (.map 0) (.q 1) tv (.i mo) Ud Ud (.n n) (.n i)) H (.exit 2) (e29 rw (.map 0) (.q 1) v0 (.i mo) (.n i) (.q nb) (.n n) (.n i)) H4 :=
  hx N 60 [jT 9 0 H g0,jK gS11,jO 11 2 H g1,jO 11 4 H g2,jO 11 5 H g3,jR 11 7 g4,jS 11 8 g5,jK gS12,jO 12 1 H1 g7,jO 12 3 H1 g8,jB 12 4 H1 (congrArg not (decide_eq_false g9)),jO 12 8 H1 g10,jO 12 9 H1 g11,jO 12 12 H1 g12,jO 12 16 H1 g13,jC 12 17 g14,jT 12 20 H2 g15,jO 13 0 H2 g17,jS 13 1 g18,jR 14 3 g19]
theorem bs_l_2 (tv:HV) (v w:Nat) (H:Heap) (mo:Int) (n i:Nat) (nb:Nat) (w2:Int) (h0:Int) (h1:Int) (H0:Heap) (H1:Heap) (l0:List HV) (x0:Int) (s:Int) (H2:Heap) (g0:(i:Int) < (n:Int)) (g1:LD H 3 (.ptr 1 0 1 1) (.n w)) (g2:BV .shl 3 (.i 1) (.n i) (.i h0)) (g3:BV .andNot 3 (.n w) (.i h0) (.i h1)) (g4:some (newV (.agg [.i 0,.i 0]) H)=some (.q nb,H0)) (g5:ST H0 77 (.q nb) (.agg [.n i,.i h1]) H1) (gS11:(recL ((loadV Tp H 3 (.ptr 1 0 1 1)).map (fun v=>(v,(H:Heap)))) ((loadV Tp H0 3 (.ptr 1 0 1 1)).map (fun v=>(v,(H0:Heap)))) H H0 && true)=true) (g7:LD H1 3 (.ptr 1 0 1 1) (.n w)) (g8:LD H1 3 (.ptr nb 0 1 1) (.i w2)) (g9:¬ ((w:Int)=w2)) (g10:LD H1 3 (.q 1) (.n v)) (g11:IX 22 (.a rw) (.n v) (.vptr (.a l0))) (g12:IX 23 (.a l0) (.n i) (.vptr (.i x0))) (g13:LD H1 77 (.q nb) (.agg [.n i,.i w2])) (g14:∀ kf,N ≤ kf → callN Tp polI (kf+1) 55 [.a rw,.map 0,.agg [.n i,.i w2]] H1=some (.i s,H2)) (g15:¬ (IntKind.i64.wrap (x0+s)=mo)) (gS12:(recL ((loadV Tp H1 3 (.q 1)).map (fun v=>(v,(H1:Heap)))) ((loadV Tp H2 3 (.q 1)).map (fun v=>(v,(H2:Heap)))) H1 H2 && ((same (.a l0) (.a l0) && sameH (H1:Heap) H1 && sameH (H2:Heap) H2) && ((same (.i x0) (.i x0) && sameH (H1:Heap) H1 && sameH (H2:Heap) H2) && true)))=true): RT polI 29 (sn 32300 B29) (e29 rw (.map 0) (.q 1) tv (.i mo) Ud Ud (.n n) (.n i)) H .normal (e29 rw (.map 0) (.q 1) tv (.i mo) (.n i) (.q nb) (.n n) (.i (IntKind.i64.wrap ((i:Int)+1)))) H2 :=
  hx N 60 [jT 9 0 H g0,jK gS11,jO 11 2 H g1,jO 11 4 H g2,jO 11 5 H g3,jR 11 7 g4,jS 11 8 g5,jK gS12,jO 12 1 H1 g7,jO 12 3 H1 g8,jB 12 4 H1 (congrArg not (decide_eq_false g9)),jO 12 8 H1 g10,jO 12 9 H1 g11,jO 12 12 H1 g12,jO 12 16 H1 g13,jC 12 17 g14,jF 12 20 H2 g15]
theorem bs_z_0 (tv:HV) (H:Heap) (y8 y9 y10 y29 y30:HV) (sm:Int) (H0:Heap) (g0:∀ kf,callN Tp polI (kf+1) 56 [.a rw,tv] H=some (.i sm,H0)): RT polI 29 (sn 127 B29) (e29 rw (.map 0) (.q 1) tv y8 y9 y10 y29 y30) H .ret (env29 (.a rw) tv (.i sm) (.i 0) (.map 0) (.q 1) tv y8 y9 y10 y29 y30) H0 :=
  hx N 60 [jD 16 3 g0]
end
end Go.Proofs.Ytlendaofkmhgmaa
end
section
open Go Go.HL
namespace Go.Proofs.Ytlendaofkmhgmaa
set_option linter.unusedSectionVars false
open Go.Proofs.Try renaming prog → Tp
open Go.HL.HV renaming undef → Ud
section
variable {d:List (List Int)}
abbrev imE (d:List (List Int)) (v4 v5 v6 v7 v8 v13 v14 v15 v29 v30 v31 v36 v37 v38:HV):Env:=env46 (.imm .arg 1 (d.map encR)) (.bool false) v4 v5 v6 v7 v8 v13 v14 v15 v29 v30 v31 v36 v37 v38
abbrev imA (d:List (List Int)) (i:Nat):Env:=imE d Ud Ud Ud Ud Ud (.imm .arg 1 (d.map encR)) (.int .i64 (d.length:Int)) (.int .i64 (i:Int)) Ud Ud Ud Ud Ud Ud
abbrev imB (d:List (List Int)) (i:Nat):Env:=imE d Ud Ud Ud Ud Ud Ud Ud Ud (.imm .arg 1 (d.map encR)) (.int .i64 (d.length:Int)) (.int .i64 (i:Int)) Ud Ud Ud
abbrev imC (d:List (List Int)) (i:Nat) (l:List Int) (j:Nat):Env:=imE d Ud (.int .i64 (i:Int)) Ud Ud Ud Ud Ud Ud (.imm .arg 1 (d.map encR)) (.int .i64 (d.length:Int)) (.int .i64 (i:Int)) (.imm .arg 1 (l.map hvI)) (.int .i64 (l.length:Int)) (.int .i64 (j:Int))
def rowOk (d:List (List Int)) (i:Nat):Prop:=rowLen d i∧∀ v,v ∈ d.getD i [] → mi v
open Classical in
theorem im_rows (hd:d.length ≤ 1000) (hw:∀ r,r ∈ d → r.length ≤ 1000):∀ (k i:Nat),i+k=d.length →
    ∃ x E,RT polM 46 (sn 58 B46) (imA d i) [] x E [] ∧
      ((x=.exit 0∧E=imA d d.length∧∀ a,i ≤ a → a < d.length → rowOk d a) ∨ (x=.ret∧E.get 2=.bool false∧¬ ∀ a,a < d.length → rowOk d a)):=by
  intro k
  induction k with
  | zero =>
    intro i hi
    have hi:i=d.length:=by omega
    subst hi
    have s1:=im_l_3 0 (d.map encR) d.length [] [] (by rw [List.length_map]; omega)
    rw [List.length_map] at s1
    exact ⟨_,_,lpo s1,.inl ⟨rfl,rfl,fun a h1 h2=>by omega⟩⟩
  | succ k ih =>
    intro i hi
    have hil:i < d.length:=by omega
    have hg:=gri' hil
    by_cases c:(d.getD i []).length=d.length
    · have hr9:(d.getD i []).length ≤ 1000:=by omega
      have hcf:=cf_call (d.getD i []) [] hr9
      obtain ⟨N,hN⟩:=CallsTo.from hcf
      by_cases c2:∀ v,v ∈ d.getD i [] → mi v
      · rw [decide_eq_false (fun h=>h c2)] at hN
        have s1:=im_l_1 N (d.map encR) i [] [] _ [] (by rw [List.length_map]; omega) hg (by rw [List.length_map,List.length_map]; omega) hN
        rw [wrap_succ (by omega),List.length_map] at s1
        obtain ⟨x,E,h1,h2⟩:=ih (i+1) (by omega)
        refine ⟨x,E,lop s1 rfl h1,?_⟩
        rcases h2 with ⟨k1,k2,k3⟩ | h2
        · exact .inl ⟨k1,k2,fun a h1 h2=>by
            by_cases e:a=i
            · rw [e]; exact ⟨c,c2⟩
            · exact k3 a (by omega) h2⟩
        · exact .inr h2
      · rw [decide_eq_true c2] at hN
        have s1:=im_l_0 N (d.map encR) i [] [] _ [] (by rw [List.length_map]; omega) hg (by rw [List.length_map,List.length_map]; omega) hN
        rw [List.length_map] at s1
        exact ⟨_,_,lpo s1,.inr ⟨rfl,rfl,fun h=>c2 (h i hil).2⟩⟩
    · have s1:=im_l_2 0 (d.map encR) i [] [] _ (by rw [List.length_map]; omega) hg (by rw [List.length_map,List.length_map]; omega)
      rw [List.length_map] at s1
      exact ⟨_,_,lpo s1,.inr ⟨rfl,rfl,fun h=>c (h i hil).1⟩⟩
theorem im_cells (hd:d.length ≤ 1000) (hr:∀ a,a < d.length → rowLen d a) {i:Nat} (hi:i < d.length):∀ (k j:Nat),j+k=d.length →
    ∃ x E,RT polM 46 (sn 31334 B46) (imC d i (d.getD i []) j) [] x E [] ∧
      ((x=.exit 4∧E=imC d i (d.getD i []) d.length∧∀ a,j ≤ a → a < d.length → symAt d i a) ∨ (x=.ret∧E.get 2=.bool false∧¬ ∀ a,a < d.length → symAt d i a)):=by
  intro k
  have hl:((d.getD i []).map hvI).length=d.length:=by rw [List.length_map]; exact hr i hi
  induction k with
  | zero =>
    intro j hj
    have hj:j=d.length:=by omega
    subst hj
    have s1:=im_k_4 0 (d.map encR) i [] ((d.getD i []).map hvI) d.length (by rw [hl]; omega)
    rw [List.length_map,List.length_map] at s1
    exact ⟨_,_,lpo s1,.inl ⟨rfl,rfl,fun a h1 h2=>by omega⟩⟩
  | succ k ih =>
    intro j hj
    have hjl:j < d.length:=by omega
    have bad:∀ E,RT polM 46 (sn 62668 B46) (imC d i (d.getD i []) j) [] .ret E [] → E.get 2=.bool false → ¬ symAt d i j → _:=fun E t hE hc =>
      (⟨_,E,lpo t,.inr ⟨rfl,hE,fun h=>hc (h j hjl)⟩⟩:∃ x E,RT polM 46 (sn 31334 B46) (imC d i (d.getD i []) j) [] x E [] ∧
      ((x=.exit 4∧E=imC d i (d.getD i []) d.length∧∀ a,j ≤ a → a < d.length → symAt d i a) ∨ (x=.ret∧E.get 2=.bool false∧¬ ∀ a,a < d.length → symAt d i a)))
    have good:∀ v7 v8,symAt d i j → RT polM 46 (sn 62668 B46) (imC d i (d.getD i []) j) [] .normal (imE d Ud (.int .i64 (i:Int)) Ud v7 v8 Ud Ud Ud (.imm .arg 1 (d.map encR)) (.int .i64 (d.length:Int)) (.int .i64 (i:Int)) (.imm .arg 1 ((d.getD i []).map hvI)) (.int .i64 ((d.getD i []).length:Int)) (.int .i64 (IntKind.i64.wrap ((j:Int)+1)))) [] → _:=fun v7 v8 hc t=>(by
      rw [wrap_succ (by omega)] at t
      obtain ⟨x,E,h1,h2⟩:=ih (j+1) (by omega)
      refine ⟨x,E,lop t rfl h1,?_⟩
      rcases h2 with ⟨k1,k2,k3⟩ | h2
      · exact .inl ⟨k1,k2,fun a h1 h2=>by
          by_cases e:a=j
          · rw [e]; exact hc
          · exact k3 a (by omega) h2⟩
      · exact .inr h2:∃ x E,RT polM 46 (sn 31334 B46) (imC d i (d.getD i []) j) [] x E [] ∧
      ((x=.exit 4∧E=imC d i (d.getD i []) d.length∧∀ a,j ≤ a → a < d.length → symAt d i a) ∨ (x=.ret∧E.get 2=.bool false∧¬ ∀ a,a < d.length → symAt d i a)))
    have gj:=gri' hjl
    have g1:=gat (hr i hi) hjl
    have g2:=gat (hr j hjl) hi
    have hjm:(j:Int) < ((((d.getD i []).map hvI).length:Nat):Int):=by rw [hl]; omega
    by_cases c3:at2 d i j=at2 d j i
    · by_cases c4:i=j
      · by_cases c5:at2 d i j=0
        · have s:=im_k_0 0 (d.map encR) i [] ((d.getD i []).map hvI) j _ _ _ hjm g1 gj g2 c3 (by omega) c5
          rw [List.length_map,List.length_map] at s
          exact good _ _ ⟨c3,fun _=>c5⟩ s
        · have s:=im_k_1 0 (d.map encR) i [] ((d.getD i []).map hvI) j _ _ _ hjm g1 gj g2 c3 (by omega) c5
          rw [List.length_map,List.length_map] at s
          exact bad _ s rfl fun h=>c5 (h.2 c4)
      · have s:=im_k_2 0 (d.map encR) i [] ((d.getD i []).map hvI) j _ _ _ hjm g1 gj g2 c3 (by omega)
        rw [List.length_map,List.length_map] at s
        exact good _ _ ⟨c3,fun h=>absurd h c4⟩ s
    · have s:=im_k_3 0 (d.map encR) i [] ((d.getD i []).map hvI) j _ _ _ hjm g1 gj g2 c3
      rw [List.length_map,List.length_map] at s
      exact bad _ s rfl fun h=>c3 h.1
theorem im_outer (hd:d.length ≤ 1000) (hr:∀ a,a < d.length → rowLen d a):∀ (k i:Nat),i+k=d.length →
    ∃ x E,RT polM 46 (sn 122 B46) (imB d i) [] x E [] ∧
      ((x=.exit 2∧E=imB d d.length∧∀ b,i ≤ b → b < d.length → ∀ a,a < d.length → symAt d b a) ∨ (x=.ret∧E.get 2=.bool false∧¬ ∀ b,b < d.length → ∀ a,a < d.length → symAt d b a)):=by
  intro k
  induction k with
  | zero =>
    intro i hi
    have hi:i=d.length:=by omega
    subst hi
    have s1:=im_e_1 0 (d.map encR) d.length [] (by rw [List.length_map]; omega)
    have s2:=im_ff_0 0 (d.map encR) d.length []
    rw [List.length_map] at s1 s2
    have t1:=sqo s2 (c:=sn 489 B46) (b:=sn 979 B46)
    have t2:=sq s1 t1 (c:=sn 244 B46)
    exact ⟨_,_,lpo t2,.inl ⟨rfl,rfl,fun a h1 h2=>by omega⟩⟩
  | succ k ih =>
    intro i hi
    have hil:i < d.length:=by omega
    have s1:=im_e_0 0 (d.map encR) i [] (by rw [List.length_map]; omega)
    have s2:=im_ft_0 0 (d.map encR) i []
    have g1:=im_g_0 0 (d.map encR) i [] [] _ (gri' hil)
    have g2:=im_h_0 0 (d.map encR) i [] ((d.getD i []).map hvI)
    rw [List.length_map] at s1 s2 g1
    rw [List.length_map,List.length_map] at g2
    obtain ⟨x,E,h1,h2⟩:=im_cells hd hr hil d.length 0 (by omega)
    have h1':=lpi (e0:=imE d Ud (.int .i64 (i:Int)) (.imm .arg 1 ((d.getD i []).map hvI)) Ud Ud Ud Ud Ud (.imm .arg 1 (d.map encR)) (.int .i64 (d.length:Int)) (.int .i64 (i:Int)) (.imm .arg 1 ((d.getD i []).map hvI)) (.int .i64 ((d.getD i []).length:Int)) (.int .i64 0)) h1 (b:=sn 62668 B46)
    rcases h2 with ⟨rfl,rfl,k3⟩ | ⟨rfl,k2,k3⟩
    · have n1:=im_n_0 0 (d.map encR) i [] ((d.getD i []).map hvI) d.length
      rw [wrap_succ (by omega),List.length_map,List.length_map] at n1
      have t1:=sq g2 (bke (c:=sn 15667 B46) h1') (c:=sn 7833 B46)
      have t2:=RunsTo.block_normal (i:=3) (c:=sn 1958 B46) (sq g1 t1 (c:=sn 3916 B46)) (by kernel_rfl)
      have t3:=sq s2 (sq t2 n1 (c:=sn 979 B46)) (c:=sn 489 B46)
      have t4:=sq s1 t3 (c:=sn 244 B46)
      obtain ⟨x,E,r1,r2⟩:=ih (i+1) (by omega)
      refine ⟨x,E,lop t4 rfl r1,?_⟩
      rcases r2 with ⟨q1,q2,q3⟩ | r2
      · exact .inl ⟨q1,q2,fun b h1 h2=>by
          by_cases e:b=i
          · rw [e]; exact fun a ha=>k3 a (by omega) ha
          · exact q3 b (by omega) h2⟩
      · exact .inr r2
    · have t1:=sq g2 (RunsTo.block_ret (c:=sn 15667 B46) (i:=4) h1' (by kernel_rfl)) (c:=sn 7833 B46)
      have t2:=RunsTo.block_ret (i:=3) (c:=sn 1958 B46) (sq g1 t1 (c:=sn 3916 B46)) (by kernel_rfl)
      have t3:=sq s2 (sqo t2 (c:=sn 979 B46) (b:=sn 1959 B46)) (c:=sn 489 B46)
      have t4:=sq s1 t3 (c:=sn 244 B46)
      exact ⟨_,E,lpo t4,.inr ⟨rfl,k2,fun h=>k3 (h i hil)⟩⟩
theorem okD_iff2:okD d ↔ (1 ≤ d.length∧d.length ≤ 11)∧(∀ a,a < d.length → rowOk d a)∧∀ b,b < d.length → ∀ a,a < d.length → symAt d b a:=by
  rw [okD_iff]
  constructor
  · rintro ⟨h1,h2,h3⟩
    refine ⟨h1,fun a ha=>⟨h2 a ha,fun v hv=>?_⟩,fun b hb a ha=>(h3 b hb a ha).2⟩
    obtain ⟨j,hj,rfl⟩:=List.getElem_of_mem hv
    have hjd:j < d.length:=by have:=h2 a ha; unfold rowLen at this; omega
    have:=(h3 a ha j hjd).1
    unfold at2 at this
    rw [getD_at hj] at this
    exact this
  · rintro ⟨h1,h2,h3⟩
    refine ⟨h1,fun a ha=>(h2 a ha).1,fun b hb a ha=>⟨?_,h3 b hb a ha⟩⟩
    have hl:a < (d.getD b []).length:=by have:=(h2 b hb).1; unfold rowLen at this; omega
    have:=(h2 b hb).2 _ (List.getElem_mem hl)
    unfold at2
    rw [getD_at hl]
    exact this
end
theorem res46:Try.f46.results.toList=[.tmp 2]:=by kernel_rfl
theorem miles_ok:PrimOk Tp 46 miles46:=by
  refine primOk_pure (pol:=polM) (fn:=Try.f46) (cd:=B46) follows_mixed soundM (by kernel_rfl) (by kernel_rfl) (fnok polM.prim _ _ (by kernel_rfl)) (by kernel_rfl) ?_
  intro args res h
  obtain ⟨d,rfl,hq⟩:=rwF_inv h
  clear h
  split at hq
  · rename_i hc
    cases hq
    have hw:∀ r,r ∈ d → r.length ≤ 1000:=fun r hr=>by simpa using List.all_eq_true.1 hc.2 r hr
    have a1:=im_a_0 0 (d.map encR)
    have fin:∀ b E,RT polM 46 (sn 3 B46) (imE d Ud Ud Ud Ud Ud Ud Ud Ud Ud Ud Ud Ud Ud Ud) [] .ret E [] → E.get 2=.bool b → okB d=b →
        ∃ x E H' v,RT polM 46 B46 (args0 [.imm .arg 1 (d.map encR)]) [] x E H'∧(∀ i,x ≠ .exit i)∧resultsV Tp Try.f46 E H'=some v∧toRes H' (polM.deep 46) v=some (.bool (okB d)):=by
      intro b E t hE hb
      exact ⟨_,E,[],.bool b,sq a1 t (c:=B46),by simp,by simp only [resultsV,res46,mapO,resultV,hE],by rw [hb]; rfl⟩
    by_cases c1:(1:Int) ≤ (((d.map encR).length:Nat):Int)∧(((d.map encR).length:Nat):Int) ≤ 11
    · have b1:=im_b_0 0 (d.map encR) c1
      have cc:=im_c_0 0 (d.map encR)
      rw [List.length_map] at c1 cc
      obtain ⟨x,E,h1,h2⟩:=im_rows hc.1 hw d.length 0 (by omega)
      rcases h2 with ⟨rfl,rfl,k3⟩ | ⟨rfl,k2,k3⟩
      · have hr:∀ a,a < d.length → rowLen d a:=fun a ha=>(k3 a (Nat.zero_le _) ha).1
        have d1:=im_d_0 0 (d.map encR) d.length [] Ud
        rw [List.length_map] at d1
        obtain ⟨x,E,r1,r2⟩:=im_outer hc.1 hr d.length 0 (by omega)
        have r1':=lpi (e0:=imE d Ud Ud Ud Ud Ud (.imm .arg 1 (d.map encR)) (.int .i64 (d.length:Int)) (.int .i64 (d.length:Int)) (.imm .arg 1 (d.map encR)) (.int .i64 (d.length:Int)) (.int .i64 0) Ud Ud Ud) r1 (b:=sn 244 B46)
        have t1:=sq cc (bke (c:=sn 29 B46) h1) (c:=sn 14 B46)
        rcases r2 with ⟨rfl,rfl,q3⟩ | ⟨rfl,q2,q3⟩
        · have z1:=im_z_0 0 (d.map encR) d.length []
          rw [List.length_map] at z1
          have t2:=sq d1 (bke (c:=sn 61 B46) r1') (c:=sn 30 B46)
          have t3:=sq t1 (sq t2 z1 (c:=sn 15 B46)) (c:=sn 7 B46)
          exact fin true _ (sq b1 t3 (c:=sn 3 B46)) rfl (okB_true (okD_iff2.2 ⟨⟨by omega,by omega⟩,fun a ha=>k3 a (Nat.zero_le _) ha,fun b hb=>q3 b (Nat.zero_le _) hb⟩))
        · have t2:=sq d1 (RunsTo.block_ret (c:=sn 61 B46) (i:=2) r1' (by kernel_rfl)) (c:=sn 30 B46)
          have t3:=sq t1 (sqo t2 (c:=sn 15 B46) (b:=sn 31 B46)) (c:=sn 7 B46)
          exact fin false _ (sq b1 t3 (c:=sn 3 B46)) q2 (okB_false fun h=>q3 (okD_iff2.1 h).2.2)
      · have t1:=sq cc (RunsTo.block_ret (c:=sn 29 B46) (i:=0) h1 (by kernel_rfl)) (c:=sn 14 B46)
        have t3:=sq b1 (sqo t1 (c:=sn 7 B46) (b:=sn 15 B46)) (c:=sn 3 B46)
        exact fin false _ t3 k2 (okB_false fun h=>k3 (okD_iff2.1 h).2.1)
    · have b1:=im_b_1 0 (d.map encR) c1
      rw [List.length_map] at c1
      exact fin false _ (sqo b1 (c:=sn 3 B46) (b:=sn 7 B46)) rfl (okB_false fun h=>c1 ⟨by have:=h.1.1; omega,by have:=h.1.2; omega⟩)
  · cases hq
theorem trOk_iff {n:Nat} {l:List Int}:trOk n l=true ↔ l.length=n∧l.getD 0 0=0∧inT n l∧l.Nodup:=by
  unfold trOk; rw [decide_eq_true_eq]; exact Iff.rfl
theorem prim_miles {pol':Pol} (hp:pol'.prim 46=some miles46) {d:List (List Int)} (h1:d.length ≤ 1000) (h2:(d.all fun r=>decide (r.length ≤ 1000))=true) (H:Heap) (b:Bool) (hb:okB d=b):∀ k,callN Tp pol' (k+1) 46 [.imm .arg 1 (d.map encR)] H=some (.bool b,H):=fun k=>by
  rw [prim_call (pol:=pol') (g:=46) (F:=miles46) hp (rs:=[.imm .arg 1 (d.map encR)]) (by simp only [mapO,arg_rw]) (res:=.bool b) (by simp only [miles46,rwF,mapO_map decR_enc]; rw [if_pos ⟨h1,h2⟩,hb])]; rfl
theorem revP_len {l:List Int} {i j:Nat} (h:i ≤ j) (hj:j < l.length):(revP l i j).length=l.length:=by
  simp only [revP,List.length_append,List.length_take,List.length_reverse,List.length_drop]
  omega
theorem revP_get {l:List Int} {i j:Nat} (h:i ≤ j) (hj:j < l.length) (k:Nat):(revP l i j)[k]?=if i ≤ k∧k ≤ j then l[i+j - k]? else l[k]?:=by
  unfold revP
  by_cases c1:k < i
  · rw [List.getElem?_append_left (by simp; omega),List.getElem?_take,if_pos c1,if_neg (by omega)]
  · rw [List.getElem?_append_right (by simp; omega),List.length_take,Nat.min_eq_left (by omega)]
    by_cases c2:k ≤ j
    · rw [if_pos ⟨by omega,c2⟩,List.getElem?_append_left (by simp; omega),List.getElem?_reverse (by simp; omega),List.length_take,List.length_drop,Nat.min_eq_left (by omega),List.getElem?_take,if_pos (by omega),List.getElem?_drop]
      congr 1
      omega
    · rw [if_neg (by omega),List.getElem?_append_right (by simp; omega),List.length_reverse,List.length_take,List.length_drop,Nat.min_eq_left (by omega),List.getElem?_drop]
      congr 1
      omega
structure Rv (o:List Int) (lo n i:Nat) (c:List Int):Prop where
  len:c.length=o.length
  get:∀ k,k < o.length → c.getD k 0=if lo ≤ k∧k < lo+n∧(k < lo+i ∨ lo+n ≤ k+i) then o.getD (2 * lo+n - 1 - k) 0 else o.getD k 0
theorem Rv.zero (o:List Int) (lo n:Nat):Rv o lo n 0 o:=⟨rfl,fun k hk=>by rw [if_neg (by omega)]⟩
theorem getD_set (o:List Int) (i k:Nat) (v:Int) (hi:i < o.length):(o.set i v).getD k 0=if i=k then v else o.getD k 0:=by
  simp only [List.getD,List.getElem?_set]
  by_cases e:i=k
  · subst e; simp [hi]
  · simp [e]
theorem Rv.step {o c:List Int} {lo n i:Nat} (h:Rv o lo n i c) (hb:lo+n ≤ o.length) (hi:2 * i+1 < n):Rv o lo n (i+1) ((c.set (lo+i) (c.getD (lo+(n - 1 - i)) 0)).set (lo+(n - 1 - i)) (c.getD (lo+i) 0)):=by
  have hl:=h.len
  refine ⟨by simp [hl],fun k hk=>?_⟩
  rw [getD_set _ _ _ _ (by rw [List.length_set]; omega),getD_set _ _ _ _ (by omega)]
  have e1:=h.get (lo+i) (by omega)
  have e2:=h.get (lo+(n - 1 - i)) (by omega)
  rw [if_neg (by omega)] at e1 e2
  by_cases c1:lo+(n - 1 - i)=k
  · rw [if_pos c1,if_pos (by omega),e1]
    congr 1
    omega
  · rw [if_neg c1]
    by_cases c2:lo+i=k
    · rw [if_pos c2,if_pos (by omega),e2]
      congr 1
      omega
    · rw [if_neg c2,h.get k hk]
      by_cases c3:lo ≤ k∧k < lo+n∧(k < lo+i ∨ lo+n ≤ k+i)
      · rw [if_pos c3,if_pos (by omega)]
      · rw [if_neg c3,if_neg (by omega)]
theorem Rv.done {o c:List Int} {lo n i:Nat} (h:Rv o lo n i c) (hn:1 ≤ n) (hb:lo+n ≤ o.length) (hi:n ≤ 2 * i+1):c=revP o lo (lo+n - 1):=by
  have hr:=revP_len (l:=o) (i:=lo) (j:=lo+n - 1) (by omega) (by omega)
  apply List.ext_getElem (by rw [hr]; exact h.len)
  intro k h1 h2
  have hk:k < o.length:=by rw [← h.len]; exact h1
  have e:=h.get k hk
  have e2:=revP_get (l:=o) (i:=lo) (j:=lo+n - 1) (by omega) (by omega) k
  rw [List.getElem?_eq_getElem h2] at e2
  rw [← getD_at h1,e]
  by_cases c1:lo ≤ k∧k ≤ lo+n - 1
  · rw [if_pos c1,List.getElem?_eq_getElem (by omega)] at e2
    have e3:=Option.some.inj e2
    rw [e3]
    by_cases c2:k < lo+i ∨ lo+n ≤ k+i
    · rw [if_pos ⟨c1.1,by omega,c2⟩,getD_at (by omega)]
      congr 1
      omega
    · rw [if_neg (by omega),getD_at hk]
      congr 1
      omega
  · rw [if_neg c1,List.getElem?_eq_getElem hk] at e2
    rw [if_neg (by omega),getD_at hk]
    exact (Option.some.inj e2).symm
theorem soundI (n:Nat):CallSound Tp (callN Tp polI n):=sound_prim _ (fun g f h=>by
  split at h
  · rename_i hg; cases h; rw [eq_of_beq hg]; exact miles_ok
  split at h
  · rename_i hg; cases h; rw [eq_of_beq hg]; exact mlen_ok
  · cases h) n
open Classical in
noncomputable def best29:List HV → Option HV:=rwF fun R=>if R.length ≤ 1000∧(R.all fun r=>decide (r.length ≤ 1000))=true then some (if okD R then .tuple [.own 1 ((bestT R).map hvI),.int .i64 (lenT R (bestT R)),.int .i64 0] else .tuple [.own 1 [],.int .i64 0,.int .i64 2]) else none
theorem toRes_li2 {H:Heap} {b k:Nat} {cap:Option Nat} {o:List Int} (hb:H[b]?=some (bI o)) (hk:o.length=k) (x e:Int):toRes H false (.tuple [.sl b 0 k cap k 1,.int .i64 x,.int .i64 e])=some (.tuple [.own 1 (o.map hvI),.int .i64 x,.int .i64 e]):=by
  have hr:=resCell_sl (H:=H) (no:=[b]) (b:=b) (k:=1) (m:=k) (cap:=cap) (els:=o.map hvI) hb (by simpa using hk) (mapO_self (fun r=>frz_int 4 r) _)
  have ho:ownedAll H false (.tuple [.sl b 0 k cap k 1,.int .i64 x,.int .i64 e])=[b]:=by simp [ownedAll,cellsOf,owned,hb]
  simp only [toRes,ho,List.nodup_cons,List.not_mem_nil,not_false_eq_true,List.nodup_nil,and_self,if_true,mapO,resVal,hr]
  rfl
theorem arg_slc {H:Heap} {l:List Int} {b m:Nat} {cap:Option Nat} (hm:l.length=m) (hb:H[b]?=some (bI l)):toArg H 6 (.sl b 0 m cap m 1)=some (.imm .arg 1 (l.map hvI)):=arg_sl hm hb
theorem res29:Try.f29.results.toList=[.tmp 2,.tmp 3,.tmp 4]:=by kernel_rfl
theorem lit_zero (H:Heap):litV Tp true true 23 1 [(0,.int .i64 0)] H=some (.sl H.length 0 1 (some 1) 1 1,H ++ [bI [0]]):=by kernel_rfl
section
variable {d:List (List Int)}
abbrev bsE (d:List (List Int)) (tv y8 y9 y10 y29 y30:HV):Env:=env29 (.imm .arg 1 (d.map encR)) (.imm .lit 1 []) (.int .i64 0) (.int .i64 0) (.map 0) (.ptr 1 0 0 1) tv y8 y9 y10 y29 y30
abbrev tv4 (m:Nat):HV:=.sl 4 0 m none m 1
structure BI (d:List (List Int)) (v w:Nat) (o:List Int) (tv:HV) (H:Heap):Prop where
  mem:Mem (rsT d) H
  box:H[1]?=some (boxK v w)
  st:(tv=.sl 2 0 1 (some 1) 1 1∧o=[0]∧H.length=3∧H[2]?=some (bI o)) ∨ (tv=tv4 o.length∧H.length=5∧H[4]?=some (bI o))
theorem BI.len {d:List (List Int)} {v w:Nat} {o:List Int} {tv:HV} {H:Heap} (h:BI d v w o tv H):3 ≤ H.length∧H.length ≤ 5∧bnd tv ≤ H.length:=by
  rcases h.st with ⟨h1,_,h3,_⟩ | ⟨h1,h3,_⟩ <;> rw [h1,h3] <;> simp [bnd]
theorem BI.app {d:List (List Int)} {v w:Nat} {o:List Int} {tv:HV} {H H3:Heap} (h:BI d v w o tv H) (hM:Mem (rsT d) H3) (hl:H3.length=H.length+1) (hs:∀ k,2 ≤ k → k < H.length → H3[k]?=H[k]?) (ho:o.length ≤ 500) (x:Int) :
    ∃ H4,appV H3 1 8 tv [.int .i64 x]=some (tv4 (o.length+1),H4)∧Mem (rsT d) H4∧H4[1]?=H3[1]?∧H4[4]?=some (bI (o ++ [x]))∧5 ≤ H4.length:=by
  rcases h.st with ⟨h1,h2,h3,h4⟩ | ⟨h1,h3,h4⟩
  · have e:=hs 2 (by omega) (by omega)
    rw [h4] at e
    subst h2; subst h1
    refine ⟨H3 ++ [bI ([0] ++ [x])],?_,hM.app (same_bI _) rfl,List.getElem?_append_left (by omega),?_,by simp; omega⟩
    · have e4:H3.length=4:=by omega
      simp only [appV,e,e4]
      simp [roomMax,bnd,bndL,hvI]
    · rw [List.getElem?_append_right (by omega)]; simp [hl,h3]
  · have e:=hs 4 (by omega) (by omega)
    rw [h4] at e
    subst h1
    have ap:=app_ints (xs:=[x]) e (by simp; omega) (by simp)
    rw [show (o ++ [x]).length=o.length+1 by simp] at ap
    exact ⟨_,ap,hM.set (by omega) (same_bI _) rfl,List.getElem?_set_ne (by omega),List.getElem?_set_self (by omega),by simp; omega⟩
theorem bs_in (hd:okD d) {v w:Nat} {o:List Int} {tv:HV} (hv:v < d.length) (hw:w < 2 ^ d.length) (ho:o.length ≤ 500):∀ k i H u,i+k=d.length → BI d v w o tv H → pck (okV d v w) k i=some u →
    ∃ y9 y10 y29 y30 H',RunsTo Tp polI 29 (sn 16150 B29) (bsE d tv (.int .i64 (rsT d v w)) Ud Ud (.int .i64 (d.length:Int)) (.int .i64 (i:Int))) H
      (.exit 2) (polI.keys 29) (bsE d (tv4 (o.length+1)) (.int .i64 (rsT d v w)) y9 y10 y29 y30) H'∧Mem (rsT d) H'∧H'[1]?=some (boxK u (wo w u:Nat))∧H'[4]?=some (bI (o ++ [(u:Int)]))∧5 ≤ H'.length:=by
  have hp:=pow_le hd.1.2
  have hn:=hd.1.2
  intro k
  induction k with
  | zero=>intro i H u _ _ h; cases h
  | succ k ih =>
    intro i H u hi hB hq
    rw [pck] at hq
    have bl:=bo_shl (v:=i) (by omega)
    have bn:=bo_andn (L:=w) (v:=i) (by omega) (by omega)
    have hl:=hB.len
    have g4:some (newV (.agg [.int .i64 0,.int .i64 0]) H)=some (.ptr H.length 0 0 1,H ++ [boxK 0 0]):=by
      rw [show (HV.agg [.int .i64 0,.int .i64 0])=encP ((0:Int),(0:Int)) from rfl,new_k]
    have gn0:(H ++ [boxK 0 0])[H.length]?=some (boxK 0 0):=by rw [List.getElem?_append_right (Nat.le_refl _)]; simp
    have g5:storeV Tp (H ++ [boxK 0 0]) 77 (.ptr H.length 0 0 1) (.agg [.int .i64 (i:Int),.int .i64 ((wo w i:Nat):Int)])=some (H ++ [boxK i (wo w i:Nat)]):=by
      have:=st_k (x:=(i:Int)) (y:=((wo w i:Nat):Int)) gn0
      rw [List.set_append_right _ _ (Nat.le_refl _),Nat.sub_self] at this
      exact this
    have hM0:Mem (rsT d) (H ++ [boxK 0 0]):=hB.mem.app (same_box _ _) rfl
    have l0:loadV Tp (H ++ [boxK 0 0]) 3 (.ptr 1 0 1 1)=some (.int .i64 (w:Int)):=ld_k1 (by rw [List.getElem?_append_left (by omega)]; exact hB.box)
    have gS:(recL ((loadV Tp H 3 (.ptr 1 0 1 1)).map (fun v=>(v,(H:Heap)))) ((loadV Tp (H ++ [boxK 0 0]) 3 (.ptr 1 0 1 1)).map (fun v=>(v,((H ++ [boxK 0 0]):Heap)))) H (H ++ [boxK 0 0]) && true)=true:=by
      rw [ld_k1 hB.box,l0]
      simp only [Option.map,recL,hB.mem.rf,hM0.rf]
      simp [same]
    have hM1:Mem (rsT d) (H ++ [boxK i (wo w i:Nat)]):=hB.mem.app (same_box _ _) rfl
    have low:∀ k,k < H.length → (H ++ [boxK (i:Int) (wo w i:Nat)])[k]?=H[k]?:=fun k hk=>List.getElem?_append_left hk
    have x1:(H ++ [boxK i (wo w i:Nat)])[1]?=some (boxK v w):=by rw [low 1 (by omega)]; exact hB.box
    have x3:(H ++ [boxK (i:Int) (wo w i:Nat)])[H.length]?=some (boxK i (wo w i:Nat)):=by rw [List.getElem?_append_right (Nat.le_refl _)]; simp
    have ll:(H ++ [boxK (i:Int) (wo w i:Nat)]).length=H.length+1:=by simp
    have cut:∀ (H':Heap) (y:HV),Mem (rsT d) H' → bnd y=0 → gc H.length (bndE (bsE d tv y Ud Ud (.int .i64 (d.length:Int)) (.int .i64 ((i+1:Nat):Int)))) H'=H'.take H.length:=fun H' y hM' hy=>by
      rw [hM'.gc]
      congr 1
      simp only [bndE,bnd,bndL,hy]
      omega
    by_cases c:w.testBit i=true
    · have hne:¬ ((w:Int)=((wo w i:Nat):Int)):=by have:=wo_lt c; omega
      obtain ⟨H2,hcl,hM2,hF⟩:=rs_call hd w i (wo w i) (wo_le _ _) (by omega) (by have:=wo_le w i; omega) _ hM1
      obtain ⟨N,hN⟩:=CallsTo.from hcl
      have b1:=hd.at hv (j:=i) (by omega)
      have b3:=rsT_bnd hd (s:=i) (L:=wo w i) (by omega) (by have:=wo_le w i; omega)
      have hwr:IntKind.i64.wrap (at2 d v i+rsT d i (wo w i))=at2 d v i+rsT d i (wo w i):=wrap_id (by omega) (by omega)
      have gS2:(recL ((loadV Tp (H ++ [boxK i (wo w i:Nat)]) 3 (.ptr 1 0 0 1)).map (fun v=>(v,((H ++ [boxK i (wo w i:Nat)]):Heap)))) ((loadV Tp H2 3 (.ptr 1 0 0 1)).map (fun v=>(v,(H2:Heap)))) (H ++ [boxK i (wo w i:Nat)]) H2 && ((same (.imm .arg 1 ((d.getD v []).map hvI)) (.imm .arg 1 ((d.getD v []).map hvI)) && sameH ((H ++ [boxK i (wo w i:Nat)]):Heap) (H ++ [boxK i (wo w i:Nat)]) && sameH (H2:Heap) H2) && ((same (.int .i64 (at2 d v i)) (.int .i64 (at2 d v i)) && sameH ((H ++ [boxK i (wo w i:Nat)]):Heap) (H ++ [boxK i (wo w i:Nat)]) && sameH (H2:Heap) H2) && true)))=true:=by
        have l2:loadV Tp H2 3 (.ptr 1 0 0 1)=some (.int .i64 (v:Int)):=ld_k0 (by rw [hF.same _ (by omega)]; exact x1)
        rw [ld_k0 x1,l2]
        simp only [Option.map,recL,hM1.rf,hM2.rf,same_imm]
        simp [same]
      have y1:H2[1]?=some (boxK v w):=by rw [hF.same _ (by omega)]; exact x1
      have y3:H2[H.length]?=some (boxK i (wo w i:Nat)):=by rw [hF.same _ (by omega)]; exact x3
      have l2:=lt_of_get y1
      by_cases c2:at2 d v i+rsT d i (wo w i)=rsT d v w
      · have hok:okV d v w i=true:=by simp [okV,c,c2]
        rw [if_pos hok] at hq
        cases hq
        have s3:=st_k (x:=(i:Int)) (y:=((wo w i:Nat):Int)) y1
        obtain ⟨H4,ap,hM4,z1,z4,z5⟩:=hB.app (H3:=H2.set 1 (boxK i (wo w i:Nat))) (hM2.set (by omega) (same_box _ _) rfl) (by simp [hF.len]) (fun k h2 hk=>by rw [List.getElem?_set_ne (by omega),hF.same _ (by omega),low _ hk]) ho (i:Int)
        have s:=bs_l_1 N (d.map encR) tv v w H (rsT d v w) d.length i H.length ((wo w i:Nat):Int) _ _ _ _ _ _ _ H2 _ _ _ (by omega) (ld_k1 hB.box) bl bn g4 g5 gS (ld_k1 x1) (ld_k1 x3) hne (ld_k0 x1) (g22 hv) (g23 hd hv (by omega)) (ld_k x3) hN (by rw [hwr,c2]) gS2 (ld_k y3) s3 ap
        refine ⟨_,_,_,_,_,lpo s,hM4,?_,z4,z5⟩
        rw [z1,List.getElem?_set_self (by omega)]
      · have hok:¬ okV d v w i=true:=by simp [okV,c,c2]
        rw [if_neg hok] at hq
        have s:=bs_l_2 N (d.map encR) tv v w H (rsT d v w) d.length i H.length ((wo w i:Nat):Int) _ _ _ _ _ _ _ H2 (by omega) (ld_k1 hB.box) bl bn g4 g5 gS (ld_k1 x1) (ld_k1 x3) hne (ld_k0 x1) (g22 hv) (g23 hd hv (by omega)) (ld_k x3) hN (by rw [hwr]; exact c2) gS2
        rw [wrap_succ (by omega)] at s
        have tl:(H2.take H.length).length=H.length:=by rw [List.length_take,hF.len,ll]; omega
        have tk:∀ k,k ≠ 0 → k < H.length → (H2.take H.length)[k]?=H[k]?:=fun k h0 hk=>by rw [List.getElem?_take,if_pos hk,hF.same _ h0,low _ hk]
        have hB2:BI d v w o tv (H2.take H.length):=by
          refine ⟨hM2.take (by omega),by rw [tk 1 (by omega) (by omega)]; exact hB.box,?_⟩
          rcases hB.st with ⟨h1,h2,h3,h4⟩ | ⟨h1,h3,h4⟩
          · exact .inl ⟨h1,h2,tl.trans h3,by rw [tk 2 (by omega) (by omega)]; exact h4⟩
          · exact .inr ⟨h1,tl.trans h3,by rw [tk 4 (by omega) (by omega)]; exact h4⟩
        obtain ⟨y9,y10,y29,y30,H',r,r2⟩:=ih (i+1) _ u (by omega) hB2 hq
        exact ⟨y9,y10,y29,y30,H',lop s (cut _ _ hM2 rfl) r,r2⟩
    · have hok:¬ okV d v w i=true:=by simp [okV,c]
      rw [if_neg hok] at hq
      have e:wo w i=w:=by unfold wo; rw [if_neg c]
      rw [e] at bn g5 hM1 x1 x3
      have s:=bs_l_0 0 (d.map encR) tv v w H (rsT d v w) d.length i H.length (w:Int) _ _ _ _ (by omega) (ld_k1 hB.box) bl bn g4 g5 gS (ld_k1 x1) (ld_k1 x3) rfl rfl
      rw [wrap_succ (by omega)] at s
      have ec:=cut _ (.int .i64 (rsT d v w)) hM1 rfl
      have et:(H ++ [boxK (i:Int) (w:Int)]).take H.length=H:=by rw [List.take_append_of_le_length (Nat.le_refl _),List.take_of_length_le (Nat.le_refl _)]
      rw [et] at ec
      obtain ⟨y9,y10,y29,y30,H',r,r2⟩:=ih (i+1) _ u (by omega) hB hq
      exact ⟨y9,y10,y29,y30,H',lop s ec r,r2⟩
theorem bs_loop (hd:okD d):∀ (k v w:Nat) (o:List Int) (tv:HV) (H:Heap),w ≤ k → v < d.length → w < 2 ^ d.length → BI d v w o tv H → o.length+(grd d k v w).length ≤ 500 →
    ∃ tb cap H',RT polI 29 (sn 252 B29) (bsE d tv Ud Ud Ud Ud Ud) H (.exit 0) (bsE d (.sl tb 0 (o ++ grd d k v w).length cap (o ++ grd d k v w).length 1) Ud Ud Ud Ud Ud) H'∧H'[tb]?=some (bI (o ++ grd d k v w)):=by
  have h0:∀ (v:Nat) (o:List Int) (tv:HV) (H:Heap),BI d v 0 o tv H → ∃ tb cap H',RT polI 29 (sn 252 B29) (bsE d tv Ud Ud Ud Ud Ud) H (.exit 0) (bsE d (.sl tb 0 (o ++ []).length cap (o ++ []).length 1) Ud Ud Ud Ud Ud) H'∧H'[tb]?=some (bI (o ++ [])):=fun v o tv H hB=>by
    rw [List.append_nil]
    have f:=bs_f_1 0 (d.map encR) tv v 0 H (ld_k1 hB.box) (by omega)
    have r:=lpo (sqo f (c:=sn 504 B29) (b:=sn 1009 B29)) (c:=sn 252 B29)
    rcases hB.st with ⟨h1,h2,h3,h4⟩ | ⟨h1,h3,h4⟩
    · subst h1; subst h2
      exact ⟨2,some 1,H,r,h4⟩
    · subst h1
      exact ⟨4,none,H,r,h4⟩
  intro k
  induction k with
  | zero =>
    intro v w o tv H hk _ _ hB _
    have:w=0:=by omega
    subst this
    exact h0 v o tv H hB
  | succ k ih =>
    intro v w o tv H hk hv hw hB hl
    by_cases cw:w=0
    · subst cw
      rw [grd,if_pos rfl]
      exact h0 v o tv H hB
    · obtain ⟨u,p1,p2,p3,p4⟩:=pck_ok hd hv hw cw
      have eg:grd d (k+1) v w=(u:Int) :: grd d k u (wo w u):=by rw [grd,if_neg cw,p1]
      rw [eg] at hl ⊢
      rw [List.length_cons] at hl
      have f:=bs_f_0 0 (d.map encR) tv v w H (ld_k1 hB.box) (by omega)
      obtain ⟨H1,hcl,hM1,hF⟩:=rs_call hd w v w (Nat.le_refl _) hv hw _ hB.mem
      obtain ⟨N,hN⟩:=CallsTo.from hcl
      have g:=bs_g_0 N (d.map encR) tv v w H _ H1 (ld_k hB.box) hN
      have h:=bs_h_0 0 (d.map encR) tv v w H1 (rsT d v w)
      rw [List.length_map] at h
      have hB1:BI d v w o tv H1:=by
        refine ⟨hM1,by rw [hF.same _ (by omega)]; exact hB.box,?_⟩
        rcases hB.st with ⟨h1,h2,h3,h4⟩ | ⟨h1,h3,h4⟩
        · exact .inl ⟨h1,h2,hF.len.trans h3,by rw [hF.same _ (by omega)]; exact h4⟩
        · exact .inr ⟨h1,hF.len.trans h3,by rw [hF.same _ (by omega)]; exact h4⟩
      obtain ⟨y9,y10,y29,y30,H2,r,r1,r2,r3,r4⟩:=bs_in hd hv hw (by omega) d.length 0 H1 u (by omega) hB1 p1
      have r':=lpi (e0:=bsE d tv (.int .i64 (rsT d v w)) Ud Ud (.int .i64 (d.length:Int)) (.int .i64 0)) r (b:=sn 32300 B29)
      have t1:=sq h (bke (c:=sn 8075 B29) r') (c:=sn 4037 B29)
      have t2:=sq g t1 (c:=sn 2018 B29)
      have t3:=RunsTo.block_normal (i:=1) (c:=sn 1009 B29) t2 (by kernel_rfl)
      have t4:=sq f t3 (c:=sn 504 B29)
      have hB2:BI d u (wo w u) (o ++ [(u:Int)]) (tv4 (o.length+1)) (H2.take 5):=by
        refine ⟨r1.take (by omega),?_,.inr ⟨by simp,by rw [List.length_take]; omega,?_⟩⟩
        · rw [List.getElem?_take,if_pos (by omega)]; exact r2
        · rw [List.getElem?_take,if_pos (by omega)]; exact r3
      have ec:gc H.length (bndE (bsE d (tv4 (o.length+1)) Ud Ud Ud Ud Ud)) H2=H2.take 5:=by
        rw [r1.gc]
        congr 1
        have:=hB.len
        simp only [bndE,bnd,bndL]
        omega
      obtain ⟨tb,cap,H',q1,q2⟩:=ih u (wo w u) (o ++ [(u:Int)]) _ (H2.take 5) (by have:=wo_lt p3; omega) p2 (by have:=wo_lt p3; omega) hB2 (by simp; omega)
      rw [List.append_assoc] at q1 q2
      exact ⟨tb,cap,H',lop t4 ec q1,q2⟩
end
theorem best_ok:PrimOk Tp 29 best29:=by
  refine primOk_pure (pol:=polI) (fn:=Try.f29) (cd:=B29) follows_mixed soundI (by kernel_rfl) (by kernel_rfl) (fnok polI.prim _ _ (by kernel_rfl)) (by kernel_rfl) ?_
  intro args res h
  obtain ⟨d,rfl,hq⟩:=rwF_inv h
  clear h
  split at hq
  · rename_i hc
    cases hq
    have a:=bs_a_0 0 (d.map encR)
    by_cases hd:okD d
    · rw [if_pos hd]
      have hn:=hd.1
      have hp:=pow_le hd.1.2
      have m1:=prim_miles (pol':=polI) (by kernel_rfl) hc.1 hc.2 [] true (okB_true hd)
      have b:=bs_b_0 0 (d.map encR) m1
      have c:=bs_c_0 0 (d.map encR) [] _ rfl
      have h2:2 ≤ 2 ^ d.length:=by
        have:=Nat.pow_le_pow_right (n:=2) (by omega) hn.1
        omega
      have ew:IntKind.i64.wrap (((2 ^ d.length:Nat):Int) - 2)=((2 ^ d.length - 2:Nat):Int):=by
        generalize 2 ^ d.length=x at hp h2
        rw [wrap_id (by omega) (by omega)]; omega
      have bl:=bo_shl (v:=d.length) (by omega)
      have dd:=bs_d_0 0 (d.map encR) [.map [] [] 0] ((2 ^ d.length:Nat):Int) _ [.map [] [] 0,boxK 0 (2 ^ d.length - 2:Nat)] (by rw [List.length_map]; exact bl) (by rw [show (HV.agg [.int .i64 0,.int .i64 0])=encP ((0:Int),(0:Int)) from rfl,new_k]; rfl) (by rw [ew]; exact st_k rfl)
      have e:=bs_e_0 0 (d.map encR) _ [.map [] [] 0,boxK 0 (2 ^ d.length - 2:Nat)] _ (lit_zero _)
      have hB:BI d 0 (2 ^ d.length - 2) [0] (.sl 2 0 1 (some 1) 1 1) [.map [] [] 0,boxK 0 (2 ^ d.length - 2:Nat),bI [0]]:=⟨⟨⟨[],rfl⟩,by
        rw [sameH_iff]
        intro B hB
        simp only [List.mem_cons,List.not_mem_nil,or_false] at hB
        rcases hB with rfl | rfl | rfl
        · rfl
        · exact same_box _ _
        · exact same_bI _,by simp [mxs,Blk.mx]⟩,rfl,.inl ⟨rfl,rfl,rfl,rfl⟩⟩
      have ht:=best_tour hd
      obtain ⟨t1,t2,t3,t4⟩:=trOk_iff.1 ht
      have hbl:(bestT d).length=1+(grd d (2 ^ d.length) 0 (2 ^ d.length - 2)).length:=by simp only [bestT,List.length_cons]; omega
      obtain ⟨tb,cap,H',q1,q2⟩:=bs_loop hd (2 ^ d.length) 0 (2 ^ d.length - 2) [0] _ _ (Nat.sub_le _ _) (by omega) all_lt hB (by simp only [List.length_cons,List.length_nil]; omega)
      have eb:[0] ++ grd d (2 ^ d.length) 0 (2 ^ d.length - 2)=bestT d:=rfl
      rw [eb] at q1 q2
      have k56:∀ k,callN Tp polI (k+1) 56 [.imm .arg 1 (d.map encR),.sl tb 0 (bestT d).length cap (bestT d).length 1] H'=some (.int .i64 (lenT d (bestT d)),H'):=fun k=>by
        rw [prim_call (pol:=polI) (g:=56) (F:=len56) (by kernel_rfl) (rs:=[.imm .arg 1 (d.map encR),.imm .arg 1 ((bestT d).map hvI)]) (by simp only [mapO,arg_rw,arg_slc rfl q2]) (res:=.int .i64 (lenT d (bestT d))) (by simp only [len56,rlF,mapO_map decR_enc,mapO_map decI_enc]; rw [if_pos ⟨hd,t3,by omega⟩])]; rfl
      have z:=bs_z_0 0 (d.map encR) _ H' Ud Ud Ud Ud Ud _ _ k56
      have u1:=sq (bke (c:=sn 126 B29) q1) z (c:=sn 63 B29)
      have u2:=sq e u1 (c:=sn 31 B29)
      have u3:=sq dd u2 (c:=sn 15 B29)
      have u4:=sq c u3 (c:=sn 7 B29)
      have u5:=sq a (sq b u4 (c:=sn 3 B29)) (c:=B29)
      exact ⟨_,_,_,.tuple [.sl tb 0 (bestT d).length cap (bestT d).length 1,.int .i64 (lenT d (bestT d)),.int .i64 0],u5,by simp,by simp only [resultsV,res29]; rfl,toRes_li2 q2 rfl _ 0⟩
    · rw [if_neg hd]
      have m1:=prim_miles (pol':=polI) (by kernel_rfl) hc.1 hc.2 [] false (okB_false hd)
      exact ⟨_,_,_,_,sq a (sqo (bs_b_1 0 (d.map encR) m1) (c:=sn 3 B29) (b:=sn 7 B29)) (c:=B29),by simp,by simp only [resultsV,res29]; rfl,rfl⟩
  · cases hq
theorem left_bit {n U v:Nat} (hU:U < 2 ^ n) (hv:v < n):(2 ^ n - 1 - U).testBit v=!U.testBit v:=by
  rw [show 2 ^ n - 1 - U=2 ^ n - (U+1) by omega,Nat.testBit_two_pow_sub_succ hU,decide_eq_true hv,Bool.true_and]
theorem bit_rem (U v:Nat):((U / 2 ^ v:Nat):Int).tmod 2=0 ↔ U.testBit v=false:=by
  rw [Nat.testBit_eq_decide_div_mod_eq,decide_eq_false_iff_not]
  have:((U / 2 ^ v:Nat):Int).tmod 2=((U / 2 ^ v % 2:Nat):Int):=by
    rw [Int.tmod_eq_emod_of_nonneg (Int.natCast_nonneg _)]; rfl
  rw [this]
  omega
theorem left_add {n U v:Nat} (hU:U < 2 ^ n) (hv:v < n) (hb:U.testBit v=false):U+2 ^ v < 2 ^ n∧2 ^ n - 1 - (U+2 ^ v)=wo (2 ^ n - 1 - U) v∧(2 ^ n - 1 - U).testBit v=true:=by
  have h1:(2 ^ n - 1 - U).testBit v=true:=by rw [left_bit hU hv,hb]; rfl
  have h2:=Nat.ge_two_pow_of_testBit h1
  refine ⟨by omega,?_,h1⟩
  unfold wo
  rw [if_pos h1]
  omega
def mnF (f:Nat → Int) (L:Nat):Nat → Nat → Int → Int
  | 0,_,m=>m
  | k+1,i,m=>mnF f L k (i+1) (if L.testBit i then min m (f i) else m)
theorem mnF_eq {f:Nat → Int} {L:Nat} {x:Int}:∀ (k i:Nat) (m:Int),x ≤ m → (∀ v,i ≤ v → v < i+k → L.testBit v=true → x ≤ f v) → (m=x ∨ ∃ v,(i ≤ v∧v < i+k)∧L.testBit v=true∧f v=x) → mnF f L k i m=x
  | 0,i,m,h1,_,h3=>by
    rcases h3 with h | ⟨v,h,_⟩
    · exact h
    · omega
  | k+1,i,m,h1,h2,h3=>by
    rw [mnF]
    by_cases c:L.testBit i=true
    · rw [if_pos c]
      have hi:=h2 i (Nat.le_refl _) (by omega) c
      refine mnF_eq k (i+1) _ (by omega) (fun v hv hv2 hb=>h2 v (by omega) (by omega) hb) ?_
      rcases h3 with h | ⟨v,h,hb,e⟩
      · exact .inl (by omega)
      · by_cases ev:v=i
        · subst ev; exact .inl (by omega)
        · exact .inr ⟨v,by omega,hb,e⟩
    · rw [if_neg c]
      refine mnF_eq k (i+1) _ h1 (fun v hv hv2 hb=>h2 v (by omega) (by omega) hb) ?_
      rcases h3 with h | ⟨v,h,hb,e⟩
      · exact .inl h
      · by_cases ev:v=i
        · subst ev; exact absurd hb c
        · exact .inr ⟨v,by omega,hb,e⟩
section
variable {d:List (List Int)}
theorem mnF_rs (hd:okD d) {a L:Nat} (ha:a < d.length) (hL:L < 2 ^ d.length) (h0:L ≠ 0):mnF (fun v=>at2 d a v+rsT d v (wo L v)) L d.length 0 1099511627776=rsT d a L:=by
  obtain ⟨h1,v,hb,e⟩:=rsT_min hd ha hL h0
  have h2:=rsT_bnd hd ha hL
  exact mnF_eq _ _ _ (by omega) (fun v _ _ hb=>h1 v hb) (.inr ⟨v,⟨Nat.zero_le _,by have:=bit_lt hL hb; omega⟩,hb,by
    first
    | exact e.symm
    | exact e
    | exact e.1.symm
    | exact e.2.symm⟩)
def TI (d:List (List Int)) (T:List Int) (U a:Nat):Prop:=T.length=2 ^ d.length * d.length∧(∀ V,U < V → V < 2 ^ d.length → ∀ b,b < d.length → T.getD (V * d.length+b) 0=rsT d b (2 ^ d.length - 1 - V))∧∀ b,b < a → T.getD (U * d.length+b) 0=rsT d b (2 ^ d.length - 1 - U)
theorem ix_lt {n V b:Nat} (hV:V < 2 ^ n) (hb:b < n):V * n+b < 2 ^ n * n:=by
  have:=Nat.mul_le_mul_right n (show V+1 ≤ 2 ^ n by omega)
  rw [Nat.succ_mul] at this
  omega
theorem ix_inj {n V b U a:Nat} (hb:b < n) (ha:a < n) (h:V * n+b=U * n+a):V=U∧b=a:=by
  have h1:(V * n+b) / n=V:=by rw [Nat.mul_comm,Nat.mul_add_div (by omega),Nat.div_eq_of_lt hb]; omega
  have h2:(U * n+a) / n=U:=by rw [Nat.mul_comm,Nat.mul_add_div (by omega),Nat.div_eq_of_lt ha]; omega
  have:V=U:=by rw [← h1,← h2,h]
  subst this
  exact ⟨rfl,by omega⟩
end
def nan84:List HV → Option HV | [.int .i64 _]=>some (.bool false) | _=>none
def cmpI (x y:Int):Int:=if x < y then -1 else if y < x then 1 else 0
def fstL:List Int → Int
  | []=>0
  | x :: l=>if x=0 then fstL l else x
def compare79:List HV → Option HV | [.int .i64 x,.int .i64 y]=>some (.int .i64 (cmpI x y)) | _=>none
def less91:List HV → Option HV | [.int .i64 x,.int .i64 y]=>some (.bool (decide (x < y))) | _=>none
def first78:List HV → Option HV:=liF fun l=>if l.length ≤ 1000 then some (.int .i64 (fstL l)) else none
def edge77:List HV → Option HV
  | [.agg [.int .i64 a,.int .i64 b,.int .i64 c],.agg [.int .i64 d,.int .i64 e,.int .i64 f]]=>some (.int .i64 (fstL [cmpI a d,cmpI b e,cmpI c f]))
  | _=>none
def polNa:Pol:={ pol with prim:=fun g=>if g == 84 then some nan84 else none }
def polCe:Pol:={ pol with prim:=fun g=>if g == 79 then some compare79 else if g == 78 then some first78 else none }
end Go.Proofs.Ytlendaofkmhgmaa
end
section
open Go Go.HL
namespace Go.Proofs.Ytlendaofkmhgmaa
set_option maxRecDepth 100000
set_option linter.unusedSectionVars false
open Go.Proofs.Try renaming prog → Tp
open Go.HL.HV renaming undef → Ud
noncomputable def B84:Code:=Try.f84.body.getD .skip
abbrev env84 (v0 v2:HV):Env:=[(0,v0),(2,v2)]
theorem nan_0 (x:Int) (g0:x=x): RT pol 84 (sub [] B84) [(0,.i x)] [] .ret (env84 (.i x) (.bool false)) [] :=
  hx 0 60 [jB 1 2 [] (congrArg not (decide_eq_true g0))]
noncomputable def B79:Code:=Try.f79.body.getD .skip
abbrev env79 (v0 v1 v4 v5 v6:HV):Env:=[(0,v0),(1,v1),(4,v4),(5,v5),(6,v6)]
section
variable (x y:Int)
include x y
theorem cpr_0 (g0:∀ kf,callN Tp polNa (kf+1) 84 [.i x] []=some (.bool false,[])) (g1:∀ kf,callN Tp polNa (kf+1) 84 [.i y] []=some (.bool false,[])) (g2:x < y): RT polNa 79 (sub [] B79) [(0,.i x),(1,.i y)] [] .ret (env79 (.i x) (.i y) (.i (-1)) (.bool false) (.bool false)) [] :=
  hx 0 60 [jD 1 1 g0,jD 2 1 g1,jT 9 2 [] g2]
theorem cpr_1 (g0:∀ kf,callN Tp polNa (kf+1) 84 [.i x] []=some (.bool false,[])) (g1:∀ kf,callN Tp polNa (kf+1) 84 [.i y] []=some (.bool false,[])) (g2:¬ (x < y)) (g3:y < x): RT polNa 79 (sub [] B79) [(0,.i x),(1,.i y)] [] .ret (env79 (.i x) (.i y) (.i 1) (.bool false) (.bool false)) [] :=
  hx 0 60 [jD 1 1 g0,jD 2 1 g1,jF 9 2 [] g2,jT 11 2 [] g3]
theorem cpr_2 (g0:∀ kf,callN Tp polNa (kf+1) 84 [.i x] []=some (.bool false,[])) (g1:∀ kf,callN Tp polNa (kf+1) 84 [.i y] []=some (.bool false,[])) (g2:¬ (x < y)) (g3:¬ (y < x)): RT polNa 79 (sub [] B79) [(0,.i x),(1,.i y)] [] .ret (env79 (.i x) (.i y) (.i 0) (.bool false) (.bool false)) [] :=
  hx 0 60 [jD 1 1 g0,jD 2 1 g1,jF 9 2 [] g2,jF 11 2 [] g3]
end
noncomputable def B91:Code:=Try.f91.body.getD .skip
abbrev env91 (v0 v1 v4:HV):Env:=[(0,v0),(1,v1),(4,v4)]
theorem les_0 (x y:Int) (g0:∀ kf,callN Tp polNa (kf+1) 84 [.i x] []=some (.bool false,[])) (g1:x < y): RT polNa 91 (sub [] B91) [(0,.i x),(1,.i y)] [] .ret (env91 (.i x) (.i y) (.bool true)) [] :=
  hx 0 60 [jD 1 1 g0,jT 1 10 [] g1]
theorem les_1 (x y:Int) (g0:∀ kf,callN Tp polNa (kf+1) 84 [.i x] []=some (.bool false,[])) (g1:¬ (x < y)): RT polNa 91 (sub [] B91) [(0,.i x),(1,.i y)] [] .ret (env91 (.i x) (.i y) (.bool false)) [] :=
  hx 0 60 [jD 1 1 g0,jF 1 10 [] g1]
noncomputable def B78:Code:=Try.f78.body.getD .skip
abbrev env78 (v0 v2 v4 v5 v6 v7:HV):Env:=[(0,v0),(2,v2),(4,v4),(5,v5),(6,v6),(7,v7)]
abbrev e78 (la:List HV) (u2 u4 u5:HV):Env:=env78 (.a la) (.i 0) u2 (.a la) u4 u5
section
variable (la:List HV)
include la
theorem fst_a_0:RT pol 78 (sn 2 B78) [(0,.a la)] [] .normal (env78 (.a la) (.i 0) Ud Ud Ud Ud) [] :=
  hx 0 60 []
end
section
variable (la:List HV)
include la
theorem fst_b_0:RT pol 78 (sn 12 B78) (env78 (.a la) (.i 0) Ud Ud Ud Ud) [] .normal (e78 la Ud (.i (la.length:Int)) (.i 0)) [] :=
  hx 0 60 []
theorem fst_l_0 (i:Nat) (y4:HV) (x0:Int) (g0:(i:Int) < (la.length:Int)) (g1:IX 23 (.a la) (.n i) (.vptr (.i x0))) (g2:x0=0): RT pol 78 (sn 52 B78) (e78 la y4 (.i (la.length:Int)) (.n i)) [] .normal (e78 la (.i x0) (.i (la.length:Int)) (.i (IntKind.i64.wrap ((i:Int)+1)))) [] :=
  hx 0 60 [jT 2 0 [] g0,jO 3 0 [] g1,jB 4 1 [] (congrArg not (decide_eq_true g2))]
theorem fst_l_1 (i:Nat) (y4:HV) (x0:Int) (g0:(i:Int) < (la.length:Int)) (g1:IX 23 (.a la) (.n i) (.vptr (.i x0))) (g2:¬ (x0=0)): RT pol 78 (sn 52 B78) (e78 la y4 (.i (la.length:Int)) (.n i)) [] .ret (env78 (.a la) (.i x0) (.i x0) (.a la) (.i (la.length:Int)) (.n i)) [] :=
  hx 0 60 [jT 2 0 [] g0,jO 3 0 [] g1,jB 4 1 [] (congrArg not (decide_eq_false g2))]
theorem fst_l_2 (i:Nat) (y4:HV) (g0:¬ ((i:Int) < (la.length:Int))): RT pol 78 (sn 52 B78) (e78 la y4 (.i (la.length:Int)) (.n i)) [] (.exit 0) (e78 la y4 (.i (la.length:Int)) (.n i)) [] :=
  hx 0 60 [jF 2 0 [] g0]
theorem fst_z_0 (i:Nat) (y4:HV): RT pol 78 (sn 7 B78) (e78 la y4 (.i (la.length:Int)) (.n i)) [] .ret (e78 la y4 (.i (la.length:Int)) (.n i)) [] :=
  hx 0 60 []
end
noncomputable def B77:Code:=Try.f77.body.getD .skip
abbrev env77 (v0 v1 v2 v3 v4:HV):Env:=[(0,v0),(1,v1),(2,v2),(3,v3),(4,v4)]
theorem ec_0 (a b c d e f:Int) (c0:Int) (c1:Int) (c2:Int) (c3:Int) (g0:∀ kf,callN Tp polCe (kf+1) 79 [.i a,.i d] [.arr 3 [.agg [.i a,.i b,.i c]] true 0,.arr 3 [.agg [.i d,.i e,.i f]] true 0]=some (.i c0,[.arr 3 [.agg [.i a,.i b,.i c]] true 0,.arr 3 [.agg [.i d,.i e,.i f]] true 0])) (g1:∀ kf,callN Tp polCe (kf+1) 79 [.i b,.i e] [.arr 3 [.agg [.i a,.i b,.i c]] true 0,.arr 3 [.agg [.i d,.i e,.i f]] true 0]=some (.i c1,[.arr 3 [.agg [.i a,.i b,.i c]] true 0,.arr 3 [.agg [.i d,.i e,.i f]] true 0])) (g2:∀ kf,callN Tp polCe (kf+1) 79 [.i c,.i f] [.arr 3 [.agg [.i a,.i b,.i c]] true 0,.arr 3 [.agg [.i d,.i e,.i f]] true 0]=some (.i c2,[.arr 3 [.agg [.i a,.i b,.i c]] true 0,.arr 3 [.agg [.i d,.i e,.i f]] true 0])) (g3:∀ kf,callN Tp polCe (kf+1) 78 [.imm .lit 1 [.i c0,.i c1,.i c2]] [.arr 3 [.agg [.i a,.i b,.i c]] true 0,.arr 3 [.agg [.i d,.i e,.i f]] true 0]=some (.i c3,[.arr 3 [.agg [.i a,.i b,.i c]] true 0,.arr 3 [.agg [.i d,.i e,.i f]] true 0])) (gS1:((same (.i b) (.i b) && sameH ([.arr 3 [.agg [.i a,.i b,.i c]] true 0,.arr 3 [.agg [.i d,.i e,.i f]] true 0]:Heap) [.arr 3 [.agg [.i a,.i b,.i c]] true 0,.arr 3 [.agg [.i d,.i e,.i f]] true 0] && sameH ([.arr 3 [.agg [.i a,.i b,.i c]] true 0,.arr 3 [.agg [.i d,.i e,.i f]] true 0]:Heap) [.arr 3 [.agg [.i a,.i b,.i c]] true 0,.arr 3 [.agg [.i d,.i e,.i f]] true 0]) && ((same (.i e) (.i e) && sameH ([.arr 3 [.agg [.i a,.i b,.i c]] true 0,.arr 3 [.agg [.i d,.i e,.i f]] true 0]:Heap) [.arr 3 [.agg [.i a,.i b,.i c]] true 0,.arr 3 [.agg [.i d,.i e,.i f]] true 0] && sameH ([.arr 3 [.agg [.i a,.i b,.i c]] true 0,.arr 3 [.agg [.i d,.i e,.i f]] true 0]:Heap) [.arr 3 [.agg [.i a,.i b,.i c]] true 0,.arr 3 [.agg [.i d,.i e,.i f]] true 0]) && ((same (.i c) (.i c) && sameH ([.arr 3 [.agg [.i a,.i b,.i c]] true 0,.arr 3 [.agg [.i d,.i e,.i f]] true 0]:Heap) [.arr 3 [.agg [.i a,.i b,.i c]] true 0,.arr 3 [.agg [.i d,.i e,.i f]] true 0] && sameH ([.arr 3 [.agg [.i a,.i b,.i c]] true 0,.arr 3 [.agg [.i d,.i e,.i f]] true 0]:Heap) [.arr 3 [.agg [.i a,.i b,.i c]] true 0,.arr 3 [.agg [.i d,.i e,.i f]] true 0]) && ((same (.i c) (.i c) && sameH ([.arr 3 [.agg [.i a,.i b,.i c]] true 0,.arr 3 [.agg [.i d,.i e,.i f]] true 0]:Heap) [.arr 3 [.agg [.i a,.i b,.i c]] true 0,.arr 3 [.agg [.i d,.i e,.i f]] true 0] && sameH ([.arr 3 [.agg [.i a,.i b,.i c]] true 0,.arr 3 [.agg [.i d,.i e,.i f]] true 0]:Heap) [.arr 3 [.agg [.i a,.i b,.i c]] true 0,.arr 3 [.agg [.i d,.i e,.i f]] true 0]) && ((same (.i f) (.i f) && sameH ([.arr 3 [.agg [.i a,.i b,.i c]] true 0,.arr 3 [.agg [.i d,.i e,.i f]] true 0]:Heap) [.arr 3 [.agg [.i a,.i b,.i c]] true 0,.arr 3 [.agg [.i d,.i e,.i f]] true 0] && sameH ([.arr 3 [.agg [.i a,.i b,.i c]] true 0,.arr 3 [.agg [.i d,.i e,.i f]] true 0]:Heap) [.arr 3 [.agg [.i a,.i b,.i c]] true 0,.arr 3 [.agg [.i d,.i e,.i f]] true 0]) && ((same (.i f) (.i f) && sameH ([.arr 3 [.agg [.i a,.i b,.i c]] true 0,.arr 3 [.agg [.i d,.i e,.i f]] true 0]:Heap) [.arr 3 [.agg [.i a,.i b,.i c]] true 0,.arr 3 [.agg [.i d,.i e,.i f]] true 0] && sameH ([.arr 3 [.agg [.i a,.i b,.i c]] true 0,.arr 3 [.agg [.i d,.i e,.i f]] true 0]:Heap) [.arr 3 [.agg [.i a,.i b,.i c]] true 0,.arr 3 [.agg [.i d,.i e,.i f]] true 0]) && true))))))=true): RT polCe 77 (sub [] B77) [(0,.agg [.i a,.i b,.i c]),(1,.agg [.i d,.i e,.i f])] [] .ret (env77 (.agg [.i a,.i b,.i c]) (.agg [.i d,.i e,.i f]) (.q 0) (.q 1) (.i c3)) [.arr 3 [.agg [.i a,.i b,.i c]] true 0,.arr 3 [.agg [.i d,.i e,.i f]] true 0] :=
  hx 0 60 [jK gS1,jD 1 4 g0,jD 1 9 g1,jD 1 14 g2,jD 1 16 g3]
end Go.Proofs.Ytlendaofkmhgmaa
end
section
open Go Go.HL
namespace Go.Proofs.Ytlendaofkmhgmaa
set_option linter.unusedSectionVars false
open Go.Proofs.Try renaming prog → Tp
open Go.HL.HV renaming undef → Ud
theorem res84:Try.f84.results.toList=[.tmp 2]:=by kernel_rfl
theorem res79:Try.f79.results.toList=[.tmp 4]:=by kernel_rfl
theorem res91:Try.f91.results.toList=[.tmp 4]:=by kernel_rfl
theorem res78:Try.f78.results.toList=[.tmp 2]:=by kernel_rfl
theorem res77:Try.f77.results.toList=[.tmp 4]:=by kernel_rfl
theorem nan_ok:PrimOk Tp 84 nan84:=by
  refine primOk_pure (pol:=pol) (fn:=Try.f84) (cd:=B84) follows_mixed sound (by kernel_rfl) (by kernel_rfl) (fnok pol.prim _ _ (by kernel_rfl)) (by kernel_rfl) ?_
  intro args res h
  unfold nan84 at h
  split at h
  · rename_i x
    cases h
    exact ⟨_,_,_,.bool false,nan_0 x rfl,by simp,by simp only [resultsV,res84]; rfl,rfl⟩
  · cases h
theorem soundNa (n:Nat):CallSound Tp (callN Tp polNa n):=sound_prim _ (fun g f h=>by
  split at h
  · rename_i hg; cases h; rw [eq_of_beq hg]; exact nan_ok
  · cases h) n
theorem qnan (x:Int) (H:Heap):∀ kf,callN Tp polNa (kf+1) 84 [.int .i64 x] H=some (.bool false,H):=fun kf=>by
  rw [prim_call (pol:=polNa) (g:=84) (F:=nan84) (by kernel_rfl) (rs:=[.int .i64 x]) rfl (res:=.bool false) rfl]; rfl
theorem compare_ok:PrimOk Tp 79 compare79:=by
  refine primOk_pure (pol:=polNa) (fn:=Try.f79) (cd:=B79) follows_mixed soundNa (by kernel_rfl) (by kernel_rfl) (fnok polNa.prim _ _ (by kernel_rfl)) (by kernel_rfl) ?_
  intro args res h
  unfold compare79 at h
  split at h
  · rename_i x y
    cases h
    unfold cmpI
    by_cases c1:x < y
    · rw [if_pos c1]
      exact ⟨_,_,_,.int .i64 (-1),cpr_0 x y (qnan x []) (qnan y []) c1,by simp,by simp only [resultsV,res79]; rfl,rfl⟩
    · rw [if_neg c1]
      by_cases c2:y < x
      · rw [if_pos c2]
        exact ⟨_,_,_,.int .i64 1,cpr_1 x y (qnan x []) (qnan y []) c1 c2,by simp,by simp only [resultsV,res79]; rfl,rfl⟩
      · rw [if_neg c2]
        exact ⟨_,_,_,.int .i64 0,cpr_2 x y (qnan x []) (qnan y []) c1 c2,by simp,by simp only [resultsV,res79]; rfl,rfl⟩
  · cases h
theorem less_ok:PrimOk Tp 91 less91:=by
  refine primOk_pure (pol:=polNa) (fn:=Try.f91) (cd:=B91) follows_mixed soundNa (by kernel_rfl) (by kernel_rfl) (fnok polNa.prim _ _ (by kernel_rfl)) (by kernel_rfl) ?_
  intro args res h
  unfold less91 at h
  split at h
  · rename_i x y
    cases h
    by_cases c1:x < y
    · rw [decide_eq_true c1]
      exact ⟨_,_,_,.bool true,les_0 x y (qnan x []) c1,by simp,by simp only [resultsV,res91]; rfl,rfl⟩
    · rw [decide_eq_false c1]
      exact ⟨_,_,_,.bool false,les_1 x y (qnan x []) c1,by simp,by simp only [resultsV,res91]; rfl,rfl⟩
  · cases h
theorem fst_loop {l:List Int} (hl:l.length ≤ 1000):∀ k i (y4:HV),i+k=l.length → ∃ x E,RT pol 78 (sn 26 B78) (env78 (.a (l.map hvI)) (.i 0) Ud (.a (l.map hvI)) (.i ((l.map hvI).length:Int)) (.i (i:Int))) [] x E [] ∧
    ((x=.ret∧E.get 2=.int .i64 (fstL (l.drop i))) ∨ (x=.exit 0∧(∃ y4:HV,E=env78 (.imm .arg 1 (l.map hvI)) (.int .i64 0) y4 (.imm .arg 1 (l.map hvI)) (.int .i64 ((l.map hvI).length:Int)) (.int .i64 ((l.length:Nat):Int)))∧fstL (l.drop i)=0)):=by
  intro k
  induction k with
  | zero =>
    intro i y4 hi
    have:i=l.length:=by omega
    subst this
    exact ⟨_,_,lpo (fst_l_2 (l.map hvI) l.length Ud (by simp)),.inr ⟨rfl,⟨_,rfl⟩,by simp [fstL]⟩⟩
  | succ k ih =>
    intro i y4 hi
    have g:=gx (l:=l) (y:=i) (by omega)
    have hd:l.drop i=l.getD i 0 :: l.drop (i+1):=by
      rw [List.drop_eq_getElem_cons (by omega)]
      simp [List.getD,List.getElem?_eq_getElem (show i < l.length by omega)]
    by_cases c:l.getD i 0=0
    · have s:=fst_l_0 (l.map hvI) i Ud _ (by rw [List.length_map]; omega) g c
      rw [wrap_succ (by omega)] at s
      obtain ⟨x,E,r,q⟩:=ih (i+1) Ud (by omega)
      have e:fstL (l.drop i)=fstL (l.drop (i+1)):=by rw [hd,fstL,if_pos c]
      rw [e]
      exact ⟨x,E,lop s rfl r,q⟩
    · have s:=fst_l_1 (l.map hvI) i Ud _ (by rw [List.length_map]; omega) g c
      have e:fstL (l.drop i)=l.getD i 0:=by rw [hd,fstL,if_neg c]
      exact ⟨_,_,lpo s,.inl ⟨rfl,by rw [e]; rfl⟩⟩
theorem first_ok:PrimOk Tp 78 first78:=by
  refine primOk_pure (pol:=pol) (fn:=Try.f78) (cd:=B78) follows_mixed sound (by kernel_rfl) (by kernel_rfl) (fnok pol.prim _ _ (by kernel_rfl)) (by kernel_rfl) ?_
  intro args res h
  obtain ⟨l,rfl,hq⟩:=liF_inv h
  clear h
  split at hq
  · rename_i hl
    cases hq
    obtain ⟨x,E,r,q⟩:=fst_loop hl l.length 0 Ud (by omega)
    have a:=fst_a_0 (l.map hvI)
    have b:=fst_b_0 (l.map hvI)
    rcases q with ⟨rfl,q⟩ | ⟨rfl,⟨y4,rfl⟩,q⟩
    · have t1:=sq b (RunsTo.block_ret (i:=0) (c:=sn 13 B78) r (by kernel_rfl)) (c:=sn 6 B78)
      have t2:=sq a (sqo t1 (c:=sn 3 B78) (b:=sn 7 B78)) (c:=B78)
      exact ⟨_,_,_,.int .i64 (fstL l),t2,by simp,by simp only [resultsV,res78,mapO,resultV,q]; rfl,rfl⟩
    · have t1:=sq b (bke (c:=sn 13 B78) r) (c:=sn 6 B78)
      have z:=fst_z_0 (l.map hvI) l.length y4
      have t2:=sq a (sq t1 z (c:=sn 3 B78)) (c:=B78)
      rw [List.drop_zero] at q
      rw [q]
      exact ⟨_,_,_,.int .i64 0,t2,by simp,by simp only [resultsV,res78]; rfl,rfl⟩
  · cases hq
theorem soundCe (n:Nat):CallSound Tp (callN Tp polCe n):=sound_prim _ (fun g f h=>by
  split at h
  · rename_i hg; cases h; rw [eq_of_beq hg]; exact compare_ok
  split at h
  · rename_i hg; cases h; rw [eq_of_beq hg]; exact first_ok
  · cases h) n
theorem qcmp (x y:Int) (H:Heap):∀ kf,callN Tp polCe (kf+1) 79 [.int .i64 x,.int .i64 y] H=some (.int .i64 (cmpI x y),H):=fun kf=>by
  rw [prim_call (pol:=polCe) (g:=79) (F:=compare79) (by kernel_rfl) (rs:=[.int .i64 x,.int .i64 y]) rfl (res:=.int .i64 (cmpI x y)) rfl]; rfl
theorem edge_ok:PrimOk Tp 77 edge77:=by
  refine primOk_pure (pol:=polCe) (fn:=Try.f77) (cd:=B77) follows_mixed soundCe (by kernel_rfl) (by kernel_rfl) (fnok polCe.prim _ _ (by kernel_rfl)) (by kernel_rfl) ?_
  intro args res h
  unfold edge77 at h
  split at h
  · rename_i a b c d e f
    cases h
    have s:=ec_0 a b c d e f _ _ _ (fstL [cmpI a d,cmpI b e,cmpI c f]) (qcmp a d _) (qcmp b e _) (qcmp c f _) (fun kf=>by
      rw [prim_call (pol:=polCe) (g:=78) (F:=first78) (by kernel_rfl) (rs:=[.imm .arg 1 [.int .i64 (cmpI a d),.int .i64 (cmpI b e),.int .i64 (cmpI c f)]]) rfl (res:=.int .i64 (fstL [cmpI a d,cmpI b e,cmpI c f])) rfl]; rfl) (by simp [same,sameL,sameH])
    exact ⟨_,_,_,.int .i64 (fstL [cmpI a d,cmpI b e,cmpI c f]),s,by simp,by simp only [resultsV,res77]; rfl,rfl⟩
  · cases h
end Go.Proofs.Ytlendaofkmhgmaa
end
section
namespace Go.HL.So
variable {α:Type} [Inhabited α]
set_option linter.unusedSectionVars false
open Go.Proofs.Try renaming prog → Tp
open Go.HL.HV renaming undef → Ud
abbrev at_ (l:List α) (i:Nat):α:=l.getD i default
def swp (l:List α) (i j:Nat):List α:=(l.set i (at_ l j)).set j (at_ l i)
theorem swp_len (l:List α) (i j:Nat):(swp l i j).length=l.length:=by simp [swp]
theorem set_at (l:List α) (i k:Nat) (v:α) (hi:i < l.length):at_ (l.set i v) k=if i=k then v else at_ l k:=by
  simp only [at_,List.getD,List.getElem?_set,hi]
  split
  · rename_i e; subst e; simp
  · rfl
theorem swp_at {l:List α} {i j:Nat} (hi:i < l.length) (hj:j < l.length) (k:Nat):at_ (swp l i j) k=if k=j then at_ l i else if k=i then at_ l j else at_ l k:=by
  unfold swp
  rw [set_at (l.set i (at_ l j)) j k (at_ l i) (by simpa using hj),set_at l i k (at_ l j) hi]
  by_cases e:j=k
  · subst e; simp
  · have e':¬ k=j:=fun h=>e h.symm
    rw [if_neg e,if_neg e']
    by_cases e2:i=k
    · subst e2; simp
    · have e2':¬ k=i:=fun h=>e2 h.symm
      rw [if_neg e2,if_neg e2']
theorem swp_perm {l:List α} {i j:Nat} (hi:i < l.length) (hj:j < l.length):(swp l i j).Perm l:=by
  have h:=Array.swap_perm (xs:=l.toArray) (i:=i) (j:=j) (by simpa using hi) (by simpa using hj)
  have h2:=h.toList
  rw [Array.toList_swap] at h2
  simpa [swp,at_,List.getD,List.getElem?_eq_getElem hi,List.getElem?_eq_getElem hj] using h2
inductive Sw (a b:Nat) (l:List α):List α → Prop
  | refl:Sw a b l l
  | step {l':List α} {i j:Nat}:Sw a b l l' → a ≤ i → i < b → a ≤ j → j < b → Sw a b l (swp l' i j)
theorem Sw.len {a b:Nat} {l l':List α} (h:Sw a b l l'):l'.length=l.length:=by
  induction h with
  | refl=>rfl
  | step h1 _ _ _ _ ih=>rw [swp_len,ih]
theorem Sw.trans {a b:Nat} {l l' l'':List α} (h:Sw a b l l') (h':Sw a b l' l''):Sw a b l l'':=by
  induction h' with
  | refl=>exact h
  | step _ h1 h2 h3 h4 ih=>exact ih.step h1 h2 h3 h4
theorem Sw.one {a b i j:Nat} {l:List α} (h1:a ≤ i) (h2:i < b) (h3:a ≤ j) (h4:j < b):Sw a b l (swp l i j):=Sw.refl.step h1 h2 h3 h4
theorem Sw.mono {a b a' b':Nat} {l l':List α} (h:Sw a b l l') (ha:a' ≤ a) (hb:b ≤ b'):Sw a' b' l l':=by
  induction h with
  | refl=>exact .refl
  | step _ h1 h2 h3 h4 ih=>exact ih.step (by omega) (by omega) (by omega) (by omega)
theorem Sw.perm {a b:Nat} {l l':List α} (h:Sw a b l l') (hb:b ≤ l.length):l'.Perm l:=by
  induction h with
  | refl=>exact List.Perm.refl _
  | step h1 h2 h3 h4 h5 ih=>exact (swp_perm (by rw [h1.len]; omega) (by rw [h1.len]; omega)).trans ih
theorem Sw.out {a b:Nat} {l l':List α} (h:Sw a b l l') (hb:b ≤ l.length) {k:Nat} (hk:k < a ∨ b ≤ k):at_ l' k=at_ l k:=by
  induction h with
  | refl=>rfl
  | step h1 h2 h3 h4 h5 ih=>rw [swp_at (by rw [h1.len]; omega) (by rw [h1.len]; omega),if_neg (by omega),if_neg (by omega),ih]
theorem Sw.all {a b:Nat} {l l':List α} (h:Sw a b l l') (hb:b ≤ l.length) {Q:α → Prop} {lo hi:Nat} (hlo:lo ≤ a) (hhi:b ≤ hi) (hQ:∀ i,lo ≤ i → i < hi → Q (at_ l i)):∀ i,lo ≤ i → i < hi → Q (at_ l' i):=by
  induction h with
  | refl=>exact hQ
  | step h1 h2 h3 h4 h5 ih =>
    intro k hk1 hk2
    rw [swp_at (by rw [h1.len]; omega) (by rw [h1.len]; omega)]
    split
    · exact ih _ (by omega) (by omega)
    · split
      · exact ih _ (by omega) (by omega)
      · exact ih _ hk1 hk2
theorem Sw.mem {a b:Nat} {l l':List α} (h:Sw a b l l') (hb:b ≤ l.length) {Q:α → Prop} (hQ:∀ x ∈ l,Q x):∀ x ∈ l',Q x:=fun x hx=>hQ x ((h.perm hb).mem_iff.1 hx)
structure Lin (lt:α → α → Prop):Prop where
  tr:∀ x y z,¬ lt y x → ¬ lt z y → ¬ lt z x
  asy:∀ x y,lt x y → ¬ lt y x
def Sorted (lt:α → α → Prop) (a b:Nat) (l:List α):Prop:=∀ i j,a ≤ i → i < j → j < b → ¬ lt (at_ l j) (at_ l i)
section
variable {lt:α → α → Prop} (hL:Lin lt)
include hL
theorem Lin.rf (x:α):¬ lt x x:=fun h=>hL.asy x x h h
def Sink (lt:α → α → Prop) (a i j:Nat) (l:List α):Prop:=∀ p q,a ≤ p → p < q → q < i → q ≠ j → ¬ lt (at_ l q) (at_ l p)
omit hL in
theorem sink_start {a i:Nat} {l:List α} (h:Sorted lt a i l):Sink lt a (i+1) i l:=fun p q h1 h2 h3 h4=>h p q h1 h2 (by omega)
theorem sink_step {a i j:Nat} {l:List α} (hi:i ≤ l.length) (hj:j < i) (ha:a < j) (h:Sink lt a i j l) (hc:lt (at_ l j) (at_ l (j - 1))):Sink lt a i (j - 1) (swp l j (j - 1)):=by
  intro p q h1 h2 h3 h4
  rw [swp_at (by omega) (by omega),swp_at (by omega) (by omega)]
  have hne:¬ q=j - 1:=h4
  rw [if_neg hne]
  by_cases eq:q=j
  · rw [if_pos eq]
    by_cases ep:p=j - 1
    · rw [if_pos ep]; exact hL.asy _ _ hc
    · rw [if_neg ep,if_neg (by omega)]
      exact h p (j - 1) h1 (by omega) (by omega) (by omega)
  · rw [if_neg eq]
    by_cases ep:p=j - 1
    · rw [if_pos ep]; exact h j q (by omega) (by omega) h3 eq
    · rw [if_neg ep]
      by_cases ep2:p=j
      · rw [if_pos ep2]; exact h (j - 1) q (by omega) (by omega) h3 eq
      · rw [if_neg ep2]; exact h p q h1 h2 h3 eq
theorem sink_end {a i j:Nat} {l:List α} (h:Sink lt a i j l) (hc:j ≤ a ∨ ¬ lt (at_ l j) (at_ l (j - 1))):Sorted lt a i l:=by
  intro p q h1 h2 h3
  by_cases e:q=j
  · subst e
    rcases hc with hc | hc
    · omega
    · by_cases ep:p=q - 1
      · subst ep; exact hc
      · exact hL.tr _ _ _ (h p (q - 1) h1 (by omega) (by omega) (by omega)) hc
  · exact h p q h1 h2 h3 e
def Hp (lt:α → α → Prop) (fi lo hi:Nat) (l:List α):Prop:=∀ k c,lo ≤ k → (c=2 * k+1 ∨ c=2 * k+2) → c < hi → ¬ lt (at_ l (fi+k)) (at_ l (fi+c))
def HpX (lt:α → α → Prop) (fi lo hi r:Nat) (l:List α):Prop :=
  (∀ k c,lo ≤ k → k ≠ r → (c=2 * k+1 ∨ c=2 * k+2) → c < hi → ¬ lt (at_ l (fi+k)) (at_ l (fi+c))) ∧
  (∀ k c,lo ≤ k → (r=2 * k+1 ∨ r=2 * k+2) → (c=2 * r+1 ∨ c=2 * r+2) → c < hi → ¬ lt (at_ l (fi+k)) (at_ l (fi+c)))
omit hL in
theorem hpx_start {fi lo hi:Nat} {l:List α} (h:Hp lt fi (lo+1) hi l):HpX lt fi lo hi lo l :=
  ⟨fun k c h1 h2 h3 h4=>h k c (by omega) h3 h4,fun k c h1 h2=>by omega⟩
theorem hpx_end {fi lo hi r:Nat} {l:List α} (h:HpX lt fi lo hi r l) (hr:∀ c,(c=2 * r+1 ∨ c=2 * r+2) → c < hi → ¬ lt (at_ l (fi+r)) (at_ l (fi+c))):Hp lt fi lo hi l:=by
  intro k c h1 h2 h3
  by_cases e:k=r
  · subst e; exact hr c h2 h3
  · exact h.1 k c h1 e h2 h3
theorem hpx_step {fi lo hi r c:Nat} {l:List α} (hb:fi+hi ≤ l.length) (h:HpX lt fi lo hi r l) (hr:lo ≤ r) (hc:c=2 * r+1 ∨ c=2 * r+2) (hch:c < hi) (hm:∀ c',(c'=2 * r+1 ∨ c'=2 * r+2) → c' < hi → ¬ lt (at_ l (fi+c)) (at_ l (fi+c'))) (hlt:lt (at_ l (fi+r)) (at_ l (fi+c))) :
    HpX lt fi lo hi c (swp l (fi+r) (fi+c)):=by
  have hsw:∀ k,at_ (swp l (fi+r) (fi+c)) (fi+k)=if k=c then at_ l (fi+r) else if k=r then at_ l (fi+c) else at_ l (fi+k):=fun k=>by
    rw [swp_at (by omega) (by omega)]
    by_cases e:k=c
    · subst e; simp
    · rw [if_neg (by omega),if_neg e]
      by_cases e2:k=r
      · subst e2; simp
      · rw [if_neg (by omega),if_neg e2]
  refine ⟨fun k c' h1 h2 h3 h4=>?_,fun k c' h1 h2 h3 h4=>?_⟩
  · rw [hsw,hsw,if_neg h2]
    by_cases ek:k=r
    · rw [if_pos ek]
      subst ek
      by_cases ec:c'=c
      · rw [if_pos ec]; exact hL.asy _ _ hlt
      · rw [if_neg ec,if_neg (by omega)]; exact hm c' h3 h4
    · rw [if_neg ek,if_neg (by omega)]
      by_cases ec:c'=r
      · rw [if_pos ec]
        exact h.2 k c h1 (by omega) hc hch
      · rw [if_neg ec]; exact h.1 k c' h1 ek h3 h4
  · have hk:k=r:=by omega
    subst hk
    rw [hsw,hsw,if_neg (by omega),if_pos rfl,if_neg (by omega),if_neg (by omega)]
    exact h.1 c c' (by omega) (by omega) h3 h4
theorem hp_root {fi hi:Nat} {l:List α} (h:Hp lt fi 0 hi l):∀ (m k:Nat),k ≤ m → k < hi → ¬ lt (at_ l fi) (at_ l (fi+k)):=by
  intro m
  induction m with
  | zero =>
    intro k hk _
    have:k=0:=by omega
    subst this
    exact hL.rf _
  | succ m ih =>
    intro k hk hlt
    by_cases e:k=0
    · subst e; exact hL.rf _
    · have h1:=ih ((k - 1) / 2) (by omega) (by omega)
      have h2:=h ((k - 1) / 2) k (Nat.zero_le _) (by omega) hlt
      exact fun h3=>by
        -- l[fi] < l[fi+k] <= l[parent] <= l[fi]
        exact hL.tr _ _ _ h2 h1 h3
def HsInv (lt:α → α → Prop) (fi hi m:Nat) (l:List α):Prop:=Hp lt fi 0 m l∧(∀ p q,m ≤ p → p < q → q < hi → ¬ lt (at_ l (fi+q)) (at_ l (fi+p)))∧∀ p q,p < m → m ≤ q → q < hi → ¬ lt (at_ l (fi+q)) (at_ l (fi+p))
theorem hs_swap {fi hi m:Nat} {l:List α} (hb:fi+hi ≤ l.length) (hm:m+1 ≤ hi) (h:HsInv lt fi hi (m+1) l) :
    Hp lt fi 1 m (swp l fi (fi+m))∧(∀ p q,m ≤ p → p < q → q < hi → ¬ lt (at_ (swp l fi (fi+m)) (fi+q)) (at_ (swp l fi (fi+m)) (fi+p)))∧∀ p q,p < m → m ≤ q → q < hi → ¬ lt (at_ (swp l fi (fi+m)) (fi+q)) (at_ (swp l fi (fi+m)) (fi+p)):=by
  obtain ⟨h1,h2,h3⟩:=h
  have hsw:∀ k,at_ (swp l fi (fi+m)) (fi+k)=if k=m then at_ l fi else if k=0 then at_ l (fi+m) else at_ l (fi+k):=fun k=>by
    rw [swp_at (by omega) (by omega)]
    by_cases e:k=m
    · subst e; simp
    · rw [if_neg (by omega),if_neg e]
      by_cases e2:k=0
      · subst e2; simp
      · rw [if_neg (by omega),if_neg e2]
  refine ⟨fun k c q1 q2 q3=>?_,fun p q q1 q2 q3=>?_,fun p q q1 q2 q3=>?_⟩
  · rw [hsw,hsw,if_neg (by omega),if_neg (by omega),if_neg (by omega),if_neg (by omega)]
    exact h1 k c (by omega) q2 (by omega)
  · rw [hsw q,if_neg (by omega),if_neg (by omega),hsw]
    by_cases e:p=m
    · rw [if_pos e]
      have:=h3 0 q (by omega) (by omega) q3
      simpa using this
    · rw [if_neg e,if_neg (by omega)]; exact h2 p q (by omega) q2 q3
  · rw [hsw p,if_neg (by omega),hsw]
    have key:∀ x,(∃ k,k < m+1∧x=at_ l (fi+k)) → ¬ lt (at_ l fi) x:=by
      rintro x ⟨k,hk,rfl⟩
      exact hp_root hL h1 k k (Nat.le_refl _) hk
    have hx:∃ k,k < m+1∧(if p=0 then at_ l (fi+m) else at_ l (fi+p))=at_ l (fi+k):=by
      by_cases e:p=0
      · exact ⟨m,by omega,by rw [if_pos e]⟩
      · exact ⟨p,by omega,by rw [if_neg e]⟩
    by_cases e:q=m
    · rw [if_pos e]; exact key _ hx
    · rw [if_neg e,if_neg (by omega)]
      obtain ⟨k,hk,e2⟩:=hx
      rw [e2]
      exact h3 k q hk (by omega) q3
end
end Go.HL.So
end
section
open Go Go.HL
namespace Go.Proofs.Ytlendaofkmhgmaa
set_option linter.unusedSectionVars false
open Go.Proofs.Try renaming prog → Tp
open Go.HL.HV renaming undef → Ud
noncomputable def tabS:HV:=match sub [1,1,1,1,0] (Try.f95.body.getD .skip) with
  | .region _ ops _=>(match ops[3]? with | some o=>(match o.op with | .index _ x _=>opVal [] x | _=>Ud) | none=>Ud)
  | _=>Ud
def bl:Nat → Nat → Nat
  | 0,_=>0
  | k+1,y=>if y=0 then 0 else 1+bl k (y / 2)
noncomputable def tabOk:Bool:=(List.range 256).all fun y=>(match elemV Tp 9 tabS (.int .u8 (y:Int)) with | some (.int .u8 z)=>decide (z=(bl 8 y:Int)) | _=>false) && decide (y < 2 ^ bl 8 y) && (decide (y=0) || decide (2 ^ bl 8 y ≤ 2 * y)) && decide (bl 8 y ≤ 8)
theorem tabOk_true:tabOk=true:=by kernel_rfl
def lenN (x:Nat):Nat:=if x < 256 then bl 8 x else 8+bl 8 (x / 256)
theorem tab_at {y:Nat} (hy:y < 256):elemV Tp 9 tabS (.int .u8 (y:Int))=some (.int .u8 (bl 8 y:Int))∧y < 2 ^ bl 8 y∧(0 < y → 2 ^ bl 8 y ≤ 2 * y)∧bl 8 y ≤ 8:=by
  have h:=List.all_eq_true.1 tabOk_true y (List.mem_range.2 hy)
  simp only [Bool.and_eq_true,Bool.or_eq_true,decide_eq_true_eq] at h
  obtain ⟨⟨⟨h1,h2⟩,h3⟩,h4⟩:=h
  refine ⟨?_,h2,fun h0=>h3.resolve_left (by omega),h4⟩
  split at h1
  · rename_i z hz
    rw [hz,of_decide_eq_true h1]
  · cases h1
theorem lenN_ok {x:Nat} (hx:x < 65536):(0 < x → x < 2 ^ lenN x∧2 ^ lenN x ≤ 2 * x)∧lenN x ≤ 16:=by
  unfold lenN
  split
  · rename_i c
    obtain ⟨_,h2,h3,h4⟩:=tab_at c
    exact ⟨fun h=>⟨h2,h3 h⟩,by omega⟩
  · rename_i c
    obtain ⟨_,h2,h3,h4⟩:=tab_at (y:=x / 256) (by omega)
    have h5:=h3 (by omega)
    rw [Nat.pow_add]
    generalize 2 ^ bl 8 (x / 256)=p at h2 h5
    exact ⟨fun h=>by omega,by omega⟩
def len95:List HV → Option HV
  | [.int .u64 x]=>if 0 ≤ x∧x < 65536 then some (.int .i64 (lenN x.toNat:Int)) else none
  | _=>none
def next105:List HV → Option HV
  | [.int .i64 x]=>if 0 ≤ x∧x < 65536 then some (.int .u64 ((2 ^ lenN x.toNat:Nat):Int)) else none
  | _=>none
def polLb:Pol:={ pol with prim:=fun g=>if g == 95 then some len95 else none }
def polLc:Pol:={ pol with prim:=fun g=>if g == 82 then some len95 else none }
end Go.Proofs.Ytlendaofkmhgmaa
end
