/- A part of the proof. -/
import Derived.Test.YtiejmoglooaalaaHlA
import Derived.Test.YtiejmoglooaalaaHlB
import Derived.Test.YtiejmoglooaalaaHlC
import Derived.Test.YtiejmoglooaalaaHlD
import Derived.Test.YtiejmoglooaalaaHlE
import Derived.Test.YtiejmoglooaalaaHlF
import Derived.ProofKit
import Derived.Test.YtiejmoglooaalaaProg
import Derived.Deep.Slices
import Derived.OpenShut
import Derived.Deep.Strs
set_option linter.unusedVariables false
set_option linter.unusedSimpArgs false
set_option linter.unnecessarySimpa false
open Go.IntKind renaming i64 → qA
open List renaming length_map → qB, getElem?_eq_getElem → qC, getD → qF, replicate → qG, take_of_length_le → qH, map_cons → qJ, getElem?_map → qK, range → qM, mem_zipIdx_iff_getElem? → qN, length_singleton → qO, getElem?_eq_none → qP, set_append_right → qQ, getElem?_take_of_lt → qR, takeWhile_append_dropWhile → qS
open Nat renaming le_refl → qD, zero_le → qI
open Int renaming toNat_natCast → qE
open Bool renaming and_self → qL
namespace Go.HL
abbrev HV.i (n:Int):HV:=.int .i64 n
abbrev HV.a (l:List HV):HV:=.imm .arg 1 l
abbrev HV.s (b n:Nat):HV:=.sl b 0 n none n 1
abbrev HV.c (b n:Nat) (cap:Option Nat):HV:=.sl b 0 n cap n 1
abbrev HV.o (b n:Nat):HV:=.sl b 0 n (some n) n 1
abbrev HV.g (l:List HV):HV:=.imm .arg 3 l
abbrev HV.N (n:Int) (l:List HV):HV:=.agg [.int .i64 n,.imm .arg 3 l]
abbrev HV.q (b:Nat):HV:=.ptr b 0 0 1
abbrev HV.n (n:Nat):HV:=.int .i64 (n:Int)
def pb:Nat→Nat→List Nat→List Nat
 | 0,_,a=>a
 | k+1,n,a=>if n<2 then a else pb k (n/2) (n%2::a)
abbrev sn (n:Nat) (c:Code):Code:=sub (pb 60 n []) c
abbrev Blk.b (l:List HV):Blk:=.arr 1 l true 0
section
variable {P:Program} {pol:Pol} {f:FuncId} {c:Code} {e E:Env} {H H':Heap} {x:X} {K:List Nat}
theorem RunsTo.hin (d n:Nat) (hs:List XD) (h:∀k,d≤k→∃ob,Xo K (KY P pol (Qc P pol (k+1)) n f c e H hs)=some (x,E,H',ob)∧Obls ob):RunsTo P pol f c e H x K E H':=RunsTo.hint (d+1) n hs fun k hk=>by
 obtain ⟨k,rfl⟩:∃n,k=n+1:=⟨k-1,by omega⟩
 exact h k (by omega)
theorem oC {p:Prop} {os:List Prop} (h:p) (t:Obls os):Obls (p::os):=Obls.cons h t
theorem oP (H:Heap) {r:Option HV} {v:HV} {os:List Prop} (h:r=some v) (t:Obls os):Obls ((r.map (fun v=>(v,H))=some (v,H))::os):=Obls.cons (QdS h) t
theorem oS {r:Option Heap} {H:Heap} {os:List Prop} (h:r=some H) (t:Obls os):Obls ((r.map (fun H=>(HV.tuple [],H))=some (.tuple [],H))::os):=Obls.cons (QdT h) t
theorem oB (H:Heap) {p b:Bool} {os:List Prop} (h:p=b) (t:Obls os):Obls ((some (HV.bool p,H)=some (HV.bool b,H))::os):=Obls.cons (QiK h) t
/-- A hint with what is to be shown for it. -/
structure HO (d:Nat) where
 h:Option XD
 p:Nat→Prop
 q:∀k,d≤k→p k
variable {d:Nat}
def jO (rg i:Nat) (H:Heap) {r:Option HV} {v:HV} (g:r=some v):HO d:=⟨some ⟨rg,i,v,H⟩,fun _=>r.map (fun v=>(v,H))=some (v,H),fun _ _=>QdS g⟩
def jB (rg i:Nat) (H:Heap) {p b:Bool} (g:p=b):HO d:=⟨some ⟨rg,i,.bool b,H⟩,fun _=>some (HV.bool p,H)=some (HV.bool b,H),fun _ _=>QiK g⟩
def jT (rg i:Nat) (H:Heap) {p:Prop} [Decidable p] (g:p):HO d:=jB rg i H (decide_eq_true g)
def jF (rg i:Nat) (H:Heap) {p:Prop} [Decidable p] (g:¬p):HO d:=jB rg i H (decide_eq_false g)
def jS (rg i:Nat) {r:Option Heap} {H:Heap} (g:r=some H):HO d:=⟨some ⟨rg,i,.tuple [],H⟩,fun _=>r.map (fun H=>(HV.tuple [],H))=some (.tuple [],H),fun _ _=>QdT g⟩
def jC (rg i:Nat) {r:Nat→Option (HV×Heap)} {v:HV} {H:Heap} (g:∀k,d≤k→r k=some (v,H)):HO d:=⟨some ⟨rg,i,v,H⟩,fun k=>r k=some (v,H),g⟩
def jD (rg i:Nat) {r:Nat→Option (HV×Heap)} {v:HV} {H:Heap} (g:∀k,r k=some (v,H)):HO d:=⟨some ⟨rg,i,v,H⟩,fun k=>r k=some (v,H),fun k _=>g k⟩
def jR (rg i:Nat) {r:Option (HV×Heap)} {v:HV} {H:Heap} (g:r=some (v,H)):HO d:=⟨some ⟨rg,i,v,H⟩,fun _=>r=some (v,H),fun _ _=>g⟩
def jL {p:Nat→Prop} (g:∀k,p k):HO d:=⟨none,p,fun k _=>g k⟩
def jM {p:Nat→Prop} (g:∀k,d≤k→p k):HO d:=⟨none,p,g⟩
def jK {p:Prop} (g:p):HO d:=⟨none,fun _=>p,fun _ _=>g⟩
theorem HO.all (k:Nat) (hk:d≤k):∀L:List (HO d),Obls (L.map fun o=>o.p k)
 | []=>Obls.nil
 | o::L=>Obls.cons (o.q k hk) (HO.all k hk L)
theorem hx (d n:Nat) (L:List (HO d)) (h:∀k,d≤k→Xo K (KY P pol (Qc P pol (k+1)) n f c e H (L.filterMap fun o=>o.h))=some (x,E,H',L.map fun o=>o.p k):=by intro _ _;kernel_rfl):RunsTo P pol f c e H x K E H':=RunsTo.hin d n _ fun k hk=>⟨_,h k hk,HO.all k hk L⟩
end
end Go.HL
namespace Go.HL
theorem sq {P:Program} {pol:Pol} {f:FuncId} {a b c:Code} {e E1 E:Env} {H H1 H':Heap} {x:X} {K K1:List Nat} (h1:RunsTo P pol f a e H .normal K1 E1 H1) (h2:RunsTo P pol f b E1 H1 x K E H') (hc:c=.seq a b:=by kernel_rfl) (hK:K1=pol.keys f++V0 b:=by kernel_rfl):RunsTo P pol f c e H x K E H':=RunsTo.seq h1 h2 hc hK
theorem sqo {P:Program} {pol:Pol} {f:FuncId} {a b c:Code} {e E:Env} {H H':Heap} {x:X} {K:List Nat} (h1:RunsTo P pol f a e H x K E H') (hx:x≠.normal:=by simp) (hc:c=.seq a b:=by kernel_rfl):RunsTo P pol f c e H x K E H':=RunsTo.seq_out h1 hx hc
theorem lpo {P:Program} {pol:Pol} {f:FuncId} {b c:Code} {e E:Env} {H H':Heap} {x:X} {K:List Nat} (h1:RunsTo P pol f b e H x K E H') (hx:x≠.normal:=by simp) (hc:c=.loop b:=by kernel_rfl) (he:QO pol f b e=e:=by kernel_rfl):RunsTo P pol f c e H x K E H':=RunsTo.loop_out h1 hx hc he
theorem lpi {P:Program} {pol:Pol} {f:FuncId} {b c:Code} {e0 e E:Env} {H H':Heap} {x:X} {K:List Nat} (h:RunsTo P pol f c e H x K E H') (hc:c=.loop b:=by kernel_rfl) (h0:QO pol f b e0=e:=by kernel_rfl) (he:QO pol f b e=e:=by kernel_rfl):RunsTo P pol f c e0 H x K E H':=RunsTo.loop_in h hc h0 he
theorem bke {P:Program} {pol:Pol} {f:FuncId} {b c:Code} {e E:Env} {H H':Heap} {K:List Nat} {i:Nat} (h:RunsTo P pol f b e H (.exit i) K E H') (hc:c=.block i b:=by kernel_rfl):RunsTo P pol f c e H .normal K E H':=RunsTo.block_exit h hc
theorem lop {P:Program} {pol:Pol} {f:FuncId} {b c:Code} {e E0 E1 E:Env} {H H1 H2 H':Heap} {x:X} {K K1:List Nat} (h1:RunsTo P pol f b e H .normal K1 E0 H1) (hg:gc H.length (WF E1) H1=H2) (h2:RunsTo P pol f c E1 H2 x K E H') (hE:QO pol f b E0=E1:=by kernel_rfl) (hK:K1=pol.keys f:=by rfl) (hc:c=.loop b:=by kernel_rfl) (he:QO pol f b e=e:=by kernel_rfl):RunsTo P pol f c e H x K E H':=RunsTo.loop h1 hE hg h2 hK hc he
end Go.HL
section
open Go Go.HL
namespace Go.Proofs.Ytiejmoglooaalaa
abbrev LD (H:Heap) (t:TypeId) (a v:HV):Prop:=QK Try.prog H t a=some v
abbrev ST (H:Heap) (t:TypeId) (a v:HV) (H':Heap):Prop:=Q3 Try.prog H t a v=some H'
abbrev IX (t:TypeId) (x i v:HV):Prop:=Z4 Try.prog t x i=some v
abbrev IO (t:TypeId) (b n i:Nat):Prop:=Z4 Try.prog t (.sl b 0 n (some n) n 1) (.int .i64 (i:Int))=some (.ptr b i 0 n)
abbrev IS (t:TypeId) (b n i:Nat):Prop:=Z4 Try.prog t (.sl b 0 n none n 1) (.int .i64 (i:Int))=some (.ptr b i 0 n)
abbrev BV (o:BinOp) (t:TypeId) (x y v:HV):Prop:=J8 Try.prog o t x y=some v
abbrev RT (pol:Pol) (f:FuncId) (c:Code) (e:Env) (H:Heap) (x:X) (E:Env) (H':Heap):Prop:=RunsTo Try.prog pol f c e H x (pol.keys f) E H'
end Go.Proofs.Ytiejmoglooaalaa
end
section
open Go Go.HL
namespace Go.Proofs.Ytiejmoglooaalaa
set_option linter.unusedSectionVars false
open Go.Proofs.Try renaming prog → Tp
open Go.HL.HV renaming undef → Ud
def keysT:List (List Nat):=[[],[],[],[0,1,4,5,6,7,8,9,10,11,12,13,14,15,16],[0,1,2,6,7,8,9,10,11,12,13,14,15,16,17,18,19,21,22,24,25,26,28,29,31,32],[0,1,2,5,6,7,8,9,10,11,13,14,15,16,17,18,19,20,21,22,23,24,25],[0,1,4,5,6,7,8,9,10,11,13,14,15],[0,1,4,5,6,7,9,10,11,12,13,14,15,16,17,18,19,20,21,22,23,24,25],[0,1,2,6,7,8,9,10,11,12,13,14,15,16,17,18,19,20,21,23,24,26,27],[0,1,4,5,6,7,9,10,11,12,14,15,16,17,18,20,21,23],[0,1,2,6,7,8,9,10,11,12,14,15,16,17],[0,1,2,6,7,8,9,10,11,12,13,14,15,16,17,18,19,20],[0,1,2,5,6,7,8,9,10,11,12,13,14,15,16,17,19,20,21],[0,2,3],[0,1,4,5,6,7,8,9],[0,1,4,5,6,7,8,9,10,11,12,13,38,39,40],[0,1,4,5,6,7,9,10,11,12],[0,1,4,5,6],[0,1,2,3,4,5,6,7,8,9,10],[0,1,4,6,7,8,9,10,11,12],[0,1,4,5,6],[0,1,4,5],[0,1,4,5,6],[0,1,4,5,6,7,8,9,10,11],[0,1,4],[0,1,2,6,7,8,9,10],[0,1,4,5,6,7,8],[0,1,2,3,8,9,10,11,12,13,15,40,41,42],[0,1,2,6,7,8],[0,1,2,3,8,9,10,11,12,13],[0,1,4,5,6,7,8,9,10,11,12,13,14,31,32,33],[0,1,4,5,6,8,9,10,11],[0,1,4,5,7,8,9,10,11,12,13],[0,1,2,6,7,8,9,10,11,12,14,15,16,18,50,51,61,62,63],[0,2,3],[0,1,2,6,7,8,9,10,12,14,29,30,31,38,39,40],[0,1,2,6,7,8,9],[0,1,2,6,7,8,9,10,11],[0,1,2,6,7,8,10,11,12,14,15,16],[0,1,2,4,5,6,7],[0,1,2,3,4,5,7,10,11,12],[0,2],[0,1,2,4,5,7,8,9,10],[0,1,2,3,4,5,6,7,8,9,10,12,14,15,29,30,38,39,40,49,50,51],[0,1,2,4,5,6,7,8,9,10,11,16,17,18],[0,1,2,6,7],[0,2,3,4],[0,2,3,4,5,6],[0,1,2,3,8,9,10,11,12,13,14,15,16,17,18,19,20,21,22,23,24,25,26,27],[0,1,2,6,7,8,9,10],[0,1,2,6,7,8,9,10,11,12,13],[0,1,4,5],[0,1,2,6],[0,1,2,5],[0,1,2,3,4,7,8],[0,1,4],[0,1,2,6,7,8],[0,1,2,4,5,6,7,9,11,12,13],[0,1,2,4,5,6,8,9,10,11],[0,1,2,3,6,7,9,10,11,21,22,23],[0,1,2,3],[0,1,4],[0,1,2,3,8,9,10,11,12,13,14,15,16,17,18],[0,2],[0,1,2],[0,1,2,3,4,5,9,10,11,12,13,14,15,16,17,18,20,21,22,23,25,26,31,32,60,61,72,73,74],[0,1,4,5,6,7,8,9,10,11,12,13,14,15,16,17,18],[0,1,2,6,7],[0,1,4],[0,1,2,5],[0,2,4,5,6,7],[0,1,4,5,6],[0,1,3,4],[0,1,4],[0,1,4,5,7,8],[0,1,2,6,7],[0,1,2,6,7,8,9,10],[0,1,2,6,7,8,9,10],[0,1,2,6,7,8,9,10,11,12,49],[0,1,2,6,7],[0,1,2,6,7,8,9,10],[0,1,4],[0,1,2,3,8,9,10],[0,1,2,3,8,9,10,11],[0,2],[0,2],[0,1,2,3,4,5],[0,1,4,5,6,7,8,9,10,11,13,14],[0,1,2,3,4,10,11,12,13,14,15,16,17,18,19,20],[0,2],[0,1,4,5,6,7],[0,2],[0,1,3],[0,1,4,5,7,8],[0,1,2,3,8,9],[0,2],[0,2],[0,1,2,6],[0,1,2,3,4,10],[0,1,2,3,8,9],[0,1,2,3,8,9,10,11,12],[0,1,2,8,9,10,11,12],[0,1,2,3,8,9,10,11,12,13,14,55],[0,1,2,8,9],[0,1,2,3,8,9,10,11,12],[0,1,2,3,4,10,11,12],[0,1,2,3,4,10,11,12,13],[0,1,4,5,7,8],[0,1,2,3,8,9],[0,1,2,3,4,10,11],[0,1,2,3,8],[0,1,2,3,4,5,12],[0,1,2,3,4,10,11],[],[],[],[],[],[],[],[],[],[],[],[],[],[],[],[]]
def resT:List (List Nat):=[[],[],[],[4],[6],[6],[4],[4],[6],[4],[6],[6],[6],[2],[4,5,6],[4,5],[4,5],[4],[0],[4],[4,5],[4],[4],[4,5],[4],[6],[4,5],[8,9],[6],[8,9],[4,5,6],[4,5],[4],[6,7,8],[2],[6,7,8],[6],[6],[6,7],[5],[2,3],[],[4],[2,3,4],[4],[6],[2],[2],[8],[6],[6,7],[4],[6],[0],[2],[4],[6],[4,5],[4],[6],[3],[4],[],[2],[],[10],[4],[6],[],[5],[2],[4],[4],[4],[4],[],[],[],[6,7],[],[6],[4],[8],[8,9],[2],[2],[],[4],[],[2],[4],[2],[3],[4],[],[2],[2],[6],[10],[],[],[],[8,9],[],[8],[10],[10,11],[4],[8,9],[],[8],[12],[10,11],[],[],[],[],[],[],[],[],[],[],[],[],[],[],[],[]]
def sharedT:List Nat:=[39,41,53,55,56,57,60,61,62,64,65,68,69,74,75,76,77,78,79,80,82,83,86,87,88,90,92,94,96,97,98,99,100,101,102,103,104,105,106,107,108,109,110,111,112,121,122,123,124,125,126,127]
def deadT:List (Nat×Nat×List Nat):=[(4,4,[9,10,11,12,13,14,15,16,17,18,19,21,22,24,25,26,28,29,31,32]),(4,14,[8,12,14,17,18,19,21,22,24,25,26,28,29,31,32]),(5,13,[5,10,13,15,16,17,18,19,20,21,24,25]),(7,4,[7,9,10,11,12,13,14,15,16,17,18,19,20,21,22,23,24,25]),(7,14,[6,19,20,21,22,23,24,25]),(7,18,[6,21,22,23,24,25]),(7,25,[6,20,22,23,24,25]),(7,31,[5,6,9,18,19,20,21,22]),(8,6,[12,13,14,15,16,17,18,19,20,21,23,24,26,27]),(8,14,[15,16,17,18,19,20,21,23,24,26,27]),(8,22,[9,11,12,13,14,17,18,19,20,21,23,24,26,27]),(8,31,[8,9,11,12,13,14,15,16,18,19,23,24,26,27]),(9,9,[7,10,12,17,18,20,21,23]),(9,12,[7,10,12,18,20,21,23]),(9,20,[7,9,10,11,12,14,15,16,17,18,20,21]),(10,10,[12,17]),(11,13,[8,10,12,13,14,15,17,18,19,20]),(15,9,[7,8,11,12,13]),(17,2,[6]),(19,8,[6,11,12]),(19,14,[6]),(23,4,[10,11]),(23,7,[11]),(25,3,[9,10]),(25,11,[8,9]),(27,7,[10,11,15]),(28,2,[8]),(29,6,[13]),(30,9,[7,8,9,13,14]),(32,4,[9,10,11,12,13]),(32,9,[11,12,13]),(32,14,[10,12,13]),(33,10,[9,10,11,15,16,18,61,62,63]),(33,16,[9,10,11,12,15,18,50,51]),(35,5,[10,12,14,38,39,40]),(35,8,[10,14]),(37,3,[9,10,11]),(38,5,[14,15,16]),(38,12,[8,10,11,12]),(40,4,[7]),(42,3,[7]),(43,7,[6,9,10,12,14,15,38,39,40,49,50,51]),(43,13,[6,9,12,14,15,29,30,49,50,51]),(43,17,[6,9,14,15,29,30]),(44,5,[8,9,10,11]),(47,3,[5,6]),(47,6,[6]),(48,4,[12,13,14,15,16,17,18,19,20,21,22,23,24,25,26,27]),(48,8,[11,13,14,15,16,17,18,19,20,21,22,23,24,25,26,27]),(48,20,[11,12,13,14,15,16,19,20,21,22,23,24,25,26,27]),(48,25,[11,12,13,14,15,16,21,22,23,24,25,26,27]),(48,31,[11,12,13,14,15,16,20,23,24,25,26,27]),(48,35,[11,12,13,14,15,16,20,25,26,27]),(50,4,[11,12,13]),(50,12,[10,11]),(53,3,[2]),(54,3,[4]),(57,4,[9]),(58,2,[5,6,8]),(59,4,[3,10,11]),(62,2,[10,11,12,13,14,15,16,17,18]),(65,3,[12,13,14,15,16,17,18,20,21,22,23,31,32,60,61,72,73,74]),(65,7,[14,15,16,17,18,20,21,22,23,60,61,72,73,74]),(65,16,[12,14,17,18,20,21,22,23,31,32,72,73,74]),(65,22,[12,14,15,17,20,21,22,23,31,32,60,61]),(66,3,[7,8,9,10,11,12,13,14,15,16,17,18]),(66,7,[9,10,11,12,13,14,15,16,17,18]),(66,13,[6,7,8,11,12,13,14,15,16,17,18]),(66,16,[6,7,8,12,13,14,15,16,17,18]),(66,29,[6,7,8,11,12,16,17,18]),(66,34,[6,7,8,11,12]),(70,2,[4]),(74,2,[5]),(75,1,[7]),(76,4,[10]),(76,8,[8,9]),(77,5,[10]),(80,3,[9,10]),(80,5,[9,10]),(80,14,[10]),(80,20,[9]),(87,3,[6,7,8,9,10,11]),(87,6,[8,9,10,11]),(87,16,[7,10,11]),(87,20,[7]),(88,2,[12,13,14,15,16,17,18,19,20]),(90,5,[7]),(93,2,[5]),(94,1,[9]),(99,1,[9]),(100,4,[12]),(100,8,[10,11]),(101,5,[12]),(104,3,[11,12]),(104,5,[11,12]),(104,14,[12]),(104,20,[11]),(107,2,[5]),(109,1,[11])]
def pol:Pol where
 shared g:=sharedT.contains g
 freeze _ _:=true
 freezeS _ _:=false
 blk g d:=!((resT.getD g []).contains d)
 nilf g:=g==91
 deep _:=false
 prim _:=none
 rows _ _:=false
 keys g:=keysT.getD g []
 quiet f r:=if f==25&&r==5 then [6,13] else []
 dead f r:=((deadT.find? fun p=>p.1==f&&p.2.1==r).map (·.2.2)).getD []
theorem Qk:Tp.follows .mixedOrders=true:=by kernel_rfl
set_option maxRecDepth 100000 in
theorem QaH:(Tp.funcs.toList.zipIdx.all fun p=>U8 pol p.2 p.1)=true:=by kernel_rfl
theorem Xp (n:Nat):Qn Tp (Qc Tp pol n) :=
 Df Qk (fun g fn h=>List.all_eq_true.1 QaH (fn,g) (by
   rw [qN]
   simpa using h)) (fun g F h=>by cases h) n
theorem Qy (F:FuncId→Option (List HV→Option HV)) (hF:∀g f,F g=some f→QP Tp g f) (n:Nat):Qn Tp (Qc Tp { pol with prim:=F } n) :=
 Df Qk (fun g fn h=>by
  rw [Gv]
  exact List.all_eq_true.1 QaH (fn,g) (by
   rw [qN]
   simpa using h)) hF n
def QS (a:Int) (n:Int):Int:=qA.wrap ((IntKind.u64.wrap a).tmod (IntKind.u64.wrap n))
theorem JC (n:Int):IntKind.u64.wrap n=n%18446744073709551616:=by simp [IntKind.wrap,IntKind.signed,IntKind.bits]
theorem WA (n:Int):qA.wrap n=(n+9223372036854775808)%18446744073709551616-9223372036854775808:=by rw [IntKind.wrap_i64]
theorem SG (a n:Int) (h0:0<n) (h1:n<9223372036854775808):0≤QS a n∧QS a n<n:=by
 have hn:IntKind.u64.wrap n=n:=by rw [JC];omega
 have ha:0≤IntKind.u64.wrap a:=by rw [JC];omega
 have hm0:0≤IntKind.u64.wrap a%n:=Int.emod_nonneg _ (by omega)
 have hm1:IntKind.u64.wrap a%n<n:=Int.emod_lt_of_pos _ h0
 simp only [QS,hn]
 rw [Int.tmod_eq_emod_of_nonneg ha,WA]
 constructor <;> omega
abbrev bI (l:List Int):Blk:=.arr 1 (l.map Qb) true 0
theorem Qi {j:Nat} (h:j<4611686018427387904):qA.wrap ((j:Int)+1)=((j+1:Nat):Int):=by rw [WA];omega
theorem QN {j:Nat} (h0:0<j) (h:j<4611686018427387904):qA.wrap ((j:Int)-1)=((j-1:Nat):Int):=by rw [WA];omega
theorem Qr {n:Int} (h0:-4611686018427387904≤n) (h:n<4611686018427387904):qA.wrap n=n:=by rw [WA];omega
theorem XG:∀(l:List Int),argPL (l.map Qb)=some (l.map Qb)
 | []=>rfl
 | p::l=>by simp only [qJ,argPL,XG l,Qb,argP]
theorem Cj (H:Heap) (l:List Int):QR H 6 (.imm .arg 1 (l.map Qb))=some (.imm .arg 1 (l.map Qb)):=by
 show argP (.imm .arg 1 (l.map Qb))=_
 simp only [argP,XG]
theorem VC (l:List Int):(l.map Qb).any Vl=false:=by
 rw [List.any_eq_false]
 intro v hv
 obtain ⟨k,_,rfl⟩:=List.mem_map.1 hv
 simp [Qb,Vl]
theorem W1 (l:List Int) (H:Heap):ZP (.own 1 (l.map Qb)) H=(.sl H.length 0 l.length none l.length 1,H++[bI l]):=by
 simp only [ZP,Jf,Wi,VC,qB]
 rfl
theorem Dk:∀(l:List Int),bndL (l.map Qb)=0
 | []=>rfl
 | a::l=>by simp only [qJ,bndL,Dk l,Qb,bnd];rfl
theorem Zm (F:FuncId→Option (List HV→Option HV)) (g:FuncId) (fn:Func) (h:Tp.funcs[g]?=some fn):U8 { pol with prim:=F } g fn=true:=by
 rw [Gv]
 exact List.all_eq_true.1 QaH (fn,g) (by
  rw [qN]
  simpa using h)
theorem QH {H H':Heap} (r:Nat) (h:H'.length=H.length):gc H.length r H'=H':=by
 unfold gc
 rw [qH (by omega)]
theorem VD {b:Bool} (h:¬b=true):b=false:=by cases b <;> simp_all
theorem u24:Tp.underlying 24=some (.slice 3):=by kernel_rfl
theorem u57:Tp.underlying 57=some (.slice 24):=by kernel_rfl
theorem z3:Qs Tp 3=some 1:=by kernel_rfl
theorem z4:Qs Tp 4=some 1:=by kernel_rfl
theorem z24:Qs Tp 24=some 1:=by kernel_rfl
theorem a3:QF Tp 3=false:=by kernel_rfl
theorem i3:(Tp.underlying 3).isSome=true:=by kernel_rfl
theorem a4:QF Tp 4=false:=by kernel_rfl
theorem i4:(Tp.underlying 4).isSome=true:=by kernel_rfl
theorem a24:QF Tp 24=false:=by kernel_rfl
theorem i24:(Tp.underlying 24).isSome=true:=by kernel_rfl
theorem gx {l:List Int} {y:Nat} (hy:y<l.length):Z4 Tp 24 (.imm .arg 1 (l.map Qb)) (.int .i64 (y:Int))=some (.vptr (.int .i64 (l.getD y 0))) :=
 QbB u24 z3 (by omega) (by rw [qE,qK,qC hy];simp [qF,qC hy,Qb])
theorem gxi {l:List Int} {y:Int} (h0:0≤y) (hy:y.toNat<l.length):Z4 Tp 24 (.imm .arg 1 (l.map Qb)) (.int .i64 y)=some (.vptr (.int .i64 (l.getD y.toNat 0))):=by
 have:=gx (l:=l) (y:=y.toNat) hy
 rwa [show ((y.toNat:Nat):Int)=y by omega] at this
theorem Q6 {H:Heap} {k:Nat} {o:List Int} (h:H[k]?=some (bI o)) {y:Nat} (hy:y<o.length):QK Tp H 3 (.ptr k y 0 o.length)=some (.int .i64 (o.getD y 0)) :=
 WD (b:=k) h (by simp) (by rw [qK,qC hy];simp [qF,qC hy,Qb]) rfl a3 i3
theorem ZI {H:Heap} {k:Nat} {o:List Int} (h:H[k]?=some (bI o)) {y:Nat} (hy:y<o.length) (v:Int):Q3 Tp H 3 (.ptr k y 0 o.length) (.int .i64 v)=some (H.set k (bI (o.set y v))):=by
 have hi:(o.map Qb)[y]?=some (Qb o[y]):=by rw [qK,qC hy];rfl
 have:=KZ (P:=Tp) (t:=3) (b:=k) (tot:=o.length) (v:=.int .i64 v) h (by simp) hi rfl (by intro cs h;cases h) z3 rfl rfl (by simp [bnd])
 rw [this]
 show some (H.set k (.arr 1 ((o.map Qb).set y (Qb v)) true 0))=_
 rw [bI,List.map_set]
theorem VE {H:Heap} {b k:Nat} {o:List Int} (hb:H[b]?=some (bI o)) (hk:o.length=k):WP H false (.sl b 0 k none k 1)=some (.own 1 (o.map Qb)):=by
 have hr:=ZE (H:=H) (no:=[b]) (b:=b) (k:=1) (m:=k) (cap:=none) (els:=o.map Qb) hb (by simpa using hk) (WE (fun r=>Ke 4 r) _)
 have ho:QM H false (.sl b 0 k none k 1)=[b]:=by simp [QM,cellsOf,Zq,hb]
 simp only [WP,ho,List.nodup_cons,List.not_mem_nil,not_false_eq_true,List.nodup_nil,and_self,if_true,W4,hr]
theorem SH {H:Heap} {b:Nat} {o xs:List Int} (hb:H[b]?=some (bI o)) (hlen:o.length+xs.length≤1000) (hx:xs≠[]) :
  Zu H 1 8 (.sl b 0 o.length none o.length 1) (xs.map Qb)=some (.sl b 0 (o++xs).length none (o++xs).length 1,H.set b (bI (o++xs))):=by
 have:=QdV (H:=H) (k:=1) (bytes:=8) (b:=b) (n:=o.length) (mx:=0) (els:=o.map Qb) (xs:=xs.map Qb) hb (by simp) (by simpa using hx) (by rw [qB];simp only [W6];omega) (Dk xs)
 rw [this]
 simp [bI]
theorem Qjj {H:Heap} {l:List Int} {b m:Nat} (hm:l.length=m) (hb:H[b]?=some (bI l)):QR H 6 (.sl b 0 m none m 1)=some (.imm .arg 1 (l.map Qb)):=by
 subst hm
 have e:QR H 6 (.sl b 0 l.length none l.length 1)=if l.length=0 then some (.imm .arg 1 []) else match Zt H b 0 l.length l.length 1 with | some l=>(match mapO (QR H 5) l with | some l=>some (.imm .arg 1 l) | none=>none) | none=>none:=rfl
 rw [e]
 split
 ·rename_i h0
  rw [List.length_eq_zero_iff.1 h0];rfl
 ·have hv:Zt H b 0 l.length l.length 1=some (l.map Qb):=by
   simp only [Zt,hb,qB]
   rw [if_pos ⟨trivial,by omega,trivial⟩]
   simp [qH]
  have hm:mapO (QR H 5) (l.map Qb)=some (l.map Qb):=WE (f:=QR H 5) (g:=Qb) (fun _=>rfl) l
  rw [hv]
  simp only [hm]
abbrev St:Type:=Int×Int×Int
def Qa (s:St):HV:=.agg [.int .i64 s.1,.int .i64 s.2.1,.int .i64 s.2.2]
def QdX:HV→Option St | .agg [.int .i64 a,.int .i64 b,.int .i64 w]=>some (a,b,w) | _=>none
theorem SI (s:St):QdX (Qa s)=some s:=rfl
theorem SJ (b:HV) (a:St) (h:QdX b=some a):b=Qa a:=by
 unfold QdX at h
 split at h
 ·cases h;rfl
 ·cases h
abbrev bS (l:List St):Blk:=.arr 3 (l.map Qa) true 0
theorem u22:Tp.underlying 22=some (.slice 42):=by kernel_rfl
theorem z42:Qs Tp 42=some 3:=by kernel_rfl
theorem a22:QF Tp 22=false:=by kernel_rfl
theorem i22:(Tp.underlying 22).isSome=true:=by kernel_rfl
theorem a66:QF Tp 66=true:=by kernel_rfl
theorem z66:Qs Tp 66=some 2:=by kernel_rfl
theorem Dl:∀(l:List St),argPL (l.map Qa)=some (l.map Qa)
 | []=>rfl
 | p::l=>by simp only [qJ,argPL,Dl l,Qa,argP]
theorem V8 (H:Heap) (l:List St):QR H 6 (.imm .arg 3 (l.map Qa))=some (.imm .arg 3 (l.map Qa)):=by
 show argP (.imm .arg 3 (l.map Qa))=_
 simp only [argP,Dl]
theorem QdY (H:Heap) (l:List St):QR H 5 (.imm .arg 3 (l.map Qa))=some (.imm .arg 3 (l.map Qa)):=by
 show argP (.imm .arg 3 (l.map Qa))=_
 simp only [argP,Dl]
theorem QbC:∀(l:List St),bndL (l.map Qa)=0
 | []=>rfl
 | a::l=>by simp only [qJ,bndL,QbC l,Qa,bnd];rfl
theorem Qgt (l:List St):(l.map Qa).any Vl=false:=by
 rw [List.any_eq_false]
 intro v hv
 obtain ⟨k,_,rfl⟩:=List.mem_map.1 hv
 simp [Qa,Vl]
theorem QdZ (l:List St) (H:Heap):ZP (.own 3 (l.map Qa)) H=(.sl H.length 0 l.length none l.length 3,H++[bS l]):=by
 simp only [ZP,Jf,Wi,Qgt,qB]
 rfl
theorem gs {l:List St} {y:Nat} (hy:y<l.length):Z4 Tp 22 (.imm .arg 3 (l.map Qa)) (.int .i64 (y:Int))=some (.vptr (Qa (l.getD y (0,0,0)))) :=
 QbB u22 z42 (by omega) (by rw [qE,qK,qC hy];simp [qF,qC hy])
theorem Qgu {H:Heap} {l:List St} {b m:Nat} (hm:l.length=m) (hb:H[b]?=some (bS l)):QR H 6 (.sl b 0 m none m 3)=some (.imm .arg 3 (l.map Qa)):=by
 subst hm
 have e:QR H 6 (.sl b 0 l.length none l.length 3)=if l.length=0 then some (.imm .arg 3 []) else match Zt H b 0 l.length l.length 3 with | some l=>(match mapO (QR H 5) l with | some l=>some (.imm .arg 3 l) | none=>none) | none=>none:=rfl
 rw [e]
 split
 ·rename_i h0
  rw [List.length_eq_zero_iff.1 h0];rfl
 ·have hv:Zt H b 0 l.length l.length 3=some (l.map Qa):=by
   simp only [Zt,hb,qB]
   rw [if_pos ⟨trivial,by omega,trivial⟩]
   simp [qH]
  have hm:mapO (QR H 5) (l.map Qa)=some (l.map Qa):=WE (f:=QR H 5) (g:=Qa) (fun _=>rfl) l
  rw [hv]
  simp only [hm]
def Qv (n:Int) (l:List St):HV:=.agg [.int .i64 n,.imm .arg 3 (l.map Qa)]
theorem QbD (H:Heap) (n:Int) (l:List St):QR H 6 (Qv n l)=some (Qv n l):=by
 have h5:=QdY H l
 have e:QR H 6 (Qv n l)=match mapO (QR H 5) [.int .i64 n,.imm .arg 3 (l.map Qa)] with | some l=>some (.agg l) | none=>none:=rfl
 rw [e]
 have h6:QR H 5 (.int .i64 n)=some (.int .i64 n):=rfl
 simp only [mapO,h5,h6]
 rfl
structure Cd (α:Type) where
 enc:α→HV
 dec:HV→Option α
 inv:∀a x,dec a=some x→a=enc x
 de:∀x,dec (enc x)=some x
 arg:∀(H:Heap) x,QR H 6 (enc x)=some (enc x)
def kI:Cd Int:=⟨Qb,QdU,SD,SC,fun _ _=>rfl⟩
def Qjk:HV→Option (List Int) | .imm .arg 1 l=>mapO QdU l | _=>none
theorem Qd0 (a:HV) (x:List Int) (h:Qjk a=some x):a=.imm .arg 1 (x.map Qb):=by
 unfold Qjk at h
 split at h
 ·rw [Yb SD h]
 ·cases h
def kL:Cd (List Int):=⟨fun l=>.imm .arg 1 (l.map Qb),Qjk,Qd0,fun l=>Ya SC l,fun H l=>Cj H l⟩
def Qjl:HV→Option (List St) | .imm .arg 3 l=>mapO QdX l | _=>none
theorem Qd1 (a:HV) (x:List St) (h:Qjl a=some x):a=.imm .arg 3 (x.map Qa):=by
 unfold Qjl at h
 split at h
 ·rw [Yb SJ h]
 ·cases h
def kS:Cd (List St):=⟨fun l=>.imm .arg 3 (l.map Qa),Qjl,Qd1,fun l=>Ya SI l,fun H l=>V8 H l⟩
def Qd2:HV→Option (Int×List St) | .agg [.int .i64 n,.imm .arg 3 l]=>(match mapO QdX l with | some l=>some (n,l) | none=>none) | _=>none
theorem Qd3 (a:HV) (x:Int×List St) (h:Qd2 a=some x):a=Qv x.1 x.2:=by
 unfold Qd2 at h
 split at h
 ·split at h
  ·rename_i hl
   cases h
   rw [Yb SJ hl];rfl
  ·cases h
 ·cases h
theorem Qd4 (p:Int×List St):Qd2 (Qv p.1 p.2)=some p:=by
 have:=Ya SI p.2
 simp only [Qd2,Qv,this]
def kN:Cd (Int×List St):=⟨fun p=>Qv p.1 p.2,Qd2,Qd3,Qd4,fun H p=>QbD H p.1 p.2⟩
section
variable {α β γ δ:Type}
def f1 (c1:Cd α) (f:α→Option HV):List HV→Option HV
 | [a]=>(match c1.dec a with | some x=>f x | none=>none)
 | _=>none
def f2 (c1:Cd α) (c2:Cd β) (f:α→β→Option HV):List HV→Option HV
 | [a,b]=>(match c1.dec a,c2.dec b with | some x,some y=>f x y | _,_=>none)
 | _=>none
def f3 (c1:Cd α) (c2:Cd β) (c3:Cd γ) (f:α→β→γ→Option HV):List HV→Option HV
 | [a,b,c]=>(match c1.dec a,c2.dec b,c3.dec c with | some x,some y,some z=>f x y z | _,_,_=>none)
 | _=>none
def f4 (c1:Cd α) (c2:Cd β) (c3:Cd γ) (c4:Cd δ) (f:α→β→γ→δ→Option HV):List HV→Option HV
 | [a,b,c,d]=>(match c1.dec a,c2.dec b,c3.dec c,c4.dec d with | some x,some y,some z,some w=>f x y z w | _,_,_,_=>none)
 | _=>none
theorem XH {c1:Cd α} {f:α→Option HV} {args:List HV} {res:HV} (h:f1 c1 f args=some res):∃x,args=[c1.enc x]∧f x=some res:=by
 unfold f1 at h
 split at h
 ·rename_i a
  split at h
  ·rename_i x hx
   exact ⟨x,by rw [c1.inv _ _ hx],h⟩
  ·cases h
 ·cases h
theorem Z9 {c1:Cd α} {c2:Cd β} {f:α→β→Option HV} {args:List HV} {res:HV} (h:f2 c1 c2 f args=some res):∃x y,args=[c1.enc x,c2.enc y]∧f x y=some res:=by
 unfold f2 at h
 split at h
 ·rename_i a b
  split at h
  ·rename_i x y hx hy
   exact ⟨x,y,by rw [c1.inv _ _ hx,c2.inv _ _ hy],h⟩
  ·cases h
 ·cases h
theorem Kp {c1:Cd α} {c2:Cd β} {c3:Cd γ} {f:α→β→γ→Option HV} {args:List HV} {res:HV} (h:f3 c1 c2 c3 f args=some res):∃x y z,args=[c1.enc x,c2.enc y,c3.enc z]∧f x y z=some res:=by
 unfold f3 at h
 split at h
 ·rename_i a b c
  split at h
  ·rename_i x y z hx hy hz
   exact ⟨x,y,z,by rw [c1.inv _ _ hx,c2.inv _ _ hy,c3.inv _ _ hz],h⟩
  ·cases h
 ·cases h
def Sh (c:Cd α) (H:Heap) (v:HV) (x:α):Prop:=QR H 6 v=some (c.enc x)
theorem Sh.enc (c:Cd α) (H:Heap) (x:α):Sh c H (c.enc x) x:=c.arg H x
end
section
variable {α β γ δ:Type}
variable {pol':Pol} {g:FuncId} {H:Heap} {v1 v2 v3 v4:HV} {res:HV}
theorem at1 {c1:Cd α} {f:α→Option HV} {x:α} (hp:pol'.prim g=some (f1 c1 f)) (h1:Sh c1 H v1 x) (hr:f x=some res):∀k,Qc Tp pol' (k+1) g [v1] H=some (ZP res H):=fun k=>by
 unfold Sh at h1
 exact WS hp (rs:=[c1.enc x]) (by simp only [mapO,h1]) (by simp only [f1,c1.de];exact hr)
theorem at2 {c1:Cd α} {c2:Cd β} {f:α→β→Option HV} {x:α} {y:β} (hp:pol'.prim g=some (f2 c1 c2 f)) (h1:Sh c1 H v1 x) (h2:Sh c2 H v2 y) (hr:f x y=some res):∀k,Qc Tp pol' (k+1) g [v1,v2] H=some (ZP res H):=fun k=>by
 unfold Sh at h1 h2
 exact WS hp (rs:=[c1.enc x,c2.enc y]) (by simp only [mapO,h1,h2]) (by simp only [f2,c1.de,c2.de];exact hr)
theorem at3 {c1:Cd α} {c2:Cd β} {c3:Cd γ} {f:α→β→γ→Option HV} {x:α} {y:β} {z:γ} (hp:pol'.prim g=some (f3 c1 c2 c3 f)) (h1:Sh c1 H v1 x) (h2:Sh c2 H v2 y) (h3:Sh c3 H v3 z) (hr:f x y z=some res):∀k,Qc Tp pol' (k+1) g [v1,v2,v3] H=some (ZP res H):=fun k=>by
 unfold Sh at h1 h2 h3
 exact WS hp (rs:=[c1.enc x,c2.enc y,c3.enc z]) (by simp only [mapO,h1,h2,h3]) (by simp only [f3,c1.de,c2.de,c3.de];exact hr)
end
theorem ShI (H:Heap) (n:Int):Sh kI H (.int .i64 n) n:=rfl
theorem Kg (H:Heap) (l:List Int):Sh kL H (.imm .arg 1 (l.map Qb)) l:=Cj H l
theorem JV {H:Heap} {l:List Int} {b m:Nat} (hm:l.length=m) (hb:H[b]?=some (bI l)):Sh kL H (.sl b 0 m none m 1) l:=Qjj hm hb
theorem Ck (H:Heap) (l:List St):Sh kS H (.imm .arg 3 (l.map Qa)) l:=V8 H l
theorem XI {H:Heap} {l:List St} {b m:Nat} (hm:l.length=m) (hb:H[b]?=some (bS l)):Sh kS H (.sl b 0 m none m 3) l:=Qgu hm hb
theorem ShN (H:Heap) (n:Int) (l:List St):Sh kN H (Qv n l) (n,l):=QbD H n l
theorem Wk {pol':Pol} {f:FuncId} {b c:Code} {E E0:Nat→Env} {Hs H1:Nat→Heap} {x:X} {E':Env} {H':Heap} (n:Nat)
  (step:∀i,i<n→RunsTo Tp pol' f b (E i) (Hs i) .normal (pol'.keys f) (E0 i) (H1 i)) (hE:∀i,i<n→QO pol' f b (E0 i)=E (i+1))
  (hg:∀i,i<n→gc (Hs i).length (WF (E (i+1))) (H1 i)=Hs (i+1)) (out:RunsTo Tp pol' f b (E n) (Hs n) x (pol'.keys f) E' H') (hx:x≠.normal) (hc:c=.loop b) (he:∀i,i≤n→QO pol' f b (E i)=E i) :
  RunsTo Tp pol' f c (E 0) (Hs 0) x (pol'.keys f) E' H':=by
 have key:∀k i,i+k=n→RunsTo Tp pol' f c (E i) (Hs i) x (pol'.keys f) E' H':=by
  intro k
  induction k with
  | zero =>
   intro i hi
   have:i=n:=by omega
   subst this
   exact RunsTo.loop_out out hx hc (he _ (qD _))
  | succ k ih =>
   intro i hi
   exact RunsTo.loop (step i (by omega)) (hE i (by omega)) (hg i (by omega)) (ih (i+1) (by omega)) rfl hc (he i (by omega))
 exact key n 0 (Nat.zero_add n)
theorem CallsTo.shared {P:Program} {pol:Pol} {g:FuncId} {fn:Func} {cd:Code} {args:List HV} {x:X} {E:Env} {H H':Heap} {v:HV} (hp:pol.prim g=none) (hf:P.funcs[g]?=some fn) (hb:fn.body=some cd) (hs:pol.shared g=true)
  (hrun:RunsTo P pol g cd (KA args) H x (pol.keys g) E H') (hres:(fn.results.toList.all fun r=>match r with | .tmp t=>(pol.keys g).contains t | .cell t _=>(pol.keys g).contains t)=true) (hx:∀i,x≠.exit i) (hv:Qd P fn E H'=some v) :
  CallsTo (P:=P) (pol:=pol) g args H v (gc H.length (bnd v) H'):=by
 obtain ⟨m,h⟩:=hrun
 refine ⟨m+1,fun k hk=>?_⟩
 obtain ⟨k,rfl⟩:∃n',k=n'+1:=⟨k-1,by omega⟩
 obtain ⟨e1,g1,g2⟩:=h k k (by omega) (by omega)
 subst g2
 rw [JT hres] at hv
 simp only [Qc,UP,hp,hf,hb,hs,if_true,KS,g1]
 cases x with
 | exit i=>exact absurd rfl (hx i)
 | normal=>simp only [hv]
 | ret=>simp only [hv]
theorem CallsTo.from {pol:Pol} {g:FuncId} {args:List HV} {H H':Heap} {r:HV} (h:CallsTo (P:=Tp) (pol:=pol) g args H r H'):∃N,∀kf,N≤kf→Qc Tp pol (kf+1) g args H=some (r,H'):=by
 obtain ⟨m,h⟩:=h
 exact ⟨m,fun kf hk=>h (kf+1) (by omega)⟩
theorem Kq {pol':Pol} {f:FuncId} {b c:Code} {I:Nat→Env→Heap→Prop} {Q:X→Env→Heap→Prop} (n:Nat)
  (step:∀i,i<n→∀e H,I i e H→∃E0 H1,RunsTo Tp pol' f b e H .normal (pol'.keys f) E0 H1∧I (i+1) (QO pol' f b E0) (gc H.length (WF (QO pol' f b E0)) H1))
  (out:∀e H,I n e H→∃x E' H',RunsTo Tp pol' f b e H x (pol'.keys f) E' H'∧x≠.normal∧Q x E' H') (hc:c=.loop b) (he:∀i e H,I i e H→QO pol' f b e=e) {e:Env} {H:Heap} (h0:I 0 e H) :
  ∃x E' H',RunsTo Tp pol' f c e H x (pol'.keys f) E' H'∧Q x E' H':=by
 have key:∀k i e H,i+k=n→I i e H→∃x E' H',RunsTo Tp pol' f c e H x (pol'.keys f) E' H'∧Q x E' H':=by
  intro k
  induction k with
  | zero =>
   intro i e H hi hI
   have:i=n:=by omega
   subst this
   obtain ⟨x,E',H',h1,h2,h3⟩:=out e H hI
   exact ⟨x,E',H',RunsTo.loop_out h1 h2 hc (he _ _ _ hI),h3⟩
  | succ k ih =>
   intro i e H hi hI
   obtain ⟨E0,H1,h1,h2⟩:=step i (by omega) e H hI
   obtain ⟨x,E',H',h3,h4⟩:=ih (i+1) _ _ (by omega) h2
   exact ⟨x,E',H',RunsTo.loop h1 rfl rfl h3 rfl hc (he _ _ _ hI),h4⟩
 exact key n 0 e H (Nat.zero_add n) h0
theorem QB {α:Type} {o:List α} {d:α} {y:Nat} (h:y<o.length):o.getD y d=o[y]:=by simp [qF,qC h]
theorem JD {H:Heap} {b:Nat} {o:List Int} (hb:H[b]?=some (bI o)) (hlen:o.length≤990) (x:Int) :
  Zu H 1 8 (.sl b 0 o.length none o.length 1) [.int .i64 x]=some (.sl b 0 (o.length+1) none (o.length+1) 1,H.set b (bI (o++[x]))):=by
 have:=SH (H:=H) (b:=b) (o:=o) (xs:=[x]) hb (by simp;omega) (by simp)
 rw [List.length_append,qO] at this
 exact this
theorem Qgv {H:Heap} {b:Nat} {o xs:List St} (hb:H[b]?=some (bS o)) (hlen:o.length+xs.length≤1000) (hx:xs≠[]) :
  Zu H 3 24 (.sl b 0 o.length none o.length 3) (xs.map Qa)=some (.sl b 0 (o++xs).length none (o++xs).length 3,H.set b (bS (o++xs))):=by
 have:=QdV (H:=H) (k:=3) (bytes:=24) (b:=b) (n:=o.length) (mx:=0) (els:=o.map Qa) (xs:=xs.map Qa) hb (by simp) (by simpa using hx) (by rw [qB];simp only [W6];omega) (QbC xs)
 rw [this]
 simp [bS]
theorem Qgw (no:List Nat) (H:Heap) (s:St):frz H no 4 (Qa s)=some (Qa s):=by
 have e:frz H no 4 (Qa s)=match mapO (frz H no 3) [.int .i64 s.1,.int .i64 s.2.1,.int .i64 s.2.2] with | some l=>some (.agg l) | none=>none:=rfl
 rw [e];rfl
theorem Qgx {H:Heap} {b k:Nat} {o:List St} (hb:H[b]?=some (bS o)) (hk:o.length=k):WP H false (.sl b 0 k none k 3)=some (.own 3 (o.map Qa)):=by
 have hr:=ZE (H:=H) (no:=[b]) (b:=b) (k:=3) (m:=k) (cap:=none) (els:=o.map Qa) hb (by simpa using hk) (WE (fun r=>Qgw _ _ r) _)
 have ho:QM H false (.sl b 0 k none k 3)=[b]:=by simp [QM,cellsOf,Zq,hb]
 simp only [WP,ho,List.nodup_cons,List.not_mem_nil,not_false_eq_true,List.nodup_nil,and_self,if_true,W4,hr]
abbrev plF (F:FuncId→Option (List HV→Option HV)):Pol:={ pol with prim:=F }
abbrev CN (F:FuncId→Option (List HV→Option HV)) (N:Nat) (g:FuncId) (a:List HV) (H:Heap) (v:HV) (H':Heap):Prop:=∀kf,N≤kf→Qc Try.prog (plF F) (kf+1) g a H=some (v,H')
abbrev CM (F:FuncId→Option (List HV→Option HV)) (g:FuncId) (a:List HV) (H:Heap) (v:HV) (H':Heap):Prop:=∀kf,Qc Try.prog (plF F) (kf+1) g a H=some (v,H')
abbrev RU (F:FuncId→Option (List HV→Option HV)) (g:FuncId) (p:Nat) (B:Code) (e:Env) (H:Heap) (x:X) (E:Env) (H':Heap):Prop:=RunsTo Try.prog (plF F) g (sn p B) e H x ((plF F).keys g) E H'

def WT (x x':Option (HV×Heap)) (H H':Heap):Bool :=
 match x,x' with
 | some (v,H1),some (v',H1')=>same v v'&&Qm H1 H&&Qm H1' H'
 | _,_=>false
def lkH (P:Program) (T:TypeId) (H:Heap) (b:Nat) (k:HV):Option (HV×Heap) :=
 match H[b]? with
 | some (.map ks vs _)=>(Vo P T ks vs k false).map fun v=>(v,H)
 | _=>none
theorem WU {α:Type} {f:α→HV} (h:∀x,same (f x) (f x)=true):∀l:List α,sameL (l.map f) (l.map f)=true
 | []=>rfl
 | x::l=>by simp only [qJ,sameL,h x,WU h l,qL]
theorem VF (x:Int):same (Qb x) (Qb x)=true:=by simp [Qb,same]
theorem Uq (s:St):same (Qa s) (Qa s)=true:=by simp [Qa,same,sameL]
theorem VG (n:Int) (l:List St):same (Qv n l) (Qv n l)=true:=by
 simp only [Qv,same,sameL,WU Uq,beq_self_eq_true,qL]
theorem QG {B:Blk} {H:Heap} (hB:Qm [B] [B]=true) (hH:Qm H H=true):Qm (B::H) (B::H)=true:=by
 cases B <;> simp_all [Qm]
theorem V9:∀{A B:Heap},Qm A A=true→Qm B B=true→Qm (A++B) (A++B)=true
 | [],_,_,h=>h
 | b::A,B,h,h2=>by
  have h1:Qm [b] [b]=true∧Qm A A=true:=by
   cases b <;> simp_all [Qm]
  exact QG h1.1 (V9 h1.2 h2)
theorem WX (l:List Int):Qm [bI l] [bI l]=true:=by simp only [Qm,WU VF,beq_self_eq_true,qL]
def lkG (P:Program) (T:TypeId) (H:Heap) (b:Nat) (k:HV) (ok:Bool):Option (HV×Heap) :=
 match H[b]? with
 | some (.map ks vs _)=>(Vo P T ks vs k ok).map fun v=>(v,H)
 | _=>none
theorem sameH_all:∀{H:Heap},Qm H H=true↔∀B∈H,Qm [B] [B]=true
 | []=>by simp [Qm]
 | B::H=>by
  have ih:=sameH_all (H:=H)
  have:Qm (B::H) (B::H)=true↔Qm [B] [B]=true∧Qm H H=true:=by cases B <;> simp [Qm]
  rw [this,ih,List.forall_mem_cons]
theorem QcY {H:Heap} {b:Nat} {B:Blk} (h:Qm H H=true) (hB:Qm [B] [B]=true):Qm (H.set b B) (H.set b B)=true:=sameH_all.2 fun C hC=>by
 rcases List.mem_or_eq_of_mem_set hC with c | c
 ·exact sameH_all.1 h C c
 ·exact c▸hB
theorem QaI {H:Heap} (h:Qm H H=true) (k:Nat):Qm (H.take k) (H.take k)=true:=sameH_all.2 fun C hC=>sameH_all.1 h C (List.mem_of_mem_take hC)
theorem Yy {x x':Option HV} {H H':Heap} {v:HV} (h:x=some v) (h':x'=some v) (hv:same v v=true) (hH:Qm H H=true) (hH':Qm H' H'=true):(WT (x.map fun v=>(v,H)) (x'.map fun v=>(v,H')) H H'&&true)=true:=by
 subst h h'
 simp only [WT,Option.map,hv,hH,hH',qL]
structure Ok (H:Heap):Prop where
 mx:mxs H≤H.length
 sm:Qm H H=true
end Go.Proofs.Ytiejmoglooaalaa
end
section
open Go Go.HL
namespace Go.Proofs.Ytiejmoglooaalaa
set_option maxRecDepth 100000
set_option linter.unusedSectionVars false
open Go.Proofs.Try renaming prog → Tp
open Go.HL.HV renaming undef → Ud
section
variable {F:FuncId→Option (List HV→Option HV)}
noncomputable def B11:Code:=Try.f11.body.getD .skip
abbrev Jw (v0 v1 v2 v6 v7 v8 v9 v10 v11 v12 v13 v14 v15 v16 v17 v18 v19 v20:HV):Env:=[(0,v0),(1,v1),(2,v2),(6,v6),(7,v7),(8,v8),(9,v9),(10,v10),(11,v11),(12,v12),(13,v13),(14,v14),(15,v15),(16,v16),(17,v17),(18,v18),(19,v19),(20,v20)]
end
abbrev e11 (n:Int) (ls:List HV) (la:List HV) (q:Nat) (w:Int) (u5 u7 u8 u9 u10 u11 u12 u13 u14 u15 u16 u17:HV):Env:=Jw (.i n) (.g ls) (.a la) (.bool false) (.sl 0 0 q none q 3) u5 (.i w) u7 u8 u9 u10 u11 u12 u13 u14 u15 u16 u17
section
variable {F:FuncId→Option (List HV→Option HV)}
variable (n:Int) (ls la:List HV)
include n ls la
theorem Qjm:RU F 11 2 B11 [(0,.i n),(1,.g ls),(2,.a la)] [] .normal (Jw (.i n) (.g ls) (.a la) (.bool false) Ud Ud Ud Ud Ud Ud Ud Ud Ud Ud Ud Ud Ud Ud) [] :=
 hx 0 60 []
end
section
variable {F:FuncId→Option (List HV→Option HV)}
variable (n:Int) (ls la:List HV)
include n ls la
theorem Qjn (H:Heap) (p:Int) {H0:Heap} (g0:CM F 24 [.i n,.i 12] H (.i p) H0) (y7 y8 y9 y10 y11 y12 y13 y14 y15 y16 y17 y18 y19 y20:HV:=Ud): RU F 11 6 B11 (Jw (.i n) (.g ls) (.a la) (.bool false) y7 y8 y9 y10 y11 y12 y13 y14 y15 y16 y17 y18 y19 y20) H .normal (Jw (.i (qA.wrap (2+p))) (.g ls) (.a la) (.bool false) y7 y8 y9 y10 y11 y12 y13 y14 y15 y16 y17 y18 y19 y20) H0 :=
 hx 0 60 [jD 1 1 g0]
theorem Qjo (H:Heap) (q:Nat) {H0:Heap} (g0:CM F 25 [.g ls,.i n,.i 30] H (.sl 0 0 q none q 3) H0) (y7 y8 y9 y10 y11 y12 y13 y14 y15 y16 y17 y18 y19 y20:HV:=Ud): RU F 11 14 B11 (Jw (.i n) (.g ls) (.a la) (.bool false) y7 y8 y9 y10 y11 y12 y13 y14 y15 y16 y17 y18 y19 y20) H .normal (Jw (.i n) (.g ls) (.a la) (.bool false) (.sl 0 0 q none q 3) y8 y9 y10 y11 y12 y13 y14 y15 y16 y17 y18 y19 y20) H0 :=
 hx 0 60 [jD 2 2 g0]
theorem Qjp (H:Heap) (q:Nat) (m:Nat) (w:Int) {H0:Heap} (g0:CM F 14 [.i n,.sl 0 0 q none q 3] H (.tuple [.s 1 m,.i w,.i 0]) H0) (y8 y9 y10 y11 y12 y13 y14 y15 y16 y17 y18 y19 y20:HV:=Ud): RU F 11 30 B11 (Jw (.i n) (.g ls) (.a la) (.bool false) (.sl 0 0 q none q 3) y8 y9 y10 y11 y12 y13 y14 y15 y16 y17 y18 y19 y20) H .normal (e11 n ls la q w (.s 1 m) (.i 0) y11 y12 y13 y14 y15 y16 y17 y18 y19 y20) H0 :=
 hx 0 60 [jD 3 2 g0]
theorem Qjq (H:Heap) (q:Nat) (m:Nat) (w:Int) (xb k:Nat) {H0:Heap} (g0:CM F 37 [.i n,.sl 0 0 q none q 3,.a la] H (.s xb k) H0) (y11 y12 y13 y14 y15 y16 y17 y18 y19 y20:HV:=Ud): RU F 11 62 B11 (e11 n ls la q w (.s 1 m) (.i 0) y11 y12 y13 y14 y15 y16 y17 y18 y19 y20) H .normal (e11 n ls la q w (.s 1 m) (.i 0) (.s xb k) y12 y13 y14 y15 y16 y17 y18 y19 y20) H0 :=
 hx 0 60 [jD 4 3 g0]
theorem Qjr (H:Heap) (q:Nat) (m:Nat) (w:Int) (xb k:Nat) (v:Int) {H0:Heap} {H1:Heap} (g0:CM F 28 [.i n,.sl 0 0 q none q 3,.s xb k] H (.bool true) H0) (g1:CM F 22 [.sl 0 0 q none q 3,.s xb k] H0 (.i v) H1) (g2:¬(v<w)) (y12 y13 y14 y15 y16 y17 y18 y19 y20:HV:=Ud): RU F 11 126 B11 (e11 n ls la q w (.s 1 m) (.i 0) (.s xb k) y12 y13 y14 y15 y16 y17 y18 y19 y20) H .normal (e11 n ls la q w (.s 1 m) (.i 0) (.s xb k) y12 y13 y14 y15 y16 y17 y18 y19 y20) H1 :=
 hx 0 60 [jD 5 6 g0,jD 5 12 g1,jF 5 14 H1 g2]
theorem Qjs (H:Heap) (q:Nat) (m:Nat) (w:Int) (xb k:Nat) (v s c:Int) {H0:Heap} (g0:CM F 21 [.s xb k,.s 1 m] H (.bool true) H0) (y12 y13 y14 y15 y16 y17 y18 y19 y20:HV:=Ud): RU F 11 254 B11 (e11 n ls la q w (.s 1 m) (.i 0) (.s xb k) y12 y13 y14 y15 y16 y17 y18 y19 y20) H .normal (e11 n ls la q w (.s 1 m) (.i 0) (.s xb k) y12 y13 y14 y15 y16 y17 y18 y19 y20) H0 :=
 hx 0 60 [jD 7 2 g0]
theorem Qjt (H:Heap) (q:Nat) (m:Nat) (w:Int) (xb k:Nat) (v s c:Int) {H0:Heap} {H1:Heap} {H2:Heap} {H3:Heap} (g0:CM F 21 [.s xb k,.s 1 m] H (.bool false) H0) (g1:CM F 15 [.i n,.sl 0 0 q none q 3] H0 (.tuple [.i s,.i 0]) H1) (g2:CM F 16 [.i n,.sl 0 0 q none q 3] H1 (.tuple [.i c,.i 0]) H2) (g3:CM F 22 [.sl 0 0 q none q 3,.s xb k] H2 (.i v) H3) (g4:¬(v<s)) (g5:¬(s<w)) (g6:s=w) (g7:1<c) (y12 y13 y14 y15 y16 y17 y18 y19 y20:HV:=Ud): RU F 11 254 B11 (e11 n ls la q w (.s 1 m) (.i 0) (.s xb k) y12 y13 y14 y15 y16 y17 y18 y19 y20) H .normal (e11 n ls la q w (.s 1 m) (.i 0) (.s xb k) (.i s) (.i 0) (.i c) (.i 0) y16 y17 y18 y19 y20) H3 :=
 hx 0 60 [jD 7 2 g0,jD 8 2 g1,jD 9 2 g2,jD 10 9 g3,jF 10 11 H3 g4,jF 10 16 H3 g5,jT 10 21 H3 g6,jT 10 23 H3 g7]
theorem Qju (H:Heap) (q:Nat) (m:Nat) (w:Int) (xb k:Nat) (v s c:Int) {H0:Heap} {H1:Heap} {H2:Heap} {H3:Heap} (g0:CM F 21 [.s xb k,.s 1 m] H (.bool false) H0) (g1:CM F 15 [.i n,.sl 0 0 q none q 3] H0 (.tuple [.i s,.i 0]) H1) (g2:CM F 16 [.i n,.sl 0 0 q none q 3] H1 (.tuple [.i c,.i 0]) H2) (g3:CM F 22 [.sl 0 0 q none q 3,.s xb k] H2 (.i v) H3) (g4:¬(v<s)) (g5:¬(s<w)) (g6:¬(s=w)) (g7:¬(1<c)) (y12 y13 y14 y15 y16 y17 y18 y19 y20:HV:=Ud): RU F 11 254 B11 (e11 n ls la q w (.s 1 m) (.i 0) (.s xb k) y12 y13 y14 y15 y16 y17 y18 y19 y20) H .normal (e11 n ls la q w (.s 1 m) (.i 0) (.s xb k) (.i s) (.i 0) (.i c) (.i 0) y16 y17 y18 y19 y20) H3 :=
 hx 0 60 [jD 7 2 g0,jD 8 2 g1,jD 9 2 g2,jD 10 9 g3,jF 10 11 H3 g4,jF 10 16 H3 g5,jF 10 21 H3 g6,jF 10 23 H3 g7]
theorem Qjv (H:Heap) (q:Nat) (m:Nat) (w:Int) (xb k:Nat) (y12 y13 y14 y15 y16 y17 y18 y19 y20:HV:=Ud): RU F 11 1020 B11 (e11 n ls la q w (.s 1 m) (.i 0) (.s xb k) y12 y13 y14 y15 y16 y17 y18 y19 y20) H .normal (e11 n ls la q w (.s 1 m) (.i 0) (.s xb k) y12 y13 y14 y15 (.i 0) y17 y18 y19 y20) H :=
 hx 0 60 []
theorem Qjw (H:Heap) (q:Nat) (w:Int) (xb k:Nat) (i:Nat) (g0:(i:Int)<1000) (y8 y10 y12 y13 y14 y15 y17 y18 y19 y20:HV:=Ud): RU F 11 8168 B11 (e11 n ls la q w y8 y10 (.s xb k) y12 y13 y14 y15 (.n i) y17 y18 y19 y20) H .normal (e11 n ls la q w y8 y10 (.s xb k) y12 y13 y14 y15 (.n i) y17 y18 y19 y20) H :=
 hx 0 60 [jT 13 1 H g0]
theorem Qjx (H:Heap) (q:Nat) (w:Int) (xb k:Nat) (i:Nat) (g0:¬((i:Int)<1000)) (y8 y10 y12 y13 y14 y15 y17 y18 y19 y20:HV:=Ud): RU F 11 8168 B11 (e11 n ls la q w y8 y10 (.s xb k) y12 y13 y14 y15 (.n i) y17 y18 y19 y20) H (.exit 0) (e11 n ls la q w y8 y10 (.s xb k) y12 y13 y14 y15 (.n i) y17 y18 y19 y20) H :=
 hx 0 60 [jF 13 1 H g0]
theorem Qjy (H:Heap) (q:Nat) (w:Int) (xb k:Nat) (i:Nat) (a b v v2:Int) (yb j:Nat) {H0:Heap} {H1:Heap} {H2:Heap} (g0:CM F 35 [.i n,.sl 0 0 q none q 3,.s xb k] H (.tuple [.i (-1),.i (-1),.i 0]) H0) (g1:CM F 22 [.sl 0 0 q none q 3,.s xb k] H0 (.i v) H1) (g2:v=w) (g3:CM F 18 [] H1 (.bool true) H2) (y8 y10 y12 y13 y14 y15 y17 y18 y19 y20:HV:=Ud): RU F 11 16338 B11 (e11 n ls la q w y8 y10 (.s xb k) y12 y13 y14 y15 (.n i) y17 y18 y19 y20) H .ret (Jw (.i n) (.g ls) (.a la) (.bool true) (.sl 0 0 q none q 3) y8 (.i w) y10 (.s xb k) y12 y13 y14 y15 (.n i) (.i (-1)) (.i (-1)) (.i 0) y20) H2 :=
 hx 0 60 [jD 15 3 g0,jD 19 2 g1,jT 19 4 H1 g2,jD 19 6 g3]
theorem Qjz (H:Heap) (q:Nat) (w:Int) (xb k:Nat) (i:Nat) (a b v v2:Int) (yb j:Nat) {H0:Heap} {H1:Heap} {H2:Heap} {H3:Heap} {H4:Heap} (g0:CM F 35 [.i n,.sl 0 0 q none q 3,.s xb k] H (.tuple [.i a,.i b,.i 0]) H0) (g1:¬(a=(-1))) (g2:CM F 36 [.s xb k,.i a,.i b] H0 (.s yb j) H1) (g3:CM F 28 [.i n,.sl 0 0 q none q 3,.s yb j] H1 (.bool true) H2) (g4:CM F 22 [.sl 0 0 q none q 3,.s yb j] H2 (.i v2) H3) (g5:CM F 22 [.sl 0 0 q none q 3,.s xb k] H3 (.i v) H4) (g6:¬(v≤v2)) (y8 y10 y12 y13 y14 y15 y17 y18 y19 y20:HV:=Ud): RU F 11 16338 B11 (e11 n ls la q w y8 y10 (.s xb k) y12 y13 y14 y15 (.n i) y17 y18 y19 y20) H .normal (e11 n ls la q w y8 y10 (.s yb j) y12 y13 y14 y15 (.n i) (.i a) (.i b) (.i 0) (.s yb j)) H4 :=
 hx 0 60 [jD 15 3 g0,jF 18 1 H0 g1,jD 20 3 g2,jD 21 3 g3,jD 21 8 g4,jD 21 11 g5,jF 21 12 H4 g6]
theorem QjA (H:Heap) (q:Nat) (w:Int) (xb k:Nat) (i:Nat) (y8 y10 y12 y13 y14 y15 y17 y18 y19 y20:HV:=Ud): RU F 11 16339 B11 (e11 n ls la q w y8 y10 (.s xb k) y12 y13 y14 y15 (.n i) y17 y18 y19 y20) H .normal (e11 n ls la q w y8 y10 (.s xb k) y12 y13 y14 y15 (.i (qA.wrap ((i:Int)+1))) y17 y18 y19 y20) H :=
 hx 0 60 []
theorem QjB (H:Heap) (q:Nat) (w:Int) (xb k:Nat) (i:Nat) (v:Int) {H0:Heap} {H1:Heap} (g0:CM F 22 [.sl 0 0 q none q 3,.s xb k] H (.i v) H0) (g1:w≤v) (g2:CM F 18 [] H0 (.bool true) H1) (y8 y10 y12 y13 y14 y15 y17 y18 y19 y20:HV:=Ud): RU F 11 511 B11 (e11 n ls la q w y8 y10 (.s xb k) y12 y13 y14 y15 (.n i) y17 y18 y19 y20) H .ret (Jw (.i n) (.g ls) (.a la) (.bool true) (.sl 0 0 q none q 3) y8 (.i w) y10 (.s xb k) y12 y13 y14 y15 (.n i) y17 y18 y19 y20) H1 :=
 hx 0 60 [jD 24 2 g0,jT 24 4 H0 g1,jD 24 6 g2]
end
section
variable {F:FuncId→Option (List HV→Option HV)}
noncomputable def B50:Code:=Try.f50.body.getD .skip
abbrev KI (v0 v1 v2 v6 v7 v8 v9 v10 v11 v12 v13:HV):Env:=[(0,v0),(1,v1),(2,v2),(6,v6),(7,v7),(8,v8),(9,v9),(10,v10),(11,v11),(12,v12),(13,v13)]
end
abbrev e50 (n:Nat) (ls:List HV) (la:List HV) (u5 u6 u7 u8 u9 u10:HV):Env:=KI (.n n) (.g ls) (.a la) (.imm .lit 1 []) (.imm .lit 1 []) u5 u6 u7 u8 u9 u10
section
variable {F:FuncId→Option (List HV→Option HV)}
variable (n:Nat) (ls la:List HV) (H:Heap)
include n ls la H
theorem QjC:RU F 50 2 B50 [(0,.n n),(1,.g ls),(2,.a la)] H .normal (e50 n ls la Ud Ud Ud Ud Ud Ud) H :=
 hx 0 60 []
end
section
variable {F:FuncId→Option (List HV→Option HV)}
variable (n:Nat) (ls la:List HV) (H:Heap)
include n ls la H
theorem QjD (gb:Nat) {H0:Heap} (g0:CM F 46 [.n n] H (.s gb n) H0) (y8 y9 y10 y11 y12 y13:HV:=Ud): RU F 50 6 B50 (e50 n ls la y8 y9 y10 y11 y12 y13) H .normal (e50 n ls la (.s gb n) y9 y10 y11 y12 y13) H0 :=
 hx 0 60 [jD 1 1 g0]
theorem QjE (gb ib m:Nat) {H0:Heap} (g0:XU Tp false 99 (.i (ls.length:Int)) (.i (ls.length:Int)) H=some (.o ib m,H0)) (y9 y10 y11 y12 y13:HV:=Ud): RU F 50 14 B50 (e50 n ls la (.s gb n) y9 y10 y11 y12 y13) H .normal (e50 n ls la (.s gb n) (.o ib m) y10 y11 y12 y13) H0 :=
 hx 0 60 [jR 2 2 g0]
theorem QjF (gb ib m:Nat) (y10 y11 y12 y13:HV:=Ud): RU F 50 60 B50 (e50 n ls la (.s gb n) (.o ib m) y10 y11 y12 y13) H .normal (e50 n ls la (.s gb n) (.o ib m) (.i 0) y11 y12 y13) H :=
 hx 0 60 []
theorem QjG (gb ib jb m i k xb:Nat) (a b w x y:Int) {a0:HV} {H0:Heap} {H1:Heap} {a1:HV} {a2:HV} (g0:(i:Int)<(la.length:Int)) (g1:IX 24 (.a la) (.n i) (.vptr (.n k))) (g2:IX 22 (.g ls) (.n k) (.vptr (.agg [.i a,.i b,.i w]))) (g3:some (Q4 (.agg [.i 0,.i 0,.i 0]) H)=some (a0,H0)) (g4:ST H0 42 (a0) (.agg [.i a,.i b,.i w]) H1) (g5:Qt Tp 42 a0 0=some (a1)) (g6:LD H1 3 (a1) (.i a)) (g7:IX 24 (.s gb n) (.i a) (.ptr gb ((a).toNat) 0 n)) (g8:LD H1 3 (.ptr gb ((a).toNat) 0 n) (.i x)) (g9:Qt Tp 42 a0 1=some (a2)) (g10:LD H1 3 (a2) (.i b)) (g11:IX 24 (.s gb n) (.i b) (.ptr gb ((b).toNat) 0 n)) (g12:LD H1 3 (.ptr gb ((b).toNat) 0 n) (.i y)) (g13:x=y) (y11 y12 y13:HV:=Ud): RU F 50 244 B50 (e50 n ls la (.s gb n) (.o ib m) (.n i) y11 y12 y13) H .normal (e50 n ls la (.s gb n) (.o ib m) (.i (qA.wrap ((i:Int)+1))) a0 y12 y13) H1 :=
 hx 0 60 [jT 4 3 H g0,jO 6 3 H g1,jO 6 5 H g2,jR 6 7 g3,jS 6 8 g4,jO 7 1 H1 g5,jO 7 2 H1 g6,jO 7 3 H1 g7,jO 7 4 H1 g8,jO 7 6 H1 g9,jO 7 7 H1 g10,jO 7 8 H1 g11,jO 7 9 H1 g12,jB 7 10 H1 (congrArg not (decide_eq_true g13))]
theorem QjH (gb ib jb m i k xb:Nat) (a b w x y:Int) {a0:HV} {H0:Heap} {H1:Heap} {a1:HV} {a2:HV} {a3:HV} {a4:HV} {H2:Heap} {H3:Heap} (g0:(i:Int)<(la.length:Int)) (g1:IX 24 (.a la) (.n i) (.vptr (.n k))) (g2:IX 22 (.g ls) (.n k) (.vptr (.agg [.i a,.i b,.i w]))) (g3:some (Q4 (.agg [.i 0,.i 0,.i 0]) H)=some (a0,H0)) (g4:ST H0 42 (a0) (.agg [.i a,.i b,.i w]) H1) (g5:Qt Tp 42 a0 0=some (a1)) (g6:LD H1 3 (a1) (.i a)) (g7:IX 24 (.s gb n) (.i a) (.ptr gb ((a).toNat) 0 n)) (g8:LD H1 3 (.ptr gb ((a).toNat) 0 n) (.i x)) (g9:Qt Tp 42 a0 1=some (a2)) (g10:LD H1 3 (a2) (.i b)) (g11:IX 24 (.s gb n) (.i b) (.ptr gb ((b).toNat) 0 n)) (g12:LD H1 3 (.ptr gb ((b).toNat) 0 n) (.i y)) (g13:¬(x=y)) (g14:Qt Tp 42 a0 0=some (a3)) (g15:LD H1 3 (a3) (.i a)) (g16:Qt Tp 42 a0 1=some (a4)) (g17:LD H1 3 (a4) (.i b)) (g18:CM F 49 [.s gb n,.i a,.i b] H1 (.s jb n) H2) (g19:IX 24 (.a la) (.n i) (.vptr (.n k))) (g20:IO 99 ib m k) (g21:ST H2 4 (.ptr ib k 0 m) (.bool true) H3) (y11 y12 y13:HV:=Ud): RU F 50 244 B50 (e50 n ls la (.s gb n) (.o ib m) (.n i) y11 y12 y13) H .normal (e50 n ls la (.s jb n) (.o ib m) (.i (qA.wrap ((i:Int)+1))) a0 y12 y13) H3 :=
 hx 0 60 [jT 4 3 H g0,jO 6 3 H g1,jO 6 5 H g2,jR 6 7 g3,jS 6 8 g4,jO 7 1 H1 g5,jO 7 2 H1 g6,jO 7 3 H1 g7,jO 7 4 H1 g8,jO 7 6 H1 g9,jO 7 7 H1 g10,jO 7 8 H1 g11,jO 7 9 H1 g12,jB 7 10 H1 (congrArg not (decide_eq_false g13)),jO 8 1 H1 g14,jO 8 2 H1 g15,jO 8 3 H1 g16,jO 8 4 H1 g17,jD 8 5 g18,jO 9 3 H2 g19,jO 9 5 H2 g20,jS 9 6 g21]
theorem QjI (gb ib jb m i k xb:Nat) (a b w x y:Int) (g0:¬((i:Int)<(la.length:Int))) (y11 y12 y13:HV:=Ud): RU F 50 244 B50 (e50 n ls la (.s gb n) (.o ib m) (.n i) y11 y12 y13) H (.exit 0) (e50 n ls la (.s gb n) (.o ib m) (.n i) y11 y12 y13) H :=
 hx 0 60 [jF 4 3 H g0]
theorem QjJ (gb ib m ob:Nat) {H0:Heap} (g0:some (HV.sl H.length 0 0 none 0 1,H++[Blk.b []])=some (.s ob 0,H0)) (y10 y11 y12 y13:HV:=Ud): RU F 50 62 B50 (e50 n ls la (.s gb n) (.o ib m) y10 y11 y12 y13) H .normal (e50 n ls la (.s gb n) (.o ib m) y10 y11 (.s ob 0) y13) H0 :=
 hx 0 60 [jR 10 0 g0]
theorem QjK (gb ib m ob q:Nat) (y10 y11 y13:HV:=Ud): RU F 50 252 B50 (e50 n ls la (.s gb n) (.o ib m) y10 y11 (.s ob q) y13) H .normal (e50 n ls la (.s gb n) (.o ib m) y10 y11 (.s ob q) (.i 0)) H :=
 hx 0 60 []
theorem QjL (gb ib m ob q i:Nat) (v:Bool) {H0:Heap} (g0:(i:Int)<(ls.length:Int)) (g1:IO 99 ib m i) (g2:LD H 4 (.ptr ib i 0 m) (.bool true)) (g3:Zu H 1 8 (.s ob q) [.n i]=some (.sl ob 0 (q+1) none (q+1) 1,H0)) (y10 y11:HV:=Ud): RU F 50 1012 B50 (e50 n ls la (.s gb n) (.o ib m) y10 y11 (.s ob q) (.n i)) H .normal (e50 n ls la (.s gb n) (.o ib m) y10 y11 (.sl ob 0 (q+1) none (q+1) 1) (.i (qA.wrap ((i:Int)+1)))) H0 :=
 hx 0 60 [jT 12 3 H g0,jO 14 2 H g1,jO 14 3 H g2,jR 15 3 g3]
theorem QjM (gb ib m ob q i:Nat) (v:Bool) (g0:(i:Int)<(ls.length:Int)) (g1:IO 99 ib m i) (g2:LD H 4 (.ptr ib i 0 m) (.bool false)) (y10 y11:HV:=Ud): RU F 50 1012 B50 (e50 n ls la (.s gb n) (.o ib m) y10 y11 (.s ob q) (.n i)) H .normal (e50 n ls la (.s gb n) (.o ib m) y10 y11 (.s ob q) (.i (qA.wrap ((i:Int)+1)))) H :=
 hx 0 60 [jT 12 3 H g0,jO 14 2 H g1,jO 14 3 H g2]
theorem QjN (gb ib m ob q i:Nat) (v:Bool) (g0:¬((i:Int)<(ls.length:Int))) (y10 y11:HV:=Ud): RU F 50 1012 B50 (e50 n ls la (.s gb n) (.o ib m) y10 y11 (.s ob q) (.n i)) H (.exit 2) (e50 n ls la (.s gb n) (.o ib m) y10 y11 (.s ob q) (.n i)) H :=
 hx 0 60 [jF 12 3 H g0]
theorem QjO (gb ib m ob q:Nat) (y10 y11 y13:HV:=Ud): RU F 50 127 B50 (e50 n ls la (.s gb n) (.o ib m) y10 y11 (.s ob q) y13) H .ret (KI (.n n) (.g ls) (.a la) (.s ob q) (.s gb n) (.s gb n) (.o ib m) y10 y11 (.s ob q) y13) H :=
 hx 0 60 []
end
noncomputable def B52:Code:=Try.f52.body.getD .skip
abbrev Qd5 (v0 v1 v2 v6:HV):Env:=[(0,v0),(1,v1),(2,v2),(6,v6)]
section
variable (n lo hi:Int)
include n lo hi
theorem Qr6 (g0:lo≤n) (g1:n≤hi): RT pol 52 (sub [] B52) [(0,.i n),(1,.i lo),(2,.i hi)] [] .ret (Qd5 (.i n) (.i lo) (.i hi) (.bool true)) [] :=
 hx 0 60 [jT 1 2 [] g0,jT 1 6 [] g1]
theorem Qr7 (g0:lo≤n) (g1:¬(n≤hi)): RT pol 52 (sub [] B52) [(0,.i n),(1,.i lo),(2,.i hi)] [] .ret (Qd5 (.i n) (.i lo) (.i hi) (.bool false)) [] :=
 hx 0 60 [jT 1 2 [] g0,jF 1 6 [] g1]
theorem Qr8 (g0:¬(lo≤n)): RT pol 52 (sub [] B52) [(0,.i n),(1,.i lo),(2,.i hi)] [] .ret (Qd5 (.i n) (.i lo) (.i hi) (.bool false)) [] :=
 hx 0 60 [jF 1 2 [] g0]
end
noncomputable def B24:Code:=Try.f24.body.getD .skip
abbrev Qr9 (v0 v1 v4:HV):Env:=[(0,v0),(1,v1),(4,v4)]
theorem Qsa (a n:Int) (g0:BV .rem 82 (.int .u64 (IntKind.u64.wrap a)) (.int .u64 (IntKind.u64.wrap n)) (.int .u64 ((IntKind.u64.wrap a:Int).tmod (IntKind.u64.wrap n)))): RT pol 24 (sub [] B24) [(0,.i a),(1,.i n)] [] .ret (Qr9 (.i a) (.i n) (.i (qA.wrap ((IntKind.u64.wrap a:Int).tmod (IntKind.u64.wrap n))))) [] :=
 hx 0 60 [jO 1 4 [] g0]
noncomputable def B21:Code:=Try.f21.body.getD .skip
abbrev Gw (v0 v1 v4 v5:HV):Env:=[(0,v0),(1,v1),(4,v4),(5,v5)]
abbrev e21 (la:List HV) (lb:List HV) (u3:HV):Env:=Gw (.a la) (.a lb) (.bool false) u3
section
variable (la lb:List HV)
include la lb
theorem QjP:RT pol 21 (sn 2 B21) [(0,.a la),(1,.a lb)] [] .normal (e21 la lb Ud) [] :=
 hx 0 60 []
end
section
variable (la lb:List HV)
include la lb
theorem QjQ (g0:(la.length:Int)=(lb.length:Int)) (y5:HV:=Ud): RT pol 21 (sn 6 B21) (e21 la lb y5) [] .normal (e21 la lb y5) [] :=
 hx 0 60 [jB 1 4 [] (congrArg not (decide_eq_true g0))]
theorem QjR (g0:¬((la.length:Int)=(lb.length:Int))) (y5:HV:=Ud): RT pol 21 (sn 6 B21) (e21 la lb y5) [] .ret (e21 la lb y5) [] :=
 hx 0 60 [jB 1 4 [] (congrArg not (decide_eq_false g0))]
theorem QjS (y5:HV:=Ud): RT pol 21 (sn 28 B21) (e21 la lb y5) [] .normal (e21 la lb (.i 0)) [] :=
 hx 0 60 []
theorem QjT (j:Nat) {x0:Int} {x1:Int} (g0:(j:Int)<(la.length:Int)) (g1:IX 24 (.a la) (.n j) (.vptr (.i x0))) (g2:IX 24 (.a lb) (.n j) (.vptr (.i x1))) (g3:x0=x1): RT pol 21 (sn 116 B21) (e21 la lb (.n j)) [] .normal (e21 la lb (.i (qA.wrap ((j:Int)+1)))) [] :=
 hx 0 60 [jT 4 3 [] g0,jO 6 2 [] g1,jO 6 6 [] g2,jB 6 8 [] (congrArg not (decide_eq_true g3))]
theorem QjU (j:Nat) {x0:Int} {x1:Int} (g0:(j:Int)<(la.length:Int)) (g1:IX 24 (.a la) (.n j) (.vptr (.i x0))) (g2:IX 24 (.a lb) (.n j) (.vptr (.i x1))) (g3:¬(x0=x1)): RT pol 21 (sn 116 B21) (e21 la lb (.n j)) [] .ret (e21 la lb (.n j)) [] :=
 hx 0 60 [jT 4 3 [] g0,jO 6 2 [] g1,jO 6 6 [] g2,jB 6 8 [] (congrArg not (decide_eq_false g3))]
theorem QjV (j:Nat) (g0:¬((j:Int)<(la.length:Int))): RT pol 21 (sn 116 B21) (e21 la lb (.n j)) [] (.exit 0) (e21 la lb (.n j)) [] :=
 hx 0 60 [jF 4 3 [] g0]
theorem QjW (y5:HV:=Ud): RT pol 21 (sn 15 B21) (e21 la lb y5) [] .ret (Gw (.a la) (.a lb) (.bool true) y5) [] :=
 hx 0 60 []
end
noncomputable def B42:Code:=Try.f42.body.getD .skip
abbrev QbE (v0 v1 v2 v4 v5 v7 v8 v9 v10:HV):Env:=[(0,v0),(1,v1),(2,v2),(4,v4),(5,v5),(7,v7),(8,v8),(9,v9),(10,v10)]
abbrev e42 (n:Int) (ls:List HV) (la:List HV) (u4 u5 u6 u7 u8:HV):Env:=QbE (.N n ls) (.a la) (.q 0) (.i 0) u4 u5 u6 u7 u8
section
variable (n:Int) (ls la:List HV)
include n ls la
theorem QjX:RT pol 42 (sn 2 B42) [(0,.N n ls),(1,.a la)] [] .normal (e42 n ls la Ud Ud Ud Ud Ud) [.arr 2 [.N n ls] true 0] :=
 hx 0 60 []
end
section
variable (n:Int) (ls la:List HV)
include n ls la
theorem QjY (y5 y7 y8 y9 y10:HV:=Ud): RT pol 42 (sn 6 B42) (e42 n ls la y5 y7 y8 y9 y10) [.arr 2 [.N n ls] true 0] .normal (e42 n ls la (.i 0) y7 y8 y9 y10) [.arr 2 [.N n ls] true 0] :=
 hx 0 60 []
theorem QjZ (s:Int) (y7 y8 y9 y10:HV:=Ud): RT pol 42 (sn 28 B42) (e42 n ls la (.i s) y7 y8 y9 y10) [.arr 2 [.N n ls] true 0] .normal (e42 n ls la (.i s) y7 (.a la) (.i (la.length:Int)) (.i 0)) [.arr 2 [.N n ls] true 0] :=
 hx 0 60 []
theorem Qj0 (s:Int) (j q k:Nat) (a b w:Int) (g0:(j:Int)<(q:Int)) (g1:IX 24 (.a la) (.n j) (.vptr (.n k))) (g2:IX 22 (.g ls) (.n k) (.vptr (.agg [.i a,.i b,.i w]))) (y7:HV:=Ud): RT pol 42 (sn 116 B42) (e42 n ls la (.i s) y7 (.a la) (.n q) (.n j)) [.arr 2 [.N n ls] true 0] .normal (e42 n ls la (.i (qA.wrap (s+w))) (.n k) (.a la) (.n q) (.i (qA.wrap ((j:Int)+1)))) [.arr 2 [.N n ls] true 0] :=
 hx 0 60 [jT 3 0 [.arr 2 [.N n ls] true 0] g0,jO 4 0 [.arr 2 [.N n ls] true 0] g1,jO 5 4 [.arr 2 [.N n ls] true 0] g2]
theorem Qj1 (s:Int) (j q k:Nat) (a b w:Int) (g0:¬((j:Int)<(q:Int))) (y7:HV:=Ud): RT pol 42 (sn 116 B42) (e42 n ls la (.i s) y7 (.a la) (.n q) (.n j)) [.arr 2 [.N n ls] true 0] (.exit 0) (e42 n ls la (.i s) y7 (.a la) (.n q) (.n j)) [.arr 2 [.N n ls] true 0] :=
 hx 0 60 [jF 3 0 [.arr 2 [.N n ls] true 0] g0]
theorem Qj2 (s:Int) (y7 y8 y9 y10:HV:=Ud): RT pol 42 (sn 15 B42) (e42 n ls la (.i s) y7 y8 y9 y10) [.arr 2 [.N n ls] true 0] .ret (QbE (.N n ls) (.a la) (.q 0) (.i s) (.i s) y7 y8 y9 y10) [.arr 2 [.N n ls] true 0] :=
 hx 0 60 []
end
noncomputable def B22:Code:=Try.f22.body.getD .skip
abbrev QbF (v0 v1 v4 v5 v6:HV):Env:=[(0,v0),(1,v1),(4,v4),(5,v5),(6,v6)]
abbrev e22 (ls:List HV) (la:List HV) (u3 u4:HV):Env:=QbF (.g ls) (.a la) (.i 0) u3 u4
section
variable (ls la:List HV)
include ls la
theorem Qj3:RT pol 22 (sn 2 B22) [(0,.g ls),(1,.a la)] [] .normal (e22 ls la Ud Ud) [] :=
 hx 0 60 []
end
section
variable (ls la:List HV)
include ls la
theorem Qj4 (y5 y6:HV:=Ud): RT pol 22 (sn 6 B22) (e22 ls la y5 y6) [] .normal (e22 ls la (.i 0) y6) [] :=
 hx 0 60 []
theorem Qj5 (s:Int) (y6:HV:=Ud): RT pol 22 (sn 28 B22) (e22 ls la (.i s) y6) [] .normal (e22 ls la (.i s) (.i 0)) [] :=
 hx 0 60 []
theorem Qj6 (s:Int) (j k:Nat) (a b w:Int) (g0:(j:Int)<(la.length:Int)) (g1:IX 24 (.a la) (.n j) (.vptr (.n k))) (g2:IX 22 (.g ls) (.n k) (.vptr (.agg [.i a,.i b,.i w]))): RT pol 22 (sn 116 B22) (e22 ls la (.i s) (.n j)) [] .normal (e22 ls la (.i (qA.wrap (s+w))) (.i (qA.wrap ((j:Int)+1)))) [] :=
 hx 0 60 [jT 3 3 [] g0,jO 5 4 [] g1,jO 5 6 [] g2]
theorem Qj7 (s:Int) (j k:Nat) (a b w:Int) (g0:¬((j:Int)<(la.length:Int))): RT pol 22 (sn 116 B22) (e22 ls la (.i s) (.n j)) [] (.exit 0) (e22 ls la (.i s) (.n j)) [] :=
 hx 0 60 [jF 3 3 [] g0]
theorem Qj8 (s:Int) (y6:HV:=Ud): RT pol 22 (sn 15 B22) (e22 ls la (.i s) y6) [] .ret (QbF (.g ls) (.a la) (.i s) (.i s) y6) [] :=
 hx 0 60 []
end
noncomputable def B46:Code:=Try.f46.body.getD .skip
abbrev QbG (v0 v2 v3 v4:HV):Env:=[(0,v0),(2,v2),(3,v3),(4,v4)]
abbrev e46 (n:Int) (u2 u3:HV):Env:=QbG (.i n) (.imm .lit 1 []) u2 u3
section
variable (n:Int)
include n
theorem Qj9:RT pol 46 (sn 2 B46) [(0,.i n)] [] .normal (e46 n Ud Ud) [] :=
 hx 0 60 []
end
section
variable (n:Int)
include n
theorem Qka (y3 y4:HV:=Ud): RT pol 46 (sn 6 B46) (e46 n y3 y4) [] .normal (e46 n (.s 0 0) y4) [.b []] :=
 hx 0 60 []
theorem Qkb (q:Nat) (os:List HV) (y4:HV:=Ud): RT pol 46 (sn 28 B46) (e46 n (.s 0 q) y4) [.b os] .normal (e46 n (.s 0 q) (.i 0)) [.b os] :=
 hx 0 60 []
theorem Qkc (q:Nat) (os:List HV) (j:Nat) (g0:(j:Int)<n) (g1:Zu [.b os] 1 8 (.s 0 q) [.n j]=some (.sl 0 0 (q+1) none (q+1) 1,[.arr 1 (os++[.n j]) true 0])): RT pol 46 (sn 116 B46) (e46 n (.s 0 q) (.n j)) [.b os] .normal (e46 n (.sl 0 0 (q+1) none (q+1) 1) (.i (qA.wrap ((j:Int)+1)))) [.arr 1 (os++[.n j]) true 0] :=
 hx 0 60 [jT 3 2 [.b os] g0,jR 5 3 g1]
theorem Qkd (q:Nat) (os:List HV) (j:Nat) (g0:¬((j:Int)<n)): RT pol 46 (sn 116 B46) (e46 n (.s 0 q) (.n j)) [.b os] (.exit 0) (e46 n (.s 0 q) (.n j)) [.b os] :=
 hx 0 60 [jF 3 2 [.b os] g0]
theorem Qke (q:Nat) (os:List HV) (y4:HV:=Ud): RT pol 46 (sn 15 B46) (e46 n (.s 0 q) y4) [.b os] .ret (QbG (.i n) (.s 0 q) (.s 0 q) y4) [.b os] :=
 hx 0 60 []
end
noncomputable def B49:Code:=Try.f49.body.getD .skip
abbrev QbH (v0 v1 v2 v6 v7 v8 v9 v10:HV):Env:=[(0,v0),(1,v1),(2,v2),(6,v6),(7,v7),(8,v8),(9,v9),(10,v10)]
abbrev e49 (la:List HV) (a:Int) (b:Int) (u4 u5 u6 u7:HV):Env:=QbH (.a la) (.i a) (.i b) (.imm .lit 1 []) u4 u5 u6 u7
section
variable (la:List HV) (a b:Int)
include la a b
theorem Qkf:RT pol 49 (sn 2 B49) [(0,.a la),(1,.i a),(2,.i b)] [] .normal (e49 la a b Ud Ud Ud Ud) [] :=
 hx 0 60 []
end
section
variable (la:List HV) (a b:Int)
include la a b
theorem Qkg {x0:Int} {x1:Int} {x2:Int} {x3:Int} (g0:IX 24 (.a la) (.i a) (.vptr (.i x0))) (g1:IX 24 (.a la) (.i b) (.vptr (.i x1))) (g2:IX 24 (.a la) (.i a) (.vptr (.i x2))) (g3:IX 24 (.a la) (.i b) (.vptr (.i x3))) (y7 y8 y9 y10:HV:=Ud): RT pol 49 (sn 6 B49) (e49 la a b y7 y8 y9 y10) [] .normal (e49 la a b (.i (min x0 x1)) (.i (max x2 x3)) y9 y10) [] :=
 hx 0 60 [jO 1 2 [] g0,jO 1 6 [] g1,jO 1 11 [] g2,jO 1 15 [] g3]
theorem Qkh (lo hi:Int) (y9 y10:HV:=Ud): RT pol 49 (sn 14 B49) (e49 la a b (.i lo) (.i hi) y9 y10) [] .normal (e49 la a b (.i lo) (.i hi) (.s 0 0) y10) [.b []] :=
 hx 0 60 []
theorem Qki (lo hi:Int) (q:Nat) (os:List HV) (y10:HV:=Ud): RT pol 49 (sn 60 B49) (e49 la a b (.i lo) (.i hi) (.s 0 q) y10) [.b os] .normal (e49 la a b (.i lo) (.i hi) (.s 0 q) (.i 0)) [.b os] :=
 hx 0 60 []
theorem Qkj (lo hi:Int) (q:Nat) (os:List HV) (j:Nat) {x0:Int} (g0:(j:Int)<(la.length:Int)) (g1:IX 24 (.a la) (.n j) (.vptr (.i x0))) (g2:x0=hi) (g3:Zu [.b os] 1 8 (.s 0 q) [.i lo]=some (.sl 0 0 (q+1) none (q+1) 1,[.arr 1 (os++[.i lo]) true 0])): RT pol 49 (sn 244 B49) (e49 la a b (.i lo) (.i hi) (.s 0 q) (.n j)) [.b os] .normal (e49 la a b (.i lo) (.i hi) (.sl 0 0 (q+1) none (q+1) 1) (.i (qA.wrap ((j:Int)+1)))) [.arr 1 (os++[.i lo]) true 0] :=
 hx 0 60 [jT 4 3 [.b os] g0,jO 6 2 [.b os] g1,jT 6 5 [.b os] g2,jR 7 3 g3]
theorem Qkk (lo hi:Int) (q:Nat) (os:List HV) (j:Nat) {x0:Int} {x1:Int} (g0:(j:Int)<(la.length:Int)) (g1:IX 24 (.a la) (.n j) (.vptr (.i x0))) (g2:¬(x0=hi)) (g3:IX 24 (.a la) (.n j) (.vptr (.i x1))) (g4:Zu [.b os] 1 8 (.s 0 q) [.i x1]=some (.sl 0 0 (q+1) none (q+1) 1,[.arr 1 (os++[.i x1]) true 0])): RT pol 49 (sn 244 B49) (e49 la a b (.i lo) (.i hi) (.s 0 q) (.n j)) [.b os] .normal (e49 la a b (.i lo) (.i hi) (.sl 0 0 (q+1) none (q+1) 1) (.i (qA.wrap ((j:Int)+1)))) [.arr 1 (os++[.i x1]) true 0] :=
 hx 0 60 [jT 4 3 [.b os] g0,jO 6 2 [.b os] g1,jF 6 5 [.b os] g2,jO 8 3 [.b os] g3,jR 8 6 g4]
theorem Qkl (lo hi:Int) (q:Nat) (os:List HV) (j:Nat) (g0:¬((j:Int)<(la.length:Int))): RT pol 49 (sn 244 B49) (e49 la a b (.i lo) (.i hi) (.s 0 q) (.n j)) [.b os] (.exit 0) (e49 la a b (.i lo) (.i hi) (.s 0 q) (.n j)) [.b os] :=
 hx 0 60 [jF 4 3 [.b os] g0]
theorem Qkm (lo hi:Int) (q:Nat) (os:List HV) (y10:HV:=Ud): RT pol 49 (sn 31 B49) (e49 la a b (.i lo) (.i hi) (.s 0 q) y10) [.b os] .ret (QbH (.a la) (.i a) (.i b) (.s 0 q) (.i lo) (.i hi) (.s 0 q) y10) [.b os] :=
 hx 0 60 []
end
end Go.Proofs.Ytiejmoglooaalaa
end
section
open Go Go.HL
namespace Go.Proofs.Ytiejmoglooaalaa
set_option linter.unusedSectionVars false
open Go.Proofs.Try renaming prog → Tp
open Go.HL.HV renaming undef → Ud
def WZ:List HV→Option HV:=f3 kI kI kI fun n lo hi=>some (.bool (decide (lo≤n∧n≤hi)))
theorem JJ:QP Tp 52 WZ:=by
 refine Qp (pol:=pol) (fn:=Try.f52) (cd:=B52) Qk Xp (by kernel_rfl) (by kernel_rfl) (Zm pol.prim _ _ (by kernel_rfl)) (by kernel_rfl) ?_
 intro args res h
 obtain ⟨n,lo,hi,rfl,hq⟩:=Kp h
 cases hq
 have hr:Try.f52.results.toList=[.tmp 6]:=by kernel_rfl
 by_cases g0:lo≤n
 ·by_cases g1:n≤hi
  ·exact ⟨_,_,_,_,Qr6 n lo hi g0 g1,by simp,by simp only [Qd,hr];rfl,by rw [decide_eq_true ⟨g0,g1⟩];rfl⟩
  ·exact ⟨_,_,_,_,Qr7 n lo hi g0 g1,by simp,by simp only [Qd,hr];rfl,by rw [decide_eq_false (fun h=>g1 h.2)];rfl⟩
 ·exact ⟨_,_,_,_,Qr8 n lo hi g0,by simp,by simp only [Qd,hr];rfl,by rw [decide_eq_false (fun h=>g0 h.1)];rfl⟩
def SK:List HV→Option HV:=f2 kI kI fun a n=>if 0<n∧n<9223372036854775808 then some (.int .i64 (QS a n)) else none
theorem QaJ:QP Tp 24 SK:=by
 refine Qp (pol:=pol) (fn:=Try.f24) (cd:=B24) Qk Xp (by kernel_rfl) (by kernel_rfl) (Zm pol.prim _ _ (by kernel_rfl)) (by kernel_rfl) ?_
 intro args res h
 obtain ⟨a,n,rfl,hq⟩:=Z9 h
 split at hq
 case isFalse=>cases hq
 rename_i hn
 cases hq
 have hr:Try.f24.results.toList=[.tmp 4]:=by kernel_rfl
 refine ⟨_,_,_,_,Qsa a n ?_,by simp,by simp only [Qd,hr];rfl,rfl⟩
 have:IntKind.u64.wrap n≠0:=by rw [JC];omega
 simp only [BV,J8,KQ,if_neg this,if_true]
theorem Yd {α:Type} (d:α) (p:α→Prop) [DecidablePred p]:∀(l:List α),(∃m,m<l.length∧p (l.getD m d)∧∀i,i<m→¬p (l.getD i d))∨∀x∈l,¬p x
 | []=>.inr (by simp)
 | x::l=>by
  by_cases hx:p x
  ·exact .inl ⟨0,by simp,hx,fun i hi=>absurd hi (Nat.not_lt_zero _)⟩
  ·rcases Yd d p l with ⟨m,h1,h2,h3⟩ | h
   ·refine .inl ⟨m+1,by simpa using h1,h2,fun i hi=>?_⟩
    cases i with
    | zero=>exact hx
    | succ i=>exact h3 i (by omega)
   ·exact .inr fun y hy=>by
     rcases List.mem_cons.1 hy with rfl | hy
     ·exact hx
     ·exact h y hy
theorem Qu {α:Type} (d:α) {l:List α} {i:Nat} (h:i<l.length):l.getD i d∈l:=by rw [QB h];exact List.getElem_mem h
def QaK:List HV→Option HV:=f2 kL kL fun a b=>if a.length≤1000 then some (.bool (decide (a=b))) else none
theorem Qd6:Try.f21.results.toList=[.tmp 4]:=by kernel_rfl
theorem QbI:QP Tp 21 QaK:=by
 refine Qp (pol:=pol) (fn:=Try.f21) (cd:=B21) Qk Xp (by kernel_rfl) (by kernel_rfl) (Zm pol.prim _ _ (by kernel_rfl)) (by kernel_rfl) ?_
 intro args res h
 obtain ⟨a,b,rfl,hq⟩:=Z9 h
 split at hq
 case isFalse=>cases hq
 rename_i hl
 cases hq
 have s0:=QjP (a.map Qb) (b.map Qb)
 by_cases hab:a.length=b.length
 ·have s1:=QjQ (a.map Qb) (b.map Qb) (by simp [hab])
  have s2:=QjS (a.map Qb) (b.map Qb)
  have go:∀m,m≤a.length→(∀i,i<m→¬a.getD i 0≠b.getD i 0)→∀i,i<m→RT pol 21 (sn 116 B21) ((Gw (.a (a.map Qb)) (.a (b.map Qb)) (.bool false) (.i (i:Int)))) [] .normal ((Gw (.a (a.map Qb)) (.a (b.map Qb)) (.bool false) (.i ((i+1:Nat):Int)))) []:=fun m hm hn i hi=>by
   have s:=QjT (a.map Qb) (b.map Qb) i (x0:=a.getD i 0) (x1:=b.getD i 0) (by rw [qB];omega) (gx (by omega)) (gx (by omega)) (Decidable.not_not.1 (hn i hi))
   rw [Qi (by omega)] at s
   exact s
  rcases Yd 0 (fun i:Nat=>a.getD i 0≠b.getD i 0) (qM a.length) with ⟨m,h1,h2,h3⟩ | hn
  ·rw [List.length_range] at h1
   have er:∀i,i<a.length→(qM a.length).getD i 0=i:=fun i hi=>by simp [qF,hi]
   rw [er m h1] at h2
   have h3:∀i,i<m→¬a.getD i 0≠b.getD i 0:=fun i hi=>by have:=h3 i hi;rwa [er i (by omega)] at this
   have r:=Wk (E:=fun i=>(Gw (.a (a.map Qb)) (.a (b.map Qb)) (.bool false) (.i (i:Int)))) (Hs:=fun _=>[]) m (go m (by omega) h3) (fun i _=>by kernel_rfl) (fun i _=>rfl) (QjU (a.map Qb) (b.map Qb) m (x0:=a.getD m 0) (x1:=b.getD m 0) (by rw [qB];omega) (gx h1) (gx (by omega)) h2) (by simp) (c:=sn 58 B21) (by kernel_rfl) (fun i _=>by kernel_rfl)
   refine ⟨_,_,_,.bool false,sq (s0) (sq (s1) (sqo (sq (s2) (RunsTo.block_ret (i:=0) (c:=sn 29 B21) (r) (by kernel_rfl)) (c:=sn 14 B21)) (c:=sn 7 B21) (b:=sn 15 B21)) (c:=sn 3 B21)) (c:=B21),by simp,by simp only [Qd,Qd6];rfl,?_⟩
   rw [decide_eq_false (fun e=>h2 (by rw [e]))];rfl
  ·have hn:∀i,i<a.length→¬a.getD i 0≠b.getD i 0:=fun i hi=>hn i (List.mem_range.2 hi)
   have r:=Wk (E:=fun i=>(Gw (.a (a.map Qb)) (.a (b.map Qb)) (.bool false) (.i (i:Int)))) (Hs:=fun _=>[]) a.length (go a.length (qD _) hn) (fun i _=>by kernel_rfl) (fun i _=>rfl) (QjV (a.map Qb) (b.map Qb) a.length (by rw [qB];omega)) (by simp) (c:=sn 58 B21) (by kernel_rfl) (fun i _=>by kernel_rfl)
   have z:=QjW (a.map Qb) (b.map Qb) (y5:=.i (a.length:Int))
   refine ⟨_,_,_,.bool true,sq (s0) (sq (s1) (sq (sq (s2) (bke (c:=sn 29 B21) (r)) (c:=sn 14 B21)) (z) (c:=sn 7 B21)) (c:=sn 3 B21)) (c:=B21),by simp,by simp only [Qd,Qd6];rfl,?_⟩
   rw [decide_eq_true (List.ext_getElem hab fun i h1 h2=>by have:=Decidable.not_not.1 (hn i h1);rwa [QB h1,QB h2] at this)];rfl
 ·have s1:=QjR (a.map Qb) (b.map Qb) (by rw [qB,qB];omega)
  refine ⟨_,_,_,.bool false,sq (s0) (sqo (s1) (c:=sn 3 B21) (b:=sn 7 B21)) (c:=B21),by simp,by simp only [Qd,Qd6];rfl,?_⟩
  rw [decide_eq_false (fun e=>hab (by rw [e]))];rfl
def wOf (l:List St) (k:Int):Int:=(l.getD k.toNat (0,0,0)).2.2
def wgt (l:List St) (t:List Int):Int:=(t.map (wOf l)).sum
def inR (m:Nat) (t:List Int):Bool:=t.all fun k=>decide (0≤k∧k<(m:Int))
def wB (l:List St):Bool:=l.all fun s=>decide (0≤s.2.2∧s.2.2≤1000000)
theorem inR_iff {m:Nat} {t:List Int}:inR m t=true↔∀k∈t,0≤k∧k<(m:Int):=by simp [inR]
theorem wB_iff {l:List St}:wB l=true↔∀s∈l,0≤s.2.2∧s.2.2≤1000000:=by simp [wB]
theorem Xq (l:List Int) {i:Nat} (h:i<l.length):(l.take (i+1)).sum=(l.take i).sum+l.getD i 0:=by
 rw [List.take_add_one,qC h,List.sum_append];simp [qF,qC h]
theorem Qgy {l:List Int} {M:Int} (h0:0≤M) (h:∀x∈l,0≤x∧x≤M):0≤l.sum∧l.sum≤M*l.length:=by
 induction l with
 | nil=>simp
 | cons x l ih =>
  have:=ih fun y hy=>h y (by simp [hy])
  have:=h x (by simp)
  rw [List.sum_cons,List.length_cons,Int.natCast_add,Int.mul_add]
  omega
theorem Cl {l:List St} (hw:∀s∈l,0≤s.2.2∧s.2.2≤1000000) (k:Int):0≤wOf l k∧wOf l k≤1000000:=by
 unfold wOf
 by_cases h:k.toNat<l.length
 ·exact hw _ (Qu _ h)
 ·have e:l.getD k.toNat (0,0,0)=(0,0,0):=by simp [qF,qP (Nat.le_of_not_lt h)]
  rw [e];exact ⟨by decide,by decide⟩
theorem Dn {l:List St} (hw:∀s∈l,0≤s.2.2∧s.2.2≤1000000) {t:List Int} (ht:t.length≤1000) (i:Nat):0≤((t.map (wOf l)).take i).sum∧((t.map (wOf l)).take i).sum≤1000000000:=by
 have h:=Qgy (l:=(t.map (wOf l)).take i) (M:=1000000) (by omega) fun x hx=>by
  obtain ⟨k,_,rfl⟩:=List.mem_map.1 (List.mem_of_mem_take hx)
  exact Cl hw k
 have:((t.map (wOf l)).take i).length≤1000:=by rw [List.length_take,qB];omega
 omega
theorem gk {t:List Int} {i m:Nat} (hi:i<t.length) (ht:∀k∈t,0≤k∧k<(m:Int)):Z4 Tp 24 (.imm .arg 1 (t.map Qb)) (.int .i64 (i:Int))=some (.vptr (.int .i64 ((t.getD i 0).toNat:Int)))∧(t.getD i 0).toNat<m:=by
 have:=ht _ (Qu 0 hi)
 have g:=gx hi
 rw [show (((t.getD i 0).toNat:Nat):Int)=t.getD i 0 by omega]
 exact ⟨g,by omega⟩
def Do:List HV→Option HV:=f2 kN kL fun p t=>if inR p.2.length t=true∧wB p.2=true∧t.length≤1000 then some (.int .i64 (wgt p.2 t)) else none
theorem Qsb:Try.f42.results.toList=[.tmp 4]:=by kernel_rfl
theorem Gx:QP Tp 42 Do:=by
 refine Qp (pol:=pol) (fn:=Try.f42) (cd:=B42) Qk Xp (by kernel_rfl) (by kernel_rfl) (Zm pol.prim _ _ (by kernel_rfl)) (by kernel_rfl) ?_
 intro args res h
 obtain ⟨⟨n,l⟩,t,rfl,hq⟩:=Z9 h
 split at hq
 case isFalse=>cases hq
 rename_i hc
 obtain ⟨h1,h2,h3⟩:=hc
 simp only at h1 h2
 cases hq
 have ht:=inR_iff.1 h1
 have hw:=wB_iff.1 h2
 have a:=QjX n (l.map Qa) (t.map Qb)
 have b:=QjY n (l.map Qa) (t.map Qb)
 have c:=QjZ n (l.map Qa) (t.map Qb) 0
 rw [qB] at c
 have r:=Wk (E:=fun i=>(QbE (Qv n l) (.a (t.map Qb)) (.q 0) (.i 0) (.i ((t.map (wOf l)).take i).sum) Ud (.a (t.map Qb)) (.i (t.length:Int)) (.i (i:Int)))) (Hs:=fun _=>[.arr 2 [Qv n l] true 0]) t.length
  (E0:=fun i=>(QbE (Qv n l) (.a (t.map Qb)) (.q 0) (.i 0) (.i ((t.map (wOf l)).take (i+1)).sum) (.i ((t.getD i 0).toNat:Int)) (.a (t.map Qb)) (.i (t.length:Int)) (.i ((i+1:Nat):Int)))) (H1:=fun _=>[.arr 2 [Qv n l] true 0])
  (fun i hi=>by
   obtain ⟨g1,g2⟩:=gk hi ht
   have s:=Qj0 n (l.map Qa) (t.map Qb) ((t.map (wOf l)).take i).sum i t.length (t.getD i 0).toNat (l.getD (t.getD i 0).toNat (0,0,0)).1 (l.getD (t.getD i 0).toNat (0,0,0)).2.1 (l.getD (t.getD i 0).toNat (0,0,0)).2.2 (by omega) g1 (gs g2)
   have b1:=Dn hw (t:=t) h3 i
   have b2:=Cl hw (t.getD i 0)
   have e1:((t.map (wOf l)).take (i+1)).sum=((t.map (wOf l)).take i).sum+(l.getD (t.getD i 0).toNat (0,0,0)).2.2:=by
    rw [Xq _ (by rw [qB];exact hi),QB (by rw [qB];exact hi),List.getElem_map,wOf,QB hi]
   rw [Qi (by omega),Qr (by unfold wOf at b2;omega) (by unfold wOf at b2;omega),← e1] at s
   exact s) (fun i _=>by kernel_rfl) (fun i _=>QH _ rfl) (Qj1 n (l.map Qa) (t.map Qb) ((t.map (wOf l)).take t.length).sum t.length t.length 0 0 0 0 (by omega)) (by simp) (c:=sn 58 B42) (by kernel_rfl) (fun i _=>by kernel_rfl)
 have z:=Qj2 n (l.map Qa) (t.map Qb) ((t.map (wOf l)).take t.length).sum (y8:=.a (t.map Qb)) (y9:=.i (t.length:Int)) (y10:=.i (t.length:Int))
 refine ⟨_,_,_,.int .i64 ((t.map (wOf l)).take t.length).sum,sq (a) (sq (b) (sq (sq (c) (bke (c:=sn 29 B42) (r)) (c:=sn 14 B42)) (z) (c:=sn 7 B42)) (c:=sn 3 B42)) (c:=B42),by simp,by simp only [Qd,Qsb];rfl,?_⟩
 rw [qH (by rw [qB];exact qD _)];rfl
def Gy:List HV→Option HV:=f2 kS kL fun l t=>if inR l.length t=true∧wB l=true∧t.length≤1000 then some (.int .i64 (wgt l t)) else none
theorem Qsc:Try.f22.results.toList=[.tmp 4]:=by kernel_rfl
theorem QaL:QP Tp 22 Gy:=by
 refine Qp (pol:=pol) (fn:=Try.f22) (cd:=B22) Qk Xp (by kernel_rfl) (by kernel_rfl) (Zm pol.prim _ _ (by kernel_rfl)) (by kernel_rfl) ?_
 intro args res h
 obtain ⟨l,t,rfl,hq⟩:=Z9 h
 split at hq
 case isFalse=>cases hq
 rename_i hc
 obtain ⟨h1,h2,h3⟩:=hc
 cases hq
 have ht:=inR_iff.1 h1
 have hw:=wB_iff.1 h2
 have a:=Qj3 (l.map Qa) (t.map Qb)
 have b:=Qj4 (l.map Qa) (t.map Qb)
 have c:=Qj5 (l.map Qa) (t.map Qb) 0
 have r:=Wk (E:=fun i=>(QbF (.g (l.map Qa)) (.a (t.map Qb)) (.i 0) (.i ((t.map (wOf l)).take i).sum) (.i (i:Int)))) (Hs:=fun _=>[]) t.length
  (E0:=fun i=>(QbF (.g (l.map Qa)) (.a (t.map Qb)) (.i 0) (.i ((t.map (wOf l)).take (i+1)).sum) (.i ((i+1:Nat):Int)))) (H1:=fun _=>[])
  (fun i hi=>by
   obtain ⟨g1,g2⟩:=gk hi ht
   have s:=Qj6 (l.map Qa) (t.map Qb) ((t.map (wOf l)).take i).sum i (t.getD i 0).toNat (l.getD (t.getD i 0).toNat (0,0,0)).1 (l.getD (t.getD i 0).toNat (0,0,0)).2.1 (l.getD (t.getD i 0).toNat (0,0,0)).2.2 (by rw [qB];omega) g1 (gs g2)
   have b1:=Dn hw (t:=t) h3 i
   have b2:=Cl hw (t.getD i 0)
   have e1:((t.map (wOf l)).take (i+1)).sum=((t.map (wOf l)).take i).sum+(l.getD (t.getD i 0).toNat (0,0,0)).2.2:=by
    rw [Xq _ (by rw [qB];exact hi),QB (by rw [qB];exact hi),List.getElem_map,wOf,QB hi]
   rw [Qi (by omega),Qr (by unfold wOf at b2;omega) (by unfold wOf at b2;omega),← e1] at s
   exact s) (fun i _=>by kernel_rfl) (fun i _=>rfl) (Qj7 (l.map Qa) (t.map Qb) ((t.map (wOf l)).take t.length).sum t.length 0 0 0 0 (by rw [qB];omega)) (by simp) (c:=sn 58 B22) (by kernel_rfl) (fun i _=>by kernel_rfl)
 have z:=Qj8 (l.map Qa) (t.map Qb) ((t.map (wOf l)).take t.length).sum (y6:=.i (t.length:Int))
 refine ⟨_,_,_,.int .i64 ((t.map (wOf l)).take t.length).sum,sq (a) (sq (b) (sq (sq (c) (bke (c:=sn 29 B22) (r)) (c:=sn 14 B22)) (z) (c:=sn 7 B22)) (c:=sn 3 B22)) (c:=B22),by simp,by simp only [Qd,Qsc];rfl,?_⟩
 rw [qH (by rw [qB];exact qD _)];rfl
def Qg (n:Nat):List Int:=(qM n).map fun (i:Nat)=>(i:Int)
theorem QU (n:Nat):(Qg n).length=n:=by simp [Qg]
theorem Wr (n:Nat):Qg (n+1)=Qg n++[(n:Int)]:=by simp [Qg,List.range_succ]
def QbJ:List HV→Option HV:=f1 kI fun n=>if n≤900 then some (.own 1 ((Qg n.toNat).map Qb)) else none
theorem Qsd:Try.f46.results.toList=[.tmp 2]:=by kernel_rfl
theorem Qd7:QP Tp 46 QbJ:=by
 refine Qp (pol:=pol) (fn:=Try.f46) (cd:=B46) Qk Xp (by kernel_rfl) (by kernel_rfl) (Zm pol.prim _ _ (by kernel_rfl)) (by kernel_rfl) ?_
 intro args res h
 obtain ⟨n,rfl,hq⟩:=XH h
 split at hq
 case isFalse=>cases hq
 rename_i hn
 cases hq
 have a:=Qj9 n
 have b:=Qka n
 have c:=Qkb n 0 []
 have r:=Wk (E:=fun i=>(QbG (.i n) (.imm .lit 1 []) (.s 0 i) (.i (i:Int)))) (Hs:=fun i=>[bI (Qg i)]) n.toNat
  (E0:=fun i=>(QbG (.i n) (.imm .lit 1 []) (.s 0 (i+1)) (.i ((i+1:Nat):Int)))) (H1:=fun i=>[bI (Qg (i+1))])
  (fun i hi=>by
   have ap:=JD (H:=[bI (Qg i)]) (b:=0) (o:=Qg i) rfl (by rw [QU];omega) (i:Int)
   rw [QU,← Wr] at ap
   have s:=Qkc n i ((Qg i).map Qb) i (by omega) (ap.trans (by rw [Wr];simp [bI,Qb]))
   rw [Qi (by omega)] at s
   have e:(Qg i).map Qb++[.int .i64 (i:Int)]=(Qg (i+1)).map Qb:=by rw [Wr];simp [Qb]
   rw [e] at s
   exact s) (fun i _=>by kernel_rfl) (fun i _=>QH _ rfl) (Qkd n n.toNat ((Qg n.toNat).map Qb) n.toNat (by omega)) (by simp) (c:=sn 58 B46) (by kernel_rfl) (fun i _=>by kernel_rfl)
 have z:=Qke n n.toNat ((Qg n.toNat).map Qb) (y4:=.i (n.toNat:Int))
 refine ⟨_,_,_,.sl 0 0 n.toNat none n.toNat 1,sq (a) (sq (b) (sq (sq (c) (bke (c:=sn 29 B46) (r)) (c:=sn 14 B46)) (z) (c:=sn 7 B46)) (c:=sn 3 B46)) (c:=B46),by simp,by simp only [Qd,Qsd];rfl,?_⟩
 exact VE (b:=0) rfl (QU _)
def WO (x y v:Int):Int:=if v=y then x else v
def Zr (g:List Int) (a b:Int):List Int:=g.map (WO (min (g.getD a.toNat 0) (g.getD b.toNat 0)) (max (g.getD a.toNat 0) (g.getD b.toNat 0)))
theorem QcZ (g:List Int) (a b:Int):(Zr g a b).length=g.length:=by simp [Zr]
def Qd8:List HV→Option HV:=f3 kL kI kI fun g a b=>if (0≤a∧a<(g.length:Int))∧(0≤b∧b<(g.length:Int))∧g.length≤900 then some (.own 1 ((Zr g a b).map Qb)) else none
theorem Qse:Try.f49.results.toList=[.tmp 6]:=by kernel_rfl
theorem Qgz:QP Tp 49 Qd8:=by
 refine Qp (pol:=pol) (fn:=Try.f49) (cd:=B49) Qk Xp (by kernel_rfl) (by kernel_rfl) (Zm pol.prim _ _ (by kernel_rfl)) (by kernel_rfl) ?_
 intro args res h
 obtain ⟨g,a,b,rfl,hq⟩:=Kp h
 split at hq
 case isFalse=>cases hq
 rename_i hc
 obtain ⟨⟨a0,a1⟩,⟨b0,b1⟩,hg⟩:=hc
 cases hq
 have ga:Z4 Tp 24 (.imm .arg 1 (g.map Qb)) (.int .i64 a)=some (.vptr (.int .i64 (g.getD a.toNat 0))):=gxi a0 (by omega)
 have gb:Z4 Tp 24 (.imm .arg 1 (g.map Qb)) (.int .i64 b)=some (.vptr (.int .i64 (g.getD b.toNat 0))):=gxi b0 (by omega)
 have s1:=Qkf (g.map Qb) a b
 have s2:=Qkg (g.map Qb) a b ga gb ga gb
 generalize hx:min (g.getD a.toNat 0) (g.getD b.toNat 0)=x at s2
 generalize hy:max (g.getD a.toNat 0) (g.getD b.toNat 0)=y at s2
 have s3:=Qkh (g.map Qb) a b x y
 have s4:=Qki (g.map Qb) a b x y 0 []
 have ej:Zr g a b=g.map (WO x y):=by rw [Zr,hx,hy]
 have r:=Wk (E:=fun i=>(QbH (.a (g.map Qb)) (.i a) (.i b) (.imm .lit 1 []) (.i x) (.i y) (.s 0 i) (.i (i:Int)))) (Hs:=fun i=>[bI ((g.map (WO x y)).take i)]) g.length
  (E0:=fun i=>(QbH (.a (g.map Qb)) (.i a) (.i b) (.imm .lit 1 []) (.i x) (.i y) (.s 0 (i+1)) (.i ((i+1:Nat):Int)))) (H1:=fun i=>[bI ((g.map (WO x y)).take (i+1))])
  (fun i hi=>by
   have hl:((g.map (WO x y)).take i).length=i:=by rw [List.length_take,qB];omega
   have e:(g.map (WO x y)).take (i+1)=(g.map (WO x y)).take i++[WO x y (g.getD i 0)]:=by
    rw [List.take_add_one,qC (by rw [qB];exact hi)];simp [qF,qC hi]
   have ap:=JD (H:=[bI ((g.map (WO x y)).take i)]) (b:=0) (o:=(g.map (WO x y)).take i) rfl (by rw [hl];omega) (WO x y (g.getD i 0))
   rw [hl,← e] at ap
   have e2:((g.map (WO x y)).take i).map Qb++[.int .i64 (WO x y (g.getD i 0))]=((g.map (WO x y)).take (i+1)).map Qb:=by rw [e];simp [Qb]
   have ap2:Zu [.arr 1 (((g.map (WO x y)).take i).map Qb) true 0] 1 8 (.sl 0 0 i none i 1) [.int .i64 (WO x y (g.getD i 0))]=some (.sl 0 0 (i+1) none (i+1) 1,[.arr 1 (((g.map (WO x y)).take i).map Qb++[.int .i64 (WO x y (g.getD i 0))]) true 0]):=ap.trans (by rw [e2];rfl)
   by_cases c:g.getD i 0=y
   ·have ev:WO x y (g.getD i 0)=x:=if_pos c
    rw [ev] at ap2
    rw [ev] at e2
    have s:=Qkj (g.map Qb) a b x y i (((g.map (WO x y)).take i).map Qb) i (by rw [qB];omega) (gx hi) c ap2
    rw [Qi (by omega),e2] at s
    exact s
   ·have ev:WO x y (g.getD i 0)=g.getD i 0:=if_neg c
    rw [ev] at ap2
    rw [ev] at e2
    have s:=Qkk (g.map Qb) a b x y i (((g.map (WO x y)).take i).map Qb) i (by rw [qB];omega) (gx hi) c (gx hi) ap2
    rw [Qi (by omega),e2] at s
    exact s) (fun i _=>by kernel_rfl) (fun i _=>QH _ rfl) (Qkl (g.map Qb) a b x y g.length (((g.map (WO x y)).take g.length).map Qb) g.length (by rw [qB];omega)) (by simp) (c:=sn 122 B49) (by kernel_rfl) (fun i _=>by kernel_rfl)
 have z:=Qkm (g.map Qb) a b x y g.length (((g.map (WO x y)).take g.length).map Qb) (y10:=.i (g.length:Int))
 refine ⟨_,_,_,.sl 0 0 g.length none g.length 1,sq (s1) (sq (s2) (sq (s3) (sq (sq (s4) (bke (c:=sn 61 B49) (r)) (c:=sn 30 B49)) (z) (c:=sn 15 B49)) (c:=sn 7 B49)) (c:=sn 3 B49)) (c:=B49),by simp,by simp only [Qd,Qse];rfl,?_⟩
 rw [qH (by rw [qB];exact qD _),ej]
 exact VE (b:=0) rfl (by simp)
def stB (n:Int) (s:St):Bool:=decide ((0≤s.1∧s.1<n)∧(0≤s.2.1∧s.2.1<n)∧s.1≠s.2.1∧(0≤s.2.2∧s.2.2≤1000))
def Ww (n:Int) (l:List St):Bool:=l.all (stB n)&&decide ((1≤n∧n≤16)∧l.length≤60)
end Go.Proofs.Ytiejmoglooaalaa
end
section
open Go Go.HL
namespace Go.Proofs.Ytiejmoglooaalaa
set_option maxRecDepth 100000
set_option linter.unusedSectionVars false
open Go.Proofs.Try renaming prog → Tp
open Go.HL.HV renaming undef → Ud
section
variable {F:FuncId→Option (List HV→Option HV)}
noncomputable def B53:Code:=Try.f53.body.getD .skip
abbrev KJ (v0 v1 v2 v5:HV):Env:=[(0,v0),(1,v1),(2,v2),(5,v5)]
end
section
variable {F:FuncId→Option (List HV→Option HV)}
variable (H:Heap)
include H
theorem Qkn:RU F 53 2 B53 [] H .normal (KJ Ud Ud Ud Ud) H :=
 hx 0 60 []
theorem Qko (b:Nat) {a0:HV} {H0:Heap} (g0:some (Q4 (.agg [.i 0,.i 0,.i 0,.i 0,.i 0,.i 0,.i 0,.i 0,.i 0,.i 0,.i 0,.i 0,.i 0,.i 0,.i 0,.i 0]) H)=some (a0,H0)) (y0 y1 y2 y5:HV:=Ud): RU F 53 6 B53 (KJ y0 y1 y2 y5) H .normal (KJ y0 a0 y2 y5) H0 :=
 hx 0 60 [jR 1 1 g0]
theorem Qkp (b:Nat) (y0 y2 y5:HV:=Ud): RU F 53 28 B53 (KJ y0 (.q b) y2 y5) H .normal (KJ y0 (.q b) y2 (.i 0)) H :=
 hx 0 60 []
theorem Qkq (b:Nat) (i:Nat) {H0:Heap} (g0:(i:Int)<16) (g1:IX 100 (.q b) (.n i) (.ptr b 0 i 1)) (g2:ST H 3 (.ptr b 0 i 1) (.n i) H0) (y0 y2:HV:=Ud): RU F 53 116 B53 (KJ y0 (.q b) y2 (.n i)) H .normal (KJ y0 (.q b) (.n i) (.i (qA.wrap ((i:Int)+1)))) H0 :=
 hx 0 60 [jT 3 0 H g0,jO 5 5 H g1,jS 5 6 g2]
theorem Qkr (b:Nat) (i:Nat) (g0:¬((i:Int)<16)) (y0 y2:HV:=Ud): RU F 53 116 B53 (KJ y0 (.q b) y2 (.n i)) H (.exit 0) (KJ y0 (.q b) y2 (.n i)) H :=
 hx 0 60 [jF 3 0 H g0]
theorem Qks (b:Nat) (y0 y2 y5:HV:=Ud): RU F 53 15 B53 (KJ y0 (.q b) y2 y5) H .ret (KJ (.q b) (.q b) y2 y5) H :=
 hx 0 60 []
end
section
variable {F:FuncId→Option (List HV→Option HV)}
noncomputable def B55:Code:=Try.f55.body.getD .skip
abbrev Ye (v0 v1 v4:HV):Env:=[(0,v0),(1,v1),(4,v4)]
end
section
variable {F:FuncId→Option (List HV→Option HV)}
variable (v:Int) (H:Heap) (b:Nat)
include v H b
theorem Qkt:RU F 55 2 B55 [(0,.q b),(1,.i v)] H .normal (Ye (.q b) (.i v) (.i 0)) H :=
 hx 0 60 []
theorem Qku (w x:Int) (g0:IX 100 (.q b) (.i v) (.ptr b 0 ((v).toNat) 1)) (g1:LD H 3 (.ptr b 0 ((v).toNat) 1) (.i w)) (g2:w=v): RU F 55 24 B55 (Ye (.q b) (.i v) (.i 0)) H (.exit 0) (Ye (.q b) (.i v) (.i 0)) H :=
 hx 0 60 [jO 1 4 H g0,jO 1 5 H g1,jB 1 7 H (congrArg not (decide_eq_true g2))]
theorem Qkv (w x:Int) (g0:IX 100 (.q b) (.i v) (.ptr b 0 ((v).toNat) 1)) (g1:LD H 3 (.ptr b 0 ((v).toNat) 1) (.i w)) (g2:¬(w=v)) (g3:IX 100 (.q b) (.i v) (.ptr b 0 ((v).toNat) 1)) (g4:LD H 3 (.ptr b 0 ((v).toNat) 1) (.i x)): RU F 55 24 B55 (Ye (.q b) (.i v) (.i 0)) H .normal (Ye (.q b) (.i x) (.i 0)) H :=
 hx 0 60 [jO 1 4 H g0,jO 1 5 H g1,jB 1 7 H (congrArg not (decide_eq_false g2)),jO 2 4 H g3,jO 2 5 H g4]
theorem Qkw:RU F 55 7 B55 (Ye (.q b) (.i v) (.i 0)) H .ret (Ye (.q b) (.i v) (.i v)) H :=
 hx 0 60 []
end
section
variable {F:FuncId→Option (List HV→Option HV)}
noncomputable def B56:Code:=Try.f56.body.getD .skip
abbrev QiL (v0 v1 v2 v6 v7 v8:HV):Env:=[(0,v0),(1,v1),(2,v2),(6,v6),(7,v7),(8,v8)]
theorem Qkx (N:Nat) (u v:Int) (H:Heap) (b:Nat) {r0:Int} {H0:Heap} {r1:Int} {H1:Heap} {H2:Heap} (g0:CN F N 55 [.q b,.i u] H (.i r0) H0) (g1:CN F N 55 [.q b,.i v] H0 (.i r1) H1) (g2:IX 100 (.q b) (.i (max r0 r1)) (.ptr b 0 ((max r0 r1).toNat) 1)) (g3:ST H1 3 (.ptr b 0 ((max r0 r1).toNat) 1) (.i (min r0 r1)) H2) (g4:r0=r1): RU F 56 1 B56 [(0,.q b),(1,.i u),(2,.i v)] H .ret (QiL (.q b) (.i u) (.i v) (.bool false) (.i r0) (.i r1)) H2 :=
 hx N 60 [jC 1 2 g0,jC 1 5 g1,jO 2 9 H1 g2,jS 2 10 g3,jB 3 2 H2 (congrArg not (decide_eq_true g4))]
theorem Qky (N:Nat) (u v:Int) (H:Heap) (b:Nat) {r0:Int} {H0:Heap} {r1:Int} {H1:Heap} {H2:Heap} (g0:CN F N 55 [.q b,.i u] H (.i r0) H0) (g1:CN F N 55 [.q b,.i v] H0 (.i r1) H1) (g2:IX 100 (.q b) (.i (max r0 r1)) (.ptr b 0 ((max r0 r1).toNat) 1)) (g3:ST H1 3 (.ptr b 0 ((max r0 r1).toNat) 1) (.i (min r0 r1)) H2) (g4:¬(r0=r1)): RU F 56 1 B56 [(0,.q b),(1,.i u),(2,.i v)] H .ret (QiL (.q b) (.i u) (.i v) (.bool true) (.i r0) (.i r1)) H2 :=
 hx N 60 [jC 1 2 g0,jC 1 5 g1,jO 2 9 H1 g2,jS 2 10 g3,jB 3 2 H2 (congrArg not (decide_eq_false g4))]
end
end Go.Proofs.Ytiejmoglooaalaa
end
section
open Go Go.HL
namespace Go.Proofs.Ytiejmoglooaalaa
set_option linter.unusedSectionVars false
open Go.Proofs.Try renaming prog → Tp
open Go.HL.HV renaming undef → Ud
abbrev bU (us:List Int):Blk:=.arr 16 [.agg (us.map Qb)] true 0
theorem Qte:Tp.underlying 100=some (.array 16 3):=by kernel_rfl
theorem ixU {b:Nat} {v:Int} (h0:0≤v) (h:v<16):Z4 Tp 100 (.ptr b 0 0 1) (.int .i64 v)=some (.ptr b 0 v.toNat 1):=Qgs Qte z3 h0 (by omega)
theorem ldU {H:Heap} {b:Nat} {us:List Int} (hb:H[b]?=some (bU us)) {v:Nat} (h:v<us.length):QK Tp H 3 (.ptr b 0 v 1)=some (.int .i64 (us.getD v 0)) :=
 V5 (P:=Tp) (t:=3) (b:=b) (i:=0) (off:=v) (tot:=1) (els:=[.agg (us.map Qb)]) (cs:=us.map Qb) hb rfl rfl a3 i3 (by rw [qK,qC h];simp [qF,qC h,Qb])
theorem stU {H:Heap} {b:Nat} {us:List Int} (hb:H[b]?=some (bU us)) {v:Nat} (h:v<us.length) (x:Int):Q3 Tp H 3 (.ptr b 0 v 1) (.int .i64 x)=some (H.set b (bU (us.set v x))):=by
 have:=QaF (P:=Tp) (t:=3) (b:=b) (i:=0) (off:=v) (tot:=1) (v:=.int .i64 x) (els:=[.agg (us.map Qb)]) (cs:=us.map Qb) hb rfl rfl z3 rfl rfl (by simp [bnd]) (by simpa using h)
 rw [this]
 show some (H.set b (.arr 16 [.agg ((us.map Qb).set v (Qb x))] true 0))=_
 rw [bU,List.map_set]
structure Up (us g:List Int):Prop where
 lu:us.length=16
 lg:g.length=16
 up:∀v,v<16→(us.getD v 0=(v:Int)∧g.getD v 0=(v:Int))∨(0≤us.getD v 0∧us.getD v 0<(v:Int)∧g.getD v 0=g.getD (us.getD v 0).toNat 0)
theorem Up.lab {us g:List Int} (h:Up us g):∀v,v<16→0≤g.getD v 0∧g.getD v 0≤(v:Int)∧us.getD (g.getD v 0).toNat 0=g.getD v 0∧g.getD (g.getD v 0).toNat 0=g.getD v 0:=by
 intro v
 induction v using Nat.strongRecOn with
 | _ v ih =>
  intro hv
  rcases h.up v hv with ⟨h1,h2⟩ | ⟨h1,h2,h3⟩
  ·rw [h2,qE]
   exact ⟨by omega,by omega,h1,h2⟩
  ·rw [h3]
   obtain ⟨k1,k2,k3,k4⟩:=ih (us.getD v 0).toNat (by omega) (by omega)
   exact ⟨k1,by omega,k3,k4⟩
theorem Up.start:Up (Qg 16) (Qg 16):=by
 refine ⟨rfl,rfl,fun v hv=>.inl ?_⟩
 have:(Qg 16).getD v 0=(v:Int):=by simp [Qg,qF,hv]
 exact ⟨this,this⟩
theorem SL {us:List Int} {i v:Nat} {x:Int} (hi:i<us.length):(us.set i x).getD v 0=if i=v then x else us.getD v 0:=by
 simp only [qF,List.getElem?_set]
 split
 ·rename_i h;subst h;simp [hi]
 ·rfl
theorem VH {g:List Int} {f:Int→Int} {v:Nat} (hv:v<g.length):(g.map f).getD v 0=f (g.getD v 0):=by
 simp [qF,qC hv]
theorem Up.join {us g:List Int} (h:Up us g) {u v:Nat} (hu:u<16) (hv:v<16):Up (us.set (max (g.getD u 0) (g.getD v 0)).toNat (min (g.getD u 0) (g.getD v 0))) (Zr g (u:Int) (v:Int)):=by
 obtain ⟨a1,a2,a3,a4⟩:=h.lab u hu
 obtain ⟨b1,b2,b3,b4⟩:=h.lab v hv
 have hx:∃x y:Nat,min (g.getD u 0) (g.getD v 0)=(x:Int)∧max (g.getD u 0) (g.getD v 0)=(y:Int)∧x≤y∧y<16∧us.getD x 0=(x:Int)∧g.getD x 0=(x:Int)∧us.getD y 0=(y:Int)∧g.getD y 0=(y:Int):=by
  obtain ⟨p,hp⟩:∃p:Nat,g.getD u 0=(p:Int):=⟨(g.getD u 0).toNat,by omega⟩
  obtain ⟨q,hq⟩:∃q:Nat,g.getD v 0=(q:Int):=⟨(g.getD v 0).toNat,by omega⟩
  rw [hp,qE] at a3 a4
  rw [hq,qE] at b3 b4
  rcases Nat.le_total p q with hpq | hpq
  ·exact ⟨p,q,by omega,by omega,hpq,by omega,a3,a4,b3,b4⟩
  ·exact ⟨q,p,by omega,by omega,hpq,by omega,b3,b4,a3,a4⟩
 obtain ⟨x,y,ex,ey,hxy,hy,ux,gx',uy,gy⟩:=hx
 unfold Zr
 rw [qE,qE,ex,ey,qE]
 refine ⟨by simp [h.lu],by simp [h.lg],fun w hw=>?_⟩
 rw [SL (by rw [h.lu];exact hy),VH (by rw [h.lg];exact hw)]
 by_cases e:y=w
 ·subst e
  rw [if_pos rfl,gy]
  rcases Nat.lt_or_ge x y with c | c
  ·refine .inr ⟨by omega,by omega,?_⟩
   rw [qE,VH (by rw [h.lg];omega),gx']
   unfold WO
   rw [if_pos rfl,if_neg (by omega)]
  ·have:x=y:=by omega
   subst this
   exact .inl ⟨rfl,by unfold WO;rw [if_pos rfl]⟩
 ·rw [if_neg e]
  rcases h.up w hw with ⟨h1,h2⟩ | ⟨h1,h2,h3⟩
  ·refine .inl ⟨h1,?_⟩
   rw [h2];unfold WO;rw [if_neg (by omega)]
  ·refine .inr ⟨h1,h2,?_⟩
   rw [h3,VH (by rw [h.lg];omega)]
def upJ (us g:List Int) (u v:Int):List Int:=us.set (max (g.getD u.toNat 0) (g.getD v.toNat 0)).toNat (min (g.getD u.toNat 0) (g.getD v.toNat 0))
section
variable {F:FuncId→Option (List HV→Option HV)}
abbrev ClF (F:FuncId→Option (List HV→Option HV)) (g:FuncId) (args:List HV) (H:Heap) (r:HV) (H':Heap):Prop:=CallsTo (P:=Tp) (pol:=plF F) g args H r H'
theorem K0 (hF:F 53=none) (H:Heap) (hm:mxs H≤H.length+1):ClF F 53 [] H (.ptr H.length 0 0 1) (H++[bU (Qg 16)]):=by
 have a:=Qkn (F:=F) H
 have b:=Qko (F:=F) H 0 (a0:=.ptr H.length 0 0 1) (H0:=H++[bU (qG 16 0)]) rfl
 have c:=Qkp (F:=F) (H++[bU (qG 16 0)]) H.length
 have hset:∀i,i≤16→(Qg i++qG (16-i) (0:Int)).length=16:=fun i hi=>by simp [QU];omega
 have hstep:∀i,i<16→(Qg i++qG (16-i) (0:Int)).set i (i:Int)=Qg (i+1)++qG (16-(i+1)) 0:=fun i hi=>by
  rw [qQ _ _ (by rw [QU];exact qD _),QU,Nat.sub_self,show 16-i=(16-(i+1))+1 by omega,List.replicate_succ,List.set_cons_zero,Wr,List.append_assoc];rfl
 have r:=Wk (pol':=plF F) (f:=53) (E:=fun i=>(KJ Ud (.ptr H.length 0 0 1) Ud (.i (i:Int)))) (Hs:=fun i=>H++[bU (Qg i++qG (16-i) 0)]) 16
  (E0:=fun i=>(KJ Ud (.ptr H.length 0 0 1) (.i (i:Int)) (.i ((i+1:Nat):Int)))) (H1:=fun i=>H++[bU (Qg (i+1)++qG (16-(i+1)) 0)])
  (fun i hi=>by
   have st:=stU (H:=H++[bU (Qg i++qG (16-i) 0)]) (b:=H.length) (us:=Qg i++qG (16-i) 0) (by rw [List.getElem?_append_right (qD _),Nat.sub_self];rfl) (v:=i) (by rw [hset i (by omega)];exact hi) (i:Int)
   rw [hstep i hi,qQ _ _ (qD _),Nat.sub_self] at st
   have s:=Qkq (F:=F) (H++[bU (Qg i++qG (16-i) 0)]) H.length i (by omega) (by have:=ixU (b:=H.length) (v:=(i:Int)) (by omega) (by omega);rwa [qE] at this) st
   rw [Qi (by omega)] at s
   exact s) (fun i _=>by kernel_rfl) (fun i _=>QH _ (by simp)) (Qkr (F:=F) (H++[bU (Qg 16++qG (16-16) 0)]) H.length 16 (by omega)) (by simp) (c:=sn 58 B53) (by kernel_rfl) (fun i _=>by kernel_rfl)
 have z:=Qks (F:=F) (H++[bU (Qg 16)]) H.length (y5:=.i 16)
 have e16:H++[bU (Qg 16++qG (16-16) 0)]=H++[bU (Qg 16)]:=rfl
 have t:=sq (a) (sq (b) (sq (sq (c) (bke (c:=sn 29 B53) (r)) (c:=sn 14 B53)) (z) (c:=sn 7 B53)) (c:=sn 3 B53)) (c:=B53)
 have h:=CallsTo.shared (P:=Tp) (pol:=plF F) (g:=53) (fn:=Try.f53) (cd:=B53) (args:=[]) (v:=.ptr H.length 0 0 1) hF (by kernel_rfl) (by kernel_rfl) (by kernel_rfl) t (by kernel_rfl) (by simp) (by kernel_rfl)
 have e:gc H.length (bnd (.ptr H.length 0 0 1)) (H++[bU (Qg 16)])=H++[bU (Qg 16)]:=by
  unfold gc
  rw [qH]
  simp only [List.length_append,qO,bnd]
  omega
 rw [e] at h
 exact h
theorem Kh (hF:F 55=none) {H:Heap} {b:Nat} {us g:List Int} (hb:H[b]?=some (bU us)) (hU:Up us g) {v:Int} (h0:0≤v) (h1:v<16):ClF F 55 [.ptr b 0 0 1,.int .i64 v] H (.int .i64 (g.getD v.toNat 0)) H:=by
 have loop:∀(n:Nat),n<16→RT (plF F) 55 (sn 12 B55) ((Ye (.q b) (.i (n:Int)) (.i 0))) H (.exit 0) ((Ye (.q b) (.i (g.getD n 0)) (.i 0))) H:=by
  intro n
  induction n using Nat.strongRecOn with
  | _ n ih =>
   intro hn
   have ix:=ixU (b:=b) (v:=(n:Int)) (by omega) (by omega)
   have ld:=ldU hb (v:=n) (by rw [hU.lu];exact hn)
   rcases hU.up n hn with ⟨k1,k2⟩ | ⟨k1,k2,k3⟩
   ·have s:=Qku (F:=F) (n:Int) H b (us.getD n 0) 0 ix ld k1
    rw [k2]
    exact lpo (s) (c:=sn 12 B55)
   ·have s:=Qkv (F:=F) (n:Int) H b (us.getD n 0) (us.getD n 0) ix ld (by omega) ix ld
    have r:=ih (us.getD n 0).toNat (by omega) (by omega)
    rw [← k3,show (((us.getD n 0).toNat:Nat):Int)=us.getD n 0 by omega] at r
    exact lop (s) (QH _ rfl) (r)
 have r:=loop v.toNat (by omega)
 rw [show ((v.toNat:Nat):Int)=v by omega] at r
 have a:=Qkt (F:=F) v H b
 have z:=Qkw (F:=F) (g.getD v.toNat 0) H b
 have t:=sq (a) (sq (bke (c:=sn 6 B55) (r)) (z) (c:=sn 3 B55)) (c:=B55)
 have h:=CallsTo.shared (P:=Tp) (pol:=plF F) (g:=55) (fn:=Try.f55) (cd:=B55) (args:=[.ptr b 0 0 1,.int .i64 v]) (v:=.int .i64 (g.getD v.toNat 0)) hF (by kernel_rfl) (by kernel_rfl) (by kernel_rfl) t (by kernel_rfl) (by simp) (by kernel_rfl)
 rw [QH _ rfl] at h
 exact h
theorem XJ (hF:F 55=none) (hG:F 56=none) {H:Heap} {b:Nat} {us g:List Int} (hb:H[b]?=some (bU us)) (hU:Up us g) {u v:Int} (h01:0≤u∧u<16) (h23:0≤v∧v<16) :
  ClF F 56 [.ptr b 0 0 1,.int .i64 u,.int .i64 v] H (.bool (decide (g.getD u.toNat 0≠g.getD v.toNat 0))) (H.set b (bU (upJ us g u v))):=by
 obtain ⟨h0,h1⟩:=h01
 obtain ⟨h2,h3⟩:=h23
 obtain ⟨N1,c1⟩:=CallsTo.from (Kh hF hb hU h0 h1)
 obtain ⟨N2,c2⟩:=CallsTo.from (Kh hF hb hU h2 h3)
 obtain ⟨p,rfl⟩:∃p:Nat,u=(p:Int):=⟨u.toNat,by omega⟩
 obtain ⟨q,rfl⟩:∃q:Nat,v=(q:Int):=⟨v.toNat,by omega⟩
 unfold upJ
 simp only [qE] at c1 c2 ⊢
 obtain ⟨a1,a2,_⟩:=hU.lab p (by omega)
 obtain ⟨b1,b2,_⟩:=hU.lab q (by omega)
 have hmax:0≤max (g.getD p 0) (g.getD q 0)∧max (g.getD p 0) (g.getD q 0)<16:=by omega
 have ix:=ixU (b:=b) hmax.1 hmax.2
 have st:=stU hb (v:=(max (g.getD p 0) (g.getD q 0)).toNat) (by rw [hU.lu];omega) (min (g.getD p 0) (g.getD q 0))
 have e:gc H.length (bnd (.bool (decide (g.getD p 0≠g.getD q 0)))) (H.set b (bU (us.set (max (g.getD p 0) (g.getD q 0)).toNat (min (g.getD p 0) (g.getD q 0)))))=H.set b (bU (us.set (max (g.getD p 0) (g.getD q 0)).toNat (min (g.getD p 0) (g.getD q 0)))):=QH _ (by simp)
 by_cases c:g.getD p 0=g.getD q 0
 ·have t:=Qkx (F:=F) (N1+N2) (p:Int) (q:Int) H b (fun kf hk=>c1 kf (by omega)) (fun kf hk=>c2 kf (by omega)) ix st c
  have h:=CallsTo.shared (P:=Tp) (pol:=plF F) (g:=56) (fn:=Try.f56) (cd:=B56) (args:=[.ptr b 0 0 1,.int .i64 (p:Int),.int .i64 (q:Int)]) (v:=.bool false) hG (by kernel_rfl) (by kernel_rfl) (by kernel_rfl) t (by kernel_rfl) (by simp) (by kernel_rfl)
  rw [decide_eq_false (fun k=>k c)] at e ⊢
  rw [e] at h
  exact h
 ·have t:=Qky (F:=F) (N1+N2) (p:Int) (q:Int) H b (fun kf hk=>c1 kf (by omega)) (fun kf hk=>c2 kf (by omega)) ix st c
  have h:=CallsTo.shared (P:=Tp) (pol:=plF F) (g:=56) (fn:=Try.f56) (cd:=B56) (args:=[.ptr b 0 0 1,.int .i64 (p:Int),.int .i64 (q:Int)]) (v:=.bool true) hG (by kernel_rfl) (by kernel_rfl) (by kernel_rfl) t (by kernel_rfl) (by simp) (by kernel_rfl)
  rw [decide_eq_true c] at e ⊢
  rw [e] at h
  exact h
end
theorem Qd9 {b q k:Nat} (h:k≤q):W5 Tp 24 (.sl b 0 q none q 1) none (some (.int .i64 (k:Int))) none=some (.sl b 0 k none q 1):=by
 simp [W5,Js,u24,z3,h]
theorem Qea {b q k:Nat} (h:k≤q):W5 Tp 24 (.sl b 0 q none q 1) (some (.int .i64 (k:Int))) none none=some (.sl b k (q-k) none q 1):=by
 simp [W5,Js,u24,z3,h]
theorem Qsf:(Tp.info? 3).map (fun i=>(i.size,i.bytes,UN i))=some (1,8,true):=by kernel_rfl
theorem Dp {H:Heap} {b:Nat} {B:Blk} (h:H[b]?=some B):H.set b B=H:=by
 apply List.ext_getElem?
 intro i
 by_cases e:b=i
 ·subst e
  rcases Nat.lt_or_ge b H.length with c | c
  ·rw [List.getElem?_set_self c,h]
  ·rw [qP c] at h;cases h
 ·rw [List.getElem?_set_ne e]
theorem Qkz {base r k:Nat} {H:Heap} (h:k<r):(gc base r H)[k]?=H[k]?:=by
 unfold gc
 exact qR (by omega)
theorem QaM {base r k:Nat} {H:Heap} (h:k<base):(gc base r H)[k]?=H[k]?:=by
 unfold gc
 exact qR (by omega)
theorem Uc:∀(n:Nat) (H:Heap),mxs (H.take n)≤mxs H
 | 0,_=>qI _
 | n+1,[]=>qD _
 | n+1,x::H=>by
  have:=Uc n H
  simp only [List.take_succ_cons,mxs];omega
theorem Qeb {base r:Nat} {H:Heap} (h:mxs H=0):mxs (gc base r H)=0:=by
 have:=Uc (max base (max r (mxs H))) H
 unfold gc;omega
theorem WI:∀(A B:Heap),mxs (A++B)=max (mxs A) (mxs B)
 | [],B=>by simp [mxs]
 | x::A,B=>by simp only [List.cons_append,mxs,WI A B];omega
theorem SM:∀{H:Heap} {b:Nat} {B:Blk},mxs H=0→B.mx=0→mxs (H.set b B)=0
 | [],_,_,_,_=>rfl
 | x::H,0,B,h,hB=>by
  simp only [mxs] at h
  show max B.mx (mxs H)=0
  omega
 | x::H,b+1,B,h,hB=>by
  simp only [mxs] at h
  have:=SM (H:=H) (b:=b) (B:=B) (by omega) hB
  show max x.mx (mxs (H.set b B))=0
  omega
end Go.Proofs.Ytiejmoglooaalaa
end
section
namespace Go.HL.So
variable {α:Type} [Inhabited α]
set_option linter.unusedSectionVars false
open Go.Proofs.Try renaming prog → Tp
open Go.HL.HV renaming undef → Ud
abbrev at_ (l:List α) (i:Nat):α:=l.getD i default
def swp (l:List α) (i j:Nat):List α:=(l.set i (at_ l j)).set j (at_ l i)
theorem swp_len (l:List α) (i j:Nat):(swp l i j).length=l.length:=by simp [swp]
theorem Qec (l:List α) (i k:Nat) (v:α) (hi:i<l.length):at_ (l.set i v) k=if i=k then v else at_ l k:=by
 simp only [at_,qF,List.getElem?_set,hi]
 split
 ·rename_i e;subst e;simp
 ·rfl
theorem ZF {l:List α} {i j:Nat} (hi:i<l.length) (hj:j<l.length) (k:Nat):at_ (swp l i j) k=if k=j then at_ l i else if k=i then at_ l j else at_ l k:=by
 unfold swp
 rw [Qec (l.set i (at_ l j)) j k (at_ l i) (by simpa using hj),Qec l i k (at_ l j) hi]
 by_cases e:j=k
 ·subst e;simp
 ·have e':¬k=j:=fun h=>e h.symm
  rw [if_neg e,if_neg e']
  by_cases e2:i=k
  ·subst e2;simp
  ·have e2':¬k=i:=fun h=>e2 h.symm
   rw [if_neg e2,if_neg e2']
theorem Qed {l:List α} {i j:Nat} (hi:i<l.length) (hj:j<l.length):(swp l i j).Perm l:=by
 have h:=Array.swap_perm (xs:=l.toArray) (i:=i) (j:=j) (by simpa using hi) (by simpa using hj)
 have h2:=h.toList
 rw [Array.toList_swap] at h2
 simpa [swp,at_,qF,qC hi,qC hj] using h2
inductive Sw (a b:Nat) (l:List α):List α→Prop
 | refl:Sw a b l l
 | step {l':List α} {i j:Nat}:Sw a b l l'→a≤i→i<b→a≤j→j<b→Sw a b l (swp l' i j)
theorem Sw.len {a b:Nat} {l l':List α} (h:Sw a b l l'):l'.length=l.length:=by
 induction h with
 | refl=>rfl
 | step h1 _ _ _ _ ih=>rw [swp_len,ih]
theorem Sw.trans {a b:Nat} {l l' l'':List α} (h:Sw a b l l') (h':Sw a b l' l''):Sw a b l l'':=by
 induction h' with
 | refl=>exact h
 | step _ h1 h2 h3 h4 ih=>exact ih.step h1 h2 h3 h4
theorem Sw.one {a b i j:Nat} {l:List α} (h1:a≤i) (h2:i<b) (h3:a≤j) (h4:j<b):Sw a b l (swp l i j):=Sw.refl.step h1 h2 h3 h4
theorem Sw.mono {a b a' b':Nat} {l l':List α} (h:Sw a b l l') (ha:a'≤a) (hb:b≤b'):Sw a' b' l l':=by
 induction h with
 | refl=>exact .refl
 | step _ h1 h2 h3 h4 ih=>exact ih.step (by omega) (by omega) (by omega) (by omega)
theorem Sw.perm {a b:Nat} {l l':List α} (h:Sw a b l l') (hb:b≤l.length):l'.Perm l:=by
 induction h with
 | refl=>exact List.Perm.refl _
 | step h1 h2 h3 h4 h5 ih=>exact (Qed (by rw [h1.len];omega) (by rw [h1.len];omega)).trans ih
theorem Sw.out {a b:Nat} {l l':List α} (h:Sw a b l l') (hb:b≤l.length) {k:Nat} (hk:k<a∨b≤k):at_ l' k=at_ l k:=by
 induction h with
 | refl=>rfl
 | step h1 h2 h3 h4 h5 ih=>rw [ZF (by rw [h1.len];omega) (by rw [h1.len];omega),if_neg (by omega),if_neg (by omega),ih]
theorem Sw.all {a b:Nat} {l l':List α} (h:Sw a b l l') (hb:b≤l.length) {Q:α→Prop} {lo hi:Nat} (hlo:lo≤a) (hhi:b≤hi) (hQ:∀i,lo≤i→i<hi→Q (at_ l i)):∀i,lo≤i→i<hi→Q (at_ l' i):=by
 induction h with
 | refl=>exact hQ
 | step h1 h2 h3 h4 h5 ih =>
  intro k hk1 hk2
  rw [ZF (by rw [h1.len];omega) (by rw [h1.len];omega)]
  split
  ·exact ih _ (by omega) (by omega)
  ·split
   ·exact ih _ (by omega) (by omega)
   ·exact ih _ hk1 hk2
theorem Sw.mem {a b:Nat} {l l':List α} (h:Sw a b l l') (hb:b≤l.length) {Q:α→Prop} (hQ:∀x∈l,Q x):∀x∈l',Q x:=fun x hx=>hQ x ((h.perm hb).mem_iff.1 hx)
structure Lin (lt:α→α→Prop):Prop where
 tr:∀x y z,¬lt y x→¬lt z y→¬lt z x
 asy:∀x y,lt x y→¬lt y x
def QQ (lt:α→α→Prop) (a b:Nat) (l:List α):Prop:=∀i j,a≤i→i<j→j<b→¬lt (at_ l j) (at_ l i)
section
variable {lt:α→α→Prop} (hL:Lin lt)
include hL
theorem Lin.rf (x:α):¬lt x x:=fun h=>hL.asy x x h h
def SN (lt:α→α→Prop) (a i j:Nat) (l:List α):Prop:=∀p q,a≤p→p<q→q<i→q≠j→¬lt (at_ l q) (at_ l p)
omit hL in
theorem XK {a i:Nat} {l:List α} (h:QQ lt a i l):SN lt a (i+1) i l:=fun p q h1 h2 h3 h4=>h p q h1 h2 (by omega)
theorem Yz {a i j:Nat} {l:List α} (hi:i≤l.length) (hj:j<i) (ha:a<j) (h:SN lt a i j l) (hc:lt (at_ l j) (at_ l (j-1))):SN lt a i (j-1) (swp l j (j-1)):=by
 intro p q h1 h2 h3 h4
 rw [ZF (by omega) (by omega),ZF (by omega) (by omega)]
 have hne:¬q=j-1:=h4
 rw [if_neg hne]
 by_cases eq:q=j
 ·rw [if_pos eq]
  by_cases ep:p=j-1
  ·rw [if_pos ep];exact hL.asy _ _ hc
  ·rw [if_neg ep,if_neg (by omega)]
   exact h p (j-1) h1 (by omega) (by omega) (by omega)
 ·rw [if_neg eq]
  by_cases ep:p=j-1
  ·rw [if_pos ep];exact h j q (by omega) (by omega) h3 eq
  ·rw [if_neg ep]
   by_cases ep2:p=j
   ·rw [if_pos ep2];exact h (j-1) q (by omega) (by omega) h3 eq
   ·rw [if_neg ep2];exact h p q h1 h2 h3 eq
theorem JW {a i j:Nat} {l:List α} (h:SN lt a i j l) (hc:j≤a∨¬lt (at_ l j) (at_ l (j-1))):QQ lt a i l:=by
 intro p q h1 h2 h3
 by_cases e:q=j
 ·subst e
  rcases hc with hc | hc
  ·omega
  ·by_cases ep:p=q-1
   ·subst ep;exact hc
   ·exact hL.tr _ _ _ (h p (q-1) h1 (by omega) (by omega) (by omega)) hc
 ·exact h p q h1 h2 h3 e
def Hp (lt:α→α→Prop) (fi lo hi:Nat) (l:List α):Prop:=∀k c,lo≤k→(c=2*k+1∨c=2*k+2)→c<hi→¬lt (at_ l (fi+k)) (at_ l (fi+c))
def HpX (lt:α→α→Prop) (fi lo hi r:Nat) (l:List α):Prop :=
 (∀k c,lo≤k→k≠r→(c=2*k+1∨c=2*k+2)→c<hi→¬lt (at_ l (fi+k)) (at_ l (fi+c))) ∧
 (∀k c,lo≤k→(r=2*k+1∨r=2*k+2)→(c=2*r+1∨c=2*r+2)→c<hi→¬lt (at_ l (fi+k)) (at_ l (fi+c)))
omit hL in
theorem Qc0 {fi lo hi:Nat} {l:List α} (h:Hp lt fi (lo+1) hi l):HpX lt fi lo hi lo l :=
 ⟨fun k c h1 h2 h3 h4=>h k c (by omega) h3 h4,fun k c h1 h2=>by omega⟩
theorem Yf {fi lo hi r:Nat} {l:List α} (h:HpX lt fi lo hi r l) (hr:∀c,(c=2*r+1∨c=2*r+2)→c<hi→¬lt (at_ l (fi+r)) (at_ l (fi+c))):Hp lt fi lo hi l:=by
 intro k c h1 h2 h3
 by_cases e:k=r
 ·subst e;exact hr c h2 h3
 ·exact h.1 k c h1 e h2 h3
theorem Qee {fi lo hi r c:Nat} {l:List α} (hb:fi+hi≤l.length) (h:HpX lt fi lo hi r l) (hr:lo≤r) (hc:c=2*r+1∨c=2*r+2) (hch:c<hi) (hm:∀c',(c'=2*r+1∨c'=2*r+2)→c'<hi→¬lt (at_ l (fi+c)) (at_ l (fi+c'))) (hlt:lt (at_ l (fi+r)) (at_ l (fi+c))) :
  HpX lt fi lo hi c (swp l (fi+r) (fi+c)):=by
 have hsw:∀k,at_ (swp l (fi+r) (fi+c)) (fi+k)=if k=c then at_ l (fi+r) else if k=r then at_ l (fi+c) else at_ l (fi+k):=fun k=>by
  rw [ZF (by omega) (by omega)]
  by_cases e:k=c
  ·subst e;simp
  ·rw [if_neg (by omega),if_neg e]
   by_cases e2:k=r
   ·subst e2;simp
   ·rw [if_neg (by omega),if_neg e2]
 refine ⟨fun k c' h1 h2 h3 h4=>?_,fun k c' h1 h2 h3 h4=>?_⟩
 ·rw [hsw,hsw,if_neg h2]
  by_cases ek:k=r
  ·rw [if_pos ek]
   subst ek
   by_cases ec:c'=c
   ·rw [if_pos ec];exact hL.asy _ _ hlt
   ·rw [if_neg ec,if_neg (by omega)];exact hm c' h3 h4
  ·rw [if_neg ek,if_neg (by omega)]
   by_cases ec:c'=r
   ·rw [if_pos ec]
    exact h.2 k c h1 (by omega) hc hch
   ·rw [if_neg ec];exact h.1 k c' h1 ek h3 h4
 ·have hk:k=r:=by omega
  subst hk
  rw [hsw,hsw,if_neg (by omega),if_pos rfl,if_neg (by omega),if_neg (by omega)]
  exact h.1 c c' (by omega) (by omega) h3 h4
theorem QgA {fi hi:Nat} {l:List α} (h:Hp lt fi 0 hi l):∀(m k:Nat),k≤m→k<hi→¬lt (at_ l fi) (at_ l (fi+k)):=by
 intro m
 induction m with
 | zero =>
  intro k hk _
  have:k=0:=by omega
  subst this
  exact hL.rf _
 | succ m ih =>
  intro k hk hlt
  by_cases e:k=0
  ·subst e;exact hL.rf _
  ·have h1:=ih ((k-1)/2) (by omega) (by omega)
   have h2:=h ((k-1)/2) k (qI _) (by omega) hlt
   exact fun h3=>by
    exact hL.tr _ _ _ h2 h1 h3
def QbK (lt:α→α→Prop) (fi hi m:Nat) (l:List α):Prop:=Hp lt fi 0 m l∧(∀p q,m≤p→p<q→q<hi→¬lt (at_ l (fi+q)) (at_ l (fi+p)))∧∀p q,p<m→m≤q→q<hi→¬lt (at_ l (fi+q)) (at_ l (fi+p))
theorem QgB {fi hi m:Nat} {l:List α} (hb:fi+hi≤l.length) (hm:m+1≤hi) (h:QbK lt fi hi (m+1) l) :
  Hp lt fi 1 m (swp l fi (fi+m))∧(∀p q,m≤p→p<q→q<hi→¬lt (at_ (swp l fi (fi+m)) (fi+q)) (at_ (swp l fi (fi+m)) (fi+p)))∧∀p q,p<m→m≤q→q<hi→¬lt (at_ (swp l fi (fi+m)) (fi+q)) (at_ (swp l fi (fi+m)) (fi+p)):=by
 obtain ⟨h1,h2,h3⟩:=h
 have hsw:∀k,at_ (swp l fi (fi+m)) (fi+k)=if k=m then at_ l fi else if k=0 then at_ l (fi+m) else at_ l (fi+k):=fun k=>by
  rw [ZF (by omega) (by omega)]
  by_cases e:k=m
  ·subst e;simp
  ·rw [if_neg (by omega),if_neg e]
   by_cases e2:k=0
   ·subst e2;simp
   ·rw [if_neg (by omega),if_neg e2]
 refine ⟨fun k c q1 q2 q3=>?_,fun p q q1 q2 q3=>?_,fun p q q1 q2 q3=>?_⟩
 ·rw [hsw,hsw,if_neg (by omega),if_neg (by omega),if_neg (by omega),if_neg (by omega)]
  exact h1 k c (by omega) q2 (by omega)
 ·rw [hsw q,if_neg (by omega),if_neg (by omega),hsw]
  by_cases e:p=m
  ·rw [if_pos e]
   have:=h3 0 q (by omega) (by omega) q3
   simpa using this
  ·rw [if_neg e,if_neg (by omega)];exact h2 p q (by omega) q2 q3
 ·rw [hsw p,if_neg (by omega),hsw]
  have key:∀x,(∃k,k<m+1∧x=at_ l (fi+k))→¬lt (at_ l fi) x:=by
   rintro x ⟨k,hk,rfl⟩
   exact QgA hL h1 k k (qD _) hk
  have hx:∃k,k<m+1∧(if p=0 then at_ l (fi+m) else at_ l (fi+p))=at_ l (fi+k):=by
   by_cases e:p=0
   ·exact ⟨m,by omega,by rw [if_pos e]⟩
   ·exact ⟨p,by omega,by rw [if_neg e]⟩
  by_cases e:q=m
  ·rw [if_pos e];exact key _ hx
  ·rw [if_neg e,if_neg (by omega)]
   obtain ⟨k,hk,e2⟩:=hx
   rw [e2]
   exact h3 k q hk (by omega) q3
end
end Go.HL.So
end
section
open Go Go.HL Go.HL.So
namespace Go.Proofs.Ytiejmoglooaalaa
set_option linter.unusedSectionVars false
open Go.Proofs.Try renaming prog → Tp
open Go.HL.HV renaming undef → Ud
def ltK (l:List St) (i j:Int):Prop:=wOf l i<wOf l j∨(wOf l i=wOf l j∧i<j)
instance (l:List St) (i j:Int):Decidable (ltK l i j):=inferInstanceAs (Decidable (_∨_))
theorem QbL (l:List St):Lin (ltK l):=⟨fun x y z h1 h2=>by unfold ltK at *;omega,fun x y h=>by unfold ltK at *;omega⟩
theorem QgC {l:List St} {i j:Int} (h:i≠j) (hn:¬ltK l j i):ltK l i j:=by unfold ltK at *;omega
def leW (l:List St) (i:Int) (x:Int):Bool:=decide (wOf l x≤wOf l i)
def Qef (l:List St) (out:List Int) (i:Int):List Int:=out.takeWhile (leW l i)++i::out.dropWhile (leW l i)
def Qc1 (l:List St):Nat→List Int
 | 0=>[]
 | k+1=>Qef l (Qc1 l k) (k:Int)
def Qh (l:List St):List Int:=Qc1 l l.length
theorem Qc2 (l:List St) (out:List Int) (i:Int):(Qef l out i).Perm (out++[i]):=by
 have h:(Qef l out i).Perm (i::(out.takeWhile (leW l i)++out.dropWhile (leW l i))):=List.perm_middle
 rw [qS] at h
 exact h.trans (List.perm_append_singleton i out).symm
theorem KK (l:List St):∀k,(Qc1 l k).Perm (Qg k)
 | 0=>List.Perm.refl _
 | k+1=>by
  rw [Qc1,Wr]
  exact (Qc2 l _ _).trans ((KK l k).append_right _)
theorem startT_mem {k:Nat} {x:Int}:x∈Qg k↔0≤x∧x<(k:Int):=by
 simp only [Qg,List.mem_map,List.mem_range]
 constructor
 ·rintro ⟨i,hi,rfl⟩;omega
 ·rintro ⟨h1,h2⟩;exact ⟨x.toNat,by omega,by omega⟩
theorem Zn (k:Nat):(Qg k).Nodup:=List.pairwise_map.2 (List.Pairwise.imp (fun {a b} h=>by omega) (List.nodup_range (n:=k)))
theorem ordN_mem {l:List St} {k:Nat} {x:Int}:x∈Qc1 l k↔0≤x∧x<(k:Int):=by rw [(KK l k).mem_iff,startT_mem]
theorem Xr {α:Type} {p:α→Bool}:∀{l:List α} {x:α},x∈l.takeWhile p→p x=true∧x∈l
 | a::l,x,h=>by
  rw [List.takeWhile_cons] at h
  split at h
  ·rename_i ha
   rcases List.mem_cons.1 h with rfl | h
   ·exact ⟨ha,by simp⟩
   ·obtain ⟨h1,h2⟩:=Xr h
    exact ⟨h1,by simp [h2]⟩
  ·cases h
theorem SO {l:List St} {out:List Int} {i:Int} (hs:out.Pairwise (ltK l)) (hi:∀x∈out,x<i):(Qef l out i).Pairwise (ltK l):=by
 unfold Qef
 have hs2:=hs
 rw [← qS (p:=leW l i) (l:=out),List.pairwise_append] at hs2
 obtain ⟨h1,h2,h3⟩:=hs2
 have drop:∀y∈out.dropWhile (leW l i),wOf l i<wOf l y:=by
  cases hd:out.dropWhile (leW l i) with
  | nil=>simp
  | cons z r =>
   rw [hd] at h2
   have hz:leW l i z=false:=by
    have:=List.head?_dropWhile_not (leW l i) out
    rw [hd] at this
    simpa using this
   have hz:=of_decide_eq_false hz
   intro y hy
   rcases List.mem_cons.1 hy with rfl | hy
   ·omega
   ·have:=(List.pairwise_cons.1 h2).1 y hy
    unfold ltK at this;omega
 rw [List.pairwise_append]
 refine ⟨h1,List.pairwise_cons.2 ⟨fun y hy=>.inl (drop y hy),h2⟩,fun x hx y hy=>?_⟩
 rcases List.mem_cons.1 hy with rfl | hy
 ·obtain ⟨k1,k2⟩:=Xr hx
  have:=of_decide_eq_true k1
  have:=hi x k2
  unfold ltK;omega
 ·exact h3 x hx y hy
theorem Ki (l:List St):∀k,(Qc1 l k).Pairwise (ltK l)
 | 0=>List.Pairwise.nil
 | k+1=>SO (Ki l k) fun x hx=>(ordN_mem.1 hx).2
theorem Dq {α:Type} {lt:α→α→Prop} (asy:∀x y,lt x y→¬lt y x):∀{l m:List α},l.Pairwise lt→m.Pairwise lt→(∀x,x∈l↔x∈m)→l=m
 | [],[],_,_,_=>rfl
 | [],y::m,_,_,h=>absurd ((h y).2 (by simp)) (by simp)
 | x::l,[],_,_,h=>absurd ((h x).1 (by simp)) (by simp)
 | x::l,y::m,hl,hm,h=>by
  obtain ⟨l1,l2⟩:=List.pairwise_cons.1 hl
  obtain ⟨m1,m2⟩:=List.pairwise_cons.1 hm
  have e:x=y:=by
   rcases List.mem_cons.1 ((h x).1 (by simp)) with e | e
   ·exact e
   ·have a1:=m1 x e
    rcases List.mem_cons.1 ((h y).2 (by simp)) with e2 | e2
    ·exact e2.symm
    ·exact absurd (l1 y e2) (asy _ _ a1)
  subst e
  rw [Dq asy l2 m2 fun z=>?_]
  constructor
  ·intro hz
   rcases List.mem_cons.1 ((h z).1 (List.mem_cons_of_mem _ hz)) with e | e
   ·subst e;exact absurd (l1 z hz) (asy _ _ (l1 z hz))
   ·exact e
  ·intro hz
   rcases List.mem_cons.1 ((h z).2 (List.mem_cons_of_mem _ hz)) with e | e
   ·subst e;exact absurd (m1 z hz) (asy _ _ (m1 z hz))
   ·exact e
theorem QaN {l:List St} {l':List Int} (hp:l'.Perm (Qg l.length)) (hs:QQ (ltK l) 0 l'.length l'):l'=Qh l:=by
 have hnd:l'.Nodup:=hp.nodup_iff.2 (Zn _)
 refine Dq (fun x y h=>(QbL l).asy x y h) ?_ (Ki l l.length) fun x=>by rw [hp.mem_iff,startT_mem,Qh,ordN_mem]
 rw [List.pairwise_iff_getElem]
 intro i j hi hj hij
 have e:∀k,(hk:k<l'.length)→at_ l' k=l'[k]:=fun k hk=>by simp [at_,qF,qC hk]
 have:=hs i j (qI _) hij hj
 rw [e i hi,e j hj] at this
 exact QgC (List.pairwise_iff_getElem.1 hnd i j hi hj hij) this
theorem SP (l:List St):(Qh l).length=l.length:=by rw [Qh,(KK l _).length_eq,QU]
theorem ordT_mem {l:List St} {x:Int}:x∈Qh l↔0≤x∧x<(l.length:Int):=ordN_mem
end Go.Proofs.Ytiejmoglooaalaa
end
section
open Go Go.HL
namespace Go.Proofs.Ytiejmoglooaalaa
set_option maxRecDepth 100000
set_option linter.unusedSectionVars false
open Go.Proofs.Try renaming prog → Tp
open Go.HL.HV renaming undef → Ud
section
variable {F:FuncId→Option (List HV→Option HV)}
noncomputable def B40:Code:=Try.f40.body.getD .skip
abbrev Gz (v0 v1 v2 v3 v4 v5 v7 v10 v11 v12:HV):Env:=[(0,v0),(1,v1),(2,v2),(3,v3),(4,v4),(5,v5),(7,v7),(10,v10),(11,v11),(12,v12)]
end
abbrev e40 (n:Int) (ls:List HV) (u4 u5 u6 u7 u8 u9:HV):Env:=Gz (.N n ls) (.q 0) (.imm .lit 1 []) (.bool false) u4 u5 u6 u7 u8 u9
section
variable {F:FuncId→Option (List HV→Option HV)}
variable (N:Nat) (n:Int) (ls:List HV)
include N n ls
theorem QkA:RU F 40 2 B40 [(0,.N n ls)] [] .normal (e40 n ls Ud Ud Ud Ud Ud Ud) [.arr 2 [.N n ls] true 0] :=
 hx N 60 []
end
section
variable {F:FuncId→Option (List HV→Option HV)}
variable (N:Nat) (n:Int) (ls:List HV)
include N n ls
theorem QkB (H:Heap) {H0:Heap} (g0:CN F N 53 [] H (.q 1) H0) (y4 y5 y7 y10 y11 y12:HV:=Ud): RU F 40 6 B40 (e40 n ls y4 y5 y7 y10 y11 y12) H .normal (e40 n ls (.q 1) y5 y7 y10 y11 y12) H0 :=
 hx N 60 [jC 1 0 g0]
theorem QkC (us:List HV) (y5 y7 y10 y11 y12:HV:=Ud): RU F 40 14 B40 (e40 n ls (.q 1) y5 y7 y10 y11 y12) [.arr 2 [.N n ls] true 0,.arr 16 [.agg us] true 0] .normal (e40 n ls (.q 1) (.s 2 0) y7 y10 y11 y12) [.arr 2 [.N n ls] true 0,.arr 16 [.agg us] true 0,.b []] :=
 hx N 60 []
theorem QkD (H:Heap) (c m:Nat) {H0:Heap} (g0:LD H 66 (.q 0) (.N n ls)) (g1:CM F 54 [.N n ls] H (.s 3 m) H0) (y7 y10 y11 y12:HV:=Ud): RU F 40 60 B40 (e40 n ls (.q 1) (.s 2 c) y7 y10 y11 y12) H .normal (e40 n ls (.q 1) (.s 2 c) y7 (.s 3 m) (.n m) (.i 0)) H0 :=
 hx N 60 [jO 3 0 H g0,jD 3 1 g1]
theorem QkE (H:Heap) (c m j k:Nat) (a b w:Int) {H0:Heap} {H1:Heap} {v0:HV} (g0:(j:Int)<(m:Int)) (g1:IS 24 3 m j) (g2:LD H 3 (.ptr 3 j 0 m) (.n k)) (g3:LD H 22 (.ptr 0 0 1 1) (.g ls)) (g4:IX 22 (.g ls) (.n k) (.vptr (.agg [.i a,.i b,.i w]))) (g5:LD H 22 (.ptr 0 0 1 1) (.g ls)) (g6:IX 22 (.g ls) (.n k) (.vptr (.agg [.i a,.i b,.i w]))) (g7:CN F N 56 [.q 1,.i a,.i b] H (.bool true) H0) (g8:Zu H0 1 8 (.s 2 c) [.n k]=some (v0,H1)) (y7:HV:=Ud): RU F 40 244 B40 (e40 n ls (.q 1) (.s 2 c) y7 (.s 3 m) (.n m) (.n j)) H .normal (e40 n ls (.q 1) v0 (.n k) (.s 3 m) (.n m) (.i (qA.wrap ((j:Int)+1)))) H1 :=
 hx N 60 [jT 4 0 H g0,jO 5 0 H g1,jO 5 1 H g2,jO 6 2 H g3,jO 6 4 H g4,jO 6 8 H g5,jO 6 10 H g6,jC 6 13 g7,jR 7 3 g8]
theorem QkF (H:Heap) (c m j k:Nat) (a b w:Int) {H0:Heap} (g0:(j:Int)<(m:Int)) (g1:IS 24 3 m j) (g2:LD H 3 (.ptr 3 j 0 m) (.n k)) (g3:LD H 22 (.ptr 0 0 1 1) (.g ls)) (g4:IX 22 (.g ls) (.n k) (.vptr (.agg [.i a,.i b,.i w]))) (g5:LD H 22 (.ptr 0 0 1 1) (.g ls)) (g6:IX 22 (.g ls) (.n k) (.vptr (.agg [.i a,.i b,.i w]))) (g7:CN F N 56 [.q 1,.i a,.i b] H (.bool false) H0) (y7:HV:=Ud): RU F 40 244 B40 (e40 n ls (.q 1) (.s 2 c) y7 (.s 3 m) (.n m) (.n j)) H .normal (e40 n ls (.q 1) (.s 2 c) (.n k) (.s 3 m) (.n m) (.i (qA.wrap ((j:Int)+1)))) H0 :=
 hx N 60 [jT 4 0 H g0,jO 5 0 H g1,jO 5 1 H g2,jO 6 2 H g3,jO 6 4 H g4,jO 6 8 H g5,jO 6 10 H g6,jC 6 13 g7]
theorem QkG (H:Heap) (c m j k:Nat) (a b w:Int) (g0:¬((j:Int)<(m:Int))) (y7:HV:=Ud): RU F 40 244 B40 (e40 n ls (.q 1) (.s 2 c) y7 (.s 3 m) (.n m) (.n j)) H (.exit 0) (e40 n ls (.q 1) (.s 2 c) y7 (.s 3 m) (.n m) (.n j)) H :=
 hx N 60 [jF 4 0 H g0]
theorem QkH (H:Heap) (c m:Nat) (g0:LD H 3 (.q 0) (.i n)) (g1:(c:Int)=qA.wrap (n-1)) (y7 y10 y11 y12:HV:=Ud): RU F 40 31 B40 (e40 n ls (.q 1) (.s 2 c) y7 y10 y11 y12) H .ret (Gz (.N n ls) (.q 0) (.s 2 c) (.bool true) (.q 1) (.s 2 c) y7 y10 y11 y12) H :=
 hx N 60 [jO 9 4 H g0,jT 9 6 H g1]
theorem QkI (H:Heap) (c m:Nat) (g0:LD H 3 (.q 0) (.i n)) (g1:¬((c:Int)=qA.wrap (n-1))) (y7 y10 y11 y12:HV:=Ud): RU F 40 31 B40 (e40 n ls (.q 1) (.s 2 c) y7 y10 y11 y12) H .ret (Gz (.N n ls) (.q 0) (.s 2 c) (.bool false) (.q 1) (.s 2 c) y7 y10 y11 y12) H :=
 hx N 60 [jO 9 4 H g0,jF 9 6 H g1]
end
section
variable {F:FuncId→Option (List HV→Option HV)}
noncomputable def B57:Code:=Try.f57.body.getD .skip
abbrev Ze (v0 v1 v2 v4 v5 v6 v7 v9 v11 v12 v13:HV):Env:=[(0,v0),(1,v1),(2,v2),(4,v4),(5,v5),(6,v6),(7,v7),(9,v9),(11,v11),(12,v12),(13,v13)]
end
abbrev e57 (n:Int) (ls:List HV) (la:List HV) (nb:Nat) (pb:Nat) (u3 u6 u7 u8 u9 u10:HV):Env:=Ze (.N n ls) (.a la) (.q nb) u3 (.i 0) (.q pb) u6 u7 u8 u9 u10
section
variable {F:FuncId→Option (List HV→Option HV)}
variable (N:Nat) (n:Int) (ls:List HV) (la:List HV) (H:Heap)
include N n ls la H
theorem QkJ {a0:HV} {H0:Heap} (g0:some (Q4 (.N n ls) H)=some (a0,H0)): RU F 57 2 B57 [(0,.N n ls),(1,.a la)] H .normal (Ze (.N n ls) (.a la) a0 Ud (.i 0) Ud Ud Ud Ud Ud Ud) H0 :=
 hx N 60 [jR 0 0 g0]
end
section
variable {F:FuncId→Option (List HV→Option HV)}
variable (N:Nat) (n:Int) (ls:List HV) (la:List HV) (H:Heap)
include N n ls la H
theorem QkK (nb pb:Nat) {H0:Heap} (g0:CN F N 53 [] H (.q pb) H0) (y4 y6 y7 y9 y11 y12 y13:HV:=Ud): RU F 57 6 B57 (Ze (.N n ls) (.a la) (.q nb) y4 (.i 0) y6 y7 y9 y11 y12 y13) H .normal (e57 n ls la nb pb y4 y7 y9 y11 y12 y13) H0 :=
 hx N 60 [jC 1 0 g0]
theorem QkL (nb pb:Nat) (y4 y7 y9 y11 y12 y13:HV:=Ud): RU F 57 14 B57 (e57 n ls la nb pb y4 y7 y9 y11 y12 y13) H .normal (e57 n ls la nb pb y4 (.i 0) y9 y11 y12 y13) H :=
 hx N 60 []
theorem QkM (nb pb c:Nat) (y4 y9 y11 y12 y13:HV:=Ud): RU F 57 60 B57 (e57 n ls la nb pb y4 (.n c) y9 y11 y12 y13) H .normal (e57 n ls la nb pb y4 (.n c) y9 (.a la) (.i (la.length:Int)) (.i 0)) H :=
 hx N 60 []
theorem QkN (nb pb c m j k:Nat) (a b w:Int) {H0:Heap} (g0:(j:Int)<(m:Int)) (g1:IX 24 (.a la) (.n j) (.vptr (.n k))) (g2:LD H 22 (.ptr nb 0 1 1) (.g ls)) (g3:IX 22 (.g ls) (.n k) (.vptr (.agg [.i a,.i b,.i w]))) (g4:LD H 22 (.ptr nb 0 1 1) (.g ls)) (g5:IX 22 (.g ls) (.n k) (.vptr (.agg [.i a,.i b,.i w]))) (g6:CN F N 56 [.q pb,.i a,.i b] H (.bool true) H0) (y4 y9:HV:=Ud): RU F 57 244 B57 (e57 n ls la nb pb y4 (.n c) y9 (.a la) (.n m) (.n j)) H .normal (e57 n ls la nb pb y4 (.i (qA.wrap ((c:Int)+1))) (.n k) (.a la) (.n m) (.i (qA.wrap ((j:Int)+1)))) H0 :=
 hx N 60 [jT 4 0 H g0,jO 5 0 H g1,jO 6 2 H g2,jO 6 4 H g3,jO 6 8 H g4,jO 6 10 H g5,jC 6 13 g6]
theorem QkO (nb pb c m j k:Nat) (a b w:Int) {H0:Heap} (g0:(j:Int)<(m:Int)) (g1:IX 24 (.a la) (.n j) (.vptr (.n k))) (g2:LD H 22 (.ptr nb 0 1 1) (.g ls)) (g3:IX 22 (.g ls) (.n k) (.vptr (.agg [.i a,.i b,.i w]))) (g4:LD H 22 (.ptr nb 0 1 1) (.g ls)) (g5:IX 22 (.g ls) (.n k) (.vptr (.agg [.i a,.i b,.i w]))) (g6:CN F N 56 [.q pb,.i a,.i b] H (.bool false) H0) (y4 y9:HV:=Ud): RU F 57 244 B57 (e57 n ls la nb pb y4 (.n c) y9 (.a la) (.n m) (.n j)) H .normal (e57 n ls la nb pb y4 (.n c) (.n k) (.a la) (.n m) (.i (qA.wrap ((j:Int)+1)))) H0 :=
 hx N 60 [jT 4 0 H g0,jO 5 0 H g1,jO 6 2 H g2,jO 6 4 H g3,jO 6 8 H g4,jO 6 10 H g5,jC 6 13 g6]
theorem QkP (nb pb c m j k:Nat) (a b w:Int) (g0:¬((j:Int)<(m:Int))) (y4 y9:HV:=Ud): RU F 57 244 B57 (e57 n ls la nb pb y4 (.n c) y9 (.a la) (.n m) (.n j)) H (.exit 0) (e57 n ls la nb pb y4 (.n c) y9 (.a la) (.n m) (.n j)) H :=
 hx N 60 [jF 4 0 H g0]
theorem QkQ (nb pb c:Nat) (y4 y9 y11 y12 y13:HV:=Ud): RU F 57 31 B57 (e57 n ls la nb pb y4 (.n c) y9 y11 y12 y13) H .ret (Ze (.N n ls) (.a la) (.q nb) (.q pb) (.n c) (.q pb) (.n c) y9 y11 y12 y13) H :=
 hx N 60 []
end
section
variable {F:FuncId→Option (List HV→Option HV)}
variable (N:Nat) (n:Int) (ls:List HV) (lb q tt:Nat) (cap:Option Nat) (H:Heap)
include N n ls lb q tt cap H
theorem QkR {a0:HV} {H0:Heap} (g0:some (Q4 (.N n ls) H)=some (a0,H0)): RU F 57 2 B57 [(0,.N n ls),(1,.sl lb 0 q cap tt 1)] H .normal (Ze (.N n ls) (.sl lb 0 q cap tt 1) a0 Ud (.i 0) Ud Ud Ud Ud Ud Ud) H0 :=
 hx N 60 [jR 0 0 g0]
theorem QkS (nb pb:Nat) {H0:Heap} (g0:CN F N 53 [] H (.q pb) H0) (y4 y6 y7 y9 y11 y12 y13:HV:=Ud): RU F 57 6 B57 (Ze (.N n ls) (.sl lb 0 q cap tt 1) (.q nb) y4 (.i 0) y6 y7 y9 y11 y12 y13) H .normal (Ze (.N n ls) (.sl lb 0 q cap tt 1) (.q nb) y4 (.i 0) (.q pb) y7 y9 y11 y12 y13) H0 :=
 hx N 60 [jC 1 0 g0]
theorem QkT (nb pb:Nat) (y4 y7 y9 y11 y12 y13:HV:=Ud): RU F 57 14 B57 (Ze (.N n ls) (.sl lb 0 q cap tt 1) (.q nb) y4 (.i 0) (.q pb) y7 y9 y11 y12 y13) H .normal (Ze (.N n ls) (.sl lb 0 q cap tt 1) (.q nb) y4 (.i 0) (.q pb) (.i 0) y9 y11 y12 y13) H :=
 hx N 60 []
theorem QkU (nb pb c:Nat) (y4 y9 y11 y12 y13:HV:=Ud): RU F 57 60 B57 (Ze (.N n ls) (.sl lb 0 q cap tt 1) (.q nb) y4 (.i 0) (.q pb) (.n c) y9 y11 y12 y13) H .normal (Ze (.N n ls) (.sl lb 0 q cap tt 1) (.q nb) y4 (.i 0) (.q pb) (.n c) y9 (.sl lb 0 q cap tt 1) (.n q) (.i 0)) H :=
 hx N 60 []
theorem QkV (nb pb c m j k:Nat) (a b w:Int) {H0:Heap} (g0:(j:Int)<(m:Int)) (g1:IX 24 (.sl lb 0 q cap tt 1) (.n j) (.ptr lb j 0 tt)) (g2:LD H 3 (.ptr lb j 0 tt) (.n k)) (g3:LD H 22 (.ptr nb 0 1 1) (.g ls)) (g4:IX 22 (.g ls) (.n k) (.vptr (.agg [.i a,.i b,.i w]))) (g5:LD H 22 (.ptr nb 0 1 1) (.g ls)) (g6:IX 22 (.g ls) (.n k) (.vptr (.agg [.i a,.i b,.i w]))) (g7:CN F N 56 [.q pb,.i a,.i b] H (.bool true) H0) (y4 y9:HV:=Ud): RU F 57 244 B57 (Ze (.N n ls) (.sl lb 0 q cap tt 1) (.q nb) y4 (.i 0) (.q pb) (.n c) y9 (.sl lb 0 q cap tt 1) (.n m) (.n j)) H .normal (Ze (.N n ls) (.sl lb 0 q cap tt 1) (.q nb) y4 (.i 0) (.q pb) (.i (qA.wrap ((c:Int)+1))) (.n k) (.sl lb 0 q cap tt 1) (.n m) (.i (qA.wrap ((j:Int)+1)))) H0 :=
 hx N 60 [jT 4 0 H g0,jO 5 0 H g1,jO 5 1 H g2,jO 6 2 H g3,jO 6 4 H g4,jO 6 8 H g5,jO 6 10 H g6,jC 6 13 g7]
theorem QkW (nb pb c m j k:Nat) (a b w:Int) {H0:Heap} (g0:(j:Int)<(m:Int)) (g1:IX 24 (.sl lb 0 q cap tt 1) (.n j) (.ptr lb j 0 tt)) (g2:LD H 3 (.ptr lb j 0 tt) (.n k)) (g3:LD H 22 (.ptr nb 0 1 1) (.g ls)) (g4:IX 22 (.g ls) (.n k) (.vptr (.agg [.i a,.i b,.i w]))) (g5:LD H 22 (.ptr nb 0 1 1) (.g ls)) (g6:IX 22 (.g ls) (.n k) (.vptr (.agg [.i a,.i b,.i w]))) (g7:CN F N 56 [.q pb,.i a,.i b] H (.bool false) H0) (y4 y9:HV:=Ud): RU F 57 244 B57 (Ze (.N n ls) (.sl lb 0 q cap tt 1) (.q nb) y4 (.i 0) (.q pb) (.n c) y9 (.sl lb 0 q cap tt 1) (.n m) (.n j)) H .normal (Ze (.N n ls) (.sl lb 0 q cap tt 1) (.q nb) y4 (.i 0) (.q pb) (.n c) (.n k) (.sl lb 0 q cap tt 1) (.n m) (.i (qA.wrap ((j:Int)+1)))) H0 :=
 hx N 60 [jT 4 0 H g0,jO 5 0 H g1,jO 5 1 H g2,jO 6 2 H g3,jO 6 4 H g4,jO 6 8 H g5,jO 6 10 H g6,jC 6 13 g7]
theorem QkX (nb pb c m j k:Nat) (a b w:Int) (g0:¬((j:Int)<(m:Int))) (y4 y9:HV:=Ud): RU F 57 244 B57 (Ze (.N n ls) (.sl lb 0 q cap tt 1) (.q nb) y4 (.i 0) (.q pb) (.n c) y9 (.sl lb 0 q cap tt 1) (.n m) (.n j)) H (.exit 0) (Ze (.N n ls) (.sl lb 0 q cap tt 1) (.q nb) y4 (.i 0) (.q pb) (.n c) y9 (.sl lb 0 q cap tt 1) (.n m) (.n j)) H :=
 hx N 60 [jF 4 0 H g0]
theorem QkY (nb pb c:Nat) (y4 y9 y11 y12 y13:HV:=Ud): RU F 57 31 B57 (Ze (.N n ls) (.sl lb 0 q cap tt 1) (.q nb) y4 (.i 0) (.q pb) (.n c) y9 y11 y12 y13) H .ret (Ze (.N n ls) (.sl lb 0 q cap tt 1) (.q nb) (.q pb) (.n c) (.q pb) (.n c) y9 y11 y12 y13) H :=
 hx N 60 []
end
end Go.Proofs.Ytiejmoglooaalaa
end
section
open Go Go.HL
namespace Go.Proofs.Ytiejmoglooaalaa
set_option linter.unusedSectionVars false
open Go.Proofs.Try renaming prog → Tp
open Go.HL.HV renaming undef → Ud
def QbM:List HV→Option HV:=f1 kI fun _=>some (.bool false)
def YA (x y:Int):Int:=if x<y then -1 else if y<x then 1 else 0
def Qeg:List HV→Option HV:=f2 kI kI fun x y=>some (.int .i64 (YA x y))
def QaO (a b:Int):Int:=if a≠0 then a else b
def Qeh:List HV→Option HV:=f1 kL fun l=>match l with | [a,b]=>some (.int .i64 (QaO a b)) | _=>none
def polCm:Pol:={ pol with prim:=fun g=>if g==89 then some QbM else none }
end Go.Proofs.Ytiejmoglooaalaa
end
section
open Go Go.HL
namespace Go.Proofs.Ytiejmoglooaalaa
set_option maxRecDepth 100000
set_option linter.unusedSectionVars false
open Go.Proofs.Try renaming prog → Tp
open Go.HL.HV renaming undef → Ud
noncomputable def B89:Code:=Try.f89.body.getD .skip
abbrev Qsg (v0 v2:HV):Env:=[(0,v0),(2,v2)]
theorem Qsh (x:Int) (g0:x=x): RT pol 89 (sub [] B89) [(0,.i x)] [] .ret (Qsg (.i x) (.bool false)) [] :=
 hx 0 60 [jB 1 2 [] (congrArg not (decide_eq_true g0))]
noncomputable def B71:Code:=Try.f71.body.getD .skip
abbrev Qei (v0 v1 v4 v5 v6:HV):Env:=[(0,v0),(1,v1),(4,v4),(5,v5),(6,v6)]
section
variable (x y:Int)
include x y
theorem Qsi (g0:∀kf,Qc Tp polCm (kf+1) 89 [.i x] []=some (.bool false,[])) (g1:∀kf,Qc Tp polCm (kf+1) 89 [.i y] []=some (.bool false,[])) (g2:x<y): RT polCm 71 (sub [] B71) [(0,.i x),(1,.i y)] [] .ret (Qei (.i x) (.i y) (.i (-1)) (.bool false) (.bool false)) [] :=
 hx 0 60 [jD 1 1 g0,jD 2 1 g1,jT 9 2 [] g2]
theorem Qsj (g0:∀kf,Qc Tp polCm (kf+1) 89 [.i x] []=some (.bool false,[])) (g1:∀kf,Qc Tp polCm (kf+1) 89 [.i y] []=some (.bool false,[])) (g2:¬(x<y)) (g3:y<x): RT polCm 71 (sub [] B71) [(0,.i x),(1,.i y)] [] .ret (Qei (.i x) (.i y) (.i 1) (.bool false) (.bool false)) [] :=
 hx 0 60 [jD 1 1 g0,jD 2 1 g1,jF 9 2 [] g2,jT 11 2 [] g3]
theorem Qsk (g0:∀kf,Qc Tp polCm (kf+1) 89 [.i x] []=some (.bool false,[])) (g1:∀kf,Qc Tp polCm (kf+1) 89 [.i y] []=some (.bool false,[])) (g2:¬(x<y)) (g3:¬(y<x)): RT polCm 71 (sub [] B71) [(0,.i x),(1,.i y)] [] .ret (Qei (.i x) (.i y) (.i 0) (.bool false) (.bool false)) [] :=
 hx 0 60 [jD 1 1 g0,jD 2 1 g1,jF 9 2 [] g2,jF 11 2 [] g3]
end
noncomputable def B70:Code:=Try.f70.body.getD .skip
abbrev Qej (v0 v2 v4 v5 v6 v7:HV):Env:=[(0,v0),(2,v2),(4,v4),(5,v5),(6,v6),(7,v7)]
section
variable (a b:Int)
include a b
theorem Qsl (g0:¬(a=0)): RT pol 70 (sub [] B70) [(0,.a [.i a,.i b])] [] .ret (Qej (.a [.i a,.i b]) (.i a) (.i a) (.a [.i a,.i b]) (.i 2) (.i 0)) [] :=
 hx 0 60 [jB 4 1 [] (congrArg not (decide_eq_false g0))]
theorem Qsm (g0:a=0) (g1:¬(b=0)): RT pol 70 (sub [] B70) [(0,.a [.i a,.i b])] [] .ret (Qej (.a [.i a,.i b]) (.i b) (.i b) (.a [.i a,.i b]) (.i 2) (.i 1)) [] :=
 hx 0 60 [jB 4 1 [] (congrArg not (decide_eq_true g0)),jB 4 1 [] (congrArg not (decide_eq_false g1))]
theorem Qsn (g0:a=0) (g1:b=0): RT pol 70 (sub [] B70) [(0,.a [.i a,.i b])] [] .ret (Qej (.a [.i a,.i b]) (.i 0) Ud (.a [.i a,.i b]) (.i 2) (.i 2)) [] :=
 hx 0 60 [jB 4 1 [] (congrArg not (decide_eq_true g0)),jB 4 1 [] (congrArg not (decide_eq_true g1))]
end
end Go.Proofs.Ytiejmoglooaalaa
end
section
open Go Go.HL
namespace Go.Proofs.Ytiejmoglooaalaa
set_option linter.unusedSectionVars false
open Go.Proofs.Try renaming prog → Tp
open Go.HL.HV renaming undef → Ud
theorem Qso:Try.f89.results.toList=[.tmp 2]:=by kernel_rfl
theorem Qek:QP Tp 89 QbM:=by
 refine Qp (pol:=pol) (fn:=Try.f89) (cd:=B89) Qk Xp (by kernel_rfl) (by kernel_rfl) (Zm pol.prim _ _ (by kernel_rfl)) (by kernel_rfl) ?_
 intro args res h
 obtain ⟨x,rfl,hq⟩:=XH h
 cases hq
 exact ⟨_,_,_,_,Qsh x rfl,by simp,by simp only [Qd,Qso];rfl,rfl⟩
theorem QgD (n:Nat):Qn Tp (Qc Tp polCm n):=Qy _ (fun g f h=>by
 split at h
 ·rename_i hg;cases h;rw [eq_of_beq hg];exact Qek
 ·cases h) n
theorem Qel:Try.f71.results.toList=[.tmp 4]:=by kernel_rfl
theorem Qem:QP Tp 71 Qeg:=by
 refine Qp (pol:=polCm) (fn:=Try.f71) (cd:=B71) Qk QgD (by kernel_rfl) (by kernel_rfl) (Zm polCm.prim _ _ (by kernel_rfl)) (by kernel_rfl) ?_
 intro args res h
 obtain ⟨x,y,rfl,hq⟩:=Z9 h
 cases hq
 have g0:=at1 (pol':=polCm) (g:=89) (c1:=kI) (f:=fun _=>some (.bool false)) (H:=[]) (by kernel_rfl) (ShI [] x) rfl
 have g1:=at1 (pol':=polCm) (g:=89) (c1:=kI) (f:=fun _=>some (.bool false)) (H:=[]) (by kernel_rfl) (ShI [] y) rfl
 unfold YA
 by_cases c:x<y
 ·rw [if_pos c]
  exact ⟨_,_,_,_,Qsi x y g0 g1 c,by simp,by simp only [Qd,Qel];rfl,rfl⟩
 ·rw [if_neg c]
  by_cases d:y<x
  ·rw [if_pos d]
   exact ⟨_,_,_,_,Qsj x y g0 g1 c d,by simp,by simp only [Qd,Qel];rfl,rfl⟩
  ·rw [if_neg d]
   exact ⟨_,_,_,_,Qsk x y g0 g1 c d,by simp,by simp only [Qd,Qel];rfl,rfl⟩
theorem Qen:Try.f70.results.toList=[.tmp 2]:=by kernel_rfl
theorem Qeo:QP Tp 70 Qeh:=by
 refine Qp (pol:=pol) (fn:=Try.f70) (cd:=B70) Qk Xp (by kernel_rfl) (by kernel_rfl) (Zm pol.prim _ _ (by kernel_rfl)) (by kernel_rfl) ?_
 intro args res h
 obtain ⟨l,rfl,hq⟩:=XH h
 split at hq
 case h_2=>cases hq
 rename_i a b
 cases hq
 unfold QaO
 by_cases c:a=0
 ·rw [if_neg (by simp [c])]
  by_cases d:b=0
  ·exact ⟨_,_,_,.int .i64 0,Qsn a b c d,by simp,by simp only [Qd,Qen];rfl,by rw [d];rfl⟩
  ·exact ⟨_,_,_,.int .i64 b,Qsm a b c d,by simp,by simp only [Qd,Qen];rfl,rfl⟩
 ·rw [if_pos c]
  exact ⟨_,_,_,.int .i64 a,Qsl a b c,by simp,by simp only [Qd,Qen];rfl,rfl⟩
noncomputable def QgE:HV:=match sub [1,1,1,1,0] (Try.f85.body.getD .skip) with
 | .region _ ops _=>(match ops[3]? with | some o=>(match o.op with | .index _ x _=>Qq [] x | _=>Ud) | none=>Ud)
 | _=>Ud
def bl:Nat→Nat→Nat
 | 0,_=>0
 | k+1,y=>if y=0 then 0 else 1+bl k (y/2)
noncomputable def Qsp:Bool:=(qM 256).all fun y=>(match UL Tp 9 QgE (.int .u8 (y:Int)) with | some (.int .u8 z)=>decide (z=(bl 8 y:Int)) | _=>false)&&decide (y<2 ^ bl 8 y)&&(decide (y=0)||decide (2 ^ bl 8 y≤2*y))&&decide (bl 8 y≤8)
theorem QaP:Qsp=true:=by kernel_rfl
def ZA (x:Nat):Nat:=if x<256 then bl 8 x else 8+bl 8 (x/256)
theorem Cm {y:Nat} (hy:y<256):UL Tp 9 QgE (.int .u8 (y:Int))=some (.int .u8 (bl 8 y:Int))∧y<2 ^ bl 8 y∧(0<y→2 ^ bl 8 y≤2*y)∧bl 8 y≤8:=by
 have h:=List.all_eq_true.1 QaP y (List.mem_range.2 hy)
 simp only [Bool.and_eq_true,Bool.or_eq_true,decide_eq_true_eq] at h
 obtain ⟨⟨⟨h1,h2⟩,h3⟩,h4⟩:=h
 refine ⟨?_,h2,fun h0=>h3.resolve_left (by omega),h4⟩
 split at h1
 ·rename_i z hz
  rw [hz,of_decide_eq_true h1]
 ·cases h1
theorem Co {x:Nat} (hx:x<65536):(0<x→x<2 ^ ZA x∧2 ^ ZA x≤2*x)∧ZA x≤16:=by
 unfold ZA
 split
 ·rename_i c
  obtain ⟨_,h2,h3,h4⟩:=Cm c
  exact ⟨fun h=>⟨h2,h3 h⟩,by omega⟩
 ·rename_i c
  obtain ⟨_,h2,h3,h4⟩:=Cm (y:=x/256) (by omega)
  have h5:=h3 (by omega)
  rw [Nat.pow_add]
  generalize 2 ^ bl 8 (x/256)=p at h2 h5
  exact ⟨fun h=>by omega,by omega⟩
def Jx:List HV→Option HV
 | [.int .u64 x]=>if 0≤x∧x<65536 then some (.int .i64 (ZA x.toNat:Int)) else none
 | _=>none
def Dr:List HV→Option HV
 | [.int .i64 x]=>if 0≤x∧x<65536 then some (.int .u64 ((2 ^ ZA x.toNat:Nat):Int)) else none
 | _=>none
def polLb:Pol:={ pol with prim:=fun g=>if g==85 then some Jx else none }
def polLc:Pol:={ pol with prim:=fun g=>if g==63 then some Jx else none }
end Go.Proofs.Ytiejmoglooaalaa
end
section
open Go Go.HL
namespace Go.Proofs.Ytiejmoglooaalaa
set_option maxRecDepth 100000
set_option linter.unusedSectionVars false
open Go.Proofs.Try renaming prog → Tp
open Go.HL.HV renaming undef → Ud
noncomputable def B85:Code:=Try.f85.body.getD .skip
abbrev QiM (v0 v2:HV):Env:=[(0,v0),(2,v2)]
theorem Qsq (x:Int) (h0:Int) (z0:Int) (g0:¬(4294967296≤x)) (g1:¬(65536≤x)) (g2:256≤x) (g3:BV .shr 116 (.int .u64 x) (.int .u64 8) (.int .u64 h0)) (g4:UL Tp 9 QgE (.int .u8 (IntKind.u8.wrap h0))=some (.int .u8 z0)): RT pol 85 (sub [] B85) [(0,.int .u64 x)] [] .ret (QiM (.int .u64 h0) (.i (qA.wrap (8+qA.wrap z0)))) [] :=
 hx 0 60 [jF 1 1 [] g0,jF 4 1 [] g1,jT 7 1 [] g2,jO 8 1 [] g3,jO 10 3 [] g4]
theorem Qsr (x:Int) (z0:Int) (g0:¬(4294967296≤x)) (g1:¬(65536≤x)) (g2:¬(256≤x)) (g3:UL Tp 9 QgE (.int .u8 (IntKind.u8.wrap x))=some (.int .u8 z0)): RT pol 85 (sub [] B85) [(0,.int .u64 x)] [] .ret (QiM (.int .u64 x) (.i (qA.wrap (0+qA.wrap z0)))) [] :=
 hx 0 60 [jF 1 1 [] g0,jF 4 1 [] g1,jF 7 1 [] g2,jO 10 3 [] g3]
noncomputable def B63:Code:=Try.f63.body.getD .skip
abbrev Qss (v0 v2:HV):Env:=[(0,v0),(2,v2)]
theorem Qst (x:Int) (c0:Int) (g0:∀kf,Qc Tp polLb (kf+1) 85 [.int .u64 x] []=some (.i c0,[])): RT polLb 63 (sub [] B63) [(0,.int .u64 x)] [] .ret (Qss (.int .u64 x) (.i c0)) [] :=
 hx 0 60 [jD 2 1 g0]
noncomputable def B95:Code:=Try.f95.body.getD .skip
abbrev Qsu (v0 v2:HV):Env:=[(0,v0),(2,v2)]
theorem Qsv (x:Int) (c0:Int) (h0:Int) (g0:∀kf,Qc Tp polLc (kf+1) 63 [.int .u64 (IntKind.u64.wrap x)] []=some (.i c0,[])) (g1:BV .shl 82 (.int .u64 1) (.i c0) (.int .u64 h0)): RT polLc 95 (sub [] B95) [(0,.i x)] [] .ret (Qsu (.i x) (.int .u64 h0)) [] :=
 hx 0 60 [jD 1 2 g0,jO 1 3 [] g1]
end Go.Proofs.Ytiejmoglooaalaa
end
section
open Go Go.HL
namespace Go.Proofs.Ytiejmoglooaalaa
set_option linter.unusedSectionVars false
open Go.Proofs.Try renaming prog → Tp
open Go.HL.HV renaming undef → Ud
theorem QiN:Try.f85.results.toList=[.tmp 2]:=by kernel_rfl
theorem Qsw:Try.f63.results.toList=[.tmp 2]:=by kernel_rfl
theorem Qsx:Try.f95.results.toList=[.tmp 2]:=by kernel_rfl
theorem u8w {n:Nat} (h:n<256):IntKind.u8.wrap (n:Int)=(n:Int):=by
 have:IntKind.u8.wrap (n:Int)=(n:Int)%256:=by simp [IntKind.wrap,IntKind.signed,IntKind.bits]
 rw [this];omega
theorem Qep:QP Tp 85 Jx:=by
 refine Qp (pol:=pol) (fn:=Try.f85) (cd:=B85) Qk Xp (by kernel_rfl) (by kernel_rfl) (Zm pol.prim _ _ (by kernel_rfl)) (by kernel_rfl) ?_
 intro args res h
 unfold Jx at h
 split at h
 ·rename_i x
  split at h
  ·rename_i hx
   cases h
   obtain ⟨n,rfl⟩:∃n:Nat,x=(n:Int):=⟨x.toNat,by omega⟩
   rw [qE]
   unfold ZA
   split
   ·rename_i c
    obtain ⟨h1,_,_,h4⟩:=Cm c
    have t:=Qsr (n:Int) (bl 8 n:Int) (by omega) (by omega) (by omega) (by rw [u8w c];exact h1)
    rw [Qr (n:=(bl 8 n:Int)) (by omega) (by omega),Qr (by omega) (by omega),Int.zero_add] at t
    exact ⟨_,_,_,.int .i64 (bl 8 n:Int),t,by simp,by simp only [Qd,QiN];rfl,rfl⟩
   ·rename_i c
    obtain ⟨h1,_,_,h4⟩:=Cm (y:=n/256) (by omega)
    have hs:J8 Tp .shr 116 (.int .u64 (n:Int)) (.int .u64 8)=some (.int .u64 ((n/256:Nat):Int)):=by
     have e:J8 Tp .shr 116 (.int .u64 (n:Int)) (.int .u64 8)=some (.int .u64 ((n:Int).fdiv (2 ^ min (8:Int).toNat 64))):=rfl
     rw [e]
     have:((n:Int).fdiv (2 ^ min (8:Int).toNat 64))=((n/256:Nat):Int):=by
      rw [show ((2:Int) ^ min (8:Int).toNat 64)=((256:Nat):Int) by decide,Int.fdiv_eq_ediv_of_nonneg _ (Int.natCast_nonneg _)]
      rfl
     rw [this]
    have t:=Qsq (n:Int) _ (bl 8 (n/256):Int) (by omega) (by omega) (by omega) hs (by rw [u8w (by omega)];exact h1)
    rw [Qr (n:=(bl 8 (n/256):Int)) (by omega) (by omega),Qr (by omega) (by omega),show (8:Int)+(bl 8 (n/256):Int)=((8+bl 8 (n/256):Nat):Int) by omega] at t
    exact ⟨_,_,_,.int .i64 ((8+bl 8 (n/256):Nat):Int),t,by simp,by simp only [Qd,QiN];rfl,rfl⟩
  ·cases h
 ·cases h
theorem QgF (n:Nat):Qn Tp (Qc Tp polLb n):=Qy _ (fun g f h=>by
 split at h
 ·rename_i hg;cases h;rw [eq_of_beq hg];exact Qep
 ·cases h) n
theorem Ds:QP Tp 63 Jx:=by
 refine Qp (pol:=polLb) (fn:=Try.f63) (cd:=B63) Qk QgF (by kernel_rfl) (by kernel_rfl) (Zm polLb.prim _ _ (by kernel_rfl)) (by kernel_rfl) ?_
 intro args res h
 have h':=h
 unfold Jx at h
 split at h
 ·rename_i x
  split at h
  ·rename_i hx
   cases h
   have t:=Qst x _ (fun kf=>by
    rw [WS (pol:=polLb) (g:=85) (F:=Jx) (by kernel_rfl) (rs:=[.int .u64 x]) rfl h'];rfl)
   exact ⟨_,_,_,.int .i64 (ZA x.toNat:Int),t,by simp,by simp only [Qd,Qsw];rfl,rfl⟩
  ·cases h
 ·cases h
theorem QgG (n:Nat):Qn Tp (Qc Tp polLc n):=Qy _ (fun g f h=>by
 split at h
 ·rename_i hg;cases h;rw [eq_of_beq hg];exact Ds
 ·cases h) n
theorem QgH:QP Tp 95 Dr:=by
 refine Qp (pol:=polLc) (fn:=Try.f95) (cd:=B95) Qk QgG (by kernel_rfl) (by kernel_rfl) (Zm polLc.prim _ _ (by kernel_rfl)) (by kernel_rfl) ?_
 intro args res h
 unfold Dr at h
 split at h
 ·rename_i x
  split at h
  ·rename_i hx
   cases h
   obtain ⟨n,rfl⟩:∃n:Nat,x=(n:Int):=⟨x.toNat,by omega⟩
   rw [qE]
   have hl:=(Co (x:=n) (by omega)).2
   have hu:IntKind.u64.wrap (n:Int)=(n:Int):=by rw [JC];omega
   have hs:J8 Tp .shl 82 (.int .u64 1) (.int .i64 (ZA n:Int))=some (.int .u64 ((2 ^ ZA n:Nat):Int)):=by
    have e:J8 Tp .shl 82 (.int .u64 1) (.int .i64 (ZA n:Int))=if (ZA n:Int)<0 then none else some (.int .u64 (IntKind.u64.wrap (1*2 ^ min (ZA n:Int).toNat 64))):=rfl
    rw [e,if_neg (by omega),qE,show min (ZA n) 64=ZA n by omega,Int.one_mul,show ((2:Int) ^ ZA n)=((2 ^ ZA n:Nat):Int) by push_cast;rfl]
    have h2:2 ^ ZA n≤2 ^ 16:=Nat.pow_le_pow_right (by omega) hl
    have h3:2 ^ ZA n≤65536:=h2
    generalize 2 ^ ZA n=p at h3
    rw [JC,show (p:Int)%18446744073709551616=p by omega]
   have t:=Qsv (n:Int) (ZA n:Int) _ (fun kf=>by
    rw [hu,WS (pol:=polLc) (g:=63) (F:=Jx) (by kernel_rfl) (rs:=[.int .u64 (n:Int)]) rfl (res:=.int .i64 (ZA n:Int)) (by simp only [Jx];rw [if_pos (by omega),qE])];rfl) hs
   exact ⟨_,_,_,.int .u64 ((2 ^ ZA n:Nat):Int),t,by simp,by simp only [Qd,Qsx];rfl,rfl⟩
  ·cases h
 ·cases h
end Go.Proofs.Ytiejmoglooaalaa
end
section
open Go Go.HL Go.HL.So
namespace Go.Proofs.Ytiejmoglooaalaa
set_option linter.unusedSectionVars false
open Go.Proofs.Try renaming prog → Tp
open Go.HL.HV renaming undef → Ud
def QkZ:FuncId→Option (List HV→Option HV):=fun g=>if g==71 then some Qeg else if g==70 then some Qeh else if g==63 then some Jx else if g==95 then some Dr else none
def polSo:Pol:={ pol with prim:=QkZ }
theorem QgI (n:Nat):Qn Tp (Qc Tp polSo n):=Qy QkZ (fun g f h=>by
 unfold QkZ at h
 split at h
 ·rename_i hg;cases h;rw [eq_of_beq hg];exact Qem
 split at h
 ·rename_i hg;cases h;rw [eq_of_beq hg];exact Qeo
 split at h
 ·rename_i hg;cases h;rw [eq_of_beq hg];exact Ds
 split at h
 ·rename_i hg;cases h;rw [eq_of_beq hg];exact QgH
 ·cases h) n
theorem RunsTo.block_other {P:Program} {pol:Pol} {f:FuncId} {b c:Code} {e E:Env} {H H':Heap} {x:X} {K:List Nat} {i:Nat} (h:RunsTo P pol f b e H x K E H') (hx:x≠.exit i) (hc:c=.block i b):RunsTo P pol f c e H x K E H':=by
 have:=RunsTo.block hc h
 rwa [if_neg hx] at this
theorem RunsTo.skip {P:Program} {pol:Pol} {f:FuncId} {c:Code} {e E:Env} {H:Heap} {K:List Nat} (hE:restr K e=E) (hc:c=.skip):RunsTo P pol f c e H .normal K E H:=by
 subst hc
 refine ⟨1,fun n k hn _=>⟨e,?_,hE⟩⟩
 obtain ⟨n,rfl⟩:∃m,n=m+1:=⟨n-1,by omega⟩
 rfl
theorem Qeq {m:Nat}:∀{H:Heap},mxs H≤m↔∀B∈H,B.mx≤m
 | []=>by simp [mxs]
 | B::H=>by
  have:=Qeq (m:=m) (H:=H)
  simp only [mxs,List.mem_cons,forall_eq_or_imp,← this]
  omega
abbrev ClS (g:FuncId) (args:List HV) (H:Heap) (r:HV) (H':Heap):Prop:=CallsTo (P:=Tp) (pol:=polSo) g args H r H'
end Go.Proofs.Ytiejmoglooaalaa
end
section
open Go Go.HL
namespace Go.Proofs.Ytiejmoglooaalaa
set_option maxRecDepth 100000
set_option linter.unusedSectionVars false
open Go.Proofs.Try renaming prog → Tp
open Go.HL.HV renaming undef → Ud
noncomputable def B54:Code:=Try.f54.body.getD .skip
abbrev QbN (v0 v1 v2 v3 v4 v7 v8:HV):Env:=[(0,v0),(1,v1),(2,v2),(3,v3),(4,v4),(7,v7),(8,v8)]
abbrev e54 (n:Int) (ls:List HV) (u3 u4 u5 u6:HV):Env:=QbN (.N n ls) (.q 0) (.imm .lit 1 []) u3 u4 u5 u6
section
variable (N:Nat) (n:Int) (ls:List HV)
include N n ls
theorem Qk0:RT polSo 54 (sn 2 B54) [(0,.N n ls)] [] .normal (e54 n ls Ud Ud Ud Ud) [.arr 2 [.N n ls] true 0] :=
 hx N 60 []
end
section
variable (N:Nat) (n:Int) (ls:List HV)
include N n ls
theorem Qk1 {y3 y4 y7 y8:HV}: RT polSo 54 (sn 6 B54) (e54 n ls y3 y4 y7 y8) [.arr 2 [.N n ls] true 0] .normal (e54 n ls (.s 1 0) y4 y7 y8) [.arr 2 [.N n ls] true 0,.b []] :=
 hx N 60 []
theorem Qk2 (q:Nat) (os:List HV) {y4 y7 y8:HV}: RT polSo 54 (sn 28 B54) (e54 n ls (.s 1 q) y4 y7 y8) [.arr 2 [.N n ls] true 0,.b os] .normal (e54 n ls (.s 1 q) y4 (.i (ls.length:Int)) (.i 0)) [.arr 2 [.N n ls] true 0,.b os] :=
 hx N 60 []
theorem Qk3 (q m j:Nat) (os:List HV) {y4:HV} (g0:(j:Int)<(m:Int)) (g1:Zu [.arr 2 [.N n ls] true 0,.b os] 1 8 (.s 1 q) [.n j]=some (.sl 1 0 (q+1) none (q+1) 1,[.arr 2 [.N n ls] true 0,.arr 1 (os++[.n j]) true 0])): RT polSo 54 (sn 116 B54) (e54 n ls (.s 1 q) y4 (.n m) (.n j)) [.arr 2 [.N n ls] true 0,.b os] .normal (e54 n ls (.sl 1 0 (q+1) none (q+1) 1) (.n j) (.n m) (.i (qA.wrap ((j:Int)+1)))) [.arr 2 [.N n ls] true 0,.arr 1 (os++[.n j]) true 0] :=
 hx N 60 [jT 3 0 [.arr 2 [.N n ls] true 0,.b os] g0,jR 5 3 g1]
theorem Qk4 (q m j:Nat) (os:List HV) {y4:HV} (g0:¬((j:Int)<(m:Int))): RT polSo 54 (sn 116 B54) (e54 n ls (.s 1 q) y4 (.n m) (.n j)) [.arr 2 [.N n ls] true 0,.b os] (.exit 0) (e54 n ls (.s 1 q) y4 (.n m) (.n j)) [.arr 2 [.N n ls] true 0,.b os] :=
 hx N 60 [jF 3 0 [.arr 2 [.N n ls] true 0,.b os] g0]
theorem Qk5 (q:Nat) (H:Heap) {y4 y7 y8:HV} {H0:Heap} (g0:∀kf,N≤kf→Qc Tp polSo (kf+1) 68 [.s 1 q,.func 69 [] [.q 0]] H=some (.tuple [],H0)): RT polSo 54 (sn 15 B54) (e54 n ls (.s 1 q) y4 y7 y8) H .ret (QbN (.N n ls) (.q 0) (.s 1 q) (.s 1 q) y4 y7 y8) H0 :=
 hx N 60 [jC 7 2 g0]
end
noncomputable def B69:Code:=Try.f69.body.getD .skip
abbrev Qsy (v0 v1 v2 v5:HV):Env:=[(0,v0),(1,v1),(2,v2),(5,v5)]
theorem Qtf (i j xb:Nat) (H:Heap) (ls:List HV) (a b w a2 b2 w2:Int) (c0:Int) (H0:Heap) (c1:Int) (H1:Heap) (c2:Int) (H2:Heap) (g0:LD H 22 (.ptr xb 0 1 1) (.g ls)) (g1:IX 22 (.g ls) (.n i) (.vptr (.agg [.i a,.i b,.i w]))) (g2:LD H 22 (.ptr xb 0 1 1) (.g ls)) (g3:IX 22 (.g ls) (.n j) (.vptr (.agg [.i a2,.i b2,.i w2]))) (g4:∀kf,Qc Tp polSo (kf+1) 71 [.i w,.i w2] H=some (.i c0,H0)) (g5:∀kf,Qc Tp polSo (kf+1) 71 [.n i,.n j] H0=some (.i c1,H1)) (g6:∀kf,Qc Tp polSo (kf+1) 70 [.imm .lit 1 [.i c0,.i c1]] H1=some (.i c2,H2)): RT polSo 69 (sub [] B69) [(0,.n i),(1,.n j),(2,.q xb)] H .ret (Qsy (.n i) (.n j) (.q xb) (.i c2)) H2 :=
 hx 0 60 [jO 1 1 H g0,jO 1 3 H g1,jO 1 7 H g2,jO 1 9 H g3,jD 1 12 g4,jD 1 15 g5,jD 1 17 g6]
section
variable {xb:Nat}
noncomputable def B99:Code:=Try.f99.body.getD .skip
abbrev Xs (v0 v1 v2 v3 v8 v9:HV):Env:=[(0,v0),(1,v1),(2,v2),(3,v3),(8,v8),(9,v9)]
end
abbrev e99 (db:Nat) (n:Nat) (cap:Option Nat) (a:Nat) (b:Nat) (i:Nat) (u3 u5:HV):Env:=Xs (.c db n cap) (.n a) (.n b) u3 (.n i) u5
section
variable {xb:Nat}
variable (N:Nat) (db n:Nat) (cap:Option Nat) (H:Heap) (x:Nat) (a:Nat) (b:Nat)
include N db n cap H x a b
theorem Qk6:RT polSo 99 (sn 2 B99) [(0,.c db n cap),(1,.n a),(2,.n b),(3,.func 69 [] [.q xb])] H .normal (Xs (.c db n cap) (.n a) (.n b) (.func 69 [] [.q xb]) (.i (qA.wrap ((a:Int)+1))) Ud) H :=
 hx N 60 []
end
section
variable {xb:Nat}
variable (N:Nat) (db n:Nat) (cap:Option Nat) (H:Heap) (x:Nat) (a:Nat) (b:Nat)
include N db n cap H x a b
theorem Qk7 (i:Nat) {y9:HV} (g0:(i:Int)<(b:Int)): RT polSo 99 (sn 24 B99) (e99 db n cap a b i (.func 69 [] [.q xb]) y9) H .normal (e99 db n cap a b i (.func 69 [] [.q xb]) y9) H :=
 hx N 60 [jT 1 2 H g0]
theorem Qer (i:Nat) {y9:HV} (g0:¬((i:Int)<(b:Int))): RT polSo 99 (sn 24 B99) (e99 db n cap a b i (.func 69 [] [.q xb]) y9) H (.exit 0) (e99 db n cap a b i (.func 69 [] [.q xb]) y9) H :=
 hx N 60 [jF 1 2 H g0]
theorem Qk8 (i:Nat) {y9:HV}: RT polSo 99 (sn 200 B99) (e99 db n cap a b i (.func 69 [] [.q xb]) y9) H .normal (e99 db n cap a b i (.func 69 [] [.q xb]) (.n i)) H :=
 hx N 60 []
theorem Qk9 (i:Nat) (j:Nat) {a0:HV} {v0:HV} {a1:HV} {v1:HV} {c0:Int} {H0:Heap} {a2:HV} {v2:HV} {a3:HV} {v3:HV} {a4:HV} {H1:Heap} {a5:HV} {H2:Heap} (g0:(a:Int)<(j:Int)) (g1:IX 24 (.c db n cap) (.n j) (a0)) (g2:LD H 3 (a0) (v0)) (g3:IX 24 (.c db n cap) (.i (qA.wrap ((j:Int)-1))) (a1)) (g4:LD H 3 (a1) (v1)) (g5:∀kf,N≤kf→Qc Tp polSo (kf+1) 69 [v0,v1,.q xb] H=some (.i c0,H0)) (g6:c0<0) (g7:IX 24 (.c db n cap) (.i (qA.wrap ((j:Int)-1))) (a2)) (g8:LD H0 3 (a2) (v2)) (g9:IX 24 (.c db n cap) (.n j) (a3)) (g10:LD H0 3 (a3) (v3)) (g11:IX 24 (.c db n cap) (.n j) (a4)) (g12:ST H0 3 (a4) (v2) H1) (g13:IX 24 (.c db n cap) (.i (qA.wrap ((j:Int)-1))) (a5)) (g14:ST H1 3 (a5) (v3) H2): RT polSo 99 (sn 804 B99) (e99 db n cap a b i (.func 69 [] [.q xb]) (.n j)) H .normal (e99 db n cap a b i (.func 69 [] [.q xb]) (.i (qA.wrap ((j:Int)-1)))) H2 :=
 hx N 60 [jT 4 2 H g0,jO 4 7 H g1,jO 4 8 H g2,jO 4 12 H g3,jO 4 13 H g4,jC 4 14 g5,jT 4 15 H0 g6,jO 6 8 H0 g7,jO 6 9 H0 g8,jO 6 12 H0 g9,jO 6 13 H0 g10,jO 6 14 H0 g11,jS 6 15 g12,jO 6 16 H1 g13,jS 6 17 g14]
theorem Qla (i:Nat) (j:Nat) {a0:HV} {v0:HV} {a1:HV} {v1:HV} {c0:Int} {H0:Heap} (g0:(a:Int)<(j:Int)) (g1:IX 24 (.c db n cap) (.n j) (a0)) (g2:LD H 3 (a0) (v0)) (g3:IX 24 (.c db n cap) (.i (qA.wrap ((j:Int)-1))) (a1)) (g4:LD H 3 (a1) (v1)) (g5:∀kf,N≤kf→Qc Tp polSo (kf+1) 69 [v0,v1,.q xb] H=some (.i c0,H0)) (g6:¬(c0<0)): RT polSo 99 (sn 804 B99) (e99 db n cap a b i (.func 69 [] [.q xb]) (.n j)) H (.exit 2) (e99 db n cap a b i (.func 69 [] [.q xb]) (.n j)) H0 :=
 hx N 60 [jT 4 2 H g0,jO 4 7 H g1,jO 4 8 H g2,jO 4 12 H g3,jO 4 13 H g4,jC 4 14 g5,jF 4 15 H0 g6]
theorem Qes (i:Nat) (j:Nat) (g0:¬((a:Int)<(j:Int))): RT polSo 99 (sn 804 B99) (e99 db n cap a b i (.func 69 [] [.q xb]) (.n j)) H (.exit 2) (e99 db n cap a b i (.func 69 [] [.q xb]) (.n j)) H :=
 hx N 60 [jF 4 2 H g0]
theorem Qlb (i:Nat) {y9:HV}: RT polSo 99 (sn 51 B99) (e99 db n cap a b i (.func 69 [] [.q xb]) y9) H .normal (Xs (.c db n cap) (.n a) (.n b) (.func 69 [] [.q xb]) (.i (qA.wrap ((i:Int)+1))) y9) H :=
 hx N 60 []
end
section
variable {xb:Nat}
noncomputable def Cp:Code:=Try.f103.body.getD .skip
abbrev K3 (v0 v1 v2 v8 v9:HV):Env:=[(0,v0),(1,v1),(2,v2),(8,v8),(9,v9)]
end
section
variable {xb:Nat}
variable (N:Nat) (db n:Nat) (cap:Option Nat) (H:Heap) (x:Nat) (a:Nat) (b:Nat)
include N db n cap H x a b
theorem QgJ:RT polSo 103 (sn 2 Cp) [(0,.c db n cap),(1,.n a),(2,.n b),(3,.func 69 [] [.q xb])] H .normal (K3 (.c db n cap) (.n a) (.n b) (.n a) Ud) H :=
 hx N 60 []
theorem QgK (i:Nat) {y9:HV}: RT polSo 103 (sn 6 Cp) (K3 (.c db n cap) (.n a) (.n b) (.n i) y9) H .normal (K3 (.c db n cap) (.n a) (.n b) (.n i) (.i (qA.wrap ((b:Int)-1)))) H :=
 hx N 60 []
theorem QgL (i:Nat) (j:Nat) {a0:HV} {v0:HV} {a1:HV} {v1:HV} {a2:HV} {H0:Heap} {a3:HV} {H1:Heap} (g0:(i:Int)<(j:Int)) (g1:IX 24 (.c db n cap) (.n j) (a0)) (g2:LD H 3 (a0) (v0)) (g3:IX 24 (.c db n cap) (.n i) (a1)) (g4:LD H 3 (a1) (v1)) (g5:IX 24 (.c db n cap) (.n i) (a2)) (g6:ST H 3 (a2) (v0) H0) (g7:IX 24 (.c db n cap) (.n j) (a3)) (g8:ST H0 3 (a3) (v1) H1): RT polSo 103 (sn 28 Cp) (K3 (.c db n cap) (.n a) (.n b) (.n i) (.n j)) H .normal (K3 (.c db n cap) (.n a) (.n b) (.i (qA.wrap ((i:Int)+1))) (.i (qA.wrap ((j:Int)-1)))) H1 :=
 hx N 60 [jT 2 2 H g0,jO 3 6 H g1,jO 3 7 H g2,jO 3 10 H g3,jO 3 11 H g4,jO 3 12 H g5,jS 3 13 g6,jO 3 14 H0 g7,jS 3 15 g8]
theorem QbO (i:Nat) (j:Nat) (g0:¬((i:Int)<(j:Int))): RT polSo 103 (sn 28 Cp) (K3 (.c db n cap) (.n a) (.n b) (.n i) (.n j)) H (.exit 0) (K3 (.c db n cap) (.n a) (.n b) (.n i) (.n j)) H :=
 hx N 60 [jF 2 2 H g0]
end
section
variable {xb:Nat}
noncomputable def VI:Code:=Try.f109.body.getD .skip
abbrev XL (v0 v1 v2 v3 v4 v10 v11:HV):Env:=[(0,v0),(1,v1),(2,v2),(3,v3),(4,v4),(10,v10),(11,v11)]
end
abbrev XM (db:Nat) (n:Nat) (cap:Option Nat) (lo:Nat) (hi:Nat) (fi:Nat) (u4 u5 u6:HV):Env:=XL (.c db n cap) (.n lo) (.n hi) (.n fi) u4 u5 u6
section
variable {xb:Nat}
variable (N:Nat) (db n:Nat) (cap:Option Nat) (H:Heap) (x:Nat) (lo:Nat) (hi:Nat) (fi:Nat)
include N db n cap H x lo hi fi
theorem Qlc:RT polSo 109 (sn 2 VI) [(0,.c db n cap),(1,.n lo),(2,.n hi),(3,.n fi),(4,.func 69 [] [.q xb])] H .normal (XM db n cap lo hi fi (.func 69 [] [.q xb]) (.n lo) Ud) H :=
 hx N 60 []
end
section
variable {xb:Nat}
variable (N:Nat) (db n:Nat) (cap:Option Nat) (H:Heap) (x:Nat) (lo:Nat) (hi:Nat) (fi:Nat)
include N db n cap H x lo hi fi
theorem Qet (r:Nat) {y11:HV} (g0:(hi:Int)≤qA.wrap (qA.wrap (2*(r:Int))+1)): RT polSo 109 (sn 12 VI) (XM db n cap lo hi fi (.func 69 [] [.q xb]) (.n r) y11) H (.exit 0) (XM db n cap lo hi fi (.func 69 [] [.q xb]) (.n r) (.i (qA.wrap (qA.wrap (2*(r:Int))+1)))) H :=
 hx N 60 [jT 2 2 H g0]
theorem Qld (r:Nat) {y11:HV} {a0:HV} {v0:HV} {a1:HV} {v1:HV} {c0:Int} {H0:Heap} {a2:HV} {v2:HV} {a3:HV} {v3:HV} {c1:Int} {H1:Heap} {a4:HV} {v4:HV} {a5:HV} {v5:HV} {a6:HV} {H2:Heap} {a7:HV} {H3:Heap} (g0:¬((hi:Int)≤qA.wrap (qA.wrap (2*(r:Int))+1))) (g1:qA.wrap (qA.wrap (qA.wrap (2*(r:Int))+1)+1)<(hi:Int)) (g2:IX 24 (.c db n cap) (.i (qA.wrap ((fi:Int)+qA.wrap (qA.wrap (2*(r:Int))+1)))) (a0)) (g3:LD H 3 (a0) (v0)) (g4:IX 24 (.c db n cap) (.i (qA.wrap (qA.wrap ((fi:Int)+qA.wrap (qA.wrap (2*(r:Int))+1))+1))) (a1)) (g5:LD H 3 (a1) (v1)) (g6:∀kf,N≤kf→Qc Tp polSo (kf+1) 69 [v0,v1,.q xb] H=some (.i c0,H0)) (g7:c0<0) (g8:IX 24 (.c db n cap) (.i (qA.wrap ((fi:Int)+(r:Int)))) (a2)) (g9:LD H0 3 (a2) (v2)) (g10:IX 24 (.c db n cap) (.i (qA.wrap ((fi:Int)+qA.wrap (qA.wrap (qA.wrap (2*(r:Int))+1)+1)))) (a3)) (g11:LD H0 3 (a3) (v3)) (g12:∀kf,N≤kf→Qc Tp polSo (kf+1) 69 [v2,v3,.q xb] H0=some (.i c1,H1)) (g13:c1<0) (g14:IX 24 (.c db n cap) (.i (qA.wrap ((fi:Int)+qA.wrap (qA.wrap (qA.wrap (2*(r:Int))+1)+1)))) (a4)) (g15:LD H1 3 (a4) (v4)) (g16:IX 24 (.c db n cap) (.i (qA.wrap ((fi:Int)+(r:Int)))) (a5)) (g17:LD H1 3 (a5) (v5)) (g18:IX 24 (.c db n cap) (.i (qA.wrap ((fi:Int)+(r:Int)))) (a6)) (g19:ST H1 3 (a6) (v4) H2) (g20:IX 24 (.c db n cap) (.i (qA.wrap ((fi:Int)+qA.wrap (qA.wrap (qA.wrap (2*(r:Int))+1)+1)))) (a7)) (g21:ST H2 3 (a7) (v5) H3): RT polSo 109 (sn 12 VI) (XM db n cap lo hi fi (.func 69 [] [.q xb]) (.n r) y11) H .normal (XM db n cap lo hi fi (.func 69 [] [.q xb]) (.i (qA.wrap (qA.wrap (qA.wrap (2*(r:Int))+1)+1))) (.i (qA.wrap (qA.wrap (qA.wrap (2*(r:Int))+1)+1)))) H3 :=
 hx N 60 [jF 2 2 H g0,jT 3 3 H g1,jO 3 10 H g2,jO 3 11 H g3,jO 3 17 H g4,jO 3 18 H g5,jC 3 19 g6,jT 3 20 H0 g7,jO 5 5 H0 g8,jO 5 6 H0 g9,jO 5 11 H0 g10,jO 5 12 H0 g11,jC 5 13 g12,jT 5 14 H1 g13,jO 6 12 H1 g14,jO 6 13 H1 g15,jO 6 18 H1 g16,jO 6 19 H1 g17,jO 6 20 H1 g18,jS 6 21 g19,jO 6 22 H2 g20,jS 6 23 g21]
theorem Qle (r:Nat) {y11:HV} {a0:HV} {v0:HV} {a1:HV} {v1:HV} {c0:Int} {H0:Heap} {a2:HV} {v2:HV} {a3:HV} {v3:HV} {c1:Int} {H1:Heap} (g0:¬((hi:Int)≤qA.wrap (qA.wrap (2*(r:Int))+1))) (g1:qA.wrap (qA.wrap (qA.wrap (2*(r:Int))+1)+1)<(hi:Int)) (g2:IX 24 (.c db n cap) (.i (qA.wrap ((fi:Int)+qA.wrap (qA.wrap (2*(r:Int))+1)))) (a0)) (g3:LD H 3 (a0) (v0)) (g4:IX 24 (.c db n cap) (.i (qA.wrap (qA.wrap ((fi:Int)+qA.wrap (qA.wrap (2*(r:Int))+1))+1))) (a1)) (g5:LD H 3 (a1) (v1)) (g6:∀kf,N≤kf→Qc Tp polSo (kf+1) 69 [v0,v1,.q xb] H=some (.i c0,H0)) (g7:c0<0) (g8:IX 24 (.c db n cap) (.i (qA.wrap ((fi:Int)+(r:Int)))) (a2)) (g9:LD H0 3 (a2) (v2)) (g10:IX 24 (.c db n cap) (.i (qA.wrap ((fi:Int)+qA.wrap (qA.wrap (qA.wrap (2*(r:Int))+1)+1)))) (a3)) (g11:LD H0 3 (a3) (v3)) (g12:∀kf,N≤kf→Qc Tp polSo (kf+1) 69 [v2,v3,.q xb] H0=some (.i c1,H1)) (g13:¬(c1<0)): RT polSo 109 (sn 12 VI) (XM db n cap lo hi fi (.func 69 [] [.q xb]) (.n r) y11) H .ret (XM db n cap lo hi fi (.func 69 [] [.q xb]) (.n r) (.i (qA.wrap (qA.wrap (qA.wrap (2*(r:Int))+1)+1)))) H1 :=
 hx N 60 [jF 2 2 H g0,jT 3 3 H g1,jO 3 10 H g2,jO 3 11 H g3,jO 3 17 H g4,jO 3 18 H g5,jC 3 19 g6,jT 3 20 H0 g7,jO 5 5 H0 g8,jO 5 6 H0 g9,jO 5 11 H0 g10,jO 5 12 H0 g11,jC 5 13 g12,jF 5 14 H1 g13]
theorem Qlf (r:Nat) {y11:HV} {a0:HV} {v0:HV} {a1:HV} {v1:HV} {c0:Int} {H0:Heap} {a2:HV} {v2:HV} {a3:HV} {v3:HV} {c1:Int} {H1:Heap} {a4:HV} {v4:HV} {a5:HV} {v5:HV} {a6:HV} {H2:Heap} {a7:HV} {H3:Heap} (g0:¬((hi:Int)≤qA.wrap (qA.wrap (2*(r:Int))+1))) (g1:qA.wrap (qA.wrap (qA.wrap (2*(r:Int))+1)+1)<(hi:Int)) (g2:IX 24 (.c db n cap) (.i (qA.wrap ((fi:Int)+qA.wrap (qA.wrap (2*(r:Int))+1)))) (a0)) (g3:LD H 3 (a0) (v0)) (g4:IX 24 (.c db n cap) (.i (qA.wrap (qA.wrap ((fi:Int)+qA.wrap (qA.wrap (2*(r:Int))+1))+1))) (a1)) (g5:LD H 3 (a1) (v1)) (g6:∀kf,N≤kf→Qc Tp polSo (kf+1) 69 [v0,v1,.q xb] H=some (.i c0,H0)) (g7:¬(c0<0)) (g8:IX 24 (.c db n cap) (.i (qA.wrap ((fi:Int)+(r:Int)))) (a2)) (g9:LD H0 3 (a2) (v2)) (g10:IX 24 (.c db n cap) (.i (qA.wrap ((fi:Int)+qA.wrap (qA.wrap (2*(r:Int))+1)))) (a3)) (g11:LD H0 3 (a3) (v3)) (g12:∀kf,N≤kf→Qc Tp polSo (kf+1) 69 [v2,v3,.q xb] H0=some (.i c1,H1)) (g13:c1<0) (g14:IX 24 (.c db n cap) (.i (qA.wrap ((fi:Int)+qA.wrap (qA.wrap (2*(r:Int))+1)))) (a4)) (g15:LD H1 3 (a4) (v4)) (g16:IX 24 (.c db n cap) (.i (qA.wrap ((fi:Int)+(r:Int)))) (a5)) (g17:LD H1 3 (a5) (v5)) (g18:IX 24 (.c db n cap) (.i (qA.wrap ((fi:Int)+(r:Int)))) (a6)) (g19:ST H1 3 (a6) (v4) H2) (g20:IX 24 (.c db n cap) (.i (qA.wrap ((fi:Int)+qA.wrap (qA.wrap (2*(r:Int))+1)))) (a7)) (g21:ST H2 3 (a7) (v5) H3): RT polSo 109 (sn 12 VI) (XM db n cap lo hi fi (.func 69 [] [.q xb]) (.n r) y11) H .normal (XM db n cap lo hi fi (.func 69 [] [.q xb]) (.i (qA.wrap (qA.wrap (2*(r:Int))+1))) (.i (qA.wrap (qA.wrap (2*(r:Int))+1)))) H3 :=
 hx N 60 [jF 2 2 H g0,jT 3 3 H g1,jO 3 10 H g2,jO 3 11 H g3,jO 3 17 H g4,jO 3 18 H g5,jC 3 19 g6,jF 3 20 H0 g7,jO 5 5 H0 g8,jO 5 6 H0 g9,jO 5 11 H0 g10,jO 5 12 H0 g11,jC 5 13 g12,jT 5 14 H1 g13,jO 6 12 H1 g14,jO 6 13 H1 g15,jO 6 18 H1 g16,jO 6 19 H1 g17,jO 6 20 H1 g18,jS 6 21 g19,jO 6 22 H2 g20,jS 6 23 g21]
theorem Qlg (r:Nat) {y11:HV} {a0:HV} {v0:HV} {a1:HV} {v1:HV} {c0:Int} {H0:Heap} {a2:HV} {v2:HV} {a3:HV} {v3:HV} {c1:Int} {H1:Heap} (g0:¬((hi:Int)≤qA.wrap (qA.wrap (2*(r:Int))+1))) (g1:qA.wrap (qA.wrap (qA.wrap (2*(r:Int))+1)+1)<(hi:Int)) (g2:IX 24 (.c db n cap) (.i (qA.wrap ((fi:Int)+qA.wrap (qA.wrap (2*(r:Int))+1)))) (a0)) (g3:LD H 3 (a0) (v0)) (g4:IX 24 (.c db n cap) (.i (qA.wrap (qA.wrap ((fi:Int)+qA.wrap (qA.wrap (2*(r:Int))+1))+1))) (a1)) (g5:LD H 3 (a1) (v1)) (g6:∀kf,N≤kf→Qc Tp polSo (kf+1) 69 [v0,v1,.q xb] H=some (.i c0,H0)) (g7:¬(c0<0)) (g8:IX 24 (.c db n cap) (.i (qA.wrap ((fi:Int)+(r:Int)))) (a2)) (g9:LD H0 3 (a2) (v2)) (g10:IX 24 (.c db n cap) (.i (qA.wrap ((fi:Int)+qA.wrap (qA.wrap (2*(r:Int))+1)))) (a3)) (g11:LD H0 3 (a3) (v3)) (g12:∀kf,N≤kf→Qc Tp polSo (kf+1) 69 [v2,v3,.q xb] H0=some (.i c1,H1)) (g13:¬(c1<0)): RT polSo 109 (sn 12 VI) (XM db n cap lo hi fi (.func 69 [] [.q xb]) (.n r) y11) H .ret (XM db n cap lo hi fi (.func 69 [] [.q xb]) (.n r) (.i (qA.wrap (qA.wrap (2*(r:Int))+1)))) H1 :=
 hx N 60 [jF 2 2 H g0,jT 3 3 H g1,jO 3 10 H g2,jO 3 11 H g3,jO 3 17 H g4,jO 3 18 H g5,jC 3 19 g6,jF 3 20 H0 g7,jO 5 5 H0 g8,jO 5 6 H0 g9,jO 5 11 H0 g10,jO 5 12 H0 g11,jC 5 13 g12,jF 5 14 H1 g13]
theorem Qlh (r:Nat) {y11:HV} {a0:HV} {v0:HV} {a1:HV} {v1:HV} {c0:Int} {H0:Heap} {a2:HV} {v2:HV} {a3:HV} {v3:HV} {a4:HV} {H1:Heap} {a5:HV} {H2:Heap} (g0:¬((hi:Int)≤qA.wrap (qA.wrap (2*(r:Int))+1))) (g1:¬(qA.wrap (qA.wrap (qA.wrap (2*(r:Int))+1)+1)<(hi:Int))) (g2:IX 24 (.c db n cap) (.i (qA.wrap ((fi:Int)+(r:Int)))) (a0)) (g3:LD H 3 (a0) (v0)) (g4:IX 24 (.c db n cap) (.i (qA.wrap ((fi:Int)+qA.wrap (qA.wrap (2*(r:Int))+1)))) (a1)) (g5:LD H 3 (a1) (v1)) (g6:∀kf,N≤kf→Qc Tp polSo (kf+1) 69 [v0,v1,.q xb] H=some (.i c0,H0)) (g7:c0<0) (g8:IX 24 (.c db n cap) (.i (qA.wrap ((fi:Int)+qA.wrap (qA.wrap (2*(r:Int))+1)))) (a2)) (g9:LD H0 3 (a2) (v2)) (g10:IX 24 (.c db n cap) (.i (qA.wrap ((fi:Int)+(r:Int)))) (a3)) (g11:LD H0 3 (a3) (v3)) (g12:IX 24 (.c db n cap) (.i (qA.wrap ((fi:Int)+(r:Int)))) (a4)) (g13:ST H0 3 (a4) (v2) H1) (g14:IX 24 (.c db n cap) (.i (qA.wrap ((fi:Int)+qA.wrap (qA.wrap (2*(r:Int))+1)))) (a5)) (g15:ST H1 3 (a5) (v3) H2): RT polSo 109 (sn 12 VI) (XM db n cap lo hi fi (.func 69 [] [.q xb]) (.n r) y11) H .normal (XM db n cap lo hi fi (.func 69 [] [.q xb]) (.i (qA.wrap (qA.wrap (2*(r:Int))+1))) (.i (qA.wrap (qA.wrap (2*(r:Int))+1)))) H2 :=
 hx N 60 [jF 2 2 H g0,jF 3 3 H g1,jO 5 5 H g2,jO 5 6 H g3,jO 5 11 H g4,jO 5 12 H g5,jC 5 13 g6,jT 5 14 H0 g7,jO 6 12 H0 g8,jO 6 13 H0 g9,jO 6 18 H0 g10,jO 6 19 H0 g11,jO 6 20 H0 g12,jS 6 21 g13,jO 6 22 H1 g14,jS 6 23 g15]
theorem Qli (r:Nat) {y11:HV} {a0:HV} {v0:HV} {a1:HV} {v1:HV} {c0:Int} {H0:Heap} (g0:¬((hi:Int)≤qA.wrap (qA.wrap (2*(r:Int))+1))) (g1:¬(qA.wrap (qA.wrap (qA.wrap (2*(r:Int))+1)+1)<(hi:Int))) (g2:IX 24 (.c db n cap) (.i (qA.wrap ((fi:Int)+(r:Int)))) (a0)) (g3:LD H 3 (a0) (v0)) (g4:IX 24 (.c db n cap) (.i (qA.wrap ((fi:Int)+qA.wrap (qA.wrap (2*(r:Int))+1)))) (a1)) (g5:LD H 3 (a1) (v1)) (g6:∀kf,N≤kf→Qc Tp polSo (kf+1) 69 [v0,v1,.q xb] H=some (.i c0,H0)) (g7:¬(c0<0)): RT polSo 109 (sn 12 VI) (XM db n cap lo hi fi (.func 69 [] [.q xb]) (.n r) y11) H .ret (XM db n cap lo hi fi (.func 69 [] [.q xb]) (.n r) (.i (qA.wrap (qA.wrap (2*(r:Int))+1)))) H0 :=
 hx N 60 [jF 2 2 H g0,jF 3 3 H g1,jO 5 5 H g2,jO 5 6 H g3,jO 5 11 H g4,jO 5 12 H g5,jC 5 13 g6,jF 5 14 H0 g7]
end
section
variable {xb:Nat}
noncomputable def J9:Code:=Try.f100.body.getD .skip
abbrev K4 (v0 v1 v2 v3 v8 v9 v10 v11 v12:HV):Env:=[(0,v0),(1,v1),(2,v2),(3,v3),(8,v8),(9,v9),(10,v10),(11,v11),(12,v12)]
end
abbrev XN (db:Nat) (n:Nat) (cap:Option Nat) (a:Nat) (b:Nat) (fi:Nat) (u3 u6 u7 u8:HV):Env:=K4 (.c db n cap) (.n a) (.n b) u3 (.n fi) (.i 0) u6 u7 u8
section
variable {xb:Nat}
variable (N:Nat) (db n:Nat) (cap:Option Nat) (H:Heap) (x:Nat) (a:Nat) (b:Nat)
include N db n cap H x a b
theorem Qlj:RT polSo 100 (sn 2 J9) [(0,.c db n cap),(1,.n a),(2,.n b),(3,.func 69 [] [.q xb])] H .normal (K4 (.c db n cap) (.n a) (.n b) (.func 69 [] [.q xb]) (.n a) Ud Ud Ud Ud) H :=
 hx N 60 []
end
section
variable {xb:Nat}
variable (N:Nat) (db n:Nat) (cap:Option Nat) (H:Heap) (x:Nat) (a:Nat) (b:Nat)
include N db n cap H x a b
theorem Qlk (fi:Nat) {y9 y10 y11 y12:HV}: RT polSo 100 (sn 6 J9) (K4 (.c db n cap) (.n a) (.n b) (.func 69 [] [.q xb]) (.n fi) y9 y10 y11 y12) H .normal (XN db n cap a b fi (.func 69 [] [.q xb]) y10 y11 y12) H :=
 hx N 60 []
theorem Qll (fi:Nat) {y10 y11 y12:HV}: RT polSo 100 (sn 14 J9) (XN db n cap a b fi (.func 69 [] [.q xb]) y10 y11 y12) H .normal (XN db n cap a b fi (.func 69 [] [.q xb]) (.i (qA.wrap ((b:Int)-(a:Int)))) y11 y12) H :=
 hx N 60 []
theorem Qlm (fi:Nat) (hi:Nat) {y11 y12:HV}: RT polSo 100 (sn 60 J9) (XN db n cap a b fi (.func 69 [] [.q xb]) (.n hi) y11 y12) H .normal (XN db n cap a b fi (.func 69 [] [.q xb]) (.n hi) (.i (qA.wrap ((qA.wrap ((hi:Int)-1):Int).tdiv 2))) y12) H :=
 hx N 60 []
theorem Qln (fi:Nat) (hi:Nat) (x:Int) {y12:HV} {H0:Heap} (g0:0≤x) (g1:∀kf,N≤kf→Qc Tp polSo (kf+1) 109 [.c db n cap,.i x,.n hi,.n fi,.func 69 [] [.q xb]] H=some (.tuple [],H0)): RT polSo 100 (sn 244 J9) (XN db n cap a b fi (.func 69 [] [.q xb]) (.n hi) (.i x) y12) H .normal (XN db n cap a b fi (.func 69 [] [.q xb]) (.n hi) (.i (qA.wrap (x-1))) y12) H0 :=
 hx N 60 [jT 4 1 H g0,jC 6 5 g1]
theorem Qlo (fi:Nat) (hi:Nat) (x:Int) {y12:HV} (g0:¬(0≤x)): RT polSo 100 (sn 244 J9) (XN db n cap a b fi (.func 69 [] [.q xb]) (.n hi) (.i x) y12) H (.exit 0) (XN db n cap a b fi (.func 69 [] [.q xb]) (.n hi) (.i x) y12) H :=
 hx N 60 [jF 4 1 H g0]
theorem Qlp (fi:Nat) (hi:Nat) {y11 y12:HV}: RT polSo 100 (sn 62 J9) (XN db n cap a b fi (.func 69 [] [.q xb]) (.n hi) y11 y12) H .normal (XN db n cap a b fi (.func 69 [] [.q xb]) (.n hi) y11 (.i (qA.wrap ((hi:Int)-1)))) H :=
 hx N 60 []
theorem Qlq (fi:Nat) (x:Int) {y10 y11:HV} {a0:HV} {v0:HV} {a1:HV} {v1:HV} {a2:HV} {H0:Heap} {a3:HV} {H1:Heap} {H2:Heap} (g0:0≤x) (g1:IX 24 (.c db n cap) (.i (qA.wrap ((fi:Int)+x))) (a0)) (g2:LD H 3 (a0) (v0)) (g3:IX 24 (.c db n cap) (.n fi) (a1)) (g4:LD H 3 (a1) (v1)) (g5:IX 24 (.c db n cap) (.n fi) (a2)) (g6:ST H 3 (a2) (v0) H0) (g7:IX 24 (.c db n cap) (.i (qA.wrap ((fi:Int)+x))) (a3)) (g8:ST H0 3 (a3) (v1) H1) (g9:∀kf,N≤kf→Qc Tp polSo (kf+1) 109 [.c db n cap,.i 0,.i x,.n fi,.func 69 [] [.q xb]] H1=some (.tuple [],H2)): RT polSo 100 (sn 252 J9) (XN db n cap a b fi (.func 69 [] [.q xb]) y10 y11 (.i x)) H .normal (XN db n cap a b fi (.func 69 [] [.q xb]) y10 y11 (.i (qA.wrap (x-1)))) H2 :=
 hx N 60 [jT 8 1 H g0,jO 10 10 H g1,jO 10 11 H g2,jO 10 14 H g3,jO 10 15 H g4,jO 10 16 H g5,jS 10 17 g6,jO 10 18 H0 g7,jS 10 19 g8,jC 11 5 g9]
theorem Qlr (fi:Nat) (x:Int) {y10 y11:HV} (g0:¬(0≤x)): RT polSo 100 (sn 252 J9) (XN db n cap a b fi (.func 69 [] [.q xb]) y10 y11 (.i x)) H (.exit 2) (XN db n cap a b fi (.func 69 [] [.q xb]) y10 y11 (.i x)) H :=
 hx N 60 [jF 8 1 H g0]
end
end Go.Proofs.Ytiejmoglooaalaa
end
section
open Go Go.HL Go.HL.So
namespace Go.Proofs.Ytiejmoglooaalaa
set_option linter.unusedSectionVars false
open Go.Proofs.Try renaming prog → Tp
open Go.HL.HV renaming undef → Ud
section
variable {α:Type} [Inhabited α]
def bE (enc:α→HV) (l:List α):Blk:=.arr 1 (l.map enc) true 0
def Mm (enc:α→HV) (H:Heap) (db:Nat) (l:List α) (T:Heap):Heap:=H.set db (bE enc l)++T
structure So (xb:Nat) (enc:α→HV) (lt:α→α→Prop) (dom:α→Prop) (H:Heap) (db n:Nat):Prop where
 nb:n≤60000
 hdb:db<H.length
 mx:mxs H≤H.length
 ld:∀(l:List α) (T:Heap) (i:Nat),l.length=n→i<n→QK Tp (Mm enc H db l T) 3 (.ptr db i 0 n)=some (enc (at_ l i))
 st:∀(l:List α) (T:Heap) (i:Nat) (x:α),l.length=n→i<n→Q3 Tp (Mm enc H db l T) 3 (.ptr db i 0 n) (enc x)=some (Mm enc H db (l.set i x) T)
 call:∀(l:List α) (T:Heap) (x y:α),l.length=n→mxs T=0→dom x→dom y→∃c N,(∀kf,N≤kf→Qc Tp polSo (kf+1) 69 [enc x,enc y,.ptr xb 0 0 1] (Mm enc H db l T)=some (.int .i64 c,Mm enc H db l T))∧(c<0↔lt x y)
end
section
variable {α:Type} [Inhabited α]
variable {xb:Nat} {enc:α→HV} {lt:α→α→Prop} {dom:α→Prop} {H:Heap} {db n:Nat} {cap:Option Nat}
theorem Qls (l l':List α) (T T':Heap) (h:T.length=T'.length):(Mm enc H db l T).length=(Mm enc H db l' T').length:=by simp [Mm,h]
theorem gcM (l l':List α) (T T':Heap) (r:Nat) (h:T.length=T'.length):gc (Mm enc H db l T).length r (Mm enc H db l' T')=Mm enc H db l' T':=QH r (Qls l' l T' T h.symm)
theorem Qtg:Tp.underlying 24=some (.slice 3):=by kernel_rfl
theorem z3s:Qs Tp 3=some 1:=by kernel_rfl
theorem ixs {i:Nat} {e:Int} (he:e=(i:Int)) (hi:i<n):Z4 Tp 24 (.sl db 0 n cap n 1) (.int .i64 e)=some (.ptr db i 0 n):=by
 subst he
 have:=Ch (P:=Tp) (t:=24) (b:=db) (len:=n) (tot:=n) (cap:=cap) (ik:=.i64) (n:=(i:Int)) Qtg z3s (by omega) (by omega)
 rwa [qE] at this
theorem So.ct (S:So xb enc lt dom H db n) {l:List α} {T:Heap} {x y:α} (hl:l.length=n) (hT:mxs T=0) (hx:dom x) (hy:dom y) (h:lt x y):∃c N,(∀kf,N≤kf→Qc Tp polSo (kf+1) 69 [enc x,enc y,.ptr xb 0 0 1] (Mm enc H db l T)=some (.int .i64 c,Mm enc H db l T))∧c<0:=by
 obtain ⟨c,N,hN,hc⟩:=S.call l T x y hl hT hx hy
 exact ⟨c,N,hN,hc.2 h⟩
theorem So.cf (S:So xb enc lt dom H db n) {l:List α} {T:Heap} {x y:α} (hl:l.length=n) (hT:mxs T=0) (hx:dom x) (hy:dom y) (h:¬lt x y):∃c N,(∀kf,N≤kf→Qc Tp polSo (kf+1) 69 [enc x,enc y,.ptr xb 0 0 1] (Mm enc H db l T)=some (.int .i64 c,Mm enc H db l T))∧¬(c<0):=by
 obtain ⟨c,N,hN,hc⟩:=S.call l T x y hl hT hx hy
 exact ⟨c,N,hN,fun q=>h (hc.1 q)⟩
def Dm (dom:α→Prop) (l:List α):Prop:=∀x∈l,dom x
theorem Dm.at {l:List α} (h:Dm dom l) {i:Nat} (hi:i<l.length):dom (at_ l i):=by
 have:at_ l i=l[i]:=by simp [at_,qF,qC hi]
 rw [this];exact h _ (List.getElem_mem hi)
theorem Dm.sw {l l':List α} {a b:Nat} (h:Dm dom l) (hs:Sw a b l l') (hb:b≤l.length):Dm dom l':=hs.mem hb h
theorem WL {l l':List α} {a b:Nat} (hs:Sw a b l l') (hl:l.length=n):l'.length=n:=hs.len.trans hl
theorem So.st2 (S:So xb enc lt dom H db n) {l:List α} {T:Heap} {i j:Nat} (hl:l.length=n) (hi:i<n) (hj:j<n):Q3 Tp (Mm enc H db l T) 3 (.ptr db i 0 n) (enc (at_ l j))=some (Mm enc H db (l.set i (at_ l j)) T)∧Q3 Tp (Mm enc H db (l.set i (at_ l j)) T) 3 (.ptr db j 0 n) (enc (at_ l i))=some (Mm enc H db (swp l i j) T) :=
 ⟨S.st l T i _ hl hi,S.st _ T j _ (by simpa using hl) hj⟩
theorem Qsz (S:So xb enc lt dom H db n) (hL:Lin lt) {T:Heap} (hT:mxs T=0) {a b i:Nat} (hi:i<n):∀(j:Nat) (l:List α),l.length=n→j≤i→a≤j→Dm dom l→SN lt a (i+1) j l →
  ∃y l',RT polSo 99 (sn 402 B99) (Xs (.sl db 0 n cap n 1) (.i (a:Int)) (.i (b:Int)) (.func 69 [] [.q xb]) (.i (i:Int)) (.i (j:Int))) (Mm enc H db l T) (.exit 2) (Xs (.sl db 0 n cap n 1) (.i (a:Int)) (.i (b:Int)) (.func 69 [] [.q xb]) (.i (i:Int)) y) (Mm enc H db l' T)∧Sw a (i+1) l l'∧QQ lt a (i+1) l':=by
 have hn:=S.nb
 intro j
 induction j with
 | zero =>
  intro l hl hj ha hD hS
  exact ⟨_,l,lpo (Qes (xb:=xb) 0 db n cap (Mm enc H db l T) 0 a b i 0 (by omega)),.refl,JW hL hS (.inl (qI _))⟩
 | succ j ih =>
  intro l hl hj ha hD hS
  by_cases c1:a<j+1
  ·by_cases c2:lt (at_ l (j+1)) (at_ l j)
   ·obtain ⟨cc,N,hN,hc⟩:=S.ct (T:=T) hl hT (hD.at (i:=j+1) (by omega)) (hD.at (i:=j) (by omega)) c2
    obtain ⟨s1,s2⟩:=S.st2 (T:=T) hl (i:=j+1) (j:=j) (by omega) (by omega)
    have sw:Sw a (i+1) l (swp l (j+1) j):=Sw.one (by omega) (by omega) (by omega) (by omega)
    have st:=Qk9 (xb:=xb) N db n cap (Mm enc H db l T) 0 a b i (j+1) (by omega) (ixs (i:=j+1) (by omega) (by omega)) (S.ld l T (j+1) hl (by omega)) (ixs (i:=j) (by simp only [WA];omega) (by omega)) (S.ld l T j hl (by omega)) hN hc (ixs (i:=j) (by simp only [WA];omega) (by omega)) (S.ld l T j hl (by omega)) (ixs (i:=j+1) (by omega) (by omega)) (S.ld l T (j+1) hl (by omega)) (ixs (i:=j+1) (by omega) (by omega)) s1 (ixs (i:=j) (by simp only [WA];omega) (by omega)) s2
    rw [show qA.wrap (((j+1:Nat):Int)-1)=(j:Int) by simp only [WA];omega] at st
    obtain ⟨y,l',r,q1,q2⟩:=ih (swp l (j+1) j) (by rw [swp_len];exact hl) (by omega) (by omega) (hD.sw sw (by omega)) (Yz hL (j:=j+1) (by omega) (by omega) c1 hS c2)
    exact ⟨y,l',lop (st) (gcM _ _ _ _ _ rfl) (r),sw.trans q1,q2⟩
   ·obtain ⟨cc,N,hN,hc⟩:=S.cf (T:=T) hl hT (hD.at (i:=j+1) (by omega)) (hD.at (i:=j) (by omega)) c2
    have st:=Qla (xb:=xb) N db n cap (Mm enc H db l T) 0 a b i (j+1) (by omega) (ixs (i:=j+1) (by omega) (by omega)) (S.ld l T (j+1) hl (by omega)) (ixs (i:=j) (by simp only [WA];omega) (by omega)) (S.ld l T j hl (by omega)) hN hc
    exact ⟨_,l,lpo (st),.refl,JW hL hS (.inr c2)⟩
  ·exact ⟨_,l,lpo (Qes (xb:=xb) 0 db n cap (Mm enc H db l T) 0 a b i (j+1) (by omega)),.refl,JW hL hS (.inl (by omega))⟩
theorem Qlt (S:So xb enc lt dom H db n) (hL:Lin lt) {T:Heap} (hT:mxs T=0) {a b:Nat} (hb:b≤n):∀(d i:Nat) (l:List α),i+d=b→a≤i→l.length=n→Dm dom l→QQ lt a i l →
  ∃l',RT polSo 99 (sn 6 B99) (Xs (.sl db 0 n cap n 1) (.i (a:Int)) (.i (b:Int)) (.func 69 [] [.q xb]) (.i (i:Int)) Ud) (Mm enc H db l T) (.exit 0) (Xs (.sl db 0 n cap n 1) (.i (a:Int)) (.i (b:Int)) (.func 69 [] [.q xb]) (.i (b:Int)) Ud) (Mm enc H db l' T)∧Sw a b l l'∧QQ lt a b l':=by
 have hn:=S.nb
 intro d
 induction d with
 | zero =>
  intro i l hi ha hl hD hS
  have:i=b:=by omega
  subst this
  exact ⟨l,lpo (sqo (Qer (xb:=xb) 0 db n cap (Mm enc H db l T) 0 a i i (by omega)) (c:=sn 12 B99) (b:=sn 25 B99)),.refl,hS⟩
 | succ d ih =>
  intro i l hi ha hl hD hS
  obtain ⟨y,l1,r1,q1,q2⟩:=Qsz S hL (cap:=cap) hT (a:=a) (b:=b) (i:=i) (by omega) i l hl (qD _) ha hD (XK hS)
  have r1':=lpi (e0:=(Xs (.sl db 0 n cap n 1) (.i (a:Int)) (.i (b:Int)) (.func 69 [] [.q xb]) (.i (i:Int)) (.i (i:Int)))) r1 (b:=sn 804 B99)
  have st:=sq (Qk7 (xb:=xb) 0 db n cap (Mm enc H db l T) 0 a b i (by omega) (y9:=Ud)) (sq (RunsTo.block_normal (i:=1) (c:=sn 50 B99) (sq (Qk8 (xb:=xb) 0 db n cap (Mm enc H db l T) 0 a b i) (bke (c:=sn 201 B99) (r1')) (c:=sn 100 B99)) (by kernel_rfl)) (Qlb (xb:=xb) 0 db n cap (Mm enc H db l1 T) 0 a b i) (c:=sn 25 B99)) (c:=sn 12 B99)
  rw [Qi (by omega)] at st
  obtain ⟨l',r,q3,q4⟩:=ih (i+1) l1 (by omega) (by omega) (WL q1 hl) (hD.sw q1 (by omega)) q2
  exact ⟨l',lop (st) (gcM _ _ _ _ _ rfl) (r),(q1.mono (qD _) (by omega)).trans q3,q4⟩
theorem Qlu (S:So xb enc lt dom H db n) (hL:Lin lt) {T:Heap} (hT:mxs T=0) {a b:Nat} (hab:a≤b) (hb:b≤n) {l:List α} (hl:l.length=n) (hD:Dm dom l) :
  ∃l',ClS 99 [.sl db 0 n cap n 1,.int .i64 (a:Int),.int .i64 (b:Int),.func 69 [] [.ptr xb 0 0 1]] (Mm enc H db l T) (.tuple []) (Mm enc H db l' T)∧Sw a b l l'∧QQ lt a b l':=by
 have hn:=S.nb
 have key:∃i l',RT polSo 99 (sn 6 B99) (Xs (.sl db 0 n cap n 1) (.i (a:Int)) (.i (b:Int)) (.func 69 [] [.q xb]) (.i ((a+1:Nat):Int)) Ud) (Mm enc H db l T) (.exit 0) (Xs (.sl db 0 n cap n 1) (.i (a:Int)) (.i (b:Int)) (.func 69 [] [.q xb]) (.i i) Ud) (Mm enc H db l' T)∧Sw a b l l'∧QQ lt a b l':=by
  by_cases c:a+1≤b
  ·obtain ⟨l',r,q⟩:=Qlt S hL (cap:=cap) hT (a:=a) hb (b-(a+1)) (a+1) l (by omega) (by omega) hl hD (fun p q h1 h2 h3=>by omega)
   exact ⟨_,l',r,q⟩
  ·exact ⟨_,l,lpo (sqo (Qer (xb:=xb) 0 db n cap (Mm enc H db l T) 0 a b (a+1) (by omega)) (c:=sn 12 B99) (b:=sn 25 B99)),.refl,fun p q h1 h2 h3=>by omega⟩
 obtain ⟨i,l',r,q⟩:=key
 have s0:=Qk6 (xb:=xb) 0 db n cap (Mm enc H db l T) 0 a b
 rw [Qi (by omega)] at s0
 have t:=sq (s0) (bke (c:=sn 3 B99) (r)) (c:=B99)
 have hc:=CallsTo.shared (P:=Tp) (pol:=polSo) (g:=99) (fn:=Try.f99) (cd:=B99) (args:=[.sl db 0 n cap n 1,.int .i64 (a:Int),.int .i64 (b:Int),.func 69 [] [.ptr xb 0 0 1]]) (v:=.tuple []) (by kernel_rfl) (by kernel_rfl) (by kernel_rfl) (by kernel_rfl) t (by kernel_rfl) (by simp) (by kernel_rfl)
 rw [gcM _ _ _ _ _ rfl] at hc
 exact ⟨l',hc,q⟩
theorem Qeu (S:So xb enc lt dom H db n) {T:Heap} {a b:Nat} (hb:b≤n):∀(d i j:Nat) (l:List α),j+1-i≤d→a≤i→j<b→l.length=n →
  ∃y1 y2 l',RT polSo 103 (sn 14 Cp) (K3 (.sl db 0 n cap n 1) (.i (a:Int)) (.i (b:Int)) (.i (i:Int)) (.i (j:Int))) (Mm enc H db l T) (.exit 0) (K3 (.sl db 0 n cap n 1) (.i (a:Int)) (.i (b:Int)) y1 y2) (Mm enc H db l' T)∧Sw a b l l':=by
 have hn:=S.nb
 intro d
 induction d with
 | zero =>
  intro i j l hd ha hj hl
  exact ⟨_,_,l,lpo (QbO 0 db n cap (Mm enc H db l T) 0 a b i j (by omega)),.refl⟩
 | succ d ih =>
  intro i j l hd ha hj hl
  by_cases c:i<j
  ·obtain ⟨s1,s2⟩:=S.st2 (T:=T) hl (i:=i) (j:=j) (by omega) (by omega)
   have st:=QgL 0 db n cap (Mm enc H db l T) 0 a b i j (by omega) (ixs (i:=j) rfl (by omega)) (S.ld l T j hl (by omega)) (ixs (i:=i) rfl (by omega)) (S.ld l T i hl (by omega)) (ixs (i:=i) rfl (by omega)) s1 (ixs (i:=j) rfl (by omega)) s2
   rw [Qi (by omega),QN (by omega) (by omega)] at st
   have sw:Sw a b l (swp l i j):=Sw.one (by omega) (by omega) (by omega) (by omega)
   obtain ⟨y1,y2,l',r,q⟩:=ih (i+1) (j-1) (swp l i j) (by omega) (by omega) (by omega) (by rw [swp_len];exact hl)
   exact ⟨y1,y2,l',lop (st) (gcM _ _ _ _ _ rfl) (r),sw.trans q⟩
  ·exact ⟨_,_,l,lpo (QbO 0 db n cap (Mm enc H db l T) 0 a b i j (by omega)),.refl⟩
theorem Qlv (S:So xb enc lt dom H db n) {T:Heap} {a b:Nat} (hab:a<b) (hb:b≤n) {l:List α} (hl:l.length=n) :
  ∃l',ClS 103 [.sl db 0 n cap n 1,.int .i64 (a:Int),.int .i64 (b:Int),.func 69 [] [.ptr xb 0 0 1]] (Mm enc H db l T) (.tuple []) (Mm enc H db l' T)∧Sw a b l l':=by
 have hn:=S.nb
 obtain ⟨y1,y2,l',r,q⟩:=Qeu S (cap:=cap) (T:=T) (a:=a) hb (b+1) a (b-1) l (by omega) (qD _) (by omega) hl
 have s0:=QgJ (xb:=xb) 0 db n cap (Mm enc H db l T) 0 a b
 have s1:=QgK 0 db n cap (Mm enc H db l T) 0 a b a (y9:=Ud)
 rw [QN (by omega) (by omega)] at s1
 have t:=sq (s0) (sq (s1) (bke (c:=sn 7 Cp) (r)) (c:=sn 3 Cp)) (c:=Cp)
 have hc:=CallsTo.shared (P:=Tp) (pol:=polSo) (g:=103) (fn:=Try.f103) (cd:=Cp) (args:=[.sl db 0 n cap n 1,.int .i64 (a:Int),.int .i64 (b:Int),.func 69 [] [.ptr xb 0 0 1]]) (v:=.tuple []) (by kernel_rfl) (by kernel_rfl) (by kernel_rfl) (by kernel_rfl) t (by kernel_rfl) (by simp) (by kernel_rfl)
 rw [gcM _ _ _ _ _ rfl] at hc
 exact ⟨l',hc,q⟩
end
section
variable {xb:Nat} {α:Type} [Inhabited α] {enc:α→HV} {lt:α→α→Prop} {dom:α→Prop} {H:Heap} {db n:Nat} {cap:Option Nat}
theorem ClS.from {g:FuncId} {args:List HV} {H H':Heap} {r:HV} (h:ClS g args H r H'):∃N,∀kf,N≤kf→Qc Tp polSo (kf+1) g args H=some (r,H'):=CallsTo.from h
set_option maxHeartbeats 4000000 in
theorem QgM (S:So xb enc lt dom H db n) (hL:Lin lt) {T:Heap} (hT:mxs T=0) {lo hi fi:Nat} (hfi:fi+hi≤n):∀(d r:Nat) (l:List α),hi-r≤d→lo≤r→r<hi+1→l.length=n→Dm dom l→HpX lt fi lo hi r l →
  ∃x y1 y2 l',RT polSo 109 (sn 6 VI) (XL (.sl db 0 n cap n 1) (.i (lo:Int)) (.i (hi:Int)) (.i (fi:Int)) (.func 69 [] [.q xb]) (.i (r:Int)) Ud) (Mm enc H db l T) x (XL (.sl db 0 n cap n 1) (.i (lo:Int)) (.i (hi:Int)) (.i (fi:Int)) (.func 69 [] [.q xb]) y1 y2) (Mm enc H db l' T)∧(x=.exit 0∨x=.ret)∧Sw fi (fi+hi) l l'∧Hp lt fi lo hi l':=by
 have hn:=S.nb
 intro d
 induction d with
 | zero =>
  intro r l hd hr hr2 hl hD hX
  exact ⟨_,_,_,l,lpo (Qet (xb:=xb) 0 db n cap (Mm enc H db l T) 0 lo hi fi r (by rw [Qr (n:=2*(r:Int)) (by omega) (by omega),Qr (by omega) (by omega)];omega)),.inl rfl,.refl,Yf hL hX (fun c h1 h2=>by omega)⟩
 | succ d ih =>
  intro r l hd hr hr2 hl hD hX
  by_cases c0:hi≤2*r+1
  ·exact ⟨_,_,_,l,lpo (Qet (xb:=xb) 0 db n cap (Mm enc H db l T) 0 lo hi fi r (by rw [Qr (n:=2*(r:Int)) (by omega) (by omega),Qr (by omega) (by omega)];omega)),.inl rfl,.refl,Yf hL hX (fun c h1 h2=>by omega)⟩
  have e0:qA.wrap (2*(r:Int))=((2*r:Nat):Int):=(by rw [Qr (by omega) (by omega)];omega)
  have e1:qA.wrap (qA.wrap (2*(r:Int))+1)=((2*r+1:Nat):Int):=by rw [e0,Qr (by omega) (by omega)];omega
  have e2:qA.wrap (qA.wrap (qA.wrap (2*(r:Int))+1)+1)=((2*r+2:Nat):Int):=by rw [e1,Qr (by omega) (by omega)];omega
  have f0:qA.wrap ((fi:Int)+(r:Int))=((fi+r:Nat):Int):=(by rw [Qr (by omega) (by omega)];omega)
  have f1:qA.wrap ((fi:Int)+qA.wrap (qA.wrap (2*(r:Int))+1))=((fi+(2*r+1):Nat):Int):=by rw [e1,Qr (by omega) (by omega)];omega
  have f2:qA.wrap ((fi:Int)+qA.wrap (qA.wrap (qA.wrap (2*(r:Int))+1)+1))=((fi+(2*r+2):Nat):Int):=by rw [e2,Qr (by omega) (by omega)];omega
  have f3:qA.wrap (qA.wrap ((fi:Int)+qA.wrap (qA.wrap (2*(r:Int))+1))+1)=((fi+(2*r+2):Nat):Int):=by rw [f1,Qr (by omega) (by omega)];omega
  have w1:fi+r<n:=by omega
  have w2:fi+(2*r+1)<n:=by omega
  have next:∀c,(c=2*r+1∨c=2*r+2)→c<hi→(∀c',(c'=2*r+1∨c'=2*r+2)→c'<hi→¬lt (at_ l (fi+c)) (at_ l (fi+c')))→lt (at_ l (fi+r)) (at_ l (fi+c)) →
    RT polSo 109 (sn 12 VI) (XL (.sl db 0 n cap n 1) (.i (lo:Int)) (.i (hi:Int)) (.i (fi:Int)) (.func 69 [] [.q xb]) (.i (r:Int)) Ud) (Mm enc H db l T) .normal (XL (.sl db 0 n cap n 1) (.i (lo:Int)) (.i (hi:Int)) (.i (fi:Int)) (.func 69 [] [.q xb]) (.i (c:Int)) (.i (c:Int))) (Mm enc H db (swp l (fi+r) (fi+c)) T) →
    ∃x y1 y2 l',RT polSo 109 (sn 6 VI) (XL (.sl db 0 n cap n 1) (.i (lo:Int)) (.i (hi:Int)) (.i (fi:Int)) (.func 69 [] [.q xb]) (.i (r:Int)) Ud) (Mm enc H db l T) x (XL (.sl db 0 n cap n 1) (.i (lo:Int)) (.i (hi:Int)) (.i (fi:Int)) (.func 69 [] [.q xb]) y1 y2) (Mm enc H db l' T)∧(x=.exit 0∨x=.ret)∧Sw fi (fi+hi) l l'∧Hp lt fi lo hi l':=by
   intro c h1 h2 h3 h4 st
   have sw:Sw fi (fi+hi) l (swp l (fi+r) (fi+c)):=Sw.one (by omega) (by omega) (by omega) (by omega)
   obtain ⟨x,y1,y2,l',q,q1,q2,q3⟩:=ih c _ (by omega) (by omega) (by omega) (by rw [swp_len];exact hl) (hD.sw sw (by omega)) (Qee hL (by omega) hX hr h1 h2 h3 h4)
   exact ⟨x,y1,y2,l',lop (st) (gcM _ _ _ _ _ rfl) (q),q1,sw.trans q2,q3⟩
  have ld:=fun k (hk:k<hi)=>S.ld l T (fi+k) hl (by omega)
  by_cases c1:2*r+2<hi
  ·have w3:fi+(2*r+2)<n:=by omega
   by_cases c2:lt (at_ l (fi+(2*r+1))) (at_ l (fi+(2*r+2)))
   ·obtain ⟨cc1,N1,hN1,hc1⟩:=S.ct (T:=T) hl hT (hD.at (i:=fi+(2*r+1)) (by omega)) (hD.at (i:=fi+(2*r+2)) (by omega)) c2
    by_cases c3:lt (at_ l (fi+r)) (at_ l (fi+(2*r+2)))
    ·obtain ⟨cc2,N2,hN2,hc2⟩:=S.ct (T:=T) hl hT (hD.at (i:=fi+r) (by omega)) (hD.at (i:=fi+(2*r+2)) (by omega)) c3
     obtain ⟨s1,s2⟩:=S.st2 (T:=T) hl (i:=fi+r) (j:=fi+(2*r+2)) (by omega) (by omega)
     have st:=Qld (xb:=xb) (N1+N2) db n cap (Mm enc H db l T) 0 lo hi fi r (by rw [e1];omega) (by rw [e2];omega) (ixs f1 w2) (ld _ (by omega)) (ixs f3 w3) (ld _ (by omega)) (fun kf hk=>hN1 kf (by omega)) hc1
      (ixs f0 w1) (ld r (by omega)) (ixs f2 w3) (ld _ (by omega)) (fun kf hk=>hN2 kf (by omega)) hc2 (ixs f2 w3) (ld _ (by omega)) (ixs f0 w1) (ld r (by omega)) (ixs f0 w1) s1 (ixs f2 w3) s2 (y11:=Ud)
     rw [e2] at st
     exact next (2*r+2) (by omega) (by omega) (fun c' h1 h2=>by
      rcases h1 with rfl | rfl
      ·exact hL.asy _ _ c2
      ·exact hL.rf _) c3 st
    ·obtain ⟨cc2,N2,hN2,hc2⟩:=S.cf (T:=T) hl hT (hD.at (i:=fi+r) (by omega)) (hD.at (i:=fi+(2*r+2)) (by omega)) c3
     have st:=Qle (xb:=xb) (N1+N2) db n cap (Mm enc H db l T) 0 lo hi fi r (by rw [e1];omega) (by rw [e2];omega) (ixs f1 w2) (ld _ (by omega)) (ixs f3 w3) (ld _ (by omega)) (fun kf hk=>hN1 kf (by omega)) hc1
      (ixs f0 w1) (ld r (by omega)) (ixs f2 w3) (ld _ (by omega)) (fun kf hk=>hN2 kf (by omega)) hc2 (y11:=Ud)
     exact ⟨_,_,_,l,lpo (st),.inr rfl,.refl,Yf hL hX fun c' h1 h2=>by
      rcases h1 with rfl | rfl
      ·exact hL.tr _ _ _ (hL.asy _ _ c2) c3
      ·exact c3⟩
   ·obtain ⟨cc1,N1,hN1,hc1⟩:=S.cf (T:=T) hl hT (hD.at (i:=fi+(2*r+1)) (by omega)) (hD.at (i:=fi+(2*r+2)) (by omega)) c2
    by_cases c3:lt (at_ l (fi+r)) (at_ l (fi+(2*r+1)))
    ·obtain ⟨cc2,N2,hN2,hc2⟩:=S.ct (T:=T) hl hT (hD.at (i:=fi+r) (by omega)) (hD.at (i:=fi+(2*r+1)) (by omega)) c3
     obtain ⟨s1,s2⟩:=S.st2 (T:=T) hl (i:=fi+r) (j:=fi+(2*r+1)) (by omega) (by omega)
     have st:=Qlf (xb:=xb) (N1+N2) db n cap (Mm enc H db l T) 0 lo hi fi r (by rw [e1];omega) (by rw [e2];omega) (ixs f1 w2) (ld _ (by omega)) (ixs f3 w3) (ld _ (by omega)) (fun kf hk=>hN1 kf (by omega)) hc1
      (ixs f0 w1) (ld r (by omega)) (ixs f1 w2) (ld _ (by omega)) (fun kf hk=>hN2 kf (by omega)) hc2 (ixs f1 w2) (ld _ (by omega)) (ixs f0 w1) (ld r (by omega)) (ixs f0 w1) s1 (ixs f1 w2) s2 (y11:=Ud)
     rw [e1] at st
     exact next (2*r+1) (by omega) (by omega) (fun c' h1 h2=>by
      rcases h1 with rfl | rfl
      ·exact hL.rf _
      ·exact c2) c3 st
    ·obtain ⟨cc2,N2,hN2,hc2⟩:=S.cf (T:=T) hl hT (hD.at (i:=fi+r) (by omega)) (hD.at (i:=fi+(2*r+1)) (by omega)) c3
     have st:=Qlg (xb:=xb) (N1+N2) db n cap (Mm enc H db l T) 0 lo hi fi r (by rw [e1];omega) (by rw [e2];omega) (ixs f1 w2) (ld _ (by omega)) (ixs f3 w3) (ld _ (by omega)) (fun kf hk=>hN1 kf (by omega)) hc1
      (ixs f0 w1) (ld r (by omega)) (ixs f1 w2) (ld _ (by omega)) (fun kf hk=>hN2 kf (by omega)) hc2 (y11:=Ud)
     exact ⟨_,_,_,l,lpo (st),.inr rfl,.refl,Yf hL hX fun c' h1 h2=>by
      rcases h1 with rfl | rfl
      ·exact c3
      ·exact hL.tr _ _ _ c2 c3⟩
  ·by_cases c3:lt (at_ l (fi+r)) (at_ l (fi+(2*r+1)))
   ·obtain ⟨cc2,N2,hN2,hc2⟩:=S.ct (T:=T) hl hT (hD.at (i:=fi+r) (by omega)) (hD.at (i:=fi+(2*r+1)) (by omega)) c3
    obtain ⟨s1,s2⟩:=S.st2 (T:=T) hl (i:=fi+r) (j:=fi+(2*r+1)) (by omega) (by omega)
    have st:=Qlh (xb:=xb) N2 db n cap (Mm enc H db l T) 0 lo hi fi r (by rw [e1];omega) (by rw [e2];omega)
      (ixs f0 w1) (ld r (by omega)) (ixs f1 w2) (ld _ (by omega)) (fun kf hk=>hN2 kf (by omega)) hc2 (ixs f1 w2) (ld _ (by omega)) (ixs f0 w1) (ld r (by omega)) (ixs f0 w1) s1 (ixs f1 w2) s2 (y11:=Ud)
    rw [e1] at st
    exact next (2*r+1) (by omega) (by omega) (fun c' h1 h2=>by
      have:c'=2*r+1:=by omega
      subst this
      exact hL.rf _) c3 st
   ·obtain ⟨cc2,N2,hN2,hc2⟩:=S.cf (T:=T) hl hT (hD.at (i:=fi+r) (by omega)) (hD.at (i:=fi+(2*r+1)) (by omega)) c3
    have st:=Qli (xb:=xb) N2 db n cap (Mm enc H db l T) 0 lo hi fi r (by rw [e1];omega) (by rw [e2];omega)
      (ixs f0 w1) (ld r (by omega)) (ixs f1 w2) (ld _ (by omega)) (fun kf hk=>hN2 kf (by omega)) hc2 (y11:=Ud)
    exact ⟨_,_,_,l,lpo (st),.inr rfl,.refl,Yf hL hX fun c' h1 h2=>by
      have:c'=2*r+1:=by omega
      subst this
      exact c3⟩
theorem QbP (S:So xb enc lt dom H db n) (hL:Lin lt) {T:Heap} (hT:mxs T=0) {lo hi fi:Nat} (hlo:lo≤hi) (hfi:fi+hi≤n) {l:List α} (hl:l.length=n) (hD:Dm dom l) (hH:Hp lt fi (lo+1) hi l) :
  ∃l',ClS 109 [.sl db 0 n cap n 1,.int .i64 (lo:Int),.int .i64 (hi:Int),.int .i64 (fi:Int),.func 69 [] [.ptr xb 0 0 1]] (Mm enc H db l T) (.tuple []) (Mm enc H db l' T)∧Sw fi (fi+hi) l l'∧Hp lt fi lo hi l':=by
 obtain ⟨x,y1,y2,l',r,q1,q2⟩:=QgM S hL (cap:=cap) hT hfi (hi+1) lo l (by omega) (qD _) (by omega) hl hD (Qc0 hH)
 have s0:=Qlc (xb:=xb) 0 db n cap (Mm enc H db l T) 0 lo hi fi
 rcases q1 with rfl | rfl
 ·have t:=sq (s0) (bke (c:=sn 3 VI) (r)) (c:=VI)
  have hc:=CallsTo.shared (P:=Tp) (pol:=polSo) (g:=109) (fn:=Try.f109) (cd:=VI) (args:=[.sl db 0 n cap n 1,.int .i64 (lo:Int),.int .i64 (hi:Int),.int .i64 (fi:Int),.func 69 [] [.ptr xb 0 0 1]]) (v:=.tuple []) (by kernel_rfl) (by kernel_rfl) (by kernel_rfl) (by kernel_rfl) t (by kernel_rfl) (by simp) (by kernel_rfl)
  rw [gcM _ _ _ _ _ rfl] at hc
  exact ⟨l',hc,q2⟩
 ·have t:=sq (s0) (RunsTo.block_ret (i:=0) (c:=sn 3 VI) (r) (by kernel_rfl)) (c:=VI)
  have hc:=CallsTo.shared (P:=Tp) (pol:=polSo) (g:=109) (fn:=Try.f109) (cd:=VI) (args:=[.sl db 0 n cap n 1,.int .i64 (lo:Int),.int .i64 (hi:Int),.int .i64 (fi:Int),.func 69 [] [.ptr xb 0 0 1]]) (v:=.tuple []) (by kernel_rfl) (by kernel_rfl) (by kernel_rfl) (by kernel_rfl) t (by kernel_rfl) (by simp) (by kernel_rfl)
  rw [gcM _ _ _ _ _ rfl] at hc
  exact ⟨l',hc,q2⟩
theorem Qev (S:So xb enc lt dom H db n) (hL:Lin lt) {T:Heap} (hT:mxs T=0) {a b hi:Nat} (hhi:a+hi≤n):∀(k:Nat) (l:List α),k≤hi→l.length=n→Dm dom l→Hp lt a k hi l →
  ∃l',RT polSo 100 (sn 122 J9) (K4 (.sl db 0 n cap n 1) (.i (a:Int)) (.i (b:Int)) (.func 69 [] [.q xb]) (.i (a:Int)) (.i 0) (.i (hi:Int)) (.i ((k:Int)-1)) Ud) (Mm enc H db l T) (.exit 0) (K4 (.sl db 0 n cap n 1) (.i (a:Int)) (.i (b:Int)) (.func 69 [] [.q xb]) (.i (a:Int)) (.i 0) (.i (hi:Int)) (.i (-1)) Ud) (Mm enc H db l' T)∧Sw a (a+hi) l l'∧Hp lt a 0 hi l':=by
 have hn:=S.nb
 intro k
 induction k with
 | zero =>
  intro l hk hl hD hH
  exact ⟨l,lpo (Qlo (xb:=xb) 0 db n cap (Mm enc H db l T) 0 a b a hi (((0:Nat):Int)-1) (by omega)),.refl,hH⟩
 | succ k ih =>
  intro l hk hl hD hH
  obtain ⟨l1,hc,q1,q2⟩:=QbP S hL (cap:=cap) hT (lo:=k) (by omega) hhi hl hD hH
  obtain ⟨N,hN⟩:=hc.from
  have st:=Qln (xb:=xb) N db n cap (Mm enc H db l T) 0 a b a hi (k:Int) (y12:=Ud) (by omega) hN
  rw [show qA.wrap ((k:Int)-1)=(k:Int)-1 by simp only [WA];omega] at st
  obtain ⟨l',r,q3,q4⟩:=ih l1 (by omega) (WL q1 hl) (hD.sw q1 (by omega)) q2
  rw [show ((k+1:Nat):Int)-1=(k:Int) by omega]
  exact ⟨l',lop (st) (gcM _ _ _ _ _ rfl) (r),q1.trans q3,q4⟩
theorem QgN (S:So xb enc lt dom H db n) (hL:Lin lt) {T:Heap} (hT:mxs T=0) {a b hi:Nat} (hhi:a+hi≤n):∀(k:Nat) (l:List α),k≤hi→l.length=n→Dm dom l→QbK lt a hi k l →
  ∃l',RT polSo 100 (sn 126 J9) (K4 (.sl db 0 n cap n 1) (.i (a:Int)) (.i (b:Int)) (.func 69 [] [.q xb]) (.i (a:Int)) (.i 0) Ud Ud (.i ((k:Int)-1))) (Mm enc H db l T) (.exit 2) (K4 (.sl db 0 n cap n 1) (.i (a:Int)) (.i (b:Int)) (.func 69 [] [.q xb]) (.i (a:Int)) (.i 0) Ud Ud (.i (-1))) (Mm enc H db l' T)∧Sw a (a+hi) l l'∧QbK lt a hi 0 l':=by
 have hn:=S.nb
 intro k
 induction k with
 | zero =>
  intro l hk hl hD hH
  exact ⟨l,lpo (Qlr (xb:=xb) 0 db n cap (Mm enc H db l T) 0 a b a (((0:Nat):Int)-1) (by omega)),.refl,hH⟩
 | succ k ih =>
  intro l hk hl hD hH
  obtain ⟨p1,p2,p3⟩:=QgB hL (by omega) (by omega) hH
  have sw:Sw a (a+hi) l (swp l a (a+k)):=Sw.one (by omega) (by omega) (by omega) (by omega)
  have hl1:=WL sw hl
  obtain ⟨l1,hc,q1,q2⟩:=QbP S hL (cap:=cap) hT (lo:=0) (hi:=k) (fi:=a) (qI _) (by omega) hl1 (hD.sw sw (by omega)) p1
  obtain ⟨N,hN⟩:=hc.from
  obtain ⟨s1,s2⟩:=S.st2 (T:=T) hl (i:=a) (j:=a+k) (by omega) (by omega)
  have st:=Qlq (xb:=xb) N db n cap (Mm enc H db l T) 0 a b a (k:Int) (y10:=Ud) (y11:=Ud) (by omega) (ixs (i:=a+k) (by simp only [WA];omega) (by omega)) (S.ld l T _ hl (by omega)) (ixs (i:=a) rfl (by omega)) (S.ld l T _ hl (by omega)) (ixs (i:=a) rfl (by omega)) s1 (ixs (i:=a+k) (by simp only [WA];omega) (by omega)) s2 hN
  rw [show qA.wrap ((k:Int)-1)=(k:Int)-1 by simp only [WA];omega] at st
  have sw2:Sw a (a+hi) l l1:=sw.trans (q1.mono (qD _) (by omega))
  have hI:QbK lt a hi k l1:=by
   refine ⟨q2,fun p q h1 h2 h3=>?_,fun p q h1 h2 h3=>?_⟩
   ·rw [q1.out (by rw [hl1];omega) (k:=a+p) (by omega),q1.out (by rw [hl1];omega) (k:=a+q) (by omega)]
    exact p2 p q h1 h2 h3
   ·rw [q1.out (by rw [hl1];omega) (k:=a+q) (by omega)]
    have:=q1.all (by rw [hl1];omega) (Q:=fun x=>¬lt (at_ (swp l a (a+k)) (a+q)) x) (lo:=a) (hi:=a+k) (qD _) (qD _) (fun i h4 h5=>by
     obtain ⟨m,rfl⟩:∃m,i=a+m:=⟨i-a,by omega⟩
     exact p3 m q (by omega) h2 h3)
    exact this (a+p) (by omega) (by omega)
  obtain ⟨l',r,q3,q4⟩:=ih l1 (by omega) (WL sw2 hl) (hD.sw sw2 (by omega)) hI
  rw [show ((k+1:Nat):Int)-1=(k:Int) by omega]
  exact ⟨l',lop (st) (gcM _ _ _ _ _ rfl) (r),sw2.trans q3,q4⟩
theorem QgO (S:So xb enc lt dom H db n) (hL:Lin lt) {T:Heap} (hT:mxs T=0) {a b:Nat} (hab:a<b) (hb:b≤n) {l:List α} (hl:l.length=n) (hD:Dm dom l) :
  ∃l',ClS 100 [.sl db 0 n cap n 1,.int .i64 (a:Int),.int .i64 (b:Int),.func 69 [] [.ptr xb 0 0 1]] (Mm enc H db l T) (.tuple []) (Mm enc H db l' T)∧Sw a b l l'∧QQ lt a b l':=by
 have hn:=S.nb
 obtain ⟨hi,rfl⟩:∃hi,b=a+hi:=⟨b-a,by omega⟩
 have h0:Hp lt a ((hi-1)/2+1) hi l:=fun k c h1 h2 h3=>by omega
 obtain ⟨l1,r1,q1,q2⟩:=Qev S hL (cap:=cap) hT (b:=a+hi) (by omega) ((hi-1)/2+1) l (by omega) hl hD h0
 have hl1:=WL q1 hl
 obtain ⟨l2,r2,q3,q4⟩:=QgN S hL (cap:=cap) hT (b:=a+hi) (by omega) hi l1 (qD _) hl1 (hD.sw q1 (by omega)) ⟨q2,fun p q h1 h2 h3=>by omega,fun p q h1 h2 h3=>by omega⟩
 have s0:=Qlj (xb:=xb) 0 db n cap (Mm enc H db l T) 0 a (a+hi)
 have s1:=Qlk (xb:=xb) 0 db n cap (Mm enc H db l T) 0 a (a+hi) a (y9:=Ud) (y10:=Ud) (y11:=Ud) (y12:=Ud)
 have s2:=Qll (xb:=xb) 0 db n cap (Mm enc H db l T) 0 a (a+hi) a (y10:=Ud) (y11:=Ud) (y12:=Ud)
 rw [show qA.wrap (((a+hi:Nat):Int)-(a:Int))=(hi:Int) by simp only [WA];omega] at s2
 have s3:=Qlm (xb:=xb) 0 db n cap (Mm enc H db l T) 0 a (a+hi) a hi (y11:=Ud) (y12:=Ud)
 rw [show qA.wrap ((qA.wrap ((hi:Int)-1):Int).tdiv 2)=(((hi-1)/2+1:Nat):Int)-1 by
  rw [show qA.wrap ((hi:Int)-1)=((hi-1:Nat):Int) by simp only [WA];omega,Int.tdiv_eq_ediv_of_nonneg (by omega)]
  simp only [WA];omega] at s3
 have r1':=lpi (e0:=(K4 (.sl db 0 n cap n 1) (.i (a:Int)) (.i ((a+hi:Nat):Int)) (.func 69 [] [.q xb]) (.i (a:Int)) (.i 0) (.i (hi:Int)) (.i ((((hi-1)/2+1:Nat):Int)-1)) Ud)) r1 (b:=sn 244 J9)
 have s4:=Qlp (xb:=xb) 0 db n cap (Mm enc H db l1 T) 0 a (a+hi) a hi (y11:=.i (-1)) (y12:=Ud)
 rw [show qA.wrap ((hi:Int)-1)=(hi:Int)-1 by simp only [WA];omega] at s4
 have r2':=lpi (e0:=(K4 (.sl db 0 n cap n 1) (.i (a:Int)) (.i ((a+hi:Nat):Int)) (.func 69 [] [.q xb]) (.i (a:Int)) (.i 0) (.i (hi:Int)) (.i (-1)) (.i ((hi:Int)-1)))) r2 (b:=sn 252 J9)
 have t:=sq (s0) (sq (s1) (sq (s2) (sq (sq (s3) (bke (c:=sn 61 J9) (r1')) (c:=sn 30 J9)) (sq (s4) (bke (c:=sn 63 J9) (r2')) (c:=sn 31 J9)) (c:=sn 15 J9)) (c:=sn 7 J9)) (c:=sn 3 J9)) (c:=J9)
 have hc:=CallsTo.shared (P:=Tp) (pol:=polSo) (g:=100) (fn:=Try.f100) (cd:=J9) (args:=[.sl db 0 n cap n 1,.int .i64 (a:Int),.int .i64 ((a+hi:Nat):Int),.func 69 [] [.ptr xb 0 0 1]]) (v:=.tuple []) (by kernel_rfl) (by kernel_rfl) (by kernel_rfl) (by kernel_rfl) t (by kernel_rfl) (by simp) (by kernel_rfl)
 rw [gcM _ _ _ _ _ rfl] at hc
 refine ⟨l2,hc,q1.trans q3,fun i j h1 h2 h3=>?_⟩
 have:=q4.2.1 (i-a) (j-a) (qI _) (by omega) (by omega)
 rwa [show a+(i-a)=i by omega,show a+(j-a)=j by omega] at this
end
end Go.Proofs.Ytiejmoglooaalaa
end
