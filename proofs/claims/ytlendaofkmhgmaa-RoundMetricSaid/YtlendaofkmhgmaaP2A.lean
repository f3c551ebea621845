/- A part of the proof. -/
import Derived.Test.YtlendaofkmhgmaaHlA
import Derived.Test.YtlendaofkmhgmaaHlB
import Derived.Test.YtlendaofkmhgmaaHlC
import Derived.Test.YtlendaofkmhgmaaHlD
import Derived.Test.YtlendaofkmhgmaaHlE
import Derived.Test.YtlendaofkmhgmaaHlF
import Derived.Test.YtlendaofkmhgmaaHlG
import Derived.ProofKit
import Derived.Test.YtlendaofkmhgmaaProg
import Derived.Shelf.SlIterI.Sorted
import Derived.RangeFuncBox
import Derived.RangeFuncLeaves
import Derived.Shelf.Abstract
import Derived.WalkKit
import Derived.OwnWalkIn
import Derived.TacticsInMore
import Derived.LoopNIn
import Derived.LoopIn
import Derived.Shelf.Sort.Plain
import Derived.Shelf.Slices.In.SortNone
import Derived.Deep.Slices
import Derived.OpenShut
set_option linter.unusedVariables false
set_option linter.unusedSimpArgs false
set_option linter.unnecessarySimpa false
open Go.IntKind renaming i64 → qA
open List renaming length_map → qB, getElem?_eq_getElem → qC, getD → qF, map_cons → qG, length_take → qI, range → qJ, getElem?_map → qK, getElem?_append_left → qL, getElem?_take → qM, mem_cons → qN, length_cons → qO, getElem?_append_right → qQ, mem_singleton → qR, take_of_length_le → qU, not_mem_nil → qV, nodup_nil → qW, drop_eq_getElem_cons → qZ, getElem?_set → jA, forall_mem_cons → jG, getElem?_set_ne → jH, getElem?_set_self → jI, mem_zipIdx_iff_getElem? → jJ, any_eq_false → jN, nodup_cons → jP, drop_zero → jU, getElem_mem → jV, take_succ_eq_append_getElem → jW, mem_or_eq_of_mem_set → jX, length_nil → jY, length_drop → zA
open Nat renaming le_refl → qD, zero_le → qT, sub_le → qX, pow_le_pow_right → qY, exists_testBit_of_ne_zero → jQ, min_eq_left → zB, ge_two_pow_of_testBit → zC
open Int renaming toNat_natCast → qE, natCast_nonneg → jZ, fdiv_eq_ediv_of_nonneg → zD
open Bool renaming and_eq_true → qH, false_eq_true → qS, and_true → jE
open Option renaming map → qP
namespace Go.HL
abbrev HV.i (n:Int):HV:=.int .i64 n
abbrev HV.a (l:List HV):HV:=.imm .arg 1 l
abbrev HV.s (b n:Nat):HV:=.sl b 0 n none n 1
abbrev HV.c (b n:Nat) (cap:Option Nat):HV:=.sl b 0 n cap n 1
abbrev HV.o (b n:Nat):HV:=.sl b 0 n (some n) n 1
abbrev HV.g (l:List HV):HV:=.imm .arg 3 l
abbrev HV.N (n:Int) (l:List HV):HV:=.agg [.int .i64 n,.imm .arg 3 l]
abbrev HV.q (b:Nat):HV:=.ptr b 0 0 1
abbrev HV.n (n:Nat):HV:=.int .i64 (n:Int)
def pb:Nat→Nat→List Nat→List Nat
 | 0,_,a=>a
 | k+1,n,a=>if n<2 then a else pb k (n/2) (n%2::a)
abbrev sn (n:Nat) (c:Code):Code:=sub (pb 60 n []) c
abbrev Blk.b (l:List HV):Blk:=.arr 1 l true 0
section
variable {P:Program} {pol:Pol} {f:FuncId} {c:Code} {e E:Env} {H H':Heap} {x:X} {K:List Nat}
theorem RunsTo.hin (d n:Nat) (hs:List VW) (h:∀k,d≤k→∃ob,VH K (Kq P pol (Qa P pol (k+1)) n f c e H hs)=some (x,E,H',ob)∧Obls ob):RunsTo P pol f c e H x K E H':=RunsTo.hint (d+1) n hs fun k hk=>by
 obtain ⟨k,rfl⟩:∃n,k=n+1:=⟨k-1,by omega⟩
 exact h k (by omega)
theorem oC {p:Prop} {os:List Prop} (h:p) (t:Obls os):Obls (p::os):=Obls.cons h t
theorem oP (H:Heap) {r:Option HV} {v:HV} {os:List Prop} (h:r=some v) (t:Obls os):Obls ((r.map (fun v=>(v,H))=some (v,H))::os):=Obls.cons (Qb7 h) t
theorem oS {r:Option Heap} {H:Heap} {os:List Prop} (h:r=some H) (t:Obls os):Obls ((r.map (fun H=>(HV.tuple [],H))=some (.tuple [],H))::os):=Obls.cons (Qb8 h) t
theorem oB (H:Heap) {p b:Bool} {os:List Prop} (h:p=b) (t:Obls os):Obls ((some (HV.bool p,H)=some (HV.bool b,H))::os):=Obls.cons (QgF h) t
/-- A hint with what is to be shown for it. -/
structure HO (d:Nat) where
 h:Option VW
 p:Nat→Prop
 q:∀k,d≤k→p k
variable {d:Nat}
def jO (rg i:Nat) (H:Heap) {r:Option HV} {v:HV} (g:r=some v):HO d:=⟨some ⟨rg,i,v,H⟩,fun _=>r.map (fun v=>(v,H))=some (v,H),fun _ _=>Qb7 g⟩
def jB (rg i:Nat) (H:Heap) {p b:Bool} (g:p=b):HO d:=⟨some ⟨rg,i,.bool b,H⟩,fun _=>some (HV.bool p,H)=some (HV.bool b,H),fun _ _=>QgF g⟩
def jT (rg i:Nat) (H:Heap) {p:Prop} [Decidable p] (g:p):HO d:=jB rg i H (decide_eq_true g)
def jF (rg i:Nat) (H:Heap) {p:Prop} [Decidable p] (g:¬p):HO d:=jB rg i H (decide_eq_false g)
def jS (rg i:Nat) {r:Option Heap} {H:Heap} (g:r=some H):HO d:=⟨some ⟨rg,i,.tuple [],H⟩,fun _=>r.map (fun H=>(HV.tuple [],H))=some (.tuple [],H),fun _ _=>Qb8 g⟩
def jC (rg i:Nat) {r:Nat→Option (HV×Heap)} {v:HV} {H:Heap} (g:∀k,d≤k→r k=some (v,H)):HO d:=⟨some ⟨rg,i,v,H⟩,fun k=>r k=some (v,H),g⟩
def jD (rg i:Nat) {r:Nat→Option (HV×Heap)} {v:HV} {H:Heap} (g:∀k,r k=some (v,H)):HO d:=⟨some ⟨rg,i,v,H⟩,fun k=>r k=some (v,H),fun k _=>g k⟩
def jR (rg i:Nat) {r:Option (HV×Heap)} {v:HV} {H:Heap} (g:r=some (v,H)):HO d:=⟨some ⟨rg,i,v,H⟩,fun _=>r=some (v,H),fun _ _=>g⟩
def jL {p:Nat→Prop} (g:∀k,p k):HO d:=⟨none,p,fun k _=>g k⟩
def jM {p:Nat→Prop} (g:∀k,d≤k→p k):HO d:=⟨none,p,g⟩
def jK {p:Prop} (g:p):HO d:=⟨none,fun _=>p,fun _ _=>g⟩
theorem HO.all (k:Nat) (hk:d≤k):∀L:List (HO d),Obls (L.map fun o=>o.p k)
 | []=>Obls.nil
 | o::L=>Obls.cons (o.q k hk) (HO.all k hk L)
theorem hx (d n:Nat) (L:List (HO d)) (h:∀k,d≤k→VH K (Kq P pol (Qa P pol (k+1)) n f c e H (L.filterMap fun o=>o.h))=some (x,E,H',L.map fun o=>o.p k):=by intro _ _;kernel_rfl):RunsTo P pol f c e H x K E H':=RunsTo.hin d n _ fun k hk=>⟨_,h k hk,HO.all k hk L⟩
end
end Go.HL
namespace Go.HL
theorem sq {P:Program} {pol:Pol} {f:FuncId} {a b c:Code} {e E1 E:Env} {H H1 H':Heap} {x:X} {K K1:List Nat} (h1:RunsTo P pol f a e H .normal K1 E1 H1) (h2:RunsTo P pol f b E1 H1 x K E H') (hc:c=.seq a b:=by kernel_rfl) (hK:K1=pol.keys f++Kg b:=by kernel_rfl):RunsTo P pol f c e H x K E H':=RunsTo.seq h1 h2 hc hK
theorem sqo {P:Program} {pol:Pol} {f:FuncId} {a b c:Code} {e E:Env} {H H':Heap} {x:X} {K:List Nat} (h1:RunsTo P pol f a e H x K E H') (hx:x≠.normal:=by simp) (hc:c=.seq a b:=by kernel_rfl):RunsTo P pol f c e H x K E H':=RunsTo.seq_out h1 hx hc
theorem lpo {P:Program} {pol:Pol} {f:FuncId} {b c:Code} {e E:Env} {H H':Heap} {x:X} {K:List Nat} (h1:RunsTo P pol f b e H x K E H') (hx:x≠.normal:=by simp) (hc:c=.loop b:=by kernel_rfl) (he:QQ pol f b e=e:=by kernel_rfl):RunsTo P pol f c e H x K E H':=RunsTo.loop_out h1 hx hc he
theorem lpi {P:Program} {pol:Pol} {f:FuncId} {b c:Code} {e0 e E:Env} {H H':Heap} {x:X} {K:List Nat} (h:RunsTo P pol f c e H x K E H') (hc:c=.loop b:=by kernel_rfl) (h0:QQ pol f b e0=e:=by kernel_rfl) (he:QQ pol f b e=e:=by kernel_rfl):RunsTo P pol f c e0 H x K E H':=RunsTo.loop_in h hc h0 he
theorem bke {P:Program} {pol:Pol} {f:FuncId} {b c:Code} {e E:Env} {H H':Heap} {K:List Nat} {i:Nat} (h:RunsTo P pol f b e H (.exit i) K E H') (hc:c=.block i b:=by kernel_rfl):RunsTo P pol f c e H .normal K E H':=RunsTo.block_exit h hc
theorem lop {P:Program} {pol:Pol} {f:FuncId} {b c:Code} {e E0 E1 E:Env} {H H1 H2 H':Heap} {x:X} {K K1:List Nat} (h1:RunsTo P pol f b e H .normal K1 E0 H1) (hg:gc H.length (Zm E1) H1=H2) (h2:RunsTo P pol f c E1 H2 x K E H') (hE:QQ pol f b E0=E1:=by kernel_rfl) (hK:K1=pol.keys f:=by rfl) (hc:c=.loop b:=by kernel_rfl) (he:QQ pol f b e=e:=by kernel_rfl):RunsTo P pol f c e H x K E H':=RunsTo.loop h1 hE hg h2 hK hc he
end Go.HL
section
open Go Go.HL
namespace Go.Proofs.Ytlendaofkmhgmaa
abbrev LD (H:Heap) (t:TypeId) (a v:HV):Prop:=Qh Try.prog H t a=some v
abbrev ST (H:Heap) (t:TypeId) (a v:HV) (H':Heap):Prop:=QM Try.prog H t a v=some H'
abbrev IX (t:TypeId) (x i v:HV):Prop:=WW Try.prog t x i=some v
abbrev IO (t:TypeId) (b n i:Nat):Prop:=WW Try.prog t (.sl b 0 n (some n) n 1) (.int .i64 (i:Int))=some (.ptr b i 0 n)
abbrev IS (t:TypeId) (b n i:Nat):Prop:=WW Try.prog t (.sl b 0 n none n 1) (.int .i64 (i:Int))=some (.ptr b i 0 n)
abbrev BV (o:BinOp) (t:TypeId) (x y v:HV):Prop:=ZF Try.prog o t x y=some v
abbrev RT (pol:Pol) (f:FuncId) (c:Code) (e:Env) (H:Heap) (x:X) (E:Env) (H':Heap):Prop:=RunsTo Try.prog pol f c e H x (pol.keys f) E H'
end Go.Proofs.Ytlendaofkmhgmaa
end
section
open Go Go.HL
namespace Go.Proofs.Ytlendaofkmhgmaa
set_option linter.unusedSectionVars false
open Go.Proofs.Try renaming prog → Tp
open Go.HL.HV renaming undef → Ud
def keysT:List (List Nat):=[[],[],[],[0,1,4,5,6,7,8],[0,1,3,4,5,6,7,8,9,10,11,12,13,14,15],[0,2,3,4,5,6,7,8,9],[0,1,4,5,6,7,8,9,10],[0,1,4,5,6,7,8,9,10,11,12,13,14,15,16,17],[0,1,2,5,6,7,8,9,10,11,12,13,14,15,16,17,18,19,20,21,22,23,24,25,26,27,28,29,30,31],[0,1,2,6,7,8,9,10,11,12,13,14,15,16,17,18,19,20,21,22,23,24,25,26],[0,1,4,5,6,7,8,9,10],[0,1,2,5,6,7,8,9,10,11,12,13,14,15,16,17,18,19,20,21,22,23,24,25,26],[0,1,4,5,6,7,8,9,10,12,13,14,15,17,18,19,20,21,23,24],[0,2,3,4,5,6,7,8,9,10,11],[0,1,3,4,5,6,7,8,10,11,13,14,15,16,17,18,20,21,22,23,24,25,26,27,28],[0,2,3,4],[0,2,3],[0,1,4,5,6,7],[0,2,3,4,5,6],[0,1,4,5],[0,1,2,3,4,5,6,7,8,9,10,11,12],[0,1,4,5,6,7,8,9],[0,2,3,4,5,6,7,13,14,18,19,23,24],[0,1,2,3,5,6,7,8,9,10,11,12,13,14,15,16,17,43,44,47,48,52,53,97,98],[0,2,3,4,5,6,7],[0,1,2,6,7,8,9,10,11,12,13,14],[0,1,4,5],[0,1,4],[0,1,2,6,7,8,9,10,11,12,13],[0,2,3,4,5,6,7,8,9,10,29,30],[0,1,2,3,8,9,10,11,12,13,14],[0,1,4,5,6,7,8,9,10,11,12,42,43,46,47],[0,1,4,5,6,7,8,9,10,11,12,13,14,15,16,17],[0,1,4,5,6,7,8],[0,1,4,5],[0,1,4,5,6,7],[0,1,4,5,6],[0,1,4,5,6,7],[0,1,4,5],[0,1,2,6,7,8],[0,2,3,4,5,6,7,8,9,10,11,12,13],[0,2,3,4,5,6,7,24,25],[0,2,3,4,6,7,8,17,18,19],[0,2,3,4,5,6,7,8],[0,2,3,4],[0,2,3,4,5,6,7,8],[0,2,4,5,6,7,8,13,14,15,29,30,31,36,37,38],[0,1,4],[0,2],[0,1,2,6],[0,1,3,4,5,6,7,9,10,11,13,15,21,22,23,41,42,43,64,65],[0,1,4,5,6,7,8],[0,2],[0,1,2,3,4,5,6,7,9,10,26,27],[0,1,2,3,8,9,10,11,12,13,14],[0,1,2,5,6,8,9,10,11,31,32],[0,1,4,5,6,7,8,9,10],[0,1,4,5,6,18,19,20],[0,1,4,5,6,7,8,9],[0,1,4,5,6,7],[0,1,4],[0,1,2,5,6,7,8,9,11,12,13,14,19,20,31,32,33,55,56],[0,1,2,3,6,16,17,18],[0,2,3],[0,1,2],[0,1,4,5,6,7,8,9,10,11],[0,1,2,6,7,8,9,10,11,12],[0,1,2,6,7,8,9,10,11,12],[0,2],[0,1,4,5,7,8],[0,1,2,5,6,7,8,9,11,12],[0,2,3],[0,1,4,5,7,8],[0,2],[0,2],[0,1,4,5,6,7],[0,1,4],[0,1,2,3,4],[0,2,4,5,6,7],[0,1,4,5,6],[0,1,2,4],[0,1,2,3,8,9,10,11,12,13,14,15,16,17,18],[0,2],[0,1,2,3,4,10,11,12,13,14,15,16,17,18,19,20],[0,2],[0,1,2,6,7],[0,1,2,6,7,8,9,10],[0,1,2,6,7,8,9,10],[0,1,2,6,7,8,9,10,11,12,49],[0,1,2,6,7],[0,1,2,6,7,8,9,10],[0,1,4],[0,1,2,3,8,9,10],[0,1,2,3,8,9,10,11],[0,2],[0,2],[0,1,2,3,8,9],[0,1,2,3,8,9,10,11,12],[0,1,2,8,9,10,11,12],[0,1,2,3,8,9,10,11,12,13,14,55],[0,1,2,8,9],[0,1,2,3,8,9,10,11,12],[0,1,2,3,4,10,11,12],[0,1,2,3,4,10,11,12,13],[0,1,2,3,8,9],[0,2],[0,2],[0,1,2,6],[0,1,2,3,4,10],[0,1,2,3,4,10,11],[0,1,2,3,8],[0,1,2,3,4,5,12],[0,1,2,3,8,9],[0,1,2,3,4,10,11],[],[],[],[],[],[],[],[],[],[],[],[],[],[],[],[]]
def resT:List (List Nat):=[[],[],[],[4],[4],[2],[4],[4],[6],[6],[4],[6],[4],[2],[4],[2],[2],[4,5],[2],[4],[0],[4],[3,4],[6,7,8],[3],[6,7],[4],[4],[6],[2,3,4],[8,9],[4,5,6],[4,5],[4],[4,5],[4,5],[4],[4],[4],[6],[2],[2,3],[2,3],[2],[2],[2],[2],[4],[2],[6],[4],[4],[2],[7],[8],[6],[4],[4],[4,5],[4],[4],[6],[],[2],[2],[4],[6],[6],[2],[4],[6],[],[4],[2],[],[],[],[4],[2],[4],[4],[],[2],[],[2],[],[],[],[6,7],[],[6],[4],[8],[8,9],[2],[2],[],[],[],[8,9],[],[8],[10],[10,11],[],[2],[2],[6],[10],[],[8],[12],[8,9],[10,11],[],[],[],[],[],[],[],[],[],[],[],[],[],[],[],[]]
def sharedT:List Nat:=[30,38,47,53,55,58,62,63,69,71,73,74,75,76,80,81,83,85,86,87,88,89,90,92,93,96,97,98,99,100,101,102,103,104,106,107,108,109,110,111,112,113,122,123,124,125,126,127,128]
def deadT:List (Nat×Nat×List Nat):=[(8,6,[5,13,14,15,16,17,18,19,20,21,22,23,24,25,26,27,28,29,30,31]),(9,6,[12,13,14,15,16,17,18,19,20,21,22,23,24,25,26]),(12,11,[10,13,15,20,21,23,24]),(12,14,[10,13,15,21,23,24]),(12,21,[8,9,10,12,13,14,15,17,18,19,20,21,23]),(14,5,[10,11,13,14,15,16,17,18,20,21,22,23,24,25,26,27,28]),(14,19,[3,7,8,10,11,13,14,15,16,17,18,20,21,26]),(18,5,[5,6]),(18,10,[4,6]),(18,13,[4]),(21,9,[9]),(21,13,[7,8]),(22,4,[5,6,7,18,19,23,24]),(22,7,[6,7,23,24]),(22,10,[7]),(23,5,[10,11,12,13,14,15,16,17,47,48,52,53,97,98]),(23,7,[10,11,12,13,14,15,16,17,52,53,97,98]),(23,10,[11,12,13,14,15,16,17,97,98]),(23,21,[10,11,12,16,17,43,44,47,48,52,53,97,98]),(23,23,[10,11,12,16,17,43,44,47,48,52,53]),(24,3,[6,7]),(24,6,[7]),(25,6,[14]),(28,3,[9,10,11,12,13]),(28,7,[8,10,11,12,13]),(28,10,[8,11,12,13]),(29,6,[8,9,10,29,30]),(29,9,[9,10]),(30,8,[11,13,14]),(30,12,[11]),(31,8,[11,12,46,47]),(31,10,[11,12]),(32,5,[11,12,13,14,15,16,17]),(32,10,[14,15,16,17]),(32,14,[7,13,15,16,17]),(33,3,[7,8]),(38,1,[5]),(40,5,[7,8,9,10,11,12,13]),(40,8,[8,9,10,11,12,13]),(40,14,[10,11,12,13]),(40,21,[4,6,7,8,9,13]),(40,23,[4,6,7,8,9]),(41,4,[5,6,7,24,25]),(41,7,[7]),(42,5,[6,7,8]),(43,5,[6,7,8]),(45,4,[6,7,8]),(45,7,[7,8]),(45,10,[8]),(46,4,[4,5,6,7,8,29,30,31,36,37,38]),(46,10,[4,5,6,7,8,13,14,15,36,37,38]),(46,13,[4,6,7,8,13,14,15]),(50,4,[9,10,11,13,15,41,42,43,64,65]),(50,13,[6,7,9,13,15,21,22,23,64,65]),(50,20,[3,6,7,9,13,15,21,22,23,41,42,43]),(53,7,[9,10]),(54,4,[12,13,14]),(54,9,[11,13,14]),(54,12,[11,14]),(54,15,[11]),(55,7,[8,10,11]),(56,3,[6,7]),(57,4,[5,6]),(58,3,[8,9]),(58,6,[9]),(59,2,[6,7]),(59,5,[7]),(61,3,[8,9,11,12,13,14,31,32,33,55,56]),(61,9,[5,8,11,12,13,14,19,20,55,56]),(61,15,[5,8,11,14,19,20]),(62,2,[6]),(65,3,[7,8,9,10,11]),(65,8,[6,9,10,11]),(65,14,[6]),(66,3,[9,10,11,12]),(66,6,[10,11,12]),(66,10,[12]),(67,3,[9,10,11,12]),(67,7,[12]),(67,11,[11]),(69,2,[5]),(70,3,[8,9]),(72,2,[5]),(75,1,[4]),(78,2,[4]),(81,2,[10,11,12,13,14,15,16,17,18]),(83,2,[12,13,14,15,16,17,18,19,20]),(85,1,[7]),(86,4,[10]),(86,8,[8,9]),(87,5,[10]),(90,3,[9,10]),(90,5,[9,10]),(90,14,[10]),(90,20,[9]),(96,1,[9]),(97,4,[12]),(97,8,[10,11]),(98,5,[12]),(101,3,[11,12]),(101,5,[11,12]),(101,14,[12]),(101,20,[11]),(104,1,[9]),(109,1,[11])]
def pol:Pol where
 shared g:=sharedT.contains g
 freeze _ _:=true
 freezeS _ _:=false
 blk g d:=!((resT.getD g []).contains d)
 nilf g:=g==52
 deep _:=false
 prim _:=none
 rows g _:=g==42
 keys g:=keysT.getD g []
 quiet f r:=if f==8&&r==17 then [1,3] else []
 dead f r:=((deadT.find? fun p=>p.1==f&&p.2.1==r).map (·.2.2)).getD []
theorem Qi:Tp.follows .mixedOrders=true:=by kernel_rfl
set_option maxRecDepth 100000 in
theorem XZ:(Tp.funcs.toList.zipIdx.all fun p=>JL pol p.2 p.1)=true:=by kernel_rfl
theorem VI (n:Nat):Qo Tp (Qa Tp pol n) :=
 KZ Qi (fun g fn h=>List.all_eq_true.1 XZ (fn,g) (by
   rw [jJ]
   simpa using h)) (fun g F h=>by cases h) n
theorem QW (F:FuncId→Option (List HV→Option HV)) (hF:∀g f,F g=some f→QN Tp g f) (n:Nat):Qo Tp (Qa Tp { pol with prim:=F } n) :=
 KZ Qi (fun g fn h=>by
  rw [Dc]
  exact List.all_eq_true.1 XZ (fn,g) (by
   rw [jJ]
   simpa using h)) hF n
def KG (a:Int) (n:Int):Int:=qA.wrap ((IntKind.u64.wrap a).tmod (IntKind.u64.wrap n))
theorem JG (n:Int):IntKind.u64.wrap n=n%18446744073709551616:=by simp [IntKind.wrap,IntKind.signed,IntKind.bits]
theorem Wc (n:Int):qA.wrap n=(n+9223372036854775808)%18446744073709551616-9223372036854775808:=by rw [IntKind.wrap_i64]
theorem ZB (a n:Int) (h0:0<n) (h1:n<9223372036854775808):0≤KG a n∧KG a n<n:=by
 have hn:IntKind.u64.wrap n=n:=by rw [JG];omega
 have ha:0≤IntKind.u64.wrap a:=by rw [JG];omega
 have hm0:0≤IntKind.u64.wrap a%n:=Int.emod_nonneg _ (by omega)
 have hm1:IntKind.u64.wrap a%n<n:=Int.emod_lt_of_pos _ h0
 simp only [KG,hn]
 rw [Int.tmod_eq_emod_of_nonneg ha,Wc]
 constructor <;> omega
abbrev bI (l:List Int):Blk:=.arr 1 (l.map hvI) true 0
def Qb (r:List Int):HV:=.imm .arg 1 (r.map hvI)
def Zk (r:List Int):HV:=.imm .own 1 (r.map hvI)
def G9:HV→Option (List Int) | .imm .arg 1 l=>mapO G4 l | _=>none
theorem Wv (r:List Int):G9 (Qb r)=some r:=QH WL r
theorem K2 (b:HV) (a:List Int) (h:G9 b=some a):b=Qb a:=by
 unfold G9 at h
 split at h
 ·rw [W7 K0 h];rfl
 ·cases h
theorem Qc {j:Nat} (h:j<4611686018427387904):qA.wrap ((j:Int)+1)=((j+1:Nat):Int):=by rw [Wc];omega
theorem QJ {j:Nat} (h0:0<j) (h:j<4611686018427387904):qA.wrap ((j:Int)-1)=((j-1:Nat):Int):=by rw [Wc];omega
theorem Qn {n:Int} (h0:-4611686018427387904≤n) (h:n<4611686018427387904):qA.wrap n=n:=by rw [Wc];omega
theorem ZY:∀(l:List Int),argPL (l.map hvI)=some (l.map hvI)
 | []=>rfl
 | p::l=>by simp only [qG,argPL,ZY l,hvI,argP]
theorem Us:∀(R:List (List Int)),argPL (R.map Qb)=some (R.map Qb)
 | []=>rfl
 | p::l=>by simp only [qG,argPL,Us l,Qb,argP,ZY]
theorem X1 (H:Heap) (l:List Int):Qx H 6 (.imm .arg 1 (l.map hvI))=some (.imm .arg 1 (l.map hvI)):=by
 show argP (.imm .arg 1 (l.map hvI))=_
 simp only [argP,ZY]
theorem JN (H:Heap) (R:List (List Int)):Qx H 6 (.imm .arg 1 (R.map Qb))=some (.imm .arg 1 (R.map Qb)):=by
 show argP (.imm .arg 1 (R.map Qb))=_
 simp only [argP,Us]
theorem Xr (l:List Int):(l.map hvI).any Jd=false:=by
 rw [jN]
 intro v hv
 obtain ⟨k,_,rfl⟩:=List.mem_map.1 hv
 simp [hvI,Jd]
theorem Qcc (l:List (List Int)):(l.map Zk).any Jd=false:=by
 rw [jN]
 intro v hv
 obtain ⟨k,_,rfl⟩:=List.mem_map.1 hv
 simp [Zk,Jd]
theorem Df (l:List Int) (H:Heap):ZT (.own 1 (l.map hvI)) H=(.sl H.length 0 l.length none l.length 1,H++[bI l]):=by
 simp only [ZT,Zr,WK,Xr,qB]
 rfl
theorem Dg (l:List (List Int)) (H:Heap):ZT (.own 1 (l.map Zk)) H=(.sl H.length 0 l.length none l.length 1,H++[.arr 1 (l.map Zk) true 0]):=by
 simp only [ZT,Zr,WK,Qcc,qB]
 rfl
theorem Xs:∀(l:List Int),bndL (l.map hvI)=0
 | []=>rfl
 | a::l=>by simp only [qG,bndL,Xs l,hvI,bnd];rfl
theorem Ca:∀(l:List Int),resPL (l.map hvI)=true
 | []=>rfl
 | a::l=>by simp only [qG,resPL,Ca l,hvI,resP];rfl
theorem Jj (F:FuncId→Option (List HV→Option HV)) (g:FuncId) (fn:Func) (h:Tp.funcs[g]?=some fn):JL { pol with prim:=F } g fn=true:=by
 rw [Dc]
 exact List.all_eq_true.1 XZ (fn,g) (by
  rw [jJ]
  simpa using h)
theorem WN {H H':Heap} (r:Nat) (h:H'.length=H.length):gc H.length r H'=H':=by
 unfold gc
 rw [qU (by omega)]
theorem Jy {b:Bool} (h:¬b=true):b=false:=by cases b <;> simp_all
theorem u23:Tp.underlying 23=some (.slice 3):=by kernel_rfl
theorem u22:Tp.underlying 22=some (.slice 23):=by kernel_rfl
theorem u68:Tp.underlying 68=some (.slice 23):=by kernel_rfl
theorem z3:Qm Tp 3=some 1:=by kernel_rfl
theorem z4:Qm Tp 4=some 1:=by kernel_rfl
theorem z23:Qm Tp 23=some 1:=by kernel_rfl
theorem a3:Qw Tp 3=false:=by kernel_rfl
theorem i3:(Tp.underlying 3).isSome=true:=by kernel_rfl
theorem a4:Qw Tp 4=false:=by kernel_rfl
theorem a23:Qw Tp 23=false:=by kernel_rfl
theorem i23:(Tp.underlying 23).isSome=true:=by kernel_rfl
theorem gx {l:List Int} {y:Nat} (hy:y<l.length):WW Tp 23 (.imm .arg 1 (l.map hvI)) (.int .i64 (y:Int))=some (.vptr (.int .i64 (l.getD y 0))) :=
 YJ u23 z3 (by omega) (by rw [qE,qK,qC hy];simp [qF,qC hy,hvI])
theorem gxi {l:List Int} {y:Int} (h0:0≤y) (hy:y.toNat<l.length):WW Tp 23 (.imm .arg 1 (l.map hvI)) (.int .i64 y)=some (.vptr (.int .i64 (l.getD y.toNat 0))):=by
 have:=gx (l:=l) (y:=y.toNat) hy
 rwa [show ((y.toNat:Nat):Int)=y by omega] at this
theorem gr {R:List (List Int)} {y:Nat} (hy:y<R.length):WW Tp 22 (.imm .arg 1 (R.map Qb)) (.int .i64 (y:Int))=some (.vptr (.imm .arg 1 ((R.getD y []).map hvI))) :=
 YJ u22 z23 (by omega) (by rw [qE,qK,qC hy];simp [qF,qC hy,Qb])
theorem gm {R:List (List Int)} {y:Int} (h0:0≤y) (hy:y.toNat<R.length):WW Tp 68 (.imm .arg 1 (R.map Qb)) (.int .i64 y)=some (.vptr (.imm .arg 1 ((R.getD y.toNat []).map hvI))) :=
 YJ u68 z23 h0 (by rw [qK,qC hy];simp [qF,qC hy,Qb])
theorem Xt {H:Heap} {k:Nat} {o:List Int} (h:H[k]?=some (bI o)) {y:Nat} (hy:y<o.length):Qh Tp H 3 (.ptr k y 0 o.length)=some (.int .i64 (o.getD y 0)) :=
 Qv (b:=k) h (by simp) (by rw [qK,qC hy];simp [qF,qC hy,hvI]) rfl a3 i3
theorem J4 {H:Heap} {k:Nat} {o:List Int} (h:H[k]?=some (bI o)) {y:Nat} (hy:y<o.length) (v:Int):QM Tp H 3 (.ptr k y 0 o.length) (.int .i64 v)=some (H.set k (bI (o.set y v))):=by
 have hi:(o.map hvI)[y]?=some (hvI o[y]):=by rw [qK,qC hy];rfl
 have:=VZ (P:=Tp) (t:=3) (b:=k) (tot:=o.length) (v:=.int .i64 v) h (by simp) hi rfl (by intro cs h;cases h) z3 rfl rfl (by simp [bnd])
 rw [this]
 show some (H.set k (.arr 1 ((o.map hvI).set y (hvI v)) true 0))=_
 rw [bI,List.map_set]
theorem Qcd {H:Heap} {b k:Nat} {o:List Int} (hb:H[b]?=some (bI o)) (hk:o.length=k):We H false (.sl b 0 k none k 1)=some (.own 1 (o.map hvI)):=by
 have hr:=ZX (H:=H) (no:=[b]) (b:=b) (k:=1) (m:=k) (cap:=none) (els:=o.map hvI) hb (by simpa using hk) (WB (fun r=>Kr 4 r) _)
 have ho:Qu H false (.sl b 0 k none k 1)=[b]:=by simp [Qu,cellsOf,WQ,hb]
 simp only [We,ho,jP,qV,not_false_eq_true,qW,and_self,if_true,WO,hr]
theorem Z9 {H:Heap} {b:Nat} {o xs:List Int} (hb:H[b]?=some (bI o)) (hlen:o.length+xs.length≤1000) (hx:xs≠[]) :
  WV H 1 8 (.sl b 0 o.length none o.length 1) (xs.map hvI)=some (.sl b 0 (o++xs).length none (o++xs).length 1,H.set b (bI (o++xs))):=by
 have:=DX (H:=H) (k:=1) (bytes:=8) (b:=b) (n:=o.length) (mx:=0) (els:=o.map hvI) (xs:=xs.map hvI) hb (by simp) (by simpa using hx) (by rw [qB];simp only [Q0];omega) (Xs xs)
 rw [this]
 simp [bI]
theorem Sh {H:Heap} {l:List Int} {b m:Nat} (hm:l.length=m) (hb:H[b]?=some (bI l)):Qx H 6 (.sl b 0 m none m 1)=some (.imm .arg 1 (l.map hvI)):=by
 subst hm
 have e:Qx H 6 (.sl b 0 l.length none l.length 1)=if l.length=0 then some (.imm .arg 1 []) else match Wh H b 0 l.length l.length 1 with | some l=>(match mapO (Qx H 5) l with | some l=>some (.imm .arg 1 l) | none=>none) | none=>none:=rfl
 rw [e]
 split
 ·rename_i h0
  rw [List.length_eq_zero_iff.1 h0];rfl
 ·have hv:Wh H b 0 l.length l.length 1=some (l.map hvI):=by
   simp only [Wh,hb,qB]
   rw [if_pos ⟨trivial,by omega,trivial⟩]
   simp [qU]
  have hm:mapO (Qx H 5) (l.map hvI)=some (l.map hvI):=WB (f:=Qx H 5) (g:=hvI) (fun _=>rfl) l
  rw [hv]
  simp only [hm]
theorem Qce {H:Heap} {R:List (List Int)} {b m mx:Nat} (hm:R.length=m) (hb:H[b]?=some (.arr 1 (R.map Zk) true mx)):Qx H 6 (.sl b 0 m none m 1)=some (.imm .arg 1 (R.map Qb)):=by
 subst hm
 have e:Qx H 6 (.sl b 0 R.length none R.length 1)=if R.length=0 then some (.imm .arg 1 []) else match Wh H b 0 R.length R.length 1 with | some l=>(match mapO (Qx H 5) l with | some l=>some (.imm .arg 1 l) | none=>none) | none=>none:=rfl
 rw [e]
 split
 ·rename_i h0
  rw [List.length_eq_zero_iff.1 h0];rfl
 ·have hv:Wh H b 0 R.length R.length 1=some (R.map Zk):=by
   simp only [Wh,hb,qB]
   rw [if_pos ⟨trivial,by omega,trivial⟩]
   simp [qU]
  have hm:∀(R:List (List Int)),mapO (Qx H 5) (R.map Zk)=some (R.map Qb):=by
   intro R
   induction R with
   | nil=>rfl
   | cons r R ih =>
    have e:Qx H 5 (Zk r)=some (Qb r):=by
     show argP (.imm .own 1 (r.map hvI))=_
     simp only [argP,ZY]
     rfl
    simp only [qG,mapO,e,ih]
  rw [hv]
  simp only [hm]
def Qcf:List HV→Option HV | []=>some (.bool true) | _=>none
def Vo:List HV→Option HV
 | [.int .i64 n,.int .i64 lo,.int .i64 hi]=>some (.bool (decide (lo≤n∧n≤hi)))
 | _=>none
def DZ:List HV→Option HV
 | [.int .i64 a,.int .i64 n]=>if 0<n∧n<9223372036854775808 then some (.int .i64 (KG a n)) else none
 | _=>none
def liF (f:List Int→Option HV):List HV→Option HV
 | [.imm .arg 1 la]=>(match mapO G4 la with | some l=>f l | none=>none)
 | _=>none
def rwF (f:List (List Int)→Option HV):List HV→Option HV
 | [.imm .arg 1 rw]=>(match mapO G9 rw with | some R=>f R | none=>none)
 | _=>none
def rlF (f:List (List Int)→List Int→Option HV):List HV→Option HV
 | [.imm .arg 1 rw,.imm .arg 1 la]=>(match mapO G9 rw,mapO G4 la with | some R,some l=>f R l | _,_=>none)
 | _=>none
def lnF (f:List Int→Int→Option HV):List HV→Option HV
 | [.imm .arg 1 la,.int .i64 v]=>(match mapO G4 la with | some l=>f l v | none=>none)
 | _=>none
def D0:List HV→Option HV:=liF fun l=>some (.own 1 ((l.take 13).map hvI))
def Qbe (R:List (List Int)):List (List Int):=(R.take 12).map (·.take 13)
def Zs (v:Int):Nat→List Int→Int
 | _,[]=>-1
 | j,x::l=>if v=x then (j:Int) else Zs v (j+1) l
def YL:List HV→Option HV:=lnF fun l v=>if l.length≤1000 then some (.int .i64 (Zs v 0 l)) else none
def W8:List HV→Option HV:=lnF fun l v=>if l.length≤1000 then some (.bool (decide (v∈l))) else none
def D1:List HV→Option HV
 | [.int .i64 n]=>some (.bool (!decide (0≤n∧n≤1000)))
 | _=>none
def YM:List HV→Option HV:=liF fun l=>if l.length≤1000 then some (.own 1 (l.map hvI)) else none
def at2 (d:List (List Int)) (i j:Nat):Int:=(d.getD i []).getD j 0
def okD (d:List (List Int)):Prop:=(1≤d.length∧d.length≤11)∧(∀i,i<d.length→(d.getD i []).length=d.length)∧∀i,i<d.length→∀j,j<d.length→(0≤at2 d i j∧at2 d i j≤1000)∧at2 d i j=at2 d j i∧(i=j→at2 d i j=0)
open Classical in
noncomputable def okB (d:List (List Int)):Bool:=decide (okD d)
noncomputable def JH:List HV→Option HV:=rwF fun R=>if R.length≤1000∧(R.all fun r=>decide (r.length≤1000))=true then some (.bool (okB R)) else none
def inT (n:Nat) (l:List Int):Prop:=∀v,v∈l→0≤v∧v<(n:Int)
def KH (n:Nat) (l:List Int):Bool:=decide (l.length=n∧l.getD 0 0=0∧(∀v,v∈l→0≤v∧v<(n:Int))∧l.Nodup)
def Ut:List HV→Option HV:=rlF fun R l=>if 1≤R.length∧l.length≤1000 then some (.bool (KH R.length l)) else none
def VJ (d:List (List Int)) (l:List Int):Nat→Nat→Int→Int
 | 0,_,s=>s
 | k+1,j,s=>VJ d l k (j+1) (s+at2 d (l.getD j 0).toNat (l.getD ((j+1)%l.length) 0).toNat)
def Wa (d:List (List Int)) (l:List Int):Int:=VJ d l l.length 0 0
open Classical in
noncomputable def Yu:List HV→Option HV:=rlF fun R l=>if okD R∧inT R.length l∧l.length≤1000 then some (.int .i64 (Wa R l)) else none
def Qcg (l:List Int) (i j:Nat):List Int:=l.take i++(((l.drop i).take (j+1-i)).reverse++l.drop (j+1))
open Classical in
noncomputable def Xu:List HV→Option HV:=rlF fun R l=>if R.length≤1000∧(R.all fun r=>decide (r.length≤1000))=true∧l.length≤1000 then some (if okD R∧KH R.length l=true then .tuple [.int .i64 (Wa R l),.int .i64 0] else .tuple [.int .i64 0,.int .i64 2]) else none
def polW:Pol:={ pol with prim:=fun g=>if g==49 then some Vo else none }
def polX:Pol:={ pol with prim:=fun g=>if g==72 then some YL else none }
def polT:Pol:={ pol with prim:=fun g=>if g==49 then some Vo else if g==60 then some W8 else none }
def polM:Pol:={ pol with prim:=fun g=>if g==49 then some Vo else if g==68 then some D1 else none }
noncomputable def polN:Pol:={ pol with prim:=fun g=>if g==46 then some JH else if g==57 then some Ut else if g==56 then some Yu else none }
def wo (L v:Nat):Nat:=if L.testBit v then L-2 ^ v else L
def Qns:Bool:=(qJ 2048).all fun L=>(qJ 11).all fun v=>!L.testBit v||L-2 ^ v==L ^^^ 2 ^ v
theorem Si:Qns=true:=by kernel_rfl
theorem X2 {L v:Nat} (hL:L<2048) (hv:v<11) (u:Nat):(wo L v).testBit u=(L.testBit u&&decide (u≠v)):=by
 unfold wo
 split
 ·rename_i h
  have h1:=List.all_eq_true.1 (List.all_eq_true.1 Si L (List.mem_range.2 hL)) v (List.mem_range.2 hv)
  rw [h,Bool.not_true,Bool.false_or,beq_iff_eq] at h1
  rw [h1,Nat.testBit_xor,Nat.testBit_two_pow]
  by_cases e:v=u
  ·subst e;simp [h]
  ·have e':u≠v:=fun h=>e h.symm
   simp [e,e']
 ·rename_i h
  by_cases e:u=v
  ·subst e;simp [Jy h]
  ·simp [e]
theorem Xv (L v:Nat):wo L v≤L:=by unfold wo;split;exact qX _ _;exact qD _
theorem ZC {L v:Nat} (h:L.testBit v=true):wo L v<L:=by
 unfold wo
 rw [if_pos h]
 have:=zC h
 have:0<2 ^ v:=Nat.two_pow_pos v
 omega
theorem K3 {L v n:Nat} (hL:L<2 ^ n) (h:L.testBit v=true):v<n:=by
 rcases Nat.lt_or_ge v n with h1 | h1
 ·exact h1
 ·have h2:=zC h
  have h3:2 ^ n≤2 ^ v:=qY (by omega) h1
  omega
theorem ZZ {n:Nat} (h:n≤11):2 ^ n≤2048:=qY (n:=2) (by omega) h
def lst (f:Nat→Int) (L:Nat):Nat→Nat→Int→Int
 | 0,_,m=>m
 | k+1,i,m=>lst f L k (i+1) (if L.testBit i then (if m<0∨f i<m then f i else m) else m)
def rsF (d:List (List Int)):Nat→Nat→Nat→Int
 | 0,s,_=>at2 d s 0
 | k+1,s,L=>if L=0 then at2 d s 0 else lst (fun v=>at2 d s v+rsF d k v (wo L v)) L d.length 0 (-1)
def rsT (d:List (List Int)) (s L:Nat):Int:=rsF d L s L
theorem Dh {f g:Nat→Int} {L:Nat} (h:∀v,L.testBit v=true→f v=g v):∀k i m,lst f L k i m=lst g L k i m:=by
 intro k
 induction k with
 | zero=>intros;rfl
 | succ k ih =>
  intro i m
  rw [lst,lst,ih]
  by_cases c:L.testBit i=true
  ·rw [h i c]
  ·rw [Jy c];rfl
theorem Qch (d:List (List Int)):∀k k' s L,L≤k→L≤k'→rsF d k s L=rsF d k' s L:=by
 intro k
 induction k with
 | zero =>
  intro k' s L h _
  have:L=0:=by omega
  subst this
  cases k' with
  | zero=>rfl
  | succ k'=>rw [rsF,rsF,if_pos rfl]
 | succ k ih =>
  intro k' s L h h'
  by_cases c:L=0
  ·subst c
   cases k' with
   | zero=>rw [rsF,rsF,if_pos rfl]
   | succ k'=>rw [rsF,rsF,if_pos rfl,if_pos rfl]
  ·obtain ⟨k',rfl⟩:∃n,k'=n+1:=⟨k'-1,by omega⟩
   rw [rsF,rsF,if_neg c,if_neg c]
   refine Dh (fun v hv=>?_) _ _ _
   have:=ZC hv
   rw [ih k' v (wo L v) (by omega) (by omega)]
theorem Cb (d:List (List Int)) (s:Nat) {L:Nat} (h:L≠0):rsT d s L=lst (fun v=>at2 d s v+rsT d v (wo L v)) L d.length 0 (-1):=by
 obtain ⟨k,rfl⟩:∃k,L=k+1:=⟨L-1,by omega⟩
 unfold rsT
 rw [rsF,if_neg h]
 refine Dh (fun v hv=>?_) _ _ _
 have:=ZC hv
 rw [Qch d k (wo (k+1) v) v _ (by omega) (qD _)]
theorem Qeg {f:Nat→Int} {L:Nat}:∀k i m,(∀v,v<i+k→L.testBit v=true→0≤f v)→0≤m→(0≤lst f L k i m∧lst f L k i m≤m)∧(∀v,i≤v→v<i+k→L.testBit v=true→lst f L k i m≤f v)∧(lst f L k i m=m∨∃v,(i≤v∧v<i+k)∧L.testBit v=true∧lst f L k i m=f v):=by
 intro k
 induction k with
 | zero=>intro i m _ hm;exact ⟨⟨hm,Int.le_refl _⟩,fun v h1 h2=>by omega,.inl rfl⟩
 | succ k ih =>
  intro i m h hm
  rw [lst]
  by_cases c:L.testBit i=true
  ·have h0:=h i (by omega) c
   rw [if_pos c]
   by_cases c2:m<0∨f i<m
   ·rw [if_pos c2]
    obtain ⟨⟨a1,a2⟩,a3,a4⟩:=ih (i+1) (f i) (fun v hv=>h v (by omega)) h0
    refine ⟨⟨a1,by omega⟩,fun v h1 h2 h3=>?_,?_⟩
    ·by_cases e:v=i
     ·subst e;exact a2
     ·exact a3 v (by omega) (by omega) h3
    ·rcases a4 with a4 | ⟨v,a5,a6,a7⟩
     ·exact .inr ⟨i,by omega,c,a4⟩
     ·exact .inr ⟨v,by omega,a6,a7⟩
   ·rw [if_neg c2]
    obtain ⟨⟨a1,a2⟩,a3,a4⟩:=ih (i+1) m (fun v hv=>h v (by omega)) hm
    refine ⟨⟨a1,a2⟩,fun v h1 h2 h3=>?_,?_⟩
    ·by_cases e:v=i
     ·subst e;omega
     ·exact a3 v (by omega) (by omega) h3
    ·rcases a4 with a4 | ⟨v,a5,a6,a7⟩
     ·exact .inl a4
     ·exact .inr ⟨v,by omega,a6,a7⟩
  ·rw [if_neg c]
   obtain ⟨⟨a1,a2⟩,a3,a4⟩:=ih (i+1) m (fun v hv=>h v (by omega)) hm
   refine ⟨⟨a1,a2⟩,fun v h1 h2 h3=>?_,?_⟩
   ·by_cases e:v=i
    ·subst e;exact absurd h3 c
    ·exact a3 v (by omega) (by omega) h3
   ·rcases a4 with a4 | ⟨v,a5,a6,a7⟩
    ·exact .inl a4
    ·exact .inr ⟨v,by omega,a6,a7⟩
theorem S3 {f:Nat→Int} {L:Nat}:∀k i m,(∀v,v<i+k→L.testBit v=true→0≤f v)→m<0→(∃v,(i≤v∧v<i+k)∧L.testBit v=true)→0≤lst f L k i m∧(∀v,i≤v→v<i+k→L.testBit v=true→lst f L k i m≤f v)∧∃v,(i≤v∧v<i+k)∧L.testBit v=true∧lst f L k i m=f v:=by
 intro k
 induction k with
 | zero=>intro i m _ _ ⟨v,h,_⟩;omega
 | succ k ih =>
  intro i m h hm ⟨v,h1,h2⟩
  rw [lst]
  by_cases c:L.testBit i=true
  ·have h0:=h i (by omega) c
   rw [if_pos c,if_pos (.inl hm)]
   obtain ⟨⟨a1,a2⟩,a3,a4⟩:=Qeg (L:=L) k (i+1) (f i) (fun v hv=>h v (by omega)) h0
   refine ⟨a1,fun v h1 h2 h3=>?_,?_⟩
   ·by_cases e:v=i
    ·subst e;exact a2
    ·exact a3 v (by omega) (by omega) h3
   ·rcases a4 with a4 | ⟨v,a5,a6,a7⟩
    ·exact ⟨i,by omega,c,a4⟩
    ·exact ⟨v,by omega,a6,a7⟩
  ·rw [if_neg c]
   have hv:v≠i:=fun e=>c (e▸h2)
   obtain ⟨a1,a3,v',a5,a6,a7⟩:=ih (i+1) m (fun v hv=>h v (by omega)) hm ⟨v,by omega,h2⟩
   refine ⟨a1,fun v h1 h2 h3=>?_,v',by omega,a6,a7⟩
   by_cases e:v=i
   ·subst e;exact absurd h3 c
   ·exact a3 v (by omega) (by omega) h3
section
variable {d:List (List Int)}
theorem okD.at (h:okD d) {i j:Nat} (hi:i<d.length) (hj:j<d.length):0≤at2 d i j∧at2 d i j≤1000:=(h.2.2 i hi j hj).1
theorem Qeh (h:okD d):∀k s L,s<d.length→L<2 ^ d.length→L≤k→0≤rsF d k s L∧rsF d k s L≤1000*(k+1):=by
 intro k
 induction k with
 | zero =>
  intro s L hs _ _
  have:=h.at hs (j:=0) (by omega)
  rw [rsF];omega
 | succ k ih =>
  intro s L hs hL hk
  rw [rsF]
  split
  ·have:=h.at hs (j:=0) (by omega)
   omega
  ·rename_i c
   have hf:∀v,v<0+d.length→L.testBit v=true→0≤at2 d s v+rsF d k v (wo L v)∧at2 d s v+rsF d k v (wo L v)≤1000*(k+2):=fun v hv hb=>by
    have h1:=h.at hs (j:=v) (by omega)
    have h2:=ZC hb
    have h3:=ih v (wo L v) (by omega) (by omega) (by omega)
    omega
   obtain ⟨v,hb⟩:=jQ c
   have hv:=K3 hL hb
   obtain ⟨a1,_,v',a5,a6,a7⟩:=S3 (f:=fun v=>at2 d s v+rsF d k v (wo L v)) (L:=L) d.length 0 (-1) (fun v hv hb=>(hf v hv hb).1) (by omega) ⟨v,by omega,hb⟩
   refine ⟨a1,?_⟩
   rw [a7]
   have:=(hf v' (by omega) a6).2
   push_cast
   omega
theorem D2 (h:okD d) {s L:Nat} (hs:s<d.length) (hL:L<2 ^ d.length):0≤rsT d s L∧rsT d s L≤3000000:=by
 have h1:=Qeh h L s L hs hL (qD _)
 have h2:=ZZ h.1.2
 unfold rsT
 omega
theorem S4 (h:okD d) {s L:Nat} (hs:s<d.length) (hL:L<2 ^ d.length) (c:L≠0):(∀v,L.testBit v=true→rsT d s L≤at2 d s v+rsT d v (wo L v))∧∃v,L.testBit v=true∧rsT d s L=at2 d s v+rsT d v (wo L v):=by
 obtain ⟨v,hb⟩:=jQ c
 have hv:=K3 hL hb
 have hf:∀v,v<0+d.length→L.testBit v=true→0≤at2 d s v+rsT d v (wo L v):=fun v hv hb=>by
  have h1:=h.at hs (j:=v) (by omega)
  have h2:=ZC hb
  have h3:=D2 h (s:=v) (L:=wo L v) (by omega) (by omega)
  omega
 obtain ⟨_,a2,v',a5,a6,a7⟩:=S3 (f:=fun v=>at2 d s v+rsT d v (wo L v)) (L:=L) d.length 0 (-1) hf (by omega) ⟨v,by omega,hb⟩
 rw [Cb d s c]
 exact ⟨fun v hb=>a2 v (by omega) (by have:=K3 hL hb;omega) hb,v',a6,a7⟩
def pck (g:Nat→Bool):Nat→Nat→Option Nat
 | 0,_=>none
 | k+1,i=>if g i then some i else pck g k (i+1)
theorem Xw {g:Nat→Bool} {v:Nat}:∀k i,pck g k i=some v→(i≤v∧v<i+k)∧g v=true∧∀u,i≤u→u<v→g u=false:=by
 intro k
 induction k with
 | zero=>intro i h;cases h
 | succ k ih =>
  intro i h
  rw [pck] at h
  split at h
  ·rename_i c
   cases h
   exact ⟨by omega,c,fun u h1 h2=>by omega⟩
  ·rename_i c
   obtain ⟨h1,h2,h3⟩:=ih _ h
   refine ⟨by omega,h2,fun u h4 h5=>?_⟩
   by_cases e:u=i
   ·subst e;exact Jy c
   ·exact h3 u (by omega) h5
theorem Cc {g:Nat→Bool}:∀k i,pck g k i=none→∀u,i≤u→u<i+k→g u=false:=by
 intro k
 induction k with
 | zero=>intro i _ u h1 h2;omega
 | succ k ih =>
  intro i h u h1 h2
  rw [pck] at h
  split at h
  ·cases h
  ·rename_i c
   by_cases e:u=i
   ·subst e;exact Jy c
   ·exact ih _ h u (by omega) (by omega)
def okV (d:List (List Int)) (s L v:Nat):Bool:=L.testBit v&&decide (at2 d s v+rsT d v (wo L v)=rsT d s L)
def grd (d:List (List Int)):Nat→Nat→Nat→List Int
 | 0,_,_=>[]
 | k+1,s,L=>if L=0 then [] else match pck (okV d s L) d.length 0 with | some v=>(v:Int)::grd d k v (wo L v) | none=>[]
def QI (d:List (List Int)):List Int:=0::grd d (2 ^ d.length) 0 (2 ^ d.length-2)
theorem Qci (h:okD d) {s L:Nat} (hs:s<d.length) (hL:L<2 ^ d.length) (c:L≠0):∃v,pck (okV d s L) d.length 0=some v∧v<d.length∧L.testBit v=true∧at2 d s v+rsT d v (wo L v)=rsT d s L:=by
 obtain ⟨_,v,h1,h2⟩:=S4 h hs hL c
 have hv:=K3 hL h1
 cases hp:pck (okV d s L) d.length 0 with
 | none =>
  have:=Cc _ _ hp v (by omega) (by omega)
  simp [okV,h1,h2] at this
 | some u =>
  obtain ⟨h3,h4,_⟩:=Xw _ _ hp
  simp only [okV,qH,decide_eq_true_eq] at h4
  exact ⟨u,rfl,by omega,h4.1,h4.2⟩
def pl (d:List (List Int)):Nat→List Int→Int
 | s,[]=>at2 d s 0
 | s,v::p=>at2 d s v.toNat+pl d v.toNat p
def Cp (L:Nat) (p:List Int):Prop:=p.Nodup∧∀v:Int,v∈p↔0≤v∧L.testBit v.toNat=true
theorem Cp.cons {L v:Nat} {p:List Int} (hL:L<2048) (hv:v<11) (hb:L.testBit v=true) (h:Cp (wo L v) p):Cp L ((v:Int)::p):=by
 refine ⟨List.nodup_cons.2 ⟨fun hm=>?_,h.1⟩,fun u=>?_⟩
 ·have:=((h.2 v).1 hm).2
  rw [X2 hL hv] at this
  simp at this
 ·rw [qN,h.2]
  rw [X2 hL hv]
  constructor
  ·rintro (rfl | ⟨h1,h2⟩)
   ·exact ⟨by omega,by rw [qE];exact hb⟩
   ·simp only [qH] at h2
    exact ⟨h1,h2.1⟩
  ·rintro ⟨h1,h2⟩
   by_cases e:u=(v:Int)
   ·exact .inl e
   ·refine .inr ⟨h1,?_⟩
    simp only [qH,decide_eq_true_eq]
    exact ⟨h2,by omega⟩
theorem Cp.tail {L:Nat} {v:Int} {p:List Int} (hL:L<2048) (h:Cp L (v::p)):(0≤v∧L.testBit v.toNat=true)∧Cp (wo L v.toNat) p:=by
 have h1:=(h.2 v).1 (by simp)
 have hv:v.toNat<11:=K3 (n:=11) hL h1.2
 obtain ⟨h2,h3⟩:=List.nodup_cons.1 h.1
 refine ⟨h1,h3,fun u=>?_⟩
 rw [X2 hL hv]
 simp only [qH,decide_eq_true_eq]
 constructor
 ·intro hu
  have h4:=(h.2 u).1 (by simp [hu])
  refine ⟨h4.1,h4.2,fun e=>?_⟩
  have:u=v:=by omega
  exact h2 (this▸hu)
 ·rintro ⟨h4,h5,h6⟩
  have:=(h.2 u).2 ⟨h4,h5⟩
  rw [qN] at this
  rcases this with rfl | h7
  ·exact absurd rfl h6
  ·exact h7
theorem Qhe (h:okD d):∀(p:List Int) (s L:Nat),s<d.length→L<2 ^ d.length→Cp L p→rsT d s L≤pl d s p:=by
 have hp:=ZZ h.1.2
 intro p
 induction p with
 | nil =>
  intro s L hs hL hC
  have:L=0:=by
   rcases Nat.eq_zero_or_pos L with h0 | h0
   ·exact h0
   ·obtain ⟨v,hb⟩:=jQ (x:=L) (by omega)
    have:=(hC.2 (v:Int)).2 ⟨by omega,by rw [qE];exact hb⟩
    cases this
  subst this
  exact Int.le_refl _
 | cons v p ih =>
  intro s L hs hL hC
  obtain ⟨⟨h1,h2⟩,h3⟩:=hC.tail (by omega)
  have hv:=K3 hL h2
  have c:L≠0:=fun e=>by subst e;simp at h2
  have h4:=(S4 h hs hL c).1 _ h2
  have h5:=ZC h2
  have h6:=ih v.toNat (wo L v.toNat) hv (by omega) h3
  rw [pl];omega
theorem Qcj (h:okD d):∀(k s L:Nat),s<d.length→L<2 ^ d.length→L≤k→Cp L (grd d k s L)∧pl d s (grd d k s L)=rsT d s L:=by
 have hp:=ZZ h.1.2
 have h0:∀s,Cp 0 []∧pl d s []=rsT d s 0:=fun s=>⟨⟨qW,fun v=>by simp⟩,rfl⟩
 intro k
 induction k with
 | zero =>
  intro s L hs hL hk
  have:L=0:=by omega
  subst this
  exact h0 s
 | succ k ih =>
  intro s L hs hL hk
  rw [grd]
  by_cases c:L=0
  ·subst c;rw [if_pos rfl];exact h0 s
  ·rw [if_neg c]
   obtain ⟨v,h1,h2,h3,h4⟩:=Qci h hs hL c
   rw [h1]
   have h5:=ZC h3
   obtain ⟨h6,h7⟩:=ih v (wo L v) h2 (by omega) (by omega)
   refine ⟨h6.cons (by omega) (by have:=h.1.2;omega) h3,?_⟩
   show pl d s ((v:Int)::grd d k v (wo L v))=_
   rw [pl,qE,h7,h4]
theorem Qck {l:List Int} (h0:l.getD 0 0=0):∀(k j:Nat) (s:Int),j+(k+1)=l.length→VJ d l (k+1) j s=s+pl d (l.getD j 0).toNat (l.drop (j+1)):=by
 intro k
 induction k with
 | zero =>
  intro j s hj
  rw [VJ,VJ,List.drop_of_length_le (by omega),pl,show j+1=l.length by omega,Nat.mod_self,h0]
  rfl
 | succ k ih =>
  intro j s hj
  rw [VJ,ih (j+1) _ (by omega),Nat.mod_eq_of_lt (by omega),qZ (show j+1<l.length by omega),pl]
  have e:l[j+1]'(by omega)=l.getD (j+1) 0:=by simp [qF,qC (show j+1<l.length by omega)]
  rw [e];omega
theorem Ks (p:List Int):Wa d (0::p)=pl d 0 p:=by
 have:=Qck (d:=d) (l:=0::p) rfl p.length 0 0 (by simp)
 unfold Wa
 rw [qO,this]
 simp
theorem YN {n v:Nat} (hn:1≤n):(2 ^ n-2).testBit v=decide (1≤v∧v<n):=by
 have h1:2 ^ n-2=2*(2 ^ (n-1)-1):=by
  obtain ⟨k,rfl⟩:∃k,n=k+1:=⟨n-1,by omega⟩
  rw [Nat.pow_succ,Nat.add_sub_cancel];omega
 rw [h1]
 cases v with
 | zero=>simp [Nat.testBit_zero]
 | succ v =>
  rw [Nat.testBit_succ,Nat.mul_comm,Nat.mul_div_cancel _ (by omega),Nat.testBit_two_pow_sub_one]
  congr 1
  apply propext
  omega
theorem YO {n:Nat} {l:List Int} (hn:1≤n) (h:KH n l=true):∃p,l=0::p∧Cp (2 ^ n-2) p:=by
 simp only [KH,decide_eq_true_eq] at h
 obtain ⟨t1,t2,t3,t4⟩:=h
 cases l with
 | nil=>simp at t1;omega
 | cons a p =>
  simp at t2
  subst t2
  obtain ⟨n1,n2⟩:=List.nodup_cons.1 t4
  refine ⟨p,rfl,n2,fun v=>?_⟩
  rw [YN hn,decide_eq_true_eq]
  constructor
  ·intro hv
   have:=t3 v (by simp [hv])
   have:v≠0:=fun e=>n1 (e▸hv)
   omega
  ·rintro ⟨h1,h2,h3⟩
   have hs:(0::p) ⊆ (qJ n).map fun i:Nat=>(i:Int):=fun x hx=>by
    have:=t3 x hx
    exact List.mem_map.2 ⟨x.toNat,List.mem_range.2 (by omega),by omega⟩
   apply Classical.byContradiction
   intro hm
   have h4:(v::0::p).Nodup:=List.nodup_cons.2 ⟨by simp only [qN,not_or];exact ⟨by omega,hm⟩,t4⟩
   have h5:=h4.length_le_of_subset (l₂:=(qJ n).map fun i:Nat=>(i:Int)) (fun x hx=>by
    rcases List.mem_cons.1 hx with rfl | hx
    ·exact List.mem_map.2 ⟨x.toNat,List.mem_range.2 (by omega),by omega⟩
    ·exact hs hx)
   simp only [qO,qB,List.length_range] at h5 t1
   omega
theorem Qei {n:Nat} {p:List Int} (hn:1≤n) (h:Cp (2 ^ n-2) p):KH n (0::p)=true:=by
 have hm:∀v:Int,v∈p↔1≤v∧v<n:=fun v=>by
  rw [h.2,YN hn,decide_eq_true_eq];omega
 have nd:(0::p).Nodup:=List.nodup_cons.2 ⟨fun h0=>by have:=(hm 0).1 h0;omega,h.1⟩
 have ndR:((qJ n).map fun i:Nat=>(i:Int)).Nodup:=by
  refine List.Pairwise.map _ (fun a b (hab:a≠b)=>?_) List.nodup_range
  intro e
  exact hab (by omega)
 have hmem:∀x:Int,x∈(0::p)↔x∈(qJ n).map fun i:Nat=>(i:Int):=fun x=>by
  rw [qN,hm,List.mem_map]
  constructor
  ·intro hx
   exact ⟨x.toNat,List.mem_range.2 (by omega),by omega⟩
  ·rintro ⟨i,hi,rfl⟩
   have:=List.mem_range.1 hi
   omega
 have hl:(0::p).length=n:=by
  have h1:=nd.length_le_of_subset (fun x hx=>(hmem x).1 hx)
  have h2:=ndR.length_le_of_subset (fun x hx=>(hmem x).2 hx)
  simp only [qB,List.length_range] at h1 h2
  omega
 simp only [KH,decide_eq_true_eq]
 refine ⟨hl,rfl,fun v hv=>?_,nd⟩
 obtain ⟨i,hi,rfl⟩:=List.mem_map.1 ((hmem v).1 hv)
 have:=List.mem_range.1 hi
 omega
theorem D3 {n:Nat}:2 ^ n-2<2 ^ n:=by
 have:=Nat.two_pow_pos n
 omega
theorem X3 (h:okD d):KH d.length (QI d)=true:=Qei h.1.1 (Qcj h _ 0 _ (by have:=h.1.1;omega) D3 (qX _ _)).1
theorem Qcl (h:okD d):Wa d (QI d)=rsT d 0 (2 ^ d.length-2):=by
 unfold QI
 rw [Ks,(Qcj h _ 0 _ (by have:=h.1.1;omega) D3 (qX _ _)).2]
theorem Qcm (h:okD d) {l:List Int} (hl:KH d.length l=true):Wa d (QI d)≤Wa d l:=by
 obtain ⟨p,rfl,hp⟩:=YO h.1.1 hl
 rw [Qcl h,Ks]
 exact Qhe h p 0 _ (by have:=h.1.1;omega) D3 hp
end
end Go.Proofs.Ytlendaofkmhgmaa
end
section
open Go Go.HL
namespace Go.Proofs.Ytlendaofkmhgmaa
set_option maxRecDepth 100000
set_option linter.unusedSectionVars false
open Go.Proofs.Try renaming prog → Tp
open Go.HL.HV renaming undef → Ud
noncomputable def B49:Code:=Try.f49.body.getD .skip
abbrev Qcn (v0 v1 v2 v6:HV):Env:=[(0,v0),(1,v1),(2,v2),(6,v6)]
section
variable (n lo hi:Int)
include n lo hi
theorem Qnt (g0:lo≤n) (g1:n≤hi): RT pol 49 (sub [] B49) [(0,.i n),(1,.i lo),(2,.i hi)] [] .ret (Qcn (.i n) (.i lo) (.i hi) (.bool true)) [] :=
 hx 0 60 [jT 1 2 [] g0,jT 1 6 [] g1]
theorem Qnu (g0:lo≤n) (g1:¬(n≤hi)): RT pol 49 (sub [] B49) [(0,.i n),(1,.i lo),(2,.i hi)] [] .ret (Qcn (.i n) (.i lo) (.i hi) (.bool false)) [] :=
 hx 0 60 [jT 1 2 [] g0,jF 1 6 [] g1]
theorem Qnv (g0:¬(lo≤n)): RT pol 49 (sub [] B49) [(0,.i n),(1,.i lo),(2,.i hi)] [] .ret (Qcn (.i n) (.i lo) (.i hi) (.bool false)) [] :=
 hx 0 60 [jF 1 2 [] g0]
end
noncomputable def B27:Code:=Try.f27.body.getD .skip
abbrev Qnw (v0 v1 v4:HV):Env:=[(0,v0),(1,v1),(4,v4)]
theorem Qnx (a n:Int) (g0:BV .rem 81 (.int .u64 (IntKind.u64.wrap a)) (.int .u64 (IntKind.u64.wrap n)) (.int .u64 ((IntKind.u64.wrap a:Int).tmod (IntKind.u64.wrap n)))): RT pol 27 (sub [] B27) [(0,.i a),(1,.i n)] [] .ret (Qnw (.i a) (.i n) (.i (qA.wrap ((IntKind.u64.wrap a:Int).tmod (IntKind.u64.wrap n))))) [] :=
 hx 0 60 [jO 1 4 [] g0]
noncomputable def B16:Code:=Try.f16.body.getD .skip
abbrev Qny (v0 v2 v3:HV):Env:=[(0,v0),(2,v2),(3,v3)]
theorem QoD (la:List HV) (m:Nat) (g0:Jb Tp 23 (.a la) none (some (.i (min (la.length:Int) 13))) none=some (.a (la.take m))) (g1:WV [.b []] 1 8 (.s 0 0) (la.take m)=some (.sl 0 0 ((la.take m).length) none ((la.take m).length) 1,[.arr 1 (la.take m) true 0])): RT pol 16 (sub [] B16) [(0,.a la)] [] .ret (Qny (.a la) (.sl 0 0 ((la.take m).length) none ((la.take m).length) 1) (.s 0 0)) [.arr 1 (la.take m) true 0] :=
 hx 0 60 [jO 2 5 [.b []] g0,jR 2 6 g1]
noncomputable def B15:Code:=Try.f15.body.getD .skip
abbrev Qco (v0 v2 v3 v4:HV):Env:=[(0,v0),(2,v2),(3,v3),(4,v4)]
noncomputable def B72:Code:=Try.f72.body.getD .skip
abbrev S5 (v0 v1 v4 v5 v7 v8:HV):Env:=[(0,v0),(1,v1),(4,v4),(5,v5),(7,v7),(8,v8)]
abbrev e72 (la:List HV) (v:Int) (u3 u4 u5:HV):Env:=S5 (.a la) (.i v) (.i 0) u3 u4 u5
section
variable (la:List HV) (v:Int)
include la v
theorem Qhf:RT pol 72 (sn 2 B72) [(0,.a la),(1,.i v)] [] .normal (e72 la v Ud Ud Ud) [] :=
 hx 0 60 []
end
section
variable (la:List HV) (v:Int)
include la v
theorem Qhg:RT pol 72 (sn 12 B72) (e72 la v Ud Ud Ud) [] .normal (e72 la v Ud (.i (la.length:Int)) (.i 0)) [] :=
 hx 0 60 []
theorem Qhh (j:Nat) (x0:Int) (g0:(j:Int)<(la.length:Int)) (g1:IX 23 (.a la) (.n j) (.vptr (.i x0))) (g2:v=x0): RT pol 72 (sn 52 B72) (e72 la v Ud (.i (la.length:Int)) (.n j)) [] .ret (S5 (.a la) (.i v) (.n j) (.n j) (.i (la.length:Int)) (.n j)) [] :=
 hx 0 60 [jT 2 0 [] g0,jO 4 3 [] g1,jT 4 5 [] g2]
theorem Qhi (j:Nat) (x0:Int) (g0:(j:Int)<(la.length:Int)) (g1:IX 23 (.a la) (.n j) (.vptr (.i x0))) (g2:¬(v=x0)): RT pol 72 (sn 52 B72) (e72 la v Ud (.i (la.length:Int)) (.n j)) [] .normal (e72 la v (.n j) (.i (la.length:Int)) (.i (qA.wrap ((j:Int)+1)))) [] :=
 hx 0 60 [jT 2 0 [] g0,jO 4 3 [] g1,jF 4 5 [] g2]
theorem Qhj (j:Nat) (g0:¬((j:Int)<(la.length:Int))): RT pol 72 (sn 52 B72) (e72 la v Ud (.i (la.length:Int)) (.n j)) [] (.exit 0) (e72 la v Ud (.i (la.length:Int)) (.n j)) [] :=
 hx 0 60 [jF 2 0 [] g0]
theorem Qhk (j:Nat): RT pol 72 (sn 7 B72) (e72 la v Ud (.i (la.length:Int)) (.n j)) [] .ret (S5 (.a la) (.i v) (.i (-1)) Ud (.i (la.length:Int)) (.n j)) [] :=
 hx 0 60 []
end
noncomputable def B60:Code:=Try.f60.body.getD .skip
abbrev QgG (v0 v1 v4:HV):Env:=[(0,v0),(1,v1),(4,v4)]
theorem QoE (la:List HV) (x:Int) (r:Int) (g0:∀kf,Qa Tp polX (kf+1) 72 [.a la,.i x] []=some (.i r,[])) (g1:0≤r): RT polX 60 (sub [] B60) [(0,.a la),(1,.i x)] [] .ret (QgG (.a la) (.i x) (.bool true)) [] :=
 hx 0 60 [jD 1 2 g0,jT 1 3 [] g1]
theorem QoF (la:List HV) (x:Int) (r:Int) (g0:∀kf,Qa Tp polX (kf+1) 72 [.a la,.i x] []=some (.i r,[])) (g1:¬(0≤r)): RT polX 60 (sub [] B60) [(0,.a la),(1,.i x)] [] .ret (QgG (.a la) (.i x) (.bool false)) [] :=
 hx 0 60 [jD 1 2 g0,jF 1 3 [] g1]
noncomputable def B56:Code:=Try.f56.body.getD .skip
abbrev Qcp (v0 v1 v4 v5 v6 v7 v8 v9 v10:HV):Env:=[(0,v0),(1,v1),(4,v4),(5,v5),(6,v6),(7,v7),(8,v8),(9,v9),(10,v10)]
abbrev e56 (rw:List HV) (la:List HV) (u3 u4 u5 u6 u7 u8:HV):Env:=Qcp (.a rw) (.a la) (.i 0) u3 u4 u5 u6 u7 u8
section
variable (rw la:List HV)
include rw la
theorem Qhl:RT pol 56 (sn 2 B56) [(0,.a rw),(1,.a la)] [] .normal (e56 rw la Ud Ud Ud Ud Ud Ud) [] :=
 hx 0 60 []
end
section
variable (rw la:List HV)
include rw la
theorem Qhm:RT pol 56 (sn 6 B56) (e56 rw la Ud Ud Ud Ud Ud Ud) [] .normal (e56 rw la (.i 0) Ud Ud Ud Ud Ud) [] :=
 hx 0 60 []
theorem Qhn (sm:Int): RT pol 56 (sn 28 B56) (e56 rw la (.i sm) Ud Ud Ud Ud Ud) [] .normal (e56 rw la (.i sm) Ud Ud (.a la) (.i (la.length:Int)) (.i 0)) [] :=
 hx 0 60 []
theorem Qho (sm:Int) (j:Nat) (x0:Int) (l0:List HV) (x1:Int) (x2:Int) (g0:(j:Int)<(la.length:Int)) (g1:IX 23 (.a la) (.n j) (.vptr (.i x0))) (g2:IX 68 (.a rw) (.i x0) (.vptr (.a l0))) (g3:BV .rem 3 (.i (qA.wrap ((j:Int)+1))) (.i (la.length:Int)) (.i ((qA.wrap ((j:Int)+1):Int).tmod (la.length:Int)))) (g4:IX 23 (.a la) (.i ((qA.wrap ((j:Int)+1):Int).tmod (la.length:Int))) (.vptr (.i x1))) (g5:IX 23 (.a l0) (.i x1) (.vptr (.i x2))): RT pol 56 (sn 116 B56) (e56 rw la (.i sm) Ud Ud (.a la) (.i (la.length:Int)) (.n j)) [] .normal (e56 rw la (.i (qA.wrap (sm+x2))) (.n j) (.i x0) (.a la) (.i (la.length:Int)) (.i (qA.wrap ((j:Int)+1)))) [] :=
 hx 0 60 [jT 3 0 [] g0,jO 4 1 [] g1,jO 5 3 [] g2,jO 5 10 [] g3,jO 5 11 [] g4,jO 5 13 [] g5]
theorem Qhp (sm:Int) (j:Nat) (g0:¬((j:Int)<(la.length:Int))): RT pol 56 (sn 116 B56) (e56 rw la (.i sm) Ud Ud (.a la) (.i (la.length:Int)) (.n j)) [] (.exit 0) (e56 rw la (.i sm) Ud Ud (.a la) (.i (la.length:Int)) (.n j)) [] :=
 hx 0 60 [jF 3 0 [] g0]
theorem Qhq (sm:Int) (j:Nat): RT pol 56 (sn 15 B56) (e56 rw la (.i sm) Ud Ud (.a la) (.i (la.length:Int)) (.n j)) [] .ret (Qcp (.a rw) (.a la) (.i sm) (.i sm) Ud Ud (.a la) (.i (la.length:Int)) (.n j)) [] :=
 hx 0 60 []
end
end Go.Proofs.Ytlendaofkmhgmaa
end
section
open Go Go.HL
namespace Go.Proofs.Ytlendaofkmhgmaa
set_option linter.unusedSectionVars false
open Go.Proofs.Try renaming prog → Tp
open Go.HL.HV renaming undef → Ud
theorem Vp:QN Tp 49 Vo:=by
 refine Qp (pol:=pol) (fn:=Try.f49) (cd:=B49) Qi VI (by kernel_rfl) (by kernel_rfl) (Jj pol.prim _ _ (by kernel_rfl)) (by kernel_rfl) ?_
 intro args res h
 unfold Vo at h
 split at h
 ·rename_i n lo hi
  cases h
  have hr:Try.f49.results.toList=[.tmp 6]:=by kernel_rfl
  by_cases g0:lo≤n
  ·by_cases g1:n≤hi
   ·exact ⟨_,_,_,_,Qnt n lo hi g0 g1,by simp,by simp only [Qf,hr];rfl,by rw [decide_eq_true ⟨g0,g1⟩];rfl⟩
   ·exact ⟨_,_,_,_,Qnu n lo hi g0 g1,by simp,by simp only [Qf,hr];rfl,by rw [decide_eq_false (fun h=>g1 h.2)];rfl⟩
  ·exact ⟨_,_,_,_,Qnv n lo hi g0,by simp,by simp only [Qf,hr];rfl,by rw [decide_eq_false (fun h=>g0 h.1)];rfl⟩
 ·cases h
theorem Qcq:QN Tp 27 DZ:=by
 refine Qp (pol:=pol) (fn:=Try.f27) (cd:=B27) Qi VI (by kernel_rfl) (by kernel_rfl) (Jj pol.prim _ _ (by kernel_rfl)) (by kernel_rfl) ?_
 intro args res h
 unfold DZ at h
 split at h
 ·rename_i a n
  split at h
  ·rename_i hn
   cases h
   have hr:Try.f27.results.toList=[.tmp 4]:=by kernel_rfl
   refine ⟨_,_,_,_,Qnx a n ?_,by simp,by simp only [Qf,hr];rfl,rfl⟩
   have:IntKind.u64.wrap n≠0:=by rw [JG];omega
   simp only [BV,ZF,Kb,if_neg this,if_true]
  ·cases h
 ·cases h
theorem D4 {f:List Int→Option HV} {args:List HV} {res:HV} (h:liF f args=some res):∃l,args=[.imm .arg 1 (l.map hvI)]∧f l=some res:=by
 unfold liF at h
 split at h
 ·rename_i la
  split at h
  ·rename_i l hl
   exact ⟨l,by rw [W7 K0 hl],h⟩
  ·cases h
 ·cases h
theorem Vq {f:List (List Int)→Option HV} {args:List HV} {res:HV} (h:rwF f args=some res):∃l,args=[.imm .arg 1 (l.map Qb)]∧f l=some res:=by
 unfold rwF at h
 split at h
 ·rename_i la
  split at h
  ·rename_i l hl
   exact ⟨l,by rw [W7 K2 hl],h⟩
  ·cases h
 ·cases h
theorem D5 {f:List (List Int)→List Int→Option HV} {args:List HV} {res:HV} (h:rlF f args=some res):∃R l,args=[.imm .arg 1 (R.map Qb),.imm .arg 1 (l.map hvI)]∧f R l=some res:=by
 unfold rlF at h
 split at h
 ·rename_i la
  split at h
  ·rename_i R l hR hl
   exact ⟨R,l,by rw [W7 K2 hR,W7 K0 hl],h⟩
  ·cases h
 ·cases h
theorem S6 {f:List Int→Int→Option HV} {args:List HV} {res:HV} (h:lnF f args=some res):∃l v,args=[.imm .arg 1 (l.map hvI),.int .i64 v]∧f l v=some res:=by
 unfold lnF at h
 split at h
 ·rename_i la v
  split at h
  ·rename_i l hl
   exact ⟨l,v,by rw [W7 K0 hl],h⟩
  ·cases h
 ·cases h
theorem Di {w:Nat} {l:List HV} (hw:w≤l.length):Jb Tp 23 (.imm .arg 1 l) none (some (.int .i64 (w:Int))) none=some (.imm .arg 1 (l.take w)):=by
 simp only [Jb,Ke,u23,z3]
 rw [if_pos (by omega:(0:Int)≤(w:Int))]
 simp [hw]
theorem Qcr {α:Type} (l:List α) (k:Nat):l.take (min l.length k)=l.take k:=by
 rw [List.take_eq_take_iff];omega
theorem Qnz:Try.f16.results.toList=[.tmp 2]:=by kernel_rfl
theorem Qej:QN Tp 16 D0:=by
 refine Qp (pol:=pol) (fn:=Try.f16) (cd:=B16) Qi VI (by kernel_rfl) (by kernel_rfl) (Jj pol.prim _ _ (by kernel_rfl)) (by kernel_rfl) ?_
 intro args res h
 obtain ⟨l,rfl,hq⟩:=D4 h
 clear h
 have h:=hq
 clear hq
 cases h
 have hmin:min ((l.map hvI).length:Int) 13=((min l.length 13:Nat):Int):=by rw [qB];omega
 have hw:(l.map hvI).take (min l.length 13)=(l.take 13).map hvI:=by rw [← List.map_take,Qcr]
 have s1:=QoD (l.map hvI) (min l.length 13) (by rw [hmin];exact Di (by rw [qB];omega)) (by
  rw [hw]
  by_cases h0:l.take 13=[]
  ·rw [h0];rfl
  ·have hlen:(l.take 13).length≤13:=by rw [qI];omega
   have:=Z9 (H:=[bI []]) (b:=0) (o:=[]) (xs:=l.take 13) rfl (by simp;omega) h0
   rw [List.nil_append] at this
   simpa [bI] using this)
 rw [hw] at s1
 refine ⟨_,_,_,.sl 0 0 ((l.take 13).map hvI).length none ((l.take 13).map hvI).length 1,s1,by simp,by simp only [Qf,Qnz];rfl,?_⟩
 exact Qcd (b:=0) rfl (by simp)
theorem Zt {o:List Int} {y:Nat} (h:y<o.length):o.getD y 0=o[y]:=by simp [qF,qC h]
theorem QgH:Try.f72.results.toList=[.tmp 4]:=by kernel_rfl
abbrev ixE (la:List HV) (v:Int) (j:Nat):Env:=S5 (.imm .arg 1 la) (.int .i64 v) (.int .i64 0) Ud (.int .i64 (la.length:Int)) (.int .i64 (j:Int))
theorem Sj (l:List Int) (v:Int) (hl:l.length≤1000):∀(d j:Nat),j+d=l.length →
  ∃x E,RT pol 72 (sn 26 B72) (ixE (l.map hvI) v j) [] x E [] ∧
   ((Zs v j (l.drop j)=-1∧x=.exit 0∧E=ixE (l.map hvI) v l.length)∨(x=.ret∧E.get 4=.int .i64 (Zs v j (l.drop j)))):=by
 intro d
 induction d with
 | zero =>
  intro j hj
  have hj:j=l.length:=by omega
  subst hj
  exact ⟨_,_,lpo (Qhj (l.map hvI) v l.length (by simp)),.inl ⟨by rw [List.drop_length];rfl,rfl,rfl⟩⟩
 | succ d ih =>
  intro j hj
  have hjl:j<l.length:=by omega
  have g1:=gx hjl
  rw [Zt hjl] at g1
  rw [qZ hjl,Zs]
  by_cases he:v=l[j]
  ·rw [if_pos he]
   have s1:=Qhh (l.map hvI) v j _ (by simp;omega) g1 he
   exact ⟨_,_,lpo s1,.inr ⟨rfl,rfl⟩⟩
  ·rw [if_neg he]
   obtain ⟨x,E,h1,h2⟩:=ih (j+1) (by omega)
   have s1:=Qhi (l.map hvI) v j _ (by simp;omega) g1 he
   rw [Qc (by omega)] at s1
   exact ⟨x,E,lop s1 rfl h1,h2⟩
theorem Qcs:QN Tp 72 YL:=by
 refine Qp (pol:=pol) (fn:=Try.f72) (cd:=B72) Qi VI (by kernel_rfl) (by kernel_rfl) (Jj pol.prim _ _ (by kernel_rfl)) (by kernel_rfl) ?_
 intro args res h
 obtain ⟨l,v,rfl,hq⟩:=S6 h
 clear h
 have h:=hq
 clear hq
 split at h
 ·rename_i hlen
  cases h
  have a1:=Qhf (l.map hvI) v
  have b1:=Qhg (l.map hvI) v
  obtain ⟨x,E,h1,h2⟩:=Sj l v hlen l.length 0 (by omega)
  rw [jU] at h2
  rcases h2 with ⟨k1,rfl,rfl⟩ | ⟨rfl,k2⟩
  ·have t1:=sq b1 (bke (c:=sn 13 B72) h1) (c:=sn 6 B72)
   have t2:=sq t1 (Qhk (l.map hvI) v l.length) (c:=sn 3 B72)
   have t3:=sq a1 t2 (c:=B72)
   exact ⟨_,_,_,.int .i64 (Zs v 0 l),t3,by simp,by rw [k1];simp only [Qf,QgH];rfl,rfl⟩
  ·have t1:=sq b1 (RunsTo.block_ret (c:=sn 13 B72) (i:=0) h1 (by kernel_rfl)) (c:=sn 6 B72)
   have t2:=sqo t1 (c:=sn 3 B72) (b:=sn 7 B72)
   have t3:=sq a1 t2 (c:=B72)
   exact ⟨_,_,_,.int .i64 (Zs v 0 l),t3,by simp,by simp only [Qf,QgH,mapO,Q3,k2],rfl⟩
 ·cases h
theorem Qhr (n:Nat):Qo Tp (Qa Tp polX n):=QW _ (fun g f h=>by
 split at h
 ·rename_i hg;cases h;rw [eq_of_beq hg];exact Qcs
 ·cases h) n
theorem K4 (v:Int):∀(l:List Int) (j:Nat),0≤Zs v j l↔v∈l
 | [],j=>by simp [Zs]
 | x::l,j=>by
  rw [Zs]
  by_cases h:v=x
  ·subst h;simp
  ·have h':¬x=v:=fun e=>h e.symm
   simp [h,h',K4 v l (j+1)]
theorem QgI:Try.f60.results.toList=[.tmp 4]:=by kernel_rfl
theorem Yv:QN Tp 60 W8:=by
 refine Qp (pol:=polX) (fn:=Try.f60) (cd:=B60) Qi Qhr (by kernel_rfl) (by kernel_rfl) (Jj polX.prim _ _ (by kernel_rfl)) (by kernel_rfl) ?_
 intro args res h
 obtain ⟨l,v,rfl,hq⟩:=S6 h
 clear h
 have h:=hq
 clear hq
 split at h
 ·rename_i hl
  cases h
  have hc:∀k,Qa Tp polX (k+1) 72 [.imm .arg 1 (l.map hvI),.int .i64 v] []=some (.int .i64 (Zs v 0 l),[]):=fun k=>by
   rw [Qt (pol:=polX) (g:=72) (F:=YL) (by kernel_rfl) (rs:=[.imm .arg 1 (l.map hvI),.int .i64 v]) (by simp only [mapO,X1];rfl) (res:=.int .i64 (Zs v 0 l)) (by simp only [YL,lnF,QH WL];rw [if_pos hl])];rfl
  by_cases hm:v∈l
  ·rw [decide_eq_true hm]
   exact ⟨_,_,_,_,QoE (l.map hvI) v _ hc ((K4 v l 0).2 hm),by simp,by simp only [Qf,QgI];rfl,rfl⟩
  ·rw [decide_eq_false hm]
   exact ⟨_,_,_,_,QoF (l.map hvI) v _ hc (fun h=>hm ((K4 v l 0).1 h)),by simp,by simp only [Qf,QgI];rfl,rfl⟩
 ·cases h
theorem QgJ {d:List (List Int)} (h:okD d) {i j:Nat} (hi:i<d.length) (hj:j<d.length):0≤at2 d i j∧at2 d i j≤1000:=(h.2.2 i hi j hj).1
theorem Qct {n:Nat} {l:List Int} (h:inT n l) {j:Nat} (hj:j<l.length):0≤l.getD j 0∧(l.getD j 0).toNat<n:=by
 have:=h (l.getD j 0) (by rw [Zt hj];exact jV hj)
 omega
theorem Qek {j n:Nat} (hn:0<n) (hj:j<1000000):ZF Tp .rem 3 (.int .i64 (qA.wrap ((j:Int)+1))) (.int .i64 (n:Int))=some (.int .i64 ((qA.wrap ((j:Int)+1):Int).tmod (n:Int)))∧(qA.wrap ((j:Int)+1):Int).tmod (n:Int)=(((j+1)%n:Nat):Int):=by
 refine ⟨?_,?_⟩
 ·have:(n:Int)≠0:=by omega
  simp only [BV,ZF,Kb,if_neg this,if_true]
 ·rw [Qc (by omega),← Int.ofNat_tmod]
theorem Qcu {d:List (List Int)} (h:okD d) {i:Nat} (hi:i<d.length):(d.getD i []).length=d.length:=h.2.1 i hi
section
variable {d:List (List Int)} {l:List Int}
theorem Cd (h:okD d) (hl:inT d.length l) {j:Nat} (hj:j<l.length):∃a b:Int,l.getD j 0=a∧l.getD ((j+1)%l.length) 0=b∧(0≤a∧a.toNat<d.length)∧(0≤b∧b.toNat<d.length)∧(j+1)%l.length<l.length:=by
 have hm:(j+1)%l.length<l.length:=Nat.mod_lt _ (by omega)
 exact ⟨_,_,rfl,rfl,Qct hl hj,Qct hl hm,hm⟩
abbrev mlE (d:List (List Int)) (l:List Int) (s:Int) (j:Nat):Env:=Qcp (.imm .arg 1 (d.map Qb)) (.imm .arg 1 (l.map hvI)) (.int .i64 0) (.int .i64 s) Ud Ud (.imm .arg 1 (l.map hvI)) (.int .i64 (l.length:Int)) (.int .i64 (j:Int))
theorem Qel (h:okD d) (hl:inT d.length l) (h9:l.length≤1000):∀(k j:Nat) (s:Int),j+k=l.length→(0≤s∧s≤1000*j) →
  RT pol 56 (sn 58 B56) (mlE d l s j) [] (.exit 0) (mlE d l (VJ d l k j s) l.length) []:=by
 intro k
 induction k with
 | zero =>
  intro j s hj hs
  have hj:j=l.length:=by omega
  subst hj
  have s1:=Qhp (d.map Qb) (l.map hvI) s l.length (by simp)
  rw [qB] at s1
  exact lpo s1
 | succ k ih =>
  intro j s hj hs
  have hjl:j<l.length:=by omega
  obtain ⟨a,b,ha,hb,⟨a0,a1⟩,⟨b0,b1⟩,hm⟩:=Cd h hl hjl
  obtain ⟨r1,r2⟩:=Qek (j:=j) (n:=l.length) (by omega) (by omega)
  have g1:=gx hjl
  rw [ha] at g1
  have g4:=gx hm
  rw [hb,← r2] at g4
  have hbd:=QgJ h a1 b1
  have g5:=gxi (l:=d.getD a.toNat []) b0 (by rw [Qcu h a1];exact b1)
  have s1:=Qho (d.map Qb) (l.map hvI) s j a ((d.getD a.toNat []).map hvI) b (at2 d a.toNat b.toNat) (by simp;omega) g1 (gm a0 a1) (by rw [qB];exact r1) (by rw [qB];exact g4) g5
  rw [Qc (by omega),Qn (by omega) (by omega),qB] at s1
  have hr:=ih (j+1) (s+at2 d a.toNat b.toNat) (by omega) (by omega)
  rw [VJ,ha,hb]
  exact lop s1 rfl hr
end
theorem QnA:Try.f56.results.toList=[.tmp 4]:=by kernel_rfl
theorem S7:QN Tp 56 Yu:=by
 refine Qp (pol:=pol) (fn:=Try.f56) (cd:=B56) Qi VI (by kernel_rfl) (by kernel_rfl) (Jj pol.prim _ _ (by kernel_rfl)) (by kernel_rfl) ?_
 intro args res h
 obtain ⟨d,l,rfl,hq⟩:=D5 h
 clear h
 have h:=hq
 clear hq
 split at h
 ·rename_i hc
  cases h
  obtain ⟨h1,h2,h3⟩:=hc
  have a1:=Qhl (d.map Qb) (l.map hvI)
  have b1:=Qhm (d.map Qb) (l.map hvI)
  have c1:=Qhn (d.map Qb) (l.map hvI) 0
  have r:=Qel h1 h2 h3 l.length 0 0 (by omega) (by omega)
  have z1:=Qhq (d.map Qb) (l.map hvI) (Wa d l) l.length
  rw [qB] at c1 z1
  have t1:=sq c1 (bke (c:=sn 29 B56) r) (c:=sn 14 B56)
  have t2:=sq b1 (sq t1 z1 (c:=sn 7 B56)) (c:=sn 3 B56)
  exact ⟨_,_,_,.int .i64 (Wa d l),sq a1 t2 (c:=B56),by simp,by simp only [Qf,QnA];rfl,rfl⟩
 ·cases h
theorem QnB:Try.f15.results.toList=[.tmp 2]:=by kernel_rfl
theorem Uu {l:List Int} {j:Nat} (hj:j<l.length):(l.take (j+1)).Nodup↔(l.take j).Nodup∧l[j]∉l.take j:=by
 rw [jW hj,List.nodup_append]
 constructor
 ·rintro ⟨h1,_,h3⟩
  exact ⟨h1,fun hm=>h3 _ hm _ (by simp) rfl⟩
 ·rintro ⟨h1,h2⟩
  exact ⟨h1,by simp,fun x hx y hy e=>by
   rw [qR] at hy
   exact h2 (by rw [← hy,← e];exact hx)⟩
theorem UU {l:List Int} (h:l.Nodup) (j:Nat):(l.take j).Nodup:=List.Pairwise.sublist (List.take_sublist j l) h
structure Gd (n:Nat) (l:List Int) (j:Nat):Prop where
 rng:inT n (l.take j)
 nd:(l.take j).Nodup
theorem Gd.zero (n:Nat) (l:List Int):Gd n l 0:=⟨by simp [inT],by simp⟩
theorem Gd.succ {n:Nat} {l:List Int} {j:Nat} (h:Gd n l j) (hj:j<l.length) (h1:0≤l[j]∧l[j]<(n:Int)) (h2:l[j]∉l.take j):Gd n l (j+1):=by
 refine ⟨fun v hv=>?_,(Uu hj).2 ⟨h.nd,h2⟩⟩
 rw [jW hj,List.mem_append,qR] at hv
 rcases hv with hv | rfl
 ·exact h.rng v hv
 ·exact h1
theorem Gd.all {n:Nat} {l:List Int} (h:Gd n l l.length):inT n l∧l.Nodup:=by
 obtain ⟨h1,h2⟩:=h
 rw [List.take_length] at h1 h2
 exact ⟨h1,h2⟩
theorem Qem {l:List Int} {j:Nat} (hj:j<l.length) (h:l[j]∈l.take j):¬l.Nodup:=fun hn=>((Uu hj).1 (UU hn (j+1))).2 h
structure Mk (n:Nat) (l:List Int) (j:Nat) (bs:List Bool):Prop where
 len:bs.length=n
 iff:∀y,y<n→(bs.getD y false=true↔(y:Int)∈l.take j)
theorem Mk.succ {n:Nat} {l:List Int} {j:Nat} {bs:List Bool} (h:Mk n l j bs) (hj:j<l.length) (h1:0≤l[j]∧l[j].toNat<n):Mk n l (j+1) (bs.set l[j].toNat true):=by
 refine ⟨by rw [List.length_set];exact h.len,fun y hy=>?_⟩
 have hl:=h.len
 rw [jW hj,List.mem_append,qR,qF,jA]
 by_cases e:l[j].toNat=y
 ·rw [if_pos e,if_pos (by omega)]
  simp
  right;omega
 ·rw [if_neg e]
  have:=h.iff y hy
  rw [qF] at this
  rw [this]
  constructor
  ·exact fun h=>.inl h
  ·rintro (h | h)
   ·exact h
   ·omega
end Go.Proofs.Ytlendaofkmhgmaa
end
section
open Go Go.HL
namespace Go.Proofs.Ytlendaofkmhgmaa
set_option maxRecDepth 100000
set_option linter.unusedSectionVars false
open Go.Proofs.Try renaming prog → Tp
open Go.HL.HV renaming undef → Ud
noncomputable def B68:Code:=Try.f68.body.getD .skip
abbrev QgK (v0 v2:HV):Env:=[(0,v0),(2,v2)]
theorem QoG (n:Int) (g0:(0:Int)≤n∧n≤(1000:Int)): RT polW 68 (sub [] B68) [(0,.i n)] [] .ret (QgK (.i n) (.bool false)) [] :=
 hx 0 60 [jT 1 1 [] g0]
theorem QoH (n:Int) (g0:¬((0:Int)≤n∧n≤(1000:Int))): RT polW 68 (sub [] B68) [(0,.i n)] [] .ret (QgK (.i n) (.bool true)) [] :=
 hx 0 60 [jF 1 1 [] g0]
noncomputable def B69:Code:=Try.f69.body.getD .skip
abbrev S8 (v0 v1 v4 v5 v7 v8:HV):Env:=[(0,v0),(1,v1),(4,v4),(5,v5),(7,v7),(8,v8)]
abbrev e69 (la:List HV) (u3 u4 u5:HV):Env:=S8 (.a la) (.func 68 [] []) (.i 0) u3 u4 u5
section
variable (la:List HV) (H:Heap)
include la H
theorem Qhs:RT polM 69 (sn 2 B69) [(0,.a la),(1,.func 68 [] [])] H .normal (e69 la Ud Ud Ud) H :=
 hx 0 60 []
end
section
variable (la:List HV) (H:Heap)
include la H
theorem Qht:RT polM 69 (sn 12 B69) (e69 la Ud Ud Ud) H .normal (e69 la Ud (.i (la.length:Int)) (.i 0)) H :=
 hx 0 60 []
theorem Qhu (j:Nat) (x0:Int) (H0:Heap) (g0:(j:Int)<(la.length:Int)) (g1:IX 23 (.a la) (.n j) (.vptr (.i x0))) (g2:∀kf,Qa Tp polM (kf+1) 68 [.i x0] H=some (.bool true,H0)): RT polM 69 (sn 52 B69) (e69 la Ud (.i (la.length:Int)) (.n j)) H .ret (S8 (.a la) (.func 68 [] []) (.n j) (.n j) (.i (la.length:Int)) (.n j)) H0 :=
 hx 0 60 [jT 2 0 H g0,jO 4 3 H g1,jD 4 5 g2]
theorem Qhv (j:Nat) (x0:Int) (H0:Heap) (g0:(j:Int)<(la.length:Int)) (g1:IX 23 (.a la) (.n j) (.vptr (.i x0))) (g2:∀kf,Qa Tp polM (kf+1) 68 [.i x0] H=some (.bool false,H0)): RT polM 69 (sn 52 B69) (e69 la Ud (.i (la.length:Int)) (.n j)) H .normal (e69 la (.n j) (.i (la.length:Int)) (.i (qA.wrap ((j:Int)+1)))) H0 :=
 hx 0 60 [jT 2 0 H g0,jO 4 3 H g1,jD 4 5 g2]
theorem Qhw (j:Nat) (g0:¬((j:Int)<(la.length:Int))): RT polM 69 (sn 52 B69) (e69 la Ud (.i (la.length:Int)) (.n j)) H (.exit 0) (e69 la Ud (.i (la.length:Int)) (.n j)) H :=
 hx 0 60 [jF 2 0 H g0]
theorem Qhx (j:Nat): RT polM 69 (sn 7 B69) (e69 la Ud (.i (la.length:Int)) (.n j)) H .ret (S8 (.a la) (.func 68 [] []) (.i (-1)) Ud (.i (la.length:Int)) (.n j)) H :=
 hx 0 60 []
end
noncomputable def B47:Code:=Try.f47.body.getD .skip
abbrev QgL (v0 v1 v4:HV):Env:=[(0,v0),(1,v1),(4,v4)]
theorem QoI (N:Nat) (la:List HV) (H:Heap) (r:Int) (H0:Heap) (g0:∀kf,N≤kf→Qa Tp polM (kf+1) 69 [.a la,.func 68 [] []] H=some (.i r,H0)) (g1:0≤r): RT polM 47 (sub [] B47) [(0,.a la),(1,.func 68 [] [])] H .ret (QgL (.a la) (.func 68 [] []) (.bool true)) H0 :=
 hx N 60 [jC 1 2 g0,jT 1 3 H0 g1]
theorem QoJ (N:Nat) (la:List HV) (H:Heap) (r:Int) (H0:Heap) (g0:∀kf,N≤kf→Qa Tp polM (kf+1) 69 [.a la,.func 68 [] []] H=some (.i r,H0)) (g1:¬(0≤r)): RT polM 47 (sub [] B47) [(0,.a la),(1,.func 68 [] [])] H .ret (QgL (.a la) (.func 68 [] []) (.bool false)) H0 :=
 hx N 60 [jC 1 2 g0,jF 1 3 H0 g1]
noncomputable def B46:Code:=Try.f46.body.getD .skip
abbrev Qcv (v0 v2 v4 v5 v6 v7 v8 v13 v14 v15 v29 v30 v31 v36 v37 v38:HV):Env:=[(0,v0),(2,v2),(4,v4),(5,v5),(6,v6),(7,v7),(8,v8),(13,v13),(14,v14),(15,v15),(29,v29),(30,v30),(31,v31),(36,v36),(37,v37),(38,v38)]
abbrev e46 (rw:List HV) (u2 u3 u4 u5 u6 u7 u8 u9 u10 u11 u12 u13 u14 u15:HV):Env:=Qcv (.a rw) (.bool false) u2 u3 u4 u5 u6 u7 u8 u9 u10 u11 u12 u13 u14 u15
section
variable (N:Nat) (rw:List HV)
include N rw
theorem Qhy:RT polM 46 (sn 2 B46) [(0,.a rw)] [] .normal (e46 rw Ud Ud Ud Ud Ud Ud Ud Ud Ud Ud Ud Ud Ud Ud) [] :=
 hx N 60 []
end
section
variable (N:Nat) (rw:List HV)
include N rw
theorem Qhz (g0:(1:Int)≤(rw.length:Int)∧(rw.length:Int)≤(11:Int)): RT polM 46 (sn 6 B46) (e46 rw Ud Ud Ud Ud Ud Ud Ud Ud Ud Ud Ud Ud Ud Ud) [] .normal (e46 rw Ud Ud Ud Ud Ud Ud Ud Ud Ud Ud Ud Ud Ud Ud) [] :=
 hx N 60 [jT 1 2 [] g0]
theorem QhA (g0:¬((1:Int)≤(rw.length:Int)∧(rw.length:Int)≤(11:Int))): RT polM 46 (sn 6 B46) (e46 rw Ud Ud Ud Ud Ud Ud Ud Ud Ud Ud Ud Ud Ud Ud) [] .ret (e46 rw Ud Ud Ud Ud Ud Ud Ud Ud Ud Ud Ud Ud Ud Ud) [] :=
 hx N 60 [jF 1 2 [] g0]
theorem QhB:RT polM 46 (sn 28 B46) (e46 rw Ud Ud Ud Ud Ud Ud Ud Ud Ud Ud Ud Ud Ud Ud) [] .normal (e46 rw Ud Ud Ud Ud Ud (.a rw) (.i (rw.length:Int)) (.i 0) Ud Ud Ud Ud Ud Ud) [] :=
 hx N 60 []
theorem QhC (i:Nat) (H:Heap) (la:List HV) (l0:List HV) (H0:Heap) (g0:(i:Int)<(rw.length:Int)) (g1:IX 22 (.a rw) (.n i) (.vptr (.a l0))) (g2:(l0.length:Int)=(rw.length:Int)) (g3:∀kf,N≤kf→Qa Tp polM (kf+1) 47 [.a l0,.func 68 [] []] H=some (.bool true,H0)): RT polM 46 (sn 116 B46) (e46 rw Ud Ud Ud Ud Ud (.a rw) (.i (rw.length:Int)) (.n i) Ud Ud Ud Ud Ud Ud) H .ret (e46 rw (.a l0) Ud Ud Ud Ud (.a rw) (.i (rw.length:Int)) (.n i) Ud Ud Ud Ud Ud Ud) H0 :=
 hx N 60 [jT 4 0 H g0,jO 5 0 H g1,jB 6 4 H (congrArg not (decide_eq_true g2)),jC 6 7 g3]
theorem QhD (i:Nat) (H:Heap) (la:List HV) (l0:List HV) (H0:Heap) (g0:(i:Int)<(rw.length:Int)) (g1:IX 22 (.a rw) (.n i) (.vptr (.a l0))) (g2:(l0.length:Int)=(rw.length:Int)) (g3:∀kf,N≤kf→Qa Tp polM (kf+1) 47 [.a l0,.func 68 [] []] H=some (.bool false,H0)): RT polM 46 (sn 116 B46) (e46 rw Ud Ud Ud Ud Ud (.a rw) (.i (rw.length:Int)) (.n i) Ud Ud Ud Ud Ud Ud) H .normal (e46 rw (.a l0) Ud Ud Ud Ud (.a rw) (.i (rw.length:Int)) (.i (qA.wrap ((i:Int)+1))) Ud Ud Ud Ud Ud Ud) H0 :=
 hx N 60 [jT 4 0 H g0,jO 5 0 H g1,jB 6 4 H (congrArg not (decide_eq_true g2)),jC 6 7 g3]
theorem QhE (i:Nat) (H:Heap) (la:List HV) (l0:List HV) (g0:(i:Int)<(rw.length:Int)) (g1:IX 22 (.a rw) (.n i) (.vptr (.a l0))) (g2:¬((l0.length:Int)=(rw.length:Int))): RT polM 46 (sn 116 B46) (e46 rw Ud Ud Ud Ud Ud (.a rw) (.i (rw.length:Int)) (.n i) Ud Ud Ud Ud Ud Ud) H .ret (e46 rw (.a l0) Ud Ud Ud Ud (.a rw) (.i (rw.length:Int)) (.n i) Ud Ud Ud Ud Ud Ud) H :=
 hx N 60 [jT 4 0 H g0,jO 5 0 H g1,jB 6 4 H (congrArg not (decide_eq_false g2))]
theorem QhF (i:Nat) (H:Heap) (la:List HV) (g0:¬((i:Int)<(rw.length:Int))): RT polM 46 (sn 116 B46) (e46 rw Ud Ud Ud Ud Ud (.a rw) (.i (rw.length:Int)) (.n i) Ud Ud Ud Ud Ud Ud) H (.exit 0) (e46 rw Ud Ud Ud Ud Ud (.a rw) (.i (rw.length:Int)) (.n i) Ud Ud Ud Ud Ud Ud) H :=
 hx N 60 [jF 4 0 H g0]
theorem QhG (i:Nat) (H:Heap) (v4:HV): RT polM 46 (sn 60 B46) (e46 rw v4 Ud Ud Ud Ud (.a rw) (.i (rw.length:Int)) (.n i) Ud Ud Ud Ud Ud Ud) H .normal (e46 rw v4 Ud Ud Ud Ud (.a rw) (.i (rw.length:Int)) (.n i) (.a rw) (.i (rw.length:Int)) (.i 0) Ud Ud Ud) H :=
 hx N 60 []
theorem QhH (i:Nat) (H:Heap) (g0:(i:Int)<(rw.length:Int)): RunsTo Tp polM 46 (sn 488 B46) (e46 rw Ud Ud Ud Ud Ud Ud Ud Ud (.a rw) (.i (rw.length:Int)) (.n i) Ud Ud Ud) H .normal [0,2,4,5,6,7,8,13,14,15,29,30,31,36,37,38,32] [(0,.a rw),(2,.bool false),(4,Ud),(5,Ud),(6,Ud),(7,Ud),(8,Ud),(13,Ud),(14,Ud),(15,Ud),(29,.a rw),(30,.i (rw.length:Int)),(31,.n i),(36,Ud),(37,Ud),(38,Ud),(32,.bool true)] H :=
 hx N 60 [jT 10 0 H g0]
theorem QhI (i:Nat) (H:Heap) (g0:¬((i:Int)<(rw.length:Int))): RunsTo Tp polM 46 (sn 488 B46) (e46 rw Ud Ud Ud Ud Ud Ud Ud Ud (.a rw) (.i (rw.length:Int)) (.n i) Ud Ud Ud) H .normal [0,2,4,5,6,7,8,13,14,15,29,30,31,36,37,38,32] [(0,.a rw),(2,.bool false),(4,Ud),(5,Ud),(6,Ud),(7,Ud),(8,Ud),(13,Ud),(14,Ud),(15,Ud),(29,.a rw),(30,.i (rw.length:Int)),(31,.n i),(36,Ud),(37,Ud),(38,Ud),(32,.bool false)] H :=
 hx N 60 [jF 10 0 H g0]
theorem Qen (i:Nat) (H:Heap): RT polM 46 (sn 978 B46) [(0,.a rw),(2,.bool false),(4,Ud),(5,Ud),(6,Ud),(7,Ud),(8,Ud),(13,Ud),(14,Ud),(15,Ud),(29,.a rw),(30,.i (rw.length:Int)),(31,.n i),(36,Ud),(37,Ud),(38,Ud),(32,.bool true)] H .normal (e46 rw Ud Ud Ud Ud Ud Ud Ud Ud (.a rw) (.i (rw.length:Int)) (.n i) Ud Ud Ud) H :=
 hx N 60 []
theorem Qeo (i:Nat) (H:Heap): RT polM 46 (sn 978 B46) [(0,.a rw),(2,.bool false),(4,Ud),(5,Ud),(6,Ud),(7,Ud),(8,Ud),(13,Ud),(14,Ud),(15,Ud),(29,.a rw),(30,.i (rw.length:Int)),(31,.n i),(36,Ud),(37,Ud),(38,Ud),(32,.bool false)] H (.exit 2) (e46 rw Ud Ud Ud Ud Ud Ud Ud Ud (.a rw) (.i (rw.length:Int)) (.n i) Ud Ud Ud) H :=
 hx N 60 []
theorem QhJ (i:Nat) (H:Heap) (la:List HV) (l0:List HV) (g0:IX 22 (.a rw) (.n i) (.vptr (.a l0))): RT polM 46 (sn 7832 B46) (e46 rw Ud Ud Ud Ud Ud Ud Ud Ud (.a rw) (.i (rw.length:Int)) (.n i) Ud Ud Ud) H .normal (e46 rw Ud (.n i) (.a l0) Ud Ud Ud Ud Ud (.a rw) (.i (rw.length:Int)) (.n i) Ud Ud Ud) H :=
 hx N 60 [jO 11 1 H g0]
theorem QhK (i:Nat) (H:Heap) (la:List HV): RT polM 46 (sn 15666 B46) (e46 rw Ud (.n i) (.a la) Ud Ud Ud Ud Ud (.a rw) (.i (rw.length:Int)) (.n i) Ud Ud Ud) H .normal (e46 rw Ud (.n i) (.a la) Ud Ud Ud Ud Ud (.a rw) (.i (rw.length:Int)) (.n i) (.a la) (.i (la.length:Int)) (.i 0)) H :=
 hx N 60 []
theorem QhL (i:Nat) (H:Heap) (la:List HV) (j:Nat) (x0:Int) (l0:List HV) (x1:Int) (g0:(j:Int)<(la.length:Int)) (g1:IX 23 (.a la) (.n j) (.vptr (.i x0))) (g2:IX 22 (.a rw) (.n j) (.vptr (.a l0))) (g3:IX 23 (.a l0) (.n i) (.vptr (.i x1))) (g4:x0=x1) (g5:(i:Int)=(j:Int)) (g6:x0=0): RT polM 46 (sn 62668 B46) (e46 rw Ud (.n i) Ud Ud Ud Ud Ud Ud (.a rw) (.i (rw.length:Int)) (.n i) (.a la) (.i (la.length:Int)) (.n j)) H .normal (e46 rw Ud (.n i) Ud (.n j) (.i x0) Ud Ud Ud (.a rw) (.i (rw.length:Int)) (.n i) (.a la) (.i (la.length:Int)) (.i (qA.wrap ((j:Int)+1)))) H :=
 hx N 60 [jT 13 0 H g0,jO 14 1 H g1,jO 15 3 H g2,jO 15 6 H g3,jB 15 8 H (congrArg not (decide_eq_true g4)),jT 15 12 H g5,jB 15 15 H (congrArg not (decide_eq_true g6))]
theorem QhM (i:Nat) (H:Heap) (la:List HV) (j:Nat) (x0:Int) (l0:List HV) (x1:Int) (g0:(j:Int)<(la.length:Int)) (g1:IX 23 (.a la) (.n j) (.vptr (.i x0))) (g2:IX 22 (.a rw) (.n j) (.vptr (.a l0))) (g3:IX 23 (.a l0) (.n i) (.vptr (.i x1))) (g4:x0=x1) (g5:(i:Int)=(j:Int)) (g6:¬(x0=0)): RT polM 46 (sn 62668 B46) (e46 rw Ud (.n i) Ud Ud Ud Ud Ud Ud (.a rw) (.i (rw.length:Int)) (.n i) (.a la) (.i (la.length:Int)) (.n j)) H .ret (e46 rw Ud (.n i) Ud (.n j) (.i x0) Ud Ud Ud (.a rw) (.i (rw.length:Int)) (.n i) (.a la) (.i (la.length:Int)) (.n j)) H :=
 hx N 60 [jT 13 0 H g0,jO 14 1 H g1,jO 15 3 H g2,jO 15 6 H g3,jB 15 8 H (congrArg not (decide_eq_true g4)),jT 15 12 H g5,jB 15 15 H (congrArg not (decide_eq_false g6))]
theorem QhN (i:Nat) (H:Heap) (la:List HV) (j:Nat) (x0:Int) (l0:List HV) (x1:Int) (g0:(j:Int)<(la.length:Int)) (g1:IX 23 (.a la) (.n j) (.vptr (.i x0))) (g2:IX 22 (.a rw) (.n j) (.vptr (.a l0))) (g3:IX 23 (.a l0) (.n i) (.vptr (.i x1))) (g4:x0=x1) (g5:¬((i:Int)=(j:Int))): RT polM 46 (sn 62668 B46) (e46 rw Ud (.n i) Ud Ud Ud Ud Ud Ud (.a rw) (.i (rw.length:Int)) (.n i) (.a la) (.i (la.length:Int)) (.n j)) H .normal (e46 rw Ud (.n i) Ud (.n j) (.i x0) Ud Ud Ud (.a rw) (.i (rw.length:Int)) (.n i) (.a la) (.i (la.length:Int)) (.i (qA.wrap ((j:Int)+1)))) H :=
 hx N 60 [jT 13 0 H g0,jO 14 1 H g1,jO 15 3 H g2,jO 15 6 H g3,jB 15 8 H (congrArg not (decide_eq_true g4)),jF 15 12 H g5]
theorem QhO (i:Nat) (H:Heap) (la:List HV) (j:Nat) (x0:Int) (l0:List HV) (x1:Int) (g0:(j:Int)<(la.length:Int)) (g1:IX 23 (.a la) (.n j) (.vptr (.i x0))) (g2:IX 22 (.a rw) (.n j) (.vptr (.a l0))) (g3:IX 23 (.a l0) (.n i) (.vptr (.i x1))) (g4:¬(x0=x1)): RT polM 46 (sn 62668 B46) (e46 rw Ud (.n i) Ud Ud Ud Ud Ud Ud (.a rw) (.i (rw.length:Int)) (.n i) (.a la) (.i (la.length:Int)) (.n j)) H .ret (e46 rw Ud (.n i) Ud (.n j) (.i x0) Ud Ud Ud (.a rw) (.i (rw.length:Int)) (.n i) (.a la) (.i (la.length:Int)) (.n j)) H :=
 hx N 60 [jT 13 0 H g0,jO 14 1 H g1,jO 15 3 H g2,jO 15 6 H g3,jB 15 8 H (congrArg not (decide_eq_false g4))]
theorem QhP (i:Nat) (H:Heap) (la:List HV) (j:Nat) (g0:¬((j:Int)<(la.length:Int))): RT polM 46 (sn 62668 B46) (e46 rw Ud (.n i) Ud Ud Ud Ud Ud Ud (.a rw) (.i (rw.length:Int)) (.n i) (.a la) (.i (la.length:Int)) (.n j)) H (.exit 4) (e46 rw Ud (.n i) Ud Ud Ud Ud Ud Ud (.a rw) (.i (rw.length:Int)) (.n i) (.a la) (.i (la.length:Int)) (.n j)) H :=
 hx N 60 [jF 13 0 H g0]
theorem QhQ (i:Nat) (H:Heap) (la:List HV) (j:Nat): RT polM 46 (sn 1959 B46) (e46 rw Ud (.n i) Ud Ud Ud Ud Ud Ud (.a rw) (.i (rw.length:Int)) (.n i) (.a la) (.i (la.length:Int)) (.n j)) H .normal (e46 rw Ud (.n i) Ud Ud Ud Ud Ud Ud (.a rw) (.i (rw.length:Int)) (.i (qA.wrap ((i:Int)+1))) (.a la) (.i (la.length:Int)) (.n j)) H :=
 hx N 60 []
theorem QhR (i:Nat) (H:Heap): RT polM 46 (sn 31 B46) (e46 rw Ud Ud Ud Ud Ud Ud Ud Ud (.a rw) (.i (rw.length:Int)) (.n i) Ud Ud Ud) H .ret (Qcv (.a rw) (.bool true) Ud Ud Ud Ud Ud Ud Ud Ud (.a rw) (.i (rw.length:Int)) (.n i) Ud Ud Ud) H :=
 hx N 60 []
end
end Go.Proofs.Ytlendaofkmhgmaa
end
section
open Go Go.HL
namespace Go.Proofs.Ytlendaofkmhgmaa
set_option linter.unusedSectionVars false
open Go.Proofs.Try renaming prog → Tp
open Go.HL.HV renaming undef → Ud
theorem QhS (n:Nat):Qo Tp (Qa Tp polW n):=QW _ (fun g f h=>by
 split at h
 ·rename_i hg;cases h;rw [eq_of_beq hg];exact Vp
 ·cases h) n
theorem QgM:Try.f68.results.toList=[.tmp 2]:=by kernel_rfl
theorem Qep:QN Tp 68 D1:=by
 refine Qp (pol:=polW) (fn:=Try.f68) (cd:=B68) Qi QhS (by kernel_rfl) (by kernel_rfl) (Jj polW.prim _ _ (by kernel_rfl)) (by kernel_rfl) ?_
 intro args res h
 unfold D1 at h
 split at h
 ·rename_i n
  cases h
  by_cases g:(0:Int)≤n∧n≤1000
  ·exact ⟨_,_,_,.bool false,QoG n g,by simp,by simp only [Qf,QgM];rfl,by rw [decide_eq_true g];rfl⟩
  ·exact ⟨_,_,_,.bool true,QoH n g,by simp,by simp only [Qf,QgM];rfl,by rw [decide_eq_false g];rfl⟩
 ·cases h
theorem QhT (n:Nat):Qo Tp (Qa Tp polM n):=QW _ (fun g f h=>by
 split at h
 ·rename_i hg;cases h;rw [eq_of_beq hg];exact Vp
 split at h
 ·rename_i hg;cases h;rw [eq_of_beq hg];exact Qep
 ·cases h) n
theorem CallsTo.shared {P:Program} {pol:Pol} {g:FuncId} {fn:Func} {cd:Code} {args:List HV} {x:X} {E:Env} {H H':Heap} {v:HV} (hp:pol.prim g=none) (hf:P.funcs[g]?=some fn) (hb:fn.body=some cd) (hs:pol.shared g=true)
  (hrun:RunsTo P pol g cd (ZS args) H x (pol.keys g) E H') (hres:(fn.results.toList.all fun r=>match r with | .tmp t=>(pol.keys g).contains t | .cell t _=>(pol.keys g).contains t)=true) (hx:∀i,x≠.exit i) (hv:Qf P fn E H'=some v) (hh:pol.heapP g=none:=by rfl) :
  CallsTo (P:=P) (pol:=pol) g args H v (gc H.length (bnd v) H'):=by
 obtain ⟨m,h⟩:=hrun
 refine ⟨m+1,fun k hk=>?_⟩
 obtain ⟨k,rfl⟩:∃n',k=n'+1:=⟨k-1,by omega⟩
 obtain ⟨e1,g1,g2⟩:=h k k (by omega) (by omega)
 subst g2
 rw [ZM hres] at hv
 simp only [Qa,KM,hp,hh,hf,hb,hs,if_true,Ki,g1]
 cases x with
 | exit i=>exact absurd rfl (hx i)
 | normal=>simp only [hv]
 | ret=>simp only [hv]
theorem CallsTo.from {pol:Pol} {g:FuncId} {args:List HV} {H H':Heap} {r:HV} (h:CallsTo (P:=Tp) (pol:=pol) g args H r H'):∃N,∀kf,N≤kf→Qa Tp pol (kf+1) g args H=some (r,H'):=by
 obtain ⟨m,h⟩:=h
 exact ⟨m,fun kf hk=>h (kf+1) (by omega)⟩
theorem QgN:Try.f69.results.toList=[.tmp 4]:=by kernel_rfl
theorem QgO:Try.f47.results.toList=[.tmp 4]:=by kernel_rfl
abbrev jxE (l:List Int) (j:Nat):Env:=S8 (.imm .arg 1 (l.map hvI)) (.func 68 [] []) (.int .i64 0) Ud (.int .i64 (l.length:Int)) (.int .i64 (j:Int))
def mi (v:Int):Prop:=0≤v∧v≤1000
theorem Dj (n:Int) (H:Heap) (b:Bool) (hb:(!decide (0≤n∧n≤1000))=b):∀k,Qa Tp polM (k+1) 68 [.int .i64 n] H=some (.bool b,H):=fun k=>by
 rw [Qt (pol:=polM) (g:=68) (F:=D1) (by kernel_rfl) (rs:=[.int .i64 n]) rfl (res:=.bool b) (by rw [← hb];rfl)];rfl
theorem Qeq (l:List Int) (H:Heap) (hl:l.length≤1000):∀(d j:Nat),j+d=l.length →
  ∃x E r,RT polM 69 (sn 26 B69) (jxE l j) H x E H ∧
   (((∀v,v∈l.drop j→mi v)∧x=.exit 0∧E=jxE l l.length)∨(x=.ret∧E.get 4=.int .i64 r∧0≤r∧¬∀v,v∈l.drop j→mi v)):=by
 intro d
 induction d with
 | zero =>
  intro j hj
  have hj:j=l.length:=by omega
  subst hj
  have s1:=Qhw (l.map hvI) H l.length (by simp)
  rw [qB] at s1
  exact ⟨_,_,0,lpo s1,.inl ⟨by simp,rfl,rfl⟩⟩
 | succ d ih =>
  intro j hj
  have hjl:j<l.length:=by omega
  have g1:=gx hjl
  rw [Zt hjl] at g1
  rw [qZ hjl]
  by_cases he:0≤l[j]∧l[j]≤1000
  ·obtain ⟨x,E,r,h1,h2⟩:=ih (j+1) (by omega)
   have s1:=Qhv (l.map hvI) H j _ H (by simp;omega) g1 (Dj _ H false (by rw [decide_eq_true he];rfl))
   rw [Qc (by omega),qB] at s1
   refine ⟨x,E,r,lop s1 (WN _ rfl) h1,?_⟩
   rcases h2 with ⟨k1,k2,k3⟩ | ⟨k1,k2,k3,k4⟩
   ·exact .inl ⟨fun v hv=>by
     rcases List.mem_cons.1 hv with rfl | hv
     ·exact he
     ·exact k1 v hv,k2,k3⟩
   ·exact .inr ⟨k1,k2,k3,fun h=>k4 fun v hv=>h v (List.mem_cons_of_mem _ hv)⟩
  ·have s1:=Qhu (l.map hvI) H j _ H (by simp;omega) g1 (Dj _ H true (by rw [decide_eq_false he];rfl))
   rw [qB] at s1
   exact ⟨_,_,(j:Int),lpo s1,.inr ⟨rfl,rfl,by omega,fun h=>he (h _ List.mem_cons_self)⟩⟩
theorem Qer (l:List Int) (H:Heap) (hl:l.length≤1000):∃r,CallsTo (P:=Tp) (pol:=polM) 69 [.imm .arg 1 (l.map hvI),.func 68 [] []] H (.int .i64 r) H∧(0≤r↔¬∀v,v∈l→mi v):=by
 have a1:=Qhs (l.map hvI) H
 have b1:=Qht (l.map hvI) H
 rw [qB] at b1
 obtain ⟨x,E,r,h1,h2⟩:=Qeq l H hl l.length 0 (by omega)
 rw [jU] at h2
 rcases h2 with ⟨k1,rfl,rfl⟩ | ⟨rfl,k2,k3,k4⟩
 ·have t1:=sq b1 (bke (c:=sn 13 B69) h1) (c:=sn 6 B69)
  have z1:=Qhx (l.map hvI) H l.length
  rw [qB] at z1
  have t2:=sq a1 (sq t1 z1 (c:=sn 3 B69)) (c:=B69)
  have:=CallsTo.shared (P:=Tp) (pol:=polM) (g:=69) (fn:=Try.f69) (cd:=B69) (args:=[.imm .arg 1 (l.map hvI),.func 68 [] []]) (v:=.int .i64 (-1)) (by kernel_rfl) (by kernel_rfl) (by kernel_rfl) (by kernel_rfl) t2 (by kernel_rfl) (by simp) (by simp only [Qf,QgN];rfl)
  rw [WN _ rfl] at this
  exact ⟨-1,this,fun h=>absurd h (by omega),fun h=>absurd k1 h⟩
 ·have t1:=sq b1 (RunsTo.block_ret (c:=sn 13 B69) (i:=0) h1 (by kernel_rfl)) (c:=sn 6 B69)
  have t2:=sq a1 (sqo t1 (c:=sn 3 B69) (b:=sn 7 B69)) (c:=B69)
  have:=CallsTo.shared (P:=Tp) (pol:=polM) (g:=69) (fn:=Try.f69) (cd:=B69) (args:=[.imm .arg 1 (l.map hvI),.func 68 [] []]) (v:=.int .i64 r) (by kernel_rfl) (by kernel_rfl) (by kernel_rfl) (by kernel_rfl) t2 (by kernel_rfl) (by simp) (by simp only [Qf,QgN,mapO,Q3,k2])
  rw [WN _ rfl] at this
  exact ⟨r,this,by simp only [k3,true_iff];exact k4⟩
open Classical in
theorem Qes (l:List Int) (H:Heap) (hl:l.length≤1000):CallsTo (P:=Tp) (pol:=polM) 47 [.imm .arg 1 (l.map hvI),.func 68 [] []] H (.bool (decide (¬∀v,v∈l→mi v))) H:=by
 obtain ⟨r,hc,hr⟩:=Qer l H hl
 obtain ⟨N,hN⟩:=CallsTo.from hc
 by_cases h0:0≤r
 ·rw [decide_eq_true (hr.1 h0)]
  have:=CallsTo.shared (P:=Tp) (pol:=polM) (g:=47) (fn:=Try.f47) (cd:=B47) (args:=[.imm .arg 1 (l.map hvI),.func 68 [] []]) (v:=.bool true) (by kernel_rfl) (by kernel_rfl) (by kernel_rfl) (by kernel_rfl) (QoI N (l.map hvI) H r H hN h0) (by kernel_rfl) (by simp) (by simp only [Qf,QgO];rfl)
  rw [WN _ rfl] at this
  exact this
 ·rw [decide_eq_false (fun h=>h0 (hr.2 h))]
  have:=CallsTo.shared (P:=Tp) (pol:=polM) (g:=47) (fn:=Try.f47) (cd:=B47) (args:=[.imm .arg 1 (l.map hvI),.func 68 [] []]) (v:=.bool false) (by kernel_rfl) (by kernel_rfl) (by kernel_rfl) (by kernel_rfl) (QoJ N (l.map hvI) H r H hN h0) (by kernel_rfl) (by simp) (by simp only [Qf,QgO];rfl)
  rw [WN _ rfl] at this
  exact this
def K5 (d:List (List Int)) (i:Nat):Prop:=(d.getD i []).length=d.length
def KB (d:List (List Int)) (i j:Nat):Prop:=at2 d i j=at2 d j i∧(i=j→at2 d i j=0)
def QhU (d:List (List Int)) (i j:Nat):Prop:=(0≤at2 d i j∧at2 d i j≤1000)∧KB d i j
section
variable {d:List (List Int)}
theorem QhV {i:Nat} (hi:i<d.length):WW Tp 22 (.imm .arg 1 (d.map Qb)) (.int .i64 (i:Int))=some (.vptr (.imm .arg 1 ((d.getD i []).map hvI))):=gr hi
theorem gat {i j:Nat} (hr:K5 d i) (hj:j<d.length):WW Tp 23 (.imm .arg 1 ((d.getD i []).map hvI)) (.int .i64 (j:Int))=some (.vptr (.int .i64 (at2 d i j))):=gx (by rw [hr];exact hj)
end
theorem Qet {d:List (List Int)}:okD d↔(1≤d.length∧d.length≤11)∧(∀a,a<d.length→K5 d a)∧∀b,b<d.length→∀a,a<d.length→QhU d b a:=Iff.rfl
theorem Jz {d:List (List Int)} (h:okD d):okB d=true:=by unfold okB;simp [h]
theorem ZD {d:List (List Int)} (h:¬okD d):okB d=false:=by unfold okB;simp [h]
noncomputable def polI:Pol:={ pol with prim:=fun g=>if g==46 then some JH else if g==56 then some Yu else none }
def WI (x x':Option (HV×Heap)) (H H':Heap):Bool :=
 match x,x' with
 | some (v,H1),some (v',H1')=>same v v'&&Qj H1 H&&Qj H1' H'
 | _,_=>false
def lkG (P:Program) (T:TypeId) (H:Heap) (b:Nat) (k:HV) (ok:Bool):Option (HV×Heap) :=
 match H[b]? with
 | some (.map ks vs _)=>(JR P T ks vs k ok).map fun v=>(v,H)
 | _=>none
theorem u82:Tp.underlying 82=some (.map 77 3):=by kernel_rfl
theorem z3q:VN Tp 3=some (.int .i64 0):=by kernel_rfl
theorem Ce (p:Int×Int):KK Tp 77 (Q5 p)=true:=by kernel_rfl
theorem a77:Qw Tp 77=true:=by kernel_rfl
theorem s77:Qm Tp 77=some 2:=by kernel_rfl
abbrev JO (T:Nat→Nat→Int) (k:Int×Int):HV:=.int .i64 (T k.1.toNat k.2.toNat)
theorem Uv (p q:Int×Int):Wz (Q5 p) (Q5 q)=some (decide (p=q)):=by
 obtain ⟨a,b⟩:=p
 obtain ⟨c,d⟩:=q
 simp only [Q5,Wz,Wn,Jf,if_true,jE,Prod.mk.injEq]
 by_cases h1:a=c <;> by_cases h2:b=d <;> simp [h1,h2]
theorem W9 (x:Int×Int):∀(ks:List (Int×Int)) (i:Nat),∃r,Ws (Q5 x) (ks.map Q5) i=some r∧((x∈ks∧∃j,r=some (i+j)∧ks[j]?=some x)∨(x∉ks∧r=none))
 | [],i=>⟨none,rfl,.inr ⟨by simp,rfl⟩⟩
 | k::ks,i=>by
  by_cases e:x=k
  ·subst e
   refine ⟨some i,?_,.inl ⟨by simp,0,rfl,by simp⟩⟩
   simp only [qG,Ws,Uv,decide_true]
  ·obtain ⟨r,h1,h2⟩:=W9 x ks (i+1)
   refine ⟨r,?_,?_⟩
   ·simp only [qG,Ws,Uv,decide_eq_false e]
    exact h1
   ·rcases h2 with ⟨h3,j,h4,h5⟩ | ⟨h3,h4⟩
    ·exact .inl ⟨by simp [h3],j+1,by rw [h4];congr 1;omega,by simpa using h5⟩
    ·exact .inr ⟨by simp [h3,e],h4⟩
theorem mxs_le {m:Nat}:∀{H:Heap},mxs H≤m↔∀B∈H,B.mx≤m
 | []=>by simp [mxs]
 | B::H=>by
  have:=mxs_le (m:=m) (H:=H)
  simp only [mxs,qN,forall_eq_or_imp,← this]
  omega
theorem sameH_iff:∀{H:Heap},Qj H H=true↔∀B∈H,Qj [B] [B]=true
 | []=>by simp [Qj]
 | B::H=>by
  have ih:=sameH_iff (H:=H)
  cases B with
  | arr k els w m=>simp only [Qj,jG,← ih,qH,and_true,jE]
  | map ks vs m=>simp only [Qj,jG,← ih,qH,and_true,jE]
  | iter a b c d=>simp only [Qj,jG,← ih,qH,and_true,jE]
  | dead=>simp only [Qj,jG,← ih,true_and]
theorem Z0 {H:Heap} {B:Blk} {i:Nat} (h:Qj H H=true) (hB:Qj [B] [B]=true):Qj (H.set i B) (H.set i B)=true:=by
 rw [sameH_iff] at h ⊢
 intro C hC
 rcases jX hC with hC | rfl
 ·exact h C hC
 ·exact hB
theorem Jo {H:Heap} {B:Blk} (h:Qj H H=true) (hB:Qj [B] [B]=true):Qj (H++[B]) (H++[B])=true:=by
 rw [sameH_iff] at h ⊢
 intro C hC
 rcases List.mem_append.1 hC with hC | hC
 ·exact h C hC
 ·rw [qR] at hC;rw [hC];exact hB
theorem V2 {H:Heap} {k:Nat} (h:Qj H H=true):Qj (H.take k) (H.take k)=true:=by
 rw [sameH_iff] at h ⊢
 exact fun C hC=>h C (List.mem_of_mem_take hC)
theorem Zh:∀{l:List HV},(∀v∈l,same v v=true)→sameL l l=true
 | [],_=>rfl
 | v::l,h=>by simp only [sameL,h v (by simp),Zh (l:=l) (fun w hw=>h w (by simp [hw])),Bool.and_self]
theorem WC {k m:Nat} {l:List HV} {w:Bool} (h:∀v∈l,same v v=true):Qj [.arr k l w m] [.arr k l w m]=true:=by
 simp [Qj,Zh h]
theorem ZN (l:List Int):Qj [bI l] [bI l]=true:=WC fun v hv=>by
 obtain ⟨k,_,rfl⟩:=List.mem_map.1 hv
 simp [hvI,same]
theorem D6 (l:List Int):sameL (l.map hvI) (l.map hvI)=true:=Zh fun v hv=>by
 obtain ⟨k,_,rfl⟩:=List.mem_map.1 hv
 simp [hvI,same]
theorem Xx (l:List Int):same (.imm .arg 1 (l.map hvI)) (.imm .arg 1 (l.map hvI))=true:=by simp [same,D6]
abbrev Qz (v w:Int):Blk:=.arr 2 [Q5 (v,w)] true 0
theorem Za (v w:Int):Qj [Qz v w] [Qz v w]=true:=WC fun x hx=>by
 rw [qR] at hx;subst hx
 simp [Q5,same,sameL]
structure Mem (T:Nat→Nat→Int) (H:Heap):Prop where
 memo:∃ks:List (Int×Int),H[0]?=some (.map (ks.map Q5) (ks.map (JO T)) 0)
 rf:Qj H H=true
 mx:mxs H≤0
structure Fr (H H':Heap):Prop where
 len:H'.length=H.length
 same:∀k,k≠0→H'[k]?=H[k]?
theorem Fr.refl (H:Heap):Fr H H:=⟨rfl,fun _ _=>rfl⟩
theorem Fr.trans {H H' H'':Heap} (h:Fr H H') (h':Fr H' H''):Fr H H'':=⟨h'.len.trans h.len,fun k hk=>(h'.same k hk).trans (h.same k hk)⟩
section
variable {T:Nat→Nat→Int} {H:Heap}
theorem Mem.pos (h:Mem T H):0<H.length:=by
 obtain ⟨ks,hk⟩:=h.memo
 exact Qd hk
theorem Mem.lk (h:Mem T H) (k:Int×Int):∃b:Bool,lkG Tp 82 H 0 (Q5 k) true=some (.tuple [.int .i64 (if b then T k.1.toNat k.2.toNat else 0),.bool b],H)∧(b=true→lkG Tp 82 H 0 (Q5 k) false=some (JO T k,H)):=by
 obtain ⟨ks,hm⟩:=h.memo
 obtain ⟨r,h1,h2⟩:=W9 k ks 0
 have hk:=Ce k
 have hz:=z3q
 rcases h2 with ⟨h3,j,rfl,h5⟩ | ⟨h3,rfl⟩
 ·have hj:(ks.map (JO T))[0+j]?=some (JO T k):=by rw [Nat.zero_add,qK,h5];rfl
  refine ⟨true,?_,fun _=>?_⟩
  ·simp only [lkG,hm,JR,u82,hk,if_true,h1,hj,qP]
  ·simp only [lkG,hm,JR,u82,hk,if_true,h1,hj,qP,qS,if_false]
 ·refine ⟨false,?_,fun h=>absurd h (by simp)⟩
  simp only [lkG,hm,JR,u82,hk,if_true,h1,hz]
  rfl
theorem Qcw (T:Nat→Nat→Int) (ks:List (Int×Int)):Qj [.map (ks.map Q5) (ks.map (JO T)) 0] [.map (ks.map Q5) (ks.map (JO T)) 0]=true:=by
 have e1:sameL (ks.map Q5) (ks.map Q5)=true:=Zh fun v hv=>by
  obtain ⟨k,_,rfl⟩:=List.mem_map.1 hv
  simp [Q5,same,sameL]
 have e2:sameL (ks.map (JO T)) (ks.map (JO T))=true:=Zh fun v hv=>by
  obtain ⟨k,_,rfl⟩:=List.mem_map.1 hv
  simp [same]
 simp only [Qj,e1,e2,beq_self_eq_true,Bool.and_self]
theorem Mem.set (h:Mem T H) {k:Nat} {B:Blk} (h1:k≠0) (hB:Qj [B] [B]=true) (hm:B.mx=0):Mem T (H.set k B):=by
 obtain ⟨ks,hk⟩:=h.memo
 refine ⟨⟨ks,by rw [jH (by omega)];exact hk⟩,Z0 h.rf hB,?_⟩
 rw [mxs_le]
 intro C hC
 rcases jX hC with hC | rfl
 ·exact mxs_le.1 h.mx C hC
 ·omega
theorem Mem.app (h:Mem T H) {B:Blk} (hB:Qj [B] [B]=true) (hm:B.mx=0):Mem T (H++[B]):=by
 obtain ⟨ks,hk⟩:=h.memo
 have h2:=h.pos
 refine ⟨⟨ks,by rw [qL (by omega)];exact hk⟩,Jo h.rf hB,?_⟩
 rw [mxs_le]
 intro C hC
 rcases List.mem_append.1 hC with hC | hC
 ·exact mxs_le.1 h.mx C hC
 ·rw [List.mem_singleton.1 hC];omega
theorem Mem.take (h:Mem T H) {m:Nat} (h1:0<m):Mem T (H.take m):=by
 obtain ⟨ks,hk⟩:=h.memo
 refine ⟨⟨ks,by rw [qM,if_pos (by omega)];exact hk⟩,V2 h.rf,?_⟩
 rw [mxs_le]
 intro C hC
 exact mxs_le.1 h.mx C (List.mem_of_mem_take hC)
theorem Mem.gc (h:Mem T H) {b r:Nat}:gc b r H=H.take (max b r):=by
 have:=h.mx
 unfold HL.gc
 congr 1
 omega
theorem Mem.upd (h:Mem T H) (k:Int×Int):∃H',VA Tp false 82 (.map 0) (Q5 k) (JO T k) H=some H'∧Mem T H'∧Fr H H'∧lkG Tp 82 H' 0 (Q5 k) false=some (JO T k,H'):=by
 obtain ⟨ks,hm⟩:=h.memo
 obtain ⟨r,h1,h2⟩:=W9 k ks 0
 have hk:=Ce k
 have h1l:=Qd hm
 have key:∀ks':List (Int×Int),k∈ks'→VA Tp false 82 (.map 0) (Q5 k) (JO T k) H=some (H.set 0 (.map (ks'.map Q5) (ks'.map (JO T)) 0))→∃H',VA Tp false 82 (.map 0) (Q5 k) (JO T k) H=some H'∧Mem T H'∧Fr H H'∧lkG Tp 82 H' 0 (Q5 k) false=some (JO T k,H'):=by
  intro ks' hin hu
  have hM:Mem T (H.set 0 (.map (ks'.map Q5) (ks'.map (JO T)) 0)):=by
   refine ⟨⟨ks',jI h1l⟩,Z0 h.rf (Qcw T ks'),?_⟩
   rw [mxs_le]
   intro C hC
   rcases jX hC with hC | rfl
   ·exact mxs_le.1 h.mx C hC
   ·exact qT _
  have hs:∀j,j≠0→(H.set 0 (.map (ks'.map Q5) (ks'.map (JO T)) 0))[j]?=H[j]?:=fun j hj=>jH (by omega)
  refine ⟨_,hu,hM,⟨by simp,hs⟩,?_⟩
  obtain ⟨r,h1,h2⟩:=W9 k ks' 0
  rcases h2 with ⟨h3,j,rfl,h5⟩ | ⟨h3,rfl⟩
  ·have hj:(ks'.map (JO T))[0+j]?=some (JO T k):=by rw [Nat.zero_add,qK,h5];rfl
   simp only [lkG,jI h1l,JR,u82,hk,if_true,h1,hj,qP,qS,if_false]
  ·exact absurd hin h3
 rcases h2 with ⟨h3,j,rfl,h5⟩ | ⟨h3,rfl⟩
 ·refine key ks h3 ?_
  simp only [VA,u82,hk,if_true,hm,h1,qS,if_false]
  have hs:(ks.map (JO T)).set (0+j) (JO T k)=ks.map (JO T):=by
   apply List.ext_getElem?
   intro i
   rw [jA,qB]
   have hjl:=Qd h5
   by_cases e:0+j=i
   ·subst e
    rw [if_pos rfl,if_pos (by omega),Nat.zero_add,qK,h5];rfl
   ·rw [if_neg e]
  simp only [hs,bnd,Nat.max_zero]
 ·refine key (ks++[k]) (by simp) ?_
  have ha:(Wn (cellsOf (Q5 k)) (cellsOf (Q5 k))).isSome=true:=by simp [Q5,cellsOf,Wn,Jf]
  simp only [VA,u82,hk,if_true,hm,h1,ha,qS,if_false,bnd,Nat.max_zero,List.map_append,qG,List.map_nil]
theorem Kt {v w:Int} {b:Nat} (h:H[b]?=some (Qz v w)):Qh Tp H 77 (.ptr b 0 0 1)=some (Q5 (v,w)):=Xq h rfl rfl a77 s77
theorem Zb {v w:Int} {b:Nat} (h:H[b]?=some (Qz v w)):Qh Tp H 3 (.ptr b 0 0 1)=some (.int .i64 v):=J3 h rfl rfl a3 i3 rfl
theorem QU {v w:Int} {b:Nat} (h:H[b]?=some (Qz v w)):Qh Tp H 3 (.ptr b 0 1 1)=some (.int .i64 w):=J3 h rfl rfl a3 i3 rfl
theorem Qbf {v w x y:Int} {b:Nat} (h:H[b]?=some (Qz v w)):QM Tp H 77 (.ptr b 0 0 1) (Q5 (x,y))=some (H.set b (Qz x y)):=by
 have:=Vm (P:=Tp) (t:=77) (b:=b) (i:=0) (tot:=1) (new:=[.int .i64 x,.int .i64 y]) h rfl rfl s77 rfl (by simp) rfl rfl
 exact this
theorem Dk (v w:Int) (H:Heap):Wm (Q5 (v,w)) H=(.ptr H.length 0 0 1,H++[Qz v w]):=by
 simp only [Q5,Wm,cellsOf,bnd,bndL,qO,jY]
 simp
 rfl
end
def QhW:Bool:=(qJ 2048).all fun L=>(qJ 11).all fun v=>decide (qA.wrap (BitVec.ofInt IntKind.i64.bits (L:Int) &&& ~~~(BitVec.ofInt IntKind.i64.bits ((2 ^ v:Nat):Int))).toNat=((wo L v:Nat):Int))&&decide (qA.wrap (BitVec.ofInt IntKind.i64.bits ((L/2 ^ v:Nat):Int) &&& (BitVec.ofInt IntKind.i64.bits 1)).toNat=if L.testBit v then 1 else 0)
theorem Yw:QhW=true:=by kernel_rfl
theorem Xy {L v:Nat} (hL:L<2048) (hv:v<11):ZF Tp .andNot 3 (.int .i64 (L:Int)) (.int .i64 ((2 ^ v:Nat):Int))=some (.int .i64 ((wo L v:Nat):Int)):=by
 have h1:=List.all_eq_true.1 (List.all_eq_true.1 Yw L (List.mem_range.2 hL)) v (List.mem_range.2 hv)
 simp only [qH,decide_eq_true_eq] at h1
 rw [← h1.1];rfl
theorem Sk {L v:Nat} (hL:L<2048) (hv:v<11):ZF Tp .and 3 (.int .i64 ((L/2 ^ v:Nat):Int)) (.int .i64 1)=some (.int .i64 (if L.testBit v then 1 else 0)):=by
 have h1:=List.all_eq_true.1 (List.all_eq_true.1 Yw L (List.mem_range.2 hL)) v (List.mem_range.2 hv)
 simp only [qH,decide_eq_true_eq] at h1
 rw [← h1.2];rfl
theorem V3 {v:Nat} (hv:v<60):ZF Tp .shl 3 (.int .i64 1) (.int .i64 (v:Int))=some (.int .i64 ((2 ^ v:Nat):Int)):=by
 have e:ZF Tp .shl 3 (.int .i64 1) (.int .i64 (v:Int))=if (v:Int)<0 then none else some (.int .i64 (qA.wrap (1*2 ^ min (v:Int).toNat 64))):=rfl
 rw [e,if_neg (by omega),qE,show min v 64=v by omega,Int.one_mul]
 have:(2:Nat) ^ v<2 ^ 60:=Nat.pow_lt_pow_right (by omega) hv
 have h2:2 ^ v<1152921504606846976:=this
 rw [show ((2:Int) ^ v)=((2 ^ v:Nat):Int) by push_cast;rfl]
 generalize 2 ^ v=x at h2
 rw [Qn (by omega) (by omega)]
theorem Sl {L v:Nat} (hv:v<60):ZF Tp .shr 3 (.int .i64 (L:Int)) (.int .i64 (v:Int))=some (.int .i64 ((L/2 ^ v:Nat):Int)):=by
 have e:ZF Tp .shr 3 (.int .i64 (L:Int)) (.int .i64 (v:Int))=if (v:Int)<0 then none else some (.int .i64 ((L:Int).fdiv (2 ^ min (v:Int).toNat 64))):=rfl
 rw [e,if_neg (by omega),qE,show min v 64=v by omega]
 rw [show ((2:Int) ^ v)=((2 ^ v:Nat):Int) by push_cast;rfl,zD _ (jZ _)]
 rfl
section
variable {d:List (List Int)}
def TI (d:List (List Int)) (T:List Int) (U a:Nat):Prop:=T.length=2 ^ d.length*d.length∧(∀V,U<V→V<2 ^ d.length→∀b,b<d.length→T.getD (V*d.length+b) 0=rsT d b (2 ^ d.length-1-V))∧∀b,b<a→T.getD (U*d.length+b) 0=rsT d b (2 ^ d.length-1-U)
theorem QnC {n V b:Nat} (hV:V<2 ^ n) (hb:b<n):V*n+b<2 ^ n*n:=by
 have:=Nat.mul_le_mul_right n (show V+1≤2 ^ n by omega)
 rw [Nat.succ_mul] at this
 omega
theorem QhX {n V b U a:Nat} (hb:b<n) (ha:a<n) (h:V*n+b=U*n+a):V=U∧b=a:=by
 have h1:(V*n+b)/n=V:=by rw [Nat.mul_comm,Nat.mul_add_div (by omega),Nat.div_eq_of_lt hb];omega
 have h2:(U*n+a)/n=U:=by rw [Nat.mul_comm,Nat.mul_add_div (by omega),Nat.div_eq_of_lt ha];omega
 have:V=U:=by rw [← h1,← h2,h]
 subst this
 exact ⟨rfl,by omega⟩
end
end Go.Proofs.Ytlendaofkmhgmaa
end
section
open Go Go.HL
namespace Go.Proofs.Ytlendaofkmhgmaa
set_option maxRecDepth 100000
set_option linter.unusedSectionVars false
open Go.Proofs.Try renaming prog → Tp
open Go.HL.HV renaming undef → Ud
noncomputable def B55:Code:=Try.f55.body.getD .skip
abbrev S9 (v0 v1 v2 v5 v6 v8 v9 v10 v11 v31 v32:HV):Env:=[(0,v0),(1,v1),(2,v2),(5,v5),(6,v6),(8,v8),(9,v9),(10,v10),(11,v11),(31,v31),(32,v32)]
abbrev e55 (rw:List HV) (mb:Nat) (v:Nat) (w:Nat) (kb:Nat) (u5 u6 u7 u8 u9 u10:HV):Env:=S9 (.a rw) (.map mb) (.agg [.n v,.n w]) (.q kb) (.i 0) u5 u6 u7 u8 u9 u10
section
variable (N:Nat) (rw:List HV) (mb v w kb:Nat) (H:Heap)
include N rw mb v w kb H
theorem QhY (H0:Heap) (g0:some (Wm (.agg [.n v,.n w]) H)=some (.q kb,H0)): RT polI 55 (sn 2 B55) [(0,.a rw),(1,.map mb),(2,.agg [.n v,.n w])] H .normal (e55 rw mb v w kb Ud Ud Ud Ud Ud Ud) H0 :=
 hx N 60 [jR 0 0 g0]
end
section
variable (N:Nat) (rw:List HV) (mb v w kb:Nat) (H:Heap)
include N rw mb v w kb H
theorem QhZ (l0:List HV) (x0:Int) (g0:LD H 3 (.ptr kb 0 1 1) (.n w)) (g1:(w:Int)=0) (g2:LD H 3 (.q kb) (.n v)) (g3:IX 68 (.a rw) (.n v) (.vptr (.a l0))) (g4:IX 23 (.a l0) (.i 0) (.vptr (.i x0))): RT polI 55 (sn 6 B55) (e55 rw mb v w kb Ud Ud Ud Ud Ud Ud) H .ret (S9 (.a rw) (.map mb) (.agg [.n v,.n w]) (.q kb) (.i x0) Ud Ud Ud Ud Ud Ud) H :=
 hx N 60 [jO 1 1 H g0,jT 1 2 H g1,jO 2 2 H g2,jO 2 3 H g3,jO 2 5 H g4]
theorem Qh0 (g0:LD H 3 (.ptr kb 0 1 1) (.n w)) (g1:¬((w:Int)=0)): RT polI 55 (sn 6 B55) (e55 rw mb v w kb Ud Ud Ud Ud Ud Ud) H .normal (e55 rw mb v w kb Ud Ud Ud Ud Ud Ud) H :=
 hx N 60 [jO 1 1 H g0,jF 1 2 H g1]
theorem Qh1 (t0:Int) (g0:LD H 77 (.q kb) (.agg [.n v,.n w])) (g1:lkG Tp 82 H mb (.agg [.n v,.n w]) true=some (.tuple [.i t0,.bool true],H)): RT polI 55 (sn 28 B55) (e55 rw mb v w kb Ud Ud Ud Ud Ud Ud) H .normal (e55 rw mb v w kb (.bool true) Ud Ud Ud Ud Ud) H :=
 hx N 60 [jO 3 1 H g0,jR 3 2 g1]
theorem Qh2 (g0:LD H 77 (.q kb) (.agg [.n v,.n w])) (g1:lkG Tp 82 H mb (.agg [.n v,.n w]) true=some (.tuple [.i 0,.bool false],H)): RT polI 55 (sn 28 B55) (e55 rw mb v w kb Ud Ud Ud Ud Ud Ud) H .normal (e55 rw mb v w kb (.bool false) Ud Ud Ud Ud Ud) H :=
 hx N 60 [jO 3 1 H g0,jR 3 2 g1]
theorem Qeu:RunsTo Tp polI 55 (sn 58 B55) (e55 rw mb v w kb (.bool true) Ud Ud Ud Ud Ud) H .normal [0,1,2,5,6,8,9,10,11,31,32,29] [(0,.a rw),(1,.map mb),(2,.agg [.n v,.n w]),(5,.q kb),(6,.i 0),(8,.bool true),(9,Ud),(10,Ud),(11,Ud),(31,Ud),(32,Ud),(29,.bool false)] H :=
 hx N 60 []
theorem Qev:RunsTo Tp polI 55 (sn 58 B55) (e55 rw mb v w kb (.bool false) Ud Ud Ud Ud Ud) H .normal [0,1,2,5,6,8,9,10,11,31,32,29] [(0,.a rw),(1,.map mb),(2,.agg [.n v,.n w]),(5,.q kb),(6,.i 0),(8,.bool false),(9,Ud),(10,Ud),(11,Ud),(31,Ud),(32,Ud),(29,.bool true)] H :=
 hx N 60 []
theorem Qh3:RT polI 55 (sn 236 B55) (e55 rw mb v w kb (.bool false) Ud Ud Ud Ud Ud) H .normal (e55 rw mb v w kb (.bool false) (.i (-1)) Ud Ud Ud Ud) H :=
 hx N 60 []
theorem Qh4 (mo:Int): RT polI 55 (sn 948 B55) (e55 rw mb v w kb (.bool false) (.i mo) Ud Ud Ud Ud) H .normal (e55 rw mb v w kb (.bool false) (.i mo) Ud Ud (.i (rw.length:Int)) (.i 0)) H :=
 hx N 60 []
theorem Qh5 (mo:Int) (n i:Nat) (h0:Int) (h1:Int) (l0:List HV) (x0:Int) (h2:Int) (h3:Int) (s:Int) (H0:Heap) (g0:(i:Int)<(n:Int)) (g1:LD H 3 (.ptr kb 0 1 1) (.n w)) (g2:BV .shr 3 (.n w) (.n i) (.i h0)) (g3:BV .and 3 (.i h0) (.i 1) (.i h1)) (g4:h1=1) (g5:LD H 3 (.q kb) (.n v)) (g6:IX 68 (.a rw) (.n v) (.vptr (.a l0))) (g7:IX 23 (.a l0) (.n i) (.vptr (.i x0))) (g8:LD H 3 (.ptr kb 0 1 1) (.n w)) (g9:BV .shl 3 (.i 1) (.n i) (.i h2)) (g10:BV .andNot 3 (.n w) (.i h2) (.i h3)) (g11:∀kf,N≤kf→Qa Tp polI (kf+1) 55 [.a rw,.map mb,.agg [.n i,.i h3]] H=some (.i s,H0)) (gS10:(WI ((Qh Tp H 3 (.q kb)).map (fun v=>(v,(H:Heap)))) ((Qh Tp H0 3 (.q kb)).map (fun v=>(v,(H0:Heap)))) H H0&&((same (.a l0) (.a l0)&&Qj (H:Heap) H&&Qj (H0:Heap) H0)&&((same (.i x0) (.i x0)&&Qj (H:Heap) H&&Qj (H0:Heap) H0)&&true)))=true) (g13:mo<0): RT polI 55 (sn 3796 B55) (e55 rw mb v w kb Ud (.i mo) Ud Ud (.n n) (.n i)) H .normal (e55 rw mb v w kb Ud (.i (qA.wrap (x0+s))) (.n i) (.i (qA.wrap (x0+s))) (.n n) (.i (qA.wrap ((i:Int)+1)))) H0 :=
 hx N 60 [jT 7 0 H g0,jO 9 1 H g1,jO 9 3 H g2,jO 9 4 H g3,jT 9 5 H g4,jK gS10,jO 10 2 H g5,jO 10 3 H g6,jO 10 6 H g7,jO 10 12 H g8,jO 10 14 H g9,jO 10 15 H g10,jC 10 17 g11,jT 11 1 H0 g13]
theorem Qh6 (mo:Int) (n i:Nat) (h0:Int) (h1:Int) (l0:List HV) (x0:Int) (h2:Int) (h3:Int) (s:Int) (H0:Heap) (g0:(i:Int)<(n:Int)) (g1:LD H 3 (.ptr kb 0 1 1) (.n w)) (g2:BV .shr 3 (.n w) (.n i) (.i h0)) (g3:BV .and 3 (.i h0) (.i 1) (.i h1)) (g4:h1=1) (g5:LD H 3 (.q kb) (.n v)) (g6:IX 68 (.a rw) (.n v) (.vptr (.a l0))) (g7:IX 23 (.a l0) (.n i) (.vptr (.i x0))) (g8:LD H 3 (.ptr kb 0 1 1) (.n w)) (g9:BV .shl 3 (.i 1) (.n i) (.i h2)) (g10:BV .andNot 3 (.n w) (.i h2) (.i h3)) (g11:∀kf,N≤kf→Qa Tp polI (kf+1) 55 [.a rw,.map mb,.agg [.n i,.i h3]] H=some (.i s,H0)) (gS10:(WI ((Qh Tp H 3 (.q kb)).map (fun v=>(v,(H:Heap)))) ((Qh Tp H0 3 (.q kb)).map (fun v=>(v,(H0:Heap)))) H H0&&((same (.a l0) (.a l0)&&Qj (H:Heap) H&&Qj (H0:Heap) H0)&&((same (.i x0) (.i x0)&&Qj (H:Heap) H&&Qj (H0:Heap) H0)&&true)))=true) (g13:¬(mo<0)) (g14:qA.wrap (x0+s)<mo): RT polI 55 (sn 3796 B55) (e55 rw mb v w kb Ud (.i mo) Ud Ud (.n n) (.n i)) H .normal (e55 rw mb v w kb Ud (.i (qA.wrap (x0+s))) (.n i) (.i (qA.wrap (x0+s))) (.n n) (.i (qA.wrap ((i:Int)+1)))) H0 :=
 hx N 60 [jT 7 0 H g0,jO 9 1 H g1,jO 9 3 H g2,jO 9 4 H g3,jT 9 5 H g4,jK gS10,jO 10 2 H g5,jO 10 3 H g6,jO 10 6 H g7,jO 10 12 H g8,jO 10 14 H g9,jO 10 15 H g10,jC 10 17 g11,jF 11 1 H0 g13,jT 11 5 H0 g14]
theorem Qh7 (mo:Int) (n i:Nat) (h0:Int) (h1:Int) (l0:List HV) (x0:Int) (h2:Int) (h3:Int) (s:Int) (H0:Heap) (g0:(i:Int)<(n:Int)) (g1:LD H 3 (.ptr kb 0 1 1) (.n w)) (g2:BV .shr 3 (.n w) (.n i) (.i h0)) (g3:BV .and 3 (.i h0) (.i 1) (.i h1)) (g4:h1=1) (g5:LD H 3 (.q kb) (.n v)) (g6:IX 68 (.a rw) (.n v) (.vptr (.a l0))) (g7:IX 23 (.a l0) (.n i) (.vptr (.i x0))) (g8:LD H 3 (.ptr kb 0 1 1) (.n w)) (g9:BV .shl 3 (.i 1) (.n i) (.i h2)) (g10:BV .andNot 3 (.n w) (.i h2) (.i h3)) (g11:∀kf,N≤kf→Qa Tp polI (kf+1) 55 [.a rw,.map mb,.agg [.n i,.i h3]] H=some (.i s,H0)) (gS10:(WI ((Qh Tp H 3 (.q kb)).map (fun v=>(v,(H:Heap)))) ((Qh Tp H0 3 (.q kb)).map (fun v=>(v,(H0:Heap)))) H H0&&((same (.a l0) (.a l0)&&Qj (H:Heap) H&&Qj (H0:Heap) H0)&&((same (.i x0) (.i x0)&&Qj (H:Heap) H&&Qj (H0:Heap) H0)&&true)))=true) (g13:¬(mo<0)) (g14:¬(qA.wrap (x0+s)<mo)): RT polI 55 (sn 3796 B55) (e55 rw mb v w kb Ud (.i mo) Ud Ud (.n n) (.n i)) H .normal (e55 rw mb v w kb Ud (.i mo) (.n i) (.i (qA.wrap (x0+s))) (.n n) (.i (qA.wrap ((i:Int)+1)))) H0 :=
 hx N 60 [jT 7 0 H g0,jO 9 1 H g1,jO 9 3 H g2,jO 9 4 H g3,jT 9 5 H g4,jK gS10,jO 10 2 H g5,jO 10 3 H g6,jO 10 6 H g7,jO 10 12 H g8,jO 10 14 H g9,jO 10 15 H g10,jC 10 17 g11,jF 11 1 H0 g13,jF 11 5 H0 g14]
theorem Qh8 (mo:Int) (n i:Nat) (h0:Int) (h1:Int) (g0:(i:Int)<(n:Int)) (g1:LD H 3 (.ptr kb 0 1 1) (.n w)) (g2:BV .shr 3 (.n w) (.n i) (.i h0)) (g3:BV .and 3 (.i h0) (.i 1) (.i h1)) (g4:¬(h1=1)): RT polI 55 (sn 3796 B55) (e55 rw mb v w kb Ud (.i mo) Ud Ud (.n n) (.n i)) H .normal (e55 rw mb v w kb Ud (.i mo) (.n i) Ud (.n n) (.i (qA.wrap ((i:Int)+1)))) H :=
 hx N 60 [jT 7 0 H g0,jO 9 1 H g1,jO 9 3 H g2,jO 9 4 H g3,jF 9 5 H g4]
theorem Qh9 (mo:Int) (n i:Nat) (g0:¬((i:Int)<(n:Int))): RT polI 55 (sn 3796 B55) (e55 rw mb v w kb Ud (.i mo) Ud Ud (.n n) (.n i)) H (.exit 0) (e55 rw mb v w kb Ud (.i mo) Ud Ud (.n n) (.n i)) H :=
 hx N 60 [jF 7 0 H g0]
theorem Qia (mo:Int) (n i:Nat) (y10 y11:HV) (H0:Heap) (g0:LD H 77 (.q kb) (.agg [.n v,.n w])) (g1:VA Tp false 82 (.map mb) (.agg [.n v,.n w]) (.i mo) H=some H0): RT polI 55 (sn 475 B55) (e55 rw mb v w kb Ud (.i mo) y10 y11 (.n n) (.n i)) H .normal (e55 rw mb v w kb Ud (.i mo) y10 y11 (.n n) (.n i)) H0 :=
 hx N 60 [jO 14 1 H g0,jS 14 3 g1]
theorem Qcx (y8 y9 y10 y11 y31 y32:HV) (t0:Int) (g0:LD H 77 (.q kb) (.agg [.n v,.n w])) (g1:lkG Tp 82 H mb (.agg [.n v,.n w]) false=some (.i t0,H)): RT polI 55 (sn 15 B55) (e55 rw mb v w kb y8 y9 y10 y11 y31 y32) H .ret (S9 (.a rw) (.map mb) (.agg [.n v,.n w]) (.q kb) (.i t0) y8 y9 y10 y11 y31 y32) H :=
 hx N 60 [jO 15 1 H g0,jR 15 2 g1]
end
end Go.Proofs.Ytlendaofkmhgmaa
end
section
open Go Go.HL
namespace Go.Proofs.Ytlendaofkmhgmaa
set_option linter.unusedSectionVars false
open Go.Proofs.Try renaming prog → Tp
open Go.HL.HV renaming undef → Ud
theorem QnD:Try.f55.results.toList=[.tmp 6]:=by kernel_rfl
abbrev ClI (g:FuncId) (args:List HV) (H:Heap) (r:HV) (H':Heap):Prop:=CallsTo (P:=Tp) (pol:=polI) g args H r H'
def Qew (d:List (List Int)) (v w:Nat):Prop:=∀H,Mem (rsT d) H→∃H',ClI 55 [.imm .arg 1 (d.map Qb),.map 0,.agg [.int .i64 (v:Int),.int .i64 (w:Int)]] H (.int .i64 (rsT d v w)) H'∧Mem (rsT d) H'∧Fr H H'
section
variable {d:List (List Int)}
theorem g68 {v:Nat} (hv:v<d.length):WW Tp 68 (.imm .arg 1 (d.map Qb)) (.int .i64 (v:Int))=some (.vptr (.imm .arg 1 ((d.getD v []).map hvI))):=by
 exact gm (R:=d) (y:=(v:Int)) (jZ v) hv
theorem g22 {v:Nat} (hv:v<d.length):WW Tp 22 (.imm .arg 1 (d.map Qb)) (.int .i64 (v:Int))=some (.vptr (.imm .arg 1 ((d.getD v []).map hvI))):=gr hv
theorem g23 (h:okD d) {v u:Nat} (hv:v<d.length) (hu:u<d.length):WW Tp 23 (.imm .arg 1 ((d.getD v []).map hvI)) (.int .i64 (u:Int))=some (.vptr (.int .i64 (at2 d v u))):=gx (by rw [h.2.1 v hv];exact hu)
abbrev rsE (d:List (List Int)) (v w kb:Nat) (y8 y9 y10 y11 y31 y32:HV):Env:=S9 (.imm .arg 1 (d.map Qb)) (.map 0) (.agg [.int .i64 (v:Int),.int .i64 (w:Int)]) (.ptr kb 0 0 1) (.int .i64 0) y8 y9 y10 y11 y31 y32
theorem Qex (hd:okD d) {v w kb:Nat} (hv:v<d.length) (hw:w<2 ^ d.length) (hR:∀u,w.testBit u=true→Qew d u (wo w u)) (hkb:kb≠0) :
  ∀k i mo H,i+k=d.length→Mem (rsT d) H→H[kb]?=some (Qz v w) →
  ∃H',RunsTo Tp polI 55 (sn 1898 B55) (rsE d v w kb Ud (.int .i64 mo) Ud Ud (.int .i64 (d.length:Int)) (.int .i64 (i:Int))) H
   (.exit 0) (polI.keys 55) (rsE d v w kb Ud (.int .i64 (lst (fun u=>at2 d v u+rsT d u (wo w u)) w k i mo)) Ud Ud (.int .i64 (d.length:Int)) (.int .i64 (d.length:Int))) H'∧Mem (rsT d) H'∧Fr H H':=by
 have hp:=ZZ hd.1.2
 have hn:=hd.1.2
 intro k
 induction k with
 | zero =>
  intro i mo H hi hM hK
  have hi:i=d.length:=by omega
  subst hi
  exact ⟨H,lpo (Qh9 0 (d.map Qb) 0 v w kb H mo d.length d.length (by omega)),hM,Fr.refl _⟩
 | succ k ih =>
  intro i mo H hi hM hK
  rw [lst]
  by_cases c:w.testBit i=true
  ·obtain ⟨H1,hcl,hM1,hF⟩:=hR i c H hM
   obtain ⟨N,hN⟩:=CallsTo.from hcl
   have b1:=hd.at hv (j:=i) (by omega)
   have b2:=ZC c
   have b3:=D2 hd (s:=i) (L:=wo w i) (by omega) (by omega)
   have hwr:qA.wrap (at2 d v i+rsT d i (wo w i))=at2 d v i+rsT d i (wo w i):=Qn (by omega) (by omega)
   have l1:=Zb hK
   have l2:Qh Tp H1 3 (.ptr kb 0 0 1)=some (.int .i64 (v:Int)):=Zb (by rw [hF.same _ hkb];exact hK)
   have gS:(WI ((Qh Tp H 3 (.ptr kb 0 0 1)).map (fun v=>(v,(H:Heap)))) ((Qh Tp H1 3 (.ptr kb 0 0 1)).map (fun v=>(v,(H1:Heap)))) H H1&&((same (.imm .arg 1 ((d.getD v []).map hvI)) (.imm .arg 1 ((d.getD v []).map hvI))&&Qj (H:Heap) H&&Qj (H1:Heap) H1)&&((same (.int .i64 (at2 d v i)) (.int .i64 (at2 d v i))&&Qj (H:Heap) H&&Qj (H1:Heap) H1)&&true)))=true:=by
    rw [l1,l2]
    simp only [qP,WI,hM.rf,hM1.rf,Xx]
    simp [same]
   obtain ⟨H',r,hM',hF'⟩:=ih (i+1) (if w.testBit i then (if mo<0∨(at2 d v i+rsT d i (wo w i))<mo then at2 d v i+rsT d i (wo w i) else mo) else mo) H1 (by omega) hM1 (by rw [hF.same _ hkb];exact hK)
   have done:RT polI 55 (sn 3796 B55) (rsE d v w kb Ud (.int .i64 mo) Ud Ud (.int .i64 (d.length:Int)) (.int .i64 (i:Int))) H .normal
     (rsE d v w kb Ud (.int .i64 (if w.testBit i then (if mo<0∨(at2 d v i+rsT d i (wo w i))<mo then at2 d v i+rsT d i (wo w i) else mo) else mo)) (.int .i64 (i:Int)) (.int .i64 (at2 d v i+rsT d i (wo w i))) (.int .i64 (d.length:Int)) (.int .i64 ((i+1:Nat):Int))) H1:=by
    rw [if_pos c]
    have bs:=Sl (L:=w) (v:=i) (by omega)
    have ba:=Sk (L:=w) (v:=i) (by omega) (by omega)
    rw [if_pos c] at ba
    have bl:=V3 (v:=i) (by omega)
    have bn:=Xy (L:=w) (v:=i) (by omega) (by omega)
    by_cases c1:mo<0
    ·have s:=Qh5 N (d.map Qb) 0 v w kb H mo d.length i _ _ _ _ _ _ _ H1 (by omega) (QU hK) bs ba rfl l1 (g68 hv) (g23 hd hv (by omega)) (QU hK) bl bn hN gS c1
     rw [hwr,Qc (by omega)] at s
     rw [if_pos (.inl c1)];exact s
    ·by_cases c2:(at2 d v i+rsT d i (wo w i))<mo
     ·have s:=Qh6 N (d.map Qb) 0 v w kb H mo d.length i _ _ _ _ _ _ _ H1 (by omega) (QU hK) bs ba rfl l1 (g68 hv) (g23 hd hv (by omega)) (QU hK) bl bn hN gS c1 (by rw [hwr];exact c2)
      rw [hwr,Qc (by omega)] at s
      rw [if_pos (.inr c2)];exact s
     ·have s:=Qh7 N (d.map Qb) 0 v w kb H mo d.length i _ _ _ _ _ _ _ H1 (by omega) (QU hK) bs ba rfl l1 (g68 hv) (g23 hd hv (by omega)) (QU hK) bl bn hN gS c1 (by rw [hwr];exact c2)
      rw [hwr,Qc (by omega)] at s
      rw [if_neg (by omega)];exact s
   exact ⟨H',lop done (WN _ hF.len) r,hM',hF.trans hF'⟩
  ·have bs:=Sl (L:=w) (v:=i) (by omega)
   have ba:=Sk (L:=w) (v:=i) (by omega) (by omega)
   rw [if_neg c] at ba
   have s:=Qh8 0 (d.map Qb) 0 v w kb H mo d.length i _ _ (by omega) (QU hK) bs ba (by omega)
   rw [Qc (by omega)] at s
   rw [if_neg c]
   obtain ⟨H',r,hM',hF'⟩:=ih (i+1) mo H (by omega) hM hK
   exact ⟨H',lop s (WN _ rfl) r,hM',hF'⟩
theorem Qaa (hd:okD d) {v w:Nat} (hv:v<d.length) (hw:w<2 ^ d.length) (hR:∀u,w.testBit u=true→Qew d u (wo w u)):Qew d v w:=by
 intro H hM
 have hp:=ZZ hd.1.2
 have hn:=hd.1
 have h0:=hM.pos
 have a:=QhY 0 (d.map Qb) 0 v w H.length H _ (by rw [show (HV.agg [.int .i64 (v:Int),.int .i64 (w:Int)])=Q5 ((v:Int),(w:Int)) from rfl,Dk])
 have hMa:Mem (rsT d) (H++[Qz v w]):=hM.app (Za _ _) rfl
 have hla:(H++[Qz (v:Int) w]).length=H.length+1:=by simp
 have hlow:∀j,j<H.length→(H++[Qz (v:Int) w])[j]?=H[j]?:=fun j hj=>qL hj
 have gK:(H++[Qz (v:Int) w])[H.length]?=some (Qz v w):=by
  rw [qQ (qD _)];simp
 generalize H++[Qz (v:Int) w]=Ha at a hMa hla hlow gK
 have done:∀(E:Env) (Hd:Heap),RT polI 55 (sn 3 B55) (rsE d v w H.length Ud Ud Ud Ud Ud Ud) Ha .ret E Hd→E.get 6=.int .i64 (rsT d v w)→Mem (rsT d) Hd→Fr Ha Hd →
   ∃H',ClI 55 [.imm .arg 1 (d.map Qb),.map 0,.agg [.int .i64 (v:Int),.int .i64 (w:Int)]] H (.int .i64 (rsT d v w)) H'∧Mem (rsT d) H'∧Fr H H':=by
  intro E Hd t h6 hMd hFd
  have t2:=sq a t (c:=B55)
  have hc:=CallsTo.shared (P:=Tp) (pol:=polI) (g:=55) (fn:=Try.f55) (cd:=B55) (args:=[.imm .arg 1 (d.map Qb),.map 0,.agg [.int .i64 (v:Int),.int .i64 (w:Int)]]) (v:=.int .i64 (rsT d v w)) (by kernel_rfl) (by kernel_rfl) (by kernel_rfl) (by kernel_rfl) t2 (by kernel_rfl) (by simp) (by simp only [Qf,QnD,mapO,Q3,h6])
  rw [hMd.gc] at hc
  have e:max H.length (bnd (.int .i64 (rsT d v w)))=H.length:=by simp [bnd]
  rw [e] at hc
  refine ⟨_,hc,hMd.take h0,by rw [qI,hFd.len];omega,fun k hk=>?_⟩
  rw [qM]
  split
  ·rename_i hl
   rw [hFd.same k hk,hlow k hl]
  ·rename_i hl
   rw [List.getElem?_eq_none (by omega)]
 by_cases cw:w=0
 ·subst cw
  have b:=QhZ 0 (d.map Qb) 0 v 0 H.length Ha _ _ (QU gK) rfl (Zb gK) (g68 hv) (g23 hd hv (u:=0) (by omega))
  exact done _ _ (sqo b (c:=sn 3 B55) (b:=sn 7 B55)) rfl hMa (Fr.refl _)
 ·have b:=Qh0 0 (d.map Qb) 0 v w H.length Ha (QU gK) (by omega)
  have up:∀(E:Env) (Hd:Heap),RT polI 55 (sn 7 B55) (rsE d v w H.length Ud Ud Ud Ud Ud Ud) Ha .ret E Hd→RT polI 55 (sn 3 B55) (rsE d v w H.length Ud Ud Ud Ud Ud Ud) Ha .ret E Hd:=fun E Hd t=>sq b t (c:=sn 3 B55)
  obtain ⟨bb,hl1,hl2⟩:=hMa.lk ((v:Int),(w:Int))
  simp only [qE] at hl1 hl2
  cases bb with
  | true =>
   have c:=Qh1 0 (d.map Qb) 0 v w H.length Ha _ (Kt gK) hl1
   have e:=Qeu 0 (d.map Qb) 0 v w H.length Ha
   have z:=Qcx 0 (d.map Qb) 0 v w H.length Ha (.bool true) Ud Ud Ud Ud Ud (rsT d v w) (Kt gK) (hl2 rfl)
   have sk:RT polI 55 (sn 119 B55) (rsE d v w H.length (.bool true) Ud Ud Ud Ud Ud) Ha .normal (rsE d v w H.length (.bool true) Ud Ud Ud Ud Ud) Ha:=RunsTo.hint 1 60 [] fun kf hk=>by
    obtain ⟨kf,rfl⟩:∃n,kf=n+1:=⟨kf-1,by omega⟩
    exact ⟨[],by kernel_rfl,Obls.nil⟩
   have t1:=sq e (RunsTo.cond (y:=.tmp 29) (t:=false) (c:=sn 59 B55) (a:=sn 118 B55) (b:=sn 119 B55) (by kernel_rfl) rfl sk) (c:=sn 29 B55)
   have t2:=sq (sq c t1 (c:=sn 14 B55)) z (c:=sn 7 B55)
   exact done _ _ (up _ _ t2) rfl hMa (Fr.refl _)
  | false =>
   have c:=Qh2 0 (d.map Qb) 0 v w H.length Ha (Kt gK) hl1
   have e:=Qev 0 (d.map Qb) 0 v w H.length Ha
   have f:=Qh3 0 (d.map Qb) 0 v w H.length Ha
   have g:=Qh4 0 (d.map Qb) 0 v w H.length Ha (-1)
   rw [qB] at g
   obtain ⟨Hc,rl,hMc,hFc⟩:=Qex hd hv hw hR (kb:=H.length) (by omega) d.length 0 (-1) Ha (by omega) hMa gK
   rw [← Cb d v cw] at rl
   have gKc:Hc[H.length]?=some (Qz v w):=by rw [hFc.same _ (by omega)];exact gK
   obtain ⟨Hd,hu,hMd,hFd,hlk⟩:=hMc.upd ((v:Int),(w:Int))
   have gKd:Hd[H.length]?=some (Qz v w):=by rw [hFd.same _ (by omega)];exact gKc
   have m:=Qia 0 (d.map Qb) 0 v w H.length Hc (rsT d v w) d.length d.length Ud Ud Hd (Kt gKc) hu
   have z:=Qcx 0 (d.map Qb) 0 v w H.length Hd Ud (.int .i64 (rsT d v w)) Ud Ud (.int .i64 (d.length:Int)) (.int .i64 (d.length:Int)) (rsT d v w) (Kt gKd) hlk
   have rl':=lpi (e0:=rsE d v w H.length (.bool false) (.int .i64 (-1)) Ud Ud (.int .i64 (d.length:Int)) (.int .i64 0)) rl (b:=sn 3796 B55)
   have t1:=sq g (bke (c:=sn 949 B55) rl') (c:=sn 474 B55)
   have t2:=sq t1 m (c:=sn 237 B55)
   have t3:=sq f t2 (c:=sn 118 B55)
   have t4:=sq e (RunsTo.cond (y:=.tmp 29) (t:=true) (c:=sn 59 B55) (a:=sn 118 B55) (b:=sn 119 B55) (by kernel_rfl) rfl t3) (c:=sn 29 B55)
   have t5:=sq (sq c t4 (c:=sn 14 B55)) z (c:=sn 7 B55)
   exact done _ _ (up _ _ t5) rfl hMd (hFc.trans hFd)
theorem Qab (hd:okD d):∀(k v w:Nat),w≤k→v<d.length→w<2 ^ d.length→Qew d v w:=by
 intro k
 induction k with
 | zero =>
  intro v w hk hv hw
  have:w=0:=by omega
  subst this
  exact Qaa hd hv hw fun u hu=>by simp at hu
 | succ k ih =>
  intro v w hk hv hw
  refine Qaa hd hv hw fun u hu=>?_
  have:=ZC hu
  exact ih u (wo w u) (by omega) (K3 hw hu) (by omega)
end
end Go.Proofs.Ytlendaofkmhgmaa
end
section
open Go Go.HL
namespace Go.Proofs.Ytlendaofkmhgmaa
set_option maxRecDepth 100000
set_option linter.unusedSectionVars false
open Go.Proofs.Try renaming prog → Tp
open Go.HL.HV renaming undef → Ud
noncomputable def B29:Code:=Try.f29.body.getD .skip
abbrev Qac (v0 v2 v3 v4 v5 v6 v7 v8 v9 v10 v29 v30:HV):Env:=[(0,v0),(2,v2),(3,v3),(4,v4),(5,v5),(6,v6),(7,v7),(8,v8),(9,v9),(10,v10),(29,v29),(30,v30)]
abbrev e29 (rw:List HV) (u4 u5 u6 u7 u8 u9 u10 u11:HV):Env:=Qac (.a rw) (.imm .lit 1 []) (.i 0) (.i 0) u4 u5 u6 u7 u8 u9 u10 u11
section
variable (N:Nat) (rw:List HV)
include N rw
theorem Qib:RT polI 29 (sn 2 B29) [(0,.a rw)] [] .normal (e29 rw Ud Ud Ud Ud Ud Ud Ud Ud) [] :=
 hx N 60 []
end
section
variable (N:Nat) (rw:List HV)
include N rw
theorem Qic (g0:∀kf,Qa Tp polI (kf+1) 46 [.a rw] []=some (.bool true,[])): RT polI 29 (sn 6 B29) (e29 rw Ud Ud Ud Ud Ud Ud Ud Ud) [] .normal (e29 rw Ud Ud Ud Ud Ud Ud Ud Ud) [] :=
 hx N 60 [jD 1 1 g0]
theorem Qid (g0:∀kf,Qa Tp polI (kf+1) 46 [.a rw] []=some (.bool false,[])): RT polI 29 (sn 6 B29) (e29 rw Ud Ud Ud Ud Ud Ud Ud Ud) [] .ret (Qac (.a rw) (.imm .lit 1 []) (.i 0) (.i 2) Ud Ud Ud Ud Ud Ud Ud Ud) [] :=
 hx N 60 [jD 1 1 g0]
theorem Qie (H:Heap) (H0:Heap) (g0:some (HV.map H.length,H++[Blk.map [] [] 0])=some (.map 0,H0)): RT polI 29 (sn 14 B29) (e29 rw Ud Ud Ud Ud Ud Ud Ud Ud) H .normal (e29 rw (.map 0) Ud Ud Ud Ud Ud Ud Ud) H0 :=
 hx N 60 [jR 3 0 g0]
theorem Qif (H:Heap) (h0:Int) (H0:Heap) (H1:Heap) (g0:BV .shl 3 (.i 1) (.i (rw.length:Int)) (.i h0)) (g1:some (Wm (.agg [.i 0,.i 0]) H)=some (.q 1,H0)) (g2:ST H0 77 (.q 1) (.agg [.i 0,.i (qA.wrap (h0-2))]) H1): RT polI 29 (sn 30 B29) (e29 rw (.map 0) Ud Ud Ud Ud Ud Ud Ud) H .normal (e29 rw (.map 0) (.q 1) Ud Ud Ud Ud Ud Ud) H1 :=
 hx N 60 [jO 4 2 H g0,jR 4 5 g1,jS 4 6 g2]
theorem Qig (tv:HV) (H:Heap) (H0:Heap) (g0:YU Tp true true 23 1 [(0,.i 0)] H=some (tv,H0)): RT polI 29 (sn 62 B29) (e29 rw (.map 0) (.q 1) Ud Ud Ud Ud Ud Ud) H .normal (e29 rw (.map 0) (.q 1) tv Ud Ud Ud Ud Ud) H0 :=
 hx N 60 [jR 5 0 g0]
theorem Qih (tv:HV) (v w:Nat) (H:Heap) (g0:LD H 3 (.ptr 1 0 1 1) (.n w)) (g1:0<(w:Int)): RT polI 29 (sn 1008 B29) (e29 rw (.map 0) (.q 1) tv Ud Ud Ud Ud Ud) H .normal (e29 rw (.map 0) (.q 1) tv Ud Ud Ud Ud Ud) H :=
 hx N 60 [jO 6 1 H g0,jT 6 2 H g1]
theorem Qii (tv:HV) (v w:Nat) (H:Heap) (g0:LD H 3 (.ptr 1 0 1 1) (.n w)) (g1:¬(0<(w:Int))): RT polI 29 (sn 1008 B29) (e29 rw (.map 0) (.q 1) tv Ud Ud Ud Ud Ud) H (.exit 0) (e29 rw (.map 0) (.q 1) tv Ud Ud Ud Ud Ud) H :=
 hx N 60 [jO 6 1 H g0,jF 6 2 H g1]
theorem Qij (tv:HV) (v w:Nat) (H:Heap) (s:Int) (H0:Heap) (g0:LD H 77 (.q 1) (.agg [.n v,.n w])) (g1:∀kf,N≤kf→Qa Tp polI (kf+1) 55 [.a rw,.map 0,.agg [.n v,.n w]] H=some (.i s,H0)): RT polI 29 (sn 4036 B29) (e29 rw (.map 0) (.q 1) tv Ud Ud Ud Ud Ud) H .normal (e29 rw (.map 0) (.q 1) tv (.i s) Ud Ud Ud Ud) H0 :=
 hx N 60 [jO 7 2 H g0,jC 7 3 g1]
theorem Qik (tv:HV) (v w:Nat) (H:Heap) (mo:Int): RT polI 29 (sn 8074 B29) (e29 rw (.map 0) (.q 1) tv (.i mo) Ud Ud Ud Ud) H .normal (e29 rw (.map 0) (.q 1) tv (.i mo) Ud Ud (.i (rw.length:Int)) (.i 0)) H :=
 hx N 60 []
theorem Qil (tv:HV) (v w:Nat) (H:Heap) (mo:Int) (n i:Nat) (nb:Nat) (w2:Int) (h0:Int) (h1:Int) (H0:Heap) (H1:Heap) (g0:(i:Int)<(n:Int)) (g1:LD H 3 (.ptr 1 0 1 1) (.n w)) (g2:BV .shl 3 (.i 1) (.n i) (.i h0)) (g3:BV .andNot 3 (.n w) (.i h0) (.i h1)) (g4:some (Wm (.agg [.i 0,.i 0]) H)=some (.q nb,H0)) (g5:ST H0 77 (.q nb) (.agg [.n i,.i h1]) H1) (gS11:(WI ((Qh Tp H 3 (.ptr 1 0 1 1)).map (fun v=>(v,(H:Heap)))) ((Qh Tp H0 3 (.ptr 1 0 1 1)).map (fun v=>(v,(H0:Heap)))) H H0&&true)=true) (g7:LD H1 3 (.ptr 1 0 1 1) (.n w)) (g8:LD H1 3 (.ptr nb 0 1 1) (.i w2)) (g9:(w:Int)=w2) (gS12:(true&&(true&&(true&&true)))=true): RT polI 29 (sn 32300 B29) (e29 rw (.map 0) (.q 1) tv (.i mo) Ud Ud (.n n) (.n i)) H .normal (e29 rw (.map 0) (.q 1) tv (.i mo) (.n i) (.q nb) (.n n) (.i (qA.wrap ((i:Int)+1)))) H1 :=
 hx N 60 [jT 9 0 H g0,jK gS11,jO 11 2 H g1,jO 11 4 H g2,jO 11 5 H g3,jR 11 7 g4,jS 11 8 g5,jK gS12,jO 12 1 H1 g7,jO 12 3 H1 g8,jB 12 4 H1 (congrArg not (decide_eq_true g9))]
theorem Qim (tv:HV) (v w:Nat) (H:Heap) (mo:Int) (n i:Nat) (nb:Nat) (w2:Int) (h0:Int) (h1:Int) (H0:Heap) (H1:Heap) (l0:List HV) (x0:Int) (s:Int) (H2:Heap) (H3:Heap) (H4:Heap) (v0:HV) (g0:(i:Int)<(n:Int)) (g1:LD H 3 (.ptr 1 0 1 1) (.n w)) (g2:BV .shl 3 (.i 1) (.n i) (.i h0)) (g3:BV .andNot 3 (.n w) (.i h0) (.i h1)) (g4:some (Wm (.agg [.i 0,.i 0]) H)=some (.q nb,H0)) (g5:ST H0 77 (.q nb) (.agg [.n i,.i h1]) H1) (gS11:(WI ((Qh Tp H 3 (.ptr 1 0 1 1)).map (fun v=>(v,(H:Heap)))) ((Qh Tp H0 3 (.ptr 1 0 1 1)).map (fun v=>(v,(H0:Heap)))) H H0&&true)=true) (g7:LD H1 3 (.ptr 1 0 1 1) (.n w)) (g8:LD H1 3 (.ptr nb 0 1 1) (.i w2)) (g9:¬((w:Int)=w2)) (g10:LD H1 3 (.q 1) (.n v)) (g11:IX 22 (.a rw) (.n v) (.vptr (.a l0))) (g12:IX 23 (.a l0) (.n i) (.vptr (.i x0))) (g13:LD H1 77 (.q nb) (.agg [.n i,.i w2])) (g14:∀kf,N≤kf→Qa Tp polI (kf+1) 55 [.a rw,.map 0,.agg [.n i,.i w2]] H1=some (.i s,H2)) (g15:qA.wrap (x0+s)=mo) (gS12:(WI ((Qh Tp H1 3 (.q 1)).map (fun v=>(v,(H1:Heap)))) ((Qh Tp H2 3 (.q 1)).map (fun v=>(v,(H2:Heap)))) H1 H2&&((same (.a l0) (.a l0)&&Qj (H1:Heap) H1&&Qj (H2:Heap) H2)&&((same (.i x0) (.i x0)&&Qj (H1:Heap) H1&&Qj (H2:Heap) H2)&&true)))=true) (g17:LD H2 77 (.q nb) (.agg [.n i,.i w2])) (g18:ST H2 77 (.q 1) (.agg [.n i,.i w2]) H3) (g19:WV H3 1 8 (tv) [.n i]=some (v0,H4)): RT polI 29 (sn 32300 B29) (e29 rw (.map 0) (.q 1) tv (.i mo) Ud Ud (.n n) (.n i)) H (.exit 2) (e29 rw (.map 0) (.q 1) v0 (.i mo) (.n i) (.q nb) (.n n) (.n i)) H4 :=
 hx N 60 [jT 9 0 H g0,jK gS11,jO 11 2 H g1,jO 11 4 H g2,jO 11 5 H g3,jR 11 7 g4,jS 11 8 g5,jK gS12,jO 12 1 H1 g7,jO 12 3 H1 g8,jB 12 4 H1 (congrArg not (decide_eq_false g9)),jO 12 8 H1 g10,jO 12 9 H1 g11,jO 12 12 H1 g12,jO 12 16 H1 g13,jC 12 17 g14,jT 12 20 H2 g15,jO 13 0 H2 g17,jS 13 1 g18,jR 14 3 g19]
theorem Qin (tv:HV) (v w:Nat) (H:Heap) (mo:Int) (n i:Nat) (nb:Nat) (w2:Int) (h0:Int) (h1:Int) (H0:Heap) (H1:Heap) (l0:List HV) (x0:Int) (s:Int) (H2:Heap) (g0:(i:Int)<(n:Int)) (g1:LD H 3 (.ptr 1 0 1 1) (.n w)) (g2:BV .shl 3 (.i 1) (.n i) (.i h0)) (g3:BV .andNot 3 (.n w) (.i h0) (.i h1)) (g4:some (Wm (.agg [.i 0,.i 0]) H)=some (.q nb,H0)) (g5:ST H0 77 (.q nb) (.agg [.n i,.i h1]) H1) (gS11:(WI ((Qh Tp H 3 (.ptr 1 0 1 1)).map (fun v=>(v,(H:Heap)))) ((Qh Tp H0 3 (.ptr 1 0 1 1)).map (fun v=>(v,(H0:Heap)))) H H0&&true)=true) (g7:LD H1 3 (.ptr 1 0 1 1) (.n w)) (g8:LD H1 3 (.ptr nb 0 1 1) (.i w2)) (g9:¬((w:Int)=w2)) (g10:LD H1 3 (.q 1) (.n v)) (g11:IX 22 (.a rw) (.n v) (.vptr (.a l0))) (g12:IX 23 (.a l0) (.n i) (.vptr (.i x0))) (g13:LD H1 77 (.q nb) (.agg [.n i,.i w2])) (g14:∀kf,N≤kf→Qa Tp polI (kf+1) 55 [.a rw,.map 0,.agg [.n i,.i w2]] H1=some (.i s,H2)) (g15:¬(qA.wrap (x0+s)=mo)) (gS12:(WI ((Qh Tp H1 3 (.q 1)).map (fun v=>(v,(H1:Heap)))) ((Qh Tp H2 3 (.q 1)).map (fun v=>(v,(H2:Heap)))) H1 H2&&((same (.a l0) (.a l0)&&Qj (H1:Heap) H1&&Qj (H2:Heap) H2)&&((same (.i x0) (.i x0)&&Qj (H1:Heap) H1&&Qj (H2:Heap) H2)&&true)))=true): RT polI 29 (sn 32300 B29) (e29 rw (.map 0) (.q 1) tv (.i mo) Ud Ud (.n n) (.n i)) H .normal (e29 rw (.map 0) (.q 1) tv (.i mo) (.n i) (.q nb) (.n n) (.i (qA.wrap ((i:Int)+1)))) H2 :=
 hx N 60 [jT 9 0 H g0,jK gS11,jO 11 2 H g1,jO 11 4 H g2,jO 11 5 H g3,jR 11 7 g4,jS 11 8 g5,jK gS12,jO 12 1 H1 g7,jO 12 3 H1 g8,jB 12 4 H1 (congrArg not (decide_eq_false g9)),jO 12 8 H1 g10,jO 12 9 H1 g11,jO 12 12 H1 g12,jO 12 16 H1 g13,jC 12 17 g14,jF 12 20 H2 g15]
theorem Qio (tv:HV) (H:Heap) (y8 y9 y10 y29 y30:HV) (sm:Int) (H0:Heap) (g0:∀kf,Qa Tp polI (kf+1) 56 [.a rw,tv] H=some (.i sm,H0)): RT polI 29 (sn 127 B29) (e29 rw (.map 0) (.q 1) tv y8 y9 y10 y29 y30) H .ret (Qac (.a rw) tv (.i sm) (.i 0) (.map 0) (.q 1) tv y8 y9 y10 y29 y30) H0 :=
 hx N 60 [jD 16 3 g0]
end
end Go.Proofs.Ytlendaofkmhgmaa
end
section
open Go Go.HL
namespace Go.Proofs.Ytlendaofkmhgmaa
set_option linter.unusedSectionVars false
open Go.Proofs.Try renaming prog → Tp
open Go.HL.HV renaming undef → Ud
section
variable {d:List (List Int)}
abbrev imE (d:List (List Int)) (v4 v5 v6 v7 v8 v13 v14 v15 v29 v30 v31 v36 v37 v38:HV):Env:=Qcv (.imm .arg 1 (d.map Qb)) (.bool false) v4 v5 v6 v7 v8 v13 v14 v15 v29 v30 v31 v36 v37 v38
abbrev imA (d:List (List Int)) (i:Nat):Env:=imE d Ud Ud Ud Ud Ud (.imm .arg 1 (d.map Qb)) (.int .i64 (d.length:Int)) (.int .i64 (i:Int)) Ud Ud Ud Ud Ud Ud
abbrev imB (d:List (List Int)) (i:Nat):Env:=imE d Ud Ud Ud Ud Ud Ud Ud Ud (.imm .arg 1 (d.map Qb)) (.int .i64 (d.length:Int)) (.int .i64 (i:Int)) Ud Ud Ud
abbrev imC (d:List (List Int)) (i:Nat) (l:List Int) (j:Nat):Env:=imE d Ud (.int .i64 (i:Int)) Ud Ud Ud Ud Ud Ud (.imm .arg 1 (d.map Qb)) (.int .i64 (d.length:Int)) (.int .i64 (i:Int)) (.imm .arg 1 (l.map hvI)) (.int .i64 (l.length:Int)) (.int .i64 (j:Int))
def Qcy (d:List (List Int)) (i:Nat):Prop:=K5 d i∧∀v,v∈d.getD i []→mi v
open Classical in
theorem Qey (hd:d.length≤1000) (hw:∀r,r∈d→r.length≤1000):∀(k i:Nat),i+k=d.length →
  ∃x E,RT polM 46 (sn 58 B46) (imA d i) [] x E [] ∧
   ((x=.exit 0∧E=imA d d.length∧∀a,i≤a→a<d.length→Qcy d a)∨(x=.ret∧E.get 2=.bool false∧¬∀a,a<d.length→Qcy d a)):=by
 intro k
 induction k with
 | zero =>
  intro i hi
  have hi:i=d.length:=by omega
  subst hi
  have s1:=QhF 0 (d.map Qb) d.length [] [] (by rw [qB];omega)
  rw [qB] at s1
  exact ⟨_,_,lpo s1,.inl ⟨rfl,rfl,fun a h1 h2=>by omega⟩⟩
 | succ k ih =>
  intro i hi
  have hil:i<d.length:=by omega
  have hg:=QhV hil
  by_cases c:(d.getD i []).length=d.length
  ·have hr9:(d.getD i []).length≤1000:=by omega
   have hcf:=Qes (d.getD i []) [] hr9
   obtain ⟨N,hN⟩:=CallsTo.from hcf
   by_cases c2:∀v,v∈d.getD i []→mi v
   ·rw [decide_eq_false (fun h=>h c2)] at hN
    have s1:=QhD N (d.map Qb) i [] [] _ [] (by rw [qB];omega) hg (by rw [qB,qB];omega) hN
    rw [Qc (by omega),qB] at s1
    obtain ⟨x,E,h1,h2⟩:=ih (i+1) (by omega)
    refine ⟨x,E,lop s1 rfl h1,?_⟩
    rcases h2 with ⟨k1,k2,k3⟩ | h2
    ·exact .inl ⟨k1,k2,fun a h1 h2=>by
      by_cases e:a=i
      ·rw [e];exact ⟨c,c2⟩
      ·exact k3 a (by omega) h2⟩
    ·exact .inr h2
   ·rw [decide_eq_true c2] at hN
    have s1:=QhC N (d.map Qb) i [] [] _ [] (by rw [qB];omega) hg (by rw [qB,qB];omega) hN
    rw [qB] at s1
    exact ⟨_,_,lpo s1,.inr ⟨rfl,rfl,fun h=>c2 (h i hil).2⟩⟩
  ·have s1:=QhE 0 (d.map Qb) i [] [] _ (by rw [qB];omega) hg (by rw [qB,qB];omega)
   rw [qB] at s1
   exact ⟨_,_,lpo s1,.inr ⟨rfl,rfl,fun h=>c (h i hil).1⟩⟩
theorem Qcz (hd:d.length≤1000) (hr:∀a,a<d.length→K5 d a) {i:Nat} (hi:i<d.length):∀(k j:Nat),j+k=d.length →
  ∃x E,RT polM 46 (sn 31334 B46) (imC d i (d.getD i []) j) [] x E [] ∧
   ((x=.exit 4∧E=imC d i (d.getD i []) d.length∧∀a,j≤a→a<d.length→KB d i a)∨(x=.ret∧E.get 2=.bool false∧¬∀a,a<d.length→KB d i a)):=by
 intro k
 have hl:((d.getD i []).map hvI).length=d.length:=by rw [qB];exact hr i hi
 induction k with
 | zero =>
  intro j hj
  have hj:j=d.length:=by omega
  subst hj
  have s1:=QhP 0 (d.map Qb) i [] ((d.getD i []).map hvI) d.length (by rw [hl];omega)
  rw [qB,qB] at s1
  exact ⟨_,_,lpo s1,.inl ⟨rfl,rfl,fun a h1 h2=>by omega⟩⟩
 | succ k ih =>
  intro j hj
  have hjl:j<d.length:=by omega
  have bad:∀E,RT polM 46 (sn 62668 B46) (imC d i (d.getD i []) j) [] .ret E []→E.get 2=.bool false→¬KB d i j→_:=fun E t hE hc =>
   (⟨_,E,lpo t,.inr ⟨rfl,hE,fun h=>hc (h j hjl)⟩⟩:∃x E,RT polM 46 (sn 31334 B46) (imC d i (d.getD i []) j) [] x E [] ∧
   ((x=.exit 4∧E=imC d i (d.getD i []) d.length∧∀a,j≤a→a<d.length→KB d i a)∨(x=.ret∧E.get 2=.bool false∧¬∀a,a<d.length→KB d i a)))
  have good:∀v7 v8,KB d i j→RT polM 46 (sn 62668 B46) (imC d i (d.getD i []) j) [] .normal (imE d Ud (.int .i64 (i:Int)) Ud v7 v8 Ud Ud Ud (.imm .arg 1 (d.map Qb)) (.int .i64 (d.length:Int)) (.int .i64 (i:Int)) (.imm .arg 1 ((d.getD i []).map hvI)) (.int .i64 ((d.getD i []).length:Int)) (.int .i64 (qA.wrap ((j:Int)+1)))) []→_:=fun v7 v8 hc t=>(by
   rw [Qc (by omega)] at t
   obtain ⟨x,E,h1,h2⟩:=ih (j+1) (by omega)
   refine ⟨x,E,lop t rfl h1,?_⟩
   rcases h2 with ⟨k1,k2,k3⟩ | h2
   ·exact .inl ⟨k1,k2,fun a h1 h2=>by
     by_cases e:a=j
     ·rw [e];exact hc
     ·exact k3 a (by omega) h2⟩
   ·exact .inr h2:∃x E,RT polM 46 (sn 31334 B46) (imC d i (d.getD i []) j) [] x E [] ∧
   ((x=.exit 4∧E=imC d i (d.getD i []) d.length∧∀a,j≤a→a<d.length→KB d i a)∨(x=.ret∧E.get 2=.bool false∧¬∀a,a<d.length→KB d i a)))
  have gj:=QhV hjl
  have g1:=gat (hr i hi) hjl
  have g2:=gat (hr j hjl) hi
  have hjm:(j:Int)<((((d.getD i []).map hvI).length:Nat):Int):=by rw [hl];omega
  by_cases c3:at2 d i j=at2 d j i
  ·by_cases c4:i=j
   ·by_cases c5:at2 d i j=0
    ·have s:=QhL 0 (d.map Qb) i [] ((d.getD i []).map hvI) j _ _ _ hjm g1 gj g2 c3 (by omega) c5
     rw [qB,qB] at s
     exact good _ _ ⟨c3,fun _=>c5⟩ s
    ·have s:=QhM 0 (d.map Qb) i [] ((d.getD i []).map hvI) j _ _ _ hjm g1 gj g2 c3 (by omega) c5
     rw [qB,qB] at s
     exact bad _ s rfl fun h=>c5 (h.2 c4)
   ·have s:=QhN 0 (d.map Qb) i [] ((d.getD i []).map hvI) j _ _ _ hjm g1 gj g2 c3 (by omega)
    rw [qB,qB] at s
    exact good _ _ ⟨c3,fun h=>absurd h c4⟩ s
  ·have s:=QhO 0 (d.map Qb) i [] ((d.getD i []).map hvI) j _ _ _ hjm g1 gj g2 c3
   rw [qB,qB] at s
   exact bad _ s rfl fun h=>c3 h.1
theorem QcA (hd:d.length≤1000) (hr:∀a,a<d.length→K5 d a):∀(k i:Nat),i+k=d.length →
  ∃x E,RT polM 46 (sn 122 B46) (imB d i) [] x E [] ∧
   ((x=.exit 2∧E=imB d d.length∧∀b,i≤b→b<d.length→∀a,a<d.length→KB d b a)∨(x=.ret∧E.get 2=.bool false∧¬∀b,b<d.length→∀a,a<d.length→KB d b a)):=by
 intro k
 induction k with
 | zero =>
  intro i hi
  have hi:i=d.length:=by omega
  subst hi
  have s1:=QhI 0 (d.map Qb) d.length [] (by rw [qB];omega)
  have s2:=Qeo 0 (d.map Qb) d.length []
  rw [qB] at s1 s2
  have t1:=sqo s2 (c:=sn 489 B46) (b:=sn 979 B46)
  have t2:=sq s1 t1 (c:=sn 244 B46)
  exact ⟨_,_,lpo t2,.inl ⟨rfl,rfl,fun a h1 h2=>by omega⟩⟩
 | succ k ih =>
  intro i hi
  have hil:i<d.length:=by omega
  have s1:=QhH 0 (d.map Qb) i [] (by rw [qB];omega)
  have s2:=Qen 0 (d.map Qb) i []
  have g1:=QhJ 0 (d.map Qb) i [] [] _ (QhV hil)
  have g2:=QhK 0 (d.map Qb) i [] ((d.getD i []).map hvI)
  rw [qB] at s1 s2 g1
  rw [qB,qB] at g2
  obtain ⟨x,E,h1,h2⟩:=Qcz hd hr hil d.length 0 (by omega)
  have h1':=lpi (e0:=imE d Ud (.int .i64 (i:Int)) (.imm .arg 1 ((d.getD i []).map hvI)) Ud Ud Ud Ud Ud (.imm .arg 1 (d.map Qb)) (.int .i64 (d.length:Int)) (.int .i64 (i:Int)) (.imm .arg 1 ((d.getD i []).map hvI)) (.int .i64 ((d.getD i []).length:Int)) (.int .i64 0)) h1 (b:=sn 62668 B46)
  rcases h2 with ⟨rfl,rfl,k3⟩ | ⟨rfl,k2,k3⟩
  ·have n1:=QhQ 0 (d.map Qb) i [] ((d.getD i []).map hvI) d.length
   rw [Qc (by omega),qB,qB] at n1
   have t1:=sq g2 (bke (c:=sn 15667 B46) h1') (c:=sn 7833 B46)
   have t2:=RunsTo.block_normal (i:=3) (c:=sn 1958 B46) (sq g1 t1 (c:=sn 3916 B46)) (by kernel_rfl)
   have t3:=sq s2 (sq t2 n1 (c:=sn 979 B46)) (c:=sn 489 B46)
   have t4:=sq s1 t3 (c:=sn 244 B46)
   obtain ⟨x,E,r1,r2⟩:=ih (i+1) (by omega)
   refine ⟨x,E,lop t4 rfl r1,?_⟩
   rcases r2 with ⟨q1,q2,q3⟩ | r2
   ·exact .inl ⟨q1,q2,fun b h1 h2=>by
     by_cases e:b=i
     ·rw [e];exact fun a ha=>k3 a (by omega) ha
     ·exact q3 b (by omega) h2⟩
   ·exact .inr r2
  ·have t1:=sq g2 (RunsTo.block_ret (c:=sn 15667 B46) (i:=4) h1' (by kernel_rfl)) (c:=sn 7833 B46)
   have t2:=RunsTo.block_ret (i:=3) (c:=sn 1958 B46) (sq g1 t1 (c:=sn 3916 B46)) (by kernel_rfl)
   have t3:=sq s2 (sqo t2 (c:=sn 979 B46) (b:=sn 1959 B46)) (c:=sn 489 B46)
   have t4:=sq s1 t3 (c:=sn 244 B46)
   exact ⟨_,E,lpo t4,.inr ⟨rfl,k2,fun h=>k3 (h i hil)⟩⟩
theorem okD_iff2:okD d↔(1≤d.length∧d.length≤11)∧(∀a,a<d.length→Qcy d a)∧∀b,b<d.length→∀a,a<d.length→KB d b a:=by
 rw [Qet]
 constructor
 ·rintro ⟨h1,h2,h3⟩
  refine ⟨h1,fun a ha=>⟨h2 a ha,fun v hv=>?_⟩,fun b hb a ha=>(h3 b hb a ha).2⟩
  obtain ⟨j,hj,rfl⟩:=List.getElem_of_mem hv
  have hjd:j<d.length:=by have:=h2 a ha;unfold K5 at this;omega
  have:=(h3 a ha j hjd).1
  unfold at2 at this
  rw [Zt hj] at this
  exact this
 ·rintro ⟨h1,h2,h3⟩
  refine ⟨h1,fun a ha=>(h2 a ha).1,fun b hb a ha=>⟨?_,h3 b hb a ha⟩⟩
  have hl:a<(d.getD b []).length:=by have:=(h2 b hb).1;unfold K5 at this;omega
  have:=(h2 b hb).2 _ (jV hl)
  unfold at2
  rw [Zt hl]
  exact this
end
theorem QnE:Try.f46.results.toList=[.tmp 2]:=by kernel_rfl
theorem Xz:QN Tp 46 JH:=by
 refine Qp (pol:=polM) (fn:=Try.f46) (cd:=B46) Qi QhT (by kernel_rfl) (by kernel_rfl) (Jj polM.prim _ _ (by kernel_rfl)) (by kernel_rfl) ?_
 intro args res h
 obtain ⟨d,rfl,hq⟩:=Vq h
 clear h
 split at hq
 ·rename_i hc
  cases hq
  have hw:∀r,r∈d→r.length≤1000:=fun r hr=>by simpa using List.all_eq_true.1 hc.2 r hr
  have a1:=Qhy 0 (d.map Qb)
  have fin:∀b E,RT polM 46 (sn 3 B46) (imE d Ud Ud Ud Ud Ud Ud Ud Ud Ud Ud Ud Ud Ud Ud) [] .ret E []→E.get 2=.bool b→okB d=b →
    ∃x E H' v,RT polM 46 B46 (ZS [.imm .arg 1 (d.map Qb)]) [] x E H'∧(∀i,x≠.exit i)∧Qf Tp Try.f46 E H'=some v∧We H' (polM.deep 46) v=some (.bool (okB d)):=by
   intro b E t hE hb
   exact ⟨_,E,[],.bool b,sq a1 t (c:=B46),by simp,by simp only [Qf,QnE,mapO,Q3,hE],by rw [hb];rfl⟩
  by_cases c1:(1:Int)≤(((d.map Qb).length:Nat):Int)∧(((d.map Qb).length:Nat):Int)≤11
  ·have b1:=Qhz 0 (d.map Qb) c1
   have cc:=QhB 0 (d.map Qb)
   rw [qB] at c1 cc
   obtain ⟨x,E,h1,h2⟩:=Qey hc.1 hw d.length 0 (by omega)
   rcases h2 with ⟨rfl,rfl,k3⟩ | ⟨rfl,k2,k3⟩
   ·have hr:∀a,a<d.length→K5 d a:=fun a ha=>(k3 a (qT _) ha).1
    have d1:=QhG 0 (d.map Qb) d.length [] Ud
    rw [qB] at d1
    obtain ⟨x,E,r1,r2⟩:=QcA hc.1 hr d.length 0 (by omega)
    have r1':=lpi (e0:=imE d Ud Ud Ud Ud Ud (.imm .arg 1 (d.map Qb)) (.int .i64 (d.length:Int)) (.int .i64 (d.length:Int)) (.imm .arg 1 (d.map Qb)) (.int .i64 (d.length:Int)) (.int .i64 0) Ud Ud Ud) r1 (b:=sn 244 B46)
    have t1:=sq cc (bke (c:=sn 29 B46) h1) (c:=sn 14 B46)
    rcases r2 with ⟨rfl,rfl,q3⟩ | ⟨rfl,q2,q3⟩
    ·have z1:=QhR 0 (d.map Qb) d.length []
     rw [qB] at z1
     have t2:=sq d1 (bke (c:=sn 61 B46) r1') (c:=sn 30 B46)
     have t3:=sq t1 (sq t2 z1 (c:=sn 15 B46)) (c:=sn 7 B46)
     exact fin true _ (sq b1 t3 (c:=sn 3 B46)) rfl (Jz (okD_iff2.2 ⟨⟨by omega,by omega⟩,fun a ha=>k3 a (qT _) ha,fun b hb=>q3 b (qT _) hb⟩))
    ·have t2:=sq d1 (RunsTo.block_ret (c:=sn 61 B46) (i:=2) r1' (by kernel_rfl)) (c:=sn 30 B46)
     have t3:=sq t1 (sqo t2 (c:=sn 15 B46) (b:=sn 31 B46)) (c:=sn 7 B46)
     exact fin false _ (sq b1 t3 (c:=sn 3 B46)) q2 (ZD fun h=>q3 (okD_iff2.1 h).2.2)
   ·have t1:=sq cc (RunsTo.block_ret (c:=sn 29 B46) (i:=0) h1 (by kernel_rfl)) (c:=sn 14 B46)
    have t3:=sq b1 (sqo t1 (c:=sn 7 B46) (b:=sn 15 B46)) (c:=sn 3 B46)
    exact fin false _ t3 k2 (ZD fun h=>k3 (okD_iff2.1 h).2.1)
  ·have b1:=QhA 0 (d.map Qb) c1
   rw [qB] at c1
   exact fin false _ (sqo b1 (c:=sn 3 B46) (b:=sn 7 B46)) rfl (ZD fun h=>c1 ⟨by have:=h.1.1;omega,by have:=h.1.2;omega⟩)
 ·cases hq
end Go.Proofs.Ytlendaofkmhgmaa
end
section
open Go Go.HL
namespace Go.Proofs.Ytlendaofkmhgmaa
set_option maxRecDepth 100000
set_option linter.unusedSectionVars false
open Go.Proofs.Try renaming prog → Tp
open Go.HL.HV renaming undef → Ud
noncomputable def B57:Code:=Try.f57.body.getD .skip
abbrev Qad (v0 v1 v4 v5 v6 v18 v19 v20:HV):Env:=[(0,v0),(1,v1),(4,v4),(5,v5),(6,v6),(18,v18),(19,v19),(20,v20)]
abbrev e57 (rw:List HV) (la:List HV) (u3 u4 u5 u6 u7:HV):Env:=Qad (.a rw) (.a la) (.bool false) u3 u4 u5 u6 u7
section
variable (rw la:List HV)
include rw la
theorem Qip:RT polT 57 (sn 2 B57) [(0,.a rw),(1,.a la)] [] .normal (e57 rw la Ud Ud Ud Ud Ud) [] :=
 hx 0 60 []
end
section
variable (rw la:List HV)
include rw la
theorem Qiq (x0:Int) (g0:(la.length:Int)=(rw.length:Int)) (g1:IX 23 (.a la) (.i 0) (.vptr (.i x0))) (g2:x0=0): RT polT 57 (sn 6 B57) (e57 rw la Ud Ud Ud Ud Ud) [] .normal (e57 rw la Ud Ud Ud Ud Ud) [] :=
 hx 0 60 [jB 1 4 [] (congrArg not (decide_eq_true g0)),jO 1 7 [] g1,jB 1 9 [] (congrArg not (decide_eq_true g2))]
theorem Qir (x0:Int) (g0:(la.length:Int)=(rw.length:Int)) (g1:IX 23 (.a la) (.i 0) (.vptr (.i x0))) (g2:¬(x0=0)): RT polT 57 (sn 6 B57) (e57 rw la Ud Ud Ud Ud Ud) [] .ret (e57 rw la Ud Ud Ud Ud Ud) [] :=
 hx 0 60 [jB 1 4 [] (congrArg not (decide_eq_true g0)),jO 1 7 [] g1,jB 1 9 [] (congrArg not (decide_eq_false g2))]
theorem Qis (g0:¬((la.length:Int)=(rw.length:Int))): RT polT 57 (sn 6 B57) (e57 rw la Ud Ud Ud Ud Ud) [] .ret (e57 rw la Ud Ud Ud Ud Ud) [] :=
 hx 0 60 [jB 1 4 [] (congrArg not (decide_eq_false g0))]
theorem Qit:RT polT 57 (sn 28 B57) (e57 rw la Ud Ud Ud Ud Ud) [] .normal (e57 rw la Ud Ud (.a la) (.i (la.length:Int)) (.i 0)) [] :=
 hx 0 60 []
theorem Qiu (j:Nat) (x0:Int) (g0:(j:Int)<(la.length:Int)) (g1:IX 23 (.a la) (.n j) (.vptr (.i x0))) (g2:(0:Int)≤x0∧x0≤qA.wrap ((rw.length:Int)-1)) (g3:Jb Tp 23 (.a la) none (some (.n j)) none=some (.a (la.take j))) (g4:∀kf,Qa Tp polT (kf+1) 60 [.a (la.take j),.i x0] []=some (.bool true,[])): RT polT 57 (sn 116 B57) (e57 rw la Ud Ud (.a la) (.i (la.length:Int)) (.n j)) [] .ret (e57 rw la (.n j) (.i x0) (.a la) (.i (la.length:Int)) (.n j)) [] :=
 hx 0 60 [jT 4 0 [] g0,jO 5 1 [] g1,jT 6 4 [] g2,jO 6 9 [] g3,jD 6 11 g4]
theorem Qiv (j:Nat) (x0:Int) (g0:(j:Int)<(la.length:Int)) (g1:IX 23 (.a la) (.n j) (.vptr (.i x0))) (g2:(0:Int)≤x0∧x0≤qA.wrap ((rw.length:Int)-1)) (g3:Jb Tp 23 (.a la) none (some (.n j)) none=some (.a (la.take j))) (g4:∀kf,Qa Tp polT (kf+1) 60 [.a (la.take j),.i x0] []=some (.bool false,[])): RT polT 57 (sn 116 B57) (e57 rw la Ud Ud (.a la) (.i (la.length:Int)) (.n j)) [] .normal (e57 rw la (.n j) (.i x0) (.a la) (.i (la.length:Int)) (.i (qA.wrap ((j:Int)+1)))) [] :=
 hx 0 60 [jT 4 0 [] g0,jO 5 1 [] g1,jT 6 4 [] g2,jO 6 9 [] g3,jD 6 11 g4]
theorem Qiw (j:Nat) (x0:Int) (g0:(j:Int)<(la.length:Int)) (g1:IX 23 (.a la) (.n j) (.vptr (.i x0))) (g2:¬((0:Int)≤x0∧x0≤qA.wrap ((rw.length:Int)-1))): RT polT 57 (sn 116 B57) (e57 rw la Ud Ud (.a la) (.i (la.length:Int)) (.n j)) [] .ret (e57 rw la (.n j) (.i x0) (.a la) (.i (la.length:Int)) (.n j)) [] :=
 hx 0 60 [jT 4 0 [] g0,jO 5 1 [] g1,jF 6 4 [] g2]
theorem Qix (j:Nat) (g0:¬((j:Int)<(la.length:Int))): RT polT 57 (sn 116 B57) (e57 rw la Ud Ud (.a la) (.i (la.length:Int)) (.n j)) [] (.exit 0) (e57 rw la Ud Ud (.a la) (.i (la.length:Int)) (.n j)) [] :=
 hx 0 60 [jF 4 0 [] g0]
theorem Qiy (j:Nat): RT polT 57 (sn 15 B57) (e57 rw la Ud Ud (.a la) (.i (la.length:Int)) (.n j)) [] .ret (Qad (.a rw) (.a la) (.bool true) Ud Ud (.a la) (.i (la.length:Int)) (.n j)) [] :=
 hx 0 60 []
end
noncomputable def B34:Code:=Try.f34.body.getD .skip
abbrev QcB (v0 v1 v4 v5:HV):Env:=[(0,v0),(1,v1),(4,v4),(5,v5)]
section
variable (rw la:List HV)
include rw la
theorem QoK (sm:Int) (g0:∀kf,Qa Tp polN (kf+1) 46 [.a rw] []=some (.bool true,[])) (g1:∀kf,Qa Tp polN (kf+1) 57 [.a rw,.a la] []=some (.bool true,[])) (g2:∀kf,Qa Tp polN (kf+1) 56 [.a rw,.a la] []=some (.i sm,[])): RT polN 34 (sub [] B34) [(0,.a rw),(1,.a la)] [] .ret (QcB (.a rw) (.a la) (.i sm) (.i 0)) [] :=
 hx 0 60 [jD 1 1 g0,jD 1 6 g1,jD 3 2 g2]
theorem QoL (g0:∀kf,Qa Tp polN (kf+1) 46 [.a rw] []=some (.bool true,[])) (g1:∀kf,Qa Tp polN (kf+1) 57 [.a rw,.a la] []=some (.bool false,[])): RT polN 34 (sub [] B34) [(0,.a rw),(1,.a la)] [] .ret (QcB (.a rw) (.a la) (.i 0) (.i 2)) [] :=
 hx 0 60 [jD 1 1 g0,jD 1 6 g1]
theorem QoM (g0:∀kf,Qa Tp polN (kf+1) 46 [.a rw] []=some (.bool false,[])): RT polN 34 (sub [] B34) [(0,.a rw),(1,.a la)] [] .ret (QcB (.a rw) (.a la) (.i 0) (.i 2)) [] :=
 hx 0 60 [jD 1 1 g0]
end
noncomputable def B52:Code:=Try.f52.body.getD .skip
abbrev QnF (v0 v2:HV):Env:=[(0,v0),(2,v2)]
theorem QoN (l:List HV) (g0:Kd Tp .eql 23 (.a l)=some (.bool false)) (g1:WV [] 1 8 (.imm .lit 1 []) l=some (.sl 0 0 l.length none l.length 1,[.b l])): RT pol 52 (sub [] B52) [(0,.a l)] [] .ret (QnF (.a l) (.s 0 l.length)) [.b l] :=
 hx 0 60 [jO 1 1 [] g0,jR 3 2 g1]
end Go.Proofs.Ytlendaofkmhgmaa
end
section
open Go Go.HL
namespace Go.Proofs.Ytlendaofkmhgmaa
set_option linter.unusedSectionVars false
open Go.Proofs.Try renaming prog → Tp
open Go.HL.HV renaming undef → Ud
theorem Qiz (n:Nat):Qo Tp (Qa Tp polT n):=QW _ (fun g f h=>by
 split at h
 ·rename_i hg;cases h;rw [eq_of_beq hg];exact Vp
 split at h
 ·rename_i hg;cases h;rw [eq_of_beq hg];exact Yv
 ·cases h) n
theorem VL {pol':Pol} (hp:pol'.prim 60=some W8) {l:List Int} (hl:l.length≤1000) (v:Int) (H:Heap) (b:Bool) (hb:decide (v∈l)=b):∀k,Qa Tp pol' (k+1) 60 [.imm .arg 1 (l.map hvI),.int .i64 v] H=some (.bool b,H):=fun k=>by
 rw [Qt (pol:=pol') (g:=60) (F:=W8) hp (rs:=[.imm .arg 1 (l.map hvI),.int .i64 v]) (by simp only [mapO,X1];rfl) (res:=.bool b) (by simp only [W8,lnF,QH WL];rw [if_pos hl,hb])];rfl
abbrev itE (d:List (List Int)) (l:List Int) (j:Nat):Env:=Qad (.imm .arg 1 (d.map Qb)) (.imm .arg 1 (l.map hvI)) (.bool false) Ud Ud (.imm .arg 1 (l.map hvI)) (.int .i64 (l.length:Int)) (.int .i64 (j:Int))
theorem Qez {d:List (List Int)} {l:List Int} (hd:d.length≤1000) (hl:l.length≤1000):∀(k j:Nat),j+k=l.length→Gd d.length l j →
  ∃x E,RT polT 57 (sn 58 B57) (itE d l j) [] x E [] ∧
   ((x=.exit 0∧E=itE d l l.length∧(inT d.length l∧l.Nodup))∨(x=.ret∧E.get 4=.bool false∧¬(inT d.length l∧l.Nodup))):=by
 intro k
 induction k with
 | zero =>
  intro j hj hG
  have hj:j=l.length:=by omega
  subst hj
  have s1:=Qix (d.map Qb) (l.map hvI) l.length (by simp)
  rw [qB] at s1
  exact ⟨_,_,lpo s1,.inl ⟨rfl,rfl,hG.all⟩⟩
 | succ k ih =>
  intro j hj hG
  have hjl:j<l.length:=by omega
  have g:=gx hjl
  rw [Zt hjl] at g
  have hmem:l[j]∈l:=jV hjl
  have hw:qA.wrap (((d.map Qb).length:Int)-1)=(d.length:Int)-1:=by rw [qB,Wc];omega
  by_cases c1:(0:Int)≤l[j]∧l[j]≤qA.wrap (((d.map Qb).length:Int)-1)
  ·have c1':=c1
   rw [hw] at c1'
   have gs:Jb Tp 23 (.imm .arg 1 (l.map hvI)) none (some (.int .i64 (j:Int))) none=some (.imm .arg 1 ((l.map hvI).take j)):=Di (by rw [qB];omega)
   have et:(l.map hvI).take j=(l.take j).map hvI:=List.map_take.symm
   by_cases c2:l[j]∈l.take j
   ·have s1:=Qiu (d.map Qb) (l.map hvI) j _ (by simp;omega) g c1 gs (by rw [et];exact VL (by kernel_rfl) (by rw [qI];omega) _ _ true (decide_eq_true c2))
    rw [qB] at s1
    exact ⟨_,_,lpo s1,.inr ⟨rfl,rfl,fun h=>Qem hjl c2 h.2⟩⟩
   ·have s1:=Qiv (d.map Qb) (l.map hvI) j _ (by simp;omega) g c1 gs (by rw [et];exact VL (by kernel_rfl) (by rw [qI];omega) _ _ false (decide_eq_false c2))
    rw [Qc (by omega),qB] at s1
    obtain ⟨x,E,h1,h2⟩:=ih (j+1) (by omega) (hG.succ hjl ⟨c1.1,by omega⟩ c2)
    exact ⟨x,E,lop s1 rfl h1,h2⟩
  ·have s1:=Qiw (d.map Qb) (l.map hvI) j _ (by simp;omega) g c1
   rw [qB (f:=hvI)] at s1
   rw [hw] at c1
   exact ⟨_,_,lpo s1,.inr ⟨rfl,rfl,fun h=>by have:=h.1 _ hmem;omega⟩⟩
theorem QnG:Try.f57.results.toList=[.tmp 4]:=by kernel_rfl
theorem QcC:QN Tp 57 Ut:=by
 refine Qp (pol:=polT) (fn:=Try.f57) (cd:=B57) Qi Qiz (by kernel_rfl) (by kernel_rfl) (Jj polT.prim _ _ (by kernel_rfl)) (by kernel_rfl) ?_
 intro args res h
 obtain ⟨d,l,rfl,hq⟩:=D5 h
 clear h
 split at hq
 ·rename_i hc
  cases hq
  have a1:=Qip (d.map Qb) (l.map hvI)
  have fin:∀b E,RT polT 57 (sn 3 B57) (Qad (.a (d.map Qb)) (.a (l.map hvI)) (.bool false) Ud Ud Ud Ud Ud) [] .ret E []→E.get 4=.bool b→KH d.length l=b →
    ∃x E H' v,RT polT 57 B57 (ZS [.imm .arg 1 (d.map Qb),.imm .arg 1 (l.map hvI)]) [] x E H'∧(∀i,x≠.exit i)∧Qf Tp Try.f57 E H'=some v∧We H' (polT.deep 57) v=some (.bool (KH d.length l)):=by
   intro b E t hE hb
   exact ⟨_,E,[],.bool b,sq a1 t (c:=B57),by simp,by simp only [Qf,QnG,mapO,Q3,hE],by rw [hb];rfl⟩
  by_cases e1:l.length=d.length
  ·have g0:=gx (l:=l) (y:=0) (by omega)
   by_cases e2:l.getD 0 0=0
   ·have b1:=Qiq (d.map Qb) (l.map hvI) _ (by simp [e1]) g0 e2
    have c1:=Qit (d.map Qb) (l.map hvI)
    rw [qB (f:=hvI)] at c1
    obtain ⟨x,E,h1,h2⟩:=Qez (d:=d) (by omega) hc.2 l.length 0 (by omega) (Gd.zero _ l)
    rcases h2 with ⟨rfl,rfl,h3⟩ | ⟨rfl,k2,k3⟩
    ·have z1:=Qiy (d.map Qb) (l.map hvI) l.length
     rw [qB (f:=hvI)] at z1
     have t1:=sq c1 (bke (c:=sn 29 B57) h1) (c:=sn 14 B57)
     exact fin true _ (sq b1 (sq t1 z1 (c:=sn 7 B57)) (c:=sn 3 B57)) rfl (decide_eq_true ⟨e1,e2,h3.1,h3.2⟩)
    ·have t1:=sq c1 (RunsTo.block_ret (c:=sn 29 B57) (i:=0) h1 (by kernel_rfl)) (c:=sn 14 B57)
     exact fin false _ (sq b1 (sqo t1 (c:=sn 7 B57) (b:=sn 15 B57)) (c:=sn 3 B57)) k2 (decide_eq_false fun h=>k3 ⟨h.2.2.1,h.2.2.2⟩)
   ·exact fin false _ (sqo (Qir (d.map Qb) (l.map hvI) _ (by simp [e1]) g0 e2) (c:=sn 3 B57) (b:=sn 7 B57)) rfl (decide_eq_false fun h=>e2 h.2.1)
  ·exact fin false _ (sqo (Qis (d.map Qb) (l.map hvI) (by simp;omega)) (c:=sn 3 B57) (b:=sn 7 B57)) rfl (decide_eq_false fun h=>e1 h.1)
 ·cases hq
theorem trOk_iff {n:Nat} {l:List Int}:KH n l=true↔l.length=n∧l.getD 0 0=0∧inT n l∧l.Nodup:=by
 unfold KH;rw [decide_eq_true_eq];exact Iff.rfl
theorem QcD (n:Nat):Qo Tp (Qa Tp polN n):=QW _ (fun g f h=>by
 split at h
 ·rename_i hg;cases h;rw [eq_of_beq hg];exact Xz
 split at h
 ·rename_i hg;cases h;rw [eq_of_beq hg];exact QcC
 split at h
 ·rename_i hg;cases h;rw [eq_of_beq hg];exact S7
 ·cases h) n
theorem Wl {pol':Pol} (hp:pol'.prim 46=some JH) {d:List (List Int)} (h1:d.length≤1000) (h2:(d.all fun r=>decide (r.length≤1000))=true) (H:Heap) (b:Bool) (hb:okB d=b):∀k,Qa Tp pol' (k+1) 46 [.imm .arg 1 (d.map Qb)] H=some (.bool b,H):=fun k=>by
 rw [Qt (pol:=pol') (g:=46) (F:=JH) hp (rs:=[.imm .arg 1 (d.map Qb)]) (by simp only [mapO,JN]) (res:=.bool b) (by simp only [JH,rwF,QH Wv];rw [if_pos ⟨h1,h2⟩,hb])];rfl
theorem Uw {pol':Pol} (hp:pol'.prim 57=some Ut) {d:List (List Int)} {l:List Int} (h1:1≤d.length) (h2:l.length≤1000) (H:Heap) (b:Bool) (hb:KH d.length l=b):∀k,Qa Tp pol' (k+1) 57 [.imm .arg 1 (d.map Qb),.imm .arg 1 (l.map hvI)] H=some (.bool b,H):=fun k=>by
 rw [Qt (pol:=pol') (g:=57) (F:=Ut) hp (rs:=[.imm .arg 1 (d.map Qb),.imm .arg 1 (l.map hvI)]) (by simp only [mapO,JN,X1]) (res:=.bool b) (by simp only [Ut,rlF,QH Wv,QH WL];rw [if_pos ⟨h1,h2⟩,hb])];rfl
theorem Qbg {pol':Pol} {g:FuncId} (hp:pol'.prim g=some Yu) {d:List (List Int)} {l:List Int} (h1:okD d) (h2:inT d.length l) (h3:l.length≤1000) {v:HV} {H:Heap} (hv:Qx H 6 v=some (.imm .arg 1 (l.map hvI))):∀k,Qa Tp pol' (k+1) g [.imm .arg 1 (d.map Qb),v] H=some (.int .i64 (Wa d l),H):=fun k=>by
 rw [Qt (pol:=pol') (g:=g) (F:=Yu) hp (rs:=[.imm .arg 1 (d.map Qb),.imm .arg 1 (l.map hvI)]) (by simp only [mapO,JN,hv]) (res:=.int .i64 (Wa d l)) (by simp only [Yu,rlF,QH Wv,QH WL];rw [if_pos ⟨h1,h2,h3⟩])];rfl
theorem QcE:Try.f34.results.toList=[.tmp 4,.tmp 5]:=by kernel_rfl
theorem Qbh:QN Tp 34 Xu:=by
 refine Qp (pol:=polN) (fn:=Try.f34) (cd:=B34) Qi QcD (by kernel_rfl) (by kernel_rfl) (Jj polN.prim _ _ (by kernel_rfl)) (by kernel_rfl) ?_
 intro args res h
 obtain ⟨d,l,rfl,hq⟩:=D5 h
 clear h
 split at hq
 ·rename_i hc
  cases hq
  by_cases c1:okD d
  ·have m1:=Wl (pol':=polN) (by kernel_rfl) hc.1 hc.2.1 [] true (Jz c1)
   by_cases c2:KH d.length l=true
   ·rw [if_pos ⟨c1,c2⟩]
    have m2:=Uw (pol':=polN) (by kernel_rfl) c1.1.1 hc.2.2 [] true c2
    have m3:=Qbg (pol':=polN) (g:=56) (by kernel_rfl) c1 (trOk_iff.1 c2).2.2.1 hc.2.2 (X1 [] l)
    exact ⟨_,_,_,_,QoK (d.map Qb) (l.map hvI) _ m1 m2 m3,by simp,by simp only [Qf,QcE];rfl,rfl⟩
   ·rw [if_neg (fun h=>c2 h.2)]
    have m2:=Uw (pol':=polN) (by kernel_rfl) c1.1.1 hc.2.2 [] false (Jy c2)
    exact ⟨_,_,_,_,QoL (d.map Qb) (l.map hvI) m1 m2,by simp,by simp only [Qf,QcE];rfl,rfl⟩
  ·rw [if_neg (fun h=>c1 h.1)]
   have m1:=Wl (pol':=polN) (by kernel_rfl) hc.1 hc.2.1 [] false (ZD c1)
   exact ⟨_,_,_,_,QoM (d.map Qb) (l.map hvI) m1,by simp,by simp only [Qf,QcE];rfl,rfl⟩
 ·cases hq
theorem QcF {l:List Int} {i j:Nat} (h:i≤j) (hj:j<l.length):(Qcg l i j).length=l.length:=by
 simp only [Qcg,List.length_append,qI,List.length_reverse,zA]
 omega
theorem QcG {l:List Int} {i j:Nat} (h:i≤j) (hj:j<l.length) (k:Nat):(Qcg l i j)[k]?=if i≤k∧k≤j then l[i+j-k]? else l[k]?:=by
 unfold Qcg
 by_cases c1:k<i
 ·rw [qL (by simp;omega),qM,if_pos c1,if_neg (by omega)]
 ·rw [qQ (by simp;omega),qI,zB (by omega)]
  by_cases c2:k≤j
  ·rw [if_pos ⟨by omega,c2⟩,qL (by simp;omega),List.getElem?_reverse (by simp;omega),qI,zA,zB (by omega),qM,if_pos (by omega),List.getElem?_drop]
   congr 1
   omega
  ·rw [if_neg (by omega),qQ (by simp;omega),List.length_reverse,qI,zA,zB (by omega),List.getElem?_drop]
   congr 1
   omega
theorem QnH:Try.f52.results.toList=[.tmp 2]:=by kernel_rfl
theorem Qbi (v:Int) (l:List Int) (hl:(v::l).length≤1000):∃k,Qa Tp pol k 52 [.imm .arg 1 ((v::l).map hvI)] []=some (.sl 0 0 (v::l).length none (v::l).length 1,[bI (v::l)]):=by
 have hb:∀(l:List Int),bndL (l.map hvI)=0:=by
  intro l
  induction l with
  | nil=>rfl
  | cons a l ih=>simp only [qG,bndL,ih,hvI,bnd];rfl
 have hap:WV [] 1 8 (.imm .lit 1 []) ((v::l).map hvI)=some (.sl 0 0 ((v::l).map hvI).length none ((v::l).map hvI).length 1,[.arr 1 ((v::l).map hvI) true 0]):=by
  have hne:(v::l).map hvI≠[]:=by simp
  simp only [WV,if_neg hne]
  rw [if_pos ⟨.inr trivial,by simp only [jY,qB,Q0];omega⟩,hb]
  simp
 have hnt:Kd Tp .eql 23 (.imm .arg 1 ((v::l).map hvI))=some (.bool false):=by
  have hu:Tp.underlying 23=some (.slice 3):=u23
  simp only [Kd,hu,KJ,qG,SK]
 obtain ⟨m,h⟩:=QoN ((v::l).map hvI) hnt hap
 obtain ⟨e1,g1,g2⟩:=h m m (qD m) (qD m)
 refine ⟨m+1,?_⟩
 have hrc:=ZX (H:=[bI (v::l)]) (no:=[0]) (b:=0) (k:=1) (m:=(v::l).length) (cap:=none) (els:=(v::l).map hvI) rfl (by simp) (WB (fun r=>Kr 4 r) _)
 have hown:Qu [bI (v::l)] false (.sl 0 0 (v::l).length none (v::l).length 1)=[0]:=rfl
 have hpr:ZI Tp pol (evC Tp pol (Qa Tp pol m) m) 52 Try.f52 B52 [.imm .arg 1 ((v::l).map hvI)]=some (.own 1 ((v::l).map hvI)):=by
  unfold ZI
  have hg1:evC Tp pol (Qa Tp pol m) m 52 B52 (ZS [.imm .arg 1 ((v::l).map hvI)]) []=some (.ret,e1,[bI (v::l)]):=g1
  rw [hg1]
  have hres:Qf Tp Try.f52 e1 [bI (v::l)]=some (.sl 0 0 (v::l).length none (v::l).length 1):=by
   have:=ZM (P:=Tp) (fn:=Try.f52) (K:=pol.keys 52) (e:=e1) (H:=[bI (v::l)]) (by kernel_rfl)
   rw [← this,g2]
   simp only [Qf,QnH,mapO,Q3]
   simp [Env.get]
  simp only [hres]
  show We _ false _=_
  simp only [We,hown,jP,qV,not_false_eq_true,qW,and_self,if_true,WO,hrc]
 have hp:pol.prim 52=none:=by kernel_rfl
 have hs:pol.shared 52=false:=by kernel_rfl
 have hf:Tp.funcs[52]?=some Try.f52:=by kernel_rfl
 have hbd:Try.f52.body=some B52:=by kernel_rfl
 have ha:Qx [] 6 (.imm .arg 1 ((v::l).map hvI))=some (.imm .arg 1 ((v::l).map hvI)):=by
  show argP (.imm .arg 1 ((v::l).map hvI))=_
  simp only [argP,ZY]
 have hno:((v::l).map hvI).any Jd=false:=by
  rw [jN]
  intro v hv
  obtain ⟨k,_,rfl⟩:=List.mem_map.1 hv
  simp [hvI,Jd]
 simp only [Qa,KM,hp,hf,hbd,hs,qS,if_false,mapO,ha]
 have hpc:JS Tp pol (evC Tp pol (Qa Tp pol m) m) 52 Try.f52 B52 [.imm .arg 1 ((v::l).map hvI)]=some (.own 1 ((v::l).map hvI)):=by
  unfold JS
  rw [if_pos (by kernel_rfl)]
  simp only [qG] at hpr ⊢
  exact hpr
 rw [hpc]
 simp only [ZT,Zr,WK,hno,qB]
 rfl
theorem QcH:QN Tp 52 YM:=by
 refine Db (pol:=pol) VI (by kernel_rfl) fun args res h=>?_
 obtain ⟨l,rfl,hq⟩:=D4 h
 clear h
 split at hq
 ·rename_i hl
  cases hq
  cases l with
  | nil=>exact ⟨30,.sl 0 0 0 none 0 1,[.arr 1 [] true 0],false,by kernel_rfl,rfl⟩
  | cons v l =>
   obtain ⟨k,hk⟩:=Qbi v l hl
   exact ⟨k,_,_,false,hk,Qcd (b:=0) rfl rfl⟩
 ·cases hq
structure Rv (o:List Int) (lo n i:Nat) (c:List Int):Prop where
 len:c.length=o.length
 get:∀k,k<o.length→c.getD k 0=if lo≤k∧k<lo+n∧(k<lo+i∨lo+n≤k+i) then o.getD (2*lo+n-1-k) 0 else o.getD k 0
theorem Rv.zero (o:List Int) (lo n:Nat):Rv o lo n 0 o:=⟨rfl,fun k hk=>by rw [if_neg (by omega)]⟩
theorem Cf (o:List Int) (i k:Nat) (v:Int) (hi:i<o.length):(o.set i v).getD k 0=if i=k then v else o.getD k 0:=by
 simp only [qF,jA]
 by_cases e:i=k
 ·subst e;simp [hi]
 ·simp [e]
theorem Rv.step {o c:List Int} {lo n i:Nat} (h:Rv o lo n i c) (hb:lo+n≤o.length) (hi:2*i+1<n):Rv o lo n (i+1) ((c.set (lo+i) (c.getD (lo+(n-1-i)) 0)).set (lo+(n-1-i)) (c.getD (lo+i) 0)):=by
 have hl:=h.len
 refine ⟨by simp [hl],fun k hk=>?_⟩
 rw [Cf _ _ _ _ (by rw [List.length_set];omega),Cf _ _ _ _ (by omega)]
 have e1:=h.get (lo+i) (by omega)
 have e2:=h.get (lo+(n-1-i)) (by omega)
 rw [if_neg (by omega)] at e1 e2
 by_cases c1:lo+(n-1-i)=k
 ·rw [if_pos c1,if_pos (by omega),e1]
  congr 1
  omega
 ·rw [if_neg c1]
  by_cases c2:lo+i=k
  ·rw [if_pos c2,if_pos (by omega),e2]
   congr 1
   omega
  ·rw [if_neg c2,h.get k hk]
   by_cases c3:lo≤k∧k<lo+n∧(k<lo+i∨lo+n≤k+i)
   ·rw [if_pos c3,if_pos (by omega)]
   ·rw [if_neg c3,if_neg (by omega)]
theorem Rv.done {o c:List Int} {lo n i:Nat} (h:Rv o lo n i c) (hn:1≤n) (hb:lo+n≤o.length) (hi:n≤2*i+1):c=Qcg o lo (lo+n-1):=by
 have hr:=QcF (l:=o) (i:=lo) (j:=lo+n-1) (by omega) (by omega)
 apply List.ext_getElem (by rw [hr];exact h.len)
 intro k h1 h2
 have hk:k<o.length:=by rw [← h.len];exact h1
 have e:=h.get k hk
 have e2:=QcG (l:=o) (i:=lo) (j:=lo+n-1) (by omega) (by omega) k
 rw [qC h2] at e2
 rw [← Zt h1,e]
 by_cases c1:lo≤k∧k≤lo+n-1
 ·rw [if_pos c1,qC (by omega)] at e2
  have e3:=Option.some.inj e2
  rw [e3]
  by_cases c2:k<lo+i∨lo+n≤k+i
  ·rw [if_pos ⟨c1.1,by omega,c2⟩,Zt (by omega)]
   congr 1
   omega
  ·rw [if_neg (by omega),Zt hk]
   congr 1
   omega
 ·rw [if_neg c1,qC hk] at e2
  rw [if_neg (by omega),Zt hk]
  exact (Option.some.inj e2).symm
section
variable {d:List (List Int)}
theorem Cg (h:okD d) {l:List Int} (hl:inT d.length l):∀(k j:Nat) (s:Int),j+k=l.length→0≤s→0≤VJ d l k j s
 | 0,_,_,_,h=>h
 | k+1,j,s,hj,hs=>by
  rw [VJ]
  obtain ⟨a,b,ha,hb,⟨a0,a1⟩,⟨b0,b1⟩,hm⟩:=Cd h hl (j:=j) (by omega)
  rw [ha,hb]
  have:=QgJ h a1 b1
  exact Cg h hl k (j+1) _ (by omega) (by omega)
theorem QeA (h:okD d) {l:List Int} (hl:inT d.length l):0≤Wa d l:=Cg h hl _ _ _ (by omega) (Int.le_refl _)
end
theorem QiA (n:Nat):Qo Tp (Qa Tp polI n):=QW _ (fun g f h=>by
 split at h
 ·rename_i hg;cases h;rw [eq_of_beq hg];exact Xz
 split at h
 ·rename_i hg;cases h;rw [eq_of_beq hg];exact S7
 ·cases h) n
open Classical in
noncomputable def D7:List HV→Option HV:=rwF fun R=>if R.length≤1000∧(R.all fun r=>decide (r.length≤1000))=true then some (if okD R then .tuple [.own 1 ((QI R).map hvI),.int .i64 (Wa R (QI R)),.int .i64 0] else .tuple [.own 1 [],.int .i64 0,.int .i64 2]) else none
theorem Dl {H:Heap} {b k:Nat} {cap:Option Nat} {o:List Int} (hb:H[b]?=some (bI o)) (hk:o.length=k) (x e:Int):We H false (.tuple [.sl b 0 k cap k 1,.int .i64 x,.int .i64 e])=some (.tuple [.own 1 (o.map hvI),.int .i64 x,.int .i64 e]):=by
 have hr:=ZX (H:=H) (no:=[b]) (b:=b) (k:=1) (m:=k) (cap:=cap) (els:=o.map hvI) hb (by simpa using hk) (WB (fun r=>Kr 4 r) _)
 have ho:Qu H false (.tuple [.sl b 0 k cap k 1,.int .i64 x,.int .i64 e])=[b]:=by simp [Qu,cellsOf,WQ,hb]
 simp only [We,ho,jP,qV,not_false_eq_true,qW,and_self,if_true,mapO,WO,hr]
 rfl
theorem QeB {H:Heap} {l:List Int} {b m:Nat} {cap:Option Nat} (hm:l.length=m) (hb:H[b]?=some (bI l)):Qx H 6 (.sl b 0 m cap m 1)=some (.imm .arg 1 (l.map hvI)):=Sh hm hb
theorem QgP:Try.f29.results.toList=[.tmp 2,.tmp 3,.tmp 4]:=by kernel_rfl
theorem QcI (H:Heap):YU Tp true true 23 1 [(0,.int .i64 0)] H=some (.sl H.length 0 1 (some 1) 1 1,H++[bI [0]]):=by kernel_rfl
section
variable {d:List (List Int)}
abbrev bsE (d:List (List Int)) (tv y8 y9 y10 y29 y30:HV):Env:=Qac (.imm .arg 1 (d.map Qb)) (.imm .lit 1 []) (.int .i64 0) (.int .i64 0) (.map 0) (.ptr 1 0 0 1) tv y8 y9 y10 y29 y30
abbrev tv4 (m:Nat):HV:=.sl 4 0 m none m 1
structure BI (d:List (List Int)) (v w:Nat) (o:List Int) (tv:HV) (H:Heap):Prop where
 mem:Mem (rsT d) H
 box:H[1]?=some (Qz v w)
 st:(tv=.sl 2 0 1 (some 1) 1 1∧o=[0]∧H.length=3∧H[2]?=some (bI o))∨(tv=tv4 o.length∧H.length=5∧H[4]?=some (bI o))
theorem BI.len {d:List (List Int)} {v w:Nat} {o:List Int} {tv:HV} {H:Heap} (h:BI d v w o tv H):3≤H.length∧H.length≤5∧bnd tv≤H.length:=by
 rcases h.st with ⟨h1,_,h3,_⟩ | ⟨h1,h3,_⟩ <;> rw [h1,h3] <;> simp [bnd]
theorem BI.app {d:List (List Int)} {v w:Nat} {o:List Int} {tv:HV} {H H3:Heap} (h:BI d v w o tv H) (hM:Mem (rsT d) H3) (hl:H3.length=H.length+1) (hs:∀k,2≤k→k<H.length→H3[k]?=H[k]?) (ho:o.length≤500) (x:Int) :
  ∃H4,WV H3 1 8 tv [.int .i64 x]=some (tv4 (o.length+1),H4)∧Mem (rsT d) H4∧H4[1]?=H3[1]?∧H4[4]?=some (bI (o++[x]))∧5≤H4.length:=by
 rcases h.st with ⟨h1,h2,h3,h4⟩ | ⟨h1,h3,h4⟩
 ·have e:=hs 2 (by omega) (by omega)
  rw [h4] at e
  subst h2;subst h1
  refine ⟨H3++[bI ([0]++[x])],?_,hM.app (ZN _) rfl,qL (by omega),?_,by simp;omega⟩
  ·have e4:H3.length=4:=by omega
   simp only [WV,e,e4]
   simp [Q0,bnd,bndL,hvI]
  ·rw [qQ (by omega)];simp [hl,h3]
 ·have e:=hs 4 (by omega) (by omega)
  rw [h4] at e
  subst h1
  have ap:=Z9 (xs:=[x]) e (by simp;omega) (by simp)
  rw [show (o++[x]).length=o.length+1 by simp] at ap
  exact ⟨_,ap,hM.set (by omega) (ZN _) rfl,jH (by omega),jI (by omega),by simp;omega⟩
theorem QnI (hd:okD d) {v w:Nat} {o:List Int} {tv:HV} (hv:v<d.length) (hw:w<2 ^ d.length) (ho:o.length≤500):∀k i H u,i+k=d.length→BI d v w o tv H→pck (okV d v w) k i=some u →
  ∃y9 y10 y29 y30 H',RunsTo Tp polI 29 (sn 16150 B29) (bsE d tv (.int .i64 (rsT d v w)) Ud Ud (.int .i64 (d.length:Int)) (.int .i64 (i:Int))) H
   (.exit 2) (polI.keys 29) (bsE d (tv4 (o.length+1)) (.int .i64 (rsT d v w)) y9 y10 y29 y30) H'∧Mem (rsT d) H'∧H'[1]?=some (Qz u (wo w u:Nat))∧H'[4]?=some (bI (o++[(u:Int)]))∧5≤H'.length:=by
 have hp:=ZZ hd.1.2
 have hn:=hd.1.2
 intro k
 induction k with
 | zero=>intro i H u _ _ h;cases h
 | succ k ih =>
  intro i H u hi hB hq
  rw [pck] at hq
  have bl:=V3 (v:=i) (by omega)
  have bn:=Xy (L:=w) (v:=i) (by omega) (by omega)
  have hl:=hB.len
  have g4:some (Wm (.agg [.int .i64 0,.int .i64 0]) H)=some (.ptr H.length 0 0 1,H++[Qz 0 0]):=by
   rw [show (HV.agg [.int .i64 0,.int .i64 0])=Q5 ((0:Int),(0:Int)) from rfl,Dk]
  have gn0:(H++[Qz 0 0])[H.length]?=some (Qz 0 0):=by rw [qQ (qD _)];simp
  have g5:QM Tp (H++[Qz 0 0]) 77 (.ptr H.length 0 0 1) (.agg [.int .i64 (i:Int),.int .i64 ((wo w i:Nat):Int)])=some (H++[Qz i (wo w i:Nat)]):=by
   have:=Qbf (x:=(i:Int)) (y:=((wo w i:Nat):Int)) gn0
   rw [List.set_append_right _ _ (qD _),Nat.sub_self] at this
   exact this
  have hM0:Mem (rsT d) (H++[Qz 0 0]):=hB.mem.app (Za _ _) rfl
  have l0:Qh Tp (H++[Qz 0 0]) 3 (.ptr 1 0 1 1)=some (.int .i64 (w:Int)):=QU (by rw [qL (by omega)];exact hB.box)
  have gS:(WI ((Qh Tp H 3 (.ptr 1 0 1 1)).map (fun v=>(v,(H:Heap)))) ((Qh Tp (H++[Qz 0 0]) 3 (.ptr 1 0 1 1)).map (fun v=>(v,((H++[Qz 0 0]):Heap)))) H (H++[Qz 0 0])&&true)=true:=by
   rw [QU hB.box,l0]
   simp only [qP,WI,hB.mem.rf,hM0.rf]
   simp [same]
  have hM1:Mem (rsT d) (H++[Qz i (wo w i:Nat)]):=hB.mem.app (Za _ _) rfl
  have low:∀k,k<H.length→(H++[Qz (i:Int) (wo w i:Nat)])[k]?=H[k]?:=fun k hk=>qL hk
  have x1:(H++[Qz i (wo w i:Nat)])[1]?=some (Qz v w):=by rw [low 1 (by omega)];exact hB.box
  have x3:(H++[Qz (i:Int) (wo w i:Nat)])[H.length]?=some (Qz i (wo w i:Nat)):=by rw [qQ (qD _)];simp
  have ll:(H++[Qz (i:Int) (wo w i:Nat)]).length=H.length+1:=by simp
  have cut:∀(H':Heap) (y:HV),Mem (rsT d) H'→bnd y=0→gc H.length (Zm (bsE d tv y Ud Ud (.int .i64 (d.length:Int)) (.int .i64 ((i+1:Nat):Int)))) H'=H'.take H.length:=fun H' y hM' hy=>by
   rw [hM'.gc]
   congr 1
   simp only [Zm,bnd,bndL,hy]
   omega
  by_cases c:w.testBit i=true
  ·have hne:¬((w:Int)=((wo w i:Nat):Int)):=by have:=ZC c;omega
   obtain ⟨H2,hcl,hM2,hF⟩:=Qab hd w i (wo w i) (Xv _ _) (by omega) (by have:=Xv w i;omega) _ hM1
   obtain ⟨N,hN⟩:=CallsTo.from hcl
   have b1:=hd.at hv (j:=i) (by omega)
   have b3:=D2 hd (s:=i) (L:=wo w i) (by omega) (by have:=Xv w i;omega)
   have hwr:qA.wrap (at2 d v i+rsT d i (wo w i))=at2 d v i+rsT d i (wo w i):=Qn (by omega) (by omega)
   have gS2:(WI ((Qh Tp (H++[Qz i (wo w i:Nat)]) 3 (.ptr 1 0 0 1)).map (fun v=>(v,((H++[Qz i (wo w i:Nat)]):Heap)))) ((Qh Tp H2 3 (.ptr 1 0 0 1)).map (fun v=>(v,(H2:Heap)))) (H++[Qz i (wo w i:Nat)]) H2&&((same (.imm .arg 1 ((d.getD v []).map hvI)) (.imm .arg 1 ((d.getD v []).map hvI))&&Qj ((H++[Qz i (wo w i:Nat)]):Heap) (H++[Qz i (wo w i:Nat)])&&Qj (H2:Heap) H2)&&((same (.int .i64 (at2 d v i)) (.int .i64 (at2 d v i))&&Qj ((H++[Qz i (wo w i:Nat)]):Heap) (H++[Qz i (wo w i:Nat)])&&Qj (H2:Heap) H2)&&true)))=true:=by
    have l2:Qh Tp H2 3 (.ptr 1 0 0 1)=some (.int .i64 (v:Int)):=Zb (by rw [hF.same _ (by omega)];exact x1)
    rw [Zb x1,l2]
    simp only [qP,WI,hM1.rf,hM2.rf,Xx]
    simp [same]
   have y1:H2[1]?=some (Qz v w):=by rw [hF.same _ (by omega)];exact x1
   have y3:H2[H.length]?=some (Qz i (wo w i:Nat)):=by rw [hF.same _ (by omega)];exact x3
   have l2:=Qd y1
   by_cases c2:at2 d v i+rsT d i (wo w i)=rsT d v w
   ·have hok:okV d v w i=true:=by simp [okV,c,c2]
    rw [if_pos hok] at hq
    cases hq
    have s3:=Qbf (x:=(i:Int)) (y:=((wo w i:Nat):Int)) y1
    obtain ⟨H4,ap,hM4,z1,z4,z5⟩:=hB.app (H3:=H2.set 1 (Qz i (wo w i:Nat))) (hM2.set (by omega) (Za _ _) rfl) (by simp [hF.len]) (fun k h2 hk=>by rw [jH (by omega),hF.same _ (by omega),low _ hk]) ho (i:Int)
    have s:=Qim N (d.map Qb) tv v w H (rsT d v w) d.length i H.length ((wo w i:Nat):Int) _ _ _ _ _ _ _ H2 _ _ _ (by omega) (QU hB.box) bl bn g4 g5 gS (QU x1) (QU x3) hne (Zb x1) (g22 hv) (g23 hd hv (by omega)) (Kt x3) hN (by rw [hwr,c2]) gS2 (Kt y3) s3 ap
    refine ⟨_,_,_,_,_,lpo s,hM4,?_,z4,z5⟩
    rw [z1,jI (by omega)]
   ·have hok:¬okV d v w i=true:=by simp [okV,c,c2]
    rw [if_neg hok] at hq
    have s:=Qin N (d.map Qb) tv v w H (rsT d v w) d.length i H.length ((wo w i:Nat):Int) _ _ _ _ _ _ _ H2 (by omega) (QU hB.box) bl bn g4 g5 gS (QU x1) (QU x3) hne (Zb x1) (g22 hv) (g23 hd hv (by omega)) (Kt x3) hN (by rw [hwr];exact c2) gS2
    rw [Qc (by omega)] at s
    have tl:(H2.take H.length).length=H.length:=by rw [qI,hF.len,ll];omega
    have tk:∀k,k≠0→k<H.length→(H2.take H.length)[k]?=H[k]?:=fun k h0 hk=>by rw [qM,if_pos hk,hF.same _ h0,low _ hk]
    have hB2:BI d v w o tv (H2.take H.length):=by
     refine ⟨hM2.take (by omega),by rw [tk 1 (by omega) (by omega)];exact hB.box,?_⟩
     rcases hB.st with ⟨h1,h2,h3,h4⟩ | ⟨h1,h3,h4⟩
     ·exact .inl ⟨h1,h2,tl.trans h3,by rw [tk 2 (by omega) (by omega)];exact h4⟩
     ·exact .inr ⟨h1,tl.trans h3,by rw [tk 4 (by omega) (by omega)];exact h4⟩
    obtain ⟨y9,y10,y29,y30,H',r,r2⟩:=ih (i+1) _ u (by omega) hB2 hq
    exact ⟨y9,y10,y29,y30,H',lop s (cut _ _ hM2 rfl) r,r2⟩
  ·have hok:¬okV d v w i=true:=by simp [okV,c]
   rw [if_neg hok] at hq
   have e:wo w i=w:=by unfold wo;rw [if_neg c]
   rw [e] at bn g5 hM1 x1 x3
   have s:=Qil 0 (d.map Qb) tv v w H (rsT d v w) d.length i H.length (w:Int) _ _ _ _ (by omega) (QU hB.box) bl bn g4 g5 gS (QU x1) (QU x3) rfl rfl
   rw [Qc (by omega)] at s
   have ec:=cut _ (.int .i64 (rsT d v w)) hM1 rfl
   have et:(H++[Qz (i:Int) (w:Int)]).take H.length=H:=by rw [List.take_append_of_le_length (qD _),qU (qD _)]
   rw [et] at ec
   obtain ⟨y9,y10,y29,y30,H',r,r2⟩:=ih (i+1) _ u (by omega) hB hq
   exact ⟨y9,y10,y29,y30,H',lop s ec r,r2⟩
theorem QeC (hd:okD d):∀(k v w:Nat) (o:List Int) (tv:HV) (H:Heap),w≤k→v<d.length→w<2 ^ d.length→BI d v w o tv H→o.length+(grd d k v w).length≤500 →
  ∃tb cap H',RT polI 29 (sn 252 B29) (bsE d tv Ud Ud Ud Ud Ud) H (.exit 0) (bsE d (.sl tb 0 (o++grd d k v w).length cap (o++grd d k v w).length 1) Ud Ud Ud Ud Ud) H'∧H'[tb]?=some (bI (o++grd d k v w)):=by
 have h0:∀(v:Nat) (o:List Int) (tv:HV) (H:Heap),BI d v 0 o tv H→∃tb cap H',RT polI 29 (sn 252 B29) (bsE d tv Ud Ud Ud Ud Ud) H (.exit 0) (bsE d (.sl tb 0 (o++[]).length cap (o++[]).length 1) Ud Ud Ud Ud Ud) H'∧H'[tb]?=some (bI (o++[])):=fun v o tv H hB=>by
  rw [List.append_nil]
  have f:=Qii 0 (d.map Qb) tv v 0 H (QU hB.box) (by omega)
  have r:=lpo (sqo f (c:=sn 504 B29) (b:=sn 1009 B29)) (c:=sn 252 B29)
  rcases hB.st with ⟨h1,h2,h3,h4⟩ | ⟨h1,h3,h4⟩
  ·subst h1;subst h2
   exact ⟨2,some 1,H,r,h4⟩
  ·subst h1
   exact ⟨4,none,H,r,h4⟩
 intro k
 induction k with
 | zero =>
  intro v w o tv H hk _ _ hB _
  have:w=0:=by omega
  subst this
  exact h0 v o tv H hB
 | succ k ih =>
  intro v w o tv H hk hv hw hB hl
  by_cases cw:w=0
  ·subst cw
   rw [grd,if_pos rfl]
   exact h0 v o tv H hB
  ·obtain ⟨u,p1,p2,p3,p4⟩:=Qci hd hv hw cw
   have eg:grd d (k+1) v w=(u:Int)::grd d k u (wo w u):=by rw [grd,if_neg cw,p1]
   rw [eg] at hl ⊢
   rw [qO] at hl
   have f:=Qih 0 (d.map Qb) tv v w H (QU hB.box) (by omega)
   obtain ⟨H1,hcl,hM1,hF⟩:=Qab hd w v w (qD _) hv hw _ hB.mem
   obtain ⟨N,hN⟩:=CallsTo.from hcl
   have g:=Qij N (d.map Qb) tv v w H _ H1 (Kt hB.box) hN
   have h:=Qik 0 (d.map Qb) tv v w H1 (rsT d v w)
   rw [qB] at h
   have hB1:BI d v w o tv H1:=by
    refine ⟨hM1,by rw [hF.same _ (by omega)];exact hB.box,?_⟩
    rcases hB.st with ⟨h1,h2,h3,h4⟩ | ⟨h1,h3,h4⟩
    ·exact .inl ⟨h1,h2,hF.len.trans h3,by rw [hF.same _ (by omega)];exact h4⟩
    ·exact .inr ⟨h1,hF.len.trans h3,by rw [hF.same _ (by omega)];exact h4⟩
   obtain ⟨y9,y10,y29,y30,H2,r,r1,r2,r3,r4⟩:=QnI hd hv hw (by omega) d.length 0 H1 u (by omega) hB1 p1
   have r':=lpi (e0:=bsE d tv (.int .i64 (rsT d v w)) Ud Ud (.int .i64 (d.length:Int)) (.int .i64 0)) r (b:=sn 32300 B29)
   have t1:=sq h (bke (c:=sn 8075 B29) r') (c:=sn 4037 B29)
   have t2:=sq g t1 (c:=sn 2018 B29)
   have t3:=RunsTo.block_normal (i:=1) (c:=sn 1009 B29) t2 (by kernel_rfl)
   have t4:=sq f t3 (c:=sn 504 B29)
   have hB2:BI d u (wo w u) (o++[(u:Int)]) (tv4 (o.length+1)) (H2.take 5):=by
    refine ⟨r1.take (by omega),?_,.inr ⟨by simp,by rw [qI];omega,?_⟩⟩
    ·rw [qM,if_pos (by omega)];exact r2
    ·rw [qM,if_pos (by omega)];exact r3
   have ec:gc H.length (Zm (bsE d (tv4 (o.length+1)) Ud Ud Ud Ud Ud)) H2=H2.take 5:=by
    rw [r1.gc]
    congr 1
    have:=hB.len
    simp only [Zm,bnd,bndL]
    omega
   obtain ⟨tb,cap,H',q1,q2⟩:=ih u (wo w u) (o++[(u:Int)]) _ (H2.take 5) (by have:=ZC p3;omega) p2 (by have:=ZC p3;omega) hB2 (by simp;omega)
   rw [List.append_assoc] at q1 q2
   exact ⟨tb,cap,H',lop t4 ec q1,q2⟩
end
theorem QeD:QN Tp 29 D7:=by
 refine Qp (pol:=polI) (fn:=Try.f29) (cd:=B29) Qi QiA (by kernel_rfl) (by kernel_rfl) (Jj polI.prim _ _ (by kernel_rfl)) (by kernel_rfl) ?_
 intro args res h
 obtain ⟨d,rfl,hq⟩:=Vq h
 clear h
 split at hq
 ·rename_i hc
  cases hq
  have a:=Qib 0 (d.map Qb)
  by_cases hd:okD d
  ·rw [if_pos hd]
   have hn:=hd.1
   have hp:=ZZ hd.1.2
   have m1:=Wl (pol':=polI) (by kernel_rfl) hc.1 hc.2 [] true (Jz hd)
   have b:=Qic 0 (d.map Qb) m1
   have c:=Qie 0 (d.map Qb) [] _ rfl
   have h2:2≤2 ^ d.length:=by
    have:=qY (n:=2) (by omega) hn.1
    omega
   have ew:qA.wrap (((2 ^ d.length:Nat):Int)-2)=((2 ^ d.length-2:Nat):Int):=by
    generalize 2 ^ d.length=x at hp h2
    rw [Qn (by omega) (by omega)];omega
   have bl:=V3 (v:=d.length) (by omega)
   have dd:=Qif 0 (d.map Qb) [.map [] [] 0] ((2 ^ d.length:Nat):Int) _ [.map [] [] 0,Qz 0 (2 ^ d.length-2:Nat)] (by rw [qB];exact bl) (by rw [show (HV.agg [.int .i64 0,.int .i64 0])=Q5 ((0:Int),(0:Int)) from rfl,Dk];rfl) (by rw [ew];exact Qbf rfl)
   have e:=Qig 0 (d.map Qb) _ [.map [] [] 0,Qz 0 (2 ^ d.length-2:Nat)] _ (QcI _)
   have hB:BI d 0 (2 ^ d.length-2) [0] (.sl 2 0 1 (some 1) 1 1) [.map [] [] 0,Qz 0 (2 ^ d.length-2:Nat),bI [0]]:=⟨⟨⟨[],rfl⟩,by
    rw [sameH_iff]
    intro B hB
    simp only [qN,qV,or_false] at hB
    rcases hB with rfl | rfl | rfl
    ·rfl
    ·exact Za _ _
    ·exact ZN _,by simp [mxs,Blk.mx]⟩,rfl,.inl ⟨rfl,rfl,rfl,rfl⟩⟩
   have ht:=X3 hd
   obtain ⟨t1,t2,t3,t4⟩:=trOk_iff.1 ht
   have hbl:(QI d).length=1+(grd d (2 ^ d.length) 0 (2 ^ d.length-2)).length:=by simp only [QI,qO];omega
   obtain ⟨tb,cap,H',q1,q2⟩:=QeC hd (2 ^ d.length) 0 (2 ^ d.length-2) [0] _ _ (qX _ _) (by omega) D3 hB (by simp only [qO,jY];omega)
   have eb:[0]++grd d (2 ^ d.length) 0 (2 ^ d.length-2)=QI d:=rfl
   rw [eb] at q1 q2
   have k56:∀k,Qa Tp polI (k+1) 56 [.imm .arg 1 (d.map Qb),.sl tb 0 (QI d).length cap (QI d).length 1] H'=some (.int .i64 (Wa d (QI d)),H'):=fun k=>by
    rw [Qt (pol:=polI) (g:=56) (F:=Yu) (by kernel_rfl) (rs:=[.imm .arg 1 (d.map Qb),.imm .arg 1 ((QI d).map hvI)]) (by simp only [mapO,JN,QeB rfl q2]) (res:=.int .i64 (Wa d (QI d))) (by simp only [Yu,rlF,QH Wv,QH WL];rw [if_pos ⟨hd,t3,by omega⟩])];rfl
   have z:=Qio 0 (d.map Qb) _ H' Ud Ud Ud Ud Ud _ _ k56
   have u1:=sq (bke (c:=sn 126 B29) q1) z (c:=sn 63 B29)
   have u2:=sq e u1 (c:=sn 31 B29)
   have u3:=sq dd u2 (c:=sn 15 B29)
   have u4:=sq c u3 (c:=sn 7 B29)
   have u5:=sq a (sq b u4 (c:=sn 3 B29)) (c:=B29)
   exact ⟨_,_,_,.tuple [.sl tb 0 (QI d).length cap (QI d).length 1,.int .i64 (Wa d (QI d)),.int .i64 0],u5,by simp,by simp only [Qf,QgP];rfl,Dl q2 rfl _ 0⟩
  ·rw [if_neg hd]
   have m1:=Wl (pol':=polI) (by kernel_rfl) hc.1 hc.2 [] false (ZD hd)
   exact ⟨_,_,_,_,sq a (sqo (Qid 0 (d.map Qb) m1) (c:=sn 3 B29) (b:=sn 7 B29)) (c:=B29),by simp,by simp only [Qf,QgP];rfl,rfl⟩
 ·cases hq
def Qae:List HV→Option HV | [.int .i64 _]=>some (.bool false) | _=>none
def ZO (x y:Int):Int:=if x<y then -1 else if y<x then 1 else 0
def JC:List Int→Int
 | []=>0
 | x::l=>if x=0 then JC l else x
def Vr:List HV→Option HV | [.int .i64 x,.int .i64 y]=>some (.int .i64 (ZO x y)) | _=>none
def Sm:List HV→Option HV | [.int .i64 x,.int .i64 y]=>some (.bool (decide (x<y))) | _=>none
def D8:List HV→Option HV:=liF fun l=>if l.length≤1000 then some (.int .i64 (JC l)) else none
def D9:List HV→Option HV
 | [.agg [.int .i64 a,.int .i64 b,.int .i64 c],.agg [.int .i64 d,.int .i64 e,.int .i64 f]]=>some (.int .i64 (JC [ZO a d,ZO b e,ZO c f]))
 | _=>none
def polNa:Pol:={ pol with prim:=fun g=>if g==84 then some Qae else none }
def polCe:Pol:={ pol with prim:=fun g=>if g==79 then some Vr else if g==78 then some D8 else none }
end Go.Proofs.Ytlendaofkmhgmaa
end
section
open Go Go.HL
namespace Go.Proofs.Ytlendaofkmhgmaa
set_option maxRecDepth 100000
set_option linter.unusedSectionVars false
open Go.Proofs.Try renaming prog → Tp
open Go.HL.HV renaming undef → Ud
noncomputable def B84:Code:=Try.f84.body.getD .skip
abbrev QnJ (v0 v2:HV):Env:=[(0,v0),(2,v2)]
theorem QnK (x:Int) (g0:x=x): RT pol 84 (sub [] B84) [(0,.i x)] [] .ret (QnJ (.i x) (.bool false)) [] :=
 hx 0 60 [jB 1 2 [] (congrArg not (decide_eq_true g0))]
noncomputable def B79:Code:=Try.f79.body.getD .skip
abbrev QcJ (v0 v1 v4 v5 v6:HV):Env:=[(0,v0),(1,v1),(4,v4),(5,v5),(6,v6)]
section
variable (x y:Int)
include x y
theorem QnL (g0:∀kf,Qa Tp polNa (kf+1) 84 [.i x] []=some (.bool false,[])) (g1:∀kf,Qa Tp polNa (kf+1) 84 [.i y] []=some (.bool false,[])) (g2:x<y): RT polNa 79 (sub [] B79) [(0,.i x),(1,.i y)] [] .ret (QcJ (.i x) (.i y) (.i (-1)) (.bool false) (.bool false)) [] :=
 hx 0 60 [jD 1 1 g0,jD 2 1 g1,jT 9 2 [] g2]
theorem QnM (g0:∀kf,Qa Tp polNa (kf+1) 84 [.i x] []=some (.bool false,[])) (g1:∀kf,Qa Tp polNa (kf+1) 84 [.i y] []=some (.bool false,[])) (g2:¬(x<y)) (g3:y<x): RT polNa 79 (sub [] B79) [(0,.i x),(1,.i y)] [] .ret (QcJ (.i x) (.i y) (.i 1) (.bool false) (.bool false)) [] :=
 hx 0 60 [jD 1 1 g0,jD 2 1 g1,jF 9 2 [] g2,jT 11 2 [] g3]
theorem QnN (g0:∀kf,Qa Tp polNa (kf+1) 84 [.i x] []=some (.bool false,[])) (g1:∀kf,Qa Tp polNa (kf+1) 84 [.i y] []=some (.bool false,[])) (g2:¬(x<y)) (g3:¬(y<x)): RT polNa 79 (sub [] B79) [(0,.i x),(1,.i y)] [] .ret (QcJ (.i x) (.i y) (.i 0) (.bool false) (.bool false)) [] :=
 hx 0 60 [jD 1 1 g0,jD 2 1 g1,jF 9 2 [] g2,jF 11 2 [] g3]
end
noncomputable def B91:Code:=Try.f91.body.getD .skip
abbrev QgQ (v0 v1 v4:HV):Env:=[(0,v0),(1,v1),(4,v4)]
theorem QnO (x y:Int) (g0:∀kf,Qa Tp polNa (kf+1) 84 [.i x] []=some (.bool false,[])) (g1:x<y): RT polNa 91 (sub [] B91) [(0,.i x),(1,.i y)] [] .ret (QgQ (.i x) (.i y) (.bool true)) [] :=
 hx 0 60 [jD 1 1 g0,jT 1 10 [] g1]
theorem QnP (x y:Int) (g0:∀kf,Qa Tp polNa (kf+1) 84 [.i x] []=some (.bool false,[])) (g1:¬(x<y)): RT polNa 91 (sub [] B91) [(0,.i x),(1,.i y)] [] .ret (QgQ (.i x) (.i y) (.bool false)) [] :=
 hx 0 60 [jD 1 1 g0,jF 1 10 [] g1]
noncomputable def B78:Code:=Try.f78.body.getD .skip
abbrev Dn (v0 v2 v4 v5 v6 v7:HV):Env:=[(0,v0),(2,v2),(4,v4),(5,v5),(6,v6),(7,v7)]
abbrev e78 (la:List HV) (u2 u4 u5:HV):Env:=Dn (.a la) (.i 0) u2 (.a la) u4 u5
section
variable (la:List HV)
include la
theorem QeE:RT pol 78 (sn 2 B78) [(0,.a la)] [] .normal (Dn (.a la) (.i 0) Ud Ud Ud Ud) [] :=
 hx 0 60 []
end
section
variable (la:List HV)
include la
theorem QeF:RT pol 78 (sn 12 B78) (Dn (.a la) (.i 0) Ud Ud Ud Ud) [] .normal (e78 la Ud (.i (la.length:Int)) (.i 0)) [] :=
 hx 0 60 []
theorem QeG (i:Nat) (y4:HV) (x0:Int) (g0:(i:Int)<(la.length:Int)) (g1:IX 23 (.a la) (.n i) (.vptr (.i x0))) (g2:x0=0): RT pol 78 (sn 52 B78) (e78 la y4 (.i (la.length:Int)) (.n i)) [] .normal (e78 la (.i x0) (.i (la.length:Int)) (.i (qA.wrap ((i:Int)+1)))) [] :=
 hx 0 60 [jT 2 0 [] g0,jO 3 0 [] g1,jB 4 1 [] (congrArg not (decide_eq_true g2))]
theorem QeH (i:Nat) (y4:HV) (x0:Int) (g0:(i:Int)<(la.length:Int)) (g1:IX 23 (.a la) (.n i) (.vptr (.i x0))) (g2:¬(x0=0)): RT pol 78 (sn 52 B78) (e78 la y4 (.i (la.length:Int)) (.n i)) [] .ret (Dn (.a la) (.i x0) (.i x0) (.a la) (.i (la.length:Int)) (.n i)) [] :=
 hx 0 60 [jT 2 0 [] g0,jO 3 0 [] g1,jB 4 1 [] (congrArg not (decide_eq_false g2))]
theorem QeI (i:Nat) (y4:HV) (g0:¬((i:Int)<(la.length:Int))): RT pol 78 (sn 52 B78) (e78 la y4 (.i (la.length:Int)) (.n i)) [] (.exit 0) (e78 la y4 (.i (la.length:Int)) (.n i)) [] :=
 hx 0 60 [jF 2 0 [] g0]
theorem QeJ (i:Nat) (y4:HV): RT pol 78 (sn 7 B78) (e78 la y4 (.i (la.length:Int)) (.n i)) [] .ret (e78 la y4 (.i (la.length:Int)) (.n i)) [] :=
 hx 0 60 []
end
noncomputable def B77:Code:=Try.f77.body.getD .skip
abbrev QnQ (v0 v1 v2 v3 v4:HV):Env:=[(0,v0),(1,v1),(2,v2),(3,v3),(4,v4)]
theorem QoO (a b c d e f:Int) (c0:Int) (c1:Int) (c2:Int) (c3:Int) (g0:∀kf,Qa Tp polCe (kf+1) 79 [.i a,.i d] [.arr 3 [.agg [.i a,.i b,.i c]] true 0,.arr 3 [.agg [.i d,.i e,.i f]] true 0]=some (.i c0,[.arr 3 [.agg [.i a,.i b,.i c]] true 0,.arr 3 [.agg [.i d,.i e,.i f]] true 0])) (g1:∀kf,Qa Tp polCe (kf+1) 79 [.i b,.i e] [.arr 3 [.agg [.i a,.i b,.i c]] true 0,.arr 3 [.agg [.i d,.i e,.i f]] true 0]=some (.i c1,[.arr 3 [.agg [.i a,.i b,.i c]] true 0,.arr 3 [.agg [.i d,.i e,.i f]] true 0])) (g2:∀kf,Qa Tp polCe (kf+1) 79 [.i c,.i f] [.arr 3 [.agg [.i a,.i b,.i c]] true 0,.arr 3 [.agg [.i d,.i e,.i f]] true 0]=some (.i c2,[.arr 3 [.agg [.i a,.i b,.i c]] true 0,.arr 3 [.agg [.i d,.i e,.i f]] true 0])) (g3:∀kf,Qa Tp polCe (kf+1) 78 [.imm .lit 1 [.i c0,.i c1,.i c2]] [.arr 3 [.agg [.i a,.i b,.i c]] true 0,.arr 3 [.agg [.i d,.i e,.i f]] true 0]=some (.i c3,[.arr 3 [.agg [.i a,.i b,.i c]] true 0,.arr 3 [.agg [.i d,.i e,.i f]] true 0])) (gS1:((same (.i b) (.i b)&&Qj ([.arr 3 [.agg [.i a,.i b,.i c]] true 0,.arr 3 [.agg [.i d,.i e,.i f]] true 0]:Heap) [.arr 3 [.agg [.i a,.i b,.i c]] true 0,.arr 3 [.agg [.i d,.i e,.i f]] true 0]&&Qj ([.arr 3 [.agg [.i a,.i b,.i c]] true 0,.arr 3 [.agg [.i d,.i e,.i f]] true 0]:Heap) [.arr 3 [.agg [.i a,.i b,.i c]] true 0,.arr 3 [.agg [.i d,.i e,.i f]] true 0])&&((same (.i e) (.i e)&&Qj ([.arr 3 [.agg [.i a,.i b,.i c]] true 0,.arr 3 [.agg [.i d,.i e,.i f]] true 0]:Heap) [.arr 3 [.agg [.i a,.i b,.i c]] true 0,.arr 3 [.agg [.i d,.i e,.i f]] true 0]&&Qj ([.arr 3 [.agg [.i a,.i b,.i c]] true 0,.arr 3 [.agg [.i d,.i e,.i f]] true 0]:Heap) [.arr 3 [.agg [.i a,.i b,.i c]] true 0,.arr 3 [.agg [.i d,.i e,.i f]] true 0])&&((same (.i c) (.i c)&&Qj ([.arr 3 [.agg [.i a,.i b,.i c]] true 0,.arr 3 [.agg [.i d,.i e,.i f]] true 0]:Heap) [.arr 3 [.agg [.i a,.i b,.i c]] true 0,.arr 3 [.agg [.i d,.i e,.i f]] true 0]&&Qj ([.arr 3 [.agg [.i a,.i b,.i c]] true 0,.arr 3 [.agg [.i d,.i e,.i f]] true 0]:Heap) [.arr 3 [.agg [.i a,.i b,.i c]] true 0,.arr 3 [.agg [.i d,.i e,.i f]] true 0])&&((same (.i c) (.i c)&&Qj ([.arr 3 [.agg [.i a,.i b,.i c]] true 0,.arr 3 [.agg [.i d,.i e,.i f]] true 0]:Heap) [.arr 3 [.agg [.i a,.i b,.i c]] true 0,.arr 3 [.agg [.i d,.i e,.i f]] true 0]&&Qj ([.arr 3 [.agg [.i a,.i b,.i c]] true 0,.arr 3 [.agg [.i d,.i e,.i f]] true 0]:Heap) [.arr 3 [.agg [.i a,.i b,.i c]] true 0,.arr 3 [.agg [.i d,.i e,.i f]] true 0])&&((same (.i f) (.i f)&&Qj ([.arr 3 [.agg [.i a,.i b,.i c]] true 0,.arr 3 [.agg [.i d,.i e,.i f]] true 0]:Heap) [.arr 3 [.agg [.i a,.i b,.i c]] true 0,.arr 3 [.agg [.i d,.i e,.i f]] true 0]&&Qj ([.arr 3 [.agg [.i a,.i b,.i c]] true 0,.arr 3 [.agg [.i d,.i e,.i f]] true 0]:Heap) [.arr 3 [.agg [.i a,.i b,.i c]] true 0,.arr 3 [.agg [.i d,.i e,.i f]] true 0])&&((same (.i f) (.i f)&&Qj ([.arr 3 [.agg [.i a,.i b,.i c]] true 0,.arr 3 [.agg [.i d,.i e,.i f]] true 0]:Heap) [.arr 3 [.agg [.i a,.i b,.i c]] true 0,.arr 3 [.agg [.i d,.i e,.i f]] true 0]&&Qj ([.arr 3 [.agg [.i a,.i b,.i c]] true 0,.arr 3 [.agg [.i d,.i e,.i f]] true 0]:Heap) [.arr 3 [.agg [.i a,.i b,.i c]] true 0,.arr 3 [.agg [.i d,.i e,.i f]] true 0])&&true))))))=true): RT polCe 77 (sub [] B77) [(0,.agg [.i a,.i b,.i c]),(1,.agg [.i d,.i e,.i f])] [] .ret (QnQ (.agg [.i a,.i b,.i c]) (.agg [.i d,.i e,.i f]) (.q 0) (.q 1) (.i c3)) [.arr 3 [.agg [.i a,.i b,.i c]] true 0,.arr 3 [.agg [.i d,.i e,.i f]] true 0] :=
 hx 0 60 [jK gS1,jD 1 4 g0,jD 1 9 g1,jD 1 14 g2,jD 1 16 g3]
end Go.Proofs.Ytlendaofkmhgmaa
end
section
open Go Go.HL
namespace Go.Proofs.Ytlendaofkmhgmaa
set_option linter.unusedSectionVars false
open Go.Proofs.Try renaming prog → Tp
open Go.HL.HV renaming undef → Ud
theorem QnR:Try.f84.results.toList=[.tmp 2]:=by kernel_rfl
theorem QcK:Try.f79.results.toList=[.tmp 4]:=by kernel_rfl
theorem QgR:Try.f91.results.toList=[.tmp 4]:=by kernel_rfl
theorem QgS:Try.f78.results.toList=[.tmp 2]:=by kernel_rfl
theorem QnS:Try.f77.results.toList=[.tmp 4]:=by kernel_rfl
theorem QiB:QN Tp 84 Qae:=by
 refine Qp (pol:=pol) (fn:=Try.f84) (cd:=B84) Qi VI (by kernel_rfl) (by kernel_rfl) (Jj pol.prim _ _ (by kernel_rfl)) (by kernel_rfl) ?_
 intro args res h
 unfold Qae at h
 split at h
 ·rename_i x
  cases h
  exact ⟨_,_,_,.bool false,QnK x rfl,by simp,by simp only [Qf,QnR];rfl,rfl⟩
 ·cases h
theorem Qaf (n:Nat):Qo Tp (Qa Tp polNa n):=QW _ (fun g f h=>by
 split at h
 ·rename_i hg;cases h;rw [eq_of_beq hg];exact QiB
 ·cases h) n
theorem Ci (x:Int) (H:Heap):∀kf,Qa Tp polNa (kf+1) 84 [.int .i64 x] H=some (.bool false,H):=fun kf=>by
 rw [Qt (pol:=polNa) (g:=84) (F:=Qae) (by kernel_rfl) (rs:=[.int .i64 x]) rfl (res:=.bool false) rfl];rfl
theorem Sn:QN Tp 79 Vr:=by
 refine Qp (pol:=polNa) (fn:=Try.f79) (cd:=B79) Qi Qaf (by kernel_rfl) (by kernel_rfl) (Jj polNa.prim _ _ (by kernel_rfl)) (by kernel_rfl) ?_
 intro args res h
 unfold Vr at h
 split at h
 ·rename_i x y
  cases h
  unfold ZO
  by_cases c1:x<y
  ·rw [if_pos c1]
   exact ⟨_,_,_,.int .i64 (-1),QnL x y (Ci x []) (Ci y []) c1,by simp,by simp only [Qf,QcK];rfl,rfl⟩
  ·rw [if_neg c1]
   by_cases c2:y<x
   ·rw [if_pos c2]
    exact ⟨_,_,_,.int .i64 1,QnM x y (Ci x []) (Ci y []) c1 c2,by simp,by simp only [Qf,QcK];rfl,rfl⟩
   ·rw [if_neg c2]
    exact ⟨_,_,_,.int .i64 0,QnN x y (Ci x []) (Ci y []) c1 c2,by simp,by simp only [Qf,QcK];rfl,rfl⟩
 ·cases h
theorem QeK:QN Tp 91 Sm:=by
 refine Qp (pol:=polNa) (fn:=Try.f91) (cd:=B91) Qi Qaf (by kernel_rfl) (by kernel_rfl) (Jj polNa.prim _ _ (by kernel_rfl)) (by kernel_rfl) ?_
 intro args res h
 unfold Sm at h
 split at h
 ·rename_i x y
  cases h
  by_cases c1:x<y
  ·rw [decide_eq_true c1]
   exact ⟨_,_,_,.bool true,QnO x y (Ci x []) c1,by simp,by simp only [Qf,QgR];rfl,rfl⟩
  ·rw [decide_eq_false c1]
   exact ⟨_,_,_,.bool false,QnP x y (Ci x []) c1,by simp,by simp only [Qf,QgR];rfl,rfl⟩
 ·cases h
theorem QcL {l:List Int} (hl:l.length≤1000):∀k i (y4:HV),i+k=l.length→∃x E,RT pol 78 (sn 26 B78) (Dn (.a (l.map hvI)) (.i 0) Ud (.a (l.map hvI)) (.i ((l.map hvI).length:Int)) (.i (i:Int))) [] x E [] ∧
  ((x=.ret∧E.get 2=.int .i64 (JC (l.drop i)))∨(x=.exit 0∧(∃y4:HV,E=Dn (.imm .arg 1 (l.map hvI)) (.int .i64 0) y4 (.imm .arg 1 (l.map hvI)) (.int .i64 ((l.map hvI).length:Int)) (.int .i64 ((l.length:Nat):Int)))∧JC (l.drop i)=0)):=by
 intro k
 induction k with
 | zero =>
  intro i y4 hi
  have:i=l.length:=by omega
  subst this
  exact ⟨_,_,lpo (QeI (l.map hvI) l.length Ud (by simp)),.inr ⟨rfl,⟨_,rfl⟩,by simp [JC]⟩⟩
 | succ k ih =>
  intro i y4 hi
  have g:=gx (l:=l) (y:=i) (by omega)
  have hd:l.drop i=l.getD i 0::l.drop (i+1):=by
   rw [qZ (by omega)]
   simp [qF,qC (show i<l.length by omega)]
  by_cases c:l.getD i 0=0
  ·have s:=QeG (l.map hvI) i Ud _ (by rw [qB];omega) g c
   rw [Qc (by omega)] at s
   obtain ⟨x,E,r,q⟩:=ih (i+1) Ud (by omega)
   have e:JC (l.drop i)=JC (l.drop (i+1)):=by rw [hd,JC,if_pos c]
   rw [e]
   exact ⟨x,E,lop s rfl r,q⟩
  ·have s:=QeH (l.map hvI) i Ud _ (by rw [qB];omega) g c
   have e:JC (l.drop i)=l.getD i 0:=by rw [hd,JC,if_neg c]
   exact ⟨_,_,lpo s,.inl ⟨rfl,by rw [e];rfl⟩⟩
theorem QcM:QN Tp 78 D8:=by
 refine Qp (pol:=pol) (fn:=Try.f78) (cd:=B78) Qi VI (by kernel_rfl) (by kernel_rfl) (Jj pol.prim _ _ (by kernel_rfl)) (by kernel_rfl) ?_
 intro args res h
 obtain ⟨l,rfl,hq⟩:=D4 h
 clear h
 split at hq
 ·rename_i hl
  cases hq
  obtain ⟨x,E,r,q⟩:=QcL hl l.length 0 Ud (by omega)
  have a:=QeE (l.map hvI)
  have b:=QeF (l.map hvI)
  rcases q with ⟨rfl,q⟩ | ⟨rfl,⟨y4,rfl⟩,q⟩
  ·have t1:=sq b (RunsTo.block_ret (i:=0) (c:=sn 13 B78) r (by kernel_rfl)) (c:=sn 6 B78)
   have t2:=sq a (sqo t1 (c:=sn 3 B78) (b:=sn 7 B78)) (c:=B78)
   exact ⟨_,_,_,.int .i64 (JC l),t2,by simp,by simp only [Qf,QgS,mapO,Q3,q];rfl,rfl⟩
  ·have t1:=sq b (bke (c:=sn 13 B78) r) (c:=sn 6 B78)
   have z:=QeJ (l.map hvI) l.length y4
   have t2:=sq a (sq t1 z (c:=sn 3 B78)) (c:=B78)
   rw [jU] at q
   rw [q]
   exact ⟨_,_,_,.int .i64 0,t2,by simp,by simp only [Qf,QgS];rfl,rfl⟩
 ·cases hq
theorem QeL (n:Nat):Qo Tp (Qa Tp polCe n):=QW _ (fun g f h=>by
 split at h
 ·rename_i hg;cases h;rw [eq_of_beq hg];exact Sn
 split at h
 ·rename_i hg;cases h;rw [eq_of_beq hg];exact QcM
 ·cases h) n
theorem QiC (x y:Int) (H:Heap):∀kf,Qa Tp polCe (kf+1) 79 [.int .i64 x,.int .i64 y] H=some (.int .i64 (ZO x y),H):=fun kf=>by
 rw [Qt (pol:=polCe) (g:=79) (F:=Vr) (by kernel_rfl) (rs:=[.int .i64 x,.int .i64 y]) rfl (res:=.int .i64 (ZO x y)) rfl];rfl
theorem QeM:QN Tp 77 D9:=by
 refine Qp (pol:=polCe) (fn:=Try.f77) (cd:=B77) Qi QeL (by kernel_rfl) (by kernel_rfl) (Jj polCe.prim _ _ (by kernel_rfl)) (by kernel_rfl) ?_
 intro args res h
 unfold D9 at h
 split at h
 ·rename_i a b c d e f
  cases h
  have s:=QoO a b c d e f _ _ _ (JC [ZO a d,ZO b e,ZO c f]) (QiC a d _) (QiC b e _) (QiC c f _) (fun kf=>by
   rw [Qt (pol:=polCe) (g:=78) (F:=D8) (by kernel_rfl) (rs:=[.imm .arg 1 [.int .i64 (ZO a d),.int .i64 (ZO b e),.int .i64 (ZO c f)]]) rfl (res:=.int .i64 (JC [ZO a d,ZO b e,ZO c f])) rfl];rfl) (by simp [same,sameL,Qj])
  exact ⟨_,_,_,.int .i64 (JC [ZO a d,ZO b e,ZO c f]),s,by simp,by simp only [Qf,QnS];rfl,rfl⟩
 ·cases h
end Go.Proofs.Ytlendaofkmhgmaa
end
section
namespace Go.HL.So
variable {α:Type} [Inhabited α]
set_option linter.unusedSectionVars false
open Go.Proofs.Try renaming prog → Tp
open Go.HL.HV renaming undef → Ud
abbrev at_ (l:List α) (i:Nat):α:=l.getD i default
def swp (l:List α) (i j:Nat):List α:=(l.set i (at_ l j)).set j (at_ l i)
theorem Jk (l:List α) (i j:Nat):(swp l i j).length=l.length:=by simp [swp]
theorem QcN (l:List α) (i k:Nat) (v:α) (hi:i<l.length):at_ (l.set i v) k=if i=k then v else at_ l k:=by
 simp only [at_,qF,jA,hi]
 split
 ·rename_i e;subst e;simp
 ·rfl
theorem Zz {l:List α} {i j:Nat} (hi:i<l.length) (hj:j<l.length) (k:Nat):at_ (swp l i j) k=if k=j then at_ l i else if k=i then at_ l j else at_ l k:=by
 unfold swp
 rw [QcN (l.set i (at_ l j)) j k (at_ l i) (by simpa using hj),QcN l i k (at_ l j) hi]
 by_cases e:j=k
 ·subst e;simp
 ·have e':¬k=j:=fun h=>e h.symm
  rw [if_neg e,if_neg e']
  by_cases e2:i=k
  ·subst e2;simp
  ·have e2':¬k=i:=fun h=>e2 h.symm
   rw [if_neg e2,if_neg e2']
theorem QcO {l:List α} {i j:Nat} (hi:i<l.length) (hj:j<l.length):(swp l i j).Perm l:=by
 have h:=Array.swap_perm (xs:=l.toArray) (i:=i) (j:=j) (by simpa using hi) (by simpa using hj)
 have h2:=h.toList
 rw [Array.toList_swap] at h2
 simpa [swp,at_,qF,qC hi,qC hj] using h2
inductive Sw (a b:Nat) (l:List α):List α→Prop
 | refl:Sw a b l l
 | step {l':List α} {i j:Nat}:Sw a b l l'→a≤i→i<b→a≤j→j<b→Sw a b l (swp l' i j)
theorem Sw.len {a b:Nat} {l l':List α} (h:Sw a b l l'):l'.length=l.length:=by
 induction h with
 | refl=>rfl
 | step h1 _ _ _ _ ih=>rw [Jk,ih]
theorem Sw.trans {a b:Nat} {l l' l'':List α} (h:Sw a b l l') (h':Sw a b l' l''):Sw a b l l'':=by
 induction h' with
 | refl=>exact h
 | step _ h1 h2 h3 h4 ih=>exact ih.step h1 h2 h3 h4
theorem Sw.one {a b i j:Nat} {l:List α} (h1:a≤i) (h2:i<b) (h3:a≤j) (h4:j<b):Sw a b l (swp l i j):=Sw.refl.step h1 h2 h3 h4
theorem Sw.mono {a b a' b':Nat} {l l':List α} (h:Sw a b l l') (ha:a'≤a) (hb:b≤b'):Sw a' b' l l':=by
 induction h with
 | refl=>exact .refl
 | step _ h1 h2 h3 h4 ih=>exact ih.step (by omega) (by omega) (by omega) (by omega)
theorem Sw.perm {a b:Nat} {l l':List α} (h:Sw a b l l') (hb:b≤l.length):l'.Perm l:=by
 induction h with
 | refl=>exact List.Perm.refl _
 | step h1 h2 h3 h4 h5 ih=>exact (QcO (by rw [h1.len];omega) (by rw [h1.len];omega)).trans ih
theorem Sw.out {a b:Nat} {l l':List α} (h:Sw a b l l') (hb:b≤l.length) {k:Nat} (hk:k<a∨b≤k):at_ l' k=at_ l k:=by
 induction h with
 | refl=>rfl
 | step h1 h2 h3 h4 h5 ih=>rw [Zz (by rw [h1.len];omega) (by rw [h1.len];omega),if_neg (by omega),if_neg (by omega),ih]
theorem Sw.all {a b:Nat} {l l':List α} (h:Sw a b l l') (hb:b≤l.length) {Q:α→Prop} {lo hi:Nat} (hlo:lo≤a) (hhi:b≤hi) (hQ:∀i,lo≤i→i<hi→Q (at_ l i)):∀i,lo≤i→i<hi→Q (at_ l' i):=by
 induction h with
 | refl=>exact hQ
 | step h1 h2 h3 h4 h5 ih =>
  intro k hk1 hk2
  rw [Zz (by rw [h1.len];omega) (by rw [h1.len];omega)]
  split
  ·exact ih _ (by omega) (by omega)
  ·split
   ·exact ih _ (by omega) (by omega)
   ·exact ih _ hk1 hk2
theorem Sw.mem {a b:Nat} {l l':List α} (h:Sw a b l l') (hb:b≤l.length) {Q:α→Prop} (hQ:∀x∈l,Q x):∀x∈l',Q x:=fun x hx=>hQ x ((h.perm hb).mem_iff.1 hx)
structure Lin (lt:α→α→Prop):Prop where
 tr:∀x y z,¬lt y x→¬lt z y→¬lt z x
 asy:∀x y,lt x y→¬lt y x
def Sorted (lt:α→α→Prop) (a b:Nat) (l:List α):Prop:=∀i j,a≤i→i<j→j<b→¬lt (at_ l j) (at_ l i)
section
variable {lt:α→α→Prop} (hL:Lin lt)
include hL
theorem Lin.rf (x:α):¬lt x x:=fun h=>hL.asy x x h h
def Sp (lt:α→α→Prop) (a i j:Nat) (l:List α):Prop:=∀p q,a≤p→p<q→q<i→q≠j→¬lt (at_ l q) (at_ l p)
omit hL in
theorem Ux {a i:Nat} {l:List α} (h:Sorted lt a i l):Sp lt a (i+1) i l:=fun p q h1 h2 h3 h4=>h p q h1 h2 (by omega)
theorem Do {a i j:Nat} {l:List α} (hi:i≤l.length) (hj:j<i) (ha:a<j) (h:Sp lt a i j l) (hc:lt (at_ l j) (at_ l (j-1))):Sp lt a i (j-1) (swp l j (j-1)):=by
 intro p q h1 h2 h3 h4
 rw [Zz (by omega) (by omega),Zz (by omega) (by omega)]
 have hne:¬q=j-1:=h4
 rw [if_neg hne]
 by_cases eq:q=j
 ·rw [if_pos eq]
  by_cases ep:p=j-1
  ·rw [if_pos ep];exact hL.asy _ _ hc
  ·rw [if_neg ep,if_neg (by omega)]
   exact h p (j-1) h1 (by omega) (by omega) (by omega)
 ·rw [if_neg eq]
  by_cases ep:p=j-1
  ·rw [if_pos ep];exact h j q (by omega) (by omega) h3 eq
  ·rw [if_neg ep]
   by_cases ep2:p=j
   ·rw [if_pos ep2];exact h (j-1) q (by omega) (by omega) h3 eq
   ·rw [if_neg ep2];exact h p q h1 h2 h3 eq
theorem K6 {a i j:Nat} {l:List α} (h:Sp lt a i j l) (hc:j≤a∨¬lt (at_ l j) (at_ l (j-1))):Sorted lt a i l:=by
 intro p q h1 h2 h3
 by_cases e:q=j
 ·subst e
  rcases hc with hc | hc
  ·omega
  ·by_cases ep:p=q-1
   ·subst ep;exact hc
   ·exact hL.tr _ _ _ (h p (q-1) h1 (by omega) (by omega) (by omega)) hc
 ·exact h p q h1 h2 h3 e
def Hp (lt:α→α→Prop) (fi lo hi:Nat) (l:List α):Prop:=∀k c,lo≤k→(c=2*k+1∨c=2*k+2)→c<hi→¬lt (at_ l (fi+k)) (at_ l (fi+c))
def HpX (lt:α→α→Prop) (fi lo hi r:Nat) (l:List α):Prop :=
 (∀k c,lo≤k→k≠r→(c=2*k+1∨c=2*k+2)→c<hi→¬lt (at_ l (fi+k)) (at_ l (fi+c))) ∧
 (∀k c,lo≤k→(r=2*k+1∨r=2*k+2)→(c=2*r+1∨c=2*r+2)→c<hi→¬lt (at_ l (fi+k)) (at_ l (fi+c)))
omit hL in
theorem Qbj {fi lo hi:Nat} {l:List α} (h:Hp lt fi (lo+1) hi l):HpX lt fi lo hi lo l :=
 ⟨fun k c h1 h2 h3 h4=>h k c (by omega) h3 h4,fun k c h1 h2=>by omega⟩
theorem XA {fi lo hi r:Nat} {l:List α} (h:HpX lt fi lo hi r l) (hr:∀c,(c=2*r+1∨c=2*r+2)→c<hi→¬lt (at_ l (fi+r)) (at_ l (fi+c))):Hp lt fi lo hi l:=by
 intro k c h1 h2 h3
 by_cases e:k=r
 ·subst e;exact hr c h2 h3
 ·exact h.1 k c h1 e h2 h3
theorem QcP {fi lo hi r c:Nat} {l:List α} (hb:fi+hi≤l.length) (h:HpX lt fi lo hi r l) (hr:lo≤r) (hc:c=2*r+1∨c=2*r+2) (hch:c<hi) (hm:∀c',(c'=2*r+1∨c'=2*r+2)→c'<hi→¬lt (at_ l (fi+c)) (at_ l (fi+c'))) (hlt:lt (at_ l (fi+r)) (at_ l (fi+c))) :
  HpX lt fi lo hi c (swp l (fi+r) (fi+c)):=by
 have hsw:∀k,at_ (swp l (fi+r) (fi+c)) (fi+k)=if k=c then at_ l (fi+r) else if k=r then at_ l (fi+c) else at_ l (fi+k):=fun k=>by
  rw [Zz (by omega) (by omega)]
  by_cases e:k=c
  ·subst e;simp
  ·rw [if_neg (by omega),if_neg e]
   by_cases e2:k=r
   ·subst e2;simp
   ·rw [if_neg (by omega),if_neg e2]
 refine ⟨fun k c' h1 h2 h3 h4=>?_,fun k c' h1 h2 h3 h4=>?_⟩
 ·rw [hsw,hsw,if_neg h2]
  by_cases ek:k=r
  ·rw [if_pos ek]
   subst ek
   by_cases ec:c'=c
   ·rw [if_pos ec];exact hL.asy _ _ hlt
   ·rw [if_neg ec,if_neg (by omega)];exact hm c' h3 h4
  ·rw [if_neg ek,if_neg (by omega)]
   by_cases ec:c'=r
   ·rw [if_pos ec]
    exact h.2 k c h1 (by omega) hc hch
   ·rw [if_neg ec];exact h.1 k c' h1 ek h3 h4
 ·have hk:k=r:=by omega
  subst hk
  rw [hsw,hsw,if_neg (by omega),if_pos rfl,if_neg (by omega),if_neg (by omega)]
  exact h.1 c c' (by omega) (by omega) h3 h4
theorem QeN {fi hi:Nat} {l:List α} (h:Hp lt fi 0 hi l):∀(m k:Nat),k≤m→k<hi→¬lt (at_ l fi) (at_ l (fi+k)):=by
 intro m
 induction m with
 | zero =>
  intro k hk _
  have:k=0:=by omega
  subst this
  exact hL.rf _
 | succ m ih =>
  intro k hk hlt
  by_cases e:k=0
  ·subst e;exact hL.rf _
  ·have h1:=ih ((k-1)/2) (by omega) (by omega)
   have h2:=h ((k-1)/2) k (qT _) (by omega) hlt
   exact fun h3=>by
    exact hL.tr _ _ _ h2 h1 h3
def Qag (lt:α→α→Prop) (fi hi m:Nat) (l:List α):Prop:=Hp lt fi 0 m l∧(∀p q,m≤p→p<q→q<hi→¬lt (at_ l (fi+q)) (at_ l (fi+p)))∧∀p q,p<m→m≤q→q<hi→¬lt (at_ l (fi+q)) (at_ l (fi+p))
theorem QeO {fi hi m:Nat} {l:List α} (hb:fi+hi≤l.length) (hm:m+1≤hi) (h:Qag lt fi hi (m+1) l) :
  Hp lt fi 1 m (swp l fi (fi+m))∧(∀p q,m≤p→p<q→q<hi→¬lt (at_ (swp l fi (fi+m)) (fi+q)) (at_ (swp l fi (fi+m)) (fi+p)))∧∀p q,p<m→m≤q→q<hi→¬lt (at_ (swp l fi (fi+m)) (fi+q)) (at_ (swp l fi (fi+m)) (fi+p)):=by
 obtain ⟨h1,h2,h3⟩:=h
 have hsw:∀k,at_ (swp l fi (fi+m)) (fi+k)=if k=m then at_ l fi else if k=0 then at_ l (fi+m) else at_ l (fi+k):=fun k=>by
  rw [Zz (by omega) (by omega)]
  by_cases e:k=m
  ·subst e;simp
  ·rw [if_neg (by omega),if_neg e]
   by_cases e2:k=0
   ·subst e2;simp
   ·rw [if_neg (by omega),if_neg e2]
 refine ⟨fun k c q1 q2 q3=>?_,fun p q q1 q2 q3=>?_,fun p q q1 q2 q3=>?_⟩
 ·rw [hsw,hsw,if_neg (by omega),if_neg (by omega),if_neg (by omega),if_neg (by omega)]
  exact h1 k c (by omega) q2 (by omega)
 ·rw [hsw q,if_neg (by omega),if_neg (by omega),hsw]
  by_cases e:p=m
  ·rw [if_pos e]
   have:=h3 0 q (by omega) (by omega) q3
   simpa using this
  ·rw [if_neg e,if_neg (by omega)];exact h2 p q (by omega) q2 q3
 ·rw [hsw p,if_neg (by omega),hsw]
  have key:∀x,(∃k,k<m+1∧x=at_ l (fi+k))→¬lt (at_ l fi) x:=by
   rintro x ⟨k,hk,rfl⟩
   exact QeN hL h1 k k (qD _) hk
  have hx:∃k,k<m+1∧(if p=0 then at_ l (fi+m) else at_ l (fi+p))=at_ l (fi+k):=by
   by_cases e:p=0
   ·exact ⟨m,by omega,by rw [if_pos e]⟩
   ·exact ⟨p,by omega,by rw [if_neg e]⟩
  by_cases e:q=m
  ·rw [if_pos e];exact key _ hx
  ·rw [if_neg e,if_neg (by omega)]
   obtain ⟨k,hk,e2⟩:=hx
   rw [e2]
   exact h3 k q hk (by omega) q3
end
end Go.HL.So
end
section
open Go Go.HL
namespace Go.Proofs.Ytlendaofkmhgmaa
set_option linter.unusedSectionVars false
open Go.Proofs.Try renaming prog → Tp
open Go.HL.HV renaming undef → Ud
noncomputable def QeP:HV:=match sub [1,1,1,1,0] (Try.f95.body.getD .skip) with
 | .region _ ops _=>(match ops[3]? with | some o=>(match o.op with | .index _ x _=>Qk [] x | _=>Ud) | none=>Ud)
 | _=>Ud
def bl:Nat→Nat→Nat
 | 0,_=>0
 | k+1,y=>if y=0 then 0 else 1+bl k (y/2)
noncomputable def QnT:Bool:=(qJ 256).all fun y=>(match Yb Tp 9 QeP (.int .u8 (y:Int)) with | some (.int .u8 z)=>decide (z=(bl 8 y:Int)) | _=>false)&&decide (y<2 ^ bl 8 y)&&(decide (y=0)||decide (2 ^ bl 8 y≤2*y))&&decide (bl 8 y≤8)
theorem Sq:QnT=true:=by kernel_rfl
def ZP (x:Nat):Nat:=if x<256 then bl 8 x else 8+bl 8 (x/256)
theorem Ga {y:Nat} (hy:y<256):Yb Tp 9 QeP (.int .u8 (y:Int))=some (.int .u8 (bl 8 y:Int))∧y<2 ^ bl 8 y∧(0<y→2 ^ bl 8 y≤2*y)∧bl 8 y≤8:=by
 have h:=List.all_eq_true.1 Sq y (List.mem_range.2 hy)
 simp only [qH,Bool.or_eq_true,decide_eq_true_eq] at h
 obtain ⟨⟨⟨h1,h2⟩,h3⟩,h4⟩:=h
 refine ⟨?_,h2,fun h0=>h3.resolve_left (by omega),h4⟩
 split at h1
 ·rename_i z hz
  rw [hz,of_decide_eq_true h1]
 ·cases h1
theorem Gb {x:Nat} (hx:x<65536):(0<x→x<2 ^ ZP x∧2 ^ ZP x≤2*x)∧ZP x≤16:=by
 unfold ZP
 split
 ·rename_i c
  obtain ⟨_,h2,h3,h4⟩:=Ga c
  exact ⟨fun h=>⟨h2,h3 h⟩,by omega⟩
 ·rename_i c
  obtain ⟨_,h2,h3,h4⟩:=Ga (y:=x/256) (by omega)
  have h5:=h3 (by omega)
  rw [Nat.pow_add]
  generalize 2 ^ bl 8 (x/256)=p at h2 h5
  exact ⟨fun h=>by omega,by omega⟩
def KC:List HV→Option HV
 | [.int .u64 x]=>if 0≤x∧x<65536 then some (.int .i64 (ZP x.toNat:Int)) else none
 | _=>none
def XB:List HV→Option HV
 | [.int .i64 x]=>if 0≤x∧x<65536 then some (.int .u64 ((2 ^ ZP x.toNat:Nat):Int)) else none
 | _=>none
def polLb:Pol:={ pol with prim:=fun g=>if g==95 then some KC else none }
def polLc:Pol:={ pol with prim:=fun g=>if g==82 then some KC else none }
end Go.Proofs.Ytlendaofkmhgmaa
end
section
open Go Go.HL
namespace Go.Proofs.Ytlendaofkmhgmaa
set_option maxRecDepth 100000
set_option linter.unusedSectionVars false
open Go.Proofs.Try renaming prog → Tp
open Go.HL.HV renaming undef → Ud
noncomputable def B95:Code:=Try.f95.body.getD .skip
abbrev QgT (v0 v2:HV):Env:=[(0,v0),(2,v2)]
theorem QnU (x:Int) (h0:Int) (z0:Int) (g0:¬(4294967296≤x)) (g1:¬(65536≤x)) (g2:256≤x) (g3:BV .shr 122 (.int .u64 x) (.int .u64 8) (.int .u64 h0)) (g4:Yb Tp 9 QeP (.int .u8 (IntKind.u8.wrap h0))=some (.int .u8 z0)): RT pol 95 (sub [] B95) [(0,.int .u64 x)] [] .ret (QgT (.int .u64 h0) (.i (qA.wrap (8+qA.wrap z0)))) [] :=
 hx 0 60 [jF 1 1 [] g0,jF 4 1 [] g1,jT 7 1 [] g2,jO 8 1 [] g3,jO 10 3 [] g4]
theorem QnV (x:Int) (z0:Int) (g0:¬(4294967296≤x)) (g1:¬(65536≤x)) (g2:¬(256≤x)) (g3:Yb Tp 9 QeP (.int .u8 (IntKind.u8.wrap x))=some (.int .u8 z0)): RT pol 95 (sub [] B95) [(0,.int .u64 x)] [] .ret (QgT (.int .u64 x) (.i (qA.wrap (0+qA.wrap z0)))) [] :=
 hx 0 60 [jF 1 1 [] g0,jF 4 1 [] g1,jF 7 1 [] g2,jO 10 3 [] g3]
noncomputable def B82:Code:=Try.f82.body.getD .skip
abbrev QnW (v0 v2:HV):Env:=[(0,v0),(2,v2)]
theorem QnX (x:Int) (c0:Int) (g0:∀kf,Qa Tp polLb (kf+1) 95 [.int .u64 x] []=some (.i c0,[])): RT polLb 82 (sub [] B82) [(0,.int .u64 x)] [] .ret (QnW (.int .u64 x) (.i c0)) [] :=
 hx 0 60 [jD 2 1 g0]
noncomputable def QnY:Code:=Try.f105.body.getD .skip
abbrev QiD (v0 v2:HV):Env:=[(0,v0),(2,v2)]
theorem QiE (x:Int) (c0:Int) (h0:Int) (g0:∀kf,Qa Tp polLc (kf+1) 82 [.int .u64 (IntKind.u64.wrap x)] []=some (.i c0,[])) (g1:BV .shl 81 (.int .u64 1) (.i c0) (.int .u64 h0)): RT polLc 105 (sub [] QnY) [(0,.i x)] [] .ret (QiD (.i x) (.int .u64 h0)) [] :=
 hx 0 60 [jD 1 2 g0,jO 1 3 [] g1]
end Go.Proofs.Ytlendaofkmhgmaa
end
section
open Go Go.HL
namespace Go.Proofs.Ytlendaofkmhgmaa
set_option linter.unusedSectionVars false
open Go.Proofs.Try renaming prog → Tp
open Go.HL.HV renaming undef → Ud
theorem QgU:Try.f95.results.toList=[.tmp 2]:=by kernel_rfl
theorem QnZ:Try.f82.results.toList=[.tmp 2]:=by kernel_rfl
theorem QiF:Try.f105.results.toList=[.tmp 2]:=by kernel_rfl
theorem u8w {n:Nat} (h:n<256):IntKind.u8.wrap (n:Int)=(n:Int):=by
 have:IntKind.u8.wrap (n:Int)=(n:Int)%256:=by simp [IntKind.wrap,IntKind.signed,IntKind.bits]
 rw [this];omega
theorem QcQ:QN Tp 95 KC:=by
 refine Qp (pol:=pol) (fn:=Try.f95) (cd:=B95) Qi VI (by kernel_rfl) (by kernel_rfl) (Jj pol.prim _ _ (by kernel_rfl)) (by kernel_rfl) ?_
 intro args res h
 unfold KC at h
 split at h
 ·rename_i x
  split at h
  ·rename_i hx
   cases h
   obtain ⟨n,rfl⟩:∃n:Nat,x=(n:Int):=⟨x.toNat,by omega⟩
   rw [qE]
   unfold ZP
   split
   ·rename_i c
    obtain ⟨h1,_,_,h4⟩:=Ga c
    have t:=QnV (n:Int) (bl 8 n:Int) (by omega) (by omega) (by omega) (by rw [u8w c];exact h1)
    rw [Qn (n:=(bl 8 n:Int)) (by omega) (by omega),Qn (by omega) (by omega),Int.zero_add] at t
    exact ⟨_,_,_,.int .i64 (bl 8 n:Int),t,by simp,by simp only [Qf,QgU];rfl,rfl⟩
   ·rename_i c
    obtain ⟨h1,_,_,h4⟩:=Ga (y:=n/256) (by omega)
    have hs:ZF Tp .shr 122 (.int .u64 (n:Int)) (.int .u64 8)=some (.int .u64 ((n/256:Nat):Int)):=by
     have e:ZF Tp .shr 122 (.int .u64 (n:Int)) (.int .u64 8)=some (.int .u64 ((n:Int).fdiv (2 ^ min (8:Int).toNat 64))):=rfl
     rw [e]
     have:((n:Int).fdiv (2 ^ min (8:Int).toNat 64))=((n/256:Nat):Int):=by
      rw [show ((2:Int) ^ min (8:Int).toNat 64)=((256:Nat):Int) by decide,zD _ (jZ _)]
      rfl
     rw [this]
    have t:=QnU (n:Int) _ (bl 8 (n/256):Int) (by omega) (by omega) (by omega) hs (by rw [u8w (by omega)];exact h1)
    rw [Qn (n:=(bl 8 (n/256):Int)) (by omega) (by omega),Qn (by omega) (by omega),show (8:Int)+(bl 8 (n/256):Int)=((8+bl 8 (n/256):Nat):Int) by omega] at t
    exact ⟨_,_,_,.int .i64 ((8+bl 8 (n/256):Nat):Int),t,by simp,by simp only [Qf,QgU];rfl,rfl⟩
  ·cases h
 ·cases h
theorem QeQ (n:Nat):Qo Tp (Qa Tp polLb n):=QW _ (fun g f h=>by
 split at h
 ·rename_i hg;cases h;rw [eq_of_beq hg];exact QcQ
 ·cases h) n
theorem Cj:QN Tp 82 KC:=by
 refine Qp (pol:=polLb) (fn:=Try.f82) (cd:=B82) Qi QeQ (by kernel_rfl) (by kernel_rfl) (Jj polLb.prim _ _ (by kernel_rfl)) (by kernel_rfl) ?_
 intro args res h
 have h':=h
 unfold KC at h
 split at h
 ·rename_i x
  split at h
  ·rename_i hx
   cases h
   have t:=QnX x _ (fun kf=>by
    rw [Qt (pol:=polLb) (g:=95) (F:=KC) (by kernel_rfl) (rs:=[.int .u64 x]) rfl h'];rfl)
   exact ⟨_,_,_,.int .i64 (ZP x.toNat:Int),t,by simp,by simp only [Qf,QnZ];rfl,rfl⟩
  ·cases h
 ·cases h
theorem QeR (n:Nat):Qo Tp (Qa Tp polLc n):=QW _ (fun g f h=>by
 split at h
 ·rename_i hg;cases h;rw [eq_of_beq hg];exact Cj
 ·cases h) n
theorem QeS:QN Tp 105 XB:=by
 refine Qp (pol:=polLc) (fn:=Try.f105) (cd:=QnY) Qi QeR (by kernel_rfl) (by kernel_rfl) (Jj polLc.prim _ _ (by kernel_rfl)) (by kernel_rfl) ?_
 intro args res h
 unfold XB at h
 split at h
 ·rename_i x
  split at h
  ·rename_i hx
   cases h
   obtain ⟨n,rfl⟩:∃n:Nat,x=(n:Int):=⟨x.toNat,by omega⟩
   rw [qE]
   have hl:=(Gb (x:=n) (by omega)).2
   have hu:IntKind.u64.wrap (n:Int)=(n:Int):=by rw [JG];omega
   have hs:ZF Tp .shl 81 (.int .u64 1) (.int .i64 (ZP n:Int))=some (.int .u64 ((2 ^ ZP n:Nat):Int)):=by
    have e:ZF Tp .shl 81 (.int .u64 1) (.int .i64 (ZP n:Int))=if (ZP n:Int)<0 then none else some (.int .u64 (IntKind.u64.wrap (1*2 ^ min (ZP n:Int).toNat 64))):=rfl
    rw [e,if_neg (by omega),qE,show min (ZP n) 64=ZP n by omega,Int.one_mul,show ((2:Int) ^ ZP n)=((2 ^ ZP n:Nat):Int) by push_cast;rfl]
    have h2:2 ^ ZP n≤2 ^ 16:=qY (by omega) hl
    have h3:2 ^ ZP n≤65536:=h2
    generalize 2 ^ ZP n=p at h3
    rw [JG,show (p:Int)%18446744073709551616=p by omega]
   have t:=QiE (n:Int) (ZP n:Int) _ (fun kf=>by
    rw [hu,Qt (pol:=polLc) (g:=82) (F:=KC) (by kernel_rfl) (rs:=[.int .u64 (n:Int)]) rfl (res:=.int .i64 (ZP n:Int)) (by simp only [KC];rw [if_pos (by omega),qE])];rfl) hs
   exact ⟨_,_,_,.int .u64 ((2 ^ ZP n:Nat):Int),t,by simp,by simp only [Qf,QiF];rfl,rfl⟩
  ·cases h
 ·cases h
end Go.Proofs.Ytlendaofkmhgmaa
end
section
open Go Go.HL Go.HL.So
namespace Go.Proofs.Ytlendaofkmhgmaa
set_option linter.unusedSectionVars false
open Go.Proofs.Try renaming prog → Tp
open Go.HL.HV renaming undef → Ud
def polSo:Pol:={ pol with prim:=fun g=>if g==77 then some D9 else if g==91 then some Sm else if g==82 then some KC else if g==105 then some XB else none }
theorem QeT (n:Nat):Qo Tp (Qa Tp polSo n):=QW _ (fun g f h=>by
 split at h
 ·rename_i hg;cases h;rw [eq_of_beq hg];exact QeM
 split at h
 ·rename_i hg;cases h;rw [eq_of_beq hg];exact QeK
 split at h
 ·rename_i hg;cases h;rw [eq_of_beq hg];exact Cj
 split at h
 ·rename_i hg;cases h;rw [eq_of_beq hg];exact QeS
 ·cases h) n
theorem RunsTo.block_other {P:Program} {pol:Pol} {f:FuncId} {b c:Code} {e E:Env} {H H':Heap} {x:X} {K:List Nat} {i:Nat} (h:RunsTo P pol f b e H x K E H') (hx:x≠.exit i) (hc:c=.block i b):RunsTo P pol f c e H x K E H':=by
 have:=RunsTo.block hc h
 rwa [if_neg hx] at this
theorem RunsTo.skip {P:Program} {pol:Pol} {f:FuncId} {c:Code} {e E:Env} {H:Heap} {K:List Nat} (hE:restr K e=E) (hc:c=.skip):RunsTo P pol f c e H .normal K E H:=by
 subst hc
 refine ⟨1,fun n k hn _=>⟨e,?_,hE⟩⟩
 obtain ⟨n,rfl⟩:∃m,n=m+1:=⟨n-1,by omega⟩
 rfl
abbrev ClS (g:FuncId) (args:List HV) (H:Heap) (r:HV) (H':Heap):Prop:=CallsTo (P:=Tp) (pol:=polSo) g args H r H'
end Go.Proofs.Ytlendaofkmhgmaa
end
