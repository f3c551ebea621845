/- A part of the proof. -/
import Derived.Test.YtiejmoglooaalaaHlA
import Derived.Test.YtiejmoglooaalaaHlB
import Derived.Test.YtiejmoglooaalaaHlC
import Derived.Test.YtiejmoglooaalaaHlD
import Derived.Test.YtiejmoglooaalaaHlE
import Derived.Test.YtiejmoglooaalaaHlG
import Derived.Test.YtiejmoglooaalaaHlF
import Derived.Shelf.Sort.Plain
import Derived.Shelf.Slices.In.SortNone
import Derived.Test.YtiejmoglooaalaaProg
import Derived.ProofKit
import Derived.Shelf.SlSortCmp.NoneTotal
import Derived.Deep.Slices
import Derived.OpenShut
import Derived.Deep.Strs
set_option linter.unusedVariables false
set_option linter.unusedSimpArgs false
set_option linter.unnecessarySimpa false
open Go.IntKind renaming i64 → qA
open List renaming length_map → qB, getElem?_eq_getElem → qC, getD → qE, replicate → qG, take_of_length_le → qH, getElem?_map → qI, length_take → qJ, map_cons → qK, length_append → qL, getElem?_eq_none → qO, mem_zipIdx_iff_getElem? → qP, length_singleton → qR, mem_of_mem_take → qT, getElem_map → qU, set_append_right → qV, getElem?_append_right → qW, nodup_cons → qY, not_mem_nil → qZ, nodup_nil → jA, take_add_one → jE, length_cons → jG, append_assoc → jH, getElem?_set_self → jJ, getElem?_take_of_lt → jN, takeWhile_append_dropWhile → jP, getElem?_append_left → jQ
open Nat renaming le_refl → qD, lt_or_ge → qM, sub_self → qN, zero_add → qQ, zero_le → qX
open Int renaming toNat_natCast → qF
open Bool renaming and_self → qS, false_eq_true → jI
open Array renaming getElem?_append_left → jU, getElem?_eq_none → jV, getElem?_toList → jW, getElem?_eq_getElem → jX, extract_eq_self_of_le → jY
namespace Go.HL
abbrev HV.i (n:Int):HV:=.int .i64 n
abbrev HV.a (l:List HV):HV:=.imm .arg 1 l
abbrev HV.s (b n:Nat):HV:=.sl b 0 n none n 1
abbrev HV.c (b n:Nat) (cap:Option Nat):HV:=.sl b 0 n cap n 1
abbrev HV.o (b n:Nat):HV:=.sl b 0 n (some n) n 1
abbrev HV.g (l:List HV):HV:=.imm .arg 3 l
abbrev HV.N (n:Int) (l:List HV):HV:=.agg [.int .i64 n,.imm .arg 3 l]
abbrev HV.q (b:Nat):HV:=.ptr b 0 0 1
abbrev HV.n (n:Nat):HV:=.int .i64 (n:Int)
def pb:Nat→Nat→List Nat→List Nat
 | 0,_,a=>a
 | k+1,n,a=>if n<2 then a else pb k (n/2) (n%2::a)
abbrev sn (n:Nat) (c:Code):Code:=sub (pb 60 n []) c
abbrev Blk.b (l:List HV):Blk:=.arr 1 l true 0
section
variable {P:Program} {pol:Pol} {f:FuncId} {c:Code} {e E:Env} {H H':Heap} {x:X} {K:List Nat}
theorem RunsTo.hin (d n:Nat) (hs:List Xo) (h:∀k,d≤k→∃ob,Xa K (KH P pol (Qs P pol (k+1)) n f c e H hs)=some (x,E,H',ob)∧Obls ob):RunsTo P pol f c e H x K E H':=RunsTo.hint (d+1) n hs fun k hk=>by
 obtain ⟨k,rfl⟩:∃n,k=n+1:=⟨k-1,by omega⟩
 exact h k (by omega)
theorem oC {p:Prop} {os:List Prop} (h:p) (t:Obls os):Obls (p::os):=Obls.cons h t
theorem oP (H:Heap) {r:Option HV} {v:HV} {os:List Prop} (h:r=some v) (t:Obls os):Obls ((r.map (fun v=>(v,H))=some (v,H))::os):=Obls.cons (QdK h) t
theorem oS {r:Option Heap} {H:Heap} {os:List Prop} (h:r=some H) (t:Obls os):Obls ((r.map (fun H=>(HV.tuple [],H))=some (.tuple [],H))::os):=Obls.cons (QdL h) t
theorem oB (H:Heap) {p b:Bool} {os:List Prop} (h:p=b) (t:Obls os):Obls ((some (HV.bool p,H)=some (HV.bool b,H))::os):=Obls.cons (Qii h) t
/-- A hint with what is to be shown for it. -/
structure HO (d:Nat) where
 h:Option Xo
 p:Nat→Prop
 q:∀k,d≤k→p k
variable {d:Nat}
def jO (rg i:Nat) (H:Heap) {r:Option HV} {v:HV} (g:r=some v):HO d:=⟨some ⟨rg,i,v,H⟩,fun _=>r.map (fun v=>(v,H))=some (v,H),fun _ _=>QdK g⟩
def jB (rg i:Nat) (H:Heap) {p b:Bool} (g:p=b):HO d:=⟨some ⟨rg,i,.bool b,H⟩,fun _=>some (HV.bool p,H)=some (HV.bool b,H),fun _ _=>Qii g⟩
def jT (rg i:Nat) (H:Heap) {p:Prop} [Decidable p] (g:p):HO d:=jB rg i H (decide_eq_true g)
def jF (rg i:Nat) (H:Heap) {p:Prop} [Decidable p] (g:¬p):HO d:=jB rg i H (decide_eq_false g)
def jS (rg i:Nat) {r:Option Heap} {H:Heap} (g:r=some H):HO d:=⟨some ⟨rg,i,.tuple [],H⟩,fun _=>r.map (fun H=>(HV.tuple [],H))=some (.tuple [],H),fun _ _=>QdL g⟩
def jC (rg i:Nat) {r:Nat→Option (HV×Heap)} {v:HV} {H:Heap} (g:∀k,d≤k→r k=some (v,H)):HO d:=⟨some ⟨rg,i,v,H⟩,fun k=>r k=some (v,H),g⟩
def jD (rg i:Nat) {r:Nat→Option (HV×Heap)} {v:HV} {H:Heap} (g:∀k,r k=some (v,H)):HO d:=⟨some ⟨rg,i,v,H⟩,fun k=>r k=some (v,H),fun k _=>g k⟩
def jR (rg i:Nat) {r:Option (HV×Heap)} {v:HV} {H:Heap} (g:r=some (v,H)):HO d:=⟨some ⟨rg,i,v,H⟩,fun _=>r=some (v,H),fun _ _=>g⟩
def jL {p:Nat→Prop} (g:∀k,p k):HO d:=⟨none,p,fun k _=>g k⟩
def jM {p:Nat→Prop} (g:∀k,d≤k→p k):HO d:=⟨none,p,g⟩
def jK {p:Prop} (g:p):HO d:=⟨none,fun _=>p,fun _ _=>g⟩
theorem HO.all (k:Nat) (hk:d≤k):∀L:List (HO d),Obls (L.map fun o=>o.p k)
 | []=>Obls.nil
 | o::L=>Obls.cons (o.q k hk) (HO.all k hk L)
theorem hx (d n:Nat) (L:List (HO d)) (h:∀k,d≤k→Xa K (KH P pol (Qs P pol (k+1)) n f c e H (L.filterMap fun o=>o.h))=some (x,E,H',L.map fun o=>o.p k):=by intro _ _;kernel_rfl):RunsTo P pol f c e H x K E H':=RunsTo.hin d n _ fun k hk=>⟨_,h k hk,HO.all k hk L⟩
end
end Go.HL
namespace Go.HL
theorem sq {P:Program} {pol:Pol} {f:FuncId} {a b c:Code} {e E1 E:Env} {H H1 H':Heap} {x:X} {K K1:List Nat} (h1:RunsTo P pol f a e H .normal K1 E1 H1) (h2:RunsTo P pol f b E1 H1 x K E H') (hc:c=.seq a b:=by kernel_rfl) (hK:K1=pol.keys f++VK b:=by kernel_rfl):RunsTo P pol f c e H x K E H':=RunsTo.seq h1 h2 hc hK
theorem sqo {P:Program} {pol:Pol} {f:FuncId} {a b c:Code} {e E:Env} {H H':Heap} {x:X} {K:List Nat} (h1:RunsTo P pol f a e H x K E H') (hx:x≠.normal:=by simp) (hc:c=.seq a b:=by kernel_rfl):RunsTo P pol f c e H x K E H':=RunsTo.seq_out h1 hx hc
theorem lpo {P:Program} {pol:Pol} {f:FuncId} {b c:Code} {e E:Env} {H H':Heap} {x:X} {K:List Nat} (h1:RunsTo P pol f b e H x K E H') (hx:x≠.normal:=by simp) (hc:c=.loop b:=by kernel_rfl) (he:Qy pol f b e=e:=by kernel_rfl):RunsTo P pol f c e H x K E H':=RunsTo.loop_out h1 hx hc he
theorem lpi {P:Program} {pol:Pol} {f:FuncId} {b c:Code} {e0 e E:Env} {H H':Heap} {x:X} {K:List Nat} (h:RunsTo P pol f c e H x K E H') (hc:c=.loop b:=by kernel_rfl) (h0:Qy pol f b e0=e:=by kernel_rfl) (he:Qy pol f b e=e:=by kernel_rfl):RunsTo P pol f c e0 H x K E H':=RunsTo.loop_in h hc h0 he
theorem bke {P:Program} {pol:Pol} {f:FuncId} {b c:Code} {e E:Env} {H H':Heap} {K:List Nat} {i:Nat} (h:RunsTo P pol f b e H (.exit i) K E H') (hc:c=.block i b:=by kernel_rfl):RunsTo P pol f c e H .normal K E H':=RunsTo.block_exit h hc
theorem lop {P:Program} {pol:Pol} {f:FuncId} {b c:Code} {e E0 E1 E:Env} {H H1 H2 H':Heap} {x:X} {K K1:List Nat} (h1:RunsTo P pol f b e H .normal K1 E0 H1) (hg:gc H.length (Wc E1) H1=H2) (h2:RunsTo P pol f c E1 H2 x K E H') (hE:Qy pol f b E0=E1:=by kernel_rfl) (hK:K1=pol.keys f:=by rfl) (hc:c=.loop b:=by kernel_rfl) (he:Qy pol f b e=e:=by kernel_rfl):RunsTo P pol f c e H x K E H':=RunsTo.loop h1 hE hg h2 hK hc he
end Go.HL
section
open Go Go.HL
namespace Go.Proofs.Ytiejmoglooaalaa
abbrev LD (H:Heap) (t:TypeId) (a v:HV):Prop:=QK Try.prog H t a=some v
abbrev ST (H:Heap) (t:TypeId) (a v:HV) (H':Heap):Prop:=Wf Try.prog H t a v=some H'
abbrev IX (t:TypeId) (x i v:HV):Prop:=ZI Try.prog t x i=some v
abbrev IO (t:TypeId) (b n i:Nat):Prop:=ZI Try.prog t (.sl b 0 n (some n) n 1) (.int .i64 (i:Int))=some (.ptr b i 0 n)
abbrev IS (t:TypeId) (b n i:Nat):Prop:=ZI Try.prog t (.sl b 0 n none n 1) (.int .i64 (i:Int))=some (.ptr b i 0 n)
abbrev BV (o:BinOp) (t:TypeId) (x y v:HV):Prop:=Um Try.prog o t x y=some v
abbrev RT (pol:Pol) (f:FuncId) (c:Code) (e:Env) (H:Heap) (x:X) (E:Env) (H':Heap):Prop:=RunsTo Try.prog pol f c e H x (pol.keys f) E H'
end Go.Proofs.Ytiejmoglooaalaa
end
section
open Go Go.HL
namespace Go.Proofs.Ytiejmoglooaalaa
set_option linter.unusedSectionVars false
open Go.Proofs.Try renaming prog → Tp
open Go.HL.HV renaming undef → Ud
def Sr:Go.Shelf.Ren:=⟨fun | 189=>41 | 125=>63 | 257=>62 | 128=>84 | 129=>85 | 294=>75 | 295=>76 | 296=>77 | 297=>78 | 298=>79 | 299=>80 | 216=>81 | 300=>82 | 301=>83 | 328=>94 | 329=>95 | 330=>96 | 331=>97 | 332=>98 | 215=>89 | 343=>108 | n=>n,fun | 28=>24 | 3=>3 | 46=>82 | 0=>0 | 51=>114 | 53=>116 | 4=>4 | 183=>108 | 182=>107 | 131=>37 | 5=>5 | 9=>9 | 218=>123 | 222=>127 | 228=>135 | 229=>136 | n=>n,fun | n=>n⟩
theorem QbB:Go.Proofs.Lays.n189 Tp Sr:={
 mixed:=by kernel_rfl
 f125:=Try.func63.trans (congrArg some (by kernel_rfl))
 f128:=Try.func84.trans (congrArg some (by kernel_rfl))
 f129:=Try.func85.trans (congrArg some (by kernel_rfl))
 f189:=Try.func41.trans (congrArg some (by kernel_rfl))
 f215:=Try.func89.trans (congrArg some (by kernel_rfl))
 f216:=Try.func81.trans (congrArg some (by kernel_rfl))
 f257:=Try.func62.trans (congrArg some (by kernel_rfl))
 f294:=Try.func75.trans (congrArg some (by kernel_rfl))
 f295:=Try.func76.trans (congrArg some (by kernel_rfl))
 f296:=Try.func77.trans (congrArg some (by kernel_rfl))
 f297:=Try.func78.trans (congrArg some (by kernel_rfl))
 f298:=Try.func79.trans (congrArg some (by kernel_rfl))
 f299:=Try.func80.trans (congrArg some (by kernel_rfl))
 f300:=Try.func82.trans (congrArg some (by kernel_rfl))
 f301:=Try.func83.trans (congrArg some (by kernel_rfl))
 f328:=Try.func94.trans (congrArg some (by kernel_rfl))
 f329:=Try.func95.trans (congrArg some (by kernel_rfl))
 f330:=Try.func96.trans (congrArg some (by kernel_rfl))
 f331:=Try.func97.trans (congrArg some (by kernel_rfl))
 f332:=Try.func98.trans (congrArg some (by kernel_rfl))
 f343:=Try.func108.trans (congrArg some (by kernel_rfl))
 t0:=Try.underlying0
 a0:=Try.isAgg0
 z0:=Try.sizeOf0
 v0:=Try.zeroValue0
 t3:=Try.underlying3
 a3:=Try.isAgg3
 z3:=Try.sizeOf3
 v3:=Try.zeroValue3
 t4:=Try.underlying4
 a4:=Try.isAgg4
 z4:=Try.sizeOf4
 v4:=Try.zeroValue4
 t5:=Try.underlying5
 a5:=Try.isAgg5
 z5:=Try.sizeOf5
 v5:=Try.zeroValue5
 t9:=Try.underlying9
 a9:=Try.isAgg9
 z9:=Try.sizeOf9
 v9:=Try.zeroValue9
 t28:=Try.underlying24
 a28:=Try.isAgg24
 z28:=Try.sizeOf24
 v28:=Try.zeroValue24
 t46:=Try.underlying82
 a46:=Try.isAgg82
 z46:=Try.sizeOf82
 v46:=Try.zeroValue82
 t51:=Try.underlying114
 a51:=Try.isAgg114
 z51:=Try.sizeOf114
 v51:=Try.zeroValue114
 t53:=Try.underlying116
 a53:=Try.isAgg116
 z53:=Try.sizeOf116
 v53:=Try.zeroValue116
 t131:=Try.underlying37
 a131:=Try.isAgg37
 z131:=Try.sizeOf37
 v131:=Try.zeroValue37
 t182:=Try.underlying107
 a182:=Try.isAgg107
 z182:=Try.sizeOf107
 v182:=Try.zeroValue107
 t183:=Try.underlying108
 a183:=Try.isAgg108
 z183:=Try.sizeOf108
 v183:=Try.zeroValue108
 t218:=Try.underlying123
 a218:=Try.isAgg123
 z218:=Try.sizeOf123
 v218:=Try.zeroValue123
 t222:=Try.underlying127
 a222:=Try.isAgg127
 z222:=Try.sizeOf127
 v222:=Try.zeroValue127
 t228:=Try.underlying135
 a228:=Try.isAgg135
 z228:=Try.sizeOf135
 v228:=Try.zeroValue135
 t229:=Try.underlying136
 a229:=Try.isAgg136
 z229:=Try.sizeOf136
 v229:=Try.zeroValue136 }
theorem Qf4:Qbz Tp 41:=⟨fun blk off cap zs w h1 h2 h3=>Any.slices_Sort_int QbB blk off cap zs w h1 h2 h3,fun p cap w=>Any.slices_Sort_int_none QbB p cap w⟩
theorem QcT:Yg Tp 41 D8:=Sl Qf4
def keysT:List (List Nat):=[[],[],[],[0,1,4,5,6,7,8,9,10,11,12,13,14,15,16],[0,1,2,6,7,8,9,10,11,12,13,14,15,16,17,18,19,21,22,24,25,26,28,29,31,32],[0,1,2,5,6,7,8,9,10,11,13,14,15,16,17,18,19,20,21,22,23,24,25],[0,1,4,5,6,7,8,9,10,11,13,14,15],[0,1,4,5,6,7,9,10,11,12,13,14,15,16,17,18,19,20,21,22,23,24,25],[0,1,2,6,7,8,9,10,11,12,13,14,15,16,17,18,19,20,21,23,24,26,27],[0,1,4,5,6,7,9,10,11,12,14,15,16,17,18,20,21,23],[0,1,2,6,7,8,9,10,11,12,14,15,16,17],[0,1,2,6,7,8,9,10,11,12,13,14,15,16,17,18,19,20],[0,1,2,5,6,7,8,9,10,11,12,13,14,15,16,17,19,20,21],[0,2,3],[0,1,4,5,6,7,8,9],[0,1,4,5,6,7,8,9,10,11,12,13,38,39,40],[0,1,4,5,6,7,9,10,11,12],[0,1,4,5,6],[0,1,2,3,4,5,6,7,8,9,10],[0,1,4,6,7,8,9,10,11,12],[0,1,4,5,6],[0,1,4,5],[0,1,4,5,6],[0,1,4,5,6,7,8,9,10,11],[0,1,4],[0,1,2,6,7,8,9,10],[0,1,4,5,6,7,8],[0,1,2,3,8,9,10,11,12,13,15,40,41,42],[0,1,2,6,7,8],[0,1,2,3,8,9,10,11,12,13],[0,1,4,5,6,7,8,9,10,11,12,13,14,31,32,33],[0,1,4,5,6,8,9,10,11],[0,1,4,5,7,8,9,10,11,12,13],[0,1,2,6,7,8,9,10,11,12,14,15,16,18,50,51,61,62,63],[0,2,3],[0,1,2,6,7,8,9,10,12,14,29,30,31,38,39,40],[0,1,2,6,7,8,9],[0,1,2,6,7,8,9,10,11],[0,1,2,6,7,8,10,11,12,14,15,16],[0,1,2,4,5,6,7],[0,1,2,3,4,5,7,10,11,12],[0,2],[0,1,2,4,5,7,8,9,10],[0,1,2,3,4,5,6,7,8,9,10,12,14,15,29,30,38,39,40,49,50,51],[0,1,2,4,5,6,7,8,9,10,11,16,17,18],[0,1,2,6,7],[0,2,3,4],[0,2,3,4,5,6],[0,1,2,3,8,9,10,11,12,13,14,15,16,17,18,19,20,21,22,23,24,25,26,27],[0,1,2,6,7,8,9,10],[0,1,2,6,7,8,9,10,11,12,13],[0,1,4,5],[0,1,2,6],[0,1,2,5],[0,1,2,3,4,7,8],[0,1,4],[0,1,2,6,7,8],[0,1,2,4,5,6,7,9,11,12,13],[0,1,2,4,5,6,8,9,10,11],[0,1,2,3,6,7,9,10,11,21,22,23],[0,1,2,3],[0,1,4],[0,1,2,3,8,9,10,11,12,13,14,15,16,17,18],[0,2],[0,1,2],[0,1,2,3,4,5,9,10,11,12,13,14,15,16,17,18,20,21,22,23,25,26,31,32,60,61,72,73,74],[0,1,4,5,6,7,8,9,10,11,12,13,14,15,16,17,18],[0,1,2,6,7],[0,1,4],[0,1,2,5],[0,2,4,5,6,7],[0,1,4,5,6],[0,1,3,4],[0,1,4],[0,1,4,5,7,8],[0,1,2,6,7],[0,1,2,6,7,8,9,10],[0,1,2,6,7,8,9,10],[0,1,2,6,7,8,9,10,11,12,49],[0,1,2,6,7],[0,1,2,6,7,8,9,10],[0,1,4],[0,1,2,3,8,9,10],[0,1,2,3,8,9,10,11],[0,2],[0,2],[0,1,2,3,4,5],[0,1,4,5,6,7,8,9,10,11,13,14],[0,1,2,3,4,10,11,12,13,14,15,16,17,18,19,20],[0,2],[0,1,4,5,6,7],[0,2],[0,1,3],[0,1,4,5,7,8],[0,1,2,3,8,9],[0,2],[0,2],[0,1,2,6],[0,1,2,3,4,10],[0,1,2,3,8,9],[0,1,2,3,8,9,10,11,12],[0,1,2,8,9,10,11,12],[0,1,2,3,8,9,10,11,12,13,14,55],[0,1,2,8,9],[0,1,2,3,8,9,10,11,12],[0,1,2,3,4,10,11,12],[0,1,2,3,4,10,11,12,13],[0,1,4,5,7,8],[0,1,2,3,8,9],[0,1,2,3,4,10,11],[0,1,2,3,8],[0,1,2,3,4,5,12],[0,1,2,3,4,10,11],[],[],[],[],[],[],[],[],[],[],[],[],[],[],[],[]]
def resT:List (List Nat):=[[],[],[],[4],[6],[6],[4],[4],[6],[4],[6],[6],[6],[2],[4,5,6],[4,5],[4,5],[4],[0],[4],[4,5],[4],[4],[4,5],[4],[6],[4,5],[8,9],[6],[8,9],[4,5,6],[4,5],[4],[6,7,8],[2],[6,7,8],[6],[6],[6,7],[5],[2,3],[],[4],[2,3,4],[4],[6],[2],[2],[8],[6],[6,7],[4],[6],[0],[2],[4],[6],[4,5],[4],[6],[3],[4],[],[2],[],[10],[4],[6],[],[5],[2],[4],[4],[4],[4],[],[],[],[6,7],[],[6],[4],[8],[8,9],[2],[2],[],[4],[],[2],[4],[2],[3],[4],[],[2],[2],[6],[10],[],[],[],[8,9],[],[8],[10],[10,11],[4],[8,9],[],[8],[12],[10,11],[],[],[],[],[],[],[],[],[],[],[],[],[],[],[],[]]
def sharedT:List Nat:=[39,41,53,55,56,57,60,61,62,64,65,68,69,74,75,76,77,78,79,80,82,83,86,87,88,90,92,94,96,97,98,99,100,101,102,103,104,105,106,107,108,109,110,111,112,121,122,123,124,125,126,127]
def deadT:List (Nat×Nat×List Nat):=[(4,4,[9,10,11,12,13,14,15,16,17,18,19,21,22,24,25,26,28,29,31,32]),(4,14,[8,12,14,17,18,19,21,22,24,25,26,28,29,31,32]),(5,13,[5,10,13,15,16,17,18,19,20,21,24,25]),(7,4,[7,9,10,11,12,13,14,15,16,17,18,19,20,21,22,23,24,25]),(7,14,[6,19,20,21,22,23,24,25]),(7,18,[6,21,22,23,24,25]),(7,25,[6,20,22,23,24,25]),(7,31,[5,6,9,18,19,20,21,22]),(8,6,[12,13,14,15,16,17,18,19,20,21,23,24,26,27]),(8,14,[15,16,17,18,19,20,21,23,24,26,27]),(8,22,[9,11,12,13,14,17,18,19,20,21,23,24,26,27]),(8,31,[8,9,11,12,13,14,15,16,18,19,23,24,26,27]),(9,9,[7,10,12,17,18,20,21,23]),(9,12,[7,10,12,18,20,21,23]),(9,20,[7,9,10,11,12,14,15,16,17,18,20,21]),(10,10,[12,17]),(11,13,[8,10,12,13,14,15,17,18,19,20]),(15,9,[7,8,11,12,13]),(17,2,[6]),(19,8,[6,11,12]),(19,14,[6]),(23,4,[10,11]),(23,7,[11]),(25,3,[9,10]),(25,11,[8,9]),(27,7,[10,11,15]),(28,2,[8]),(29,6,[13]),(30,9,[7,8,9,13,14]),(32,4,[9,10,11,12,13]),(32,9,[11,12,13]),(32,14,[10,12,13]),(33,10,[9,10,11,15,16,18,61,62,63]),(33,16,[9,10,11,12,15,18,50,51]),(35,5,[10,12,14,38,39,40]),(35,8,[10,14]),(37,3,[9,10,11]),(38,5,[14,15,16]),(38,12,[8,10,11,12]),(40,4,[7]),(42,3,[7]),(43,7,[6,9,10,12,14,15,38,39,40,49,50,51]),(43,13,[6,9,12,14,15,29,30,49,50,51]),(43,17,[6,9,14,15,29,30]),(44,5,[8,9,10,11]),(47,3,[5,6]),(47,6,[6]),(48,4,[12,13,14,15,16,17,18,19,20,21,22,23,24,25,26,27]),(48,8,[11,13,14,15,16,17,18,19,20,21,22,23,24,25,26,27]),(48,20,[11,12,13,14,15,16,19,20,21,22,23,24,25,26,27]),(48,25,[11,12,13,14,15,16,21,22,23,24,25,26,27]),(48,31,[11,12,13,14,15,16,20,23,24,25,26,27]),(48,35,[11,12,13,14,15,16,20,25,26,27]),(50,4,[11,12,13]),(50,12,[10,11]),(53,3,[2]),(54,3,[4]),(57,4,[9]),(58,2,[5,6,8]),(59,4,[3,10,11]),(62,2,[10,11,12,13,14,15,16,17,18]),(65,3,[12,13,14,15,16,17,18,20,21,22,23,31,32,60,61,72,73,74]),(65,7,[14,15,16,17,18,20,21,22,23,60,61,72,73,74]),(65,16,[12,14,17,18,20,21,22,23,31,32,72,73,74]),(65,22,[12,14,15,17,20,21,22,23,31,32,60,61]),(66,3,[7,8,9,10,11,12,13,14,15,16,17,18]),(66,7,[9,10,11,12,13,14,15,16,17,18]),(66,13,[6,7,8,11,12,13,14,15,16,17,18]),(66,16,[6,7,8,12,13,14,15,16,17,18]),(66,29,[6,7,8,11,12,16,17,18]),(66,34,[6,7,8,11,12]),(70,2,[4]),(74,2,[5]),(75,1,[7]),(76,4,[10]),(76,8,[8,9]),(77,5,[10]),(80,3,[9,10]),(80,5,[9,10]),(80,14,[10]),(80,20,[9]),(87,3,[6,7,8,9,10,11]),(87,6,[8,9,10,11]),(87,16,[7,10,11]),(87,20,[7]),(88,2,[12,13,14,15,16,17,18,19,20]),(90,5,[7]),(93,2,[5]),(94,1,[9]),(99,1,[9]),(100,4,[12]),(100,8,[10,11]),(101,5,[12]),(104,3,[11,12]),(104,5,[11,12]),(104,14,[12]),(104,20,[11]),(107,2,[5]),(109,1,[11])]
def hpZ:FuncId→Option (List HV→Heap→Option (HV×Heap)):=fun g=>if g==41 then some D8 else none
theorem QdP (g:FuncId) (F:List HV→Heap→Option (HV×Heap)) (h:hpZ g=some F):Yg Tp g F:=by
 unfold hpZ at h
 split at h
 ·rename_i hg;cases h;rw [eq_of_beq hg];exact QcT
 ·cases h
def pol:Pol where
 heapP:=hpZ
 shared g:=sharedT.contains g
 freeze g r:=!((g==66&&r==10)||(g==48&&r==38))
 freezeS _ _:=false
 blk g d:=!((resT.getD g []).contains d)
 nilf g:=g==91
 deep _:=false
 prim _:=none
 rows _ _:=false
 keys g:=keysT.getD g []
 quiet f r:=if f==25&&r==5 then [6,13] else []
 dead f r:=((deadT.find? fun p=>p.1==f&&p.2.1==r).map (·.2.2)).getD []
theorem Qh:Tp.follows .mixedOrders=true:=by kernel_rfl
set_option maxRecDepth 100000 in
theorem G6:(Tp.funcs.toList.zipIdx.all fun p=>Xn pol p.2 p.1)=true:=by kernel_rfl
theorem Vr (n:Nat):Ql Tp (Qs Tp pol n) :=
 UQ Qh (fun g fn h=>List.all_eq_true.1 G6 (fn,g) (by
   rw [qP]
   simpa using h)) (fun g F h=>by cases h) n QdP
theorem Qz (F:FuncId→Option (List HV→Option HV)) (hF:∀g f,F g=some f→QP Tp g f) (n:Nat):Ql Tp (Qs Tp { pol with prim:=F } n) :=
 UQ Qh (fun g fn h=>by
  rw [D7]
  exact List.all_eq_true.1 G6 (fn,g) (by
   rw [qP]
   simpa using h)) hF n QdP
theorem XP (n:Int):qA.wrap n=(n+9223372036854775808)%18446744073709551616-9223372036854775808:=by rw [IntKind.wrap_i64]
abbrev bI (l:List Int):Blk:=.arr 1 (l.map Qb) true 0
def WH (r:List Int):HV:=.imm .arg 1 (r.map Qb)
theorem Qj {j:Nat} (h:j<4611686018427387904):qA.wrap ((j:Int)+1)=((j+1:Nat):Int):=by rw [XP];omega
theorem Gb {j:Nat} (h0:0<j) (h:j<4611686018427387904):qA.wrap ((j:Int)-1)=((j-1:Nat):Int):=by rw [XP];omega
theorem WN {n:Int} (h0:-4611686018427387904≤n) (h:n<4611686018427387904):qA.wrap n=n:=by rw [XP];omega
theorem KI:∀(l:List Int),argPL (l.map Qb)=some (l.map Qb)
 | []=>rfl
 | p::l=>by simp only [qK,argPL,KI l,Qb,argP]
theorem UY:∀(R:List (List Int)),argPL (R.map WH)=some (R.map WH)
 | []=>rfl
 | p::l=>by simp only [qK,argPL,UY l,WH,argP,KI]
theorem G7 (H:Heap) (l:List Int):QF H 6 (.imm .arg 1 (l.map Qb))=some (.imm .arg 1 (l.map Qb)):=by
 show argP (.imm .arg 1 (l.map Qb))=_
 simp only [argP,KI]
theorem Qi3 (H:Heap) (R:List (List Int)):QF H 6 (.imm .arg 1 (R.map WH))=some (.imm .arg 1 (R.map WH)):=by
 show argP (.imm .arg 1 (R.map WH))=_
 simp only [argP,UY]
theorem Vs (l:List Int):(l.map Qb).any K5=false:=by
 rw [List.any_eq_false]
 intro v hv
 obtain ⟨k,_,rfl⟩:=List.mem_map.1 hv
 simp [Qb,K5]
theorem Wz (l:List Int) (H:Heap):ZA (.own 1 (l.map Qb)) H=(.sl H.length 0 l.length none l.length 1,H++[bI l]):=by
 simp only [ZA,Z9,Wp,Vs,qB]
 rfl
theorem UZ:∀(l:List Int),bndL (l.map Qb)=0
 | []=>rfl
 | a::l=>by simp only [qK,bndL,UZ l,Qb,bnd];rfl
theorem Zh (F:FuncId→Option (List HV→Option HV)) (g:FuncId) (fn:Func) (h:Tp.funcs[g]?=some fn):Xn { pol with prim:=F } g fn=true:=by
 rw [D7]
 exact List.all_eq_true.1 G6 (fn,g) (by
  rw [qP]
  simpa using h)
theorem QC {H H':Heap} (r:Nat) (h:H'.length=H.length):gc H.length r H'=H':=by
 unfold gc
 rw [qH (by omega)]
theorem Jl {b:Bool} (h:¬b=true):b=false:=by cases b <;> simp_all
theorem u24:Tp.underlying 24=some (.slice 3):=by kernel_rfl
theorem u57:Tp.underlying 57=some (.slice 24):=by kernel_rfl
theorem z3:Qr Tp 3=some 1:=by kernel_rfl
theorem z4:Qr Tp 4=some 1:=by kernel_rfl
theorem z24:Qr Tp 24=some 1:=by kernel_rfl
theorem a3:QJ Tp 3=false:=by kernel_rfl
theorem i3:(Tp.underlying 3).isSome=true:=by kernel_rfl
theorem a4:QJ Tp 4=false:=by kernel_rfl
theorem i4:(Tp.underlying 4).isSome=true:=by kernel_rfl
theorem a24:QJ Tp 24=false:=by kernel_rfl
theorem i24:(Tp.underlying 24).isSome=true:=by kernel_rfl
theorem gx {l:List Int} {y:Nat} (hy:y<l.length):ZI Tp 24 (.imm .arg 1 (l.map Qb)) (.int .i64 (y:Int))=some (.vptr (.int .i64 (l.getD y 0))) :=
 G3 u24 z3 (by omega) (by rw [qF,qI,qC hy];simp [qE,qC hy,Qb])
theorem gxi {l:List Int} {y:Int} (h0:0≤y) (hy:y.toNat<l.length):ZI Tp 24 (.imm .arg 1 (l.map Qb)) (.int .i64 y)=some (.vptr (.int .i64 (l.getD y.toNat 0))):=by
 have:=gx (l:=l) (y:=y.toNat) hy
 rwa [show ((y.toNat:Nat):Int)=y by omega] at this
theorem QR {H:Heap} {k:Nat} {o:List Int} (h:H[k]?=some (bI o)) {y:Nat} (hy:y<o.length):QK Tp H 3 (.ptr k y 0 o.length)=some (.int .i64 (o.getD y 0)) :=
 WV (b:=k) h (by simp) (by rw [qI,qC hy];simp [qE,qC hy,Qb]) rfl a3 i3
theorem Kn {H:Heap} {k:Nat} {o:List Int} (h:H[k]?=some (bI o)) {y:Nat} (hy:y<o.length) (v:Int):Wf Tp H 3 (.ptr k y 0 o.length) (.int .i64 v)=some (H.set k (bI (o.set y v))):=by
 have hi:(o.map Qb)[y]?=some (Qb o[y]):=by rw [qI,qC hy];rfl
 have:=UV (P:=Tp) (t:=3) (b:=k) (tot:=o.length) (v:=.int .i64 v) h (by simp) hi rfl (by intro cs h;cases h) z3 rfl rfl (by simp [bnd])
 rw [this]
 show some (H.set k (.arr 1 ((o.map Qb).set y (Qb v)) true 0))=_
 rw [bI,List.map_set]
theorem Vt {H:Heap} {b k:Nat} {o:List Int} (hb:H[b]?=some (bI o)) (hk:o.length=k):WS H false (.sl b 0 k none k 1)=some (.own 1 (o.map Qb)):=by
 have hr:=ZD (H:=H) (no:=[b]) (b:=b) (k:=1) (m:=k) (cap:=none) (els:=o.map Qb) hb (by simpa using hk) (Wy (fun r=>JV 4 r) _)
 have ho:QO H false (.sl b 0 k none k 1)=[b]:=by simp [QO,cellsOf,Zl,hb]
 simp only [WS,ho,qY,qZ,not_false_eq_true,jA,and_self,if_true,W1,hr]
theorem Ss {H:Heap} {b:Nat} {o xs:List Int} (hb:H[b]?=some (bI o)) (hlen:o.length+xs.length≤1000) (hx:xs≠[]) :
  W5 H 1 8 (.sl b 0 o.length none o.length 1) (xs.map Qb)=some (.sl b 0 (o++xs).length none (o++xs).length 1,H.set b (bI (o++xs))):=by
 have:=QdN (H:=H) (k:=1) (bytes:=8) (b:=b) (n:=o.length) (mx:=0) (els:=o.map Qb) (xs:=xs.map Qb) hb (by simp) (by simpa using hx) (by rw [qB];simp only [WF];omega) (UZ xs)
 rw [this]
 simp [bI]
theorem QdQ {H:Heap} {b:Nat} {o:List Int} (hb:H[b]?=some (bI o)):W5 H 1 8 (.sl b 0 o.length none o.length 1) []=some (.sl b 0 o.length none o.length 1,H):=by
 simp [W5]
theorem Qi4 {H:Heap} {l:List Int} {b m:Nat} (hm:l.length=m) (hb:H[b]?=some (bI l)):QF H 6 (.sl b 0 m none m 1)=some (.imm .arg 1 (l.map Qb)):=by
 subst hm
 have e:QF H 6 (.sl b 0 l.length none l.length 1)=if l.length=0 then some (.imm .arg 1 []) else match WR H b 0 l.length l.length 1 with | some l=>(match mapO (QF H 5) l with | some l=>some (.imm .arg 1 l) | none=>none) | none=>none:=rfl
 rw [e]
 split
 ·rename_i h0
  rw [List.length_eq_zero_iff.1 h0];rfl
 ·have hv:WR H b 0 l.length l.length 1=some (l.map Qb):=by
   simp only [WR,hb,qB]
   rw [if_pos ⟨trivial,by omega,trivial⟩]
   simp [qH]
  have hm:mapO (QF H 5) (l.map Qb)=some (l.map Qb):=Wy (f:=QF H 5) (g:=Qb) (fun _=>rfl) l
  rw [hv]
  simp only [hm]
abbrev St:Type:=Int×Int×Int
def Qa (s:St):HV:=.agg [.int .i64 s.1,.int .i64 s.2.1,.int .i64 s.2.2]
def QdR:HV→Option St | .agg [.int .i64 a,.int .i64 b,.int .i64 w]=>some (a,b,w) | _=>none
theorem Su (s:St):QdR (Qa s)=some s:=rfl
theorem Sv (b:HV) (a:St) (h:QdR b=some a):b=Qa a:=by
 unfold QdR at h
 split at h
 ·cases h;rfl
 ·cases h
abbrev bS (l:List St):Blk:=.arr 3 (l.map Qa) true 0
theorem u22:Tp.underlying 22=some (.slice 42):=by kernel_rfl
theorem z42:Qr Tp 42=some 3:=by kernel_rfl
theorem a22:QJ Tp 22=false:=by kernel_rfl
theorem i22:(Tp.underlying 22).isSome=true:=by kernel_rfl
theorem a66:QJ Tp 66=true:=by kernel_rfl
theorem z66:Qr Tp 66=some 2:=by kernel_rfl
theorem U0:∀(l:List St),argPL (l.map Qa)=some (l.map Qa)
 | []=>rfl
 | p::l=>by simp only [qK,argPL,U0 l,Qa,argP]
theorem VS (H:Heap) (l:List St):QF H 6 (.imm .arg 3 (l.map Qa))=some (.imm .arg 3 (l.map Qa)):=by
 show argP (.imm .arg 3 (l.map Qa))=_
 simp only [argP,U0]
theorem QdS (H:Heap) (l:List St):QF H 5 (.imm .arg 3 (l.map Qa))=some (.imm .arg 3 (l.map Qa)):=by
 show argP (.imm .arg 3 (l.map Qa))=_
 simp only [argP,U0]
theorem QbC:∀(l:List St),bndL (l.map Qa)=0
 | []=>rfl
 | a::l=>by simp only [qK,bndL,QbC l,Qa,bnd];rfl
theorem Qf5 (l:List St):(l.map Qa).any K5=false:=by
 rw [List.any_eq_false]
 intro v hv
 obtain ⟨k,_,rfl⟩:=List.mem_map.1 hv
 simp [Qa,K5]
theorem QdT (l:List St) (H:Heap):ZA (.own 3 (l.map Qa)) H=(.sl H.length 0 l.length none l.length 3,H++[bS l]):=by
 simp only [ZA,Z9,Wp,Qf5,qB]
 rfl
theorem gs {l:List St} {y:Nat} (hy:y<l.length):ZI Tp 22 (.imm .arg 3 (l.map Qa)) (.int .i64 (y:Int))=some (.vptr (Qa (l.getD y (0,0,0)))) :=
 G3 u22 z42 (by omega) (by rw [qF,qI,qC hy];simp [qE,qC hy])
theorem Qf6 {H:Heap} {l:List St} {b m:Nat} (hm:l.length=m) (hb:H[b]?=some (bS l)):QF H 6 (.sl b 0 m none m 3)=some (.imm .arg 3 (l.map Qa)):=by
 subst hm
 have e:QF H 6 (.sl b 0 l.length none l.length 3)=if l.length=0 then some (.imm .arg 3 []) else match WR H b 0 l.length l.length 3 with | some l=>(match mapO (QF H 5) l with | some l=>some (.imm .arg 3 l) | none=>none) | none=>none:=rfl
 rw [e]
 split
 ·rename_i h0
  rw [List.length_eq_zero_iff.1 h0];rfl
 ·have hv:WR H b 0 l.length l.length 3=some (l.map Qa):=by
   simp only [WR,hb,qB]
   rw [if_pos ⟨trivial,by omega,trivial⟩]
   simp [qH]
  have hm:mapO (QF H 5) (l.map Qa)=some (l.map Qa):=Wy (f:=QF H 5) (g:=Qa) (fun _=>rfl) l
  rw [hv]
  simp only [hm]
def Qt (n:Int) (l:List St):HV:=.agg [.int .i64 n,.imm .arg 3 (l.map Qa)]
theorem QbD (H:Heap) (n:Int) (l:List St):QF H 6 (Qt n l)=some (Qt n l):=by
 have h5:=QdS H l
 have e:QF H 6 (Qt n l)=match mapO (QF H 5) [.int .i64 n,.imm .arg 3 (l.map Qa)] with | some l=>some (.agg l) | none=>none:=rfl
 rw [e]
 have h6:QF H 5 (.int .i64 n)=some (.int .i64 n):=rfl
 simp only [mapO,h5,h6]
 rfl
structure Cd (α:Type) where
 enc:α→HV
 dec:HV→Option α
 inv:∀a x,dec a=some x→a=enc x
 de:∀x,dec (enc x)=some x
 arg:∀(H:Heap) x,QF H 6 (enc x)=some (enc x)
def kI:Cd Int:=⟨Qb,QdM,Sn,UT,fun _ _=>rfl⟩
def QdU:HV→Option (List Int) | .imm .arg 1 l=>mapO QdM l | _=>none
theorem Sx (a:HV) (x:List Int) (h:QdU a=some x):a=.imm .arg 1 (x.map Qb):=by
 unfold QdU at h
 split at h
 ·rw [Vq Sn h]
 ·cases h
def kL:Cd (List Int):=⟨fun l=>.imm .arg 1 (l.map Qb),QdU,Sx,fun l=>Kl UT l,fun H l=>G7 H l⟩
def Qi5:HV→Option (List St) | .imm .arg 3 l=>mapO QdR l | _=>none
theorem QdV (a:HV) (x:List St) (h:Qi5 a=some x):a=.imm .arg 3 (x.map Qa):=by
 unfold Qi5 at h
 split at h
 ·rw [Vq Sv h]
 ·cases h
def kS:Cd (List St):=⟨fun l=>.imm .arg 3 (l.map Qa),Qi5,QdV,fun l=>Kl Su l,fun H l=>VS H l⟩
def QdW:HV→Option (Int×List St) | .agg [.int .i64 n,.imm .arg 3 l]=>(match mapO QdR l with | some l=>some (n,l) | none=>none) | _=>none
theorem QdX (a:HV) (x:Int×List St) (h:QdW a=some x):a=Qt x.1 x.2:=by
 unfold QdW at h
 split at h
 ·split at h
  ·rename_i hl
   cases h
   rw [Vq Sv hl];rfl
  ·cases h
 ·cases h
theorem QdY (p:Int×List St):QdW (Qt p.1 p.2)=some p:=by
 have:=Kl Su p.2
 simp only [QdW,Qt,this]
def kN:Cd (Int×List St):=⟨fun p=>Qt p.1 p.2,QdW,QdX,QdY,fun H p=>QbD H p.1 p.2⟩
section
variable {α β γ δ:Type}
def f1 (c1:Cd α) (f:α→Option HV):List HV→Option HV
 | [a]=>(match c1.dec a with | some x=>f x | none=>none)
 | _=>none
def f2 (c1:Cd α) (c2:Cd β) (f:α→β→Option HV):List HV→Option HV
 | [a,b]=>(match c1.dec a,c2.dec b with | some x,some y=>f x y | _,_=>none)
 | _=>none
def f3 (c1:Cd α) (c2:Cd β) (c3:Cd γ) (f:α→β→γ→Option HV):List HV→Option HV
 | [a,b,c]=>(match c1.dec a,c2.dec b,c3.dec c with | some x,some y,some z=>f x y z | _,_,_=>none)
 | _=>none
def f4 (c1:Cd α) (c2:Cd β) (c3:Cd γ) (c4:Cd δ) (f:α→β→γ→δ→Option HV):List HV→Option HV
 | [a,b,c,d]=>(match c1.dec a,c2.dec b,c3.dec c,c4.dec d with | some x,some y,some z,some w=>f x y z w | _,_,_,_=>none)
 | _=>none
theorem KJ {c1:Cd α} {f:α→Option HV} {args:List HV} {res:HV} (h:f1 c1 f args=some res):∃x,args=[c1.enc x]∧f x=some res:=by
 unfold f1 at h
 split at h
 ·rename_i a
  split at h
  ·rename_i x hx
   exact ⟨x,by rw [c1.inv _ _ hx],h⟩
  ·cases h
 ·cases h
theorem Zc {c1:Cd α} {c2:Cd β} {f:α→β→Option HV} {args:List HV} {res:HV} (h:f2 c1 c2 f args=some res):∃x y,args=[c1.enc x,c2.enc y]∧f x y=some res:=by
 unfold f2 at h
 split at h
 ·rename_i a b
  split at h
  ·rename_i x y hx hy
   exact ⟨x,y,by rw [c1.inv _ _ hx,c2.inv _ _ hy],h⟩
  ·cases h
 ·cases h
theorem Vu {c1:Cd α} {c2:Cd β} {c3:Cd γ} {f:α→β→γ→Option HV} {args:List HV} {res:HV} (h:f3 c1 c2 c3 f args=some res):∃x y z,args=[c1.enc x,c2.enc y,c3.enc z]∧f x y z=some res:=by
 unfold f3 at h
 split at h
 ·rename_i a b c
  split at h
  ·rename_i x y z hx hy hz
   exact ⟨x,y,z,by rw [c1.inv _ _ hx,c2.inv _ _ hy,c3.inv _ _ hz],h⟩
  ·cases h
 ·cases h
theorem Qi6 {c1:Cd α} {c2:Cd β} {c3:Cd γ} {c4:Cd δ} {f:α→β→γ→δ→Option HV} {args:List HV} {res:HV} (h:f4 c1 c2 c3 c4 f args=some res):∃x y z w,args=[c1.enc x,c2.enc y,c3.enc z,c4.enc w]∧f x y z w=some res:=by
 unfold f4 at h
 split at h
 ·rename_i a b c d
  split at h
  ·rename_i x y z w hx hy hz hw
   exact ⟨x,y,z,w,by rw [c1.inv _ _ hx,c2.inv _ _ hy,c3.inv _ _ hz,c4.inv _ _ hw],h⟩
  ·cases h
 ·cases h
def Sh (c:Cd α) (H:Heap) (v:HV) (x:α):Prop:=QF H 6 v=some (c.enc x)
theorem Sh.enc (c:Cd α) (H:Heap) (x:α):Sh c H (c.enc x) x:=c.arg H x
end
section
variable {α β γ δ:Type}
variable {pol':Pol} {g:FuncId} {H:Heap} {v1 v2 v3 v4:HV} {res:HV}
theorem at1 {c1:Cd α} {f:α→Option HV} {x:α} (hp:pol'.prim g=some (f1 c1 f)) (h1:Sh c1 H v1 x) (hr:f x=some res):∀k,Qs Tp pol' (k+1) g [v1] H=some (ZA res H):=fun k=>by
 unfold Sh at h1
 exact Kk hp (rs:=[c1.enc x]) (by simp only [mapO,h1]) (by simp only [f1,c1.de];exact hr)
theorem at2 {c1:Cd α} {c2:Cd β} {f:α→β→Option HV} {x:α} {y:β} (hp:pol'.prim g=some (f2 c1 c2 f)) (h1:Sh c1 H v1 x) (h2:Sh c2 H v2 y) (hr:f x y=some res):∀k,Qs Tp pol' (k+1) g [v1,v2] H=some (ZA res H):=fun k=>by
 unfold Sh at h1 h2
 exact Kk hp (rs:=[c1.enc x,c2.enc y]) (by simp only [mapO,h1,h2]) (by simp only [f2,c1.de,c2.de];exact hr)
theorem at3 {c1:Cd α} {c2:Cd β} {c3:Cd γ} {f:α→β→γ→Option HV} {x:α} {y:β} {z:γ} (hp:pol'.prim g=some (f3 c1 c2 c3 f)) (h1:Sh c1 H v1 x) (h2:Sh c2 H v2 y) (h3:Sh c3 H v3 z) (hr:f x y z=some res):∀k,Qs Tp pol' (k+1) g [v1,v2,v3] H=some (ZA res H):=fun k=>by
 unfold Sh at h1 h2 h3
 exact Kk hp (rs:=[c1.enc x,c2.enc y,c3.enc z]) (by simp only [mapO,h1,h2,h3]) (by simp only [f3,c1.de,c2.de,c3.de];exact hr)
theorem at4 {c1:Cd α} {c2:Cd β} {c3:Cd γ} {c4:Cd δ} {f:α→β→γ→δ→Option HV} {x:α} {y:β} {z:γ} {w:δ} (hp:pol'.prim g=some (f4 c1 c2 c3 c4 f)) (h1:Sh c1 H v1 x) (h2:Sh c2 H v2 y) (h3:Sh c3 H v3 z) (h4:Sh c4 H v4 w) (hr:f x y z w=some res):∀k,Qs Tp pol' (k+1) g [v1,v2,v3,v4] H=some (ZA res H):=fun k=>by
 unfold Sh at h1 h2 h3 h4
 exact Kk hp (rs:=[c1.enc x,c2.enc y,c3.enc z,c4.enc w]) (by simp only [mapO,h1,h2,h3,h4]) (by simp only [f4,c1.de,c2.de,c3.de,c4.de];exact hr)
end
theorem ShI (H:Heap) (n:Int):Sh kI H (.int .i64 n) n:=rfl
theorem VT (H:Heap) (l:List Int):Sh kL H (.imm .arg 1 (l.map Qb)) l:=G7 H l
theorem Zo {H:Heap} {l:List Int} {b m:Nat} (hm:l.length=m) (hb:H[b]?=some (bI l)):Sh kL H (.sl b 0 m none m 1) l:=Qi4 hm hb
theorem Jf (H:Heap) (l:List St):Sh kS H (.imm .arg 3 (l.map Qa)) l:=VS H l
theorem Qi7 {H:Heap} {l:List St} {b m:Nat} (hm:l.length=m) (hb:H[b]?=some (bS l)):Sh kS H (.sl b 0 m none m 3) l:=Qf6 hm hb
theorem ShN (H:Heap) (n:Int) (l:List St):Sh kN H (Qt n l) (n,l):=QbD H n l
theorem Q7 {pol':Pol} {f:FuncId} {b c:Code} {E E0:Nat→Env} {Hs H1:Nat→Heap} {x:X} {E':Env} {H':Heap} (n:Nat)
  (step:∀i,i<n→RunsTo Tp pol' f b (E i) (Hs i) .normal (pol'.keys f) (E0 i) (H1 i)) (hE:∀i,i<n→Qy pol' f b (E0 i)=E (i+1))
  (hg:∀i,i<n→gc (Hs i).length (Wc (E (i+1))) (H1 i)=Hs (i+1)) (out:RunsTo Tp pol' f b (E n) (Hs n) x (pol'.keys f) E' H') (hx:x≠.normal) (hc:c=.loop b) (he:∀i,i≤n→Qy pol' f b (E i)=E i) :
  RunsTo Tp pol' f c (E 0) (Hs 0) x (pol'.keys f) E' H':=by
 have key:∀k i,i+k=n→RunsTo Tp pol' f c (E i) (Hs i) x (pol'.keys f) E' H':=by
  intro k
  induction k with
  | zero =>
   intro i hi
   have:i=n:=by omega
   subst this
   exact RunsTo.loop_out out hx hc (he _ (qD _))
  | succ k ih =>
   intro i hi
   exact RunsTo.loop (step i (by omega)) (hE i (by omega)) (hg i (by omega)) (ih (i+1) (by omega)) rfl hc (he i (by omega))
 exact key n 0 (qQ n)
theorem CallsTo.shared {P:Program} {pol:Pol} {g:FuncId} {fn:Func} {cd:Code} {args:List HV} {x:X} {E:Env} {H H':Heap} {v:HV} (hp:pol.prim g=none) (hf:P.funcs[g]?=some fn) (hb:fn.body=some cd) (hs:pol.shared g=true)
  (hrun:RunsTo P pol g cd (Vc args) H x (pol.keys g) E H') (hres:(fn.results.toList.all fun r=>match r with | .tmp t=>(pol.keys g).contains t | .cell t _=>(pol.keys g).contains t)=true) (hx:∀i,x≠.exit i) (hv:Qc P fn E H'=some v) (hh:pol.heapP g=none:=by rfl) :
  CallsTo (P:=P) (pol:=pol) g args H v (gc H.length (bnd v) H'):=by
 obtain ⟨m,h⟩:=hrun
 refine ⟨m+1,fun k hk=>?_⟩
 obtain ⟨k,rfl⟩:∃n',k=n'+1:=⟨k-1,by omega⟩
 obtain ⟨e1,g1,g2⟩:=h k k (by omega) (by omega)
 subst g2
 rw [JO hres] at hv
 simp only [Qs,Yb,hp,hh,hf,hb,hs,if_true,KA,g1]
 cases x with
 | exit i=>exact absurd rfl (hx i)
 | normal=>simp only [hv]
 | ret=>simp only [hv]
theorem CallsTo.from {pol:Pol} {g:FuncId} {args:List HV} {H H':Heap} {r:HV} (h:CallsTo (P:=Tp) (pol:=pol) g args H r H'):∃N,∀kf,N≤kf→Qs Tp pol (kf+1) g args H=some (r,H'):=by
 obtain ⟨m,h⟩:=h
 exact ⟨m,fun kf hk=>h (kf+1) (by omega)⟩
theorem W2 {pol':Pol} {f:FuncId} {b c:Code} {I:Nat→Env→Heap→Prop} {Q:X→Env→Heap→Prop} (n:Nat)
  (step:∀i,i<n→∀e H,I i e H→∃E0 H1,RunsTo Tp pol' f b e H .normal (pol'.keys f) E0 H1∧I (i+1) (Qy pol' f b E0) (gc H.length (Wc (Qy pol' f b E0)) H1))
  (out:∀e H,I n e H→∃x E' H',RunsTo Tp pol' f b e H x (pol'.keys f) E' H'∧x≠.normal∧Q x E' H') (hc:c=.loop b) (he:∀i e H,I i e H→Qy pol' f b e=e) {e:Env} {H:Heap} (h0:I 0 e H) :
  ∃x E' H',RunsTo Tp pol' f c e H x (pol'.keys f) E' H'∧Q x E' H':=by
 have key:∀k i e H,i+k=n→I i e H→∃x E' H',RunsTo Tp pol' f c e H x (pol'.keys f) E' H'∧Q x E' H':=by
  intro k
  induction k with
  | zero =>
   intro i e H hi hI
   have:i=n:=by omega
   subst this
   obtain ⟨x,E',H',h1,h2,h3⟩:=out e H hI
   exact ⟨x,E',H',RunsTo.loop_out h1 h2 hc (he _ _ _ hI),h3⟩
  | succ k ih =>
   intro i e H hi hI
   obtain ⟨E0,H1,h1,h2⟩:=step i (by omega) e H hI
   obtain ⟨x,E',H',h3,h4⟩:=ih (i+1) _ _ (by omega) h2
   exact ⟨x,E',H',RunsTo.loop h1 rfl rfl h3 rfl hc (he _ _ _ hI),h4⟩
 exact key n 0 e H (qQ n) h0
theorem QdZ {α:Type} (l:List α) (k:Nat):l.take (min l.length k)=l.take k:=by
 rw [List.take_eq_take_iff];omega
theorem QaI {w:Nat} {l:List HV} (hw:w≤l.length):W6 Tp 22 (.imm .arg 3 l) none (some (.int .i64 (w:Int))) none=some (.imm .arg 3 (l.take w)):=by
 simp only [W6,JG,u22,z42]
 rw [if_pos (by omega:(0:Int)≤(w:Int))]
 simp [hw]
theorem QD {α:Type} {o:List α} {d:α} {y:Nat} (h:y<o.length):o.getD y d=o[y]:=by simp [qE,qC h]
theorem Zz {H:Heap} {b:Nat} {o:List Int} (hb:H[b]?=some (bI o)) (hlen:o.length≤990) (x:Int) :
  W5 H 1 8 (.sl b 0 o.length none o.length 1) [.int .i64 x]=some (.sl b 0 (o.length+1) none (o.length+1) 1,H.set b (bI (o++[x]))):=by
 have:=Ss (H:=H) (b:=b) (o:=o) (xs:=[x]) hb (by simp;omega) (by simp)
 rw [qL,qR] at this
 exact this
theorem Qf7 {H:Heap} {b:Nat} {o xs:List St} (hb:H[b]?=some (bS o)) (hlen:o.length+xs.length≤1000) (hx:xs≠[]) :
  W5 H 3 24 (.sl b 0 o.length none o.length 3) (xs.map Qa)=some (.sl b 0 (o++xs).length none (o++xs).length 3,H.set b (bS (o++xs))):=by
 have:=QdN (H:=H) (k:=3) (bytes:=24) (b:=b) (n:=o.length) (mx:=0) (els:=o.map Qa) (xs:=xs.map Qa) hb (by simp) (by simpa using hx) (by rw [qB];simp only [WF];omega) (QbC xs)
 rw [this]
 simp [bS]
theorem Qf8 (no:List Nat) (H:Heap) (s:St):frz H no 4 (Qa s)=some (Qa s):=by
 have e:frz H no 4 (Qa s)=match mapO (frz H no 3) [.int .i64 s.1,.int .i64 s.2.1,.int .i64 s.2.2] with | some l=>some (.agg l) | none=>none:=rfl
 rw [e];rfl
theorem Qf9 {H:Heap} {b k:Nat} {o:List St} (hb:H[b]?=some (bS o)) (hk:o.length=k):WS H false (.sl b 0 k none k 3)=some (.own 3 (o.map Qa)):=by
 have hr:=ZD (H:=H) (no:=[b]) (b:=b) (k:=3) (m:=k) (cap:=none) (els:=o.map Qa) hb (by simpa using hk) (Wy (fun r=>Qf8 _ _ r) _)
 have ho:QO H false (.sl b 0 k none k 3)=[b]:=by simp [QO,cellsOf,Zl,hb]
 simp only [WS,ho,qY,qZ,not_false_eq_true,jA,and_self,if_true,W1,hr]
abbrev plF (F:FuncId→Option (List HV→Option HV)):Pol:={ pol with prim:=F }
abbrev CN (F:FuncId→Option (List HV→Option HV)) (N:Nat) (g:FuncId) (a:List HV) (H:Heap) (v:HV) (H':Heap):Prop:=∀kf,N≤kf→Qs Try.prog (plF F) (kf+1) g a H=some (v,H')
abbrev CM (F:FuncId→Option (List HV→Option HV)) (g:FuncId) (a:List HV) (H:Heap) (v:HV) (H':Heap):Prop:=∀kf,Qs Try.prog (plF F) (kf+1) g a H=some (v,H')
abbrev RU (F:FuncId→Option (List HV→Option HV)) (g:FuncId) (p:Nat) (B:Code) (e:Env) (H:Heap) (x:X) (E:Env) (H':Heap):Prop:=RunsTo Try.prog (plF F) g (sn p B) e H x ((plF F).keys g) E H'

def YT (x x':Option (HV×Heap)) (H H':Heap):Bool :=
 match x,x' with
 | some (v,H1),some (v',H1')=>same v v'&&Qw H1 H&&Qw H1' H'
 | _,_=>false
def lkH (P:Program) (T:TypeId) (H:Heap) (b:Nat) (k:HV):Option (HV×Heap) :=
 match H[b]? with
 | some (.map ks vs _)=>(K9 P T ks vs k false).map fun v=>(v,H)
 | _=>none
theorem WW {α:Type} {f:α→HV} (h:∀x,same (f x) (f x)=true):∀l:List α,sameL (l.map f) (l.map f)=true
 | []=>rfl
 | x::l=>by simp only [qK,sameL,h x,WW h l,qS]
theorem Vv (x:Int):same (Qb x) (Qb x)=true:=by simp [Qb,same]
theorem G8 (s:St):same (Qa s) (Qa s)=true:=by simp [Qa,same,sameL]
theorem Vw (n:Int) (l:List St):same (Qt n l) (Qt n l)=true:=by
 simp only [Qt,same,sameL,WW G8,beq_self_eq_true,qS]
theorem QA {B:Blk} {H:Heap} (hB:Qw [B] [B]=true) (hH:Qw H H=true):Qw (B::H) (B::H)=true:=by
 cases B <;> simp_all [Qw]
theorem VU:∀{A B:Heap},Qw A A=true→Qw B B=true→Qw (A++B) (A++B)=true
 | [],_,_,h=>h
 | b::A,B,h,h2=>by
  have h1:Qw [b] [b]=true∧Qw A A=true:=by
   cases b <;> simp_all [Qw]
  exact QA h1.1 (VU h1.2 h2)
theorem Q3 (l:List Int):Qw [bI l] [bI l]=true:=by simp only [Qw,WW Vv,beq_self_eq_true,qS]
def lkG (P:Program) (T:TypeId) (H:Heap) (b:Nat) (k:HV) (ok:Bool):Option (HV×Heap) :=
 match H[b]? with
 | some (.map ks vs _)=>(K9 P T ks vs k ok).map fun v=>(v,H)
 | _=>none
theorem sameH_all:∀{H:Heap},Qw H H=true↔∀B∈H,Qw [B] [B]=true
 | []=>by simp [Qw]
 | B::H=>by
  have ih:=sameH_all (H:=H)
  have:Qw (B::H) (B::H)=true↔Qw [B] [B]=true∧Qw H H=true:=by cases B <;> simp [Qw]
  rw [this,ih,List.forall_mem_cons]
theorem QcU {H:Heap} {b:Nat} {B:Blk} (h:Qw H H=true) (hB:Qw [B] [B]=true):Qw (H.set b B) (H.set b B)=true:=sameH_all.2 fun C hC=>by
 rcases List.mem_or_eq_of_mem_set hC with c | c
 ·exact sameH_all.1 h C c
 ·exact c▸hB
theorem QaJ {H:Heap} (h:Qw H H=true) (k:Nat):Qw (H.take k) (H.take k)=true:=sameH_all.2 fun C hC=>sameH_all.1 h C (qT hC)
theorem Yi {x x':Option HV} {H H':Heap} {v:HV} (h:x=some v) (h':x'=some v) (hv:same v v=true) (hH:Qw H H=true) (hH':Qw H' H'=true):(YT (x.map fun v=>(v,H)) (x'.map fun v=>(v,H')) H H'&&true)=true:=by
 subst h h'
 simp only [YT,Option.map,hv,hH,hH',qS]
structure Ok (H:Heap):Prop where
 mx:mxs H≤H.length
 sm:Qw H H=true
end Go.Proofs.Ytiejmoglooaalaa
end
section
open Go Go.HL
namespace Go.Proofs.Ytiejmoglooaalaa
set_option maxRecDepth 100000
set_option linter.unusedSectionVars false
open Go.Proofs.Try renaming prog → Tp
open Go.HL.HV renaming undef → Ud
section
variable {F:FuncId→Option (List HV→Option HV)}
noncomputable def B3:Code:=Try.f3.body.getD .skip
abbrev G9 (v0 v1 v4 v5 v6 v7 v8 v9 v10 v11 v12 v13 v14 v15 v16:HV):Env:=[(0,v0),(1,v1),(4,v4),(5,v5),(6,v6),(7,v7),(8,v8),(9,v9),(10,v10),(11,v11),(12,v12),(13,v13),(14,v14),(15,v15),(16,v16)]
end
abbrev e3 (n:Int) (ls:List HV) (lb:Nat) (q:Nat) (tb:Nat) (m:Nat) (w:Int) (e:Int) (u7 u8 u9 u10 u11 u12 u13 u14:HV):Env:=G9 (.i n) (.g ls) (.bool false) (.sl lb 0 q none q 3) (.s tb m) (.i w) (.i e) u7 u8 u9 u10 u11 u12 u13 u14
section
variable {F:FuncId→Option (List HV→Option HV)}
variable (n:Int) (ls:List HV)
include n ls
theorem Qi8:RU F 3 2 B3 [(0,.i n),(1,.g ls)] [] .normal (G9 (.i n) (.g ls) (.bool false) Ud Ud Ud Ud Ud Ud Ud Ud Ud Ud Ud Ud) [] :=
 hx 0 60 []
end
section
variable {F:FuncId→Option (List HV→Option HV)}
variable (n:Int) (ls:List HV)
include n ls
theorem Qi9 (H:Heap) (lb q:Nat) {H0:Heap} (g0:CM F 13 [.g ls] H (.sl lb 0 q none q 3) H0) (y5 y6 y7 y8 y9 y10 y11 y12 y13 y14 y15 y16:HV:=Ud): RU F 3 6 B3 (G9 (.i n) (.g ls) (.bool false) y5 y6 y7 y8 y9 y10 y11 y12 y13 y14 y15 y16) H .normal (G9 (.i n) (.g ls) (.bool false) (.sl lb 0 q none q 3) y6 y7 y8 y9 y10 y11 y12 y13 y14 y15 y16) H0 :=
 hx 0 60 [jD 1 1 g0]
theorem Qja (H:Heap) (lb q:Nat) (tb m:Nat) (w e:Int) {H0:Heap} (g0:CM F 14 [.i n,.sl lb 0 q none q 3] H (.tuple [.s tb m,.i w,.i e]) H0) (y6 y7 y8 y9 y10 y11 y12 y13 y14 y15 y16:HV:=Ud): RU F 3 14 B3 (G9 (.i n) (.g ls) (.bool false) (.sl lb 0 q none q 3) y6 y7 y8 y9 y10 y11 y12 y13 y14 y15 y16) H .normal (e3 n ls lb q tb m w e y9 y10 y11 y12 y13 y14 y15 y16) H0 :=
 hx 0 60 [jD 2 2 g0]
theorem Qjb (H:Heap) (lb q:Nat) (tb m:Nat) (w e:Int) (s f:Int) {H0:Heap} (g0:CM F 15 [.i n,.sl lb 0 q none q 3] H (.tuple [.i s,.i f]) H0) (y9 y10 y11 y12 y13 y14 y15 y16:HV:=Ud): RU F 3 30 B3 (e3 n ls lb q tb m w e y9 y10 y11 y12 y13 y14 y15 y16) H .normal (e3 n ls lb q tb m w e (.i s) (.i f) y11 y12 y13 y14 y15 y16) H0 :=
 hx 0 60 [jD 3 2 g0]
theorem Qjc (H:Heap) (lb q:Nat) (tb m:Nat) (w e:Int) (s f:Int) (c g:Int) {H0:Heap} (g0:CM F 16 [.i n,.sl lb 0 q none q 3] H (.tuple [.i c,.i g]) H0) (y11 y12 y13 y14 y15 y16:HV:=Ud): RU F 3 62 B3 (e3 n ls lb q tb m w e (.i s) (.i f) y11 y12 y13 y14 y15 y16) H .normal (e3 n ls lb q tb m w e (.i s) (.i f) (.i c) (.i g) y13 y14 y15 y16) H0 :=
 hx 0 60 [jD 4 2 g0]
theorem Qjd (H:Heap) (lb q:Nat) (tb m:Nat) (w e:Int) (s f:Int) (c g:Int) {H0:Heap} (g0:CM F 17 [.i n,.sl lb 0 q none q 3] H (.bool true) H0) (y13 y14 y15 y16:HV:=Ud): RU F 3 126 B3 (e3 n ls lb q tb m w e (.i s) (.i f) (.i c) (.i g) y13 y14 y15 y16) H .normal (e3 n ls lb q tb m w e (.i s) (.i f) (.i c) (.i g) y13 y14 y15 y16) H0 :=
 hx 0 60 [jD 5 2 g0]
theorem Qje (H:Heap) (lb q:Nat) (tb m:Nat) (w e:Int) (s f:Int) (c g:Int) {H0:Heap} {H1:Heap} (g0:CM F 17 [.i n,.sl lb 0 q none q 3] H (.bool false) H0) (g1:(m:Int)=0) (g2:w=0) (g3:e=2) (g4:s=0) (g5:f=2) (g6:c=0) (g7:g=2) (g8:CM F 18 [] H0 (.bool true) H1) (y13 y14 y15 y16:HV:=Ud): RU F 3 126 B3 (e3 n ls lb q tb m w e (.i s) (.i f) (.i c) (.i g) y13 y14 y15 y16) H .ret (G9 (.i n) (.g ls) (.bool true) (.sl lb 0 q none q 3) (.s tb m) (.i w) (.i e) (.i s) (.i f) (.i c) (.i g) y13 y14 y15 y16) H1 :=
 hx 0 60 [jD 5 2 g0,jT 6 2 H0 g1,jT 6 5 H0 g2,jT 6 9 H0 g3,jT 6 13 H0 g4,jT 6 17 H0 g5,jT 6 21 H0 g6,jT 6 25 H0 g7,jD 6 28 g8]
theorem Qjf (H:Heap) (lb q:Nat) (tb m:Nat) (w e:Int) (s f:Int) (c g:Int) (x:Int) {H0:Heap} (g0:CM F 19 [.i n,.sl lb 0 q none q 3] H (.i x) H0) (g1:c=x) (g2:g=0) (y13 y14 y15 y16:HV:=Ud): RU F 3 254 B3 (e3 n ls lb q tb m w e (.i s) (.i f) (.i c) (.i g) y13 y14 y15 y16) H .normal (e3 n ls lb q tb m w e (.i s) (.i f) (.i c) (.i g) y13 y14 y15 y16) H0 :=
 hx 0 60 [jD 7 3 g0,jB 7 4 H0 (congrArg not (decide_eq_true g1)),jB 7 7 H0 (congrArg not (decide_eq_true g2))]
theorem Qjg (H:Heap) (lb q:Nat) (tb m:Nat) (w e:Int) (s f:Int) (c g:Int) (fb r:Nat) {H0:Heap} (g0:CM F 20 [.i n,.sl lb 0 q none q 3] H (.tuple [.s fb r,.bool true]) H0) (y13 y14 y15 y16:HV:=Ud): RU F 3 510 B3 (e3 n ls lb q tb m w e (.i s) (.i f) (.i c) (.i g) y13 y14 y15 y16) H .normal (e3 n ls lb q tb m w e (.i s) (.i f) (.i c) (.i g) (.s fb r) (.bool true) y15 y16) H0 :=
 hx 0 60 [jD 9 2 g0]
theorem Qjh (H:Heap) (lb q:Nat) (tb m:Nat) (w e:Int) (s f:Int) (c g:Int) (fb r:Nat) {H0:Heap} (g0:CM F 20 [.i n,.sl lb 0 q none q 3] H (.tuple [.s fb r,.bool false]) H0) (y13 y14 y15 y16:HV:=Ud): RU F 3 510 B3 (e3 n ls lb q tb m w e (.i s) (.i f) (.i c) (.i g) y13 y14 y15 y16) H .normal (e3 n ls lb q tb m w e (.i s) (.i f) (.i c) (.i g) (.s fb r) (.bool false) y15 y16) H0 :=
 hx 0 60 [jD 9 2 g0]
theorem Qga (H:Heap) (lb q:Nat) (tb m:Nat) (w e:Int) (s f:Int) (c g:Int) (fb r:Nat) (y15 y16:HV:=Ud): RU F 3 1022 B3 (e3 n ls lb q tb m w e (.i s) (.i f) (.i c) (.i g) (.s fb r) (.bool true) y15 y16) H .normal (e3 n ls lb q tb m w e (.i s) (.i f) (.i c) (.i g) (.s fb r) (.bool true) y15 y16) H :=
 hx 0 60 []
theorem Qgb (H:Heap) (lb q:Nat) (tb m:Nat) (w e:Int) (s f:Int) (c g:Int) (fb r:Nat) {H0:Heap} (g0:(m:Int)=0) (g1:w=0) (g2:e=6) (g3:s=0) (g4:f=6) (g5:CM F 18 [] H (.bool true) H0) (y15 y16:HV:=Ud): RU F 3 1022 B3 (e3 n ls lb q tb m w e (.i s) (.i f) (.i c) (.i g) (.s fb r) (.bool false) y15 y16) H .ret (G9 (.i n) (.g ls) (.bool true) (.sl lb 0 q none q 3) (.s tb m) (.i w) (.i e) (.i s) (.i f) (.i c) (.i g) (.s fb r) (.bool false) y15 y16) H0 :=
 hx 0 60 [jT 11 2 H g0,jT 11 5 H g1,jT 11 9 H g2,jT 11 13 H g3,jT 11 17 H g4,jD 11 20 g5]
theorem Qji (H:Heap) (lb q:Nat) (tb m:Nat) (w e:Int) (s f:Int) (c g:Int) (fb r:Nat) (x:Int) {H0:Heap} {H1:Heap} (g0:CM F 21 [.s tb m,.s fb r] H (.bool true) H0) (g1:CM F 22 [.sl lb 0 q none q 3,.s fb r] H0 (.i x) H1) (g2:w=x) (g3:e=0) (y15 y16:HV:=Ud): RU F 3 2046 B3 (e3 n ls lb q tb m w e (.i s) (.i f) (.i c) (.i g) (.s fb r) (.bool true) y15 y16) H .normal (e3 n ls lb q tb m w e (.i s) (.i f) (.i c) (.i g) (.s fb r) (.bool true) y15 y16) H1 :=
 hx 0 60 [jD 12 2 g0,jD 12 8 g1,jB 12 9 H1 (congrArg not (decide_eq_true g2)),jB 12 13 H1 (congrArg not (decide_eq_true g3))]
theorem Qjj (H:Heap) (lb q:Nat) (tb m:Nat) (w e:Int) (s f:Int) (c g:Int) (fb r:Nat) (x:Int) {H0:Heap} (g0:CM F 23 [.i n,.sl lb 0 q none q 3] H (.tuple [.i x,.bool true]) H0) (y15 y16:HV:=Ud): RU F 3 4094 B3 (e3 n ls lb q tb m w e (.i s) (.i f) (.i c) (.i g) (.s fb r) (.bool true) y15 y16) H .normal (e3 n ls lb q tb m w e (.i s) (.i f) (.i c) (.i g) (.s fb r) (.bool true) (.i x) (.bool true)) H0 :=
 hx 0 60 [jD 14 2 g0]
theorem Qjk (H:Heap) (lb q:Nat) (tb m:Nat) (w e:Int) (s f:Int) (c g:Int) (fb r:Nat) (x:Int) {H0:Heap} (g0:CM F 23 [.i n,.sl lb 0 q none q 3] H (.tuple [.i x,.bool false]) H0) (y15 y16:HV:=Ud): RU F 3 4094 B3 (e3 n ls lb q tb m w e (.i s) (.i f) (.i c) (.i g) (.s fb r) (.bool true) y15 y16) H .normal (e3 n ls lb q tb m w e (.i s) (.i f) (.i c) (.i g) (.s fb r) (.bool true) (.i x) (.bool false)) H0 :=
 hx 0 60 [jD 14 2 g0]
theorem Qgc (H:Heap) (lb q:Nat) (tb m:Nat) (w e:Int) (s f:Int) (c g:Int) (fb r:Nat) (x:Int): RU F 3 8190 B3 (e3 n ls lb q tb m w e (.i s) (.i f) (.i c) (.i g) (.s fb r) (.bool true) (.i x) (.bool true)) H .normal (e3 n ls lb q tb m w e (.i s) (.i f) (.i c) (.i g) (.s fb r) (.bool true) (.i x) (.bool true)) H :=
 hx 0 60 []
theorem Qgd (H:Heap) (lb q:Nat) (tb m:Nat) (w e:Int) (s f:Int) (c g:Int) (fb r:Nat) (x:Int) {H0:Heap} (g0:s=0) (g1:f=6) (g2:CM F 18 [] H (.bool true) H0): RU F 3 8190 B3 (e3 n ls lb q tb m w e (.i s) (.i f) (.i c) (.i g) (.s fb r) (.bool true) (.i x) (.bool false)) H .ret (G9 (.i n) (.g ls) (.bool true) (.sl lb 0 q none q 3) (.s tb m) (.i w) (.i e) (.i s) (.i f) (.i c) (.i g) (.s fb r) (.bool true) (.i x) (.bool false)) H0 :=
 hx 0 60 [jT 16 1 H g0,jT 16 4 H g1,jD 16 7 g2]
theorem Qjl (H:Heap) (lb q:Nat) (tb m:Nat) (w e:Int) (s f:Int) (c g:Int) (fb r:Nat) (x:Int) {H0:Heap} (g0:s=x) (g1:f=0) (g2:CM F 18 [] H (.bool true) H0): RU F 3 8191 B3 (e3 n ls lb q tb m w e (.i s) (.i f) (.i c) (.i g) (.s fb r) (.bool true) (.i x) (.bool true)) H .ret (G9 (.i n) (.g ls) (.bool true) (.sl lb 0 q none q 3) (.s tb m) (.i w) (.i e) (.i s) (.i f) (.i c) (.i g) (.s fb r) (.bool true) (.i x) (.bool true)) H0 :=
 hx 0 60 [jT 17 2 H g0,jT 17 5 H g1,jD 17 8 g2]
end
section
variable {F:FuncId→Option (List HV→Option HV)}
noncomputable def B20:Code:=Try.f20.body.getD .skip
abbrev Qij (v0 v1 v4 v5 v6:HV):Env:=[(0,v0),(1,v1),(4,v4),(5,v5),(6,v6)]
theorem Qjm (n:Int) (ls:List HV) (H:Heap) (ob m sb k gb c:Nat) {H0:Heap} {H1:Heap} (g0:CM F 47 [.g ls] H (.s ob m) H0) (g1:CM F 50 [.i n,.g ls,.s ob m] H0 (.tuple [.s sb k,.s gb c]) H1) (g2:(k:Int)=qA.wrap (n-1)): RU F 20 1 B20 [(0,.i n),(1,.g ls)] H .ret (Qij (.i n) (.g ls) (.s sb k) (.bool true) (.s sb k)) H1 :=
 hx 0 60 [jD 1 3 g0,jD 1 4 g1,jT 2 5 H1 g2]
theorem Qjn (n:Int) (ls:List HV) (H:Heap) (ob m sb k gb c:Nat) {H0:Heap} {H1:Heap} (g0:CM F 47 [.g ls] H (.s ob m) H0) (g1:CM F 50 [.i n,.g ls,.s ob m] H0 (.tuple [.s sb k,.s gb c]) H1) (g2:¬((k:Int)=qA.wrap (n-1))): RU F 20 1 B20 [(0,.i n),(1,.g ls)] H .ret (Qij (.i n) (.g ls) (.s sb k) (.bool false) (.s sb k)) H1 :=
 hx 0 60 [jD 1 3 g0,jD 1 4 g1,jF 2 5 H1 g2]
end
section
variable {F:FuncId→Option (List HV→Option HV)}
noncomputable def B50:Code:=Try.f50.body.getD .skip
abbrev Ko (v0 v1 v2 v6 v7 v8 v9 v10 v11 v12 v13:HV):Env:=[(0,v0),(1,v1),(2,v2),(6,v6),(7,v7),(8,v8),(9,v9),(10,v10),(11,v11),(12,v12),(13,v13)]
end
abbrev e50 (n:Nat) (ls:List HV) (la:List HV) (u5 u6 u7 u8 u9 u10:HV):Env:=Ko (.n n) (.g ls) (.a la) (.imm .lit 1 []) (.imm .lit 1 []) u5 u6 u7 u8 u9 u10
section
variable {F:FuncId→Option (List HV→Option HV)}
variable (n:Nat) (ls la:List HV) (H:Heap)
include n ls la H
theorem Qjo:RU F 50 2 B50 [(0,.n n),(1,.g ls),(2,.a la)] H .normal (e50 n ls la Ud Ud Ud Ud Ud Ud) H :=
 hx 0 60 []
end
section
variable {F:FuncId→Option (List HV→Option HV)}
variable (n:Nat) (ls la:List HV) (H:Heap)
include n ls la H
theorem Qjp (gb:Nat) {H0:Heap} (g0:CM F 46 [.n n] H (.s gb n) H0) (y8 y9 y10 y11 y12 y13:HV:=Ud): RU F 50 6 B50 (e50 n ls la y8 y9 y10 y11 y12 y13) H .normal (e50 n ls la (.s gb n) y9 y10 y11 y12 y13) H0 :=
 hx 0 60 [jD 1 1 g0]
theorem Qjq (gb ib m:Nat) {H0:Heap} (g0:Va Tp false 99 (.i (ls.length:Int)) (.i (ls.length:Int)) H=some (.o ib m,H0)) (y9 y10 y11 y12 y13:HV:=Ud): RU F 50 14 B50 (e50 n ls la (.s gb n) y9 y10 y11 y12 y13) H .normal (e50 n ls la (.s gb n) (.o ib m) y10 y11 y12 y13) H0 :=
 hx 0 60 [jR 2 2 g0]
theorem Qjr (gb ib m:Nat) (y10 y11 y12 y13:HV:=Ud): RU F 50 60 B50 (e50 n ls la (.s gb n) (.o ib m) y10 y11 y12 y13) H .normal (e50 n ls la (.s gb n) (.o ib m) (.i 0) y11 y12 y13) H :=
 hx 0 60 []
theorem Qjs (gb ib jb m i k xb:Nat) (a b w x y:Int) {a0:HV} {H0:Heap} {H1:Heap} {a1:HV} {a2:HV} (g0:(i:Int)<(la.length:Int)) (g1:IX 24 (.a la) (.n i) (.vptr (.n k))) (g2:IX 22 (.g ls) (.n k) (.vptr (.agg [.i a,.i b,.i w]))) (g3:some (Wt (.agg [.i 0,.i 0,.i 0]) H)=some (a0,H0)) (g4:ST H0 42 (a0) (.agg [.i a,.i b,.i w]) H1) (g5:Qq Tp 42 a0 0=some (a1)) (g6:LD H1 3 (a1) (.i a)) (g7:IX 24 (.s gb n) (.i a) (.ptr gb ((a).toNat) 0 n)) (g8:LD H1 3 (.ptr gb ((a).toNat) 0 n) (.i x)) (g9:Qq Tp 42 a0 1=some (a2)) (g10:LD H1 3 (a2) (.i b)) (g11:IX 24 (.s gb n) (.i b) (.ptr gb ((b).toNat) 0 n)) (g12:LD H1 3 (.ptr gb ((b).toNat) 0 n) (.i y)) (g13:x=y) (y11 y12 y13:HV:=Ud): RU F 50 244 B50 (e50 n ls la (.s gb n) (.o ib m) (.n i) y11 y12 y13) H .normal (e50 n ls la (.s gb n) (.o ib m) (.i (qA.wrap ((i:Int)+1))) a0 y12 y13) H1 :=
 hx 0 60 [jT 4 3 H g0,jO 6 3 H g1,jO 6 5 H g2,jR 6 7 g3,jS 6 8 g4,jO 7 1 H1 g5,jO 7 2 H1 g6,jO 7 3 H1 g7,jO 7 4 H1 g8,jO 7 6 H1 g9,jO 7 7 H1 g10,jO 7 8 H1 g11,jO 7 9 H1 g12,jB 7 10 H1 (congrArg not (decide_eq_true g13))]
theorem Qjt (gb ib jb m i k xb:Nat) (a b w x y:Int) {a0:HV} {H0:Heap} {H1:Heap} {a1:HV} {a2:HV} {a3:HV} {a4:HV} {H2:Heap} {H3:Heap} (g0:(i:Int)<(la.length:Int)) (g1:IX 24 (.a la) (.n i) (.vptr (.n k))) (g2:IX 22 (.g ls) (.n k) (.vptr (.agg [.i a,.i b,.i w]))) (g3:some (Wt (.agg [.i 0,.i 0,.i 0]) H)=some (a0,H0)) (g4:ST H0 42 (a0) (.agg [.i a,.i b,.i w]) H1) (g5:Qq Tp 42 a0 0=some (a1)) (g6:LD H1 3 (a1) (.i a)) (g7:IX 24 (.s gb n) (.i a) (.ptr gb ((a).toNat) 0 n)) (g8:LD H1 3 (.ptr gb ((a).toNat) 0 n) (.i x)) (g9:Qq Tp 42 a0 1=some (a2)) (g10:LD H1 3 (a2) (.i b)) (g11:IX 24 (.s gb n) (.i b) (.ptr gb ((b).toNat) 0 n)) (g12:LD H1 3 (.ptr gb ((b).toNat) 0 n) (.i y)) (g13:¬(x=y)) (g14:Qq Tp 42 a0 0=some (a3)) (g15:LD H1 3 (a3) (.i a)) (g16:Qq Tp 42 a0 1=some (a4)) (g17:LD H1 3 (a4) (.i b)) (g18:CM F 49 [.s gb n,.i a,.i b] H1 (.s jb n) H2) (g19:IX 24 (.a la) (.n i) (.vptr (.n k))) (g20:IO 99 ib m k) (g21:ST H2 4 (.ptr ib k 0 m) (.bool true) H3) (y11 y12 y13:HV:=Ud): RU F 50 244 B50 (e50 n ls la (.s gb n) (.o ib m) (.n i) y11 y12 y13) H .normal (e50 n ls la (.s jb n) (.o ib m) (.i (qA.wrap ((i:Int)+1))) a0 y12 y13) H3 :=
 hx 0 60 [jT 4 3 H g0,jO 6 3 H g1,jO 6 5 H g2,jR 6 7 g3,jS 6 8 g4,jO 7 1 H1 g5,jO 7 2 H1 g6,jO 7 3 H1 g7,jO 7 4 H1 g8,jO 7 6 H1 g9,jO 7 7 H1 g10,jO 7 8 H1 g11,jO 7 9 H1 g12,jB 7 10 H1 (congrArg not (decide_eq_false g13)),jO 8 1 H1 g14,jO 8 2 H1 g15,jO 8 3 H1 g16,jO 8 4 H1 g17,jD 8 5 g18,jO 9 3 H2 g19,jO 9 5 H2 g20,jS 9 6 g21]
theorem Qju (gb ib jb m i k xb:Nat) (a b w x y:Int) (g0:¬((i:Int)<(la.length:Int))) (y11 y12 y13:HV:=Ud): RU F 50 244 B50 (e50 n ls la (.s gb n) (.o ib m) (.n i) y11 y12 y13) H (.exit 0) (e50 n ls la (.s gb n) (.o ib m) (.n i) y11 y12 y13) H :=
 hx 0 60 [jF 4 3 H g0]
theorem Qjv (gb ib m ob:Nat) {H0:Heap} (g0:some (HV.sl H.length 0 0 none 0 1,H++[Blk.b []])=some (.s ob 0,H0)) (y10 y11 y12 y13:HV:=Ud): RU F 50 62 B50 (e50 n ls la (.s gb n) (.o ib m) y10 y11 y12 y13) H .normal (e50 n ls la (.s gb n) (.o ib m) y10 y11 (.s ob 0) y13) H0 :=
 hx 0 60 [jR 10 0 g0]
theorem Qjw (gb ib m ob q:Nat) (y10 y11 y13:HV:=Ud): RU F 50 252 B50 (e50 n ls la (.s gb n) (.o ib m) y10 y11 (.s ob q) y13) H .normal (e50 n ls la (.s gb n) (.o ib m) y10 y11 (.s ob q) (.i 0)) H :=
 hx 0 60 []
theorem Qjx (gb ib m ob q i:Nat) (v:Bool) {H0:Heap} (g0:(i:Int)<(ls.length:Int)) (g1:IO 99 ib m i) (g2:LD H 4 (.ptr ib i 0 m) (.bool true)) (g3:W5 H 1 8 (.s ob q) [.n i]=some (.sl ob 0 (q+1) none (q+1) 1,H0)) (y10 y11:HV:=Ud): RU F 50 1012 B50 (e50 n ls la (.s gb n) (.o ib m) y10 y11 (.s ob q) (.n i)) H .normal (e50 n ls la (.s gb n) (.o ib m) y10 y11 (.sl ob 0 (q+1) none (q+1) 1) (.i (qA.wrap ((i:Int)+1)))) H0 :=
 hx 0 60 [jT 12 3 H g0,jO 14 2 H g1,jO 14 3 H g2,jR 15 3 g3]
theorem Qjy (gb ib m ob q i:Nat) (v:Bool) (g0:(i:Int)<(ls.length:Int)) (g1:IO 99 ib m i) (g2:LD H 4 (.ptr ib i 0 m) (.bool false)) (y10 y11:HV:=Ud): RU F 50 1012 B50 (e50 n ls la (.s gb n) (.o ib m) y10 y11 (.s ob q) (.n i)) H .normal (e50 n ls la (.s gb n) (.o ib m) y10 y11 (.s ob q) (.i (qA.wrap ((i:Int)+1)))) H :=
 hx 0 60 [jT 12 3 H g0,jO 14 2 H g1,jO 14 3 H g2]
theorem Qjz (gb ib m ob q i:Nat) (v:Bool) (g0:¬((i:Int)<(ls.length:Int))) (y10 y11:HV:=Ud): RU F 50 1012 B50 (e50 n ls la (.s gb n) (.o ib m) y10 y11 (.s ob q) (.n i)) H (.exit 2) (e50 n ls la (.s gb n) (.o ib m) y10 y11 (.s ob q) (.n i)) H :=
 hx 0 60 [jF 12 3 H g0]
theorem QjA (gb ib m ob q:Nat) (y10 y11 y13:HV:=Ud): RU F 50 127 B50 (e50 n ls la (.s gb n) (.o ib m) y10 y11 (.s ob q) y13) H .ret (Ko (.n n) (.g ls) (.a la) (.s ob q) (.s gb n) (.s gb n) (.o ib m) y10 y11 (.s ob q) y13) H :=
 hx 0 60 []
end
section
variable {F:FuncId→Option (List HV→Option HV)}
noncomputable def B47:Code:=Try.f47.body.getD .skip
abbrev JX (v0 v2 v3 v4 v5 v6:HV):Env:=[(0,v0),(2,v2),(3,v3),(4,v4),(5,v5),(6,v6)]
end
abbrev e47 (ls:List HV) (u2 u3 u4 u5:HV):Env:=JX (.g ls) (.imm .lit 1 []) u2 u3 u4 u5
section
variable {F:FuncId→Option (List HV→Option HV)}
variable (ls:List HV)
include ls
theorem QjB:RU F 47 2 B47 [(0,.g ls)] [] .normal (e47 ls Ud Ud Ud Ud) [] :=
 hx 0 60 []
end
section
variable {F:FuncId→Option (List HV→Option HV)}
variable (ls:List HV)
include ls
theorem QjC (H:Heap) {v0:HV} {H0:Heap} (g0:some (HV.sl H.length 0 0 none 0 1,H++[Blk.b []])=some (v0,H0)) (y3 y4 y5 y6:HV:=Ud): RU F 47 6 B47 (e47 ls y3 y4 y5 y6) H .normal (e47 ls v0 y4 y5 y6) H0 :=
 hx 0 60 [jR 1 0 g0]
theorem QjD (H:Heap) (ob q:Nat) (y4 y5 y6:HV:=Ud): RU F 47 28 B47 (e47 ls (.s ob q) y4 y5 y6) H .normal (e47 ls (.s ob q) (.i 0) y5 y6) H :=
 hx 0 60 []
theorem QjE (H:Heap) (ob q i:Nat) (g0:(i:Int)<(ls.length:Int)) (y5 y6:HV:=Ud): RU F 47 232 B47 (e47 ls (.s ob q) (.n i) y5 y6) H .normal (e47 ls (.s ob q) (.n i) y5 y6) H :=
 hx 0 60 [jT 3 3 H g0]
theorem QjF (H:Heap) (ob q i:Nat) (g0:¬((i:Int)<(ls.length:Int))) (y5 y6:HV:=Ud): RU F 47 232 B47 (e47 ls (.s ob q) (.n i) y5 y6) H (.exit 0) (e47 ls (.s ob q) (.n i) y5 y6) H :=
 hx 0 60 [jF 3 3 H g0]
theorem QjG (H:Heap) (ob q i:Nat) (y5 y6:HV:=Ud): RU F 47 1864 B47 (e47 ls (.s ob q) (.n i) y5 y6) H .normal (e47 ls (.s ob q) (.n i) (.i 0) y6) H :=
 hx 0 60 []
theorem QjH (H:Heap) (ob q i k x:Nat) (a b w a2 b2 w2:Int) (g0:(k:Int)<(q:Int)) (g1:IS 24 ob q k) (g2:LD H 3 (.ptr ob k 0 q) (.n x)) (g3:IX 22 (.g ls) (.n x) (.vptr (.agg [.i a,.i b,.i w]))) (g4:IX 22 (.g ls) (.n i) (.vptr (.agg [.i a2,.i b2,.i w2]))) (g5:w≤w2) (y6:HV:=Ud): RU F 47 14920 B47 (e47 ls (.s ob q) (.n i) (.n k) y6) H .normal (e47 ls (.s ob q) (.n i) (.i (qA.wrap ((k:Int)+1))) y6) H :=
 hx 0 60 [jT 6 3 H g0,jO 6 8 H g1,jO 6 9 H g2,jO 6 10 H g3,jO 6 15 H g4,jT 6 18 H g5]
theorem QjI (H:Heap) (ob q i k x:Nat) (a b w a2 b2 w2:Int) (g0:(k:Int)<(q:Int)) (g1:IS 24 ob q k) (g2:LD H 3 (.ptr ob k 0 q) (.n x)) (g3:IX 22 (.g ls) (.n x) (.vptr (.agg [.i a,.i b,.i w]))) (g4:IX 22 (.g ls) (.n i) (.vptr (.agg [.i a2,.i b2,.i w2]))) (g5:¬(w≤w2)) (y6:HV:=Ud): RU F 47 14920 B47 (e47 ls (.s ob q) (.n i) (.n k) y6) H (.exit 2) (e47 ls (.s ob q) (.n i) (.n k) y6) H :=
 hx 0 60 [jT 6 3 H g0,jO 6 8 H g1,jO 6 9 H g2,jO 6 10 H g3,jO 6 15 H g4,jF 6 18 H g5]
theorem QjJ (H:Heap) (ob q i k x:Nat) (a b w a2 b2 w2:Int) (g0:¬((k:Int)<(q:Int))) (y6:HV:=Ud): RU F 47 14920 B47 (e47 ls (.s ob q) (.n i) (.n k) y6) H (.exit 2) (e47 ls (.s ob q) (.n i) (.n k) y6) H :=
 hx 0 60 [jF 6 3 H g0]
theorem QjK (H:Heap) (ob q i k xb:Nat) {H0:Heap} {H1:Heap} {H2:Heap} {v0:HV} {H3:Heap} (g0:some (HV.sl H.length 0 0 none 0 1,H++[Blk.b []])=some (.s xb 0,H0)) (g1:W6 Tp 24 (.s ob q) none (some (.n k)) none=some (.sl ob 0 k none q 1)) (g2:Wq Tp .append [24,24] [.s xb 0,.sl ob 0 k none q 1] H0=some (.s xb k,H1)) (g3:W5 H1 1 8 (.s xb k) [.n i]=some (v0,H2)) (g4:W6 Tp 24 (.s ob q) (some (.n k)) none none=some (.sl ob k (q-k) none q 1)) (g5:Wq Tp .append [24,24] [v0,.sl ob k (q-k) none q 1] H2=some (.sl xb 0 (q+1) none (q+1) 1,H3)) (y6:HV:=Ud): RU F 47 3731 B47 (e47 ls (.s ob q) (.n i) (.n k) y6) H .normal (e47 ls (.sl xb 0 (q+1) none (q+1) 1) (.n i) (.n k) v0) H3 :=
 hx 0 60 [jR 8 0 g0,jO 9 3 H0 g1,jR 9 4 g2,jR 10 3 g3,jO 11 3 H2 g4,jR 11 4 g5]
theorem QjL (H:Heap) (ob q i:Nat) (y5 y6:HV:=Ud): RU F 47 467 B47 (e47 ls (.s ob q) (.n i) y5 y6) H .normal (e47 ls (.s ob q) (.i (qA.wrap ((i:Int)+1))) y5 y6) H :=
 hx 0 60 []
theorem QjM (H:Heap) (ob q:Nat) (y4 y5 y6:HV:=Ud): RU F 47 15 B47 (e47 ls (.s ob q) y4 y5 y6) H .ret (JX (.g ls) (.s ob q) (.s ob q) y4 y5 y6) H :=
 hx 0 60 []
end
noncomputable def B52:Code:=Try.f52.body.getD .skip
abbrev Qd0 (v0 v1 v2 v6:HV):Env:=[(0,v0),(1,v1),(2,v2),(6,v6)]
section
variable (n lo hi:Int)
include n lo hi
theorem QqU (g0:lo≤n) (g1:n≤hi): RT pol 52 (sub [] B52) [(0,.i n),(1,.i lo),(2,.i hi)] [] .ret (Qd0 (.i n) (.i lo) (.i hi) (.bool true)) [] :=
 hx 0 60 [jT 1 2 [] g0,jT 1 6 [] g1]
theorem QqV (g0:lo≤n) (g1:¬(n≤hi)): RT pol 52 (sub [] B52) [(0,.i n),(1,.i lo),(2,.i hi)] [] .ret (Qd0 (.i n) (.i lo) (.i hi) (.bool false)) [] :=
 hx 0 60 [jT 1 2 [] g0,jF 1 6 [] g1]
theorem QqW (g0:¬(lo≤n)): RT pol 52 (sub [] B52) [(0,.i n),(1,.i lo),(2,.i hi)] [] .ret (Qd0 (.i n) (.i lo) (.i hi) (.bool false)) [] :=
 hx 0 60 [jF 1 2 [] g0]
end
noncomputable def B13:Code:=Try.f13.body.getD .skip
abbrev QqX (v0 v2 v3:HV):Env:=[(0,v0),(2,v2),(3,v3)]
theorem QrK (ls:List HV) (m:Nat) (g0:W6 Tp 22 (.g ls) none (some (.i (min (ls.length:Int) 61))) none=some (.g (ls.take m))) (g1:W5 [.arr 3 [] true 0] 3 24 (.sl 0 0 0 none 0 3) (ls.take m)=some (.sl 0 0 ((ls.take m).length) none ((ls.take m).length) 3,[.arr 3 (ls.take m) true 0])): RT pol 13 (sub [] B13) [(0,.g ls)] [] .ret (QqX (.g ls) (.sl 0 0 ((ls.take m).length) none ((ls.take m).length) 3) (.sl 0 0 0 none 0 3)) [.arr 3 (ls.take m) true 0] :=
 hx 0 60 [jO 2 5 [.arr 3 [] true 0] g0,jR 2 6 g1]
noncomputable def B51:Code:=Try.f51.body.getD .skip
abbrev Gc (v0 v1 v4 v5:HV):Env:=[(0,v0),(1,v1),(4,v4),(5,v5)]
abbrev e51 (la:List HV) (x:Int) (u3:HV):Env:=Gc (.a la) (.i x) (.bool false) u3
section
variable (la:List HV) (x:Int)
include la x
theorem QjN:RT pol 51 (sn 2 B51) [(0,.a la),(1,.i x)] [] .normal (e51 la x Ud) [] :=
 hx 0 60 []
end
section
variable (la:List HV) (x:Int)
include la x
theorem QjO (y5:HV:=Ud): RT pol 51 (sn 12 B51) (e51 la x y5) [] .normal (e51 la x (.i 0)) [] :=
 hx 0 60 []
theorem QjP (j:Nat) {x0:Int} (g0:(j:Int)<(la.length:Int)) (g1:IX 24 (.a la) (.n j) (.vptr (.i x0))) (g2:x0=x): RT pol 51 (sn 52 B51) (e51 la x (.n j)) [] .ret (Gc (.a la) (.i x) (.bool true) (.n j)) [] :=
 hx 0 60 [jT 2 3 [] g0,jO 4 2 [] g1,jT 4 5 [] g2]
theorem QjQ (j:Nat) {x0:Int} (g0:(j:Int)<(la.length:Int)) (g1:IX 24 (.a la) (.n j) (.vptr (.i x0))) (g2:¬(x0=x)): RT pol 51 (sn 52 B51) (e51 la x (.n j)) [] .normal (e51 la x (.i (qA.wrap ((j:Int)+1)))) [] :=
 hx 0 60 [jT 2 3 [] g0,jO 4 2 [] g1,jF 4 5 [] g2]
theorem QjR (j:Nat) (g0:¬((j:Int)<(la.length:Int))): RT pol 51 (sn 52 B51) (e51 la x (.n j)) [] (.exit 0) (e51 la x (.n j)) [] :=
 hx 0 60 [jF 2 3 [] g0]
theorem QjS (y5:HV:=Ud): RT pol 51 (sn 7 B51) (e51 la x y5) [] .ret (e51 la x y5) [] :=
 hx 0 60 []
end
noncomputable def B21:Code:=Try.f21.body.getD .skip
abbrev Gd (v0 v1 v4 v5:HV):Env:=[(0,v0),(1,v1),(4,v4),(5,v5)]
abbrev e21 (la:List HV) (lb:List HV) (u3:HV):Env:=Gd (.a la) (.a lb) (.bool false) u3
section
variable (la lb:List HV)
include la lb
theorem QjT:RT pol 21 (sn 2 B21) [(0,.a la),(1,.a lb)] [] .normal (e21 la lb Ud) [] :=
 hx 0 60 []
end
section
variable (la lb:List HV)
include la lb
theorem QjU (g0:(la.length:Int)=(lb.length:Int)) (y5:HV:=Ud): RT pol 21 (sn 6 B21) (e21 la lb y5) [] .normal (e21 la lb y5) [] :=
 hx 0 60 [jB 1 4 [] (congrArg not (decide_eq_true g0))]
theorem QjV (g0:¬((la.length:Int)=(lb.length:Int))) (y5:HV:=Ud): RT pol 21 (sn 6 B21) (e21 la lb y5) [] .ret (e21 la lb y5) [] :=
 hx 0 60 [jB 1 4 [] (congrArg not (decide_eq_false g0))]
theorem QjW (y5:HV:=Ud): RT pol 21 (sn 28 B21) (e21 la lb y5) [] .normal (e21 la lb (.i 0)) [] :=
 hx 0 60 []
theorem QjX (j:Nat) {x0:Int} {x1:Int} (g0:(j:Int)<(la.length:Int)) (g1:IX 24 (.a la) (.n j) (.vptr (.i x0))) (g2:IX 24 (.a lb) (.n j) (.vptr (.i x1))) (g3:x0=x1): RT pol 21 (sn 116 B21) (e21 la lb (.n j)) [] .normal (e21 la lb (.i (qA.wrap ((j:Int)+1)))) [] :=
 hx 0 60 [jT 4 3 [] g0,jO 6 2 [] g1,jO 6 6 [] g2,jB 6 8 [] (congrArg not (decide_eq_true g3))]
theorem QjY (j:Nat) {x0:Int} {x1:Int} (g0:(j:Int)<(la.length:Int)) (g1:IX 24 (.a la) (.n j) (.vptr (.i x0))) (g2:IX 24 (.a lb) (.n j) (.vptr (.i x1))) (g3:¬(x0=x1)): RT pol 21 (sn 116 B21) (e21 la lb (.n j)) [] .ret (e21 la lb (.n j)) [] :=
 hx 0 60 [jT 4 3 [] g0,jO 6 2 [] g1,jO 6 6 [] g2,jB 6 8 [] (congrArg not (decide_eq_false g3))]
theorem QjZ (j:Nat) (g0:¬((j:Int)<(la.length:Int))): RT pol 21 (sn 116 B21) (e21 la lb (.n j)) [] (.exit 0) (e21 la lb (.n j)) [] :=
 hx 0 60 [jF 4 3 [] g0]
theorem Qj0 (y5:HV:=Ud): RT pol 21 (sn 15 B21) (e21 la lb y5) [] .ret (Gd (.a la) (.a lb) (.bool true) y5) [] :=
 hx 0 60 []
end
noncomputable def B42:Code:=Try.f42.body.getD .skip
abbrev QbE (v0 v1 v2 v4 v5 v7 v8 v9 v10:HV):Env:=[(0,v0),(1,v1),(2,v2),(4,v4),(5,v5),(7,v7),(8,v8),(9,v9),(10,v10)]
abbrev e42 (n:Int) (ls:List HV) (la:List HV) (u4 u5 u6 u7 u8:HV):Env:=QbE (.N n ls) (.a la) (.q 0) (.i 0) u4 u5 u6 u7 u8
section
variable (n:Int) (ls la:List HV)
include n ls la
theorem Qj1:RT pol 42 (sn 2 B42) [(0,.N n ls),(1,.a la)] [] .normal (e42 n ls la Ud Ud Ud Ud Ud) [.arr 2 [.N n ls] true 0] :=
 hx 0 60 []
end
section
variable (n:Int) (ls la:List HV)
include n ls la
theorem Qj2 (y5 y7 y8 y9 y10:HV:=Ud): RT pol 42 (sn 6 B42) (e42 n ls la y5 y7 y8 y9 y10) [.arr 2 [.N n ls] true 0] .normal (e42 n ls la (.i 0) y7 y8 y9 y10) [.arr 2 [.N n ls] true 0] :=
 hx 0 60 []
theorem Qj3 (s:Int) (y7 y8 y9 y10:HV:=Ud): RT pol 42 (sn 28 B42) (e42 n ls la (.i s) y7 y8 y9 y10) [.arr 2 [.N n ls] true 0] .normal (e42 n ls la (.i s) y7 (.a la) (.i (la.length:Int)) (.i 0)) [.arr 2 [.N n ls] true 0] :=
 hx 0 60 []
theorem Qj4 (s:Int) (j q k:Nat) (a b w:Int) (g0:(j:Int)<(q:Int)) (g1:IX 24 (.a la) (.n j) (.vptr (.n k))) (g2:IX 22 (.g ls) (.n k) (.vptr (.agg [.i a,.i b,.i w]))) (y7:HV:=Ud): RT pol 42 (sn 116 B42) (e42 n ls la (.i s) y7 (.a la) (.n q) (.n j)) [.arr 2 [.N n ls] true 0] .normal (e42 n ls la (.i (qA.wrap (s+w))) (.n k) (.a la) (.n q) (.i (qA.wrap ((j:Int)+1)))) [.arr 2 [.N n ls] true 0] :=
 hx 0 60 [jT 3 0 [.arr 2 [.N n ls] true 0] g0,jO 4 0 [.arr 2 [.N n ls] true 0] g1,jO 5 4 [.arr 2 [.N n ls] true 0] g2]
theorem Qj5 (s:Int) (j q k:Nat) (a b w:Int) (g0:¬((j:Int)<(q:Int))) (y7:HV:=Ud): RT pol 42 (sn 116 B42) (e42 n ls la (.i s) y7 (.a la) (.n q) (.n j)) [.arr 2 [.N n ls] true 0] (.exit 0) (e42 n ls la (.i s) y7 (.a la) (.n q) (.n j)) [.arr 2 [.N n ls] true 0] :=
 hx 0 60 [jF 3 0 [.arr 2 [.N n ls] true 0] g0]
theorem Qj6 (s:Int) (y7 y8 y9 y10:HV:=Ud): RT pol 42 (sn 15 B42) (e42 n ls la (.i s) y7 y8 y9 y10) [.arr 2 [.N n ls] true 0] .ret (QbE (.N n ls) (.a la) (.q 0) (.i s) (.i s) y7 y8 y9 y10) [.arr 2 [.N n ls] true 0] :=
 hx 0 60 []
end
noncomputable def B22:Code:=Try.f22.body.getD .skip
abbrev QbF (v0 v1 v4 v5 v6:HV):Env:=[(0,v0),(1,v1),(4,v4),(5,v5),(6,v6)]
abbrev e22 (ls:List HV) (la:List HV) (u3 u4:HV):Env:=QbF (.g ls) (.a la) (.i 0) u3 u4
section
variable (ls la:List HV)
include ls la
theorem Qj7:RT pol 22 (sn 2 B22) [(0,.g ls),(1,.a la)] [] .normal (e22 ls la Ud Ud) [] :=
 hx 0 60 []
end
section
variable (ls la:List HV)
include ls la
theorem Qj8 (y5 y6:HV:=Ud): RT pol 22 (sn 6 B22) (e22 ls la y5 y6) [] .normal (e22 ls la (.i 0) y6) [] :=
 hx 0 60 []
theorem Qj9 (s:Int) (y6:HV:=Ud): RT pol 22 (sn 28 B22) (e22 ls la (.i s) y6) [] .normal (e22 ls la (.i s) (.i 0)) [] :=
 hx 0 60 []
theorem Qka (s:Int) (j k:Nat) (a b w:Int) (g0:(j:Int)<(la.length:Int)) (g1:IX 24 (.a la) (.n j) (.vptr (.n k))) (g2:IX 22 (.g ls) (.n k) (.vptr (.agg [.i a,.i b,.i w]))): RT pol 22 (sn 116 B22) (e22 ls la (.i s) (.n j)) [] .normal (e22 ls la (.i (qA.wrap (s+w))) (.i (qA.wrap ((j:Int)+1)))) [] :=
 hx 0 60 [jT 3 3 [] g0,jO 5 4 [] g1,jO 5 6 [] g2]
theorem Qkb (s:Int) (j k:Nat) (a b w:Int) (g0:¬((j:Int)<(la.length:Int))): RT pol 22 (sn 116 B22) (e22 ls la (.i s) (.n j)) [] (.exit 0) (e22 ls la (.i s) (.n j)) [] :=
 hx 0 60 [jF 3 3 [] g0]
theorem Qkc (s:Int) (y6:HV:=Ud): RT pol 22 (sn 15 B22) (e22 ls la (.i s) y6) [] .ret (QbF (.g ls) (.a la) (.i s) (.i s) y6) [] :=
 hx 0 60 []
end
noncomputable def B46:Code:=Try.f46.body.getD .skip
abbrev QbG (v0 v2 v3 v4:HV):Env:=[(0,v0),(2,v2),(3,v3),(4,v4)]
abbrev e46 (n:Int) (u2 u3:HV):Env:=QbG (.i n) (.imm .lit 1 []) u2 u3
section
variable (n:Int)
include n
theorem Qkd:RT pol 46 (sn 2 B46) [(0,.i n)] [] .normal (e46 n Ud Ud) [] :=
 hx 0 60 []
end
section
variable (n:Int)
include n
theorem Qke (y3 y4:HV:=Ud): RT pol 46 (sn 6 B46) (e46 n y3 y4) [] .normal (e46 n (.s 0 0) y4) [.b []] :=
 hx 0 60 []
theorem Qkf (q:Nat) (os:List HV) (y4:HV:=Ud): RT pol 46 (sn 28 B46) (e46 n (.s 0 q) y4) [.b os] .normal (e46 n (.s 0 q) (.i 0)) [.b os] :=
 hx 0 60 []
theorem Qkg (q:Nat) (os:List HV) (j:Nat) (g0:(j:Int)<n) (g1:W5 [.b os] 1 8 (.s 0 q) [.n j]=some (.sl 0 0 (q+1) none (q+1) 1,[.arr 1 (os++[.n j]) true 0])): RT pol 46 (sn 116 B46) (e46 n (.s 0 q) (.n j)) [.b os] .normal (e46 n (.sl 0 0 (q+1) none (q+1) 1) (.i (qA.wrap ((j:Int)+1)))) [.arr 1 (os++[.n j]) true 0] :=
 hx 0 60 [jT 3 2 [.b os] g0,jR 5 3 g1]
theorem Qkh (q:Nat) (os:List HV) (j:Nat) (g0:¬((j:Int)<n)): RT pol 46 (sn 116 B46) (e46 n (.s 0 q) (.n j)) [.b os] (.exit 0) (e46 n (.s 0 q) (.n j)) [.b os] :=
 hx 0 60 [jF 3 2 [.b os] g0]
theorem Qki (q:Nat) (os:List HV) (y4:HV:=Ud): RT pol 46 (sn 15 B46) (e46 n (.s 0 q) y4) [.b os] .ret (QbG (.i n) (.s 0 q) (.s 0 q) y4) [.b os] :=
 hx 0 60 []
end
noncomputable def B49:Code:=Try.f49.body.getD .skip
abbrev QbH (v0 v1 v2 v6 v7 v8 v9 v10:HV):Env:=[(0,v0),(1,v1),(2,v2),(6,v6),(7,v7),(8,v8),(9,v9),(10,v10)]
abbrev e49 (la:List HV) (a:Int) (b:Int) (u4 u5 u6 u7:HV):Env:=QbH (.a la) (.i a) (.i b) (.imm .lit 1 []) u4 u5 u6 u7
section
variable (la:List HV) (a b:Int)
include la a b
theorem Qkj:RT pol 49 (sn 2 B49) [(0,.a la),(1,.i a),(2,.i b)] [] .normal (e49 la a b Ud Ud Ud Ud) [] :=
 hx 0 60 []
end
section
variable (la:List HV) (a b:Int)
include la a b
theorem Qkk {x0:Int} {x1:Int} {x2:Int} {x3:Int} (g0:IX 24 (.a la) (.i a) (.vptr (.i x0))) (g1:IX 24 (.a la) (.i b) (.vptr (.i x1))) (g2:IX 24 (.a la) (.i a) (.vptr (.i x2))) (g3:IX 24 (.a la) (.i b) (.vptr (.i x3))) (y7 y8 y9 y10:HV:=Ud): RT pol 49 (sn 6 B49) (e49 la a b y7 y8 y9 y10) [] .normal (e49 la a b (.i (min x0 x1)) (.i (max x2 x3)) y9 y10) [] :=
 hx 0 60 [jO 1 2 [] g0,jO 1 6 [] g1,jO 1 11 [] g2,jO 1 15 [] g3]
theorem Qkl (lo hi:Int) (y9 y10:HV:=Ud): RT pol 49 (sn 14 B49) (e49 la a b (.i lo) (.i hi) y9 y10) [] .normal (e49 la a b (.i lo) (.i hi) (.s 0 0) y10) [.b []] :=
 hx 0 60 []
theorem Qkm (lo hi:Int) (q:Nat) (os:List HV) (y10:HV:=Ud): RT pol 49 (sn 60 B49) (e49 la a b (.i lo) (.i hi) (.s 0 q) y10) [.b os] .normal (e49 la a b (.i lo) (.i hi) (.s 0 q) (.i 0)) [.b os] :=
 hx 0 60 []
theorem Qkn (lo hi:Int) (q:Nat) (os:List HV) (j:Nat) {x0:Int} (g0:(j:Int)<(la.length:Int)) (g1:IX 24 (.a la) (.n j) (.vptr (.i x0))) (g2:x0=hi) (g3:W5 [.b os] 1 8 (.s 0 q) [.i lo]=some (.sl 0 0 (q+1) none (q+1) 1,[.arr 1 (os++[.i lo]) true 0])): RT pol 49 (sn 244 B49) (e49 la a b (.i lo) (.i hi) (.s 0 q) (.n j)) [.b os] .normal (e49 la a b (.i lo) (.i hi) (.sl 0 0 (q+1) none (q+1) 1) (.i (qA.wrap ((j:Int)+1)))) [.arr 1 (os++[.i lo]) true 0] :=
 hx 0 60 [jT 4 3 [.b os] g0,jO 6 2 [.b os] g1,jT 6 5 [.b os] g2,jR 7 3 g3]
theorem Qko (lo hi:Int) (q:Nat) (os:List HV) (j:Nat) {x0:Int} {x1:Int} (g0:(j:Int)<(la.length:Int)) (g1:IX 24 (.a la) (.n j) (.vptr (.i x0))) (g2:¬(x0=hi)) (g3:IX 24 (.a la) (.n j) (.vptr (.i x1))) (g4:W5 [.b os] 1 8 (.s 0 q) [.i x1]=some (.sl 0 0 (q+1) none (q+1) 1,[.arr 1 (os++[.i x1]) true 0])): RT pol 49 (sn 244 B49) (e49 la a b (.i lo) (.i hi) (.s 0 q) (.n j)) [.b os] .normal (e49 la a b (.i lo) (.i hi) (.sl 0 0 (q+1) none (q+1) 1) (.i (qA.wrap ((j:Int)+1)))) [.arr 1 (os++[.i x1]) true 0] :=
 hx 0 60 [jT 4 3 [.b os] g0,jO 6 2 [.b os] g1,jF 6 5 [.b os] g2,jO 8 3 [.b os] g3,jR 8 6 g4]
theorem Qkp (lo hi:Int) (q:Nat) (os:List HV) (j:Nat) (g0:¬((j:Int)<(la.length:Int))): RT pol 49 (sn 244 B49) (e49 la a b (.i lo) (.i hi) (.s 0 q) (.n j)) [.b os] (.exit 0) (e49 la a b (.i lo) (.i hi) (.s 0 q) (.n j)) [.b os] :=
 hx 0 60 [jF 4 3 [.b os] g0]
theorem Qkq (lo hi:Int) (q:Nat) (os:List HV) (y10:HV:=Ud): RT pol 49 (sn 31 B49) (e49 la a b (.i lo) (.i hi) (.s 0 q) y10) [.b os] .ret (QbH (.a la) (.i a) (.i b) (.s 0 q) (.i lo) (.i hi) (.s 0 q) y10) [.b os] :=
 hx 0 60 []
end
noncomputable def B17:Code:=Try.f17.body.getD .skip
abbrev YM (v0 v1 v4 v5 v6:HV):Env:=[(0,v0),(1,v1),(4,v4),(5,v5),(6,v6)]
abbrev e17 (n:Int) (ls:List HV) (u3 u4:HV):Env:=YM (.i n) (.g ls) (.bool false) u3 u4
section
variable (n:Int) (ls:List HV)
include n ls
theorem Qkr:RT pol 17 (sn 2 B17) [(0,.i n),(1,.g ls)] [] .normal (e17 n ls Ud Ud) [] :=
 hx 0 60 []
end
section
variable (n:Int) (ls:List HV)
include n ls
theorem Qks (y5 y6:HV:=Ud): RT pol 17 (sn 12 B17) (e17 n ls y5 y6) [] .normal (e17 n ls (.i 0) y6) [] :=
 hx 0 60 []
theorem Qkt (j:Nat) (a b w:Int) (g0:(j:Int)<(ls.length:Int)) (g1:IX 22 (.g ls) (.n j) (.vptr (.agg [.i a,.i b,.i w]))) (g2:a<0) (y6:HV:=Ud): RT pol 17 (sn 52 B17) (e17 n ls (.n j) y6) [] .ret (e17 n ls (.n j) (.q 0)) [.arr 3 [.agg [.i a,.i b,.i w]] true 0] :=
 hx 0 60 [jT 2 3 [] g0,jO 4 2 [] g1,jT 5 2 [.arr 3 [.agg [.i a,.i b,.i w]] true 0] g2]
theorem Qku (j:Nat) (a b w:Int) (g0:(j:Int)<(ls.length:Int)) (g1:IX 22 (.g ls) (.n j) (.vptr (.agg [.i a,.i b,.i w]))) (g2:¬(a<0)) (g3:n≤a) (y6:HV:=Ud): RT pol 17 (sn 52 B17) (e17 n ls (.n j) y6) [] .ret (e17 n ls (.n j) (.q 0)) [.arr 3 [.agg [.i a,.i b,.i w]] true 0] :=
 hx 0 60 [jT 2 3 [] g0,jO 4 2 [] g1,jF 5 2 [.arr 3 [.agg [.i a,.i b,.i w]] true 0] g2,jT 5 7 [.arr 3 [.agg [.i a,.i b,.i w]] true 0] g3]
theorem Qkv (j:Nat) (a b w:Int) (g0:(j:Int)<(ls.length:Int)) (g1:IX 22 (.g ls) (.n j) (.vptr (.agg [.i a,.i b,.i w]))) (g2:¬(a<0)) (g3:¬(n≤a)) (g4:b<0) (y6:HV:=Ud): RT pol 17 (sn 52 B17) (e17 n ls (.n j) y6) [] .ret (e17 n ls (.n j) (.q 0)) [.arr 3 [.agg [.i a,.i b,.i w]] true 0] :=
 hx 0 60 [jT 2 3 [] g0,jO 4 2 [] g1,jF 5 2 [.arr 3 [.agg [.i a,.i b,.i w]] true 0] g2,jF 5 7 [.arr 3 [.agg [.i a,.i b,.i w]] true 0] g3,jT 5 12 [.arr 3 [.agg [.i a,.i b,.i w]] true 0] g4]
theorem Qkw (j:Nat) (a b w:Int) (g0:(j:Int)<(ls.length:Int)) (g1:IX 22 (.g ls) (.n j) (.vptr (.agg [.i a,.i b,.i w]))) (g2:¬(a<0)) (g3:¬(n≤a)) (g4:¬(b<0)) (g5:n≤b) (y6:HV:=Ud): RT pol 17 (sn 52 B17) (e17 n ls (.n j) y6) [] .ret (e17 n ls (.n j) (.q 0)) [.arr 3 [.agg [.i a,.i b,.i w]] true 0] :=
 hx 0 60 [jT 2 3 [] g0,jO 4 2 [] g1,jF 5 2 [.arr 3 [.agg [.i a,.i b,.i w]] true 0] g2,jF 5 7 [.arr 3 [.agg [.i a,.i b,.i w]] true 0] g3,jF 5 12 [.arr 3 [.agg [.i a,.i b,.i w]] true 0] g4,jT 5 18 [.arr 3 [.agg [.i a,.i b,.i w]] true 0] g5]
theorem Qkx (j:Nat) (a b w:Int) (g0:(j:Int)<(ls.length:Int)) (g1:IX 22 (.g ls) (.n j) (.vptr (.agg [.i a,.i b,.i w]))) (g2:¬(a<0)) (g3:¬(n≤a)) (g4:¬(b<0)) (g5:¬(n≤b)) (g6:a=b) (y6:HV:=Ud): RT pol 17 (sn 52 B17) (e17 n ls (.n j) y6) [] .ret (e17 n ls (.n j) (.q 0)) [.arr 3 [.agg [.i a,.i b,.i w]] true 0] :=
 hx 0 60 [jT 2 3 [] g0,jO 4 2 [] g1,jF 5 2 [.arr 3 [.agg [.i a,.i b,.i w]] true 0] g2,jF 5 7 [.arr 3 [.agg [.i a,.i b,.i w]] true 0] g3,jF 5 12 [.arr 3 [.agg [.i a,.i b,.i w]] true 0] g4,jF 5 18 [.arr 3 [.agg [.i a,.i b,.i w]] true 0] g5,jT 5 25 [.arr 3 [.agg [.i a,.i b,.i w]] true 0] g6]
theorem Qky (j:Nat) (a b w:Int) (g0:(j:Int)<(ls.length:Int)) (g1:IX 22 (.g ls) (.n j) (.vptr (.agg [.i a,.i b,.i w]))) (g2:¬(a<0)) (g3:¬(n≤a)) (g4:¬(b<0)) (g5:¬(n≤b)) (g6:¬(a=b)) (g7:w<0) (y6:HV:=Ud): RT pol 17 (sn 52 B17) (e17 n ls (.n j) y6) [] .ret (e17 n ls (.n j) (.q 0)) [.arr 3 [.agg [.i a,.i b,.i w]] true 0] :=
 hx 0 60 [jT 2 3 [] g0,jO 4 2 [] g1,jF 5 2 [.arr 3 [.agg [.i a,.i b,.i w]] true 0] g2,jF 5 7 [.arr 3 [.agg [.i a,.i b,.i w]] true 0] g3,jF 5 12 [.arr 3 [.agg [.i a,.i b,.i w]] true 0] g4,jF 5 18 [.arr 3 [.agg [.i a,.i b,.i w]] true 0] g5,jF 5 25 [.arr 3 [.agg [.i a,.i b,.i w]] true 0] g6,jT 5 30 [.arr 3 [.agg [.i a,.i b,.i w]] true 0] g7]
theorem Qkz (j:Nat) (a b w:Int) (g0:(j:Int)<(ls.length:Int)) (g1:IX 22 (.g ls) (.n j) (.vptr (.agg [.i a,.i b,.i w]))) (g2:¬(a<0)) (g3:¬(n≤a)) (g4:¬(b<0)) (g5:¬(n≤b)) (g6:¬(a=b)) (g7:¬(w<0)) (g8:1000<w) (y6:HV:=Ud): RT pol 17 (sn 52 B17) (e17 n ls (.n j) y6) [] .ret (e17 n ls (.n j) (.q 0)) [.arr 3 [.agg [.i a,.i b,.i w]] true 0] :=
 hx 0 60 [jT 2 3 [] g0,jO 4 2 [] g1,jF 5 2 [.arr 3 [.agg [.i a,.i b,.i w]] true 0] g2,jF 5 7 [.arr 3 [.agg [.i a,.i b,.i w]] true 0] g3,jF 5 12 [.arr 3 [.agg [.i a,.i b,.i w]] true 0] g4,jF 5 18 [.arr 3 [.agg [.i a,.i b,.i w]] true 0] g5,jF 5 25 [.arr 3 [.agg [.i a,.i b,.i w]] true 0] g6,jF 5 30 [.arr 3 [.agg [.i a,.i b,.i w]] true 0] g7,jT 5 35 [.arr 3 [.agg [.i a,.i b,.i w]] true 0] g8]
theorem QkA (j:Nat) (a b w:Int) (g0:(j:Int)<(ls.length:Int)) (g1:IX 22 (.g ls) (.n j) (.vptr (.agg [.i a,.i b,.i w]))) (g2:¬(a<0)) (g3:¬(n≤a)) (g4:¬(b<0)) (g5:¬(n≤b)) (g6:¬(a=b)) (g7:¬(w<0)) (g8:¬(1000<w)) (y6:HV:=Ud): RT pol 17 (sn 52 B17) (e17 n ls (.n j) y6) [] .normal (e17 n ls (.i (qA.wrap ((j:Int)+1))) (.q 0)) [.arr 3 [.agg [.i a,.i b,.i w]] true 0] :=
 hx 0 60 [jT 2 3 [] g0,jO 4 2 [] g1,jF 5 2 [.arr 3 [.agg [.i a,.i b,.i w]] true 0] g2,jF 5 7 [.arr 3 [.agg [.i a,.i b,.i w]] true 0] g3,jF 5 12 [.arr 3 [.agg [.i a,.i b,.i w]] true 0] g4,jF 5 18 [.arr 3 [.agg [.i a,.i b,.i w]] true 0] g5,jF 5 25 [.arr 3 [.agg [.i a,.i b,.i w]] true 0] g6,jF 5 30 [.arr 3 [.agg [.i a,.i b,.i w]] true 0] g7,jF 5 35 [.arr 3 [.agg [.i a,.i b,.i w]] true 0] g8]
theorem QkB (j:Nat) (a b w:Int) (g0:¬((j:Int)<(ls.length:Int))) (y6:HV:=Ud): RT pol 17 (sn 52 B17) (e17 n ls (.n j) y6) [] (.exit 0) (e17 n ls (.n j) y6) [] :=
 hx 0 60 [jF 2 3 [] g0]
theorem QkC (g0:1≤n) (g1:n≤16) (g2:(ls.length:Int)≤60) (y5 y6:HV:=Ud): RT pol 17 (sn 7 B17) (e17 n ls y5 y6) [] .ret (YM (.i n) (.g ls) (.bool true) y5 y6) [] :=
 hx 0 60 [jT 7 1 [] g0,jT 7 4 [] g1,jT 7 9 [] g2]
theorem QkD (g0:1≤n) (g1:n≤16) (g2:¬((ls.length:Int)≤60)) (y5 y6:HV:=Ud): RT pol 17 (sn 7 B17) (e17 n ls y5 y6) [] .ret (e17 n ls y5 y6) [] :=
 hx 0 60 [jT 7 1 [] g0,jT 7 4 [] g1,jF 7 9 [] g2]
theorem QkE (g0:1≤n) (g1:¬(n≤16)) (y5 y6:HV:=Ud): RT pol 17 (sn 7 B17) (e17 n ls y5 y6) [] .ret (e17 n ls y5 y6) [] :=
 hx 0 60 [jT 7 1 [] g0,jF 7 4 [] g1]
theorem QkF (g0:¬(1≤n)) (y5 y6:HV:=Ud): RT pol 17 (sn 7 B17) (e17 n ls y5 y6) [] .ret (e17 n ls y5 y6) [] :=
 hx 0 60 [jF 7 1 [] g0]
end
end Go.Proofs.Ytiejmoglooaalaa
end
section
open Go Go.HL
namespace Go.Proofs.Ytiejmoglooaalaa
set_option linter.unusedSectionVars false
open Go.Proofs.Try renaming prog → Tp
open Go.HL.HV renaming undef → Ud
def Zv:List HV→Option HV:=f3 kI kI kI fun n lo hi=>some (.bool (decide (lo≤n∧n≤hi)))
theorem VV:QP Tp 52 Zv:=by
 refine Qn (pol:=pol) (fn:=Try.f52) (cd:=B52) Qh Vr (by kernel_rfl) (by kernel_rfl) (Zh pol.prim _ _ (by kernel_rfl)) (by kernel_rfl) ?_
 intro args res h
 obtain ⟨n,lo,hi,rfl,hq⟩:=Vu h
 cases hq
 have hr:Try.f52.results.toList=[.tmp 6]:=by kernel_rfl
 by_cases g0:lo≤n
 ·by_cases g1:n≤hi
  ·exact ⟨_,_,_,_,QqU n lo hi g0 g1,by simp,by simp only [Qc,hr];rfl,by rw [decide_eq_true ⟨g0,g1⟩];rfl⟩
  ·exact ⟨_,_,_,_,QqV n lo hi g0 g1,by simp,by simp only [Qc,hr];rfl,by rw [decide_eq_false (fun h=>g1 h.2)];rfl⟩
 ·exact ⟨_,_,_,_,QqW n lo hi g0,by simp,by simp only [Qc,hr];rfl,by rw [decide_eq_false (fun h=>g0 h.1)];rfl⟩
def Qik:List HV→Option HV:=f1 kS fun l=>some (.own 3 ((l.take 61).map Qa))
theorem QqY:Try.f13.results.toList=[.tmp 2]:=by kernel_rfl
theorem QkG:QP Tp 13 Qik:=by
 refine Qn (pol:=pol) (fn:=Try.f13) (cd:=B13) Qh Vr (by kernel_rfl) (by kernel_rfl) (Zh pol.prim _ _ (by kernel_rfl)) (by kernel_rfl) ?_
 intro args res h
 obtain ⟨l,rfl,hq⟩:=KJ h
 cases hq
 have hmin:min ((l.map Qa).length:Int) 61=((min l.length 61:Nat):Int):=by rw [qB];omega
 have hw:(l.map Qa).take (min l.length 61)=(l.take 61).map Qa:=by rw [← List.map_take,QdZ]
 have s1:=QrK (l.map Qa) (min l.length 61) (by rw [hmin];exact QaI (by rw [qB];omega)) (by
  rw [hw]
  by_cases h0:l.take 61=[]
  ·rw [h0];rfl
  ·have hlen:(l.take 61).length≤61:=by rw [qJ];omega
   have:=Qf7 (H:=[bS []]) (b:=0) (o:=[]) (xs:=l.take 61) rfl (by simp;omega) h0
   rw [List.nil_append] at this
   simpa [bS] using this)
 rw [hw] at s1
 refine ⟨_,_,_,.sl 0 0 ((l.take 61).map Qa).length none ((l.take 61).map Qa).length 3,s1,by simp,by simp only [Qc,QqY];rfl,?_⟩
 exact Qf9 (b:=0) rfl (by simp)
theorem Kp {α:Type} (d:α) (p:α→Prop) [DecidablePred p]:∀(l:List α),(∃m,m<l.length∧p (l.getD m d)∧∀i,i<m→¬p (l.getD i d))∨∀x∈l,¬p x
 | []=>.inr (by simp)
 | x::l=>by
  by_cases hx:p x
  ·exact .inl ⟨0,by simp,hx,fun i hi=>absurd hi (Nat.not_lt_zero _)⟩
  ·rcases Kp d p l with ⟨m,h1,h2,h3⟩ | h
   ·refine .inl ⟨m+1,by simpa using h1,h2,fun i hi=>?_⟩
    cases i with
    | zero=>exact hx
    | succ i=>exact h3 i (by omega)
   ·exact .inr fun y hy=>by
     rcases List.mem_cons.1 hy with rfl | hy
     ·exact hx
     ·exact h y hy
theorem Qo {α:Type} (d:α) {l:List α} {i:Nat} (h:i<l.length):l.getD i d∈l:=by rw [QD h];exact List.getElem_mem h
def Qil:List HV→Option HV:=f2 kL kI fun l x=>if l.length≤1000 then some (.bool (decide (x∈l))) else none
theorem Qim:Try.f51.results.toList=[.tmp 4]:=by kernel_rfl
theorem QkH:QP Tp 51 Qil:=by
 refine Qn (pol:=pol) (fn:=Try.f51) (cd:=B51) Qh Vr (by kernel_rfl) (by kernel_rfl) (Zh pol.prim _ _ (by kernel_rfl)) (by kernel_rfl) ?_
 intro args res h
 obtain ⟨l,x,rfl,hq⟩:=Zc h
 split at hq
 case isFalse=>cases hq
 rename_i hl
 cases hq
 have go:∀m,m≤l.length→(∀i,i<m→¬l.getD i 0=x)→∀i,i<m→RT pol 51 (sn 52 B51) ((Gc (.a (l.map Qb)) (.i x) (.bool false) (.i (i:Int)))) [] .normal ((Gc (.a (l.map Qb)) (.i x) (.bool false) (.i ((i+1:Nat):Int)))) []:=fun m hm hn i hi=>by
  have s:=QjQ (l.map Qb) x i (x0:=l.getD i 0) (by rw [qB];omega) (gx (by omega)) (hn i hi)
  rw [Qj (by omega)] at s
  exact s
 have a:=QjN (l.map Qb) x
 have b:=QjO (l.map Qb) x
 rcases Kp 0 (fun y=>y=x) l with ⟨m,h1,h2,h3⟩ | hn
 ·have r:=Q7 (E:=fun i=>(Gc (.a (l.map Qb)) (.i x) (.bool false) (.i (i:Int)))) (Hs:=fun _=>[]) m (go m (by omega) h3) (fun i _=>by kernel_rfl) (fun i _=>rfl) (QjP (l.map Qb) x m (x0:=l.getD m 0) (by rw [qB];omega) (gx h1) h2) (by simp) (c:=sn 26 B51) (by kernel_rfl) (fun i _=>by kernel_rfl)
  refine ⟨_,_,_,.bool true,sq (a) (sqo (sq (b) (RunsTo.block_ret (i:=0) (c:=sn 13 B51) (r) (by kernel_rfl)) (c:=sn 6 B51)) (c:=sn 3 B51) (b:=sn 7 B51)) (c:=B51),by simp,by simp only [Qc,Qim];rfl,?_⟩
  rw [decide_eq_true (by rw [← h2];exact Qo 0 h1)];rfl
 ·have r:=Q7 (E:=fun i=>(Gc (.a (l.map Qb)) (.i x) (.bool false) (.i (i:Int)))) (Hs:=fun _=>[]) l.length (go l.length (qD _) fun i hi=>hn _ (Qo 0 hi)) (fun i _=>by kernel_rfl) (fun i _=>rfl) (QjR (l.map Qb) x l.length (by rw [qB];omega)) (by simp) (c:=sn 26 B51) (by kernel_rfl) (fun i _=>by kernel_rfl)
  have z:=QjS (l.map Qb) x (y5:=.i (l.length:Int))
  refine ⟨_,_,_,.bool false,sq (a) (sq (sq (b) (bke (c:=sn 13 B51) (r)) (c:=sn 6 B51)) (z) (c:=sn 3 B51)) (c:=B51),by simp,by simp only [Qc,Qim];rfl,?_⟩
  rw [decide_eq_false (fun h=>hn x h rfl)];rfl
def QaK:List HV→Option HV:=f2 kL kL fun a b=>if a.length≤1000 then some (.bool (decide (a=b))) else none
theorem Qd1:Try.f21.results.toList=[.tmp 4]:=by kernel_rfl
theorem QbI:QP Tp 21 QaK:=by
 refine Qn (pol:=pol) (fn:=Try.f21) (cd:=B21) Qh Vr (by kernel_rfl) (by kernel_rfl) (Zh pol.prim _ _ (by kernel_rfl)) (by kernel_rfl) ?_
 intro args res h
 obtain ⟨a,b,rfl,hq⟩:=Zc h
 split at hq
 case isFalse=>cases hq
 rename_i hl
 cases hq
 have s0:=QjT (a.map Qb) (b.map Qb)
 by_cases hab:a.length=b.length
 ·have s1:=QjU (a.map Qb) (b.map Qb) (by simp [hab])
  have s2:=QjW (a.map Qb) (b.map Qb)
  have go:∀m,m≤a.length→(∀i,i<m→¬a.getD i 0≠b.getD i 0)→∀i,i<m→RT pol 21 (sn 116 B21) ((Gd (.a (a.map Qb)) (.a (b.map Qb)) (.bool false) (.i (i:Int)))) [] .normal ((Gd (.a (a.map Qb)) (.a (b.map Qb)) (.bool false) (.i ((i+1:Nat):Int)))) []:=fun m hm hn i hi=>by
   have s:=QjX (a.map Qb) (b.map Qb) i (x0:=a.getD i 0) (x1:=b.getD i 0) (by rw [qB];omega) (gx (by omega)) (gx (by omega)) (Decidable.not_not.1 (hn i hi))
   rw [Qj (by omega)] at s
   exact s
  rcases Kp 0 (fun i:Nat=>a.getD i 0≠b.getD i 0) (List.range a.length) with ⟨m,h1,h2,h3⟩ | hn
  ·rw [List.length_range] at h1
   have er:∀i,i<a.length→(List.range a.length).getD i 0=i:=fun i hi=>by simp [qE,hi]
   rw [er m h1] at h2
   have h3:∀i,i<m→¬a.getD i 0≠b.getD i 0:=fun i hi=>by have:=h3 i hi;rwa [er i (by omega)] at this
   have r:=Q7 (E:=fun i=>(Gd (.a (a.map Qb)) (.a (b.map Qb)) (.bool false) (.i (i:Int)))) (Hs:=fun _=>[]) m (go m (by omega) h3) (fun i _=>by kernel_rfl) (fun i _=>rfl) (QjY (a.map Qb) (b.map Qb) m (x0:=a.getD m 0) (x1:=b.getD m 0) (by rw [qB];omega) (gx h1) (gx (by omega)) h2) (by simp) (c:=sn 58 B21) (by kernel_rfl) (fun i _=>by kernel_rfl)
   refine ⟨_,_,_,.bool false,sq (s0) (sq (s1) (sqo (sq (s2) (RunsTo.block_ret (i:=0) (c:=sn 29 B21) (r) (by kernel_rfl)) (c:=sn 14 B21)) (c:=sn 7 B21) (b:=sn 15 B21)) (c:=sn 3 B21)) (c:=B21),by simp,by simp only [Qc,Qd1];rfl,?_⟩
   rw [decide_eq_false (fun e=>h2 (by rw [e]))];rfl
  ·have hn:∀i,i<a.length→¬a.getD i 0≠b.getD i 0:=fun i hi=>hn i (List.mem_range.2 hi)
   have r:=Q7 (E:=fun i=>(Gd (.a (a.map Qb)) (.a (b.map Qb)) (.bool false) (.i (i:Int)))) (Hs:=fun _=>[]) a.length (go a.length (qD _) hn) (fun i _=>by kernel_rfl) (fun i _=>rfl) (QjZ (a.map Qb) (b.map Qb) a.length (by rw [qB];omega)) (by simp) (c:=sn 58 B21) (by kernel_rfl) (fun i _=>by kernel_rfl)
   have z:=Qj0 (a.map Qb) (b.map Qb) (y5:=.i (a.length:Int))
   refine ⟨_,_,_,.bool true,sq (s0) (sq (s1) (sq (sq (s2) (bke (c:=sn 29 B21) (r)) (c:=sn 14 B21)) (z) (c:=sn 7 B21)) (c:=sn 3 B21)) (c:=B21),by simp,by simp only [Qc,Qd1];rfl,?_⟩
   rw [decide_eq_true (List.ext_getElem hab fun i h1 h2=>by have:=Decidable.not_not.1 (hn i h1);rwa [QD h1,QD h2] at this)];rfl
 ·have s1:=QjV (a.map Qb) (b.map Qb) (by rw [qB,qB];omega)
  refine ⟨_,_,_,.bool false,sq (s0) (sqo (s1) (c:=sn 3 B21) (b:=sn 7 B21)) (c:=B21),by simp,by simp only [Qc,Qd1];rfl,?_⟩
  rw [decide_eq_false (fun e=>hab (by rw [e]))];rfl
def wOf (l:List St) (k:Int):Int:=(l.getD k.toNat (0,0,0)).2.2
def wgt (l:List St) (t:List Int):Int:=(t.map (wOf l)).sum
def inR (m:Nat) (t:List Int):Bool:=t.all fun k=>decide (0≤k∧k<(m:Int))
def wB (l:List St):Bool:=l.all fun s=>decide (0≤s.2.2∧s.2.2≤1000000)
theorem inR_iff {m:Nat} {t:List Int}:inR m t=true↔∀k∈t,0≤k∧k<(m:Int):=by simp [inR]
theorem wB_iff {l:List St}:wB l=true↔∀s∈l,0≤s.2.2∧s.2.2≤1000000:=by simp [wB]
theorem Xb (l:List Int) {i:Nat} (h:i<l.length):(l.take (i+1)).sum=(l.take i).sum+l.getD i 0:=by
 rw [jE,qC h,List.sum_append];simp [qE,qC h]
theorem Qge {l:List Int} {M:Int} (h0:0≤M) (h:∀x∈l,0≤x∧x≤M):0≤l.sum∧l.sum≤M*l.length:=by
 induction l with
 | nil=>simp
 | cons x l ih =>
  have:=ih fun y hy=>h y (by simp [hy])
  have:=h x (by simp)
  rw [List.sum_cons,jG,Int.natCast_add,Int.mul_add]
  omega
theorem Y0 {l:List St} (hw:∀s∈l,0≤s.2.2∧s.2.2≤1000000) (k:Int):0≤wOf l k∧wOf l k≤1000000:=by
 unfold wOf
 by_cases h:k.toNat<l.length
 ·exact hw _ (Qo _ h)
 ·have e:l.getD k.toNat (0,0,0)=(0,0,0):=by simp [qE,qO (Nat.le_of_not_lt h)]
  rw [e];exact ⟨by decide,by decide⟩
theorem U1 {l:List St} (hw:∀s∈l,0≤s.2.2∧s.2.2≤1000000) {t:List Int} (ht:t.length≤1000) (i:Nat):0≤((t.map (wOf l)).take i).sum∧((t.map (wOf l)).take i).sum≤1000000000:=by
 have h:=Qge (l:=(t.map (wOf l)).take i) (M:=1000000) (by omega) fun x hx=>by
  obtain ⟨k,_,rfl⟩:=List.mem_map.1 (qT hx)
  exact Y0 hw k
 have:((t.map (wOf l)).take i).length≤1000:=by rw [qJ,qB];omega
 omega
theorem Qgf (s:St):Qa s=.agg [.int .i64 s.1,.int .i64 s.2.1,.int .i64 s.2.2]:=rfl
theorem gk {t:List Int} {i m:Nat} (hi:i<t.length) (ht:∀k∈t,0≤k∧k<(m:Int)):ZI Tp 24 (.imm .arg 1 (t.map Qb)) (.int .i64 (i:Int))=some (.vptr (.int .i64 ((t.getD i 0).toNat:Int)))∧(t.getD i 0).toNat<m:=by
 have:=ht _ (Qo 0 hi)
 have g:=gx hi
 rw [show (((t.getD i 0).toNat:Nat):Int)=t.getD i 0 by omega]
 exact ⟨g,by omega⟩
def U2:List HV→Option HV:=f2 kN kL fun p t=>if inR p.2.length t=true∧wB p.2=true∧t.length≤1000 then some (.int .i64 (wgt p.2 t)) else none
theorem QqZ:Try.f42.results.toList=[.tmp 4]:=by kernel_rfl
theorem Ge:QP Tp 42 U2:=by
 refine Qn (pol:=pol) (fn:=Try.f42) (cd:=B42) Qh Vr (by kernel_rfl) (by kernel_rfl) (Zh pol.prim _ _ (by kernel_rfl)) (by kernel_rfl) ?_
 intro args res h
 obtain ⟨⟨n,l⟩,t,rfl,hq⟩:=Zc h
 split at hq
 case isFalse=>cases hq
 rename_i hc
 obtain ⟨h1,h2,h3⟩:=hc
 simp only at h1 h2
 cases hq
 have ht:=inR_iff.1 h1
 have hw:=wB_iff.1 h2
 have a:=Qj1 n (l.map Qa) (t.map Qb)
 have b:=Qj2 n (l.map Qa) (t.map Qb)
 have c:=Qj3 n (l.map Qa) (t.map Qb) 0
 rw [qB] at c
 have r:=Q7 (E:=fun i=>(QbE (Qt n l) (.a (t.map Qb)) (.q 0) (.i 0) (.i ((t.map (wOf l)).take i).sum) Ud (.a (t.map Qb)) (.i (t.length:Int)) (.i (i:Int)))) (Hs:=fun _=>[.arr 2 [Qt n l] true 0]) t.length
  (E0:=fun i=>(QbE (Qt n l) (.a (t.map Qb)) (.q 0) (.i 0) (.i ((t.map (wOf l)).take (i+1)).sum) (.i ((t.getD i 0).toNat:Int)) (.a (t.map Qb)) (.i (t.length:Int)) (.i ((i+1:Nat):Int)))) (H1:=fun _=>[.arr 2 [Qt n l] true 0])
  (fun i hi=>by
   obtain ⟨g1,g2⟩:=gk hi ht
   have s:=Qj4 n (l.map Qa) (t.map Qb) ((t.map (wOf l)).take i).sum i t.length (t.getD i 0).toNat (l.getD (t.getD i 0).toNat (0,0,0)).1 (l.getD (t.getD i 0).toNat (0,0,0)).2.1 (l.getD (t.getD i 0).toNat (0,0,0)).2.2 (by omega) g1 (gs g2)
   have b1:=U1 hw (t:=t) h3 i
   have b2:=Y0 hw (t.getD i 0)
   have e1:((t.map (wOf l)).take (i+1)).sum=((t.map (wOf l)).take i).sum+(l.getD (t.getD i 0).toNat (0,0,0)).2.2:=by
    rw [Xb _ (by rw [qB];exact hi),QD (by rw [qB];exact hi),qU,wOf,QD hi]
   rw [Qj (by omega),WN (by unfold wOf at b2;omega) (by unfold wOf at b2;omega),← e1] at s
   exact s) (fun i _=>by kernel_rfl) (fun i _=>QC _ rfl) (Qj5 n (l.map Qa) (t.map Qb) ((t.map (wOf l)).take t.length).sum t.length t.length 0 0 0 0 (by omega)) (by simp) (c:=sn 58 B42) (by kernel_rfl) (fun i _=>by kernel_rfl)
 have z:=Qj6 n (l.map Qa) (t.map Qb) ((t.map (wOf l)).take t.length).sum (y8:=.a (t.map Qb)) (y9:=.i (t.length:Int)) (y10:=.i (t.length:Int))
 refine ⟨_,_,_,.int .i64 ((t.map (wOf l)).take t.length).sum,sq (a) (sq (b) (sq (sq (c) (bke (c:=sn 29 B42) (r)) (c:=sn 14 B42)) (z) (c:=sn 7 B42)) (c:=sn 3 B42)) (c:=B42),by simp,by simp only [Qc,QqZ];rfl,?_⟩
 rw [qH (by rw [qB];exact qD _)];rfl
def Yj:List HV→Option HV:=f2 kS kL fun l t=>if inR l.length t=true∧wB l=true∧t.length≤1000 then some (.int .i64 (wgt l t)) else none
theorem Qq0:Try.f22.results.toList=[.tmp 4]:=by kernel_rfl
theorem U3:QP Tp 22 Yj:=by
 refine Qn (pol:=pol) (fn:=Try.f22) (cd:=B22) Qh Vr (by kernel_rfl) (by kernel_rfl) (Zh pol.prim _ _ (by kernel_rfl)) (by kernel_rfl) ?_
 intro args res h
 obtain ⟨l,t,rfl,hq⟩:=Zc h
 split at hq
 case isFalse=>cases hq
 rename_i hc
 obtain ⟨h1,h2,h3⟩:=hc
 cases hq
 have ht:=inR_iff.1 h1
 have hw:=wB_iff.1 h2
 have a:=Qj7 (l.map Qa) (t.map Qb)
 have b:=Qj8 (l.map Qa) (t.map Qb)
 have c:=Qj9 (l.map Qa) (t.map Qb) 0
 have r:=Q7 (E:=fun i=>(QbF (.g (l.map Qa)) (.a (t.map Qb)) (.i 0) (.i ((t.map (wOf l)).take i).sum) (.i (i:Int)))) (Hs:=fun _=>[]) t.length
  (E0:=fun i=>(QbF (.g (l.map Qa)) (.a (t.map Qb)) (.i 0) (.i ((t.map (wOf l)).take (i+1)).sum) (.i ((i+1:Nat):Int)))) (H1:=fun _=>[])
  (fun i hi=>by
   obtain ⟨g1,g2⟩:=gk hi ht
   have s:=Qka (l.map Qa) (t.map Qb) ((t.map (wOf l)).take i).sum i (t.getD i 0).toNat (l.getD (t.getD i 0).toNat (0,0,0)).1 (l.getD (t.getD i 0).toNat (0,0,0)).2.1 (l.getD (t.getD i 0).toNat (0,0,0)).2.2 (by rw [qB];omega) g1 (gs g2)
   have b1:=U1 hw (t:=t) h3 i
   have b2:=Y0 hw (t.getD i 0)
   have e1:((t.map (wOf l)).take (i+1)).sum=((t.map (wOf l)).take i).sum+(l.getD (t.getD i 0).toNat (0,0,0)).2.2:=by
    rw [Xb _ (by rw [qB];exact hi),QD (by rw [qB];exact hi),qU,wOf,QD hi]
   rw [Qj (by omega),WN (by unfold wOf at b2;omega) (by unfold wOf at b2;omega),← e1] at s
   exact s) (fun i _=>by kernel_rfl) (fun i _=>rfl) (Qkb (l.map Qa) (t.map Qb) ((t.map (wOf l)).take t.length).sum t.length 0 0 0 0 (by rw [qB];omega)) (by simp) (c:=sn 58 B22) (by kernel_rfl) (fun i _=>by kernel_rfl)
 have z:=Qkc (l.map Qa) (t.map Qb) ((t.map (wOf l)).take t.length).sum (y6:=.i (t.length:Int))
 refine ⟨_,_,_,.int .i64 ((t.map (wOf l)).take t.length).sum,sq (a) (sq (b) (sq (sq (c) (bke (c:=sn 29 B22) (r)) (c:=sn 14 B22)) (z) (c:=sn 7 B22)) (c:=sn 3 B22)) (c:=B22),by simp,by simp only [Qc,Qq0];rfl,?_⟩
 rw [qH (by rw [qB];exact qD _)];rfl
def Qf (n:Nat):List Int:=(List.range n).map fun (i:Nat)=>(i:Int)
theorem QL (n:Nat):(Qf n).length=n:=by simp [Qf]
theorem WO (n:Nat):Qf (n+1)=Qf n++[(n:Int)]:=by simp [Qf,List.range_succ]
def Ca:List HV→Option HV:=f1 kI fun n=>if n≤900 then some (.own 1 ((Qf n.toNat).map Qb)) else none
theorem Qq1:Try.f46.results.toList=[.tmp 2]:=by kernel_rfl
theorem Sy:QP Tp 46 Ca:=by
 refine Qn (pol:=pol) (fn:=Try.f46) (cd:=B46) Qh Vr (by kernel_rfl) (by kernel_rfl) (Zh pol.prim _ _ (by kernel_rfl)) (by kernel_rfl) ?_
 intro args res h
 obtain ⟨n,rfl,hq⟩:=KJ h
 split at hq
 case isFalse=>cases hq
 rename_i hn
 cases hq
 have a:=Qkd n
 have b:=Qke n
 have c:=Qkf n 0 []
 have r:=Q7 (E:=fun i=>(QbG (.i n) (.imm .lit 1 []) (.s 0 i) (.i (i:Int)))) (Hs:=fun i=>[bI (Qf i)]) n.toNat
  (E0:=fun i=>(QbG (.i n) (.imm .lit 1 []) (.s 0 (i+1)) (.i ((i+1:Nat):Int)))) (H1:=fun i=>[bI (Qf (i+1))])
  (fun i hi=>by
   have ap:=Zz (H:=[bI (Qf i)]) (b:=0) (o:=Qf i) rfl (by rw [QL];omega) (i:Int)
   rw [QL,← WO] at ap
   have s:=Qkg n i ((Qf i).map Qb) i (by omega) (ap.trans (by rw [WO];simp [bI,Qb]))
   rw [Qj (by omega)] at s
   have e:(Qf i).map Qb++[.int .i64 (i:Int)]=(Qf (i+1)).map Qb:=by rw [WO];simp [Qb]
   rw [e] at s
   exact s) (fun i _=>by kernel_rfl) (fun i _=>QC _ rfl) (Qkh n n.toNat ((Qf n.toNat).map Qb) n.toNat (by omega)) (by simp) (c:=sn 58 B46) (by kernel_rfl) (fun i _=>by kernel_rfl)
 have z:=Qki n n.toNat ((Qf n.toNat).map Qb) (y4:=.i (n.toNat:Int))
 refine ⟨_,_,_,.sl 0 0 n.toNat none n.toNat 1,sq (a) (sq (b) (sq (sq (c) (bke (c:=sn 29 B46) (r)) (c:=sn 14 B46)) (z) (c:=sn 7 B46)) (c:=sn 3 B46)) (c:=B46),by simp,by simp only [Qc,Qq1];rfl,?_⟩
 exact Vt (b:=0) rfl (QL _)
def WP (x y v:Int):Int:=if v=y then x else v
def Wa (g:List Int) (a b:Int):List Int:=g.map (WP (min (g.getD a.toNat 0) (g.getD b.toNat 0)) (max (g.getD a.toNat 0) (g.getD b.toNat 0)))
theorem Kq (g:List Int) (a b:Int):(Wa g a b).length=g.length:=by simp [Wa]
def Xr:List HV→Option HV:=f3 kL kI kI fun g a b=>if (0≤a∧a<(g.length:Int))∧(0≤b∧b<(g.length:Int))∧g.length≤900 then some (.own 1 ((Wa g a b).map Qb)) else none
theorem Qq2:Try.f49.results.toList=[.tmp 6]:=by kernel_rfl
theorem Cb:QP Tp 49 Xr:=by
 refine Qn (pol:=pol) (fn:=Try.f49) (cd:=B49) Qh Vr (by kernel_rfl) (by kernel_rfl) (Zh pol.prim _ _ (by kernel_rfl)) (by kernel_rfl) ?_
 intro args res h
 obtain ⟨g,a,b,rfl,hq⟩:=Vu h
 split at hq
 case isFalse=>cases hq
 rename_i hc
 obtain ⟨⟨a0,a1⟩,⟨b0,b1⟩,hg⟩:=hc
 cases hq
 have ga:ZI Tp 24 (.imm .arg 1 (g.map Qb)) (.int .i64 a)=some (.vptr (.int .i64 (g.getD a.toNat 0))):=gxi a0 (by omega)
 have gb:ZI Tp 24 (.imm .arg 1 (g.map Qb)) (.int .i64 b)=some (.vptr (.int .i64 (g.getD b.toNat 0))):=gxi b0 (by omega)
 have s1:=Qkj (g.map Qb) a b
 have s2:=Qkk (g.map Qb) a b ga gb ga gb
 generalize hx:min (g.getD a.toNat 0) (g.getD b.toNat 0)=x at s2
 generalize hy:max (g.getD a.toNat 0) (g.getD b.toNat 0)=y at s2
 have s3:=Qkl (g.map Qb) a b x y
 have s4:=Qkm (g.map Qb) a b x y 0 []
 have ej:Wa g a b=g.map (WP x y):=by rw [Wa,hx,hy]
 have r:=Q7 (E:=fun i=>(QbH (.a (g.map Qb)) (.i a) (.i b) (.imm .lit 1 []) (.i x) (.i y) (.s 0 i) (.i (i:Int)))) (Hs:=fun i=>[bI ((g.map (WP x y)).take i)]) g.length
  (E0:=fun i=>(QbH (.a (g.map Qb)) (.i a) (.i b) (.imm .lit 1 []) (.i x) (.i y) (.s 0 (i+1)) (.i ((i+1:Nat):Int)))) (H1:=fun i=>[bI ((g.map (WP x y)).take (i+1))])
  (fun i hi=>by
   have hl:((g.map (WP x y)).take i).length=i:=by rw [qJ,qB];omega
   have e:(g.map (WP x y)).take (i+1)=(g.map (WP x y)).take i++[WP x y (g.getD i 0)]:=by
    rw [jE,qC (by rw [qB];exact hi)];simp [qE,qC hi]
   have ap:=Zz (H:=[bI ((g.map (WP x y)).take i)]) (b:=0) (o:=(g.map (WP x y)).take i) rfl (by rw [hl];omega) (WP x y (g.getD i 0))
   rw [hl,← e] at ap
   have e2:((g.map (WP x y)).take i).map Qb++[.int .i64 (WP x y (g.getD i 0))]=((g.map (WP x y)).take (i+1)).map Qb:=by rw [e];simp [Qb]
   have ap2:W5 [.arr 1 (((g.map (WP x y)).take i).map Qb) true 0] 1 8 (.sl 0 0 i none i 1) [.int .i64 (WP x y (g.getD i 0))]=some (.sl 0 0 (i+1) none (i+1) 1,[.arr 1 (((g.map (WP x y)).take i).map Qb++[.int .i64 (WP x y (g.getD i 0))]) true 0]):=ap.trans (by rw [e2];rfl)
   by_cases c:g.getD i 0=y
   ·have ev:WP x y (g.getD i 0)=x:=if_pos c
    rw [ev] at ap2
    rw [ev] at e2
    have s:=Qkn (g.map Qb) a b x y i (((g.map (WP x y)).take i).map Qb) i (by rw [qB];omega) (gx hi) c ap2
    rw [Qj (by omega),e2] at s
    exact s
   ·have ev:WP x y (g.getD i 0)=g.getD i 0:=if_neg c
    rw [ev] at ap2
    rw [ev] at e2
    have s:=Qko (g.map Qb) a b x y i (((g.map (WP x y)).take i).map Qb) i (by rw [qB];omega) (gx hi) c (gx hi) ap2
    rw [Qj (by omega),e2] at s
    exact s) (fun i _=>by kernel_rfl) (fun i _=>QC _ rfl) (Qkp (g.map Qb) a b x y g.length (((g.map (WP x y)).take g.length).map Qb) g.length (by rw [qB];omega)) (by simp) (c:=sn 122 B49) (by kernel_rfl) (fun i _=>by kernel_rfl)
 have z:=Qkq (g.map Qb) a b x y g.length (((g.map (WP x y)).take g.length).map Qb) (y10:=.i (g.length:Int))
 refine ⟨_,_,_,.sl 0 0 g.length none g.length 1,sq (s1) (sq (s2) (sq (s3) (sq (sq (s4) (bke (c:=sn 61 B49) (r)) (c:=sn 30 B49)) (z) (c:=sn 15 B49)) (c:=sn 7 B49)) (c:=sn 3 B49)) (c:=B49),by simp,by simp only [Qc,Qq2];rfl,?_⟩
 rw [qH (by rw [qB];exact qD _),ej]
 exact Vt (b:=0) rfl (by simp)
def stB (n:Int) (s:St):Bool:=decide ((0≤s.1∧s.1<n)∧(0≤s.2.1∧s.2.1<n)∧s.1≠s.2.1∧(0≤s.2.2∧s.2.2≤1000))
def Wh (n:Int) (l:List St):Bool:=l.all (stB n)&&decide ((1≤n∧n≤16)∧l.length≤60)
def Qd2:List HV→Option HV:=f2 kI kS fun n l=>if l.length≤1000 then some (.bool (Wh n l)) else none
theorem Qin:Try.f17.results.toList=[.tmp 4]:=by kernel_rfl
theorem Qgg:QP Tp 17 Qd2:=by
 refine Qn (pol:=pol) (fn:=Try.f17) (cd:=B17) Qh Vr (by kernel_rfl) (by kernel_rfl) (Zh pol.prim _ _ (by kernel_rfl)) (by kernel_rfl) ?_
 intro args res h
 obtain ⟨n,l,rfl,hq⟩:=Zc h
 split at hq
 case isFalse=>cases hq
 rename_i hl
 cases hq
 have a:=Qkr n (l.map Qa)
 have b:=Qks n (l.map Qa)
 have go:∀m,m≤l.length→(∀i,i<m→¬stB n (l.getD i (0,0,0))=false)→∀i,i<m→RT pol 17 (sn 52 B17) ((YM (.i n) (.g (l.map Qa)) (.bool false) (.i (i:Int)) Ud)) [] .normal ((YM (.i n) (.g (l.map Qa)) (.bool false) (.i ((i+1:Nat):Int)) (.q 0))) [.arr 3 [Qa (l.getD i (0,0,0))] true 0]:=fun m hm hn i hi=>by
  have ok:stB n (l.getD i (0,0,0))=true:=by have:=hn i hi;cases c:stB n (l.getD i (0,0,0)) <;> simp_all
  obtain ⟨⟨k1,k2⟩,⟨k3,k4⟩,k5,k6,k7⟩:=of_decide_eq_true ok
  have s:=QkA n (l.map Qa) i (l.getD i (0,0,0)).1 (l.getD i (0,0,0)).2.1 (l.getD i (0,0,0)).2.2 (by rw [qB];omega) (gs (by omega)) (by omega) (by omega) (by omega) (by omega) k5 (by omega) (by omega)
  rw [Qj (by omega)] at s
  exact s
 rcases Kp (0,0,0) (fun s=>stB n s=false) l with ⟨m,h1,h2,h3⟩ | hn
 ·have bad:∃E H,RT pol 17 (sn 52 B17) ((YM (.i n) (.g (l.map Qa)) (.bool false) (.i (m:Int)) Ud)) [] .ret E H∧E.get 4=.bool false:=by
   have hlt:(m:Int)<((l.map Qa).length:Int):=by rw [qB];omega
   have gg:=gs h1
   rw [Qgf] at gg
   have h2:=of_decide_eq_false h2
   generalize (l.getD m (0,0,0)).1=x at *
   generalize (l.getD m (0,0,0)).2.1=y at *
   generalize (l.getD m (0,0,0)).2.2=w at *
   by_cases k1:x<0
   ·exact ⟨_,_,Qkt n (l.map Qa) m x y w hlt gg k1,rfl⟩
   by_cases k2:n≤x
   ·exact ⟨_,_,Qku n (l.map Qa) m x y w hlt gg k1 k2,rfl⟩
   by_cases k3:y<0
   ·exact ⟨_,_,Qkv n (l.map Qa) m x y w hlt gg k1 k2 k3,rfl⟩
   by_cases k4:n≤y
   ·exact ⟨_,_,Qkw n (l.map Qa) m x y w hlt gg k1 k2 k3 k4,rfl⟩
   by_cases k5:x=y
   ·exact ⟨_,_,Qkx n (l.map Qa) m x y w hlt gg k1 k2 k3 k4 k5,rfl⟩
   by_cases k6:w<0
   ·exact ⟨_,_,Qky n (l.map Qa) m x y w hlt gg k1 k2 k3 k4 k5 k6,rfl⟩
   by_cases k7:1000<w
   ·exact ⟨_,_,Qkz n (l.map Qa) m x y w hlt gg k1 k2 k3 k4 k5 k6 k7,rfl⟩
   ·exact absurd ⟨⟨by omega,by omega⟩,⟨by omega,by omega⟩,k5,by omega,by omega⟩ h2
  obtain ⟨E1,H1,o1,o2⟩:=bad
  have r:=Q7 (E:=fun i=>(YM (.i n) (.g (l.map Qa)) (.bool false) (.i (i:Int)) Ud)) (Hs:=fun _=>[]) m (go m (by omega) h3) (fun i _=>by kernel_rfl) (fun i _=>rfl) o1 (by simp) (c:=sn 26 B17) (by kernel_rfl) (fun i _=>by kernel_rfl)
  refine ⟨_,_,_,.bool false,sq (a) (sqo (sq (b) (RunsTo.block_ret (i:=0) (c:=sn 13 B17) (r) (by kernel_rfl)) (c:=sn 6 B17)) (c:=sn 3 B17) (b:=sn 7 B17)) (c:=B17),by simp,by simp only [Qc,Qin,mapO,Wv,o2],?_⟩
  have:Wh n l=false:=by
   rw [Wh,Bool.and_eq_false_iff]
   refine .inl ?_
   rw [List.all_eq_false]
   exact ⟨l.getD m (0,0,0),Qo _ h1,by rw [h2];simp⟩
  rw [this];rfl
 ·have r:=Q7 (E:=fun i=>(YM (.i n) (.g (l.map Qa)) (.bool false) (.i (i:Int)) Ud)) (Hs:=fun _=>[]) l.length (go l.length (qD _) fun i hi=>hn _ (Qo _ hi)) (fun i _=>by kernel_rfl) (fun i _=>rfl) (QkB n (l.map Qa) l.length 0 0 0 (by rw [qB];omega)) (by simp) (c:=sn 26 B17) (by kernel_rfl) (fun i _=>by kernel_rfl)
  have hall:l.all (stB n)=true:=List.all_eq_true.2 fun s hs=>by
   have:=hn s hs
   cases c:stB n s <;> simp_all
  have fin:∃E H,RT pol 17 (sn 7 B17) ((YM (.i n) (.g (l.map Qa)) (.bool false) (.i (l.length:Int)) Ud)) [] .ret E H∧E.get 4=.bool (Wh n l):=by
   unfold Wh
   rw [hall,Bool.true_and]
   by_cases k1:1≤n
   ·by_cases k2:n≤16
    ·by_cases k3:l.length≤60
     ·rw [decide_eq_true ⟨⟨k1,k2⟩,k3⟩]
      exact ⟨_,_,QkC n (l.map Qa) (y5:=.i (l.length:Int)) k1 k2 (by rw [qB];omega),rfl⟩
     ·rw [decide_eq_false (fun h=>k3 h.2)]
      exact ⟨_,_,QkD n (l.map Qa) (y5:=.i (l.length:Int)) k1 k2 (by rw [qB];omega),rfl⟩
    ·rw [decide_eq_false (fun h=>k2 h.1.2)]
     exact ⟨_,_,QkE n (l.map Qa) (y5:=.i (l.length:Int)) k1 k2,rfl⟩
   ·rw [decide_eq_false (fun h=>k1 h.1.1)]
    exact ⟨_,_,QkF n (l.map Qa) (y5:=.i (l.length:Int)) k1,rfl⟩
  obtain ⟨E2,H2,z,z2⟩:=fin
  refine ⟨_,_,_,.bool (Wh n l),sq (a) (sq (sq (b) (bke (c:=sn 13 B17) (r)) (c:=sn 6 B17)) (z) (c:=sn 3 B17)) (c:=B17),by simp,by simp only [Qc,Qin,mapO,Wv,z2],rfl⟩
end Go.Proofs.Ytiejmoglooaalaa
end
section
open Go Go.HL
namespace Go.Proofs.Ytiejmoglooaalaa
set_option maxRecDepth 100000
set_option linter.unusedSectionVars false
open Go.Proofs.Try renaming prog → Tp
open Go.HL.HV renaming undef → Ud
section
variable {F:FuncId→Option (List HV→Option HV)}
noncomputable def B53:Code:=Try.f53.body.getD .skip
abbrev Kr (v0 v1 v2 v5:HV):Env:=[(0,v0),(1,v1),(2,v2),(5,v5)]
end
section
variable {F:FuncId→Option (List HV→Option HV)}
variable (H:Heap)
include H
theorem QkI:RU F 53 2 B53 [] H .normal (Kr Ud Ud Ud Ud) H :=
 hx 0 60 []
theorem QkJ (b:Nat) {a0:HV} {H0:Heap} (g0:some (Wt (.agg [.i 0,.i 0,.i 0,.i 0,.i 0,.i 0,.i 0,.i 0,.i 0,.i 0,.i 0,.i 0,.i 0,.i 0,.i 0,.i 0]) H)=some (a0,H0)) (y0 y1 y2 y5:HV:=Ud): RU F 53 6 B53 (Kr y0 y1 y2 y5) H .normal (Kr y0 a0 y2 y5) H0 :=
 hx 0 60 [jR 1 1 g0]
theorem QkK (b:Nat) (y0 y2 y5:HV:=Ud): RU F 53 28 B53 (Kr y0 (.q b) y2 y5) H .normal (Kr y0 (.q b) y2 (.i 0)) H :=
 hx 0 60 []
theorem QkL (b:Nat) (i:Nat) {H0:Heap} (g0:(i:Int)<16) (g1:IX 100 (.q b) (.n i) (.ptr b 0 i 1)) (g2:ST H 3 (.ptr b 0 i 1) (.n i) H0) (y0 y2:HV:=Ud): RU F 53 116 B53 (Kr y0 (.q b) y2 (.n i)) H .normal (Kr y0 (.q b) (.n i) (.i (qA.wrap ((i:Int)+1)))) H0 :=
 hx 0 60 [jT 3 0 H g0,jO 5 5 H g1,jS 5 6 g2]
theorem QkM (b:Nat) (i:Nat) (g0:¬((i:Int)<16)) (y0 y2:HV:=Ud): RU F 53 116 B53 (Kr y0 (.q b) y2 (.n i)) H (.exit 0) (Kr y0 (.q b) y2 (.n i)) H :=
 hx 0 60 [jF 3 0 H g0]
theorem QkN (b:Nat) (y0 y2 y5:HV:=Ud): RU F 53 15 B53 (Kr y0 (.q b) y2 y5) H .ret (Kr (.q b) (.q b) y2 y5) H :=
 hx 0 60 []
end
section
variable {F:FuncId→Option (List HV→Option HV)}
noncomputable def B55:Code:=Try.f55.body.getD .skip
abbrev XQ (v0 v1 v4:HV):Env:=[(0,v0),(1,v1),(4,v4)]
end
section
variable {F:FuncId→Option (List HV→Option HV)}
variable (v:Int) (H:Heap) (b:Nat)
include v H b
theorem QkO:RU F 55 2 B55 [(0,.q b),(1,.i v)] H .normal (XQ (.q b) (.i v) (.i 0)) H :=
 hx 0 60 []
theorem QkP (w x:Int) (g0:IX 100 (.q b) (.i v) (.ptr b 0 ((v).toNat) 1)) (g1:LD H 3 (.ptr b 0 ((v).toNat) 1) (.i w)) (g2:w=v): RU F 55 24 B55 (XQ (.q b) (.i v) (.i 0)) H (.exit 0) (XQ (.q b) (.i v) (.i 0)) H :=
 hx 0 60 [jO 1 4 H g0,jO 1 5 H g1,jB 1 7 H (congrArg not (decide_eq_true g2))]
theorem QkQ (w x:Int) (g0:IX 100 (.q b) (.i v) (.ptr b 0 ((v).toNat) 1)) (g1:LD H 3 (.ptr b 0 ((v).toNat) 1) (.i w)) (g2:¬(w=v)) (g3:IX 100 (.q b) (.i v) (.ptr b 0 ((v).toNat) 1)) (g4:LD H 3 (.ptr b 0 ((v).toNat) 1) (.i x)): RU F 55 24 B55 (XQ (.q b) (.i v) (.i 0)) H .normal (XQ (.q b) (.i x) (.i 0)) H :=
 hx 0 60 [jO 1 4 H g0,jO 1 5 H g1,jB 1 7 H (congrArg not (decide_eq_false g2)),jO 2 4 H g3,jO 2 5 H g4]
theorem QkR:RU F 55 7 B55 (XQ (.q b) (.i v) (.i 0)) H .ret (XQ (.q b) (.i v) (.i v)) H :=
 hx 0 60 []
end
section
variable {F:FuncId→Option (List HV→Option HV)}
noncomputable def B56:Code:=Try.f56.body.getD .skip
abbrev Qio (v0 v1 v2 v6 v7 v8:HV):Env:=[(0,v0),(1,v1),(2,v2),(6,v6),(7,v7),(8,v8)]
theorem QkS (N:Nat) (u v:Int) (H:Heap) (b:Nat) {r0:Int} {H0:Heap} {r1:Int} {H1:Heap} {H2:Heap} (g0:CN F N 55 [.q b,.i u] H (.i r0) H0) (g1:CN F N 55 [.q b,.i v] H0 (.i r1) H1) (g2:IX 100 (.q b) (.i (max r0 r1)) (.ptr b 0 ((max r0 r1).toNat) 1)) (g3:ST H1 3 (.ptr b 0 ((max r0 r1).toNat) 1) (.i (min r0 r1)) H2) (g4:r0=r1): RU F 56 1 B56 [(0,.q b),(1,.i u),(2,.i v)] H .ret (Qio (.q b) (.i u) (.i v) (.bool false) (.i r0) (.i r1)) H2 :=
 hx N 60 [jC 1 2 g0,jC 1 5 g1,jO 2 9 H1 g2,jS 2 10 g3,jB 3 2 H2 (congrArg not (decide_eq_true g4))]
theorem QkT (N:Nat) (u v:Int) (H:Heap) (b:Nat) {r0:Int} {H0:Heap} {r1:Int} {H1:Heap} {H2:Heap} (g0:CN F N 55 [.q b,.i u] H (.i r0) H0) (g1:CN F N 55 [.q b,.i v] H0 (.i r1) H1) (g2:IX 100 (.q b) (.i (max r0 r1)) (.ptr b 0 ((max r0 r1).toNat) 1)) (g3:ST H1 3 (.ptr b 0 ((max r0 r1).toNat) 1) (.i (min r0 r1)) H2) (g4:¬(r0=r1)): RU F 56 1 B56 [(0,.q b),(1,.i u),(2,.i v)] H .ret (Qio (.q b) (.i u) (.i v) (.bool true) (.i r0) (.i r1)) H2 :=
 hx N 60 [jC 1 2 g0,jC 1 5 g1,jO 2 9 H1 g2,jS 2 10 g3,jB 3 2 H2 (congrArg not (decide_eq_false g4))]
end
end Go.Proofs.Ytiejmoglooaalaa
end
section
open Go Go.HL
namespace Go.Proofs.Ytiejmoglooaalaa
set_option linter.unusedSectionVars false
open Go.Proofs.Try renaming prog → Tp
open Go.HL.HV renaming undef → Ud
abbrev bU (us:List Int):Blk:=.arr 16 [.agg (us.map Qb)] true 0
theorem QrL:Tp.underlying 100=some (.array 16 3):=by kernel_rfl
theorem ixU {b:Nat} {v:Int} (h0:0≤v) (h:v<16):ZI Tp 100 (.ptr b 0 0 1) (.int .i64 v)=some (.ptr b 0 v.toNat 1):=Qf3 QrL z3 h0 (by omega)
theorem ldU {H:Heap} {b:Nat} {us:List Int} (hb:H[b]?=some (bU us)) {v:Nat} (h:v<us.length):QK Tp H 3 (.ptr b 0 v 1)=some (.int .i64 (us.getD v 0)) :=
 VP (P:=Tp) (t:=3) (b:=b) (i:=0) (off:=v) (tot:=1) (els:=[.agg (us.map Qb)]) (cs:=us.map Qb) hb rfl rfl a3 i3 (by rw [qI,qC h];simp [qE,qC h,Qb])
theorem stU {H:Heap} {b:Nat} {us:List Int} (hb:H[b]?=some (bU us)) {v:Nat} (h:v<us.length) (x:Int):Wf Tp H 3 (.ptr b 0 v 1) (.int .i64 x)=some (H.set b (bU (us.set v x))):=by
 have:=QaG (P:=Tp) (t:=3) (b:=b) (i:=0) (off:=v) (tot:=1) (v:=.int .i64 x) (els:=[.agg (us.map Qb)]) (cs:=us.map Qb) hb rfl rfl z3 rfl rfl (by simp [bnd]) (by simpa using h)
 rw [this]
 show some (H.set b (.arr 16 [.agg ((us.map Qb).set v (Qb x))] true 0))=_
 rw [bU,List.map_set]
structure Up (us g:List Int):Prop where
 lu:us.length=16
 lg:g.length=16
 up:∀v,v<16→(us.getD v 0=(v:Int)∧g.getD v 0=(v:Int))∨(0≤us.getD v 0∧us.getD v 0<(v:Int)∧g.getD v 0=g.getD (us.getD v 0).toNat 0)
theorem Up.lab {us g:List Int} (h:Up us g):∀v,v<16→0≤g.getD v 0∧g.getD v 0≤(v:Int)∧us.getD (g.getD v 0).toNat 0=g.getD v 0∧g.getD (g.getD v 0).toNat 0=g.getD v 0:=by
 intro v
 induction v using Nat.strongRecOn with
 | _ v ih =>
  intro hv
  rcases h.up v hv with ⟨h1,h2⟩ | ⟨h1,h2,h3⟩
  ·rw [h2,qF]
   exact ⟨by omega,by omega,h1,h2⟩
  ·rw [h3]
   obtain ⟨k1,k2,k3,k4⟩:=ih (us.getD v 0).toNat (by omega) (by omega)
   exact ⟨k1,by omega,k3,k4⟩
theorem Up.start:Up (Qf 16) (Qf 16):=by
 refine ⟨rfl,rfl,fun v hv=>.inl ?_⟩
 have:(Qf 16).getD v 0=(v:Int):=by simp [Qf,qE,hv]
 exact ⟨this,this⟩
theorem Sz {us:List Int} {i v:Nat} {x:Int} (hi:i<us.length):(us.set i x).getD v 0=if i=v then x else us.getD v 0:=by
 simp only [qE,List.getElem?_set]
 split
 ·rename_i h;subst h;simp [hi]
 ·rfl
theorem Vx {g:List Int} {f:Int→Int} {v:Nat} (hv:v<g.length):(g.map f).getD v 0=f (g.getD v 0):=by
 simp [qE,qC hv]
theorem Up.join {us g:List Int} (h:Up us g) {u v:Nat} (hu:u<16) (hv:v<16):Up (us.set (max (g.getD u 0) (g.getD v 0)).toNat (min (g.getD u 0) (g.getD v 0))) (Wa g (u:Int) (v:Int)):=by
 obtain ⟨a1,a2,a3,a4⟩:=h.lab u hu
 obtain ⟨b1,b2,b3,b4⟩:=h.lab v hv
 have hx:∃x y:Nat,min (g.getD u 0) (g.getD v 0)=(x:Int)∧max (g.getD u 0) (g.getD v 0)=(y:Int)∧x≤y∧y<16∧us.getD x 0=(x:Int)∧g.getD x 0=(x:Int)∧us.getD y 0=(y:Int)∧g.getD y 0=(y:Int):=by
  obtain ⟨p,hp⟩:∃p:Nat,g.getD u 0=(p:Int):=⟨(g.getD u 0).toNat,by omega⟩
  obtain ⟨q,hq⟩:∃q:Nat,g.getD v 0=(q:Int):=⟨(g.getD v 0).toNat,by omega⟩
  rw [hp,qF] at a3 a4
  rw [hq,qF] at b3 b4
  rcases Nat.le_total p q with hpq | hpq
  ·exact ⟨p,q,by omega,by omega,hpq,by omega,a3,a4,b3,b4⟩
  ·exact ⟨q,p,by omega,by omega,hpq,by omega,b3,b4,a3,a4⟩
 obtain ⟨x,y,ex,ey,hxy,hy,ux,gx',uy,gy⟩:=hx
 unfold Wa
 rw [qF,qF,ex,ey,qF]
 refine ⟨by simp [h.lu],by simp [h.lg],fun w hw=>?_⟩
 rw [Sz (by rw [h.lu];exact hy),Vx (by rw [h.lg];exact hw)]
 by_cases e:y=w
 ·subst e
  rw [if_pos rfl,gy]
  rcases qM x y with c | c
  ·refine .inr ⟨by omega,by omega,?_⟩
   rw [qF,Vx (by rw [h.lg];omega),gx']
   unfold WP
   rw [if_pos rfl,if_neg (by omega)]
  ·have:x=y:=by omega
   subst this
   exact .inl ⟨rfl,by unfold WP;rw [if_pos rfl]⟩
 ·rw [if_neg e]
  rcases h.up w hw with ⟨h1,h2⟩ | ⟨h1,h2,h3⟩
  ·refine .inl ⟨h1,?_⟩
   rw [h2];unfold WP;rw [if_neg (by omega)]
  ·refine .inr ⟨h1,h2,?_⟩
   rw [h3,Vx (by rw [h.lg];omega)]
def upJ (us g:List Int) (u v:Int):List Int:=us.set (max (g.getD u.toNat 0) (g.getD v.toNat 0)).toNat (min (g.getD u.toNat 0) (g.getD v.toNat 0))
section
variable {F:FuncId→Option (List HV→Option HV)}
abbrev ClF (F:FuncId→Option (List HV→Option HV)) (g:FuncId) (args:List HV) (H:Heap) (r:HV) (H':Heap):Prop:=CallsTo (P:=Tp) (pol:=plF F) g args H r H'
theorem Xs (hF:F 53=none) (H:Heap) (hm:mxs H≤H.length+1):ClF F 53 [] H (.ptr H.length 0 0 1) (H++[bU (Qf 16)]):=by
 have a:=QkI (F:=F) H
 have b:=QkJ (F:=F) H 0 (a0:=.ptr H.length 0 0 1) (H0:=H++[bU (qG 16 0)]) rfl
 have c:=QkK (F:=F) (H++[bU (qG 16 0)]) H.length
 have hset:∀i,i≤16→(Qf i++qG (16-i) (0:Int)).length=16:=fun i hi=>by simp [QL];omega
 have hstep:∀i,i<16→(Qf i++qG (16-i) (0:Int)).set i (i:Int)=Qf (i+1)++qG (16-(i+1)) 0:=fun i hi=>by
  rw [qV _ _ (by rw [QL];exact qD _),QL,qN,show 16-i=(16-(i+1))+1 by omega,List.replicate_succ,List.set_cons_zero,WO,jH];rfl
 have r:=Q7 (pol':=plF F) (f:=53) (E:=fun i=>(Kr Ud (.ptr H.length 0 0 1) Ud (.i (i:Int)))) (Hs:=fun i=>H++[bU (Qf i++qG (16-i) 0)]) 16
  (E0:=fun i=>(Kr Ud (.ptr H.length 0 0 1) (.i (i:Int)) (.i ((i+1:Nat):Int)))) (H1:=fun i=>H++[bU (Qf (i+1)++qG (16-(i+1)) 0)])
  (fun i hi=>by
   have st:=stU (H:=H++[bU (Qf i++qG (16-i) 0)]) (b:=H.length) (us:=Qf i++qG (16-i) 0) (by rw [qW (qD _),qN];rfl) (v:=i) (by rw [hset i (by omega)];exact hi) (i:Int)
   rw [hstep i hi,qV _ _ (qD _),qN] at st
   have s:=QkL (F:=F) (H++[bU (Qf i++qG (16-i) 0)]) H.length i (by omega) (by have:=ixU (b:=H.length) (v:=(i:Int)) (by omega) (by omega);rwa [qF] at this) st
   rw [Qj (by omega)] at s
   exact s) (fun i _=>by kernel_rfl) (fun i _=>QC _ (by simp)) (QkM (F:=F) (H++[bU (Qf 16++qG (16-16) 0)]) H.length 16 (by omega)) (by simp) (c:=sn 58 B53) (by kernel_rfl) (fun i _=>by kernel_rfl)
 have z:=QkN (F:=F) (H++[bU (Qf 16)]) H.length (y5:=.i 16)
 have e16:H++[bU (Qf 16++qG (16-16) 0)]=H++[bU (Qf 16)]:=rfl
 have t:=sq (a) (sq (b) (sq (sq (c) (bke (c:=sn 29 B53) (r)) (c:=sn 14 B53)) (z) (c:=sn 7 B53)) (c:=sn 3 B53)) (c:=B53)
 have h:=CallsTo.shared (P:=Tp) (pol:=plF F) (g:=53) (fn:=Try.f53) (cd:=B53) (args:=[]) (v:=.ptr H.length 0 0 1) hF (by kernel_rfl) (by kernel_rfl) (by kernel_rfl) t (by kernel_rfl) (by simp) (by kernel_rfl)
 have e:gc H.length (bnd (.ptr H.length 0 0 1)) (H++[bU (Qf 16)])=H++[bU (Qf 16)]:=by
  unfold gc
  rw [qH]
  simp only [qL,qR,bnd]
  omega
 rw [e] at h
 exact h
theorem JY (hF:F 55=none) {H:Heap} {b:Nat} {us g:List Int} (hb:H[b]?=some (bU us)) (hU:Up us g) {v:Int} (h0:0≤v) (h1:v<16):ClF F 55 [.ptr b 0 0 1,.int .i64 v] H (.int .i64 (g.getD v.toNat 0)) H:=by
 have loop:∀(n:Nat),n<16→RT (plF F) 55 (sn 12 B55) ((XQ (.q b) (.i (n:Int)) (.i 0))) H (.exit 0) ((XQ (.q b) (.i (g.getD n 0)) (.i 0))) H:=by
  intro n
  induction n using Nat.strongRecOn with
  | _ n ih =>
   intro hn
   have ix:=ixU (b:=b) (v:=(n:Int)) (by omega) (by omega)
   have ld:=ldU hb (v:=n) (by rw [hU.lu];exact hn)
   rcases hU.up n hn with ⟨k1,k2⟩ | ⟨k1,k2,k3⟩
   ·have s:=QkP (F:=F) (n:Int) H b (us.getD n 0) 0 ix ld k1
    rw [k2]
    exact lpo (s) (c:=sn 12 B55)
   ·have s:=QkQ (F:=F) (n:Int) H b (us.getD n 0) (us.getD n 0) ix ld (by omega) ix ld
    have r:=ih (us.getD n 0).toNat (by omega) (by omega)
    rw [← k3,show (((us.getD n 0).toNat:Nat):Int)=us.getD n 0 by omega] at r
    exact lop (s) (QC _ rfl) (r)
 have r:=loop v.toNat (by omega)
 rw [show ((v.toNat:Nat):Int)=v by omega] at r
 have a:=QkO (F:=F) v H b
 have z:=QkR (F:=F) (g.getD v.toNat 0) H b
 have t:=sq (a) (sq (bke (c:=sn 6 B55) (r)) (z) (c:=sn 3 B55)) (c:=B55)
 have h:=CallsTo.shared (P:=Tp) (pol:=plF F) (g:=55) (fn:=Try.f55) (cd:=B55) (args:=[.ptr b 0 0 1,.int .i64 v]) (v:=.int .i64 (g.getD v.toNat 0)) hF (by kernel_rfl) (by kernel_rfl) (by kernel_rfl) t (by kernel_rfl) (by simp) (by kernel_rfl)
 rw [QC _ rfl] at h
 exact h
theorem U4 (hF:F 55=none) (hG:F 56=none) {H:Heap} {b:Nat} {us g:List Int} (hb:H[b]?=some (bU us)) (hU:Up us g) {u v:Int} (h01:0≤u∧u<16) (h23:0≤v∧v<16) :
  ClF F 56 [.ptr b 0 0 1,.int .i64 u,.int .i64 v] H (.bool (decide (g.getD u.toNat 0≠g.getD v.toNat 0))) (H.set b (bU (upJ us g u v))):=by
 obtain ⟨h0,h1⟩:=h01
 obtain ⟨h2,h3⟩:=h23
 obtain ⟨N1,c1⟩:=CallsTo.from (JY hF hb hU h0 h1)
 obtain ⟨N2,c2⟩:=CallsTo.from (JY hF hb hU h2 h3)
 obtain ⟨p,rfl⟩:∃p:Nat,u=(p:Int):=⟨u.toNat,by omega⟩
 obtain ⟨q,rfl⟩:∃q:Nat,v=(q:Int):=⟨v.toNat,by omega⟩
 unfold upJ
 simp only [qF] at c1 c2 ⊢
 obtain ⟨a1,a2,_⟩:=hU.lab p (by omega)
 obtain ⟨b1,b2,_⟩:=hU.lab q (by omega)
 have hmax:0≤max (g.getD p 0) (g.getD q 0)∧max (g.getD p 0) (g.getD q 0)<16:=by omega
 have ix:=ixU (b:=b) hmax.1 hmax.2
 have st:=stU hb (v:=(max (g.getD p 0) (g.getD q 0)).toNat) (by rw [hU.lu];omega) (min (g.getD p 0) (g.getD q 0))
 have e:gc H.length (bnd (.bool (decide (g.getD p 0≠g.getD q 0)))) (H.set b (bU (us.set (max (g.getD p 0) (g.getD q 0)).toNat (min (g.getD p 0) (g.getD q 0)))))=H.set b (bU (us.set (max (g.getD p 0) (g.getD q 0)).toNat (min (g.getD p 0) (g.getD q 0)))):=QC _ (by simp)
 by_cases c:g.getD p 0=g.getD q 0
 ·have t:=QkS (F:=F) (N1+N2) (p:Int) (q:Int) H b (fun kf hk=>c1 kf (by omega)) (fun kf hk=>c2 kf (by omega)) ix st c
  have h:=CallsTo.shared (P:=Tp) (pol:=plF F) (g:=56) (fn:=Try.f56) (cd:=B56) (args:=[.ptr b 0 0 1,.int .i64 (p:Int),.int .i64 (q:Int)]) (v:=.bool false) hG (by kernel_rfl) (by kernel_rfl) (by kernel_rfl) t (by kernel_rfl) (by simp) (by kernel_rfl)
  rw [decide_eq_false (fun k=>k c)] at e ⊢
  rw [e] at h
  exact h
 ·have t:=QkT (F:=F) (N1+N2) (p:Int) (q:Int) H b (fun kf hk=>c1 kf (by omega)) (fun kf hk=>c2 kf (by omega)) ix st c
  have h:=CallsTo.shared (P:=Tp) (pol:=plF F) (g:=56) (fn:=Try.f56) (cd:=B56) (args:=[.ptr b 0 0 1,.int .i64 (p:Int),.int .i64 (q:Int)]) (v:=.bool true) hG (by kernel_rfl) (by kernel_rfl) (by kernel_rfl) t (by kernel_rfl) (by simp) (by kernel_rfl)
  rw [decide_eq_true c] at e ⊢
  rw [e] at h
  exact h
end
theorem SA {b q k:Nat} (h:k≤q):W6 Tp 24 (.sl b 0 q none q 1) none (some (.int .i64 (k:Int))) none=some (.sl b 0 k none q 1):=by
 simp [W6,JG,u24,z3,h]
theorem SB {b q k:Nat} (h:k≤q):W6 Tp 24 (.sl b 0 q none q 1) (some (.int .i64 (k:Int))) none none=some (.sl b k (q-k) none q 1):=by
 simp [W6,JG,u24,z3,h]
theorem Qq3 {H:Heap} {b off len q:Nat} {o:List Int} (hb:H[b]?=some (bI o)) (ho:o.length=q) (h:off+len≤q) {c:Option Nat}:Zs H (.sl b off len c q 1)=some (((o.drop off).take len).map Qb,1):=by
 simp only [Zs]
 split
 ·rename_i h0
  subst h0
  simp
 ·simp only [WR,hb]
  rw [if_pos ⟨by simp [ho],by simp [ho];exact h,trivial⟩]
  simp [List.map_take,List.map_drop]
theorem Qq4:(Tp.info? 3).map (fun i=>(i.size,i.bytes,XB i))=some (1,8,true):=by kernel_rfl
theorem U5 {H:Heap} {b:Nat} {B:Blk} (h:H[b]?=some B):H.set b B=H:=by
 apply List.ext_getElem?
 intro i
 by_cases e:b=i
 ·subst e
  rcases qM b H.length with c | c
  ·rw [jJ c,h]
  ·rw [qO c] at h;cases h
 ·rw [List.getElem?_set_ne e]
theorem Qip {H:Heap} {b m:Nat} {a xs:List Int} {src:HV} (hb:H[b]?=some (bI a)) (ha:a.length=m) (hs:Zs H src=some (xs.map Qb,1)) (hl:m+xs.length≤1000) :
  Wq Tp .append [24,24] [.sl b 0 m none m 1,src] H=some (.sl b 0 (m+xs.length) none (m+xs.length) 1,H.set b (bI (a++xs))):=by
 have hi:=Qq4
 subst ha
 cases hinf:Tp.info? 3 with
 | none=>rw [hinf] at hi;cases hi
 | some inf =>
  rw [hinf] at hi
  simp only [Option.map,Option.some.injEq,Prod.mk.injEq] at hi
  obtain ⟨e1,e2,e3⟩:=hi
  simp only [Wq,u24,hinf,hs,e1,e2,e3]
  rw [if_pos ⟨.inl trivial,by omega,trivial⟩]
  by_cases hx:xs=[]
  ·subst hx
   rw [List.append_nil,U5 hb]
   exact QdQ hb
  ·have:=Ss hb hl hx
   rwa [qL] at this
theorem QaL {base r k:Nat} {H:Heap} (h:k<r):(gc base r H)[k]?=H[k]?:=by
 unfold gc
 exact jN (by omega)
theorem QaM {base r k:Nat} {H:Heap} (h:k<base):(gc base r H)[k]?=H[k]?:=by
 unfold gc
 exact jN (by omega)
theorem YN:∀(n:Nat) (H:Heap),mxs (H.take n)≤mxs H
 | 0,_=>qX _
 | n+1,[]=>qD _
 | n+1,x::H=>by
  have:=YN n H
  simp only [List.take_succ_cons,mxs];omega
theorem QaN {base r:Nat} {H:Heap} (h:mxs H=0):mxs (gc base r H)=0:=by
 have:=YN (max base (max r (mxs H))) H
 unfold gc;omega
theorem Wn:∀(A B:Heap),mxs (A++B)=max (mxs A) (mxs B)
 | [],B=>by simp [mxs]
 | x::A,B=>by simp only [List.cons_append,mxs,Wn A B];omega
theorem SC:∀{H:Heap} {b:Nat} {B:Blk},mxs H=0→B.mx=0→mxs (H.set b B)=0
 | [],_,_,_,_=>rfl
 | x::H,0,B,h,hB=>by
  simp only [mxs] at h
  show max B.mx (mxs H)=0
  omega
 | x::H,b+1,B,h,hB=>by
  simp only [mxs] at h
  have:=SC (H:=H) (b:=b) (B:=B) (by omega) hB
  show max x.mx (mxs (H.set b B))=0
  omega
theorem Cc {α:Type} (p:α→Bool) (d:α):∀(l:List α),(∀j,j<(l.takeWhile p).length→p (l.getD j d)=true)∧((l.takeWhile p).length<l.length→p (l.getD (l.takeWhile p).length d)=false)∧l.take (l.takeWhile p).length=l.takeWhile p∧l.drop (l.takeWhile p).length=l.dropWhile p∧(l.takeWhile p).length≤l.length
 | []=>by simp
 | x::l=>by
  obtain ⟨h1,h2,h3,h4,h5⟩:=Cc p d l
  rw [List.takeWhile_cons,List.dropWhile_cons]
  cases c:p x with
  | true =>
   simp only [if_true]
   refine ⟨fun j hj=>?_,fun h=>?_,?_,?_,?_⟩
   ·cases j with
    | zero=>exact c
    | succ j=>exact h1 j (by simpa using hj)
   ·exact h2 (by simpa using h)
   ·simp [h3]
   ·simp [h4]
   ·simpa using h5
  | false =>
   simp only [jI,if_false]
   refine ⟨fun j hj=>absurd hj (Nat.not_lt_zero _),fun _=>c,rfl,rfl,qX _⟩
end Go.Proofs.Ytiejmoglooaalaa
end
section
namespace Go.HL.So
variable {α:Type} [Inhabited α]
set_option linter.unusedSectionVars false
open Go.Proofs.Try renaming prog → Tp
open Go.HL.HV renaming undef → Ud
abbrev at_ (l:List α) (i:Nat):α:=l.getD i default
def swp (l:List α) (i j:Nat):List α:=(l.set i (at_ l j)).set j (at_ l i)
theorem swp_len (l:List α) (i j:Nat):(swp l i j).length=l.length:=by simp [swp]
theorem Qd3 (l:List α) (i k:Nat) (v:α) (hi:i<l.length):at_ (l.set i v) k=if i=k then v else at_ l k:=by
 simp only [at_,qE,List.getElem?_set,hi]
 split
 ·rename_i e;subst e;simp
 ·rfl
theorem Qd4 {l:List α} {i j:Nat} (hi:i<l.length) (hj:j<l.length) (k:Nat):at_ (swp l i j) k=if k=j then at_ l i else if k=i then at_ l j else at_ l k:=by
 unfold swp
 rw [Qd3 (l.set i (at_ l j)) j k (at_ l i) (by simpa using hj),Qd3 l i k (at_ l j) hi]
 by_cases e:j=k
 ·subst e;simp
 ·have e':¬k=j:=fun h=>e h.symm
  rw [if_neg e,if_neg e']
  by_cases e2:i=k
  ·subst e2;simp
  ·have e2':¬k=i:=fun h=>e2 h.symm
   rw [if_neg e2,if_neg e2']
theorem Qd5 {l:List α} {i j:Nat} (hi:i<l.length) (hj:j<l.length):(swp l i j).Perm l:=by
 have h:=Array.swap_perm (xs:=l.toArray) (i:=i) (j:=j) (by simpa using hi) (by simpa using hj)
 have h2:=h.toList
 rw [Array.toList_swap] at h2
 simpa [swp,at_,qE,qC hi,qC hj] using h2
inductive Sw (a b:Nat) (l:List α):List α→Prop
 | refl:Sw a b l l
 | step {l':List α} {i j:Nat}:Sw a b l l'→a≤i→i<b→a≤j→j<b→Sw a b l (swp l' i j)
theorem Sw.len {a b:Nat} {l l':List α} (h:Sw a b l l'):l'.length=l.length:=by
 induction h with
 | refl=>rfl
 | step h1 _ _ _ _ ih=>rw [swp_len,ih]
theorem Sw.trans {a b:Nat} {l l' l'':List α} (h:Sw a b l l') (h':Sw a b l' l''):Sw a b l l'':=by
 induction h' with
 | refl=>exact h
 | step _ h1 h2 h3 h4 ih=>exact ih.step h1 h2 h3 h4
theorem Sw.one {a b i j:Nat} {l:List α} (h1:a≤i) (h2:i<b) (h3:a≤j) (h4:j<b):Sw a b l (swp l i j):=Sw.refl.step h1 h2 h3 h4
theorem Sw.mono {a b a' b':Nat} {l l':List α} (h:Sw a b l l') (ha:a'≤a) (hb:b≤b'):Sw a' b' l l':=by
 induction h with
 | refl=>exact .refl
 | step _ h1 h2 h3 h4 ih=>exact ih.step (by omega) (by omega) (by omega) (by omega)
theorem Sw.perm {a b:Nat} {l l':List α} (h:Sw a b l l') (hb:b≤l.length):l'.Perm l:=by
 induction h with
 | refl=>exact List.Perm.refl _
 | step h1 h2 h3 h4 h5 ih=>exact (Qd5 (by rw [h1.len];omega) (by rw [h1.len];omega)).trans ih
theorem Sw.out {a b:Nat} {l l':List α} (h:Sw a b l l') (hb:b≤l.length) {k:Nat} (hk:k<a∨b≤k):at_ l' k=at_ l k:=by
 induction h with
 | refl=>rfl
 | step h1 h2 h3 h4 h5 ih=>rw [Qd4 (by rw [h1.len];omega) (by rw [h1.len];omega),if_neg (by omega),if_neg (by omega),ih]
theorem Sw.all {a b:Nat} {l l':List α} (h:Sw a b l l') (hb:b≤l.length) {Q:α→Prop} {lo hi:Nat} (hlo:lo≤a) (hhi:b≤hi) (hQ:∀i,lo≤i→i<hi→Q (at_ l i)):∀i,lo≤i→i<hi→Q (at_ l' i):=by
 induction h with
 | refl=>exact hQ
 | step h1 h2 h3 h4 h5 ih =>
  intro k hk1 hk2
  rw [Qd4 (by rw [h1.len];omega) (by rw [h1.len];omega)]
  split
  ·exact ih _ (by omega) (by omega)
  ·split
   ·exact ih _ (by omega) (by omega)
   ·exact ih _ hk1 hk2
structure Lin (lt:α→α→Prop):Prop where
 tr:∀x y z,¬lt y x→¬lt z y→¬lt z x
 asy:∀x y,lt x y→¬lt y x
def Qd6 (lt:α→α→Prop) (a b:Nat) (l:List α):Prop:=∀i j,a≤i→i<j→j<b→¬lt (at_ l j) (at_ l i)
end Go.HL.So
end
section
open Go Go.HL Go.HL.So
namespace Go.Proofs.Ytiejmoglooaalaa
set_option linter.unusedSectionVars false
open Go.Proofs.Try renaming prog → Tp
open Go.HL.HV renaming undef → Ud
def ltK (l:List St) (i j:Int):Prop:=wOf l i<wOf l j∨(wOf l i=wOf l j∧i<j)
instance (l:List St) (i j:Int):Decidable (ltK l i j):=inferInstanceAs (Decidable (_∨_))
theorem Qgh (l:List St):Lin (ltK l):=⟨fun x y z h1 h2=>by unfold ltK at *;omega,fun x y h=>by unfold ltK at *;omega⟩
theorem Qgi {l:List St} {i j:Int} (h:i≠j) (hn:¬ltK l j i):ltK l i j:=by unfold ltK at *;omega
def leW (l:List St) (i:Int) (x:Int):Bool:=decide (wOf l x≤wOf l i)
def Qd7 (l:List St) (out:List Int) (i:Int):List Int:=out.takeWhile (leW l i)++i::out.dropWhile (leW l i)
def WX (l:List St):Nat→List Int
 | 0=>[]
 | k+1=>Qd7 l (WX l k) (k:Int)
def Qg (l:List St):List Int:=WX l l.length
theorem QcV (l:List St) (out:List Int) (i:Int):(Qd7 l out i).Perm (out++[i]):=by
 have h:(Qd7 l out i).Perm (i::(out.takeWhile (leW l i)++out.dropWhile (leW l i))):=List.perm_middle
 rw [jP] at h
 exact h.trans (List.perm_append_singleton i out).symm
theorem ZY (l:List St):∀k,(WX l k).Perm (Qf k)
 | 0=>List.Perm.refl _
 | k+1=>by
  rw [WX,WO]
  exact (QcV l _ _).trans ((ZY l k).append_right _)
theorem startT_mem {k:Nat} {x:Int}:x∈Qf k↔0≤x∧x<(k:Int):=by
 simp only [Qf,List.mem_map,List.mem_range]
 constructor
 ·rintro ⟨i,hi,rfl⟩;omega
 ·rintro ⟨h1,h2⟩;exact ⟨x.toNat,by omega,by omega⟩
theorem Zi (k:Nat):(Qf k).Nodup:=List.pairwise_map.2 (List.Pairwise.imp (fun {a b} h=>by omega) (List.nodup_range (n:=k)))
theorem ordN_mem {l:List St} {k:Nat} {x:Int}:x∈WX l k↔0≤x∧x<(k:Int):=by rw [(ZY l k).mem_iff,startT_mem]
theorem Xc {α:Type} {p:α→Bool}:∀{l:List α} {x:α},x∈l.takeWhile p→p x=true∧x∈l
 | a::l,x,h=>by
  rw [List.takeWhile_cons] at h
  split at h
  ·rename_i ha
   rcases List.mem_cons.1 h with rfl | h
   ·exact ⟨ha,by simp⟩
   ·obtain ⟨h1,h2⟩:=Xc h
    exact ⟨h1,by simp [h2]⟩
  ·cases h
theorem SD {l:List St} {out:List Int} {i:Int} (hs:out.Pairwise (ltK l)) (hi:∀x∈out,x<i):(Qd7 l out i).Pairwise (ltK l):=by
 unfold Qd7
 have hs2:=hs
 rw [← jP (p:=leW l i) (l:=out),List.pairwise_append] at hs2
 obtain ⟨h1,h2,h3⟩:=hs2
 have drop:∀y∈out.dropWhile (leW l i),wOf l i<wOf l y:=by
  cases hd:out.dropWhile (leW l i) with
  | nil=>simp
  | cons z r =>
   rw [hd] at h2
   have hz:leW l i z=false:=by
    have:=List.head?_dropWhile_not (leW l i) out
    rw [hd] at this
    simpa using this
   have hz:=of_decide_eq_false hz
   intro y hy
   rcases List.mem_cons.1 hy with rfl | hy
   ·omega
   ·have:=(List.pairwise_cons.1 h2).1 y hy
    unfold ltK at this;omega
 rw [List.pairwise_append]
 refine ⟨h1,List.pairwise_cons.2 ⟨fun y hy=>.inl (drop y hy),h2⟩,fun x hx y hy=>?_⟩
 rcases List.mem_cons.1 hy with rfl | hy
 ·obtain ⟨k1,k2⟩:=Xc hx
  have:=of_decide_eq_true k1
  have:=hi x k2
  unfold ltK;omega
 ·exact h3 x hx y hy
theorem JZ (l:List St):∀k,(WX l k).Pairwise (ltK l)
 | 0=>List.Pairwise.nil
 | k+1=>SD (JZ l k) fun x hx=>(ordN_mem.1 hx).2
theorem U6 {α:Type} {lt:α→α→Prop} (asy:∀x y,lt x y→¬lt y x):∀{l m:List α},l.Pairwise lt→m.Pairwise lt→(∀x,x∈l↔x∈m)→l=m
 | [],[],_,_,_=>rfl
 | [],y::m,_,_,h=>absurd ((h y).2 (by simp)) (by simp)
 | x::l,[],_,_,h=>absurd ((h x).1 (by simp)) (by simp)
 | x::l,y::m,hl,hm,h=>by
  obtain ⟨l1,l2⟩:=List.pairwise_cons.1 hl
  obtain ⟨m1,m2⟩:=List.pairwise_cons.1 hm
  have e:x=y:=by
   rcases List.mem_cons.1 ((h x).1 (by simp)) with e | e
   ·exact e
   ·have a1:=m1 x e
    rcases List.mem_cons.1 ((h y).2 (by simp)) with e2 | e2
    ·exact e2.symm
    ·exact absurd (l1 y e2) (asy _ _ a1)
  subst e
  rw [U6 asy l2 m2 fun z=>?_]
  constructor
  ·intro hz
   rcases List.mem_cons.1 ((h z).1 (List.mem_cons_of_mem _ hz)) with e | e
   ·subst e;exact absurd (l1 z hz) (asy _ _ (l1 z hz))
   ·exact e
  ·intro hz
   rcases List.mem_cons.1 ((h z).2 (List.mem_cons_of_mem _ hz)) with e | e
   ·subst e;exact absurd (m1 z hz) (asy _ _ (m1 z hz))
   ·exact e
theorem QaO {l:List St} {l':List Int} (hp:l'.Perm (Qf l.length)) (hs:Qd6 (ltK l) 0 l'.length l'):l'=Qg l:=by
 have hnd:l'.Nodup:=hp.nodup_iff.2 (Zi _)
 refine U6 (fun x y h=>(Qgh l).asy x y h) ?_ (JZ l l.length) fun x=>by rw [hp.mem_iff,startT_mem,Qg,ordN_mem]
 rw [List.pairwise_iff_getElem]
 intro i j hi hj hij
 have e:∀k,(hk:k<l'.length)→at_ l' k=l'[k]:=fun k hk=>by simp [at_,qE,qC hk]
 have:=hs i j (qX _) hij hj
 rw [e i hi,e j hj] at this
 exact Qgi (List.pairwise_iff_getElem.1 hnd i j hi hj hij) this
theorem Zw (l:List St):(Qg l).length=l.length:=by rw [Qg,(ZY l _).length_eq,QL]
theorem ordT_mem {l:List St} {x:Int}:x∈Qg l↔0≤x∧x<(l.length:Int):=ordN_mem
end Go.Proofs.Ytiejmoglooaalaa
end
section
open Go Go.HL
namespace Go.Proofs.Ytiejmoglooaalaa
set_option linter.unusedSectionVars false
open Go.Proofs.Try renaming prog → Tp
open Go.HL.HV renaming undef → Ud
def U7:List HV→Option HV:=f1 kS fun l=>if l.length≤500 then some (.own 1 ((Qg l).map Qb)) else none
theorem Qq5:Try.f47.results.toList=[.tmp 2]:=by kernel_rfl
theorem SE (l:List St) (k:Nat):(WX l k).length=k:=by rw [(ZY l k).length_eq,QL]
section
variable {F:FuncId→Option (List HV→Option HV)}
theorem Qq6 {l:List St} (hl:l.length≤500) {i:Nat} (hi:i<l.length) {ob:Nat} {H:Heap} (hb:H[ob]?=some (bI (WX l i))) :
  RT (plF F) 47 (sn 7460 B47) ((JX (.g (l.map Qa)) (.imm .lit 1 []) (.s ob i) (.i (i:Int)) (.i (0:Int)) Ud)) H (.exit 2) ((JX (.g (l.map Qa)) (.imm .lit 1 []) (.s ob i) (.i (i:Int)) (.i ((((WX l i).takeWhile (leW l (i:Int))).length:Nat):Int)) Ud)) H:=by
 obtain ⟨h1,h2,_,_,h5⟩:=Cc (leW l (i:Int)) 0 (WX l i)
 have hlen:=SE l i
 rw [hlen] at h2 h5
 generalize (((WX l i).takeWhile (leW l (i:Int))).length)=m at *
 have ix:∀j,j<i→ZI Tp 24 (.sl ob 0 i none i 1) (.int .i64 (j:Int))=some (.ptr ob j 0 i):=fun j hj=>by
  have:=G4 (P:=Tp) (t:=24) (b:=ob) (len:=i) (tot:=i) (cap:=none) (ik:=.i64) (n:=(j:Int)) u24 z3 (by omega) (by omega)
  rwa [qF] at this
 have ld:∀j,j<i→QK Tp H 3 (.ptr ob j 0 i)=some (.int .i64 (((WX l i).getD j 0).toNat:Int))∧((WX l i).getD j 0).toNat<l.length∧((((WX l i).getD j 0).toNat:Nat):Int)=(WX l i).getD j 0:=fun j hj=>by
  have hm:=ordN_mem.1 (Qo 0 (l:=WX l i) (i:=j) (by omega))
  have:=QR hb (y:=j) (by omega)
  rw [hlen] at this
  have ek:((((WX l i).getD j 0).toNat:Nat):Int)=(WX l i).getD j 0:=by omega
  rw [ek]
  exact ⟨this,by omega,rfl⟩
 have go:∀j,j<m→RT (plF F) 47 (sn 14920 B47) ((JX (.g (l.map Qa)) (.imm .lit 1 []) (.s ob i) (.i (i:Int)) (.i (j:Int)) Ud)) H .normal ((JX (.g (l.map Qa)) (.imm .lit 1 []) (.s ob i) (.i (i:Int)) (.i ((j+1:Nat):Int)) Ud)) H:=fun j hj=>by
  obtain ⟨d1,d2,d3⟩:=ld j (by omega)
  have hw:=of_decide_eq_true (h1 j hj)
  unfold wOf at hw
  rw [qF] at hw
  have s:=QjH (F:=F) (l.map Qa) H ob i i j ((WX l i).getD j 0).toNat _ _ _ _ _ _ (by omega) (ix j (by omega)) d1 (gs d2) (gs hi) hw
  rw [Qj (by omega)] at s
  exact s
 have out:RT (plF F) 47 (sn 14920 B47) ((JX (.g (l.map Qa)) (.imm .lit 1 []) (.s ob i) (.i (i:Int)) (.i (m:Int)) Ud)) H (.exit 2) ((JX (.g (l.map Qa)) (.imm .lit 1 []) (.s ob i) (.i (i:Int)) (.i (m:Int)) Ud)) H:=by
  by_cases c:m<i
  ·obtain ⟨d1,d2,d3⟩:=ld m c
   have hw:=of_decide_eq_false (h2 c)
   unfold wOf at hw
   rw [qF] at hw
   exact QjI (F:=F) (l.map Qa) H ob i i m ((WX l i).getD m 0).toNat _ _ _ _ _ _ (by omega) (ix m c) d1 (gs d2) (gs hi) hw
  ·exact QjJ (F:=F) (l.map Qa) H ob i i m 0 0 0 0 0 0 0 (by omega)
 exact Q7 (pol':=plF F) (f:=47) (E:=fun j=>(JX (.g (l.map Qa)) (.imm .lit 1 []) (.s ob i) (.i (i:Int)) (.i (j:Int)) Ud)) (Hs:=fun _=>H) m go (fun i _=>by kernel_rfl) (fun i _=>QC _ rfl) out (by simp) (c:=sn 7460 B47) (by kernel_rfl) (fun i _=>by kernel_rfl)
end
theorem Gf:QP Tp 47 U7:=by
 refine Qn (pol:=plF fun _=>none) (fn:=Try.f47) (cd:=B47) Qh (Qz (fun _=>none) (fun g f h=>by cases h)) (by kernel_rfl) (by kernel_rfl) (Zh (fun _=>none) _ _ (by kernel_rfl)) (by kernel_rfl) ?_
 intro args res h
 obtain ⟨l,rfl,hq⟩:=KJ h
 split at hq
 case isFalse=>cases hq
 rename_i hl
 cases hq
 have a:=QjB (F:=fun _=>none) (l.map Qa)
 have b:=QjC (F:=fun _=>none) (l.map Qa) [] (v0:=.sl 0 0 0 none 0 1) (H0:=[bI []]) rfl
 have c:=QjD (F:=fun _=>none) (l.map Qa) [bI []] 0 0
 obtain ⟨x,E',H',r,hx⟩:=W2 (pol':=plF fun _=>none) (f:=47) (b:=sn 116 B47) (c:=sn 58 B47) (I:=fun i e H=>∃ob,e=(JX (.g (l.map Qa)) (.imm .lit 1 []) (.s ob i) (.i (i:Int)) Ud Ud)∧H[ob]?=some (bI (WX l i))∧mxs H=0) (Q:=fun x e H=>x=.exit 0∧∃ob,e=(JX (.g (l.map Qa)) (.imm .lit 1 []) (.s ob l.length) (.i ((l.length:Nat):Int)) Ud Ud)∧H[ob]?=some (bI (WX l l.length))) l.length
  (by
   rintro i hi e H ⟨ob,rfl,hb,hm⟩
   have hlen:=SE l i
   have s1:=QjE (F:=fun _=>none) (l.map Qa) H ob i i (by rw [qB];omega)
   have s2:=QjG (F:=fun _=>none) (l.map Qa) H ob i i
   have r1:=Qq6 (F:=fun _=>none) hl hi hb
   obtain ⟨_,_,t3,t4,t5⟩:=Cc (leW l (i:Int)) 0 (WX l i)
   rw [hlen] at t5
   generalize hmm:(((WX l i).takeWhile (leW l (i:Int))).length)=m at *
   have hob:ob<H.length:=by
    rcases qM ob H.length with h | h
    ·exact h
    ·rw [qO h] at hb;cases hb
   have hset:∀(A B:Blk),(H++[A]).set H.length B=H++[B]:=fun A B=>by rw [qV _ _ (qD _),qN];rfl
   have hget:∀(A:Blk),(H++[A])[H.length]?=some A:=fun A=>by rw [qW (qD _),qN];rfl
   have hlo:∀(A:Blk),(H++[A])[ob]?=some (bI (WX l i)):=fun A=>by rw [jQ hob];exact hb
   have a1:=Qip (H:=H++[bI []]) (b:=H.length) (m:=0) (a:=[]) (xs:=((WX l i).drop 0).take m) (src:=.sl ob 0 m none i 1) (hget _) rfl (Qq3 (hlo _) hlen (by omega)) (by rw [qJ];simp;omega)
   have e1:(((WX l i).drop 0).take m).length=m:=by rw [List.drop_zero,qJ];omega
   rw [e1,qQ,hset,List.nil_append,List.drop_zero] at a1
   have hlt:((WX l i).take m).length=m:=by rw [qJ];omega
   have a2:=Zz (H:=H++[bI ((WX l i).take m)]) (b:=H.length) (o:=(WX l i).take m) (hget _) (by omega) (i:Int)
   rw [hset,hlt] at a2
   have a3:=Qip (H:=H++[bI ((WX l i).take m++[(i:Int)])]) (b:=H.length) (m:=m+1) (a:=(WX l i).take m++[(i:Int)]) (xs:=((WX l i).drop m).take (i-m)) (src:=.sl ob m (i-m) none i 1) (hget _) (by simp [hlt]) (Qq3 (hlo _) hlen (by omega)) (by rw [qJ];omega)
   have e3:((WX l i).drop m).take (i-m)=(WX l i).drop m:=qH (by rw [List.length_drop];omega)
   have e4:((WX l i).drop m).length=i-m:=by rw [List.length_drop];omega
   rw [e3,e4,show m+1+(i-m)=i+1 by omega,hset,jH,List.singleton_append] at a3
   have ei:(WX l i).take m++(i:Int)::(WX l i).drop m=WX l (i+1):=by
    rw [t3,t4];rfl
   rw [ei] at a3
   have s3:=QjK (F:=fun _=>none) (l.map Qa) H ob i i m H.length rfl (SA (by omega)) a1 a2 (SB (by omega)) a3
   have s4:=QjL (F:=fun _=>none) (l.map Qa) (H++[bI (WX l (i+1))]) H.length (i+1) i (y5:=.i (m:Int)) (y6:=.sl H.length 0 (m+1) none (m+1) 1)
   rw [Qj (by omega)] at s4
   refine ⟨_,_,sq (s1) (sq (RunsTo.block_normal (i:=1) (c:=sn 466 B47) (sq (s2) (sq (bke (c:=sn 3730 B47) (r1)) (s3) (c:=sn 1865 B47)) (c:=sn 932 B47)) (by kernel_rfl)) (s4) (c:=sn 233 B47)) (c:=sn 116 B47),H.length,by kernel_rfl,?_,QaN (by rw [Wn,hm];rfl)⟩
   rw [QaL (by
    have e:Qy (plF fun _=>none) 47 (sn 116 B47) ((JX (.g (l.map Qa)) (.imm .lit 1 []) (.sl H.length 0 (i+1) none (i+1) 1) (.i ((i+1:Nat):Int)) (.i (m:Int)) (.sl H.length 0 (m+1) none (m+1) 1)))=(JX (.g (l.map Qa)) (.imm .lit 1 []) (.sl H.length 0 (i+1) none (i+1) 1) (.i ((i+1:Nat):Int)) Ud Ud):=by kernel_rfl
    rw [e]
    simp [Wc,bnd,bndL])]
   exact hget _)
  (by
   rintro e H ⟨ob,rfl,hb,hm⟩
   have s1:=QjF (F:=fun _=>none) (l.map Qa) H ob l.length l.length (by rw [qB];omega)
   exact ⟨_,_,_,sqo (s1) (c:=sn 116 B47) (b:=sn 233 B47),by simp,rfl,ob,rfl,hb⟩)
  (by kernel_rfl) (by rintro i e H ⟨ob,rfl,_,_⟩;kernel_rfl) (e:=(JX (.g (l.map Qa)) (.imm .lit 1 []) (.s 0 0) (.i (0:Int)) Ud Ud)) (H:=[bI []]) ⟨0,rfl,rfl,rfl⟩
 obtain ⟨rfl,ob,rfl,hb⟩:=hx
 have z:=QjM (F:=fun _=>none) (l.map Qa) H' ob l.length (y4:=.i (l.length:Int))
 refine ⟨_,_,_,.sl ob 0 l.length none l.length 1,sq (a) (sq (b) (sq (sq (c) (bke (c:=sn 29 B47) (r)) (c:=sn 14 B47)) (z) (c:=sn 7 B47)) (c:=sn 3 B47)) (c:=B47),by simp,by simp only [Qc,Qq5];rfl,?_⟩
 exact Vt hb (Zw l)
end Go.Proofs.Ytiejmoglooaalaa
end
section
open Go Go.HL
namespace Go.Proofs.Ytiejmoglooaalaa
set_option maxRecDepth 100000
set_option linter.unusedSectionVars false
open Go.Proofs.Try renaming prog → Tp
open Go.HL.HV renaming undef → Ud
section
variable {F:FuncId→Option (List HV→Option HV)}
noncomputable def B40:Code:=Try.f40.body.getD .skip
abbrev Gg (v0 v1 v2 v3 v4 v5 v7 v10 v11 v12:HV):Env:=[(0,v0),(1,v1),(2,v2),(3,v3),(4,v4),(5,v5),(7,v7),(10,v10),(11,v11),(12,v12)]
end
abbrev e40 (n:Int) (ls:List HV) (u4 u5 u6 u7 u8 u9:HV):Env:=Gg (.N n ls) (.q 0) (.imm .lit 1 []) (.bool false) u4 u5 u6 u7 u8 u9
section
variable {F:FuncId→Option (List HV→Option HV)}
variable (N:Nat) (n:Int) (ls:List HV)
include N n ls
theorem QkU:RU F 40 2 B40 [(0,.N n ls)] [] .normal (e40 n ls Ud Ud Ud Ud Ud Ud) [.arr 2 [.N n ls] true 0] :=
 hx N 60 []
end
section
variable {F:FuncId→Option (List HV→Option HV)}
variable (N:Nat) (n:Int) (ls:List HV)
include N n ls
theorem QkV (H:Heap) {H0:Heap} (g0:CN F N 53 [] H (.q 1) H0) (y4 y5 y7 y10 y11 y12:HV:=Ud): RU F 40 6 B40 (e40 n ls y4 y5 y7 y10 y11 y12) H .normal (e40 n ls (.q 1) y5 y7 y10 y11 y12) H0 :=
 hx N 60 [jC 1 0 g0]
theorem QkW (us:List HV) (y5 y7 y10 y11 y12:HV:=Ud): RU F 40 14 B40 (e40 n ls (.q 1) y5 y7 y10 y11 y12) [.arr 2 [.N n ls] true 0,.arr 16 [.agg us] true 0] .normal (e40 n ls (.q 1) (.s 2 0) y7 y10 y11 y12) [.arr 2 [.N n ls] true 0,.arr 16 [.agg us] true 0,.b []] :=
 hx N 60 []
theorem QkX (H:Heap) (c m:Nat) {H0:Heap} (g0:LD H 66 (.q 0) (.N n ls)) (g1:CM F 54 [.N n ls] H (.s 3 m) H0) (y7 y10 y11 y12:HV:=Ud): RU F 40 60 B40 (e40 n ls (.q 1) (.s 2 c) y7 y10 y11 y12) H .normal (e40 n ls (.q 1) (.s 2 c) y7 (.s 3 m) (.n m) (.i 0)) H0 :=
 hx N 60 [jO 3 0 H g0,jD 3 1 g1]
theorem QkY (H:Heap) (c m j k:Nat) (a b w:Int) {H0:Heap} {H1:Heap} {v0:HV} (g0:(j:Int)<(m:Int)) (g1:IS 24 3 m j) (g2:LD H 3 (.ptr 3 j 0 m) (.n k)) (g3:LD H 22 (.ptr 0 0 1 1) (.g ls)) (g4:IX 22 (.g ls) (.n k) (.vptr (.agg [.i a,.i b,.i w]))) (g5:LD H 22 (.ptr 0 0 1 1) (.g ls)) (g6:IX 22 (.g ls) (.n k) (.vptr (.agg [.i a,.i b,.i w]))) (g7:CN F N 56 [.q 1,.i a,.i b] H (.bool true) H0) (g8:W5 H0 1 8 (.s 2 c) [.n k]=some (v0,H1)) (y7:HV:=Ud): RU F 40 244 B40 (e40 n ls (.q 1) (.s 2 c) y7 (.s 3 m) (.n m) (.n j)) H .normal (e40 n ls (.q 1) v0 (.n k) (.s 3 m) (.n m) (.i (qA.wrap ((j:Int)+1)))) H1 :=
 hx N 60 [jT 4 0 H g0,jO 5 0 H g1,jO 5 1 H g2,jO 6 2 H g3,jO 6 4 H g4,jO 6 8 H g5,jO 6 10 H g6,jC 6 13 g7,jR 7 3 g8]
theorem QkZ (H:Heap) (c m j k:Nat) (a b w:Int) {H0:Heap} (g0:(j:Int)<(m:Int)) (g1:IS 24 3 m j) (g2:LD H 3 (.ptr 3 j 0 m) (.n k)) (g3:LD H 22 (.ptr 0 0 1 1) (.g ls)) (g4:IX 22 (.g ls) (.n k) (.vptr (.agg [.i a,.i b,.i w]))) (g5:LD H 22 (.ptr 0 0 1 1) (.g ls)) (g6:IX 22 (.g ls) (.n k) (.vptr (.agg [.i a,.i b,.i w]))) (g7:CN F N 56 [.q 1,.i a,.i b] H (.bool false) H0) (y7:HV:=Ud): RU F 40 244 B40 (e40 n ls (.q 1) (.s 2 c) y7 (.s 3 m) (.n m) (.n j)) H .normal (e40 n ls (.q 1) (.s 2 c) (.n k) (.s 3 m) (.n m) (.i (qA.wrap ((j:Int)+1)))) H0 :=
 hx N 60 [jT 4 0 H g0,jO 5 0 H g1,jO 5 1 H g2,jO 6 2 H g3,jO 6 4 H g4,jO 6 8 H g5,jO 6 10 H g6,jC 6 13 g7]
theorem Qk0 (H:Heap) (c m j k:Nat) (a b w:Int) (g0:¬((j:Int)<(m:Int))) (y7:HV:=Ud): RU F 40 244 B40 (e40 n ls (.q 1) (.s 2 c) y7 (.s 3 m) (.n m) (.n j)) H (.exit 0) (e40 n ls (.q 1) (.s 2 c) y7 (.s 3 m) (.n m) (.n j)) H :=
 hx N 60 [jF 4 0 H g0]
theorem Qk1 (H:Heap) (c m:Nat) (g0:LD H 3 (.q 0) (.i n)) (g1:(c:Int)=qA.wrap (n-1)) (y7 y10 y11 y12:HV:=Ud): RU F 40 31 B40 (e40 n ls (.q 1) (.s 2 c) y7 y10 y11 y12) H .ret (Gg (.N n ls) (.q 0) (.s 2 c) (.bool true) (.q 1) (.s 2 c) y7 y10 y11 y12) H :=
 hx N 60 [jO 9 4 H g0,jT 9 6 H g1]
theorem Qk2 (H:Heap) (c m:Nat) (g0:LD H 3 (.q 0) (.i n)) (g1:¬((c:Int)=qA.wrap (n-1))) (y7 y10 y11 y12:HV:=Ud): RU F 40 31 B40 (e40 n ls (.q 1) (.s 2 c) y7 y10 y11 y12) H .ret (Gg (.N n ls) (.q 0) (.s 2 c) (.bool false) (.q 1) (.s 2 c) y7 y10 y11 y12) H :=
 hx N 60 [jO 9 4 H g0,jF 9 6 H g1]
end
section
variable {F:FuncId→Option (List HV→Option HV)}
noncomputable def B57:Code:=Try.f57.body.getD .skip
abbrev Gh (v0 v1 v2 v4 v5 v6 v7 v9 v11 v12 v13:HV):Env:=[(0,v0),(1,v1),(2,v2),(4,v4),(5,v5),(6,v6),(7,v7),(9,v9),(11,v11),(12,v12),(13,v13)]
end
abbrev e57 (n:Int) (ls:List HV) (lb:Nat) (q:Nat) (cap:Option Nat) (tt:Nat) (nb:Nat) (pb:Nat) (u3 u6 u7 u8 u9 u10:HV):Env:=Gh (.N n ls) (.sl lb 0 q cap tt 1) (.q nb) u3 (.i 0) (.q pb) u6 u7 u8 u9 u10
section
variable {F:FuncId→Option (List HV→Option HV)}
variable (N:Nat) (n:Int) (ls:List HV) (lb q tt:Nat) (cap:Option Nat) (H:Heap)
include N n ls lb q tt cap H
theorem Qk3 {a0:HV} {H0:Heap} (g0:some (Wt (.N n ls) H)=some (a0,H0)): RU F 57 2 B57 [(0,.N n ls),(1,.sl lb 0 q cap tt 1)] H .normal (Gh (.N n ls) (.sl lb 0 q cap tt 1) a0 Ud (.i 0) Ud Ud Ud Ud Ud Ud) H0 :=
 hx N 60 [jR 0 0 g0]
end
section
variable {F:FuncId→Option (List HV→Option HV)}
variable (N:Nat) (n:Int) (ls:List HV) (lb q tt:Nat) (cap:Option Nat) (H:Heap)
include N n ls lb q tt cap H
theorem Qk4 (nb pb:Nat) {H0:Heap} (g0:CN F N 53 [] H (.q pb) H0) (y4 y6 y7 y9 y11 y12 y13:HV:=Ud): RU F 57 6 B57 (Gh (.N n ls) (.sl lb 0 q cap tt 1) (.q nb) y4 (.i 0) y6 y7 y9 y11 y12 y13) H .normal (e57 n ls lb q cap tt nb pb y4 y7 y9 y11 y12 y13) H0 :=
 hx N 60 [jC 1 0 g0]
theorem Qk5 (nb pb:Nat) (y4 y7 y9 y11 y12 y13:HV:=Ud): RU F 57 14 B57 (e57 n ls lb q cap tt nb pb y4 y7 y9 y11 y12 y13) H .normal (e57 n ls lb q cap tt nb pb y4 (.i 0) y9 y11 y12 y13) H :=
 hx N 60 []
theorem Qk6 (nb pb c:Nat) (y4 y9 y11 y12 y13:HV:=Ud): RU F 57 60 B57 (e57 n ls lb q cap tt nb pb y4 (.n c) y9 y11 y12 y13) H .normal (e57 n ls lb q cap tt nb pb y4 (.n c) y9 (.sl lb 0 q cap tt 1) (.n q) (.i 0)) H :=
 hx N 60 []
theorem Qk7 (nb pb c m j k:Nat) (a b w:Int) {H0:Heap} (g0:(j:Int)<(m:Int)) (g1:IX 24 (.sl lb 0 q cap tt 1) (.n j) (.ptr lb j 0 tt)) (g2:LD H 3 (.ptr lb j 0 tt) (.n k)) (g3:LD H 22 (.ptr nb 0 1 1) (.g ls)) (g4:IX 22 (.g ls) (.n k) (.vptr (.agg [.i a,.i b,.i w]))) (g5:LD H 22 (.ptr nb 0 1 1) (.g ls)) (g6:IX 22 (.g ls) (.n k) (.vptr (.agg [.i a,.i b,.i w]))) (g7:CN F N 56 [.q pb,.i a,.i b] H (.bool true) H0) (y4 y9:HV:=Ud): RU F 57 244 B57 (e57 n ls lb q cap tt nb pb y4 (.n c) y9 (.sl lb 0 q cap tt 1) (.n m) (.n j)) H .normal (e57 n ls lb q cap tt nb pb y4 (.i (qA.wrap ((c:Int)+1))) (.n k) (.sl lb 0 q cap tt 1) (.n m) (.i (qA.wrap ((j:Int)+1)))) H0 :=
 hx N 60 [jT 4 0 H g0,jO 5 0 H g1,jO 5 1 H g2,jO 6 2 H g3,jO 6 4 H g4,jO 6 8 H g5,jO 6 10 H g6,jC 6 13 g7]
theorem Qk8 (nb pb c m j k:Nat) (a b w:Int) {H0:Heap} (g0:(j:Int)<(m:Int)) (g1:IX 24 (.sl lb 0 q cap tt 1) (.n j) (.ptr lb j 0 tt)) (g2:LD H 3 (.ptr lb j 0 tt) (.n k)) (g3:LD H 22 (.ptr nb 0 1 1) (.g ls)) (g4:IX 22 (.g ls) (.n k) (.vptr (.agg [.i a,.i b,.i w]))) (g5:LD H 22 (.ptr nb 0 1 1) (.g ls)) (g6:IX 22 (.g ls) (.n k) (.vptr (.agg [.i a,.i b,.i w]))) (g7:CN F N 56 [.q pb,.i a,.i b] H (.bool false) H0) (y4 y9:HV:=Ud): RU F 57 244 B57 (e57 n ls lb q cap tt nb pb y4 (.n c) y9 (.sl lb 0 q cap tt 1) (.n m) (.n j)) H .normal (e57 n ls lb q cap tt nb pb y4 (.n c) (.n k) (.sl lb 0 q cap tt 1) (.n m) (.i (qA.wrap ((j:Int)+1)))) H0 :=
 hx N 60 [jT 4 0 H g0,jO 5 0 H g1,jO 5 1 H g2,jO 6 2 H g3,jO 6 4 H g4,jO 6 8 H g5,jO 6 10 H g6,jC 6 13 g7]
theorem Qk9 (nb pb c m j k:Nat) (a b w:Int) (g0:¬((j:Int)<(m:Int))) (y4 y9:HV:=Ud): RU F 57 244 B57 (e57 n ls lb q cap tt nb pb y4 (.n c) y9 (.sl lb 0 q cap tt 1) (.n m) (.n j)) H (.exit 0) (e57 n ls lb q cap tt nb pb y4 (.n c) y9 (.sl lb 0 q cap tt 1) (.n m) (.n j)) H :=
 hx N 60 [jF 4 0 H g0]
theorem Qla (nb pb c:Nat) (y4 y9 y11 y12 y13:HV:=Ud): RU F 57 31 B57 (e57 n ls lb q cap tt nb pb y4 (.n c) y9 y11 y12 y13) H .ret (Gh (.N n ls) (.sl lb 0 q cap tt 1) (.q nb) (.q pb) (.n c) (.q pb) (.n c) y9 y11 y12 y13) H :=
 hx N 60 []
end
section
variable {F:FuncId→Option (List HV→Option HV)}
noncomputable def B69:Code:=Try.f69.body.getD .skip
abbrev Qq7 (v0 v1 v2 v5:HV):Env:=[(0,v0),(1,v1),(2,v2),(5,v5)]
theorem QrM (i j:Nat) (n:Int) (ls:List HV) (a b w a2 b2 w2:Int) (c0:Int) (c1:Int) (c2:Int) (g0:IX 22 (.g ls) (.n i) (.vptr (.agg [.i a,.i b,.i w]))) (g1:IX 22 (.g ls) (.n j) (.vptr (.agg [.i a2,.i b2,.i w2]))) (g2:CM F 71 [.i w,.i w2] [] (.i c0) []) (g3:CM F 71 [.n i,.n j] [] (.i c1) []) (g4:CM F 70 [.imm .lit 1 [.i c0,.i c1]] [] (.i c2) []): RU F 69 1 B69 [(0,.n i),(1,.n j),(2,.vptr (.N n ls))] [] .ret (Qq7 (.n i) (.n j) (.vptr (.N n ls)) (.i c2)) [] :=
 hx 0 60 [jO 1 3 [] g0,jO 1 9 [] g1,jD 1 12 g2,jD 1 15 g3,jD 1 17 g4]
end
end Go.Proofs.Ytiejmoglooaalaa
end
section
open Go Go.HL
namespace Go.Proofs.Ytiejmoglooaalaa
set_option linter.unusedSectionVars false
open Go.Proofs.Try renaming prog → Tp
open Go.HL.HV renaming undef → Ud
def Qiq:List HV→Option HV:=f1 kI fun _=>some (.bool false)
def Yk (x y:Int):Int:=if x<y then -1 else if y<x then 1 else 0
def Qd8:List HV→Option HV:=f2 kI kI fun x y=>some (.int .i64 (Yk x y))
def QaP (a b:Int):Int:=if a≠0 then a else b
def Qd9:List HV→Option HV:=f1 kL fun l=>match l with | [a,b]=>some (.int .i64 (QaP a b)) | _=>none
def polCm:Pol:={ pol with prim:=fun g=>if g==89 then some Qiq else none }
end Go.Proofs.Ytiejmoglooaalaa
end
section
open Go Go.HL
namespace Go.Proofs.Ytiejmoglooaalaa
set_option maxRecDepth 100000
set_option linter.unusedSectionVars false
open Go.Proofs.Try renaming prog → Tp
open Go.HL.HV renaming undef → Ud
noncomputable def B89:Code:=Try.f89.body.getD .skip
abbrev Qq8 (v0 v2:HV):Env:=[(0,v0),(2,v2)]
theorem Qq9 (x:Int) (g0:x=x): RT pol 89 (sub [] B89) [(0,.i x)] [] .ret (Qq8 (.i x) (.bool false)) [] :=
 hx 0 60 [jB 1 2 [] (congrArg not (decide_eq_true g0))]
noncomputable def B71:Code:=Try.f71.body.getD .skip
abbrev Qea (v0 v1 v4 v5 v6:HV):Env:=[(0,v0),(1,v1),(4,v4),(5,v5),(6,v6)]
section
variable (x y:Int)
include x y
theorem Qra (g0:∀kf,Qs Tp polCm (kf+1) 89 [.i x] []=some (.bool false,[])) (g1:∀kf,Qs Tp polCm (kf+1) 89 [.i y] []=some (.bool false,[])) (g2:x<y): RT polCm 71 (sub [] B71) [(0,.i x),(1,.i y)] [] .ret (Qea (.i x) (.i y) (.i (-1)) (.bool false) (.bool false)) [] :=
 hx 0 60 [jD 1 1 g0,jD 2 1 g1,jT 9 2 [] g2]
theorem Qrb (g0:∀kf,Qs Tp polCm (kf+1) 89 [.i x] []=some (.bool false,[])) (g1:∀kf,Qs Tp polCm (kf+1) 89 [.i y] []=some (.bool false,[])) (g2:¬(x<y)) (g3:y<x): RT polCm 71 (sub [] B71) [(0,.i x),(1,.i y)] [] .ret (Qea (.i x) (.i y) (.i 1) (.bool false) (.bool false)) [] :=
 hx 0 60 [jD 1 1 g0,jD 2 1 g1,jF 9 2 [] g2,jT 11 2 [] g3]
theorem Qrc (g0:∀kf,Qs Tp polCm (kf+1) 89 [.i x] []=some (.bool false,[])) (g1:∀kf,Qs Tp polCm (kf+1) 89 [.i y] []=some (.bool false,[])) (g2:¬(x<y)) (g3:¬(y<x)): RT polCm 71 (sub [] B71) [(0,.i x),(1,.i y)] [] .ret (Qea (.i x) (.i y) (.i 0) (.bool false) (.bool false)) [] :=
 hx 0 60 [jD 1 1 g0,jD 2 1 g1,jF 9 2 [] g2,jF 11 2 [] g3]
end
noncomputable def B70:Code:=Try.f70.body.getD .skip
abbrev Qeb (v0 v2 v4 v5 v6 v7:HV):Env:=[(0,v0),(2,v2),(4,v4),(5,v5),(6,v6),(7,v7)]
section
variable (a b:Int)
include a b
theorem Qrd (g0:¬(a=0)): RT pol 70 (sub [] B70) [(0,.a [.i a,.i b])] [] .ret (Qeb (.a [.i a,.i b]) (.i a) (.i a) (.a [.i a,.i b]) (.i 2) (.i 0)) [] :=
 hx 0 60 [jB 4 1 [] (congrArg not (decide_eq_false g0))]
theorem Qre (g0:a=0) (g1:¬(b=0)): RT pol 70 (sub [] B70) [(0,.a [.i a,.i b])] [] .ret (Qeb (.a [.i a,.i b]) (.i b) (.i b) (.a [.i a,.i b]) (.i 2) (.i 1)) [] :=
 hx 0 60 [jB 4 1 [] (congrArg not (decide_eq_true g0)),jB 4 1 [] (congrArg not (decide_eq_false g1))]
theorem Qrf (g0:a=0) (g1:b=0): RT pol 70 (sub [] B70) [(0,.a [.i a,.i b])] [] .ret (Qeb (.a [.i a,.i b]) (.i 0) Ud (.a [.i a,.i b]) (.i 2) (.i 2)) [] :=
 hx 0 60 [jB 4 1 [] (congrArg not (decide_eq_true g0)),jB 4 1 [] (congrArg not (decide_eq_true g1))]
end
end Go.Proofs.Ytiejmoglooaalaa
end
section
open Go Go.HL
namespace Go.Proofs.Ytiejmoglooaalaa
set_option linter.unusedSectionVars false
open Go.Proofs.Try renaming prog → Tp
open Go.HL.HV renaming undef → Ud
theorem Qrg:Try.f89.results.toList=[.tmp 2]:=by kernel_rfl
theorem Qlb:QP Tp 89 Qiq:=by
 refine Qn (pol:=pol) (fn:=Try.f89) (cd:=B89) Qh Vr (by kernel_rfl) (by kernel_rfl) (Zh pol.prim _ _ (by kernel_rfl)) (by kernel_rfl) ?_
 intro args res h
 obtain ⟨x,rfl,hq⟩:=KJ h
 cases hq
 exact ⟨_,_,_,_,Qq9 x rfl,by simp,by simp only [Qc,Qrg];rfl,rfl⟩
theorem Qgj (n:Nat):Ql Tp (Qs Tp polCm n):=Qz _ (fun g f h=>by
 split at h
 ·rename_i hg;cases h;rw [eq_of_beq hg];exact Qlb
 ·cases h) n
theorem Qec:Try.f71.results.toList=[.tmp 4]:=by kernel_rfl
theorem Qed:QP Tp 71 Qd8:=by
 refine Qn (pol:=polCm) (fn:=Try.f71) (cd:=B71) Qh Qgj (by kernel_rfl) (by kernel_rfl) (Zh polCm.prim _ _ (by kernel_rfl)) (by kernel_rfl) ?_
 intro args res h
 obtain ⟨x,y,rfl,hq⟩:=Zc h
 cases hq
 have g0:=at1 (pol':=polCm) (g:=89) (c1:=kI) (f:=fun _=>some (.bool false)) (H:=[]) (by kernel_rfl) (ShI [] x) rfl
 have g1:=at1 (pol':=polCm) (g:=89) (c1:=kI) (f:=fun _=>some (.bool false)) (H:=[]) (by kernel_rfl) (ShI [] y) rfl
 unfold Yk
 by_cases c:x<y
 ·rw [if_pos c]
  exact ⟨_,_,_,_,Qra x y g0 g1 c,by simp,by simp only [Qc,Qec];rfl,rfl⟩
 ·rw [if_neg c]
  by_cases d:y<x
  ·rw [if_pos d]
   exact ⟨_,_,_,_,Qrb x y g0 g1 c d,by simp,by simp only [Qc,Qec];rfl,rfl⟩
  ·rw [if_neg d]
   exact ⟨_,_,_,_,Qrc x y g0 g1 c d,by simp,by simp only [Qc,Qec];rfl,rfl⟩
theorem Qee:Try.f70.results.toList=[.tmp 2]:=by kernel_rfl
theorem Qef:QP Tp 70 Qd9:=by
 refine Qn (pol:=pol) (fn:=Try.f70) (cd:=B70) Qh Vr (by kernel_rfl) (by kernel_rfl) (Zh pol.prim _ _ (by kernel_rfl)) (by kernel_rfl) ?_
 intro args res h
 obtain ⟨l,rfl,hq⟩:=KJ h
 split at hq
 case h_2=>cases hq
 rename_i a b
 cases hq
 unfold QaP
 by_cases c:a=0
 ·rw [if_neg (by simp [c])]
  by_cases d:b=0
  ·exact ⟨_,_,_,.int .i64 0,Qrf a b c d,by simp,by simp only [Qc,Qee];rfl,by rw [d];rfl⟩
  ·exact ⟨_,_,_,.int .i64 b,Qre a b c d,by simp,by simp only [Qc,Qee];rfl,rfl⟩
 ·rw [if_pos c]
  exact ⟨_,_,_,.int .i64 a,Qrd a b c,by simp,by simp only [Qc,Qee];rfl,rfl⟩
end Go.Proofs.Ytiejmoglooaalaa
end
section
open Go Go.HL Go.HL.So
namespace Go.Proofs.Ytiejmoglooaalaa
set_option linter.unusedSectionVars false
open Go.Proofs.Try renaming prog → Tp
open Go.HL.HV renaming undef → Ud
theorem Qgk (w w2 i j:Int):(QaP (Yk w w2) (Yk i j)<0)↔(w<w2∨(w=w2∧i<j)):=by
 unfold QaP Yk
 by_cases c1:w<w2
 ·simp [c1]
 ·by_cases c2:w2<w
  ·simp [c1,c2] <;> omega
  ·by_cases c3:i<j
   ·simp [c1,c2,c3] <;> omega
   ·by_cases c4:j<i
    ·simp [c1,c2,c3,c4] <;> omega
    ·simp [c1,c2,c3,c4] <;> omega
theorem Qgl (H:Heap) (l:List Int):Sh kL H (.imm .lit 1 (l.map Qb)) l:=by
 show argP (.imm .lit 1 (l.map Qb))=_
 simp only [argP,KI]
 rfl
def cfS (l:List St) (i j:Int):Int:=QaP (Yk (wOf l i) (wOf l j)) (Yk i j)
def SF:FuncId→Option (List HV→Option HV):=fun g=>if g==71 then some Qd8 else if g==70 then some Qd9 else none
theorem Qgm (n:Nat):Ql Tp (Qs Tp (plF SF) n):=Qz _ (fun g f h=>by
 unfold SF at h
 split at h
 ·rename_i hg;cases h;rw [eq_of_beq hg];exact Qed
 split at h
 ·rename_i hg;cases h;rw [eq_of_beq hg];exact Qef
 ·cases h) n
theorem Qgn {n:Int} {l:List St} {i j:Int} (hi:0≤i∧i<(l.length:Int)) (hj:0≤j∧j<(l.length:Int)) :
  CallsTo (P:=Tp) (pol:=plF SF) 69 [Qb i,Qb j,.vptr (Qt n l)] [] (.int .i64 (cfS l i j)) []:=by
 obtain ⟨a,rfl⟩:∃a:Nat,i=(a:Int):=⟨i.toNat,by omega⟩
 obtain ⟨b,rfl⟩:∃b:Nat,j=(b:Int):=⟨j.toNat,by omega⟩
 have g1:=gs (l:=l) (y:=a) (by omega)
 have g2:=gs (l:=l) (y:=b) (by omega)
 have c1:=at2 (pol':=plF SF) (g:=71) (c1:=kI) (c2:=kI) (f:=fun x y=>some (.int .i64 (Yk x y))) (H:=[]) (by kernel_rfl) (ShI [] (wOf l (a:Int))) (ShI [] (wOf l (b:Int))) rfl
 have c2:=at2 (pol':=plF SF) (g:=71) (c1:=kI) (c2:=kI) (f:=fun x y=>some (.int .i64 (Yk x y))) (H:=[]) (by kernel_rfl) (ShI [] (a:Int)) (ShI [] (b:Int)) rfl
 have c3:=at1 (pol':=plF SF) (g:=70) (c1:=kL) (f:=fun l=>match l with | [a,b]=>some (.int .i64 (QaP a b)) | _=>none) (H:=[]) (by kernel_rfl) (Qgl [] [Yk (wOf l (a:Int)) (wOf l (b:Int)),Yk (a:Int) (b:Int)]) rfl
 have s:=QrM (F:=SF) a b n (l.map Qa) (l.getD a (0,0,0)).1 (l.getD a (0,0,0)).2.1 (l.getD a (0,0,0)).2.2 (l.getD b (0,0,0)).1 (l.getD b (0,0,0)).2.1 (l.getD b (0,0,0)).2.2 _ _ _ g1 g2 c1 c2 c3
 have h:=CallsTo.shared (P:=Tp) (pol:=plF SF) (g:=69) (fn:=Try.f69) (cd:=B69) (args:=[.int .i64 (a:Int),.int .i64 (b:Int),.vptr (Qt n l)]) (v:=.int .i64 (QaP (Yk (wOf l (a:Int)) (wOf l (b:Int))) (Yk (a:Int) (b:Int)))) (by kernel_rfl) (by kernel_rfl) (by kernel_rfl) (by kernel_rfl) s (by kernel_rfl) (by simp) (by kernel_rfl)
 exact h
theorem Qgo {c2:Ctx} {w w2:World} (h:Evo w.heap.size Ctx.nil w c2 w2):∃q os,w2=Go.Sort.grow (w.drewN q) os:=by
 have g:=WChg.of_nil h
 have e:w2.heap=w.heap++w2.heap.extract w.heap.size w2.heap.size:=by
  apply Array.ext_getElem?
  intro i
  rcases qM i w.heap.size with c | c
  ·rw [jU c]
   exact g.keep i c (by simp)
  ·rw [Array.getElem?_append_right c,Array.getElem?_extract]
   have:=g.size
   by_cases d:i<w2.heap.size
   ·rw [if_pos (by omega),show w.heap.size+(i-w.heap.size)=i by omega]
   ·rw [if_neg (by omega),jV (by omega)]
 refine ⟨w2.drawn-w.drawn,w2.heap.extract w.heap.size w2.heap.size,?_⟩
 have h1:=g.os
 have h2:=g.tape
 have h3:=g.output
 have h4:=g.drawn
 obtain ⟨wh,wt,wd,wo,wp⟩:=w
 obtain ⟨vh,vt,vd,vo,vp⟩:=w2
 simp only [Go.Sort.grow,World.drewN] at *
 subst h1;subst h2;subst h3
 rw [← e,show wd+(vd-wd)=vd by omega]
theorem Qeg {n:Int} {l:List St} {i j:Int} (hi:0≤i∧i<(l.length:Int)) (hj:0≤j∧j<(l.length:Int)) (W:World) {pv:Value} (hp:V W (Qk Ctx.nil W.heap.size) Ctx.nil (.vptr (Qt n l)) pv) :
  Calls Tp 69 #[.int .i64 i,.int .i64 j,pv] W fun e w'=>e=.returned (.int .i64 (cfS l i j))∧∃q os,w'=Go.Sort.grow (W.drewN q) os:=by
 obtain ⟨m,hm⟩:=Qgn (n:=n) hi hj
 have h:=Qgm m 69 _ _ _ _ (hm m (qD _)) (by kernel_rfl) Ctx.nil W W.heap.size #[.int .i64 i,.int .i64 j,pv] rfl (Rel.nil W) rfl (fun k v x h1 h2=>by
  match k,h1,h2 with
  | 0,h1,h2=>cases h1;cases h2;exact .int _ _
  | 1,h1,h2=>cases h1;cases h2;exact .int _ _
  | 2,h1,h2=>cases h1;cases h2;exact hp
  | k+3,h1,_=>cases h1)
 refine h.mono ?_
 rintro e w' ⟨rv,c',rfl,_,_,hv,hE⟩
 cases hv
 exact ⟨rfl,Qgo hE⟩
def SG:List HV→Heap→Option (HV×Heap)
 | [.sl b 0 n _ tot 1,.func 69 [] [.ptr xb 0 0 1]],H =>
  match H[b]?,H[xb]? with
  | some (.arr 1 els true mx),some (.arr 2 [nv] true _) =>
   match kN.dec nv,Vo els with
   | some p,some o=>if b≠xb∧o=Qf p.2.length∧n=p.2.length∧tot=n∧n≤900 then some (.tuple [],H.set b (.arr 1 ((Qg p.2).map Qb) true mx)) else none
   | _,_=>none
  | _,_=>none
 | _,_=>none
theorem Ce:∀l:List Int,Vo (l.map Qb)=some l
 | []=>rfl
 | x::l=>by
  show (Vo (l.map Qb)).map (x::·)=_
  rw [Ce l];rfl
theorem QaQ {α:Type} [Inhabited α] {enc:α→Value} {lo b r mx:Nat} {c:Ctx} {w:World} {els:List HV} {cs:Array Value} {T:TypeId} (hR:Rel lo c w) (hb:c.H[b]?=some (.arr 1 els true mx)) (hσ:c.σ b=some r)
  (hw:w.heap[r]?=some (Obj.cells cs T (0,0))) (hcs:els.length≤cs.size) {o:List Int} (ho:o.length=els.length) {d:Array α} (hd:d.size=els.length) (he:∀i,i<els.length→enc d[i]! = .int .i64 (o.getD i 0)) (k:Nat) (os:Array Obj) :
  Rel lo (c.upd b (.arr 1 (o.map Qb) true mx) (some r)) (Go.Sort.grow (Go.Sort.putRow enc (Go.Sort.ahead w k) r 0 d) os)∧Evo lo c w (c.upd b (.arr 1 (o.map Qb) true mx) (some r)) (Go.Sort.grow (Go.Sort.putRow enc (Go.Sort.ahead w k) r 0 d) os):=by
 obtain ⟨a1,a2⟩:=Jk hR (D9 w k)
 have hw1:(Go.Sort.ahead w k).heap[r]?=some (Obj.cells cs T (0,0)):=hw
 rw [KG hw1]
 have hrow1:RowOk (Go.Sort.ahead w k) (Qk c lo) c 1 (o.map Qb) (Go.Sort.putCells enc 0 d cs).toList:=by
  refine ⟨?_,fun v hv=>?_,fun i v j x hi hj=>?_⟩
  ·simp only [Go.Sort.putCells,Array.length_toList,Array.size_mapIdx,qB]
   omega
  ·obtain ⟨x,_,rfl⟩:=List.mem_map.1 hv
   rfl
  ·rw [qI] at hi
   cases hz:o[i]? with
   | none=>rw [hz] at hi;cases hi
   | some z =>
    rw [hz] at hi
    cases hi
    obtain ⟨rfl,rfl⟩:j=0∧x=.int .i64 z:=by
     match j,hj with
     | 0,hj=>exact ⟨rfl,(Option.some.inj hj).symm⟩
    have hil:i<o.length:=Qi hz
    have hlt:i<cs.size:=by omega
    refine ⟨.int .i64 z,?_,.int _ _⟩
    rw [Nat.mul_one,Nat.add_zero,jW]
    simp only [Go.Sort.putCells,Array.getElem?_mapIdx,jX hlt,Option.map_some]
    rw [if_pos ⟨qX _,by omega⟩,Nat.sub_zero,he i (by omega),qE,hz];rfl
 obtain ⟨r1,r2⟩:=W8 (els':=o.map Qb) (mx':=mx) a1 hb hσ hw1
  (fun v hv=>by
   obtain ⟨x,_,rfl⟩:=List.mem_map.1 hv
   exact ⟨rfl,rfl,by simp [Qb,bnd]⟩) hrow1 (by simp [Go.Sort.putCells]) (by rw [qB,ho];exact qD _)
 rw [Array.toArray_toList] at r1 r2
 obtain ⟨g1,g2⟩:=Jk r1 (Sk _ os)
 exact ⟨g1,a2.trans (r2.trans g2)⟩
theorem Qeh {l:List St} {i j:Int}:cfS l i j<0↔ltK l i j:=Qgk _ _ _ _
end Go.Proofs.Ytiejmoglooaalaa
end
section
open Go
namespace Go.Proofs.Ytiejmoglooaalaa
set_option linter.unusedSectionVars false
def Gi:Go.Shelf.Ren:=⟨fun | 6=>68 | 15=>63 | 14=>88 | 28=>84 | 29=>85 | 20=>99 | 21=>100 | 22=>101 | 23=>102 | 24=>103 | 25=>104 | 26=>105 | 27=>106 | 46=>109 | 47=>95 | 48=>96 | 49=>110 | 50=>111 | 57=>112 | n=>n,fun | 22=>24 | 24=>3 | 25=>39 | 3=>3 | 39=>82 | 0=>0 | 53=>114 | 55=>116 | 4=>4 | 46=>108 | 45=>107 | 50=>37 | 5=>5 | 9=>9 | 66=>123 | 70=>127 | 76=>135 | 77=>136 | n=>n,fun | n=>n⟩
theorem Qir:Go.Proofs.SlLaysF.n6 Try.prog Gi:={
 mixed:=by kernel_rfl
 f6:=⟨Try.f68.name,by decide,Try.func68.trans (congrArg some (by kernel_rfl))⟩
 f14:=⟨Try.f88.name,by decide,Try.func88.trans (congrArg some (by kernel_rfl))⟩
 f15:=Try.func63.trans (congrArg some (by kernel_rfl))
 f20:=⟨Try.f99.name,by decide,Try.func99.trans (congrArg some (by kernel_rfl))⟩
 f21:=⟨Try.f100.name,by decide,Try.func100.trans (congrArg some (by kernel_rfl))⟩
 f22:=⟨Try.f101.name,by decide,Try.func101.trans (congrArg some (by kernel_rfl))⟩
 f23:=⟨Try.f102.name,by decide,Try.func102.trans (congrArg some (by kernel_rfl))⟩
 f24:=⟨Try.f103.name,by decide,Try.func103.trans (congrArg some (by kernel_rfl))⟩
 f25:=⟨Try.f104.name,by decide,Try.func104.trans (congrArg some (by kernel_rfl))⟩
 f26:=⟨Try.f105.name,by decide,Try.func105.trans (congrArg some (by kernel_rfl))⟩
 f27:=⟨Try.f106.name,by decide,Try.func106.trans (congrArg some (by kernel_rfl))⟩
 f28:=Try.func84.trans (congrArg some (by kernel_rfl))
 f29:=Try.func85.trans (congrArg some (by kernel_rfl))
 f46:=⟨Try.f109.name,by decide,Try.func109.trans (congrArg some (by kernel_rfl))⟩
 f47:=Try.func95.trans (congrArg some (by kernel_rfl))
 f48:=Try.func96.trans (congrArg some (by kernel_rfl))
 f49:=⟨Try.f110.name,by decide,Try.func110.trans (congrArg some (by kernel_rfl))⟩
 f50:=⟨Try.f111.name,by decide,Try.func111.trans (congrArg some (by kernel_rfl))⟩
 f57:=⟨Try.f112.name,by decide,Try.func112.trans (congrArg some (by kernel_rfl))⟩
 t0:=Try.underlying0
 a0:=Try.isAgg0
 z0:=Try.sizeOf0
 v0:=Try.zeroValue0
 t3:=Try.underlying3
 a3:=Try.isAgg3
 z3:=Try.sizeOf3
 v3:=Try.zeroValue3
 t4:=Try.underlying4
 a4:=Try.isAgg4
 z4:=Try.sizeOf4
 v4:=Try.zeroValue4
 t5:=Try.underlying5
 a5:=Try.isAgg5
 z5:=Try.sizeOf5
 v5:=Try.zeroValue5
 t9:=Try.underlying9
 a9:=Try.isAgg9
 z9:=Try.sizeOf9
 v9:=Try.zeroValue9
 t22:=Try.underlying24
 a22:=Try.isAgg24
 z22:=Try.sizeOf24
 v22:=Try.zeroValue24
 a24:=Try.isAgg3
 z24:=Try.sizeOf3
 t25:=Try.underlying39
 a25:=Try.isAgg39
 z25:=Try.sizeOf39
 v25:=Try.zeroValue39
 t39:=Try.underlying82
 a39:=Try.isAgg82
 z39:=Try.sizeOf82
 v39:=Try.zeroValue82
 t45:=Try.underlying107
 a45:=Try.isAgg107
 z45:=Try.sizeOf107
 v45:=Try.zeroValue107
 t46:=Try.underlying108
 a46:=Try.isAgg108
 z46:=Try.sizeOf108
 v46:=Try.zeroValue108
 t50:=Try.underlying37
 a50:=Try.isAgg37
 z50:=Try.sizeOf37
 v50:=Try.zeroValue37
 t53:=Try.underlying114
 a53:=Try.isAgg114
 z53:=Try.sizeOf114
 v53:=Try.zeroValue114
 t55:=Try.underlying116
 a55:=Try.isAgg116
 z55:=Try.sizeOf116
 v55:=Try.zeroValue116
 t66:=Try.underlying123
 a66:=Try.isAgg123
 z66:=Try.sizeOf123
 v66:=Try.zeroValue123
 t70:=Try.underlying127
 a70:=Try.isAgg127
 z70:=Try.sizeOf127
 v70:=Try.zeroValue127
 t76:=Try.underlying135
 a76:=Try.isAgg135
 z76:=Try.sizeOf135
 v76:=Try.zeroValue135
 t77:=Try.underlying136
 a77:=Try.isAgg136
 z77:=Try.sizeOf136
 v77:=Try.zeroValue136 }
theorem Qlc:Go.Proofs.SlLaysF0.n6 Try.prog Gi:={ Qir with }
end Go.Proofs.Ytiejmoglooaalaa
end
section
open Go Go.HL Go.HL.So
namespace Go.Proofs.Ytiejmoglooaalaa
set_option linter.unusedSectionVars false
open Go.Proofs.Try renaming prog → Tp
open Go.HL.HV renaming undef → Ud
theorem Qei:Yg Tp 68 SG:=by
 intro args c r H' h w lo rargs hR hl hV
 unfold SG at h
 split at h
 case h_2=>cases h
 rename_i b n cap tot xb
 split at h
 case h_2=>cases h
 rename_i els mx nv mx2 hb hx
 split at h
 case h_2=>cases h
 rename_i p o hp ho
 split at h
 case isFalse=>cases h
 rename_i hc
 obtain ⟨m,l⟩:=p
 have hnv:nv=Qt m l:=kN.inv _ _ hp
 subst hnv
 obtain ⟨hne,hc1,rfl,rfl,hc2⟩:=hc
 simp only at hc1 hc2
 subst hc1
 have hels:els=(Qf l.length).map Qb:=Vp ho
 simp only [Option.some.injEq,Prod.mk.injEq] at h
 obtain ⟨rfl,rfl⟩:=h
 obtain ⟨x,y,rfl⟩:∃x y,rargs=#[x,y]:=by
  match rargs,hl with
  | ⟨[x,y]⟩,_=>exact ⟨x,y,rfl⟩
 have hx1:=hV 0 _ x rfl rfl
 have hy1:=hV 1 _ y rfl rfl
 cases hx1 with
 | sl _ _ _ _ _ _ a cap' hs =>
 cases hy1 with
 | func _ _ _ ra rc hl1 hl2 h1 h2 =>
 obtain rfl:ra=#[]:=Array.eq_empty_of_size_eq_zero (by simpa using hl1.symm)
 obtain ⟨pv,rfl⟩:∃x,rc=#[x]:=by
  match rc,hl2 with
  | ⟨[x]⟩,_=>exact ⟨x,rfl⟩
 have hpv:=h2 0 _ pv rfl rfl
 cases hpv with
 | ptr _ _ _ _ a2 hq =>
 obtain ⟨blk,hb2,hq2⟩:=hq
 rw [hx] at hb2;cases hb2
 obtain ⟨r2,hσ2,rfl⟩:=hq2.2 rfl
 obtain ⟨s1,s2,s3,blk,hb',s4⟩:=hs
 rw [hb] at hb';cases hb'
 obtain ⟨s5,s6⟩:=s4
 have hlen:els.length=l.length:=by rw [hels,qB,QL]
 obtain ⟨_,s6⟩:=s6 hlen.symm
 have s1:l.length≤cap':=s1
 obtain ⟨_,hrow⟩:=W0 hR hb
 obtain ⟨_,hrow2⟩:=W0 hR hx
 by_cases hn:l.length=0
 ·have hl0:l=[]:=List.eq_nil_of_length_eq_zero hn
  subst hl0
  have hcall:=AnyF.slices_SortFunc_none Qlc a cap' (.func (.func 69) #[] #[.pointer (some ⟨r2,0*2+0,none⟩)]) w
  refine hcall.mono ?_
  rintro e w' ⟨rfl,rfl⟩
  refine ⟨_,c,rfl,?_,hR,?_,Evo.refl _ _ _⟩
  ·have:els=[]:=by rw [hels];rfl
   subst this
   refine (List.ext_getElem? fun i=>?_).symm
   by_cases hib:i=b
   ·subst hib
    rw [jJ (QH hb),hb];rfl
   ·rw [List.getElem?_set_ne (by omega)]
  ·exact .tuple _ _ rfl (fun i v x h=>by simp at h)
 rcases hrow with ⟨hn1,hn2⟩ | ⟨r,cs,T,hσ,hlo,hw,hrow⟩
 ·rw [hn2] at hlen;exact absurd hlen.symm hn
 rcases hrow2 with ⟨hn1,hn2⟩ | ⟨r2',cs2,T2,hσ2',hlo2,hw2,hrow2⟩
 ·cases hn2
 rw [hσ2] at hσ2';cases hσ2'
 rw [hσ] at s6
 have ha:=s6.1 (by omega)
 subst ha
 have hrr:r2≠r:=fun e=>hne (hR.inj b xb r hσ (by rw [hσ2,e]))
 have hcs:els.length≤cs.size:=by
  have:=hrow.1
  simpa using this
 obtain ⟨L,hL⟩:∃L,l.length=L+1:=⟨l.length-1,by omega⟩
 let enc:Fin (L+1)→Value:=fun x=>.int .i64 (x.val:Int)
 let d:Array (Fin (L+1)):=(List.finRange (L+1)).toArray
 have hds:d.size=L+1:=by simp [d]
 have hdi:∀i (hi:i<L+1),d[i]! = ⟨i,hi⟩:=fun i hi=>by simp [d,hi]
 have hcell:∀j:Nat,j<L+1→cs[j]?=some (.int .i64 (j:Int)):=fun j hj=>by
  have hj2:els[j]?=some (.int .i64 (j:Int)):=by
   rw [hels,qI,Qf,qI,List.getElem?_range (by omega)];rfl
  obtain ⟨y,y1,y2⟩:=hrow.2.2 j _ 0 (.int .i64 (j:Int)) hj2 rfl
  cases y2
  simpa using y1
 have hold:Go.Sort.Holds enc w r 0 d:=fun j hj=>by
  rw [hds] at hj
  constructor
  ·unfold World.cell?
   simp only [hw,Option.isSome_none,jI,if_false,qQ]
   rw [hcell j hj,hdi j hj]
  ·unfold World.frozen?
   simp only [hw]
   simp
 have hcmp:CmpLays1 Tp 69 #[.pointer (some ⟨r2,0*2+0,none⟩)] enc (fun x y:Fin (L+1)=>cfS l (x.val:Int) (y.val:Int)) r 0 d.size w:=fun k os dk hdk x y=>by
  have hx:=x.isLt
  have hy:=y.isLt
  refine (Qeg (n:=m) (l:=l) (i:=(x.val:Int)) (j:=(y.val:Int)) ⟨by omega,by omega⟩ ⟨by omega,by omega⟩ _ ?_).mono fun e w' hh=>hh
  have hwk:(Go.Sort.ahead w k).heap[r]?=some (Obj.cells cs T (0,0)):=hw
  have hkeep:∀q:Nat,q≠r→q<w.heap.size→(sortWorld enc w r 0 k dk os).heap[q]?=w.heap[q]?:=fun q hq hlt=>by
   unfold sortWorld
   rw [KG hwk]
   have h1:((Go.Sort.ahead w k).setRow r (Go.Sort.putCells enc 0 dk cs)).heap[q]?=w.heap[q]?:=JI _ r _ hq
   have h2:q<((Go.Sort.ahead w k).setRow r (Go.Sort.putCells enc 0 dk cs)).heap.size:=by
    rcases qM q ((Go.Sort.ahead w k).setRow r (Go.Sort.putCells enc 0 dk cs)).heap.size with hh | hh
    ·exact hh
    ·rw [jV hh,jX hlt] at h1;cases h1
   show (_++os)[q]?=_
   rw [jU h2,h1]
  have hlt:∀q:Nat,q<w.heap.size→q<(sortWorld enc w r 0 k dk os).heap.size:=fun q hq=>by
   unfold sortWorld
   rw [KG hwk]
   have:((Go.Sort.ahead w k).setRow r (Go.Sort.putCells enc 0 dk cs)).heap.size=w.heap.size:=by simp [World.setRow,Go.Sort.ahead]
   show q<(_++os).size
   rw [Array.size_append,this];omega
  have hr2:r2<w.heap.size:=(hR.dom xb r2 hσ2).2
  have hk2:=hkeep r2 hrr hr2
  generalize sortWorld enc w r 0 k dk os=W at *
  obtain ⟨y0,e0,v0⟩:=hrow2.2.2 0 _ 0 (.int .i64 m) rfl rfl
  obtain ⟨y1,e1,v1⟩:=hrow2.2.2 0 _ 1 (.imm .arg 3 (l.map Qa)) rfl rfl
  cases v0
  rw [jW] at e0 e1
  refine .vptr (Qt m l) r2 (0*2+0) (fun j=>if j=0 then .int .i64 m else y1) (hlt r2 hr2) ⟨fun hM=>?_,fun h=>by cases h⟩ rfl (fun j hj=>?_) (fun j x hj=>?_)
  ·obtain ⟨b',y',h1,_,_⟩:=M_iff.1 hM
   simp [Ctx.nil] at h1
  ·unfold World.cell?
   simp only [hk2,hw2,Option.isSome_none,jI,if_false]
   match j,hj with
   | 0,_=>simpa using e0
   | 1,_=>simpa using e1
  ·match j,hj with
   | 0,hj=>cases hj;exact .int _ _
   | 1,hj =>
    cases hj
    show V W _ Ctx.nil _ y1
    cases v1 with
    | imm _ _ _ aa cc f hcap hlit haddr hk hc hv =>
    refine .imm _ _ _ aa cc f hcap hlit (fun hne=>?_) hk hc (fun i v j x hi hj=>?_)
    ·obtain ⟨q,off,q1,q2,q3,q4⟩:=haddr hne
     have hqr:q≠r:=fun e=>q3.1 (e▸M_iff.2 ⟨b,_,hb,rfl,hσ⟩)
     refine ⟨q,off,q1,hlt q q2,⟨fun hM=>?_,fun h=>by cases h⟩,fun j hj=>?_⟩
     ·obtain ⟨b',y',h1,_,_⟩:=M_iff.1 hM
      simp [Ctx.nil] at h1
     ·rw [← q4 j hj]
      exact World.cell?_of_block (a:=⟨q,off+j,none⟩) (hkeep q hqr q2)
    ·have:=hv i v j x hi hj
     rw [qI] at hi
     cases hz:l[i]? with
     | none=>rw [hz] at hi;cases hi
     | some z =>
      rw [hz] at hi
      cases hi
      match j,hj with
      | 0,hj=>cases hj;generalize f (i*3+0)=v at this ⊢;cases this;exact .int _ _
      | 1,hj=>cases hj;generalize f (i*3+1)=v at this ⊢;cases this;exact .int _ _
      | 2,hj=>cases hj;generalize f (i*3+2)=v at this ⊢;cases this;exact .int _ _
 have hO:Go.Sort.SWO (ltOf fun x y:Fin (L+1)=>cfS l (x.val:Int) (y.val:Int)):=by
  have e:∀x y:Fin (L+1),ltOf (fun x y:Fin (L+1)=>cfS l (x.val:Int) (y.val:Int)) x y=decide (ltK l (x.val:Int) (y.val:Int)):=fun x y=>by
   unfold ltOf
   rw [decide_eq_decide]
   exact Qeh
  refine ⟨fun x=>?_,fun x y z h1 h2=>?_,fun x y z h1 h2=>?_⟩
  ·rw [e,decide_eq_false_iff_not];unfold ltK;omega
  ·rw [e,decide_eq_true_eq] at *;unfold ltK at *;omega
  ·rw [e,decide_eq_false_iff_not] at *;unfold ltK at *;omega
 have hcall:=Any.slices_SortFunc Qir enc (fun _=>rfl) (fun x y:Fin (L+1)=>cfS l (x.val:Int) (y.val:Int)) hO 69 #[.pointer (some ⟨r2,0*2+0,none⟩)] r 0 cap' d w (enters_of Try.func69 (by kernel_rfl) rfl) hcmp hold (hR.dom b r hσ).2 (by rw [hds];omega)
 rw [hds] at hcall
 show Calls Tp 68 #[.slice (some ⟨r,0*1,none⟩) l.length cap',.func (.func 69) #[] #[.pointer (some ⟨r2,0*2+0,none⟩)]] w _
 rw [hL]
 refine Calls.mono (P:=Tp) hcall ?_
 rintro e w' ⟨rfl,d',k,os,hp1,hs1,rfl⟩
 have hd':d'.size=L+1:=hp1.1.trans hds
 have hpm:=hp1.2.2
 obtain ⟨o,ho⟩:∃o:List Int,o=d'.toList.map fun x=>(x.val:Int):=⟨_,rfl⟩
 have hol:o.length=l.length:=by rw [ho,qB,Array.length_toList,hd',hL]
 have hoi:∀i,i<L+1→enc d'[i]! = .int .i64 (o.getD i 0):=fun i hi=>by
  have:i<d'.size:=by omega
  simp [enc,ho,qE,this]
 have hperm:o.Perm (Qf l.length):=by
  rw [jY (by omega),jY (by omega)] at hpm
  have:=hpm.map fun x:Fin (L+1)=>(x.val:Int)
  rw [← ho] at this
  refine this.trans (List.Perm.of_eq ?_)
  rw [hL,Qf]
  refine List.ext_getElem (by simp [d]) fun i h1 h2=>?_
  rw [qU,qU]
  simp [d]
 have hsorted:Qd6 (ltK l) 0 o.length o:=fun i j h0 hij hj=>by
  have h1:=hs1 i j h0 hij (by omega)
  unfold ltOf at h1
  rw [decide_eq_false_iff_not,Qeh] at h1
  have g:∀q,q<L+1→at_ o q=(((d'[q]!).val:Nat):Int):=fun q hq=>by
   have:q<d'.size:=by omega
   simp [at_,ho,this]
  rw [g i (by omega),g j (by omega)]
  exact h1
 have heq:=QaO hperm hsorted
 obtain ⟨g1,g2⟩:=QaQ (enc:=enc) (o:=Qg l) hR hb hσ hw hcs (by rw [← heq,hol,hlen]) (d:=d') (by rw [hd',hlen,hL]) (by rw [← heq,hlen,hL];exact hoi) k os
 exact ⟨_,_,rfl,rfl,g1,.tuple _ _ rfl (fun i v x h=>by simp at h),g2⟩
def hpS:FuncId→Option (List HV→Heap→Option (HV×Heap)):=fun g=>if g==68 then some SG else none
def J0:Pol:={ pol with heapP:=hpS }
theorem Qis (g:FuncId) (fn:Func) (h:Tp.funcs[g]?=some fn):Xn J0 g fn=true:=by
 have e:Xn J0 g fn=Xn pol g fn:=rfl
 rw [e]
 exact List.all_eq_true.1 G6 (fn,g) (by
  rw [qP]
  simpa using h)
theorem Qgp (n:Nat):Ql Tp (Qs Tp J0 n):=UQ Qh Qis (fun g f h=>by cases h) n (fun g F h=>by
 have h:hpS g=some F:=h
 unfold hpS at h
 split at h
 ·rename_i hg;cases h;rw [eq_of_beq hg];exact Qei
 ·cases h)
theorem RunsTo.skip {P:Program} {pol:Pol} {f:FuncId} {c:Code} {e E:Env} {H:Heap} {K:List Nat} (hE:restr K e=E) (hc:c=.skip):RunsTo P pol f c e H .normal K E H:=by
 subst hc
 refine ⟨1,fun n k hn _=>⟨e,?_,hE⟩⟩
 obtain ⟨n,rfl⟩:∃m,n=m+1:=⟨n-1,by omega⟩
 rfl
end Go.Proofs.Ytiejmoglooaalaa
end
section
open Go Go.HL
namespace Go.Proofs.Ytiejmoglooaalaa
set_option maxRecDepth 100000
set_option linter.unusedSectionVars false
open Go.Proofs.Try renaming prog → Tp
open Go.HL.HV renaming undef → Ud
noncomputable def B54:Code:=Try.f54.body.getD .skip
abbrev QbJ (v0 v1 v2 v3 v4 v7 v8:HV):Env:=[(0,v0),(1,v1),(2,v2),(3,v3),(4,v4),(7,v7),(8,v8)]
abbrev e54 (n:Int) (ls:List HV) (u3 u4 u5 u6:HV):Env:=QbJ (.N n ls) (.q 0) (.imm .lit 1 []) u3 u4 u5 u6
section
variable (N:Nat) (n:Int) (ls:List HV)
include N n ls
theorem Qld:RT J0 54 (sn 2 B54) [(0,.N n ls)] [] .normal (e54 n ls Ud Ud Ud Ud) [.arr 2 [.N n ls] true 0] :=
 hx N 60 []
end
section
variable (N:Nat) (n:Int) (ls:List HV)
include N n ls
theorem Qle {y3 y4 y7 y8:HV}: RT J0 54 (sn 6 B54) (e54 n ls y3 y4 y7 y8) [.arr 2 [.N n ls] true 0] .normal (e54 n ls (.s 1 0) y4 y7 y8) [.arr 2 [.N n ls] true 0,.b []] :=
 hx N 60 []
theorem Qlf (q:Nat) (os:List HV) {y4 y7 y8:HV}: RT J0 54 (sn 28 B54) (e54 n ls (.s 1 q) y4 y7 y8) [.arr 2 [.N n ls] true 0,.b os] .normal (e54 n ls (.s 1 q) y4 (.i (ls.length:Int)) (.i 0)) [.arr 2 [.N n ls] true 0,.b os] :=
 hx N 60 []
theorem Qlg (q m j:Nat) (os:List HV) {y4:HV} (g0:(j:Int)<(m:Int)) (g1:W5 [.arr 2 [.N n ls] true 0,.b os] 1 8 (.s 1 q) [.n j]=some (.sl 1 0 (q+1) none (q+1) 1,[.arr 2 [.N n ls] true 0,.arr 1 (os++[.n j]) true 0])): RT J0 54 (sn 116 B54) (e54 n ls (.s 1 q) y4 (.n m) (.n j)) [.arr 2 [.N n ls] true 0,.b os] .normal (e54 n ls (.sl 1 0 (q+1) none (q+1) 1) (.n j) (.n m) (.i (qA.wrap ((j:Int)+1)))) [.arr 2 [.N n ls] true 0,.arr 1 (os++[.n j]) true 0] :=
 hx N 60 [jT 3 0 [.arr 2 [.N n ls] true 0,.b os] g0,jR 5 3 g1]
theorem Qlh (q m j:Nat) (os:List HV) {y4:HV} (g0:¬((j:Int)<(m:Int))): RT J0 54 (sn 116 B54) (e54 n ls (.s 1 q) y4 (.n m) (.n j)) [.arr 2 [.N n ls] true 0,.b os] (.exit 0) (e54 n ls (.s 1 q) y4 (.n m) (.n j)) [.arr 2 [.N n ls] true 0,.b os] :=
 hx N 60 [jF 3 0 [.arr 2 [.N n ls] true 0,.b os] g0]
theorem Qli (q:Nat) (H:Heap) {y4 y7 y8:HV} {H0:Heap} (g0:∀kf,N≤kf→Qs Tp J0 (kf+1) 68 [.s 1 q,.func 69 [] [.q 0]] H=some (.tuple [],H0)): RT J0 54 (sn 15 B54) (e54 n ls (.s 1 q) y4 y7 y8) H .ret (QbJ (.N n ls) (.q 0) (.s 1 q) (.s 1 q) y4 y7 y8) H0 :=
 hx N 60 [jC 7 2 g0]
end
end Go.Proofs.Ytiejmoglooaalaa
end
section
open Go Go.HL Go.HL.So
namespace Go.Proofs.Ytiejmoglooaalaa
set_option linter.unusedSectionVars false
open Go.Proofs.Try renaming prog → Tp
open Go.HL.HV renaming undef → Ud
abbrev bN (n:Int) (l:List St):Blk:=.arr 2 [Qt n l] true 0
theorem J6 {H:Heap} {xb mx:Nat} {n:Int} {l:List St} (hb:H[xb]?=some (.arr 2 [Qt n l] true mx)):QK Tp H 22 (.ptr xb 0 1 1)=some (.imm .arg 3 (l.map Qa)) :=
 VP (P:=Tp) (t:=22) (b:=xb) (i:=0) (off:=1) (tot:=1) (els:=[Qt n l]) (cs:=[.int .i64 n,.imm .arg 3 (l.map Qa)]) hb rfl rfl a22 i22 rfl
theorem Y1 {H:Heap} {xb mx:Nat} {n:Int} {l:List St} (hb:H[xb]?=some (.arr 2 [Qt n l] true mx)):QK Tp H 3 (.ptr xb 0 0 1)=some (.int .i64 n) :=
 VP (P:=Tp) (t:=3) (b:=xb) (i:=0) (off:=0) (tot:=1) (els:=[Qt n l]) (cs:=[.int .i64 n,.imm .arg 3 (l.map Qa)]) hb rfl rfl a3 i3 rfl
theorem Qgq {n:Int} {l:List St} (hl:l.length≤900) {k:Nat}:Qs Tp J0 (k+1) 68 [.sl 1 0 l.length none l.length 1,.func 69 [] [.ptr 0 0 0 1]] [bN n l,bI (Qf l.length)]=some (.tuple [],[bN n l,bI (Qg l)]):=by
 rw [Ga (pol:=J0) (g:=68) (F:=SG) rfl rfl]
 unfold SG
 have h1:kN.dec (Qt n l)=some (n,l):=kN.de (n,l)
 simp only [List.getElem?_cons_succ,List.getElem?_cons_zero,h1,Ce]
 rw [if_pos ⟨by decide,trivial,trivial,trivial,hl⟩];rfl
def VW:List HV→Option HV:=f1 kN fun p=>if p.2.length≤900 then some (.own 1 ((Qg p.2).map Qb)) else none
theorem Qrh:Try.f54.results.toList=[.tmp 2]:=by kernel_rfl
theorem Xt:QP Tp 54 VW:=by
 refine Qn (pol:=J0) (fn:=Try.f54) (cd:=B54) Qh Qgp (by kernel_rfl) (by kernel_rfl) (Qis _ _ (by kernel_rfl)) (by kernel_rfl) ?_
 intro args res h
 obtain ⟨⟨n,l⟩,rfl,hq⟩:=KJ h
 split at hq
 case isFalse=>cases hq
 rename_i hl
 simp only at hl
 cases hq
 have a:=Qld 0 n (l.map Qa)
 have b:=Qle 0 n (l.map Qa) (y3:=Ud) (y4:=Ud) (y7:=Ud) (y8:=Ud)
 have c:=Qlf 0 n (l.map Qa) 0 [] (y4:=Ud) (y7:=Ud) (y8:=Ud)
 rw [qB] at c
 have r:=Q7 (E:=fun i=>(QbJ (Qt n l) (.q 0) (.imm .lit 1 []) (.s 1 i) Ud (.i (l.length:Int)) (.i (i:Int)))) (Hs:=fun i=>[bN n l,bI (Qf i)]) l.length
  (E0:=fun i=>(QbJ (Qt n l) (.q 0) (.imm .lit 1 []) (.s 1 (i+1)) (.i (i:Int)) (.i (l.length:Int)) (.i ((i+1:Nat):Int)))) (H1:=fun i=>[bN n l,bI (Qf (i+1))])
  (fun i hi=>by
   have ap:=Zz (H:=[bN n l,bI (Qf i)]) (b:=1) (o:=Qf i) rfl (by rw [QL];omega) (i:Int)
   rw [QL,← WO] at ap
   have e:(Qf i).map Qb++[.int .i64 (i:Int)]=(Qf (i+1)).map Qb:=by rw [WO];simp [Qb]
   have s:=Qlg 0 n (l.map Qa) i l.length i ((Qf i).map Qb) (y4:=Ud) (by omega) (ap.trans (by rw [e];rfl))
   rw [Qj (by omega),e] at s
   exact s) (fun i _=>by kernel_rfl) (fun i _=>QC _ rfl) (Qlh 0 n (l.map Qa) l.length l.length l.length ((Qf l.length).map Qb) (y4:=Ud) (by omega)) (by simp) (c:=sn 58 B54) (by kernel_rfl) (fun i _=>by kernel_rfl)
 have hN:∀kf,0≤kf→Qs Tp J0 (kf+1) 68 [.sl 1 0 l.length none l.length 1,.func 69 [] [.ptr 0 0 0 1]] [bN n l,bI (Qf l.length)]=some (.tuple [],[bN n l,bI (Qg l)]):=fun kf _=>Qgq (by omega)
 have z:=Qli 0 n (l.map Qa) l.length [bN n l,bI (Qf l.length)] (y4:=Ud) (y7:=.i (l.length:Int)) (y8:=.i (l.length:Int)) hN
 refine ⟨_,_,_,.sl 1 0 l.length none l.length 1,sq (a) (sq (b) (sq (sq (c) (bke (c:=sn 29 B54) (r)) (c:=sn 14 B54)) (z) (c:=sn 7 B54)) (c:=sn 3 B54)) (c:=B54),by simp,by simp only [Qc,Qrh];rfl,?_⟩
 exact Vt (b:=1) rfl (Zw l)
end Go.Proofs.Ytiejmoglooaalaa
end
section
open Go Go.HL
namespace Go.Proofs.Ytiejmoglooaalaa
set_option linter.unusedSectionVars false
open Go.Proofs.Try renaming prog → Tp
open Go.HL.HV renaming undef → Ud
def sA (l:List St) (k:Int):Int:=(l.getD k.toNat (0,0,0)).1
def sB (l:List St) (k:Int):Int:=(l.getD k.toNat (0,0,0)).2.1
def KV (l:List St) (s:List Int×List Int×List Int) (k:Int):List Int×List Int×List Int :=
 (upJ s.1 s.2.1 (sA l k) (sB l k),Wa s.2.1 (sA l k) (sB l k),if s.2.1.getD (sA l k).toNat 0≠s.2.1.getD (sB l k).toNat 0 then s.2.2++[k] else s.2.2)
def ksT (l:List St) (t:List Int):List Int×List Int×List Int:=t.foldl (KV l) (Qf 16,Qf 16,[])
def QB (l:List St) (t:List Int):List Int:=(ksT l t).2.1
def tkT (l:List St) (t:List Int):List Int:=(ksT l t).2.2
def Jm (l:List St):Bool:=l.all fun s=>decide ((0≤s.1∧s.1<16)∧0≤s.2.1∧s.2.1<16)
theorem endB_iff {l:List St}:Jm l=true↔∀s∈l,(0≤s.1∧s.1<16)∧0≤s.2.1∧s.2.1<16:=by simp [Jm]
theorem Ks {l:List St} (he:Jm l=true) {k:Int} (hk:0≤k∧k<(l.length:Int)):(0≤sA l k∧sA l k<16)∧0≤sB l k∧sB l k<16:=endB_iff.1 he _ (Qo _ (by omega))
theorem Jt {l:List St} (he:Jm l=true) {t:List Int} (ht:∀k∈t,0≤k∧k<(l.length:Int)):Up (ksT l t).1 (ksT l t).2.1:=by
 have key:∀(t:List Int) (s:List Int×List Int×List Int),(∀k∈t,0≤k∧k<(l.length:Int))→Up s.1 s.2.1→Up (t.foldl (KV l) s).1 (t.foldl (KV l) s).2.1:=by
  intro t
  induction t with
  | nil=>intro s _ h;exact h
  | cons k t ih =>
   intro s hk h
   obtain ⟨⟨a1,a2⟩,b1,b2⟩:=Ks he (hk k (by simp))
   refine ih _ (fun x hx=>hk x (by simp [hx])) ?_
   have:=h.join (u:=(sA l k).toNat) (v:=(sB l k).toNat) (by omega) (by omega)
   rw [show (((sA l k).toNat:Nat):Int)=sA l k by omega,show (((sB l k).toNat:Nat):Int)=sB l k by omega] at this
   exact this
 exact key t _ ht Up.start
theorem XR (l:List St) (t:List Int) {i:Nat} (hi:i<t.length):ksT l (t.take (i+1))=KV l (ksT l (t.take i)) (t.getD i 0):=by
 rw [jE,qC hi,ksT,List.foldl_append,QD hi];rfl
theorem Y2 (l:List St) (t:List Int):(ksT l t).2.2.length≤t.length:=by
 have key:∀(t:List Int) (s:List Int×List Int×List Int),(t.foldl (KV l) s).2.2.length≤s.2.2.length+t.length:=by
  intro t
  induction t with
  | nil=>intro s;exact qD _
  | cons k t ih =>
   intro s
   have:=ih (KV l s k)
   have h2:(KV l s k).2.2.length≤s.2.2.length+1:=by
    unfold KV;simp only;split <;> simp
   rw [List.foldl_cons,jG];omega
 have:=key t (Qf 16,Qf 16,[])
 simpa [ksT] using this
section
variable {F:FuncId→Option (List HV→Option HV)}
theorem QrN (H:Heap) (A B C:Blk):(H++[A,B]).set (H.length+1) C=H++[A,C]:=by
 rw [qV _ _ (by omega),show H.length+1-H.length=1 by omega];rfl
theorem Qit (H:Heap) (A B:Blk):(H++[A,B])[H.length]?=some A:=by rw [qW (qD _),qN];rfl
theorem Qej (H:Heap) (A B:Blk):(H++[A,B])[H.length+1]?=some B:=by rw [qW (by omega),show H.length+1-H.length=1 by omega];rfl
theorem Wb {H X:Heap} {k:Nat} {B:Blk} (h:H[k]?=some B):(H++X)[k]?=some B:=by
 rcases qM k H.length with c | c
 ·rw [jQ c];exact h
 ·rw [qO c] at h;cases h
theorem Gj (h53:F 53=none) (h55:F 55=none) (h56:F 56=none) (h57:F 57=none) {n:Int} {l:List St} (he:Jm l=true) {t o:List Int} (ht:∀k∈t,0≤k∧k<(l.length:Int)) (hl:t.length≤1000) {H:Heap} (hm:mxs H≤H.length) {lb:Nat} {cap:Option Nat} (hb:H[lb]?=some (bI o)) (ho:∀i,i<t.length→i<o.length∧o.getD i 0=t.getD i 0) :
  ClF F 57 [Qt n l,.sl lb 0 t.length cap o.length 1] H (.tuple [.ptr (H.length+1) 0 0 1,.int .i64 ((ksT l t).2.2.length:Int)]) (H++[bN n l,bU (ksT l t).1]):=by
 have ixs:∀i,i<t.length→ZI Tp 24 (.sl lb 0 t.length cap o.length 1) (.int .i64 (i:Int))=some (.ptr lb i 0 o.length):=fun i hi=>by
  have:=G4 (P:=Tp) (t:=24) (b:=lb) (len:=t.length) (tot:=o.length) (cap:=cap) (ik:=.i64) (n:=(i:Int)) u24 z3 (by omega) (by omega)
  rwa [qF] at this
 have lds:∀(X:Heap) i,i<t.length→QK Tp (H++X) 3 (.ptr lb i 0 o.length)=some (.int .i64 ((t.getD i 0).toNat:Int)):=fun X i hi=>by
  rw [QR (Wb hb) (ho i hi).1,(ho i hi).2]
  have:=ht _ (Qo 0 hi)
  rw [show (((t.getD i 0).toNat:Nat):Int)=t.getD i 0 by omega]
 have hN:H[H.length]?=none:=qO (qD _)
 have a:=Qk3 (F:=F) 0 n (l.map Qa) lb t.length o.length cap H (a0:=.ptr H.length 0 0 1) (H0:=H++[bN n l]) rfl
 obtain ⟨N0,c53⟩:=CallsTo.from (Xs (F:=F) h53 (H++[bN n l]) (by rw [Wn];simp only [mxs,Blk.mx,qL,qR];omega))
 rw [jH,qL,qR] at c53
 have b:=Qk4 (F:=F) N0 n (l.map Qa) lb t.length o.length cap (H++[bN n l]) H.length (H.length+1) c53
 have c:=Qk5 (F:=F) 0 n (l.map Qa) lb t.length o.length cap (H++[bN n l,bU (Qf 16)]) H.length (H.length+1)
 have d:=Qk6 (F:=F) 0 n (l.map Qa) lb t.length o.length cap (H++[bN n l,bU (Qf 16)]) H.length (H.length+1) 0
 skip
 have r:=Q7 (pol':=plF F) (f:=57) (E:=fun i=>(Gh (Qt n l) (.sl lb 0 t.length cap o.length 1) (.ptr H.length 0 0 1) Ud (.i 0) (.q (H.length+1)) (.i (((ksT l (t.take i)).2.2.length:Nat):Int)) Ud (.sl lb 0 t.length cap o.length 1) (.i (t.length:Int)) (.i (i:Int)))) (Hs:=fun i=>H++[bN n l,bU (ksT l (t.take i)).1]) t.length
  (E0:=fun i=>(Gh (Qt n l) (.sl lb 0 t.length cap o.length 1) (.ptr H.length 0 0 1) Ud (.i 0) (.q (H.length+1)) (.i (((ksT l (t.take (i+1))).2.2.length:Nat):Int)) (.i ((t.getD i 0).toNat:Int)) (.sl lb 0 t.length cap o.length 1) (.i (t.length:Int)) (.i ((i+1:Nat):Int)))) (H1:=fun i=>H++[bN n l,bU (ksT l (t.take (i+1))).1])
  (fun i hi=>by
   have hk:=ht _ (Qo 0 hi)
   have hU:=Jt he (t:=t.take i) fun k hk=>ht k (qT hk)
   obtain ⟨e1,e2⟩:=Ks he hk
   obtain ⟨N1,cj⟩:=CallsTo.from (U4 (F:=F) h55 h56 (H:=H++[bN n l,bU (ksT l (t.take i)).1]) (Qej H _ _) hU e1 e2)
   rw [QrN] at cj
   have hs:=XR l t hi
   have g2:=gs (l:=l) (y:=(t.getD i 0).toNat) (by omega)
   have ln:=J6 (H:=H++[bN n l,bU (ksT l (t.take i)).1]) (Qit H _ _)
   have hlen:=Y2 l (t.take i)
   rw [qJ] at hlen
   have es:(ksT l (t.take (i+1))).1=upJ (ksT l (t.take i)).1 (ksT l (t.take i)).2.1 (sA l (t.getD i 0)) (sB l (t.getD i 0)):=by rw [hs];rfl
   by_cases cc:(ksT l (t.take i)).2.1.getD (sA l (t.getD i 0)).toNat 0≠(ksT l (t.take i)).2.1.getD (sB l (t.getD i 0)).toNat 0
   ·rw [decide_eq_true cc] at cj
    have s:=Qk7 (F:=F) N1 n (l.map Qa) lb t.length o.length cap (H++[bN n l,bU (ksT l (t.take i)).1]) H.length (H.length+1) (ksT l (t.take i)).2.2.length t.length i (t.getD i 0).toNat (l.getD (t.getD i 0).toNat (0,0,0)).1 (l.getD (t.getD i 0).toNat (0,0,0)).2.1 (l.getD (t.getD i 0).toNat (0,0,0)).2.2 (by omega) (ixs i hi) (lds _ i hi) ln g2 ln g2 cj
    have el:(ksT l (t.take (i+1))).2.2.length=(ksT l (t.take i)).2.2.length+1:=by rw [hs,KV];simp only;rw [if_pos cc];simp
    rw [Qj (by omega),Qj (by omega),← el,← es] at s
    exact s
   ·rw [decide_eq_false cc] at cj
    have s:=Qk8 (F:=F) N1 n (l.map Qa) lb t.length o.length cap (H++[bN n l,bU (ksT l (t.take i)).1]) H.length (H.length+1) (ksT l (t.take i)).2.2.length t.length i (t.getD i 0).toNat (l.getD (t.getD i 0).toNat (0,0,0)).1 (l.getD (t.getD i 0).toNat (0,0,0)).2.1 (l.getD (t.getD i 0).toNat (0,0,0)).2.2 (by omega) (ixs i hi) (lds _ i hi) ln g2 ln g2 cj
    have el:(ksT l (t.take (i+1))).2.2.length=(ksT l (t.take i)).2.2.length:=by rw [hs,KV];simp only;rw [if_neg cc]
    rw [Qj (by omega),← es] at s
    rw [el]
    exact s) (fun i _=>by kernel_rfl) (fun i _=>QC _ (by simp)) (Qk9 (F:=F) 0 n (l.map Qa) lb t.length o.length cap (H++[bN n l,bU (ksT l (t.take t.length)).1]) H.length (H.length+1) (ksT l (t.take t.length)).2.2.length t.length t.length 0 0 0 0 (by omega)) (by simp) (c:=sn 122 B57) (by kernel_rfl) (fun i _=>by kernel_rfl)
 have z:=Qla (F:=F) 0 n (l.map Qa) lb t.length o.length cap (H++[bN n l,bU (ksT l (t.take t.length)).1]) H.length (H.length+1) (ksT l (t.take t.length)).2.2.length (y11:=(.sl lb 0 t.length cap o.length 1)) (y12:=.i (t.length:Int)) (y13:=.i (t.length:Int))
 have u:=sq (a) (sq (b) (sq (c) (sq (sq (d) (bke (c:=sn 61 B57) (r)) (c:=sn 30 B57)) (z) (c:=sn 15 B57)) (c:=sn 7 B57)) (c:=sn 3 B57)) (c:=B57)
 rw [List.take_length] at u
 have h:=CallsTo.shared (P:=Tp) (pol:=plF F) (g:=57) (fn:=Try.f57) (cd:=B57) (args:=[Qt n l,(.sl lb 0 t.length cap o.length 1)]) (v:=.tuple [.ptr (H.length+1) 0 0 1,.int .i64 ((ksT l t).2.2.length:Int)]) h57 (by kernel_rfl) (by kernel_rfl) (by kernel_rfl) u (by kernel_rfl) (by simp) (by kernel_rfl)
 have e:gc H.length (bnd (.tuple [.ptr (H.length+1) 0 0 1,.int .i64 ((ksT l t).2.2.length:Int)])) (H++[bN n l,bU (ksT l t).1])=H++[bN n l,bU (ksT l t).1]:=by
  unfold gc
  rw [qH]
  simp only [qL,jG,List.length_nil,bnd,bndL]
  omega
 rw [e] at h
 exact h
end
def Qd (l:List St):List Int:=tkT l (Qg l)
def WJ (n:Int) (l:List St):Bool:=decide (((Qd l).length:Int)=n-1)
def Gk (n:Int) (l:List St):Prop:=Jm l=true∧l.length≤900∧0≤n∧n≤1000
instance (n:Int) (l:List St):Decidable (Gk n l):=inferInstanceAs (Decidable (_∧_∧_∧_))
def Yl:List HV→Option HV:=f1 kN fun p=>if Gk p.1 p.2 then some (.tuple [.own 1 ((Qd p.2).map Qb),.bool (WJ p.1 p.2)]) else none
def KY:FuncId→Option (List HV→Option HV):=fun g=>if g==54 then some VW else none
theorem Qgr (n:Nat):Ql Tp (Qs Tp (plF KY) n):=Qz _ (fun g f h=>by
 unfold KY at h
 split at h
 ·rename_i hg;cases h;rw [eq_of_beq hg];exact Xt
 ·cases h) n
theorem Qri:Try.f40.results.toList=[.tmp 2,.tmp 3]:=by kernel_rfl
theorem KK (l:List Int) (x:Bool) (H:Heap):ZA (.tuple [.own 1 (l.map Qb),.bool x]) H=(.tuple [.sl H.length 0 l.length none l.length 1,.bool x],H++[bI l]):=by
 have h:Wp (.own 1 (l.map Qb)) H=(.sl H.length 0 l.length none l.length 1,H++[bI l]):=by
  simp only [Wp,Vs,qB];rfl
 simp only [ZA,ZJ,Z9,h];rfl
theorem QaR {H:Heap} {b k:Nat} {o:List Int} (hb:H[b]?=some (bI o)) (hk:o.length=k) (x:Bool):WS H false (.tuple [.sl b 0 k none k 1,.bool x])=some (.tuple [.own 1 (o.map Qb),.bool x]):=by
 have hr:=ZD (H:=H) (no:=[b]) (b:=b) (k:=1) (m:=k) (cap:=none) (els:=o.map Qb) hb (by simpa using hk) (Wy (fun r=>JV 4 r) _)
 have ho:QO H false (.tuple [.sl b 0 k none k 1,.bool x])=[b]:=by simp [QO,cellsOf,Zl,hb]
 simp only [WS,ho,qY,qZ,not_false_eq_true,jA,and_self,if_true,W1,mapO,hr]
 rfl
theorem XS:QP Tp 40 Yl:=by
 refine Qn (pol:=plF KY) (fn:=Try.f40) (cd:=B40) Qh Qgr (by kernel_rfl) (by kernel_rfl) (Zh KY _ _ (by kernel_rfl)) (by kernel_rfl) ?_
 intro args res h
 obtain ⟨⟨n,l⟩,rfl,hq⟩:=KJ h
 split at hq
 case isFalse=>cases hq
 rename_i hc
 obtain ⟨he,hl,n0,n1⟩:=hc
 simp only at he hl n0 n1
 cases hq
 have ht:∀k∈Qg l,0≤k∧k<(l.length:Int):=fun k hk=>ordT_mem.1 hk
 have hol:=Zw l
 have a:=QkU (F:=KY) 0 n (l.map Qa)
 obtain ⟨N0,c53⟩:=CallsTo.from (Xs (F:=KY) (by kernel_rfl) [bN n l] (by show max 0 0≤2;decide))
 have b:=QkV (F:=KY) N0 n (l.map Qa) [bN n l] c53
 have c:=QkW (F:=KY) 0 n (l.map Qa) ((Qf 16).map Qb)
 have c54:=at1 (pol':=plF KY) (g:=54) (c1:=kN) (f:=fun p=>if p.2.length≤900 then some (.own 1 ((Qg p.2).map Qb)) else none) (H:=[bN n l,bU (Qf 16),bI []]) (by kernel_rfl) (ShN _ n l) (if_pos hl)
 rw [Wz,hol] at c54
 have d:=QkX (F:=KY) 0 n (l.map Qa) [bN n l,bU (Qf 16),bI []] 0 l.length (UU (P:=Tp) (b:=0) (els:=[Qt n l]) (cs:=[.int .i64 n,.imm .arg 3 (l.map Qa)]) rfl rfl rfl a66 z66) c54
 have hT:Qd l=(ksT l (Qg l)).2.2:=rfl
 have hCn:WJ n l=decide (((ksT l (Qg l)).2.2.length:Int)=n-1):=rfl
 generalize Qg l=o at *
 have r:=Q7 (pol':=plF KY) (f:=40) (E:=fun i=>(Gg (Qt n l) (.q 0) (.imm .lit 1 []) (.bool false) (.q 1) (.sl 2 0 (ksT l (o.take i)).2.2.length none (ksT l (o.take i)).2.2.length 1) Ud (.s 3 l.length) (.i (l.length:Int)) (.i (i:Int)))) (Hs:=fun i=>[bN n l,bU (ksT l (o.take i)).1,bI (ksT l (o.take i)).2.2,bI o]) l.length
  (E0:=fun i=>(Gg (Qt n l) (.q 0) (.imm .lit 1 []) (.bool false) (.q 1) (.sl 2 0 (ksT l (o.take (i+1))).2.2.length none (ksT l (o.take (i+1))).2.2.length 1) (.i ((o.getD i 0).toNat:Int)) (.s 3 l.length) (.i (l.length:Int)) (.i ((i+1:Nat):Int)))) (H1:=fun i=>[bN n l,bU (ksT l (o.take (i+1))).1,bI (ksT l (o.take (i+1))).2.2,bI o])
  (fun i hi=>by
   have hi2:i<o.length:=by omega
   have hk:=ht _ (Qo 0 hi2)
   have hU:=Jt he (t:=o.take i) fun k hk=>ht k (qT hk)
   obtain ⟨e1,e2⟩:=Ks he hk
   obtain ⟨N1,cj⟩:=CallsTo.from (U4 (F:=KY) (by kernel_rfl) (by kernel_rfl) (H:=[bN n l,bU (ksT l (o.take i)).1,bI (ksT l (o.take i)).2.2,bI o]) (b:=1) rfl hU e1 e2)
   have hs:=XR l o hi2
   have g2:=gs (l:=l) (y:=(o.getD i 0).toNat) (by omega)
   have ix:=G4 (P:=Tp) (t:=24) (b:=3) (len:=l.length) (tot:=l.length) (cap:=none) (ik:=.i64) (n:=(i:Int)) u24 z3 (by omega) (by omega)
   rw [qF] at ix
   have ld:=QR (H:=[bN n l,bU (ksT l (o.take i)).1,bI (ksT l (o.take i)).2.2,bI o]) (k:=3) (o:=o) rfl hi2
   rw [hol,show o.getD i 0=(((o.getD i 0).toNat:Nat):Int) by omega] at ld
   have ln:=J6 (H:=[bN n l,bU (ksT l (o.take i)).1,bI (ksT l (o.take i)).2.2,bI o]) (xb:=0) rfl
   have hlen:=Y2 l (o.take i)
   rw [qJ] at hlen
   have es:(ksT l (o.take (i+1))).1=upJ (ksT l (o.take i)).1 (ksT l (o.take i)).2.1 (sA l (o.getD i 0)) (sB l (o.getD i 0)):=by rw [hs];rfl
   have ek:(((o.getD i 0).toNat:Nat):Int)=o.getD i 0:=by omega
   by_cases cc:(ksT l (o.take i)).2.1.getD (sA l (o.getD i 0)).toNat 0≠(ksT l (o.take i)).2.1.getD (sB l (o.getD i 0)).toNat 0
   ·rw [decide_eq_true cc] at cj
    have el:(ksT l (o.take (i+1))).2.2=(ksT l (o.take i)).2.2++[(((o.getD i 0).toNat:Nat):Int)]:=by rw [hs,KV];simp only;rw [if_pos cc,ek]
    have ap:=Zz (H:=[bN n l,bU (upJ (ksT l (o.take i)).1 (ksT l (o.take i)).2.1 (sA l (o.getD i 0)) (sB l (o.getD i 0))),bI (ksT l (o.take i)).2.2,bI o]) (b:=2) (o:=(ksT l (o.take i)).2.2) rfl (by omega) (((o.getD i 0).toNat:Nat):Int)
    rw [← el,← es] at ap
    have s:=QkY (F:=KY) N1 n (l.map Qa) [bN n l,bU (ksT l (o.take i)).1,bI (ksT l (o.take i)).2.2,bI o] (ksT l (o.take i)).2.2.length l.length i (o.getD i 0).toNat (l.getD (o.getD i 0).toNat (0,0,0)).1 (l.getD (o.getD i 0).toNat (0,0,0)).2.1 (l.getD (o.getD i 0).toNat (0,0,0)).2.2 (by omega) ix ld ln g2 ln g2 cj (by rw [← es];exact ap)
    have el2:(ksT l (o.take (i+1))).2.2.length=(ksT l (o.take i)).2.2.length+1:=by rw [el];simp
    rw [Qj (by omega),← el2] at s
    exact s
   ·rw [decide_eq_false cc] at cj
    have el:(ksT l (o.take (i+1))).2.2=(ksT l (o.take i)).2.2:=by rw [hs,KV];simp only;rw [if_neg cc]
    have s:=QkZ (F:=KY) N1 n (l.map Qa) [bN n l,bU (ksT l (o.take i)).1,bI (ksT l (o.take i)).2.2,bI o] (ksT l (o.take i)).2.2.length l.length i (o.getD i 0).toNat (l.getD (o.getD i 0).toNat (0,0,0)).1 (l.getD (o.getD i 0).toNat (0,0,0)).2.1 (l.getD (o.getD i 0).toNat (0,0,0)).2.2 (by omega) ix ld ln g2 ln g2 cj
    rw [Qj (by omega),← es] at s
    rw [el]
    exact s) (fun i _=>by kernel_rfl) (fun i _=>QC _ rfl) (Qk0 (F:=KY) 0 n (l.map Qa) [bN n l,bU (ksT l (o.take l.length)).1,bI (ksT l (o.take l.length)).2.2,bI o] (ksT l (o.take l.length)).2.2.length l.length l.length 0 0 0 0 (by omega)) (by simp) (c:=sn 122 B40) (by kernel_rfl) (fun i _=>by kernel_rfl)
 have eo:o.take l.length=o:=qH (by omega)
 rw [eo] at r
 have hw:qA.wrap (n-1)=n-1:=WN (by omega) (by omega)
 have hlen:=Y2 l o
 have fin:∃E H2,RT (plF KY) 40 (sn 31 B40) ((Gg (Qt n l) (.q 0) (.imm .lit 1 []) (.bool false) (.q 1) (.sl 2 0 (ksT l o).2.2.length none (ksT l o).2.2.length 1) Ud (.s 3 l.length) (.i (l.length:Int)) (.i (l.length:Int)))) [bN n l,bU (ksT l o).1,bI (ksT l o).2.2,bI o] .ret E H2∧H2=[bN n l,bU (ksT l o).1,bI (ksT l o).2.2,bI o]∧E.get 2=.sl 2 0 (ksT l o).2.2.length none (ksT l o).2.2.length 1∧E.get 3=.bool (decide (((ksT l o).2.2.length:Int)=n-1)):=by
  by_cases cc:((ksT l o).2.2.length:Int)=n-1
  ·rw [decide_eq_true cc]
   exact ⟨_,_,Qk1 (F:=KY) 0 n (l.map Qa) [bN n l,bU (ksT l o).1,bI (ksT l o).2.2,bI o] (ksT l o).2.2.length l.length (y10:=.s 3 l.length) (y11:=.i (l.length:Int)) (y12:=.i (l.length:Int)) (Y1 (xb:=0) rfl) (by rw [hw];exact cc),rfl,rfl,rfl⟩
  ·rw [decide_eq_false cc]
   exact ⟨_,_,Qk2 (F:=KY) 0 n (l.map Qa) [bN n l,bU (ksT l o).1,bI (ksT l o).2.2,bI o] (ksT l o).2.2.length l.length (y10:=.s 3 l.length) (y11:=.i (l.length:Int)) (y12:=.i (l.length:Int)) (Y1 (xb:=0) rfl) (by rw [hw];exact cc),rfl,rfl,rfl⟩
 obtain ⟨E2,H2,z,rfl,z2,z3⟩:=fin
 refine ⟨_,_,_,.tuple [.sl 2 0 (ksT l o).2.2.length none (ksT l o).2.2.length 1,.bool (decide (((ksT l o).2.2.length:Int)=n-1))],sq (a) (sq (b) (sq (c) (sq (sq (d) (bke (c:=sn 61 B40) (r)) (c:=sn 30 B40)) (z) (c:=sn 15 B40)) (c:=sn 7 B40)) (c:=sn 3 B40)) (c:=B40),by simp,by simp only [Qc,Qri,mapO,Wv,z2,z3],?_⟩
 show WS _ false _=some (.tuple [.own 1 ((Qd l).map Qb),.bool (WJ n l)])
 rw [hT,hCn]
 exact QaR (b:=2) rfl rfl _
end Go.Proofs.Ytiejmoglooaalaa
end
section
open Go Go.HL
namespace Go.Proofs.Ytiejmoglooaalaa
set_option maxRecDepth 100000
set_option linter.unusedSectionVars false
open Go.Proofs.Try renaming prog → Tp
open Go.HL.HV renaming undef → Ud
section
variable {F:FuncId→Option (List HV→Option HV)}
noncomputable def B60:Code:=Try.f60.body.getD .skip
abbrev Qiu (v0 v1 v2 v3:HV):Env:=[(0,v0),(1,v1),(2,v2),(3,v3)]
end
abbrev e60 (a:Int) (b:Int) (w:Int) (nb:Nat) (u2:HV):Env:=Qiu (.agg [.i a,.i b,.i w]) (.q nb) u2 (.bool true)
section
variable {F:FuncId→Option (List HV→Option HV)}
variable (a b w:Int) (nb:Nat) (H:Heap) (v:Int)
include a b w nb H v
theorem Qlj {a0:HV} {H0:Heap} {a1:HV} {H1:Heap} {a2:HV} {H2:Heap} {a3:HV} {a4:HV} (g0:some (Wt (.agg [.i a,.i b,.i w]) H)=some (a0,H0)) (g1:Qq Tp 42 a0 0=some (a1)) (g2:LD H0 3 (a1) (.i a)) (g3:LD H0 3 (.q nb) (.i v)) (g4:CM F 52 [.i a,.i 0,.i (qA.wrap (v-1))] H0 (.bool true) H1) (g5:Qq Tp 42 a0 1=some (a2)) (g6:LD H1 3 (a2) (.i b)) (g7:LD H1 3 (.q nb) (.i v)) (g8:CM F 52 [.i b,.i 0,.i (qA.wrap (v-1))] H1 (.bool true) H2) (g9:Qq Tp 42 a0 0=some (a3)) (g10:LD H2 3 (a3) (.i a)) (g11:Qq Tp 42 a0 1=some (a4)) (g12:LD H2 3 (a4) (.i b)) (g13:a=b): RU F 60 1 B60 [(0,.agg [.i a,.i b,.i w]),(1,.q nb)] H .ret (e60 a b w nb a0) H2 :=
 hx 0 60 [jR 0 0 g0,jO 1 0 H0 g1,jO 1 1 H0 g2,jO 1 2 H0 g3,jD 1 4 g4,jO 1 7 H1 g5,jO 1 8 H1 g6,jO 1 9 H1 g7,jD 1 11 g8,jO 1 15 H2 g9,jO 1 16 H2 g10,jO 1 17 H2 g11,jO 1 18 H2 g12,jT 1 19 H2 g13]
end
section
variable {F:FuncId→Option (List HV→Option HV)}
variable (a b w:Int) (nb:Nat) (H:Heap) (v:Int)
include a b w nb H v
theorem Qlk {a0:HV} {H0:Heap} {a1:HV} {H1:Heap} {a2:HV} {H2:Heap} {a3:HV} {a4:HV} {a5:HV} {H3:Heap} (g0:some (Wt (.agg [.i a,.i b,.i w]) H)=some (a0,H0)) (g1:Qq Tp 42 a0 0=some (a1)) (g2:LD H0 3 (a1) (.i a)) (g3:LD H0 3 (.q nb) (.i v)) (g4:CM F 52 [.i a,.i 0,.i (qA.wrap (v-1))] H0 (.bool true) H1) (g5:Qq Tp 42 a0 1=some (a2)) (g6:LD H1 3 (a2) (.i b)) (g7:LD H1 3 (.q nb) (.i v)) (g8:CM F 52 [.i b,.i 0,.i (qA.wrap (v-1))] H1 (.bool true) H2) (g9:Qq Tp 42 a0 0=some (a3)) (g10:LD H2 3 (a3) (.i a)) (g11:Qq Tp 42 a0 1=some (a4)) (g12:LD H2 3 (a4) (.i b)) (g13:¬(a=b)) (g14:Qq Tp 42 a0 2=some (a5)) (g15:LD H2 3 (a5) (.i w)) (g16:CM F 52 [.i w,.i 0,.i 1000] H2 (.bool true) H3): RU F 60 1 B60 [(0,.agg [.i a,.i b,.i w]),(1,.q nb)] H .ret (Qiu (.agg [.i a,.i b,.i w]) (.q nb) a0 (.bool false)) H3 :=
 hx 0 60 [jR 0 0 g0,jO 1 0 H0 g1,jO 1 1 H0 g2,jO 1 2 H0 g3,jD 1 4 g4,jO 1 7 H1 g5,jO 1 8 H1 g6,jO 1 9 H1 g7,jD 1 11 g8,jO 1 15 H2 g9,jO 1 16 H2 g10,jO 1 17 H2 g11,jO 1 18 H2 g12,jF 1 19 H2 g13,jO 1 22 H2 g14,jO 1 23 H2 g15,jD 1 24 g16]
theorem Qll {a0:HV} {H0:Heap} {a1:HV} {H1:Heap} {a2:HV} {H2:Heap} {a3:HV} {a4:HV} {a5:HV} {H3:Heap} (g0:some (Wt (.agg [.i a,.i b,.i w]) H)=some (a0,H0)) (g1:Qq Tp 42 a0 0=some (a1)) (g2:LD H0 3 (a1) (.i a)) (g3:LD H0 3 (.q nb) (.i v)) (g4:CM F 52 [.i a,.i 0,.i (qA.wrap (v-1))] H0 (.bool true) H1) (g5:Qq Tp 42 a0 1=some (a2)) (g6:LD H1 3 (a2) (.i b)) (g7:LD H1 3 (.q nb) (.i v)) (g8:CM F 52 [.i b,.i 0,.i (qA.wrap (v-1))] H1 (.bool true) H2) (g9:Qq Tp 42 a0 0=some (a3)) (g10:LD H2 3 (a3) (.i a)) (g11:Qq Tp 42 a0 1=some (a4)) (g12:LD H2 3 (a4) (.i b)) (g13:¬(a=b)) (g14:Qq Tp 42 a0 2=some (a5)) (g15:LD H2 3 (a5) (.i w)) (g16:CM F 52 [.i w,.i 0,.i 1000] H2 (.bool false) H3): RU F 60 1 B60 [(0,.agg [.i a,.i b,.i w]),(1,.q nb)] H .ret (e60 a b w nb a0) H3 :=
 hx 0 60 [jR 0 0 g0,jO 1 0 H0 g1,jO 1 1 H0 g2,jO 1 2 H0 g3,jD 1 4 g4,jO 1 7 H1 g5,jO 1 8 H1 g6,jO 1 9 H1 g7,jD 1 11 g8,jO 1 15 H2 g9,jO 1 16 H2 g10,jO 1 17 H2 g11,jO 1 18 H2 g12,jF 1 19 H2 g13,jO 1 22 H2 g14,jO 1 23 H2 g15,jD 1 24 g16]
theorem Qlm {a0:HV} {H0:Heap} {a1:HV} {H1:Heap} {a2:HV} {H2:Heap} (g0:some (Wt (.agg [.i a,.i b,.i w]) H)=some (a0,H0)) (g1:Qq Tp 42 a0 0=some (a1)) (g2:LD H0 3 (a1) (.i a)) (g3:LD H0 3 (.q nb) (.i v)) (g4:CM F 52 [.i a,.i 0,.i (qA.wrap (v-1))] H0 (.bool true) H1) (g5:Qq Tp 42 a0 1=some (a2)) (g6:LD H1 3 (a2) (.i b)) (g7:LD H1 3 (.q nb) (.i v)) (g8:CM F 52 [.i b,.i 0,.i (qA.wrap (v-1))] H1 (.bool false) H2): RU F 60 1 B60 [(0,.agg [.i a,.i b,.i w]),(1,.q nb)] H .ret (e60 a b w nb a0) H2 :=
 hx 0 60 [jR 0 0 g0,jO 1 0 H0 g1,jO 1 1 H0 g2,jO 1 2 H0 g3,jD 1 4 g4,jO 1 7 H1 g5,jO 1 8 H1 g6,jO 1 9 H1 g7,jD 1 11 g8]
theorem Qln {a0:HV} {H0:Heap} {a1:HV} {H1:Heap} (g0:some (Wt (.agg [.i a,.i b,.i w]) H)=some (a0,H0)) (g1:Qq Tp 42 a0 0=some (a1)) (g2:LD H0 3 (a1) (.i a)) (g3:LD H0 3 (.q nb) (.i v)) (g4:CM F 52 [.i a,.i 0,.i (qA.wrap (v-1))] H0 (.bool false) H1): RU F 60 1 B60 [(0,.agg [.i a,.i b,.i w]),(1,.q nb)] H .ret (e60 a b w nb a0) H1 :=
 hx 0 60 [jR 0 0 g0,jO 1 0 H0 g1,jO 1 1 H0 g2,jO 1 2 H0 g3,jD 1 4 g4]
end
section
variable {F:FuncId→Option (List HV→Option HV)}
noncomputable def B74:Code:=Try.f74.body.getD .skip
abbrev U8 (v0 v1 v4 v5 v7 v8:HV):Env:=[(0,v0),(1,v1),(4,v4),(5,v5),(7,v7),(8,v8)]
end
abbrev e74 (ls:List HV) (nb:Nat) (u3 u4 u5:HV):Env:=U8 (.g ls) (.func 60 [] [.q nb]) (.i 0) u3 u4 u5
section
variable {F:FuncId→Option (List HV→Option HV)}
variable (N:Nat) (ls:List HV) (nb:Nat) (H:Heap)
include N ls nb H
theorem Qlo:RU F 74 2 B74 [(0,.g ls),(1,.func 60 [] [.q nb])] H .normal (e74 ls nb Ud Ud Ud) H :=
 hx N 60 []
end
section
variable {F:FuncId→Option (List HV→Option HV)}
variable (N:Nat) (ls:List HV) (nb:Nat) (H:Heap)
include N ls nb H
theorem Qlp (y5 y7 y8:HV:=Ud): RU F 74 12 B74 (e74 ls nb y5 y7 y8) H .normal (e74 ls nb y5 (.i (ls.length:Int)) (.i 0)) H :=
 hx N 60 []
theorem Qlq (m j:Nat) (a b w:Int) {H0:Heap} (g0:(j:Int)<(m:Int)) (g1:IX 22 (.g ls) (.n j) (.vptr (.agg [.i a,.i b,.i w]))) (g2:CN F N 60 [.agg [.i a,.i b,.i w],.q nb] H (.bool true) H0) (y5:HV:=Ud): RU F 74 52 B74 (e74 ls nb y5 (.n m) (.n j)) H .ret (U8 (.g ls) (.func 60 [] [.q nb]) (.n j) (.n j) (.n m) (.n j)) H0 :=
 hx N 60 [jT 2 0 H g0,jO 4 3 H g1,jC 4 5 g2]
theorem Qlr (m j:Nat) (a b w:Int) {H0:Heap} (g0:(j:Int)<(m:Int)) (g1:IX 22 (.g ls) (.n j) (.vptr (.agg [.i a,.i b,.i w]))) (g2:CN F N 60 [.agg [.i a,.i b,.i w],.q nb] H (.bool false) H0) (y5:HV:=Ud): RU F 74 52 B74 (e74 ls nb y5 (.n m) (.n j)) H .normal (e74 ls nb (.n j) (.n m) (.i (qA.wrap ((j:Int)+1)))) H0 :=
 hx N 60 [jT 2 0 H g0,jO 4 3 H g1,jC 4 5 g2]
theorem Qls (m j:Nat) (a b w:Int) (g0:¬((j:Int)<(m:Int))) (y5:HV:=Ud): RU F 74 52 B74 (e74 ls nb y5 (.n m) (.n j)) H (.exit 0) (e74 ls nb y5 (.n m) (.n j)) H :=
 hx N 60 [jF 2 0 H g0]
theorem Qlt (y5 y7 y8:HV:=Ud): RU F 74 7 B74 (e74 ls nb y5 y7 y8) H .ret (U8 (.g ls) (.func 60 [] [.q nb]) (.i (-1)) y5 y7 y8) H :=
 hx N 60 []
end
section
variable {F:FuncId→Option (List HV→Option HV)}
noncomputable def B61:Code:=Try.f61.body.getD .skip
abbrev Qiv (v0 v1 v4:HV):Env:=[(0,v0),(1,v1),(4,v4)]
theorem Qlu (N:Nat) (ls:List HV) (nb:Nat) (H:Heap) {r0:Int} {H0:Heap} (g0:CN F N 74 [.g ls,.func 60 [] [.q nb]] H (.i r0) H0) (g1:0≤r0): RU F 61 1 B61 [(0,.g ls),(1,.func 60 [] [.q nb])] H .ret (Qiv (.g ls) (.func 60 [] [.q nb]) (.bool true)) H0 :=
 hx N 60 [jC 1 2 g0,jT 1 3 H0 g1]
theorem Qlv (N:Nat) (ls:List HV) (nb:Nat) (H:Heap) {r0:Int} {H0:Heap} (g0:CN F N 74 [.g ls,.func 60 [] [.q nb]] H (.i r0) H0) (g1:¬(0≤r0)): RU F 61 1 B61 [(0,.g ls),(1,.func 60 [] [.q nb])] H .ret (Qiv (.g ls) (.func 60 [] [.q nb]) (.bool false)) H0 :=
 hx N 60 [jC 1 2 g0,jF 1 3 H0 g1]
noncomputable def B39:Code:=Try.f39.body.getD .skip
abbrev QbK (v0 v1 v2 v4 v5 v6 v7:HV):Env:=[(0,v0),(1,v1),(2,v2),(4,v4),(5,v5),(6,v6),(7,v7)]
end
section
variable {F:FuncId→Option (List HV→Option HV)}
variable (N:Nat) (n:Int) (ls:List HV) (H:Heap)
include N n ls H
theorem Qlw {a0:HV} {H0:Heap} {a1:HV} {H1:Heap} {H2:Heap} {H3:Heap} {H4:Heap} (g0:some (Wt (.i n) H)=some (a0,H0)) (g1:some (Wt (.agg [.i 0,.imm .lit 0 []]) H0)=some (a1,H1)) (g2:LD H1 3 (a0) (.i n)) (g3:CM F 52 [.i n,.i 1,.i 16] H1 (.bool true) H2) (g4:(ls.length:Int)≤60) (g5:CN F N 61 [.g ls,.func 60 [] [a0]] H2 (.bool true) H3) (g6:LD H3 3 (a0) (.i n)) (g7:ST H3 66 (a1) (.N n ls) H4): RU F 39 1 B39 [(0,.i n),(1,.g ls)] H .ret (QbK (.i n) (.g ls) a0 a1 (.bool false) (.func 60 [] [a0]) (.bool false)) H4 :=
 hx N 60 [jR 0 0 g0,jR 0 1 g1,jO 2 0 H1 g2,jD 2 1 g3,jT 2 5 H2 g4,jC 2 10 g5,jO 3 0 H3 g6,jS 3 4 g7]
theorem Qlx {a0:HV} {H0:Heap} {a1:HV} {H1:Heap} {H2:Heap} {H3:Heap} {H4:Heap} (g0:some (Wt (.i n) H)=some (a0,H0)) (g1:some (Wt (.agg [.i 0,.imm .lit 0 []]) H0)=some (a1,H1)) (g2:LD H1 3 (a0) (.i n)) (g3:CM F 52 [.i n,.i 1,.i 16] H1 (.bool true) H2) (g4:(ls.length:Int)≤60) (g5:CN F N 61 [.g ls,.func 60 [] [a0]] H2 (.bool false) H3) (g6:LD H3 3 (a0) (.i n)) (g7:ST H3 66 (a1) (.N n ls) H4): RU F 39 1 B39 [(0,.i n),(1,.g ls)] H .ret (QbK (.i n) (.g ls) a0 a1 (.bool true) (.func 60 [] [a0]) (.bool true)) H4 :=
 hx N 60 [jR 0 0 g0,jR 0 1 g1,jO 2 0 H1 g2,jD 2 1 g3,jT 2 5 H2 g4,jC 2 10 g5,jO 3 0 H3 g6,jS 3 4 g7]
theorem Qly {a0:HV} {H0:Heap} {a1:HV} {H1:Heap} {H2:Heap} {H3:Heap} (g0:some (Wt (.i n) H)=some (a0,H0)) (g1:some (Wt (.agg [.i 0,.imm .lit 0 []]) H0)=some (a1,H1)) (g2:LD H1 3 (a0) (.i n)) (g3:CM F 52 [.i n,.i 1,.i 16] H1 (.bool true) H2) (g4:¬((ls.length:Int)≤60)) (g5:LD H2 3 (a0) (.i n)) (g6:ST H2 66 (a1) (.N n ls) H3): RU F 39 1 B39 [(0,.i n),(1,.g ls)] H .ret (QbK (.i n) (.g ls) a0 a1 (.bool false) (.func 60 [] [a0]) (.bool false)) H3 :=
 hx N 60 [jR 0 0 g0,jR 0 1 g1,jO 2 0 H1 g2,jD 2 1 g3,jF 2 5 H2 g4,jO 3 0 H2 g5,jS 3 4 g6]
theorem Qlz {a0:HV} {H0:Heap} {a1:HV} {H1:Heap} {H2:Heap} {H3:Heap} (g0:some (Wt (.i n) H)=some (a0,H0)) (g1:some (Wt (.agg [.i 0,.imm .lit 0 []]) H0)=some (a1,H1)) (g2:LD H1 3 (a0) (.i n)) (g3:CM F 52 [.i n,.i 1,.i 16] H1 (.bool false) H2) (g4:LD H2 3 (a0) (.i n)) (g5:ST H2 66 (a1) (.N n ls) H3): RU F 39 1 B39 [(0,.i n),(1,.g ls)] H .ret (QbK (.i n) (.g ls) a0 a1 (.bool false) (.func 60 [] [a0]) (.bool false)) H3 :=
 hx N 60 [jR 0 0 g0,jR 0 1 g1,jO 2 0 H1 g2,jD 2 1 g3,jO 3 0 H2 g4,jS 3 4 g5]
end
end Go.Proofs.Ytiejmoglooaalaa
end
