/- A part of the proof. -/
import Derived.Test.YtiejmoglooaalaaP7D
set_option linter.unusedVariables false
set_option linter.unusedSimpArgs false
set_option linter.unnecessarySimpa false
open Go.IntKind renaming i64 → qA
open Int renaming toNat_natCast → qB, emod_nonneg → qN, emod_lt_of_pos → qO, add_zero → qS, tmod_eq_emod_of_nonneg → jY, eq_ofNat_of_zero_le → zC
open List renaming replicate → qC, length_append → qD, append_nil → qE, append_assoc → qF, length_map → qH, range → qI, getD → qJ, mem_cons_self → qK, mem_cons_of_mem → qL, foldl_cons → qM, length_take → qP, getElem?_append_right → qQ, filter_cons → qT, mem_of_mem_take → qV, map_map → qW, dropLast → qX, filter_sublist → qY, filter_congr → qZ, set_append_right → jA, length_cons → jG, length_nil → jH, mem_append → jI, map_cons → jN, mem_filter → jP, length_singleton → jQ, length_set → jU, map_congr_left → jV, eq_of_mem_replicate → jW, take_length → jX, map_append → jZ, filter_append → zA, getElem_take → zD, length_replicate → zE, take_succ_eq_append_getElem → zF, foldl_append → zG, getElem?_set_self → zH, map_nil → zI, mem_singleton → zJ, mem_append_left → zL, eq_nil_of_sublist_nil → zN, getElem?_eq_none → zP, getElem?_append_left → zQ, getElem?_eq_getElem → zS, getElem?_take_of_lt → zT, mem_append_right → zU, mem_singleton_self → zV, length_filter_le → zW
open Nat renaming le_refl → qG, lt_or_ge → qU, sub_self → jE, zero_le → jJ
open Bool renaming and_self → qR, and_eq_true → zO
section
open Go Go.HL Go.HL.Dt
namespace Go.Proofs.Ytiejmoglooaalaa
set_option linter.unusedSectionVars false
open Go.Proofs.Try renaming prog → Tp
open Go.HL.HV renaming undef → Ud
section
variable {F:FuncId→Option (List HV→Option HV)} {n:Int} {l:List St} {bb ab nb pb:Nat} {w p:Int} {H:Heap} {us1 g1 us2 g2:List Int}
theorem QqK (h55:F 55=none) (hn:0≤n∧n≤16) (hb1:H[bb]?=some (bU us1)) (hU1:Up us1 g1) (hb2:H[ab]?=some (bU us2)) (hU2:Up us2 g2) (u:Int) (top:Nat) :
  RT (plF F) 65 (sn 59802 B65) ((QY (Qx n l) (.q bb) (.q ab) (.i w) (.i p) (.q nb) (.q pb) (.i 0) (.i (u)) (.i (top:Int)) (.map H.length) Ud Ud Ud Ud Ud Ud Ud Ud Ud (.i n) (.i (top:Int)) (.i n) (.i (0:Int)) Ud Ud Ud Ud Ud)) (H++[bMI []]) (.exit 2) ((QY (Qx n l) (.q bb) (.q ab) (.i w) (.i p) (.q nb) (.q pb) (.i 0) (.i (u)) (.i (top:Int)) (.map H.length) Ud Ud Ud Ud Ud Ud Ud Ud Ud (.i n) (.i (top:Int)) (.i n) (.i ((n.toNat:Nat):Int)) Ud Ud Ud Ud Ud)) (H++[bMI (vtG g1 g2 n.toNat (top:Int))]):=by
 have h:=Wu (pol':=plF F) (f:=65) (b:=sn 119604 B65) (c:=sn 59802 B65) (E:=fun v=>(QY (Qx n l) (.q bb) (.q ab) (.i w) (.i p) (.q nb) (.q pb) (.i 0) (.i (u)) (.i (top:Int)) (.map H.length) Ud Ud Ud Ud Ud Ud Ud Ud Ud (.i n) (.i (top:Int)) (.i n) (.i (v:Int)) Ud Ud Ud Ud Ud)) (Hs:=fun v=>H++[bMI (vtG g1 g2 v (top:Int))]) n.toNat (E0:=fun v=>(QY (Qx n l) (.q bb) (.q ab) (.i w) (.i p) (.q nb) (.q pb) (.i 0) (.i (u)) (.i (top:Int)) (.map H.length) (.i (v:Int)) Ud Ud Ud Ud Ud Ud Ud Ud (.i n) (.i (top:Int)) (.i n) (.i ((v+1:Nat):Int)) Ud Ud Ud Ud Ud)) (H1:=fun v=>H++[bMI (vtG g1 g2 (v+1) (top:Int))]) (x:=.exit 2) (E':=(QY (Qx n l) (.q bb) (.q ab) (.i w) (.i p) (.q nb) (.q pb) (.i 0) (.i (u)) (.i (top:Int)) (.map H.length) Ud Ud Ud Ud Ud Ud Ud Ud Ud (.i n) (.i (top:Int)) (.i n) (.i ((n.toNat:Nat):Int)) Ud Ud Ud Ud Ud)) (H':=H++[bMI (vtG g1 g2 n.toNat (top:Int))])
  (fun v hv=>by
   have hv16:v<16:=by omega
   have s1:=Qo6 (F:=F) 0 n (l.map Qa) bb ab w p (H++[bMI (vtG g1 g2 v (top:Int))]) nb pb u top H.length v (by omega)
   have s2:=Qhc (F:=F) 0 n (l.map Qa) bb ab w p (H++[bMI (vtG g1 g2 v (top:Int))]) nb pb u top H.length v
   have s4:=Qpb (F:=F) 0 n (l.map Qa) bb ab w p (H++[bMI (vtG g1 g2 (v+1) (top:Int))]) nb pb u top H.length v (y14:=.i (v:Int))
   rw [show qA.wrap ((v:Int)+1)=((v+1:Nat):Int) by rw [QU (by omega) (by omega)];omega] at s4
   have s3:RT (plF F) 65 (sn 956838 B65) ((QY (Qx n l) (.q bb) (.q ab) (.i w) (.i p) (.q nb) (.q pb) (.i 0) (.i (u)) (.i (top:Int)) (.map H.length) Ud Ud Ud Ud Ud Ud Ud Ud Ud (.i n) (.i (top:Int)) (.i n) (.i (v:Int)) Ud Ud Ud Ud Ud)) (H++[bMI (vtG g1 g2 v (top:Int))]) .normal ((QY (Qx n l) (.q bb) (.q ab) (.i w) (.i p) (.q nb) (.q pb) (.i 0) (.i (u)) (.i (top:Int)) (.map H.length) (.i (v:Int)) Ud Ud Ud Ud Ud Ud Ud Ud (.i n) (.i (top:Int)) (.i n) (.i (v:Int)) Ud Ud Ud Ud Ud)) (H++[bMI (vtG g1 g2 (v+1) (top:Int))]):=by
    have b1':=WX (X:=[bMI (vtG g1 g2 v (top:Int))]) hb1
    have b2':=WX (X:=[bMI (vtG g1 g2 v (top:Int))]) hb2
    obtain ⟨N1,c1⟩:=CallsTo.from (J0 (F:=F) h55 b1' hU1 (v:=(v:Int)) (by omega) (by omega))
    obtain ⟨N2,c2⟩:=CallsTo.from (J0 (F:=F) h55 b2' hU2 (v:=(v:Int)) (by omega) (by omega))
    rw [qB] at c1 c2
    have k1:=fun kf (hk:max N1 N2≤kf)=>c1 kf (by omega)
    have k2:=fun kf (hk:max N1 N2≤kf)=>c2 kf (by omega)
    rw [Qfl]
    by_cases e1:g1.getD v 0=(v:Int)
    ·by_cases e2:g2.getD v 0=(top:Int)
     ·rw [if_pos ⟨e1,e2⟩]
      have hm:(H++[bMI (vtG g1 g2 v (top:Int))])[H.length]?=some (bMI (vtG g1 g2 v (top:Int))):=by simp
      have hx:(v:Int)∉vtG g1 g2 v (top:Int):=fun c=>by have:=QqJ c;omega
      have mp:=QhM hm hx
      have es:(H++[bMI (vtG g1 g2 v (top:Int))]).set H.length (bMI (vtG g1 g2 v (top:Int)++[(v:Int)]))=H++[bMI (vtG g1 g2 v (top:Int)++[(v:Int)])]:=by rw [jA _ _ (qG _),jE];rfl
      rw [es] at mp
      exact Qo8 (F:=F) (max N1 N2) n (l.map Qa) bb ab w p (H++[bMI (vtG g1 g2 v (top:Int))]) nb pb u top H.length v k1 e1 k2 e2 (QbY hm) mp
     ·rw [if_neg fun h=>e2 h.2,qE]
      exact Qo9 (F:=F) (max N1 N2) n (l.map Qa) bb ab w p (H++[bMI (vtG g1 g2 v (top:Int))]) nb pb u top H.length v k1 e1 k2 e2
    ·rw [if_neg fun h=>e1 h.1,qE]
     exact Qpa (F:=F) (max N1 N2) n (l.map Qa) bb ab w p (H++[bMI (vtG g1 g2 v (top:Int))]) nb pb u top H.length v k1 e1
   exact sq (s1) (sq (s2) (sq (s3) (s4) (c:=sn 478419 B65)) (c:=sn 239209 B65)) (c:=sn 119604 B65)) (fun v _=>by kernel_rfl) (fun v _=>QI _ (by simp)) (by
   have s1:=Qo7 (F:=F) 0 n (l.map Qa) bb ab w p (H++[bMI (vtG g1 g2 n.toNat (top:Int))]) nb pb u top H.length n.toNat (by omega)
   have s2:=Qhd (F:=F) 0 n (l.map Qa) bb ab w p (H++[bMI (vtG g1 g2 n.toNat (top:Int))]) nb pb u top H.length n.toNat
   exact sq (s1) (sqo (s2) (c:=sn 239209 B65) (b:=sn 478419 B65)) (c:=sn 119604 B65)) (by simp) (by kernel_rfl) (fun v _=>by kernel_rfl)
 exact h
def Zp (L q i:Nat):List HV:=(qI q).map fun k=>if k<i then slR (L+5+k) q else .imm .lit 0 []
theorem V1 (L q i:Nat):(Zp L q i).length=q:=by simp [Zp]
theorem QcQ {L q i:Nat}:(Zp L q i).set i (slR (L+5+i) q)=Zp L q (i+1):=by
 refine List.ext_getElem? fun j=>?_
 rcases qU j q with h | h
 ·have a:∀x,(Zp L q x)[j]?=some (if j<x then slR (L+5+j) q else .imm .lit 0 []):=fun x=>by simp [Zp,h]
  rw [a,List.getElem?_set]
  by_cases c:i=j
  ·subst c;rw [if_pos rfl,if_pos (by rw [V1];exact h),if_pos (by omega)]
  ·rw [if_neg c,a]
   by_cases c2:j<i
   ·rw [if_pos c2,if_pos (by omega)]
   ·rw [if_neg c2,if_neg (by omega)]
 ·rw [zP (by rw [jU,V1];exact h),zP (by rw [V1];exact h)]
theorem GA (L q:Nat):Zp L q q=Yc (fun k=>L+5+k) q:=jV fun k hk=>if_pos (List.mem_range.1 hk)
theorem QaW (L q:Nat):Zp L q 0=qC q (.imm .lit 0 []):=by
 refine List.ext_getElem (by simp [Zp]) fun j h1 h2=>?_
 simp [Zp]
def rmx (L i:Nat):Nat:=if i=0 then 0 else L+5+i
abbrev zR (q:Nat):Blk:=bI (qC q 0)
abbrev hC (H:Heap) (V:List Int) (q i:Nat):Heap:=H++[bMI V,b1 (q:Int),.arr 1 (Zp H.length q i) true (rmx H.length i),.arr 1 [slR (H.length+2) q] true (H.length+5),.arr 1 [] true 0]++qC i (zR q)
theorem DI (H:Heap) (V:List Int) (q i:Nat):(hC H V q i).length=H.length+5+i:=by simp only [hC,qD,jG,jH,zE]
theorem GB (H:Heap) (V:List Int) (q i:Nat) {j:Nat} (hj:j<5):(hC H V q i)[H.length+j]?=[bMI V,b1 (q:Int),.arr 1 (Zp H.length q i) true (rmx H.length i),.arr 1 [slR (H.length+2) q] true (H.length+5),.arr 1 [] true 0][j]?:=by
 rw [hC,qF,qQ (by omega),show H.length+j-H.length=j by omega,zQ (by simpa using hj)]
theorem QqL {H:Heap} {base r:Nat} (h:H.length≤max base (max r (mxs H))):gc base r H=H:=by
 unfold gc
 exact List.take_of_length_le h
theorem QhN (u:Int) (top:Nat) {V:List Int} {q:Nat} (hq:q≤16) (hs:Qm (hC H V q 0) (hC H V q 0)=true) :
  RT (plF F) 65 (sn 956922 B65) ((QY (Qx n l) (.q bb) (.q ab) (.i w) (.i p) (.q nb) (.q pb) (.i 0) (.i (u)) Ud (.map H.length) Ud (.q (H.length+1)) (.q (H.length+3)) Ud Ud Ud Ud Ud Ud (.i n) (.i (top:Int)) Ud Ud (.i (q:Int)) (.i (0:Int)) Ud Ud Ud)) (hC H V q 0) (.exit 4) ((QY (Qx n l) (.q bb) (.q ab) (.i w) (.i p) (.q nb) (.q pb) (.i 0) (.i (u)) Ud (.map H.length) Ud (.q (H.length+1)) (.q (H.length+3)) Ud Ud Ud Ud Ud Ud (.i n) (.i (top:Int)) Ud Ud (.i (q:Int)) (.i (q:Int)) Ud Ud Ud)) (hC H V q q):=by
 have sI:∀i,Qm (hC H V q i) (hC H V q i)=true:=fun i=>by
  refine sameH_all.2 fun B hB=>?_
  rw [hC,qF,jI,jI] at hB
  rcases hB with h | h | h
  ·exact sameH_all.1 hs B (by rw [hC];simp [h])
  ·simp only [List.mem_cons,List.not_mem_nil,or_false] at h
   rcases h with rfl | rfl | rfl | rfl | rfl
   ·exact sameH_all.1 hs _ (by rw [hC];simp)
   ·exact W1 [(q:Int)]
   ·simp only [Qm,Zp,WU (f:=fun k=>if k<i then slR (H.length+5+k) q else .imm .lit 0 []) (fun k=>by split <;> simp [same,sameL]),beq_self_eq_true,qR]
   ·exact sameH_all.1 hs _ (by rw [hC];simp)
   ·rfl
  ·rw [jW h];exact W1 _
 have h:=Wu (pol':=plF F) (f:=65) (b:=sn 1913844 B65) (c:=sn 956922 B65) (E:=fun i=>(QY (Qx n l) (.q bb) (.q ab) (.i w) (.i p) (.q nb) (.q pb) (.i 0) (.i (u)) Ud (.map H.length) Ud (.q (H.length+1)) (.q (H.length+3)) Ud Ud Ud Ud Ud Ud (.i n) (.i (top:Int)) Ud Ud (.i (q:Int)) (.i (i:Int)) Ud Ud Ud)) (Hs:=fun i=>hC H V q i) q (E0:=fun i=>(QY (Qx n l) (.q bb) (.q ab) (.i w) (.i p) (.q nb) (.q pb) (.i 0) (.i (u)) Ud (.map H.length) Ud (.q (H.length+1)) (.q (H.length+3)) (.i (i:Int)) Ud Ud Ud Ud Ud (.i n) (.i (top:Int)) Ud Ud (.i (q:Int)) (.i ((i+1:Nat):Int)) Ud Ud Ud)) (H1:=fun i=>hC H V q (i+1)) (x:=.exit 4) (E':=(QY (Qx n l) (.q bb) (.q ab) (.i w) (.i p) (.q nb) (.q pb) (.i 0) (.i (u)) Ud (.map H.length) Ud (.q (H.length+1)) (.q (H.length+3)) Ud Ud Ud Ud Ud Ud (.i n) (.i (top:Int)) Ud Ud (.i (q:Int)) (.i (q:Int)) Ud Ud Ud)) (H':=hC H V q q)
  (fun i hi=>by
   have s1:=Qph (F:=F) 0 n (l.map Qa) bb ab w p (hC H V q i) nb pb u top H.length (H.length+1) (H.length+3) q i (by omega)
   have s2:=Qhe (F:=F) 0 n (l.map Qa) bb ab w p (hC H V q i) nb pb u top H.length (H.length+1) (H.length+3) q i
   have s4:=Qpk (F:=F) 0 n (l.map Qa) bb ab w p (hC H V q (i+1)) nb pb u top H.length (H.length+1) (H.length+3) q i (y17:=.i (i:Int))
   rw [show qA.wrap ((i:Int)+1)=((i+1:Nat):Int) by rw [QU (by omega) (by omega)];omega] at s4
   have mk:=Vm (P:=Tp) (H:=hC H V q i) (t:=24) (e:=3) (k:=1) (bt:=8) (zv:=.int .i64 0) (n:=(q:Int)) u24 (by kernel_rfl) (by simp [cellsOf,Qn]) (by simp [cellsOf]) (by omega) (by omega) (by simp only [WZ];omega)
   rw [qB,DI] at mk
   have erep:Blk.arr 1 (qC q (HV.int .i64 0)) true 0=zR q:=by simp [zR,bI,Qc]
   rw [erep] at mk
   have gx:(hC H V q i)[H.length+3]?=some (.arr 1 [slR (H.length+2) q] true (H.length+5)):=GB H V q i (j:=3) (by omega)
   have gz:(hC H V q i)[H.length+1]?=some (b1 (q:Int)):=GB H V q i (j:=1) (by omega)
   have gm:(hC H V q i)[H.length+2]?=some (.arr 1 (Zp H.length q i) true (rmx H.length i)):=GB H V q i (j:=2) (by omega)
   have lx:QH Tp (hC H V q i) 57 (.ptr (H.length+3) 0 0 1)=some (slR (H.length+2) q):=WE (b:=H.length+3) gx rfl rfl rfl a57 i57
   have lx':QH Tp (hC H V q i++[zR q]) 57 (.ptr (H.length+3) 0 0 1)=some (slR (H.length+2) q):=WE (b:=H.length+3) (WX gx) rfl rfl rfl a57 i57
   have old:(Zp H.length q i)[i]?=some (.imm .lit 0 []):=by simp [Zp,hi]
   have st:=Yz (i:=i) (b:=H.length+5+i) (N:=q) (WX (X:=[zR q]) gm) (V1 ..).symm old rfl (by intro cs h;cases h)
   have emx:max (rmx H.length i) (H.length+5+i+1)=rmx H.length (i+1):=by
    unfold rmx
    split <;> (rw [if_neg (by omega)];omega)
   rw [QcQ,emx] at st
   have eH:(hC H V q i++[zR q]).set (H.length+2) (.arr 1 (Zp H.length q (i+1)) true (rmx H.length (i+1)))=hC H V q (i+1):=by
    rw [hC,hC,qF,qF,jA _ _ (by omega),show H.length+2-H.length=2 by omega,List.replicate_succ',qF]
    rfl
   rw [eH] at st
   have s3:=Qpj (F:=F) 0 n (l.map Qa) bb ab w p (hC H V q i) nb pb u top H.length (H.length+1) (H.length+3) q i (H.length+2) (H.length+5+i) lx (ld1 gz) mk (XF hi) st (Yk lx lx' (by simp [same]) (sI i) (VP (sI i) (W1 _)))
   exact sq (s1) (sq (s2) (sq (s3) (s4) (c:=sn 7655379 B65)) (c:=sn 3827689 B65)) (c:=sn 1913844 B65)) (fun i _=>by kernel_rfl) (fun i _=>QqL (by
    have:rmx H.length (i+1)≤mxs (hC H V q (i+1)):=by
     rw [hC,W7,W7]
     have:rmx H.length (i+1)≤mxs [bMI V,b1 (q:Int),.arr 1 (Zp H.length q (i+1)) true (rmx H.length (i+1)),.arr 1 [slR (H.length+2) q] true (H.length+5),.arr 1 [] true 0]:=mxs_all.1 (qG _) (.arr 1 (Zp H.length q (i+1)) true (rmx H.length (i+1))) (by simp)
     omega
    rw [DI]
    rw [rmx,if_neg (by omega)] at this
    omega)) (by
   have s1:=Qpi (F:=F) 0 n (l.map Qa) bb ab w p (hC H V q q) nb pb u top H.length (H.length+1) (H.length+3) q q (by omega)
   have s2:=Qhf (F:=F) 0 n (l.map Qa) bb ab w p (hC H V q q) nb pb u top H.length (H.length+1) (H.length+3) q q
   exact sq (s1) (sqo (s2) (c:=sn 3827689 B65) (b:=sn 7655379 B65)) (c:=sn 1913844 B65)) (by simp) (by kernel_rfl) (fun i _=>by kernel_rfl)
 exact h
end
def adS (p:Int) (V g1:List Int) (w:Int) (M:List (List Int)) (s:St):List (List Int) :=
 if g1.getD s.1.toNat 0∈V∧s.2.2=w∧Wz V (g1.getD s.1.toNat 0)≠Wz V (g1.getD s.2.1.toNat 0) then
  adM p (V.length-1) (Wz V (g1.getD s.2.1.toNat 0)) (Wz V (g1.getD s.1.toNat 0)) (-1) (adM p (V.length-1) (Wz V (g1.getD s.1.toNat 0)) (Wz V (g1.getD s.2.1.toNat 0)) (-1)
   (adM p (V.length-1) (Wz V (g1.getD s.2.1.toNat 0)) (Wz V (g1.getD s.2.1.toNat 0)) 1 (adM p (V.length-1) (Wz V (g1.getD s.1.toNat 0)) (Wz V (g1.getD s.1.toNat 0)) 1 M)))
 else M
def zM (N:Nat):List (List Int):=qC N (qC N 0)
def mxT (p:Int) (V g1:List Int) (w:Int) (l:List St):List (List Int):=l.foldl (adS p V g1 w) (zM (V.length-1))
theorem QqM {p:Int} (hp:0<p) {V g1:List Int} {w:Int} {M:List (List Int)} (h:WM p (V.length-1) M) (s:St):WM p (V.length-1) (adS p V g1 w M s):=by
 unfold adS
 split
 ·exact Kb hp (Kb hp (Kb hp (Kb hp h _ _ _) _ _ _) _ _ _) _ _ _
 ·exact h
theorem QbZ {p:Int} (hp:0<p) (N:Nat):WM p N (zM N):=⟨by simp [zM],fun r hr=>by
 rw [jW hr]
 exact ⟨by simp,fun j hj=>by rw [show (qC N (0:Int)).getD j 0=0 by simp [qJ,hj]];omega⟩⟩
theorem DJ {p:Int} (hp:0<p) {V g1:List Int} {w:Int}:∀(l:List St) {M:List (List Int)},WM p (V.length-1) M→WM p (V.length-1) (l.foldl (adS p V g1 w) M)
 | [],_,h=>h
 | s::l,_,h=>DJ hp l (QqM hp h s)
section
variable {F:FuncId→Option (List HV→Option HV)} {n:Int} {l:List St} {bb ab nb pb:Nat} {w p:Int} {H:Heap} {us1 g1:List Int}
theorem QhO (h55:F 55=none) (h86:F 86=none) (hp:1<p∧p≤2147483647) (hl:l.length≤1000) (he:Jk l=true) (hb1:H[bb]?=some (bU us1)) (hU1:Up us1 g1) (hpb:H[pb]?=some (b1 p)) (hnb:nb<H.length) (hab:ab<H.length)
  (u:Int) (top:Nat) {V:List Int} {q:Nat} (hq:q=V.length-1) {HH:Heap} (hHH:HH=hC H V q q) (hM:Mat HH (H.length+2) q (fun k=>H.length+5+k) (zM q)) :
  ∃H',RT (plF F) 65 (sn 3827706 B65) ((QY (Qx n l) (.q bb) (.q ab) (.i w) (.i p) (.q nb) (.q pb) (.i 0) (.i (u)) Ud (.map H.length) Ud Ud (.q (H.length+3)) Ud (.func 86 [] [.q (H.length+1),.q (H.length+3),.q pb]) Ud Ud Ud Ud (.i n) (.i (top:Int)) Ud Ud Ud Ud (.g (l.map Qa)) (.i ((l.length:Nat):Int)) (.i (0:Int)))) HH (.exit 6) ((QY (Qx n l) (.q bb) (.q ab) (.i w) (.i p) (.q nb) (.q pb) (.i 0) (.i (u)) Ud (.map H.length) Ud Ud (.q (H.length+3)) Ud (.func 86 [] [.q (H.length+1),.q (H.length+3),.q pb]) Ud Ud Ud Ud (.i n) (.i (top:Int)) Ud Ud Ud Ud (.g (l.map Qa)) (.i ((l.length:Nat):Int)) (.i ((l.length:Nat):Int)))) H'∧Mat H' (H.length+2) q (fun k=>H.length+5+k) (mxT p V g1 w l)∧Fx HH H' (rowS (fun k=>H.length+5+k) q):=by
 have hp0:0<p:=by omega
 have hok:∀k,WM p q ((l.take k).foldl (adS p V g1 w) (zM q)):=fun k=>by rw [hq];exact DJ hp0 _ (QbZ hp0 _)
 have hlenHH:HH.length=H.length+5+q:=by rw [hHH];exact DI ..
 have hbl:∀{b:Nat},b<H.length+5→¬rowS (fun k=>H.length+5+k) q b:=fun hb ⟨k,_,e⟩=>by
  have e:_=H.length+5+k:=e
  omega
 have hpre:∀{b:Nat} {B:Blk},H[b]?=some B→HH[b]?=some B:=fun h=>by rw [hHH,hC,qF];exact WX h
 obtain ⟨x,E',H',r,hx,hE,h1,h2⟩:=KK (pol':=plF F) (f:=65) (b:=sn 7655412 B65) (c:=sn 3827706 B65)
  (I:=fun k e H'=>e=(QY (Qx n l) (.q bb) (.q ab) (.i w) (.i p) (.q nb) (.q pb) (.i 0) (.i (u)) Ud (.map H.length) Ud Ud (.q (H.length+3)) Ud (.func 86 [] [.q (H.length+1),.q (H.length+3),.q pb]) Ud Ud Ud Ud (.i n) (.i (top:Int)) Ud Ud Ud Ud (.g (l.map Qa)) (.i ((l.length:Nat):Int)) (.i (k:Int)))∧Mat H' (H.length+2) q (fun k=>H.length+5+k) ((l.take k).foldl (adS p V g1 w) (zM q))∧Fx HH H' (rowS (fun k=>H.length+5+k) q))
  (Q:=fun x E' H'=>x=.exit 6∧E'=(QY (Qx n l) (.q bb) (.q ab) (.i w) (.i p) (.q nb) (.q pb) (.i 0) (.i (u)) Ud (.map H.length) Ud Ud (.q (H.length+3)) Ud (.func 86 [] [.q (H.length+1),.q (H.length+3),.q pb]) Ud Ud Ud Ud (.i n) (.i (top:Int)) Ud Ud Ud Ud (.g (l.map Qa)) (.i ((l.length:Nat):Int)) (.i ((l.length:Nat):Int)))∧Mat H' (H.length+2) q (fun k=>H.length+5+k) (mxT p V g1 w l)∧Fx HH H' (rowS (fun k=>H.length+5+k) q)) l.length
  (by
   rintro k hk e H' ⟨rfl,hM',hF⟩
   have hok':=hok k
   have hsucc:(l.take (k+1)).foldl (adS p V g1 w) (zM q)=adS p V g1 w ((l.take k).foldl (adS p V g1 w) (zM q)) (l.getD k (0,0,0)):=by
    rw [zF hk,zG,qJ,zS hk];rfl
   have hend:=endB_iff.1 he _ (Qw (0,0,0) hk)
   rw [hsucc]
   generalize (l.take k).foldl (adS p V g1 w) (zM q)=M0 at *
   have hgs:=gs hk
   generalize hs:l.getD k (0,0,0)=s at *
   obtain ⟨a2,b2,w2⟩:=s
   simp only at hend
   obtain ⟨ea,eb⟩:=hend
   have hHB:∀{b:Nat} {B:Blk},H[b]?=some B→H'[b]?=some B:=fun h=>by
    have hb:=VB h
    rw [hF.eq _ (hbl (by omega))];exact hpre h
   have hCat:∀{j:Nat} (hj:j<5),H'[H.length+j]?=[bMI V,b1 (q:Int),.arr 1 (Zp H.length q q) true (rmx H.length q),.arr 1 [slR (H.length+2) q] true (H.length+5),.arr 1 [] true 0][j]?:=fun hj=>by
    rw [hF.eq _ (hbl (by omega)),hHH];exact GB H V q q hj
   have kB:H'[H.length]?=some (bMI V):=hCat (j:=0) (by omega)
   have zB:H'[H.length+1]?=some (b1 (q:Int)):=hCat (j:=1) (by omega)
   have xB:H'[H.length+3]?=some (.arr 1 [slR (H.length+2) q] true (H.length+5)):=hCat (j:=3) (by omega)
   have pB:=hHB hpb
   have bB1:=hHB hb1
   have s1:=Qpn (F:=F) 0 n (l.map Qa) bb ab w p H' nb pb u top H.length (H.length+1) (H.length+3) l.length k (by omega)
   have s2:=Qhg (F:=F) 0 n (l.map Qa) bb ab w p H' nb pb u top H.length (H.length+1) (H.length+3) l.length k
   have hT:=QrY H' (bT (a2,b2,w2))
   have l0:=ldT hT 0 a2 rfl
   have l1:=ldT hT 1 b2 rfl
   have l2:=ldT hT 2 w2 rfl
   obtain ⟨N1,c1⟩:=CallsTo.from (J0 (F:=F) h55 (WX (X:=[bT (a2,b2,w2)]) bB1) hU1 (v:=a2) ea.1 ea.2)
   obtain ⟨N2,c2⟩:=CallsTo.from (J0 (F:=F) h55 (WX (X:=[bT (a2,b2,w2)]) bB1) hU1 (v:=b2) eb.1 eb.2)
   have m1:=(QbX (WX (X:=[bT (a2,b2,w2)]) kB) (g1.getD a2.toNat 0)).1
   have m2:=(QbX (WX (X:=[bT (a2,b2,w2)]) kB) (g1.getD b2.toNat 0)).2
   have hRl:∀{G:Heap},G.length=H'.length→∀i,i<q→(fun k=>H.length+5+k) i<G.length:=fun hG i hi=>by
    rw [hG,hF.ln,hlenHH];show H.length+5+i<_;omega
   have fin:∀{H4:Heap} {E0:Env} {X0:HV} {i0:Int} {ok:Bool} {j0:Int},Mat H4 (H.length+2) q (fun k=>H.length+5+k) (adS p V g1 w M0 (a2,b2,w2))→Fx H' H4 (rowS (fun k=>H.length+5+k) q) →
     RT (plF F) 65 (sn 61243302 B65) ((QY (Qx n l) (.q bb) (.q ab) (.i w) (.i p) (.q nb) (.q pb) (.i 0) (.i (u)) Ud (.map H.length) Ud Ud (.q (H.length+3)) Ud (.func 86 [] [.q (H.length+1),.q (H.length+3),.q pb]) Ud Ud Ud Ud (.i n) (.i (top:Int)) Ud Ud Ud Ud (.g (l.map Qa)) (.i ((l.length:Nat):Int)) (.i (k:Int)))) H' .normal ((QY (Qx n l) (.q bb) (.q ab) (.i w) (.i p) (.q nb) (.q pb) (.i 0) (.i (u)) Ud (.map H.length) Ud Ud (.q (H.length+3)) Ud (.func 86 [] [.q (H.length+1),.q (H.length+3),.q pb]) X0 (.i i0) (.bool ok) (.i j0) (.i n) (.i (top:Int)) Ud Ud Ud Ud (.g (l.map Qa)) (.i ((l.length:Nat):Int)) (.i (k:Int)))) (H4++[bT (a2,b2,w2)]) →
     ∃E0 H1,RT (plF F) 65 (sn 7655412 B65) ((QY (Qx n l) (.q bb) (.q ab) (.i w) (.i p) (.q nb) (.q pb) (.i 0) (.i (u)) Ud (.map H.length) Ud Ud (.q (H.length+3)) Ud (.func 86 [] [.q (H.length+1),.q (H.length+3),.q pb]) Ud Ud Ud Ud (.i n) (.i (top:Int)) Ud Ud Ud Ud (.g (l.map Qa)) (.i ((l.length:Nat):Int)) (.i (k:Int)))) H' .normal E0 H1∧QP (plF F) 65 (sn 7655412 B65) E0=(QY (Qx n l) (.q bb) (.q ab) (.i w) (.i p) (.q nb) (.q pb) (.i 0) (.i (u)) Ud (.map H.length) Ud Ud (.q (H.length+3)) Ud (.func 86 [] [.q (H.length+1),.q (H.length+3),.q pb]) Ud Ud Ud Ud (.i n) (.i (top:Int)) Ud Ud Ud Ud (.g (l.map Qa)) (.i ((l.length:Nat):Int)) (.i ((k+1:Nat):Int)))∧Mat (gc H'.length (WY (QP (plF F) 65 (sn 7655412 B65) E0)) H1) (H.length+2) q (fun k=>H.length+5+k) (adS p V g1 w M0 (a2,b2,w2))∧Fx HH (gc H'.length (WY (QP (plF F) 65 (sn 7655412 B65) E0)) H1) (rowS (fun k=>H.length+5+k) q):=by
    intro H4 E0 X0 i0 ok j0 g1' g2' s3
    have s4:=Qpt (F:=F) 0 n (l.map Qa) bb ab w p (H4++[bT (a2,b2,w2)]) nb pb u top H.length (H.length+1) (H.length+3) l.length k (y20:=X0) (y21:=.i i0) (y22:=.bool ok) (y23:=.i j0)
    rw [show qA.wrap ((k:Int)+1)=((k+1:Nat):Int) by rw [QU (by omega) (by omega)];omega] at s4
    have e1:QP (plF F) 65 (sn 7655412 B65) ((QY (Qx n l) (.q bb) (.q ab) (.i w) (.i p) (.q nb) (.q pb) (.i 0) (.i (u)) Ud (.map H.length) Ud Ud (.q (H.length+3)) Ud (.func 86 [] [.q (H.length+1),.q (H.length+3),.q pb]) X0 (.i i0) (.bool ok) (.i j0) (.i n) (.i (top:Int)) Ud Ud Ud Ud (.g (l.map Qa)) (.i ((l.length:Nat):Int)) (.i ((k+1:Nat):Int))))=(QY (Qx n l) (.q bb) (.q ab) (.i w) (.i p) (.q nb) (.q pb) (.i 0) (.i (u)) Ud (.map H.length) Ud Ud (.q (H.length+3)) Ud (.func 86 [] [.q (H.length+1),.q (H.length+3),.q pb]) Ud Ud Ud Ud (.i n) (.i (top:Int)) Ud Ud Ud Ud (.g (l.map Qa)) (.i ((l.length:Nat):Int)) (.i ((k+1:Nat):Int))):=by kernel_rfl
    have key:∀E1,E1=(QY (Qx n l) (.q bb) (.q ab) (.i w) (.i p) (.q nb) (.q pb) (.i 0) (.i (u)) Ud (.map H.length) Ud Ud (.q (H.length+3)) Ud (.func 86 [] [.q (H.length+1),.q (H.length+3),.q pb]) Ud Ud Ud Ud (.i n) (.i (top:Int)) Ud Ud Ud Ud (.g (l.map Qa)) (.i ((l.length:Nat):Int)) (.i ((k+1:Nat):Int)))→Mat (gc H'.length (WY E1) (H4++[bT (a2,b2,w2)])) (H.length+2) q (fun k=>H.length+5+k) (adS p V g1 w M0 (a2,b2,w2))∧Fx HH (gc H'.length (WY E1) (H4++[bT (a2,b2,w2)])) (rowS (fun k=>H.length+5+k) q):=by
     rintro _ rfl
     have hb:WY ((QY (Qx n l) (.q bb) (.q ab) (.i w) (.i p) (.q nb) (.q pb) (.i 0) (.i (u)) Ud (.map H.length) Ud Ud (.q (H.length+3)) Ud (.func 86 [] [.q (H.length+1),.q (H.length+3),.q pb]) Ud Ud Ud Ud (.i n) (.i (top:Int)) Ud Ud Ud Ud (.g (l.map Qa)) (.i ((l.length:Nat):Int)) (.i ((k+1:Nat):Int))))≤H4.length:=by
      have:=VB hpb
      have:=VB hb1
      rw [g2'.ln,hF.ln,hlenHH]
      simp only [WY,bnd,bndL,Qx]
      omega
     have hm:mxs (H4++[bT (a2,b2,w2)])≤H4.length:=by
      rw [W7]
      have:=g1'.mm.mx
      show max _ (max 0 0)≤_
      omega
     rw [← g2'.ln,KN hm hb]
     exact ⟨g1',hF.trans g2'⟩
    exact ⟨_,_,sq (s1) (sq (s2) (sq (s3) (s4) (c:=sn 30621651 B65)) (c:=sn 15310825 B65)) (c:=sn 7655412 B65),e1,key _ e1⟩
   by_cases d1:g1.getD a2.toNat 0∈V
   ·rw [decide_eq_true d1] at m1
    by_cases d2:w2=w
    ·by_cases d3:Wz V (g1.getD a2.toNat 0)=Wz V (g1.getD b2.toNat 0)
     ·have s3:=Qpp (F:=F) (max N1 N2) n (l.map Qa) bb ab w p H' nb pb u top H.length (H.length+1) (H.length+3) l.length k a2 b2 w2 hgs (Df _) (Dg H' (a2,b2,w2)) (QcE _) l0 (fun kf hk=>c1 kf (by omega)) m1 (QcF _) l1 (fun kf hk=>c2 kf (by omega)) m2 (Qnf _) l2 d2 (by rw [d3])
      have ea:adS p V g1 w M0 (a2,b2,w2)=M0:=if_neg fun h=>h.2.2 d3
      rw [ea] at fin ⊢
      exact fin (E0:=[]) hM' (Fx.refl ..) s3
     ·have h0:Mat (H'++[bT (a2,b2,w2)]) (H.length+2) q (fun k=>H.length+5+k) M0:=by
       obtain ⟨mx,y1,y2⟩:=hM'.blk
       exact ⟨hM'.ml,hM'.rl,hM'.ne,hM'.inj,⟨mx,by rw [qD];omega,WX y2⟩,fun i hi=>WX (hM'.row i hi),hM'.mm.app (by show max 0 0≤_;omega) (by have h:=Y7 (a2,b2,w2);simp only [Qm,sameL,h,beq_self_eq_true,qR])⟩
      have hbl2:∀{G G':Heap} {b:Nat} {B:Blk},Fx G G' (rowS (fun k=>H.length+5+k) q)→b<H.length+5→G[b]?=some B→G'[b]?=some B:=fun hf hb h=>by rw [hf.eq _ (hbl hb)];exact h
      have pl:=VB hpb
      have z0:=WX (X:=[bT (a2,b2,w2)]) zB
      have x0:=WX (X:=[bT (a2,b2,w2)]) xB
      have p0:=WX (X:=[bT (a2,b2,w2)]) pB
      generalize hi:Wz V (g1.getD a2.toNat 0)=i at *
      generalize hj:Wz V (g1.getD b2.toNat 0)=j at *
      have k1:=Ul (F:=F) h86 hp h0 hok' z0 x0 p0 i i (d:=1) (.inl rfl)
      have f1:=Z1 p q (fun k=>H.length+5+k) M0 i i 1 (H'++[bT (a2,b2,w2)])
      have h1:=h0.ad (p:=p) i i 1
      have o1:=Kb hp0 hok' i i 1
      have k2:=Ul (F:=F) h86 hp h1 o1 (hbl2 f1 (by omega) z0) (hbl2 f1 (by omega) x0) (hbl2 f1 (by omega) p0) j j (d:=1) (.inl rfl)
      have f2:=f1.trans (Z1 p q (fun k=>H.length+5+k) (adM p q i i 1 M0) j j 1 _)
      have h2:=h1.ad (p:=p) j j 1
      have o2:=Kb hp0 o1 j j 1
      have k3:=Ul (F:=F) h86 hp h2 o2 (hbl2 f2 (by omega) z0) (hbl2 f2 (by omega) x0) (hbl2 f2 (by omega) p0) i j (d:=-1) (.inr rfl)
      have f3:=f2.trans (Z1 p q (fun k=>H.length+5+k) (adM p q j j 1 (adM p q i i 1 M0)) i j (-1) _)
      have h3:=h2.ad (p:=p) i j (-1)
      have o3:=Kb hp0 o2 i j (-1)
      have k4:=Ul (F:=F) h86 hp h3 o3 (hbl2 f3 (by omega) z0) (hbl2 f3 (by omega) x0) (hbl2 f3 (by omega) p0) j i (d:=-1) (.inr rfl)
      have e1:=Uk (p:=p) (M:=M0) (i:=i) (j:=i) (d:=1) (X:=[bT (a2,b2,w2)]) (hRl (G:=H') rfl)
      have n1:=(Z1 p q (fun k=>H.length+5+k) M0 i i 1 H').ln
      rw [e1] at k1 k2 k3 k4
      have e2:=Uk (p:=p) (M:=adM p q i i 1 M0) (i:=j) (j:=j) (d:=1) (X:=[bT (a2,b2,w2)]) (hRl n1)
      have n2:=((Z1 p q (fun k=>H.length+5+k) M0 i i 1 H').trans (Z1 p q (fun k=>H.length+5+k) (adM p q i i 1 M0) j j 1 _)).ln
      rw [e2] at k2 k3 k4
      have e3:=Uk (p:=p) (M:=adM p q j j 1 (adM p q i i 1 M0)) (i:=i) (j:=j) (d:=-1) (X:=[bT (a2,b2,w2)]) (hRl n2)
      have n3:=(((Z1 p q (fun k=>H.length+5+k) M0 i i 1 H').trans (Z1 p q (fun k=>H.length+5+k) (adM p q i i 1 M0) j j 1 _)).trans (Z1 p q (fun k=>H.length+5+k) (adM p q j j 1 (adM p q i i 1 M0)) i j (-1) _)).ln
      rw [e3] at k3 k4
      have e4:=Uk (p:=p) (M:=adM p q i j (-1) (adM p q j j 1 (adM p q i i 1 M0))) (i:=j) (j:=i) (d:=-1) (X:=[bT (a2,b2,w2)]) (hRl n3)
      rw [e4] at k4
      obtain ⟨M1,k1⟩:=CallsTo.from k1
      obtain ⟨M2,k2⟩:=CallsTo.from k2
      obtain ⟨M3,k3⟩:=CallsTo.from k3
      obtain ⟨M4,k4⟩:=CallsTo.from k4
      have s3:=Qpq (F:=F) (max (max N1 N2) (max (max M1 M2) (max M3 M4))) n (l.map Qa) bb ab w p H' nb pb u top H.length (H.length+1) (H.length+3) l.length k a2 b2 w2 hgs (Df _) (Dg H' (a2,b2,w2)) (QcE _) l0 (fun kf hk=>c1 kf (by omega)) m1 (QcF _) l1 (fun kf hk=>c2 kf (by omega)) m2 (Qnf _) l2 d2 (by omega) (fun kf hk=>k1 kf (by omega)) (fun kf hk=>k2 kf (by omega)) (fun kf hk=>k3 kf (by omega)) (fun kf hk=>k4 kf (by omega))
      have ea:adS p V g1 w M0 (a2,b2,w2)=adM p q j i (-1) (adM p q i j (-1) (adM p q j j 1 (adM p q i i 1 M0))):=by
       unfold adS
       rw [if_pos ⟨d1,d2,by show Wz V (g1.getD a2.toNat 0)≠Wz V (g1.getD b2.toNat 0);rw [hi,hj];exact d3⟩,← hq]
       show adM p q (Wz V (g1.getD b2.toNat 0)) (Wz V (g1.getD a2.toNat 0)) (-1) (adM p q (Wz V (g1.getD a2.toNat 0)) (Wz V (g1.getD b2.toNat 0)) (-1) (adM p q (Wz V (g1.getD b2.toNat 0)) (Wz V (g1.getD b2.toNat 0)) 1 (adM p q (Wz V (g1.getD a2.toNat 0)) (Wz V (g1.getD a2.toNat 0)) 1 M0)))=_
       rw [hi,hj]
      rw [ea] at fin ⊢
      exact fin (E0:=[]) ((((hM'.ad (p:=p) i i 1).ad (p:=p) j j 1).ad (p:=p) i j (-1)).ad (p:=p) j i (-1)) ((((Z1 ..).trans (Z1 ..)).trans (Z1 ..)).trans (Z1 ..)) s3
    ·have s3:=Qpr (F:=F) (max N1 N2) n (l.map Qa) bb ab w p H' nb pb u top H.length (H.length+1) (H.length+3) l.length k a2 b2 w2 hgs (Df _) (Dg H' (a2,b2,w2)) (QcE _) l0 (fun kf hk=>c1 kf (by omega)) m1 (QcF _) l1 (fun kf hk=>c2 kf (by omega)) m2 (Qnf _) l2 d2
     have ea:adS p V g1 w M0 (a2,b2,w2)=M0:=if_neg fun h=>d2 h.2.1
     rw [ea] at fin ⊢
     exact fin (E0:=[]) hM' (Fx.refl ..) s3
   ·rw [decide_eq_false d1,QbW d1] at m1
    have s3:=Qps (F:=F) (max N1 N2) n (l.map Qa) bb ab w p H' nb pb u top H.length (H.length+1) (H.length+3) l.length k a2 b2 w2 hgs (Df _) (Dg H' (a2,b2,w2)) (QcE _) l0 (fun kf hk=>c1 kf (by omega)) m1 (QcF _) l1 (fun kf hk=>c2 kf (by omega)) m2
    have ea:adS p V g1 w M0 (a2,b2,w2)=M0:=if_neg fun h=>d1 h.1
    rw [ea] at fin ⊢
    exact fin (E0:=[]) hM' (Fx.refl ..) s3)
  (by
   rintro e H' ⟨rfl,hM',hF⟩
   rw [jX] at hM'
   have s1:=Qpo (F:=F) 0 n (l.map Qa) bb ab w p H' nb pb u top H.length (H.length+1) (H.length+3) l.length l.length (by omega)
   have s2:=Qhh (F:=F) 0 n (l.map Qa) bb ab w p H' nb pb u top H.length (H.length+1) (H.length+3) l.length l.length
   exact ⟨_,_,_,sq (s1) (sqo (s2) (c:=sn 15310825 B65) (b:=sn 30621651 B65)) (c:=sn 7655412 B65),by simp,rfl,rfl,by rw [mxT,← hq];exact hM',hF⟩)
  (by kernel_rfl) (by rintro k e H' ⟨rfl,_⟩;kernel_rfl) (e:=(QY (Qx n l) (.q bb) (.q ab) (.i w) (.i p) (.q nb) (.q pb) (.i 0) (.i (u)) Ud (.map H.length) Ud Ud (.q (H.length+3)) Ud (.func 86 [] [.q (H.length+1),.q (H.length+3),.q pb]) Ud Ud Ud Ud (.i n) (.i (top:Int)) Ud Ud Ud Ud (.g (l.map Qa)) (.i ((l.length:Nat):Int)) (.i (0:Int)))) (H:=HH) ⟨rfl,hM,Fx.refl ..⟩
 subst hx hE
 exact ⟨H',r,h1,h2⟩
end
def spK (p:Int) (g1 g2:List Int) (w:Int) (l:List St) (n:Nat):Nat→Int
 | 0=>1
 | k+1=>if (vtG g1 g2 n (k:Int)).length<2 then spK p g1 g2 w l n k else
   spK p g1 g2 w l n k*gz p (VD p) ((vtG g1 g2 n (k:Int)).length-1) ((vtG g1 g2 n (k:Int)).length-1) 0 1 (mxT p (vtG g1 g2 n (k:Int)) g1 w l)%p
theorem Cv {p:Int} (hp:1<p) (g1 g2:List Int) (w:Int) (l:List St) (n:Nat):∀k,0≤spK p g1 g2 w l n k∧spK p g1 g2 w l n k<p
 | 0=>by rw [spK];omega
 | k+1=>by
  rw [spK]
  split
  ·exact Cv hp g1 g2 w l n k
  ·exact ⟨qN _ (by omega),qO _ (by omega)⟩
section
variable {F:FuncId→Option (List HV→Option HV)} {n:Int} {l:List St} {bb ab nb pb:Nat} {w p:Int} {H:Heap} {us1 g1 us2 g2:List Int}
theorem DK (V:List Int):Qm [bMI V] [bMI V]=true:=by
 simp only [bMI,Qm,WU Vn,WU (f:=fun (i:Nat)=>HV.int .i64 (i:Int)) (fun i=>by simp [same]),beq_self_eq_true,qR]
theorem Ok.hC (h:Ok H) (V:List Int) (q:Nat):Ok (hC H V q 0):=by
 rw [Go.Proofs.Ytiejmoglooaalaa.hC,List.replicate_zero,qE]
 refine h.app ?_ (QG (DK V) (QG (W1 [(q:Int)]) (QG ?_ (QG ?_ rfl))))
 ·show max 0 (max 0 (max (rmx H.length 0) (max (H.length+5) (max 0 0))))≤H.length+5
  rw [rmx,if_pos rfl];omega
 ·simp only [Qm,Zp,WU (f:=fun k=>if k<0 then slR (H.length+5+k) q else .imm .lit 0 []) (fun k=>by split <;> simp [same,sameL]),beq_self_eq_true,qR]
 ·simp [Qm,sameL,same]
theorem Mat.hC (h:Ok H) (V:List Int) (q:Nat):Mat (hC H V q q) (H.length+2) q (fun k=>H.length+5+k) (zM q):=by
 have ho:Ok (Go.Proofs.Ytiejmoglooaalaa.hC H V q q):=by
  have e:Go.Proofs.Ytiejmoglooaalaa.hC H V q q=H++([bMI V,b1 (q:Int),.arr 1 (Zp H.length q q) true (rmx H.length q),.arr 1 [slR (H.length+2) q] true (H.length+5),.arr 1 [] true 0]++qC q (zR q)):=by rw [Go.Proofs.Ytiejmoglooaalaa.hC,qF]
  rw [e]
  refine h.app ?_ (VP (QG (DK V) (QG (W1 [(q:Int)]) (QG ?_ (QG ?_ rfl)))) (sameH_all.2 fun B hB=>by rw [jW hB];exact W1 _))
  ·rw [W7]
   have:mxs (qC q (zR q))≤0:=mxs_all.2 fun B hB=>by rw [jW hB];exact qG 0
   show max (max 0 (max 0 (max (rmx H.length q) (max (H.length+5) (max 0 0))))) _≤_
   simp only [qD,jG,jH,zE]
   rw [rmx]
   split <;> omega
  ·rw [GA];exact QbS _ _ _
  ·simp [Qm,sameL,same]
 have hz:∀i,i<q→(zM q).getD i []=qC q 0:=fun i hi=>by simp [zM,qJ,hi]
 refine ⟨by simp [zM],fun i hi=>by rw [hz i hi];simp,fun i _=>by show H.length+5+i≠_;omega,fun i j _ _ e=>by have e:H.length+5+i=H.length+5+j:=e;omega,⟨rmx H.length q,?_,?_⟩,fun i hi=>?_,ho⟩
 ·rw [DI,rmx];split <;> omega
 ·have:=GB H V q q (j:=2) (by omega)
  rw [this,GA];rfl
 ·rw [hz i hi]
  show (Go.Proofs.Ytiejmoglooaalaa.hC H V q q)[H.length+5+i]?=_
  rw [Go.Proofs.Ytiejmoglooaalaa.hC,qQ (by simp only [qD,jG,jH];omega)]
  simp only [qD,jG,jH]
  rw [show H.length+5+i-(H.length+(0+1+1+1+1+1))=i by omega,List.getElem?_replicate,if_pos hi]
theorem Qfm (h55:F 55=none) (h86:F 86=none) (h87:F 87=none) (h45:F 45=some SU) (hp:1<p∧p≤2147483647) (hn:0≤n∧n≤16) (hl:l.length≤1000) (he:Jk l=true)
  (hb1:H[bb]?=some (bU us1)) (hU1:Up us1 g1) (hb2:H[ab]?=some (bU us2)) (hU2:Up us2 g2) (hnb:H[nb]?=some (bN n l)) (hpb:H[pb]?=some (b1 p)) (hok:Ok H) {top:Nat} (ht:(top:Int)<n) :
  ∃E0 H1,RT (plF F) 65 (sn 116 B65) ((QY (Qx n l) (.q bb) (.q ab) (.i w) (.i p) (.q nb) (.q pb) (.i 0) (.i (spK p g1 g2 w l n.toNat top)) Ud Ud Ud Ud Ud Ud Ud Ud Ud Ud Ud (.i n) (.i (top:Int)) Ud Ud Ud Ud Ud Ud Ud)) H .normal E0 H1∧QP (plF F) 65 (sn 116 B65) E0=(QY (Qx n l) (.q bb) (.q ab) (.i w) (.i p) (.q nb) (.q pb) (.i 0) (.i (spK p g1 g2 w l n.toNat (top+1))) Ud Ud Ud Ud Ud Ud Ud Ud Ud Ud Ud (.i n) (.i ((top+1:Nat):Int)) Ud Ud Ud Ud Ud Ud Ud)∧Pre H H1∧Ok H1:=by
 have hsp:=Cv hp.1 g1 g2 w l n.toNat top
 have hV:=QhK g1 g2 n.toNat (top:Int)
 have hdef:spK p g1 g2 w l n.toNat (top+1)=if (vtG g1 g2 n.toNat (top:Int)).length<2 then spK p g1 g2 w l n.toNat top else
   spK p g1 g2 w l n.toNat top*gz p (VD p) ((vtG g1 g2 n.toNat (top:Int)).length-1) ((vtG g1 g2 n.toNat (top:Int)).length-1) 0 1 (mxT p (vtG g1 g2 n.toNat (top:Int)) g1 w l)%p:=rfl
 rw [hdef]
 generalize spK p g1 g2 w l n.toNat top=u at *
 have s1:=Qo1 (F:=F) 0 n (l.map Qa) bb ab w p H nb pb u top ht
 have s2:=Qha (F:=F) 0 n (l.map Qa) bb ab w p H nb pb u top
 have s3:=Qo3 (F:=F) 0 n (l.map Qa) bb ab w p H nb pb u top
 have s4:=Qo4 (F:=F) 0 n (l.map Qa) bb ab w p H nb pb u top H.length (H0:=H++[bMI []]) rfl
 have s5:=Qo5 (F:=F) 0 n (l.map Qa) bb ab w p (H++[bMI []]) nb pb u top H.length (Y9 (WX hnb))
 have s6:=QqK (F:=F) (w:=w) (p:=p) (nb:=nb) (pb:=pb) (l:=l) h55 hn hb1 hU1 hb2 hU2 u top
 generalize hVd:vtG g1 g2 n.toNat (top:Int)=V at *
 have hkb:(H++[bMI V])[H.length]?=some (bMI V):=by simp
 have hwr:qA.wrap ((V.length:Int)-1)=(V.length:Int)-1:=Qs (by omega) (by omega)
 have al:some (Q8 (.int .i64 0) (H++[bMI V]))=some (.ptr (H.length+1) 0 0 1,H++[bMI V,b1 0]):=by
  have:(H++[bMI V]).length=H.length+1:=by simp
  simp only [Q8,this,qF];rfl
 have st:=Zl (H:=H++[bMI V,b1 0]) (k:=H.length+1) (o:=[0]) (by simp;rfl) (y:=0) (by decide) ((V.length:Int)-1)
 have est:(H++[bMI V,b1 0]).set (H.length+1) (bI ([(0:Int)].set 0 ((V.length:Int)-1)))=H++[bMI V,b1 ((V.length:Int)-1)]:=by
  rw [jA _ _ (by omega),show H.length+1-H.length=1 by omega];rfl
 rw [est] at st
 have s7:=Qpc (F:=F) 0 n (l.map Qa) bb ab w p (H++[bMI V]) nb pb u top H.length (H.length+1) 0 (n0:=(V.length:Int)) (H0:=H++[bMI V,b1 0]) (H1:=H++[bMI V,b1 ((V.length:Int)-1)]) (y31:=.i n) (y32:=.i (n.toNat:Int)) (QbY hkb) al (by rw [hwr];exact st)
 have hzb:(H++[bMI V,b1 ((V.length:Int)-1)])[H.length+1]?=some (b1 ((V.length:Int)-1)):=by
  rw [qQ (by omega),show H.length+1-H.length=1 by omega];rfl
 have wr2:qA.wrap ((top:Int)+1)=((top+1:Nat):Int):=by rw [QU (by omega) (by omega)];omega
 by_cases c:V.length<2
 ·rw [if_pos c]
  have s8:=Qpd (F:=F) 0 n (l.map Qa) bb ab w p (H++[bMI V,b1 ((V.length:Int)-1)]) nb pb u top H.length (H.length+1) ((V.length:Int)-1) (y31:=.i n) (y32:=.i (n.toNat:Int)) (ld1 hzb) (by omega)
  have s9:=Qe4 (F:=F) 0 n (l.map Qa) bb ab w p (H++[bMI V,b1 ((V.length:Int)-1)]) nb pb u top (y12:=.i (top:Int)) (y13:=.map H.length) (y15:=.q (H.length+1)) (y31:=.i n) (y32:=.i (n.toNat:Int))
  rw [wr2] at s9
  exact ⟨_,_,sq (s1) (sq (s2) (sq (bke (c:=sn 934 B65) (sq (s3) (sq (s4) (sq (sq (s5) (bke (c:=sn 29901 B65) (s6)) (c:=sn 14950 B65)) (sq (s7) (sqo (s8) (c:=sn 29903 B65) (b:=sn 59807 B65)) (c:=sn 14951 B65)) (c:=sn 7475 B65)) (c:=sn 3737 B65)) (c:=sn 1868 B65))) (s9) (c:=sn 467 B65)) (c:=sn 233 B65)) (c:=sn 116 B65),by kernel_rfl,Pre.app ..,hok.app (by show max 0 (max 0 0)≤_;omega) (QG (DK V) (W1 [_]))⟩
 rw [if_neg c]
 obtain ⟨q,hq⟩:∃q:Nat,q=V.length-1:=⟨_,rfl⟩
 have eq:(V.length:Int)-1=(q:Int):=by omega
 rw [eq] at s7 hzb
 have s8:=Qpe (F:=F) 0 n (l.map Qa) bb ab w p (H++[bMI V,b1 (q:Int)]) nb pb u top H.length (H.length+1) (q:Int) (y31:=.i n) (y32:=.i (n.toNat:Int)) (ld1 hzb) (by omega)
 have mk:=Vm (P:=Tp) (H:=H++[bMI V,b1 (q:Int)]) (t:=57) (e:=24) (k:=1) (bt:=24) (zv:=.imm .lit 0 []) (n:=(q:Int)) u57 (by kernel_rfl) (by simp [cellsOf,Qn]) (by simp [cellsOf]) (by omega) (by omega) (by simp only [WZ];omega)
 rw [qB] at mk
 have len2:(H++[bMI V,b1 (q:Int)]).length=H.length+2:=by simp
 rw [len2] at mk
 have s9:RT (plF F) 65 (sn 119614 B65) ((QY (Qx n l) (.q bb) (.q ab) (.i w) (.i p) (.q nb) (.q pb) (.i 0) (.i (u)) (.i (top:Int)) (.map H.length) Ud (.q (H.length+1)) Ud Ud Ud Ud Ud Ud Ud (.i n) (.i (top:Int)) (.i n) (.i ((n.toNat:Nat):Int)) Ud Ud Ud Ud Ud)) (H++[bMI V,b1 (q:Int)]) .normal ((QY (Qx n l) (.q bb) (.q ab) (.i w) (.i p) (.q nb) (.q pb) (.i 0) (.i (u)) (.i (top:Int)) (.map H.length) Ud (.q (H.length+1)) (.q (H.length+3)) Ud Ud Ud Ud Ud Ud (.i n) (.i (top:Int)) (.i n) (.i ((n.toNat:Nat):Int)) Ud Ud Ud Ud Ud)) (hC H V q 0):=by
  have al2:some (HV.ptr (H++[bMI V,b1 (q:Int)]++[Blk.arr 1 (qC q (.imm .lit 0 [])) true 0]).length 0 0 1,H++[bMI V,b1 (q:Int)]++[Blk.arr 1 (qC q (.imm .lit 0 [])) true 0]++[Blk.arr 1 [HV.sl ((H++[bMI V,b1 (q:Int)]++[Blk.arr 1 (qC q (.imm .lit 0 [])) true 0]).length+1) 0 0 none 0 1] true ((H++[bMI V,b1 (q:Int)]++[Blk.arr 1 (qC q (.imm .lit 0 [])) true 0]).length+2),Blk.arr 1 [] true 0])
    = some (HV.ptr (H.length+3) 0 0 1,H++[bMI V,b1 (q:Int),Blk.arr 1 (qC q (.imm .lit 0 [])) true 0,Blk.arr 1 [HV.sl (H.length+4) 0 0 none 0 1] true (H.length+5),Blk.arr 1 [] true 0]):=by
   have:(H++[bMI V,b1 (q:Int)]++[Blk.arr 1 (qC q (.imm .lit 0 [])) true 0]).length=H.length+3:=by simp
   rw [this,qF,qF];rfl
  have g3:(H++[bMI V,b1 (q:Int),Blk.arr 1 (qC q (.imm .lit 0 [])) true 0,Blk.arr 1 [HV.sl (H.length+4) 0 0 none 0 1] true (H.length+5),Blk.arr 1 [] true 0])[H.length+3]?=some (Blk.arr 1 [HV.sl (H.length+4) 0 0 none 0 1] true (H.length+5)):=by
   rw [qQ (by omega),show H.length+3-H.length=3 by omega];rfl
  have st3:Q0 Tp (H++[bMI V,b1 (q:Int),Blk.arr 1 (qC q (.imm .lit 0 [])) true 0,Blk.arr 1 [HV.sl (H.length+4) 0 0 none 0 1] true (H.length+5),Blk.arr 1 [] true 0]) 57 (.ptr (H.length+3) 0 0 1) (slR (H.length+2) q)=some (hC H V q 0):=by
   have hz:Qq Tp 57=some 1:=by kernel_rfl
   simp only [ST,Q0,g3,hz]
   rw [if_pos ⟨rfl,rfl⟩]
   show (if _ then _ else _)=_
   rw [if_pos ⟨by simp [cellsOf],by simp [cellsOf,Qn],by simp [cellsOf]⟩]
   have em:max (H.length+5) (H.length+2+1)=H.length+5:=by omega
   show some (List.set _ (H.length+3) (Blk.arr 1 [slR (H.length+2) q] true (max (H.length+5) (H.length+2+1))))=_
   rw [em,hC,List.replicate_zero,qE,jA _ _ (by omega),show H.length+3-H.length=3 by omega,QaW]
   rfl
  exact Qpf (F:=F) 0 n (l.map Qa) bb ab w p (H++[bMI V,b1 (q:Int)]) nb pb u top H.length (H.length+1) (H.length+3) (H.length+2) q (y31:=.i n) (y32:=.i (n.toNat:Int)) (ld1 hzb) mk al2 st3
 have gx:∀i,(hC H V q i)[H.length+3]?=some (.arr 1 [slR (H.length+2) q] true (H.length+5)):=fun i=>GB H V q i (j:=3) (by omega)
 have lx:∀{G:Heap},G[H.length+3]?=some (.arr 1 [slR (H.length+2) q] true (H.length+5))→QH Tp G 57 (.ptr (H.length+3) 0 0 1)=some (slR (H.length+2) q):=fun h=>WE (b:=H.length+3) h rfl rfl rfl a57 i57
 have s10:=Qpg (F:=F) 0 n (l.map Qa) bb ab w p (hC H V q 0) nb pb u top H.length (H.length+1) (H.length+3) (H.length+2) q (y31:=.i n) (y32:=.i (n.toNat:Int)) (lx (gx 0))
 have s11:=QhN (F:=F) (H:=H) (n:=n) (l:=l) (bb:=bb) (ab:=ab) (nb:=nb) (pb:=pb) (w:=w) (p:=p) u top (V:=V) (q:=q) (by omega) (hok.hC V q).sm
 have s12:=Qpl (F:=F) 0 n (l.map Qa) bb ab w p (hC H V q q) nb pb u top H.length (H.length+1) (H.length+3) (y60:=.i (q:Int)) (y61:=.i (q:Int))
 have gl:∀{b:Nat} {B:Blk},H[b]?=some B→(hC H V q q)[b]?=some B:=fun h=>by rw [hC,qF];exact WX h
 have s13:=Qpm (F:=F) 0 n (l.map Qa) bb ab w p (hC H V q q) nb pb u top H.length (H.length+1) (H.length+3) (y60:=.i (q:Int)) (y61:=.i (q:Int)) (Jj (gl hnb))
 rw [qH] at s13
 have hM:=Mat.hC hok V q
 obtain ⟨H2,s14,hM2,hF2⟩:=QhO (F:=F) (n:=n) (ab:=ab) (nb:=nb) h55 h86 hp hl he hb1 hU1 hpb (VB hnb) (VB hb2) u top hq rfl hM (w:=w)
 have hbl:∀{b:Nat},b<H.length+5→¬rowS (fun k=>H.length+5+k) q b:=fun hb ⟨k,_,e⟩=>by
  have e:_=H.length+5+k:=e
  omega
 have hokM:WM p q (mxT p V g1 w l):=by rw [hq];exact DJ (by omega) _ (QbZ (by omega) _)
 obtain ⟨H3,d1,d2,d3⟩:=Qfd (F:=F) h87 h45 hp (by omega) hM2 hokM
 have hdr:=Qfa (p:=p) hp.1 (inv:=VD p) (N:=q) q 0 1 (mxT p V g1 w l) (by omega) (by omega)
 generalize gz p (VD p) q q 0 1 (mxT p V g1 w l)=dv at *
 have pl:=VB hpb
 have lp2:=ld1 (show H2[pb]?=some (b1 p) by rw [hF2.eq _ (hbl (by omega))];exact gl hpb)
 have hS3:∀{b:Nat},b<H.length→¬(b=H.length+2∨rowS (fun k=>H.length+5+k) q b):=fun hb h=>h.elim (by omega) (hbl (by omega))
 have lp3:=ld1 (show H3[pb]?=some (b1 p) by rw [d3.eq _ (hS3 pl),hF2.eq _ (hbl (by omega))];exact gl hpb)
 obtain ⟨N1,k1⟩:=CallsTo.from d1
 have s15:=Qpu (F:=F) N1 n (l.map Qa) bb ab w p H2 nb pb u top H.length (H.length+1) (H.length+3) (H.length+2) q (y72:=.g (l.map Qa)) (y73:=.i (l.length:Int)) (y74:=.i (l.length:Int)) (lx (by rw [hF2.eq _ (hbl (by omega))];exact gx q)) lp2 k1 lp3 (Cq (by omega)) (Yk lp3 lp2 (by simp [same]) d2.sm hM2.mm.sm)
 rw [QcN (by omega) hsp.1 hsp.2 hdr.1 hdr.2 hp.2] at s15
 have s16:=Qe4 (F:=F) 0 n (l.map Qa) bb ab w p H3 nb pb (u*dv%p) top (y13:=.map H.length) (y16:=.q (H.length+3)) (y18:=(.func 86 [] [.q (H.length+1),.q (H.length+3),.q pb])) (y72:=.g (l.map Qa)) (y73:=.i (l.length:Int)) (y74:=.i (l.length:Int))
 rw [wr2] at s16
 have hpre:Pre H H3:=⟨by rw [d3.ln,hF2.ln,DI];omega,fun b hb=>by rw [d3.eq _ (hS3 hb),hF2.eq _ (hbl (by omega)),hC,qF,zQ hb]⟩
 rw [← hq]
 exact ⟨_,_,sq (s1) (sq (s2) (sq (RunsTo.block_normal (i:=1) (c:=sn 934 B65) (sq (s3) (sq (s4) (sq (sq (s5) (bke (c:=sn 29901 B65) (s6)) (c:=sn 14950 B65)) (sq (s7) (sq (s8) (sq (s9) (sq (sq (s10) (bke (c:=sn 478461 B65) (lpi (e0:=(QY (Qx n l) (.q bb) (.q ab) (.i w) (.i p) (.q nb) (.q pb) (.i 0) (.i (u)) (.i (top:Int)) (.map H.length) Ud (.q (H.length+1)) (.q (H.length+3)) Ud Ud Ud Ud Ud Ud (.i n) (.i (top:Int)) (.i n) (.i ((n.toNat:Nat):Int)) (.i (q:Int)) (.i (0:Int)) Ud Ud Ud)) s11 (b:=sn 1913844 B65))) (c:=sn 239230 B65)) (sq (s12) (sq (sq (s13) (bke (c:=sn 1913853 B65) (lpi (e0:=(QY (Qx n l) (.q bb) (.q ab) (.i w) (.i p) (.q nb) (.q pb) (.i 0) (.i (u)) Ud (.map H.length) Ud (.q (H.length+1)) (.q (H.length+3)) Ud (.func 86 [] [.q (H.length+1),.q (H.length+3),.q pb]) Ud Ud Ud Ud (.i n) (.i (top:Int)) Ud Ud (.i (q:Int)) (.i (q:Int)) (.g (l.map Qa)) (.i ((l.length:Nat):Int)) (.i (0:Int)))) s14 (b:=sn 7655412 B65))) (c:=sn 956926 B65)) (s15) (c:=sn 478463 B65)) (c:=sn 239231 B65)) (c:=sn 119615 B65)) (c:=sn 59807 B65)) (c:=sn 29903 B65)) (c:=sn 14951 B65)) (c:=sn 7475 B65)) (c:=sn 3737 B65)) (c:=sn 1868 B65)) (by kernel_rfl)) (s16) (c:=sn 467 B65)) (c:=sn 233 B65)) (c:=sn 116 B65),by kernel_rfl,hpre,d2⟩
end
section
variable {F:FuncId→Option (List HV→Option HV)} {n:Int} {l:List St} {bb ab:Nat} {w p:Int} {H:Heap} {us1 g1 us2 g2:List Int}
theorem Qsf:Try.f65.results.toList=[.tmp 10]:=by kernel_rfl
structure SgF (F:FuncId→Option (List HV→Option HV)):Prop where
 h55:F 55=none
 h65:F 65=none
 h86:F 86=none
 h87:F 87=none
 h45:F 45=some SU
theorem QhP (hF:SgF F) (hp:1<p∧p≤2147483647) (hn:0≤n∧n≤16) (hl:l.length≤1000) (he:Jk l=true)
  (hb1:H[bb]?=some (bU us1)) (hU1:Up us1 g1) (hb2:H[ab]?=some (bU us2)) (hU2:Up us2 g2) (hok:Ok H) :
  ∃H',ClF F 65 [Qx n l,.ptr bb 0 0 1,.ptr ab 0 0 1,.int .i64 w,.int .i64 p] H (.int .i64 (spK p g1 g2 w l n.toNat n.toNat)) H'∧Pre H H'∧Ok H':=by
 have nv:some (Q8 (.agg [.int .i64 n,.imm .arg 3 (l.map Qa)]) H)=some (.ptr H.length 0 0 1,H++[bN n l]):=rfl
 have nv2:some (Q8 (.int .i64 p) (H++[bN n l]))=some (.ptr (H.length+1) 0 0 1,H++[bN n l,b1 p]):=by
  have:(H++[bN n l]).length=H.length+1:=by simp
  simp only [Q8,this,qF];rfl
 have s1:=QoY (F:=F) 0 n (l.map Qa) bb ab w p H 0 0 nv nv2
 generalize hG:H++[bN n l,b1 p]=G at *
 have hnb:G[H.length]?=some (bN n l):=by rw [← hG,qQ (by omega),jE];rfl
 have hpb:G[H.length+1]?=some (b1 p):=by rw [← hG,qQ (by omega),show H.length+1-H.length=1 by omega];rfl
 have hpre:Pre H G:=by rw [← hG];exact Pre.app ..
 have hokG:Ok G:=by
  rw [← hG]
  refine hok.app (by show max 0 (max 0 0)≤_;omega) (QG ?_ (W1 [p]))
  have:=Vo n l
  simp only [Qm,sameL,this,beq_self_eq_true,qR]
 have s2:=QoZ (F:=F) 0 n (l.map Qa) bb ab w p G H.length (H.length+1)
 have s3:=Qo0 (F:=F) 0 n (l.map Qa) bb ab w p G H.length (H.length+1) 1 (Y9 hnb)
 obtain ⟨x,E',H',s4,rfl,rfl,hp2,hok2⟩:=KK (pol':=plF F) (f:=65) (b:=sn 116 B65) (c:=sn 58 B65)
  (I:=fun k e H'=>e=(QY (Qx n l) (.q bb) (.q ab) (.i w) (.i p) (.ptr H.length 0 0 1) (.q (H.length+1)) (.i 0) (.i (spK p g1 g2 w l n.toNat k)) Ud Ud Ud Ud Ud Ud Ud Ud Ud Ud Ud (.i n) (.i (k:Int)) Ud Ud Ud Ud Ud Ud Ud)∧Pre G H'∧Ok H')
  (Q:=fun x E' H'=>x=.exit 0∧E'=(QY (Qx n l) (.q bb) (.q ab) (.i w) (.i p) (.ptr H.length 0 0 1) (.q (H.length+1)) (.i 0) (.i (spK p g1 g2 w l n.toNat n.toNat)) Ud Ud Ud Ud Ud Ud Ud Ud Ud Ud Ud (.i n) (.i ((n.toNat:Nat):Int)) Ud Ud Ud Ud Ud Ud Ud)∧Pre G H'∧Ok H') n.toNat
  (by
   rintro k hk e H' ⟨rfl,hP,hO⟩
   obtain ⟨E0,H1,r,e1,g1',g2'⟩:=Qfm (F:=F) (H:=H') (w:=w) hF.h55 hF.h86 hF.h87 hF.h45 hp hn hl he (hP.get (hpre.get hb1)) hU1 (hP.get (hpre.get hb2)) hU2 (hP.get hnb) (hP.get hpb) hO (top:=k) (by omega)
   refine ⟨E0,H1,r,e1,?_,g2'.gc _ _⟩
   exact (hP.trans g1').gc hP.ln _)
  (by
   rintro e H' ⟨rfl,hP,hO⟩
   have t1:=Qo2 (F:=F) 0 n (l.map Qa) bb ab w p H' H.length (H.length+1) (spK p g1 g2 w l n.toNat n.toNat) n.toNat (by omega)
   have t2:=Qhb (F:=F) 0 n (l.map Qa) bb ab w p H' H.length (H.length+1) (spK p g1 g2 w l n.toNat n.toNat) n.toNat
   exact ⟨_,_,_,sq (t1) (sqo (t2) (c:=sn 233 B65) (b:=sn 467 B65)) (c:=sn 116 B65),by simp,rfl,rfl,hP,hO⟩)
  (by kernel_rfl) (by rintro k e H' ⟨rfl,_⟩;kernel_rfl) (e:=(QY (Qx n l) (.q bb) (.q ab) (.i w) (.i p) (.ptr H.length 0 0 1) (.q (H.length+1)) (.i 0) (.i (1)) Ud Ud Ud Ud Ud Ud Ud Ud Ud Ud Ud (.i n) (.i (0:Int)) Ud Ud Ud Ud Ud Ud Ud)) (H:=G) ⟨rfl,Pre.refl G,hokG⟩
 have s5:=Qpv (F:=F) 0 n (l.map Qa) bb ab w p H' H.length (H.length+1) (spK p g1 g2 w l n.toNat n.toNat) (y25:=.i n) (y26:=.i (n.toNat:Int))
 have h:=CallsTo.shared (P:=Tp) (pol:=plF F) (g:=65) (fn:=Try.f65) (cd:=B65) (args:=[Qx n l,.ptr bb 0 0 1,.ptr ab 0 0 1,.int .i64 w,.int .i64 p]) (v:=.int .i64 (spK p g1 g2 w l n.toNat n.toNat)) hF.h65 (by kernel_rfl) (by kernel_rfl) (by kernel_rfl) (sq (s1) (sq (s2) (sq (sq (s3) (bke (c:=sn 29 B65) (s4)) (c:=sn 14 B65)) (s5) (c:=sn 7 B65)) (c:=sn 3 B65)) (c:=B65)) (by kernel_rfl) (by simp) (by simp only [Qf,Qsf];rfl)
 exact ⟨_,h,(hpre.trans hp2).gc (qG _) _,hok2.gc _ _⟩
end
def smF (p:Int) (n:Nat) (l:List St):Nat→Int×Nat
 | 0=>(1,0)
 | i+1=>if i+1<(Qh l).length∧wOf l ((Qh l).getD (i+1) 0)=wOf l ((Qh l).getD i 0) then smF p n l i
  else ((smF p n l i).1*spK p (Qy l ((Qh l).take (smF p n l i).2)) (Qy l ((Qh l).take (i+1))) (wOf l ((Qh l).getD i 0)) l n n%p,i+1)
theorem Cw {p:Int} (hp:1<p) (n:Nat) (l:List St):∀i,0≤(smF p n l i).1∧(smF p n l i).1<p
 | 0=>by rw [smF];exact ⟨by omega,hp⟩
 | i+1=>by
  rw [smF]
  split
  ·exact Cw hp n l i
  ·exact ⟨qN _ (by omega),qO _ (by omega)⟩
def smT (p:Int) (n:Int) (l:List St):Int:=(smF p n.toNat l (Qh l).length).1
def smP (n:Int) (l:List St) (p:Int):Prop:=(0≤n∧n≤16)∧Jk l=true∧l.length≤900∧1<p∧p≤2147483647
instance (n:Int) (l:List St) (p:Int):Decidable (smP n l p):=by unfold smP;infer_instance
def DL:List HV→Option HV:=f2 kN kI fun q p=>if smP q.1 q.2 p then some (.int .i64 (smT p q.1 q.2)) else none
def ZE:FuncId→Option (List HV→Option HV):=fun g=>if g==54 then some VR else if g==45 then some SU else none
theorem QhQ (n:Nat):Qo Tp (Qb Tp (plF ZE) n):=QF _ (fun g f h=>by
 unfold ZE at h
 split at h
 ·rename_i hg;cases h;rw [eq_of_beq hg];exact XA
 split at h
 ·rename_i hg;cases h;rw [eq_of_beq hg];exact Qis
 ·cases h) n
theorem QqN:SgF ZE:=⟨by kernel_rfl,by kernel_rfl,by kernel_rfl,by kernel_rfl,by kernel_rfl⟩
theorem Qsg:Try.f44.results.toList=[.tmp 4]:=by kernel_rfl
theorem QhR {H:Heap} {b base r:Nat} {B:Blk} (hb:b<max base r) (h:H[b]?=some B):(gc base r H)[b]?=some B:=by
 unfold gc
 rw [zT (by omega)];exact h
theorem Qb0 (us:List Int):Qm [bU us] [bU us]=true:=by
 simp only [bU,Qm,sameL,same,WU Vn,beq_self_eq_true,qR]
theorem Um (n:Int) (l:List St):Qm [bN n l] [bN n l]=true:=by
 have:=Vo n l
 simp only [bN,Qm,sameL,this,beq_self_eq_true,qR]
theorem S1:QV Tp 44 DL:=by
 refine Qt (pol:=plF ZE) (fn:=Try.f44) (cd:=B44) Qk QhQ (by kernel_rfl) (by kernel_rfl) (ZJ ZE _ _ (by kernel_rfl)) (by kernel_rfl) ?_
 intro args res h
 obtain ⟨⟨n,l⟩,p,rfl,hq⟩:=Ji h
 simp only at hq
 split at hq
 case isFalse=>cases hq
 rename_i hc
 obtain ⟨hn,he,hl,hp⟩:=hc
 cases hq
 have hol:=Sy l
 have hoi:∀k∈Qh l,0≤k∧k<(l.length:Int):=fun k hk=>ordT_mem.1 hk
 have a:=QoG (F:=ZE) 0 n (l.map Qa) p
 have b:=QoH (F:=ZE) 0 n (l.map Qa) p [bN n l]
 obtain ⟨N0,c53⟩:=CallsTo.from (Xv (F:=ZE) (by kernel_rfl) [bN n l] (by show max 0 0≤2;decide))
 have c:=QoI (F:=ZE) N0 n (l.map Qa) p [bN n l] 1 c53
 have c54:=at1 (pol':=plF ZE) (g:=54) (c1:=kN) (f:=fun p=>if p.2.length≤900 then some (.own 1 ((Qh p.2).map Qc)) else none) (H:=[bN n l,bU (Qg 16)]) (by kernel_rfl) (ShN _ n l) (if_pos hl)
 rw [ZY] at c54
 have d:=QoJ (F:=ZE) 0 n (l.map Qa) p [bN n l,bU (Qg 16)] 1 2 (Qh l).length (Vs rfl) c54
 obtain ⟨G,hG⟩:∃G:Heap,G=[bN n l,bU (Qg 16),bI (Qh l)]:=⟨_,rfl⟩
 have e:=QoK (F:=ZE) 0 n (l.map Qa) p G 1 1 2 (Qh l).length
 have hokG:Ok G:=by rw [hG];exact ⟨by show max 0 (max 0 (max 0 0))≤3;decide,QG (Um n l) (QG (Qb0 _) (W1 _))⟩
 have hlab0:Qy l []=Qg 16:=rfl
 obtain ⟨x,E',H',r,rfl,⟨vb,rfl⟩,hok'⟩:=KK (pol':=plF ZE) (f:=44) (b:=sn 500 B44) (c:=sn 250 B44)
  (I:=fun i e H'=>∃vb us,e=(Vz (Qx n l) (.i p) (.q 0) (.i 0) (.i ((smF p n.toNat l i).1)) (.q vb) (.sl 2 0 (Qh l).length none (Qh l).length 1) Ud Ud Ud Ud (.sl 2 0 (Qh l).length none (Qh l).length 1) (.i (((Qh l).length:Nat):Int)) (.i (i:Int)))∧Pre G H'∧Ok H'∧H'[vb]?=some (bU us)∧Up us (Qy l ((Qh l).take (smF p n.toNat l i).2)))
  (Q:=fun x E' H'=>x=.exit 0∧(∃vb,E'=(Vz (Qx n l) (.i p) (.q 0) (.i 0) (.i ((smF p n.toNat l (Qh l).length).1)) (.q vb) (.sl 2 0 (Qh l).length none (Qh l).length 1) Ud Ud Ud Ud (.sl 2 0 (Qh l).length none (Qh l).length 1) (.i (((Qh l).length:Nat):Int)) (.i (((Qh l).length:Nat):Int))))∧Ok H') (Qh l).length
  (by
   rintro i hi e H' ⟨vb,us,rfl,hP,hO,hvb,hU⟩
   have hrg:=Cw hp.1 n.toNat l i
   have hki:=hoi _ (Qw 0 hi)
   have bn:H'[0]?=some (bN n l):=hP.get (by rw [hG];rfl)
   have bo:H'[2]?=some (bI (Qh l)):=hP.get (by rw [hG];rfl)
   have wi:qA.wrap ((i:Int)+1)=((i+1:Nat):Int):=by rw [QU (by omega) (by omega)];omega
   have gk:∀{k:Int},0≤k∧k<(l.length:Int)→ZI Tp 22 (.imm .arg 3 (l.map Qa)) (.int .i64 k)=some (.vptr (Qa (l.getD k.toNat (0,0,0)))):=fun {k} hk=>by
    have:=gs (l:=l) (y:=k.toNat) (by omega)
    rwa [show ((k.toNat:Nat):Int)=k by omega] at this
   have s1:=QoL (F:=ZE) 0 n (l.map Qa) p H' (smF p n.toNat l i).1 vb 2 (Qh l).length i (by omega)
   have s2:=Qg8 (F:=ZE) 0 n (l.map Qa) p H' (smF p n.toNat l i).1 vb 2 (Qh l).length i
   have s3:=QoN (F:=ZE) 0 n (l.map Qa) p H' (smF p n.toNat l i).1 vb 2 (Qh l).length i ((Qh l).getD i 0) (JM u24 z3 hi) (Q3 bo hi)
   have s4:=QoO (F:=ZE) 0 n (l.map Qa) p H' (smF p n.toNat l i).1 vb 2 (Qh l).length i ((Qh l).getD i 0) _ _ _ (Jj bn) (gk hki)
   by_cases c:i+1<(Qh l).length∧wOf l ((Qh l).getD (i+1) 0)=wOf l ((Qh l).getD i 0)
   ·have hk2:=hoi _ (Qw 0 c.1)
    have s5:=QoP (F:=ZE) 0 n (l.map Qa) p H' (smF p n.toNat l i).1 vb 2 (Qh l).length i ((Qh l).getD i 0) (wOf l ((Qh l).getD i 0)) ((Qh l).getD (i+1) 0) _ _ _ (by rw [wi];omega) (Jj bn) (by rw [wi,qB];exact JM u24 z3 c.1) (by rw [wi,qB];exact Q3 bo c.1) (gk hk2) c.2
    have s6:=Qe2 (F:=ZE) 0 n (l.map Qa) p H' (smF p n.toNat l i).1 vb 2 (Qh l).length i (y8:=.i (i:Int)) (y9:=.i ((Qh l).getD i 0)) (y10:=.i (wOf l ((Qh l).getD i 0)))
    rw [wi] at s6
    have e1:smF p n.toNat l (i+1)=smF p n.toNat l i:=by rw [smF,if_pos c]
    refine ⟨_,_,sq (s1) (sq (s2) (sq (bke (c:=sn 4006 B44) (sq (s3) (sq (s4) (sqo (s5) (c:=sn 32051 B44) (b:=sn 64103 B44)) (c:=sn 16025 B44)) (c:=sn 8012 B44))) (s6) (c:=sn 2003 B44)) (c:=sn 1001 B44)) (c:=sn 500 B44),vb,us,?_,?_⟩
    ·rw [e1];kernel_rfl
    ·rw [e1,QI _ rfl];exact ⟨hP,hO,hvb,hU⟩
   ·have hti:∀k∈(Qh l).take (i+1),0≤k∧k<(l.length:Int):=fun k hk=>hoi k (qV hk)
    have htl:((Qh l).take (i+1)).length=i+1:=by rw [qP];omega
    have s5:RT (plF ZE) 44 (sn 64102 B44) ((Vz (Qx n l) (.i p) (.q 0) (.i 0) (.i ((smF p n.toNat l i).1)) (.q vb) (.sl 2 0 (Qh l).length none (Qh l).length 1) (.i (i:Int)) (.i ((Qh l).getD i 0)) (.i (wOf l ((Qh l).getD i 0))) Ud (.sl 2 0 (Qh l).length none (Qh l).length 1) (.i (((Qh l).length:Nat):Int)) (.i (i:Int)))) H' .normal ((Vz (Qx n l) (.i p) (.q 0) (.i 0) (.i ((smF p n.toNat l i).1)) (.q vb) (.sl 2 0 (Qh l).length none (Qh l).length 1) (.i (i:Int)) (.i ((Qh l).getD i 0)) (.i (wOf l ((Qh l).getD i 0))) Ud (.sl 2 0 (Qh l).length none (Qh l).length 1) (.i (((Qh l).length:Nat):Int)) (.i (i:Int)))) H':=by
     by_cases c1:i+1<(Qh l).length
     ·have hk2:=hoi _ (Qw 0 c1)
      exact QoQ (F:=ZE) 0 n (l.map Qa) p H' (smF p n.toNat l i).1 vb 2 (Qh l).length i ((Qh l).getD i 0) (wOf l ((Qh l).getD i 0)) ((Qh l).getD (i+1) 0) _ _ _ (by rw [wi];omega) (Jj bn) (by rw [wi,qB];exact JM u24 z3 c1) (by rw [wi,qB];exact Q3 bo c1) (gk hk2) (fun h=>c ⟨c1,h⟩)
     ·exact QoR (F:=ZE) 0 n (l.map Qa) p H' (smF p n.toNat l i).1 vb 2 (Qh l).length i ((Qh l).getD i 0) (wOf l ((Qh l).getD i 0)) 0 0 0 0 (by rw [wi];omega)
    have jc:=Gg (F:=ZE) (by kernel_rfl) (by kernel_rfl) (by kernel_rfl) (by kernel_rfl) (n:=n) he hti (by omega) hO.mx (cap:=none) bo (o:=Qh l) (fun j hj=>by
     rw [htl] at hj
     exact ⟨by omega,(Yo (by omega)).symm⟩)
    rw [htl] at jc
    obtain ⟨N1,k1⟩:=CallsTo.from jc
    have sl:Jh Tp 24 (.sl 2 0 (Qh l).length none (Qh l).length 1) none (some (.int .i64 ((i+1:Nat):Int))) none=some (.sl 2 0 (i+1) none (Qh l).length 1):=by
     simp only [Jh,J4,u24,z3]
     rw [if_pos (by omega:(0:Int)≤((i+1:Nat):Int))]
     simp only [qB]
     simp
     omega
    have s6:=QoS (F:=ZE) N1 n (l.map Qa) p H' (smF p n.toNat l i).1 vb 2 (Qh l).length i ((Qh l).getD i 0) (wOf l ((Qh l).getD i 0)) _ (H'.length+1) (Vs bn) (by rw [wi,qB];exact sl) (by rw [wi,qB];exact k1)
    have hUp:=JL he hti
    have hO2:Ok (H'++[bN n l,bU (ksT l ((Qh l).take (i+1))).1]):=hO.app (by show max 0 (max 0 0)≤_;omega) (QG (Um n l) (Qb0 _))
    have hab:(H'++[bN n l,bU (ksT l ((Qh l).take (i+1))).1])[H'.length+1]?=some (bU (ksT l ((Qh l).take (i+1))).1):=Qep ..
    obtain ⟨H2,k2,hP2,hO3⟩:=QhP (F:=ZE) (w:=wOf l ((Qh l).getD i 0)) QqN hp hn (by omega) he (WX hvb) hU hab hUp hO2
    obtain ⟨N2,k2⟩:=CallsTo.from k2
    have hlab:(ksT l ((Qh l).take (i+1))).2.1=Qy l ((Qh l).take (i+1)):=rfl
    rw [hlab] at k2
    have hx:=Cv hp.1 (Qy l ((Qh l).take (smF p n.toNat l i).2)) (Qy l ((Qh l).take (i+1))) (wOf l ((Qh l).getD i 0)) l n.toNat n.toNat
    have s7:=QoT (F:=ZE) N2 n (l.map Qa) p (H'++[bN n l,bU (ksT l ((Qh l).take (i+1))).1]) (smF p n.toNat l i).1 vb 2 (Qh l).length i ((Qh l).getD i 0) (wOf l ((Qh l).getD i 0)) _ (H'.length+1) (Vs (WX bn)) k2 (Cq (by omega))
    rw [QcN (by omega) hrg.1 hrg.2 hx.1 hx.2 hp.2] at s7
    have e1:smF p n.toNat l (i+1)=((smF p n.toNat l i).1*spK p (Qy l ((Qh l).take (smF p n.toNat l i).2)) (Qy l ((Qh l).take (i+1))) (wOf l ((Qh l).getD i 0)) l n.toNat n.toNat%p,i+1):=by rw [smF,if_neg c]
    generalize (smF p n.toNat l i).1*spK p (Qy l ((Qh l).take (smF p n.toNat l i).2)) (Qy l ((Qh l).take (i+1))) (wOf l ((Qh l).getD i 0)) l n.toNat n.toNat%p=u' at *
    have s8:=Qe2 (F:=ZE) 0 n (l.map Qa) p H2 u' (H'.length+1) 2 (Qh l).length i (y8:=.i (i:Int)) (y9:=.i ((Qh l).getD i 0)) (y10:=.i (wOf l ((Qh l).getD i 0))) (y11:=.q (H'.length+1))
    rw [wi] at s8
    have hP3:Pre H' H2:=(Pre.app ..).trans hP2
    have key:∀E1,E1=(Vz (Qx n l) (.i p) (.q 0) (.i 0) (.i (u')) (.q (H'.length+1)) (.sl 2 0 (Qh l).length none (Qh l).length 1) Ud Ud Ud Ud (.sl 2 0 (Qh l).length none (Qh l).length 1) (.i (((Qh l).length:Nat):Int)) (.i ((i+1:Nat):Int)))→Pre G (gc H'.length (WY E1) H2)∧Ok (gc H'.length (WY E1) H2)∧(gc H'.length (WY E1) H2)[H'.length+1]?=some (bU (ksT l ((Qh l).take (i+1))).1):=by
     rintro _ rfl
     refine ⟨(hP.trans hP3).gc hP.ln _,hO3.gc _ _,QhR ?_ (hP2.get hab)⟩
     have:H'.length+1<WY ((Vz (Qx n l) (.i p) (.q 0) (.i 0) (.i (u')) (.q (H'.length+1)) (.sl 2 0 (Qh l).length none (Qh l).length 1) Ud Ud Ud Ud (.sl 2 0 (Qh l).length none (Qh l).length 1) (.i (((Qh l).length:Nat):Int)) (.i ((i+1:Nat):Int)))):=by
      simp only [WY,bnd,bndL,Qx]
      omega
     omega
    have el:QP (plF ZE) 44 (sn 500 B44) ((Vz (Qx n l) (.i p) (.q 0) (.i 0) (.i (u')) (.q (H'.length+1)) (.sl 2 0 (Qh l).length none (Qh l).length 1) (.i (i:Int)) (.i ((Qh l).getD i 0)) (.i (wOf l ((Qh l).getD i 0))) (.q (H'.length+1)) (.sl 2 0 (Qh l).length none (Qh l).length 1) (.i (((Qh l).length:Nat):Int)) (.i ((i+1:Nat):Int))))=(Vz (Qx n l) (.i p) (.q 0) (.i 0) (.i (u')) (.q (H'.length+1)) (.sl 2 0 (Qh l).length none (Qh l).length 1) Ud Ud Ud Ud (.sl 2 0 (Qh l).length none (Qh l).length 1) (.i (((Qh l).length:Nat):Int)) (.i ((i+1:Nat):Int))):=by kernel_rfl
    obtain ⟨q1,q2,q3⟩:=key _ el
    refine ⟨_,_,sq (s1) (sq (s2) (sq (RunsTo.block_normal (i:=1) (c:=sn 4006 B44) (sq (s3) (sq (s4) (sq (s5) (sq (s6) (s7) (c:=sn 64103 B44)) (c:=sn 32051 B44)) (c:=sn 16025 B44)) (c:=sn 8012 B44)) (by kernel_rfl)) (s8) (c:=sn 2003 B44)) (c:=sn 1001 B44)) (c:=sn 500 B44),H'.length+1,_,?_,q1,q2,q3,?_⟩
    ·rw [e1];exact el
    ·rw [e1];exact hUp)
  (by
   rintro e H' ⟨vb,us,rfl,hP,hO,hvb,hU⟩
   have t1:=QoM (F:=ZE) 0 n (l.map Qa) p H' (smF p n.toNat l (Qh l).length).1 vb 2 (Qh l).length (Qh l).length (by omega)
   have t2:=Qg9 (F:=ZE) 0 n (l.map Qa) p H' (smF p n.toNat l (Qh l).length).1 vb 2 (Qh l).length (Qh l).length
   exact ⟨_,_,_,sq (t1) (sqo (t2) (c:=sn 1001 B44) (b:=sn 2003 B44)) (c:=sn 500 B44),by simp,rfl,⟨vb,rfl⟩,hO⟩)
  (by kernel_rfl) (by rintro k e H' ⟨vb,us,rfl,_⟩;kernel_rfl) (e:=(Vz (Qx n l) (.i p) (.q 0) (.i 0) (.i (1)) (.q 1) (.sl 2 0 (Qh l).length none (Qh l).length 1) Ud Ud Ud Ud (.sl 2 0 (Qh l).length none (Qh l).length 1) (.i (((Qh l).length:Nat):Int)) (.i (0:Int)))) (H:=G) ⟨1,Qg 16,rfl,Pre.refl G,hokG,by rw [hG];rfl,by rw [smF];exact Up.start⟩
 have z:=QoU (F:=ZE) 0 n (l.map Qa) p H' (smF p n.toNat l (Qh l).length).1 vb 2 (Qh l).length (y16:=(.sl 2 0 (Qh l).length none (Qh l).length 1)) (y17:=.i ((Qh l).length:Int)) (y18:=.i ((Qh l).length:Int))
 rw [hG] at e r
 refine ⟨_,_,_,.int .i64 (smF p n.toNat l (Qh l).length).1,sq (a) (sq (b) (sq (c) (sq (d) (sq (sq (e) (bke (c:=sn 125 B44) (r)) (c:=sn 62 B44)) (z) (c:=sn 31 B44)) (c:=sn 15 B44)) (c:=sn 7 B44)) (c:=sn 3 B44)) (c:=B44),by simp,by simp only [Qf,Qsg];rfl,?_⟩
 rfl
end Go.Proofs.Ytiejmoglooaalaa
end
section
open Go Go.HL
namespace Go.Proofs.Ytiejmoglooaalaa
set_option maxRecDepth 100000
set_option linter.unusedSectionVars false
open Go.Proofs.Try renaming prog → Tp
open Go.HL.HV renaming undef → Ud
section
variable {F:FuncId→Option (List HV→Option HV)}
noncomputable def B81:Code:=Try.f81.body.getD .skip
abbrev Qiv (v0 v1 v4:HV):Env:=[(0,v0),(1,v1),(4,v4)]
theorem QqO (x y:Int) (H:Heap) {H0:Heap} (g0:CM F 89 [.i x] H (.bool false) H0) (g1:x<y): RU F 81 1 B81 [(0,.i x),(1,.i y)] H .ret (Qiv (.i x) (.i y) (.bool true)) H0 :=
 hx 0 60 [jD 1 1 g0,jT 1 10 H0 g1]
theorem QqP (x y:Int) (H:Heap) {H0:Heap} (g0:CM F 89 [.i x] H (.bool false) H0) (g1:¬(x<y)): RU F 81 1 B81 [(0,.i x),(1,.i y)] H .ret (Qiv (.i x) (.i y) (.bool false)) H0 :=
 hx 0 60 [jD 1 1 g0,jF 1 10 H0 g1]
noncomputable def B75:Code:=Try.f75.body.getD .skip
abbrev Xe (v0 v1 v2 v6 v7:HV):Env:=[(0,v0),(1,v1),(2,v2),(6,v6),(7,v7)]
end
abbrev e75 (db:Nat) (n:Nat) (i:Nat) (u4:HV):Env:=Xe (.s db n) (.i 0) (.n n) (.n i) u4
section
variable {F:FuncId→Option (List HV→Option HV)}
variable (db n:Nat) (H:Heap)
include db n H
theorem QqQ:RU F 75 2 B75 [(0,.s db n),(1,.i 0),(2,.n n)] H .normal (Xe (.s db n) (.i 0) (.n n) (.i 1) Ud) H :=
 hx 0 60 []
end
section
variable {F:FuncId→Option (List HV→Option HV)}
variable (db n:Nat) (H:Heap)
include db n H
theorem QqR (i:Nat) (g0:(i:Int)<(n:Int)) (y7:HV:=Ud): RU F 75 24 B75 (e75 db n i y7) H .normal (e75 db n i y7) H :=
 hx 0 60 [jT 1 2 H g0]
theorem Qfn (i:Nat) (g0:¬((i:Int)<(n:Int))) (y7:HV:=Ud): RU F 75 24 B75 (e75 db n i y7) H (.exit 0) (e75 db n i y7) H :=
 hx 0 60 [jF 1 2 H g0]
theorem QqS (i:Nat) (y7:HV:=Ud): RU F 75 200 B75 (e75 db n i y7) H .normal (e75 db n i (.n i)) H :=
 hx 0 60 []
theorem QqT (i j:Nat) (x y:Int) {H0:Heap} {H1:Heap} {H2:Heap} (g0:0<(j:Int)) (g1:IS 24 db n j) (g2:LD H 3 (.ptr db j 0 n) (.i x)) (g3:IX 24 (.s db n) (.i (qA.wrap ((j:Int)-1))) (.ptr db ((qA.wrap ((j:Int)-1)).toNat) 0 n)) (g4:LD H 3 (.ptr db ((qA.wrap ((j:Int)-1)).toNat) 0 n) (.i y)) (g5:CM F 81 [.i x,.i y] H (.bool true) H0) (g6:IX 24 (.s db n) (.i (qA.wrap ((j:Int)-1))) (.ptr db ((qA.wrap ((j:Int)-1)).toNat) 0 n)) (g7:LD H0 3 (.ptr db ((qA.wrap ((j:Int)-1)).toNat) 0 n) (.i y)) (g8:IS 24 db n j) (g9:LD H0 3 (.ptr db j 0 n) (.i x)) (g10:IS 24 db n j) (g11:ST H0 3 (.ptr db j 0 n) (.i y) H1) (g12:IX 24 (.s db n) (.i (qA.wrap ((j:Int)-1))) (.ptr db ((qA.wrap ((j:Int)-1)).toNat) 0 n)) (g13:ST H1 3 (.ptr db ((qA.wrap ((j:Int)-1)).toNat) 0 n) (.i x) H2): RU F 75 804 B75 (e75 db n i (.n j)) H .normal (e75 db n i (.i (qA.wrap ((j:Int)-1)))) H2 :=
 hx 0 60 [jT 4 2 H g0,jO 4 6 H g1,jO 4 7 H g2,jO 4 11 H g3,jO 4 12 H g4,jD 4 13 g5,jO 6 8 H0 g6,jO 6 9 H0 g7,jO 6 12 H0 g8,jO 6 13 H0 g9,jO 6 14 H0 g10,jS 6 15 g11,jO 6 16 H1 g12,jS 6 17 g13]
theorem QqU (i j:Nat) (x y:Int) {H0:Heap} (g0:0<(j:Int)) (g1:IS 24 db n j) (g2:LD H 3 (.ptr db j 0 n) (.i x)) (g3:IX 24 (.s db n) (.i (qA.wrap ((j:Int)-1))) (.ptr db ((qA.wrap ((j:Int)-1)).toNat) 0 n)) (g4:LD H 3 (.ptr db ((qA.wrap ((j:Int)-1)).toNat) 0 n) (.i y)) (g5:CM F 81 [.i x,.i y] H (.bool false) H0): RU F 75 804 B75 (e75 db n i (.n j)) H (.exit 2) (e75 db n i (.n j)) H0 :=
 hx 0 60 [jT 4 2 H g0,jO 4 6 H g1,jO 4 7 H g2,jO 4 11 H g3,jO 4 12 H g4,jD 4 13 g5]
theorem QqV (i j:Nat) (x y:Int) (g0:¬(0<(j:Int))): RU F 75 804 B75 (e75 db n i (.n j)) H (.exit 2) (e75 db n i (.n j)) H :=
 hx 0 60 [jF 4 2 H g0]
theorem QqW (i:Nat) (y7:HV:=Ud): RU F 75 51 B75 (e75 db n i y7) H .normal (Xe (.s db n) (.i 0) (.n n) (.i (qA.wrap ((i:Int)+1))) y7) H :=
 hx 0 60 []
end
section
variable {F:FuncId→Option (List HV→Option HV)}
noncomputable def B62:Code:=Try.f62.body.getD .skip
abbrev Qsh (v0 v1 v2 v3 v8 v9 v10 v11 v12 v13 v14 v15 v16 v17 v18:HV):Env:=[(0,v0),(1,v1),(2,v2),(3,v3),(8,v8),(9,v9),(10,v10),(11,v11),(12,v12),(13,v13),(14,v14),(15,v15),(16,v16),(17,v17),(18,v18)]
end
abbrev e62 (db:Nat) (n:Nat) (m:Int) (u5 u6 u7 u8 u9 u10 u11 u12 u13 u14:HV):Env:=Qsh (.s db n) (.i 0) (.n n) (.i m) (.bool true) u5 u6 u7 u8 u9 u10 u11 u12 u13 u14
section
variable {F:FuncId→Option (List HV→Option HV)}
variable (N:Nat) (db n:Nat) (m:Int) (H:Heap)
include N db n m H
theorem QqX:RU F 62 2 B62 [(0,.s db n),(1,.i 0),(2,.n n),(3,.i m)] H .normal (e62 db n m Ud Ud Ud Ud Ud Ud Ud Ud Ud Ud) H :=
 hx N 60 []
end
section
variable {F:FuncId→Option (List HV→Option HV)}
variable (N:Nat) (db n:Nat) (m:Int) (H:Heap)
include N db n m H
theorem QqY (y9 y10 y11 y12 y13 y14 y15 y16 y17 y18:HV:=Ud): RU F 62 6 B62 (e62 db n m y9 y10 y11 y12 y13 y14 y15 y16 y17 y18) H .normal (e62 db n m (.bool true) y10 y11 y12 y13 y14 y15 y16 y17 y18) H :=
 hx N 60 []
theorem QqZ (y10 y11 y12 y13 y14 y15 y16 y17 y18:HV:=Ud): RU F 62 112 B62 (e62 db n m (.bool true) y10 y11 y12 y13 y14 y15 y16 y17 y18) H .normal (e62 db n m (.bool true) (.i (qA.wrap ((n:Int)-0))) y11 y12 y13 y14 y15 y16 y17 y18) H :=
 hx N 60 []
theorem Qq0 {H0:Heap} (g0:(n:Int)≤12) (g1:CN F N 75 [.s db n,.i 0,.n n] H (.tuple []) H0) (y11 y12 y13 y14 y15 y16 y17 y18:HV:=Ud): RU F 62 226 B62 (e62 db n m (.bool true) (.n n) y11 y12 y13 y14 y15 y16 y17 y18) H .ret (e62 db n m (.bool true) (.n n) y11 y12 y13 y14 y15 y16 y17 y18) H0 :=
 hx N 60 [jT 3 1 H g0,jC 4 3 g1]
end
section
variable {F:FuncId→Option (List HV→Option HV)}
noncomputable def B41:Code:=Try.f41.body.getD .skip
abbrev Qsi (v0 v2:HV):Env:=[(0,v0),(2,v2)]
theorem Qq1 (N:Nat) (db n:Nat) (m:Int) (H:Heap) {H0:Heap} {H1:Heap} (g0:CM F 63 [.int .u64 (IntKind.u64.wrap (n:Int))] H (.i m) H0) (g1:CN F N 62 [.s db n,.i 0,.n n,.i m] H0 (.tuple []) H1): RU F 41 1 B41 [(0,.s db n)] H .normal (Qsi (.s db n) (.n n)) H1 :=
 hx N 60 [jD 1 4 g0,jC 1 5 g1]
end
end Go.Proofs.Ytiejmoglooaalaa
end
section
open Go Go.HL Go.HL.So
namespace Go.Proofs.Ytiejmoglooaalaa
set_option linter.unusedSectionVars false
open Go.Proofs.Try renaming prog → Tp
open Go.HL.HV renaming undef → Ud
def Kc:List HV→Option HV | [.int .i64 x,.int .i64 y]=>some (.bool (decide (x<y))) | _=>none
theorem Qiw:Try.f81.results.toList=[.tmp 4]:=by kernel_rfl
def QcR:FuncId→Option (List HV→Option HV):=fun g=>if g==89 then some Qbu else none
theorem QhS (n:Nat):Qo Tp (Qb Tp (plF QcR) n):=QF _ (fun g f h=>by
 unfold QcR at h
 split at h
 ·rename_i hg;cases h;rw [eq_of_beq hg];exact QdZ
 ·cases h) n
theorem QhT:QV Tp 81 Kc:=by
 refine Qt (pol:=plF QcR) (fn:=Try.f81) (cd:=B81) Qk QhS (by kernel_rfl) (by kernel_rfl) (ZJ QcR _ _ (by kernel_rfl)) (by kernel_rfl) ?_
 intro args res h
 unfold Kc at h
 split at h
 ·rename_i x y
  cases h
  have q:∀kf,Qb Tp (plF QcR) (kf+1) 89 [.int .i64 x] []=some (.bool false,[]):=fun kf=>by
   rw [WS (pol:=plF QcR) (g:=89) (F:=Qbu) (by kernel_rfl) (rs:=[.int .i64 x]) rfl (res:=.bool false) rfl];rfl
  by_cases c:x<y
  ·rw [decide_eq_true c]
   exact ⟨_,_,_,.bool true,QqO x y [] q c,by simp,by simp only [Qf,Qiw];rfl,rfl⟩
  ·rw [decide_eq_false c]
   exact ⟨_,_,_,.bool false,QqP x y [] q c,by simp,by simp only [Qf,Qiw];rfl,rfl⟩
 ·cases h
theorem Cx:Lin (fun a b:Int=>a<b):=⟨fun x y z (h1:¬y<x) (h2:¬z<y)=>show ¬z<x by omega,fun x y (h:x<y)=>show ¬y<x by omega⟩
abbrev ltI:Int→Int→Prop:=fun a b=>a<b
section
variable {F:FuncId→Option (List HV→Option HV)} {H:Heap} {db n:Nat} (hd:db<H.length)
include hd
theorem Qb1 (h81:F 81=some Kc) (x y:Int) (H:Heap):∀kf,Qb Tp (plF F) (kf+1) 81 [.int .i64 x,.int .i64 y] H=some (.bool (decide (x<y)),H):=fun kf=>by
 rw [WS (pol:=plF F) (g:=81) (F:=Kc) h81 (rs:=[.int .i64 x,.int .i64 y]) rfl (res:=.bool (decide (x<y))) rfl];rfl
theorem Qsj (h81:F 81=some Kc) {i:Nat} (hi:i<n) (hn:n≤1000):∀(j:Nat) (l:List Int),l.length=n→j≤i→Sv ltI 0 (i+1) j l →
  ∃y l',RT (plF F) 75 (sn 402 B75) (Xe (.s db n) (.i 0) (.i (n:Int)) (.i (i:Int)) (.i (j:Int))) (H.set db (bI l)) (.exit 2) (Xe (.s db n) (.i 0) (.i (n:Int)) (.i (i:Int)) y) (H.set db (bI l'))∧Sw 0 (i+1) l l'∧QN ltI 0 (i+1) l':=by
 intro j
 induction j with
 | zero =>
  intro l hl hj hS
  exact ⟨_,l,lpo (QqV (F:=F) db n (H.set db (bI l)) i 0 0 0 (by omega)),.refl,JK Cx hS (.inl (jJ _))⟩
 | succ j ih =>
  intro l hl hj hS
  have hb:(H.set db (bI l))[db]?=some (bI l):=zH hd
  have e1:qA.wrap (((j+1:Nat):Int)-1)=(j:Int):=by simp only [WA];omega
  have e2:(qA.wrap (((j+1:Nat):Int)-1)).toNat=j:=by rw [e1];omega
  have i1:=JM (b:=db) (cap:=none) u24 z3 (show j+1<n by omega)
  have i2:=JM (b:=db) (cap:=none) u24 z3 (show j<n by omega)
  have l1:=Q3 hb (y:=j+1) (by omega)
  have l2:=Q3 hb (y:=j) (by omega)
  rw [hl] at l1 l2
  rw [← e1] at i2
  by_cases c:l.getD (j+1) 0<l.getD j 0
  ·have s1:=Zl hb (y:=j+1) (by omega) (l.getD j 0)
   rw [hl,List.set_set] at s1
   have hb2:(H.set db (bI (l.set (j+1) (l.getD j 0))))[db]?=some (bI (l.set (j+1) (l.getD j 0))):=zH hd
   have s2:=Zl hb2 (y:=j) (by simp;omega) (l.getD (j+1) 0)
   rw [jU,hl,List.set_set] at s2
   have lt:=Qb1 hd h81 (l.getD (j+1) 0) (l.getD j 0) (H.set db (bI l))
   rw [decide_eq_true c] at lt
   have st:=QqT (F:=F) db n (H.set db (bI l)) i (j+1) (l.getD (j+1) 0) (l.getD j 0) (by omega) i1 l1 (by rw [e2];exact i2) (by rw [e2];exact l2) lt (by rw [e2];exact i2) (by rw [e2];exact l2) i1 l1 i1 s1 (by rw [e2];exact i2) (by rw [e2];exact s2)
   rw [e1] at st
   have sw:Sw 0 (i+1) l (swp l (j+1) j):=Sw.one (by omega) (by omega) (by omega) (by omega)
   obtain ⟨y,l',r,q1,q2⟩:=ih (swp l (j+1) j) (by rw [Go.HL.So.swp_len];exact hl) (by omega) (Yl Cx (j:=j+1) (by omega) (by omega) (by omega) hS c)
   exact ⟨y,l',lop (st) (QI _ (by simp)) (r),sw.trans q1,q2⟩
  ·have lt:=Qb1 hd h81 (l.getD (j+1) 0) (l.getD j 0) (H.set db (bI l))
   rw [decide_eq_false c] at lt
   have st:=QqU (F:=F) db n (H.set db (bI l)) i (j+1) (l.getD (j+1) 0) (l.getD j 0) (by omega) i1 l1 (by rw [e2];exact i2) (by rw [e2];exact l2) lt
   exact ⟨_,l,lpo (st),.refl,JK Cx hS (.inr c)⟩
theorem Qq2 (h81:F 81=some Kc) (hn:n≤1000):∀(d i:Nat) (l:List Int),i+d=n→l.length=n→QN ltI 0 i l →
  ∃l',RT (plF F) 75 (sn 6 B75) (Xe (.s db n) (.i 0) (.i (n:Int)) (.i (i:Int)) Ud) (H.set db (bI l)) (.exit 0) (Xe (.s db n) (.i 0) (.i (n:Int)) (.i (n:Int)) Ud) (H.set db (bI l'))∧Sw 0 n l l'∧QN ltI 0 n l':=by
 intro d
 induction d with
 | zero =>
  intro i l hi hl hS
  have:i=n:=by omega
  subst this
  exact ⟨l,lpo (sqo (Qfn (F:=F) db i (H.set db (bI l)) i (by omega)) (c:=sn 12 B75) (b:=sn 25 B75)),.refl,hS⟩
 | succ d ih =>
  intro i l hi hl hS
  obtain ⟨y,l1,r1,q1,q2⟩:=Qsj hd h81 (i:=i) (by omega) hn i l hl (qG _) (Xw hS)
  have r1':=lpi (e0:=(Xe (.s db n) (.i 0) (.i (n:Int)) (.i (i:Int)) (.i (i:Int)))) r1 (b:=sn 804 B75)
  have st:=sq (QqR (F:=F) db n (H.set db (bI l)) i (by omega)) (sq (RunsTo.block_normal (i:=1) (c:=sn 50 B75) (sq (QqS (F:=F) db n (H.set db (bI l)) i) (bke (c:=sn 201 B75) (r1')) (c:=sn 100 B75)) (by kernel_rfl)) (QqW (F:=F) db n (H.set db (bI l1)) i (y7:=y)) (c:=sn 25 B75)) (c:=sn 12 B75)
  rw [Qj (by omega)] at st
  obtain ⟨l',r,q3,q4⟩:=ih (i+1) l1 (by omega) (q1.len.trans hl) q2
  exact ⟨l',lop (st) (QI _ (by simp)) (r),(q1.mono (qG _) (by omega)).trans q3,q4⟩
theorem Qfo (h81:F 81=some Kc) (h75:F 75=none) (hn:n≤1000) {l:List Int} (hl:l.length=n) :
  ∃l',ClF F 75 [.sl db 0 n none n 1,.int .i64 0,.int .i64 (n:Int)] (H.set db (bI l)) (.tuple []) (H.set db (bI l'))∧l'.Perm l∧QN ltI 0 n l':=by
 have key:∃z l',RT (plF F) 75 (sn 6 B75) (Xe (.s db n) (.i 0) (.i (n:Int)) (.i (1:Int)) Ud) (H.set db (bI l)) (.exit 0) (Xe (.s db n) (.i 0) (.i (n:Int)) z Ud) (H.set db (bI l'))∧Sw 0 n l l'∧QN ltI 0 n l':=by
  by_cases c:1≤n
  ·obtain ⟨l',r,q⟩:=Qq2 hd h81 hn (n-1) 1 l (by omega) hl (fun p q h1 h2 h3=>by omega)
   exact ⟨_,l',r,q⟩
  ·exact ⟨_,l,lpo (sqo (Qfn (F:=F) db n (H.set db (bI l)) 1 (by omega)) (c:=sn 12 B75) (b:=sn 25 B75)),.refl,fun p q h1 h2 h3=>by omega⟩
 obtain ⟨z,l',r,q1,q2⟩:=key
 have a:=QqQ (F:=F) db n (H.set db (bI l))
 have hc:=CallsTo.shared (P:=Tp) (pol:=plF F) (g:=75) (fn:=Try.f75) (cd:=B75) (args:=[.sl db 0 n none n 1,.int .i64 0,.int .i64 (n:Int)]) (v:=.tuple []) h75 (by kernel_rfl) (by kernel_rfl) (by kernel_rfl) (sq (a) (bke (c:=sn 3 B75) (r)) (c:=B75)) (by kernel_rfl) (by simp) (by kernel_rfl)
 rw [QI _ (by simp)] at hc
 exact ⟨l',hc,q1.perm (by omega),q2⟩
theorem Qfp (h81:F 81=some Kc) (h75:F 75=none) (h62:F 62=none) (hn:n≤12) {l:List Int} (hl:l.length=n) (m:Int) :
  ∃l',ClF F 62 [.sl db 0 n none n 1,.int .i64 0,.int .i64 (n:Int),.int .i64 m] (H.set db (bI l)) (.tuple []) (H.set db (bI l'))∧l'.Perm l∧QN ltI 0 n l':=by
 obtain ⟨l',hc,q⟩:=Qfo hd h81 h75 (by omega) hl
 obtain ⟨N,hN⟩:=CallsTo.from hc
 have a:=QqX (F:=F) 0 db n m (H.set db (bI l))
 have b:=QqY (F:=F) 0 db n m (H.set db (bI l))
 have c:=QqZ (F:=F) 0 db n m (H.set db (bI l))
 have d:=Qq0 (F:=F) N db n m (H.set db (bI l)) (by omega) hN
 have hw:qA.wrap ((n:Int)-0)=(n:Int):=Qs (by omega) (by omega)
 first | rw [hw] at c | skip
 have lp:=lpo (RunsTo.block_ret (i:=1) (c:=sn 28 B62) (sq (c) (sqo (d) (c:=sn 113 B62) (b:=sn 227 B62)) (c:=sn 56 B62)) (by kernel_rfl)) (c:=sn 14 B62)
 have hc2:=CallsTo.shared (P:=Tp) (pol:=plF F) (g:=62) (fn:=Try.f62) (cd:=B62) (args:=[.sl db 0 n none n 1,.int .i64 0,.int .i64 (n:Int),.int .i64 m]) (v:=.tuple []) h62 (by kernel_rfl) (by kernel_rfl) (by kernel_rfl) (sq (a) (sq (b) (RunsTo.block_ret (i:=0) (c:=sn 7 B62) (lp) (by kernel_rfl)) (c:=sn 3 B62)) (c:=B62)) (by kernel_rfl) (by simp) (by kernel_rfl)
 rw [QI _ (by simp)] at hc2
 exact ⟨l',hc2,q⟩
end
structure StF (F:FuncId→Option (List HV→Option HV)):Prop where
 h81:F 81=some Kc
 h63:F 63=some Jm
 h75:F 75=none
 h62:F 62=none
 h41:F 41=none
theorem QcS {H:Heap} {b:Nat} {B:Blk} (h:H[b]?=some B):H.set b B=H:=by
 apply List.ext_getElem?
 intro i
 by_cases e:b=i
 ·subst e;rw [zH (Qi h),h]
 ·rw [List.getElem?_set_ne e]
theorem QcT {F:FuncId→Option (List HV→Option HV)} (hF:StF F) {H:Heap} {db:Nat} {l:List Int} (hb:H[db]?=some (bI l)) (hn:l.length≤12) :
  ∃l',ClF F 41 [.sl db 0 l.length none l.length 1] H (.tuple []) (H.set db (bI l'))∧l'.Perm l∧∀i j,i<j→j<l'.length→l'.getD i 0≤l'.getD j 0:=by
 obtain ⟨h81,h63,h75,h62,h41⟩:=hF
 have hd:=Qi hb
 obtain ⟨l',hc,q1,q2⟩:=Qfp (F:=F) hd h81 h75 h62 hn (l:=l) rfl (Zy l.length:Int)
 rw [QcS hb] at hc
 obtain ⟨N,hN⟩:=CallsTo.from hc
 have hu:IntKind.u64.wrap (l.length:Int)=(l.length:Int):=by rw [Jr];omega
 have t:=Qq1 (F:=F) N db l.length (Zy l.length:Int) H (H0:=H) (fun kf=>by
  rw [hu,WS (pol:=plF F) (g:=63) (F:=Jm) h63 (rs:=[.int .u64 (l.length:Int)]) rfl (res:=.int .i64 (Zy l.length:Int)) (by simp only [Jm];rw [if_pos (by omega),qB])];rfl) hN
 have hc2:=CallsTo.shared (P:=Tp) (pol:=plF F) (g:=41) (fn:=Try.f41) (cd:=B41) (args:=[.sl db 0 l.length none l.length 1]) (v:=.tuple []) h41 (by kernel_rfl) (by kernel_rfl) (by kernel_rfl) t (by kernel_rfl) (by simp) (by kernel_rfl)
 rw [QI _ (by simp)] at hc2
 refine ⟨l',hc2,q1,fun i j hij hj=>?_⟩
 have:=q2 i j (jJ _) hij (by rw [← q1.length_eq];exact hj)
 exact Int.not_lt.1 this
theorem Qb2:∀{a b:List Int},a.Pairwise (· < ·)→b.Pairwise (· < ·)→(∀x,x∈a↔x∈b)→a=b
 | [],b,_,_,h=>by
  have:b=[]:=List.eq_nil_iff_forall_not_mem.2 fun x hx=>by cases (h x).2 hx
  rw [this]
 | x::a,[],_,_,h=>by cases (h x).1 (qK ..)
 | x::a,y::b,ha,hb,h=>by
  obtain ⟨a1,a2⟩:=List.pairwise_cons.1 ha
  obtain ⟨b1,b2⟩:=List.pairwise_cons.1 hb
  have e:x=y:=by
   rcases List.mem_cons.1 ((h x).1 (qK ..)) with c | c
   ·exact c
   ·rcases List.mem_cons.1 ((h y).2 (qK ..)) with d | d
    ·exact d.symm
    ·have:=a1 _ d
     have:=b1 _ c
     omega
  subst e
  refine congrArg (x::·) (Qb2 a2 b2 fun z=>?_)
  constructor
  ·intro hz
   rcases List.mem_cons.1 ((h z).1 (qL _ hz)) with c | c
   ·have:=a1 _ hz;omega
   ·exact c
  ·intro hz
   rcases List.mem_cons.1 ((h z).2 (qL _ hz)) with c | c
   ·have:=b1 _ hz;omega
   ·exact c
theorem Qfq {l l':List Int} (hn:l.Nodup) (hp:l'.Perm l) (hs:∀i j,i<j→j<l'.length→l'.getD i 0≤l'.getD j 0):l'.Pairwise (· < ·):=by
 have hn':l'.Nodup:=hp.nodup_iff.2 hn
 refine List.pairwise_iff_getElem.2 fun i j hi hj hij=>?_
 have h1:=hs i j hij hj
 rw [QA hi,QA hj] at h1
 have h2:=List.pairwise_iff_getElem.1 hn' i j hi hj hij
 omega
end Go.Proofs.Ytiejmoglooaalaa
end
section
open Go Go.HL
namespace Go.Proofs.Ytiejmoglooaalaa
set_option linter.unusedSectionVars false
open Go.Proofs.Try renaming prog → Tp
open Go.HL.HV renaming undef → Ud
def trG (n:Int) (l:List St):List Int:=if slE n l=0 then frT l else []
def trW (n:Int) (l:List St):Int:=if slE n l=0 then wgt l (frT l) else 0
def Qfr:List HV→Option HV:=f2 kI kS fun n l=>if l.length≤500∧n≤13 then some (.tuple [.own 1 ((trG n l).map Qc),.int .i64 (trW n l),.int .i64 (slE n l)]) else none
theorem Qfs:Try.f14.results.toList=[.tmp 4,.tmp 5,.tmp 6]:=by kernel_rfl
def K4:FuncId→Option (List HV→Option HV):=fun g=>if g==52 then some Zx else if g==40 then some Dd else if g==42 then some Sq else if g==81 then some Kc else if g==63 then some Jm else none
theorem QhU (n:Nat):Qo Tp (Qb Tp (plF K4) n):=QF _ (fun g f h=>by
 unfold K4 at h
 split at h
 ·rename_i hg;cases h;rw [eq_of_beq hg];exact VQ
 split at h
 ·rename_i hg;cases h;rw [eq_of_beq hg];exact Ub
 split at h
 ·rename_i hg;cases h;rw [eq_of_beq hg];exact Qcz
 split at h
 ·rename_i hg;cases h;rw [eq_of_beq hg];exact QhT
 split at h
 ·rename_i hg;cases h;rw [eq_of_beq hg];exact U8
 ·cases h) n
theorem Qq3:NwF K4:=⟨by kernel_rfl,by kernel_rfl,by kernel_rfl,by kernel_rfl,by kernel_rfl⟩
theorem Qq4:StF K4:=⟨by kernel_rfl,by kernel_rfl,by kernel_rfl,by kernel_rfl,by kernel_rfl⟩
theorem S2 (H:Heap) (w e:Int):Wv H false (.tuple [.imm .lit 1 [],.int .i64 w,.int .i64 e])=some (.tuple [.own 1 [],.int .i64 w,.int .i64 e]):=by
 simp [Wv,QD,cellsOf,W5,WP,Wd,mapO];rfl
theorem Qft:QV Tp 14 Qfr:=by
 refine Qt (pol:=plF K4) (fn:=Try.f14) (cd:=B14) Qk QhU (by kernel_rfl) (by kernel_rfl) (ZJ K4 _ _ (by kernel_rfl)) (by kernel_rfl) ?_
 intro args res h
 obtain ⟨n,l,rfl,hq⟩:=Ji h
 split at hq
 case isFalse=>cases hq
 rename_i hl
 obtain ⟨hl,hn⟩:=hl
 cases hq
 have a:=Qp1 (F:=K4) 0 n (l.map Qa)
 obtain ⟨N0,c39⟩:=CallsTo.from (G5 Qq3 (H:=[]) (qG _) n (l:=l) (by omega))
 cases hnet:WC n l with
 | false =>
  rw [hnet] at c39
  have b:=Qp3 (F:=K4) N0 n (l.map Qa) c39 rfl stN
  have c:=Qhl (F:=K4) 0 n (l.map Qa) [bN n l]
  refine ⟨_,_,_,.tuple [.imm .lit 1 [],.int .i64 0,.int .i64 2],sq (a) (sq (b) (sqo (c) (c:=sn 7 B14) (b:=sn 15 B14)) (c:=sn 3 B14)) (c:=B14),by simp,by simp only [Qf,Qfs];rfl,?_⟩
  have e:slE n l=2:=by rw [slE,if_neg (by rw [hnet];simp)]
  rw [trG,trW,e,if_neg (by decide),if_neg (by decide)];exact S2 _ _ _
 | true =>
  rw [hnet] at c39
  obtain ⟨⟨n1,n2⟩,n3,he,hw⟩:=QT hnet
  have heB:=XB he (by omega)
  have hwB:wB l=true:=wB_iff.2 fun s hs=>by have:=hw s hs;omega
  have b:=Qp2 (F:=K4) N0 n (l.map Qa) c39 rfl stN
  have c:=Qhk (F:=K4) 0 n (l.map Qa) [bN n l]
  have c40:=at1 (pol':=plF K4) (g:=40) (c1:=kN) (f:=fun p=>if SB p.1 p.2 then some (.tuple [.own 1 ((Qd p.2).map Qc),.bool (Wk p.1 p.2)]) else none) (H:=[bN n l]) (by kernel_rfl) (ShN _ n l) (if_pos ⟨heB,by show l.length≤900;omega,by show 0≤n;omega,by show n≤1000;omega⟩)
  rw [G4] at c40
  simp only at c40
  by_cases cn:Wk n l=true
  ·rw [cn] at c40
   have d:=Qp4 (F:=K4) 0 n (l.map Qa) [bN n l] 1 (Qd l).length (Vs rfl) c40
   have e:=Qhm (F:=K4) 0 n (l.map Qa) ([bN n l]++[bI (Qd l)]) 1 (Qd l).length
   have hlen:=SL hnet cn
   obtain ⟨l',cs,hp,hs⟩:=QcT Qq4 (H:=[bN n l]++[bI (Qd l)]) (db:=1) (l:=Qd l) rfl (by omega)
   have e1:l'=frT l:=Qb2 (Qfq (ZF l) hp hs) (Ca l) fun x=>by rw [hp.mem_iff];exact frT_mem.symm
   subst e1
   obtain ⟨N1,c41⟩:=CallsTo.from cs
   have hfl:(frT l).length=(Qd l).length:=Qes l
   have c42:=at2 (pol':=plF K4) (g:=42) (c1:=kN) (c2:=kL) (f:=fun p t=>if inR p.2.length t=true∧wB p.2=true∧t.length≤1000 then some (.int .i64 (wgt p.2 t)) else none) (H:=[bN n l,bI (frT l)]) (v2:=.sl 1 0 (Qd l).length none (Qd l).length 1) (by kernel_rfl) (ShN _ n l) (Xu (l:=frT l) hfl rfl) (if_pos ⟨inR_iff.2 fun k hk=>ZA (frT_mem.1 hk),hwB,by show (frT l).length≤1000;omega⟩)
   have z:=Qp6 (F:=K4) N1 n (l.map Qa) ([bN n l]++[bI (Qd l)]) 1 (Qd l).length (wgt l (frT l)) c41 (Vs rfl) c42
   refine ⟨_,_,_,.tuple [.sl 1 0 (Qd l).length none (Qd l).length 1,.int .i64 (wgt l (frT l)),.int .i64 0],sq (a) (sq (b) (sq (c) (sq (d) (sq (e) (z) (c:=sn 31 B14)) (c:=sn 15 B14)) (c:=sn 7 B14)) (c:=sn 3 B14)) (c:=B14),by simp,by simp only [Qf,Qfs];rfl,?_⟩
   have ee:slE n l=0:=by rw [slE,if_pos hnet,if_pos cn]
   rw [trG,trW,ee,if_pos rfl,if_pos rfl]
   exact QgE (b:=1) rfl hfl _ _
  ·rw [U1 cn] at c40
   have d:=Qp5 (F:=K4) 0 n (l.map Qa) [bN n l] 1 (Qd l).length (Vs rfl) c40
   have e:=Qhn (F:=K4) 0 n (l.map Qa) ([bN n l]++[bI (Qd l)]) 1 (Qd l).length
   refine ⟨_,_,_,.tuple [.imm .lit 1 [],.int .i64 0,.int .i64 6],sq (a) (sq (b) (sq (c) (sq (d) (sqo (e) (c:=sn 31 B14) (b:=sn 63 B14)) (c:=sn 15 B14)) (c:=sn 7 B14)) (c:=sn 3 B14)) (c:=B14),by simp,by simp only [Qf,Qfs];rfl,?_⟩
   have ee:slE n l=6:=by rw [slE,if_pos hnet,if_neg cn]
   rw [trG,trW,ee,if_neg (by decide),if_neg (by decide)];exact S2 _ _ _
end Go.Proofs.Ytiejmoglooaalaa
end
section
open Go Go.HL Go.HL.Dt
namespace Go.Proofs.Ytiejmoglooaalaa
set_option linter.unusedSectionVars false
open Go.Proofs.Try renaming prog → Tp
open Go.HL.HV renaming undef → Ud
def crt (a b:Int):Int:=a+2147483647*((b-a%2147483629+2147483629)%2147483629*pw 18 2147483627 2147483629%2147483629)
theorem Qsk {a b:Int} (ha:0≤a∧a<2147483647) (hb:0≤b∧b<2147483629) :
  qA.wrap (a+qA.wrap (2147483647*((qA.wrap ((qA.wrap (qA.wrap (b-a.tmod 2147483629)+2147483629):Int).tmod 2147483629*pw 18 2147483627 2147483629):Int).tmod 2147483629)))=crt a b∧0≤crt a b∧crt a b<2147483647*2147483629:=by
 have e1:a.tmod 2147483629=a%2147483629:=jY ha.1
 rw [e1]
 have r1:0≤a%2147483629∧a%2147483629<2147483629:=⟨qN _ (by omega),qO _ (by omega)⟩
 unfold crt
 generalize a%2147483629=c at *
 rw [Qs (n:=b-c) (by omega) (by omega),QU (x:=b-c+2147483629) (by omega) (by omega),jY (by omega:0≤b-c+2147483629)]
 have r2:0≤(b-c+2147483629)%2147483629∧(b-c+2147483629)%2147483629<2147483629:=⟨qN _ (by omega),qO _ (by omega)⟩
 generalize (b-c+2147483629)%2147483629=d at *
 have r3:0≤pw 18 2147483627 2147483629∧pw 18 2147483627 2147483629<2147483629:=⟨qN _ (by omega),qO _ (by omega)⟩
 generalize pw 18 2147483627 2147483629=z at *
 rw [QcN (by omega) r2.1 r2.2 r3.1 r3.2 (by omega)]
 have r4:0≤d*z%2147483629∧d*z%2147483629<2147483629:=⟨qN _ (by omega),qO _ (by omega)⟩
 generalize d*z%2147483629=e at *
 rw [QU (x:=2147483647*e) (by omega) (by omega),QU (by omega) (by omega)]
 omega
theorem Cy {p:Int} (hp:1<p) (n:Int) (l:List St):0≤smT p n l∧smT p n l<p:=Cw hp _ _ _
def ctT (n:Int) (l:List St):Int:=if WC n l=true then (if Wk n l=true then crt (smT 2147483647 n l) (smT 2147483629 n l) else 0) else 0
def ctE (n:Int) (l:List St):Int:=if WC n l=true then 0 else 2
def Qb3:List HV→Option HV:=f2 kI kS fun n l=>if l.length≤500 then some (.tuple [.int .i64 (ctT n l),.int .i64 (ctE n l)]) else none
theorem Qfu:Try.f16.results.toList=[.tmp 4,.tmp 5]:=by kernel_rfl
def Kd:FuncId→Option (List HV→Option HV):=fun g=>if g==52 then some Zx else if g==40 then some Dd else if g==44 then some DL else if g==45 then some SU else none
theorem QhV (n:Nat):Qo Tp (Qb Tp (plF Kd) n):=QF _ (fun g f h=>by
 unfold Kd at h
 split at h
 ·rename_i hg;cases h;rw [eq_of_beq hg];exact VQ
 split at h
 ·rename_i hg;cases h;rw [eq_of_beq hg];exact Ub
 split at h
 ·rename_i hg;cases h;rw [eq_of_beq hg];exact S1
 split at h
 ·rename_i hg;cases h;rw [eq_of_beq hg];exact Qis
 ·cases h) n
theorem Qq5:NwF Kd:=⟨by kernel_rfl,by kernel_rfl,by kernel_rfl,by kernel_rfl,by kernel_rfl⟩
theorem Qfv:QV Tp 16 Qb3:=by
 refine Qt (pol:=plF Kd) (fn:=Try.f16) (cd:=B16) Qk QhV (by kernel_rfl) (by kernel_rfl) (ZJ Kd _ _ (by kernel_rfl)) (by kernel_rfl) ?_
 intro args res h
 obtain ⟨n,l,rfl,hq⟩:=Ji h
 split at hq
 case isFalse=>cases hq
 rename_i hl
 cases hq
 have a:=Qoy (F:=Kd) 0 n (l.map Qa)
 obtain ⟨N0,c39⟩:=CallsTo.from (G5 Qq5 (H:=[]) (qG _) n (l:=l) (by omega))
 cases hnet:WC n l with
 | false =>
  rw [hnet] at c39
  have b:=QoA (F:=Kd) N0 n (l.map Qa) c39 rfl stN
  have c:=Qg5 (F:=Kd) 0 n (l.map Qa) [bN n l]
  refine ⟨_,_,_,.tuple [.int .i64 0,.int .i64 2],sq (a) (sq (b) (sqo (c) (c:=sn 7 B16) (b:=sn 15 B16)) (c:=sn 3 B16)) (c:=B16),by simp,by simp only [Qf,Qfu];rfl,?_⟩
  rw [ctT,ctE,if_neg (by rw [hnet];simp),if_neg (by rw [hnet];simp)];rfl
 | true =>
  rw [hnet] at c39
  obtain ⟨⟨n1,n2⟩,n3,he,hw⟩:=QT hnet
  have heB:=XB he (by omega)
  have b:=Qoz (F:=Kd) N0 n (l.map Qa) c39 rfl stN
  have c:=Qg4 (F:=Kd) 0 n (l.map Qa) [bN n l]
  have c40:=at1 (pol':=plF Kd) (g:=40) (c1:=kN) (f:=fun p=>if SB p.1 p.2 then some (.tuple [.own 1 ((Qd p.2).map Qc),.bool (Wk p.1 p.2)]) else none) (H:=[bN n l]) (by kernel_rfl) (ShN _ n l) (if_pos ⟨heB,by show l.length≤900;omega,by show 0≤n;omega,by show n≤1000;omega⟩)
  rw [G4] at c40
  simp only at c40
  by_cases cn:Wk n l=true
  ·rw [cn] at c40
   have d:=QoB (F:=Kd) 0 n (l.map Qa) [bN n l] 1 (Qd l).length (Vs rfl) c40
   have e:=Qg6 (F:=Kd) 0 n (l.map Qa) ([bN n l]++[bI (Qd l)]) 1 (Qd l).length
   have k1:=at2 (pol':=plF Kd) (g:=44) (c1:=kN) (c2:=kI) (f:=fun q p=>if smP q.1 q.2 p then some (.int .i64 (smT p q.1 q.2)) else none) (H:=[bN n l]++[bI (Qd l)]) (by kernel_rfl) (ShN _ n l) (ShI _ 2147483647) (if_pos ⟨by show 0≤n∧n≤16;omega,heB,by show l.length≤900;omega,by omega⟩)
   have k2:=at2 (pol':=plF Kd) (g:=44) (c1:=kN) (c2:=kI) (f:=fun q p=>if smP q.1 q.2 p then some (.int .i64 (smT p q.1 q.2)) else none) (H:=[bN n l]++[bI (Qd l)]) (by kernel_rfl) (ShN _ n l) (ShI _ 2147483629) (if_pos ⟨by show 0≤n∧n≤16;omega,heB,by show l.length≤900;omega,by omega⟩)
   have s1:=Cy (p:=2147483647) (by omega) n l
   have s2:=Cy (p:=2147483629) (by omega) n l
   have ld0:QH Tp ([bN n l]++[bI (Qd l)]) 66 (.ptr 0 0 0 1)=some (Qx n l):=Vs rfl
   have f:=QoD (F:=Kd) 0 n (l.map Qa) ([bN n l]++[bI (Qd l)]) 1 (Qd l).length (smT 2147483647 n l) (smT 2147483629 n l) ld0 k1 ld0 k2 (Yk ld0 ld0 (Vo n l) (QG (Um n l) (W1 _)) (QG (Um n l) (W1 _)))
   have k3:=at3 (pol':=plF Kd) (g:=45) (c1:=kI) (c2:=kI) (c3:=kI) (f:=fun a n p=>if Qe6 a n p then some (.int .i64 (pw a n.toNat p)) else none) (H:=[bN n l]++[bI (Qd l)]) (by kernel_rfl) (ShI _ 18) (ShI _ 2147483627) (ShI _ 2147483629) (if_pos ⟨by omega,by omega,by omega,by omega⟩)
   have cw:=Qsk s1 s2
   have g:=QoE (F:=Kd) 0 n (l.map Qa) ([bN n l]++[bI (Qd l)]) (smT 2147483647 n l) (smT 2147483629 n l) (pw 18 2147483627 2147483629) (y9:=.bool true) k3
   have ee:ctT n l=crt (smT 2147483647 n l) (smT 2147483629 n l)∧ctE n l=0:=by rw [ctT,ctE,if_pos hnet,if_pos cn,if_pos hnet];exact ⟨rfl,rfl⟩
   generalize smT 2147483647 n l=x at *
   generalize smT 2147483629 n l=y at *
   have z:=QoF (F:=Kd) 0 n (l.map Qa) ([bN n l]++[bI (Qd l)]) x ((qA.wrap ((qA.wrap (qA.wrap (y-(x:Int).tmod 2147483629)+2147483629):Int).tmod 2147483629*pw 18 2147483627 2147483629):Int).tmod 2147483629) (y9:=.bool true) (y11:=.i y)
   rw [cw.1] at z
   refine ⟨_,_,_,.tuple [.int .i64 (crt x y),.int .i64 0],sq (a) (sq (b) (sq (c) (sq (sq (d) (e) (c:=sn 30 B16)) (sq (f) (sq (g) (z) (c:=sn 63 B16)) (c:=sn 31 B16)) (c:=sn 15 B16)) (c:=sn 7 B16)) (c:=sn 3 B16)) (c:=B16),by simp,by simp only [Qf,Qfu];rfl,?_⟩
   rw [ee.1,ee.2];rfl
  ·rw [U1 cn] at c40
   have d:=QoC (F:=Kd) 0 n (l.map Qa) [bN n l] 1 (Qd l).length (Vs rfl) c40
   have e:=Qg7 (F:=Kd) 0 n (l.map Qa) ([bN n l]++[bI (Qd l)]) 1 (Qd l).length
   refine ⟨_,_,_,.tuple [.int .i64 0,.int .i64 0],sq (a) (sq (b) (sq (c) (sqo (sq (d) (e) (c:=sn 30 B16)) (c:=sn 15 B16) (b:=sn 31 B16)) (c:=sn 7 B16)) (c:=sn 3 B16)) (c:=B16),by simp,by simp only [Qf,Qfu];rfl,?_⟩
   rw [ctT,ctE,if_pos hnet,if_neg cn,if_pos hnet];rfl
theorem cgT {p a b c:Int} (h:p∣a-b) (k:p∣b-c):p∣a-c:=by
 have:=Int.dvd_add h k
 rwa [show a-b+(b-c)=a-c by omega] at this
theorem cgA {p a b c d:Int} (h:p∣a-b) (k:p∣c-d):p∣(a+c)-(b+d):=by
 have:=Int.dvd_add h k
 rwa [show a-b+(c-d)=(a+c)-(b+d) by omega] at this
theorem cgR (p a:Int):p∣a-a:=by rw [Int.sub_self];exact Int.dvd_zero p
theorem cgS {p a b:Int} (h:p∣a-b):p∣b-a:=by
 have:=Int.dvd_neg.2 h
 rwa [show -(a-b)=b-a by omega] at this
theorem Qfw {d d':List Row→Int} {φ:Int→Int} {c:Int} (hd:∀R,d R=d' (R.map fun r z=>r (φ z))):∀(R P:List Row) (s:Int),ex d (φ c) P R s=ex d' c (P.map fun r z=>r (φ z)) (R.map fun r z=>r (φ z)) s
 | [],P,s=>rfl
 | r::R,P,s=>by
  rw [ex,jN,ex,hd,Qfw hd R,jZ,jZ];rfl
theorem Qb4 {φ:Int→Int}:∀(cs:List Int) (R:List Row),det (cs.map φ) R=det cs (R.map fun r z=>r (φ z))
 | [],[]=>rfl
 | [],_::_=>rfl
 | c::cs,R=>by
  rw [jN,det,det]
  exact Qfw (φ:=φ) (c:=c) (fun R=>Qb4 cs R) R [] 1
theorem Cz:∀k c:Nat,JQ c k=(qI k).map fun i=>((c+i:Nat):Int)
 | 0,_=>rfl
 | k+1,c=>by
  rw [JQ,Cz k (c+1),List.range_succ_eq_map,jN,qW]
  refine congrArg (List.cons (c:Int)) (jV fun i _=>?_)
  show ((c+1+i:Nat):Int)=((c+(i+1):Nat):Int)
  omega
def en (M:List (List Int)) (i j:Nat):Int:=(M.getD i []).getD j 0
theorem Qb5 (P Q:Prop) [Decidable P] [Decidable Q]:(if P∧Q then (1:Int) else 0)=(if P then 1 else 0)*if Q then 1 else 0:=by
 by_cases a:P <;> by_cases b:Q <;> simp [a,b]
theorem Qb6 (P Q:Prop) [Decidable P] [Decidable Q]:(if P∧Q then (-1:Int) else 0)=-((if P then 1 else 0)*if Q then 1 else 0):=by
 by_cases a:P <;> by_cases b:Q <;> simp [a,b]
theorem Qb7 {p:Int} {N:Nat} {M:List (List Int)} (h:WM p N M) {i j:Nat} (hi:i<N) (hj:j<N) (i0 j0:Nat) (d:Int):p∣en (adM p N i0 j0 d M) i j-(en M i j+if i0=i∧j0=j then d else 0):=by
 unfold adM en
 have hml:=h.1
 by_cases c:i0<N∧j0<N
 ·have hri:=h.2 _ (by rw [Jl (by omega)];exact List.getElem_mem _:M.getD i0 []∈M)
  rw [if_pos c,W4 (by omega)]
  by_cases e1:i0=i
  ·subst e1
   rw [if_pos rfl,V0 (by rw [hri.1];exact c.2)]
   by_cases e2:j0=j
   ·subst e2
    rw [if_pos rfl,if_pos ⟨rfl,rfl⟩,DH]
    refine cgT (WJ _ p) ?_
    rw [show (M.getD i0 []).getD j0 0+d+p-((M.getD i0 []).getD j0 0+d)=p by omega]
    exact Int.dvd_refl p
   ·rw [if_neg e2,if_neg fun h=>e2 h.2,qS];exact cgR ..
  ·rw [if_neg e1,if_neg fun h=>e1 h.1,qS];exact cgR ..
 ·rw [if_neg c,if_neg fun h=>c ⟨by omega,by omega⟩,qS];exact cgR ..
theorem Qb8:∀{V:List Int} {i:Nat},V.Nodup→i<V.length→Wz V (V.getD i 0)=i
 | [],_,_,h=>by simp at h
 | y::V,0,_,_=>by rw [Wz];exact if_pos rfl
 | y::V,i+1,hn,h=>by
  obtain ⟨h1,h2⟩:=List.nodup_cons.1 hn
  have hi:i<V.length:=by simpa using h
  have hm:V.getD i 0∈V:=Qw 0 hi
  rw [List.getD_cons_succ,Wz,if_neg (fun e=>h1 (by rw [← e];exact hm)),if_pos hm,Qb8 h2 hi]
theorem CA {V:List Int} (hn:V.Nodup) {x:Int} (hx:x∈V) {i:Nat} (hi:i<V.length):dl x (V.getD i 0)=if Wz V x=i then 1 else 0:=by
 unfold dl
 by_cases c:Wz V x=i
 ·rw [if_pos c,if_pos (by rw [← c];exact (S0 hx).symm)]
 ·rw [if_neg c,if_neg fun e=>c (by rw [e];exact Qb8 hn hi)]
theorem Qfx {V:List Int} {x:Int} (hx:x∉V) {i:Nat} (hi:i<V.length):dl x (V.getD i 0)=0:=if_neg fun e=>hx (by rw [e];exact Qw 0 hi)
theorem Qq6 {p:Int} (hp:0<p) {V g1:List Int} {w:Int} {M:List (List Int)} (h:WM p (V.length-1) M) (hn:V.Nodup) (s:St) (hxy:s.2.2=w→(g1.getD s.1.toNat 0∈V↔g1.getD s.2.1.toNat 0∈V)) {i j:Nat} (hi:i<V.length-1) (hj:j<V.length-1) :
  p∣en (adS p V g1 w M s) i j-(en M i j+if s.2.2=w then (dl (g1.getD s.1.toNat 0) (V.getD i 0)-dl (g1.getD s.2.1.toNat 0) (V.getD i 0))*(dl (g1.getD s.1.toNat 0) (V.getD j 0)-dl (g1.getD s.2.1.toNat 0) (V.getD j 0)) else 0):=by
 unfold adS
 by_cases cw:s.2.2=w
 ·have hm:=hxy cw
  rw [if_pos cw]
  generalize g1.getD s.1.toNat 0=x at *
  generalize g1.getD s.2.1.toNat 0=y at *
  by_cases cx:x∈V
  ·have cy:=hm.1 cx
   rw [CA hn cx (by omega),CA hn cx (by omega),CA hn cy (by omega),CA hn cy (by omega)]
   generalize Wz V x=a at *
   generalize Wz V y=b at *
   by_cases e:a=b
   ·rw [if_neg fun h=>h.2.2 e,e,Int.sub_self,Int.zero_mul,qS];exact cgR ..
   ·rw [if_pos ⟨cx,cw,e⟩]
    have o1:=Kb hp h a a 1
    have o2:=Kb hp o1 b b 1
    have o3:=Kb hp o2 a b (-1)
    have e1:=Qb7 h hi hj a a 1
    have e2:=Qb7 o1 hi hj b b 1
    have e3:=Qb7 o2 hi hj a b (-1)
    have e4:=Qb7 o3 hi hj b a (-1)
    refine cgT e4 ?_
    have k3:=cgA e3 (cgR p (if b=i∧a=j then -1 else 0))
    refine cgT k3 ?_
    have k2:=cgA (cgA e2 (cgR p (if a=i∧b=j then -1 else 0))) (cgR p (if b=i∧a=j then -1 else 0))
    refine cgT k2 ?_
    have k1:=cgA (cgA (cgA e1 (cgR p (if b=i∧b=j then 1 else 0))) (cgR p (if a=i∧b=j then -1 else 0))) (cgR p (if b=i∧a=j then -1 else 0))
    refine cgT k1 ?_
    have:en M i j+(if a=i∧a=j then 1 else 0)+(if b=i∧b=j then 1 else 0)+(if a=i∧b=j then -1 else 0)+(if b=i∧a=j then -1 else 0)=en M i j+((if a=i then 1 else 0)-if b=i then 1 else 0)*((if a=j then 1 else 0)-if b=j then 1 else 0):=by
     rw [Qb5,Qb5,Qb6,Qb6,Int.sub_mul,Int.mul_sub,Int.mul_sub];omega
    rw [this];exact cgR ..
  ·have cy:y∉V:=fun c=>cx (hm.2 c)
   rw [if_neg fun h=>cx h.1,Qfx cx (by omega),Qfx cy (by omega),Int.sub_self,Int.zero_mul,qS];exact cgR ..
 ·rw [if_neg cw,if_neg fun h=>cw h.2.1,qS];exact cgR ..
section
variable {n:Int} {l:List St} (hnet:WC n l=true) {P:List Int} (hP:InR l P) {w:Int}
include hnet hP
theorem Qfy (k:Nat):ofW l w (Qg (k+1))=ofW l w (Qg k)++if wOf l (k:Int)=w then [(k:Int)] else []:=by
 unfold ofW Qg
 rw [List.range_succ,jZ,zA]
 congr 1
 by_cases c:wOf l (k:Int)=w
 ·rw [if_pos c]
  exact List.filter_eq_self.2 fun x hx=>by
   rw [jN,zI,zJ] at hx
   rw [hx];exact decide_eq_true c
 ·rw [if_neg c]
  exact List.filter_eq_nil_iff.2 fun x hx h=>by
   rw [jN,zI,zJ] at hx
   rw [hx] at h
   exact c (of_decide_eq_true h)
theorem Qix {p:Int} (hp:0<p) {V:List Int} (hn:V.Nodup) (hV:∀e∈ofW l w (alS l),(lb l P (sA l e)∈V↔lb l P (sB l e)∈V)) {i j:Nat} (hi:i<V.length-1) (hj:j<V.length-1) :
  ∀k,k≤l.length→p∣en ((l.take k).foldl (adS p V (Qy l P) w) (zM (V.length-1))) i j-Lp l P (ofW l w (Qg k)) (V.getD i 0) (V.getD j 0)
 | 0,_=>by
  have e1:en (zM (V.length-1)) i j=0:=by simp [en,zM,qJ,hi,hj]
  have e2:Lp l P (ofW l w (Qg 0)) (V.getD i 0) (V.getD j 0)=0:=rfl
  rw [List.take_zero,List.foldl_nil,e1,e2];exact cgR ..
 | k+1,hk=>by
  have ih:=Qix hp hn hV hi hj k (by omega)
  have hkl:k<l.length:=by omega
  have hok:WM p (V.length-1) ((l.take k).foldl (adS p V (Qy l P) w) (zM (V.length-1))):=DJ hp _ (QbZ hp _)
  rw [zF hkl,zG,Qfy hnet hP]
  have hs:l[k]=l.getD ((k:Int)).toNat (0,0,0):=by rw [qB,qJ,zS hkl];rfl
  rw [hs]
  have a:=Qq6 hp hok hn (l.getD ((k:Int)).toNat (0,0,0)) (g1:=Qy l P) (w:=w) (fun hw=>hV (k:Int) (of_mem.2 ⟨startT_mem.2 ⟨by omega,by omega⟩,hw⟩)) hi hj
  refine cgT a ?_
  by_cases c:wOf l (k:Int)=w
  ·rw [if_pos c,if_pos (show (l.getD ((k:Int)).toNat (0,0,0)).2.2=w from c),Cj,qE,Int.add_comm (ed l P _ _ _)]
   exact cgA ih (cgR ..)
  ·rw [if_neg c,if_neg (show ¬(l.getD ((k:Int)).toNat (0,0,0)).2.2=w from c),qE,qS]
   exact ih
theorem QhW {p:Nat} (hpr:Pr p) (hp2:2<p) {top:Nat} :
  (p:Int)∣gz (p:Int) (VD p) ((vtG (Qy l P) (Qy l (P++ofW l w (alS l))) n.toNat (top:Int)).length-1) ((vtG (Qy l P) (Qy l (P++ofW l w (alS l))) n.toNat (top:Int)).length-1) 0 1 (mxT p (vtG (Qy l P) (Qy l (P++ofW l w (alS l))) n.toNat (top:Int)) (Qy l P) w l)
   - det (vt l P (ofW l w (alS l)) n.toNat (top:Int)).dropLast ((vt l P (ofW l w (alS l)) n.toNat (top:Int)).dropLast.map (Lp l P (ofW l w (alS l)))):=by
 have hE:=Gu l w
 have he:=Qz hnet
 have hVe:vtG (Qy l P) (Qy l (P++ofW l w (alS l))) n.toNat (top:Int)=vt l P (ofW l w (alS l)) n.toNat (top:Int):=rfl
 rw [hVe]
 have hmem:=fun x=>vt_mem (l:=l) (P:=P) (E:=ofW l w (alS l)) (n:=n.toNat) (top:=(top:Int)) (x:=x)
 have hn:=Dy l P (ofW l w (alS l)) n.toNat (top:Int)
 have hV:∀e∈ofW l w (alS l),(lb l P (sA l e)∈vt l P (ofW l w (alS l)) n.toNat (top:Int)↔lb l P (sB l e)∈vt l P (ofW l w (alS l)) n.toNat (top:Int)):=fun e hm=>by
  obtain ⟨⟨n1,n2⟩,_⟩:=QT hnet
  obtain ⟨ea,eb⟩:=Ku he (hE e hm)
  have na:=Jg hnet (hE e hm)
  have la:=W2 he hP ea
  have lb':=W2 he hP eb
  rw [hmem,hmem,Gs hnet hP hE ea,Gs hnet hP hE eb,QeX hnet hP hE hm]
  constructor
  ·rintro ⟨_,_,c⟩;exact ⟨by omega,lb'.2.2,c⟩
  ·rintro ⟨_,_,c⟩;exact ⟨by omega,la.2.2,c⟩
 generalize vt l P (ofW l w (alS l)) n.toNat (top:Int)=V at *
 have hp0:(0:Int)<(p:Int):=by omega
 have hinv:∀a:Int,0<a→a<(p:Int)→(a*VD p a)%(p:Int)=1:=fun a h0 h1=>by
  have:=hpr.invI h0 h1
  have e:((p:Int)-2).toNat=p-2:=by omega
  rw [VD,e];exact this
 have hok:WM (p:Int) (V.length-1) (mxT p V (Qy l P) w l):=DJ hp0 _ (QbZ hp0 _)
 have g:=Qe9 (p:=(p:Int)) (by omega) hinv (N:=V.length-1) (V.length-1) 0 1 (mxT p V (Qy l P) w l) (Nat.zero_add _) hok
 rw [List.drop_zero,Int.one_mul] at g
 refine cgT g ?_
 have hlen:V.dropLast.length=V.length-1:=List.length_dropLast
 have e1:V.dropLast=(JQ 0 (V.length-1)).map fun z=>V.getD z.toNat 0:=by
  rw [Cz,qW]
  refine ZU (d:=0) (by simp) fun j hj=>?_
  rw [hlen] at hj
  rw [VZ (d:=0) hj]
  show V.dropLast.getD j 0=V.getD ((0+j:Nat):Int).toNat 0
  rw [Nat.zero_add,qB]
  simp only [qJ]
  rw [List.dropLast_eq_take,zT (by omega)]
 have e2:(V.dropLast.map (Lp l P (ofW l w (alS l)))).map (fun (r:Row) (z:Int)=>r (V.getD z.toNat 0))=(JQ 0 (V.length-1)).map fun (z:Int)=>(fun (z':Int)=>Lp l P (ofW l w (alS l)) (V.getD z.toNat 0) (V.getD z'.toNat 0)):=by
  rw [qW]
  conv=>lhs;rw [e1]
  rw [qW];rfl
 have e3:det V.dropLast (V.dropLast.map (Lp l P (ofW l w (alS l))))=det (JQ 0 (V.length-1)) ((V.dropLast.map (Lp l P (ofW l w (alS l)))).map (fun (r:Row) (z:Int)=>r (V.getD z.toNat 0))):=by
  have:=Qb4 (φ:=fun z=>V.getD z.toNat 0) (JQ 0 (V.length-1)) (V.dropLast.map (Lp l P (ofW l w (alS l))))
  rw [← this,← e1]
 rw [e3,e2]
 have e4:(mxT p V (Qy l P) w l).map rw=(JQ 0 (V.length-1)).map fun (z:Int)=>rw ((mxT p V (Qy l P) w l).getD z.toNat []):=by
  rw [Cz,qW]
  refine List.ext_getElem (by simp [hok.1]) fun j h1 h2=>?_
  have hj:j<(mxT p V (Qy l P) w l).length:=by simpa using h1
  simp only [List.getElem_map,List.getElem_range,Function.comp,Nat.zero_add,qB]
  rw [Jl hj]
 rw [e4]
 refine Ch _ _ _ (cgm fun z hz z' hz'=>?_)
 have h1:=cols_mem.1 hz
 have h2:=cols_mem.1 hz'
 have k:=Qix (w:=w) hnet hP hp0 hn hV (i:=z.toNat) (j:=z'.toNat) (by omega) (by omega) l.length (qG _)
 rw [jX] at k
 exact k
theorem Qb9 {p:Nat} (hpr:Pr p) (hp2:2<p):∀k:Nat,(p:Int)∣spK p (Qy l P) (Qy l (P++ofW l w (alS l))) w l n.toNat k-Y2 qX l P (ofW l w (alS l)) n.toNat k
 | 0=>cgR ..
 | k+1=>by
  have ih:=Qb9 hpr hp2 k
  have t:=QhW hnet hP (w:=w) hpr hp2 (top:=k)
  have hVe:vtG (Qy l P) (Qy l (P++ofW l w (alS l))) n.toNat (k:Int)=vt l P (ofW l w (alS l)) n.toNat (k:Int):=rfl
  rw [spK,Y2]
  by_cases c:(vtG (Qy l P) (Qy l (P++ofW l w (alS l))) n.toNat (k:Int)).length<2
  ·rw [if_pos c]
   rw [hVe] at c
   have:(vt l P (ofW l w (alS l)) n.toNat (k:Int)).dropLast=[]:=List.eq_nil_of_length_eq_zero (by rw [List.length_dropLast];omega)
   rw [this,zI,det,Int.mul_one];exact ih
  ·rw [if_neg c]
   exact cgT (WJ _ _) (Zf ih t)
end
section
variable {n:Int} {l:List St} (hnet:WC n l=true)
include hnet
theorem QhX {w:Nat} (h:ofW l w (alS l)=[]):cN l (w+1)=cN l w:=by
 have e:rk l (loW l w (alS l))=rk l (loW l ((w:Int)-1) (alS l)):=Q7 (Qz hnet) (Y0 l _) fun k=>by
  have:=(X8 l (w:Int) (alS l)).mem_iff (a:=k)
  rw [h,qE] at this
  exact this
 rw [cN,h,e,jE,cnt]
 have:fo l (loW l ((w:Int)-1) (alS l)) 0 []=true:=by unfold fo;rw [qE];exact decide_eq_true ⟨rfl,rfl⟩
 rw [Wr,if_pos this,Nat.mul_one]
theorem CB {a:Nat}:∀b,a≤b→(∀k,0≤k∧k<(l.length:Int)→¬((a:Int)≤wOf l k∧wOf l k<(b:Int)))→cN l b=cN l a
 | 0,h,_=>by
  have:a=0:=by omega
  rw [this]
 | b+1,h,hk=>by
  by_cases c:a=b+1
  ·rw [c]
  ·have he:ofW l (b:Int) (alS l)=[]:=List.eq_nil_iff_forall_not_mem.2 fun k hm=>by
    have:=of_mem.1 hm
    exact hk k (Gt l k this.1) (by omega)
   rw [QhX hnet he,CB (a:=a) b (by omega) fun k hkr hc=>hk k hkr (by omega)]
theorem Qq7 {p:Nat} (hpr:Pr p) (hp2:2<p):∀i,i≤(Qh l).length →
  ∀W:Nat,(∀a,a<(Qh l).length→((a<(smF p n.toNat l i).2→wOf l ((Qh l).getD a 0)<(W:Int))∧((smF p n.toNat l i).2≤a→(W:Int)≤wOf l ((Qh l).getD a 0))))→(smF p n.toNat l i).2≤i∧(p:Int)∣(smF p n.toNat l i).1-(cN l W:Int):=by
 intro i
 have he:=Qz hnet
 have hO:∀k∈Qh l,0≤k∧k<(l.length:Int):=fun k hk=>ordT_mem.1 hk
 have pos:∀k,0≤k∧k<(l.length:Int)→∃a,a<(Qh l).length∧(Qh l).getD a 0=k:=fun k hk=>Cb hnet hk
 induction i with
 | zero =>
  intro _ W h
  refine ⟨qG _,?_⟩
  have:cN l W=cN l 0:=CB hnet W (jJ _) fun k hk hc=>by
   obtain ⟨a,ha,e⟩:=pos k hk
   have:=(h a ha).2 (jJ _)
   rw [e] at this;omega
  rw [this];exact cgR ..
 | succ i ih =>
  intro hi W h
  have hil:i<(Qh l).length:=by omega
  by_cases c:i+1<(Qh l).length∧wOf l ((Qh l).getD (i+1) 0)=wOf l ((Qh l).getD i 0)
  ·have e1:smF (p:Int) n.toNat l (i+1)=smF p n.toNat l i:=by rw [smF,if_pos c]
   rw [e1] at h ⊢
   obtain ⟨a,b⟩:=ih (by omega) W h
   exact ⟨by omega,b⟩
  ·have e1:smF (p:Int) n.toNat l (i+1)=((smF (p:Int) n.toNat l i).1*spK p (Qy l ((Qh l).take (smF (p:Int) n.toNat l i).2)) (Qy l ((Qh l).take (i+1))) (wOf l ((Qh l).getD i 0)) l n.toNat n.toNat%p,i+1):=by rw [smF,if_neg c]
   rw [e1] at h ⊢
   simp only at h ⊢
   refine ⟨qG _,?_⟩
   have hki:=hO _ (Qw 0 hil)
   have hwi:=X6 hnet hki
   obtain ⟨w,hw⟩:=zC hwi.1
   have key:∀i,i<(Qh l).length→∀a,a<(Qh l).length→(a<(smF (p:Int) n.toNat l i).2↔wOf l ((Qh l).getD a 0)<wOf l ((Qh l).getD i 0)):=by
    intro i
    induction i with
    | zero =>
     intro h0 a ha
     have:=Vv hnet (jJ a) ha
     rw [smF]
     constructor
     ·intro h;simp at h
     ·intro h;omega
    | succ i ih2 =>
     intro hi2 a ha
     by_cases c2:i+1<(Qh l).length∧wOf l ((Qh l).getD (i+1) 0)=wOf l ((Qh l).getD i 0)
     ·rw [smF,if_pos c2,ih2 (by omega) a ha,c2.2]
     ·rw [smF,if_neg c2]
      have o1:=Vv hnet (i:=i) (j:=i+1) (by omega) hi2
      have hne:wOf l ((Qh l).getD (i+1) 0)≠wOf l ((Qh l).getD i 0):=fun h=>c2 ⟨hi2,h⟩
      show a<i+1↔_
      constructor
      ·intro h
       have:=Vv hnet (i:=a) (j:=i) (by omega) (by omega)
       omega
      ·intro h
       rcases qU a (i+1) with d | d
       ·exact d
       ·exfalso
        have:=Vv hnet d ha
        omega
   have kI:=key i hil
   have hih:(p:Int)∣(smF (p:Int) n.toNat l i).1-(cN l w:Int):=(ih (by omega) w fun a ha=>by
    have:=kI a ha
    rw [hw] at this
    constructor
    ·intro h;exact this.1 h
    ·intro h
     rcases Int.lt_or_le (wOf l ((Qh l).getD a 0)) (w:Int) with d | d
     ·have:=this.2 d;omega
     ·exact d).2
   have hPm:∀k,k∈(Qh l).take (smF (p:Int) n.toNat l i).2↔k∈loW l ((w:Int)-1) (alS l):=fun k=>by
    rw [lo_mem,startT_mem]
    constructor
    ·intro hk
     have hk0:=hO k (qV hk)
     obtain ⟨a,ha,e⟩:=List.getElem_of_mem hk
     rw [qP] at ha
     rw [zD] at e
     have:=(kI a (by omega)).1 (by omega)
     rw [QA (by omega),e,hw] at this
     exact ⟨hk0,by omega⟩
    ·rintro ⟨hk0,hkw⟩
     obtain ⟨a,ha,e⟩:=pos k hk0
     have:=(kI a ha).2 (by rw [e,hw];omega)
     rw [List.mem_iff_getElem]
     refine ⟨a,by rw [qP];omega,?_⟩
     rw [zD,← QA (d:=0) ha];exact e
   have hEm:∀k,k∈(Qh l).take (i+1)↔k∈(Qh l).take (smF (p:Int) n.toNat l i).2++ofW l w (alS l):=fun k=>by
    rw [jI,hPm,lo_mem,of_mem,startT_mem]
    constructor
    ·intro hk
     have hk0:=hO k (qV hk)
     obtain ⟨a,ha,e⟩:=List.getElem_of_mem hk
     rw [qP] at ha
     rw [zD] at e
     have o1:=Vv hnet (i:=a) (j:=i) (by omega) hil
     rw [QA (y:=a) (by omega),e,hw] at o1
     rcases Int.lt_or_eq_of_le o1 with d | d
     ·exact .inl ⟨hk0,by omega⟩
     ·exact .inr ⟨hk0,d⟩
    ·intro hk
     have hk0:0≤k∧k<(l.length:Int):=hk.elim (·.1) (·.1)
     have hkw:wOf l k≤(w:Int):=hk.elim (fun h=>by have:=h.2;omega) fun h=>by have:=h.2;omega
     obtain ⟨a,ha,e⟩:=pos k hk0
     have hai:a<i+1:=by
      rcases qU a (i+1) with d | d
      ·exact d
      ·exfalso
       have o1:=Vv hnet (i:=i) (j:=i+1) (by omega) (by omega)
       have o2:=Vv hnet (i:=i+1) (j:=a) d ha
       rw [e] at o2
       exact c ⟨by omega,by omega⟩
     rw [List.mem_iff_getElem]
     refine ⟨a,by rw [qP];omega,?_⟩
     rw [zD,← QA (d:=0) ha];exact e
   have hPi:InR l ((Qh l).take (smF (p:Int) n.toNat l i).2):=fun k hk=>hO k (qV hk)
   have hl2:Qy l ((Qh l).take (i+1))=Qy l ((Qh l).take (smF (p:Int) n.toNat l i).2++ofW l w (alS l)):=X5 he (fun k hk=>hO k (qV hk)) hEm
   rw [hl2,hw]
   have sp:=Qb9 hnet hPi (w:=(w:Int)) hpr hp2 n.toNat
   have hd:Y2 qX l ((Qh l).take (smF (p:Int) n.toNat l i).2) (ofW l w (alS l)) n.toNat n.toNat=Y2 qX l (loW l ((w:Int)-1) (alS l)) (ofW l w (alS l)) n.toNat n.toNat:=QeY hnet X7 X7 hPi (Gu l w) hPm (List.Perm.refl _)
   rw [hd] at sp
   have hcw:cW qX n l (w+1)=cW qX n l w*Y2 qX l (loW l ((w:Int)-1) (alS l)) (ofW l w (alS l)) n.toNat n.toNat:=rfl
   rw [Qe0 hnet X7,Qe0 hnet X7] at hcw
   have hW:cN l W=cN l (w+1):=by
    have hwW:w+1≤W:=by
     have:=(h i hil).1 (by omega)
     rw [hw] at this;omega
    refine CB hnet W hwW fun k hk hc=>?_
    obtain ⟨a,ha,e⟩:=pos k hk
    rcases qU a (i+1) with d | d
    ·have o1:=Vv hnet (i:=a) (j:=i) (by omega) hil
     rw [e,hw] at o1;omega
    ·have:=(h a ha).2 d
     rw [e] at this;omega
   rw [hW,hcw]
   exact cgT (WJ _ _) (Zf hih sp)
theorem Qfz {p:Nat} (hpr:Pr p) (hp2:2<p):smT (p:Int) n l=(cN l 1001:Int)%(p:Int):=by
 have hO:∀k∈Qh l,0≤k∧k<(l.length:Int):=fun k hk=>ordT_mem.1 hk
 have hj:∀i,i≤(Qh l).length→(i=(Qh l).length→(smF (p:Int) n.toNat l i).2=i):=by
  intro i hi e
  cases i with
  | zero=>rfl
  | succ i=>rw [smF,if_neg (fun h=>by omega)]
 have:=(Qq7 hnet hpr hp2 (Qh l).length (qG _) 1001 fun a ha=>by
  rw [hj _ (qG _) rfl]
  have:=X6 hnet (hO _ (Qw 0 ha))
  exact ⟨fun _=>by omega,fun h=>by omega⟩).2
 have r:=Cy (p:=(p:Int)) (by omega) n l
 have e:smT (p:Int) n l%(p:Int)=(cN l 1001:Int)%(p:Int):=Int.emod_eq_emod_iff_emod_sub_eq_zero.2 (Int.emod_eq_zero_of_dvd this)
 rw [← e,Int.emod_eq_of_lt r.1 r.2]
end
theorem Qq8 {N:Int} (h0:0≤N) (h:N<2147483647*2147483629):crt (N%2147483647) (N%2147483629)=N:=by
 have hc:=Qsk (a:=N%2147483647) (b:=N%2147483629) ⟨qN _ (by omega),qO _ (by omega)⟩ ⟨qN _ (by omega),qO _ (by omega)⟩
 have hz:(18*pw 18 2147483627 2147483629)%2147483629=1:=pr2.invI (a:=18) (by omega) (by omega)
 have d1:(2147483647:Int)∣crt (N%2147483647) (N%2147483629)-N:=by
  refine cgT (b:=N%2147483647) ?_ (WJ _ _)
  unfold crt
  rw [Int.add_comm,Int.add_sub_cancel]
  exact Int.dvd_mul_right _ _
 have d2:(2147483629:Int)∣crt (N%2147483647) (N%2147483629)-N:=by
  unfold crt
  have hb:(2147483629:Int)∣N%2147483629-N:=WJ _ _
  generalize N%2147483647=a at *
  generalize N%2147483629=b at *
  generalize pw 18 2147483627 2147483629=z at *
  have t1:(2147483629:Int)∣(b-a%2147483629+2147483629)%2147483629-(b-a):=by
   refine cgT (WJ _ _) ?_
   have h1:(2147483629:Int)∣a%2147483629-a:=WJ _ _
   have h2:=Int.dvd_sub (Int.dvd_refl (2147483629:Int)) h1
   rwa [show (2147483629:Int)-(a%2147483629-a)=b-a%2147483629+2147483629-(b-a) by omega] at h2
  have t2:(2147483629:Int)∣(b-a%2147483629+2147483629)%2147483629*z%2147483629-(b-a)*z:=cgT (WJ _ _) (Zf t1 (cgR _ z))
  have t3:(2147483629:Int)∣2147483647-18:=⟨1,by omega⟩
  have t4:=Zf t3 t2
  have t5:(2147483629:Int)∣18*z-1:=by
   have:=WJ (18*z) 2147483629
   rw [hz] at this
   exact cgS this
  have t6:(2147483629:Int)∣18*((b-a)*z)-(b-a):=by
   have:=Zf (cgR 2147483629 (b-a)) t5
   rwa [Int.mul_one,show (b-a)*(18*z)=18*((b-a)*z) by rw [Int.mul_left_comm]] at this
  have t7:=cgT t4 t6
  have t8:=cgA (cgR 2147483629 a) t7
  rw [show a+(b-a)=b by omega] at t8
  exact cgT t8 hb
 generalize crt (N%2147483647) (N%2147483629)=X at *
 obtain ⟨s,hs⟩:=d1
 obtain ⟨t,ht⟩:=d2
 have h1:X-N=2147483647*2147483629*(119304647*s-119304646*t):=by omega
 obtain ⟨_,hc1,hc2⟩:=hc
 have:119304647*s-119304646*t=0:=by omega
 omega
theorem Qq9 {n:Int} {l:List St} (hnet:WC n l=true) (hc:Wk n l=true):ctT n l=(cN l 1001:Int):=by
 have hb:=Qsa hnet 1001
 have hb2:((cN l 1001:Nat):Int)≤1152921504606846976:=by
  have:(2:Nat) ^ 60=1152921504606846976:=by decide
  omega
 rw [ctT,if_pos hnet,if_pos hc]
 have e1:smT 2147483647 n l=(cN l 1001:Int)%2147483647:=Qfz hnet pr1 (by decide)
 have e2:smT 2147483629 n l=(cN l 1001:Int)%2147483629:=Qfz hnet pr2 (by decide)
 rw [e1,e2]
 exact Qq8 (by omega) (by omega)
end Go.Proofs.Ytiejmoglooaalaa
end
section
open Go Go.HL
namespace Go.Proofs.Ytiejmoglooaalaa
set_option linter.unusedSectionVars false
open Go.Proofs.Try renaming prog → Tp
open Go.HL.HV renaming undef → Ud
theorem QfA {O:List Int} {k:Int} (d:Int) {x:Nat} (hx:x<O.length) (hk:0≤k):(lwT O k d).getD x 0=if k=(x:Int) then bst (O.getD x 0) d else O.getD x 0:=by
 unfold lwT
 by_cases e:k=(x:Int)
 ·subst e
  rw [if_pos rfl,qB,bst]
  by_cases c:O.getD x 0<0∨d<O.getD x 0
  ·rw [if_pos c,if_pos c,Sr hx,if_pos rfl]
  ·rw [if_neg c,if_neg c]
 ·rw [if_neg e]
  by_cases c:O.getD k.toNat 0<0∨d<O.getD k.toNat 0
  ·rw [if_pos c]
   simp only [qJ,List.getElem?_set]
   rw [if_neg (by omega)]
  ·rw [if_neg c]
theorem QfB {l:List St} {O:List Int} {k y:Int} {x:Nat} (hx:x<O.length) (hk:0≤k) (hy:0≤y) (hne:k≠y):(inS l k O y).getD x 0=if k=(x:Int)∨y=(x:Int) then bst (O.getD x 0) (wOf l y-wOf l k) else O.getD x 0:=by
 rw [inS,QfA _ (by rw [Cs];exact hx) hy,QfA _ hx hk]
 by_cases c1:y=(x:Int)
 ·rw [if_pos c1,if_neg (by omega),if_pos (.inr c1)]
 ·rw [if_neg c1]
  by_cases c2:k=(x:Int)
  ·rw [if_pos c2,if_pos (.inl c2)]
  ·rw [if_neg c2,if_neg (by omega)]
theorem S3 {l:List St} {k:Nat}:∀(ys O:List Int),k<O.length→(∀y∈ys,0≤y∧y≠(k:Int))→(inF l k O ys).getD k 0=ys.foldl (fun b y=>bst b (wOf l y-wOf l k)) (O.getD k 0)
 | [],_,_,_=>rfl
 | y::ys,O,h,hy=>by
  obtain ⟨h1,h2⟩:=hy y (qK ..)
  have:=S3 (l:=l) ys (inS l k O y) (by rw [Ct];exact h) fun z hz=>hy z (qL _ hz)
  rw [inF,qM,qM]
  refine this.trans ?_
  rw [QfB h (by omega) h1 (fun c=>h2 c.symm),if_pos (.inl rfl)]
theorem YB {l:List St} {k:Int} {x:Nat} (hk:0≤k) (hkx:k≠(x:Int)):∀(ys O:List Int),x<O.length→ys.Nodup→(∀y∈ys,0≤y∧y≠k)→(inF l k O ys).getD x 0=if (x:Int)∈ys then bst (O.getD x 0) (wOf l x-wOf l k) else O.getD x 0
 | [],_,_,_,_=>by rw [if_neg (by simp)];rfl
 | y::ys,O,h,hn,hy=>by
  obtain ⟨h1,h2⟩:=hy y (qK ..)
  obtain ⟨n1,n2⟩:=List.nodup_cons.1 hn
  have:=YB (l:=l) hk hkx ys (inS l k O y) (by rw [Ct];exact h) n2 fun z hz=>hy z (qL _ hz)
  rw [inF,qM]
  refine this.trans ?_
  rw [QfB h hk h1 (fun c=>h2 c.symm)]
  by_cases c:y=(x:Int)
  ·subst c
   rw [if_neg n1,if_pos (.inr rfl),if_pos (qK ..)]
  ·have hor:¬(k=(x:Int)∨y=(x:Int)):=fun h=>h.elim hkx c
   by_cases c2:(x:Int)∈ys
   ·rw [if_pos c2,if_neg hor,if_pos (qL _ c2)]
   ·rw [if_neg c2,if_neg hor,if_neg (fun h=>(List.mem_cons.1 h).elim (fun e=>c e.symm) c2)]
theorem ins_mem {l:List St} {t:List Int} {k:Int} {y:Int}:y∈QZ l t k l.length↔(0≤y∧y<(l.length:Int))∧y∉t∧Wa l t k y:=by
 rw [QZ,jP,startT_mem,decide_eq_true_eq]
theorem GC (l:List St) (t:List Int) (k:Int):(QZ l t k l.length).Nodup:=(Zm _).sublist qY
theorem QfC {l:List St} {t:List Int} {x:Nat} (hx:x<l.length) (hxt:(x:Int)∉t):∀(ks O:List Int),O.length=l.length→(∀k∈ks,k∈t∧0≤k)→(ouF l t O ks).getD x 0=ks.foldl (fun b k=>if Wa l t k x then bst b (wOf l x-wOf l k) else b) (O.getD x 0)
 | [],_,_,_=>rfl
 | k::ks,O,hO,hk=>by
  obtain ⟨h1,h2⟩:=hk k (qK ..)
  have:=QfC hx hxt ks (inF l k O (QZ l t k l.length)) ((Yd ..).trans hO) fun z hz=>hk z (qL _ hz)
  rw [ouF,qM,qM]
  refine this.trans ?_
  rw [YB h2 (fun c=>hxt (c▸h1)) _ _ (by omega) (GC ..) (fun y hy=>⟨(ins_mem.1 hy).1.1,fun c=>(ins_mem.1 hy).2.1 (c▸h1)⟩)]
  refine congrArg (fun b=>ks.foldl _ b) ?_
  by_cases c:Wa l t k x
  ·rw [if_pos c,if_pos (ins_mem.2 ⟨by omega,hxt,c⟩)]
  ·rw [if_neg c,if_neg (fun h=>c (ins_mem.1 h).2.2)]
theorem Qiy {l:List St} {t:List Int} {x:Nat} (hx:x<l.length) (hxt:(x:Int)∈t):∀(ks O:List Int),O.length=l.length→ks.Nodup→(∀k∈ks,k∈t∧0≤k)→(ouF l t O ks).getD x 0=if (x:Int)∈ks then (QZ l t x l.length).foldl (fun b y=>bst b (wOf l y-wOf l x)) (O.getD x 0) else O.getD x 0
 | [],_,_,_,_=>by rw [if_neg (by simp)];rfl
 | k::ks,O,hO,hn,hk=>by
  obtain ⟨h1,h2⟩:=hk k (qK ..)
  obtain ⟨n1,n2⟩:=List.nodup_cons.1 hn
  have:=Qiy hx hxt ks (inF l k O (QZ l t k l.length)) ((Yd ..).trans hO) n2 fun z hz=>hk z (qL _ hz)
  rw [ouF,qM]
  refine this.trans ?_
  by_cases c:k=(x:Int)
  ·subst c
   rw [if_neg n1,if_pos (qK ..)]
   exact S3 _ _ (by omega) fun y hy=>⟨(ins_mem.1 hy).1.1,fun c=>(ins_mem.1 hy).2.1 (c▸h1)⟩
  ·have e:(inF l k O (QZ l t k l.length)).getD x 0=O.getD x 0:=by
    rw [YB h2 c _ _ (by omega) (GC ..) (fun y hy=>⟨(ins_mem.1 hy).1.1,fun c=>(ins_mem.1 hy).2.1 (c▸h1)⟩),if_neg (fun h=>(ins_mem.1 h).2.1 hxt)]
   rw [e]
   by_cases c2:(x:Int)∈ks
   ·rw [if_pos c2,if_pos (qL _ c2)]
   ·rw [if_neg c2,if_neg (fun h=>(List.mem_cons.1 h).elim (fun e=>c e.symm) c2)]
theorem DM {α β:Type} {f g:β→α→β}:∀{s:List α},(∀x∈s,∀b,f b x=g b x)→∀b,s.foldl f b=s.foldl g b
 | [],_,_=>rfl
 | x::s,h,b=>by rw [qM,qM,h x (qK ..)];exact DM (fun y hy=>h y (qL _ hy)) _
theorem S4 {α:Type} (p:α→Prop) [DecidablePred p] (d:α→Int):∀(s:List α),(∀x∈s,p x→0≤d x) →
  (s.foldl (fun b x=>if p x then bst b (d x) else b) (-1)=-1∧∀x∈s,¬p x)∨(0≤s.foldl (fun b x=>if p x then bst b (d x) else b) (-1)∧(∃x∈s,p x∧s.foldl (fun b x=>if p x then bst b (d x) else b) (-1)=d x)∧∀x∈s,p x→s.foldl (fun b x=>if p x then bst b (d x) else b) (-1)≤d x):=by
 have key:∀(m:Nat) (s:List α),s.length=m→(∀x∈s,p x→0≤d x) →
   (s.foldl (fun b x=>if p x then bst b (d x) else b) (-1)=-1∧∀x∈s,¬p x)∨(0≤s.foldl (fun b x=>if p x then bst b (d x) else b) (-1)∧(∃x∈s,p x∧s.foldl (fun b x=>if p x then bst b (d x) else b) (-1)=d x)∧∀x∈s,p x→s.foldl (fun b x=>if p x then bst b (d x) else b) (-1)≤d x):=by
  intro m
  induction m with
  | zero=>intro s h _;rw [List.length_eq_zero_iff.1 h];exact .inl ⟨rfl,fun x hx=>by cases hx⟩
  | succ m ih =>
   intro s h hd
   rcases List.eq_nil_or_concat s with e | ⟨s',x,e⟩
   ·rw [e] at h;simp at h
   ·subst e
    rw [List.concat_eq_append] at h hd ⊢
    rw [qD,jQ] at h
    have ih:=ih s' (by omega) fun y hy=>hd y (zL _ hy)
    rw [zG,qM,List.foldl_nil]
    generalize s'.foldl (fun b x=>if p x then bst b (d x) else b) (-1)=b at *
    by_cases c:p x
    ·have hx:=hd x (by simp) c
     rw [if_pos c]
     right
     unfold bst
     by_cases q:b<0∨d x<b
     ·rw [if_pos q]
      refine ⟨hx,⟨x,by simp,c,rfl⟩,fun y hy hp=>?_⟩
      rcases List.mem_append.1 hy with r | r
      ·rcases ih with ⟨_,i2⟩ | ⟨i1,_,i3⟩
       ·exact absurd hp (i2 y r)
       ·have:=i3 y r hp;omega
      ·rw [List.mem_singleton.1 r];exact Int.le_refl _
     ·rw [if_neg q]
      rcases ih with ⟨i1,_⟩ | ⟨i1,⟨y,y1,y2,y3⟩,i3⟩
      ·exact absurd (.inl (by omega)) q
      ·refine ⟨i1,⟨y,zL _ y1,y2,y3⟩,fun z hz hp=>?_⟩
       rcases List.mem_append.1 hz with r | r
       ·exact i3 z r hp
       ·rw [List.mem_singleton.1 r];omega
    ·rw [if_neg c]
     rcases ih with ⟨i1,i2⟩ | ⟨i1,⟨y,y1,y2,y3⟩,i3⟩
     ·refine .inl ⟨i1,fun z hz=>?_⟩
      rcases List.mem_append.1 hz with r | r
      ·exact i2 z r
      ·rw [List.mem_singleton.1 r];exact c
     ·refine .inr ⟨i1,⟨y,zL _ y1,y2,y3⟩,fun z hz hp=>?_⟩
      rcases List.mem_append.1 hz with r | r
      ·exact i3 z r hp
      ·rw [List.mem_singleton.1 r] at hp;exact absurd hp c
 exact fun s=>key s.length s rfl
section
variable {n:Int} {l:List St} (hnet:WC n l=true) (hc:Wk n l=true)
include hnet hc
theorem S5 {k:Nat} (hk:(k:Int)∈Qd l) :
  ((slT l).getD k 0=-1∧∀j,0≤j∧j<(l.length:Int)→j∉Qd l→¬Wa l (Qd l) k j) ∨
  (0≤(slT l).getD k 0∧(∃j,(0≤j∧j<(l.length:Int))∧j∉Qd l∧Wa l (Qd l) k j∧(slT l).getD k 0=wOf l j-wOf l k)∧∀j,0≤j∧j<(l.length:Int)→j∉Qd l→Wa l (Qd l) k j→(slT l).getD k 0≤wOf l j-wOf l k):=by
 have hkr:=ZA hk
 have hkl:k<l.length:=by omega
 have hTin:∀x∈Qd l,x∈Qd l∧0≤x:=fun x hx=>⟨hx,(ZA hx).1⟩
 have hin0:(qC l.length (-1:Int)).getD k 0=-1:=by rw [QA (by simpa using hkl)];simp
 have e:(slT l).getD k 0=(QZ l (Qd l) k l.length).foldl (fun b y=>bst b (wOf l y-wOf l k)) (-1):=by
  rw [slT,Qiy hkl hk _ _ (by simp) (ZF l) hTin,if_pos hk,hin0]
 have e2:(QZ l (Qd l) k l.length).foldl (fun b y=>bst b (wOf l y-wOf l k)) (-1)=(QZ l (Qd l) k l.length).foldl (fun b y=>if True then bst b (wOf l y-wOf l k) else b) (-1):=DM (fun x _ b=>by rw [if_pos trivial]) _
 rw [e,e2]
 have h:=S4 (fun _:Int=>True) (fun y=>wOf l y-wOf l k) (QZ l (Qd l) k l.length) fun y hy _=>by
  obtain ⟨h1,h2,h3⟩:=ins_mem.1 hy
  have:=Cc hnet hk h1 h2 h3
  omega
 rcases h with ⟨h1,h2⟩ | ⟨h1,⟨j,j1,_,j3⟩,h3⟩
 ·exact .inl ⟨h1,fun j hj hjT hJ=>h2 j (ins_mem.2 ⟨hj,hjT,hJ⟩) trivial⟩
 ·obtain ⟨g1,g2,g3⟩:=ins_mem.1 j1
  exact .inr ⟨h1,⟨j,g1,g2,g3,j3⟩,fun z hz hzT hJ=>h3 z (ins_mem.2 ⟨hz,hzT,hJ⟩) trivial⟩
theorem GD {k:Nat} (hkl:k<l.length) (hk:(k:Int)∉Qd l) :
  0≤(slT l).getD k 0∧(∃x∈Qd l,Wa l (Qd l) x k∧(slT l).getD k 0=wOf l k-wOf l x)∧∀x∈Qd l,Wa l (Qd l) x k→(slT l).getD k 0≤wOf l k-wOf l x:=by
 have hTin:∀x∈Qd l,x∈Qd l∧0≤x:=fun x hx=>⟨hx,(ZA hx).1⟩
 have hin0:(qC l.length (-1:Int)).getD k 0=-1:=by rw [QA (by simpa using hkl)];simp
 have e:(slT l).getD k 0=(Qd l).foldl (fun b x=>if Wa l (Qd l) x k then bst b (wOf l k-wOf l x) else b) (-1):=by
  rw [slT,QfC hkl hk _ _ (by simp) hTin,hin0]
 rw [e]
 have h:=S4 (fun x:Int=>Wa l (Qd l) x k) (fun x=>wOf l k-wOf l x) (Qd l) fun x hx hJ=>by
  have:=Cc hnet hx (j:=(k:Int)) (by omega) hk hJ
  omega
 rcases h with ⟨_,h2⟩ | h
 ·exfalso
  obtain ⟨x,hx,hJ⟩:=QgO hnet hc (j:=(k:Int)) (by omega) hk
  exact h2 x hx hJ
 ·exact h
end
end Go.Proofs.Ytiejmoglooaalaa
end
section
open Go Go.HL Go.HL.Dt
namespace Go.Proofs.Ytiejmoglooaalaa
set_option linter.unusedSectionVars false
open Go.Proofs.Try renaming prog → Tp
open Go.HL.HV renaming undef → Ud
section
variable {n:Int} {l:List St} (hnet:WC n l=true)
include hnet
theorem S6 {T F:List Int} (hT:Tr n l T) (hF:Tr n l F) {i:Int} (hi:i∈F) (hiT:i∉T):∃k,k∈T∧k∉F∧Wa l T k i∧Wa l F i k:=by
 have he:=Qz hnet
 have hir:=hF.rg i hi
 have hab:=(Jg hnet hir).2.2
 have hw:∀x∈wo F i,0≤x∧x<(l.length:Int):=fun x hx=>hF.rg x (mem_wo.1 hx).1
 have hsep:=(KS he hF.rg hF.nd hF.fo hi).2
 have hsep:lb l (wo F i) (sA l i)≠lb l (wo F i) (sB l i):=hsep
 obtain ⟨A,hA⟩:∃A,A=T.filter fun k=>decide (lb l (wo F i) (sA l k)=lb l (wo F i) (sB l k)):=⟨_,rfl⟩
 obtain ⟨B,hB⟩:∃B,B=T.filter fun k=>!decide (lb l (wo F i) (sA l k)=lb l (wo F i) (sB l k)):=⟨_,rfl⟩
 have hm:∀y,y∈T↔y∈A++B:=fun y=>by
  rw [jI,hA,hB,jP,jP]
  by_cases c:lb l (wo F i) (sA l y)=lb l (wo F i) (sB l y)
  ·simp [c]
  ·simp [c]
 have hn:(A++B).Nodup:=by
  rw [hA,hB]
  refine List.nodup_append.2 ⟨hT.nd.sublist qY,hT.nd.sublist qY,fun a ha b hb e=>?_⟩
  subst e
  have h1:=(List.mem_filter.1 ha).2
  have h2:=(List.mem_filter.1 hb).2
  rw [h1] at h2
  cases h2
 have hlen:=VU hT.nd hn hm
 have hrg:∀k∈A++B,0≤k∧k<(l.length:Int):=fun k hk=>hT.rg k ((hm k).2 hk)
 have hf:(tkT l (A++B)).length=(A++B).length:=by rw [← Q7 he hT.rg hm,hT.fo,hlen]
 obtain ⟨m,hm1,hm2,hm3⟩:=Gk he hrg hn hf hir hab ((Tr.con hnet hT hir).mono fun k hk=>(hm k).1 hk)
 have hmA:A.length≤m:=by
  rcases qU m A.length with c | c
  ·exfalso
   have hs:∀k∈(A++B).take (m+1),lb l (wo F i) (sA l k)=lb l (wo F i) (sB l k):=fun k hk=>by
    rw [List.take_append_of_le_length (by omega)] at hk
    have:=qV hk
    rw [hA] at this
    exact of_decide_eq_true (List.mem_filter.1 this).2
   refine hsep ?_
   clear hm2
   revert hm3
   generalize sA l i=u
   generalize sB l i=v
   intro h
   induction h with
   | refl v=>rfl
   | edge hk=>exact hs _ hk
   | symm _ ih=>exact ih.symm
   | trans _ _ a b=>exact a.trans b
  ·exact c
 have hk:=Qw (l:=A++B) 0 hm1
 have hkB:(A++B).getD m 0∈B:=by
  rw [QA hm1,List.getElem_append_right hmA]
  exact List.getElem_mem _
 have hkT:=(hm _).2 hk
 generalize (A++B).getD m 0=k at *
 have hcr:lb l (wo F i) (sA l k)≠lb l (wo F i) (sB l k):=by
  rw [hB] at hkB
  have:=(List.mem_filter.1 hkB).2
  intro c
  rw [decide_eq_true c] at this
  cases this
 refine ⟨k,hkT,fun hkF=>?_,?_,hcr⟩
 ·have:k≠i:=fun e=>hiT (e▸hkT)
  exact hcr (Ue he hw (mem_wo.2 ⟨hkF,this⟩))
 ·have e:Qy l (wo T k)=Qy l (wo (A++B) k):=X5 he (fun x hx=>hT.rg x (mem_wo.1 hx).1) fun x=>by rw [mem_wo,mem_wo,← hm]
  unfold Wa at hm2 ⊢
  rw [e];exact hm2
def Sm (n:Int) (l:List St) (F:List Int):Prop:=Tr n l F∧wgt l F=wgt l (Qd l)
theorem QfD (hc:Wk n l=true) {F:List Int} (hF:Tr n l F) {i:Nat} (hi:(i:Int)∈F) (hiT:(i:Int)∉Qd l):(slT l).getD i 0≤wgt l F-wgt l (Qd l):=by
 have hT:=JP hnet hc
 have hir:=hF.rg _ hi
 obtain ⟨k,k1,k2,k3,k4⟩:=S6 hnet hT hF hi hiT
 have s:=(GD hnet hc (k:=i) (by omega) hiT).2.2 k k1 k3
 have hF2:=hF.exch hnet hi (hT.rg k k1) k2 k4
 have w2:=Vx (l:=l) hF.nd hi (j:=k)
 have m2:=Ys hnet hF2
 omega
theorem QfE (hc:Wk n l=true) {i:Nat} (hil:i<l.length) (hiT:(i:Int)∉Qd l):(slT l).getD i 0≠0↔∀F,Sm n l F→(i:Int)∉F:=by
 have hT:=JP hnet hc
 obtain ⟨s1,⟨x,x1,x2,x3⟩,_⟩:=GD hnet hc hil hiT
 constructor
 ·intro h F hF hi
  have:=QfD hnet hc hF.1 hi hiT
  have:=hF.2
  omega
 ·intro h e
  have hF2:=hT.exch hnet x1 (j:=(i:Int)) (by omega) hiT x2
  have w2:=Vx (l:=l) hT.nd x1 (j:=(i:Int))
  exact h _ ⟨hF2,by omega⟩ (zU _ (zV _))
theorem Qiz (hc:Wk n l=true) {i:Nat} (hiT:(i:Int)∈Qd l):(slT l).getD i 0≠0↔∀F,Sm n l F→(i:Int)∈F:=by
 have hT:=JP hnet hc
 have hir:=hT.rg _ hiT
 constructor
 ·intro h F hF
  by_cases c:(i:Int)∈F
  ·exact c
  ·exfalso
   obtain ⟨k,k1,k2,k3,k4⟩:=S6 hnet hF.1 hT hiT c
   have hkr:=hF.1.rg k k1
   have hT2:=hT.exch hnet hiT hkr k2 k4
   have w2:=Vx (l:=l) hT.nd hiT (j:=k)
   have m2:=Ys hnet hT2
   have hF2:=hF.1.exch hnet k1 hir c k3
   have w3:=Vx (l:=l) hF.1.nd k1 (j:=(i:Int))
   have m3:=Ys hnet hF2
   have:=hF.2
   rcases S5 hnet hc hiT with ⟨_,s⟩ | ⟨s0,⟨j,_,_,_,_⟩,s3⟩
   ·exact s k hkr k2 k4
   ·have:=s3 k hkr k2 k4
    omega
 ·intro h e
  rcases S5 hnet hc hiT with ⟨s,_⟩ | ⟨_,⟨j,j1,j2,j3,j4⟩,_⟩
  ·omega
  ·have hT2:=hT.exch hnet hiT j1 j2 j3
   have w2:=Vx (l:=l) hT.nd hiT (j:=j)
   have:=h _ ⟨hT2,by omega⟩
   rcases List.mem_append.1 this with c | c
   ·exact (mem_wo.1 c).2 rfl
   ·rw [List.mem_singleton.1 c] at hiT;exact j2 hiT
theorem Qca {m:Nat} {t:List Int} (h:t.Sublist (Qg m)):t.Pairwise (· < ·)∧∀k∈t,0≤k∧k<(m:Int):=⟨(Do m).sublist h,fun k hk=>startT_mem.1 (h.subset hk)⟩
theorem QhY (hc:Wk n l=true) {F:List Int} (h:F.Sublist (alS l)):DC l 1001 F=true↔Sm n l F:=by
 obtain ⟨h1,h2⟩:=Qca hnet h
 exact QcM hnet hc h2 (Kx h1)
theorem Qra (hc:Wk n l=true) {F:List Int} (h:F.Sublist (alS l)):Sm n l F↔isT n l F=true∧wgt l F=wgt l (frT l):=by
 obtain ⟨h1,h2⟩:=Qca hnet h
 rw [QeN]
 exact ⟨fun h=>⟨Qoq h.1 h1,h.2⟩,fun h=>⟨(Qop h.1).1,h.2⟩⟩
theorem QiA (hc:Wk n l=true):Sm n l (frT l):=⟨Qr9 hnet hc,QeN⟩
end
def QcU (s:Nat) (k:Int):Bool:=decide (s/2 ^ k.toNat%2=1)
def bt (m s:Nat):List Int:=(Qg m).filter (QcU s)
theorem CC (m s:Nat):bt (m+1) s=bt m s++if s/2 ^ m%2=1 then [(m:Int)] else []:=by
 rw [bt,Q6,zA,bt]
 congr 1
 by_cases c:s/2 ^ m%2=1
 ·rw [if_pos c]
  have:QcU s (m:Int)=true:=by rw [QcU,qB];exact decide_eq_true c
  simp [qT,this]
 ·rw [if_neg c]
  have:QcU s (m:Int)=false:=by rw [QcU,qB];exact decide_eq_false c
  simp [qT,this]
theorem CD (m s:Nat):(bt m s).Sublist (Qg m):=qY
theorem Qrb (m s:Nat):bt m (2 ^ m+s)=bt m s:=by
 refine qZ fun k hk=>?_
 have hk:=startT_mem.1 hk
 unfold QcU
 rw [decide_eq_decide]
 obtain ⟨d,hd⟩:∃d,m=k.toNat+1+d:=⟨m-k.toNat-1,by omega⟩
 have:2 ^ m+s=2 ^ k.toNat*(2*2 ^ d)+s:=by
  congr 1
  rw [hd,Nat.pow_add,Nat.pow_add,Nat.pow_one,Nat.mul_assoc]
 rw [this,Nat.mul_add_div (Nat.two_pow_pos _)]
 omega
theorem CE {m s:Nat} (h:s<2 ^ m):bt (m+1) s=bt m s∧bt (m+1) (2 ^ m+s)=bt m s++[(m:Int)]:=by
 rw [CC,CC,Qrb]
 have p:=Nat.two_pow_pos m
 have e1:s/2 ^ m=0:=Nat.div_eq_of_lt h
 have e2:(2 ^ m+s)/2 ^ m=1:=by rw [Nat.add_div_left _ p,e1]
 rw [e1,e2]
 exact ⟨by simp,by simp⟩
def Jt (p:List Int→Bool) (m S:Nat):Nat:=((qI S).filter fun s=>p (bt m s)).length
theorem GE (p:List Int→Bool) (m S:Nat):Jt p m (S+1)=Jt p m S+if p (bt m S)=true then 1 else 0:=by
 unfold Jt
 rw [List.range_succ,zA,qD]
 congr 1
 by_cases c:p (bt m S)=true
 ·rw [if_pos c];simp [qT,c]
 ·rw [if_neg c];simp [qT,c]
theorem YC:∀(m:Nat) (p:List Int→Bool),Wr p (Qg m)=Jt p m (2 ^ m)
 | 0,p=>by
  show Wr p []=_
  rw [Wr]
  have e:bt 0 0=[]:=rfl
  show _=((qI 1).filter fun s=>p (bt 0 s)).length
  have:qI 1=[0]:=rfl
  rw [this]
  by_cases c:p []=true
  ·rw [if_pos c];simp [qT,e,c]
  ·rw [if_neg c];simp [qT,e,c]
 | m+1,p=>by
  rw [Q6,Yv,YC m,YC m]
  unfold Jt
  have e:(2:Nat) ^ (m+1)=2 ^ m+2 ^ m:=by rw [Nat.pow_succ];omega
  rw [e,List.range_add,zA,qD,List.filter_map,qH]
  congr 2
  ·exact qZ fun s hs=>by rw [(CE (List.mem_range.1 hs)).1]
  ·exact qZ fun s hs=>by
    show p (bt m s++[(m:Int)])=p (bt (m+1) (2 ^ m+s))
    rw [(CE (List.mem_range.1 hs)).2]
theorem S7:∀(m:Nat) {F:List Int},F.Sublist (Qg m)→∃s,s<2 ^ m∧bt m s=F
 | 0,F,h=>⟨0,by decide,by
   have:F=[]:=zN h
   rw [this];rfl⟩
 | m+1,F,h=>by
  rw [Q6] at h
  obtain ⟨F1,F2,rfl,h1,h2⟩:=List.sublist_append_iff.1 h
  obtain ⟨s,hs,e⟩:=S7 m h1
  have e2:(2:Nat) ^ (m+1)=2 ^ m+2 ^ m:=by rw [Nat.pow_succ];omega
  rcases List.sublist_cons_iff.1 h2 with h3 | ⟨r,rfl,h3⟩
  ·have:F2=[]:=zN h3
   exact ⟨s,by omega,by rw [(CE hs).1,e,this,qE]⟩
  ·have:r=[]:=zN h3
   exact ⟨2 ^ m+s,by omega,by rw [(CE hs).2,e,this]⟩
theorem S8 {α:Type} {p q:α→Bool}:∀{L:List α},(L.filter fun x=>p x&&q x).length=(L.filter p).length↔∀x∈L,p x=true→q x=true
 | []=>by simp
 | x::L=>by
  have ih:=S8 (p:=p) (q:=q) (L:=L)
  have hle:(L.filter fun x=>p x&&q x).length≤(L.filter p).length:=by
   have:(L.filter fun x=>p x&&q x)=(L.filter p).filter q:=by rw [List.filter_filter];exact qZ fun x _=>Bool.and_comm ..
   rw [this];exact zW ..
  rw [List.forall_mem_cons,← ih]
  cases hp:p x <;> cases hq:q x <;> simp [qT,hp,hq] <;> omega
theorem QcV {α:Type} {p q:α→Bool} {L:List α}:(L.filter fun x=>p x&&q x).length=0↔∀x∈L,p x=true→q x=false:=by
 rw [List.length_eq_zero_iff,List.filter_eq_nil_iff]
 refine forall₂_congr fun x _=>?_
 cases p x <;> cases q x <;> simp
section
variable {n:Int} {l:List St} (hnet:WC n l=true) (hc:Wk n l=true)
include hnet hc
def gdB (n:Int) (l:List St) (F:List Int):Bool:=isT n l F&&decide (wgt l F=wgt l (frT l))
def usB (n:Int) (l:List St) (S:Nat) (k:Int):Nat:=Jt (fun F=>gdB n l F&&decide (k∈F)) l.length S
theorem CF {F:List Int} (h:F.Sublist (alS l)):gdB n l F=true↔Sm n l F:=by
 rw [gdB,zO,decide_eq_true_eq,Qra hnet hc h]
theorem QhZ:Jt (gdB n l) l.length (2 ^ l.length)=cN l 1001:=by
 rw [Qox hnet,← YC]
 exact Zg fun F hF=>by
  rw [Bool.eq_iff_iff,CF hnet hc hF,QhY hnet hc hF]
theorem Qh0 {F:List Int} (h:Sm n l F):Sm n l ((alS l).filter fun k=>decide (k∈F)):=by
 have hm:∀x,x∈F↔x∈(alS l).filter fun k=>decide (k∈F):=fun x=>by
  rw [jP,decide_eq_true_eq,startT_mem]
  exact ⟨fun hx=>⟨h.1.rg x hx,hx⟩,fun hx=>hx.2⟩
 have hn:((alS l).filter fun k=>decide (k∈F)).Nodup:=(Zm _).sublist qY
 exact ⟨h.1.perm hnet hn hm,by rw [← h.2];exact (Du l h.1.nd hn hm).symm⟩
theorem S9 {P:List Int→Prop} (hP:∀F G:List Int,(∀x,x∈F↔x∈G)→(P F↔P G)):(∀s∈qI (2 ^ l.length),gdB n l (bt l.length s)=true→P (bt l.length s))↔∀F,Sm n l F→P F:=by
 constructor
 ·intro h F hF
  obtain ⟨s,hs,e⟩:=S7 l.length (F:=(alS l).filter fun k=>decide (k∈F)) qY
  have hS:=Qh0 hnet hc hF
  rw [← e] at hS
  have:=h s (List.mem_range.2 hs) ((CF hnet hc (CD ..)).2 hS)
  rw [e] at this
  refine (hP _ _ fun x=>?_).1 this
  rw [jP,decide_eq_true_eq,startT_mem]
  exact ⟨fun hx=>hx.2,fun hx=>⟨hF.1.rg x hx,hx⟩⟩
 ·intro h s _ hg
  exact h _ ((CF hnet hc (CD ..)).1 hg)
theorem QfF:fiT (fun k=>decide (usB n l (2 ^ l.length) k=Jt (gdB n l) l.length (2 ^ l.length))) l.length=crA n l:=by
 have ee:slE n l=0:=by rw [slE,if_pos hnet,if_pos hc]
 rw [crA,if_pos ee]
 refine qZ fun k hk=>?_
 have hk:=startT_mem.1 hk
 rw [pAl,decide_eq_decide]
 have e1:usB n l (2 ^ l.length) k=Jt (gdB n l) l.length (2 ^ l.length)↔∀F,Sm n l F→k∈F:=by
  rw [← S9 hnet hc (P:=fun F=>k∈F) fun F G h=>h k]
  unfold usB Jt
  rw [S8 (p:=fun s=>gdB n l (bt l.length s)) (q:=fun s=>decide (k∈bt l.length s))]
  exact forall₂_congr fun s _=>by rw [decide_eq_true_eq]
 rw [e1]
 obtain ⟨i,rfl⟩:=zC hk.1
 rw [qB]
 constructor
 ·intro h
  have hT:(i:Int)∈Qd l:=frT_mem.1 (h _ (QiA hnet hc))
  exact ⟨hT,(Qiz hnet hc hT).2 h⟩
 ·rintro ⟨hT,h⟩
  exact (Qiz hnet hc hT).1 h
theorem QfG:fiT (fun k=>decide (usB n l (2 ^ l.length) k=0)) l.length=crN n l:=by
 have ee:slE n l=0:=by rw [slE,if_pos hnet,if_pos hc]
 rw [crN,if_pos ee]
 refine qZ fun k hk=>?_
 have hk:=startT_mem.1 hk
 rw [pNe,decide_eq_decide]
 have e1:usB n l (2 ^ l.length) k=0↔∀F,Sm n l F→k∉F:=by
  rw [← S9 hnet hc (P:=fun F=>k∉F) fun F G h=>not_congr (h k)]
  unfold usB Jt
  rw [QcV (p:=fun s=>gdB n l (bt l.length s)) (q:=fun s=>decide (k∈bt l.length s))]
  exact forall₂_congr fun s _=>by rw [decide_eq_false_iff_not]
 rw [e1]
 obtain ⟨i,rfl⟩:=zC hk.1
 rw [qB]
 constructor
 ·intro h
  have hT:(i:Int)∉Qd l:=fun hT=>h _ (QiA hnet hc) (frT_mem.2 hT)
  exact ⟨hT,(QfE hnet hc (by omega) hT).2 h⟩
 ·rintro ⟨hT,h⟩
  exact (QfE hnet hc (by omega) hT).1 h
end
end Go.Proofs.Ytiejmoglooaalaa
end
section
open Go Go.HL
namespace Go.Proofs.Ytiejmoglooaalaa
set_option linter.unusedSectionVars false
open Go.Proofs.Try renaming prog → Tp
open Go.HL.HV renaming undef → Ud
def Qh1:FuncId→Option (List HV→Option HV):=fun g=>if g==21 then some Qav else if g==52 then some Zx else if g==54 then some VR else if g==40 then some Dd else if g==71 then some QdV else if g==70 then some QdW else none
theorem Qh2 (n:Nat):Qo Tp (Qb Tp (plF Qh1) n):=QF _ (fun g f h=>by
 unfold Qh1 at h
 split at h
 ·rename_i hg;cases h;rw [eq_of_beq hg];exact Qbq
 split at h
 ·rename_i hg;cases h;rw [eq_of_beq hg];exact VQ
 split at h
 ·rename_i hg;cases h;rw [eq_of_beq hg];exact XA
 split at h
 ·rename_i hg;cases h;rw [eq_of_beq hg];exact Ub
 split at h
 ·rename_i hg;cases h;rw [eq_of_beq hg];exact Qd1
 split at h
 ·rename_i hg;cases h;rw [eq_of_beq hg];exact Qd3
 ·cases h) n
set_option maxRecDepth 100000 in
theorem QcW:Qb Tp (plF Qh1) 400 18 [] []=some (.bool true,[]):=by kernel_rfl
def CG:List HV→Option HV | []=>some (.bool true) | _=>none
theorem QaX:QV Tp 18 CG:=by
 refine Qcv (pol:=plF Qh1) Qh2 (by kernel_rfl) fun args res h=>?_
 match args,h with
 | [],h =>
  cases h
  exact ⟨400,_,_,false,QcW,rfl⟩
theorem QfH {pol':Pol} (hp:pol'.prim 18=some CG) (H:Heap):∀k,Qb Tp pol' (k+1) 18 [] H=some (.bool true,H):=fun k=>by
 rw [WS (pol:=pol') (g:=18) (F:=CG) hp (rs:=[]) rfl (res:=.bool true) rfl];rfl
theorem QfI (l:List Int) (m e:Int) (H:Heap):Zt (.tuple [.own 1 (l.map Qc),.int .i64 m,.int .i64 e]) H=(.tuple [.sl H.length 0 l.length none l.length 1,.int .i64 m,.int .i64 e],H++[bI l]):=by
 have h:Wb (.own 1 (l.map Qc)) H=(.sl H.length 0 l.length none l.length 1,H++[bI l]):=by
  simp only [Wb,Kq,qH];rfl
 simp only [Zt,Zs,ZK,h];rfl
theorem Qrc {b n y:Nat} {cap:Option Nat} (h:y<n):ZI Tp 22 (.sl b 0 n cap n 3) (.int .i64 (y:Int))=some (.ptr b y 0 n):=by
 have:=UV (P:=Tp) (t:=22) (e:=42) (k:=3) (b:=b) (len:=n) (tot:=n) (cap:=cap) (ik:=.i64) (n:=(y:Int)) u22 z42 (by omega) (by omega)
 rwa [qB] at this
theorem QsD {H:Heap} {b:Nat} {o:List St} (h:H[b]?=some (bS o)) {y:Nat} (hy:y<o.length):QH Tp H 3 (.ptr b y 2 o.length)=some (.int .i64 (o.getD y (0,0,0)).2.2) :=
 Kp (P:=Tp) (els:=o.map Qa) (cs:=[.int .i64 (o.getD y (0,0,0)).1,.int .i64 (o.getD y (0,0,0)).2.1,.int .i64 (o.getD y (0,0,0)).2.2]) h (by simp) (by rw [QA hy];simp [hy,Qa]) a3 i3 rfl
theorem QsE {H:Heap} {b:Nat} {o:List St} (h:H[b]?=some (bS o)) {y:Nat} (hy:y<o.length) (v:Int):Q0 Tp H 3 (.ptr b y 2 o.length) (.int .i64 v)=some (H.set b (bS (o.set y ((o.getD y (0,0,0)).1,(o.getD y (0,0,0)).2.1,v)))):=by
 have:=UX (P:=Tp) (t:=3) (b:=b) (i:=y) (off:=2) (tot:=o.length) (v:=.int .i64 v) (els:=o.map Qa) (cs:=[.int .i64 (o.getD y (0,0,0)).1,.int .i64 (o.getD y (0,0,0)).2.1,.int .i64 (o.getD y (0,0,0)).2.2]) h (by simp) (by rw [QA hy];simp [hy,Qa]) z3 rfl rfl (by simp [bnd]) (by simp)
 rw [this,bS,List.map_set]
 rfl
theorem QfJ (a b:List Int) (e:Int) (H:Heap):Zt (.tuple [.own 1 (a.map Qc),.own 1 (b.map Qc),.int .i64 e]) H=(.tuple [.sl H.length 0 a.length none a.length 1,.sl (H.length+1) 0 b.length none b.length 1,.int .i64 e],H++[bI a]++[bI b]):=by
 have h:∀(l:List Int) (H:Heap),Wb (.own 1 (l.map Qc)) H=(.sl H.length 0 l.length none l.length 1,H++[bI l]):=fun l H=>by
  simp only [Wb,Kq,qH];rfl
 simp only [Zt,Zs,ZK,h,qD,jG,jH];rfl
def rvS (s:St):St:=(s.1,s.2.1,QR s.2.2 4)
def rvP (l:List St) (i:Nat):List St:=(l.take i).map rvS++l.drop i
theorem Qh3 (l:List St) {i:Nat} (hi:i≤l.length):(rvP l i).length=l.length:=by rw [rvP,qD,qH,qP,List.length_drop];omega
theorem Qrd {l:List St} {i:Nat} (hi:i<l.length):(rvP l i).getD i (0,0,0)=l.getD i (0,0,0):=by
 have h1:((l.take i).map rvS).length=i:=by rw [qH,qP];omega
 rw [rvP,qJ,qQ (by omega),h1,jE,List.getElem?_drop];rfl
theorem Qh4 {l:List St} {i:Nat} (hi:i<l.length):(rvP l i).set i (rvS (l.getD i (0,0,0)))=rvP l (i+1):=by
 have h1:((l.take i).map rvS).length=i:=by rw [qH,qP];omega
 rw [rvP,jA _ _ (by omega),h1,jE,List.drop_eq_getElem_cons hi,List.set_cons_zero,rvP,zF hi,jZ,qF,QA hi];rfl
theorem Qh5 (l:List St):rvP l l.length=l.map rvS:=by rw [rvP,jX,List.drop_length,qE]
theorem QfK {n:Int} {l:List St} (hnet:WC n l=true):WC n (l.map rvS)=true:=by
 have h:=hnet
 simp only [WC,zO,List.all_eq_true,decide_eq_true_eq,stB] at h ⊢
 refine ⟨fun s hs=>?_,h.2.1,by rw [qH];exact h.2.2⟩
 obtain ⟨r,hr,rfl⟩:=List.mem_map.1 hs
 have g:=h.1 r hr
 have:=Ky r.2.2 (n:=4) (by omega) (by omega)
 exact ⟨g.1,g.2.1,g.2.2.1,by show 0≤QR r.2.2 4∧QR r.2.2 4≤1000;omega⟩
theorem Qre {l:List St} {j:Int} (hj:0≤j∧j<(l.length:Int)):(l.map rvS).getD j.toNat (0,0,0)=rvS (l.getD j.toNat (0,0,0)):=by
 have:j.toNat<l.length:=by omega
 simp [qJ,this]
theorem Qh6 {n:Int} {l:List St} (hnet:WC n l=true) (hc:Wk n l=true):Wk n (l.map rvS)=true:=by
 have hn:=QfK hnet
 obtain ⟨⟨n1,n2⟩,_⟩:=QT hnet
 refine SN hn fun v h0 h1=>?_
 have h:=QgU hnet hc (u:=0) (v:=v) (by omega) ⟨h0,h1⟩
 have h:Cn l (Qg l.length) 0 v:=h.mono fun k hk=>startT_mem.2 (ZA hk)
 rw [qH]
 have key:∀u v:Int,Cn l (Qg l.length) u v→Cn (l.map rvS) (Qg l.length) u v:=fun u v h=>by
  induction h with
  | refl v=>exact .refl v
  | edge hk =>
   have e:=Cn.edge (l:=l.map rvS) hk
   have hr:=startT_mem.1 hk
   rw [sA,sB,Qre hr] at e
   exact e
  | symm _ ih=>exact .symm ih
  | trans _ _ a b=>exact .trans a b
 exact key _ _ h
def WO:FuncId→Option (List HV→Option HV):=fun g=>if g==18 then some CG else if g==24 then some Qbp else if g==25 then some QeI else if g==14 then some Qfr else if g==16 then some Qb3 else if g==30 then some DG else if g==28 then some QbG else if g==22 then some Gd else if g==21 then some Qav else none
theorem Qh7 (n:Nat):Qo Tp (Qb Tp (plF WO) n):=QF _ (fun g f h=>by
 unfold WO at h
 split at h
 ·rename_i hg;cases h;rw [eq_of_beq hg];exact QaX
 split at h
 ·rename_i hg;cases h;rw [eq_of_beq hg];exact QdK
 split at h
 ·rename_i hg;cases h;rw [eq_of_beq hg];exact QgT
 split at h
 ·rename_i hg;cases h;rw [eq_of_beq hg];exact Qft
 split at h
 ·rename_i hg;cases h;rw [eq_of_beq hg];exact Qfv
 split at h
 ·rename_i hg;cases h;rw [eq_of_beq hg];exact SZ
 split at h
 ·rename_i hg;cases h;rw [eq_of_beq hg];exact QeE
 split at h
 ·rename_i hg;cases h;rw [eq_of_beq hg];exact Qaw
 split at h
 ·rename_i hg;cases h;rw [eq_of_beq hg];exact Qbq
 ·cases h) n
theorem QsF:Try.f7.results.toList=[.tmp 4]:=by kernel_rfl
abbrev W8:Pol:=plF WO
theorem QcX {n:Int} {ls:List HV} {own:List St} (hol:own.length≤100) :
  RT W8 7 (sn 122 B7) (let q:=own.length;(Wm (.i n) (.g ls) (.bool false) (.sl 0 0 q none q 3) (.i (0:Int)) Ud Ud Ud Ud Ud Ud Ud Ud Ud Ud Ud Ud Ud Ud Ud Ud Ud Ud)) [bS own] (.exit 0) (let q:=own.length;(Wm (.i n) (.g ls) (.bool false) (.sl 0 0 q none q 3) (.i ((own.length:Nat):Int)) Ud Ud Ud Ud Ud Ud Ud Ud Ud Ud Ud Ud Ud Ud Ud Ud Ud Ud)) [bS (own.map rvS)]:=by
 have r:=Wu (pol':=W8) (f:=7) (E:=fun i=>let q:=own.length;(Wm (.i n) (.g ls) (.bool false) (.sl 0 0 q none q 3) (.i (i:Int)) Ud Ud Ud Ud Ud Ud Ud Ud Ud Ud Ud Ud Ud Ud Ud Ud Ud Ud)) (Hs:=fun i=>[bS (rvP own i)]) own.length (E0:=fun i=>let q:=own.length;(Wm (.i n) (.g ls) (.bool false) (.sl 0 0 q none q 3) (.i ((i+1:Nat):Int)) Ud Ud Ud Ud Ud Ud Ud Ud Ud Ud Ud Ud Ud Ud Ud Ud Ud Ud)) (H1:=fun i=>[bS (rvP own (i+1))]) (fun i hi=>by
  have hl:=Qh3 own (i:=i) (by omega)
  have hg:=Qrd hi
  have ix:=Qrc (b:=0) (cap:=none) hi
  have ld:=QsD (H:=[bS (rvP own i)]) (b:=0) rfl (y:=i) (by omega)
  have c24:=Yu (F:=WO) (by kernel_rfl) (own.getD i (0,0,0)).2.2 (n:=4) (by omega) [bS (rvP own i)]
  have st:=QsE (H:=[bS (rvP own i)]) (b:=0) rfl (y:=i) (by omega) (QR (own.getD i (0,0,0)).2.2 4)
  rw [hl,hg] at ld st
  rw [show ((own.getD i (0,0,0)).1,(own.getD i (0,0,0)).2.1,QR (own.getD i (0,0,0)).2.2 4)=rvS (own.getD i (0,0,0)) from rfl,Qh4 hi] at st
  have s:=QiT (F:=WO) n ls [bS (rvP own i)] own.length i _ _ (by omega) ix ld c24 ix st
  rw [Qj (by omega)] at s
  exact s) (fun i _=>by kernel_rfl) (fun i _=>QI _ rfl) (by
  rw [Qh5]
  exact QiU (F:=WO) n ls [bS (own.map rvS)] own.length own.length 0 0 (by omega)) (by simp) (c:=sn 122 B7) (by kernel_rfl) (fun i _=>by kernel_rfl)
 exact r
def usL (U:Int→Nat) (m:Nat) (t:List Int):List Int:=(Qg m).map fun k=>((U k+if k∈t then 1 else 0:Nat):Int)
theorem J3 (U:Int→Nat) (m:Nat) (t:List Int):(usL U m t).length=m:=by rw [usL,qH,QM]
theorem YD {U:Int→Nat} {m:Nat} {t:List Int} {k:Nat} (h:k<m):(usL U m t).getD k 0=((U (k:Int)+if (k:Int)∈t then 1 else 0:Nat):Int):=by
 rw [usL,Qg,qW,VZ h];rfl
theorem Qh8 {U:Int→Nat} {m:Nat} {t:List Int} {j:Nat} (hj:j<t.length) (hn:t.Nodup) (ht:∀k∈t,0≤k∧k<(m:Int)):(usL U m (t.take j)).set (t.getD j 0).toNat ((usL U m (t.take j)).getD (t.getD j 0).toNat 0+1)=usL U m (t.take (j+1)):=by
 have hx:=ht _ (Qw 0 hj)
 have hno:=Vu hn hj
 rw [WF hj]
 obtain ⟨x,ex⟩:=zC hx.1
 rw [ex] at hx hno ⊢
 rw [qB]
 have hxm:x<m:=by omega
 refine ZU (d:=0) (by rw [jU,J3,J3]) fun k hk=>?_
 rw [jU,J3] at hk
 rw [V0 (by rw [J3];exact hxm),YD hk,YD hk,YD hxm]
 by_cases c:x=k
 ·subst c
  rw [if_pos rfl,if_neg hno,if_pos (zU _ (zV _))];omega
 ·rw [if_neg c]
  have:((k:Int)∈t.take j++[(x:Int)])↔(k:Int)∈t.take j:=by
   rw [jI,zJ]
   exact ⟨fun h=>h.elim id fun e=>absurd (by omega) c,.inl⟩
  by_cases d:(k:Int)∈t.take j
  ·rw [if_pos d,if_pos (this.2 d)]
  ·rw [if_neg d,if_neg fun h=>d (this.1 h)]
abbrev hK (own:List St) (T A B:List Int) (U:List Int):Heap:=[bS own,bI T,bI A,bI B,bI U]
section
variable {n:Int} {ls:List HV} {own:List St} {w c:Int} {T A B:List Int}
theorem QcY (hl:own.length≤16) (U:List Int) (s mm:Nat) (hs:s<65536):RT W8 7 (sn 4192842 B7) ((Wm (.i n) (.g ls) (.bool false) (.sl 0 0 own.length none own.length 3) Ud (.i ((own.length:Nat):Int)) (.i w) (.i 0) (.i c) (.i 0) (.s 2 A.length) (.s 3 B.length) (.i 0) (.i (mm:Int)) (.o 4 own.length) (.i (s:Int)) (.sl 5 0 (bt 0 s).length none (bt 0 s).length 1) (.i (0:Int)) Ud Ud Ud Ud Ud)) (hK own T A B U++[bI (bt 0 s)]) (.exit 4) ((Wm (.i n) (.g ls) (.bool false) (.sl 0 0 own.length none own.length 3) Ud (.i ((own.length:Nat):Int)) (.i w) (.i 0) (.i c) (.i 0) (.s 2 A.length) (.s 3 B.length) (.i 0) (.i (mm:Int)) (.o 4 own.length) (.i (s:Int)) (.sl 5 0 (bt own.length s).length none (bt own.length s).length 1) (.i ((own.length:Nat):Int)) Ud Ud Ud Ud Ud)) (hK own T A B U++[bI (bt own.length s)]):=by
 exact Wu (pol':=W8) (f:=7) (E:=fun i=>(Wm (.i n) (.g ls) (.bool false) (.sl 0 0 own.length none own.length 3) Ud (.i ((own.length:Nat):Int)) (.i w) (.i 0) (.i c) (.i 0) (.s 2 A.length) (.s 3 B.length) (.i 0) (.i (mm:Int)) (.o 4 own.length) (.i (s:Int)) (.sl 5 0 (bt i s).length none (bt i s).length 1) (.i (i:Int)) Ud Ud Ud Ud Ud)) (Hs:=fun i=>hK own T A B U++[bI (bt i s)]) own.length (E0:=fun i=>(Wm (.i n) (.g ls) (.bool false) (.sl 0 0 own.length none own.length 3) Ud (.i ((own.length:Nat):Int)) (.i w) (.i 0) (.i c) (.i 0) (.s 2 A.length) (.s 3 B.length) (.i 0) (.i (mm:Int)) (.o 4 own.length) (.i (s:Int)) (.sl 5 0 (bt (i+1) s).length none (bt (i+1) s).length 1) (.i ((i+1:Nat):Int)) Ud Ud Ud Ud Ud)) (H1:=fun i=>hK own T A B U++[bI (bt (i+1) s)]) (fun i hi=>by
  have hbl:(bt i s).length≤i:=by have:=(CD i s).length_le;rwa [QM] at this
  have sh:Jb Tp .shr 3 (.int .i64 (s:Int)) (.int .i64 (i:Int))=some (.int .i64 ((s/2 ^ i:Nat):Int)):=by
   simp only [BV,Jb,JA]
   rw [if_neg (by omega:¬((i:Int)<0))]
   have:min ((i:Int)).toNat IntKind.i64.bits=i:=by show min ((i:Int)).toNat 64=i;omega
   rw [this]
   have e2:(2:Int) ^ i=((2 ^ i:Nat):Int):=by rw [Int.natCast_pow];rfl
   rw [e2,Int.fdiv_eq_ediv_of_nonneg _ (Int.natCast_nonneg _),← Int.natCast_ediv]
  have ew:qA.wrap ((i:Int)+1)=((i+1:Nat):Int):=by rw [QU (by omega) (by omega)];omega
  have e0:=CC i s
  generalize s/2 ^ i=z at *
  by_cases d:z%2=1
  ·have e1:bt (i+1) s=bt i s++[(i:Int)]:=by rw [e0,if_pos d]
   have ap:=ZR (H:=hK own T A B U++[bI (bt i s)]) (b:=5) (o:=bt i s) rfl (by omega) (i:Int)
   have s1:=Qi6 (F:=WO) n ls (hK own T A B U++[bI (bt i s)]) own.length w c 2 A.length 3 B.length mm 4 s 5 (bt i s).length i (by omega) sh (by rw [jY (by omega)];omega) ap
   rw [ew] at s1
   rw [e1,qD,jQ]
   exact s1
  ·have e1:bt (i+1) s=bt i s:=by rw [e0,if_neg d,qE]
   have s1:=Qi7 (F:=WO) n ls (hK own T A B U++[bI (bt i s)]) own.length w c 2 A.length 3 B.length mm 4 s 5 (bt i s).length i (by omega) sh (by rw [jY (by omega)];omega)
   rw [ew] at s1
   rw [e1]
   exact s1) (fun i _=>by kernel_rfl) (fun i _=>QI _ rfl) (Qi8 (F:=WO) n ls (hK own T A B U++[bI (bt own.length s)]) own.length w c 2 A.length 3 B.length mm 4 s 5 (bt own.length s).length own.length (by omega)) (by simp) (c:=sn 4192842 B7) (by kernel_rfl) (fun i _=>by kernel_rfl)
theorem QcZ (hl:own.length≤60) (U:Int→Nat) (hU:∀k,U k≤1000000) (s mm:Nat) {t:List Int} (hn:t.Nodup) (ht:∀k∈t,0≤k∧k<(own.length:Int)) (htl:t.length≤60):RT W8 7 (sn 16771390 B7) ((Wm (.i n) (.g ls) (.bool false) (.sl 0 0 own.length none own.length 3) Ud (.i ((own.length:Nat):Int)) (.i w) (.i 0) (.i c) (.i 0) (.s 2 A.length) (.s 3 B.length) (.i 0) (.i (mm:Int)) (.o 4 own.length) (.i (s:Int)) (.sl 5 0 (t).length none (t).length 1) Ud (.i (0:Int)) Ud Ud Ud Ud)) (hK own T A B (usL U own.length [])++[bI t]) (.exit 6) ((Wm (.i n) (.g ls) (.bool false) (.sl 0 0 own.length none own.length 3) Ud (.i ((own.length:Nat):Int)) (.i w) (.i 0) (.i c) (.i 0) (.s 2 A.length) (.s 3 B.length) (.i 0) (.i (mm:Int)) (.o 4 own.length) (.i (s:Int)) (.sl 5 0 (t).length none (t).length 1) Ud (.i ((t.length:Nat):Int)) Ud Ud Ud Ud)) (hK own T A B (usL U own.length t)++[bI t]):=by
 have h:=Wu (pol':=W8) (f:=7) (E:=fun j=>(Wm (.i n) (.g ls) (.bool false) (.sl 0 0 own.length none own.length 3) Ud (.i ((own.length:Nat):Int)) (.i w) (.i 0) (.i c) (.i 0) (.s 2 A.length) (.s 3 B.length) (.i 0) (.i (mm:Int)) (.o 4 own.length) (.i (s:Int)) (.sl 5 0 (t).length none (t).length 1) Ud (.i (j:Int)) Ud Ud Ud Ud)) (Hs:=fun j=>hK own T A B (usL U own.length (t.take j))++[bI t]) t.length (E0:=fun j=>(Wm (.i n) (.g ls) (.bool false) (.sl 0 0 own.length none own.length 3) Ud (.i ((own.length:Nat):Int)) (.i w) (.i 0) (.i c) (.i 0) (.s 2 A.length) (.s 3 B.length) (.i 0) (.i (mm:Int)) (.o 4 own.length) (.i (s:Int)) (.sl 5 0 (t).length none (t).length 1) Ud (.i ((j+1:Nat):Int)) (.i (t.getD j 0)) Ud Ud Ud)) (H1:=fun j=>hK own T A B (usL U own.length (t.take (j+1)))++[bI t]) (fun j hj=>by
  have hx:=ht _ (Qw 0 hj)
  have hset:=Qh8 (U:=U) hj hn ht
  have hl:=J3 U own.length (t.take j)
  have ld:=Q3 (H:=hK own T A B (usL U own.length (t.take j))++[bI t]) (k:=4) (o:=usL U own.length (t.take j)) rfl (y:=(t.getD j 0).toNat) (by omega)
  have st:=Zl (H:=hK own T A B (usL U own.length (t.take j))++[bI t]) (k:=4) (o:=usL U own.length (t.take j)) rfl (y:=(t.getD j 0).toNat) (by omega) ((usL U own.length (t.take j)).getD (t.getD j 0).toNat 0+1)
  rw [hset] at st
  rw [hl] at ld st
  have hv:0≤(usL U own.length (t.take j)).getD (t.getD j 0).toNat 0∧(usL U own.length (t.take j)).getD (t.getD j 0).toNat 0≤1000001:=by
   rw [YD (by omega)]
   have:=hU ((t.getD j 0).toNat:Int)
   split <;> omega
  generalize (usL U own.length (t.take j)).getD (t.getD j 0).toNat 0=v at *
  have ix:ZI Tp 24 (.sl 4 0 own.length (some own.length) own.length 1) (.int .i64 (t.getD j 0))=some (.ptr 4 (t.getD j 0).toNat 0 own.length):=QrZ hx
  have s1:=Qje (F:=WO) n ls (hK own T A B (usL U own.length (t.take j))++[bI t]) own.length w c 2 A.length 3 B.length mm 4 s 5 t.length j (t.getD j 0) v (by omega) (JM u24 z3 hj) (Q3 (H:=hK own T A B (usL U own.length (t.take j))++[bI t]) (k:=5) rfl hj) ix ld ix (by rw [QU (by omega) (by omega)];exact st)
  rw [show qA.wrap ((j:Int)+1)=((j+1:Nat):Int) by rw [QU (by omega) (by omega)];omega] at s1
  exact s1) (fun j _=>by kernel_rfl) (fun j _=>QI _ rfl) (Qjf (F:=WO) n ls (hK own T A B (usL U own.length (t.take t.length))++[bI t]) own.length w c 2 A.length 3 B.length mm 4 s 5 t.length t.length 0 0 (by omega)) (by simp) (c:=sn 16771390 B7) (by kernel_rfl) (fun j _=>by kernel_rfl)
 rw [List.take_zero,jX] at h
 exact h
end
theorem Qcb (p:List Int→Bool) (m S:Nat):Jt p m S≤S:=by
 have:=zW (fun s=>p (bt m s)) (qI S)
 rwa [List.length_range] at this
section
variable {n:Int} {ls:List HV} {own:List St} {w c:Int} {T A B:List Int}
theorem QfL (S:Nat) (k:Int):usB n own (S+1) k=usB n own S k+if gdB n own (bt own.length S)=true∧k∈bt own.length S then 1 else 0:=by
 unfold usB
 rw [GE]
 congr 1
 by_cases a:gdB n own (bt own.length S)=true <;> by_cases b:k∈bt own.length S <;> simp [a,b]
theorem Qsl {q:Nat} (hq:q≤16):Jb Tp .shl 3 (.int .i64 1) (.int .i64 (q:Int))=some (.int .i64 ((2 ^ q:Nat):Int)):=by
 simp only [BV,Jb,JA]
 rw [if_neg (by omega:¬((q:Int)<0))]
 have:min ((q:Int)).toNat IntKind.i64.bits=q:=by show min ((q:Int)).toNat 64=q;omega
 rw [this,Int.one_mul]
 have e2:(2:Int) ^ q=((2 ^ q:Nat):Int):=by rw [Int.natCast_pow];rfl
 have h:(2:Nat) ^ q≤65536:=Nat.le_trans (Nat.pow_le_pow_right (by omega) hq) (by decide)
 rw [e2]
 generalize (2:Nat) ^ q=z at *
 rw [QU (by omega) (by omega)]
theorem Qc0 (hnet:WC n own=true) (hl:own.length≤16) (hw:w=wgt own (frT own)) :
  RT W8 7 (sn 16378 B7) ((Wm (.i n) (.g ls) (.bool false) (.sl 0 0 own.length none own.length 3) Ud (.i ((own.length:Nat):Int)) (.i w) (.i 0) (.i c) (.i 0) (.s 2 A.length) (.s 3 B.length) (.i 0) (.i (0:Int)) (.o 4 own.length) (.i (0:Int)) Ud Ud Ud Ud Ud Ud Ud)) (hK own T A B (usL (usB n own 0) own.length [])) (.exit 2) ((Wm (.i n) (.g ls) (.bool false) (.sl 0 0 own.length none own.length 3) Ud (.i ((own.length:Nat):Int)) (.i w) (.i 0) (.i c) (.i 0) (.s 2 A.length) (.s 3 B.length) (.i 0) (.i ((Jt (gdB n own) own.length (2 ^ own.length):Nat):Int)) (.o 4 own.length) (.i ((2 ^ own.length:Nat):Int)) Ud Ud Ud Ud Ud Ud Ud)) (hK own T A B (usL (usB n own (2 ^ own.length)) own.length [])):=by
 obtain ⟨⟨n1,n2⟩,n3,he,hwr⟩:=QT hnet
 have hN:2 ^ own.length≤65536:=Nat.le_trans (Nat.pow_le_pow_right (by omega) hl) (by decide)
 have hwB:wB own=true:=wB_iff.2 fun s hs=>by have:=hwr s hs;omega
 obtain ⟨x,E',H',r,rfl,rfl,rfl⟩:=KK (pol':=W8) (f:=7) (b:=sn 32756 B7) (c:=sn 16378 B7)
  (I:=fun s e H=>e=(Wm (.i n) (.g ls) (.bool false) (.sl 0 0 own.length none own.length 3) Ud (.i ((own.length:Nat):Int)) (.i w) (.i 0) (.i c) (.i 0) (.s 2 A.length) (.s 3 B.length) (.i 0) (.i ((Jt (gdB n own) own.length s:Nat):Int)) (.o 4 own.length) (.i (s:Int)) Ud Ud Ud Ud Ud Ud Ud)∧H=hK own T A B (usL (usB n own s) own.length []))
  (Q:=fun x E' H'=>x=.exit 2∧E'=(Wm (.i n) (.g ls) (.bool false) (.sl 0 0 own.length none own.length 3) Ud (.i ((own.length:Nat):Int)) (.i w) (.i 0) (.i c) (.i 0) (.s 2 A.length) (.s 3 B.length) (.i 0) (.i ((Jt (gdB n own) own.length (2 ^ own.length):Nat):Int)) (.o 4 own.length) (.i ((2 ^ own.length:Nat):Int)) Ud Ud Ud Ud Ud Ud Ud)∧H'=hK own T A B (usL (usB n own (2 ^ own.length)) own.length [])) (2 ^ own.length)
  (by
   rintro s hs e H ⟨rfl,rfl⟩
   have cs:=GE (gdB n own) own.length s
   have cle:=Qcb (gdB n own) own.length s
   have us:=QfL (n:=n) (own:=own) s
   have ule:∀k,usB n own s k≤1000000:=fun k=>by have:=Qcb (fun F=>gdB n own F&&decide (k∈F)) own.length s;unfold usB;omega
   obtain ⟨U,hU⟩:∃U,U=usB n own s:=⟨_,rfl⟩
   obtain ⟨mm,hmm⟩:∃mm,mm=Jt (gdB n own) own.length s:=⟨_,rfl⟩
   rw [← hmm] at cs cle ⊢
   rw [← hU] at us ule ⊢
   have s1:=Qi2 (F:=WO) n ls (hK own T A B (usL U own.length [])) own.length w c 2 A.length 3 B.length mm 4 s (Qsl hl) (by omega)
   have s2:=Qi4 (F:=WO) n ls (hK own T A B (usL U own.length [])) own.length w c 2 A.length 3 B.length mm 4 s 5 0 (v0:=(.sl 5 0 (bt 0 s).length none (bt 0 s).length 1)) (H0:=hK own T A B (usL U own.length [])++[bI (bt 0 s)]) rfl
   have s3:=Qi5 (F:=WO) n ls (hK own T A B (usL U own.length [])++[bI (bt 0 s)]) own.length w c 2 A.length 3 B.length mm 4 s 5 (bt 0 s).length
   have s4:=QcY (n:=n) (ls:=ls) (own:=own) (w:=w) (c:=c) (T:=T) (A:=A) (B:=B) hl (usL U own.length []) s mm (by omega)
   have hsub:=CD own.length s
   have hbl:=hsub.length_le
   rw [QM] at hbl
   have hin:∀k∈bt own.length s,0≤k∧k<(own.length:Int):=fun k hk=>startT_mem.1 (hsub.subset hk)
   have c28:=at3 (pol':=W8) (g:=28) (c1:=kI) (c2:=kS) (c3:=kL) (f:=fun n l t=>if (0≤n∧n≤16)∧DS n l=true∧t.length≤500∧l.length≤500 then some (.bool (isT n l t)) else none) (H:=hK own T A B (usL U own.length [])++[bI (bt own.length s)]) (by kernel_rfl) (ShI _ n) (U4 (b:=0) (l:=own) rfl rfl) (Xu (b:=5) (l:=bt own.length s) rfl rfl) (if_pos ⟨by omega,he,by omega,by omega⟩)
   have c22:=at2 (pol':=W8) (g:=22) (c1:=kS) (c2:=kL) (f:=fun l t=>if inR l.length t=true∧wB l=true∧t.length≤1000 then some (.int .i64 (wgt l t)) else none) (H:=hK own T A B (usL U own.length [])++[bI (bt own.length s)]) (by kernel_rfl) (U4 (b:=0) (l:=own) rfl rfl) (Xu (b:=5) (l:=bt own.length s) rfl rfl) (if_pos ⟨inR_iff.2 hin,hwB,by omega⟩)
   have ew:qA.wrap ((s:Int)+1)=((s+1:Nat):Int):=by rw [QU (by omega) (by omega)];omega
   have key:∀(E1:Env) (mm':Nat) (U':List Int),E1=(Wm (.i n) (.g ls) (.bool false) (.sl 0 0 own.length none own.length 3) Ud (.i ((own.length:Nat):Int)) (.i w) (.i 0) (.i c) (.i 0) (.s 2 A.length) (.s 3 B.length) (.i 0) (.i ((mm':Nat):Int)) (.o 4 own.length) (.i ((s+1:Nat):Int)) Ud Ud Ud Ud Ud Ud Ud)→gc (hK own T A B (usL U own.length [])).length (WY E1) (hK own T A B U'++[bI (bt own.length s)])=hK own T A B U':=by
    rintro _ mm' U' rfl
    have hb:WY ((Wm (.i n) (.g ls) (.bool false) (.sl 0 0 own.length none own.length 3) Ud (.i ((own.length:Nat):Int)) (.i w) (.i 0) (.i c) (.i 0) (.s 2 A.length) (.s 3 B.length) (.i 0) (.i ((mm':Nat):Int)) (.o 4 own.length) (.i ((s+1:Nat):Int)) Ud Ud Ud Ud Ud Ud Ud))=5:=by simp only [WY,bnd,bndL];rfl
    rw [hb]
    exact KN (H:=hK own T A B U') (by show max 0 (max 0 (max 0 (max 0 (max 0 (max 0 0)))))≤5;decide) (by show 5≤5;decide)
   by_cases d:gdB n own (bt own.length s)=true
   ·have d1:=d
    rw [gdB,zO,decide_eq_true_eq] at d1
    rw [d1.1] at c28
    rw [if_pos d] at cs
    have s5:=Qi9 (F:=WO) n ls (hK own T A B (usL U own.length [])++[bI (bt own.length s)]) own.length w c 2 A.length 3 B.length mm 4 s 5 (bt own.length s).length (wgt own (bt own.length s)) (y20:=.i (own.length:Int)) c28 c22 (by omega)
    have s6:=Qjc (F:=WO) n ls (hK own T A B (usL U own.length [])++[bI (bt own.length s)]) own.length w c 2 A.length 3 B.length mm 4 s 5 (bt own.length s).length (y20:=.i (own.length:Int))
    rw [show qA.wrap ((mm:Int)+1)=((mm+1:Nat):Int) by rw [QU (by omega) (by omega)];omega] at s6
    have s7:=Qjd (F:=WO) n ls (hK own T A B (usL U own.length [])++[bI (bt own.length s)]) own.length w c 2 A.length 3 B.length (mm+1) 4 s 5 (bt own.length s).length (y20:=.i (own.length:Int))
    have s8:=QcZ (n:=n) (ls:=ls) (own:=own) (w:=w) (c:=c) (T:=T) (A:=A) (B:=B) (by omega) U ule s (mm+1) (t:=bt own.length s) ((Zm _).sublist hsub) hin (by omega)
    have s9:=QdI (F:=WO) n ls (hK own T A B (usL U own.length (bt own.length s))++[bI (bt own.length s)]) own.length w c 2 A.length 3 B.length (mm+1) 4 s (y19:=(.sl 5 0 (bt own.length s).length none (bt own.length s).length 1)) (y21:=.i ((bt own.length s).length:Int))
    rw [ew] at s9
    have eU:usL (usB n own (s+1)) own.length []=usL U own.length (bt own.length s):=jV fun k _=>by
     rw [us k]
     by_cases e:k∈bt own.length s
     ·rw [if_pos ⟨d,e⟩,if_pos e];simp
     ·rw [if_neg fun h=>e h.2,if_neg e];simp
    have el:QP W8 7 (sn 32756 B7) ((Wm (.i n) (.g ls) (.bool false) (.sl 0 0 own.length none own.length 3) Ud (.i ((own.length:Nat):Int)) (.i w) (.i 0) (.i c) (.i 0) (.s 2 A.length) (.s 3 B.length) (.i 0) (.i ((mm+1:Nat):Int)) (.o 4 own.length) (.i ((s+1:Nat):Int)) (.sl 5 0 (bt own.length s).length none (bt own.length s).length 1) Ud (.i ((bt own.length s).length:Int)) Ud Ud Ud Ud))=(Wm (.i n) (.g ls) (.bool false) (.sl 0 0 own.length none own.length 3) Ud (.i ((own.length:Nat):Int)) (.i w) (.i 0) (.i c) (.i 0) (.s 2 A.length) (.s 3 B.length) (.i 0) (.i ((mm+1:Nat):Int)) (.o 4 own.length) (.i ((s+1:Nat):Int)) Ud Ud Ud Ud Ud Ud Ud):=by kernel_rfl
    refine ⟨_,_,sq (s1) (sq (RunsTo.block_normal (i:=3) (c:=sn 131026 B7) (sq (s2) (sq (sq (s3) (bke (c:=sn 2096421 B7) (s4)) (c:=sn 1048210 B7)) (sq (s5) (sq (s6) (sq (s7) (bke (c:=sn 8385695 B7) (lpi (e0:=(Wm (.i n) (.g ls) (.bool false) (.sl 0 0 own.length none own.length 3) Ud (.i ((own.length:Nat):Int)) (.i w) (.i 0) (.i c) (.i 0) (.s 2 A.length) (.s 3 B.length) (.i 0) (.i ((mm+1:Nat):Int)) (.o 4 own.length) (.i (s:Int)) (.sl 5 0 (bt own.length s).length none (bt own.length s).length 1) (.i (own.length:Int)) (.i (0:Int)) Ud Ud Ud Ud)) s8 (b:=sn 33542780 B7))) (c:=sn 4192847 B7)) (c:=sn 2096423 B7)) (c:=sn 1048211 B7)) (c:=sn 524105 B7)) (c:=sn 262052 B7)) (by kernel_rfl)) (s9) (c:=sn 65513 B7)) (c:=sn 32756 B7),?_,?_⟩
    ·rw [cs];exact el
    ·rw [eU];exact key _ _ _ el
   ·rw [if_neg d,Nat.add_zero] at cs
    have s5:RT W8 7 (sn 2096422 B7) ((Wm (.i n) (.g ls) (.bool false) (.sl 0 0 own.length none own.length 3) Ud (.i ((own.length:Nat):Int)) (.i w) (.i 0) (.i c) (.i 0) (.s 2 A.length) (.s 3 B.length) (.i 0) (.i (mm:Int)) (.o 4 own.length) (.i (s:Int)) (.sl 5 0 (bt own.length s).length none (bt own.length s).length 1) (.i ((own.length:Nat):Int)) Ud Ud Ud Ud Ud)) (hK own T A B (usL U own.length [])++[bI (bt own.length s)]) (.exit 3) ((Wm (.i n) (.g ls) (.bool false) (.sl 0 0 own.length none own.length 3) Ud (.i ((own.length:Nat):Int)) (.i w) (.i 0) (.i c) (.i 0) (.s 2 A.length) (.s 3 B.length) (.i 0) (.i (mm:Int)) (.o 4 own.length) (.i (s:Int)) (.sl 5 0 (bt own.length s).length none (bt own.length s).length 1) (.i ((own.length:Nat):Int)) Ud Ud Ud Ud Ud)) (hK own T A B (usL U own.length [])++[bI (bt own.length s)]):=by
     cases ht:isT n own (bt own.length s) with
     | true =>
      rw [ht] at c28
      exact Qja (F:=WO) n ls (hK own T A B (usL U own.length [])++[bI (bt own.length s)]) own.length w c 2 A.length 3 B.length mm 4 s 5 (bt own.length s).length (wgt own (bt own.length s)) (y20:=.i (own.length:Int)) c28 c22 (fun e=>d (by rw [gdB,ht,decide_eq_true (by omega)];rfl))
     | false =>
      rw [ht] at c28
      exact Qjb (F:=WO) n ls (hK own T A B (usL U own.length [])++[bI (bt own.length s)]) own.length w c 2 A.length 3 B.length mm 4 s 5 (bt own.length s).length 0 (y20:=.i (own.length:Int)) c28
    have s9:=QdI (F:=WO) n ls (hK own T A B (usL U own.length [])++[bI (bt own.length s)]) own.length w c 2 A.length 3 B.length mm 4 s (y19:=(.sl 5 0 (bt own.length s).length none (bt own.length s).length 1)) (y20:=.i (own.length:Int))
    rw [ew] at s9
    have eU:usL (usB n own (s+1)) own.length []=usL U own.length []:=jV fun k _=>by
     rw [us k,if_neg fun h=>d h.1];simp
    have el:QP W8 7 (sn 32756 B7) ((Wm (.i n) (.g ls) (.bool false) (.sl 0 0 own.length none own.length 3) Ud (.i ((own.length:Nat):Int)) (.i w) (.i 0) (.i c) (.i 0) (.s 2 A.length) (.s 3 B.length) (.i 0) (.i (mm:Int)) (.o 4 own.length) (.i ((s+1:Nat):Int)) (.sl 5 0 (bt own.length s).length none (bt own.length s).length 1) (.i (own.length:Int)) Ud Ud Ud Ud Ud))=(Wm (.i n) (.g ls) (.bool false) (.sl 0 0 own.length none own.length 3) Ud (.i ((own.length:Nat):Int)) (.i w) (.i 0) (.i c) (.i 0) (.s 2 A.length) (.s 3 B.length) (.i 0) (.i (mm:Int)) (.o 4 own.length) (.i ((s+1:Nat):Int)) Ud Ud Ud Ud Ud Ud Ud):=by kernel_rfl
    refine ⟨_,_,sq (s1) (sq (bke (c:=sn 131026 B7) (sq (s2) (sq (sq (s3) (bke (c:=sn 2096421 B7) (s4)) (c:=sn 1048210 B7)) (sqo (s5) (c:=sn 1048211 B7) (b:=sn 2096423 B7)) (c:=sn 524105 B7)) (c:=sn 262052 B7))) (s9) (c:=sn 65513 B7)) (c:=sn 32756 B7),?_,?_⟩
    ·rw [cs];exact el
    ·rw [eU];exact key _ _ _ el)
  (by
   rintro e H ⟨rfl,rfl⟩
   have s1:=Qi3 (F:=WO) n ls (hK own T A B (usL (usB n own (2 ^ own.length)) own.length [])) own.length w c 2 A.length 3 B.length (Jt (gdB n own) own.length (2 ^ own.length)) 4 (2 ^ own.length) (Qsl hl) (by omega)
   exact ⟨_,_,_,sqo (s1) (c:=sn 32756 B7) (b:=sn 65513 B7),by simp,rfl,rfl,rfl⟩)
  (by kernel_rfl) (by rintro k e H ⟨rfl,_⟩;kernel_rfl) (e:=(Wm (.i n) (.g ls) (.bool false) (.sl 0 0 own.length none own.length 3) Ud (.i ((own.length:Nat):Int)) (.i w) (.i 0) (.i c) (.i 0) (.s 2 A.length) (.s 3 B.length) (.i 0) (.i (0:Int)) (.o 4 own.length) (.i (0:Int)) Ud Ud Ud Ud Ud Ud Ud)) (H:=hK own T A B (usL (usB n own 0) own.length [])) ⟨rfl,rfl⟩
 exact r
theorem Qc1 (hl:own.length≤60) (U:Int→Nat) (mm:Nat) {pA pN:Int→Bool} (hA:pA=fun k=>decide (U k=mm)) (hN:pN=fun k=>decide (U k=0)) :
  RT W8 7 (sn 65530 B7) ((Wm (.i n) (.g ls) (.bool false) Ud Ud (.i ((own.length:Nat):Int)) Ud (.i 0) (.i c) (.i 0) (.s 2 A.length) (.s 3 B.length) (.i 0) (.i (mm:Int)) (.o 4 own.length) Ud Ud Ud Ud Ud (.sl 5 0 (fiT pA 0).length none (fiT pA 0).length 1) (.sl 6 0 (fiT pN 0).length none (fiT pN 0).length 1) (.i (0:Int)))) (hK own T A B (usL U own.length [])++[bI (fiT pA 0),bI (fiT pN 0)]) (.exit 8) ((Wm (.i n) (.g ls) (.bool false) Ud Ud (.i ((own.length:Nat):Int)) Ud (.i 0) (.i c) (.i 0) (.s 2 A.length) (.s 3 B.length) (.i 0) (.i (mm:Int)) (.o 4 own.length) Ud Ud Ud Ud Ud (.sl 5 0 (fiT pA own.length).length none (fiT pA own.length).length 1) (.sl 6 0 (fiT pN own.length).length none (fiT pN own.length).length 1) (.i ((own.length:Nat):Int)))) (hK own T A B (usL U own.length [])++[bI (fiT pA own.length),bI (fiT pN own.length)]):=by
 exact Wu (pol':=W8) (f:=7) (E:=fun i=>(Wm (.i n) (.g ls) (.bool false) Ud Ud (.i ((own.length:Nat):Int)) Ud (.i 0) (.i c) (.i 0) (.s 2 A.length) (.s 3 B.length) (.i 0) (.i (mm:Int)) (.o 4 own.length) Ud Ud Ud Ud Ud (.sl 5 0 (fiT pA i).length none (fiT pA i).length 1) (.sl 6 0 (fiT pN i).length none (fiT pN i).length 1) (.i (i:Int)))) (Hs:=fun i=>hK own T A B (usL U own.length [])++[bI (fiT pA i),bI (fiT pN i)]) own.length (E0:=fun i=>(Wm (.i n) (.g ls) (.bool false) Ud Ud (.i ((own.length:Nat):Int)) Ud (.i 0) (.i c) (.i 0) (.s 2 A.length) (.s 3 B.length) (.i 0) (.i (mm:Int)) (.o 4 own.length) Ud Ud Ud Ud Ud (.sl 5 0 (fiT pA (i+1)).length none (fiT pA (i+1)).length 1) (.sl 6 0 (fiT pN (i+1)).length none (fiT pN (i+1)).length 1) (.i (((i+1):Nat):Int)))) (H1:=fun i=>hK own T A B (usL U own.length [])++[bI (fiT pA (i+1)),bI (fiT pN (i+1))]) (fun i hi=>by
  have la:=YA pA i
  have ln:=YA pN i
  have hul:=J3 U own.length []
  have hu:=YD (U:=U) (t:=[]) hi
  rw [if_neg (by simp),Nat.add_zero] at hu
  have ld:∀X:Heap,QH Tp (hK own T A B (usL U own.length [])++X) 3 (.ptr 4 i 0 own.length)=some (.int .i64 (U (i:Int):Int)):=fun X=>by
   have:=Q3 (H:=hK own T A B (usL U own.length [])++X) (k:=4) (o:=usL U own.length []) rfl (y:=i) (by omega)
   rw [hul,hu] at this
   exact this
  have ix:=JM (b:=4) (cap:=some own.length) u24 z3 hi
  have ew:qA.wrap ((i:Int)+1)=((i+1:Nat):Int):=by rw [QU (by omega) (by omega)];omega
  have fA:=Uj pA i
  have fN:=Uj pN i
  have apA:=ZR (H:=hK own T A B (usL U own.length [])++[bI (fiT pA i),bI (fiT pN i)]) (b:=5) (o:=fiT pA i) rfl (by omega) (i:Int)
  have eA:(hK own T A B (usL U own.length [])++[bI (fiT pA i),bI (fiT pN i)]).set 5 (bI (fiT pA i++[(i:Int)]))=hK own T A B (usL U own.length [])++[bI (fiT pA i++[(i:Int)]),bI (fiT pN i)]:=rfl
  rw [eA] at apA
  have apN:∀X:Blk,Zu (hK own T A B (usL U own.length [])++[X,bI (fiT pN i)]) 1 8 (.sl 6 0 (fiT pN i).length none (fiT pN i).length 1) [.int .i64 (i:Int)]=some (.sl 6 0 ((fiT pN i).length+1) none ((fiT pN i).length+1) 1,hK own T A B (usL U own.length [])++[X,bI (fiT pN i++[(i:Int)])]):=fun X=>ZR (H:=hK own T A B (usL U own.length [])++[X,bI (fiT pN i)]) (b:=6) (o:=fiT pN i) rfl (by omega) (i:Int)
  by_cases cA:U (i:Int)=mm
  ·have a1:pA (i:Int)=true:=by rw [hA];exact decide_eq_true cA
   rw [if_pos a1] at fA
   by_cases cN:U (i:Int)=0
   ·have a2:pN (i:Int)=true:=by rw [hN];exact decide_eq_true cN
    rw [if_pos a2] at fN
    have s:=Qji (F:=WO) n ls (hK own T A B (usL U own.length [])++[bI (fiT pA i),bI (fiT pN i)]) own.length c 2 A.length 3 B.length mm 4 5 (fiT pA i).length 6 (fiT pN i).length i _ (by omega) ix (ld _) (by omega) apA ix (ld _) (by omega) (apN _)
    rw [ew] at s
    rw [fA,fN,qD,qD,jQ]
    exact s
   ·have a2:¬pN (i:Int)=true:=by rw [hN];exact fun h=>cN (of_decide_eq_true h)
    rw [if_neg a2,qE] at fN
    have s:=Qjj (F:=WO) n ls (hK own T A B (usL U own.length [])++[bI (fiT pA i),bI (fiT pN i)]) own.length c 2 A.length 3 B.length mm 4 5 (fiT pA i).length 6 (fiT pN i).length i _ (by omega) ix (ld _) (by omega) apA ix (ld _) (by omega)
    rw [ew] at s
    rw [fA,fN,qD,jQ]
    exact s
  ·have a1:¬pA (i:Int)=true:=by rw [hA];exact fun h=>cA (of_decide_eq_true h)
   rw [if_neg a1,qE] at fA
   by_cases cN:U (i:Int)=0
   ·have a2:pN (i:Int)=true:=by rw [hN];exact decide_eq_true cN
    rw [if_pos a2] at fN
    have s:=Qjk (F:=WO) n ls (hK own T A B (usL U own.length [])++[bI (fiT pA i),bI (fiT pN i)]) own.length c 2 A.length 3 B.length mm 4 5 (fiT pA i).length 6 (fiT pN i).length i _ (by omega) ix (ld _) (by omega) ix (ld _) (by omega) (apN _)
    rw [ew] at s
    rw [fA,fN,qD,jQ]
    exact s
   ·have a2:¬pN (i:Int)=true:=by rw [hN];exact fun h=>cN (of_decide_eq_true h)
    rw [if_neg a2,qE] at fN
    have s:=Qjl (F:=WO) n ls (hK own T A B (usL U own.length [])++[bI (fiT pA i),bI (fiT pN i)]) own.length c 2 A.length 3 B.length mm 4 5 (fiT pA i).length 6 (fiT pN i).length i _ (by omega) ix (ld _) (by omega) ix (ld _) (by omega)
    rw [ew] at s
    rw [fA,fN]
    exact s) (fun i _=>by kernel_rfl) (fun i _=>QI _ rfl) (Qjm (F:=WO) n ls (hK own T A B (usL U own.length [])++[bI (fiT pA own.length),bI (fiT pN own.length)]) own.length c 2 A.length 3 B.length mm 4 5 (fiT pA own.length).length 6 (fiT pN own.length).length own.length 0 (by omega)) (by simp) (c:=sn 65530 B7) (by kernel_rfl) (fun i _=>by kernel_rfl)
end
theorem XG (n:Int) (l:List St):∃E H,RT W8 7 B7 (Kh [.int .i64 n,.imm .arg 3 (l.map Qa)]) [] .ret E H∧E.get 4=.bool true:=by
 have a:=QiP (F:=WO) n (l.map Qa)
 have hp:=Ky n (n:=5) (by omega) (by omega)
 have b:=QiQ (F:=WO) n (l.map Qa) [] (QR n 5) (Yu (F:=WO) (by kernel_rfl) n (n:=5) (by omega) [])
 have hw:qA.wrap (1+QR n 5)=1+QR n 5:=Qs (by omega) (by omega)
 rw [hw] at b
 generalize hm:1+QR n 5=m at *
 have hm1:1≤m∧m≤5:=by omega
 have c25:=at3 (pol':=W8) (g:=25) (c1:=kS) (c2:=kI) (c3:=kI) (f:=fun l n most=>if (1≤n∧n≤100)∧0≤most∧most≤100 then some (.own 3 ((V2 n l most).map Qa)) else none) (H:=[]) (by kernel_rfl) (Qbk _ l) (ShI _ m) (ShI _ 4) (if_pos ⟨by omega,by omega,by omega⟩)
 rw [QdC] at c25
 have hnet0:=QbL (n:=m) (by omega) l (most:=4) (by omega)
 have hc0:=QeM (n:=m) (by omega) l (most:=4) (by omega)
 have hol:=QbK m l 4
 generalize V2 m l 4=own0 at *
 have hol:own0.length≤8:=by omega
 have c:=QiR (F:=WO) m (l.map Qa) [] own0.length c25
 have d:=QiS (F:=WO) m (l.map Qa) [bS own0] own0.length
 have r1:=QcX (n:=m) (ls:=l.map Qa) (own:=own0) (by omega)
 have hnet:=QfK hnet0
 have hc:=Qh6 hnet0 hc0
 have hlen:(own0.map rvS).length=own0.length:=qH ..
 rw [← hlen] at hol r1
 simp only [← hlen] at c d
 generalize own0.map rvS=own at *
 have ee:slE m own=0:=by rw [slE,if_pos hnet,if_pos hc]
 have e:=QiV (F:=WO) m (l.map Qa) [bS own] own.length (y6:=.i (own.length:Int))
 have c14:=at2 (pol':=W8) (g:=14) (c1:=kI) (c2:=kS) (f:=fun n l=>if l.length≤500∧n≤13 then some (.tuple [.own 1 ((trG n l).map Qc),.int .i64 (trW n l),.int .i64 (slE n l)]) else none) (H:=[bS own]) (v2:=.sl 0 0 own.length none own.length 3) (by kernel_rfl) (ShI _ m) (U4 rfl rfl) (if_pos ⟨by omega,by omega⟩)
 rw [QfI,trG,trW,ee,if_pos rfl,if_pos rfl] at c14
 have f:=QiW (F:=WO) m (l.map Qa) [bS own] own.length (wgt own (frT own)) 1 (frT own).length (y6:=.i (own.length:Int)) c14
 have c16:=at2 (pol':=W8) (g:=16) (c1:=kI) (c2:=kS) (f:=fun n l=>if l.length≤500 then some (.tuple [.int .i64 (ctT n l),.int .i64 (ctE n l)]) else none) (H:=[bS own]++[bI (frT own)]) (v2:=.sl 0 0 own.length none own.length 3) (by kernel_rfl) (ShI _ m) (U4 rfl rfl) (if_pos (by omega))
 have ectE:ctE m own=0:=if_pos hnet
 rw [Qq9 hnet hc,ectE,← QhZ hnet hc] at c16
 have g:=QiX (F:=WO) m (l.map Qa) ([bS own]++[bI (frT own)]) own.length (wgt own (frT own)) (Jt (gdB m own) own.length (2 ^ own.length):Int) (y6:=.i (own.length:Int)) c16
 have c30:=at2 (pol':=W8) (g:=30) (c1:=kI) (c2:=kS) (f:=fun n l=>if l.length≤500 then some (.tuple [.own 1 ((crA n l).map Qc),.own 1 ((crN n l).map Qc),.int .i64 (slE n l)]) else none) (H:=[bS own]++[bI (frT own)]) (v2:=.sl 0 0 own.length none own.length 3) (by kernel_rfl) (ShI _ m) (U4 rfl rfl) (if_pos (by omega))
 rw [QfJ,ee] at c30
 have h:=QiY (F:=WO) m (l.map Qa) ([bS own]++[bI (frT own)]) own.length (wgt own (frT own)) (Jt (gdB m own) own.length (2 ^ own.length):Int) 2 (crA m own).length 3 (crN m own).length (y6:=.i (own.length:Int)) c30
 have eqA:=QfF hnet hc
 have eqN:=QfG hnet hc
 have lA:(crA m own).length≤60:=by rw [← eqA];have:=YA (fun k=>decide (usB m own (2 ^ own.length) k=Jt (gdB m own) own.length (2 ^ own.length))) own.length;omega
 have lN:(crN m own).length≤60:=by rw [← eqN];have:=YA (fun k=>decide (usB m own (2 ^ own.length) k=0)) own.length;omega
 have r2:=Qc0 (n:=m) (ls:=l.map Qa) (own:=own) (w:=wgt own (frT own)) (c:=(Jt (gdB m own) own.length (2 ^ own.length):Int)) (T:=frT own) (A:=crA m own) (B:=crN m own) hnet (by omega) rfl
 have r3:=Qc1 (n:=m) (ls:=l.map Qa) (own:=own) (c:=(Jt (gdB m own) own.length (2 ^ own.length):Int)) (T:=frT own) (A:=crA m own) (B:=crN m own) (by omega) (usB m own (2 ^ own.length)) (Jt (gdB m own) own.length (2 ^ own.length)) rfl rfl
 rw [eqA,eqN] at r3
 generalize crA m own=A at *
 generalize crN m own=B at *
 generalize hcm:Jt (gdB m own) own.length (2 ^ own.length)=mm at *
 have mk:=Vm (P:=Tp) (H:=[bS own,bI (frT own),bI A,bI B]) (t:=24) (e:=3) (k:=1) (bt:=8) (zv:=.int .i64 0) (n:=(own.length:Int)) u24 (by kernel_rfl) (by simp [cellsOf,Qn]) (by simp [cellsOf]) (by omega) (by omega) (by simp only [WZ];omega)
 rw [qB] at mk
 have erep:Blk.arr 1 (qC own.length (HV.int .i64 0)) true 0=bI (usL (usB m own 0) own.length []):=by
  have:usL (usB m own 0) own.length []=qC own.length 0:=by
   refine ZU (d:=0) (by rw [J3,zE]) fun k hk=>?_
   rw [J3] at hk
   rw [YD hk,if_neg (by simp)]
   show ((0+0:Nat):Int)=_
   simp [qJ,hk]
  rw [this];simp [bI,Qc]
 rw [erep] at mk
 have i:=QiZ (F:=WO) m (l.map Qa) [bS own,bI (frT own),bI A,bI B] own.length (wgt own (frT own)) (mm:Int) 2 A.length 3 B.length (y6:=.i (own.length:Int))
 have j:=Qi0 (F:=WO) m (l.map Qa) [bS own,bI (frT own),bI A,bI B] own.length (wgt own (frT own)) (mm:Int) 2 A.length 3 B.length 0 4 (y6:=.i (own.length:Int)) mk
 have k:=Qi1 (F:=WO) m (l.map Qa) (hK own (frT own) A B (usL (usB m own 0) own.length [])) own.length (wgt own (frT own)) (mm:Int) 2 A.length 3 B.length 0 4 (y6:=.i (own.length:Int))
 have ww:=Qjg (F:=WO) m (l.map Qa) (hK own (frT own) A B (usL (usB m own (2 ^ own.length)) own.length [])) own.length (wgt own (frT own)) (mm:Int) 2 A.length 3 B.length mm 4 5 6 (v0:=.sl 5 0 0 none 0 1) (v1:=.sl 6 0 0 none 0 1) (H0:=hK own (frT own) A B (usL (usB m own (2 ^ own.length)) own.length [])++[bI []]) (H1:=hK own (frT own) A B (usL (usB m own (2 ^ own.length)) own.length [])++[bI [],bI []]) (y18:=.i ((2 ^ own.length:Nat):Int)) rfl rfl
 have x:=Qjh (F:=WO) m (l.map Qa) (hK own (frT own) A B (usL (usB m own (2 ^ own.length)) own.length [])++[bI [],bI []]) own.length (mm:Int) 2 A.length 3 B.length mm 4 5 0 6 0 (y5:=.sl 0 0 own.length none own.length 3) (y9:=.i (wgt own (frT own))) (y18:=.i ((2 ^ own.length:Nat):Int))
 obtain ⟨K,hK1⟩:∃K,K=hK own (frT own) A B (usL (usB m own (2 ^ own.length)) own.length [])++[bI A,bI B]:=⟨_,rfl⟩
 have c21:∀(X:List Int) (i j:Nat),X.length≤1000→K[i]?=some (bI X)→K[j]?=some (bI X)→∀k,Qb Tp W8 (k+1) 21 [.sl i 0 X.length none X.length 1,.sl j 0 X.length none X.length 1] K=some (.bool true,K):=fun X i j hX h1 h2=>by
  have:=at2 (pol':=W8) (g:=21) (c1:=kL) (c2:=kL) (f:=fun a b=>if a.length≤1000 then some (.bool (decide (a=b))) else none) (H:=K) (v1:=.sl i 0 X.length none X.length 1) (v2:=.sl j 0 X.length none X.length 1) (x:=X) (y:=X) (by kernel_rfl) (Xu rfl h1) (Xu rfl h2) (if_pos hX)
  rw [decide_eq_true rfl] at this
  exact this
 have z:=Qjn (F:=WO) m (l.map Qa) K own.length (mm:Int) 2 A.length 3 B.length mm 4 5 A.length 6 B.length (y25:=.i (own.length:Int)) rfl (c21 A 2 5 (by omega) (by rw [hK1];rfl) (by rw [hK1];rfl)) (c21 B 3 6 (by omega) (by rw [hK1];rfl) (by rw [hK1];rfl)) (QfH (by kernel_rfl) K)
 rw [← hK1] at r3

 exact ⟨_,_,sq (a) (sq (b) (sq (c) (sq (sq (d) (bke (c:=sn 61 B7) (r1)) (c:=sn 30 B7)) (sq (e) (sq (f) (sq (g) (sq (h) (sq (i) (sq (j) (sq (sq (k) (bke (c:=sn 8189 B7) (lpi (e0:=(Wm (.i m) (.g (l.map Qa)) (.bool false) (.sl 0 0 own.length none own.length 3) (.i (own.length:Int)) (.i ((own.length:Nat):Int)) (.i (wgt own (frT own))) (.i 0) (.i (mm:Int)) (.i 0) (.s 2 A.length) (.s 3 B.length) (.i 0) (.i (0:Int)) (.o 4 own.length) (.i (0:Int)) Ud Ud Ud Ud Ud Ud Ud)) r2 (b:=sn 32756 B7))) (c:=sn 4094 B7)) (sq (ww) (sq (sq (x) (bke (c:=sn 32765 B7) (lpi (e0:=(Wm (.i m) (.g (l.map Qa)) (.bool false) (.sl 0 0 own.length none own.length 3) Ud (.i ((own.length:Nat):Int)) (.i (wgt own (frT own))) (.i 0) (.i (mm:Int)) (.i 0) (.s 2 A.length) (.s 3 B.length) (.i 0) (.i (mm:Int)) (.o 4 own.length) (.i ((2 ^ own.length:Nat):Int)) Ud Ud Ud Ud (.s 5 0) (.s 6 0) (.i (0:Int)))) r3 (b:=sn 131060 B7))) (c:=sn 16382 B7)) (z) (c:=sn 8191 B7)) (c:=sn 4095 B7)) (c:=sn 2047 B7)) (c:=sn 1023 B7)) (c:=sn 511 B7)) (c:=sn 255 B7)) (c:=sn 127 B7)) (c:=sn 63 B7)) (c:=sn 31 B7)) (c:=sn 15 B7)) (c:=sn 7 B7)) (c:=sn 3 B7)) (c:=B7),rfl⟩
end Go.Proofs.Ytiejmoglooaalaa
end
section
namespace Go.HL
open Go.ChangeShapes Go.WideShapes Go.ChangeAt Go.RowKit Go.Deep
set_option linter.unusedSectionVars false
open Go.Proofs.Try renaming prog → Tp
open Go.HL.HV renaming undef → Ud
theorem Qsm (w:World) (r:Nat):Ql Ctx.nil w.heap.size false r:=by
 refine ⟨fun hM=>?_,by simp⟩
 obtain ⟨b,y,h1,_,_⟩:=M_iff.1 hM
 simp [Ctx.nil] at h1
theorem Qh9 {w:World} {a:Addr} {v:Value} (h:w.cell? a=some v):a.block<w.heap.size:=by
 rcases qU a.block w.heap.size with hl | hl
 ·exact hl
 ·have:w.heap[a.block]?=none:=by simp [hl]
  simp [World.cell?,this] at h
abbrev DN (s:Int×Int×Int):HV:=.agg [.int .i64 s.1,.int .i64 s.2.1,.int .i64 s.2.2]
theorem CH {H:Type} {enc:TypeId×Value→H} {P:Program} {W:World} {base:Nat} {t e q:TypeId} {v:Value} {d:DataW H} {ps:List MemPlace} {f0 f1 f2:Field} (ht:P.underlying t=some (.slice e)) (he:P.underlying e=some (.struct #[f0,f1,f2])) (t0:f0.type=q) (t1:f1.type=q) (t2:f2.type=q) (o0:f0.offset=0) (o1:f1.offset=1) (o2:f2.offset=2) (hq:P.underlying q=some (.int .i64)) (ce:P.cellsOf e=3) (cq:P.cellsOf q=1)
  (hval:Value.okWide P W .any base t v) (hd:DataW.Trod enc P W 0 (fun _=>true) true t v d ps):∃l:List (Int×Int×Int),V W (Ql Ctx.nil W.heap.size) Ctx.nil (.imm .arg 3 (l.map DN)) v:=by
 obtain ⟨a,len,cap,rfl⟩:=okWide_slice ht hval
 obtain ⟨fuel,hf⟩:=hd
 rcases open_slice ht hf with ⟨h0,_⟩ | ⟨a',len',cap',m,n,D,Pl,h0,hb,hl,hm,hmm,hx,hel⟩
 ·simp [Value.cells] at h0
  obtain ⟨rfl,rfl,rfl⟩:=h0
  exact ⟨[],.imm .arg 3 [] none 0 (fun _=>.bool false) (by simp) (by simp) (by simp) (by simp) (by simp) (by simp)⟩
 ·simp [Value.cells] at h0
  obtain ⟨rfl,rfl,rfl⟩:=h0
  have hlm:len≤m:=by rw [hmm];split <;> omega
  have each:∀i,i<len→∃p:Int×Int×Int,W.cell? (a'.add (i*3))=some (.int .i64 p.1)∧W.cell? (a'.add (i*3+1))=some (.int .i64 p.2.1)∧W.cell? (a'.add (i*3+2))=some (.int .i64 p.2.2):=by
   intro i hi
   obtain ⟨cs',h1,h2⟩:=hel i (by omega)
   rw [ce] at h1
   obtain ⟨_,hlen,hcell⟩:=World.cells?_some h1
   obtain ⟨y0,y1,y2,k,_,_,g0,g1,g2⟩:=trod_struct3 he h2
   rw [t0,o0,cq] at g0
   rw [t1,o1,cq] at g1
   rw [t2,o2,cq] at g2
   match cs',hlen with
   | [v0,v1,v2],_ =>
    simp at g0 g1 g2
    obtain ⟨z0,e0,_,_⟩:=DataW.trod_int hq g0
    obtain ⟨z1,e1,_,_⟩:=DataW.trod_int hq g1
    obtain ⟨z2,e2,_,_⟩:=DataW.trod_int hq g2
    simp at e0 e1 e2
    subst e0;subst e1;subst e2
    have c0:=hcell 0 (by omega)
    have c1:=hcell 1 (by omega)
    have c2:=hcell 2 (by omega)
    rw [add_add] at c0 c1 c2
    exact ⟨(z0,z1,z2),by simpa using c0,by simpa using c1,by simpa using c2⟩
  obtain ⟨f,hf⟩:=choose_lt each
  refine ⟨(qI len).map f,?_⟩
  have hlen:(((qI len).map f).map DN).length=len:=by simp
  have key:=V.imm (w:=W) (ok:=Ql Ctx.nil W.heap.size) (c:=Ctx.nil) .arg 3 (((qI len).map f).map DN) (some a') cap (fun j=>if j%3=0 then .int .i64 (f (j/3)).1 else if j%3=1 then .int .i64 (f (j/3)).2.1 else .int .i64 (f (j/3)).2.2)
   (by rw [hlen];exact hl) (by simp) ?_ ?_ ?_ ?_
  ·rw [hlen] at key;exact key
  ·intro hne
   have h0:0<len:=by
    rcases Nat.eq_zero_or_pos len with h | h
    ·subst h;simp at hne
    ·exact h
   obtain ⟨b,off,spot⟩:=a'
   have hspot:spot=none:=by simpa [Addr.add] using World.cell?_spot (hf 0 h0).1
   subst hspot
   refine ⟨b,off,rfl,by simpa [Addr.add] using Qh9 (hf 0 h0).1,Qsm W b,fun j hj=>?_⟩
   rw [hlen] at hj
   have hj2:j/3<len:=by omega
   obtain ⟨c0,c1,c2⟩:=hf (j/3) hj2
   by_cases hp:j%3=0
   ·rw [if_pos hp]
    have:j/3*3=j:=by omega
    rw [this,add_plain] at c0
    exact c0
   by_cases hp1:j%3=1
   ·rw [if_neg hp,if_pos hp1]
    have:j/3*3+1=j:=by omega
    rw [this,add_plain] at c1
    exact c1
   ·rw [if_neg hp,if_neg hp1]
    have:j/3*3+2=j:=by omega
    rw [this,add_plain] at c2
    exact c2
  ·intro v hv
   obtain ⟨p,_,rfl⟩:=List.mem_map.1 hv
   rfl
  ·intro v hv
   obtain ⟨p,_,rfl⟩:=List.mem_map.1 hv
   rfl
  ·intro i v j x hi hj
   have hil:i<len:=by have:=Qi hi;rw [hlen] at this;exact this
   have:v=DN (f i):=by
    rw [List.getElem?_map,List.getElem?_map,List.getElem?_range hil] at hi
    simpa using hi.symm
   subst this
   have hjx:j<3:=Qi hj
   match j,hjx,hj with
   | 0,_,hj =>
    simp [DN,cellsOf] at hj
    subst hj
    have e1:(i*3+0)%3=0:=by omega
    have e2:(i*3+0)/3=i:=by omega
    rw [if_pos e1,e2]
    exact V.int _ _
   | 1,_,hj =>
    simp [DN,cellsOf] at hj
    subst hj
    have e0:¬(i*3+1)%3=0:=by omega
    have e1:(i*3+1)%3=1:=by omega
    have e2:(i*3+1)/3=i:=by omega
    rw [if_neg e0,if_pos e1,e2]
    exact V.int _ _
   | 2,_,hj =>
    simp [DN,cellsOf] at hj
    subst hj
    have e0:¬(i*3+2)%3=0:=by omega
    have e1:¬(i*3+2)%3=1:=by omega
    have e2:(i*3+2)/3=i:=by omega
    rw [if_neg e0,if_neg e1,e2]
    exact V.int _ _
end Go.HL
end
