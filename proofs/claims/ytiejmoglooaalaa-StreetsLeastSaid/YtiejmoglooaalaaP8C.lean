/- A part of the proof. -/
import Derived.Test.YtiejmoglooaalaaP8B
set_option linter.unusedVariables false
set_option linter.unusedSimpArgs false
set_option linter.unnecessarySimpa false
open Go.IntKind renaming i64 → qA
open Nat renaming le_refl → qB, zero_le → qI, sub_self → qK
open List renaming length_map → qC, length_append → qD, take_length → qE, length_take → qF, length_singleton → qG, append_nil → qH, getD → qJ, replicate → qL, filter_cons_of_neg → qM, filter_cons_of_pos → qN, range → qO, mem_of_mem_take → qQ, getElem?_append_right → qR, filter_append → qS, length_cons → qT, mem_filter → qU, getElem_of_mem → qV, take_of_length_le → qW, map_append → qX, filter_sublist → qY, countP_eq_length_filter → qZ, map_take → jA, length_filter_le → jE, append_assoc → jH, getElem?_eq_getElem → jJ, mem_append → jN, set_append_right → jP, all_eq_true → jQ, mem_cons_of_mem → jU, take_append_of_le_length → jW, ext_getElem → jX, mem_singleton → jY, not_mem_nil → jZ, mem_cons_self → zA, mem_singleton_self → zC, filter_cons → zD, countP_mono_left → zE, getElem?_take_of_lt → zF, getElem?_eq_none → zG, length_replicate → zH
open Int renaming toNat_natCast → qP
open Bool renaming and_eq_true → jG, and_self → jI
open Option renaming map_some → jV
section
open Go Go.HL
namespace Go.Proofs.Ytiejmoglooaalaa
set_option linter.unusedSectionVars false
open Go.Proofs.Try renaming prog → Tp
open Go.HL.HV renaming undef → Ud
abbrev bB (bs:List Bool):Blk:=.arr 1 (bs.map HV.bool) true 0
theorem ldB {H:Heap} {b:Nat} {bs:List Bool} (hb:H[b]?=some (bB bs)) {i:Nat} (hi:i<bs.length):QK Tp H 4 (.ptr b i 0 bs.length)=some (.bool (bs.getD i false)) :=
 WD (b:=b) hb (by simp) (by rw [List.getElem?_map,jJ hi];simp [qJ,jJ hi]) rfl a4 i4
theorem Qto {H:Heap} {b:Nat} {bs:List Bool} (hb:H[b]?=some (bB bs)) {i:Nat} (hi:i<bs.length) (v:Bool):Q3 Tp H 4 (.ptr b i 0 bs.length) (.bool v)=some (H.set b (bB (bs.set i v))):=by
 have h1:(bs.map HV.bool)[i]?=some (.bool bs[i]):=by rw [List.getElem?_map,jJ hi];rfl
 have:=KZ (P:=Tp) (t:=4) (b:=b) (tot:=bs.length) (v:=.bool v) hb (by simp) h1 rfl (by intro cs h;cases h) z4 rfl rfl (by simp [bnd])
 rw [this]
 show some (H.set b (.arr 1 ((bs.map HV.bool).set i (.bool v)) true 0))=_
 rw [bB,List.map_set]
def YE (n:Int) (l:List St):Bool:=l.all fun s=>decide ((0≤s.1∧s.1<n)∧0≤s.2.1∧s.2.1<n)
theorem endN_iff {n:Int} {l:List St}:YE n l=true↔∀s∈l,(0≤s.1∧s.1<n)∧0≤s.2.1∧s.2.1<n:=by simp [YE]
theorem K6 {n:Int} {l:List St} (h:YE n l=true) (hn:n≤16):ZY l=true:=endB_iff.2 fun s hs=>by have:=endN_iff.1 h s hs;omega
theorem QsO {n:Int} {l:List St} (he:YE n l=true) {k:Int} (hk:0≤k∧k<(l.length:Int)):(0≤sA l k∧sA l k<n)∧0≤sB l k∧sB l k<n:=endN_iff.1 he _ (Qu _ (by omega))
def ZZ (n:Nat) (l:List St) (t:List Int):List Int:=(Qz l t).take n
def inT (l:List St) (t:List Int):List Bool:=(qO l.length).map fun (k:Nat)=>decide ((k:Int)∈tkT l t)
def ZB (l:List St) (t:List Int):List Int:=(Qg l.length).filter fun k=>decide (k∈tkT l t)
theorem QaU {g:List Int} {n:Nat} {a b:Int} (ha:0≤a∧a<(n:Int)) (hb:0≤b∧b<(n:Int)):(Zr g a b).take n=Zr (g.take n) a b:=by
 have e:∀c:Int,0≤c∧c<(n:Int)→(g.take n).getD c.toNat 0=g.getD c.toNat 0:=fun c hc=>by
  simp only [qJ]
  rw [zF (by omega)]
 unfold Zr
 rw [e a ha,e b hb,jA]
theorem KL (l:List St) (t:List Int) {i:Nat} (hi:i<t.length):Qz l (t.take (i+1))=Zr (Qz l (t.take i)) (sA l (t.getD i 0)) (sB l (t.getD i 0)):=by
 rw [Qz,VK l t hi];rfl
theorem Z0 (l:List St) (t:List Int) {i:Nat} (hi:i<t.length):tkT l (t.take (i+1))=if (Qz l (t.take i)).getD (sA l (t.getD i 0)).toNat 0≠(Qz l (t.take i)).getD (sB l (t.getD i 0)).toNat 0 then tkT l (t.take i)++[t.getD i 0] else tkT l (t.take i):=by
 rw [tkT,VK l t hi];rfl
theorem YF {g:List Int} {n v:Nat} (h:v<n):(g.take n).getD v 0=g.getD v 0:=by
 simp only [qJ]
 rw [zF h]
theorem YG {g:List Int} {a b:Int} (h:g.getD a.toNat 0=g.getD b.toNat 0):Zr g a b=g:=by
 unfold Zr
 rw [h]
 conv=>rhs;rw [← List.map_id g]
 refine List.map_congr_left fun x _=>?_
 unfold WO
 split
 ·rename_i h;rw [h];simp
 ·rfl
theorem QeL {l:List St} {t:List Int} {i:Nat} (hi:i<l.length):(inT l t).getD i false=decide ((i:Int)∈tkT l t):=by
 simp [inT,qJ,hi]
theorem Uu (l:List St) (t:List Int):(inT l t).length=l.length:=by simp [inT]
theorem Qg6 {l:List St} {t t':List Int} {k:Nat} (h:tkT l t'=tkT l t++[(k:Int)]):(inT l t).set k true=inT l t':=by
 apply jX
 ·simp [inT]
 ·intro i h1 h2
  simp only [inT,List.length_set,qC,List.length_range] at h1
  rw [List.getElem_set]
  simp only [inT,List.getElem_map,List.getElem_range,h,jN,jY]
  split
  ·rename_i e;subst e;simp
  ·rename_i e
   have:¬((i:Int)=(k:Int)):=by omega
   simp [this]
theorem SU (l:List St) (t:List Int) {i:Nat}:((Qg (i+1)).filter fun k=>decide (k∈tkT l t))=((Qg i).filter fun k=>decide (k∈tkT l t))++(if (i:Int)∈tkT l t then [(i:Int)] else []):=by
 rw [Wr,qS]
 congr 1
 by_cases h:(i:Int)∈tkT l t <;> simp [h]
def Cs:List HV→Option HV:=f3 kI kS kL fun n l t=>if (0≤n∧n≤16)∧YE n l=true∧inR l.length t=true∧t.length≤500∧l.length≤500 then some (.tuple [.own 1 ((ZB l t).map Qb),.own 1 ((ZZ n.toNat l t).map Qb)]) else none
theorem QsP:Try.f50.results.toList=[.tmp 6,.tmp 7]:=by kernel_rfl
theorem Qnz {H:Heap} {b c j k:Nat} {o p:List Int} (hb:H[b]?=some (bI o)) (hk:o.length=k) (hc:H[c]?=some (bI p)) (hj:p.length=j) (hne:b≠c):WP H false (.tuple [.sl b 0 k none k 1,.sl c 0 j none j 1])=some (.tuple [.own 1 (o.map Qb),.own 1 (p.map Qb)]):=by
 have h1:=ZE (H:=H) (no:=[b,c]) (b:=b) (k:=1) (m:=k) (cap:=none) (els:=o.map Qb) hb (by simpa using hk) (WE (fun r=>Ke 4 r) _)
 have h2:=ZE (H:=H) (no:=[b,c]) (b:=c) (k:=1) (m:=j) (cap:=none) (els:=p.map Qb) hc (by simpa using hj) (WE (fun r=>Ke 4 r) _)
 have ho:QM H false (.tuple [.sl b 0 k none k 1,.sl c 0 j none j 1])=[b,c]:=by simp [QM,cellsOf,Zq,hb,hc]
 have hn:[b,c].Nodup:=by simp [hne]
 simp only [WP,ho,hn,if_true,mapO,W4,h1,h2]
theorem QnA:Tp.underlying 99=some (.slice 4):=by kernel_rfl
theorem JX {t b len:Nat} {cap:Option Nat} {e:TypeId} (ht:Tp.underlying t=some (.slice e)) (hs:Qs Tp e=some 1) {i:Nat} (h:i<len):Z4 Tp t (.sl b 0 len cap len 1) (.int .i64 (i:Int))=some (.ptr b i 0 len):=by
 have:=Ch (P:=Tp) (t:=t) (b:=b) (len:=len) (tot:=len) (cap:=cap) (ik:=.i64) (n:=(i:Int)) ht hs (by omega) (by omega)
 rwa [qP] at this
def JY:FuncId→Option (List HV→Option HV):=fun g=>if g==46 then some QbJ else if g==49 then some Qd8 else none
theorem Qg7 (n:Nat):Qn Tp (Qc Tp (plF JY) n):=Qy _ (fun g f h=>by
 unfold JY at h
 split at h
 ·rename_i hg;cases h;rw [eq_of_beq hg];exact Qd7
 split at h
 ·rename_i hg;cases h;rw [eq_of_beq hg];exact Qgz
 ·cases h) n
theorem SV {n m:Nat} (h:n≤m):(Qg m).take n=Qg n:=by
 simp only [Qg,← jA,List.take_range,Nat.min_eq_left h]
theorem Qg8 {n:Nat} {l:List St} {t:List Int} (hn:n≤16) (he:YE (n:Int) l=true) (ht:∀k∈t,0≤k∧k<(l.length:Int)) (htl:t.length≤500) :
  ∃x E' H',RT (plF JY) 50 (sn 122 B50) ((KI (.i (n:Int)) (.g (l.map Qa)) (.a (t.map Qb)) (.imm .lit 1 []) (.imm .lit 1 []) (.s 0 n) (.o 1 l.length) (.i (0:Int)) Ud Ud Ud)) [bI (Qg n),bB (qL l.length false)] x E' H'∧x=.exit 0 ∧
   ∃gb,gb≠1∧E'=(KI (.i (n:Int)) (.g (l.map Qa)) (.a (t.map Qb)) (.imm .lit 1 []) (.imm .lit 1 []) (.s gb n) (.o 1 l.length) (.i (t.length:Int)) Ud Ud Ud)∧H'[gb]?=some (bI (ZZ n l t))∧H'[1]?=some (bB (inT l t))∧gb<H'.length∧mxs H'=0:=by
 have heB:=K6 he (by omega)
 have:=Kq (pol':=plF JY) (f:=50) (b:=sn 244 B50) (c:=sn 122 B50) (I:=fun i e H=>∃gb,gb≠1∧e=(KI (.i (n:Int)) (.g (l.map Qa)) (.a (t.map Qb)) (.imm .lit 1 []) (.imm .lit 1 []) (.s gb n) (.o 1 l.length) (.i (i:Int)) Ud Ud Ud)∧H[gb]?=some (bI (ZZ n l (t.take i)))∧H[1]?=some (bB (inT l (t.take i)))∧gb<H.length∧mxs H=0)
  (Q:=fun x E' H'=>x=.exit 0∧∃gb,gb≠1∧E'=(KI (.i (n:Int)) (.g (l.map Qa)) (.a (t.map Qb)) (.imm .lit 1 []) (.imm .lit 1 []) (.s gb n) (.o 1 l.length) (.i (t.length:Int)) Ud Ud Ud)∧H'[gb]?=some (bI (ZZ n l t))∧H'[1]?=some (bB (inT l t))∧gb<H'.length∧mxs H'=0) t.length
  (by
   rintro i hi e H ⟨gb,g1,rfl,hg,hi1,hgl,hm⟩
   have hk:=ht _ (Qu 0 hi)
   obtain ⟨ea,eb⟩:=QsO he hk
   obtain ⟨gk1,gk2⟩:=gk hi (m:=l.length) (fun k hk=>ht k hk)
   have ek:(((t.getD i 0).toNat:Nat):Int)=t.getD i 0:=by omega
   have hU:=Jt heB (t:=t.take i) fun k hk=>ht k (qQ hk)
   have hgn:(ZZ n l (t.take i)).length=n:=by
    show ((Qz l (t.take i)).take n).length=n
    rw [qF,show (Qz l (t.take i)).length=16 from hU.lg];omega
   have g2:=gs gk2
   have ht1:H.length≠1→True:=fun _=>trivial
   have hl1:1<H.length:=by
    rcases Nat.lt_or_ge 1 H.length with h | h
    ·exact h
    ·rw [zG h] at hi1;cases hi1
   generalize hs:l.getD (t.getD i 0).toNat (0,0,0)=s at g2
   have sa:sA l (t.getD i 0)=s.1:=by rw [sA,hs]
   have sb:sB l (t.getD i 0)=s.2.1:=by rw [sB,hs]
   rw [sa] at ea
   rw [sb] at eb
   have nv:some (Q4 (.agg [.int .i64 0,.int .i64 0,.int .i64 0]) H)=some (.ptr H.length 0 0 1,H++[.arr 3 [.agg [.int .i64 0,.int .i64 0,.int .i64 0]] true 0]):=rfl
   have st:Q3 Tp (H++[.arr 3 [.agg [.int .i64 0,.int .i64 0,.int .i64 0]] true 0]) 42 (.ptr H.length 0 0 1) (Qa s)=some (H++[bT s]):=by
    have:=V6 (P:=Tp) (H:=H++[.arr 3 [.agg [.int .i64 0,.int .i64 0,.int .i64 0]] true 0]) (t:=42) (b:=H.length) (i:=0) (tot:=1) (k:=3) (mx:=0) (els:=[.agg [.int .i64 0,.int .i64 0,.int .i64 0]]) (cs:=[.int .i64 0,.int .i64 0,.int .i64 0]) (new:=[.int .i64 s.1,.int .i64 s.2.1,.int .i64 s.2.2]) (by rw [qR (qB _),qK];rfl) rfl rfl z42 rfl (by simp) rfl (by simp [bndL,bnd])
    unfold Qa
    rw [this]
    refine congrArg some ?_
    rw [jP _ _ (qB _),qK]
    rfl
   have hx:(H++[bT s])[H.length]?=some (bT s):=by rw [qR (qB _),qK];rfl
   have f0:Qt Tp 42 (.ptr H.length 0 0 1) 0=some (.ptr H.length 0 0 1):=by kernel_rfl
   have f1:Qt Tp 42 (.ptr H.length 0 0 1) 1=some (.ptr H.length 0 1 1):=by kernel_rfl
   have la:=ldT hx 0 s.1 rfl
   have lb:=ldT hx 1 s.2.1 rfl
   have hgL:(H++[bT s])[gb]?=some (bI (ZZ n l (t.take i))):=WJ hg
   have ixa:Z4 Tp 24 (.sl gb 0 n none n 1) (.int .i64 s.1)=some (.ptr gb s.1.toNat 0 n):=by
    have:=JX (b:=gb) (cap:=none) u24 z3 (i:=s.1.toNat) (len:=n) (by omega)
    rwa [show ((s.1.toNat:Nat):Int)=s.1 by omega] at this
   have ixb:Z4 Tp 24 (.sl gb 0 n none n 1) (.int .i64 s.2.1)=some (.ptr gb s.2.1.toNat 0 n):=by
    have:=JX (b:=gb) (cap:=none) u24 z3 (i:=s.2.1.toNat) (len:=n) (by omega)
    rwa [show ((s.2.1.toNat:Nat):Int)=s.2.1 by omega] at this
   have lx:=Q6 hgL (y:=s.1.toNat) (by omega)
   have ly:=Q6 hgL (y:=s.2.1.toNat) (by omega)
   rw [hgn] at lx ly
   have hlt:(i:Int)<((t.map Qb).length:Int):=by rw [qC];omega
   have lsucc:=KL l t hi
   have tsucc:=Z0 l t hi
   rw [sa,sb] at lsucc tsucc
   have tg1:(ZZ n l (t.take i)).getD s.1.toNat 0=(Qz l (t.take i)).getD s.1.toNat 0:=YF (by omega)
   have tg2:(ZZ n l (t.take i)).getD s.2.1.toNat 0=(Qz l (t.take i)).getD s.2.1.toNat 0:=YF (by omega)
   have gsucc:ZZ n l (t.take (i+1))=Zr (ZZ n l (t.take i)) s.1 s.2.1:=by
    rw [ZZ,lsucc,QaU ea eb];rfl
   by_cases c:(ZZ n l (t.take i)).getD s.1.toNat 0=(ZZ n l (t.take i)).getD s.2.1.toNat 0
   ·have s1:=QjG (F:=JY) n (l.map Qa) (t.map Qb) H gb 1 0 l.length i (t.getD i 0).toNat 0 s.1 s.2.1 s.2.2 ((ZZ n l (t.take i)).getD s.1.toNat 0) ((ZZ n l (t.take i)).getD s.2.1.toNat 0) hlt gk1 g2 nv st f0 la ixa lx f1 lb ixb ly c
    rw [Qi (by omega)] at s1
    have e1:ZZ n l (t.take (i+1))=ZZ n l (t.take i):=by rw [gsucc,YG c]
    have e2:tkT l (t.take (i+1))=tkT l (t.take i):=by rw [tsucc,if_neg (by rw [← tg1,← tg2];exact fun h=>h c)]
    have e3:inT l (t.take (i+1))=inT l (t.take i):=by simp only [inT,e2]
    refine ⟨_,_,s1,gb,g1,by kernel_rfl,?_,?_,?_,Qeb (by rw [WI,hm];rfl)⟩
    ·rw [QaM hgl,hgL,e1]
    ·rw [QaM hl1,WJ hi1,e3]
    ·unfold gc;rw [qF];simp;omega
   ·have cj:=at3 (pol':=plF JY) (g:=49) (c1:=kL) (c2:=kI) (c3:=kI) (f:=fun g a b=>if (0≤a∧a<(g.length:Int))∧(0≤b∧b<(g.length:Int))∧g.length≤900 then some (.own 1 ((Zr g a b).map Qb)) else none) (H:=H++[bT s]) (by kernel_rfl) (JV hgn hgL) (ShI _ s.1) (ShI _ s.2.1) (if_pos ⟨by rw [hgn];exact ea,by rw [hgn];exact eb,by omega⟩)
    rw [W1,QcZ,hgn,← gsucc] at cj
    have hin:(H++[bT s]++[bI (ZZ n l (t.take (i+1)))])[1]?=some (bB (inT l (t.take i))):=WJ (WJ hi1)
    have sin:=Qto hin (i:=(t.getD i 0).toNat) (by rw [Uu];exact gk2) true
    have hti:tkT l (t.take (i+1))=tkT l (t.take i)++[(((t.getD i 0).toNat:Nat):Int)]:=by rw [tsucc,if_pos (by rw [← tg1,← tg2];exact c),ek]
    rw [Uu,Qg6 hti] at sin
    have ixi:=JX (t:=99) (b:=1) (cap:=some l.length) QnA z4 (i:=(t.getD i 0).toNat) (len:=l.length) gk2
    have s1:=QjH (F:=JY) n (l.map Qa) (t.map Qb) H gb 1 (H++[bT s]).length l.length i (t.getD i 0).toNat 0 s.1 s.2.1 s.2.2 ((ZZ n l (t.take i)).getD s.1.toNat 0) ((ZZ n l (t.take i)).getD s.2.1.toNat 0) hlt gk1 g2 nv st f0 la ixa lx f1 lb ixb ly c f0 la f1 lb cj gk1 ixi sin
    rw [Qi (by omega)] at s1
    have hlen:(H++[bT s]).length=H.length+1:=by simp
    rw [hlen] at s1
    have hbn:QO (plF JY) 50 (sn 244 B50) ((KI (.i (n:Int)) (.g (l.map Qa)) (.a (t.map Qb)) (.imm .lit 1 []) (.imm .lit 1 []) (.s (H.length+1) n) (.o 1 l.length) (.i ((i+1:Nat):Int)) (.ptr H.length 0 0 1) Ud Ud))=(KI (.i (n:Int)) (.g (l.map Qa)) (.a (t.map Qb)) (.imm .lit 1 []) (.imm .lit 1 []) (.s (H.length+1) n) (.o 1 l.length) (.i ((i+1:Nat):Int)) Ud Ud Ud):=by kernel_rfl
    have hbd:H.length+2≤WF ((KI (.i (n:Int)) (.g (l.map Qa)) (.a (t.map Qb)) (.imm .lit 1 []) (.imm .lit 1 []) (.s (H.length+1) n) (.o 1 l.length) (.i ((i+1:Nat):Int)) Ud Ud Ud)):=by simp only [WF,bnd,bndL];omega
    refine ⟨_,_,s1,H.length+1,by omega,hbn,?_,?_,?_,Qeb (SM (by rw [WI,WI,hm];rfl) rfl)⟩
    ·rw [Qkz (by rw [hbn];omega),List.getElem?_set_ne (by omega),← hlen,qR (qB _),qK]
     rfl
    ·rw [QaM hl1,List.getElem?_set_self (by simp)]
    ·rw [hbn]
     revert hbd
     generalize WF _=r
     intro hbd
     unfold gc;rw [qF];simp;omega)
  (by
   rintro e H ⟨gb,g1,rfl,hg,hi1,hgl,hm⟩
   rw [qE] at hg hi1
   exact ⟨_,_,_,QjI (F:=JY) n (l.map Qa) (t.map Qb) H gb 1 0 l.length t.length 0 0 0 0 0 0 0 (by rw [qC];omega),by simp,rfl,gb,g1,rfl,hg,hi1,hgl,hm⟩)
  (by kernel_rfl) (by rintro i e H ⟨gb,_,rfl,_⟩;kernel_rfl) (e:=(KI (.i (n:Int)) (.g (l.map Qa)) (.a (t.map Qb)) (.imm .lit 1 []) (.imm .lit 1 []) (.s 0 n) (.o 1 l.length) (.i (0:Int)) Ud Ud Ud)) (H:=[bI (Qg n),bB (qL l.length false)])
  ⟨0,by omega,rfl,by
   have:ZZ n l (t.take 0)=Qg n:=by rw [List.take_zero];exact SV hn
   rw [this];rfl,by
   have:inT l (t.take 0)=qL l.length false:=by
    apply jX
    ·simp [inT]
    ·intro i h1 h2;simp [inT,tkT,ksT]
   rw [this];rfl,by simp,rfl⟩
 exact this
theorem SW:QP Tp 50 Cs:=by
 refine Qp (pol:=plF JY) (fn:=Try.f50) (cd:=B50) Qk Qg7 (by kernel_rfl) (by kernel_rfl) (Zm JY _ _ (by kernel_rfl)) (by kernel_rfl) ?_
 intro args res h
 obtain ⟨n,l,t,rfl,hq⟩:=Kp h
 split at hq
 case isFalse=>cases hq
 rename_i hc
 obtain ⟨⟨n0,n1⟩,he,hr,htl,hll⟩:=hc
 cases hq
 obtain ⟨n,rfl⟩:∃m:Nat,n=(m:Int):=⟨n.toNat,by omega⟩
 rw [qP]
 have ht:=inR_iff.1 hr
 have a:=QjC (F:=JY) n (l.map Qa) (t.map Qb) []
 have c46:=at1 (pol':=plF JY) (g:=46) (c1:=kI) (f:=fun n=>if n≤900 then some (.own 1 ((Qg n.toNat).map Qb)) else none) (H:=[]) (by kernel_rfl) (ShI _ (n:Int)) (if_pos (by omega))
 rw [W1,QU,qP] at c46
 have b:=QjD (F:=JY) n (l.map Qa) (t.map Qb) [] 0 c46
 have mk:=Yc (P:=Tp) (H:=[bI (Qg n)]) (t:=99) (e:=4) (k:=1) (bt:=1) (zv:=.bool false) (n:=(l.length:Int)) QnA (by kernel_rfl) rfl rfl (by omega) (by omega) (by simp only [W6];omega)
 rw [qP] at mk
 have erep:qL l.length (HV.bool false)=(qL l.length false).map HV.bool:=by simp
 rw [erep] at mk
 have c:=QjE (F:=JY) n (l.map Qa) (t.map Qb) [bI (Qg n)] 0 1 l.length (by rw [qC];exact mk)
 have d:=QjF (F:=JY) n (l.map Qa) (t.map Qb) [bI (Qg n),bB (qL l.length false)] 0 1 l.length
 obtain ⟨x,E',H',r,rfl,gb,g1,rfl,hg,hi1,hgl,hm⟩:=Qg8 (by omega) he ht htl
 have e:=QjJ (F:=JY) n (l.map Qa) (t.map Qb) H' gb 1 l.length H'.length (y10:=.i (t.length:Int)) rfl
 have f:=QjK (F:=JY) n (l.map Qa) (t.map Qb) (H'++[bI []]) gb 1 l.length H'.length 0 (y10:=.i (t.length:Int))
 have hl1:1<H'.length:=by
  rcases Nat.lt_or_ge 1 H'.length with h | h
  ·exact h
  ·rw [zG h] at hi1;cases hi1
 have hset:∀(A B:Blk),(H'++[A]).set H'.length B=H'++[B]:=fun A B=>by rw [jP _ _ (qB _),qK];rfl
 have hget:∀(A:Blk),(H'++[A])[H'.length]?=some A:=fun A=>by rw [qR (qB _),qK];rfl
 have fl:∀i,(((Qg i).filter fun k=>decide (k∈tkT l t))).length≤i:=fun i=>by have:=jE (fun k=>decide (k∈tkT l t)) (Qg i);rwa [QU] at this
 have r2:=Wk (pol':=plF JY) (f:=50) (E:=fun i=>(KI (.i (n:Int)) (.g (l.map Qa)) (.a (t.map Qb)) (.imm .lit 1 []) (.imm .lit 1 []) (.s gb n) (.o 1 l.length) Ud Ud (.sl H'.length 0 ((Qg i).filter fun k=>decide (k∈tkT l t)).length none ((Qg i).filter fun k=>decide (k∈tkT l t)).length 1) (.i (i:Int)))) (Hs:=fun i=>H'++[bI ((Qg i).filter fun k=>decide (k∈tkT l t))]) l.length
  (E0:=fun i=>(KI (.i (n:Int)) (.g (l.map Qa)) (.a (t.map Qb)) (.imm .lit 1 []) (.imm .lit 1 []) (.s gb n) (.o 1 l.length) Ud Ud (.sl H'.length 0 ((Qg (i+1)).filter fun k=>decide (k∈tkT l t)).length none ((Qg (i+1)).filter fun k=>decide (k∈tkT l t)).length 1) (.i ((i+1:Nat):Int)))) (H1:=fun i=>H'++[bI ((Qg (i+1)).filter fun k=>decide (k∈tkT l t))])
  (fun i hi=>by
   have ix:=JX (t:=99) (b:=1) (cap:=some l.length) QnA z4 (i:=i) (len:=l.length) hi
   have ld:=ldB (WJ (X:=[bI ((Qg i).filter fun k=>decide (k∈tkT l t))]) hi1) (i:=i) (by rw [Uu];exact hi)
   rw [Uu,QeL hi] at ld
   have hf:=fl i
   by_cases cc:(i:Int)∈tkT l t
   ·rw [decide_eq_true cc] at ld
    have ap:=JD (H:=H'++[bI ((Qg i).filter fun k=>decide (k∈tkT l t))]) (b:=H'.length) (o:=(Qg i).filter fun k=>decide (k∈tkT l t)) (hget _) (by omega) (i:Int)
    have es:=SU l t (i:=i)
    rw [if_pos cc] at es
    rw [hset,← es] at ap
    have s:=QjL (F:=JY) n (l.map Qa) (t.map Qb) (H'++[bI ((Qg i).filter fun k=>decide (k∈tkT l t))]) gb 1 l.length H'.length ((Qg i).filter fun k=>decide (k∈tkT l t)).length i true (by rw [qC];omega) ix ld ap
    have el:((Qg (i+1)).filter fun k=>decide (k∈tkT l t)).length=((Qg i).filter fun k=>decide (k∈tkT l t)).length+1:=by rw [es];simp
    rw [Qi (by omega),← el] at s
    exact s
   ·rw [decide_eq_false cc] at ld
    have es:=SU l t (i:=i)
    rw [if_neg cc,qH] at es
    have s:=QjM (F:=JY) n (l.map Qa) (t.map Qb) (H'++[bI ((Qg i).filter fun k=>decide (k∈tkT l t))]) gb 1 l.length H'.length ((Qg i).filter fun k=>decide (k∈tkT l t)).length i true (by rw [qC];omega) ix ld
    rw [Qi (by omega)] at s
    rw [es]
    exact s) (fun i _=>by kernel_rfl) (fun i _=>QH _ (by simp)) (QjN (F:=JY) n (l.map Qa) (t.map Qb) (H'++[bI ((Qg l.length).filter fun k=>decide (k∈tkT l t))]) gb 1 l.length H'.length ((Qg l.length).filter fun k=>decide (k∈tkT l t)).length l.length true (by rw [qC];omega)) (by simp) (c:=sn 506 B50) (by kernel_rfl) (fun i _=>by kernel_rfl)
 have z:=QjO (F:=JY) n (l.map Qa) (t.map Qb) (H'++[bI (ZB l t)]) gb 1 l.length H'.length (ZB l t).length (y13:=.i (l.length:Int))
 have hgn:(ZZ n l t).length=n:=by
  have hU:=Jt (K6 he (by omega)) (t:=t) ht
  show ((Qz l t).take n).length=n
  rw [qF,show (Qz l t).length=16 from hU.lg];omega
 refine ⟨_,_,_,.tuple [.sl H'.length 0 (ZB l t).length none (ZB l t).length 1,.sl gb 0 n none n 1],sq (a) (sq (b) (sq (c) (sq (sq (d) (bke (c:=sn 61 B50) (r)) (c:=sn 30 B50)) (sq (e) (sq (sq (f) (bke (c:=sn 253 B50) (lpi (e0:=(KI (.i (n:Int)) (.g (l.map Qa)) (.a (t.map Qb)) (.imm .lit 1 []) (.imm .lit 1 []) (.s gb n) (.o 1 l.length) (.i (t.length:Int)) Ud (.sl H'.length 0 0 none 0 1) (.i 0))) r2 (b:=sn 1012 B50))) (c:=sn 126 B50)) (z) (c:=sn 63 B50)) (c:=sn 31 B50)) (c:=sn 15 B50)) (c:=sn 7 B50)) (c:=sn 3 B50)) (c:=B50),by simp,by simp only [Qd,QsP];rfl,?_⟩
 exact Qnz (hget _) rfl (WJ hg) hgn (by omega)
def fN (p:Nat→Bool):Nat→Nat→Option Nat
 | 0,_=>none
 | k+1,i=>if p i then some i else fN p k (i+1)
theorem Jl {p:Nat→Bool}:∀{k i m:Nat},fN p k i=some m→i≤m∧m<i+k∧p m=true∧∀j,i≤j→j<m→p j=false
 | 0,i,m,h=>by cases h
 | k+1,i,m,h=>by
  rw [fN] at h
  split at h
  ·rename_i hp
   cases h
   exact ⟨qB _,by omega,hp,fun j h1 h2=>by omega⟩
  ·rename_i hp
   obtain ⟨h1,h2,h3,h4⟩:=Jl h
   refine ⟨by omega,by omega,h3,fun j g1 g2=>?_⟩
   by_cases e:j=i
   ·subst e;cases c:p j <;> simp_all
   ·exact h4 j (by omega) g2
theorem Z1 {p:Nat→Bool}:∀{k i:Nat},fN p k i=none→∀j,i≤j→j<i+k→p j=false
 | 0,i,_,j,h1,h2=>by omega
 | k+1,i,h,j,h1,h2=>by
  rw [fN] at h
  split at h
  ·cases h
  ·rename_i hp
   by_cases e:j=i
   ·subst e;cases c:p j <;> simp_all
   ·exact Z1 h j (by omega) (by omega)
theorem QE {n:Int} {l:List St} (h:Ww n l=true):(1≤n∧n≤16)∧l.length≤60∧YE n l=true∧(∀s∈l,0≤s.2.2∧s.2.2≤1000):=by
 simp only [Ww,jG,jQ,decide_eq_true_eq,stB] at h
 obtain ⟨h1,h2,h3⟩:=h
 refine ⟨h2,h3,endN_iff.2 fun s hs=>?_,fun s hs=>?_⟩
 ·have:=h1 s hs;omega
 ·have:=h1 s hs;omega
theorem stN {n:Int} {l:List St}:Q3 Tp [.arr 2 [.agg [.int .i64 0,.imm .lit 0 []]] true 0] 66 (.ptr 0 0 0 1) (Qv n l)=some [bN n l]:=by
 have:=V6 (P:=Tp) (H:=[.arr 2 [.agg [.int .i64 0,.imm .lit 0 []]] true 0]) (t:=66) (b:=0) (i:=0) (tot:=1) (k:=2) (mx:=0) (els:=[.agg [.int .i64 0,.imm .lit 0 []]]) (cs:=[.int .i64 0,.imm .lit 0 []]) (new:=[.int .i64 n,.imm .arg 3 (l.map Qa)]) rfl rfl rfl z66 rfl (by simp) rfl (by simp [bndL,bnd])
 unfold Qv
 rw [this]
 rfl
theorem JE {H:Heap} {b:Nat} {n:Int} {l:List St} (hb:H[b]?=some (bN n l)):QK Tp H 66 (.ptr b 0 0 1)=some (Qv n l):=Dh (P:=Tp) (b:=b) (els:=[Qv n l]) (cs:=[.int .i64 n,.imm .arg 3 (l.map Qa)]) hb rfl rfl a66 z66
theorem Dz (H:Heap):some (Q4 (.agg [.int .i64 0,.int .i64 0,.int .i64 0]) H)=some (.ptr H.length 0 0 1,H++[.arr 3 [.agg [.int .i64 0,.int .i64 0,.int .i64 0]] true 0]):=rfl
theorem DA (H:Heap) (s:St):Q3 Tp (H++[.arr 3 [.agg [.int .i64 0,.int .i64 0,.int .i64 0]] true 0]) 42 (.ptr H.length 0 0 1) (Qa s)=some (H++[bT s]):=by
 have:=V6 (P:=Tp) (H:=H++[.arr 3 [.agg [.int .i64 0,.int .i64 0,.int .i64 0]] true 0]) (t:=42) (b:=H.length) (i:=0) (tot:=1) (k:=3) (mx:=0) (els:=[.agg [.int .i64 0,.int .i64 0,.int .i64 0]]) (cs:=[.int .i64 0,.int .i64 0,.int .i64 0]) (new:=[.int .i64 s.1,.int .i64 s.2.1,.int .i64 s.2.2]) (by rw [qR (qB _),qK];rfl) rfl rfl z42 rfl (by simp) rfl (by simp [bndL,bnd])
 unfold Qa
 rw [this]
 refine congrArg some ?_
 rw [jP _ _ (qB _),qK]
 rfl
theorem QiQ (H:Heap) (B:Blk):(H++[B])[H.length]?=some B:=by rw [qR (qB _),qK];rfl
theorem Qc3 (b:Nat):Qt Tp 42 (.ptr b 0 0 1) 0=some (.ptr b 0 0 1):=by kernel_rfl
theorem Qc4 (b:Nat):Qt Tp 42 (.ptr b 0 0 1) 1=some (.ptr b 0 1 1):=by kernel_rfl
theorem QnB (b:Nat):Qt Tp 42 (.ptr b 0 0 1) 2=some (.ptr b 0 2 1):=by kernel_rfl
theorem Qtp {b n:Nat} {v:Int} (h:0≤v∧v<(n:Int)) {cap:Option Nat}:Z4 Tp 24 (.sl b 0 n cap n 1) (.int .i64 v)=some (.ptr b v.toNat 0 n):=by
 have:=JX (b:=b) (cap:=cap) u24 z3 (i:=v.toNat) (len:=n) (by omega)
 rwa [show ((v.toNat:Nat):Int)=v by omega] at this
theorem QbT (a b:List Int) (H:Heap):ZP (.tuple [.own 1 (a.map Qb),.own 1 (b.map Qb)]) H=(.tuple [.sl H.length 0 a.length none a.length 1,.sl (H.length+1) 0 b.length none b.length 1],H++[bI a]++[bI b]):=by
 have h:∀(l:List Int) (H:Heap),Wi (.own 1 (l.map Qb)) H=(.sl H.length 0 l.length none l.length 1,H++[bI l]):=fun l H=>by
  simp only [Wi,VC,qC];rfl
 simp only [ZP,ZQ,Jf,h,qD,qT,List.length_nil]
def frT (l:List St):List Int:=ZB l (Qh l)
theorem QeM (l:List St):(frT l).length≤l.length:=by
 have:=jE (fun k=>decide (k∈tkT l (Qh l))) (Qg l.length)
 rwa [QU] at this
theorem Ws {g:List Int} {i:Nat} (h:i<g.length):g.take (i+1)=g.take i++[g.getD i 0]:=by
 rw [List.take_add_one,jJ h,QB h];rfl
theorem QnC (l:List St) (t:List Int):∀i,i≤t.length→∀x∈tkT l (t.take i),x∈t:=by
 intro i
 induction i with
 | zero=>intro _ x hx;simp [tkT,ksT] at hx
 | succ i ih =>
  intro hi x hx
  rw [Z0 l t (by omega)] at hx
  split at hx
  ·rcases List.mem_append.1 hx with h | h
   ·exact ih (by omega) x h
   ·rw [List.mem_singleton.1 h];exact Qu 0 (by omega)
  ·exact ih (by omega) x hx
theorem Zo {l:List St} {x:Int} (h:x∈Qf l):0≤x∧x<(l.length:Int):=by
 have:=QnC l (Qh l) (Qh l).length (qB _) x (by rw [qE];exact h)
 exact ordT_mem.1 this
theorem Qg9 {H:Heap} {b k:Nat} {o:List Int} (hb:H[b]?=some (bI o)) (hk:o.length=k) (m e:Int):WP H false (.tuple [.sl b 0 k none k 1,.int .i64 m,.int .i64 e])=some (.tuple [.own 1 (o.map Qb),.int .i64 m,.int .i64 e]):=by
 have hr:=ZE (H:=H) (no:=[b]) (b:=b) (k:=1) (m:=k) (cap:=none) (els:=o.map Qb) hb (by simpa using hk) (WE (fun r=>Ke 4 r) _)
 have ho:QM H false (.tuple [.sl b 0 k none k 1,.int .i64 m,.int .i64 e])=[b]:=by simp [QM,cellsOf,Zq,hb]
 simp only [WP,ho,List.nodup_cons,jZ,not_false_eq_true,List.nodup_nil,and_self,if_true,W4,mapO,hr]
 rfl
theorem QaV {t s:List Int} (h:s.Sublist t) (hn:t.Nodup):t.filter (fun x=>decide (x∈s))=s:=by
 induction h with
 | slnil=>rfl
 | @cons s t a h ih =>
  have hn':=List.nodup_cons.1 hn
  rw [qM (by simpa using fun c=>hn'.1 (h.subset c))]
  exact ih hn'.2
 | @cons_cons s t a h ih =>
  have hn':=List.nodup_cons.1 hn
  rw [qN (by simp)]
  refine congrArg (a::·) ?_
  rw [← ih hn'.2]
  refine (List.filter_congr fun x hx=>?_)
  have:x≠a:=fun c=>hn'.1 (c▸hx)
  rw [ih hn'.2]
  simp [this]
theorem Jb (l:List St) (t:List Int):∀i,i≤t.length→(tkT l (t.take i)).Sublist (t.take i):=by
 intro i
 induction i with
 | zero=>intro _;exact List.Sublist.refl _
 | succ i ih =>
  intro hi
  rw [Z0 l t (by omega),Ws (by omega)]
  split
  ·exact (ih (by omega)).append (List.Sublist.refl _)
  ·exact (ih (by omega)).trans (List.sublist_append_left _ _)
theorem K7 (l:List St):(Qh l).Nodup:=(KK l l.length).nodup_iff.2 (Zn _)
theorem frT_mem {l:List St} {x:Int}:x∈frT l↔x∈Qf l:=by
 rw [frT,ZB,qU]
 exact ⟨fun h=>of_decide_eq_true h.2,fun h=>⟨startT_mem.2 (Zo h),decide_eq_true h⟩⟩
theorem SX (l:List St):(Qh l).filter (fun x=>decide (x∈Qf l))=Qf l:=by
 have:=Jb l (Qh l) (Qh l).length (qB _)
 rw [qE] at this
 exact QaV this (K7 l)
theorem QaW (l:List St):(frT l).length=(Qf l).length:=by
 have h:((Qh l).filter fun x=>decide (x∈Qf l)).Perm (frT l):=(KK l l.length).filter _
 rw [← h.length_eq,SX]
inductive Cn (l:List St) (t:List Int):Int→Int→Prop
 | refl (v:Int):Cn l t v v
 | edge {k:Int} (h:k∈t):Cn l t (sA l k) (sB l k)
 | symm {u v:Int} (h:Cn l t u v):Cn l t v u
 | trans {u v w:Int} (h:Cn l t u v) (h2:Cn l t v w):Cn l t u w
theorem Cn.mono {l:List St} {t t':List Int} (hs:∀k∈t,k∈t') {u v:Int} (h:Cn l t u v):Cn l t' u v:=by
 induction h with
 | refl v=>exact .refl v
 | edge h=>exact .edge (hs _ h)
 | symm _ ih=>exact .symm ih
 | trans _ _ h1 h2=>exact .trans h1 h2
def lb (l:List St) (t:List Int) (v:Int):Int:=(Qz l t).getD v.toNat 0
section
variable {l:List St} (he:ZY l=true) {t:List Int} (ht:∀k∈t,0≤k∧k<(l.length:Int))
include he ht
theorem Zf {v:Int} (hv:0≤v∧v<16):0≤lb l t v∧lb l t v≤v∧lb l t (lb l t v)=lb l t v:=by
 have h:=(Jt he ht).lab v.toNat (by omega)
 refine ⟨h.1,?_,h.2.2.2⟩
 have:=h.2.1
 show (ksT l t).2.1.getD v.toNat 0≤v
 omega
theorem Ct {v:Int} (hv:0≤v∧v<16):0≤lb l t v∧lb l t v<16:=by
 have:=Zf he ht hv
 omega
theorem Jm {i:Nat} (hi:i<t.length) {v:Int} (hv:0≤v∧v<16):lb l (t.take (i+1)) v=WO (min (lb l (t.take i) (sA l (t.getD i 0))) (lb l (t.take i) (sB l (t.getD i 0)))) (max (lb l (t.take i) (sA l (t.getD i 0))) (lb l (t.take i) (sB l (t.getD i 0)))) (lb l (t.take i) v):=by
 have hU:=Jt he (t:=t.take i) fun k hk=>ht k (qQ hk)
 have hl:(Qz l (t.take i)).length=16:=hU.lg
 rw [lb,KL l t hi,Zr,VH (by rw [hl];omega)]
 rfl
theorem QaX:∀i,i≤t.length→∀v:Int,0≤v∧v<16→Cn l (t.take i) (lb l (t.take i) v) v:=by
 intro i
 induction i with
 | zero =>
  intro _ v hv
  have:lb l (t.take 0) v=v:=by
   show (Qg 16).getD v.toNat 0=v
   have:v.toNat<16:=by omega
   simp [Qg,qJ,this];omega
  rw [this];exact .refl v
 | succ i ih =>
  intro hi v hv
  have hk:=ht _ (Qu 0 (show i<t.length by omega))
  obtain ⟨ea,eb⟩:=Kt he hk
  have ih:=ih (by omega)
  have hm:∀x∈t.take i,x∈t.take (i+1):=fun x hx=>by rw [Ws (by omega)];exact List.mem_append_left _ hx
  have hA:=(ih _ ea).mono hm
  have hB:=(ih _ eb).mono hm
  have hE:Cn l (t.take (i+1)) (sA l (t.getD i 0)) (sB l (t.getD i 0)):=.edge (by rw [Ws (by omega)];simp)
  have hAB:Cn l (t.take (i+1)) (lb l (t.take i) (sA l (t.getD i 0))) (lb l (t.take i) (sB l (t.getD i 0))):=.trans hA (.trans hE (.symm hB))
  have hV:=(ih v hv).mono hm
  rw [Jm he ht (by omega) hv]
  generalize lb l (t.take i) (sA l (t.getD i 0))=A at *
  generalize lb l (t.take i) (sB l (t.getD i 0))=B at *
  unfold WO
  split
  ·rename_i hx
   rw [hx] at hV
   refine .trans ?_ hV
   rcases Int.le_total A B with c | c
   ·rw [Int.min_eq_left c,Int.max_eq_right c];exact hAB
   ·rw [Int.min_eq_right c,Int.max_eq_left c];exact .symm hAB
  ·exact hV
theorem ZJ {v:Int} (hv:0≤v∧v<16):Cn l t (lb l t v) v:=by
 have:=QaX he ht t.length (qB _) v hv
 rwa [qE] at this
theorem Cu {j:Nat} (hj:j<t.length):∀d,j+1+d≤t.length→lb l (t.take (j+1+d)) (sA l (t.getD j 0))=lb l (t.take (j+1+d)) (sB l (t.getD j 0)):=by
 have hk:=ht _ (Qu 0 hj)
 obtain ⟨ea,eb⟩:=Kt he hk
 intro d
 induction d with
 | zero =>
  intro _
  rw [Nat.add_zero,Jm he ht hj ea,Jm he ht hj eb]
  unfold WO
  split <;> split <;> omega
 | succ d ih =>
  intro h
  have:=ih (by omega)
  rw [show j+1+(d+1)=(j+1+d)+1 by omega,Jm he ht (by omega) ea,Jm he ht (by omega) eb,this]
theorem Uv {k:Int} (hk:k∈t):lb l t (sA l k)=lb l t (sB l k):=by
 obtain ⟨j,hj,rfl⟩:=qV hk
 have:=Cu he ht hj (t.length-(j+1)) (by omega)
 rw [show j+1+(t.length-(j+1))=t.length by omega,qE,QB hj] at this
 exact this
theorem VL {u v:Int} (h:Cn l t u v):lb l t u=lb l t v:=by
 induction h with
 | refl v=>rfl
 | edge h=>exact Uv he ht h
 | symm _ ih=>exact ih.symm
 | trans _ _ h1 h2=>exact h1.trans h2
theorem YH {u v:Int} (hu:0≤u∧u<16) (hv:0≤v∧v<16):lb l t u=lb l t v↔Cn l t u v :=
 ⟨fun h=>.trans (.symm (ZJ he ht hu)) (h▸ZJ he ht hv),VL he ht⟩
theorem SY {t':List Int} (ht':∀k∈t',0≤k∧k<(l.length:Int)) (hs:∀k∈t,k∈t') {v:Int} (hv:0≤v∧v<16):lb l t' v≤lb l t v:=by
 have h1:=VL he ht' ((ZJ he ht hv).mono hs)
 have h2:=Zf he ht' (Ct he ht hv)
 omega
end
theorem Qha {l:List St} (he:ZY l=true) {t t':List Int} (ht:∀k∈t,0≤k∧k<(l.length:Int)) (hs:∀k,k∈t↔k∈t') {v:Int} (hv:0≤v∧v<16):lb l t v=lb l t' v:=by
 have ht':∀k∈t',0≤k∧k<(l.length:Int):=fun k hk=>ht k ((hs k).2 hk)
 have h1:=SY he ht ht' (fun k hk=>(hs k).1 hk) hv
 have h2:=SY he ht' ht (fun k hk=>(hs k).2 hk) hv
 omega
theorem VM {l:List St} (he:ZY l=true) {t t':List Int} (ht:∀k∈t,0≤k∧k<(l.length:Int)) (hs:∀k,k∈t↔k∈t'):Qz l t=Qz l t':=by
 have ht':∀k∈t',0≤k∧k<(l.length:Int):=fun k hk=>ht k ((hs k).2 hk)
 have h1:(Qz l t).length=16:=(Jt he ht).lg
 have h2:(Qz l t').length=16:=(Jt he ht').lg
 apply jX (by rw [h1,h2])
 intro i hi hi'
 have:=Qha he ht hs (v:=(i:Int)) (by omega)
 rw [lb,lb,qP,QB hi,QB hi'] at this
 exact this
def rt (g:List Int):Nat:=((qO 16).filter fun v=>decide (g.getD v 0=(v:Int))).length
theorem K8 {α:Type} {p q:α→Bool} {x:α}:∀{s:List α},s.Nodup→x∈s→p x=true→(∀y∈s,y≠x→q y=p y)→q x=false→(s.filter p).length=(s.filter q).length+1
 | [],_,h,_,_,_=>by cases h
 | y::s,hn,h,hp,hq,hx=>by
  obtain ⟨h1,h2⟩:=List.nodup_cons.1 hn
  by_cases e:y=x
  ·subst e
   rw [qN hp,qM (by simp [hx]),qT]
   refine congrArg (·+1) (congrArg _ (List.filter_congr fun z hz=>?_))
   exact (hq z (jU _ hz) fun c=>h1 (c▸hz)).symm
  ·have hm:x∈s:=(List.mem_cons.1 h).resolve_left fun c=>e c.symm
   have ih:=K8 h2 hm hp (fun z hz hne=>hq z (jU _ hz) hne) hx
   have hy:=hq y (zA ..) e
   by_cases c:p y=true
   ·rw [qN c,qN (by rw [hy];exact c),qT,qT,ih]
   ·rw [qM c,qM (by rw [hy];exact c),ih]
theorem Qhb {us g:List Int} (h:Up us g) {u v:Nat} (hu:u<16) (hv:v<16) (hne:g.getD u 0≠g.getD v 0):rt g=rt (Zr g (u:Int) (v:Int))+1:=by
 obtain ⟨a1,a2,a3,a4⟩:=h.lab u hu
 obtain ⟨b1,b2,b3,b4⟩:=h.lab v hv
 have hget:∀w:Nat,w<16→(Zr g (u:Int) (v:Int)).getD w 0=WO (min (g.getD u 0) (g.getD v 0)) (max (g.getD u 0) (g.getD v 0)) (g.getD w 0):=fun w hw=>by
  rw [Zr,VH (by rw [h.lg];exact hw),qP,qP]
 generalize hA:g.getD u 0=A at *
 generalize hB:g.getD v 0=B at *
 have hmx:0≤max A B∧max A B<16:=by omega
 have hmr:g.getD (max A B).toNat 0=max A B:=by
  rcases Int.le_total A B with c | c
  ·rw [Int.max_eq_right c];exact b4
  ·rw [Int.max_eq_left c];exact a4
 have hmn:g.getD (min A B).toNat 0=min A B:=by
  rcases Int.le_total A B with c | c
  ·rw [Int.min_eq_left c];exact a4
  ·rw [Int.min_eq_right c];exact b4
 refine K8 (x:=(max A B).toNat) List.nodup_range (List.mem_range.2 (by omega)) (decide_eq_true (by rw [hmr];omega)) (fun y hy hyne=>?_) ?_
 ·have hy:=List.mem_range.1 hy
  rw [hget y hy,decide_eq_decide]
  unfold WO
  split
  ·rename_i hc
   constructor
   ·intro e
    exfalso
    have:(min A B).toNat=y:=by omega
    rw [← this,hmn] at hc
    omega
   ·intro e;exfalso;omega
  ·exact Iff.rfl
 ·rw [hget _ (by omega),hmr]
  unfold WO
  rw [if_pos rfl]
  exact decide_eq_false (by omega)
theorem QeN:rt (Qg 16)=16:=by decide +kernel
theorem JF {l:List St} (he:ZY l=true) {t:List Int} (ht:∀k∈t,0≤k∧k<(l.length:Int)):(tkT l t).length+rt (Qz l t)=16:=by
 have key:∀i,i≤t.length→(tkT l (t.take i)).length+rt (Qz l (t.take i))=16:=by
  intro i
  induction i with
  | zero=>intro _;exact QeN
  | succ i ih =>
   intro hi
   have ih:=ih (by omega)
   have hk:=ht _ (Qu 0 (show i<t.length by omega))
   obtain ⟨ea,eb⟩:=Kt he hk
   have hU:=Jt he (t:=t.take i) fun k hk=>ht k (qQ hk)
   rw [Z0 l t (by omega),KL l t (by omega)]
   split
   ·rename_i hne
    have:=Qhb hU (u:=(sA l (t.getD i 0)).toNat) (v:=(sB l (t.getD i 0)).toNat) (by omega) (by omega) hne
    rw [show (((sA l (t.getD i 0)).toNat:Nat):Int)=sA l (t.getD i 0) by omega,show (((sB l (t.getD i 0)).toNat:Nat):Int)=sB l (t.getD i 0) by omega] at this
    rw [qD,qG]
    show (tkT l (t.take i)).length+1+rt (Zr (ksT l (t.take i)).2.1 _ _)=16
    have e:Qz l (t.take i)=(ksT l (t.take i)).2.1:=rfl
    rw [e] at ih
    omega
   ·rename_i hne
    have e:Zr (Qz l (t.take i)) (sA l (t.getD i 0)) (sB l (t.getD i 0))=Qz l (t.take i):=YG (Decidable.not_not.1 hne)
    rw [e];exact ih
 have:=key t.length (qB _)
 rwa [qE] at this
theorem QX {l:List St} (he:ZY l=true) {t t':List Int} (ht:∀k∈t,0≤k∧k<(l.length:Int)) (hs:∀k,k∈t↔k∈t'):(tkT l t).length=(tkT l t').length:=by
 have h1:=JF he ht
 have h2:=JF he (t:=t') fun k hk=>ht k ((hs k).2 hk)
 rw [VM he ht hs] at h1
 omega
theorem QeO {l:List St} {t:List Int}:∀i,i≤t.length→Qz l (tkT l (t.take i))=Qz l (t.take i)∧tkT l (tkT l (t.take i))=tkT l (t.take i):=by
 intro i
 induction i with
 | zero=>intro _;exact ⟨rfl,rfl⟩
 | succ i ih =>
  intro hi
  obtain ⟨h1,h2⟩:=ih (by omega)
  have hts:=Z0 l t (i:=i) (by omega)
  have hls:=KL l t (i:=i) (by omega)
  by_cases c:(Qz l (t.take i)).getD (sA l (t.getD i 0)).toNat 0≠(Qz l (t.take i)).getD (sB l (t.getD i 0)).toNat 0
  ·rw [if_pos c] at hts
   rw [hts,hls]
   have hn:=fun s:List Int=>Ws (g:=s++[t.getD i 0]) (i:=s.length) (by simp)
   have a1:=KL l (tkT l (t.take i)++[t.getD i 0]) (i:=(tkT l (t.take i)).length) (by simp)
   have a2:=Z0 l (tkT l (t.take i)++[t.getD i 0]) (i:=(tkT l (t.take i)).length) (by simp)
   have g0:(tkT l (t.take i)++[t.getD i 0]).getD (tkT l (t.take i)).length 0=t.getD i 0:=by simp [qJ]
   rw [qW (by simp),g0,List.take_left,h1] at a1 a2
   rw [a1,a2,h2,if_pos c]
   exact ⟨rfl,rfl⟩
  ·rw [if_neg c] at hts
   rw [hts,hls,h1,h2,YG (Decidable.not_not.1 c)]
   exact ⟨rfl,rfl⟩
theorem QeP (l:List St):Qz l (Qf l)=Qz l (Qh l)∧tkT l (Qf l)=Qf l:=by
 have:=QeO (l:=l) (t:=Qh l) (Qh l).length (qB _)
 rwa [qE] at this
end Go.Proofs.Ytiejmoglooaalaa
end
section
open Go Go.HL
namespace Go.Proofs.Ytiejmoglooaalaa
set_option maxRecDepth 100000
set_option linter.unusedSectionVars false
open Go.Proofs.Try renaming prog → Tp
open Go.HL.HV renaming undef → Ud
section
variable {F:FuncId→Option (List HV→Option HV)}
noncomputable def B93:Code:=Try.f93.body.getD .skip
abbrev DB (v0 v1 v4 v5 v7 v8:HV):Env:=[(0,v0),(1,v1),(4,v4),(5,v5),(7,v7),(8,v8)]
end
abbrev e93 (la:List HV) (x:Int) (u3 u4 u5:HV):Env:=DB (.a la) (.i x) (.i 0) u3 u4 u5
section
variable {F:FuncId→Option (List HV→Option HV)}
variable (la:List HV) (x:Int) (H:Heap)
include la x H
theorem QnD:RU F 93 2 B93 [(0,.a la),(1,.i x)] H .normal (e93 la x Ud Ud Ud) H :=
 hx 0 60 []
end
section
variable {F:FuncId→Option (List HV→Option HV)}
variable (la:List HV) (x:Int) (H:Heap)
include la x H
theorem QnE (y5 y7 y8:HV:=Ud): RU F 93 12 B93 (e93 la x y5 y7 y8) H .normal (e93 la x y5 (.i (la.length:Int)) (.i 0)) H :=
 hx 0 60 []
theorem QnF (m i:Nat) (a:Int) (g0:(i:Int)<(m:Int)) (g1:IX 24 (.a la) (.n i) (.vptr (.i a))) (g2:x=a) (y5:HV:=Ud): RU F 93 52 B93 (e93 la x y5 (.n m) (.n i)) H .ret (DB (.a la) (.i x) (.n i) (.n i) (.n m) (.n i)) H :=
 hx 0 60 [jT 2 0 H g0,jO 4 3 H g1,jT 4 5 H g2]
theorem QnG (m i:Nat) (a:Int) (g0:(i:Int)<(m:Int)) (g1:IX 24 (.a la) (.n i) (.vptr (.i a))) (g2:¬(x=a)) (y5:HV:=Ud): RU F 93 52 B93 (e93 la x y5 (.n m) (.n i)) H .normal (e93 la x (.n i) (.n m) (.i (qA.wrap ((i:Int)+1)))) H :=
 hx 0 60 [jT 2 0 H g0,jO 4 3 H g1,jF 4 5 H g2]
theorem QnH (m i:Nat) (a:Int) (g0:¬((i:Int)<(m:Int))) (y5:HV:=Ud): RU F 93 52 B93 (e93 la x y5 (.n m) (.n i)) H (.exit 0) (e93 la x y5 (.n m) (.n i)) H :=
 hx 0 60 [jF 2 0 H g0]
theorem QnI (y5 y7 y8:HV:=Ud): RU F 93 7 B93 (e93 la x y5 y7 y8) H .ret (DB (.a la) (.i x) (.i (-1)) y5 y7 y8) H :=
 hx 0 60 []
end
section
variable {F:FuncId→Option (List HV→Option HV)}
noncomputable def B73:Code:=Try.f73.body.getD .skip
abbrev QiR (v0 v1 v4:HV):Env:=[(0,v0),(1,v1),(4,v4)]
theorem QnJ (la:List HV) (x:Int) (H:Heap) (r:Int) {H0:Heap} (g0:CM F 93 [.a la,.i x] H (.i r) H0) (g1:0≤r): RU F 73 1 B73 [(0,.a la),(1,.i x)] H .ret (QiR (.a la) (.i x) (.bool true)) H0 :=
 hx 0 60 [jD 1 2 g0,jT 1 3 H0 g1]
theorem QnK (la:List HV) (x:Int) (H:Heap) (r:Int) {H0:Heap} (g0:CM F 93 [.a la,.i x] H (.i r) H0) (g1:¬(0≤r)): RU F 73 1 B73 [(0,.a la),(1,.i x)] H .ret (QiR (.a la) (.i x) (.bool false)) H0 :=
 hx 0 60 [jD 1 2 g0,jF 1 3 H0 g1]
noncomputable def B59:Code:=Try.f59.body.getD .skip
abbrev DC (v0 v1 v2 v3 v6 v7 v9 v10 v11 v21 v22 v23:HV):Env:=[(0,v0),(1,v1),(2,v2),(3,v3),(6,v6),(7,v7),(9,v9),(10,v10),(11,v11),(21,v21),(22,v22),(23,v23)]
end
abbrev e59 (n:Int) (ls:List HV) (la:List HV) (kk:Int) (u3 u5 u6 u7 u8 u9 u10 u11:HV):Env:=DC (.N n ls) (.a la) (.i kk) u3 (.imm .lit 1 []) u5 u6 u7 u8 u9 u10 u11
section
variable {F:FuncId→Option (List HV→Option HV)}
variable (N:Nat) (n:Int) (ls la:List HV) (kk:Int)
include N n ls la kk
theorem QnL:RU F 59 2 B59 [(0,.N n ls),(1,.a la),(2,.i kk)] [] .normal (e59 n ls la kk (.q 0) Ud Ud Ud Ud Ud Ud Ud) [.arr 2 [.N n ls] true 0] :=
 hx N 60 []
end
section
variable {F:FuncId→Option (List HV→Option HV)}
variable (N:Nat) (n:Int) (ls la:List HV) (kk:Int)
include N n ls la kk
theorem QnM (H:Heap) (wb c pb:Nat) (r:Int) {H0:Heap} {H1:Heap} (g0:LD H 66 (.q 0) (.N n ls)) (g1:CM F 72 [.a la,.i kk] H (.s wb c) H0) (g2:CN F N 57 [.N n ls,.s wb c] H0 (.tuple [.q pb,.i r]) H1) (gS1:(WT ((QK Tp H 66 (.q 0)).map (fun v=>(v,(H:Heap)))) ((QK Tp H0 66 (.q 0)).map (fun v=>(v,(H0:Heap)))) H H0&&true)=true) (y7 y9 y10 y11 y21 y22 y23:HV:=Ud): RU F 59 6 B59 (e59 n ls la kk (.q 0) y7 y9 y10 y11 y21 y22 y23) H .normal (e59 n ls la kk (.q 0) (.q pb) y9 y10 y11 y21 y22 y23) H1 :=
 hx N 60 [jK gS1,jO 1 0 H g0,jD 1 3 g1,jC 1 4 g2]
theorem QnN (H:Heap) (pb:Nat) {v0:HV} {H0:Heap} (g0:some (HV.sl H.length 0 0 none 0 1,H++[Blk.b []])=some (v0,H0)) (y9 y10 y11 y21 y22 y23:HV:=Ud): RU F 59 14 B59 (e59 n ls la kk (.q 0) (.q pb) y9 y10 y11 y21 y22 y23) H .normal (e59 n ls la kk (.q 0) (.q pb) v0 y10 y11 y21 y22 y23) H0 :=
 hx N 60 [jR 2 0 g0]
theorem QnO (H:Heap) (pb ob m:Nat) (g0:LD H 22 (.ptr 0 0 1 1) (.g ls)) (y10 y11 y21 y22 y23:HV:=Ud): RU F 59 60 B59 (e59 n ls la kk (.q 0) (.q pb) (.s ob m) y10 y11 y21 y22 y23) H .normal (e59 n ls la kk (.q 0) (.q pb) (.s ob m) y10 y11 (.g ls) (.i (ls.length:Int)) (.i 0)) H :=
 hx N 60 [jO 3 1 H g0]
theorem QnP (H:Heap) (pb ob m c i:Nat) (a b w:Int) {a0:HV} {H0:Heap} {H1:Heap} {H2:Heap} (g0:(i:Int)<(c:Int)) (g1:IX 22 (.g ls) (.n i) (.vptr (.agg [.i a,.i b,.i w]))) (g2:some (Q4 (.agg [.i 0,.i 0,.i 0]) H)=some (a0,H0)) (g3:ST H0 42 (a0) (.agg [.i a,.i b,.i w]) H1) (g4:CM F 73 [.a la,.n i] H1 (.bool true) H2) (gS6:(true&&true)=true) (y3 y10 y11:HV:=Ud): RU F 59 244 B59 (e59 n ls la kk y3 (.q pb) (.s ob m) y10 y11 (.g ls) (.n c) (.n i)) H .normal (e59 n ls la kk y3 (.q pb) (.s ob m) (.n i) a0 (.g ls) (.n c) (.i (qA.wrap ((i:Int)+1)))) H2 :=
 hx N 60 [jT 4 0 H g0,jO 5 1 H g1,jR 5 3 g2,jS 5 5 g3,jK gS6,jD 6 2 g4]
theorem QnQ (H:Heap) (pb ob m c i:Nat) (a b w:Int) {a0:HV} {H0:Heap} {H1:Heap} {H2:Heap} {a1:HV} {r0:Int} {H3:Heap} {a2:HV} {r1:Int} {H4:Heap} (g0:(i:Int)<(c:Int)) (g1:IX 22 (.g ls) (.n i) (.vptr (.agg [.i a,.i b,.i w]))) (g2:some (Q4 (.agg [.i 0,.i 0,.i 0]) H)=some (a0,H0)) (g3:ST H0 42 (a0) (.agg [.i a,.i b,.i w]) H1) (g4:CM F 73 [.a la,.n i] H1 (.bool false) H2) (g5:Qt Tp 42 a0 0=some (a1)) (g6:LD H2 3 (a1) (.i a)) (g7:CN F N 55 [.q pb,.i a] H2 (.i r0) H3) (g8:Qt Tp 42 a0 1=some (a2)) (g9:LD H3 3 (a2) (.i b)) (g10:CN F N 55 [.q pb,.i b] H3 (.i r1) H4) (g11:r0=r1) (gS6:(WT ((QK Tp H3 3 (a2)).map (fun v=>(v,(H3:Heap)))) ((QK Tp H2 3 (a2)).map (fun v=>(v,(H2:Heap)))) H3 H2&&true)=true) (y3 y10 y11:HV:=Ud): RU F 59 244 B59 (e59 n ls la kk y3 (.q pb) (.s ob m) y10 y11 (.g ls) (.n c) (.n i)) H .normal (e59 n ls la kk y3 (.q pb) (.s ob m) (.n i) a0 (.g ls) (.n c) (.i (qA.wrap ((i:Int)+1)))) H4 :=
 hx N 60 [jT 4 0 H g0,jO 5 1 H g1,jR 5 3 g2,jS 5 5 g3,jK gS6,jD 6 2 g4,jO 6 6 H2 g5,jO 6 7 H2 g6,jC 6 8 g7,jO 6 10 H3 g8,jO 6 11 H3 g9,jC 6 12 g10,jB 6 13 H4 (congrArg not (decide_eq_true g11))]
theorem QnR (H:Heap) (pb ob m c i:Nat) (a b w:Int) {a0:HV} {H0:Heap} {H1:Heap} {H2:Heap} {a1:HV} {r0:Int} {H3:Heap} {a2:HV} {r1:Int} {H4:Heap} {H5:Heap} {v0:HV} (g0:(i:Int)<(c:Int)) (g1:IX 22 (.g ls) (.n i) (.vptr (.agg [.i a,.i b,.i w]))) (g2:some (Q4 (.agg [.i 0,.i 0,.i 0]) H)=some (a0,H0)) (g3:ST H0 42 (a0) (.agg [.i a,.i b,.i w]) H1) (g4:CM F 73 [.a la,.n i] H1 (.bool false) H2) (g5:Qt Tp 42 a0 0=some (a1)) (g6:LD H2 3 (a1) (.i a)) (g7:CN F N 55 [.q pb,.i a] H2 (.i r0) H3) (g8:Qt Tp 42 a0 1=some (a2)) (g9:LD H3 3 (a2) (.i b)) (g10:CN F N 55 [.q pb,.i b] H3 (.i r1) H4) (g11:¬(r0=r1)) (gS6:(WT ((QK Tp H3 3 (a2)).map (fun v=>(v,(H3:Heap)))) ((QK Tp H2 3 (a2)).map (fun v=>(v,(H2:Heap)))) H3 H2&&true)=true) (g13:Zu H4 1 8 (.s ob m) [.n i]=some (v0,H5)) (y3 y10 y11:HV:=Ud): RU F 59 244 B59 (e59 n ls la kk y3 (.q pb) (.s ob m) y10 y11 (.g ls) (.n c) (.n i)) H .normal (e59 n ls la kk y3 (.q pb) v0 (.n i) a0 (.g ls) (.n c) (.i (qA.wrap ((i:Int)+1)))) H5 :=
 hx N 60 [jT 4 0 H g0,jO 5 1 H g1,jR 5 3 g2,jS 5 5 g3,jK gS6,jD 6 2 g4,jO 6 6 H2 g5,jO 6 7 H2 g6,jC 6 8 g7,jO 6 10 H3 g8,jO 6 11 H3 g9,jC 6 12 g10,jB 6 13 H4 (congrArg not (decide_eq_false g11)),jR 7 3 g13]
theorem QnS (H:Heap) (pb ob m c i:Nat) (a b w:Int) (g0:¬((i:Int)<(c:Int))) (y3 y10 y11:HV:=Ud): RU F 59 244 B59 (e59 n ls la kk y3 (.q pb) (.s ob m) y10 y11 (.g ls) (.n c) (.n i)) H (.exit 0) (e59 n ls la kk y3 (.q pb) (.s ob m) y10 y11 (.g ls) (.n c) (.n i)) H :=
 hx N 60 [jF 4 0 H g0]
theorem QnT (H:Heap) (pb ob m:Nat) (y3 y10 y11 y21 y22 y23:HV:=Ud): RU F 59 31 B59 (e59 n ls la kk y3 (.q pb) (.s ob m) y10 y11 y21 y22 y23) H .ret (DC (.N n ls) (.a la) (.i kk) y3 (.s ob m) (.q pb) (.s ob m) y10 y11 y21 y22 y23) H :=
 hx N 60 []
end
section
variable {F:FuncId→Option (List HV→Option HV)}
noncomputable def B92:Code:=Try.f92.body.getD .skip
abbrev QiS (v0 v1 v3:HV):Env:=[(0,v0),(1,v1),(3,v3)]
theorem QnU (x:Int) (kb:Nat) (H:Heap) (v:Int) (g0:LD H 3 (.q kb) (.i v)) (g1:x=v): RU F 92 1 B92 [(0,.i x),(1,.q kb)] H .ret (QiS (.i x) (.q kb) (.bool true)) H :=
 hx 0 60 [jO 1 1 H g0,jT 1 2 H g1]
theorem QnV (x:Int) (kb:Nat) (H:Heap) (v:Int) (g0:LD H 3 (.q kb) (.i v)) (g1:¬(x=v)): RU F 92 1 B92 [(0,.i x),(1,.q kb)] H .ret (QiS (.i x) (.q kb) (.bool false)) H :=
 hx 0 60 [jO 1 1 H g0,jF 1 2 H g1]
noncomputable def KM:Code:=Try.f107.body.getD .skip
abbrev XP (v0 v1 v4 v5 v7 v8:HV):Env:=[(0,v0),(1,v1),(4,v4),(5,v5),(7,v7),(8,v8)]
end
abbrev Cv (lb:Nat) (m:Nat) (kb:Nat) (u3 u4 u5:HV):Env:=XP (.s lb m) (.func 92 [] [.q kb]) (.i 0) u3 u4 u5
section
variable {F:FuncId→Option (List HV→Option HV)}
variable (N:Nat) (lb m kb:Nat) (H:Heap)
include N lb m kb H
theorem QnW:RU F 107 2 KM [(0,.s lb m),(1,.func 92 [] [.q kb])] H .normal (Cv lb m kb Ud Ud Ud) H :=
 hx N 60 []
end
section
variable {F:FuncId→Option (List HV→Option HV)}
variable (N:Nat) (lb m kb:Nat) (H:Heap)
include N lb m kb H
theorem QnX (y5 y7 y8:HV:=Ud): RU F 107 12 KM (Cv lb m kb y5 y7 y8) H .normal (Cv lb m kb y5 (.n m) (.i 0)) H :=
 hx N 60 []
theorem QnY (i:Nat) (x:Int) {H0:Heap} (g0:(i:Int)<(m:Int)) (g1:IS 24 lb m i) (g2:LD H 3 (.ptr lb i 0 m) (.i x)) (g3:CN F N 92 [.i x,.q kb] H (.bool true) H0) (y5:HV:=Ud): RU F 107 52 KM (Cv lb m kb y5 (.n m) (.n i)) H .ret (XP (.s lb m) (.func 92 [] [.q kb]) (.n i) (.n i) (.n m) (.n i)) H0 :=
 hx N 60 [jT 2 0 H g0,jO 4 3 H g1,jO 4 4 H g2,jC 4 5 g3]
theorem QnZ (i:Nat) (x:Int) {H0:Heap} (g0:(i:Int)<(m:Int)) (g1:IS 24 lb m i) (g2:LD H 3 (.ptr lb i 0 m) (.i x)) (g3:CN F N 92 [.i x,.q kb] H (.bool false) H0) (y5:HV:=Ud): RU F 107 52 KM (Cv lb m kb y5 (.n m) (.n i)) H .normal (Cv lb m kb (.n i) (.n m) (.i (qA.wrap ((i:Int)+1)))) H0 :=
 hx N 60 [jT 2 0 H g0,jO 4 3 H g1,jO 4 4 H g2,jC 4 5 g3]
theorem Qn0 (i:Nat) (x:Int) (g0:¬((i:Int)<(m:Int))) (y5:HV:=Ud): RU F 107 52 KM (Cv lb m kb y5 (.n m) (.n i)) H (.exit 0) (Cv lb m kb y5 (.n m) (.n i)) H :=
 hx N 60 [jF 2 0 H g0]
theorem Qn1 (y5 y7 y8:HV:=Ud): RU F 107 7 KM (Cv lb m kb y5 y7 y8) H .ret (XP (.s lb m) (.func 92 [] [.q kb]) (.i (-1)) y5 y7 y8) H :=
 hx N 60 []
end
section
variable {F:FuncId→Option (List HV→Option HV)}
noncomputable def B90:Code:=Try.f90.body.getD .skip
abbrev SZ (v0 v1 v4 v5 v6 v7:HV):Env:=[(0,v0),(1,v1),(4,v4),(5,v5),(6,v6),(7,v7)]
end
abbrev e90 (lb:Nat) (m:Nat) (kb:Nat) (u3 u4 u5:HV):Env:=SZ (.s lb m) (.func 92 [] [.q kb]) (.imm .lit 1 []) u3 u4 u5
section
variable {F:FuncId→Option (List HV→Option HV)}
variable (N:Nat) (lb m kb:Nat) (H:Heap)
include N lb m kb H
theorem Qn2:RU F 90 2 B90 [(0,.s lb m),(1,.func 92 [] [.q kb])] H .normal (e90 lb m kb Ud Ud Ud) H :=
 hx N 60 []
end
section
variable {F:FuncId→Option (List HV→Option HV)}
variable (N:Nat) (lb m kb:Nat) (H:Heap)
include N lb m kb H
theorem Qn3 (r:Int) {H0:Heap} (g0:CN F N 107 [.s lb m,.func 92 [] [.q kb]] H (.i r) H0) (y5 y6 y7:HV:=Ud): RU F 90 6 B90 (e90 lb m kb y5 y6 y7) H .normal (e90 lb m kb (.i r) y6 y7) H0 :=
 hx N 60 [jC 1 2 g0]
theorem Qn4 (r:Int) (g0:r=(-1)) (y6 y7:HV:=Ud): RU F 90 14 B90 (e90 lb m kb (.i r) y6 y7) H .ret (SZ (.s lb m) (.func 92 [] [.q kb]) (.s lb m) (.i r) y6 y7) H :=
 hx N 60 [jT 2 1 H g0]
theorem Qn5 (r:Int) (g0:¬(r=(-1))) (y6 y7:HV:=Ud): RU F 90 14 B90 (e90 lb m kb (.i r) y6 y7) H .normal (e90 lb m kb (.i r) y6 y7) H :=
 hx N 60 [jF 2 1 H g0]
theorem Qn6 (p:Nat) (y6 y7:HV:=Ud): RU F 90 60 B90 (e90 lb m kb (.n p) y6 y7) H .normal (e90 lb m kb (.n p) (.i (qA.wrap ((p:Int)+1))) y7) H :=
 hx N 60 []
theorem Qn7 (p i:Nat) (x:Int) {H0:Heap} (g0:(i:Int)<(m:Int)) (g1:IS 24 lb m i) (g2:LD H 3 (.ptr lb i 0 m) (.i x)) (g3:CN F N 92 [.i x,.q kb] H (.bool true) H0) (y7:HV:=Ud): RU F 90 244 B90 (e90 lb m kb (.n p) (.n i) y7) H .normal (e90 lb m kb (.n p) (.i (qA.wrap ((i:Int)+1))) (.i x)) H0 :=
 hx N 60 [jT 5 3 H g0,jO 7 2 H g1,jO 7 3 H g2,jC 8 2 g3]
theorem Qn8 (p i:Nat) (x:Int) {H0:Heap} {H1:Heap} (g0:(i:Int)<(m:Int)) (g1:IS 24 lb m i) (g2:LD H 3 (.ptr lb i 0 m) (.i x)) (g3:CN F N 92 [.i x,.q kb] H (.bool false) H0) (g4:IS 24 lb m p) (g5:ST H0 3 (.ptr lb p 0 m) (.i x) H1) (y7:HV:=Ud): RU F 90 244 B90 (e90 lb m kb (.n p) (.n i) y7) H .normal (e90 lb m kb (.i (qA.wrap ((p:Int)+1))) (.i (qA.wrap ((i:Int)+1))) (.i x)) H1 :=
 hx N 60 [jT 5 3 H g0,jO 7 2 H g1,jO 7 3 H g2,jC 8 2 g3,jO 9 3 H0 g4,jS 9 4 g5]
theorem Qn9 (p i:Nat) (x:Int) (g0:¬((i:Int)<(m:Int))) (y7:HV:=Ud): RU F 90 244 B90 (e90 lb m kb (.n p) (.n i) y7) H (.exit 0) (e90 lb m kb (.n p) (.n i) y7) H :=
 hx N 60 [jF 5 3 H g0]
theorem Qoa (p:Nat) {H0:Heap} (g0:W5 Tp 24 (.s lb m) (some (.n p)) none none=some (.sl lb p (m-p) none m 1)) (g1:Xw Tp H 24 (.sl lb p (m-p) none m 1)=some (.tuple [],H0)) (g2:W5 Tp 24 (.s lb m) none (some (.n p)) none=some (.sl lb 0 p none m 1)) (y6 y7:HV:=Ud): RU F 90 31 B90 (e90 lb m kb (.n p) y6 y7) H .ret (SZ (.s lb m) (.func 92 [] [.q kb]) (.sl lb 0 p none m 1) (.n p) y6 y7) H0 :=
 hx N 60 [jO 11 2 H g0,jR 11 3 g1,jO 12 2 H0 g2]
end
section
variable {F:FuncId→Option (List HV→Option HV)}
noncomputable def B91:Code:=Try.f91.body.getD .skip
abbrev QsQ (v0 v2:HV):Env:=[(0,v0),(2,v2)]
theorem Qob (la:List HV) (H:Heap) {H0:Heap} {v0:HV} (g0:VX Tp .eql 24 (.a la)=some (.bool false)) (g1:Zu H 1 8 (.imm .lit 1 []) la=some (v0,H0)): RU F 91 1 B91 [(0,.a la)] H .ret (QsQ (.a la) v0) H0 :=
 hx 0 60 [jO 1 1 H g0,jR 3 2 g1]
noncomputable def B72:Code:=Try.f72.body.getD .skip
abbrev QeQ (v0 v1 v3 v4:HV):Env:=[(0,v0),(1,v1),(3,v3),(4,v4)]
theorem Qoc (N:Nat) (la:List HV) (v:Int) (cb c p:Nat): RU F 72 2 B72 [(0,.a la),(1,.i v)] [] .normal (QeQ (.a la) (.i v) (.q 0) (.imm .lit 1 [])) [.arr 1 [.i v] true 0] :=
 hx N 60 []
theorem Qod (N:Nat) (la:List HV) (v:Int) (H:Heap) (cb c p:Nat) {H0:Heap} {H1:Heap} (g0:CM F 91 [.a la] H (.s cb c) H0) (g1:CN F N 90 [.s cb c,.func 92 [] [.q 0]] H0 (.sl cb 0 p none c 1) H1): RU F 72 3 B72 (QeQ (.a la) (.i v) (.q 0) (.imm .lit 1 [])) H .ret (QeQ (.a la) (.i v) (.q 0) (.sl cb 0 p none c 1)) H1 :=
 hx N 60 [jD 1 1 g0,jC 1 3 g1]
end
end Go.Proofs.Ytiejmoglooaalaa
end
section
open Go Go.HL
namespace Go.Proofs.Ytiejmoglooaalaa
variable {F:FuncId→Option (List HV→Option HV)}
set_option linter.unusedSectionVars false
open Go.Proofs.Try renaming prog → Tp
open Go.HL.HV renaming undef → Ud
theorem Qhc {l:List Int} (hne:l≠[]) (hl:l.length≤1000):Zu [] 1 8 (.imm .lit 1 []) (l.map Qb)=some (.sl 0 0 (l.map Qb).length none (l.map Qb).length 1,[.arr 1 (l.map Qb) true 0]):=by
 have hne:l.map Qb≠[]:=by simpa using hne
 simp only [Zu,if_neg hne]
 rw [if_pos ⟨.inr trivial,by simp only [List.length_nil,qC,W6];omega⟩,Dk]
 simp
theorem Qc5 {l:List Int} (hne:l≠[]):VX Tp .eql 24 (.imm .arg 1 (l.map Qb))=some (.bool false):=by
 cases l with
 | nil=>exact absurd rfl hne
 | cons v l=>simp only [VX,u24,Vm,List.map_cons,Qbi]
def QbU:List HV→Option HV:=f1 kL fun l=>if l≠[]∧l.length≤900 then some (.own 1 (l.map Qb)) else none
theorem QsR:Try.f91.results.toList=[.tmp 2]:=by kernel_rfl
theorem QeR:QP Tp 91 QbU:=by
 refine Qp (pol:=plF fun _=>none) (fn:=Try.f91) (cd:=B91) Qk (Qy (fun _=>none) (fun g f h=>by cases h)) (by kernel_rfl) (by kernel_rfl) (Zm (fun _=>none) _ _ (by kernel_rfl)) (by kernel_rfl) ?_
 intro args res h
 obtain ⟨l,rfl,hq⟩:=XH h
 split at hq
 case isFalse=>cases hq
 rename_i hc
 cases hq
 have a:=Qob (F:=fun _=>none) (l.map Qb) [] (Qc5 hc.1) (Qhc hc.1 (by omega))
 refine ⟨_,_,_,.sl 0 0 (l.map Qb).length none (l.map Qb).length 1,a,by simp,by simp only [Qd,QsR];rfl,?_⟩
 exact VE (b:=0) rfl (by simp)
theorem Qoe:(Tp.info? 3).map (fun i=>(i.size,i.bytes,i.zero.map QI))=some (1,8,some (.int .i64 0)):=by kernel_rfl
theorem QeS {H:Heap} {b n:Nat} {T:List Int} (hb:H[b]?=some (bI T)) (hT:T.length=n) {k:Nat} (hk:k≤n):Xw Tp H 24 (.sl b k (n-k) none n 1)=some (.tuple [],H.set b (bI (T.take k++qL (n-k) 0))):=by
 by_cases h0:n-k=0
 ·have:k=n:=by omega
  subst this
  simp only [Xw,u24,qK,if_true,List.replicate_zero,qH]
  rw [qW (by omega),Dp hb]
 ·have i3:=Qoe
  cases hi:Tp.info? 3 with
  | none=>rw [hi] at i3;cases i3
  | some i =>
   rw [hi] at i3
   simp only [jV,Option.some.injEq,Prod.mk.injEq] at i3
   obtain ⟨e1,e2,hz⟩:=i3
   cases hz2:i.zero with
   | none=>rw [hz2] at hz;cases hz
   | some z =>
    rw [hz2] at hz
    simp only [jV,Option.some.injEq] at hz
    simp only [Xw,u24,if_neg h0,hi,hb,hz2]
    rw [hz,if_pos ⟨trivial,e1,by simp [hT],by simp [hT];omega,rfl,rfl,by omega⟩]
    have e3:splice (T.map Qb) k (qL (n-k) (HV.int .i64 0))=(T.take k++qL (n-k) 0).map Qb:=by
     simp only [splice,zH,qX,jA,List.map_replicate]
     rw [List.drop_of_length_le (by simp [hT];omega),qH]
     rfl
    rw [e3]
theorem QbV (h92:F 92=none) {H:Heap} {kb:Nat} {v:Int} (hb:H[kb]?=some (bI [v])) (x:Int):ClF F 92 [.int .i64 x,.ptr kb 0 0 1] H (.bool (decide (x=v))) H:=by
 have hr:Try.f92.results.toList=[.tmp 3]:=by kernel_rfl
 have ld:QK Tp H 3 (.ptr kb 0 0 1)=some (.int .i64 v):=Q6 (o:=[v]) hb (y:=0) (by simp)
 by_cases c:x=v
 ·have h:=CallsTo.shared (P:=Tp) (pol:=plF F) (g:=92) (fn:=Try.f92) (cd:=B92) (args:=[.int .i64 x,.ptr kb 0 0 1]) (v:=.bool true) h92 (by kernel_rfl) (by kernel_rfl) (by kernel_rfl) (QnU (F:=F) x kb H v ld c) (by kernel_rfl) (by simp) (by simp only [Qd,hr];rfl)
  rw [QH _ rfl] at h
  rw [decide_eq_true c];exact h
 ·have h:=CallsTo.shared (P:=Tp) (pol:=plF F) (g:=92) (fn:=Try.f92) (cd:=B92) (args:=[.int .i64 x,.ptr kb 0 0 1]) (v:=.bool false) h92 (by kernel_rfl) (by kernel_rfl) (by kernel_rfl) (QnV (F:=F) x kb H v ld c) (by kernel_rfl) (by simp) (by simp only [Qd,hr];rfl)
  rw [QH _ rfl] at h
  rw [decide_eq_false c];exact h
theorem QeT (h92:F 92=none) (h107:F 107=none) (l:List Int) (v:Int) (hl:l.length≤900) :
  ∃r:Int,ClF F 107 [.sl 1 0 l.length none l.length 1,.func 92 [] [.ptr 0 0 0 1]] [bI [v],bI l] (.int .i64 r) [bI [v],bI l]∧((r=-1∧v∉l)∨∃m:Nat,r=(m:Int)∧m<l.length∧l.getD m 0=v∧∀i,i<m→l.getD i 0≠v):=by
 have cl:∀x,∃N,∀kf,N≤kf→Qc Tp (plF F) (kf+1) 92 [.int .i64 x,.ptr 0 0 0 1] [bI [v],bI l]=some (.bool (decide (x=v)),[bI [v],bI l]):=fun x=>CallsTo.from (QbV h92 (kb:=0) rfl x)
 have ld:∀i,i<l.length→QK Tp [bI [v],bI l] 3 (.ptr 1 i 0 l.length)=some (.int .i64 (l.getD i 0)):=fun i hi=>Q6 (H:=[bI [v],bI l]) (k:=1) rfl hi
 have go:∀m,m≤l.length→(∀i,i<m→l.getD i 0≠v)→∀i,i<m→RT (plF F) 107 (sn 52 KM) ((XP (.s 1 l.length) (.func 92 [] [.q 0]) (.i 0) Ud (.i (l.length:Int)) (.i (i:Int)))) [bI [v],bI l] .normal ((XP (.s 1 l.length) (.func 92 [] [.q 0]) (.i 0) (.i (i:Int)) (.i (l.length:Int)) (.i ((i+1:Nat):Int)))) [bI [v],bI l]:=fun m hm' hn' i hi=>by
  obtain ⟨N,cN⟩:=cl (l.getD i 0)
  rw [decide_eq_false (hn' i hi)] at cN
  have s:=QnZ (F:=F) N 1 l.length 0 [bI [v],bI l] i (l.getD i 0) (by omega) (JX u24 z3 (by omega)) (ld i (by omega)) cN
  rw [Qi (by omega)] at s
  exact s
 have a:=QnW (F:=F) 0 1 l.length 0 [bI [v],bI l]
 have b:=QnX (F:=F) 0 1 l.length 0 [bI [v],bI l]
 have hr:Try.f107.results.toList=[.tmp 4]:=by kernel_rfl
 rcases Yd 0 (fun x=>x=v) l with ⟨m,h1,h2,h3⟩ | hno
 ·obtain ⟨N,cN⟩:=cl (l.getD m 0)
  rw [decide_eq_true h2] at cN
  have r:=Wk (pol':=plF F) (f:=107) (E:=fun i=>(XP (.s 1 l.length) (.func 92 [] [.q 0]) (.i 0) Ud (.i (l.length:Int)) (.i (i:Int)))) (Hs:=fun _=>[bI [v],bI l]) m (go m (by omega) h3) (fun i _=>by kernel_rfl) (fun i _=>QH _ rfl) (QnY (F:=F) N 1 l.length 0 [bI [v],bI l] m (l.getD m 0) (by omega) (JX u24 z3 (by omega)) (ld m (by omega)) cN) (by simp) (c:=sn 26 KM) (by kernel_rfl) (fun i _=>by kernel_rfl)
  have t:=sq (a) (sqo (sq (b) (RunsTo.block_ret (i:=0) (c:=sn 13 KM) (r) (by kernel_rfl)) (c:=sn 6 KM)) (c:=sn 3 KM) (b:=sn 7 KM)) (c:=KM)
  have h:=CallsTo.shared (P:=Tp) (pol:=plF F) (g:=107) (fn:=Try.f107) (cd:=KM) (args:=[.sl 1 0 l.length none l.length 1,.func 92 [] [.ptr 0 0 0 1]]) (v:=.int .i64 (m:Int)) h107 (by kernel_rfl) (by kernel_rfl) (by kernel_rfl) t (by kernel_rfl) (by simp) (by simp only [Qd,hr];rfl)
  rw [QH _ rfl] at h
  exact ⟨_,h,.inr ⟨m,rfl,h1,h2,h3⟩⟩
 ·have r:=Wk (pol':=plF F) (f:=107) (E:=fun i=>(XP (.s 1 l.length) (.func 92 [] [.q 0]) (.i 0) Ud (.i (l.length:Int)) (.i (i:Int)))) (Hs:=fun _=>[bI [v],bI l]) l.length (go l.length (qB _) fun i hi=>hno _ (Qu _ hi)) (fun i _=>by kernel_rfl) (fun i _=>QH _ rfl) (Qn0 (F:=F) 0 1 l.length 0 [bI [v],bI l] l.length 0 (by omega)) (by simp) (c:=sn 26 KM) (by kernel_rfl) (fun i _=>by kernel_rfl)
  have z:=Qn1 (F:=F) 0 1 l.length 0 [bI [v],bI l] (y7:=.i (l.length:Int)) (y8:=.i (l.length:Int))
  have t:=sq (a) (sq (sq (b) (bke (c:=sn 13 KM) (r)) (c:=sn 6 KM)) (z) (c:=sn 3 KM)) (c:=KM)
  have h:=CallsTo.shared (P:=Tp) (pol:=plF F) (g:=107) (fn:=Try.f107) (cd:=KM) (args:=[.sl 1 0 l.length none l.length 1,.func 92 [] [.ptr 0 0 0 1]]) (v:=.int .i64 (-1)) h107 (by kernel_rfl) (by kernel_rfl) (by kernel_rfl) t (by kernel_rfl) (by simp) (by simp only [Qd,hr];rfl)
  rw [QH _ rfl] at h
  exact ⟨_,h,.inl ⟨rfl,fun hv=>hno v hv rfl⟩⟩
def wo (l:List Int) (v:Int):List Int:=l.filter fun x=>decide (x≠v)
def dT (l:List Int) (v:Int) (i:Nat):List Int:=wo (l.take i) v++l.drop (wo (l.take i) v).length
theorem DD (l:List Int) (v:Int):(wo l v).length≤l.length:=jE _ _
theorem QeU (l:List Int) (v:Int) {i:Nat} (hi:i≤l.length):(dT l v i).length=l.length:=by
 have:=DD (l.take i) v
 rw [qF] at this
 rw [dT,qD,List.length_drop];omega
theorem Qof (l:List Int) (v:Int) {i:Nat} (hi:i<l.length):(dT l v i).getD i 0=l.getD i 0:=by
 have:=DD (l.take i) v
 rw [qF] at this
 simp only [qJ,dT]
 rw [qR (by omega),List.getElem?_drop,show (wo (l.take i) v).length+(i-(wo (l.take i) v).length)=i by omega]
theorem Cw (l:List Int) (v:Int) {i:Nat} (hi:i<l.length):wo (l.take (i+1)) v=if l.getD i 0=v then wo (l.take i) v else wo (l.take i) v++[l.getD i 0]:=by
 rw [Ws hi,wo,qS]
 by_cases c:l.getD i 0=v
 ·rw [if_pos c,qM (by simpa using c)];simp [wo]
 ·rw [if_neg c,qN (by simpa using c)];rfl
theorem Qog (l:List Int) (v:Int) {i:Nat} (hi:i<l.length) (c:l.getD i 0≠v):(dT l v i).set (wo (l.take i) v).length (l.getD i 0)=dT l v (i+1):=by
 have:=DD (l.take i) v
 rw [qF] at this
 rw [dT,jP _ _ (qB _),qK,dT,Cw l v hi,if_neg c,qD,qG,jH]
 refine congrArg _ ?_
 rw [List.drop_eq_getElem_cons (by omega)]
 rfl
theorem QeV (h90:F 90=none) (h92:F 92=none) (h107:F 107=none) (l:List Int) (v:Int) (hl:l.length≤900) :
  ∃T,ClF F 90 [.sl 1 0 l.length none l.length 1,.func 92 [] [.ptr 0 0 0 1]] [bI [v],bI l] (.sl 1 0 (wo l v).length none l.length 1) [bI [v],bI (wo l v++T)]∧(wo l v++T).length=l.length:=by
 obtain ⟨r,hc,hr⟩:=QeT h92 h107 l v hl
 obtain ⟨N,c107⟩:=CallsTo.from hc
 have a:=Qn2 (F:=F) 0 1 l.length 0 [bI [v],bI l]
 have b:=Qn3 (F:=F) N 1 l.length 0 [bI [v],bI l] r c107
 have hres:Try.f90.results.toList=[.tmp 4]:=by kernel_rfl
 rcases hr with ⟨rfl,hno⟩ | ⟨m,rfl,hm1,hm2,hm3⟩
 ·have c:=Qn4 (F:=F) 0 1 l.length 0 [bI [v],bI l] (-1) rfl
  have t:=sq (a) (sq (b) (sqo (c) (c:=sn 7 B90) (b:=sn 15 B90)) (c:=sn 3 B90)) (c:=B90)
  have h:=CallsTo.shared (P:=Tp) (pol:=plF F) (g:=90) (fn:=Try.f90) (cd:=B90) (args:=[.sl 1 0 l.length none l.length 1,.func 92 [] [.ptr 0 0 0 1]]) (v:=.sl 1 0 l.length none l.length 1) h90 (by kernel_rfl) (by kernel_rfl) (by kernel_rfl) t (by kernel_rfl) (by simp) (by simp only [Qd,hres];rfl)
  rw [QH _ rfl] at h
  have e:wo l v=l:=List.filter_eq_self.2 fun x hx=>decide_eq_true fun c=>hno (c▸hx)
  rw [e]
  exact ⟨[],by rw [qH];exact h,by simp⟩
 ·have c:=Qn5 (F:=F) 0 1 l.length 0 [bI [v],bI l] (m:Int) (by omega)
  have d:=Qn6 (F:=F) 0 1 l.length 0 [bI [v],bI l] m
  have ew:∀i,i≤m→wo (l.take i) v=l.take i:=fun i hi=>List.filter_eq_self.2 fun x hx=>decide_eq_true fun c=>by
   obtain ⟨j,hj,rfl⟩:=qV hx
   rw [qF] at hj
   have:=hm3 j (by omega)
   rw [QB (by omega)] at this
   rw [List.getElem_take] at c
   exact this c
  have em:wo (l.take (m+1)) v=l.take m:=by rw [Cw l v hm1,if_pos hm2,ew m (qB _)]
  have eml:(wo (l.take (m+1)) v).length=m:=by rw [em,qF];omega
  have r:=Wk (pol':=plF F) (f:=90) (E:=fun i=>(SZ (.s 1 l.length) (.func 92 [] [.q 0]) (.imm .lit 1 []) (.i ((wo (l.take (m+1+i)) v).length:Int)) (.i (((m+1+i):Nat):Int)) Ud)) (Hs:=fun i=>[bI [v],bI (dT l v (m+1+i))]) (l.length-(m+1)) (E0:=fun i=>(SZ (.s 1 l.length) (.func 92 [] [.q 0]) (.imm .lit 1 []) (.i ((wo (l.take (m+1+(i+1))) v).length:Int)) (.i (((m+1+(i+1)):Nat):Int)) (.i (l.getD (m+1+i) 0)))) (H1:=fun i=>[bI [v],bI (dT l v (m+1+(i+1)))])
   (fun i hi=>by
    generalize hj:m+1+i=j
    have hj2:m+1+(i+1)=j+1:=by omega
    rw [hj2]
    have hjl:j<l.length:=by omega
    have hdl:=QeU l v (i:=j) (by omega)
    have ld:=Q6 (H:=[bI [v],bI (dT l v j)]) (k:=1) (o:=dT l v j) rfl (y:=j) (by omega)
    rw [hdl,Qof l v hjl] at ld
    obtain ⟨N,cN⟩:=CallsTo.from (QbV (F:=F) h92 (H:=[bI [v],bI (dT l v j)]) (kb:=0) rfl (l.getD j 0))
    have hws:=Cw l v hjl
    have hwl:=DD (l.take j) v
    rw [qF] at hwl
    by_cases cv:l.getD j 0=v
    ·rw [decide_eq_true cv] at cN
     rw [if_pos cv] at hws
     have s:=Qn7 (F:=F) N 1 l.length 0 [bI [v],bI (dT l v j)] (wo (l.take j) v).length j (l.getD j 0) (by omega) (JX u24 z3 (by omega)) ld cN
     rw [Qi (by omega)] at s
     have:dT l v (j+1)=dT l v j:=by rw [dT,hws];rfl
     rw [this,hws]
     exact s
    ·rw [decide_eq_false cv] at cN
     rw [if_neg cv] at hws
     have st:=ZI (H:=[bI [v],bI (dT l v j)]) (k:=1) (o:=dT l v j) rfl (y:=(wo (l.take j) v).length) (by omega) (l.getD j 0)
     rw [hdl,Qog l v hjl cv] at st
     have s:=Qn8 (F:=F) N 1 l.length 0 [bI [v],bI (dT l v j)] (wo (l.take j) v).length j (l.getD j 0) (by omega) (JX u24 z3 (by omega)) ld cN (JX u24 z3 (by omega)) st
     rw [Qi (by omega),Qi (by omega)] at s
     have el:(wo (l.take (j+1)) v).length=(wo (l.take j) v).length+1:=by rw [hws];simp
     rw [← el] at s
     exact s) (fun i _=>by kernel_rfl) (fun i _=>QH _ rfl) (Qn9 (F:=F) 0 1 l.length 0 [bI [v],bI (dT l v (m+1+(l.length-(m+1))))] (wo (l.take (m+1+(l.length-(m+1)))) v).length (m+1+(l.length-(m+1))) 0 (by omega)) (by simp) (c:=sn 122 B90) (by kernel_rfl) (fun i _=>by kernel_rfl)
  have e0:dT l v (m+1+0)=l:=by rw [Nat.add_zero,dT,eml,em,List.take_append_drop]
  have en:m+1+(l.length-(m+1))=l.length:=by omega
  simp only [e0,en,Nat.add_zero,eml,qE] at r
  rw [Qi (by omega)] at d
  have hdl:=QeU l v (qB l.length)
  have hwl:=DD l v
  have hcl:=QeS (H:=[bI [v],bI (dT l v l.length)]) (b:=1) rfl hdl hwl
  have hdt:(dT l v l.length).take (wo l v).length=wo l v:=by
   rw [dT,qE,jW (qB _),qW (qB _)]
  rw [hdt] at hcl
  have z:=Qoa (F:=F) 0 1 l.length 0 [bI [v],bI (dT l v l.length)] (wo l v).length (y6:=.i (l.length:Int)) (Qea hwl) hcl (Qd9 hwl)
  have t:=sq (a) (sq (b) (sq (c) (sq (sq (d) (bke (c:=sn 61 B90) (r)) (c:=sn 30 B90)) (z) (c:=sn 15 B90)) (c:=sn 7 B90)) (c:=sn 3 B90)) (c:=B90)
  have h:=CallsTo.shared (P:=Tp) (pol:=plF F) (g:=90) (fn:=Try.f90) (cd:=B90) (args:=[.sl 1 0 l.length none l.length 1,.func 92 [] [.ptr 0 0 0 1]]) (v:=.sl 1 0 (wo l v).length none l.length 1) h90 (by kernel_rfl) (by kernel_rfl) (by kernel_rfl) t (by kernel_rfl) (by simp) (by simp only [Qd,hres];rfl)
  rw [QH (H:=[bI [v],bI l]) (H':=([bI [v],bI (dT l v l.length)].set 1 (bI (wo l v++qL (l.length-(wo l v).length) 0)))) _ rfl] at h
  exact ⟨_,h,by rw [qD,zH];omega⟩
theorem S0 {H:Heap} {no:List Nat} {b m n mx:Nat} {els:List HV} (hb:H[b]?=some (.arr 1 els true mx)) (hm:els.length=n) (hk:m≤n) (hf:mapO (frz H no 4) (els.take m)=some (els.take m)):We H no false (.sl b 0 m none n 1)=some (.own 1 (els.take m)):=by
 have hv:Zt H b 0 m n 1=some (els.take m):=by
  simp only [Zt,hb]
  rw [if_pos ⟨hm.symm,by omega,trivial⟩]
  simp
 have hr:(Kc H no false)=frz H no 4:=by funext v;rfl
 simp only [We,hb,if_true,hv,hr,hf]
def GC:List HV→Option HV:=f2 kL kI fun l v=>if l≠[]∧l.length≤900 then some (.own 1 ((wo l v).map Qb)) else none
theorem QsS:Try.f72.results.toList=[.tmp 4]:=by kernel_rfl
def S1:FuncId→Option (List HV→Option HV):=fun g=>if g==91 then some QbU else none
theorem Qhd (n:Nat):Qn Tp (Qc Tp (plF S1) n):=Qy _ (fun g f h=>by
 unfold S1 at h
 split at h
 ·rename_i hg;cases h;rw [eq_of_beq hg];exact QeR
 ·cases h) n
theorem QaY:QP Tp 72 GC:=by
 refine Qp (pol:=plF S1) (fn:=Try.f72) (cd:=B72) Qk Qhd (by kernel_rfl) (by kernel_rfl) (Zm S1 _ _ (by kernel_rfl)) (by kernel_rfl) ?_
 intro args res h
 obtain ⟨l,v,rfl,hq⟩:=Z9 h
 split at hq
 case isFalse=>cases hq
 rename_i hc
 cases hq
 have a:=Qoc (F:=S1) 0 (l.map Qb) v 0 0 0
 have c91:=at1 (pol':=plF S1) (g:=91) (c1:=kL) (f:=fun l=>if l≠[]∧l.length≤900 then some (.own 1 (l.map Qb)) else none) (H:=[bI [v]]) (by kernel_rfl) (Kg _ l) (if_pos hc)
 rw [W1] at c91
 obtain ⟨T,c90,hT⟩:=QeV (F:=S1) (by kernel_rfl) (by kernel_rfl) (by kernel_rfl) l v hc.2
 obtain ⟨N,c90⟩:=CallsTo.from c90
 have b:=Qod (F:=S1) N (l.map Qb) v [bI [v]] 1 l.length (wo l v).length c91 c90
 refine ⟨_,_,_,.sl 1 0 (wo l v).length none l.length 1,sq (a) (b) (c:=B72),by simp,by simp only [Qd,QsS];rfl,?_⟩
 have hr:=S0 (H:=[bI [v],bI (wo l v++T)]) (no:=[1]) (b:=1) (m:=(wo l v).length) (n:=l.length) (mx:=0) (els:=(wo l v++T).map Qb) rfl (by rw [qC];exact hT) (DD l v) (by rw [← jA,jW (qB _),qW (qB _)];exact WE (fun r=>Ke 4 r) _)
 rw [← jA,jW (qB _),qW (qB _)] at hr
 have ho:QM [bI [v],bI (wo l v++T)] false (.sl 1 0 (wo l v).length none l.length 1)=[1]:=rfl
 show WP _ false _=_
 simp only [WP,ho,List.nodup_cons,jZ,not_false_eq_true,List.nodup_nil,and_self,if_true,W4,hr]
end Go.Proofs.Ytiejmoglooaalaa
end
section
open Go Go.HL
namespace Go.Proofs.Ytiejmoglooaalaa
set_option linter.unusedSectionVars false
open Go.Proofs.Try renaming prog → Tp
open Go.HL.HV renaming undef → Ud
def ixI (l:List Int) (v:Int):Int:=match fN (fun i=>decide (l.getD i 0=v)) l.length 0 with | some m=>(m:Int) | none=>-1
theorem QbW (l:List Int) (v:Int):0≤ixI l v↔v∈l:=by
 rw [ixI]
 cases h:fN (fun i=>decide (l.getD i 0=v)) l.length 0 with
 | some m =>
  obtain ⟨_,h2,h3,_⟩:=Jl h
  refine ⟨fun _=>?_,fun _=>by simp⟩
  have:=of_decide_eq_true h3
  rw [← this]
  exact Qu 0 (by omega)
 | none =>
  refine ⟨fun h=>absurd h (by decide),fun hv=>?_⟩
  obtain ⟨j,hj,rfl⟩:=qV hv
  have:=Z1 h j (qI _) (by omega)
  simp only [decide_eq_false_iff_not] at this
  exact absurd (QB hj) this
def QbX:List HV→Option HV:=f2 kL kI fun l v=>if l.length≤900 then some (.int .i64 (ixI l v)) else none
theorem QeW:Try.f93.results.toList=[.tmp 4]:=by kernel_rfl
theorem QeX:QP Tp 93 QbX:=by
 refine Qp (pol:=plF fun _=>none) (fn:=Try.f93) (cd:=B93) Qk (Qy (fun _=>none) (fun g f h=>by cases h)) (by kernel_rfl) (by kernel_rfl) (Zm (fun _=>none) _ _ (by kernel_rfl)) (by kernel_rfl) ?_
 intro args res h
 obtain ⟨l,v,rfl,hq⟩:=Z9 h
 split at hq
 case isFalse=>cases hq
 rename_i hl
 cases hq
 have go:∀m,m≤l.length→(∀i,i<m→l.getD i 0≠v)→∀i,i<m→RunsTo Tp (plF fun _=>none) 93 (sn 52 B93) ((DB (.a (l.map Qb)) (.i v) (.i 0) Ud (.i (l.length:Int)) (.i (i:Int)))) [] .normal ((plF fun _=>none).keys 93) ((DB (.a (l.map Qb)) (.i v) (.i 0) (.i (i:Int)) (.i (l.length:Int)) (.i ((i+1:Nat):Int)))) []:=fun m hm' hn' i hi=>by
  have s:=QnG (F:=fun _=>none) (l.map Qb) v [] l.length i (l.getD i 0) (by omega) (gx (by omega)) (fun h=>hn' i hi h.symm)
  rw [Qi (by omega)] at s
  exact s
 have a:=QnD (F:=fun _=>none) (l.map Qb) v []
 have b:=QnE (F:=fun _=>none) (l.map Qb) v []
 rw [qC] at b
 rw [ixI]
 cases hf:fN (fun i=>decide (l.getD i 0=v)) l.length 0 with
 | some m =>
  obtain ⟨_,h1,h2,h3⟩:=Jl hf
  have r:=Wk (pol':=plF fun _=>none) (f:=93) (E:=fun i=>(DB (.a (l.map Qb)) (.i v) (.i 0) Ud (.i (l.length:Int)) (.i (i:Int)))) (Hs:=fun _=>[]) m (go m (by omega) fun i hi=>by have:=h3 i (qI _) hi;simpa using this) (fun i _=>by kernel_rfl) (fun i _=>QH _ rfl) (QnF (F:=fun _=>none) (l.map Qb) v [] l.length m (l.getD m 0) (by omega) (gx (by omega)) (of_decide_eq_true h2).symm) (by simp) (c:=sn 26 B93) (by kernel_rfl) (fun i _=>by kernel_rfl)
  exact ⟨_,_,_,.int .i64 (m:Int),sq (a) (sqo (sq (b) (RunsTo.block_ret (i:=0) (c:=sn 13 B93) (r) (by kernel_rfl)) (c:=sn 6 B93)) (c:=sn 3 B93) (b:=sn 7 B93)) (c:=B93),by simp,by simp only [Qd,QeW];rfl,rfl⟩
 | none =>
  have h3:=Z1 hf
  have r:=Wk (pol':=plF fun _=>none) (f:=93) (E:=fun i=>(DB (.a (l.map Qb)) (.i v) (.i 0) Ud (.i (l.length:Int)) (.i (i:Int)))) (Hs:=fun _=>[]) l.length (go l.length (qB _) fun i hi=>by have:=h3 i (qI _) (by omega);simpa using this) (fun i _=>by kernel_rfl) (fun i _=>QH _ rfl) (QnH (F:=fun _=>none) (l.map Qb) v [] l.length l.length 0 (by omega)) (by simp) (c:=sn 26 B93) (by kernel_rfl) (fun i _=>by kernel_rfl)
  have z:=QnI (F:=fun _=>none) (l.map Qb) v [] (y7:=.i (l.length:Int)) (y8:=.i (l.length:Int))
  exact ⟨_,_,_,.int .i64 (-1),sq (a) (sq (sq (b) (bke (c:=sn 13 B93) (r)) (c:=sn 6 B93)) (z) (c:=sn 3 B93)) (c:=B93),by simp,by simp only [Qd,QeW];rfl,rfl⟩
def DE:List HV→Option HV:=f2 kL kI fun l v=>if l.length≤900 then some (.bool (decide (v∈l))) else none
theorem QiT:Try.f73.results.toList=[.tmp 4]:=by kernel_rfl
def QaZ:FuncId→Option (List HV→Option HV):=fun g=>if g==93 then some QbX else none
theorem Qhe (n:Nat):Qn Tp (Qc Tp (plF QaZ) n):=Qy _ (fun g f h=>by
 unfold QaZ at h
 split at h
 ·rename_i hg;cases h;rw [eq_of_beq hg];exact QeX
 ·cases h) n
theorem S2:QP Tp 73 DE:=by
 refine Qp (pol:=plF QaZ) (fn:=Try.f73) (cd:=B73) Qk Qhe (by kernel_rfl) (by kernel_rfl) (Zm QaZ _ _ (by kernel_rfl)) (by kernel_rfl) ?_
 intro args res h
 obtain ⟨l,v,rfl,hq⟩:=Z9 h
 split at hq
 case isFalse=>cases hq
 rename_i hl
 cases hq
 have c:=at2 (pol':=plF QaZ) (g:=93) (c1:=kL) (c2:=kI) (f:=fun l v=>if l.length≤900 then some (.int .i64 (ixI l v)) else none) (H:=[]) (by kernel_rfl) (Kg _ l) (ShI _ v) (if_pos hl)
 by_cases k:0≤ixI l v
 ·rw [decide_eq_true ((QbW l v).1 k)]
  exact ⟨_,_,_,.bool true,QnJ (F:=QaZ) (l.map Qb) v [] (ixI l v) c k,by simp,by simp only [Qd,QiT];rfl,rfl⟩
 ·rw [decide_eq_false fun h=>k ((QbW l v).2 h)]
  exact ⟨_,_,_,.bool false,QnK (F:=QaZ) (l.map Qb) v [] (ixI l v) c k,by simp,by simp only [Qd,QiT];rfl,rfl⟩
def Q5 (l:List St) (t:List Int) (o:Int) (k:Int):Prop:=(Qz l (wo t o)).getD (sA l k).toNat 0≠(Qz l (wo t o)).getD (sB l k).toNat 0
instance (l:List St) (t:List Int) (o k:Int):Decidable (Q5 l t o k):=inferInstanceAs (Decidable (_≠_))
def Q8 (l:List St) (t:List Int) (o:Int) (n:Nat):List Int:=(Qg n).filter fun k=>decide (k∉t∧Q5 l t o k)
theorem QeY (l:List St) (t:List Int) (o:Int) (i:Nat):Q8 l t o (i+1)=Q8 l t o i++(if (i:Int)∉t∧Q5 l t o i then [(i:Int)] else []):=by
 rw [Q8,Wr,qS,Q8]
 refine congrArg _ ?_
 by_cases c:(i:Int)∉t∧Q5 l t o i
 ·rw [if_pos c,qN (by simpa using c)];rfl
 ·rw [if_neg c,qM (by simpa using c)];rfl
theorem Uw (l:List St) (t:List Int) (o:Int) (n:Nat):(Q8 l t o n).length≤n:=by
 have:=jE (fun k=>decide (k∉t∧Q5 l t o k)) (Qg n)
 rwa [QU] at this
def YI:List HV→Option HV:=f3 kN kL kI fun p t o=>if (ZY p.2=true∧p.2.length≤500)∧inR p.2.length t=true∧t≠[]∧t.length≤500 then some (.own 1 ((Q8 p.2 t o p.2.length).map Qb)) else none
theorem QsT:Try.f59.results.toList=[.tmp 6]:=by kernel_rfl
def K9:FuncId→Option (List HV→Option HV):=fun g=>if g==72 then some GC else if g==73 then some DE else none
theorem Qhf (n:Nat):Qn Tp (Qc Tp (plF K9) n):=Qy _ (fun g f h=>by
 unfold K9 at h
 split at h
 ·rename_i hg;cases h;rw [eq_of_beq hg];exact QaY
 split at h
 ·rename_i hg;cases h;rw [eq_of_beq hg];exact S2
 ·cases h) n
theorem DF:QP Tp 59 YI:=by
 refine Qp (pol:=plF K9) (fn:=Try.f59) (cd:=B59) Qk Qhf (by kernel_rfl) (by kernel_rfl) (Zm K9 _ _ (by kernel_rfl)) (by kernel_rfl) ?_
 intro args res h
 obtain ⟨⟨n,l⟩,t,o,rfl,hq⟩:=Kp h
 simp only at hq
 split at hq
 case isFalse=>cases hq
 rename_i hc
 obtain ⟨⟨he,hl⟩,hr,hne,htl⟩:=hc
 cases hq
 have ht:=inR_iff.1 hr
 have hwl:=DD t o
 have htw:∀k∈wo t o,0≤k∧k<(l.length:Int):=fun k hk=>ht k (List.mem_filter.1 hk).1
 have a:=QnL (F:=K9) 0 n (l.map Qa) (t.map Qb) o
 have c72:=at2 (pol':=plF K9) (g:=72) (c1:=kL) (c2:=kI) (f:=fun l v=>if l≠[]∧l.length≤900 then some (.own 1 ((wo l v).map Qb)) else none) (H:=[bN n l]) (by kernel_rfl) (Kg _ t) (ShI _ o) (if_pos ⟨hne,by omega⟩)
 rw [W1] at c72
 obtain ⟨N1,c57⟩:=CallsTo.from (GA (F:=K9) (by kernel_rfl) (by kernel_rfl) (by kernel_rfl) (by kernel_rfl) (n:=n) he htw (by omega) (H:=[bN n l,bI (wo t o)]) (by show max 0 (max 0 0)≤2;decide) (lb:=1) (cap:=none) (o:=wo t o) rfl (fun i hi=>⟨hi,rfl⟩))
 have sN:Qm [bN n l] [bN n l]=true:=by simp only [Qm,sameL,VG,beq_self_eq_true,jI]
 have hs1:(WT ((QK Tp [bN n l] 66 (.ptr 0 0 0 1)).map (fun v=>(v,([bN n l]:Heap)))) ((QK Tp [bN n l,bI (wo t o)] 66 (.ptr 0 0 0 1)).map (fun v=>(v,([bN n l,bI (wo t o)]:Heap)))) [bN n l] [bN n l,bI (wo t o)]&&true)=true:=by
  rw [JE (n:=n) (l:=l) rfl,JE (n:=n) (l:=l) rfl]
  simp only [jV,WT,VG,sN,QG sN (WX (wo t o)),jI]
 have b:=QnM (F:=K9) N1 n (l.map Qa) (t.map Qb) o [bN n l] 1 (wo t o).length 3 _ (JE rfl) c72 c57 hs1
 have hU:=Jt he (t:=wo t o) htw
 have hlabE:(ksT l (wo t o)).2.1=Qz l (wo t o):=rfl
 rw [hlabE] at hU
 generalize hus:(ksT l (wo t o)).1=us at *
 have c:=QnN (F:=K9) 0 n (l.map Qa) (t.map Qb) o [bN n l,bI (wo t o),bN n l,bU us] 3 rfl
 have d:=QnO (F:=K9) 0 n (l.map Qa) (t.map Qb) o [bN n l,bI (wo t o),bN n l,bU us,bI []] 3 4 0 (ZX (xb:=0) rfl)
 rw [qC] at d
 have r:=Wk (pol':=plF K9) (f:=59) (E:=fun i=>(DC (Qv n l) (.a (t.map Qb)) (.i o) Ud (.imm .lit 1 []) (.q 3) (.sl 4 0 (Q8 l t o i).length none (Q8 l t o i).length 1) Ud Ud (.g (l.map Qa)) (.i (l.length:Int)) (.i (i:Int)))) (Hs:=fun i=>[bN n l,bI (wo t o),bN n l,bU us,bI (Q8 l t o i)]) l.length
  (E0:=fun i=>(DC (Qv n l) (.a (t.map Qb)) (.i o) Ud (.imm .lit 1 []) (.q 3) (.sl 4 0 (Q8 l t o (i+1)).length none (Q8 l t o (i+1)).length 1) (.i (i:Int)) (.q 5) (.g (l.map Qa)) (.i (l.length:Int)) (.i ((i+1:Nat):Int)))) (H1:=fun i=>[bN n l,bI (wo t o),bN n l,bU us,bI (Q8 l t o (i+1)),bT (l.getD i (0,0,0))])
  (fun i hi=>by
   have g2:=gs (l:=l) (y:=i) hi
   obtain ⟨e1,e2⟩:=Kt he (k:=(i:Int)) (by omega)
   have hJ:Q5 l t o (i:Int)↔(Qz l (wo t o)).getD (sA l i).toNat 0≠(Qz l (wo t o)).getD (sB l i).toNat 0:=Iff.rfl
   have hsA:sA l (i:Int)=(l.getD i (0,0,0)).1:=rfl
   have hsB:sB l (i:Int)=(l.getD i (0,0,0)).2.1:=rfl
   rw [hsA] at e1 hJ
   rw [hsB] at e2 hJ
   have his:=QeY l t o i
   have hil:=Uw l t o i
   generalize l.getD i (0,0,0)=s at *
   have hx:([bN n l,bI (wo t o),bN n l,bU us,bI (Q8 l t o i),bT s]:Heap)[5]?=some (bT s):=rfl
   have la:=ldT hx 0 s.1 rfl
   have lb:=ldT hx 1 s.2.1 rfl
   have nv:=Dz [bN n l,bI (wo t o),bN n l,bU us,bI (Q8 l t o i)]
   have st:=DA [bN n l,bI (wo t o),bN n l,bU us,bI (Q8 l t o i)] s
   have c73:=at2 (pol':=plF K9) (g:=73) (c1:=kL) (c2:=kI) (f:=fun l v=>if l.length≤900 then some (.bool (decide (v∈l))) else none) (H:=[bN n l,bI (wo t o),bN n l,bU us,bI (Q8 l t o i),bT s]) (by kernel_rfl) (Kg _ t) (ShI _ (i:Int)) (if_pos (by omega))
   obtain ⟨N2,o1⟩:=CallsTo.from (Kh (F:=K9) (by kernel_rfl) (H:=[bN n l,bI (wo t o),bN n l,bU us,bI (Q8 l t o i),bT s]) (b:=3) rfl hU e1.1 e1.2)
   obtain ⟨N3,o2⟩:=CallsTo.from (Kh (F:=K9) (by kernel_rfl) (H:=[bN n l,bI (wo t o),bN n l,bU us,bI (Q8 l t o i),bT s]) (b:=3) rfl hU e2.1 e2.2)
   have o1':∀kf,max N2 N3≤kf→_:=fun kf hk=>o1 kf (by omega)
   have o2':∀kf,max N2 N3≤kf→_:=fun kf hk=>o2 kf (by omega)
   have sT:Qm [bT s] [bT s]=true:=by simp only [Qm,sameL,Uq,beq_self_eq_true,jI]
   have sU:Qm [bU us] [bU us]=true:=by simp only [Qm,sameL,same,WU VF,beq_self_eq_true,jI]
   have sH:Qm [bN n l,bI (wo t o),bN n l,bU us,bI (Q8 l t o i),bT s] [bN n l,bI (wo t o),bN n l,bU us,bI (Q8 l t o i),bT s]=true:=QG sN (QG (WX _) (QG sN (QG sU (QG (WX _) sT))))
   have hs2:(WT ((QK Tp [bN n l,bI (wo t o),bN n l,bU us,bI (Q8 l t o i),bT s] 3 (.ptr 5 0 1 1)).map (fun v=>(v,([bN n l,bI (wo t o),bN n l,bU us,bI (Q8 l t o i),bT s]:Heap)))) ((QK Tp [bN n l,bI (wo t o),bN n l,bU us,bI (Q8 l t o i),bT s] 3 (.ptr 5 0 1 1)).map (fun v=>(v,([bN n l,bI (wo t o),bN n l,bU us,bI (Q8 l t o i),bT s]:Heap)))) [bN n l,bI (wo t o),bN n l,bU us,bI (Q8 l t o i),bT s] [bN n l,bI (wo t o),bN n l,bU us,bI (Q8 l t o i),bT s]&&true)=true:=by
    rw [lb]
    have:same (.int .i64 s.2.1) (.int .i64 s.2.1)=true:=VF s.2.1
    simp only [jV,WT,this,sH,jI]
   by_cases cm:(i:Int)∈t
   ·rw [decide_eq_true cm] at c73
    rw [if_neg (fun h=>h.1 cm),qH] at his
    have s1:=QnP (F:=K9) 0 n (l.map Qa) (t.map Qb) o [bN n l,bI (wo t o),bN n l,bU us,bI (Q8 l t o i)] 3 4 (Q8 l t o i).length l.length i s.1 s.2.1 s.2.2 (by omega) g2 nv st c73 rfl
    rw [Qi (by omega)] at s1
    rw [his]
    exact s1
   rw [decide_eq_false cm] at c73
   by_cases cj:(Qz l (wo t o)).getD s.1.toNat 0=(Qz l (wo t o)).getD s.2.1.toNat 0
   ·rw [if_neg (fun h=>(hJ.1 h.2) cj),qH] at his
    have s1:=QnQ (F:=K9) (max N2 N3) n (l.map Qa) (t.map Qb) o [bN n l,bI (wo t o),bN n l,bU us,bI (Q8 l t o i)] 3 4 (Q8 l t o i).length l.length i s.1 s.2.1 s.2.2 (by omega) g2 nv st c73 (Qc3 _) la o1' (Qc4 _) lb o2' cj hs2
    rw [Qi (by omega)] at s1
    rw [his]
    exact s1
   ·rw [if_pos ⟨cm,hJ.2 cj⟩] at his
    have ap:=JD (H:=[bN n l,bI (wo t o),bN n l,bU us,bI (Q8 l t o i),bT s]) (b:=4) (o:=Q8 l t o i) rfl (by omega) (i:Int)
    rw [← his] at ap
    have s1:=QnR (F:=K9) (max N2 N3) n (l.map Qa) (t.map Qb) o [bN n l,bI (wo t o),bN n l,bU us,bI (Q8 l t o i)] 3 4 (Q8 l t o i).length l.length i s.1 s.2.1 s.2.2 (by omega) g2 nv st c73 (Qc3 _) la o1' (Qc4 _) lb o2' cj hs2 ap
    have el:(Q8 l t o (i+1)).length=(Q8 l t o i).length+1:=by rw [his];simp
    rw [Qi (by omega),← el] at s1
    exact s1) (fun i _=>by kernel_rfl) (fun i _=>by
     have hb:WF ((DC (Qv n l) (.a (t.map Qb)) (.i o) Ud (.imm .lit 1 []) (.q 3) (.sl 4 0 (Q8 l t o (i+1)).length none (Q8 l t o (i+1)).length 1) Ud Ud (.g (l.map Qa)) (.i (l.length:Int)) (.i ((i+1:Nat):Int))))=5:=by simp only [WF,bnd,bndL,Qv];rfl
     show gc 5 (WF ((DC (Qv n l) (.a (t.map Qb)) (.i o) Ud (.imm .lit 1 []) (.q 3) (.sl 4 0 (Q8 l t o (i+1)).length none (Q8 l t o (i+1)).length 1) Ud Ud (.g (l.map Qa)) (.i (l.length:Int)) (.i ((i+1:Nat):Int))))) ([bN n l,bI (wo t o),bN n l,bU us,bI (Q8 l t o (i+1))]++[bT (l.getD i (0,0,0))])=_
     rw [hb]
     exact K5 (H:=[bN n l,bI (wo t o),bN n l,bU us,bI (Q8 l t o (i+1))]) (by show max 0 (max 0 (max 0 (max 0 (max 0 (max 0 0)))))≤5;decide) (qB _)) (QnS (F:=K9) 0 n (l.map Qa) (t.map Qb) o [bN n l,bI (wo t o),bN n l,bU us,bI (Q8 l t o l.length)] 3 4 (Q8 l t o l.length).length l.length l.length 0 0 0 (by omega)) (by simp) (c:=sn 122 B59) (by kernel_rfl) (fun i _=>by kernel_rfl)
 have z:=QnT (F:=K9) 0 n (l.map Qa) (t.map Qb) o [bN n l,bI (wo t o),bN n l,bU us,bI (Q8 l t o l.length)] 3 4 (Q8 l t o l.length).length (y21:=.g (l.map Qa)) (y22:=.i (l.length:Int)) (y23:=.i (l.length:Int))
 refine ⟨_,_,_,.sl 4 0 (Q8 l t o l.length).length none (Q8 l t o l.length).length 1,sq (a) (sq (b) (sq (c) (sq (sq (d) (bke (c:=sn 61 B59) (lpi (e0:=(DC (Qv n l) (.a (t.map Qb)) (.i o) (.q 0) (.imm .lit 1 []) (.q 3) (.s 4 0) Ud Ud (.g (l.map Qa)) (.i (l.length:Int)) (.i (0:Int)))) r (b:=sn 244 B59))) (c:=sn 30 B59)) (z) (c:=sn 15 B59)) (c:=sn 7 B59)) (c:=sn 3 B59)) (c:=B59),by simp,by simp only [Qd,QsT];rfl,?_⟩
 exact VE (b:=4) rfl rfl
end Go.Proofs.Ytiejmoglooaalaa
end
section
open Go Go.HL
namespace Go.Proofs.Ytiejmoglooaalaa
set_option maxRecDepth 100000
set_option linter.unusedSectionVars false
open Go.Proofs.Try renaming prog → Tp
open Go.HL.HV renaming undef → Ud
section
variable {F:FuncId→Option (List HV→Option HV)}
noncomputable def B28:Code:=Try.f28.body.getD .skip
abbrev DG (v0 v1 v2 v6 v7 v8:HV):Env:=[(0,v0),(1,v1),(2,v2),(6,v6),(7,v7),(8,v8)]
end
abbrev e28 (n:Int) (ls:List HV) (la:List HV) (u4 u5:HV):Env:=DG (.i n) (.g ls) (.a la) (.bool false) u4 u5
section
variable {F:FuncId→Option (List HV→Option HV)}
variable (n:Int) (ls la:List HV)
include n ls la
theorem Qoh:RU F 28 2 B28 [(0,.i n),(1,.g ls),(2,.a la)] [] .normal (e28 n ls la Ud Ud) [] :=
 hx 0 60 []
end
section
variable {F:FuncId→Option (List HV→Option HV)}
variable (n:Int) (ls la:List HV)
include n ls la
theorem Qoi (H:Heap) (y7 y8:HV:=Ud): RU F 28 12 B28 (e28 n ls la y7 y8) H .normal (e28 n ls la (.i 0) y8) H :=
 hx 0 60 []
theorem Qoj (H:Heap) (i:Nat) (x z:Int) (g0:(i:Int)<(la.length:Int)) (g1:IX 24 (.a la) (.n i) (.vptr (.i x))) (g2:x<0) (y8:HV:=Ud): RU F 28 52 B28 (e28 n ls la (.n i) y8) H .ret (e28 n ls la (.n i) y8) H :=
 hx 0 60 [jT 2 3 H g0,jO 4 2 H g1,jT 4 4 H g2]
theorem Qok (H:Heap) (i:Nat) (x z:Int) (g0:(i:Int)<(la.length:Int)) (g1:IX 24 (.a la) (.n i) (.vptr (.i x))) (g2:¬(x<0)) (g3:IX 24 (.a la) (.n i) (.vptr (.i x))) (g4:(ls.length:Int)≤x) (y8:HV:=Ud): RU F 28 52 B28 (e28 n ls la (.n i) y8) H .ret (e28 n ls la (.n i) y8) H :=
 hx 0 60 [jT 2 3 H g0,jO 4 2 H g1,jF 4 4 H g2,jO 4 8 H g3,jT 4 12 H g4]
theorem Qol (H:Heap) (i:Nat) (x z:Int) (g0:(i:Int)<(la.length:Int)) (g1:IX 24 (.a la) (.n i) (.vptr (.i x))) (g2:¬(x<0)) (g3:IX 24 (.a la) (.n i) (.vptr (.i x))) (g4:¬((ls.length:Int)≤x)) (g5:0<(i:Int)) (g6:IX 24 (.a la) (.i (qA.wrap ((i:Int)-1))) (.vptr (.i z))) (g7:IX 24 (.a la) (.n i) (.vptr (.i x))) (g8:x≤z) (y8:HV:=Ud): RU F 28 52 B28 (e28 n ls la (.n i) y8) H .ret (e28 n ls la (.n i) y8) H :=
 hx 0 60 [jT 2 3 H g0,jO 4 2 H g1,jF 4 4 H g2,jO 4 8 H g3,jF 4 12 H g4,jT 4 16 H g5,jO 4 21 H g6,jO 4 25 H g7,jT 4 27 H g8]
theorem Qom (H:Heap) (i:Nat) (x z:Int) (g0:(i:Int)<(la.length:Int)) (g1:IX 24 (.a la) (.n i) (.vptr (.i x))) (g2:¬(x<0)) (g3:IX 24 (.a la) (.n i) (.vptr (.i x))) (g4:¬((ls.length:Int)≤x)) (g5:0<(i:Int)) (g6:IX 24 (.a la) (.i (qA.wrap ((i:Int)-1))) (.vptr (.i z))) (g7:IX 24 (.a la) (.n i) (.vptr (.i x))) (g8:¬(x≤z)) (y8:HV:=Ud): RU F 28 52 B28 (e28 n ls la (.n i) y8) H .normal (e28 n ls la (.i (qA.wrap ((i:Int)+1))) y8) H :=
 hx 0 60 [jT 2 3 H g0,jO 4 2 H g1,jF 4 4 H g2,jO 4 8 H g3,jF 4 12 H g4,jT 4 16 H g5,jO 4 21 H g6,jO 4 25 H g7,jF 4 27 H g8]
theorem Qon (H:Heap) (i:Nat) (x z:Int) (g0:(i:Int)<(la.length:Int)) (g1:IX 24 (.a la) (.n i) (.vptr (.i x))) (g2:¬(x<0)) (g3:IX 24 (.a la) (.n i) (.vptr (.i x))) (g4:¬((ls.length:Int)≤x)) (g5:¬(0<(i:Int))) (y8:HV:=Ud): RU F 28 52 B28 (e28 n ls la (.n i) y8) H .normal (e28 n ls la (.i (qA.wrap ((i:Int)+1))) y8) H :=
 hx 0 60 [jT 2 3 H g0,jO 4 2 H g1,jF 4 4 H g2,jO 4 8 H g3,jF 4 12 H g4,jF 4 16 H g5]
theorem Qoo (H:Heap) (i:Nat) (x z:Int) (g0:¬((i:Int)<(la.length:Int))) (y8:HV:=Ud): RU F 28 52 B28 (e28 n ls la (.n i) y8) H (.exit 0) (e28 n ls la (.n i) y8) H :=
 hx 0 60 [jF 2 3 H g0]
theorem Qop (H:Heap) (sb k gb c:Nat) {H0:Heap} (g0:CM F 50 [.i n,.g ls,.a la] H (.tuple [.s sb k,.s gb c]) H0) (y7 y8:HV:=Ud): RU F 28 14 B28 (e28 n ls la y7 y8) H .normal (e28 n ls la y7 (.s sb k)) H0 :=
 hx 0 60 [jD 6 3 g0]
theorem Qoq (H:Heap) (sb k:Nat) (g0:(la.length:Int)=qA.wrap (n-1)) (g1:(k:Int)=qA.wrap (n-1)) (y7:HV:=Ud): RU F 28 15 B28 (e28 n ls la y7 (.s sb k)) H .ret (DG (.i n) (.g ls) (.a la) (.bool true) y7 (.s sb k)) H :=
 hx 0 60 [jT 7 4 H g0,jT 7 10 H g1]
theorem Qor (H:Heap) (sb k:Nat) (g0:(la.length:Int)=qA.wrap (n-1)) (g1:¬((k:Int)=qA.wrap (n-1))) (y7:HV:=Ud): RU F 28 15 B28 (e28 n ls la y7 (.s sb k)) H .ret (e28 n ls la y7 (.s sb k)) H :=
 hx 0 60 [jT 7 4 H g0,jF 7 10 H g1]
theorem Qos (H:Heap) (sb k:Nat) (g0:¬((la.length:Int)=qA.wrap (n-1))) (y7:HV:=Ud): RU F 28 15 B28 (e28 n ls la y7 (.s sb k)) H .ret (e28 n ls la y7 (.s sb k)) H :=
 hx 0 60 [jF 7 4 H g0]
end
section
variable {F:FuncId→Option (List HV→Option HV)}
noncomputable def B36:Code:=Try.f36.body.getD .skip
abbrev GD (v0 v1 v2 v6 v7 v8 v9:HV):Env:=[(0,v0),(1,v1),(2,v2),(6,v6),(7,v7),(8,v8),(9,v9)]
end
abbrev e36 (la:List HV) (o:Int) (p:Int) (u4 u5 u6:HV):Env:=GD (.a la) (.i o) (.i p) (.imm .lit 1 []) u4 u5 u6
section
variable {F:FuncId→Option (List HV→Option HV)}
variable (la:List HV) (o p:Int)
include la o p
theorem Qhg:RU F 36 2 B36 [(0,.a la),(1,.i o),(2,.i p)] [] .normal (e36 la o p Ud Ud Ud) [] :=
 hx 0 60 []
end
section
variable {F:FuncId→Option (List HV→Option HV)}
variable (la:List HV) (o p:Int)
include la o p
theorem Qhh (H:Heap) {v0:HV} {H0:Heap} (g0:some (HV.sl H.length 0 0 none 0 1,H++[Blk.b []])=some (v0,H0)) (y7 y8 y9:HV:=Ud): RU F 36 6 B36 (e36 la o p y7 y8 y9) H .normal (e36 la o p v0 y8 y9) H0 :=
 hx 0 60 [jR 1 0 g0]
theorem Qhi (H:Heap) (ob m:Nat) (y8 y9:HV:=Ud): RU F 36 14 B36 (e36 la o p (.s ob m) y8 y9) H .normal (e36 la o p (.s ob m) (.bool false) y9) H :=
 hx 0 60 []
theorem Qhj (H:Heap) (ob m:Nat) (y9:HV:=Ud): RU F 36 60 B36 (e36 la o p (.s ob m) (.bool false) y9) H .normal (e36 la o p (.s ob m) (.bool false) (.i 0)) H :=
 hx 0 60 []
theorem QeZ (H:Heap) (ob m i:Nat) (x:Int) {H0:Heap} {v0:HV} (g0:(i:Int)<(la.length:Int)) (g1:IX 24 (.a la) (.n i) (.vptr (.i x))) (g2:p<x) (g3:Zu H 1 8 (.s ob m) [.i p]=some (v0,H0)) (g4:IX 24 (.a la) (.n i) (.vptr (.i x))) (g5:x=o): RU F 36 244 B36 (e36 la o p (.s ob m) (.bool false) (.n i)) H .normal (e36 la o p v0 (.bool true) (.i (qA.wrap ((i:Int)+1)))) H0 :=
 hx 0 60 [jT 4 3 H g0,jO 6 5 H g1,jT 6 8 H g2,jR 7 3 g3,jO 9 2 H0 g4,jB 9 5 H0 (congrArg not (decide_eq_true g5))]
theorem Qe0 (H:Heap) (ob m i:Nat) (x:Int) {H0:Heap} {v0:HV} {H1:Heap} {v1:HV} (g0:(i:Int)<(la.length:Int)) (g1:IX 24 (.a la) (.n i) (.vptr (.i x))) (g2:p<x) (g3:Zu H 1 8 (.s ob m) [.i p]=some (v0,H0)) (g4:IX 24 (.a la) (.n i) (.vptr (.i x))) (g5:¬(x=o)) (g6:IX 24 (.a la) (.n i) (.vptr (.i x))) (g7:Zu H0 1 8 (v0) [.i x]=some (v1,H1)): RU F 36 244 B36 (e36 la o p (.s ob m) (.bool false) (.n i)) H .normal (e36 la o p v1 (.bool true) (.i (qA.wrap ((i:Int)+1)))) H1 :=
 hx 0 60 [jT 4 3 H g0,jO 6 5 H g1,jT 6 8 H g2,jR 7 3 g3,jO 9 2 H0 g4,jB 9 5 H0 (congrArg not (decide_eq_false g5)),jO 10 3 H0 g6,jR 10 6 g7]
theorem Qe1 (H:Heap) (ob m i:Nat) (x:Int) (g0:(i:Int)<(la.length:Int)) (g1:IX 24 (.a la) (.n i) (.vptr (.i x))) (g2:¬(p<x)) (g3:IX 24 (.a la) (.n i) (.vptr (.i x))) (g4:x=o): RU F 36 244 B36 (e36 la o p (.s ob m) (.bool false) (.n i)) H .normal (e36 la o p (.s ob m) (.bool false) (.i (qA.wrap ((i:Int)+1)))) H :=
 hx 0 60 [jT 4 3 H g0,jO 6 5 H g1,jF 6 8 H g2,jO 9 2 H g3,jB 9 5 H (congrArg not (decide_eq_true g4))]
theorem Qe2 (H:Heap) (ob m i:Nat) (x:Int) {H0:Heap} {v0:HV} (g0:(i:Int)<(la.length:Int)) (g1:IX 24 (.a la) (.n i) (.vptr (.i x))) (g2:¬(p<x)) (g3:IX 24 (.a la) (.n i) (.vptr (.i x))) (g4:¬(x=o)) (g5:IX 24 (.a la) (.n i) (.vptr (.i x))) (g6:Zu H 1 8 (.s ob m) [.i x]=some (v0,H0)): RU F 36 244 B36 (e36 la o p (.s ob m) (.bool false) (.n i)) H .normal (e36 la o p v0 (.bool false) (.i (qA.wrap ((i:Int)+1)))) H0 :=
 hx 0 60 [jT 4 3 H g0,jO 6 5 H g1,jF 6 8 H g2,jO 9 2 H g3,jB 9 5 H (congrArg not (decide_eq_false g4)),jO 10 3 H g5,jR 10 6 g6]
theorem Qe3 (H:Heap) (ob m i:Nat) (x:Int) (g0:¬((i:Int)<(la.length:Int))): RU F 36 244 B36 (e36 la o p (.s ob m) (.bool false) (.n i)) H (.exit 0) (e36 la o p (.s ob m) (.bool false) (.n i)) H :=
 hx 0 60 [jF 4 3 H g0]
theorem Qe4 (H:Heap) (ob m i:Nat) (x:Int) (g0:(i:Int)<(la.length:Int)) (g1:IX 24 (.a la) (.n i) (.vptr (.i x))) (g2:x=o): RU F 36 244 B36 (e36 la o p (.s ob m) (.bool true) (.n i)) H .normal (e36 la o p (.s ob m) (.bool true) (.i (qA.wrap ((i:Int)+1)))) H :=
 hx 0 60 [jT 4 3 H g0,jO 9 2 H g1,jB 9 5 H (congrArg not (decide_eq_true g2))]
theorem Qe5 (H:Heap) (ob m i:Nat) (x:Int) {H0:Heap} {v0:HV} (g0:(i:Int)<(la.length:Int)) (g1:IX 24 (.a la) (.n i) (.vptr (.i x))) (g2:¬(x=o)) (g3:IX 24 (.a la) (.n i) (.vptr (.i x))) (g4:Zu H 1 8 (.s ob m) [.i x]=some (v0,H0)): RU F 36 244 B36 (e36 la o p (.s ob m) (.bool true) (.n i)) H .normal (e36 la o p v0 (.bool true) (.i (qA.wrap ((i:Int)+1)))) H0 :=
 hx 0 60 [jT 4 3 H g0,jO 9 2 H g1,jB 9 5 H (congrArg not (decide_eq_false g2)),jO 10 3 H g3,jR 10 6 g4]
theorem Qe6 (H:Heap) (ob m i:Nat) (x:Int) (g0:¬((i:Int)<(la.length:Int))): RU F 36 244 B36 (e36 la o p (.s ob m) (.bool true) (.n i)) H (.exit 0) (e36 la o p (.s ob m) (.bool true) (.n i)) H :=
 hx 0 60 [jF 4 3 H g0]
theorem Qe7 (H:Heap) (ob m:Nat) {H0:Heap} {v0:HV} (g0:Zu H 1 8 (.s ob m) [.i p]=some (v0,H0)) (y9:HV:=Ud): RU F 36 31 B36 (e36 la o p (.s ob m) (.bool false) y9) H .ret (GD (.a la) (.i o) (.i p) v0 v0 (.bool false) y9) H0 :=
 hx 0 60 [jR 12 3 g0]
theorem Qe8 (H:Heap) (ob m:Nat) (y9:HV:=Ud): RU F 36 31 B36 (e36 la o p (.s ob m) (.bool true) y9) H .ret (GD (.a la) (.i o) (.i p) (.s ob m) (.s ob m) (.bool true) y9) H :=
 hx 0 60 []
end
end Go.Proofs.Ytiejmoglooaalaa
end
section
open Go Go.HL
namespace Go.Proofs.Ytiejmoglooaalaa
set_option linter.unusedSectionVars false
open Go.Proofs.Try renaming prog → Tp
open Go.HL.HV renaming undef → Ud
def okA (m:Nat) (t:List Int) (i:Nat):Bool:=decide ((0≤t.getD i 0∧t.getD i 0<(m:Int))∧(i=0∨t.getD (i-1) 0<t.getD i 0))
def VN (m:Nat) (t:List Int):Bool:=(fN (fun i=>!okA m t i) t.length 0).isNone
def isT (n:Int) (l:List St) (t:List Int):Bool:=VN l.length t&&(decide ((t.length:Int)=n-1)&&decide (((ZB l t).length:Int)=n-1))
def QbY:List HV→Option HV:=f3 kI kS kL fun n l t=>if (0≤n∧n≤16)∧YE n l=true∧t.length≤500∧l.length≤500 then some (.bool (isT n l t)) else none
theorem QbZ:Try.f28.results.toList=[.tmp 6]:=by kernel_rfl
def Ku:FuncId→Option (List HV→Option HV):=fun g=>if g==50 then some Cs else none
theorem Qhk (n:Nat):Qn Tp (Qc Tp (plF Ku) n):=Qy _ (fun g f h=>by
 unfold Ku at h
 split at h
 ·rename_i hg;cases h;rw [eq_of_beq hg];exact SW
 ·cases h) n
theorem Ux {m:Nat} {t:List Int} (h:VN m t=true):inR m t=true:=by
 refine inR_iff.2 fun k hk=>?_
 obtain ⟨j,hj,rfl⟩:=qV hk
 have hn:fN (fun i=>!okA m t i) t.length 0=none:=by
  unfold VN at h
  cases hf:fN (fun i=>!okA m t i) t.length 0 with
  | none=>rfl
  | some _=>rw [hf] at h;cases h
 have:=Z1 hn j (qI _) (by omega)
 simp only [Bool.not_eq_false'] at this
 have h2:=(of_decide_eq_true this).1
 rwa [QB hj] at h2
theorem Qe9:QP Tp 28 QbY:=by
 refine Qp (pol:=plF Ku) (fn:=Try.f28) (cd:=B28) Qk Qhk (by kernel_rfl) (by kernel_rfl) (Zm Ku _ _ (by kernel_rfl)) (by kernel_rfl) ?_
 intro args res h
 obtain ⟨n,l,t,rfl,hq⟩:=Kp h
 split at hq
 case isFalse=>cases hq
 rename_i hc
 obtain ⟨⟨n0,n1⟩,he,htl,hll⟩:=hc
 cases hq
 have a:=Qoh (F:=Ku) n (l.map Qa) (t.map Qb)
 have b:=Qoi (F:=Ku) n (l.map Qa) (t.map Qb) []
 have lm:((t.map Qb).length:Int)=(t.length:Int):=by rw [qC]
 have ll:((l.map Qa).length:Int)=(l.length:Int):=by rw [qC]
 have pass:∀i,i<t.length→okA l.length t i=true→RT (plF Ku) 28 (sn 52 B28) ((DG (.i n) (.g (l.map Qa)) (.a (t.map Qb)) (.bool false) (.i (i:Int)) Ud)) [] .normal ((DG (.i n) (.g (l.map Qa)) (.a (t.map Qb)) (.bool false) (.i ((i+1:Nat):Int)) Ud)) []:=fun i hi ho=>by
  obtain ⟨⟨h1,h2⟩,h3⟩:=of_decide_eq_true ho
  by_cases hz:i=0
  ·have s:=Qon (F:=Ku) n (l.map Qa) (t.map Qb) [] i (t.getD i 0) 0 (by omega) (gx hi) (by omega) (gx hi) (by omega) (by omega)
   rw [Qi (by omega)] at s
   exact s
  ·have h3:=h3.resolve_left hz
   have g:=gx (l:=t) (y:=i-1) (by omega)
   rw [← QN (j:=i) (by omega) (by omega)] at g
   have s:=Qom (F:=Ku) n (l.map Qa) (t.map Qb) [] i (t.getD i 0) (t.getD (i-1) 0) (by omega) (gx hi) (by omega) (gx hi) (by omega) (by omega) g (gx hi) (by omega)
   rw [Qi (by omega)] at s
   exact s
 cases hf:fN (fun i=>!okA l.length t i) t.length 0 with
 | some m =>
  obtain ⟨_,h1,h2,h3⟩:=Jl hf
  have hm:m<t.length:=by omega
  have hA:VN l.length t=false:=by rw [VN,hf];rfl
  have ho:¬((0≤t.getD m 0∧t.getD m 0<(l.length:Int))∧(m=0∨t.getD (m-1) 0<t.getD m 0)):=by
   have:okA l.length t m=false:=by simpa using h2
   exact of_decide_eq_false this
  have out:∃E',RT (plF Ku) 28 (sn 52 B28) ((DG (.i n) (.g (l.map Qa)) (.a (t.map Qb)) (.bool false) (.i (m:Int)) Ud)) [] .ret E' []∧E'.get 6=.bool false:=by
   by_cases k1:t.getD m 0<0
   ·exact ⟨_,Qoj (F:=Ku) n (l.map Qa) (t.map Qb) [] m (t.getD m 0) 0 (by omega) (gx hm) k1,rfl⟩
   by_cases k2:(l.length:Int)≤t.getD m 0
   ·exact ⟨_,Qok (F:=Ku) n (l.map Qa) (t.map Qb) [] m (t.getD m 0) 0 (by omega) (gx hm) k1 (gx hm) (by omega),rfl⟩
   have hm0:m≠0:=fun c=>ho ⟨by omega,.inl c⟩
   have hm1:¬t.getD (m-1) 0<t.getD m 0:=fun c=>ho ⟨by omega,.inr c⟩
   have g:=gx (l:=t) (y:=m-1) (by omega)
   rw [← QN (j:=m) (by omega) (by omega)] at g
   exact ⟨_,Qol (F:=Ku) n (l.map Qa) (t.map Qb) [] m (t.getD m 0) (t.getD (m-1) 0) (by omega) (gx hm) k1 (gx hm) (by omega) (by omega) g (gx hm) (by omega),rfl⟩
  obtain ⟨E',o1,o2⟩:=out
  have r:=Wk (pol':=plF Ku) (f:=28) (E:=fun i=>(DG (.i n) (.g (l.map Qa)) (.a (t.map Qb)) (.bool false) (.i (i:Int)) Ud)) (Hs:=fun _=>[]) m (fun i hi=>pass i (by omega) (by have:=h3 i (qI _) hi;simpa using this)) (fun i _=>by kernel_rfl) (fun i _=>QH _ rfl) o1 (by simp) (c:=sn 26 B28) (by kernel_rfl) (fun i _=>by kernel_rfl)
  refine ⟨_,_,_,.bool false,sq (a) (sqo (sq (b) (RunsTo.block_ret (i:=0) (c:=sn 13 B28) (r) (by kernel_rfl)) (c:=sn 6 B28)) (c:=sn 3 B28) (b:=sn 7 B28)) (c:=B28),by simp,by simp only [Qd,QbZ,mapO,Wz,o2],?_⟩
  rw [isT,hA];rfl
 | none =>
  have h3:=Z1 hf
  have hA:VN l.length t=true:=by rw [VN,hf];rfl
  have hin:=Ux hA
  have r:=Wk (pol':=plF Ku) (f:=28) (E:=fun i=>(DG (.i n) (.g (l.map Qa)) (.a (t.map Qb)) (.bool false) (.i (i:Int)) Ud)) (Hs:=fun _=>[]) t.length (fun i hi=>pass i hi (by have:=h3 i (qI _) (by omega);simpa using this)) (fun i _=>by kernel_rfl) (fun i _=>QH _ rfl) (Qoo (F:=Ku) n (l.map Qa) (t.map Qb) [] t.length 0 0 (by omega)) (by simp) (c:=sn 26 B28) (by kernel_rfl) (fun i _=>by kernel_rfl)
  have c50:=at3 (pol':=plF Ku) (g:=50) (c1:=kI) (c2:=kS) (c3:=kL) (f:=fun n l t=>if (0≤n∧n≤16)∧YE n l=true∧inR l.length t=true∧t.length≤500∧l.length≤500 then some (.tuple [.own 1 ((ZB l t).map Qb),.own 1 ((ZZ n.toNat l t).map Qb)]) else none) (H:=[]) (by kernel_rfl) (ShI _ n) (Ck _ l) (Kg _ t) (if_pos ⟨⟨n0,n1⟩,he,hin,htl,hll⟩)
  rw [QbT] at c50
  have d:=Qop (F:=Ku) n (l.map Qa) (t.map Qb) [] 0 (ZB l t).length _ _ (y7:=.i (t.length:Int)) c50
  have hw:qA.wrap (n-1)=n-1:=Qr (by omega) (by omega)
  rw [isT,hA,Bool.true_and]
  by_cases k1:(t.length:Int)=n-1
  ·by_cases k2:((ZB l t).length:Int)=n-1
   ·have z:=Qoq (F:=Ku) n (l.map Qa) (t.map Qb) ([]++[bI (ZB l t)]++[bI (ZZ n.toNat l t)]) 0 (ZB l t).length (y7:=.i (t.length:Int)) (by rw [hw];omega) (by rw [hw];exact k2)
    rw [decide_eq_true k1,decide_eq_true k2]
    exact ⟨_,_,_,.bool true,sq (a) (sq (sq (b) (bke (c:=sn 13 B28) (r)) (c:=sn 6 B28)) (sq (d) (z) (c:=sn 7 B28)) (c:=sn 3 B28)) (c:=B28),by simp,by simp only [Qd,QbZ];rfl,rfl⟩
   ·have z:=Qor (F:=Ku) n (l.map Qa) (t.map Qb) ([]++[bI (ZB l t)]++[bI (ZZ n.toNat l t)]) 0 (ZB l t).length (y7:=.i (t.length:Int)) (by rw [hw];omega) (by rw [hw];exact k2)
    rw [decide_eq_true k1,decide_eq_false k2]
    exact ⟨_,_,_,.bool false,sq (a) (sq (sq (b) (bke (c:=sn 13 B28) (r)) (c:=sn 6 B28)) (sq (d) (z) (c:=sn 7 B28)) (c:=sn 3 B28)) (c:=B28),by simp,by simp only [Qd,QbZ];rfl,rfl⟩
  ·have z:=Qos (F:=Ku) n (l.map Qa) (t.map Qb) ([]++[bI (ZB l t)]++[bI (ZZ n.toNat l t)]) 0 (ZB l t).length (y7:=.i (t.length:Int)) (by rw [hw];omega)
   rw [decide_eq_false k1]
   exact ⟨_,_,_,.bool false,sq (a) (sq (sq (b) (bke (c:=sn 13 B28) (r)) (c:=sn 6 B28)) (sq (d) (z) (c:=sn 7 B28)) (c:=sn 3 B28)) (c:=B28),by simp,by simp only [Qd,QbZ];rfl,rfl⟩
def sw1 (p:Int) (s:List Int×Bool) (x:Int):List Int×Bool:=if s.2=false∧p<x then (s.1++[p],true) else s
def swS (o p:Int) (s:List Int×Bool) (x:Int):List Int×Bool:=if x=o then sw1 p s x else ((sw1 p s x).1++[x],(sw1 p s x).2)
def swF (o p:Int) (t:List Int):List Int×Bool:=t.foldl (swS o p) ([],false)
def swT (o p:Int) (t:List Int):List Int:=if (swF o p t).2=true then (swF o p t).1 else (swF o p t).1++[p]
theorem DH (o p:Int) (t:List Int) {i:Nat} (h:i<t.length):swF o p (t.take (i+1))=swS o p (swF o p (t.take i)) (t.getD i 0):=by
 rw [swF,Ws h,List.foldl_append];rfl
theorem swp_len (o p:Int) (t:List Int):∀i,i≤t.length→(swF o p (t.take i)).1.length≤2*i:=by
 intro i
 induction i with
 | zero=>intro _;simp [swF]
 | succ i ih =>
  intro hi
  have h:=ih (by omega)
  rw [DH o p t (by omega),swS,sw1]
  split <;> split <;> simp <;> omega
def GE:List HV→Option HV:=f3 kL kI kI fun t o p=>if t.length≤400 then some (.own 1 ((swT o p t).map Qb)) else none
theorem QiU:Try.f36.results.toList=[.tmp 6]:=by kernel_rfl
theorem Qa0:QP Tp 36 GE:=by
 refine Qp (pol:=plF fun _=>none) (fn:=Try.f36) (cd:=B36) Qk (Qy (fun _=>none) (fun g f h=>by cases h)) (by kernel_rfl) (by kernel_rfl) (Zm (fun _=>none) _ _ (by kernel_rfl)) (by kernel_rfl) ?_
 intro args res h
 obtain ⟨t,o,p,rfl,hq⟩:=Kp h
 split at hq
 case isFalse=>cases hq
 rename_i hl
 cases hq
 have lm:((t.map Qb).length:Int)=(t.length:Int):=by rw [qC]
 have a:=Qhg (F:=fun _=>none) (t.map Qb) o p
 have b:=Qhh (F:=fun _=>none) (t.map Qb) o p [] rfl
 have c:=Qhi (F:=fun _=>none) (t.map Qb) o p [bI []] 0 0
 have d:=Qhj (F:=fun _=>none) (t.map Qb) o p [bI []] 0 0
 have r:=Wk (pol':=plF fun _=>none) (f:=36) (E:=fun i=>(GD (.a (t.map Qb)) (.i o) (.i p) (.imm .lit 1 []) (.sl 0 0 (swF o p (t.take i)).1.length none (swF o p (t.take i)).1.length 1) (.bool (swF o p (t.take i)).2) (.i (i:Int)))) (Hs:=fun i=>[bI (swF o p (t.take i)).1]) t.length (E0:=fun i=>(GD (.a (t.map Qb)) (.i o) (.i p) (.imm .lit 1 []) (.sl 0 0 (swF o p (t.take (i+1))).1.length none (swF o p (t.take (i+1))).1.length 1) (.bool (swF o p (t.take (i+1))).2) (.i ((i+1:Nat):Int)))) (H1:=fun i=>[bI (swF o p (t.take (i+1))).1]) (x:=.exit 0)
  (E':=(GD (.a (t.map Qb)) (.i o) (.i p) (.imm .lit 1 []) (.sl 0 0 (swF o p (t.take t.length)).1.length none (swF o p (t.take t.length)).1.length 1) (.bool (swF o p (t.take t.length)).2) (.i ((t.length:Nat):Int)))) (H':=[bI (swF o p (t.take t.length)).1])
  (fun i hi=>by
   have hs:=DH o p t hi
   have hn:=swp_len o p t i (by omega)
   have g:=gx (l:=t) hi
   have app:∀(A:List Int) (x:Int),A.length≤990→Zu [bI A] 1 8 (.sl 0 0 A.length none A.length 1) [.int .i64 x]=some (.sl 0 0 (A.length+1) none (A.length+1) 1,[bI (A++[x])]):=fun A x hA=>JD (H:=[bI A]) (b:=0) rfl hA x
   generalize t.getD i 0=x at *
   generalize hF:swF o p (t.take i)=s at *
   obtain ⟨A,D⟩:=s
   rw [hs]
   have hA:A.length≤900:=by have:A.length≤2*i:=hn;omega
   have w:=Qi (j:=i) (by omega)
   cases D with
   | true =>
    have e1:sw1 p (A,true) x=(A,true):=if_neg (fun h=>by cases h.1)
    by_cases c1:x=o
    ·have e2:swS o p (A,true) x=(A,true):=by rw [swS,if_pos c1,e1]
     have s:=Qe4 (F:=fun _=>none) (t.map Qb) o p [bI A] 0 A.length i x (by omega) g c1
     rw [w] at s;rw [e2];exact s
    ·have e2:swS o p (A,true) x=(A++[x],true):=by rw [swS,if_neg c1,e1]
     have s:=Qe5 (F:=fun _=>none) (t.map Qb) o p [bI A] 0 A.length i x (by omega) g c1 g (app A x (by omega))
     rw [w] at s;rw [e2];simp only [qD,qG];exact s
   | false =>
    by_cases c0:p<x
    ·have e1:sw1 p (A,false) x=(A++[p],true):=if_pos ⟨rfl,c0⟩
     by_cases c1:x=o
     ·have e2:swS o p (A,false) x=(A++[p],true):=by rw [swS,if_pos c1,e1]
      have s:=QeZ (F:=fun _=>none) (t.map Qb) o p [bI A] 0 A.length i x (by omega) g c0 (app A p (by omega)) g c1
      rw [w] at s;rw [e2];simp only [qD,qG];exact s
     ·have e2:swS o p (A,false) x=(A++[p]++[x],true):=by rw [swS,if_neg c1,e1]
      have ap2:=app (A++[p]) x (by rw [qD,qG];omega)
      rw [qD,qG] at ap2
      have s:=Qe0 (F:=fun _=>none) (t.map Qb) o p [bI A] 0 A.length i x (by omega) g c0 (app A p (by omega)) g c1 g ap2
      rw [w] at s;rw [e2];simp only [qD,qG];exact s
    ·have e1:sw1 p (A,false) x=(A,false):=if_neg (fun h=>c0 h.2)
     by_cases c1:x=o
     ·have e2:swS o p (A,false) x=(A,false):=by rw [swS,if_pos c1,e1]
      have s:=Qe1 (F:=fun _=>none) (t.map Qb) o p [bI A] 0 A.length i x (by omega) g c0 g c1
      rw [w] at s;rw [e2];exact s
     ·have e2:swS o p (A,false) x=(A++[x],false):=by rw [swS,if_neg c1,e1]
      have s:=Qe2 (F:=fun _=>none) (t.map Qb) o p [bI A] 0 A.length i x (by omega) g c0 g c1 g (app A x (by omega))
      rw [w] at s;rw [e2];simp only [qD,qG];exact s) (fun i _=>by kernel_rfl) (fun i _=>QH _ rfl)
  (by
   generalize swF o p (t.take t.length)=s
   obtain ⟨A,D⟩:=s
   cases D with
   | true=>exact Qe6 (F:=fun _=>none) (t.map Qb) o p [bI A] 0 A.length t.length 0 (by omega)
   | false=>exact Qe3 (F:=fun _=>none) (t.map Qb) o p [bI A] 0 A.length t.length 0 (by omega)) (by simp) (c:=sn 122 B36) (by kernel_rfl) (fun i _=>by kernel_rfl)
 have hn:=swp_len o p t t.length (qB _)
 rw [qE] at r hn
 rw [swT]
 generalize swF o p t=s at *
 obtain ⟨A,D⟩:=s
 have hA:A.length≤900:=by have:A.length≤2*t.length:=hn;omega
 cases D with
 | true =>
  have z:=Qe8 (F:=fun _=>none) (t.map Qb) o p [bI A] 0 A.length (y9:=.i (t.length:Int))
  refine ⟨_,_,_,.sl 0 0 A.length none A.length 1,sq (a) (sq (b) (sq (c) (sq (sq (d) (bke (c:=sn 61 B36) (r)) (c:=sn 30 B36)) (z) (c:=sn 15 B36)) (c:=sn 7 B36)) (c:=sn 3 B36)) (c:=B36),by simp,by simp only [Qd,QiU];rfl,?_⟩
  exact VE (b:=0) rfl rfl
 | false =>
  have z:=Qe7 (F:=fun _=>none) (t.map Qb) o p [bI A] 0 A.length (y9:=.i (t.length:Int)) (JD (H:=[bI A]) (b:=0) rfl (by omega) p)
  refine ⟨_,_,_,.sl 0 0 (A.length+1) none (A.length+1) 1,sq (a) (sq (b) (sq (c) (sq (sq (d) (bke (c:=sn 61 B36) (r)) (c:=sn 30 B36)) (z) (c:=sn 15 B36)) (c:=sn 7 B36)) (c:=sn 3 B36)) (c:=B36),by simp,by simp only [Qd,QiU];rfl,?_⟩
  exact VE (b:=0) (o:=A++[p]) rfl (by simp)
theorem Xb (l:List St) (t:List Int) (k:Int):tkT l (t++[k])=if (Qz l t).getD (sA l k).toNat 0≠(Qz l t).getD (sB l k).toNat 0 then tkT l t++[k] else tkT l t:=by
 have a:=Z0 l (t++[k]) (i:=t.length) (by simp)
 have g0:(t++[k]).getD t.length 0=k:=by simp [qJ]
 rw [qW (by simp),g0,List.take_left] at a
 exact a
theorem Qfa (l:List St) (t:List Int):(tkT l t).length≤t.length:=Yh l t
theorem mem_wo {t:List Int} {v x:Int}:x∈wo t v↔x∈t∧x≠v:=by simp [wo,qU]
theorem Qa1 {t:List Int} (hn:t.Nodup) {k:Int} (hk:k∈t):t.length=(wo t k).length+1:=by
 have:=K8 (p:=fun _=>true) (q:=fun x=>decide (x≠k)) hn hk rfl (fun y _ hy=>decide_eq_true hy) (by simp)
 rw [List.filter_eq_self.2 fun _ _=>rfl] at this
 exact this
section
variable {l:List St} (he:ZY l=true) {t:List Int} (ht:∀k∈t,0≤k∧k<(l.length:Int)) (hn:t.Nodup) (hf:(tkT l t).length=t.length)
include he ht hn hf
theorem Va {k:Int} (hk:k∈t):(tkT l (wo t k)).length+1=t.length∧Q5 l t k k:=by
 have hm:∀x,x∈t↔x∈wo t k++[k]:=fun x=>by
  rw [jN,mem_wo,jY]
  by_cases c:x=k
  ·subst c;simp [hk]
  ·simp [c]
 have h1:=QX he ht hm
 rw [hf,Xb] at h1
 have h2:=Qa1 hn hk
 have h3:=Qfa l (wo t k)
 split at h1
 ·rename_i c
  rw [qD,qG] at h1
  exact ⟨h1.symm,c⟩
 ·omega
theorem Qfb {k j:Int} (hk:k∈t) (hj:0≤j∧j<(l.length:Int)) {s:List Int} (hs:∀x,x∈s↔x∈wo t k++[j]):(tkT l s).length=t.length↔Q5 l t k j:=by
 have hin:∀x∈wo t k++[j],0≤x∧x<(l.length:Int):=fun x hx=>by
  rcases List.mem_append.1 hx with h | h
  ·exact ht x (mem_wo.1 h).1
  ·rw [List.mem_singleton.1 h];exact hj
 have h1:=QX he (t:=s) (t':=wo t k++[j]) (fun x hx=>hin x ((hs x).1 hx)) hs
 have h2:=(Va he ht hn hf hk).1
 rw [h1,Xb]
 split
 ·rename_i c
  rw [qD,qG]
  exact ⟨fun _=>c,fun _=>by omega⟩
 ·rename_i c
  exact ⟨fun h=>by omega,fun h=>absurd h c⟩
end
theorem Qot {t:List Int} {o p:Int} (ha:t.Pairwise (· < ·)) (hp:p∉t):∀i,i≤t.length →
  swF o p (t.take i)=(wo ((t.take i).filter fun x=>decide (x<p)) o++(if (t.take i).any (fun x=>decide (p<x))=true then p::wo ((t.take i).filter fun x=>decide (p<x)) o else []),(t.take i).any fun x=>decide (p<x)):=by
 intro i
 induction i with
 | zero=>intro _;rfl
 | succ i ih =>
  intro hi
  have ih:=ih (by omega)
  have hlt:∀y∈t.take i,y<t.getD i 0:=fun y hy=>by
   have h2:(t.take (i+1)).Pairwise (· < ·):=ha.sublist (List.take_sublist _ _)
   rw [Ws (by omega)] at h2
   exact (List.pairwise_append.1 h2).2.2 y hy _ (zC _)
  have hne:t.getD i 0≠p:=fun c=>hp (c▸Qu 0 (show i<t.length by omega))
  rw [DH o p t (by omega),ih,Ws (by omega)]
  generalize t.take i=s at *
  generalize t.getD i 0=x at *
  have wo1:∀A:List Int,wo (A++[x]) o=wo A o++(if x=o then [] else [x]):=fun A=>by
   rw [wo,qS,wo]
   by_cases c:x=o
   ·rw [if_pos c,qM (by simp [c])];rfl
   ·rw [if_neg c,qN (by simp [c])];rfl
  rw [qS,qS,List.any_append]
  by_cases cx:p<x
  ·have f1:([x].filter fun x=>decide (x<p))=[]:=by rw [qM (by simp;omega)];rfl
   have f2:([x].filter fun x=>decide (p<x))=[x]:=by rw [qN (by simpa using cx)];rfl
   have f3:([x].any fun x=>decide (p<x))=true:=by simp [cx]
   rw [f1,f2,f3,qH,Bool.or_true,wo1]
   by_cases cd:(s.any fun x=>decide (p<x))=true
   ·rw [cd]
    by_cases co:x=o
    ·simp [swS,sw1,co]
    ·simp [swS,sw1,co]
   ·rw [VD cd]
    have e:(s.filter fun x=>decide (p<x))=[]:=List.filter_eq_nil_iff.2 fun y hy hc=>cd (List.any_eq_true.2 ⟨y,hy,hc⟩)
    rw [e]
    by_cases co:x=o
    ·subst co;simp [swS,sw1,cx,wo]
    ·simp [swS,sw1,co,cx,wo]
  ·have f1:([x].filter fun x=>decide (x<p))=[x]:=by rw [qN (by simp;omega)];rfl
   have f2:([x].filter fun x=>decide (p<x))=[]:=by rw [qM (by simpa using cx)];rfl
   have f3:([x].any fun x=>decide (p<x))=false:=by simp [cx]
   have cd:(s.any fun x=>decide (p<x))=false:=by
    cases c:(s.any fun x=>decide (p<x)) with
    | false=>rfl
    | true =>
     obtain ⟨y,hy,hc⟩:=List.any_eq_true.1 c
     have:=hlt y hy
     have:=of_decide_eq_true hc
     omega
   rw [f1,f2,f3,qH,Bool.or_false,wo1,cd]
   by_cases co:x=o
   ·simp [swS,sw1,co];omega
   ·simp [swS,sw1,co,cx]
theorem Qfc {t:List Int} {o p:Int} (ha:t.Pairwise (· < ·)) (hp:p∉t):swT o p t=wo (t.filter fun x=>decide (x<p)) o++p::wo (t.filter fun x=>decide (p<x)) o:=by
 have h:=Qot (o:=o) ha hp t.length (qB _)
 rw [qE] at h
 rw [swT,h]
 by_cases c:(t.any fun x=>decide (p<x))=true
 ·simp only [c,if_true]
 ·have e:(t.filter fun x=>decide (p<x))=[]:=List.filter_eq_nil_iff.2 fun y hy hc=>c (List.any_eq_true.2 ⟨y,hy,hc⟩)
  simp [VD c,e,wo]
theorem Qb0 {t:List Int} {o p:Int} (ha:t.Pairwise (· < ·)) (hp:p∉t) (x:Int):x∈swT o p t↔x∈wo t o++[p]:=by
 rw [Qfc ha hp]
 simp only [jN,List.mem_cons,mem_wo,qU,decide_eq_true_eq,jY,jZ,or_false]
 have:x∈t→x≠p:=fun h c=>hp (c▸h)
 by_cases c:x=p
 ·subst c;simp
 ·constructor
  ·rintro (⟨⟨h1,_⟩,h2⟩ | h | ⟨⟨h1,_⟩,h2⟩)
   ·exact .inl ⟨h1,h2⟩
   ·exact .inr h
   ·exact .inl ⟨h1,h2⟩
  ·rintro (⟨h1,h2⟩ | h)
   ·rcases Int.lt_or_gt_of_ne c with h3 | h3
    ·exact .inl ⟨⟨h1,h3⟩,h2⟩
    ·exact .inr (.inr ⟨⟨h1,h3⟩,h2⟩)
   ·exact .inr (.inl h)
theorem Qhl {t:List Int} {o p:Int} (ha:t.Pairwise (· < ·)) (hp:p∉t):(swT o p t).Pairwise (· < ·):=by
 rw [Qfc ha hp]
 have h1:∀q:Int→Bool,(wo (t.filter q) o).Pairwise (· < ·):=fun q=>(ha.sublist qY).sublist qY
 refine List.pairwise_append.2 ⟨h1 _,List.pairwise_cons.2 ⟨fun y hy=>?_,h1 _⟩,fun x hx y hy=>?_⟩
 ·exact of_decide_eq_true (List.mem_filter.1 (mem_wo.1 hy).1).2
 ·have hxp:x<p:=of_decide_eq_true (List.mem_filter.1 (mem_wo.1 hx).1).2
  rcases List.mem_cons.1 hy with h | h
  ·omega
  ·have:p<y:=of_decide_eq_true (List.mem_filter.1 (mem_wo.1 h).1).2
   omega
theorem ZK (l:List St):(Qf l).Nodup:=by
 have:=Jb l (Qh l) (Qh l).length (qB _)
 rw [qE] at this
 exact this.nodup (K7 l)
theorem Uf {l:List Int} (h:l.Nodup) {i:Nat} (hi:i<l.length):l.getD i 0∉l.take i:=by
 intro c
 have h2:(l.take (i+1)).Nodup:=(List.take_sublist _ _).nodup h
 rw [Ws hi] at h2
 exact (List.nodup_append.1 h2).2.2 _ c _ (zC _) rfl
theorem Qhm (l:List St) (t:List Int) {i:Nat}:∀d,i+d≤t.length→∀x∈tkT l (t.take i),x∈tkT l (t.take (i+d)):=by
 intro d
 induction d with
 | zero=>intro _ x hx;exact hx
 | succ d ih =>
  intro h x hx
  have:=ih (by omega) x hx
  rw [show i+(d+1)=(i+d)+1 by omega,Z0 l t (by omega)]
  split
  ·exact List.mem_append_left _ this
  ·exact this
theorem Kk (l:List St) (t:List Int) {i:Nat} (hi:i≤t.length):∀x∈tkT l (t.take i),x∈tkT l t:=fun x hx=>by
 have:=Qhm l t (i:=i) (t.length-i) (by omega) x hx
 rwa [show i+(t.length-i)=t.length by omega,qE] at this
theorem Xc:∀{a b:List Int},a.Nodup→b.Nodup→(∀x,x∈a↔x∈b)→a.length=b.length
 | [],b,_,_,h=>by
  have:b=[]:=List.eq_nil_iff_forall_not_mem.2 fun x hx=>by cases (h x).2 hx
  rw [this]
 | x::a,b,ha,hb,h=>by
  obtain ⟨h1,h2⟩:=List.nodup_cons.1 ha
  have hx:x∈b:=(h x).1 (zA ..)
  rw [Qa1 hb hx,qT]
  refine congrArg (·+1) (Xc h2 (hb.sublist qY) fun y=>?_)
  rw [mem_wo]
  constructor
  ·intro hy
   exact ⟨(h y).1 (jU _ hy),fun c=>h1 (c▸hy)⟩
  ·intro ⟨hy,hne⟩
   exact (List.mem_cons.1 ((h y).2 hy)).resolve_left hne
theorem Vb (m:Nat):(Qg m).Pairwise (· < ·):=List.pairwise_map.2 (List.Pairwise.imp (fun {a b} h=>by omega) (List.pairwise_lt_range (n:=m)))
theorem Kl (l:List St):(frT l).Pairwise (· < ·):=(Vb _).sublist qY
theorem W2 {t:List Int} (h:t.Pairwise (· < ·)):t.Nodup:=List.Pairwise.imp (fun {a b} h c=>by omega) h
theorem Qhn {m:Nat} {t:List Int} (ha:t.Pairwise (· < ·)) (ht:∀k∈t,0≤k∧k<(m:Int)):VN m t=true:=by
 rw [VN]
 cases hf:fN (fun i=>!okA m t i) t.length 0 with
 | none=>rfl
 | some i =>
  exfalso
  obtain ⟨_,h2,h3,_⟩:=Jl hf
  have:okA m t i=false:=by simpa using h3
  refine of_decide_eq_false this ⟨ht _ (Qu 0 (by omega)),?_⟩
  rcases Nat.eq_zero_or_pos i with c | c
  ·exact .inl c
  ·right
   have:=List.pairwise_iff_getElem.1 ha (i-1) i (by omega) (by omega) (by omega)
   rw [QB (by omega),QB (by omega)]
   exact this
section
variable {n:Int} {l:List St} (hnet:Ww n l=true) (hc:Wl n l=true)
include hnet
theorem QA:ZY l=true:=K6 (QE hnet).2.2.1 (by have:=(QE hnet).1;omega)
theorem QsU {j:Int} (hj:0≤j∧j<(l.length:Int)) (hjT:j∉Qf l) {p:Nat} (hp:p<(Qh l).length) (hpj:(Qh l).getD p 0=j):Cn l (tkT l ((Qh l).take p)) (sA l j) (sB l j):=by
 have he:=QA hnet
 have ho:∀k∈Qh l,0≤k∧k<(l.length:Int):=fun k hk=>ordT_mem.1 hk
 obtain ⟨ea,eb⟩:=Kt he hj
 have hin:∀k∈tkT l ((Qh l).take p),0≤k∧k<(l.length:Int):=fun k hk=>Zo (Kk l (Qh l) (by omega) k hk)
 refine (YH he hin ea eb).1 ?_
 rw [lb,lb,(QeO (l:=l) (t:=Qh l) p (by omega)).1]
 by_cases c:(Qz l ((Qh l).take p)).getD (sA l j).toNat 0=(Qz l ((Qh l).take p)).getD (sB l j).toNat 0
 ·exact c
 ·exfalso
  refine hjT (Kk l (Qh l) (i:=p+1) (by omega) j ?_)
  rw [Z0 l (Qh l) hp,hpj,if_pos c]
  exact List.mem_append_right _ (zC _)
theorem Cx {j:Int} (hj:0≤j∧j<(l.length:Int)):∃p,p<(Qh l).length∧(Qh l).getD p 0=j:=by
 obtain ⟨p,hp,he⟩:=qV (ordT_mem.2 hj)
 exact ⟨p,hp,by rw [QB hp];exact he⟩
theorem Qb1 {k j:Int} (hk:k∈Qf l) (hj:0≤j∧j<(l.length:Int)) (hjT:j∉Qf l) (hJ:Q5 l (Qf l) k j):wOf l k≤wOf l j:=by
 have he:=QA hnet
 have hkr:=Zo hk
 obtain ⟨p,hp,hpj⟩:=Cx hnet hj
 obtain ⟨q,hq,hqk⟩:=Cx hnet hkr
 have hs:=Ki l l.length
 have hs:(Qh l).Pairwise (ltK l):=hs
 have hne:p≠q:=fun c=>hjT (by rw [← hpj,c,hqk];exact hk)
 rcases Nat.lt_or_gt_of_ne hne with c | c
 ·exfalso
  have h1:=QsU hnet hj hjT hp hpj
  have hwin:∀x∈wo (Qf l) k,0≤x∧x<(l.length:Int):=fun x hx=>Zo (mem_wo.1 hx).1
  refine hJ (VL he hwin (h1.mono fun x hx=>mem_wo.2 ⟨Kk l (Qh l) (by omega) x hx,fun e=>?_⟩))
  have h2:x∈(Qh l).take p:=(by have:=Jb l (Qh l) p (by omega);exact this.subset hx)
  obtain ⟨r,hr,hre⟩:=qV h2
  rw [qF] at hr
  rw [List.getElem_take,e,← hqk,QB hq] at hre
  have:=(K7 l)
  have h3:=List.pairwise_iff_getElem.1 this r q (by omega) hq (by omega)
  exact h3 hre
 ·have:=List.pairwise_iff_getElem.1 hs q p (by omega) (by omega) c
  rw [← QB (d:=0) hq,← QB (d:=0) hp,hqk,hpj] at this
  unfold ltK at this
  omega
end
section
variable {n:Int} {l:List St} (hnet:Ww n l=true) (hc:Wl n l=true)
include hnet
include hc
theorem DI:((Qf l).length:Int)=n-1:=of_decide_eq_true hc
omit hc in
theorem Qfd (k j:Int):Q5 l (frT l) k j↔Q5 l (Qf l) k j:=by
 have:Qz l (wo (frT l) k)=Qz l (wo (Qf l) k):=VM (QA hnet) (fun x hx=>Zo (frT_mem.1 (mem_wo.1 hx).1)) (fun x=>by rw [mem_wo,mem_wo,frT_mem])
 unfold Q5
 rw [this]
theorem Ug:(tkT l (Qf l)).length=(Qf l).length:=by rw [(QeP l).2]
theorem Qho {j:Int} (hj:0≤j∧j<(l.length:Int)) (hjT:j∉Qf l):∃k∈Qf l,Q5 l (Qf l) k j:=by
 have he:=QA hnet
 obtain ⟨ea,eb⟩:=Kt he hj
 have hTin:∀x∈Qf l,0≤x∧x<(l.length:Int):=fun x hx=>Zo hx
 have hab:sA l j≠sB l j:=by
  have h:=hnet
  simp only [Ww,jG,jQ,decide_eq_true_eq,stB] at h
  have:=(h.1 _ (Qu (l:=l) (0,0,0) (show j.toNat<l.length by omega))).2.2.1
  exact this
 obtain ⟨p,hp,hpj⟩:=Cx hnet hj
 have h1:=(QsU hnet hj hjT hp hpj).mono (t':=Qf l) fun x hx=>Kk l (Qh l) (by omega) x hx
 have h2:=VL he hTin h1
 have htk:∀i,∀x∈(Qf l).take i,0≤x∧x<(l.length:Int):=fun i x hx=>hTin x (qQ hx)
 have key:∀i,i≤(Qf l).length→lb l ((Qf l).take i) (sA l j)=lb l ((Qf l).take i) (sB l j)→∃m,m<i∧lb l ((Qf l).take m) (sA l j)≠lb l ((Qf l).take m) (sB l j)∧lb l ((Qf l).take (m+1)) (sA l j)=lb l ((Qf l).take (m+1)) (sB l j):=by
  intro i
  induction i with
  | zero =>
   intro _ h
   exfalso
   have e:∀v:Int,0≤v∧v<16→lb l ((Qf l).take 0) v=v:=fun v hv=>by
    show (Qg 16).getD v.toNat 0=v
    have:v.toNat<16:=by omega
    simp [Qg,qJ,this];omega
   rw [e _ ea,e _ eb] at h
   exact hab h
  | succ i ih =>
   intro hi h
   by_cases c:lb l ((Qf l).take i) (sA l j)=lb l ((Qf l).take i) (sB l j)
   ·obtain ⟨m,h1,h2,h3⟩:=ih (by omega) c
    exact ⟨m,by omega,h2,h3⟩
   ·exact ⟨i,by omega,c,h⟩
 obtain ⟨m,hm,hne,heq⟩:=key (Qf l).length (qB _) (by rw [qE];exact h2)
 have hk:=Qu (l:=Qf l) 0 hm
 refine ⟨(Qf l).getD m 0,hk,fun hsame=>?_⟩
 have hsame:lb l (wo (Qf l) ((Qf l).getD m 0)) (sA l j)=lb l (wo (Qf l) ((Qf l).getD m 0)) (sB l j):=hsame
 have hwin:∀x∈wo (Qf l) ((Qf l).getD m 0),0≤x∧x<(l.length:Int):=fun x hx=>hTin x (mem_wo.1 hx).1
 obtain ⟨ka,kb⟩:=Kt he (hTin _ hk)
 have hmono:∀x∈(Qf l).take m,x∈wo (Qf l) ((Qf l).getD m 0):=fun x hx=>mem_wo.2 ⟨qQ hx,fun c=>Uf (ZK l) hm (c▸hx)⟩
 have cA:=(ZJ he (htk m) ka).mono hmono
 have cB:=(ZJ he (htk m) kb).mono hmono
 have ca:=(ZJ he (htk m) ea).mono hmono
 have cb:=(ZJ he (htk m) eb).mono hmono
 have cab:=(YH he hwin ea eb).1 hsame
 rw [Jm he hTin hm ea,Jm he hTin hm eb] at heq
 have hK:Cn l (wo (Qf l) ((Qf l).getD m 0)) (sA l ((Qf l).getD m 0)) (sB l ((Qf l).getD m 0)):=by
  generalize lb l ((Qf l).take m) (sA l j)=x at *
  generalize lb l ((Qf l).take m) (sB l j)=y at *
  generalize lb l ((Qf l).take m) (sA l ((Qf l).getD m 0))=A at *
  generalize lb l ((Qf l).take m) (sB l ((Qf l).getD m 0))=B at *
  have hxy:Cn l (wo (Qf l) ((Qf l).getD m 0)) x y:=.trans ca (.trans cab (.symm cb))
  have hc:(x=A∧y=B)∨(x=B∧y=A):=by
   unfold WO at heq
   split at heq <;> split at heq <;> omega
  rcases hc with ⟨e1,e2⟩ | ⟨e1,e2⟩
  ·rw [e1,e2] at hxy;exact .trans (.symm cA) (.trans hxy cB)
  ·rw [e1,e2] at hxy;exact .trans (.symm cA) (.trans (.symm hxy) cB)
 exact (Va he hTin (ZK l) (Ug hnet hc) hk).2 (VL he hwin hK)
end
theorem YJ (l:List St) (s:List Int):∀r:List Int,(tkT l (s++r)).length≤(tkT l s).length+r.length:=by
 have key:∀(m:Nat) (r:List Int),r.length=m→(tkT l (s++r)).length≤(tkT l s).length+m:=by
  intro m
  induction m with
  | zero=>intro r h;rw [List.length_eq_zero_iff.1 h,qH];omega
  | succ m ih =>
   intro r h
   rcases List.eq_nil_or_concat r with e | ⟨r',x,e⟩
   ·rw [e] at h;simp at h
   ·subst e
    rw [List.concat_eq_append] at h ⊢
    rw [qD,qG] at h
    have:=ih r' (by omega)
    rw [← jH,Xb]
    split
    ·rw [qD,qG];omega
    ·omega
 exact fun r=>key r.length r rfl
def loW (l:List St) (x:Int) (t:List Int):List Int:=t.filter fun k=>decide (wOf l k≤x)
def hiW (l:List St) (x:Int) (t:List Int):List Int:=t.filter fun k=>!decide (wOf l k≤x)
theorem DJ {l:List St} {x:Int} {t:List Int} (y:Int):y∈t↔y∈loW l x t++hiW l x t:=by
 rw [jN,loW,hiW,qU,qU]
 cases decide (wOf l y≤x) <;> simp
theorem W0 (l:List St) (x:Int):∀t:List Int,(loW l x t).length+(hiW l x t).length=t.length
 | []=>rfl
 | y::t=>by
  have:=W0 l x t
  unfold loW hiW at *
  rw [zD,zD]
  cases decide (wOf l y≤x) <;> simp <;> omega
theorem lo_mem {l:List St} {x:Int} {t:List Int} {y:Int}:y∈loW l x t↔y∈t∧wOf l y≤x:=by rw [loW,qU,decide_eq_true_eq]
section
variable {l:List St} (he:ZY l=true)
include he
theorem QsV {t t':List Int} (ht:∀k∈t,0≤k∧k<(l.length:Int)) (ht':∀k∈t',0≤k∧k<(l.length:Int)) (hs:∀u v:Int,Cn l t u v→Cn l t' u v):rt (Qz l t')≤rt (Qz l t):=by
 unfold rt
 rw [← qZ,← qZ]
 refine zE fun v hv h=>?_
 have hv:=List.mem_range.1 hv
 have h:lb l t' (v:Int)=(v:Int):=of_decide_eq_true h
 have hr:0≤(v:Int)∧(v:Int)<16:=by omega
 refine decide_eq_true (show lb l t (v:Int)=(v:Int) from ?_)
 have h1:=VL he ht' (hs _ _ (ZJ he ht hr))
 have h2:=Zf he ht' (Ct he ht hr)
 have h3:=Zf he ht hr
 omega
theorem Xd {t t':List Int} (ht:∀k∈t,0≤k∧k<(l.length:Int)) (ht':∀k∈t',0≤k∧k<(l.length:Int)) (hs:∀u v:Int,Cn l t u v→Cn l t' u v):(tkT l t).length≤(tkT l t').length:=by
 have:=QsV he ht ht' hs
 have h1:=JF he ht
 have h2:=JF he ht'
 omega
theorem DK {t s r:List Int} (ht:∀k∈t,0≤k∧k<(l.length:Int)) (hf:(tkT l t).length=t.length) (hm:∀x,x∈t↔x∈s++r) (hl:s.length+r.length=t.length):(tkT l s).length=s.length:=by
 have h1:=QX he ht hm
 have h2:=YJ l s r
 have h3:=Qfa l s
 omega
theorem GF {t:List Int} (ht:∀k∈t,0≤k∧k<(l.length:Int)) (hn:t.Nodup) (hf:(tkT l t).length=t.length) {j:Int} (hj:0≤j∧j<(l.length:Int)) (hab:sA l j≠sB l j) (h2:Cn l t (sA l j) (sB l j)) :
  ∃m,m<t.length∧Q5 l t (t.getD m 0) j∧Cn l (t.take (m+1)) (sA l j) (sB l j):=by
 obtain ⟨ea,eb⟩:=Kt he hj
 have htk:∀i,∀x∈t.take i,0≤x∧x<(l.length:Int):=fun i x hx=>ht x (qQ hx)
 have key:∀i,i≤t.length→lb l (t.take i) (sA l j)=lb l (t.take i) (sB l j)→∃m,m<i∧lb l (t.take m) (sA l j)≠lb l (t.take m) (sB l j)∧lb l (t.take (m+1)) (sA l j)=lb l (t.take (m+1)) (sB l j):=by
  intro i
  induction i with
  | zero =>
   intro _ h
   exfalso
   have e:∀v:Int,0≤v∧v<16→lb l (t.take 0) v=v:=fun v hv=>by
    show (Qg 16).getD v.toNat 0=v
    have:v.toNat<16:=by omega
    simp [Qg,qJ,this];omega
   rw [e _ ea,e _ eb] at h
   exact hab h
  | succ i ih =>
   intro hi h
   by_cases c:lb l (t.take i) (sA l j)=lb l (t.take i) (sB l j)
   ·obtain ⟨m,h1,h2,h3⟩:=ih (by omega) c
    exact ⟨m,by omega,h2,h3⟩
   ·exact ⟨i,by omega,c,h⟩
 obtain ⟨m,hm,hne,heq⟩:=key t.length (qB _) (by rw [qE];exact VL he ht h2)
 have hk:=Qu (l:=t) 0 hm
 refine ⟨m,hm,fun hsame=>?_,(YH he (htk _) ea eb).1 heq⟩
 have hsame:lb l (wo t (t.getD m 0)) (sA l j)=lb l (wo t (t.getD m 0)) (sB l j):=hsame
 have hwin:∀x∈wo t (t.getD m 0),0≤x∧x<(l.length:Int):=fun x hx=>ht x (mem_wo.1 hx).1
 obtain ⟨ka,kb⟩:=Kt he (ht _ hk)
 have hmono:∀x∈t.take m,x∈wo t (t.getD m 0):=fun x hx=>mem_wo.2 ⟨qQ hx,fun c=>Uf hn hm (c▸hx)⟩
 have cA:=(ZJ he (htk m) ka).mono hmono
 have cB:=(ZJ he (htk m) kb).mono hmono
 have ca:=(ZJ he (htk m) ea).mono hmono
 have cb:=(ZJ he (htk m) eb).mono hmono
 have cab:=(YH he hwin ea eb).1 hsame
 rw [Jm he ht hm ea,Jm he ht hm eb] at heq
 have hK:Cn l (wo t (t.getD m 0)) (sA l (t.getD m 0)) (sB l (t.getD m 0)):=by
  generalize lb l (t.take m) (sA l j)=x at *
  generalize lb l (t.take m) (sB l j)=y at *
  generalize lb l (t.take m) (sA l (t.getD m 0))=A at *
  generalize lb l (t.take m) (sB l (t.getD m 0))=B at *
  have hxy:Cn l (wo t (t.getD m 0)) x y:=.trans ca (.trans cab (.symm cb))
  have hc:(x=A∧y=B)∨(x=B∧y=A):=by
   unfold WO at heq
   split at heq <;> split at heq <;> omega
  rcases hc with ⟨e1,e2⟩ | ⟨e1,e2⟩
  ·rw [e1,e2] at hxy;exact .trans (.symm cA) (.trans hxy cB)
  ·rw [e1,e2] at hxy;exact .trans (.symm cA) (.trans (.symm hxy) cB)
 exact (Va he ht hn hf hk).2 (VL he hwin hK)
end
structure Tr (n:Int) (l:List St) (t:List Int):Prop where
 rg:∀k∈t,0≤k∧k<(l.length:Int)
 nd:t.Nodup
 ln:(t.length:Int)=n-1
 fo:(tkT l t).length=t.length
theorem Cy {n:Int} {l:List St} (hE:∀k,0≤k∧k<(l.length:Int)→sA l k<n∧sB l k<n) {t:List Int} (ht:∀k∈t,0≤k∧k<(l.length:Int)) {u v:Int} (h:Cn l t u v):u=v∨(u<n∧v<n):=by
 induction h with
 | refl v=>exact .inl rfl
 | edge h=>exact .inr (hE _ (ht _ h))
 | symm _ ih=>omega
 | trans _ _ h1 h2=>omega
section
variable {n:Int} {l:List St} (hnet:Ww n l=true)
include hnet
theorem JZ {k:Int} (hk:0≤k∧k<(l.length:Int)):(0≤sA l k∧sA l k<n)∧(0≤sB l k∧sB l k<n)∧sA l k≠sB l k:=by
 have h:=hnet
 simp only [Ww,jG,jQ,decide_eq_true_eq,stB] at h
 have:=h.1 _ (Qu (l:=l) (0,0,0) (show k.toNat<l.length by omega))
 exact ⟨by have:=this.1;exact this,by have:=this.2.1;exact this,this.2.2.1⟩
theorem QsW {t:List Int} (ht:∀k∈t,0≤k∧k<(l.length:Int)):17-n≤(rt (Qz l t):Int):=by
 have he:=QA hnet
 obtain ⟨⟨n1,n2⟩,_⟩:=QE hnet
 have hE:∀k,0≤k∧k<(l.length:Int)→sA l k<n∧sB l k<n:=fun k hk=>by have:=JZ hnet hk;omega
 have h1:((qO 16).filter fun (v:Nat)=>decide (v=0∨n≤(v:Int))).length≤rt (Qz l t):=by
  unfold rt
  rw [← qZ,← qZ]
  refine zE fun v hv h=>?_
  have hv:=List.mem_range.1 hv
  have h:=of_decide_eq_true h
  have hr:0≤(v:Int)∧(v:Int)<16:=by omega
  refine decide_eq_true (show lb l t (v:Int)=(v:Int) from ?_)
  have h2:=Zf he ht hr
  have h3:=Cy hE ht (ZJ he ht hr)
  omega
 have h2:∀m:Nat,1≤m∧m≤16→((qO 16).filter fun (v:Nat)=>decide (v=0∨(m:Int)≤(v:Int))).length=17-m:=by
  have:∀m:Fin 17,1≤m.val→((qO 16).filter fun (v:Nat)=>decide (v=0∨(m.val:Int)≤(v:Int))).length=17-m.val:=by decide +kernel
  exact fun m hm=>this ⟨m,by omega⟩ hm.1
 have h3:=h2 n.toNat (by omega)
 rw [show ((n.toNat:Nat):Int)=n by omega] at h3
 omega
theorem Cz {t:List Int} (ht:∀k∈t,0≤k∧k<(l.length:Int)):((tkT l t).length:Int)≤n-1:=by
 have:=QsW hnet ht
 have:=JF (QA hnet) ht
 omega
theorem Tr.con {t:List Int} (h:Tr n l t) {j:Int} (hj:0≤j∧j<(l.length:Int)):Cn l t (sA l j) (sB l j):=by
 have he:=QA hnet
 obtain ⟨ea,eb⟩:=Kt he hj
 refine (YH he h.rg ea eb).1 ?_
 have h1:=Xb l t j
 by_cases c:(Qz l t).getD (sA l j).toNat 0=(Qz l t).getD (sB l j).toNat 0
 ·exact c
 ·exfalso
  rw [if_pos c] at h1
  have h2:=Cz hnet (t:=t++[j]) (fun k hk=>(List.mem_append.1 hk).elim (h.rg k) fun e=>(List.mem_singleton.1 e)▸hj)
  rw [h1,qD,qG,h.fo] at h2
  have:=h.ln
  omega
def Loc (l:List St) (t:List Int):Prop:=∀k∈t,∀j,0≤j∧j<(l.length:Int)→j∉t→Q5 l t k j→wOf l k≤wOf l j
theorem Qhp {t:List Int} (h:Tr n l t) (hL:Loc l t) {j:Int} (hj:0≤j∧j<(l.length:Int)):Cn l (loW l (wOf l j) t) (sA l j) (sB l j):=by
 have he:=QA hnet
 by_cases hjt:j∈t
 ·exact .edge (lo_mem.2 ⟨hjt,Int.le_refl _⟩)
 have hab:=(JZ hnet hj).2.2
 have hm:=fun y=>DJ (l:=l) (x:=wOf l j) (t:=t) y
 have hlen:=W0 l (wOf l j) t
 have hrg:∀k∈loW l (wOf l j) t++hiW l (wOf l j) t,0≤k∧k<(l.length:Int):=fun k hk=>h.rg k ((hm k).2 hk)
 have hf:(tkT l (loW l (wOf l j) t++hiW l (wOf l j) t)).length=(loW l (wOf l j) t++hiW l (wOf l j) t).length:=by
  rw [← QX he h.rg hm,h.fo,qD,hlen]
 have hn:(loW l (wOf l j) t++hiW l (wOf l j) t).Nodup:=by
  refine List.nodup_append.2 ⟨h.nd.sublist qY,h.nd.sublist qY,fun a ha b hb e=>?_⟩
  subst e
  have h1:=(List.mem_filter.1 ha).2
  have h2:=(List.mem_filter.1 hb).2
  rw [h1] at h2
  cases h2
 obtain ⟨m,hm1,hm2,hm3⟩:=GF he hrg hn hf hj hab ((Tr.con hnet h hj).mono fun k hk=>(hm k).1 hk)
 have hk:=Qu (l:=loW l (wOf l j) t++hiW l (wOf l j) t) 0 hm1
 have hkt:=(hm _).2 hk
 have hJ:Q5 l t ((loW l (wOf l j) t++hiW l (wOf l j) t).getD m 0) j:=by
  have:Qz l (wo t ((loW l (wOf l j) t++hiW l (wOf l j) t).getD m 0))=Qz l (wo (loW l (wOf l j) t++hiW l (wOf l j) t) ((loW l (wOf l j) t++hiW l (wOf l j) t).getD m 0)):=VM he (fun x hx=>h.rg x (mem_wo.1 hx).1) (fun x=>by rw [mem_wo,mem_wo,← hm])
  unfold Q5
  rw [this]
  exact hm2
 have hw:=hL _ hkt j hj hjt hJ
 have hml:m<(loW l (wOf l j) t).length:=by
  rcases Nat.lt_or_ge m (loW l (wOf l j) t).length with c | c
  ·exact c
  ·exfalso
   rw [QB hm1,List.getElem_append_right c] at hw
   rw [qD] at hm1
   have:((hiW l (wOf l j) t)[m-(loW l (wOf l j) t).length]'(by omega))∈hiW l (wOf l j) t:=List.getElem_mem _
   have:=(List.mem_filter.1 this).2
   simp only [Bool.not_eq_true',decide_eq_false_iff_not] at this
   exact this hw
 refine hm3.mono fun k hk=>?_
 rw [jW (by omega)] at hk
 exact qQ hk
theorem CA {t:List Int} (h:Tr n l t) (x:Int):(loW l x t).length≤(tkT l (loW l x (Qg l.length))).length:=by
 have he:=QA hnet
 have h1:=DK he h.rg h.fo (fun y=>DJ (l:=l) (x:=x) y) (W0 l x t)
 have h2:=Xd he (t:=loW l x t) (t':=loW l x (Qg l.length)) (fun k hk=>h.rg k (lo_mem.1 hk).1) (fun k hk=>startT_mem.1 (lo_mem.1 hk).1) (fun u v huv=>huv.mono fun k hk=>lo_mem.2 ⟨startT_mem.2 (h.rg k (lo_mem.1 hk).1),(lo_mem.1 hk).2⟩)
 omega
theorem Uh {t:List Int} (h:Tr n l t) (hL:Loc l t) (x:Int):(loW l x t).length=(tkT l (loW l x (Qg l.length))).length:=by
 have he:=QA hnet
 have h1:=DK he h.rg h.fo (fun y=>DJ (l:=l) (x:=x) y) (W0 l x t)
 have h2:=Xd he (t:=loW l x (Qg l.length)) (t':=loW l x t) (fun k hk=>startT_mem.1 (lo_mem.1 hk).1) (fun k hk=>h.rg k (lo_mem.1 hk).1) (fun u v huv=>by
  induction huv with
  | refl v=>exact .refl v
  | edge hk =>
   obtain ⟨h3,h4⟩:=lo_mem.1 hk
   refine (Qhp hnet h hL (startT_mem.1 h3)).mono fun y hy=>?_
   obtain ⟨h5,h6⟩:=lo_mem.1 hy
   exact lo_mem.2 ⟨h5,by omega⟩
  | symm _ ih=>exact .symm ih
  | trans _ _ a b=>exact .trans a b)
 have h3:=CA hnet h x
 omega
end
def Z2 (l:List St) (t:List Int):Nat→Nat
 | 0=>0
 | m+1=>Z2 l t m+(hiW l (m:Int) t).length
theorem S3 (l:List St):∀m,Z2 l [] m=0
 | 0=>rfl
 | m+1=>by rw [Z2,S3 l m];rfl
theorem GG (l:List St) (k:Int) (t:List Int) (hk:0≤wOf l k):∀m:Nat,(Z2 l (k::t) m:Int)=Z2 l t m+min (wOf l k) m
 | 0=>by rw [Z2,Z2];omega
 | m+1=>by
  have:=GG l k t hk m
  rw [Z2,Z2,hiW,zD]
  by_cases c:wOf l k≤(m:Int)
  ·rw [decide_eq_true c]
   simp only [Bool.not_true,Bool.false_eq_true,if_false]
   show ((Z2 l (k::t) m+(hiW l (m:Int) t).length:Nat):Int)=_
   omega
  ·rw [decide_eq_false c]
   simp only [Bool.not_false,if_true,qT]
   show ((Z2 l (k::t) m+((hiW l (m:Int) t).length+1):Nat):Int)=_
   omega
theorem Uy (l:List St) {M:Nat}:∀t:List Int,(∀k∈t,0≤wOf l k∧wOf l k≤(M:Int))→wgt l t=(Z2 l t M:Int)
 | [],_=>by rw [S3];rfl
 | k::t,h=>by
  have h1:=h k (zA ..)
  rw [GG l k t h1.1,← Uy l t fun y hy=>h y (jU _ hy)]
  show (((k::t).map (wOf l)).sum)=(t.map (wOf l)).sum+_
  rw [List.map_cons,List.sum_cons]
  omega
theorem YK {l:List St} {t s:List Int} (h:∀m:Nat,(hiW l (m:Int) t).length≤(hiW l (m:Int) s).length):∀m,Z2 l t m≤Z2 l s m
 | 0=>qB _
 | m+1=>Nat.add_le_add (YK h m) (h m)
section
variable {n:Int} {l:List St} (hnet:Ww n l=true)
include hnet
theorem Yj {k:Int} (hk:0≤k∧k<(l.length:Int)):0≤wOf l k∧wOf l k≤1000:=(QE hnet).2.2.2 _ (Qu _ (by omega))
theorem Qb2 {t s:List Int} (ht:Tr n l t) (hL:Loc l t) (hs:Tr n l s):wgt l t≤wgt l s:=by
 rw [Uy l (M:=1000) t fun k hk=>Yj hnet (ht.rg k hk),Uy l (M:=1000) s fun k hk=>Yj hnet (hs.rg k hk)]
 have:=YK (l:=l) (t:=t) (s:=s) (fun m=>by
  have h1:=Uh hnet ht hL (m:Int)
  have h2:=CA hnet hs (m:Int)
  have h3:=W0 l (m:Int) t
  have h4:=W0 l (m:Int) s
  have:=ht.ln
  have:=hs.ln
  omega) 1000
 omega
theorem J0 (hc:Wl n l=true):Tr n l (Qf l):=⟨fun k hk=>Zo hk,ZK l,DI hnet hc,Ug hnet hc⟩
theorem GH:Loc l (Qf l):=fun _ hk _ hj hjt hJ=>Qb1 hnet hk hj hjt hJ
theorem Qb3 {t:List Int} (h:Tr n l t):Wl n l=true:=by
 have he:=QA hnet
 have h1:=Xd he (t:=t) (t':=Qh l) h.rg (fun k hk=>ordT_mem.1 hk) (fun u v huv=>huv.mono fun k hk=>ordT_mem.2 (h.rg k hk))
 have h2:=Cz hnet (t:=Qh l) fun k hk=>ordT_mem.1 hk
 have:=h.fo
 have:=h.ln
 exact decide_eq_true (show ((tkT l (Qh l)).length:Int)=n-1 by omega)
theorem GI {s:List Int} (hs:Tr n l s):wgt l (Qf l)≤wgt l s:=Qb2 hnet (J0 hnet (Qb3 hnet hs)) (GH hnet) hs
end
end Go.Proofs.Ytiejmoglooaalaa
end
section
open Go Go.HL
namespace Go.Proofs.Ytiejmoglooaalaa
set_option maxRecDepth 100000
set_option linter.unusedSectionVars false
open Go.Proofs.Try renaming prog → Tp
open Go.HL.HV renaming undef → Ud
section
variable {F:FuncId→Option (List HV→Option HV)}
noncomputable def B25:Code:=Try.f25.body.getD .skip
abbrev ZL (v0 v1 v2 v6 v7 v8 v9 v10:HV):Env:=[(0,v0),(1,v1),(2,v2),(6,v6),(7,v7),(8,v8),(9,v9),(10,v10)]
end
abbrev e25 (ls:List HV) (n:Int) (most:Int) (q:Nat) (u5 u6 u7:HV):Env:=ZL (.g ls) (.i n) (.i most) (.imm .lit 3 []) (.sl 0 0 q none q 3) u5 u6 u7
section
variable {F:FuncId→Option (List HV→Option HV)}
variable (ls:List HV) (n most:Int)
include ls n most
theorem Qou:RU F 25 2 B25 [(0,.g ls),(1,.i n),(2,.i most)] [] .normal (ZL (.g ls) (.i n) (.i most) (.imm .lit 3 []) Ud Ud Ud Ud) [] :=
 hx 0 60 []
end
section
variable {F:FuncId→Option (List HV→Option HV)}
variable (ls:List HV) (n most:Int)
include ls n most
theorem Qov (y7 y8 y9 y10:HV:=Ud): RU F 25 6 B25 (ZL (.g ls) (.i n) (.i most) (.imm .lit 3 []) y7 y8 y9 y10) [] .normal (ZL (.g ls) (.i n) (.i most) (.imm .lit 3 []) (.sl 0 0 0 none 0 3) y8 y9 y10) [.arr 3 [] true 0] :=
 hx 0 60 []
theorem Qow (q:Nat) (os:List HV) (y8 y9 y10:HV:=Ud): RU F 25 28 B25 (e25 ls n most q y8 y9 y10) [.arr 3 os true 0] .normal (e25 ls n most q (.i 0) y9 y10) [.arr 3 os true 0] :=
 hx 0 60 []
theorem Qox (q:Nat) (os:List HV) (i:Nat) (a b w x y v:Int) (g0:(i:Int)<(ls.length:Int)) (g1:(i:Int)<most) (g2:IX 22 (.g ls) (.i (i:Int)) (.vptr (.agg [.i a,.i b,.i w]))) (g3:CM F 24 [.i a,.i n] [.arr 3 os true 0] (.i x) [.arr 3 os true 0]) (g4:IX 22 (.g ls) (.i (i:Int)) (.vptr (.agg [.i a,.i b,.i w]))) (g5:CM F 24 [.i b,.i n] [.arr 3 os true 0] (.i y) [.arr 3 os true 0]) (g6:IX 22 (.g ls) (.i (i:Int)) (.vptr (.agg [.i a,.i b,.i w]))) (gS5:∀kf,((same (.i a) (.i a)&&Qm ([.arr 3 os true 0]:Heap) [.arr 3 os true 0]&&Qm ([.arr 3 os true 0,.arr 3 [.agg [.i 0,.i 0,.i 0]] true 0]:Heap) [.arr 3 os true 0,.arr 3 [.agg [.i 0,.i 0,.i 0]] true 0])&&(WT (Qc Tp (plF F) (kf+1) 24 [.i a,.i n] [.arr 3 os true 0]) (Qc Tp (plF F) (kf+1) 24 [.i a,.i n] [.arr 3 os true 0]) [.arr 3 os true 0] [.arr 3 os true 0]&&(WT (Qc Tp (plF F) (kf+1) 24 [.i a,.i n] [.arr 3 os true 0]) (Qc Tp (plF F) (kf+1) 24 [.i a,.i n] [.arr 3 os true 0,.arr 3 [.agg [.i 0,.i 0,.i 0]] true 0]) [.arr 3 os true 0] [.arr 3 os true 0,.arr 3 [.agg [.i 0,.i 0,.i 0]] true 0]&&((same (.i b) (.i b)&&Qm ([.arr 3 os true 0]:Heap) [.arr 3 os true 0]&&Qm ([.arr 3 os true 0,.arr 3 [.agg [.i 0,.i 0,.i 0]] true 0]:Heap) [.arr 3 os true 0,.arr 3 [.agg [.i 0,.i 0,.i 0]] true 0])&&(WT (Qc Tp (plF F) (kf+1) 24 [.i b,.i n] [.arr 3 os true 0]) (Qc Tp (plF F) (kf+1) 24 [.i b,.i n] [.arr 3 os true 0]) [.arr 3 os true 0] [.arr 3 os true 0]&&(WT (Qc Tp (plF F) (kf+1) 24 [.i b,.i n] [.arr 3 os true 0]) (Qc Tp (plF F) (kf+1) 24 [.i b,.i n] [.arr 3 os true 0,.arr 3 [.agg [.i 0,.i 0,.i 0]] true 0]) [.arr 3 os true 0] [.arr 3 os true 0,.arr 3 [.agg [.i 0,.i 0,.i 0]] true 0]&&((same (.i w) (.i w)&&Qm ([.arr 3 os true 0]:Heap) [.arr 3 os true 0]&&Qm ([.arr 3 os true 0,.arr 3 [.agg [.i 0,.i 0,.i 0]] true 0]:Heap) [.arr 3 os true 0,.arr 3 [.agg [.i 0,.i 0,.i 0]] true 0])&&true)))))))=true) (g8:w<0) (g9:CM F 24 [.i w,.i 1001] [.arr 3 os true 0,.arr 3 [.agg [.i x,.i y,.i w]] true 0] (.i v) [.arr 3 os true 0,.arr 3 [.agg [.i x,.i y,.i w]] true 0]) (g10:x=y) (y9 y10:HV:=Ud): RU F 25 116 B25 (e25 ls n most q (.i (i:Int)) y9 y10) [.arr 3 os true 0] .normal (e25 ls n most q (.i (qA.wrap ((i:Int)+1))) (.q 1) y10) [.arr 3 os true 0,.arr 3 [.agg [.i x,.i y,.i v]] true 0] :=
 hx 0 60 [jT 3 3 [.arr 3 os true 0] g0,jT 3 7 [.arr 3 os true 0] g1,jL gS5,jO 5 2 [.arr 3 os true 0] g2,jD 5 6 g3,jO 5 9 [.arr 3 os true 0] g4,jD 5 13 g5,jO 5 16 [.arr 3 os true 0] g6,jT 6 2 [.arr 3 os true 0,.arr 3 [.agg [.i x,.i y,.i w]] true 0] g8,jD 7 2 g9,jB 8 4 [.arr 3 os true 0,.arr 3 [.agg [.i x,.i y,.i v]] true 0] (congrArg not (decide_eq_true g10))]
theorem Qoy (q:Nat) (os:List HV) (i:Nat) (a b w x y v:Int) (g0:(i:Int)<(ls.length:Int)) (g1:(i:Int)<most) (g2:IX 22 (.g ls) (.i (i:Int)) (.vptr (.agg [.i a,.i b,.i w]))) (g3:CM F 24 [.i a,.i n] [.arr 3 os true 0] (.i x) [.arr 3 os true 0]) (g4:IX 22 (.g ls) (.i (i:Int)) (.vptr (.agg [.i a,.i b,.i w]))) (g5:CM F 24 [.i b,.i n] [.arr 3 os true 0] (.i y) [.arr 3 os true 0]) (g6:IX 22 (.g ls) (.i (i:Int)) (.vptr (.agg [.i a,.i b,.i w]))) (gS5:∀kf,((same (.i a) (.i a)&&Qm ([.arr 3 os true 0]:Heap) [.arr 3 os true 0]&&Qm ([.arr 3 os true 0,.arr 3 [.agg [.i 0,.i 0,.i 0]] true 0]:Heap) [.arr 3 os true 0,.arr 3 [.agg [.i 0,.i 0,.i 0]] true 0])&&(WT (Qc Tp (plF F) (kf+1) 24 [.i a,.i n] [.arr 3 os true 0]) (Qc Tp (plF F) (kf+1) 24 [.i a,.i n] [.arr 3 os true 0]) [.arr 3 os true 0] [.arr 3 os true 0]&&(WT (Qc Tp (plF F) (kf+1) 24 [.i a,.i n] [.arr 3 os true 0]) (Qc Tp (plF F) (kf+1) 24 [.i a,.i n] [.arr 3 os true 0,.arr 3 [.agg [.i 0,.i 0,.i 0]] true 0]) [.arr 3 os true 0] [.arr 3 os true 0,.arr 3 [.agg [.i 0,.i 0,.i 0]] true 0]&&((same (.i b) (.i b)&&Qm ([.arr 3 os true 0]:Heap) [.arr 3 os true 0]&&Qm ([.arr 3 os true 0,.arr 3 [.agg [.i 0,.i 0,.i 0]] true 0]:Heap) [.arr 3 os true 0,.arr 3 [.agg [.i 0,.i 0,.i 0]] true 0])&&(WT (Qc Tp (plF F) (kf+1) 24 [.i b,.i n] [.arr 3 os true 0]) (Qc Tp (plF F) (kf+1) 24 [.i b,.i n] [.arr 3 os true 0]) [.arr 3 os true 0] [.arr 3 os true 0]&&(WT (Qc Tp (plF F) (kf+1) 24 [.i b,.i n] [.arr 3 os true 0]) (Qc Tp (plF F) (kf+1) 24 [.i b,.i n] [.arr 3 os true 0,.arr 3 [.agg [.i 0,.i 0,.i 0]] true 0]) [.arr 3 os true 0] [.arr 3 os true 0,.arr 3 [.agg [.i 0,.i 0,.i 0]] true 0]&&((same (.i w) (.i w)&&Qm ([.arr 3 os true 0]:Heap) [.arr 3 os true 0]&&Qm ([.arr 3 os true 0,.arr 3 [.agg [.i 0,.i 0,.i 0]] true 0]:Heap) [.arr 3 os true 0,.arr 3 [.agg [.i 0,.i 0,.i 0]] true 0])&&true)))))))=true) (g8:w<0) (g9:CM F 24 [.i w,.i 1001] [.arr 3 os true 0,.arr 3 [.agg [.i x,.i y,.i w]] true 0] (.i v) [.arr 3 os true 0,.arr 3 [.agg [.i x,.i y,.i w]] true 0]) (g10:¬(x=y)) (g11:Zu [.arr 3 os true 0,.arr 3 [.agg [.i x,.i y,.i v]] true 0] 3 24 (.sl 0 0 q none q 3) [.agg [.i x,.i y,.i v]]=some (.sl 0 0 (q+1) none (q+1) 3,[.arr 3 (os++[.agg [.i x,.i y,.i v]]) true 0,.arr 3 [.agg [.i x,.i y,.i v]] true 0])) (y9 y10:HV:=Ud): RU F 25 116 B25 (e25 ls n most q (.i (i:Int)) y9 y10) [.arr 3 os true 0] .normal (ZL (.g ls) (.i n) (.i most) (.imm .lit 3 []) (.sl 0 0 (q+1) none (q+1) 3) (.i (qA.wrap ((i:Int)+1))) (.q 1) y10) [.arr 3 (os++[.agg [.i x,.i y,.i v]]) true 0,.arr 3 [.agg [.i x,.i y,.i v]] true 0] :=
 hx 0 60 [jT 3 3 [.arr 3 os true 0] g0,jT 3 7 [.arr 3 os true 0] g1,jL gS5,jO 5 2 [.arr 3 os true 0] g2,jD 5 6 g3,jO 5 9 [.arr 3 os true 0] g4,jD 5 13 g5,jO 5 16 [.arr 3 os true 0] g6,jT 6 2 [.arr 3 os true 0,.arr 3 [.agg [.i x,.i y,.i w]] true 0] g8,jD 7 2 g9,jB 8 4 [.arr 3 os true 0,.arr 3 [.agg [.i x,.i y,.i v]] true 0] (congrArg not (decide_eq_false g10)),jR 9 3 g11]
theorem Qoz (q:Nat) (os:List HV) (i:Nat) (a b w x y v:Int) (g0:(i:Int)<(ls.length:Int)) (g1:(i:Int)<most) (g2:IX 22 (.g ls) (.i (i:Int)) (.vptr (.agg [.i a,.i b,.i w]))) (g3:CM F 24 [.i a,.i n] [.arr 3 os true 0] (.i x) [.arr 3 os true 0]) (g4:IX 22 (.g ls) (.i (i:Int)) (.vptr (.agg [.i a,.i b,.i w]))) (g5:CM F 24 [.i b,.i n] [.arr 3 os true 0] (.i y) [.arr 3 os true 0]) (g6:IX 22 (.g ls) (.i (i:Int)) (.vptr (.agg [.i a,.i b,.i w]))) (gS5:∀kf,((same (.i a) (.i a)&&Qm ([.arr 3 os true 0]:Heap) [.arr 3 os true 0]&&Qm ([.arr 3 os true 0,.arr 3 [.agg [.i 0,.i 0,.i 0]] true 0]:Heap) [.arr 3 os true 0,.arr 3 [.agg [.i 0,.i 0,.i 0]] true 0])&&(WT (Qc Tp (plF F) (kf+1) 24 [.i a,.i n] [.arr 3 os true 0]) (Qc Tp (plF F) (kf+1) 24 [.i a,.i n] [.arr 3 os true 0]) [.arr 3 os true 0] [.arr 3 os true 0]&&(WT (Qc Tp (plF F) (kf+1) 24 [.i a,.i n] [.arr 3 os true 0]) (Qc Tp (plF F) (kf+1) 24 [.i a,.i n] [.arr 3 os true 0,.arr 3 [.agg [.i 0,.i 0,.i 0]] true 0]) [.arr 3 os true 0] [.arr 3 os true 0,.arr 3 [.agg [.i 0,.i 0,.i 0]] true 0]&&((same (.i b) (.i b)&&Qm ([.arr 3 os true 0]:Heap) [.arr 3 os true 0]&&Qm ([.arr 3 os true 0,.arr 3 [.agg [.i 0,.i 0,.i 0]] true 0]:Heap) [.arr 3 os true 0,.arr 3 [.agg [.i 0,.i 0,.i 0]] true 0])&&(WT (Qc Tp (plF F) (kf+1) 24 [.i b,.i n] [.arr 3 os true 0]) (Qc Tp (plF F) (kf+1) 24 [.i b,.i n] [.arr 3 os true 0]) [.arr 3 os true 0] [.arr 3 os true 0]&&(WT (Qc Tp (plF F) (kf+1) 24 [.i b,.i n] [.arr 3 os true 0]) (Qc Tp (plF F) (kf+1) 24 [.i b,.i n] [.arr 3 os true 0,.arr 3 [.agg [.i 0,.i 0,.i 0]] true 0]) [.arr 3 os true 0] [.arr 3 os true 0,.arr 3 [.agg [.i 0,.i 0,.i 0]] true 0]&&((same (.i w) (.i w)&&Qm ([.arr 3 os true 0]:Heap) [.arr 3 os true 0]&&Qm ([.arr 3 os true 0,.arr 3 [.agg [.i 0,.i 0,.i 0]] true 0]:Heap) [.arr 3 os true 0,.arr 3 [.agg [.i 0,.i 0,.i 0]] true 0])&&true)))))))=true) (g8:¬(w<0)) (g9:1000<w) (g10:CM F 24 [.i w,.i 1001] [.arr 3 os true 0,.arr 3 [.agg [.i x,.i y,.i w]] true 0] (.i v) [.arr 3 os true 0,.arr 3 [.agg [.i x,.i y,.i w]] true 0]) (g11:x=y) (y9 y10:HV:=Ud): RU F 25 116 B25 (e25 ls n most q (.i (i:Int)) y9 y10) [.arr 3 os true 0] .normal (e25 ls n most q (.i (qA.wrap ((i:Int)+1))) (.q 1) y10) [.arr 3 os true 0,.arr 3 [.agg [.i x,.i y,.i v]] true 0] :=
 hx 0 60 [jT 3 3 [.arr 3 os true 0] g0,jT 3 7 [.arr 3 os true 0] g1,jL gS5,jO 5 2 [.arr 3 os true 0] g2,jD 5 6 g3,jO 5 9 [.arr 3 os true 0] g4,jD 5 13 g5,jO 5 16 [.arr 3 os true 0] g6,jF 6 2 [.arr 3 os true 0,.arr 3 [.agg [.i x,.i y,.i w]] true 0] g8,jT 6 6 [.arr 3 os true 0,.arr 3 [.agg [.i x,.i y,.i w]] true 0] g9,jD 7 2 g10,jB 8 4 [.arr 3 os true 0,.arr 3 [.agg [.i x,.i y,.i v]] true 0] (congrArg not (decide_eq_true g11))]
theorem QoA (q:Nat) (os:List HV) (i:Nat) (a b w x y v:Int) (g0:(i:Int)<(ls.length:Int)) (g1:(i:Int)<most) (g2:IX 22 (.g ls) (.i (i:Int)) (.vptr (.agg [.i a,.i b,.i w]))) (g3:CM F 24 [.i a,.i n] [.arr 3 os true 0] (.i x) [.arr 3 os true 0]) (g4:IX 22 (.g ls) (.i (i:Int)) (.vptr (.agg [.i a,.i b,.i w]))) (g5:CM F 24 [.i b,.i n] [.arr 3 os true 0] (.i y) [.arr 3 os true 0]) (g6:IX 22 (.g ls) (.i (i:Int)) (.vptr (.agg [.i a,.i b,.i w]))) (gS5:∀kf,((same (.i a) (.i a)&&Qm ([.arr 3 os true 0]:Heap) [.arr 3 os true 0]&&Qm ([.arr 3 os true 0,.arr 3 [.agg [.i 0,.i 0,.i 0]] true 0]:Heap) [.arr 3 os true 0,.arr 3 [.agg [.i 0,.i 0,.i 0]] true 0])&&(WT (Qc Tp (plF F) (kf+1) 24 [.i a,.i n] [.arr 3 os true 0]) (Qc Tp (plF F) (kf+1) 24 [.i a,.i n] [.arr 3 os true 0]) [.arr 3 os true 0] [.arr 3 os true 0]&&(WT (Qc Tp (plF F) (kf+1) 24 [.i a,.i n] [.arr 3 os true 0]) (Qc Tp (plF F) (kf+1) 24 [.i a,.i n] [.arr 3 os true 0,.arr 3 [.agg [.i 0,.i 0,.i 0]] true 0]) [.arr 3 os true 0] [.arr 3 os true 0,.arr 3 [.agg [.i 0,.i 0,.i 0]] true 0]&&((same (.i b) (.i b)&&Qm ([.arr 3 os true 0]:Heap) [.arr 3 os true 0]&&Qm ([.arr 3 os true 0,.arr 3 [.agg [.i 0,.i 0,.i 0]] true 0]:Heap) [.arr 3 os true 0,.arr 3 [.agg [.i 0,.i 0,.i 0]] true 0])&&(WT (Qc Tp (plF F) (kf+1) 24 [.i b,.i n] [.arr 3 os true 0]) (Qc Tp (plF F) (kf+1) 24 [.i b,.i n] [.arr 3 os true 0]) [.arr 3 os true 0] [.arr 3 os true 0]&&(WT (Qc Tp (plF F) (kf+1) 24 [.i b,.i n] [.arr 3 os true 0]) (Qc Tp (plF F) (kf+1) 24 [.i b,.i n] [.arr 3 os true 0,.arr 3 [.agg [.i 0,.i 0,.i 0]] true 0]) [.arr 3 os true 0] [.arr 3 os true 0,.arr 3 [.agg [.i 0,.i 0,.i 0]] true 0]&&((same (.i w) (.i w)&&Qm ([.arr 3 os true 0]:Heap) [.arr 3 os true 0]&&Qm ([.arr 3 os true 0,.arr 3 [.agg [.i 0,.i 0,.i 0]] true 0]:Heap) [.arr 3 os true 0,.arr 3 [.agg [.i 0,.i 0,.i 0]] true 0])&&true)))))))=true) (g8:¬(w<0)) (g9:1000<w) (g10:CM F 24 [.i w,.i 1001] [.arr 3 os true 0,.arr 3 [.agg [.i x,.i y,.i w]] true 0] (.i v) [.arr 3 os true 0,.arr 3 [.agg [.i x,.i y,.i w]] true 0]) (g11:¬(x=y)) (g12:Zu [.arr 3 os true 0,.arr 3 [.agg [.i x,.i y,.i v]] true 0] 3 24 (.sl 0 0 q none q 3) [.agg [.i x,.i y,.i v]]=some (.sl 0 0 (q+1) none (q+1) 3,[.arr 3 (os++[.agg [.i x,.i y,.i v]]) true 0,.arr 3 [.agg [.i x,.i y,.i v]] true 0])) (y9 y10:HV:=Ud): RU F 25 116 B25 (e25 ls n most q (.i (i:Int)) y9 y10) [.arr 3 os true 0] .normal (ZL (.g ls) (.i n) (.i most) (.imm .lit 3 []) (.sl 0 0 (q+1) none (q+1) 3) (.i (qA.wrap ((i:Int)+1))) (.q 1) y10) [.arr 3 (os++[.agg [.i x,.i y,.i v]]) true 0,.arr 3 [.agg [.i x,.i y,.i v]] true 0] :=
 hx 0 60 [jT 3 3 [.arr 3 os true 0] g0,jT 3 7 [.arr 3 os true 0] g1,jL gS5,jO 5 2 [.arr 3 os true 0] g2,jD 5 6 g3,jO 5 9 [.arr 3 os true 0] g4,jD 5 13 g5,jO 5 16 [.arr 3 os true 0] g6,jF 6 2 [.arr 3 os true 0,.arr 3 [.agg [.i x,.i y,.i w]] true 0] g8,jT 6 6 [.arr 3 os true 0,.arr 3 [.agg [.i x,.i y,.i w]] true 0] g9,jD 7 2 g10,jB 8 4 [.arr 3 os true 0,.arr 3 [.agg [.i x,.i y,.i v]] true 0] (congrArg not (decide_eq_false g11)),jR 9 3 g12]
theorem QoB (q:Nat) (os:List HV) (i:Nat) (a b w x y v:Int) (g0:(i:Int)<(ls.length:Int)) (g1:(i:Int)<most) (g2:IX 22 (.g ls) (.i (i:Int)) (.vptr (.agg [.i a,.i b,.i w]))) (g3:CM F 24 [.i a,.i n] [.arr 3 os true 0] (.i x) [.arr 3 os true 0]) (g4:IX 22 (.g ls) (.i (i:Int)) (.vptr (.agg [.i a,.i b,.i w]))) (g5:CM F 24 [.i b,.i n] [.arr 3 os true 0] (.i y) [.arr 3 os true 0]) (g6:IX 22 (.g ls) (.i (i:Int)) (.vptr (.agg [.i a,.i b,.i w]))) (gS5:∀kf,((same (.i a) (.i a)&&Qm ([.arr 3 os true 0]:Heap) [.arr 3 os true 0]&&Qm ([.arr 3 os true 0,.arr 3 [.agg [.i 0,.i 0,.i 0]] true 0]:Heap) [.arr 3 os true 0,.arr 3 [.agg [.i 0,.i 0,.i 0]] true 0])&&(WT (Qc Tp (plF F) (kf+1) 24 [.i a,.i n] [.arr 3 os true 0]) (Qc Tp (plF F) (kf+1) 24 [.i a,.i n] [.arr 3 os true 0]) [.arr 3 os true 0] [.arr 3 os true 0]&&(WT (Qc Tp (plF F) (kf+1) 24 [.i a,.i n] [.arr 3 os true 0]) (Qc Tp (plF F) (kf+1) 24 [.i a,.i n] [.arr 3 os true 0,.arr 3 [.agg [.i 0,.i 0,.i 0]] true 0]) [.arr 3 os true 0] [.arr 3 os true 0,.arr 3 [.agg [.i 0,.i 0,.i 0]] true 0]&&((same (.i b) (.i b)&&Qm ([.arr 3 os true 0]:Heap) [.arr 3 os true 0]&&Qm ([.arr 3 os true 0,.arr 3 [.agg [.i 0,.i 0,.i 0]] true 0]:Heap) [.arr 3 os true 0,.arr 3 [.agg [.i 0,.i 0,.i 0]] true 0])&&(WT (Qc Tp (plF F) (kf+1) 24 [.i b,.i n] [.arr 3 os true 0]) (Qc Tp (plF F) (kf+1) 24 [.i b,.i n] [.arr 3 os true 0]) [.arr 3 os true 0] [.arr 3 os true 0]&&(WT (Qc Tp (plF F) (kf+1) 24 [.i b,.i n] [.arr 3 os true 0]) (Qc Tp (plF F) (kf+1) 24 [.i b,.i n] [.arr 3 os true 0,.arr 3 [.agg [.i 0,.i 0,.i 0]] true 0]) [.arr 3 os true 0] [.arr 3 os true 0,.arr 3 [.agg [.i 0,.i 0,.i 0]] true 0]&&((same (.i w) (.i w)&&Qm ([.arr 3 os true 0]:Heap) [.arr 3 os true 0]&&Qm ([.arr 3 os true 0,.arr 3 [.agg [.i 0,.i 0,.i 0]] true 0]:Heap) [.arr 3 os true 0,.arr 3 [.agg [.i 0,.i 0,.i 0]] true 0])&&true)))))))=true) (g8:¬(w<0)) (g9:¬(1000<w)) (g10:x=y) (y9 y10:HV:=Ud): RU F 25 116 B25 (e25 ls n most q (.i (i:Int)) y9 y10) [.arr 3 os true 0] .normal (e25 ls n most q (.i (qA.wrap ((i:Int)+1))) (.q 1) y10) [.arr 3 os true 0,.arr 3 [.agg [.i x,.i y,.i w]] true 0] :=
 hx 0 60 [jT 3 3 [.arr 3 os true 0] g0,jT 3 7 [.arr 3 os true 0] g1,jL gS5,jO 5 2 [.arr 3 os true 0] g2,jD 5 6 g3,jO 5 9 [.arr 3 os true 0] g4,jD 5 13 g5,jO 5 16 [.arr 3 os true 0] g6,jF 6 2 [.arr 3 os true 0,.arr 3 [.agg [.i x,.i y,.i w]] true 0] g8,jF 6 6 [.arr 3 os true 0,.arr 3 [.agg [.i x,.i y,.i w]] true 0] g9,jB 8 4 [.arr 3 os true 0,.arr 3 [.agg [.i x,.i y,.i w]] true 0] (congrArg not (decide_eq_true g10))]
theorem QoC (q:Nat) (os:List HV) (i:Nat) (a b w x y v:Int) (g0:(i:Int)<(ls.length:Int)) (g1:(i:Int)<most) (g2:IX 22 (.g ls) (.i (i:Int)) (.vptr (.agg [.i a,.i b,.i w]))) (g3:CM F 24 [.i a,.i n] [.arr 3 os true 0] (.i x) [.arr 3 os true 0]) (g4:IX 22 (.g ls) (.i (i:Int)) (.vptr (.agg [.i a,.i b,.i w]))) (g5:CM F 24 [.i b,.i n] [.arr 3 os true 0] (.i y) [.arr 3 os true 0]) (g6:IX 22 (.g ls) (.i (i:Int)) (.vptr (.agg [.i a,.i b,.i w]))) (gS5:∀kf,((same (.i a) (.i a)&&Qm ([.arr 3 os true 0]:Heap) [.arr 3 os true 0]&&Qm ([.arr 3 os true 0,.arr 3 [.agg [.i 0,.i 0,.i 0]] true 0]:Heap) [.arr 3 os true 0,.arr 3 [.agg [.i 0,.i 0,.i 0]] true 0])&&(WT (Qc Tp (plF F) (kf+1) 24 [.i a,.i n] [.arr 3 os true 0]) (Qc Tp (plF F) (kf+1) 24 [.i a,.i n] [.arr 3 os true 0]) [.arr 3 os true 0] [.arr 3 os true 0]&&(WT (Qc Tp (plF F) (kf+1) 24 [.i a,.i n] [.arr 3 os true 0]) (Qc Tp (plF F) (kf+1) 24 [.i a,.i n] [.arr 3 os true 0,.arr 3 [.agg [.i 0,.i 0,.i 0]] true 0]) [.arr 3 os true 0] [.arr 3 os true 0,.arr 3 [.agg [.i 0,.i 0,.i 0]] true 0]&&((same (.i b) (.i b)&&Qm ([.arr 3 os true 0]:Heap) [.arr 3 os true 0]&&Qm ([.arr 3 os true 0,.arr 3 [.agg [.i 0,.i 0,.i 0]] true 0]:Heap) [.arr 3 os true 0,.arr 3 [.agg [.i 0,.i 0,.i 0]] true 0])&&(WT (Qc Tp (plF F) (kf+1) 24 [.i b,.i n] [.arr 3 os true 0]) (Qc Tp (plF F) (kf+1) 24 [.i b,.i n] [.arr 3 os true 0]) [.arr 3 os true 0] [.arr 3 os true 0]&&(WT (Qc Tp (plF F) (kf+1) 24 [.i b,.i n] [.arr 3 os true 0]) (Qc Tp (plF F) (kf+1) 24 [.i b,.i n] [.arr 3 os true 0,.arr 3 [.agg [.i 0,.i 0,.i 0]] true 0]) [.arr 3 os true 0] [.arr 3 os true 0,.arr 3 [.agg [.i 0,.i 0,.i 0]] true 0]&&((same (.i w) (.i w)&&Qm ([.arr 3 os true 0]:Heap) [.arr 3 os true 0]&&Qm ([.arr 3 os true 0,.arr 3 [.agg [.i 0,.i 0,.i 0]] true 0]:Heap) [.arr 3 os true 0,.arr 3 [.agg [.i 0,.i 0,.i 0]] true 0])&&true)))))))=true) (g8:¬(w<0)) (g9:¬(1000<w)) (g10:¬(x=y)) (g11:Zu [.arr 3 os true 0,.arr 3 [.agg [.i x,.i y,.i w]] true 0] 3 24 (.sl 0 0 q none q 3) [.agg [.i x,.i y,.i w]]=some (.sl 0 0 (q+1) none (q+1) 3,[.arr 3 (os++[.agg [.i x,.i y,.i w]]) true 0,.arr 3 [.agg [.i x,.i y,.i w]] true 0])) (y9 y10:HV:=Ud): RU F 25 116 B25 (e25 ls n most q (.i (i:Int)) y9 y10) [.arr 3 os true 0] .normal (ZL (.g ls) (.i n) (.i most) (.imm .lit 3 []) (.sl 0 0 (q+1) none (q+1) 3) (.i (qA.wrap ((i:Int)+1))) (.q 1) y10) [.arr 3 (os++[.agg [.i x,.i y,.i w]]) true 0,.arr 3 [.agg [.i x,.i y,.i w]] true 0] :=
 hx 0 60 [jT 3 3 [.arr 3 os true 0] g0,jT 3 7 [.arr 3 os true 0] g1,jL gS5,jO 5 2 [.arr 3 os true 0] g2,jD 5 6 g3,jO 5 9 [.arr 3 os true 0] g4,jD 5 13 g5,jO 5 16 [.arr 3 os true 0] g6,jF 6 2 [.arr 3 os true 0,.arr 3 [.agg [.i x,.i y,.i w]] true 0] g8,jF 6 6 [.arr 3 os true 0,.arr 3 [.agg [.i x,.i y,.i w]] true 0] g9,jB 8 4 [.arr 3 os true 0,.arr 3 [.agg [.i x,.i y,.i w]] true 0] (congrArg not (decide_eq_false g10)),jR 9 3 g11]
theorem QoD (q:Nat) (os:List HV) (i:Nat) (a b w x y v:Int) (g0:(i:Int)<(ls.length:Int)) (g1:¬((i:Int)<most)) (y9 y10:HV:=Ud): RU F 25 116 B25 (e25 ls n most q (.i (i:Int)) y9 y10) [.arr 3 os true 0] (.exit 0) (e25 ls n most q (.i (i:Int)) y9 y10) [.arr 3 os true 0] :=
 hx 0 60 [jT 3 3 [.arr 3 os true 0] g0,jF 3 7 [.arr 3 os true 0] g1]
theorem QoE (q:Nat) (os:List HV) (i:Nat) (a b w x y v:Int) (g0:¬((i:Int)<(ls.length:Int))) (y9 y10:HV:=Ud): RU F 25 116 B25 (e25 ls n most q (.i (i:Int)) y9 y10) [.arr 3 os true 0] (.exit 0) (e25 ls n most q (.i (i:Int)) y9 y10) [.arr 3 os true 0] :=
 hx 0 60 [jF 3 3 [.arr 3 os true 0] g0]
theorem QoF (q:Nat) (os:List HV) (y8 y9 y10:HV:=Ud): RU F 25 60 B25 (e25 ls n most q y8 y9 y10) [.arr 3 os true 0] .normal (e25 ls n most q y8 y9 (.i 1)) [.arr 3 os true 0] :=
 hx 0 60 []
theorem QoG (q:Nat) (os:List HV) (i:Nat) (v:Int) (g0:(i:Int)<n) (g1:CM F 24 [.i (qA.wrap (7*(i:Int))),.i 12] [.arr 3 os true 0] (.i v) [.arr 3 os true 0]) (g2:Zu [.arr 3 os true 0] 3 24 (.sl 0 0 q none q 3) [.agg [.i (qA.wrap ((i:Int)-1)),.i (i:Int),.i v]]=some (.sl 0 0 (q+1) none (q+1) 3,[.arr 3 (os++[.agg [.i (qA.wrap ((i:Int)-1)),.i (i:Int),.i v]]) true 0])) (y8 y9:HV:=Ud): RU F 25 244 B25 (e25 ls n most q y8 y9 (.i (i:Int))) [.arr 3 os true 0] .normal (ZL (.g ls) (.i n) (.i most) (.imm .lit 3 []) (.sl 0 0 (q+1) none (q+1) 3) y8 y9 (.i (qA.wrap ((i:Int)+1)))) [.arr 3 (os++[.agg [.i (qA.wrap ((i:Int)-1)),.i (i:Int),.i v]]) true 0] :=
 hx 0 60 [jT 11 2 [.arr 3 os true 0] g0,jD 13 6 g1,jR 13 9 g2]
theorem QoH (q:Nat) (os:List HV) (i:Nat) (v:Int) (g0:¬((i:Int)<n)) (y8 y9:HV:=Ud): RU F 25 244 B25 (e25 ls n most q y8 y9 (.i (i:Int))) [.arr 3 os true 0] (.exit 2) (e25 ls n most q y8 y9 (.i (i:Int))) [.arr 3 os true 0] :=
 hx 0 60 [jF 11 2 [.arr 3 os true 0] g0]
theorem QoI (q:Nat) (os:List HV) (y8 y9 y10:HV:=Ud): RU F 25 31 B25 (e25 ls n most q y8 y9 y10) [.arr 3 os true 0] .ret (ZL (.g ls) (.i n) (.i most) (.sl 0 0 q none q 3) (.sl 0 0 q none q 3) y8 y9 y10) [.arr 3 os true 0] :=
 hx 0 60 []
end
end Go.Proofs.Ytiejmoglooaalaa
end
section
open Go Go.HL
namespace Go.Proofs.Ytiejmoglooaalaa
set_option linter.unusedSectionVars false
open Go.Proofs.Try renaming prog → Tp
open Go.HL.HV renaming undef → Ud
def Gc (w:Int):Int:=if w<0∨1000<w then QS w 1001 else w
def Vc (n:Int) (s:St):St:=(QS s.1 n,QS s.2.1 n,Gc s.2.2)
def Wx (n:Int) (l:List St):List St:=(l.map (Vc n)).filter fun s=>decide (s.1≠s.2.1)
def Wm (i:Nat):List St:=(qO i).map fun (k:Nat)=>((k:Int),(k:Int)+1,QS (7*((k:Int)+1)) 12)
def Xi (n:Int) (l:List St) (most:Int):List St:=Wx n (l.take most.toNat)++Wm (n.toNat-1)
def Qfe:List HV→Option HV:=f3 kS kI kI fun l n most=>if (1≤n∧n≤100)∧0≤most∧most≤100 then some (.own 3 ((Xi n l most).map Qa)) else none
theorem Qc6 (n:Int) {l:List St} {i:Nat} (hi:i<l.length):Wx n (l.take (i+1))=Wx n (l.take i)++if (Vc n (l.getD i (0,0,0))).1≠(Vc n (l.getD i (0,0,0))).2.1 then [Vc n (l.getD i (0,0,0))] else []:=by
 have e:l.take (i+1)=l.take i++[l.getD i (0,0,0)]:=by
  rw [List.take_succ_eq_append_getElem hi,QB hi]
 rw [e,Wx,qX,qS,Wx]
 congr 1
 by_cases c:(Vc n (l.getD i (0,0,0))).1≠(Vc n (l.getD i (0,0,0))).2.1
 ·rw [if_pos c]
  exact qN (decide_eq_true c)
 ·rw [if_neg c]
  exact qM (by simpa using c)
theorem DL (n:Int) (l:List St):(Wx n l).length≤l.length:=by
 have:=jE (fun s:St=>decide (s.1≠s.2.1)) (l.map (Vc n))
 rw [qC] at this
 exact this
theorem XQ (i:Nat):Wm (i+1)=Wm i++[((i:Int),(i:Int)+1,QS (7*((i:Int)+1)) 12)]:=by rw [Wm,List.range_succ,qX];rfl
theorem YL (i:Nat):(Wm i).length=i:=by rw [Wm,qC,List.length_range]
def Jc:FuncId→Option (List HV→Option HV):=fun g=>if g==24 then some SK else none
theorem Qhq (n:Nat):Qn Tp (Qc Tp (plF Jc) n):=Qy _ (fun g f h=>by
 unfold Jc at h
 split at h
 ·rename_i hg;cases h;rw [eq_of_beq hg];exact QaJ
 ·cases h) n
theorem YM {F:FuncId→Option (List HV→Option HV)} (h24:F 24=some SK) (a:Int) {n:Int} (hn:0<n∧n<9223372036854775808) (H:Heap):∀k,Qc Tp (plF F) (k+1) 24 [.int .i64 a,.int .i64 n] H=some (.int .i64 (QS a n),H) :=
 at2 (pol':=plF F) (g:=24) (c1:=kI) (c2:=kI) (f:=fun a n=>if 0<n∧n<9223372036854775808 then some (.int .i64 (QS a n)) else none) h24 (ShI _ a) (ShI _ n) (if_pos hn)
theorem QsX:Try.f25.results.toList=[.tmp 6]:=by kernel_rfl
theorem Uz {H X:Heap} {o:List St} (hl:o.length≤900) (s:St):Zu ([bS o]++X) 3 24 (.sl 0 0 o.length none o.length 3) [Qa s]=some (.sl 0 0 (o.length+1) none (o.length+1) 3,[bS (o++[s])]++X):=by
 have:=Qgv (H:=[bS o]++X) (b:=0) (o:=o) (xs:=[s]) rfl (by simp;omega) (by simp)
 rw [qD,qG] at this
 exact this
theorem Xe {F:FuncId→Option (List HV→Option HV)} (O:List St) {a b n x y:Int} {kf:Nat} (e1:∀H,Qc Tp (plF F) (kf+1) 24 [.int .i64 a,.int .i64 n] H=some (.int .i64 x,H)) (e2:∀H,Qc Tp (plF F) (kf+1) 24 [.int .i64 b,.int .i64 n] H=some (.int .i64 y,H)) (w:Int) :
  ((same (.int .i64 a) (.int .i64 a)&&Qm ([.arr 3 (O.map Qa) true 0]:Heap) [.arr 3 (O.map Qa) true 0]&&Qm ([.arr 3 (O.map Qa) true 0,.arr 3 [.agg [.int .i64 0,.int .i64 0,.int .i64 0]] true 0]:Heap) [.arr 3 (O.map Qa) true 0,.arr 3 [.agg [.int .i64 0,.int .i64 0,.int .i64 0]] true 0])&&(WT (Qc Tp (plF F) (kf+1) 24 [.int .i64 a,.int .i64 n] [.arr 3 (O.map Qa) true 0]) (Qc Tp (plF F) (kf+1) 24 [.int .i64 a,.int .i64 n] [.arr 3 (O.map Qa) true 0]) [.arr 3 (O.map Qa) true 0] [.arr 3 (O.map Qa) true 0]&&(WT (Qc Tp (plF F) (kf+1) 24 [.int .i64 a,.int .i64 n] [.arr 3 (O.map Qa) true 0]) (Qc Tp (plF F) (kf+1) 24 [.int .i64 a,.int .i64 n] [.arr 3 (O.map Qa) true 0,.arr 3 [.agg [.int .i64 0,.int .i64 0,.int .i64 0]] true 0]) [.arr 3 (O.map Qa) true 0] [.arr 3 (O.map Qa) true 0,.arr 3 [.agg [.int .i64 0,.int .i64 0,.int .i64 0]] true 0]&&((same (.int .i64 b) (.int .i64 b)&&Qm ([.arr 3 (O.map Qa) true 0]:Heap) [.arr 3 (O.map Qa) true 0]&&Qm ([.arr 3 (O.map Qa) true 0,.arr 3 [.agg [.int .i64 0,.int .i64 0,.int .i64 0]] true 0]:Heap) [.arr 3 (O.map Qa) true 0,.arr 3 [.agg [.int .i64 0,.int .i64 0,.int .i64 0]] true 0])&&(WT (Qc Tp (plF F) (kf+1) 24 [.int .i64 b,.int .i64 n] [.arr 3 (O.map Qa) true 0]) (Qc Tp (plF F) (kf+1) 24 [.int .i64 b,.int .i64 n] [.arr 3 (O.map Qa) true 0]) [.arr 3 (O.map Qa) true 0] [.arr 3 (O.map Qa) true 0]&&(WT (Qc Tp (plF F) (kf+1) 24 [.int .i64 b,.int .i64 n] [.arr 3 (O.map Qa) true 0]) (Qc Tp (plF F) (kf+1) 24 [.int .i64 b,.int .i64 n] [.arr 3 (O.map Qa) true 0,.arr 3 [.agg [.int .i64 0,.int .i64 0,.int .i64 0]] true 0]) [.arr 3 (O.map Qa) true 0] [.arr 3 (O.map Qa) true 0,.arr 3 [.agg [.int .i64 0,.int .i64 0,.int .i64 0]] true 0]&&((same (.int .i64 w) (.int .i64 w)&&Qm ([.arr 3 (O.map Qa) true 0]:Heap) [.arr 3 (O.map Qa) true 0]&&Qm ([.arr 3 (O.map Qa) true 0,.arr 3 [.agg [.int .i64 0,.int .i64 0,.int .i64 0]] true 0]:Heap) [.arr 3 (O.map Qa) true 0,.arr 3 [.agg [.int .i64 0,.int .i64 0,.int .i64 0]] true 0])&&true)))))))=true:=by
 simp only [e1,e2,WT]
 simp [same,Qm,sameL,WU Uq]
theorem Qa2 {l:List St} {n most:Int} (hn:1≤n∧n≤100) (hm:most≤100) {i:Nat} (hi:i<l.length) (hi2:(i:Int)<most) :
  ∃B s,RT (plF Jc) 25 (sn 116 B25) ((ZL (.g (l.map Qa)) (.i n) (.i most) (.imm .lit 3 []) (.sl 0 0 (Wx n (l.take (i))).length none (Wx n (l.take (i))).length 3) (.i (i:Int)) Ud Ud)) [bS (Wx n (l.take (i)))] .normal ((ZL (.g (l.map Qa)) (.i n) (.i most) (.imm .lit 3 []) (.sl 0 0 (Wx n (l.take (i+1))).length none (Wx n (l.take (i+1))).length 3) (.i ((i+1:Nat):Int)) (.q 1) Ud)) ([bS (Wx n (l.take (i+1)))]++[B])∧B=bT s:=by
 have hgs:=gs hi
 have hlen:=DL n (l.take i)
 rw [qF] at hlen
 have hsn:=Qc6 n hi
 generalize l.getD i (0,0,0)=s at *
 obtain ⟨a,b,w⟩:=s
 have lm:((l.map Qa).length:Int)=(l.length:Int):=by rw [qC]
 have m1:=fun H=>YM (F:=Jc) (by kernel_rfl) a (n:=n) (by omega) H
 have m2:=fun H=>YM (F:=Jc) (by kernel_rfl) b (n:=n) (by omega) H
 have m3:=fun H=>YM (F:=Jc) (by kernel_rfl) w (n:=1001) (by omega) H
 generalize hO:Wx n (l.take i)=O at *
 have hw:qA.wrap ((i:Int)+1)=((i+1:Nat):Int):=Qi (by omega)
 refine ⟨bT (Vc n (a,b,w)),Vc n (a,b,w),?_,rfl⟩
 rw [hsn]
 by_cases c:QS a n=QS b n
 ·rw [if_neg (by show ¬(QS a n≠QS b n);simpa using c),qH]
  by_cases c1:w<0
  ·have s:=Qox (F:=Jc) (l.map Qa) n most O.length (O.map Qa) i a b w (QS a n) (QS b n) (QS w 1001) (by omega) hi2 hgs (m1 _) hgs (m2 _) hgs (fun kf=>Xe O (fun H=>m1 H kf) (fun H=>m2 H kf) w) c1 (m3 _) c
   rw [hw] at s
   rw [Vc,Gc,if_pos (.inl c1)]
   exact s
  ·by_cases c2:1000<w
   ·have s:=Qoz (F:=Jc) (l.map Qa) n most O.length (O.map Qa) i a b w (QS a n) (QS b n) (QS w 1001) (by omega) hi2 hgs (m1 _) hgs (m2 _) hgs (fun kf=>Xe O (fun H=>m1 H kf) (fun H=>m2 H kf) w) c1 c2 (m3 _) c
    rw [hw] at s
    rw [Vc,Gc,if_pos (.inr c2)]
    exact s
   ·have s:=QoB (F:=Jc) (l.map Qa) n most O.length (O.map Qa) i a b w (QS a n) (QS b n) 0 (by omega) hi2 hgs (m1 _) hgs (m2 _) hgs (fun kf=>Xe O (fun H=>m1 H kf) (fun H=>m2 H kf) w) c1 c2 c
    rw [hw] at s
    rw [Vc,Gc,if_neg (fun h=>h.elim c1 c2)]
    exact s
 ·rw [if_pos (by show QS a n≠QS b n;exact c)]
  have hl2:(O++[Vc n (a,b,w)]).length=O.length+1:=by simp
  have eB:∀s,bS (O++[s])=.arr 3 (O.map Qa++[Qa s]) true 0:=fun s=>by rw [bS,qX];rfl
  rw [hl2]
  by_cases c1:w<0
  ·have ap:=Uz (H:=[]) (X:=[bT (QS a n,QS b n,QS w 1001)]) (o:=O) (by omega) (QS a n,QS b n,QS w 1001)
   have e:Vc n (a,b,w)=(QS a n,QS b n,QS w 1001):=by rw [Vc,Gc,if_pos (.inl c1)]
   rw [e]
   rw [eB] at ap ⊢
   have s:=Qoy (F:=Jc) (l.map Qa) n most O.length (O.map Qa) i a b w (QS a n) (QS b n) (QS w 1001) (by omega) hi2 hgs (m1 _) hgs (m2 _) hgs (fun kf=>Xe O (fun H=>m1 H kf) (fun H=>m2 H kf) w) c1 (m3 _) c ap
   rw [hw] at s
   exact s
  ·by_cases c2:1000<w
   ·have ap:=Uz (H:=[]) (X:=[bT (QS a n,QS b n,QS w 1001)]) (o:=O) (by omega) (QS a n,QS b n,QS w 1001)
    have e:Vc n (a,b,w)=(QS a n,QS b n,QS w 1001):=by rw [Vc,Gc,if_pos (.inr c2)]
    rw [e]
    rw [eB] at ap ⊢
    have s:=QoA (F:=Jc) (l.map Qa) n most O.length (O.map Qa) i a b w (QS a n) (QS b n) (QS w 1001) (by omega) hi2 hgs (m1 _) hgs (m2 _) hgs (fun kf=>Xe O (fun H=>m1 H kf) (fun H=>m2 H kf) w) c1 c2 (m3 _) c ap
    rw [hw] at s
    exact s
   ·have ap:=Uz (H:=[]) (X:=[bT (QS a n,QS b n,w)]) (o:=O) (by omega) (QS a n,QS b n,w)
    have e:Vc n (a,b,w)=(QS a n,QS b n,w):=by rw [Vc,Gc,if_neg (fun h=>h.elim c1 c2)]
    rw [e]
    rw [eB] at ap ⊢
    have s:=QoC (F:=Jc) (l.map Qa) n most O.length (O.map Qa) i a b w (QS a n) (QS b n) 0 (by omega) hi2 hgs (m1 _) hgs (m2 _) hgs (fun kf=>Xe O (fun H=>m1 H kf) (fun H=>m2 H kf) w) c1 c2 c ap
    rw [hw] at s
    exact s
theorem Qhr:QP Tp 25 Qfe:=by
 refine Qp (pol:=plF Jc) (fn:=Try.f25) (cd:=B25) Qk Qhq (by kernel_rfl) (by kernel_rfl) (Zm Jc _ _ (by kernel_rfl)) (by kernel_rfl) ?_
 intro args res h
 obtain ⟨l,n,most,rfl,hq⟩:=Kp h
 split at hq
 case isFalse=>cases hq
 rename_i hc
 obtain ⟨hn,hm0,hm⟩:=hc
 cases hq
 have lm:((l.map Qa).length:Int)=(l.length:Int):=by rw [qC]
 have a:=Qou (F:=Jc) (l.map Qa) n most
 have b:=Qov (F:=Jc) (l.map Qa) n most
 have c:=Qow (F:=Jc) (l.map Qa) n most 0 []
 have hg:∀i,i≤min l.length most.toNat→(Wx n (l.take i)).length≤100:=fun i hi=>by
  have:=DL n (l.take i)
  rw [qF] at this
  omega
 have out:∀i,i=min l.length most.toNat→RT (plF Jc) 25 (sn 116 B25) ((ZL (.g (l.map Qa)) (.i n) (.i most) (.imm .lit 3 []) (.sl 0 0 (Wx n (l.take (i))).length none (Wx n (l.take (i))).length 3) (.i (i:Int)) Ud Ud)) [bS (Wx n (l.take (i)))] (.exit 0) ((ZL (.g (l.map Qa)) (.i n) (.i most) (.imm .lit 3 []) (.sl 0 0 (Wx n (l.take (i))).length none (Wx n (l.take (i))).length 3) (.i (i:Int)) Ud Ud)) [bS (Wx n (l.take (i)))]:=fun i hi=>by
  by_cases c1:(i:Int)<(l.length:Int)
  ·exact QoD (F:=Jc) (l.map Qa) n most (Wx n (l.take i)).length ((Wx n (l.take i)).map Qa) i 0 0 0 0 0 0 (by omega) (by omega)
  ·exact QoE (F:=Jc) (l.map Qa) n most (Wx n (l.take i)).length ((Wx n (l.take i)).map Qa) i 0 0 0 0 0 0 (by omega)
 obtain ⟨x,E',H',r,rfl,rfl,rfl⟩:=Kq (pol':=plF Jc) (f:=25) (b:=sn 116 B25) (c:=sn 58 B25) (I:=fun i e H=>e=(ZL (.g (l.map Qa)) (.i n) (.i most) (.imm .lit 3 []) (.sl 0 0 (Wx n (l.take (i))).length none (Wx n (l.take (i))).length 3) (.i (i:Int)) Ud Ud)∧H=[bS (Wx n (l.take (i)))])
  (Q:=fun x E' H'=>x=.exit 0∧E'=(ZL (.g (l.map Qa)) (.i n) (.i most) (.imm .lit 3 []) (.sl 0 0 (Wx n (l.take (min l.length most.toNat))).length none (Wx n (l.take (min l.length most.toNat))).length 3) (.i ((min l.length most.toNat:Nat):Int)) Ud Ud)∧H'=[bS (Wx n (l.take (min l.length most.toNat)))]) (min l.length most.toNat)
  (by
   rintro i hi e H ⟨rfl,rfl⟩
   obtain ⟨B,s,h1,rfl⟩:=Qa2 (l:=l) (n:=n) (most:=most) hn hm (i:=i) (by omega) (by omega)
   refine ⟨_,_,h1,by kernel_rfl,?_⟩
   exact K5 (H:=[bS (Wx n (l.take (i+1)))]) (X:=[bT s]) (by show max 0 (max 0 0)≤1;decide) (by show max 0 (max 0 (max 0 (max 0 (max 1 (max 0 (max 0 (max 0 0)))))))≤1;decide))
  (by
   rintro e H ⟨rfl,rfl⟩
   exact ⟨_,_,_,out _ rfl,by simp,rfl,rfl,rfl⟩)
  (by kernel_rfl) (by rintro i e H ⟨rfl,_⟩;kernel_rfl) (e:=(ZL (.g (l.map Qa)) (.i n) (.i most) (.imm .lit 3 []) (.sl 0 0 (Wx n (l.take (0))).length none (Wx n (l.take (0))).length 3) (.i (0:Int)) Ud Ud)) (H:=[bS (Wx n (l.take (0)))]) ⟨rfl,rfl⟩
 have hO:=hg _ (qB _)
 have eO:Wx n (l.take (min l.length most.toNat))=Wx n (l.take most.toNat):=by
  congr 1
  rw [List.take_eq_take_iff];omega
 rw [eO] at r hO
 have d:=QoF (F:=Jc) (l.map Qa) n most (Wx n (l.take most.toNat)).length ((Wx n (l.take most.toNat)).map Qa) (y8:=.i ((min l.length most.toNat:Nat):Int))
 unfold Xi
 generalize Wx n (l.take most.toNat)=O at *
 have hPl:∀i,(O++Wm i).length=O.length+i:=fun i=>by rw [qD,YL]
 have m12:=fun a H=>YM (F:=Jc) (by kernel_rfl) a (n:=12) (by omega) H
 have r2:=Wk (pol':=plF Jc) (f:=25) (E:=fun i=>(ZL (.g (l.map Qa)) (.i n) (.i most) (.imm .lit 3 []) (.sl 0 0 (O++Wm (i)).length none (O++Wm (i)).length 3) Ud Ud (.i ((i+1:Nat):Int)))) (Hs:=fun i=>[bS (O++Wm (i))]) (n.toNat-1) (E0:=fun i=>(ZL (.g (l.map Qa)) (.i n) (.i most) (.imm .lit 3 []) (.sl 0 0 (O++Wm (i+1)).length none (O++Wm (i+1)).length 3) Ud Ud (.i ((i+1+1:Nat):Int)))) (H1:=fun i=>[bS (O++Wm (i+1))])
  (fun i hi=>by
   have ap:=Uz (H:=[]) (X:=[]) (o:=O++Wm i) (by rw [hPl];omega) ((i:Int),(i:Int)+1,QS (7*((i:Int)+1)) 12)
   rw [qH,qH,jH,← XQ] at ap
   have w1:qA.wrap (7*((i+1:Nat):Int))=7*((i:Int)+1):=by rw [Qr (by omega) (by omega)];omega
   have w2:qA.wrap (((i+1:Nat):Int)-1)=(i:Int):=by rw [Qr (by omega) (by omega)];omega
   have w3:(((i+1:Nat):Int))=(i:Int)+1:=by omega
   have s:=QoG (F:=Jc) (l.map Qa) n most (O++Wm i).length ((O++Wm i).map Qa) (i+1) (QS (7*((i:Int)+1)) 12) (by omega) (by rw [w1];exact m12 _ _) (by
    rw [w2,w3]
    have e:(O++Wm i).map Qa++[.agg [.int .i64 (i:Int),.int .i64 ((i:Int)+1),.int .i64 (QS (7*((i:Int)+1)) 12)]]=(O++Wm (i+1)).map Qa:=by
     rw [XQ,← jH,qX (l₁:=O++Wm i)];rfl
    rw [e]
    exact ap)
   rw [Qi (by omega),w2] at s
   have e:(O++Wm i).map Qa++[.agg [.int .i64 (i:Int),.int .i64 ((i+1:Nat):Int),.int .i64 (QS (7*((i:Int)+1)) 12)]]=(O++Wm (i+1)).map Qa:=by
    rw [XQ,← jH,qX (l₁:=O++Wm i)];rfl
   rw [e] at s
   have e2:(O++Wm (i+1)).length=(O++Wm i).length+1:=by rw [hPl,hPl];rfl
   rw [e2]
   exact s) (fun i _=>by kernel_rfl) (fun i _=>QH _ rfl) (QoH (F:=Jc) (l.map Qa) n most (O++Wm (n.toNat-1)).length ((O++Wm (n.toNat-1)).map Qa) (n.toNat-1+1) 0 (by omega)) (by simp) (c:=sn 122 B25) (by kernel_rfl) (fun i _=>by kernel_rfl)
 have e0:O++Wm 0=O:=qH _
 simp only [e0] at r2
 have z:=QoI (F:=Jc) (l.map Qa) n most (O++Wm (n.toNat-1)).length ((O++Wm (n.toNat-1)).map Qa) (y10:=.i ((n.toNat-1+1:Nat):Int))
 refine ⟨_,_,_,.sl 0 0 (O++Wm (n.toNat-1)).length none (O++Wm (n.toNat-1)).length 3,sq (a) (sq (b) (sq (sq (c) (bke (c:=sn 29 B25) (lpi (e0:=(ZL (.g (l.map Qa)) (.i n) (.i most) (.imm .lit 3 []) (.sl 0 0 (Wx n (l.take (0))).length none (Wx n (l.take (0))).length 3) (.i (0:Int)) Ud Ud)) r (b:=sn 116 B25))) (c:=sn 14 B25)) (sq (sq (d) (bke (c:=sn 61 B25) (lpi (e0:=(ZL (.g (l.map Qa)) (.i n) (.i most) (.imm .lit 3 []) (.sl 0 0 (O).length none (O).length 3) (.i ((min l.length most.toNat:Nat):Int)) Ud (.i ((0+1:Nat):Int)))) r2 (b:=sn 244 B25))) (c:=sn 30 B25)) (z) (c:=sn 15 B25)) (c:=sn 7 B25)) (c:=sn 3 B25)) (c:=B25),by simp,by simp only [Qd,QsX];rfl,?_⟩
 exact Qgx (b:=0) rfl rfl
theorem J1 (a:Int) {n:Int} (h:0<n) (h2:n<4611686018427387904):0≤QS a n∧QS a n<n:=by
 exact SG a n h (by omega)
theorem QsY:∀m:Nat,1≤m∧m≤16→((qO 16).filter fun (v:Nat)=>decide (v=0∨(m:Int)≤(v:Int))).length=17-m:=by
 have:∀m:Fin 17,1≤m.val→((qO 16).filter fun (v:Nat)=>decide (v=0∨(m.val:Int)≤(v:Int))).length=17-m.val:=by decide +kernel
 exact fun m hm=>this ⟨m,by omega⟩ hm.1
section
variable {n:Int} {l:List St} (hnet:Ww n l=true)
include hnet
theorem Qhs {t:List Int} (ht:∀k∈t,0≤k∧k<(l.length:Int)):lb l t 0=0:=by
 have:=Zf (QA hnet) ht (v:=0) (by omega)
 omega
theorem Qff {t:List Int} (ht:∀k∈t,0≤k∧k<(l.length:Int)) (h:∀v,0≤v→v<n→Cn l t 0 v):((tkT l t).length:Int)=n-1:=by
 have he:=QA hnet
 obtain ⟨⟨n1,n2⟩,_⟩:=QE hnet
 have h1:rt (Qz l t)≤((qO 16).filter fun (v:Nat)=>decide (v=0∨n≤(v:Int))).length:=by
  unfold rt
  rw [← qZ,← qZ]
  refine zE fun v hv h3=>?_
  have hv:=List.mem_range.1 hv
  have h3:lb l t (v:Int)=(v:Int):=of_decide_eq_true h3
  refine decide_eq_true ?_
  by_cases c:n≤(v:Int)
  ·exact .inr c
  ·left
   have h4:=VL he ht (h (v:Int) (by omega) (by omega))
   rw [Qhs hnet ht] at h4
   omega
 have h2:=QsY n.toNat (by omega)
 rw [show ((n.toNat:Nat):Int)=n by omega] at h2
 have h3:=JF he ht
 have h4:=Cz hnet ht
 omega
theorem Qfg (h:∀v,0≤v→v<n→Cn l (Qg l.length) 0 v):Wl n l=true:=by
 have h1:=Qff hnet (t:=Qh l) (fun k hk=>ordT_mem.1 hk) fun v h0 h1=>(h v h0 h1).mono fun k hk=>ordT_mem.2 (startT_mem.1 hk)
 exact decide_eq_true h1
theorem VO {i j:Nat} (hij:i≤j) (hj:j<(Qh l).length):wOf l ((Qh l).getD i 0)≤wOf l ((Qh l).getD j 0):=by
 rcases Nat.lt_or_eq_of_le hij with c | c
 ·have hs:(Qh l).Pairwise (ltK l):=Ki l l.length
  have:=List.pairwise_iff_getElem.1 hs i j (by omega) hj c
  rw [QB (by omega),QB hj]
  unfold ltK at this
  omega
 ·rw [c];exact Int.le_refl _
end
theorem Qht {n:Int} {l:List St} {s:St} (h:s∈Wx n l) (hn:0<n) (hn2:n≤100):(0≤s.1∧s.1<n)∧(0≤s.2.1∧s.2.1<n)∧s.1≠s.2.1∧0≤s.2.2∧s.2.2≤1000:=by
 obtain ⟨h1,h2⟩:=List.mem_filter.1 h
 obtain ⟨r,_,rfl⟩:=List.mem_map.1 h1
 have h2:=of_decide_eq_true h2
 have a:=J1 r.1 hn (by omega)
 have b:=J1 r.2.1 hn (by omega)
 have c:=J1 r.2.2 (n:=1001) (by omega) (by omega)
 refine ⟨a,b,h2,?_⟩
 show 0≤Gc r.2.2∧Gc r.2.2≤1000
 unfold Gc
 split <;> omega
theorem Qfh {m:Nat} {s:St} (h:s∈Wm m):∃k:Nat,k<m∧s=((k:Int),(k:Int)+1,QS (7*((k:Int)+1)) 12):=by
 obtain ⟨k,hk,rfl⟩:=List.mem_map.1 h
 exact ⟨k,List.mem_range.1 hk,rfl⟩
theorem Qb4 (n:Int) (l:List St) (most:Int):(Xi n l most).length≤most.toNat+(n.toNat-1):=by
 have:=DL n (l.take most.toNat)
 rw [qF] at this
 rw [Xi,qD,YL]
 omega
theorem Qb5 {n:Int} (hn:1≤n∧n≤16) (l:List St) {most:Int} (hm:0≤most∧most≤44):Ww n (Xi n l most)=true:=by
 have hl:=Qb4 n l most
 simp only [Ww,jG,jQ,decide_eq_true_eq,stB]
 refine ⟨fun s hs=>?_,hn,by omega⟩
 rcases List.mem_append.1 hs with h | h
 ·have:=Qht h (by omega) (by omega)
  omega
 ·obtain ⟨k,hk,rfl⟩:=Qfh h
  have:=J1 (7*((k:Int)+1)) (n:=12) (by omega) (by omega)
  simp only
  omega
theorem Qfi {n:Int} {l:List St} {most:Int} {v:Nat} (hv:v<n.toNat-1):(Xi n l most).getD ((Wx n (l.take most.toNat)).length+v) (0,0,0)=((v:Int),(v:Int)+1,QS (7*((v:Int)+1)) 12):=by
 rw [Xi,qJ,qR (by omega),show (Wx n (l.take most.toNat)).length+v-(Wx n (l.take most.toNat)).length=v by omega]
 simp [Wm,hv]
theorem Qfj {n:Int} (hn:1≤n∧n≤16) (l:List St) {most:Int} (hm:0≤most∧most≤44):Wl n (Xi n l most)=true:=by
 have hnet:=Qb5 hn l hm
 refine Qfg hnet fun v h0 h1=>?_
 have key:∀k:Nat,(k:Int)<n→Cn (Xi n l most) (Qg (Xi n l most).length) 0 (k:Int):=by
  intro k
  induction k with
  | zero=>intro _;exact .refl _
  | succ k ih =>
   intro hk
   refine .trans (ih (by omega)) ?_
   have hp:=Qfi (n:=n) (l:=l) (most:=most) (v:=k) (by omega)
   have hlen:(Xi n l most).length=(Wx n (l.take most.toNat)).length+(n.toNat-1):=by rw [Xi,qD,YL]
   have e:=Cn.edge (l:=Xi n l most) (t:=Qg (Xi n l most).length) (k:=(((Wx n (l.take most.toNat)).length+k:Nat):Int)) (startT_mem.2 (by omega))
   rw [sA,sB,qP,hp] at e
   exact e
 have:=key v.toNat (by omega)
 rwa [show ((v.toNat:Nat):Int)=v by omega] at this
end Go.Proofs.Ytiejmoglooaalaa
end
section
open Go Go.HL
namespace Go.Proofs.Ytiejmoglooaalaa
set_option maxRecDepth 100000
set_option linter.unusedSectionVars false
open Go.Proofs.Try renaming prog → Tp
open Go.HL.HV renaming undef → Ud
section
variable {F:FuncId→Option (List HV→Option HV)}
noncomputable def B35:Code:=Try.f35.body.getD .skip
abbrev Z3 (v0 v1 v2 v6 v7 v8 v9 v10 v12 v14 v29 v30 v31 v38 v39 v40:HV):Env:=[(0,v0),(1,v1),(2,v2),(6,v6),(7,v7),(8,v8),(9,v9),(10,v10),(12,v12),(14,v14),(29,v29),(30,v30),(31,v31),(38,v38),(39,v39),(40,v40)]
end
abbrev e35 (n:Int) (ls:List HV) (la:List HV) (u6 u7 u8 u9 u10 u11 u12 u13 u14 u15:HV):Env:=Z3 (.i n) (.g ls) (.a la) (.i 0) (.i 0) (.i 0) u6 u7 u8 u9 u10 u11 u12 u13 u14 u15
section
variable {F:FuncId→Option (List HV→Option HV)}
variable (N:Nat) (n:Int) (ls la:List HV)
include N n ls la
theorem QoJ:RU F 35 2 B35 [(0,.i n),(1,.g ls),(2,.a la)] [] .normal (e35 n ls la Ud Ud Ud Ud Ud Ud Ud Ud Ud Ud) [] :=
 hx N 60 []
end
section
variable {F:FuncId→Option (List HV→Option HV)}
variable (N:Nat) (n:Int) (ls la:List HV)
include N n ls la
theorem QoK {H0:Heap} {a0:HV} {H1:Heap} {H2:Heap} (g0:CN F N 39 [.i n,.g ls] [] (.tuple [.N n ls,.bool true]) H0) (g1:some (Q4 (.agg [.i 0,.imm .lit 0 []]) H0)=some (a0,H1)) (g2:ST H1 66 (a0) (.N n ls) H2) (y9 y10 y12 y14 y29 y30 y31 y38 y39 y40:HV:=Ud): RU F 35 6 B35 (e35 n ls la y9 y10 y12 y14 y29 y30 y31 y38 y39 y40) [] .normal (e35 n ls la a0 (.bool true) y12 y14 y29 y30 y31 y38 y39 y40) H2 :=
 hx N 60 [jC 1 2 g0,jR 1 6 g1,jS 1 7 g2]
theorem QoL {H0:Heap} {a0:HV} {H1:Heap} {H2:Heap} (g0:CN F N 39 [.i n,.g ls] [] (.tuple [.N n ls,.bool false]) H0) (g1:some (Q4 (.agg [.i 0,.imm .lit 0 []]) H0)=some (a0,H1)) (g2:ST H1 66 (a0) (.N n ls) H2) (y9 y10 y12 y14 y29 y30 y31 y38 y39 y40:HV:=Ud): RU F 35 6 B35 (e35 n ls la y9 y10 y12 y14 y29 y30 y31 y38 y39 y40) [] .normal (e35 n ls la a0 (.bool false) y12 y14 y29 y30 y31 y38 y39 y40) H2 :=
 hx N 60 [jC 1 2 g0,jR 1 6 g1,jS 1 7 g2]
theorem Qhu (H:Heap) {H0:Heap} (g0:LD H 66 (.q 0) (.N n ls)) (g1:CM F 58 [.N n ls,.a la] H (.bool true) H0) (y12 y14 y29 y30 y31 y38 y39 y40:HV:=Ud): RU F 35 14 B35 (e35 n ls la (.q 0) (.bool true) y12 y14 y29 y30 y31 y38 y39 y40) H .normal (e35 n ls la (.q 0) (.bool true) y12 y14 y29 y30 y31 y38 y39 y40) H0 :=
 hx N 60 [jO 2 3 H g0,jD 2 5 g1]
theorem Qhv (H:Heap) {H0:Heap} (g0:LD H 66 (.q 0) (.N n ls)) (g1:CM F 58 [.N n ls,.a la] H (.bool false) H0) (y12 y14 y29 y30 y31 y38 y39 y40:HV:=Ud): RU F 35 14 B35 (e35 n ls la (.q 0) (.bool true) y12 y14 y29 y30 y31 y38 y39 y40) H .ret (Z3 (.i n) (.g ls) (.a la) (.i 0) (.i 0) (.i 2) (.q 0) (.bool true) y12 y14 y29 y30 y31 y38 y39 y40) H0 :=
 hx N 60 [jO 2 3 H g0,jD 2 5 g1]
theorem Qhw (H:Heap) (y12 y14 y29 y30 y31 y38 y39 y40:HV:=Ud): RU F 35 14 B35 (e35 n ls la (.q 0) (.bool false) y12 y14 y29 y30 y31 y38 y39 y40) H .ret (Z3 (.i n) (.g ls) (.a la) (.i 0) (.i 0) (.i 2) (.q 0) (.bool false) y12 y14 y29 y30 y31 y38 y39 y40) H :=
 hx N 60 []
theorem QoM (H:Heap) (y10 y12 y14 y29 y30 y31 y38 y39 y40:HV:=Ud): RU F 35 60 B35 (e35 n ls la (.q 0) y10 y12 y14 y29 y30 y31 y38 y39 y40) H .normal (e35 n ls la (.q 0) y10 y12 y14 (.a la) (.i (la.length:Int)) (.i 0) y38 y39 y40) H :=
 hx N 60 []
theorem Qfk (H:Heap) (i:Nat) (g0:(i:Int)<(la.length:Int)) (y10 y12 y14 y38 y39 y40:HV:=Ud): RunsTo Tp (plF F) 35 (sn 488 B35) (e35 n ls la (.q 0) y10 y12 y14 (.a la) (.i (la.length:Int)) (.n i) y38 y39 y40) H .normal [0,1,2,6,7,8,9,10,12,14,29,30,31,38,39,40,32] [(0,.i n),(1,.g ls),(2,.a la),(6,.i 0),(7,.i 0),(8,.i 0),(9,.q 0),(10,y10),(12,y12),(14,y14),(29,.a la),(30,.i (la.length:Int)),(31,.n i),(38,y38),(39,y39),(40,y40),(32,.bool true)] H :=
 hx N 60 [jT 5 0 H g0]
theorem QoN (H:Heap) (i:Nat) (g0:¬((i:Int)<(la.length:Int))) (y10 y12 y14 y38 y39 y40:HV:=Ud): RunsTo Tp (plF F) 35 (sn 488 B35) (e35 n ls la (.q 0) y10 y12 y14 (.a la) (.i (la.length:Int)) (.n i) y38 y39 y40) H .normal [0,1,2,6,7,8,9,10,12,14,29,30,31,38,39,40,32] [(0,.i n),(1,.g ls),(2,.a la),(6,.i 0),(7,.i 0),(8,.i 0),(9,.q 0),(10,y10),(12,y12),(14,y14),(29,.a la),(30,.i (la.length:Int)),(31,.n i),(38,y38),(39,y39),(40,y40),(32,.bool false)] H :=
 hx N 60 [jF 5 0 H g0]
theorem Qb6 (H:Heap) (i:Nat) (y10 y12 y14 y38 y39 y40:HV:=Ud): RU F 35 978 B35 [(0,.i n),(1,.g ls),(2,.a la),(6,.i 0),(7,.i 0),(8,.i 0),(9,.q 0),(10,y10),(12,y12),(14,y14),(29,.a la),(30,.i (la.length:Int)),(31,.n i),(38,y38),(39,y39),(40,y40),(32,.bool true)] H .normal (e35 n ls la (.q 0) y10 y12 y14 (.a la) (.i (la.length:Int)) (.n i) y38 y39 y40) H :=
 hx N 60 []
theorem Qhx (H:Heap) (i:Nat) (y10 y12 y14 y38 y39 y40:HV:=Ud): RU F 35 978 B35 [(0,.i n),(1,.g ls),(2,.a la),(6,.i 0),(7,.i 0),(8,.i 0),(9,.q 0),(10,y10),(12,y12),(14,y14),(29,.a la),(30,.i (la.length:Int)),(31,.n i),(38,y38),(39,y39),(40,y40),(32,.bool false)] H (.exit 0) (e35 n ls la (.q 0) y10 y12 y14 (.a la) (.i (la.length:Int)) (.n i) y38 y39 y40) H :=
 hx N 60 []
theorem Qfl (H:Heap) (i:Nat) (x:Int) (g0:IX 24 (.a la) (.n i) (.vptr (.i x))) (y10 y12 y14 y38 y39 y40:HV:=Ud): RU F 35 7832 B35 (e35 n ls la (.q 0) y10 y12 y14 (.a la) (.i (la.length:Int)) (.n i) y38 y39 y40) H .normal (e35 n ls la (.q 0) y10 (.i x) y14 (.a la) (.i (la.length:Int)) (.n i) y38 y39 y40) H :=
 hx N 60 [jO 6 0 H g0]
theorem Qfm (H:Heap) (i ib c:Nat) (x:Int) {H0:Heap} (g0:LD H 66 (.q 0) (.N n ls)) (g1:CM F 59 [.N n ls,.a la,.i x] H (.s ib c) H0) (y10 y14 y38 y39 y40:HV:=Ud): RU F 35 15666 B35 (e35 n ls la (.q 0) y10 (.i x) y14 (.a la) (.i (la.length:Int)) (.n i) y38 y39 y40) H .normal (e35 n ls la (.q 0) y10 (.i x) y14 (.a la) (.i (la.length:Int)) (.n i) (.s ib c) (.n c) (.i 0)) H0 :=
 hx N 60 [jO 7 0 H g0,jD 7 3 g1]
theorem QoO (H:Heap) (i ib c j:Nat) (x y a b w a2 b2 w2:Int) (g0:(j:Int)<(c:Int)) (g1:IS 24 ib c j) (g2:LD H 3 (.ptr ib j 0 c) (.i y)) (g3:IX 22 (.g ls) (.i y) (.vptr (.agg [.i a,.i b,.i w]))) (g4:IX 22 (.g ls) (.i x) (.vptr (.agg [.i a2,.i b2,.i w2]))) (g5:w<w2) (y10 y14:HV:=Ud): RU F 35 62668 B35 (e35 n ls la (.q 0) y10 (.i x) y14 (.a la) (.i (la.length:Int)) (.n i) (.s ib c) (.n c) (.n j)) H .ret (Z3 (.i n) (.g ls) (.a la) (.i x) (.i y) (.i 0) (.q 0) y10 (.i x) (.i y) (.a la) (.i (la.length:Int)) (.n i) (.s ib c) (.n c) (.n j)) H :=
 hx N 60 [jT 8 0 H g0,jO 9 0 H g1,jO 9 1 H g2,jO 10 2 H g3,jO 10 7 H g4,jT 10 10 H g5]
theorem QoP (H:Heap) (i ib c j:Nat) (x y a b w a2 b2 w2:Int) (g0:(j:Int)<(c:Int)) (g1:IS 24 ib c j) (g2:LD H 3 (.ptr ib j 0 c) (.i y)) (g3:IX 22 (.g ls) (.i y) (.vptr (.agg [.i a,.i b,.i w]))) (g4:IX 22 (.g ls) (.i x) (.vptr (.agg [.i a2,.i b2,.i w2]))) (g5:¬(w<w2)) (y10 y14:HV:=Ud): RU F 35 62668 B35 (e35 n ls la (.q 0) y10 (.i x) y14 (.a la) (.i (la.length:Int)) (.n i) (.s ib c) (.n c) (.n j)) H .normal (e35 n ls la (.q 0) y10 (.i x) (.i y) (.a la) (.i (la.length:Int)) (.n i) (.s ib c) (.n c) (.i (qA.wrap ((j:Int)+1)))) H :=
 hx N 60 [jT 8 0 H g0,jO 9 0 H g1,jO 9 1 H g2,jO 10 2 H g3,jO 10 7 H g4,jF 10 10 H g5]
theorem QoQ (H:Heap) (i ib c j:Nat) (x y a b w a2 b2 w2:Int) (g0:¬((j:Int)<(c:Int))) (y10 y14:HV:=Ud): RU F 35 62668 B35 (e35 n ls la (.q 0) y10 (.i x) y14 (.a la) (.i (la.length:Int)) (.n i) (.s ib c) (.n c) (.n j)) H (.exit 2) (e35 n ls la (.q 0) y10 (.i x) y14 (.a la) (.i (la.length:Int)) (.n i) (.s ib c) (.n c) (.n j)) H :=
 hx N 60 [jF 8 0 H g0]
theorem QoR (H:Heap) (i:Nat) (y10 y12 y14 y38 y39 y40:HV:=Ud): RU F 35 1959 B35 (e35 n ls la (.q 0) y10 y12 y14 (.a la) (.i (la.length:Int)) (.n i) y38 y39 y40) H .normal (e35 n ls la (.q 0) y10 y12 y14 (.a la) (.i (la.length:Int)) (.i (qA.wrap ((i:Int)+1))) y38 y39 y40) H :=
 hx N 60 []
theorem QoS (H:Heap) (y10 y12 y14 y29 y30 y31 y38 y39 y40:HV:=Ud): RU F 35 31 B35 (e35 n ls la (.q 0) y10 y12 y14 y29 y30 y31 y38 y39 y40) H .ret (Z3 (.i n) (.g ls) (.a la) (.i (-1)) (.i (-1)) (.i 0) (.q 0) y10 y12 y14 y29 y30 y31 y38 y39 y40) H :=
 hx N 60 []
end
section
variable {F:FuncId→Option (List HV→Option HV)}
noncomputable def B58:Code:=Try.f58.body.getD .skip
abbrev DM (v0 v1 v2 v4 v5 v6 v8 v9 v10 v11:HV):Env:=[(0,v0),(1,v1),(2,v2),(4,v4),(5,v5),(6,v6),(8,v8),(9,v9),(10,v10),(11,v11)]
end
abbrev e58 (n:Int) (ls:List HV) (la:List HV) (u4 u5 u6 u7 u8 u9:HV):Env:=DM (.N n ls) (.a la) (.q 0) (.bool false) u4 u5 u6 u7 u8 u9
section
variable {F:FuncId→Option (List HV→Option HV)}
variable (N:Nat) (n:Int) (ls la:List HV)
include N n ls la
theorem QoT:RU F 58 2 B58 [(0,.N n ls),(1,.a la)] [] .normal (e58 n ls la Ud Ud Ud Ud Ud Ud) [.arr 2 [.N n ls] true 0] :=
 hx N 60 []
end
section
variable {F:FuncId→Option (List HV→Option HV)}
variable (N:Nat) (n:Int) (ls la:List HV)
include N n ls la
theorem QoU (H:Heap) (y5 y6 y8 y9 y10 y11:HV:=Ud): RU F 58 12 B58 (e58 n ls la y5 y6 y8 y9 y10 y11) H .normal (e58 n ls la y5 y6 y8 (.a la) (.i (la.length:Int)) (.i 0)) H :=
 hx N 60 []
theorem QoV (H:Heap) (i:Nat) (x z:Int) {H0:Heap} (g0:(i:Int)<(la.length:Int)) (g1:IX 24 (.a la) (.n i) (.vptr (.i x))) (g2:LD H 22 (.ptr 0 0 1 1) (.g ls)) (g3:CM F 52 [.i x,.i 0,.i (qA.wrap ((ls.length:Int)-1))] H (.bool true) H0) (g4:0<(i:Int)) (g5:IX 24 (.a la) (.i (qA.wrap ((i:Int)-1))) (.vptr (.i z))) (g6:x≤z) (y5 y6 y8:HV:=Ud): RU F 58 52 B58 (e58 n ls la y5 y6 y8 (.a la) (.i (la.length:Int)) (.n i)) H .ret (e58 n ls la (.n i) (.i x) y8 (.a la) (.i (la.length:Int)) (.n i)) H0 :=
 hx N 60 [jT 2 0 H g0,jO 3 1 H g1,jO 4 2 H g2,jD 4 5 g3,jT 4 9 H0 g4,jO 4 14 H0 g5,jT 4 17 H0 g6]
theorem QoW (H:Heap) (i:Nat) (x z:Int) {H0:Heap} (g0:(i:Int)<(la.length:Int)) (g1:IX 24 (.a la) (.n i) (.vptr (.i x))) (g2:LD H 22 (.ptr 0 0 1 1) (.g ls)) (g3:CM F 52 [.i x,.i 0,.i (qA.wrap ((ls.length:Int)-1))] H (.bool true) H0) (g4:0<(i:Int)) (g5:IX 24 (.a la) (.i (qA.wrap ((i:Int)-1))) (.vptr (.i z))) (g6:¬(x≤z)) (y5 y6 y8:HV:=Ud): RU F 58 52 B58 (e58 n ls la y5 y6 y8 (.a la) (.i (la.length:Int)) (.n i)) H .normal (e58 n ls la (.n i) (.i x) y8 (.a la) (.i (la.length:Int)) (.i (qA.wrap ((i:Int)+1)))) H0 :=
 hx N 60 [jT 2 0 H g0,jO 3 1 H g1,jO 4 2 H g2,jD 4 5 g3,jT 4 9 H0 g4,jO 4 14 H0 g5,jF 4 17 H0 g6]
theorem QoX (H:Heap) (i:Nat) (x z:Int) {H0:Heap} (g0:(i:Int)<(la.length:Int)) (g1:IX 24 (.a la) (.n i) (.vptr (.i x))) (g2:LD H 22 (.ptr 0 0 1 1) (.g ls)) (g3:CM F 52 [.i x,.i 0,.i (qA.wrap ((ls.length:Int)-1))] H (.bool true) H0) (g4:¬(0<(i:Int))) (y5 y6 y8:HV:=Ud): RU F 58 52 B58 (e58 n ls la y5 y6 y8 (.a la) (.i (la.length:Int)) (.n i)) H .normal (e58 n ls la (.n i) (.i x) y8 (.a la) (.i (la.length:Int)) (.i (qA.wrap ((i:Int)+1)))) H0 :=
 hx N 60 [jT 2 0 H g0,jO 3 1 H g1,jO 4 2 H g2,jD 4 5 g3,jF 4 9 H0 g4]
theorem QoY (H:Heap) (i:Nat) (x z:Int) {H0:Heap} (g0:(i:Int)<(la.length:Int)) (g1:IX 24 (.a la) (.n i) (.vptr (.i x))) (g2:LD H 22 (.ptr 0 0 1 1) (.g ls)) (g3:CM F 52 [.i x,.i 0,.i (qA.wrap ((ls.length:Int)-1))] H (.bool false) H0) (y5 y6 y8:HV:=Ud): RU F 58 52 B58 (e58 n ls la y5 y6 y8 (.a la) (.i (la.length:Int)) (.n i)) H .ret (e58 n ls la (.n i) (.i x) y8 (.a la) (.i (la.length:Int)) (.n i)) H0 :=
 hx N 60 [jT 2 0 H g0,jO 3 1 H g1,jO 4 2 H g2,jD 4 5 g3]
theorem QoZ (H:Heap) (i:Nat) (x z:Int) (g0:¬((i:Int)<(la.length:Int))) (y5 y6 y8:HV:=Ud): RU F 58 52 B58 (e58 n ls la y5 y6 y8 (.a la) (.i (la.length:Int)) (.n i)) H (.exit 0) (e58 n ls la y5 y6 y8 (.a la) (.i (la.length:Int)) (.n i)) H :=
 hx N 60 [jF 2 0 H g0]
theorem Qo0 (H:Heap) (pb c:Nat) {H0:Heap} (g0:LD H 66 (.q 0) (.N n ls)) (g1:CN F N 57 [.N n ls,.a la] H (.tuple [.q pb,.n c]) H0) (y5 y6 y8 y9 y10 y11:HV:=Ud): RU F 58 14 B58 (e58 n ls la y5 y6 y8 y9 y10 y11) H .normal (e58 n ls la y5 y6 (.n c) y9 y10 y11) H0 :=
 hx N 60 [jO 7 0 H g0,jC 7 2 g1]
theorem Qo1 (H:Heap) (c:Nat) (g0:LD H 3 (.q 0) (.i n)) (g1:(la.length:Int)=qA.wrap (n-1)) (g2:LD H 3 (.q 0) (.i n)) (g3:(c:Int)=qA.wrap (n-1)) (y5 y6 y9 y10 y11:HV:=Ud): RU F 58 15 B58 (e58 n ls la y5 y6 (.n c) y9 y10 y11) H .ret (DM (.N n ls) (.a la) (.q 0) (.bool true) y5 y6 (.n c) y9 y10 y11) H :=
 hx N 60 [jO 8 3 H g0,jT 8 5 H g1,jO 8 9 H g2,jT 8 11 H g3]
theorem Qo2 (H:Heap) (c:Nat) (g0:LD H 3 (.q 0) (.i n)) (g1:(la.length:Int)=qA.wrap (n-1)) (g2:LD H 3 (.q 0) (.i n)) (g3:¬((c:Int)=qA.wrap (n-1))) (y5 y6 y9 y10 y11:HV:=Ud): RU F 58 15 B58 (e58 n ls la y5 y6 (.n c) y9 y10 y11) H .ret (e58 n ls la y5 y6 (.n c) y9 y10 y11) H :=
 hx N 60 [jO 8 3 H g0,jT 8 5 H g1,jO 8 9 H g2,jF 8 11 H g3]
theorem Qo3 (H:Heap) (c:Nat) (g0:LD H 3 (.q 0) (.i n)) (g1:¬((la.length:Int)=qA.wrap (n-1))) (y5 y6 y9 y10 y11:HV:=Ud): RU F 58 15 B58 (e58 n ls la y5 y6 (.n c) y9 y10 y11) H .ret (e58 n ls la y5 y6 (.n c) y9 y10 y11) H :=
 hx N 60 [jO 8 3 H g0,jF 8 5 H g1]
end
end Go.Proofs.Ytiejmoglooaalaa
end
section
open Go Go.HL
namespace Go.Proofs.Ytiejmoglooaalaa
set_option linter.unusedSectionVars false
open Go.Proofs.Try renaming prog → Tp
open Go.HL.HV renaming undef → Ud
def isP (n:Int) (l:List St) (t:List Int):Bool:=VN l.length t&&(decide ((t.length:Int)=n-1)&&decide (((ksT l t).2.2.length:Int)=n-1))
def S4:List HV→Option HV:=f2 kN kL fun p t=>if (ZY p.2=true∧0≤p.1∧p.1≤16)∧t.length≤500∧p.2.length≤500 then some (.bool (isP p.1 p.2 t)) else none
theorem Qb7:Try.f58.results.toList=[.tmp 4]:=by kernel_rfl
def Kb:FuncId→Option (List HV→Option HV):=fun g=>if g==52 then some WZ else none
theorem Qhy (n:Nat):Qn Tp (Qc Tp (plF Kb) n):=Qy _ (fun g f h=>by
 unfold Kb at h
 split at h
 ·rename_i hg;cases h;rw [eq_of_beq hg];exact JJ
 ·cases h) n
theorem Qc7:QP Tp 58 S4:=by
 refine Qp (pol:=plF Kb) (fn:=Try.f58) (cd:=B58) Qk Qhy (by kernel_rfl) (by kernel_rfl) (Zm Kb _ _ (by kernel_rfl)) (by kernel_rfl) ?_
 intro args res h
 obtain ⟨⟨n,l⟩,t,rfl,hq⟩:=Z9 h
 simp only at hq
 split at hq
 case isFalse=>cases hq
 rename_i hc
 obtain ⟨⟨he,n0,n1⟩,htl,hll⟩:=hc
 cases hq
 have a:=QoT (F:=Kb) 0 n (l.map Qa) (t.map Qb)
 have b:=QoU (F:=Kb) 0 n (l.map Qa) (t.map Qb) [bN n l]
 have lm:((t.map Qb).length:Int)=(t.length:Int):=by rw [qC]
 have ll:((l.map Qa).length:Int)=(l.length:Int):=by rw [qC]
 rw [lm] at b
 have hw1:qA.wrap (((l.map Qa).length:Int)-1)=(l.length:Int)-1:=by rw [ll];exact Qr (by omega) (by omega)
 have ldn:=ZX (H:=[bN n l]) (xb:=0) (n:=n) (l:=l) rfl
 have wi:∀(x:Int) (b:Bool),decide (0≤x∧x≤(l.length:Int)-1)=b→∀k,Qc Tp (plF Kb) (k+1) 52 [.int .i64 x,.int .i64 0,.int .i64 (qA.wrap (((l.map Qa).length:Int)-1))] [bN n l]=some (.bool b,[bN n l]):=fun x b hb=>by
  rw [hw1,← hb];exact YD (F:=Kb) (by kernel_rfl) x 0 ((l.length:Int)-1) [bN n l]
 have pass:∀i,i<t.length→okA l.length t i=true→RT (plF Kb) 58 (sn 52 B58) ((DM (Qv n l) (.a (t.map Qb)) (.q 0) (.bool false) Ud Ud Ud (.a (t.map Qb)) (.i (t.length:Int)) (.i (i:Int)))) [bN n l] .normal ((DM (Qv n l) (.a (t.map Qb)) (.q 0) (.bool false) (.i (i:Int)) (.i (t.getD i 0)) Ud (.a (t.map Qb)) (.i (t.length:Int)) (.i ((i+1:Nat):Int)))) [bN n l]:=fun i hi ho=>by
  obtain ⟨⟨h1,h2⟩,h3⟩:=of_decide_eq_true ho
  have w:=wi (t.getD i 0) true (decide_eq_true (by omega))
  by_cases hz:i=0
  ·have s:=QoX (F:=Kb) 0 n (l.map Qa) (t.map Qb) [bN n l] i (t.getD i 0) 0 (by omega) (gx hi) ldn w (by omega)
   rw [Qi (by omega),lm] at s
   exact s
  ·have h3:=h3.resolve_left hz
   have g:=gx (l:=t) (y:=i-1) (by omega)
   rw [← QN (j:=i) (by omega) (by omega)] at g
   have s:=QoW (F:=Kb) 0 n (l.map Qa) (t.map Qb) [bN n l] i (t.getD i 0) (t.getD (i-1) 0) (by omega) (gx hi) ldn w (by omega) g (by omega)
   rw [Qi (by omega),lm] at s
   exact s
 cases hf:fN (fun i=>!okA l.length t i) t.length 0 with
 | some m =>
  obtain ⟨_,h1,h2,h3⟩:=Jl hf
  have hm:m<t.length:=by omega
  have hA:VN l.length t=false:=by rw [VN,hf];rfl
  have ho:¬((0≤t.getD m 0∧t.getD m 0<(l.length:Int))∧(m=0∨t.getD (m-1) 0<t.getD m 0)):=by
   have:okA l.length t m=false:=by simpa using h2
   exact of_decide_eq_false this
  have out:∃E',RT (plF Kb) 58 (sn 52 B58) ((DM (Qv n l) (.a (t.map Qb)) (.q 0) (.bool false) Ud Ud Ud (.a (t.map Qb)) (.i (t.length:Int)) (.i (m:Int)))) [bN n l] .ret E' [bN n l]∧E'.get 4=.bool false:=by
   by_cases k1:0≤t.getD m 0∧t.getD m 0≤(l.length:Int)-1
   ·have hm0:m≠0:=fun c=>ho ⟨by omega,.inl c⟩
    have hm1:¬t.getD (m-1) 0<t.getD m 0:=fun c=>ho ⟨by omega,.inr c⟩
    have g:=gx (l:=t) (y:=m-1) (by omega)
    rw [← QN (j:=m) (by omega) (by omega)] at g
    have s:=QoV (F:=Kb) 0 n (l.map Qa) (t.map Qb) [bN n l] m (t.getD m 0) (t.getD (m-1) 0) (by omega) (gx hm) ldn (wi _ true (decide_eq_true k1)) (by omega) g (by omega)
    rw [lm] at s
    exact ⟨_,s,rfl⟩
   ·have s:=QoY (F:=Kb) 0 n (l.map Qa) (t.map Qb) [bN n l] m (t.getD m 0) 0 (by omega) (gx hm) ldn (wi _ false (decide_eq_false k1))
    rw [lm] at s
    exact ⟨_,s,rfl⟩
  obtain ⟨E',o1,o2⟩:=out
  have r:=Wk (pol':=plF Kb) (f:=58) (E:=fun i=>(DM (Qv n l) (.a (t.map Qb)) (.q 0) (.bool false) Ud Ud Ud (.a (t.map Qb)) (.i (t.length:Int)) (.i (i:Int)))) (Hs:=fun _=>[bN n l]) m (fun i hi=>pass i (by omega) (by have:=h3 i (qI _) hi;simpa using this)) (fun i _=>by kernel_rfl) (fun i _=>QH _ rfl) o1 (by simp) (c:=sn 26 B58) (by kernel_rfl) (fun i _=>by kernel_rfl)
  refine ⟨_,_,_,.bool false,sq (a) (sqo (sq (b) (RunsTo.block_ret (i:=0) (c:=sn 13 B58) (r) (by kernel_rfl)) (c:=sn 6 B58)) (c:=sn 3 B58) (b:=sn 7 B58)) (c:=B58),by simp,by simp only [Qd,Qb7,mapO,Wz,o2],?_⟩
  rw [isP,hA];rfl
 | none =>
  have h3:=Z1 hf
  have hA:VN l.length t=true:=by rw [VN,hf];rfl
  have hin:=inR_iff.1 (Ux hA)
  have o:=QoZ (F:=Kb) 0 n (l.map Qa) (t.map Qb) [bN n l] t.length 0 0 (by omega)
  rw [lm] at o
  have r:=Wk (pol':=plF Kb) (f:=58) (E:=fun i=>(DM (Qv n l) (.a (t.map Qb)) (.q 0) (.bool false) Ud Ud Ud (.a (t.map Qb)) (.i (t.length:Int)) (.i (i:Int)))) (Hs:=fun _=>[bN n l]) t.length (fun i hi=>pass i hi (by have:=h3 i (qI _) (by omega);simpa using this)) (fun i _=>by kernel_rfl) (fun i _=>QH _ rfl) o (by simp) (c:=sn 26 B58) (by kernel_rfl) (fun i _=>by kernel_rfl)
  obtain ⟨N1,c57⟩:=CallsTo.from (QaT (F:=Kb) (by kernel_rfl) (by kernel_rfl) (by kernel_rfl) (by kernel_rfl) (n:=n) he hin (by omega) [bN n l] (by show max 0 0≤1;decide))
  have d:=Qo0 (F:=Kb) N1 n (l.map Qa) (t.map Qb) [bN n l] 2 (ksT l t).2.2.length (y9:=.a (t.map Qb)) (y10:=.i (t.length:Int)) (y11:=.i (t.length:Int)) (JE rfl) c57
  have ld1:=Yg (H:=[bN n l]++[bN n l,bU (ksT l t).1]) (xb:=0) (n:=n) (l:=l) rfl
  have hw:qA.wrap (n-1)=n-1:=Qr (by omega) (by omega)
  rw [isP,hA,Bool.true_and]
  by_cases k1:(t.length:Int)=n-1
  ·by_cases k2:((ksT l t).2.2.length:Int)=n-1
   ·have z:=Qo1 (F:=Kb) 0 n (l.map Qa) (t.map Qb) ([bN n l]++[bN n l,bU (ksT l t).1]) (ksT l t).2.2.length (y9:=.a (t.map Qb)) (y10:=.i (t.length:Int)) (y11:=.i (t.length:Int)) ld1 (by rw [hw];omega) ld1 (by rw [hw];exact k2)
    rw [decide_eq_true k1,decide_eq_true k2]
    exact ⟨_,_,_,.bool true,sq (a) (sq (sq (b) (bke (c:=sn 13 B58) (r)) (c:=sn 6 B58)) (sq (d) (z) (c:=sn 7 B58)) (c:=sn 3 B58)) (c:=B58),by simp,by simp only [Qd,Qb7];rfl,rfl⟩
   ·have z:=Qo2 (F:=Kb) 0 n (l.map Qa) (t.map Qb) ([bN n l]++[bN n l,bU (ksT l t).1]) (ksT l t).2.2.length (y9:=.a (t.map Qb)) (y10:=.i (t.length:Int)) (y11:=.i (t.length:Int)) ld1 (by rw [hw];omega) ld1 (by rw [hw];exact k2)
    rw [decide_eq_true k1,decide_eq_false k2]
    exact ⟨_,_,_,.bool false,sq (a) (sq (sq (b) (bke (c:=sn 13 B58) (r)) (c:=sn 6 B58)) (sq (d) (z) (c:=sn 7 B58)) (c:=sn 3 B58)) (c:=B58),by simp,by simp only [Qd,Qb7];rfl,rfl⟩
  ·have z:=Qo3 (F:=Kb) 0 n (l.map Qa) (t.map Qb) ([bN n l]++[bN n l,bU (ksT l t).1]) (ksT l t).2.2.length (y9:=.a (t.map Qb)) (y10:=.i (t.length:Int)) (y11:=.i (t.length:Int)) ld1 (by rw [hw];omega)
   rw [decide_eq_false k1]
   exact ⟨_,_,_,.bool false,sq (a) (sq (sq (b) (bke (c:=sn 13 B58) (r)) (c:=sn 6 B58)) (sq (d) (z) (c:=sn 7 B58)) (c:=sn 3 B58)) (c:=B58),by simp,by simp only [Qd,Qb7];rfl,rfl⟩
def beY (l:List St) (t:List Int) (i:Nat):List Int:=Q8 l t (t.getD i 0) l.length
def beG (l:List St) (t:List Int) (i:Nat):Option Nat:=fN (fun j=>decide (wOf l ((beY l t i).getD j 0)<wOf l (t.getD i 0))) (beY l t i).length 0
def beF (l:List St) (t:List Int):Option Nat:=fN (fun i=>(beG l t i).isSome) t.length 0
def beO (l:List St) (t:List Int):Int×Int:=match beF l t with | some i=>(match beG l t i with | some j=>(t.getD i 0,(beY l t i).getD j 0) | none=>(-1,-1)) | none=>(-1,-1)
def Qc8 (n:Int) (l:List St) (t:List Int):Bool:=Ww n l&&isP n l t
def beT (n:Int) (l:List St) (t:List Int):HV:=if Qc8 n l t=true then .tuple [.int .i64 (beO l t).1,.int .i64 (beO l t).2,.int .i64 0] else .tuple [.int .i64 0,.int .i64 0,.int .i64 2]
def S5:List HV→Option HV:=f3 kI kS kL fun n l t=>if l.length≤500∧t.length≤500 then some (beT n l t) else none
def WY:FuncId→Option (List HV→Option HV):=fun g=>if g==52 then some WZ else if g==58 then some S4 else if g==59 then some YI else none
theorem Qhz (n:Nat):Qn Tp (Qc Tp (plF WY) n):=Qy _ (fun g f h=>by
 unfold WY at h
 split at h
 ·rename_i hg;cases h;rw [eq_of_beq hg];exact JJ
 split at h
 ·rename_i hg;cases h;rw [eq_of_beq hg];exact Qc7
 split at h
 ·rename_i hg;cases h;rw [eq_of_beq hg];exact DF
 ·cases h) n
theorem Qo4:NwF WY:=⟨by kernel_rfl,by kernel_rfl,by kernel_rfl,by kernel_rfl,by kernel_rfl⟩
theorem Qb8:Try.f35.results.toList=[.tmp 6,.tmp 7,.tmp 8]:=by kernel_rfl
theorem CB {n:Int} {l:List St} (hnet:Ww n l=true) {t:List Int} (ht:∀x∈t,0≤x∧x<(l.length:Int)) (htl:t.length≤500) {i:Nat} (hi:i<t.length) {m:Nat} (hm:m≤(beY l t i).length)
  (hno:∀j,j<m→¬wOf l ((beY l t i).getD j 0)<wOf l (t.getD i 0)) {x:X} {E':Env} (hx:x≠.normal)
  (out:∀Y,Y=beY l t i→RT (plF WY) 35 (sn 62668 B35) ((Z3 (.i n) (.g (l.map Qa)) (.a (t.map Qb)) (.i 0) (.i 0) (.i 0) (.q 0) Ud (.i (t.getD i 0)) Ud (.a (t.map Qb)) (.i (t.length:Int)) (.i (i:Int)) (.s 1 Y.length) (.i (Y.length:Int)) (.i (m:Int)))) [bN n l,bI Y] x E' [bN n l,bI Y]) :
  RT (plF WY) 35 (sn 31334 B35) (let Y:=beY l t i;(Z3 (.i n) (.g (l.map Qa)) (.a (t.map Qb)) (.i 0) (.i 0) (.i 0) (.q 0) Ud (.i (t.getD i 0)) Ud (.a (t.map Qb)) (.i (t.length:Int)) (.i (i:Int)) (.s 1 Y.length) (.i (Y.length:Int)) (.i (0:Int)))) [bN n l,bI (beY l t i)] x E' [bN n l,bI (beY l t i)]:=by
 obtain ⟨⟨n1,n2⟩,n3,he,hw⟩:=QE hnet
 have hYin:∀y∈beY l t i,0≤y∧y<(l.length:Int):=fun y hy=>startT_mem.1 (List.mem_filter.1 hy).1
 have hYl:(beY l t i).length≤l.length:=Uw ..
 have o:=out _ rfl
 have hxx:=ht _ (Qu 0 hi)
 generalize beY l t i=Y at *
 have lm:((t.map Qb).length:Int)=(t.length:Int):=by rw [qC]
 exact Wk (pol':=plF WY) (f:=35) (E:=fun j=>(Z3 (.i n) (.g (l.map Qa)) (.a (t.map Qb)) (.i 0) (.i 0) (.i 0) (.q 0) Ud (.i (t.getD i 0)) Ud (.a (t.map Qb)) (.i (t.length:Int)) (.i (i:Int)) (.s 1 Y.length) (.i (Y.length:Int)) (.i (j:Int)))) (Hs:=fun _=>[bN n l,bI Y]) m (E0:=fun j=>(Z3 (.i n) (.g (l.map Qa)) (.a (t.map Qb)) (.i 0) (.i 0) (.i 0) (.q 0) Ud (.i (t.getD i 0)) (.i (Y.getD j 0)) (.a (t.map Qb)) (.i (t.length:Int)) (.i (i:Int)) (.s 1 Y.length) (.i (Y.length:Int)) (.i ((j+1:Nat):Int)))) (H1:=fun _=>[bN n l,bI Y])
  (fun j hj=>by
   have hy:=hYin _ (Qu 0 (show j<Y.length by omega))
   have gy:=gs (l:=l) (y:=(Y.getD j 0).toNat) (by omega)
   have gxx:=gs (l:=l) (y:=(t.getD i 0).toNat) (by omega)
   rw [show (((Y.getD j 0).toNat:Nat):Int)=Y.getD j 0 by omega] at gy
   rw [show (((t.getD i 0).toNat:Nat):Int)=t.getD i 0 by omega] at gxx
   have s:=QoP (F:=WY) 0 n (l.map Qa) (t.map Qb) [bN n l,bI Y] i 1 Y.length j (t.getD i 0) (Y.getD j 0) _ _ _ _ _ _ (by omega) (JX u24 z3 (by omega)) (Q6 (H:=[bN n l,bI Y]) (k:=1) rfl (by omega)) gy gxx (hno j hj)
   rw [Qi (by omega),lm] at s
   exact s) (fun j _=>by kernel_rfl) (fun j _=>QH _ rfl) o hx (c:=sn 31334 B35) (by kernel_rfl) (fun j _=>by kernel_rfl)
theorem Qc9:QP Tp 35 S5:=by
 refine Qp (pol:=plF WY) (fn:=Try.f35) (cd:=B35) Qk Qhz (by kernel_rfl) (by kernel_rfl) (Zm WY _ _ (by kernel_rfl)) (by kernel_rfl) ?_
 intro args res h
 obtain ⟨n,l,t,rfl,hq⟩:=Kp h
 split at hq
 case isFalse=>cases hq
 rename_i hc
 obtain ⟨hl,htl⟩:=hc
 cases hq
 have a:=QoJ (F:=WY) 0 n (l.map Qa) (t.map Qb)
 obtain ⟨N0,c39⟩:=CallsTo.from (Ut Qo4 (H:=[]) (qB _) n (l:=l) (by omega))
 cases hnet:Ww n l with
 | false =>
  rw [hnet] at c39
  have b:=QoL (F:=WY) N0 n (l.map Qa) (t.map Qb) c39 rfl stN
  have ct:=Qhw (F:=WY) 0 n (l.map Qa) (t.map Qb) [bN n l]
  refine ⟨_,_,_,.tuple [.int .i64 0,.int .i64 0,.int .i64 2],sq (a) (sq (b) (sqo (ct) (c:=sn 7 B35) (b:=sn 15 B35)) (c:=sn 3 B35)) (c:=B35),by simp,by simp only [Qd,Qb8];rfl,?_⟩
  rw [beT,if_neg (by rw [Qc8,hnet];simp)];rfl
 | true =>
  rw [hnet] at c39
  obtain ⟨⟨n1,n2⟩,n3,he,hw⟩:=QE hnet
  have heB:=K6 he (by omega)
  have b:=QoK (F:=WY) N0 n (l.map Qa) (t.map Qb) c39 rfl stN
  have c58:=at2 (pol':=plF WY) (g:=58) (c1:=kN) (c2:=kL) (f:=fun p t=>if (ZY p.2=true∧0≤p.1∧p.1≤16)∧t.length≤500∧p.2.length≤500 then some (.bool (isP p.1 p.2 t)) else none) (H:=[bN n l]) (by kernel_rfl) (ShN _ n l) (Kg _ t) (if_pos ⟨⟨heB,by show 0≤n;omega,by show n≤16;omega⟩,by omega,by show l.length≤500;omega⟩)
  cases hP:isP n l t with
  | false =>
   simp only [hP] at c58
   have ct:=Qhv (F:=WY) 0 n (l.map Qa) (t.map Qb) [bN n l] (JE rfl) c58
   refine ⟨_,_,_,.tuple [.int .i64 0,.int .i64 0,.int .i64 2],sq (a) (sq (b) (sqo (ct) (c:=sn 7 B35) (b:=sn 15 B35)) (c:=sn 3 B35)) (c:=B35),by simp,by simp only [Qd,Qb8];rfl,?_⟩
   rw [beT,if_neg (by rw [Qc8,hP];simp)];rfl
  | true =>
   simp only [hP] at c58
   have ct:=Qhu (F:=WY) 0 n (l.map Qa) (t.map Qb) [bN n l] (JE rfl) c58
   rw [beT,if_pos (by rw [Qc8,hP,hnet];rfl)]
   have hin:∀x∈t,0≤x∧x<(l.length:Int):=by
    have:=hP
    simp only [isP,jG] at this
    exact inR_iff.1 (Ux this.1)
   have lm:((t.map Qb).length:Int)=(t.length:Int):=by rw [qC]
   have d:=QoM (F:=WY) 0 n (l.map Qa) (t.map Qb) [bN n l] (y10:=.bool true)
   rw [lm] at d
   have hYin:∀i,∀y∈beY l t i,0≤y∧y<(l.length:Int):=fun i y hy=>startT_mem.1 (List.mem_filter.1 hy).1
   have hYl:∀i,(beY l t i).length≤l.length:=fun i=>Uw ..
   have c59:∀i,i<t.length→∀k,Qc Tp (plF WY) (k+1) 59 [Qv n l,.imm .arg 1 (t.map Qb),.int .i64 (t.getD i 0)] [bN n l]=some (.sl 1 0 (beY l t i).length none (beY l t i).length 1,[bN n l,bI (beY l t i)]):=fun i hi=>by
    have:=at3 (pol':=plF WY) (g:=59) (c1:=kN) (c2:=kL) (c3:=kI) (f:=fun p t o=>if (ZY p.2=true∧p.2.length≤500)∧inR p.2.length t=true∧t≠[]∧t.length≤500 then some (.own 1 ((Q8 p.2 t o p.2.length).map Qb)) else none) (H:=[bN n l]) (by kernel_rfl) (ShN _ n l) (Kg _ t) (ShI _ (t.getD i 0)) (if_pos ⟨⟨heB,by show l.length≤500;omega⟩,inR_iff.2 hin,fun h=>by rw [h] at hi;simp at hi,by omega⟩)
    rw [W1] at this
    exact this
   have last:∀i,i<t.length→∀m,m≤(beY l t i).length→(∀j,j<m→¬wOf l ((beY l t i).getD j 0)<wOf l (t.getD i 0))→∀(x:X) (E':Env),x≠.normal→(∀Y,Y=beY l t i→RT (plF WY) 35 (sn 62668 B35) ((Z3 (.i n) (.g (l.map Qa)) (.a (t.map Qb)) (.i 0) (.i 0) (.i 0) (.q 0) Ud (.i (t.getD i 0)) Ud (.a (t.map Qb)) (.i (t.length:Int)) (.i (i:Int)) (.s 1 Y.length) (.i (Y.length:Int)) (.i (m:Int)))) [bN n l,bI Y] x E' [bN n l,bI Y]) →
     RT (plF WY) 35 (sn 31334 B35) (let Y:=beY l t i;(Z3 (.i n) (.g (l.map Qa)) (.a (t.map Qb)) (.i 0) (.i 0) (.i 0) (.q 0) Ud (.i (t.getD i 0)) Ud (.a (t.map Qb)) (.i (t.length:Int)) (.i (i:Int)) (.s 1 Y.length) (.i (Y.length:Int)) (.i (0:Int)))) [bN n l,bI (beY l t i)] x E' [bN n l,bI (beY l t i)]:=fun i hi m hm hno x E' hx out=>CB hnet hin htl hi hm hno hx out
   have pass:∀i,i<t.length→beG l t i=none→∃H1,RT (plF WY) 35 (sn 244 B35) ((Z3 (.i n) (.g (l.map Qa)) (.a (t.map Qb)) (.i 0) (.i 0) (.i 0) (.q 0) Ud Ud Ud (.a (t.map Qb)) (.i (t.length:Int)) (.i (i:Int)) Ud Ud Ud)) [bN n l] .normal (let Y:=beY l t i;(Z3 (.i n) (.g (l.map Qa)) (.a (t.map Qb)) (.i 0) (.i 0) (.i 0) (.q 0) Ud (.i (t.getD i 0)) Ud (.a (t.map Qb)) (.i (t.length:Int)) (.i ((i+1:Nat):Int)) (.s 1 Y.length) (.i (Y.length:Int)) (.i (Y.length:Int)))) H1∧H1=[bN n l,bI (beY l t i)]:=fun i hi hg=>by
    have h3:=Z1 hg
    have s1:=Qfk (F:=WY) 0 n (l.map Qa) (t.map Qb) [bN n l] i (by rw [lm];omega)
    have s2:=Qb6 (F:=WY) 0 n (l.map Qa) (t.map Qb) [bN n l] i
    have s3:=Qfl (F:=WY) 0 n (l.map Qa) (t.map Qb) [bN n l] i (t.getD i 0) (gx hi)
    have s4:=Qfm (F:=WY) 0 n (l.map Qa) (t.map Qb) [bN n l] i 1 (beY l t i).length (t.getD i 0) (JE rfl) (c59 i hi)
    have r:=last i hi (beY l t i).length (qB _) (fun j hj=>of_decide_eq_false (h3 j (qI _) (by omega))) (.exit 2) _ (by simp) (fun Y hY=>by
     subst hY
     have s:=QoQ (F:=WY) 0 n (l.map Qa) (t.map Qb) [bN n l,bI (beY l t i)] i 1 (beY l t i).length (beY l t i).length (t.getD i 0) 0 0 0 0 0 0 0 (by omega)
     rw [lm] at s
     exact s)
    have s5:=QoR (F:=WY) 0 n (l.map Qa) (t.map Qb) [bN n l,bI (beY l t i)] i (y12:=.i (t.getD i 0)) (y38:=.sl 1 0 (beY l t i).length none (beY l t i).length 1) (y39:=.i ((beY l t i).length:Int)) (y40:=.i ((beY l t i).length:Int))
    rw [Qi (by omega)] at s5
    rw [lm] at s1 s2 s3 s4 s5
    exact ⟨_,sq (s1) (sq (s2) (sq (RunsTo.block_normal (i:=1) (c:=sn 1958 B35) (sq (s3) (sq (s4) (bke (c:=sn 15667 B35) (r)) (c:=sn 7833 B35)) (c:=sn 3916 B35)) (by kernel_rfl)) (s5) (c:=sn 979 B35)) (c:=sn 489 B35)) (c:=sn 244 B35),rfl⟩
   have gcs:∀i r,r≤1→gc 1 r [bN n l,bI (beY l t i)]=[bN n l]:=fun i r hr=>K5 (H:=[bN n l]) (by show max 0 (max 0 0)≤1;decide) hr
   have outer:∀m,m≤t.length→(∀i,i<m→beG l t i=none)→∀(x:X) (E':Env) (H':Heap),x≠.normal→RT (plF WY) 35 (sn 244 B35) ((Z3 (.i n) (.g (l.map Qa)) (.a (t.map Qb)) (.i 0) (.i 0) (.i 0) (.q 0) Ud Ud Ud (.a (t.map Qb)) (.i (t.length:Int)) (.i (m:Int)) Ud Ud Ud)) [bN n l] x E' H'→RT (plF WY) 35 (sn 122 B35) ((Z3 (.i n) (.g (l.map Qa)) (.a (t.map Qb)) (.i 0) (.i 0) (.i 0) (.q 0) Ud Ud Ud (.a (t.map Qb)) (.i (t.length:Int)) (.i (0:Int)) Ud Ud Ud)) [bN n l] x E' H':=fun m hm hno x E' H' hx out =>
    Wk (pol':=plF WY) (f:=35) (E:=fun i=>(Z3 (.i n) (.g (l.map Qa)) (.a (t.map Qb)) (.i 0) (.i 0) (.i 0) (.q 0) Ud Ud Ud (.a (t.map Qb)) (.i (t.length:Int)) (.i (i:Int)) Ud Ud Ud)) (Hs:=fun _=>[bN n l]) m (E0:=fun i=>let Y:=beY l t i;(Z3 (.i n) (.g (l.map Qa)) (.a (t.map Qb)) (.i 0) (.i 0) (.i 0) (.q 0) Ud (.i (t.getD i 0)) Ud (.a (t.map Qb)) (.i (t.length:Int)) (.i ((i+1:Nat):Int)) (.s 1 Y.length) (.i (Y.length:Int)) (.i (Y.length:Int)))) (H1:=fun i=>[bN n l,bI (beY l t i)])
     (fun i hi=>by obtain ⟨H1,h1,h2⟩:=pass i (by omega) (hno i hi);rw [← h2];exact h1) (fun i _=>by kernel_rfl) (fun i _=>gcs i _ (by simp only [WF,bnd,bndL];decide)) out hx (c:=sn 122 B35) (by kernel_rfl) (fun i _=>by kernel_rfl)
   unfold beO
   cases hF:beF l t with
   | none =>
    have h3:=Z1 hF
    have no:∀i,i<t.length→beG l t i=none:=fun i hi=>by
     have:=h3 i (qI _) (by omega)
     cases c:beG l t i with
     | none=>rfl
     | some x=>rw [c] at this;cases this
    have s1:=QoN (F:=WY) 0 n (l.map Qa) (t.map Qb) [bN n l] t.length (by rw [lm];omega)
    have s2:=Qhx (F:=WY) 0 n (l.map Qa) (t.map Qb) [bN n l] t.length
    rw [lm] at s1 s2
    have o:=outer t.length (qB _) no _ _ _ (by simp) (sq (s1) (sqo (s2) (c:=sn 489 B35) (b:=sn 979 B35)) (c:=sn 244 B35))
    have z:=QoS (F:=WY) 0 n (l.map Qa) (t.map Qb) [bN n l] (y29:=.a (t.map Qb)) (y30:=.i (t.length:Int)) (y31:=.i (t.length:Int))
    exact ⟨_,_,_,.tuple [.int .i64 (-1),.int .i64 (-1),.int .i64 0],sq (a) (sq (b) (sq (ct) (sq (sq (d) (bke (c:=sn 61 B35) (lpi (e0:=(Z3 (.i n) (.g (l.map Qa)) (.a (t.map Qb)) (.i 0) (.i 0) (.i 0) (.q 0) (.bool true) Ud Ud (.a (t.map Qb)) (.i (t.length:Int)) (.i (0:Int)) Ud Ud Ud)) o (b:=sn 244 B35))) (c:=sn 30 B35)) (z) (c:=sn 15 B35)) (c:=sn 7 B35)) (c:=sn 3 B35)) (c:=B35),by simp,by simp only [Qd,Qb8];rfl,rfl⟩
   | some i =>
    obtain ⟨_,h1,h2,h3⟩:=Jl hF
    have hi:i<t.length:=by omega
    have no:∀k,k<i→beG l t k=none:=fun k hk=>by
     have:=h3 k (qI _) hk
     cases c:beG l t k with
     | none=>rfl
     | some x=>rw [c] at this;cases this
    cases hG:beG l t i with
    | none=>rw [hG] at h2;cases h2
    | some j =>
     obtain ⟨_,g1,g2,g3⟩:=Jl hG
     have hj:j<(beY l t i).length:=by omega
     have hxx:=hin _ (Qu 0 hi)
     have hy:=hYin i _ (Qu 0 hj)
     have s1:=Qfk (F:=WY) 0 n (l.map Qa) (t.map Qb) [bN n l] i (by rw [lm];omega)
     have s2:=Qb6 (F:=WY) 0 n (l.map Qa) (t.map Qb) [bN n l] i
     have s3:=Qfl (F:=WY) 0 n (l.map Qa) (t.map Qb) [bN n l] i (t.getD i 0) (gx hi)
     have s4:=Qfm (F:=WY) 0 n (l.map Qa) (t.map Qb) [bN n l] i 1 (beY l t i).length (t.getD i 0) (JE rfl) (c59 i hi)
     have r:=last i hi j (by omega) (fun k hk=>of_decide_eq_false (g3 k (qI _) hk)) .ret _ (by simp) (fun Y hY=>by
      subst hY
      have gy:=gs (l:=l) (y:=((beY l t i).getD j 0).toNat) (by omega)
      have gxx:=gs (l:=l) (y:=(t.getD i 0).toNat) (by omega)
      rw [show ((((beY l t i).getD j 0).toNat:Nat):Int)=(beY l t i).getD j 0 by omega] at gy
      rw [show (((t.getD i 0).toNat:Nat):Int)=t.getD i 0 by omega] at gxx
      have s:=QoO (F:=WY) 0 n (l.map Qa) (t.map Qb) [bN n l,bI (beY l t i)] i 1 (beY l t i).length j (t.getD i 0) ((beY l t i).getD j 0) _ _ _ _ _ _ (by omega) (JX u24 z3 (by omega)) (Q6 (H:=[bN n l,bI (beY l t i)]) (k:=1) rfl (by omega)) gy gxx (of_decide_eq_true g2)
      rw [lm] at s
      exact s)
     rw [lm] at s1 s2 s3 s4
     have o:=outer i (by omega) no _ _ _ (by simp) (sq (s1) (sq (s2) (sqo (RunsTo.block_ret (i:=1) (c:=sn 1958 B35) (sq (s3) (sq (s4) (RunsTo.block_ret (i:=2) (c:=sn 15667 B35) (r) (by kernel_rfl)) (c:=sn 7833 B35)) (c:=sn 3916 B35)) (by kernel_rfl)) (c:=sn 979 B35) (b:=sn 1959 B35)) (c:=sn 489 B35)) (c:=sn 244 B35))
     exact ⟨_,_,_,.tuple [.int .i64 (t.getD i 0),.int .i64 ((beY l t i).getD j 0),.int .i64 0],sq (a) (sq (b) (sq (ct) (sqo (sq (d) (RunsTo.block_ret (i:=0) (c:=sn 61 B35) (lpi (e0:=(Z3 (.i n) (.g (l.map Qa)) (.a (t.map Qb)) (.i 0) (.i 0) (.i 0) (.q 0) (.bool true) Ud Ud (.a (t.map Qb)) (.i (t.length:Int)) (.i (0:Int)) Ud Ud Ud)) o (b:=sn 244 B35)) (by kernel_rfl)) (c:=sn 30 B35)) (c:=sn 15 B35) (b:=sn 31 B35)) (c:=sn 7 B35)) (c:=sn 3 B35)) (c:=B35),by simp,by simp only [Qd,Qb8];rfl,by simp only [hG];rfl⟩
end Go.Proofs.Ytiejmoglooaalaa
end
