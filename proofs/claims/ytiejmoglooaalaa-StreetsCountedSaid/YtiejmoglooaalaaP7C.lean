/- A part of the proof. -/
import Derived.Test.YtiejmoglooaalaaP7B
set_option linter.unusedVariables false
set_option linter.unusedSimpArgs false
set_option linter.unnecessarySimpa false
open Go.IntKind renaming i64 → qA
open Nat renaming le_refl → qB, sub_self → qR, zero_le → jH, add_zero → zD
open List renaming length_append → qC, range → qD, length_map → qE, append_assoc → qF, length_cons → qG, cons_append → qH, mem_cons_of_mem → qI, mem_cons_self → qJ, length_take → qK, take_length → qL, append_nil → qM, foldr_cons → qN, getD → qO, nil_append → qQ, mem_append → qS, replicate → qT, length_singleton → qU, map_append → qV, filter_sublist → qW, mem_of_mem_take → qX, getElem?_append_right → qY, filter_cons_of_neg → qZ, filter_cons_of_pos → jA, mem_filter → jE, mem_append_left → jG, countP_eq_length_filter → jI, length_nil → jN, take_of_length_le → jP, map_cons → jQ, getElem_of_mem → jU, mem_cons → jV, map_take → jY, filter_append → jZ, length_filter_le → zA, getElem?_eq_getElem → zH, set_append_right → zI, all_eq_true → zJ, take_append_of_le_length → zO, mem_append_right → zP, countP_mono_left → zQ, append_of_mem → zS, ext_getElem → zT, length_range → zU, filter_congr → zV, take_left → wA, filter_cons → wC, getElem?_take_of_lt → wE, getElem?_eq_none → wF, length_replicate → wG, mem_singleton_self → wH
open Int renaming toNat_natCast → qP, neg_mul → jJ, pow_succ → jW, mul_neg → jX, mul_add → zF, mul_left_comm → zG, le_total → zL, min_eq_left → zW, max_eq_right → zX, min_eq_right → zY, max_eq_left → zZ, mul_assoc → wD
open Bool renaming and_eq_true → zC, and_self → zE
open Option renaming map_some → zN
section
open Go Go.HL
namespace Go.Proofs.Ytiejmoglooaalaa
set_option linter.unusedSectionVars false
open Go.Proofs.Try renaming prog → Tp
open Go.HL.HV renaming undef → Ud
abbrev bB (bs:List Bool):Blk:=.arr 1 (bs.map HV.bool) true 0
theorem ldB {H:Heap} {b:Nat} {bs:List Bool} (hb:H[b]?=some (bB bs)) {i:Nat} (hi:i<bs.length):QH Tp H 4 (.ptr b i 0 bs.length)=some (.bool (bs.getD i false)) :=
 WE (b:=b) hb (by simp) (by rw [List.getElem?_map,zH hi];simp [qO,zH hi]) rfl a4 i4
theorem Qsz {H:Heap} {b:Nat} {bs:List Bool} (hb:H[b]?=some (bB bs)) {i:Nat} (hi:i<bs.length) (v:Bool):Q0 Tp H 4 (.ptr b i 0 bs.length) (.bool v)=some (H.set b (bB (bs.set i v))):=by
 have h1:(bs.map HV.bool)[i]?=some (.bool bs[i]):=by rw [List.getElem?_map,zH hi];rfl
 have:=KJ (P:=Tp) (t:=4) (b:=b) (tot:=bs.length) (v:=.bool v) hb (by simp) h1 rfl (by intro cs h;cases h) z4 rfl rfl (by simp [bnd])
 rw [this]
 show some (H.set b (.arr 1 ((bs.map HV.bool).set i (.bool v)) true 0))=_
 rw [bB,List.map_set]
def DS (n:Int) (l:List St):Bool:=l.all fun s=>decide ((0≤s.1∧s.1<n)∧0≤s.2.1∧s.2.1<n)
theorem endN_iff {n:Int} {l:List St}:DS n l=true↔∀s∈l,(0≤s.1∧s.1<n)∧0≤s.2.1∧s.2.1<n:=by simp [DS]
theorem XB {n:Int} {l:List St} (h:DS n l=true) (hn:n≤16):Jk l=true:=endB_iff.2 fun s hs=>by have:=endN_iff.1 h s hs;omega
theorem QrW {n:Int} {l:List St} (he:DS n l=true) {k:Int} (hk:0≤k∧k<(l.length:Int)):(0≤sA l k∧sA l k<n)∧0≤sB l k∧sB l k<n:=endN_iff.1 he _ (Qw _ (by omega))
def Jf (n:Nat) (l:List St) (t:List Int):List Int:=(Qy l t).take n
def inT (l:List St) (t:List Int):List Bool:=(qD l.length).map fun (k:Nat)=>decide ((k:Int)∈tkT l t)
def KO (l:List St) (t:List Int):List Int:=(Qg l.length).filter fun k=>decide (k∈tkT l t)
theorem QaE {g:List Int} {n:Nat} {a b:Int} (ha:0≤a∧a<(n:Int)) (hb:0≤b∧b<(n:Int)):(Zo g a b).take n=Zo (g.take n) a b:=by
 have e:∀c:Int,0≤c∧c<(n:Int)→(g.take n).getD c.toNat 0=g.getD c.toNat 0:=fun c hc=>by
  simp only [qO]
  rw [wE (by omega)]
 unfold Zo
 rw [e a ha,e b hb,jY]
theorem Kv (l:List St) (t:List Int) {i:Nat} (hi:i<t.length):Qy l (t.take (i+1))=Zo (Qy l (t.take i)) (sA l (t.getD i 0)) (sB l (t.getD i 0)):=by
 rw [Qy,X3 l t hi];rfl
theorem ZS (l:List St) (t:List Int) {i:Nat} (hi:i<t.length):tkT l (t.take (i+1))=if (Qy l (t.take i)).getD (sA l (t.getD i 0)).toNat 0≠(Qy l (t.take i)).getD (sB l (t.getD i 0)).toNat 0 then tkT l (t.take i)++[t.getD i 0] else tkT l (t.take i):=by
 rw [tkT,X3 l t hi];rfl
theorem Yo {g:List Int} {n v:Nat} (h:v<n):(g.take n).getD v 0=g.getD v 0:=by
 simp only [qO]
 rw [wE h]
theorem Yp {g:List Int} {a b:Int} (h:g.getD a.toNat 0=g.getD b.toNat 0):Zo g a b=g:=by
 unfold Zo
 rw [h]
 conv=>rhs;rw [← List.map_id g]
 refine List.map_congr_left fun x _=>?_
 unfold WN
 split
 ·rename_i h;rw [h];simp
 ·rfl
theorem Qeq {l:List St} {t:List Int} {i:Nat} (hi:i<l.length):(inT l t).getD i false=decide ((i:Int)∈tkT l t):=by
 simp [inT,qO,hi]
theorem Uc (l:List St) (t:List Int):(inT l t).length=l.length:=by simp [inT]
theorem QgA {l:List St} {t t':List Int} {k:Nat} (h:tkT l t'=tkT l t++[(k:Int)]):(inT l t).set k true=inT l t':=by
 apply zT
 ·simp [inT]
 ·intro i h1 h2
  simp only [inT,List.length_set,qE,zU] at h1
  rw [List.getElem_set]
  simp only [inT,List.getElem_map,List.getElem_range,h,qS,List.mem_singleton]
  split
  ·rename_i e;subst e;simp
  ·rename_i e
   have:¬((i:Int)=(k:Int)):=by omega
   simp [this]
theorem SD (l:List St) (t:List Int) {i:Nat}:((Qg (i+1)).filter fun k=>decide (k∈tkT l t))=((Qg i).filter fun k=>decide (k∈tkT l t))++(if (i:Int)∈tkT l t then [(i:Int)] else []):=by
 rw [Q6,jZ]
 congr 1
 by_cases h:(i:Int)∈tkT l t <;> simp [h]
def QbA:List HV→Option HV:=f3 kI kS kL fun n l t=>if (0≤n∧n≤16)∧DS n l=true∧inR l.length t=true∧t.length≤500∧l.length≤500 then some (.tuple [.own 1 ((KO l t).map Qc),.own 1 ((Jf n.toNat l t).map Qc)]) else none
theorem QrX:Try.f50.results.toList=[.tmp 6,.tmp 7]:=by kernel_rfl
theorem Qnd {H:Heap} {b c j k:Nat} {o p:List Int} (hb:H[b]?=some (bI o)) (hk:o.length=k) (hc:H[c]?=some (bI p)) (hj:p.length=j) (hne:b≠c):Wv H false (.tuple [.sl b 0 k none k 1,.sl c 0 j none j 1])=some (.tuple [.own 1 (o.map Qc),.own 1 (p.map Qc)]):=by
 have h1:=W0 (H:=H) (no:=[b,c]) (b:=b) (k:=1) (m:=k) (cap:=none) (els:=o.map Qc) hb (by simpa using hk) (Wj (fun r=>Z7 4 r) _)
 have h2:=W0 (H:=H) (no:=[b,c]) (b:=c) (k:=1) (m:=j) (cap:=none) (els:=p.map Qc) hc (by simpa using hj) (Wj (fun r=>Z7 4 r) _)
 have ho:QD H false (.tuple [.sl b 0 k none k 1,.sl c 0 j none j 1])=[b,c]:=by simp [QD,cellsOf,W5,hb,hc]
 have hn:[b,c].Nodup:=by simp [hne]
 simp only [Wv,ho,hn,if_true,mapO,WP,h1,h2]
theorem Qne:Tp.underlying 99=some (.slice 4):=by kernel_rfl
theorem JM {t b len:Nat} {cap:Option Nat} {e:TypeId} (ht:Tp.underlying t=some (.slice e)) (hs:Qq Tp e=some 1) {i:Nat} (h:i<len):ZI Tp t (.sl b 0 len cap len 1) (.int .i64 (i:Int))=some (.ptr b i 0 len):=by
 have:=UV (P:=Tp) (t:=t) (b:=b) (len:=len) (tot:=len) (cap:=cap) (ik:=.i64) (n:=(i:Int)) ht hs (by omega) (by omega)
 rwa [qP] at this
def JN:FuncId→Option (List HV→Option HV):=fun g=>if g==46 then some Qbr else if g==49 then some QdN else none
theorem QgB (n:Nat):Qo Tp (Qb Tp (plF JN) n):=QF _ (fun g f h=>by
 unfold JN at h
 split at h
 ·rename_i hg;cases h;rw [eq_of_beq hg];exact QdM
 split at h
 ·rename_i hg;cases h;rw [eq_of_beq hg];exact Qf3
 ·cases h) n
theorem SE {n m:Nat} (h:n≤m):(Qg m).take n=Qg n:=by
 simp only [Qg,← jY,List.take_range,Nat.min_eq_left h]
theorem QgC {n:Nat} {l:List St} {t:List Int} (hn:n≤16) (he:DS (n:Int) l=true) (ht:∀k∈t,0≤k∧k<(l.length:Int)) (htl:t.length≤500) :
  ∃x E' H',RT (plF JN) 50 (sn 122 B50) ((Kr (.i (n:Int)) (.g (l.map Qa)) (.a (t.map Qc)) (.imm .lit 1 []) (.imm .lit 1 []) (.s 0 n) (.o 1 l.length) (.i (0:Int)) Ud Ud Ud)) [bI (Qg n),bB (qT l.length false)] x E' H'∧x=.exit 0 ∧
   ∃gb,gb≠1∧E'=(Kr (.i (n:Int)) (.g (l.map Qa)) (.a (t.map Qc)) (.imm .lit 1 []) (.imm .lit 1 []) (.s gb n) (.o 1 l.length) (.i (t.length:Int)) Ud Ud Ud)∧H'[gb]?=some (bI (Jf n l t))∧H'[1]?=some (bB (inT l t))∧gb<H'.length∧mxs H'=0:=by
 have heB:=XB he (by omega)
 have:=KK (pol':=plF JN) (f:=50) (b:=sn 244 B50) (c:=sn 122 B50) (I:=fun i e H=>∃gb,gb≠1∧e=(Kr (.i (n:Int)) (.g (l.map Qa)) (.a (t.map Qc)) (.imm .lit 1 []) (.imm .lit 1 []) (.s gb n) (.o 1 l.length) (.i (i:Int)) Ud Ud Ud)∧H[gb]?=some (bI (Jf n l (t.take i)))∧H[1]?=some (bB (inT l (t.take i)))∧gb<H.length∧mxs H=0)
  (Q:=fun x E' H'=>x=.exit 0∧∃gb,gb≠1∧E'=(Kr (.i (n:Int)) (.g (l.map Qa)) (.a (t.map Qc)) (.imm .lit 1 []) (.imm .lit 1 []) (.s gb n) (.o 1 l.length) (.i (t.length:Int)) Ud Ud Ud)∧H'[gb]?=some (bI (Jf n l t))∧H'[1]?=some (bB (inT l t))∧gb<H'.length∧mxs H'=0) t.length
  (by
   rintro i hi e H ⟨gb,g1,rfl,hg,hi1,hgl,hm⟩
   have hk:=ht _ (Qw 0 hi)
   obtain ⟨ea,eb⟩:=QrW he hk
   obtain ⟨gk1,gk2⟩:=gk hi (m:=l.length) (fun k hk=>ht k hk)
   have ek:(((t.getD i 0).toNat:Nat):Int)=t.getD i 0:=by omega
   have hU:=JL heB (t:=t.take i) fun k hk=>ht k (qX hk)
   have hgn:(Jf n l (t.take i)).length=n:=by
    show ((Qy l (t.take i)).take n).length=n
    rw [qK,show (Qy l (t.take i)).length=16 from hU.lg];omega
   have g2:=gs gk2
   have ht1:H.length≠1→True:=fun _=>trivial
   have hl1:1<H.length:=by
    rcases Nat.lt_or_ge 1 H.length with h | h
    ·exact h
    ·rw [wF h] at hi1;cases hi1
   generalize hs:l.getD (t.getD i 0).toNat (0,0,0)=s at g2
   have sa:sA l (t.getD i 0)=s.1:=by rw [sA,hs]
   have sb:sB l (t.getD i 0)=s.2.1:=by rw [sB,hs]
   rw [sa] at ea
   rw [sb] at eb
   have nv:some (Q8 (.agg [.int .i64 0,.int .i64 0,.int .i64 0]) H)=some (.ptr H.length 0 0 1,H++[.arr 3 [.agg [.int .i64 0,.int .i64 0,.int .i64 0]] true 0]):=rfl
   have st:Q0 Tp (H++[.arr 3 [.agg [.int .i64 0,.int .i64 0,.int .i64 0]] true 0]) 42 (.ptr H.length 0 0 1) (Qa s)=some (H++[bT s]):=by
    have:=VM (P:=Tp) (H:=H++[.arr 3 [.agg [.int .i64 0,.int .i64 0,.int .i64 0]] true 0]) (t:=42) (b:=H.length) (i:=0) (tot:=1) (k:=3) (mx:=0) (els:=[.agg [.int .i64 0,.int .i64 0,.int .i64 0]]) (cs:=[.int .i64 0,.int .i64 0,.int .i64 0]) (new:=[.int .i64 s.1,.int .i64 s.2.1,.int .i64 s.2.2]) (by rw [qY (qB _),qR];rfl) rfl rfl z42 rfl (by simp) rfl (by simp [bndL,bnd])
    unfold Qa
    rw [this]
    refine congrArg some ?_
    rw [zI _ _ (qB _),qR]
    rfl
   have hx:(H++[bT s])[H.length]?=some (bT s):=by rw [qY (qB _),qR];rfl
   have f0:Qr Tp 42 (.ptr H.length 0 0 1) 0=some (.ptr H.length 0 0 1):=by kernel_rfl
   have f1:Qr Tp 42 (.ptr H.length 0 0 1) 1=some (.ptr H.length 0 1 1):=by kernel_rfl
   have la:=ldT hx 0 s.1 rfl
   have lb:=ldT hx 1 s.2.1 rfl
   have hgL:(H++[bT s])[gb]?=some (bI (Jf n l (t.take i))):=WX hg
   have ixa:ZI Tp 24 (.sl gb 0 n none n 1) (.int .i64 s.1)=some (.ptr gb s.1.toNat 0 n):=by
    have:=JM (b:=gb) (cap:=none) u24 z3 (i:=s.1.toNat) (len:=n) (by omega)
    rwa [show ((s.1.toNat:Nat):Int)=s.1 by omega] at this
   have ixb:ZI Tp 24 (.sl gb 0 n none n 1) (.int .i64 s.2.1)=some (.ptr gb s.2.1.toNat 0 n):=by
    have:=JM (b:=gb) (cap:=none) u24 z3 (i:=s.2.1.toNat) (len:=n) (by omega)
    rwa [show ((s.2.1.toNat:Nat):Int)=s.2.1 by omega] at this
   have lx:=Q3 hgL (y:=s.1.toNat) (by omega)
   have ly:=Q3 hgL (y:=s.2.1.toNat) (by omega)
   rw [hgn] at lx ly
   have hlt:(i:Int)<((t.map Qc).length:Int):=by rw [qE];omega
   have lsucc:=Kv l t hi
   have tsucc:=ZS l t hi
   rw [sa,sb] at lsucc tsucc
   have tg1:(Jf n l (t.take i)).getD s.1.toNat 0=(Qy l (t.take i)).getD s.1.toNat 0:=Yo (by omega)
   have tg2:(Jf n l (t.take i)).getD s.2.1.toNat 0=(Qy l (t.take i)).getD s.2.1.toNat 0:=Yo (by omega)
   have gsucc:Jf n l (t.take (i+1))=Zo (Jf n l (t.take i)) s.1 s.2.1:=by
    rw [Jf,lsucc,QaE ea eb];rfl
   by_cases c:(Jf n l (t.take i)).getD s.1.toNat 0=(Jf n l (t.take i)).getD s.2.1.toNat 0
   ·have s1:=Qjs (F:=JN) n (l.map Qa) (t.map Qc) H gb 1 0 l.length i (t.getD i 0).toNat 0 s.1 s.2.1 s.2.2 ((Jf n l (t.take i)).getD s.1.toNat 0) ((Jf n l (t.take i)).getD s.2.1.toNat 0) hlt gk1 g2 nv st f0 la ixa lx f1 lb ixb ly c
    rw [Qj (by omega)] at s1
    have e1:Jf n l (t.take (i+1))=Jf n l (t.take i):=by rw [gsucc,Yp c]
    have e2:tkT l (t.take (i+1))=tkT l (t.take i):=by rw [tsucc,if_neg (by rw [← tg1,← tg2];exact fun h=>h c)]
    have e3:inT l (t.take (i+1))=inT l (t.take i):=by simp only [inT,e2]
    refine ⟨_,_,s1,gb,g1,by kernel_rfl,?_,?_,?_,QdQ (by rw [W7,hm];rfl)⟩
    ·rw [Qax hgl,hgL,e1]
    ·rw [Qax hl1,WX hi1,e3]
    ·unfold gc;rw [qK];simp;omega
   ·have cj:=at3 (pol':=plF JN) (g:=49) (c1:=kL) (c2:=kI) (c3:=kI) (f:=fun g a b=>if (0≤a∧a<(g.length:Int))∧(0≤b∧b<(g.length:Int))∧g.length≤900 then some (.own 1 ((Zo g a b).map Qc)) else none) (H:=H++[bT s]) (by kernel_rfl) (Xu hgn hgL) (ShI _ s.1) (ShI _ s.2.1) (if_pos ⟨by rw [hgn];exact ea,by rw [hgn];exact eb,by omega⟩)
    rw [ZY,QcA,hgn,← gsucc] at cj
    have hin:(H++[bT s]++[bI (Jf n l (t.take (i+1)))])[1]?=some (bB (inT l (t.take i))):=WX (WX hi1)
    have sin:=Qsz hin (i:=(t.getD i 0).toNat) (by rw [Uc];exact gk2) true
    have hti:tkT l (t.take (i+1))=tkT l (t.take i)++[(((t.getD i 0).toNat:Nat):Int)]:=by rw [tsucc,if_pos (by rw [← tg1,← tg2];exact c),ek]
    rw [Uc,QgA hti] at sin
    have ixi:=JM (t:=99) (b:=1) (cap:=some l.length) Qne z4 (i:=(t.getD i 0).toNat) (len:=l.length) gk2
    have s1:=Qjt (F:=JN) n (l.map Qa) (t.map Qc) H gb 1 (H++[bT s]).length l.length i (t.getD i 0).toNat 0 s.1 s.2.1 s.2.2 ((Jf n l (t.take i)).getD s.1.toNat 0) ((Jf n l (t.take i)).getD s.2.1.toNat 0) hlt gk1 g2 nv st f0 la ixa lx f1 lb ixb ly c f0 la f1 lb cj gk1 ixi sin
    rw [Qj (by omega)] at s1
    have hlen:(H++[bT s]).length=H.length+1:=by simp
    rw [hlen] at s1
    have hbn:QP (plF JN) 50 (sn 244 B50) ((Kr (.i (n:Int)) (.g (l.map Qa)) (.a (t.map Qc)) (.imm .lit 1 []) (.imm .lit 1 []) (.s (H.length+1) n) (.o 1 l.length) (.i ((i+1:Nat):Int)) (.ptr H.length 0 0 1) Ud Ud))=(Kr (.i (n:Int)) (.g (l.map Qa)) (.a (t.map Qc)) (.imm .lit 1 []) (.imm .lit 1 []) (.s (H.length+1) n) (.o 1 l.length) (.i ((i+1:Nat):Int)) Ud Ud Ud):=by kernel_rfl
    have hbd:H.length+2≤WY ((Kr (.i (n:Int)) (.g (l.map Qa)) (.a (t.map Qc)) (.imm .lit 1 []) (.imm .lit 1 []) (.s (H.length+1) n) (.o 1 l.length) (.i ((i+1:Nat):Int)) Ud Ud Ud)):=by simp only [WY,bnd,bndL];omega
    refine ⟨_,_,s1,H.length+1,by omega,hbn,?_,?_,?_,QdQ (Su (by rw [W7,W7,hm];rfl) rfl)⟩
    ·rw [Qkl (by rw [hbn];omega),List.getElem?_set_ne (by omega),← hlen,qY (qB _),qR]
     rfl
    ·rw [Qax hl1,List.getElem?_set_self (by simp)]
    ·rw [hbn]
     revert hbd
     generalize WY _=r
     intro hbd
     unfold gc;rw [qK];simp;omega)
  (by
   rintro e H ⟨gb,g1,rfl,hg,hi1,hgl,hm⟩
   rw [qL] at hg hi1
   exact ⟨_,_,_,Qju (F:=JN) n (l.map Qa) (t.map Qc) H gb 1 0 l.length t.length 0 0 0 0 0 0 0 (by rw [qE];omega),by simp,rfl,gb,g1,rfl,hg,hi1,hgl,hm⟩)
  (by kernel_rfl) (by rintro i e H ⟨gb,_,rfl,_⟩;kernel_rfl) (e:=(Kr (.i (n:Int)) (.g (l.map Qa)) (.a (t.map Qc)) (.imm .lit 1 []) (.imm .lit 1 []) (.s 0 n) (.o 1 l.length) (.i (0:Int)) Ud Ud Ud)) (H:=[bI (Qg n),bB (qT l.length false)])
  ⟨0,by omega,rfl,by
   have:Jf n l (t.take 0)=Qg n:=by rw [List.take_zero];exact SE hn
   rw [this];rfl,by
   have:inT l (t.take 0)=qT l.length false:=by
    apply zT
    ·simp [inT]
    ·intro i h1 h2;simp [inT,tkT,ksT]
   rw [this];rfl,by simp,rfl⟩
 exact this
theorem Qer:QV Tp 50 QbA:=by
 refine Qt (pol:=plF JN) (fn:=Try.f50) (cd:=B50) Qk QgB (by kernel_rfl) (by kernel_rfl) (ZJ JN _ _ (by kernel_rfl)) (by kernel_rfl) ?_
 intro args res h
 obtain ⟨n,l,t,rfl,hq⟩:=Xt h
 split at hq
 case isFalse=>cases hq
 rename_i hc
 obtain ⟨⟨n0,n1⟩,he,hr,htl,hll⟩:=hc
 cases hq
 obtain ⟨n,rfl⟩:∃m:Nat,n=(m:Int):=⟨n.toNat,by omega⟩
 rw [qP]
 have ht:=inR_iff.1 hr
 have a:=Qjo (F:=JN) n (l.map Qa) (t.map Qc) []
 have c46:=at1 (pol':=plF JN) (g:=46) (c1:=kI) (f:=fun n=>if n≤900 then some (.own 1 ((Qg n.toNat).map Qc)) else none) (H:=[]) (by kernel_rfl) (ShI _ (n:Int)) (if_pos (by omega))
 rw [ZY,QM,qP] at c46
 have b:=Qjp (F:=JN) n (l.map Qa) (t.map Qc) [] 0 c46
 have mk:=Vm (P:=Tp) (H:=[bI (Qg n)]) (t:=99) (e:=4) (k:=1) (bt:=1) (zv:=.bool false) (n:=(l.length:Int)) Qne (by kernel_rfl) rfl rfl (by omega) (by omega) (by simp only [WZ];omega)
 rw [qP] at mk
 have erep:qT l.length (HV.bool false)=(qT l.length false).map HV.bool:=by simp
 rw [erep] at mk
 have c:=Qjq (F:=JN) n (l.map Qa) (t.map Qc) [bI (Qg n)] 0 1 l.length (by rw [qE];exact mk)
 have d:=Qjr (F:=JN) n (l.map Qa) (t.map Qc) [bI (Qg n),bB (qT l.length false)] 0 1 l.length
 obtain ⟨x,E',H',r,rfl,gb,g1,rfl,hg,hi1,hgl,hm⟩:=QgC (by omega) he ht htl
 have e:=Qjv (F:=JN) n (l.map Qa) (t.map Qc) H' gb 1 l.length H'.length (y10:=.i (t.length:Int)) rfl
 have f:=Qjw (F:=JN) n (l.map Qa) (t.map Qc) (H'++[bI []]) gb 1 l.length H'.length 0 (y10:=.i (t.length:Int))
 have hl1:1<H'.length:=by
  rcases Nat.lt_or_ge 1 H'.length with h | h
  ·exact h
  ·rw [wF h] at hi1;cases hi1
 have hset:∀(A B:Blk),(H'++[A]).set H'.length B=H'++[B]:=fun A B=>by rw [zI _ _ (qB _),qR];rfl
 have hget:∀(A:Blk),(H'++[A])[H'.length]?=some A:=fun A=>by rw [qY (qB _),qR];rfl
 have fl:∀i,(((Qg i).filter fun k=>decide (k∈tkT l t))).length≤i:=fun i=>by have:=zA (fun k=>decide (k∈tkT l t)) (Qg i);rwa [QM] at this
 have r2:=Wu (pol':=plF JN) (f:=50) (E:=fun i=>(Kr (.i (n:Int)) (.g (l.map Qa)) (.a (t.map Qc)) (.imm .lit 1 []) (.imm .lit 1 []) (.s gb n) (.o 1 l.length) Ud Ud (.sl H'.length 0 ((Qg i).filter fun k=>decide (k∈tkT l t)).length none ((Qg i).filter fun k=>decide (k∈tkT l t)).length 1) (.i (i:Int)))) (Hs:=fun i=>H'++[bI ((Qg i).filter fun k=>decide (k∈tkT l t))]) l.length
  (E0:=fun i=>(Kr (.i (n:Int)) (.g (l.map Qa)) (.a (t.map Qc)) (.imm .lit 1 []) (.imm .lit 1 []) (.s gb n) (.o 1 l.length) Ud Ud (.sl H'.length 0 ((Qg (i+1)).filter fun k=>decide (k∈tkT l t)).length none ((Qg (i+1)).filter fun k=>decide (k∈tkT l t)).length 1) (.i ((i+1:Nat):Int)))) (H1:=fun i=>H'++[bI ((Qg (i+1)).filter fun k=>decide (k∈tkT l t))])
  (fun i hi=>by
   have ix:=JM (t:=99) (b:=1) (cap:=some l.length) Qne z4 (i:=i) (len:=l.length) hi
   have ld:=ldB (WX (X:=[bI ((Qg i).filter fun k=>decide (k∈tkT l t))]) hi1) (i:=i) (by rw [Uc];exact hi)
   rw [Uc,Qeq hi] at ld
   have hf:=fl i
   by_cases cc:(i:Int)∈tkT l t
   ·rw [decide_eq_true cc] at ld
    have ap:=ZR (H:=H'++[bI ((Qg i).filter fun k=>decide (k∈tkT l t))]) (b:=H'.length) (o:=(Qg i).filter fun k=>decide (k∈tkT l t)) (hget _) (by omega) (i:Int)
    have es:=SD l t (i:=i)
    rw [if_pos cc] at es
    rw [hset,← es] at ap
    have s:=Qjx (F:=JN) n (l.map Qa) (t.map Qc) (H'++[bI ((Qg i).filter fun k=>decide (k∈tkT l t))]) gb 1 l.length H'.length ((Qg i).filter fun k=>decide (k∈tkT l t)).length i true (by rw [qE];omega) ix ld ap
    have el:((Qg (i+1)).filter fun k=>decide (k∈tkT l t)).length=((Qg i).filter fun k=>decide (k∈tkT l t)).length+1:=by rw [es];simp
    rw [Qj (by omega),← el] at s
    exact s
   ·rw [decide_eq_false cc] at ld
    have es:=SD l t (i:=i)
    rw [if_neg cc,qM] at es
    have s:=Qjy (F:=JN) n (l.map Qa) (t.map Qc) (H'++[bI ((Qg i).filter fun k=>decide (k∈tkT l t))]) gb 1 l.length H'.length ((Qg i).filter fun k=>decide (k∈tkT l t)).length i true (by rw [qE];omega) ix ld
    rw [Qj (by omega)] at s
    rw [es]
    exact s) (fun i _=>by kernel_rfl) (fun i _=>QI _ (by simp)) (Qjz (F:=JN) n (l.map Qa) (t.map Qc) (H'++[bI ((Qg l.length).filter fun k=>decide (k∈tkT l t))]) gb 1 l.length H'.length ((Qg l.length).filter fun k=>decide (k∈tkT l t)).length l.length true (by rw [qE];omega)) (by simp) (c:=sn 506 B50) (by kernel_rfl) (fun i _=>by kernel_rfl)
 have z:=QjA (F:=JN) n (l.map Qa) (t.map Qc) (H'++[bI (KO l t)]) gb 1 l.length H'.length (KO l t).length (y13:=.i (l.length:Int))
 have hgn:(Jf n l t).length=n:=by
  have hU:=JL (XB he (by omega)) (t:=t) ht
  show ((Qy l t).take n).length=n
  rw [qK,show (Qy l t).length=16 from hU.lg];omega
 refine ⟨_,_,_,.tuple [.sl H'.length 0 (KO l t).length none (KO l t).length 1,.sl gb 0 n none n 1],sq (a) (sq (b) (sq (c) (sq (sq (d) (bke (c:=sn 61 B50) (r)) (c:=sn 30 B50)) (sq (e) (sq (sq (f) (bke (c:=sn 253 B50) (lpi (e0:=(Kr (.i (n:Int)) (.g (l.map Qa)) (.a (t.map Qc)) (.imm .lit 1 []) (.imm .lit 1 []) (.s gb n) (.o 1 l.length) (.i (t.length:Int)) Ud (.sl H'.length 0 0 none 0 1) (.i 0))) r2 (b:=sn 1012 B50))) (c:=sn 126 B50)) (z) (c:=sn 63 B50)) (c:=sn 31 B50)) (c:=sn 15 B50)) (c:=sn 7 B50)) (c:=sn 3 B50)) (c:=B50),by simp,by simp only [Qf,QrX];rfl,?_⟩
 exact Qnd (hget _) rfl (WX hg) hgn (by omega)
def fN (p:Nat→Bool):Nat→Nat→Option Nat
 | 0,_=>none
 | k+1,i=>if p i then some i else fN p k (i+1)
theorem X4 {p:Nat→Bool}:∀{k i m:Nat},fN p k i=some m→i≤m∧m<i+k∧p m=true∧∀j,i≤j→j<m→p j=false
 | 0,i,m,h=>by cases h
 | k+1,i,m,h=>by
  rw [fN] at h
  split at h
  ·rename_i hp
   cases h
   exact ⟨qB _,by omega,hp,fun j h1 h2=>by omega⟩
  ·rename_i hp
   obtain ⟨h1,h2,h3,h4⟩:=X4 h
   refine ⟨by omega,by omega,h3,fun j g1 g2=>?_⟩
   by_cases e:j=i
   ·subst e;cases c:p j <;> simp_all
   ·exact h4 j (by omega) g2
theorem VS {p:Nat→Bool}:∀{k i:Nat},fN p k i=none→∀j,i≤j→j<i+k→p j=false
 | 0,i,_,j,h1,h2=>by omega
 | k+1,i,h,j,h1,h2=>by
  rw [fN] at h
  split at h
  ·cases h
  ·rename_i hp
   by_cases e:j=i
   ·subst e;cases c:p j <;> simp_all
   ·exact VS h j (by omega) (by omega)
theorem QT {n:Int} {l:List St} (h:WC n l=true):(1≤n∧n≤16)∧l.length≤60∧DS n l=true∧(∀s∈l,0≤s.2.2∧s.2.2≤1000):=by
 simp only [WC,zC,zJ,decide_eq_true_eq,stB] at h
 obtain ⟨h1,h2,h3⟩:=h
 refine ⟨h2,h3,endN_iff.2 fun s hs=>?_,fun s hs=>?_⟩
 ·have:=h1 s hs;omega
 ·have:=h1 s hs;omega
theorem stN {n:Int} {l:List St}:Q0 Tp [.arr 2 [.agg [.int .i64 0,.imm .lit 0 []]] true 0] 66 (.ptr 0 0 0 1) (Qx n l)=some [bN n l]:=by
 have:=VM (P:=Tp) (H:=[.arr 2 [.agg [.int .i64 0,.imm .lit 0 []]] true 0]) (t:=66) (b:=0) (i:=0) (tot:=1) (k:=2) (mx:=0) (els:=[.agg [.int .i64 0,.imm .lit 0 []]]) (cs:=[.int .i64 0,.imm .lit 0 []]) (new:=[.int .i64 n,.imm .arg 3 (l.map Qa)]) rfl rfl rfl z66 rfl (by simp) rfl (by simp [bndL,bnd])
 unfold Qx
 rw [this]
 rfl
theorem Vs {H:Heap} {b:Nat} {n:Int} {l:List St} (hb:H[b]?=some (bN n l)):QH Tp H 66 (.ptr b 0 0 1)=some (Qx n l):=UW (P:=Tp) (b:=b) (els:=[Qx n l]) (cs:=[.int .i64 n,.imm .arg 3 (l.map Qa)]) hb rfl rfl a66 z66
theorem Df (H:Heap):some (Q8 (.agg [.int .i64 0,.int .i64 0,.int .i64 0]) H)=some (.ptr H.length 0 0 1,H++[.arr 3 [.agg [.int .i64 0,.int .i64 0,.int .i64 0]] true 0]):=rfl
theorem Dg (H:Heap) (s:St):Q0 Tp (H++[.arr 3 [.agg [.int .i64 0,.int .i64 0,.int .i64 0]] true 0]) 42 (.ptr H.length 0 0 1) (Qa s)=some (H++[bT s]):=by
 have:=VM (P:=Tp) (H:=H++[.arr 3 [.agg [.int .i64 0,.int .i64 0,.int .i64 0]] true 0]) (t:=42) (b:=H.length) (i:=0) (tot:=1) (k:=3) (mx:=0) (els:=[.agg [.int .i64 0,.int .i64 0,.int .i64 0]]) (cs:=[.int .i64 0,.int .i64 0,.int .i64 0]) (new:=[.int .i64 s.1,.int .i64 s.2.1,.int .i64 s.2.2]) (by rw [qY (qB _),qR];rfl) rfl rfl z42 rfl (by simp) rfl (by simp [bndL,bnd])
 unfold Qa
 rw [this]
 refine congrArg some ?_
 rw [zI _ _ (qB _),qR]
 rfl
theorem QrY (H:Heap) (B:Blk):(H++[B])[H.length]?=some B:=by rw [qY (qB _),qR];rfl
theorem QcE (b:Nat):Qr Tp 42 (.ptr b 0 0 1) 0=some (.ptr b 0 0 1):=by kernel_rfl
theorem QcF (b:Nat):Qr Tp 42 (.ptr b 0 0 1) 1=some (.ptr b 0 1 1):=by kernel_rfl
theorem Qnf (b:Nat):Qr Tp 42 (.ptr b 0 0 1) 2=some (.ptr b 0 2 1):=by kernel_rfl
theorem QrZ {b n:Nat} {v:Int} (h:0≤v∧v<(n:Int)) {cap:Option Nat}:ZI Tp 24 (.sl b 0 n cap n 1) (.int .i64 v)=some (.ptr b v.toNat 0 n):=by
 have:=JM (b:=b) (cap:=cap) u24 z3 (i:=v.toNat) (len:=n) (by omega)
 rwa [show ((v.toNat:Nat):Int)=v by omega] at this
theorem QgD (a b:List Int) (H:Heap):Zt (.tuple [.own 1 (a.map Qc),.own 1 (b.map Qc)]) H=(.tuple [.sl H.length 0 a.length none a.length 1,.sl (H.length+1) 0 b.length none b.length 1],H++[bI a]++[bI b]):=by
 have h:∀(l:List Int) (H:Heap),Wb (.own 1 (l.map Qc)) H=(.sl H.length 0 l.length none l.length 1,H++[bI l]):=fun l H=>by
  simp only [Wb,Kq,qE];rfl
 simp only [Zt,Zs,ZK,h,qC,qG,jN]
def frT (l:List St):List Int:=KO l (Qh l)
theorem Qng (l:List St):(frT l).length≤l.length:=by
 have:=zA (fun k=>decide (k∈tkT l (Qh l))) (Qg l.length)
 rwa [QM] at this
theorem WF {g:List Int} {i:Nat} (h:i<g.length):g.take (i+1)=g.take i++[g.getD i 0]:=by
 rw [List.take_add_one,zH h,QA h];rfl
theorem Qnh (l:List St) (t:List Int):∀i,i≤t.length→∀x∈tkT l (t.take i),x∈t:=by
 intro i
 induction i with
 | zero=>intro _ x hx;simp [tkT,ksT] at hx
 | succ i ih =>
  intro hi x hx
  rw [ZS l t (by omega)] at hx
  split at hx
  ·rcases List.mem_append.1 hx with h | h
   ·exact ih (by omega) x h
   ·rw [List.mem_singleton.1 h];exact Qw 0 (by omega)
  ·exact ih (by omega) x hx
theorem ZA {l:List St} {x:Int} (h:x∈Qd l):0≤x∧x<(l.length:Int):=by
 have:=Qnh l (Qh l) (Qh l).length (qB _) x (by rw [qL];exact h)
 exact ordT_mem.1 this
theorem QgE {H:Heap} {b k:Nat} {o:List Int} (hb:H[b]?=some (bI o)) (hk:o.length=k) (m e:Int):Wv H false (.tuple [.sl b 0 k none k 1,.int .i64 m,.int .i64 e])=some (.tuple [.own 1 (o.map Qc),.int .i64 m,.int .i64 e]):=by
 have hr:=W0 (H:=H) (no:=[b]) (b:=b) (k:=1) (m:=k) (cap:=none) (els:=o.map Qc) hb (by simpa using hk) (Wj (fun r=>Z7 4 r) _)
 have ho:QD H false (.tuple [.sl b 0 k none k 1,.int .i64 m,.int .i64 e])=[b]:=by simp [QD,cellsOf,W5,hb]
 simp only [Wv,ho,List.nodup_cons,List.not_mem_nil,not_false_eq_true,List.nodup_nil,and_self,if_true,WP,mapO,hr]
 rfl
theorem QaF {t s:List Int} (h:s.Sublist t) (hn:t.Nodup):t.filter (fun x=>decide (x∈s))=s:=by
 induction h with
 | slnil=>rfl
 | @cons s t a h ih =>
  have hn':=List.nodup_cons.1 hn
  rw [qZ (by simpa using fun c=>hn'.1 (h.subset c))]
  exact ih hn'.2
 | @cons_cons s t a h ih =>
  have hn':=List.nodup_cons.1 hn
  rw [jA (by simp)]
  refine congrArg (a::·) ?_
  rw [← ih hn'.2]
  refine (zV fun x hx=>?_)
  have:x≠a:=fun c=>hn'.1 (c▸hx)
  rw [ih hn'.2]
  simp [this]
theorem JO (l:List St) (t:List Int):∀i,i≤t.length→(tkT l (t.take i)).Sublist (t.take i):=by
 intro i
 induction i with
 | zero=>intro _;exact List.Sublist.refl _
 | succ i ih =>
  intro hi
  rw [ZS l t (by omega),WF (by omega)]
  split
  ·exact (ih (by omega)).append (List.Sublist.refl _)
  ·exact (ih (by omega)).trans (List.sublist_append_left _ _)
theorem KP (l:List St):(Qh l).Nodup:=(Kt l l.length).nodup_iff.2 (Zm _)
theorem frT_mem {l:List St} {x:Int}:x∈frT l↔x∈Qd l:=by
 rw [frT,KO,jE]
 exact ⟨fun h=>of_decide_eq_true h.2,fun h=>⟨startT_mem.2 (ZA h),decide_eq_true h⟩⟩
theorem SF (l:List St):(Qh l).filter (fun x=>decide (x∈Qd l))=Qd l:=by
 have:=JO l (Qh l) (Qh l).length (qB _)
 rw [qL] at this
 exact QaF this (KP l)
theorem Qes (l:List St):(frT l).length=(Qd l).length:=by
 have h:((Qh l).filter fun x=>decide (x∈Qd l)).Perm (frT l):=(Kt l l.length).filter _
 rw [← h.length_eq,SF]
inductive Cn (l:List St) (t:List Int):Int→Int→Prop
 | refl (v:Int):Cn l t v v
 | edge {k:Int} (h:k∈t):Cn l t (sA l k) (sB l k)
 | symm {u v:Int} (h:Cn l t u v):Cn l t v u
 | trans {u v w:Int} (h:Cn l t u v) (h2:Cn l t v w):Cn l t u w
theorem Cn.mono {l:List St} {t t':List Int} (hs:∀k∈t,k∈t') {u v:Int} (h:Cn l t u v):Cn l t' u v:=by
 induction h with
 | refl v=>exact .refl v
 | edge h=>exact .edge (hs _ h)
 | symm _ ih=>exact .symm ih
 | trans _ _ h1 h2=>exact .trans h1 h2
def lb (l:List St) (t:List Int) (v:Int):Int:=(Qy l t).getD v.toNat 0
section
variable {l:List St} (he:Jk l=true) {t:List Int} (ht:∀k∈t,0≤k∧k<(l.length:Int))
include he ht
theorem W2 {v:Int} (hv:0≤v∧v<16):0≤lb l t v∧lb l t v≤v∧lb l t (lb l t v)=lb l t v:=by
 have h:=(JL he ht).lab v.toNat (by omega)
 refine ⟨h.1,?_,h.2.2.2⟩
 have:=h.2.1
 show (ksT l t).2.1.getD v.toNat 0≤v
 omega
theorem G6 {v:Int} (hv:0≤v∧v<16):0≤lb l t v∧lb l t v<16:=by
 have:=W2 he ht hv
 omega
theorem Z8 {i:Nat} (hi:i<t.length) {v:Int} (hv:0≤v∧v<16):lb l (t.take (i+1)) v=WN (min (lb l (t.take i) (sA l (t.getD i 0))) (lb l (t.take i) (sB l (t.getD i 0)))) (max (lb l (t.take i) (sA l (t.getD i 0))) (lb l (t.take i) (sB l (t.getD i 0)))) (lb l (t.take i) v):=by
 have hU:=JL he (t:=t.take i) fun k hk=>ht k (qX hk)
 have hl:(Qy l (t.take i)).length=16:=hU.lg
 rw [lb,Kv l t hi,Zo,Vp (by rw [hl];omega)]
 rfl
theorem QaG:∀i,i≤t.length→∀v:Int,0≤v∧v<16→Cn l (t.take i) (lb l (t.take i) v) v:=by
 intro i
 induction i with
 | zero =>
  intro _ v hv
  have:lb l (t.take 0) v=v:=by
   show (Qg 16).getD v.toNat 0=v
   have:v.toNat<16:=by omega
   simp [Qg,qO,this];omega
  rw [this];exact .refl v
 | succ i ih =>
  intro hi v hv
  have hk:=ht _ (Qw 0 (show i<t.length by omega))
  obtain ⟨ea,eb⟩:=Ku he hk
  have ih:=ih (by omega)
  have hm:∀x∈t.take i,x∈t.take (i+1):=fun x hx=>by rw [WF (by omega)];exact jG _ hx
  have hA:=(ih _ ea).mono hm
  have hB:=(ih _ eb).mono hm
  have hE:Cn l (t.take (i+1)) (sA l (t.getD i 0)) (sB l (t.getD i 0)):=.edge (by rw [WF (by omega)];simp)
  have hAB:Cn l (t.take (i+1)) (lb l (t.take i) (sA l (t.getD i 0))) (lb l (t.take i) (sB l (t.getD i 0))):=.trans hA (.trans hE (.symm hB))
  have hV:=(ih v hv).mono hm
  rw [Z8 he ht (by omega) hv]
  generalize lb l (t.take i) (sA l (t.getD i 0))=A at *
  generalize lb l (t.take i) (sB l (t.getD i 0))=B at *
  unfold WN
  split
  ·rename_i hx
   rw [hx] at hV
   refine .trans ?_ hV
   rcases zL A B with c | c
   ·rw [zW c,zX c];exact hAB
   ·rw [zY c,zZ c];exact .symm hAB
  ·exact hV
theorem Zz {v:Int} (hv:0≤v∧v<16):Cn l t (lb l t v) v:=by
 have:=QaG he ht t.length (qB _) v hv
 rwa [qL] at this
theorem G7 {j:Nat} (hj:j<t.length):∀d,j+1+d≤t.length→lb l (t.take (j+1+d)) (sA l (t.getD j 0))=lb l (t.take (j+1+d)) (sB l (t.getD j 0)):=by
 have hk:=ht _ (Qw 0 hj)
 obtain ⟨ea,eb⟩:=Ku he hk
 intro d
 induction d with
 | zero =>
  intro _
  rw [zD,Z8 he ht hj ea,Z8 he ht hj eb]
  unfold WN
  split <;> split <;> omega
 | succ d ih =>
  intro h
  have:=ih (by omega)
  rw [show j+1+(d+1)=(j+1+d)+1 by omega,Z8 he ht (by omega) ea,Z8 he ht (by omega) eb,this]
theorem Ue {k:Int} (hk:k∈t):lb l t (sA l k)=lb l t (sB l k):=by
 obtain ⟨j,hj,rfl⟩:=jU hk
 have:=G7 he ht hj (t.length-(j+1)) (by omega)
 rw [show j+1+(t.length-(j+1))=t.length by omega,qL,QA hj] at this
 exact this
theorem Vt {u v:Int} (h:Cn l t u v):lb l t u=lb l t v:=by
 induction h with
 | refl v=>rfl
 | edge h=>exact Ue he ht h
 | symm _ ih=>exact ih.symm
 | trans _ _ h1 h2=>exact h1.trans h2
theorem XC {u v:Int} (hu:0≤u∧u<16) (hv:0≤v∧v<16):lb l t u=lb l t v↔Cn l t u v :=
 ⟨fun h=>.trans (.symm (Zz he ht hu)) (h▸Zz he ht hv),Vt he ht⟩
theorem SG {t':List Int} (ht':∀k∈t',0≤k∧k<(l.length:Int)) (hs:∀k∈t,k∈t') {v:Int} (hv:0≤v∧v<16):lb l t' v≤lb l t v:=by
 have h1:=Vt he ht' ((Zz he ht hv).mono hs)
 have h2:=W2 he ht' (G6 he ht hv)
 omega
end
theorem QgF {l:List St} (he:Jk l=true) {t t':List Int} (ht:∀k∈t,0≤k∧k<(l.length:Int)) (hs:∀k,k∈t↔k∈t') {v:Int} (hv:0≤v∧v<16):lb l t v=lb l t' v:=by
 have ht':∀k∈t',0≤k∧k<(l.length:Int):=fun k hk=>ht k ((hs k).2 hk)
 have h1:=SG he ht ht' (fun k hk=>(hs k).1 hk) hv
 have h2:=SG he ht' ht (fun k hk=>(hs k).2 hk) hv
 omega
theorem X5 {l:List St} (he:Jk l=true) {t t':List Int} (ht:∀k∈t,0≤k∧k<(l.length:Int)) (hs:∀k,k∈t↔k∈t'):Qy l t=Qy l t':=by
 have ht':∀k∈t',0≤k∧k<(l.length:Int):=fun k hk=>ht k ((hs k).2 hk)
 have h1:(Qy l t).length=16:=(JL he ht).lg
 have h2:(Qy l t').length=16:=(JL he ht').lg
 apply zT (by rw [h1,h2])
 intro i hi hi'
 have:=QgF he ht hs (v:=(i:Int)) (by omega)
 rw [lb,lb,qP,QA hi,QA hi'] at this
 exact this
def rt (g:List Int):Nat:=((qD 16).filter fun v=>decide (g.getD v 0=(v:Int))).length
theorem KQ {α:Type} {p q:α→Bool} {x:α}:∀{s:List α},s.Nodup→x∈s→p x=true→(∀y∈s,y≠x→q y=p y)→q x=false→(s.filter p).length=(s.filter q).length+1
 | [],_,h,_,_,_=>by cases h
 | y::s,hn,h,hp,hq,hx=>by
  obtain ⟨h1,h2⟩:=List.nodup_cons.1 hn
  by_cases e:y=x
  ·subst e
   rw [jA hp,qZ (by simp [hx]),qG]
   refine congrArg (·+1) (congrArg _ (zV fun z hz=>?_))
   exact (hq z (qI _ hz) fun c=>h1 (c▸hz)).symm
  ·have hm:x∈s:=(List.mem_cons.1 h).resolve_left fun c=>e c.symm
   have ih:=KQ h2 hm hp (fun z hz hne=>hq z (qI _ hz) hne) hx
   have hy:=hq y (qJ ..) e
   by_cases c:p y=true
   ·rw [jA c,jA (by rw [hy];exact c),qG,qG,ih]
   ·rw [qZ c,qZ (by rw [hy];exact c),ih]
theorem QgG {us g:List Int} (h:Up us g) {u v:Nat} (hu:u<16) (hv:v<16) (hne:g.getD u 0≠g.getD v 0):rt g=rt (Zo g (u:Int) (v:Int))+1:=by
 obtain ⟨a1,a2,a3,a4⟩:=h.lab u hu
 obtain ⟨b1,b2,b3,b4⟩:=h.lab v hv
 have hget:∀w:Nat,w<16→(Zo g (u:Int) (v:Int)).getD w 0=WN (min (g.getD u 0) (g.getD v 0)) (max (g.getD u 0) (g.getD v 0)) (g.getD w 0):=fun w hw=>by
  rw [Zo,Vp (by rw [h.lg];exact hw),qP,qP]
 generalize hA:g.getD u 0=A at *
 generalize hB:g.getD v 0=B at *
 have hmx:0≤max A B∧max A B<16:=by omega
 have hmr:g.getD (max A B).toNat 0=max A B:=by
  rcases zL A B with c | c
  ·rw [zX c];exact b4
  ·rw [zZ c];exact a4
 have hmn:g.getD (min A B).toNat 0=min A B:=by
  rcases zL A B with c | c
  ·rw [zW c];exact a4
  ·rw [zY c];exact b4
 refine KQ (x:=(max A B).toNat) List.nodup_range (List.mem_range.2 (by omega)) (decide_eq_true (by rw [hmr];omega)) (fun y hy hyne=>?_) ?_
 ·have hy:=List.mem_range.1 hy
  rw [hget y hy,decide_eq_decide]
  unfold WN
  split
  ·rename_i hc
   constructor
   ·intro e
    exfalso
    have:(min A B).toNat=y:=by omega
    rw [← this,hmn] at hc
    omega
   ·intro e;exfalso;omega
  ·exact Iff.rfl
 ·rw [hget _ (by omega),hmr]
  unfold WN
  rw [if_pos rfl]
  exact decide_eq_false (by omega)
theorem Qet:rt (Qg 16)=16:=by decide +kernel
theorem Z9 {l:List St} (he:Jk l=true) {t:List Int} (ht:∀k∈t,0≤k∧k<(l.length:Int)):(tkT l t).length+rt (Qy l t)=16:=by
 have key:∀i,i≤t.length→(tkT l (t.take i)).length+rt (Qy l (t.take i))=16:=by
  intro i
  induction i with
  | zero=>intro _;exact Qet
  | succ i ih =>
   intro hi
   have ih:=ih (by omega)
   have hk:=ht _ (Qw 0 (show i<t.length by omega))
   obtain ⟨ea,eb⟩:=Ku he hk
   have hU:=JL he (t:=t.take i) fun k hk=>ht k (qX hk)
   rw [ZS l t (by omega),Kv l t (by omega)]
   split
   ·rename_i hne
    have:=QgG hU (u:=(sA l (t.getD i 0)).toNat) (v:=(sB l (t.getD i 0)).toNat) (by omega) (by omega) hne
    rw [show (((sA l (t.getD i 0)).toNat:Nat):Int)=sA l (t.getD i 0) by omega,show (((sB l (t.getD i 0)).toNat:Nat):Int)=sB l (t.getD i 0) by omega] at this
    rw [qC,qU]
    show (tkT l (t.take i)).length+1+rt (Zo (ksT l (t.take i)).2.1 _ _)=16
    have e:Qy l (t.take i)=(ksT l (t.take i)).2.1:=rfl
    rw [e] at ih
    omega
   ·rename_i hne
    have e:Zo (Qy l (t.take i)) (sA l (t.getD i 0)) (sB l (t.getD i 0))=Qy l (t.take i):=Yp (Decidable.not_not.1 hne)
    rw [e];exact ih
 have:=key t.length (qB _)
 rwa [qL] at this
theorem Q7 {l:List St} (he:Jk l=true) {t t':List Int} (ht:∀k∈t,0≤k∧k<(l.length:Int)) (hs:∀k,k∈t↔k∈t'):(tkT l t).length=(tkT l t').length:=by
 have h1:=Z9 he ht
 have h2:=Z9 he (t:=t') fun k hk=>ht k ((hs k).2 hk)
 rw [X5 he ht hs] at h1
 omega
theorem Qik {l:List St} {t:List Int}:∀i,i≤t.length→Qy l (tkT l (t.take i))=Qy l (t.take i)∧tkT l (tkT l (t.take i))=tkT l (t.take i):=by
 intro i
 induction i with
 | zero=>intro _;exact ⟨rfl,rfl⟩
 | succ i ih =>
  intro hi
  obtain ⟨h1,h2⟩:=ih (by omega)
  have hts:=ZS l t (i:=i) (by omega)
  have hls:=Kv l t (i:=i) (by omega)
  by_cases c:(Qy l (t.take i)).getD (sA l (t.getD i 0)).toNat 0≠(Qy l (t.take i)).getD (sB l (t.getD i 0)).toNat 0
  ·rw [if_pos c] at hts
   rw [hts,hls]
   have hn:=fun s:List Int=>WF (g:=s++[t.getD i 0]) (i:=s.length) (by simp)
   have a1:=Kv l (tkT l (t.take i)++[t.getD i 0]) (i:=(tkT l (t.take i)).length) (by simp)
   have a2:=ZS l (tkT l (t.take i)++[t.getD i 0]) (i:=(tkT l (t.take i)).length) (by simp)
   have g0:(tkT l (t.take i)++[t.getD i 0]).getD (tkT l (t.take i)).length 0=t.getD i 0:=by simp [qO]
   rw [jP (by simp),g0,wA,h1] at a1 a2
   rw [a1,a2,h2,if_pos c]
   exact ⟨rfl,rfl⟩
  ·rw [if_neg c] at hts
   rw [hts,hls,h1,h2,Yp (Decidable.not_not.1 c)]
   exact ⟨rfl,rfl⟩
theorem Qeu (l:List St):Qy l (Qd l)=Qy l (Qh l)∧tkT l (Qd l)=Qd l:=by
 have:=Qik (l:=l) (t:=Qh l) (Qh l).length (qB _)
 rwa [qL] at this
end Go.Proofs.Ytiejmoglooaalaa
end
section
open Go Go.HL
namespace Go.Proofs.Ytiejmoglooaalaa
set_option maxRecDepth 100000
set_option linter.unusedSectionVars false
open Go.Proofs.Try renaming prog → Tp
open Go.HL.HV renaming undef → Ud
section
variable {F:FuncId→Option (List HV→Option HV)}
noncomputable def B93:Code:=Try.f93.body.getD .skip
abbrev Dh (v0 v1 v4 v5 v7 v8:HV):Env:=[(0,v0),(1,v1),(4,v4),(5,v5),(7,v7),(8,v8)]
end
abbrev e93 (la:List HV) (x:Int) (u3 u4 u5:HV):Env:=Dh (.a la) (.i x) (.i 0) u3 u4 u5
section
variable {F:FuncId→Option (List HV→Option HV)}
variable (la:List HV) (x:Int) (H:Heap)
include la x H
theorem Qni:RU F 93 2 B93 [(0,.a la),(1,.i x)] H .normal (e93 la x Ud Ud Ud) H :=
 hx 0 60 []
end
section
variable {F:FuncId→Option (List HV→Option HV)}
variable (la:List HV) (x:Int) (H:Heap)
include la x H
theorem Qnj (y5 y7 y8:HV:=Ud): RU F 93 12 B93 (e93 la x y5 y7 y8) H .normal (e93 la x y5 (.i (la.length:Int)) (.i 0)) H :=
 hx 0 60 []
theorem Qnk (m i:Nat) (a:Int) (g0:(i:Int)<(m:Int)) (g1:IX 24 (.a la) (.n i) (.vptr (.i a))) (g2:x=a) (y5:HV:=Ud): RU F 93 52 B93 (e93 la x y5 (.n m) (.n i)) H .ret (Dh (.a la) (.i x) (.n i) (.n i) (.n m) (.n i)) H :=
 hx 0 60 [jT 2 0 H g0,jO 4 3 H g1,jT 4 5 H g2]
theorem Qnl (m i:Nat) (a:Int) (g0:(i:Int)<(m:Int)) (g1:IX 24 (.a la) (.n i) (.vptr (.i a))) (g2:¬(x=a)) (y5:HV:=Ud): RU F 93 52 B93 (e93 la x y5 (.n m) (.n i)) H .normal (e93 la x (.n i) (.n m) (.i (qA.wrap ((i:Int)+1)))) H :=
 hx 0 60 [jT 2 0 H g0,jO 4 3 H g1,jF 4 5 H g2]
theorem Qnm (m i:Nat) (a:Int) (g0:¬((i:Int)<(m:Int))) (y5:HV:=Ud): RU F 93 52 B93 (e93 la x y5 (.n m) (.n i)) H (.exit 0) (e93 la x y5 (.n m) (.n i)) H :=
 hx 0 60 [jF 2 0 H g0]
theorem Qnn (y5 y7 y8:HV:=Ud): RU F 93 7 B93 (e93 la x y5 y7 y8) H .ret (Dh (.a la) (.i x) (.i (-1)) y5 y7 y8) H :=
 hx 0 60 []
end
section
variable {F:FuncId→Option (List HV→Option HV)}
noncomputable def B73:Code:=Try.f73.body.getD .skip
abbrev Qil (v0 v1 v4:HV):Env:=[(0,v0),(1,v1),(4,v4)]
theorem Qno (la:List HV) (x:Int) (H:Heap) (r:Int) {H0:Heap} (g0:CM F 93 [.a la,.i x] H (.i r) H0) (g1:0≤r): RU F 73 1 B73 [(0,.a la),(1,.i x)] H .ret (Qil (.a la) (.i x) (.bool true)) H0 :=
 hx 0 60 [jD 1 2 g0,jT 1 3 H0 g1]
theorem Qnp (la:List HV) (x:Int) (H:Heap) (r:Int) {H0:Heap} (g0:CM F 93 [.a la,.i x] H (.i r) H0) (g1:¬(0≤r)): RU F 73 1 B73 [(0,.a la),(1,.i x)] H .ret (Qil (.a la) (.i x) (.bool false)) H0 :=
 hx 0 60 [jD 1 2 g0,jF 1 3 H0 g1]
noncomputable def B59:Code:=Try.f59.body.getD .skip
abbrev Di (v0 v1 v2 v3 v6 v7 v9 v10 v11 v21 v22 v23:HV):Env:=[(0,v0),(1,v1),(2,v2),(3,v3),(6,v6),(7,v7),(9,v9),(10,v10),(11,v11),(21,v21),(22,v22),(23,v23)]
end
abbrev e59 (n:Int) (ls:List HV) (la:List HV) (kk:Int) (u3 u5 u6 u7 u8 u9 u10 u11:HV):Env:=Di (.N n ls) (.a la) (.i kk) u3 (.imm .lit 1 []) u5 u6 u7 u8 u9 u10 u11
section
variable {F:FuncId→Option (List HV→Option HV)}
variable (N:Nat) (n:Int) (ls la:List HV) (kk:Int)
include N n ls la kk
theorem Qnq:RU F 59 2 B59 [(0,.N n ls),(1,.a la),(2,.i kk)] [] .normal (e59 n ls la kk (.q 0) Ud Ud Ud Ud Ud Ud Ud) [.arr 2 [.N n ls] true 0] :=
 hx N 60 []
end
section
variable {F:FuncId→Option (List HV→Option HV)}
variable (N:Nat) (n:Int) (ls la:List HV) (kk:Int)
include N n ls la kk
theorem Qnr (H:Heap) (wb c pb:Nat) (r:Int) {H0:Heap} {H1:Heap} (g0:LD H 66 (.q 0) (.N n ls)) (g1:CM F 72 [.a la,.i kk] H (.s wb c) H0) (g2:CN F N 57 [.N n ls,.s wb c] H0 (.tuple [.q pb,.i r]) H1) (gS1:(WT ((QH Tp H 66 (.q 0)).map (fun v=>(v,(H:Heap)))) ((QH Tp H0 66 (.q 0)).map (fun v=>(v,(H0:Heap)))) H H0&&true)=true) (y7 y9 y10 y11 y21 y22 y23:HV:=Ud): RU F 59 6 B59 (e59 n ls la kk (.q 0) y7 y9 y10 y11 y21 y22 y23) H .normal (e59 n ls la kk (.q 0) (.q pb) y9 y10 y11 y21 y22 y23) H1 :=
 hx N 60 [jK gS1,jO 1 0 H g0,jD 1 3 g1,jC 1 4 g2]
theorem Qns (H:Heap) (pb:Nat) {v0:HV} {H0:Heap} (g0:some (HV.sl H.length 0 0 none 0 1,H++[Blk.b []])=some (v0,H0)) (y9 y10 y11 y21 y22 y23:HV:=Ud): RU F 59 14 B59 (e59 n ls la kk (.q 0) (.q pb) y9 y10 y11 y21 y22 y23) H .normal (e59 n ls la kk (.q 0) (.q pb) v0 y10 y11 y21 y22 y23) H0 :=
 hx N 60 [jR 2 0 g0]
theorem Qnt (H:Heap) (pb ob m:Nat) (g0:LD H 22 (.ptr 0 0 1 1) (.g ls)) (y10 y11 y21 y22 y23:HV:=Ud): RU F 59 60 B59 (e59 n ls la kk (.q 0) (.q pb) (.s ob m) y10 y11 y21 y22 y23) H .normal (e59 n ls la kk (.q 0) (.q pb) (.s ob m) y10 y11 (.g ls) (.i (ls.length:Int)) (.i 0)) H :=
 hx N 60 [jO 3 1 H g0]
theorem Qnu (H:Heap) (pb ob m c i:Nat) (a b w:Int) {a0:HV} {H0:Heap} {H1:Heap} {H2:Heap} (g0:(i:Int)<(c:Int)) (g1:IX 22 (.g ls) (.n i) (.vptr (.agg [.i a,.i b,.i w]))) (g2:some (Q8 (.agg [.i 0,.i 0,.i 0]) H)=some (a0,H0)) (g3:ST H0 42 (a0) (.agg [.i a,.i b,.i w]) H1) (g4:CM F 73 [.a la,.n i] H1 (.bool true) H2) (gS6:(true&&true)=true) (y3 y10 y11:HV:=Ud): RU F 59 244 B59 (e59 n ls la kk y3 (.q pb) (.s ob m) y10 y11 (.g ls) (.n c) (.n i)) H .normal (e59 n ls la kk y3 (.q pb) (.s ob m) (.n i) a0 (.g ls) (.n c) (.i (qA.wrap ((i:Int)+1)))) H2 :=
 hx N 60 [jT 4 0 H g0,jO 5 1 H g1,jR 5 3 g2,jS 5 5 g3,jK gS6,jD 6 2 g4]
theorem Qnv (H:Heap) (pb ob m c i:Nat) (a b w:Int) {a0:HV} {H0:Heap} {H1:Heap} {H2:Heap} {a1:HV} {r0:Int} {H3:Heap} {a2:HV} {r1:Int} {H4:Heap} (g0:(i:Int)<(c:Int)) (g1:IX 22 (.g ls) (.n i) (.vptr (.agg [.i a,.i b,.i w]))) (g2:some (Q8 (.agg [.i 0,.i 0,.i 0]) H)=some (a0,H0)) (g3:ST H0 42 (a0) (.agg [.i a,.i b,.i w]) H1) (g4:CM F 73 [.a la,.n i] H1 (.bool false) H2) (g5:Qr Tp 42 a0 0=some (a1)) (g6:LD H2 3 (a1) (.i a)) (g7:CN F N 55 [.q pb,.i a] H2 (.i r0) H3) (g8:Qr Tp 42 a0 1=some (a2)) (g9:LD H3 3 (a2) (.i b)) (g10:CN F N 55 [.q pb,.i b] H3 (.i r1) H4) (g11:r0=r1) (gS6:(WT ((QH Tp H3 3 (a2)).map (fun v=>(v,(H3:Heap)))) ((QH Tp H2 3 (a2)).map (fun v=>(v,(H2:Heap)))) H3 H2&&true)=true) (y3 y10 y11:HV:=Ud): RU F 59 244 B59 (e59 n ls la kk y3 (.q pb) (.s ob m) y10 y11 (.g ls) (.n c) (.n i)) H .normal (e59 n ls la kk y3 (.q pb) (.s ob m) (.n i) a0 (.g ls) (.n c) (.i (qA.wrap ((i:Int)+1)))) H4 :=
 hx N 60 [jT 4 0 H g0,jO 5 1 H g1,jR 5 3 g2,jS 5 5 g3,jK gS6,jD 6 2 g4,jO 6 6 H2 g5,jO 6 7 H2 g6,jC 6 8 g7,jO 6 10 H3 g8,jO 6 11 H3 g9,jC 6 12 g10,jB 6 13 H4 (congrArg not (decide_eq_true g11))]
theorem Qnw (H:Heap) (pb ob m c i:Nat) (a b w:Int) {a0:HV} {H0:Heap} {H1:Heap} {H2:Heap} {a1:HV} {r0:Int} {H3:Heap} {a2:HV} {r1:Int} {H4:Heap} {H5:Heap} {v0:HV} (g0:(i:Int)<(c:Int)) (g1:IX 22 (.g ls) (.n i) (.vptr (.agg [.i a,.i b,.i w]))) (g2:some (Q8 (.agg [.i 0,.i 0,.i 0]) H)=some (a0,H0)) (g3:ST H0 42 (a0) (.agg [.i a,.i b,.i w]) H1) (g4:CM F 73 [.a la,.n i] H1 (.bool false) H2) (g5:Qr Tp 42 a0 0=some (a1)) (g6:LD H2 3 (a1) (.i a)) (g7:CN F N 55 [.q pb,.i a] H2 (.i r0) H3) (g8:Qr Tp 42 a0 1=some (a2)) (g9:LD H3 3 (a2) (.i b)) (g10:CN F N 55 [.q pb,.i b] H3 (.i r1) H4) (g11:¬(r0=r1)) (gS6:(WT ((QH Tp H3 3 (a2)).map (fun v=>(v,(H3:Heap)))) ((QH Tp H2 3 (a2)).map (fun v=>(v,(H2:Heap)))) H3 H2&&true)=true) (g13:Zu H4 1 8 (.s ob m) [.n i]=some (v0,H5)) (y3 y10 y11:HV:=Ud): RU F 59 244 B59 (e59 n ls la kk y3 (.q pb) (.s ob m) y10 y11 (.g ls) (.n c) (.n i)) H .normal (e59 n ls la kk y3 (.q pb) v0 (.n i) a0 (.g ls) (.n c) (.i (qA.wrap ((i:Int)+1)))) H5 :=
 hx N 60 [jT 4 0 H g0,jO 5 1 H g1,jR 5 3 g2,jS 5 5 g3,jK gS6,jD 6 2 g4,jO 6 6 H2 g5,jO 6 7 H2 g6,jC 6 8 g7,jO 6 10 H3 g8,jO 6 11 H3 g9,jC 6 12 g10,jB 6 13 H4 (congrArg not (decide_eq_false g11)),jR 7 3 g13]
theorem Qnx (H:Heap) (pb ob m c i:Nat) (a b w:Int) (g0:¬((i:Int)<(c:Int))) (y3 y10 y11:HV:=Ud): RU F 59 244 B59 (e59 n ls la kk y3 (.q pb) (.s ob m) y10 y11 (.g ls) (.n c) (.n i)) H (.exit 0) (e59 n ls la kk y3 (.q pb) (.s ob m) y10 y11 (.g ls) (.n c) (.n i)) H :=
 hx N 60 [jF 4 0 H g0]
theorem Qny (H:Heap) (pb ob m:Nat) (y3 y10 y11 y21 y22 y23:HV:=Ud): RU F 59 31 B59 (e59 n ls la kk y3 (.q pb) (.s ob m) y10 y11 y21 y22 y23) H .ret (Di (.N n ls) (.a la) (.i kk) y3 (.s ob m) (.q pb) (.s ob m) y10 y11 y21 y22 y23) H :=
 hx N 60 []
end
section
variable {F:FuncId→Option (List HV→Option HV)}
noncomputable def B92:Code:=Try.f92.body.getD .skip
abbrev Qim (v0 v1 v3:HV):Env:=[(0,v0),(1,v1),(3,v3)]
theorem Qnz (x:Int) (kb:Nat) (H:Heap) (v:Int) (g0:LD H 3 (.q kb) (.i v)) (g1:x=v): RU F 92 1 B92 [(0,.i x),(1,.q kb)] H .ret (Qim (.i x) (.q kb) (.bool true)) H :=
 hx 0 60 [jO 1 1 H g0,jT 1 2 H g1]
theorem QnA (x:Int) (kb:Nat) (H:Heap) (v:Int) (g0:LD H 3 (.q kb) (.i v)) (g1:¬(x=v)): RU F 92 1 B92 [(0,.i x),(1,.q kb)] H .ret (Qim (.i x) (.q kb) (.bool false)) H :=
 hx 0 60 [jO 1 1 H g0,jF 1 2 H g1]
noncomputable def Kw:Code:=Try.f107.body.getD .skip
abbrev XD (v0 v1 v4 v5 v7 v8:HV):Env:=[(0,v0),(1,v1),(4,v4),(5,v5),(7,v7),(8,v8)]
end
abbrev G8 (lb:Nat) (m:Nat) (kb:Nat) (u3 u4 u5:HV):Env:=XD (.s lb m) (.func 92 [] [.q kb]) (.i 0) u3 u4 u5
section
variable {F:FuncId→Option (List HV→Option HV)}
variable (N:Nat) (lb m kb:Nat) (H:Heap)
include N lb m kb H
theorem QnB:RU F 107 2 Kw [(0,.s lb m),(1,.func 92 [] [.q kb])] H .normal (G8 lb m kb Ud Ud Ud) H :=
 hx N 60 []
end
section
variable {F:FuncId→Option (List HV→Option HV)}
variable (N:Nat) (lb m kb:Nat) (H:Heap)
include N lb m kb H
theorem QnC (y5 y7 y8:HV:=Ud): RU F 107 12 Kw (G8 lb m kb y5 y7 y8) H .normal (G8 lb m kb y5 (.n m) (.i 0)) H :=
 hx N 60 []
theorem QnD (i:Nat) (x:Int) {H0:Heap} (g0:(i:Int)<(m:Int)) (g1:IS 24 lb m i) (g2:LD H 3 (.ptr lb i 0 m) (.i x)) (g3:CN F N 92 [.i x,.q kb] H (.bool true) H0) (y5:HV:=Ud): RU F 107 52 Kw (G8 lb m kb y5 (.n m) (.n i)) H .ret (XD (.s lb m) (.func 92 [] [.q kb]) (.n i) (.n i) (.n m) (.n i)) H0 :=
 hx N 60 [jT 2 0 H g0,jO 4 3 H g1,jO 4 4 H g2,jC 4 5 g3]
theorem QnE (i:Nat) (x:Int) {H0:Heap} (g0:(i:Int)<(m:Int)) (g1:IS 24 lb m i) (g2:LD H 3 (.ptr lb i 0 m) (.i x)) (g3:CN F N 92 [.i x,.q kb] H (.bool false) H0) (y5:HV:=Ud): RU F 107 52 Kw (G8 lb m kb y5 (.n m) (.n i)) H .normal (G8 lb m kb (.n i) (.n m) (.i (qA.wrap ((i:Int)+1)))) H0 :=
 hx N 60 [jT 2 0 H g0,jO 4 3 H g1,jO 4 4 H g2,jC 4 5 g3]
theorem QnF (i:Nat) (x:Int) (g0:¬((i:Int)<(m:Int))) (y5:HV:=Ud): RU F 107 52 Kw (G8 lb m kb y5 (.n m) (.n i)) H (.exit 0) (G8 lb m kb y5 (.n m) (.n i)) H :=
 hx N 60 [jF 2 0 H g0]
theorem QnG (y5 y7 y8:HV:=Ud): RU F 107 7 Kw (G8 lb m kb y5 y7 y8) H .ret (XD (.s lb m) (.func 92 [] [.q kb]) (.i (-1)) y5 y7 y8) H :=
 hx N 60 []
end
section
variable {F:FuncId→Option (List HV→Option HV)}
noncomputable def B90:Code:=Try.f90.body.getD .skip
abbrev SH (v0 v1 v4 v5 v6 v7:HV):Env:=[(0,v0),(1,v1),(4,v4),(5,v5),(6,v6),(7,v7)]
end
abbrev e90 (lb:Nat) (m:Nat) (kb:Nat) (u3 u4 u5:HV):Env:=SH (.s lb m) (.func 92 [] [.q kb]) (.imm .lit 1 []) u3 u4 u5
section
variable {F:FuncId→Option (List HV→Option HV)}
variable (N:Nat) (lb m kb:Nat) (H:Heap)
include N lb m kb H
theorem QnH:RU F 90 2 B90 [(0,.s lb m),(1,.func 92 [] [.q kb])] H .normal (e90 lb m kb Ud Ud Ud) H :=
 hx N 60 []
end
section
variable {F:FuncId→Option (List HV→Option HV)}
variable (N:Nat) (lb m kb:Nat) (H:Heap)
include N lb m kb H
theorem QnI (r:Int) {H0:Heap} (g0:CN F N 107 [.s lb m,.func 92 [] [.q kb]] H (.i r) H0) (y5 y6 y7:HV:=Ud): RU F 90 6 B90 (e90 lb m kb y5 y6 y7) H .normal (e90 lb m kb (.i r) y6 y7) H0 :=
 hx N 60 [jC 1 2 g0]
theorem QnJ (r:Int) (g0:r=(-1)) (y6 y7:HV:=Ud): RU F 90 14 B90 (e90 lb m kb (.i r) y6 y7) H .ret (SH (.s lb m) (.func 92 [] [.q kb]) (.s lb m) (.i r) y6 y7) H :=
 hx N 60 [jT 2 1 H g0]
theorem QnK (r:Int) (g0:¬(r=(-1))) (y6 y7:HV:=Ud): RU F 90 14 B90 (e90 lb m kb (.i r) y6 y7) H .normal (e90 lb m kb (.i r) y6 y7) H :=
 hx N 60 [jF 2 1 H g0]
theorem QnL (p:Nat) (y6 y7:HV:=Ud): RU F 90 60 B90 (e90 lb m kb (.n p) y6 y7) H .normal (e90 lb m kb (.n p) (.i (qA.wrap ((p:Int)+1))) y7) H :=
 hx N 60 []
theorem QnM (p i:Nat) (x:Int) {H0:Heap} (g0:(i:Int)<(m:Int)) (g1:IS 24 lb m i) (g2:LD H 3 (.ptr lb i 0 m) (.i x)) (g3:CN F N 92 [.i x,.q kb] H (.bool true) H0) (y7:HV:=Ud): RU F 90 244 B90 (e90 lb m kb (.n p) (.n i) y7) H .normal (e90 lb m kb (.n p) (.i (qA.wrap ((i:Int)+1))) (.i x)) H0 :=
 hx N 60 [jT 5 3 H g0,jO 7 2 H g1,jO 7 3 H g2,jC 8 2 g3]
theorem QnN (p i:Nat) (x:Int) {H0:Heap} {H1:Heap} (g0:(i:Int)<(m:Int)) (g1:IS 24 lb m i) (g2:LD H 3 (.ptr lb i 0 m) (.i x)) (g3:CN F N 92 [.i x,.q kb] H (.bool false) H0) (g4:IS 24 lb m p) (g5:ST H0 3 (.ptr lb p 0 m) (.i x) H1) (y7:HV:=Ud): RU F 90 244 B90 (e90 lb m kb (.n p) (.n i) y7) H .normal (e90 lb m kb (.i (qA.wrap ((p:Int)+1))) (.i (qA.wrap ((i:Int)+1))) (.i x)) H1 :=
 hx N 60 [jT 5 3 H g0,jO 7 2 H g1,jO 7 3 H g2,jC 8 2 g3,jO 9 3 H0 g4,jS 9 4 g5]
theorem QnO (p i:Nat) (x:Int) (g0:¬((i:Int)<(m:Int))) (y7:HV:=Ud): RU F 90 244 B90 (e90 lb m kb (.n p) (.n i) y7) H (.exit 0) (e90 lb m kb (.n p) (.n i) y7) H :=
 hx N 60 [jF 5 3 H g0]
theorem QnP (p:Nat) {H0:Heap} (g0:Jh Tp 24 (.s lb m) (some (.n p)) none none=some (.sl lb p (m-p) none m 1)) (g1:Xh Tp H 24 (.sl lb p (m-p) none m 1)=some (.tuple [],H0)) (g2:Jh Tp 24 (.s lb m) none (some (.n p)) none=some (.sl lb 0 p none m 1)) (y6 y7:HV:=Ud): RU F 90 31 B90 (e90 lb m kb (.n p) y6 y7) H .ret (SH (.s lb m) (.func 92 [] [.q kb]) (.sl lb 0 p none m 1) (.n p) y6 y7) H0 :=
 hx N 60 [jO 11 2 H g0,jR 11 3 g1,jO 12 2 H0 g2]
end
section
variable {F:FuncId→Option (List HV→Option HV)}
noncomputable def B91:Code:=Try.f91.body.getD .skip
abbrev Qr0 (v0 v2:HV):Env:=[(0,v0),(2,v2)]
theorem QnQ (la:List HV) (H:Heap) {H0:Heap} {v0:HV} (g0:VE Tp .eql 24 (.a la)=some (.bool false)) (g1:Zu H 1 8 (.imm .lit 1 []) la=some (v0,H0)): RU F 91 1 B91 [(0,.a la)] H .ret (Qr0 (.a la) v0) H0 :=
 hx 0 60 [jO 1 1 H g0,jR 3 2 g1]
noncomputable def B72:Code:=Try.f72.body.getD .skip
abbrev Qev (v0 v1 v3 v4:HV):Env:=[(0,v0),(1,v1),(3,v3),(4,v4)]
theorem QnR (N:Nat) (la:List HV) (v:Int) (cb c p:Nat): RU F 72 2 B72 [(0,.a la),(1,.i v)] [] .normal (Qev (.a la) (.i v) (.q 0) (.imm .lit 1 [])) [.arr 1 [.i v] true 0] :=
 hx N 60 []
theorem QnS (N:Nat) (la:List HV) (v:Int) (H:Heap) (cb c p:Nat) {H0:Heap} {H1:Heap} (g0:CM F 91 [.a la] H (.s cb c) H0) (g1:CN F N 90 [.s cb c,.func 92 [] [.q 0]] H0 (.sl cb 0 p none c 1) H1): RU F 72 3 B72 (Qev (.a la) (.i v) (.q 0) (.imm .lit 1 [])) H .ret (Qev (.a la) (.i v) (.q 0) (.sl cb 0 p none c 1)) H1 :=
 hx N 60 [jD 1 1 g0,jC 1 3 g1]
end
end Go.Proofs.Ytiejmoglooaalaa
end
section
open Go Go.HL
namespace Go.Proofs.Ytiejmoglooaalaa
variable {F:FuncId→Option (List HV→Option HV)}
set_option linter.unusedSectionVars false
open Go.Proofs.Try renaming prog → Tp
open Go.HL.HV renaming undef → Ud
theorem QgH {l:List Int} (hne:l≠[]) (hl:l.length≤1000):Zu [] 1 8 (.imm .lit 1 []) (l.map Qc)=some (.sl 0 0 (l.map Qc).length none (l.map Qc).length 1,[.arr 1 (l.map Qc) true 0]):=by
 have hne:l.map Qc≠[]:=by simpa using hne
 simp only [Zu,if_neg hne]
 rw [if_pos ⟨.inr trivial,by simp only [jN,qE,WZ];omega⟩,U0]
 simp
theorem QcG {l:List Int} (hne:l≠[]):VE Tp .eql 24 (.imm .arg 1 (l.map Qc))=some (.bool false):=by
 cases l with
 | nil=>exact absurd rfl hne
 | cons v l=>simp only [VE,u24,K6,jQ,QaY]
def QbB:List HV→Option HV:=f1 kL fun l=>if l≠[]∧l.length≤900 then some (.own 1 (l.map Qc)) else none
theorem Qr1:Try.f91.results.toList=[.tmp 2]:=by kernel_rfl
theorem Qew:QV Tp 91 QbB:=by
 refine Qt (pol:=plF fun _=>none) (fn:=Try.f91) (cd:=B91) Qk (QF (fun _=>none) (fun g f h=>by cases h)) (by kernel_rfl) (by kernel_rfl) (ZJ (fun _=>none) _ _ (by kernel_rfl)) (by kernel_rfl) ?_
 intro args res h
 obtain ⟨l,rfl,hq⟩:=Xs h
 split at hq
 case isFalse=>cases hq
 rename_i hc
 cases hq
 have a:=QnQ (F:=fun _=>none) (l.map Qc) [] (QcG hc.1) (QgH hc.1 (by omega))
 refine ⟨_,_,_,.sl 0 0 (l.map Qc).length none (l.map Qc).length 1,a,by simp,by simp only [Qf,Qr1];rfl,?_⟩
 exact U2 (b:=0) rfl (by simp)
theorem QnT:(Tp.info? 3).map (fun i=>(i.size,i.bytes,i.zero.map QJ))=some (1,8,some (.int .i64 0)):=by kernel_rfl
theorem Qex {H:Heap} {b n:Nat} {T:List Int} (hb:H[b]?=some (bI T)) (hT:T.length=n) {k:Nat} (hk:k≤n):Xh Tp H 24 (.sl b k (n-k) none n 1)=some (.tuple [],H.set b (bI (T.take k++qT (n-k) 0))):=by
 by_cases h0:n-k=0
 ·have:k=n:=by omega
  subst this
  simp only [Xh,u24,qR,if_true,List.replicate_zero,qM]
  rw [jP (by omega),Ss hb]
 ·have i3:=QnT
  cases hi:Tp.info? 3 with
  | none=>rw [hi] at i3;cases i3
  | some i =>
   rw [hi] at i3
   simp only [zN,Option.some.injEq,Prod.mk.injEq] at i3
   obtain ⟨e1,e2,hz⟩:=i3
   cases hz2:i.zero with
   | none=>rw [hz2] at hz;cases hz
   | some z =>
    rw [hz2] at hz
    simp only [zN,Option.some.injEq] at hz
    simp only [Xh,u24,if_neg h0,hi,hb,hz2]
    rw [hz,if_pos ⟨trivial,e1,by simp [hT],by simp [hT];omega,rfl,rfl,by omega⟩]
    have e3:splice (T.map Qc) k (qT (n-k) (HV.int .i64 0))=(T.take k++qT (n-k) 0).map Qc:=by
     simp only [splice,wG,qV,jY,List.map_replicate]
     rw [List.drop_of_length_le (by simp [hT];omega),qM]
     rfl
    rw [e3]
theorem QbC (h92:F 92=none) {H:Heap} {kb:Nat} {v:Int} (hb:H[kb]?=some (bI [v])) (x:Int):ClF F 92 [.int .i64 x,.ptr kb 0 0 1] H (.bool (decide (x=v))) H:=by
 have hr:Try.f92.results.toList=[.tmp 3]:=by kernel_rfl
 have ld:QH Tp H 3 (.ptr kb 0 0 1)=some (.int .i64 v):=Q3 (o:=[v]) hb (y:=0) (by simp)
 by_cases c:x=v
 ·have h:=CallsTo.shared (P:=Tp) (pol:=plF F) (g:=92) (fn:=Try.f92) (cd:=B92) (args:=[.int .i64 x,.ptr kb 0 0 1]) (v:=.bool true) h92 (by kernel_rfl) (by kernel_rfl) (by kernel_rfl) (Qnz (F:=F) x kb H v ld c) (by kernel_rfl) (by simp) (by simp only [Qf,hr];rfl)
  rw [QI _ rfl] at h
  rw [decide_eq_true c];exact h
 ·have h:=CallsTo.shared (P:=Tp) (pol:=plF F) (g:=92) (fn:=Try.f92) (cd:=B92) (args:=[.int .i64 x,.ptr kb 0 0 1]) (v:=.bool false) h92 (by kernel_rfl) (by kernel_rfl) (by kernel_rfl) (QnA (F:=F) x kb H v ld c) (by kernel_rfl) (by simp) (by simp only [Qf,hr];rfl)
  rw [QI _ rfl] at h
  rw [decide_eq_false c];exact h
theorem Qey (h92:F 92=none) (h107:F 107=none) (l:List Int) (v:Int) (hl:l.length≤900) :
  ∃r:Int,ClF F 107 [.sl 1 0 l.length none l.length 1,.func 92 [] [.ptr 0 0 0 1]] [bI [v],bI l] (.int .i64 r) [bI [v],bI l]∧((r=-1∧v∉l)∨∃m:Nat,r=(m:Int)∧m<l.length∧l.getD m 0=v∧∀i,i<m→l.getD i 0≠v):=by
 have cl:∀x,∃N,∀kf,N≤kf→Qb Tp (plF F) (kf+1) 92 [.int .i64 x,.ptr 0 0 0 1] [bI [v],bI l]=some (.bool (decide (x=v)),[bI [v],bI l]):=fun x=>CallsTo.from (QbC h92 (kb:=0) rfl x)
 have ld:∀i,i<l.length→QH Tp [bI [v],bI l] 3 (.ptr 1 i 0 l.length)=some (.int .i64 (l.getD i 0)):=fun i hi=>Q3 (H:=[bI [v],bI l]) (k:=1) rfl hi
 have go:∀m,m≤l.length→(∀i,i<m→l.getD i 0≠v)→∀i,i<m→RT (plF F) 107 (sn 52 Kw) ((XD (.s 1 l.length) (.func 92 [] [.q 0]) (.i 0) Ud (.i (l.length:Int)) (.i (i:Int)))) [bI [v],bI l] .normal ((XD (.s 1 l.length) (.func 92 [] [.q 0]) (.i 0) (.i (i:Int)) (.i (l.length:Int)) (.i ((i+1:Nat):Int)))) [bI [v],bI l]:=fun m hm' hn' i hi=>by
  obtain ⟨N,cN⟩:=cl (l.getD i 0)
  rw [decide_eq_false (hn' i hi)] at cN
  have s:=QnE (F:=F) N 1 l.length 0 [bI [v],bI l] i (l.getD i 0) (by omega) (JM u24 z3 (by omega)) (ld i (by omega)) cN
  rw [Qj (by omega)] at s
  exact s
 have a:=QnB (F:=F) 0 1 l.length 0 [bI [v],bI l]
 have b:=QnC (F:=F) 0 1 l.length 0 [bI [v],bI l]
 have hr:Try.f107.results.toList=[.tmp 4]:=by kernel_rfl
 rcases XZ 0 (fun x=>x=v) l with ⟨m,h1,h2,h3⟩ | hno
 ·obtain ⟨N,cN⟩:=cl (l.getD m 0)
  rw [decide_eq_true h2] at cN
  have r:=Wu (pol':=plF F) (f:=107) (E:=fun i=>(XD (.s 1 l.length) (.func 92 [] [.q 0]) (.i 0) Ud (.i (l.length:Int)) (.i (i:Int)))) (Hs:=fun _=>[bI [v],bI l]) m (go m (by omega) h3) (fun i _=>by kernel_rfl) (fun i _=>QI _ rfl) (QnD (F:=F) N 1 l.length 0 [bI [v],bI l] m (l.getD m 0) (by omega) (JM u24 z3 (by omega)) (ld m (by omega)) cN) (by simp) (c:=sn 26 Kw) (by kernel_rfl) (fun i _=>by kernel_rfl)
  have t:=sq (a) (sqo (sq (b) (RunsTo.block_ret (i:=0) (c:=sn 13 Kw) (r) (by kernel_rfl)) (c:=sn 6 Kw)) (c:=sn 3 Kw) (b:=sn 7 Kw)) (c:=Kw)
  have h:=CallsTo.shared (P:=Tp) (pol:=plF F) (g:=107) (fn:=Try.f107) (cd:=Kw) (args:=[.sl 1 0 l.length none l.length 1,.func 92 [] [.ptr 0 0 0 1]]) (v:=.int .i64 (m:Int)) h107 (by kernel_rfl) (by kernel_rfl) (by kernel_rfl) t (by kernel_rfl) (by simp) (by simp only [Qf,hr];rfl)
  rw [QI _ rfl] at h
  exact ⟨_,h,.inr ⟨m,rfl,h1,h2,h3⟩⟩
 ·have r:=Wu (pol':=plF F) (f:=107) (E:=fun i=>(XD (.s 1 l.length) (.func 92 [] [.q 0]) (.i 0) Ud (.i (l.length:Int)) (.i (i:Int)))) (Hs:=fun _=>[bI [v],bI l]) l.length (go l.length (qB _) fun i hi=>hno _ (Qw _ hi)) (fun i _=>by kernel_rfl) (fun i _=>QI _ rfl) (QnF (F:=F) 0 1 l.length 0 [bI [v],bI l] l.length 0 (by omega)) (by simp) (c:=sn 26 Kw) (by kernel_rfl) (fun i _=>by kernel_rfl)
  have z:=QnG (F:=F) 0 1 l.length 0 [bI [v],bI l] (y7:=.i (l.length:Int)) (y8:=.i (l.length:Int))
  have t:=sq (a) (sq (sq (b) (bke (c:=sn 13 Kw) (r)) (c:=sn 6 Kw)) (z) (c:=sn 3 Kw)) (c:=Kw)
  have h:=CallsTo.shared (P:=Tp) (pol:=plF F) (g:=107) (fn:=Try.f107) (cd:=Kw) (args:=[.sl 1 0 l.length none l.length 1,.func 92 [] [.ptr 0 0 0 1]]) (v:=.int .i64 (-1)) h107 (by kernel_rfl) (by kernel_rfl) (by kernel_rfl) t (by kernel_rfl) (by simp) (by simp only [Qf,hr];rfl)
  rw [QI _ rfl] at h
  exact ⟨_,h,.inl ⟨rfl,fun hv=>hno v hv rfl⟩⟩
def wo (l:List Int) (v:Int):List Int:=l.filter fun x=>decide (x≠v)
def dT (l:List Int) (v:Int) (i:Nat):List Int:=wo (l.take i) v++l.drop (wo (l.take i) v).length
theorem Dj (l:List Int) (v:Int):(wo l v).length≤l.length:=zA _ _
theorem Qez (l:List Int) (v:Int) {i:Nat} (hi:i≤l.length):(dT l v i).length=l.length:=by
 have:=Dj (l.take i) v
 rw [qK] at this
 rw [dT,qC,List.length_drop];omega
theorem QnU (l:List Int) (v:Int) {i:Nat} (hi:i<l.length):(dT l v i).getD i 0=l.getD i 0:=by
 have:=Dj (l.take i) v
 rw [qK] at this
 simp only [qO,dT]
 rw [qY (by omega),List.getElem?_drop,show (wo (l.take i) v).length+(i-(wo (l.take i) v).length)=i by omega]
theorem G9 (l:List Int) (v:Int) {i:Nat} (hi:i<l.length):wo (l.take (i+1)) v=if l.getD i 0=v then wo (l.take i) v else wo (l.take i) v++[l.getD i 0]:=by
 rw [WF hi,wo,jZ]
 by_cases c:l.getD i 0=v
 ·rw [if_pos c,qZ (by simpa using c)];simp [wo]
 ·rw [if_neg c,jA (by simpa using c)];rfl
theorem QnV (l:List Int) (v:Int) {i:Nat} (hi:i<l.length) (c:l.getD i 0≠v):(dT l v i).set (wo (l.take i) v).length (l.getD i 0)=dT l v (i+1):=by
 have:=Dj (l.take i) v
 rw [qK] at this
 rw [dT,zI _ _ (qB _),qR,dT,G9 l v hi,if_neg c,qC,qU,qF]
 refine congrArg _ ?_
 rw [List.drop_eq_getElem_cons (by omega)]
 rfl
theorem QeA (h90:F 90=none) (h92:F 92=none) (h107:F 107=none) (l:List Int) (v:Int) (hl:l.length≤900) :
  ∃T,ClF F 90 [.sl 1 0 l.length none l.length 1,.func 92 [] [.ptr 0 0 0 1]] [bI [v],bI l] (.sl 1 0 (wo l v).length none l.length 1) [bI [v],bI (wo l v++T)]∧(wo l v++T).length=l.length:=by
 obtain ⟨r,hc,hr⟩:=Qey h92 h107 l v hl
 obtain ⟨N,c107⟩:=CallsTo.from hc
 have a:=QnH (F:=F) 0 1 l.length 0 [bI [v],bI l]
 have b:=QnI (F:=F) N 1 l.length 0 [bI [v],bI l] r c107
 have hres:Try.f90.results.toList=[.tmp 4]:=by kernel_rfl
 rcases hr with ⟨rfl,hno⟩ | ⟨m,rfl,hm1,hm2,hm3⟩
 ·have c:=QnJ (F:=F) 0 1 l.length 0 [bI [v],bI l] (-1) rfl
  have t:=sq (a) (sq (b) (sqo (c) (c:=sn 7 B90) (b:=sn 15 B90)) (c:=sn 3 B90)) (c:=B90)
  have h:=CallsTo.shared (P:=Tp) (pol:=plF F) (g:=90) (fn:=Try.f90) (cd:=B90) (args:=[.sl 1 0 l.length none l.length 1,.func 92 [] [.ptr 0 0 0 1]]) (v:=.sl 1 0 l.length none l.length 1) h90 (by kernel_rfl) (by kernel_rfl) (by kernel_rfl) t (by kernel_rfl) (by simp) (by simp only [Qf,hres];rfl)
  rw [QI _ rfl] at h
  have e:wo l v=l:=List.filter_eq_self.2 fun x hx=>decide_eq_true fun c=>hno (c▸hx)
  rw [e]
  exact ⟨[],by rw [qM];exact h,by simp⟩
 ·have c:=QnK (F:=F) 0 1 l.length 0 [bI [v],bI l] (m:Int) (by omega)
  have d:=QnL (F:=F) 0 1 l.length 0 [bI [v],bI l] m
  have ew:∀i,i≤m→wo (l.take i) v=l.take i:=fun i hi=>List.filter_eq_self.2 fun x hx=>decide_eq_true fun c=>by
   obtain ⟨j,hj,rfl⟩:=jU hx
   rw [qK] at hj
   have:=hm3 j (by omega)
   rw [QA (by omega)] at this
   rw [List.getElem_take] at c
   exact this c
  have em:wo (l.take (m+1)) v=l.take m:=by rw [G9 l v hm1,if_pos hm2,ew m (qB _)]
  have eml:(wo (l.take (m+1)) v).length=m:=by rw [em,qK];omega
  have r:=Wu (pol':=plF F) (f:=90) (E:=fun i=>(SH (.s 1 l.length) (.func 92 [] [.q 0]) (.imm .lit 1 []) (.i ((wo (l.take (m+1+i)) v).length:Int)) (.i (((m+1+i):Nat):Int)) Ud)) (Hs:=fun i=>[bI [v],bI (dT l v (m+1+i))]) (l.length-(m+1)) (E0:=fun i=>(SH (.s 1 l.length) (.func 92 [] [.q 0]) (.imm .lit 1 []) (.i ((wo (l.take (m+1+(i+1))) v).length:Int)) (.i (((m+1+(i+1)):Nat):Int)) (.i (l.getD (m+1+i) 0)))) (H1:=fun i=>[bI [v],bI (dT l v (m+1+(i+1)))])
   (fun i hi=>by
    generalize hj:m+1+i=j
    have hj2:m+1+(i+1)=j+1:=by omega
    rw [hj2]
    have hjl:j<l.length:=by omega
    have hdl:=Qez l v (i:=j) (by omega)
    have ld:=Q3 (H:=[bI [v],bI (dT l v j)]) (k:=1) (o:=dT l v j) rfl (y:=j) (by omega)
    rw [hdl,QnU l v hjl] at ld
    obtain ⟨N,cN⟩:=CallsTo.from (QbC (F:=F) h92 (H:=[bI [v],bI (dT l v j)]) (kb:=0) rfl (l.getD j 0))
    have hws:=G9 l v hjl
    have hwl:=Dj (l.take j) v
    rw [qK] at hwl
    by_cases cv:l.getD j 0=v
    ·rw [decide_eq_true cv] at cN
     rw [if_pos cv] at hws
     have s:=QnM (F:=F) N 1 l.length 0 [bI [v],bI (dT l v j)] (wo (l.take j) v).length j (l.getD j 0) (by omega) (JM u24 z3 (by omega)) ld cN
     rw [Qj (by omega)] at s
     have:dT l v (j+1)=dT l v j:=by rw [dT,hws];rfl
     rw [this,hws]
     exact s
    ·rw [decide_eq_false cv] at cN
     rw [if_neg cv] at hws
     have st:=Zl (H:=[bI [v],bI (dT l v j)]) (k:=1) (o:=dT l v j) rfl (y:=(wo (l.take j) v).length) (by omega) (l.getD j 0)
     rw [hdl,QnV l v hjl cv] at st
     have s:=QnN (F:=F) N 1 l.length 0 [bI [v],bI (dT l v j)] (wo (l.take j) v).length j (l.getD j 0) (by omega) (JM u24 z3 (by omega)) ld cN (JM u24 z3 (by omega)) st
     rw [Qj (by omega),Qj (by omega)] at s
     have el:(wo (l.take (j+1)) v).length=(wo (l.take j) v).length+1:=by rw [hws];simp
     rw [← el] at s
     exact s) (fun i _=>by kernel_rfl) (fun i _=>QI _ rfl) (QnO (F:=F) 0 1 l.length 0 [bI [v],bI (dT l v (m+1+(l.length-(m+1))))] (wo (l.take (m+1+(l.length-(m+1)))) v).length (m+1+(l.length-(m+1))) 0 (by omega)) (by simp) (c:=sn 122 B90) (by kernel_rfl) (fun i _=>by kernel_rfl)
  have e0:dT l v (m+1+0)=l:=by rw [zD,dT,eml,em,List.take_append_drop]
  have en:m+1+(l.length-(m+1))=l.length:=by omega
  simp only [e0,en,zD,eml,qL] at r
  rw [Qj (by omega)] at d
  have hdl:=Qez l v (qB l.length)
  have hwl:=Dj l v
  have hcl:=Qex (H:=[bI [v],bI (dT l v l.length)]) (b:=1) rfl hdl hwl
  have hdt:(dT l v l.length).take (wo l v).length=wo l v:=by
   rw [dT,qL,zO (qB _),jP (qB _)]
  rw [hdt] at hcl
  have z:=QnP (F:=F) 0 1 l.length 0 [bI [v],bI (dT l v l.length)] (wo l v).length (y6:=.i (l.length:Int)) (QdP hwl) hcl (QdO hwl)
  have t:=sq (a) (sq (b) (sq (c) (sq (sq (d) (bke (c:=sn 61 B90) (r)) (c:=sn 30 B90)) (z) (c:=sn 15 B90)) (c:=sn 7 B90)) (c:=sn 3 B90)) (c:=B90)
  have h:=CallsTo.shared (P:=Tp) (pol:=plF F) (g:=90) (fn:=Try.f90) (cd:=B90) (args:=[.sl 1 0 l.length none l.length 1,.func 92 [] [.ptr 0 0 0 1]]) (v:=.sl 1 0 (wo l v).length none l.length 1) h90 (by kernel_rfl) (by kernel_rfl) (by kernel_rfl) t (by kernel_rfl) (by simp) (by simp only [Qf,hres];rfl)
  rw [QI (H:=[bI [v],bI l]) (H':=([bI [v],bI (dT l v l.length)].set 1 (bI (wo l v++qT (l.length-(wo l v).length) 0)))) _ rfl] at h
  exact ⟨_,h,by rw [qC,wG];omega⟩
theorem SI {H:Heap} {no:List Nat} {b m n mx:Nat} {els:List HV} (hb:H[b]?=some (.arr 1 els true mx)) (hm:els.length=n) (hk:m≤n) (hf:mapO (frz H no 4) (els.take m)=some (els.take m)):Wd H no false (.sl b 0 m none n 1)=some (.own 1 (els.take m)):=by
 have hv:Zr H b 0 m n 1=some (els.take m):=by
  simp only [Zr,hb]
  rw [if_pos ⟨hm.symm,by omega,trivial⟩]
  simp
 have hr:(JW H no false)=frz H no 4:=by funext v;rfl
 simp only [Wd,hb,if_true,hv,hr,hf]
def Gi:List HV→Option HV:=f2 kL kI fun l v=>if l≠[]∧l.length≤900 then some (.own 1 ((wo l v).map Qc)) else none
theorem Qr2:Try.f72.results.toList=[.tmp 4]:=by kernel_rfl
def SJ:FuncId→Option (List HV→Option HV):=fun g=>if g==91 then some QbB else none
theorem QgI (n:Nat):Qo Tp (Qb Tp (plF SJ) n):=QF _ (fun g f h=>by
 unfold SJ at h
 split at h
 ·rename_i hg;cases h;rw [eq_of_beq hg];exact Qew
 ·cases h) n
theorem QaH:QV Tp 72 Gi:=by
 refine Qt (pol:=plF SJ) (fn:=Try.f72) (cd:=B72) Qk QgI (by kernel_rfl) (by kernel_rfl) (ZJ SJ _ _ (by kernel_rfl)) (by kernel_rfl) ?_
 intro args res h
 obtain ⟨l,v,rfl,hq⟩:=Ji h
 split at hq
 case isFalse=>cases hq
 rename_i hc
 cases hq
 have a:=QnR (F:=SJ) 0 (l.map Qc) v 0 0 0
 have c91:=at1 (pol':=plF SJ) (g:=91) (c1:=kL) (f:=fun l=>if l≠[]∧l.length≤900 then some (.own 1 (l.map Qc)) else none) (H:=[bI [v]]) (by kernel_rfl) (XY _ l) (if_pos hc)
 rw [ZY] at c91
 obtain ⟨T,c90,hT⟩:=QeA (F:=SJ) (by kernel_rfl) (by kernel_rfl) (by kernel_rfl) l v hc.2
 obtain ⟨N,c90⟩:=CallsTo.from c90
 have b:=QnS (F:=SJ) N (l.map Qc) v [bI [v]] 1 l.length (wo l v).length c91 c90
 refine ⟨_,_,_,.sl 1 0 (wo l v).length none l.length 1,sq (a) (b) (c:=B72),by simp,by simp only [Qf,Qr2];rfl,?_⟩
 have hr:=SI (H:=[bI [v],bI (wo l v++T)]) (no:=[1]) (b:=1) (m:=(wo l v).length) (n:=l.length) (mx:=0) (els:=(wo l v++T).map Qc) rfl (by rw [qE];exact hT) (Dj l v) (by rw [← jY,zO (qB _),jP (qB _)];exact Wj (fun r=>Z7 4 r) _)
 rw [← jY,zO (qB _),jP (qB _)] at hr
 have ho:QD [bI [v],bI (wo l v++T)] false (.sl 1 0 (wo l v).length none l.length 1)=[1]:=rfl
 show Wv _ false _=_
 simp only [Wv,ho,List.nodup_cons,List.not_mem_nil,not_false_eq_true,List.nodup_nil,and_self,if_true,WP,hr]
end Go.Proofs.Ytiejmoglooaalaa
end
section
open Go Go.HL
namespace Go.Proofs.Ytiejmoglooaalaa
set_option linter.unusedSectionVars false
open Go.Proofs.Try renaming prog → Tp
open Go.HL.HV renaming undef → Ud
def ixI (l:List Int) (v:Int):Int:=match fN (fun i=>decide (l.getD i 0=v)) l.length 0 with | some m=>(m:Int) | none=>-1
theorem QbD (l:List Int) (v:Int):0≤ixI l v↔v∈l:=by
 rw [ixI]
 cases h:fN (fun i=>decide (l.getD i 0=v)) l.length 0 with
 | some m =>
  obtain ⟨_,h2,h3,_⟩:=X4 h
  refine ⟨fun _=>?_,fun _=>by simp⟩
  have:=of_decide_eq_true h3
  rw [← this]
  exact Qw 0 (by omega)
 | none =>
  refine ⟨fun h=>absurd h (by decide),fun hv=>?_⟩
  obtain ⟨j,hj,rfl⟩:=jU hv
  have:=VS h j (jH _) (by omega)
  simp only [decide_eq_false_iff_not] at this
  exact absurd (QA hj) this
def QbE:List HV→Option HV:=f2 kL kI fun l v=>if l.length≤900 then some (.int .i64 (ixI l v)) else none
theorem QeB:Try.f93.results.toList=[.tmp 4]:=by kernel_rfl
theorem QeC:QV Tp 93 QbE:=by
 refine Qt (pol:=plF fun _=>none) (fn:=Try.f93) (cd:=B93) Qk (QF (fun _=>none) (fun g f h=>by cases h)) (by kernel_rfl) (by kernel_rfl) (ZJ (fun _=>none) _ _ (by kernel_rfl)) (by kernel_rfl) ?_
 intro args res h
 obtain ⟨l,v,rfl,hq⟩:=Ji h
 split at hq
 case isFalse=>cases hq
 rename_i hl
 cases hq
 have go:∀m,m≤l.length→(∀i,i<m→l.getD i 0≠v)→∀i,i<m→RunsTo Tp (plF fun _=>none) 93 (sn 52 B93) ((Dh (.a (l.map Qc)) (.i v) (.i 0) Ud (.i (l.length:Int)) (.i (i:Int)))) [] .normal ((plF fun _=>none).keys 93) ((Dh (.a (l.map Qc)) (.i v) (.i 0) (.i (i:Int)) (.i (l.length:Int)) (.i ((i+1:Nat):Int)))) []:=fun m hm' hn' i hi=>by
  have s:=Qnl (F:=fun _=>none) (l.map Qc) v [] l.length i (l.getD i 0) (by omega) (gx (by omega)) (fun h=>hn' i hi h.symm)
  rw [Qj (by omega)] at s
  exact s
 have a:=Qni (F:=fun _=>none) (l.map Qc) v []
 have b:=Qnj (F:=fun _=>none) (l.map Qc) v []
 rw [qE] at b
 rw [ixI]
 cases hf:fN (fun i=>decide (l.getD i 0=v)) l.length 0 with
 | some m =>
  obtain ⟨_,h1,h2,h3⟩:=X4 hf
  have r:=Wu (pol':=plF fun _=>none) (f:=93) (E:=fun i=>(Dh (.a (l.map Qc)) (.i v) (.i 0) Ud (.i (l.length:Int)) (.i (i:Int)))) (Hs:=fun _=>[]) m (go m (by omega) fun i hi=>by have:=h3 i (jH _) hi;simpa using this) (fun i _=>by kernel_rfl) (fun i _=>QI _ rfl) (Qnk (F:=fun _=>none) (l.map Qc) v [] l.length m (l.getD m 0) (by omega) (gx (by omega)) (of_decide_eq_true h2).symm) (by simp) (c:=sn 26 B93) (by kernel_rfl) (fun i _=>by kernel_rfl)
  exact ⟨_,_,_,.int .i64 (m:Int),sq (a) (sqo (sq (b) (RunsTo.block_ret (i:=0) (c:=sn 13 B93) (r) (by kernel_rfl)) (c:=sn 6 B93)) (c:=sn 3 B93) (b:=sn 7 B93)) (c:=B93),by simp,by simp only [Qf,QeB];rfl,rfl⟩
 | none =>
  have h3:=VS hf
  have r:=Wu (pol':=plF fun _=>none) (f:=93) (E:=fun i=>(Dh (.a (l.map Qc)) (.i v) (.i 0) Ud (.i (l.length:Int)) (.i (i:Int)))) (Hs:=fun _=>[]) l.length (go l.length (qB _) fun i hi=>by have:=h3 i (jH _) (by omega);simpa using this) (fun i _=>by kernel_rfl) (fun i _=>QI _ rfl) (Qnm (F:=fun _=>none) (l.map Qc) v [] l.length l.length 0 (by omega)) (by simp) (c:=sn 26 B93) (by kernel_rfl) (fun i _=>by kernel_rfl)
  have z:=Qnn (F:=fun _=>none) (l.map Qc) v [] (y7:=.i (l.length:Int)) (y8:=.i (l.length:Int))
  exact ⟨_,_,_,.int .i64 (-1),sq (a) (sq (sq (b) (bke (c:=sn 13 B93) (r)) (c:=sn 6 B93)) (z) (c:=sn 3 B93)) (c:=B93),by simp,by simp only [Qf,QeB];rfl,rfl⟩
def Dk:List HV→Option HV:=f2 kL kI fun l v=>if l.length≤900 then some (.bool (decide (v∈l))) else none
theorem Qin:Try.f73.results.toList=[.tmp 4]:=by kernel_rfl
def QaI:FuncId→Option (List HV→Option HV):=fun g=>if g==93 then some QbE else none
theorem QgJ (n:Nat):Qo Tp (Qb Tp (plF QaI) n):=QF _ (fun g f h=>by
 unfold QaI at h
 split at h
 ·rename_i hg;cases h;rw [eq_of_beq hg];exact QeC
 ·cases h) n
theorem SK:QV Tp 73 Dk:=by
 refine Qt (pol:=plF QaI) (fn:=Try.f73) (cd:=B73) Qk QgJ (by kernel_rfl) (by kernel_rfl) (ZJ QaI _ _ (by kernel_rfl)) (by kernel_rfl) ?_
 intro args res h
 obtain ⟨l,v,rfl,hq⟩:=Ji h
 split at hq
 case isFalse=>cases hq
 rename_i hl
 cases hq
 have c:=at2 (pol':=plF QaI) (g:=93) (c1:=kL) (c2:=kI) (f:=fun l v=>if l.length≤900 then some (.int .i64 (ixI l v)) else none) (H:=[]) (by kernel_rfl) (XY _ l) (ShI _ v) (if_pos hl)
 by_cases k:0≤ixI l v
 ·rw [decide_eq_true ((QbD l v).1 k)]
  exact ⟨_,_,_,.bool true,Qno (F:=QaI) (l.map Qc) v [] (ixI l v) c k,by simp,by simp only [Qf,Qin];rfl,rfl⟩
 ·rw [decide_eq_false fun h=>k ((QbD l v).2 h)]
  exact ⟨_,_,_,.bool false,Qnp (F:=QaI) (l.map Qc) v [] (ixI l v) c k,by simp,by simp only [Qf,Qin];rfl,rfl⟩
def Wa (l:List St) (t:List Int) (o:Int) (k:Int):Prop:=(Qy l (wo t o)).getD (sA l k).toNat 0≠(Qy l (wo t o)).getD (sB l k).toNat 0
instance (l:List St) (t:List Int) (o k:Int):Decidable (Wa l t o k):=inferInstanceAs (Decidable (_≠_))
def QZ (l:List St) (t:List Int) (o:Int) (n:Nat):List Int:=(Qg n).filter fun k=>decide (k∉t∧Wa l t o k)
theorem QeD (l:List St) (t:List Int) (o:Int) (i:Nat):QZ l t o (i+1)=QZ l t o i++(if (i:Int)∉t∧Wa l t o i then [(i:Int)] else []):=by
 rw [QZ,Q6,jZ,QZ]
 refine congrArg _ ?_
 by_cases c:(i:Int)∉t∧Wa l t o i
 ·rw [if_pos c,jA (by simpa using c)];rfl
 ·rw [if_neg c,qZ (by simpa using c)];rfl
theorem QbF (l:List St) (t:List Int) (o:Int) (n:Nat):(QZ l t o n).length≤n:=by
 have:=zA (fun k=>decide (k∉t∧Wa l t o k)) (Qg n)
 rwa [QM] at this
def Gj:List HV→Option HV:=f3 kN kL kI fun p t o=>if (Jk p.2=true∧p.2.length≤500)∧inR p.2.length t=true∧t≠[]∧t.length≤500 then some (.own 1 ((QZ p.2 t o p.2.length).map Qc)) else none
theorem Qr3:Try.f59.results.toList=[.tmp 6]:=by kernel_rfl
def KR:FuncId→Option (List HV→Option HV):=fun g=>if g==72 then some Gi else if g==73 then some Dk else none
theorem QgK (n:Nat):Qo Tp (Qb Tp (plF KR) n):=QF _ (fun g f h=>by
 unfold KR at h
 split at h
 ·rename_i hg;cases h;rw [eq_of_beq hg];exact QaH
 split at h
 ·rename_i hg;cases h;rw [eq_of_beq hg];exact SK
 ·cases h) n
theorem QaJ:QV Tp 59 Gj:=by
 refine Qt (pol:=plF KR) (fn:=Try.f59) (cd:=B59) Qk QgK (by kernel_rfl) (by kernel_rfl) (ZJ KR _ _ (by kernel_rfl)) (by kernel_rfl) ?_
 intro args res h
 obtain ⟨⟨n,l⟩,t,o,rfl,hq⟩:=Xt h
 simp only at hq
 split at hq
 case isFalse=>cases hq
 rename_i hc
 obtain ⟨⟨he,hl⟩,hr,hne,htl⟩:=hc
 cases hq
 have ht:=inR_iff.1 hr
 have hwl:=Dj t o
 have htw:∀k∈wo t o,0≤k∧k<(l.length:Int):=fun k hk=>ht k (List.mem_filter.1 hk).1
 have a:=Qnq (F:=KR) 0 n (l.map Qa) (t.map Qc) o
 have c72:=at2 (pol':=plF KR) (g:=72) (c1:=kL) (c2:=kI) (f:=fun l v=>if l≠[]∧l.length≤900 then some (.own 1 ((wo l v).map Qc)) else none) (H:=[bN n l]) (by kernel_rfl) (XY _ t) (ShI _ o) (if_pos ⟨hne,by omega⟩)
 rw [ZY] at c72
 obtain ⟨N1,c57⟩:=CallsTo.from (Gg (F:=KR) (by kernel_rfl) (by kernel_rfl) (by kernel_rfl) (by kernel_rfl) (n:=n) he htw (by omega) (H:=[bN n l,bI (wo t o)]) (by show max 0 (max 0 0)≤2;decide) (lb:=1) (cap:=none) (o:=wo t o) rfl (fun i hi=>⟨hi,rfl⟩))
 have sN:Qm [bN n l] [bN n l]=true:=by simp only [Qm,sameL,Vo,beq_self_eq_true,zE]
 have hs1:(WT ((QH Tp [bN n l] 66 (.ptr 0 0 0 1)).map (fun v=>(v,([bN n l]:Heap)))) ((QH Tp [bN n l,bI (wo t o)] 66 (.ptr 0 0 0 1)).map (fun v=>(v,([bN n l,bI (wo t o)]:Heap)))) [bN n l] [bN n l,bI (wo t o)]&&true)=true:=by
  rw [Vs (n:=n) (l:=l) rfl,Vs (n:=n) (l:=l) rfl]
  simp only [zN,WT,Vo,sN,QG sN (W1 (wo t o)),zE]
 have b:=Qnr (F:=KR) N1 n (l.map Qa) (t.map Qc) o [bN n l] 1 (wo t o).length 3 _ (Vs rfl) c72 c57 hs1
 have hU:=JL he (t:=wo t o) htw
 have hlabE:(ksT l (wo t o)).2.1=Qy l (wo t o):=rfl
 rw [hlabE] at hU
 generalize hus:(ksT l (wo t o)).1=us at *
 have c:=Qns (F:=KR) 0 n (l.map Qa) (t.map Qc) o [bN n l,bI (wo t o),bN n l,bU us] 3 rfl
 have d:=Qnt (F:=KR) 0 n (l.map Qa) (t.map Qc) o [bN n l,bI (wo t o),bN n l,bU us,bI []] 3 4 0 (Jj (xb:=0) rfl)
 rw [qE] at d
 have r:=Wu (pol':=plF KR) (f:=59) (E:=fun i=>(Di (Qx n l) (.a (t.map Qc)) (.i o) Ud (.imm .lit 1 []) (.q 3) (.sl 4 0 (QZ l t o i).length none (QZ l t o i).length 1) Ud Ud (.g (l.map Qa)) (.i (l.length:Int)) (.i (i:Int)))) (Hs:=fun i=>[bN n l,bI (wo t o),bN n l,bU us,bI (QZ l t o i)]) l.length
  (E0:=fun i=>(Di (Qx n l) (.a (t.map Qc)) (.i o) Ud (.imm .lit 1 []) (.q 3) (.sl 4 0 (QZ l t o (i+1)).length none (QZ l t o (i+1)).length 1) (.i (i:Int)) (.q 5) (.g (l.map Qa)) (.i (l.length:Int)) (.i ((i+1:Nat):Int)))) (H1:=fun i=>[bN n l,bI (wo t o),bN n l,bU us,bI (QZ l t o (i+1)),bT (l.getD i (0,0,0))])
  (fun i hi=>by
   have g2:=gs (l:=l) (y:=i) hi
   obtain ⟨e1,e2⟩:=Ku he (k:=(i:Int)) (by omega)
   have hJ:Wa l t o (i:Int)↔(Qy l (wo t o)).getD (sA l i).toNat 0≠(Qy l (wo t o)).getD (sB l i).toNat 0:=Iff.rfl
   have hsA:sA l (i:Int)=(l.getD i (0,0,0)).1:=rfl
   have hsB:sB l (i:Int)=(l.getD i (0,0,0)).2.1:=rfl
   rw [hsA] at e1 hJ
   rw [hsB] at e2 hJ
   have his:=QeD l t o i
   have hil:=QbF l t o i
   generalize l.getD i (0,0,0)=s at *
   have hx:([bN n l,bI (wo t o),bN n l,bU us,bI (QZ l t o i),bT s]:Heap)[5]?=some (bT s):=rfl
   have la:=ldT hx 0 s.1 rfl
   have lb:=ldT hx 1 s.2.1 rfl
   have nv:=Df [bN n l,bI (wo t o),bN n l,bU us,bI (QZ l t o i)]
   have st:=Dg [bN n l,bI (wo t o),bN n l,bU us,bI (QZ l t o i)] s
   have c73:=at2 (pol':=plF KR) (g:=73) (c1:=kL) (c2:=kI) (f:=fun l v=>if l.length≤900 then some (.bool (decide (v∈l))) else none) (H:=[bN n l,bI (wo t o),bN n l,bU us,bI (QZ l t o i),bT s]) (by kernel_rfl) (XY _ t) (ShI _ (i:Int)) (if_pos (by omega))
   obtain ⟨N2,o1⟩:=CallsTo.from (J0 (F:=KR) (by kernel_rfl) (H:=[bN n l,bI (wo t o),bN n l,bU us,bI (QZ l t o i),bT s]) (b:=3) rfl hU e1.1 e1.2)
   obtain ⟨N3,o2⟩:=CallsTo.from (J0 (F:=KR) (by kernel_rfl) (H:=[bN n l,bI (wo t o),bN n l,bU us,bI (QZ l t o i),bT s]) (b:=3) rfl hU e2.1 e2.2)
   have o1':∀kf,max N2 N3≤kf→_:=fun kf hk=>o1 kf (by omega)
   have o2':∀kf,max N2 N3≤kf→_:=fun kf hk=>o2 kf (by omega)
   have sT:Qm [bT s] [bT s]=true:=by simp only [Qm,sameL,Y7,beq_self_eq_true,zE]
   have sU:Qm [bU us] [bU us]=true:=by simp only [Qm,sameL,same,WU Vn,beq_self_eq_true,zE]
   have sH:Qm [bN n l,bI (wo t o),bN n l,bU us,bI (QZ l t o i),bT s] [bN n l,bI (wo t o),bN n l,bU us,bI (QZ l t o i),bT s]=true:=QG sN (QG (W1 _) (QG sN (QG sU (QG (W1 _) sT))))
   have hs2:(WT ((QH Tp [bN n l,bI (wo t o),bN n l,bU us,bI (QZ l t o i),bT s] 3 (.ptr 5 0 1 1)).map (fun v=>(v,([bN n l,bI (wo t o),bN n l,bU us,bI (QZ l t o i),bT s]:Heap)))) ((QH Tp [bN n l,bI (wo t o),bN n l,bU us,bI (QZ l t o i),bT s] 3 (.ptr 5 0 1 1)).map (fun v=>(v,([bN n l,bI (wo t o),bN n l,bU us,bI (QZ l t o i),bT s]:Heap)))) [bN n l,bI (wo t o),bN n l,bU us,bI (QZ l t o i),bT s] [bN n l,bI (wo t o),bN n l,bU us,bI (QZ l t o i),bT s]&&true)=true:=by
    rw [lb]
    have:same (.int .i64 s.2.1) (.int .i64 s.2.1)=true:=Vn s.2.1
    simp only [zN,WT,this,sH,zE]
   by_cases cm:(i:Int)∈t
   ·rw [decide_eq_true cm] at c73
    rw [if_neg (fun h=>h.1 cm),qM] at his
    have s1:=Qnu (F:=KR) 0 n (l.map Qa) (t.map Qc) o [bN n l,bI (wo t o),bN n l,bU us,bI (QZ l t o i)] 3 4 (QZ l t o i).length l.length i s.1 s.2.1 s.2.2 (by omega) g2 nv st c73 rfl
    rw [Qj (by omega)] at s1
    rw [his]
    exact s1
   rw [decide_eq_false cm] at c73
   by_cases cj:(Qy l (wo t o)).getD s.1.toNat 0=(Qy l (wo t o)).getD s.2.1.toNat 0
   ·rw [if_neg (fun h=>(hJ.1 h.2) cj),qM] at his
    have s1:=Qnv (F:=KR) (max N2 N3) n (l.map Qa) (t.map Qc) o [bN n l,bI (wo t o),bN n l,bU us,bI (QZ l t o i)] 3 4 (QZ l t o i).length l.length i s.1 s.2.1 s.2.2 (by omega) g2 nv st c73 (QcE _) la o1' (QcF _) lb o2' cj hs2
    rw [Qj (by omega)] at s1
    rw [his]
    exact s1
   ·rw [if_pos ⟨cm,hJ.2 cj⟩] at his
    have ap:=ZR (H:=[bN n l,bI (wo t o),bN n l,bU us,bI (QZ l t o i),bT s]) (b:=4) (o:=QZ l t o i) rfl (by omega) (i:Int)
    rw [← his] at ap
    have s1:=Qnw (F:=KR) (max N2 N3) n (l.map Qa) (t.map Qc) o [bN n l,bI (wo t o),bN n l,bU us,bI (QZ l t o i)] 3 4 (QZ l t o i).length l.length i s.1 s.2.1 s.2.2 (by omega) g2 nv st c73 (QcE _) la o1' (QcF _) lb o2' cj hs2 ap
    have el:(QZ l t o (i+1)).length=(QZ l t o i).length+1:=by rw [his];simp
    rw [Qj (by omega),← el] at s1
    exact s1) (fun i _=>by kernel_rfl) (fun i _=>by
     have hb:WY ((Di (Qx n l) (.a (t.map Qc)) (.i o) Ud (.imm .lit 1 []) (.q 3) (.sl 4 0 (QZ l t o (i+1)).length none (QZ l t o (i+1)).length 1) Ud Ud (.g (l.map Qa)) (.i (l.length:Int)) (.i ((i+1:Nat):Int))))=5:=by simp only [WY,bnd,bndL,Qx];rfl
     show gc 5 (WY ((Di (Qx n l) (.a (t.map Qc)) (.i o) Ud (.imm .lit 1 []) (.q 3) (.sl 4 0 (QZ l t o (i+1)).length none (QZ l t o (i+1)).length 1) Ud Ud (.g (l.map Qa)) (.i (l.length:Int)) (.i ((i+1:Nat):Int))))) ([bN n l,bI (wo t o),bN n l,bU us,bI (QZ l t o (i+1))]++[bT (l.getD i (0,0,0))])=_
     rw [hb]
     exact KN (H:=[bN n l,bI (wo t o),bN n l,bU us,bI (QZ l t o (i+1))]) (by show max 0 (max 0 (max 0 (max 0 (max 0 (max 0 0)))))≤5;decide) (qB _)) (Qnx (F:=KR) 0 n (l.map Qa) (t.map Qc) o [bN n l,bI (wo t o),bN n l,bU us,bI (QZ l t o l.length)] 3 4 (QZ l t o l.length).length l.length l.length 0 0 0 (by omega)) (by simp) (c:=sn 122 B59) (by kernel_rfl) (fun i _=>by kernel_rfl)
 have z:=Qny (F:=KR) 0 n (l.map Qa) (t.map Qc) o [bN n l,bI (wo t o),bN n l,bU us,bI (QZ l t o l.length)] 3 4 (QZ l t o l.length).length (y21:=.g (l.map Qa)) (y22:=.i (l.length:Int)) (y23:=.i (l.length:Int))
 refine ⟨_,_,_,.sl 4 0 (QZ l t o l.length).length none (QZ l t o l.length).length 1,sq (a) (sq (b) (sq (c) (sq (sq (d) (bke (c:=sn 61 B59) (lpi (e0:=(Di (Qx n l) (.a (t.map Qc)) (.i o) (.q 0) (.imm .lit 1 []) (.q 3) (.s 4 0) Ud Ud (.g (l.map Qa)) (.i (l.length:Int)) (.i (0:Int)))) r (b:=sn 244 B59))) (c:=sn 30 B59)) (z) (c:=sn 15 B59)) (c:=sn 7 B59)) (c:=sn 3 B59)) (c:=B59),by simp,by simp only [Qf,Qr3];rfl,?_⟩
 exact U2 (b:=4) rfl rfl
end Go.Proofs.Ytiejmoglooaalaa
end
section
open Go Go.HL
namespace Go.Proofs.Ytiejmoglooaalaa
set_option maxRecDepth 100000
set_option linter.unusedSectionVars false
open Go.Proofs.Try renaming prog → Tp
open Go.HL.HV renaming undef → Ud
section
variable {F:FuncId→Option (List HV→Option HV)}
noncomputable def B28:Code:=Try.f28.body.getD .skip
abbrev Dl (v0 v1 v2 v6 v7 v8:HV):Env:=[(0,v0),(1,v1),(2,v2),(6,v6),(7,v7),(8,v8)]
end
abbrev e28 (n:Int) (ls:List HV) (la:List HV) (u4 u5:HV):Env:=Dl (.i n) (.g ls) (.a la) (.bool false) u4 u5
section
variable {F:FuncId→Option (List HV→Option HV)}
variable (n:Int) (ls la:List HV)
include n ls la
theorem QnW:RU F 28 2 B28 [(0,.i n),(1,.g ls),(2,.a la)] [] .normal (e28 n ls la Ud Ud) [] :=
 hx 0 60 []
end
section
variable {F:FuncId→Option (List HV→Option HV)}
variable (n:Int) (ls la:List HV)
include n ls la
theorem QnX (H:Heap) (y7 y8:HV:=Ud): RU F 28 12 B28 (e28 n ls la y7 y8) H .normal (e28 n ls la (.i 0) y8) H :=
 hx 0 60 []
theorem QnY (H:Heap) (i:Nat) (x z:Int) (g0:(i:Int)<(la.length:Int)) (g1:IX 24 (.a la) (.n i) (.vptr (.i x))) (g2:x<0) (y8:HV:=Ud): RU F 28 52 B28 (e28 n ls la (.n i) y8) H .ret (e28 n ls la (.n i) y8) H :=
 hx 0 60 [jT 2 3 H g0,jO 4 2 H g1,jT 4 4 H g2]
theorem QnZ (H:Heap) (i:Nat) (x z:Int) (g0:(i:Int)<(la.length:Int)) (g1:IX 24 (.a la) (.n i) (.vptr (.i x))) (g2:¬(x<0)) (g3:IX 24 (.a la) (.n i) (.vptr (.i x))) (g4:(ls.length:Int)≤x) (y8:HV:=Ud): RU F 28 52 B28 (e28 n ls la (.n i) y8) H .ret (e28 n ls la (.n i) y8) H :=
 hx 0 60 [jT 2 3 H g0,jO 4 2 H g1,jF 4 4 H g2,jO 4 8 H g3,jT 4 12 H g4]
theorem Qn0 (H:Heap) (i:Nat) (x z:Int) (g0:(i:Int)<(la.length:Int)) (g1:IX 24 (.a la) (.n i) (.vptr (.i x))) (g2:¬(x<0)) (g3:IX 24 (.a la) (.n i) (.vptr (.i x))) (g4:¬((ls.length:Int)≤x)) (g5:0<(i:Int)) (g6:IX 24 (.a la) (.i (qA.wrap ((i:Int)-1))) (.vptr (.i z))) (g7:IX 24 (.a la) (.n i) (.vptr (.i x))) (g8:x≤z) (y8:HV:=Ud): RU F 28 52 B28 (e28 n ls la (.n i) y8) H .ret (e28 n ls la (.n i) y8) H :=
 hx 0 60 [jT 2 3 H g0,jO 4 2 H g1,jF 4 4 H g2,jO 4 8 H g3,jF 4 12 H g4,jT 4 16 H g5,jO 4 21 H g6,jO 4 25 H g7,jT 4 27 H g8]
theorem Qn1 (H:Heap) (i:Nat) (x z:Int) (g0:(i:Int)<(la.length:Int)) (g1:IX 24 (.a la) (.n i) (.vptr (.i x))) (g2:¬(x<0)) (g3:IX 24 (.a la) (.n i) (.vptr (.i x))) (g4:¬((ls.length:Int)≤x)) (g5:0<(i:Int)) (g6:IX 24 (.a la) (.i (qA.wrap ((i:Int)-1))) (.vptr (.i z))) (g7:IX 24 (.a la) (.n i) (.vptr (.i x))) (g8:¬(x≤z)) (y8:HV:=Ud): RU F 28 52 B28 (e28 n ls la (.n i) y8) H .normal (e28 n ls la (.i (qA.wrap ((i:Int)+1))) y8) H :=
 hx 0 60 [jT 2 3 H g0,jO 4 2 H g1,jF 4 4 H g2,jO 4 8 H g3,jF 4 12 H g4,jT 4 16 H g5,jO 4 21 H g6,jO 4 25 H g7,jF 4 27 H g8]
theorem Qn2 (H:Heap) (i:Nat) (x z:Int) (g0:(i:Int)<(la.length:Int)) (g1:IX 24 (.a la) (.n i) (.vptr (.i x))) (g2:¬(x<0)) (g3:IX 24 (.a la) (.n i) (.vptr (.i x))) (g4:¬((ls.length:Int)≤x)) (g5:¬(0<(i:Int))) (y8:HV:=Ud): RU F 28 52 B28 (e28 n ls la (.n i) y8) H .normal (e28 n ls la (.i (qA.wrap ((i:Int)+1))) y8) H :=
 hx 0 60 [jT 2 3 H g0,jO 4 2 H g1,jF 4 4 H g2,jO 4 8 H g3,jF 4 12 H g4,jF 4 16 H g5]
theorem Qn3 (H:Heap) (i:Nat) (x z:Int) (g0:¬((i:Int)<(la.length:Int))) (y8:HV:=Ud): RU F 28 52 B28 (e28 n ls la (.n i) y8) H (.exit 0) (e28 n ls la (.n i) y8) H :=
 hx 0 60 [jF 2 3 H g0]
theorem Qn4 (H:Heap) (sb k gb c:Nat) {H0:Heap} (g0:CM F 50 [.i n,.g ls,.a la] H (.tuple [.s sb k,.s gb c]) H0) (y7 y8:HV:=Ud): RU F 28 14 B28 (e28 n ls la y7 y8) H .normal (e28 n ls la y7 (.s sb k)) H0 :=
 hx 0 60 [jD 6 3 g0]
theorem Qn5 (H:Heap) (sb k:Nat) (g0:(la.length:Int)=qA.wrap (n-1)) (g1:(k:Int)=qA.wrap (n-1)) (y7:HV:=Ud): RU F 28 15 B28 (e28 n ls la y7 (.s sb k)) H .ret (Dl (.i n) (.g ls) (.a la) (.bool true) y7 (.s sb k)) H :=
 hx 0 60 [jT 7 4 H g0,jT 7 10 H g1]
theorem Qn6 (H:Heap) (sb k:Nat) (g0:(la.length:Int)=qA.wrap (n-1)) (g1:¬((k:Int)=qA.wrap (n-1))) (y7:HV:=Ud): RU F 28 15 B28 (e28 n ls la y7 (.s sb k)) H .ret (e28 n ls la y7 (.s sb k)) H :=
 hx 0 60 [jT 7 4 H g0,jF 7 10 H g1]
theorem Qn7 (H:Heap) (sb k:Nat) (g0:¬((la.length:Int)=qA.wrap (n-1))) (y7:HV:=Ud): RU F 28 15 B28 (e28 n ls la y7 (.s sb k)) H .ret (e28 n ls la y7 (.s sb k)) H :=
 hx 0 60 [jF 7 4 H g0]
end
end Go.Proofs.Ytiejmoglooaalaa
end
section
open Go Go.HL
namespace Go.Proofs.Ytiejmoglooaalaa
set_option linter.unusedSectionVars false
open Go.Proofs.Try renaming prog → Tp
open Go.HL.HV renaming undef → Ud
def okA (m:Nat) (t:List Int) (i:Nat):Bool:=decide ((0≤t.getD i 0∧t.getD i 0<(m:Int))∧(i=0∨t.getD (i-1) 0<t.getD i 0))
def Dn (m:Nat) (t:List Int):Bool:=(fN (fun i=>!okA m t i) t.length 0).isNone
def isT (n:Int) (l:List St) (t:List Int):Bool:=Dn l.length t&&(decide ((t.length:Int)=n-1)&&decide (((KO l t).length:Int)=n-1))
def QbG:List HV→Option HV:=f3 kI kS kL fun n l t=>if (0≤n∧n≤16)∧DS n l=true∧t.length≤500∧l.length≤500 then some (.bool (isT n l t)) else none
theorem QbH:Try.f28.results.toList=[.tmp 6]:=by kernel_rfl
def Ka:FuncId→Option (List HV→Option HV):=fun g=>if g==50 then some QbA else none
theorem QgL (n:Nat):Qo Tp (Qb Tp (plF Ka) n):=QF _ (fun g f h=>by
 unfold Ka at h
 split at h
 ·rename_i hg;cases h;rw [eq_of_beq hg];exact Qer
 ·cases h) n
theorem QbI {m:Nat} {t:List Int} (h:Dn m t=true):inR m t=true:=by
 refine inR_iff.2 fun k hk=>?_
 obtain ⟨j,hj,rfl⟩:=jU hk
 have hn:fN (fun i=>!okA m t i) t.length 0=none:=by
  unfold Dn at h
  cases hf:fN (fun i=>!okA m t i) t.length 0 with
  | none=>rfl
  | some _=>rw [hf] at h;cases h
 have:=VS hn j (jH _) (by omega)
 simp only [Bool.not_eq_false'] at this
 have h2:=(of_decide_eq_true this).1
 rwa [QA hj] at h2
theorem QeE:QV Tp 28 QbG:=by
 refine Qt (pol:=plF Ka) (fn:=Try.f28) (cd:=B28) Qk QgL (by kernel_rfl) (by kernel_rfl) (ZJ Ka _ _ (by kernel_rfl)) (by kernel_rfl) ?_
 intro args res h
 obtain ⟨n,l,t,rfl,hq⟩:=Xt h
 split at hq
 case isFalse=>cases hq
 rename_i hc
 obtain ⟨⟨n0,n1⟩,he,htl,hll⟩:=hc
 cases hq
 have a:=QnW (F:=Ka) n (l.map Qa) (t.map Qc)
 have b:=QnX (F:=Ka) n (l.map Qa) (t.map Qc) []
 have lm:((t.map Qc).length:Int)=(t.length:Int):=by rw [qE]
 have ll:((l.map Qa).length:Int)=(l.length:Int):=by rw [qE]
 have pass:∀i,i<t.length→okA l.length t i=true→RT (plF Ka) 28 (sn 52 B28) ((Dl (.i n) (.g (l.map Qa)) (.a (t.map Qc)) (.bool false) (.i (i:Int)) Ud)) [] .normal ((Dl (.i n) (.g (l.map Qa)) (.a (t.map Qc)) (.bool false) (.i ((i+1:Nat):Int)) Ud)) []:=fun i hi ho=>by
  obtain ⟨⟨h1,h2⟩,h3⟩:=of_decide_eq_true ho
  by_cases hz:i=0
  ·have s:=Qn2 (F:=Ka) n (l.map Qa) (t.map Qc) [] i (t.getD i 0) 0 (by omega) (gx hi) (by omega) (gx hi) (by omega) (by omega)
   rw [Qj (by omega)] at s
   exact s
  ·have h3:=h3.resolve_left hz
   have g:=gx (l:=t) (y:=i-1) (by omega)
   rw [← QQ (j:=i) (by omega) (by omega)] at g
   have s:=Qn1 (F:=Ka) n (l.map Qa) (t.map Qc) [] i (t.getD i 0) (t.getD (i-1) 0) (by omega) (gx hi) (by omega) (gx hi) (by omega) (by omega) g (gx hi) (by omega)
   rw [Qj (by omega)] at s
   exact s
 cases hf:fN (fun i=>!okA l.length t i) t.length 0 with
 | some m =>
  obtain ⟨_,h1,h2,h3⟩:=X4 hf
  have hm:m<t.length:=by omega
  have hA:Dn l.length t=false:=by rw [Dn,hf];rfl
  have ho:¬((0≤t.getD m 0∧t.getD m 0<(l.length:Int))∧(m=0∨t.getD (m-1) 0<t.getD m 0)):=by
   have:okA l.length t m=false:=by simpa using h2
   exact of_decide_eq_false this
  have out:∃E',RT (plF Ka) 28 (sn 52 B28) ((Dl (.i n) (.g (l.map Qa)) (.a (t.map Qc)) (.bool false) (.i (m:Int)) Ud)) [] .ret E' []∧E'.get 6=.bool false:=by
   by_cases k1:t.getD m 0<0
   ·exact ⟨_,QnY (F:=Ka) n (l.map Qa) (t.map Qc) [] m (t.getD m 0) 0 (by omega) (gx hm) k1,rfl⟩
   by_cases k2:(l.length:Int)≤t.getD m 0
   ·exact ⟨_,QnZ (F:=Ka) n (l.map Qa) (t.map Qc) [] m (t.getD m 0) 0 (by omega) (gx hm) k1 (gx hm) (by omega),rfl⟩
   have hm0:m≠0:=fun c=>ho ⟨by omega,.inl c⟩
   have hm1:¬t.getD (m-1) 0<t.getD m 0:=fun c=>ho ⟨by omega,.inr c⟩
   have g:=gx (l:=t) (y:=m-1) (by omega)
   rw [← QQ (j:=m) (by omega) (by omega)] at g
   exact ⟨_,Qn0 (F:=Ka) n (l.map Qa) (t.map Qc) [] m (t.getD m 0) (t.getD (m-1) 0) (by omega) (gx hm) k1 (gx hm) (by omega) (by omega) g (gx hm) (by omega),rfl⟩
  obtain ⟨E',o1,o2⟩:=out
  have r:=Wu (pol':=plF Ka) (f:=28) (E:=fun i=>(Dl (.i n) (.g (l.map Qa)) (.a (t.map Qc)) (.bool false) (.i (i:Int)) Ud)) (Hs:=fun _=>[]) m (fun i hi=>pass i (by omega) (by have:=h3 i (jH _) hi;simpa using this)) (fun i _=>by kernel_rfl) (fun i _=>QI _ rfl) o1 (by simp) (c:=sn 26 B28) (by kernel_rfl) (fun i _=>by kernel_rfl)
  refine ⟨_,_,_,.bool false,sq (a) (sqo (sq (b) (RunsTo.block_ret (i:=0) (c:=sn 13 B28) (r) (by kernel_rfl)) (c:=sn 6 B28)) (c:=sn 3 B28) (b:=sn 7 B28)) (c:=B28),by simp,by simp only [Qf,QbH,mapO,WG,o2],?_⟩
  rw [isT,hA];rfl
 | none =>
  have h3:=VS hf
  have hA:Dn l.length t=true:=by rw [Dn,hf];rfl
  have hin:=QbI hA
  have r:=Wu (pol':=plF Ka) (f:=28) (E:=fun i=>(Dl (.i n) (.g (l.map Qa)) (.a (t.map Qc)) (.bool false) (.i (i:Int)) Ud)) (Hs:=fun _=>[]) t.length (fun i hi=>pass i hi (by have:=h3 i (jH _) (by omega);simpa using this)) (fun i _=>by kernel_rfl) (fun i _=>QI _ rfl) (Qn3 (F:=Ka) n (l.map Qa) (t.map Qc) [] t.length 0 0 (by omega)) (by simp) (c:=sn 26 B28) (by kernel_rfl) (fun i _=>by kernel_rfl)
  have c50:=at3 (pol':=plF Ka) (g:=50) (c1:=kI) (c2:=kS) (c3:=kL) (f:=fun n l t=>if (0≤n∧n≤16)∧DS n l=true∧inR l.length t=true∧t.length≤500∧l.length≤500 then some (.tuple [.own 1 ((KO l t).map Qc),.own 1 ((Jf n.toNat l t).map Qc)]) else none) (H:=[]) (by kernel_rfl) (ShI _ n) (Qbk _ l) (XY _ t) (if_pos ⟨⟨n0,n1⟩,he,hin,htl,hll⟩)
  rw [QgD] at c50
  have d:=Qn4 (F:=Ka) n (l.map Qa) (t.map Qc) [] 0 (KO l t).length _ _ (y7:=.i (t.length:Int)) c50
  have hw:qA.wrap (n-1)=n-1:=Qs (by omega) (by omega)
  rw [isT,hA,Bool.true_and]
  by_cases k1:(t.length:Int)=n-1
  ·by_cases k2:((KO l t).length:Int)=n-1
   ·have z:=Qn5 (F:=Ka) n (l.map Qa) (t.map Qc) ([]++[bI (KO l t)]++[bI (Jf n.toNat l t)]) 0 (KO l t).length (y7:=.i (t.length:Int)) (by rw [hw];omega) (by rw [hw];exact k2)
    rw [decide_eq_true k1,decide_eq_true k2]
    exact ⟨_,_,_,.bool true,sq (a) (sq (sq (b) (bke (c:=sn 13 B28) (r)) (c:=sn 6 B28)) (sq (d) (z) (c:=sn 7 B28)) (c:=sn 3 B28)) (c:=B28),by simp,by simp only [Qf,QbH];rfl,rfl⟩
   ·have z:=Qn6 (F:=Ka) n (l.map Qa) (t.map Qc) ([]++[bI (KO l t)]++[bI (Jf n.toNat l t)]) 0 (KO l t).length (y7:=.i (t.length:Int)) (by rw [hw];omega) (by rw [hw];exact k2)
    rw [decide_eq_true k1,decide_eq_false k2]
    exact ⟨_,_,_,.bool false,sq (a) (sq (sq (b) (bke (c:=sn 13 B28) (r)) (c:=sn 6 B28)) (sq (d) (z) (c:=sn 7 B28)) (c:=sn 3 B28)) (c:=B28),by simp,by simp only [Qf,QbH];rfl,rfl⟩
  ·have z:=Qn7 (F:=Ka) n (l.map Qa) (t.map Qc) ([]++[bI (KO l t)]++[bI (Jf n.toNat l t)]) 0 (KO l t).length (y7:=.i (t.length:Int)) (by rw [hw];omega)
   rw [decide_eq_false k1]
   exact ⟨_,_,_,.bool false,sq (a) (sq (sq (b) (bke (c:=sn 13 B28) (r)) (c:=sn 6 B28)) (sq (d) (z) (c:=sn 7 B28)) (c:=sn 3 B28)) (c:=B28),by simp,by simp only [Qf,QbH];rfl,rfl⟩
def sw1 (p:Int) (s:List Int×Bool) (x:Int):List Int×Bool:=if s.2=false∧p<x then (s.1++[p],true) else s
def swS (o p:Int) (s:List Int×Bool) (x:Int):List Int×Bool:=if x=o then sw1 p s x else ((sw1 p s x).1++[x],(sw1 p s x).2)
def swF (o p:Int) (t:List Int):List Int×Bool:=t.foldl (swS o p) ([],false)
theorem QeF (o p:Int) (t:List Int) {i:Nat} (h:i<t.length):swF o p (t.take (i+1))=swS o p (swF o p (t.take i)) (t.getD i 0):=by
 rw [swF,WF h,List.foldl_append];rfl
theorem swp_len (o p:Int) (t:List Int):∀i,i≤t.length→(swF o p (t.take i)).1.length≤2*i:=by
 intro i
 induction i with
 | zero=>intro _;simp [swF]
 | succ i ih =>
  intro hi
  have h:=ih (by omega)
  rw [QeF o p t (by omega),swS,sw1]
  split <;> split <;> simp <;> omega
theorem VT (l:List St) (t:List Int) (k:Int):tkT l (t++[k])=if (Qy l t).getD (sA l k).toNat 0≠(Qy l t).getD (sB l k).toNat 0 then tkT l t++[k] else tkT l t:=by
 have a:=ZS l (t++[k]) (i:=t.length) (by simp)
 have g0:(t++[k]).getD t.length 0=k:=by simp [qO]
 rw [jP (by simp),g0,wA] at a
 exact a
theorem QeG (l:List St) (t:List Int):(tkT l t).length≤t.length:=Ua l t
theorem mem_wo {t:List Int} {v x:Int}:x∈wo t v↔x∈t∧x≠v:=by simp [wo,jE]
theorem QaK {t:List Int} (hn:t.Nodup) {k:Int} (hk:k∈t):t.length=(wo t k).length+1:=by
 have:=KQ (p:=fun _=>true) (q:=fun x=>decide (x≠k)) hn hk rfl (fun y _ hy=>decide_eq_true hy) (by simp)
 rw [List.filter_eq_self.2 fun _ _=>rfl] at this
 exact this
section
variable {l:List St} (he:Jk l=true) {t:List Int} (ht:∀k∈t,0≤k∧k<(l.length:Int)) (hn:t.Nodup) (hf:(tkT l t).length=t.length)
include he ht hn hf
theorem KS {k:Int} (hk:k∈t):(tkT l (wo t k)).length+1=t.length∧Wa l t k k:=by
 have hm:∀x,x∈t↔x∈wo t k++[k]:=fun x=>by
  rw [qS,mem_wo,List.mem_singleton]
  by_cases c:x=k
  ·subst c;simp [hk]
  ·simp [c]
 have h1:=Q7 he ht hm
 rw [hf,VT] at h1
 have h2:=QaK hn hk
 have h3:=QeG l (wo t k)
 split at h1
 ·rename_i c
  rw [qC,qU] at h1
  exact ⟨h1.symm,c⟩
 ·omega
theorem QeH {k j:Int} (hk:k∈t) (hj:0≤j∧j<(l.length:Int)) {s:List Int} (hs:∀x,x∈s↔x∈wo t k++[j]):(tkT l s).length=t.length↔Wa l t k j:=by
 have hin:∀x∈wo t k++[j],0≤x∧x<(l.length:Int):=fun x hx=>by
  rcases List.mem_append.1 hx with h | h
  ·exact ht x (mem_wo.1 h).1
  ·rw [List.mem_singleton.1 h];exact hj
 have h1:=Q7 he (t:=s) (t':=wo t k++[j]) (fun x hx=>hin x ((hs x).1 hx)) hs
 have h2:=(KS he ht hn hf hk).1
 rw [h1,VT]
 split
 ·rename_i c
  rw [qC,qU]
  exact ⟨fun _=>c,fun _=>by omega⟩
 ·rename_i c
  exact ⟨fun h=>by omega,fun h=>absurd h c⟩
end
theorem ZF (l:List St):(Qd l).Nodup:=by
 have:=JO l (Qh l) (Qh l).length (qB _)
 rw [qL] at this
 exact this.nodup (KP l)
theorem Vu {l:List Int} (h:l.Nodup) {i:Nat} (hi:i<l.length):l.getD i 0∉l.take i:=by
 intro c
 have h2:(l.take (i+1)).Nodup:=(List.take_sublist _ _).nodup h
 rw [WF hi] at h2
 exact (List.nodup_append.1 h2).2.2 _ c _ (wH _) rfl
theorem QgM (l:List St) (t:List Int) {i:Nat}:∀d,i+d≤t.length→∀x∈tkT l (t.take i),x∈tkT l (t.take (i+d)):=by
 intro d
 induction d with
 | zero=>intro _ x hx;exact hx
 | succ d ih =>
  intro h x hx
  have:=ih (by omega) x hx
  rw [show i+(d+1)=(i+d)+1 by omega,ZS l t (by omega)]
  split
  ·exact jG _ this
  ·exact this
theorem J2 (l:List St) (t:List Int) {i:Nat} (hi:i≤t.length):∀x∈tkT l (t.take i),x∈tkT l t:=fun x hx=>by
 have:=QgM l t (i:=i) (t.length-i) (by omega) x hx
 rwa [show i+(t.length-i)=t.length by omega,qL] at this
theorem VU:∀{a b:List Int},a.Nodup→b.Nodup→(∀x,x∈a↔x∈b)→a.length=b.length
 | [],b,_,_,h=>by
  have:b=[]:=List.eq_nil_iff_forall_not_mem.2 fun x hx=>by cases (h x).2 hx
  rw [this]
 | x::a,b,ha,hb,h=>by
  obtain ⟨h1,h2⟩:=List.nodup_cons.1 ha
  have hx:x∈b:=(h x).1 (qJ ..)
  rw [QaK hb hx,qG]
  refine congrArg (·+1) (VU h2 (hb.sublist qW) fun y=>?_)
  rw [mem_wo]
  constructor
  ·intro hy
   exact ⟨(h y).1 (qI _ hy),fun c=>h1 (c▸hy)⟩
  ·intro ⟨hy,hne⟩
   exact (List.mem_cons.1 ((h y).2 hy)).resolve_left hne
theorem Do (m:Nat):(Qg m).Pairwise (· < ·):=List.pairwise_map.2 (List.Pairwise.imp (fun {a b} h=>by omega) (List.pairwise_lt_range (n:=m)))
theorem Ca (l:List St):(frT l).Pairwise (· < ·):=(Do _).sublist qW
theorem Kx {t:List Int} (h:t.Pairwise (· < ·)):t.Nodup:=List.Pairwise.imp (fun {a b} h c=>by omega) h
theorem QgN {m:Nat} {t:List Int} (ha:t.Pairwise (· < ·)) (ht:∀k∈t,0≤k∧k<(m:Int)):Dn m t=true:=by
 rw [Dn]
 cases hf:fN (fun i=>!okA m t i) t.length 0 with
 | none=>rfl
 | some i =>
  exfalso
  obtain ⟨_,h2,h3,_⟩:=X4 hf
  have:okA m t i=false:=by simpa using h3
  refine of_decide_eq_false this ⟨ht _ (Qw 0 (by omega)),?_⟩
  rcases Nat.eq_zero_or_pos i with c | c
  ·exact .inl c
  ·right
   have:=List.pairwise_iff_getElem.1 ha (i-1) i (by omega) (by omega) (by omega)
   rw [QA (by omega),QA (by omega)]
   exact this
section
variable {n:Int} {l:List St} (hnet:WC n l=true) (hc:Wk n l=true)
include hnet
theorem Qz:Jk l=true:=XB (QT hnet).2.2.1 (by have:=(QT hnet).1;omega)
theorem Qr4 {j:Int} (hj:0≤j∧j<(l.length:Int)) (hjT:j∉Qd l) {p:Nat} (hp:p<(Qh l).length) (hpj:(Qh l).getD p 0=j):Cn l (tkT l ((Qh l).take p)) (sA l j) (sB l j):=by
 have he:=Qz hnet
 have ho:∀k∈Qh l,0≤k∧k<(l.length:Int):=fun k hk=>ordT_mem.1 hk
 obtain ⟨ea,eb⟩:=Ku he hj
 have hin:∀k∈tkT l ((Qh l).take p),0≤k∧k<(l.length:Int):=fun k hk=>ZA (J2 l (Qh l) (by omega) k hk)
 refine (XC he hin ea eb).1 ?_
 rw [lb,lb,(Qik (l:=l) (t:=Qh l) p (by omega)).1]
 by_cases c:(Qy l ((Qh l).take p)).getD (sA l j).toNat 0=(Qy l ((Qh l).take p)).getD (sB l j).toNat 0
 ·exact c
 ·exfalso
  refine hjT (J2 l (Qh l) (i:=p+1) (by omega) j ?_)
  rw [ZS l (Qh l) hp,hpj,if_pos c]
  exact zP _ (wH _)
theorem Cb {j:Int} (hj:0≤j∧j<(l.length:Int)):∃p,p<(Qh l).length∧(Qh l).getD p 0=j:=by
 obtain ⟨p,hp,he⟩:=jU (ordT_mem.2 hj)
 exact ⟨p,hp,by rw [QA hp];exact he⟩
theorem Cc {k j:Int} (hk:k∈Qd l) (hj:0≤j∧j<(l.length:Int)) (hjT:j∉Qd l) (hJ:Wa l (Qd l) k j):wOf l k≤wOf l j:=by
 have he:=Qz hnet
 have hkr:=ZA hk
 obtain ⟨p,hp,hpj⟩:=Cb hnet hj
 obtain ⟨q,hq,hqk⟩:=Cb hnet hkr
 have hs:=J1 l l.length
 have hs:(Qh l).Pairwise (ltK l):=hs
 have hne:p≠q:=fun c=>hjT (by rw [← hpj,c,hqk];exact hk)
 rcases Nat.lt_or_gt_of_ne hne with c | c
 ·exfalso
  have h1:=Qr4 hnet hj hjT hp hpj
  have hwin:∀x∈wo (Qd l) k,0≤x∧x<(l.length:Int):=fun x hx=>ZA (mem_wo.1 hx).1
  refine hJ (Vt he hwin (h1.mono fun x hx=>mem_wo.2 ⟨J2 l (Qh l) (by omega) x hx,fun e=>?_⟩))
  have h2:x∈(Qh l).take p:=(by have:=JO l (Qh l) p (by omega);exact this.subset hx)
  obtain ⟨r,hr,hre⟩:=jU h2
  rw [qK] at hr
  rw [List.getElem_take,e,← hqk,QA hq] at hre
  have:=(KP l)
  have h3:=List.pairwise_iff_getElem.1 this r q (by omega) hq (by omega)
  exact h3 hre
 ·have:=List.pairwise_iff_getElem.1 hs q p (by omega) (by omega) c
  rw [← QA (d:=0) hq,← QA (d:=0) hp,hqk,hpj] at this
  unfold ltK at this
  omega
end
section
variable {n:Int} {l:List St} (hnet:WC n l=true) (hc:Wk n l=true)
include hnet
include hc
theorem SL:((Qd l).length:Int)=n-1:=of_decide_eq_true hc
theorem YY:(tkT l (Qd l)).length=(Qd l).length:=by rw [(Qeu l).2]
theorem QgO {j:Int} (hj:0≤j∧j<(l.length:Int)) (hjT:j∉Qd l):∃k∈Qd l,Wa l (Qd l) k j:=by
 have he:=Qz hnet
 obtain ⟨ea,eb⟩:=Ku he hj
 have hTin:∀x∈Qd l,0≤x∧x<(l.length:Int):=fun x hx=>ZA hx
 have hab:sA l j≠sB l j:=by
  have h:=hnet
  simp only [WC,zC,zJ,decide_eq_true_eq,stB] at h
  have:=(h.1 _ (Qw (l:=l) (0,0,0) (show j.toNat<l.length by omega))).2.2.1
  exact this
 obtain ⟨p,hp,hpj⟩:=Cb hnet hj
 have h1:=(Qr4 hnet hj hjT hp hpj).mono (t':=Qd l) fun x hx=>J2 l (Qh l) (by omega) x hx
 have h2:=Vt he hTin h1
 have htk:∀i,∀x∈(Qd l).take i,0≤x∧x<(l.length:Int):=fun i x hx=>hTin x (qX hx)
 have key:∀i,i≤(Qd l).length→lb l ((Qd l).take i) (sA l j)=lb l ((Qd l).take i) (sB l j)→∃m,m<i∧lb l ((Qd l).take m) (sA l j)≠lb l ((Qd l).take m) (sB l j)∧lb l ((Qd l).take (m+1)) (sA l j)=lb l ((Qd l).take (m+1)) (sB l j):=by
  intro i
  induction i with
  | zero =>
   intro _ h
   exfalso
   have e:∀v:Int,0≤v∧v<16→lb l ((Qd l).take 0) v=v:=fun v hv=>by
    show (Qg 16).getD v.toNat 0=v
    have:v.toNat<16:=by omega
    simp [Qg,qO,this];omega
   rw [e _ ea,e _ eb] at h
   exact hab h
  | succ i ih =>
   intro hi h
   by_cases c:lb l ((Qd l).take i) (sA l j)=lb l ((Qd l).take i) (sB l j)
   ·obtain ⟨m,h1,h2,h3⟩:=ih (by omega) c
    exact ⟨m,by omega,h2,h3⟩
   ·exact ⟨i,by omega,c,h⟩
 obtain ⟨m,hm,hne,heq⟩:=key (Qd l).length (qB _) (by rw [qL];exact h2)
 have hk:=Qw (l:=Qd l) 0 hm
 refine ⟨(Qd l).getD m 0,hk,fun hsame=>?_⟩
 have hsame:lb l (wo (Qd l) ((Qd l).getD m 0)) (sA l j)=lb l (wo (Qd l) ((Qd l).getD m 0)) (sB l j):=hsame
 have hwin:∀x∈wo (Qd l) ((Qd l).getD m 0),0≤x∧x<(l.length:Int):=fun x hx=>hTin x (mem_wo.1 hx).1
 obtain ⟨ka,kb⟩:=Ku he (hTin _ hk)
 have hmono:∀x∈(Qd l).take m,x∈wo (Qd l) ((Qd l).getD m 0):=fun x hx=>mem_wo.2 ⟨qX hx,fun c=>Vu (ZF l) hm (c▸hx)⟩
 have cA:=(Zz he (htk m) ka).mono hmono
 have cB:=(Zz he (htk m) kb).mono hmono
 have ca:=(Zz he (htk m) ea).mono hmono
 have cb:=(Zz he (htk m) eb).mono hmono
 have cab:=(XC he hwin ea eb).1 hsame
 rw [Z8 he hTin hm ea,Z8 he hTin hm eb] at heq
 have hK:Cn l (wo (Qd l) ((Qd l).getD m 0)) (sA l ((Qd l).getD m 0)) (sB l ((Qd l).getD m 0)):=by
  generalize lb l ((Qd l).take m) (sA l j)=x at *
  generalize lb l ((Qd l).take m) (sB l j)=y at *
  generalize lb l ((Qd l).take m) (sA l ((Qd l).getD m 0))=A at *
  generalize lb l ((Qd l).take m) (sB l ((Qd l).getD m 0))=B at *
  have hxy:Cn l (wo (Qd l) ((Qd l).getD m 0)) x y:=.trans ca (.trans cab (.symm cb))
  have hc:(x=A∧y=B)∨(x=B∧y=A):=by
   unfold WN at heq
   split at heq <;> split at heq <;> omega
  rcases hc with ⟨e1,e2⟩ | ⟨e1,e2⟩
  ·rw [e1,e2] at hxy;exact .trans (.symm cA) (.trans hxy cB)
  ·rw [e1,e2] at hxy;exact .trans (.symm cA) (.trans (.symm hxy) cB)
 exact (KS he hTin (ZF l) (YY hnet hc) hk).2 (Vt he hwin hK)
end
theorem Yq (l:List St) (s:List Int):∀r:List Int,(tkT l (s++r)).length≤(tkT l s).length+r.length:=by
 have key:∀(m:Nat) (r:List Int),r.length=m→(tkT l (s++r)).length≤(tkT l s).length+m:=by
  intro m
  induction m with
  | zero=>intro r h;rw [List.length_eq_zero_iff.1 h,qM];omega
  | succ m ih =>
   intro r h
   rcases List.eq_nil_or_concat r with e | ⟨r',x,e⟩
   ·rw [e] at h;simp at h
   ·subst e
    rw [List.concat_eq_append] at h ⊢
    rw [qC,qU] at h
    have:=ih r' (by omega)
    rw [← qF,VT]
    split
    ·rw [qC,qU];omega
    ·omega
 exact fun r=>key r.length r rfl
def loW (l:List St) (x:Int) (t:List Int):List Int:=t.filter fun k=>decide (wOf l k≤x)
def hiW (l:List St) (x:Int) (t:List Int):List Int:=t.filter fun k=>!decide (wOf l k≤x)
theorem Dp {l:List St} {x:Int} {t:List Int} (y:Int):y∈t↔y∈loW l x t++hiW l x t:=by
 rw [qS,loW,hiW,jE,jE]
 cases decide (wOf l y≤x) <;> simp
theorem W3 (l:List St) (x:Int):∀t:List Int,(loW l x t).length+(hiW l x t).length=t.length
 | []=>rfl
 | y::t=>by
  have:=W3 l x t
  unfold loW hiW at *
  rw [wC,wC]
  cases decide (wOf l y≤x) <;> simp <;> omega
theorem lo_mem {l:List St} {x:Int} {t:List Int} {y:Int}:y∈loW l x t↔y∈t∧wOf l y≤x:=by rw [loW,jE,decide_eq_true_eq]
section
variable {l:List St} (he:Jk l=true)
include he
theorem Qr5 {t t':List Int} (ht:∀k∈t,0≤k∧k<(l.length:Int)) (ht':∀k∈t',0≤k∧k<(l.length:Int)) (hs:∀u v:Int,Cn l t u v→Cn l t' u v):rt (Qy l t')≤rt (Qy l t):=by
 unfold rt
 rw [← jI,← jI]
 refine zQ fun v hv h=>?_
 have hv:=List.mem_range.1 hv
 have h:lb l t' (v:Int)=(v:Int):=of_decide_eq_true h
 have hr:0≤(v:Int)∧(v:Int)<16:=by omega
 refine decide_eq_true (show lb l t (v:Int)=(v:Int) from ?_)
 have h1:=Vt he ht' (hs _ _ (Zz he ht hr))
 have h2:=W2 he ht' (G6 he ht hr)
 have h3:=W2 he ht hr
 omega
theorem VV {t t':List Int} (ht:∀k∈t,0≤k∧k<(l.length:Int)) (ht':∀k∈t',0≤k∧k<(l.length:Int)) (hs:∀u v:Int,Cn l t u v→Cn l t' u v):(tkT l t).length≤(tkT l t').length:=by
 have:=Qr5 he ht ht' hs
 have h1:=Z9 he ht
 have h2:=Z9 he ht'
 omega
theorem Dq {t s r:List Int} (ht:∀k∈t,0≤k∧k<(l.length:Int)) (hf:(tkT l t).length=t.length) (hm:∀x,x∈t↔x∈s++r) (hl:s.length+r.length=t.length):(tkT l s).length=s.length:=by
 have h1:=Q7 he ht hm
 have h2:=Yq l s r
 have h3:=QeG l s
 omega
theorem Gk {t:List Int} (ht:∀k∈t,0≤k∧k<(l.length:Int)) (hn:t.Nodup) (hf:(tkT l t).length=t.length) {j:Int} (hj:0≤j∧j<(l.length:Int)) (hab:sA l j≠sB l j) (h2:Cn l t (sA l j) (sB l j)) :
  ∃m,m<t.length∧Wa l t (t.getD m 0) j∧Cn l (t.take (m+1)) (sA l j) (sB l j):=by
 obtain ⟨ea,eb⟩:=Ku he hj
 have htk:∀i,∀x∈t.take i,0≤x∧x<(l.length:Int):=fun i x hx=>ht x (qX hx)
 have key:∀i,i≤t.length→lb l (t.take i) (sA l j)=lb l (t.take i) (sB l j)→∃m,m<i∧lb l (t.take m) (sA l j)≠lb l (t.take m) (sB l j)∧lb l (t.take (m+1)) (sA l j)=lb l (t.take (m+1)) (sB l j):=by
  intro i
  induction i with
  | zero =>
   intro _ h
   exfalso
   have e:∀v:Int,0≤v∧v<16→lb l (t.take 0) v=v:=fun v hv=>by
    show (Qg 16).getD v.toNat 0=v
    have:v.toNat<16:=by omega
    simp [Qg,qO,this];omega
   rw [e _ ea,e _ eb] at h
   exact hab h
  | succ i ih =>
   intro hi h
   by_cases c:lb l (t.take i) (sA l j)=lb l (t.take i) (sB l j)
   ·obtain ⟨m,h1,h2,h3⟩:=ih (by omega) c
    exact ⟨m,by omega,h2,h3⟩
   ·exact ⟨i,by omega,c,h⟩
 obtain ⟨m,hm,hne,heq⟩:=key t.length (qB _) (by rw [qL];exact Vt he ht h2)
 have hk:=Qw (l:=t) 0 hm
 refine ⟨m,hm,fun hsame=>?_,(XC he (htk _) ea eb).1 heq⟩
 have hsame:lb l (wo t (t.getD m 0)) (sA l j)=lb l (wo t (t.getD m 0)) (sB l j):=hsame
 have hwin:∀x∈wo t (t.getD m 0),0≤x∧x<(l.length:Int):=fun x hx=>ht x (mem_wo.1 hx).1
 obtain ⟨ka,kb⟩:=Ku he (ht _ hk)
 have hmono:∀x∈t.take m,x∈wo t (t.getD m 0):=fun x hx=>mem_wo.2 ⟨qX hx,fun c=>Vu hn hm (c▸hx)⟩
 have cA:=(Zz he (htk m) ka).mono hmono
 have cB:=(Zz he (htk m) kb).mono hmono
 have ca:=(Zz he (htk m) ea).mono hmono
 have cb:=(Zz he (htk m) eb).mono hmono
 have cab:=(XC he hwin ea eb).1 hsame
 rw [Z8 he ht hm ea,Z8 he ht hm eb] at heq
 have hK:Cn l (wo t (t.getD m 0)) (sA l (t.getD m 0)) (sB l (t.getD m 0)):=by
  generalize lb l (t.take m) (sA l j)=x at *
  generalize lb l (t.take m) (sB l j)=y at *
  generalize lb l (t.take m) (sA l (t.getD m 0))=A at *
  generalize lb l (t.take m) (sB l (t.getD m 0))=B at *
  have hxy:Cn l (wo t (t.getD m 0)) x y:=.trans ca (.trans cab (.symm cb))
  have hc:(x=A∧y=B)∨(x=B∧y=A):=by
   unfold WN at heq
   split at heq <;> split at heq <;> omega
  rcases hc with ⟨e1,e2⟩ | ⟨e1,e2⟩
  ·rw [e1,e2] at hxy;exact .trans (.symm cA) (.trans hxy cB)
  ·rw [e1,e2] at hxy;exact .trans (.symm cA) (.trans (.symm hxy) cB)
 exact (KS he ht hn hf hk).2 (Vt he hwin hK)
end
structure Tr (n:Int) (l:List St) (t:List Int):Prop where
 rg:∀k∈t,0≤k∧k<(l.length:Int)
 nd:t.Nodup
 ln:(t.length:Int)=n-1
 fo:(tkT l t).length=t.length
theorem Dr {n:Int} {l:List St} (hE:∀k,0≤k∧k<(l.length:Int)→sA l k<n∧sB l k<n) {t:List Int} (ht:∀k∈t,0≤k∧k<(l.length:Int)) {u v:Int} (h:Cn l t u v):u=v∨(u<n∧v<n):=by
 induction h with
 | refl v=>exact .inl rfl
 | edge h=>exact .inr (hE _ (ht _ h))
 | symm _ ih=>omega
 | trans _ _ h1 h2=>omega
section
variable {n:Int} {l:List St} (hnet:WC n l=true)
include hnet
theorem Jg {k:Int} (hk:0≤k∧k<(l.length:Int)):(0≤sA l k∧sA l k<n)∧(0≤sB l k∧sB l k<n)∧sA l k≠sB l k:=by
 have h:=hnet
 simp only [WC,zC,zJ,decide_eq_true_eq,stB] at h
 have:=h.1 _ (Qw (l:=l) (0,0,0) (show k.toNat<l.length by omega))
 exact ⟨by have:=this.1;exact this,by have:=this.2.1;exact this,this.2.2.1⟩
theorem Qr6 {t:List Int} (ht:∀k∈t,0≤k∧k<(l.length:Int)):17-n≤(rt (Qy l t):Int):=by
 have he:=Qz hnet
 obtain ⟨⟨n1,n2⟩,_⟩:=QT hnet
 have hE:∀k,0≤k∧k<(l.length:Int)→sA l k<n∧sB l k<n:=fun k hk=>by have:=Jg hnet hk;omega
 have h1:((qD 16).filter fun (v:Nat)=>decide (v=0∨n≤(v:Int))).length≤rt (Qy l t):=by
  unfold rt
  rw [← jI,← jI]
  refine zQ fun v hv h=>?_
  have hv:=List.mem_range.1 hv
  have h:=of_decide_eq_true h
  have hr:0≤(v:Int)∧(v:Int)<16:=by omega
  refine decide_eq_true (show lb l t (v:Int)=(v:Int) from ?_)
  have h2:=W2 he ht hr
  have h3:=Dr hE ht (Zz he ht hr)
  omega
 have h2:∀m:Nat,1≤m∧m≤16→((qD 16).filter fun (v:Nat)=>decide (v=0∨(m:Int)≤(v:Int))).length=17-m:=by
  have:∀m:Fin 17,1≤m.val→((qD 16).filter fun (v:Nat)=>decide (v=0∨(m.val:Int)≤(v:Int))).length=17-m.val:=by decide +kernel
  exact fun m hm=>this ⟨m,by omega⟩ hm.1
 have h3:=h2 n.toNat (by omega)
 rw [show ((n.toNat:Nat):Int)=n by omega] at h3
 omega
theorem Ce {t:List Int} (ht:∀k∈t,0≤k∧k<(l.length:Int)):((tkT l t).length:Int)≤n-1:=by
 have:=Qr6 hnet ht
 have:=Z9 (Qz hnet) ht
 omega
theorem Tr.con {t:List Int} (h:Tr n l t) {j:Int} (hj:0≤j∧j<(l.length:Int)):Cn l t (sA l j) (sB l j):=by
 have he:=Qz hnet
 obtain ⟨ea,eb⟩:=Ku he hj
 refine (XC he h.rg ea eb).1 ?_
 have h1:=VT l t j
 by_cases c:(Qy l t).getD (sA l j).toNat 0=(Qy l t).getD (sB l j).toNat 0
 ·exact c
 ·exfalso
  rw [if_pos c] at h1
  have h2:=Ce hnet (t:=t++[j]) (fun k hk=>(List.mem_append.1 hk).elim (h.rg k) fun e=>(List.mem_singleton.1 e)▸hj)
  rw [h1,qC,qU,h.fo] at h2
  have:=h.ln
  omega
def Loc (l:List St) (t:List Int):Prop:=∀k∈t,∀j,0≤j∧j<(l.length:Int)→j∉t→Wa l t k j→wOf l k≤wOf l j
theorem QgP {t:List Int} (h:Tr n l t) (hL:Loc l t) {j:Int} (hj:0≤j∧j<(l.length:Int)):Cn l (loW l (wOf l j) t) (sA l j) (sB l j):=by
 have he:=Qz hnet
 by_cases hjt:j∈t
 ·exact .edge (lo_mem.2 ⟨hjt,Int.le_refl _⟩)
 have hab:=(Jg hnet hj).2.2
 have hm:=fun y=>Dp (l:=l) (x:=wOf l j) (t:=t) y
 have hlen:=W3 l (wOf l j) t
 have hrg:∀k∈loW l (wOf l j) t++hiW l (wOf l j) t,0≤k∧k<(l.length:Int):=fun k hk=>h.rg k ((hm k).2 hk)
 have hf:(tkT l (loW l (wOf l j) t++hiW l (wOf l j) t)).length=(loW l (wOf l j) t++hiW l (wOf l j) t).length:=by
  rw [← Q7 he h.rg hm,h.fo,qC,hlen]
 have hn:(loW l (wOf l j) t++hiW l (wOf l j) t).Nodup:=by
  refine List.nodup_append.2 ⟨h.nd.sublist qW,h.nd.sublist qW,fun a ha b hb e=>?_⟩
  subst e
  have h1:=(List.mem_filter.1 ha).2
  have h2:=(List.mem_filter.1 hb).2
  rw [h1] at h2
  cases h2
 obtain ⟨m,hm1,hm2,hm3⟩:=Gk he hrg hn hf hj hab ((Tr.con hnet h hj).mono fun k hk=>(hm k).1 hk)
 have hk:=Qw (l:=loW l (wOf l j) t++hiW l (wOf l j) t) 0 hm1
 have hkt:=(hm _).2 hk
 have hJ:Wa l t ((loW l (wOf l j) t++hiW l (wOf l j) t).getD m 0) j:=by
  have:Qy l (wo t ((loW l (wOf l j) t++hiW l (wOf l j) t).getD m 0))=Qy l (wo (loW l (wOf l j) t++hiW l (wOf l j) t) ((loW l (wOf l j) t++hiW l (wOf l j) t).getD m 0)):=X5 he (fun x hx=>h.rg x (mem_wo.1 hx).1) (fun x=>by rw [mem_wo,mem_wo,← hm])
  unfold Wa
  rw [this]
  exact hm2
 have hw:=hL _ hkt j hj hjt hJ
 have hml:m<(loW l (wOf l j) t).length:=by
  rcases Nat.lt_or_ge m (loW l (wOf l j) t).length with c | c
  ·exact c
  ·exfalso
   rw [QA hm1,List.getElem_append_right c] at hw
   rw [qC] at hm1
   have:((hiW l (wOf l j) t)[m-(loW l (wOf l j) t).length]'(by omega))∈hiW l (wOf l j) t:=List.getElem_mem _
   have:=(List.mem_filter.1 this).2
   simp only [Bool.not_eq_true',decide_eq_false_iff_not] at this
   exact this hw
 refine hm3.mono fun k hk=>?_
 rw [zO (by omega)] at hk
 exact qX hk
theorem Cf {t:List Int} (h:Tr n l t) (x:Int):(loW l x t).length≤(tkT l (loW l x (Qg l.length))).length:=by
 have he:=Qz hnet
 have h1:=Dq he h.rg h.fo (fun y=>Dp (l:=l) (x:=x) y) (W3 l x t)
 have h2:=VV he (t:=loW l x t) (t':=loW l x (Qg l.length)) (fun k hk=>h.rg k (lo_mem.1 hk).1) (fun k hk=>startT_mem.1 (lo_mem.1 hk).1) (fun u v huv=>huv.mono fun k hk=>lo_mem.2 ⟨startT_mem.2 (h.rg k (lo_mem.1 hk).1),(lo_mem.1 hk).2⟩)
 omega
theorem YZ {t:List Int} (h:Tr n l t) (hL:Loc l t) (x:Int):(loW l x t).length=(tkT l (loW l x (Qg l.length))).length:=by
 have he:=Qz hnet
 have h1:=Dq he h.rg h.fo (fun y=>Dp (l:=l) (x:=x) y) (W3 l x t)
 have h2:=VV he (t:=loW l x (Qg l.length)) (t':=loW l x t) (fun k hk=>startT_mem.1 (lo_mem.1 hk).1) (fun k hk=>h.rg k (lo_mem.1 hk).1) (fun u v huv=>by
  induction huv with
  | refl v=>exact .refl v
  | edge hk =>
   obtain ⟨h3,h4⟩:=lo_mem.1 hk
   refine (QgP hnet h hL (startT_mem.1 h3)).mono fun y hy=>?_
   obtain ⟨h5,h6⟩:=lo_mem.1 hy
   exact lo_mem.2 ⟨h5,by omega⟩
  | symm _ ih=>exact .symm ih
  | trans _ _ a b=>exact .trans a b)
 have h3:=Cf hnet h x
 omega
end
def ZT (l:List St) (t:List Int):Nat→Nat
 | 0=>0
 | m+1=>ZT l t m+(hiW l (m:Int) t).length
theorem SM (l:List St):∀m,ZT l [] m=0
 | 0=>rfl
 | m+1=>by rw [ZT,SM l m];rfl
theorem Gl (l:List St) (k:Int) (t:List Int) (hk:0≤wOf l k):∀m:Nat,(ZT l (k::t) m:Int)=ZT l t m+min (wOf l k) m
 | 0=>by rw [ZT,ZT];omega
 | m+1=>by
  have:=Gl l k t hk m
  rw [ZT,ZT,hiW,wC]
  by_cases c:wOf l k≤(m:Int)
  ·rw [decide_eq_true c]
   simp only [Bool.not_true,Bool.false_eq_true,if_false]
   show ((ZT l (k::t) m+(hiW l (m:Int) t).length:Nat):Int)=_
   omega
  ·rw [decide_eq_false c]
   simp only [Bool.not_false,if_true,qG]
   show ((ZT l (k::t) m+((hiW l (m:Int) t).length+1):Nat):Int)=_
   omega
theorem Uf (l:List St) {M:Nat}:∀t:List Int,(∀k∈t,0≤wOf l k∧wOf l k≤(M:Int))→wgt l t=(ZT l t M:Int)
 | [],_=>by rw [SM];rfl
 | k::t,h=>by
  have h1:=h k (qJ ..)
  rw [Gl l k t h1.1,← Uf l t fun y hy=>h y (qI _ hy)]
  show (((k::t).map (wOf l)).sum)=(t.map (wOf l)).sum+_
  rw [jQ,List.sum_cons]
  omega
theorem Yr {l:List St} {t s:List Int} (h:∀m:Nat,(hiW l (m:Int) t).length≤(hiW l (m:Int) s).length):∀m,ZT l t m≤ZT l s m
 | 0=>qB _
 | m+1=>Nat.add_le_add (Yr h m) (h m)
section
variable {n:Int} {l:List St} (hnet:WC n l=true)
include hnet
theorem X6 {k:Int} (hk:0≤k∧k<(l.length:Int)):0≤wOf l k∧wOf l k≤1000:=(QT hnet).2.2.2 _ (Qw _ (by omega))
theorem QgQ {t s:List Int} (ht:Tr n l t) (hL:Loc l t) (hs:Tr n l s):wgt l t≤wgt l s:=by
 rw [Uf l (M:=1000) t fun k hk=>X6 hnet (ht.rg k hk),Uf l (M:=1000) s fun k hk=>X6 hnet (hs.rg k hk)]
 have:=Yr (l:=l) (t:=t) (s:=s) (fun m=>by
  have h1:=YZ hnet ht hL (m:Int)
  have h2:=Cf hnet hs (m:Int)
  have h3:=W3 l (m:Int) t
  have h4:=W3 l (m:Int) s
  have:=ht.ln
  have:=hs.ln
  omega) 1000
 omega
theorem JP (hc:Wk n l=true):Tr n l (Qd l):=⟨fun k hk=>ZA hk,ZF l,SL hnet hc,YY hnet hc⟩
theorem Gm:Loc l (Qd l):=fun _ hk _ hj hjt hJ=>Cc hnet hk hj hjt hJ
theorem QgR {t:List Int} (h:Tr n l t):Wk n l=true:=by
 have he:=Qz hnet
 have h1:=VV he (t:=t) (t':=Qh l) h.rg (fun k hk=>ordT_mem.1 hk) (fun u v huv=>huv.mono fun k hk=>ordT_mem.2 (h.rg k hk))
 have h2:=Ce hnet (t:=Qh l) fun k hk=>ordT_mem.1 hk
 have:=h.fo
 have:=h.ln
 exact decide_eq_true (show ((tkT l (Qh l)).length:Int)=n-1 by omega)
theorem Ys {s:List Int} (hs:Tr n l s):wgt l (Qd l)≤wgt l s:=QgQ hnet (JP hnet (QgR hnet hs)) (Gm hnet) hs
end
end Go.Proofs.Ytiejmoglooaalaa
end
section
open Go Go.HL
namespace Go.Proofs.Ytiejmoglooaalaa
set_option maxRecDepth 100000
set_option linter.unusedSectionVars false
open Go.Proofs.Try renaming prog → Tp
open Go.HL.HV renaming undef → Ud
section
variable {F:FuncId→Option (List HV→Option HV)}
noncomputable def B25:Code:=Try.f25.body.getD .skip
abbrev ZG (v0 v1 v2 v6 v7 v8 v9 v10:HV):Env:=[(0,v0),(1,v1),(2,v2),(6,v6),(7,v7),(8,v8),(9,v9),(10,v10)]
end
abbrev e25 (ls:List HV) (n:Int) (most:Int) (q:Nat) (u5 u6 u7:HV):Env:=ZG (.g ls) (.i n) (.i most) (.imm .lit 3 []) (.sl 0 0 q none q 3) u5 u6 u7
section
variable {F:FuncId→Option (List HV→Option HV)}
variable (ls:List HV) (n most:Int)
include ls n most
theorem Qn8:RU F 25 2 B25 [(0,.g ls),(1,.i n),(2,.i most)] [] .normal (ZG (.g ls) (.i n) (.i most) (.imm .lit 3 []) Ud Ud Ud Ud) [] :=
 hx 0 60 []
end
section
variable {F:FuncId→Option (List HV→Option HV)}
variable (ls:List HV) (n most:Int)
include ls n most
theorem Qn9 (y7 y8 y9 y10:HV:=Ud): RU F 25 6 B25 (ZG (.g ls) (.i n) (.i most) (.imm .lit 3 []) y7 y8 y9 y10) [] .normal (ZG (.g ls) (.i n) (.i most) (.imm .lit 3 []) (.sl 0 0 0 none 0 3) y8 y9 y10) [.arr 3 [] true 0] :=
 hx 0 60 []
theorem Qoa (q:Nat) (os:List HV) (y8 y9 y10:HV:=Ud): RU F 25 28 B25 (e25 ls n most q y8 y9 y10) [.arr 3 os true 0] .normal (e25 ls n most q (.i 0) y9 y10) [.arr 3 os true 0] :=
 hx 0 60 []
theorem Qob (q:Nat) (os:List HV) (i:Nat) (a b w x y v:Int) (g0:(i:Int)<(ls.length:Int)) (g1:(i:Int)<most) (g2:IX 22 (.g ls) (.i (i:Int)) (.vptr (.agg [.i a,.i b,.i w]))) (g3:CM F 24 [.i a,.i n] [.arr 3 os true 0] (.i x) [.arr 3 os true 0]) (g4:IX 22 (.g ls) (.i (i:Int)) (.vptr (.agg [.i a,.i b,.i w]))) (g5:CM F 24 [.i b,.i n] [.arr 3 os true 0] (.i y) [.arr 3 os true 0]) (g6:IX 22 (.g ls) (.i (i:Int)) (.vptr (.agg [.i a,.i b,.i w]))) (gS5:∀kf,((same (.i a) (.i a)&&Qm ([.arr 3 os true 0]:Heap) [.arr 3 os true 0]&&Qm ([.arr 3 os true 0,.arr 3 [.agg [.i 0,.i 0,.i 0]] true 0]:Heap) [.arr 3 os true 0,.arr 3 [.agg [.i 0,.i 0,.i 0]] true 0])&&(WT (Qb Tp (plF F) (kf+1) 24 [.i a,.i n] [.arr 3 os true 0]) (Qb Tp (plF F) (kf+1) 24 [.i a,.i n] [.arr 3 os true 0]) [.arr 3 os true 0] [.arr 3 os true 0]&&(WT (Qb Tp (plF F) (kf+1) 24 [.i a,.i n] [.arr 3 os true 0]) (Qb Tp (plF F) (kf+1) 24 [.i a,.i n] [.arr 3 os true 0,.arr 3 [.agg [.i 0,.i 0,.i 0]] true 0]) [.arr 3 os true 0] [.arr 3 os true 0,.arr 3 [.agg [.i 0,.i 0,.i 0]] true 0]&&((same (.i b) (.i b)&&Qm ([.arr 3 os true 0]:Heap) [.arr 3 os true 0]&&Qm ([.arr 3 os true 0,.arr 3 [.agg [.i 0,.i 0,.i 0]] true 0]:Heap) [.arr 3 os true 0,.arr 3 [.agg [.i 0,.i 0,.i 0]] true 0])&&(WT (Qb Tp (plF F) (kf+1) 24 [.i b,.i n] [.arr 3 os true 0]) (Qb Tp (plF F) (kf+1) 24 [.i b,.i n] [.arr 3 os true 0]) [.arr 3 os true 0] [.arr 3 os true 0]&&(WT (Qb Tp (plF F) (kf+1) 24 [.i b,.i n] [.arr 3 os true 0]) (Qb Tp (plF F) (kf+1) 24 [.i b,.i n] [.arr 3 os true 0,.arr 3 [.agg [.i 0,.i 0,.i 0]] true 0]) [.arr 3 os true 0] [.arr 3 os true 0,.arr 3 [.agg [.i 0,.i 0,.i 0]] true 0]&&((same (.i w) (.i w)&&Qm ([.arr 3 os true 0]:Heap) [.arr 3 os true 0]&&Qm ([.arr 3 os true 0,.arr 3 [.agg [.i 0,.i 0,.i 0]] true 0]:Heap) [.arr 3 os true 0,.arr 3 [.agg [.i 0,.i 0,.i 0]] true 0])&&true)))))))=true) (g8:w<0) (g9:CM F 24 [.i w,.i 1001] [.arr 3 os true 0,.arr 3 [.agg [.i x,.i y,.i w]] true 0] (.i v) [.arr 3 os true 0,.arr 3 [.agg [.i x,.i y,.i w]] true 0]) (g10:x=y) (y9 y10:HV:=Ud): RU F 25 116 B25 (e25 ls n most q (.i (i:Int)) y9 y10) [.arr 3 os true 0] .normal (e25 ls n most q (.i (qA.wrap ((i:Int)+1))) (.q 1) y10) [.arr 3 os true 0,.arr 3 [.agg [.i x,.i y,.i v]] true 0] :=
 hx 0 60 [jT 3 3 [.arr 3 os true 0] g0,jT 3 7 [.arr 3 os true 0] g1,jL gS5,jO 5 2 [.arr 3 os true 0] g2,jD 5 6 g3,jO 5 9 [.arr 3 os true 0] g4,jD 5 13 g5,jO 5 16 [.arr 3 os true 0] g6,jT 6 2 [.arr 3 os true 0,.arr 3 [.agg [.i x,.i y,.i w]] true 0] g8,jD 7 2 g9,jB 8 4 [.arr 3 os true 0,.arr 3 [.agg [.i x,.i y,.i v]] true 0] (congrArg not (decide_eq_true g10))]
theorem Qoc (q:Nat) (os:List HV) (i:Nat) (a b w x y v:Int) (g0:(i:Int)<(ls.length:Int)) (g1:(i:Int)<most) (g2:IX 22 (.g ls) (.i (i:Int)) (.vptr (.agg [.i a,.i b,.i w]))) (g3:CM F 24 [.i a,.i n] [.arr 3 os true 0] (.i x) [.arr 3 os true 0]) (g4:IX 22 (.g ls) (.i (i:Int)) (.vptr (.agg [.i a,.i b,.i w]))) (g5:CM F 24 [.i b,.i n] [.arr 3 os true 0] (.i y) [.arr 3 os true 0]) (g6:IX 22 (.g ls) (.i (i:Int)) (.vptr (.agg [.i a,.i b,.i w]))) (gS5:∀kf,((same (.i a) (.i a)&&Qm ([.arr 3 os true 0]:Heap) [.arr 3 os true 0]&&Qm ([.arr 3 os true 0,.arr 3 [.agg [.i 0,.i 0,.i 0]] true 0]:Heap) [.arr 3 os true 0,.arr 3 [.agg [.i 0,.i 0,.i 0]] true 0])&&(WT (Qb Tp (plF F) (kf+1) 24 [.i a,.i n] [.arr 3 os true 0]) (Qb Tp (plF F) (kf+1) 24 [.i a,.i n] [.arr 3 os true 0]) [.arr 3 os true 0] [.arr 3 os true 0]&&(WT (Qb Tp (plF F) (kf+1) 24 [.i a,.i n] [.arr 3 os true 0]) (Qb Tp (plF F) (kf+1) 24 [.i a,.i n] [.arr 3 os true 0,.arr 3 [.agg [.i 0,.i 0,.i 0]] true 0]) [.arr 3 os true 0] [.arr 3 os true 0,.arr 3 [.agg [.i 0,.i 0,.i 0]] true 0]&&((same (.i b) (.i b)&&Qm ([.arr 3 os true 0]:Heap) [.arr 3 os true 0]&&Qm ([.arr 3 os true 0,.arr 3 [.agg [.i 0,.i 0,.i 0]] true 0]:Heap) [.arr 3 os true 0,.arr 3 [.agg [.i 0,.i 0,.i 0]] true 0])&&(WT (Qb Tp (plF F) (kf+1) 24 [.i b,.i n] [.arr 3 os true 0]) (Qb Tp (plF F) (kf+1) 24 [.i b,.i n] [.arr 3 os true 0]) [.arr 3 os true 0] [.arr 3 os true 0]&&(WT (Qb Tp (plF F) (kf+1) 24 [.i b,.i n] [.arr 3 os true 0]) (Qb Tp (plF F) (kf+1) 24 [.i b,.i n] [.arr 3 os true 0,.arr 3 [.agg [.i 0,.i 0,.i 0]] true 0]) [.arr 3 os true 0] [.arr 3 os true 0,.arr 3 [.agg [.i 0,.i 0,.i 0]] true 0]&&((same (.i w) (.i w)&&Qm ([.arr 3 os true 0]:Heap) [.arr 3 os true 0]&&Qm ([.arr 3 os true 0,.arr 3 [.agg [.i 0,.i 0,.i 0]] true 0]:Heap) [.arr 3 os true 0,.arr 3 [.agg [.i 0,.i 0,.i 0]] true 0])&&true)))))))=true) (g8:w<0) (g9:CM F 24 [.i w,.i 1001] [.arr 3 os true 0,.arr 3 [.agg [.i x,.i y,.i w]] true 0] (.i v) [.arr 3 os true 0,.arr 3 [.agg [.i x,.i y,.i w]] true 0]) (g10:¬(x=y)) (g11:Zu [.arr 3 os true 0,.arr 3 [.agg [.i x,.i y,.i v]] true 0] 3 24 (.sl 0 0 q none q 3) [.agg [.i x,.i y,.i v]]=some (.sl 0 0 (q+1) none (q+1) 3,[.arr 3 (os++[.agg [.i x,.i y,.i v]]) true 0,.arr 3 [.agg [.i x,.i y,.i v]] true 0])) (y9 y10:HV:=Ud): RU F 25 116 B25 (e25 ls n most q (.i (i:Int)) y9 y10) [.arr 3 os true 0] .normal (ZG (.g ls) (.i n) (.i most) (.imm .lit 3 []) (.sl 0 0 (q+1) none (q+1) 3) (.i (qA.wrap ((i:Int)+1))) (.q 1) y10) [.arr 3 (os++[.agg [.i x,.i y,.i v]]) true 0,.arr 3 [.agg [.i x,.i y,.i v]] true 0] :=
 hx 0 60 [jT 3 3 [.arr 3 os true 0] g0,jT 3 7 [.arr 3 os true 0] g1,jL gS5,jO 5 2 [.arr 3 os true 0] g2,jD 5 6 g3,jO 5 9 [.arr 3 os true 0] g4,jD 5 13 g5,jO 5 16 [.arr 3 os true 0] g6,jT 6 2 [.arr 3 os true 0,.arr 3 [.agg [.i x,.i y,.i w]] true 0] g8,jD 7 2 g9,jB 8 4 [.arr 3 os true 0,.arr 3 [.agg [.i x,.i y,.i v]] true 0] (congrArg not (decide_eq_false g10)),jR 9 3 g11]
theorem Qod (q:Nat) (os:List HV) (i:Nat) (a b w x y v:Int) (g0:(i:Int)<(ls.length:Int)) (g1:(i:Int)<most) (g2:IX 22 (.g ls) (.i (i:Int)) (.vptr (.agg [.i a,.i b,.i w]))) (g3:CM F 24 [.i a,.i n] [.arr 3 os true 0] (.i x) [.arr 3 os true 0]) (g4:IX 22 (.g ls) (.i (i:Int)) (.vptr (.agg [.i a,.i b,.i w]))) (g5:CM F 24 [.i b,.i n] [.arr 3 os true 0] (.i y) [.arr 3 os true 0]) (g6:IX 22 (.g ls) (.i (i:Int)) (.vptr (.agg [.i a,.i b,.i w]))) (gS5:∀kf,((same (.i a) (.i a)&&Qm ([.arr 3 os true 0]:Heap) [.arr 3 os true 0]&&Qm ([.arr 3 os true 0,.arr 3 [.agg [.i 0,.i 0,.i 0]] true 0]:Heap) [.arr 3 os true 0,.arr 3 [.agg [.i 0,.i 0,.i 0]] true 0])&&(WT (Qb Tp (plF F) (kf+1) 24 [.i a,.i n] [.arr 3 os true 0]) (Qb Tp (plF F) (kf+1) 24 [.i a,.i n] [.arr 3 os true 0]) [.arr 3 os true 0] [.arr 3 os true 0]&&(WT (Qb Tp (plF F) (kf+1) 24 [.i a,.i n] [.arr 3 os true 0]) (Qb Tp (plF F) (kf+1) 24 [.i a,.i n] [.arr 3 os true 0,.arr 3 [.agg [.i 0,.i 0,.i 0]] true 0]) [.arr 3 os true 0] [.arr 3 os true 0,.arr 3 [.agg [.i 0,.i 0,.i 0]] true 0]&&((same (.i b) (.i b)&&Qm ([.arr 3 os true 0]:Heap) [.arr 3 os true 0]&&Qm ([.arr 3 os true 0,.arr 3 [.agg [.i 0,.i 0,.i 0]] true 0]:Heap) [.arr 3 os true 0,.arr 3 [.agg [.i 0,.i 0,.i 0]] true 0])&&(WT (Qb Tp (plF F) (kf+1) 24 [.i b,.i n] [.arr 3 os true 0]) (Qb Tp (plF F) (kf+1) 24 [.i b,.i n] [.arr 3 os true 0]) [.arr 3 os true 0] [.arr 3 os true 0]&&(WT (Qb Tp (plF F) (kf+1) 24 [.i b,.i n] [.arr 3 os true 0]) (Qb Tp (plF F) (kf+1) 24 [.i b,.i n] [.arr 3 os true 0,.arr 3 [.agg [.i 0,.i 0,.i 0]] true 0]) [.arr 3 os true 0] [.arr 3 os true 0,.arr 3 [.agg [.i 0,.i 0,.i 0]] true 0]&&((same (.i w) (.i w)&&Qm ([.arr 3 os true 0]:Heap) [.arr 3 os true 0]&&Qm ([.arr 3 os true 0,.arr 3 [.agg [.i 0,.i 0,.i 0]] true 0]:Heap) [.arr 3 os true 0,.arr 3 [.agg [.i 0,.i 0,.i 0]] true 0])&&true)))))))=true) (g8:¬(w<0)) (g9:1000<w) (g10:CM F 24 [.i w,.i 1001] [.arr 3 os true 0,.arr 3 [.agg [.i x,.i y,.i w]] true 0] (.i v) [.arr 3 os true 0,.arr 3 [.agg [.i x,.i y,.i w]] true 0]) (g11:x=y) (y9 y10:HV:=Ud): RU F 25 116 B25 (e25 ls n most q (.i (i:Int)) y9 y10) [.arr 3 os true 0] .normal (e25 ls n most q (.i (qA.wrap ((i:Int)+1))) (.q 1) y10) [.arr 3 os true 0,.arr 3 [.agg [.i x,.i y,.i v]] true 0] :=
 hx 0 60 [jT 3 3 [.arr 3 os true 0] g0,jT 3 7 [.arr 3 os true 0] g1,jL gS5,jO 5 2 [.arr 3 os true 0] g2,jD 5 6 g3,jO 5 9 [.arr 3 os true 0] g4,jD 5 13 g5,jO 5 16 [.arr 3 os true 0] g6,jF 6 2 [.arr 3 os true 0,.arr 3 [.agg [.i x,.i y,.i w]] true 0] g8,jT 6 6 [.arr 3 os true 0,.arr 3 [.agg [.i x,.i y,.i w]] true 0] g9,jD 7 2 g10,jB 8 4 [.arr 3 os true 0,.arr 3 [.agg [.i x,.i y,.i v]] true 0] (congrArg not (decide_eq_true g11))]
theorem Qoe (q:Nat) (os:List HV) (i:Nat) (a b w x y v:Int) (g0:(i:Int)<(ls.length:Int)) (g1:(i:Int)<most) (g2:IX 22 (.g ls) (.i (i:Int)) (.vptr (.agg [.i a,.i b,.i w]))) (g3:CM F 24 [.i a,.i n] [.arr 3 os true 0] (.i x) [.arr 3 os true 0]) (g4:IX 22 (.g ls) (.i (i:Int)) (.vptr (.agg [.i a,.i b,.i w]))) (g5:CM F 24 [.i b,.i n] [.arr 3 os true 0] (.i y) [.arr 3 os true 0]) (g6:IX 22 (.g ls) (.i (i:Int)) (.vptr (.agg [.i a,.i b,.i w]))) (gS5:∀kf,((same (.i a) (.i a)&&Qm ([.arr 3 os true 0]:Heap) [.arr 3 os true 0]&&Qm ([.arr 3 os true 0,.arr 3 [.agg [.i 0,.i 0,.i 0]] true 0]:Heap) [.arr 3 os true 0,.arr 3 [.agg [.i 0,.i 0,.i 0]] true 0])&&(WT (Qb Tp (plF F) (kf+1) 24 [.i a,.i n] [.arr 3 os true 0]) (Qb Tp (plF F) (kf+1) 24 [.i a,.i n] [.arr 3 os true 0]) [.arr 3 os true 0] [.arr 3 os true 0]&&(WT (Qb Tp (plF F) (kf+1) 24 [.i a,.i n] [.arr 3 os true 0]) (Qb Tp (plF F) (kf+1) 24 [.i a,.i n] [.arr 3 os true 0,.arr 3 [.agg [.i 0,.i 0,.i 0]] true 0]) [.arr 3 os true 0] [.arr 3 os true 0,.arr 3 [.agg [.i 0,.i 0,.i 0]] true 0]&&((same (.i b) (.i b)&&Qm ([.arr 3 os true 0]:Heap) [.arr 3 os true 0]&&Qm ([.arr 3 os true 0,.arr 3 [.agg [.i 0,.i 0,.i 0]] true 0]:Heap) [.arr 3 os true 0,.arr 3 [.agg [.i 0,.i 0,.i 0]] true 0])&&(WT (Qb Tp (plF F) (kf+1) 24 [.i b,.i n] [.arr 3 os true 0]) (Qb Tp (plF F) (kf+1) 24 [.i b,.i n] [.arr 3 os true 0]) [.arr 3 os true 0] [.arr 3 os true 0]&&(WT (Qb Tp (plF F) (kf+1) 24 [.i b,.i n] [.arr 3 os true 0]) (Qb Tp (plF F) (kf+1) 24 [.i b,.i n] [.arr 3 os true 0,.arr 3 [.agg [.i 0,.i 0,.i 0]] true 0]) [.arr 3 os true 0] [.arr 3 os true 0,.arr 3 [.agg [.i 0,.i 0,.i 0]] true 0]&&((same (.i w) (.i w)&&Qm ([.arr 3 os true 0]:Heap) [.arr 3 os true 0]&&Qm ([.arr 3 os true 0,.arr 3 [.agg [.i 0,.i 0,.i 0]] true 0]:Heap) [.arr 3 os true 0,.arr 3 [.agg [.i 0,.i 0,.i 0]] true 0])&&true)))))))=true) (g8:¬(w<0)) (g9:1000<w) (g10:CM F 24 [.i w,.i 1001] [.arr 3 os true 0,.arr 3 [.agg [.i x,.i y,.i w]] true 0] (.i v) [.arr 3 os true 0,.arr 3 [.agg [.i x,.i y,.i w]] true 0]) (g11:¬(x=y)) (g12:Zu [.arr 3 os true 0,.arr 3 [.agg [.i x,.i y,.i v]] true 0] 3 24 (.sl 0 0 q none q 3) [.agg [.i x,.i y,.i v]]=some (.sl 0 0 (q+1) none (q+1) 3,[.arr 3 (os++[.agg [.i x,.i y,.i v]]) true 0,.arr 3 [.agg [.i x,.i y,.i v]] true 0])) (y9 y10:HV:=Ud): RU F 25 116 B25 (e25 ls n most q (.i (i:Int)) y9 y10) [.arr 3 os true 0] .normal (ZG (.g ls) (.i n) (.i most) (.imm .lit 3 []) (.sl 0 0 (q+1) none (q+1) 3) (.i (qA.wrap ((i:Int)+1))) (.q 1) y10) [.arr 3 (os++[.agg [.i x,.i y,.i v]]) true 0,.arr 3 [.agg [.i x,.i y,.i v]] true 0] :=
 hx 0 60 [jT 3 3 [.arr 3 os true 0] g0,jT 3 7 [.arr 3 os true 0] g1,jL gS5,jO 5 2 [.arr 3 os true 0] g2,jD 5 6 g3,jO 5 9 [.arr 3 os true 0] g4,jD 5 13 g5,jO 5 16 [.arr 3 os true 0] g6,jF 6 2 [.arr 3 os true 0,.arr 3 [.agg [.i x,.i y,.i w]] true 0] g8,jT 6 6 [.arr 3 os true 0,.arr 3 [.agg [.i x,.i y,.i w]] true 0] g9,jD 7 2 g10,jB 8 4 [.arr 3 os true 0,.arr 3 [.agg [.i x,.i y,.i v]] true 0] (congrArg not (decide_eq_false g11)),jR 9 3 g12]
theorem Qof (q:Nat) (os:List HV) (i:Nat) (a b w x y v:Int) (g0:(i:Int)<(ls.length:Int)) (g1:(i:Int)<most) (g2:IX 22 (.g ls) (.i (i:Int)) (.vptr (.agg [.i a,.i b,.i w]))) (g3:CM F 24 [.i a,.i n] [.arr 3 os true 0] (.i x) [.arr 3 os true 0]) (g4:IX 22 (.g ls) (.i (i:Int)) (.vptr (.agg [.i a,.i b,.i w]))) (g5:CM F 24 [.i b,.i n] [.arr 3 os true 0] (.i y) [.arr 3 os true 0]) (g6:IX 22 (.g ls) (.i (i:Int)) (.vptr (.agg [.i a,.i b,.i w]))) (gS5:∀kf,((same (.i a) (.i a)&&Qm ([.arr 3 os true 0]:Heap) [.arr 3 os true 0]&&Qm ([.arr 3 os true 0,.arr 3 [.agg [.i 0,.i 0,.i 0]] true 0]:Heap) [.arr 3 os true 0,.arr 3 [.agg [.i 0,.i 0,.i 0]] true 0])&&(WT (Qb Tp (plF F) (kf+1) 24 [.i a,.i n] [.arr 3 os true 0]) (Qb Tp (plF F) (kf+1) 24 [.i a,.i n] [.arr 3 os true 0]) [.arr 3 os true 0] [.arr 3 os true 0]&&(WT (Qb Tp (plF F) (kf+1) 24 [.i a,.i n] [.arr 3 os true 0]) (Qb Tp (plF F) (kf+1) 24 [.i a,.i n] [.arr 3 os true 0,.arr 3 [.agg [.i 0,.i 0,.i 0]] true 0]) [.arr 3 os true 0] [.arr 3 os true 0,.arr 3 [.agg [.i 0,.i 0,.i 0]] true 0]&&((same (.i b) (.i b)&&Qm ([.arr 3 os true 0]:Heap) [.arr 3 os true 0]&&Qm ([.arr 3 os true 0,.arr 3 [.agg [.i 0,.i 0,.i 0]] true 0]:Heap) [.arr 3 os true 0,.arr 3 [.agg [.i 0,.i 0,.i 0]] true 0])&&(WT (Qb Tp (plF F) (kf+1) 24 [.i b,.i n] [.arr 3 os true 0]) (Qb Tp (plF F) (kf+1) 24 [.i b,.i n] [.arr 3 os true 0]) [.arr 3 os true 0] [.arr 3 os true 0]&&(WT (Qb Tp (plF F) (kf+1) 24 [.i b,.i n] [.arr 3 os true 0]) (Qb Tp (plF F) (kf+1) 24 [.i b,.i n] [.arr 3 os true 0,.arr 3 [.agg [.i 0,.i 0,.i 0]] true 0]) [.arr 3 os true 0] [.arr 3 os true 0,.arr 3 [.agg [.i 0,.i 0,.i 0]] true 0]&&((same (.i w) (.i w)&&Qm ([.arr 3 os true 0]:Heap) [.arr 3 os true 0]&&Qm ([.arr 3 os true 0,.arr 3 [.agg [.i 0,.i 0,.i 0]] true 0]:Heap) [.arr 3 os true 0,.arr 3 [.agg [.i 0,.i 0,.i 0]] true 0])&&true)))))))=true) (g8:¬(w<0)) (g9:¬(1000<w)) (g10:x=y) (y9 y10:HV:=Ud): RU F 25 116 B25 (e25 ls n most q (.i (i:Int)) y9 y10) [.arr 3 os true 0] .normal (e25 ls n most q (.i (qA.wrap ((i:Int)+1))) (.q 1) y10) [.arr 3 os true 0,.arr 3 [.agg [.i x,.i y,.i w]] true 0] :=
 hx 0 60 [jT 3 3 [.arr 3 os true 0] g0,jT 3 7 [.arr 3 os true 0] g1,jL gS5,jO 5 2 [.arr 3 os true 0] g2,jD 5 6 g3,jO 5 9 [.arr 3 os true 0] g4,jD 5 13 g5,jO 5 16 [.arr 3 os true 0] g6,jF 6 2 [.arr 3 os true 0,.arr 3 [.agg [.i x,.i y,.i w]] true 0] g8,jF 6 6 [.arr 3 os true 0,.arr 3 [.agg [.i x,.i y,.i w]] true 0] g9,jB 8 4 [.arr 3 os true 0,.arr 3 [.agg [.i x,.i y,.i w]] true 0] (congrArg not (decide_eq_true g10))]
theorem Qog (q:Nat) (os:List HV) (i:Nat) (a b w x y v:Int) (g0:(i:Int)<(ls.length:Int)) (g1:(i:Int)<most) (g2:IX 22 (.g ls) (.i (i:Int)) (.vptr (.agg [.i a,.i b,.i w]))) (g3:CM F 24 [.i a,.i n] [.arr 3 os true 0] (.i x) [.arr 3 os true 0]) (g4:IX 22 (.g ls) (.i (i:Int)) (.vptr (.agg [.i a,.i b,.i w]))) (g5:CM F 24 [.i b,.i n] [.arr 3 os true 0] (.i y) [.arr 3 os true 0]) (g6:IX 22 (.g ls) (.i (i:Int)) (.vptr (.agg [.i a,.i b,.i w]))) (gS5:∀kf,((same (.i a) (.i a)&&Qm ([.arr 3 os true 0]:Heap) [.arr 3 os true 0]&&Qm ([.arr 3 os true 0,.arr 3 [.agg [.i 0,.i 0,.i 0]] true 0]:Heap) [.arr 3 os true 0,.arr 3 [.agg [.i 0,.i 0,.i 0]] true 0])&&(WT (Qb Tp (plF F) (kf+1) 24 [.i a,.i n] [.arr 3 os true 0]) (Qb Tp (plF F) (kf+1) 24 [.i a,.i n] [.arr 3 os true 0]) [.arr 3 os true 0] [.arr 3 os true 0]&&(WT (Qb Tp (plF F) (kf+1) 24 [.i a,.i n] [.arr 3 os true 0]) (Qb Tp (plF F) (kf+1) 24 [.i a,.i n] [.arr 3 os true 0,.arr 3 [.agg [.i 0,.i 0,.i 0]] true 0]) [.arr 3 os true 0] [.arr 3 os true 0,.arr 3 [.agg [.i 0,.i 0,.i 0]] true 0]&&((same (.i b) (.i b)&&Qm ([.arr 3 os true 0]:Heap) [.arr 3 os true 0]&&Qm ([.arr 3 os true 0,.arr 3 [.agg [.i 0,.i 0,.i 0]] true 0]:Heap) [.arr 3 os true 0,.arr 3 [.agg [.i 0,.i 0,.i 0]] true 0])&&(WT (Qb Tp (plF F) (kf+1) 24 [.i b,.i n] [.arr 3 os true 0]) (Qb Tp (plF F) (kf+1) 24 [.i b,.i n] [.arr 3 os true 0]) [.arr 3 os true 0] [.arr 3 os true 0]&&(WT (Qb Tp (plF F) (kf+1) 24 [.i b,.i n] [.arr 3 os true 0]) (Qb Tp (plF F) (kf+1) 24 [.i b,.i n] [.arr 3 os true 0,.arr 3 [.agg [.i 0,.i 0,.i 0]] true 0]) [.arr 3 os true 0] [.arr 3 os true 0,.arr 3 [.agg [.i 0,.i 0,.i 0]] true 0]&&((same (.i w) (.i w)&&Qm ([.arr 3 os true 0]:Heap) [.arr 3 os true 0]&&Qm ([.arr 3 os true 0,.arr 3 [.agg [.i 0,.i 0,.i 0]] true 0]:Heap) [.arr 3 os true 0,.arr 3 [.agg [.i 0,.i 0,.i 0]] true 0])&&true)))))))=true) (g8:¬(w<0)) (g9:¬(1000<w)) (g10:¬(x=y)) (g11:Zu [.arr 3 os true 0,.arr 3 [.agg [.i x,.i y,.i w]] true 0] 3 24 (.sl 0 0 q none q 3) [.agg [.i x,.i y,.i w]]=some (.sl 0 0 (q+1) none (q+1) 3,[.arr 3 (os++[.agg [.i x,.i y,.i w]]) true 0,.arr 3 [.agg [.i x,.i y,.i w]] true 0])) (y9 y10:HV:=Ud): RU F 25 116 B25 (e25 ls n most q (.i (i:Int)) y9 y10) [.arr 3 os true 0] .normal (ZG (.g ls) (.i n) (.i most) (.imm .lit 3 []) (.sl 0 0 (q+1) none (q+1) 3) (.i (qA.wrap ((i:Int)+1))) (.q 1) y10) [.arr 3 (os++[.agg [.i x,.i y,.i w]]) true 0,.arr 3 [.agg [.i x,.i y,.i w]] true 0] :=
 hx 0 60 [jT 3 3 [.arr 3 os true 0] g0,jT 3 7 [.arr 3 os true 0] g1,jL gS5,jO 5 2 [.arr 3 os true 0] g2,jD 5 6 g3,jO 5 9 [.arr 3 os true 0] g4,jD 5 13 g5,jO 5 16 [.arr 3 os true 0] g6,jF 6 2 [.arr 3 os true 0,.arr 3 [.agg [.i x,.i y,.i w]] true 0] g8,jF 6 6 [.arr 3 os true 0,.arr 3 [.agg [.i x,.i y,.i w]] true 0] g9,jB 8 4 [.arr 3 os true 0,.arr 3 [.agg [.i x,.i y,.i w]] true 0] (congrArg not (decide_eq_false g10)),jR 9 3 g11]
theorem Qoh (q:Nat) (os:List HV) (i:Nat) (a b w x y v:Int) (g0:(i:Int)<(ls.length:Int)) (g1:¬((i:Int)<most)) (y9 y10:HV:=Ud): RU F 25 116 B25 (e25 ls n most q (.i (i:Int)) y9 y10) [.arr 3 os true 0] (.exit 0) (e25 ls n most q (.i (i:Int)) y9 y10) [.arr 3 os true 0] :=
 hx 0 60 [jT 3 3 [.arr 3 os true 0] g0,jF 3 7 [.arr 3 os true 0] g1]
theorem Qoi (q:Nat) (os:List HV) (i:Nat) (a b w x y v:Int) (g0:¬((i:Int)<(ls.length:Int))) (y9 y10:HV:=Ud): RU F 25 116 B25 (e25 ls n most q (.i (i:Int)) y9 y10) [.arr 3 os true 0] (.exit 0) (e25 ls n most q (.i (i:Int)) y9 y10) [.arr 3 os true 0] :=
 hx 0 60 [jF 3 3 [.arr 3 os true 0] g0]
theorem Qoj (q:Nat) (os:List HV) (y8 y9 y10:HV:=Ud): RU F 25 60 B25 (e25 ls n most q y8 y9 y10) [.arr 3 os true 0] .normal (e25 ls n most q y8 y9 (.i 1)) [.arr 3 os true 0] :=
 hx 0 60 []
theorem Qok (q:Nat) (os:List HV) (i:Nat) (v:Int) (g0:(i:Int)<n) (g1:CM F 24 [.i (qA.wrap (7*(i:Int))),.i 12] [.arr 3 os true 0] (.i v) [.arr 3 os true 0]) (g2:Zu [.arr 3 os true 0] 3 24 (.sl 0 0 q none q 3) [.agg [.i (qA.wrap ((i:Int)-1)),.i (i:Int),.i v]]=some (.sl 0 0 (q+1) none (q+1) 3,[.arr 3 (os++[.agg [.i (qA.wrap ((i:Int)-1)),.i (i:Int),.i v]]) true 0])) (y8 y9:HV:=Ud): RU F 25 244 B25 (e25 ls n most q y8 y9 (.i (i:Int))) [.arr 3 os true 0] .normal (ZG (.g ls) (.i n) (.i most) (.imm .lit 3 []) (.sl 0 0 (q+1) none (q+1) 3) y8 y9 (.i (qA.wrap ((i:Int)+1)))) [.arr 3 (os++[.agg [.i (qA.wrap ((i:Int)-1)),.i (i:Int),.i v]]) true 0] :=
 hx 0 60 [jT 11 2 [.arr 3 os true 0] g0,jD 13 6 g1,jR 13 9 g2]
theorem Qol (q:Nat) (os:List HV) (i:Nat) (v:Int) (g0:¬((i:Int)<n)) (y8 y9:HV:=Ud): RU F 25 244 B25 (e25 ls n most q y8 y9 (.i (i:Int))) [.arr 3 os true 0] (.exit 2) (e25 ls n most q y8 y9 (.i (i:Int))) [.arr 3 os true 0] :=
 hx 0 60 [jF 11 2 [.arr 3 os true 0] g0]
theorem Qom (q:Nat) (os:List HV) (y8 y9 y10:HV:=Ud): RU F 25 31 B25 (e25 ls n most q y8 y9 y10) [.arr 3 os true 0] .ret (ZG (.g ls) (.i n) (.i most) (.sl 0 0 q none q 3) (.sl 0 0 q none q 3) y8 y9 y10) [.arr 3 os true 0] :=
 hx 0 60 []
end
end Go.Proofs.Ytiejmoglooaalaa
end
section
open Go Go.HL
namespace Go.Proofs.Ytiejmoglooaalaa
set_option linter.unusedSectionVars false
open Go.Proofs.Try renaming prog → Tp
open Go.HL.HV renaming undef → Ud
def DT (w:Int):Int:=if w<0∨1000<w then QR w 1001 else w
def KT (n:Int) (s:St):St:=(QR s.1 n,QR s.2.1 n,DT s.2.2)
def Wy (n:Int) (l:List St):List St:=(l.map (KT n)).filter fun s=>decide (s.1≠s.2.1)
def Wo (i:Nat):List St:=(qD i).map fun (k:Nat)=>((k:Int),(k:Int)+1,QR (7*((k:Int)+1)) 12)
def V2 (n:Int) (l:List St) (most:Int):List St:=Wy n (l.take most.toNat)++Wo (n.toNat-1)
def QeI:List HV→Option HV:=f3 kS kI kI fun l n most=>if (1≤n∧n≤100)∧0≤most∧most≤100 then some (.own 3 ((V2 n l most).map Qa)) else none
theorem QcH (n:Int) {l:List St} {i:Nat} (hi:i<l.length):Wy n (l.take (i+1))=Wy n (l.take i)++if (KT n (l.getD i (0,0,0))).1≠(KT n (l.getD i (0,0,0))).2.1 then [KT n (l.getD i (0,0,0))] else []:=by
 have e:l.take (i+1)=l.take i++[l.getD i (0,0,0)]:=by
  rw [List.take_succ_eq_append_getElem hi,QA hi]
 rw [e,Wy,qV,jZ,Wy]
 congr 1
 by_cases c:(KT n (l.getD i (0,0,0))).1≠(KT n (l.getD i (0,0,0))).2.1
 ·rw [if_pos c]
  exact jA (decide_eq_true c)
 ·rw [if_neg c]
  exact qZ (by simpa using c)
theorem Ds (n:Int) (l:List St):(Wy n l).length≤l.length:=by
 have:=zA (fun s:St=>decide (s.1≠s.2.1)) (l.map (KT n))
 rw [qE] at this
 exact this
theorem XE (i:Nat):Wo (i+1)=Wo i++[((i:Int),(i:Int)+1,QR (7*((i:Int)+1)) 12)]:=by rw [Wo,List.range_succ,qV];rfl
theorem Yt (i:Nat):(Wo i).length=i:=by rw [Wo,qE,zU]
def Z0:FuncId→Option (List HV→Option HV):=fun g=>if g==24 then some Qbp else none
theorem QgS (n:Nat):Qo Tp (Qb Tp (plF Z0) n):=QF _ (fun g f h=>by
 unfold Z0 at h
 split at h
 ·rename_i hg;cases h;rw [eq_of_beq hg];exact QdK
 ·cases h) n
theorem Yu {F:FuncId→Option (List HV→Option HV)} (h24:F 24=some Qbp) (a:Int) {n:Int} (hn:0<n∧n<9223372036854775808) (H:Heap):∀k,Qb Tp (plF F) (k+1) 24 [.int .i64 a,.int .i64 n] H=some (.int .i64 (QR a n),H) :=
 at2 (pol':=plF F) (g:=24) (c1:=kI) (c2:=kI) (f:=fun a n=>if 0<n∧n<9223372036854775808 then some (.int .i64 (QR a n)) else none) h24 (ShI _ a) (ShI _ n) (if_pos hn)
theorem Qr7:Try.f25.results.toList=[.tmp 6]:=by kernel_rfl
theorem Ug {H X:Heap} {o:List St} (hl:o.length≤900) (s:St):Zu ([bS o]++X) 3 24 (.sl 0 0 o.length none o.length 3) [Qa s]=some (.sl 0 0 (o.length+1) none (o.length+1) 3,[bS (o++[s])]++X):=by
 have:=QfZ (H:=[bS o]++X) (b:=0) (o:=o) (xs:=[s]) rfl (by simp;omega) (by simp)
 rw [qC,qU] at this
 exact this
theorem VW {F:FuncId→Option (List HV→Option HV)} (O:List St) {a b n x y:Int} {kf:Nat} (e1:∀H,Qb Tp (plF F) (kf+1) 24 [.int .i64 a,.int .i64 n] H=some (.int .i64 x,H)) (e2:∀H,Qb Tp (plF F) (kf+1) 24 [.int .i64 b,.int .i64 n] H=some (.int .i64 y,H)) (w:Int) :
  ((same (.int .i64 a) (.int .i64 a)&&Qm ([.arr 3 (O.map Qa) true 0]:Heap) [.arr 3 (O.map Qa) true 0]&&Qm ([.arr 3 (O.map Qa) true 0,.arr 3 [.agg [.int .i64 0,.int .i64 0,.int .i64 0]] true 0]:Heap) [.arr 3 (O.map Qa) true 0,.arr 3 [.agg [.int .i64 0,.int .i64 0,.int .i64 0]] true 0])&&(WT (Qb Tp (plF F) (kf+1) 24 [.int .i64 a,.int .i64 n] [.arr 3 (O.map Qa) true 0]) (Qb Tp (plF F) (kf+1) 24 [.int .i64 a,.int .i64 n] [.arr 3 (O.map Qa) true 0]) [.arr 3 (O.map Qa) true 0] [.arr 3 (O.map Qa) true 0]&&(WT (Qb Tp (plF F) (kf+1) 24 [.int .i64 a,.int .i64 n] [.arr 3 (O.map Qa) true 0]) (Qb Tp (plF F) (kf+1) 24 [.int .i64 a,.int .i64 n] [.arr 3 (O.map Qa) true 0,.arr 3 [.agg [.int .i64 0,.int .i64 0,.int .i64 0]] true 0]) [.arr 3 (O.map Qa) true 0] [.arr 3 (O.map Qa) true 0,.arr 3 [.agg [.int .i64 0,.int .i64 0,.int .i64 0]] true 0]&&((same (.int .i64 b) (.int .i64 b)&&Qm ([.arr 3 (O.map Qa) true 0]:Heap) [.arr 3 (O.map Qa) true 0]&&Qm ([.arr 3 (O.map Qa) true 0,.arr 3 [.agg [.int .i64 0,.int .i64 0,.int .i64 0]] true 0]:Heap) [.arr 3 (O.map Qa) true 0,.arr 3 [.agg [.int .i64 0,.int .i64 0,.int .i64 0]] true 0])&&(WT (Qb Tp (plF F) (kf+1) 24 [.int .i64 b,.int .i64 n] [.arr 3 (O.map Qa) true 0]) (Qb Tp (plF F) (kf+1) 24 [.int .i64 b,.int .i64 n] [.arr 3 (O.map Qa) true 0]) [.arr 3 (O.map Qa) true 0] [.arr 3 (O.map Qa) true 0]&&(WT (Qb Tp (plF F) (kf+1) 24 [.int .i64 b,.int .i64 n] [.arr 3 (O.map Qa) true 0]) (Qb Tp (plF F) (kf+1) 24 [.int .i64 b,.int .i64 n] [.arr 3 (O.map Qa) true 0,.arr 3 [.agg [.int .i64 0,.int .i64 0,.int .i64 0]] true 0]) [.arr 3 (O.map Qa) true 0] [.arr 3 (O.map Qa) true 0,.arr 3 [.agg [.int .i64 0,.int .i64 0,.int .i64 0]] true 0]&&((same (.int .i64 w) (.int .i64 w)&&Qm ([.arr 3 (O.map Qa) true 0]:Heap) [.arr 3 (O.map Qa) true 0]&&Qm ([.arr 3 (O.map Qa) true 0,.arr 3 [.agg [.int .i64 0,.int .i64 0,.int .i64 0]] true 0]:Heap) [.arr 3 (O.map Qa) true 0,.arr 3 [.agg [.int .i64 0,.int .i64 0,.int .i64 0]] true 0])&&true)))))))=true:=by
 simp only [e1,e2,WT]
 simp [same,Qm,sameL,WU Y7]
theorem QaL {l:List St} {n most:Int} (hn:1≤n∧n≤100) (hm:most≤100) {i:Nat} (hi:i<l.length) (hi2:(i:Int)<most) :
  ∃B s,RT (plF Z0) 25 (sn 116 B25) ((ZG (.g (l.map Qa)) (.i n) (.i most) (.imm .lit 3 []) (.sl 0 0 (Wy n (l.take (i))).length none (Wy n (l.take (i))).length 3) (.i (i:Int)) Ud Ud)) [bS (Wy n (l.take (i)))] .normal ((ZG (.g (l.map Qa)) (.i n) (.i most) (.imm .lit 3 []) (.sl 0 0 (Wy n (l.take (i+1))).length none (Wy n (l.take (i+1))).length 3) (.i ((i+1:Nat):Int)) (.q 1) Ud)) ([bS (Wy n (l.take (i+1)))]++[B])∧B=bT s:=by
 have hgs:=gs hi
 have hlen:=Ds n (l.take i)
 rw [qK] at hlen
 have hsn:=QcH n hi
 generalize l.getD i (0,0,0)=s at *
 obtain ⟨a,b,w⟩:=s
 have lm:((l.map Qa).length:Int)=(l.length:Int):=by rw [qE]
 have m1:=fun H=>Yu (F:=Z0) (by kernel_rfl) a (n:=n) (by omega) H
 have m2:=fun H=>Yu (F:=Z0) (by kernel_rfl) b (n:=n) (by omega) H
 have m3:=fun H=>Yu (F:=Z0) (by kernel_rfl) w (n:=1001) (by omega) H
 generalize hO:Wy n (l.take i)=O at *
 have hw:qA.wrap ((i:Int)+1)=((i+1:Nat):Int):=Qj (by omega)
 refine ⟨bT (KT n (a,b,w)),KT n (a,b,w),?_,rfl⟩
 rw [hsn]
 by_cases c:QR a n=QR b n
 ·rw [if_neg (by show ¬(QR a n≠QR b n);simpa using c),qM]
  by_cases c1:w<0
  ·have s:=Qob (F:=Z0) (l.map Qa) n most O.length (O.map Qa) i a b w (QR a n) (QR b n) (QR w 1001) (by omega) hi2 hgs (m1 _) hgs (m2 _) hgs (fun kf=>VW O (fun H=>m1 H kf) (fun H=>m2 H kf) w) c1 (m3 _) c
   rw [hw] at s
   rw [KT,DT,if_pos (.inl c1)]
   exact s
  ·by_cases c2:1000<w
   ·have s:=Qod (F:=Z0) (l.map Qa) n most O.length (O.map Qa) i a b w (QR a n) (QR b n) (QR w 1001) (by omega) hi2 hgs (m1 _) hgs (m2 _) hgs (fun kf=>VW O (fun H=>m1 H kf) (fun H=>m2 H kf) w) c1 c2 (m3 _) c
    rw [hw] at s
    rw [KT,DT,if_pos (.inr c2)]
    exact s
   ·have s:=Qof (F:=Z0) (l.map Qa) n most O.length (O.map Qa) i a b w (QR a n) (QR b n) 0 (by omega) hi2 hgs (m1 _) hgs (m2 _) hgs (fun kf=>VW O (fun H=>m1 H kf) (fun H=>m2 H kf) w) c1 c2 c
    rw [hw] at s
    rw [KT,DT,if_neg (fun h=>h.elim c1 c2)]
    exact s
 ·rw [if_pos (by show QR a n≠QR b n;exact c)]
  have hl2:(O++[KT n (a,b,w)]).length=O.length+1:=by simp
  have eB:∀s,bS (O++[s])=.arr 3 (O.map Qa++[Qa s]) true 0:=fun s=>by rw [bS,qV];rfl
  rw [hl2]
  by_cases c1:w<0
  ·have ap:=Ug (H:=[]) (X:=[bT (QR a n,QR b n,QR w 1001)]) (o:=O) (by omega) (QR a n,QR b n,QR w 1001)
   have e:KT n (a,b,w)=(QR a n,QR b n,QR w 1001):=by rw [KT,DT,if_pos (.inl c1)]
   rw [e]
   rw [eB] at ap ⊢
   have s:=Qoc (F:=Z0) (l.map Qa) n most O.length (O.map Qa) i a b w (QR a n) (QR b n) (QR w 1001) (by omega) hi2 hgs (m1 _) hgs (m2 _) hgs (fun kf=>VW O (fun H=>m1 H kf) (fun H=>m2 H kf) w) c1 (m3 _) c ap
   rw [hw] at s
   exact s
  ·by_cases c2:1000<w
   ·have ap:=Ug (H:=[]) (X:=[bT (QR a n,QR b n,QR w 1001)]) (o:=O) (by omega) (QR a n,QR b n,QR w 1001)
    have e:KT n (a,b,w)=(QR a n,QR b n,QR w 1001):=by rw [KT,DT,if_pos (.inr c2)]
    rw [e]
    rw [eB] at ap ⊢
    have s:=Qoe (F:=Z0) (l.map Qa) n most O.length (O.map Qa) i a b w (QR a n) (QR b n) (QR w 1001) (by omega) hi2 hgs (m1 _) hgs (m2 _) hgs (fun kf=>VW O (fun H=>m1 H kf) (fun H=>m2 H kf) w) c1 c2 (m3 _) c ap
    rw [hw] at s
    exact s
   ·have ap:=Ug (H:=[]) (X:=[bT (QR a n,QR b n,w)]) (o:=O) (by omega) (QR a n,QR b n,w)
    have e:KT n (a,b,w)=(QR a n,QR b n,w):=by rw [KT,DT,if_neg (fun h=>h.elim c1 c2)]
    rw [e]
    rw [eB] at ap ⊢
    have s:=Qog (F:=Z0) (l.map Qa) n most O.length (O.map Qa) i a b w (QR a n) (QR b n) 0 (by omega) hi2 hgs (m1 _) hgs (m2 _) hgs (fun kf=>VW O (fun H=>m1 H kf) (fun H=>m2 H kf) w) c1 c2 c ap
    rw [hw] at s
    exact s
theorem QgT:QV Tp 25 QeI:=by
 refine Qt (pol:=plF Z0) (fn:=Try.f25) (cd:=B25) Qk QgS (by kernel_rfl) (by kernel_rfl) (ZJ Z0 _ _ (by kernel_rfl)) (by kernel_rfl) ?_
 intro args res h
 obtain ⟨l,n,most,rfl,hq⟩:=Xt h
 split at hq
 case isFalse=>cases hq
 rename_i hc
 obtain ⟨hn,hm0,hm⟩:=hc
 cases hq
 have lm:((l.map Qa).length:Int)=(l.length:Int):=by rw [qE]
 have a:=Qn8 (F:=Z0) (l.map Qa) n most
 have b:=Qn9 (F:=Z0) (l.map Qa) n most
 have c:=Qoa (F:=Z0) (l.map Qa) n most 0 []
 have hg:∀i,i≤min l.length most.toNat→(Wy n (l.take i)).length≤100:=fun i hi=>by
  have:=Ds n (l.take i)
  rw [qK] at this
  omega
 have out:∀i,i=min l.length most.toNat→RT (plF Z0) 25 (sn 116 B25) ((ZG (.g (l.map Qa)) (.i n) (.i most) (.imm .lit 3 []) (.sl 0 0 (Wy n (l.take (i))).length none (Wy n (l.take (i))).length 3) (.i (i:Int)) Ud Ud)) [bS (Wy n (l.take (i)))] (.exit 0) ((ZG (.g (l.map Qa)) (.i n) (.i most) (.imm .lit 3 []) (.sl 0 0 (Wy n (l.take (i))).length none (Wy n (l.take (i))).length 3) (.i (i:Int)) Ud Ud)) [bS (Wy n (l.take (i)))]:=fun i hi=>by
  by_cases c1:(i:Int)<(l.length:Int)
  ·exact Qoh (F:=Z0) (l.map Qa) n most (Wy n (l.take i)).length ((Wy n (l.take i)).map Qa) i 0 0 0 0 0 0 (by omega) (by omega)
  ·exact Qoi (F:=Z0) (l.map Qa) n most (Wy n (l.take i)).length ((Wy n (l.take i)).map Qa) i 0 0 0 0 0 0 (by omega)
 obtain ⟨x,E',H',r,rfl,rfl,rfl⟩:=KK (pol':=plF Z0) (f:=25) (b:=sn 116 B25) (c:=sn 58 B25) (I:=fun i e H=>e=(ZG (.g (l.map Qa)) (.i n) (.i most) (.imm .lit 3 []) (.sl 0 0 (Wy n (l.take (i))).length none (Wy n (l.take (i))).length 3) (.i (i:Int)) Ud Ud)∧H=[bS (Wy n (l.take (i)))])
  (Q:=fun x E' H'=>x=.exit 0∧E'=(ZG (.g (l.map Qa)) (.i n) (.i most) (.imm .lit 3 []) (.sl 0 0 (Wy n (l.take (min l.length most.toNat))).length none (Wy n (l.take (min l.length most.toNat))).length 3) (.i ((min l.length most.toNat:Nat):Int)) Ud Ud)∧H'=[bS (Wy n (l.take (min l.length most.toNat)))]) (min l.length most.toNat)
  (by
   rintro i hi e H ⟨rfl,rfl⟩
   obtain ⟨B,s,h1,rfl⟩:=QaL (l:=l) (n:=n) (most:=most) hn hm (i:=i) (by omega) (by omega)
   refine ⟨_,_,h1,by kernel_rfl,?_⟩
   exact KN (H:=[bS (Wy n (l.take (i+1)))]) (X:=[bT s]) (by show max 0 (max 0 0)≤1;decide) (by show max 0 (max 0 (max 0 (max 0 (max 1 (max 0 (max 0 (max 0 0)))))))≤1;decide))
  (by
   rintro e H ⟨rfl,rfl⟩
   exact ⟨_,_,_,out _ rfl,by simp,rfl,rfl,rfl⟩)
  (by kernel_rfl) (by rintro i e H ⟨rfl,_⟩;kernel_rfl) (e:=(ZG (.g (l.map Qa)) (.i n) (.i most) (.imm .lit 3 []) (.sl 0 0 (Wy n (l.take (0))).length none (Wy n (l.take (0))).length 3) (.i (0:Int)) Ud Ud)) (H:=[bS (Wy n (l.take (0)))]) ⟨rfl,rfl⟩
 have hO:=hg _ (qB _)
 have eO:Wy n (l.take (min l.length most.toNat))=Wy n (l.take most.toNat):=by
  congr 1
  rw [List.take_eq_take_iff];omega
 rw [eO] at r hO
 have d:=Qoj (F:=Z0) (l.map Qa) n most (Wy n (l.take most.toNat)).length ((Wy n (l.take most.toNat)).map Qa) (y8:=.i ((min l.length most.toNat:Nat):Int))
 unfold V2
 generalize Wy n (l.take most.toNat)=O at *
 have hPl:∀i,(O++Wo i).length=O.length+i:=fun i=>by rw [qC,Yt]
 have m12:=fun a H=>Yu (F:=Z0) (by kernel_rfl) a (n:=12) (by omega) H
 have r2:=Wu (pol':=plF Z0) (f:=25) (E:=fun i=>(ZG (.g (l.map Qa)) (.i n) (.i most) (.imm .lit 3 []) (.sl 0 0 (O++Wo (i)).length none (O++Wo (i)).length 3) Ud Ud (.i ((i+1:Nat):Int)))) (Hs:=fun i=>[bS (O++Wo (i))]) (n.toNat-1) (E0:=fun i=>(ZG (.g (l.map Qa)) (.i n) (.i most) (.imm .lit 3 []) (.sl 0 0 (O++Wo (i+1)).length none (O++Wo (i+1)).length 3) Ud Ud (.i ((i+1+1:Nat):Int)))) (H1:=fun i=>[bS (O++Wo (i+1))])
  (fun i hi=>by
   have ap:=Ug (H:=[]) (X:=[]) (o:=O++Wo i) (by rw [hPl];omega) ((i:Int),(i:Int)+1,QR (7*((i:Int)+1)) 12)
   rw [qM,qM,qF,← XE] at ap
   have w1:qA.wrap (7*((i+1:Nat):Int))=7*((i:Int)+1):=by rw [Qs (by omega) (by omega)];omega
   have w2:qA.wrap (((i+1:Nat):Int)-1)=(i:Int):=by rw [Qs (by omega) (by omega)];omega
   have w3:(((i+1:Nat):Int))=(i:Int)+1:=by omega
   have s:=Qok (F:=Z0) (l.map Qa) n most (O++Wo i).length ((O++Wo i).map Qa) (i+1) (QR (7*((i:Int)+1)) 12) (by omega) (by rw [w1];exact m12 _ _) (by
    rw [w2,w3]
    have e:(O++Wo i).map Qa++[.agg [.int .i64 (i:Int),.int .i64 ((i:Int)+1),.int .i64 (QR (7*((i:Int)+1)) 12)]]=(O++Wo (i+1)).map Qa:=by
     rw [XE,← qF,qV (l₁:=O++Wo i)];rfl
    rw [e]
    exact ap)
   rw [Qj (by omega),w2] at s
   have e:(O++Wo i).map Qa++[.agg [.int .i64 (i:Int),.int .i64 ((i+1:Nat):Int),.int .i64 (QR (7*((i:Int)+1)) 12)]]=(O++Wo (i+1)).map Qa:=by
    rw [XE,← qF,qV (l₁:=O++Wo i)];rfl
   rw [e] at s
   have e2:(O++Wo (i+1)).length=(O++Wo i).length+1:=by rw [hPl,hPl];rfl
   rw [e2]
   exact s) (fun i _=>by kernel_rfl) (fun i _=>QI _ rfl) (Qol (F:=Z0) (l.map Qa) n most (O++Wo (n.toNat-1)).length ((O++Wo (n.toNat-1)).map Qa) (n.toNat-1+1) 0 (by omega)) (by simp) (c:=sn 122 B25) (by kernel_rfl) (fun i _=>by kernel_rfl)
 have e0:O++Wo 0=O:=qM _
 simp only [e0] at r2
 have z:=Qom (F:=Z0) (l.map Qa) n most (O++Wo (n.toNat-1)).length ((O++Wo (n.toNat-1)).map Qa) (y10:=.i ((n.toNat-1+1:Nat):Int))
 refine ⟨_,_,_,.sl 0 0 (O++Wo (n.toNat-1)).length none (O++Wo (n.toNat-1)).length 3,sq (a) (sq (b) (sq (sq (c) (bke (c:=sn 29 B25) (lpi (e0:=(ZG (.g (l.map Qa)) (.i n) (.i most) (.imm .lit 3 []) (.sl 0 0 (Wy n (l.take (0))).length none (Wy n (l.take (0))).length 3) (.i (0:Int)) Ud Ud)) r (b:=sn 116 B25))) (c:=sn 14 B25)) (sq (sq (d) (bke (c:=sn 61 B25) (lpi (e0:=(ZG (.g (l.map Qa)) (.i n) (.i most) (.imm .lit 3 []) (.sl 0 0 (O).length none (O).length 3) (.i ((min l.length most.toNat:Nat):Int)) Ud (.i ((0+1:Nat):Int)))) r2 (b:=sn 244 B25))) (c:=sn 30 B25)) (z) (c:=sn 15 B25)) (c:=sn 7 B25)) (c:=sn 3 B25)) (c:=B25),by simp,by simp only [Qf,Qr7];rfl,?_⟩
 exact Qf1 (b:=0) rfl rfl
theorem Ky (a:Int) {n:Int} (h:0<n) (h2:n<4611686018427387904):0≤QR a n∧QR a n<n:=by
 exact Sk a n h (by omega)
theorem Qr8:∀m:Nat,1≤m∧m≤16→((qD 16).filter fun (v:Nat)=>decide (v=0∨(m:Int)≤(v:Int))).length=17-m:=by
 have:∀m:Fin 17,1≤m.val→((qD 16).filter fun (v:Nat)=>decide (v=0∨(m.val:Int)≤(v:Int))).length=17-m.val:=by decide +kernel
 exact fun m hm=>this ⟨m,by omega⟩ hm.1
theorem Qon:∀m r:Nat,(1≤m∧m≤16)→(1≤r∧r<m)→((qD 16).filter fun (v:Nat)=>decide (v=0∨(m:Int)≤(v:Int)∨v=r)).length=18-m:=by
 have:∀m r:Fin 17,1≤m.val→1≤r.val→r.val<m.val→((qD 16).filter fun (v:Nat)=>decide (v=0∨(m.val:Int)≤(v:Int)∨v=r.val)).length=18-m.val:=by decide +kernel
 exact fun m r hm hr=>this ⟨m,by omega⟩ ⟨r,by omega⟩ hm.1 hr.1 hr.2
section
variable {n:Int} {l:List St} (hnet:WC n l=true)
include hnet
theorem QbJ {t:List Int} (ht:∀k∈t,0≤k∧k<(l.length:Int)):lb l t 0=0:=by
 have:=W2 (Qz hnet) ht (v:=0) (by omega)
 omega
theorem QeJ {t:List Int} (ht:∀k∈t,0≤k∧k<(l.length:Int)) (h:∀v,0≤v→v<n→Cn l t 0 v):((tkT l t).length:Int)=n-1:=by
 have he:=Qz hnet
 obtain ⟨⟨n1,n2⟩,_⟩:=QT hnet
 have h1:rt (Qy l t)≤((qD 16).filter fun (v:Nat)=>decide (v=0∨n≤(v:Int))).length:=by
  unfold rt
  rw [← jI,← jI]
  refine zQ fun v hv h3=>?_
  have hv:=List.mem_range.1 hv
  have h3:lb l t (v:Int)=(v:Int):=of_decide_eq_true h3
  refine decide_eq_true ?_
  by_cases c:n≤(v:Int)
  ·exact .inr c
  ·left
   have h4:=Vt he ht (h (v:Int) (by omega) (by omega))
   rw [QbJ hnet ht] at h4
   omega
 have h2:=Qr8 n.toNat (by omega)
 rw [show ((n.toNat:Nat):Int)=n by omega] at h2
 have h3:=Z9 he ht
 have h4:=Ce hnet ht
 omega
theorem SN (h:∀v,0≤v→v<n→Cn l (Qg l.length) 0 v):Wk n l=true:=by
 have h1:=QeJ hnet (t:=Qh l) (fun k hk=>ordT_mem.1 hk) fun v h0 h1=>(h v h0 h1).mono fun k hk=>ordT_mem.2 (startT_mem.1 hk)
 exact decide_eq_true h1
theorem SO {t:List Int} (ht:∀k∈t,0≤k∧k<(l.length:Int)) (h:((tkT l t).length:Int)=n-1) {v:Int} (h0:0≤v) (h1:v<n):lb l t v=0:=by
 have he:=Qz hnet
 obtain ⟨⟨n1,n2⟩,_⟩:=QT hnet
 have hE:∀k,0≤k∧k<(l.length:Int)→sA l k<n∧sB l k<n:=fun k hk=>by have:=Jg hnet hk;omega
 have hv:=W2 he ht (v:=v) (by omega)
 by_cases c:lb l t v=0
 ·exact c
 ·exfalso
  generalize hr:lb l t v=r at *
  have h2:((qD 16).filter fun (v:Nat)=>decide (v=0∨n≤(v:Int)∨v=r.toNat)).length≤rt (Qy l t):=by
   unfold rt
   rw [← jI,← jI]
   refine zQ fun w hw h3=>?_
   have hw:=List.mem_range.1 hw
   have h3:=of_decide_eq_true h3
   have hwr:0≤(w:Int)∧(w:Int)<16:=by omega
   refine decide_eq_true (show lb l t (w:Int)=(w:Int) from ?_)
   rcases h3 with e | e | e
   ·subst e;exact QbJ hnet ht
   ·have h4:=W2 he ht hwr
    have h5:=Dr hE ht (Zz he ht hwr)
    omega
   ·have:(w:Int)=r:=by omega
    rw [this];exact hv.2.2
  have h3:=Qon n.toNat r.toNat (by omega) (by omega)
  rw [show ((n.toNat:Nat):Int)=n by omega] at h3
  have h4:=Z9 he ht
  omega
theorem QgU (hc:Wk n l=true) {u v:Int} (hu:0≤u∧u<n) (hv:0≤v∧v<n):Cn l (Qd l) u v:=by
 have he:=Qz hnet
 obtain ⟨⟨n1,n2⟩,_⟩:=QT hnet
 have hT:=JP hnet hc
 have h0:((tkT l (Qd l)).length:Int)=n-1:=by rw [hT.fo];exact hT.ln
 exact (XC he hT.rg (by omega) (by omega)).1 (by rw [SO hnet hT.rg h0 hu.1 hu.2,SO hnet hT.rg h0 hv.1 hv.2])
theorem Vv {i j:Nat} (hij:i≤j) (hj:j<(Qh l).length):wOf l ((Qh l).getD i 0)≤wOf l ((Qh l).getD j 0):=by
 rcases Nat.lt_or_eq_of_le hij with c | c
 ·have hs:(Qh l).Pairwise (ltK l):=J1 l l.length
  have:=List.pairwise_iff_getElem.1 hs i j (by omega) hj c
  rw [QA (by omega),QA hj]
  unfold ltK at this
  omega
 ·rw [c];exact Int.le_refl _
end
theorem QgV {n:Int} {l:List St} {s:St} (h:s∈Wy n l) (hn:0<n) (hn2:n≤100):(0≤s.1∧s.1<n)∧(0≤s.2.1∧s.2.1<n)∧s.1≠s.2.1∧0≤s.2.2∧s.2.2≤1000:=by
 obtain ⟨h1,h2⟩:=List.mem_filter.1 h
 obtain ⟨r,_,rfl⟩:=List.mem_map.1 h1
 have h2:=of_decide_eq_true h2
 have a:=Ky r.1 hn (by omega)
 have b:=Ky r.2.1 hn (by omega)
 have c:=Ky r.2.2 (n:=1001) (by omega) (by omega)
 refine ⟨a,b,h2,?_⟩
 show 0≤DT r.2.2∧DT r.2.2≤1000
 unfold DT
 split <;> omega
theorem QeK {m:Nat} {s:St} (h:s∈Wo m):∃k:Nat,k<m∧s=((k:Int),(k:Int)+1,QR (7*((k:Int)+1)) 12):=by
 obtain ⟨k,hk,rfl⟩:=List.mem_map.1 h
 exact ⟨k,List.mem_range.1 hk,rfl⟩
theorem QbK (n:Int) (l:List St) (most:Int):(V2 n l most).length≤most.toNat+(n.toNat-1):=by
 have:=Ds n (l.take most.toNat)
 rw [qK] at this
 rw [V2,qC,Yt]
 omega
theorem QbL {n:Int} (hn:1≤n∧n≤16) (l:List St) {most:Int} (hm:0≤most∧most≤44):WC n (V2 n l most)=true:=by
 have hl:=QbK n l most
 simp only [WC,zC,zJ,decide_eq_true_eq,stB]
 refine ⟨fun s hs=>?_,hn,by omega⟩
 rcases List.mem_append.1 hs with h | h
 ·have:=QgV h (by omega) (by omega)
  omega
 ·obtain ⟨k,hk,rfl⟩:=QeK h
  have:=Ky (7*((k:Int)+1)) (n:=12) (by omega) (by omega)
  simp only
  omega
theorem QeL {n:Int} {l:List St} {most:Int} {v:Nat} (hv:v<n.toNat-1):(V2 n l most).getD ((Wy n (l.take most.toNat)).length+v) (0,0,0)=((v:Int),(v:Int)+1,QR (7*((v:Int)+1)) 12):=by
 rw [V2,qO,qY (by omega),show (Wy n (l.take most.toNat)).length+v-(Wy n (l.take most.toNat)).length=v by omega]
 simp [Wo,hv]
theorem QeM {n:Int} (hn:1≤n∧n≤16) (l:List St) {most:Int} (hm:0≤most∧most≤44):Wk n (V2 n l most)=true:=by
 have hnet:=QbL hn l hm
 refine SN hnet fun v h0 h1=>?_
 have key:∀k:Nat,(k:Int)<n→Cn (V2 n l most) (Qg (V2 n l most).length) 0 (k:Int):=by
  intro k
  induction k with
  | zero=>intro _;exact .refl _
  | succ k ih =>
   intro hk
   refine .trans (ih (by omega)) ?_
   have hp:=QeL (n:=n) (l:=l) (most:=most) (v:=k) (by omega)
   have hlen:(V2 n l most).length=(Wy n (l.take most.toNat)).length+(n.toNat-1):=by rw [V2,qC,Yt]
   have e:=Cn.edge (l:=V2 n l most) (t:=Qg (V2 n l most).length) (k:=(((Wy n (l.take most.toNat)).length+k:Nat):Int)) (startT_mem.2 (by omega))
   rw [sA,sB,qP,hp] at e
   exact e
 have:=key v.toNat (by omega)
 rwa [show ((v.toNat:Nat):Int)=v by omega] at this
theorem QgW (l:List St):wgt l []=0:=rfl
theorem Vw (l:List St) (k:Int) (t:List Int):wgt l (k::t)=wOf l k+wgt l t:=by rw [wgt,jQ,List.sum_cons];rfl
theorem QgX (l:List St) (s t:List Int):wgt l (s++t)=wgt l s+wgt l t:=by rw [wgt,qV,List.sum_append];rfl
theorem QaM (l:List St) {k:Int}:∀{t:List Int},t.Nodup→k∈t→wgt l t=wOf l k+wgt l (wo t k)
 | [],_,h=>by cases h
 | x::t,hn,h=>by
  obtain ⟨h1,h2⟩:=List.nodup_cons.1 hn
  by_cases e:x=k
  ·subst e
   have:wo (x::t) x=t:=by
    rw [wo,qZ (by simp)]
    exact List.filter_eq_self.2 fun y hy=>decide_eq_true fun (c:y=x)=>h1 (c▸hy)
   rw [this,Vw]
  ·have hm:=(List.mem_cons.1 h).resolve_left fun c=>e c.symm
   have:wo (x::t) k=x::wo t k:=by rw [wo,jA (by simpa using e)];rfl
   rw [this,Vw,Vw,QaM l h2 hm]
   omega
theorem Du (l:List St):∀{a b:List Int},a.Nodup→b.Nodup→(∀x,x∈a↔x∈b)→wgt l a=wgt l b
 | [],b,_,_,h=>by
  have:b=[]:=List.eq_nil_iff_forall_not_mem.2 fun x hx=>by cases (h x).2 hx
  rw [this]
 | x::a,b,ha,hb,h=>by
  obtain ⟨h1,h2⟩:=List.nodup_cons.1 ha
  have hx:x∈b:=(h x).1 (qJ ..)
  rw [QaM l hb hx,Vw]
  refine congrArg (wOf l x+·) (Du l h2 (hb.sublist qW) fun y=>?_)
  rw [mem_wo]
  constructor
  ·intro hy
   exact ⟨(h y).1 (qI _ hy),fun c=>h1 (c▸hy)⟩
  ·intro ⟨hy,hne⟩
   exact (List.mem_cons.1 ((h y).2 hy)).resolve_left hne
theorem Qoo {m:Nat} {t:List Int} (h:Dn m t=true):t.Pairwise (· < ·)∧∀k∈t,0≤k∧k<(m:Int):=by
 have hin:=inR_iff.1 (QbI h)
 refine ⟨?_,hin⟩
 rw [Dn] at h
 cases hf:fN (fun i=>!okA m t i) t.length 0 with
 | some i=>rw [hf] at h;cases h
 | none =>
  have h3:=VS hf
  have step:∀i,0<i→i<t.length→t.getD (i-1) 0<t.getD i 0:=fun i h0 hi=>by
   have:=h3 i (jH _) (by omega)
   have:okA m t i=true:=by simpa using this
   have:=of_decide_eq_true this
   rcases this.2 with c | c
   ·omega
   ·exact c
  have far:∀d i,i+d+1<t.length→t.getD i 0<t.getD (i+d+1) 0:=by
   intro d
   induction d with
   | zero=>intro i hi;exact step (i+1) (by omega) hi
   | succ d ih =>
    intro i hi
    have h1:=ih i (by omega)
    have h2:=step (i+d+2) (by omega) hi
    rw [show i+d+2-1=i+d+1 by omega] at h2
    show t.getD i 0<t.getD (i+d+2) 0
    omega
  refine List.pairwise_iff_getElem.2 fun i j hi hj hij=>?_
  have:=far (j-i-1) i (by omega)
  rw [show i+(j-i-1)+1=j by omega,QA hi,QA hj] at this
  exact this
theorem QbM {l:List St} {t:List Int} (hn:t.Nodup) (ht:∀k∈t,0≤k∧k<(l.length:Int)):(KO l t).length=(tkT l t).length:=by
 have hs:=JO l t _ (qB _)
 rw [qL] at hs
 refine VU ((Zm _).sublist qW) (hs.nodup hn) fun x=>?_
 rw [KO,jE,decide_eq_true_eq]
 exact ⟨fun h=>h.2,fun h=>⟨startT_mem.2 (ht x (hs.subset h)),h⟩⟩
theorem Qop {n:Int} {l:List St} {t:List Int} (h:isT n l t=true):Tr n l t∧t.Pairwise (· < ·):=by
 simp only [isT,zC,decide_eq_true_eq] at h
 obtain ⟨h1,h2,h3⟩:=h
 obtain ⟨h4,h5⟩:=Qoo h1
 rw [QbM (Kx h4) h5] at h3
 exact ⟨⟨h5,Kx h4,h2,by omega⟩,h4⟩
theorem Qoq {n:Int} {l:List St} {t:List Int} (h:Tr n l t) (ha:t.Pairwise (· < ·)):isT n l t=true:=by
 have:=h.ln
 have h2:=h.fo
 rw [isT,QgN ha h.rg,QbM h.nd h.rg,h2,decide_eq_true h.ln];rfl
theorem Tr.perm {n:Int} {l:List St} (hnet:WC n l=true) {t s:List Int} (h:Tr n l t) (hs:s.Nodup) (hm:∀x,x∈t↔x∈s):Tr n l s:=by
 have hl:=VU h.nd hs hm
 refine ⟨fun k hk=>h.rg k ((hm k).2 hk),hs,by have:=h.ln;omega,?_⟩
 rw [← Q7 (Qz hnet) h.rg hm,h.fo,hl]
section
variable {n:Int} {l:List St} (hnet:WC n l=true)
include hnet
theorem Tr.exch {t:List Int} (h:Tr n l t) {k j:Int} (hk:k∈t) (hj:0≤j∧j<(l.length:Int)) (hjt:j∉t) (hJ:Wa l t k j):Tr n l (wo t k++[j]):=by
 have hn:(wo t k++[j]).Nodup:=List.nodup_append.2 ⟨h.nd.sublist qW,by simp,fun a ha b hb=>by rw [List.mem_singleton.1 hb];exact fun c=>hjt (c▸(mem_wo.1 ha).1)⟩
 have hlen:(wo t k++[j]).length=t.length:=by rw [qC,qU,QaK h.nd hk]
 refine ⟨fun x hx=>?_,hn,by rw [hlen];exact h.ln,?_⟩
 ·rcases List.mem_append.1 hx with e | e
  ·exact h.rg x (mem_wo.1 e).1
  ·rw [List.mem_singleton.1 e];exact hj
 ·rw [hlen]
  exact (QeH (Qz hnet) h.rg h.nd h.fo hk hj (fun _=>Iff.rfl)).2 hJ
omit hnet in
theorem Vx {t:List Int} (hn:t.Nodup) {k j:Int} (hk:k∈t):wgt l (wo t k++[j])=wgt l t-wOf l k+wOf l j:=by
 rw [QgX,Vw,QgW,QaM l hn hk];omega
theorem Qr9 (hc:Wk n l=true):Tr n l (frT l):=Tr.perm hnet (JP hnet hc) (Kx (Ca l)) fun _=>frT_mem.symm
omit hnet in
theorem QeN:wgt l (frT l)=wgt l (Qd l):=Du l (Kx (Ca l)) (ZF l) fun _=>frT_mem
end
def rts (l:List St) (t:List Int) (n:Nat):List Nat:=(qD n).filter fun (v:Nat)=>decide (lb l t (v:Int)=(v:Int))
theorem VX:∀{a b:List Int},a.Nodup→(∀x∈a,x∈b)→a.length≤b.length
 | [],b,_,_=>jH _
 | x::a,b,ha,h=>by
  obtain ⟨h1,h2⟩:=List.nodup_cons.1 ha
  have hx:=h x (qJ ..)
  obtain ⟨p,q,rfl⟩:=zS hx
  have:=VX (a:=a) (b:=p++q) h2 fun y hy=>by
   have h3:=h y (qI _ hy)
   have hne:y≠x:=fun c=>h1 (c▸hy)
   simp only [qS,jV] at h3 ⊢
   rcases h3 with c | c | c
   ·exact .inl c
   ·exact absurd c hne
   ·exact .inr c
  simp only [qC,qG] at this ⊢
  omega
section
variable {n:Int} {l:List St} (hnet:WC n l=true)
include hnet
theorem QbN {t:List Int} (ht:∀k∈t,0≤k∧k<(l.length:Int)):((rts l t n.toNat).length:Int)+(tkT l t).length=n:=by
 have he:=Qz hnet
 obtain ⟨⟨n1,n2⟩,_⟩:=QT hnet
 have hE:∀k,0≤k∧k<(l.length:Int)→sA l k<n∧sB l k<n:=fun k hk=>by have:=Jg hnet hk;omega
 have h1:=Z9 he ht
 have h2:rt (Qy l t)=(rts l t n.toNat).length+(16-n.toNat):=by
  unfold rt rts
  have e:qD 16=qD n.toNat++(qD (16-n.toNat)).map (n.toNat+·):=by
   rw [← List.range_add]
   congr 1
   omega
  rw [e,jZ,qC]
  have e1:((qD n.toNat).filter fun (v:Nat)=>decide ((Qy l t).getD v 0=(v:Int)))=(qD n.toNat).filter fun (v:Nat)=>decide (lb l t (v:Int)=(v:Int)) :=
   zV fun v _=>by rw [lb,qP]
  rw [e1]
  congr 1
  have e2:((qD (16-n.toNat)).map (n.toNat+·)).filter (fun (v:Nat)=>decide ((Qy l t).getD v 0=(v:Int)))=(qD (16-n.toNat)).map (n.toNat+·):=List.filter_eq_self.2 fun v hv=>by
   obtain ⟨x,hx,rfl⟩:=List.mem_map.1 hv
   have hx:=List.mem_range.1 hx
   have hr:0≤((n.toNat+x:Nat):Int)∧((n.toNat+x:Nat):Int)<16:=by omega
   have h4:=W2 he ht hr
   have h5:=Dr hE ht (Zz he ht hr)
   have h6:lb l t ((n.toNat+x:Nat):Int)=((n.toNat+x:Nat):Int):=by omega
   unfold lb at h6
   rw [qP] at h6
   exact decide_eq_true h6
  rw [e2,qE,zU]
 omega
end
end Go.Proofs.Ytiejmoglooaalaa
end
section
namespace Go.HL.Dt
set_option linter.unusedSectionVars false
open Go.Proofs.Try renaming prog → Tp
open Go.HL.HV renaming undef → Ud
abbrev Row:=Int→Int
def ex (d:List Row→Int) (c:Int):List Row→List Row→Int→Int
 | _,[],_=>0
 | p,r::R,s=>s*r c*d (p++R)+ex d c (p++[r]) R (-s)
def det:List Int→List Row→Int
 | [],[]=>1
 | [],_::_=>0
 | c::cs,R=>ex (det cs) c [] R 1
def ax (x:Row) (t:Int) (y:Row):Row:=fun z=>x z+t*y z
def Lin (d:List Row→Int):Prop:=∀A x y t B,d (A++ax x t y::B)=d (A++x::B)+t*d (A++y::B)
def Alt (d:List Row→Int):Prop:=∀A x B,d (A++x::x::B)=0
theorem Qor {d:List Row→Int} (h:Lin d) (c:Int) (P Q:List Row) (x y:Row) (t:Int):∀(R:List Row) (P' Q':List Row) (s:Int),P'=P→Q'=Q→ex d c (P'++ax x t y::Q') R s=ex d c (P'++x::Q') R s+t*ex d c (P'++y::Q') R s:=by
 intro R
 have key:∀(R Q:List Row) (s:Int),ex d c (P++ax x t y::Q) R s=ex d c (P++x::Q) R s+t*ex d c (P++y::Q) R s:=by
  intro R
  induction R with
  | nil=>intro Q s;simp [ex]
  | cons r R ih =>
   intro Q s
   have h1:=h P x y t (Q++R)
   have h2:=ih (Q++[r]) (-s)
   simp only [ex,qF,qH] at h1 h2 ⊢
   rw [h1,h2]
   simp only [zF,wD,zG t]
   omega
 intro P' Q' s e1 e2
 subst e1;subst e2
 exact key R Q' s
theorem QeO {d:List Row→Int} (h:Lin d) (c:Int) (x y:Row) (t:Int) (B:List Row):∀(A p:List Row) (s:Int),ex d c p (A++ax x t y::B) s=ex d c p (A++x::B) s+t*ex d c p (A++y::B) s
 | [],p,s=>by
  have h2:=Qor h c p [] x y t B p [] (-s) rfl rfl
  simp only [qQ,ex,h2,ax]
  simp only [zF,Int.add_mul,wD,zG t]
  omega
 | a::A,p,s=>by
  have h1:=h (p++A) x y t B
  have h2:=QeO h c x y t B A (p++[a]) (-s)
  simp only [qF] at h1
  simp only [qH,ex,h2,h1]
  simp only [zF,wD,zG t]
  omega
theorem KU:∀cs,Lin (det cs)
 | []=>fun A x y t B=>by cases A <;> simp [det]
 | c::cs=>fun A x y t B=>QeO (KU cs) c x y t B A [] 1
theorem Dv {d:List Row→Int} (h:Alt d) (c:Int) (P:List Row) (x:Row):∀(R Q:List Row) (s:Int),ex d c (P++x::x::Q) R s=0
 | [],_,_=>rfl
 | r::R,Q,s=>by
  have h1:=h P x (Q++R)
  have h2:=Dv h c P x R (Q++[r]) (-s)
  simp only [ex,qF,qH] at h1 h2 ⊢
  rw [h1,h2];simp
theorem QeP {d:List Row→Int} (h:Alt d) (c:Int) (x:Row) (B:List Row):∀(A p:List Row) (s:Int),ex d c p (A++x::x::B) s=0
 | [],p,s=>by
  have h2:=Dv h c p x B [] s
  have e:p++[x]++B=p++x::B:=by simp
  simp only [qQ,ex,qF,qH,Int.neg_neg] at h2 ⊢
  rw [h2,jJ,jJ]
  omega
 | a::A,p,s=>by
  have h1:=h (p++A) x B
  simp only [qF] at h1
  simp only [qH,ex,QeP h c x B A,h1];simp
theorem Uh:∀cs,Alt (det cs)
 | []=>fun A x B=>by cases A <;> simp [det]
 | c::cs=>fun A x B=>QeP (Uh cs) c x B A [] 1
section
variable {d:List Row→Int} (hl:Lin d) (ha:Alt d)
include hl ha
theorem QeQ (A:List Row) (x y:Row) (B:List Row):d (A++x::y::B)=- d (A++y::x::B):=by
 have h:=ha A (ax x 1 y) B
 have h1:=hl A x y 1 (ax x 1 y::B)
 have h2:=hl (A++[x]) x y 1 B
 have h3:=hl (A++[y]) x y 1 B
 have h4:=ha A x B
 have h5:=ha A y B
 simp only [qF,qH,qQ] at h2 h3
 rw [h1,h2,h3,h4,h5] at h
 omega
theorem move (x:Row) (B:List Row):∀(M A:List Row),d (A++x::(M++B))=(-1) ^ M.length*d (A++M++x::B)
 | [],A=>by simp
 | m::M,A=>by
  have h:=move x B M (A++[m])
  have h1:=QeQ hl ha A x m (M++B)
  simp only [qF,qH,qQ] at h h1 ⊢
  rw [h1,h,qG,jW]
  simp [jJ,jX]
theorem two (A:List Row) (x:Row) (M B:List Row):d (A++x::(M++x::B))=0:=by
 rw [move hl ha x (x::B) M A,ha];simp
theorem QcI (x:Row) {R:List Row} (h:x∈R):d (x::R)=0:=by
 obtain ⟨M,B,rfl⟩:=zS h
 exact two hl ha [] x M B
theorem QsA (A:List Row) (x y:Row) (t:Int) (M B:List Row):d (A++x::(M++ax y t x::B))=d (A++x::(M++y::B)):=by
 have h:=hl (A++x::M) y x t B
 have h2:=two hl ha A x M B
 simp only [qF,qH] at h
 rw [h,h2];omega
theorem elim (x:Row) (f:Row→Int):∀(R A:List Row),d (x::(A++R.map fun r=>ax r (f r) x))=d (x::(A++R))
 | [],A=>rfl
 | r::R,A=>by
  have h:=elim x f R (A++[ax r (f r) x])
  have h2:=QsA hl ha [] x r (f r) A R
  simp only [qF,qH,qQ,jQ] at h h2 ⊢
  rw [h,h2]
theorem Qos (x y:Row) (M B:List Row):d (x::(M++y::B))=- d (y::(M++x::B)):=by
 have h1:=move hl ha x (y::B) M []
 have h2:=move hl ha y (x::B) M []
 have h3:=QeQ hl ha M x y B
 simp only [qQ] at h1 h2
 rw [h1,h2,h3,jX]
theorem Gn (x:Row):∀(S R:List Row),(∀r∈S,r∈R)→d (S.foldr (fun r y=>ax y 1 r) x::R)=d (x::R)
 | [],R,_=>rfl
 | r::S,R,h=>by
  have h1:=hl [] (S.foldr (fun r y=>ax y 1 r) x) r 1 R
  have h2:=QcI hl ha r (h r (qJ ..))
  have h3:=Gn x S R fun q hq=>h q (qI _ hq)
  simp only [qQ] at h1
  rw [qN,h1,h2,h3];omega
omit ha in
theorem zero_row (A B:List Row):d (A++(fun _=>0)::B)=0:=by
 have h:=hl A (fun _=>0) (fun _=>0) 1 B
 have e:ax (fun _=>0) 1 (fun _=>0)=(fun _=>0:Row):=by funext z;simp [ax]
 rw [e] at h
 omega
end
def Cg (p:Int) (cs:List Int):List Row→List Row→Prop
 | [],[]=>True
 | r::R,r'::R'=>(∀z∈cs,p∣r z-r' z)∧Cg p cs R R'
 | _,_=>False
theorem Cg.refl (p:Int) (cs:List Int):∀R,Cg p cs R R
 | []=>trivial
 | r::R=>⟨fun z _=>by rw [Int.sub_self];exact Int.dvd_zero p,Cg.refl p cs R⟩
theorem Cg.app {p:Int} {cs:List Int}:∀{A A' B B':List Row},Cg p cs A A'→Cg p cs B B'→Cg p cs (A++B) (A'++B')
 | [],[],_,_,_,h=>h
 | _::_,_::_,_,_,h,h2=>⟨h.1,Cg.app h.2 h2⟩
 | [],_::_,_,_,h,_=>h.elim
 | _::_,[],_,_,h,_=>h.elim
theorem Cg.mono {p:Int} {cs cs':List Int} (hs:∀z∈cs',z∈cs):∀{A A':List Row},Cg p cs A A'→Cg p cs' A A'
 | [],[],_=>trivial
 | _::_,_::_,h=>⟨fun z hz=>h.1 z (hs z hz),Cg.mono hs h.2⟩
 | [],_::_,h=>h.elim
 | _::_,[],h=>h.elim
theorem Zf {p a a' b b':Int} (h1:p∣a-a') (h2:p∣b-b'):p∣a*b-a'*b':=by
 have e:a*b-a'*b'=(a-a')*b+a'*(b-b'):=by rw [Int.sub_mul,Int.mul_sub];omega
 rw [e]
 exact Int.dvd_add (Int.dvd_mul_of_dvd_left h1) (Int.dvd_mul_of_dvd_right h2)
theorem Qio {p:Int} {cs:List Int} {d:List Row→Int} (hd:∀R R',Cg p cs R R'→p∣d R-d R') {c:Int}:∀(R R' P P':List Row) (s:Int),Cg p (c::cs) P P'→Cg p (c::cs) R R'→p∣ex d c P R s-ex d c P' R' s
 | [],[],_,_,_,_,_=>by simp [ex]
 | r::R,r'::R',P,P',s,hP,hR=>by
  have m:=fun z (hz:z∈cs)=>qI c hz
  have h1:=hd _ _ (Cg.app (Cg.mono (cs':=cs) m hP) (Cg.mono (cs':=cs) m hR.2))
  have h2:=Qio hd R R' (P++[r]) (P'++[r']) (-s) (Cg.app hP ⟨hR.1,trivial⟩) hR.2
  have h3:=Zf (Zf (show p∣s-s by rw [Int.sub_self];exact Int.dvd_zero p) (hR.1 c (qJ ..))) h1
  simp only [ex]
  have:=Int.dvd_add h3 h2
  have e:∀a b a' b':Int,a+b-(a'+b')=(a-a')+(b-b'):=fun a b a' b'=>by omega
  rw [e]
  exact this
 | [],_::_,_,_,_,_,h=>h.elim
 | _::_,[],_,_,_,_,h=>h.elim
theorem Ch {p:Int}:∀(cs:List Int) (R R':List Row),Cg p cs R R'→p∣det cs R-det cs R'
 | [],[],[],_=>by simp [det]
 | [],_::_,_::_,_=>by simp [det]
 | c::cs,R,R',h=>Qio (fun A B=>Ch cs A B) R R' [] [] 1 trivial h
theorem Ci {cs:List Int} {R R':List Row} (h:Cg 0 cs R R'):det cs R=det cs R':=by
 have:=Ch cs R R' h
 rw [Int.zero_dvd] at this
 omega
theorem Ui {d:List Row→Int} {c:Int}:∀(R P:List Row) (s:Int),(∀r∈R,r c=0)→ex d c P R s=0
 | [],_,_,_=>rfl
 | r::R,P,s,h=>by
  rw [ex,h r (qJ ..),Ui R _ _ fun q hq=>h q (qI _ hq)];simp
theorem QeR {c:Int} {cs:List Int} {R:List Row} (h:∀r∈R,r c=0):det (c::cs) R=0:=Ui R [] 1 h
theorem QgY {c:Int} {cs:List Int} {x:Row} {R:List Row} (h:∀r∈R,r c=0):det (c::cs) (x::R)=x c*det cs R:=by
 show 1*x c*det cs ([]++R)+ex (det cs) c ([]++[x]) R (-1)=_
 rw [Ui R _ _ h];simp
def un (a:Int):Row:=fun z=>if z=a then 1 else 0
theorem QeS:∀n:Nat,((-1:Int) ^ n)*(-1) ^ n=1
 | 0=>rfl
 | n+1=>by
  rw [jW]
  have:=QeS n
  simp only [jX,Int.mul_one,jJ,Int.neg_neg]
  exact this
theorem QgZ {d d':List Row→Int} {c:Int} {u:Row} (hu:u c=0) {q:Nat}
  (hd:∀A B:List Row,d (A++u::B)=(-1) ^ (A.length+q)*d' (A++B)) :
  (∀(R P1 P2:List Row) (s:Int),ex d c (P1++u::P2) R s=(-1) ^ (P1.length+q)*ex d' c (P1++P2) R s) ∧
  (∀(A B P:List Row) (s:Int),ex d c P (A++u::B) s=(-1) ^ (P.length+A.length+q+1)*ex d' c P (A++B) s):=by
 have h1:∀(R P1 P2:List Row) (s:Int),ex d c (P1++u::P2) R s=(-1) ^ (P1.length+q)*ex d' c (P1++P2) R s:=by
  intro R
  induction R with
  | nil=>intro P1 P2 s;simp [ex]
  | cons r R ih =>
   intro P1 P2 s
   have e1:=hd P1 (P2++R)
   have e2:=ih P1 (P2++[r]) (-s)
   simp only [ex,qF,qH] at e1 e2 ⊢
   rw [e1,e2,zF,zG]
 refine ⟨h1,?_⟩
 intro A
 induction A with
 | nil =>
  intro B P s
  have e:=h1 B P [] (-s)
  have en:∀(R P:List Row) (s:Int),ex d' c P R (-s)=- ex d' c P R s:=by
   intro R
   induction R with
   | nil=>intro P s;simp [ex]
   | cons r R ih=>intro P s;simp only [ex,ih,jJ,Int.neg_add]
  simp only [qQ,ex,hu,qM] at e ⊢
  rw [e,en,jN,zD,jW]
  simp [jJ,jX]
 | cons a A ih =>
  intro B P s
  have e1:=hd (P++A) B
  have e2:=ih B (P++[a]) (-s)
  simp only [qF,qC,qG,jN] at e1 e2
  simp only [qH,ex,qF]
  rw [e1,e2,zF,qG]
  have k1:P.length+(A.length+1)+q+1=(P.length+A.length+q)+1+1:=by omega
  have k2:P.length+(0+1)+A.length+q+1=(P.length+A.length+q)+1+1:=by omega
  rw [k1,k2,jW,jW]
  simp only [jX,Int.mul_one,jJ,Int.neg_neg,zG]
theorem SP {a:Int} (Y:List Int):∀(X:List Int),a∉X→a∉Y→∀A B:List Row,det (X++a::Y) (A++un a::B)=(-1) ^ (A.length+X.length)*det (X++Y) (A++B)
 | [],_,hY,A,B=>by
  have hz:∀A B:List Row,det Y (A++un a::B)=0:=fun A B=>by
   have:det Y (A++un a::B)=det Y (A++(fun _=>0)::B):=Ci (Cg.app (Cg.refl ..) ⟨fun z hz=>by
    have:z≠a:=fun e=>hY (e▸hz)
    simp [un,this],Cg.refl ..⟩)
   rw [this,zero_row (KU Y)]
  have h1:∀(R P1 P2:List Row) (s:Int),ex (det Y) a (P1++un a::P2) R s=0:=by
   intro R
   induction R with
   | nil=>intro P1 P2 s;rfl
   | cons r R ih =>
    intro P1 P2 s
    have e1:=hz P1 (P2++R)
    have e2:=ih P1 (P2++[r]) (-s)
    simp only [ex,qF,qH] at e1 e2 ⊢
    rw [e1,e2];simp
  have key:∀(A P:List Row) (s:Int),ex (det Y) a P (A++un a::B) s=s*(-1) ^ A.length*det Y (P++A++B):=by
   intro A
   induction A with
   | nil =>
    intro P s
    have e:=h1 B P [] (-s)
    simp only [qQ,ex,qM] at e ⊢
    rw [e]
    simp [un]
   | cons r A ih =>
    intro P s
    have e1:=hz (P++A) B
    have e2:=ih (P++[r]) (-s)
    simp only [qF,qH,qQ] at e1 e2
    simp only [qH,ex,qF]
    rw [e1,e2,qG,jW]
    simp [jJ,jX]
  have:=key A [] 1
  simp only [qQ,jN,zD]
  show ex (det Y) a [] (A++un a::B) 1=_
  rw [this];simp
 | c::X,hX,hY,A,B=>by
  have hc:a≠c:=fun e=>hX (e▸qJ ..)
  have ih:=SP Y X (fun h=>hX (qI _ h)) hY
  have h:=(QgZ (c:=c) (u:=un a) (by simp [un,Ne.symm hc]) (q:=X.length) ih).2 A B [] 1
  show ex (det (X++a::Y)) c [] (A++un a::B) 1=_*ex (det (X++Y)) c [] (A++B) 1
  rw [h,jN,qG,Nat.zero_add]
  rfl
def Wr (p:List Int→Bool):List Int→Nat
 | []=>if p []=true then 1 else 0
 | x::L=>Wr p L+Wr (fun F=>p (x::F)) L
theorem Zg:∀{L:List Int} {p q:List Int→Bool},(∀F,F.Sublist L→p F=q F)→Wr p L=Wr q L
 | [],p,q,h=>by rw [Wr,Wr,h [] (List.Sublist.refl _)]
 | x::L,p,q,h=>by
  rw [Wr,Wr,Zg (L:=L) (p:=p) (q:=q) fun F hF=>h F (hF.cons x),Zg (L:=L) (p:=fun F=>p (x::F)) (q:=fun F=>q (x::F)) fun F hF=>h _ (hF.cons_cons x)]
theorem Jx:∀{L:List Int} {p:List Int→Bool},(∀F,F.Sublist L→p F=false)→Wr p L=0
 | [],p,h=>by rw [Wr,h [] (List.Sublist.refl _)];rfl
 | x::L,p,h=>by
  rw [Wr,Jx (L:=L) (p:=p) fun F hF=>h F (hF.cons x),Jx (L:=L) (p:=fun F=>p (x::F)) fun F hF=>h _ (hF.cons_cons x)]
theorem Gp {L L':List Int} (hP:L.Perm L'):∀{p:List Int→Bool},(∀F F',(∀x∈F,x∈L)→F.Perm F'→p F=p F')→Wr p L=Wr p L':=by
 induction hP with
 | nil=>intro p _;rfl
 | cons x h ih =>
  intro p hp
  rw [Wr,Wr,ih fun F F' hF hFF=>hp F F' (fun y hy=>qI _ (hF y hy)) hFF]
  congr 1
  exact ih fun F F' hF hFF=>hp _ _ (fun y hy=>(List.mem_cons.1 hy).elim (fun e=>e▸qJ ..) fun h=>qI _ (hF y h)) (hFF.cons x)
 | swap x y L =>
  intro p hp
  simp only [Wr]
  have:Wr (fun F=>p (y::x::F)) L=Wr (fun F=>p (x::y::F)) L:=Zg fun F hF=>hp _ _ (fun z hz=>by
   simp only [jV] at hz ⊢
   rcases hz with h | h | h
   ·exact .inl h
   ·exact .inr (.inl h)
   ·exact .inr (.inr (hF.subset h))) (List.Perm.swap x y F)
  rw [this]
  omega
 | trans h1 h2 ih1 ih2 =>
  intro p hp
  rw [ih1 hp]
  exact ih2 fun F F' hF hFF=>hp F F' (fun x hx=>h1.mem_iff.2 (hF x hx)) hFF
theorem Dw {B:List Int} {q:List Int→Bool}:∀{A:List Int} {p r:List Int→Bool},(∀F G,F.Sublist A→G.Sublist B→p (F++G)=(r F&&q G))→Wr p (A++B)=Wr r A*Wr q B
 | [],p,r,h=>by
  have e:Wr p B=Wr (fun G=>r []&&q G) B:=Zg fun G hG=>by have:=h [] G (List.Sublist.refl _) hG;simpa using this
  rw [qQ,e,Wr]
  cases hr:r [] with
  | true=>rw [if_pos rfl,Nat.one_mul];exact Zg fun G _=>by simp
  | false=>rw [if_neg (by simp),Nat.zero_mul];exact Jx fun G _=>by simp
 | x::A,p,r,h=>by
  rw [qH,Wr,Wr,Nat.add_mul,Dw (A:=A) (p:=p) (r:=r) fun F G hF hG=>h F G (hF.cons x) hG,
   Dw (A:=A) (p:=fun F=>p (x::F)) (r:=fun F=>r (x::F)) fun F G hF hG=>h _ _ (hF.cons_cons x) hG]
theorem Yv (x:Int):∀{L:List Int} {p:List Int→Bool},Wr p (L++[x])=Wr p L+Wr (fun F=>p (F++[x])) L
 | [],p=>by simp [Wr]
 | y::L,p=>by
  rw [qH,Wr,Wr,Wr,Yv x (L:=L) (p:=p),Yv x (L:=L) (p:=fun F=>p (y::F))]
  simp only [qH]
  omega
theorem QeT (L:List Int):∀{p:List Int→Bool},Wr p L≤2 ^ L.length:=by
 induction L with
 | nil=>intro p;rw [Wr];split <;> simp
 | cons x L ih =>
  intro p
  have h1:=ih (p:=p)
  have h2:=ih (p:=fun F=>p (x::F))
  rw [Wr,qG,Nat.pow_succ]
  omega
theorem Gq {p:List Int→Bool} (h0:p []=true):∀(L:List Int),(∀F,F≠[]→p F=false)→Wr p L=1
 | [],_=>by rw [Wr,if_pos h0]
 | x::L,h=>by rw [Wr,Gq h0 L h,Jx fun F _=>h _ (by simp)]
end Go.HL.Dt
end
section
open Go Go.HL Go.HL.Dt
namespace Go.Proofs.Ytiejmoglooaalaa
set_option linter.unusedSectionVars false
open Go.Proofs.Try renaming prog → Tp
open Go.HL.HV renaming undef → Ud
def dl (a x:Int):Int:=if a=x then 1 else 0
def ed (l:List St) (t:List Int) (e x y:Int):Int:=(dl (lb l t (sA l e)) x-dl (lb l t (sB l e)) x)*(dl (lb l t (sA l e)) y-dl (lb l t (sB l e)) y)
def Lp (l:List St) (t E:List Int) (x:Int):Row:=fun y=>E.foldr (fun e s=>ed l t e x y+s) 0
theorem Cj (l:List St) (t:List Int) (e:Int) (E2:List Int) (x y:Int):∀E1:List Int,Lp l t (E1++e::E2) x y=ed l t e x y+Lp l t (E1++E2) x y
 | []=>rfl
 | f::E1=>by
  have:=Cj l t e E2 x y E1
  simp only [Lp,qH,qN] at this ⊢
  rw [this];omega
def fo (l:List St) (t:List Int) (r:Nat) (F:List Int):Bool:=decide ((tkT l (t++F)).length=(tkT l t).length+F.length∧F.length=r)
def cnt (l:List St) (t E:List Int) (r:Nat):Nat:=Wr (fo l t r) E
def InR (l:List St) (t:List Int):Prop:=∀k∈t,0≤k∧k<(l.length:Int)
theorem InR.app {l:List St} {s t:List Int} (h:InR l s) (h2:InR l t):InR l (s++t):=fun k hk=>(List.mem_append.1 hk).elim (h k) (h2 k)
theorem InR.one {l:List St} {k:Int} (h:0≤k∧k<(l.length:Int)):InR l [k]:=fun x hx=>by rw [List.mem_singleton.1 hx];exact h
section
variable {l:List St} (he:Jk l=true)
include he
theorem Qg0 {t:List Int} (ht:InR l t) {e:Int} (h:0≤e∧e<(l.length:Int)) {v:Int} (hv:0≤v∧v<16):lb l (t++[e]) v=WN (min (lb l t (sA l e)) (lb l t (sB l e))) (max (lb l t (sA l e)) (lb l t (sB l e))) (lb l t v):=by
 have g0:(t++[e]).getD t.length 0=e:=by simp [qO]
 have:=Z8 he (ht.app (.one h)) (i:=t.length) (by simp) hv
 rw [g0,wA,jP (by simp)] at this
 exact this
theorem Qg1 {t:List Int} (ht:InR l t) {r:Nat} {F F':List Int} (hF:InR l F) (h:F.Perm F'):fo l t r F=fo l t r F':=by
 unfold fo
 rw [h.length_eq,Q7 he (ht.app hF) (t':=t++F') fun x=>by rw [qS,qS,h.mem_iff]]
theorem SQ {t E E':List Int} (ht:InR l t) (hE:InR l E) (h:E.Perm E') (r:Nat):cnt l t E r=cnt l t E' r :=
 Gp h fun F F' hF hFF=>Qg1 he ht (fun x hx=>hE x (hF x hx)) hFF
theorem QeU {t E:List Int} {e:Int} (r:Nat):cnt l t (e::E) (r+1)=cnt l t E (r+1)+if (Qy l t).getD (sA l e).toNat 0≠(Qy l t).getD (sB l e).toNat 0 then cnt l (t++[e]) E r else 0:=by
 unfold cnt
 rw [Wr]
 congr 1
 have ha:=fun F:List Int=>Yq l (t++[e]) F
 have hs:=VT l t e
 split
 ·rename_i c
  rw [if_pos c] at hs
  refine Zg fun F _=>?_
  have:=ha F
  unfold fo
  rw [List.append_cons]
  rw [decide_eq_decide,qG,hs,qC,qU]
  omega
 ·rename_i c
  rw [if_neg c] at hs
  refine Jx fun F _=>?_
  have:=ha F
  unfold fo
  rw [List.append_cons]
  rw [hs] at this
  refine decide_eq_false fun h=>?_
  rw [qG] at h
  omega
end
theorem cgm {p:Int} {cs:List Int} {f g:Int→Row}:∀{R:List Int},(∀r∈R,∀z∈cs,p∣f r z-g r z)→Cg p cs (R.map f) (R.map g)
 | [],_=>trivial
 | r::R,h=>⟨h r (qJ ..),cgm fun q hq=>h q (qI _ hq)⟩
theorem Qot (m:Nat):(-1:Int) ^ (m+m)=1:=by rw [Int.pow_add];exact QeS m
theorem Dx {l:List St} {t:List Int} (K:List Int) (y:Int):∀E:List Int,(∀e∈E,(K.foldr (fun x s=>(dl (lb l t (sA l e)) x-dl (lb l t (sB l e)) x)+s) 0)=0)→K.foldr (fun x s=>Lp l t E x y+s) 0=0
 | [],_=>by induction K with
  | nil=>rfl
  | cons k K ih=>rw [qN,ih (fun e he=>by cases he)];rfl
 | e::E,h=>by
  have h1:=Dx K y E fun f hf=>h f (qI _ hf)
  have h2:=h e (qJ ..)
  have key:∀K:List Int,K.foldr (fun x s=>Lp l t (e::E) x y+s) 0=(K.foldr (fun x s=>(dl (lb l t (sA l e)) x-dl (lb l t (sB l e)) x)+s) 0)*(dl (lb l t (sA l e)) y-dl (lb l t (sB l e)) y)+K.foldr (fun x s=>Lp l t E x y+s) 0:=by
   intro K
   induction K with
   | nil=>simp
   | cons k K ih =>
    rw [qN,qN,qN,ih,Int.add_mul]
    have:Lp l t (e::E) k y=ed l t e k y+Lp l t E k y:=rfl
    rw [this,ed];omega
  rw [key,h1,h2];simp
theorem QeV {K:List Int} (hn:K.Nodup) (a:Int):K.foldr (fun x s=>dl a x+s) 0=if a∈K then 1 else 0:=by
 induction K with
 | nil=>rfl
 | cons k K ih =>
  obtain ⟨n1,n2⟩:=List.nodup_cons.1 hn
  rw [qN,ih n2,dl]
  by_cases c:a=k
  ·subst c;rw [if_pos rfl,if_neg n1,if_pos (qJ ..)];rfl
  ·rw [if_neg c]
   by_cases d:a∈K
   ·rw [if_pos d,if_pos (qI _ d)];rfl
   ·rw [if_neg d,if_neg (fun h=>(List.mem_cons.1 h).elim c d)];rfl
theorem Qou {K:List Int} (a b:Int):K.foldr (fun x s=>(dl a x-dl b x)+s) 0=K.foldr (fun x s=>dl a x+s) 0-K.foldr (fun x s=>dl b x+s) 0:=by
 induction K with
 | nil=>rfl
 | cons k K ih=>rw [qN,qN,qN,ih];omega
theorem QeW (S:List Row) (x:Row) (y:Int):S.foldr (fun r y=>ax y 1 r) x y=x y+S.foldr (fun r s=>r y+s) 0:=by
 induction S with
 | nil=>simp
 | cons r S ih=>rw [qN,qN,ax,ih];omega
theorem QaN {l:List St} (he:Jk l=true) {t K F:List Int} (ht:InR l t) (hF:InR l F) (hn:K.Nodup) (hK:∀x∈K,(0≤x∧x<16)∧lb l t x=x) (h0:K≠[])
  (hc:∀e∈F,(lb l t (sA l e)∈K∧lb l t (sB l e)∈K)∨lb l t (sA l e)=lb l t (sB l e)):fo l t K.length F=false:=by
 refine decide_eq_false fun ⟨h1,h2⟩=>?_
 have htF:=ht.app hF
 have r1:=Z9 he ht
 have r2:=Z9 he htF
 let κ:Int→Int:=fun v=>if lb l t v∈K then -1 else lb l t v
 have hκ:∀u v:Int,Cn l (t++F) u v→κ u=κ v:=fun u v h=>by
  induction h with
  | refl v=>rfl
  | edge hk =>
   rcases List.mem_append.1 hk with c | c
   ·have e:=Ue he ht c
    show (if _ then _ else _)=(if _ then _ else _)
    rw [e]
   ·rcases hc _ c with ⟨d1,d2⟩ | d
    ·show (if _ then _ else _)=(if _ then _ else _)
     rw [if_pos d1,if_pos d2]
    ·show (if _ then _ else _)=(if _ then _ else _)
     rw [d]
  | symm _ ih=>exact ih.symm
  | trans _ _ a b=>exact a.trans b
 have mono:∀{v:Int},0≤v∧v<16→lb l (t++F) v≤lb l t v:=fun hv=>SG he ht htF (fun k hk=>jG _ hk) hv
 have st:∀v:Nat,v<16→lb l t (v:Int)=(v:Int)→(v:Int)∉K→lb l (t++F) (v:Int)=(v:Int):=fun v hv h hvK=>by
  have hr:0≤(v:Int)∧(v:Int)<16:=by omega
  have a1:=W2 he htF hr
  have a2:=hκ _ _ (Zz he htF hr)
  have a3:=W2 he ht (v:=lb l (t++F) (v:Int)) (by omega)
  have e:κ (v:Int)=(v:Int):=by show (if _ then _ else _)=_;rw [h,if_neg hvK]
  rw [e] at a2
  have a2:(if lb l t (lb l (t++F) (v:Int))∈K then (-1:Int) else lb l t (lb l (t++F) (v:Int)))=(v:Int):=a2
  split at a2 <;> omega
 obtain ⟨k0,hk0⟩:=List.exists_mem_of_ne_nil K h0
 obtain ⟨k1,k2⟩:=hK k0 hk0
 have b1:=W2 he htF k1
 have b2:=hκ _ _ (Zz he htF k1)
 generalize hr:lb l (t++F) k0=r at *
 have hrr:0≤r∧r<16:=by omega
 have b3:=W2 he ht hrr
 have e0:κ k0=-1:=by show (if _ then _ else _)=_;rw [k2,if_pos hk0]
 rw [e0] at b2
 have b2:(if lb l t r∈K then (-1:Int) else lb l t r)=-1:=b2
 have hrK:lb l t r∈K:=by
  by_cases c:lb l t r∈K
  ·exact c
  ·rw [if_neg c] at b2;omega
 have b4:=Vt he htF ((Zz he ht hrr).mono fun k hk=>jG _ hk)
 rw [b1.2.2] at b4
 have b5:=W2 he htF (v:=lb l t r) (by omega)
 have hrt:lb l t r=r:=by omega
 rw [hrt] at hrK
 let R:List Int:=((qD 16).filter fun (v:Nat)=>decide ((Qy l t).getD v 0=(v:Int))).map fun (v:Nat)=>(v:Int)
 let R':List Int:=((qD 16).filter fun (v:Nat)=>decide ((Qy l (t++F)).getD v 0=(v:Int))).map fun (v:Nat)=>(v:Int)
 have hRl:R.length=rt (Qy l t):=by simp only [R,qE];rfl
 have hRl':R'.length=rt (Qy l (t++F)):=by simp only [R',qE];rfl
 have hRm:∀x,x∈R↔(0≤x∧x<16)∧lb l t x=x:=fun x=>by
  simp only [R,List.mem_map,jE,List.mem_range,decide_eq_true_eq]
  constructor
  ·rintro ⟨v,⟨v1,v2⟩,rfl⟩
   exact ⟨by omega,by rw [lb,qP];exact v2⟩
  ·rintro ⟨h1,h2⟩
   exact ⟨x.toNat,⟨by omega,by rw [lb] at h2;omega⟩,by omega⟩
 have hRm':∀x,x∈R'↔(0≤x∧x<16)∧lb l (t++F) x=x:=fun x=>by
  simp only [R',List.mem_map,jE,List.mem_range,decide_eq_true_eq]
  constructor
  ·rintro ⟨v,⟨v1,v2⟩,rfl⟩
   exact ⟨by omega,by rw [lb,qP];exact v2⟩
  ·rintro ⟨h1,h2⟩
   exact ⟨x.toNat,⟨by omega,by rw [lb] at h2;omega⟩,by omega⟩
 have hRn:R.Nodup:=by
  simp only [R]
  rw [List.Nodup,List.pairwise_map]
  exact (List.nodup_range.sublist qW).imp fun {a b} h c=>h (by omega)
 let R0:=R.filter fun x=>decide (x∉K)
 have c1:=VX (a:=R) (b:=R0++K) hRn fun x hx=>by
  by_cases c:x∈K
  ·exact zP _ c
  ·exact jG _ (List.mem_filter.2 ⟨hx,decide_eq_true c⟩)
 have c2:=VX (a:=r::R0) (b:=R') (List.nodup_cons.2 ⟨fun h=>of_decide_eq_true (List.mem_filter.1 h).2 hrK,hRn.sublist qW⟩) fun x hx=>by
  rcases List.mem_cons.1 hx with e | e
  ·subst e;exact (hRm' _).2 ⟨hrr,b1.2.2⟩
  ·obtain ⟨g1,g2⟩:=List.mem_filter.1 e
   obtain ⟨g3,g4⟩:=(hRm x).1 g1
   have:=st x.toNat (by omega) (by rw [show ((x.toNat:Nat):Int)=x by omega];exact g4) (by rw [show ((x.toNat:Nat):Int)=x by omega];exact of_decide_eq_true g2)
   rw [show ((x.toNat:Nat):Int)=x by omega] at this
   exact (hRm' x).2 ⟨g3,this⟩
 rw [qC] at c1
 rw [qG] at c2
 omega
theorem mt {l:List St} (he:Jk l=true) {χ:Int→Int}:∀(N:Nat) (t K E:List Int),K.length+E.length≤N→InR l t→InR l E→K.Nodup→(∀x∈K,(0≤x∧x<16)∧lb l t x=x) →
  (∀e∈E,χ (lb l t (sA l e))=χ (lb l t (sB l e)))→(∀x y,(0≤x∧x<16)∧lb l t x=x→(0≤y∧y<16)∧lb l t y=y→x∉K→y∉K→χ x=χ y→x=y) →
  det K (K.map (Lp l t E))=(cnt l t E K.length:Int):=by
 intro N
 induction N with
 | zero =>
  intro t K E h _ _ _ _ _ _
  have e1:K=[]:=List.length_eq_zero_iff.1 (by omega)
  have e2:E=[]:=List.length_eq_zero_iff.1 (by omega)
  subst e1;subst e2
  simp [det,cnt,Wr,fo]
 | succ N ih =>
  intro t K E hlen ht hE hn hK hC1 hC2
  have lbr:∀e∈E,((0≤lb l t (sA l e)∧lb l t (sA l e)<16)∧lb l t (lb l t (sA l e))=lb l t (sA l e))∧((0≤lb l t (sB l e)∧lb l t (sB l e)<16)∧lb l t (lb l t (sB l e))=lb l t (sB l e)):=fun e hm=>by
   obtain ⟨ea,eb⟩:=Ku he (hE e hm)
   exact ⟨⟨G6 he ht ea,(W2 he ht ea).2.2⟩,G6 he ht eb,(W2 he ht eb).2.2⟩
  by_cases hx:∃e∈E,(lb l t (sA l e)∈K∧lb l t (sB l e)∉K)∨(lb l t (sA l e)∉K∧lb l t (sB l e)∈K)
  ·obtain ⟨e,heE,hcase⟩:=hx
   obtain ⟨⟨ra,la⟩,rb,lbb⟩:=lbr e heE
   have hCe:=hC1 e heE
   have her:=hE e heE
   obtain ⟨a,b,haK,hbK,hab,hra,hrb,hla,hlb,hχ,hsym,hed⟩:∃a b,a∈K∧b∉K∧a≠b∧(0≤a∧a<16)∧(0≤b∧b<16)∧lb l t a=a∧lb l t b=b∧χ a=χ b ∧
     ((lb l t (sA l e)=a∧lb l t (sB l e)=b)∨(lb l t (sA l e)=b∧lb l t (sB l e)=a))∧∀x∈K,∀y∈K,ed l t e x y=dl a x*dl a y:=by
    rcases hcase with ⟨c1,c2⟩ | ⟨c1,c2⟩
    ·refine ⟨_,_,c1,c2,fun c=>c2 (c▸c1),ra,rb,la,lbb,hCe,.inl ⟨rfl,rfl⟩,fun x hx y hy=>?_⟩
     have n1:lb l t (sB l e)≠x:=fun c=>c2 (c▸hx)
     have n2:lb l t (sB l e)≠y:=fun c=>c2 (c▸hy)
     simp only [ed,dl,if_neg n1,if_neg n2,Int.sub_zero]
    ·refine ⟨_,_,c2,c1,fun c=>c1 (c▸c2),rb,ra,lbb,la,hCe.symm,.inr ⟨rfl,rfl⟩,fun x hx y hy=>?_⟩
     have n1:lb l t (sA l e)≠x:=fun c=>c1 (c▸hx)
     have n2:lb l t (sA l e)≠y:=fun c=>c1 (c▸hy)
     simp only [ed,dl,if_neg n1,if_neg n2,Int.zero_sub,Int.neg_mul_neg]
   obtain ⟨E1,E2,rfl⟩:=zS heE
   have hE':InR l (E1++E2):=fun x hx=>hE x (by simp only [qS,jV] at hx ⊢;rcases hx with h | h;exact .inl h;exact .inr (.inr h))
   have hin:∀x∈E1++E2,x∈E1++e::E2:=fun x hx=>by simp only [qS,jV] at hx ⊢;rcases hx with h | h;exact .inl h;exact .inr (.inr h)
   obtain ⟨X,Y,rfl⟩:=zS haK
   have hne:∀x∈X++Y,x≠a:=fun x hx c=>by
    subst c
    have h:=hn
    rw [List.nodup_append] at h
    obtain ⟨_,h2,h3⟩:=h
    rcases List.mem_append.1 hx with q | q
    ·exact h3 x q x (qJ ..) rfl
    ·exact (List.nodup_cons.1 h2).1 q
   have hnX:a∉X:=fun h=>hne a (jG _ h) rfl
   have hnY:a∉Y:=fun h=>hne a (zP _ h) rfl
   have hsub:∀x∈X++Y,x∈X++a::Y:=fun x hx=>by simp only [qS,jV] at hx ⊢;rcases hx with h | h;exact .inl h;exact .inr (.inr h)
   have hnXY:(X++Y).Nodup:=hn.sublist ((List.Sublist.refl X).append (List.sublist_cons_self a Y))
   have hrow:∀x∈X++Y,∀y∈X++a::Y,(0:Int)∣Lp l t (E1++e::E2) x y-Lp l t (E1++E2) x y:=fun x hx y hy=>by
    rw [Cj,hed x (hsub x hx) y hy,dl,if_neg (fun c=>hne x hx c.symm),Int.zero_mul]
    simp
   have hR:Cg 0 (X++a::Y) ((X++a::Y).map (Lp l t (E1++e::E2))) (X.map (Lp l t (E1++E2))++ax (Lp l t (E1++E2) a) 1 (un a)::Y.map (Lp l t (E1++E2))):=by
    rw [qV,jQ]
    refine Cg.app (cgm fun x hx y hy=>hrow x (jG _ hx) y hy) ⟨fun y hy=>?_,cgm fun x hx y hy=>hrow x (zP _ hx) y hy⟩
    rw [Cj,hed a haK y hy,ax,un,dl,dl,if_pos rfl]
    by_cases c:a=y
    ·rw [if_pos c,if_pos c.symm];simp;omega
    ·rw [if_neg c,if_neg (fun d=>c d.symm)];simp
   rw [Ci hR,KU (X++a::Y),Int.one_mul,SP Y X hnX hnY,qE,Qot,Int.one_mul]
   have i1:=ih t (X++a::Y) (E1++E2) (by simp only [qC,qG] at hlen ⊢;omega) ht hE' hn hK (fun f hf=>hC1 f (hin f hf)) hC2
   rw [qV,jQ] at i1
   rw [i1]
   have htt:=ht.app (.one her)
   have hS:∀v,0≤v∧v<16→lb l (t++[e]) v=WN (min a b) (max a b) (lb l t v):=fun v hv=>by
    rw [Qg0 he ht her hv]
    rcases hsym with ⟨s1,s2⟩ | ⟨s1,s2⟩
    ·rw [s1,s2]
    ·rw [s1,s2,Int.min_comm,Int.max_comm]
   have hroot:∀x∈X++Y,lb l (t++[e]) x=x:=fun x hx=>by
    obtain ⟨k1,k2⟩:=hK x (hsub x hx)
    rw [hS x k1,k2,WN]
    have h1:=hne x hx
    have h2:x≠b:=fun c=>hbK (c▸hsub x hx)
    rw [if_neg (by omega)]
   have hdl:∀v,0≤v∧v<16→∀x∈X++Y,dl (lb l (t++[e]) v) x=dl (lb l t v) x:=fun v hv x hx=>by
    have h1:=hne x hx
    have h2:x≠b:=fun c=>hbK (c▸hsub x hx)
    rw [hS v hv,WN,dl,dl]
    split
    ·rename_i c
     rw [if_neg (by omega),if_neg (by omega)]
    ·rfl
   have hR2:Cg 0 (X++Y) (X.map (Lp l t (E1++E2))++Y.map (Lp l t (E1++E2))) ((X++Y).map (Lp l (t++[e]) (E1++E2))):=by
    rw [← qV]
    refine cgm fun x hx y hy=>?_
    have:Lp l t (E1++E2) x y=Lp l (t++[e]) (E1++E2) x y:=by
     have key:∀E:List Int,InR l E→Lp l t E x y=Lp l (t++[e]) E x y:=by
      intro E
      induction E with
      | nil=>intro _;rfl
      | cons f E ihE =>
       intro hEr
       have h1:=ihE fun z hz=>hEr z (qI _ hz)
       obtain ⟨fa,fb⟩:=Ku he (hEr f (qJ ..))
       show ed l t f x y+Lp l t E x y=ed l (t++[e]) f x y+Lp l (t++[e]) E x y
       rw [h1,ed,ed,hdl _ fa x hx,hdl _ fb x hx,hdl _ fa y hy,hdl _ fb y hy]
     exact key _ hE'
    rw [this];simp
   rw [Ci hR2]
   have hch:∀v,0≤v∧v<16→χ (lb l (t++[e]) v)=χ (lb l t v):=fun v hv=>by
    rw [hS v hv,WN]
    split
    ·rename_i c
     rw [c]
     rcases zL a b with q | q
     ·rw [zW q,zX q];exact hχ
     ·rw [zY q,zZ q];exact hχ.symm
    ·rfl
   have i2:=ih (t++[e]) (X++Y) (E1++E2) (by simp only [qC,qG] at hlen ⊢;omega) htt hE' hnXY (fun x hx=>⟨(hK x (hsub x hx)).1,hroot x hx⟩)
    (fun f hf=>by
     obtain ⟨fa,fb⟩:=Ku he (hE' f hf)
     rw [hch _ fa,hch _ fb]
     exact hC1 f (hin f hf))
    (fun x y ⟨x1,x2⟩ ⟨y1,y2⟩ xK yK hxy=>by
     have rt0:∀z,(0≤z∧z<16)→lb l (t++[e]) z=z→z∉X++Y→lb l t z=z∧z≠max a b∧(z=a∨z∉X++a::Y):=fun z z1 z2 zK=>by
      have h1:=SG he ht htt (fun k hk=>jG _ hk) z1
      have h2:=W2 he ht z1
      have h3:lb l t z=z:=by omega
      refine ⟨h3,fun c=>?_,?_⟩
      ·rw [hS z z1,h3,WN,if_pos c] at z2
       omega
      ·by_cases c:z=a
       ·exact .inl c
       ·right
        intro h
        simp only [qS,jV] at h zK
        rcases h with h | h | h
        ·exact zK (.inl h)
        ·exact c h
        ·exact zK (.inr h)
     obtain ⟨p1,p2,p3⟩:=rt0 x x1 x2 xK
     obtain ⟨q1,q2,q3⟩:=rt0 y y1 y2 yK
     rcases p3 with p3 | p3
     ·rcases q3 with q3 | q3
      ·rw [p3,q3]
      ·-- y has the part of b
       exfalso
       have:y=b:=hC2 y b ⟨y1,q1⟩ ⟨hrb,hlb⟩ q3 hbK (by rw [← hxy,p3];exact hχ)
       omega
     ·rcases q3 with q3 | q3
      ·exfalso
       have:x=b:=hC2 x b ⟨x1,p1⟩ ⟨hrb,hlb⟩ p3 hbK (by rw [hxy,q3];exact hχ)
       omega
      ·exact hC2 x y ⟨x1,p1⟩ ⟨y1,q1⟩ p3 q3 hxy)
   rw [i2]
   have hj:(Qy l t).getD (sA l e).toNat 0≠(Qy l t).getD (sB l e).toNat 0:=by
    show lb l t (sA l e)≠lb l t (sB l e)
    rcases hsym with ⟨s1,s2⟩ | ⟨s1,s2⟩
    ·rw [s1,s2];exact hab
    ·rw [s1,s2];exact hab.symm
   have hl:(X++a::Y).length=(X++Y).length+1:=by simp only [qC,qG];omega
   rw [SQ he ht hE (List.perm_middle (l₁:=E1) (l₂:=E2) (a:=e)),hl,QeU he (t:=t) (E:=E1++E2) (e:=e) (X++Y).length,if_pos hj]
   omega
  ·-- no street leads out of K
   have hno:∀e∈E,(lb l t (sA l e)∈K∧lb l t (sB l e)∈K)∨(lb l t (sA l e)∉K∧lb l t (sB l e)∉K∧lb l t (sA l e)=lb l t (sB l e)):=fun e hm=>by
    by_cases c1:lb l t (sA l e)∈K
    ·by_cases c2:lb l t (sB l e)∈K
     ·exact .inl ⟨c1,c2⟩
     ·exact absurd ⟨e,hm,.inl ⟨c1,c2⟩⟩ hx
    ·by_cases c2:lb l t (sB l e)∈K
     ·exact absurd ⟨e,hm,.inr ⟨c1,c2⟩⟩ hx
     ·obtain ⟨h1,h2⟩:=lbr e hm
      exact .inr ⟨c1,c2,hC2 _ _ h1 h2 c1 c2 (hC1 e hm)⟩
   match K,hn,hK,hno with
   | [],_,_,_ =>
    have:cnt l t E 0=1:=Gq (by simp [fo]) E fun F hF=>decide_eq_false fun h=>hF (List.length_eq_zero_iff.1 h.2)
    rw [jN,this];rfl
   | k::K,hn,hK,hno =>
    have h0:cnt l t E (k::K).length=0:=Jx fun F hF=>QaN he ht (fun x hx=>hE x (hF.subset hx)) hn hK (by simp) fun e hm=>by
     rcases hno e (hF.subset hm) with h | h
     ·exact .inl h
     ·exact .inr h.2.2
    rw [h0]
    have hz:∀y,(k::K).foldr (fun x s=>Lp l t E x y+s) 0=0:=fun y=>Dx (k::K) y E fun e hm=>by
     rw [Qou,QeV hn,QeV hn]
     rcases hno e hm with ⟨h1,h2⟩ | ⟨h1,h2,_⟩
     ·rw [if_pos h1,if_pos h2];rfl
     ·rw [if_neg h1,if_neg h2];rfl
    have h1:=Gn (KU (k::K)) (Uh (k::K)) (Lp l t E k) (K.map (Lp l t E)) (K.map (Lp l t E)) fun r hr=>hr
    rw [jQ,← h1]
    have h2:det (k::K) ((K.map (Lp l t E)).foldr (fun r y=>ax y 1 r) (Lp l t E k)::K.map (Lp l t E))=det (k::K) ([]++(fun _=>0)::K.map (Lp l t E)):=Ci ⟨fun y _=>by
     rw [QeW,List.foldr_map]
     have:=hz y
     rw [qN] at this
     rw [this];simp,Cg.refl ..⟩
    rw [h2,zero_row (KU (k::K))];rfl
end Go.Proofs.Ytiejmoglooaalaa
end
