/- A part of the proof. -/
import Derived.Test.YtiejmoglooaalaaP3C
set_option linter.unusedVariables false
set_option linter.unusedSimpArgs false
set_option linter.unnecessarySimpa false
open Go.IntKind renaming i64 → qA
open Int renaming toNat_natCast → qB, emod_nonneg → qF, emod_lt_of_pos → qG, add_zero → qK, eq_ofNat_of_zero_le → qM, tmod_eq_emod_of_nonneg → qW
open List renaming length_map → qC, getD → qD, range → qH, length_take → qI, map_append → qJ, replicate → qN, map_cons → qO, append_nil → qP, dropLast → qQ, mem_of_mem_take → qR, map_map → qS, length_append → qT, getElem?_take_of_lt → qV, range_succ → qX, getElem?_eq_getElem → qY, getElem_take → jA, take_of_length_le → jE, getElem?_append_right → jG, mem_cons_self → jH, map_nil → jI, take_zero → jJ, ext_getElem → jN, getElem_map → jP, getElem_range → jQ, length_singleton → jU, getElem?_replicate → jV, eq_of_mem_replicate → jW, set_eq_of_length_le → jX
open Nat renaming le_refl → qE, zero_le → qL, zero_add → qZ
open Bool renaming and_self → qU
section
open Go Go.HL Go.HL.Dt
namespace Go.Proofs.Ytiejmoglooaalaa
set_option linter.unusedSectionVars false
open Go.Proofs.Try renaming prog → Tp
open Go.HL.HV renaming undef → Ud
section
variable {F:FuncId→Option (List HV→Option HV)} {n:Int} {l:List St} {bb ab:Nat} {w p:Int} {H:Heap} {us1 g1 us2 g2:List Int}
theorem Qry:Try.f65.results.toList=[.tmp 10]:=by kernel_rfl
structure SgF (F:FuncId→Option (List HV→Option HV)):Prop where
 h55:F 55=none
 h65:F 65=none
 h86:F 86=none
 h87:F 87=none
 h45:F 45=some Xw
theorem Qhv (hF:SgF F) (hp:1<p∧p≤2147483647) (hn:0≤n∧n≤16) (hl:l.length≤1000) (he:Jm l=true)
  (hb1:H[bb]?=some (bU us1)) (hU1:Up us1 g1) (hb2:H[ab]?=some (bU us2)) (hU2:Up us2 g2) (hok:Ok H) :
  ∃H',ClF F 65 [Qt n l,.ptr bb 0 0 1,.ptr ab 0 0 1,.int .i64 w,.int .i64 p] H (.int .i64 (spK p g1 g2 w l n.toNat n.toNat)) H'∧Pre H H'∧Ok H':=by
 have nv:some (Wt (.agg [.int .i64 n,.imm .arg 3 (l.map Qa)]) H)=some (.ptr H.length 0 0 1,H++[bN n l]):=rfl
 have nv2:some (Wt (.int .i64 p) (H++[bN n l]))=some (.ptr (H.length+1) 0 0 1,H++[bN n l,b1 p]):=by
  have:(H++[bN n l]).length=H.length+1:=by simp
  simp only [Wt,this,List.append_assoc];rfl
 have s1:=Qm6 (F:=F) 0 n (l.map Qa) bb ab w p H 0 0 nv nv2
 generalize hG:H++[bN n l,b1 p]=G at *
 have hnb:G[H.length]?=some (bN n l):=by rw [← hG,jG (by omega),Nat.sub_self];rfl
 have hpb:G[H.length+1]?=some (b1 p):=by rw [← hG,jG (by omega),show H.length+1-H.length=1 by omega];rfl
 have hpre:Pre H G:=by rw [← hG];exact Pre.app ..
 have hokG:Ok G:=by
  rw [← hG]
  refine hok.app (by show max 0 (max 0 0)≤_;omega) (QA ?_ (Q3 [p]))
  have:=Vw n l
  simp only [Qw,sameL,this,beq_self_eq_true,qU]
 have s2:=Qm7 (F:=F) 0 n (l.map Qa) bb ab w p G H.length (H.length+1)
 have s3:=Qm8 (F:=F) 0 n (l.map Qa) bb ab w p G H.length (H.length+1) 1 (Y1 hnb)
 obtain ⟨x,E',H',s4,rfl,rfl,hp2,hok2⟩:=W2 (pol':=plF F) (f:=65) (b:=sn 116 B65) (c:=sn 58 B65)
  (I:=fun k e H'=>e=(QW (Qt n l) (.q bb) (.q ab) (.i w) (.i p) (.ptr H.length 0 0 1) (.q (H.length+1)) (.i 0) (.i (spK p g1 g2 w l n.toNat k)) Ud Ud Ud Ud Ud Ud Ud Ud Ud Ud Ud (.i n) (.i (k:Int)) Ud Ud Ud Ud Ud Ud Ud)∧Pre G H'∧Ok H')
  (Q:=fun x E' H'=>x=.exit 0∧E'=(QW (Qt n l) (.q bb) (.q ab) (.i w) (.i p) (.ptr H.length 0 0 1) (.q (H.length+1)) (.i 0) (.i (spK p g1 g2 w l n.toNat n.toNat)) Ud Ud Ud Ud Ud Ud Ud Ud Ud Ud Ud (.i n) (.i ((n.toNat:Nat):Int)) Ud Ud Ud Ud Ud Ud Ud)∧Pre G H'∧Ok H') n.toNat
  (by
   rintro k hk e H' ⟨rfl,hP,hO⟩
   obtain ⟨E0,H1,r,e1,g1',g2'⟩:=Qfd (F:=F) (H:=H') (w:=w) hF.h55 hF.h86 hF.h87 hF.h45 hp hn hl he (hP.get (hpre.get hb1)) hU1 (hP.get (hpre.get hb2)) hU2 (hP.get hnb) (hP.get hpb) hO (top:=k) (by omega)
   refine ⟨E0,H1,r,e1,?_,g2'.gc _ _⟩
   exact (hP.trans g1').gc hP.ln _)
  (by
   rintro e H' ⟨rfl,hP,hO⟩
   have t1:=Qna (F:=F) 0 n (l.map Qa) bb ab w p H' H.length (H.length+1) (spK p g1 g2 w l n.toNat n.toNat) n.toNat (by omega)
   have t2:=QgZ (F:=F) 0 n (l.map Qa) bb ab w p H' H.length (H.length+1) (spK p g1 g2 w l n.toNat n.toNat) n.toNat
   exact ⟨_,_,_,sq (t1) (sqo (t2) (c:=sn 233 B65) (b:=sn 467 B65)) (c:=sn 116 B65),by simp,rfl,rfl,hP,hO⟩)
  (by kernel_rfl) (by rintro k e H' ⟨rfl,_⟩;kernel_rfl) (e:=(QW (Qt n l) (.q bb) (.q ab) (.i w) (.i p) (.ptr H.length 0 0 1) (.q (H.length+1)) (.i 0) (.i (1)) Ud Ud Ud Ud Ud Ud Ud Ud Ud Ud Ud (.i n) (.i (0:Int)) Ud Ud Ud Ud Ud Ud Ud)) (H:=G) ⟨rfl,Pre.refl G,hokG⟩
 have s5:=QnD (F:=F) 0 n (l.map Qa) bb ab w p H' H.length (H.length+1) (spK p g1 g2 w l n.toNat n.toNat) (y25:=.i n) (y26:=.i (n.toNat:Int))
 have h:=CallsTo.shared (P:=Tp) (pol:=plF F) (g:=65) (fn:=Try.f65) (cd:=B65) (args:=[Qt n l,.ptr bb 0 0 1,.ptr ab 0 0 1,.int .i64 w,.int .i64 p]) (v:=.int .i64 (spK p g1 g2 w l n.toNat n.toNat)) hF.h65 (by kernel_rfl) (by kernel_rfl) (by kernel_rfl) (sq (s1) (sq (s2) (sq (sq (s3) (bke (c:=sn 29 B65) (s4)) (c:=sn 14 B65)) (s5) (c:=sn 7 B65)) (c:=sn 3 B65)) (c:=B65)) (by kernel_rfl) (by simp) (by simp only [Qc,Qry];rfl)
 exact ⟨_,h,(hpre.trans hp2).gc (qE _) _,hok2.gc _ _⟩
end
def smF (p:Int) (n:Nat) (l:List St):Nat→Int×Nat
 | 0=>(1,0)
 | i+1=>if i+1<(Qg l).length∧wOf l ((Qg l).getD (i+1) 0)=wOf l ((Qg l).getD i 0) then smF p n l i
  else ((smF p n l i).1*spK p (QB l ((Qg l).take (smF p n l i).2)) (QB l ((Qg l).take (i+1))) (wOf l ((Qg l).getD i 0)) l n n%p,i+1)
theorem CA {p:Int} (hp:1<p) (n:Nat) (l:List St):∀i,0≤(smF p n l i).1∧(smF p n l i).1<p
 | 0=>by rw [smF];exact ⟨by omega,hp⟩
 | i+1=>by
  rw [smF]
  split
  ·exact CA hp n l i
  ·exact ⟨qF _ (by omega),qG _ (by omega)⟩
def smT (p:Int) (n:Int) (l:List St):Int:=(smF p n.toNat l (Qg l).length).1
def smP (n:Int) (l:List St) (p:Int):Prop:=(0≤n∧n≤16)∧Jm l=true∧l.length≤900∧1<p∧p≤2147483647
instance (n:Int) (l:List St) (p:Int):Decidable (smP n l p):=by unfold smP;infer_instance
def DI:List HV→Option HV:=f2 kN kI fun q p=>if smP q.1 q.2 p then some (.int .i64 (smT p q.1 q.2)) else none
def ZG:FuncId→Option (List HV→Option HV):=fun g=>if g==54 then some VW else if g==45 then some Xw else none
theorem Qhw (n:Nat):Ql Tp (Qs Tp (plF ZG) n):=Qz _ (fun g f h=>by
 unfold ZG at h
 split at h
 ·rename_i hg;cases h;rw [eq_of_beq hg];exact Xt
 split at h
 ·rename_i hg;cases h;rw [eq_of_beq hg];exact QiJ
 ·cases h) n
theorem QoL:SgF ZG:=⟨by kernel_rfl,by kernel_rfl,by kernel_rfl,by kernel_rfl,by kernel_rfl⟩
theorem Qrz:Try.f44.results.toList=[.tmp 4]:=by kernel_rfl
theorem Qhx {H:Heap} {b base r:Nat} {B:Blk} (hb:b<max base r) (h:H[b]?=some B):(gc base r H)[b]?=some B:=by
 unfold gc
 rw [qV (by omega)];exact h
theorem Qcg (us:List Int):Qw [bU us] [bU us]=true:=by
 simp only [bU,Qw,sameL,same,WW Vv,beq_self_eq_true,qU]
theorem Uc (n:Int) (l:List St):Qw [bN n l] [bN n l]=true:=by
 have:=Vw n l
 simp only [bN,Qw,sameL,this,beq_self_eq_true,qU]
theorem S8:QP Tp 44 DI:=by
 refine Qn (pol:=plF ZG) (fn:=Try.f44) (cd:=B44) Qh Qhw (by kernel_rfl) (by kernel_rfl) (Zh ZG _ _ (by kernel_rfl)) (by kernel_rfl) ?_
 intro args res h
 obtain ⟨⟨n,l⟩,p,rfl,hq⟩:=Zc h
 simp only at hq
 split at hq
 case isFalse=>cases hq
 rename_i hc
 obtain ⟨hn,he,hl,hp⟩:=hc
 cases hq
 have hol:=Zw l
 have hoi:∀k∈Qg l,0≤k∧k<(l.length:Int):=fun k hk=>ordT_mem.1 hk
 have a:=QmO (F:=ZG) 0 n (l.map Qa) p
 have b:=QmP (F:=ZG) 0 n (l.map Qa) p [bN n l]
 obtain ⟨N0,c53⟩:=CallsTo.from (Xs (F:=ZG) (by kernel_rfl) [bN n l] (by show max 0 0≤2;decide))
 have c:=QmQ (F:=ZG) N0 n (l.map Qa) p [bN n l] 1 c53
 have c54:=at1 (pol':=plF ZG) (g:=54) (c1:=kN) (f:=fun p=>if p.2.length≤900 then some (.own 1 ((Qg p.2).map Qb)) else none) (H:=[bN n l,bU (Qf 16)]) (by kernel_rfl) (ShN _ n l) (if_pos hl)
 rw [Wz] at c54
 have d:=QmR (F:=ZG) 0 n (l.map Qa) p [bN n l,bU (Qf 16)] 1 2 (Qg l).length (KL rfl) c54
 obtain ⟨G,hG⟩:∃G:Heap,G=[bN n l,bU (Qf 16),bI (Qg l)]:=⟨_,rfl⟩
 have e:=QmS (F:=ZG) 0 n (l.map Qa) p G 1 1 2 (Qg l).length
 have hokG:Ok G:=by rw [hG];exact ⟨by show max 0 (max 0 (max 0 0))≤3;decide,QA (Uc n l) (QA (Qcg _) (Q3 _))⟩
 have hlab0:QB l []=Qf 16:=rfl
 obtain ⟨x,E',H',r,rfl,⟨vb,rfl⟩,hok'⟩:=W2 (pol':=plF ZG) (f:=44) (b:=sn 500 B44) (c:=sn 250 B44)
  (I:=fun i e H'=>∃vb us,e=(VD (Qt n l) (.i p) (.q 0) (.i 0) (.i ((smF p n.toNat l i).1)) (.q vb) (.sl 2 0 (Qg l).length none (Qg l).length 1) Ud Ud Ud Ud (.sl 2 0 (Qg l).length none (Qg l).length 1) (.i (((Qg l).length:Nat):Int)) (.i (i:Int)))∧Pre G H'∧Ok H'∧H'[vb]?=some (bU us)∧Up us (QB l ((Qg l).take (smF p n.toNat l i).2)))
  (Q:=fun x E' H'=>x=.exit 0∧(∃vb,E'=(VD (Qt n l) (.i p) (.q 0) (.i 0) (.i ((smF p n.toNat l (Qg l).length).1)) (.q vb) (.sl 2 0 (Qg l).length none (Qg l).length 1) Ud Ud Ud Ud (.sl 2 0 (Qg l).length none (Qg l).length 1) (.i (((Qg l).length:Nat):Int)) (.i (((Qg l).length:Nat):Int))))∧Ok H') (Qg l).length
  (by
   rintro i hi e H' ⟨vb,us,rfl,hP,hO,hvb,hU⟩
   have hrg:=CA hp.1 n.toNat l i
   have hki:=hoi _ (Qo 0 hi)
   have bn:H'[0]?=some (bN n l):=hP.get (by rw [hG];rfl)
   have bo:H'[2]?=some (bI (Qg l)):=hP.get (by rw [hG];rfl)
   have wi:qA.wrap ((i:Int)+1)=((i+1:Nat):Int):=by rw [QI (by omega) (by omega)];omega
   have gk:∀{k:Int},0≤k∧k<(l.length:Int)→ZI Tp 22 (.imm .arg 3 (l.map Qa)) (.int .i64 k)=some (.vptr (Qa (l.getD k.toNat (0,0,0)))):=fun {k} hk=>by
    have:=gs (l:=l) (y:=k.toNat) (by omega)
    rwa [show ((k.toNat:Nat):Int)=k by omega] at this
   have s1:=QmT (F:=ZG) 0 n (l.map Qa) p H' (smF p n.toNat l i).1 vb 2 (Qg l).length i (by omega)
   have s2:=QgW (F:=ZG) 0 n (l.map Qa) p H' (smF p n.toNat l i).1 vb 2 (Qg l).length i
   have s3:=QmV (F:=ZG) 0 n (l.map Qa) p H' (smF p n.toNat l i).1 vb 2 (Qg l).length i ((Qg l).getD i 0) (ZT u24 z3 hi) (QR bo hi)
   have s4:=QmW (F:=ZG) 0 n (l.map Qa) p H' (smF p n.toNat l i).1 vb 2 (Qg l).length i ((Qg l).getD i 0) _ _ _ (J6 bn) (gk hki)
   by_cases c:i+1<(Qg l).length∧wOf l ((Qg l).getD (i+1) 0)=wOf l ((Qg l).getD i 0)
   ·have hk2:=hoi _ (Qo 0 c.1)
    have s5:=QmX (F:=ZG) 0 n (l.map Qa) p H' (smF p n.toNat l i).1 vb 2 (Qg l).length i ((Qg l).getD i 0) (wOf l ((Qg l).getD i 0)) ((Qg l).getD (i+1) 0) _ _ _ (by rw [wi];omega) (J6 bn) (by rw [wi,qB];exact ZT u24 z3 c.1) (by rw [wi,qB];exact QR bo c.1) (gk hk2) c.2
    have s6:=QeW (F:=ZG) 0 n (l.map Qa) p H' (smF p n.toNat l i).1 vb 2 (Qg l).length i (y8:=.i (i:Int)) (y9:=.i ((Qg l).getD i 0)) (y10:=.i (wOf l ((Qg l).getD i 0)))
    rw [wi] at s6
    have e1:smF p n.toNat l (i+1)=smF p n.toNat l i:=by rw [smF,if_pos c]
    refine ⟨_,_,sq (s1) (sq (s2) (sq (bke (c:=sn 4006 B44) (sq (s3) (sq (s4) (sqo (s5) (c:=sn 32051 B44) (b:=sn 64103 B44)) (c:=sn 16025 B44)) (c:=sn 8012 B44))) (s6) (c:=sn 2003 B44)) (c:=sn 1001 B44)) (c:=sn 500 B44),vb,us,?_,?_⟩
    ·rw [e1];kernel_rfl
    ·rw [e1,QC _ rfl];exact ⟨hP,hO,hvb,hU⟩
   ·have hti:∀k∈(Qg l).take (i+1),0≤k∧k<(l.length:Int):=fun k hk=>hoi k (qR hk)
    have htl:((Qg l).take (i+1)).length=i+1:=by rw [qI];omega
    have s5:RT (plF ZG) 44 (sn 64102 B44) ((VD (Qt n l) (.i p) (.q 0) (.i 0) (.i ((smF p n.toNat l i).1)) (.q vb) (.sl 2 0 (Qg l).length none (Qg l).length 1) (.i (i:Int)) (.i ((Qg l).getD i 0)) (.i (wOf l ((Qg l).getD i 0))) Ud (.sl 2 0 (Qg l).length none (Qg l).length 1) (.i (((Qg l).length:Nat):Int)) (.i (i:Int)))) H' .normal ((VD (Qt n l) (.i p) (.q 0) (.i 0) (.i ((smF p n.toNat l i).1)) (.q vb) (.sl 2 0 (Qg l).length none (Qg l).length 1) (.i (i:Int)) (.i ((Qg l).getD i 0)) (.i (wOf l ((Qg l).getD i 0))) Ud (.sl 2 0 (Qg l).length none (Qg l).length 1) (.i (((Qg l).length:Nat):Int)) (.i (i:Int)))) H':=by
     by_cases c1:i+1<(Qg l).length
     ·have hk2:=hoi _ (Qo 0 c1)
      exact QmY (F:=ZG) 0 n (l.map Qa) p H' (smF p n.toNat l i).1 vb 2 (Qg l).length i ((Qg l).getD i 0) (wOf l ((Qg l).getD i 0)) ((Qg l).getD (i+1) 0) _ _ _ (by rw [wi];omega) (J6 bn) (by rw [wi,qB];exact ZT u24 z3 c1) (by rw [wi,qB];exact QR bo c1) (gk hk2) (fun h=>c ⟨c1,h⟩)
     ·exact QmZ (F:=ZG) 0 n (l.map Qa) p H' (smF p n.toNat l i).1 vb 2 (Qg l).length i ((Qg l).getD i 0) (wOf l ((Qg l).getD i 0)) 0 0 0 0 (by rw [wi];omega)
    have jc:=Gj (F:=ZG) (by kernel_rfl) (by kernel_rfl) (by kernel_rfl) (by kernel_rfl) (n:=n) he hti (by omega) hO.mx (cap:=none) bo (o:=Qg l) (fun j hj=>by
     rw [htl] at hj
     exact ⟨by omega,(VY (by omega)).symm⟩)
    rw [htl] at jc
    obtain ⟨N1,k1⟩:=CallsTo.from jc
    have sl:W6 Tp 24 (.sl 2 0 (Qg l).length none (Qg l).length 1) none (some (.int .i64 ((i+1:Nat):Int))) none=some (.sl 2 0 (i+1) none (Qg l).length 1):=by
     simp only [W6,JG,u24,z3]
     rw [if_pos (by omega:(0:Int)≤((i+1:Nat):Int))]
     simp only [qB]
     simp
     omega
    have s6:=Qm0 (F:=ZG) N1 n (l.map Qa) p H' (smF p n.toNat l i).1 vb 2 (Qg l).length i ((Qg l).getD i 0) (wOf l ((Qg l).getD i 0)) _ (H'.length+1) (KL bn) (by rw [wi,qB];exact sl) (by rw [wi,qB];exact k1)
    have hUp:=Jt he hti
    have hO2:Ok (H'++[bN n l,bU (ksT l ((Qg l).take (i+1))).1]):=hO.app (by show max 0 (max 0 0)≤_;omega) (QA (Uc n l) (Qcg _))
    have hab:(H'++[bN n l,bU (ksT l ((Qg l).take (i+1))).1])[H'.length+1]?=some (bU (ksT l ((Qg l).take (i+1))).1):=Qej ..
    obtain ⟨H2,k2,hP2,hO3⟩:=Qhv (F:=ZG) (w:=wOf l ((Qg l).getD i 0)) QoL hp hn (by omega) he (Wb hvb) hU hab hUp hO2
    obtain ⟨N2,k2⟩:=CallsTo.from k2
    have hlab:(ksT l ((Qg l).take (i+1))).2.1=QB l ((Qg l).take (i+1)):=rfl
    rw [hlab] at k2
    have hx:=Cz hp.1 (QB l ((Qg l).take (smF p n.toNat l i).2)) (QB l ((Qg l).take (i+1))) (wOf l ((Qg l).getD i 0)) l n.toNat n.toNat
    have s7:=Qm1 (F:=ZG) N2 n (l.map Qa) p (H'++[bN n l,bU (ksT l ((Qg l).take (i+1))).1]) (smF p n.toNat l i).1 vb 2 (Qg l).length i ((Qg l).getD i 0) (wOf l ((Qg l).getD i 0)) _ (H'.length+1) (KL (Wb bn)) k2 (KZ (by omega))
    rw [DP (by omega) hrg.1 hrg.2 hx.1 hx.2 hp.2] at s7
    have e1:smF p n.toNat l (i+1)=((smF p n.toNat l i).1*spK p (QB l ((Qg l).take (smF p n.toNat l i).2)) (QB l ((Qg l).take (i+1))) (wOf l ((Qg l).getD i 0)) l n.toNat n.toNat%p,i+1):=by rw [smF,if_neg c]
    generalize (smF p n.toNat l i).1*spK p (QB l ((Qg l).take (smF p n.toNat l i).2)) (QB l ((Qg l).take (i+1))) (wOf l ((Qg l).getD i 0)) l n.toNat n.toNat%p=u' at *
    have s8:=QeW (F:=ZG) 0 n (l.map Qa) p H2 u' (H'.length+1) 2 (Qg l).length i (y8:=.i (i:Int)) (y9:=.i ((Qg l).getD i 0)) (y10:=.i (wOf l ((Qg l).getD i 0))) (y11:=.q (H'.length+1))
    rw [wi] at s8
    have hP3:Pre H' H2:=(Pre.app ..).trans hP2
    have key:∀E1,E1=(VD (Qt n l) (.i p) (.q 0) (.i 0) (.i (u')) (.q (H'.length+1)) (.sl 2 0 (Qg l).length none (Qg l).length 1) Ud Ud Ud Ud (.sl 2 0 (Qg l).length none (Qg l).length 1) (.i (((Qg l).length:Nat):Int)) (.i ((i+1:Nat):Int)))→Pre G (gc H'.length (Wc E1) H2)∧Ok (gc H'.length (Wc E1) H2)∧(gc H'.length (Wc E1) H2)[H'.length+1]?=some (bU (ksT l ((Qg l).take (i+1))).1):=by
     rintro _ rfl
     refine ⟨(hP.trans hP3).gc hP.ln _,hO3.gc _ _,Qhx ?_ (hP2.get hab)⟩
     have:H'.length+1<Wc ((VD (Qt n l) (.i p) (.q 0) (.i 0) (.i (u')) (.q (H'.length+1)) (.sl 2 0 (Qg l).length none (Qg l).length 1) Ud Ud Ud Ud (.sl 2 0 (Qg l).length none (Qg l).length 1) (.i (((Qg l).length:Nat):Int)) (.i ((i+1:Nat):Int)))):=by
      simp only [Wc,bnd,bndL,Qt]
      omega
     omega
    have el:Qy (plF ZG) 44 (sn 500 B44) ((VD (Qt n l) (.i p) (.q 0) (.i 0) (.i (u')) (.q (H'.length+1)) (.sl 2 0 (Qg l).length none (Qg l).length 1) (.i (i:Int)) (.i ((Qg l).getD i 0)) (.i (wOf l ((Qg l).getD i 0))) (.q (H'.length+1)) (.sl 2 0 (Qg l).length none (Qg l).length 1) (.i (((Qg l).length:Nat):Int)) (.i ((i+1:Nat):Int))))=(VD (Qt n l) (.i p) (.q 0) (.i 0) (.i (u')) (.q (H'.length+1)) (.sl 2 0 (Qg l).length none (Qg l).length 1) Ud Ud Ud Ud (.sl 2 0 (Qg l).length none (Qg l).length 1) (.i (((Qg l).length:Nat):Int)) (.i ((i+1:Nat):Int))):=by kernel_rfl
    obtain ⟨q1,q2,q3⟩:=key _ el
    refine ⟨_,_,sq (s1) (sq (s2) (sq (RunsTo.block_normal (i:=1) (c:=sn 4006 B44) (sq (s3) (sq (s4) (sq (s5) (sq (s6) (s7) (c:=sn 64103 B44)) (c:=sn 32051 B44)) (c:=sn 16025 B44)) (c:=sn 8012 B44)) (by kernel_rfl)) (s8) (c:=sn 2003 B44)) (c:=sn 1001 B44)) (c:=sn 500 B44),H'.length+1,_,?_,q1,q2,q3,?_⟩
    ·rw [e1];exact el
    ·rw [e1];exact hUp)
  (by
   rintro e H' ⟨vb,us,rfl,hP,hO,hvb,hU⟩
   have t1:=QmU (F:=ZG) 0 n (l.map Qa) p H' (smF p n.toNat l (Qg l).length).1 vb 2 (Qg l).length (Qg l).length (by omega)
   have t2:=QgX (F:=ZG) 0 n (l.map Qa) p H' (smF p n.toNat l (Qg l).length).1 vb 2 (Qg l).length (Qg l).length
   exact ⟨_,_,_,sq (t1) (sqo (t2) (c:=sn 1001 B44) (b:=sn 2003 B44)) (c:=sn 500 B44),by simp,rfl,⟨vb,rfl⟩,hO⟩)
  (by kernel_rfl) (by rintro k e H' ⟨vb,us,rfl,_⟩;kernel_rfl) (e:=(VD (Qt n l) (.i p) (.q 0) (.i 0) (.i (1)) (.q 1) (.sl 2 0 (Qg l).length none (Qg l).length 1) Ud Ud Ud Ud (.sl 2 0 (Qg l).length none (Qg l).length 1) (.i (((Qg l).length:Nat):Int)) (.i (0:Int)))) (H:=G) ⟨1,Qf 16,rfl,Pre.refl G,hokG,by rw [hG];rfl,by rw [smF];exact Up.start⟩
 have z:=Qm2 (F:=ZG) 0 n (l.map Qa) p H' (smF p n.toNat l (Qg l).length).1 vb 2 (Qg l).length (y16:=(.sl 2 0 (Qg l).length none (Qg l).length 1)) (y17:=.i ((Qg l).length:Int)) (y18:=.i ((Qg l).length:Int))
 rw [hG] at e r
 refine ⟨_,_,_,.int .i64 (smF p n.toNat l (Qg l).length).1,sq (a) (sq (b) (sq (c) (sq (d) (sq (sq (e) (bke (c:=sn 125 B44) (r)) (c:=sn 62 B44)) (z) (c:=sn 31 B44)) (c:=sn 15 B44)) (c:=sn 7 B44)) (c:=sn 3 B44)) (c:=B44),by simp,by simp only [Qc,Qrz];rfl,?_⟩
 rfl
end Go.Proofs.Ytiejmoglooaalaa
end
section
open Go Go.HL
namespace Go.Proofs.Ytiejmoglooaalaa
set_option linter.unusedSectionVars false
open Go.Proofs.Try renaming prog → Tp
open Go.HL.HV renaming undef → Ud
theorem Qc5 {F:FuncId→Option (List HV→Option HV)} (h41:F 41=none) {H:Heap} {db:Nat} {l:List Int} (hb:H[db]?=some (bI l)) (hn:l.length≤1000000) :
  ∃l',ClF F 41 [.sl db 0 l.length none l.length 1] H (.tuple []) (H.set db (bI l'))∧l'.Perm l∧∀i j,i<j→j<l'.length→l'.getD i 0≤l'.getD j 0:=by
 refine ⟨srt l,⟨1,fun k hk=>?_⟩,QdH l,fun i j hij hj=>?_⟩
 ·obtain ⟨k,rfl⟩:∃m,k=m+1:=⟨k-1,by omega⟩
  rw [Ga (pol:=plF F) (g:=41) (F:=D8) h41 rfl]
  unfold D8
  simp only [hb,Ce]
  rw [if_pos ⟨trivial,trivial,hn⟩];rfl
 ·rw [QD hj,QD (Nat.lt_trans hij hj)]
  exact List.pairwise_iff_getElem.1 (QdI l) i j _ _ hij
theorem Qch:∀{a b:List Int},a.Pairwise (· < ·)→b.Pairwise (· < ·)→(∀x,x∈a↔x∈b)→a=b
 | [],b,_,_,h=>by
  have:b=[]:=List.eq_nil_iff_forall_not_mem.2 fun x hx=>by cases (h x).2 hx
  rw [this]
 | x::a,[],_,_,h=>by cases (h x).1 (jH ..)
 | x::a,y::b,ha,hb,h=>by
  obtain ⟨a1,a2⟩:=List.pairwise_cons.1 ha
  obtain ⟨b1,b2⟩:=List.pairwise_cons.1 hb
  have e:x=y:=by
   rcases List.mem_cons.1 ((h x).1 (jH ..)) with c | c
   ·exact c
   ·rcases List.mem_cons.1 ((h y).2 (jH ..)) with d | d
    ·exact d.symm
    ·have:=a1 _ d
     have:=b1 _ c
     omega
  subst e
  refine congrArg (x::·) (Qch a2 b2 fun z=>?_)
  constructor
  ·intro hz
   rcases List.mem_cons.1 ((h z).1 (List.mem_cons_of_mem _ hz)) with c | c
   ·have:=a1 _ hz;omega
   ·exact c
  ·intro hz
   rcases List.mem_cons.1 ((h z).2 (List.mem_cons_of_mem _ hz)) with c | c
   ·have:=b1 _ hz;omega
   ·exact c
theorem Qfe {l l':List Int} (hn:l.Nodup) (hp:l'.Perm l) (hs:∀i j,i<j→j<l'.length→l'.getD i 0≤l'.getD j 0):l'.Pairwise (· < ·):=by
 have hn':l'.Nodup:=hp.nodup_iff.2 hn
 refine List.pairwise_iff_getElem.2 fun i j hi hj hij=>?_
 have h1:=hs i j hij hj
 rw [QD hi,QD hj] at h1
 have h2:=List.pairwise_iff_getElem.1 hn' i j hi hj hij
 omega
def trG (n:Int) (l:List St):List Int:=if slE n l=0 then frT l else []
def trW (n:Int) (l:List St):Int:=if slE n l=0 then wgt l (frT l) else 0
def Qci:List HV→Option HV:=f2 kI kS fun n l=>if l.length≤500 then some (.tuple [.own 1 ((trG n l).map Qb),.int .i64 (trW n l),.int .i64 (slE n l)]) else none
theorem Qff:Try.f14.results.toList=[.tmp 4,.tmp 5,.tmp 6]:=by kernel_rfl
def K3:FuncId→Option (List HV→Option HV):=fun g=>if g==52 then some Zv else if g==40 then some Yl else if g==42 then some U2 else none
theorem Qhy (n:Nat):Ql Tp (Qs Tp (plF K3) n):=Qz _ (fun g f h=>by
 unfold K3 at h
 split at h
 ·rename_i hg;cases h;rw [eq_of_beq hg];exact VV
 split at h
 ·rename_i hg;cases h;rw [eq_of_beq hg];exact XS
 split at h
 ·rename_i hg;cases h;rw [eq_of_beq hg];exact Ge
 ·cases h) n
theorem QoM:NwF K3:=⟨by kernel_rfl,by kernel_rfl,by kernel_rfl,by kernel_rfl,by kernel_rfl⟩
theorem S9 (H:Heap) (w e:Int):WS H false (.tuple [.imm .lit 1 [],.int .i64 w,.int .i64 e])=some (.tuple [.own 1 [],.int .i64 w,.int .i64 e]):=by
 simp [WS,QO,cellsOf,Zl,W1,Wk,mapO];rfl
theorem Qfg:QP Tp 14 Qci:=by
 refine Qn (pol:=plF K3) (fn:=Try.f14) (cd:=B14) Qh Qhy (by kernel_rfl) (by kernel_rfl) (Zh K3 _ _ (by kernel_rfl)) (by kernel_rfl) ?_
 intro args res h
 obtain ⟨n,l,rfl,hq⟩:=Zc h
 split at hq
 case isFalse=>cases hq
 rename_i hl
 cases hq
 have a:=Qoe (F:=K3) 0 n (l.map Qa)
 obtain ⟨N0,c39⟩:=CallsTo.from (Cf QoM (H:=[]) (qE _) n (l:=l) (by omega))
 cases hnet:Wh n l with
 | false =>
  rw [hnet] at c39
  have b:=Qog (F:=K3) N0 n (l.map Qa) c39 rfl stN
  have c:=Qg9 (F:=K3) 0 n (l.map Qa) [bN n l]
  refine ⟨_,_,_,.tuple [.imm .lit 1 [],.int .i64 0,.int .i64 2],sq (a) (sq (b) (sqo (c) (c:=sn 7 B14) (b:=sn 15 B14)) (c:=sn 3 B14)) (c:=B14),by simp,by simp only [Qc,Qff];rfl,?_⟩
  have e:slE n l=2:=by rw [slE,if_neg (by rw [hnet];simp)]
  rw [trG,trW,e,if_neg (by decide),if_neg (by decide)];exact S9 _ _ _
 | true =>
  rw [hnet] at c39
  obtain ⟨⟨n1,n2⟩,n3,he,hw⟩:=Qx hnet
  have heB:=Vy he (by omega)
  have hwB:wB l=true:=wB_iff.2 fun s hs=>by have:=hw s hs;omega
  have b:=Qof (F:=K3) N0 n (l.map Qa) c39 rfl stN
  have c:=Qg8 (F:=K3) 0 n (l.map Qa) [bN n l]
  have c40:=at1 (pol':=plF K3) (g:=40) (c1:=kN) (f:=fun p=>if Gk p.1 p.2 then some (.tuple [.own 1 ((Qd p.2).map Qb),.bool (WJ p.1 p.2)]) else none) (H:=[bN n l]) (by kernel_rfl) (ShN _ n l) (if_pos ⟨heB,by show l.length≤900;omega,by show 0≤n;omega,by show n≤1000;omega⟩)
  rw [KK] at c40
  simp only at c40
  by_cases cn:WJ n l=true
  ·rw [cn] at c40
   have d:=Qoh (F:=K3) 0 n (l.map Qa) [bN n l] 1 (Qd l).length (KL rfl) c40
   have e:=Qha (F:=K3) 0 n (l.map Qa) ([bN n l]++[bI (Qd l)]) 1 (Qd l).length
   have hlen:=Dl hnet cn
   obtain ⟨l',cs,hp,hs⟩:=Qc5 (F:=K3) (by kernel_rfl) (H:=[bN n l]++[bI (Qd l)]) (db:=1) (l:=Qd l) rfl (by omega)
   have e1:l'=frT l:=Qch (Qfe (WZ l) hp hs) (KQ l) fun x=>by rw [hp.mem_iff];exact frT_mem.symm
   subst e1
   obtain ⟨N1,c41⟩:=CallsTo.from cs
   have hfl:(frT l).length=(Qd l).length:=Yn l
   have c42:=at2 (pol':=plF K3) (g:=42) (c1:=kN) (c2:=kL) (f:=fun p t=>if inR p.2.length t=true∧wB p.2=true∧t.length≤1000 then some (.int .i64 (wgt p.2 t)) else none) (H:=[bN n l,bI (frT l)]) (v2:=.sl 1 0 (Qd l).length none (Qd l).length 1) (by kernel_rfl) (ShN _ n l) (Zo (l:=frT l) hfl rfl) (if_pos ⟨inR_iff.2 fun k hk=>WG (frT_mem.1 hk),hwB,by show (frT l).length≤1000;omega⟩)
   have z:=Qoj (F:=K3) N1 n (l.map Qa) ([bN n l]++[bI (Qd l)]) 1 (Qd l).length (wgt l (frT l)) c41 (KL rfl) c42
   refine ⟨_,_,_,.tuple [.sl 1 0 (Qd l).length none (Qd l).length 1,.int .i64 (wgt l (frT l)),.int .i64 0],sq (a) (sq (b) (sq (c) (sq (d) (sq (e) (z) (c:=sn 31 B14)) (c:=sn 15 B14)) (c:=sn 7 B14)) (c:=sn 3 B14)) (c:=B14),by simp,by simp only [Qc,Qff];rfl,?_⟩
   have ee:slE n l=0:=by rw [slE,if_pos hnet,if_pos cn]
   rw [trG,trW,ee,if_pos rfl,if_pos rfl]
   exact Qgy (b:=1) rfl hfl _ _
  ·rw [Jl cn] at c40
   have d:=Qoi (F:=K3) 0 n (l.map Qa) [bN n l] 1 (Qd l).length (KL rfl) c40
   have e:=Qhb (F:=K3) 0 n (l.map Qa) ([bN n l]++[bI (Qd l)]) 1 (Qd l).length
   refine ⟨_,_,_,.tuple [.imm .lit 1 [],.int .i64 0,.int .i64 6],sq (a) (sq (b) (sq (c) (sq (d) (sqo (e) (c:=sn 31 B14) (b:=sn 63 B14)) (c:=sn 15 B14)) (c:=sn 7 B14)) (c:=sn 3 B14)) (c:=B14),by simp,by simp only [Qc,Qff];rfl,?_⟩
   have ee:slE n l=6:=by rw [slE,if_pos hnet,if_neg cn]
   rw [trG,trW,ee,if_neg (by decide),if_neg (by decide)];exact S9 _ _ _
end Go.Proofs.Ytiejmoglooaalaa
end
section
open Go Go.HL Go.HL.Dt
namespace Go.Proofs.Ytiejmoglooaalaa
set_option linter.unusedSectionVars false
open Go.Proofs.Try renaming prog → Tp
open Go.HL.HV renaming undef → Ud
def crt (a b:Int):Int:=a+2147483647*((b-a%2147483629+2147483629)%2147483629*pw 18 2147483627 2147483629%2147483629)
theorem QrA {a b:Int} (ha:0≤a∧a<2147483647) (hb:0≤b∧b<2147483629) :
  qA.wrap (a+qA.wrap (2147483647*((qA.wrap ((qA.wrap (qA.wrap (b-a.tmod 2147483629)+2147483629):Int).tmod 2147483629*pw 18 2147483627 2147483629):Int).tmod 2147483629)))=crt a b∧0≤crt a b∧crt a b<2147483647*2147483629:=by
 have e1:a.tmod 2147483629=a%2147483629:=qW ha.1
 rw [e1]
 have r1:0≤a%2147483629∧a%2147483629<2147483629:=⟨qF _ (by omega),qG _ (by omega)⟩
 unfold crt
 generalize a%2147483629=c at *
 rw [WN (n:=b-c) (by omega) (by omega),QI (x:=b-c+2147483629) (by omega) (by omega),qW (by omega:0≤b-c+2147483629)]
 have r2:0≤(b-c+2147483629)%2147483629∧(b-c+2147483629)%2147483629<2147483629:=⟨qF _ (by omega),qG _ (by omega)⟩
 generalize (b-c+2147483629)%2147483629=d at *
 have r3:0≤pw 18 2147483627 2147483629∧pw 18 2147483627 2147483629<2147483629:=⟨qF _ (by omega),qG _ (by omega)⟩
 generalize pw 18 2147483627 2147483629=z at *
 rw [DP (by omega) r2.1 r2.2 r3.1 r3.2 (by omega)]
 have r4:0≤d*z%2147483629∧d*z%2147483629<2147483629:=⟨qF _ (by omega),qG _ (by omega)⟩
 generalize d*z%2147483629=e at *
 rw [QI (x:=2147483647*e) (by omega) (by omega),QI (by omega) (by omega)]
 omega
theorem CB {p:Int} (hp:1<p) (n:Int) (l:List St):0≤smT p n l∧smT p n l<p:=CA hp _ _ _
def ctT (n:Int) (l:List St):Int:=if Wh n l=true then (if WJ n l=true then crt (smT 2147483647 n l) (smT 2147483629 n l) else 0) else 0
def ctE (n:Int) (l:List St):Int:=if Wh n l=true then 0 else 2
def Qcj:List HV→Option HV:=f2 kI kS fun n l=>if l.length≤500 then some (.tuple [.int .i64 (ctT n l),.int .i64 (ctE n l)]) else none
theorem Qfh:Try.f16.results.toList=[.tmp 4,.tmp 5]:=by kernel_rfl
def Ka:FuncId→Option (List HV→Option HV):=fun g=>if g==52 then some Zv else if g==40 then some Yl else if g==44 then some DI else if g==45 then some Xw else none
theorem Qhz (n:Nat):Ql Tp (Qs Tp (plF Ka) n):=Qz _ (fun g f h=>by
 unfold Ka at h
 split at h
 ·rename_i hg;cases h;rw [eq_of_beq hg];exact VV
 split at h
 ·rename_i hg;cases h;rw [eq_of_beq hg];exact XS
 split at h
 ·rename_i hg;cases h;rw [eq_of_beq hg];exact S8
 split at h
 ·rename_i hg;cases h;rw [eq_of_beq hg];exact QiJ
 ·cases h) n
theorem QoN:NwF Ka:=⟨by kernel_rfl,by kernel_rfl,by kernel_rfl,by kernel_rfl,by kernel_rfl⟩
theorem Qfi:QP Tp 16 Qcj:=by
 refine Qn (pol:=plF Ka) (fn:=Try.f16) (cd:=B16) Qh Qhz (by kernel_rfl) (by kernel_rfl) (Zh Ka _ _ (by kernel_rfl)) (by kernel_rfl) ?_
 intro args res h
 obtain ⟨n,l,rfl,hq⟩:=Zc h
 split at hq
 case isFalse=>cases hq
 rename_i hl
 cases hq
 have a:=QmG (F:=Ka) 0 n (l.map Qa)
 obtain ⟨N0,c39⟩:=CallsTo.from (Cf QoN (H:=[]) (qE _) n (l:=l) (by omega))
 cases hnet:Wh n l with
 | false =>
  rw [hnet] at c39
  have b:=QmI (F:=Ka) N0 n (l.map Qa) c39 rfl stN
  have c:=QgT (F:=Ka) 0 n (l.map Qa) [bN n l]
  refine ⟨_,_,_,.tuple [.int .i64 0,.int .i64 2],sq (a) (sq (b) (sqo (c) (c:=sn 7 B16) (b:=sn 15 B16)) (c:=sn 3 B16)) (c:=B16),by simp,by simp only [Qc,Qfh];rfl,?_⟩
  rw [ctT,ctE,if_neg (by rw [hnet];simp),if_neg (by rw [hnet];simp)];rfl
 | true =>
  rw [hnet] at c39
  obtain ⟨⟨n1,n2⟩,n3,he,hw⟩:=Qx hnet
  have heB:=Vy he (by omega)
  have b:=QmH (F:=Ka) N0 n (l.map Qa) c39 rfl stN
  have c:=QgS (F:=Ka) 0 n (l.map Qa) [bN n l]
  have c40:=at1 (pol':=plF Ka) (g:=40) (c1:=kN) (f:=fun p=>if Gk p.1 p.2 then some (.tuple [.own 1 ((Qd p.2).map Qb),.bool (WJ p.1 p.2)]) else none) (H:=[bN n l]) (by kernel_rfl) (ShN _ n l) (if_pos ⟨heB,by show l.length≤900;omega,by show 0≤n;omega,by show n≤1000;omega⟩)
  rw [KK] at c40
  simp only at c40
  by_cases cn:WJ n l=true
  ·rw [cn] at c40
   have d:=QmJ (F:=Ka) 0 n (l.map Qa) [bN n l] 1 (Qd l).length (KL rfl) c40
   have e:=QgU (F:=Ka) 0 n (l.map Qa) ([bN n l]++[bI (Qd l)]) 1 (Qd l).length
   have k1:=at2 (pol':=plF Ka) (g:=44) (c1:=kN) (c2:=kI) (f:=fun q p=>if smP q.1 q.2 p then some (.int .i64 (smT p q.1 q.2)) else none) (H:=[bN n l]++[bI (Qd l)]) (by kernel_rfl) (ShN _ n l) (ShI _ 2147483647) (if_pos ⟨by show 0≤n∧n≤16;omega,heB,by show l.length≤900;omega,by omega⟩)
   have k2:=at2 (pol':=plF Ka) (g:=44) (c1:=kN) (c2:=kI) (f:=fun q p=>if smP q.1 q.2 p then some (.int .i64 (smT p q.1 q.2)) else none) (H:=[bN n l]++[bI (Qd l)]) (by kernel_rfl) (ShN _ n l) (ShI _ 2147483629) (if_pos ⟨by show 0≤n∧n≤16;omega,heB,by show l.length≤900;omega,by omega⟩)
   have s1:=CB (p:=2147483647) (by omega) n l
   have s2:=CB (p:=2147483629) (by omega) n l
   have ld0:QK Tp ([bN n l]++[bI (Qd l)]) 66 (.ptr 0 0 0 1)=some (Qt n l):=KL rfl
   have f:=QmL (F:=Ka) 0 n (l.map Qa) ([bN n l]++[bI (Qd l)]) 1 (Qd l).length (smT 2147483647 n l) (smT 2147483629 n l) ld0 k1 ld0 k2 (Yi ld0 ld0 (Vw n l) (QA (Uc n l) (Q3 _)) (QA (Uc n l) (Q3 _)))
   have k3:=at3 (pol':=plF Ka) (g:=45) (c1:=kI) (c2:=kI) (c3:=kI) (f:=fun a n p=>if S3 a n p then some (.int .i64 (pw a n.toNat p)) else none) (H:=[bN n l]++[bI (Qd l)]) (by kernel_rfl) (ShI _ 18) (ShI _ 2147483627) (ShI _ 2147483629) (if_pos ⟨by omega,by omega,by omega,by omega⟩)
   have cw:=QrA s1 s2
   have g:=QmM (F:=Ka) 0 n (l.map Qa) ([bN n l]++[bI (Qd l)]) (smT 2147483647 n l) (smT 2147483629 n l) (pw 18 2147483627 2147483629) (y9:=.bool true) k3
   have ee:ctT n l=crt (smT 2147483647 n l) (smT 2147483629 n l)∧ctE n l=0:=by rw [ctT,ctE,if_pos hnet,if_pos cn,if_pos hnet];exact ⟨rfl,rfl⟩
   generalize smT 2147483647 n l=x at *
   generalize smT 2147483629 n l=y at *
   have z:=QmN (F:=Ka) 0 n (l.map Qa) ([bN n l]++[bI (Qd l)]) x ((qA.wrap ((qA.wrap (qA.wrap (y-(x:Int).tmod 2147483629)+2147483629):Int).tmod 2147483629*pw 18 2147483627 2147483629):Int).tmod 2147483629) (y9:=.bool true) (y11:=.i y)
   rw [cw.1] at z
   refine ⟨_,_,_,.tuple [.int .i64 (crt x y),.int .i64 0],sq (a) (sq (b) (sq (c) (sq (sq (d) (e) (c:=sn 30 B16)) (sq (f) (sq (g) (z) (c:=sn 63 B16)) (c:=sn 31 B16)) (c:=sn 15 B16)) (c:=sn 7 B16)) (c:=sn 3 B16)) (c:=B16),by simp,by simp only [Qc,Qfh];rfl,?_⟩
   rw [ee.1,ee.2];rfl
  ·rw [Jl cn] at c40
   have d:=QmK (F:=Ka) 0 n (l.map Qa) [bN n l] 1 (Qd l).length (KL rfl) c40
   have e:=QgV (F:=Ka) 0 n (l.map Qa) ([bN n l]++[bI (Qd l)]) 1 (Qd l).length
   refine ⟨_,_,_,.tuple [.int .i64 0,.int .i64 0],sq (a) (sq (b) (sq (c) (sqo (sq (d) (e) (c:=sn 30 B16)) (c:=sn 15 B16) (b:=sn 31 B16)) (c:=sn 7 B16)) (c:=sn 3 B16)) (c:=B16),by simp,by simp only [Qc,Qfh];rfl,?_⟩
   rw [ctT,ctE,if_pos hnet,if_neg cn,if_pos hnet];rfl
theorem cgT {p a b c:Int} (h:p∣a-b) (k:p∣b-c):p∣a-c:=by
 have:=Int.dvd_add h k
 rwa [show a-b+(b-c)=a-c by omega] at this
theorem cgA {p a b c d:Int} (h:p∣a-b) (k:p∣c-d):p∣(a+c)-(b+d):=by
 have:=Int.dvd_add h k
 rwa [show a-b+(c-d)=(a+c)-(b+d) by omega] at this
theorem cgR (p a:Int):p∣a-a:=by rw [Int.sub_self];exact Int.dvd_zero p
theorem cgS {p a b:Int} (h:p∣a-b):p∣b-a:=by
 have:=Int.dvd_neg.2 h
 rwa [show -(a-b)=b-a by omega] at this
theorem Qfj {d d':List Row→Int} {φ:Int→Int} {c:Int} (hd:∀R,d R=d' (R.map fun r z=>r (φ z))):∀(R P:List Row) (s:Int),ex d (φ c) P R s=ex d' c (P.map fun r z=>r (φ z)) (R.map fun r z=>r (φ z)) s
 | [],P,s=>rfl
 | r::R,P,s=>by
  rw [ex,qO,ex,hd,Qfj hd R,qJ,qJ];rfl
theorem CC {φ:Int→Int}:∀(cs:List Int) (R:List Row),det (cs.map φ) R=det cs (R.map fun r z=>r (φ z))
 | [],[]=>rfl
 | [],_::_=>rfl
 | c::cs,R=>by
  rw [qO,det,det]
  exact Qfj (φ:=φ) (c:=c) (fun R=>CC cs R) R [] 1
theorem X6:∀k c:Nat,ZQ c k=(qH k).map fun i=>((c+i:Nat):Int)
 | 0,_=>rfl
 | k+1,c=>by
  rw [ZQ,X6 k (c+1),List.range_succ_eq_map,qO,qS]
  refine congrArg (List.cons (c:Int)) (List.map_congr_left fun i _=>?_)
  show ((c+1+i:Nat):Int)=((c+(i+1):Nat):Int)
  omega
def en (M:List (List Int)) (i j:Nat):Int:=(M.getD i []).getD j 0
theorem Ue (P Q:Prop) [Decidable P] [Decidable Q]:(if P∧Q then (1:Int) else 0)=(if P then 1 else 0)*if Q then 1 else 0:=by
 by_cases a:P <;> by_cases b:Q <;> simp [a,b]
theorem Uf (P Q:Prop) [Decidable P] [Decidable Q]:(if P∧Q then (-1:Int) else 0)=-((if P then 1 else 0)*if Q then 1 else 0):=by
 by_cases a:P <;> by_cases b:Q <;> simp [a,b]
theorem Qck {p:Int} {N:Nat} {M:List (List Int)} (h:Ws p N M) {i j:Nat} (hi:i<N) (hj:j<N) (i0 j0:Nat) (d:Int):p∣en (adM p N i0 j0 d M) i j-(en M i j+if i0=i∧j0=j then d else 0):=by
 unfold adM en
 have hml:=h.1
 by_cases c:i0<N∧j0<N
 ·have hri:=h.2 _ (by rw [ZR (by omega)];exact List.getElem_mem _:M.getD i0 []∈M)
  rw [if_pos c,WA (by omega)]
  by_cases e1:i0=i
  ·subst e1
   rw [if_pos rfl,V3 (by rw [hri.1];exact c.2)]
   by_cases e2:j0=j
   ·subst e2
    rw [if_pos rfl,if_pos ⟨rfl,rfl⟩,DE]
    refine cgT (QU _ p) ?_
    rw [show (M.getD i0 []).getD j0 0+d+p-((M.getD i0 []).getD j0 0+d)=p by omega]
    exact Int.dvd_refl p
   ·rw [if_neg e2,if_neg fun h=>e2 h.2,qK];exact cgR ..
  ·rw [if_neg e1,if_neg fun h=>e1 h.1,qK];exact cgR ..
 ·rw [if_neg c,if_neg fun h=>c ⟨by omega,by omega⟩,qK];exact cgR ..
theorem Qcl:∀{V:List Int} {i:Nat},V.Nodup→i<V.length→WD V (V.getD i 0)=i
 | [],_,_,h=>by simp at h
 | y::V,0,_,_=>by rw [WD];exact if_pos rfl
 | y::V,i+1,hn,h=>by
  obtain ⟨h1,h2⟩:=List.nodup_cons.1 hn
  have hi:i<V.length:=by simpa using h
  have hm:V.getD i 0∈V:=Qo 0 hi
  rw [List.getD_cons_succ,WD,if_neg (fun e=>h1 (by rw [← e];exact hm)),if_pos hm,Qcl h2 hi]
theorem CD {V:List Int} (hn:V.Nodup) {x:Int} (hx:x∈V) {i:Nat} (hi:i<V.length):dl x (V.getD i 0)=if WD V x=i then 1 else 0:=by
 unfold dl
 by_cases c:WD V x=i
 ·rw [if_pos c,if_pos (by rw [← c];exact (S7 hx).symm)]
 ·rw [if_neg c,if_neg fun e=>c (by rw [e];exact Qcl hn hi)]
theorem Qfk {V:List Int} {x:Int} (hx:x∉V) {i:Nat} (hi:i<V.length):dl x (V.getD i 0)=0:=if_neg fun e=>hx (by rw [e];exact Qo 0 hi)
theorem QoO {p:Int} (hp:0<p) {V g1:List Int} {w:Int} {M:List (List Int)} (h:Ws p (V.length-1) M) (hn:V.Nodup) (s:St) (hxy:s.2.2=w→(g1.getD s.1.toNat 0∈V↔g1.getD s.2.1.toNat 0∈V)) {i j:Nat} (hi:i<V.length-1) (hj:j<V.length-1) :
  p∣en (adS p V g1 w M s) i j-(en M i j+if s.2.2=w then (dl (g1.getD s.1.toNat 0) (V.getD i 0)-dl (g1.getD s.2.1.toNat 0) (V.getD i 0))*(dl (g1.getD s.1.toNat 0) (V.getD j 0)-dl (g1.getD s.2.1.toNat 0) (V.getD j 0)) else 0):=by
 unfold adS
 by_cases cw:s.2.2=w
 ·have hm:=hxy cw
  rw [if_pos cw]
  generalize g1.getD s.1.toNat 0=x at *
  generalize g1.getD s.2.1.toNat 0=y at *
  by_cases cx:x∈V
  ·have cy:=hm.1 cx
   rw [CD hn cx (by omega),CD hn cx (by omega),CD hn cy (by omega),CD hn cy (by omega)]
   generalize WD V x=a at *
   generalize WD V y=b at *
   by_cases e:a=b
   ·rw [if_neg fun h=>h.2.2 e,e,Int.sub_self,Int.zero_mul,qK];exact cgR ..
   ·rw [if_pos ⟨cx,cw,e⟩]
    have o1:=J9 hp h a a 1
    have o2:=J9 hp o1 b b 1
    have o3:=J9 hp o2 a b (-1)
    have e1:=Qck h hi hj a a 1
    have e2:=Qck o1 hi hj b b 1
    have e3:=Qck o2 hi hj a b (-1)
    have e4:=Qck o3 hi hj b a (-1)
    refine cgT e4 ?_
    have k3:=cgA e3 (cgR p (if b=i∧a=j then -1 else 0))
    refine cgT k3 ?_
    have k2:=cgA (cgA e2 (cgR p (if a=i∧b=j then -1 else 0))) (cgR p (if b=i∧a=j then -1 else 0))
    refine cgT k2 ?_
    have k1:=cgA (cgA (cgA e1 (cgR p (if b=i∧b=j then 1 else 0))) (cgR p (if a=i∧b=j then -1 else 0))) (cgR p (if b=i∧a=j then -1 else 0))
    refine cgT k1 ?_
    have:en M i j+(if a=i∧a=j then 1 else 0)+(if b=i∧b=j then 1 else 0)+(if a=i∧b=j then -1 else 0)+(if b=i∧a=j then -1 else 0)=en M i j+((if a=i then 1 else 0)-if b=i then 1 else 0)*((if a=j then 1 else 0)-if b=j then 1 else 0):=by
     rw [Ue,Ue,Uf,Uf,Int.sub_mul,Int.mul_sub,Int.mul_sub];omega
    rw [this];exact cgR ..
  ·have cy:y∉V:=fun c=>cx (hm.2 c)
   rw [if_neg fun h=>cx h.1,Qfk cx (by omega),Qfk cy (by omega),Int.sub_self,Int.zero_mul,qK];exact cgR ..
 ·rw [if_neg cw,if_neg fun h=>cw h.2.1,qK];exact cgR ..
section
variable {n:Int} {l:List St} (hnet:Wh n l=true) {P:List Int} (hP:InR l P) {w:Int}
include hnet hP
theorem DJ (k:Nat):ofW l w (Qf (k+1))=ofW l w (Qf k)++if wOf l (k:Int)=w then [(k:Int)] else []:=by
 unfold ofW Qf
 rw [qX,qJ,List.filter_append]
 congr 1
 by_cases c:wOf l (k:Int)=w
 ·rw [if_pos c]
  exact List.filter_eq_self.2 fun x hx=>by
   rw [qO,jI,List.mem_singleton] at hx
   rw [hx];exact decide_eq_true c
 ·rw [if_neg c]
  exact List.filter_eq_nil_iff.2 fun x hx h=>by
   rw [qO,jI,List.mem_singleton] at hx
   rw [hx] at h
   exact c (of_decide_eq_true h)
theorem QiO {p:Int} (hp:0<p) {V:List Int} (hn:V.Nodup) (hV:∀e∈ofW l w (alS l),(lb l P (sA l e)∈V↔lb l P (sB l e)∈V)) {i j:Nat} (hi:i<V.length-1) (hj:j<V.length-1) :
  ∀k,k≤l.length→p∣en ((l.take k).foldl (adS p V (QB l P) w) (zM (V.length-1))) i j-Lp l P (ofW l w (Qf k)) (V.getD i 0) (V.getD j 0)
 | 0,_=>by
  have e1:en (zM (V.length-1)) i j=0:=by simp [en,zM,qD,hi,hj]
  have e2:Lp l P (ofW l w (Qf 0)) (V.getD i 0) (V.getD j 0)=0:=rfl
  rw [jJ,List.foldl_nil,e1,e2];exact cgR ..
 | k+1,hk=>by
  have ih:=QiO hp hn hV hi hj k (by omega)
  have hkl:k<l.length:=by omega
  have hok:Ws p (V.length-1) ((l.take k).foldl (adS p V (QB l P) w) (zM (V.length-1))):=DG hp _ (Qcf hp _)
  rw [List.take_succ_eq_append_getElem hkl,List.foldl_append,DJ hnet hP]
  have hs:l[k]=l.getD ((k:Int)).toNat (0,0,0):=by rw [qB,qD,qY hkl];rfl
  rw [hs]
  have a:=QoO hp hok hn (l.getD ((k:Int)).toNat (0,0,0)) (g1:=QB l P) (w:=w) (fun hw=>hV (k:Int) (of_mem.2 ⟨startT_mem.2 ⟨by omega,by omega⟩,hw⟩)) hi hj
  refine cgT a ?_
  by_cases c:wOf l (k:Int)=w
  ·rw [if_pos c,if_pos (show (l.getD ((k:Int)).toNat (0,0,0)).2.2=w from c),Yp,qP,Int.add_comm (ed l P _ _ _)]
   exact cgA ih (cgR ..)
  ·rw [if_neg c,if_neg (show ¬(l.getD ((k:Int)).toNat (0,0,0)).2.2=w from c),qP,qK]
   exact ih
theorem QhA {p:Nat} (hpr:Pr p) (hp2:2<p) {top:Nat} :
  (p:Int)∣gz (p:Int) (Zx p) ((vtG (QB l P) (QB l (P++ofW l w (alS l))) n.toNat (top:Int)).length-1) ((vtG (QB l P) (QB l (P++ofW l w (alS l))) n.toNat (top:Int)).length-1) 0 1 (mxT p (vtG (QB l P) (QB l (P++ofW l w (alS l))) n.toNat (top:Int)) (QB l P) w l)
   - det (vt l P (ofW l w (alS l)) n.toNat (top:Int)).dropLast ((vt l P (ofW l w (alS l)) n.toNat (top:Int)).dropLast.map (Lp l P (ofW l w (alS l)))):=by
 have hE:=VB l w
 have he:=QG hnet
 have hVe:vtG (QB l P) (QB l (P++ofW l w (alS l))) n.toNat (top:Int)=vt l P (ofW l w (alS l)) n.toNat (top:Int):=rfl
 rw [hVe]
 have hmem:=fun x=>vt_mem (l:=l) (P:=P) (E:=ofW l w (alS l)) (n:=n.toNat) (top:=(top:Int)) (x:=x)
 have hn:=XY l P (ofW l w (alS l)) n.toNat (top:Int)
 have hV:∀e∈ofW l w (alS l),(lb l P (sA l e)∈vt l P (ofW l w (alS l)) n.toNat (top:Int)↔lb l P (sB l e)∈vt l P (ofW l w (alS l)) n.toNat (top:Int)):=fun e hm=>by
  obtain ⟨⟨n1,n2⟩,_⟩:=Qx hnet
  obtain ⟨ea,eb⟩:=Ks he (hE e hm)
  have na:=Kv hnet (hE e hm)
  have la:=WY he hP ea
  have lb':=WY he hP eb
  rw [hmem,hmem,KW hnet hP hE ea,KW hnet hP hE eb,SZ hnet hP hE hm]
  constructor
  ·rintro ⟨_,_,c⟩;exact ⟨by omega,lb'.2.2,c⟩
  ·rintro ⟨_,_,c⟩;exact ⟨by omega,la.2.2,c⟩
 generalize vt l P (ofW l w (alS l)) n.toNat (top:Int)=V at *
 have hp0:(0:Int)<(p:Int):=by omega
 have hinv:∀a:Int,0<a→a<(p:Int)→(a*Zx p a)%(p:Int)=1:=fun a h0 h1=>by
  have:=hpr.invI h0 h1
  have e:((p:Int)-2).toNat=p-2:=by omega
  rw [Zx,e];exact this
 have hok:Ws (p:Int) (V.length-1) (mxT p V (QB l P) w l):=DG hp0 _ (Qcf hp0 _)
 have g:=Qa4 (p:=(p:Int)) (by omega) hinv (N:=V.length-1) (V.length-1) 0 1 (mxT p V (QB l P) w l) (qZ _) hok
 rw [List.drop_zero,Int.one_mul] at g
 refine cgT g ?_
 have hlen:V.dropLast.length=V.length-1:=List.length_dropLast
 have e1:V.dropLast=(ZQ 0 (V.length-1)).map fun z=>V.getD z.toNat 0:=by
  rw [X6,qS]
  refine Jp (d:=0) (by simp) fun j hj=>?_
  rw [hlen] at hj
  rw [V2 (d:=0) hj]
  show V.dropLast.getD j 0=V.getD ((0+j:Nat):Int).toNat 0
  rw [qZ,qB]
  simp only [qD]
  rw [List.dropLast_eq_take,qV (by omega)]
 have e2:(V.dropLast.map (Lp l P (ofW l w (alS l)))).map (fun (r:Row) (z:Int)=>r (V.getD z.toNat 0))=(ZQ 0 (V.length-1)).map fun (z:Int)=>(fun (z':Int)=>Lp l P (ofW l w (alS l)) (V.getD z.toNat 0) (V.getD z'.toNat 0)):=by
  rw [qS]
  conv=>lhs;rw [e1]
  rw [qS];rfl
 have e3:det V.dropLast (V.dropLast.map (Lp l P (ofW l w (alS l))))=det (ZQ 0 (V.length-1)) ((V.dropLast.map (Lp l P (ofW l w (alS l)))).map (fun (r:Row) (z:Int)=>r (V.getD z.toNat 0))):=by
  have:=CC (φ:=fun z=>V.getD z.toNat 0) (ZQ 0 (V.length-1)) (V.dropLast.map (Lp l P (ofW l w (alS l))))
  rw [← this,← e1]
 rw [e3,e2]
 have e4:(mxT p V (QB l P) w l).map rw=(ZQ 0 (V.length-1)).map fun (z:Int)=>rw ((mxT p V (QB l P) w l).getD z.toNat []):=by
  rw [X6,qS]
  refine jN (by simp [hok.1]) fun j h1 h2=>?_
  have hj:j<(mxT p V (QB l P) w l).length:=by simpa using h1
  simp only [jP,jQ,Function.comp,qZ,qB]
  rw [ZR hj]
 rw [e4]
 refine Dp _ _ _ (cgm fun z hz z' hz'=>?_)
 have h1:=cols_mem.1 hz
 have h2:=cols_mem.1 hz'
 have k:=QiO (w:=w) hnet hP hp0 hn hV (i:=z.toNat) (j:=z'.toNat) (by omega) (by omega) l.length (qE _)
 rw [List.take_length] at k
 exact k
theorem Qcm {p:Nat} (hpr:Pr p) (hp2:2<p):∀k:Nat,(p:Int)∣spK p (QB l P) (QB l (P++ofW l w (alS l))) w l n.toNat k-Xv qQ l P (ofW l w (alS l)) n.toNat k
 | 0=>cgR ..
 | k+1=>by
  have ih:=Qcm hpr hp2 k
  have t:=QhA hnet hP (w:=w) hpr hp2 (top:=k)
  have hVe:vtG (QB l P) (QB l (P++ofW l w (alS l))) n.toNat (k:Int)=vt l P (ofW l w (alS l)) n.toNat (k:Int):=rfl
  rw [spK,Xv]
  by_cases c:(vtG (QB l P) (QB l (P++ofW l w (alS l))) n.toNat (k:Int)).length<2
  ·rw [if_pos c]
   rw [hVe] at c
   have:(vt l P (ofW l w (alS l)) n.toNat (k:Int)).dropLast=[]:=List.eq_nil_of_length_eq_zero (by rw [List.length_dropLast];omega)
   rw [this,jI,det,Int.mul_one];exact ih
  ·rw [if_neg c]
   exact cgT (QU _ _) (Q8 ih t)
end
section
variable {n:Int} {l:List St} (hnet:Wh n l=true)
include hnet
theorem QhB {w:Nat} (h:ofW l w (alS l)=[]):cN l (w+1)=cN l w:=by
 have e:rk l (loW l w (alS l))=rk l (loW l ((w:Int)-1) (alS l)):=Wi (QG hnet) (X2 l _) fun k=>by
  have:=(VC l (w:Int) (alS l)).mem_iff (a:=k)
  rw [h,qP] at this
  exact this
 rw [cN,h,e,Nat.sub_self,cnt]
 have:fo l (loW l ((w:Int)-1) (alS l)) 0 []=true:=by unfold fo;rw [qP];exact decide_eq_true ⟨rfl,rfl⟩
 rw [WQ,if_pos this,Nat.mul_one]
theorem X7 {a:Nat}:∀b,a≤b→(∀k,0≤k∧k<(l.length:Int)→¬((a:Int)≤wOf l k∧wOf l k<(b:Int)))→cN l b=cN l a
 | 0,h,_=>by
  have:a=0:=by omega
  rw [this]
 | b+1,h,hk=>by
  by_cases c:a=b+1
  ·rw [c]
  ·have he:ofW l (b:Int) (alS l)=[]:=List.eq_nil_iff_forall_not_mem.2 fun k hm=>by
    have:=of_mem.1 hm
    exact hk k (Dy l k this.1) (by omega)
   rw [QhB hnet he,X7 (a:=a) b (by omega) fun k hkr hc=>hk k hkr (by omega)]
theorem QoP {p:Nat} (hpr:Pr p) (hp2:2<p):∀i,i≤(Qg l).length →
  ∀W:Nat,(∀a,a<(Qg l).length→((a<(smF p n.toNat l i).2→wOf l ((Qg l).getD a 0)<(W:Int))∧((smF p n.toNat l i).2≤a→(W:Int)≤wOf l ((Qg l).getD a 0))))→(smF p n.toNat l i).2≤i∧(p:Int)∣(smF p n.toNat l i).1-(cN l W:Int):=by
 intro i
 have he:=QG hnet
 have hO:∀k∈Qg l,0≤k∧k<(l.length:Int):=fun k hk=>ordT_mem.1 hk
 have pos:∀k,0≤k∧k<(l.length:Int)→∃a,a<(Qg l).length∧(Qg l).getD a 0=k:=fun k hk=>Yo hnet hk
 induction i with
 | zero =>
  intro _ W h
  refine ⟨qE _,?_⟩
  have:cN l W=cN l 0:=X7 hnet W (qL _) fun k hk hc=>by
   obtain ⟨a,ha,e⟩:=pos k hk
   have:=(h a ha).2 (qL _)
   rw [e] at this;omega
  rw [this];exact cgR ..
 | succ i ih =>
  intro hi W h
  have hil:i<(Qg l).length:=by omega
  by_cases c:i+1<(Qg l).length∧wOf l ((Qg l).getD (i+1) 0)=wOf l ((Qg l).getD i 0)
  ·have e1:smF (p:Int) n.toNat l (i+1)=smF p n.toNat l i:=by rw [smF,if_pos c]
   rw [e1] at h ⊢
   obtain ⟨a,b⟩:=ih (by omega) W h
   exact ⟨by omega,b⟩
  ·have e1:smF (p:Int) n.toNat l (i+1)=((smF (p:Int) n.toNat l i).1*spK p (QB l ((Qg l).take (smF (p:Int) n.toNat l i).2)) (QB l ((Qg l).take (i+1))) (wOf l ((Qg l).getD i 0)) l n.toNat n.toNat%p,i+1):=by rw [smF,if_neg c]
   rw [e1] at h ⊢
   simp only at h ⊢
   refine ⟨qE _,?_⟩
   have hki:=hO _ (Qo 0 hil)
   have hwi:=XX hnet hki
   obtain ⟨w,hw⟩:=qM hwi.1
   have key:∀i,i<(Qg l).length→∀a,a<(Qg l).length→(a<(smF (p:Int) n.toNat l i).2↔wOf l ((Qg l).getD a 0)<wOf l ((Qg l).getD i 0)):=by
    intro i
    induction i with
    | zero =>
     intro h0 a ha
     have:=Z2 hnet (qL a) ha
     rw [smF]
     constructor
     ·intro h;simp at h
     ·intro h;omega
    | succ i ih2 =>
     intro hi2 a ha
     by_cases c2:i+1<(Qg l).length∧wOf l ((Qg l).getD (i+1) 0)=wOf l ((Qg l).getD i 0)
     ·rw [smF,if_pos c2,ih2 (by omega) a ha,c2.2]
     ·rw [smF,if_neg c2]
      have o1:=Z2 hnet (i:=i) (j:=i+1) (by omega) hi2
      have hne:wOf l ((Qg l).getD (i+1) 0)≠wOf l ((Qg l).getD i 0):=fun h=>c2 ⟨hi2,h⟩
      show a<i+1↔_
      constructor
      ·intro h
       have:=Z2 hnet (i:=a) (j:=i) (by omega) (by omega)
       omega
      ·intro h
       rcases Nat.lt_or_ge a (i+1) with d | d
       ·exact d
       ·exfalso
        have:=Z2 hnet d ha
        omega
   have kI:=key i hil
   have hih:(p:Int)∣(smF (p:Int) n.toNat l i).1-(cN l w:Int):=(ih (by omega) w fun a ha=>by
    have:=kI a ha
    rw [hw] at this
    constructor
    ·intro h;exact this.1 h
    ·intro h
     rcases Int.lt_or_le (wOf l ((Qg l).getD a 0)) (w:Int) with d | d
     ·have:=this.2 d;omega
     ·exact d).2
   have hPm:∀k,k∈(Qg l).take (smF (p:Int) n.toNat l i).2↔k∈loW l ((w:Int)-1) (alS l):=fun k=>by
    rw [lo_mem,startT_mem]
    constructor
    ·intro hk
     have hk0:=hO k (qR hk)
     obtain ⟨a,ha,e⟩:=List.getElem_of_mem hk
     rw [qI] at ha
     rw [jA] at e
     have:=(kI a (by omega)).1 (by omega)
     rw [QD (by omega),e,hw] at this
     exact ⟨hk0,by omega⟩
    ·rintro ⟨hk0,hkw⟩
     obtain ⟨a,ha,e⟩:=pos k hk0
     have:=(kI a ha).2 (by rw [e,hw];omega)
     rw [List.mem_iff_getElem]
     refine ⟨a,by rw [qI];omega,?_⟩
     rw [jA,← QD (d:=0) ha];exact e
   have hEm:∀k,k∈(Qg l).take (i+1)↔k∈(Qg l).take (smF (p:Int) n.toNat l i).2++ofW l w (alS l):=fun k=>by
    rw [List.mem_append,hPm,lo_mem,of_mem,startT_mem]
    constructor
    ·intro hk
     have hk0:=hO k (qR hk)
     obtain ⟨a,ha,e⟩:=List.getElem_of_mem hk
     rw [qI] at ha
     rw [jA] at e
     have o1:=Z2 hnet (i:=a) (j:=i) (by omega) hil
     rw [QD (y:=a) (by omega),e,hw] at o1
     rcases Int.lt_or_eq_of_le o1 with d | d
     ·exact .inl ⟨hk0,by omega⟩
     ·exact .inr ⟨hk0,d⟩
    ·intro hk
     have hk0:0≤k∧k<(l.length:Int):=hk.elim (·.1) (·.1)
     have hkw:wOf l k≤(w:Int):=hk.elim (fun h=>by have:=h.2;omega) fun h=>by have:=h.2;omega
     obtain ⟨a,ha,e⟩:=pos k hk0
     have hai:a<i+1:=by
      rcases Nat.lt_or_ge a (i+1) with d | d
      ·exact d
      ·exfalso
       have o1:=Z2 hnet (i:=i) (j:=i+1) (by omega) (by omega)
       have o2:=Z2 hnet (i:=i+1) (j:=a) d ha
       rw [e] at o2
       exact c ⟨by omega,by omega⟩
     rw [List.mem_iff_getElem]
     refine ⟨a,by rw [qI];omega,?_⟩
     rw [jA,← QD (d:=0) ha];exact e
   have hPi:InR l ((Qg l).take (smF (p:Int) n.toNat l i).2):=fun k hk=>hO k (qR hk)
   have hl2:QB l ((Qg l).take (i+1))=QB l ((Qg l).take (smF (p:Int) n.toNat l i).2++ofW l w (alS l)):=XU he (fun k hk=>hO k (qR hk)) hEm
   rw [hl2,hw]
   have sp:=Qcm hnet hPi (w:=(w:Int)) hpr hp2 n.toNat
   have hd:Xv qQ l ((Qg l).take (smF (p:Int) n.toNat l i).2) (ofW l w (alS l)) n.toNat n.toNat=Xv qQ l (loW l ((w:Int)-1) (alS l)) (ofW l w (alS l)) n.toNat n.toNat:=QeS hnet XZ XZ hPi (VB l w) hPm (List.Perm.refl _)
   rw [hd] at sp
   have hcw:cW qQ n l (w+1)=cW qQ n l w*Xv qQ l (loW l ((w:Int)-1) (alS l)) (ofW l w (alS l)) n.toNat n.toNat:=rfl
   rw [S1 hnet XZ,S1 hnet XZ] at hcw
   have hW:cN l W=cN l (w+1):=by
    have hwW:w+1≤W:=by
     have:=(h i hil).1 (by omega)
     rw [hw] at this;omega
    refine X7 hnet W hwW fun k hk hc=>?_
    obtain ⟨a,ha,e⟩:=pos k hk
    rcases Nat.lt_or_ge a (i+1) with d | d
    ·have o1:=Z2 hnet (i:=a) (j:=i) (by omega) hil
     rw [e,hw] at o1;omega
    ·have:=(h a ha).2 d
     rw [e] at this;omega
   rw [hW,hcw]
   exact cgT (QU _ _) (Q8 hih sp)
theorem Qfl {p:Nat} (hpr:Pr p) (hp2:2<p):smT (p:Int) n l=(cN l 1001:Int)%(p:Int):=by
 have hO:∀k∈Qg l,0≤k∧k<(l.length:Int):=fun k hk=>ordT_mem.1 hk
 have hj:∀i,i≤(Qg l).length→(i=(Qg l).length→(smF (p:Int) n.toNat l i).2=i):=by
  intro i hi e
  cases i with
  | zero=>rfl
  | succ i=>rw [smF,if_neg (fun h=>by omega)]
 have:=(QoP hnet hpr hp2 (Qg l).length (qE _) 1001 fun a ha=>by
  rw [hj _ (qE _) rfl]
  have:=XX hnet (hO _ (Qo 0 ha))
  exact ⟨fun _=>by omega,fun h=>by omega⟩).2
 have r:=CB (p:=(p:Int)) (by omega) n l
 have e:smT (p:Int) n l%(p:Int)=(cN l 1001:Int)%(p:Int):=Int.emod_eq_emod_iff_emod_sub_eq_zero.2 (Int.emod_eq_zero_of_dvd this)
 rw [← e,Int.emod_eq_of_lt r.1 r.2]
end
theorem QoQ {N:Int} (h0:0≤N) (h:N<2147483647*2147483629):crt (N%2147483647) (N%2147483629)=N:=by
 have hc:=QrA (a:=N%2147483647) (b:=N%2147483629) ⟨qF _ (by omega),qG _ (by omega)⟩ ⟨qF _ (by omega),qG _ (by omega)⟩
 have hz:(18*pw 18 2147483627 2147483629)%2147483629=1:=pr2.invI (a:=18) (by omega) (by omega)
 have d1:(2147483647:Int)∣crt (N%2147483647) (N%2147483629)-N:=by
  refine cgT (b:=N%2147483647) ?_ (QU _ _)
  unfold crt
  rw [Int.add_comm,Int.add_sub_cancel]
  exact Int.dvd_mul_right _ _
 have d2:(2147483629:Int)∣crt (N%2147483647) (N%2147483629)-N:=by
  unfold crt
  have hb:(2147483629:Int)∣N%2147483629-N:=QU _ _
  generalize N%2147483647=a at *
  generalize N%2147483629=b at *
  generalize pw 18 2147483627 2147483629=z at *
  have t1:(2147483629:Int)∣(b-a%2147483629+2147483629)%2147483629-(b-a):=by
   refine cgT (QU _ _) ?_
   have h1:(2147483629:Int)∣a%2147483629-a:=QU _ _
   have h2:=Int.dvd_sub (Int.dvd_refl (2147483629:Int)) h1
   rwa [show (2147483629:Int)-(a%2147483629-a)=b-a%2147483629+2147483629-(b-a) by omega] at h2
  have t2:(2147483629:Int)∣(b-a%2147483629+2147483629)%2147483629*z%2147483629-(b-a)*z:=cgT (QU _ _) (Q8 t1 (cgR _ z))
  have t3:(2147483629:Int)∣2147483647-18:=⟨1,by omega⟩
  have t4:=Q8 t3 t2
  have t5:(2147483629:Int)∣18*z-1:=by
   have:=QU (18*z) 2147483629
   rw [hz] at this
   exact cgS this
  have t6:(2147483629:Int)∣18*((b-a)*z)-(b-a):=by
   have:=Q8 (cgR 2147483629 (b-a)) t5
   rwa [Int.mul_one,show (b-a)*(18*z)=18*((b-a)*z) by rw [Int.mul_left_comm]] at this
  have t7:=cgT t4 t6
  have t8:=cgA (cgR 2147483629 a) t7
  rw [show a+(b-a)=b by omega] at t8
  exact cgT t8 hb
 generalize crt (N%2147483647) (N%2147483629)=X at *
 obtain ⟨s,hs⟩:=d1
 obtain ⟨t,ht⟩:=d2
 have h1:X-N=2147483647*2147483629*(119304647*s-119304646*t):=by omega
 obtain ⟨_,hc1,hc2⟩:=hc
 have:119304647*s-119304646*t=0:=by omega
 omega
theorem QoR {n:Int} {l:List St} (hnet:Wh n l=true) (hc:WJ n l=true):ctT n l=(cN l 1001:Int):=by
 have hb:=QiG hnet 1001
 have hb2:((cN l 1001:Nat):Int)≤1152921504606846976:=by
  have:(2:Nat) ^ 60=1152921504606846976:=by decide
  omega
 rw [ctT,if_pos hnet,if_pos hc]
 have e1:smT 2147483647 n l=(cN l 1001:Int)%2147483647:=Qfl hnet pr1 (by decide)
 have e2:smT 2147483629 n l=(cN l 1001:Int)%2147483629:=Qfl hnet pr2 (by decide)
 rw [e1,e2]
 exact QoQ (by omega) (by omega)
end Go.Proofs.Ytiejmoglooaalaa
end
section
open Go Go.HL
namespace Go.Proofs.Ytiejmoglooaalaa
set_option maxRecDepth 100000
set_option linter.unusedSectionVars false
open Go.Proofs.Try renaming prog → Tp
open Go.HL.HV renaming undef → Ud
section
variable {F:FuncId→Option (List HV→Option HV)}
noncomputable def B19:Code:=Try.f19.body.getD .skip
abbrev Zy (v0 v1 v4 v6 v7 v8 v9 v10 v11 v12:HV):Env:=[(0,v0),(1,v1),(4,v4),(6,v6),(7,v7),(8,v8),(9,v9),(10,v10),(11,v11),(12,v12)]
end
abbrev e19 (q:Nat) (ls:List HV) (u3 u4 u5 u6 u7 u8 u9:HV):Env:=Zy (.n q) (.g ls) (.i 0) u3 u4 u5 u6 u7 u8 u9
section
variable {F:FuncId→Option (List HV→Option HV)}
variable (q:Nat) (ls:List HV)
include q ls
theorem QoS:RU F 19 2 B19 [(0,.n q),(1,.g ls)] [] .normal (e19 q ls Ud Ud Ud Ud Ud Ud Ud) [] :=
 hx 0 60 []
end
section
variable {F:FuncId→Option (List HV→Option HV)}
variable (q:Nat) (ls:List HV)
include q ls
theorem QoT (H:Heap) (fb m:Nat) {H0:Heap} (g0:CM F 20 [.n q,.g ls] H (.tuple [.s fb m,.bool true]) H0) (y6 y7 y8 y9 y10 y11 y12:HV:=Ud): RU F 19 12 B19 (e19 q ls y6 y7 y8 y9 y10 y11 y12) H .normal (e19 q ls (.bool true) y7 y8 y9 y10 y11 y12) H0 :=
 hx 0 60 [jD 1 2 g0]
theorem QoU (H:Heap) (fb m:Nat) {H0:Heap} (g0:CM F 20 [.n q,.g ls] H (.tuple [.s fb m,.bool false]) H0) (y6 y7 y8 y9 y10 y11 y12:HV:=Ud): RU F 19 12 B19 (e19 q ls y6 y7 y8 y9 y10 y11 y12) H .normal (e19 q ls (.bool false) y7 y8 y9 y10 y11 y12) H0 :=
 hx 0 60 [jD 1 2 g0]
theorem QhC (H:Heap) (y7 y8 y9 y10 y11 y12:HV:=Ud): RU F 19 13 B19 (e19 q ls (.bool true) y7 y8 y9 y10 y11 y12) H .normal (e19 q ls (.bool true) y7 y8 y9 y10 y11 y12) H :=
 hx 0 60 []
theorem QhD (H:Heap) (y7 y8 y9 y10 y11 y12:HV:=Ud): RU F 19 13 B19 (e19 q ls (.bool false) y7 y8 y9 y10 y11 y12) H .ret (e19 q ls (.bool false) y7 y8 y9 y10 y11 y12) H :=
 hx 0 60 []
theorem QoV (H:Heap) (y7 y8 y9 y10 y11 y12:HV:=Ud): RU F 19 14 B19 (e19 q ls (.bool true) y7 y8 y9 y10 y11 y12) H .normal (e19 q ls (.bool true) (.i 1) y8 y9 y10 y11 y12) H :=
 hx 0 60 []
theorem QoW (H:Heap) (u:Int) (gb:Nat) {H0:Heap} (g0:CM F 46 [.n q] H (.s gb q) H0) (y8 y9 y10 y11 y12:HV:=Ud): RU F 19 30 B19 (e19 q ls (.bool true) (.i u) y8 y9 y10 y11 y12) H .normal (e19 q ls (.bool true) (.i u) (.s gb q) y9 y10 y11 y12) H0 :=
 hx 0 60 [jD 5 1 g0]
theorem QoX (H:Heap) (u:Int) (gb ob s:Nat) {H0:Heap} (g0:CM F 47 [.g ls] H (.s ob s) H0) (y9 y10 y11 y12:HV:=Ud): RU F 19 62 B19 (e19 q ls (.bool true) (.i u) (.s gb q) y9 y10 y11 y12) H .normal (e19 q ls (.bool true) (.i u) (.s gb q) (.s ob s) y10 y11 y12) H0 :=
 hx 0 60 [jD 6 1 g0]
theorem QoY (H:Heap) (u:Int) (gb ob s:Nat) (y10 y11 y12:HV:=Ud): RU F 19 252 B19 (e19 q ls (.bool true) (.i u) (.s gb q) (.s ob s) y10 y11 y12) H .normal (e19 q ls (.bool true) (.i u) (.s gb q) (.s ob s) (.i 0) y11 y12) H :=
 hx 0 60 []
theorem QoZ (H:Heap) (u:Int) (gb ob s:Nat) (i:Nat) (g0:(i:Int)<(s:Int)) (y6 y11 y12:HV:=Ud): RU F 19 2024 B19 (e19 q ls y6 (.i u) (.s gb q) (.s ob s) (.n i) y11 y12) H .normal (e19 q ls y6 (.i u) (.s gb q) (.s ob s) (.n i) y11 y12) H :=
 hx 0 60 [jT 8 3 H g0]
theorem Qo0 (H:Heap) (u:Int) (gb ob s:Nat) (i:Nat) (g0:¬((i:Int)<(s:Int))) (y6 y11 y12:HV:=Ud): RU F 19 2024 B19 (e19 q ls y6 (.i u) (.s gb q) (.s ob s) (.n i) y11 y12) H (.exit 0) (e19 q ls y6 (.i u) (.s gb q) (.s ob s) (.n i) y11 y12) H :=
 hx 0 60 [jF 8 3 H g0]
theorem Qo1 (H:Heap) (u:Int) (gb ob s:Nat) (i:Nat) (k:Nat) (a b z:Int) (g0:IS 24 ob s i) (g1:LD H 3 (.ptr ob i 0 s) (.n k)) (g2:IX 22 (.g ls) (.n k) (.vptr (.agg [.i a,.i b,.i z]))) (y6 y11 y12:HV:=Ud): RU F 19 16200 B19 (e19 q ls y6 (.i u) (.s gb q) (.s ob s) (.n i) y11 y12) H .normal (e19 q ls y6 (.i u) (.s gb q) (.s ob s) (.n i) (.i z) y12) H :=
 hx 0 60 [jO 10 3 H g0,jO 10 4 H g1,jO 10 5 H g2]
theorem Qo2 (H:Heap) (u:Int) (gb ob s:Nat) (i:Nat) (k:Nat) (x a b z:Int) (g0:0<(i:Int)) (g1:IX 24 (.s ob s) (.i (qA.wrap ((i:Int)-1))) (.ptr ob ((qA.wrap ((i:Int)-1)).toNat) 0 s)) (g2:LD H 3 (.ptr ob ((qA.wrap ((i:Int)-1)).toNat) 0 s) (.n k)) (g3:IX 22 (.g ls) (.n k) (.vptr (.agg [.i a,.i b,.i z]))) (g4:z=x) (y6 y12:HV:=Ud): RU F 19 32402 B19 (e19 q ls y6 (.i u) (.s gb q) (.s ob s) (.n i) (.i x) y12) H (.exit 1) (e19 q ls y6 (.i u) (.s gb q) (.s ob s) (.n i) (.i x) y12) H :=
 hx 0 60 [jT 11 1 H g0,jO 11 7 H g1,jO 11 8 H g2,jO 11 9 H g3,jT 11 13 H g4]
theorem Qo3 (H:Heap) (u:Int) (gb ob s:Nat) (i:Nat) (k:Nat) (x a b z:Int) (g0:0<(i:Int)) (g1:IX 24 (.s ob s) (.i (qA.wrap ((i:Int)-1))) (.ptr ob ((qA.wrap ((i:Int)-1)).toNat) 0 s)) (g2:LD H 3 (.ptr ob ((qA.wrap ((i:Int)-1)).toNat) 0 s) (.n k)) (g3:IX 22 (.g ls) (.n k) (.vptr (.agg [.i a,.i b,.i z]))) (g4:¬(z=x)) (y6 y12:HV:=Ud): RU F 19 32402 B19 (e19 q ls y6 (.i u) (.s gb q) (.s ob s) (.n i) (.i x) y12) H .normal (e19 q ls y6 (.i u) (.s gb q) (.s ob s) (.n i) (.i x) y12) H :=
 hx 0 60 [jT 11 1 H g0,jO 11 7 H g1,jO 11 8 H g2,jO 11 9 H g3,jF 11 13 H g4]
theorem Qo4 (H:Heap) (u:Int) (gb ob s:Nat) (i:Nat) (k:Nat) (x a b z:Int) (g0:¬(0<(i:Int))) (y6 y12:HV:=Ud): RU F 19 32402 B19 (e19 q ls y6 (.i u) (.s gb q) (.s ob s) (.n i) (.i x) y12) H .normal (e19 q ls y6 (.i u) (.s gb q) (.s ob s) (.n i) (.i x) y12) H :=
 hx 0 60 [jF 11 1 H g0]
theorem Qo5 (H:Heap) (u:Int) (gb ob s:Nat) (i:Nat) (x f:Int) {H0:Heap} (g0:CM F 48 [.n q,.g ls,.i x,.s gb q] H (.i f) H0) (y6 y12:HV:=Ud): RU F 19 64806 B19 (e19 q ls y6 (.i u) (.s gb q) (.s ob s) (.n i) (.i x) y12) H .normal (e19 q ls y6 (.i (qA.wrap (u*f))) (.s gb q) (.s ob s) (.n i) (.i x) y12) H0 :=
 hx 0 60 [jD 12 5 g0]
theorem Qo6 (H:Heap) (u:Int) (gb ob s:Nat) (i:Nat) (x:Int) (y6 y12:HV:=Ud): RU F 19 129614 B19 (e19 q ls y6 (.i u) (.s gb q) (.s ob s) (.n i) (.i x) y12) H .normal (e19 q ls y6 (.i u) (.s gb q) (.s ob s) (.n i) (.i x) (.i 0)) H :=
 hx 0 60 []
theorem Qo7 (H:Heap) (u:Int) (gb ob s:Nat) (i:Nat) (x:Int) (j hb:Nat) (a b z:Int) {H0:Heap} (g0:(j:Int)<(ls.length:Int)) (g1:IX 22 (.g ls) (.n j) (.vptr (.agg [.i a,.i b,.i z]))) (g2:z=x) (g3:IX 22 (.g ls) (.n j) (.vptr (.agg [.i a,.i b,.i z]))) (g4:IX 22 (.g ls) (.n j) (.vptr (.agg [.i a,.i b,.i z]))) (g5:CM F 49 [.s gb q,.i a,.i b] H (.s hb q) H0) (y6:HV:=Ud): RU F 19 518460 B19 (e19 q ls y6 (.i u) (.s gb q) (.s ob s) (.n i) (.i x) (.n j)) H .normal (e19 q ls y6 (.i u) (.s hb q) (.s ob s) (.n i) (.i x) (.i (qA.wrap ((j:Int)+1)))) H0 :=
 hx 0 60 [jT 14 3 H g0,jO 16 2 H g1,jT 16 6 H g2,jO 17 3 H g3,jO 17 8 H g4,jD 17 11 g5]
theorem Qo8 (H:Heap) (u:Int) (gb ob s:Nat) (i:Nat) (x:Int) (j hb:Nat) (a b z:Int) (g0:(j:Int)<(ls.length:Int)) (g1:IX 22 (.g ls) (.n j) (.vptr (.agg [.i a,.i b,.i z]))) (g2:¬(z=x)) (y6:HV:=Ud): RU F 19 518460 B19 (e19 q ls y6 (.i u) (.s gb q) (.s ob s) (.n i) (.i x) (.n j)) H .normal (e19 q ls y6 (.i u) (.s gb q) (.s ob s) (.n i) (.i x) (.i (qA.wrap ((j:Int)+1)))) H :=
 hx 0 60 [jT 14 3 H g0,jO 16 2 H g1,jF 16 6 H g2]
theorem Qo9 (H:Heap) (u:Int) (gb ob s:Nat) (i:Nat) (x:Int) (j hb:Nat) (a b z:Int) (g0:¬((j:Int)<(ls.length:Int))) (y6:HV:=Ud): RU F 19 518460 B19 (e19 q ls y6 (.i u) (.s gb q) (.s ob s) (.n i) (.i x) (.n j)) H (.exit 2) (e19 q ls y6 (.i u) (.s gb q) (.s ob s) (.n i) (.i x) (.n j)) H :=
 hx 0 60 [jF 14 3 H g0]
theorem Qfm (H:Heap) (u:Int) (gb ob s:Nat) (i:Nat) (y6 y11 y12:HV:=Ud): RU F 19 4051 B19 (e19 q ls y6 (.i u) (.s gb q) (.s ob s) (.n i) y11 y12) H .normal (e19 q ls y6 (.i u) (.s gb q) (.s ob s) (.i (qA.wrap ((i:Int)+1))) y11 y12) H :=
 hx 0 60 []
theorem Qpa (H:Heap) (u:Int) (gb ob s:Nat) (y6 y10 y11 y12:HV:=Ud): RU F 19 127 B19 (e19 q ls y6 (.i u) (.s gb q) (.s ob s) y10 y11 y12) H .ret (Zy (.n q) (.g ls) (.i u) y6 (.i u) (.s gb q) (.s ob s) y10 y11 y12) H :=
 hx 0 60 []
end
section
variable {F:FuncId→Option (List HV→Option HV)}
noncomputable def B48:Code:=Try.f48.body.getD .skip
abbrev QQ (v0 v1 v2 v3 v8 v9 v10 v11 v12 v13 v14 v15 v16 v17 v18 v19 v20 v21 v22 v23 v24 v25 v26 v27:HV):Env:=[(0,v0),(1,v1),(2,v2),(3,v3),(8,v8),(9,v9),(10,v10),(11,v11),(12,v12),(13,v13),(14,v14),(15,v15),(16,v16),(17,v17),(18,v18),(19,v19),(20,v20),(21,v21),(22,v22),(23,v23),(24,v24),(25,v25),(26,v26),(27,v27)]
end
abbrev e48 (q:Nat) (ls:List HV) (w:Int) (la:List HV) (mb:Nat) (u5 u7 u8 u9 u10 u11 u12 u13 u14 u15 u16 u17 u18 u19 u20 u21 u22 u23:HV):Env:=QQ (.n q) (.g ls) (.i w) (.a la) (.i 0) u5 (.o mb q) u7 u8 u9 u10 u11 u12 u13 u14 u15 u16 u17 u18 u19 u20 u21 u22 u23
section
variable {F:FuncId→Option (List HV→Option HV)}
variable (N:Nat) (q:Nat) (ls:List HV) (w:Int) (la:List HV)
include N q ls w la
theorem Qpb:RU F 48 2 B48 [(0,.n q),(1,.g ls),(2,.i w),(3,.a la)] [] .normal (QQ (.n q) (.g ls) (.i w) (.a la) (.i 0) Ud Ud Ud Ud Ud Ud Ud Ud Ud Ud Ud Ud Ud Ud Ud Ud Ud Ud Ud) [] :=
 hx N 60 []
end
section
variable {F:FuncId→Option (List HV→Option HV)}
variable (N:Nat) (q:Nat) (ls:List HV) (w:Int) (la:List HV)
include N q ls w la
theorem Qpc (H:Heap) (y9 y10 y11 y12 y13 y14 y15 y16 y17 y18 y19 y20 y21 y22 y23 y24 y25 y26 y27:HV:=Ud): RU F 48 6 B48 (QQ (.n q) (.g ls) (.i w) (.a la) (.i 0) y9 y10 y11 y12 y13 y14 y15 y16 y17 y18 y19 y20 y21 y22 y23 y24 y25 y26 y27) H .normal (QQ (.n q) (.g ls) (.i w) (.a la) (.i 0) (.a la) y10 y11 y12 y13 y14 y15 y16 y17 y18 y19 y20 y21 y22 y23 y24 y25 y26 y27) H :=
 hx N 60 []
theorem Qpd (H:Heap) (av:HV) (mb:Nat) {H0:Heap} (g0:Va Tp false 57 (.n q) (.n q) H=some (.o mb q,H0)) (y10 y11 y12 y13 y14 y15 y16 y17 y18 y19 y20 y21 y22 y23 y24 y25 y26 y27:HV:=Ud): RU F 48 14 B48 (QQ (.n q) (.g ls) (.i w) (.a la) (.i 0) av y10 y11 y12 y13 y14 y15 y16 y17 y18 y19 y20 y21 y22 y23 y24 y25 y26 y27) H .normal (e48 q ls w la mb av y11 y12 y13 y14 y15 y16 y17 y18 y19 y20 y21 y22 y23 y24 y25 y26 y27) H0 :=
 hx N 60 [jR 2 1 g0]
theorem Qpe (H:Heap) (av:HV) (mb:Nat) (y11 y12 y13 y14 y15 y16 y17 y18 y19 y20 y21 y22 y23 y24 y25 y26 y27:HV:=Ud): RU F 48 60 B48 (e48 q ls w la mb av y11 y12 y13 y14 y15 y16 y17 y18 y19 y20 y21 y22 y23 y24 y25 y26 y27) H .normal (e48 q ls w la mb av (.i 0) y12 y13 y14 y15 y16 y17 y18 y19 y20 y21 y22 y23 y24 y25 y26 y27) H :=
 hx N 60 []
theorem Qpf (H:Heap) (av:HV) (mb i rb:Nat) {H0:Heap} {H1:Heap} (g0:(i:Int)<(q:Int)) (g1:Va Tp false 24 (.n q) (.n q) H=some (.o rb q,H0)) (g2:IO 57 mb q i) (g3:ST H0 24 (.ptr mb i 0 q) (.o rb q) H1) (y12 y13 y14 y15 y16 y17 y18 y19 y20 y21 y22 y23 y24 y25 y26 y27:HV:=Ud): RU F 48 244 B48 (e48 q ls w la mb av (.n i) y12 y13 y14 y15 y16 y17 y18 y19 y20 y21 y22 y23 y24 y25 y26 y27) H .normal (e48 q ls w la mb av (.i (qA.wrap ((i:Int)+1))) y12 y13 y14 y15 y16 y17 y18 y19 y20 y21 y22 y23 y24 y25 y26 y27) H1 :=
 hx N 60 [jT 4 2 H g0,jR 6 3 g1,jO 6 4 H0 g2,jS 6 5 g3]
theorem Qpg (H:Heap) (av:HV) (mb i rb:Nat) (g0:¬((i:Int)<(q:Int))) (y12 y13 y14 y15 y16 y17 y18 y19 y20 y21 y22 y23 y24 y25 y26 y27:HV:=Ud): RU F 48 244 B48 (e48 q ls w la mb av (.n i) y12 y13 y14 y15 y16 y17 y18 y19 y20 y21 y22 y23 y24 y25 y26 y27) H (.exit 0) (e48 q ls w la mb av (.n i) y12 y13 y14 y15 y16 y17 y18 y19 y20 y21 y22 y23 y24 y25 y26 y27) H :=
 hx N 60 [jF 4 2 H g0]
theorem Qph (H:Heap) (av:HV) (mb:Nat) (y11 y12 y13 y14 y15 y16 y17 y18 y19 y20 y21 y22 y23 y24 y25 y26 y27:HV:=Ud): RU F 48 124 B48 (e48 q ls w la mb av y11 y12 y13 y14 y15 y16 y17 y18 y19 y20 y21 y22 y23 y24 y25 y26 y27) H .normal (e48 q ls w la mb av y11 (.i 0) y13 y14 y15 y16 y17 y18 y19 y20 y21 y22 y23 y24 y25 y26 y27) H :=
 hx N 60 []
theorem Qpi (H:Heap) (av:HV) (mb i j k ra rb:Nat) (a b x y z f g:Int) (aw:HV) (g0:(i:Int)<(ls.length:Int)) (g1:IX 22 (.g ls) (.n i) (.vptr (.agg [.i a,.i b,.i z]))) (g2:IX 24 (.a la) (.i a) (.vptr (.n j))) (g3:IX 22 (.g ls) (.n i) (.vptr (.agg [.i a,.i b,.i z]))) (g4:IX 24 (.a la) (.i b) (.vptr (.n k))) (g5:IX 22 (.g ls) (.n i) (.vptr (.agg [.i a,.i b,.i z]))) (g6:z=w) (g7:(j:Int)=(k:Int)) (y11 y13 y14 y15 y16 y17 y18 y19 y20 y21 y22 y23 y24 y25 y26 y27:HV:=Ud): RU F 48 500 B48 (e48 q ls w la mb av y11 (.n i) y13 y14 y15 y16 y17 y18 y19 y20 y21 y22 y23 y24 y25 y26 y27) H .normal (e48 q ls w la mb av y11 (.i (qA.wrap ((i:Int)+1))) (.n j) (.n k) y15 y16 y17 y18 y19 y20 y21 y22 y23 y24 y25 y26 y27) H :=
 hx N 60 [jT 8 3 H g0,jO 10 3 H g1,jO 10 6 H g2,jO 10 11 H g3,jO 10 14 H g4,jO 11 2 H g5,jB 11 6 H (congrArg not (decide_eq_true g6)),jT 11 10 H g7]
theorem Qpj (H:Heap) (av:HV) (mb i j k ra rb:Nat) (a b x y z f g:Int) (aw:HV) {H0:Heap} {H1:Heap} {H2:Heap} {H3:Heap} {H4:Heap} (g0:(i:Int)<(ls.length:Int)) (g1:IX 22 (.g ls) (.n i) (.vptr (.agg [.i a,.i b,.i z]))) (g2:IX 24 (.a la) (.i a) (.vptr (.n j))) (g3:IX 22 (.g ls) (.n i) (.vptr (.agg [.i a,.i b,.i z]))) (g4:IX 24 (.a la) (.i b) (.vptr (.n k))) (g5:IX 22 (.g ls) (.n i) (.vptr (.agg [.i a,.i b,.i z]))) (g6:z=w) (g7:¬((j:Int)=(k:Int))) (g8:CM F 49 [av,.n j,.n k] H aw H0) (g9:IO 57 mb q j) (g10:LD H0 24 (.ptr mb j 0 q) (.o ra q)) (g11:IO 57 mb q k) (g12:LD H0 24 (.ptr mb k 0 q) (.o rb q)) (g13:IO 24 ra q j) (g14:LD H0 3 (.ptr ra j 0 q) (.i x)) (g15:IO 24 ra q j) (g16:ST H0 3 (.ptr ra j 0 q) (.i (qA.wrap (x+1))) H1) (g17:IO 24 ra q k) (g18:LD H1 3 (.ptr ra k 0 q) (.i y)) (g19:IO 24 ra q k) (g20:ST H1 3 (.ptr ra k 0 q) (.i (qA.wrap (y-1))) H2) (g21:IO 24 rb q k) (g22:LD H2 3 (.ptr rb k 0 q) (.i f)) (g23:IO 24 rb q k) (g24:ST H2 3 (.ptr rb k 0 q) (.i (qA.wrap (f+1))) H3) (g25:IO 24 rb q j) (g26:LD H3 3 (.ptr rb j 0 q) (.i g)) (g27:IO 24 rb q j) (g28:ST H3 3 (.ptr rb j 0 q) (.i (qA.wrap (g-1))) H4) (y11 y13 y14 y15 y16 y17 y18 y19 y20 y21 y22 y23 y24 y25 y26 y27:HV:=Ud): RU F 48 500 B48 (e48 q ls w la mb av y11 (.n i) y13 y14 y15 y16 y17 y18 y19 y20 y21 y22 y23 y24 y25 y26 y27) H .normal (e48 q ls w la mb aw y11 (.i (qA.wrap ((i:Int)+1))) (.n j) (.n k) (.o ra q) (.o rb q) y17 y18 y19 y20 y21 y22 y23 y24 y25 y26 y27) H4 :=
 hx N 60 [jT 8 3 H g0,jO 10 3 H g1,jO 10 6 H g2,jO 10 11 H g3,jO 10 14 H g4,jO 11 2 H g5,jB 11 6 H (congrArg not (decide_eq_true g6)),jF 11 10 H g7,jD 12 3 g8,jO 13 2 H0 g9,jO 13 3 H0 g10,jO 13 6 H0 g11,jO 13 7 H0 g12,jO 14 4 H0 g13,jO 14 5 H0 g14,jO 14 7 H0 g15,jS 14 8 g16,jO 15 4 H1 g17,jO 15 5 H1 g18,jO 15 7 H1 g19,jS 15 8 g20,jO 16 4 H2 g21,jO 16 5 H2 g22,jO 16 7 H2 g23,jS 16 8 g24,jO 17 4 H3 g25,jO 17 5 H3 g26,jO 17 7 H3 g27,jS 17 8 g28]
theorem Qpk (H:Heap) (av:HV) (mb i j k ra rb:Nat) (a b x y z f g:Int) (aw:HV) (g0:(i:Int)<(ls.length:Int)) (g1:IX 22 (.g ls) (.n i) (.vptr (.agg [.i a,.i b,.i z]))) (g2:IX 24 (.a la) (.i a) (.vptr (.n j))) (g3:IX 22 (.g ls) (.n i) (.vptr (.agg [.i a,.i b,.i z]))) (g4:IX 24 (.a la) (.i b) (.vptr (.n k))) (g5:IX 22 (.g ls) (.n i) (.vptr (.agg [.i a,.i b,.i z]))) (g6:¬(z=w)) (y11 y13 y14 y15 y16 y17 y18 y19 y20 y21 y22 y23 y24 y25 y26 y27:HV:=Ud): RU F 48 500 B48 (e48 q ls w la mb av y11 (.n i) y13 y14 y15 y16 y17 y18 y19 y20 y21 y22 y23 y24 y25 y26 y27) H .normal (e48 q ls w la mb av y11 (.i (qA.wrap ((i:Int)+1))) (.n j) (.n k) y15 y16 y17 y18 y19 y20 y21 y22 y23 y24 y25 y26 y27) H :=
 hx N 60 [jT 8 3 H g0,jO 10 3 H g1,jO 10 6 H g2,jO 10 11 H g3,jO 10 14 H g4,jO 11 2 H g5,jB 11 6 H (congrArg not (decide_eq_false g6))]
theorem Qpl (H:Heap) (av:HV) (mb i j k ra rb:Nat) (a b x y z f g:Int) (aw:HV) (g0:¬((i:Int)<(ls.length:Int))) (y11 y13 y14 y15 y16 y17 y18 y19 y20 y21 y22 y23 y24 y25 y26 y27:HV:=Ud): RU F 48 500 B48 (e48 q ls w la mb av y11 (.n i) y13 y14 y15 y16 y17 y18 y19 y20 y21 y22 y23 y24 y25 y26 y27) H (.exit 2) (e48 q ls w la mb av y11 (.n i) y13 y14 y15 y16 y17 y18 y19 y20 y21 y22 y23 y24 y25 y26 y27) H :=
 hx N 60 [jF 8 3 H g0]
theorem Qpm (H:Heap) (av:HV) (mb:Nat) (y11 y12 y13 y14 y15 y16 y17 y18 y19 y20 y21 y22 y23 y24 y25 y26 y27:HV:=Ud): RU F 48 126 B48 (e48 q ls w la mb av y11 y12 y13 y14 y15 y16 y17 y18 y19 y20 y21 y22 y23 y24 y25 y26 y27) H .normal (e48 q ls w la mb av y11 y12 y13 y14 y15 y16 (.i 1) y18 y19 y20 y21 y22 y23 y24 y25 y26 y27) H :=
 hx N 60 []
theorem Qpn (H:Heap) (av:HV) (mb:Nat) (u:Int) (y11 y12 y13 y14 y15 y16 y18 y19 y20 y21 y22 y23 y24 y25 y26 y27:HV:=Ud): RU F 48 508 B48 (e48 q ls w la mb av y11 y12 y13 y14 y15 y16 (.i u) y18 y19 y20 y21 y22 y23 y24 y25 y26 y27) H .normal (e48 q ls w la mb av y11 y12 y13 y14 y15 y16 (.i u) (.i 0) y19 y20 y21 y22 y23 y24 y25 y26 y27) H :=
 hx N 60 []
theorem Qpo (H:Heap) (av:HV) (mb:Nat) (u:Int) (c:Nat) (g0:(c:Int)<(q:Int)) (y11 y12 y13 y14 y15 y16 y19 y20 y21 y22 y23 y24 y25 y26 y27:HV:=Ud): RU F 48 4072 B48 (e48 q ls w la mb av y11 y12 y13 y14 y15 y16 (.i u) (.n c) y19 y20 y21 y22 y23 y24 y25 y26 y27) H .normal (e48 q ls w la mb av y11 y12 y13 y14 y15 y16 (.i u) (.n c) y19 y20 y21 y22 y23 y24 y25 y26 y27) H :=
 hx N 60 [jT 20 2 H g0]
theorem Qpp (H:Heap) (av:HV) (mb:Nat) (u:Int) (c:Nat) (g0:¬((c:Int)<(q:Int))) (y11 y12 y13 y14 y15 y16 y19 y20 y21 y22 y23 y24 y25 y26 y27:HV:=Ud): RU F 48 4072 B48 (e48 q ls w la mb av y11 y12 y13 y14 y15 y16 (.i u) (.n c) y19 y20 y21 y22 y23 y24 y25 y26 y27) H (.exit 4) (e48 q ls w la mb av y11 y12 y13 y14 y15 y16 (.i u) (.n c) y19 y20 y21 y22 y23 y24 y25 y26 y27) H :=
 hx N 60 [jF 20 2 H g0]
theorem Qpq (H:Heap) (av:HV) (mb:Nat) (u:Int) (c:Nat) (x:Int) {a0:HV} (g0:IX 24 av (.n c) (a0)) (g1:LD H 3 (a0) (.i x)) (g2:x=(c:Int)) (y11 y12 y13 y14 y15 y16 y19 y20 y21 y22 y23 y24 y25 y26 y27:HV:=Ud): RU F 48 32584 B48 (e48 q ls w la mb av y11 y12 y13 y14 y15 y16 (.i u) (.n c) y19 y20 y21 y22 y23 y24 y25 y26 y27) H .normal (e48 q ls w la mb av y11 y12 y13 y14 y15 y16 (.i u) (.n c) y19 y20 y21 y22 y23 y24 y25 y26 y27) H :=
 hx N 60 [jO 22 2 H g0,jO 22 3 H g1,jB 22 5 H (congrArg not (decide_eq_true g2))]
theorem Qpr (H:Heap) (av:HV) (mb:Nat) (u:Int) (c:Nat) (x:Int) {a0:HV} (g0:IX 24 av (.n c) (a0)) (g1:LD H 3 (a0) (.i x)) (g2:¬(x=(c:Int))) (y11 y12 y13 y14 y15 y16 y19 y20 y21 y22 y23 y24 y25 y26 y27:HV:=Ud): RU F 48 32584 B48 (e48 q ls w la mb av y11 y12 y13 y14 y15 y16 (.i u) (.n c) y19 y20 y21 y22 y23 y24 y25 y26 y27) H (.exit 5) (e48 q ls w la mb av y11 y12 y13 y14 y15 y16 (.i u) (.n c) y19 y20 y21 y22 y23 y24 y25 y26 y27) H :=
 hx N 60 [jO 22 2 H g0,jO 22 3 H g1,jB 22 5 H (congrArg not (decide_eq_false g2))]
theorem Qps (H:Heap) (av:HV) (mb:Nat) (u:Int) (c:Nat) {v0:HV} {H0:Heap} (g0:some (HV.sl H.length 0 0 none 0 1,H++[Blk.b []])=some (v0,H0)) (y11 y12 y13 y14 y15 y16 y19 y20 y21 y22 y23 y24 y25 y26 y27:HV:=Ud): RU F 48 65170 B48 (e48 q ls w la mb av y11 y12 y13 y14 y15 y16 (.i u) (.n c) y19 y20 y21 y22 y23 y24 y25 y26 y27) H .normal (e48 q ls w la mb av y11 y12 y13 y14 y15 y16 (.i u) (.n c) v0 y20 y21 y22 y23 y24 y25 y26 y27) H0 :=
 hx N 60 [jR 23 0 g0]
theorem Qpt (H:Heap) (av:HV) (mb:Nat) (u:Int) (c:Nat) (ob s:Nat) (y11 y12 y13 y14 y15 y16 y20 y21 y22 y23 y24 y25 y26 y27:HV:=Ud): RU F 48 260684 B48 (e48 q ls w la mb av y11 y12 y13 y14 y15 y16 (.i u) (.n c) (.s ob s) y20 y21 y22 y23 y24 y25 y26 y27) H .normal (e48 q ls w la mb av y11 y12 y13 y14 y15 y16 (.i u) (.n c) (.s ob s) (.i (qA.wrap ((c:Int)+1))) y21 y22 y23 y24 y25 y26 y27) H :=
 hx N 60 []
theorem Qpu (H:Heap) (av:HV) (mb:Nat) (u:Int) (c:Nat) (ob s r:Nat) (x y:Int) {x0:Int} {a0:HV} {H0:Heap} {v0:HV} (g0:(r:Int)<(q:Int)) (g1:IX 24 (.a la) (.n r) (.vptr (.i x0))) (g2:x0=(r:Int)) (g3:IX 24 av (.n r) (a0)) (g4:LD H 3 (a0) (.i y)) (g5:y=(c:Int)) (g6:W5 H 1 8 (.s ob s) [.n r]=some (v0,H0)) (y11 y12 y13 y14 y15 y16 y21 y22 y23 y24 y25 y26 y27:HV:=Ud): RU F 48 1042740 B48 (e48 q ls w la mb av y11 y12 y13 y14 y15 y16 (.i u) (.n c) (.s ob s) (.n r) y21 y22 y23 y24 y25 y26 y27) H .normal (e48 q ls w la mb av y11 y12 y13 y14 y15 y16 (.i u) (.n c) v0 (.i (qA.wrap ((r:Int)+1))) y21 y22 y23 y24 y25 y26 y27) H0 :=
 hx N 60 [jT 25 2 H g0,jO 27 2 H g1,jT 27 5 H g2,jO 27 9 H g3,jO 27 10 H g4,jT 27 12 H g5,jR 28 3 g6]
theorem Qpv (H:Heap) (av:HV) (mb:Nat) (u:Int) (c:Nat) (ob s r:Nat) (x y:Int) {x0:Int} {a0:HV} (g0:(r:Int)<(q:Int)) (g1:IX 24 (.a la) (.n r) (.vptr (.i x0))) (g2:x0=(r:Int)) (g3:IX 24 av (.n r) (a0)) (g4:LD H 3 (a0) (.i y)) (g5:¬(y=(c:Int))) (y11 y12 y13 y14 y15 y16 y21 y22 y23 y24 y25 y26 y27:HV:=Ud): RU F 48 1042740 B48 (e48 q ls w la mb av y11 y12 y13 y14 y15 y16 (.i u) (.n c) (.s ob s) (.n r) y21 y22 y23 y24 y25 y26 y27) H .normal (e48 q ls w la mb av y11 y12 y13 y14 y15 y16 (.i u) (.n c) (.s ob s) (.i (qA.wrap ((r:Int)+1))) y21 y22 y23 y24 y25 y26 y27) H :=
 hx N 60 [jT 25 2 H g0,jO 27 2 H g1,jT 27 5 H g2,jO 27 9 H g3,jO 27 10 H g4,jF 27 12 H g5]
theorem Qpw (H:Heap) (av:HV) (mb:Nat) (u:Int) (c:Nat) (ob s r:Nat) (x y:Int) {x0:Int} (g0:(r:Int)<(q:Int)) (g1:IX 24 (.a la) (.n r) (.vptr (.i x0))) (g2:¬(x0=(r:Int))) (y11 y12 y13 y14 y15 y16 y21 y22 y23 y24 y25 y26 y27:HV:=Ud): RU F 48 1042740 B48 (e48 q ls w la mb av y11 y12 y13 y14 y15 y16 (.i u) (.n c) (.s ob s) (.n r) y21 y22 y23 y24 y25 y26 y27) H .normal (e48 q ls w la mb av y11 y12 y13 y14 y15 y16 (.i u) (.n c) (.s ob s) (.i (qA.wrap ((r:Int)+1))) y21 y22 y23 y24 y25 y26 y27) H :=
 hx N 60 [jT 25 2 H g0,jO 27 2 H g1,jF 27 5 H g2]
theorem Qpx (H:Heap) (av:HV) (mb:Nat) (u:Int) (c:Nat) (ob s r:Nat) (x y:Int) (g0:¬((r:Int)<(q:Int))) (y11 y12 y13 y14 y15 y16 y21 y22 y23 y24 y25 y26 y27:HV:=Ud): RU F 48 1042740 B48 (e48 q ls w la mb av y11 y12 y13 y14 y15 y16 (.i u) (.n c) (.s ob s) (.n r) y21 y22 y23 y24 y25 y26 y27) H (.exit 6) (e48 q ls w la mb av y11 y12 y13 y14 y15 y16 (.i u) (.n c) (.s ob s) (.n r) y21 y22 y23 y24 y25 y26 y27) H :=
 hx N 60 [jF 25 2 H g0]
theorem Qpy (H:Heap) (av:HV) (mb:Nat) (u:Int) (c:Nat) (ob s:Nat) {v0:HV} {H0:Heap} (g0:some (HV.sl H.length 0 0 none 0 1,H++[Blk.b []])=some (v0,H0)) (y11 y12 y13 y14 y15 y16 y20 y21 y22 y23 y24 y25 y26 y27:HV:=Ud): RU F 48 260686 B48 (e48 q ls w la mb av y11 y12 y13 y14 y15 y16 (.i u) (.n c) (.s ob s) y20 y21 y22 y23 y24 y25 y26 y27) H .normal (e48 q ls w la mb av y11 y12 y13 y14 y15 y16 (.i u) (.n c) (.s ob s) y20 v0 y22 y23 y24 y25 y26 y27) H0 :=
 hx N 60 [jR 29 0 g0]
theorem Qpz (H:Heap) (av:HV) (mb:Nat) (u:Int) (c:Nat) (ob s zb t:Nat) (y11 y12 y13 y14 y15 y16 y20 y22 y23 y24 y25 y26 y27:HV:=Ud): RU F 48 1042748 B48 (e48 q ls w la mb av y11 y12 y13 y14 y15 y16 (.i u) (.n c) (.s ob s) y20 (.s zb t) y22 y23 y24 y25 y26 y27) H .normal (e48 q ls w la mb av y11 y12 y13 y14 y15 y16 (.i u) (.n c) (.s ob s) y20 (.s zb t) (.i 0) y23 y24 y25 y26 y27) H :=
 hx N 60 []
theorem QpA (H:Heap) (av:HV) (mb:Nat) (u:Int) (c:Nat) (ob s zb t i:Nat) (g0:(i:Int)<(s:Int)) (y11 y12 y13 y14 y15 y16 y20 y23 y24 y25 y26 y27:HV:=Ud): RU F 48 8341992 B48 (e48 q ls w la mb av y11 y12 y13 y14 y15 y16 (.i u) (.n c) (.s ob s) y20 (.s zb t) (.n i) y23 y24 y25 y26 y27) H .normal (e48 q ls w la mb av y11 y12 y13 y14 y15 y16 (.i u) (.n c) (.s ob s) y20 (.s zb t) (.n i) y23 y24 y25 y26 y27) H :=
 hx N 60 [jT 31 3 H g0]
theorem QpB (H:Heap) (av:HV) (mb:Nat) (u:Int) (c:Nat) (ob s zb t i:Nat) (g0:¬((i:Int)<(s:Int))) (y11 y12 y13 y14 y15 y16 y20 y23 y24 y25 y26 y27:HV:=Ud): RU F 48 8341992 B48 (e48 q ls w la mb av y11 y12 y13 y14 y15 y16 (.i u) (.n c) (.s ob s) y20 (.s zb t) (.n i) y23 y24 y25 y26 y27) H (.exit 8) (e48 q ls w la mb av y11 y12 y13 y14 y15 y16 (.i u) (.n c) (.s ob s) y20 (.s zb t) (.n i) y23 y24 y25 y26 y27) H :=
 hx N 60 [jF 31 3 H g0]
theorem QpC (H:Heap) (av:HV) (mb:Nat) (u:Int) (c:Nat) (ob s zb t i:Nat) {v0:HV} {H0:Heap} (g0:some (HV.sl H.length 0 0 none 0 1,H++[Blk.b []])=some (v0,H0)) (y11 y12 y13 y14 y15 y16 y20 y23 y24 y25 y26 y27:HV:=Ud): RU F 48 66735944 B48 (e48 q ls w la mb av y11 y12 y13 y14 y15 y16 (.i u) (.n c) (.s ob s) y20 (.s zb t) (.n i) y23 y24 y25 y26 y27) H .normal (e48 q ls w la mb av y11 y12 y13 y14 y15 y16 (.i u) (.n c) (.s ob s) y20 (.s zb t) (.n i) v0 y24 y25 y26 y27) H0 :=
 hx N 60 [jR 33 0 g0]
theorem QpD (H:Heap) (av:HV) (mb:Nat) (u:Int) (c:Nat) (ob s zb t i rb d:Nat) (y11 y12 y13 y14 y15 y16 y20 y24 y25 y26 y27:HV:=Ud): RU F 48 266943780 B48 (e48 q ls w la mb av y11 y12 y13 y14 y15 y16 (.i u) (.n c) (.s ob s) y20 (.s zb t) (.n i) (.s rb d) y24 y25 y26 y27) H .normal (e48 q ls w la mb av y11 y12 y13 y14 y15 y16 (.i u) (.n c) (.s ob s) y20 (.s zb t) (.n i) (.s rb d) (.i 0) y25 y26 y27) H :=
 hx N 60 []
theorem QpE (H:Heap) (av:HV) (mb:Nat) (u:Int) (c:Nat) (ob s zb t i rb d j ra k m:Nat) (x:Int) {H0:Heap} {v0:HV} (g0:(j:Int)<(s:Int)) (g1:IS 24 ob s i) (g2:LD H 3 (.ptr ob i 0 s) (.n k)) (g3:IO 57 mb q k) (g4:LD H 24 (.ptr mb k 0 q) (.o ra q)) (g5:IS 24 ob s j) (g6:LD H 3 (.ptr ob j 0 s) (.n m)) (g7:IO 24 ra q m) (g8:LD H 3 (.ptr ra m 0 q) (.i x)) (g9:W5 H 1 8 (.s rb d) [.i x]=some (v0,H0)) (y11 y12 y13 y14 y15 y16 y20 y25 y26 y27:HV:=Ud): RU F 48 1067775124 B48 (e48 q ls w la mb av y11 y12 y13 y14 y15 y16 (.i u) (.n c) (.s ob s) y20 (.s zb t) (.n i) (.s rb d) (.n j) y25 y26 y27) H .normal (e48 q ls w la mb av y11 y12 y13 y14 y15 y16 (.i u) (.n c) (.s ob s) y20 (.s zb t) (.n i) v0 (.i (qA.wrap ((j:Int)+1))) y25 y26 y27) H0 :=
 hx N 60 [jT 35 3 H g0,jO 37 4 H g1,jO 37 5 H g2,jO 37 6 H g3,jO 37 7 H g4,jO 37 10 H g5,jO 37 11 H g6,jO 37 12 H g7,jO 37 13 H g8,jR 37 15 g9]
theorem QpF (H:Heap) (av:HV) (mb:Nat) (u:Int) (c:Nat) (ob s zb t i rb d j ra k m:Nat) (x:Int) (g0:¬((j:Int)<(s:Int))) (y11 y12 y13 y14 y15 y16 y20 y25 y26 y27:HV:=Ud): RU F 48 1067775124 B48 (e48 q ls w la mb av y11 y12 y13 y14 y15 y16 (.i u) (.n c) (.s ob s) y20 (.s zb t) (.n i) (.s rb d) (.n j) y25 y26 y27) H (.exit 10) (e48 q ls w la mb av y11 y12 y13 y14 y15 y16 (.i u) (.n c) (.s ob s) y20 (.s zb t) (.n i) (.s rb d) (.n j) y25 y26 y27) H :=
 hx N 60 [jF 35 3 H g0]
theorem QpG (H:Heap) (av:HV) (mb:Nat) (u:Int) (c:Nat) (ob s zb t i rb d tb:Nat) {H0:Heap} {H1:Heap} {v0:HV} (g0:Qao Tp false false 57 1 [(0,.s rb d)] H=some (.o tb 1,H0)) (g1:Wq Tp .append [57,57] [.s zb t,.o tb 1] H0=some (v0,H1)) (y11 y12 y13 y14 y15 y16 y20 y24 y25 y26 y27:HV:=Ud): RU F 48 133471891 B48 (e48 q ls w la mb av y11 y12 y13 y14 y15 y16 (.i u) (.n c) (.s ob s) y20 (.s zb t) (.n i) (.s rb d) y24 y25 y26 y27) H .normal (e48 q ls w la mb av y11 y12 y13 y14 y15 y16 (.i u) (.n c) (.s ob s) y20 v0 (.n i) (.s rb d) y24 y25 y26 y27) H1 :=
 hx N 60 [jR 38 2 g0,jR 38 3 g1]
theorem QpH (H:Heap) (av:HV) (mb:Nat) (u:Int) (c:Nat) (ob s zb t i:Nat) (y11 y12 y13 y14 y15 y16 y20 y23 y24 y25 y26 y27:HV:=Ud): RU F 48 16683987 B48 (e48 q ls w la mb av y11 y12 y13 y14 y15 y16 (.i u) (.n c) (.s ob s) y20 (.s zb t) (.n i) y23 y24 y25 y26 y27) H .normal (e48 q ls w la mb av y11 y12 y13 y14 y15 y16 (.i u) (.n c) (.s ob s) y20 (.s zb t) (.i (qA.wrap ((i:Int)+1))) y23 y24 y25 y26 y27) H :=
 hx N 60 []
theorem QpI (H:Heap) (av:HV) (mb:Nat) (u:Int) (c:Nat) (ob s zb t:Nat) (f g:Int) {H0:Heap} {H1:Heap} (g0:CM F 66 [.s zb t,.i 1000000007] H (.i f) H0) (g1:CM F 66 [.s zb t,.i 998244353] H0 (.i g) H1) (y11 y12 y13 y14 y15 y16 y20 y22 y23 y24 y25 y26 y27:HV:=Ud): RU F 48 1042750 B48 (e48 q ls w la mb av y11 y12 y13 y14 y15 y16 (.i u) (.n c) (.s ob s) y20 (.s zb t) y22 y23 y24 y25 y26 y27) H .normal (e48 q ls w la mb av y11 y12 y13 y14 y15 y16 (.i u) (.n c) (.s ob s) y20 (.s zb t) y22 y23 y24 (.i f) (.i g) y27) H1 :=
 hx N 60 [jD 39 1 g0,jD 39 3 g1]
theorem QpJ (H:Heap) (av:HV) (mb:Nat) (u:Int) (c:Nat) (ob s zb t:Nat) (f g y:Int) {H0:Heap} (g0:CM F 67 [.i 1755654,.i 998244351,.i 998244353] H (.i y) H0) (y11 y12 y13 y14 y15 y16 y20 y22 y23 y24 y27:HV:=Ud): RU F 48 2085502 B48 (e48 q ls w la mb av y11 y12 y13 y14 y15 y16 (.i u) (.n c) (.s ob s) y20 (.s zb t) y22 y23 y24 (.i f) (.i g) y27) H .normal (e48 q ls w la mb av y11 y12 y13 y14 y15 y16 (.i u) (.n c) (.s ob s) y20 (.s zb t) y22 y23 y24 (.i f) (.i g) (.i ((qA.wrap ((qA.wrap (qA.wrap (g-(f:Int).tmod 998244353)+998244353):Int).tmod 998244353*y):Int).tmod 998244353))) H0 :=
 hx N 60 [jD 40 6 g0]
theorem QhE (H:Heap) (av:HV) (mb:Nat) (u:Int) (c:Nat) (ob s zb t:Nat) (f g z:Int) (y11 y12 y13 y14 y15 y16 y20 y22 y23 y24:HV:=Ud): RU F 48 2085503 B48 (e48 q ls w la mb av y11 y12 y13 y14 y15 y16 (.i u) (.n c) (.s ob s) y20 (.s zb t) y22 y23 y24 (.i f) (.i g) (.i z)) H .normal (e48 q ls w la mb av y11 y12 y13 y14 y15 y16 (.i (qA.wrap (u*qA.wrap (f+qA.wrap (1000000007*z))))) (.n c) (.s ob s) y20 (.s zb t) y22 y23 y24 (.i f) (.i g) (.i z)) H :=
 hx N 60 []
theorem Qcn (H:Heap) (av:HV) (mb:Nat) (u:Int) (c:Nat) (y11 y12 y13 y14 y15 y16 y19 y20 y21 y22 y23 y24 y25 y26 y27:HV:=Ud): RU F 48 8147 B48 (e48 q ls w la mb av y11 y12 y13 y14 y15 y16 (.i u) (.n c) y19 y20 y21 y22 y23 y24 y25 y26 y27) H .normal (e48 q ls w la mb av y11 y12 y13 y14 y15 y16 (.i u) (.i (qA.wrap ((c:Int)+1))) y19 y20 y21 y22 y23 y24 y25 y26 y27) H :=
 hx N 60 []
theorem QpK (H:Heap) (av:HV) (mb:Nat) (u:Int) (y11 y12 y13 y14 y15 y16 y18 y19 y20 y21 y22 y23 y24 y25 y26 y27:HV:=Ud): RU F 48 255 B48 (e48 q ls w la mb av y11 y12 y13 y14 y15 y16 (.i u) y18 y19 y20 y21 y22 y23 y24 y25 y26 y27) H .ret (QQ (.n q) (.g ls) (.i w) (.a la) (.i u) av (.o mb q) y11 y12 y13 y14 y15 y16 (.i u) y18 y19 y20 y21 y22 y23 y24 y25 y26 y27) H :=
 hx N 60 []
end
section
variable {F:FuncId→Option (List HV→Option HV)}
noncomputable def B66:Code:=Try.f66.body.getD .skip
abbrev Q2 (v0 v1 v4 v5 v6 v7 v8 v9 v10 v11 v12 v13 v14 v15 v16 v17 v18:HV):Env:=[(0,v0),(1,v1),(4,v4),(5,v5),(6,v6),(7,v7),(8,v8),(9,v9),(10,v10),(11,v11),(12,v12),(13,v13),(14,v14),(15,v15),(16,v16),(17,v17),(18,v18)]
end
abbrev e66 (ms:List HV) (p:Int) (u3 u4 u5 u6 u7 u8 u9 u10 u11 u12 u13 u14 u15 u16:HV):Env:=Q2 (.a ms) (.i p) (.i 0) u3 u4 u5 u6 u7 u8 u9 u10 u11 u12 u13 u14 u15 u16
section
variable {F:FuncId→Option (List HV→Option HV)}
variable (N:Nat) (ms:List HV) (p:Int)
include N ms p
theorem QpL:RU F 66 2 B66 [(0,.a ms),(1,.i p)] [] .normal (e66 ms p Ud Ud Ud Ud Ud Ud Ud Ud Ud Ud Ud Ud Ud Ud) [] :=
 hx N 60 []
end
section
variable {F:FuncId→Option (List HV→Option HV)}
variable (N:Nat) (ms:List HV) (p:Int)
include N ms p
theorem QpM (H:Heap) {v0:HV} {H0:Heap} (g0:some (HV.sl H.length 0 0 none 0 1,H++[Blk.b []])=some (v0,H0)) (y5 y6 y7 y8 y9 y10 y11 y12 y13 y14 y15 y16 y17 y18:HV:=Ud): RU F 66 6 B66 (e66 ms p y5 y6 y7 y8 y9 y10 y11 y12 y13 y14 y15 y16 y17 y18) H .normal (e66 ms p v0 y6 y7 y8 y9 y10 y11 y12 y13 y14 y15 y16 y17 y18) H0 :=
 hx N 60 [jR 1 0 g0]
theorem QpN (H:Heap) (mb c:Nat) (y6 y7 y8 y9 y10 y11 y12 y13 y14 y15 y16 y17 y18:HV:=Ud): RU F 66 28 B66 (e66 ms p (.s mb c) y6 y7 y8 y9 y10 y11 y12 y13 y14 y15 y16 y17 y18) H .normal (e66 ms p (.s mb c) (.i 0) y7 y8 y9 y10 y11 y12 y13 y14 y15 y16 y17 y18) H :=
 hx N 60 []
theorem QpO (H:Heap) (mb c:Nat) (i:Nat) (g0:(i:Int)<(ms.length:Int)) (y7 y8 y9 y10 y11 y12 y13 y14 y15 y16 y17 y18:HV:=Ud): RU F 66 232 B66 (e66 ms p (.s mb c) (.n i) y7 y8 y9 y10 y11 y12 y13 y14 y15 y16 y17 y18) H .normal (e66 ms p (.s mb c) (.n i) y7 y8 y9 y10 y11 y12 y13 y14 y15 y16 y17 y18) H :=
 hx N 60 [jT 3 3 H g0]
theorem QpP (H:Heap) (mb c:Nat) (i:Nat) (g0:¬((i:Int)<(ms.length:Int))) (y7 y8 y9 y10 y11 y12 y13 y14 y15 y16 y17 y18:HV:=Ud): RU F 66 232 B66 (e66 ms p (.s mb c) (.n i) y7 y8 y9 y10 y11 y12 y13 y14 y15 y16 y17 y18) H (.exit 0) (e66 ms p (.s mb c) (.n i) y7 y8 y9 y10 y11 y12 y13 y14 y15 y16 y17 y18) H :=
 hx N 60 [jF 3 3 H g0]
theorem QpQ (H:Heap) (mb c:Nat) (i:Nat) {v0:HV} {H0:Heap} (g0:some (HV.sl H.length 0 0 none 0 1,H++[Blk.b []])=some (v0,H0)) (y7 y8 y9 y10 y11 y12 y13 y14 y15 y16 y17 y18:HV:=Ud): RU F 66 1864 B66 (e66 ms p (.s mb c) (.n i) y7 y8 y9 y10 y11 y12 y13 y14 y15 y16 y17 y18) H .normal (e66 ms p (.s mb c) (.n i) v0 y8 y9 y10 y11 y12 y13 y14 y15 y16 y17 y18) H0 :=
 hx N 60 [jR 5 0 g0]
theorem QpR (H:Heap) (mb c:Nat) (i:Nat) (rb d:Nat) (y8 y9 y10 y11 y12 y13 y14 y15 y16 y17 y18:HV:=Ud): RU F 66 7460 B66 (e66 ms p (.s mb c) (.n i) (.s rb d) y8 y9 y10 y11 y12 y13 y14 y15 y16 y17 y18) H .normal (e66 ms p (.s mb c) (.n i) (.s rb d) (.i 0) y9 y10 y11 y12 y13 y14 y15 y16 y17 y18) H :=
 hx N 60 []
theorem QpS (H:Heap) (mb c:Nat) (i:Nat) (rb d:Nat) (j:Nat) (la:List HV) (x:Int) {H0:Heap} {v0:HV} (g0:(j:Int)<(ms.length:Int)) (g1:IX 57 (.a ms) (.n i) (.vptr (.a la))) (g2:IX 24 (.a la) (.n j) (.vptr (.i x))) (g3:BV .rem 3 (.i x) (.i p) (.i ((x:Int).tmod p))) (g4:BV .rem 3 (.i (qA.wrap ((x:Int).tmod p+p))) (.i p) (.i ((qA.wrap ((x:Int).tmod p+p):Int).tmod p))) (g5:W5 H 1 8 (.s rb d) [.i ((qA.wrap ((x:Int).tmod p+p):Int).tmod p)]=some (v0,H0)) (y9 y10 y11 y12 y13 y14 y15 y16 y17 y18:HV:=Ud): RU F 66 29844 B66 (e66 ms p (.s mb c) (.n i) (.s rb d) (.n j) y9 y10 y11 y12 y13 y14 y15 y16 y17 y18) H .normal (e66 ms p (.s mb c) (.n i) v0 (.i (qA.wrap ((j:Int)+1))) y9 y10 y11 y12 y13 y14 y15 y16 y17 y18) H0 :=
 hx N 60 [jT 7 3 H g0,jO 9 3 H g1,jO 9 6 H g2,jO 9 9 H g3,jO 9 13 H g4,jR 9 15 g5]
theorem QpT (H:Heap) (mb c:Nat) (i:Nat) (rb d:Nat) (j:Nat) (la:List HV) (x:Int) (g0:¬((j:Int)<(ms.length:Int))) (y9 y10 y11 y12 y13 y14 y15 y16 y17 y18:HV:=Ud): RU F 66 29844 B66 (e66 ms p (.s mb c) (.n i) (.s rb d) (.n j) y9 y10 y11 y12 y13 y14 y15 y16 y17 y18) H (.exit 2) (e66 ms p (.s mb c) (.n i) (.s rb d) (.n j) y9 y10 y11 y12 y13 y14 y15 y16 y17 y18) H :=
 hx N 60 [jF 7 3 H g0]
theorem QpU (H:Heap) (mb c:Nat) (i:Nat) (rb d:Nat) (tb:Nat) {H0:Heap} {H1:Heap} {v0:HV} (g0:Qao Tp false false 57 1 [(0,.s rb d)] H=some (.o tb 1,H0)) (g1:Wq Tp .append [57,57] [.s mb c,.o tb 1] H0=some (v0,H1)) (y8 y9 y10 y11 y12 y13 y14 y15 y16 y17 y18:HV:=Ud): RU F 66 3731 B66 (e66 ms p (.s mb c) (.n i) (.s rb d) y8 y9 y10 y11 y12 y13 y14 y15 y16 y17 y18) H .normal (e66 ms p v0 (.n i) (.s rb d) y8 y9 y10 y11 y12 y13 y14 y15 y16 y17 y18) H1 :=
 hx N 60 [jR 10 2 g0,jR 10 3 g1]
theorem QpV (H:Heap) (mb c:Nat) (i:Nat) (y7 y8 y9 y10 y11 y12 y13 y14 y15 y16 y17 y18:HV:=Ud): RU F 66 467 B66 (e66 ms p (.s mb c) (.n i) y7 y8 y9 y10 y11 y12 y13 y14 y15 y16 y17 y18) H .normal (e66 ms p (.s mb c) (.i (qA.wrap ((i:Int)+1))) y7 y8 y9 y10 y11 y12 y13 y14 y15 y16 y17 y18) H :=
 hx N 60 []
theorem QpW (H:Heap) (mb q:Nat) (y6 y7 y8 y9 y10 y11 y12 y13 y14 y15 y16 y17 y18:HV:=Ud): RU F 66 30 B66 (e66 ms p (.s mb q) y6 y7 y8 y9 y10 y11 y12 y13 y14 y15 y16 y17 y18) H .normal (e66 ms p (.s mb q) y6 y7 y8 (.i 1) y10 y11 y12 y13 y14 y15 y16 y17 y18) H :=
 hx N 60 []
theorem QpX (H:Heap) (mb q:Nat) (u:Int) (y6 y7 y8 y10 y11 y12 y13 y14 y15 y16 y17 y18:HV:=Ud): RU F 66 124 B66 (e66 ms p (.s mb q) y6 y7 y8 (.i u) y10 y11 y12 y13 y14 y15 y16 y17 y18) H .normal (e66 ms p (.s mb q) y6 y7 y8 (.i u) (.i 0) y11 y12 y13 y14 y15 y16 y17 y18) H :=
 hx N 60 []
theorem QpY (H:Heap) (mb q:Nat) (u:Int) (c:Nat) (g0:(c:Int)<(q:Int)) (y6 y7 y8 y11 y12 y13 y14 y15 y16 y17 y18:HV:=Ud): RU F 66 1000 B66 (e66 ms p (.s mb q) y6 y7 y8 (.i u) (.n c) y11 y12 y13 y14 y15 y16 y17 y18) H .normal (e66 ms p (.s mb q) y6 y7 y8 (.i u) (.n c) y11 y12 y13 y14 y15 y16 y17 y18) H :=
 hx N 60 [jT 13 3 H g0]
theorem QpZ (H:Heap) (mb q:Nat) (u:Int) (c:Nat) (g0:¬((c:Int)<(q:Int))) (y6 y7 y8 y11 y12 y13 y14 y15 y16 y17 y18:HV:=Ud): RU F 66 1000 B66 (e66 ms p (.s mb q) y6 y7 y8 (.i u) (.n c) y11 y12 y13 y14 y15 y16 y17 y18) H (.exit 4) (e66 ms p (.s mb q) y6 y7 y8 (.i u) (.n c) y11 y12 y13 y14 y15 y16 y17 y18) H :=
 hx N 60 [jF 13 3 H g0]
theorem Qp0 (H:Heap) (mb q:Nat) (u:Int) (c:Nat) (y6 y7 y8 y11 y12 y13 y14 y15 y16 y17 y18:HV:=Ud): RU F 66 8008 B66 (e66 ms p (.s mb q) y6 y7 y8 (.i u) (.n c) y11 y12 y13 y14 y15 y16 y17 y18) H .normal (e66 ms p (.s mb q) y6 y7 y8 (.i u) (.n c) (.n c) y12 y13 y14 y15 y16 y17 y18) H :=
 hx N 60 []
theorem Qp1 (H:Heap) (mb q:Nat) (u:Int) (c:Nat) (r:Nat) (rb:Nat) (x:Int) (g0:(r:Int)<(q:Int)) (g1:IS 57 mb q r) (g2:LD H 24 (.ptr mb r 0 q) (.s rb q)) (g3:IS 24 rb q c) (g4:LD H 3 (.ptr rb c 0 q) (.i x)) (g5:x=0) (y6 y7 y8 y12 y13 y14 y15 y16 y17 y18:HV:=Ud): RU F 66 64072 B66 (e66 ms p (.s mb q) y6 y7 y8 (.i u) (.n c) (.n r) y12 y13 y14 y15 y16 y17 y18) H .normal (e66 ms p (.s mb q) y6 y7 y8 (.i u) (.n c) (.i (qA.wrap ((r:Int)+1))) y12 y13 y14 y15 y16 y17 y18) H :=
 hx N 60 [jT 16 3 H g0,jO 16 7 H g1,jO 16 8 H g2,jO 16 10 H g3,jO 16 11 H g4,jT 16 12 H g5]
theorem Qp2 (H:Heap) (mb q:Nat) (u:Int) (c:Nat) (r:Nat) (rb:Nat) (x:Int) (g0:(r:Int)<(q:Int)) (g1:IS 57 mb q r) (g2:LD H 24 (.ptr mb r 0 q) (.s rb q)) (g3:IS 24 rb q c) (g4:LD H 3 (.ptr rb c 0 q) (.i x)) (g5:¬(x=0)) (y6 y7 y8 y12 y13 y14 y15 y16 y17 y18:HV:=Ud): RU F 66 64072 B66 (e66 ms p (.s mb q) y6 y7 y8 (.i u) (.n c) (.n r) y12 y13 y14 y15 y16 y17 y18) H (.exit 6) (e66 ms p (.s mb q) y6 y7 y8 (.i u) (.n c) (.n r) y12 y13 y14 y15 y16 y17 y18) H :=
 hx N 60 [jT 16 3 H g0,jO 16 7 H g1,jO 16 8 H g2,jO 16 10 H g3,jO 16 11 H g4,jF 16 12 H g5]
theorem Qp3 (H:Heap) (mb q:Nat) (u:Int) (c:Nat) (r:Nat) (rb:Nat) (x:Int) (g0:¬((r:Int)<(q:Int))) (y6 y7 y8 y12 y13 y14 y15 y16 y17 y18:HV:=Ud): RU F 66 64072 B66 (e66 ms p (.s mb q) y6 y7 y8 (.i u) (.n c) (.n r) y12 y13 y14 y15 y16 y17 y18) H (.exit 6) (e66 ms p (.s mb q) y6 y7 y8 (.i u) (.n c) (.n r) y12 y13 y14 y15 y16 y17 y18) H :=
 hx N 60 [jF 16 3 H g0]
theorem Qp4 (H:Heap) (mb q:Nat) (u:Int) (c:Nat) (r:Nat) (g0:(r:Int)=(q:Int)) (y6 y7 y8 y12 y13 y14 y15 y16 y17 y18:HV:=Ud): RU F 66 32038 B66 (e66 ms p (.s mb q) y6 y7 y8 (.i u) (.n c) (.n r) y12 y13 y14 y15 y16 y17 y18) H .ret (e66 ms p (.s mb q) y6 y7 y8 (.i u) (.n c) (.n r) y12 y13 y14 y15 y16 y17 y18) H :=
 hx N 60 [jT 18 3 H g0]
theorem Qp5 (H:Heap) (mb q:Nat) (u:Int) (c:Nat) (r:Nat) (g0:¬((r:Int)=(q:Int))) (y6 y7 y8 y12 y13 y14 y15 y16 y17 y18:HV:=Ud): RU F 66 32038 B66 (e66 ms p (.s mb q) y6 y7 y8 (.i u) (.n c) (.n r) y12 y13 y14 y15 y16 y17 y18) H .normal (e66 ms p (.s mb q) y6 y7 y8 (.i u) (.n c) (.n r) y12 y13 y14 y15 y16 y17 y18) H :=
 hx N 60 [jF 18 3 H g0]
theorem Qp6 (H:Heap) (mb q:Nat) (u:Int) (c:Nat) (r:Nat) (ra rb:Nat) {H0:Heap} {H1:Heap} (g0:(c:Int)<(r:Int)) (g1:BV .rem 3 (.i (qA.wrap (p-u))) (.i p) (.i ((qA.wrap (p-u):Int).tmod p))) (g2:IS 57 mb q r) (g3:LD H 24 (.ptr mb r 0 q) (.s rb q)) (g4:IS 57 mb q c) (g5:LD H 24 (.ptr mb c 0 q) (.s ra q)) (g6:IS 57 mb q r) (g7:ST H 24 (.ptr mb r 0 q) (.s ra q) H0) (g8:IS 57 mb q c) (g9:ST H0 24 (.ptr mb c 0 q) (.s rb q) H1) (y6 y7 y8 y12 y13 y14 y15 y16 y17 y18:HV:=Ud): RU F 66 64078 B66 (e66 ms p (.s mb q) y6 y7 y8 (.i u) (.n c) (.n r) y12 y13 y14 y15 y16 y17 y18) H .normal (e66 ms p (.s mb q) y6 y7 y8 (.i ((qA.wrap (p-u):Int).tmod p)) (.n c) (.n r) (.s rb q) y13 y14 y15 y16 y17 y18) H1 :=
 hx N 60 [jT 20 2 H g0,jO 21 4 H g1,jO 22 2 H g2,jO 22 3 H g3,jO 23 4 H g4,jO 23 5 H g5,jO 23 6 H g6,jS 23 7 g7,jO 24 3 H0 g8,jS 24 4 g9]
theorem Qp7 (H:Heap) (mb q:Nat) (u:Int) (c:Nat) (r:Nat) (ra rb:Nat) (g0:¬((c:Int)<(r:Int))) (y6 y7 y8 y12 y13 y14 y15 y16 y17 y18:HV:=Ud): RU F 66 64078 B66 (e66 ms p (.s mb q) y6 y7 y8 (.i u) (.n c) (.n r) y12 y13 y14 y15 y16 y17 y18) H .normal (e66 ms p (.s mb q) y6 y7 y8 (.i u) (.n c) (.n r) y12 y13 y14 y15 y16 y17 y18) H :=
 hx N 60 [jF 20 2 H g0]
theorem Qp8 (H:Heap) (mb q:Nat) (u:Int) (c:Nat) (r:Nat) (rb:Nat) (g0:IS 57 mb q c) (g1:LD H 24 (.ptr mb c 0 q) (.s rb q)) (y6 y7 y8 y12 y13 y14 y15 y16 y17 y18:HV:=Ud): RU F 66 128158 B66 (e66 ms p (.s mb q) y6 y7 y8 (.i u) (.n c) (.n r) y12 y13 y14 y15 y16 y17 y18) H .normal (e66 ms p (.s mb q) y6 y7 y8 (.i u) (.n c) (.n r) y12 (.s rb q) y14 y15 y16 y17 y18) H :=
 hx N 60 [jO 25 2 H g0,jO 25 3 H g1]
theorem Qp9 (H:Heap) (mb q:Nat) (u:Int) (c:Nat) (r:Nat) (rb:Nat) (x:Int) (g0:IS 24 rb q c) (g1:LD H 3 (.ptr rb c 0 q) (.i x)) (g2:BV .rem 3 (.i (qA.wrap (u*x))) (.i p) (.i ((qA.wrap (u*x):Int).tmod p))) (y6 y7 y8 y12 y14 y15 y16 y17 y18:HV:=Ud): RU F 66 256318 B66 (e66 ms p (.s mb q) y6 y7 y8 (.i u) (.n c) (.n r) y12 (.s rb q) y14 y15 y16 y17 y18) H .normal (e66 ms p (.s mb q) y6 y7 y8 (.i ((qA.wrap (u*x):Int).tmod p)) (.n c) (.n r) y12 (.s rb q) y14 y15 y16 y17 y18) H :=
 hx N 60 [jO 26 3 H g0,jO 26 4 H g1,jO 26 7 H g2]
theorem Qqa (H:Heap) (mb q:Nat) (u:Int) (c:Nat) (r:Nat) (rb:Nat) (x v:Int) {H0:Heap} (g0:IS 24 rb q c) (g1:LD H 3 (.ptr rb c 0 q) (.i x)) (g2:CM F 67 [.i x,.i (qA.wrap (p-2)),.i p] H (.i v) H0) (y6 y7 y8 y12 y14 y15 y16 y17 y18:HV:=Ud): RU F 66 512638 B66 (e66 ms p (.s mb q) y6 y7 y8 (.i u) (.n c) (.n r) y12 (.s rb q) y14 y15 y16 y17 y18) H .normal (e66 ms p (.s mb q) y6 y7 y8 (.i u) (.n c) (.n r) y12 (.s rb q) (.i v) y15 y16 y17 y18) H0 :=
 hx N 60 [jO 27 2 H g0,jO 27 3 H g1,jD 27 7 g2]
theorem Qqb (H:Heap) (mb q:Nat) (u:Int) (c:Nat) (rb:Nat) (v:Int) (y6 y7 y8 y11 y12 y15 y16 y17 y18:HV:=Ud): RU F 66 1025278 B66 (e66 ms p (.s mb q) y6 y7 y8 (.i u) (.n c) y11 y12 (.s rb q) (.i v) y15 y16 y17 y18) H .normal (e66 ms p (.s mb q) y6 y7 y8 (.i u) (.n c) y11 y12 (.s rb q) (.i v) (.i (qA.wrap ((c:Int)+1))) y16 y17 y18) H :=
 hx N 60 []
theorem Qqc (H:Heap) (mb q:Nat) (u:Int) (c:Nat) (rb:Nat) (v:Int) (i:Nat) (g0:(i:Int)<(q:Int)) (y6 y7 y8 y11 y12 y16 y17 y18:HV:=Ud): RU F 66 8202232 B66 (e66 ms p (.s mb q) y6 y7 y8 (.i u) (.n c) y11 y12 (.s rb q) (.i v) (.n i) y16 y17 y18) H .normal (e66 ms p (.s mb q) y6 y7 y8 (.i u) (.n c) y11 y12 (.s rb q) (.i v) (.n i) y16 y17 y18) H :=
 hx N 60 [jT 29 3 H g0]
theorem Qqd (H:Heap) (mb q:Nat) (u:Int) (c:Nat) (rb:Nat) (v:Int) (i:Nat) (g0:¬((i:Int)<(q:Int))) (y6 y7 y8 y11 y12 y16 y17 y18:HV:=Ud): RU F 66 8202232 B66 (e66 ms p (.s mb q) y6 y7 y8 (.i u) (.n c) y11 y12 (.s rb q) (.i v) (.n i) y16 y17 y18) H (.exit 8) (e66 ms p (.s mb q) y6 y7 y8 (.i u) (.n c) y11 y12 (.s rb q) (.i v) (.n i) y16 y17 y18) H :=
 hx N 60 [jF 29 3 H g0]
theorem QhF (H:Heap) (mb q:Nat) (u:Int) (c:Nat) (rb:Nat) (v:Int) (i ra:Nat) (g0:IS 57 mb q i) (g1:LD H 24 (.ptr mb i 0 q) (.s ra q)) (y6 y7 y8 y11 y12 y16 y17 y18:HV:=Ud): RU F 66 65617864 B66 (e66 ms p (.s mb q) y6 y7 y8 (.i u) (.n c) y11 y12 (.s rb q) (.i v) (.n i) y16 y17 y18) H .normal (e66 ms p (.s mb q) y6 y7 y8 (.i u) (.n c) y11 y12 (.s rb q) (.i v) (.n i) (.s ra q) y17 y18) H :=
 hx N 60 [jO 31 2 H g0,jO 31 3 H g1]
theorem QhG (H:Heap) (mb q:Nat) (u:Int) (c:Nat) (rb:Nat) (v:Int) (i ra:Nat) (y:Int) (g0:IS 24 ra q c) (g1:LD H 3 (.ptr ra c 0 q) (.i y)) (g2:BV .rem 3 (.i (qA.wrap (y*v))) (.i p) (.i ((qA.wrap (y*v):Int).tmod p))) (y6 y7 y8 y11 y12 y17 y18:HV:=Ud): RU F 66 131235730 B66 (e66 ms p (.s mb q) y6 y7 y8 (.i u) (.n c) y11 y12 (.s rb q) (.i v) (.n i) (.s ra q) y17 y18) H .normal (e66 ms p (.s mb q) y6 y7 y8 (.i u) (.n c) y11 y12 (.s rb q) (.i v) (.n i) (.s ra q) (.i ((qA.wrap (y*v):Int).tmod p)) y18) H :=
 hx N 60 [jO 32 2 H g0,jO 32 3 H g1,jO 32 7 H g2]
theorem QhH (H:Heap) (mb q:Nat) (u:Int) (c:Nat) (rb:Nat) (v:Int) (i ra:Nat) (f:Int) (y6 y7 y8 y11 y12 y18:HV:=Ud): RU F 66 262471462 B66 (e66 ms p (.s mb q) y6 y7 y8 (.i u) (.n c) y11 y12 (.s rb q) (.i v) (.n i) (.s ra q) (.i f) y18) H .normal (e66 ms p (.s mb q) y6 y7 y8 (.i u) (.n c) y11 y12 (.s rb q) (.i v) (.n i) (.s ra q) (.i f) (.n c)) H :=
 hx N 60 []
theorem QhI (H:Heap) (mb q:Nat) (u:Int) (c:Nat) (rb:Nat) (v:Int) (i ra:Nat) (f:Int) (j:Nat) (x y:Int) {H0:Heap} (g0:(j:Int)<(q:Int)) (g1:IS 24 ra q j) (g2:LD H 3 (.ptr ra j 0 q) (.i y)) (g3:IS 24 rb q j) (g4:LD H 3 (.ptr rb j 0 q) (.i x)) (g5:BV .rem 3 (.i (qA.wrap (y+qA.wrap (qA.wrap (p-f)*x)))) (.i p) (.i ((qA.wrap (y+qA.wrap (qA.wrap (p-f)*x)):Int).tmod p))) (g6:IS 24 ra q j) (g7:ST H 3 (.ptr ra j 0 q) (.i ((qA.wrap (y+qA.wrap (qA.wrap (p-f)*x)):Int).tmod p)) H0) (y6 y7 y8 y11 y12:HV:=Ud): RU F 66 1049885852 B66 (e66 ms p (.s mb q) y6 y7 y8 (.i u) (.n c) y11 y12 (.s rb q) (.i v) (.n i) (.s ra q) (.i f) (.n j)) H .normal (e66 ms p (.s mb q) y6 y7 y8 (.i u) (.n c) y11 y12 (.s rb q) (.i v) (.n i) (.s ra q) (.i f) (.i (qA.wrap ((j:Int)+1)))) H0 :=
 hx N 60 [jT 34 3 H g0,jO 36 4 H g1,jO 36 5 H g2,jO 36 11 H g3,jO 36 12 H g4,jO 36 16 H g5,jO 36 17 H g6,jS 36 18 g7]
theorem QhJ (H:Heap) (mb q:Nat) (u:Int) (c:Nat) (rb:Nat) (v:Int) (i ra:Nat) (f:Int) (j:Nat) (x y:Int) (g0:¬((j:Int)<(q:Int))) (y6 y7 y8 y11 y12:HV:=Ud): RU F 66 1049885852 B66 (e66 ms p (.s mb q) y6 y7 y8 (.i u) (.n c) y11 y12 (.s rb q) (.i v) (.n i) (.s ra q) (.i f) (.n j)) H (.exit 10) (e66 ms p (.s mb q) y6 y7 y8 (.i u) (.n c) y11 y12 (.s rb q) (.i v) (.n i) (.s ra q) (.i f) (.n j)) H :=
 hx N 60 [jF 34 3 H g0]
theorem QhK (H:Heap) (mb q:Nat) (u:Int) (c:Nat) (rb:Nat) (v:Int) (i:Nat) (y6 y7 y8 y11 y12 y16 y17 y18:HV:=Ud): RU F 66 16404467 B66 (e66 ms p (.s mb q) y6 y7 y8 (.i u) (.n c) y11 y12 (.s rb q) (.i v) (.n i) y16 y17 y18) H .normal (e66 ms p (.s mb q) y6 y7 y8 (.i u) (.n c) y11 y12 (.s rb q) (.i v) (.i (qA.wrap ((i:Int)+1))) y16 y17 y18) H :=
 hx N 60 []
theorem QhL (H:Heap) (mb q:Nat) (u:Int) (c:Nat) (y6 y7 y8 y11 y12 y13 y14 y15 y16 y17 y18:HV:=Ud): RU F 66 2003 B66 (e66 ms p (.s mb q) y6 y7 y8 (.i u) (.n c) y11 y12 y13 y14 y15 y16 y17 y18) H .normal (e66 ms p (.s mb q) y6 y7 y8 (.i u) (.i (qA.wrap ((c:Int)+1))) y11 y12 y13 y14 y15 y16 y17 y18) H :=
 hx N 60 []
theorem Qqe (H:Heap) (mb q:Nat) (u:Int) (y6 y7 y8 y10 y11 y12 y13 y14 y15 y16 y17 y18:HV:=Ud): RU F 66 63 B66 (e66 ms p (.s mb q) y6 y7 y8 (.i u) y10 y11 y12 y13 y14 y15 y16 y17 y18) H .ret (Q2 (.a ms) (.i p) (.i u) (.s mb q) y6 y7 y8 (.i u) y10 y11 y12 y13 y14 y15 y16 y17 y18) H :=
 hx N 60 []
end
end Go.Proofs.Ytiejmoglooaalaa
end
section
open Go Go.HL Go.HL.Dt
namespace Go.Proofs.Ytiejmoglooaalaa
set_option linter.unusedSectionVars false
open Go.Proofs.Try renaming prog → Tp
open Go.HL.HV renaming undef → Ud
section
variable {F:FuncId→Option (List HV→Option HV)} {H:Heap} {ms:List HV} {mb N:Nat} {R:Nat→Nat} {m:List (List Int)} {p:Int}
theorem Qqf (hM:Mat H mb N R m none) (hN:N≤1000) {c i:Nat} (hci:c<i) (hi:i<N) (hp:1<p∧p≤2147483647) (hok:Ws p N m) {f:Int} (hf:0≤f∧f<p) (u v:Int) :
  ∃H',RT (plF F) 66 (sn 524942926 B66) ((Q2 (.a ms) (.i p) (.i 0) (slR mb N none) Ud Ud Ud (.i (u)) (.i (c:Int)) Ud Ud (slR (R c) N none) (.i v) (.i (i:Int)) (slR (R i) N none) (.i f) (.i (c:Int)))) H (.exit 10) ((Q2 (.a ms) (.i p) (.i 0) (slR mb N none) Ud Ud Ud (.i (u)) (.i (c:Int)) Ud Ud (slR (R c) N none) (.i v) (.i (i:Int)) (slR (R i) N none) (.i f) (.i (N:Int)))) H'∧Mat H' mb N R (m.set i (Xx p c f (m.getD c []) (m.getD i []))) none∧Fx H H' (rowS R N):=by
 have hml:=hM.ml
 have hil:i<m.length:=by omega
 have hri:=hM.rl i hi
 obtain ⟨x,E',H',r,hx,hE,h1,h2⟩:=W2 (pol':=plF F) (f:=66) (b:=sn 1049885852 B66) (c:=sn 524942926 B66)
  (I:=fun k e H'=>e=(Q2 (.a ms) (.i p) (.i 0) (slR mb N none) Ud Ud Ud (.i (u)) (.i (c:Int)) Ud Ud (slR (R c) N none) (.i v) (.i (i:Int)) (slR (R i) N none) (.i f) (.i ((c+k:Nat):Int)))∧Mat H' mb N R (m.set i (ZS p c f (m.getD c []) (m.getD i []) k)) none∧Fx H H' (rowS R N))
  (Q:=fun x E' H'=>x=.exit 10∧E'=(Q2 (.a ms) (.i p) (.i 0) (slR mb N none) Ud Ud Ud (.i (u)) (.i (c:Int)) Ud Ud (slR (R c) N none) (.i v) (.i (i:Int)) (slR (R i) N none) (.i f) (.i (N:Int)))∧Mat H' mb N R (m.set i (ZS p c f (m.getD c []) (m.getD i []) (N-c))) none∧Fx H H' (rowS R N)) (N-c)
  (by
   rintro k hk e H' ⟨rfl,hM',hF⟩
   have hj:c+k<N:=by omega
   have ei:(m.set i (ZS p c f (m.getD c []) (m.getD i []) k)).getD i []=ZS p c f (m.getD c []) (m.getD i []) k:=by rw [WA hil,if_pos rfl]
   have ec:(m.set i (ZS p c f (m.getD c []) (m.getD i []) k)).getD c []=m.getD c []:=by rw [WA hil,if_neg (by omega)]
   have g1:=hM'.get hi hj
   have g2:=hM'.get (i:=c) (by omega) hj
   obtain ⟨g3,g4⟩:=hM'.put hi hj (((m.getD i []).getD (c+k) 0+(p-f)*(m.getD c []).getD (c+k) 0)%p)
   rw [ei] at g1 g3 g4
   rw [ec] at g2
   rw [Ky (by omega),if_neg (by omega)] at g1
   rw [DB (by omega)] at g3 g4
   rw [List.set_set] at g4
   have aw:=Qrw (p:=p) (by omega) (KS hok hi hj) hf (KS hok (i:=c) (by omega) hj) hp.2
   have s:=QhI (F:=F) 0 ms p H' mb N u c (R c) v i (R i) f (c+k) ((m.getD c []).getD (c+k) 0) ((m.getD i []).getD (c+k) 0) (by omega) (Z7 hj) g1 (Z7 hj) g2 (KZ (by omega)) (Z7 hj) (by rw [aw];exact g3)
   rw [show qA.wrap (((c+k:Nat):Int)+1)=((c+(k+1):Nat):Int) by rw [QI (by omega) (by omega)];omega] at s
   refine ⟨_,_,s,?_⟩
   have e1:Qy (plF F) 66 (sn 1049885852 B66) ((Q2 (.a ms) (.i p) (.i 0) (slR mb N none) Ud Ud Ud (.i (u)) (.i (c:Int)) Ud Ud (slR (R c) N none) (.i v) (.i (i:Int)) (slR (R i) N none) (.i f) (.i ((c+(k+1):Nat):Int))))=(Q2 (.a ms) (.i p) (.i 0) (slR mb N none) Ud Ud Ud (.i (u)) (.i (c:Int)) Ud Ud (slR (R c) N none) (.i v) (.i (i:Int)) (slR (R i) N none) (.i f) (.i ((c+(k+1):Nat):Int))):=by kernel_rfl
   rw [e1,QC _ (by simp)]
   exact ⟨rfl,g4,hF.trans (Fx.set (S:=rowS R N) ⟨i,hi,rfl⟩ _)⟩)
  (by
   rintro e H' ⟨rfl,hM',hF⟩
   have e1:c+(N-c)=N:=by omega
   rw [e1]
   exact ⟨_,_,_,QhJ (F:=F) 0 ms p H' mb N u c (R c) v i (R i) f N 0 0 (by omega),by simp,rfl,rfl,hM',hF⟩)
  (by kernel_rfl) (by rintro k e H' ⟨rfl,_⟩;kernel_rfl) (e:=(Q2 (.a ms) (.i p) (.i 0) (slR mb N none) Ud Ud Ud (.i (u)) (.i (c:Int)) Ud Ud (slR (R c) N none) (.i v) (.i (i:Int)) (slR (R i) N none) (.i f) (.i (c:Int)))) (H:=H) ⟨rfl,by
   rw [DA]
   have:m.set i (m.getD i [])=m:=by rw [ZR hil];exact List.set_getElem_self hil
   rw [this];exact hM,Fx.refl ..⟩
 subst hx hE
 have e3:ZS p c f (m.getD c []) (m.getD i []) (N-c)=Xx p c f (m.getD c []) (m.getD i []):=by
  have:=GB (p:=p) (c:=c) (f:=f) (x:=m.getD c []) (r:=m.getD i []) (by omega)
  rwa [hri] at this
 rw [e3] at h1
 exact ⟨H',r,h1,h2⟩
theorem QhM (hM:Mat H mb N R m none) (hN:N≤1000) {c:Nat} (hc:c<N) (hp:1<p∧p≤2147483647) (hok:Ws p N m) (u:Int) {v:Int} (hv:0≤v∧v<p) :
  ∃H',RT (plF F) 66 (sn 2050558 B66) ((Q2 (.a ms) (.i p) (.i 0) (slR mb N none) Ud Ud Ud (.i (u)) (.i (c:Int)) Ud Ud (slR (R c) N none) (.i v) (.i ((c+1:Nat):Int)) Ud Ud Ud)) H (.exit 8) ((Q2 (.a ms) (.i p) (.i 0) (slR mb N none) Ud Ud Ud (.i (u)) (.i (c:Int)) Ud Ud (slR (R c) N none) (.i v) (.i (N:Int)) Ud Ud Ud)) H'∧Mat H' mb N R (Jo p c v m) none∧Fx H H' (rowS R N):=by
 have hml:=hM.ml
 obtain ⟨x,E',H',r,hx,hE,h1,h2⟩:=W2 (pol':=plF F) (f:=66) (b:=sn 4101116 B66) (c:=sn 2050558 B66)
  (I:=fun k e H'=>e=(Q2 (.a ms) (.i p) (.i 0) (slR mb N none) Ud Ud Ud (.i (u)) (.i (c:Int)) Ud Ud (slR (R c) N none) (.i v) (.i ((c+1+k:Nat):Int)) Ud Ud Ud)∧Mat H' mb N R (Jv p c v m k) none∧Fx H H' (rowS R N))
  (Q:=fun x E' H'=>x=.exit 8∧E'=(Q2 (.a ms) (.i p) (.i 0) (slR mb N none) Ud Ud Ud (.i (u)) (.i (c:Int)) Ud Ud (slR (R c) N none) (.i v) (.i (N:Int)) Ud Ud Ud)∧Mat H' mb N R (Jv p c v m (N-(c+1))) none∧Fx H H' (rowS R N)) (N-(c+1))
  (by
   rintro k hk e H' ⟨rfl,hM',hF⟩
   have hi:c+1+k<N:=by omega
   have hok':=S4 (p:=p) (by omega) (c:=c) (v:=v) hok k
   have ei:(Jv p c v m k).getD (c+1+k) []=m.getD (c+1+k) []:=by rw [Jq (by omega),if_neg (by omega)]
   have ec:(Jv p c v m k).getD c []=m.getD c []:=by rw [Jq (by omega),if_neg (by omega)]
   have s1:=Qqc (F:=F) 0 ms p H' mb N u c (R c) v (c+1+k) (by omega)
   have s2:=QhF (F:=F) 0 ms p H' mb N u c (R c) v (c+1+k) (R (c+1+k)) (Z6 hi) (hM'.ld hi)
   have g1:=hM'.get hi hc
   rw [ei] at g1
   have hy:=KS hok hi hc
   have s3:=QhG (F:=F) 0 ms p H' mb N u c (R c) v (c+1+k) (R (c+1+k)) ((m.getD (c+1+k) []).getD c 0) (Z7 hc) g1 (KZ (by omega))
   have hfe:(qA.wrap ((m.getD (c+1+k) []).getD c 0*v)).tmod p=VE p c v (m.getD (c+1+k) []):=DP (by omega) hy.1 hy.2 hv.1 hv.2 hp.2
   rw [hfe] at s3
   have hf:0≤VE p c v (m.getD (c+1+k) [])∧VE p c v (m.getD (c+1+k) [])<p:=⟨qF _ (by omega),qG _ (by omega)⟩
   generalize hfd:VE p c v (m.getD (c+1+k) [])=f at *
   have s4:=QhH (F:=F) 0 ms p H' mb N u c (R c) v (c+1+k) (R (c+1+k)) f
   obtain ⟨H1,s5,hM1,hF1⟩:=Qqf (F:=F) (ms:=ms) hM' hN (c:=c) (i:=c+1+k) (by omega) hi hp hok' hf u v
   rw [ei,ec] at hM1
   have hms:=DD (p:=p) (c:=c) (v:=v) (m:=m) (k:=k) (by omega)
   rw [hfd] at hms
   rw [hms] at hM1
   have s6:=QhK (F:=F) 0 ms p H1 mb N u c (R c) v (c+1+k) (y16:=slR (R (c+1+k)) N none) (y17:=.i f) (y18:=.i (N:Int))
   rw [show qA.wrap (((c+1+k:Nat):Int)+1)=((c+1+(k+1):Nat):Int) by rw [QI (by omega) (by omega)];omega] at s6
   refine ⟨_,_,sq (s1) (sq (RunsTo.block_normal (i:=9) (c:=sn 16404466 B66) (sq (s2) (sq (s3) (sq (s4) (bke (c:=sn 262471463 B66) (s5)) (c:=sn 131235731 B66)) (c:=sn 65617865 B66)) (c:=sn 32808932 B66)) (by kernel_rfl)) (s6) (c:=sn 8202233 B66)) (c:=sn 4101116 B66),?_⟩
   have e1:Qy (plF F) 66 (sn 4101116 B66) ((Q2 (.a ms) (.i p) (.i 0) (slR mb N none) Ud Ud Ud (.i (u)) (.i (c:Int)) Ud Ud (slR (R c) N none) (.i v) (.i ((c+1+(k+1):Nat):Int)) (slR (R (c+1+k)) N none) (.i f) (.i (N:Int))))=(Q2 (.a ms) (.i p) (.i 0) (slR mb N none) Ud Ud Ud (.i (u)) (.i (c:Int)) Ud Ud (slR (R c) N none) (.i v) (.i ((c+1+(k+1):Nat):Int)) Ud Ud Ud):=by kernel_rfl
   rw [e1,QC _ hF1.ln]
   exact ⟨rfl,hM1,hF.trans hF1⟩)
  (by
   rintro e H' ⟨rfl,hM',hF⟩
   have e1:c+1+(N-(c+1))=N:=by omega
   rw [e1]
   have s1:=Qqd (F:=F) 0 ms p H' mb N u c (R c) v N (by omega)
   exact ⟨_,_,_,sqo (s1) (c:=sn 4101116 B66) (b:=sn 8202233 B66),by simp,rfl,rfl,hM',hF⟩)
  (by kernel_rfl) (by rintro k e H' ⟨rfl,_⟩;kernel_rfl) (e:=(Q2 (.a ms) (.i p) (.i 0) (slR mb N none) Ud Ud Ud (.i (u)) (.i (c:Int)) Ud Ud (slR (R c) N none) (.i v) (.i ((c+1:Nat):Int)) Ud Ud Ud)) (H:=H) ⟨rfl,by rw [DC];exact hM,Fx.refl ..⟩
 subst hx hE
 rw [← hml,GC (by omega)] at h1
 rw [hml] at h1
 exact ⟨H',r,h1,h2⟩
theorem QhN (hM:Mat H mb N R m none) (hN:N≤1000) {c:Nat} (hc:c<N) (u:Int) :
  RT (plF F) 66 (sn 32036 B66) ((Q2 (.a ms) (.i p) (.i 0) (slR mb N none) Ud Ud Ud (.i (u)) (.i (c:Int)) (.i (c:Int)) Ud Ud Ud Ud Ud Ud Ud)) H (.exit 6) ((Q2 (.a ms) (.i p) (.i 0) (slR mb N none) Ud Ud Ud (.i (u)) (.i (c:Int)) (.i ((ZF m c (N-c) c:Nat):Int)) Ud Ud Ud Ud Ud Ud Ud)) H:=by
 obtain ⟨h1,h2,h3,h4⟩:=Kw m c (N-c) c
 have h:=Q7 (pol':=plF F) (f:=66) (b:=sn 64072 B66) (c:=sn 32036 B66) (E:=fun k=>(Q2 (.a ms) (.i p) (.i 0) (slR mb N none) Ud Ud Ud (.i (u)) (.i (c:Int)) (.i ((c+k:Nat):Int)) Ud Ud Ud Ud Ud Ud Ud)) (Hs:=fun _=>H) (ZF m c (N-c) c-c) (E0:=fun k=>(Q2 (.a ms) (.i p) (.i 0) (slR mb N none) Ud Ud Ud (.i (u)) (.i (c:Int)) (.i ((c+(k+1):Nat):Int)) Ud Ud Ud Ud Ud Ud Ud)) (H1:=fun _=>H) (x:=.exit 6) (E':=(Q2 (.a ms) (.i p) (.i 0) (slR mb N none) Ud Ud Ud (.i (u)) (.i (c:Int)) (.i ((ZF m c (N-c) c:Nat):Int)) Ud Ud Ud Ud Ud Ud Ud)) (H':=H)
  (fun k hk=>by
   have hr:c+k<N:=by omega
   have s:=Qp1 (F:=F) 0 ms p H mb N u c (c+k) (R (c+k)) _ (by omega) (Z6 hr) (hM.ld hr) (Z7 hc) (hM.get hr hc) (h3 _ (by omega) (by omega))
   rw [show qA.wrap (((c+k:Nat):Int)+1)=((c+(k+1):Nat):Int) by rw [QI (by omega) (by omega)];omega] at s
   exact s) (fun k _=>by kernel_rfl) (fun k _=>QC _ rfl) (by
   rw [show c+(ZF m c (N-c) c-c)=ZF m c (N-c) c by omega]
   by_cases e:ZF m c (N-c) c<N
   ·exact Qp2 (F:=F) 0 ms p H mb N u c _ (R (ZF m c (N-c) c)) _ (by omega) (Z6 e) (hM.ld e) (Z7 hc) (hM.get e hc) (h4 (by omega))
   ·exact Qp3 (F:=F) 0 ms p H mb N u c _ 0 0 (by omega)) (by simp) (by kernel_rfl) (fun k _=>by kernel_rfl)
 exact h
theorem Qc6 (h67:F 67=some Xw) (hp:1<p∧p≤2147483647) {x:Int} (hx:0≤x∧x<p) (H:Heap):∀kf,Qs Tp (plF F) (kf+1) 67 [.int .i64 x,.int .i64 (qA.wrap (p-2)),.int .i64 p] H=some (.int .i64 (Zx p x),H):=by
 rw [WN (by omega) (by omega)]
 exact at3 (pol':=plF F) (g:=67) (c1:=kI) (c2:=kI) (c3:=kI) (f:=fun a n p=>if S3 a n p then some (.int .i64 (pw a n.toNat p)) else none) (H:=H) h67 (ShI _ x) (ShI _ (p-2)) (ShI _ p) (if_pos ⟨hp,hx,by omega,by omega⟩)
theorem Qaa (h67:F 67=some Xw) (hp:1<p∧p≤2147483647) (hN:N≤1000):∀(k c:Nat) (u:Int) (m:List (List Int)) (R:Nat→Nat) (H:Heap),c+k=N→Mat H mb N R m none→Ws p N m→(0≤u∧u<p) →
  ∃x E' H',RT (plF F) 66 (sn 250 B66) ((Q2 (.a ms) (.i p) (.i 0) (slR mb N none) Ud Ud Ud (.i (u)) (.i (c:Int)) Ud Ud Ud Ud Ud Ud Ud Ud)) H x E' H' ∧
   ((x=.exit 4∧E'=(Q2 (.a ms) (.i p) (.i 0) (slR mb N none) Ud Ud Ud (.i (gz p (Zx p) N k c u m)) (.i (N:Int)) Ud Ud Ud Ud Ud Ud Ud Ud))∨(x=.ret∧gz p (Zx p) N k c u m=0∧∃w c' r:Int,E'=(Q2 (.a ms) (.i p) (.i 0) (slR mb N none) Ud Ud Ud (.i w) (.i c') (.i r) Ud Ud Ud Ud Ud Ud Ud)))
 | 0,c,u,m,R,H,hk,hM,hok,hu=>by
  have:c=N:=by omega
  subst this
  have s1:=QpZ (F:=F) 0 ms p H mb c u c (by omega)
  rw [gz]
  exact ⟨_,_,_,lpo (sqo (s1) (c:=sn 500 B66) (b:=sn 1001 B66)),.inl ⟨rfl,rfl⟩⟩
 | k+1,c,u,m,R,H,hk,hM,hok,hu=>by
  have hc:c<N:=by omega
  obtain ⟨f1,f2,f3,f4⟩:=Kw m c (N-c) c
  have s1:=QpY (F:=F) 0 ms p H mb N u c (by omega)
  have s2:=Qp0 (F:=F) 0 ms p H mb N u c
  have s5:=QhN (F:=F) (ms:=ms) (p:=p) hM hN hc u
  rw [gz]
  generalize hr:ZF m c (N-c) c=r at *
  by_cases e1:r=N
  ·rw [if_pos e1]
   have s6:=Qp4 (F:=F) 0 ms p H mb N u c r (by omega)
   exact ⟨_,_,_,lpo (sq (s1) (sqo (RunsTo.block_ret (i:=5) (c:=sn 2002 B66) (sq (s2) (sq (bke (c:=sn 16018 B66) (s5)) (sqo (s6) (c:=sn 16019 B66) (b:=sn 32039 B66)) (c:=sn 8009 B66)) (c:=sn 4004 B66)) (by kernel_rfl)) (c:=sn 1001 B66) (b:=sn 2003 B66)) (c:=sn 500 B66)),.inr ⟨rfl,rfl,u,c,r,rfl⟩⟩
  rw [if_neg e1]
  have hrN:r<N:=by omega
  have s6:=Qp5 (F:=F) 0 ms p H mb N u c r (by omega)
  obtain ⟨H1,R1,t12,u1,s7,hM1,hF1,hu1,hmul⟩:∃H1 R1 t12 u1,RT (plF F) 66 (sn 64078 B66) ((Q2 (.a ms) (.i p) (.i 0) (slR mb N none) Ud Ud Ud (.i (u)) (.i (c:Int)) (.i (r:Int)) Ud Ud Ud Ud Ud Ud Ud)) H .normal ((Q2 (.a ms) (.i p) (.i 0) (slR mb N none) Ud Ud Ud (.i (u1)) (.i (c:Int)) (.i (r:Int)) t12 Ud Ud Ud Ud Ud Ud)) H1∧Mat H1 mb N R1 (swpR m r c) none∧Fx H H1 (fun b=>b=mb)∧(0≤u1∧u1<p)∧∀x:Int,u1*x%p=(if r=c then u else p-u)*x%p:=by
   by_cases e2:r=c
   ·have s:=Qp7 (F:=F) 0 ms p H mb N u c r 0 0 (by omega)
    have:swpR m r c=m:=by rw [e2];exact Dz (by rw [hM.ml];exact hc)
    rw [this]
    exact ⟨H,R,_,u,s,hM,Fx.refl ..,hu,fun x=>by rw [if_pos e2]⟩
   ·obtain ⟨H0,H1,g1,g2,g3,g4⟩:=hM.swap hrN hc
    have s:=Qp6 (F:=F) 0 ms p H mb N u c r (R c) (R r) (by omega) (KZ (by omega)) (Z6 hrN) (hM.ld hrN) (Z6 hc) (hM.ld hc) (Z6 hrN) g1 (Z6 hc) g2
    rw [QI (x:=p-u) (by omega) (by omega),qW (by omega)] at s
    refine ⟨H1,_,_,_,s,g3,g4,⟨qF _ (by omega),qG _ (by omega)⟩,fun x=>?_⟩
    rw [if_neg e2,Int.mul_emod ((p-u)%p),Int.emod_emod_of_dvd _ (Int.dvd_refl p),← Int.mul_emod]
  have hok1:=Qb7 hok hrN hc
  rw [← hmul]
  generalize (if r=c then u else p-u)=u0 at *
  generalize swpR m r c=m1 at *
  have hx:=KS hok1 hc hc
  have s8:=Qp8 (F:=F) 0 ms p H1 mb N u1 c r (R1 c) (y12:=t12) (Z6 hc) (hM1.ld hc)
  have s9:=Qp9 (F:=F) 0 ms p H1 mb N u1 c r (R1 c) ((m1.getD c []).getD c 0) (y12:=t12) (Z7 hc) (hM1.get hc hc) (KZ (by omega))
  rw [QiL (by omega) hu1.1 (by omega) hx.1 hx.2 hp.2] at s9
  have hu2:0≤u1*(m1.getD c []).getD c 0%p∧u1*(m1.getD c []).getD c 0%p<p:=⟨qF _ (by omega),qG _ (by omega)⟩
  have s10:=Qqa (F:=F) 0 ms p H1 mb N (u1*(m1.getD c []).getD c 0%p) c r (R1 c) ((m1.getD c []).getD c 0) (Zx p ((m1.getD c []).getD c 0)) (y12:=t12) (Z7 hc) (hM1.get hc hc) (Qc6 h67 hp hx H1)
  have hv:0≤Zx p ((m1.getD c []).getD c 0)∧Zx p ((m1.getD c []).getD c 0)<p:=⟨qF _ (by omega),qG _ (by omega)⟩
  generalize u1*(m1.getD c []).getD c 0%p=u2 at *
  generalize Zx p ((m1.getD c []).getD c 0)=v at *
  have s11:=Qqb (F:=F) 0 ms p H1 mb N u2 c (R1 c) v (y11:=.i (r:Int)) (y12:=t12)
  rw [show qA.wrap ((c:Int)+1)=((c+1:Nat):Int) by rw [QI (by omega) (by omega)];omega] at s11
  obtain ⟨H2,s12,hM2,hF2⟩:=QhM (F:=F) (ms:=ms) hM1 hN hc hp hok1 u2 hv
  have s13:=QhL (F:=F) 0 ms p H2 mb N u2 c (y13:=slR (R1 c) N none) (y14:=.i v) (y15:=.i (N:Int))
  rw [show qA.wrap ((c:Int)+1)=((c+1:Nat):Int) by rw [QI (by omega) (by omega)];omega] at s13
  obtain ⟨x,E',H',ih,g3⟩:=Qaa h67 hp hN k (c+1) u2 (Jo p c v m1) R1 H2 (by omega) hM2 (Cv (by omega) hok1) hu2
  refine ⟨x,E',H',lop (sq (s1) (sq (RunsTo.block_normal (i:=5) (c:=sn 2002 B66) (sq (s2) (sq (bke (c:=sn 16018 B66) (s5)) (sq (s6) (sq (s7) (sq (s8) (sq (s9) (sq (s10) (sq (s11) (bke (c:=sn 1025279 B66) (lpi (e0:=(Q2 (.a ms) (.i p) (.i 0) (slR mb N none) Ud Ud Ud (.i (u2)) (.i (c:Int)) (.i (r:Int)) t12 (slR (R1 c) N none) (.i v) (.i ((c+1:Nat):Int)) Ud Ud Ud)) s12 (b:=sn 4101116 B66))) (c:=sn 512639 B66)) (c:=sn 256319 B66)) (c:=sn 128159 B66)) (c:=sn 64079 B66)) (c:=sn 32039 B66)) (c:=sn 16019 B66)) (c:=sn 8009 B66)) (c:=sn 4004 B66)) (by kernel_rfl)) (s13) (c:=sn 1001 B66)) (c:=sn 500 B66)) (QC _ (by rw [hF2.ln,hF1.ln])) ih,g3⟩
end
theorem QhO {x p:Int} (hp:1<p∧p≤2147483647):(qA.wrap (x.tmod p+p)).tmod p=x%p:=by
 have h1:=Int.tmod_lt_of_pos x (b:=p) (by omega)
 have h2:=Int.lt_tmod_of_pos x (b:=p) (by omega)
 rw [QI (by omega) (by omega),qW (by omega),Int.add_emod_right]
 have h3:=Int.tmod_add_mul_tdiv x p
 conv=>rhs;rw [← h3]
 rw [Int.add_mul_emod_self_left]
abbrev WE (p:Int) (m:List (List Int)):List (List Int):=m.map fun r=>r.map fun x=>x%p
theorem X8 {p:Int} {m:List (List Int)} {i:Nat} (h:i<m.length):(WE p m).getD i []=(m.getD i []).map fun x=>x%p:=by
 simp [WE,qD,h]
abbrev rwN (N i:Nat):List HV:=(qH i).map fun k=>slR (k+1) N none
theorem Qfn (N i:Nat):rwN N (i+1)=rwN N i++[slR (i+1) N none]:=by simp [rwN,qX]
theorem Qfo:(Tp.info? 24).map (fun i=>(i.size,i.bytes,XB i))=some (1,24,true):=by kernel_rfl
theorem QhP {H:Heap} {els:List HV} {mx w i tb b N:Nat} (h0:H[0]?=some (.arr 1 els true mx)) (hl:els.length=i) (ht:H[tb]?=some (.arr 1 [slR b N none] true w)) (hi:i≤900) :
  Wq Tp .append [57,57] [.sl 0 0 i none i 1,.sl tb 0 1 (some 1) 1 1] H=some (.sl 0 0 (i+1) none (i+1) 1,H.set 0 (.arr 1 (els++[slR b N none]) true (max mx (b+1)))):=by
 have hi24:=Qfo
 have hsrc:Zs H (.sl tb 0 1 (some 1) 1 1)=some ([slR b N none],1):=by
  simp only [Zs,WR,ht];rfl
 cases hinf:Tp.info? 24 with
 | none=>rw [hinf] at hi24;cases hi24
 | some inf =>
  rw [hinf] at hi24
  simp only [Option.map,Option.some.injEq,Prod.mk.injEq] at hi24
  obtain ⟨e1,e2,e3⟩:=hi24
  simp only [Wq,u57,hinf,hsrc,e1,e2,e3]
  rw [if_pos ⟨.inl trivial,by omega,trivial⟩]
  simp only [W5,h0,hl]
  rw [if_neg (by simp),if_pos ⟨trivial,trivial,trivial,by simp only [jU,WF];omega⟩,if_pos ⟨trivial,trivial,trivial⟩]
  simp [bndL,bnd]
theorem Qco {b N:Nat} {H:Heap}:Qao Tp false false 57 1 [(0,slR b N none)] H=some (.sl H.length 0 1 (some 1) 1 1,H++[.arr 1 [slR b N none] true (b+1)]):=by
 have:Qao Tp false false 57 1 [(0,slR b N none)] H=(if false||bndL [slR b N none] != 0 then some (.sl H.length 0 1 (some 1) 1 1,H++[.arr 1 [slR b N none] true (bndL [slR b N none])]) else some (.imm .lit 1 [slR b N none],H)):=by kernel_rfl
 rw [this]
 simp [bndL,bnd]
section
variable {F:FuncId→Option (List HV→Option HV)} {m:List (List Int)} {p:Int}
abbrev hRd (p:Int) (m:List (List Int)) (i mx:Nat):Heap:=.arr 1 (rwN m.length i) true mx::((WE p m).take i).map bI
theorem Ug {i mx:Nat} (h:i≤m.length):(hRd p m i mx).length=i+1:=by
 simp only [hRd,List.length_cons,qC,qI];omega
theorem QrB (hN:m.length≤900) (hp:1<p∧p≤2147483647) {i mx:Nat} (hi:i<m.length) (hr:(m.getD i []).length=m.length) :
  RT (plF F) 66 (sn 14922 B66) ((Q2 (.a (m.map WH)) (.i p) (.i 0) (.s 0 (i)) (.i (i:Int)) (.s (i+1) (0)) (.i (0:Int)) Ud Ud Ud Ud Ud Ud Ud Ud Ud Ud)) (hRd p m i mx++[bI []]) (.exit 2) ((Q2 (.a (m.map WH)) (.i p) (.i 0) (.s 0 (i)) (.i (i:Int)) (.s (i+1) (m.length)) (.i ((m.length:Nat):Int)) Ud Ud Ud Ud Ud Ud Ud Ud Ud Ud)) (hRd p m i mx++[bI ((WE p m).getD i [])]):=by
 have hlen:=Ug (p:=p) (m:=m) (i:=i) (mx:=mx) (by omega)
 have hrl:((WE p m).getD i []).length=m.length:=by rw [X8 hi,qC,hr]
 have lm:((m.map WH).length:Int)=(m.length:Int):=by rw [qC]
 have h:=Q7 (pol':=plF F) (f:=66) (b:=sn 29844 B66) (c:=sn 14922 B66) (E:=fun j=>(Q2 (.a (m.map WH)) (.i p) (.i 0) (.s 0 (i)) (.i (i:Int)) (.s (i+1) (j)) (.i (j:Int)) Ud Ud Ud Ud Ud Ud Ud Ud Ud Ud)) (Hs:=fun j=>hRd p m i mx++[bI (((WE p m).getD i []).take j)]) m.length
  (E0:=fun j=>(Q2 (.a (m.map WH)) (.i p) (.i 0) (.s 0 (i)) (.i (i:Int)) (.s (i+1) (j+1)) (.i ((j+1:Nat):Int)) Ud Ud Ud Ud Ud Ud Ud Ud Ud Ud)) (H1:=fun j=>hRd p m i mx++[bI (((WE p m).getD i []).take (j+1))]) (x:=.exit 2) (E':=(Q2 (.a (m.map WH)) (.i p) (.i 0) (.s 0 (i)) (.i (i:Int)) (.s (i+1) (m.length)) (.i ((m.length:Nat):Int)) Ud Ud Ud Ud Ud Ud Ud Ud Ud Ud)) (H':=hRd p m i mx++[bI ((WE p m).getD i [])])
  (fun j hj=>by
   have hb:(hRd p m i mx++[bI (((WE p m).getD i []).take j)])[i+1]?=some (bI (((WE p m).getD i []).take j)):=by rw [← hlen];simp
   have hol:(((WE p m).getD i []).take j).length=j:=by rw [qI];omega
   have ap:=Zz hb (by omega) (((WE p m).getD i []).getD j 0)
   rw [hol,← Q5 (by omega)] at ap
   have hset:(hRd p m i mx++[bI (((WE p m).getD i []).take j)]).set (i+1) (bI (((WE p m).getD i []).take (j+1)))=hRd p m i mx++[bI (((WE p m).getD i []).take (j+1))]:=by rw [← hlen];simp
   rw [hset] at ap
   have g1:ZI Tp 57 (.imm .arg 1 (m.map WH)) (.int .i64 (i:Int))=some (.vptr (.imm .arg 1 ((m.getD i []).map Qb))):=by
    have:=G3 (P:=Tp) (g:=.arg) (la:=m.map WH) (ik:=.i64) (n:=(i:Int)) (v:=WH (m.getD i [])) u57 z24 (by omega) (by rw [qB];simp [qD,hi])
    exact this
   have g2:=gx (l:=m.getD i []) (y:=j) (by omega)
   have ev:((WE p m).getD i []).getD j 0=(m.getD i []).getD j 0%p:=by
    have hj2:j<(m.getD i []).length:=by omega
    rw [X8 hi]
    generalize m.getD i []=r at hj2
    simp [qD,hj2]
   have s:=QpS (F:=F) 0 (m.map WH) p (hRd p m i mx++[bI (((WE p m).getD i []).take j)]) 0 i i (i+1) j j ((m.getD i []).map Qb) ((m.getD i []).getD j 0) (by omega) g1 g2 (KZ (by omega)) (KZ (by omega)) (by rw [QhO hp,← ev];exact ap)
   rw [Qj (by omega)] at s
   exact s) (fun j _=>by kernel_rfl) (fun j _=>QC _ (by simp)) (by
   have hol:((WE p m).getD i []).take m.length=(WE p m).getD i []:=jE (by omega)
   rw [hol]
   exact QpT (F:=F) 0 (m.map WH) p _ 0 i i (i+1) m.length m.length [] 0 (by omega)) (by simp) (by kernel_rfl) (fun j _=>by kernel_rfl)
 rw [jJ] at h
 exact h
theorem VF:∀X:List (List Int),mxs (X.map bI)=0
 | []=>rfl
 | x::X=>by rw [qO,mxs,VF X];rfl
theorem Qfp {i w:Nat} (hi:i<m.length):hRd p m (i+1) w=.arr 1 (rwN m.length i++[slR (i+1) m.length none]) true w::(((WE p m).take i).map bI++[bI ((WE p m).getD i [])]):=by
 have hl:i<(WE p m).length:=by rw [qC];exact hi
 rw [hRd,Qfn,List.take_add_one,qJ]
 simp [qD,hi]
theorem Qfq (hN:m.length≤900) (hp:1<p∧p≤2147483647) (hr:∀i,i<m.length→(m.getD i []).length=m.length) :
  ∃mx,mx≤m.length+1∧RT (plF F) 66 (sn 58 B66) ((Q2 (.a (m.map WH)) (.i p) (.i 0) (.s 0 (0)) (.i (0:Int)) Ud Ud Ud Ud Ud Ud Ud Ud Ud Ud Ud Ud)) (hRd p m 0 0) (.exit 0) ((Q2 (.a (m.map WH)) (.i p) (.i 0) (.s 0 (m.length)) (.i ((m.length:Nat):Int)) Ud Ud Ud Ud Ud Ud Ud Ud Ud Ud Ud Ud)) (hRd p m m.length mx):=by
 have lm:((m.map WH).length:Int)=(m.length:Int):=by rw [qC]
 obtain ⟨x,E',H',r,rfl,rfl,mx,h1,rfl⟩:=W2 (pol':=plF F) (f:=66) (b:=sn 116 B66) (c:=sn 58 B66) (I:=fun i e H=>e=(Q2 (.a (m.map WH)) (.i p) (.i 0) (.s 0 (i)) (.i (i:Int)) Ud Ud Ud Ud Ud Ud Ud Ud Ud Ud Ud Ud)∧∃mx,mx≤i+1∧H=hRd p m i mx)
  (Q:=fun x E' H'=>x=.exit 0∧E'=(Q2 (.a (m.map WH)) (.i p) (.i 0) (.s 0 (m.length)) (.i ((m.length:Nat):Int)) Ud Ud Ud Ud Ud Ud Ud Ud Ud Ud Ud Ud)∧∃mx,mx≤m.length+1∧H'=hRd p m m.length mx) m.length
  (by
   rintro i hi e H ⟨rfl,mx,hmx,rfl⟩
   have hlen:=Ug (p:=p) (m:=m) (i:=i) (mx:=mx) (by omega)
   have hrl:((WE p m).getD i []).length=m.length:=by rw [X8 hi,qC,hr i hi]
   have s1:=QpO (F:=F) 0 (m.map WH) p (hRd p m i mx) 0 i i (by omega)
   have s2:=QpQ (F:=F) 0 (m.map WH) p (hRd p m i mx) 0 i i (v0:=.sl (i+1) 0 0 none 0 1) (H0:=hRd p m i mx++[bI []]) (by rw [hlen];rfl)
   have s3:=QpR (F:=F) 0 (m.map WH) p (hRd p m i mx++[bI []]) 0 i i (i+1) 0
   have s4:=QrB (F:=F) hN hp (mx:=mx) hi (hr i hi)
   have hl2:(hRd p m i mx++[bI ((WE p m).getD i [])]).length=i+2:=by rw [qT,hlen];rfl
   have lt:=Qco (b:=i+1) (N:=m.length) (H:=hRd p m i mx++[bI ((WE p m).getD i [])])
   rw [hl2] at lt
   have g0:(hRd p m i mx++[bI ((WE p m).getD i [])]++[Blk.arr 1 [slR (i+1) m.length none] true (i+1+1)])[0]?=some (.arr 1 (rwN m.length i) true mx):=rfl
   have gt:(hRd p m i mx++[bI ((WE p m).getD i [])]++[Blk.arr 1 [slR (i+1) m.length none] true (i+1+1)])[i+2]?=some (.arr 1 [slR (i+1) m.length none] true (i+1+1)):=by rw [← hl2];simp
   have ap:=QhP (i:=i) g0 (by simp [rwN]) gt (by omega)
   have hset:(hRd p m i mx++[bI ((WE p m).getD i [])]++[Blk.arr 1 [slR (i+1) m.length none] true (i+1+1)]).set 0 (.arr 1 (rwN m.length i++[slR (i+1) m.length none]) true (max mx (i+1+1)))=hRd p m (i+1) (i+2)++[Blk.arr 1 [slR (i+1) m.length none] true (i+2)]:=by
    rw [Qfp hi,show max mx (i+1+1)=i+2 by omega]
    simp [hRd]
   rw [hset] at ap
   have s5:=QpU (F:=F) 0 (m.map WH) p (hRd p m i mx++[bI ((WE p m).getD i [])]) 0 i i (i+1) m.length (i+2) (y8:=.i ((m.length:Nat):Int)) lt ap
   have s6:=QpV (F:=F) 0 (m.map WH) p (hRd p m (i+1) (i+2)++[Blk.arr 1 [slR (i+1) m.length none] true (i+2)]) 0 (i+1) i (y7:=.s (i+1) m.length) (y8:=.i ((m.length:Nat):Int))
   rw [Qj (by omega)] at s6
   refine ⟨_,_,sq (s1) (sq (RunsTo.block_normal (i:=1) (c:=sn 466 B66) (sq (s2) (sq (sq (s3) (bke (c:=sn 7461 B66) (s4)) (c:=sn 3730 B66)) (s5) (c:=sn 1865 B66)) (c:=sn 932 B66)) (by kernel_rfl)) (s6) (c:=sn 233 B66)) (c:=sn 116 B66),?_⟩
   have er:Qy (plF F) 66 (sn 116 B66) ((Q2 (.a (m.map WH)) (.i p) (.i 0) (.s 0 (i+1)) (.i ((i+1:Nat):Int)) (.s (i+1) m.length) (.i ((m.length:Nat):Int)) Ud Ud Ud Ud Ud Ud Ud Ud Ud Ud))=(Q2 (.a (m.map WH)) (.i p) (.i 0) (.s 0 (i+1)) (.i ((i+1:Nat):Int)) Ud Ud Ud Ud Ud Ud Ud Ud Ud Ud Ud Ud):=by kernel_rfl
   rw [er]
   refine ⟨rfl,i+2,by omega,?_⟩
   have hb:Wc ((Q2 (.a (m.map WH)) (.i p) (.i 0) (.s 0 (i+1)) (.i ((i+1:Nat):Int)) Ud Ud Ud Ud Ud Ud Ud Ud Ud Ud Ud Ud))=1:=by simp only [Wc,bnd,bndL];rfl
   have hl3:=Ug (p:=p) (m:=m) (i:=i+1) (mx:=i+2) (by omega)
   have hm:mxs (hRd p m (i+1) (i+2)++[Blk.arr 1 [slR (i+1) m.length none] true (i+2)])=i+2:=by
    rw [Wn]
    simp only [hRd,mxs,VF,Blk.mx]
    omega
   rw [hb,Go.HL.gc,hm,hlen,show max (i+1) (max 1 (i+2))=(hRd p m (i+1) (i+2)).length by rw [hl3];omega,List.take_left'  rfl])
  (by
   rintro e H ⟨rfl,mx,hmx,rfl⟩
   have s1:=QpP (F:=F) 0 (m.map WH) p (hRd p m m.length mx) 0 m.length m.length (by omega)
   exact ⟨_,_,_,sqo (s1) (c:=sn 116 B66) (b:=sn 233 B66),by simp,rfl,rfl,mx,hmx,rfl⟩)
  (by kernel_rfl) (by rintro i e H ⟨rfl,_⟩;kernel_rfl) (e:=(Q2 (.a (m.map WH)) (.i p) (.i 0) (.s 0 (0)) (.i (0:Int)) Ud Ud Ud Ud Ud Ud Ud Ud Ud Ud Ud Ud)) (H:=hRd p m 0 0) ⟨rfl,0,by omega,rfl⟩
 exact ⟨mx,h1,r⟩
end
def Qqg:HV→Option (List (List Int)) | .imm .arg 1 l=>mapO QdU l | _=>none
theorem Qfr (a:HV) (x:List (List Int)) (h:Qqg a=some x):a=.imm .arg 1 (x.map WH):=by
 unfold Qqg at h
 split at h
 ·rw [Vq Sx h];rfl
 ·cases h
def kM:Cd (List (List Int)):=⟨fun l=>.imm .arg 1 (l.map WH),Qqg,Qfr,fun l=>Kl (f:=QdU) (g:=WH) (fun r=>Kl UT r) l,fun H l=>Qi3 H l⟩
def sqB (m:List (List Int)):Bool:=m.all fun r=>r.length==m.length
def CE:List HV→Option HV:=f2 kM kI fun m p=>if (1<p∧p≤2147483647)∧m.length≤900∧sqB m=true then some (.int .i64 (gz p (Zx p) m.length m.length 0 1 (WE p m))) else none
theorem QiP:Try.f66.results.toList=[.tmp 4]:=by kernel_rfl
def YV:FuncId→Option (List HV→Option HV):=fun g=>if g==67 then some Xw else none
theorem QhQ (n:Nat):Ql Tp (Qs Tp (plF YV) n):=Qz _ (fun g f h=>by
 unfold YV at h
 split at h
 ·rename_i hg;cases h;rw [eq_of_beq hg];exact QiK
 ·cases h) n
theorem QhR {m:List (List Int)} {p:Int} (hp:1<p) (hr:∀i,i<m.length→(m.getD i []).length=m.length):Ws p m.length (WE p m):=by
 refine ⟨by rw [qC],fun r h=>?_⟩
 obtain ⟨x,hx,rfl⟩:=List.mem_map.1 h
 obtain ⟨i,hi,rfl⟩:=List.mem_iff_getElem.1 hx
 have hl:=hr i hi
 rw [QD hi] at hl
 refine ⟨by rw [qC,hl],fun j hj=>?_⟩
 have hj2:j<m[i].length:=by omega
 have:(m[i].map fun x=>x%p).getD j 0=m[i][j]%p:=by simp [qD,hj2]
 rw [this]
 exact ⟨qF _ (by omega),qG _ (by omega)⟩
theorem QhS:QP Tp 66 CE:=by
 refine Qn (pol:=plF YV) (fn:=Try.f66) (cd:=B66) Qh QhQ (by kernel_rfl) (by kernel_rfl) (Zh YV _ _ (by kernel_rfl)) (by kernel_rfl) ?_
 intro args res h
 obtain ⟨m,p,rfl,hq⟩:=Zc h
 split at hq
 case isFalse=>cases hq
 rename_i hc
 obtain ⟨hp,hN,hsq⟩:=hc
 cases hq
 have hr:∀i,i<m.length→(m.getD i []).length=m.length:=fun i hi=>by
  have:=List.all_eq_true.1 hsq (m.getD i []) (Qo [] hi)
  exact eq_of_beq this
 have a:=QpL (F:=YV) 0 (m.map WH) p
 have b:=QpM (F:=YV) 0 (m.map WH) p [] rfl
 have c:=QpN (F:=YV) 0 (m.map WH) p (hRd p m 0 0) 0 0
 obtain ⟨mx,hmx,r1⟩:=Qfq (F:=YV) hN hp hr
 have hlen:=Ug (p:=p) (m:=m) (i:=m.length) (mx:=mx) (qE _)
 have hM:Mat (hRd p m m.length mx) 0 m.length (fun k=>k+1) (WE p m) none:=by
  refine ⟨by rw [qC],fun i hi=>by rw [X8 hi,qC,hr i hi],fun i _=>by omega,fun i j _ _ e=>by omega,⟨mx,by omega,rfl⟩,fun i hi=>?_,?_⟩
  ·have hl:i<(WE p m).length:=by rw [qC];exact hi
   show (((WE p m).take m.length).map bI)[i]?=_
   rw [List.getElem?_map,qV hi,qY hl,QD hl]
   rfl
  ·refine ⟨?_,sameH_all.2 fun B hB=>?_⟩
   ·rw [hlen];simp only [hRd,mxs,VF,Blk.mx];omega
   ·rcases List.mem_cons.1 hB with rfl | hB
    ·exact Y8 (fun k=>k+1) m.length mx (cp:=none)
    ·obtain ⟨x,_,rfl⟩:=List.mem_map.1 hB
     exact Q3 x
 have l_:=QpW (F:=YV) 0 (m.map WH) p (hRd p m m.length mx) 0 m.length (y6:=.i ((m.length:Nat):Int))
 have m_:=QpX (F:=YV) 0 (m.map WH) p (hRd p m m.length mx) 0 m.length 1 (y6:=.i ((m.length:Nat):Int))
 obtain ⟨x,E',H',r2,g3⟩:=Qaa (F:=YV) (ms:=m.map WH) (mb:=0) (by rfl) hp (by omega) m.length 0 1 (WE p m) (fun k=>k+1) _ (qZ _) hM (QhR hp.1 hr) (by omega)
 have r2':=lpi (e0:=(Q2 (.a (m.map WH)) (.i p) (.i 0) (slR 0 m.length none) (.i ((m.length:Nat):Int)) Ud Ud (.i 1) (.i (0:Int)) Ud Ud Ud Ud Ud Ud Ud Ud)) r2 (b:=sn 500 B66)
 rcases g3 with ⟨rfl,rfl⟩ | ⟨rfl,h0,w,c',r,rfl⟩
 ·have z:=Qqe (F:=YV) 0 (m.map WH) p H' 0 m.length (gz p (Zx p) m.length m.length 0 1 (WE p m)) (y10:=.i ((m.length:Nat):Int))
  exact ⟨_,_,_,.int .i64 (gz p (Zx p) m.length m.length 0 1 (WE p m)),sq (a) (sq (b) (sq (sq (c) (bke (c:=sn 29 B66) (r1)) (c:=sn 14 B66)) (sq (l_) (sq (sq (m_) (bke (c:=sn 125 B66) (r2')) (c:=sn 62 B66)) (z) (c:=sn 31 B66)) (c:=sn 15 B66)) (c:=sn 7 B66)) (c:=sn 3 B66)) (c:=B66),by simp,by simp only [Qc,QiP];rfl,rfl⟩
 ·rw [h0]
  exact ⟨_,_,_,.int .i64 0,sq (a) (sq (b) (sq (sq (c) (bke (c:=sn 29 B66) (r1)) (c:=sn 14 B66)) (sq (l_) (sqo (sq (m_) (RunsTo.block_ret (i:=4) (c:=sn 125 B66) (r2') (by kernel_rfl)) (c:=sn 62 B66)) (c:=sn 31 B66) (b:=sn 63 B66)) (c:=sn 15 B66)) (c:=sn 7 B66)) (c:=sn 3 B66)) (c:=B66),by simp,by simp only [Qc,QiP];rfl,rfl⟩
def Jw (q i:Nat):List HV:=(qH q).map fun k=>if k<i then slR (k+1) q else .imm .lit 0 []
theorem Qc7 (q i:Nat):(Jw q i).length=q:=by simp [Jw]
theorem Qc8 {q i:Nat} (hi:i<q):(Jw q i).set i (slR (i+1) q)=Jw q (i+1):=by
 refine jN (by simp [Jw]) fun j h1 h2=>?_
 have hj:j<q:=by simpa [Jw] using h2
 rw [List.getElem_set]
 simp only [Jw,jP,jQ]
 by_cases c:i=j
 ·subst c;rw [if_pos rfl,if_pos (by omega)]
 ·rw [if_neg c]
  by_cases c2:j<i
  ·rw [if_pos c2,if_pos (by omega)]
  ·rw [if_neg c2,if_neg (by omega)]
theorem GH (q:Nat):Jw q q=Xd (fun k=>k+1) q:=List.map_congr_left fun k hk=>if_pos (List.mem_range.1 hk)
theorem Qbc (q:Nat):Jw q 0=qN q (.imm .lit 0 []):=by
 refine jN (by simp [Jw]) fun j h1 h2=>?_
 simp [Jw]
def qmx (i:Nat):Nat:=if i=0 then 0 else i+1
abbrev hQ (q i:Nat):Heap:=.arr 1 (Jw q i) true (qmx i)::qN i (zR q)
theorem CF (q i:Nat):(hQ q i).length=i+1:=by simp [hQ]
section
variable {F:FuncId→Option (List HV→Option HV)} {ls la:List HV} {w:Int} {av:HV} {q:Nat}
theorem QhT (hq:q≤16):RT (plF F) 48 (sn 122 B48) ((QQ (.i (q:Int)) (.g ls) (.i w) (.a la) (.i 0) av (slR 0 q) (.i (0:Int)) Ud Ud Ud Ud Ud Ud Ud Ud Ud Ud Ud Ud Ud Ud Ud Ud)) (hQ q 0) (.exit 0) ((QQ (.i (q:Int)) (.g ls) (.i w) (.a la) (.i 0) av (slR 0 q) (.i (q:Int)) Ud Ud Ud Ud Ud Ud Ud Ud Ud Ud Ud Ud Ud Ud Ud Ud)) (hQ q q):=by
 refine Q7 (pol':=plF F) (f:=48) (b:=sn 244 B48) (c:=sn 122 B48) (E:=fun i=>(QQ (.i (q:Int)) (.g ls) (.i w) (.a la) (.i 0) av (slR 0 q) (.i (i:Int)) Ud Ud Ud Ud Ud Ud Ud Ud Ud Ud Ud Ud Ud Ud Ud Ud)) (Hs:=fun i=>hQ q i) q (E0:=fun i=>(QQ (.i (q:Int)) (.g ls) (.i w) (.a la) (.i 0) av (slR 0 q) (.i ((i+1:Nat):Int)) Ud Ud Ud Ud Ud Ud Ud Ud Ud Ud Ud Ud Ud Ud Ud Ud)) (H1:=fun i=>hQ q (i+1))
  (fun i hi=>?_) (fun _ _=>by kernel_rfl) (fun i hi=>?_) ?_ (by simp) (by kernel_rfl) (fun _ _=>by kernel_rfl)
 ·have mk:=Km (P:=Tp) (H:=hQ q i) (t:=24) (e:=3) (k:=1) (bt:=8) (zv:=.int .i64 0) (n:=(q:Int)) u24 (by kernel_rfl) (by simp [cellsOf,Qm]) (by simp [cellsOf]) (by omega) (by omega) (by simp only [WF];omega)
  rw [qB,CF] at mk
  have erep:Blk.arr 1 (qN q (HV.int .i64 0)) true 0=zR q:=by simp [zR,bI,Qb]
  rw [erep] at mk
  have gm:(hQ q i++[zR q])[0]?=some (.arr 1 (Jw q i) true (qmx i)):=rfl
  have old:(Jw q i)[i]?=some (.imm .lit 0 []):=by simp [Jw,hi]
  have st:=V1 (i:=i) (b:=i+1) (N:=q) (cp:=some q) gm (Qc7 ..).symm old rfl (by intro cs h;cases h)
  have emx:max (qmx i) (i+1+1)=qmx (i+1):=by
   unfold qmx
   split <;> (rw [if_neg (by omega)];omega)
  rw [Qc8 hi,emx] at st
  have eH:(hQ q i++[zR q]).set 0 (.arr 1 (Jw q (i+1)) true (qmx (i+1)))=hQ q (i+1):=by
   rw [hQ,hQ,List.replicate_succ'];rfl
  rw [eH] at st
  have s:=Qpf (F:=F) 0 q ls w la (hQ q i) av 0 i (i+1) (by omega) mk (Z6 hi) st
  rw [Qj (by omega)] at s
  exact s
 ·refine Cy ?_
  have:qmx (i+1)≤mxs (hQ q (i+1)):=by rw [hQ,mxs];exact Nat.le_max_left _ _
  rw [CF]
  rw [qmx,if_neg (by omega)] at this
  omega
 ·exact Qpg (F:=F) 0 q ls w la (hQ q q) av 0 q 0 (by omega)
def zMq (q:Nat):List (List Int):=qN q (qN q 0)
theorem Qqh (q:Nat):Mat (hQ q q) 0 q (fun k=>k+1) (zMq q):=by
 have hr:∀i,i<q→(zMq q).getD i []=qN q 0:=fun i hi=>by simp [zMq,qD,hi]
 refine ⟨by simp [zMq],fun i hi=>by rw [hr i hi];simp,fun i _=>by omega,fun i j _ _ e=>by omega,⟨qmx q,by rw [CF];unfold qmx;split <;> omega,by rw [hQ,GH];rfl⟩,fun i hi=>?_,?_⟩
 ·rw [hr i hi]
  show (qN q (zR q))[i]?=_
  rw [jV,if_pos hi]
 ·refine ⟨?_,sameH_all.2 fun B hB=>?_⟩
  ·rw [CF]
   refine mxs_all.2 fun B hB=>?_
   rcases List.mem_cons.1 hB with rfl | hB
   ·show qmx q≤_;unfold qmx;split <;> omega
   ·rw [jW hB];exact qL _
  ·rcases List.mem_cons.1 hB with rfl | hB
   ·rw [GH];exact Y8 _ _ _
   ·rw [jW hB];exact Q3 _
end
def adE (M:List (List Int)) (j k:Nat) (d:Int):List (List Int):=M.set j ((M.getD j []).set k ((M.getD j []).getD k 0+d))
def laE (M:List (List Int)) (j k:Nat):List (List Int):=adE (adE (adE (adE M j j 1) j k (-1)) k k 1) k j (-1)
def Bd (M:List (List Int)) (n:Int):Prop:=∀a b:Nat,-n≤(M.getD a []).getD b 0∧(M.getD a []).getD b 0≤n
theorem Bd.adE {M:List (List Int)} {n d:Int} (h:Bd M n) (hd:-1≤d∧d≤1) (j k:Nat):Bd (adE M j k d) (n+1):=fun a b=>by
 have h1:=h a b
 have h2:=h j k
 unfold Go.Proofs.Ytiejmoglooaalaa.adE
 by_cases c:j<M.length
 ·rw [WA c]
  by_cases e:j=a
  ·rw [if_pos e]
   subst e
   by_cases c2:k<(M.getD j []).length
   ·rw [V3 c2];split <;> omega
   ·rw [jX (by omega)];omega
  ·rw [if_neg e];omega
 ·rw [jX (by omega)];omega
theorem Bd.laE {M:List (List Int)} {n:Int} (h:Bd M n) (j k:Nat):Bd (laE M j k) (n+1+1+1+1) :=
 (((h.adE (d:=1) (by omega) j j).adE (d:=-1) (by omega) j k).adE (d:=1) (by omega) k k).adE (d:=-1) (by omega) k j
def stF (w:Int) (g:List Int) (l:List St):Nat→List Int×List (List Int)
 | 0=>(g,zMq g.length)
 | i+1 =>
  if (l.getD i (0,0,0)).2.2≠w∨g.getD (l.getD i (0,0,0)).1.toNat 0=g.getD (l.getD i (0,0,0)).2.1.toNat 0 then stF w g l i
  else (Wa (stF w g l i).1 (g.getD (l.getD i (0,0,0)).1.toNat 0) (g.getD (l.getD i (0,0,0)).2.1.toNat 0),
   laE (stF w g l i).2 (g.getD (l.getD i (0,0,0)).1.toNat 0).toNat (g.getD (l.getD i (0,0,0)).2.1.toNat 0).toNat)
theorem Qab {w:Int} {g:List Int} {l:List St} {i:Nat}:stF w g l (i+1)=if (l.getD i (0,0,0)).2.2≠w∨g.getD (l.getD i (0,0,0)).1.toNat 0=g.getD (l.getD i (0,0,0)).2.1.toNat 0 then stF w g l i
  else (Wa (stF w g l i).1 (g.getD (l.getD i (0,0,0)).1.toNat 0) (g.getD (l.getD i (0,0,0)).2.1.toNat 0),
   laE (stF w g l i).2 (g.getD (l.getD i (0,0,0)).1.toNat 0).toNat (g.getD (l.getD i (0,0,0)).2.1.toNat 0).toNat):=rfl
theorem Uh (w:Int) (g:List Int) (l:List St):∀i,(stF w g l i).1.length=g.length
 | 0=>rfl
 | i+1=>by
  rw [stF]
  split
  ·exact Uh w g l i
  ·show (Wa _ _ _).length=_
   rw [Kq];exact Uh w g l i
theorem Qfs (w:Int) (g:List Int) (l:List St):∀i,Bd (stF w g l i).2 (4*i)
 | 0=>fun a b=>by
  show -(4*((0:Nat):Int))≤((zMq g.length).getD a []).getD b 0∧((zMq g.length).getD a []).getD b 0≤4*((0:Nat):Int)
  have:((zMq g.length).getD a []).getD b 0=0:=by
   simp only [zMq,qD,jV]
   split
   ·simp only [Option.getD_some,jV];split <;> rfl
   ·rfl
  rw [this];omega
 | i+1=>by
  have ih:=Qfs w g l i
  rw [stF]
  split
  ·exact fun a b=>by have:=ih a b;omega
  ·have h:=ih.laE (g.getD (l.getD i (0,0,0)).1.toNat 0).toNat (g.getD (l.getD i (0,0,0)).2.1.toNat 0).toNat
   exact fun a b=>by
    have:=h a b
    show _≤((laE (stF w g l i).2 _ _).getD a []).getD b 0∧((laE (stF w g l i).2 _ _).getD a []).getD b 0≤_
    omega
section
variable {F:FuncId→Option (List HV→Option HV)} {l:List St} {g:List Int} {w:Int} {q:Nat}
theorem Mat.bump {H:Heap} {R:Nat→Nat} {M:List (List Int)} (hM:Mat H 0 q R M) {j k:Nat} (hj:j<q) (hk:k<q) {d n:Int} (hd:-1≤d∧d≤1) (hb:Bd M n) (hn:n≤1000) :
  QK Tp H 3 (.ptr (R j) k 0 q)=some (.int .i64 ((M.getD j []).getD k 0)) ∧
  ∃H1,Wf Tp H 3 (.ptr (R j) k 0 q) (.int .i64 (qA.wrap ((M.getD j []).getD k 0+d)))=some H1∧Mat H1 0 q R (adE M j k d)∧Fx H H1 (rowS R q):=by
 have h:=hb j k
 obtain ⟨p1,p2⟩:=hM.put hj hk ((M.getD j []).getD k 0+d)
 refine ⟨hM.get hj hk,_,?_,p2,Fx.set (S:=rowS R q) ⟨j,hj,rfl⟩ _⟩
 rw [WN (by omega) (by omega)]
 exact p1
def AvOk' (H:Heap) (q:Nat) (av:HV) (x:List Int):Prop:=av=.imm .arg 1 (x.map Qb)∨∃b,q<b∧av=.sl b 0 q none q 1∧H[b]?=some (bI x)
theorem AvOk'.sh {H:Heap} {q:Nat} {av:HV} {x:List Int} (h:AvOk' H q av x) (hx:x.length=q):Sh kL H av x:=by
 rcases h with rfl | ⟨b,_,rfl,hb⟩
 ·exact VT H x
 ·exact Zo hx hb
theorem Qqi (h49:F 49=some Xr) (hq:q≤16) (hgl:g.length=q) (hgr:∀x∈g,0≤x∧x<(q:Int)) (hl:l.length≤60) (he:Ju (q:Int) l=true) {H:Heap} (hM:Mat H 0 q (fun k=>k+1) (zMq q)) :
  ∃av H',RT (plF F) 48 (sn 250 B48) ((QQ (.i (q:Int)) (.g (l.map Qa)) (.i w) (.a (g.map Qb)) (.i 0) (.a (g.map Qb)) (slR 0 q) Ud (.i (0:Int)) Ud Ud Ud Ud Ud Ud Ud Ud Ud Ud Ud Ud Ud Ud Ud)) H (.exit 2) ((QQ (.i (q:Int)) (.g (l.map Qa)) (.i w) (.a (g.map Qb)) (.i 0) av (slR 0 q) Ud (.i ((l.length:Nat):Int)) Ud Ud Ud Ud Ud Ud Ud Ud Ud Ud Ud Ud Ud Ud Ud)) H'∧Mat H' 0 q (fun k=>k+1) (stF w g l l.length).2∧AvOk' H' q av (stF w g l l.length).1:=by
 have lm:((l.map Qa).length:Int)=(l.length:Int):=by rw [qC]
 obtain ⟨x,E',H',r,rfl,av,rfl,h1,h2⟩:=W2 (pol':=plF F) (f:=48) (b:=sn 500 B48) (c:=sn 250 B48) (I:=fun i e H=>∃av,e=(QQ (.i (q:Int)) (.g (l.map Qa)) (.i w) (.a (g.map Qb)) (.i 0) av (slR 0 q) Ud (.i (i:Int)) Ud Ud Ud Ud Ud Ud Ud Ud Ud Ud Ud Ud Ud Ud Ud)∧Mat H 0 q (fun k=>k+1) (stF w g l i).2∧AvOk' H q av (stF w g l i).1)
  (Q:=fun x E' H'=>x=.exit 2∧∃av,E'=(QQ (.i (q:Int)) (.g (l.map Qa)) (.i w) (.a (g.map Qb)) (.i 0) av (slR 0 q) Ud (.i ((l.length:Nat):Int)) Ud Ud Ud Ud Ud Ud Ud Ud Ud Ud Ud Ud Ud Ud Ud)∧Mat H' 0 q (fun k=>k+1) (stF w g l l.length).2∧AvOk' H' q av (stF w g l l.length).1) l.length
  (by
   rintro i hi e H ⟨av,rfl,hM,hA⟩
   have gsi:=gs (l:=l) (y:=i) hi
   obtain ⟨ea,eb⟩:=SI he (k:=(i:Int)) ⟨by omega,by omega⟩
   have ea:0≤(l.getD i (0,0,0)).1∧(l.getD i (0,0,0)).1<(q:Int):=ea
   have eb:0≤(l.getD i (0,0,0)).2.1∧(l.getD i (0,0,0)).2.1<(q:Int):=eb
   have es:=Qab (w:=w) (g:=g) (l:=l) (i:=i)
   generalize l.getD i (0,0,0)=s at es gsi ea eb
   obtain ⟨a,b,z⟩:=s
   dsimp only at ea eb es
   have ga:=gx (l:=g) (y:=a.toNat) (by omega)
   have gb:=gx (l:=g) (y:=b.toNat) (by omega)
   have ra:=hgr _ (Qo (l:=g) 0 (show a.toNat<g.length by omega))
   have rb:=hgr _ (Qo (l:=g) 0 (show b.toNat<g.length by omega))
   rw [Int.toNat_of_nonneg ea.1] at ga
   rw [Int.toNat_of_nonneg eb.1] at gb
   generalize g.getD a.toNat 0=ja at *
   generalize g.getD b.toNat 0=kb at *
   obtain ⟨j,rfl⟩:=qM ra.1
   obtain ⟨k,rfl⟩:=qM rb.1
   have hj:j<q:=by omega
   have hk:k<q:=by omega
   have same:stF w g l (i+1)=stF w g l i→∀E0,RT (plF F) 48 (sn 500 B48) ((QQ (.i (q:Int)) (.g (l.map Qa)) (.i w) (.a (g.map Qb)) (.i 0) av (slR 0 q) Ud (.i (i:Int)) Ud Ud Ud Ud Ud Ud Ud Ud Ud Ud Ud Ud Ud Ud Ud)) H .normal E0 H→Qy (plF F) 48 (sn 500 B48) E0=(QQ (.i (q:Int)) (.g (l.map Qa)) (.i w) (.a (g.map Qb)) (.i 0) av (slR 0 q) Ud (.i ((i+1:Nat):Int)) Ud Ud Ud Ud Ud Ud Ud Ud Ud Ud Ud Ud Ud Ud Ud)→∃E0 H1,RT (plF F) 48 (sn 500 B48) ((QQ (.i (q:Int)) (.g (l.map Qa)) (.i w) (.a (g.map Qb)) (.i 0) av (slR 0 q) Ud (.i (i:Int)) Ud Ud Ud Ud Ud Ud Ud Ud Ud Ud Ud Ud Ud Ud Ud)) H .normal E0 H1∧∃av,Qy (plF F) 48 (sn 500 B48) E0=(QQ (.i (q:Int)) (.g (l.map Qa)) (.i w) (.a (g.map Qb)) (.i 0) av (slR 0 q) Ud (.i ((i+1:Nat):Int)) Ud Ud Ud Ud Ud Ud Ud Ud Ud Ud Ud Ud Ud Ud Ud)∧Mat (gc H.length (Wc (Qy (plF F) 48 (sn 500 B48) E0)) H1) 0 q (fun k=>k+1) (stF w g l (i+1)).2∧AvOk' (gc H.length (Wc (Qy (plF F) 48 (sn 500 B48) E0)) H1) q av (stF w g l (i+1)).1:=fun e1 E0 r hr=>by
    rw [e1]
    exact ⟨E0,H,r,av,hr,by rw [QC _ rfl];exact hM,by rw [QC _ rfl];exact hA⟩
   by_cases cw:z=w
   ·by_cases cj:(j:Int)=(k:Int)
    ·rw [if_pos (.inr cj)] at es
     have s:=Qpi (F:=F) 0 q (l.map Qa) w (g.map Qb) H av 0 i j k 0 0 a b 0 0 z 0 0 av (by omega) gsi ga gsi gb gsi cw cj
     rw [Qj (by omega)] at s
     exact same es _ s (by kernel_rfl)
    ·rw [if_neg (fun h=>h.elim (fun h=>h cw) cj)] at es
     have hl1:=(Uh w g l i).trans hgl
     have c49:=at3 (pol':=plF F) (g:=49) (c1:=kL) (c2:=kI) (c3:=kI) (f:=fun g a b=>if (0≤a∧a<(g.length:Int))∧(0≤b∧b<(g.length:Int))∧g.length≤900 then some (.own 1 ((Wa g a b).map Qb)) else none) (H:=H) h49 (hA.sh hl1) (ShI _ (j:Int)) (ShI _ (k:Int)) (if_pos ⟨by omega,by omega,by omega⟩)
     rw [Wz,Kq,hl1] at c49
     have hX:Mat (H++[bI (Wa (stF w g l i).1 j k)]) 0 q (fun k=>k+1) (stF w g l i).2:=by
      obtain ⟨m1,m2,m3,m4,⟨mx,m5,m6⟩,m7,m8⟩:=hM
      exact ⟨m1,m2,m3,m4,⟨mx,by rw [qT];omega,Wb m6⟩,fun i hi=>Wb (m7 i hi),m8.app (qL _) (Q3 _)⟩
     have bd:=Qfs w g l i
     obtain ⟨b1,H1,b2,hM1,f1⟩:=hX.bump hj hj (d:=1) (by omega) bd (by omega)
     have bd1:=bd.adE (d:=1) (by omega) j j
     obtain ⟨b3,H2,b4,hM2,f2⟩:=hM1.bump hj hk (d:=-1) (by omega) bd1 (by omega)
     have bd2:=bd1.adE (d:=-1) (by omega) j k
     obtain ⟨b5,H3,b6,hM3,f3⟩:=hM2.bump hk hk (d:=1) (by omega) bd2 (by omega)
     have bd3:=bd2.adE (d:=1) (by omega) k k
     obtain ⟨b7,H4,b8,hM4,f4⟩:=hM3.bump hk hj (d:=-1) (by omega) bd3 (by omega)
     have s:=Qpj (F:=F) 0 q (l.map Qa) w (g.map Qb) H av 0 i j k (j+1) (k+1) a b _ _ z _ _ _ (by omega) gsi ga gsi gb gsi cw cj c49 (Z6 hj) (hX.ld hj) (Z6 hk) (hX.ld hk) (Z7 hj) b1 (Z7 hj) b2 (Z7 hk) b3 (Z7 hk) b4 (Z7 hk) b5 (Z7 hk) b6 (Z7 hj) b7 (Z7 hj) b8
     rw [Qj (by omega)] at s
     have fx:=((f1.trans f2).trans f3).trans f4
     have hql:q<H.length:=by
      have:=JR hM.blk.choose_spec.2
      rcases Nat.eq_zero_or_pos q with c | c
      ·omega
      ·have:=JR (hM.row (q-1) (by omega));omega
     have hlen4:H4.length=H.length+1:=by rw [fx.ln];simp
     have er:Qy (plF F) 48 (sn 500 B48) ((QQ (.i (q:Int)) (.g (l.map Qa)) (.i w) (.a (g.map Qb)) (.i 0) (.sl H.length 0 q none q 1) (slR 0 q) Ud (.i ((i+1:Nat):Int)) (.i (j:Int)) (.i (k:Int)) (slR (j+1) q) (slR (k+1) q) Ud Ud Ud Ud Ud Ud Ud Ud Ud Ud Ud))=(QQ (.i (q:Int)) (.g (l.map Qa)) (.i w) (.a (g.map Qb)) (.i 0) (.sl H.length 0 q none q 1) (slR 0 q) Ud (.i ((i+1:Nat):Int)) Ud Ud Ud Ud Ud Ud Ud Ud Ud Ud Ud Ud Ud Ud Ud):=by kernel_rfl
     have hgc:gc H.length (Wc ((QQ (.i (q:Int)) (.g (l.map Qa)) (.i w) (.a (g.map Qb)) (.i 0) (.sl H.length 0 q none q 1) (slR 0 q) Ud (.i ((i+1:Nat):Int)) Ud Ud Ud Ud Ud Ud Ud Ud Ud Ud Ud Ud Ud Ud Ud))) H4=H4:=by
      refine Cy ?_
      have:H.length+1≤Wc ((QQ (.i (q:Int)) (.g (l.map Qa)) (.i w) (.a (g.map Qb)) (.i 0) (.sl H.length 0 q none q 1) (slR 0 q) Ud (.i ((i+1:Nat):Int)) Ud Ud Ud Ud Ud Ud Ud Ud Ud Ud Ud Ud Ud Ud Ud)):=by simp only [Wc,bnd,bndL];omega
      omega
     refine ⟨_,H4,s,.sl H.length 0 q none q 1,er,?_,?_⟩
     ·rw [er,hgc,es];exact hM4
     ·rw [er,hgc,es]
      refine .inr ⟨H.length,hql,rfl,?_⟩
      rw [fx.eq _ (by rintro ⟨k,hk,e⟩;have e:H.length=k+1:=e;omega)]
      simp
   ·rw [if_pos (.inl cw)] at es
    have s:=Qpk (F:=F) 0 q (l.map Qa) w (g.map Qb) H av 0 i j k 0 0 a b 0 0 z 0 0 av (by omega) gsi ga gsi gb gsi cw
    rw [Qj (by omega)] at s
    exact same es _ s (by kernel_rfl))
  (by
   rintro e H ⟨av,rfl,hM,hA⟩
   exact ⟨_,_,_,Qpl (F:=F) 0 q (l.map Qa) w (g.map Qb) H av 0 l.length 0 0 0 0 0 0 0 0 0 0 0 av (by omega),by simp,rfl,av,rfl,hM,hA⟩)
  (by kernel_rfl) (by rintro i e H ⟨av,rfl,_⟩;kernel_rfl) (e:=(QQ (.i (q:Int)) (.g (l.map Qa)) (.i w) (.a (g.map Qb)) (.i 0) (.a (g.map Qb)) (slR 0 q) Ud (.i (0:Int)) Ud Ud Ud Ud Ud Ud Ud Ud Ud Ud Ud Ud Ud Ud Ud)) (H:=H) ⟨_,rfl,by rw [stF,hgl];exact hM,.inl rfl⟩
 exact ⟨av,H',r,h1,h2⟩
end
theorem AvOk'.app {H:Heap} {q:Nat} {av:HV} {x:List Int} (h:AvOk' H q av x) (X:Heap):AvOk' (H++X) q av x:=by
 rcases h with rfl | ⟨b,h1,rfl,hb⟩
 ·exact .inl rfl
 ·exact .inr ⟨b,h1,rfl,Wb hb⟩
theorem AvOk'.get {H:Heap} {q:Nat} {av:HV} {x:List Int} (h:AvOk' H q av x) (hx:x.length=q) {r:Nat} (hr:r<q):∃a0,ZI Tp 24 av (.int .i64 (r:Int))=some a0∧QK Tp H 3 a0=some (.int .i64 (x.getD r 0)):=by
 rcases h with rfl | ⟨b,h1,rfl,hb⟩
 ·exact ⟨_,gx (by omega),by kernel_rfl⟩
 ·have:=QR hb (y:=r) (by omega)
  rw [hx] at this
  exact ⟨_,ZT u24 z3 hr,this⟩
def prT (g x:List Int) (c m:Nat):List Int:=((qH m).filter fun u=>decide (c<u∧g.getD u 0=(u:Int)∧x.getD u 0=(c:Int))).map fun u:Nat=>(u:Int)
theorem Qft (g x:List Int) (c m:Nat):prT g x c (m+1)=prT g x c m++if c<m∧g.getD m 0=(m:Int)∧x.getD m 0=(c:Int) then [(m:Int)] else []:=by
 rw [prT,qX,List.filter_append,qJ,← prT]
 congr 1
 by_cases h:c<m∧g.getD m 0=(m:Int)∧x.getD m 0=(c:Int)
 ·rw [if_pos h,List.filter_cons_of_pos (by simpa using h)];rfl
 ·rw [if_neg h,List.filter_cons_of_neg (by simpa using h)];rfl
theorem Qfu (g x:List Int) (c:Nat):prT g x c (c+1)=[]:=by
 rw [prT,List.map_eq_nil_iff,List.filter_eq_nil_iff]
 intro a ha h
 have:=List.mem_range.1 ha
 have:=of_decide_eq_true h
 omega
theorem Qcp (g x:List Int) (c m:Nat):(prT g x c m).length≤m:=by
 rw [prT,qC]
 exact Nat.le_trans (List.length_filter_le ..) (by simp)
section
variable {F:FuncId→Option (List HV→Option HV)} {ls:List HV} {g x:List Int} {w u:Int} {q:Nat} {av:HV} {H:Heap}
theorem Qfv (hq:q≤16) (hgl:g.length=q) (hxl:x.length=q) (hA:AvOk' H q av x) {c:Nat} (hc:c<q) :
  RT (plF F) 48 (sn 521370 B48) ((QQ (.i (q:Int)) (.g ls) (.i w) (.a (g.map Qb)) (.i 0) av (slR 0 q) Ud Ud Ud Ud Ud Ud (.i u) (.i (c:Int)) (.sl H.length 0 (0) none (0) 1) (.i ((c+1:Nat):Int)) Ud Ud Ud Ud Ud Ud Ud)) (H++[bI []]) (.exit 6) ((QQ (.i (q:Int)) (.g ls) (.i w) (.a (g.map Qb)) (.i 0) av (slR 0 q) Ud Ud Ud Ud Ud Ud (.i u) (.i (c:Int)) (.sl H.length 0 ((prT g x c q).length) none ((prT g x c q).length) 1) (.i (q:Int)) Ud Ud Ud Ud Ud Ud Ud)) (H++[bI (prT g x c q)]):=by
 have h:=Q7 (pol':=plF F) (f:=48) (b:=sn 1042740 B48) (c:=sn 521370 B48) (E:=fun i=>(QQ (.i (q:Int)) (.g ls) (.i w) (.a (g.map Qb)) (.i 0) av (slR 0 q) Ud Ud Ud Ud Ud Ud (.i u) (.i (c:Int)) (.sl H.length 0 ((prT g x c (c+1+i)).length) none ((prT g x c (c+1+i)).length) 1) (.i ((c+1+i:Nat):Int)) Ud Ud Ud Ud Ud Ud Ud)) (Hs:=fun i=>H++[bI (prT g x c (c+1+i))]) (q-(c+1))
  (E0:=fun i=>(QQ (.i (q:Int)) (.g ls) (.i w) (.a (g.map Qb)) (.i 0) av (slR 0 q) Ud Ud Ud Ud Ud Ud (.i u) (.i (c:Int)) (.sl H.length 0 ((prT g x c (c+1+(i+1))).length) none ((prT g x c (c+1+(i+1))).length) 1) (.i ((c+1+(i+1):Nat):Int)) Ud Ud Ud Ud Ud Ud Ud)) (H1:=fun i=>H++[bI (prT g x c (c+1+(i+1)))]) (x:=.exit 6) (E':=(QQ (.i (q:Int)) (.g ls) (.i w) (.a (g.map Qb)) (.i 0) av (slR 0 q) Ud Ud Ud Ud Ud Ud (.i u) (.i (c:Int)) (.sl H.length 0 ((prT g x c q).length) none ((prT g x c q).length) 1) (.i (q:Int)) Ud Ud Ud Ud Ud Ud Ud)) (H':=H++[bI (prT g x c q)])
  (fun i hi=>by
   have hr:c+1+i<q:=by omega
   obtain ⟨a0,i1,i2⟩:=(hA.app [bI (prT g x c (c+1+i))]).get hxl hr
   have gg:=gx (l:=g) (y:=c+1+i) (by omega)
   have ew:qA.wrap (((c+1+i:Nat):Int)+1)=((c+1+(i+1):Nat):Int):=by rw [QI (by omega) (by omega)];omega
   have es:=Qft g x c (c+1+i)
   have e1:c+1+(i+1)=c+1+i+1:=by omega
   have hpl:=Qcp g x c (c+1+i)
   have hb:(H++[bI (prT g x c (c+1+i))])[H.length]?=some (bI (prT g x c (c+1+i))):=by simp
   have ap:=Zz hb (by omega) ((c+1+i:Nat):Int)
   have hset:∀o:List Int,(H++[bI (prT g x c (c+1+i))]).set H.length (bI o)=H++[bI o]:=fun o=>by simp
   rw [hset] at ap
   by_cases c1:g.getD (c+1+i) 0=((c+1+i:Nat):Int)
   ·by_cases c2:x.getD (c+1+i) 0=(c:Int)
    ·rw [if_pos ⟨by omega,c1,c2⟩] at es
     rw [← es,show (prT g x c (c+1+i)).length+1=(prT g x c (c+1+i+1)).length by rw [es];simp] at ap
     have s:=Qpu (F:=F) 0 q ls w (g.map Qb) (H++[bI (prT g x c (c+1+i))]) av 0 u c H.length (prT g x c (c+1+i)).length (c+1+i) 0 _ (by omega) gg c1 i1 i2 c2 ap
     rw [ew] at s
     exact s
    ·rw [if_neg (fun h=>c2 h.2.2),qP] at es
     have s:=Qpv (F:=F) 0 q ls w (g.map Qb) (H++[bI (prT g x c (c+1+i))]) av 0 u c H.length (prT g x c (c+1+i)).length (c+1+i) 0 _ (by omega) gg c1 i1 i2 c2
     rw [ew] at s
     rw [e1,es,← e1]
     exact s
   ·rw [if_neg (fun h=>c1 h.2.1),qP] at es
    have s:=Qpw (F:=F) 0 q ls w (g.map Qb) (H++[bI (prT g x c (c+1+i))]) av 0 u c H.length (prT g x c (c+1+i)).length (c+1+i) 0 0 (by omega) gg c1
    rw [ew] at s
    rw [e1,es,← e1]
    exact s)
  (fun i _=>by kernel_rfl) (fun i _=>QC _ (by simp)) (by
   have e:c+1+(q-(c+1))=q:=by omega
   rw [e]
   exact Qpx (F:=F) 0 q ls w (g.map Qb) (H++[bI (prT g x c q)]) av 0 u c H.length (prT g x c q).length q 0 0 (by omega)) (by simp) (by kernel_rfl) (fun i _=>by kernel_rfl)
 rw [Nat.add_zero,Qfu] at h
 exact h
end
theorem Qfw {H:Heap} {els:List HV} {mx w i tb zb b N:Nat} (h0:H[zb]?=some (.arr 1 els true mx)) (hl:els.length=i) (ht:H[tb]?=some (.arr 1 [slR b N none] true w)) (hi:i≤900) :
  Wq Tp .append [57,57] [.sl zb 0 i none i 1,.sl tb 0 1 (some 1) 1 1] H=some (.sl zb 0 (i+1) none (i+1) 1,H.set zb (.arr 1 (els++[slR b N none]) true (max mx (b+1)))):=by
 have hi24:=Qfo
 have hsrc:Zs H (.sl tb 0 1 (some 1) 1 1)=some ([slR b N none],1):=by
  simp only [Zs,WR,ht];rfl
 cases hinf:Tp.info? 24 with
 | none=>rw [hinf] at hi24;cases hi24
 | some inf =>
  rw [hinf] at hi24
  simp only [Option.map,Option.some.injEq,Prod.mk.injEq] at hi24
  obtain ⟨e1,e2,e3⟩:=hi24
  simp only [Wq,u57,hinf,hsrc,e1,e2,e3]
  rw [if_pos ⟨.inl trivial,by omega,trivial⟩]
  simp only [W5,h0,hl]
  rw [if_neg (by simp),if_pos ⟨trivial,trivial,trivial,by simp only [jU,WF];omega⟩,if_pos ⟨trivial,trivial,trivial⟩]
  simp [bndL,bnd]
def Wj (M:List (List Int)) (V:List Int):List (List Int):=V.map fun a=>V.map fun b=>(M.getD a.toNat []).getD b.toNat 0
theorem Jr (M:List (List Int)) (V:List Int):(Wj M V).length=V.length:=by simp [Wj]
theorem Ui {M:List (List Int)} {V:List Int} {i:Nat} (h:i<V.length):(Wj M V).getD i []=V.map fun b=>(M.getD (V.getD i 0).toNat []).getD b.toNat 0:=by
 simp [Wj,qD,h]
section
variable {F:FuncId→Option (List HV→Option HV)} {ls la:List HV} {w u:Int} {q c ob:Nat} {av:HV} {H:Heap} {M:List (List Int)} {V:List Int}
abbrev hRw (H:Heap) (M:List (List Int)) (V:List Int) (i mx:Nat):Heap:=H++(.arr 1 ((qH i).map fun k=>slR (H.length+1+k) V.length none) true mx::((Wj M V).take i).map bI)
theorem Uj {i mx:Nat} (h:i≤V.length):(hRw H M V i mx).length=H.length+1+i:=by
 simp only [hRw,qT,List.length_cons,qC,qI,Jr];omega
theorem QrC (hM:Mat H 0 q (fun k=>k+1) M) (hV:H[ob]?=some (bI V)) (hVr:∀a∈V,0≤a∧a<(q:Int)) (hl:V.length≤16) {i mx:Nat} (hi:i<V.length) :
  RT (plF F) 48 (sn 533887562 B48) ((QQ (.i (q:Int)) (.g ls) (.i w) (.a la) (.i 0) av (slR 0 q) Ud Ud Ud Ud Ud Ud (.i u) (.i (c:Int)) (.s ob V.length) Ud (.sl H.length 0 (i) none (i) 1) (.i (i:Int)) (.s (H.length+1+i) (0)) (.i (0:Int)) Ud Ud Ud)) (hRw H M V i mx++[bI []]) (.exit 10) ((QQ (.i (q:Int)) (.g ls) (.i w) (.a la) (.i 0) av (slR 0 q) Ud Ud Ud Ud Ud Ud (.i u) (.i (c:Int)) (.s ob V.length) Ud (.sl H.length 0 (i) none (i) 1) (.i (i:Int)) (.s (H.length+1+i) (V.length)) (.i ((V.length:Nat):Int)) Ud Ud Ud)) (hRw H M V i mx++[bI ((Wj M V).getD i [])]):=by
 have hlen:=Uj (H:=H) (M:=M) (V:=V) (i:=i) (mx:=mx) (by omega)
 have hrl:((Wj M V).getD i []).length=V.length:=by rw [Ui hi,qC]
 have h:=Q7 (pol':=plF F) (f:=48) (b:=sn 1067775124 B48) (c:=sn 533887562 B48) (E:=fun j=>(QQ (.i (q:Int)) (.g ls) (.i w) (.a la) (.i 0) av (slR 0 q) Ud Ud Ud Ud Ud Ud (.i u) (.i (c:Int)) (.s ob V.length) Ud (.sl H.length 0 (i) none (i) 1) (.i (i:Int)) (.s (H.length+1+i) (j)) (.i (j:Int)) Ud Ud Ud)) (Hs:=fun j=>hRw H M V i mx++[bI (((Wj M V).getD i []).take j)]) V.length
  (E0:=fun j=>(QQ (.i (q:Int)) (.g ls) (.i w) (.a la) (.i 0) av (slR 0 q) Ud Ud Ud Ud Ud Ud (.i u) (.i (c:Int)) (.s ob V.length) Ud (.sl H.length 0 (i) none (i) 1) (.i (i:Int)) (.s (H.length+1+i) (j+1)) (.i ((j+1:Nat):Int)) Ud Ud Ud)) (H1:=fun j=>hRw H M V i mx++[bI (((Wj M V).getD i []).take (j+1))]) (x:=.exit 10) (E':=(QQ (.i (q:Int)) (.g ls) (.i w) (.a la) (.i 0) av (slR 0 q) Ud Ud Ud Ud Ud Ud (.i u) (.i (c:Int)) (.s ob V.length) Ud (.sl H.length 0 (i) none (i) 1) (.i (i:Int)) (.s (H.length+1+i) (V.length)) (.i ((V.length:Nat):Int)) Ud Ud Ud)) (H':=hRw H M V i mx++[bI ((Wj M V).getD i [])])
  (fun j hj=>by
   have hb:(hRw H M V i mx++[bI (((Wj M V).getD i []).take j)])[H.length+1+i]?=some (bI (((Wj M V).getD i []).take j)):=by rw [← hlen];simp
   have hol:(((Wj M V).getD i []).take j).length=j:=by rw [qI];omega
   have ap:=Zz hb (by omega) (((Wj M V).getD i []).getD j 0)
   rw [hol,← Q5 (by omega)] at ap
   have hset:(hRw H M V i mx++[bI (((Wj M V).getD i []).take j)]).set (H.length+1+i) (bI (((Wj M V).getD i []).take (j+1)))=hRw H M V i mx++[bI (((Wj M V).getD i []).take (j+1))]:=by rw [← hlen];simp
   rw [hset] at ap
   have ri:=hVr _ (Qo (l:=V) 0 hi)
   have rj:=hVr _ (Qo (l:=V) 0 hj)
   have ev:((Wj M V).getD i []).getD j 0=(M.getD (V.getD i 0).toNat []).getD (V.getD j 0).toNat 0:=by
    rw [Ui hi];simp [qD,hj]
   have gV:(hRw H M V i mx++[bI (((Wj M V).getD i []).take j)])[ob]?=some (bI V):=Wb (Wb hV)
   have l1:=QR gV (y:=i) hi
   have l2:=QR gV (y:=j) hj
   have m1:∀{k:Nat},k<q→QK Tp (hRw H M V i mx++[bI (((Wj M V).getD i []).take j)]) 24 (.ptr 0 k 0 q)=some (slR (k+1) q):=fun {k} hk=>by
    obtain ⟨mx',_,hb⟩:=hM.blk
    exact WV (b:=0) (Wb (Wb hb)) (Z5 (fun k=>k+1) q).symm (Kx hk) rfl a24 i24
   have m2:∀{k m:Nat},k<q→m<q→QK Tp (hRw H M V i mx++[bI (((Wj M V).getD i []).take j)]) 3 (.ptr (k+1) m 0 q)=some (.int .i64 ((M.getD k []).getD m 0)):=fun {k m} hk hm=>by
    have:=QR (H:=hRw H M V i mx++[bI (((Wj M V).getD i []).take j)]) (Wb (Wb (hM.row k hk))) (y:=m) (by rw [hM.rl k hk];exact hm)
    rw [hM.rl k hk] at this
    exact this
   rw [ev] at ap
   generalize V.getD i 0=vi at *
   generalize V.getD j 0=vj at *
   obtain ⟨k,rfl⟩:=qM ri.1
   obtain ⟨m,rfl⟩:=qM rj.1
   rw [qB,qB] at ap
   have s:=QpE (F:=F) 0 q ls w la (hRw H M V i mx++[bI (((Wj M V).getD i []).take j)]) av 0 u c ob V.length H.length i i (H.length+1+i) j j (k+1) k m _ (by omega) (ZT u24 z3 hi) l1 (Z6 (by omega)) (m1 (by omega)) (ZT u24 z3 hj) l2 (Z7 (by omega)) (m2 (by omega) (by omega)) ap
   rw [Qj (by omega)] at s
   exact s) (fun j _=>by kernel_rfl) (fun j _=>QC _ (by simp)) (by
   have hol:((Wj M V).getD i []).take V.length=(Wj M V).getD i []:=jE (by omega)
   rw [hol]
   exact QpF (F:=F) 0 q ls w la _ av 0 u c ob V.length H.length i i (H.length+1+i) V.length V.length 0 0 0 0 (by omega)) (by simp) (by kernel_rfl) (fun j _=>by kernel_rfl)
 rw [jJ] at h
 exact h
end
section
variable {F:FuncId→Option (List HV→Option HV)} {ls la:List HV} {w u:Int} {q c ob:Nat} {av:HV} {H:Heap} {M:List (List Int)} {V:List Int}
theorem Qfx {i x:Nat} (hi:i<V.length):hRw H M V (i+1) x=H++(.arr 1 ((qH i).map (fun k=>slR (H.length+1+k) V.length none)++[slR (H.length+1+i) V.length none]) true x::(((Wj M V).take i).map bI++[bI ((Wj M V).getD i [])])):=by
 have hl:i<(Wj M V).length:=by rw [Jr];exact hi
 rw [hRw,List.take_add_one,qJ,qX,qJ]
 simp [qD,hl]
theorem Qqj (hM:Mat H 0 q (fun k=>k+1) M) (hV:H[ob]?=some (bI V)) (hVr:∀a∈V,0≤a∧a<(q:Int)) (hl:V.length≤16) (hav:bnd av≤H.length) :
  ∃mx,mx≤H.length+1+V.length∧RT (plF F) 48 (sn 2085498 B48) ((QQ (.i (q:Int)) (.g ls) (.i w) (.a la) (.i 0) av (slR 0 q) Ud Ud Ud Ud Ud Ud (.i u) (.i (c:Int)) (.s ob V.length) Ud (.sl H.length 0 (0) none (0) 1) (.i (0:Int)) Ud Ud Ud Ud Ud)) (hRw H M V 0 0) (.exit 8) ((QQ (.i (q:Int)) (.g ls) (.i w) (.a la) (.i 0) av (slR 0 q) Ud Ud Ud Ud Ud Ud (.i u) (.i (c:Int)) (.s ob V.length) Ud (.sl H.length 0 (V.length) none (V.length) 1) (.i ((V.length:Nat):Int)) Ud Ud Ud Ud Ud)) (hRw H M V V.length mx):=by
 have hob:=JR hV
 obtain ⟨x,E',H',r,rfl,rfl,mx,h1,rfl⟩:=W2 (pol':=plF F) (f:=48) (b:=sn 4170996 B48) (c:=sn 2085498 B48) (I:=fun i e X=>e=(QQ (.i (q:Int)) (.g ls) (.i w) (.a la) (.i 0) av (slR 0 q) Ud Ud Ud Ud Ud Ud (.i u) (.i (c:Int)) (.s ob V.length) Ud (.sl H.length 0 (i) none (i) 1) (.i (i:Int)) Ud Ud Ud Ud Ud)∧∃mx,mx≤H.length+1+i∧X=hRw H M V i mx)
  (Q:=fun x E' X=>x=.exit 8∧E'=(QQ (.i (q:Int)) (.g ls) (.i w) (.a la) (.i 0) av (slR 0 q) Ud Ud Ud Ud Ud Ud (.i u) (.i (c:Int)) (.s ob V.length) Ud (.sl H.length 0 (V.length) none (V.length) 1) (.i ((V.length:Nat):Int)) Ud Ud Ud Ud Ud)∧∃mx,mx≤H.length+1+V.length∧X=hRw H M V V.length mx) V.length
  (by
   rintro i hi e X ⟨rfl,mx,hmx,rfl⟩
   have hlen:=Uj (H:=H) (M:=M) (V:=V) (i:=i) (mx:=mx) (by omega)
   have hrl:((Wj M V).getD i []).length=V.length:=by rw [Ui hi,qC]
   have s1:=QpA (F:=F) 0 q ls w la (hRw H M V i mx) av 0 u c ob V.length H.length i i (by omega)
   have s2:=QpC (F:=F) 0 q ls w la (hRw H M V i mx) av 0 u c ob V.length H.length i i (v0:=.sl (H.length+1+i) 0 0 none 0 1) (H0:=hRw H M V i mx++[bI []]) (by rw [hlen];rfl)
   have s3:=QpD (F:=F) 0 q ls w la (hRw H M V i mx++[bI []]) av 0 u c ob V.length H.length i i (H.length+1+i) 0
   have s4:=QrC (F:=F) (ls:=ls) (la:=la) (w:=w) (u:=u) (c:=c) (av:=av) hM hV hVr hl (mx:=mx) hi
   have hl2:(hRw H M V i mx++[bI ((Wj M V).getD i [])]).length=H.length+2+i:=by rw [qT,hlen];simp;omega
   have lt:=Qco (b:=H.length+1+i) (N:=V.length) (H:=hRw H M V i mx++[bI ((Wj M V).getD i [])])
   rw [hl2] at lt
   have g0:(hRw H M V i mx++[bI ((Wj M V).getD i [])]++[Blk.arr 1 [slR (H.length+1+i) V.length none] true (H.length+1+i+1)])[H.length]?=some (.arr 1 ((qH i).map fun k=>slR (H.length+1+k) V.length none) true mx):=Wb (Wb (by simp))
   have gt:(hRw H M V i mx++[bI ((Wj M V).getD i [])]++[Blk.arr 1 [slR (H.length+1+i) V.length none] true (H.length+1+i+1)])[H.length+2+i]?=some (.arr 1 [slR (H.length+1+i) V.length none] true (H.length+1+i+1)):=by rw [← hl2];simp
   have ap:=Qfw (i:=i) g0 (by simp) gt (by omega)
   have hset:(hRw H M V i mx++[bI ((Wj M V).getD i [])]++[Blk.arr 1 [slR (H.length+1+i) V.length none] true (H.length+1+i+1)]).set H.length (.arr 1 ((qH i).map (fun k=>slR (H.length+1+k) V.length none)++[slR (H.length+1+i) V.length none]) true (max mx (H.length+1+i+1)))=hRw H M V (i+1) (H.length+1+i+1)++[Blk.arr 1 [slR (H.length+1+i) V.length none] true (H.length+1+i+1)]:=by
    rw [Qfx hi,show max mx (H.length+1+i+1)=H.length+1+i+1 by omega]
    simp [hRw]
   rw [hset] at ap
   have s5:=QpG (F:=F) 0 q ls w la (hRw H M V i mx++[bI ((Wj M V).getD i [])]) av 0 u c ob V.length H.length i i (H.length+1+i) V.length (H.length+2+i) (y24:=.i ((V.length:Nat):Int)) lt ap
   have s6:=QpH (F:=F) 0 q ls w la (hRw H M V (i+1) (H.length+1+i+1)++[Blk.arr 1 [slR (H.length+1+i) V.length none] true (H.length+1+i+1)]) av 0 u c ob V.length H.length (i+1) i (y23:=.s (H.length+1+i) V.length) (y24:=.i ((V.length:Nat):Int))
   rw [Qj (by omega)] at s6
   refine ⟨_,_,sq (s1) (sq (RunsTo.block_normal (i:=9) (c:=sn 16683986 B48) (sq (s2) (sq (sq (s3) (bke (c:=sn 266943781 B48) (s4)) (c:=sn 133471890 B48)) (s5) (c:=sn 66735945 B48)) (c:=sn 33367972 B48)) (by kernel_rfl)) (s6) (c:=sn 8341993 B48)) (c:=sn 4170996 B48),?_⟩
   have er:Qy (plF F) 48 (sn 4170996 B48) ((QQ (.i (q:Int)) (.g ls) (.i w) (.a la) (.i 0) av (slR 0 q) Ud Ud Ud Ud Ud Ud (.i u) (.i (c:Int)) (.s ob V.length) Ud (.sl H.length 0 (i+1) none (i+1) 1) (.i ((i+1:Nat):Int)) (.s (H.length+1+i) V.length) (.i ((V.length:Nat):Int)) Ud Ud Ud))=(QQ (.i (q:Int)) (.g ls) (.i w) (.a la) (.i 0) av (slR 0 q) Ud Ud Ud Ud Ud Ud (.i u) (.i (c:Int)) (.s ob V.length) Ud (.sl H.length 0 (i+1) none (i+1) 1) (.i ((i+1:Nat):Int)) Ud Ud Ud Ud Ud):=by kernel_rfl
   rw [er]
   refine ⟨rfl,H.length+1+i+1,by omega,?_⟩
   have hb:Wc ((QQ (.i (q:Int)) (.g ls) (.i w) (.a la) (.i 0) av (slR 0 q) Ud Ud Ud Ud Ud Ud (.i u) (.i (c:Int)) (.s ob V.length) Ud (.sl H.length 0 (i+1) none (i+1) 1) (.i ((i+1:Nat):Int)) Ud Ud Ud Ud Ud))≤H.length+1:=by
    simp only [Wc,bnd,bndL];omega
   have hl3:=Uj (H:=H) (M:=M) (V:=V) (i:=i+1) (mx:=H.length+1+i+1) (by omega)
   have hmH:=hM.mm.mx
   have hm:mxs (hRw H M V (i+1) (H.length+1+i+1)++[Blk.arr 1 [slR (H.length+1+i) V.length none] true (H.length+1+i+1)])=H.length+1+i+1:=by
    rw [Wn,hRw,Wn]
    simp only [mxs,VF,Blk.mx]
    omega
   rw [Go.HL.gc,hm,hlen]
   generalize Wc _=bb at hb
   rw [show max (H.length+1+i) (max bb (H.length+1+i+1))=(hRw H M V (i+1) (H.length+1+i+1)).length by rw [hl3];omega,List.take_left' rfl])
  (by
   rintro e X ⟨rfl,mx,hmx,rfl⟩
   have s1:=QpB (F:=F) 0 q ls w la (hRw H M V V.length mx) av 0 u c ob V.length H.length V.length V.length (by omega)
   exact ⟨_,_,_,sqo (s1) (c:=sn 4170996 B48) (b:=sn 8341993 B48),by simp,rfl,rfl,mx,hmx,rfl⟩)
  (by kernel_rfl) (by rintro i e X ⟨rfl,_⟩;kernel_rfl) (e:=(QQ (.i (q:Int)) (.g ls) (.i w) (.a la) (.i 0) av (slR 0 q) Ud Ud Ud Ud Ud Ud (.i u) (.i (c:Int)) (.s ob V.length) Ud (.sl H.length 0 (0) none (0) 1) (.i (0:Int)) Ud Ud Ud Ud Ud)) (H:=hRw H M V 0 0) ⟨rfl,0,by omega,rfl⟩
 exact ⟨mx,h1,r⟩
end
theorem Mat.pre {H H1:Heap} {mb N:Nat} {R:Nat→Nat} {m:List (List Int)} {cp:Option Nat} (h:Mat H mb N R m cp) (hp:Pre H H1) (ho:Ok H1):Mat H1 mb N R m cp:=by
 obtain ⟨m1,m2,m3,m4,⟨mx,m5,m6⟩,m7,m8⟩:=h
 exact ⟨m1,m2,m3,m4,⟨mx,Nat.le_trans m5 hp.ln,hp.get m6⟩,fun i hi=>hp.get (m7 i hi),ho⟩
theorem AvOk'.pre {H H1:Heap} {q:Nat} {av:HV} {x:List Int} (h:AvOk' H q av x) (hp:Pre H H1):AvOk' H1 q av x:=by
 rcases h with rfl | ⟨b,h1,rfl,hb⟩
 ·exact .inl rfl
 ·exact .inr ⟨b,h1,rfl,hp.get hb⟩
theorem AvOk'.bnd {H:Heap} {q:Nat} {av:HV} {x:List Int} (h:AvOk' H q av x):Go.HL.bnd av≤H.length:=by
 rcases h with rfl | ⟨b,h1,rfl,hb⟩
 ·simp [Go.HL.bnd]
 ·have:=JR hb
  simp only [Go.HL.bnd];omega
section
variable {H:Heap} {M:List (List Int)} {V:List Int}
theorem Qqk (ho:Ok H) {i mx:Nat} (hi:i≤V.length) (hmx:mx≤H.length+1+i):Ok (hRw H M V i mx):=by
 refine ⟨?_,sameH_all.2 fun B hB=>?_⟩
 ·rw [Uj hi,hRw,Wn]
  have:=ho.mx
  simp only [mxs,VF,Blk.mx];omega
 ·rcases List.mem_append.1 hB with h | h
  ·exact sameH_all.1 ho.sm B h
  ·rcases List.mem_cons.1 h with rfl | h
   ·simp only [Qw,WW (f:=fun k=>slR (H.length+1+k) V.length none) (fun k=>by simp [same]),beq_self_eq_true,qU]
   ·obtain ⟨x,_,rfl⟩:=List.mem_map.1 h
    exact Q3 x
theorem QhU (i mx:Nat):Pre H (hRw H M V i mx):=Pre.app _ _
end
theorem QhV {H:Heap} {l:List Int} {b m:Nat} (hm:l.length=m) (hb:H[b]?=some (bI l)):QF H 5 (.sl b 0 m none m 1)=some (WH l):=by
 subst hm
 have e:QF H 5 (.sl b 0 l.length none l.length 1)=if l.length=0 then some (.imm .arg 1 []) else match WR H b 0 l.length l.length 1 with | some l=>(match mapO (QF H 4) l with | some l=>some (.imm .arg 1 l) | none=>none) | none=>none:=rfl
 rw [e]
 split
 ·rename_i h0
  rw [List.length_eq_zero_iff.1 h0];rfl
 ·have hv:WR H b 0 l.length l.length 1=some (l.map Qb):=by
   simp only [WR,hb,qC]
   rw [if_pos ⟨trivial,by omega,trivial⟩]
   simp [jE]
  have hm:mapO (QF H 4) (l.map Qb)=some (l.map Qb):=Wy (f:=QF H 4) (g:=Qb) (fun _=>rfl) l
  rw [hv]
  simp only [hm]
  rfl
theorem Qcq {α β:Type} {f:α→Option β}:∀{l:List α} {r:List β},l.length=r.length→(∀i (h1:i<l.length) (h2:i<r.length),f l[i]=some r[i])→mapO f l=some r
 | [],[],_,_=>rfl
 | [],_::_,h,_=>by simp at h
 | _::_,[],h,_=>by simp at h
 | a::l,b::r,hl,h=>by
  have h0:=h 0 (by simp) (by simp)
  have ih:=Qcq (f:=f) (l:=l) (r:=r) (by simpa using hl) fun i h1 h2=>by
   have:=h (i+1) (by simp;omega) (by simp;omega)
   simpa using this
  simp only [List.getElem_cons_zero] at h0
  simp only [mapO,h0,ih]
theorem Qfy {H:Heap} {M:List (List Int)} {V:List Int} {mx:Nat}:Sh kM (hRw H M V V.length mx) (.sl H.length 0 V.length none V.length 1) (Wj M V):=by
 show QF (hRw H M V V.length mx) 6 (.sl H.length 0 V.length none V.length 1)=some (.imm .arg 1 ((Wj M V).map WH))
 have e:QF (hRw H M V V.length mx) 6 (.sl H.length 0 V.length none V.length 1)=if V.length=0 then some (.imm .arg 1 []) else match WR (hRw H M V V.length mx) H.length 0 V.length V.length 1 with | some l=>(match mapO (QF (hRw H M V V.length mx) 5) l with | some l=>some (.imm .arg 1 l) | none=>none) | none=>none:=rfl
 rw [e]
 split
 ·rename_i h0
  rw [Wj,List.length_eq_zero_iff.1 h0];rfl
 ·have hb:(hRw H M V V.length mx)[H.length]?=some (.arr 1 ((qH V.length).map fun k=>slR (H.length+1+k) V.length none) true mx):=by rw [hRw];simp
  have hv:WR (hRw H M V V.length mx) H.length 0 V.length V.length 1=some ((qH V.length).map fun k=>slR (H.length+1+k) V.length none):=by
   simp only [WR,hb,qC,List.length_range]
   rw [if_pos ⟨trivial,by omega,trivial⟩]
   simp [jE]
  have hm:mapO (QF (hRw H M V V.length mx) 5) ((qH V.length).map fun k=>slR (H.length+1+k) V.length none)=some ((Wj M V).map WH):=by
   refine Qcq (by simp [Jr]) fun i h1 h2=>?_
   have hi:i<V.length:=by simpa using h1
   have hi2:i<(Wj M V).length:=by rw [Jr];exact hi
   simp only [jP,jQ]
   refine QhV (by simp [Wj]) ?_
   rw [hRw,jG (by omega),show H.length+1+i-H.length=i+1 by omega,List.getElem?_cons_succ,List.getElem?_map,qV hi,qY hi2]
   rfl
  rw [hv]
  simp only [hm]
def zqT (f g y:Int):Int:=(qA.wrap ((qA.wrap (qA.wrap (g-f.tmod 998244353)+998244353)).tmod 998244353*y)).tmod 998244353
def dPT (p:Int) (M:List (List Int)) (V:List Int):Int:=gz p (Zx p) V.length V.length 0 1 (WE p (Wj M V))
def grU (g x:List Int) (M:List (List Int)) (q:Nat) (u:Int) (c:Nat):Int :=
 if x.getD c 0=(c:Int) then qA.wrap (u*qA.wrap (dPT 1000000007 M (prT g x c q)+qA.wrap (1000000007*zqT (dPT 1000000007 M (prT g x c q)) (dPT 998244353 M (prT g x c q)) (pw 1755654 998244351 998244353)))) else u
section
variable {F:FuncId→Option (List HV→Option HV)} {ls:List HV} {g x:List Int} {w:Int} {q:Nat} {av:HV} {H:Heap} {M:List (List Int)}
theorem Qfz (h66:F 66=some CE) (h67:F 67=some Xw) (hq:q≤16) (hgl:g.length=q) (hxl:x.length=q) (hM:Mat H 0 q (fun k=>k+1) M) (hA:AvOk' H q av x) (u:Int) {c:Nat} (hc:c<q) :
  ∃E0 H1,RT (plF F) 48 (sn 2036 B48) ((QQ (.i (q:Int)) (.g ls) (.i w) (.a (g.map Qb)) (.i 0) av (slR 0 q) Ud Ud Ud Ud Ud Ud (.i (u)) (.i (c:Int)) Ud Ud Ud Ud Ud Ud Ud Ud Ud)) H .normal E0 H1∧Qy (plF F) 48 (sn 2036 B48) E0=(QQ (.i (q:Int)) (.g ls) (.i w) (.a (g.map Qb)) (.i 0) av (slR 0 q) Ud Ud Ud Ud Ud Ud (.i (grU g x M q u c)) (.i ((c+1:Nat):Int)) Ud Ud Ud Ud Ud Ud Ud Ud Ud)∧Pre H H1∧Ok H1:=by
 have s1:=Qpo (F:=F) 0 q ls w (g.map Qb) H av 0 u c (by omega)
 obtain ⟨a0,i1,i2⟩:=hA.get hxl hc
 by_cases cx:x.getD c 0=(c:Int)
 case neg =>
  have s2:=Qpr (F:=F) 0 q ls w (g.map Qb) H av 0 u c (x.getD c 0) i1 i2 cx
  have s3:=Qcn (F:=F) 0 q ls w (g.map Qb) H av 0 u c
  rw [Qj (by omega)] at s3
  refine ⟨_,H,sq (s1) (sq (bke (c:=sn 8146 B48) (sqo (s2) (c:=sn 16292 B48) (b:=sn 32585 B48))) (s3) (c:=sn 4073 B48)) (c:=sn 2036 B48),?_,Pre.refl H,hM.mm⟩
  rw [grU,if_neg cx]
  kernel_rfl
 rw [grU,if_pos cx]
 have s2:=Qpq (F:=F) 0 q ls w (g.map Qb) H av 0 u c (x.getD c 0) i1 i2 cx
 have s3:=Qps (F:=F) 0 q ls w (g.map Qb) H av 0 u c (v0:=.sl H.length 0 0 none 0 1) (H0:=H++[bI []]) rfl
 have s4:=Qpt (F:=F) 0 q ls w (g.map Qb) (H++[bI []]) av 0 u c H.length 0
 rw [Qj (by omega)] at s4
 have s5:=Qfv (F:=F) (ls:=ls) (w:=w) (u:=u) hq hgl hxl hA hc
 have hpl:=Qcp g x c q
 have hVr:∀a∈prT g x c q,0≤a∧a<(q:Int):=fun a ha=>by
  obtain ⟨i,hi,rfl⟩:=List.mem_map.1 ha
  have:=List.mem_range.1 (List.mem_filter.1 hi).1
  omega
 generalize hV:prT g x c q=V at *
 have ok1:Ok (H++[bI V]):=hM.mm.app (qL _) (Q3 _)
 have hM1:=hM.pre (Pre.app H [bI V]) ok1
 have hl1:(H++[bI V]).length=H.length+1:=by simp
 have gV:(H++[bI V])[H.length]?=some (bI V):=by simp
 have s6:=Qpy (F:=F) 0 q ls w (g.map Qb) (H++[bI V]) av 0 u c H.length V.length (v0:=.sl (H++[bI V]).length 0 0 none 0 1) (H0:=hRw (H++[bI V]) M V 0 0) (y20:=.i (q:Int)) rfl
 have s7:=Qpz (F:=F) 0 q ls w (g.map Qb) (hRw (H++[bI V]) M V 0 0) av 0 u c H.length V.length (H++[bI V]).length 0 (y20:=.i (q:Int))
 have hav:=hA.bnd
 obtain ⟨mx,hmx,s8⟩:=Qqj (F:=F) (ls:=ls) (la:=g.map Qb) (w:=w) (u:=u) (c:=c) (av:=av) hM1 gV hVr (by omega) (by rw [hl1];omega)
 have hsq:sqB (Wj M V)=true:=List.all_eq_true.2 fun r hr=>by
  obtain ⟨a,_,rfl⟩:=List.mem_map.1 hr
  simp [Wj]
 have c66:∀p:Int,(1<p∧p≤2147483647)→∀k,Qs Tp (plF F) (k+1) 66 [.sl (H++[bI V]).length 0 V.length none V.length 1,.int .i64 p] (hRw (H++[bI V]) M V V.length mx)=some (.int .i64 (dPT p M V),hRw (H++[bI V]) M V V.length mx):=fun p hp=>by
  have:=at2 (pol':=plF F) (g:=66) (c1:=kM) (c2:=kI) (f:=fun m p=>if (1<p∧p≤2147483647)∧m.length≤900∧sqB m=true then some (.int .i64 (gz p (Zx p) m.length m.length 0 1 (WE p m))) else none) (H:=hRw (H++[bI V]) M V V.length mx) h66 (Qfy (H:=H++[bI V]) (M:=M) (V:=V) (mx:=mx)) (ShI _ p) (if_pos ⟨hp,by rw [Jr];omega,hsq⟩)
  rw [Jr] at this
  exact this
 have c67:∀k,Qs Tp (plF F) (k+1) 67 [.int .i64 1755654,.int .i64 998244351,.int .i64 998244353] (hRw (H++[bI V]) M V V.length mx)=some (.int .i64 (pw 1755654 998244351 998244353),hRw (H++[bI V]) M V V.length mx) :=
  at3 (pol':=plF F) (g:=67) (c1:=kI) (c2:=kI) (c3:=kI) (f:=fun a n p=>if S3 a n p then some (.int .i64 (pw a n.toNat p)) else none) (H:=hRw (H++[bI V]) M V V.length mx) h67 (ShI _ 1755654) (ShI _ 998244351) (ShI _ 998244353) (if_pos (by unfold S3;omega))
 have s9:=QpI (F:=F) 0 q ls w (g.map Qb) (hRw (H++[bI V]) M V V.length mx) av 0 u c H.length V.length (H++[bI V]).length V.length _ _ (y22:=.i ((V.length:Nat):Int)) (c66 1000000007 (by omega)) (c66 998244353 (by omega))
 have s10:=QpJ (F:=F) 0 q ls w (g.map Qb) (hRw (H++[bI V]) M V V.length mx) av 0 u c H.length V.length (H++[bI V]).length V.length (dPT 1000000007 M V) (dPT 998244353 M V) _ (y22:=.i ((V.length:Nat):Int)) c67
 have s11:=QhE (F:=F) 0 q ls w (g.map Qb) (hRw (H++[bI V]) M V V.length mx) av 0 u c H.length V.length (H++[bI V]).length V.length (dPT 1000000007 M V) (dPT 998244353 M V) (zqT (dPT 1000000007 M V) (dPT 998244353 M V) (pw 1755654 998244351 998244353)) (y22:=.i ((V.length:Nat):Int))
 generalize qA.wrap (u*qA.wrap (dPT 1000000007 M V+qA.wrap (1000000007*zqT (dPT 1000000007 M V) (dPT 998244353 M V) (pw 1755654 998244351 998244353))))=u2 at *
 have s12:=Qcn (F:=F) 0 q ls w (g.map Qb) (hRw (H++[bI V]) M V V.length mx) av 0 u2 c (y19:=.sl H.length 0 V.length none V.length 1) (y21:=.sl (H++[bI V]).length 0 V.length none V.length 1) (y22:=.i ((V.length:Nat):Int)) (y25:=.i (dPT 1000000007 M V)) (y26:=.i (dPT 998244353 M V)) (y27:=.i (zqT (dPT 1000000007 M V) (dPT 998244353 M V) (pw 1755654 998244351 998244353)))
 rw [Qj (by omega)] at s12
 refine ⟨_,hRw (H++[bI V]) M V V.length mx,sq (s1) (sq (RunsTo.block_normal (i:=5) (c:=sn 8146 B48) (sq (s2) (sq (s3) (sq (sq (s4) (bke (c:=sn 260685 B48) (s5)) (c:=sn 130342 B48)) (sq (s6) (sq (sq (s7) (bke (c:=sn 1042749 B48) (lpi (e0:=(QQ (.i (q:Int)) (.g ls) (.i w) (.a (g.map Qb)) (.i 0) av (slR 0 q) Ud Ud Ud Ud Ud Ud (.i (u)) (.i (c:Int)) (.sl H.length 0 V.length none V.length 1) (.i (q:Int)) (.sl (H++[bI V]).length 0 0 none 0 1) (.i (0:Int)) Ud Ud Ud Ud Ud)) s8 (b:=sn 4170996 B48))) (c:=sn 521374 B48)) (sq (s9) (sq (s10) (s11) (c:=sn 1042751 B48)) (c:=sn 521375 B48)) (c:=sn 260687 B48)) (c:=sn 130343 B48)) (c:=sn 65171 B48)) (c:=sn 32585 B48)) (c:=sn 16292 B48)) (by kernel_rfl)) (s12) (c:=sn 4073 B48)) (c:=sn 2036 B48),by kernel_rfl,(Pre.app H [bI V]).trans (QhU (H:=H++[bI V]) (M:=M) (V:=V) V.length mx),Qqk ok1 (qE _) hmx⟩
end
def foF (g x:List Int) (M:List (List Int)) (q:Nat):Nat→Int
 | 0=>1
 | c+1=>grU g x M q (foF g x M q c) c
section
variable {F:FuncId→Option (List HV→Option HV)} {ls:List HV} {g x:List Int} {w:Int} {q:Nat} {av:HV} {H:Heap} {M:List (List Int)}
theorem Qql (h66:F 66=some CE) (h67:F 67=some Xw) (hq:q≤16) (hgl:g.length=q) (hxl:x.length=q) (hM:Mat H 0 q (fun k=>k+1) M) (hA:AvOk' H q av x) :
  ∃H',RT (plF F) 48 (sn 1018 B48) ((QQ (.i (q:Int)) (.g ls) (.i w) (.a (g.map Qb)) (.i 0) av (slR 0 q) Ud Ud Ud Ud Ud Ud (.i (1)) (.i (0:Int)) Ud Ud Ud Ud Ud Ud Ud Ud Ud)) H (.exit 4) ((QQ (.i (q:Int)) (.g ls) (.i w) (.a (g.map Qb)) (.i 0) av (slR 0 q) Ud Ud Ud Ud Ud Ud (.i (foF g x M q q)) (.i (q:Int)) Ud Ud Ud Ud Ud Ud Ud Ud Ud)) H':=by
 obtain ⟨x',E',H',r,rfl,rfl⟩:=W2 (pol':=plF F) (f:=48) (b:=sn 2036 B48) (c:=sn 1018 B48) (I:=fun c e X=>e=(QQ (.i (q:Int)) (.g ls) (.i w) (.a (g.map Qb)) (.i 0) av (slR 0 q) Ud Ud Ud Ud Ud Ud (.i (foF g x M q c)) (.i (c:Int)) Ud Ud Ud Ud Ud Ud Ud Ud Ud)∧Pre H X∧Ok X)
  (Q:=fun x' E' X=>x'=.exit 4∧E'=(QQ (.i (q:Int)) (.g ls) (.i w) (.a (g.map Qb)) (.i 0) av (slR 0 q) Ud Ud Ud Ud Ud Ud (.i (foF g x M q q)) (.i (q:Int)) Ud Ud Ud Ud Ud Ud Ud Ud Ud)) q
  (by
   rintro c hc e X ⟨rfl,hP,hO⟩
   obtain ⟨E0,H1,s,h1,h2,h3⟩:=Qfz (F:=F) (ls:=ls) (g:=g) (w:=w) h66 h67 hq hgl hxl (hM.pre hP hO) (hA.pre hP) (foF g x M q c) hc
   exact ⟨E0,H1,s,h1,hP.trans (h2.gc (qE _) _),h3.gc _ _⟩)
  (by
   rintro e X ⟨rfl,hP,hO⟩
   have s1:=Qpp (F:=F) 0 q ls w (g.map Qb) X av 0 (foF g x M q q) q (by omega)
   exact ⟨_,_,_,sqo (s1) (c:=sn 2036 B48) (b:=sn 4073 B48),by simp,rfl,rfl⟩)
  (by kernel_rfl) (by rintro c e X ⟨rfl,_⟩;kernel_rfl) (e:=(QQ (.i (q:Int)) (.g ls) (.i w) (.a (g.map Qb)) (.i 0) av (slR 0 q) Ud Ud Ud Ud Ud Ud (.i (1)) (.i (0:Int)) Ud Ud Ud Ud Ud Ud Ud Ud Ud)) (H:=H) ⟨rfl,Pre.refl H,hM.mm⟩
 exact ⟨H',r⟩
end
def gIn (n:Int) (g:List Int):Bool:=g.all fun x=>decide (0≤x∧x<n)
def Yr:List HV→Option HV:=f4 kI kS kI kL fun n l w g=>if (0≤n∧n≤16)∧Ju n l=true∧l.length≤60∧(g.length:Int)=n∧gIn n g=true then some (.int .i64 (foF g (stF w g l l.length).1 (stF w g l l.length).2 n.toNat n.toNat)) else none
theorem QrD:Try.f48.results.toList=[.tmp 8]:=by kernel_rfl
def Xy:FuncId→Option (List HV→Option HV):=fun g=>if g==49 then some Xr else if g==66 then some CE else if g==67 then some Xw else none
theorem QhW (n:Nat):Ql Tp (Qs Tp (plF Xy) n):=Qz _ (fun g f h=>by
 unfold Xy at h
 split at h
 ·rename_i hg;cases h;rw [eq_of_beq hg];exact Cb
 split at h
 ·rename_i hg;cases h;rw [eq_of_beq hg];exact QhS
 split at h
 ·rename_i hg;cases h;rw [eq_of_beq hg];exact QiK
 ·cases h) n
theorem Qbd:QP Tp 48 Yr:=by
 refine Qn (pol:=plF Xy) (fn:=Try.f48) (cd:=B48) Qh QhW (by kernel_rfl) (by kernel_rfl) (Zh Xy _ _ (by kernel_rfl)) (by kernel_rfl) ?_
 intro args res h
 obtain ⟨n,l,w,g,rfl,hq⟩:=Qi6 h
 split at hq
 case isFalse=>cases hq
 rename_i hc
 obtain ⟨⟨n0,n1⟩,he,hl,hg,hin⟩:=hc
 cases hq
 obtain ⟨q,rfl⟩:=qM n0
 rw [qB]
 have hgl:g.length=q:=by omega
 have hgr:∀x∈g,0≤x∧x<(q:Int):=fun x hx=>of_decide_eq_true (List.all_eq_true.1 hin x hx)
 have a:=Qpb (F:=Xy) 0 q (l.map Qa) w (g.map Qb)
 have b:=Qpc (F:=Xy) 0 q (l.map Qa) w (g.map Qb) []
 have mk:=Km (P:=Tp) (H:=[]) (t:=57) (e:=24) (k:=1) (bt:=24) (zv:=.imm .lit 0 []) (n:=(q:Int)) u57 (by kernel_rfl) (by simp [cellsOf,Qm]) (by simp [cellsOf]) (by omega) (by omega) (by simp only [WF];omega)
 rw [qB,← Qbc] at mk
 have c:=Qpd (F:=Xy) 0 q (l.map Qa) w (g.map Qb) [] (.imm .arg 1 (g.map Qb)) 0 (H0:=hQ q 0) mk
 have d:=Qpe (F:=Xy) 0 q (l.map Qa) w (g.map Qb) (hQ q 0) (.imm .arg 1 (g.map Qb)) 0
 have r1:=QhT (F:=Xy) (ls:=l.map Qa) (la:=g.map Qb) (w:=w) (av:=.imm .arg 1 (g.map Qb)) (q:=q) (by omega)
 have f:=Qph (F:=Xy) 0 q (l.map Qa) w (g.map Qb) (hQ q q) (.imm .arg 1 (g.map Qb)) 0 (y11:=.i (q:Int))
 obtain ⟨av,H1,r2,hM,hA⟩:=Qqi (F:=Xy) (l:=l) (g:=g) (w:=w) (q:=q) (by rfl) (by omega) hgl hgr hl he (Qqh q)
 have r2':=lpi (e0:=(QQ (.i (q:Int)) (.g (l.map Qa)) (.i w) (.a (g.map Qb)) (.i 0) (.a (g.map Qb)) (slR 0 q) (.i (q:Int)) (.i (0:Int)) Ud Ud Ud Ud Ud Ud Ud Ud Ud Ud Ud Ud Ud Ud Ud)) r2 (b:=sn 500 B48)
 have hh:=Qpm (F:=Xy) 0 q (l.map Qa) w (g.map Qb) H1 av 0 (y12:=.i ((l.length:Nat):Int))
 have i:=Qpn (F:=Xy) 0 q (l.map Qa) w (g.map Qb) H1 av 0 1 (y12:=.i ((l.length:Nat):Int))
 obtain ⟨H2,r3⟩:=Qql (F:=Xy) (ls:=l.map Qa) (g:=g) (w:=w) (by rfl) (by rfl) (by omega) hgl ((Uh w g l l.length).trans hgl) hM hA
 have r3':=lpi (e0:=(QQ (.i (q:Int)) (.g (l.map Qa)) (.i w) (.a (g.map Qb)) (.i 0) av (slR 0 q) Ud (.i ((l.length:Nat):Int)) Ud Ud Ud Ud (.i 1) (.i (0:Int)) Ud Ud Ud Ud Ud Ud Ud Ud Ud)) r3 (b:=sn 2036 B48)
 have z:=QpK (F:=Xy) 0 q (l.map Qa) w (g.map Qb) H2 av 0 (foF g (stF w g l l.length).1 (stF w g l l.length).2 q q) (y18:=.i (q:Int))
 exact ⟨_,_,_,.int .i64 (foF g (stF w g l l.length).1 (stF w g l l.length).2 q q),sq (a) (sq (b) (sq (c) (sq (sq (d) (bke (c:=sn 61 B48) (r1)) (c:=sn 30 B48)) (sq (sq (f) (bke (c:=sn 125 B48) (r2')) (c:=sn 62 B48)) (sq (hh) (sq (sq (i) (bke (c:=sn 509 B48) (r3')) (c:=sn 254 B48)) (z) (c:=sn 127 B48)) (c:=sn 63 B48)) (c:=sn 31 B48)) (c:=sn 15 B48)) (c:=sn 7 B48)) (c:=sn 3 B48)) (c:=B48),by simp,by simp only [Qc,QrD];rfl,rfl⟩
def cgF (w:Int) (g:List Int) (l:List St):Nat→List Int
 | 0=>g
 | j+1=>if (l.getD j (0,0,0)).2.2=w then Wa (cgF w g l j) (l.getD j (0,0,0)).1 (l.getD j (0,0,0)).2.1 else cgF w g l j
theorem X9 (w:Int) (g:List Int) (l:List St):∀j,(cgF w g l j).length=g.length
 | 0=>rfl
 | j+1=>by
  rw [cgF]
  split
  ·rw [Kq];exact X9 w g l j
  ·exact X9 w g l j
section
variable {F:FuncId→Option (List HV→Option HV)} {l:List St} {g:List Int} {u w:Int} {q ob s i:Nat} {H:Heap}
theorem QfA (h49:F 49=some Xr) (hq:q≤16) (hgl:g.length=q) (hl:l.length≤60) (he:Ju (q:Int) l=true) {gb:Nat} (hg:H[gb]?=some (bI g)) (ho:Ok H) :
  ∃gb' H',RT (plF F) 19 (sn 259230 B19) ((Zy (.i (q:Int)) (.g (l.map Qa)) (.i 0) Ud (.i u) (.s gb q) (.s ob s) (.i (i:Int)) (.i w) (.i (0:Int)))) H (.exit 2) ((Zy (.i (q:Int)) (.g (l.map Qa)) (.i 0) Ud (.i u) (.sl gb' 0 q none q 1) (.s ob s) (.i (i:Int)) (.i w) (.i ((l.length:Nat):Int)))) H'∧H'[gb']?=some (bI (cgF w g l l.length))∧Pre H H'∧Ok H':=by
 have lm:((l.map Qa).length:Int)=(l.length:Int):=by rw [qC]
 obtain ⟨x,E',H',r,rfl,gb',rfl,h1,h2,h3⟩:=W2 (pol':=plF F) (f:=19) (b:=sn 518460 B19) (c:=sn 259230 B19) (I:=fun j e X=>∃gb,e=(Zy (.i (q:Int)) (.g (l.map Qa)) (.i 0) Ud (.i u) (.s gb q) (.s ob s) (.i (i:Int)) (.i w) (.i (j:Int)))∧X[gb]?=some (bI (cgF w g l j))∧Pre H X∧Ok X)
  (Q:=fun x E' X=>x=.exit 2∧∃gb,E'=(Zy (.i (q:Int)) (.g (l.map Qa)) (.i 0) Ud (.i u) (.s gb q) (.s ob s) (.i (i:Int)) (.i w) (.i ((l.length:Nat):Int)))∧X[gb]?=some (bI (cgF w g l l.length))∧Pre H X∧Ok X) l.length
  (by
   rintro j hj e X ⟨gb,rfl,hg,hP,hO⟩
   have gsi:=gs (l:=l) (y:=j) hj
   obtain ⟨ea,eb⟩:=SI he (k:=(j:Int)) ⟨by omega,by omega⟩
   have ea:0≤(l.getD j (0,0,0)).1∧(l.getD j (0,0,0)).1<(q:Int):=ea
   have eb:0≤(l.getD j (0,0,0)).2.1∧(l.getD j (0,0,0)).2.1<(q:Int):=eb
   have es:cgF w g l (j+1)=if (l.getD j (0,0,0)).2.2=w then Wa (cgF w g l j) (l.getD j (0,0,0)).1 (l.getD j (0,0,0)).2.1 else cgF w g l j:=rfl
   generalize l.getD j (0,0,0)=t at es gsi ea eb
   obtain ⟨a,b,z⟩:=t
   dsimp only at ea eb es
   have hcl:=(X9 w g l j).trans hgl
   by_cases cw:z=w
   ·rw [if_pos cw] at es
    have c49:=at3 (pol':=plF F) (g:=49) (c1:=kL) (c2:=kI) (c3:=kI) (f:=fun g a b=>if (0≤a∧a<(g.length:Int))∧(0≤b∧b<(g.length:Int))∧g.length≤900 then some (.own 1 ((Wa g a b).map Qb)) else none) (H:=X) h49 (Zo hcl hg) (ShI _ a) (ShI _ b) (if_pos ⟨by omega,by omega,by omega⟩)
    rw [Wz,Kq,hcl] at c49
    have st:=Qo7 (F:=F) q (l.map Qa) X u gb ob s i w j X.length a b z (by omega) gsi cw gsi gsi c49
    rw [Qj (by omega)] at st
    have er:Qy (plF F) 19 (sn 518460 B19) ((Zy (.i (q:Int)) (.g (l.map Qa)) (.i 0) Ud (.i u) (.sl X.length 0 q none q 1) (.s ob s) (.i (i:Int)) (.i w) (.i ((j+1:Nat):Int))))=(Zy (.i (q:Int)) (.g (l.map Qa)) (.i 0) Ud (.i u) (.sl X.length 0 q none q 1) (.s ob s) (.i (i:Int)) (.i w) (.i ((j+1:Nat):Int))):=by kernel_rfl
    have hgc:gc X.length (Wc ((Zy (.i (q:Int)) (.g (l.map Qa)) (.i 0) Ud (.i u) (.sl X.length 0 q none q 1) (.s ob s) (.i (i:Int)) (.i w) (.i ((j+1:Nat):Int))))) (X++[bI (Wa (cgF w g l j) a b)])=X++[bI (Wa (cgF w g l j) a b)]:=by
     refine Cy ?_
     have:X.length+1≤Wc ((Zy (.i (q:Int)) (.g (l.map Qa)) (.i 0) Ud (.i u) (.sl X.length 0 q none q 1) (.s ob s) (.i (i:Int)) (.i w) (.i ((j+1:Nat):Int)))):=by simp only [Wc,bnd,bndL];omega
     rw [qT,jU];omega
    refine ⟨_,_,st,X.length,er,?_,?_,?_⟩
    ·rw [er,hgc,es];simp
    ·rw [er,hgc];exact hP.trans (Pre.app _ _)
    ·rw [er,hgc];exact hO.app (qL _) (Q3 _)
   ·rw [if_neg cw] at es
    have st:=Qo8 (F:=F) q (l.map Qa) X u gb ob s i w j 0 a b z (by omega) gsi cw
    rw [Qj (by omega)] at st
    refine ⟨_,X,st,gb,by kernel_rfl,?_,?_,?_⟩
    ·rw [QC _ rfl,es];exact hg
    ·rw [QC _ rfl];exact hP
    ·rw [QC _ rfl];exact hO)
  (by
   rintro e X ⟨gb,rfl,hg,hP,hO⟩
   exact ⟨_,_,_,Qo9 (F:=F) q (l.map Qa) X u gb ob s i w l.length 0 0 0 0 (by omega),by simp,rfl,gb,rfl,hg,hP,hO⟩)
  (by kernel_rfl) (by rintro j e X ⟨gb,rfl,_⟩;kernel_rfl) (e:=(Zy (.i (q:Int)) (.g (l.map Qa)) (.i 0) Ud (.i u) (.s gb q) (.s ob s) (.i (i:Int)) (.i w) (.i (0:Int)))) (H:=H) ⟨gb,rfl,hg,Pre.refl H,ho⟩
 exact ⟨gb',H',r,h1,h2,h3⟩
end
def owT (l:List St) (i:Nat):Int:=(l.getD ((Qg l).getD i 0).toNat (0,0,0)).2.2
def czF (q:Nat) (l:List St):Nat→Int×List Int
 | 0=>(1,Qf q)
 | i+1=>if 0<i∧owT l (i-1)=owT l i then czF q l i
  else (qA.wrap ((czF q l i).1*foF (czF q l i).2 (stF (owT l i) (czF q l i).2 l l.length).1 (stF (owT l i) (czF q l i).2 l l.length).2 q q),cgF (owT l i) (czF q l i).2 l l.length)
theorem Uk (q:Nat) (l:List St):∀i,(czF q l i).2.length=q
 | 0=>QL q
 | i+1=>by
  rw [czF]
  split
  ·exact Uk q l i
  ·exact (X9 _ _ _ _).trans (Uk q l i)
theorem Qac {n:Int} {g:List Int} (h:gIn n g=true) {k:Nat} (hk:k<g.length):0≤g.getD k 0∧g.getD k 0<n:=by
 have:=of_decide_eq_true (List.all_eq_true.1 h _ (List.getElem_mem hk))
 rwa [qD,qY hk,Option.getD_some]
theorem QfB {n a b:Int} {g:List Int} (h:gIn n g=true) (ha:0≤a∧a<(g.length:Int)) (hb:0≤b∧b<(g.length:Int)):gIn n (Wa g a b)=true:=by
 have h1:=Qac h (k:=a.toNat) (by omega)
 have h2:=Qac h (k:=b.toNat) (by omega)
 refine List.all_eq_true.2 fun x hx=>decide_eq_true ?_
 obtain ⟨y,hy,rfl⟩:=List.mem_map.1 hx
 have h3:=of_decide_eq_true (List.all_eq_true.1 h _ hy)
 unfold WP
 split <;> omega
theorem CG {q:Nat} {w:Int} {g:List Int} {l:List St} (h:gIn (q:Int) g=true) (hgl:g.length=q) (he:Ju (q:Int) l=true):∀j,j≤l.length→gIn (q:Int) (cgF w g l j)=true
 | 0,_=>h
 | j+1,hj=>by
  rw [cgF]
  split
  ·obtain ⟨ea,eb⟩:=SI he (k:=(j:Int)) ⟨by omega,by omega⟩
   have ea:0≤(l.getD j (0,0,0)).1∧(l.getD j (0,0,0)).1<(q:Int):=ea
   have eb:0≤(l.getD j (0,0,0)).2.1∧(l.getD j (0,0,0)).2.1<(q:Int):=eb
   refine QfB (CG h hgl he j (by omega)) ?_ ?_ <;> rw [X9,hgl] <;> assumption
  ·exact CG h hgl he j (by omega)
theorem Qc9 (q:Nat):gIn (q:Int) (Qf q)=true:=by
 refine List.all_eq_true.2 fun x hx=>decide_eq_true ?_
 obtain ⟨y,hy,rfl⟩:=List.mem_map.1 hx
 have:=List.mem_range.1 hy
 omega
theorem CH {q:Nat} {l:List St} (he:Ju (q:Int) l=true):∀i,gIn (q:Int) (czF q l i).2=true
 | 0=>Qc9 q
 | i+1=>by
  rw [czF]
  split
  ·exact CH he i
  ·exact CG (CH he i) (Uk q l i) he _ (qE _)
section
variable {F:FuncId→Option (List HV→Option HV)} {l:List St} {q:Nat} {H:Heap}
theorem Qqm (h48:F 48=some Yr) (h49:F 49=some Xr) (hq:q≤16) (hl:l.length≤60) (he:Ju (q:Int) l=true) (hg:H[1]?=some (bI (Qf q))) (hob:H[2]?=some (bI (Qg l))) (ho:Ok H) :
  ∃gb' H',RT (plF F) 19 (sn 506 B19) ((Zy (.i (q:Int)) (.g (l.map Qa)) (.i 0) Ud (.i 1) (.s 1 q) (.s 2 l.length) (.i (0:Int)) Ud Ud)) H (.exit 0) ((Zy (.i (q:Int)) (.g (l.map Qa)) (.i 0) Ud (.i (czF q l l.length).1) (.sl gb' 0 q none q 1) (.s 2 l.length) (.i ((l.length:Nat):Int)) Ud Ud)) H':=by
 have hol:=Zw l
 have ht:∀k∈Qg l,0≤k∧k<(l.length:Int):=fun k hk=>ordT_mem.1 hk
 have gk:∀i,i<l.length→∃k:Nat,(Qg l).getD i 0=(k:Int)∧k<l.length∧owT l i=(l.getD k (0,0,0)).2.2:=fun i hi=>by
  have:=ht _ (Qo 0 (l:=Qg l) (by omega:i<(Qg l).length))
  exact ⟨((Qg l).getD i 0).toNat,by omega,by omega,rfl⟩
 obtain ⟨x,E',H',r,rfl,gb',rfl⟩:=W2 (pol':=plF F) (f:=19) (b:=sn 1012 B19) (c:=sn 506 B19) (I:=fun i e X=>∃gb,e=(Zy (.i (q:Int)) (.g (l.map Qa)) (.i 0) Ud (.i (czF q l i).1) (.s gb q) (.s 2 l.length) (.i (i:Int)) Ud Ud)∧X[gb]?=some (bI (czF q l i).2)∧X[2]?=some (bI (Qg l))∧Ok X)
  (Q:=fun x E' X=>x=.exit 0∧∃gb,E'=(Zy (.i (q:Int)) (.g (l.map Qa)) (.i 0) Ud (.i (czF q l l.length).1) (.s gb q) (.s 2 l.length) (.i ((l.length:Nat):Int)) Ud Ud)) l.length
  (by
   rintro i hi e X ⟨gb,rfl,hg,hob,hO⟩
   obtain ⟨k,ek,hk,ew⟩:=gk i hi
   have gsk:=gs (l:=l) (y:=k) hk
   have ld:=QR hob (y:=i) (by omega)
   rw [hol,ek] at ld
   have ex:czF q l (i+1)=if 0<i∧owT l (i-1)=owT l i then czF q l i
    else (qA.wrap ((czF q l i).1*foF (czF q l i).2 (stF (owT l i) (czF q l i).2 l l.length).1 (stF (owT l i) (czF q l i).2 l l.length).2 q q),cgF (owT l i) (czF q l i).2 l l.length):=rfl
   have hgi:=CH he i
   have hgl:=Uk q l i
   generalize hu:(czF q l i).1=u at *
   generalize hgg:(czF q l i).2=g at *
   generalize hw:owT l i=w at *
   have s1:=QoZ (F:=F) q (l.map Qa) X u gb 2 l.length i (by omega)
   have s2:=Qo1 (F:=F) q (l.map Qa) X u gb 2 l.length i k _ _ _ (ZT u24 z3 hi) ld gsk
   rw [← ew] at s2
   by_cases c:0<i∧owT l (i-1)=w
   ·rw [if_pos c] at ex
    obtain ⟨k2,ek2,hk2,ew2⟩:=gk (i-1) (by omega)
    have wi:qA.wrap ((i:Int)-1)=((i-1:Nat):Int):=by rw [QI (by omega) (by omega)];omega
    have ld2:=QR hob (y:=i-1) (by omega)
    rw [hol,ek2] at ld2
    have s3:=Qo2 (F:=F) q (l.map Qa) X u gb 2 l.length i k2 w _ _ _ (by omega) (by rw [wi,qB];exact ZT u24 z3 (by omega)) (by rw [wi,qB];exact ld2) (gs (l:=l) (y:=k2) hk2) (by rw [← ew2];exact c.2)
    have s4:=Qfm (F:=F) q (l.map Qa) X u gb 2 l.length i (y11:=.i w)
    rw [Qj (by omega)] at s4
    refine ⟨_,X,sq (s1) (sq (bke (c:=sn 4050 B19) (sq (s2) (sqo (s3) (c:=sn 16201 B19) (b:=sn 32403 B19)) (c:=sn 8100 B19))) (s4) (c:=sn 2025 B19)) (c:=sn 1012 B19),gb,?_,?_⟩
    ·rw [ex,hu];kernel_rfl
    ·rw [ex,hgg,QC _ rfl];exact ⟨hg,hob,hO⟩
   ·rw [if_neg c] at ex
    have s3:RT (plF F) 19 (sn 32402 B19) ((Zy (.i (q:Int)) (.g (l.map Qa)) (.i 0) Ud (.i u) (.s gb q) (.s 2 l.length) (.i (i:Int)) (.i w) Ud)) X .normal ((Zy (.i (q:Int)) (.g (l.map Qa)) (.i 0) Ud (.i u) (.s gb q) (.s 2 l.length) (.i (i:Int)) (.i w) Ud)) X:=by
     by_cases c1:0<i
     ·obtain ⟨k2,ek2,hk2,ew2⟩:=gk (i-1) (by omega)
      have wi:qA.wrap ((i:Int)-1)=((i-1:Nat):Int):=by rw [QI (by omega) (by omega)];omega
      have ld2:=QR hob (y:=i-1) (by omega)
      rw [hol,ek2] at ld2
      exact Qo3 (F:=F) q (l.map Qa) X u gb 2 l.length i k2 w _ _ _ (by omega) (by rw [wi,qB];exact ZT u24 z3 (by omega)) (by rw [wi,qB];exact ld2) (gs (l:=l) (y:=k2) hk2) (by rw [← ew2];exact fun h=>c ⟨c1,h⟩)
     ·exact Qo4 (F:=F) q (l.map Qa) X u gb 2 l.length i 0 w 0 0 0 (by omega)
    have c48:=at4 (pol':=plF F) (g:=48) (c1:=kI) (c2:=kS) (c3:=kI) (c4:=kL) (f:=fun n l w g=>if (0≤n∧n≤16)∧Ju n l=true∧l.length≤60∧(g.length:Int)=n∧gIn n g=true then some (.int .i64 (foF g (stF w g l l.length).1 (stF w g l l.length).2 n.toNat n.toNat)) else none) (H:=X) h48 (ShI _ (q:Int)) (Jf _ l) (ShI _ w) (Zo hgl hg) (if_pos ⟨by omega,he,hl,by omega,hgi⟩)
    rw [qB] at c48
    have s4:=Qo5 (F:=F) q (l.map Qa) X u gb 2 l.length i w _ c48
    have s5:=Qo6 (F:=F) q (l.map Qa) X (qA.wrap (u*foF g (stF w g l l.length).1 (stF w g l l.length).2 q q)) gb 2 l.length i w
    obtain ⟨gb',X1,s6,hg1,hP1,hO1⟩:=QfA (F:=F) (u:=qA.wrap (u*foF g (stF w g l l.length).1 (stF w g l l.length).2 q q)) (w:=w) (ob:=2) (s:=l.length) (i:=i) h49 hq hgl hl he hg hO
    have s7:=Qfm (F:=F) q (l.map Qa) X1 (qA.wrap (u*foF g (stF w g l l.length).1 (stF w g l l.length).2 q q)) gb' 2 l.length i (y11:=.i w) (y12:=.i ((l.length:Nat):Int))
    rw [Qj (by omega)] at s7
    have er:Qy (plF F) 19 (sn 1012 B19) ((Zy (.i (q:Int)) (.g (l.map Qa)) (.i 0) Ud (.i (qA.wrap (u*foF g (stF w g l l.length).1 (stF w g l l.length).2 q q))) (.sl gb' 0 q none q 1) (.s 2 l.length) (.i ((i+1:Nat):Int)) (.i w) (.i ((l.length:Nat):Int))))=(Zy (.i (q:Int)) (.g (l.map Qa)) (.i 0) Ud (.i (qA.wrap (u*foF g (stF w g l l.length).1 (stF w g l l.length).2 q q))) (.sl gb' 0 q none q 1) (.s 2 l.length) (.i ((i+1:Nat):Int)) Ud Ud):=by kernel_rfl
    refine ⟨_,X1,sq (s1) (sq (RunsTo.block_normal (i:=1) (c:=sn 4050 B19) (sq (s2) (sq (s3) (sq (s4) (sq (s5) (bke (c:=sn 129615 B19) (s6)) (c:=sn 64807 B19)) (c:=sn 32403 B19)) (c:=sn 16201 B19)) (c:=sn 8100 B19)) (by kernel_rfl)) (s7) (c:=sn 2025 B19)) (c:=sn 1012 B19),gb',?_,?_⟩
    ·rw [ex];exact er
    ·rw [er,ex]
     refine ⟨?_,(hP1.gc (qE _) _).get hob,hO1.gc _ _⟩
     rw [QaL (by simp only [Wc,bnd,bndL];omega)];exact hg1)
  (by
   rintro e X ⟨gb,rfl,hg,hob,hO⟩
   have s1:=Qo0 (F:=F) q (l.map Qa) X (czF q l l.length).1 gb 2 l.length l.length (by omega)
   exact ⟨_,_,_,sqo (s1) (c:=sn 1012 B19) (b:=sn 2025 B19),by simp,rfl,gb,rfl⟩)
  (by kernel_rfl) (by rintro j e X ⟨gb,rfl,_⟩;kernel_rfl) (e:=(Zy (.i (q:Int)) (.g (l.map Qa)) (.i 0) Ud (.i 1) (.s 1 q) (.s 2 l.length) (.i (0:Int)) Ud Ud)) (H:=H) ⟨1,rfl,hg,hob,ho⟩
 exact ⟨gb',H',r⟩
end
def Qda (n:Int) (l:List St):Int:=if YU n l=true then (czF n.toNat l l.length).1 else 0
def Qad:List HV→Option HV:=f2 kI kS fun n l=>if (0≤n∧n≤16)∧Ju n l=true∧l.length≤60 then some (.int .i64 (Qda n l)) else none
theorem QiQ:Try.f19.results.toList=[.tmp 4]:=by kernel_rfl
def K4:FuncId→Option (List HV→Option HV):=fun g=>if g==20 then some Y4 else if g==46 then some Ca else if g==47 then some U7 else if g==48 then some Yr else if g==49 then some Xr else none
theorem QhX (n:Nat):Ql Tp (Qs Tp (plF K4) n):=Qz _ (fun g f h=>by
 unfold K4 at h
 split at h
 ·rename_i hg;cases h;rw [eq_of_beq hg];exact Dc
 split at h
 ·rename_i hg;cases h;rw [eq_of_beq hg];exact Sy
 split at h
 ·rename_i hg;cases h;rw [eq_of_beq hg];exact Gf
 split at h
 ·rename_i hg;cases h;rw [eq_of_beq hg];exact Qbd
 split at h
 ·rename_i hg;cases h;rw [eq_of_beq hg];exact Cb
 ·cases h) n
theorem Qdb:QP Tp 19 Qad:=by
 refine Qn (pol:=plF K4) (fn:=Try.f19) (cd:=B19) Qh QhX (by kernel_rfl) (by kernel_rfl) (Zh K4 _ _ (by kernel_rfl)) (by kernel_rfl) ?_
 intro args res h
 obtain ⟨n,l,rfl,hq⟩:=Zc h
 split at hq
 case isFalse=>cases hq
 rename_i hc
 obtain ⟨⟨n0,n1⟩,he,hl⟩:=hc
 cases hq
 obtain ⟨q,rfl⟩:=qM n0
 have a:=QoS (F:=K4) q (l.map Qa)
 have c20:=at2 (pol':=plF K4) (g:=20) (c1:=kI) (c2:=kS) (f:=fun n l=>if (0≤n∧n≤16)∧Ju n l=true∧l.length≤500 then some (.tuple [.own 1 ((frT l).map Qb),.bool (YU n l)]) else none) (H:=[]) (by kernel_rfl) (ShI _ (q:Int)) (Jf _ l) (if_pos ⟨by omega,he,by omega⟩)
 rw [KK] at c20
 by_cases hf:YU (q:Int) l=true
 ·rw [hf] at c20
  have b:=QoT (F:=K4) q (l.map Qa) [] 0 (frT l).length c20
  have ct:=QhC (F:=K4) q (l.map Qa) [bI (frT l)]
  have d:=QoV (F:=K4) q (l.map Qa) [bI (frT l)]
  have c46:=at1 (pol':=plF K4) (g:=46) (c1:=kI) (f:=fun n=>if n≤900 then some (.own 1 ((Qf n.toNat).map Qb)) else none) (H:=[bI (frT l)]) (by kernel_rfl) (ShI _ (q:Int)) (if_pos (by omega))
  rw [Wz,QL,qB] at c46
  have e:=QoW (F:=K4) q (l.map Qa) [bI (frT l)] 1 1 c46
  have c47:=at1 (pol':=plF K4) (g:=47) (c1:=kS) (f:=fun l=>if l.length≤500 then some (.own 1 ((Qg l).map Qb)) else none) (H:=[bI (frT l),bI (Qf q)]) (by kernel_rfl) (Jf _ l) (if_pos (by omega))
  rw [Wz,Zw] at c47
  have f:=QoX (F:=K4) q (l.map Qa) [bI (frT l),bI (Qf q)] 1 1 2 l.length c47
  have g:=QoY (F:=K4) q (l.map Qa) [bI (frT l),bI (Qf q),bI (Qg l)] 1 1 2 l.length
  obtain ⟨gb',H',r⟩:=Qqm (F:=K4) (l:=l) (q:=q) (H:=[bI (frT l),bI (Qf q),bI (Qg l)]) (by rfl) (by rfl) (by omega) hl he rfl rfl ⟨by show max 0 (max 0 (max 0 0))≤3;decide,QA (Q3 _) (QA (Q3 _) (Q3 _))⟩
  have r':=lpi (e0:=(Zy (.i (q:Int)) (.g (l.map Qa)) (.i 0) (.bool true) (.i 1) (.s 1 q) (.s 2 l.length) (.i (0:Int)) Ud Ud)) r (b:=sn 1012 B19)
  have z:=Qpa (F:=K4) q (l.map Qa) H' (czF q l l.length).1 gb' 2 l.length (y10:=.i ((l.length:Nat):Int))
  refine ⟨_,_,_,.int .i64 (czF q l l.length).1,sq (a) (sq (sq (b) (ct) (c:=sn 6 B19)) (sq (d) (sq (e) (sq (f) (sq (sq (g) (bke (c:=sn 253 B19) (r')) (c:=sn 126 B19)) (z) (c:=sn 63 B19)) (c:=sn 31 B19)) (c:=sn 15 B19)) (c:=sn 7 B19)) (c:=sn 3 B19)) (c:=B19),by simp,by simp only [Qc,QiQ];rfl,?_⟩
  rw [Qda,if_pos hf,qB];rfl
 ·rw [Jl hf] at c20
  have b:=QoU (F:=K4) q (l.map Qa) [] 0 (frT l).length c20
  have ct:=QhD (F:=K4) q (l.map Qa) [bI (frT l)]
  refine ⟨_,_,_,.int .i64 0,sq (a) (sqo (sq (b) (ct) (c:=sn 6 B19)) (c:=sn 3 B19) (b:=sn 7 B19)) (c:=B19),by simp,by simp only [Qc,QiQ];rfl,?_⟩
  rw [Qda,if_neg hf];rfl
end Go.Proofs.Ytiejmoglooaalaa
end
