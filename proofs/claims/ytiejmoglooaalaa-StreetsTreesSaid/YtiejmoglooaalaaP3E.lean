/- A part of the proof. -/
import Derived.Test.YtiejmoglooaalaaP3D
set_option linter.unusedVariables false
set_option linter.unusedSimpArgs false
set_option linter.unnecessarySimpa false
open Go.IntKind renaming i64 → qA
open List renaming foldl_cons → qB, getD → qC, mem_cons_of_mem → qD, range → qF, mem_cons_self → qG, length_map → qH, append_nil → qK, getElem?_map → qL, filter_cons_of_pos → qM, filter_cons_of_neg → qN, map_map → qO, mem_append_left → qQ, tail → qR, append_assoc → qS, foldl_append → qU, getElem?_range → qV, getElem?_eq_getElem → qW, take_of_length_le → qY, length_filter_le → qZ
open Nat renaming le_refl → qE
open Int renaming emod_nonneg → qI, emod_lt_of_pos → qJ, toNat_natCast → qP, toNat_of_nonneg → qT, tmod_eq_emod_of_nonneg → qX
section
open Go Go.HL Go.HL.Dt
namespace Go.Proofs.Ytiejmoglooaalaa
set_option linter.unusedSectionVars false
open Go.Proofs.Try renaming prog → Tp
open Go.HL.HV renaming undef → Ud
theorem Qae (a:Int):(18446744073709551616:Int)∣qA.wrap a-a:=by
 have:=QU (a+9223372036854775808) 18446744073709551616
 rwa [XP,show (a+9223372036854775808)%18446744073709551616-9223372036854775808-a=(a+9223372036854775808)%18446744073709551616-(a+9223372036854775808) by omega]
def SqQ (q:Nat) (M:List (List Int)):Prop:=M.length=q∧∀j,j<q→(M.getD j []).length=q
theorem Qcr {M:List (List Int)} {q j k:Nat} (h:SqQ q M) (hj:j<q) (d:Int) (a:Nat):(adE M j k d).getD a []=if j=a then (M.getD j []).set k ((M.getD j []).getD k 0+d) else M.getD a []:=by
 have hl:=h.1
 unfold adE
 simp only [qC,List.getElem?_set]
 by_cases c:j=a
 ·subst c
  rw [if_pos rfl,if_pos rfl,if_pos (by omega)];rfl
 ·rw [if_neg c,if_neg c]
theorem SqQ.adE {M:List (List Int)} {q j k:Nat} (h:SqQ q M) (hj:j<q) (d:Int):SqQ q (adE M j k d):=by
 refine ⟨by rw [Go.Proofs.Ytiejmoglooaalaa.adE,List.length_set];exact h.1,fun a ha=>?_⟩
 rw [Qcr h hj]
 split
 ·rw [List.length_set];exact h.2 j hj
 ·exact h.2 a ha
theorem CI {M:List (List Int)} {q j k:Nat} (h:SqQ q M) (hj:j<q) (hk:k<q) (d:Int) (a b:Nat):en (adE M j k d) a b=en M a b+if j=a∧k=b then d else 0:=by
 have hr:=h.2 j hj
 unfold en
 rw [Qcr h hj]
 by_cases c:j=a
 ·subst c
  rw [if_pos rfl]
  by_cases c2:k=b
  ·subst c2
   rw [if_pos ⟨rfl,rfl⟩]
   simp only [qC] at hr ⊢
   rw [List.getElem?_set_self (by omega)];rfl
  ·rw [if_neg fun x=>c2 x.2,Int.add_zero]
   simp only [qC]
   rw [List.getElem?_set_ne c2]
 ·rw [if_neg c,if_neg fun x=>c x.1,Int.add_zero]
theorem Qqn {M:List (List Int)} {q j k:Nat} (h:SqQ q M) (hj:j<q) (hk:k<q):SqQ q (laE M j k):=(((h.adE hj 1).adE hj (-1)).adE hk 1).adE hk (-1)
theorem Qqo {M:List (List Int)} {q j k:Nat} (h:SqQ q M) (hj:j<q) (hk:k<q) (a b:Nat):en (laE M j k) a b=en M a b+((if j=a then (1:Int) else 0)-if k=a then 1 else 0)*((if j=b then (1:Int) else 0)-if k=b then 1 else 0):=by
 have h1:=h.adE (k:=j) hj 1
 have h2:=h1.adE (k:=k) hj (-1)
 have h3:=h2.adE (k:=k) hk 1
 unfold laE
 rw [CI h3 hk hj,CI h2 hk hk,CI h1 hj hk,CI h hj hj,Ue,Ue,Uf,Uf,Int.sub_mul,Int.mul_sub,Int.mul_sub]
 omega
theorem GI {p p':Nat→Bool} {c:Nat} (h1:p c=true) (h2:p' c=false) (h3:∀u,u<c→p u=false∧p' u=false) (h4:∀u,c<u→p u=p' u):∀q,c<q→(qF q).filter p=c::(qF q).filter p'
 | q+1,hq=>by
  rw [List.range_succ,List.filter_append,List.filter_append]
  by_cases e:c=q
  ·subst e
   have f1:(qF c).filter p=[]:=List.filter_eq_nil_iff.2 fun u hu=>by rw [(h3 u (List.mem_range.1 hu)).1];simp
   have f2:(qF c).filter p'=[]:=List.filter_eq_nil_iff.2 fun u hu=>by rw [(h3 u (List.mem_range.1 hu)).2];simp
   rw [f1,f2,qM h1,qN (by rw [h2];simp)];rfl
  ·rw [GI h1 h2 h3 h4 q (by omega),List.cons_append]
   congr 2
   by_cases e2:p q=true
   ·rw [qM e2,qM (by rw [← h4 q (by omega)];exact e2)];rfl
   ·rw [qN e2,qN (by rw [← h4 q (by omega)];exact e2)];rfl
theorem QhY (K:List Int) (f:Int→Row):det K (K.map f)=det (ZQ 0 K.length) ((ZQ 0 K.length).map fun (z:Int)=>fun (z':Int)=>f (K.getD z.toNat 0) (K.getD z'.toNat 0)):=by
 have e1:K=(ZQ 0 K.length).map fun z=>K.getD z.toNat 0:=by
  rw [X6,qO]
  refine Jp (d:=0) (by simp) fun j hj=>?_
  rw [V2 (d:=0) hj]
  show K.getD j 0=K.getD ((0+j:Nat):Int).toNat 0
  rw [Nat.zero_add,qP]
 have e2:(K.map f).map (fun (r:Row) (z:Int)=>r (K.getD z.toNat 0))=(ZQ 0 K.length).map fun (z:Int)=>(fun (z':Int)=>f (K.getD z.toNat 0) (K.getD z'.toNat 0)):=by
  rw [qO]
  conv=>lhs;arg 2;rw [e1]
  rw [qO];rfl
 have:=CC (φ:=fun z=>K.getD z.toNat 0) (ZQ 0 K.length) (K.map f)
 rw [← e1,e2] at this
 exact this
theorem QfC {p:Nat} (hpr:Pr p) (hp2:2<p) {M:List (List Int)} {K:List Int} {f:Int→Row} (hf:∀x∈K,∀y∈K,en M x.toNat y.toNat=f x y):dPT (p:Int) M K=det K (K.map f)%(p:Int):=by
 have hp0:(0:Int)<(p:Int):=by omega
 have hinv:∀a:Int,0<a→a<(p:Int)→(a*Zx p a)%(p:Int)=1:=fun a h0 h1=>by
  have:=hpr.invI h0 h1
  have e:((p:Int)-2).toNat=p-2:=by omega
  rw [Zx,e];exact this
 have hat:∀i j,i<K.length→j<K.length→((WE p (Wj M K)).getD i []).getD j 0=f (K.getD i 0) (K.getD j 0)%p:=fun i j hi hj=>by
  rw [X8 (by rw [Jr];exact hi),Ui hi]
  rw [← hf _ (Qo 0 hi) _ (Qo 0 hj)]
  simp only [qC,qL,qW hj,Option.map_some,Option.getD_some,en]
 have hok:Ws (p:Int) K.length (WE p (Wj M K)):=by
  refine ⟨by rw [qH,Jr],fun r hr=>?_⟩
  obtain ⟨r0,h0,rfl⟩:=List.mem_map.1 hr
  obtain ⟨a,ha,rfl⟩:=List.mem_map.1 h0
  refine ⟨by simp,fun j hj=>?_⟩
  simp only [qC,qL,qW hj,Option.map_some,Option.getD_some]
  exact ⟨qI _ (by omega),qJ _ hp0⟩
 have g:=Qa4 (p:=(p:Int)) (by omega) hinv (N:=K.length) K.length 0 1 (WE p (Wj M K)) (Nat.zero_add _) hok
 have rg:=Qa5 (p:=(p:Int)) (by omega) (inv:=Zx p) (N:=K.length) K.length 0 1 (WE p (Wj M K)) (by omega) (by omega)
 rw [List.drop_zero,Int.one_mul] at g
 have e4:(WE p (Wj M K)).map rw=(ZQ 0 K.length).map fun (z:Int)=>rw ((WE p (Wj M K)).getD z.toNat []):=by
  rw [X6,qO]
  refine List.ext_getElem (by have:=hok.1;simp only [qH,List.length_range] at this ⊢;exact this) fun j h1 h2=>?_
  have hj:j<(WE p (Wj M K)).length:=by simpa using h1
  simp only [List.getElem_map,List.getElem_range,Function.comp,Nat.zero_add,qP]
  rw [ZR hj]
  simp
 have d:(p:Int)∣dPT (p:Int) M K-det K (K.map f):=by
  refine cgT g ?_
  rw [QhY K f,e4]
  refine Dp _ _ _ (cgm fun z hz z' hz'=>?_)
  have h1:=cols_mem.1 hz
  have h2:=cols_mem.1 hz'
  show (p:Int)∣((WE p (Wj M K)).getD z.toNat []).getD z'.toNat 0-_
  rw [hat z.toNat z'.toNat (by omega) (by omega)]
  exact QU _ _
 have e:dPT (p:Int) M K%(p:Int)=det K (K.map f)%(p:Int):=Int.emod_eq_emod_iff_emod_sub_eq_zero.2 (Int.emod_eq_zero_of_dvd d)
 rw [← e]
 exact (Int.emod_eq_of_lt rg.1 rg.2).symm
def CJ (a b:Int):Int:=qA.wrap (a+qA.wrap (1000000007*zqT a b (pw 1755654 998244351 998244353)))
theorem QrE {a b:Int} (ha:0≤a∧a<1000000007) (hb:0≤b∧b<998244353) :
  CJ a b=a+1000000007*((b-a%998244353+998244353)%998244353*pw 1755654 998244351 998244353%998244353)∧0≤CJ a b∧CJ a b<1000000007*998244353:=by
 have e1:a.tmod 998244353=a%998244353:=qX ha.1
 unfold CJ zqT
 rw [e1]
 have r1:0≤a%998244353∧a%998244353<998244353:=⟨qI _ (by omega),qJ _ (by omega)⟩
 generalize a%998244353=c at *
 rw [WN (n:=b-c) (by omega) (by omega),QI (x:=b-c+998244353) (by omega) (by omega),qX (by omega:0≤b-c+998244353)]
 have r2:0≤(b-c+998244353)%998244353∧(b-c+998244353)%998244353<998244353:=⟨qI _ (by omega),qJ _ (by omega)⟩
 generalize (b-c+998244353)%998244353=d at *
 have r3:0≤pw 1755654 998244351 998244353∧pw 1755654 998244351 998244353<998244353:=⟨qI _ (by omega),qJ _ (by omega)⟩
 generalize pw 1755654 998244351 998244353=z at *
 rw [DP (by omega) r2.1 r2.2 r3.1 r3.2 (by omega)]
 have r4:0≤d*z%998244353∧d*z%998244353<998244353:=⟨qI _ (by omega),qJ _ (by omega)⟩
 generalize d*z%998244353=e at *
 rw [QI (x:=1000000007*e) (by omega) (by omega),QI (by omega) (by omega)]
 omega
theorem QhZ {N:Int} (h0:0≤N) (h:N<1000000007*998244353):CJ (N%1000000007) (N%998244353)=N:=by
 have hc:=QrE (a:=N%1000000007) (b:=N%998244353) ⟨qI _ (by omega),qJ _ (by omega)⟩ ⟨qI _ (by omega),qJ _ (by omega)⟩
 have hz:(1755654*pw 1755654 998244351 998244353)%998244353=1:=pr4.invI (a:=1755654) (by omega) (by omega)
 have d1:(1000000007:Int)∣CJ (N%1000000007) (N%998244353)-N:=by
  refine cgT (b:=N%1000000007) ?_ (QU _ _)
  rw [hc.1,Int.add_comm,Int.add_sub_cancel]
  exact Int.dvd_mul_right _ _
 have d2:(998244353:Int)∣CJ (N%1000000007) (N%998244353)-N:=by
  rw [hc.1]
  clear hc h h0 d1
  have hb:(998244353:Int)∣N%998244353-N:=QU _ _
  generalize N%1000000007=a at *
  generalize N%998244353=b at *
  generalize pw 1755654 998244351 998244353=z at *
  have t1:(998244353:Int)∣(b-a%998244353+998244353)%998244353-(b-a):=by
   refine cgT (QU _ _) ?_
   have h1:(998244353:Int)∣a%998244353-a:=QU _ _
   have h2:=Int.dvd_sub (Int.dvd_refl (998244353:Int)) h1
   rwa [show (998244353:Int)-(a%998244353-a)=b-a%998244353+998244353-(b-a) by omega] at h2
  have t2:(998244353:Int)∣(b-a%998244353+998244353)%998244353*z%998244353-(b-a)*z:=cgT (QU _ _) (Q8 t1 (cgR _ z))
  have t3:(998244353:Int)∣1000000007-1755654:=⟨1,by omega⟩
  have t4:=Q8 t3 t2
  have t5:(998244353:Int)∣1755654*z-1:=by
   have:=QU (1755654*z) 998244353
   rw [hz] at this
   exact cgS this
  have t6:(998244353:Int)∣1755654*((b-a)*z)-(b-a):=by
   have:=Q8 (cgR 998244353 (b-a)) t5
   rwa [Int.mul_one,show (b-a)*(1755654*z)=1755654*((b-a)*z) by rw [Int.mul_left_comm]] at this
  have t7:=cgT t4 t6
  have t8:=cgA (cgR 998244353 a) t7
  rw [show a+(b-a)=b by omega] at t8
  exact cgT t8 hb
 have hc1:=hc.2.1
 have hc2:=hc.2.2
 clear hc hz
 generalize CJ (N%1000000007) (N%998244353)=X at *
 obtain ⟨s,hs⟩:=d1
 obtain ⟨t,ht⟩:=d2
 have h1:X-N=1000000007*998244353*(4924091*s-4915446*t):=by omega
 have:4924091*s-4915446*t=0:=by omega
 omega
section
variable {n:Int} {l:List St} (hnet:Wh n l=true) {P:List Int} (hP:InR l P) {w:Int}
include hnet hP
theorem Qbe {t:List Int} {v:Nat} (hv:(v:Int)<n):(QT n.toNat l t).getD v 0=lb l t (v:Int):=by
 have:=Z0 (n:=n.toNat) (l:=l) (t:=t) (v:=(v:Int)) (by omega)
 rwa [qP] at this
theorem Qaf {k:Int} (hk:0≤k∧k<(l.length:Int)):QT n.toNat l (P++[k])=Wa (QT n.toNat l P) (sA l k) (sB l k):=by
 obtain ⟨⟨n1,n2⟩,n3,he,_⟩:=Qx hnet
 have e:(P++[k]).getD P.length 0=k:=by simp [qC]
 have:=QcY (n:=n.toNat) (l:=l) (by rwa [show ((n.toNat:Nat):Int)=n by omega]) (t:=P++[k]) (i:=P.length) (by simp) (by rw [e];exact hk)
 rwa [e,List.take_left,qY (by simp)] at this
theorem QfD:∀j,j≤l.length→cgF w (QT n.toNat l P) l j=QT n.toNat l (P++ofW l w (Qf j))
 | 0,_=>by
  have:ofW l w (Qf 0)=[]:=rfl
  rw [this,qK];rfl
 | j+1,hj=>by
  have ih:=QfD j (by omega)
  rw [cgF,DJ hnet hP]
  by_cases c:wOf l (j:Int)=w
  ·rw [if_pos c,if_pos (show (l.getD j (0,0,0)).2.2=w from c),← qS,Qaf hnet (hP.app fun k hk=>?_) ⟨by omega,by omega⟩,ih]
   ·rfl
   ·have:=startT_mem.1 (of_mem.1 hk).1
    omega
  ·rw [if_neg c,if_neg (show ¬(l.getD j (0,0,0)).2.2=w from c),qK,ih]
theorem QfE {j:Nat} (hj:j≤l.length):InR l (ofW l w (Qf j)):=fun k hk=>by
 have:=startT_mem.1 (of_mem.1 hk).1
 omega
theorem QfF:∀j,j≤l.length→(stF w (QT n.toNat l P) l j).1=QT n.toNat l (P++ofW l w (Qf j))∧SqQ n.toNat (stF w (QT n.toNat l P) l j).2∧∀a b:Nat,a<n.toNat→b<n.toNat→en (stF w (QT n.toNat l P) l j).2 a b=Lp l P (ofW l w (Qf j)) (a:Int) (b:Int)
 | 0,_=>by
  obtain ⟨⟨n1,n2⟩,n3,he,_⟩:=Qx hnet
  have hgl:(QT n.toNat l P).length=n.toNat:=Qel (by omega) (QG hnet) hP
  have e0:ofW l w (Qf 0)=[]:=rfl
  rw [e0,qK,stF,hgl]
  refine ⟨rfl,⟨by simp [zMq],fun j hj=>by simp [zMq,qC,hj]⟩,fun a b ha hb=>?_⟩
  simp [zMq,en,qC,ha,hb,Lp]
 | j+1,hj=>by
  obtain ⟨⟨n1,n2⟩,n3,_,_⟩:=Qx hnet
  have he:=QG hnet
  obtain ⟨i1,i2,i3⟩:=QfF j (by omega)
  have hk:0≤(j:Int)∧(j:Int)<(l.length:Int):=⟨by omega,by omega⟩
  obtain ⟨ea,eb⟩:=Ks he hk
  have nn:=Kv hnet hk
  have hEj:=QfE hnet hP (w:=w) (j:=j) (by omega)
  have ga:(QT n.toNat l P).getD (l.getD j (0,0,0)).1.toNat 0=lb l P (sA l (j:Int)):=Z0 (v:=sA l (j:Int)) (by omega)
  have gb:(QT n.toNat l P).getD (l.getD j (0,0,0)).2.1.toNat 0=lb l P (sB l (j:Int)):=Z0 (v:=sB l (j:Int)) (by omega)
  have la:=WY he hP ea
  have lb':=WY he hP eb
  rw [Qab,ga,gb,DJ hnet hP]
  by_cases c:wOf l (j:Int)=w
  ·have cw:(l.getD j (0,0,0)).2.2=w:=c
   rw [if_pos c,← qS,Qaf hnet (hP.app hEj) hk]
   have qa:(QT n.toNat l (P++ofW l w (Qf j))).getD (lb l P (sA l (j:Int))).toNat 0=(QT n.toNat l (P++ofW l w (Qf j))).getD (sA l (j:Int)).toNat 0:=by
    rw [Z0 (v:=lb l P (sA l (j:Int))) (by omega),Z0 (v:=sA l (j:Int)) (by omega)]
    exact KW hnet hP hEj ea
   have qb:(QT n.toNat l (P++ofW l w (Qf j))).getD (lb l P (sB l (j:Int))).toNat 0=(QT n.toNat l (P++ofW l w (Qf j))).getD (sB l (j:Int)).toNat 0:=by
    rw [Z0 (v:=lb l P (sB l (j:Int))) (by omega),Z0 (v:=sB l (j:Int)) (by omega)]
    exact KW hnet hP hEj eb
   by_cases cab:lb l P (sA l (j:Int))=lb l P (sB l (j:Int))
   ·rw [if_pos (.inr cab)]
    have qe:(QT n.toNat l (P++ofW l w (Qf j))).getD (sA l (j:Int)).toNat 0=(QT n.toNat l (P++ofW l w (Qf j))).getD (sB l (j:Int)).toNat 0:=by rw [← qa,← qb,cab]
    rw [VZ qe]
    refine ⟨i1,i2,fun a b ha hb=>?_⟩
    rw [Yp,qK,← i3 a b ha hb,ed,cab,Int.sub_self,Int.zero_mul,Int.zero_add]
   ·rw [if_neg fun h=>h.elim (fun x=>x cw) cab]
    refine ⟨?_,Qqn i2 (by omega) (by omega),fun a b ha hb=>?_⟩
    ·show Wa (stF w (QT n.toNat l P) l j).1 _ _=_
     rw [i1]
     unfold Wa
     rw [qa,qb]
    ·show en (laE (stF w (QT n.toNat l P) l j).2 _ _) a b=_
     have t:∀(x:Int) (y:Nat),0≤x→(if x.toNat=y then (1:Int) else 0)=dl x (y:Int):=fun x y hx=>by
      unfold dl
      by_cases e:x=(y:Int)
      ·rw [if_pos e,if_pos (by omega)]
      ·rw [if_neg e,if_neg (by omega)]
     rw [Qqo i2 (by omega) (by omega),i3 a b ha hb,Yp,qK,ed,t _ _ la.1,t _ _ lb'.1,t _ _ la.1,t _ _ lb'.1,Int.add_comm]
  ·rw [if_neg c,if_pos (.inl (show (l.getD j (0,0,0)).2.2≠w from c)),qK]
   exact ⟨i1,i2,i3⟩
theorem QrF {c:Nat} (hc:(c:Int)<n) (hr:lb l (P++ofW l w (alS l)) (c:Int)=(c:Int)):vt l P (ofW l w (alS l)) n.toNat (c:Int)=(c:Int)::prT (QT n.toNat l P) (QT n.toNat l (P++ofW l w (alS l))) c n.toNat:=by
 obtain ⟨⟨n1,n2⟩,n3,_,_⟩:=Qx hnet
 have he:=QG hnet
 have hE:=VB l w
 have g1:∀u:Nat,u<n.toNat→(QT n.toNat l P).getD u 0=lb l P (u:Int):=fun u hu=>Qbe hnet hP (by omega)
 have g2:∀u:Nat,u<n.toNat→(QT n.toNat l (P++ofW l w (alS l))).getD u 0=lb l (P++ofW l w (alS l)) (u:Int):=fun u hu=>Qbe hnet hP (by omega)
 have e2:prT (QT n.toNat l P) (QT n.toNat l (P++ofW l w (alS l))) c n.toNat=((qF n.toNat).filter fun (u:Nat)=>decide (c<u∧lb l P (u:Int)=(u:Int)∧lb l (P++ofW l w (alS l)) (u:Int)=(c:Int))).map fun u:Nat=>(u:Int):=by
  unfold prT
  congr 1
  refine List.filter_congr fun u hu=>?_
  have:=List.mem_range.1 hu
  rw [g1 u this,g2 u this]
 have hlb:lb l P (c:Int)=(c:Int):=by
  have h1:=Gm he hP (t':=P++ofW l w (alS l)) (hP.app hE) (fun k hk=>qQ _ hk) (v:=(c:Int)) ⟨by omega,by omega⟩
  have h2:=(WY he hP (v:=(c:Int)) ⟨by omega,by omega⟩).2.1
  omega
 rw [e2,vt,← List.map_cons (f:=fun u:Nat=>(u:Int))]
 congr 1
 have key:∀u:Nat,u<c→¬(lb l (P++ofW l w (alS l)) (u:Int)=(c:Int)):=fun u hu h=>by
  have:=(WY he (hP.app hE) (v:=(u:Int)) ⟨by omega,by omega⟩).2.1
  omega
 refine GI (decide_eq_true ⟨hlb,hr⟩) (decide_eq_false fun h=>Nat.lt_irrefl _ h.1) (fun u hu=>⟨decide_eq_false fun h=>key u hu h.2,decide_eq_false fun h=>by omega⟩) (fun u hu=>?_) n.toNat (by omega)
 rw [decide_eq_decide]
 exact ⟨fun h=>⟨hu,h⟩,fun h=>h.2⟩
theorem Qqp {c:Nat} (hc:(c:Int)<n) (hr:lb l (P++ofW l w (alS l)) (c:Int)≠(c:Int)):vt l P (ofW l w (alS l)) n.toNat (c:Int)=[]:=by
 obtain ⟨⟨n1,n2⟩,n3,_,_⟩:=Qx hnet
 have he:=QG hnet
 refine List.eq_nil_iff_forall_not_mem.2 fun x hx=>hr ?_
 obtain ⟨h1,h2,h3⟩:=vt_mem.1 hx
 have:=(WY he (hP.app (VB l w)) (v:=x) ⟨by omega,by omega⟩).2.2
 rw [h3] at this
 exact this
theorem Qh0 {c:Nat} (hc:(c:Int)<n):0≤det (vt l P (ofW l w (alS l)) n.toNat (c:Int)).tail ((vt l P (ofW l w (alS l)) n.toNat (c:Int)).tail.map (Lp l P (ofW l w (alS l))))∧det (vt l P (ofW l w (alS l)) n.toNat (c:Int)).tail ((vt l P (ofW l w (alS l)) n.toNat (c:Int)).tail.map (Lp l P (ofW l w (alS l))))≤576460752303423488:=by
 obtain ⟨⟨n1,n2⟩,n3,_,_⟩:=Qx hnet
 have he:=QG hnet
 have hE:=VB l w
 have hE':∀k,0≤k∧k<(l.length:Int)→sA l k<n∧sB l k<n:=fun k hk=>by have:=Kv hnet hk;omega
 have hlE:(ofW l w (alS l)).length≤60:=by
  have h1:(ofW l w (alS l)).length≤(alS l).length:=qZ ..
  rw [QL] at h1
  have:=(Qx hnet).2.1
  omega
 have hmem:=fun x=>vt_mem (l:=l) (P:=P) (E:=ofW l w (alS l)) (n:=n.toNat) (top:=(c:Int)) (x:=x)
 have hnd:=XY l P (ofW l w (alS l)) n.toNat (c:Int)
 generalize vt l P (ofW l w (alS l)) n.toNat (c:Int)=V at *
 generalize hEE:ofW l w (alS l)=E at *
 have hsub:∀x∈V.tail,x∈V:=fun x hx=>(List.tail_sublist V).subset hx
 obtain ⟨E1,hE1⟩:∃E1,E1=E.filter fun e=>decide (lb l (P++E) (sA l e)=(c:Int)):=⟨_,rfl⟩
 have hm1:∀e∈E1,e∈E∧lb l (P++E) (sA l e)=(c:Int):=fun e h=>by
  rw [hE1,List.mem_filter,decide_eq_true_eq] at h;exact h
 have hE1i:InR l E1:=fun e h=>hE e (hm1 e h).1
 have hl1:E1.length≤60:=by
  have:E1.length≤E.length:=by rw [hE1];exact qZ ..
  omega
 have hLp:∀x∈V.tail,∀y,Lp l P E x y=Lp l P E1 x y:=fun x hx y=>by
  have hx3:=((hmem x).1 (hsub x hx)).2.2
  have key:∀F:List Int,(∀e∈F,e∈E)→Lp l P F x y=Lp l P (F.filter fun e=>decide (lb l (P++E) (sA l e)=(c:Int))) x y:=by
   intro F
   induction F with
   | nil=>intro _;rfl
   | cons e F ih =>
    intro hF
    have heE:=hF e (qG ..)
    have ih:=ih fun z hz=>hF z (qD _ hz)
    obtain ⟨ea,eb⟩:=Ks he (hE e heE)
    have a1:=KW hnet hP hE ea
    have b1:=KW hnet hP hE eb
    have c1:=SZ hnet hP hE heE
    by_cases d:lb l (P++E) (sA l e)=(c:Int)
    ·rw [qM (p:=fun e=>decide (lb l (P++E) (sA l e)=(c:Int))) (decide_eq_true d)]
     exact congrArg (ed l P e x y+·) ih
    ·rw [qN (p:=fun e=>decide (lb l (P++E) (sA l e)=(c:Int))) (by rw [decide_eq_true_eq];exact d),← ih]
     show ed l P e x y+Lp l P F x y=_
     rw [ed,dl,dl,if_neg fun h=>d (by rw [← a1,h,hx3]),if_neg fun h=>d (by rw [c1,← b1,h,hx3])]
     simp
  rw [hE1];exact key E fun e h=>h
 have e1:det V.tail (V.tail.map (Lp l P E))=det V.tail (V.tail.map (Lp l P E1)):=Dq (cgm fun x hx y _=>by rw [hLp x hx y];exact cgR ..)
 have m:=mt he (χ:=fun v=>if lb l (P++E) v=(c:Int) then -1 else v) _ P V.tail E1 (qE _) hP hE1i (hnd.sublist (List.tail_sublist V)) (fun x hx=>by
   have:=(hmem x).1 (hsub x hx)
   exact ⟨by omega,this.2.1⟩) (fun e hm=>by
   obtain ⟨h1,h2⟩:=hm1 e hm
   obtain ⟨ea,eb⟩:=Ks he (hE e h1)
   show (if lb l (P++E) (lb l P (sA l e))=(c:Int) then (-1:Int) else _)=if lb l (P++E) (lb l P (sB l e))=(c:Int) then (-1:Int) else _
   rw [KW hnet hP hE ea,KW hnet hP hE eb,← SZ hnet hP hE h1,if_pos h2,if_pos h2]) fun x y hx hy hxK hyK hxy=>by
   have hxy:(if lb l (P++E) x=(c:Int) then (-1:Int) else x)=if lb l (P++E) y=(c:Int) then (-1:Int) else y:=hxy
   have o1:=Dm hE' (hP.app hE) (Jn he (hP.app hE) hx.1)
   have o2:=Dm hE' (hP.app hE) (Jn he (hP.app hE) hy.1)
   by_cases cx:lb l (P++E) x=(c:Int)
   ·by_cases cy:lb l (P++E) y=(c:Int)
    ·exact cut_first.one hnd ((hmem x).2 ⟨by omega,hx.2,cx⟩) ((hmem y).2 ⟨by omega,hy.2,cy⟩) hxK hyK
    ·rw [if_pos cx,if_neg cy] at hxy;omega
   ·by_cases cy:lb l (P++E) y=(c:Int)
    ·rw [if_neg cx,if_pos cy] at hxy;omega
    ·rw [if_neg cx,if_neg cy] at hxy;exact hxy
 rw [e1,m]
 refine ⟨by omega,?_⟩
 have hn:=Ds E1 (p:=fo l P V.tail.length) (r:=V.tail.length) fun F h=>(of_decide_eq_true h).2
 unfold cnt
 rcases hn with h | h
 ·have h2:2 ^ E1.length≤2 ^ 60:=Nat.pow_le_pow_right (by omega) hl1
  have h3:(2:Nat) ^ 60=1152921504606846976:=by decide
  omega
 ·rw [h]
  have:=SX [] (p:=fo l P V.tail.length)
  simp only [List.length_nil,Nat.pow_zero] at this
  omega
theorem Qag:∀c:Nat,(c:Int)≤n→(18446744073709551616:Int)∣foF (QT n.toNat l P) (stF w (QT n.toNat l P) l l.length).1 (stF w (QT n.toNat l P) l l.length).2 n.toNat c-Xv qR l P (ofW l w (alS l)) n.toNat c
 | 0,_=>cgR ..
 | c+1,hc=>by
  have hE:=VB l w
  have ih:=Qag c (by omega)
  obtain ⟨s1,s2,s3⟩:=QfF hnet hP (w:=w) l.length (qE _)
  rw [foF,Xv]
  rw [s1] at ih ⊢
  generalize foF (QT n.toNat l P) (QT n.toNat l (P++ofW l w (Qf l.length))) (stF w (QT n.toNat l P) l l.length).2 n.toNat c=u at *
  rw [grU,Qbe hnet hP (by omega)]
  by_cases cr:lb l (P++ofW l w (alS l)) (c:Int)=(c:Int)
  ·rw [if_pos cr]
   have hv:=QrF hnet hP (w:=w) (c:=c) (by omega) cr
   have hrg:=Qh0 hnet hP (w:=w) (c:=c) (by omega)
   have hsub:∀x∈prT (QT n.toNat l P) (QT n.toNat l (P++ofW l w (alS l))) c n.toNat,0≤x∧x<n:=fun x hx=>by
    have:=(vt_mem (l:=l) (P:=P) (E:=ofW l w (alS l)) (n:=n.toNat) (top:=(c:Int)) (x:=x)).1 (by rw [hv];exact qD _ hx)
    omega
   rw [hv,List.tail_cons] at hrg ⊢
   generalize prT (QT n.toNat l P) (QT n.toNat l (P++ofW l w (alS l))) c n.toNat=K at *
   have hf:∀x∈K,∀y∈K,en (stF w (QT n.toNat l P) l l.length).2 x.toNat y.toNat=Lp l P (ofW l w (alS l)) x y:=fun x hx y hy=>by
    have h1:=hsub x hx
    have h2:=hsub y hy
    rw [s3 x.toNat y.toNat (by omega) (by omega),qT h1.1,qT h2.1]
   have a:=QfC pr3 (by omega) hf
   have b:=QfC pr4 (by omega) hf
   have a:dPT 1000000007 (stF w (QT n.toNat l P) l l.length).2 K=det K (K.map (Lp l P (ofW l w (alS l))))%1000000007:=a
   have b:dPT 998244353 (stF w (QT n.toNat l P) l l.length).2 K=det K (K.map (Lp l P (ofW l w (alS l))))%998244353:=b
   rw [a,b]
   have e:=QhZ hrg.1 (by omega)
   unfold CJ at e
   rw [e]
   exact cgT (Qae _) (Q8 ih (cgR ..))
  ·rw [if_neg cr,Qqp hnet hP (by omega) cr]
   have:det [] (([]:List Int).map (Lp l P (ofW l w (alS l))))=1:=rfl
   rw [List.tail_nil,this,Int.mul_one]
   exact ih
end
section
variable {n:Int} {l:List St} (hnet:Wh n l=true)
include hnet
def Wof (l:List St):Nat→Nat
 | 0=>0
 | i+1=>(owT l i).toNat+1
theorem Qah:∀i,i≤(Qg l).length→(czF n.toNat l i).2=QT n.toNat l (loW l ((Wof l i:Int)-1) (alS l))∧(18446744073709551616:Int)∣(czF n.toNat l i).1-(cN l (Wof l i):Int)
 | 0,_=>by
  obtain ⟨⟨n1,n2⟩,n3,_,_⟩:=Qx hnet
  have:loW l (((0:Nat):Int)-1) (alS l)=[]:=Y7 fun k hk=>by have:=(XX hnet (Dy l k hk)).1;omega
  refine ⟨?_,cgR ..⟩
  show Qf n.toNat=_
  rw [Wof,this]
  exact (YO (by omega)).symm
 | i+1,hi=>by
  obtain ⟨i1,i2⟩:=Qah i (by omega)
  have he:=QG hnet
  have hO:∀k∈Qg l,0≤k∧k<(l.length:Int):=fun k hk=>ordT_mem.1 hk
  have pos:∀k,0≤k∧k<(l.length:Int)→∃a,a<(Qg l).length∧(Qg l).getD a 0=k:=fun k hk=>Yo hnet hk
  have ow:∀a,owT l a=wOf l ((Qg l).getD a 0):=fun a=>rfl
  have hki:=hO _ (Qo 0 (show i<(Qg l).length by omega))
  have hwi:=XX hnet hki
  rw [← ow] at hwi
  obtain ⟨w,hw⟩:=Int.eq_ofNat_of_zero_le hwi.1
  have hW1:Wof l (i+1)=w+1:=by rw [Wof,hw];rfl
  rw [czF]
  by_cases c:0<i∧owT l (i-1)=owT l i
  ·rw [if_pos c]
   have:Wof l i=Wof l (i+1):=by
    obtain ⟨j,rfl⟩:∃j,i=j+1:=⟨i-1,by omega⟩
    have:=c.2
    rw [Nat.add_sub_cancel] at this
    rw [Wof,Wof,this]
   rw [← this];exact ⟨i1,i2⟩
  ·rw [if_neg c]
   have hWw:Wof l i≤w∧∀k,0≤k∧k<(l.length:Int)→¬((Wof l i:Int)≤wOf l k∧wOf l k<(w:Int)):=by
    cases i with
    | zero =>
     refine ⟨Nat.zero_le _,fun k hk h=>?_⟩
     obtain ⟨a,ha,e⟩:=pos k hk
     have o1:=Z2 hnet (i:=0) (j:=a) (Nat.zero_le _) ha
     rw [← ow,hw,e] at o1
     omega
    | succ i =>
     have o0:=Z2 hnet (i:=i) (j:=i+1) (by omega) (by omega)
     rw [← ow,← ow,hw] at o0
     have hne:owT l i≠owT l (i+1):=fun h=>c ⟨by omega,h⟩
     rw [hw] at hne
     have h0:=(XX hnet (hO _ (Qo 0 (show i<(Qg l).length by omega)))).1
     rw [← ow] at h0
     refine ⟨by rw [Wof];omega,fun k hk h=>?_⟩
     rw [Wof] at h
     obtain ⟨a,ha,e⟩:=pos k hk
     rcases Nat.lt_or_ge a (i+1) with d | d
     ·have o1:=Z2 hnet (i:=a) (j:=i) (by omega) (by omega)
      rw [e,← ow] at o1;omega
     ·have o1:=Z2 hnet (i:=i+1) (j:=a) d ha
      rw [e,← ow,hw] at o1;omega
   have hlo:loW l ((Wof l i:Int)-1) (alS l)=loW l ((w:Int)-1) (alS l):=by
    unfold loW
    refine List.filter_congr fun k hk=>?_
    have:=hWw.2 k (Dy l k hk)
    have:=hWw.1
    rw [decide_eq_decide]
    omega
   have hcn:cN l (Wof l i)=cN l w:=(X7 hnet w hWw.1 hWw.2).symm
   rw [hlo] at i1
   rw [hcn] at i2
   rw [i1,hw]
   have hP:=X2 l ((w:Int)-1)
   have hE:=VB l (w:Int)
   refine ⟨?_,?_⟩
   ·show cgF (w:Int) _ l l.length=_
    rw [QfD hnet hP _ (qE _),hW1]
    have e1:(((w+1:Nat):Int))-1=(w:Int):=by omega
    rw [e1]
    unfold QT
    rw [XU he (hP.app hE) fun k=>(VC l (w:Int) (alS l)).mem_iff.symm]
   ·have fd:=Qag hnet hP (w:=(w:Int)) n.toNat (by have:=(Qx hnet).1;omega)
    have hcw:cW qR n l (w+1)=cW qR n l w*Xv qR l (loW l ((w:Int)-1) (alS l)) (ofW l w (alS l)) n.toNat n.toNat:=rfl
    rw [S1 hnet cut_first,S1 hnet cut_first] at hcw
    rw [hW1,hcw]
    exact cgT (Qae _) (Q8 i2 fd)
theorem QfG:∀i,-9223372036854775808≤(czF n.toNat l i).1∧(czF n.toNat l i).1<9223372036854775808
 | 0=>by show _≤(1:Int)∧(1:Int)<_;decide
 | i+1=>by
  rw [czF]
  split
  ·exact QfG i
  ·show _≤qA.wrap _∧qA.wrap _<_
   rw [XP]
   omega
theorem Qh1:Qda n l=ctT n l:=by
 rw [Qda,QbM]
 by_cases cn:WJ n l=true
 ·rw [if_pos cn,QoR hnet cn]
  obtain ⟨_,h⟩:=Qah hnet (Qg l).length (qE _)
  have hO:∀k∈Qg l,0≤k∧k<(l.length:Int):=fun k hk=>ordT_mem.1 hk
  have hc:cN l 1001=cN l (Wof l (Qg l).length):=by
   have hjl:∀m,m≤(Qg l).length→Wof l m≤1001:=fun m hm=>by
    cases m with
    | zero=>exact Nat.zero_le _
    | succ m =>
     have:=XX hnet (hO _ (Qo 0 (show m<(Qg l).length by omega)))
     have e:owT l m=wOf l ((Qg l).getD m 0):=rfl
     rw [Wof,e];omega
   refine X7 hnet 1001 (hjl _ (qE _)) fun k hk h=>?_
   obtain ⟨a,ha,e⟩:=Yo hnet hk
   obtain ⟨j,hj⟩:∃j,(Qg l).length=j+1:=⟨(Qg l).length-1,by omega⟩
   rw [hj,Wof] at h
   have o1:=Z2 hnet (i:=a) (j:=j) (by omega) (by omega)
   rw [e] at o1
   have h0:=(XX hnet hk).1
   have ej:owT l j=wOf l ((Qg l).getD j 0):=rfl
   rw [ej] at h
   omega
  rw [← hc,Zw] at h
  have hr:=QfG hnet (n:=n) (l:=l) l.length
  have hb:=QiG hnet 1001
  have hb2:((cN l 1001:Nat):Int)≤1152921504606846976:=by
   have:(2:Nat) ^ 60=1152921504606846976:=by decide
   omega
  obtain ⟨k,hk⟩:=h
  omega
 ·rw [if_neg cn,ctT,if_pos hnet,if_neg cn]
end
end Go.Proofs.Ytiejmoglooaalaa
end
section
open Go Go.HL
namespace Go.Proofs.Ytiejmoglooaalaa
set_option linter.unusedSectionVars false
open Go.Proofs.Try renaming prog → Tp
open Go.HL.HV renaming undef → Ud
theorem QfH {O:List Int} {k:Int} (d:Int) {x:Nat} (hx:x<O.length) (hk:0≤k):(lwT O k d).getD x 0=if k=(x:Int) then bst (O.getD x 0) d else O.getD x 0:=by
 unfold lwT
 by_cases e:k=(x:Int)
 ·subst e
  rw [if_pos rfl,qP,bst]
  by_cases c:O.getD x 0<0∨d<O.getD x 0
  ·rw [if_pos c,if_pos c,Sz hx,if_pos rfl]
  ·rw [if_neg c,if_neg c]
 ·rw [if_neg e]
  by_cases c:O.getD k.toNat 0<0∨d<O.getD k.toNat 0
  ·rw [if_pos c]
   simp only [qC,List.getElem?_set]
   rw [if_neg (by omega)]
  ·rw [if_neg c]
theorem QfI {l:List St} {O:List Int} {k y:Int} {x:Nat} (hx:x<O.length) (hk:0≤k) (hy:0≤y) (hne:k≠y):(inS l k O y).getD x 0=if k=(x:Int)∨y=(x:Int) then bst (O.getD x 0) (wOf l y-wOf l k) else O.getD x 0:=by
 rw [inS,QfH _ (by rw [Cw];exact hx) hy,QfH _ hx hk]
 by_cases c1:y=(x:Int)
 ·rw [if_pos c1,if_neg (by omega),if_pos (.inr c1)]
 ·rw [if_neg c1]
  by_cases c2:k=(x:Int)
  ·rw [if_pos c2,if_pos (.inl c2)]
  ·rw [if_neg c2,if_neg (by omega)]
theorem Qai {l:List St} {k:Nat}:∀(ys O:List Int),k<O.length→(∀y∈ys,0≤y∧y≠(k:Int))→(inF l k O ys).getD k 0=ys.foldl (fun b y=>bst b (wOf l y-wOf l k)) (O.getD k 0)
 | [],_,_,_=>rfl
 | y::ys,O,h,hy=>by
  obtain ⟨h1,h2⟩:=hy y (qG ..)
  have:=Qai (l:=l) ys (inS l k O y) (by rw [Cx];exact h) fun z hz=>hy z (qD _ hz)
  rw [inF,qB,qB]
  refine this.trans ?_
  rw [QfI h (by omega) h1 (fun c=>h2 c.symm),if_pos (.inl rfl)]
theorem Ys {l:List St} {k:Int} {x:Nat} (hk:0≤k) (hkx:k≠(x:Int)):∀(ys O:List Int),x<O.length→ys.Nodup→(∀y∈ys,0≤y∧y≠k)→(inF l k O ys).getD x 0=if (x:Int)∈ys then bst (O.getD x 0) (wOf l x-wOf l k) else O.getD x 0
 | [],_,_,_,_=>by rw [if_neg (by simp)];rfl
 | y::ys,O,h,hn,hy=>by
  obtain ⟨h1,h2⟩:=hy y (qG ..)
  obtain ⟨n1,n2⟩:=List.nodup_cons.1 hn
  have:=Ys (l:=l) hk hkx ys (inS l k O y) (by rw [Cx];exact h) n2 fun z hz=>hy z (qD _ hz)
  rw [inF,qB]
  refine this.trans ?_
  rw [QfI h hk h1 (fun c=>h2 c.symm)]
  by_cases c:y=(x:Int)
  ·subst c
   rw [if_neg n1,if_pos (.inr rfl),if_pos (qG ..)]
  ·have hor:¬(k=(x:Int)∨y=(x:Int)):=fun h=>h.elim hkx c
   by_cases c2:(x:Int)∈ys
   ·rw [if_pos c2,if_neg hor,if_pos (qD _ c2)]
   ·rw [if_neg c2,if_neg hor,if_neg (fun h=>(List.mem_cons.1 h).elim (fun e=>c e.symm) c2)]
theorem ins_mem {l:List St} {t:List Int} {k:Int} {y:Int}:y∈Q0 l t k l.length↔(0≤y∧y<(l.length:Int))∧y∉t∧Q4 l t k y:=by
 rw [Q0,List.mem_filter,startT_mem,decide_eq_true_eq]
theorem GJ (l:List St) (t:List Int) (k:Int):(Q0 l t k l.length).Nodup:=(Zi _).sublist List.filter_sublist
theorem CK {l:List St} {t:List Int} {x:Nat} (hx:x<l.length) (hxt:(x:Int)∉t):∀(ks O:List Int),O.length=l.length→(∀k∈ks,k∈t∧0≤k)→(ouF l t O ks).getD x 0=ks.foldl (fun b k=>if Q4 l t k x then bst b (wOf l x-wOf l k) else b) (O.getD x 0)
 | [],_,_,_=>rfl
 | k::ks,O,hO,hk=>by
  obtain ⟨h1,h2⟩:=hk k (qG ..)
  have:=CK hx hxt ks (inF l k O (Q0 l t k l.length)) ((X5 ..).trans hO) fun z hz=>hk z (qD _ hz)
  rw [ouF,qB,qB]
  refine this.trans ?_
  rw [Ys h2 (fun c=>hxt (c▸h1)) _ _ (by omega) (GJ ..) (fun y hy=>⟨(ins_mem.1 hy).1.1,fun c=>(ins_mem.1 hy).2.1 (c▸h1)⟩)]
  refine congrArg (fun b=>ks.foldl _ b) ?_
  by_cases c:Q4 l t k x
  ·rw [if_pos c,if_pos (ins_mem.2 ⟨by omega,hxt,c⟩)]
  ·rw [if_neg c,if_neg (fun h=>c (ins_mem.1 h).2.2)]
theorem QiR {l:List St} {t:List Int} {x:Nat} (hx:x<l.length) (hxt:(x:Int)∈t):∀(ks O:List Int),O.length=l.length→ks.Nodup→(∀k∈ks,k∈t∧0≤k)→(ouF l t O ks).getD x 0=if (x:Int)∈ks then (Q0 l t x l.length).foldl (fun b y=>bst b (wOf l y-wOf l x)) (O.getD x 0) else O.getD x 0
 | [],_,_,_,_=>by rw [if_neg (by simp)];rfl
 | k::ks,O,hO,hn,hk=>by
  obtain ⟨h1,h2⟩:=hk k (qG ..)
  obtain ⟨n1,n2⟩:=List.nodup_cons.1 hn
  have:=QiR hx hxt ks (inF l k O (Q0 l t k l.length)) ((X5 ..).trans hO) n2 fun z hz=>hk z (qD _ hz)
  rw [ouF,qB]
  refine this.trans ?_
  by_cases c:k=(x:Int)
  ·subst c
   rw [if_neg n1,if_pos (qG ..)]
   exact Qai _ _ (by omega) fun y hy=>⟨(ins_mem.1 hy).1.1,fun c=>(ins_mem.1 hy).2.1 (c▸h1)⟩
  ·have e:(inF l k O (Q0 l t k l.length)).getD x 0=O.getD x 0:=by
    rw [Ys h2 c _ _ (by omega) (GJ ..) (fun y hy=>⟨(ins_mem.1 hy).1.1,fun c=>(ins_mem.1 hy).2.1 (c▸h1)⟩),if_neg (fun h=>(ins_mem.1 h).2.1 hxt)]
   rw [e]
   by_cases c2:(x:Int)∈ks
   ·rw [if_pos c2,if_pos (qD _ c2)]
   ·rw [if_neg c2,if_neg (fun h=>(List.mem_cons.1 h).elim (fun e=>c e.symm) c2)]
theorem VG {α β:Type} (p:α→Bool) (f:β→α→β):∀(s:List α) (b:β),(s.filter p).foldl f b=s.foldl (fun b x=>if p x=true then f b x else b) b
 | [],_=>rfl
 | x::s,b=>by
  by_cases c:p x=true
  ·rw [qM c,qB,qB,if_pos c];exact VG p f s _
  ·rw [qN c,qB,if_neg c];exact VG p f s _
theorem Xz {α β:Type} {f g:β→α→β}:∀{s:List α},(∀x∈s,∀b,f b x=g b x)→∀b,s.foldl f b=s.foldl g b
 | [],_,_=>rfl
 | x::s,h,b=>by rw [qB,qB,h x (qG ..)];exact Xz (fun y hy=>h y (qD _ hy)) _
theorem QfJ {b d e:Int} (hd:0≤d) (he:0≤e):bst (bst b d) e=bst (bst b e) d:=by
 unfold bst
 repeat' split
 all_goals omega
theorem Qh2 (l:List St):(Qd l).Perm (frT l):=by
 have h:((Qg l).filter fun x=>decide (x∈Qd l)).Perm (frT l):=(ZY l l.length).filter _
 rwa [YP] at h
theorem Qaj {n:Int} {l:List St} (hnet:Wh n l=true) (hc:WJ n l=true):slT l=Qba n l l.length:=by
 have h1:(slT l).length=l.length:=(Y9 ..).trans (by simp)
 apply List.ext_getElem (by rw [h1,Qfb])
 intro x hx hx'
 have hxl:x<l.length:=by omega
 have hTin:∀k∈Qd l,k∈Qd l∧0≤k:=fun k hk=>⟨hk,(WG hk).1⟩
 have hin0:(List.replicate l.length (-1:Int)).getD x 0=-1:=by rw [QD (by simpa using hxl)];simp
 have e2:(Qba n l l.length)[x]=Qa9 n l x:=by simp [Qba]
 rw [e2,← QD (d:=0) hx,slT,Qa9]
 by_cases cm:(x:Int)∈Qd l
 ·rw [if_pos (frT_mem.2 cm),QiR hxl cm _ _ (by simp) (WZ l) hTin,if_pos cm,hin0,Q0,VG,c1F,Qf,List.foldl_map]
  refine Xz (fun k hk b=>?_) _
  have hk:=List.mem_range.1 hk
  rw [c1T]
  by_cases ck:(k:Int)∈Qd l
  ·rw [if_neg (by simp [ck]),if_neg (fun h=>h.1 (frT_mem.2 ck))]
  ·have hI:=Cp hnet hc cm (j:=(k:Int)) (by omega) ck
   by_cases cj:Q4 l (Qd l) x k
   ·rw [if_pos (by simp [ck,cj]),if_pos ⟨fun h=>ck (frT_mem.1 h),hI.2 cj⟩]
   ·rw [if_neg (by simp [cj]),if_neg (fun h=>cj (hI.1 h.2))]
 ·rw [if_neg (fun h=>cm (frT_mem.1 h)),CK hxl cm _ _ (by simp) hTin,hin0,c2F]
  have hI:∀k∈Qd l,isT n l (swT k x (frT l))=true↔Q4 l (Qd l) k x:=fun k hk=>Cp hnet hc hk (by omega) cm
  rw [Xz (g:=c2T n l x) (fun k hk b=>by
   rw [c2T]
   by_cases cj:Q4 l (Qd l) k x
   ·rw [if_pos cj,if_pos ((hI k hk).2 cj)]
   ·rw [if_neg cj,if_neg (fun h=>cj ((hI k hk).1 h))])]
  refine (Qh2 l).foldl_eq' (fun a ha b hb z=>?_) _
  unfold c2T
  have da:=fun h=>XW hnet ha (j:=(x:Int)) (by omega) cm ((hI a ha).1 h)
  have db:=fun h=>XW hnet hb (j:=(x:Int)) (by omega) cm ((hI b hb).1 h)
  by_cases ca:isT n l (swT a x (frT l))=true
  ·by_cases cb:isT n l (swT b x (frT l))=true
   ·rw [if_pos ca,if_pos cb,if_pos cb,if_pos ca]
    exact QfJ (by have:=da ca;omega) (by have:=db cb;omega)
   ·simp only [if_pos ca,if_neg cb]
  ·by_cases cb:isT n l (swT b x (frT l))=true
   ·simp only [if_neg ca,if_pos cb]
   ·simp only [if_neg ca,if_neg cb]
theorem Qcs {l:List St} {t:List Int} {x:Int}:∀(ks:List Int) (b:Int),(∀k∈ks,Q4 l t k x→0≤wOf l x-wOf l k)→(0≤b∨∃k∈ks,Q4 l t k x)→0≤ks.foldl (fun b k=>if Q4 l t k x then bst b (wOf l x-wOf l k) else b) b
 | [],b,_,h=>by
  rcases h with h | ⟨k,hk,_⟩
  ·exact h
  ·cases hk
 | k::ks,b,hd,h=>by
  rw [qB]
  refine Qcs ks _ (fun y hy=>hd y (qD _ hy)) ?_
  by_cases c:Q4 l t k x
  ·have:=hd k (qG ..) c
   rw [if_pos c]
   left
   unfold bst
   split <;> omega
  ·rw [if_neg c]
   rcases h with h | ⟨y,hy,hj⟩
   ·exact .inl h
   ·rcases List.mem_cons.1 hy with e | e
    ·exact absurd (e▸hj) c
    ·exact .inr ⟨y,e,hj⟩
theorem Qak {n:Int} {l:List St} (hnet:Wh n l=true) (hc:WJ n l=true) {x:Nat} (hx:x<l.length) (hxt:(x:Int)∉Qd l):0≤(slT l).getD x 0:=by
 rw [slT,CK hx hxt _ _ (by simp) (fun k hk=>⟨hk,(WG hk).1⟩)]
 obtain ⟨k,hk,hj⟩:=QbY hnet hc (j:=(x:Int)) (by omega) hxt
 exact Qcs _ _ (fun k hk hj=>by have:=XW hnet hk (j:=(x:Int)) (by omega) hxt hj;omega) (.inr ⟨k,hk,hj⟩)
theorem QfK {α:Type} (p:α→Prop) [DecidablePred p] (d:α→Int):∀(s:List α),(∀x∈s,p x→0≤d x) →
  (s.foldl (fun b x=>if p x then bst b (d x) else b) (-1)=-1∧∀x∈s,¬p x)∨(0≤s.foldl (fun b x=>if p x then bst b (d x) else b) (-1)∧(∃x∈s,p x∧s.foldl (fun b x=>if p x then bst b (d x) else b) (-1)=d x)∧∀x∈s,p x→s.foldl (fun b x=>if p x then bst b (d x) else b) (-1)≤d x):=by
 have key:∀(m:Nat) (s:List α),s.length=m→(∀x∈s,p x→0≤d x) →
   (s.foldl (fun b x=>if p x then bst b (d x) else b) (-1)=-1∧∀x∈s,¬p x)∨(0≤s.foldl (fun b x=>if p x then bst b (d x) else b) (-1)∧(∃x∈s,p x∧s.foldl (fun b x=>if p x then bst b (d x) else b) (-1)=d x)∧∀x∈s,p x→s.foldl (fun b x=>if p x then bst b (d x) else b) (-1)≤d x):=by
  intro m
  induction m with
  | zero=>intro s h _;rw [List.length_eq_zero_iff.1 h];exact .inl ⟨rfl,fun x hx=>by cases hx⟩
  | succ m ih =>
   intro s h hd
   rcases List.eq_nil_or_concat s with e | ⟨s',x,e⟩
   ·rw [e] at h;simp at h
   ·subst e
    rw [List.concat_eq_append] at h hd ⊢
    rw [List.length_append,List.length_singleton] at h
    have ih:=ih s' (by omega) fun y hy=>hd y (qQ _ hy)
    rw [qU,qB,List.foldl_nil]
    generalize s'.foldl (fun b x=>if p x then bst b (d x) else b) (-1)=b at *
    by_cases c:p x
    ·have hx:=hd x (by simp) c
     rw [if_pos c]
     right
     unfold bst
     by_cases q:b<0∨d x<b
     ·rw [if_pos q]
      refine ⟨hx,⟨x,by simp,c,rfl⟩,fun y hy hp=>?_⟩
      rcases List.mem_append.1 hy with r | r
      ·rcases ih with ⟨_,i2⟩ | ⟨i1,_,i3⟩
       ·exact absurd hp (i2 y r)
       ·have:=i3 y r hp;omega
      ·rw [List.mem_singleton.1 r];exact Int.le_refl _
     ·rw [if_neg q]
      rcases ih with ⟨i1,_⟩ | ⟨i1,⟨y,y1,y2,y3⟩,i3⟩
      ·exact absurd (.inl (by omega)) q
      ·refine ⟨i1,⟨y,qQ _ y1,y2,y3⟩,fun z hz hp=>?_⟩
       rcases List.mem_append.1 hz with r | r
       ·exact i3 z r hp
       ·rw [List.mem_singleton.1 r];omega
    ·rw [if_neg c]
     rcases ih with ⟨i1,i2⟩ | ⟨i1,⟨y,y1,y2,y3⟩,i3⟩
     ·refine .inl ⟨i1,fun z hz=>?_⟩
      rcases List.mem_append.1 hz with r | r
      ·exact i2 z r
      ·rw [List.mem_singleton.1 r];exact c
     ·refine .inr ⟨i1,⟨y,qQ _ y1,y2,y3⟩,fun z hz hp=>?_⟩
      rcases List.mem_append.1 hz with r | r
      ·exact i3 z r hp
      ·rw [List.mem_singleton.1 r] at hp;exact absurd hp c
 exact fun s=>key s.length s rfl
section
variable {n:Int} {l:List St} (hnet:Wh n l=true) (hc:WJ n l=true)
include hnet hc
theorem Qdc {k:Nat} (hkl:k<l.length) (hk:(k:Int)∉Qd l) :
  0≤(slT l).getD k 0∧(∃x∈Qd l,Q4 l (Qd l) x k∧(slT l).getD k 0=wOf l k-wOf l x)∧∀x∈Qd l,Q4 l (Qd l) x k→(slT l).getD k 0≤wOf l k-wOf l x:=by
 have hTin:∀x∈Qd l,x∈Qd l∧0≤x:=fun x hx=>⟨hx,(WG hx).1⟩
 have hin0:(List.replicate l.length (-1:Int)).getD k 0=-1:=by rw [QD (by simpa using hkl)];simp
 have e:(slT l).getD k 0=(Qd l).foldl (fun b x=>if Q4 l (Qd l) x k then bst b (wOf l k-wOf l x) else b) (-1):=by
  rw [slT,CK hkl hk _ _ (by simp) hTin,hin0]
 rw [e]
 have h:=QfK (fun x:Int=>Q4 l (Qd l) x k) (fun x=>wOf l k-wOf l x) (Qd l) fun x hx hJ=>by
  have:=XW hnet hx (j:=(k:Int)) (by omega) hk hJ
  omega
 rcases h with ⟨_,h2⟩ | h
 ·exfalso
  obtain ⟨x,hx,hJ⟩:=QbY hnet hc (j:=(k:Int)) (by omega) hk
  exact h2 x hx hJ
 ·exact h
end
end Go.Proofs.Ytiejmoglooaalaa
end
section
open Go Go.HL
namespace Go.Proofs.Ytiejmoglooaalaa
set_option maxRecDepth 100000
set_option linter.unusedSectionVars false
open Go.Proofs.Try renaming prog → Tp
open Go.HL.HV renaming undef → Ud
section
variable {F:FuncId→Option (List HV→Option HV)}
noncomputable def B15:Code:=Try.f15.body.getD .skip
abbrev ZV (v0 v1 v4 v5 v6 v7 v8 v9 v10 v11 v12 v13 v38 v39 v40:HV):Env:=[(0,v0),(1,v1),(4,v4),(5,v5),(6,v6),(7,v7),(8,v8),(9,v9),(10,v10),(11,v11),(12,v12),(13,v13),(38,v38),(39,v39),(40,v40)]
end
abbrev e15 (n:Int) (ls:List HV) (u5 u6 u7 u8 u9 u10 u11 u12 u13 u14:HV):Env:=ZV (.i n) (.g ls) (.i 0) (.i 0) (.q 0) u5 u6 u7 u8 u9 u10 u11 u12 u13 u14
section
variable {F:FuncId→Option (List HV→Option HV)}
variable (N:Nat) (n:Int) (ls:List HV)
include N n ls
theorem Qqq:RU F 15 2 B15 [(0,.i n),(1,.g ls)] [] .normal (ZV (.i n) (.g ls) (.i 0) (.i 0) Ud Ud Ud Ud Ud Ud Ud Ud Ud Ud Ud) [] :=
 hx N 60 []
end
section
variable {F:FuncId→Option (List HV→Option HV)}
variable (N:Nat) (n:Int) (ls:List HV)
include N n ls
theorem Qqr {H0:Heap} {a0:HV} {H1:Heap} {H2:Heap} (g0:CN F N 39 [.i n,.g ls] [] (.tuple [.N n ls,.bool true]) H0) (g1:some (Wt (.agg [.i 0,.imm .lit 0 []]) H0)=some (a0,H1)) (g2:ST H1 66 (a0) (.N n ls) H2) (y6 y7 y8 y9 y10 y11 y12 y13 y38 y39 y40:HV:=Ud): RU F 15 6 B15 (ZV (.i n) (.g ls) (.i 0) (.i 0) y6 y7 y8 y9 y10 y11 y12 y13 y38 y39 y40) [] .normal (ZV (.i n) (.g ls) (.i 0) (.i 0) a0 (.bool true) y8 y9 y10 y11 y12 y13 y38 y39 y40) H2 :=
 hx N 60 [jC 1 2 g0,jR 1 6 g1,jS 1 7 g2]
theorem Qqs {H0:Heap} {a0:HV} {H1:Heap} {H2:Heap} (g0:CN F N 39 [.i n,.g ls] [] (.tuple [.N n ls,.bool false]) H0) (g1:some (Wt (.agg [.i 0,.imm .lit 0 []]) H0)=some (a0,H1)) (g2:ST H1 66 (a0) (.N n ls) H2) (y6 y7 y8 y9 y10 y11 y12 y13 y38 y39 y40:HV:=Ud): RU F 15 6 B15 (ZV (.i n) (.g ls) (.i 0) (.i 0) y6 y7 y8 y9 y10 y11 y12 y13 y38 y39 y40) [] .normal (ZV (.i n) (.g ls) (.i 0) (.i 0) a0 (.bool false) y8 y9 y10 y11 y12 y13 y38 y39 y40) H2 :=
 hx N 60 [jC 1 2 g0,jR 1 6 g1,jS 1 7 g2]
theorem Qh3 (H:Heap) (y8 y9 y10 y11 y12 y13 y38 y39 y40:HV:=Ud): RU F 15 14 B15 (e15 n ls (.bool true) y8 y9 y10 y11 y12 y13 y38 y39 y40) H .normal (e15 n ls (.bool true) y8 y9 y10 y11 y12 y13 y38 y39 y40) H :=
 hx N 60 []
theorem Qh4 (H:Heap) (y8 y9 y10 y11 y12 y13 y38 y39 y40:HV:=Ud): RU F 15 14 B15 (e15 n ls (.bool false) y8 y9 y10 y11 y12 y13 y38 y39 y40) H .ret (ZV (.i n) (.g ls) (.i 0) (.i 2) (.q 0) (.bool false) y8 y9 y10 y11 y12 y13 y38 y39 y40) H :=
 hx N 60 []
theorem Qqt (H:Heap) (ob m mb:Nat) {H0:Heap} (g0:LD H 66 (.q 0) (.N n ls)) (g1:CM F 43 [.N n ls] H (.tuple [.s ob m,.map mb,.bool true]) H0) (y8 y9 y10 y11 y12 y13 y38 y39 y40:HV:=Ud): RU F 15 30 B15 (e15 n ls (.bool true) y8 y9 y10 y11 y12 y13 y38 y39 y40) H .normal (e15 n ls (.bool true) (.s ob m) (.map mb) y10 y11 y12 y13 y38 y39 y40) H0 :=
 hx N 60 [jO 4 0 H g0,jD 4 1 g1]
theorem Qqu (H:Heap) (ob m mb:Nat) {H0:Heap} (g0:LD H 66 (.q 0) (.N n ls)) (g1:CM F 43 [.N n ls] H (.tuple [.s ob m,.nilmap,.bool false]) H0) (y8 y9 y10 y11 y12 y13 y38 y39 y40:HV:=Ud): RU F 15 30 B15 (e15 n ls (.bool true) y8 y9 y10 y11 y12 y13 y38 y39 y40) H .normal (e15 n ls (.bool false) (.s ob m) .nilmap y10 y11 y12 y13 y38 y39 y40) H0 :=
 hx N 60 [jO 4 0 H g0,jD 4 1 g1]
theorem Qh5 (H:Heap) (ob m mb:Nat) {n0:Int} (g0:Uq Tp H 72 (.map mb)=some (.i n0)) (g1:n0=(ls.length:Int)) (y10 y11 y12 y13 y38 y39 y40:HV:=Ud): RU F 15 62 B15 (e15 n ls (.bool true) (.s ob m) (.map mb) y10 y11 y12 y13 y38 y39 y40) H .ret (ZV (.i n) (.g ls) (.i 0) (.i 6) (.q 0) (.bool true) (.s ob m) (.map mb) y10 y11 y12 y13 y38 y39 y40) H :=
 hx N 60 [jO 5 4 H g0,jT 5 7 H g1]
theorem Qh6 (H:Heap) (ob m mb:Nat) {n0:Int} (g0:Uq Tp H 72 (.map mb)=some (.i n0)) (g1:¬(n0=(ls.length:Int))) (y10 y11 y12 y13 y38 y39 y40:HV:=Ud): RU F 15 62 B15 (e15 n ls (.bool true) (.s ob m) (.map mb) y10 y11 y12 y13 y38 y39 y40) H .normal (e15 n ls (.bool true) (.s ob m) (.map mb) y10 y11 y12 y13 y38 y39 y40) H :=
 hx N 60 [jO 5 4 H g0,jF 5 7 H g1]
theorem Qh7 (H:Heap) (ob m mb:Nat) (y10 y11 y12 y13 y38 y39 y40:HV:=Ud): RU F 15 62 B15 (e15 n ls (.bool false) (.s ob m) .nilmap y10 y11 y12 y13 y38 y39 y40) H .ret (ZV (.i n) (.g ls) (.i 0) (.i 6) (.q 0) (.bool false) (.s ob m) .nilmap y10 y11 y12 y13 y38 y39 y40) H :=
 hx N 60 []
theorem Qqv (H:Heap) (ob m mb:Nat) (y10 y11 y12 y13 y38 y39 y40:HV:=Ud): RU F 15 126 B15 (e15 n ls (.bool true) (.s ob m) (.map mb) y10 y11 y12 y13 y38 y39 y40) H .normal (e15 n ls (.bool true) (.s ob m) (.map mb) (.i (-1)) y11 y12 y13 y38 y39 y40) H :=
 hx N 60 []
theorem Qqw (H:Heap) (ob m mb:Nat) (x:Int) (y11 y12 y13 y38 y39 y40:HV:=Ud): RU F 15 508 B15 (e15 n ls (.bool true) (.s ob m) (.map mb) (.i x) y11 y12 y13 y38 y39 y40) H .normal (e15 n ls (.bool true) (.s ob m) (.map mb) (.i x) y11 y12 y13 (.s ob m) (.n m) (.i 0)) H :=
 hx N 60 []
theorem Qqx (H:Heap) (ob m mb:Nat) (x:Int) (i:Nat) (y:Int) (g0:(i:Int)<(m:Int)) (g1:IS 24 ob m i) (g2:LD H 3 (.ptr ob i 0 m) (.i y)) (g3:lkH Tp 72 H mb (.n i)=some (.bool true,H)) (y7 y8 y11 y12 y13:HV:=Ud): RU F 15 2036 B15 (e15 n ls y7 y8 (.map mb) (.i x) y11 y12 y13 (.s ob m) (.n m) (.n i)) H .normal (e15 n ls y7 y8 (.map mb) (.i x) (.n i) (.i y) y13 (.s ob m) (.n m) (.i (qA.wrap ((i:Int)+1)))) H :=
 hx N 60 [jT 9 0 H g0,jO 10 1 H g1,jO 10 2 H g2,jR 11 2 g3]
theorem Qqy (H:Heap) (ob m mb:Nat) (x:Int) (i:Nat) (y:Int) (g0:(i:Int)<(m:Int)) (g1:IS 24 ob m i) (g2:LD H 3 (.ptr ob i 0 m) (.i y)) (g3:lkH Tp 72 H mb (.n i)=some (.bool false,H)) (g4:x<0) (y7 y8 y11 y12 y13:HV:=Ud): RU F 15 2036 B15 (e15 n ls y7 y8 (.map mb) (.i x) y11 y12 y13 (.s ob m) (.n m) (.n i)) H .normal (e15 n ls y7 y8 (.map mb) (.i y) (.n i) (.i y) y13 (.s ob m) (.n m) (.i (qA.wrap ((i:Int)+1)))) H :=
 hx N 60 [jT 9 0 H g0,jO 10 1 H g1,jO 10 2 H g2,jR 11 2 g3,jT 11 6 H g4]
theorem Qqz (H:Heap) (ob m mb:Nat) (x:Int) (i:Nat) (y:Int) (g0:(i:Int)<(m:Int)) (g1:IS 24 ob m i) (g2:LD H 3 (.ptr ob i 0 m) (.i y)) (g3:lkH Tp 72 H mb (.n i)=some (.bool false,H)) (g4:¬(x<0)) (g5:y<x) (y7 y8 y11 y12 y13:HV:=Ud): RU F 15 2036 B15 (e15 n ls y7 y8 (.map mb) (.i x) y11 y12 y13 (.s ob m) (.n m) (.n i)) H .normal (e15 n ls y7 y8 (.map mb) (.i y) (.n i) (.i y) y13 (.s ob m) (.n m) (.i (qA.wrap ((i:Int)+1)))) H :=
 hx N 60 [jT 9 0 H g0,jO 10 1 H g1,jO 10 2 H g2,jR 11 2 g3,jF 11 6 H g4,jT 11 10 H g5]
theorem QqA (H:Heap) (ob m mb:Nat) (x:Int) (i:Nat) (y:Int) (g0:(i:Int)<(m:Int)) (g1:IS 24 ob m i) (g2:LD H 3 (.ptr ob i 0 m) (.i y)) (g3:lkH Tp 72 H mb (.n i)=some (.bool false,H)) (g4:¬(x<0)) (g5:¬(y<x)) (y7 y8 y11 y12 y13:HV:=Ud): RU F 15 2036 B15 (e15 n ls y7 y8 (.map mb) (.i x) y11 y12 y13 (.s ob m) (.n m) (.n i)) H .normal (e15 n ls y7 y8 (.map mb) (.i x) (.n i) (.i y) y13 (.s ob m) (.n m) (.i (qA.wrap ((i:Int)+1)))) H :=
 hx N 60 [jT 9 0 H g0,jO 10 1 H g1,jO 10 2 H g2,jR 11 2 g3,jF 11 6 H g4,jF 11 10 H g5]
theorem QqB (H:Heap) (ob m mb:Nat) (x:Int) (i:Nat) (y:Int) (g0:¬((i:Int)<(m:Int))) (y7 y8 y11 y12 y13:HV:=Ud): RU F 15 2036 B15 (e15 n ls y7 y8 (.map mb) (.i x) y11 y12 y13 (.s ob m) (.n m) (.n i)) H (.exit 0) (e15 n ls y7 y8 (.map mb) (.i x) y11 y12 y13 (.s ob m) (.n m) (.n i)) H :=
 hx N 60 [jF 9 0 H g0]
theorem QqC (H:Heap) (ob m mb:Nat) (x:Int) (tb k:Nat) {H0:Heap} (g0:LD H 66 (.q 0) (.N n ls)) (g1:CM F 40 [.N n ls] H (.tuple [.s tb k,.bool true]) H0) (y7 y8 y11 y12 y13 y38 y39 y40:HV:=Ud): RU F 15 510 B15 (e15 n ls y7 y8 (.map mb) (.i x) y11 y12 y13 y38 y39 y40) H .normal (e15 n ls y7 y8 (.map mb) (.i x) y11 y12 (.s tb k) y38 y39 y40) H0 :=
 hx N 60 [jO 14 0 H g0,jD 14 1 g1]
theorem QqD (H:Heap) (ob m mb:Nat) (x:Int) (tb k:Nat) (z:Int) {H0:Heap} (g0:LD H 66 (.q 0) (.N n ls)) (g1:CM F 42 [.N n ls,.s tb k] H (.i z) H0) (y7 y8 y11 y12 y38 y39 y40:HV:=Ud): RU F 15 511 B15 (e15 n ls y7 y8 (.map mb) (.i x) y11 y12 (.s tb k) y38 y39 y40) H .ret (ZV (.i n) (.g ls) (.i (qA.wrap (z+x))) (.i 0) (.q 0) y7 y8 (.map mb) (.i x) y11 y12 (.s tb k) y38 y39 y40) H0 :=
 hx N 60 [jO 15 0 H g0,jD 15 2 g1]
end
end Go.Proofs.Ytiejmoglooaalaa
end
section
open Go Go.HL
namespace Go.Proofs.Ytiejmoglooaalaa
set_option linter.unusedSectionVars false
open Go.Proofs.Try renaming prog → Tp
open Go.HL.HV renaming undef → Ud
def mrT (l:List St):Nat→Int
 | 0=>-1
 | k+1=>if (k:Int)∉Qd l∧(mrT l k<0∨(slT l).getD k 0<mrT l k) then (slT l).getD k 0 else mrT l k
def seE (n:Int) (l:List St):Int:=if Wh n l=true then (if WJ n l=true∧(Qd l).length≠l.length then 0 else 6) else 2
def seT (n:Int) (l:List St):Int:=if seE n l=0 then qA.wrap (wgt l (Qd l)+mrT l l.length) else 0
def Qal:List HV→Option HV:=f2 kI kS fun n l=>if l.length≤500 then some (.tuple [.int .i64 (seT n l),.int .i64 (seE n l)]) else none
theorem Qct:Try.f15.results.toList=[.tmp 4,.tmp 5]:=by kernel_rfl
def Zp:FuncId→Option (List HV→Option HV):=fun g=>if g==52 then some Zv else if g==43 then some Qb9 else if g==40 then some Yl else if g==42 then some U2 else none
theorem Qh8 (n:Nat):Ql Tp (Qs Tp (plF Zp) n):=Qz _ (fun g f h=>by
 unfold Zp at h
 split at h
 ·rename_i hg;cases h;rw [eq_of_beq hg];exact VV
 split at h
 ·rename_i hg;cases h;rw [eq_of_beq hg];exact Qe8
 split at h
 ·rename_i hg;cases h;rw [eq_of_beq hg];exact XS
 split at h
 ·rename_i hg;cases h;rw [eq_of_beq hg];exact Ge
 ·cases h) n
theorem QqE:NwF Zp:=⟨by kernel_rfl,by kernel_rfl,by kernel_rfl,by kernel_rfl,by kernel_rfl⟩
theorem QrG {H:Heap} {b:Nat} {ks:List Int} (h:H[b]?=some (bM ks)):Uq Tp H 72 (.map b)=some (.int .i64 (ks.length:Int)):=by
 rw [bM] at h
 simp only [Uq,u72,h,qH]
theorem Qdd:QP Tp 15 Qal:=by
 refine Qn (pol:=plF Zp) (fn:=Try.f15) (cd:=B15) Qh Qh8 (by kernel_rfl) (by kernel_rfl) (Zh Zp _ _ (by kernel_rfl)) (by kernel_rfl) ?_
 intro args res h
 obtain ⟨n,l,rfl,hq⟩:=Zc h
 split at hq
 case isFalse=>cases hq
 rename_i hl
 cases hq
 have a:=Qqq (F:=Zp) 0 n (l.map Qa)
 obtain ⟨N0,c39⟩:=CallsTo.from (Cf QqE (H:=[]) (qE _) n (l:=l) (by omega))
 have six:seE n l≠0→seT n l=0:=fun h=>if_neg h
 cases hnet:Wh n l with
 | false =>
  rw [hnet] at c39
  have b:=Qqs (F:=Zp) N0 n (l.map Qa) c39 rfl stN
  have c:=Qh4 (F:=Zp) 0 n (l.map Qa) [bN n l]
  refine ⟨_,_,_,.tuple [.int .i64 0,.int .i64 2],sq (a) (sq (b) (sqo (c) (c:=sn 7 B15) (b:=sn 15 B15)) (c:=sn 3 B15)) (c:=B15),by simp,by simp only [Qc,Qct];rfl,?_⟩
  have e:seE n l=2:=if_neg (by rw [hnet];simp)
  rw [six (by omega),e];rfl
 | true =>
  rw [hnet] at c39
  obtain ⟨⟨n1,n2⟩,n3,he,hw⟩:=Qx hnet
  have heB:=Vy he (by omega)
  have hwB:wB l=true:=wB_iff.2 fun s hs=>by have:=hw s hs;omega
  have b:=Qqr (F:=Zp) N0 n (l.map Qa) c39 rfl stN
  have c:=Qh3 (F:=Zp) 0 n (l.map Qa) [bN n l]
  have c43:=at1 (pol':=plF Zp) (g:=43) (c1:=kN) (f:=fun p=>if Wh p.1 p.2=true then some (if WJ p.1 p.2=true then .tuple [.own 1 ((slT p.2).map Qb),.omap ((Qd p.2).map Qb) ((Qd p.2).map fun _=>HV.bool true),.bool true] else .tuple [.own 1 [],.nilmap,.bool false]) else none) (H:=[bN n l]) (by kernel_rfl) (ShN _ n l) (if_pos hnet)
  simp only at c43
  have hsl:=Qhp l
  by_cases cn:WJ n l=true
  ·rw [if_pos cn,Qe9,hsl] at c43
   have d:=Qqt (F:=Zp) 0 n (l.map Qa) [bN n l] 1 l.length 2 (KL rfl) c43
   by_cases ce:(Qd l).length=l.length
   ·have e:=Qh5 (F:=Zp) 0 n (l.map Qa) [bN n l,bI (slT l),bM (Qd l)] 1 l.length 2 (QrG rfl) (by rw [qH];omega)
    refine ⟨_,_,_,.tuple [.int .i64 0,.int .i64 6],sq (a) (sq (b) (sq (c) (sq (d) (sqo (e) (c:=sn 31 B15) (b:=sn 63 B15)) (c:=sn 15 B15)) (c:=sn 7 B15)) (c:=sn 3 B15)) (c:=B15),by simp,by simp only [Qc,Qct];rfl,?_⟩
    have e6:seE n l=6:=by rw [seE,if_pos hnet,if_neg fun h=>h.2 ce]
    rw [six (by omega),e6];rfl
   ·have e:=Qh6 (F:=Zp) 0 n (l.map Qa) [bN n l,bI (slT l),bM (Qd l)] 1 l.length 2 (QrG rfl) (by rw [qH];omega)
    have e0:seE n l=0:=by rw [seE,if_pos hnet,if_pos ⟨cn,ce⟩]
    obtain ⟨H2,hH2⟩:∃H2,H2=[bN n l,bI (slT l),bM (Qd l)]:=⟨_,rfl⟩
    have f:=Qqv (F:=Zp) 0 n (l.map Qa) H2 1 l.length 2
    have g:=Qqw (F:=Zp) 0 n (l.map Qa) H2 1 l.length 2 (-1)
    obtain ⟨x,E',H',r,rfl,rfl,rfl⟩:=W2 (pol':=plF Zp) (f:=15) (b:=sn 2036 B15) (c:=sn 1018 B15)
     (I:=fun k e H=>e=(ZV (.i n) (.g (l.map Qa)) (.i 0) (.i 0) (.q 0) Ud Ud (.map 2) (.i (mrT l k)) Ud Ud Ud (.s 1 l.length) (.i (l.length:Int)) (.i (k:Int)))∧H=H2) (Q:=fun x E' H'=>x=.exit 0∧E'=(ZV (.i n) (.g (l.map Qa)) (.i 0) (.i 0) (.q 0) Ud Ud (.map 2) (.i (mrT l l.length)) Ud Ud Ud (.s 1 l.length) (.i (l.length:Int)) (.i ((l.length:Nat):Int)))∧H'=H2) l.length
     (by
      rintro k hk e H ⟨rfl,rfl⟩
      have ix:=ZT (b:=1) (cap:=none) u24 z3 hk
      have ld:=QR (H:=H) (k:=1) (o:=slT l) (by rw [hH2];rfl) (y:=k) (by omega)
      rw [hsl] at ld
      have lk:=QoH (H:=H) (b:=2) (ks:=Qd l) (by rw [hH2];rfl) (k:Int)
      have ew:qA.wrap ((k:Int)+1)=((k+1:Nat):Int):=by rw [QI (by omega) (by omega)];omega
      have es:mrT l (k+1)=if (k:Int)∉Qd l∧(mrT l k<0∨(slT l).getD k 0<mrT l k) then (slT l).getD k 0 else mrT l k:=rfl
      rw [es]
      have fin:∀{E0:Env} {v:Int},RT (plF Zp) 15 (sn 2036 B15) ((ZV (.i n) (.g (l.map Qa)) (.i 0) (.i 0) (.q 0) Ud Ud (.map 2) (.i (mrT l k)) Ud Ud Ud (.s 1 l.length) (.i (l.length:Int)) (.i (k:Int)))) H .normal E0 H→Qy (plF Zp) 15 (sn 2036 B15) E0=(ZV (.i n) (.g (l.map Qa)) (.i 0) (.i 0) (.q 0) Ud Ud (.map 2) (.i (v)) Ud Ud Ud (.s 1 l.length) (.i (l.length:Int)) (.i ((k+1:Nat):Int)))→∃E0 H1,RT (plF Zp) 15 (sn 2036 B15) ((ZV (.i n) (.g (l.map Qa)) (.i 0) (.i 0) (.q 0) Ud Ud (.map 2) (.i (mrT l k)) Ud Ud Ud (.s 1 l.length) (.i (l.length:Int)) (.i (k:Int)))) H .normal E0 H1∧Qy (plF Zp) 15 (sn 2036 B15) E0=(ZV (.i n) (.g (l.map Qa)) (.i 0) (.i 0) (.q 0) Ud Ud (.map 2) (.i (v)) Ud Ud Ud (.s 1 l.length) (.i (l.length:Int)) (.i ((k+1:Nat):Int)))∧gc H.length (Wc (Qy (plF Zp) 15 (sn 2036 B15) E0)) H1=H:=fun s e=>⟨_,_,s,e,QC _ rfl⟩
      by_cases cT:(k:Int)∈Qd l
      ·rw [decide_eq_true cT] at lk
       rw [if_neg fun h=>h.1 cT]
       have s:=Qqx (F:=Zp) 0 n (l.map Qa) H 1 l.length 2 (mrT l k) k _ (by omega) ix ld lk
       rw [ew] at s
       exact fin s (by kernel_rfl)
      ·rw [decide_eq_false cT] at lk
       by_cases c0:mrT l k<0
       ·rw [if_pos ⟨cT,.inl c0⟩]
        have s:=Qqy (F:=Zp) 0 n (l.map Qa) H 1 l.length 2 (mrT l k) k _ (by omega) ix ld lk c0
        rw [ew] at s
        exact fin s (by kernel_rfl)
       ·by_cases c1:(slT l).getD k 0<mrT l k
        ·rw [if_pos ⟨cT,.inr c1⟩]
         have s:=Qqz (F:=Zp) 0 n (l.map Qa) H 1 l.length 2 (mrT l k) k _ (by omega) ix ld lk c0 c1
         rw [ew] at s
         exact fin s (by kernel_rfl)
        ·rw [if_neg fun h=>h.2.elim c0 c1]
         have s:=QqA (F:=Zp) 0 n (l.map Qa) H 1 l.length 2 (mrT l k) k _ (by omega) ix ld lk c0 c1
         rw [ew] at s
         exact fin s (by kernel_rfl))
     (by
      rintro e H ⟨rfl,rfl⟩
      have s:=QqB (F:=Zp) 0 n (l.map Qa) H 1 l.length 2 (mrT l l.length) l.length 0 (by omega)
      exact ⟨_,_,_,s,by simp,rfl,rfl,rfl⟩)
     (by kernel_rfl) (by rintro k e H ⟨rfl,_⟩;kernel_rfl) (e:=(ZV (.i n) (.g (l.map Qa)) (.i 0) (.i 0) (.q 0) Ud Ud (.map 2) (.i (-1)) Ud Ud Ud (.s 1 l.length) (.i (l.length:Int)) (.i (0:Int)))) (H:=H2) ⟨rfl,rfl⟩
    rw [hH2] at f g r
    have c40:=at1 (pol':=plF Zp) (g:=40) (c1:=kN) (f:=fun p=>if Gk p.1 p.2 then some (.tuple [.own 1 ((Qd p.2).map Qb),.bool (WJ p.1 p.2)]) else none) (H:=[bN n l,bI (slT l),bM (Qd l)]) (by kernel_rfl) (ShN _ n l) (if_pos ⟨heB,by show l.length≤900;omega,by show 0≤n;omega,by show n≤1000;omega⟩)
    rw [KK] at c40
    simp only at c40
    rw [cn] at c40
    have hh:=QqC (F:=Zp) 0 n (l.map Qa) [bN n l,bI (slT l),bM (Qd l)] 1 l.length 2 (mrT l l.length) 3 (Qd l).length (y38:=.s 1 l.length) (y39:=.i (l.length:Int)) (y40:=.i (l.length:Int)) (KL rfl) c40
    have htl:=(Qd l).length
    have hfl:=Yn l
    have hfle:=Ym l
    have c42:=at2 (pol':=plF Zp) (g:=42) (c1:=kN) (c2:=kL) (f:=fun p t=>if inR p.2.length t=true∧wB p.2=true∧t.length≤1000 then some (.int .i64 (wgt p.2 t)) else none) (H:=[bN n l,bI (slT l),bM (Qd l)]++[bI (Qd l)]) (v2:=.sl 3 0 (Qd l).length none (Qd l).length 1) (by kernel_rfl) (ShN _ n l) (Zo (l:=Qd l) rfl rfl) (if_pos ⟨inR_iff.2 fun k hk=>WG hk,hwB,by show (Qd l).length≤1000;omega⟩)
    have z:=QqD (F:=Zp) 0 n (l.map Qa) ([bN n l,bI (slT l),bM (Qd l)]++[bI (Qd l)]) 1 l.length 2 (mrT l l.length) 3 (Qd l).length (wgt l (Qd l)) (y38:=.s 1 l.length) (y39:=.i (l.length:Int)) (y40:=.i (l.length:Int)) (KL rfl) c42
    refine ⟨_,_,_,.tuple [.int .i64 (qA.wrap (wgt l (Qd l)+mrT l l.length)),.int .i64 0],sq (a) (sq (b) (sq (c) (sq (d) (sq (e) (sq (f) (sq (sq (g) (bke (c:=sn 509 B15) (lpi (e0:=(ZV (.i n) (.g (l.map Qa)) (.i 0) (.i 0) (.q 0) (.bool true) (.s 1 l.length) (.map 2) (.i (-1)) Ud Ud Ud (.s 1 l.length) (.i (l.length:Int)) (.i (0:Int)))) r (b:=sn 2036 B15))) (c:=sn 254 B15)) (sq (hh) (z) (c:=sn 255 B15)) (c:=sn 127 B15)) (c:=sn 63 B15)) (c:=sn 31 B15)) (c:=sn 15 B15)) (c:=sn 7 B15)) (c:=sn 3 B15)) (c:=B15),by simp,by simp only [Qc,Qct];rfl,?_⟩
    rw [seT,e0,if_pos rfl];rfl
  ·rw [if_neg cn,Qfa] at c43
   have d:=Qqu (F:=Zp) 0 n (l.map Qa) [bN n l] 1 0 0 (KL rfl) c43
   have e:=Qh7 (F:=Zp) 0 n (l.map Qa) ([bN n l]++[bI []]) 1 0 0
   refine ⟨_,_,_,.tuple [.int .i64 0,.int .i64 6],sq (a) (sq (b) (sq (c) (sq (d) (sqo (e) (c:=sn 31 B15) (b:=sn 63 B15)) (c:=sn 15 B15)) (c:=sn 7 B15)) (c:=sn 3 B15)) (c:=B15),by simp,by simp only [Qc,Qct];rfl,?_⟩
   have e6:seE n l=6:=by rw [seE,if_pos hnet,if_neg fun h=>cn h.1]
   rw [six (by omega),e6];rfl
end Go.Proofs.Ytiejmoglooaalaa
end
section
open Go Go.HL Go.HL.Dt
namespace Go.Proofs.Ytiejmoglooaalaa
set_option linter.unusedSectionVars false
open Go.Proofs.Try renaming prog → Tp
open Go.HL.HV renaming undef → Ud
section
variable {n:Int} {l:List St} (hnet:Wh n l=true) (hc:WJ n l=true)
include hnet hc
theorem Qcu:∀k,k≤l.length→(mrT l k=-1∧∀i:Nat,i<k→(i:Int)∈Qd l)∨(0≤mrT l k∧(∃i:Nat,i<k∧(i:Int)∉Qd l∧mrT l k=(slT l).getD i 0)∧∀i:Nat,i<k→(i:Int)∉Qd l→mrT l k≤(slT l).getD i 0)
 | 0,_=>.inl ⟨rfl,fun i h=>by omega⟩
 | k+1,hk=>by
  have ih:=Qcu k (by omega)
  rw [mrT]
  by_cases cT:(k:Int)∈Qd l
  ·rw [if_neg fun h=>h.1 cT]
   rcases ih with ⟨a,b⟩ | ⟨a,⟨i,i1,i2,i3⟩,b⟩
   ·exact .inl ⟨a,fun i hi=>by
     by_cases e:i=k
     ·rw [e];exact cT
     ·exact b i (by omega)⟩
   ·exact .inr ⟨a,⟨i,by omega,i2,i3⟩,fun j hj hjT=>by
     by_cases e:j=k
     ·rw [e] at hjT;exact absurd cT hjT
     ·exact b j (by omega) hjT⟩
  ·have s0:=(Qdc hnet hc (k:=k) (by omega) cT).1
   rcases ih with ⟨a,b⟩ | ⟨a,⟨i,i1,i2,i3⟩,b⟩
   ·rw [if_pos ⟨cT,.inl (by omega)⟩]
    exact .inr ⟨s0,⟨k,by omega,cT,rfl⟩,fun j hj hjT=>by
     by_cases e:j=k
     ·rw [e];exact Int.le_refl _
     ·exact absurd (b j (by omega)) hjT⟩
   ·by_cases c:(slT l).getD k 0<mrT l k
    ·rw [if_pos ⟨cT,.inr c⟩]
     exact .inr ⟨s0,⟨k,by omega,cT,rfl⟩,fun j hj hjT=>by
      by_cases e:j=k
      ·rw [e];exact Int.le_refl _
      ·have:=b j (by omega) hjT;omega⟩
    ·rw [if_neg fun h=>h.2.elim (fun h=>by omega) c]
     exact .inr ⟨a,⟨i,by omega,i2,i3⟩,fun j hj hjT=>by
      by_cases e:j=k
      ·rw [e];omega
      ·exact b j (by omega) hjT⟩
end
end Go.Proofs.Ytiejmoglooaalaa
end
section
open Go Go.HL
namespace Go.Proofs.Ytiejmoglooaalaa
set_option maxRecDepth 100000
set_option linter.unusedSectionVars false
open Go.Proofs.Try renaming prog → Tp
open Go.HL.HV renaming undef → Ud
section
variable {F:FuncId→Option (List HV→Option HV)}
noncomputable def B23:Code:=Try.f23.body.getD .skip
abbrev Js (v0 v1 v4 v5 v6 v7 v8 v9 v10 v11:HV):Env:=[(0,v0),(1,v1),(4,v4),(5,v5),(6,v6),(7,v7),(8,v8),(9,v9),(10,v10),(11,v11)]
end
abbrev e23 (n:Int) (ls:List HV) (fb:Nat) (m:Nat) (u6 u7 u8 u9:HV):Env:=Js (.i n) (.g ls) (.i 0) (.bool false) (.s fb m) (.bool true) u6 u7 u8 u9
section
variable {F:FuncId→Option (List HV→Option HV)}
variable (n:Int) (ls:List HV)
include n ls
theorem QqF:RU F 23 2 B23 [(0,.i n),(1,.g ls)] [] .normal (Js (.i n) (.g ls) (.i 0) (.bool false) Ud Ud Ud Ud Ud Ud) [] :=
 hx 0 60 []
end
section
variable {F:FuncId→Option (List HV→Option HV)}
variable (n:Int) (ls:List HV)
include n ls
theorem QqG (H:Heap) (fb m:Nat) {H0:Heap} (g0:CM F 20 [.i n,.g ls] H (.tuple [.s fb m,.bool true]) H0) (y6 y7 y8 y9 y10 y11:HV:=Ud): RU F 23 6 B23 (Js (.i n) (.g ls) (.i 0) (.bool false) y6 y7 y8 y9 y10 y11) H .normal (e23 n ls fb m y8 y9 y10 y11) H0 :=
 hx 0 60 [jD 1 2 g0]
theorem QqH (H:Heap) (fb m:Nat) (y8 y9 y10 y11:HV:=Ud): RU F 23 14 B23 (e23 n ls fb m y8 y9 y10 y11) H .normal (e23 n ls fb m (.i 1099511627776) y9 y10 y11) H :=
 hx 0 60 []
theorem QqI (H:Heap) (fb m:Nat) (g:Int) (y9 y10 y11:HV:=Ud): RU F 23 60 B23 (e23 n ls fb m (.i g) y9 y10 y11) H .normal (e23 n ls fb m (.i g) (.i 0) y10 y11) H :=
 hx 0 60 []
theorem QqJ (H:Heap) (fb m:Nat) (g:Int) (i:Nat) (g0:(i:Int)<(ls.length:Int)) (y10 y11:HV:=Ud): RU F 23 488 B23 (e23 n ls fb m (.i g) (.n i) y10 y11) H .normal (e23 n ls fb m (.i g) (.n i) y10 y11) H :=
 hx 0 60 [jT 4 3 H g0]
theorem QqK (H:Heap) (fb m:Nat) (g:Int) (i:Nat) (g0:¬((i:Int)<(ls.length:Int))) (y10 y11:HV:=Ud): RU F 23 488 B23 (e23 n ls fb m (.i g) (.n i) y10 y11) H (.exit 0) (e23 n ls fb m (.i g) (.n i) y10 y11) H :=
 hx 0 60 [jF 4 3 H g0]
theorem QqL (H:Heap) (fb m:Nat) (g:Int) (i:Nat) (y10 y11:HV:=Ud): RU F 23 3912 B23 (e23 n ls fb m (.i g) (.n i) y10 y11) H .normal (e23 n ls fb m (.i g) (.n i) (.i 0) y11) H :=
 hx 0 60 []
theorem QqM (H:Heap) (fb m:Nat) (g:Int) (i j wb q:Nat) (x y:Int) {H0:Heap} {H1:Heap} (g0:(j:Int)<(m:Int)) (g1:IS 24 fb m j) (g2:LD H 3 (.ptr fb j 0 m) (.i x)) (g3:CM F 36 [.s fb m,.i x,.n i] H (.s wb q) H0) (g4:CM F 51 [.s fb m,.n i] H0 (.bool true) H1) (y11:HV:=Ud): RU F 23 15652 B23 (e23 n ls fb m (.i g) (.n i) (.n j) y11) H .normal (e23 n ls fb m (.i g) (.n i) (.i (qA.wrap ((j:Int)+1))) (.s wb q)) H1 :=
 hx 0 60 [jT 7 3 H g0,jO 9 3 H g1,jO 9 4 H g2,jD 9 6 g3,jD 10 2 g4]
theorem QqN (H:Heap) (fb m:Nat) (g:Int) (i j wb q:Nat) (x y:Int) {H0:Heap} {H1:Heap} {H2:Heap} {H3:Heap} (g0:(j:Int)<(m:Int)) (g1:IS 24 fb m j) (g2:LD H 3 (.ptr fb j 0 m) (.i x)) (g3:CM F 36 [.s fb m,.i x,.n i] H (.s wb q) H0) (g4:CM F 51 [.s fb m,.n i] H0 (.bool false) H1) (g5:CM F 28 [.i n,.g ls,.s wb q] H1 (.bool true) H2) (g6:CM F 22 [.g ls,.s wb q] H2 (.i y) H3) (y11:HV:=Ud): RU F 23 15652 B23 (e23 n ls fb m (.i g) (.n i) (.n j) y11) H .normal (e23 n ls fb m (.i (min g y)) (.n i) (.i (qA.wrap ((j:Int)+1))) (.s wb q)) H3 :=
 hx 0 60 [jT 7 3 H g0,jO 9 3 H g1,jO 9 4 H g2,jD 9 6 g3,jD 10 2 g4,jD 10 8 g5,jD 11 3 g6]
theorem QqO (H:Heap) (fb m:Nat) (g:Int) (i j wb q:Nat) (x y:Int) {H0:Heap} {H1:Heap} {H2:Heap} (g0:(j:Int)<(m:Int)) (g1:IS 24 fb m j) (g2:LD H 3 (.ptr fb j 0 m) (.i x)) (g3:CM F 36 [.s fb m,.i x,.n i] H (.s wb q) H0) (g4:CM F 51 [.s fb m,.n i] H0 (.bool false) H1) (g5:CM F 28 [.i n,.g ls,.s wb q] H1 (.bool false) H2) (y11:HV:=Ud): RU F 23 15652 B23 (e23 n ls fb m (.i g) (.n i) (.n j) y11) H .normal (e23 n ls fb m (.i g) (.n i) (.i (qA.wrap ((j:Int)+1))) (.s wb q)) H2 :=
 hx 0 60 [jT 7 3 H g0,jO 9 3 H g1,jO 9 4 H g2,jD 9 6 g3,jD 10 2 g4,jD 10 8 g5]
theorem QqP (H:Heap) (fb m:Nat) (g:Int) (i j wb q:Nat) (x y:Int) (g0:¬((j:Int)<(m:Int))) (y11:HV:=Ud): RU F 23 15652 B23 (e23 n ls fb m (.i g) (.n i) (.n j) y11) H (.exit 2) (e23 n ls fb m (.i g) (.n i) (.n j) y11) H :=
 hx 0 60 [jF 7 3 H g0]
theorem QqQ (H:Heap) (fb m:Nat) (g:Int) (i:Nat) (y10 y11:HV:=Ud): RU F 23 979 B23 (e23 n ls fb m (.i g) (.n i) y10 y11) H .normal (e23 n ls fb m (.i g) (.i (qA.wrap ((i:Int)+1))) y10 y11) H :=
 hx 0 60 []
theorem QqR (H:Heap) (fb m:Nat) (g:Int) (g0:g<1099511627776) (y9 y10 y11:HV:=Ud): RU F 23 31 B23 (e23 n ls fb m (.i g) y9 y10 y11) H .ret (Js (.i n) (.g ls) (.i g) (.bool true) (.s fb m) (.bool true) (.i g) y9 y10 y11) H :=
 hx 0 60 [jT 12 2 H g0]
theorem QqS (H:Heap) (fb m:Nat) (g:Int) (g0:¬(g<1099511627776)) (y9 y10 y11:HV:=Ud): RU F 23 31 B23 (e23 n ls fb m (.i g) y9 y10 y11) H .ret (Js (.i n) (.g ls) (.i g) (.bool false) (.s fb m) (.bool true) (.i g) y9 y10 y11) H :=
 hx 0 60 [jF 12 2 H g0]
end
end Go.Proofs.Ytiejmoglooaalaa
end
section
open Go Go.HL
namespace Go.Proofs.Ytiejmoglooaalaa
set_option linter.unusedSectionVars false
open Go.Proofs.Try renaming prog → Tp
open Go.HL.HV renaming undef → Ud
def s3T (n:Int) (l:List St) (i:Nat) (b x:Int):Int:=if (i:Int)∉frT l∧isT n l (swT x i (frT l))=true then min b (wgt l (swT x i (frT l))) else b
def s3F (n:Int) (l:List St) (i:Nat) (b:Int) (t:List Int):Int:=t.foldl (s3T n l i) b
def s3O (n:Int) (l:List St) (m:Nat):Int:=(qF m).foldl (fun b i=>s3F n l i b (frT l)) 1099511627776
theorem Qam (n:Int) (l:List St) (m:Nat):s3O n l (m+1)=s3F n l m (s3O n l m) (frT l):=by rw [s3O,List.range_succ,qU];rfl
theorem QfL (n:Int) (l:List St) (i:Nat) (b:Int) (t:List Int) {j:Nat} (h:j<t.length):s3F n l i b (t.take (j+1))=s3T n l i (s3F n l i b (t.take j)) (t.getD j 0):=by rw [s3F,Q5 h,qU];rfl
def GK:List HV→Option HV:=f2 kI kS fun n l=>if Wh n l=true∧YU n l=true then some (.tuple [.int .i64 (s3O n l l.length),.bool (decide (s3O n l l.length<1099511627776))]) else none
theorem QiS:Try.f23.results.toList=[.tmp 4,.tmp 5]:=by kernel_rfl
def Zq:FuncId→Option (List HV→Option HV):=fun g=>if g==20 then some Y4 else if g==51 then some Qil else if g==36 then some Gr else if g==28 then some QbS else if g==22 then some Yj else none
theorem Qh9 (n:Nat):Ql Tp (Qs Tp (plF Zq) n):=Qz _ (fun g f h=>by
 unfold Zq at h
 split at h
 ·rename_i hg;cases h;rw [eq_of_beq hg];exact Dc
 split at h
 ·rename_i hg;cases h;rw [eq_of_beq hg];exact QkH
 split at h
 ·rename_i hg;cases h;rw [eq_of_beq hg];exact QaY
 split at h
 ·rename_i hg;cases h;rw [eq_of_beq hg];exact QeG
 split at h
 ·rename_i hg;cases h;rw [eq_of_beq hg];exact U3
 ·cases h) n
theorem QrH {n:Int} {l:List St} (hnet:Wh n l=true) {i:Nat} (hi:i<l.length) (g:Int) :
  RT (plF Zq) 23 (sn 7826 B23) ((Js (.i n) (.g (l.map Qa)) (.i 0) (.bool false) (.sl 0 0 (frT l).length none (frT l).length 1) (.bool true) (.i (g)) (.i (i:Int)) (.i (0:Int)) Ud)) [bI (frT l)] (.exit 2) ((Js (.i n) (.g (l.map Qa)) (.i 0) (.bool false) (.sl 0 0 (frT l).length none (frT l).length 1) (.bool true) (.i (s3F n l i g (frT l))) (.i (i:Int)) (.i (((frT l).length:Nat):Int)) Ud)) [bI (frT l)]:=by
 obtain ⟨⟨n1,n2⟩,n3,he,hw⟩:=Qx hnet
 have hfl:=Ym l
 have hwB:wB l=true:=wB_iff.2 fun s hs=>by have:=hw s hs;omega
 have c36:∀o p:Int,∀k,Qs Tp (plF Zq) (k+1) 36 [.sl 0 0 (frT l).length none (frT l).length 1,.int .i64 o,.int .i64 p] [bI (frT l)]=some (.sl 1 0 (swT o p (frT l)).length none (swT o p (frT l)).length 1,[bI (frT l)]++[bI (swT o p (frT l))]):=fun o p=>by
  have:=at3 (pol':=plF Zq) (g:=36) (c1:=kL) (c2:=kI) (c3:=kI) (f:=fun t o p=>if t.length≤400 then some (.own 1 ((swT o p t).map Qb)) else none) (H:=[bI (frT l)]) (by kernel_rfl) (Zo (b:=0) (l:=frT l) rfl rfl) (ShI _ o) (ShI _ p) (if_pos (by omega))
  rw [Wz] at this
  exact this
 have c28:∀o p:Int,∀k,Qs Tp (plF Zq) (k+1) 28 [.int .i64 n,.imm .arg 3 (l.map Qa),.sl 1 0 (swT o p (frT l)).length none (swT o p (frT l)).length 1] ([bI (frT l)]++[bI (swT o p (frT l))])=some (.bool (isT n l (swT o p (frT l))),[bI (frT l)]++[bI (swT o p (frT l))]):=fun o p=>by
  have hsl:=Qca o p (frT l)
  exact at3 (pol':=plF Zq) (g:=28) (c1:=kI) (c2:=kS) (c3:=kL) (f:=fun n l t=>if (0≤n∧n≤16)∧Ju n l=true∧t.length≤500∧l.length≤500 then some (.bool (isT n l t)) else none) (H:=[bI (frT l)]++[bI (swT o p (frT l))]) (by kernel_rfl) (ShI _ n) (Jf _ l) (Zo (b:=1) rfl rfl) (if_pos ⟨by omega,he,by omega,by omega⟩)
 have c22:∀o p:Int,isT n l (swT o p (frT l))=true→∀k,Qs Tp (plF Zq) (k+1) 22 [.imm .arg 3 (l.map Qa),.sl 1 0 (swT o p (frT l)).length none (swT o p (frT l)).length 1] ([bI (frT l)]++[bI (swT o p (frT l))])=some (.int .i64 (wgt l (swT o p (frT l))),[bI (frT l)]++[bI (swT o p (frT l))]):=fun o p ht=>by
  have hsl:=Qca o p (frT l)
  exact at2 (pol':=plF Zq) (g:=22) (c1:=kS) (c2:=kL) (f:=fun l t=>if inR l.length t=true∧wB l=true∧t.length≤1000 then some (.int .i64 (wgt l t)) else none) (H:=[bI (frT l)]++[bI (swT o p (frT l))]) (by kernel_rfl) (Jf _ l) (Zo (b:=1) rfl rfl) (if_pos ⟨inR_iff.2 (Qmx ht).1.rg,hwB,by omega⟩)
 have c51:=at2 (pol':=plF Zq) (g:=51) (c1:=kL) (c2:=kI) (f:=fun l x=>if l.length≤1000 then some (.bool (decide (x∈l))) else none) (H:=[bI (frT l)]++[bI (swT ((frT l).getD 0 0) i (frT l))]) (by kernel_rfl) (Zo (b:=0) (l:=frT l) rfl rfl) (ShI _ (i:Int)) (if_pos (by omega))
 have c51':∀o p:Int,∀k,Qs Tp (plF Zq) (k+1) 51 [.sl 0 0 (frT l).length none (frT l).length 1,.int .i64 (i:Int)] ([bI (frT l)]++[bI (swT o p (frT l))])=some (.bool (decide ((i:Int)∈frT l)),[bI (frT l)]++[bI (swT o p (frT l))]):=fun o p =>
  at2 (pol':=plF Zq) (g:=51) (c1:=kL) (c2:=kI) (f:=fun l x=>if l.length≤1000 then some (.bool (decide (x∈l))) else none) (H:=[bI (frT l)]++[bI (swT o p (frT l))]) (by kernel_rfl) (Zo (b:=0) (l:=frT l) rfl rfl) (ShI _ (i:Int)) (if_pos (by omega))
 clear c51
 have out:RT (plF Zq) 23 (sn 15652 B23) ((Js (.i n) (.g (l.map Qa)) (.i 0) (.bool false) (.sl 0 0 (frT l).length none (frT l).length 1) (.bool true) (.i (s3F n l i g ((frT l).take (frT l).length))) (.i (i:Int)) (.i (((frT l).length:Nat):Int)) Ud)) [bI (frT l)] (.exit 2) ((Js (.i n) (.g (l.map Qa)) (.i 0) (.bool false) (.sl 0 0 (frT l).length none (frT l).length 1) (.bool true) (.i (s3F n l i g (frT l))) (.i (i:Int)) (.i (((frT l).length:Nat):Int)) Ud)) [bI (frT l)]:=by
  rw [List.take_length]
  exact QqP (F:=Zq) n (l.map Qa) [bI (frT l)] 0 (frT l).length (s3F n l i g (frT l)) i (frT l).length 0 0 0 0 (by omega)
 refine Q7 (pol':=plF Zq) (f:=23) (E:=fun j=>(Js (.i n) (.g (l.map Qa)) (.i 0) (.bool false) (.sl 0 0 (frT l).length none (frT l).length 1) (.bool true) (.i (s3F n l i g ((frT l).take j))) (.i (i:Int)) (.i (j:Int)) Ud)) (Hs:=fun _=>[bI (frT l)]) (frT l).length
  (E0:=fun j=>(Js (.i n) (.g (l.map Qa)) (.i 0) (.bool false) (.sl 0 0 (frT l).length none (frT l).length 1) (.bool true) (.i (s3F n l i g ((frT l).take (j+1)))) (.i (i:Int)) (.i ((j+1:Nat):Int)) (.sl 1 0 (swT ((frT l).getD j 0) i (frT l)).length none (swT ((frT l).getD j 0) i (frT l)).length 1))) (H1:=fun j=>[bI (frT l)]++[bI (swT ((frT l).getD j 0) i (frT l))])
  (fun j hj=>?_) (fun _ _=>by kernel_rfl) (fun k _=>?_) out (by simp) (by kernel_rfl) (fun _ _=>by kernel_rfl)
 ·have ld:=QR (H:=[bI (frT l)]) (k:=0) (o:=frT l) rfl hj
  have hs:=QfL n l i g (frT l) hj
  have c28':=c28 ((frT l).getD j 0) i
  have c36':=c36 ((frT l).getD j 0) i
  have c22':=c22 ((frT l).getD j 0) i
  have c51:=c51' ((frT l).getD j 0) i
  generalize (frT l).getD j 0=x at *
  generalize s3F n l i g ((frT l).take j)=b at *
  rw [hs,s3T]
  by_cases cm:(i:Int)∈frT l
  ·rw [decide_eq_true cm] at c51
   rw [if_neg fun h=>h.1 cm]
   have s:=QqM (F:=Zq) n (l.map Qa) [bI (frT l)] 0 (frT l).length b i j 1 _ x 0 (by omega) (ZT u24 z3 hj) ld c36' c51
   rw [Qj (by omega)] at s
   exact s
  rw [decide_eq_false cm] at c51
  by_cases ct:isT n l (swT x i (frT l))=true
  ·rw [ct] at c28'
   rw [if_pos ⟨cm,ct⟩]
   have s:=QqN (F:=Zq) n (l.map Qa) [bI (frT l)] 0 (frT l).length b i j 1 _ x _ (by omega) (ZT u24 z3 hj) ld c36' c51 c28' (c22' ct)
   rw [Qj (by omega)] at s
   exact s
  ·rw [Jl ct] at c28'
   rw [if_neg fun h=>ct h.2]
   have s:=QqO (F:=Zq) n (l.map Qa) [bI (frT l)] 0 (frT l).length b i j 1 _ x 0 (by omega) (ZT u24 z3 hj) ld c36' c51 c28'
   rw [Qj (by omega)] at s
   exact s
 ·have hb:Wc ((Js (.i n) (.g (l.map Qa)) (.i 0) (.bool false) (.sl 0 0 (frT l).length none (frT l).length 1) (.bool true) (.i (s3F n l i g ((frT l).take (k+1)))) (.i (i:Int)) (.i ((k+1:Nat):Int)) Ud))=1:=by simp only [Wc,bnd,bndL];rfl
  show gc 1 _ _=_
  rw [hb]
  exact VX (H:=[bI (frT l)]) (by rw [Wn];show max (max 0 0) (max 0 0)≤1;decide) (qE _)
theorem Qbf:QP Tp 23 GK:=by
 refine Qn (pol:=plF Zq) (fn:=Try.f23) (cd:=B23) Qh Qh9 (by kernel_rfl) (by kernel_rfl) (Zh Zq _ _ (by kernel_rfl)) (by kernel_rfl) ?_
 intro args res h
 obtain ⟨n,l,rfl,hq⟩:=Zc h
 split at hq
 case isFalse=>cases hq
 rename_i hc
 obtain ⟨hnet,hok⟩:=hc
 cases hq
 obtain ⟨⟨n1,n2⟩,n3,he,hw⟩:=Qx hnet
 have hfl:=Ym l
 have lm:((l.map Qa).length:Int)=(l.length:Int):=by rw [qH]
 have a:=QqF (F:=Zq) n (l.map Qa)
 have c20:=at2 (pol':=plF Zq) (g:=20) (c1:=kI) (c2:=kS) (f:=fun n l=>if (0≤n∧n≤16)∧Ju n l=true∧l.length≤500 then some (.tuple [.own 1 ((frT l).map Qb),.bool (YU n l)]) else none) (H:=[]) (by kernel_rfl) (ShI _ n) (Jf _ l) (if_pos ⟨by omega,he,by omega⟩)
 rw [KK,hok] at c20
 have b:=QqG (F:=Zq) n (l.map Qa) [] 0 _ c20
 have c:=QqH (F:=Zq) n (l.map Qa) [bI (frT l)] 0 (frT l).length
 have d:=QqI (F:=Zq) n (l.map Qa) [bI (frT l)] 0 (frT l).length 1099511627776
 obtain ⟨x,E',H',r,rfl,rfl,rfl⟩:=W2 (pol':=plF Zq) (f:=23) (b:=sn 244 B23) (c:=sn 122 B23) (I:=fun i e H=>e=(Js (.i n) (.g (l.map Qa)) (.i 0) (.bool false) (.sl 0 0 (frT l).length none (frT l).length 1) (.bool true) (.i (s3O n l i)) (.i (i:Int)) Ud Ud)∧H=[bI (frT l)])
  (Q:=fun x E' H'=>x=.exit 0∧E'=(Js (.i n) (.g (l.map Qa)) (.i 0) (.bool false) (.sl 0 0 (frT l).length none (frT l).length 1) (.bool true) (.i (s3O n l l.length)) (.i ((l.length:Nat):Int)) Ud Ud)∧H'=[bI (frT l)]) l.length
  (by
   rintro i hi e H ⟨rfl,rfl⟩
   have s0:=QqJ (F:=Zq) n (l.map Qa) [bI (frT l)] 0 (frT l).length (s3O n l i) i (by omega)
   have s1:=QqL (F:=Zq) n (l.map Qa) [bI (frT l)] 0 (frT l).length (s3O n l i) i
   have k1:=QrH hnet hi (s3O n l i)
   rw [← Qam] at k1
   have s6:=QqQ (F:=Zq) n (l.map Qa) [bI (frT l)] 0 (frT l).length (s3O n l (i+1)) i (y10:=.i (((frT l).length:Nat):Int))
   rw [Qj (by omega)] at s6
   refine ⟨_,_,sq (s0) (sq (RunsTo.block_normal (i:=1) (c:=sn 978 B23) (sq (s1) (bke (c:=sn 3913 B23) (k1)) (c:=sn 1956 B23)) (by kernel_rfl)) (s6) (c:=sn 489 B23)) (c:=sn 244 B23),?_⟩
   have er:Qy (plF Zq) 23 (sn 244 B23) ((Js (.i n) (.g (l.map Qa)) (.i 0) (.bool false) (.sl 0 0 (frT l).length none (frT l).length 1) (.bool true) (.i (s3O n l (i+1))) (.i ((i+1:Nat):Int)) (.i (((frT l).length:Nat):Int)) Ud))=(Js (.i n) (.g (l.map Qa)) (.i 0) (.bool false) (.sl 0 0 (frT l).length none (frT l).length 1) (.bool true) (.i (s3O n l (i+1))) (.i ((i+1:Nat):Int)) Ud Ud):=by kernel_rfl
   rw [er]
   exact ⟨rfl,QC _ (by simp)⟩)
  (by
   rintro e H ⟨rfl,rfl⟩
   have s1:=QqK (F:=Zq) n (l.map Qa) [bI (frT l)] 0 (frT l).length (s3O n l l.length) l.length (by omega)
   exact ⟨_,_,_,sqo (s1) (c:=sn 244 B23) (b:=sn 489 B23),by simp,rfl,rfl,rfl⟩)
  (by kernel_rfl) (by rintro i e H ⟨rfl,_⟩;kernel_rfl) (e:=(Js (.i n) (.g (l.map Qa)) (.i 0) (.bool false) (.sl 0 0 (frT l).length none (frT l).length 1) (.bool true) (.i (1099511627776)) (.i (0:Int)) Ud Ud)) (H:=[bI (frT l)]) ⟨rfl,rfl⟩
 by_cases cz:s3O n l l.length<1099511627776
 ·have z:=QqR (F:=Zq) n (l.map Qa) [bI (frT l)] 0 (frT l).length (s3O n l l.length) (y9:=.i ((l.length:Nat):Int)) cz
  refine ⟨_,_,_,.tuple [.int .i64 (s3O n l l.length),.bool true],sq (a) (sq (b) (sq (c) (sq (sq (d) (bke (c:=sn 61 B23) (r)) (c:=sn 30 B23)) (z) (c:=sn 15 B23)) (c:=sn 7 B23)) (c:=sn 3 B23)) (c:=B23),by simp,by simp only [Qc,QiS];rfl,?_⟩
  rw [decide_eq_true cz];rfl
 ·have z:=QqS (F:=Zq) n (l.map Qa) [bI (frT l)] 0 (frT l).length (s3O n l l.length) (y9:=.i ((l.length:Nat):Int)) cz
  refine ⟨_,_,_,.tuple [.int .i64 (s3O n l l.length),.bool false],sq (a) (sq (b) (sq (c) (sq (sq (d) (bke (c:=sn 61 B23) (r)) (c:=sn 30 B23)) (z) (c:=sn 15 B23)) (c:=sn 7 B23)) (c:=sn 3 B23)) (c:=B23),by simp,by simp only [Qc,QiS];rfl,?_⟩
  rw [decide_eq_false cz];rfl
def rlM (b W c:Int):Int:=if c<0 then b else min b (W+c)
theorem Qcv (b W c:Int) {d:Int} (hd:0≤d):min (rlM b W c) (W+d)=rlM b W (bst c d):=by
 unfold rlM bst
 by_cases c0:c<0
 ·rw [if_pos c0,if_pos (Or.inl c0),if_neg (by omega)]
 ·rw [if_neg c0]
  by_cases c1:d<c
  ·rw [if_pos (Or.inr c1),if_neg (by omega)];omega
  ·rw [if_neg (fun h:c<0∨d<c=>h.elim c0 c1),if_neg c0];omega
section
variable {n:Int} {l:List St} (hnet:Wh n l=true) (hc:WJ n l=true)
include hnet hc
theorem Qan {i:Nat} (hi:i<l.length) (hiT:(i:Int)∉Qd l) (b:Int):∀(ks:List Int) (c:Int),(∀x∈ks,x∈frT l)→s3F n l i (rlM b (wgt l (frT l)) c) ks=rlM b (wgt l (frT l)) (ks.foldl (c2T n l i) c)
 | [],c,_=>rfl
 | x::ks,c,hk=>by
  have hx:=hk x (by simp)
  have hxT:=frT_mem.1 hx
  have step:s3T n l i (rlM b (wgt l (frT l)) c) x=rlM b (wgt l (frT l)) (c2T n l i c x):=by
   rw [s3T,c2T]
   by_cases ct:isT n l (swT x i (frT l))=true
   ·have hJ:=(Cp hnet hc hxT (j:=(i:Int)) (by omega) hiT).1 ct
    have hd:=XW hnet hxT (j:=(i:Int)) (by omega) hiT hJ
    have hw:=(Qrs hnet (QiD hnet hc) (KQ l) hx (j:=(i:Int)) (by omega) (fun h=>hiT (frT_mem.1 h)) ((SU hnet x i).2 hJ)).2
    rw [if_pos ⟨fun h=>hiT (frT_mem.1 h),ct⟩,if_pos ct,hw,← Qcv _ _ _ (by omega:0≤wOf l i-wOf l x)]
    congr 1
    omega
   ·rw [if_neg fun h=>ct h.2,if_neg ct]
  have ih:=Qan hi hiT b ks (c2T n l i c x) fun y hy=>hk y (by simp [hy])
  rw [s3F,qB,qB,step]
  exact ih
theorem Qia {i:Nat} (hi:i<l.length) (hiT:(i:Int)∉Qd l) (b:Int):s3F n l i b (frT l)=min b (wgt l (frT l)+(slT l).getD i 0):=by
 have e:(slT l).getD i 0=c2F n l i (frT l):=by
  rw [Qaj hnet hc,Qba]
  rw [qC,qL,qV hi]
  show Qa9 n l i=_
  rw [Qa9,if_neg fun h=>hiT (frT_mem.1 h)]
 have nn:=Qak hnet hc hi hiT
 have h:=Qan hnet hc hi hiT b (frT l) (-1) fun _ h=>h
 rw [rlM,if_pos (by decide)] at h
 rw [h]
 show rlM b _ (c2F n l i (frT l))=_
 rw [← e,rlM,if_neg (by omega)]
omit hnet hc in
theorem QfM {i:Nat} (hiT:(i:Int)∈Qd l) (b:Int):∀ks:List Int,s3F n l i b ks=b
 | []=>rfl
 | x::ks=>by
  rw [s3F,qB,s3T,if_neg fun h=>h.1 (frT_mem.2 hiT)]
  exact QfM hiT b ks
theorem QfN:∀m,m≤l.length→s3O n l m=rlM 1099511627776 (wgt l (frT l)) (mrT l m)
 | 0,_=>rfl
 | m+1,hm=>by
  rw [Qam,QfN m (by omega)]
  have es:mrT l (m+1)=if (m:Int)∉Qd l∧(mrT l m<0∨(slT l).getD m 0<mrT l m) then (slT l).getD m 0 else mrT l m:=rfl
  rw [es]
  by_cases cT:(m:Int)∈Qd l
  ·rw [QfM cT,if_neg fun h=>h.1 cT]
  ·have nn:=Qak hnet hc (x:=m) (by omega) cT
   rw [Qia hnet hc (by omega) cT]
   rw [Qcv _ _ _ nn]
   congr 1
   rw [bst]
   by_cases c:mrT l m<0∨(slT l).getD m 0<mrT l m
   ·rw [if_pos c,if_pos ⟨cT,c⟩]
   ·rw [if_neg c,if_neg fun h=>c h.2]
omit hnet hc in
theorem QfO {i:Nat} (hw:∀k,wOf l i-wOf l k≤1000):∀(ks:List Int) (c:Int),c≤1000→ks.foldl (c2T n l i) c≤1000
 | [],_,h=>h
 | x::ks,c,h=>by
  rw [qB]
  refine QfO hw ks _ ?_
  have:=hw x
  rw [c2T]
  split
  ·rw [bst];split <;> omega
  ·exact h
theorem QfP:(s3O n l l.length<1099511627776↔seE n l=0)∧(seE n l=0→s3O n l l.length=seT n l)∧(seE n l≠0→seE n l=6∧seT n l=0):=by
 have e:=QfN hnet hc l.length (qE _)
 have hF:=QiD hnet hc
 have hl2:=(Qx hnet).2.1
 have hwB:∀s∈l,0≤s.2.2∧s.2.2≤1000000:=fun s hs=>by have:=(Qx hnet).2.2.2 s hs;omega
 have wr:0≤wgt l (frT l)∧wgt l (frT l)≤1000000000:=by
  have h1:=U1 (l:=l) hwB (t:=frT l) (by have:=hF.ln;have:=(Qx hnet).1;omega) (frT l).length
  rw [qY (by rw [qH];exact qE _)] at h1
  exact h1
 have hw:wgt l (frT l)=wgt l (Qd l):=Qmz
 rcases Qcu hnet hc l.length (qE _) with ⟨a,b⟩ | ⟨a,⟨j,j1,j2,j3⟩,b⟩
 ·have hlen:(Qd l).length=l.length:=by
   have h1:=Z3 (a:=Qf l.length) (b:=Qd l) (Zi _) fun y hy=>by
    have:=startT_mem.1 hy
    have h:=b y.toNat (by omega)
    rwa [qT this.1] at h
   have h2:=Z3 (a:=Qd l) (b:=Qf l.length) (WZ l) fun y hy=>startT_mem.2 (WG hy)
   rw [QL] at h1 h2
   omega
  have e6:seE n l=6:=by rw [seE,if_pos hnet,if_neg fun h=>h.2 hlen]
  rw [a,rlM,if_pos (by decide)] at e
  refine ⟨by rw [e,e6];decide,fun h=>absurd (h.symm.trans e6) (by decide),fun h=>⟨e6,if_neg h⟩⟩
 ·have hlen:(Qd l).length≠l.length:=fun e=>by
   have:=Z3 (a:=(j:Int)::Qd l) (b:=Qf l.length) (List.nodup_cons.2 ⟨j2,WZ l⟩) fun y hy=>by
    rcases List.mem_cons.1 hy with e | e
    ·rw [e,startT_mem];omega
    ·exact startT_mem.2 (WG e)
   rw [List.length_cons,QL] at this
   omega
  have e0:seE n l=0:=by rw [seE,if_pos hnet,if_pos ⟨hc,hlen⟩]
  have bd:mrT l l.length≤1000:=by
   rw [j3,Qaj hnet hc,Qba,qC,qL,qV j1]
   show Qa9 n l j≤1000
   rw [Qa9,if_neg fun h=>j2 (frT_mem.1 h)]
   refine QfO (fun k=>?_) _ _ (by decide)
   have h1:wOf l j≤1000:=((Qx hnet).2.2.2 _ (Qo (0,0,0) (show ((j:Int)).toNat<l.length by omega))).2
   have h2:=(Y0 hwB k).1
   omega
  rw [rlM,if_neg (by omega)] at e
  have es:seT n l=wgt l (Qd l)+mrT l l.length:=by
   rw [seT,if_pos e0,WN (by omega) (by omega)]
  refine ⟨by rw [e0,e];constructor <;> intro <;> omega,fun _=>by rw [e,es,← hw];omega,fun h=>absurd e0 h⟩
end
def Qib:FuncId→Option (List HV→Option HV):=fun g=>if g==21 then some QaK else if g==52 then some Zv else if g==54 then some VW else if g==40 then some Yl else if g==71 then some Qd8 else if g==70 then some Qd9 else none
theorem Qic (n:Nat):Ql Tp (Qs Tp (plF Qib) n):=Qz _ (fun g f h=>by
 unfold Qib at h
 split at h
 ·rename_i hg;cases h;rw [eq_of_beq hg];exact QbI
 split at h
 ·rename_i hg;cases h;rw [eq_of_beq hg];exact VV
 split at h
 ·rename_i hg;cases h;rw [eq_of_beq hg];exact Xt
 split at h
 ·rename_i hg;cases h;rw [eq_of_beq hg];exact XS
 split at h
 ·rename_i hg;cases h;rw [eq_of_beq hg];exact Qed
 split at h
 ·rename_i hg;cases h;rw [eq_of_beq hg];exact Qef
 ·cases h) n
set_option maxRecDepth 100000 in
theorem Qde:Qs Tp (plF Qib) 400 18 [] []=some (.bool true,[]):=by kernel_rfl
def CL:List HV→Option HV | []=>some (.bool true) | _=>none
theorem Qbg:QP Tp 18 CL:=by
 refine QcP (pol:=plF Qib) Qic (by kernel_rfl) fun args res h=>?_
 match args,h with
 | [],h =>
  cases h
  exact ⟨400,_,_,false,Qde,rfl⟩
theorem QfQ {pol':Pol} (hp:pol'.prim 18=some CL) (H:Heap):∀k,Qs Tp pol' (k+1) 18 [] H=some (.bool true,H):=fun k=>by
 rw [Kk (pol:=pol') (g:=18) (F:=CL) hp (rs:=[]) rfl (res:=.bool true) rfl];rfl
theorem QfR (l:List Int) (m e:Int) (H:Heap):ZA (.tuple [.own 1 (l.map Qb),.int .i64 m,.int .i64 e]) H=(.tuple [.sl H.length 0 l.length none l.length 1,.int .i64 m,.int .i64 e],H++[bI l]):=by
 have h:Wp (.own 1 (l.map Qb)) H=(.sl H.length 0 l.length none l.length 1,H++[bI l]):=by
  simp only [Wp,Vs,qH];rfl
 simp only [ZA,ZJ,Z9,h];rfl
def Zr:FuncId→Option (List HV→Option HV):=fun g=>if g==18 then some CL else if g==13 then some Qik else if g==14 then some Qci else if g==15 then some Qal else if g==16 then some Qcj else if g==17 then some Qd2 else if g==19 then some Qad else if g==20 then some Y4 else if g==21 then some QaK else if g==22 then some Yj else if g==23 then some GK else none
theorem Qid (n:Nat):Ql Tp (Qs Tp (plF Zr) n):=Qz _ (fun g f h=>by
 unfold Zr at h
 split at h
 ·rename_i hg;cases h;rw [eq_of_beq hg];exact Qbg
 split at h
 ·rename_i hg;cases h;rw [eq_of_beq hg];exact QkG
 split at h
 ·rename_i hg;cases h;rw [eq_of_beq hg];exact Qfg
 split at h
 ·rename_i hg;cases h;rw [eq_of_beq hg];exact Qdd
 split at h
 ·rename_i hg;cases h;rw [eq_of_beq hg];exact Qfi
 split at h
 ·rename_i hg;cases h;rw [eq_of_beq hg];exact Qgg
 split at h
 ·rename_i hg;cases h;rw [eq_of_beq hg];exact Qdb
 split at h
 ·rename_i hg;cases h;rw [eq_of_beq hg];exact Dc
 split at h
 ·rename_i hg;cases h;rw [eq_of_beq hg];exact QbI
 split at h
 ·rename_i hg;cases h;rw [eq_of_beq hg];exact U3
 split at h
 ·rename_i hg;cases h;rw [eq_of_beq hg];exact Qbf
 ·cases h) n
theorem QrS:Try.f3.results.toList=[.tmp 4]:=by kernel_rfl
abbrev QfS:Pol:=plF Zr
theorem Yt (n:Int) (l:List St):∃E H,RT QfS 3 B3 (Vc [.int .i64 n,.imm .arg 3 (l.map Qa)]) [] .ret E H∧E.get 4=.bool true:=by
 have a:=Qi8 (F:=Zr) n (l.map Qa)
 have c13:=at1 (pol':=plF Zr) (g:=13) (c1:=kS) (f:=fun l=>some (.own 3 ((l.take 61).map Qa))) (H:=[]) (by kernel_rfl) (Jf _ l) rfl
 rw [QdT] at c13
 generalize hown:l.take 61=own at *
 have hol:own.length≤61:=by rw [← hown,List.length_take];omega
 have b:=Qi9 (F:=Zr) n (l.map Qa) [] 0 own.length c13
 have sS:∀X:Heap,Sh kS ([bS own]++X) (.sl 0 0 own.length none own.length 3) own:=fun X=>Qi7 rfl rfl
 have c14:=at2 (pol':=plF Zr) (g:=14) (c1:=kI) (c2:=kS) (f:=fun n l=>if l.length≤500 then some (.tuple [.own 1 ((trG n l).map Qb),.int .i64 (trW n l),.int .i64 (slE n l)]) else none) (H:=[bS own]) (by kernel_rfl) (ShI _ n) (sS []) (if_pos (by omega))
 rw [QfR] at c14
 have c:=Qja (F:=Zr) n (l.map Qa) [bS own] 0 own.length 1 (trG n own).length (trW n own) (slE n own) c14
 generalize hH:[bS own]++[bI (trG n own)]=H at *
 have sH:∀X:Heap,Sh kS (H++X) (.sl 0 0 own.length none own.length 3) own:=fun X=>by rw [← hH,qS];exact sS _
 have sH0:Sh kS H (.sl 0 0 own.length none own.length 3) own:=by have:=sH [];rwa [qK] at this
 have c15:=at2 (pol':=plF Zr) (g:=15) (c1:=kI) (c2:=kS) (f:=fun n l=>if l.length≤500 then some (.tuple [.int .i64 (seT n l),.int .i64 (seE n l)]) else none) (H:=H) (by kernel_rfl) (ShI _ n) sH0 (if_pos (by omega))
 have d:=Qjb (F:=Zr) n (l.map Qa) H 0 own.length 1 (trG n own).length (trW n own) (slE n own) (seT n own) (seE n own) c15
 have c16:=at2 (pol':=plF Zr) (g:=16) (c1:=kI) (c2:=kS) (f:=fun n l=>if l.length≤500 then some (.tuple [.int .i64 (ctT n l),.int .i64 (ctE n l)]) else none) (H:=H) (by kernel_rfl) (ShI _ n) sH0 (if_pos (by omega))
 have e:=Qjc (F:=Zr) n (l.map Qa) H 0 own.length 1 (trG n own).length (trW n own) (slE n own) (seT n own) (seE n own) (ctT n own) (ctE n own) c16
 have c17:=at2 (pol':=plF Zr) (g:=17) (c1:=kI) (c2:=kS) (f:=fun n l=>if l.length≤1000 then some (.bool (Wh n l)) else none) (H:=H) (by kernel_rfl) (ShI _ n) sH0 (if_pos (by omega))
 have aw:∀H,∀k,Qs Tp (plF Zr) (k+1) 18 [] H=some (.bool true,H):=fun H=>QfQ (by kernel_rfl) H
 cases hnet:Wh n own with
 | false =>
  rw [hnet] at c17
  have e2:slE n own=2:=if_neg (by rw [hnet];simp)
  have e3:seE n own=2:=if_neg (by rw [hnet];simp)
  have e4:ctE n own=2:=if_neg (by rw [hnet];simp)
  have e5:ctT n own=0:=if_neg (by rw [hnet];simp)
  have e6:seT n own=0:=by rw [seT,if_neg (by rw [e3];decide)]
  have e7:trG n own=[]:=by rw [trG,if_neg (by rw [e2];decide)]
  have e8:trW n own=0:=by rw [trW,if_neg (by rw [e2];decide)]
  have f:=Qje (F:=Zr) n (l.map Qa) H 0 own.length 1 (trG n own).length (trW n own) (slE n own) (seT n own) (seE n own) (ctT n own) (ctE n own) c17 (by rw [e7];rfl) e8 e2 e6 e3 e5 e4 (aw H)
  exact ⟨_,_,sq (a) (sq (b) (sq (c) (sq (d) (sq (e) (sqo (f) (c:=sn 63 B3) (b:=sn 127 B3)) (c:=sn 31 B3)) (c:=sn 15 B3)) (c:=sn 7 B3)) (c:=sn 3 B3)) (c:=B3),rfl⟩
 | true =>
  rw [hnet] at c17
  obtain ⟨⟨n1,n2⟩,n3,he,hw⟩:=Qx hnet
  have hwB:wB own=true:=wB_iff.2 fun s hs=>by have:=hw s hs;omega
  have f:=Qjd (F:=Zr) n (l.map Qa) H 0 own.length 1 (trG n own).length (trW n own) (slE n own) (seT n own) (seE n own) (ctT n own) (ctE n own) c17
  have c19:=at2 (pol':=plF Zr) (g:=19) (c1:=kI) (c2:=kS) (f:=fun n l=>if (0≤n∧n≤16)∧Ju n l=true∧l.length≤60 then some (.int .i64 (Qda n l)) else none) (H:=H) (by kernel_rfl) (ShI _ n) sH0 (if_pos ⟨by omega,he,by omega⟩)
  have e4:ctE n own=0:=if_pos hnet
  have g:=Qjf (F:=Zr) n (l.map Qa) H 0 own.length 1 (trG n own).length (trW n own) (slE n own) (seT n own) (seE n own) (ctT n own) (ctE n own) _ c19 (Qh1 hnet).symm e4
  have c20:=at2 (pol':=plF Zr) (g:=20) (c1:=kI) (c2:=kS) (f:=fun n l=>if (0≤n∧n≤16)∧Ju n l=true∧l.length≤500 then some (.tuple [.own 1 ((frT l).map Qb),.bool (YU n l)]) else none) (H:=H) (by kernel_rfl) (ShI _ n) sH0 (if_pos ⟨by omega,he,by omega⟩)
  have hok:=QbM n own
  rw [KK,hok] at c20
  have hHl:H.length=2:=by rw [← hH];rfl
  rw [hHl] at c20
  by_cases cn:WJ n own=true
  case neg =>
   rw [Jl cn] at c20
   have e2:slE n own=6:=by rw [slE,if_pos hnet,if_neg cn]
   have e3:seE n own=6:=by rw [seE,if_pos hnet,if_neg fun h=>cn h.1]
   have e6:seT n own=0:=by rw [seT,if_neg (by rw [e3];decide)]
   have e7:trG n own=[]:=by rw [trG,if_neg (by rw [e2];decide)]
   have e8:trW n own=0:=by rw [trW,if_neg (by rw [e2];decide)]
   have h:=Qjh (F:=Zr) n (l.map Qa) H 0 own.length 1 (trG n own).length (trW n own) (slE n own) (seT n own) (seE n own) (ctT n own) (ctE n own) _ _ c20
   have i:=Qgb (F:=Zr) n (l.map Qa) (H++[bI (frT own)]) 0 own.length 1 (trG n own).length (trW n own) (slE n own) (seT n own) (seE n own) (ctT n own) (ctE n own) 2 (frT own).length (by rw [e7];rfl) e8 e2 e6 e3 (aw _)
   exact ⟨_,_,sq (a) (sq (b) (sq (c) (sq (d) (sq (e) (sq (f) (sq (g) (sq (h) (sqo (i) (c:=sn 511 B3) (b:=sn 1023 B3)) (c:=sn 255 B3)) (c:=sn 127 B3)) (c:=sn 63 B3)) (c:=sn 31 B3)) (c:=sn 15 B3)) (c:=sn 7 B3)) (c:=sn 3 B3)) (c:=B3),rfl⟩
  rw [cn] at c20
  have e2:slE n own=0:=by rw [slE,if_pos hnet,if_pos cn]
  have e7:trG n own=frT own:=by rw [trG,if_pos e2]
  have e8:trW n own=wgt own (frT own):=by rw [trW,if_pos e2]
  have h:=Qjg (F:=Zr) n (l.map Qa) H 0 own.length 1 (trG n own).length (trW n own) (slE n own) (seT n own) (seE n own) (ctT n own) (ctE n own) _ _ c20
  have i:=Qga (F:=Zr) n (l.map Qa) (H++[bI (frT own)]) 0 own.length 1 (trG n own).length (trW n own) (slE n own) (seT n own) (seE n own) (ctT n own) (ctE n own) 2 (frT own).length
  have hfl:(frT own).length≤500:=by have:=Ym own;omega
  have b1:(H++[bI (frT own)])[1]?=some (bI (frT own)):=by rw [← hH,e7];rfl
  have b2:(H++[bI (frT own)])[2]?=some (bI (frT own)):=by rw [← hH];rfl
  have c21:∀k,Qs Tp (plF Zr) (k+1) 21 [.sl 1 0 (trG n own).length none (trG n own).length 1,.sl 2 0 (frT own).length none (frT own).length 1] (H++[bI (frT own)])=some (.bool true,H++[bI (frT own)]):=by
   rw [e7]
   have:=at2 (pol':=plF Zr) (g:=21) (c1:=kL) (c2:=kL) (f:=fun a b=>if a.length≤1000 then some (.bool (decide (a=b))) else none) (H:=H++[bI (frT own)]) (v1:=.sl 1 0 (frT own).length none (frT own).length 1) (v2:=.sl 2 0 (frT own).length none (frT own).length 1) (x:=frT own) (y:=frT own) (by kernel_rfl) (Zo rfl b1) (Zo rfl b2) (if_pos (by omega))
   rw [decide_eq_true rfl] at this
   exact this
  have c22:=at2 (pol':=plF Zr) (g:=22) (c1:=kS) (c2:=kL) (f:=fun l t=>if inR l.length t=true∧wB l=true∧t.length≤1000 then some (.int .i64 (wgt l t)) else none) (H:=H++[bI (frT own)]) (v2:=.sl 2 0 (frT own).length none (frT own).length 1) (by kernel_rfl) (sH [bI (frT own)]) (Zo rfl b2) (if_pos ⟨inR_iff.2 fun k hk=>WG (frT_mem.1 hk),hwB,by omega⟩)
  have j:=Qji (F:=Zr) n (l.map Qa) (H++[bI (frT own)]) 0 own.length 1 (trG n own).length (trW n own) (slE n own) (seT n own) (seE n own) (ctT n own) (ctE n own) 2 (frT own).length _ c21 c22 e8 e2
  have c23:=at2 (pol':=plF Zr) (g:=23) (c1:=kI) (c2:=kS) (f:=fun n l=>if Wh n l=true∧YU n l=true then some (.tuple [.int .i64 (s3O n l l.length),.bool (decide (s3O n l l.length<1099511627776))]) else none) (H:=H++[bI (frT own)]) (by kernel_rfl) (ShI _ n) (sH [bI (frT own)]) (if_pos ⟨hnet,by rw [hok];exact cn⟩)
  obtain ⟨q1,q2,q3⟩:=QfP hnet cn
  by_cases cs:seE n own=0
  ·rw [decide_eq_true (q1.2 cs)] at c23
   have k:=Qjj (F:=Zr) n (l.map Qa) (H++[bI (frT own)]) 0 own.length 1 (trG n own).length (trW n own) (slE n own) (seT n own) (seE n own) (ctT n own) (ctE n own) 2 (frT own).length _ c23
   have m:=Qgc (F:=Zr) n (l.map Qa) (H++[bI (frT own)]) 0 own.length 1 (trG n own).length (trW n own) (slE n own) (seT n own) (seE n own) (ctT n own) (ctE n own) 2 (frT own).length (s3O n own own.length)
   have z:=Qjl (F:=Zr) n (l.map Qa) (H++[bI (frT own)]) 0 own.length 1 (trG n own).length (trW n own) (slE n own) (seT n own) (seE n own) (ctT n own) (ctE n own) 2 (frT own).length (s3O n own own.length) (q2 cs).symm cs (aw _)
   exact ⟨_,_,sq (a) (sq (b) (sq (c) (sq (d) (sq (e) (sq (f) (sq (g) (sq (h) (sq (i) (sq (j) (sq (k) (sq (m) (z) (c:=sn 4095 B3)) (c:=sn 2047 B3)) (c:=sn 1023 B3)) (c:=sn 511 B3)) (c:=sn 255 B3)) (c:=sn 127 B3)) (c:=sn 63 B3)) (c:=sn 31 B3)) (c:=sn 15 B3)) (c:=sn 7 B3)) (c:=sn 3 B3)) (c:=B3),rfl⟩
  ·rw [decide_eq_false fun h=>cs (q1.1 h)] at c23
   obtain ⟨q4,q5⟩:=q3 cs
   have k:=Qjk (F:=Zr) n (l.map Qa) (H++[bI (frT own)]) 0 own.length 1 (trG n own).length (trW n own) (slE n own) (seT n own) (seE n own) (ctT n own) (ctE n own) 2 (frT own).length _ c23
   have m:=Qgd (F:=Zr) n (l.map Qa) (H++[bI (frT own)]) 0 own.length 1 (trG n own).length (trW n own) (slE n own) (seT n own) (seE n own) (ctT n own) (ctE n own) 2 (frT own).length (s3O n own own.length) q5 q4 (aw _)
   exact ⟨_,_,sq (a) (sq (b) (sq (c) (sq (d) (sq (e) (sq (f) (sq (g) (sq (h) (sq (i) (sq (j) (sq (k) (sqo (m) (c:=sn 4095 B3) (b:=sn 8191 B3)) (c:=sn 2047 B3)) (c:=sn 1023 B3)) (c:=sn 511 B3)) (c:=sn 255 B3)) (c:=sn 127 B3)) (c:=sn 63 B3)) (c:=sn 31 B3)) (c:=sn 15 B3)) (c:=sn 7 B3)) (c:=sn 3 B3)) (c:=B3),rfl⟩
end Go.Proofs.Ytiejmoglooaalaa
end
section
namespace Go.HL
open Go.ChangeShapes Go.WideShapes Go.ChangeAt Go.RowKit Go.Deep
set_option linter.unusedSectionVars false
open Go.Proofs.Try renaming prog → Tp
open Go.HL.HV renaming undef → Ud
theorem QrI (w:World) (r:Nat):Qk Ctx.nil w.heap.size false r:=by
 refine ⟨fun hM=>?_,by simp⟩
 obtain ⟨b,y,h1,_,_⟩:=M_iff.1 hM
 simp [Ctx.nil] at h1
theorem Qie {w:World} {a:Addr} {v:Value} (h:w.cell? a=some v):a.block<w.heap.size:=by
 rcases Nat.lt_or_ge a.block w.heap.size with hl | hl
 ·exact hl
 ·have:w.heap[a.block]?=none:=by simp [hl]
  simp [World.cell?,this] at h
abbrev DK (s:Int×Int×Int):HV:=.agg [.int .i64 s.1,.int .i64 s.2.1,.int .i64 s.2.2]
theorem CO {H:Type} {enc:TypeId×Value→H} {P:Program} {W:World} {base:Nat} {t e q:TypeId} {v:Value} {d:DataW H} {ps:List MemPlace} {f0 f1 f2:Field} (ht:P.underlying t=some (.slice e)) (he:P.underlying e=some (.struct #[f0,f1,f2])) (t0:f0.type=q) (t1:f1.type=q) (t2:f2.type=q) (o0:f0.offset=0) (o1:f1.offset=1) (o2:f2.offset=2) (hq:P.underlying q=some (.int .i64)) (ce:P.cellsOf e=3) (cq:P.cellsOf q=1)
  (hval:Value.okWide P W .any base t v) (hd:DataW.Trod enc P W 0 (fun _=>true) true t v d ps):∃l:List (Int×Int×Int),V W (Qk Ctx.nil W.heap.size) Ctx.nil (.imm .arg 3 (l.map DK)) v:=by
 obtain ⟨a,len,cap,rfl⟩:=okWide_slice ht hval
 obtain ⟨fuel,hf⟩:=hd
 rcases open_slice ht hf with ⟨h0,_⟩ | ⟨a',len',cap',m,n,D,Pl,h0,hb,hl,hm,hmm,hx,hel⟩
 ·simp [Value.cells] at h0
  obtain ⟨rfl,rfl,rfl⟩:=h0
  exact ⟨[],.imm .arg 3 [] none 0 (fun _=>.bool false) (by simp) (by simp) (by simp) (by simp) (by simp) (by simp)⟩
 ·simp [Value.cells] at h0
  obtain ⟨rfl,rfl,rfl⟩:=h0
  have hlm:len≤m:=by rw [hmm];split <;> omega
  have each:∀i,i<len→∃p:Int×Int×Int,W.cell? (a'.add (i*3))=some (.int .i64 p.1)∧W.cell? (a'.add (i*3+1))=some (.int .i64 p.2.1)∧W.cell? (a'.add (i*3+2))=some (.int .i64 p.2.2):=by
   intro i hi
   obtain ⟨cs',h1,h2⟩:=hel i (by omega)
   rw [ce] at h1
   obtain ⟨_,hlen,hcell⟩:=World.cells?_some h1
   obtain ⟨y0,y1,y2,k,_,_,g0,g1,g2⟩:=trod_struct3 he h2
   rw [t0,o0,cq] at g0
   rw [t1,o1,cq] at g1
   rw [t2,o2,cq] at g2
   match cs',hlen with
   | [v0,v1,v2],_ =>
    simp at g0 g1 g2
    obtain ⟨z0,e0,_,_⟩:=DataW.trod_int hq g0
    obtain ⟨z1,e1,_,_⟩:=DataW.trod_int hq g1
    obtain ⟨z2,e2,_,_⟩:=DataW.trod_int hq g2
    simp at e0 e1 e2
    subst e0;subst e1;subst e2
    have c0:=hcell 0 (by omega)
    have c1:=hcell 1 (by omega)
    have c2:=hcell 2 (by omega)
    rw [add_add] at c0 c1 c2
    exact ⟨(z0,z1,z2),by simpa using c0,by simpa using c1,by simpa using c2⟩
  obtain ⟨f,hf⟩:=choose_lt each
  refine ⟨(qF len).map f,?_⟩
  have hlen:(((qF len).map f).map DK).length=len:=by simp
  have key:=V.imm (w:=W) (ok:=Qk Ctx.nil W.heap.size) (c:=Ctx.nil) .arg 3 (((qF len).map f).map DK) (some a') cap (fun j=>if j%3=0 then .int .i64 (f (j/3)).1 else if j%3=1 then .int .i64 (f (j/3)).2.1 else .int .i64 (f (j/3)).2.2)
   (by rw [hlen];exact hl) (by simp) ?_ ?_ ?_ ?_
  ·rw [hlen] at key;exact key
  ·intro hne
   have h0:0<len:=by
    rcases Nat.eq_zero_or_pos len with h | h
    ·subst h;simp at hne
    ·exact h
   obtain ⟨b,off,spot⟩:=a'
   have hspot:spot=none:=by simpa [Addr.add] using World.cell?_spot (hf 0 h0).1
   subst hspot
   refine ⟨b,off,rfl,by simpa [Addr.add] using Qie (hf 0 h0).1,QrI W b,fun j hj=>?_⟩
   rw [hlen] at hj
   have hj2:j/3<len:=by omega
   obtain ⟨c0,c1,c2⟩:=hf (j/3) hj2
   by_cases hp:j%3=0
   ·rw [if_pos hp]
    have:j/3*3=j:=by omega
    rw [this,add_plain] at c0
    exact c0
   by_cases hp1:j%3=1
   ·rw [if_neg hp,if_pos hp1]
    have:j/3*3+1=j:=by omega
    rw [this,add_plain] at c1
    exact c1
   ·rw [if_neg hp,if_neg hp1]
    have:j/3*3+2=j:=by omega
    rw [this,add_plain] at c2
    exact c2
  ·intro v hv
   obtain ⟨p,_,rfl⟩:=List.mem_map.1 hv
   rfl
  ·intro v hv
   obtain ⟨p,_,rfl⟩:=List.mem_map.1 hv
   rfl
  ·intro i v j x hi hj
   have hil:i<len:=by have:=Qi hi;rw [hlen] at this;exact this
   have:v=DK (f i):=by
    rw [qL,qL,qV hil] at hi
    simpa using hi.symm
   subst this
   have hjx:j<3:=Qi hj
   match j,hjx,hj with
   | 0,_,hj =>
    simp [DK,cellsOf] at hj
    subst hj
    have e1:(i*3+0)%3=0:=by omega
    have e2:(i*3+0)/3=i:=by omega
    rw [if_pos e1,e2]
    exact V.int _ _
   | 1,_,hj =>
    simp [DK,cellsOf] at hj
    subst hj
    have e0:¬(i*3+1)%3=0:=by omega
    have e1:(i*3+1)%3=1:=by omega
    have e2:(i*3+1)/3=i:=by omega
    rw [if_neg e0,if_pos e1,e2]
    exact V.int _ _
   | 2,_,hj =>
    simp [DK,cellsOf] at hj
    subst hj
    have e0:¬(i*3+2)%3=0:=by omega
    have e1:¬(i*3+2)%3=1:=by omega
    have e2:(i*3+2)/3=i:=by omega
    rw [if_neg e0,if_neg e1,e2]
    exact V.int _ _
end Go.HL
end
