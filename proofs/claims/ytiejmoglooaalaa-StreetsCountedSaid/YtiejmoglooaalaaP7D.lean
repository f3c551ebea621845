/- A part of the proof. -/
import Derived.Test.YtiejmoglooaalaaP7C
set_option linter.unusedVariables false
set_option linter.unusedSimpArgs false
set_option linter.unnecessarySimpa false
open Go.IntKind renaming i64 → qA
open List renaming length_set → qB, replicate → qC, length_append → qD, range → qE, length_map → qG, getElem?_set_ne → qJ, map_cons → qK, getD → qN, length_cons → qO, length_take → qQ, append_nil → qR, mem_cons_self → qS, mem_cons_of_mem → qT, mem_append → qV, map_append → qW, getElem?_set_self → jH, getElem_mem → jI, length_singleton → jN, mem_append_left → jP, filter_append → jQ, getElem?_drop → jV, length_drop → jW, mem_or_eq_of_mem_set → jX, getElem?_eq_none → zC, take_length → zD, nil_append → zE, mem_append_right → zF, filter_cons → zG, range_succ → zH, length_filter_le → zI, set_set → zO, getElem?_append_left → zP, getElem?_take_of_lt → zQ, getElem?_append_right → zS, mem_of_mem_drop → zT, map_map → zU, getElem?_set → zY, length_replicate → zZ, set_getElem_self → wD, getElem?_cons_zero → wE, getElem?_cons_succ → wF, getElem?_eq_getElem → wG
open Nat renaming le_refl → qF, lt_or_ge → qL, pow_succ → qP, mul_comm → qY, mul_add → jU, eq_zero_or_pos → zJ, add_mul_mod_self_left → wA
open Int renaming emod_nonneg → qH, emod_lt_of_pos → qI, mul_emod → qM, mul_assoc → qU, pow_zero → qZ, pow_succ → jA, one_mul → jE, tmod_eq_emod_of_nonneg → jG, dvd_add → jJ, toNat_natCast → jY, sub_mul → jZ, dvd_sub → zA, emod_emod_of_dvd → zL, mul_le_mul → zN, dvd_mul_right → zV, dvd_mul_of_dvd_left → zW, dvd_mul_of_dvd_right → zX, eq_ofNat_of_zero_le → wC
open Bool renaming false_eq_true → qX
section
open Go Go.HL Go.HL.Dt
namespace Go.Proofs.Ytiejmoglooaalaa
set_option linter.unusedSectionVars false
open Go.Proofs.Try renaming prog → Tp
open Go.HL.HV renaming undef → Ud
theorem Gr {K2:List Int} {R2:List Row}:∀{K1:List Int} {R1:List Row},R1.length=K1.length→(∀r∈R2,∀c∈K1,r c=0)→det (K1++K2) (R1++R2)=det K1 R1*det K2 R2
 | [],R1,h,_=>by rw [List.length_eq_zero_iff.1 h];simp [det]
 | c::K1,R1,h,hz=>by
  have key:∀(R P:List Row) (s:Int),P.length+R.length=K1.length+1→ex (det (K1++K2)) c P (R++R2) s=ex (det K1) c P R s*det K2 R2:=by
   intro R
   induction R with
   | nil =>
    intro P s _
    rw [zE,Ui R2 P s fun r hr=>hz r hr c (qS ..)]
    simp [ex]
   | cons r R ih =>
    intro P s hl
    rw [qO] at hl
    have h1:=Gr (K2:=K2) (R2:=R2) (K1:=K1) (R1:=P++R) (by rw [qD];omega) fun r hr c hc=>hz r hr c (qT _ hc)
    have h2:=ih (P++[r]) (-s) (by rw [qD,jN];omega)
    rw [List.append_assoc] at h1
    rw [List.cons_append,ex,ex,h1,h2,Int.add_mul];simp only [qU]
  exact key R1 [] 1 (by rw [h,qO,List.length_nil];omega)
def vt (l:List St) (P E:List Int) (n:Nat) (top:Int):List Int:=((qE n).filter fun (v:Nat)=>decide (lb l P (v:Int)=(v:Int)∧lb l (P++E) (v:Int)=top)).map fun (v:Nat)=>(v:Int)
theorem vt_mem {l:List St} {P E:List Int} {n:Nat} {top x:Int}:x∈vt l P E n top↔(0≤x∧x<(n:Int))∧lb l P x=x∧lb l (P++E) x=top:=by
 simp only [vt,List.mem_map,List.mem_filter,List.mem_range,decide_eq_true_eq]
 constructor
 ·rintro ⟨v,⟨v1,v2,v3⟩,rfl⟩
  exact ⟨by omega,v2,v3⟩
 ·rintro ⟨h1,h2,h3⟩
  have e:((x.toNat:Nat):Int)=x:=by omega
  exact ⟨x.toNat,⟨by omega,by rw [e];exact h2,by rw [e];exact h3⟩,e⟩
theorem Dy (l:List St) (P E:List Int) (n:Nat) (top:Int):(vt l P E n top).Nodup:=by
 rw [vt,List.Nodup,List.pairwise_map]
 exact (List.nodup_range.sublist List.filter_sublist).imp fun {a b} h c=>h (by omega)
structure Cut (cut:List Int→List Int):Prop where
 sub:∀V,(cut V).Sublist V
 len:∀V,(cut V).length=V.length-1
theorem Cut.one {cut:List Int→List Int} (h:Cut cut) {V:List Int} (hn:V.Nodup) {x y:Int} (hx:x∈V) (hy:y∈V) (hx':x∉cut V) (hy':y∉cut V):x=y:=by
 by_cases e:x=y
 ·exact e
 ·exfalso
  have:=VX (a:=x::y::cut V) (b:=V) (List.nodup_cons.2 ⟨fun c=>(List.mem_cons.1 c).elim e hx',List.nodup_cons.2 ⟨hy',hn.sublist (h.sub V)⟩⟩) fun z hz=>by
   rcases List.mem_cons.1 hz with c | c
   ·exact c▸hx
   ·rcases List.mem_cons.1 c with c | c
    ·exact c▸hy
    ·exact (h.sub V).subset c
  have:=h.len V
  simp only [qO] at *
  omega
theorem X7:Cut List.dropLast:=⟨fun V=>List.dropLast_sublist V,fun V=>List.length_dropLast⟩
def Vy (cut:List Int→List Int) (l:List St) (P E:List Int) (n:Nat):Nat→List Int
 | 0=>[]
 | m+1=>Vy cut l P E n m++cut (vt l P E n (m:Int))
def Y2 (cut:List Int→List Int) (l:List St) (P E:List Int) (n:Nat):Nat→Int
 | 0=>1
 | m+1=>Y2 cut l P E n m*det (cut (vt l P E n (m:Int))) ((cut (vt l P E n (m:Int))).map (Lp l P E))
theorem kall_mem {cut:List Int→List Int} {l:List St} {P E:List Int} {n:Nat} {x:Int}:∀{m:Nat},x∈Vy cut l P E n m↔∃top:Nat,top<m∧x∈cut (vt l P E n (top:Int))
 | 0=>by simp [Vy]
 | m+1=>by
  rw [Vy,qV,kall_mem]
  constructor
  ·rintro (⟨t,h1,h2⟩ | h)
   ·exact ⟨t,by omega,h2⟩
   ·exact ⟨m,by omega,h⟩
  ·rintro ⟨t,h1,h2⟩
   rcases Nat.lt_or_eq_of_le (Nat.le_of_lt_succ h1) with c | c
   ·exact .inl ⟨t,c,h2⟩
   ·subst c;exact .inr h2
section
variable {n:Int} {l:List St} (hnet:WC n l=true) {P E:List Int} (hP:InR l P) (hE:InR l E) {cut:List Int→List Int} (hcut:Cut cut)
include hnet hP hE
theorem Gs {v:Int} (hv:0≤v∧v<16):lb l (P++E) (lb l P v)=lb l (P++E) v :=
 Vt (Qz hnet) (hP.app hE) ((Zz (Qz hnet) hP hv).mono fun k hk=>jP _ hk)
theorem QeX {e:Int} (h:e∈E):lb l (P++E) (sA l e)=lb l (P++E) (sB l e):=Ue (Qz hnet) (hP.app hE) (zF _ h)
theorem Qg2 {x y:Int} (hx:(0≤x∧x<16)∧lb l P x=x) (hy:(0≤y∧y<16)∧lb l P y=y) (hne:lb l (P++E) x≠lb l (P++E) y):Lp l P E x y=0:=by
 have he:=Qz hnet
 have key:∀F:List Int,(∀e∈F,e∈E)→Lp l P F x y=0:=by
  intro F
  induction F with
  | nil=>intro _;rfl
  | cons e F ih =>
   intro hF
   have heE:=hF e (qS ..)
   obtain ⟨ea,eb⟩:=Ku he (hE e heE)
   have a1:=Gs hnet hP hE ea
   have b1:=Gs hnet hP hE eb
   have c1:=QeX hnet hP hE heE
   show ed l P e x y+Lp l P F x y=0
   rw [ih fun z hz=>hF z (qT _ hz),ed,dl,dl,dl,dl]
   have q1:lb l P (sA l e)=x→lb l (P++E) (sA l e)=lb l (P++E) x:=fun c=>by rw [← a1,c]
   have q2:lb l P (sB l e)=x→lb l (P++E) (sA l e)=lb l (P++E) x:=fun c=>by rw [c1,← b1,c]
   have q3:lb l P (sA l e)=y→lb l (P++E) (sA l e)=lb l (P++E) y:=fun c=>by rw [← a1,c]
   have q4:lb l P (sB l e)=y→lb l (P++E) (sA l e)=lb l (P++E) y:=fun c=>by rw [c1,← b1,c]
   by_cases d1:lb l P (sA l e)=x∨lb l P (sB l e)=x
   ·have d2:¬lb l P (sA l e)=y:=fun c=>hne (by rcases d1 with d | d;rw [← q1 d,q3 c];rw [← q2 d,q3 c])
    have d3:¬lb l P (sB l e)=y:=fun c=>hne (by rcases d1 with d | d;rw [← q1 d,q4 c];rw [← q2 d,q4 c])
    rw [if_neg d2,if_neg d3];simp
   ·rw [if_neg fun c=>d1 (.inl c),if_neg fun c=>d1 (.inr c)];simp
 exact key E fun e h=>h
end
section
variable {n:Int} {l:List St} (hnet:WC n l=true) {P E:List Int} (hP:InR l P) (hE:InR l E) {cut:List Int→List Int} (hcut:Cut cut)
include hnet hP hE
include hcut
theorem QcJ {m:Nat} {x:Int} (h:x∈Vy cut l P E n.toNat m):(0≤x∧x<16)∧lb l P x=x:=by
 obtain ⟨⟨n1,n2⟩,_⟩:=QT hnet
 obtain ⟨t,_,h2⟩:=kall_mem.1 h
 have:=vt_mem.1 ((hcut.sub _).subset h2)
 exact ⟨by omega,this.2.1⟩
theorem Dz:∀m,(Vy cut l P E n.toNat m).Nodup
 | 0=>List.nodup_nil
 | m+1=>by
  rw [Vy]
  refine List.nodup_append.2 ⟨Dz m,(Dy ..).sublist (hcut.sub _),fun a ha b hb c=>?_⟩
  subst c
  obtain ⟨t,h1,h2⟩:=kall_mem.1 ha
  have e1:=(vt_mem.1 ((hcut.sub _).subset h2)).2.2
  have e2:=(vt_mem.1 ((hcut.sub _).subset hb)).2.2
  omega
theorem SR:∀m,Y2 cut l P E n.toNat m=det (Vy cut l P E n.toNat m) ((Vy cut l P E n.toNat m).map (Lp l P E))
 | 0=>rfl
 | m+1=>by
  obtain ⟨⟨n1,n2⟩,_⟩:=QT hnet
  rw [Y2,SR m,Vy,qW,Gr (by rw [qG])]
  intro r hr c hc
  obtain ⟨x,hx,rfl⟩:=List.mem_map.1 hr
  have hx':=vt_mem.1 ((hcut.sub _).subset hx)
  obtain ⟨t,h1,h2⟩:=kall_mem.1 hc
  have hc':=vt_mem.1 ((hcut.sub _).subset h2)
  exact Qg2 hnet hP hE ⟨by omega,hx'.2.1⟩ ⟨by omega,hc'.2.1⟩ (by rw [hx'.2.2,hc'.2.2];omega)
theorem DA:Y2 cut l P E n.toNat n.toNat=(cnt l P E (Vy cut l P E n.toNat n.toNat).length:Int):=by
 have he:=Qz hnet
 obtain ⟨⟨n1,n2⟩,_⟩:=QT hnet
 have hE':∀k,0≤k∧k<(l.length:Int)→sA l k<n∧sB l k<n:=fun k hk=>by have:=Jg hnet hk;omega
 rw [SR hnet hP hE hcut]
 refine mt he (χ:=fun v=>lb l (P++E) v) _ P _ E (qF _) hP hE (Dz hnet hP hE hcut _) (fun x hx=>QcJ hnet hP hE hcut hx) (fun e hm=>?_) fun x y hx hy hxK hyK hxy=>?_
 ·obtain ⟨ea,eb⟩:=Ku he (hE e hm)
  show lb l (P++E) (lb l P (sA l e))=lb l (P++E) (lb l P (sB l e))
  rw [Gs hnet hP hE ea,Gs hnet hP hE eb,QeX hnet hP hE hm]
 ·have hxy:lb l (P++E) x=lb l (P++E) y:=hxy
  have o1:=Dr hE' (hP.app hE) (Zz he (hP.app hE) hx.1)
  have o2:=Dr hE' (hP.app hE) (Zz he (hP.app hE) hy.1)
  have r1:=W2 he (hP.app hE) hx.1
  have r2:=W2 he (hP.app hE) hy.1
  by_cases cx:x<n
  ·have hyn:y<n:=by omega
   have htop:lb l (P++E) x<n:=by omega
   have v1:x∈vt l P E n.toNat (((lb l (P++E) x).toNat:Nat):Int):=vt_mem.2 ⟨by omega,hx.2,by omega⟩
   have v2:y∈vt l P E n.toNat (((lb l (P++E) x).toNat:Nat):Int):=vt_mem.2 ⟨by omega,hy.2,by omega⟩
   exact hcut.one (Dy ..) v1 v2 (fun c=>hxK (kall_mem.2 ⟨_,by omega,c⟩)) (fun c=>hyK (kall_mem.2 ⟨_,by omega,c⟩))
  ·omega
theorem DB:(Vy cut l P E n.toNat n.toNat).length+(tkT l P).length=(tkT l (P++E)).length:=by
 have he:=Qz hnet
 obtain ⟨⟨n1,n2⟩,_⟩:=QT hnet
 have r1:=QbN hnet hP
 have r2:=QbN hnet (hP.app hE)
 have hE':∀k,0≤k∧k<(l.length:Int)→sA l k<n∧sB l k<n:=fun k hk=>by have:=Jg hnet hk;omega
 have key:∀m:Nat,(Vy cut l P E n.toNat m).length+((qE m).filter fun (t:Nat)=>decide (vt l P E n.toNat (t:Int)≠[])).length=((rts l P n.toNat).filter fun (v:Nat)=>decide (lb l (P++E) (v:Int)<(m:Int))).length:=by
  intro m
  induction m with
  | zero =>
   have:((rts l P n.toNat).filter fun (v:Nat)=>decide (lb l (P++E) (v:Int)<((0:Nat):Int)))=[]:=List.filter_eq_nil_iff.2 fun v hv h=>by
    have hv:=List.mem_range.1 (List.mem_filter.1 hv).1
    have:=W2 he (hP.app hE) (v:=(v:Int)) (by omega)
    have:=of_decide_eq_true h
    omega
   rw [this];rfl
  | succ m ih =>
   have h1:((rts l P n.toNat).filter fun (v:Nat)=>decide (lb l (P++E) (v:Int)<((m+1:Nat):Int))).length=((rts l P n.toNat).filter fun (v:Nat)=>decide (lb l (P++E) (v:Int)<(m:Int))).length+(vt l P E n.toNat (m:Int)).length:=by
    have e:(vt l P E n.toNat (m:Int)).length=((rts l P n.toNat).filter fun (v:Nat)=>decide (lb l (P++E) (v:Int)=(m:Int))).length:=by
     rw [vt,qG,rts,List.filter_filter]
     refine congrArg _ (List.filter_congr fun v _=>?_)
     rw [← Bool.decide_and,decide_eq_decide]
     exact ⟨fun h=>⟨h.2,h.1⟩,fun h=>⟨h.2,h.1⟩⟩
    rw [e]
    have gen:∀s:List Nat,(s.filter fun (v:Nat)=>decide (lb l (P++E) (v:Int)<((m+1:Nat):Int))).length=(s.filter fun (v:Nat)=>decide (lb l (P++E) (v:Int)<(m:Int))).length+(s.filter fun (v:Nat)=>decide (lb l (P++E) (v:Int)=(m:Int))).length:=by
     intro s
     induction s with
     | nil=>rfl
     | cons v s ihs =>
      simp only [zG]
      by_cases c1:lb l (P++E) (v:Int)<(m:Int)
      ·have c2:lb l (P++E) (v:Int)<((m+1:Nat):Int):=by omega
       have c3:¬lb l (P++E) (v:Int)=(m:Int):=by omega
       simp only [c1,c2,c3,decide_true,decide_false,if_true,qX,if_false,qO];omega
      ·by_cases c3:lb l (P++E) (v:Int)=(m:Int)
       ·have c2:lb l (P++E) (v:Int)<((m+1:Nat):Int):=by omega
        simp only [decide_eq_false c1,decide_eq_true c2,decide_eq_true c3,if_true,qX,if_false,qO]
        omega
       ·have c2:¬lb l (P++E) (v:Int)<((m+1:Nat):Int):=by omega
        simp only [c1,c2,c3,decide_false,qX,if_false];omega
    exact gen _
   rw [h1,← ih,Vy,qD,hcut.len,zH,jQ,qD]
   by_cases c:vt l P E n.toNat (m:Int)=[]
   ·rw [c]
    simp [c]
   ·have:1≤(vt l P E n.toNat (m:Int)).length:=List.length_pos_iff.2 c
    simp only [zG,List.filter_nil,ne_eq,c,not_false_eq_true,decide_true,if_true,jN]
    revert this
    generalize (vt l P E n.toNat (m:Int)).length=z
    generalize (List.filter _ (qE m)).length=y
    generalize (Vy cut l P E n.toNat m).length=x
    intro this
    omega
 have k:=key n.toNat
 have e1:((rts l P n.toNat).filter fun (v:Nat)=>decide (lb l (P++E) (v:Int)<((n.toNat:Nat):Int)))=rts l P n.toNat:=List.filter_eq_self.2 fun v hv=>by
  have hv:=List.mem_range.1 (List.mem_filter.1 hv).1
  have:=W2 he (hP.app hE) (v:=(v:Int)) (by omega)
  exact decide_eq_true (by omega)
 have e2:((qE n.toNat).filter fun (t:Nat)=>decide (vt l P E n.toNat (t:Int)≠[]))=rts l (P++E) n.toNat:=List.filter_congr fun v hv=>by
  have hv:=List.mem_range.1 hv
  have hr:0≤(v:Int)∧(v:Int)<16:=by omega
  rw [decide_eq_decide]
  constructor
  ·intro h
   obtain ⟨x,hx⟩:=List.exists_mem_of_ne_nil _ h
   obtain ⟨x1,x2,x3⟩:=vt_mem.1 hx
   have:=W2 he (hP.app hE) (v:=x) (by omega)
   rw [x3] at this
   exact this.2.2
  ·intro h c
   have h1:=SG he hP (hP.app hE) (fun k hk=>jP _ hk) hr
   have h2:=W2 he hP hr
   have:(v:Int)∈vt l P E n.toNat (v:Int):=vt_mem.2 ⟨by omega,by omega,h⟩
   rw [c] at this
   cases this
 rw [e1,e2] at k
 omega
end
def ofW (l:List St) (x:Int) (t:List Int):List Int:=t.filter fun k=>decide (wOf l k=x)
theorem of_mem {l:List St} {x:Int} {t:List Int} {y:Int}:y∈ofW l x t↔y∈t∧wOf l y=x:=by rw [ofW,List.mem_filter,decide_eq_true_eq]
abbrev rk (l:List St) (t:List Int):Nat:=(tkT l t).length
abbrev alS (l:List St):List Int:=Qg l.length
theorem Gt (l:List St):InR l (alS l):=fun k hk=>startT_mem.1 hk
theorem Y0 (l:List St) (x:Int):InR l (loW l x (alS l)):=fun k hk=>Gt l k (lo_mem.1 hk).1
theorem Gu (l:List St) (x:Int):InR l (ofW l x (alS l)):=fun k hk=>Gt l k (of_mem.1 hk).1
section
variable {n:Int} {l:List St} (hnet:WC n l=true)
include hnet
theorem QeY {cut cut':List Int→List Int} (hc:Cut cut) (hc':Cut cut') {P P' E E':List Int} (hP:InR l P) (hE:InR l E) (hs:∀k,k∈P↔k∈P') (hp:E.Perm E') :
  Y2 cut l P E n.toNat n.toNat=Y2 cut' l P' E' n.toNat n.toNat:=by
 have he:=Qz hnet
 have hP':InR l P':=fun k hk=>hP k ((hs k).2 hk)
 have hE':InR l E':=fun k hk=>hE k (hp.mem_iff.2 hk)
 rw [DA hnet hP hE hc,DA hnet hP' hE' hc']
 have k1:=DB hnet hP hE hc
 have k2:=DB hnet hP' hE' hc'
 have e1:=Q7 he hP hs
 have e2:rk l (P++E)=rk l (P'++E'):=Q7 he (hP.app hE) fun k=>by rw [qV,qV,hs,hp.mem_iff]
 unfold rk at e2
 have e3:(Vy cut l P E n.toNat n.toNat).length=(Vy cut' l P' E' n.toNat n.toNat).length:=by omega
 rw [e3,SQ he hP hE hp]
 refine congrArg _ (Zg fun F hF=>?_)
 unfold fo
 rw [e1,Q7 he (hP.app fun x hx=>hE' x (hF.subset hx)) (t':=P'++F) fun k=>by rw [qV,qV,hs]]
theorem QcK {F P:List Int} (hP:InR l P) (hF:∀k∈F,k∈P) (hr:rk l F=rk l P) {u v:Int} (h:Cn l P u v):Cn l F u v:=by
 have he:=Qz hnet
 have hFi:InR l F:=fun k hk=>hP k (hF k hk)
 induction h with
 | refl v=>exact .refl v
 | symm _ ih=>exact .symm ih
 | trans _ _ a b=>exact .trans a b
 | @edge k hk =>
  obtain ⟨ea,eb⟩:=Ku he (hP k hk)
  refine (XC he hFi ea eb).1 ?_
  have h1:=VT l F k
  by_cases c:(Qy l F).getD (sA l k).toNat 0=(Qy l F).getD (sB l k).toNat 0
  ·exact c
  ·exfalso
   rw [if_pos c] at h1
   have h2:=VV he (t:=F++[k]) (t':=P) (hFi.app (.one (hP k hk))) hP fun u v huv=>huv.mono fun x hx=>(List.mem_append.1 hx).elim (hF x) fun e=>(List.mem_singleton.1 e)▸hk
   rw [h1,qD,jN] at h2
   unfold rk at hr
   omega
theorem QeZ {F P:List Int} (hP:InR l P) (hF:∀k∈F,k∈P):rk l F≤rk l P :=
 VV (Qz hnet) (fun k hk=>hP k (hF k hk)) hP fun _ _ huv=>huv.mono hF
theorem Qov {F P G:List Int} (hP:InR l P) (hG:InR l G) (hF:∀k∈F,k∈P) (hr:rk l F=rk l P):rk l (F++G)=rk l (P++G):=by
 have hFi:InR l F:=fun k hk=>hP k (hF k hk)
 refine Nat.le_antisymm (QeZ hnet (hP.app hG) fun k hk=>(List.mem_append.1 hk).elim (fun h=>jP _ (hF k h)) (zF _)) ?_
 refine VV (Qz hnet) (hP.app hG) (hFi.app hG) fun u v huv=>?_
 induction huv with
 | refl v=>exact .refl v
 | symm _ ih=>exact .symm ih
 | trans _ _ a b=>exact .trans a b
 | @edge k hk =>
  rcases List.mem_append.1 hk with c | c
  ·exact (QcK hnet hP hF hr (.edge c)).mono fun x hx=>jP _ hx
  ·exact .edge (zF _ c)
end
def cN (l:List St):Nat→Nat
 | 0=>1
 | w+1=>cN l w*cnt l (loW l ((w:Int)-1) (alS l)) (ofW l w (alS l)) (rk l (loW l w (alS l))-rk l (loW l ((w:Int)-1) (alS l)))
def cW (cut:List Int→List Int) (n:Int) (l:List St):Nat→Int
 | 0=>1
 | w+1=>cW cut n l w*Y2 cut l (loW l ((w:Int)-1) (alS l)) (ofW l w (alS l)) n.toNat n.toNat
def DC (l:List St) (w:Nat) (F:List Int):Bool:=decide (rk l F=F.length∧∀x:Nat,x<w→(loW l x F).length=rk l (loW l x (alS l)))
theorem X8 (l:List St) (w:Int):∀t:List Int,(loW l w t).Perm (loW l (w-1) t++ofW l w t)
 | []=>.refl _
 | k::t=>by
  have ih:=X8 l w t
  unfold loW ofW at *
  simp only [zG]
  by_cases c:wOf l k≤w-1
  ·rw [decide_eq_true c,decide_eq_true (by omega),decide_eq_false (by omega)]
   exact ih.cons k
  ·by_cases c2:wOf l k=w
   ·rw [decide_eq_false c,decide_eq_true (by omega),decide_eq_true c2]
    exact (ih.cons k).trans List.perm_middle.symm
   ·rw [decide_eq_false c,decide_eq_false (by omega),decide_eq_false c2]
    exact ih
theorem Ck {l:List St} {x:Int} {t:List Int} (h:∀k∈t,wOf l k≤x):loW l x t=t:=List.filter_eq_self.2 fun k hk=>decide_eq_true (h k hk)
theorem Cl {l:List St} {x:Int} {t:List Int} (h:∀k∈t,x<wOf l k):loW l x t=[]:=List.filter_eq_nil_iff.2 fun k hk c=>by have:=h k hk;have:=of_decide_eq_true c;omega
theorem Qow (l:List St) (x:Int) (s t:List Int):loW l x (s++t)=loW l x s++loW l x t:=jQ ..
theorem VY (l:List St) (t:List Int) (m:Nat):ZT l t (m+1)=ZT l t m+(hiW l (m:Int) t).length:=rfl
theorem QcL {l:List St} (he:Jk l=true) {w:Nat} {F F':List Int} (hF:InR l F) (h:F.Perm F'):DC l w F=DC l w F':=by
 unfold DC
 have e:rk l F=rk l F':=Q7 he hF fun x=>h.mem_iff
 have e2:∀x:Int,(loW l x F).length=(loW l x F').length:=fun x=>(h.filter _).length_eq
 simp only [e,e2,h.length_eq]
section
variable {n:Int} {l:List St} (hnet:WC n l=true)
include hnet
theorem Qip {w:Nat}:rk l (loW l ((w:Int)-1) (alS l))+(rk l (loW l w (alS l))-rk l (loW l ((w:Int)-1) (alS l)))=rk l (loW l w (alS l)):=by
 have:=QeZ hnet (Y0 l w) (F:=loW l ((w:Int)-1) (alS l)) fun k hk=>lo_mem.2 ⟨(lo_mem.1 hk).1,by have:=(lo_mem.1 hk).2;omega⟩
 omega
theorem Cm:∀w:Nat,cN l w=Wr (DC l w) (loW l ((w:Int)-1) (alS l))
 | 0=>by
  have:loW l (((0:Nat):Int)-1) (alS l)=[]:=Cl fun k hk=>by have:=(X6 hnet (Gt l k hk)).1;omega
  rw [this,cN,Wr,if_pos]
  exact decide_eq_true ⟨rfl,fun x h=>by omega⟩
 | w+1=>by
  have he:=Qz hnet
  have e1:(((w+1:Nat):Int))-1=(w:Int):=by omega
  rw [e1,Gp (X8 l (w:Int) (alS l)) fun F F' hF hFF=>QcL he (fun x hx=>Y0 l w x (hF x hx)) hFF,cN,Cm w,cnt]
  refine (Dw fun F G hF hG=>?_).symm
  have hF1:∀k∈F,k∈loW l ((w:Int)-1) (alS l):=fun k hk=>hF.subset hk
  have hG1:∀k∈G,k∈ofW l w (alS l):=fun k hk=>hG.subset hk
  have hFi:InR l F:=fun k hk=>Y0 l _ k (hF1 k hk)
  have hGi:InR l G:=fun k hk=>Gu l _ k (hG1 k hk)
  have f1:∀x:Nat,x<w→loW l x (F++G)=loW l x F:=fun x hx=>by
   rw [Qow,Cl (t:=G) fun k hk=>by have:=(of_mem.1 (hG1 k hk)).2;omega,qR]
  have f2:loW l (w:Int) (F++G)=F++G:=Ck fun k hk=>(List.mem_append.1 hk).elim (fun h=>by have:=(lo_mem.1 (hF1 k h)).2;omega) fun h=>by have:=(of_mem.1 (hG1 k h)).2;omega
  have f3:(∀x:Nat,x<w→(loW l x F).length=rk l (loW l x (alS l)))→F.length=rk l (loW l ((w:Int)-1) (alS l)):=fun h=>by
   cases w with
   | zero =>
    have:loW l (((0:Nat):Int)-1) (alS l)=[]:=Cl fun k hk=>by have:=(X6 hnet (Gt l k hk)).1;omega
    rw [this] at hF1 ⊢
    have:F=[]:=List.eq_nil_iff_forall_not_mem.2 fun k hk=>by cases hF1 k hk
    rw [this];rfl
   | succ w =>
    have e2:(((w+1:Nat):Int))-1=(w:Int):=by omega
    rw [e2] at hF1 ⊢
    rw [← h w (by omega),Ck fun k hk=>(lo_mem.1 (hF1 k hk)).2]
  have hr:=Qip hnet (w:=w)
  have key:rk l F=F.length→F.length=rk l (loW l ((w:Int)-1) (alS l))→rk l (F++G)=rk l (loW l ((w:Int)-1) (alS l)++G):=fun a b=>Qov hnet (Y0 l _) hGi hF1 (by omega)
  show DC l (w+1) (F++G)=(DC l w F&&fo l (loW l ((w:Int)-1) (alS l)) (rk l (loW l w (alS l))-rk l (loW l ((w:Int)-1) (alS l))) G)
  unfold DC fo
  rw [← Bool.decide_and,decide_eq_decide]
  constructor
  ·rintro ⟨a,b⟩
   have b1:∀x:Nat,x<w→(loW l x F).length=rk l (loW l x (alS l)):=fun x hx=>by rw [← f1 x hx];exact b x (by omega)
   have b2:=b w (by omega)
   rw [f2,qD] at b2
   have b3:=f3 b1
   rw [qD] at a
   have b4:=Yq l F G
   have b5:=QeG l F
   have b6:rk l F=F.length:=by unfold rk at *;omega
   have b7:=key b6 b3
   refine ⟨⟨b6,b1⟩,?_,by omega⟩
   unfold rk at *;omega
  ·rintro ⟨⟨a,b⟩,c,d⟩
   have b3:=f3 b
   have b7:=key a b3
   have b8:rk l (F++G)=(F++G).length:=by rw [qD];unfold rk at *;omega
   refine ⟨b8,fun x hx=>?_⟩
   by_cases cx:x<w
   ·rw [f1 x cx];exact b x cx
   ·have:x=w:=by omega
    subst this
    rw [f2,qD];omega
theorem Qe0 {cut:List Int→List Int} (hc:Cut cut):∀w,cW cut n l w=(cN l w:Int)
 | 0=>rfl
 | w+1=>by
  have k1:=DB hnet (Y0 l ((w:Int)-1)) (Gu l w) hc
  have k2:=Qip hnet (w:=w)
  have e2:rk l (loW l ((w:Int)-1) (alS l)++ofW l w (alS l))=rk l (loW l w (alS l)):=Q7 (Qz hnet) ((Y0 l _).app (Gu l _)) fun k=>(X8 l (w:Int) (alS l)).mem_iff.symm
  unfold rk at k2 e2
  rw [cW,Qe0 hc w,DA hnet (Y0 l _) (Gu l _) hc,cN,Int.natCast_mul]
  congr 3
  unfold rk
  omega
theorem Qsa (w:Nat):cN l w≤2 ^ 60:=by
 rw [Cm hnet w]
 refine Nat.le_trans (QeT _) (Nat.pow_le_pow_right (by omega) ?_)
 have h1:(loW l ((w:Int)-1) (alS l)).length≤(alS l).length:=zI ..
 rw [QM] at h1
 have:=(QT hnet).2.1
 omega
theorem QcM (hc:Wk n l=true) {F:List Int} (hF:InR l F) (hn:F.Nodup):DC l 1001 F=true↔Tr n l F∧wgt l F=wgt l (Qd l):=by
 have ht:=JP hnet hc
 have hL:=Gm (l:=l) hnet
 have hloc:∀x:Int,(loW l x (Qd l)).length=rk l (loW l x (alS l)):=YZ hnet ht hL
 have hw:∀{t:List Int},InR l t→loW l ((1000:Nat):Int) t=t:=fun h=>Ck fun k hk=>(X6 hnet (h k hk)).2
 have hwe:∀{t:List Int},InR l t→wgt l t=(ZT l t 1000:Int):=fun h=>Uf l (M:=1000) _ fun k hk=>X6 hnet (h k hk)
 unfold DC
 rw [decide_eq_true_eq]
 constructor
 ·rintro ⟨a,b⟩
  have b0:=b 1000 (by omega)
  have h0:=hloc ((1000:Nat):Int)
  rw [hw hF] at b0
  rw [hw ht.rg] at h0
  have hl:F.length=(Qd l).length:=by omega
  refine ⟨⟨hF,hn,by have:=ht.ln;omega,a⟩,?_⟩
  rw [hwe hF,hwe ht.rg]
  have key:∀m,m≤1000→ZT l F m=ZT l (Qd l) m:=by
   intro m
   induction m with
   | zero=>intro _;rfl
   | succ m ih =>
    intro hm
    rw [ZT,ZT,ih (by omega)]
    have c1:=b m (by omega)
    have c2:=hloc (m:Int)
    have c3:=W3 l (m:Int) F
    have c4:=W3 l (m:Int) (Qd l)
    omega
  rw [key 1000 (qF _)]
 ·rintro ⟨hT,he⟩
  refine ⟨hT.fo,?_⟩
  rw [hwe hF,hwe ht.rg] at he
  have he:ZT l F 1000=ZT l (Qd l) 1000:=by omega
  have hl:F.length=(Qd l).length:=by have:=hT.ln;have:=ht.ln;omega
  have hi:∀m:Nat,(hiW l (m:Int) (Qd l)).length≤(hiW l (m:Int) F).length:=fun m=>by
   have c1:(loW l (m:Int) F).length≤rk l (loW l (m:Int) (alS l)):=Cf hnet hT (m:Int)
   have c2:=hloc (m:Int)
   have c3:=W3 l (m:Int) F
   have c4:=W3 l (m:Int) (Qd l)
   omega
  have key:∀m,m≤1000→ZT l F m+(ZT l (Qd l) 1000-ZT l (Qd l) m)≤ZT l F 1000+0∧ZT l (Qd l) m≤ZT l (Qd l) 1000:=by
   intro m hm
   obtain ⟨d,hd⟩:∃d,m+d=1000:=⟨1000-m,by omega⟩
   clear hm he
   induction d generalizing m with
   | zero =>
    have:m=1000:=by omega
    subst this
    omega
   | succ d ih =>
    have:=ih (m+1) (by omega)
    have l1:=VY l F m
    have l2:=VY l (Qd l) m
    have:=hi m
    omega
  intro x hx
  by_cases cx:x=1000
  ·subst cx
   have h0:=hloc ((1000:Nat):Int)
   rw [hw ht.rg] at h0
   rw [hw hF,hl]
   exact h0
  ·have k1:=key (x+1) (by omega)
   have k2:=Yr hi x
   have l1:=VY l F x
   have l2:=VY l (Qd l) x
   have c1:=hi x
   have c3:=W3 l (x:Int) F
   have c4:=W3 l (x:Int) (Qd l)
   have c5:=hloc (x:Int)
   omega
theorem Qox:cN l 1001=Wr (DC l 1001) (alS l):=by
 have e:(((1001:Nat):Int))-1=1000:=by omega
 rw [Cm hnet,e,Ck fun k hk=>(X6 hnet (Gt l k hk)).2]
end
end Go.Proofs.Ytiejmoglooaalaa
end
section
namespace Go.HL.Dt
set_option linter.unusedSectionVars false
open Go.Proofs.Try renaming prog → Tp
open Go.HL.HV renaming undef → Ud
def nd (p:Nat):Nat→Nat→Bool
 | 0,lo=>!(Nat.beq (p%lo) 0)
 | k+1,lo=>nd p k lo&&nd p k (lo+2 ^ k)
theorem Qe1 {p:Nat}:∀{k lo:Nat},nd p k lo=true→∀d,lo≤d→d<lo+2 ^ k→¬d∣p
 | 0,lo,h,d,h1,h2=>by
  have:d=lo:=by omega
  subst this
  intro c
  have e:=Nat.mod_eq_zero_of_dvd c
  simp [nd,e] at h
 | k+1,lo,h,d,h1,h2=>by
  rw [nd,Bool.and_eq_true] at h
  rw [qP] at h2
  rcases qL d (lo+2 ^ k) with c | c
  ·exact Qe1 h.1 d h1 c
  ·exact Qe1 h.2 d c (by omega)
structure Pr (p:Nat):Prop where
 big:65537<p
 small:p<4294967296
 nod:nd p 16 2=true
theorem Pr.cop {p:Nat} (h:Pr p) {k:Nat} (h0:0<k) (h1:k<p):Nat.Coprime p k:=by
 have hno:∀d,2≤d→d<65538→¬d∣p:=fun d a b=>Qe1 h.nod d a (by omega)
 have hg1:=Nat.gcd_dvd_left p k
 have hg2:=Nat.gcd_dvd_right p k
 have hg3:Nat.gcd p k≤k:=Nat.le_of_dvd h0 hg2
 have hg4:0<Nat.gcd p k:=Nat.gcd_pos_of_pos_right _ h0
 unfold Nat.Coprime
 generalize Nat.gcd p k=g at *
 rcases qL g 2 with c | c
 ·omega
 ·exfalso
  obtain ⟨q,hq⟩:=hg1
  rcases qL g 65538 with d | d
  ·exact hno g c d ⟨q,hq⟩
  ·rcases qL q 65538 with e | e
   ·rcases qL q 2 with f | f
    ·have:q=0∨q=1:=by omega
     rcases this with rfl | rfl
     ·rw [Nat.mul_zero] at hq;omega
     ·rw [Nat.mul_one] at hq;omega
    ·exact hno q f e ⟨g,by rw [qY];exact hq⟩
   ·have:=Nat.mul_le_mul d e
    have:=h.small
    omega
def ch:Nat→Nat→Nat
 | _,0=>1
 | 0,_+1=>0
 | n+1,k+1=>ch n k+ch n (k+1)
theorem Co:∀n k:Nat,(k+1)*ch (n+1) (k+1)=(n+1)*ch n k
 | 0,0=>rfl
 | 0,k+1=>by simp [ch]
 | n+1,0=>by
  have:=Co n 0
  simp only [ch] at this ⊢
  omega
 | n+1,k+1=>by
  have h1:=Co n k
  have h2:=Co n (k+1)
  have e1:ch (n+1+1) (k+1+1)=ch (n+1) (k+1)+ch (n+1) (k+1+1):=rfl
  have e2:ch (n+1) (k+1)=ch n k+ch n (k+1):=rfl
  rw [e1,jU,h2]
  have:(k+1+1)*ch (n+1) (k+1)=(k+1)*ch (n+1) (k+1)+ch (n+1) (k+1):=by rw [Nat.add_mul (k+1) 1,Nat.one_mul]
  rw [this,h1,e2]
  simp only [jU,Nat.add_mul,Nat.one_mul]
  omega
theorem Cp:∀n k:Nat,n<k→ch n k=0
 | n,0,h=>by omega
 | 0,k+1,_=>rfl
 | n+1,k+1,h=>by rw [ch,Cp n k (by omega),Cp n (k+1) (by omega)]
theorem QbO:∀n:Nat,ch n n=1
 | 0=>rfl
 | n+1=>by rw [ch,QbO n,Cp n (n+1) (by omega)]
def S (f:Nat→Nat):Nat→Nat
 | 0=>0
 | m+1=>S f m+f m
theorem Qiq (a n:Nat):∀m,S (fun k=>ch (n+1) k*a ^ k) (m+1)=S (fun k=>ch n k*a ^ k) (m+1)+a*S (fun k=>ch n k*a ^ k) m
 | 0=>by simp [S,ch]
 | m+1=>by
  have ih:=Qiq a n m
  have e1:S (fun k=>ch (n+1) k*a ^ k) (m+1+1)=S (fun k=>ch (n+1) k*a ^ k) (m+1)+ch (n+1) (m+1)*a ^ (m+1):=rfl
  have e2:S (fun k=>ch n k*a ^ k) (m+1+1)=S (fun k=>ch n k*a ^ k) (m+1)+ch n (m+1)*a ^ (m+1):=rfl
  have e3:S (fun k=>ch n k*a ^ k) (m+1)=S (fun k=>ch n k*a ^ k) m+ch n m*a ^ m:=rfl
  rw [e1,ih,e2,show ch (n+1) (m+1)=ch n m+ch n (m+1) from rfl,Nat.add_mul]
  conv=>rhs;rw [e3]
  rw [e3,jU,qP]
  have:a*(ch n m*a ^ m)=ch n m*(a ^ m*a):=by rw [Nat.mul_left_comm,qY a (a ^ m)]
  rw [this]
  omega
theorem Qir (a:Nat):∀n,(a+1) ^ n=S (fun k=>ch n k*a ^ k) (n+1)
 | 0=>by simp [S,ch]
 | n+1=>by
  have ih:=Qir a n
  have h:=Qiq a n (n+1)
  have e:S (fun k=>ch n k*a ^ k) (n+1+1)=S (fun k=>ch n k*a ^ k) (n+1):=by
   show S (fun k=>ch n k*a ^ k) (n+1)+ch n (n+1)*a ^ (n+1)=_
   rw [Cp n (n+1) (by omega)];omega
  rw [h,e,← ih,qP,jU,Nat.mul_one,qY a]
  omega
theorem Pr.ch_dvd {p:Nat} (h:Pr p) {k:Nat} (h0:0<k) (h1:k<p):p∣ch p k:=by
 obtain ⟨q,rfl⟩:∃q,p=q+1:=⟨p-1,by omega⟩
 obtain ⟨k,rfl⟩:∃j,k=j+1:=⟨k-1,by omega⟩
 have:=Co q k
 exact (h.cop h0 h1).dvd_of_dvd_mul_left ⟨ch q k,this⟩
theorem Pr.fermat {p:Nat} (h:Pr p):∀a:Nat,a ^ p%p=a%p
 | 0=>by
  have:p≠0:=by have:=h.big;omega
  rw [Nat.zero_pow (by omega)]
 | a+1=>by
  have ih:=h.fermat a
  have hp:=h.big
  have key:∀m,1≤m→m≤p→S (fun k=>ch p k*a ^ k) m%p=1%p:=by
   intro m
   induction m with
   | zero=>intro h1 _;omega
   | succ m ihm =>
    intro _ h2
    rcases zJ m with c | c
    ·subst c;simp [S,ch]
    ·have e:=ihm c (by omega)
     obtain ⟨q,hq⟩:=h.ch_dvd c (by omega)
     show (S (fun k=>ch p k*a ^ k) m+ch p m*a ^ m)%p=1%p
     rw [hq,Nat.mul_assoc,wA]
     exact e
  rw [Qir a p]
  show (S (fun k=>ch p k*a ^ k) p+ch p p*a ^ p)%p=_
  rw [QbO,Nat.one_mul,Nat.add_mod,key p (by omega) (qF _),ih,← Nat.add_mod,Nat.add_comm]
theorem Pr.inv {p:Nat} (h:Pr p) {a:Nat} (h0:0<a) (h1:a<p):a*(a ^ (p-2))%p=1:=by
 have hp:=h.big
 have hf:=h.fermat a
 have e:a ^ p=a*(a*a ^ (p-2)):=by
  have:p=p-2+1+1:=by omega
  conv=>lhs;rw [this]
  rw [qP,qP,qY,qY (a ^ (p-2))]
 rw [e] at hf
 generalize a*a ^ (p-2)=X at *
 have hc:=h.cop h0 h1
 rcases zJ X with c | c
 ·subst c
  rw [Nat.mul_zero,Nat.zero_mod,Nat.mod_eq_of_lt h1] at hf
  omega
 ·have hd:p∣a*(X-1):=by
   have h2:(a*X-a)%p=0:=Nat.sub_mod_eq_zero_of_mod_eq hf
   have h3:a*(X-1)=a*X-a:=by rw [Nat.mul_sub,Nat.mul_one]
   rw [h3]
   exact Nat.dvd_of_mod_eq_zero h2
  obtain ⟨q,hq⟩:=hc.dvd_of_dvd_mul_left hd
  have:X=1+p*q:=by omega
  rw [this,wA,Nat.mod_eq_of_lt (by omega)]
def pw (a:Int) (n:Nat) (p:Int):Int:=a ^ n%p
theorem Pr.invI {p:Nat} (h:Pr p) {a:Int} (h0:0<a) (h1:a<(p:Int)):a*pw a (p-2) (p:Int)%(p:Int)=1:=by
 obtain ⟨b,rfl⟩:=wC (Int.le_of_lt h0)
 have:=h.inv (a:=b) (by omega) (by omega)
 unfold pw
 have e:(b:Int) ^ (p-2)=((b ^ (p-2):Nat):Int):=by rw [Int.natCast_pow]
 rw [e,qM,zL _ (Int.dvd_refl _),← qM]
 have e2:(b:Int)*((b ^ (p-2):Nat):Int)=((b*b ^ (p-2):Nat):Int):=by rw [Int.natCast_mul]
 rw [e2]
 have e3:((b*b ^ (p-2):Nat):Int)%(p:Int)=((b*b ^ (p-2)%p:Nat):Int):=by rw [Int.natCast_emod]
 rw [e3,this];rfl
theorem SS (b p:Int):∀m:Nat,(b%p) ^ m%p=b ^ m%p
 | 0=>by rw [qZ,qZ]
 | m+1=>by
  rw [jA,jA,qM,SS b p m,zL _ (Int.dvd_refl p),← qM]
def pwL (p:Int):Nat→Int→Int→Nat→Int
 | 0,out,_,_=>out
 | k+1,out,a,n=>if n=0 then out else pwL p k (if n%2=1 then out*a%p else out) (a*a%p) (n/2)
theorem QaO {p:Int} (hp:1<p):∀(k:Nat) (out a:Int) (n:Nat),n<2 ^ k→0≤out→out<p→pwL p k out a n=out*a ^ n%p
 | 0,out,a,n,h,h0,h1=>by
  have:n=0:=by omega
  subst this
  rw [pwL,qZ,Int.mul_one,Int.emod_eq_of_lt h0 h1]
 | k+1,out,a,n,h,h0,h1=>by
  rw [pwL]
  split
  ·rename_i e
   subst e
   rw [qZ,Int.mul_one,Int.emod_eq_of_lt h0 h1]
  ·rename_i e
   rw [qP] at h
   have hq:∀(x:Int) (m:Nat),(x*(a*a%p) ^ m)%p=x*(a*a) ^ m%p:=fun x m=>by
    rw [qM,SS,← qM]
   have e2:∀m:Nat,(a*a) ^ m=a ^ (2*m):=fun m=>by rw [Int.pow_mul,jA,jA,qZ,jE]
   by_cases c:n%2=1
   ·rw [if_pos c,QaO hp k _ _ _ (by omega) (qH _ (by omega)) (qI _ (by omega)),hq,e2]
    rw [qM,zL _ (Int.dvd_refl p),← qM,qU]
    congr 2
    have:n=2*(n/2)+1:=by omega
    conv=>rhs;rw [this]
    rw [jA,Int.mul_comm]
   ·rw [if_neg c,QaO hp k _ _ _ (by omega) h0 h1,hq,e2]
    congr 3
    omega
theorem Qg3 {p:Int} (hp:1<p) {k:Nat} {a:Int} {n:Nat} (h:n<2 ^ k):pwL p k 1 a n=pw a n p:=by
 rw [QaO hp k 1 a n h (by omega) hp,jE,pw]
theorem pr1:Pr 2147483647:=⟨by decide,by decide,by decide +kernel⟩
theorem pr2:Pr 2147483629:=⟨by decide,by decide,by decide +kernel⟩
end Go.HL.Dt
end
section
open Go Go.HL
namespace Go.Proofs.Ytiejmoglooaalaa
set_option maxRecDepth 100000
set_option linter.unusedSectionVars false
open Go.Proofs.Try renaming prog → Tp
open Go.HL.HV renaming undef → Ud
section
variable {F:FuncId→Option (List HV→Option HV)}
noncomputable def B16:Code:=Try.f16.body.getD .skip
abbrev X9 (v0 v1 v4 v5 v6 v7 v9 v10 v11 v12:HV):Env:=[(0,v0),(1,v1),(4,v4),(5,v5),(6,v6),(7,v7),(9,v9),(10,v10),(11,v11),(12,v12)]
end
abbrev e16 (n:Int) (ls:List HV) (u6 u7 u8 u9:HV):Env:=X9 (.i n) (.g ls) (.i 0) (.i 0) (.q 0) (.bool true) u6 u7 u8 u9
section
variable {F:FuncId→Option (List HV→Option HV)}
variable (N:Nat) (n:Int) (ls:List HV)
include N n ls
theorem Qoy:RU F 16 2 B16 [(0,.i n),(1,.g ls)] [] .normal (X9 (.i n) (.g ls) (.i 0) (.i 0) Ud Ud Ud Ud Ud Ud) [] :=
 hx N 60 []
end
section
variable {F:FuncId→Option (List HV→Option HV)}
variable (N:Nat) (n:Int) (ls:List HV)
include N n ls
theorem Qoz {H0:Heap} {a0:HV} {H1:Heap} {H2:Heap} (g0:CN F N 39 [.i n,.g ls] [] (.tuple [.N n ls,.bool true]) H0) (g1:some (Q8 (.agg [.i 0,.imm .lit 0 []]) H0)=some (a0,H1)) (g2:ST H1 66 (a0) (.N n ls) H2) (y6 y7 y9 y10 y11 y12:HV:=Ud): RU F 16 6 B16 (X9 (.i n) (.g ls) (.i 0) (.i 0) y6 y7 y9 y10 y11 y12) [] .normal (X9 (.i n) (.g ls) (.i 0) (.i 0) a0 (.bool true) y9 y10 y11 y12) H2 :=
 hx N 60 [jC 1 2 g0,jR 1 6 g1,jS 1 7 g2]
theorem QoA {H0:Heap} {a0:HV} {H1:Heap} {H2:Heap} (g0:CN F N 39 [.i n,.g ls] [] (.tuple [.N n ls,.bool false]) H0) (g1:some (Q8 (.agg [.i 0,.imm .lit 0 []]) H0)=some (a0,H1)) (g2:ST H1 66 (a0) (.N n ls) H2) (y6 y7 y9 y10 y11 y12:HV:=Ud): RU F 16 6 B16 (X9 (.i n) (.g ls) (.i 0) (.i 0) y6 y7 y9 y10 y11 y12) [] .normal (X9 (.i n) (.g ls) (.i 0) (.i 0) a0 (.bool false) y9 y10 y11 y12) H2 :=
 hx N 60 [jC 1 2 g0,jR 1 6 g1,jS 1 7 g2]
theorem Qg4 (H:Heap) (y9 y10 y11 y12:HV:=Ud): RU F 16 14 B16 (e16 n ls y9 y10 y11 y12) H .normal (e16 n ls y9 y10 y11 y12) H :=
 hx N 60 []
theorem Qg5 (H:Heap) (y9 y10 y11 y12:HV:=Ud): RU F 16 14 B16 (X9 (.i n) (.g ls) (.i 0) (.i 0) (.q 0) (.bool false) y9 y10 y11 y12) H .ret (X9 (.i n) (.g ls) (.i 0) (.i 2) (.q 0) (.bool false) y9 y10 y11 y12) H :=
 hx N 60 []
theorem QoB (H:Heap) (tb m:Nat) {H0:Heap} (g0:LD H 66 (.q 0) (.N n ls)) (g1:CM F 40 [.N n ls] H (.tuple [.s tb m,.bool true]) H0) (y9 y10 y11 y12:HV:=Ud): RU F 16 60 B16 (e16 n ls y9 y10 y11 y12) H .normal (e16 n ls (.bool true) y10 y11 y12) H0 :=
 hx N 60 [jO 4 0 H g0,jD 4 1 g1]
theorem QoC (H:Heap) (tb m:Nat) {H0:Heap} (g0:LD H 66 (.q 0) (.N n ls)) (g1:CM F 40 [.N n ls] H (.tuple [.s tb m,.bool false]) H0) (y9 y10 y11 y12:HV:=Ud): RU F 16 60 B16 (e16 n ls y9 y10 y11 y12) H .normal (e16 n ls (.bool false) y10 y11 y12) H0 :=
 hx N 60 [jO 4 0 H g0,jD 4 1 g1]
theorem Qg6 (H:Heap) (tb m:Nat) (y10 y11 y12:HV:=Ud): RU F 16 61 B16 (e16 n ls (.bool true) y10 y11 y12) H .normal (e16 n ls (.bool true) y10 y11 y12) H :=
 hx N 60 []
theorem Qg7 (H:Heap) (tb m:Nat) (y10 y11 y12:HV:=Ud): RU F 16 61 B16 (e16 n ls (.bool false) y10 y11 y12) H .ret (e16 n ls (.bool false) y10 y11 y12) H :=
 hx N 60 []
theorem QoD (H:Heap) (tb m:Nat) (x y:Int) {H0:Heap} {H1:Heap} (g0:LD H 66 (.q 0) (.N n ls)) (g1:CM F 44 [.N n ls,.i 2147483647] H (.i x) H0) (g2:LD H0 66 (.q 0) (.N n ls)) (g3:CM F 44 [.N n ls,.i 2147483629] H0 (.i y) H1) (gS7:(WT ((QH Tp H0 66 (.q 0)).map (fun v=>(v,(H0:Heap)))) ((QH Tp H 66 (.q 0)).map (fun v=>(v,(H:Heap)))) H0 H&&true)=true) (y10 y11 y12:HV:=Ud): RU F 16 62 B16 (e16 n ls (.bool true) y10 y11 y12) H .normal (e16 n ls (.bool true) (.i x) (.i y) y12) H1 :=
 hx N 60 [jK gS7,jO 7 0 H g0,jD 7 1 g1,jO 7 2 H0 g2,jD 7 3 g3]
theorem QoE (H:Heap) (x y z:Int) {H0:Heap} (g0:CM F 45 [.i 18,.i 2147483627,.i 2147483629] H (.i z) H0) (y9 y12:HV:=Ud): RU F 16 126 B16 (e16 n ls y9 (.i x) (.i y) y12) H .normal (e16 n ls y9 (.i x) (.i y) (.i ((qA.wrap ((qA.wrap (qA.wrap (y-(x:Int).tmod 2147483629)+2147483629):Int).tmod 2147483629*z):Int).tmod 2147483629))) H0 :=
 hx N 60 [jD 8 6 g0]
theorem QoF (H:Heap) (x z:Int) (y9 y11:HV:=Ud): RU F 16 127 B16 (e16 n ls y9 (.i x) y11 (.i z)) H .ret (X9 (.i n) (.g ls) (.i (qA.wrap (x+qA.wrap (2147483647*z)))) (.i 0) (.q 0) (.bool true) y9 (.i x) y11 (.i z)) H :=
 hx N 60 []
end
section
variable {F:FuncId→Option (List HV→Option HV)}
noncomputable def B44:Code:=Try.f44.body.getD .skip
abbrev Vz (v0 v1 v2 v4 v5 v6 v7 v8 v9 v10 v11 v16 v17 v18:HV):Env:=[(0,v0),(1,v1),(2,v2),(4,v4),(5,v5),(6,v6),(7,v7),(8,v8),(9,v9),(10,v10),(11,v11),(16,v16),(17,v17),(18,v18)]
end
abbrev e44 (n:Int) (ls:List HV) (p:Int) (u4 u5 u6 u7 u8 u9 u10 u11 u12 u13:HV):Env:=Vz (.N n ls) (.i p) (.q 0) (.i 0) u4 u5 u6 u7 u8 u9 u10 u11 u12 u13
section
variable {F:FuncId→Option (List HV→Option HV)}
variable (N:Nat) (n:Int) (ls:List HV) (p:Int)
include N n ls p
theorem QoG:RU F 44 2 B44 [(0,.N n ls),(1,.i p)] [] .normal (e44 n ls p Ud Ud Ud Ud Ud Ud Ud Ud Ud Ud) [.arr 2 [.N n ls] true 0] :=
 hx N 60 []
end
section
variable {F:FuncId→Option (List HV→Option HV)}
variable (N:Nat) (n:Int) (ls:List HV) (p:Int)
include N n ls p
theorem QoH (H:Heap) (y5 y6 y7 y8 y9 y10 y11 y16 y17 y18:HV:=Ud): RU F 44 6 B44 (e44 n ls p y5 y6 y7 y8 y9 y10 y11 y16 y17 y18) H .normal (e44 n ls p (.i 1) y6 y7 y8 y9 y10 y11 y16 y17 y18) H :=
 hx N 60 []
theorem QoI (H:Heap) (vb:Nat) {H0:Heap} (g0:CN F N 53 [] H (.q vb) H0) (y6 y7 y8 y9 y10 y11 y16 y17 y18:HV:=Ud): RU F 44 14 B44 (e44 n ls p (.i 1) y6 y7 y8 y9 y10 y11 y16 y17 y18) H .normal (e44 n ls p (.i 1) (.q vb) y7 y8 y9 y10 y11 y16 y17 y18) H0 :=
 hx N 60 [jC 2 0 g0]
theorem QoJ (H:Heap) (vb ob m:Nat) {H0:Heap} (g0:LD H 66 (.q 0) (.N n ls)) (g1:CM F 54 [.N n ls] H (.s ob m) H0) (y7 y8 y9 y10 y11 y16 y17 y18:HV:=Ud): RU F 44 30 B44 (e44 n ls p (.i 1) (.q vb) y7 y8 y9 y10 y11 y16 y17 y18) H .normal (e44 n ls p (.i 1) (.q vb) (.s ob m) y8 y9 y10 y11 y16 y17 y18) H0 :=
 hx N 60 [jO 3 0 H g0,jD 3 1 g1]
theorem QoK (H:Heap) (u:Int) (vb ob m:Nat) (y8 y9 y10 y11 y16 y17 y18:HV:=Ud): RU F 44 124 B44 (e44 n ls p (.i u) (.q vb) (.s ob m) y8 y9 y10 y11 y16 y17 y18) H .normal (e44 n ls p (.i u) (.q vb) (.s ob m) y8 y9 y10 y11 (.s ob m) (.n m) (.i 0)) H :=
 hx N 60 []
theorem QoL (H:Heap) (u:Int) (vb ob m i:Nat) (g0:(i:Int)<(m:Int)) (y8 y9 y10 y11:HV:=Ud): RunsTo Tp (plF F) 44 (sn 1000 B44) (e44 n ls p (.i u) (.q vb) (.s ob m) y8 y9 y10 y11 (.s ob m) (.n m) (.n i)) H .normal [0,1,2,4,5,6,7,8,9,10,11,16,17,18,19] [(0,.N n ls),(1,.i p),(2,.q 0),(4,.i 0),(5,.i u),(6,.q vb),(7,.s ob m),(8,y8),(9,y9),(10,y10),(11,y11),(16,.s ob m),(17,.n m),(18,.n i),(19,.bool true)] H :=
 hx N 60 [jT 5 0 H g0]
theorem QoM (H:Heap) (u:Int) (vb ob m i:Nat) (g0:¬((i:Int)<(m:Int))) (y8 y9 y10 y11:HV:=Ud): RunsTo Tp (plF F) 44 (sn 1000 B44) (e44 n ls p (.i u) (.q vb) (.s ob m) y8 y9 y10 y11 (.s ob m) (.n m) (.n i)) H .normal [0,1,2,4,5,6,7,8,9,10,11,16,17,18,19] [(0,.N n ls),(1,.i p),(2,.q 0),(4,.i 0),(5,.i u),(6,.q vb),(7,.s ob m),(8,y8),(9,y9),(10,y10),(11,y11),(16,.s ob m),(17,.n m),(18,.n i),(19,.bool false)] H :=
 hx N 60 [jF 5 0 H g0]
theorem Qg8 (H:Heap) (u:Int) (vb ob m i:Nat) (y8 y9 y10 y11:HV:=Ud): RU F 44 2002 B44 [(0,.N n ls),(1,.i p),(2,.q 0),(4,.i 0),(5,.i u),(6,.q vb),(7,.s ob m),(8,y8),(9,y9),(10,y10),(11,y11),(16,.s ob m),(17,.n m),(18,.n i),(19,.bool true)] H .normal (e44 n ls p (.i u) (.q vb) (.s ob m) y8 y9 y10 y11 (.s ob m) (.n m) (.n i)) H :=
 hx N 60 []
theorem Qg9 (H:Heap) (u:Int) (vb ob m i:Nat) (y8 y9 y10 y11:HV:=Ud): RU F 44 2002 B44 [(0,.N n ls),(1,.i p),(2,.q 0),(4,.i 0),(5,.i u),(6,.q vb),(7,.s ob m),(8,y8),(9,y9),(10,y10),(11,y11),(16,.s ob m),(17,.n m),(18,.n i),(19,.bool false)] H (.exit 0) (e44 n ls p (.i u) (.q vb) (.s ob m) y8 y9 y10 y11 (.s ob m) (.n m) (.n i)) H :=
 hx N 60 []
theorem QoN (H:Heap) (u:Int) (vb ob m i:Nat) (kk:Int) (g0:IS 24 ob m i) (g1:LD H 3 (.ptr ob i 0 m) (.i kk)) (y8 y9 y10 y11:HV:=Ud): RU F 44 16024 B44 (e44 n ls p (.i u) (.q vb) (.s ob m) y8 y9 y10 y11 (.s ob m) (.n m) (.n i)) H .normal (e44 n ls p (.i u) (.q vb) (.s ob m) (.n i) (.i kk) y10 y11 (.s ob m) (.n m) (.n i)) H :=
 hx N 60 [jO 6 1 H g0,jO 6 2 H g1]
theorem QoO (H:Heap) (u:Int) (vb ob m i:Nat) (kk a b w:Int) (g0:LD H 22 (.ptr 0 0 1 1) (.g ls)) (g1:IX 22 (.g ls) (.i kk) (.vptr (.agg [.i a,.i b,.i w]))) (y10 y11:HV:=Ud): RU F 44 32050 B44 (e44 n ls p (.i u) (.q vb) (.s ob m) (.n i) (.i kk) y10 y11 (.s ob m) (.n m) (.n i)) H .normal (e44 n ls p (.i u) (.q vb) (.s ob m) (.n i) (.i kk) (.i w) y11 (.s ob m) (.n m) (.n i)) H :=
 hx N 60 [jO 7 1 H g0,jO 7 3 H g1]
theorem QoP (H:Heap) (u:Int) (vb ob m i:Nat) (kk w y a2 b2 w2:Int) (g0:qA.wrap ((i:Int)+1)<(m:Int)) (g1:LD H 22 (.ptr 0 0 1 1) (.g ls)) (g2:IX 24 (.s ob m) (.i (qA.wrap ((i:Int)+1))) (.ptr ob ((qA.wrap ((i:Int)+1)).toNat) 0 m)) (g3:LD H 3 (.ptr ob ((qA.wrap ((i:Int)+1)).toNat) 0 m) (.i y)) (g4:IX 22 (.g ls) (.i y) (.vptr (.agg [.i a2,.i b2,.i w2]))) (g5:w2=w) (y11:HV:=Ud): RU F 44 64102 B44 (e44 n ls p (.i u) (.q vb) (.s ob m) (.n i) (.i kk) (.i w) y11 (.s ob m) (.n m) (.n i)) H (.exit 1) (e44 n ls p (.i u) (.q vb) (.s ob m) (.n i) (.i kk) (.i w) y11 (.s ob m) (.n m) (.n i)) H :=
 hx N 60 [jT 8 4 H g0,jO 8 7 H g1,jO 8 11 H g2,jO 8 12 H g3,jO 8 13 H g4,jT 8 17 H g5]
theorem QoQ (H:Heap) (u:Int) (vb ob m i:Nat) (kk w y a2 b2 w2:Int) (g0:qA.wrap ((i:Int)+1)<(m:Int)) (g1:LD H 22 (.ptr 0 0 1 1) (.g ls)) (g2:IX 24 (.s ob m) (.i (qA.wrap ((i:Int)+1))) (.ptr ob ((qA.wrap ((i:Int)+1)).toNat) 0 m)) (g3:LD H 3 (.ptr ob ((qA.wrap ((i:Int)+1)).toNat) 0 m) (.i y)) (g4:IX 22 (.g ls) (.i y) (.vptr (.agg [.i a2,.i b2,.i w2]))) (g5:¬(w2=w)) (y11:HV:=Ud): RU F 44 64102 B44 (e44 n ls p (.i u) (.q vb) (.s ob m) (.n i) (.i kk) (.i w) y11 (.s ob m) (.n m) (.n i)) H .normal (e44 n ls p (.i u) (.q vb) (.s ob m) (.n i) (.i kk) (.i w) y11 (.s ob m) (.n m) (.n i)) H :=
 hx N 60 [jT 8 4 H g0,jO 8 7 H g1,jO 8 11 H g2,jO 8 12 H g3,jO 8 13 H g4,jF 8 17 H g5]
theorem QoR (H:Heap) (u:Int) (vb ob m i:Nat) (kk w y a2 b2 w2:Int) (g0:¬(qA.wrap ((i:Int)+1)<(m:Int))) (y11:HV:=Ud): RU F 44 64102 B44 (e44 n ls p (.i u) (.q vb) (.s ob m) (.n i) (.i kk) (.i w) y11 (.s ob m) (.n m) (.n i)) H .normal (e44 n ls p (.i u) (.q vb) (.s ob m) (.n i) (.i kk) (.i w) y11 (.s ob m) (.n m) (.n i)) H :=
 hx N 60 [jF 8 4 H g0]
theorem QoS (H:Heap) (u:Int) (vb ob m i:Nat) (kk w r:Int) (ab:Nat) {H0:Heap} (g0:LD H 66 (.q 0) (.N n ls)) (g1:Jh Tp 24 (.s ob m) none (some (.i (qA.wrap ((i:Int)+1)))) none=some (.sl ob 0 ((qA.wrap ((i:Int)+1)).toNat) none m 1)) (g2:CN F N 57 [.N n ls,.sl ob 0 ((qA.wrap ((i:Int)+1)).toNat) none m 1] H (.tuple [.q ab,.i r]) H0) (y11:HV:=Ud): RU F 44 128206 B44 (e44 n ls p (.i u) (.q vb) (.s ob m) (.n i) (.i kk) (.i w) y11 (.s ob m) (.n m) (.n i)) H .normal (e44 n ls p (.i u) (.q vb) (.s ob m) (.n i) (.i kk) (.i w) (.q ab) (.s ob m) (.n m) (.n i)) H0 :=
 hx N 60 [jO 9 0 H g0,jO 9 4 H g1,jC 9 5 g2]
theorem QoT (H:Heap) (u:Int) (vb ob m i:Nat) (kk w x:Int) (ab:Nat) {H0:Heap} (g0:LD H 66 (.q 0) (.N n ls)) (g1:CN F N 65 [.N n ls,.q vb,.q ab,.i w,.i p] H (.i x) H0) (g2:BV .rem 3 (.i (qA.wrap (u*x))) (.i p) (.i ((qA.wrap (u*x):Int).tmod p))): RU F 44 128207 B44 (e44 n ls p (.i u) (.q vb) (.s ob m) (.n i) (.i kk) (.i w) (.q ab) (.s ob m) (.n m) (.n i)) H .normal (e44 n ls p (.i ((qA.wrap (u*x):Int).tmod p)) (.q ab) (.s ob m) (.n i) (.i kk) (.i w) (.q ab) (.s ob m) (.n m) (.n i)) H0 :=
 hx N 60 [jO 10 1 H g0,jC 10 6 g1,jO 10 9 H0 g2]
theorem Qe2 (H:Heap) (u:Int) (vb ob m i:Nat) (y8 y9 y10 y11:HV:=Ud): RU F 44 4007 B44 (e44 n ls p (.i u) (.q vb) (.s ob m) y8 y9 y10 y11 (.s ob m) (.n m) (.n i)) H .normal (e44 n ls p (.i u) (.q vb) (.s ob m) y8 y9 y10 y11 (.s ob m) (.n m) (.i (qA.wrap ((i:Int)+1)))) H :=
 hx N 60 []
theorem QoU (H:Heap) (u:Int) (vb ob m:Nat) (y8 y9 y10 y11 y16 y17 y18:HV:=Ud): RU F 44 63 B44 (e44 n ls p (.i u) (.q vb) (.s ob m) y8 y9 y10 y11 y16 y17 y18) H .ret (Vz (.N n ls) (.i p) (.q 0) (.i u) (.i u) (.q vb) (.s ob m) y8 y9 y10 y11 y16 y17 y18) H :=
 hx N 60 []
end
section
variable {F:FuncId→Option (List HV→Option HV)}
noncomputable def B86:Code:=Try.f86.body.getD .skip
abbrev Qe3 (v0 v1 v2 v3 v4 v5:HV):Env:=[(0,v0),(1,v1),(2,v2),(3,v3),(4,v4),(5,v5)]
end
abbrev e86 (i:Int) (j:Int) (d:Int) (zb:Nat) (xb:Nat) (pb:Nat):Env:=Qe3 (.i i) (.i j) (.i d) (.q zb) (.q xb) (.q pb)
section
variable {F:FuncId→Option (List HV→Option HV)}
variable (i j d:Int) (zb xb pb:Nat) (H:Heap) (mb q ra:Nat) (y p:Int)
include i j d zb xb pb H mb q ra y p
theorem QoV {H0:Heap} (g0:LD H 3 (.q zb) (.n q)) (g1:i<(q:Int)) (g2:LD H 3 (.q zb) (.n q)) (g3:j<(q:Int)) (g4:LD H 57 (.q xb) (.o mb q)) (g5:IX 57 (.o mb q) (.i i) (.ptr mb ((i).toNat) 0 q)) (g6:LD H 24 (.ptr mb ((i).toNat) 0 q) (.o ra q)) (g7:LD H 57 (.q xb) (.o mb q)) (g8:IX 57 (.o mb q) (.i i) (.ptr mb ((i).toNat) 0 q)) (g9:LD H 24 (.ptr mb ((i).toNat) 0 q) (.o ra q)) (g10:IX 24 (.o ra q) (.i j) (.ptr ra ((j).toNat) 0 q)) (g11:LD H 3 (.ptr ra ((j).toNat) 0 q) (.i y)) (g12:LD H 3 (.q pb) (.i p)) (g13:LD H 3 (.q pb) (.i p)) (g14:BV .rem 3 (.i (qA.wrap (qA.wrap (y+d)+p))) (.i p) (.i ((qA.wrap (qA.wrap (y+d)+p):Int).tmod p))) (g15:IX 24 (.o ra q) (.i j) (.ptr ra ((j).toNat) 0 q)) (g16:ST H 3 (.ptr ra ((j).toNat) 0 q) (.i ((qA.wrap (qA.wrap (y+d)+p):Int).tmod p)) H0): RU F 86 1 B86 (e86 i j d zb xb pb) H .normal (e86 i j d zb xb pb) H0 :=
 hx 0 60 [jO 0 1 H g0,jT 0 2 H g1,jO 0 5 H g2,jT 0 6 H g3,jO 1 0 H g4,jO 1 2 H g5,jO 1 3 H g6,jO 1 5 H g7,jO 1 7 H g8,jO 1 8 H g9,jO 1 10 H g10,jO 1 11 H g11,jO 1 14 H g12,jO 1 16 H g13,jO 1 17 H g14,jO 1 18 H g15,jS 1 19 g16]
end
section
variable {F:FuncId→Option (List HV→Option HV)}
variable (i j d:Int) (zb xb pb:Nat) (H:Heap) (mb q ra:Nat) (y p:Int)
include i j d zb xb pb H mb q ra y p
theorem QoW (g0:LD H 3 (.q zb) (.n q)) (g1:i<(q:Int)) (g2:LD H 3 (.q zb) (.n q)) (g3:¬(j<(q:Int))): RU F 86 1 B86 (e86 i j d zb xb pb) H .normal (e86 i j d zb xb pb) H :=
 hx 0 60 [jO 0 1 H g0,jT 0 2 H g1,jO 0 5 H g2,jF 0 6 H g3]
theorem QoX (g0:LD H 3 (.q zb) (.n q)) (g1:¬(i<(q:Int))): RU F 86 1 B86 (e86 i j d zb xb pb) H .normal (e86 i j d zb xb pb) H :=
 hx 0 60 [jO 0 1 H g0,jF 0 2 H g1]
end
section
variable {F:FuncId→Option (List HV→Option HV)}
noncomputable def B65:Code:=Try.f65.body.getD .skip
abbrev QY (v0 v1 v2 v3 v4 v5 v9 v10 v11 v12 v13 v14 v15 v16 v17 v18 v20 v21 v22 v23 v25 v26 v31 v32 v60 v61 v72 v73 v74:HV):Env:=[(0,v0),(1,v1),(2,v2),(3,v3),(4,v4),(5,v5),(9,v9),(10,v10),(11,v11),(12,v12),(13,v13),(14,v14),(15,v15),(16,v16),(17,v17),(18,v18),(20,v20),(21,v21),(22,v22),(23,v23),(25,v25),(26,v26),(31,v31),(32,v32),(60,v60),(61,v61),(72,v72),(73,v73),(74,v74)]
end
abbrev e65 (n:Int) (ls:List HV) (bb:Nat) (ab:Nat) (w:Int) (p:Int) (nb:Nat) (pb:Nat) (u:Int) (top:Nat) (u9 u10 u11 u12 u13 u14 u15 u16 u17 u18 u19 u22 u23 u24 u25 u26 u27 u28:HV):Env:=QY (.N n ls) (.q bb) (.q ab) (.i w) (.i p) (.q nb) (.q pb) (.i 0) (.i u) u9 u10 u11 u12 u13 u14 u15 u16 u17 u18 u19 (.i n) (.n top) u22 u23 u24 u25 u26 u27 u28
section
variable {F:FuncId→Option (List HV→Option HV)}
variable (N:Nat) (n:Int) (ls:List HV) (bb ab:Nat) (w p:Int) (H:Heap) (nb pb:Nat)
include N n ls bb ab w p H nb pb
theorem QoY {a0:HV} {H0:Heap} {a1:HV} {H1:Heap} (g0:some (Q8 (.N n ls) H)=some (a0,H0)) (g1:some (Q8 (.i p) H0)=some (a1,H1)): RU F 65 2 B65 [(0,.N n ls),(1,.q bb),(2,.q ab),(3,.i w),(4,.i p)] H .normal (QY (.N n ls) (.q bb) (.q ab) (.i w) (.i p) a0 a1 (.i 0) Ud Ud Ud Ud Ud Ud Ud Ud Ud Ud Ud Ud Ud Ud Ud Ud Ud Ud Ud Ud Ud) H1 :=
 hx N 60 [jR 0 0 g0,jR 0 1 g1]
end
section
variable {F:FuncId→Option (List HV→Option HV)}
variable (N:Nat) (n:Int) (ls:List HV) (bb ab:Nat) (w p:Int) (H:Heap) (nb pb:Nat)
include N n ls bb ab w p H nb pb
theorem QoZ (y11 y12 y13 y14 y15 y16 y17 y18 y20 y21 y22 y23 y25 y26 y31 y32 y60 y61 y72 y73 y74:HV:=Ud): RU F 65 6 B65 (QY (.N n ls) (.q bb) (.q ab) (.i w) (.i p) (.q nb) (.q pb) (.i 0) y11 y12 y13 y14 y15 y16 y17 y18 y20 y21 y22 y23 y25 y26 y31 y32 y60 y61 y72 y73 y74) H .normal (QY (.N n ls) (.q bb) (.q ab) (.i w) (.i p) (.q nb) (.q pb) (.i 0) (.i 1) y12 y13 y14 y15 y16 y17 y18 y20 y21 y22 y23 y25 y26 y31 y32 y60 y61 y72 y73 y74) H :=
 hx N 60 []
theorem Qo0 (u:Int) (g0:LD H 3 (.q nb) (.i n)) (y12 y13 y14 y15 y16 y17 y18 y20 y21 y22 y23 y25 y26 y31 y32 y60 y61 y72 y73 y74:HV:=Ud): RU F 65 28 B65 (QY (.N n ls) (.q bb) (.q ab) (.i w) (.i p) (.q nb) (.q pb) (.i 0) (.i u) y12 y13 y14 y15 y16 y17 y18 y20 y21 y22 y23 y25 y26 y31 y32 y60 y61 y72 y73 y74) H .normal (QY (.N n ls) (.q bb) (.q ab) (.i w) (.i p) (.q nb) (.q pb) (.i 0) (.i u) y12 y13 y14 y15 y16 y17 y18 y20 y21 y22 y23 (.i n) (.i 0) y31 y32 y60 y61 y72 y73 y74) H :=
 hx N 60 [jO 2 1 H g0]
theorem Qo1 (u:Int) (top:Nat) (g0:(top:Int)<n) (y12 y13 y14 y15 y16 y17 y18 y20 y21 y22 y23 y31 y32 y60 y61 y72 y73 y74:HV:=Ud): RunsTo Tp (plF F) 65 (sn 232 B65) (e65 n ls bb ab w p nb pb u top y12 y13 y14 y15 y16 y17 y18 y20 y21 y22 y23 y31 y32 y60 y61 y72 y73 y74) H .normal [0,1,2,3,4,5,9,10,11,12,13,14,15,16,17,18,20,21,22,23,25,26,31,32,60,61,72,73,74,27] [(0,.N n ls),(1,.q bb),(2,.q ab),(3,.i w),(4,.i p),(5,.q nb),(9,.q pb),(10,.i 0),(11,.i u),(12,y12),(13,y13),(14,y14),(15,y15),(16,y16),(17,y17),(18,y18),(20,y20),(21,y21),(22,y22),(23,y23),(25,.i n),(26,.n top),(31,y31),(32,y32),(60,y60),(61,y61),(72,y72),(73,y73),(74,y74),(27,.bool true)] H :=
 hx N 60 [jT 3 0 H g0]
theorem Qo2 (u:Int) (top:Nat) (g0:¬((top:Int)<n)) (y12 y13 y14 y15 y16 y17 y18 y20 y21 y22 y23 y31 y32 y60 y61 y72 y73 y74:HV:=Ud): RunsTo Tp (plF F) 65 (sn 232 B65) (e65 n ls bb ab w p nb pb u top y12 y13 y14 y15 y16 y17 y18 y20 y21 y22 y23 y31 y32 y60 y61 y72 y73 y74) H .normal [0,1,2,3,4,5,9,10,11,12,13,14,15,16,17,18,20,21,22,23,25,26,31,32,60,61,72,73,74,27] [(0,.N n ls),(1,.q bb),(2,.q ab),(3,.i w),(4,.i p),(5,.q nb),(9,.q pb),(10,.i 0),(11,.i u),(12,y12),(13,y13),(14,y14),(15,y15),(16,y16),(17,y17),(18,y18),(20,y20),(21,y21),(22,y22),(23,y23),(25,.i n),(26,.n top),(31,y31),(32,y32),(60,y60),(61,y61),(72,y72),(73,y73),(74,y74),(27,.bool false)] H :=
 hx N 60 [jF 3 0 H g0]
theorem Qha (u:Int) (top:Nat) (y12 y13 y14 y15 y16 y17 y18 y20 y21 y22 y23 y31 y32 y60 y61 y72 y73 y74:HV:=Ud): RU F 65 466 B65 [(0,.N n ls),(1,.q bb),(2,.q ab),(3,.i w),(4,.i p),(5,.q nb),(9,.q pb),(10,.i 0),(11,.i u),(12,y12),(13,y13),(14,y14),(15,y15),(16,y16),(17,y17),(18,y18),(20,y20),(21,y21),(22,y22),(23,y23),(25,.i n),(26,.n top),(31,y31),(32,y32),(60,y60),(61,y61),(72,y72),(73,y73),(74,y74),(27,.bool true)] H .normal (e65 n ls bb ab w p nb pb u top y12 y13 y14 y15 y16 y17 y18 y20 y21 y22 y23 y31 y32 y60 y61 y72 y73 y74) H :=
 hx N 60 []
theorem Qhb (u:Int) (top:Nat) (y12 y13 y14 y15 y16 y17 y18 y20 y21 y22 y23 y31 y32 y60 y61 y72 y73 y74:HV:=Ud): RU F 65 466 B65 [(0,.N n ls),(1,.q bb),(2,.q ab),(3,.i w),(4,.i p),(5,.q nb),(9,.q pb),(10,.i 0),(11,.i u),(12,y12),(13,y13),(14,y14),(15,y15),(16,y16),(17,y17),(18,y18),(20,y20),(21,y21),(22,y22),(23,y23),(25,.i n),(26,.n top),(31,y31),(32,y32),(60,y60),(61,y61),(72,y72),(73,y73),(74,y74),(27,.bool false)] H (.exit 0) (e65 n ls bb ab w p nb pb u top y12 y13 y14 y15 y16 y17 y18 y20 y21 y22 y23 y31 y32 y60 y61 y72 y73 y74) H :=
 hx N 60 []
theorem Qo3 (u:Int) (top:Nat) (y12 y13 y14 y15 y16 y17 y18 y20 y21 y22 y23 y31 y32 y60 y61 y72 y73 y74:HV:=Ud): RU F 65 3736 B65 (e65 n ls bb ab w p nb pb u top y12 y13 y14 y15 y16 y17 y18 y20 y21 y22 y23 y31 y32 y60 y61 y72 y73 y74) H .normal (e65 n ls bb ab w p nb pb u top (.n top) y13 y14 y15 y16 y17 y18 y20 y21 y22 y23 y31 y32 y60 y61 y72 y73 y74) H :=
 hx N 60 []
theorem Qo4 (u:Int) (top:Nat) (kb:Nat) {H0:Heap} (g0:some (HV.map H.length,H++[Blk.map [] [] 0])=some (.map kb,H0)) (y13 y14 y15 y16 y17 y18 y20 y21 y22 y23 y31 y32 y60 y61 y72 y73 y74:HV:=Ud): RU F 65 7474 B65 (e65 n ls bb ab w p nb pb u top (.n top) y13 y14 y15 y16 y17 y18 y20 y21 y22 y23 y31 y32 y60 y61 y72 y73 y74) H .normal (e65 n ls bb ab w p nb pb u top (.n top) (.map kb) y14 y15 y16 y17 y18 y20 y21 y22 y23 y31 y32 y60 y61 y72 y73 y74) H0 :=
 hx N 60 [jR 5 0 g0]
theorem Qo5 (u:Int) (top:Nat) (kb:Nat) (g0:LD H 3 (.q nb) (.i n)) (y14 y15 y16 y17 y18 y20 y21 y22 y23 y31 y32 y60 y61 y72 y73 y74:HV:=Ud): RU F 65 29900 B65 (e65 n ls bb ab w p nb pb u top (.n top) (.map kb) y14 y15 y16 y17 y18 y20 y21 y22 y23 y31 y32 y60 y61 y72 y73 y74) H .normal (e65 n ls bb ab w p nb pb u top (.n top) (.map kb) y14 y15 y16 y17 y18 y20 y21 y22 y23 (.i n) (.i 0) y60 y61 y72 y73 y74) H :=
 hx N 60 [jO 6 1 H g0]
theorem Qo6 (u:Int) (top:Nat) (kb:Nat) (v:Nat) (g0:(v:Int)<n) (y14 y15 y16 y17 y18 y20 y21 y22 y23 y60 y61 y72 y73 y74:HV:=Ud): RunsTo Tp (plF F) 65 (sn 239208 B65) (e65 n ls bb ab w p nb pb u top (.n top) (.map kb) y14 y15 y16 y17 y18 y20 y21 y22 y23 (.i n) (.n v) y60 y61 y72 y73 y74) H .normal [0,1,2,3,4,5,9,10,11,12,13,14,15,16,17,18,20,21,22,23,25,26,31,32,60,61,72,73,74,33] [(0,.N n ls),(1,.q bb),(2,.q ab),(3,.i w),(4,.i p),(5,.q nb),(9,.q pb),(10,.i 0),(11,.i u),(12,.n top),(13,.map kb),(14,y14),(15,y15),(16,y16),(17,y17),(18,y18),(20,y20),(21,y21),(22,y22),(23,y23),(25,.i n),(26,.n top),(31,.i n),(32,.n v),(60,y60),(61,y61),(72,y72),(73,y73),(74,y74),(33,.bool true)] H :=
 hx N 60 [jT 7 0 H g0]
theorem Qo7 (u:Int) (top:Nat) (kb:Nat) (v:Nat) (g0:¬((v:Int)<n)) (y14 y15 y16 y17 y18 y20 y21 y22 y23 y60 y61 y72 y73 y74:HV:=Ud): RunsTo Tp (plF F) 65 (sn 239208 B65) (e65 n ls bb ab w p nb pb u top (.n top) (.map kb) y14 y15 y16 y17 y18 y20 y21 y22 y23 (.i n) (.n v) y60 y61 y72 y73 y74) H .normal [0,1,2,3,4,5,9,10,11,12,13,14,15,16,17,18,20,21,22,23,25,26,31,32,60,61,72,73,74,33] [(0,.N n ls),(1,.q bb),(2,.q ab),(3,.i w),(4,.i p),(5,.q nb),(9,.q pb),(10,.i 0),(11,.i u),(12,.n top),(13,.map kb),(14,y14),(15,y15),(16,y16),(17,y17),(18,y18),(20,y20),(21,y21),(22,y22),(23,y23),(25,.i n),(26,.n top),(31,.i n),(32,.n v),(60,y60),(61,y61),(72,y72),(73,y73),(74,y74),(33,.bool false)] H :=
 hx N 60 [jF 7 0 H g0]
theorem Qhc (u:Int) (top:Nat) (kb:Nat) (v:Nat) (y14 y15 y16 y17 y18 y20 y21 y22 y23 y60 y61 y72 y73 y74:HV:=Ud): RU F 65 478418 B65 [(0,.N n ls),(1,.q bb),(2,.q ab),(3,.i w),(4,.i p),(5,.q nb),(9,.q pb),(10,.i 0),(11,.i u),(12,.n top),(13,.map kb),(14,y14),(15,y15),(16,y16),(17,y17),(18,y18),(20,y20),(21,y21),(22,y22),(23,y23),(25,.i n),(26,.n top),(31,.i n),(32,.n v),(60,y60),(61,y61),(72,y72),(73,y73),(74,y74),(33,.bool true)] H .normal (e65 n ls bb ab w p nb pb u top (.n top) (.map kb) y14 y15 y16 y17 y18 y20 y21 y22 y23 (.i n) (.n v) y60 y61 y72 y73 y74) H :=
 hx N 60 []
theorem Qhd (u:Int) (top:Nat) (kb:Nat) (v:Nat) (y14 y15 y16 y17 y18 y20 y21 y22 y23 y60 y61 y72 y73 y74:HV:=Ud): RU F 65 478418 B65 [(0,.N n ls),(1,.q bb),(2,.q ab),(3,.i w),(4,.i p),(5,.q nb),(9,.q pb),(10,.i 0),(11,.i u),(12,.n top),(13,.map kb),(14,y14),(15,y15),(16,y16),(17,y17),(18,y18),(20,y20),(21,y21),(22,y22),(23,y23),(25,.i n),(26,.n top),(31,.i n),(32,.n v),(60,y60),(61,y61),(72,y72),(73,y73),(74,y74),(33,.bool false)] H (.exit 2) (e65 n ls bb ab w p nb pb u top (.n top) (.map kb) y14 y15 y16 y17 y18 y20 y21 y22 y23 (.i n) (.n v) y60 y61 y72 y73 y74) H :=
 hx N 60 []
theorem Qo8 (u:Int) (top:Nat) (kb:Nat) (v:Nat) {e0:Int} {H0:Heap} {e1:Int} {H1:Heap} {n0:Int} {H2:Heap} (g0:CN F N 55 [.q bb,.n v] H (.i e0) H0) (g1:e0=(v:Int)) (g2:CN F N 55 [.q ab,.n v] H0 (.i e1) H1) (g3:e1=(top:Int)) (g4:Qaa Tp H1 117 (.map kb)=some (.i n0)) (g5:GF Tp false 117 (.map kb) (.n v) (.i n0) H1=some H2) (y14 y15 y16 y17 y18 y20 y21 y22 y23 y60 y61 y72 y73 y74:HV:=Ud): RU F 65 956838 B65 (e65 n ls bb ab w p nb pb u top (.n top) (.map kb) y14 y15 y16 y17 y18 y20 y21 y22 y23 (.i n) (.n v) y60 y61 y72 y73 y74) H .normal (e65 n ls bb ab w p nb pb u top (.n top) (.map kb) (.n v) y15 y16 y17 y18 y20 y21 y22 y23 (.i n) (.n v) y60 y61 y72 y73 y74) H2 :=
 hx N 60 [jC 9 2 g0,jT 9 4 H0 g1,jC 9 8 g2,jT 9 10 H1 g3,jO 10 3 H1 g4,jS 10 4 g5]
theorem Qo9 (u:Int) (top:Nat) (kb:Nat) (v:Nat) {e0:Int} {H0:Heap} {e1:Int} {H1:Heap} (g0:CN F N 55 [.q bb,.n v] H (.i e0) H0) (g1:e0=(v:Int)) (g2:CN F N 55 [.q ab,.n v] H0 (.i e1) H1) (g3:¬(e1=(top:Int))) (y14 y15 y16 y17 y18 y20 y21 y22 y23 y60 y61 y72 y73 y74:HV:=Ud): RU F 65 956838 B65 (e65 n ls bb ab w p nb pb u top (.n top) (.map kb) y14 y15 y16 y17 y18 y20 y21 y22 y23 (.i n) (.n v) y60 y61 y72 y73 y74) H .normal (e65 n ls bb ab w p nb pb u top (.n top) (.map kb) (.n v) y15 y16 y17 y18 y20 y21 y22 y23 (.i n) (.n v) y60 y61 y72 y73 y74) H1 :=
 hx N 60 [jC 9 2 g0,jT 9 4 H0 g1,jC 9 8 g2,jF 9 10 H1 g3]
theorem Qpa (u:Int) (top:Nat) (kb:Nat) (v:Nat) {e0:Int} {H0:Heap} (g0:CN F N 55 [.q bb,.n v] H (.i e0) H0) (g1:¬(e0=(v:Int))) (y14 y15 y16 y17 y18 y20 y21 y22 y23 y60 y61 y72 y73 y74:HV:=Ud): RU F 65 956838 B65 (e65 n ls bb ab w p nb pb u top (.n top) (.map kb) y14 y15 y16 y17 y18 y20 y21 y22 y23 (.i n) (.n v) y60 y61 y72 y73 y74) H .normal (e65 n ls bb ab w p nb pb u top (.n top) (.map kb) (.n v) y15 y16 y17 y18 y20 y21 y22 y23 (.i n) (.n v) y60 y61 y72 y73 y74) H0 :=
 hx N 60 [jC 9 2 g0,jF 9 4 H0 g1]
theorem Qpb (u:Int) (top:Nat) (kb:Nat) (v:Nat) (y14 y15 y16 y17 y18 y20 y21 y22 y23 y60 y61 y72 y73 y74:HV:=Ud): RU F 65 956839 B65 (e65 n ls bb ab w p nb pb u top (.n top) (.map kb) y14 y15 y16 y17 y18 y20 y21 y22 y23 (.i n) (.n v) y60 y61 y72 y73 y74) H .normal (e65 n ls bb ab w p nb pb u top (.n top) (.map kb) y14 y15 y16 y17 y18 y20 y21 y22 y23 (.i n) (.i (qA.wrap ((v:Int)+1))) y60 y61 y72 y73 y74) H :=
 hx N 60 []
theorem Qpc (u:Int) (top:Nat) (kb:Nat) (zb:Nat) (e:Int) {n0:Int} {H0:Heap} {H1:Heap} (g0:Qaa Tp H 117 (.map kb)=some (.i n0)) (g1:some (Q8 (.i 0) H)=some (.q zb,H0)) (g2:ST H0 3 (.q zb) (.i (qA.wrap (n0-1))) H1) (y14 y15 y16 y17 y18 y20 y21 y22 y23 y31 y32 y60 y61 y72 y73 y74:HV:=Ud): RU F 65 29902 B65 (e65 n ls bb ab w p nb pb u top (.n top) (.map kb) y14 y15 y16 y17 y18 y20 y21 y22 y23 y31 y32 y60 y61 y72 y73 y74) H .normal (e65 n ls bb ab w p nb pb u top (.n top) (.map kb) y14 (.q zb) y16 y17 y18 y20 y21 y22 y23 y31 y32 y60 y61 y72 y73 y74) H1 :=
 hx N 60 [jO 12 1 H g0,jR 12 3 g1,jS 12 4 g2]
theorem Qpd (u:Int) (top:Nat) (kb:Nat) (zb:Nat) (e:Int) (g0:LD H 3 (.q zb) (.i e)) (g1:e<1) (y14 y16 y17 y18 y20 y21 y22 y23 y31 y32 y60 y61 y72 y73 y74:HV:=Ud): RU F 65 59806 B65 (e65 n ls bb ab w p nb pb u top (.n top) (.map kb) y14 (.q zb) y16 y17 y18 y20 y21 y22 y23 y31 y32 y60 y61 y72 y73 y74) H (.exit 1) (e65 n ls bb ab w p nb pb u top (.n top) (.map kb) y14 (.q zb) y16 y17 y18 y20 y21 y22 y23 y31 y32 y60 y61 y72 y73 y74) H :=
 hx N 60 [jO 13 0 H g0,jT 13 1 H g1]
theorem Qpe (u:Int) (top:Nat) (kb:Nat) (zb:Nat) (e:Int) (g0:LD H 3 (.q zb) (.i e)) (g1:¬(e<1)) (y14 y16 y17 y18 y20 y21 y22 y23 y31 y32 y60 y61 y72 y73 y74:HV:=Ud): RU F 65 59806 B65 (e65 n ls bb ab w p nb pb u top (.n top) (.map kb) y14 (.q zb) y16 y17 y18 y20 y21 y22 y23 y31 y32 y60 y61 y72 y73 y74) H .normal (e65 n ls bb ab w p nb pb u top (.n top) (.map kb) y14 (.q zb) y16 y17 y18 y20 y21 y22 y23 y31 y32 y60 y61 y72 y73 y74) H :=
 hx N 60 [jO 13 0 H g0,jF 13 1 H g1]
theorem Qpf (u:Int) (top:Nat) (kb:Nat) (zb:Nat) (xb:Nat) (mb q:Nat) {H0:Heap} {H1:Heap} {H2:Heap} (g0:LD H 3 (.q zb) (.n q)) (g1:V3 Tp false 57 (.n q) (.n q) H=some (.o mb q,H0)) (g2:some (HV.ptr H0.length 0 0 1,H0++[Blk.arr 1 [HV.sl (H0.length+1) 0 0 none 0 1] true (H0.length+2),Blk.b []])=some (.q xb,H1)) (g3:ST H1 57 (.q xb) (.o mb q) H2) (y14 y16 y17 y18 y20 y21 y22 y23 y31 y32 y60 y61 y72 y73 y74:HV:=Ud): RU F 65 119614 B65 (e65 n ls bb ab w p nb pb u top (.n top) (.map kb) y14 (.q zb) y16 y17 y18 y20 y21 y22 y23 y31 y32 y60 y61 y72 y73 y74) H .normal (e65 n ls bb ab w p nb pb u top (.n top) (.map kb) y14 (.q zb) (.q xb) y17 y18 y20 y21 y22 y23 y31 y32 y60 y61 y72 y73 y74) H2 :=
 hx N 60 [jO 14 0 H g0,jR 14 1 g1,jR 14 2 g2,jS 14 3 g3]
theorem Qpg (u:Int) (top:Nat) (kb:Nat) (zb:Nat) (xb:Nat) (mb q:Nat) (g0:LD H 57 (.q xb) (.o mb q)) (y14 y17 y18 y20 y21 y22 y23 y31 y32 y60 y61 y72 y73 y74:HV:=Ud): RU F 65 478460 B65 (e65 n ls bb ab w p nb pb u top (.n top) (.map kb) y14 (.q zb) (.q xb) y17 y18 y20 y21 y22 y23 y31 y32 y60 y61 y72 y73 y74) H .normal (e65 n ls bb ab w p nb pb u top (.n top) (.map kb) y14 (.q zb) (.q xb) y17 y18 y20 y21 y22 y23 y31 y32 (.n q) (.i 0) y72 y73 y74) H :=
 hx N 60 [jO 15 0 H g0]
theorem Qph (u:Int) (top:Nat) (kb:Nat) (zb:Nat) (xb:Nat) (q i:Nat) (g0:(i:Int)<(q:Int)) (y12 y14 y17 y18 y20 y21 y22 y23 y31 y32 y72 y73 y74:HV:=Ud): RunsTo Tp (plF F) 65 (sn 3827688 B65) (e65 n ls bb ab w p nb pb u top y12 (.map kb) y14 (.q zb) (.q xb) y17 y18 y20 y21 y22 y23 y31 y32 (.n q) (.n i) y72 y73 y74) H .normal [0,1,2,3,4,5,9,10,11,12,13,14,15,16,17,18,20,21,22,23,25,26,31,32,60,61,72,73,74,62] [(0,.N n ls),(1,.q bb),(2,.q ab),(3,.i w),(4,.i p),(5,.q nb),(9,.q pb),(10,.i 0),(11,.i u),(12,y12),(13,.map kb),(14,y14),(15,.q zb),(16,.q xb),(17,y17),(18,y18),(20,y20),(21,y21),(22,y22),(23,y23),(25,.i n),(26,.n top),(31,y31),(32,y32),(60,.n q),(61,.n i),(72,y72),(73,y73),(74,y74),(62,.bool true)] H :=
 hx N 60 [jT 16 0 H g0]
theorem Qpi (u:Int) (top:Nat) (kb:Nat) (zb:Nat) (xb:Nat) (q i:Nat) (g0:¬((i:Int)<(q:Int))) (y12 y14 y17 y18 y20 y21 y22 y23 y31 y32 y72 y73 y74:HV:=Ud): RunsTo Tp (plF F) 65 (sn 3827688 B65) (e65 n ls bb ab w p nb pb u top y12 (.map kb) y14 (.q zb) (.q xb) y17 y18 y20 y21 y22 y23 y31 y32 (.n q) (.n i) y72 y73 y74) H .normal [0,1,2,3,4,5,9,10,11,12,13,14,15,16,17,18,20,21,22,23,25,26,31,32,60,61,72,73,74,62] [(0,.N n ls),(1,.q bb),(2,.q ab),(3,.i w),(4,.i p),(5,.q nb),(9,.q pb),(10,.i 0),(11,.i u),(12,y12),(13,.map kb),(14,y14),(15,.q zb),(16,.q xb),(17,y17),(18,y18),(20,y20),(21,y21),(22,y22),(23,y23),(25,.i n),(26,.n top),(31,y31),(32,y32),(60,.n q),(61,.n i),(72,y72),(73,y73),(74,y74),(62,.bool false)] H :=
 hx N 60 [jF 16 0 H g0]
theorem Qhe (u:Int) (top:Nat) (kb:Nat) (zb:Nat) (xb:Nat) (q i:Nat) (y12 y14 y17 y18 y20 y21 y22 y23 y31 y32 y72 y73 y74:HV:=Ud): RU F 65 7655378 B65 [(0,.N n ls),(1,.q bb),(2,.q ab),(3,.i w),(4,.i p),(5,.q nb),(9,.q pb),(10,.i 0),(11,.i u),(12,y12),(13,.map kb),(14,y14),(15,.q zb),(16,.q xb),(17,y17),(18,y18),(20,y20),(21,y21),(22,y22),(23,y23),(25,.i n),(26,.n top),(31,y31),(32,y32),(60,.n q),(61,.n i),(72,y72),(73,y73),(74,y74),(62,.bool true)] H .normal (e65 n ls bb ab w p nb pb u top y12 (.map kb) y14 (.q zb) (.q xb) y17 y18 y20 y21 y22 y23 y31 y32 (.n q) (.n i) y72 y73 y74) H :=
 hx N 60 []
theorem Qhf (u:Int) (top:Nat) (kb:Nat) (zb:Nat) (xb:Nat) (q i:Nat) (y12 y14 y17 y18 y20 y21 y22 y23 y31 y32 y72 y73 y74:HV:=Ud): RU F 65 7655378 B65 [(0,.N n ls),(1,.q bb),(2,.q ab),(3,.i w),(4,.i p),(5,.q nb),(9,.q pb),(10,.i 0),(11,.i u),(12,y12),(13,.map kb),(14,y14),(15,.q zb),(16,.q xb),(17,y17),(18,y18),(20,y20),(21,y21),(22,y22),(23,y23),(25,.i n),(26,.n top),(31,y31),(32,y32),(60,.n q),(61,.n i),(72,y72),(73,y73),(74,y74),(62,.bool false)] H (.exit 4) (e65 n ls bb ab w p nb pb u top y12 (.map kb) y14 (.q zb) (.q xb) y17 y18 y20 y21 y22 y23 y31 y32 (.n q) (.n i) y72 y73 y74) H :=
 hx N 60 []
theorem Qpj (u:Int) (top:Nat) (kb:Nat) (zb:Nat) (xb:Nat) (q i mb ra:Nat) {H0:Heap} {H1:Heap} (g0:LD H 57 (.q xb) (.o mb q)) (g1:LD H 3 (.q zb) (.n q)) (g2:V3 Tp false 24 (.n q) (.n q) H=some (.o ra q,H0)) (g3:IO 57 mb q i) (g4:ST H0 24 (.ptr mb i 0 q) (.o ra q) H1) (gS18:(WT ((QH Tp H 57 (.q xb)).map (fun v=>(v,(H:Heap)))) ((QH Tp H0 57 (.q xb)).map (fun v=>(v,(H0:Heap)))) H H0&&true)=true) (y12 y14 y17 y18 y20 y21 y22 y23 y31 y32 y72 y73 y74:HV:=Ud): RU F 65 15310758 B65 (e65 n ls bb ab w p nb pb u top y12 (.map kb) y14 (.q zb) (.q xb) y17 y18 y20 y21 y22 y23 y31 y32 (.n q) (.n i) y72 y73 y74) H .normal (e65 n ls bb ab w p nb pb u top y12 (.map kb) y14 (.q zb) (.q xb) (.n i) y18 y20 y21 y22 y23 y31 y32 (.n q) (.n i) y72 y73 y74) H1 :=
 hx N 60 [jK gS18,jO 18 0 H g0,jO 18 2 H g1,jR 18 3 g2,jO 18 4 H0 g3,jS 18 5 g4]
theorem Qpk (u:Int) (top:Nat) (kb:Nat) (zb:Nat) (xb:Nat) (q i:Nat) (y12 y14 y17 y18 y20 y21 y22 y23 y31 y32 y72 y73 y74:HV:=Ud): RU F 65 15310759 B65 (e65 n ls bb ab w p nb pb u top y12 (.map kb) y14 (.q zb) (.q xb) y17 y18 y20 y21 y22 y23 y31 y32 (.n q) (.n i) y72 y73 y74) H .normal (e65 n ls bb ab w p nb pb u top y12 (.map kb) y14 (.q zb) (.q xb) y17 y18 y20 y21 y22 y23 y31 y32 (.n q) (.i (qA.wrap ((i:Int)+1))) y72 y73 y74) H :=
 hx N 60 []
theorem Qpl (u:Int) (top:Nat) (kb:Nat) (zb:Nat) (xb:Nat) (y12 y14 y17 y18 y20 y21 y22 y23 y31 y32 y60 y61 y72 y73 y74:HV:=Ud): RU F 65 478462 B65 (e65 n ls bb ab w p nb pb u top y12 (.map kb) y14 (.q zb) (.q xb) y17 y18 y20 y21 y22 y23 y31 y32 y60 y61 y72 y73 y74) H .normal (e65 n ls bb ab w p nb pb u top y12 (.map kb) y14 (.q zb) (.q xb) y17 (.func 86 [] [.q zb,.q xb,.q pb]) y20 y21 y22 y23 y31 y32 y60 y61 y72 y73 y74) H :=
 hx N 60 []
theorem Qpm (u:Int) (top:Nat) (kb:Nat) (zb:Nat) (xb:Nat) (g0:LD H 22 (.ptr nb 0 1 1) (.g ls)) (y12 y14 y17 y20 y21 y22 y23 y31 y32 y60 y61 y72 y73 y74:HV:=Ud): RU F 65 1913852 B65 (e65 n ls bb ab w p nb pb u top y12 (.map kb) y14 (.q zb) (.q xb) y17 (.func 86 [] [.q zb,.q xb,.q pb]) y20 y21 y22 y23 y31 y32 y60 y61 y72 y73 y74) H .normal (e65 n ls bb ab w p nb pb u top y12 (.map kb) y14 (.q zb) (.q xb) y17 (.func 86 [] [.q zb,.q xb,.q pb]) y20 y21 y22 y23 y31 y32 y60 y61 (.g ls) (.i (ls.length:Int)) (.i 0)) H :=
 hx N 60 [jO 21 1 H g0]
theorem Qpn (u:Int) (top:Nat) (kb:Nat) (zb:Nat) (xb:Nat) (m k:Nat) (g0:(k:Int)<(m:Int)) (y12 y14 y15 y17 y20 y21 y22 y23 y31 y32 y60 y61:HV:=Ud): RunsTo Tp (plF F) 65 (sn 15310824 B65) (e65 n ls bb ab w p nb pb u top y12 (.map kb) y14 y15 (.q xb) y17 (.func 86 [] [.q zb,.q xb,.q pb]) y20 y21 y22 y23 y31 y32 y60 y61 (.g ls) (.n m) (.n k)) H .normal [0,1,2,3,4,5,9,10,11,12,13,14,15,16,17,18,20,21,22,23,25,26,31,32,60,61,72,73,74,75] [(0,.N n ls),(1,.q bb),(2,.q ab),(3,.i w),(4,.i p),(5,.q nb),(9,.q pb),(10,.i 0),(11,.i u),(12,y12),(13,.map kb),(14,y14),(15,y15),(16,.q xb),(17,y17),(18,.func 86 [] [.q zb,.q xb,.q pb]),(20,y20),(21,y21),(22,y22),(23,y23),(25,.i n),(26,.n top),(31,y31),(32,y32),(60,y60),(61,y61),(72,.g ls),(73,.n m),(74,.n k),(75,.bool true)] H :=
 hx N 60 [jT 22 0 H g0]
theorem Qpo (u:Int) (top:Nat) (kb:Nat) (zb:Nat) (xb:Nat) (m k:Nat) (g0:¬((k:Int)<(m:Int))) (y12 y14 y15 y17 y20 y21 y22 y23 y31 y32 y60 y61:HV:=Ud): RunsTo Tp (plF F) 65 (sn 15310824 B65) (e65 n ls bb ab w p nb pb u top y12 (.map kb) y14 y15 (.q xb) y17 (.func 86 [] [.q zb,.q xb,.q pb]) y20 y21 y22 y23 y31 y32 y60 y61 (.g ls) (.n m) (.n k)) H .normal [0,1,2,3,4,5,9,10,11,12,13,14,15,16,17,18,20,21,22,23,25,26,31,32,60,61,72,73,74,75] [(0,.N n ls),(1,.q bb),(2,.q ab),(3,.i w),(4,.i p),(5,.q nb),(9,.q pb),(10,.i 0),(11,.i u),(12,y12),(13,.map kb),(14,y14),(15,y15),(16,.q xb),(17,y17),(18,.func 86 [] [.q zb,.q xb,.q pb]),(20,y20),(21,y21),(22,y22),(23,y23),(25,.i n),(26,.n top),(31,y31),(32,y32),(60,y60),(61,y61),(72,.g ls),(73,.n m),(74,.n k),(75,.bool false)] H :=
 hx N 60 [jF 22 0 H g0]
theorem Qhg (u:Int) (top:Nat) (kb:Nat) (zb:Nat) (xb:Nat) (m k:Nat) (y12 y14 y15 y17 y20 y21 y22 y23 y31 y32 y60 y61:HV:=Ud): RU F 65 30621650 B65 [(0,.N n ls),(1,.q bb),(2,.q ab),(3,.i w),(4,.i p),(5,.q nb),(9,.q pb),(10,.i 0),(11,.i u),(12,y12),(13,.map kb),(14,y14),(15,y15),(16,.q xb),(17,y17),(18,.func 86 [] [.q zb,.q xb,.q pb]),(20,y20),(21,y21),(22,y22),(23,y23),(25,.i n),(26,.n top),(31,y31),(32,y32),(60,y60),(61,y61),(72,.g ls),(73,.n m),(74,.n k),(75,.bool true)] H .normal (e65 n ls bb ab w p nb pb u top y12 (.map kb) y14 y15 (.q xb) y17 (.func 86 [] [.q zb,.q xb,.q pb]) y20 y21 y22 y23 y31 y32 y60 y61 (.g ls) (.n m) (.n k)) H :=
 hx N 60 []
theorem Qhh (u:Int) (top:Nat) (kb:Nat) (zb:Nat) (xb:Nat) (m k:Nat) (y12 y14 y15 y17 y20 y21 y22 y23 y31 y32 y60 y61:HV:=Ud): RU F 65 30621650 B65 [(0,.N n ls),(1,.q bb),(2,.q ab),(3,.i w),(4,.i p),(5,.q nb),(9,.q pb),(10,.i 0),(11,.i u),(12,y12),(13,.map kb),(14,y14),(15,y15),(16,.q xb),(17,y17),(18,.func 86 [] [.q zb,.q xb,.q pb]),(20,y20),(21,y21),(22,y22),(23,y23),(25,.i n),(26,.n top),(31,y31),(32,y32),(60,y60),(61,y61),(72,.g ls),(73,.n m),(74,.n k),(75,.bool false)] H (.exit 6) (e65 n ls bb ab w p nb pb u top y12 (.map kb) y14 y15 (.q xb) y17 (.func 86 [] [.q zb,.q xb,.q pb]) y20 y21 y22 y23 y31 y32 y60 y61 (.g ls) (.n m) (.n k)) H :=
 hx N 60 []
theorem Qpp (u:Int) (top:Nat) (kb:Nat) (zb:Nat) (xb:Nat) (m k:Nat) (a2 b2 w2:Int) {a0:HV} {H0:Heap} {H1:Heap} {a1:HV} {e0:Int} {H2:Heap} {t0:Int} {a3:HV} {e1:Int} {H3:Heap} {t1:Int} {a4:HV} (g0:IX 22 (.g ls) (.n k) (.vptr (.agg [.i a2,.i b2,.i w2]))) (g1:some (Q8 (.agg [.i 0,.i 0,.i 0]) H)=some (a0,H0)) (g2:ST H0 42 (a0) (.agg [.i a2,.i b2,.i w2]) H1) (g3:Qr Tp 42 a0 0=some (a1)) (g4:LD H1 3 (a1) (.i a2)) (g5:CN F N 55 [.q bb,.i a2] H1 (.i e0) H2) (g6:lkG Tp 117 H2 kb (.i e0) true=some (.tuple [.i t0,.bool true],H2)) (g7:Qr Tp 42 a0 1=some (a3)) (g8:LD H2 3 (a3) (.i b2)) (g9:CN F N 55 [.q bb,.i b2] H2 (.i e1) H3) (g10:lkG Tp 117 H3 kb (.i e1) false=some (.i t1,H3)) (g11:Qr Tp 42 a0 2=some (a4)) (g12:LD H3 3 (a4) (.i w2)) (g13:w2=w) (g14:t0=t1) (y12 y14 y15 y17 y20 y21 y22 y23 y31 y32 y60 y61:HV:=Ud): RU F 65 61243302 B65 (e65 n ls bb ab w p nb pb u top y12 (.map kb) y14 y15 (.q xb) y17 (.func 86 [] [.q zb,.q xb,.q pb]) y20 y21 y22 y23 y31 y32 y60 y61 (.g ls) (.n m) (.n k)) H .normal (e65 n ls bb ab w p nb pb u top y12 (.map kb) y14 y15 (.q xb) y17 (.func 86 [] [.q zb,.q xb,.q pb]) a0 (.i t0) (.bool true) (.i t1) y31 y32 y60 y61 (.g ls) (.n m) (.n k)) H3 :=
 hx N 60 [jO 23 0 H g0,jR 23 2 g1,jS 23 3 g2,jO 24 2 H1 g3,jO 24 3 H1 g4,jC 24 4 g5,jR 24 5 g6,jO 25 2 H2 g7,jO 25 3 H2 g8,jC 25 4 g9,jR 25 5 g10,jO 26 2 H3 g11,jO 26 3 H3 g12,jT 26 5 H3 g13,jB 26 10 H3 (congrArg not (decide_eq_true g14))]
theorem Qpq (u:Int) (top:Nat) (kb:Nat) (zb:Nat) (xb:Nat) (m k:Nat) (a2 b2 w2:Int) {a0:HV} {H0:Heap} {H1:Heap} {a1:HV} {e0:Int} {H2:Heap} {t0:Int} {a3:HV} {e1:Int} {H3:Heap} {t1:Int} {a4:HV} {H4:Heap} {H5:Heap} {H6:Heap} {H7:Heap} (g0:IX 22 (.g ls) (.n k) (.vptr (.agg [.i a2,.i b2,.i w2]))) (g1:some (Q8 (.agg [.i 0,.i 0,.i 0]) H)=some (a0,H0)) (g2:ST H0 42 (a0) (.agg [.i a2,.i b2,.i w2]) H1) (g3:Qr Tp 42 a0 0=some (a1)) (g4:LD H1 3 (a1) (.i a2)) (g5:CN F N 55 [.q bb,.i a2] H1 (.i e0) H2) (g6:lkG Tp 117 H2 kb (.i e0) true=some (.tuple [.i t0,.bool true],H2)) (g7:Qr Tp 42 a0 1=some (a3)) (g8:LD H2 3 (a3) (.i b2)) (g9:CN F N 55 [.q bb,.i b2] H2 (.i e1) H3) (g10:lkG Tp 117 H3 kb (.i e1) false=some (.i t1,H3)) (g11:Qr Tp 42 a0 2=some (a4)) (g12:LD H3 3 (a4) (.i w2)) (g13:w2=w) (g14:¬(t0=t1)) (g15:CN F N 86 [.i t0,.i t0,.i 1,.q zb,.q xb,.q pb] H3 (.tuple []) H4) (g16:CN F N 86 [.i t1,.i t1,.i 1,.q zb,.q xb,.q pb] H4 (.tuple []) H5) (g17:CN F N 86 [.i t0,.i t1,.i (-1),.q zb,.q xb,.q pb] H5 (.tuple []) H6) (g18:CN F N 86 [.i t1,.i t0,.i (-1),.q zb,.q xb,.q pb] H6 (.tuple []) H7) (y12 y14 y15 y17 y20 y21 y22 y23 y31 y32 y60 y61:HV:=Ud): RU F 65 61243302 B65 (e65 n ls bb ab w p nb pb u top y12 (.map kb) y14 y15 (.q xb) y17 (.func 86 [] [.q zb,.q xb,.q pb]) y20 y21 y22 y23 y31 y32 y60 y61 (.g ls) (.n m) (.n k)) H .normal (e65 n ls bb ab w p nb pb u top y12 (.map kb) y14 y15 (.q xb) y17 (.func 86 [] [.q zb,.q xb,.q pb]) a0 (.i t0) (.bool true) (.i t1) y31 y32 y60 y61 (.g ls) (.n m) (.n k)) H7 :=
 hx N 60 [jO 23 0 H g0,jR 23 2 g1,jS 23 3 g2,jO 24 2 H1 g3,jO 24 3 H1 g4,jC 24 4 g5,jR 24 5 g6,jO 25 2 H2 g7,jO 25 3 H2 g8,jC 25 4 g9,jR 25 5 g10,jO 26 2 H3 g11,jO 26 3 H3 g12,jT 26 5 H3 g13,jB 26 10 H3 (congrArg not (decide_eq_false g14)),jC 27 3 g15,jC 28 3 g16,jC 29 3 g17,jC 30 3 g18]
theorem Qpr (u:Int) (top:Nat) (kb:Nat) (zb:Nat) (xb:Nat) (m k:Nat) (a2 b2 w2:Int) {a0:HV} {H0:Heap} {H1:Heap} {a1:HV} {e0:Int} {H2:Heap} {t0:Int} {a3:HV} {e1:Int} {H3:Heap} {t1:Int} {a4:HV} (g0:IX 22 (.g ls) (.n k) (.vptr (.agg [.i a2,.i b2,.i w2]))) (g1:some (Q8 (.agg [.i 0,.i 0,.i 0]) H)=some (a0,H0)) (g2:ST H0 42 (a0) (.agg [.i a2,.i b2,.i w2]) H1) (g3:Qr Tp 42 a0 0=some (a1)) (g4:LD H1 3 (a1) (.i a2)) (g5:CN F N 55 [.q bb,.i a2] H1 (.i e0) H2) (g6:lkG Tp 117 H2 kb (.i e0) true=some (.tuple [.i t0,.bool true],H2)) (g7:Qr Tp 42 a0 1=some (a3)) (g8:LD H2 3 (a3) (.i b2)) (g9:CN F N 55 [.q bb,.i b2] H2 (.i e1) H3) (g10:lkG Tp 117 H3 kb (.i e1) false=some (.i t1,H3)) (g11:Qr Tp 42 a0 2=some (a4)) (g12:LD H3 3 (a4) (.i w2)) (g13:¬(w2=w)) (y12 y14 y15 y17 y20 y21 y22 y23 y31 y32 y60 y61:HV:=Ud): RU F 65 61243302 B65 (e65 n ls bb ab w p nb pb u top y12 (.map kb) y14 y15 (.q xb) y17 (.func 86 [] [.q zb,.q xb,.q pb]) y20 y21 y22 y23 y31 y32 y60 y61 (.g ls) (.n m) (.n k)) H .normal (e65 n ls bb ab w p nb pb u top y12 (.map kb) y14 y15 (.q xb) y17 (.func 86 [] [.q zb,.q xb,.q pb]) a0 (.i t0) (.bool true) (.i t1) y31 y32 y60 y61 (.g ls) (.n m) (.n k)) H3 :=
 hx N 60 [jO 23 0 H g0,jR 23 2 g1,jS 23 3 g2,jO 24 2 H1 g3,jO 24 3 H1 g4,jC 24 4 g5,jR 24 5 g6,jO 25 2 H2 g7,jO 25 3 H2 g8,jC 25 4 g9,jR 25 5 g10,jO 26 2 H3 g11,jO 26 3 H3 g12,jF 26 5 H3 g13]
theorem Qps (u:Int) (top:Nat) (kb:Nat) (zb:Nat) (xb:Nat) (m k:Nat) (a2 b2 w2:Int) {a0:HV} {H0:Heap} {H1:Heap} {a1:HV} {e0:Int} {H2:Heap} {a3:HV} {e1:Int} {H3:Heap} {t0:Int} (g0:IX 22 (.g ls) (.n k) (.vptr (.agg [.i a2,.i b2,.i w2]))) (g1:some (Q8 (.agg [.i 0,.i 0,.i 0]) H)=some (a0,H0)) (g2:ST H0 42 (a0) (.agg [.i a2,.i b2,.i w2]) H1) (g3:Qr Tp 42 a0 0=some (a1)) (g4:LD H1 3 (a1) (.i a2)) (g5:CN F N 55 [.q bb,.i a2] H1 (.i e0) H2) (g6:lkG Tp 117 H2 kb (.i e0) true=some (.tuple [.i 0,.bool false],H2)) (g7:Qr Tp 42 a0 1=some (a3)) (g8:LD H2 3 (a3) (.i b2)) (g9:CN F N 55 [.q bb,.i b2] H2 (.i e1) H3) (g10:lkG Tp 117 H3 kb (.i e1) false=some (.i t0,H3)) (y12 y14 y15 y17 y20 y21 y22 y23 y31 y32 y60 y61:HV:=Ud): RU F 65 61243302 B65 (e65 n ls bb ab w p nb pb u top y12 (.map kb) y14 y15 (.q xb) y17 (.func 86 [] [.q zb,.q xb,.q pb]) y20 y21 y22 y23 y31 y32 y60 y61 (.g ls) (.n m) (.n k)) H .normal (e65 n ls bb ab w p nb pb u top y12 (.map kb) y14 y15 (.q xb) y17 (.func 86 [] [.q zb,.q xb,.q pb]) a0 (.i 0) (.bool false) (.i t0) y31 y32 y60 y61 (.g ls) (.n m) (.n k)) H3 :=
 hx N 60 [jO 23 0 H g0,jR 23 2 g1,jS 23 3 g2,jO 24 2 H1 g3,jO 24 3 H1 g4,jC 24 4 g5,jR 24 5 g6,jO 25 2 H2 g7,jO 25 3 H2 g8,jC 25 4 g9,jR 25 5 g10]
theorem Qpt (u:Int) (top:Nat) (kb:Nat) (zb:Nat) (xb:Nat) (m k:Nat) (y12 y14 y15 y17 y20 y21 y22 y23 y31 y32 y60 y61:HV:=Ud): RU F 65 61243303 B65 (e65 n ls bb ab w p nb pb u top y12 (.map kb) y14 y15 (.q xb) y17 (.func 86 [] [.q zb,.q xb,.q pb]) y20 y21 y22 y23 y31 y32 y60 y61 (.g ls) (.n m) (.n k)) H .normal (e65 n ls bb ab w p nb pb u top y12 (.map kb) y14 y15 (.q xb) y17 (.func 86 [] [.q zb,.q xb,.q pb]) y20 y21 y22 y23 y31 y32 y60 y61 (.g ls) (.n m) (.i (qA.wrap ((k:Int)+1)))) H :=
 hx N 60 []
theorem Qpu (u:Int) (top:Nat) (kb:Nat) (zb:Nat) (xb:Nat) (mb q:Nat) {e0:Int} {H0:Heap} (g0:LD H 57 (.q xb) (.o mb q)) (g1:LD H 3 (.q pb) (.i p)) (g2:CN F N 87 [.o mb q,.i p] H (.i e0) H0) (g3:LD H0 3 (.q pb) (.i p)) (g4:BV .rem 3 (.i (qA.wrap (u*e0))) (.i p) (.i ((qA.wrap (u*e0):Int).tmod p))) (gS32:(WT ((QH Tp H0 3 (.q pb)).map (fun v=>(v,(H0:Heap)))) ((QH Tp H 3 (.q pb)).map (fun v=>(v,(H:Heap)))) H0 H&&true)=true) (y12 y14 y15 y17 y20 y21 y22 y23 y31 y32 y60 y61 y72 y73 y74:HV:=Ud): RU F 65 956927 B65 (e65 n ls bb ab w p nb pb u top y12 (.map kb) y14 y15 (.q xb) y17 (.func 86 [] [.q zb,.q xb,.q pb]) y20 y21 y22 y23 y31 y32 y60 y61 y72 y73 y74) H .normal (QY (.N n ls) (.q bb) (.q ab) (.i w) (.i p) (.q nb) (.q pb) (.i 0) (.i ((qA.wrap (u*e0):Int).tmod p)) y12 (.map kb) y14 y15 (.q xb) y17 (.func 86 [] [.q zb,.q xb,.q pb]) y20 y21 y22 y23 (.i n) (.n top) y31 y32 y60 y61 y72 y73 y74) H0 :=
 hx N 60 [jK gS32,jO 32 1 H g0,jO 32 2 H g1,jC 32 3 g2,jO 32 5 H0 g3,jO 32 6 H0 g4]
theorem Qe4 (u:Int) (top:Nat) (y12 y13 y14 y15 y16 y17 y18 y20 y21 y22 y23 y31 y32 y60 y61 y72 y73 y74:HV:=Ud): RU F 65 935 B65 (e65 n ls bb ab w p nb pb u top y12 y13 y14 y15 y16 y17 y18 y20 y21 y22 y23 y31 y32 y60 y61 y72 y73 y74) H .normal (QY (.N n ls) (.q bb) (.q ab) (.i w) (.i p) (.q nb) (.q pb) (.i 0) (.i u) y12 y13 y14 y15 y16 y17 y18 y20 y21 y22 y23 (.i n) (.i (qA.wrap ((top:Int)+1))) y31 y32 y60 y61 y72 y73 y74) H :=
 hx N 60 []
theorem Qpv (u:Int) (y12 y13 y14 y15 y16 y17 y18 y20 y21 y22 y23 y25 y26 y31 y32 y60 y61 y72 y73 y74:HV:=Ud): RU F 65 15 B65 (QY (.N n ls) (.q bb) (.q ab) (.i w) (.i p) (.q nb) (.q pb) (.i 0) (.i u) y12 y13 y14 y15 y16 y17 y18 y20 y21 y22 y23 y25 y26 y31 y32 y60 y61 y72 y73 y74) H .ret (QY (.N n ls) (.q bb) (.q ab) (.i w) (.i p) (.q nb) (.q pb) (.i u) (.i u) y12 y13 y14 y15 y16 y17 y18 y20 y21 y22 y23 y25 y26 y31 y32 y60 y61 y72 y73 y74) H :=
 hx N 60 []
end
section
variable {F:FuncId→Option (List HV→Option HV)}
noncomputable def B87:Code:=Try.f87.body.getD .skip
abbrev Q5 (v0 v1 v4 v5 v6 v7 v8 v9 v10 v11 v13 v14:HV):Env:=[(0,v0),(1,v1),(4,v4),(5,v5),(6,v6),(7,v7),(8,v8),(9,v9),(10,v10),(11,v11),(13,v13),(14,v14)]
end
abbrev e87 (mb:Nat) (q:Nat) (p:Int) (u:Int) (c:Nat) (u5 u6 u7 u8 u9:HV):Env:=Q5 (.o mb q) (.i p) (.i 0) (.i u) (.n c) u5 u6 u7 u8 u9 (.n q) (.n c)
section
variable {F:FuncId→Option (List HV→Option HV)}
variable (N:Nat) (mb q:Nat) (p:Int) (H:Heap)
include N mb q p H
theorem Qpw:RU F 87 2 B87 [(0,.o mb q),(1,.i p)] H .normal (Q5 (.o mb q) (.i p) (.i 0) Ud Ud Ud Ud Ud Ud Ud Ud Ud) H :=
 hx N 60 []
end
section
variable {F:FuncId→Option (List HV→Option HV)}
variable (N:Nat) (mb q:Nat) (p:Int) (H:Heap)
include N mb q p H
theorem Qpx (y5 y6 y7 y8 y9 y10 y11 y13 y14:HV:=Ud): RU F 87 6 B87 (Q5 (.o mb q) (.i p) (.i 0) y5 y6 y7 y8 y9 y10 y11 y13 y14) H .normal (Q5 (.o mb q) (.i p) (.i 0) (.i 1) y6 y7 y8 y9 y10 y11 y13 y14) H :=
 hx N 60 []
theorem Qpy (u:Int) (y6 y7 y8 y9 y10 y11 y13 y14:HV:=Ud): RU F 87 28 B87 (Q5 (.o mb q) (.i p) (.i 0) (.i u) y6 y7 y8 y9 y10 y11 y13 y14) H .normal (Q5 (.o mb q) (.i p) (.i 0) (.i u) y6 y7 y8 y9 y10 y11 (.n q) (.i 0)) H :=
 hx N 60 []
theorem Qpz (c:Nat) (u:Int) (g0:(c:Int)<(q:Int)) (y6 y7 y8 y9 y10 y11:HV:=Ud): RunsTo Tp (plF F) 87 (sn 232 B87) (Q5 (.o mb q) (.i p) (.i 0) (.i u) y6 y7 y8 y9 y10 y11 (.n q) (.n c)) H .normal [0,1,4,5,6,7,8,9,10,11,13,14,15] [(0,.o mb q),(1,.i p),(4,.i 0),(5,.i u),(6,y6),(7,y7),(8,y8),(9,y9),(10,y10),(11,y11),(13,.n q),(14,.n c),(15,.bool true)] H :=
 hx N 60 [jT 3 0 H g0]
theorem QpA (c:Nat) (u:Int) (g0:¬((c:Int)<(q:Int))) (y6 y7 y8 y9 y10 y11:HV:=Ud): RunsTo Tp (plF F) 87 (sn 232 B87) (Q5 (.o mb q) (.i p) (.i 0) (.i u) y6 y7 y8 y9 y10 y11 (.n q) (.n c)) H .normal [0,1,4,5,6,7,8,9,10,11,13,14,15] [(0,.o mb q),(1,.i p),(4,.i 0),(5,.i u),(6,y6),(7,y7),(8,y8),(9,y9),(10,y10),(11,y11),(13,.n q),(14,.n c),(15,.bool false)] H :=
 hx N 60 [jF 3 0 H g0]
theorem Qhi (c:Nat) (u:Int) (y6 y7 y8 y9 y10 y11:HV:=Ud): RU F 87 466 B87 [(0,.o mb q),(1,.i p),(4,.i 0),(5,.i u),(6,y6),(7,y7),(8,y8),(9,y9),(10,y10),(11,y11),(13,.n q),(14,.n c),(15,.bool true)] H .normal (Q5 (.o mb q) (.i p) (.i 0) (.i u) y6 y7 y8 y9 y10 y11 (.n q) (.n c)) H :=
 hx N 60 []
theorem Qhj (c:Nat) (u:Int) (y6 y7 y8 y9 y10 y11:HV:=Ud): RU F 87 466 B87 [(0,.o mb q),(1,.i p),(4,.i 0),(5,.i u),(6,y6),(7,y7),(8,y8),(9,y9),(10,y10),(11,y11),(13,.n q),(14,.n c),(15,.bool false)] H (.exit 0) (Q5 (.o mb q) (.i p) (.i 0) (.i u) y6 y7 y8 y9 y10 y11 (.n q) (.n c)) H :=
 hx N 60 []
theorem QpB (c:Nat) (u:Int) (y6 y7 y8 y9 y10 y11:HV:=Ud): RU F 87 3736 B87 (Q5 (.o mb q) (.i p) (.i 0) (.i u) y6 y7 y8 y9 y10 y11 (.n q) (.n c)) H .normal (e87 mb q p u c y7 y8 y9 y10 y11) H :=
 hx N 60 []
theorem QpC (c:Nat) (u:Int) (y7 y8 y9 y10 y11:HV:=Ud): RU F 87 7474 B87 (e87 mb q p u c y7 y8 y9 y10 y11) H .normal (e87 mb q p u c (.n c) y8 y9 y10 y11) H :=
 hx N 60 []
theorem QpD (c r:Nat) (u:Int) (rb:Nat) (x:Int) (g0:(r:Int)<(q:Int)) (g1:IO 57 mb q r) (g2:LD H 24 (.ptr mb r 0 q) (.o rb q)) (g3:IO 24 rb q c) (g4:LD H 3 (.ptr rb c 0 q) (.i x)) (g5:x=0) (y8 y9 y10 y11:HV:=Ud): RU F 87 59800 B87 (e87 mb q p u c (.n r) y8 y9 y10 y11) H .normal (e87 mb q p u c (.i (qA.wrap ((r:Int)+1))) y8 y9 y10 y11) H :=
 hx N 60 [jT 6 3 H g0,jO 6 7 H g1,jO 6 8 H g2,jO 6 10 H g3,jO 6 11 H g4,jT 6 12 H g5]
theorem QpE (c r:Nat) (u:Int) (rb:Nat) (x:Int) (g0:(r:Int)<(q:Int)) (g1:IO 57 mb q r) (g2:LD H 24 (.ptr mb r 0 q) (.o rb q)) (g3:IO 24 rb q c) (g4:LD H 3 (.ptr rb c 0 q) (.i x)) (g5:¬(x=0)) (y8 y9 y10 y11:HV:=Ud): RU F 87 59800 B87 (e87 mb q p u c (.n r) y8 y9 y10 y11) H (.exit 2) (e87 mb q p u c (.n r) y8 y9 y10 y11) H :=
 hx N 60 [jT 6 3 H g0,jO 6 7 H g1,jO 6 8 H g2,jO 6 10 H g3,jO 6 11 H g4,jF 6 12 H g5]
theorem QpF (c r:Nat) (u:Int) (rb:Nat) (x:Int) (g0:¬((r:Int)<(q:Int))) (y8 y9 y10 y11:HV:=Ud): RU F 87 59800 B87 (e87 mb q p u c (.n r) y8 y9 y10 y11) H (.exit 2) (e87 mb q p u c (.n r) y8 y9 y10 y11) H :=
 hx N 60 [jF 6 3 H g0]
theorem QpG (c r:Nat) (u:Int) (g0:(r:Int)=(q:Int)) (y8 y9 y10 y11:HV:=Ud): RU F 87 29902 B87 (e87 mb q p u c (.n r) y8 y9 y10 y11) H .ret (e87 mb q p u c (.n r) y8 y9 y10 y11) H :=
 hx N 60 [jT 8 3 H g0]
theorem QpH (c r:Nat) (u:Int) (g0:¬((r:Int)=(q:Int))) (y8 y9 y10 y11:HV:=Ud): RU F 87 29902 B87 (e87 mb q p u c (.n r) y8 y9 y10 y11) H .normal (e87 mb q p u c (.n r) y8 y9 y10 y11) H :=
 hx N 60 [jF 8 3 H g0]
theorem QpI (c r:Nat) (u:Int) (ra rb:Nat) (g0:(r:Int)=(c:Int)) (y8 y9 y10 y11:HV:=Ud): RU F 87 59806 B87 (e87 mb q p u c (.n r) y8 y9 y10 y11) H .normal (e87 mb q p u c (.n r) y8 y9 y10 y11) H :=
 hx N 60 [jB 10 2 H (congrArg not (decide_eq_true g0))]
theorem QpJ (c r:Nat) (u:Int) (ra rb:Nat) {H0:Heap} {H1:Heap} (g0:¬((r:Int)=(c:Int))) (g1:IO 57 mb q c) (g2:LD H 24 (.ptr mb c 0 q) (.o rb q)) (g3:IO 57 mb q r) (g4:LD H 24 (.ptr mb r 0 q) (.o ra q)) (g5:IO 57 mb q r) (g6:ST H 24 (.ptr mb r 0 q) (.o rb q) H0) (g7:IO 57 mb q c) (g8:ST H0 24 (.ptr mb c 0 q) (.o ra q) H1) (y8 y9 y10 y11:HV:=Ud): RU F 87 59806 B87 (e87 mb q p u c (.n r) y8 y9 y10 y11) H .normal (Q5 (.o mb q) (.i p) (.i 0) (.i (qA.wrap (p-u))) (.n c) (.n r) y8 y9 y10 y11 (.n q) (.n c)) H1 :=
 hx N 60 [jB 10 2 H (congrArg not (decide_eq_false g0)),jO 11 6 H g1,jO 11 7 H g2,jO 11 10 H g3,jO 11 11 H g4,jO 11 12 H g5,jS 11 13 g6,jO 11 14 H0 g7,jS 11 15 g8]
theorem QpK (c r:Nat) (u:Int) (rb:Nat) (x:Int) (g0:IO 57 mb q c) (g1:LD H 24 (.ptr mb c 0 q) (.o rb q)) (g2:IO 24 rb q c) (g3:LD H 3 (.ptr rb c 0 q) (.i x)) (g4:BV .rem 3 (.i (qA.wrap (u*x))) (.i p) (.i ((qA.wrap (u*x):Int).tmod p))) (y8 y9 y10 y11:HV:=Ud): RU F 87 119614 B87 (e87 mb q p u c (.n r) y8 y9 y10 y11) H .normal (Q5 (.o mb q) (.i p) (.i 0) (.i ((qA.wrap (u*x):Int).tmod p)) (.n c) (.n r) y8 y9 y10 y11 (.n q) (.n c)) H :=
 hx N 60 [jO 13 3 H g0,jO 13 4 H g1,jO 13 6 H g2,jO 13 7 H g3,jO 13 10 H g4]
theorem QpL (c r:Nat) (u:Int) (rb:Nat) (x v:Int) {H0:Heap} (g0:IO 57 mb q c) (g1:LD H 24 (.ptr mb c 0 q) (.o rb q)) (g2:IO 24 rb q c) (g3:LD H 3 (.ptr rb c 0 q) (.i x)) (g4:CM F 45 [.i x,.i (qA.wrap (p-2)),.i p] H (.i v) H0) (y8 y9 y10 y11:HV:=Ud): RU F 87 239230 B87 (e87 mb q p u c (.n r) y8 y9 y10 y11) H .normal (e87 mb q p u c (.n r) (.i v) y9 y10 y11) H0 :=
 hx N 60 [jO 14 2 H g0,jO 14 3 H g1,jO 14 5 H g2,jO 14 6 H g3,jD 14 10 g4]
theorem QpM (c r:Nat) (u:Int) (v:Int) (y9 y10 y11:HV:=Ud): RU F 87 478462 B87 (e87 mb q p u c (.n r) (.i v) y9 y10 y11) H .normal (e87 mb q p u c (.n r) (.i v) (.i (qA.wrap ((c:Int)+1))) y10 y11) H :=
 hx N 60 []
theorem QpN (c:Nat) (u:Int) (v:Int) (i:Nat) (g0:(i:Int)<(q:Int)) (y7 y10 y11:HV:=Ud): RU F 87 3827704 B87 (e87 mb q p u c y7 (.i v) (.n i) y10 y11) H .normal (e87 mb q p u c y7 (.i v) (.n i) y10 y11) H :=
 hx N 60 [jT 16 3 H g0]
theorem QpO (c:Nat) (u:Int) (v:Int) (i:Nat) (g0:¬((i:Int)<(q:Int))) (y7 y10 y11:HV:=Ud): RU F 87 3827704 B87 (e87 mb q p u c y7 (.i v) (.n i) y10 y11) H (.exit 4) (e87 mb q p u c y7 (.i v) (.n i) y10 y11) H :=
 hx N 60 [jF 16 3 H g0]
theorem QpP (c:Nat) (u:Int) (v:Int) (i ra:Nat) (y:Int) (g0:IO 57 mb q i) (g1:LD H 24 (.ptr mb i 0 q) (.o ra q)) (g2:IO 24 ra q c) (g3:LD H 3 (.ptr ra c 0 q) (.i y)) (g4:BV .rem 3 (.i (qA.wrap (y*v))) (.i p) (.i ((qA.wrap (y*v):Int).tmod p))) (y7 y10 y11:HV:=Ud): RU F 87 30621640 B87 (e87 mb q p u c y7 (.i v) (.n i) y10 y11) H .normal (e87 mb q p u c y7 (.i v) (.n i) (.i ((qA.wrap (y*v):Int).tmod p)) y11) H :=
 hx N 60 [jO 18 2 H g0,jO 18 3 H g1,jO 18 5 H g2,jO 18 6 H g3,jO 18 10 H g4]
theorem QpQ (c:Nat) (u:Int) (v:Int) (i:Nat) (f:Int) (y7 y11:HV:=Ud): RU F 87 61243282 B87 (e87 mb q p u c y7 (.i v) (.n i) (.i f) y11) H .normal (e87 mb q p u c y7 (.i v) (.n i) (.i f) (.n c)) H :=
 hx N 60 []
theorem QpR (c:Nat) (u:Int) (v:Int) (i:Nat) (f:Int) (j ra rb:Nat) (x y:Int) {H0:Heap} (g0:(j:Int)<(q:Int)) (g1:IO 57 mb q i) (g2:LD H 24 (.ptr mb i 0 q) (.o ra q)) (g3:IO 57 mb q i) (g4:LD H 24 (.ptr mb i 0 q) (.o ra q)) (g5:IO 24 ra q j) (g6:LD H 3 (.ptr ra j 0 q) (.i y)) (g7:IO 57 mb q c) (g8:LD H 24 (.ptr mb c 0 q) (.o rb q)) (g9:IO 24 rb q j) (g10:LD H 3 (.ptr rb j 0 q) (.i x)) (g11:BV .rem 3 (.i (qA.wrap (y+qA.wrap (qA.wrap (p-f)*x)))) (.i p) (.i ((qA.wrap (y+qA.wrap (qA.wrap (p-f)*x)):Int).tmod p))) (g12:IO 24 ra q j) (g13:ST H 3 (.ptr ra j 0 q) (.i ((qA.wrap (y+qA.wrap (qA.wrap (p-f)*x)):Int).tmod p)) H0) (y7:HV:=Ud): RU F 87 244973132 B87 (e87 mb q p u c y7 (.i v) (.n i) (.i f) (.n j)) H .normal (e87 mb q p u c y7 (.i v) (.n i) (.i f) (.i (qA.wrap ((j:Int)+1)))) H0 :=
 hx N 60 [jT 20 3 H g0,jO 22 2 H g1,jO 22 3 H g2,jO 22 7 H g3,jO 22 8 H g4,jO 22 10 H g5,jO 22 11 H g6,jO 22 17 H g7,jO 22 18 H g8,jO 22 20 H g9,jO 22 21 H g10,jO 22 25 H g11,jO 22 26 H g12,jS 22 27 g13]
theorem QpS (c:Nat) (u:Int) (v:Int) (i:Nat) (f:Int) (j ra rb:Nat) (x y:Int) (g0:¬((j:Int)<(q:Int))) (y7:HV:=Ud): RU F 87 244973132 B87 (e87 mb q p u c y7 (.i v) (.n i) (.i f) (.n j)) H (.exit 6) (e87 mb q p u c y7 (.i v) (.n i) (.i f) (.n j)) H :=
 hx N 60 [jF 20 3 H g0]
theorem QpT (c:Nat) (u:Int) (v:Int) (i:Nat) (y7 y10 y11:HV:=Ud): RU F 87 7655411 B87 (e87 mb q p u c y7 (.i v) (.n i) y10 y11) H .normal (e87 mb q p u c y7 (.i v) (.i (qA.wrap ((i:Int)+1))) y10 y11) H :=
 hx N 60 []
theorem QpU (c:Nat) (u:Int) (y6 y7 y8 y9 y10 y11:HV:=Ud): RU F 87 935 B87 (Q5 (.o mb q) (.i p) (.i 0) (.i u) y6 y7 y8 y9 y10 y11 (.n q) (.n c)) H .normal (Q5 (.o mb q) (.i p) (.i 0) (.i u) y6 y7 y8 y9 y10 y11 (.n q) (.i (qA.wrap ((c:Int)+1)))) H :=
 hx N 60 []
theorem QpV (u:Int) (y6 y7 y8 y9 y10 y11 y13 y14:HV:=Ud): RU F 87 15 B87 (Q5 (.o mb q) (.i p) (.i 0) (.i u) y6 y7 y8 y9 y10 y11 y13 y14) H .ret (Q5 (.o mb q) (.i p) (.i u) (.i u) y6 y7 y8 y9 y10 y11 y13 y14) H :=
 hx N 60 []
end
section
variable {F:FuncId→Option (List HV→Option HV)}
noncomputable def B45:Code:=Try.f45.body.getD .skip
abbrev Gv (v0 v1 v2 v6 v7:HV):Env:=[(0,v0),(1,v1),(2,v2),(6,v6),(7,v7)]
end
abbrev e45 (a:Int) (n:Int) (p:Int) (u4:HV):Env:=Gv (.i a) (.i n) (.i p) (.i 0) u4
section
variable {F:FuncId→Option (List HV→Option HV)}
variable (a n p:Int) (H:Heap)
include a n p H
theorem QpW:RU F 45 2 B45 [(0,.i a),(1,.i n),(2,.i p)] H .normal (e45 a n p Ud) H :=
 hx 0 60 []
end
section
variable {F:FuncId→Option (List HV→Option HV)}
variable (a n p:Int) (H:Heap)
include a n p H
theorem QpX (y7:HV:=Ud): RU F 45 6 B45 (e45 a n p y7) H .normal (e45 a n p (.i 1)) H :=
 hx 0 60 []
theorem QpY (u:Int) (g0:0<n) (g1:(n:Int).tmod 2=1) (g2:BV .rem 3 (.i (qA.wrap (u*a))) (.i p) (.i ((qA.wrap (u*a):Int).tmod p))) (g3:BV .rem 3 (.i (qA.wrap (a*a))) (.i p) (.i ((qA.wrap (a*a):Int).tmod p))): RU F 45 56 B45 (e45 a n p (.i u)) H .normal (Gv (.i ((qA.wrap (a*a):Int).tmod p)) (.i (qA.wrap ((n:Int).tdiv 2))) (.i p) (.i 0) (.i ((qA.wrap (u*a):Int).tmod p))) H :=
 hx 0 60 [jT 2 1 H g0,jT 4 2 H g1,jO 5 4 H g2,jO 6 4 H g3]
theorem QpZ (u:Int) (g0:0<n) (g1:¬((n:Int).tmod 2=1)) (g2:BV .rem 3 (.i (qA.wrap (a*a))) (.i p) (.i ((qA.wrap (a*a):Int).tmod p))): RU F 45 56 B45 (e45 a n p (.i u)) H .normal (Gv (.i ((qA.wrap (a*a):Int).tmod p)) (.i (qA.wrap ((n:Int).tdiv 2))) (.i p) (.i 0) (.i u)) H :=
 hx 0 60 [jT 2 1 H g0,jF 4 2 H g1,jO 6 4 H g2]
theorem Qe5 (u:Int) (g0:¬(0<n)): RU F 45 56 B45 (e45 a n p (.i u)) H (.exit 0) (e45 a n p (.i u)) H :=
 hx 0 60 [jF 2 1 H g0]
theorem Qp0 (u:Int): RU F 45 15 B45 (e45 a n p (.i u)) H .ret (Gv (.i a) (.i n) (.i p) (.i u) (.i u)) H :=
 hx 0 60 []
end
section
variable {F:FuncId→Option (List HV→Option HV)}
noncomputable def B14:Code:=Try.f14.body.getD .skip
abbrev QbP (v0 v1 v4 v5 v6 v7 v8 v9:HV):Env:=[(0,v0),(1,v1),(4,v4),(5,v5),(6,v6),(7,v7),(8,v8),(9,v9)]
end
abbrev e14 (n:Int) (ls:List HV) (u5 u6 u7:HV):Env:=QbP (.i n) (.g ls) (.imm .lit 1 []) (.i 0) (.i 0) u5 u6 u7
section
variable {F:FuncId→Option (List HV→Option HV)}
variable (N:Nat) (n:Int) (ls:List HV)
include N n ls
theorem Qp1:RU F 14 2 B14 [(0,.i n),(1,.g ls)] [] .normal (e14 n ls Ud Ud Ud) [] :=
 hx N 60 []
end
section
variable {F:FuncId→Option (List HV→Option HV)}
variable (N:Nat) (n:Int) (ls:List HV)
include N n ls
theorem Qp2 {H0:Heap} {a0:HV} {H1:Heap} {H2:Heap} (g0:CN F N 39 [.i n,.g ls] [] (.tuple [.N n ls,.bool true]) H0) (g1:some (Q8 (.agg [.i 0,.imm .lit 0 []]) H0)=some (a0,H1)) (g2:ST H1 66 (a0) (.N n ls) H2) (y7 y8 y9:HV:=Ud): RU F 14 6 B14 (e14 n ls y7 y8 y9) [] .normal (e14 n ls a0 (.bool true) y9) H2 :=
 hx N 60 [jC 1 2 g0,jR 1 6 g1,jS 1 7 g2]
theorem Qp3 {H0:Heap} {a0:HV} {H1:Heap} {H2:Heap} (g0:CN F N 39 [.i n,.g ls] [] (.tuple [.N n ls,.bool false]) H0) (g1:some (Q8 (.agg [.i 0,.imm .lit 0 []]) H0)=some (a0,H1)) (g2:ST H1 66 (a0) (.N n ls) H2) (y7 y8 y9:HV:=Ud): RU F 14 6 B14 (e14 n ls y7 y8 y9) [] .normal (e14 n ls a0 (.bool false) y9) H2 :=
 hx N 60 [jC 1 2 g0,jR 1 6 g1,jS 1 7 g2]
theorem Qhk (H:Heap) (y9:HV:=Ud): RU F 14 14 B14 (e14 n ls (.q 0) (.bool true) y9) H .normal (e14 n ls (.q 0) (.bool true) y9) H :=
 hx N 60 []
theorem Qhl (H:Heap) (y9:HV:=Ud): RU F 14 14 B14 (e14 n ls (.q 0) (.bool false) y9) H .ret (QbP (.i n) (.g ls) (.imm .lit 1 []) (.i 0) (.i 2) (.q 0) (.bool false) y9) H :=
 hx N 60 []
theorem Qp4 (H:Heap) (tb m:Nat) {H0:Heap} (g0:LD H 66 (.q 0) (.N n ls)) (g1:CM F 40 [.N n ls] H (.tuple [.s tb m,.bool true]) H0) (y9:HV:=Ud): RU F 14 30 B14 (e14 n ls (.q 0) (.bool true) y9) H .normal (e14 n ls (.q 0) (.bool true) (.s tb m)) H0 :=
 hx N 60 [jO 4 0 H g0,jD 4 1 g1]
theorem Qp5 (H:Heap) (tb m:Nat) {H0:Heap} (g0:LD H 66 (.q 0) (.N n ls)) (g1:CM F 40 [.N n ls] H (.tuple [.s tb m,.bool false]) H0) (y9:HV:=Ud): RU F 14 30 B14 (e14 n ls (.q 0) (.bool true) y9) H .normal (e14 n ls (.q 0) (.bool false) (.s tb m)) H0 :=
 hx N 60 [jO 4 0 H g0,jD 4 1 g1]
theorem Qhm (H:Heap) (tb m:Nat): RU F 14 62 B14 (e14 n ls (.q 0) (.bool true) (.s tb m)) H .normal (e14 n ls (.q 0) (.bool true) (.s tb m)) H :=
 hx N 60 []
theorem Qhn (H:Heap) (tb m:Nat): RU F 14 62 B14 (e14 n ls (.q 0) (.bool false) (.s tb m)) H .ret (QbP (.i n) (.g ls) (.imm .lit 1 []) (.i 0) (.i 6) (.q 0) (.bool false) (.s tb m)) H :=
 hx N 60 []
theorem Qp6 (H:Heap) (tb m:Nat) (w:Int) {H0:Heap} {H1:Heap} (g0:CN F N 41 [.s tb m] H (.tuple []) H0) (g1:LD H0 66 (.q 0) (.N n ls)) (g2:CM F 42 [.N n ls,.s tb m] H0 (.i w) H1): RU F 14 63 B14 (e14 n ls (.q 0) (.bool true) (.s tb m)) H .ret (QbP (.i n) (.g ls) (.s tb m) (.i w) (.i 0) (.q 0) (.bool true) (.s tb m)) H1 :=
 hx N 60 [jC 7 1 g0,jO 8 1 H0 g1,jD 8 3 g2]
end
end Go.Proofs.Ytiejmoglooaalaa
end
section
open Go Go.HL Go.HL.Dt
namespace Go.Proofs.Ytiejmoglooaalaa
set_option linter.unusedSectionVars false
open Go.Proofs.Try renaming prog → Tp
open Go.HL.HV renaming undef → Ud
theorem Cq {x p:Int} (h:p≠0):Jb Tp .rem 3 (.int .i64 x) (.int .i64 p)=some (.int .i64 (x.tmod p)):=by
 simp only [BV,Jb,JA,if_neg h,if_true]
theorem QU {x:Int} (h0:0≤x) (h:x<4611686018427387904):qA.wrap x=x:=Qs (by omega) h
theorem Qho {a b p:Int} (ha:0≤a) (ha':a<p) (hb:0≤b) (hb':b<p) (hp:p≤2147483647):0≤a*b∧a*b<4611686018427387904:=by
 refine ⟨Int.mul_nonneg ha hb,?_⟩
 have h1:a*b≤2147483647*2147483647:=zN (by omega) (by omega) hb (by omega)
 omega
theorem QcN {a b p:Int} (hp0:0<p) (ha:0≤a) (ha':a<p) (hb:0≤b) (hb':b<p) (hp:p≤2147483647):(qA.wrap (a*b)).tmod p=a*b%p:=by
 obtain ⟨h1,h2⟩:=Qho ha ha' hb hb' hp
 rw [QU h1 h2,jG h1]
def Qe6:Int→Int→Int→Prop:=fun a n p=>(1<p∧p≤2147483647)∧(0≤a∧a<p)∧0≤n∧n<2147483648
instance (a n p:Int):Decidable (Qe6 a n p):=by unfold Qe6;infer_instance
def SU:List HV→Option HV:=f3 kI kI kI fun a n p=>if Qe6 a n p then some (.int .i64 (pw a n.toNat p)) else none
def DD:FuncId→Option (List HV→Option HV):=fun _=>none
theorem Qhp (n:Nat):Qo Tp (Qb Tp (plF DD) n):=QF _ (fun g f h=>by cases h) n
theorem Qsb:Try.f45.results.toList=[.tmp 6]:=by kernel_rfl
theorem Cr {p:Int} (hp:1<p∧p≤2147483647) {H:Heap}:∀(k:Nat) (u a:Int) (n:Nat),n<2 ^ k→(0≤u∧u<p)→(0≤a∧a<p)→n<2147483648→∃a' n':Int,
  RT (plF DD) 45 (sn 28 B45) (Gv (.i a) (.i (n:Int)) (.i p) (.i 0) (.i u)) H (.exit 0) (Gv (.i a') (.i n') (.i p) (.i 0) (.i (pwL p k u a n))) H
 | 0,u,a,n,hn,_,_,_=>by
  have:n=0:=by omega
  subst this
  refine ⟨a,0,?_⟩
  have s:=Qe5 (F:=DD) a ((0:Nat):Int) p H u (by omega)
  rw [pwL]
  exact lpo s
 | k+1,u,a,n,hn,hu,ha,hm=>by
  by_cases c0:n=0
  ·subst c0
   refine ⟨a,0,?_⟩
   have s:=Qe5 (F:=DD) a ((0:Nat):Int) p H u (by omega)
   rw [pwL,if_pos rfl]
   exact lpo s
  have e2:qA.wrap (((n:Int)).tdiv 2)=((n/2:Nat):Int):=by
   rw [Int.tdiv_eq_ediv_of_nonneg (by omega),QU (by omega) (by omega)];omega
  have e3:((n:Int)).tmod 2=((n%2:Nat):Int):=by rw [jG (by omega)];omega
  have e4:=QcN (by omega) ha.1 ha.2 ha.1 ha.2 hp.2
  have e5:=QcN (by omega) hu.1 hu.2 ha.1 ha.2 hp.2
  have ha2:0≤a*a%p∧a*a%p<p:=⟨qH _ (by omega),qI _ (by omega)⟩
  have hu2:0≤u*a%p∧u*a%p<p:=⟨qH _ (by omega),qI _ (by omega)⟩
  rw [qP] at hn
  by_cases c1:n%2=1
  ·obtain ⟨a',n',ih⟩:=Cr hp (H:=H) k (u*a%p) (a*a%p) (n/2) (by omega) hu2 ha2 (by omega)
   have s:=QpY (F:=DD) a (n:Int) p H u (by omega) (by rw [e3,c1];rfl) (Cq (by omega)) (Cq (by omega))
   rw [e2,e4,e5] at s
   refine ⟨a',n',?_⟩
   rw [pwL,if_neg c0,if_pos c1]
   exact lop s (QI _ rfl) ih
  ·obtain ⟨a',n',ih⟩:=Cr hp (H:=H) k u (a*a%p) (n/2) (by omega) hu ha2 (by omega)
   have s:=QpZ (F:=DD) a (n:Int) p H u (by omega) (by rw [e3];omega) (Cq (by omega))
   rw [e2,e4] at s
   refine ⟨a',n',?_⟩
   rw [pwL,if_neg c0,if_neg c1]
   exact lop s (QI _ rfl) ih
theorem Qis:QV Tp 45 SU:=by
 refine Qt (pol:=plF DD) (fn:=Try.f45) (cd:=B45) Qk Qhp (by kernel_rfl) (by kernel_rfl) (ZJ DD _ _ (by kernel_rfl)) (by kernel_rfl) ?_
 intro args res h
 obtain ⟨a,n,p,rfl,hq⟩:=Xt h
 split at hq
 case isFalse=>cases hq
 rename_i hl
 obtain ⟨hp,ha,hn⟩:=hl
 cases hq
 obtain ⟨m,rfl⟩:=wC hn.1
 have s1:=QpW (F:=DD) a (m:Int) p []
 have s2:=QpX (F:=DD) a (m:Int) p []
 obtain ⟨a',n',s3⟩:=Cr hp (H:=[]) 31 1 a m (by omega) (by omega) ha (by omega)
 have s4:=Qp0 (F:=DD) a' n' p [] (pwL p 31 1 a m)
 refine ⟨_,_,_,.int .i64 (pwL p 31 1 a m),sq (s1) (sq (s2) (sq (bke (c:=sn 14 B45) (s3)) (s4) (c:=sn 7 B45)) (c:=sn 3 B45)) (c:=B45),by simp,by simp only [Qf,Qsb];rfl,?_⟩
 rw [Qg3 hp.1 (by omega)];rfl
end Go.Proofs.Ytiejmoglooaalaa
end
section
namespace Go.HL.Dt
set_option linter.unusedSectionVars false
open Go.Proofs.Try renaming prog → Tp
open Go.HL.HV renaming undef → Ud
def rw (r:List Int):Row:=fun z=>r.getD z.toNat 0
def JQ:Nat→Nat→List Int
 | _,0=>[]
 | c,k+1=>(c:Int)::JQ (c+1) k
theorem cols_mem:∀{k c:Nat} {z:Int},z∈JQ c k↔(c:Int)≤z∧z<((c+k:Nat):Int)
 | 0,c,z=>by simp [JQ]
 | k+1,c,z=>by
  rw [JQ,List.mem_cons,cols_mem]
  omega
def Yw (p:Int) (c:Nat) (f:Int) (x r:List Int):List Int:=(qE r.length).map fun j=>if c≤j then (r.getD j 0+(p-f)*x.getD j 0)%p else r.getD j 0
def Yx (p:Int) (c:Nat) (v:Int) (r:List Int):Int:=r.getD c 0*v%p
def JR (p:Int) (c:Nat) (v:Int) (m:List (List Int)):List (List Int):=m.take (c+1)++(m.drop (c+1)).map fun r=>Yw p c (Yx p c v r) (m.getD c []) r
def JS (m:List (List Int)) (c:Nat):Nat→Nat→Nat
 | 0,r=>r
 | k+1,r=>if (m.getD r []).getD c 0=0 then JS m c k (r+1) else r
def swpR (m:List (List Int)) (i j:Nat):List (List Int):=(m.set i (m.getD j [])).set j (m.getD i [])
def gz (p:Int) (inv:Int→Int) (N:Nat):Nat→Nat→Int→List (List Int)→Int
 | 0,_,out,_=>out
 | k+1,c,out,m =>
  if JS m c (N-c) c=N then 0 else
   gz p inv N k (c+1) ((if JS m c (N-c) c=c then out else p-out)*((swpR m (JS m c (N-c) c) c).getD c []).getD c 0%p)
    (JR p c (inv (((swpR m (JS m c (N-c) c) c).getD c []).getD c 0)) (swpR m (JS m c (N-c) c) c))
def RowOk (p:Int) (N:Nat) (r:List Int):Prop:=r.length=N∧∀j,j<N→0≤r.getD j 0∧r.getD j 0<p
def WM (p:Int) (N:Nat) (m:List (List Int)):Prop:=m.length=N∧∀r∈m,RowOk p N r
theorem Ya (m:List (List Int)) (c:Nat):∀(k r:Nat),r≤JS m c k r∧JS m c k r≤r+k∧(∀i,r≤i→i<JS m c k r→(m.getD i []).getD c 0=0)∧(JS m c k r<r+k→(m.getD (JS m c k r) []).getD c 0≠0)
 | 0,r=>⟨qF _,qF _,fun i h1 h2=>by simp only [JS] at h2;omega,fun h=>by simp only [JS] at h;omega⟩
 | k+1,r=>by
  obtain ⟨h1,h2,h3,h4⟩:=Ya m c k (r+1)
  rw [JS]
  split
  ·rename_i e
   refine ⟨by omega,by omega,fun i i1 i2=>?_,fun h=>h4 (by omega)⟩
   by_cases q:i=r
   ·subst q;exact e
   ·exact h3 i (by omega) i2
  ·rename_i e
   exact ⟨qF _,by omega,fun i i1 i2=>by omega,fun _=>e⟩
theorem Jl {m:List (List Int)} {i:Nat} (hi:i<m.length):m.getD i []=m[i]:=by simp [qN,hi]
theorem Yy {m:List (List Int)} {c:Nat} (hc:c<m.length):m.drop c=m.getD c []::m.drop (c+1):=by rw [List.drop_eq_getElem_cons hc,Jl hc]
theorem swp_len (m:List (List Int)) (i j:Nat):(swpR m i j).length=m.length:=by simp [swpR]
theorem SV {m:List (List Int)} {c:Nat} (hc:c<m.length):swpR m c c=m:=by
 rw [swpR,zO,Jl hc,wD]
theorem Qe7 {m:List (List Int)} {c r:Nat} (hc:c<r) (hr:r<m.length):∃M B,m.drop c=m.getD c []::(M++m.getD r []::B)∧(swpR m r c).drop c=m.getD r []::(M++m.getD c []::B):=by
 refine ⟨(m.drop (c+1)).take (r-(c+1)),m.drop (r+1),?_,?_⟩
 ·rw [Yy (by omega)]
  congr 1
  have h1:(m.drop (c+1)).drop (r-(c+1))=m.getD r []::m.drop (r+1):=by rw [List.drop_drop,show c+1+(r-(c+1))=r by omega,Yy hr]
  rw [← h1,List.take_append_drop]
 ·apply List.ext_getElem?
  intro i
  rw [jV,swpR]
  rcases zJ i with e | e
  ·subst e
   rw [Nat.add_zero,jH (by simp;omega),wE]
  ·obtain ⟨i,rfl⟩:∃k,i=k+1:=⟨i-1,by omega⟩
   rw [wF,qJ (by omega)]
   have hl:((m.drop (c+1)).take (r-(c+1))).length=r-(c+1):=by rw [qQ,jW];omega
   rcases Nat.lt_trichotomy i (r-(c+1)) with q | q | q
   ·rw [qJ (by omega),zP (by omega),zQ q,jV]
    congr 1;omega
   ·subst q
    rw [show c+(r-(c+1)+1)=r by omega,jH hr,zS (by omega),hl,Nat.sub_self,wE]
   ·rw [qJ (by omega),zS (by omega),hl]
    obtain ⟨d,hd⟩:∃d,i-(r-(c+1))=d+1:=⟨i-(r-(c+1))-1,by omega⟩
    rw [hd,wF,jV]
    congr 1;omega
theorem Qe8 {p:Int} {N:Nat} {m:List (List Int)} (h:WM p N m) {i j:Nat} (hi:i<N) (hj:j<N):WM p N (swpR m i j):=by
 refine ⟨by rw [swp_len];exact h.1,fun r hr=>?_⟩
 have hg:∀k,k<N→m.getD k []∈m:=fun k hk=>by rw [Jl (by rw [h.1];exact hk)];exact jI _
 rcases jX hr with q | q
 ·rcases jX q with q | q
  ·exact h.2 r q
  ·subst q;exact h.2 _ (hg j hj)
 ·subst q;exact h.2 _ (hg i hi)
theorem Yb {p:Int} {c:Nat} {f:Int} {x r:List Int} {j:Nat} (hj:j<r.length):(Yw p c f x r).getD j 0=if c≤j then (r.getD j 0+(p-f)*x.getD j 0)%p else r.getD j 0:=by
 simp [Yw,qN,hj]
theorem QbQ {p:Int} (hp:0<p) {N c:Nat} {f:Int} {x r:List Int} (hr:RowOk p N r):RowOk p N (Yw p c f x r):=by
 refine ⟨by rw [Yw,qG,List.length_range];exact hr.1,fun j hj=>?_⟩
 rw [Yb (by rw [hr.1];exact hj)]
 split
 ·exact ⟨qH _ (by omega),qI _ hp⟩
 ·exact hr.2 j hj
theorem QbR {p:Int} (hp:0<p) {N c:Nat} {v:Int} {m:List (List Int)} (h:WM p N m):WM p N (JR p c v m):=by
 refine ⟨?_,fun r hr=>?_⟩
 ·rw [JR,qD,qG,qQ,jW,← h.1];omega
 ·rcases List.mem_append.1 hr with q | q
  ·exact h.2 r (List.mem_of_mem_take q)
  ·obtain ⟨y,hy,rfl⟩:=List.mem_map.1 q
   exact QbQ hp (h.2 y (zT hy))
theorem Gw {p:Int} {c:Nat} {v:Int} {m:List (List Int)} (hc:c<m.length):(JR p c v m).drop (c+1)=(m.drop (c+1)).map fun r=>Yw p c (Yx p c v r) (m.getD c []) r:=by
 have hl:(m.take (c+1)).length=c+1:=by rw [qQ];omega
 rw [JR,List.drop_append_of_le_length (by omega),List.drop_of_length_le (by omega),zE]
theorem Cg.map2 {p:Int} {cs:List Int} {α:Type} {f g:α→Row}:∀{R:List α},(∀r∈R,∀z∈cs,p∣f r z-g r z)→Cg p cs (R.map f) (R.map g)
 | [],_=>trivial
 | r::R,h=>⟨h r (qS ..),Cg.map2 fun q hq=>h q (qT _ hq)⟩
theorem WJ (a p:Int):p∣a%p-a:=by
 refine ⟨-(a/p),?_⟩
 have:=Int.emod_add_mul_ediv a p
 rw [Int.mul_neg];omega
theorem Qe9 {p:Int} (hp:1<p) {inv:Int→Int} (hinv:∀a,0<a→a<p→(a*inv a)%p=1) {N:Nat}:∀(k c:Nat) (out:Int) (m:List (List Int)),c+k=N→WM p N m→p∣gz p inv N k c out m-out*det (JQ c k) ((m.drop c).map rw)
 | 0,c,out,m,hk,h=>by
  have:m.drop c=[]:=List.drop_eq_nil_of_le (by rw [h.1];omega)
  rw [gz,this]
  simp [JQ,det]
 | k+1,c,out,m,hk,h=>by
  have hlen:=h.1
  obtain ⟨f1,f2,f3,f4⟩:=Ya m c (N-c) c
  rw [gz]
  generalize JS m c (N-c) c=r at *
  by_cases e:r=N
  ·rw [if_pos e]
   have hz:det (JQ c (k+1)) ((m.drop c).map rw)=0:=QeR fun q hq=>by
    obtain ⟨y,hy,rfl⟩:=List.mem_map.1 hq
    obtain ⟨i,hi,rfl⟩:=List.getElem_of_mem hy
    rw [jW] at hi
    rw [List.getElem_drop]
    have:=f3 (c+i) (by omega) (by omega)
    rw [Jl (by omega)] at this
    simpa [rw] using this
   rw [hz];simp
  ·rw [if_neg e]
   have hrN:r<N:=by omega
   have hok:=Qe8 h hrN (show c<N by omega)
   have hnz:((swpR m r c).getD c []).getD c 0≠0:=by
    have h1:(swpR m r c).getD c []=m.getD r []:=by
     rw [Jl (by rw [swp_len];omega)]
     simp [swpR]
    rw [h1]
    exact f4 (by omega)
   have hdet:det (JQ c (k+1)) ((m.drop c).map rw)=(if r=c then 1 else -1)*det (JQ c (k+1)) (((swpR m r c).drop c).map rw):=by
    by_cases q:r=c
    ·subst q
     rw [if_pos rfl,SV (by omega),jE]
    ·rw [if_neg q]
     obtain ⟨M,B,e1,e2⟩:=Qe7 (m:=m) (c:=c) (r:=r) (by omega) (by omega)
     rw [e1,e2]
     simp only [qK,qW]
     rw [Qos (KU _) (Uh _)]
     omega
   generalize hm1:swpR m r c=m1 at *
   have hl1:=hok.1
   have hcm:m1.getD c []∈m1:=by rw [Jl (by omega)];exact jI _
   have hpr:=(hok.2 _ hcm).2 c (by omega)
   generalize ha:(m1.getD c []).getD c 0=a at *
   have hia:=hinv a (by omega) hpr.2
   generalize inv a=v at *
   have hE:=elim (KU (JQ c (k+1))) (Uh _) (rw (m1.getD c [])) (fun y=>-(y c*v)) ((m1.drop (c+1)).map rw) []
   simp only [zE,zU] at hE
   have hC:Cg p (JQ c (k+1)) (rw (m1.getD c [])::((JR p c v m1).drop (c+1)).map rw) (rw (m1.getD c [])::(m1.drop (c+1)).map ((fun r=>ax r (-(r c*v)) (rw (m1.getD c []))) ∘ rw)):=by
    refine ⟨fun z _=>by rw [Int.sub_self];exact Int.dvd_zero p,?_⟩
    rw [Gw (by omega),zU]
    refine Cg.map2 fun y hy z hz=>?_
    obtain ⟨z1,z2⟩:=cols_mem.1 hz
    have hyl:=(hok.2 y (zT hy)).1
    have hg:=Yb (p:=p) (c:=c) (f:=Yx p c v y) (x:=m1.getD c []) (r:=y) (j:=z.toNat) (by omega)
    simp only [Function.comp,rw,ax]
    rw [hg,if_pos (by omega),Yx,jY]
    generalize y.getD z.toNat 0=A
    generalize (m1.getD c []).getD z.toNat 0=B
    generalize y.getD c 0*v=W
    have d1:=WJ (A+(p-W%p)*B) p
    have d2:=WJ W p
    have e:(A+(p-W%p)*B)%p-(A+-W*B)=((A+(p-W%p)*B)%p-(A+(p-W%p)*B))+(p*B-(W%p-W)*B):=by
     simp only [jZ,Int.neg_mul];omega
    rw [e]
    exact jJ d1 (zA (zV p B) (zW d2))
   have hD:=Ch _ _ _ hC
   rw [hE] at hD
   have hp0:∀q∈((JR p c v m1).drop (c+1)).map rw,q c=0:=fun q hq=>by
    rw [Gw (by omega),zU] at hq
    obtain ⟨y,hy,rfl⟩:=List.mem_map.1 hq
    have hyl:=(hok.2 y (zT hy)).1
    have hg:=Yb (p:=p) (c:=c) (f:=Yx p c v y) (x:=m1.getD c []) (r:=y) (j:=c) (by omega)
    simp only [Function.comp,rw,jY]
    rw [hg,if_pos (qF _),Yx,ha]
    generalize y.getD c 0=A at *
    have d2:=WJ (A*v) p
    have d3:p∣a*v-1:=by
     have:=WJ (a*v) p;rw [hia] at this;have e:a*v-1=-(1-a*v):=by omega
     rw [e];exact Int.dvd_neg.2 this
    have e:A+(p-A*v%p)*a=p*a-(A*v%p-A*v)*a-A*(a*v-1):=by
     simp only [jZ,Int.mul_sub,Int.mul_one]
     have:A*v*a=A*(a*v):=by rw [qU,Int.mul_comm v a]
     omega
    have:p∣A+(p-A*v%p)*a:=by
     rw [e]
     exact zA (zA (zV p a) (zW d2)) (zX d3)
    exact Int.emod_eq_zero_of_dvd this
   have hP:=QgY (c:=(c:Int)) (cs:=JQ (c+1) k) (x:=rw (m1.getD c [])) hp0
   have hx:rw (m1.getD c []) c=a:=by show (m1.getD c []).getD (c:Int).toNat 0=a;rw [jY,ha]
   rw [hx] at hP
   have ih:=Qe9 hp hinv k (c+1) ((if r=c then out else p-out)*a%p) (JR p c v m1) (by omega) (QbR (by omega) hok)
   have hd:(m1.drop c).map rw=rw (m1.getD c [])::(m1.drop (c+1)).map rw:=by rw [Yy (by omega),qK]
   rw [hdet,hd]
   rw [show JQ c (k+1)=(c:Int)::JQ (c+1) k from rfl] at hD ⊢
   rw [hP] at hD
   generalize det ((c:Int)::JQ (c+1) k) (rw (m1.getD c [])::(m1.drop (c+1)).map rw)=D at *
   generalize det (JQ (c+1) k) (((JR p c v m1).drop (c+1)).map rw)=D' at *
   generalize gz p inv N k (c+1) ((if r=c then out else p-out)*a%p) (JR p c v m1)=G at *
   have d1:=WJ ((if r=c then out else p-out)*a) p
   have d2:=zW (c:=D') d1
   by_cases q:r=c
   ·simp only [if_pos q] at *
    have e1:G-out*(1*D)=(G-out*a%p*D')+(out*a%p-out*a)*D'+out*(a*D'-D):=by
     simp only [jZ,Int.mul_sub,jE,qU];omega
    rw [e1]
    exact jJ (jJ ih d2) (zX hD)
   ·simp only [if_neg q] at *
    have e1:G-out*(-1*D)=(G-(p-out)*a%p*D')+((p-out)*a%p-(p-out)*a)*D'+(p*(a*D')-out*(a*D'-D)):=by
     simp only [jZ,Int.mul_sub,Int.neg_mul,jE,Int.mul_neg,qU];omega
    rw [e1]
    exact jJ (jJ ih d2) (zA (zV p _) (zX hD))
theorem Qfa {p:Int} (hp:1<p) {inv:Int→Int} {N:Nat}:∀(k c:Nat) (out:Int) (m:List (List Int)),0≤out→out<p→0≤gz p inv N k c out m∧gz p inv N k c out m<p
 | 0,_,_,_,h1,h2=>⟨h1,h2⟩
 | k+1,c,out,m,h1,h2=>by
  rw [gz]
  split
  ·omega
  ·exact Qfa hp k (c+1) _ _ (qH _ (by omega)) (qI _ (by omega))
end Go.HL.Dt
end
section
open Go Go.HL
namespace Go.Proofs.Ytiejmoglooaalaa
set_option linter.unusedSectionVars false
open Go.Proofs.Try renaming prog → Tp
open Go.HL.HV renaming undef → Ud
theorem mxs_all {n:Nat}:∀{H:Heap},mxs H≤n↔∀B∈H,B.mx≤n
 | []=>by simp [mxs]
 | b::H=>by
  rw [mxs,List.forall_mem_cons,← mxs_all (H:=H)];omega
theorem Qhq {H:Heap} {n b:Nat} {B:Blk} (h:mxs H≤n) (hB:B.mx≤n):mxs (H.set b B)≤n:=mxs_all.2 fun C hC=>by
 rcases jX hC with c | c
 ·exact mxs_all.1 h C c
 ·exact c▸hB
abbrev slR (b N:Nat):HV:=.sl b 0 N (some N) N 1
def Yc (R:Nat→Nat) (N:Nat):List HV:=(qE N).map fun i=>slR (R i) N
theorem Jy (R:Nat→Nat) (N:Nat):(Yc R N).length=N:=by simp [Yc]
theorem VA {R:Nat→Nat} {N i:Nat} (h:i<N):(Yc R N)[i]?=some (slR (R i) N):=by simp [Yc,h]
theorem Gx (R:Nat→Nat) (N i b:Nat):(Yc R N).set i (slR b N)=Yc (fun k=>if k=i then b else R k) N:=by
 refine List.ext_getElem? fun j=>?_
 rcases qL j N with h | h
 ·rw [VA h,zY]
  by_cases c:i=j
  ·subst c;rw [if_pos rfl,if_pos (by rw [Jy];exact h),if_pos rfl]
  ·rw [if_neg c,VA h,if_neg fun e=>c e.symm]
 ·rw [zC (by rw [qB,Jy];exact h),zC (by rw [Jy];exact h)]
abbrev bR (R:Nat→Nat) (N mx:Nat):Blk:=.arr 1 (Yc R N) true mx
theorem QbS (R:Nat→Nat) (N mx:Nat):Qm [bR R N mx] [bR R N mx]=true:=by
 simp only [Qm,Yc,WU (f:=fun i=>slR (R i) N) (fun i=>by simp [same]),beq_self_eq_true,Bool.and_self]
theorem Ok.set {H:Heap} (h:Ok H) {b:Nat} {B:Blk} (hm:B.mx≤H.length) (hs:Qm [B] [B]=true):Ok (H.set b B):=⟨by rw [qB];exact Qhq h.mx hm,Qcy h.sm hs⟩
theorem Ok.app {A B:Heap} (h:Ok A) (hm:mxs B≤A.length+B.length) (hs:Qm B B=true):Ok (A++B):=⟨by rw [W7,qD];have:=h.mx;omega,VP h.sm hs⟩
theorem Ok.gc {H:Heap} (h:Ok H) (base r:Nat):Ok (gc base r H):=by
 refine ⟨?_,Qau h.sm _⟩
 unfold Go.HL.gc
 have h1:mxs (H.take (max base (max r (mxs H))))≤mxs H:=mxs_all.2 fun B hB=>mxs_all.1 (qF _) B (List.mem_of_mem_take hB)
 rw [qQ]
 have:=h.mx
 omega
structure Pre (H H':Heap):Prop where
 ln:H.length≤H'.length
 eq:∀b,b<H.length→H'[b]?=H[b]?
theorem Pre.refl (H:Heap):Pre H H:=⟨qF _,fun _ _=>rfl⟩
theorem Pre.trans {A B C:Heap} (h:Pre A B) (k:Pre B C):Pre A C:=⟨Nat.le_trans h.ln k.ln,fun b hb=>(k.eq b (Nat.lt_of_lt_of_le hb h.ln)).trans (h.eq b hb)⟩
theorem Pre.app (A B:Heap):Pre A (A++B):=⟨by simp,fun b hb=>zP hb⟩
theorem Pre.gc {A H:Heap} (h:Pre A H) {base:Nat} (hb:A.length≤base) (r:Nat):Pre A (gc base r H):=by
 unfold Go.HL.gc
 refine ⟨by rw [qQ];have:=h.ln;omega,fun b hb'=>?_⟩
 rw [zQ (by omega)]
 exact h.eq b hb'
theorem Pre.get {A H:Heap} (h:Pre A H) {b:Nat} {B:Blk} (hb:A[b]?=some B):H[b]?=some B:=by
 have:b<A.length:=by
  rcases qL b A.length with c | c
  ·exact c
  ·rw [zC c] at hb;cases hb
 rw [h.eq b this];exact hb
structure Mat (H:Heap) (mb N:Nat) (R:Nat→Nat) (m:List (List Int)):Prop where
 ml:m.length=N
 rl:∀i,i<N→(m.getD i []).length=N
 ne:∀i,i<N→R i≠mb
 inj:∀i j,i<N→j<N→R i=R j→i=j
 blk:∃mx,mx≤H.length∧H[mb]?=some (bR R N mx)
 row:∀i,i<N→H[R i]?=some (bI (m.getD i []))
 mm:Ok H
theorem VB {H:Heap} {b:Nat} {B:Blk} (h:H[b]?=some B):b<H.length:=by
 rcases qL b H.length with c | c
 ·exact c
 ·rw [zC c] at h;cases h
section
variable {H:Heap} {mb N:Nat} {R:Nat→Nat} {m:List (List Int)}
theorem Mat.ld (h:Mat H mb N R m) {i:Nat} (hi:i<N):QH Tp H 24 (.ptr mb i 0 N)=some (slR (R i) N):=by
 obtain ⟨mx,_,hb⟩:=h.blk
 exact WE (b:=mb) hb (Jy R N).symm (VA hi) rfl a24 i24
theorem Mat.get (h:Mat H mb N R m) {i j:Nat} (hi:i<N) (hj:j<N):QH Tp H 3 (.ptr (R i) j 0 N)=some (.int .i64 ((m.getD i []).getD j 0)):=by
 have:=Q3 (h.row i hi) (y:=j) (by rw [h.rl i hi];exact hj)
 rw [h.rl i hi] at this
 exact this
theorem XF {mb N i:Nat} (hi:i<N):ZI Tp 57 (slR mb N) (.int .i64 (i:Int))=some (.ptr mb i 0 N):=JM u57 z24 hi
theorem DU {b N j:Nat} (hj:j<N):ZI Tp 24 (slR b N) (.int .i64 (j:Int))=some (.ptr b j 0 N):=JM u24 z3 hj
structure Fx (H H':Heap) (S:Nat→Prop):Prop where
 ln:H'.length=H.length
 eq:∀b,¬S b→H'[b]?=H[b]?
theorem Fx.refl (H:Heap) (S:Nat→Prop):Fx H H S:=⟨rfl,fun _ _=>rfl⟩
theorem Fx.trans {H H' H'':Heap} {S:Nat→Prop} (a:Fx H H' S) (b:Fx H' H'' S):Fx H H'' S:=⟨by rw [b.ln,a.ln],fun x hx=>(b.eq x hx).trans (a.eq x hx)⟩
theorem Fx.set {H:Heap} {S:Nat→Prop} {b:Nat} (hb:S b) (B:Blk):Fx H (H.set b B) S:=⟨by simp,fun x hx=>qJ fun e=>by subst e;exact hx hb⟩
theorem W4 {m:List (List Int)} {i k:Nat} (hi:i<m.length) (r:List Int):(m.set i r).getD k []=if i=k then r else m.getD k []:=by
 simp only [qN,zY]
 by_cases c:i=k
 ·subst c;simp [hi]
 ·simp [c]
theorem Mat.put (h:Mat H mb N R m) {i j:Nat} (hi:i<N) (hj:j<N) (v:Int) :
  Q0 Tp H 3 (.ptr (R i) j 0 N) (.int .i64 v)=some (H.set (R i) (bI ((m.getD i []).set j v)))∧Mat (H.set (R i) (bI ((m.getD i []).set j v))) mb N R (m.set i ((m.getD i []).set j v)):=by
 constructor
 ·have:=Zl (h.row i hi) (y:=j) (by rw [h.rl i hi];exact hj) v
  rw [h.rl i hi] at this
  exact this
 ·have hm:i<m.length:=by rw [h.ml];exact hi
  refine ⟨by rw [qB];exact h.ml,fun k hk=>?_,h.ne,h.inj,?_,fun k hk=>?_,?_⟩
  ·rw [W4 hm]
   split
   ·rw [qB];exact h.rl i hi
   ·exact h.rl k hk
  ·obtain ⟨mx,hx,hb⟩:=h.blk
   exact ⟨mx,by rw [qB];exact hx,by rw [qJ (h.ne i hi)];exact hb⟩
  ·rw [W4 hm]
   by_cases c:i=k
   ·subst c
    rw [if_pos rfl,jH (VB (h.row i hi))]
   ·rw [if_neg c,qJ fun e=>c (h.inj i k hi hk e)]
    exact h.row k hk
  ·exact h.mm.set (Nat.zero_le _) (W1 _)
theorem QsB:Qq Tp 24=some 1:=by kernel_rfl
theorem Yz {els:List HV} {mx tot i b N:Nat} (hb:H[mb]?=some (.arr 1 els true mx)) (ht:tot=els.length) {old:HV} (ho:els[i]?=some old) (hc:cellsOf old=[old]) (hna:∀cs,old≠.agg cs) :
  Q0 Tp H 24 (.ptr mb i 0 tot) (slR b N)=some (H.set mb (.arr 1 (els.set i (slR b N)) true (max mx (b+1)))):=by
 have hz:=QsB
 simp only [ST,Q0,hb,ho,ht,hz,hc]
 rw [if_pos ⟨trivial,rfl⟩,if_pos ⟨by simp [cellsOf],by simp [cellsOf,Qn],by simp [cellsOf]⟩]
 cases old with
 | agg cs=>exact absurd rfl (hna cs)
 | _=>rfl
theorem Mat.swap (h:Mat H mb N R m) {r c:Nat} (hr:r<N) (hc:c<N):∃H0 H1,Q0 Tp H 24 (.ptr mb r 0 N) (slR (R c) N)=some H0∧Q0 Tp H0 24 (.ptr mb c 0 N) (slR (R r) N)=some H1 ∧
  Mat H1 mb N (fun k=>R (if k=c then r else if k=r then c else k)) (Dt.swpR m r c)∧Fx H H1 (fun b=>b=mb):=by
 obtain ⟨mx,hx,hb⟩:=h.blk
 have hml:=VB hb
 have rr:=VB (h.row r hr)
 have rc:=VB (h.row c hc)
 have s1:=Yz (i:=r) (b:=R c) (N:=N) hb (Jy R N).symm (VA hr) rfl (by intro cs e;cases e)
 rw [Gx] at s1
 have hb1:(H.set mb (bR (fun k=>if k=r then R c else R k) N (max mx (R c+1))))[mb]?=some (bR (fun k=>if k=r then R c else R k) N (max mx (R c+1))):=jH hml
 have s2:=Yz (i:=c) (b:=R r) (N:=N) hb1 (Jy _ N).symm (VA hc) rfl (by intro cs e;cases e)
 have er:(fun k=>if k=c then R r else if k=r then R c else R k)=(fun k=>R (if k=c then r else if k=r then c else k)):=funext fun k=>by
  split
  ·rfl
  ·split <;> rfl
 rw [Gx,zO,er] at s2
 refine ⟨_,_,s1,s2,⟨?_,fun k hk=>?_,fun k hk=>?_,fun i j hi hj e=>?_,⟨_,?_,jH hml⟩,fun k hk=>?_,?_⟩,Fx.set (S:=fun b=>b=mb) rfl _⟩
 ·rw [Dt.swpR,qB,qB];exact h.ml
 ·have h1:r<m.length:=by rw [h.ml];exact hr
  rw [Dt.swpR,W4 (by rw [qB,h.ml];exact hc),W4 h1]
  split
  ·exact h.rl r hr
  ·split
   ·exact h.rl c hc
   ·exact h.rl k hk
 ·show R (if k=c then r else if k=r then c else k)≠mb
  split
  ·exact h.ne r hr
  ·split
   ·exact h.ne c hc
   ·exact h.ne k hk
 ·have hs:∀k,k<N→(if k=c then r else if k=r then c else k)<N:=fun k hk=>by
   split
   ·exact hr
   ·split
    ·exact hc
    ·exact hk
  have e2:=h.inj _ _ (hs i hi) (hs j hj) e
  split at e2
  ·split at e2
   ·omega
   ·split at e2 <;> omega
  ·split at e2
   ·split at e2
    ·omega
    ·split at e2 <;> omega
   ·split at e2
    ·omega
    ·split at e2 <;> omega
 ·rw [qB];omega
 ·have h1:r<m.length:=by rw [h.ml];exact hr
  rw [Dt.swpR,W4 (by rw [qB,h.ml];exact hc),W4 h1]
  show (H.set mb _)[R (if k=c then r else if k=r then c else k)]?=_
  by_cases a1:k=c
  ·rw [if_pos a1,if_pos (show c=k from a1.symm),qJ fun e=>h.ne r hr e.symm];exact h.row r hr
  ·rw [if_neg a1,if_neg (show ¬c=k from fun e=>a1 e.symm)]
   by_cases a2:k=r
   ·rw [if_pos a2,if_pos (show r=k from a2.symm),qJ fun e=>h.ne c hc e.symm];exact h.row c hc
   ·rw [if_neg a2,if_neg (show ¬r=k from fun e=>a2 e.symm),qJ fun e=>h.ne k hk e.symm];exact h.row k hk
 ·exact h.mm.set (by show max (max mx (R c+1)) (R r+1)≤H.length;omega) (QbS _ _ _)
end
end Go.Proofs.Ytiejmoglooaalaa
end
section
open Go Go.HL Go.HL.Dt
namespace Go.Proofs.Ytiejmoglooaalaa
set_option linter.unusedSectionVars false
open Go.Proofs.Try renaming prog → Tp
open Go.HL.HV renaming undef → Ud
theorem Qsc {a b p:Int} (hp0:0<p) (ha:0≤a) (ha':a≤p) (hb:0≤b) (hb':b<p) (hp:p≤2147483647):0≤a*b∧a*b≤p*(p-1)∧p*(p-1)<4611686014132420610:=by
 refine ⟨Int.mul_nonneg ha hb,zN ha' (by omega) hb (by omega),?_⟩
 have h1:p*(p-1)≤2147483647*2147483646:=zN hp (by omega) (by omega) (by omega)
 omega
theorem Qsd {a b p:Int} (hp0:0<p) (ha:0≤a) (ha':a≤p) (hb:0≤b) (hb':b<p) (hp:p≤2147483647):(qA.wrap (a*b)).tmod p=a*b%p:=by
 obtain ⟨h1,h2,h3⟩:=Qsc hp0 ha ha' hb hb' hp
 rw [QU h1 (by omega),jG h1]
theorem QsC {y f x p:Int} (hp0:0<p) (hy:0≤y∧y<p) (hf:0≤f∧f<p) (hx:0≤x∧x<p) (hp:p≤2147483647):(qA.wrap (y+qA.wrap (qA.wrap (p-f)*x))).tmod p=(y+(p-f)*x)%p:=by
 obtain ⟨h1,h2,h3⟩:=Qsc (a:=p-f) hp0 (by omega) (by omega) hx.1 hx.2 hp
 rw [QU (x:=p-f) (by omega) (by omega),QU h1 (by omega),QU (by omega) (by omega),jG (by omega)]
def Kz (p:Int) (c:Nat) (f:Int) (x r:List Int) (d:Nat):List Int:=(qE r.length).map fun j=>if c≤j∧j<c+d then (r.getD j 0+(p-f)*x.getD j 0)%p else r.getD j 0
theorem ZH (p:Int) (c:Nat) (f:Int) (x r:List Int) (d:Nat):(Kz p c f x r d).length=r.length:=by simp [Kz]
theorem VZ {α:Type} {n j:Nat} {g:Nat→α} {d:α} (h:j<n):((qE n).map g).getD j d=g j:=by simp [qN,h]
theorem VC {p:Int} {c:Nat} {f:Int} {x r:List Int} {d j:Nat} (h:j<r.length):(Kz p c f x r d).getD j 0=if c≤j∧j<c+d then (r.getD j 0+(p-f)*x.getD j 0)%p else r.getD j 0:=VZ h
theorem ZU {α:Type} {d:α} {a b:List α} (hl:a.length=b.length) (h:∀j,j<a.length→a.getD j d=b.getD j d):a=b:=by
 refine List.ext_getElem hl fun j h1 h2=>?_
 have:=h j h1
 simpa [qN,h1,h2] using this
theorem V0 {r:List Int} {i k:Nat} (hi:i<r.length) (v:Int):(r.set i v).getD k 0=if i=k then v else r.getD k 0:=by
 simp only [qN,zY]
 by_cases c:i=k
 ·subst c;simp [hi]
 ·simp [c]
theorem QaP (p:Int) (c:Nat) (f:Int) (x r:List Int):Kz p c f x r 0=r:=ZU (d:=0) (ZH ..) fun j hj=>by
 rw [ZH] at hj
 rw [VC hj,if_neg (by omega)]
theorem QaQ {p:Int} {c:Nat} {f:Int} {x r:List Int} {d:Nat} (h:c+d<r.length):(Kz p c f x r d).set (c+d) ((r.getD (c+d) 0+(p-f)*x.getD (c+d) 0)%p)=Kz p c f x r (d+1):=ZU (d:=0) (by rw [qB,ZH,ZH]) fun j hj=>by
 rw [qB,ZH] at hj
 rw [V0 (by rw [ZH];exact h),VC hj,VC hj]
 by_cases e:c+d=j
 ·subst e;rw [if_pos rfl,if_pos (by omega)]
 ·rw [if_neg e]
  by_cases e2:c≤j∧j<c+d
  ·rw [if_pos e2,if_pos (by omega)]
  ·rw [if_neg e2,if_neg (by omega)]
theorem QcO {p:Int} {c:Nat} {f:Int} {x r:List Int} (h:c≤r.length):Kz p c f x r (r.length-c)=Yw p c f x r:=ZU (d:=0) (by rw [ZH];simp [Yw]) fun j hj=>by
 rw [ZH] at hj
 rw [VC hj,Yb hj]
 by_cases e:c≤j
 ·rw [if_pos (by omega),if_pos e]
 ·rw [if_neg (by omega),if_neg e]
def KY (p:Int) (c:Nat) (v:Int) (m:List (List Int)) (k:Nat):List (List Int):=(qE m.length).map fun i=>if c<i∧i<c+1+k then Yw p c (Yx p c v (m.getD i [])) (m.getD c []) (m.getD i []) else m.getD i []
theorem Zn (p:Int) (c:Nat) (v:Int) (m:List (List Int)) (k:Nat):(KY p c v m k).length=m.length:=by simp [KY]
theorem KA {p:Int} {c:Nat} {v:Int} {m:List (List Int)} {k i:Nat} (h:i<m.length):(KY p c v m k).getD i []=if c<i∧i<c+1+k then Yw p c (Yx p c v (m.getD i [])) (m.getD c []) (m.getD i []) else m.getD i []:=VZ h
theorem QaR (p:Int) (c:Nat) (v:Int) (m:List (List Int)):KY p c v m 0=m:=ZU (d:=[]) (Zn ..) fun j hj=>by
 rw [Zn] at hj
 rw [KA hj,if_neg (by omega)]
theorem QaS {p:Int} {c:Nat} {v:Int} {m:List (List Int)} {k:Nat} (h:c+1+k<m.length):(KY p c v m k).set (c+1+k) (Yw p c (Yx p c v (m.getD (c+1+k) [])) (m.getD c []) (m.getD (c+1+k) []))=KY p c v m (k+1):=ZU (d:=[]) (by rw [qB,Zn,Zn]) fun j hj=>by
 rw [qB,Zn] at hj
 rw [W4 (by rw [Zn];exact h),KA hj,KA hj]
 by_cases e:c+1+k=j
 ·subst e;rw [if_pos rfl,if_pos (by omega)]
 ·rw [if_neg e]
  by_cases e2:c<j∧j<c+1+k
  ·rw [if_pos e2,if_pos (by omega)]
  ·rw [if_neg e2,if_neg (by omega)]
theorem QcP {p:Int} {c:Nat} {v:Int} {m:List (List Int)} (h:c<m.length):KY p c v m (m.length-(c+1))=JR p c v m:=by
 refine ZU (d:=[]) (by rw [Zn,JR,qD,qQ,qG,jW];omega) fun j hj=>?_
 rw [Zn] at hj
 rw [KA hj,JR]
 have hl:(m.take (c+1)).length=c+1:=by rw [qQ];omega
 by_cases e:c<j
 ·rw [if_pos (by omega)]
  simp only [qN]
  rw [zS (by omega),hl,List.getElem?_map,jV,show c+1+(j-(c+1))=j by omega,wG hj]
  rfl
 ·rw [if_neg (by omega)]
  simp only [qN]
  rw [zP (by omega),zQ (by omega)]
theorem Qfb {p:Int} (hp:0<p) {N c:Nat} {v:Int} {m:List (List Int)} (h:WM p N m) (k:Nat):WM p N (KY p c v m k):=by
 refine ⟨by rw [Zn];exact h.1,fun r hr=>?_⟩
 obtain ⟨i,hi,rfl⟩:=List.mem_map.1 hr
 have hi:=List.mem_range.1 hi
 have hri:RowOk p N (m.getD i []):=h.2 _ (by rw [Jl hi];exact jI _)
 split
 ·exact QbQ hp hri
 ·exact hri
theorem DE {p:Int} {N:Nat} {m:List (List Int)} (h:WM p N m) {i j:Nat} (hi:i<N) (hj:j<N):0≤(m.getD i []).getD j 0∧(m.getD i []).getD j 0<p:=by
 have hi':i<m.length:=by rw [h.1];exact hi
 have:=(h.2 _ (by rw [Jl hi'];exact jI _:m.getD i []∈m)).2 j hj
 exact this
section
variable {F:FuncId→Option (List HV→Option HV)} {H:Heap} {mb N:Nat} {R:Nat→Nat} {m:List (List Int)} {p:Int}
abbrev rowS (R:Nat→Nat) (N:Nat):Nat→Prop:=fun b=>∃k,k<N∧b=R k
theorem Qp7 (hM:Mat H mb N R m) (hN:N≤1000) {c i:Nat} (hci:c<i) (hi:i<N) (hp:1<p∧p≤2147483647) (hok:WM p N m) {f:Int} (hf:0≤f∧f<p) (u v:Int) :
  ∃H',RT (plF F) 87 (sn 122486566 B87) ((Q5 (slR mb N) (.i p) (.i 0) (.i u) (.i (c:Int)) Ud (.i v) (.i (i:Int)) (.i f) (.i (c:Int)) (.i (N:Int)) (.i (c:Int)))) H (.exit 6) ((Q5 (slR mb N) (.i p) (.i 0) (.i u) (.i (c:Int)) Ud (.i v) (.i (i:Int)) (.i f) (.i (N:Int)) (.i (N:Int)) (.i (c:Int)))) H'∧Mat H' mb N R (m.set i (Yw p c f (m.getD c []) (m.getD i [])))∧Fx H H' (rowS R N):=by
 have hml:=hM.ml
 have hil:i<m.length:=by omega
 have hri:=hM.rl i hi
 obtain ⟨x,E',H',r,hx,hE,h1,h2⟩:=KK (pol':=plF F) (f:=87) (b:=sn 244973132 B87) (c:=sn 122486566 B87)
  (I:=fun k e H'=>e=(Q5 (slR mb N) (.i p) (.i 0) (.i u) (.i (c:Int)) Ud (.i v) (.i (i:Int)) (.i f) (.i ((c+k:Nat):Int)) (.i (N:Int)) (.i (c:Int)))∧Mat H' mb N R (m.set i (Kz p c f (m.getD c []) (m.getD i []) k))∧Fx H H' (rowS R N))
  (Q:=fun x E' H'=>x=.exit 6∧E'=(Q5 (slR mb N) (.i p) (.i 0) (.i u) (.i (c:Int)) Ud (.i v) (.i (i:Int)) (.i f) (.i (N:Int)) (.i (N:Int)) (.i (c:Int)))∧Mat H' mb N R (m.set i (Kz p c f (m.getD c []) (m.getD i []) (N-c)))∧Fx H H' (rowS R N)) (N-c)
  (by
   rintro k hk e H' ⟨rfl,hM',hF⟩
   have hj:c+k<N:=by omega
   have ei:(m.set i (Kz p c f (m.getD c []) (m.getD i []) k)).getD i []=Kz p c f (m.getD c []) (m.getD i []) k:=by rw [W4 hil,if_pos rfl]
   have ec:(m.set i (Kz p c f (m.getD c []) (m.getD i []) k)).getD c []=m.getD c []:=by rw [W4 hil,if_neg (by omega)]
   have g1:=hM'.get hi hj
   have g2:=hM'.get (i:=c) (by omega) hj
   obtain ⟨g3,g4⟩:=hM'.put hi hj (((m.getD i []).getD (c+k) 0+(p-f)*(m.getD c []).getD (c+k) 0)%p)
   rw [ei] at g1 g3 g4
   rw [ec] at g2
   rw [VC (by omega),if_neg (by omega)] at g1
   rw [QaQ (by omega)] at g3 g4
   rw [zO] at g4
   have aw:=QsC (p:=p) (by omega) (DE hok hi hj) hf (DE hok (i:=c) (by omega) hj) hp.2
   have s:=QpR (F:=F) 0 mb N p H' c u v i f (c+k) (R i) (R c) ((m.getD c []).getD (c+k) 0) ((m.getD i []).getD (c+k) 0) (by omega) (XF hi) (hM'.ld hi) (XF hi) (hM'.ld hi) (DU hj) g1 (XF (by omega)) (hM'.ld (by omega)) (DU hj) g2 (Cq (by omega)) (DU hj) (by rw [aw];exact g3)
   rw [show qA.wrap (((c+k:Nat):Int)+1)=((c+(k+1):Nat):Int) by rw [QU (by omega) (by omega)];omega] at s
   refine ⟨_,_,s,?_⟩
   have e1:QP (plF F) 87 (sn 244973132 B87) ((Q5 (slR mb N) (.i p) (.i 0) (.i u) (.i (c:Int)) Ud (.i v) (.i (i:Int)) (.i f) (.i ((c+(k+1):Nat):Int)) (.i (N:Int)) (.i (c:Int))))=(Q5 (slR mb N) (.i p) (.i 0) (.i u) (.i (c:Int)) Ud (.i v) (.i (i:Int)) (.i f) (.i ((c+(k+1):Nat):Int)) (.i (N:Int)) (.i (c:Int))):=by kernel_rfl
   rw [e1,QI _ (by simp)]
   exact ⟨rfl,g4,hF.trans (Fx.set (S:=rowS R N) ⟨i,hi,rfl⟩ _)⟩)
  (by
   rintro e H' ⟨rfl,hM',hF⟩
   have e1:c+(N-c)=N:=by omega
   rw [e1]
   exact ⟨_,_,_,QpS (F:=F) 0 mb N p H' c u v i f N 0 0 0 0 (by omega),by simp,rfl,rfl,hM',hF⟩)
  (by kernel_rfl) (by rintro k e H' ⟨rfl,_⟩;kernel_rfl) (e:=(Q5 (slR mb N) (.i p) (.i 0) (.i u) (.i (c:Int)) Ud (.i v) (.i (i:Int)) (.i f) (.i (c:Int)) (.i (N:Int)) (.i (c:Int)))) (H:=H) ⟨rfl,by
   rw [QaP]
   have:m.set i (m.getD i [])=m:=by rw [Jl hil];exact wD hil
   rw [this];exact hM,Fx.refl ..⟩
 subst hx hE
 have e3:Kz p c f (m.getD c []) (m.getD i []) (N-c)=Yw p c f (m.getD c []) (m.getD i []):=by
  have:=QcO (p:=p) (c:=c) (f:=f) (x:=m.getD c []) (r:=m.getD i []) (by omega)
  rwa [hri] at this
 rw [e3] at h1
 exact ⟨H',r,h1,h2⟩
theorem Qhr (hM:Mat H mb N R m) (hN:N≤1000) {c:Nat} (hc:c<N) (hp:1<p∧p≤2147483647) (hok:WM p N m) (u:Int) {v:Int} (hv:0≤v∧v<p) :
  ∃H',RT (plF F) 87 (sn 956926 B87) ((Q5 (slR mb N) (.i p) (.i 0) (.i u) (.i (c:Int)) Ud (.i v) (.i ((c+1:Nat):Int)) Ud Ud (.i (N:Int)) (.i (c:Int)))) H (.exit 4) ((Q5 (slR mb N) (.i p) (.i 0) (.i u) (.i (c:Int)) Ud (.i v) (.i (N:Int)) Ud Ud (.i (N:Int)) (.i (c:Int)))) H'∧Mat H' mb N R (JR p c v m)∧Fx H H' (rowS R N):=by
 have hml:=hM.ml
 obtain ⟨x,E',H',r,hx,hE,h1,h2⟩:=KK (pol':=plF F) (f:=87) (b:=sn 1913852 B87) (c:=sn 956926 B87)
  (I:=fun k e H'=>e=(Q5 (slR mb N) (.i p) (.i 0) (.i u) (.i (c:Int)) Ud (.i v) (.i ((c+1+k:Nat):Int)) Ud Ud (.i (N:Int)) (.i (c:Int)))∧Mat H' mb N R (KY p c v m k)∧Fx H H' (rowS R N))
  (Q:=fun x E' H'=>x=.exit 4∧E'=(Q5 (slR mb N) (.i p) (.i 0) (.i u) (.i (c:Int)) Ud (.i v) (.i (N:Int)) Ud Ud (.i (N:Int)) (.i (c:Int)))∧Mat H' mb N R (KY p c v m (N-(c+1)))∧Fx H H' (rowS R N)) (N-(c+1))
  (by
   rintro k hk e H' ⟨rfl,hM',hF⟩
   have hi:c+1+k<N:=by omega
   have hok':=Qfb (p:=p) (by omega) (c:=c) (v:=v) hok k
   have ei:(KY p c v m k).getD (c+1+k) []=m.getD (c+1+k) []:=by rw [KA (by omega),if_neg (by omega)]
   have ec:(KY p c v m k).getD c []=m.getD c []:=by rw [KA (by omega),if_neg (by omega)]
   have s1:=QpN (F:=F) 0 mb N p H' c u v (c+1+k) (by omega)
   have g1:=hM'.get hi hc
   rw [ei] at g1
   have hy:=DE hok hi hc
   have s2:=QpP (F:=F) 0 mb N p H' c u v (c+1+k) (R (c+1+k)) ((m.getD (c+1+k) []).getD c 0) (XF hi) (hM'.ld hi) (DU hc) g1 (Cq (by omega))
   have hfe:(qA.wrap ((m.getD (c+1+k) []).getD c 0*v)).tmod p=Yx p c v (m.getD (c+1+k) []):=QcN (by omega) hy.1 hy.2 hv.1 hv.2 hp.2
   rw [hfe] at s2
   have hf:0≤Yx p c v (m.getD (c+1+k) [])∧Yx p c v (m.getD (c+1+k) [])<p:=⟨qH _ (by omega),qI _ (by omega)⟩
   generalize hfd:Yx p c v (m.getD (c+1+k) [])=f at *
   have s3:=QpQ (F:=F) 0 mb N p H' c u v (c+1+k) f
   obtain ⟨H1,s4,hM1,hF1⟩:=Qp7 (F:=F) hM' hN (c:=c) (i:=c+1+k) (by omega) hi hp hok' hf u v
   rw [ei,ec] at hM1
   have hms:=QaS (p:=p) (c:=c) (v:=v) (m:=m) (k:=k) (by omega)
   rw [hfd] at hms
   rw [hms] at hM1
   have s5:=QpT (F:=F) 0 mb N p H1 c u v (c+1+k) (y10:=.i f) (y11:=.i (N:Int))
   rw [show qA.wrap (((c+1+k:Nat):Int)+1)=((c+1+(k+1):Nat):Int) by rw [QU (by omega) (by omega)];omega] at s5
   refine ⟨_,_,sq (s1) (sq (RunsTo.block_normal (i:=5) (c:=sn 7655410 B87) (sq (s2) (sq (s3) (bke (c:=sn 61243283 B87) (s4)) (c:=sn 30621641 B87)) (c:=sn 15310820 B87)) (by kernel_rfl)) (s5) (c:=sn 3827705 B87)) (c:=sn 1913852 B87),?_⟩
   have e1:QP (plF F) 87 (sn 1913852 B87) ((Q5 (slR mb N) (.i p) (.i 0) (.i u) (.i (c:Int)) Ud (.i v) (.i ((c+1+(k+1):Nat):Int)) (.i f) (.i (N:Int)) (.i (N:Int)) (.i (c:Int))))=(Q5 (slR mb N) (.i p) (.i 0) (.i u) (.i (c:Int)) Ud (.i v) (.i ((c+1+(k+1):Nat):Int)) Ud Ud (.i (N:Int)) (.i (c:Int))):=by kernel_rfl
   rw [e1,QI _ hF1.ln]
   exact ⟨rfl,hM1,hF.trans hF1⟩)
  (by
   rintro e H' ⟨rfl,hM',hF⟩
   have e1:c+1+(N-(c+1))=N:=by omega
   rw [e1]
   have s1:=QpO (F:=F) 0 mb N p H' c u v N (by omega)
   exact ⟨_,_,_,sqo (s1) (c:=sn 1913852 B87) (b:=sn 3827705 B87),by simp,rfl,rfl,hM',hF⟩)
  (by kernel_rfl) (by rintro k e H' ⟨rfl,_⟩;kernel_rfl) (e:=(Q5 (slR mb N) (.i p) (.i 0) (.i u) (.i (c:Int)) Ud (.i v) (.i ((c+1:Nat):Int)) Ud Ud (.i (N:Int)) (.i (c:Int)))) (H:=H) ⟨rfl,by rw [QaR];exact hM,Fx.refl ..⟩
 subst hx hE
 rw [← hml,QcP (by omega)] at h1
 rw [hml] at h1
 exact ⟨H',r,h1,h2⟩
theorem Qhs (hM:Mat H mb N R m) (hN:N≤1000) {c:Nat} (hc:c<N) (u:Int) :
  RT (plF F) 87 (sn 29900 B87) ((Q5 (slR mb N) (.i p) (.i 0) (.i u) (.i (c:Int)) (.i (c:Int)) Ud Ud Ud Ud (.i (N:Int)) (.i (c:Int)))) H (.exit 2) ((Q5 (slR mb N) (.i p) (.i 0) (.i u) (.i (c:Int)) (.i ((JS m c (N-c) c:Nat):Int)) Ud Ud Ud Ud (.i (N:Int)) (.i (c:Int)))) H:=by
 obtain ⟨h1,h2,h3,h4⟩:=Ya m c (N-c) c
 have h:=Wu (pol':=plF F) (f:=87) (b:=sn 59800 B87) (c:=sn 29900 B87) (E:=fun k=>(Q5 (slR mb N) (.i p) (.i 0) (.i u) (.i (c:Int)) (.i ((c+k:Nat):Int)) Ud Ud Ud Ud (.i (N:Int)) (.i (c:Int)))) (Hs:=fun _=>H) (JS m c (N-c) c-c) (E0:=fun k=>(Q5 (slR mb N) (.i p) (.i 0) (.i u) (.i (c:Int)) (.i ((c+(k+1):Nat):Int)) Ud Ud Ud Ud (.i (N:Int)) (.i (c:Int)))) (H1:=fun _=>H) (x:=.exit 2) (E':=(Q5 (slR mb N) (.i p) (.i 0) (.i u) (.i (c:Int)) (.i ((JS m c (N-c) c:Nat):Int)) Ud Ud Ud Ud (.i (N:Int)) (.i (c:Int)))) (H':=H)
  (fun k hk=>by
   have hr:c+k<N:=by omega
   have s:=QpD (F:=F) 0 mb N p H c (c+k) u (R (c+k)) _ (by omega) (XF hr) (hM.ld hr) (DU hc) (hM.get hr hc) (h3 _ (by omega) (by omega))
   rw [show qA.wrap (((c+k:Nat):Int)+1)=((c+(k+1):Nat):Int) by rw [QU (by omega) (by omega)];omega] at s
   exact s) (fun k _=>by kernel_rfl) (fun k _=>QI _ rfl) (by
   rw [show c+(JS m c (N-c) c-c)=JS m c (N-c) c by omega]
   by_cases e:JS m c (N-c) c<N
   ·exact QpE (F:=F) 0 mb N p H c _ u (R (JS m c (N-c) c)) _ (by omega) (XF e) (hM.ld e) (DU hc) (hM.get e hc) (h4 (by omega))
   ·exact QpF (F:=F) 0 mb N p H c _ u 0 0 (by omega)) (by simp) (by kernel_rfl) (fun k _=>by kernel_rfl)
 exact h
end
section
variable {F:FuncId→Option (List HV→Option HV)} {mb N:Nat} {p:Int}
def VD (p:Int) (a:Int):Int:=pw a (p-2).toNat p
theorem Qfc (h45:F 45=some SU) (hp:1<p∧p≤2147483647) {x:Int} (hx:0≤x∧x<p) (H:Heap):∀kf,Qb Tp (plF F) (kf+1) 45 [.int .i64 x,.int .i64 (qA.wrap (p-2)),.int .i64 p] H=some (.int .i64 (VD p x),H):=by
 rw [Qs (by omega) (by omega)]
 exact at3 (pol':=plF F) (g:=45) (c1:=kI) (c2:=kI) (c3:=kI) (f:=fun a n p=>if Qe6 a n p then some (.int .i64 (pw a n.toNat p)) else none) (H:=H) h45 (ShI _ x) (ShI _ (p-2)) (ShI _ p) (if_pos ⟨hp,hx,by omega,by omega⟩)
theorem Qht {N:Nat} {m:List (List Int)} (h:WM p N m) {i j:Nat} (hi:i<N) (hj:j<N):WM p N (swpR m i j):=Qe8 h hi hj
theorem SW (h45:F 45=some SU) (hp:1<p∧p≤2147483647) (hN:N≤1000) {S:Nat→Prop} (hS:S mb):∀(k c:Nat) (u:Int) (m:List (List Int)) (R:Nat→Nat) (H:Heap),c+k=N→Mat H mb N R m→WM p N m→(0≤u∧u<p)→(∀i,i<N→S (R i)) →
  ∃x E' H',RT (plF F) 87 (sn 58 B87) ((Q5 (slR mb N) (.i p) (.i 0) (.i (u)) Ud Ud Ud Ud Ud Ud (.i (N:Int)) (.i (c:Int)))) H x E' H'∧Ok H'∧Fx H H' S ∧
   ((x=.exit 0∧E'=(Q5 (slR mb N) (.i p) (.i 0) (.i (gz p (VD p) N k c u m)) Ud Ud Ud Ud Ud Ud (.i (N:Int)) (.i (N:Int))))∨(x=.ret∧gz p (VD p) N k c u m=0∧∃w c' r:Int,E'=(Q5 (slR mb N) (.i p) (.i 0) (.i w) (.i c') (.i r) Ud Ud Ud Ud (.i (N:Int)) (.i c'))))
 | 0,c,u,m,R,H,hk,hM,hok,hu,hR=>by
  have:c=N:=by omega
  subst this
  have s1:=QpA (F:=F) 0 mb c p H c u (by omega)
  have s2:=Qhj (F:=F) 0 mb c p H c u
  rw [gz]
  exact ⟨_,_,_,lpo (sq (s1) (sqo (s2) (c:=sn 233 B87) (b:=sn 467 B87)) (c:=sn 116 B87)),hM.mm,Fx.refl ..,.inl ⟨rfl,rfl⟩⟩
 | k+1,c,u,m,R,H,hk,hM,hok,hu,hR=>by
  have hc:c<N:=by omega
  obtain ⟨f1,f2,f3,f4⟩:=Ya m c (N-c) c
  have s1:=Qpz (F:=F) 0 mb N p H c u (by omega)
  have s2:=Qhi (F:=F) 0 mb N p H c u
  have s3:=QpB (F:=F) 0 mb N p H c u
  have s4:=QpC (F:=F) 0 mb N p H c u
  have s5:=Qhs (F:=F) (p:=p) hM hN hc u
  rw [gz]
  generalize hr:JS m c (N-c) c=r at *
  by_cases e1:r=N
  ·rw [if_pos e1]
   have s6:=QpG (F:=F) 0 mb N p H c r u (by omega)
   exact ⟨_,_,_,lpo (sq (s1) (sq (s2) (sqo (RunsTo.block_ret (i:=1) (c:=sn 934 B87) (sq (s3) (sq (s4) (sq (bke (c:=sn 14950 B87) (s5)) (sqo (s6) (c:=sn 14951 B87) (b:=sn 29903 B87)) (c:=sn 7475 B87)) (c:=sn 3737 B87)) (c:=sn 1868 B87)) (by kernel_rfl)) (c:=sn 467 B87) (b:=sn 935 B87)) (c:=sn 233 B87)) (c:=sn 116 B87)),hM.mm,Fx.refl ..,.inr ⟨rfl,rfl,u,c,r,rfl⟩⟩
  rw [if_neg e1]
  have hrN:r<N:=by omega
  have s6:=QpH (F:=F) 0 mb N p H c r u (by omega)
  obtain ⟨H1,R1,s7,hM1,hF1,hR1⟩:∃H1 R1,RT (plF F) 87 (sn 59806 B87) ((Q5 (slR mb N) (.i p) (.i 0) (.i (u)) (.i (c:Int)) (.i (r:Int)) Ud Ud Ud Ud (.i (N:Int)) (.i (c:Int)))) H .normal ((Q5 (slR mb N) (.i p) (.i 0) (.i (if r=c then u else p-u)) (.i (c:Int)) (.i (r:Int)) Ud Ud Ud Ud (.i (N:Int)) (.i (c:Int)))) H1∧Mat H1 mb N R1 (swpR m r c)∧Fx H H1 S∧∀i,i<N→S (R1 i):=by
   by_cases e2:r=c
   ·have s:=QpI (F:=F) 0 mb N p H c r u 0 0 (by omega)
    rw [if_pos e2]
    have:swpR m r c=m:=by rw [e2];exact SV (by rw [hM.ml];exact hc)
    rw [this]
    exact ⟨H,R,s,hM,Fx.refl ..,hR⟩
   ·obtain ⟨H0,H1,g1,g2,g3,g4⟩:=hM.swap hrN hc
    have s:=QpJ (F:=F) 0 mb N p H c r u (R r) (R c) (by omega) (XF hc) (hM.ld hc) (XF hrN) (hM.ld hrN) (XF hrN) g1 (XF hc) g2
    rw [QU (x:=p-u) (by omega) (by omega)] at s
    rw [if_neg e2]
    refine ⟨H1,_,s,g3,⟨g4.ln,fun b hb=>g4.eq b fun e=>hb (by rw [e];exact hS)⟩,fun i hi=>?_⟩
    show S (R _)
    split
    ·exact hR r hrN
    ·split
     ·exact hR c hc
     ·exact hR i hi
  have hok1:=Qht hok hrN hc
  have hu1:0≤(if r=c then u else p-u)∧(if r=c then u else p-u)≤p:=by split <;> omega
  generalize (if r=c then u else p-u)=u1 at *
  generalize swpR m r c=m1 at *
  have hx:=DE hok1 hc hc
  have s8:=QpK (F:=F) 0 mb N p H1 c r u1 (R1 c) ((m1.getD c []).getD c 0) (XF hc) (hM1.ld hc) (DU hc) (hM1.get hc hc) (Cq (by omega))
  rw [Qsd (by omega) hu1.1 hu1.2 hx.1 hx.2 hp.2] at s8
  have hu2:0≤u1*(m1.getD c []).getD c 0%p∧u1*(m1.getD c []).getD c 0%p<p:=⟨qH _ (by omega),qI _ (by omega)⟩
  have s9:=QpL (F:=F) 0 mb N p H1 c r (u1*(m1.getD c []).getD c 0%p) (R1 c) ((m1.getD c []).getD c 0) (VD p ((m1.getD c []).getD c 0)) (XF hc) (hM1.ld hc) (DU hc) (hM1.get hc hc) (Qfc h45 hp hx H1)
  have hv:0≤VD p ((m1.getD c []).getD c 0)∧VD p ((m1.getD c []).getD c 0)<p:=⟨qH _ (by omega),qI _ (by omega)⟩
  generalize u1*(m1.getD c []).getD c 0%p=u2 at *
  generalize VD p ((m1.getD c []).getD c 0)=v at *
  have s10:=QpM (F:=F) 0 mb N p H1 c r u2 v
  rw [show qA.wrap ((c:Int)+1)=((c+1:Nat):Int) by rw [QU (by omega) (by omega)];omega] at s10
  obtain ⟨H2,s11,hM2,hF2⟩:=Qhr (F:=F) hM1 hN hc hp hok1 u2 hv
  have s12:=QpU (F:=F) 0 mb N p H2 c u2 (y6:=.i (c:Int)) (y8:=.i v) (y9:=.i (N:Int))
  rw [show qA.wrap ((c:Int)+1)=((c+1:Nat):Int) by rw [QU (by omega) (by omega)];omega] at s12
  have hF3:Fx H1 H2 S:=⟨hF2.ln,fun b hb=>hF2.eq b fun ⟨i,hi,e⟩=>hb (by rw [e];exact hR1 i hi)⟩
  obtain ⟨x,E',H',ih,g1,g2,g3⟩:=SW h45 hp hN hS k (c+1) u2 (JR p c v m1) R1 H2 (by omega) hM2 (QbR (by omega) hok1) hu2 hR1
  refine ⟨x,E',H',lop (sq (s1) (sq (s2) (sq (RunsTo.block_normal (i:=1) (c:=sn 934 B87) (sq (s3) (sq (s4) (sq (bke (c:=sn 14950 B87) (s5)) (sq (s6) (sq (s7) (sq (s8) (sq (s9) (sq (s10) (bke (c:=sn 478463 B87) (lpi (e0:=(Q5 (slR mb N) (.i p) (.i 0) (.i (u2)) (.i (c:Int)) (.i (r:Int)) (.i v) (.i ((c+1:Nat):Int)) Ud Ud (.i (N:Int)) (.i (c:Int)))) s11 (b:=sn 1913852 B87))) (c:=sn 239231 B87)) (c:=sn 119615 B87)) (c:=sn 59807 B87)) (c:=sn 29903 B87)) (c:=sn 14951 B87)) (c:=sn 7475 B87)) (c:=sn 3737 B87)) (c:=sn 1868 B87)) (by kernel_rfl)) (s12) (c:=sn 467 B87)) (c:=sn 233 B87)) (c:=sn 116 B87)) (QI _ (by rw [hF3.ln,hF1.ln])) ih,g1,(hF1.trans hF3).trans g2,g3⟩
theorem Qit:Try.f87.results.toList=[.tmp 4]:=by kernel_rfl
theorem Qfd (h87:F 87=none) (h45:F 45=some SU) (hp:1<p∧p≤2147483647) (hN:N≤1000) {R:Nat→Nat} {m:List (List Int)} {H:Heap} (hM:Mat H mb N R m) (hok:WM p N m) :
  ∃H',ClF F 87 [slR mb N,.int .i64 p] H (.int .i64 (gz p (VD p) N N 0 1 m)) H'∧Ok H'∧Fx H H' (fun b=>b=mb∨rowS R N b):=by
 have s1:=Qpw (F:=F) 0 mb N p H
 have s2:=Qpx (F:=F) 0 mb N p H
 have s3:=Qpy (F:=F) 0 mb N p H 1
 obtain ⟨x,E',H',s4,g1,g2,g3⟩:=SW (F:=F) h45 hp hN (S:=fun b=>b=mb∨rowS R N b) (.inl rfl) N 0 1 m R H (Nat.zero_add N) hM hok (by omega) (fun i hi=>.inr ⟨i,hi,rfl⟩)
 have hgc:∀r,gc H.length r H'=H':=fun r=>QI r g2.ln
 rcases g3 with ⟨rfl,rfl⟩ | ⟨rfl,h0,w,c',r,rfl⟩
 ·have s5:=QpV (F:=F) 0 mb N p H' (gz p (VD p) N N 0 1 m) (y13:=.i (N:Int)) (y14:=.i (N:Int))
  have h:=CallsTo.shared (P:=Tp) (pol:=plF F) (g:=87) (fn:=Try.f87) (cd:=B87) (args:=[slR mb N,.int .i64 p]) (v:=.int .i64 (gz p (VD p) N N 0 1 m)) h87 (by kernel_rfl) (by kernel_rfl) (by kernel_rfl) (sq (s1) (sq (s2) (sq (sq (s3) (bke (c:=sn 29 B87) (s4)) (c:=sn 14 B87)) (s5) (c:=sn 7 B87)) (c:=sn 3 B87)) (c:=B87)) (by kernel_rfl) (by simp) (by simp only [Qf,Qit];rfl)
  rw [hgc] at h
  exact ⟨H',h,g1,g2⟩
 ·have h:=CallsTo.shared (P:=Tp) (pol:=plF F) (g:=87) (fn:=Try.f87) (cd:=B87) (args:=[slR mb N,.int .i64 p]) (v:=.int .i64 0) h87 (by kernel_rfl) (by kernel_rfl) (by kernel_rfl) (sq (s1) (sq (s2) (sqo (sq (s3) (RunsTo.block_ret (i:=0) (c:=sn 29 B87) (s4) (by kernel_rfl)) (c:=sn 14 B87)) (c:=sn 7 B87) (b:=sn 15 B87)) (c:=sn 3 B87)) (c:=B87)) (by kernel_rfl) (by simp) (by simp only [Qf,Qit];rfl)
  rw [hgc] at h
  rw [h0]
  exact ⟨H',h,g1,g2⟩
end
end Go.Proofs.Ytiejmoglooaalaa
end
section
open Go Go.HL
namespace Go.Proofs.Ytiejmoglooaalaa
set_option maxRecDepth 100000
set_option linter.unusedSectionVars false
open Go.Proofs.Try renaming prog → Tp
open Go.HL.HV renaming undef → Ud
section
variable {F:FuncId→Option (List HV→Option HV)}
noncomputable def B30:Code:=Try.f30.body.getD .skip
abbrev DF (v0 v1 v4 v5 v6 v7 v8 v9 v10 v11 v12 v13 v14 v31 v32 v33:HV):Env:=[(0,v0),(1,v1),(4,v4),(5,v5),(6,v6),(7,v7),(8,v8),(9,v9),(10,v10),(11,v11),(12,v12),(13,v13),(14,v14),(31,v31),(32,v32),(33,v33)]
end
abbrev e30 (n:Int) (ls:List HV) (u5 u6 u7 u8 u9 u10 u11 u12 u13 u14 u15:HV):Env:=DF (.i n) (.g ls) (.imm .lit 1 []) (.imm .lit 1 []) (.i 0) u5 u6 u7 u8 u9 u10 u11 u12 u13 u14 u15
section
variable {F:FuncId→Option (List HV→Option HV)}
variable (N:Nat) (n:Int) (ls:List HV)
include N n ls
theorem Qp8:RU F 30 2 B30 [(0,.i n),(1,.g ls)] [] .normal (e30 n ls Ud Ud Ud Ud Ud Ud Ud Ud Ud Ud Ud) [] :=
 hx N 60 []
end
section
variable {F:FuncId→Option (List HV→Option HV)}
variable (N:Nat) (n:Int) (ls:List HV)
include N n ls
theorem Qp9 {H0:Heap} {a0:HV} {H1:Heap} {H2:Heap} (g0:CN F N 39 [.i n,.g ls] [] (.tuple [.N n ls,.bool true]) H0) (g1:some (Q8 (.agg [.i 0,.imm .lit 0 []]) H0)=some (a0,H1)) (g2:ST H1 66 (a0) (.N n ls) H2) (y7 y8 y9 y10 y11 y12 y13 y14 y31 y32 y33:HV:=Ud): RU F 30 6 B30 (e30 n ls y7 y8 y9 y10 y11 y12 y13 y14 y31 y32 y33) [] .normal (e30 n ls a0 (.bool true) y9 y10 y11 y12 y13 y14 y31 y32 y33) H2 :=
 hx N 60 [jC 1 2 g0,jR 1 6 g1,jS 1 7 g2]
theorem Qqa {H0:Heap} {a0:HV} {H1:Heap} {H2:Heap} (g0:CN F N 39 [.i n,.g ls] [] (.tuple [.N n ls,.bool false]) H0) (g1:some (Q8 (.agg [.i 0,.imm .lit 0 []]) H0)=some (a0,H1)) (g2:ST H1 66 (a0) (.N n ls) H2) (y7 y8 y9 y10 y11 y12 y13 y14 y31 y32 y33:HV:=Ud): RU F 30 6 B30 (e30 n ls y7 y8 y9 y10 y11 y12 y13 y14 y31 y32 y33) [] .normal (e30 n ls a0 (.bool false) y9 y10 y11 y12 y13 y14 y31 y32 y33) H2 :=
 hx N 60 [jC 1 2 g0,jR 1 6 g1,jS 1 7 g2]
theorem Qhu (H:Heap) (y9 y10 y11 y12 y13 y14 y31 y32 y33:HV:=Ud): RU F 30 14 B30 (e30 n ls (.q 0) (.bool true) y9 y10 y11 y12 y13 y14 y31 y32 y33) H .normal (e30 n ls (.q 0) (.bool true) y9 y10 y11 y12 y13 y14 y31 y32 y33) H :=
 hx N 60 []
theorem Qhv (H:Heap) (y9 y10 y11 y12 y13 y14 y31 y32 y33:HV:=Ud): RU F 30 14 B30 (e30 n ls (.q 0) (.bool false) y9 y10 y11 y12 y13 y14 y31 y32 y33) H .ret (DF (.i n) (.g ls) (.imm .lit 1 []) (.imm .lit 1 []) (.i 2) (.q 0) (.bool false) y9 y10 y11 y12 y13 y14 y31 y32 y33) H :=
 hx N 60 []
theorem Qqb (H:Heap) (ob m mb:Nat) {H0:Heap} (g0:LD H 66 (.q 0) (.N n ls)) (g1:CM F 43 [.N n ls] H (.tuple [.s ob m,.map mb,.bool true]) H0) (y9 y10 y11 y12 y13 y14 y31 y32 y33:HV:=Ud): RU F 30 30 B30 (e30 n ls (.q 0) (.bool true) y9 y10 y11 y12 y13 y14 y31 y32 y33) H .normal (e30 n ls (.q 0) (.bool true) (.s ob m) (.map mb) y11 y12 y13 y14 y31 y32 y33) H0 :=
 hx N 60 [jO 4 0 H g0,jD 4 1 g1]
theorem Qqc (H:Heap) (ob m mb:Nat) {H0:Heap} (g0:LD H 66 (.q 0) (.N n ls)) (g1:CM F 43 [.N n ls] H (.tuple [.s ob m,.nilmap,.bool false]) H0) (y9 y10 y11 y12 y13 y14 y31 y32 y33:HV:=Ud): RU F 30 30 B30 (e30 n ls (.q 0) (.bool true) y9 y10 y11 y12 y13 y14 y31 y32 y33) H .normal (e30 n ls (.q 0) (.bool false) (.s ob m) .nilmap y11 y12 y13 y14 y31 y32 y33) H0 :=
 hx N 60 [jO 4 0 H g0,jD 4 1 g1]
theorem Qhw (H:Heap) (ob m mb:Nat) (y7 y11 y12 y13 y14 y31 y32 y33:HV:=Ud): RU F 30 62 B30 (e30 n ls y7 (.bool true) (.s ob m) (.map mb) y11 y12 y13 y14 y31 y32 y33) H .normal (e30 n ls y7 (.bool true) (.s ob m) (.map mb) y11 y12 y13 y14 y31 y32 y33) H :=
 hx N 60 []
theorem Qhx (H:Heap) (ob m:Nat) (y7 y11 y12 y13 y14 y31 y32 y33:HV:=Ud): RU F 30 62 B30 (e30 n ls y7 (.bool false) (.s ob m) .nilmap y11 y12 y13 y14 y31 y32 y33) H .ret (DF (.i n) (.g ls) (.imm .lit 1 []) (.imm .lit 1 []) (.i 6) y7 (.bool false) (.s ob m) .nilmap y11 y12 y13 y14 y31 y32 y33) H :=
 hx N 60 []
theorem Qqd (H:Heap) (ob m mb:Nat) {v0:HV} {H0:Heap} {v1:HV} {H1:Heap} (g0:some (HV.sl H.length 0 0 none 0 1,H++[Blk.b []])=some (v0,H0)) (g1:some (HV.sl H0.length 0 0 none 0 1,H0++[Blk.b []])=some (v1,H1)) (y7 y8 y11 y12 y13 y14 y31 y32 y33:HV:=Ud): RU F 30 126 B30 (e30 n ls y7 y8 (.s ob m) (.map mb) y11 y12 y13 y14 y31 y32 y33) H .normal (e30 n ls y7 y8 (.s ob m) (.map mb) v0 v1 y13 y14 y31 y32 y33) H1 :=
 hx N 60 [jR 7 0 g0,jR 7 1 g1]
theorem Qqe (H:Heap) (ob m mb pb k qb c:Nat) (y7 y8 y13 y14 y31 y32 y33:HV:=Ud): RU F 30 508 B30 (e30 n ls y7 y8 (.s ob m) (.map mb) (.s pb k) (.s qb c) y13 y14 y31 y32 y33) H .normal (e30 n ls y7 y8 (.s ob m) (.map mb) (.s pb k) (.s qb c) y13 y14 (.s ob m) (.n m) (.i 0)) H :=
 hx N 60 []
theorem Qqf (H:Heap) (ob m mb pb k qb c i:Nat) (x:Int) (g0:(i:Int)<(m:Int)) (g1:IS 24 ob m i) (g2:LD H 3 (.ptr ob i 0 m) (.i x)) (g3:lkH Tp 72 H mb (.n i)=some (.bool true,H)) (g4:x=0) (g5:lkH Tp 72 H mb (.n i)=some (.bool true,H)) (y7 y8 y9 y13 y14:HV:=Ud): RU F 30 2036 B30 (e30 n ls y7 y8 y9 (.map mb) (.s pb k) (.s qb c) y13 y14 (.s ob m) (.n m) (.n i)) H .normal (e30 n ls y7 y8 y9 (.map mb) (.s pb k) (.s qb c) (.n i) (.i x) (.s ob m) (.n m) (.i (qA.wrap ((i:Int)+1)))) H :=
 hx N 60 [jT 9 0 H g0,jO 10 1 H g1,jO 10 2 H g2,jR 11 2 g3,jB 11 5 H (congrArg not (decide_eq_true g4)),jR 13 2 g5]
theorem Qqg (H:Heap) (ob m mb pb k qb c i:Nat) (x:Int) {H0:Heap} {v0:HV} (g0:(i:Int)<(m:Int)) (g1:IS 24 ob m i) (g2:LD H 3 (.ptr ob i 0 m) (.i x)) (g3:lkH Tp 72 H mb (.n i)=some (.bool true,H)) (g4:¬(x=0)) (g5:Zu H 1 8 (.s pb k) [.n i]=some (v0,H0)) (g6:lkH Tp 72 H0 mb (.n i)=some (.bool true,H0)) (y7 y8 y9 y13 y14:HV:=Ud): RU F 30 2036 B30 (e30 n ls y7 y8 y9 (.map mb) (.s pb k) (.s qb c) y13 y14 (.s ob m) (.n m) (.n i)) H .normal (e30 n ls y7 y8 y9 (.map mb) v0 (.s qb c) (.n i) (.i x) (.s ob m) (.n m) (.i (qA.wrap ((i:Int)+1)))) H0 :=
 hx N 60 [jT 9 0 H g0,jO 10 1 H g1,jO 10 2 H g2,jR 11 2 g3,jB 11 5 H (congrArg not (decide_eq_false g4)),jR 12 3 g5,jR 13 2 g6]
theorem Qqh (H:Heap) (ob m mb pb k qb c i:Nat) (x:Int) (g0:(i:Int)<(m:Int)) (g1:IS 24 ob m i) (g2:LD H 3 (.ptr ob i 0 m) (.i x)) (g3:lkH Tp 72 H mb (.n i)=some (.bool false,H)) (g4:lkH Tp 72 H mb (.n i)=some (.bool false,H)) (g5:x=0) (y7 y8 y9 y13 y14:HV:=Ud): RU F 30 2036 B30 (e30 n ls y7 y8 y9 (.map mb) (.s pb k) (.s qb c) y13 y14 (.s ob m) (.n m) (.n i)) H .normal (e30 n ls y7 y8 y9 (.map mb) (.s pb k) (.s qb c) (.n i) (.i x) (.s ob m) (.n m) (.i (qA.wrap ((i:Int)+1)))) H :=
 hx N 60 [jT 9 0 H g0,jO 10 1 H g1,jO 10 2 H g2,jR 11 2 g3,jR 13 2 g4,jB 13 6 H (congrArg not (decide_eq_true g5))]
theorem Qqi (H:Heap) (ob m mb pb k qb c i:Nat) (x:Int) {H0:Heap} {v0:HV} (g0:(i:Int)<(m:Int)) (g1:IS 24 ob m i) (g2:LD H 3 (.ptr ob i 0 m) (.i x)) (g3:lkH Tp 72 H mb (.n i)=some (.bool false,H)) (g4:lkH Tp 72 H mb (.n i)=some (.bool false,H)) (g5:¬(x=0)) (g6:Zu H 1 8 (.s qb c) [.n i]=some (v0,H0)) (y7 y8 y9 y13 y14:HV:=Ud): RU F 30 2036 B30 (e30 n ls y7 y8 y9 (.map mb) (.s pb k) (.s qb c) y13 y14 (.s ob m) (.n m) (.n i)) H .normal (e30 n ls y7 y8 y9 (.map mb) (.s pb k) v0 (.n i) (.i x) (.s ob m) (.n m) (.i (qA.wrap ((i:Int)+1)))) H0 :=
 hx N 60 [jT 9 0 H g0,jO 10 1 H g1,jO 10 2 H g2,jR 11 2 g3,jR 13 2 g4,jB 13 6 H (congrArg not (decide_eq_false g5)),jR 14 3 g6]
theorem Qqj (H:Heap) (ob m mb pb k qb c i:Nat) (x:Int) (g0:¬((i:Int)<(m:Int))) (y7 y8 y9 y13 y14:HV:=Ud): RU F 30 2036 B30 (e30 n ls y7 y8 y9 (.map mb) (.s pb k) (.s qb c) y13 y14 (.s ob m) (.n m) (.n i)) H (.exit 0) (e30 n ls y7 y8 y9 (.map mb) (.s pb k) (.s qb c) y13 y14 (.s ob m) (.n m) (.n i)) H :=
 hx N 60 [jF 9 0 H g0]
theorem Qqk (H:Heap) (pb k qb c:Nat) (y7 y8 y9 y10 y13 y14 y31 y32 y33:HV:=Ud): RU F 30 255 B30 (e30 n ls y7 y8 y9 y10 (.s pb k) (.s qb c) y13 y14 y31 y32 y33) H .ret (DF (.i n) (.g ls) (.s pb k) (.s qb c) (.i 0) y7 y8 y9 y10 (.s pb k) (.s qb c) y13 y14 y31 y32 y33) H :=
 hx N 60 []
end
section
variable {F:FuncId→Option (List HV→Option HV)}
noncomputable def B64:Code:=Try.f64.body.getD .skip
abbrev Gy (v0 v1 v2:HV):Env:=[(0,v0),(1,v1),(2,v2)]
end
section
variable {F:FuncId→Option (List HV→Option HV)}
variable (x d:Int) (sb ob m:Nat) (z:Int) (H:Heap)
include x d sb ob m z H
theorem Qql {H0:Heap} (g0:LD H 24 (.q sb) (.o ob m)) (g1:IX 24 (.o ob m) (.i x) (.ptr ob ((x).toNat) 0 m)) (g2:LD H 3 (.ptr ob ((x).toNat) 0 m) (.i z)) (g3:z<0) (g4:LD H 24 (.q sb) (.o ob m)) (g5:IX 24 (.o ob m) (.i x) (.ptr ob ((x).toNat) 0 m)) (g6:ST H 3 (.ptr ob ((x).toNat) 0 m) (.i d) H0): RU F 64 1 B64 (Gy (.i x) (.i d) (.q sb)) H .normal (Gy (.i x) (.i d) (.q sb)) H0 :=
 hx 0 60 [jO 0 0 H g0,jO 0 2 H g1,jO 0 3 H g2,jT 0 4 H g3,jO 1 0 H g4,jO 1 3 H g5,jS 1 4 g6]
theorem Qqm {H0:Heap} (g0:LD H 24 (.q sb) (.o ob m)) (g1:IX 24 (.o ob m) (.i x) (.ptr ob ((x).toNat) 0 m)) (g2:LD H 3 (.ptr ob ((x).toNat) 0 m) (.i z)) (g3:¬(z<0)) (g4:LD H 24 (.q sb) (.o ob m)) (g5:IX 24 (.o ob m) (.i x) (.ptr ob ((x).toNat) 0 m)) (g6:LD H 3 (.ptr ob ((x).toNat) 0 m) (.i z)) (g7:d<z) (g8:LD H 24 (.q sb) (.o ob m)) (g9:IX 24 (.o ob m) (.i x) (.ptr ob ((x).toNat) 0 m)) (g10:ST H 3 (.ptr ob ((x).toNat) 0 m) (.i d) H0): RU F 64 1 B64 (Gy (.i x) (.i d) (.q sb)) H .normal (Gy (.i x) (.i d) (.q sb)) H0 :=
 hx 0 60 [jO 0 0 H g0,jO 0 2 H g1,jO 0 3 H g2,jF 0 4 H g3,jO 0 7 H g4,jO 0 9 H g5,jO 0 10 H g6,jT 0 11 H g7,jO 1 0 H g8,jO 1 3 H g9,jS 1 4 g10]
theorem Qqn (g0:LD H 24 (.q sb) (.o ob m)) (g1:IX 24 (.o ob m) (.i x) (.ptr ob ((x).toNat) 0 m)) (g2:LD H 3 (.ptr ob ((x).toNat) 0 m) (.i z)) (g3:¬(z<0)) (g4:LD H 24 (.q sb) (.o ob m)) (g5:IX 24 (.o ob m) (.i x) (.ptr ob ((x).toNat) 0 m)) (g6:LD H 3 (.ptr ob ((x).toNat) 0 m) (.i z)) (g7:¬(d<z)): RU F 64 1 B64 (Gy (.i x) (.i d) (.q sb)) H .normal (Gy (.i x) (.i d) (.q sb)) H :=
 hx 0 60 [jO 0 0 H g0,jO 0 2 H g1,jO 0 3 H g2,jF 0 4 H g3,jO 0 7 H g4,jO 0 9 H g5,jO 0 10 H g6,jF 0 11 H g7]
end
section
variable {F:FuncId→Option (List HV→Option HV)}
noncomputable def B43:Code:=Try.f43.body.getD .skip
abbrev ZV (v0 v1 v2 v3 v4 v5 v6 v7 v8 v9 v10 v12 v14 v15 v29 v30 v38 v39 v40 v49 v50 v51:HV):Env:=[(0,v0),(1,v1),(2,v2),(3,v3),(4,v4),(5,v5),(6,v6),(7,v7),(8,v8),(9,v9),(10,v10),(12,v12),(14,v14),(15,v15),(29,v29),(30,v30),(38,v38),(39,v39),(40,v40),(49,v49),(50,v50),(51,v51)]
end
abbrev e43 (n:Int) (ls:List HV) (tb:Nat) (k:Nat) (u6 u7 u8 u9 u10 u11 u12 u13 u14 u15 u16 u17 u18 u19 u20 u21:HV):Env:=ZV (.N n ls) (.q 0) (.imm .lit 1 []) .nilmap (.bool false) (.s tb k) u6 u7 u8 u9 u10 u11 u12 u13 u14 u15 u16 u17 u18 u19 u20 u21
section
variable {F:FuncId→Option (List HV→Option HV)}
variable (N:Nat) (n:Int) (ls:List HV)
include N n ls
theorem Qqo:RU F 43 2 B43 [(0,.N n ls)] [] .normal (ZV (.N n ls) (.q 0) (.imm .lit 1 []) .nilmap (.bool false) Ud Ud Ud Ud Ud Ud Ud Ud Ud Ud Ud Ud Ud Ud Ud Ud Ud) [.arr 2 [.N n ls] true 0] :=
 hx N 60 []
end
section
variable {F:FuncId→Option (List HV→Option HV)}
variable (N:Nat) (n:Int) (ls:List HV)
include N n ls
theorem Qqp (H:Heap) (tb k:Nat) {H0:Heap} (g0:LD H 66 (.q 0) (.N n ls)) (g1:CM F 40 [.N n ls] H (.tuple [.s tb k,.bool true]) H0) (y5 y6 y7 y8 y9 y10 y12 y14 y15 y29 y30 y38 y39 y40 y49 y50 y51:HV:=Ud): RU F 43 6 B43 (ZV (.N n ls) (.q 0) (.imm .lit 1 []) .nilmap (.bool false) y5 y6 y7 y8 y9 y10 y12 y14 y15 y29 y30 y38 y39 y40 y49 y50 y51) H .normal (e43 n ls tb k (.bool true) y7 y8 y9 y10 y12 y14 y15 y29 y30 y38 y39 y40 y49 y50 y51) H0 :=
 hx N 60 [jO 1 0 H g0,jD 1 1 g1]
theorem Qqq (H:Heap) (tb k:Nat) {H0:Heap} (g0:LD H 66 (.q 0) (.N n ls)) (g1:CM F 40 [.N n ls] H (.tuple [.s tb k,.bool false]) H0) (y5 y6 y7 y8 y9 y10 y12 y14 y15 y29 y30 y38 y39 y40 y49 y50 y51:HV:=Ud): RU F 43 6 B43 (ZV (.N n ls) (.q 0) (.imm .lit 1 []) .nilmap (.bool false) y5 y6 y7 y8 y9 y10 y12 y14 y15 y29 y30 y38 y39 y40 y49 y50 y51) H .normal (e43 n ls tb k (.bool false) y7 y8 y9 y10 y12 y14 y15 y29 y30 y38 y39 y40 y49 y50 y51) H0 :=
 hx N 60 [jO 1 0 H g0,jD 1 1 g1]
theorem Qhy (H:Heap) (tb k:Nat) (y7 y8 y9 y10 y12 y14 y15 y29 y30 y38 y39 y40 y49 y50 y51:HV:=Ud): RU F 43 14 B43 (e43 n ls tb k (.bool true) y7 y8 y9 y10 y12 y14 y15 y29 y30 y38 y39 y40 y49 y50 y51) H .normal (e43 n ls tb k (.bool true) y7 y8 y9 y10 y12 y14 y15 y29 y30 y38 y39 y40 y49 y50 y51) H :=
 hx N 60 []
theorem Qhz (H:Heap) (tb k:Nat) (y7 y8 y9 y10 y12 y14 y15 y29 y30 y38 y39 y40 y49 y50 y51:HV:=Ud): RU F 43 14 B43 (e43 n ls tb k (.bool false) y7 y8 y9 y10 y12 y14 y15 y29 y30 y38 y39 y40 y49 y50 y51) H .ret (e43 n ls tb k (.bool false) y7 y8 y9 y10 y12 y14 y15 y29 y30 y38 y39 y40 y49 y50 y51) H :=
 hx N 60 []
theorem Qqr (H:Heap) (tb k:Nat) {a0:HV} {H0:Heap} (g0:some (HV.map H.length,H++[Blk.map [] [] 0])=some (a0,H0)) (y6 y7 y8 y9 y10 y12 y14 y15 y29 y30 y38 y39 y40 y49 y50 y51:HV:=Ud): RU F 43 30 B43 (e43 n ls tb k y6 y7 y8 y9 y10 y12 y14 y15 y29 y30 y38 y39 y40 y49 y50 y51) H .normal (e43 n ls tb k y6 a0 y8 y9 y10 y12 y14 y15 y29 y30 y38 y39 y40 y49 y50 y51) H0 :=
 hx N 60 [jR 4 0 g0]
theorem Qqs (H:Heap) (tb k mb ob m:Nat) {H0:Heap} {a0:HV} {H1:Heap} {H2:Heap} (g0:LD H 22 (.ptr 0 0 1 1) (.g ls)) (g1:V3 Tp false 24 (.i (ls.length:Int)) (.i (ls.length:Int)) H=some (.o ob m,H0)) (g2:some (HV.ptr H0.length 0 0 1,H0++[Blk.arr 1 [HV.sl (H0.length+1) 0 0 none 0 1] true (H0.length+2),Blk.b []])=some (a0,H1)) (g3:ST H1 24 (a0) (.o ob m) H2) (y6 y8 y9 y10 y12 y14 y15 y29 y30 y38 y39 y40 y49 y50 y51:HV:=Ud): RU F 43 62 B43 (e43 n ls tb k y6 (.map mb) y8 y9 y10 y12 y14 y15 y29 y30 y38 y39 y40 y49 y50 y51) H .normal (e43 n ls tb k y6 (.map mb) a0 y9 y10 y12 y14 y15 y29 y30 y38 y39 y40 y49 y50 y51) H2 :=
 hx N 60 [jO 5 1 H g0,jR 5 3 g1,jR 5 4 g2,jS 5 5 g3]
theorem Qqt (H:Heap) (tb k mb sb ob m:Nat) (g0:LD H 24 (.q sb) (.o ob m)) (y6 y9 y10 y12 y14 y15 y29 y30 y38 y39 y40 y49 y50 y51:HV:=Ud): RU F 43 252 B43 (e43 n ls tb k y6 (.map mb) (.q sb) y9 y10 y12 y14 y15 y29 y30 y38 y39 y40 y49 y50 y51) H .normal (e43 n ls tb k y6 (.map mb) (.q sb) y9 y10 y12 y14 y15 (.n m) (.i 0) y38 y39 y40 y49 y50 y51) H :=
 hx N 60 [jO 6 0 H g0]
theorem Qqu (H:Heap) (tb k mb sb ob m j:Nat) {H0:Heap} (g0:(j:Int)<(m:Int)) (g1:LD H 24 (.q sb) (.o ob m)) (g2:IO 24 ob m j) (g3:ST H 3 (.ptr ob j 0 m) (.i (-1)) H0) (y6 y9 y10 y12 y14 y15 y38 y39 y40 y49 y50 y51:HV:=Ud): RU F 43 1012 B43 (e43 n ls tb k y6 (.map mb) (.q sb) y9 y10 y12 y14 y15 (.n m) (.n j) y38 y39 y40 y49 y50 y51) H .normal (e43 n ls tb k y6 (.map mb) (.q sb) (.n j) y10 y12 y14 y15 (.n m) (.i (qA.wrap ((j:Int)+1))) y38 y39 y40 y49 y50 y51) H0 :=
 hx N 60 [jT 7 0 H g0,jO 9 0 H g1,jO 9 2 H g2,jS 9 3 g3]
theorem Qqv (H:Heap) (tb k mb sb ob m j:Nat) (g0:¬((j:Int)<(m:Int))) (y6 y9 y10 y12 y14 y15 y38 y39 y40 y49 y50 y51:HV:=Ud): RU F 43 1012 B43 (e43 n ls tb k y6 (.map mb) (.q sb) y9 y10 y12 y14 y15 (.n m) (.n j) y38 y39 y40 y49 y50 y51) H (.exit 0) (e43 n ls tb k y6 (.map mb) (.q sb) y9 y10 y12 y14 y15 (.n m) (.n j) y38 y39 y40 y49 y50 y51) H :=
 hx N 60 [jF 7 0 H g0]
theorem Qqw (H:Heap) (tb k mb sb:Nat) (y6 y9 y10 y12 y14 y15 y29 y30 y38 y39 y40 y49 y50 y51:HV:=Ud): RU F 43 254 B43 (e43 n ls tb k y6 (.map mb) (.q sb) y9 y10 y12 y14 y15 y29 y30 y38 y39 y40 y49 y50 y51) H .normal (e43 n ls tb k y6 (.map mb) (.q sb) y9 (.func 64 [] [.q sb]) y12 y14 y15 y29 y30 y38 y39 y40 y49 y50 y51) H :=
 hx N 60 []
theorem Qqx (H:Heap) (tb k mb sb:Nat) (y6 y9 y12 y14 y15 y29 y30 y38 y39 y40 y49 y50 y51:HV:=Ud): RU F 43 1020 B43 (e43 n ls tb k y6 (.map mb) (.q sb) y9 (.func 64 [] [.q sb]) y12 y14 y15 y29 y30 y38 y39 y40 y49 y50 y51) H .normal (e43 n ls tb k y6 (.map mb) (.q sb) y9 (.func 64 [] [.q sb]) y12 y14 y15 y29 y30 (.s tb k) (.n k) (.i 0) y49 y50 y51) H :=
 hx N 60 []
theorem Qqy (H:Heap) (tb k mb sb i:Nat) (g0:(i:Int)<(k:Int)) (y6 y9 y12 y14 y15 y29 y30 y49 y50 y51:HV:=Ud): RunsTo Tp (plF F) 43 (sn 8168 B43) (e43 n ls tb k y6 (.map mb) (.q sb) y9 (.func 64 [] [.q sb]) y12 y14 y15 y29 y30 (.s tb k) (.n k) (.n i) y49 y50 y51) H .normal [0,1,2,3,4,5,6,7,8,9,10,12,14,15,29,30,38,39,40,49,50,51,41] [(0,.N n ls),(1,.q 0),(2,.imm .lit 1 []),(3,.nilmap),(4,.bool false),(5,.s tb k),(6,y6),(7,.map mb),(8,.q sb),(9,y9),(10,.func 64 [] [.q sb]),(12,y12),(14,y14),(15,y15),(29,y29),(30,y30),(38,.s tb k),(39,.n k),(40,.n i),(49,y49),(50,y50),(51,y51),(41,.bool true)] H :=
 hx N 60 [jT 13 0 H g0]
theorem Qqz (H:Heap) (tb k mb sb i:Nat) (g0:¬((i:Int)<(k:Int))) (y6 y9 y12 y14 y15 y29 y30 y49 y50 y51:HV:=Ud): RunsTo Tp (plF F) 43 (sn 8168 B43) (e43 n ls tb k y6 (.map mb) (.q sb) y9 (.func 64 [] [.q sb]) y12 y14 y15 y29 y30 (.s tb k) (.n k) (.n i) y49 y50 y51) H .normal [0,1,2,3,4,5,6,7,8,9,10,12,14,15,29,30,38,39,40,49,50,51,41] [(0,.N n ls),(1,.q 0),(2,.imm .lit 1 []),(3,.nilmap),(4,.bool false),(5,.s tb k),(6,y6),(7,.map mb),(8,.q sb),(9,y9),(10,.func 64 [] [.q sb]),(12,y12),(14,y14),(15,y15),(29,y29),(30,y30),(38,.s tb k),(39,.n k),(40,.n i),(49,y49),(50,y50),(51,y51),(41,.bool false)] H :=
 hx N 60 [jF 13 0 H g0]
theorem QhA (H:Heap) (tb k mb sb i:Nat) (y6 y9 y12 y14 y15 y29 y30 y49 y50 y51:HV:=Ud): RU F 43 16338 B43 [(0,.N n ls),(1,.q 0),(2,.imm .lit 1 []),(3,.nilmap),(4,.bool false),(5,.s tb k),(6,y6),(7,.map mb),(8,.q sb),(9,y9),(10,.func 64 [] [.q sb]),(12,y12),(14,y14),(15,y15),(29,y29),(30,y30),(38,.s tb k),(39,.n k),(40,.n i),(49,y49),(50,y50),(51,y51),(41,.bool true)] H .normal (e43 n ls tb k y6 (.map mb) (.q sb) y9 (.func 64 [] [.q sb]) y12 y14 y15 y29 y30 (.s tb k) (.n k) (.n i) y49 y50 y51) H :=
 hx N 60 []
theorem QhB (H:Heap) (tb k mb sb i:Nat) (y6 y9 y12 y14 y15 y29 y30 y49 y50 y51:HV:=Ud): RU F 43 16338 B43 [(0,.N n ls),(1,.q 0),(2,.imm .lit 1 []),(3,.nilmap),(4,.bool false),(5,.s tb k),(6,y6),(7,.map mb),(8,.q sb),(9,y9),(10,.func 64 [] [.q sb]),(12,y12),(14,y14),(15,y15),(29,y29),(30,y30),(38,.s tb k),(39,.n k),(40,.n i),(49,y49),(50,y50),(51,y51),(41,.bool false)] H (.exit 2) (e43 n ls tb k y6 (.map mb) (.q sb) y9 (.func 64 [] [.q sb]) y12 y14 y15 y29 y30 (.s tb k) (.n k) (.n i) y49 y50 y51) H :=
 hx N 60 []
theorem QqA (H:Heap) (tb k mb sb i:Nat) (x:Int) (g0:IS 24 tb k i) (g1:LD H 3 (.ptr tb i 0 k) (.i x)) (y6 y9 y12 y14 y15 y29 y30 y49 y50 y51:HV:=Ud): RU F 43 130712 B43 (e43 n ls tb k y6 (.map mb) (.q sb) y9 (.func 64 [] [.q sb]) y12 y14 y15 y29 y30 (.s tb k) (.n k) (.n i) y49 y50 y51) H .normal (e43 n ls tb k y6 (.map mb) (.q sb) y9 (.func 64 [] [.q sb]) (.i x) y14 y15 y29 y30 (.s tb k) (.n k) (.n i) y49 y50 y51) H :=
 hx N 60 [jO 14 0 H g0,jO 14 1 H g1]
theorem QqB (H:Heap) (tb k mb sb i:Nat) (x:Int) {H0:Heap} (g0:GF Tp false 72 (.map mb) (.i x) (.bool true) H=some H0) (y6 y9 y14 y15 y29 y30 y49 y50 y51:HV:=Ud): RU F 43 261426 B43 (e43 n ls tb k y6 (.map mb) (.q sb) y9 (.func 64 [] [.q sb]) (.i x) y14 y15 y29 y30 (.s tb k) (.n k) (.n i) y49 y50 y51) H .normal (e43 n ls tb k y6 (.map mb) (.q sb) y9 (.func 64 [] [.q sb]) (.i x) y14 y15 y29 y30 (.s tb k) (.n k) (.n i) y49 y50 y51) H0 :=
 hx N 60 [jS 15 2 g0]
theorem QqC (H:Heap) (tb k mb sb i ib c:Nat) (x:Int) {H0:Heap} (g0:LD H 66 (.q 0) (.N n ls)) (g1:CM F 59 [.N n ls,.s tb k,.i x] H (.s ib c) H0) (y6 y9 y14 y15 y29 y30 y49 y50 y51:HV:=Ud): RU F 43 522854 B43 (e43 n ls tb k y6 (.map mb) (.q sb) y9 (.func 64 [] [.q sb]) (.i x) y14 y15 y29 y30 (.s tb k) (.n k) (.n i) y49 y50 y51) H .normal (e43 n ls tb k y6 (.map mb) (.q sb) y9 (.func 64 [] [.q sb]) (.i x) y14 y15 y29 y30 (.s tb k) (.n k) (.n i) (.s ib c) (.n c) (.i 0)) H0 :=
 hx N 60 [jO 16 0 H g0,jD 16 3 g1]
theorem QqD (H:Heap) (tb k mb sb i ib c j:Nat) (x y a b w a2 b2 w2:Int) {H0:Heap} {H1:Heap} (g0:(j:Int)<(c:Int)) (g1:IS 24 ib c j) (g2:LD H 3 (.ptr ib j 0 c) (.i y)) (g3:LD H 22 (.ptr 0 0 1 1) (.g ls)) (g4:IX 22 (.g ls) (.i y) (.vptr (.agg [.i a,.i b,.i w]))) (g5:LD H 22 (.ptr 0 0 1 1) (.g ls)) (g6:IX 22 (.g ls) (.i x) (.vptr (.agg [.i a2,.i b2,.i w2]))) (g7:CN F N 64 [.i x,.i (qA.wrap (w-w2)),.q sb] H (.tuple []) H0) (g8:CN F N 64 [.i y,.i (qA.wrap (w-w2)),.q sb] H0 (.tuple []) H1) (y6 y9 y14 y15 y29 y30:HV:=Ud): RU F 43 2091420 B43 (e43 n ls tb k y6 (.map mb) (.q sb) y9 (.func 64 [] [.q sb]) (.i x) y14 y15 y29 y30 (.s tb k) (.n k) (.n i) (.s ib c) (.n c) (.n j)) H .normal (e43 n ls tb k y6 (.map mb) (.q sb) y9 (.func 64 [] [.q sb]) (.i x) (.i y) (.i (qA.wrap (w-w2))) y29 y30 (.s tb k) (.n k) (.n i) (.s ib c) (.n c) (.i (qA.wrap ((j:Int)+1)))) H1 :=
 hx N 60 [jT 17 0 H g0,jO 18 0 H g1,jO 18 1 H g2,jO 19 1 H g3,jO 19 3 H g4,jO 19 7 H g5,jO 19 9 H g6,jC 20 3 g7,jC 21 3 g8]
theorem QqE (H:Heap) (tb k mb sb i ib c j:Nat) (x y a b w a2 b2 w2:Int) (g0:¬((j:Int)<(c:Int))) (y6 y9 y14 y15 y29 y30:HV:=Ud): RU F 43 2091420 B43 (e43 n ls tb k y6 (.map mb) (.q sb) y9 (.func 64 [] [.q sb]) (.i x) y14 y15 y29 y30 (.s tb k) (.n k) (.n i) (.s ib c) (.n c) (.n j)) H (.exit 4) (e43 n ls tb k y6 (.map mb) (.q sb) y9 (.func 64 [] [.q sb]) (.i x) y14 y15 y29 y30 (.s tb k) (.n k) (.n i) (.s ib c) (.n c) (.n j)) H :=
 hx N 60 [jF 17 0 H g0]
theorem QqF (H:Heap) (tb k mb sb i:Nat) (y6 y9 y12 y14 y15 y29 y30 y49 y50 y51:HV:=Ud): RU F 43 32679 B43 (e43 n ls tb k y6 (.map mb) (.q sb) y9 (.func 64 [] [.q sb]) y12 y14 y15 y29 y30 (.s tb k) (.n k) (.n i) y49 y50 y51) H .normal (e43 n ls tb k y6 (.map mb) (.q sb) y9 (.func 64 [] [.q sb]) y12 y14 y15 y29 y30 (.s tb k) (.n k) (.i (qA.wrap ((i:Int)+1))) y49 y50 y51) H :=
 hx N 60 []
theorem QqG (H:Heap) (tb k mb sb ob m:Nat) (g0:LD H 24 (.q sb) (.o ob m)) (y6 y9 y12 y14 y15 y29 y30 y38 y39 y40 y49 y50 y51:HV:=Ud): RU F 43 511 B43 (e43 n ls tb k y6 (.map mb) (.q sb) y9 (.func 64 [] [.q sb]) y12 y14 y15 y29 y30 y38 y39 y40 y49 y50 y51) H .ret (ZV (.N n ls) (.q 0) (.o ob m) (.map mb) (.bool true) (.s tb k) y6 (.map mb) (.q sb) y9 (.func 64 [] [.q sb]) y12 y14 y15 y29 y30 y38 y39 y40 y49 y50 y51) H :=
 hx N 60 [jO 24 0 H g0]
end
end Go.Proofs.Ytiejmoglooaalaa
end
section
open Go Go.HL
namespace Go.Proofs.Ytiejmoglooaalaa
set_option linter.unusedSectionVars false
open Go.Proofs.Try renaming prog → Tp
open Go.HL.HV renaming undef → Ud
def lwT (O:List Int) (k d:Int):List Int:=if O.getD k.toNat 0<0∨d<O.getD k.toNat 0 then O.set k.toNat d else O
theorem Cs (O:List Int) (k d:Int):(lwT O k d).length=O.length:=by unfold lwT;split <;> simp
theorem u72:Tp.underlying 72=some (.map 3 4):=by kernel_rfl
theorem QhC (x:Int):K7 Tp 3 (.int .i64 x)=true:=by kernel_rfl
theorem JT (x:Int):∀(ks:List Int) (i:Nat),x∉ks→Wi (.int .i64 x) (ks.map Qc) i=some none
 | [],_,_=>rfl
 | y::ks,i,h=>by
  have h1:x≠y:=fun c=>h (c▸qS ..)
  simp only [qK,Wi,Qc,WB,Ja,if_true,decide_eq_false h1]
  exact JT x ks (i+1) fun c=>h (qT _ c)
section
variable {F:FuncId→Option (List HV→Option HV)}
theorem QbT (h64:F 64=none) {H:Heap} {sb ob m mx:Nat} {O:List Int} (hs:H[sb]?=some (.arr 1 [.sl ob 0 m (some m) m 1] true mx)) (ho:H[ob]?=some (bI O)) (hm:O.length=m) {k:Int} (hk:0≤k∧k<(m:Int)) (d:Int):ClF F 64 [.int .i64 k,.int .i64 d,.ptr sb 0 0 1] H (.tuple []) (H.set ob (bI (lwT O k d))):=by
 have hr:Try.f64.results.toList=[]:=by kernel_rfl
 have l0:QH Tp H 24 (.ptr sb 0 0 1)=some (.sl ob 0 m (some m) m 1):=WE (b:=sb) hs rfl rfl rfl a24 i24
 have ix:=QrZ (b:=ob) (n:=m) (v:=k) hk (cap:=some m)
 have ld:=Q3 ho (y:=k.toNat) (by omega)
 have st:=Zl ho (y:=k.toNat) (by omega) d
 rw [hm] at ld st
 by_cases c1:O.getD k.toNat 0<0
 ·have h:=CallsTo.shared (P:=Tp) (pol:=plF F) (g:=64) (fn:=Try.f64) (cd:=B64) (args:=[.int .i64 k,.int .i64 d,.ptr sb 0 0 1]) (v:=.tuple []) h64 (by kernel_rfl) (by kernel_rfl) (by kernel_rfl) (Qql (F:=F) k d sb ob m _ H l0 ix ld c1 l0 ix st) (by kernel_rfl) (by simp) (by simp only [Qf,hr];rfl)
  rw [QI _ (by simp)] at h
  rw [lwT,if_pos (.inl c1)];exact h
 by_cases c2:d<O.getD k.toNat 0
 ·have h:=CallsTo.shared (P:=Tp) (pol:=plF F) (g:=64) (fn:=Try.f64) (cd:=B64) (args:=[.int .i64 k,.int .i64 d,.ptr sb 0 0 1]) (v:=.tuple []) h64 (by kernel_rfl) (by kernel_rfl) (by kernel_rfl) (Qqm (F:=F) k d sb ob m _ H l0 ix ld c1 l0 ix ld c2 l0 ix st) (by kernel_rfl) (by simp) (by simp only [Qf,hr];rfl)
  rw [QI _ (by simp)] at h
  rw [lwT,if_pos (.inr c2)];exact h
 ·have h:=CallsTo.shared (P:=Tp) (pol:=plF F) (g:=64) (fn:=Try.f64) (cd:=B64) (args:=[.int .i64 k,.int .i64 d,.ptr sb 0 0 1]) (v:=.tuple []) h64 (by kernel_rfl) (by kernel_rfl) (by kernel_rfl) (Qqn (F:=F) k d sb ob m _ H l0 ix ld c1 l0 ix ld c2) (by kernel_rfl) (by simp) (by simp only [Qf,hr];rfl)
  rw [QI _ rfl] at h
  rw [lwT,if_neg (fun h=>h.elim c1 c2),Ss ho];exact h
end
def inS (l:List St) (x:Int) (O:List Int) (y:Int):List Int:=lwT (lwT O x (wOf l y-wOf l x)) y (wOf l y-wOf l x)
theorem Ct (l:List St) (x:Int) (O:List Int) (y:Int):(inS l x O y).length=O.length:=by rw [inS,Cs,Cs]
def inF (l:List St) (x:Int) (O ys:List Int):List Int:=ys.foldl (inS l x) O
theorem Yd (l:List St) (x:Int):∀(ys O:List Int),(inF l x O ys).length=O.length
 | [],_=>rfl
 | y::ys,O=>by rw [inF,List.foldl_cons];exact (Yd l x ys _).trans (Ct ..)
theorem Qfe (l:List St) (x:Int) (O ys:List Int) {j:Nat} (h:j<ys.length):inF l x O (ys.take (j+1))=inS l x (inF l x O (ys.take j)) (ys.getD j 0):=by
 rw [inF,WF h,List.foldl_append];rfl
def ouF (l:List St) (t O ks:List Int):List Int:=ks.foldl (fun O k=>inF l k O (QZ l t k l.length)) O
theorem Cu (l:List St) (t:List Int):∀(ks O:List Int),(ouF l t O ks).length=O.length
 | [],_=>rfl
 | k::ks,O=>by rw [ouF,List.foldl_cons];exact (Cu l t ks _).trans (Yd ..)
theorem Qff (l:List St) (t O ks:List Int) {j:Nat} (h:j<ks.length):ouF l t O (ks.take (j+1))=inF l (ks.getD j 0) (ouF l t O (ks.take j)) (QZ l t (ks.getD j 0) l.length):=by
 rw [ouF,WF h,List.foldl_append];rfl
def slT (l:List St):List Int:=ouF l (Qd l) (qC l.length (-1)) (Qd l)
def bM (M:List Int):Blk:=.map (M.map Qc) (M.map fun _=>HV.bool true) 0
abbrev bL (m:Nat):Blk:=.arr 1 [.sl 3 0 m (some m) m 1] true 6
abbrev hS (n:Int) (l:List St) (T M O:List Int):Heap:=[bN n l,bI T,bM M,bI O,bL l.length,bI []]
def QbU:List HV→Option HV:=f1 kN fun p=>if WC p.1 p.2=true then some (if Wk p.1 p.2=true then .tuple [.own 1 ((slT p.2).map Qc),.omap ((Qd p.2).map Qc) ((Qd p.2).map fun _=>HV.bool true),.bool true] else .tuple [.own 1 [],.nilmap,.bool false]) else none
theorem Qiu:Try.f43.results.toList=[.tmp 2,.tmp 3,.tmp 4]:=by kernel_rfl
def Za:FuncId→Option (List HV→Option HV):=fun g=>if g==40 then some Dd else if g==59 then some Gj else none
theorem QhD (n:Nat):Qo Tp (Qb Tp (plF Za) n):=QF _ (fun g f h=>by
 unfold Za at h
 split at h
 ·rename_i hg;cases h;rw [eq_of_beq hg];exact Ub
 split at h
 ·rename_i hg;cases h;rw [eq_of_beq hg];exact QaJ
 ·cases h) n
theorem QaT (l:List St):(Qd l).Nodup:=by
 have:=JO l (Qh l) (Qh l).length (qF _)
 rw [zD] at this
 exact this.nodup (KP l)
theorem QaU {l:List Int} (h:l.Nodup) {i:Nat} (hi:i<l.length):l.getD i 0∉l.take i:=by
 intro c
 have h2:(l.take (i+1)).Nodup:=(List.take_sublist _ _).nodup h
 rw [WF hi] at h2
 exact (List.nodup_append.1 h2).2.2 _ c _ (List.mem_singleton_self _) rfl
theorem Qfg {n:Int} {l:List St} (hnet:WC n l=true) {T O:List Int} (hT:T=Qd l) (hO:O.length=l.length) {i:Nat} (hi:i<T.length) :
  ∃E0 H1,RT (plF Za) 43 (sn 4084 B43) ((ZV (Qx n l) (.q 0) (.imm .lit 1 []) .nilmap (.bool false) (.s 1 T.length) Ud (.map 2) (.q 4) Ud (.func 64 [] [.q 4]) Ud Ud Ud Ud Ud (.s 1 T.length) (.i (T.length:Int)) (.i (i:Int)) Ud Ud Ud)) (hS n l T (T.take i) O) .normal E0 H1∧QP (plF Za) 43 (sn 4084 B43) E0=(ZV (Qx n l) (.q 0) (.imm .lit 1 []) .nilmap (.bool false) (.s 1 T.length) Ud (.map 2) (.q 4) Ud (.func 64 [] [.q 4]) Ud Ud Ud Ud Ud (.s 1 T.length) (.i (T.length:Int)) (.i ((i+1:Nat):Int)) Ud Ud Ud)∧gc 6 (WY ((ZV (Qx n l) (.q 0) (.imm .lit 1 []) .nilmap (.bool false) (.s 1 T.length) Ud (.map 2) (.q 4) Ud (.func 64 [] [.q 4]) Ud Ud Ud Ud Ud (.s 1 T.length) (.i (T.length:Int)) (.i ((i+1:Nat):Int)) Ud Ud Ud))) H1=hS n l T (T.take (i+1)) (inF l (T.getD i 0) O (QZ l T (T.getD i 0) l.length)):=by
 obtain ⟨⟨n1,n2⟩,n3,he,hw⟩:=QT hnet
 have heB:=XB he (by omega)
 have hTin:∀x∈T,0≤x∧x<(l.length:Int):=fun x hx=>ZA (by rw [← hT];exact hx)
 have hTn:T.Nodup:=by rw [hT];exact QaT l
 have hTl:T.length≤l.length:=by rw [hT,← Qes];exact Qng l
 have hx:=hTin _ (Qw 0 hi)
 have hwt:∀k:Int,0≤k∧k<(l.length:Int)→0≤wOf l k∧wOf l k≤1000:=fun k hk=>hw _ (Qw _ (by omega))
 have s1:=Qqy (F:=Za) 0 n (l.map Qa) (hS n l T (T.take i) O) 1 T.length 2 4 i (by omega)
 have s2:=QhA (F:=Za) 0 n (l.map Qa) (hS n l T (T.take i) O) 1 T.length 2 4 i
 have s3:=QqA (F:=Za) 0 n (l.map Qa) (hS n l T (T.take i) O) 1 T.length 2 4 i (T.getD i 0) (JM u24 z3 hi) (Q3 (H:=hS n l T (T.take i) O) (k:=1) rfl hi)
 have s4u:GF Tp false 72 (.map 2) (.int .i64 (T.getD i 0)) (.bool true) (hS n l T (T.take i) O)=some (hS n l T (T.take (i+1)) O):=by
  have hk:=QhC (T.getD i 0)
  have hf:=JT (T.getD i 0) (T.take i) 0 (QaU hTn hi)
  have hg:(hS n l T (T.take i) O)[2]?=some (.map ((T.take i).map Qc) ((T.take i).map fun _=>HV.bool true) 0):=rfl
  have ha:(WQ (cellsOf (HV.int .i64 (T.getD i 0))) (cellsOf (HV.int .i64 (T.getD i 0)))).isSome=true:=rfl
  simp only [GF,u72,hk,if_true,qX,if_false,hg,hf,ha]
  rw [WF hi]
  simp only [hS,bM,qW]
  rfl
 have s4:=QqB (F:=Za) 0 n (l.map Qa) (hS n l T (T.take i) O) 1 T.length 2 4 i (T.getD i 0) s4u
 have c59:=at3 (pol':=plF Za) (g:=59) (c1:=kN) (c2:=kL) (c3:=kI) (f:=fun p t o=>if (Jk p.2=true∧p.2.length≤500)∧inR p.2.length t=true∧t≠[]∧t.length≤500 then some (.own 1 ((QZ p.2 t o p.2.length).map Qc)) else none) (H:=hS n l T (T.take (i+1)) O) (by kernel_rfl) (ShN _ n l) (Xu (b:=1) (l:=T) rfl rfl) (ShI _ (T.getD i 0)) (if_pos ⟨⟨heB,by show l.length≤500;omega⟩,inR_iff.2 hTin,fun h=>by rw [h] at hi;simp at hi,by omega⟩)
 rw [ZY] at c59
 have s5:=QqC (F:=Za) 0 n (l.map Qa) (hS n l T (T.take (i+1)) O) 1 T.length 2 4 i 6 (QZ l T (T.getD i 0) l.length).length (T.getD i 0) (Vs rfl) c59
 have hYin:∀y∈QZ l T (T.getD i 0) l.length,0≤y∧y<(l.length:Int):=fun y hy=>startT_mem.1 (List.mem_filter.1 hy).1
 have hYl:=QbF l T (T.getD i 0) l.length
 generalize QZ l T (T.getD i 0) l.length=Y at *
 have hfl:∀j,(inF l (T.getD i 0) O (Y.take j)).length=l.length:=fun j=>(Yd ..).trans hO
 have r:=Wu (pol':=plF Za) (f:=43) (E:=fun j=>(ZV (Qx n l) (.q 0) (.imm .lit 1 []) .nilmap (.bool false) (.s 1 T.length) Ud (.map 2) (.q 4) Ud (.func 64 [] [.q 4]) (.i (T.getD i 0)) Ud Ud Ud Ud (.s 1 T.length) (.i (T.length:Int)) (.i (i:Int)) (.s 6 Y.length) (.i (Y.length:Int)) (.i (j:Int)))) (Hs:=fun j=>hS n l T (T.take (i+1)) (inF l (T.getD i 0) O (Y.take j))++[bI Y]) Y.length
  (E0:=fun j=>(ZV (Qx n l) (.q 0) (.imm .lit 1 []) .nilmap (.bool false) (.s 1 T.length) Ud (.map 2) (.q 4) Ud (.func 64 [] [.q 4]) (.i (T.getD i 0)) (.i (Y.getD j 0)) (.i (wOf l (Y.getD j 0)-wOf l (T.getD i 0))) Ud Ud (.s 1 T.length) (.i (T.length:Int)) (.i (i:Int)) (.s 6 Y.length) (.i (Y.length:Int)) (.i ((j+1:Nat):Int)))) (H1:=fun j=>hS n l T (T.take (i+1)) (inF l (T.getD i 0) O (Y.take (j+1)))++[bI Y])
  (fun j hj=>by
   have hy:=hYin _ (Qw 0 hj)
   have w1:=hwt _ hx
   have w2:=hwt _ hy
   have gy:=gs (l:=l) (y:=(Y.getD j 0).toNat) (by omega)
   have gxx:=gs (l:=l) (y:=(T.getD i 0).toNat) (by omega)
   rw [show (((Y.getD j 0).toNat:Nat):Int)=Y.getD j 0 by omega] at gy
   rw [show (((T.getD i 0).toNat:Nat):Int)=T.getD i 0 by omega] at gxx
   have hsucc:=Qfe l (T.getD i 0) O Y hj
   have hOl:=hfl j
   generalize inF l (T.getD i 0) O (Y.take j)=Oj at *
   have hwr:qA.wrap ((l.getD (Y.getD j 0).toNat (0,0,0)).2.2-(l.getD (T.getD i 0).toNat (0,0,0)).2.2)=wOf l (Y.getD j 0)-wOf l (T.getD i 0):=Qs (by show _≤wOf l (Y.getD j 0)-wOf l (T.getD i 0);omega) (by show wOf l (Y.getD j 0)-wOf l (T.getD i 0)<_;omega)
   obtain ⟨N1,k1⟩:=CallsTo.from (QbT (F:=Za) (by kernel_rfl) (H:=hS n l T (T.take (i+1)) Oj++[bI Y]) (sb:=4) (ob:=3) (mx:=6) rfl rfl hOl hx (wOf l (Y.getD j 0)-wOf l (T.getD i 0)))
   obtain ⟨N2,k2⟩:=CallsTo.from (QbT (F:=Za) (by kernel_rfl) (H:=hS n l T (T.take (i+1)) (lwT Oj (T.getD i 0) (wOf l (Y.getD j 0)-wOf l (T.getD i 0)))++[bI Y]) (sb:=4) (ob:=3) (mx:=6) rfl rfl (by rw [Cs];exact hOl) hy (wOf l (Y.getD j 0)-wOf l (T.getD i 0)))
   have s:=QqD (F:=Za) (max N1 N2) n (l.map Qa) (hS n l T (T.take (i+1)) Oj++[bI Y]) 1 T.length 2 4 i 6 Y.length j (T.getD i 0) (Y.getD j 0) _ _ _ _ _ _ (by omega) (JM u24 z3 hj) (Q3 (H:=hS n l T (T.take (i+1)) Oj++[bI Y]) (k:=6) rfl hj) (Jj (xb:=0) rfl) gy (Jj (xb:=0) rfl) gxx (fun kf hk=>by rw [hwr];exact k1 kf (by omega)) (fun kf hk=>by rw [hwr];exact k2 kf (by omega))
   rw [hwr,Qj (by omega)] at s
   rw [hsucc]
   exact s) (fun j _=>by kernel_rfl) (fun j _=>QI _ rfl) (QqE (F:=Za) 0 n (l.map Qa) (hS n l T (T.take (i+1)) (inF l (T.getD i 0) O (Y.take Y.length))++[bI Y]) 1 T.length 2 4 i 6 Y.length Y.length (T.getD i 0) 0 0 0 0 0 0 0 (by omega)) (by simp) (c:=sn 1045710 B43) (by kernel_rfl) (fun j _=>by kernel_rfl)
 rw [zD] at r
 have s7:=QqF (F:=Za) 0 n (l.map Qa) (hS n l T (T.take (i+1)) (inF l (T.getD i 0) O Y)++[bI Y]) 1 T.length 2 4 i (y12:=.i (T.getD i 0)) (y49:=.s 6 Y.length) (y50:=.i (Y.length:Int)) (y51:=.i (Y.length:Int))
 rw [Qj (by omega)] at s7
 refine ⟨_,_,sq (s1) (sq (s2) (sq (RunsTo.block_normal (i:=3) (c:=sn 32678 B43) (sq (s3) (sq (s4) (sq (s5) (bke (c:=sn 522855 B43) (r)) (c:=sn 261427 B43)) (c:=sn 130713 B43)) (c:=sn 65356 B43)) (by kernel_rfl)) (s7) (c:=sn 16339 B43)) (c:=sn 8169 B43)) (c:=sn 4084 B43),by kernel_rfl,?_⟩
 have hb:WY ((ZV (Qx n l) (.q 0) (.imm .lit 1 []) .nilmap (.bool false) (.s 1 T.length) Ud (.map 2) (.q 4) Ud (.func 64 [] [.q 4]) Ud Ud Ud Ud Ud (.s 1 T.length) (.i (T.length:Int)) (.i ((i+1:Nat):Int)) Ud Ud Ud))=5:=by simp only [WY,bnd,bndL,Qx];rfl
 rw [hb]
 exact KN (H:=hS n l T (T.take (i+1)) (inF l (T.getD i 0) O Y)) (by show max 0 (max 0 (max 0 (max 0 (max 6 (max 0 (max 0 0))))))≤6;decide) (by show 5≤6;decide)
theorem QaV (H:Heap):Wv H false (.tuple [.imm .lit 1 [],.nilmap,.bool false])=some (.tuple [.own 1 [],.nilmap,.bool false]):=by
 simp [Wv,QD,cellsOf,W5,WP,Wd,mapO];rfl
def K3 (m j:Nat):List Int:=qC j (-1)++qC (m-j) 0
theorem QhE {m j:Nat} (h:j≤m):(K3 m j).length=m:=by rw [K3,qD,zZ,zZ];omega
theorem QhF {m j:Nat} (h:j<m):(K3 m j).set j (-1)=K3 m (j+1):=by
 rw [K3,List.set_append_right _ _ (by simp),zZ,Nat.sub_self,K3,show m-j=(m-(j+1))+1 by omega,List.replicate_succ (n:=m-(j+1)),List.set_cons_zero,List.replicate_succ',List.append_assoc];rfl
theorem QhG {n:Int} {l:List St} {T O:List Int} (hO:O.length=l.length):Wv (hS n l T T O) false (.tuple [.sl 3 0 l.length (some l.length) l.length 1,.map 2,.bool true])=some (.tuple [.own 1 (O.map Qc),.omap (T.map Qc) (T.map fun _=>HV.bool true),.bool true]):=by
 have hr:=W0 (H:=hS n l T T O) (no:=[3,2]) (b:=3) (k:=1) (m:=l.length) (cap:=some l.length) (els:=O.map Qc) rfl (by simpa using hO) (Wj (fun r=>Z7 4 r) _)
 have hks:mapO (frz (hS n l T T O) [3,2] 4) (T.map Qc)=some (T.map Qc):=Wj (fun r=>Z7 4 r) _
 have hvs:∀l2:List Int,mapO (frz (hS n l T T O) [3,2] 4) (l2.map fun _=>HV.bool true)=some (l2.map fun _=>HV.bool true):=by
  intro l2
  induction l2 with
  | nil=>rfl
  | cons y l2 ih=>simp only [qK,mapO,ih];rfl
 have hm:Wd (hS n l T T O) [3,2] false (.map 2)=some (.omap (T.map Qc) (T.map fun _=>HV.bool true)):=by
  have hg:(hS n l T T O)[2]?=some (.map (T.map Qc) (T.map fun _=>HV.bool true) 0):=rfl
  simp only [Wd,hg,hks,hvs T]
 have ho:QD (hS n l T T O) false (.tuple [.sl 3 0 l.length (some l.length) l.length 1,.map 2,.bool true])=[3,2]:=rfl
 simp only [Wv,ho,List.nodup_cons,List.mem_singleton,List.not_mem_nil,not_false_eq_true,List.nodup_nil,and_self,and_true,if_true,WP,mapO,hr,hm]
 rfl
theorem Qfh:QV Tp 43 QbU:=by
 refine Qt (pol:=plF Za) (fn:=Try.f43) (cd:=B43) Qk QhD (by kernel_rfl) (by kernel_rfl) (ZJ Za _ _ (by kernel_rfl)) (by kernel_rfl) ?_
 intro args res h
 obtain ⟨⟨n,l⟩,rfl,hq⟩:=Xs h
 simp only at hq
 split at hq
 case isFalse=>cases hq
 rename_i hnet
 cases hq
 obtain ⟨⟨n1,n2⟩,n3,he,hw⟩:=QT hnet
 have heB:=XB he (by omega)
 have a:=Qqo (F:=Za) 0 n (l.map Qa)
 have c40:=at1 (pol':=plF Za) (g:=40) (c1:=kN) (f:=fun p=>if SB p.1 p.2 then some (.tuple [.own 1 ((Qd p.2).map Qc),.bool (Wk p.1 p.2)]) else none) (H:=[bN n l]) (by kernel_rfl) (ShN _ n l) (if_pos ⟨heB,by show l.length≤900;omega,by show 0≤n;omega,by show n≤1000;omega⟩)
 rw [G4] at c40
 simp only at c40
 by_cases cn:Wk n l=true
 case neg =>
  rw [U1 cn] at c40
  have b:=Qqq (F:=Za) 0 n (l.map Qa) [bN n l] 1 (Qd l).length (Vs rfl) c40
  have c:=Qhz (F:=Za) 0 n (l.map Qa) [bN n l,bI (Qd l)] 1 (Qd l).length
  refine ⟨_,_,_,.tuple [.imm .lit 1 [],.nilmap,.bool false],sq (a) (sq (b) (sqo (c) (c:=sn 7 B43) (b:=sn 15 B43)) (c:=sn 3 B43)) (c:=B43),by simp,by simp only [Qf,Qiu];rfl,?_⟩
  rw [if_neg cn]
  exact QaV _
 rw [cn] at c40
 rw [if_pos cn]
 have b:=Qqp (F:=Za) 0 n (l.map Qa) [bN n l] 1 (Qd l).length (Vs rfl) c40
 have c:=Qhy (F:=Za) 0 n (l.map Qa) [bN n l,bI (Qd l)] 1 (Qd l).length
 have d:=Qqr (F:=Za) 0 n (l.map Qa) [bN n l,bI (Qd l)] 1 (Qd l).length (y6:=.bool true) rfl
 have mk:=Vm (P:=Tp) (H:=[bN n l,bI (Qd l),bM []]) (t:=24) (e:=3) (k:=1) (bt:=8) (zv:=.int .i64 0) (n:=(l.length:Int)) u24 (by kernel_rfl) (by simp [cellsOf,Qn]) (by simp [cellsOf]) (by omega) (by omega) (by simp only [WZ];omega)
 rw [jY] at mk
 have erep:qC l.length (HV.int .i64 0)=(K3 l.length 0).map Qc:=by simp [K3,Qc]
 rw [erep] at mk
 have e:=Qqs (F:=Za) 0 n (l.map Qa) [bN n l,bI (Qd l),bM []] 1 (Qd l).length 2 3 l.length (y6:=.bool true) (H2:=hS n l (Qd l) [] (K3 l.length 0)) (Jj (xb:=0) rfl) (by rw [qG];exact mk) rfl (by show Q0 _ _ _ _ _=_;kernel_rfl)
 have hsl:∀T M O,QH Tp (hS n l T M O) 24 (.ptr 4 0 0 1)=some (.sl 3 0 l.length (some l.length) l.length 1):=fun T M O=>WE (b:=4) (H:=hS n l T M O) rfl rfl rfl rfl a24 i24
 have f:=Qqt (F:=Za) 0 n (l.map Qa) (hS n l (Qd l) [] (K3 l.length 0)) 1 (Qd l).length 2 4 3 l.length (y6:=.bool true) (hsl _ _ _)
 have hTe:ouF l (Qd l) (qC l.length (-1)) (Qd l)=slT l:=rfl
 have hout:=@Qfg n l hnet (Qd l)
 generalize hT:Qd l=T at *
 have r1:=Wu (pol':=plF Za) (f:=43) (E:=fun i=>(ZV (Qx n l) (.q 0) (.imm .lit 1 []) .nilmap (.bool false) (.s 1 T.length) Ud (.map 2) (.q 4) Ud Ud Ud Ud Ud (.i (l.length:Int)) (.i (i:Int)) Ud Ud Ud Ud Ud Ud)) (Hs:=fun i=>hS n l T [] (K3 l.length i)) l.length (E0:=fun i=>(ZV (Qx n l) (.q 0) (.imm .lit 1 []) .nilmap (.bool false) (.s 1 T.length) Ud (.map 2) (.q 4) (.i (i:Int)) Ud Ud Ud Ud (.i (l.length:Int)) (.i ((i+1:Nat):Int)) Ud Ud Ud Ud Ud Ud)) (H1:=fun i=>hS n l T [] (K3 l.length (i+1)))
  (fun i hi=>by
   have hil:=QhE (m:=l.length) (j:=i) (by omega)
   have st:=Zl (H:=hS n l T [] (K3 l.length i)) (k:=3) (o:=K3 l.length i) rfl (y:=i) (by omega) (-1)
   rw [hil,QhF hi] at st
   have s:=Qqu (F:=Za) 0 n (l.map Qa) (hS n l T [] (K3 l.length i)) 1 T.length 2 4 3 l.length i (by omega) (hsl _ _ _) (JM u24 z3 hi) st
   rw [Qj (by omega)] at s
   exact s) (fun i _=>by kernel_rfl) (fun i _=>QI _ rfl) (Qqv (F:=Za) 0 n (l.map Qa) (hS n l T [] (K3 l.length l.length)) 1 T.length 2 4 3 l.length l.length (by omega)) (by simp) (c:=sn 506 B43) (by kernel_rfl) (fun i _=>by kernel_rfl)
 have eini:K3 l.length l.length=qC l.length (-1):=by rw [K3,Nat.sub_self,List.replicate_zero,qR]
 rw [eini] at r1
 have hh:=Qqw (F:=Za) 0 n (l.map Qa) (hS n l T [] (qC l.length (-1))) 1 T.length 2 4 (y29:=.i (l.length:Int)) (y30:=.i (l.length:Int))
 have ii:=Qqx (F:=Za) 0 n (l.map Qa) (hS n l T [] (qC l.length (-1))) 1 T.length 2 4 (y29:=.i (l.length:Int)) (y30:=.i (l.length:Int))
 have hol:∀i,(ouF l T (qC l.length (-1)) (T.take i)).length=l.length:=fun i=>(Cu ..).trans (by simp)
 obtain ⟨x,E',H',r2,rfl,rfl,rfl⟩:=KK (pol':=plF Za) (f:=43) (b:=sn 4084 B43) (c:=sn 2042 B43) (I:=fun i e H=>e=(ZV (Qx n l) (.q 0) (.imm .lit 1 []) .nilmap (.bool false) (.s 1 T.length) Ud (.map 2) (.q 4) Ud (.func 64 [] [.q 4]) Ud Ud Ud Ud Ud (.s 1 T.length) (.i (T.length:Int)) (.i (i:Int)) Ud Ud Ud)∧H=hS n l T (T.take i) (ouF l T (qC l.length (-1)) (T.take i)))
  (Q:=fun x E' H'=>x=.exit 2∧E'=(ZV (Qx n l) (.q 0) (.imm .lit 1 []) .nilmap (.bool false) (.s 1 T.length) Ud (.map 2) (.q 4) Ud (.func 64 [] [.q 4]) Ud Ud Ud Ud Ud (.s 1 T.length) (.i (T.length:Int)) (.i ((T.length:Nat):Int)) Ud Ud Ud)∧H'=hS n l T T (ouF l T (qC l.length (-1)) T)) T.length
  (by
   rintro i hi e H ⟨rfl,rfl⟩
   obtain ⟨E0,H1,s,q1,q2⟩:=hout (O:=ouF l T (qC l.length (-1)) (T.take i)) rfl (hol i) hi
   refine ⟨E0,H1,s,q1,?_⟩
   rw [q1]
   show gc 6 _ H1=_
   rw [q2,Qff l T _ T hi])
  (by
   rintro e H ⟨rfl,rfl⟩
   rw [zD]
   have s1:=Qqz (F:=Za) 0 n (l.map Qa) (hS n l T T (ouF l T (qC l.length (-1)) T)) 1 T.length 2 4 T.length (by omega)
   have s2:=QhB (F:=Za) 0 n (l.map Qa) (hS n l T T (ouF l T (qC l.length (-1)) T)) 1 T.length 2 4 T.length
   exact ⟨_,_,_,sq (s1) (sqo (s2) (c:=sn 8169 B43) (b:=sn 16339 B43)) (c:=sn 4084 B43),by simp,rfl,rfl,rfl⟩)
  (by kernel_rfl) (by rintro i e H ⟨rfl,_⟩;kernel_rfl) (e:=(ZV (Qx n l) (.q 0) (.imm .lit 1 []) .nilmap (.bool false) (.s 1 T.length) Ud (.map 2) (.q 4) Ud (.func 64 [] [.q 4]) Ud Ud Ud Ud Ud (.s 1 T.length) (.i (T.length:Int)) (.i (0:Int)) Ud Ud Ud)) (H:=hS n l T [] (qC l.length (-1))) ⟨rfl,rfl⟩
 have z:=QqG (F:=Za) 0 n (l.map Qa) (hS n l T T (ouF l T (qC l.length (-1)) T)) 1 T.length 2 4 3 l.length (y38:=.s 1 T.length) (y39:=.i (T.length:Int)) (y40:=.i (T.length:Int)) (hsl _ _ _)
 refine ⟨_,_,_,.tuple [.sl 3 0 l.length (some l.length) l.length 1,.map 2,.bool true],sq (a) (sq (b) (sq (c) (sq (d) (sq (e) (sq (sq (f) (bke (c:=sn 253 B43) (lpi (e0:=(ZV (Qx n l) (.q 0) (.imm .lit 1 []) .nilmap (.bool false) (.s 1 T.length) (.bool true) (.map 2) (.q 4) Ud Ud Ud Ud Ud (.i (l.length:Int)) (.i (0:Int)) Ud Ud Ud Ud Ud Ud)) r1 (b:=sn 1012 B43))) (c:=sn 126 B43)) (sq (hh) (sq (sq (ii) (bke (c:=sn 1021 B43) (lpi (e0:=(ZV (Qx n l) (.q 0) (.imm .lit 1 []) .nilmap (.bool false) (.s 1 T.length) Ud (.map 2) (.q 4) Ud (.func 64 [] [.q 4]) Ud Ud Ud (.i (l.length:Int)) (.i (l.length:Int)) (.s 1 T.length) (.i (T.length:Int)) (.i (0:Int)) Ud Ud Ud)) r2 (b:=sn 4084 B43))) (c:=sn 510 B43)) (z) (c:=sn 255 B43)) (c:=sn 127 B43)) (c:=sn 63 B43)) (c:=sn 31 B43)) (c:=sn 15 B43)) (c:=sn 7 B43)) (c:=sn 3 B43)) (c:=B43),by simp,by simp only [Qf,Qiu];rfl,?_⟩
 rw [← hTe]
 have:=hol T.length
 rw [zD] at this
 exact QhG this
def slE (n:Int) (l:List St):Int:=if WC n l=true then (if Wk n l=true then 0 else 6) else 2
def Js:FuncId→Option (List HV→Option HV):=fun g=>if g==52 then some Zx else if g==43 then some QbU else none
theorem QhH (n:Nat):Qo Tp (Qb Tp (plF Js) n):=QF _ (fun g f h=>by
 unfold Js at h
 split at h
 ·rename_i hg;cases h;rw [eq_of_beq hg];exact VQ
 split at h
 ·rename_i hg;cases h;rw [eq_of_beq hg];exact Qfh
 ·cases h) n
theorem QqH:NwF Js:=⟨by kernel_rfl,by kernel_rfl,by kernel_rfl,by kernel_rfl,by kernel_rfl⟩
theorem Qfi (O T:List Int) (H:Heap):Zt (.tuple [.own 1 (O.map Qc),.omap (T.map Qc) (T.map fun _=>HV.bool true),.bool true]) H=(.tuple [.sl H.length 0 O.length none O.length 1,.map (H.length+1),.bool true],H++[bI O]++[bM T]):=by
 have h:Wb (.own 1 (O.map Qc)) H=(.sl H.length 0 O.length none O.length 1,H++[bI O]):=by
  simp only [Wb,Kq,qG];rfl
 have h2:Wb (.omap (T.map Qc) (T.map fun _=>HV.bool true)) (H++[bI O])=(.map (H.length+1),H++[bI O]++[bM T]):=by
  simp only [Wb,qD,qO,List.length_nil];rfl
 simp only [Zt,Zs,ZK,h,h2];rfl
theorem Qfj (H:Heap):Zt (.tuple [.own 1 [],.nilmap,.bool false]) H=(.tuple [.sl H.length 0 0 none 0 1,.nilmap,.bool false],H++[bI []]):=rfl
theorem QhI (l:List St):(slT l).length=l.length:=(Cu ..).trans (by simp)
def bst (b d:Int):Int:=if b<0∨d<b then d else b
def fiT (p:Int→Bool) (m:Nat):List Int:=(Qg m).filter p
theorem Uj (p:Int→Bool) (m:Nat):fiT p (m+1)=fiT p m++(if p m=true then [(m:Int)] else []):=by
 rw [fiT,Q6,jQ,fiT]
 refine congrArg _ ?_
 by_cases c:p m=true
 ·rw [if_pos c,List.filter_cons_of_pos c];rfl
 ·rw [if_neg c,List.filter_cons_of_neg c];rfl
theorem YA (p:Int→Bool) (m:Nat):(fiT p m).length≤m:=by
 have:=zI p (Qg m)
 rwa [QM] at this
theorem SX (x:Int):∀(ks:List Int) (i:Nat),x∈ks→∃j,j<ks.length∧Wi (.int .i64 x) (ks.map Qc) i=some (some (i+j))
 | [],_,h=>by cases h
 | y::ks,i,h=>by
  by_cases e:x=y
  ·subst e
   refine ⟨0,by simp,?_⟩
   simp only [qK,Wi,Qc,WB,Ja,if_true,decide_true];rfl
  ·rcases List.mem_cons.1 h with h | h
   ·exact absurd h e
   ·obtain ⟨j,h1,h2⟩:=SX x ks (i+1) h
    refine ⟨j+1,by simp;omega,?_⟩
    simp only [qK,Wi,Qc,WB,Ja,if_true,decide_eq_false e]
    rw [show i+(j+1)=i+1+j by omega]
    exact h2
theorem z4z:Xg Tp 4=some (.bool false):=by kernel_rfl
theorem QqI {H:Heap} {b:Nat} {ks:List Int} (h:H[b]?=some (bM ks)) (x:Int):lkH Tp 72 H b (.int .i64 x)=some (.bool (decide (x∈ks)),H):=by
 have hk:=QhC x
 have hz:=z4z
 rw [bM] at h
 by_cases c:x∈ks
 ·obtain ⟨j,h1,h2⟩:=SX x ks 0 c
  rw [decide_eq_true c]
  have:(ks.map fun _=>HV.bool true)[0+j]?=some (.bool true):=by rw [Nat.zero_add,List.getElem?_map,wG h1];rfl
  simp only [lkH,h,K8,u72,hk,if_true,h2,this]
  rfl
 ·have h2:=JT x ks 0 c
  rw [decide_eq_false c]
  simp only [lkH,h,K8,u72,hk,if_true,h2,hz]
  rfl
theorem QhJ {H:Heap} {b c j k:Nat} {o p:List Int} (hb:H[b]?=some (bI o)) (hk:o.length=k) (hc:H[c]?=some (bI p)) (hj:p.length=j) (hne:b≠c) (e:Int):Wv H false (.tuple [.sl b 0 k none k 1,.sl c 0 j none j 1,.int .i64 e])=some (.tuple [.own 1 (o.map Qc),.own 1 (p.map Qc),.int .i64 e]):=by
 have h1:=W0 (H:=H) (no:=[b,c]) (b:=b) (k:=1) (m:=k) (cap:=none) (els:=o.map Qc) hb (by simpa using hk) (Wj (fun r=>Z7 4 r) _)
 have h2:=W0 (H:=H) (no:=[b,c]) (b:=c) (k:=1) (m:=j) (cap:=none) (els:=p.map Qc) hc (by simpa using hj) (Wj (fun r=>Z7 4 r) _)
 have ho:QD H false (.tuple [.sl b 0 k none k 1,.sl c 0 j none j 1,.int .i64 e])=[b,c]:=by simp [QD,cellsOf,W5,hb,hc]
 have hn:[b,c].Nodup:=by simp [hne]
 simp only [Wv,ho,hn,if_true,WP,mapO,h1,h2]
 rfl
theorem SY (H:Heap) (e:Int):Wv H false (.tuple [.imm .lit 1 [],.imm .lit 1 [],.int .i64 e])=some (.tuple [.own 1 [],.own 1 [],.int .i64 e]):=by
 simp [Wv,QD,cellsOf,W5,WP,Wd,mapO];rfl
def pAl (T O:List Int) (k:Int):Bool:=decide (k∈T∧O.getD k.toNat 0≠0)
def pNe (T O:List Int) (k:Int):Bool:=decide (k∉T∧O.getD k.toNat 0≠0)
def crA (n:Int) (l:List St):List Int:=if slE n l=0 then fiT (pAl (Qd l) (slT l)) l.length else []
def crN (n:Int) (l:List St):List Int:=if slE n l=0 then fiT (pNe (Qd l) (slT l)) l.length else []
def DG:List HV→Option HV:=f2 kI kS fun n l=>if l.length≤500 then some (.tuple [.own 1 ((crA n l).map Qc),.own 1 ((crN n l).map Qc),.int .i64 (slE n l)]) else none
theorem Qfk:Try.f30.results.toList=[.tmp 4,.tmp 5,.tmp 6]:=by kernel_rfl
theorem SZ:QV Tp 30 DG:=by
 refine Qt (pol:=plF Js) (fn:=Try.f30) (cd:=B30) Qk QhH (by kernel_rfl) (by kernel_rfl) (ZJ Js _ _ (by kernel_rfl)) (by kernel_rfl) ?_
 intro args res h
 obtain ⟨n,l,rfl,hq⟩:=Ji h
 split at hq
 case isFalse=>cases hq
 rename_i hl
 cases hq
 have a:=Qp8 (F:=Js) 0 n (l.map Qa)
 obtain ⟨N0,c39⟩:=CallsTo.from (G5 QqH (H:=[]) (qF _) n (l:=l) (by omega))
 cases hnet:WC n l with
 | false =>
  rw [hnet] at c39
  have b:=Qqa (F:=Js) N0 n (l.map Qa) c39 rfl stN
  have c:=Qhv (F:=Js) 0 n (l.map Qa) [bN n l]
  refine ⟨_,_,_,.tuple [.imm .lit 1 [],.imm .lit 1 [],.int .i64 2],sq (a) (sq (b) (sqo (c) (c:=sn 7 B30) (b:=sn 15 B30)) (c:=sn 3 B30)) (c:=B30),by simp,by simp only [Qf,Qfk];rfl,?_⟩
  have e:slE n l=2:=by rw [slE,if_neg (by rw [hnet];simp)]
  rw [crA,crN,e,if_neg (by decide),if_neg (by decide)];exact SY _ _
 | true =>
  rw [hnet] at c39
  have b:=Qp9 (F:=Js) N0 n (l.map Qa) c39 rfl stN
  have c:=Qhu (F:=Js) 0 n (l.map Qa) [bN n l]
  have c43:=at1 (pol':=plF Js) (g:=43) (c1:=kN) (f:=fun p=>if WC p.1 p.2=true then some (if Wk p.1 p.2=true then .tuple [.own 1 ((slT p.2).map Qc),.omap ((Qd p.2).map Qc) ((Qd p.2).map fun _=>HV.bool true),.bool true] else .tuple [.own 1 [],.nilmap,.bool false]) else none) (H:=[bN n l]) (by kernel_rfl) (ShN _ n l) (if_pos hnet)
  simp only at c43
  by_cases cn:Wk n l=true
  case neg =>
   rw [if_neg cn,Qfj] at c43
   have d:=Qqc (F:=Js) 0 n (l.map Qa) [bN n l] 1 0 0 (Vs rfl) c43
   have e:=Qhx (F:=Js) 0 n (l.map Qa) ([bN n l]++[bI []]) 1 0 (y7:=.q 0)
   refine ⟨_,_,_,.tuple [.imm .lit 1 [],.imm .lit 1 [],.int .i64 6],sq (a) (sq (b) (sq (c) (sq (d) (sqo (e) (c:=sn 31 B30) (b:=sn 63 B30)) (c:=sn 15 B30)) (c:=sn 7 B30)) (c:=sn 3 B30)) (c:=B30),by simp,by simp only [Qf,Qfk];rfl,?_⟩
   have ee:slE n l=6:=by rw [slE,if_pos hnet,if_neg cn]
   rw [crA,crN,ee,if_neg (by decide),if_neg (by decide)];exact SY _ _
  rw [if_pos cn,Qfi] at c43
  have ee:slE n l=0:=by rw [slE,if_pos hnet,if_pos cn]
  rw [crA,crN,ee,if_pos rfl,if_pos rfl]
  have hO:=QhI l
  have d:=Qqb (F:=Js) 0 n (l.map Qa) [bN n l] 1 (slT l).length 2 (Vs rfl) c43
  have e:=Qhw (F:=Js) 0 n (l.map Qa) ([bN n l]++[bI (slT l)]++[bM (Qd l)]) 1 (slT l).length 2 (y7:=.q 0)
  have f:=Qqd (F:=Js) 0 n (l.map Qa) ([bN n l]++[bI (slT l)]++[bM (Qd l)]) 1 (slT l).length 2 (y7:=.q 0) (y8:=.bool true) rfl rfl
  generalize slT l=O at *
  generalize Qd l=T at *
  have g:=Qqe (F:=Js) 0 n (l.map Qa) [bN n l,bI O,bM T,bI [],bI []] 1 O.length 2 3 0 4 0 (y7:=.q 0) (y8:=.bool true)
  have r:=Wu (pol':=plF Js) (f:=30) (E:=fun i=>(DF (.i n) (.g (l.map Qa)) (.imm .lit 1 []) (.imm .lit 1 []) (.i 0) Ud Ud Ud (.map 2) (.sl 3 0 (fiT (pAl T O) i).length none (fiT (pAl T O) i).length 1) (.sl 4 0 (fiT (pNe T O) i).length none (fiT (pNe T O) i).length 1) Ud Ud (.s 1 O.length) (.i (O.length:Int)) (.i (i:Int)))) (Hs:=fun i=>[bN n l,bI O,bM T,bI (fiT (pAl T O) i),bI (fiT (pNe T O) i)]) O.length
   (E0:=fun i=>(DF (.i n) (.g (l.map Qa)) (.imm .lit 1 []) (.imm .lit 1 []) (.i 0) Ud Ud Ud (.map 2) (.sl 3 0 (fiT (pAl T O) (i+1)).length none (fiT (pAl T O) (i+1)).length 1) (.sl 4 0 (fiT (pNe T O) (i+1)).length none (fiT (pNe T O) (i+1)).length 1) (.i (i:Int)) (.i (O.getD i 0)) (.s 1 O.length) (.i (O.length:Int)) (.i ((i+1:Nat):Int)))) (H1:=fun i=>[bN n l,bI O,bM T,bI (fiT (pAl T O) (i+1)),bI (fiT (pNe T O) (i+1))])
   (fun i hi=>by
    have s1:fiT (pAl T O) (i+1)=fiT (pAl T O) i++(if decide ((i:Int)∈T∧O.getD i 0≠0)=true then [(i:Int)] else []):=Uj (pAl T O) i
    have s2:fiT (pNe T O) (i+1)=fiT (pNe T O) i++(if decide ((i:Int)∉T∧O.getD i 0≠0)=true then [(i:Int)] else []):=Uj (pNe T O) i
    have l1:=YA (pAl T O) i
    have l2:=YA (pNe T O) i
    have ld:=Q3 (H:=[bN n l,bI O,bM T,bI (fiT (pAl T O) i),bI (fiT (pNe T O) i)]) (k:=1) (o:=O) rfl hi
    have ix:=JM (b:=1) (cap:=none) (len:=O.length) u24 z3 hi
    have lk:=fun A B:List Int=>QqI (H:=[bN n l,bI O,bM T,bI A,bI B]) (b:=2) (ks:=T) rfl (i:Int)
    generalize fiT (pAl T O) i=A at *
    generalize fiT (pNe T O) i=B at *
    generalize O.getD i 0=x at *
    have w:=Qj (j:=i) (by omega)
    by_cases cm:(i:Int)∈T
    ·simp only [decide_eq_true cm] at lk
     rw [if_neg (by simp [cm]),qR] at s2
     by_cases cx:x=0
     ·rw [if_neg (by simp [cx]),qR] at s1
      have s:=Qqf (F:=Js) 0 n (l.map Qa) [bN n l,bI O,bM T,bI A,bI B] 1 O.length 2 3 A.length 4 B.length i x (by omega) ix ld (lk A B) cx (lk A B)
      rw [w] at s;rw [s1,s2];exact s
     ·rw [if_pos (by simp [cm,cx])] at s1
      have ap:=ZR (H:=[bN n l,bI O,bM T,bI A,bI B]) (b:=3) (o:=A) rfl (by omega) (i:Int)
      rw [← s1] at ap
      have s:=Qqg (F:=Js) 0 n (l.map Qa) [bN n l,bI O,bM T,bI A,bI B] 1 O.length 2 3 A.length 4 B.length i x (by omega) ix ld (lk A B) cx ap (lk _ B)
      have el:(fiT (pAl T O) (i+1)).length=A.length+1:=by rw [s1];simp
      rw [w,← el] at s;rw [s2];exact s
    ·simp only [decide_eq_false cm] at lk
     rw [if_neg (by simp [cm]),qR] at s1
     by_cases cx:x=0
     ·rw [if_neg (by simp [cx]),qR] at s2
      have s:=Qqh (F:=Js) 0 n (l.map Qa) [bN n l,bI O,bM T,bI A,bI B] 1 O.length 2 3 A.length 4 B.length i x (by omega) ix ld (lk A B) (lk A B) cx
      rw [w] at s;rw [s1,s2];exact s
     ·rw [if_pos (by simp [cm,cx])] at s2
      have ap:=ZR (H:=[bN n l,bI O,bM T,bI A,bI B]) (b:=4) (o:=B) rfl (by omega) (i:Int)
      rw [← s2] at ap
      have s:=Qqi (F:=Js) 0 n (l.map Qa) [bN n l,bI O,bM T,bI A,bI B] 1 O.length 2 3 A.length 4 B.length i x (by omega) ix ld (lk A B) (lk A B) cx ap
      have el:(fiT (pNe T O) (i+1)).length=B.length+1:=by rw [s2];simp
      rw [w,← el] at s;rw [s1];exact s) (fun i _=>by kernel_rfl) (fun i _=>QI _ rfl) (Qqj (F:=Js) 0 n (l.map Qa) [bN n l,bI O,bM T,bI (fiT (pAl T O) O.length),bI (fiT (pNe T O) O.length)] 1 O.length 2 3 _ 4 _ O.length 0 (by omega)) (by simp) (c:=sn 1018 B30) (by kernel_rfl) (fun i _=>by kernel_rfl)
  rw [hO] at r
  have z:=Qqk (F:=Js) 0 n (l.map Qa) [bN n l,bI O,bM T,bI (fiT (pAl T O) l.length),bI (fiT (pNe T O) l.length)] 3 (fiT (pAl T O) l.length).length 4 (fiT (pNe T O) l.length).length (y10:=.map 2) (y31:=.s 1 l.length) (y32:=.i (l.length:Int)) (y33:=.i (l.length:Int))
  rw [hO] at d e f g
  refine ⟨_,_,_,.tuple [.sl 3 0 (fiT (pAl T O) l.length).length none (fiT (pAl T O) l.length).length 1,.sl 4 0 (fiT (pNe T O) l.length).length none (fiT (pNe T O) l.length).length 1,.int .i64 0],sq (a) (sq (b) (sq (c) (sq (d) (sq (e) (sq (f) (sq (sq (g) (bke (c:=sn 509 B30) (lpi (e0:=(DF (.i n) (.g (l.map Qa)) (.imm .lit 1 []) (.imm .lit 1 []) (.i 0) (.q 0) (.bool true) (.s 1 l.length) (.map 2) (.s 3 0) (.s 4 0) Ud Ud (.s 1 l.length) (.i (l.length:Int)) (.i (0:Int)))) r (b:=sn 2036 B30))) (c:=sn 254 B30)) (z) (c:=sn 127 B30)) (c:=sn 63 B30)) (c:=sn 31 B30)) (c:=sn 15 B30)) (c:=sn 7 B30)) (c:=sn 3 B30)) (c:=B30),by simp,by simp only [Qf,Qfk];rfl,?_⟩
  exact QhJ (b:=3) (c:=4) rfl rfl rfl rfl (by decide) _
end Go.Proofs.Ytiejmoglooaalaa
end
section
open Go Go.HL Go.HL.Dt
namespace Go.Proofs.Ytiejmoglooaalaa
set_option linter.unusedSectionVars false
open Go.Proofs.Try renaming prog → Tp
open Go.HL.HV renaming undef → Ud
def vtG (g1 g2:List Int) (n:Nat) (top:Int):List Int:=((qE n).filter fun (v:Nat)=>decide (g1.getD v 0=(v:Int)∧g2.getD v 0=top)).map fun (v:Nat)=>(v:Int)
theorem Qfl (g1 g2:List Int) (k:Nat) (top:Int):vtG g1 g2 (k+1) top=vtG g1 g2 k top++if g1.getD k 0=(k:Int)∧g2.getD k 0=top then [(k:Int)] else []:=by
 unfold vtG
 rw [zH,jQ,qW]
 congr 1
 by_cases c:g1.getD k 0=(k:Int)∧g2.getD k 0=top
 ·rw [if_pos c]
  have:(List.filter (fun (v:Nat)=>decide (g1.getD v 0=(v:Int)∧g2.getD v 0=top)) [k])=[k]:=List.filter_eq_self.2 fun v hv=>by
   rw [List.mem_singleton.1 hv]
   exact decide_eq_true c
  rw [this];rfl
 ·rw [if_neg c]
  have:(List.filter (fun (v:Nat)=>decide (g1.getD v 0=(v:Int)∧g2.getD v 0=top)) [k])=[]:=List.filter_eq_nil_iff.2 fun v hv h=>by
   rw [List.mem_singleton.1 hv] at h
   exact c (of_decide_eq_true h)
  rw [this];rfl
theorem QqJ {g1 g2:List Int} {n:Nat} {top x:Int} (h:x∈vtG g1 g2 n top):0≤x∧x<(n:Int):=by
 obtain ⟨v,hv,rfl⟩:=List.mem_map.1 h
 have:=List.mem_range.1 (List.mem_filter.1 hv).1
 omega
theorem QhK (g1 g2:List Int) (n:Nat) (top:Int):(vtG g1 g2 n top).length≤n:=by
 rw [vtG,qG]
 have:=zI (fun (v:Nat)=>decide (g1.getD v 0=(v:Int)∧g2.getD v 0=top)) (qE n)
 rwa [List.length_range] at this
def Wz:List Int→Int→Nat
 | [],_=>0
 | y::V,x=>if x=y then 0 else if x∈V then Wz V x+1 else 0
theorem QbV:∀{V:List Int} {x:Int},x∈V→Wz V x<V.length
 | y::V,x,h=>by
  rw [Wz,qO]
  split
  ·omega
  ·split
   ·rename_i c;have:=QbV c;omega
   ·omega
theorem QbW:∀{V:List Int} {x:Int},x∉V→Wz V x=0
 | [],_,_=>rfl
 | y::V,x,h=>by rw [Wz,if_neg (fun e:x=y=>h (by rw [e];exact qS ..)),if_neg fun c=>h (qT _ c)]
theorem S0:∀{V:List Int} {x:Int},x∈V→V.getD (Wz V x) 0=x
 | y::V,x,h=>by
  rw [Wz]
  split
  ·rename_i e;rw [e];rfl
  ·rename_i e
   have hm:=(List.mem_cons.1 h).resolve_left e
   rw [if_pos hm,List.getD_cons_succ]
   exact S0 hm
def bMI (V:List Int):Blk:=.map (V.map Qc) ((qE V.length).map fun (i:Nat)=>HV.int .i64 (i:Int)) 0
theorem QhL:Tp.underlying 117=some (.map 3 3):=by kernel_rfl
theorem z3t:Xg Tp 3=some (.int .i64 0):=by kernel_rfl
theorem Gz (x:Int):∀(V:List Int) (i:Nat),x∈V→Wi (.int .i64 x) (V.map Qc) i=some (some (i+Wz V x))
 | [],_,h=>by cases h
 | y::V,i,h=>by
  by_cases e:x=y
  ·subst e
   simp only [qK,Wi,Qc,WB,Ja,if_true,decide_true,Wz];rfl
  ·have hm:=(List.mem_cons.1 h).resolve_left e
   have ih:=Gz x V (i+1) hm
   simp only [qK,Wi,Qc,WB,Ja,if_true,decide_eq_false e]
   rw [Wz,if_neg e,if_pos hm,show i+(Wz V x+1)=i+1+Wz V x by omega]
   exact ih
theorem QbX {H:Heap} {b:Nat} {V:List Int} (h:H[b]?=some (bMI V)) (x:Int):lkG Tp 117 H b (.int .i64 x) true=some (.tuple [.int .i64 (Wz V x:Int),.bool (decide (x∈V))],H)∧lkG Tp 117 H b (.int .i64 x) false=some (.int .i64 (Wz V x:Int),H):=by
 have hk:=QhC x
 have hz:=z3t
 rw [bMI] at h
 by_cases c:x∈V
 ·have h2:=Gz x V 0 c
  rw [Nat.zero_add] at h2
  have h3:=QbV c
  have:((qE V.length).map fun (i:Nat)=>HV.int .i64 (i:Int))[Wz V x]?=some (.int .i64 (Wz V x:Int)):=by simp [h3]
  rw [decide_eq_true c]
  constructor <;> · simp only [lkG,h,K8,QhL,hk,if_true,h2,this];rfl
 ·have h2:=JT x V 0 c
  rw [decide_eq_false c,QbW c]
  constructor <;> · simp only [lkG,h,K8,QhL,hk,if_true,h2,hz];rfl
theorem QbY {H:Heap} {b:Nat} {V:List Int} (h:H[b]?=some (bMI V)):Qaa Tp H 117 (.map b)=some (.int .i64 (V.length:Int)):=by
 rw [bMI] at h
 simp only [Qaa,QhL,h,qG]
theorem QhM {H:Heap} {b:Nat} {V:List Int} (h:H[b]?=some (bMI V)) {x:Int} (hx:x∉V):GF Tp false 117 (.map b) (.int .i64 x) (.int .i64 (V.length:Int)) H=some (H.set b (bMI (V++[x]))):=by
 have hk:=QhC x
 have hf:=JT x V 0 hx
 have ha:(WQ (cellsOf (HV.int .i64 x)) (cellsOf (HV.int .i64 x))).isSome=true:=rfl
 rw [bMI] at h
 simp only [GF,QhL,hk,if_true,qX,if_false,h,hf,ha]
 simp only [bMI,qW,qD,jN,zH,qK,List.map_nil]
 rfl
abbrev b1 (x:Int):Blk:=.arr 1 [.int .i64 x] true 0
def DH (p d y:Int):Int:=(y+d+p)%p
def adM (p:Int) (N:Nat) (i j:Nat) (d:Int) (M:List (List Int)):List (List Int):=if i<N∧j<N then M.set i ((M.getD i []).set j (DH p d ((M.getD i []).getD j 0))) else M
def adH (p:Int) (N:Nat) (R:Nat→Nat) (M:List (List Int)) (i j:Nat) (d:Int) (H:Heap):Heap:=if i<N∧j<N then H.set (R i) (bI ((M.getD i []).set j (DH p d ((M.getD i []).getD j 0)))) else H
theorem Uk {p:Int} {N:Nat} {R:Nat→Nat} {M:List (List Int)} {i j:Nat} {d:Int} {H X:Heap} (h:∀i,i<N→R i<H.length):adH p N R M i j d (H++X)=adH p N R M i j d H++X:=by
 unfold adH
 split
 ·rename_i c;exact List.set_append_left _ _ (h i c.1)
 ·rfl
theorem Z1 (p:Int) (N:Nat) (R:Nat→Nat) (M:List (List Int)) (i j:Nat) (d:Int) (H:Heap):Fx H (adH p N R M i j d H) (rowS R N):=by
 unfold adH
 split
 ·rename_i c;exact Fx.set (S:=rowS R N) ⟨i,c.1,rfl⟩ _
 ·exact Fx.refl ..
theorem Kb {p:Int} (hp:0<p) {N:Nat} {M:List (List Int)} (h:WM p N M) (i j:Nat) (d:Int):WM p N (adM p N i j d M):=by
 unfold adM
 split
 ·rename_i c
  obtain ⟨h1,h2⟩:=h
  have hi:i<M.length:=by omega
  have hri:=h2 _ (by rw [Jl hi];exact jI _:M.getD i []∈M)
  refine ⟨by rw [qB];exact h1,fun r hr=>?_⟩
  rcases jX hr with e | e
  ·exact h2 r e
  ·subst e
   refine ⟨by rw [qB];exact hri.1,fun k hk=>?_⟩
   rw [V0 (by rw [hri.1];exact c.2)]
   split
   ·exact ⟨qH _ (by omega),qI _ hp⟩
   ·exact hri.2 k hk
 ·exact h
section
variable {F:FuncId→Option (List HV→Option HV)} {H:Heap} {mb N:Nat} {R:Nat→Nat} {M:List (List Int)} {p:Int}
theorem Mat.ad (hM:Mat H mb N R M) (i j:Nat) (d:Int):Mat (adH p N R M i j d H) mb N R (adM p N i j d M):=by
 unfold adH adM
 split
 ·rename_i c;exact (hM.put c.1 c.2 _).2
 ·exact hM
theorem Qse {p y d:Int} (hp:1<p∧p≤2147483647) (hy:0≤y∧y<p) (hd:d=1∨d=-1):(qA.wrap (qA.wrap (y+d)+p)).tmod p=DH p d y:=by
 rw [Qs (n:=y+d) (by omega) (by omega),QU (by omega) (by omega),jG (by omega)];rfl
theorem a57:QE Tp 57=false:=by kernel_rfl
theorem i57:(Tp.underlying 57).isSome=true:=by kernel_rfl
theorem Ul (h86:F 86=none) (hp:1<p∧p≤2147483647) (hM:Mat H mb N R M) (hok:WM p N M) {zb xb pb mx:Nat} (hz:H[zb]?=some (b1 (N:Int))) (hx:H[xb]?=some (.arr 1 [slR mb N] true mx)) (hpb:H[pb]?=some (b1 p)) (i j:Nat) {d:Int} (hd:d=1∨d=-1) :
  ClF F 86 [.int .i64 (i:Int),.int .i64 (j:Int),.int .i64 d,.ptr zb 0 0 1,.ptr xb 0 0 1,.ptr pb 0 0 1] H (.tuple []) (adH p N R M i j d H):=by
 have hr:Try.f86.results.toList=[]:=by kernel_rfl
 have lz:=ld1 hz
 have lp:=ld1 hpb
 have lx:QH Tp H 57 (.ptr xb 0 0 1)=some (slR mb N):=WE (b:=xb) hx rfl rfl rfl a57 i57
 have go:∀{H':Heap} (hl:H'.length=H.length),RT (plF F) 86 (sub [] B86) (Qe3 (.i (i:Int)) (.i (j:Int)) (.i d) (.q zb) (.q xb) (.q pb)) H .normal (Qe3 (.i (i:Int)) (.i (j:Int)) (.i d) (.q zb) (.q xb) (.q pb)) H' →
   ClF F 86 [.int .i64 (i:Int),.int .i64 (j:Int),.int .i64 d,.ptr zb 0 0 1,.ptr xb 0 0 1,.ptr pb 0 0 1] H (.tuple []) H':=fun hl s=>by
  have h:=CallsTo.shared (P:=Tp) (pol:=plF F) (g:=86) (fn:=Try.f86) (cd:=B86) (args:=[.int .i64 (i:Int),.int .i64 (j:Int),.int .i64 d,.ptr zb 0 0 1,.ptr xb 0 0 1,.ptr pb 0 0 1]) (v:=.tuple []) h86 (by kernel_rfl) (by kernel_rfl) (by kernel_rfl) s (by kernel_rfl) (by simp) (by simp only [Qf,hr];rfl)
  rw [QI _ hl] at h
  exact h
 by_cases c1:i<N
 ·by_cases c2:j<N
  ·have hy:=DE hok c1 c2
   obtain ⟨g1,g2⟩:=hM.put c1 c2 (DH p d ((M.getD i []).getD j 0))
   have e:adH p N R M i j d H=H.set (R i) (bI ((M.getD i []).set j (DH p d ((M.getD i []).getD j 0)))):=if_pos ⟨c1,c2⟩
   rw [e]
   have s:=QoV (F:=F) (i:Int) (j:Int) d zb xb pb H mb N (R i) ((M.getD i []).getD j 0) p (H0:=H.set (R i) (bI ((M.getD i []).set j (DH p d ((M.getD i []).getD j 0))))) lz (by omega) lz (by omega) lx (XF c1) (hM.ld c1) lx (XF c1) (hM.ld c1) (DU c2) (hM.get c1 c2) lp lp (Cq (by omega)) (DU c2) (by rw [Qse hp hy hd];exact g1)
   exact go (by simp) s
  ·have e:adH p N R M i j d H=H:=if_neg fun h=>c2 h.2
   rw [e]
   exact go rfl (QoW (F:=F) (i:Int) (j:Int) d zb xb pb H mb N 0 0 p lz (by omega) lz (by omega))
 ·have e:adH p N R M i j d H=H:=if_neg fun h=>c1 h.1
  rw [e]
  exact go rfl (QoX (F:=F) (i:Int) (j:Int) d zb xb pb H mb N 0 0 p lz (by omega))
end
end Go.Proofs.Ytiejmoglooaalaa
end
