/- A part of the proof. -/
import Derived.Test.YtiejmoglooaalaaP8C
set_option linter.unusedVariables false
set_option linter.unusedSimpArgs false
set_option linter.unnecessarySimpa false
open Go.IntKind renaming i64 → qA
open List renaming length_append → qB, range → qC, length_cons → qD, mem_cons_self → qE, cons_append → qF, append_assoc → qG, mem_cons_of_mem → qH, nil_append → qI, length_set → qJ, foldr_cons → qK, mem_append → qL, mem_append_left → qP, length_map → qQ, getD → qR, getElem?_set_ne → qS, map_cons → jA, mem_cons → jE, length_take → jJ, map_append → jN, filter_sublist → jP, length_nil → jQ, mem_append_right → jU, mem_filter → jW, length_singleton → jX, getElem?_set_self → zF, append_of_mem → zG, getElem?_drop → zQ, length_drop → zS, getElem_mem → zT, getElem?_eq_none → zV, getElem_of_mem → zW, filter_append → zX, filter_congr → zY, append_nil → zZ, mem_map → wA, mem_range → wC, filter_cons → wD, set_set → wI, getElem?_append_left → wJ, getElem?_take_of_lt → wK, getElem?_append_right → wL, mem_or_eq_of_mem_set → wM, mem_of_mem_drop → wN, map_map → wO, getElem?_set → wQ, exists_mem_of_ne_nil → wR, set_getElem_self → wU, getElem?_cons_zero → wV, getElem?_cons_succ → wW
open Int renaming pow_succ → qM, neg_mul → qO, mul_assoc → qT, mul_neg → qU, mul_emod → qX, emod_nonneg → qY, emod_lt_of_pos → qZ, toNat_natCast → jG, dvd_add → jH, one_mul → jI, mul_add → jY, mul_left_comm → jZ, sub_mul → zA, mul_one → zC, pow_zero → zE, mul_sub → zH, dvd_mul_of_dvd_left → zI, dvd_mul_of_dvd_right → zJ, tmod_eq_emod_of_nonneg → zP, dvd_sub → zU, emod_emod_of_dvd → wG, mul_le_mul → wH, dvd_mul_right → wP, eq_ofNat_of_zero_le → wT
open Nat renaming le_refl → qN, pow_succ → qV, lt_or_ge → qW, zero_le → jV, mul_comm → zD, one_mul → zL, add_mul → zN, mul_add → zO, eq_zero_or_pos → wF, add_mul_mod_self_left → wS
open Bool renaming false_eq_true → wE
section
open Go Go.HL
namespace Go.Proofs.Ytiejmoglooaalaa
set_option linter.unusedSectionVars false
open Go.Proofs.Try renaming prog → Tp
open Go.HL.HV renaming undef → Ud
theorem QhA (l:List St):wgt l []=0:=rfl
theorem VP (l:List St) (k:Int) (t:List Int):wgt l (k::t)=wOf l k+wgt l t:=by rw [wgt,jA,List.sum_cons];rfl
theorem QhB (l:List St) (s t:List Int):wgt l (s++t)=wgt l s+wgt l t:=by rw [wgt,jN,List.sum_append];rfl
theorem Qa3 (l:List St) {k:Int}:∀{t:List Int},t.Nodup→k∈t→wgt l t=wOf l k+wgt l (wo t k)
 | [],_,h=>by cases h
 | x::t,hn,h=>by
  obtain ⟨h1,h2⟩:=List.nodup_cons.1 hn
  by_cases e:x=k
  ·subst e
   have:wo (x::t) x=t:=by
    rw [wo,List.filter_cons_of_neg (by simp)]
    exact List.filter_eq_self.2 fun y hy=>decide_eq_true fun (c:y=x)=>h1 (c▸hy)
   rw [this,VP]
  ·have hm:=(List.mem_cons.1 h).resolve_left fun c=>e c.symm
   have:wo (x::t) k=x::wo t k:=by rw [wo,List.filter_cons_of_pos (by simpa using e)];rfl
   rw [this,VP,VP,Qa3 l h2 hm]
   omega
theorem DN (l:List St):∀{a b:List Int},a.Nodup→b.Nodup→(∀x,x∈a↔x∈b)→wgt l a=wgt l b
 | [],b,_,_,h=>by
  have:b=[]:=List.eq_nil_iff_forall_not_mem.2 fun x hx=>by cases (h x).2 hx
  rw [this]
 | x::a,b,ha,hb,h=>by
  obtain ⟨h1,h2⟩:=List.nodup_cons.1 ha
  have hx:x∈b:=(h x).1 (qE ..)
  rw [Qa3 l hb hx,VP]
  refine congrArg (wOf l x+·) (DN l h2 (hb.sublist jP) fun y=>?_)
  rw [mem_wo]
  constructor
  ·intro hy
   exact ⟨(h y).1 (qH _ hy),fun c=>h1 (c▸hy)⟩
  ·intro ⟨hy,hne⟩
   exact (List.mem_cons.1 ((h y).2 hy)).resolve_left hne
theorem Qfn {m:Nat} {t:List Int} (h:VN m t=true):t.Pairwise (· < ·)∧∀k∈t,0≤k∧k<(m:Int):=by
 have hin:=inR_iff.1 (Ux h)
 refine ⟨?_,hin⟩
 rw [VN] at h
 cases hf:fN (fun i=>!okA m t i) t.length 0 with
 | some i=>rw [hf] at h;cases h
 | none =>
  have h3:=Z1 hf
  have step:∀i,0<i→i<t.length→t.getD (i-1) 0<t.getD i 0:=fun i h0 hi=>by
   have:=h3 i (jV _) (by omega)
   have:okA m t i=true:=by simpa using this
   have:=of_decide_eq_true this
   rcases this.2 with c | c
   ·omega
   ·exact c
  have far:∀d i,i+d+1<t.length→t.getD i 0<t.getD (i+d+1) 0:=by
   intro d
   induction d with
   | zero=>intro i hi;exact step (i+1) (by omega) hi
   | succ d ih =>
    intro i hi
    have h1:=ih i (by omega)
    have h2:=step (i+d+2) (by omega) hi
    rw [show i+d+2-1=i+d+1 by omega] at h2
    show t.getD i 0<t.getD (i+d+2) 0
    omega
  refine List.pairwise_iff_getElem.2 fun i j hi hj hij=>?_
  have:=far (j-i-1) i (by omega)
  rw [show i+(j-i-1)+1=j by omega,QB hi,QB hj] at this
  exact this
theorem CC {l:List St} {t:List Int} (hn:t.Nodup) (ht:∀k∈t,0≤k∧k<(l.length:Int)):(ZB l t).length=(tkT l t).length:=by
 have hs:=Jb l t _ (qN _)
 rw [List.take_length] at hs
 refine Xc ((Zn _).sublist jP) (hs.nodup hn) fun x=>?_
 rw [ZB,jW,decide_eq_true_eq]
 exact ⟨fun h=>h.2,fun h=>⟨startT_mem.2 (ht x (hs.subset h)),h⟩⟩
theorem Ju {n:Int} {l:List St} {t:List Int} (h:isT n l t=true):Tr n l t∧t.Pairwise (· < ·):=by
 simp only [isT,Bool.and_eq_true,decide_eq_true_eq] at h
 obtain ⟨h1,h2,h3⟩:=h
 obtain ⟨h4,h5⟩:=Qfn h1
 rw [CC (W2 h4) h5] at h3
 exact ⟨⟨h5,W2 h4,h2,by omega⟩,h4⟩
theorem Qfo {n:Int} {l:List St} {t:List Int} (h:Tr n l t) (ha:t.Pairwise (· < ·)):isT n l t=true:=by
 have:=h.ln
 have h2:=h.fo
 rw [isT,Qhn ha h.rg,CC h.nd h.rg,h2,decide_eq_true h.ln];rfl
theorem QhC {n:Int} {l:List St} {t:List Int}:isP n l t=isT n l t:=by
 unfold isP isT
 cases h:VN l.length t with
 | false=>rfl
 | true =>
  obtain ⟨h4,h5⟩:=Qfn h
  rw [CC (W2 h4) h5];rfl
theorem Tr.perm {n:Int} {l:List St} (hnet:Ww n l=true) {t s:List Int} (h:Tr n l t) (hs:s.Nodup) (hm:∀x,x∈t↔x∈s):Tr n l s:=by
 have hl:=Xc h.nd hs hm
 refine ⟨fun k hk=>h.rg k ((hm k).2 hk),hs,by have:=h.ln;omega,?_⟩
 rw [← QX (QA hnet) h.rg hm,h.fo,hl]
section
variable {n:Int} {l:List St} (hnet:Ww n l=true)
include hnet
theorem Tr.exch {t:List Int} (h:Tr n l t) {k j:Int} (hk:k∈t) (hj:0≤j∧j<(l.length:Int)) (hjt:j∉t) (hJ:Q5 l t k j):Tr n l (wo t k++[j]):=by
 have hn:(wo t k++[j]).Nodup:=List.nodup_append.2 ⟨h.nd.sublist jP,by simp,fun a ha b hb=>by rw [List.mem_singleton.1 hb];exact fun c=>hjt (c▸(mem_wo.1 ha).1)⟩
 have hlen:(wo t k++[j]).length=t.length:=by rw [qB,jX,Qa1 h.nd hk]
 refine ⟨fun x hx=>?_,hn,by rw [hlen];exact h.ln,?_⟩
 ·rcases List.mem_append.1 hx with e | e
  ·exact h.rg x (mem_wo.1 e).1
  ·rw [List.mem_singleton.1 e];exact hj
 ·rw [hlen]
  exact (Qfb (QA hnet) h.rg h.nd h.fo hk hj (fun _=>Iff.rfl)).2 hJ
omit hnet in
theorem DO {t:List Int} (hn:t.Nodup) {k j:Int} (hk:k∈t):wgt l (wo t k++[j])=wgt l t-wOf l k+wOf l j:=by
 rw [QhB,VP,QhA,Qa3 l hn hk];omega
theorem QiV {t:List Int} (h:Tr n l t) (ha:t.Pairwise (· < ·)) {k j:Int} (hk:k∈t) (hj:0≤j∧j<(l.length:Int)) (hjt:j∉t) (hJ:Q5 l t k j):isT n l (swT k j t)=true∧wgt l (swT k j t)=wgt l t-wOf l k+wOf l j:=by
 have hA:=Qhl (o:=k) ha hjt
 have hM:=Qb0 (o:=k) ha hjt
 have h1:=Tr.exch hnet h hk hj hjt hJ
 refine ⟨Qfo (Tr.perm hnet h1 (W2 hA) fun x=>(hM x).symm) hA,?_⟩
 rw [DN l (W2 hA) h1.nd hM,DO h.nd hk]
theorem S6 (hc:Wl n l=true):Tr n l (frT l):=Tr.perm hnet (J0 hnet hc) (W2 (Kl l)) fun _=>frT_mem.symm
omit hnet in
theorem CD:wgt l (frT l)=wgt l (Qf l):=DN l (W2 (Kl l)) (ZK l) fun _=>frT_mem
theorem CE {s:List Int} (hs:Tr n l s):wgt l (frT l)≤wgt l s:=by rw [CD];exact GI hnet hs
omit hnet in
theorem Qfp {t:List Int} (h:beF l t=none):Loc l t:=fun k hk j hj hjt hJ=>by
 obtain ⟨i,hi,rfl⟩:=zW hk
 have h1:=Z1 h i (jV _) (by omega)
 cases hG:beG l t i with
 | some x=>rw [hG] at h1;cases h1
 | none =>
  have hy:j∈beY l t i:=List.mem_filter.2 ⟨startT_mem.2 hj,decide_eq_true ⟨hjt,by rw [QB hi];exact hJ⟩⟩
  obtain ⟨m,hm,rfl⟩:=zW hy
  have h2:=Z1 hG m (jV _) (by omega)
  have:=of_decide_eq_false h2
  rw [QB hi,QB hm] at this
  omega
theorem Qa4 {t:List Int} (h:isT n l t=true) :
  Wl n l=true∧(wgt l t=wgt l (frT l)→beO l t=(-1,-1)) ∧
  (wgt l t≠wgt l (frT l)→(beO l t).1∈t∧(beO l t).2∉t∧(0≤(beO l t).2∧(beO l t).2<(l.length:Int))∧isT n l (swT (beO l t).1 (beO l t).2 t)=true∧wgt l (swT (beO l t).1 (beO l t).2 t)<wgt l t):=by
 obtain ⟨hT,ha⟩:=Ju h
 have hc:=Qb3 hnet hT
 have hfr:=S6 hnet hc
 cases hF:beF l t with
 | none =>
  have h1:=Qb2 hnet hT (Qfp hF) hfr
  have h2:=CE hnet hT
  refine ⟨hc,fun _=>by unfold beO;rw [hF],fun h3=>absurd (by omega) h3⟩
 | some i =>
  obtain ⟨_,h1,h2,h3⟩:=Jl hF
  have hi:i<t.length:=by omega
  cases hG:beG l t i with
  | none=>rw [hG] at h2;cases h2
  | some j =>
   obtain ⟨_,g1,g2,g3⟩:=Jl hG
   have hj:j<(beY l t i).length:=by omega
   have hlt:=of_decide_eq_true g2
   have e:beO l t=(t.getD i 0,(beY l t i).getD j 0):=by simp only [beO,hF,hG]
   have hm:(beY l t i).getD j 0∈Qg l.length∧decide ((beY l t i).getD j 0∉t∧Q5 l t (t.getD i 0) ((beY l t i).getD j 0))=true:=List.mem_filter.1 (show (beY l t i).getD j 0∈_ from Qu 0 hj)
   have hr:=startT_mem.1 hm.1
   have hp:=of_decide_eq_true hm.2
   have hti:=Qu 0 hi
   obtain ⟨s1,s2⟩:=QiV hnet hT ha hti hr hp.1 hp.2
   rw [e]
   refine ⟨hc,fun h4=>?_,fun _=>⟨hti,hp.1,hr,s1,?_⟩⟩
   ·exfalso
    have:=CE hnet (Ju s1).1
    have h4':wgt l t=wgt l (frT l):=h4
    have hlt':wOf l ((beY l t i).getD j 0)<wOf l (t.getD i 0):=hlt
    omega
   ·show wgt l (swT (t.getD i 0) ((beY l t i).getD j 0) t)<wgt l t
    have hlt':wOf l ((beY l t i).getD j 0)<wOf l (t.getD i 0):=hlt
    omega
end
def rts (l:List St) (t:List Int) (n:Nat):List Nat:=(qC n).filter fun (v:Nat)=>decide (lb l t (v:Int)=(v:Int))
theorem Jd:∀{a b:List Int},a.Nodup→(∀x∈a,x∈b)→a.length≤b.length
 | [],b,_,_=>jV _
 | x::a,b,ha,h=>by
  obtain ⟨h1,h2⟩:=List.nodup_cons.1 ha
  have hx:=h x (qE ..)
  obtain ⟨p,q,rfl⟩:=zG hx
  have:=Jd (a:=a) (b:=p++q) h2 fun y hy=>by
   have h3:=h y (qH _ hy)
   have hne:y≠x:=fun c=>h1 (c▸hy)
   simp only [qL,jE] at h3 ⊢
   rcases h3 with c | c | c
   ·exact .inl c
   ·exact absurd c hne
   ·exact .inr c
  simp only [qB,qD] at this ⊢
  omega
section
variable {n:Int} {l:List St} (hnet:Ww n l=true)
include hnet
theorem Qb9 {t:List Int} (ht:∀k∈t,0≤k∧k<(l.length:Int)):((rts l t n.toNat).length:Int)+(tkT l t).length=n:=by
 have he:=QA hnet
 obtain ⟨⟨n1,n2⟩,_⟩:=QE hnet
 have hE:∀k,0≤k∧k<(l.length:Int)→sA l k<n∧sB l k<n:=fun k hk=>by have:=JZ hnet hk;omega
 have h1:=JF he ht
 have h2:rt (Qz l t)=(rts l t n.toNat).length+(16-n.toNat):=by
  unfold rt rts
  have e:qC 16=qC n.toNat++(qC (16-n.toNat)).map (n.toNat+·):=by
   rw [← List.range_add]
   congr 1
   omega
  rw [e,zX,qB]
  have e1:((qC n.toNat).filter fun (v:Nat)=>decide ((Qz l t).getD v 0=(v:Int)))=(qC n.toNat).filter fun (v:Nat)=>decide (lb l t (v:Int)=(v:Int)) :=
   zY fun v _=>by rw [lb,jG]
  rw [e1]
  congr 1
  have e2:((qC (16-n.toNat)).map (n.toNat+·)).filter (fun (v:Nat)=>decide ((Qz l t).getD v 0=(v:Int)))=(qC (16-n.toNat)).map (n.toNat+·):=List.filter_eq_self.2 fun v hv=>by
   obtain ⟨x,hx,rfl⟩:=List.mem_map.1 hv
   have hx:=List.mem_range.1 hx
   have hr:0≤((n.toNat+x:Nat):Int)∧((n.toNat+x:Nat):Int)<16:=by omega
   have h4:=Zf he ht hr
   have h5:=Cy hE ht (ZJ he ht hr)
   have h6:lb l t ((n.toNat+x:Nat):Int)=((n.toNat+x:Nat):Int):=by omega
   unfold lb at h6
   rw [jG] at h6
   exact decide_eq_true h6
  rw [e2,qQ,List.length_range]
 omega
end
end Go.Proofs.Ytiejmoglooaalaa
end
section
namespace Go.HL.Dt
set_option linter.unusedSectionVars false
open Go.Proofs.Try renaming prog → Tp
open Go.HL.HV renaming undef → Ud
abbrev Row:=Int→Int
def ex (d:List Row→Int) (c:Int):List Row→List Row→Int→Int
 | _,[],_=>0
 | p,r::R,s=>s*r c*d (p++R)+ex d c (p++[r]) R (-s)
def det:List Int→List Row→Int
 | [],[]=>1
 | [],_::_=>0
 | c::cs,R=>ex (det cs) c [] R 1
def ax (x:Row) (t:Int) (y:Row):Row:=fun z=>x z+t*y z
def Lin (d:List Row→Int):Prop:=∀A x y t B,d (A++ax x t y::B)=d (A++x::B)+t*d (A++y::B)
def Alt (d:List Row→Int):Prop:=∀A x B,d (A++x::x::B)=0
theorem Qo5 {d:List Row→Int} (h:Lin d) (c:Int) (P Q:List Row) (x y:Row) (t:Int):∀(R:List Row) (P' Q':List Row) (s:Int),P'=P→Q'=Q→ex d c (P'++ax x t y::Q') R s=ex d c (P'++x::Q') R s+t*ex d c (P'++y::Q') R s:=by
 intro R
 have key:∀(R Q:List Row) (s:Int),ex d c (P++ax x t y::Q) R s=ex d c (P++x::Q) R s+t*ex d c (P++y::Q) R s:=by
  intro R
  induction R with
  | nil=>intro Q s;simp [ex]
  | cons r R ih =>
   intro Q s
   have h1:=h P x y t (Q++R)
   have h2:=ih (Q++[r]) (-s)
   simp only [ex,qG,qF] at h1 h2 ⊢
   rw [h1,h2]
   simp only [jY,qT,jZ t]
   omega
 intro P' Q' s e1 e2
 subst e1;subst e2
 exact key R Q' s
theorem Qfq {d:List Row→Int} (h:Lin d) (c:Int) (x y:Row) (t:Int) (B:List Row):∀(A p:List Row) (s:Int),ex d c p (A++ax x t y::B) s=ex d c p (A++x::B) s+t*ex d c p (A++y::B) s
 | [],p,s=>by
  have h2:=Qo5 h c p [] x y t B p [] (-s) rfl rfl
  simp only [qI,ex,h2,ax]
  simp only [jY,Int.add_mul,qT,jZ t]
  omega
 | a::A,p,s=>by
  have h1:=h (p++A) x y t B
  have h2:=Qfq h c x y t B A (p++[a]) (-s)
  simp only [qG] at h1
  simp only [qF,ex,h2,h1]
  simp only [jY,qT,jZ t]
  omega
theorem Vd:∀cs,Lin (det cs)
 | []=>fun A x y t B=>by cases A <;> simp [det]
 | c::cs=>fun A x y t B=>Qfq (Vd cs) c x y t B A [] 1
theorem DP {d:List Row→Int} (h:Alt d) (c:Int) (P:List Row) (x:Row):∀(R Q:List Row) (s:Int),ex d c (P++x::x::Q) R s=0
 | [],_,_=>rfl
 | r::R,Q,s=>by
  have h1:=h P x (Q++R)
  have h2:=DP h c P x R (Q++[r]) (-s)
  simp only [ex,qG,qF] at h1 h2 ⊢
  rw [h1,h2];simp
theorem Qfr {d:List Row→Int} (h:Alt d) (c:Int) (x:Row) (B:List Row):∀(A p:List Row) (s:Int),ex d c p (A++x::x::B) s=0
 | [],p,s=>by
  have h2:=DP h c p x B [] s
  have e:p++[x]++B=p++x::B:=by simp
  simp only [qI,ex,qG,qF,Int.neg_neg] at h2 ⊢
  rw [h2,qO,qO]
  omega
 | a::A,p,s=>by
  have h1:=h (p++A) x B
  simp only [qG] at h1
  simp only [qF,ex,Qfr h c x B A,h1];simp
theorem UA:∀cs,Alt (det cs)
 | []=>fun A x B=>by cases A <;> simp [det]
 | c::cs=>fun A x B=>Qfr (UA cs) c x B A [] 1
section
variable {d:List Row→Int} (hl:Lin d) (ha:Alt d)
include hl ha
theorem Qfs (A:List Row) (x y:Row) (B:List Row):d (A++x::y::B)=- d (A++y::x::B):=by
 have h:=ha A (ax x 1 y) B
 have h1:=hl A x y 1 (ax x 1 y::B)
 have h2:=hl (A++[x]) x y 1 B
 have h3:=hl (A++[y]) x y 1 B
 have h4:=ha A x B
 have h5:=ha A y B
 simp only [qG,qF,qI] at h2 h3
 rw [h1,h2,h3,h4,h5] at h
 omega
theorem move (x:Row) (B:List Row):∀(M A:List Row),d (A++x::(M++B))=(-1) ^ M.length*d (A++M++x::B)
 | [],A=>by simp
 | m::M,A=>by
  have h:=move x B M (A++[m])
  have h1:=Qfs hl ha A x m (M++B)
  simp only [qG,qF,qI] at h h1 ⊢
  rw [h1,h,qD,qM]
  simp [qO,qU]
theorem two (A:List Row) (x:Row) (M B:List Row):d (A++x::(M++x::B))=0:=by
 rw [move hl ha x (x::B) M A,ha];simp
theorem Qda (x:Row) {R:List Row} (h:x∈R):d (x::R)=0:=by
 obtain ⟨M,B,rfl⟩:=zG h
 exact two hl ha [] x M B
theorem Qtq (A:List Row) (x y:Row) (t:Int) (M B:List Row):d (A++x::(M++ax y t x::B))=d (A++x::(M++y::B)):=by
 have h:=hl (A++x::M) y x t B
 have h2:=two hl ha A x M B
 simp only [qG,qF] at h
 rw [h,h2];omega
theorem elim (x:Row) (f:Row→Int):∀(R A:List Row),d (x::(A++R.map fun r=>ax r (f r) x))=d (x::(A++R))
 | [],A=>rfl
 | r::R,A=>by
  have h:=elim x f R (A++[ax r (f r) x])
  have h2:=Qtq hl ha [] x r (f r) A R
  simp only [qG,qF,qI,jA] at h h2 ⊢
  rw [h,h2]
theorem Qo6 (x y:Row) (M B:List Row):d (x::(M++y::B))=- d (y::(M++x::B)):=by
 have h1:=move hl ha x (y::B) M []
 have h2:=move hl ha y (x::B) M []
 have h3:=Qfs hl ha M x y B
 simp only [qI] at h1 h2
 rw [h1,h2,h3,qU]
theorem GJ (x:Row):∀(S R:List Row),(∀r∈S,r∈R)→d (S.foldr (fun r y=>ax y 1 r) x::R)=d (x::R)
 | [],R,_=>rfl
 | r::S,R,h=>by
  have h1:=hl [] (S.foldr (fun r y=>ax y 1 r) x) r 1 R
  have h2:=Qda hl ha r (h r (qE ..))
  have h3:=GJ x S R fun q hq=>h q (qH _ hq)
  simp only [qI] at h1
  rw [qK,h1,h2,h3];omega
omit ha in
theorem zero_row (A B:List Row):d (A++(fun _=>0)::B)=0:=by
 have h:=hl A (fun _=>0) (fun _=>0) 1 B
 have e:ax (fun _=>0) 1 (fun _=>0)=(fun _=>0:Row):=by funext z;simp [ax]
 rw [e] at h
 omega
end
def Cg (p:Int) (cs:List Int):List Row→List Row→Prop
 | [],[]=>True
 | r::R,r'::R'=>(∀z∈cs,p∣r z-r' z)∧Cg p cs R R'
 | _,_=>False
theorem Cg.refl (p:Int) (cs:List Int):∀R,Cg p cs R R
 | []=>trivial
 | r::R=>⟨fun z _=>by rw [Int.sub_self];exact Int.dvd_zero p,Cg.refl p cs R⟩
theorem Cg.app {p:Int} {cs:List Int}:∀{A A' B B':List Row},Cg p cs A A'→Cg p cs B B'→Cg p cs (A++B) (A'++B')
 | [],[],_,_,_,h=>h
 | _::_,_::_,_,_,h,h2=>⟨h.1,Cg.app h.2 h2⟩
 | [],_::_,_,_,h,_=>h.elim
 | _::_,[],_,_,h,_=>h.elim
theorem Cg.mono {p:Int} {cs cs':List Int} (hs:∀z∈cs',z∈cs):∀{A A':List Row},Cg p cs A A'→Cg p cs' A A'
 | [],[],_=>trivial
 | _::_,_::_,h=>⟨fun z hz=>h.1 z (hs z hz),Cg.mono hs h.2⟩
 | [],_::_,h=>h.elim
 | _::_,[],h=>h.elim
theorem Zg {p a a' b b':Int} (h1:p∣a-a') (h2:p∣b-b'):p∣a*b-a'*b':=by
 have e:a*b-a'*b'=(a-a')*b+a'*(b-b'):=by rw [zA,zH];omega
 rw [e]
 exact jH (zI h1) (zJ h2)
theorem QiW {p:Int} {cs:List Int} {d:List Row→Int} (hd:∀R R',Cg p cs R R'→p∣d R-d R') {c:Int}:∀(R R' P P':List Row) (s:Int),Cg p (c::cs) P P'→Cg p (c::cs) R R'→p∣ex d c P R s-ex d c P' R' s
 | [],[],_,_,_,_,_=>by simp [ex]
 | r::R,r'::R',P,P',s,hP,hR=>by
  have m:=fun z (hz:z∈cs)=>qH c hz
  have h1:=hd _ _ (Cg.app (Cg.mono (cs':=cs) m hP) (Cg.mono (cs':=cs) m hR.2))
  have h2:=QiW hd R R' (P++[r]) (P'++[r']) (-s) (Cg.app hP ⟨hR.1,trivial⟩) hR.2
  have h3:=Zg (Zg (show p∣s-s by rw [Int.sub_self];exact Int.dvd_zero p) (hR.1 c (qE ..))) h1
  simp only [ex]
  have:=jH h3 h2
  have e:∀a b a' b':Int,a+b-(a'+b')=(a-a')+(b-b'):=fun a b a' b'=>by omega
  rw [e]
  exact this
 | [],_::_,_,_,_,_,h=>h.elim
 | _::_,[],_,_,_,_,h=>h.elim
theorem CF {p:Int}:∀(cs:List Int) (R R':List Row),Cg p cs R R'→p∣det cs R-det cs R'
 | [],[],[],_=>by simp [det]
 | [],_::_,_::_,_=>by simp [det]
 | c::cs,R,R',h=>QiW (fun A B=>CF cs A B) R R' [] [] 1 trivial h
theorem CG {cs:List Int} {R R':List Row} (h:Cg 0 cs R R'):det cs R=det cs R':=by
 have:=CF cs R R' h
 rw [Int.zero_dvd] at this
 omega
theorem UB {d:List Row→Int} {c:Int}:∀(R P:List Row) (s:Int),(∀r∈R,r c=0)→ex d c P R s=0
 | [],_,_,_=>rfl
 | r::R,P,s,h=>by
  rw [ex,h r (qE ..),UB R _ _ fun q hq=>h q (qH _ hq)];simp
theorem Qft {c:Int} {cs:List Int} {R:List Row} (h:∀r∈R,r c=0):det (c::cs) R=0:=UB R [] 1 h
theorem QhD {c:Int} {cs:List Int} {x:Row} {R:List Row} (h:∀r∈R,r c=0):det (c::cs) (x::R)=x c*det cs R:=by
 show 1*x c*det cs ([]++R)+ex (det cs) c ([]++[x]) R (-1)=_
 rw [UB R _ _ h];simp
def un (a:Int):Row:=fun z=>if z=a then 1 else 0
theorem Qfu:∀n:Nat,((-1:Int) ^ n)*(-1) ^ n=1
 | 0=>rfl
 | n+1=>by
  rw [qM]
  have:=Qfu n
  simp only [qU,zC,qO,Int.neg_neg]
  exact this
theorem QhE {d d':List Row→Int} {c:Int} {u:Row} (hu:u c=0) {q:Nat}
  (hd:∀A B:List Row,d (A++u::B)=(-1) ^ (A.length+q)*d' (A++B)) :
  (∀(R P1 P2:List Row) (s:Int),ex d c (P1++u::P2) R s=(-1) ^ (P1.length+q)*ex d' c (P1++P2) R s) ∧
  (∀(A B P:List Row) (s:Int),ex d c P (A++u::B) s=(-1) ^ (P.length+A.length+q+1)*ex d' c P (A++B) s):=by
 have h1:∀(R P1 P2:List Row) (s:Int),ex d c (P1++u::P2) R s=(-1) ^ (P1.length+q)*ex d' c (P1++P2) R s:=by
  intro R
  induction R with
  | nil=>intro P1 P2 s;simp [ex]
  | cons r R ih =>
   intro P1 P2 s
   have e1:=hd P1 (P2++R)
   have e2:=ih P1 (P2++[r]) (-s)
   simp only [ex,qG,qF] at e1 e2 ⊢
   rw [e1,e2,jY,jZ]
 refine ⟨h1,?_⟩
 intro A
 induction A with
 | nil =>
  intro B P s
  have e:=h1 B P [] (-s)
  have en:∀(R P:List Row) (s:Int),ex d' c P R (-s)=- ex d' c P R s:=by
   intro R
   induction R with
   | nil=>intro P s;simp [ex]
   | cons r R ih=>intro P s;simp only [ex,ih,qO,Int.neg_add]
  simp only [qI,ex,hu,zZ] at e ⊢
  rw [e,en,jQ,Nat.add_zero,qM]
  simp [qO,qU]
 | cons a A ih =>
  intro B P s
  have e1:=hd (P++A) B
  have e2:=ih B (P++[a]) (-s)
  simp only [qG,qB,qD,jQ] at e1 e2
  simp only [qF,ex,qG]
  rw [e1,e2,jY,qD]
  have k1:P.length+(A.length+1)+q+1=(P.length+A.length+q)+1+1:=by omega
  have k2:P.length+(0+1)+A.length+q+1=(P.length+A.length+q)+1+1:=by omega
  rw [k1,k2,qM,qM]
  simp only [qU,zC,qO,Int.neg_neg,jZ]
theorem S7 {a:Int} (Y:List Int):∀(X:List Int),a∉X→a∉Y→∀A B:List Row,det (X++a::Y) (A++un a::B)=(-1) ^ (A.length+X.length)*det (X++Y) (A++B)
 | [],_,hY,A,B=>by
  have hz:∀A B:List Row,det Y (A++un a::B)=0:=fun A B=>by
   have:det Y (A++un a::B)=det Y (A++(fun _=>0)::B):=CG (Cg.app (Cg.refl ..) ⟨fun z hz=>by
    have:z≠a:=fun e=>hY (e▸hz)
    simp [un,this],Cg.refl ..⟩)
   rw [this,zero_row (Vd Y)]
  have h1:∀(R P1 P2:List Row) (s:Int),ex (det Y) a (P1++un a::P2) R s=0:=by
   intro R
   induction R with
   | nil=>intro P1 P2 s;rfl
   | cons r R ih =>
    intro P1 P2 s
    have e1:=hz P1 (P2++R)
    have e2:=ih P1 (P2++[r]) (-s)
    simp only [ex,qG,qF] at e1 e2 ⊢
    rw [e1,e2];simp
  have key:∀(A P:List Row) (s:Int),ex (det Y) a P (A++un a::B) s=s*(-1) ^ A.length*det Y (P++A++B):=by
   intro A
   induction A with
   | nil =>
    intro P s
    have e:=h1 B P [] (-s)
    simp only [qI,ex,zZ] at e ⊢
    rw [e]
    simp [un]
   | cons r A ih =>
    intro P s
    have e1:=hz (P++A) B
    have e2:=ih (P++[r]) (-s)
    simp only [qG,qF,qI] at e1 e2
    simp only [qF,ex,qG]
    rw [e1,e2,qD,qM]
    simp [qO,qU]
  have:=key A [] 1
  simp only [qI,jQ,Nat.add_zero]
  show ex (det Y) a [] (A++un a::B) 1=_
  rw [this];simp
 | c::X,hX,hY,A,B=>by
  have hc:a≠c:=fun e=>hX (e▸qE ..)
  have ih:=S7 Y X (fun h=>hX (qH _ h)) hY
  have h:=(QhE (c:=c) (u:=un a) (by simp [un,Ne.symm hc]) (q:=X.length) ih).2 A B [] 1
  show ex (det (X++a::Y)) c [] (A++un a::B) 1=_*ex (det (X++Y)) c [] (A++B) 1
  rw [h,jQ,qD,Nat.zero_add]
  rfl
def Wt (p:List Int→Bool):List Int→Nat
 | []=>if p []=true then 1 else 0
 | x::L=>Wt p L+Wt (fun F=>p (x::F)) L
theorem ZG:∀{L:List Int} {p q:List Int→Bool},(∀F,F.Sublist L→p F=q F)→Wt p L=Wt q L
 | [],p,q,h=>by rw [Wt,Wt,h [] (List.Sublist.refl _)]
 | x::L,p,q,h=>by
  rw [Wt,Wt,ZG (L:=L) (p:=p) (q:=q) fun F hF=>h F (hF.cons x),ZG (L:=L) (p:=fun F=>p (x::F)) (q:=fun F=>q (x::F)) fun F hF=>h _ (hF.cons_cons x)]
theorem ZM:∀{L:List Int} {p:List Int→Bool},(∀F,F.Sublist L→p F=false)→Wt p L=0
 | [],p,h=>by rw [Wt,h [] (List.Sublist.refl _)];rfl
 | x::L,p,h=>by
  rw [Wt,ZM (L:=L) (p:=p) fun F hF=>h F (hF.cons x),ZM (L:=L) (p:=fun F=>p (x::F)) fun F hF=>h _ (hF.cons_cons x)]
theorem GK {L L':List Int} (hP:L.Perm L'):∀{p:List Int→Bool},(∀F F',(∀x∈F,x∈L)→F.Perm F'→p F=p F')→Wt p L=Wt p L':=by
 induction hP with
 | nil=>intro p _;rfl
 | cons x h ih =>
  intro p hp
  rw [Wt,Wt,ih fun F F' hF hFF=>hp F F' (fun y hy=>qH _ (hF y hy)) hFF]
  congr 1
  exact ih fun F F' hF hFF=>hp _ _ (fun y hy=>(List.mem_cons.1 hy).elim (fun e=>e▸qE ..) fun h=>qH _ (hF y h)) (hFF.cons x)
 | swap x y L =>
  intro p hp
  simp only [Wt]
  have:Wt (fun F=>p (y::x::F)) L=Wt (fun F=>p (x::y::F)) L:=ZG fun F hF=>hp _ _ (fun z hz=>by
   simp only [jE] at hz ⊢
   rcases hz with h | h | h
   ·exact .inl h
   ·exact .inr (.inl h)
   ·exact .inr (.inr (hF.subset h))) (List.Perm.swap x y F)
  rw [this]
  omega
 | trans h1 h2 ih1 ih2 =>
  intro p hp
  rw [ih1 hp]
  exact ih2 fun F F' hF hFF=>hp F F' (fun x hx=>h1.mem_iff.2 (hF x hx)) hFF
theorem DQ {B:List Int} {q:List Int→Bool}:∀{A:List Int} {p r:List Int→Bool},(∀F G,F.Sublist A→G.Sublist B→p (F++G)=(r F&&q G))→Wt p (A++B)=Wt r A*Wt q B
 | [],p,r,h=>by
  have e:Wt p B=Wt (fun G=>r []&&q G) B:=ZG fun G hG=>by have:=h [] G (List.Sublist.refl _) hG;simpa using this
  rw [qI,e,Wt]
  cases hr:r [] with
  | true=>rw [if_pos rfl,zL];exact ZG fun G _=>by simp
  | false=>rw [if_neg (by simp),Nat.zero_mul];exact ZM fun G _=>by simp
 | x::A,p,r,h=>by
  rw [qF,Wt,Wt,zN,DQ (A:=A) (p:=p) (r:=r) fun F G hF hG=>h F G (hF.cons x) hG,
   DQ (A:=A) (p:=fun F=>p (x::F)) (r:=fun F=>r (x::F)) fun F G hF hG=>h _ _ (hF.cons_cons x) hG]
theorem Qfv (L:List Int):∀{p:List Int→Bool},Wt p L≤2 ^ L.length:=by
 induction L with
 | nil=>intro p;rw [Wt];split <;> simp
 | cons x L ih =>
  intro p
  have h1:=ih (p:=p)
  have h2:=ih (p:=fun F=>p (x::F))
  rw [Wt,qD,qV]
  omega
theorem GL {p:List Int→Bool} (h0:p []=true):∀(L:List Int),(∀F,F≠[]→p F=false)→Wt p L=1
 | [],_=>by rw [Wt,if_pos h0]
 | x::L,h=>by rw [Wt,GL h0 L h,ZM fun F _=>h _ (by simp)]
theorem KN:∀{L:List Int} {p:List Int→Bool} {F:List Int},F.Sublist L→p F=true→0<Wt p L
 | [],p,F,h,hp=>by rw [List.sublist_nil.1 h] at hp;rw [Wt,if_pos hp];omega
 | x::L,p,F,h,hp=>by
  rw [Wt]
  cases h with
  | cons _ h=>have:=KN h hp;omega
  | cons_cons _ h=>have:=KN (p:=fun F=>p (x::F)) h hp;omega
theorem DR:∀{L:List Int} {p:List Int→Bool} {F G:List Int},F.Sublist L→G.Sublist L→p F=true→p G=true→F≠G→2≤Wt p L
 | [],p,F,G,h,h',_,_,hne=>by rw [List.sublist_nil.1 h,List.sublist_nil.1 h'] at hne;exact absurd rfl hne
 | x::L,p,F,G,h,h',hp,hq,hne=>by
  rw [Wt]
  cases h with
  | cons _ h =>
   cases h' with
   | cons _ h'=>have:=DR h h' hp hq hne;omega
   | cons_cons _ h'=>have:=KN h hp;have:=KN (p:=fun F=>p (x::F)) h' hq;omega
  | cons_cons _ h =>
   cases h' with
   | cons _ h'=>have:=KN h' hq;have:=KN (p:=fun F=>p (x::F)) h hp;omega
   | cons_cons _ h'=>have:=DR (p:=fun F=>p (x::F)) h h' hp hq (fun e=>hne (congrArg _ e));omega
theorem DS:∀{L:List Int} {p:List Int→Bool} {F:List Int},L.Nodup→F.Sublist L→p F=true→(∀G,G.Sublist L→p G=true→G=F)→Wt p L=1
 | [],p,F,_,h,hp,_=>by rw [List.sublist_nil.1 h] at hp;rw [Wt,if_pos hp]
 | x::L,p,F,hn,h,hp,hu=>by
  obtain ⟨n1,n2⟩:=List.nodup_cons.1 hn
  rw [Wt]
  cases h with
  | cons _ h =>
   rw [DS n2 h hp fun G hG hpG=>hu G (hG.cons x) hpG,ZM fun G hG=>by
    cases c:p (x::G) with
    | false=>rfl
    | true =>
     have:=hu _ (hG.cons_cons x) c
     exact absurd (h.subset (this▸qE ..)) n1]
  | @cons_cons F _ _ h =>
   rw [ZM (p:=p) fun G hG=>by
    cases c:p G with
    | false=>rfl
    | true =>
     have:=hu _ (hG.cons x) c
     exact absurd (hG.subset (this▸qE ..)) n1,
    DS (p:=fun F=>p (x::F)) n2 h hp fun G hG hpG=>(List.cons.inj (hu _ (hG.cons_cons x) hpG)).2]
end Go.HL.Dt
end
section
open Go Go.HL Go.HL.Dt
namespace Go.Proofs.Ytiejmoglooaalaa
set_option linter.unusedSectionVars false
open Go.Proofs.Try renaming prog → Tp
open Go.HL.HV renaming undef → Ud
def dl (a x:Int):Int:=if a=x then 1 else 0
def ed (l:List St) (t:List Int) (e x y:Int):Int:=(dl (lb l t (sA l e)) x-dl (lb l t (sB l e)) x)*(dl (lb l t (sA l e)) y-dl (lb l t (sB l e)) y)
def Lp (l:List St) (t E:List Int) (x:Int):Row:=fun y=>E.foldr (fun e s=>ed l t e x y+s) 0
theorem CH (l:List St) (t:List Int) (e:Int) (E2:List Int) (x y:Int):∀E1:List Int,Lp l t (E1++e::E2) x y=ed l t e x y+Lp l t (E1++E2) x y
 | []=>rfl
 | f::E1=>by
  have:=CH l t e E2 x y E1
  simp only [Lp,qF,qK] at this ⊢
  rw [this];omega
def fo (l:List St) (t:List Int) (r:Nat) (F:List Int):Bool:=decide ((tkT l (t++F)).length=(tkT l t).length+F.length∧F.length=r)
def cnt (l:List St) (t E:List Int) (r:Nat):Nat:=Wt (fo l t r) E
def InR (l:List St) (t:List Int):Prop:=∀k∈t,0≤k∧k<(l.length:Int)
theorem InR.app {l:List St} {s t:List Int} (h:InR l s) (h2:InR l t):InR l (s++t):=fun k hk=>(List.mem_append.1 hk).elim (h k) (h2 k)
theorem InR.one {l:List St} {k:Int} (h:0≤k∧k<(l.length:Int)):InR l [k]:=fun x hx=>by rw [List.mem_singleton.1 hx];exact h
section
variable {l:List St} (he:ZY l=true)
include he
theorem QhF {t:List Int} (ht:InR l t) {e:Int} (h:0≤e∧e<(l.length:Int)) {v:Int} (hv:0≤v∧v<16):lb l (t++[e]) v=WO (min (lb l t (sA l e)) (lb l t (sB l e))) (max (lb l t (sA l e)) (lb l t (sB l e))) (lb l t v):=by
 have g0:(t++[e]).getD t.length 0=e:=by simp [qR]
 have:=Jm he (ht.app (.one h)) (i:=t.length) (by simp) hv
 rw [g0,List.take_left,List.take_of_length_le (by simp)] at this
 exact this
theorem QhG {t:List Int} (ht:InR l t) {r:Nat} {F F':List Int} (hF:InR l F) (h:F.Perm F'):fo l t r F=fo l t r F':=by
 unfold fo
 rw [h.length_eq,QX he (ht.app hF) (t':=t++F') fun x=>by rw [qL,qL,h.mem_iff]]
theorem S8 {t E E':List Int} (ht:InR l t) (hE:InR l E) (h:E.Perm E') (r:Nat):cnt l t E r=cnt l t E' r :=
 GK h fun F F' hF hFF=>QhG he ht (fun x hx=>hE x (hF x hx)) hFF
theorem Qfw {t E:List Int} {e:Int} (r:Nat):cnt l t (e::E) (r+1)=cnt l t E (r+1)+if (Qz l t).getD (sA l e).toNat 0≠(Qz l t).getD (sB l e).toNat 0 then cnt l (t++[e]) E r else 0:=by
 unfold cnt
 rw [Wt]
 congr 1
 have ha:=fun F:List Int=>YJ l (t++[e]) F
 have hs:=Xb l t e
 split
 ·rename_i c
  rw [if_pos c] at hs
  refine ZG fun F _=>?_
  have:=ha F
  unfold fo
  rw [List.append_cons]
  rw [decide_eq_decide,qD,hs,qB,jX]
  omega
 ·rename_i c
  rw [if_neg c] at hs
  refine ZM fun F _=>?_
  have:=ha F
  unfold fo
  rw [List.append_cons]
  rw [hs] at this
  refine decide_eq_false fun h=>?_
  rw [qD] at h
  omega
end
theorem cgm {p:Int} {cs:List Int} {f g:Int→Row}:∀{R:List Int},(∀r∈R,∀z∈cs,p∣f r z-g r z)→Cg p cs (R.map f) (R.map g)
 | [],_=>trivial
 | r::R,h=>⟨h r (qE ..),cgm fun q hq=>h q (qH _ hq)⟩
theorem Qo7 (m:Nat):(-1:Int) ^ (m+m)=1:=by rw [Int.pow_add];exact Qfu m
theorem DT {l:List St} {t:List Int} (K:List Int) (y:Int):∀E:List Int,(∀e∈E,(K.foldr (fun x s=>(dl (lb l t (sA l e)) x-dl (lb l t (sB l e)) x)+s) 0)=0)→K.foldr (fun x s=>Lp l t E x y+s) 0=0
 | [],_=>by induction K with
  | nil=>rfl
  | cons k K ih=>rw [qK,ih (fun e he=>by cases he)];rfl
 | e::E,h=>by
  have h1:=DT K y E fun f hf=>h f (qH _ hf)
  have h2:=h e (qE ..)
  have key:∀K:List Int,K.foldr (fun x s=>Lp l t (e::E) x y+s) 0=(K.foldr (fun x s=>(dl (lb l t (sA l e)) x-dl (lb l t (sB l e)) x)+s) 0)*(dl (lb l t (sA l e)) y-dl (lb l t (sB l e)) y)+K.foldr (fun x s=>Lp l t E x y+s) 0:=by
   intro K
   induction K with
   | nil=>simp
   | cons k K ih =>
    rw [qK,qK,qK,ih,Int.add_mul]
    have:Lp l t (e::E) k y=ed l t e k y+Lp l t E k y:=rfl
    rw [this,ed];omega
  rw [key,h1,h2];simp
theorem Qfx {K:List Int} (hn:K.Nodup) (a:Int):K.foldr (fun x s=>dl a x+s) 0=if a∈K then 1 else 0:=by
 induction K with
 | nil=>rfl
 | cons k K ih =>
  obtain ⟨n1,n2⟩:=List.nodup_cons.1 hn
  rw [qK,ih n2,dl]
  by_cases c:a=k
  ·subst c;rw [if_pos rfl,if_neg n1,if_pos (qE ..)];rfl
  ·rw [if_neg c]
   by_cases d:a∈K
   ·rw [if_pos d,if_pos (qH _ d)];rfl
   ·rw [if_neg d,if_neg (fun h=>(List.mem_cons.1 h).elim c d)];rfl
theorem Qo8 {K:List Int} (a b:Int):K.foldr (fun x s=>(dl a x-dl b x)+s) 0=K.foldr (fun x s=>dl a x+s) 0-K.foldr (fun x s=>dl b x+s) 0:=by
 induction K with
 | nil=>rfl
 | cons k K ih=>rw [qK,qK,qK,ih];omega
theorem Qfy (S:List Row) (x:Row) (y:Int):S.foldr (fun r y=>ax y 1 r) x y=x y+S.foldr (fun r s=>r y+s) 0:=by
 induction S with
 | nil=>simp
 | cons r S ih=>rw [qK,qK,ax,ih];omega
theorem Qa5 {l:List St} (he:ZY l=true) {t K F:List Int} (ht:InR l t) (hF:InR l F) (hn:K.Nodup) (hK:∀x∈K,(0≤x∧x<16)∧lb l t x=x) (h0:K≠[])
  (hc:∀e∈F,(lb l t (sA l e)∈K∧lb l t (sB l e)∈K)∨lb l t (sA l e)=lb l t (sB l e)):fo l t K.length F=false:=by
 refine decide_eq_false fun ⟨h1,h2⟩=>?_
 have htF:=ht.app hF
 have r1:=JF he ht
 have r2:=JF he htF
 let κ:Int→Int:=fun v=>if lb l t v∈K then -1 else lb l t v
 have hκ:∀u v:Int,Cn l (t++F) u v→κ u=κ v:=fun u v h=>by
  induction h with
  | refl v=>rfl
  | edge hk =>
   rcases List.mem_append.1 hk with c | c
   ·have e:=Uv he ht c
    show (if _ then _ else _)=(if _ then _ else _)
    rw [e]
   ·rcases hc _ c with ⟨d1,d2⟩ | d
    ·show (if _ then _ else _)=(if _ then _ else _)
     rw [if_pos d1,if_pos d2]
    ·show (if _ then _ else _)=(if _ then _ else _)
     rw [d]
  | symm _ ih=>exact ih.symm
  | trans _ _ a b=>exact a.trans b
 have mono:∀{v:Int},0≤v∧v<16→lb l (t++F) v≤lb l t v:=fun hv=>SY he ht htF (fun k hk=>qP _ hk) hv
 have st:∀v:Nat,v<16→lb l t (v:Int)=(v:Int)→(v:Int)∉K→lb l (t++F) (v:Int)=(v:Int):=fun v hv h hvK=>by
  have hr:0≤(v:Int)∧(v:Int)<16:=by omega
  have a1:=Zf he htF hr
  have a2:=hκ _ _ (ZJ he htF hr)
  have a3:=Zf he ht (v:=lb l (t++F) (v:Int)) (by omega)
  have e:κ (v:Int)=(v:Int):=by show (if _ then _ else _)=_;rw [h,if_neg hvK]
  rw [e] at a2
  have a2:(if lb l t (lb l (t++F) (v:Int))∈K then (-1:Int) else lb l t (lb l (t++F) (v:Int)))=(v:Int):=a2
  split at a2 <;> omega
 obtain ⟨k0,hk0⟩:=wR K h0
 obtain ⟨k1,k2⟩:=hK k0 hk0
 have b1:=Zf he htF k1
 have b2:=hκ _ _ (ZJ he htF k1)
 generalize hr:lb l (t++F) k0=r at *
 have hrr:0≤r∧r<16:=by omega
 have b3:=Zf he ht hrr
 have e0:κ k0=-1:=by show (if _ then _ else _)=_;rw [k2,if_pos hk0]
 rw [e0] at b2
 have b2:(if lb l t r∈K then (-1:Int) else lb l t r)=-1:=b2
 have hrK:lb l t r∈K:=by
  by_cases c:lb l t r∈K
  ·exact c
  ·rw [if_neg c] at b2;omega
 have b4:=VL he htF ((ZJ he ht hrr).mono fun k hk=>qP _ hk)
 rw [b1.2.2] at b4
 have b5:=Zf he htF (v:=lb l t r) (by omega)
 have hrt:lb l t r=r:=by omega
 rw [hrt] at hrK
 let R:List Int:=((qC 16).filter fun (v:Nat)=>decide ((Qz l t).getD v 0=(v:Int))).map fun (v:Nat)=>(v:Int)
 let R':List Int:=((qC 16).filter fun (v:Nat)=>decide ((Qz l (t++F)).getD v 0=(v:Int))).map fun (v:Nat)=>(v:Int)
 have hRl:R.length=rt (Qz l t):=by simp only [R,qQ];rfl
 have hRl':R'.length=rt (Qz l (t++F)):=by simp only [R',qQ];rfl
 have hRm:∀x,x∈R↔(0≤x∧x<16)∧lb l t x=x:=fun x=>by
  simp only [R,wA,jW,wC,decide_eq_true_eq]
  constructor
  ·rintro ⟨v,⟨v1,v2⟩,rfl⟩
   exact ⟨by omega,by rw [lb,jG];exact v2⟩
  ·rintro ⟨h1,h2⟩
   exact ⟨x.toNat,⟨by omega,by rw [lb] at h2;omega⟩,by omega⟩
 have hRm':∀x,x∈R'↔(0≤x∧x<16)∧lb l (t++F) x=x:=fun x=>by
  simp only [R',wA,jW,wC,decide_eq_true_eq]
  constructor
  ·rintro ⟨v,⟨v1,v2⟩,rfl⟩
   exact ⟨by omega,by rw [lb,jG];exact v2⟩
  ·rintro ⟨h1,h2⟩
   exact ⟨x.toNat,⟨by omega,by rw [lb] at h2;omega⟩,by omega⟩
 have hRn:R.Nodup:=by
  simp only [R]
  rw [List.Nodup,List.pairwise_map]
  exact (List.nodup_range.sublist jP).imp fun {a b} h c=>h (by omega)
 let R0:=R.filter fun x=>decide (x∉K)
 have c1:=Jd (a:=R) (b:=R0++K) hRn fun x hx=>by
  by_cases c:x∈K
  ·exact jU _ c
  ·exact qP _ (List.mem_filter.2 ⟨hx,decide_eq_true c⟩)
 have c2:=Jd (a:=r::R0) (b:=R') (List.nodup_cons.2 ⟨fun h=>of_decide_eq_true (List.mem_filter.1 h).2 hrK,hRn.sublist jP⟩) fun x hx=>by
  rcases List.mem_cons.1 hx with e | e
  ·subst e;exact (hRm' _).2 ⟨hrr,b1.2.2⟩
  ·obtain ⟨g1,g2⟩:=List.mem_filter.1 e
   obtain ⟨g3,g4⟩:=(hRm x).1 g1
   have:=st x.toNat (by omega) (by rw [show ((x.toNat:Nat):Int)=x by omega];exact g4) (by rw [show ((x.toNat:Nat):Int)=x by omega];exact of_decide_eq_true g2)
   rw [show ((x.toNat:Nat):Int)=x by omega] at this
   exact (hRm' x).2 ⟨g3,this⟩
 rw [qB] at c1
 rw [qD] at c2
 omega
theorem mt {l:List St} (he:ZY l=true) {χ:Int→Int}:∀(N:Nat) (t K E:List Int),K.length+E.length≤N→InR l t→InR l E→K.Nodup→(∀x∈K,(0≤x∧x<16)∧lb l t x=x) →
  (∀e∈E,χ (lb l t (sA l e))=χ (lb l t (sB l e)))→(∀x y,(0≤x∧x<16)∧lb l t x=x→(0≤y∧y<16)∧lb l t y=y→x∉K→y∉K→χ x=χ y→x=y) →
  det K (K.map (Lp l t E))=(cnt l t E K.length:Int):=by
 intro N
 induction N with
 | zero =>
  intro t K E h _ _ _ _ _ _
  have e1:K=[]:=List.length_eq_zero_iff.1 (by omega)
  have e2:E=[]:=List.length_eq_zero_iff.1 (by omega)
  subst e1;subst e2
  simp [det,cnt,Wt,fo]
 | succ N ih =>
  intro t K E hlen ht hE hn hK hC1 hC2
  have lbr:∀e∈E,((0≤lb l t (sA l e)∧lb l t (sA l e)<16)∧lb l t (lb l t (sA l e))=lb l t (sA l e))∧((0≤lb l t (sB l e)∧lb l t (sB l e)<16)∧lb l t (lb l t (sB l e))=lb l t (sB l e)):=fun e hm=>by
   obtain ⟨ea,eb⟩:=Kt he (hE e hm)
   exact ⟨⟨Ct he ht ea,(Zf he ht ea).2.2⟩,Ct he ht eb,(Zf he ht eb).2.2⟩
  by_cases hx:∃e∈E,(lb l t (sA l e)∈K∧lb l t (sB l e)∉K)∨(lb l t (sA l e)∉K∧lb l t (sB l e)∈K)
  ·obtain ⟨e,heE,hcase⟩:=hx
   obtain ⟨⟨ra,la⟩,rb,lbb⟩:=lbr e heE
   have hCe:=hC1 e heE
   have her:=hE e heE
   obtain ⟨a,b,haK,hbK,hab,hra,hrb,hla,hlb,hχ,hsym,hed⟩:∃a b,a∈K∧b∉K∧a≠b∧(0≤a∧a<16)∧(0≤b∧b<16)∧lb l t a=a∧lb l t b=b∧χ a=χ b ∧
     ((lb l t (sA l e)=a∧lb l t (sB l e)=b)∨(lb l t (sA l e)=b∧lb l t (sB l e)=a))∧∀x∈K,∀y∈K,ed l t e x y=dl a x*dl a y:=by
    rcases hcase with ⟨c1,c2⟩ | ⟨c1,c2⟩
    ·refine ⟨_,_,c1,c2,fun c=>c2 (c▸c1),ra,rb,la,lbb,hCe,.inl ⟨rfl,rfl⟩,fun x hx y hy=>?_⟩
     have n1:lb l t (sB l e)≠x:=fun c=>c2 (c▸hx)
     have n2:lb l t (sB l e)≠y:=fun c=>c2 (c▸hy)
     simp only [ed,dl,if_neg n1,if_neg n2,Int.sub_zero]
    ·refine ⟨_,_,c2,c1,fun c=>c1 (c▸c2),rb,ra,lbb,la,hCe.symm,.inr ⟨rfl,rfl⟩,fun x hx y hy=>?_⟩
     have n1:lb l t (sA l e)≠x:=fun c=>c1 (c▸hx)
     have n2:lb l t (sA l e)≠y:=fun c=>c1 (c▸hy)
     simp only [ed,dl,if_neg n1,if_neg n2,Int.zero_sub,Int.neg_mul_neg]
   obtain ⟨E1,E2,rfl⟩:=zG heE
   have hE':InR l (E1++E2):=fun x hx=>hE x (by simp only [qL,jE] at hx ⊢;rcases hx with h | h;exact .inl h;exact .inr (.inr h))
   have hin:∀x∈E1++E2,x∈E1++e::E2:=fun x hx=>by simp only [qL,jE] at hx ⊢;rcases hx with h | h;exact .inl h;exact .inr (.inr h)
   obtain ⟨X,Y,rfl⟩:=zG haK
   have hne:∀x∈X++Y,x≠a:=fun x hx c=>by
    subst c
    have h:=hn
    rw [List.nodup_append] at h
    obtain ⟨_,h2,h3⟩:=h
    rcases List.mem_append.1 hx with q | q
    ·exact h3 x q x (qE ..) rfl
    ·exact (List.nodup_cons.1 h2).1 q
   have hnX:a∉X:=fun h=>hne a (qP _ h) rfl
   have hnY:a∉Y:=fun h=>hne a (jU _ h) rfl
   have hsub:∀x∈X++Y,x∈X++a::Y:=fun x hx=>by simp only [qL,jE] at hx ⊢;rcases hx with h | h;exact .inl h;exact .inr (.inr h)
   have hnXY:(X++Y).Nodup:=hn.sublist ((List.Sublist.refl X).append (List.sublist_cons_self a Y))
   have hrow:∀x∈X++Y,∀y∈X++a::Y,(0:Int)∣Lp l t (E1++e::E2) x y-Lp l t (E1++E2) x y:=fun x hx y hy=>by
    rw [CH,hed x (hsub x hx) y hy,dl,if_neg (fun c=>hne x hx c.symm),Int.zero_mul]
    simp
   have hR:Cg 0 (X++a::Y) ((X++a::Y).map (Lp l t (E1++e::E2))) (X.map (Lp l t (E1++E2))++ax (Lp l t (E1++E2) a) 1 (un a)::Y.map (Lp l t (E1++E2))):=by
    rw [jN,jA]
    refine Cg.app (cgm fun x hx y hy=>hrow x (qP _ hx) y hy) ⟨fun y hy=>?_,cgm fun x hx y hy=>hrow x (jU _ hx) y hy⟩
    rw [CH,hed a haK y hy,ax,un,dl,dl,if_pos rfl]
    by_cases c:a=y
    ·rw [if_pos c,if_pos c.symm];simp;omega
    ·rw [if_neg c,if_neg (fun d=>c d.symm)];simp
   rw [CG hR,Vd (X++a::Y),jI,S7 Y X hnX hnY,qQ,Qo7,jI]
   have i1:=ih t (X++a::Y) (E1++E2) (by simp only [qB,qD] at hlen ⊢;omega) ht hE' hn hK (fun f hf=>hC1 f (hin f hf)) hC2
   rw [jN,jA] at i1
   rw [i1]
   have htt:=ht.app (.one her)
   have hS:∀v,0≤v∧v<16→lb l (t++[e]) v=WO (min a b) (max a b) (lb l t v):=fun v hv=>by
    rw [QhF he ht her hv]
    rcases hsym with ⟨s1,s2⟩ | ⟨s1,s2⟩
    ·rw [s1,s2]
    ·rw [s1,s2,Int.min_comm,Int.max_comm]
   have hroot:∀x∈X++Y,lb l (t++[e]) x=x:=fun x hx=>by
    obtain ⟨k1,k2⟩:=hK x (hsub x hx)
    rw [hS x k1,k2,WO]
    have h1:=hne x hx
    have h2:x≠b:=fun c=>hbK (c▸hsub x hx)
    rw [if_neg (by omega)]
   have hdl:∀v,0≤v∧v<16→∀x∈X++Y,dl (lb l (t++[e]) v) x=dl (lb l t v) x:=fun v hv x hx=>by
    have h1:=hne x hx
    have h2:x≠b:=fun c=>hbK (c▸hsub x hx)
    rw [hS v hv,WO,dl,dl]
    split
    ·rename_i c
     rw [if_neg (by omega),if_neg (by omega)]
    ·rfl
   have hR2:Cg 0 (X++Y) (X.map (Lp l t (E1++E2))++Y.map (Lp l t (E1++E2))) ((X++Y).map (Lp l (t++[e]) (E1++E2))):=by
    rw [← jN]
    refine cgm fun x hx y hy=>?_
    have:Lp l t (E1++E2) x y=Lp l (t++[e]) (E1++E2) x y:=by
     have key:∀E:List Int,InR l E→Lp l t E x y=Lp l (t++[e]) E x y:=by
      intro E
      induction E with
      | nil=>intro _;rfl
      | cons f E ihE =>
       intro hEr
       have h1:=ihE fun z hz=>hEr z (qH _ hz)
       obtain ⟨fa,fb⟩:=Kt he (hEr f (qE ..))
       show ed l t f x y+Lp l t E x y=ed l (t++[e]) f x y+Lp l (t++[e]) E x y
       rw [h1,ed,ed,hdl _ fa x hx,hdl _ fb x hx,hdl _ fa y hy,hdl _ fb y hy]
     exact key _ hE'
    rw [this];simp
   rw [CG hR2]
   have hch:∀v,0≤v∧v<16→χ (lb l (t++[e]) v)=χ (lb l t v):=fun v hv=>by
    rw [hS v hv,WO]
    split
    ·rename_i c
     rw [c]
     rcases Int.le_total a b with q | q
     ·rw [Int.min_eq_left q,Int.max_eq_right q];exact hχ
     ·rw [Int.min_eq_right q,Int.max_eq_left q];exact hχ.symm
    ·rfl
   have i2:=ih (t++[e]) (X++Y) (E1++E2) (by simp only [qB,qD] at hlen ⊢;omega) htt hE' hnXY (fun x hx=>⟨(hK x (hsub x hx)).1,hroot x hx⟩)
    (fun f hf=>by
     obtain ⟨fa,fb⟩:=Kt he (hE' f hf)
     rw [hch _ fa,hch _ fb]
     exact hC1 f (hin f hf))
    (fun x y ⟨x1,x2⟩ ⟨y1,y2⟩ xK yK hxy=>by
     have rt0:∀z,(0≤z∧z<16)→lb l (t++[e]) z=z→z∉X++Y→lb l t z=z∧z≠max a b∧(z=a∨z∉X++a::Y):=fun z z1 z2 zK=>by
      have h1:=SY he ht htt (fun k hk=>qP _ hk) z1
      have h2:=Zf he ht z1
      have h3:lb l t z=z:=by omega
      refine ⟨h3,fun c=>?_,?_⟩
      ·rw [hS z z1,h3,WO,if_pos c] at z2
       omega
      ·by_cases c:z=a
       ·exact .inl c
       ·right
        intro h
        simp only [qL,jE] at h zK
        rcases h with h | h | h
        ·exact zK (.inl h)
        ·exact c h
        ·exact zK (.inr h)
     obtain ⟨p1,p2,p3⟩:=rt0 x x1 x2 xK
     obtain ⟨q1,q2,q3⟩:=rt0 y y1 y2 yK
     rcases p3 with p3 | p3
     ·rcases q3 with q3 | q3
      ·rw [p3,q3]
      ·-- y has the part of b
       exfalso
       have:y=b:=hC2 y b ⟨y1,q1⟩ ⟨hrb,hlb⟩ q3 hbK (by rw [← hxy,p3];exact hχ)
       omega
     ·rcases q3 with q3 | q3
      ·exfalso
       have:x=b:=hC2 x b ⟨x1,p1⟩ ⟨hrb,hlb⟩ p3 hbK (by rw [hxy,q3];exact hχ)
       omega
      ·exact hC2 x y ⟨x1,p1⟩ ⟨y1,q1⟩ p3 q3 hxy)
   rw [i2]
   have hj:(Qz l t).getD (sA l e).toNat 0≠(Qz l t).getD (sB l e).toNat 0:=by
    show lb l t (sA l e)≠lb l t (sB l e)
    rcases hsym with ⟨s1,s2⟩ | ⟨s1,s2⟩
    ·rw [s1,s2];exact hab
    ·rw [s1,s2];exact hab.symm
   have hl:(X++a::Y).length=(X++Y).length+1:=by simp only [qB,qD];omega
   rw [S8 he ht hE (List.perm_middle (l₁:=E1) (l₂:=E2) (a:=e)),hl,Qfw he (t:=t) (E:=E1++E2) (e:=e) (X++Y).length,if_pos hj]
   omega
  ·-- no street leads out of K
   have hno:∀e∈E,(lb l t (sA l e)∈K∧lb l t (sB l e)∈K)∨(lb l t (sA l e)∉K∧lb l t (sB l e)∉K∧lb l t (sA l e)=lb l t (sB l e)):=fun e hm=>by
    by_cases c1:lb l t (sA l e)∈K
    ·by_cases c2:lb l t (sB l e)∈K
     ·exact .inl ⟨c1,c2⟩
     ·exact absurd ⟨e,hm,.inl ⟨c1,c2⟩⟩ hx
    ·by_cases c2:lb l t (sB l e)∈K
     ·exact absurd ⟨e,hm,.inr ⟨c1,c2⟩⟩ hx
     ·obtain ⟨h1,h2⟩:=lbr e hm
      exact .inr ⟨c1,c2,hC2 _ _ h1 h2 c1 c2 (hC1 e hm)⟩
   match K,hn,hK,hno with
   | [],_,_,_ =>
    have:cnt l t E 0=1:=GL (by simp [fo]) E fun F hF=>decide_eq_false fun h=>hF (List.length_eq_zero_iff.1 h.2)
    rw [jQ,this];rfl
   | k::K,hn,hK,hno =>
    have h0:cnt l t E (k::K).length=0:=ZM fun F hF=>Qa5 he ht (fun x hx=>hE x (hF.subset hx)) hn hK (by simp) fun e hm=>by
     rcases hno e (hF.subset hm) with h | h
     ·exact .inl h
     ·exact .inr h.2.2
    rw [h0]
    have hz:∀y,(k::K).foldr (fun x s=>Lp l t E x y+s) 0=0:=fun y=>DT (k::K) y E fun e hm=>by
     rw [Qo8,Qfx hn,Qfx hn]
     rcases hno e hm with ⟨h1,h2⟩ | ⟨h1,h2,_⟩
     ·rw [if_pos h1,if_pos h2];rfl
     ·rw [if_neg h1,if_neg h2];rfl
    have h1:=GJ (Vd (k::K)) (UA (k::K)) (Lp l t E k) (K.map (Lp l t E)) (K.map (Lp l t E)) fun r hr=>hr
    rw [jA,← h1]
    have h2:det (k::K) ((K.map (Lp l t E)).foldr (fun r y=>ax y 1 r) (Lp l t E k)::K.map (Lp l t E))=det (k::K) ([]++(fun _=>0)::K.map (Lp l t E)):=CG ⟨fun y _=>by
     rw [Qfy,List.foldr_map]
     have:=hz y
     rw [qK] at this
     rw [this];simp,Cg.refl ..⟩
    rw [h2,zero_row (Vd (k::K))];rfl
theorem GM {K2:List Int} {R2:List Row}:∀{K1:List Int} {R1:List Row},R1.length=K1.length→(∀r∈R2,∀c∈K1,r c=0)→det (K1++K2) (R1++R2)=det K1 R1*det K2 R2
 | [],R1,h,_=>by rw [List.length_eq_zero_iff.1 h];simp [det]
 | c::K1,R1,h,hz=>by
  have key:∀(R P:List Row) (s:Int),P.length+R.length=K1.length+1→ex (det (K1++K2)) c P (R++R2) s=ex (det K1) c P R s*det K2 R2:=by
   intro R
   induction R with
   | nil =>
    intro P s _
    rw [qI,UB R2 P s fun r hr=>hz r hr c (qE ..)]
    simp [ex]
   | cons r R ih =>
    intro P s hl
    rw [qD] at hl
    have h1:=GM (K2:=K2) (R2:=R2) (K1:=K1) (R1:=P++R) (by rw [qB];omega) fun r hr c hc=>hz r hr c (qH _ hc)
    have h2:=ih (P++[r]) (-s) (by rw [qB,jX];omega)
    rw [qG] at h1
    rw [qF,ex,ex,h1,h2,Int.add_mul];simp only [qT]
  exact key R1 [] 1 (by rw [h,qD,jQ];omega)
def vt (l:List St) (P E:List Int) (n:Nat) (top:Int):List Int:=((qC n).filter fun (v:Nat)=>decide (lb l P (v:Int)=(v:Int)∧lb l (P++E) (v:Int)=top)).map fun (v:Nat)=>(v:Int)
theorem vt_mem {l:List St} {P E:List Int} {n:Nat} {top x:Int}:x∈vt l P E n top↔(0≤x∧x<(n:Int))∧lb l P x=x∧lb l (P++E) x=top:=by
 simp only [vt,wA,jW,wC,decide_eq_true_eq]
 constructor
 ·rintro ⟨v,⟨v1,v2,v3⟩,rfl⟩
  exact ⟨by omega,v2,v3⟩
 ·rintro ⟨h1,h2,h3⟩
  have e:((x.toNat:Nat):Int)=x:=by omega
  exact ⟨x.toNat,⟨by omega,by rw [e];exact h2,by rw [e];exact h3⟩,e⟩
theorem DU (l:List St) (P E:List Int) (n:Nat) (top:Int):(vt l P E n top).Nodup:=by
 rw [vt,List.Nodup,List.pairwise_map]
 exact (List.nodup_range.sublist jP).imp fun {a b} h c=>h (by omega)
structure Cut (cut:List Int→List Int):Prop where
 sub:∀V,(cut V).Sublist V
 len:∀V,(cut V).length=V.length-1
theorem Cut.one {cut:List Int→List Int} (h:Cut cut) {V:List Int} (hn:V.Nodup) {x y:Int} (hx:x∈V) (hy:y∈V) (hx':x∉cut V) (hy':y∉cut V):x=y:=by
 by_cases e:x=y
 ·exact e
 ·exfalso
  have:=Jd (a:=x::y::cut V) (b:=V) (List.nodup_cons.2 ⟨fun c=>(List.mem_cons.1 c).elim e hx',List.nodup_cons.2 ⟨hy',hn.sublist (h.sub V)⟩⟩) fun z hz=>by
   rcases List.mem_cons.1 hz with c | c
   ·exact c▸hx
   ·rcases List.mem_cons.1 c with c | c
    ·exact c▸hy
    ·exact (h.sub V).subset c
  have:=h.len V
  simp only [qD] at *
  omega
theorem Yk:Cut List.dropLast:=⟨fun V=>List.dropLast_sublist V,fun V=>List.length_dropLast⟩
def VQ (cut:List Int→List Int) (l:List St) (P E:List Int) (n:Nat):Nat→List Int
 | 0=>[]
 | m+1=>VQ cut l P E n m++cut (vt l P E n (m:Int))
def Uk (cut:List Int→List Int) (l:List St) (P E:List Int) (n:Nat):Nat→Int
 | 0=>1
 | m+1=>Uk cut l P E n m*det (cut (vt l P E n (m:Int))) ((cut (vt l P E n (m:Int))).map (Lp l P E))
theorem kall_mem {cut:List Int→List Int} {l:List St} {P E:List Int} {n:Nat} {x:Int}:∀{m:Nat},x∈VQ cut l P E n m↔∃top:Nat,top<m∧x∈cut (vt l P E n (top:Int))
 | 0=>by simp [VQ]
 | m+1=>by
  rw [VQ,qL,kall_mem]
  constructor
  ·rintro (⟨t,h1,h2⟩ | h)
   ·exact ⟨t,by omega,h2⟩
   ·exact ⟨m,by omega,h⟩
  ·rintro ⟨t,h1,h2⟩
   rcases Nat.lt_or_eq_of_le (Nat.le_of_lt_succ h1) with c | c
   ·exact .inl ⟨t,c,h2⟩
   ·subst c;exact .inr h2
section
variable {n:Int} {l:List St} (hnet:Ww n l=true) {P E:List Int} (hP:InR l P) (hE:InR l E) {cut:List Int→List Int} (hcut:Cut cut)
include hnet hP hE
theorem GN {v:Int} (hv:0≤v∧v<16):lb l (P++E) (lb l P v)=lb l (P++E) v :=
 VL (QA hnet) (hP.app hE) ((ZJ (QA hnet) hP hv).mono fun k hk=>qP _ hk)
theorem Qfz {e:Int} (h:e∈E):lb l (P++E) (sA l e)=lb l (P++E) (sB l e):=Uv (QA hnet) (hP.app hE) (jU _ h)
theorem QhH {x y:Int} (hx:(0≤x∧x<16)∧lb l P x=x) (hy:(0≤y∧y<16)∧lb l P y=y) (hne:lb l (P++E) x≠lb l (P++E) y):Lp l P E x y=0:=by
 have he:=QA hnet
 have key:∀F:List Int,(∀e∈F,e∈E)→Lp l P F x y=0:=by
  intro F
  induction F with
  | nil=>intro _;rfl
  | cons e F ih =>
   intro hF
   have heE:=hF e (qE ..)
   obtain ⟨ea,eb⟩:=Kt he (hE e heE)
   have a1:=GN hnet hP hE ea
   have b1:=GN hnet hP hE eb
   have c1:=Qfz hnet hP hE heE
   show ed l P e x y+Lp l P F x y=0
   rw [ih fun z hz=>hF z (qH _ hz),ed,dl,dl,dl,dl]
   have q1:lb l P (sA l e)=x→lb l (P++E) (sA l e)=lb l (P++E) x:=fun c=>by rw [← a1,c]
   have q2:lb l P (sB l e)=x→lb l (P++E) (sA l e)=lb l (P++E) x:=fun c=>by rw [c1,← b1,c]
   have q3:lb l P (sA l e)=y→lb l (P++E) (sA l e)=lb l (P++E) y:=fun c=>by rw [← a1,c]
   have q4:lb l P (sB l e)=y→lb l (P++E) (sA l e)=lb l (P++E) y:=fun c=>by rw [c1,← b1,c]
   by_cases d1:lb l P (sA l e)=x∨lb l P (sB l e)=x
   ·have d2:¬lb l P (sA l e)=y:=fun c=>hne (by rcases d1 with d | d;rw [← q1 d,q3 c];rw [← q2 d,q3 c])
    have d3:¬lb l P (sB l e)=y:=fun c=>hne (by rcases d1 with d | d;rw [← q1 d,q4 c];rw [← q2 d,q4 c])
    rw [if_neg d2,if_neg d3];simp
   ·rw [if_neg fun c=>d1 (.inl c),if_neg fun c=>d1 (.inr c)];simp
 exact key E fun e h=>h
end
section
variable {n:Int} {l:List St} (hnet:Ww n l=true) {P E:List Int} (hP:InR l P) (hE:InR l E) {cut:List Int→List Int} (hcut:Cut cut)
include hnet hP hE
include hcut
theorem Qdb {m:Nat} {x:Int} (h:x∈VQ cut l P E n.toNat m):(0≤x∧x<16)∧lb l P x=x:=by
 obtain ⟨⟨n1,n2⟩,_⟩:=QE hnet
 obtain ⟨t,_,h2⟩:=kall_mem.1 h
 have:=vt_mem.1 ((hcut.sub _).subset h2)
 exact ⟨by omega,this.2.1⟩
theorem DV:∀m,(VQ cut l P E n.toNat m).Nodup
 | 0=>List.nodup_nil
 | m+1=>by
  rw [VQ]
  refine List.nodup_append.2 ⟨DV m,(DU ..).sublist (hcut.sub _),fun a ha b hb c=>?_⟩
  subst c
  obtain ⟨t,h1,h2⟩:=kall_mem.1 ha
  have e1:=(vt_mem.1 ((hcut.sub _).subset h2)).2.2
  have e2:=(vt_mem.1 ((hcut.sub _).subset hb)).2.2
  omega
theorem S9:∀m,Uk cut l P E n.toNat m=det (VQ cut l P E n.toNat m) ((VQ cut l P E n.toNat m).map (Lp l P E))
 | 0=>rfl
 | m+1=>by
  obtain ⟨⟨n1,n2⟩,_⟩:=QE hnet
  rw [Uk,S9 m,VQ,jN,GM (by rw [qQ])]
  intro r hr c hc
  obtain ⟨x,hx,rfl⟩:=List.mem_map.1 hr
  have hx':=vt_mem.1 ((hcut.sub _).subset hx)
  obtain ⟨t,h1,h2⟩:=kall_mem.1 hc
  have hc':=vt_mem.1 ((hcut.sub _).subset h2)
  exact QhH hnet hP hE ⟨by omega,hx'.2.1⟩ ⟨by omega,hc'.2.1⟩ (by rw [hx'.2.2,hc'.2.2];omega)
theorem DW:Uk cut l P E n.toNat n.toNat=(cnt l P E (VQ cut l P E n.toNat n.toNat).length:Int):=by
 have he:=QA hnet
 obtain ⟨⟨n1,n2⟩,_⟩:=QE hnet
 have hE':∀k,0≤k∧k<(l.length:Int)→sA l k<n∧sB l k<n:=fun k hk=>by have:=JZ hnet hk;omega
 rw [S9 hnet hP hE hcut]
 refine mt he (χ:=fun v=>lb l (P++E) v) _ P _ E (qN _) hP hE (DV hnet hP hE hcut _) (fun x hx=>Qdb hnet hP hE hcut hx) (fun e hm=>?_) fun x y hx hy hxK hyK hxy=>?_
 ·obtain ⟨ea,eb⟩:=Kt he (hE e hm)
  show lb l (P++E) (lb l P (sA l e))=lb l (P++E) (lb l P (sB l e))
  rw [GN hnet hP hE ea,GN hnet hP hE eb,Qfz hnet hP hE hm]
 ·have hxy:lb l (P++E) x=lb l (P++E) y:=hxy
  have o1:=Cy hE' (hP.app hE) (ZJ he (hP.app hE) hx.1)
  have o2:=Cy hE' (hP.app hE) (ZJ he (hP.app hE) hy.1)
  have r1:=Zf he (hP.app hE) hx.1
  have r2:=Zf he (hP.app hE) hy.1
  by_cases cx:x<n
  ·have hyn:y<n:=by omega
   have htop:lb l (P++E) x<n:=by omega
   have v1:x∈vt l P E n.toNat (((lb l (P++E) x).toNat:Nat):Int):=vt_mem.2 ⟨by omega,hx.2,by omega⟩
   have v2:y∈vt l P E n.toNat (((lb l (P++E) x).toNat:Nat):Int):=vt_mem.2 ⟨by omega,hy.2,by omega⟩
   exact hcut.one (DU ..) v1 v2 (fun c=>hxK (kall_mem.2 ⟨_,by omega,c⟩)) (fun c=>hyK (kall_mem.2 ⟨_,by omega,c⟩))
  ·omega
theorem DX:(VQ cut l P E n.toNat n.toNat).length+(tkT l P).length=(tkT l (P++E)).length:=by
 have he:=QA hnet
 obtain ⟨⟨n1,n2⟩,_⟩:=QE hnet
 have r1:=Qb9 hnet hP
 have r2:=Qb9 hnet (hP.app hE)
 have hE':∀k,0≤k∧k<(l.length:Int)→sA l k<n∧sB l k<n:=fun k hk=>by have:=JZ hnet hk;omega
 have key:∀m:Nat,(VQ cut l P E n.toNat m).length+((qC m).filter fun (t:Nat)=>decide (vt l P E n.toNat (t:Int)≠[])).length=((rts l P n.toNat).filter fun (v:Nat)=>decide (lb l (P++E) (v:Int)<(m:Int))).length:=by
  intro m
  induction m with
  | zero =>
   have:((rts l P n.toNat).filter fun (v:Nat)=>decide (lb l (P++E) (v:Int)<((0:Nat):Int)))=[]:=List.filter_eq_nil_iff.2 fun v hv h=>by
    have hv:=List.mem_range.1 (List.mem_filter.1 hv).1
    have:=Zf he (hP.app hE) (v:=(v:Int)) (by omega)
    have:=of_decide_eq_true h
    omega
   rw [this];rfl
  | succ m ih =>
   have h1:((rts l P n.toNat).filter fun (v:Nat)=>decide (lb l (P++E) (v:Int)<((m+1:Nat):Int))).length=((rts l P n.toNat).filter fun (v:Nat)=>decide (lb l (P++E) (v:Int)<(m:Int))).length+(vt l P E n.toNat (m:Int)).length:=by
    have e:(vt l P E n.toNat (m:Int)).length=((rts l P n.toNat).filter fun (v:Nat)=>decide (lb l (P++E) (v:Int)=(m:Int))).length:=by
     rw [vt,qQ,rts,List.filter_filter]
     refine congrArg _ (zY fun v _=>?_)
     rw [← Bool.decide_and,decide_eq_decide]
     exact ⟨fun h=>⟨h.2,h.1⟩,fun h=>⟨h.2,h.1⟩⟩
    rw [e]
    have gen:∀s:List Nat,(s.filter fun (v:Nat)=>decide (lb l (P++E) (v:Int)<((m+1:Nat):Int))).length=(s.filter fun (v:Nat)=>decide (lb l (P++E) (v:Int)<(m:Int))).length+(s.filter fun (v:Nat)=>decide (lb l (P++E) (v:Int)=(m:Int))).length:=by
     intro s
     induction s with
     | nil=>rfl
     | cons v s ihs =>
      simp only [wD]
      by_cases c1:lb l (P++E) (v:Int)<(m:Int)
      ·have c2:lb l (P++E) (v:Int)<((m+1:Nat):Int):=by omega
       have c3:¬lb l (P++E) (v:Int)=(m:Int):=by omega
       simp only [c1,c2,c3,decide_true,decide_false,if_true,wE,if_false,qD];omega
      ·by_cases c3:lb l (P++E) (v:Int)=(m:Int)
       ·have c2:lb l (P++E) (v:Int)<((m+1:Nat):Int):=by omega
        simp only [decide_eq_false c1,decide_eq_true c2,decide_eq_true c3,if_true,wE,if_false,qD]
        omega
       ·have c2:¬lb l (P++E) (v:Int)<((m+1:Nat):Int):=by omega
        simp only [c1,c2,c3,decide_false,wE,if_false];omega
    exact gen _
   rw [h1,← ih,VQ,qB,hcut.len,List.range_succ,zX,qB]
   by_cases c:vt l P E n.toNat (m:Int)=[]
   ·rw [c]
    simp [c]
   ·have:1≤(vt l P E n.toNat (m:Int)).length:=List.length_pos_iff.2 c
    simp only [wD,List.filter_nil,ne_eq,c,not_false_eq_true,decide_true,if_true,jX]
    revert this
    generalize (vt l P E n.toNat (m:Int)).length=z
    generalize (List.filter _ (qC m)).length=y
    generalize (VQ cut l P E n.toNat m).length=x
    intro this
    omega
 have k:=key n.toNat
 have e1:((rts l P n.toNat).filter fun (v:Nat)=>decide (lb l (P++E) (v:Int)<((n.toNat:Nat):Int)))=rts l P n.toNat:=List.filter_eq_self.2 fun v hv=>by
  have hv:=List.mem_range.1 (List.mem_filter.1 hv).1
  have:=Zf he (hP.app hE) (v:=(v:Int)) (by omega)
  exact decide_eq_true (by omega)
 have e2:((qC n.toNat).filter fun (t:Nat)=>decide (vt l P E n.toNat (t:Int)≠[]))=rts l (P++E) n.toNat:=zY fun v hv=>by
  have hv:=List.mem_range.1 hv
  have hr:0≤(v:Int)∧(v:Int)<16:=by omega
  rw [decide_eq_decide]
  constructor
  ·intro h
   obtain ⟨x,hx⟩:=wR _ h
   obtain ⟨x1,x2,x3⟩:=vt_mem.1 hx
   have:=Zf he (hP.app hE) (v:=x) (by omega)
   rw [x3] at this
   exact this.2.2
  ·intro h c
   have h1:=SY he hP (hP.app hE) (fun k hk=>qP _ hk) hr
   have h2:=Zf he hP hr
   have:(v:Int)∈vt l P E n.toNat (v:Int):=vt_mem.2 ⟨by omega,by omega,h⟩
   rw [c] at this
   cases this
 rw [e1,e2] at k
 omega
end
def ofW (l:List St) (x:Int) (t:List Int):List Int:=t.filter fun k=>decide (wOf l k=x)
theorem of_mem {l:List St} {x:Int} {t:List Int} {y:Int}:y∈ofW l x t↔y∈t∧wOf l y=x:=by rw [ofW,jW,decide_eq_true_eq]
abbrev rk (l:List St) (t:List Int):Nat:=(tkT l t).length
abbrev alS (l:List St):List Int:=Qg l.length
theorem GO (l:List St):InR l (alS l):=fun k hk=>startT_mem.1 hk
theorem Ui (l:List St) (x:Int):InR l (loW l x (alS l)):=fun k hk=>GO l k (lo_mem.1 hk).1
theorem GP (l:List St) (x:Int):InR l (ofW l x (alS l)):=fun k hk=>GO l k (of_mem.1 hk).1
section
variable {n:Int} {l:List St} (hnet:Ww n l=true)
include hnet
theorem QfA {cut cut':List Int→List Int} (hc:Cut cut) (hc':Cut cut') {P P' E E':List Int} (hP:InR l P) (hE:InR l E) (hs:∀k,k∈P↔k∈P') (hp:E.Perm E') :
  Uk cut l P E n.toNat n.toNat=Uk cut' l P' E' n.toNat n.toNat:=by
 have he:=QA hnet
 have hP':InR l P':=fun k hk=>hP k ((hs k).2 hk)
 have hE':InR l E':=fun k hk=>hE k (hp.mem_iff.2 hk)
 rw [DW hnet hP hE hc,DW hnet hP' hE' hc']
 have k1:=DX hnet hP hE hc
 have k2:=DX hnet hP' hE' hc'
 have e1:=QX he hP hs
 have e2:rk l (P++E)=rk l (P'++E'):=QX he (hP.app hE) fun k=>by rw [qL,qL,hs,hp.mem_iff]
 unfold rk at e2
 have e3:(VQ cut l P E n.toNat n.toNat).length=(VQ cut' l P' E' n.toNat n.toNat).length:=by omega
 rw [e3,S8 he hP hE hp]
 refine congrArg _ (ZG fun F hF=>?_)
 unfold fo
 rw [e1,QX he (hP.app fun x hx=>hE' x (hF.subset hx)) (t':=P'++F) fun k=>by rw [qL,qL,hs]]
theorem Qdc {F P:List Int} (hP:InR l P) (hF:∀k∈F,k∈P) (hr:rk l F=rk l P) {u v:Int} (h:Cn l P u v):Cn l F u v:=by
 have he:=QA hnet
 have hFi:InR l F:=fun k hk=>hP k (hF k hk)
 induction h with
 | refl v=>exact .refl v
 | symm _ ih=>exact .symm ih
 | trans _ _ a b=>exact .trans a b
 | @edge k hk =>
  obtain ⟨ea,eb⟩:=Kt he (hP k hk)
  refine (YH he hFi ea eb).1 ?_
  have h1:=Xb l F k
  by_cases c:(Qz l F).getD (sA l k).toNat 0=(Qz l F).getD (sB l k).toNat 0
  ·exact c
  ·exfalso
   rw [if_pos c] at h1
   have h2:=Xd he (t:=F++[k]) (t':=P) (hFi.app (.one (hP k hk))) hP fun u v huv=>huv.mono fun x hx=>(List.mem_append.1 hx).elim (hF x) fun e=>(List.mem_singleton.1 e)▸hk
   rw [h1,qB,jX] at h2
   unfold rk at hr
   omega
theorem QfB {F P:List Int} (hP:InR l P) (hF:∀k∈F,k∈P):rk l F≤rk l P :=
 Xd (QA hnet) (fun k hk=>hP k (hF k hk)) hP fun _ _ huv=>huv.mono hF
theorem Qo9 {F P G:List Int} (hP:InR l P) (hG:InR l G) (hF:∀k∈F,k∈P) (hr:rk l F=rk l P):rk l (F++G)=rk l (P++G):=by
 have hFi:InR l F:=fun k hk=>hP k (hF k hk)
 refine Nat.le_antisymm (QfB hnet (hP.app hG) fun k hk=>(List.mem_append.1 hk).elim (fun h=>qP _ (hF k h)) (jU _)) ?_
 refine Xd (QA hnet) (hP.app hG) (hFi.app hG) fun u v huv=>?_
 induction huv with
 | refl v=>exact .refl v
 | symm _ ih=>exact .symm ih
 | trans _ _ a b=>exact .trans a b
 | @edge k hk =>
  rcases List.mem_append.1 hk with c | c
  ·exact (Qdc hnet hP hF hr (.edge c)).mono fun x hx=>qP _ hx
  ·exact .edge (jU _ c)
end
def cN (l:List St):Nat→Nat
 | 0=>1
 | w+1=>cN l w*cnt l (loW l ((w:Int)-1) (alS l)) (ofW l w (alS l)) (rk l (loW l w (alS l))-rk l (loW l ((w:Int)-1) (alS l)))
def cW (cut:List Int→List Int) (n:Int) (l:List St):Nat→Int
 | 0=>1
 | w+1=>cW cut n l w*Uk cut l (loW l ((w:Int)-1) (alS l)) (ofW l w (alS l)) n.toNat n.toNat
def XR (l:List St) (w:Nat) (F:List Int):Bool:=decide (rk l F=F.length∧∀x:Nat,x<w→(loW l x F).length=rk l (loW l x (alS l)))
theorem Yl (l:List St) (w:Int):∀t:List Int,(loW l w t).Perm (loW l (w-1) t++ofW l w t)
 | []=>.refl _
 | k::t=>by
  have ih:=Yl l w t
  unfold loW ofW at *
  simp only [wD]
  by_cases c:wOf l k≤w-1
  ·rw [decide_eq_true c,decide_eq_true (by omega),decide_eq_false (by omega)]
   exact ih.cons k
  ·by_cases c2:wOf l k=w
   ·rw [decide_eq_false c,decide_eq_true (by omega),decide_eq_true c2]
    exact (ih.cons k).trans List.perm_middle.symm
   ·rw [decide_eq_false c,decide_eq_false (by omega),decide_eq_false c2]
    exact ih
theorem CI {l:List St} {x:Int} {t:List Int} (h:∀k∈t,wOf l k≤x):loW l x t=t:=List.filter_eq_self.2 fun k hk=>decide_eq_true (h k hk)
theorem CJ {l:List St} {x:Int} {t:List Int} (h:∀k∈t,x<wOf l k):loW l x t=[]:=List.filter_eq_nil_iff.2 fun k hk c=>by have:=h k hk;have:=of_decide_eq_true c;omega
theorem Qpa (l:List St) (x:Int) (s t:List Int):loW l x (s++t)=loW l x s++loW l x t:=zX ..
theorem Xf (l:List St) (t:List Int) (m:Nat):Z2 l t (m+1)=Z2 l t m+(hiW l (m:Int) t).length:=rfl
theorem Qdd {l:List St} (he:ZY l=true) {w:Nat} {F F':List Int} (hF:InR l F) (h:F.Perm F'):XR l w F=XR l w F':=by
 unfold XR
 have e:rk l F=rk l F':=QX he hF fun x=>h.mem_iff
 have e2:∀x:Int,(loW l x F).length=(loW l x F').length:=fun x=>(h.filter _).length_eq
 simp only [e,e2,h.length_eq]
section
variable {n:Int} {l:List St} (hnet:Ww n l=true)
include hnet
theorem QiX {w:Nat}:rk l (loW l ((w:Int)-1) (alS l))+(rk l (loW l w (alS l))-rk l (loW l ((w:Int)-1) (alS l)))=rk l (loW l w (alS l)):=by
 have:=QfB hnet (Ui l w) (F:=loW l ((w:Int)-1) (alS l)) fun k hk=>lo_mem.2 ⟨(lo_mem.1 hk).1,by have:=(lo_mem.1 hk).2;omega⟩
 omega
theorem CK:∀w:Nat,cN l w=Wt (XR l w) (loW l ((w:Int)-1) (alS l))
 | 0=>by
  have:loW l (((0:Nat):Int)-1) (alS l)=[]:=CJ fun k hk=>by have:=(Yj hnet (GO l k hk)).1;omega
  rw [this,cN,Wt,if_pos]
  exact decide_eq_true ⟨rfl,fun x h=>by omega⟩
 | w+1=>by
  have he:=QA hnet
  have e1:(((w+1:Nat):Int))-1=(w:Int):=by omega
  rw [e1,GK (Yl l (w:Int) (alS l)) fun F F' hF hFF=>Qdd he (fun x hx=>Ui l w x (hF x hx)) hFF,cN,CK w,cnt]
  refine (DQ fun F G hF hG=>?_).symm
  have hF1:∀k∈F,k∈loW l ((w:Int)-1) (alS l):=fun k hk=>hF.subset hk
  have hG1:∀k∈G,k∈ofW l w (alS l):=fun k hk=>hG.subset hk
  have hFi:InR l F:=fun k hk=>Ui l _ k (hF1 k hk)
  have hGi:InR l G:=fun k hk=>GP l _ k (hG1 k hk)
  have f1:∀x:Nat,x<w→loW l x (F++G)=loW l x F:=fun x hx=>by
   rw [Qpa,CJ (t:=G) fun k hk=>by have:=(of_mem.1 (hG1 k hk)).2;omega,zZ]
  have f2:loW l (w:Int) (F++G)=F++G:=CI fun k hk=>(List.mem_append.1 hk).elim (fun h=>by have:=(lo_mem.1 (hF1 k h)).2;omega) fun h=>by have:=(of_mem.1 (hG1 k h)).2;omega
  have f3:(∀x:Nat,x<w→(loW l x F).length=rk l (loW l x (alS l)))→F.length=rk l (loW l ((w:Int)-1) (alS l)):=fun h=>by
   cases w with
   | zero =>
    have:loW l (((0:Nat):Int)-1) (alS l)=[]:=CJ fun k hk=>by have:=(Yj hnet (GO l k hk)).1;omega
    rw [this] at hF1 ⊢
    have:F=[]:=List.eq_nil_iff_forall_not_mem.2 fun k hk=>by cases hF1 k hk
    rw [this];rfl
   | succ w =>
    have e2:(((w+1:Nat):Int))-1=(w:Int):=by omega
    rw [e2] at hF1 ⊢
    rw [← h w (by omega),CI fun k hk=>(lo_mem.1 (hF1 k hk)).2]
  have hr:=QiX hnet (w:=w)
  have key:rk l F=F.length→F.length=rk l (loW l ((w:Int)-1) (alS l))→rk l (F++G)=rk l (loW l ((w:Int)-1) (alS l)++G):=fun a b=>Qo9 hnet (Ui l _) hGi hF1 (by omega)
  show XR l (w+1) (F++G)=(XR l w F&&fo l (loW l ((w:Int)-1) (alS l)) (rk l (loW l w (alS l))-rk l (loW l ((w:Int)-1) (alS l))) G)
  unfold XR fo
  rw [← Bool.decide_and,decide_eq_decide]
  constructor
  ·rintro ⟨a,b⟩
   have b1:∀x:Nat,x<w→(loW l x F).length=rk l (loW l x (alS l)):=fun x hx=>by rw [← f1 x hx];exact b x (by omega)
   have b2:=b w (by omega)
   rw [f2,qB] at b2
   have b3:=f3 b1
   rw [qB] at a
   have b4:=YJ l F G
   have b5:=Qfa l F
   have b6:rk l F=F.length:=by unfold rk at *;omega
   have b7:=key b6 b3
   refine ⟨⟨b6,b1⟩,?_,by omega⟩
   unfold rk at *;omega
  ·rintro ⟨⟨a,b⟩,c,d⟩
   have b3:=f3 b
   have b7:=key a b3
   have b8:rk l (F++G)=(F++G).length:=by rw [qB];unfold rk at *;omega
   refine ⟨b8,fun x hx=>?_⟩
   by_cases cx:x<w
   ·rw [f1 x cx];exact b x cx
   ·have:x=w:=by omega
    subst this
    rw [f2,qB];omega
theorem QfC {cut:List Int→List Int} (hc:Cut cut):∀w,cW cut n l w=(cN l w:Int)
 | 0=>rfl
 | w+1=>by
  have k1:=DX hnet (Ui l ((w:Int)-1)) (GP l w) hc
  have k2:=QiX hnet (w:=w)
  have e2:rk l (loW l ((w:Int)-1) (alS l)++ofW l w (alS l))=rk l (loW l w (alS l)):=QX (QA hnet) ((Ui l _).app (GP l _)) fun k=>(Yl l (w:Int) (alS l)).mem_iff.symm
  unfold rk at k2 e2
  rw [cW,QfC hc w,DW hnet (Ui l _) (GP l _) hc,cN,Int.natCast_mul]
  congr 3
  unfold rk
  omega
theorem QsZ (w:Nat):cN l w≤2 ^ 60:=by
 rw [CK hnet w]
 refine Nat.le_trans (Qfv _) (Nat.pow_le_pow_right (by omega) ?_)
 have h1:(loW l ((w:Int)-1) (alS l)).length≤(alS l).length:=List.length_filter_le ..
 rw [QU] at h1
 have:=(QE hnet).2.1
 omega
theorem Qde (hc:Wl n l=true) {F:List Int} (hF:InR l F) (hn:F.Nodup):XR l 1001 F=true↔Tr n l F∧wgt l F=wgt l (Qf l):=by
 have ht:=J0 hnet hc
 have hL:=GH (l:=l) hnet
 have hloc:∀x:Int,(loW l x (Qf l)).length=rk l (loW l x (alS l)):=Uh hnet ht hL
 have hw:∀{t:List Int},InR l t→loW l ((1000:Nat):Int) t=t:=fun h=>CI fun k hk=>(Yj hnet (h k hk)).2
 have hwe:∀{t:List Int},InR l t→wgt l t=(Z2 l t 1000:Int):=fun h=>Uy l (M:=1000) _ fun k hk=>Yj hnet (h k hk)
 unfold XR
 rw [decide_eq_true_eq]
 constructor
 ·rintro ⟨a,b⟩
  have b0:=b 1000 (by omega)
  have h0:=hloc ((1000:Nat):Int)
  rw [hw hF] at b0
  rw [hw ht.rg] at h0
  have hl:F.length=(Qf l).length:=by omega
  refine ⟨⟨hF,hn,by have:=ht.ln;omega,a⟩,?_⟩
  rw [hwe hF,hwe ht.rg]
  have key:∀m,m≤1000→Z2 l F m=Z2 l (Qf l) m:=by
   intro m
   induction m with
   | zero=>intro _;rfl
   | succ m ih =>
    intro hm
    rw [Z2,Z2,ih (by omega)]
    have c1:=b m (by omega)
    have c2:=hloc (m:Int)
    have c3:=W0 l (m:Int) F
    have c4:=W0 l (m:Int) (Qf l)
    omega
  rw [key 1000 (qN _)]
 ·rintro ⟨hT,he⟩
  refine ⟨hT.fo,?_⟩
  rw [hwe hF,hwe ht.rg] at he
  have he:Z2 l F 1000=Z2 l (Qf l) 1000:=by omega
  have hl:F.length=(Qf l).length:=by have:=hT.ln;have:=ht.ln;omega
  have hi:∀m:Nat,(hiW l (m:Int) (Qf l)).length≤(hiW l (m:Int) F).length:=fun m=>by
   have c1:(loW l (m:Int) F).length≤rk l (loW l (m:Int) (alS l)):=CA hnet hT (m:Int)
   have c2:=hloc (m:Int)
   have c3:=W0 l (m:Int) F
   have c4:=W0 l (m:Int) (Qf l)
   omega
  have key:∀m,m≤1000→Z2 l F m+(Z2 l (Qf l) 1000-Z2 l (Qf l) m)≤Z2 l F 1000+0∧Z2 l (Qf l) m≤Z2 l (Qf l) 1000:=by
   intro m hm
   obtain ⟨d,hd⟩:∃d,m+d=1000:=⟨1000-m,by omega⟩
   clear hm he
   induction d generalizing m with
   | zero =>
    have:m=1000:=by omega
    subst this
    omega
   | succ d ih =>
    have:=ih (m+1) (by omega)
    have l1:=Xf l F m
    have l2:=Xf l (Qf l) m
    have:=hi m
    omega
  intro x hx
  by_cases cx:x=1000
  ·subst cx
   have h0:=hloc ((1000:Nat):Int)
   rw [hw ht.rg] at h0
   rw [hw hF,hl]
   exact h0
  ·have k1:=key (x+1) (by omega)
   have k2:=YK hi x
   have l1:=Xf l F x
   have l2:=Xf l (Qf l) x
   have c1:=hi x
   have c3:=W0 l (x:Int) F
   have c4:=W0 l (x:Int) (Qf l)
   have c5:=hloc (x:Int)
   omega
theorem Qpb:cN l 1001=Wt (XR l 1001) (alS l):=by
 have e:(((1001:Nat):Int))-1=1000:=by omega
 rw [CK hnet,e,CI fun k hk=>(Yj hnet (GO l k hk)).2]
end
end Go.Proofs.Ytiejmoglooaalaa
end
section
namespace Go.HL.Dt
set_option linter.unusedSectionVars false
open Go.Proofs.Try renaming prog → Tp
open Go.HL.HV renaming undef → Ud
def nd (p:Nat):Nat→Nat→Bool
 | 0,lo=>!(Nat.beq (p%lo) 0)
 | k+1,lo=>nd p k lo&&nd p k (lo+2 ^ k)
theorem QfD {p:Nat}:∀{k lo:Nat},nd p k lo=true→∀d,lo≤d→d<lo+2 ^ k→¬d∣p
 | 0,lo,h,d,h1,h2=>by
  have:d=lo:=by omega
  subst this
  intro c
  have e:=Nat.mod_eq_zero_of_dvd c
  simp [nd,e] at h
 | k+1,lo,h,d,h1,h2=>by
  rw [nd,Bool.and_eq_true] at h
  rw [qV] at h2
  rcases qW d (lo+2 ^ k) with c | c
  ·exact QfD h.1 d h1 c
  ·exact QfD h.2 d c (by omega)
structure Pr (p:Nat):Prop where
 big:65537<p
 small:p<4294967296
 nod:nd p 16 2=true
theorem Pr.cop {p:Nat} (h:Pr p) {k:Nat} (h0:0<k) (h1:k<p):Nat.Coprime p k:=by
 have hno:∀d,2≤d→d<65538→¬d∣p:=fun d a b=>QfD h.nod d a (by omega)
 have hg1:=Nat.gcd_dvd_left p k
 have hg2:=Nat.gcd_dvd_right p k
 have hg3:Nat.gcd p k≤k:=Nat.le_of_dvd h0 hg2
 have hg4:0<Nat.gcd p k:=Nat.gcd_pos_of_pos_right _ h0
 unfold Nat.Coprime
 generalize Nat.gcd p k=g at *
 rcases qW g 2 with c | c
 ·omega
 ·exfalso
  obtain ⟨q,hq⟩:=hg1
  rcases qW g 65538 with d | d
  ·exact hno g c d ⟨q,hq⟩
  ·rcases qW q 65538 with e | e
   ·rcases qW q 2 with f | f
    ·have:q=0∨q=1:=by omega
     rcases this with rfl | rfl
     ·rw [Nat.mul_zero] at hq;omega
     ·rw [Nat.mul_one] at hq;omega
    ·exact hno q f e ⟨g,by rw [zD];exact hq⟩
   ·have:=Nat.mul_le_mul d e
    have:=h.small
    omega
def ch:Nat→Nat→Nat
 | _,0=>1
 | 0,_+1=>0
 | n+1,k+1=>ch n k+ch n (k+1)
theorem CL:∀n k:Nat,(k+1)*ch (n+1) (k+1)=(n+1)*ch n k
 | 0,0=>rfl
 | 0,k+1=>by simp [ch]
 | n+1,0=>by
  have:=CL n 0
  simp only [ch] at this ⊢
  omega
 | n+1,k+1=>by
  have h1:=CL n k
  have h2:=CL n (k+1)
  have e1:ch (n+1+1) (k+1+1)=ch (n+1) (k+1)+ch (n+1) (k+1+1):=rfl
  have e2:ch (n+1) (k+1)=ch n k+ch n (k+1):=rfl
  rw [e1,zO,h2]
  have:(k+1+1)*ch (n+1) (k+1)=(k+1)*ch (n+1) (k+1)+ch (n+1) (k+1):=by rw [zN (k+1) 1,zL]
  rw [this,h1,e2]
  simp only [zO,zN,zL]
  omega
theorem CO:∀n k:Nat,n<k→ch n k=0
 | n,0,h=>by omega
 | 0,k+1,_=>rfl
 | n+1,k+1,h=>by rw [ch,CO n k (by omega),CO n (k+1) (by omega)]
theorem Qca:∀n:Nat,ch n n=1
 | 0=>rfl
 | n+1=>by rw [ch,Qca n,CO n (n+1) (by omega)]
def S (f:Nat→Nat):Nat→Nat
 | 0=>0
 | m+1=>S f m+f m
theorem QiY (a n:Nat):∀m,S (fun k=>ch (n+1) k*a ^ k) (m+1)=S (fun k=>ch n k*a ^ k) (m+1)+a*S (fun k=>ch n k*a ^ k) m
 | 0=>by simp [S,ch]
 | m+1=>by
  have ih:=QiY a n m
  have e1:S (fun k=>ch (n+1) k*a ^ k) (m+1+1)=S (fun k=>ch (n+1) k*a ^ k) (m+1)+ch (n+1) (m+1)*a ^ (m+1):=rfl
  have e2:S (fun k=>ch n k*a ^ k) (m+1+1)=S (fun k=>ch n k*a ^ k) (m+1)+ch n (m+1)*a ^ (m+1):=rfl
  have e3:S (fun k=>ch n k*a ^ k) (m+1)=S (fun k=>ch n k*a ^ k) m+ch n m*a ^ m:=rfl
  rw [e1,ih,e2,show ch (n+1) (m+1)=ch n m+ch n (m+1) from rfl,zN]
  conv=>rhs;rw [e3]
  rw [e3,zO,qV]
  have:a*(ch n m*a ^ m)=ch n m*(a ^ m*a):=by rw [Nat.mul_left_comm,zD a (a ^ m)]
  rw [this]
  omega
theorem QiZ (a:Nat):∀n,(a+1) ^ n=S (fun k=>ch n k*a ^ k) (n+1)
 | 0=>by simp [S,ch]
 | n+1=>by
  have ih:=QiZ a n
  have h:=QiY a n (n+1)
  have e:S (fun k=>ch n k*a ^ k) (n+1+1)=S (fun k=>ch n k*a ^ k) (n+1):=by
   show S (fun k=>ch n k*a ^ k) (n+1)+ch n (n+1)*a ^ (n+1)=_
   rw [CO n (n+1) (by omega)];omega
  rw [h,e,← ih,qV,zO,Nat.mul_one,zD a]
  omega
theorem Pr.ch_dvd {p:Nat} (h:Pr p) {k:Nat} (h0:0<k) (h1:k<p):p∣ch p k:=by
 obtain ⟨q,rfl⟩:∃q,p=q+1:=⟨p-1,by omega⟩
 obtain ⟨k,rfl⟩:∃j,k=j+1:=⟨k-1,by omega⟩
 have:=CL q k
 exact (h.cop h0 h1).dvd_of_dvd_mul_left ⟨ch q k,this⟩
theorem Pr.fermat {p:Nat} (h:Pr p):∀a:Nat,a ^ p%p=a%p
 | 0=>by
  have:p≠0:=by have:=h.big;omega
  rw [Nat.zero_pow (by omega)]
 | a+1=>by
  have ih:=h.fermat a
  have hp:=h.big
  have key:∀m,1≤m→m≤p→S (fun k=>ch p k*a ^ k) m%p=1%p:=by
   intro m
   induction m with
   | zero=>intro h1 _;omega
   | succ m ihm =>
    intro _ h2
    rcases wF m with c | c
    ·subst c;simp [S,ch]
    ·have e:=ihm c (by omega)
     obtain ⟨q,hq⟩:=h.ch_dvd c (by omega)
     show (S (fun k=>ch p k*a ^ k) m+ch p m*a ^ m)%p=1%p
     rw [hq,Nat.mul_assoc,wS]
     exact e
  rw [QiZ a p]
  show (S (fun k=>ch p k*a ^ k) p+ch p p*a ^ p)%p=_
  rw [Qca,zL,Nat.add_mod,key p (by omega) (qN _),ih,← Nat.add_mod,Nat.add_comm]
theorem Pr.inv {p:Nat} (h:Pr p) {a:Nat} (h0:0<a) (h1:a<p):a*(a ^ (p-2))%p=1:=by
 have hp:=h.big
 have hf:=h.fermat a
 have e:a ^ p=a*(a*a ^ (p-2)):=by
  have:p=p-2+1+1:=by omega
  conv=>lhs;rw [this]
  rw [qV,qV,zD,zD (a ^ (p-2))]
 rw [e] at hf
 generalize a*a ^ (p-2)=X at *
 have hc:=h.cop h0 h1
 rcases wF X with c | c
 ·subst c
  rw [Nat.mul_zero,Nat.zero_mod,Nat.mod_eq_of_lt h1] at hf
  omega
 ·have hd:p∣a*(X-1):=by
   have h2:(a*X-a)%p=0:=Nat.sub_mod_eq_zero_of_mod_eq hf
   have h3:a*(X-1)=a*X-a:=by rw [Nat.mul_sub,Nat.mul_one]
   rw [h3]
   exact Nat.dvd_of_mod_eq_zero h2
  obtain ⟨q,hq⟩:=hc.dvd_of_dvd_mul_left hd
  have:X=1+p*q:=by omega
  rw [this,wS,Nat.mod_eq_of_lt (by omega)]
def pw (a:Int) (n:Nat) (p:Int):Int:=a ^ n%p
theorem Pr.invI {p:Nat} (h:Pr p) {a:Int} (h0:0<a) (h1:a<(p:Int)):a*pw a (p-2) (p:Int)%(p:Int)=1:=by
 obtain ⟨b,rfl⟩:=wT (Int.le_of_lt h0)
 have:=h.inv (a:=b) (by omega) (by omega)
 unfold pw
 have e:(b:Int) ^ (p-2)=((b ^ (p-2):Nat):Int):=by rw [Int.natCast_pow]
 rw [e,qX,wG _ (Int.dvd_refl _),← qX]
 have e2:(b:Int)*((b ^ (p-2):Nat):Int)=((b*b ^ (p-2):Nat):Int):=by rw [Int.natCast_mul]
 rw [e2]
 have e3:((b*b ^ (p-2):Nat):Int)%(p:Int)=((b*b ^ (p-2)%p:Nat):Int):=by rw [Int.natCast_emod]
 rw [e3,this];rfl
theorem Qaa (b p:Int):∀m:Nat,(b%p) ^ m%p=b ^ m%p
 | 0=>by rw [zE,zE]
 | m+1=>by
  rw [qM,qM,qX,Qaa b p m,wG _ (Int.dvd_refl p),← qX]
def pwL (p:Int):Nat→Int→Int→Nat→Int
 | 0,out,_,_=>out
 | k+1,out,a,n=>if n=0 then out else pwL p k (if n%2=1 then out*a%p else out) (a*a%p) (n/2)
theorem Qa6 {p:Int} (hp:1<p):∀(k:Nat) (out a:Int) (n:Nat),n<2 ^ k→0≤out→out<p→pwL p k out a n=out*a ^ n%p
 | 0,out,a,n,h,h0,h1=>by
  have:n=0:=by omega
  subst this
  rw [pwL,zE,zC,Int.emod_eq_of_lt h0 h1]
 | k+1,out,a,n,h,h0,h1=>by
  rw [pwL]
  split
  ·rename_i e
   subst e
   rw [zE,zC,Int.emod_eq_of_lt h0 h1]
  ·rename_i e
   rw [qV] at h
   have hq:∀(x:Int) (m:Nat),(x*(a*a%p) ^ m)%p=x*(a*a) ^ m%p:=fun x m=>by
    rw [qX,Qaa,← qX]
   have e2:∀m:Nat,(a*a) ^ m=a ^ (2*m):=fun m=>by rw [Int.pow_mul,qM,qM,zE,jI]
   by_cases c:n%2=1
   ·rw [if_pos c,Qa6 hp k _ _ _ (by omega) (qY _ (by omega)) (qZ _ (by omega)),hq,e2]
    rw [qX,wG _ (Int.dvd_refl p),← qX,qT]
    congr 2
    have:n=2*(n/2)+1:=by omega
    conv=>rhs;rw [this]
    rw [qM,Int.mul_comm]
   ·rw [if_neg c,Qa6 hp k _ _ _ (by omega) h0 h1,hq,e2]
    congr 3
    omega
theorem QhI {p:Int} (hp:1<p) {k:Nat} {a:Int} {n:Nat} (h:n<2 ^ k):pwL p k 1 a n=pw a n p:=by
 rw [Qa6 hp k 1 a n h (by omega) hp,jI,pw]
theorem pr1:Pr 2147483647:=⟨by decide,by decide,by decide +kernel⟩
theorem pr2:Pr 2147483629:=⟨by decide,by decide,by decide +kernel⟩
end Go.HL.Dt
end
section
open Go Go.HL
namespace Go.Proofs.Ytiejmoglooaalaa
set_option maxRecDepth 100000
set_option linter.unusedSectionVars false
open Go.Proofs.Try renaming prog → Tp
open Go.HL.HV renaming undef → Ud
section
variable {F:FuncId→Option (List HV→Option HV)}
noncomputable def B16:Code:=Try.f16.body.getD .skip
abbrev Ym (v0 v1 v4 v5 v6 v7 v9 v10 v11 v12:HV):Env:=[(0,v0),(1,v1),(4,v4),(5,v5),(6,v6),(7,v7),(9,v9),(10,v10),(11,v11),(12,v12)]
end
abbrev e16 (n:Int) (ls:List HV) (u6 u7 u8 u9:HV):Env:=Ym (.i n) (.g ls) (.i 0) (.i 0) (.q 0) (.bool true) u6 u7 u8 u9
section
variable {F:FuncId→Option (List HV→Option HV)}
variable (N:Nat) (n:Int) (ls:List HV)
include N n ls
theorem Qpc:RU F 16 2 B16 [(0,.i n),(1,.g ls)] [] .normal (Ym (.i n) (.g ls) (.i 0) (.i 0) Ud Ud Ud Ud Ud Ud) [] :=
 hx N 60 []
end
section
variable {F:FuncId→Option (List HV→Option HV)}
variable (N:Nat) (n:Int) (ls:List HV)
include N n ls
theorem Qpd {H0:Heap} {a0:HV} {H1:Heap} {H2:Heap} (g0:CN F N 39 [.i n,.g ls] [] (.tuple [.N n ls,.bool true]) H0) (g1:some (Q4 (.agg [.i 0,.imm .lit 0 []]) H0)=some (a0,H1)) (g2:ST H1 66 (a0) (.N n ls) H2) (y6 y7 y9 y10 y11 y12:HV:=Ud): RU F 16 6 B16 (Ym (.i n) (.g ls) (.i 0) (.i 0) y6 y7 y9 y10 y11 y12) [] .normal (Ym (.i n) (.g ls) (.i 0) (.i 0) a0 (.bool true) y9 y10 y11 y12) H2 :=
 hx N 60 [jC 1 2 g0,jR 1 6 g1,jS 1 7 g2]
theorem Qpe {H0:Heap} {a0:HV} {H1:Heap} {H2:Heap} (g0:CN F N 39 [.i n,.g ls] [] (.tuple [.N n ls,.bool false]) H0) (g1:some (Q4 (.agg [.i 0,.imm .lit 0 []]) H0)=some (a0,H1)) (g2:ST H1 66 (a0) (.N n ls) H2) (y6 y7 y9 y10 y11 y12:HV:=Ud): RU F 16 6 B16 (Ym (.i n) (.g ls) (.i 0) (.i 0) y6 y7 y9 y10 y11 y12) [] .normal (Ym (.i n) (.g ls) (.i 0) (.i 0) a0 (.bool false) y9 y10 y11 y12) H2 :=
 hx N 60 [jC 1 2 g0,jR 1 6 g1,jS 1 7 g2]
theorem QhJ (H:Heap) (y9 y10 y11 y12:HV:=Ud): RU F 16 14 B16 (e16 n ls y9 y10 y11 y12) H .normal (e16 n ls y9 y10 y11 y12) H :=
 hx N 60 []
theorem QhK (H:Heap) (y9 y10 y11 y12:HV:=Ud): RU F 16 14 B16 (Ym (.i n) (.g ls) (.i 0) (.i 0) (.q 0) (.bool false) y9 y10 y11 y12) H .ret (Ym (.i n) (.g ls) (.i 0) (.i 2) (.q 0) (.bool false) y9 y10 y11 y12) H :=
 hx N 60 []
theorem Qpf (H:Heap) (tb m:Nat) {H0:Heap} (g0:LD H 66 (.q 0) (.N n ls)) (g1:CM F 40 [.N n ls] H (.tuple [.s tb m,.bool true]) H0) (y9 y10 y11 y12:HV:=Ud): RU F 16 60 B16 (e16 n ls y9 y10 y11 y12) H .normal (e16 n ls (.bool true) y10 y11 y12) H0 :=
 hx N 60 [jO 4 0 H g0,jD 4 1 g1]
theorem Qpg (H:Heap) (tb m:Nat) {H0:Heap} (g0:LD H 66 (.q 0) (.N n ls)) (g1:CM F 40 [.N n ls] H (.tuple [.s tb m,.bool false]) H0) (y9 y10 y11 y12:HV:=Ud): RU F 16 60 B16 (e16 n ls y9 y10 y11 y12) H .normal (e16 n ls (.bool false) y10 y11 y12) H0 :=
 hx N 60 [jO 4 0 H g0,jD 4 1 g1]
theorem QhL (H:Heap) (tb m:Nat) (y10 y11 y12:HV:=Ud): RU F 16 61 B16 (e16 n ls (.bool true) y10 y11 y12) H .normal (e16 n ls (.bool true) y10 y11 y12) H :=
 hx N 60 []
theorem QhM (H:Heap) (tb m:Nat) (y10 y11 y12:HV:=Ud): RU F 16 61 B16 (e16 n ls (.bool false) y10 y11 y12) H .ret (e16 n ls (.bool false) y10 y11 y12) H :=
 hx N 60 []
theorem Qph (H:Heap) (tb m:Nat) (x y:Int) {H0:Heap} {H1:Heap} (g0:LD H 66 (.q 0) (.N n ls)) (g1:CM F 44 [.N n ls,.i 2147483647] H (.i x) H0) (g2:LD H0 66 (.q 0) (.N n ls)) (g3:CM F 44 [.N n ls,.i 2147483629] H0 (.i y) H1) (gS7:(WT ((QK Tp H0 66 (.q 0)).map (fun v=>(v,(H0:Heap)))) ((QK Tp H 66 (.q 0)).map (fun v=>(v,(H:Heap)))) H0 H&&true)=true) (y10 y11 y12:HV:=Ud): RU F 16 62 B16 (e16 n ls (.bool true) y10 y11 y12) H .normal (e16 n ls (.bool true) (.i x) (.i y) y12) H1 :=
 hx N 60 [jK gS7,jO 7 0 H g0,jD 7 1 g1,jO 7 2 H0 g2,jD 7 3 g3]
theorem Qpi (H:Heap) (x y z:Int) {H0:Heap} (g0:CM F 45 [.i 18,.i 2147483627,.i 2147483629] H (.i z) H0) (y9 y12:HV:=Ud): RU F 16 126 B16 (e16 n ls y9 (.i x) (.i y) y12) H .normal (e16 n ls y9 (.i x) (.i y) (.i ((qA.wrap ((qA.wrap (qA.wrap (y-(x:Int).tmod 2147483629)+2147483629):Int).tmod 2147483629*z):Int).tmod 2147483629))) H0 :=
 hx N 60 [jD 8 6 g0]
theorem Qpj (H:Heap) (x z:Int) (y9 y11:HV:=Ud): RU F 16 127 B16 (e16 n ls y9 (.i x) y11 (.i z)) H .ret (Ym (.i n) (.g ls) (.i (qA.wrap (x+qA.wrap (2147483647*z)))) (.i 0) (.q 0) (.bool true) y9 (.i x) y11 (.i z)) H :=
 hx N 60 []
end
section
variable {F:FuncId→Option (List HV→Option HV)}
noncomputable def B44:Code:=Try.f44.body.getD .skip
abbrev VR (v0 v1 v2 v4 v5 v6 v7 v8 v9 v10 v11 v16 v17 v18:HV):Env:=[(0,v0),(1,v1),(2,v2),(4,v4),(5,v5),(6,v6),(7,v7),(8,v8),(9,v9),(10,v10),(11,v11),(16,v16),(17,v17),(18,v18)]
end
abbrev e44 (n:Int) (ls:List HV) (p:Int) (u4 u5 u6 u7 u8 u9 u10 u11 u12 u13:HV):Env:=VR (.N n ls) (.i p) (.q 0) (.i 0) u4 u5 u6 u7 u8 u9 u10 u11 u12 u13
section
variable {F:FuncId→Option (List HV→Option HV)}
variable (N:Nat) (n:Int) (ls:List HV) (p:Int)
include N n ls p
theorem Qpk:RU F 44 2 B44 [(0,.N n ls),(1,.i p)] [] .normal (e44 n ls p Ud Ud Ud Ud Ud Ud Ud Ud Ud Ud) [.arr 2 [.N n ls] true 0] :=
 hx N 60 []
end
section
variable {F:FuncId→Option (List HV→Option HV)}
variable (N:Nat) (n:Int) (ls:List HV) (p:Int)
include N n ls p
theorem Qpl (H:Heap) (y5 y6 y7 y8 y9 y10 y11 y16 y17 y18:HV:=Ud): RU F 44 6 B44 (e44 n ls p y5 y6 y7 y8 y9 y10 y11 y16 y17 y18) H .normal (e44 n ls p (.i 1) y6 y7 y8 y9 y10 y11 y16 y17 y18) H :=
 hx N 60 []
theorem Qpm (H:Heap) (vb:Nat) {H0:Heap} (g0:CN F N 53 [] H (.q vb) H0) (y6 y7 y8 y9 y10 y11 y16 y17 y18:HV:=Ud): RU F 44 14 B44 (e44 n ls p (.i 1) y6 y7 y8 y9 y10 y11 y16 y17 y18) H .normal (e44 n ls p (.i 1) (.q vb) y7 y8 y9 y10 y11 y16 y17 y18) H0 :=
 hx N 60 [jC 2 0 g0]
theorem Qpn (H:Heap) (vb ob m:Nat) {H0:Heap} (g0:LD H 66 (.q 0) (.N n ls)) (g1:CM F 54 [.N n ls] H (.s ob m) H0) (y7 y8 y9 y10 y11 y16 y17 y18:HV:=Ud): RU F 44 30 B44 (e44 n ls p (.i 1) (.q vb) y7 y8 y9 y10 y11 y16 y17 y18) H .normal (e44 n ls p (.i 1) (.q vb) (.s ob m) y8 y9 y10 y11 y16 y17 y18) H0 :=
 hx N 60 [jO 3 0 H g0,jD 3 1 g1]
theorem Qpo (H:Heap) (u:Int) (vb ob m:Nat) (y8 y9 y10 y11 y16 y17 y18:HV:=Ud): RU F 44 124 B44 (e44 n ls p (.i u) (.q vb) (.s ob m) y8 y9 y10 y11 y16 y17 y18) H .normal (e44 n ls p (.i u) (.q vb) (.s ob m) y8 y9 y10 y11 (.s ob m) (.n m) (.i 0)) H :=
 hx N 60 []
theorem Qpp (H:Heap) (u:Int) (vb ob m i:Nat) (g0:(i:Int)<(m:Int)) (y8 y9 y10 y11:HV:=Ud): RunsTo Tp (plF F) 44 (sn 1000 B44) (e44 n ls p (.i u) (.q vb) (.s ob m) y8 y9 y10 y11 (.s ob m) (.n m) (.n i)) H .normal [0,1,2,4,5,6,7,8,9,10,11,16,17,18,19] [(0,.N n ls),(1,.i p),(2,.q 0),(4,.i 0),(5,.i u),(6,.q vb),(7,.s ob m),(8,y8),(9,y9),(10,y10),(11,y11),(16,.s ob m),(17,.n m),(18,.n i),(19,.bool true)] H :=
 hx N 60 [jT 5 0 H g0]
theorem Qpq (H:Heap) (u:Int) (vb ob m i:Nat) (g0:¬((i:Int)<(m:Int))) (y8 y9 y10 y11:HV:=Ud): RunsTo Tp (plF F) 44 (sn 1000 B44) (e44 n ls p (.i u) (.q vb) (.s ob m) y8 y9 y10 y11 (.s ob m) (.n m) (.n i)) H .normal [0,1,2,4,5,6,7,8,9,10,11,16,17,18,19] [(0,.N n ls),(1,.i p),(2,.q 0),(4,.i 0),(5,.i u),(6,.q vb),(7,.s ob m),(8,y8),(9,y9),(10,y10),(11,y11),(16,.s ob m),(17,.n m),(18,.n i),(19,.bool false)] H :=
 hx N 60 [jF 5 0 H g0]
theorem QhN (H:Heap) (u:Int) (vb ob m i:Nat) (y8 y9 y10 y11:HV:=Ud): RU F 44 2002 B44 [(0,.N n ls),(1,.i p),(2,.q 0),(4,.i 0),(5,.i u),(6,.q vb),(7,.s ob m),(8,y8),(9,y9),(10,y10),(11,y11),(16,.s ob m),(17,.n m),(18,.n i),(19,.bool true)] H .normal (e44 n ls p (.i u) (.q vb) (.s ob m) y8 y9 y10 y11 (.s ob m) (.n m) (.n i)) H :=
 hx N 60 []
theorem QhO (H:Heap) (u:Int) (vb ob m i:Nat) (y8 y9 y10 y11:HV:=Ud): RU F 44 2002 B44 [(0,.N n ls),(1,.i p),(2,.q 0),(4,.i 0),(5,.i u),(6,.q vb),(7,.s ob m),(8,y8),(9,y9),(10,y10),(11,y11),(16,.s ob m),(17,.n m),(18,.n i),(19,.bool false)] H (.exit 0) (e44 n ls p (.i u) (.q vb) (.s ob m) y8 y9 y10 y11 (.s ob m) (.n m) (.n i)) H :=
 hx N 60 []
theorem Qpr (H:Heap) (u:Int) (vb ob m i:Nat) (kk:Int) (g0:IS 24 ob m i) (g1:LD H 3 (.ptr ob i 0 m) (.i kk)) (y8 y9 y10 y11:HV:=Ud): RU F 44 16024 B44 (e44 n ls p (.i u) (.q vb) (.s ob m) y8 y9 y10 y11 (.s ob m) (.n m) (.n i)) H .normal (e44 n ls p (.i u) (.q vb) (.s ob m) (.n i) (.i kk) y10 y11 (.s ob m) (.n m) (.n i)) H :=
 hx N 60 [jO 6 1 H g0,jO 6 2 H g1]
theorem Qps (H:Heap) (u:Int) (vb ob m i:Nat) (kk a b w:Int) (g0:LD H 22 (.ptr 0 0 1 1) (.g ls)) (g1:IX 22 (.g ls) (.i kk) (.vptr (.agg [.i a,.i b,.i w]))) (y10 y11:HV:=Ud): RU F 44 32050 B44 (e44 n ls p (.i u) (.q vb) (.s ob m) (.n i) (.i kk) y10 y11 (.s ob m) (.n m) (.n i)) H .normal (e44 n ls p (.i u) (.q vb) (.s ob m) (.n i) (.i kk) (.i w) y11 (.s ob m) (.n m) (.n i)) H :=
 hx N 60 [jO 7 1 H g0,jO 7 3 H g1]
theorem Qpt (H:Heap) (u:Int) (vb ob m i:Nat) (kk w y a2 b2 w2:Int) (g0:qA.wrap ((i:Int)+1)<(m:Int)) (g1:LD H 22 (.ptr 0 0 1 1) (.g ls)) (g2:IX 24 (.s ob m) (.i (qA.wrap ((i:Int)+1))) (.ptr ob ((qA.wrap ((i:Int)+1)).toNat) 0 m)) (g3:LD H 3 (.ptr ob ((qA.wrap ((i:Int)+1)).toNat) 0 m) (.i y)) (g4:IX 22 (.g ls) (.i y) (.vptr (.agg [.i a2,.i b2,.i w2]))) (g5:w2=w) (y11:HV:=Ud): RU F 44 64102 B44 (e44 n ls p (.i u) (.q vb) (.s ob m) (.n i) (.i kk) (.i w) y11 (.s ob m) (.n m) (.n i)) H (.exit 1) (e44 n ls p (.i u) (.q vb) (.s ob m) (.n i) (.i kk) (.i w) y11 (.s ob m) (.n m) (.n i)) H :=
 hx N 60 [jT 8 4 H g0,jO 8 7 H g1,jO 8 11 H g2,jO 8 12 H g3,jO 8 13 H g4,jT 8 17 H g5]
theorem Qpu (H:Heap) (u:Int) (vb ob m i:Nat) (kk w y a2 b2 w2:Int) (g0:qA.wrap ((i:Int)+1)<(m:Int)) (g1:LD H 22 (.ptr 0 0 1 1) (.g ls)) (g2:IX 24 (.s ob m) (.i (qA.wrap ((i:Int)+1))) (.ptr ob ((qA.wrap ((i:Int)+1)).toNat) 0 m)) (g3:LD H 3 (.ptr ob ((qA.wrap ((i:Int)+1)).toNat) 0 m) (.i y)) (g4:IX 22 (.g ls) (.i y) (.vptr (.agg [.i a2,.i b2,.i w2]))) (g5:¬(w2=w)) (y11:HV:=Ud): RU F 44 64102 B44 (e44 n ls p (.i u) (.q vb) (.s ob m) (.n i) (.i kk) (.i w) y11 (.s ob m) (.n m) (.n i)) H .normal (e44 n ls p (.i u) (.q vb) (.s ob m) (.n i) (.i kk) (.i w) y11 (.s ob m) (.n m) (.n i)) H :=
 hx N 60 [jT 8 4 H g0,jO 8 7 H g1,jO 8 11 H g2,jO 8 12 H g3,jO 8 13 H g4,jF 8 17 H g5]
theorem Qpv (H:Heap) (u:Int) (vb ob m i:Nat) (kk w y a2 b2 w2:Int) (g0:¬(qA.wrap ((i:Int)+1)<(m:Int))) (y11:HV:=Ud): RU F 44 64102 B44 (e44 n ls p (.i u) (.q vb) (.s ob m) (.n i) (.i kk) (.i w) y11 (.s ob m) (.n m) (.n i)) H .normal (e44 n ls p (.i u) (.q vb) (.s ob m) (.n i) (.i kk) (.i w) y11 (.s ob m) (.n m) (.n i)) H :=
 hx N 60 [jF 8 4 H g0]
theorem Qpw (H:Heap) (u:Int) (vb ob m i:Nat) (kk w r:Int) (ab:Nat) {H0:Heap} (g0:LD H 66 (.q 0) (.N n ls)) (g1:W5 Tp 24 (.s ob m) none (some (.i (qA.wrap ((i:Int)+1)))) none=some (.sl ob 0 ((qA.wrap ((i:Int)+1)).toNat) none m 1)) (g2:CN F N 57 [.N n ls,.sl ob 0 ((qA.wrap ((i:Int)+1)).toNat) none m 1] H (.tuple [.q ab,.i r]) H0) (y11:HV:=Ud): RU F 44 128206 B44 (e44 n ls p (.i u) (.q vb) (.s ob m) (.n i) (.i kk) (.i w) y11 (.s ob m) (.n m) (.n i)) H .normal (e44 n ls p (.i u) (.q vb) (.s ob m) (.n i) (.i kk) (.i w) (.q ab) (.s ob m) (.n m) (.n i)) H0 :=
 hx N 60 [jO 9 0 H g0,jO 9 4 H g1,jC 9 5 g2]
theorem Qpx (H:Heap) (u:Int) (vb ob m i:Nat) (kk w x:Int) (ab:Nat) {H0:Heap} (g0:LD H 66 (.q 0) (.N n ls)) (g1:CN F N 65 [.N n ls,.q vb,.q ab,.i w,.i p] H (.i x) H0) (g2:BV .rem 3 (.i (qA.wrap (u*x))) (.i p) (.i ((qA.wrap (u*x):Int).tmod p))): RU F 44 128207 B44 (e44 n ls p (.i u) (.q vb) (.s ob m) (.n i) (.i kk) (.i w) (.q ab) (.s ob m) (.n m) (.n i)) H .normal (e44 n ls p (.i ((qA.wrap (u*x):Int).tmod p)) (.q ab) (.s ob m) (.n i) (.i kk) (.i w) (.q ab) (.s ob m) (.n m) (.n i)) H0 :=
 hx N 60 [jO 10 1 H g0,jC 10 6 g1,jO 10 9 H0 g2]
theorem QfE (H:Heap) (u:Int) (vb ob m i:Nat) (y8 y9 y10 y11:HV:=Ud): RU F 44 4007 B44 (e44 n ls p (.i u) (.q vb) (.s ob m) y8 y9 y10 y11 (.s ob m) (.n m) (.n i)) H .normal (e44 n ls p (.i u) (.q vb) (.s ob m) y8 y9 y10 y11 (.s ob m) (.n m) (.i (qA.wrap ((i:Int)+1)))) H :=
 hx N 60 []
theorem Qpy (H:Heap) (u:Int) (vb ob m:Nat) (y8 y9 y10 y11 y16 y17 y18:HV:=Ud): RU F 44 63 B44 (e44 n ls p (.i u) (.q vb) (.s ob m) y8 y9 y10 y11 y16 y17 y18) H .ret (VR (.N n ls) (.i p) (.q 0) (.i u) (.i u) (.q vb) (.s ob m) y8 y9 y10 y11 y16 y17 y18) H :=
 hx N 60 []
end
section
variable {F:FuncId→Option (List HV→Option HV)}
noncomputable def B86:Code:=Try.f86.body.getD .skip
abbrev QfF (v0 v1 v2 v3 v4 v5:HV):Env:=[(0,v0),(1,v1),(2,v2),(3,v3),(4,v4),(5,v5)]
end
abbrev e86 (i:Int) (j:Int) (d:Int) (zb:Nat) (xb:Nat) (pb:Nat):Env:=QfF (.i i) (.i j) (.i d) (.q zb) (.q xb) (.q pb)
section
variable {F:FuncId→Option (List HV→Option HV)}
variable (i j d:Int) (zb xb pb:Nat) (H:Heap) (mb q ra:Nat) (y p:Int)
include i j d zb xb pb H mb q ra y p
theorem Qpz {H0:Heap} (g0:LD H 3 (.q zb) (.n q)) (g1:i<(q:Int)) (g2:LD H 3 (.q zb) (.n q)) (g3:j<(q:Int)) (g4:LD H 57 (.q xb) (.o mb q)) (g5:IX 57 (.o mb q) (.i i) (.ptr mb ((i).toNat) 0 q)) (g6:LD H 24 (.ptr mb ((i).toNat) 0 q) (.o ra q)) (g7:LD H 57 (.q xb) (.o mb q)) (g8:IX 57 (.o mb q) (.i i) (.ptr mb ((i).toNat) 0 q)) (g9:LD H 24 (.ptr mb ((i).toNat) 0 q) (.o ra q)) (g10:IX 24 (.o ra q) (.i j) (.ptr ra ((j).toNat) 0 q)) (g11:LD H 3 (.ptr ra ((j).toNat) 0 q) (.i y)) (g12:LD H 3 (.q pb) (.i p)) (g13:LD H 3 (.q pb) (.i p)) (g14:BV .rem 3 (.i (qA.wrap (qA.wrap (y+d)+p))) (.i p) (.i ((qA.wrap (qA.wrap (y+d)+p):Int).tmod p))) (g15:IX 24 (.o ra q) (.i j) (.ptr ra ((j).toNat) 0 q)) (g16:ST H 3 (.ptr ra ((j).toNat) 0 q) (.i ((qA.wrap (qA.wrap (y+d)+p):Int).tmod p)) H0): RU F 86 1 B86 (e86 i j d zb xb pb) H .normal (e86 i j d zb xb pb) H0 :=
 hx 0 60 [jO 0 1 H g0,jT 0 2 H g1,jO 0 5 H g2,jT 0 6 H g3,jO 1 0 H g4,jO 1 2 H g5,jO 1 3 H g6,jO 1 5 H g7,jO 1 7 H g8,jO 1 8 H g9,jO 1 10 H g10,jO 1 11 H g11,jO 1 14 H g12,jO 1 16 H g13,jO 1 17 H g14,jO 1 18 H g15,jS 1 19 g16]
end
section
variable {F:FuncId→Option (List HV→Option HV)}
variable (i j d:Int) (zb xb pb:Nat) (H:Heap) (mb q ra:Nat) (y p:Int)
include i j d zb xb pb H mb q ra y p
theorem QpA (g0:LD H 3 (.q zb) (.n q)) (g1:i<(q:Int)) (g2:LD H 3 (.q zb) (.n q)) (g3:¬(j<(q:Int))): RU F 86 1 B86 (e86 i j d zb xb pb) H .normal (e86 i j d zb xb pb) H :=
 hx 0 60 [jO 0 1 H g0,jT 0 2 H g1,jO 0 5 H g2,jF 0 6 H g3]
theorem QpB (g0:LD H 3 (.q zb) (.n q)) (g1:¬(i<(q:Int))): RU F 86 1 B86 (e86 i j d zb xb pb) H .normal (e86 i j d zb xb pb) H :=
 hx 0 60 [jO 0 1 H g0,jF 0 2 H g1]
end
section
variable {F:FuncId→Option (List HV→Option HV)}
noncomputable def B65:Code:=Try.f65.body.getD .skip
abbrev QY (v0 v1 v2 v3 v4 v5 v9 v10 v11 v12 v13 v14 v15 v16 v17 v18 v20 v21 v22 v23 v25 v26 v31 v32 v60 v61 v72 v73 v74:HV):Env:=[(0,v0),(1,v1),(2,v2),(3,v3),(4,v4),(5,v5),(9,v9),(10,v10),(11,v11),(12,v12),(13,v13),(14,v14),(15,v15),(16,v16),(17,v17),(18,v18),(20,v20),(21,v21),(22,v22),(23,v23),(25,v25),(26,v26),(31,v31),(32,v32),(60,v60),(61,v61),(72,v72),(73,v73),(74,v74)]
end
abbrev e65 (n:Int) (ls:List HV) (bb:Nat) (ab:Nat) (w:Int) (p:Int) (nb:Nat) (pb:Nat) (u:Int) (top:Nat) (u9 u10 u11 u12 u13 u14 u15 u16 u17 u18 u19 u22 u23 u24 u25 u26 u27 u28:HV):Env:=QY (.N n ls) (.q bb) (.q ab) (.i w) (.i p) (.q nb) (.q pb) (.i 0) (.i u) u9 u10 u11 u12 u13 u14 u15 u16 u17 u18 u19 (.i n) (.n top) u22 u23 u24 u25 u26 u27 u28
section
variable {F:FuncId→Option (List HV→Option HV)}
variable (N:Nat) (n:Int) (ls:List HV) (bb ab:Nat) (w p:Int) (H:Heap) (nb pb:Nat)
include N n ls bb ab w p H nb pb
theorem QpC {a0:HV} {H0:Heap} {a1:HV} {H1:Heap} (g0:some (Q4 (.N n ls) H)=some (a0,H0)) (g1:some (Q4 (.i p) H0)=some (a1,H1)): RU F 65 2 B65 [(0,.N n ls),(1,.q bb),(2,.q ab),(3,.i w),(4,.i p)] H .normal (QY (.N n ls) (.q bb) (.q ab) (.i w) (.i p) a0 a1 (.i 0) Ud Ud Ud Ud Ud Ud Ud Ud Ud Ud Ud Ud Ud Ud Ud Ud Ud Ud Ud Ud Ud) H1 :=
 hx N 60 [jR 0 0 g0,jR 0 1 g1]
end
section
variable {F:FuncId→Option (List HV→Option HV)}
variable (N:Nat) (n:Int) (ls:List HV) (bb ab:Nat) (w p:Int) (H:Heap) (nb pb:Nat)
include N n ls bb ab w p H nb pb
theorem QpD (y11 y12 y13 y14 y15 y16 y17 y18 y20 y21 y22 y23 y25 y26 y31 y32 y60 y61 y72 y73 y74:HV:=Ud): RU F 65 6 B65 (QY (.N n ls) (.q bb) (.q ab) (.i w) (.i p) (.q nb) (.q pb) (.i 0) y11 y12 y13 y14 y15 y16 y17 y18 y20 y21 y22 y23 y25 y26 y31 y32 y60 y61 y72 y73 y74) H .normal (QY (.N n ls) (.q bb) (.q ab) (.i w) (.i p) (.q nb) (.q pb) (.i 0) (.i 1) y12 y13 y14 y15 y16 y17 y18 y20 y21 y22 y23 y25 y26 y31 y32 y60 y61 y72 y73 y74) H :=
 hx N 60 []
theorem QpE (u:Int) (g0:LD H 3 (.q nb) (.i n)) (y12 y13 y14 y15 y16 y17 y18 y20 y21 y22 y23 y25 y26 y31 y32 y60 y61 y72 y73 y74:HV:=Ud): RU F 65 28 B65 (QY (.N n ls) (.q bb) (.q ab) (.i w) (.i p) (.q nb) (.q pb) (.i 0) (.i u) y12 y13 y14 y15 y16 y17 y18 y20 y21 y22 y23 y25 y26 y31 y32 y60 y61 y72 y73 y74) H .normal (QY (.N n ls) (.q bb) (.q ab) (.i w) (.i p) (.q nb) (.q pb) (.i 0) (.i u) y12 y13 y14 y15 y16 y17 y18 y20 y21 y22 y23 (.i n) (.i 0) y31 y32 y60 y61 y72 y73 y74) H :=
 hx N 60 [jO 2 1 H g0]
theorem QpF (u:Int) (top:Nat) (g0:(top:Int)<n) (y12 y13 y14 y15 y16 y17 y18 y20 y21 y22 y23 y31 y32 y60 y61 y72 y73 y74:HV:=Ud): RunsTo Tp (plF F) 65 (sn 232 B65) (e65 n ls bb ab w p nb pb u top y12 y13 y14 y15 y16 y17 y18 y20 y21 y22 y23 y31 y32 y60 y61 y72 y73 y74) H .normal [0,1,2,3,4,5,9,10,11,12,13,14,15,16,17,18,20,21,22,23,25,26,31,32,60,61,72,73,74,27] [(0,.N n ls),(1,.q bb),(2,.q ab),(3,.i w),(4,.i p),(5,.q nb),(9,.q pb),(10,.i 0),(11,.i u),(12,y12),(13,y13),(14,y14),(15,y15),(16,y16),(17,y17),(18,y18),(20,y20),(21,y21),(22,y22),(23,y23),(25,.i n),(26,.n top),(31,y31),(32,y32),(60,y60),(61,y61),(72,y72),(73,y73),(74,y74),(27,.bool true)] H :=
 hx N 60 [jT 3 0 H g0]
theorem QpG (u:Int) (top:Nat) (g0:¬((top:Int)<n)) (y12 y13 y14 y15 y16 y17 y18 y20 y21 y22 y23 y31 y32 y60 y61 y72 y73 y74:HV:=Ud): RunsTo Tp (plF F) 65 (sn 232 B65) (e65 n ls bb ab w p nb pb u top y12 y13 y14 y15 y16 y17 y18 y20 y21 y22 y23 y31 y32 y60 y61 y72 y73 y74) H .normal [0,1,2,3,4,5,9,10,11,12,13,14,15,16,17,18,20,21,22,23,25,26,31,32,60,61,72,73,74,27] [(0,.N n ls),(1,.q bb),(2,.q ab),(3,.i w),(4,.i p),(5,.q nb),(9,.q pb),(10,.i 0),(11,.i u),(12,y12),(13,y13),(14,y14),(15,y15),(16,y16),(17,y17),(18,y18),(20,y20),(21,y21),(22,y22),(23,y23),(25,.i n),(26,.n top),(31,y31),(32,y32),(60,y60),(61,y61),(72,y72),(73,y73),(74,y74),(27,.bool false)] H :=
 hx N 60 [jF 3 0 H g0]
theorem QhP (u:Int) (top:Nat) (y12 y13 y14 y15 y16 y17 y18 y20 y21 y22 y23 y31 y32 y60 y61 y72 y73 y74:HV:=Ud): RU F 65 466 B65 [(0,.N n ls),(1,.q bb),(2,.q ab),(3,.i w),(4,.i p),(5,.q nb),(9,.q pb),(10,.i 0),(11,.i u),(12,y12),(13,y13),(14,y14),(15,y15),(16,y16),(17,y17),(18,y18),(20,y20),(21,y21),(22,y22),(23,y23),(25,.i n),(26,.n top),(31,y31),(32,y32),(60,y60),(61,y61),(72,y72),(73,y73),(74,y74),(27,.bool true)] H .normal (e65 n ls bb ab w p nb pb u top y12 y13 y14 y15 y16 y17 y18 y20 y21 y22 y23 y31 y32 y60 y61 y72 y73 y74) H :=
 hx N 60 []
theorem QhQ (u:Int) (top:Nat) (y12 y13 y14 y15 y16 y17 y18 y20 y21 y22 y23 y31 y32 y60 y61 y72 y73 y74:HV:=Ud): RU F 65 466 B65 [(0,.N n ls),(1,.q bb),(2,.q ab),(3,.i w),(4,.i p),(5,.q nb),(9,.q pb),(10,.i 0),(11,.i u),(12,y12),(13,y13),(14,y14),(15,y15),(16,y16),(17,y17),(18,y18),(20,y20),(21,y21),(22,y22),(23,y23),(25,.i n),(26,.n top),(31,y31),(32,y32),(60,y60),(61,y61),(72,y72),(73,y73),(74,y74),(27,.bool false)] H (.exit 0) (e65 n ls bb ab w p nb pb u top y12 y13 y14 y15 y16 y17 y18 y20 y21 y22 y23 y31 y32 y60 y61 y72 y73 y74) H :=
 hx N 60 []
theorem QpH (u:Int) (top:Nat) (y12 y13 y14 y15 y16 y17 y18 y20 y21 y22 y23 y31 y32 y60 y61 y72 y73 y74:HV:=Ud): RU F 65 3736 B65 (e65 n ls bb ab w p nb pb u top y12 y13 y14 y15 y16 y17 y18 y20 y21 y22 y23 y31 y32 y60 y61 y72 y73 y74) H .normal (e65 n ls bb ab w p nb pb u top (.n top) y13 y14 y15 y16 y17 y18 y20 y21 y22 y23 y31 y32 y60 y61 y72 y73 y74) H :=
 hx N 60 []
theorem QpI (u:Int) (top:Nat) (kb:Nat) {H0:Heap} (g0:some (HV.map H.length,H++[Blk.map [] [] 0])=some (.map kb,H0)) (y13 y14 y15 y16 y17 y18 y20 y21 y22 y23 y31 y32 y60 y61 y72 y73 y74:HV:=Ud): RU F 65 7474 B65 (e65 n ls bb ab w p nb pb u top (.n top) y13 y14 y15 y16 y17 y18 y20 y21 y22 y23 y31 y32 y60 y61 y72 y73 y74) H .normal (e65 n ls bb ab w p nb pb u top (.n top) (.map kb) y14 y15 y16 y17 y18 y20 y21 y22 y23 y31 y32 y60 y61 y72 y73 y74) H0 :=
 hx N 60 [jR 5 0 g0]
theorem QpJ (u:Int) (top:Nat) (kb:Nat) (g0:LD H 3 (.q nb) (.i n)) (y14 y15 y16 y17 y18 y20 y21 y22 y23 y31 y32 y60 y61 y72 y73 y74:HV:=Ud): RU F 65 29900 B65 (e65 n ls bb ab w p nb pb u top (.n top) (.map kb) y14 y15 y16 y17 y18 y20 y21 y22 y23 y31 y32 y60 y61 y72 y73 y74) H .normal (e65 n ls bb ab w p nb pb u top (.n top) (.map kb) y14 y15 y16 y17 y18 y20 y21 y22 y23 (.i n) (.i 0) y60 y61 y72 y73 y74) H :=
 hx N 60 [jO 6 1 H g0]
theorem QpK (u:Int) (top:Nat) (kb:Nat) (v:Nat) (g0:(v:Int)<n) (y14 y15 y16 y17 y18 y20 y21 y22 y23 y60 y61 y72 y73 y74:HV:=Ud): RunsTo Tp (plF F) 65 (sn 239208 B65) (e65 n ls bb ab w p nb pb u top (.n top) (.map kb) y14 y15 y16 y17 y18 y20 y21 y22 y23 (.i n) (.n v) y60 y61 y72 y73 y74) H .normal [0,1,2,3,4,5,9,10,11,12,13,14,15,16,17,18,20,21,22,23,25,26,31,32,60,61,72,73,74,33] [(0,.N n ls),(1,.q bb),(2,.q ab),(3,.i w),(4,.i p),(5,.q nb),(9,.q pb),(10,.i 0),(11,.i u),(12,.n top),(13,.map kb),(14,y14),(15,y15),(16,y16),(17,y17),(18,y18),(20,y20),(21,y21),(22,y22),(23,y23),(25,.i n),(26,.n top),(31,.i n),(32,.n v),(60,y60),(61,y61),(72,y72),(73,y73),(74,y74),(33,.bool true)] H :=
 hx N 60 [jT 7 0 H g0]
theorem QpL (u:Int) (top:Nat) (kb:Nat) (v:Nat) (g0:¬((v:Int)<n)) (y14 y15 y16 y17 y18 y20 y21 y22 y23 y60 y61 y72 y73 y74:HV:=Ud): RunsTo Tp (plF F) 65 (sn 239208 B65) (e65 n ls bb ab w p nb pb u top (.n top) (.map kb) y14 y15 y16 y17 y18 y20 y21 y22 y23 (.i n) (.n v) y60 y61 y72 y73 y74) H .normal [0,1,2,3,4,5,9,10,11,12,13,14,15,16,17,18,20,21,22,23,25,26,31,32,60,61,72,73,74,33] [(0,.N n ls),(1,.q bb),(2,.q ab),(3,.i w),(4,.i p),(5,.q nb),(9,.q pb),(10,.i 0),(11,.i u),(12,.n top),(13,.map kb),(14,y14),(15,y15),(16,y16),(17,y17),(18,y18),(20,y20),(21,y21),(22,y22),(23,y23),(25,.i n),(26,.n top),(31,.i n),(32,.n v),(60,y60),(61,y61),(72,y72),(73,y73),(74,y74),(33,.bool false)] H :=
 hx N 60 [jF 7 0 H g0]
theorem QhR (u:Int) (top:Nat) (kb:Nat) (v:Nat) (y14 y15 y16 y17 y18 y20 y21 y22 y23 y60 y61 y72 y73 y74:HV:=Ud): RU F 65 478418 B65 [(0,.N n ls),(1,.q bb),(2,.q ab),(3,.i w),(4,.i p),(5,.q nb),(9,.q pb),(10,.i 0),(11,.i u),(12,.n top),(13,.map kb),(14,y14),(15,y15),(16,y16),(17,y17),(18,y18),(20,y20),(21,y21),(22,y22),(23,y23),(25,.i n),(26,.n top),(31,.i n),(32,.n v),(60,y60),(61,y61),(72,y72),(73,y73),(74,y74),(33,.bool true)] H .normal (e65 n ls bb ab w p nb pb u top (.n top) (.map kb) y14 y15 y16 y17 y18 y20 y21 y22 y23 (.i n) (.n v) y60 y61 y72 y73 y74) H :=
 hx N 60 []
theorem QhS (u:Int) (top:Nat) (kb:Nat) (v:Nat) (y14 y15 y16 y17 y18 y20 y21 y22 y23 y60 y61 y72 y73 y74:HV:=Ud): RU F 65 478418 B65 [(0,.N n ls),(1,.q bb),(2,.q ab),(3,.i w),(4,.i p),(5,.q nb),(9,.q pb),(10,.i 0),(11,.i u),(12,.n top),(13,.map kb),(14,y14),(15,y15),(16,y16),(17,y17),(18,y18),(20,y20),(21,y21),(22,y22),(23,y23),(25,.i n),(26,.n top),(31,.i n),(32,.n v),(60,y60),(61,y61),(72,y72),(73,y73),(74,y74),(33,.bool false)] H (.exit 2) (e65 n ls bb ab w p nb pb u top (.n top) (.map kb) y14 y15 y16 y17 y18 y20 y21 y22 y23 (.i n) (.n v) y60 y61 y72 y73 y74) H :=
 hx N 60 []
theorem QpM (u:Int) (top:Nat) (kb:Nat) (v:Nat) {e0:Int} {H0:Heap} {e1:Int} {H1:Heap} {n0:Int} {H2:Heap} (g0:CN F N 55 [.q bb,.n v] H (.i e0) H0) (g1:e0=(v:Int)) (g2:CN F N 55 [.q ab,.n v] H0 (.i e1) H1) (g3:e1=(top:Int)) (g4:UM Tp H1 117 (.map kb)=some (.i n0)) (g5:GY Tp false 117 (.map kb) (.n v) (.i n0) H1=some H2) (y14 y15 y16 y17 y18 y20 y21 y22 y23 y60 y61 y72 y73 y74:HV:=Ud): RU F 65 956838 B65 (e65 n ls bb ab w p nb pb u top (.n top) (.map kb) y14 y15 y16 y17 y18 y20 y21 y22 y23 (.i n) (.n v) y60 y61 y72 y73 y74) H .normal (e65 n ls bb ab w p nb pb u top (.n top) (.map kb) (.n v) y15 y16 y17 y18 y20 y21 y22 y23 (.i n) (.n v) y60 y61 y72 y73 y74) H2 :=
 hx N 60 [jC 9 2 g0,jT 9 4 H0 g1,jC 9 8 g2,jT 9 10 H1 g3,jO 10 3 H1 g4,jS 10 4 g5]
theorem QpN (u:Int) (top:Nat) (kb:Nat) (v:Nat) {e0:Int} {H0:Heap} {e1:Int} {H1:Heap} (g0:CN F N 55 [.q bb,.n v] H (.i e0) H0) (g1:e0=(v:Int)) (g2:CN F N 55 [.q ab,.n v] H0 (.i e1) H1) (g3:¬(e1=(top:Int))) (y14 y15 y16 y17 y18 y20 y21 y22 y23 y60 y61 y72 y73 y74:HV:=Ud): RU F 65 956838 B65 (e65 n ls bb ab w p nb pb u top (.n top) (.map kb) y14 y15 y16 y17 y18 y20 y21 y22 y23 (.i n) (.n v) y60 y61 y72 y73 y74) H .normal (e65 n ls bb ab w p nb pb u top (.n top) (.map kb) (.n v) y15 y16 y17 y18 y20 y21 y22 y23 (.i n) (.n v) y60 y61 y72 y73 y74) H1 :=
 hx N 60 [jC 9 2 g0,jT 9 4 H0 g1,jC 9 8 g2,jF 9 10 H1 g3]
theorem QpO (u:Int) (top:Nat) (kb:Nat) (v:Nat) {e0:Int} {H0:Heap} (g0:CN F N 55 [.q bb,.n v] H (.i e0) H0) (g1:¬(e0=(v:Int))) (y14 y15 y16 y17 y18 y20 y21 y22 y23 y60 y61 y72 y73 y74:HV:=Ud): RU F 65 956838 B65 (e65 n ls bb ab w p nb pb u top (.n top) (.map kb) y14 y15 y16 y17 y18 y20 y21 y22 y23 (.i n) (.n v) y60 y61 y72 y73 y74) H .normal (e65 n ls bb ab w p nb pb u top (.n top) (.map kb) (.n v) y15 y16 y17 y18 y20 y21 y22 y23 (.i n) (.n v) y60 y61 y72 y73 y74) H0 :=
 hx N 60 [jC 9 2 g0,jF 9 4 H0 g1]
theorem QpP (u:Int) (top:Nat) (kb:Nat) (v:Nat) (y14 y15 y16 y17 y18 y20 y21 y22 y23 y60 y61 y72 y73 y74:HV:=Ud): RU F 65 956839 B65 (e65 n ls bb ab w p nb pb u top (.n top) (.map kb) y14 y15 y16 y17 y18 y20 y21 y22 y23 (.i n) (.n v) y60 y61 y72 y73 y74) H .normal (e65 n ls bb ab w p nb pb u top (.n top) (.map kb) y14 y15 y16 y17 y18 y20 y21 y22 y23 (.i n) (.i (qA.wrap ((v:Int)+1))) y60 y61 y72 y73 y74) H :=
 hx N 60 []
theorem QpQ (u:Int) (top:Nat) (kb:Nat) (zb:Nat) (e:Int) {n0:Int} {H0:Heap} {H1:Heap} (g0:UM Tp H 117 (.map kb)=some (.i n0)) (g1:some (Q4 (.i 0) H)=some (.q zb,H0)) (g2:ST H0 3 (.q zb) (.i (qA.wrap (n0-1))) H1) (y14 y15 y16 y17 y18 y20 y21 y22 y23 y31 y32 y60 y61 y72 y73 y74:HV:=Ud): RU F 65 29902 B65 (e65 n ls bb ab w p nb pb u top (.n top) (.map kb) y14 y15 y16 y17 y18 y20 y21 y22 y23 y31 y32 y60 y61 y72 y73 y74) H .normal (e65 n ls bb ab w p nb pb u top (.n top) (.map kb) y14 (.q zb) y16 y17 y18 y20 y21 y22 y23 y31 y32 y60 y61 y72 y73 y74) H1 :=
 hx N 60 [jO 12 1 H g0,jR 12 3 g1,jS 12 4 g2]
theorem QpR (u:Int) (top:Nat) (kb:Nat) (zb:Nat) (e:Int) (g0:LD H 3 (.q zb) (.i e)) (g1:e<1) (y14 y16 y17 y18 y20 y21 y22 y23 y31 y32 y60 y61 y72 y73 y74:HV:=Ud): RU F 65 59806 B65 (e65 n ls bb ab w p nb pb u top (.n top) (.map kb) y14 (.q zb) y16 y17 y18 y20 y21 y22 y23 y31 y32 y60 y61 y72 y73 y74) H (.exit 1) (e65 n ls bb ab w p nb pb u top (.n top) (.map kb) y14 (.q zb) y16 y17 y18 y20 y21 y22 y23 y31 y32 y60 y61 y72 y73 y74) H :=
 hx N 60 [jO 13 0 H g0,jT 13 1 H g1]
theorem QpS (u:Int) (top:Nat) (kb:Nat) (zb:Nat) (e:Int) (g0:LD H 3 (.q zb) (.i e)) (g1:¬(e<1)) (y14 y16 y17 y18 y20 y21 y22 y23 y31 y32 y60 y61 y72 y73 y74:HV:=Ud): RU F 65 59806 B65 (e65 n ls bb ab w p nb pb u top (.n top) (.map kb) y14 (.q zb) y16 y17 y18 y20 y21 y22 y23 y31 y32 y60 y61 y72 y73 y74) H .normal (e65 n ls bb ab w p nb pb u top (.n top) (.map kb) y14 (.q zb) y16 y17 y18 y20 y21 y22 y23 y31 y32 y60 y61 y72 y73 y74) H :=
 hx N 60 [jO 13 0 H g0,jF 13 1 H g1]
theorem QpT (u:Int) (top:Nat) (kb:Nat) (zb:Nat) (xb:Nat) (mb q:Nat) {H0:Heap} {H1:Heap} {H2:Heap} (g0:LD H 3 (.q zb) (.n q)) (g1:XU Tp false 57 (.n q) (.n q) H=some (.o mb q,H0)) (g2:some (HV.ptr H0.length 0 0 1,H0++[Blk.arr 1 [HV.sl (H0.length+1) 0 0 none 0 1] true (H0.length+2),Blk.b []])=some (.q xb,H1)) (g3:ST H1 57 (.q xb) (.o mb q) H2) (y14 y16 y17 y18 y20 y21 y22 y23 y31 y32 y60 y61 y72 y73 y74:HV:=Ud): RU F 65 119614 B65 (e65 n ls bb ab w p nb pb u top (.n top) (.map kb) y14 (.q zb) y16 y17 y18 y20 y21 y22 y23 y31 y32 y60 y61 y72 y73 y74) H .normal (e65 n ls bb ab w p nb pb u top (.n top) (.map kb) y14 (.q zb) (.q xb) y17 y18 y20 y21 y22 y23 y31 y32 y60 y61 y72 y73 y74) H2 :=
 hx N 60 [jO 14 0 H g0,jR 14 1 g1,jR 14 2 g2,jS 14 3 g3]
theorem QpU (u:Int) (top:Nat) (kb:Nat) (zb:Nat) (xb:Nat) (mb q:Nat) (g0:LD H 57 (.q xb) (.o mb q)) (y14 y17 y18 y20 y21 y22 y23 y31 y32 y60 y61 y72 y73 y74:HV:=Ud): RU F 65 478460 B65 (e65 n ls bb ab w p nb pb u top (.n top) (.map kb) y14 (.q zb) (.q xb) y17 y18 y20 y21 y22 y23 y31 y32 y60 y61 y72 y73 y74) H .normal (e65 n ls bb ab w p nb pb u top (.n top) (.map kb) y14 (.q zb) (.q xb) y17 y18 y20 y21 y22 y23 y31 y32 (.n q) (.i 0) y72 y73 y74) H :=
 hx N 60 [jO 15 0 H g0]
theorem QpV (u:Int) (top:Nat) (kb:Nat) (zb:Nat) (xb:Nat) (q i:Nat) (g0:(i:Int)<(q:Int)) (y12 y14 y17 y18 y20 y21 y22 y23 y31 y32 y72 y73 y74:HV:=Ud): RunsTo Tp (plF F) 65 (sn 3827688 B65) (e65 n ls bb ab w p nb pb u top y12 (.map kb) y14 (.q zb) (.q xb) y17 y18 y20 y21 y22 y23 y31 y32 (.n q) (.n i) y72 y73 y74) H .normal [0,1,2,3,4,5,9,10,11,12,13,14,15,16,17,18,20,21,22,23,25,26,31,32,60,61,72,73,74,62] [(0,.N n ls),(1,.q bb),(2,.q ab),(3,.i w),(4,.i p),(5,.q nb),(9,.q pb),(10,.i 0),(11,.i u),(12,y12),(13,.map kb),(14,y14),(15,.q zb),(16,.q xb),(17,y17),(18,y18),(20,y20),(21,y21),(22,y22),(23,y23),(25,.i n),(26,.n top),(31,y31),(32,y32),(60,.n q),(61,.n i),(72,y72),(73,y73),(74,y74),(62,.bool true)] H :=
 hx N 60 [jT 16 0 H g0]
theorem QpW (u:Int) (top:Nat) (kb:Nat) (zb:Nat) (xb:Nat) (q i:Nat) (g0:¬((i:Int)<(q:Int))) (y12 y14 y17 y18 y20 y21 y22 y23 y31 y32 y72 y73 y74:HV:=Ud): RunsTo Tp (plF F) 65 (sn 3827688 B65) (e65 n ls bb ab w p nb pb u top y12 (.map kb) y14 (.q zb) (.q xb) y17 y18 y20 y21 y22 y23 y31 y32 (.n q) (.n i) y72 y73 y74) H .normal [0,1,2,3,4,5,9,10,11,12,13,14,15,16,17,18,20,21,22,23,25,26,31,32,60,61,72,73,74,62] [(0,.N n ls),(1,.q bb),(2,.q ab),(3,.i w),(4,.i p),(5,.q nb),(9,.q pb),(10,.i 0),(11,.i u),(12,y12),(13,.map kb),(14,y14),(15,.q zb),(16,.q xb),(17,y17),(18,y18),(20,y20),(21,y21),(22,y22),(23,y23),(25,.i n),(26,.n top),(31,y31),(32,y32),(60,.n q),(61,.n i),(72,y72),(73,y73),(74,y74),(62,.bool false)] H :=
 hx N 60 [jF 16 0 H g0]
theorem QhT (u:Int) (top:Nat) (kb:Nat) (zb:Nat) (xb:Nat) (q i:Nat) (y12 y14 y17 y18 y20 y21 y22 y23 y31 y32 y72 y73 y74:HV:=Ud): RU F 65 7655378 B65 [(0,.N n ls),(1,.q bb),(2,.q ab),(3,.i w),(4,.i p),(5,.q nb),(9,.q pb),(10,.i 0),(11,.i u),(12,y12),(13,.map kb),(14,y14),(15,.q zb),(16,.q xb),(17,y17),(18,y18),(20,y20),(21,y21),(22,y22),(23,y23),(25,.i n),(26,.n top),(31,y31),(32,y32),(60,.n q),(61,.n i),(72,y72),(73,y73),(74,y74),(62,.bool true)] H .normal (e65 n ls bb ab w p nb pb u top y12 (.map kb) y14 (.q zb) (.q xb) y17 y18 y20 y21 y22 y23 y31 y32 (.n q) (.n i) y72 y73 y74) H :=
 hx N 60 []
theorem QhU (u:Int) (top:Nat) (kb:Nat) (zb:Nat) (xb:Nat) (q i:Nat) (y12 y14 y17 y18 y20 y21 y22 y23 y31 y32 y72 y73 y74:HV:=Ud): RU F 65 7655378 B65 [(0,.N n ls),(1,.q bb),(2,.q ab),(3,.i w),(4,.i p),(5,.q nb),(9,.q pb),(10,.i 0),(11,.i u),(12,y12),(13,.map kb),(14,y14),(15,.q zb),(16,.q xb),(17,y17),(18,y18),(20,y20),(21,y21),(22,y22),(23,y23),(25,.i n),(26,.n top),(31,y31),(32,y32),(60,.n q),(61,.n i),(72,y72),(73,y73),(74,y74),(62,.bool false)] H (.exit 4) (e65 n ls bb ab w p nb pb u top y12 (.map kb) y14 (.q zb) (.q xb) y17 y18 y20 y21 y22 y23 y31 y32 (.n q) (.n i) y72 y73 y74) H :=
 hx N 60 []
theorem QpX (u:Int) (top:Nat) (kb:Nat) (zb:Nat) (xb:Nat) (q i mb ra:Nat) {H0:Heap} {H1:Heap} (g0:LD H 57 (.q xb) (.o mb q)) (g1:LD H 3 (.q zb) (.n q)) (g2:XU Tp false 24 (.n q) (.n q) H=some (.o ra q,H0)) (g3:IO 57 mb q i) (g4:ST H0 24 (.ptr mb i 0 q) (.o ra q) H1) (gS18:(WT ((QK Tp H 57 (.q xb)).map (fun v=>(v,(H:Heap)))) ((QK Tp H0 57 (.q xb)).map (fun v=>(v,(H0:Heap)))) H H0&&true)=true) (y12 y14 y17 y18 y20 y21 y22 y23 y31 y32 y72 y73 y74:HV:=Ud): RU F 65 15310758 B65 (e65 n ls bb ab w p nb pb u top y12 (.map kb) y14 (.q zb) (.q xb) y17 y18 y20 y21 y22 y23 y31 y32 (.n q) (.n i) y72 y73 y74) H .normal (e65 n ls bb ab w p nb pb u top y12 (.map kb) y14 (.q zb) (.q xb) (.n i) y18 y20 y21 y22 y23 y31 y32 (.n q) (.n i) y72 y73 y74) H1 :=
 hx N 60 [jK gS18,jO 18 0 H g0,jO 18 2 H g1,jR 18 3 g2,jO 18 4 H0 g3,jS 18 5 g4]
theorem QpY (u:Int) (top:Nat) (kb:Nat) (zb:Nat) (xb:Nat) (q i:Nat) (y12 y14 y17 y18 y20 y21 y22 y23 y31 y32 y72 y73 y74:HV:=Ud): RU F 65 15310759 B65 (e65 n ls bb ab w p nb pb u top y12 (.map kb) y14 (.q zb) (.q xb) y17 y18 y20 y21 y22 y23 y31 y32 (.n q) (.n i) y72 y73 y74) H .normal (e65 n ls bb ab w p nb pb u top y12 (.map kb) y14 (.q zb) (.q xb) y17 y18 y20 y21 y22 y23 y31 y32 (.n q) (.i (qA.wrap ((i:Int)+1))) y72 y73 y74) H :=
 hx N 60 []
theorem QpZ (u:Int) (top:Nat) (kb:Nat) (zb:Nat) (xb:Nat) (y12 y14 y17 y18 y20 y21 y22 y23 y31 y32 y60 y61 y72 y73 y74:HV:=Ud): RU F 65 478462 B65 (e65 n ls bb ab w p nb pb u top y12 (.map kb) y14 (.q zb) (.q xb) y17 y18 y20 y21 y22 y23 y31 y32 y60 y61 y72 y73 y74) H .normal (e65 n ls bb ab w p nb pb u top y12 (.map kb) y14 (.q zb) (.q xb) y17 (.func 86 [] [.q zb,.q xb,.q pb]) y20 y21 y22 y23 y31 y32 y60 y61 y72 y73 y74) H :=
 hx N 60 []
theorem Qp0 (u:Int) (top:Nat) (kb:Nat) (zb:Nat) (xb:Nat) (g0:LD H 22 (.ptr nb 0 1 1) (.g ls)) (y12 y14 y17 y20 y21 y22 y23 y31 y32 y60 y61 y72 y73 y74:HV:=Ud): RU F 65 1913852 B65 (e65 n ls bb ab w p nb pb u top y12 (.map kb) y14 (.q zb) (.q xb) y17 (.func 86 [] [.q zb,.q xb,.q pb]) y20 y21 y22 y23 y31 y32 y60 y61 y72 y73 y74) H .normal (e65 n ls bb ab w p nb pb u top y12 (.map kb) y14 (.q zb) (.q xb) y17 (.func 86 [] [.q zb,.q xb,.q pb]) y20 y21 y22 y23 y31 y32 y60 y61 (.g ls) (.i (ls.length:Int)) (.i 0)) H :=
 hx N 60 [jO 21 1 H g0]
theorem Qp1 (u:Int) (top:Nat) (kb:Nat) (zb:Nat) (xb:Nat) (m k:Nat) (g0:(k:Int)<(m:Int)) (y12 y14 y15 y17 y20 y21 y22 y23 y31 y32 y60 y61:HV:=Ud): RunsTo Tp (plF F) 65 (sn 15310824 B65) (e65 n ls bb ab w p nb pb u top y12 (.map kb) y14 y15 (.q xb) y17 (.func 86 [] [.q zb,.q xb,.q pb]) y20 y21 y22 y23 y31 y32 y60 y61 (.g ls) (.n m) (.n k)) H .normal [0,1,2,3,4,5,9,10,11,12,13,14,15,16,17,18,20,21,22,23,25,26,31,32,60,61,72,73,74,75] [(0,.N n ls),(1,.q bb),(2,.q ab),(3,.i w),(4,.i p),(5,.q nb),(9,.q pb),(10,.i 0),(11,.i u),(12,y12),(13,.map kb),(14,y14),(15,y15),(16,.q xb),(17,y17),(18,.func 86 [] [.q zb,.q xb,.q pb]),(20,y20),(21,y21),(22,y22),(23,y23),(25,.i n),(26,.n top),(31,y31),(32,y32),(60,y60),(61,y61),(72,.g ls),(73,.n m),(74,.n k),(75,.bool true)] H :=
 hx N 60 [jT 22 0 H g0]
theorem Qp2 (u:Int) (top:Nat) (kb:Nat) (zb:Nat) (xb:Nat) (m k:Nat) (g0:¬((k:Int)<(m:Int))) (y12 y14 y15 y17 y20 y21 y22 y23 y31 y32 y60 y61:HV:=Ud): RunsTo Tp (plF F) 65 (sn 15310824 B65) (e65 n ls bb ab w p nb pb u top y12 (.map kb) y14 y15 (.q xb) y17 (.func 86 [] [.q zb,.q xb,.q pb]) y20 y21 y22 y23 y31 y32 y60 y61 (.g ls) (.n m) (.n k)) H .normal [0,1,2,3,4,5,9,10,11,12,13,14,15,16,17,18,20,21,22,23,25,26,31,32,60,61,72,73,74,75] [(0,.N n ls),(1,.q bb),(2,.q ab),(3,.i w),(4,.i p),(5,.q nb),(9,.q pb),(10,.i 0),(11,.i u),(12,y12),(13,.map kb),(14,y14),(15,y15),(16,.q xb),(17,y17),(18,.func 86 [] [.q zb,.q xb,.q pb]),(20,y20),(21,y21),(22,y22),(23,y23),(25,.i n),(26,.n top),(31,y31),(32,y32),(60,y60),(61,y61),(72,.g ls),(73,.n m),(74,.n k),(75,.bool false)] H :=
 hx N 60 [jF 22 0 H g0]
theorem QhV (u:Int) (top:Nat) (kb:Nat) (zb:Nat) (xb:Nat) (m k:Nat) (y12 y14 y15 y17 y20 y21 y22 y23 y31 y32 y60 y61:HV:=Ud): RU F 65 30621650 B65 [(0,.N n ls),(1,.q bb),(2,.q ab),(3,.i w),(4,.i p),(5,.q nb),(9,.q pb),(10,.i 0),(11,.i u),(12,y12),(13,.map kb),(14,y14),(15,y15),(16,.q xb),(17,y17),(18,.func 86 [] [.q zb,.q xb,.q pb]),(20,y20),(21,y21),(22,y22),(23,y23),(25,.i n),(26,.n top),(31,y31),(32,y32),(60,y60),(61,y61),(72,.g ls),(73,.n m),(74,.n k),(75,.bool true)] H .normal (e65 n ls bb ab w p nb pb u top y12 (.map kb) y14 y15 (.q xb) y17 (.func 86 [] [.q zb,.q xb,.q pb]) y20 y21 y22 y23 y31 y32 y60 y61 (.g ls) (.n m) (.n k)) H :=
 hx N 60 []
theorem QhW (u:Int) (top:Nat) (kb:Nat) (zb:Nat) (xb:Nat) (m k:Nat) (y12 y14 y15 y17 y20 y21 y22 y23 y31 y32 y60 y61:HV:=Ud): RU F 65 30621650 B65 [(0,.N n ls),(1,.q bb),(2,.q ab),(3,.i w),(4,.i p),(5,.q nb),(9,.q pb),(10,.i 0),(11,.i u),(12,y12),(13,.map kb),(14,y14),(15,y15),(16,.q xb),(17,y17),(18,.func 86 [] [.q zb,.q xb,.q pb]),(20,y20),(21,y21),(22,y22),(23,y23),(25,.i n),(26,.n top),(31,y31),(32,y32),(60,y60),(61,y61),(72,.g ls),(73,.n m),(74,.n k),(75,.bool false)] H (.exit 6) (e65 n ls bb ab w p nb pb u top y12 (.map kb) y14 y15 (.q xb) y17 (.func 86 [] [.q zb,.q xb,.q pb]) y20 y21 y22 y23 y31 y32 y60 y61 (.g ls) (.n m) (.n k)) H :=
 hx N 60 []
theorem Qp3 (u:Int) (top:Nat) (kb:Nat) (zb:Nat) (xb:Nat) (m k:Nat) (a2 b2 w2:Int) {a0:HV} {H0:Heap} {H1:Heap} {a1:HV} {e0:Int} {H2:Heap} {t0:Int} {a3:HV} {e1:Int} {H3:Heap} {t1:Int} {a4:HV} (g0:IX 22 (.g ls) (.n k) (.vptr (.agg [.i a2,.i b2,.i w2]))) (g1:some (Q4 (.agg [.i 0,.i 0,.i 0]) H)=some (a0,H0)) (g2:ST H0 42 (a0) (.agg [.i a2,.i b2,.i w2]) H1) (g3:Qt Tp 42 a0 0=some (a1)) (g4:LD H1 3 (a1) (.i a2)) (g5:CN F N 55 [.q bb,.i a2] H1 (.i e0) H2) (g6:lkG Tp 117 H2 kb (.i e0) true=some (.tuple [.i t0,.bool true],H2)) (g7:Qt Tp 42 a0 1=some (a3)) (g8:LD H2 3 (a3) (.i b2)) (g9:CN F N 55 [.q bb,.i b2] H2 (.i e1) H3) (g10:lkG Tp 117 H3 kb (.i e1) false=some (.i t1,H3)) (g11:Qt Tp 42 a0 2=some (a4)) (g12:LD H3 3 (a4) (.i w2)) (g13:w2=w) (g14:t0=t1) (y12 y14 y15 y17 y20 y21 y22 y23 y31 y32 y60 y61:HV:=Ud): RU F 65 61243302 B65 (e65 n ls bb ab w p nb pb u top y12 (.map kb) y14 y15 (.q xb) y17 (.func 86 [] [.q zb,.q xb,.q pb]) y20 y21 y22 y23 y31 y32 y60 y61 (.g ls) (.n m) (.n k)) H .normal (e65 n ls bb ab w p nb pb u top y12 (.map kb) y14 y15 (.q xb) y17 (.func 86 [] [.q zb,.q xb,.q pb]) a0 (.i t0) (.bool true) (.i t1) y31 y32 y60 y61 (.g ls) (.n m) (.n k)) H3 :=
 hx N 60 [jO 23 0 H g0,jR 23 2 g1,jS 23 3 g2,jO 24 2 H1 g3,jO 24 3 H1 g4,jC 24 4 g5,jR 24 5 g6,jO 25 2 H2 g7,jO 25 3 H2 g8,jC 25 4 g9,jR 25 5 g10,jO 26 2 H3 g11,jO 26 3 H3 g12,jT 26 5 H3 g13,jB 26 10 H3 (congrArg not (decide_eq_true g14))]
theorem Qp4 (u:Int) (top:Nat) (kb:Nat) (zb:Nat) (xb:Nat) (m k:Nat) (a2 b2 w2:Int) {a0:HV} {H0:Heap} {H1:Heap} {a1:HV} {e0:Int} {H2:Heap} {t0:Int} {a3:HV} {e1:Int} {H3:Heap} {t1:Int} {a4:HV} {H4:Heap} {H5:Heap} {H6:Heap} {H7:Heap} (g0:IX 22 (.g ls) (.n k) (.vptr (.agg [.i a2,.i b2,.i w2]))) (g1:some (Q4 (.agg [.i 0,.i 0,.i 0]) H)=some (a0,H0)) (g2:ST H0 42 (a0) (.agg [.i a2,.i b2,.i w2]) H1) (g3:Qt Tp 42 a0 0=some (a1)) (g4:LD H1 3 (a1) (.i a2)) (g5:CN F N 55 [.q bb,.i a2] H1 (.i e0) H2) (g6:lkG Tp 117 H2 kb (.i e0) true=some (.tuple [.i t0,.bool true],H2)) (g7:Qt Tp 42 a0 1=some (a3)) (g8:LD H2 3 (a3) (.i b2)) (g9:CN F N 55 [.q bb,.i b2] H2 (.i e1) H3) (g10:lkG Tp 117 H3 kb (.i e1) false=some (.i t1,H3)) (g11:Qt Tp 42 a0 2=some (a4)) (g12:LD H3 3 (a4) (.i w2)) (g13:w2=w) (g14:¬(t0=t1)) (g15:CN F N 86 [.i t0,.i t0,.i 1,.q zb,.q xb,.q pb] H3 (.tuple []) H4) (g16:CN F N 86 [.i t1,.i t1,.i 1,.q zb,.q xb,.q pb] H4 (.tuple []) H5) (g17:CN F N 86 [.i t0,.i t1,.i (-1),.q zb,.q xb,.q pb] H5 (.tuple []) H6) (g18:CN F N 86 [.i t1,.i t0,.i (-1),.q zb,.q xb,.q pb] H6 (.tuple []) H7) (y12 y14 y15 y17 y20 y21 y22 y23 y31 y32 y60 y61:HV:=Ud): RU F 65 61243302 B65 (e65 n ls bb ab w p nb pb u top y12 (.map kb) y14 y15 (.q xb) y17 (.func 86 [] [.q zb,.q xb,.q pb]) y20 y21 y22 y23 y31 y32 y60 y61 (.g ls) (.n m) (.n k)) H .normal (e65 n ls bb ab w p nb pb u top y12 (.map kb) y14 y15 (.q xb) y17 (.func 86 [] [.q zb,.q xb,.q pb]) a0 (.i t0) (.bool true) (.i t1) y31 y32 y60 y61 (.g ls) (.n m) (.n k)) H7 :=
 hx N 60 [jO 23 0 H g0,jR 23 2 g1,jS 23 3 g2,jO 24 2 H1 g3,jO 24 3 H1 g4,jC 24 4 g5,jR 24 5 g6,jO 25 2 H2 g7,jO 25 3 H2 g8,jC 25 4 g9,jR 25 5 g10,jO 26 2 H3 g11,jO 26 3 H3 g12,jT 26 5 H3 g13,jB 26 10 H3 (congrArg not (decide_eq_false g14)),jC 27 3 g15,jC 28 3 g16,jC 29 3 g17,jC 30 3 g18]
theorem Qp5 (u:Int) (top:Nat) (kb:Nat) (zb:Nat) (xb:Nat) (m k:Nat) (a2 b2 w2:Int) {a0:HV} {H0:Heap} {H1:Heap} {a1:HV} {e0:Int} {H2:Heap} {t0:Int} {a3:HV} {e1:Int} {H3:Heap} {t1:Int} {a4:HV} (g0:IX 22 (.g ls) (.n k) (.vptr (.agg [.i a2,.i b2,.i w2]))) (g1:some (Q4 (.agg [.i 0,.i 0,.i 0]) H)=some (a0,H0)) (g2:ST H0 42 (a0) (.agg [.i a2,.i b2,.i w2]) H1) (g3:Qt Tp 42 a0 0=some (a1)) (g4:LD H1 3 (a1) (.i a2)) (g5:CN F N 55 [.q bb,.i a2] H1 (.i e0) H2) (g6:lkG Tp 117 H2 kb (.i e0) true=some (.tuple [.i t0,.bool true],H2)) (g7:Qt Tp 42 a0 1=some (a3)) (g8:LD H2 3 (a3) (.i b2)) (g9:CN F N 55 [.q bb,.i b2] H2 (.i e1) H3) (g10:lkG Tp 117 H3 kb (.i e1) false=some (.i t1,H3)) (g11:Qt Tp 42 a0 2=some (a4)) (g12:LD H3 3 (a4) (.i w2)) (g13:¬(w2=w)) (y12 y14 y15 y17 y20 y21 y22 y23 y31 y32 y60 y61:HV:=Ud): RU F 65 61243302 B65 (e65 n ls bb ab w p nb pb u top y12 (.map kb) y14 y15 (.q xb) y17 (.func 86 [] [.q zb,.q xb,.q pb]) y20 y21 y22 y23 y31 y32 y60 y61 (.g ls) (.n m) (.n k)) H .normal (e65 n ls bb ab w p nb pb u top y12 (.map kb) y14 y15 (.q xb) y17 (.func 86 [] [.q zb,.q xb,.q pb]) a0 (.i t0) (.bool true) (.i t1) y31 y32 y60 y61 (.g ls) (.n m) (.n k)) H3 :=
 hx N 60 [jO 23 0 H g0,jR 23 2 g1,jS 23 3 g2,jO 24 2 H1 g3,jO 24 3 H1 g4,jC 24 4 g5,jR 24 5 g6,jO 25 2 H2 g7,jO 25 3 H2 g8,jC 25 4 g9,jR 25 5 g10,jO 26 2 H3 g11,jO 26 3 H3 g12,jF 26 5 H3 g13]
theorem Qp6 (u:Int) (top:Nat) (kb:Nat) (zb:Nat) (xb:Nat) (m k:Nat) (a2 b2 w2:Int) {a0:HV} {H0:Heap} {H1:Heap} {a1:HV} {e0:Int} {H2:Heap} {a3:HV} {e1:Int} {H3:Heap} {t0:Int} (g0:IX 22 (.g ls) (.n k) (.vptr (.agg [.i a2,.i b2,.i w2]))) (g1:some (Q4 (.agg [.i 0,.i 0,.i 0]) H)=some (a0,H0)) (g2:ST H0 42 (a0) (.agg [.i a2,.i b2,.i w2]) H1) (g3:Qt Tp 42 a0 0=some (a1)) (g4:LD H1 3 (a1) (.i a2)) (g5:CN F N 55 [.q bb,.i a2] H1 (.i e0) H2) (g6:lkG Tp 117 H2 kb (.i e0) true=some (.tuple [.i 0,.bool false],H2)) (g7:Qt Tp 42 a0 1=some (a3)) (g8:LD H2 3 (a3) (.i b2)) (g9:CN F N 55 [.q bb,.i b2] H2 (.i e1) H3) (g10:lkG Tp 117 H3 kb (.i e1) false=some (.i t0,H3)) (y12 y14 y15 y17 y20 y21 y22 y23 y31 y32 y60 y61:HV:=Ud): RU F 65 61243302 B65 (e65 n ls bb ab w p nb pb u top y12 (.map kb) y14 y15 (.q xb) y17 (.func 86 [] [.q zb,.q xb,.q pb]) y20 y21 y22 y23 y31 y32 y60 y61 (.g ls) (.n m) (.n k)) H .normal (e65 n ls bb ab w p nb pb u top y12 (.map kb) y14 y15 (.q xb) y17 (.func 86 [] [.q zb,.q xb,.q pb]) a0 (.i 0) (.bool false) (.i t0) y31 y32 y60 y61 (.g ls) (.n m) (.n k)) H3 :=
 hx N 60 [jO 23 0 H g0,jR 23 2 g1,jS 23 3 g2,jO 24 2 H1 g3,jO 24 3 H1 g4,jC 24 4 g5,jR 24 5 g6,jO 25 2 H2 g7,jO 25 3 H2 g8,jC 25 4 g9,jR 25 5 g10]
theorem Qp7 (u:Int) (top:Nat) (kb:Nat) (zb:Nat) (xb:Nat) (m k:Nat) (y12 y14 y15 y17 y20 y21 y22 y23 y31 y32 y60 y61:HV:=Ud): RU F 65 61243303 B65 (e65 n ls bb ab w p nb pb u top y12 (.map kb) y14 y15 (.q xb) y17 (.func 86 [] [.q zb,.q xb,.q pb]) y20 y21 y22 y23 y31 y32 y60 y61 (.g ls) (.n m) (.n k)) H .normal (e65 n ls bb ab w p nb pb u top y12 (.map kb) y14 y15 (.q xb) y17 (.func 86 [] [.q zb,.q xb,.q pb]) y20 y21 y22 y23 y31 y32 y60 y61 (.g ls) (.n m) (.i (qA.wrap ((k:Int)+1)))) H :=
 hx N 60 []
theorem Qp8 (u:Int) (top:Nat) (kb:Nat) (zb:Nat) (xb:Nat) (mb q:Nat) {e0:Int} {H0:Heap} (g0:LD H 57 (.q xb) (.o mb q)) (g1:LD H 3 (.q pb) (.i p)) (g2:CN F N 87 [.o mb q,.i p] H (.i e0) H0) (g3:LD H0 3 (.q pb) (.i p)) (g4:BV .rem 3 (.i (qA.wrap (u*e0))) (.i p) (.i ((qA.wrap (u*e0):Int).tmod p))) (gS32:(WT ((QK Tp H0 3 (.q pb)).map (fun v=>(v,(H0:Heap)))) ((QK Tp H 3 (.q pb)).map (fun v=>(v,(H:Heap)))) H0 H&&true)=true) (y12 y14 y15 y17 y20 y21 y22 y23 y31 y32 y60 y61 y72 y73 y74:HV:=Ud): RU F 65 956927 B65 (e65 n ls bb ab w p nb pb u top y12 (.map kb) y14 y15 (.q xb) y17 (.func 86 [] [.q zb,.q xb,.q pb]) y20 y21 y22 y23 y31 y32 y60 y61 y72 y73 y74) H .normal (QY (.N n ls) (.q bb) (.q ab) (.i w) (.i p) (.q nb) (.q pb) (.i 0) (.i ((qA.wrap (u*e0):Int).tmod p)) y12 (.map kb) y14 y15 (.q xb) y17 (.func 86 [] [.q zb,.q xb,.q pb]) y20 y21 y22 y23 (.i n) (.n top) y31 y32 y60 y61 y72 y73 y74) H0 :=
 hx N 60 [jK gS32,jO 32 1 H g0,jO 32 2 H g1,jC 32 3 g2,jO 32 5 H0 g3,jO 32 6 H0 g4]
theorem QfG (u:Int) (top:Nat) (y12 y13 y14 y15 y16 y17 y18 y20 y21 y22 y23 y31 y32 y60 y61 y72 y73 y74:HV:=Ud): RU F 65 935 B65 (e65 n ls bb ab w p nb pb u top y12 y13 y14 y15 y16 y17 y18 y20 y21 y22 y23 y31 y32 y60 y61 y72 y73 y74) H .normal (QY (.N n ls) (.q bb) (.q ab) (.i w) (.i p) (.q nb) (.q pb) (.i 0) (.i u) y12 y13 y14 y15 y16 y17 y18 y20 y21 y22 y23 (.i n) (.i (qA.wrap ((top:Int)+1))) y31 y32 y60 y61 y72 y73 y74) H :=
 hx N 60 []
theorem Qp9 (u:Int) (y12 y13 y14 y15 y16 y17 y18 y20 y21 y22 y23 y25 y26 y31 y32 y60 y61 y72 y73 y74:HV:=Ud): RU F 65 15 B65 (QY (.N n ls) (.q bb) (.q ab) (.i w) (.i p) (.q nb) (.q pb) (.i 0) (.i u) y12 y13 y14 y15 y16 y17 y18 y20 y21 y22 y23 y25 y26 y31 y32 y60 y61 y72 y73 y74) H .ret (QY (.N n ls) (.q bb) (.q ab) (.i w) (.i p) (.q nb) (.q pb) (.i u) (.i u) y12 y13 y14 y15 y16 y17 y18 y20 y21 y22 y23 y25 y26 y31 y32 y60 y61 y72 y73 y74) H :=
 hx N 60 []
end
section
variable {F:FuncId→Option (List HV→Option HV)}
noncomputable def B87:Code:=Try.f87.body.getD .skip
abbrev Q2 (v0 v1 v4 v5 v6 v7 v8 v9 v10 v11 v13 v14:HV):Env:=[(0,v0),(1,v1),(4,v4),(5,v5),(6,v6),(7,v7),(8,v8),(9,v9),(10,v10),(11,v11),(13,v13),(14,v14)]
end
abbrev e87 (mb:Nat) (q:Nat) (p:Int) (u:Int) (c:Nat) (u5 u6 u7 u8 u9:HV):Env:=Q2 (.o mb q) (.i p) (.i 0) (.i u) (.n c) u5 u6 u7 u8 u9 (.n q) (.n c)
section
variable {F:FuncId→Option (List HV→Option HV)}
variable (N:Nat) (mb q:Nat) (p:Int) (H:Heap)
include N mb q p H
theorem Qqa:RU F 87 2 B87 [(0,.o mb q),(1,.i p)] H .normal (Q2 (.o mb q) (.i p) (.i 0) Ud Ud Ud Ud Ud Ud Ud Ud Ud) H :=
 hx N 60 []
end
section
variable {F:FuncId→Option (List HV→Option HV)}
variable (N:Nat) (mb q:Nat) (p:Int) (H:Heap)
include N mb q p H
theorem Qqb (y5 y6 y7 y8 y9 y10 y11 y13 y14:HV:=Ud): RU F 87 6 B87 (Q2 (.o mb q) (.i p) (.i 0) y5 y6 y7 y8 y9 y10 y11 y13 y14) H .normal (Q2 (.o mb q) (.i p) (.i 0) (.i 1) y6 y7 y8 y9 y10 y11 y13 y14) H :=
 hx N 60 []
theorem Qqc (u:Int) (y6 y7 y8 y9 y10 y11 y13 y14:HV:=Ud): RU F 87 28 B87 (Q2 (.o mb q) (.i p) (.i 0) (.i u) y6 y7 y8 y9 y10 y11 y13 y14) H .normal (Q2 (.o mb q) (.i p) (.i 0) (.i u) y6 y7 y8 y9 y10 y11 (.n q) (.i 0)) H :=
 hx N 60 []
theorem Qqd (c:Nat) (u:Int) (g0:(c:Int)<(q:Int)) (y6 y7 y8 y9 y10 y11:HV:=Ud): RunsTo Tp (plF F) 87 (sn 232 B87) (Q2 (.o mb q) (.i p) (.i 0) (.i u) y6 y7 y8 y9 y10 y11 (.n q) (.n c)) H .normal [0,1,4,5,6,7,8,9,10,11,13,14,15] [(0,.o mb q),(1,.i p),(4,.i 0),(5,.i u),(6,y6),(7,y7),(8,y8),(9,y9),(10,y10),(11,y11),(13,.n q),(14,.n c),(15,.bool true)] H :=
 hx N 60 [jT 3 0 H g0]
theorem Qqe (c:Nat) (u:Int) (g0:¬((c:Int)<(q:Int))) (y6 y7 y8 y9 y10 y11:HV:=Ud): RunsTo Tp (plF F) 87 (sn 232 B87) (Q2 (.o mb q) (.i p) (.i 0) (.i u) y6 y7 y8 y9 y10 y11 (.n q) (.n c)) H .normal [0,1,4,5,6,7,8,9,10,11,13,14,15] [(0,.o mb q),(1,.i p),(4,.i 0),(5,.i u),(6,y6),(7,y7),(8,y8),(9,y9),(10,y10),(11,y11),(13,.n q),(14,.n c),(15,.bool false)] H :=
 hx N 60 [jF 3 0 H g0]
theorem QhX (c:Nat) (u:Int) (y6 y7 y8 y9 y10 y11:HV:=Ud): RU F 87 466 B87 [(0,.o mb q),(1,.i p),(4,.i 0),(5,.i u),(6,y6),(7,y7),(8,y8),(9,y9),(10,y10),(11,y11),(13,.n q),(14,.n c),(15,.bool true)] H .normal (Q2 (.o mb q) (.i p) (.i 0) (.i u) y6 y7 y8 y9 y10 y11 (.n q) (.n c)) H :=
 hx N 60 []
theorem QhY (c:Nat) (u:Int) (y6 y7 y8 y9 y10 y11:HV:=Ud): RU F 87 466 B87 [(0,.o mb q),(1,.i p),(4,.i 0),(5,.i u),(6,y6),(7,y7),(8,y8),(9,y9),(10,y10),(11,y11),(13,.n q),(14,.n c),(15,.bool false)] H (.exit 0) (Q2 (.o mb q) (.i p) (.i 0) (.i u) y6 y7 y8 y9 y10 y11 (.n q) (.n c)) H :=
 hx N 60 []
theorem Qqf (c:Nat) (u:Int) (y6 y7 y8 y9 y10 y11:HV:=Ud): RU F 87 3736 B87 (Q2 (.o mb q) (.i p) (.i 0) (.i u) y6 y7 y8 y9 y10 y11 (.n q) (.n c)) H .normal (e87 mb q p u c y7 y8 y9 y10 y11) H :=
 hx N 60 []
theorem Qqg (c:Nat) (u:Int) (y7 y8 y9 y10 y11:HV:=Ud): RU F 87 7474 B87 (e87 mb q p u c y7 y8 y9 y10 y11) H .normal (e87 mb q p u c (.n c) y8 y9 y10 y11) H :=
 hx N 60 []
theorem Qqh (c r:Nat) (u:Int) (rb:Nat) (x:Int) (g0:(r:Int)<(q:Int)) (g1:IO 57 mb q r) (g2:LD H 24 (.ptr mb r 0 q) (.o rb q)) (g3:IO 24 rb q c) (g4:LD H 3 (.ptr rb c 0 q) (.i x)) (g5:x=0) (y8 y9 y10 y11:HV:=Ud): RU F 87 59800 B87 (e87 mb q p u c (.n r) y8 y9 y10 y11) H .normal (e87 mb q p u c (.i (qA.wrap ((r:Int)+1))) y8 y9 y10 y11) H :=
 hx N 60 [jT 6 3 H g0,jO 6 7 H g1,jO 6 8 H g2,jO 6 10 H g3,jO 6 11 H g4,jT 6 12 H g5]
theorem Qqi (c r:Nat) (u:Int) (rb:Nat) (x:Int) (g0:(r:Int)<(q:Int)) (g1:IO 57 mb q r) (g2:LD H 24 (.ptr mb r 0 q) (.o rb q)) (g3:IO 24 rb q c) (g4:LD H 3 (.ptr rb c 0 q) (.i x)) (g5:¬(x=0)) (y8 y9 y10 y11:HV:=Ud): RU F 87 59800 B87 (e87 mb q p u c (.n r) y8 y9 y10 y11) H (.exit 2) (e87 mb q p u c (.n r) y8 y9 y10 y11) H :=
 hx N 60 [jT 6 3 H g0,jO 6 7 H g1,jO 6 8 H g2,jO 6 10 H g3,jO 6 11 H g4,jF 6 12 H g5]
theorem Qqj (c r:Nat) (u:Int) (rb:Nat) (x:Int) (g0:¬((r:Int)<(q:Int))) (y8 y9 y10 y11:HV:=Ud): RU F 87 59800 B87 (e87 mb q p u c (.n r) y8 y9 y10 y11) H (.exit 2) (e87 mb q p u c (.n r) y8 y9 y10 y11) H :=
 hx N 60 [jF 6 3 H g0]
theorem Qqk (c r:Nat) (u:Int) (g0:(r:Int)=(q:Int)) (y8 y9 y10 y11:HV:=Ud): RU F 87 29902 B87 (e87 mb q p u c (.n r) y8 y9 y10 y11) H .ret (e87 mb q p u c (.n r) y8 y9 y10 y11) H :=
 hx N 60 [jT 8 3 H g0]
theorem Qql (c r:Nat) (u:Int) (g0:¬((r:Int)=(q:Int))) (y8 y9 y10 y11:HV:=Ud): RU F 87 29902 B87 (e87 mb q p u c (.n r) y8 y9 y10 y11) H .normal (e87 mb q p u c (.n r) y8 y9 y10 y11) H :=
 hx N 60 [jF 8 3 H g0]
theorem Qqm (c r:Nat) (u:Int) (ra rb:Nat) (g0:(r:Int)=(c:Int)) (y8 y9 y10 y11:HV:=Ud): RU F 87 59806 B87 (e87 mb q p u c (.n r) y8 y9 y10 y11) H .normal (e87 mb q p u c (.n r) y8 y9 y10 y11) H :=
 hx N 60 [jB 10 2 H (congrArg not (decide_eq_true g0))]
theorem Qqn (c r:Nat) (u:Int) (ra rb:Nat) {H0:Heap} {H1:Heap} (g0:¬((r:Int)=(c:Int))) (g1:IO 57 mb q c) (g2:LD H 24 (.ptr mb c 0 q) (.o rb q)) (g3:IO 57 mb q r) (g4:LD H 24 (.ptr mb r 0 q) (.o ra q)) (g5:IO 57 mb q r) (g6:ST H 24 (.ptr mb r 0 q) (.o rb q) H0) (g7:IO 57 mb q c) (g8:ST H0 24 (.ptr mb c 0 q) (.o ra q) H1) (y8 y9 y10 y11:HV:=Ud): RU F 87 59806 B87 (e87 mb q p u c (.n r) y8 y9 y10 y11) H .normal (Q2 (.o mb q) (.i p) (.i 0) (.i (qA.wrap (p-u))) (.n c) (.n r) y8 y9 y10 y11 (.n q) (.n c)) H1 :=
 hx N 60 [jB 10 2 H (congrArg not (decide_eq_false g0)),jO 11 6 H g1,jO 11 7 H g2,jO 11 10 H g3,jO 11 11 H g4,jO 11 12 H g5,jS 11 13 g6,jO 11 14 H0 g7,jS 11 15 g8]
theorem Qqo (c r:Nat) (u:Int) (rb:Nat) (x:Int) (g0:IO 57 mb q c) (g1:LD H 24 (.ptr mb c 0 q) (.o rb q)) (g2:IO 24 rb q c) (g3:LD H 3 (.ptr rb c 0 q) (.i x)) (g4:BV .rem 3 (.i (qA.wrap (u*x))) (.i p) (.i ((qA.wrap (u*x):Int).tmod p))) (y8 y9 y10 y11:HV:=Ud): RU F 87 119614 B87 (e87 mb q p u c (.n r) y8 y9 y10 y11) H .normal (Q2 (.o mb q) (.i p) (.i 0) (.i ((qA.wrap (u*x):Int).tmod p)) (.n c) (.n r) y8 y9 y10 y11 (.n q) (.n c)) H :=
 hx N 60 [jO 13 3 H g0,jO 13 4 H g1,jO 13 6 H g2,jO 13 7 H g3,jO 13 10 H g4]
theorem Qqp (c r:Nat) (u:Int) (rb:Nat) (x v:Int) {H0:Heap} (g0:IO 57 mb q c) (g1:LD H 24 (.ptr mb c 0 q) (.o rb q)) (g2:IO 24 rb q c) (g3:LD H 3 (.ptr rb c 0 q) (.i x)) (g4:CM F 45 [.i x,.i (qA.wrap (p-2)),.i p] H (.i v) H0) (y8 y9 y10 y11:HV:=Ud): RU F 87 239230 B87 (e87 mb q p u c (.n r) y8 y9 y10 y11) H .normal (e87 mb q p u c (.n r) (.i v) y9 y10 y11) H0 :=
 hx N 60 [jO 14 2 H g0,jO 14 3 H g1,jO 14 5 H g2,jO 14 6 H g3,jD 14 10 g4]
theorem Qqq (c r:Nat) (u:Int) (v:Int) (y9 y10 y11:HV:=Ud): RU F 87 478462 B87 (e87 mb q p u c (.n r) (.i v) y9 y10 y11) H .normal (e87 mb q p u c (.n r) (.i v) (.i (qA.wrap ((c:Int)+1))) y10 y11) H :=
 hx N 60 []
theorem Qqr (c:Nat) (u:Int) (v:Int) (i:Nat) (g0:(i:Int)<(q:Int)) (y7 y10 y11:HV:=Ud): RU F 87 3827704 B87 (e87 mb q p u c y7 (.i v) (.n i) y10 y11) H .normal (e87 mb q p u c y7 (.i v) (.n i) y10 y11) H :=
 hx N 60 [jT 16 3 H g0]
theorem Qqs (c:Nat) (u:Int) (v:Int) (i:Nat) (g0:¬((i:Int)<(q:Int))) (y7 y10 y11:HV:=Ud): RU F 87 3827704 B87 (e87 mb q p u c y7 (.i v) (.n i) y10 y11) H (.exit 4) (e87 mb q p u c y7 (.i v) (.n i) y10 y11) H :=
 hx N 60 [jF 16 3 H g0]
theorem Qqt (c:Nat) (u:Int) (v:Int) (i ra:Nat) (y:Int) (g0:IO 57 mb q i) (g1:LD H 24 (.ptr mb i 0 q) (.o ra q)) (g2:IO 24 ra q c) (g3:LD H 3 (.ptr ra c 0 q) (.i y)) (g4:BV .rem 3 (.i (qA.wrap (y*v))) (.i p) (.i ((qA.wrap (y*v):Int).tmod p))) (y7 y10 y11:HV:=Ud): RU F 87 30621640 B87 (e87 mb q p u c y7 (.i v) (.n i) y10 y11) H .normal (e87 mb q p u c y7 (.i v) (.n i) (.i ((qA.wrap (y*v):Int).tmod p)) y11) H :=
 hx N 60 [jO 18 2 H g0,jO 18 3 H g1,jO 18 5 H g2,jO 18 6 H g3,jO 18 10 H g4]
theorem Qqu (c:Nat) (u:Int) (v:Int) (i:Nat) (f:Int) (y7 y11:HV:=Ud): RU F 87 61243282 B87 (e87 mb q p u c y7 (.i v) (.n i) (.i f) y11) H .normal (e87 mb q p u c y7 (.i v) (.n i) (.i f) (.n c)) H :=
 hx N 60 []
theorem Qqv (c:Nat) (u:Int) (v:Int) (i:Nat) (f:Int) (j ra rb:Nat) (x y:Int) {H0:Heap} (g0:(j:Int)<(q:Int)) (g1:IO 57 mb q i) (g2:LD H 24 (.ptr mb i 0 q) (.o ra q)) (g3:IO 57 mb q i) (g4:LD H 24 (.ptr mb i 0 q) (.o ra q)) (g5:IO 24 ra q j) (g6:LD H 3 (.ptr ra j 0 q) (.i y)) (g7:IO 57 mb q c) (g8:LD H 24 (.ptr mb c 0 q) (.o rb q)) (g9:IO 24 rb q j) (g10:LD H 3 (.ptr rb j 0 q) (.i x)) (g11:BV .rem 3 (.i (qA.wrap (y+qA.wrap (qA.wrap (p-f)*x)))) (.i p) (.i ((qA.wrap (y+qA.wrap (qA.wrap (p-f)*x)):Int).tmod p))) (g12:IO 24 ra q j) (g13:ST H 3 (.ptr ra j 0 q) (.i ((qA.wrap (y+qA.wrap (qA.wrap (p-f)*x)):Int).tmod p)) H0) (y7:HV:=Ud): RU F 87 244973132 B87 (e87 mb q p u c y7 (.i v) (.n i) (.i f) (.n j)) H .normal (e87 mb q p u c y7 (.i v) (.n i) (.i f) (.i (qA.wrap ((j:Int)+1)))) H0 :=
 hx N 60 [jT 20 3 H g0,jO 22 2 H g1,jO 22 3 H g2,jO 22 7 H g3,jO 22 8 H g4,jO 22 10 H g5,jO 22 11 H g6,jO 22 17 H g7,jO 22 18 H g8,jO 22 20 H g9,jO 22 21 H g10,jO 22 25 H g11,jO 22 26 H g12,jS 22 27 g13]
theorem Qqw (c:Nat) (u:Int) (v:Int) (i:Nat) (f:Int) (j ra rb:Nat) (x y:Int) (g0:¬((j:Int)<(q:Int))) (y7:HV:=Ud): RU F 87 244973132 B87 (e87 mb q p u c y7 (.i v) (.n i) (.i f) (.n j)) H (.exit 6) (e87 mb q p u c y7 (.i v) (.n i) (.i f) (.n j)) H :=
 hx N 60 [jF 20 3 H g0]
theorem Qqx (c:Nat) (u:Int) (v:Int) (i:Nat) (y7 y10 y11:HV:=Ud): RU F 87 7655411 B87 (e87 mb q p u c y7 (.i v) (.n i) y10 y11) H .normal (e87 mb q p u c y7 (.i v) (.i (qA.wrap ((i:Int)+1))) y10 y11) H :=
 hx N 60 []
theorem Qqy (c:Nat) (u:Int) (y6 y7 y8 y9 y10 y11:HV:=Ud): RU F 87 935 B87 (Q2 (.o mb q) (.i p) (.i 0) (.i u) y6 y7 y8 y9 y10 y11 (.n q) (.n c)) H .normal (Q2 (.o mb q) (.i p) (.i 0) (.i u) y6 y7 y8 y9 y10 y11 (.n q) (.i (qA.wrap ((c:Int)+1)))) H :=
 hx N 60 []
theorem Qqz (u:Int) (y6 y7 y8 y9 y10 y11 y13 y14:HV:=Ud): RU F 87 15 B87 (Q2 (.o mb q) (.i p) (.i 0) (.i u) y6 y7 y8 y9 y10 y11 y13 y14) H .ret (Q2 (.o mb q) (.i p) (.i u) (.i u) y6 y7 y8 y9 y10 y11 y13 y14) H :=
 hx N 60 []
end
section
variable {F:FuncId→Option (List HV→Option HV)}
noncomputable def B45:Code:=Try.f45.body.getD .skip
abbrev GQ (v0 v1 v2 v6 v7:HV):Env:=[(0,v0),(1,v1),(2,v2),(6,v6),(7,v7)]
end
abbrev e45 (a:Int) (n:Int) (p:Int) (u4:HV):Env:=GQ (.i a) (.i n) (.i p) (.i 0) u4
section
variable {F:FuncId→Option (List HV→Option HV)}
variable (a n p:Int) (H:Heap)
include a n p H
theorem QqA:RU F 45 2 B45 [(0,.i a),(1,.i n),(2,.i p)] H .normal (e45 a n p Ud) H :=
 hx 0 60 []
end
section
variable {F:FuncId→Option (List HV→Option HV)}
variable (a n p:Int) (H:Heap)
include a n p H
theorem QqB (y7:HV:=Ud): RU F 45 6 B45 (e45 a n p y7) H .normal (e45 a n p (.i 1)) H :=
 hx 0 60 []
theorem QqC (u:Int) (g0:0<n) (g1:(n:Int).tmod 2=1) (g2:BV .rem 3 (.i (qA.wrap (u*a))) (.i p) (.i ((qA.wrap (u*a):Int).tmod p))) (g3:BV .rem 3 (.i (qA.wrap (a*a))) (.i p) (.i ((qA.wrap (a*a):Int).tmod p))): RU F 45 56 B45 (e45 a n p (.i u)) H .normal (GQ (.i ((qA.wrap (a*a):Int).tmod p)) (.i (qA.wrap ((n:Int).tdiv 2))) (.i p) (.i 0) (.i ((qA.wrap (u*a):Int).tmod p))) H :=
 hx 0 60 [jT 2 1 H g0,jT 4 2 H g1,jO 5 4 H g2,jO 6 4 H g3]
theorem QqD (u:Int) (g0:0<n) (g1:¬((n:Int).tmod 2=1)) (g2:BV .rem 3 (.i (qA.wrap (a*a))) (.i p) (.i ((qA.wrap (a*a):Int).tmod p))): RU F 45 56 B45 (e45 a n p (.i u)) H .normal (GQ (.i ((qA.wrap (a*a):Int).tmod p)) (.i (qA.wrap ((n:Int).tdiv 2))) (.i p) (.i 0) (.i u)) H :=
 hx 0 60 [jT 2 1 H g0,jF 4 2 H g1,jO 6 4 H g2]
theorem QfH (u:Int) (g0:¬(0<n)): RU F 45 56 B45 (e45 a n p (.i u)) H (.exit 0) (e45 a n p (.i u)) H :=
 hx 0 60 [jF 2 1 H g0]
theorem QqE (u:Int): RU F 45 15 B45 (e45 a n p (.i u)) H .ret (GQ (.i a) (.i n) (.i p) (.i u) (.i u)) H :=
 hx 0 60 []
end
section
variable {F:FuncId→Option (List HV→Option HV)}
noncomputable def B14:Code:=Try.f14.body.getD .skip
abbrev Qcb (v0 v1 v4 v5 v6 v7 v8 v9:HV):Env:=[(0,v0),(1,v1),(4,v4),(5,v5),(6,v6),(7,v7),(8,v8),(9,v9)]
end
abbrev e14 (n:Int) (ls:List HV) (u5 u6 u7:HV):Env:=Qcb (.i n) (.g ls) (.imm .lit 1 []) (.i 0) (.i 0) u5 u6 u7
section
variable {F:FuncId→Option (List HV→Option HV)}
variable (N:Nat) (n:Int) (ls:List HV)
include N n ls
theorem QqF:RU F 14 2 B14 [(0,.i n),(1,.g ls)] [] .normal (e14 n ls Ud Ud Ud) [] :=
 hx N 60 []
end
section
variable {F:FuncId→Option (List HV→Option HV)}
variable (N:Nat) (n:Int) (ls:List HV)
include N n ls
theorem QqG {H0:Heap} {a0:HV} {H1:Heap} {H2:Heap} (g0:CN F N 39 [.i n,.g ls] [] (.tuple [.N n ls,.bool true]) H0) (g1:some (Q4 (.agg [.i 0,.imm .lit 0 []]) H0)=some (a0,H1)) (g2:ST H1 66 (a0) (.N n ls) H2) (y7 y8 y9:HV:=Ud): RU F 14 6 B14 (e14 n ls y7 y8 y9) [] .normal (e14 n ls a0 (.bool true) y9) H2 :=
 hx N 60 [jC 1 2 g0,jR 1 6 g1,jS 1 7 g2]
theorem QqH {H0:Heap} {a0:HV} {H1:Heap} {H2:Heap} (g0:CN F N 39 [.i n,.g ls] [] (.tuple [.N n ls,.bool false]) H0) (g1:some (Q4 (.agg [.i 0,.imm .lit 0 []]) H0)=some (a0,H1)) (g2:ST H1 66 (a0) (.N n ls) H2) (y7 y8 y9:HV:=Ud): RU F 14 6 B14 (e14 n ls y7 y8 y9) [] .normal (e14 n ls a0 (.bool false) y9) H2 :=
 hx N 60 [jC 1 2 g0,jR 1 6 g1,jS 1 7 g2]
theorem QhZ (H:Heap) (y9:HV:=Ud): RU F 14 14 B14 (e14 n ls (.q 0) (.bool true) y9) H .normal (e14 n ls (.q 0) (.bool true) y9) H :=
 hx N 60 []
theorem Qh0 (H:Heap) (y9:HV:=Ud): RU F 14 14 B14 (e14 n ls (.q 0) (.bool false) y9) H .ret (Qcb (.i n) (.g ls) (.imm .lit 1 []) (.i 0) (.i 2) (.q 0) (.bool false) y9) H :=
 hx N 60 []
theorem QqI (H:Heap) (tb m:Nat) {H0:Heap} (g0:LD H 66 (.q 0) (.N n ls)) (g1:CM F 40 [.N n ls] H (.tuple [.s tb m,.bool true]) H0) (y9:HV:=Ud): RU F 14 30 B14 (e14 n ls (.q 0) (.bool true) y9) H .normal (e14 n ls (.q 0) (.bool true) (.s tb m)) H0 :=
 hx N 60 [jO 4 0 H g0,jD 4 1 g1]
theorem QqJ (H:Heap) (tb m:Nat) {H0:Heap} (g0:LD H 66 (.q 0) (.N n ls)) (g1:CM F 40 [.N n ls] H (.tuple [.s tb m,.bool false]) H0) (y9:HV:=Ud): RU F 14 30 B14 (e14 n ls (.q 0) (.bool true) y9) H .normal (e14 n ls (.q 0) (.bool false) (.s tb m)) H0 :=
 hx N 60 [jO 4 0 H g0,jD 4 1 g1]
theorem Qh1 (H:Heap) (tb m:Nat): RU F 14 62 B14 (e14 n ls (.q 0) (.bool true) (.s tb m)) H .normal (e14 n ls (.q 0) (.bool true) (.s tb m)) H :=
 hx N 60 []
theorem Qh2 (H:Heap) (tb m:Nat): RU F 14 62 B14 (e14 n ls (.q 0) (.bool false) (.s tb m)) H .ret (Qcb (.i n) (.g ls) (.imm .lit 1 []) (.i 0) (.i 6) (.q 0) (.bool false) (.s tb m)) H :=
 hx N 60 []
theorem QqK (H:Heap) (tb m:Nat) (w:Int) {H0:Heap} {H1:Heap} (g0:CN F N 41 [.s tb m] H (.tuple []) H0) (g1:LD H0 66 (.q 0) (.N n ls)) (g2:CM F 42 [.N n ls,.s tb m] H0 (.i w) H1): RU F 14 63 B14 (e14 n ls (.q 0) (.bool true) (.s tb m)) H .ret (Qcb (.i n) (.g ls) (.s tb m) (.i w) (.i 0) (.q 0) (.bool true) (.s tb m)) H1 :=
 hx N 60 [jC 7 1 g0,jO 8 1 H0 g1,jD 8 3 g2]
end
end Go.Proofs.Ytiejmoglooaalaa
end
section
open Go Go.HL Go.HL.Dt
namespace Go.Proofs.Ytiejmoglooaalaa
set_option linter.unusedSectionVars false
open Go.Proofs.Try renaming prog → Tp
open Go.HL.HV renaming undef → Ud
theorem CP {x p:Int} (h:p≠0):J8 Tp .rem 3 (.int .i64 x) (.int .i64 p)=some (.int .i64 (x.tmod p)):=by
 simp only [BV,J8,KQ,if_neg h,if_true]
theorem Q7 {x:Int} (h0:0≤x) (h:x<4611686018427387904):qA.wrap x=x:=Qr (by omega) h
theorem Qh3 {a b p:Int} (ha:0≤a) (ha':a<p) (hb:0≤b) (hb':b<p) (hp:p≤2147483647):0≤a*b∧a*b<4611686018427387904:=by
 refine ⟨Int.mul_nonneg ha hb,?_⟩
 have h1:a*b≤2147483647*2147483647:=wH (by omega) (by omega) hb (by omega)
 omega
theorem Qdf {a b p:Int} (hp0:0<p) (ha:0≤a) (ha':a<p) (hb:0≤b) (hb':b<p) (hp:p≤2147483647):(qA.wrap (a*b)).tmod p=a*b%p:=by
 obtain ⟨h1,h2⟩:=Qh3 ha ha' hb hb' hp
 rw [Q7 h1 h2,zP h1]
def QfI:Int→Int→Int→Prop:=fun a n p=>(1<p∧p≤2147483647)∧(0≤a∧a<p)∧0≤n∧n<2147483648
instance (a n p:Int):Decidable (QfI a n p):=by unfold QfI;infer_instance
def Qab:List HV→Option HV:=f3 kI kI kI fun a n p=>if QfI a n p then some (.int .i64 (pw a n.toNat p)) else none
def DY:FuncId→Option (List HV→Option HV):=fun _=>none
theorem Qh4 (n:Nat):Qn Tp (Qc Tp (plF DY) n):=Qy _ (fun g f h=>by cases h) n
theorem Qs0:Try.f45.results.toList=[.tmp 6]:=by kernel_rfl
theorem CQ {p:Int} (hp:1<p∧p≤2147483647) {H:Heap}:∀(k:Nat) (u a:Int) (n:Nat),n<2 ^ k→(0≤u∧u<p)→(0≤a∧a<p)→n<2147483648→∃a' n':Int,
  RT (plF DY) 45 (sn 28 B45) (GQ (.i a) (.i (n:Int)) (.i p) (.i 0) (.i u)) H (.exit 0) (GQ (.i a') (.i n') (.i p) (.i 0) (.i (pwL p k u a n))) H
 | 0,u,a,n,hn,_,_,_=>by
  have:n=0:=by omega
  subst this
  refine ⟨a,0,?_⟩
  have s:=QfH (F:=DY) a ((0:Nat):Int) p H u (by omega)
  rw [pwL]
  exact lpo s
 | k+1,u,a,n,hn,hu,ha,hm=>by
  by_cases c0:n=0
  ·subst c0
   refine ⟨a,0,?_⟩
   have s:=QfH (F:=DY) a ((0:Nat):Int) p H u (by omega)
   rw [pwL,if_pos rfl]
   exact lpo s
  have e2:qA.wrap (((n:Int)).tdiv 2)=((n/2:Nat):Int):=by
   rw [Int.tdiv_eq_ediv_of_nonneg (by omega),Q7 (by omega) (by omega)];omega
  have e3:((n:Int)).tmod 2=((n%2:Nat):Int):=by rw [zP (by omega)];omega
  have e4:=Qdf (by omega) ha.1 ha.2 ha.1 ha.2 hp.2
  have e5:=Qdf (by omega) hu.1 hu.2 ha.1 ha.2 hp.2
  have ha2:0≤a*a%p∧a*a%p<p:=⟨qY _ (by omega),qZ _ (by omega)⟩
  have hu2:0≤u*a%p∧u*a%p<p:=⟨qY _ (by omega),qZ _ (by omega)⟩
  rw [qV] at hn
  by_cases c1:n%2=1
  ·obtain ⟨a',n',ih⟩:=CQ hp (H:=H) k (u*a%p) (a*a%p) (n/2) (by omega) hu2 ha2 (by omega)
   have s:=QqC (F:=DY) a (n:Int) p H u (by omega) (by rw [e3,c1];rfl) (CP (by omega)) (CP (by omega))
   rw [e2,e4,e5] at s
   refine ⟨a',n',?_⟩
   rw [pwL,if_neg c0,if_pos c1]
   exact lop s (QH _ rfl) ih
  ·obtain ⟨a',n',ih⟩:=CQ hp (H:=H) k u (a*a%p) (n/2) (by omega) hu ha2 (by omega)
   have s:=QqD (F:=DY) a (n:Int) p H u (by omega) (by rw [e3];omega) (CP (by omega))
   rw [e2,e4] at s
   refine ⟨a',n',?_⟩
   rw [pwL,if_neg c0,if_neg c1]
   exact lop s (QH _ rfl) ih
theorem Qi0:QP Tp 45 Qab:=by
 refine Qp (pol:=plF DY) (fn:=Try.f45) (cd:=B45) Qk Qh4 (by kernel_rfl) (by kernel_rfl) (Zm DY _ _ (by kernel_rfl)) (by kernel_rfl) ?_
 intro args res h
 obtain ⟨a,n,p,rfl,hq⟩:=Kp h
 split at hq
 case isFalse=>cases hq
 rename_i hl
 obtain ⟨hp,ha,hn⟩:=hl
 cases hq
 obtain ⟨m,rfl⟩:=wT hn.1
 have s1:=QqA (F:=DY) a (m:Int) p []
 have s2:=QqB (F:=DY) a (m:Int) p []
 obtain ⟨a',n',s3⟩:=CQ hp (H:=[]) 31 1 a m (by omega) (by omega) ha (by omega)
 have s4:=QqE (F:=DY) a' n' p [] (pwL p 31 1 a m)
 refine ⟨_,_,_,.int .i64 (pwL p 31 1 a m),sq (s1) (sq (s2) (sq (bke (c:=sn 14 B45) (s3)) (s4) (c:=sn 7 B45)) (c:=sn 3 B45)) (c:=B45),by simp,by simp only [Qd,Qs0];rfl,?_⟩
 rw [QhI hp.1 (by omega)];rfl
end Go.Proofs.Ytiejmoglooaalaa
end
section
namespace Go.HL.Dt
set_option linter.unusedSectionVars false
open Go.Proofs.Try renaming prog → Tp
open Go.HL.HV renaming undef → Ud
def rw (r:List Int):Row:=fun z=>r.getD z.toNat 0
def J2:Nat→Nat→List Int
 | _,0=>[]
 | c,k+1=>(c:Int)::J2 (c+1) k
theorem cols_mem:∀{k c:Nat} {z:Int},z∈J2 c k↔(c:Int)≤z∧z<((c+k:Nat):Int)
 | 0,c,z=>by simp [J2]
 | k+1,c,z=>by
  rw [J2,jE,cols_mem]
  omega
def YN (p:Int) (c:Nat) (f:Int) (x r:List Int):List Int:=(qC r.length).map fun j=>if c≤j then (r.getD j 0+(p-f)*x.getD j 0)%p else r.getD j 0
def YO (p:Int) (c:Nat) (v:Int) (r:List Int):Int:=r.getD c 0*v%p
def J3 (p:Int) (c:Nat) (v:Int) (m:List (List Int)):List (List Int):=m.take (c+1)++(m.drop (c+1)).map fun r=>YN p c (YO p c v r) (m.getD c []) r
def J4 (m:List (List Int)) (c:Nat):Nat→Nat→Nat
 | 0,r=>r
 | k+1,r=>if (m.getD r []).getD c 0=0 then J4 m c k (r+1) else r
def swpR (m:List (List Int)) (i j:Nat):List (List Int):=(m.set i (m.getD j [])).set j (m.getD i [])
def gz (p:Int) (inv:Int→Int) (N:Nat):Nat→Nat→Int→List (List Int)→Int
 | 0,_,out,_=>out
 | k+1,c,out,m =>
  if J4 m c (N-c) c=N then 0 else
   gz p inv N k (c+1) ((if J4 m c (N-c) c=c then out else p-out)*((swpR m (J4 m c (N-c) c) c).getD c []).getD c 0%p)
    (J3 p c (inv (((swpR m (J4 m c (N-c) c) c).getD c []).getD c 0)) (swpR m (J4 m c (N-c) c) c))
def RowOk (p:Int) (N:Nat) (r:List Int):Prop:=r.length=N∧∀j,j<N→0≤r.getD j 0∧r.getD j 0<p
def WN (p:Int) (N:Nat) (m:List (List Int)):Prop:=m.length=N∧∀r∈m,RowOk p N r
theorem Yn (m:List (List Int)) (c:Nat):∀(k r:Nat),r≤J4 m c k r∧J4 m c k r≤r+k∧(∀i,r≤i→i<J4 m c k r→(m.getD i []).getD c 0=0)∧(J4 m c k r<r+k→(m.getD (J4 m c k r) []).getD c 0≠0)
 | 0,r=>⟨qN _,qN _,fun i h1 h2=>by simp only [J4] at h2;omega,fun h=>by simp only [J4] at h;omega⟩
 | k+1,r=>by
  obtain ⟨h1,h2,h3,h4⟩:=Yn m c k (r+1)
  rw [J4]
  split
  ·rename_i e
   refine ⟨by omega,by omega,fun i i1 i2=>?_,fun h=>h4 (by omega)⟩
   by_cases q:i=r
   ·subst q;exact e
   ·exact h3 i (by omega) i2
  ·rename_i e
   exact ⟨qN _,by omega,fun i i1 i2=>by omega,fun _=>e⟩
theorem Jv {m:List (List Int)} {i:Nat} (hi:i<m.length):m.getD i []=m[i]:=by simp [qR,hi]
theorem YP {m:List (List Int)} {c:Nat} (hc:c<m.length):m.drop c=m.getD c []::m.drop (c+1):=by rw [List.drop_eq_getElem_cons hc,Jv hc]
theorem swp_len (m:List (List Int)) (i j:Nat):(swpR m i j).length=m.length:=by simp [swpR]
theorem Qac {m:List (List Int)} {c:Nat} (hc:c<m.length):swpR m c c=m:=by
 rw [swpR,wI,Jv hc,wU]
theorem QfJ {m:List (List Int)} {c r:Nat} (hc:c<r) (hr:r<m.length):∃M B,m.drop c=m.getD c []::(M++m.getD r []::B)∧(swpR m r c).drop c=m.getD r []::(M++m.getD c []::B):=by
 refine ⟨(m.drop (c+1)).take (r-(c+1)),m.drop (r+1),?_,?_⟩
 ·rw [YP (by omega)]
  congr 1
  have h1:(m.drop (c+1)).drop (r-(c+1))=m.getD r []::m.drop (r+1):=by rw [List.drop_drop,show c+1+(r-(c+1))=r by omega,YP hr]
  rw [← h1,List.take_append_drop]
 ·apply List.ext_getElem?
  intro i
  rw [zQ,swpR]
  rcases wF i with e | e
  ·subst e
   rw [Nat.add_zero,zF (by simp;omega),wV]
  ·obtain ⟨i,rfl⟩:∃k,i=k+1:=⟨i-1,by omega⟩
   rw [wW,qS (by omega)]
   have hl:((m.drop (c+1)).take (r-(c+1))).length=r-(c+1):=by rw [jJ,zS];omega
   rcases Nat.lt_trichotomy i (r-(c+1)) with q | q | q
   ·rw [qS (by omega),wJ (by omega),wK q,zQ]
    congr 1;omega
   ·subst q
    rw [show c+(r-(c+1)+1)=r by omega,zF hr,wL (by omega),hl,Nat.sub_self,wV]
   ·rw [qS (by omega),wL (by omega),hl]
    obtain ⟨d,hd⟩:∃d,i-(r-(c+1))=d+1:=⟨i-(r-(c+1))-1,by omega⟩
    rw [hd,wW,zQ]
    congr 1;omega
theorem QfK {p:Int} {N:Nat} {m:List (List Int)} (h:WN p N m) {i j:Nat} (hi:i<N) (hj:j<N):WN p N (swpR m i j):=by
 refine ⟨by rw [swp_len];exact h.1,fun r hr=>?_⟩
 have hg:∀k,k<N→m.getD k []∈m:=fun k hk=>by rw [Jv (by rw [h.1];exact hk)];exact zT _
 rcases wM hr with q | q
 ·rcases wM q with q | q
  ·exact h.2 r q
  ·subst q;exact h.2 _ (hg j hj)
 ·subst q;exact h.2 _ (hg i hi)
theorem Yo {p:Int} {c:Nat} {f:Int} {x r:List Int} {j:Nat} (hj:j<r.length):(YN p c f x r).getD j 0=if c≤j then (r.getD j 0+(p-f)*x.getD j 0)%p else r.getD j 0:=by
 simp [YN,qR,hj]
theorem Qcc {p:Int} (hp:0<p) {N c:Nat} {f:Int} {x r:List Int} (hr:RowOk p N r):RowOk p N (YN p c f x r):=by
 refine ⟨by rw [YN,qQ,List.length_range];exact hr.1,fun j hj=>?_⟩
 rw [Yo (by rw [hr.1];exact hj)]
 split
 ·exact ⟨qY _ (by omega),qZ _ hp⟩
 ·exact hr.2 j hj
theorem Qcd {p:Int} (hp:0<p) {N c:Nat} {v:Int} {m:List (List Int)} (h:WN p N m):WN p N (J3 p c v m):=by
 refine ⟨?_,fun r hr=>?_⟩
 ·rw [J3,qB,qQ,jJ,zS,← h.1];omega
 ·rcases List.mem_append.1 hr with q | q
  ·exact h.2 r (List.mem_of_mem_take q)
  ·obtain ⟨y,hy,rfl⟩:=List.mem_map.1 q
   exact Qcc hp (h.2 y (wN hy))
theorem GR {p:Int} {c:Nat} {v:Int} {m:List (List Int)} (hc:c<m.length):(J3 p c v m).drop (c+1)=(m.drop (c+1)).map fun r=>YN p c (YO p c v r) (m.getD c []) r:=by
 have hl:(m.take (c+1)).length=c+1:=by rw [jJ];omega
 rw [J3,List.drop_append_of_le_length (by omega),List.drop_of_length_le (by omega),qI]
theorem Cg.map2 {p:Int} {cs:List Int} {α:Type} {f g:α→Row}:∀{R:List α},(∀r∈R,∀z∈cs,p∣f r z-g r z)→Cg p cs (R.map f) (R.map g)
 | [],_=>trivial
 | r::R,h=>⟨h r (qE ..),Cg.map2 fun q hq=>h q (qH _ hq)⟩
theorem WK (a p:Int):p∣a%p-a:=by
 refine ⟨-(a/p),?_⟩
 have:=Int.emod_add_mul_ediv a p
 rw [qU];omega
theorem QfL {p:Int} (hp:1<p) {inv:Int→Int} (hinv:∀a,0<a→a<p→(a*inv a)%p=1) {N:Nat}:∀(k c:Nat) (out:Int) (m:List (List Int)),c+k=N→WN p N m→p∣gz p inv N k c out m-out*det (J2 c k) ((m.drop c).map rw)
 | 0,c,out,m,hk,h=>by
  have:m.drop c=[]:=List.drop_eq_nil_of_le (by rw [h.1];omega)
  rw [gz,this]
  simp [J2,det]
 | k+1,c,out,m,hk,h=>by
  have hlen:=h.1
  obtain ⟨f1,f2,f3,f4⟩:=Yn m c (N-c) c
  rw [gz]
  generalize J4 m c (N-c) c=r at *
  by_cases e:r=N
  ·rw [if_pos e]
   have hz:det (J2 c (k+1)) ((m.drop c).map rw)=0:=Qft fun q hq=>by
    obtain ⟨y,hy,rfl⟩:=List.mem_map.1 hq
    obtain ⟨i,hi,rfl⟩:=zW hy
    rw [zS] at hi
    rw [List.getElem_drop]
    have:=f3 (c+i) (by omega) (by omega)
    rw [Jv (by omega)] at this
    simpa [rw] using this
   rw [hz];simp
  ·rw [if_neg e]
   have hrN:r<N:=by omega
   have hok:=QfK h hrN (show c<N by omega)
   have hnz:((swpR m r c).getD c []).getD c 0≠0:=by
    have h1:(swpR m r c).getD c []=m.getD r []:=by
     rw [Jv (by rw [swp_len];omega)]
     simp [swpR]
    rw [h1]
    exact f4 (by omega)
   have hdet:det (J2 c (k+1)) ((m.drop c).map rw)=(if r=c then 1 else -1)*det (J2 c (k+1)) (((swpR m r c).drop c).map rw):=by
    by_cases q:r=c
    ·subst q
     rw [if_pos rfl,Qac (by omega),jI]
    ·rw [if_neg q]
     obtain ⟨M,B,e1,e2⟩:=QfJ (m:=m) (c:=c) (r:=r) (by omega) (by omega)
     rw [e1,e2]
     simp only [jA,jN]
     rw [Qo6 (Vd _) (UA _)]
     omega
   generalize hm1:swpR m r c=m1 at *
   have hl1:=hok.1
   have hcm:m1.getD c []∈m1:=by rw [Jv (by omega)];exact zT _
   have hpr:=(hok.2 _ hcm).2 c (by omega)
   generalize ha:(m1.getD c []).getD c 0=a at *
   have hia:=hinv a (by omega) hpr.2
   generalize inv a=v at *
   have hE:=elim (Vd (J2 c (k+1))) (UA _) (rw (m1.getD c [])) (fun y=>-(y c*v)) ((m1.drop (c+1)).map rw) []
   simp only [qI,wO] at hE
   have hC:Cg p (J2 c (k+1)) (rw (m1.getD c [])::((J3 p c v m1).drop (c+1)).map rw) (rw (m1.getD c [])::(m1.drop (c+1)).map ((fun r=>ax r (-(r c*v)) (rw (m1.getD c []))) ∘ rw)):=by
    refine ⟨fun z _=>by rw [Int.sub_self];exact Int.dvd_zero p,?_⟩
    rw [GR (by omega),wO]
    refine Cg.map2 fun y hy z hz=>?_
    obtain ⟨z1,z2⟩:=cols_mem.1 hz
    have hyl:=(hok.2 y (wN hy)).1
    have hg:=Yo (p:=p) (c:=c) (f:=YO p c v y) (x:=m1.getD c []) (r:=y) (j:=z.toNat) (by omega)
    simp only [Function.comp,rw,ax]
    rw [hg,if_pos (by omega),YO,jG]
    generalize y.getD z.toNat 0=A
    generalize (m1.getD c []).getD z.toNat 0=B
    generalize y.getD c 0*v=W
    have d1:=WK (A+(p-W%p)*B) p
    have d2:=WK W p
    have e:(A+(p-W%p)*B)%p-(A+-W*B)=((A+(p-W%p)*B)%p-(A+(p-W%p)*B))+(p*B-(W%p-W)*B):=by
     simp only [zA,qO];omega
    rw [e]
    exact jH d1 (zU (wP p B) (zI d2))
   have hD:=CF _ _ _ hC
   rw [hE] at hD
   have hp0:∀q∈((J3 p c v m1).drop (c+1)).map rw,q c=0:=fun q hq=>by
    rw [GR (by omega),wO] at hq
    obtain ⟨y,hy,rfl⟩:=List.mem_map.1 hq
    have hyl:=(hok.2 y (wN hy)).1
    have hg:=Yo (p:=p) (c:=c) (f:=YO p c v y) (x:=m1.getD c []) (r:=y) (j:=c) (by omega)
    simp only [Function.comp,rw,jG]
    rw [hg,if_pos (qN _),YO,ha]
    generalize y.getD c 0=A at *
    have d2:=WK (A*v) p
    have d3:p∣a*v-1:=by
     have:=WK (a*v) p;rw [hia] at this;have e:a*v-1=-(1-a*v):=by omega
     rw [e];exact Int.dvd_neg.2 this
    have e:A+(p-A*v%p)*a=p*a-(A*v%p-A*v)*a-A*(a*v-1):=by
     simp only [zA,zH,zC]
     have:A*v*a=A*(a*v):=by rw [qT,Int.mul_comm v a]
     omega
    have:p∣A+(p-A*v%p)*a:=by
     rw [e]
     exact zU (zU (wP p a) (zI d2)) (zJ d3)
    exact Int.emod_eq_zero_of_dvd this
   have hP:=QhD (c:=(c:Int)) (cs:=J2 (c+1) k) (x:=rw (m1.getD c [])) hp0
   have hx:rw (m1.getD c []) c=a:=by show (m1.getD c []).getD (c:Int).toNat 0=a;rw [jG,ha]
   rw [hx] at hP
   have ih:=QfL hp hinv k (c+1) ((if r=c then out else p-out)*a%p) (J3 p c v m1) (by omega) (Qcd (by omega) hok)
   have hd:(m1.drop c).map rw=rw (m1.getD c [])::(m1.drop (c+1)).map rw:=by rw [YP (by omega),jA]
   rw [hdet,hd]
   rw [show J2 c (k+1)=(c:Int)::J2 (c+1) k from rfl] at hD ⊢
   rw [hP] at hD
   generalize det ((c:Int)::J2 (c+1) k) (rw (m1.getD c [])::(m1.drop (c+1)).map rw)=D at *
   generalize det (J2 (c+1) k) (((J3 p c v m1).drop (c+1)).map rw)=D' at *
   generalize gz p inv N k (c+1) ((if r=c then out else p-out)*a%p) (J3 p c v m1)=G at *
   have d1:=WK ((if r=c then out else p-out)*a) p
   have d2:=zI (c:=D') d1
   by_cases q:r=c
   ·simp only [if_pos q] at *
    have e1:G-out*(1*D)=(G-out*a%p*D')+(out*a%p-out*a)*D'+out*(a*D'-D):=by
     simp only [zA,zH,jI,qT];omega
    rw [e1]
    exact jH (jH ih d2) (zJ hD)
   ·simp only [if_neg q] at *
    have e1:G-out*(-1*D)=(G-(p-out)*a%p*D')+((p-out)*a%p-(p-out)*a)*D'+(p*(a*D')-out*(a*D'-D)):=by
     simp only [zA,zH,qO,jI,qU,qT];omega
    rw [e1]
    exact jH (jH ih d2) (zU (wP p _) (zJ hD))
theorem QfM {p:Int} (hp:1<p) {inv:Int→Int} {N:Nat}:∀(k c:Nat) (out:Int) (m:List (List Int)),0≤out→out<p→0≤gz p inv N k c out m∧gz p inv N k c out m<p
 | 0,_,_,_,h1,h2=>⟨h1,h2⟩
 | k+1,c,out,m,h1,h2=>by
  rw [gz]
  split
  ·omega
  ·exact QfM hp k (c+1) _ _ (qY _ (by omega)) (qZ _ (by omega))
end Go.HL.Dt
end
section
open Go Go.HL
namespace Go.Proofs.Ytiejmoglooaalaa
set_option linter.unusedSectionVars false
open Go.Proofs.Try renaming prog → Tp
open Go.HL.HV renaming undef → Ud
theorem mxs_all {n:Nat}:∀{H:Heap},mxs H≤n↔∀B∈H,B.mx≤n
 | []=>by simp [mxs]
 | b::H=>by
  rw [mxs,List.forall_mem_cons,← mxs_all (H:=H)];omega
theorem Qh5 {H:Heap} {n b:Nat} {B:Blk} (h:mxs H≤n) (hB:B.mx≤n):mxs (H.set b B)≤n:=mxs_all.2 fun C hC=>by
 rcases wM hC with c | c
 ·exact mxs_all.1 h C c
 ·exact c▸hB
abbrev slR (b N:Nat):HV:=.sl b 0 N (some N) N 1
def Yp (R:Nat→Nat) (N:Nat):List HV:=(qC N).map fun i=>slR (R i) N
theorem JK (R:Nat→Nat) (N:Nat):(Yp R N).length=N:=by simp [Yp]
theorem VS {R:Nat→Nat} {N i:Nat} (h:i<N):(Yp R N)[i]?=some (slR (R i) N):=by simp [Yp,h]
theorem GS (R:Nat→Nat) (N i b:Nat):(Yp R N).set i (slR b N)=Yp (fun k=>if k=i then b else R k) N:=by
 refine List.ext_getElem? fun j=>?_
 rcases qW j N with h | h
 ·rw [VS h,wQ]
  by_cases c:i=j
  ·subst c;rw [if_pos rfl,if_pos (by rw [JK];exact h),if_pos rfl]
  ·rw [if_neg c,VS h,if_neg fun e=>c e.symm]
 ·rw [zV (by rw [qJ,JK];exact h),zV (by rw [JK];exact h)]
abbrev bR (R:Nat→Nat) (N mx:Nat):Blk:=.arr 1 (Yp R N) true mx
theorem Qce (R:Nat→Nat) (N mx:Nat):Qm [bR R N mx] [bR R N mx]=true:=by
 simp only [Qm,Yp,WU (f:=fun i=>slR (R i) N) (fun i=>by simp [same]),beq_self_eq_true,Bool.and_self]
theorem Ok.set {H:Heap} (h:Ok H) {b:Nat} {B:Blk} (hm:B.mx≤H.length) (hs:Qm [B] [B]=true):Ok (H.set b B):=⟨by rw [qJ];exact Qh5 h.mx hm,QcY h.sm hs⟩
theorem Ok.app {A B:Heap} (h:Ok A) (hm:mxs B≤A.length+B.length) (hs:Qm B B=true):Ok (A++B):=⟨by rw [WI,qB];have:=h.mx;omega,V9 h.sm hs⟩
theorem Ok.gc {H:Heap} (h:Ok H) (base r:Nat):Ok (gc base r H):=by
 refine ⟨?_,QaI h.sm _⟩
 unfold Go.HL.gc
 have h1:mxs (H.take (max base (max r (mxs H))))≤mxs H:=mxs_all.2 fun B hB=>mxs_all.1 (qN _) B (List.mem_of_mem_take hB)
 rw [jJ]
 have:=h.mx
 omega
structure Pre (H H':Heap):Prop where
 ln:H.length≤H'.length
 eq:∀b,b<H.length→H'[b]?=H[b]?
theorem Pre.refl (H:Heap):Pre H H:=⟨qN _,fun _ _=>rfl⟩
theorem Pre.trans {A B C:Heap} (h:Pre A B) (k:Pre B C):Pre A C:=⟨Nat.le_trans h.ln k.ln,fun b hb=>(k.eq b (Nat.lt_of_lt_of_le hb h.ln)).trans (h.eq b hb)⟩
theorem Pre.app (A B:Heap):Pre A (A++B):=⟨by simp,fun b hb=>wJ hb⟩
theorem Pre.gc {A H:Heap} (h:Pre A H) {base:Nat} (hb:A.length≤base) (r:Nat):Pre A (gc base r H):=by
 unfold Go.HL.gc
 refine ⟨by rw [jJ];have:=h.ln;omega,fun b hb'=>?_⟩
 rw [wK (by omega)]
 exact h.eq b hb'
theorem Pre.get {A H:Heap} (h:Pre A H) {b:Nat} {B:Blk} (hb:A[b]?=some B):H[b]?=some B:=by
 have:b<A.length:=by
  rcases qW b A.length with c | c
  ·exact c
  ·rw [zV c] at hb;cases hb
 rw [h.eq b this];exact hb
structure Mat (H:Heap) (mb N:Nat) (R:Nat→Nat) (m:List (List Int)):Prop where
 ml:m.length=N
 rl:∀i,i<N→(m.getD i []).length=N
 ne:∀i,i<N→R i≠mb
 inj:∀i j,i<N→j<N→R i=R j→i=j
 blk:∃mx,mx≤H.length∧H[mb]?=some (bR R N mx)
 row:∀i,i<N→H[R i]?=some (bI (m.getD i []))
 mm:Ok H
theorem VT {H:Heap} {b:Nat} {B:Blk} (h:H[b]?=some B):b<H.length:=by
 rcases qW b H.length with c | c
 ·exact c
 ·rw [zV c] at h;cases h
section
variable {H:Heap} {mb N:Nat} {R:Nat→Nat} {m:List (List Int)}
theorem Mat.ld (h:Mat H mb N R m) {i:Nat} (hi:i<N):QK Tp H 24 (.ptr mb i 0 N)=some (slR (R i) N):=by
 obtain ⟨mx,_,hb⟩:=h.blk
 exact WD (b:=mb) hb (JK R N).symm (VS hi) rfl a24 i24
theorem Mat.get (h:Mat H mb N R m) {i j:Nat} (hi:i<N) (hj:j<N):QK Tp H 3 (.ptr (R i) j 0 N)=some (.int .i64 ((m.getD i []).getD j 0)):=by
 have:=Q6 (h.row i hi) (y:=j) (by rw [h.rl i hi];exact hj)
 rw [h.rl i hi] at this
 exact this
theorem XS {mb N i:Nat} (hi:i<N):Z4 Tp 57 (slR mb N) (.int .i64 (i:Int))=some (.ptr mb i 0 N):=JX u57 z24 hi
theorem Gd {b N j:Nat} (hj:j<N):Z4 Tp 24 (slR b N) (.int .i64 (j:Int))=some (.ptr b j 0 N):=JX u24 z3 hj
structure Fx (H H':Heap) (S:Nat→Prop):Prop where
 ln:H'.length=H.length
 eq:∀b,¬S b→H'[b]?=H[b]?
theorem Fx.refl (H:Heap) (S:Nat→Prop):Fx H H S:=⟨rfl,fun _ _=>rfl⟩
theorem Fx.trans {H H' H'':Heap} {S:Nat→Prop} (a:Fx H H' S) (b:Fx H' H'' S):Fx H H'' S:=⟨by rw [b.ln,a.ln],fun x hx=>(b.eq x hx).trans (a.eq x hx)⟩
theorem Fx.set {H:Heap} {S:Nat→Prop} {b:Nat} (hb:S b) (B:Blk):Fx H (H.set b B) S:=⟨by simp,fun x hx=>qS fun e=>by subst e;exact hx hb⟩
theorem W3 {m:List (List Int)} {i k:Nat} (hi:i<m.length) (r:List Int):(m.set i r).getD k []=if i=k then r else m.getD k []:=by
 simp only [qR,wQ]
 by_cases c:i=k
 ·subst c;simp [hi]
 ·simp [c]
theorem Mat.put (h:Mat H mb N R m) {i j:Nat} (hi:i<N) (hj:j<N) (v:Int) :
  Q3 Tp H 3 (.ptr (R i) j 0 N) (.int .i64 v)=some (H.set (R i) (bI ((m.getD i []).set j v)))∧Mat (H.set (R i) (bI ((m.getD i []).set j v))) mb N R (m.set i ((m.getD i []).set j v)):=by
 constructor
 ·have:=ZI (h.row i hi) (y:=j) (by rw [h.rl i hi];exact hj) v
  rw [h.rl i hi] at this
  exact this
 ·have hm:i<m.length:=by rw [h.ml];exact hi
  refine ⟨by rw [qJ];exact h.ml,fun k hk=>?_,h.ne,h.inj,?_,fun k hk=>?_,?_⟩
  ·rw [W3 hm]
   split
   ·rw [qJ];exact h.rl i hi
   ·exact h.rl k hk
  ·obtain ⟨mx,hx,hb⟩:=h.blk
   exact ⟨mx,by rw [qJ];exact hx,by rw [qS (h.ne i hi)];exact hb⟩
  ·rw [W3 hm]
   by_cases c:i=k
   ·subst c
    rw [if_pos rfl,zF (VT (h.row i hi))]
   ·rw [if_neg c,qS fun e=>c (h.inj i k hi hk e)]
    exact h.row k hk
  ·exact h.mm.set (jV _) (WX _)
theorem Qtr:Qs Tp 24=some 1:=by kernel_rfl
theorem YQ {els:List HV} {mx tot i b N:Nat} (hb:H[mb]?=some (.arr 1 els true mx)) (ht:tot=els.length) {old:HV} (ho:els[i]?=some old) (hc:cellsOf old=[old]) (hna:∀cs,old≠.agg cs) :
  Q3 Tp H 24 (.ptr mb i 0 tot) (slR b N)=some (H.set mb (.arr 1 (els.set i (slR b N)) true (max mx (b+1)))):=by
 have hz:=Qtr
 simp only [ST,Q3,hb,ho,ht,hz,hc]
 rw [if_pos ⟨trivial,rfl⟩,if_pos ⟨by simp [cellsOf],by simp [cellsOf,Qo],by simp [cellsOf]⟩]
 cases old with
 | agg cs=>exact absurd rfl (hna cs)
 | _=>rfl
theorem Mat.swap (h:Mat H mb N R m) {r c:Nat} (hr:r<N) (hc:c<N):∃H0 H1,Q3 Tp H 24 (.ptr mb r 0 N) (slR (R c) N)=some H0∧Q3 Tp H0 24 (.ptr mb c 0 N) (slR (R r) N)=some H1 ∧
  Mat H1 mb N (fun k=>R (if k=c then r else if k=r then c else k)) (Dt.swpR m r c)∧Fx H H1 (fun b=>b=mb):=by
 obtain ⟨mx,hx,hb⟩:=h.blk
 have hml:=VT hb
 have rr:=VT (h.row r hr)
 have rc:=VT (h.row c hc)
 have s1:=YQ (i:=r) (b:=R c) (N:=N) hb (JK R N).symm (VS hr) rfl (by intro cs e;cases e)
 rw [GS] at s1
 have hb1:(H.set mb (bR (fun k=>if k=r then R c else R k) N (max mx (R c+1))))[mb]?=some (bR (fun k=>if k=r then R c else R k) N (max mx (R c+1))):=zF hml
 have s2:=YQ (i:=c) (b:=R r) (N:=N) hb1 (JK _ N).symm (VS hc) rfl (by intro cs e;cases e)
 have er:(fun k=>if k=c then R r else if k=r then R c else R k)=(fun k=>R (if k=c then r else if k=r then c else k)):=funext fun k=>by
  split
  ·rfl
  ·split <;> rfl
 rw [GS,wI,er] at s2
 refine ⟨_,_,s1,s2,⟨?_,fun k hk=>?_,fun k hk=>?_,fun i j hi hj e=>?_,⟨_,?_,zF hml⟩,fun k hk=>?_,?_⟩,Fx.set (S:=fun b=>b=mb) rfl _⟩
 ·rw [Dt.swpR,qJ,qJ];exact h.ml
 ·have h1:r<m.length:=by rw [h.ml];exact hr
  rw [Dt.swpR,W3 (by rw [qJ,h.ml];exact hc),W3 h1]
  split
  ·exact h.rl r hr
  ·split
   ·exact h.rl c hc
   ·exact h.rl k hk
 ·show R (if k=c then r else if k=r then c else k)≠mb
  split
  ·exact h.ne r hr
  ·split
   ·exact h.ne c hc
   ·exact h.ne k hk
 ·have hs:∀k,k<N→(if k=c then r else if k=r then c else k)<N:=fun k hk=>by
   split
   ·exact hr
   ·split
    ·exact hc
    ·exact hk
  have e2:=h.inj _ _ (hs i hi) (hs j hj) e
  split at e2
  ·split at e2
   ·omega
   ·split at e2 <;> omega
  ·split at e2
   ·split at e2
    ·omega
    ·split at e2 <;> omega
   ·split at e2
    ·omega
    ·split at e2 <;> omega
 ·rw [qJ];omega
 ·have h1:r<m.length:=by rw [h.ml];exact hr
  rw [Dt.swpR,W3 (by rw [qJ,h.ml];exact hc),W3 h1]
  show (H.set mb _)[R (if k=c then r else if k=r then c else k)]?=_
  by_cases a1:k=c
  ·rw [if_pos a1,if_pos (show c=k from a1.symm),qS fun e=>h.ne r hr e.symm];exact h.row r hr
  ·rw [if_neg a1,if_neg (show ¬c=k from fun e=>a1 e.symm)]
   by_cases a2:k=r
   ·rw [if_pos a2,if_pos (show r=k from a2.symm),qS fun e=>h.ne c hc e.symm];exact h.row c hc
   ·rw [if_neg a2,if_neg (show ¬r=k from fun e=>a2 e.symm),qS fun e=>h.ne k hk e.symm];exact h.row k hk
 ·exact h.mm.set (by show max (max mx (R c+1)) (R r+1)≤H.length;omega) (Qce _ _ _)
end
end Go.Proofs.Ytiejmoglooaalaa
end
section
open Go Go.HL Go.HL.Dt
namespace Go.Proofs.Ytiejmoglooaalaa
set_option linter.unusedSectionVars false
open Go.Proofs.Try renaming prog → Tp
open Go.HL.HV renaming undef → Ud
theorem Qs1 {a b p:Int} (hp0:0<p) (ha:0≤a) (ha':a≤p) (hb:0≤b) (hb':b<p) (hp:p≤2147483647):0≤a*b∧a*b≤p*(p-1)∧p*(p-1)<4611686014132420610:=by
 refine ⟨Int.mul_nonneg ha hb,wH ha' (by omega) hb (by omega),?_⟩
 have h1:p*(p-1)≤2147483647*2147483646:=wH hp (by omega) (by omega) (by omega)
 omega
theorem Qs2 {a b p:Int} (hp0:0<p) (ha:0≤a) (ha':a≤p) (hb:0≤b) (hb':b<p) (hp:p≤2147483647):(qA.wrap (a*b)).tmod p=a*b%p:=by
 obtain ⟨h1,h2,h3⟩:=Qs1 hp0 ha ha' hb hb' hp
 rw [Q7 h1 (by omega),zP h1]
theorem Qts {y f x p:Int} (hp0:0<p) (hy:0≤y∧y<p) (hf:0≤f∧f<p) (hx:0≤x∧x<p) (hp:p≤2147483647):(qA.wrap (y+qA.wrap (qA.wrap (p-f)*x))).tmod p=(y+(p-f)*x)%p:=by
 obtain ⟨h1,h2,h3⟩:=Qs1 (a:=p-f) hp0 (by omega) (by omega) hx.1 hx.2 hp
 rw [Q7 (x:=p-f) (by omega) (by omega),Q7 h1 (by omega),Q7 (by omega) (by omega),zP (by omega)]
def KO (p:Int) (c:Nat) (f:Int) (x r:List Int) (d:Nat):List Int:=(qC r.length).map fun j=>if c≤j∧j<c+d then (r.getD j 0+(p-f)*x.getD j 0)%p else r.getD j 0
theorem ZN (p:Int) (c:Nat) (f:Int) (x r:List Int) (d:Nat):(KO p c f x r d).length=r.length:=by simp [KO]
theorem YR {α:Type} {n j:Nat} {g:Nat→α} {d:α} (h:j<n):((qC n).map g).getD j d=g j:=by simp [qR,h]
theorem VU {p:Int} {c:Nat} {f:Int} {x r:List Int} {d j:Nat} (h:j<r.length):(KO p c f x r d).getD j 0=if c≤j∧j<c+d then (r.getD j 0+(p-f)*x.getD j 0)%p else r.getD j 0:=YR h
theorem J5 {α:Type} {d:α} {a b:List α} (hl:a.length=b.length) (h:∀j,j<a.length→a.getD j d=b.getD j d):a=b:=by
 refine List.ext_getElem hl fun j h1 h2=>?_
 have:=h j h1
 simpa [qR,h1,h2] using this
theorem YS {r:List Int} {i k:Nat} (hi:i<r.length) (v:Int):(r.set i v).getD k 0=if i=k then v else r.getD k 0:=by
 simp only [qR,wQ]
 by_cases c:i=k
 ·subst c;simp [hi]
 ·simp [c]
theorem Qa7 (p:Int) (c:Nat) (f:Int) (x r:List Int):KO p c f x r 0=r:=J5 (d:=0) (ZN ..) fun j hj=>by
 rw [ZN] at hj
 rw [VU hj,if_neg (by omega)]
theorem Qa8 {p:Int} {c:Nat} {f:Int} {x r:List Int} {d:Nat} (h:c+d<r.length):(KO p c f x r d).set (c+d) ((r.getD (c+d) 0+(p-f)*x.getD (c+d) 0)%p)=KO p c f x r (d+1):=J5 (d:=0) (by rw [qJ,ZN,ZN]) fun j hj=>by
 rw [qJ,ZN] at hj
 rw [YS (by rw [ZN];exact h),VU hj,VU hj]
 by_cases e:c+d=j
 ·subst e;rw [if_pos rfl,if_pos (by omega)]
 ·rw [if_neg e]
  by_cases e2:c≤j∧j<c+d
  ·rw [if_pos e2,if_pos (by omega)]
  ·rw [if_neg e2,if_neg (by omega)]
theorem Qdg {p:Int} {c:Nat} {f:Int} {x r:List Int} (h:c≤r.length):KO p c f x r (r.length-c)=YN p c f x r:=J5 (d:=0) (by rw [ZN];simp [YN]) fun j hj=>by
 rw [ZN] at hj
 rw [VU hj,Yo hj]
 by_cases e:c≤j
 ·rw [if_pos (by omega),if_pos e]
 ·rw [if_neg (by omega),if_neg e]
def Vg (p:Int) (c:Nat) (v:Int) (m:List (List Int)) (k:Nat):List (List Int):=(qC m.length).map fun i=>if c<i∧i<c+1+k then YN p c (YO p c v (m.getD i [])) (m.getD c []) (m.getD i []) else m.getD i []
theorem Zp (p:Int) (c:Nat) (v:Int) (m:List (List Int)) (k:Nat):(Vg p c v m k).length=m.length:=by simp [Vg]
theorem KP {p:Int} {c:Nat} {v:Int} {m:List (List Int)} {k i:Nat} (h:i<m.length):(Vg p c v m k).getD i []=if c<i∧i<c+1+k then YN p c (YO p c v (m.getD i [])) (m.getD c []) (m.getD i []) else m.getD i []:=YR h
theorem Qa9 (p:Int) (c:Nat) (v:Int) (m:List (List Int)):Vg p c v m 0=m:=J5 (d:=[]) (Zp ..) fun j hj=>by
 rw [Zp] at hj
 rw [KP hj,if_neg (by omega)]
theorem Qba {p:Int} {c:Nat} {v:Int} {m:List (List Int)} {k:Nat} (h:c+1+k<m.length):(Vg p c v m k).set (c+1+k) (YN p c (YO p c v (m.getD (c+1+k) [])) (m.getD c []) (m.getD (c+1+k) []))=Vg p c v m (k+1):=J5 (d:=[]) (by rw [qJ,Zp,Zp]) fun j hj=>by
 rw [qJ,Zp] at hj
 rw [W3 (by rw [Zp];exact h),KP hj,KP hj]
 by_cases e:c+1+k=j
 ·subst e;rw [if_pos rfl,if_pos (by omega)]
 ·rw [if_neg e]
  by_cases e2:c<j∧j<c+1+k
  ·rw [if_pos e2,if_pos (by omega)]
  ·rw [if_neg e2,if_neg (by omega)]
theorem Qdh {p:Int} {c:Nat} {v:Int} {m:List (List Int)} (h:c<m.length):Vg p c v m (m.length-(c+1))=J3 p c v m:=by
 refine J5 (d:=[]) (by rw [Zp,J3,qB,jJ,qQ,zS];omega) fun j hj=>?_
 rw [Zp] at hj
 rw [KP hj,J3]
 have hl:(m.take (c+1)).length=c+1:=by rw [jJ];omega
 by_cases e:c<j
 ·rw [if_pos (by omega)]
  simp only [qR]
  rw [wL (by omega),hl,List.getElem?_map,zQ,show c+1+(j-(c+1))=j by omega,List.getElem?_eq_getElem hj]
  rfl
 ·rw [if_neg (by omega)]
  simp only [qR]
  rw [wJ (by omega),wK (by omega)]
theorem QfN {p:Int} (hp:0<p) {N c:Nat} {v:Int} {m:List (List Int)} (h:WN p N m) (k:Nat):WN p N (Vg p c v m k):=by
 refine ⟨by rw [Zp];exact h.1,fun r hr=>?_⟩
 obtain ⟨i,hi,rfl⟩:=List.mem_map.1 hr
 have hi:=List.mem_range.1 hi
 have hri:RowOk p N (m.getD i []):=h.2 _ (by rw [Jv hi];exact zT _)
 split
 ·exact Qcc hp hri
 ·exact hri
theorem DZ {p:Int} {N:Nat} {m:List (List Int)} (h:WN p N m) {i j:Nat} (hi:i<N) (hj:j<N):0≤(m.getD i []).getD j 0∧(m.getD i []).getD j 0<p:=by
 have hi':i<m.length:=by rw [h.1];exact hi
 have:=(h.2 _ (by rw [Jv hi'];exact zT _:m.getD i []∈m)).2 j hj
 exact this
section
variable {F:FuncId→Option (List HV→Option HV)} {H:Heap} {mb N:Nat} {R:Nat→Nat} {m:List (List Int)} {p:Int}
abbrev rowS (R:Nat→Nat) (N:Nat):Nat→Prop:=fun b=>∃k,k<N∧b=R k
theorem QqL (hM:Mat H mb N R m) (hN:N≤1000) {c i:Nat} (hci:c<i) (hi:i<N) (hp:1<p∧p≤2147483647) (hok:WN p N m) {f:Int} (hf:0≤f∧f<p) (u v:Int) :
  ∃H',RT (plF F) 87 (sn 122486566 B87) ((Q2 (slR mb N) (.i p) (.i 0) (.i u) (.i (c:Int)) Ud (.i v) (.i (i:Int)) (.i f) (.i (c:Int)) (.i (N:Int)) (.i (c:Int)))) H (.exit 6) ((Q2 (slR mb N) (.i p) (.i 0) (.i u) (.i (c:Int)) Ud (.i v) (.i (i:Int)) (.i f) (.i (N:Int)) (.i (N:Int)) (.i (c:Int)))) H'∧Mat H' mb N R (m.set i (YN p c f (m.getD c []) (m.getD i [])))∧Fx H H' (rowS R N):=by
 have hml:=hM.ml
 have hil:i<m.length:=by omega
 have hri:=hM.rl i hi
 obtain ⟨x,E',H',r,hx,hE,h1,h2⟩:=Kq (pol':=plF F) (f:=87) (b:=sn 244973132 B87) (c:=sn 122486566 B87)
  (I:=fun k e H'=>e=(Q2 (slR mb N) (.i p) (.i 0) (.i u) (.i (c:Int)) Ud (.i v) (.i (i:Int)) (.i f) (.i ((c+k:Nat):Int)) (.i (N:Int)) (.i (c:Int)))∧Mat H' mb N R (m.set i (KO p c f (m.getD c []) (m.getD i []) k))∧Fx H H' (rowS R N))
  (Q:=fun x E' H'=>x=.exit 6∧E'=(Q2 (slR mb N) (.i p) (.i 0) (.i u) (.i (c:Int)) Ud (.i v) (.i (i:Int)) (.i f) (.i (N:Int)) (.i (N:Int)) (.i (c:Int)))∧Mat H' mb N R (m.set i (KO p c f (m.getD c []) (m.getD i []) (N-c)))∧Fx H H' (rowS R N)) (N-c)
  (by
   rintro k hk e H' ⟨rfl,hM',hF⟩
   have hj:c+k<N:=by omega
   have ei:(m.set i (KO p c f (m.getD c []) (m.getD i []) k)).getD i []=KO p c f (m.getD c []) (m.getD i []) k:=by rw [W3 hil,if_pos rfl]
   have ec:(m.set i (KO p c f (m.getD c []) (m.getD i []) k)).getD c []=m.getD c []:=by rw [W3 hil,if_neg (by omega)]
   have g1:=hM'.get hi hj
   have g2:=hM'.get (i:=c) (by omega) hj
   obtain ⟨g3,g4⟩:=hM'.put hi hj (((m.getD i []).getD (c+k) 0+(p-f)*(m.getD c []).getD (c+k) 0)%p)
   rw [ei] at g1 g3 g4
   rw [ec] at g2
   rw [VU (by omega),if_neg (by omega)] at g1
   rw [Qa8 (by omega)] at g3 g4
   rw [wI] at g4
   have aw:=Qts (p:=p) (by omega) (DZ hok hi hj) hf (DZ hok (i:=c) (by omega) hj) hp.2
   have s:=Qqv (F:=F) 0 mb N p H' c u v i f (c+k) (R i) (R c) ((m.getD c []).getD (c+k) 0) ((m.getD i []).getD (c+k) 0) (by omega) (XS hi) (hM'.ld hi) (XS hi) (hM'.ld hi) (Gd hj) g1 (XS (by omega)) (hM'.ld (by omega)) (Gd hj) g2 (CP (by omega)) (Gd hj) (by rw [aw];exact g3)
   rw [show qA.wrap (((c+k:Nat):Int)+1)=((c+(k+1):Nat):Int) by rw [Q7 (by omega) (by omega)];omega] at s
   refine ⟨_,_,s,?_⟩
   have e1:QO (plF F) 87 (sn 244973132 B87) ((Q2 (slR mb N) (.i p) (.i 0) (.i u) (.i (c:Int)) Ud (.i v) (.i (i:Int)) (.i f) (.i ((c+(k+1):Nat):Int)) (.i (N:Int)) (.i (c:Int))))=(Q2 (slR mb N) (.i p) (.i 0) (.i u) (.i (c:Int)) Ud (.i v) (.i (i:Int)) (.i f) (.i ((c+(k+1):Nat):Int)) (.i (N:Int)) (.i (c:Int))):=by kernel_rfl
   rw [e1,QH _ (by simp)]
   exact ⟨rfl,g4,hF.trans (Fx.set (S:=rowS R N) ⟨i,hi,rfl⟩ _)⟩)
  (by
   rintro e H' ⟨rfl,hM',hF⟩
   have e1:c+(N-c)=N:=by omega
   rw [e1]
   exact ⟨_,_,_,Qqw (F:=F) 0 mb N p H' c u v i f N 0 0 0 0 (by omega),by simp,rfl,rfl,hM',hF⟩)
  (by kernel_rfl) (by rintro k e H' ⟨rfl,_⟩;kernel_rfl) (e:=(Q2 (slR mb N) (.i p) (.i 0) (.i u) (.i (c:Int)) Ud (.i v) (.i (i:Int)) (.i f) (.i (c:Int)) (.i (N:Int)) (.i (c:Int)))) (H:=H) ⟨rfl,by
   rw [Qa7]
   have:m.set i (m.getD i [])=m:=by rw [Jv hil];exact wU hil
   rw [this];exact hM,Fx.refl ..⟩
 subst hx hE
 have e3:KO p c f (m.getD c []) (m.getD i []) (N-c)=YN p c f (m.getD c []) (m.getD i []):=by
  have:=Qdg (p:=p) (c:=c) (f:=f) (x:=m.getD c []) (r:=m.getD i []) (by omega)
  rwa [hri] at this
 rw [e3] at h1
 exact ⟨H',r,h1,h2⟩
theorem Qh6 (hM:Mat H mb N R m) (hN:N≤1000) {c:Nat} (hc:c<N) (hp:1<p∧p≤2147483647) (hok:WN p N m) (u:Int) {v:Int} (hv:0≤v∧v<p) :
  ∃H',RT (plF F) 87 (sn 956926 B87) ((Q2 (slR mb N) (.i p) (.i 0) (.i u) (.i (c:Int)) Ud (.i v) (.i ((c+1:Nat):Int)) Ud Ud (.i (N:Int)) (.i (c:Int)))) H (.exit 4) ((Q2 (slR mb N) (.i p) (.i 0) (.i u) (.i (c:Int)) Ud (.i v) (.i (N:Int)) Ud Ud (.i (N:Int)) (.i (c:Int)))) H'∧Mat H' mb N R (J3 p c v m)∧Fx H H' (rowS R N):=by
 have hml:=hM.ml
 obtain ⟨x,E',H',r,hx,hE,h1,h2⟩:=Kq (pol':=plF F) (f:=87) (b:=sn 1913852 B87) (c:=sn 956926 B87)
  (I:=fun k e H'=>e=(Q2 (slR mb N) (.i p) (.i 0) (.i u) (.i (c:Int)) Ud (.i v) (.i ((c+1+k:Nat):Int)) Ud Ud (.i (N:Int)) (.i (c:Int)))∧Mat H' mb N R (Vg p c v m k)∧Fx H H' (rowS R N))
  (Q:=fun x E' H'=>x=.exit 4∧E'=(Q2 (slR mb N) (.i p) (.i 0) (.i u) (.i (c:Int)) Ud (.i v) (.i (N:Int)) Ud Ud (.i (N:Int)) (.i (c:Int)))∧Mat H' mb N R (Vg p c v m (N-(c+1)))∧Fx H H' (rowS R N)) (N-(c+1))
  (by
   rintro k hk e H' ⟨rfl,hM',hF⟩
   have hi:c+1+k<N:=by omega
   have hok':=QfN (p:=p) (by omega) (c:=c) (v:=v) hok k
   have ei:(Vg p c v m k).getD (c+1+k) []=m.getD (c+1+k) []:=by rw [KP (by omega),if_neg (by omega)]
   have ec:(Vg p c v m k).getD c []=m.getD c []:=by rw [KP (by omega),if_neg (by omega)]
   have s1:=Qqr (F:=F) 0 mb N p H' c u v (c+1+k) (by omega)
   have g1:=hM'.get hi hc
   rw [ei] at g1
   have hy:=DZ hok hi hc
   have s2:=Qqt (F:=F) 0 mb N p H' c u v (c+1+k) (R (c+1+k)) ((m.getD (c+1+k) []).getD c 0) (XS hi) (hM'.ld hi) (Gd hc) g1 (CP (by omega))
   have hfe:(qA.wrap ((m.getD (c+1+k) []).getD c 0*v)).tmod p=YO p c v (m.getD (c+1+k) []):=Qdf (by omega) hy.1 hy.2 hv.1 hv.2 hp.2
   rw [hfe] at s2
   have hf:0≤YO p c v (m.getD (c+1+k) [])∧YO p c v (m.getD (c+1+k) [])<p:=⟨qY _ (by omega),qZ _ (by omega)⟩
   generalize hfd:YO p c v (m.getD (c+1+k) [])=f at *
   have s3:=Qqu (F:=F) 0 mb N p H' c u v (c+1+k) f
   obtain ⟨H1,s4,hM1,hF1⟩:=QqL (F:=F) hM' hN (c:=c) (i:=c+1+k) (by omega) hi hp hok' hf u v
   rw [ei,ec] at hM1
   have hms:=Qba (p:=p) (c:=c) (v:=v) (m:=m) (k:=k) (by omega)
   rw [hfd] at hms
   rw [hms] at hM1
   have s5:=Qqx (F:=F) 0 mb N p H1 c u v (c+1+k) (y10:=.i f) (y11:=.i (N:Int))
   rw [show qA.wrap (((c+1+k:Nat):Int)+1)=((c+1+(k+1):Nat):Int) by rw [Q7 (by omega) (by omega)];omega] at s5
   refine ⟨_,_,sq (s1) (sq (RunsTo.block_normal (i:=5) (c:=sn 7655410 B87) (sq (s2) (sq (s3) (bke (c:=sn 61243283 B87) (s4)) (c:=sn 30621641 B87)) (c:=sn 15310820 B87)) (by kernel_rfl)) (s5) (c:=sn 3827705 B87)) (c:=sn 1913852 B87),?_⟩
   have e1:QO (plF F) 87 (sn 1913852 B87) ((Q2 (slR mb N) (.i p) (.i 0) (.i u) (.i (c:Int)) Ud (.i v) (.i ((c+1+(k+1):Nat):Int)) (.i f) (.i (N:Int)) (.i (N:Int)) (.i (c:Int))))=(Q2 (slR mb N) (.i p) (.i 0) (.i u) (.i (c:Int)) Ud (.i v) (.i ((c+1+(k+1):Nat):Int)) Ud Ud (.i (N:Int)) (.i (c:Int))):=by kernel_rfl
   rw [e1,QH _ hF1.ln]
   exact ⟨rfl,hM1,hF.trans hF1⟩)
  (by
   rintro e H' ⟨rfl,hM',hF⟩
   have e1:c+1+(N-(c+1))=N:=by omega
   rw [e1]
   have s1:=Qqs (F:=F) 0 mb N p H' c u v N (by omega)
   exact ⟨_,_,_,sqo (s1) (c:=sn 1913852 B87) (b:=sn 3827705 B87),by simp,rfl,rfl,hM',hF⟩)
  (by kernel_rfl) (by rintro k e H' ⟨rfl,_⟩;kernel_rfl) (e:=(Q2 (slR mb N) (.i p) (.i 0) (.i u) (.i (c:Int)) Ud (.i v) (.i ((c+1:Nat):Int)) Ud Ud (.i (N:Int)) (.i (c:Int)))) (H:=H) ⟨rfl,by rw [Qa9];exact hM,Fx.refl ..⟩
 subst hx hE
 rw [← hml,Qdh (by omega)] at h1
 rw [hml] at h1
 exact ⟨H',r,h1,h2⟩
theorem Qh7 (hM:Mat H mb N R m) (hN:N≤1000) {c:Nat} (hc:c<N) (u:Int) :
  RT (plF F) 87 (sn 29900 B87) ((Q2 (slR mb N) (.i p) (.i 0) (.i u) (.i (c:Int)) (.i (c:Int)) Ud Ud Ud Ud (.i (N:Int)) (.i (c:Int)))) H (.exit 2) ((Q2 (slR mb N) (.i p) (.i 0) (.i u) (.i (c:Int)) (.i ((J4 m c (N-c) c:Nat):Int)) Ud Ud Ud Ud (.i (N:Int)) (.i (c:Int)))) H:=by
 obtain ⟨h1,h2,h3,h4⟩:=Yn m c (N-c) c
 have h:=Wk (pol':=plF F) (f:=87) (b:=sn 59800 B87) (c:=sn 29900 B87) (E:=fun k=>(Q2 (slR mb N) (.i p) (.i 0) (.i u) (.i (c:Int)) (.i ((c+k:Nat):Int)) Ud Ud Ud Ud (.i (N:Int)) (.i (c:Int)))) (Hs:=fun _=>H) (J4 m c (N-c) c-c) (E0:=fun k=>(Q2 (slR mb N) (.i p) (.i 0) (.i u) (.i (c:Int)) (.i ((c+(k+1):Nat):Int)) Ud Ud Ud Ud (.i (N:Int)) (.i (c:Int)))) (H1:=fun _=>H) (x:=.exit 2) (E':=(Q2 (slR mb N) (.i p) (.i 0) (.i u) (.i (c:Int)) (.i ((J4 m c (N-c) c:Nat):Int)) Ud Ud Ud Ud (.i (N:Int)) (.i (c:Int)))) (H':=H)
  (fun k hk=>by
   have hr:c+k<N:=by omega
   have s:=Qqh (F:=F) 0 mb N p H c (c+k) u (R (c+k)) _ (by omega) (XS hr) (hM.ld hr) (Gd hc) (hM.get hr hc) (h3 _ (by omega) (by omega))
   rw [show qA.wrap (((c+k:Nat):Int)+1)=((c+(k+1):Nat):Int) by rw [Q7 (by omega) (by omega)];omega] at s
   exact s) (fun k _=>by kernel_rfl) (fun k _=>QH _ rfl) (by
   rw [show c+(J4 m c (N-c) c-c)=J4 m c (N-c) c by omega]
   by_cases e:J4 m c (N-c) c<N
   ·exact Qqi (F:=F) 0 mb N p H c _ u (R (J4 m c (N-c) c)) _ (by omega) (XS e) (hM.ld e) (Gd hc) (hM.get e hc) (h4 (by omega))
   ·exact Qqj (F:=F) 0 mb N p H c _ u 0 0 (by omega)) (by simp) (by kernel_rfl) (fun k _=>by kernel_rfl)
 exact h
end
section
variable {F:FuncId→Option (List HV→Option HV)} {mb N:Nat} {p:Int}
def VV (p:Int) (a:Int):Int:=pw a (p-2).toNat p
theorem QfO (h45:F 45=some Qab) (hp:1<p∧p≤2147483647) {x:Int} (hx:0≤x∧x<p) (H:Heap):∀kf,Qc Tp (plF F) (kf+1) 45 [.int .i64 x,.int .i64 (qA.wrap (p-2)),.int .i64 p] H=some (.int .i64 (VV p x),H):=by
 rw [Qr (by omega) (by omega)]
 exact at3 (pol':=plF F) (g:=45) (c1:=kI) (c2:=kI) (c3:=kI) (f:=fun a n p=>if QfI a n p then some (.int .i64 (pw a n.toNat p)) else none) (H:=H) h45 (ShI _ x) (ShI _ (p-2)) (ShI _ p) (if_pos ⟨hp,hx,by omega,by omega⟩)
theorem Qh8 {N:Nat} {m:List (List Int)} (h:WN p N m) {i j:Nat} (hi:i<N) (hj:j<N):WN p N (swpR m i j):=QfK h hi hj
theorem Qad (h45:F 45=some Qab) (hp:1<p∧p≤2147483647) (hN:N≤1000) {S:Nat→Prop} (hS:S mb):∀(k c:Nat) (u:Int) (m:List (List Int)) (R:Nat→Nat) (H:Heap),c+k=N→Mat H mb N R m→WN p N m→(0≤u∧u<p)→(∀i,i<N→S (R i)) →
  ∃x E' H',RT (plF F) 87 (sn 58 B87) ((Q2 (slR mb N) (.i p) (.i 0) (.i (u)) Ud Ud Ud Ud Ud Ud (.i (N:Int)) (.i (c:Int)))) H x E' H'∧Ok H'∧Fx H H' S ∧
   ((x=.exit 0∧E'=(Q2 (slR mb N) (.i p) (.i 0) (.i (gz p (VV p) N k c u m)) Ud Ud Ud Ud Ud Ud (.i (N:Int)) (.i (N:Int))))∨(x=.ret∧gz p (VV p) N k c u m=0∧∃w c' r:Int,E'=(Q2 (slR mb N) (.i p) (.i 0) (.i w) (.i c') (.i r) Ud Ud Ud Ud (.i (N:Int)) (.i c'))))
 | 0,c,u,m,R,H,hk,hM,hok,hu,hR=>by
  have:c=N:=by omega
  subst this
  have s1:=Qqe (F:=F) 0 mb c p H c u (by omega)
  have s2:=QhY (F:=F) 0 mb c p H c u
  rw [gz]
  exact ⟨_,_,_,lpo (sq (s1) (sqo (s2) (c:=sn 233 B87) (b:=sn 467 B87)) (c:=sn 116 B87)),hM.mm,Fx.refl ..,.inl ⟨rfl,rfl⟩⟩
 | k+1,c,u,m,R,H,hk,hM,hok,hu,hR=>by
  have hc:c<N:=by omega
  obtain ⟨f1,f2,f3,f4⟩:=Yn m c (N-c) c
  have s1:=Qqd (F:=F) 0 mb N p H c u (by omega)
  have s2:=QhX (F:=F) 0 mb N p H c u
  have s3:=Qqf (F:=F) 0 mb N p H c u
  have s4:=Qqg (F:=F) 0 mb N p H c u
  have s5:=Qh7 (F:=F) (p:=p) hM hN hc u
  rw [gz]
  generalize hr:J4 m c (N-c) c=r at *
  by_cases e1:r=N
  ·rw [if_pos e1]
   have s6:=Qqk (F:=F) 0 mb N p H c r u (by omega)
   exact ⟨_,_,_,lpo (sq (s1) (sq (s2) (sqo (RunsTo.block_ret (i:=1) (c:=sn 934 B87) (sq (s3) (sq (s4) (sq (bke (c:=sn 14950 B87) (s5)) (sqo (s6) (c:=sn 14951 B87) (b:=sn 29903 B87)) (c:=sn 7475 B87)) (c:=sn 3737 B87)) (c:=sn 1868 B87)) (by kernel_rfl)) (c:=sn 467 B87) (b:=sn 935 B87)) (c:=sn 233 B87)) (c:=sn 116 B87)),hM.mm,Fx.refl ..,.inr ⟨rfl,rfl,u,c,r,rfl⟩⟩
  rw [if_neg e1]
  have hrN:r<N:=by omega
  have s6:=Qql (F:=F) 0 mb N p H c r u (by omega)
  obtain ⟨H1,R1,s7,hM1,hF1,hR1⟩:∃H1 R1,RT (plF F) 87 (sn 59806 B87) ((Q2 (slR mb N) (.i p) (.i 0) (.i (u)) (.i (c:Int)) (.i (r:Int)) Ud Ud Ud Ud (.i (N:Int)) (.i (c:Int)))) H .normal ((Q2 (slR mb N) (.i p) (.i 0) (.i (if r=c then u else p-u)) (.i (c:Int)) (.i (r:Int)) Ud Ud Ud Ud (.i (N:Int)) (.i (c:Int)))) H1∧Mat H1 mb N R1 (swpR m r c)∧Fx H H1 S∧∀i,i<N→S (R1 i):=by
   by_cases e2:r=c
   ·have s:=Qqm (F:=F) 0 mb N p H c r u 0 0 (by omega)
    rw [if_pos e2]
    have:swpR m r c=m:=by rw [e2];exact Qac (by rw [hM.ml];exact hc)
    rw [this]
    exact ⟨H,R,s,hM,Fx.refl ..,hR⟩
   ·obtain ⟨H0,H1,g1,g2,g3,g4⟩:=hM.swap hrN hc
    have s:=Qqn (F:=F) 0 mb N p H c r u (R r) (R c) (by omega) (XS hc) (hM.ld hc) (XS hrN) (hM.ld hrN) (XS hrN) g1 (XS hc) g2
    rw [Q7 (x:=p-u) (by omega) (by omega)] at s
    rw [if_neg e2]
    refine ⟨H1,_,s,g3,⟨g4.ln,fun b hb=>g4.eq b fun e=>hb (by rw [e];exact hS)⟩,fun i hi=>?_⟩
    show S (R _)
    split
    ·exact hR r hrN
    ·split
     ·exact hR c hc
     ·exact hR i hi
  have hok1:=Qh8 hok hrN hc
  have hu1:0≤(if r=c then u else p-u)∧(if r=c then u else p-u)≤p:=by split <;> omega
  generalize (if r=c then u else p-u)=u1 at *
  generalize swpR m r c=m1 at *
  have hx:=DZ hok1 hc hc
  have s8:=Qqo (F:=F) 0 mb N p H1 c r u1 (R1 c) ((m1.getD c []).getD c 0) (XS hc) (hM1.ld hc) (Gd hc) (hM1.get hc hc) (CP (by omega))
  rw [Qs2 (by omega) hu1.1 hu1.2 hx.1 hx.2 hp.2] at s8
  have hu2:0≤u1*(m1.getD c []).getD c 0%p∧u1*(m1.getD c []).getD c 0%p<p:=⟨qY _ (by omega),qZ _ (by omega)⟩
  have s9:=Qqp (F:=F) 0 mb N p H1 c r (u1*(m1.getD c []).getD c 0%p) (R1 c) ((m1.getD c []).getD c 0) (VV p ((m1.getD c []).getD c 0)) (XS hc) (hM1.ld hc) (Gd hc) (hM1.get hc hc) (QfO h45 hp hx H1)
  have hv:0≤VV p ((m1.getD c []).getD c 0)∧VV p ((m1.getD c []).getD c 0)<p:=⟨qY _ (by omega),qZ _ (by omega)⟩
  generalize u1*(m1.getD c []).getD c 0%p=u2 at *
  generalize VV p ((m1.getD c []).getD c 0)=v at *
  have s10:=Qqq (F:=F) 0 mb N p H1 c r u2 v
  rw [show qA.wrap ((c:Int)+1)=((c+1:Nat):Int) by rw [Q7 (by omega) (by omega)];omega] at s10
  obtain ⟨H2,s11,hM2,hF2⟩:=Qh6 (F:=F) hM1 hN hc hp hok1 u2 hv
  have s12:=Qqy (F:=F) 0 mb N p H2 c u2 (y6:=.i (c:Int)) (y8:=.i v) (y9:=.i (N:Int))
  rw [show qA.wrap ((c:Int)+1)=((c+1:Nat):Int) by rw [Q7 (by omega) (by omega)];omega] at s12
  have hF3:Fx H1 H2 S:=⟨hF2.ln,fun b hb=>hF2.eq b fun ⟨i,hi,e⟩=>hb (by rw [e];exact hR1 i hi)⟩
  obtain ⟨x,E',H',ih,g1,g2,g3⟩:=Qad h45 hp hN hS k (c+1) u2 (J3 p c v m1) R1 H2 (by omega) hM2 (Qcd (by omega) hok1) hu2 hR1
  refine ⟨x,E',H',lop (sq (s1) (sq (s2) (sq (RunsTo.block_normal (i:=1) (c:=sn 934 B87) (sq (s3) (sq (s4) (sq (bke (c:=sn 14950 B87) (s5)) (sq (s6) (sq (s7) (sq (s8) (sq (s9) (sq (s10) (bke (c:=sn 478463 B87) (lpi (e0:=(Q2 (slR mb N) (.i p) (.i 0) (.i (u2)) (.i (c:Int)) (.i (r:Int)) (.i v) (.i ((c+1:Nat):Int)) Ud Ud (.i (N:Int)) (.i (c:Int)))) s11 (b:=sn 1913852 B87))) (c:=sn 239231 B87)) (c:=sn 119615 B87)) (c:=sn 59807 B87)) (c:=sn 29903 B87)) (c:=sn 14951 B87)) (c:=sn 7475 B87)) (c:=sn 3737 B87)) (c:=sn 1868 B87)) (by kernel_rfl)) (s12) (c:=sn 467 B87)) (c:=sn 233 B87)) (c:=sn 116 B87)) (QH _ (by rw [hF3.ln,hF1.ln])) ih,g1,(hF1.trans hF3).trans g2,g3⟩
theorem Qi1:Try.f87.results.toList=[.tmp 4]:=by kernel_rfl
theorem QfP (h87:F 87=none) (h45:F 45=some Qab) (hp:1<p∧p≤2147483647) (hN:N≤1000) {R:Nat→Nat} {m:List (List Int)} {H:Heap} (hM:Mat H mb N R m) (hok:WN p N m) :
  ∃H',ClF F 87 [slR mb N,.int .i64 p] H (.int .i64 (gz p (VV p) N N 0 1 m)) H'∧Ok H'∧Fx H H' (fun b=>b=mb∨rowS R N b):=by
 have s1:=Qqa (F:=F) 0 mb N p H
 have s2:=Qqb (F:=F) 0 mb N p H
 have s3:=Qqc (F:=F) 0 mb N p H 1
 obtain ⟨x,E',H',s4,g1,g2,g3⟩:=Qad (F:=F) h45 hp hN (S:=fun b=>b=mb∨rowS R N b) (.inl rfl) N 0 1 m R H (Nat.zero_add N) hM hok (by omega) (fun i hi=>.inr ⟨i,hi,rfl⟩)
 have hgc:∀r,gc H.length r H'=H':=fun r=>QH r g2.ln
 rcases g3 with ⟨rfl,rfl⟩ | ⟨rfl,h0,w,c',r,rfl⟩
 ·have s5:=Qqz (F:=F) 0 mb N p H' (gz p (VV p) N N 0 1 m) (y13:=.i (N:Int)) (y14:=.i (N:Int))
  have h:=CallsTo.shared (P:=Tp) (pol:=plF F) (g:=87) (fn:=Try.f87) (cd:=B87) (args:=[slR mb N,.int .i64 p]) (v:=.int .i64 (gz p (VV p) N N 0 1 m)) h87 (by kernel_rfl) (by kernel_rfl) (by kernel_rfl) (sq (s1) (sq (s2) (sq (sq (s3) (bke (c:=sn 29 B87) (s4)) (c:=sn 14 B87)) (s5) (c:=sn 7 B87)) (c:=sn 3 B87)) (c:=B87)) (by kernel_rfl) (by simp) (by simp only [Qd,Qi1];rfl)
  rw [hgc] at h
  exact ⟨H',h,g1,g2⟩
 ·have h:=CallsTo.shared (P:=Tp) (pol:=plF F) (g:=87) (fn:=Try.f87) (cd:=B87) (args:=[slR mb N,.int .i64 p]) (v:=.int .i64 0) h87 (by kernel_rfl) (by kernel_rfl) (by kernel_rfl) (sq (s1) (sq (s2) (sqo (sq (s3) (RunsTo.block_ret (i:=0) (c:=sn 29 B87) (s4) (by kernel_rfl)) (c:=sn 14 B87)) (c:=sn 7 B87) (b:=sn 15 B87)) (c:=sn 3 B87)) (c:=B87)) (by kernel_rfl) (by simp) (by simp only [Qd,Qi1];rfl)
  rw [hgc] at h
  rw [h0]
  exact ⟨H',h,g1,g2⟩
end
end Go.Proofs.Ytiejmoglooaalaa
end
section
open Go Go.HL
namespace Go.Proofs.Ytiejmoglooaalaa
set_option maxRecDepth 100000
set_option linter.unusedSectionVars false
open Go.Proofs.Try renaming prog → Tp
open Go.HL.HV renaming undef → Ud
section
variable {F:FuncId→Option (List HV→Option HV)}
noncomputable def B64:Code:=Try.f64.body.getD .skip
abbrev GT (v0 v1 v2:HV):Env:=[(0,v0),(1,v1),(2,v2)]
end
section
variable {F:FuncId→Option (List HV→Option HV)}
variable (x d:Int) (sb ob m:Nat) (z:Int) (H:Heap)
include x d sb ob m z H
theorem QqM {H0:Heap} (g0:LD H 24 (.q sb) (.o ob m)) (g1:IX 24 (.o ob m) (.i x) (.ptr ob ((x).toNat) 0 m)) (g2:LD H 3 (.ptr ob ((x).toNat) 0 m) (.i z)) (g3:z<0) (g4:LD H 24 (.q sb) (.o ob m)) (g5:IX 24 (.o ob m) (.i x) (.ptr ob ((x).toNat) 0 m)) (g6:ST H 3 (.ptr ob ((x).toNat) 0 m) (.i d) H0): RU F 64 1 B64 (GT (.i x) (.i d) (.q sb)) H .normal (GT (.i x) (.i d) (.q sb)) H0 :=
 hx 0 60 [jO 0 0 H g0,jO 0 2 H g1,jO 0 3 H g2,jT 0 4 H g3,jO 1 0 H g4,jO 1 3 H g5,jS 1 4 g6]
theorem QqN {H0:Heap} (g0:LD H 24 (.q sb) (.o ob m)) (g1:IX 24 (.o ob m) (.i x) (.ptr ob ((x).toNat) 0 m)) (g2:LD H 3 (.ptr ob ((x).toNat) 0 m) (.i z)) (g3:¬(z<0)) (g4:LD H 24 (.q sb) (.o ob m)) (g5:IX 24 (.o ob m) (.i x) (.ptr ob ((x).toNat) 0 m)) (g6:LD H 3 (.ptr ob ((x).toNat) 0 m) (.i z)) (g7:d<z) (g8:LD H 24 (.q sb) (.o ob m)) (g9:IX 24 (.o ob m) (.i x) (.ptr ob ((x).toNat) 0 m)) (g10:ST H 3 (.ptr ob ((x).toNat) 0 m) (.i d) H0): RU F 64 1 B64 (GT (.i x) (.i d) (.q sb)) H .normal (GT (.i x) (.i d) (.q sb)) H0 :=
 hx 0 60 [jO 0 0 H g0,jO 0 2 H g1,jO 0 3 H g2,jF 0 4 H g3,jO 0 7 H g4,jO 0 9 H g5,jO 0 10 H g6,jT 0 11 H g7,jO 1 0 H g8,jO 1 3 H g9,jS 1 4 g10]
theorem QqO (g0:LD H 24 (.q sb) (.o ob m)) (g1:IX 24 (.o ob m) (.i x) (.ptr ob ((x).toNat) 0 m)) (g2:LD H 3 (.ptr ob ((x).toNat) 0 m) (.i z)) (g3:¬(z<0)) (g4:LD H 24 (.q sb) (.o ob m)) (g5:IX 24 (.o ob m) (.i x) (.ptr ob ((x).toNat) 0 m)) (g6:LD H 3 (.ptr ob ((x).toNat) 0 m) (.i z)) (g7:¬(d<z)): RU F 64 1 B64 (GT (.i x) (.i d) (.q sb)) H .normal (GT (.i x) (.i d) (.q sb)) H :=
 hx 0 60 [jO 0 0 H g0,jO 0 2 H g1,jO 0 3 H g2,jF 0 4 H g3,jO 0 7 H g4,jO 0 9 H g5,jO 0 10 H g6,jF 0 11 H g7]
end
section
variable {F:FuncId→Option (List HV→Option HV)}
noncomputable def B43:Code:=Try.f43.body.getD .skip
abbrev Z5 (v0 v1 v2 v3 v4 v5 v6 v7 v8 v9 v10 v12 v14 v15 v29 v30 v38 v39 v40 v49 v50 v51:HV):Env:=[(0,v0),(1,v1),(2,v2),(3,v3),(4,v4),(5,v5),(6,v6),(7,v7),(8,v8),(9,v9),(10,v10),(12,v12),(14,v14),(15,v15),(29,v29),(30,v30),(38,v38),(39,v39),(40,v40),(49,v49),(50,v50),(51,v51)]
end
abbrev e43 (n:Int) (ls:List HV) (tb:Nat) (k:Nat) (u6 u7 u8 u9 u10 u11 u12 u13 u14 u15 u16 u17 u18 u19 u20 u21:HV):Env:=Z5 (.N n ls) (.q 0) (.imm .lit 1 []) .nilmap (.bool false) (.s tb k) u6 u7 u8 u9 u10 u11 u12 u13 u14 u15 u16 u17 u18 u19 u20 u21
section
variable {F:FuncId→Option (List HV→Option HV)}
variable (N:Nat) (n:Int) (ls:List HV)
include N n ls
theorem QqP:RU F 43 2 B43 [(0,.N n ls)] [] .normal (Z5 (.N n ls) (.q 0) (.imm .lit 1 []) .nilmap (.bool false) Ud Ud Ud Ud Ud Ud Ud Ud Ud Ud Ud Ud Ud Ud Ud Ud Ud) [.arr 2 [.N n ls] true 0] :=
 hx N 60 []
end
section
variable {F:FuncId→Option (List HV→Option HV)}
variable (N:Nat) (n:Int) (ls:List HV)
include N n ls
theorem QqQ (H:Heap) (tb k:Nat) {H0:Heap} (g0:LD H 66 (.q 0) (.N n ls)) (g1:CM F 40 [.N n ls] H (.tuple [.s tb k,.bool true]) H0) (y5 y6 y7 y8 y9 y10 y12 y14 y15 y29 y30 y38 y39 y40 y49 y50 y51:HV:=Ud): RU F 43 6 B43 (Z5 (.N n ls) (.q 0) (.imm .lit 1 []) .nilmap (.bool false) y5 y6 y7 y8 y9 y10 y12 y14 y15 y29 y30 y38 y39 y40 y49 y50 y51) H .normal (e43 n ls tb k (.bool true) y7 y8 y9 y10 y12 y14 y15 y29 y30 y38 y39 y40 y49 y50 y51) H0 :=
 hx N 60 [jO 1 0 H g0,jD 1 1 g1]
theorem QqR (H:Heap) (tb k:Nat) {H0:Heap} (g0:LD H 66 (.q 0) (.N n ls)) (g1:CM F 40 [.N n ls] H (.tuple [.s tb k,.bool false]) H0) (y5 y6 y7 y8 y9 y10 y12 y14 y15 y29 y30 y38 y39 y40 y49 y50 y51:HV:=Ud): RU F 43 6 B43 (Z5 (.N n ls) (.q 0) (.imm .lit 1 []) .nilmap (.bool false) y5 y6 y7 y8 y9 y10 y12 y14 y15 y29 y30 y38 y39 y40 y49 y50 y51) H .normal (e43 n ls tb k (.bool false) y7 y8 y9 y10 y12 y14 y15 y29 y30 y38 y39 y40 y49 y50 y51) H0 :=
 hx N 60 [jO 1 0 H g0,jD 1 1 g1]
theorem Qh9 (H:Heap) (tb k:Nat) (y7 y8 y9 y10 y12 y14 y15 y29 y30 y38 y39 y40 y49 y50 y51:HV:=Ud): RU F 43 14 B43 (e43 n ls tb k (.bool true) y7 y8 y9 y10 y12 y14 y15 y29 y30 y38 y39 y40 y49 y50 y51) H .normal (e43 n ls tb k (.bool true) y7 y8 y9 y10 y12 y14 y15 y29 y30 y38 y39 y40 y49 y50 y51) H :=
 hx N 60 []
theorem Qia (H:Heap) (tb k:Nat) (y7 y8 y9 y10 y12 y14 y15 y29 y30 y38 y39 y40 y49 y50 y51:HV:=Ud): RU F 43 14 B43 (e43 n ls tb k (.bool false) y7 y8 y9 y10 y12 y14 y15 y29 y30 y38 y39 y40 y49 y50 y51) H .ret (e43 n ls tb k (.bool false) y7 y8 y9 y10 y12 y14 y15 y29 y30 y38 y39 y40 y49 y50 y51) H :=
 hx N 60 []
theorem QqS (H:Heap) (tb k:Nat) {a0:HV} {H0:Heap} (g0:some (HV.map H.length,H++[Blk.map [] [] 0])=some (a0,H0)) (y6 y7 y8 y9 y10 y12 y14 y15 y29 y30 y38 y39 y40 y49 y50 y51:HV:=Ud): RU F 43 30 B43 (e43 n ls tb k y6 y7 y8 y9 y10 y12 y14 y15 y29 y30 y38 y39 y40 y49 y50 y51) H .normal (e43 n ls tb k y6 a0 y8 y9 y10 y12 y14 y15 y29 y30 y38 y39 y40 y49 y50 y51) H0 :=
 hx N 60 [jR 4 0 g0]
theorem QqT (H:Heap) (tb k mb ob m:Nat) {H0:Heap} {a0:HV} {H1:Heap} {H2:Heap} (g0:LD H 22 (.ptr 0 0 1 1) (.g ls)) (g1:XU Tp false 24 (.i (ls.length:Int)) (.i (ls.length:Int)) H=some (.o ob m,H0)) (g2:some (HV.ptr H0.length 0 0 1,H0++[Blk.arr 1 [HV.sl (H0.length+1) 0 0 none 0 1] true (H0.length+2),Blk.b []])=some (a0,H1)) (g3:ST H1 24 (a0) (.o ob m) H2) (y6 y8 y9 y10 y12 y14 y15 y29 y30 y38 y39 y40 y49 y50 y51:HV:=Ud): RU F 43 62 B43 (e43 n ls tb k y6 (.map mb) y8 y9 y10 y12 y14 y15 y29 y30 y38 y39 y40 y49 y50 y51) H .normal (e43 n ls tb k y6 (.map mb) a0 y9 y10 y12 y14 y15 y29 y30 y38 y39 y40 y49 y50 y51) H2 :=
 hx N 60 [jO 5 1 H g0,jR 5 3 g1,jR 5 4 g2,jS 5 5 g3]
theorem QqU (H:Heap) (tb k mb sb ob m:Nat) (g0:LD H 24 (.q sb) (.o ob m)) (y6 y9 y10 y12 y14 y15 y29 y30 y38 y39 y40 y49 y50 y51:HV:=Ud): RU F 43 252 B43 (e43 n ls tb k y6 (.map mb) (.q sb) y9 y10 y12 y14 y15 y29 y30 y38 y39 y40 y49 y50 y51) H .normal (e43 n ls tb k y6 (.map mb) (.q sb) y9 y10 y12 y14 y15 (.n m) (.i 0) y38 y39 y40 y49 y50 y51) H :=
 hx N 60 [jO 6 0 H g0]
theorem QqV (H:Heap) (tb k mb sb ob m j:Nat) {H0:Heap} (g0:(j:Int)<(m:Int)) (g1:LD H 24 (.q sb) (.o ob m)) (g2:IO 24 ob m j) (g3:ST H 3 (.ptr ob j 0 m) (.i (-1)) H0) (y6 y9 y10 y12 y14 y15 y38 y39 y40 y49 y50 y51:HV:=Ud): RU F 43 1012 B43 (e43 n ls tb k y6 (.map mb) (.q sb) y9 y10 y12 y14 y15 (.n m) (.n j) y38 y39 y40 y49 y50 y51) H .normal (e43 n ls tb k y6 (.map mb) (.q sb) (.n j) y10 y12 y14 y15 (.n m) (.i (qA.wrap ((j:Int)+1))) y38 y39 y40 y49 y50 y51) H0 :=
 hx N 60 [jT 7 0 H g0,jO 9 0 H g1,jO 9 2 H g2,jS 9 3 g3]
theorem QqW (H:Heap) (tb k mb sb ob m j:Nat) (g0:¬((j:Int)<(m:Int))) (y6 y9 y10 y12 y14 y15 y38 y39 y40 y49 y50 y51:HV:=Ud): RU F 43 1012 B43 (e43 n ls tb k y6 (.map mb) (.q sb) y9 y10 y12 y14 y15 (.n m) (.n j) y38 y39 y40 y49 y50 y51) H (.exit 0) (e43 n ls tb k y6 (.map mb) (.q sb) y9 y10 y12 y14 y15 (.n m) (.n j) y38 y39 y40 y49 y50 y51) H :=
 hx N 60 [jF 7 0 H g0]
theorem QqX (H:Heap) (tb k mb sb:Nat) (y6 y9 y10 y12 y14 y15 y29 y30 y38 y39 y40 y49 y50 y51:HV:=Ud): RU F 43 254 B43 (e43 n ls tb k y6 (.map mb) (.q sb) y9 y10 y12 y14 y15 y29 y30 y38 y39 y40 y49 y50 y51) H .normal (e43 n ls tb k y6 (.map mb) (.q sb) y9 (.func 64 [] [.q sb]) y12 y14 y15 y29 y30 y38 y39 y40 y49 y50 y51) H :=
 hx N 60 []
theorem QqY (H:Heap) (tb k mb sb:Nat) (y6 y9 y12 y14 y15 y29 y30 y38 y39 y40 y49 y50 y51:HV:=Ud): RU F 43 1020 B43 (e43 n ls tb k y6 (.map mb) (.q sb) y9 (.func 64 [] [.q sb]) y12 y14 y15 y29 y30 y38 y39 y40 y49 y50 y51) H .normal (e43 n ls tb k y6 (.map mb) (.q sb) y9 (.func 64 [] [.q sb]) y12 y14 y15 y29 y30 (.s tb k) (.n k) (.i 0) y49 y50 y51) H :=
 hx N 60 []
theorem QqZ (H:Heap) (tb k mb sb i:Nat) (g0:(i:Int)<(k:Int)) (y6 y9 y12 y14 y15 y29 y30 y49 y50 y51:HV:=Ud): RunsTo Tp (plF F) 43 (sn 8168 B43) (e43 n ls tb k y6 (.map mb) (.q sb) y9 (.func 64 [] [.q sb]) y12 y14 y15 y29 y30 (.s tb k) (.n k) (.n i) y49 y50 y51) H .normal [0,1,2,3,4,5,6,7,8,9,10,12,14,15,29,30,38,39,40,49,50,51,41] [(0,.N n ls),(1,.q 0),(2,.imm .lit 1 []),(3,.nilmap),(4,.bool false),(5,.s tb k),(6,y6),(7,.map mb),(8,.q sb),(9,y9),(10,.func 64 [] [.q sb]),(12,y12),(14,y14),(15,y15),(29,y29),(30,y30),(38,.s tb k),(39,.n k),(40,.n i),(49,y49),(50,y50),(51,y51),(41,.bool true)] H :=
 hx N 60 [jT 13 0 H g0]
theorem Qq0 (H:Heap) (tb k mb sb i:Nat) (g0:¬((i:Int)<(k:Int))) (y6 y9 y12 y14 y15 y29 y30 y49 y50 y51:HV:=Ud): RunsTo Tp (plF F) 43 (sn 8168 B43) (e43 n ls tb k y6 (.map mb) (.q sb) y9 (.func 64 [] [.q sb]) y12 y14 y15 y29 y30 (.s tb k) (.n k) (.n i) y49 y50 y51) H .normal [0,1,2,3,4,5,6,7,8,9,10,12,14,15,29,30,38,39,40,49,50,51,41] [(0,.N n ls),(1,.q 0),(2,.imm .lit 1 []),(3,.nilmap),(4,.bool false),(5,.s tb k),(6,y6),(7,.map mb),(8,.q sb),(9,y9),(10,.func 64 [] [.q sb]),(12,y12),(14,y14),(15,y15),(29,y29),(30,y30),(38,.s tb k),(39,.n k),(40,.n i),(49,y49),(50,y50),(51,y51),(41,.bool false)] H :=
 hx N 60 [jF 13 0 H g0]
theorem Qib (H:Heap) (tb k mb sb i:Nat) (y6 y9 y12 y14 y15 y29 y30 y49 y50 y51:HV:=Ud): RU F 43 16338 B43 [(0,.N n ls),(1,.q 0),(2,.imm .lit 1 []),(3,.nilmap),(4,.bool false),(5,.s tb k),(6,y6),(7,.map mb),(8,.q sb),(9,y9),(10,.func 64 [] [.q sb]),(12,y12),(14,y14),(15,y15),(29,y29),(30,y30),(38,.s tb k),(39,.n k),(40,.n i),(49,y49),(50,y50),(51,y51),(41,.bool true)] H .normal (e43 n ls tb k y6 (.map mb) (.q sb) y9 (.func 64 [] [.q sb]) y12 y14 y15 y29 y30 (.s tb k) (.n k) (.n i) y49 y50 y51) H :=
 hx N 60 []
theorem Qic (H:Heap) (tb k mb sb i:Nat) (y6 y9 y12 y14 y15 y29 y30 y49 y50 y51:HV:=Ud): RU F 43 16338 B43 [(0,.N n ls),(1,.q 0),(2,.imm .lit 1 []),(3,.nilmap),(4,.bool false),(5,.s tb k),(6,y6),(7,.map mb),(8,.q sb),(9,y9),(10,.func 64 [] [.q sb]),(12,y12),(14,y14),(15,y15),(29,y29),(30,y30),(38,.s tb k),(39,.n k),(40,.n i),(49,y49),(50,y50),(51,y51),(41,.bool false)] H (.exit 2) (e43 n ls tb k y6 (.map mb) (.q sb) y9 (.func 64 [] [.q sb]) y12 y14 y15 y29 y30 (.s tb k) (.n k) (.n i) y49 y50 y51) H :=
 hx N 60 []
theorem Qq1 (H:Heap) (tb k mb sb i:Nat) (x:Int) (g0:IS 24 tb k i) (g1:LD H 3 (.ptr tb i 0 k) (.i x)) (y6 y9 y12 y14 y15 y29 y30 y49 y50 y51:HV:=Ud): RU F 43 130712 B43 (e43 n ls tb k y6 (.map mb) (.q sb) y9 (.func 64 [] [.q sb]) y12 y14 y15 y29 y30 (.s tb k) (.n k) (.n i) y49 y50 y51) H .normal (e43 n ls tb k y6 (.map mb) (.q sb) y9 (.func 64 [] [.q sb]) (.i x) y14 y15 y29 y30 (.s tb k) (.n k) (.n i) y49 y50 y51) H :=
 hx N 60 [jO 14 0 H g0,jO 14 1 H g1]
theorem Qq2 (H:Heap) (tb k mb sb i:Nat) (x:Int) {H0:Heap} (g0:GY Tp false 72 (.map mb) (.i x) (.bool true) H=some H0) (y6 y9 y14 y15 y29 y30 y49 y50 y51:HV:=Ud): RU F 43 261426 B43 (e43 n ls tb k y6 (.map mb) (.q sb) y9 (.func 64 [] [.q sb]) (.i x) y14 y15 y29 y30 (.s tb k) (.n k) (.n i) y49 y50 y51) H .normal (e43 n ls tb k y6 (.map mb) (.q sb) y9 (.func 64 [] [.q sb]) (.i x) y14 y15 y29 y30 (.s tb k) (.n k) (.n i) y49 y50 y51) H0 :=
 hx N 60 [jS 15 2 g0]
theorem Qq3 (H:Heap) (tb k mb sb i ib c:Nat) (x:Int) {H0:Heap} (g0:LD H 66 (.q 0) (.N n ls)) (g1:CM F 59 [.N n ls,.s tb k,.i x] H (.s ib c) H0) (y6 y9 y14 y15 y29 y30 y49 y50 y51:HV:=Ud): RU F 43 522854 B43 (e43 n ls tb k y6 (.map mb) (.q sb) y9 (.func 64 [] [.q sb]) (.i x) y14 y15 y29 y30 (.s tb k) (.n k) (.n i) y49 y50 y51) H .normal (e43 n ls tb k y6 (.map mb) (.q sb) y9 (.func 64 [] [.q sb]) (.i x) y14 y15 y29 y30 (.s tb k) (.n k) (.n i) (.s ib c) (.n c) (.i 0)) H0 :=
 hx N 60 [jO 16 0 H g0,jD 16 3 g1]
theorem Qq4 (H:Heap) (tb k mb sb i ib c j:Nat) (x y a b w a2 b2 w2:Int) {H0:Heap} {H1:Heap} (g0:(j:Int)<(c:Int)) (g1:IS 24 ib c j) (g2:LD H 3 (.ptr ib j 0 c) (.i y)) (g3:LD H 22 (.ptr 0 0 1 1) (.g ls)) (g4:IX 22 (.g ls) (.i y) (.vptr (.agg [.i a,.i b,.i w]))) (g5:LD H 22 (.ptr 0 0 1 1) (.g ls)) (g6:IX 22 (.g ls) (.i x) (.vptr (.agg [.i a2,.i b2,.i w2]))) (g7:CN F N 64 [.i x,.i (qA.wrap (w-w2)),.q sb] H (.tuple []) H0) (g8:CN F N 64 [.i y,.i (qA.wrap (w-w2)),.q sb] H0 (.tuple []) H1) (y6 y9 y14 y15 y29 y30:HV:=Ud): RU F 43 2091420 B43 (e43 n ls tb k y6 (.map mb) (.q sb) y9 (.func 64 [] [.q sb]) (.i x) y14 y15 y29 y30 (.s tb k) (.n k) (.n i) (.s ib c) (.n c) (.n j)) H .normal (e43 n ls tb k y6 (.map mb) (.q sb) y9 (.func 64 [] [.q sb]) (.i x) (.i y) (.i (qA.wrap (w-w2))) y29 y30 (.s tb k) (.n k) (.n i) (.s ib c) (.n c) (.i (qA.wrap ((j:Int)+1)))) H1 :=
 hx N 60 [jT 17 0 H g0,jO 18 0 H g1,jO 18 1 H g2,jO 19 1 H g3,jO 19 3 H g4,jO 19 7 H g5,jO 19 9 H g6,jC 20 3 g7,jC 21 3 g8]
theorem Qq5 (H:Heap) (tb k mb sb i ib c j:Nat) (x y a b w a2 b2 w2:Int) (g0:¬((j:Int)<(c:Int))) (y6 y9 y14 y15 y29 y30:HV:=Ud): RU F 43 2091420 B43 (e43 n ls tb k y6 (.map mb) (.q sb) y9 (.func 64 [] [.q sb]) (.i x) y14 y15 y29 y30 (.s tb k) (.n k) (.n i) (.s ib c) (.n c) (.n j)) H (.exit 4) (e43 n ls tb k y6 (.map mb) (.q sb) y9 (.func 64 [] [.q sb]) (.i x) y14 y15 y29 y30 (.s tb k) (.n k) (.n i) (.s ib c) (.n c) (.n j)) H :=
 hx N 60 [jF 17 0 H g0]
theorem Qq6 (H:Heap) (tb k mb sb i:Nat) (y6 y9 y12 y14 y15 y29 y30 y49 y50 y51:HV:=Ud): RU F 43 32679 B43 (e43 n ls tb k y6 (.map mb) (.q sb) y9 (.func 64 [] [.q sb]) y12 y14 y15 y29 y30 (.s tb k) (.n k) (.n i) y49 y50 y51) H .normal (e43 n ls tb k y6 (.map mb) (.q sb) y9 (.func 64 [] [.q sb]) y12 y14 y15 y29 y30 (.s tb k) (.n k) (.i (qA.wrap ((i:Int)+1))) y49 y50 y51) H :=
 hx N 60 []
theorem Qq7 (H:Heap) (tb k mb sb ob m:Nat) (g0:LD H 24 (.q sb) (.o ob m)) (y6 y9 y12 y14 y15 y29 y30 y38 y39 y40 y49 y50 y51:HV:=Ud): RU F 43 511 B43 (e43 n ls tb k y6 (.map mb) (.q sb) y9 (.func 64 [] [.q sb]) y12 y14 y15 y29 y30 y38 y39 y40 y49 y50 y51) H .ret (Z5 (.N n ls) (.q 0) (.o ob m) (.map mb) (.bool true) (.s tb k) y6 (.map mb) (.q sb) y9 (.func 64 [] [.q sb]) y12 y14 y15 y29 y30 y38 y39 y40 y49 y50 y51) H :=
 hx N 60 [jO 24 0 H g0]
end
end Go.Proofs.Ytiejmoglooaalaa
end
