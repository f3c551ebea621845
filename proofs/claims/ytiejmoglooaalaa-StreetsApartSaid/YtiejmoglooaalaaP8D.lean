/- A part of the proof. -/
import Derived.Test.YtiejmoglooaalaaP8C
set_option linter.unusedVariables false
set_option linter.unusedSimpArgs false
set_option linter.unnecessarySimpa false
section
open Go Go.HL
namespace Go.Proofs.Ytiejmoglooaalaa
set_option linter.unusedSectionVars false
section
variable {l l':List St} (he:endB l=true) (he':endB l'=true) {t t':List Int} (ht:∀ k ∈ t,0 ≤ k∧k < (l.length:Int)) (ht':∀ k ∈ t',0 ≤ k∧k < (l'.length:Int)) (h:∀ u v:Int,Cn l t u v ↔ Cn l' t' u v)
include he he' ht ht' h
theorem lb_two {v:Int} (hv:0 ≤ v∧v < 16):lb l t v=lb l' t' v:=by
  have a1:=lb_lo he ht hv
  have b1:=lb_lo he' ht' hv
  have a2:=cn_lb he' ht' ((h _ _).1 (lb_cn he ht hv))
  have b2:=cn_lb he ht ((h _ _).2 (lb_cn he' ht' hv))
  have a3:=lb_lo he' ht' (lb_rng he ht hv)
  have b3:=lb_lo he ht (lb_rng he' ht' hv)
  omega
theorem rank_two:(tkT l t).length=(tkT l' t').length:=by
  have h1:=tk_rank he ht
  have h2:=tk_rank he' ht'
  have h3:rt (labT l t)=rt (labT l' t'):=by
    unfold rt
    refine congrArg _ (List.filter_congr fun v hv=>?_)
    have hv:=List.mem_range.1 hv
    have:=lb_two he he' ht ht' h (v:=(v:Int)) (by omega)
    unfold lb at this
    rw [Int.toNat_natCast] at this
    rw [this]
  omega
end
theorem drop_get {l:List St} {k:Int} (h:0 ≤ k):(l.drop 1).getD k.toNat (0,0,0)=l.getD (k+1).toNat (0,0,0):=by
  rw [show (k+1).toNat=k.toNat+1 by omega,List.getD,List.getD,List.getElem?_drop,Nat.add_comm 1]
theorem drop_cn {l:List St} {t:List Int} (ht:∀ k ∈ t,0 ≤ k) {u v:Int}:Cn (l.drop 1) t u v ↔ Cn l (t.map (·+1)) u v:=by
  constructor
  · intro h
    induction h with
    | refl v=>exact .refl v
    | edge hk=>rw [sA,sB,drop_get (ht _ hk)]; exact .edge (List.mem_map.2 ⟨_,hk,rfl⟩)
    | symm _ ih=>exact .symm ih
    | trans _ _ a b=>exact .trans a b
  · intro h
    induction h with
    | refl v=>exact .refl v
    | edge hk =>
      obtain ⟨k,hk2,rfl⟩:=List.mem_map.1 hk
      have e:=Cn.edge (l:=l.drop 1) hk2
      rw [sA,sB,drop_get (ht _ hk2)] at e
      exact e
    | symm _ ih=>exact .symm ih
    | trans _ _ a b=>exact .trans a b
theorem drop_wgt {l:List St}:∀ {t:List Int},(∀ k ∈ t,0 ≤ k) → wgt l (t.map (·+1))=wgt (l.drop 1) t
  | [],_=>rfl
  | k :: t,h=>by
    rw [List.map_cons,wgt_cons,wgt_cons,drop_wgt fun x hx=>h x (List.mem_cons_of_mem _ hx),wOf,wOf,drop_get (h k (List.mem_cons_self ..))]
theorem drop_tr {n:Int} {l:List St} (hnet:netB n l=true) (hnet':netB n (l.drop 1)=true) {t:List Int} (h:Tr n (l.drop 1) t):Tr n l (t.map (·+1)):=by
  have h0:∀ k ∈ t,0 ≤ k:=fun k hk=>(h.rg k hk).1
  have hr:∀ k ∈ t.map (·+1),0 ≤ k∧k < (l.length:Int):=fun k hk=>by
    obtain ⟨x,hx,rfl⟩:=List.mem_map.1 hk
    have:=h.rg x hx
    rw [List.length_drop] at this
    omega
  refine ⟨hr,?_,by rw [List.length_map]; exact h.ln,?_⟩
  · rw [List.Nodup,List.pairwise_map]
    exact h.nd.imp fun {a b} hab c=>hab (by omega)
  · rw [List.length_map,← h.fo]
    exact (rank_two (endB_net hnet') (endB_net hnet) h.rg hr fun u v=>drop_cn h0).symm
theorem drop_le {n:Int} {l:List St} (hnet:netB n l=true) (hnet':netB n (l.drop 1)=true) (hc':connB n (l.drop 1)=true):wgt l (frT l) ≤ wgt (l.drop 1) (frT (l.drop 1)):=by
  have hT:=fr_tr hnet' hc'
  rw [← drop_wgt fun k hk=>(hT.rg k hk).1]
  exact fr_min hnet (drop_tr hnet hnet' hT)
def crs (g:List Int) (s:St):Prop:=g.getD s.1.toNat 0 ≠ g.getD s.2.1.toNat 0
theorem mn_char (g:List Int):∀ (l:List St),(∀ s ∈ l,0 ≤ s.2.2) → (mnT g l=-1∧∀ s ∈ l,¬ crs g s) ∨ (0 ≤ mnT g l∧(∃ s ∈ l,crs g s∧mnT g l=s.2.2)∧∀ s ∈ l,crs g s → mnT g l ≤ s.2.2):=by
  have key:∀ (m:Nat) (l:List St),l.length=m → (∀ s ∈ l,0 ≤ s.2.2) → (mnT g l=-1∧∀ s ∈ l,¬ crs g s) ∨ (0 ≤ mnT g l∧(∃ s ∈ l,crs g s∧mnT g l=s.2.2)∧∀ s ∈ l,crs g s → mnT g l ≤ s.2.2):=by
    intro m
    induction m with
    | zero=>intro l h _; rw [List.length_eq_zero_iff.1 h]; exact .inl ⟨rfl,fun s hs=>by cases hs⟩
    | succ m ih =>
      intro l h hw
      rcases List.eq_nil_or_concat l with e | ⟨l',x,e⟩
      · rw [e] at h; simp at h
      · subst e
        rw [List.concat_eq_append] at h hw ⊢
        rw [List.length_append,List.length_singleton] at h
        have hx:=hw x (by simp)
        have ih:=ih l' (by omega) fun s hs=>hw s (List.mem_append_left _ hs)
        have e:mnT g (l' ++ [x])=mnS g (mnT g l') x:=by rw [mnT,List.foldl_append]; rfl
        rw [e,mnS]
        generalize mnT g l'=b at *
        by_cases c:crs g x
        · right
          by_cases d:b < 0 ∨ x.2.2 < b
          · rw [if_pos ⟨c,d⟩]
            refine ⟨hx,⟨x,by simp,c,rfl⟩,fun s hs hcs=>?_⟩
            rcases List.mem_append.1 hs with q | q
            · rcases ih with ⟨_,i2⟩ | ⟨i1,_,i3⟩
              · exact absurd hcs (i2 s q)
              · have:=i3 s q hcs; omega
            · rw [List.mem_singleton.1 q]; exact Int.le_refl _
          · rw [if_neg fun h=>d h.2]
            rcases ih with ⟨i1,_⟩ | ⟨i1,⟨y,y1,y2,y3⟩,i3⟩
            · exact absurd (.inl (by omega)) d
            · refine ⟨i1,⟨y,List.mem_append_left _ y1,y2,y3⟩,fun s hs hcs=>?_⟩
              rcases List.mem_append.1 hs with q | q
              · exact i3 s q hcs
              · rw [List.mem_singleton.1 q]; omega
        · rw [if_neg fun h=>c h.1]
          rcases ih with ⟨i1,i2⟩ | ⟨i1,⟨y,y1,y2,y3⟩,i3⟩
          · refine .inl ⟨i1,fun s hs=>?_⟩
            rcases List.mem_append.1 hs with q | q
            · exact i2 s q
            · rw [List.mem_singleton.1 q]; exact c
          · refine .inr ⟨i1,⟨y,List.mem_append_left _ y1,y2,y3⟩,fun s hs hcs=>?_⟩
            rcases List.mem_append.1 hs with q | q
            · exact i3 s q hcs
            · rw [List.mem_singleton.1 q] at hcs; exact absurd hcs c
  exact fun l=>key l.length l rfl
def rts (l:List St) (t:List Int) (n:Nat):List Nat:=(List.range n).filter fun (v:Nat)=>decide (lb l t (v:Int)=(v:Int))
theorem nodup_sub:∀ {a b:List Int},a.Nodup → (∀ x ∈ a,x ∈ b) → a.length ≤ b.length
  | [],b,_,_=>Nat.zero_le _
  | x :: a,b,ha,h=>by
    obtain ⟨h1,h2⟩:=List.nodup_cons.1 ha
    have hx:=h x (List.mem_cons_self ..)
    obtain ⟨p,q,rfl⟩:=List.append_of_mem hx
    have:=nodup_sub (a:=a) (b:=p ++ q) h2 fun y hy=>by
      have h3:=h y (List.mem_cons_of_mem _ hy)
      have hne:y ≠ x:=fun c=>h1 (c ▸ hy)
      simp only [List.mem_append,List.mem_cons] at h3 ⊢
      rcases h3 with c | c | c
      · exact .inl c
      · exact absurd c hne
      · exact .inr c
    simp only [List.length_append,List.length_cons] at this ⊢
    omega
section
variable {n:Int} {l:List St} (hnet:netB n l=true)
include hnet
theorem rts_len {t:List Int} (ht:∀ k ∈ t,0 ≤ k∧k < (l.length:Int)):((rts l t n.toNat).length:Int)+(tkT l t).length=n:=by
  have he:=endB_net hnet
  obtain ⟨⟨n1,n2⟩,_⟩:=netB_ends hnet
  have hE:∀ k,0 ≤ k∧k < (l.length:Int) → sA l k < n∧sB l k < n:=fun k hk=>by have:=ends_net hnet hk; omega
  have h1:=tk_rank he ht
  have h2:rt (labT l t)=(rts l t n.toNat).length+(16 - n.toNat):=by
    unfold rt rts
    have e:List.range 16=List.range n.toNat ++ (List.range (16 - n.toNat)).map (n.toNat+·):=by
      rw [← List.range_add]
      congr 1
      omega
    rw [e,List.filter_append,List.length_append]
    have e1:((List.range n.toNat).filter fun (v:Nat)=>decide ((labT l t).getD v 0=(v:Int)))=(List.range n.toNat).filter fun (v:Nat)=>decide (lb l t (v:Int)=(v:Int)) :=
      List.filter_congr fun v _=>by rw [lb,Int.toNat_natCast]
    rw [e1]
    congr 1
    have e2:((List.range (16 - n.toNat)).map (n.toNat+·)).filter (fun (v:Nat)=>decide ((labT l t).getD v 0=(v:Int)))=(List.range (16 - n.toNat)).map (n.toNat+·):=List.filter_eq_self.2 fun v hv=>by
      obtain ⟨x,hx,rfl⟩:=List.mem_map.1 hv
      have hx:=List.mem_range.1 hx
      have hr:0 ≤ ((n.toNat+x:Nat):Int)∧((n.toNat+x:Nat):Int) < 16:=by omega
      have h4:=lb_lo he ht hr
      have h5:=cn_out hE ht (lb_cn he ht hr)
      have h6:lb l t ((n.toNat+x:Nat):Int)=((n.toNat+x:Nat):Int):=by omega
      unfold lb at h6
      rw [Int.toNat_natCast] at h6
      exact decide_eq_true h6
    rw [e2,List.length_map,List.length_range]
  omega
theorem groups_le {t:List Int} (ht:∀ k ∈ t,0 ≤ k∧k < (l.length:Int)) {g:Int → Int} (hg:∀ k ∈ t,g (sA l k)=g (sB l k)) {us:List Int} (hu:us.Nodup) (hv:∀ x ∈ us,∃ v,(0 ≤ v∧v < n)∧g v=x):us.length ≤ (rts l t n.toNat).length:=by
  have he:=endB_net hnet
  obtain ⟨⟨n1,n2⟩,_⟩:=netB_ends hnet
  have hcn:∀ u v:Int,Cn l t u v → g u=g v:=fun u v h=>by
    induction h with
    | refl v=>rfl
    | edge hk=>exact hg _ hk
    | symm _ ih=>exact ih.symm
    | trans _ _ a b=>exact a.trans b
  have:=nodup_sub (a:=us) (b:=(rts l t n.toNat).map fun (r:Nat)=>g (r:Int)) hu fun x hx=>by
    obtain ⟨v,hv1,hv2⟩:=hv x hx
    have h1:=lb_lo he ht (v:=v) (by omega)
    refine List.mem_map.2 ⟨(lb l t v).toNat,List.mem_filter.2 ⟨List.mem_range.2 (by omega),decide_eq_true ?_⟩,?_⟩
    · rw [show (((lb l t v).toNat:Nat):Int)=lb l t v by omega]; exact h1.2.2
    · rw [show (((lb l t v).toNat:Nat):Int)=lb l t v by omega,hcn _ _ (lb_cn he ht (v:=v) (by omega)),hv2]
  rwa [List.length_map] at this
end
theorem grp_get {n:Nat} {l:List St} {t:List Int} {v:Nat} (hv:v < n) (h16:n ≤ 16):(grpT n l t).getD v 0=lb l t (v:Int):=by
  simp [grpT,lb,List.getD,hv]
section
variable {n:Int} {l:List St} (hnet:netB n l=true) (hc:connB n l=true) {k:Int} (hk:1 ≤ k∧k ≤ n)
include hnet hc hk
theorem pre_in:∀ x ∈ (treeT l).take (n - k).toNat,0 ≤ x∧x < (l.length:Int):=fun x hx=>tree_in (List.mem_of_mem_take hx)
theorem pre_len:((treeT l).take (n - k).toNat).length=(n - k).toNat:=by
  have:=tree_len hnet hc
  rw [List.length_take]; omega
theorem pre_rank:(tkT l ((treeT l).take (n - k).toNat)).length=(n - k).toNat:=by
  have hT:=first_tr hnet hc
  have h:=sub_forest (endB_net hnet) hT.rg hT.fo (s:=(treeT l).take (n - k).toNat) (r:=(treeT l).drop (n - k).toNat) (fun x=>by rw [List.take_append_drop]) (by rw [← List.length_append,List.take_append_drop])
  rw [h,pre_len hnet hc hk]
theorem pre_rts:((rts l ((treeT l).take (n - k).toNat) n.toNat).length:Int)=k:=by
  have h1:=rts_len hnet (pre_in hnet hc hk)
  have h2:=pre_rank hnet hc hk
  omega
theorem pre_light {j:Int} (hj:0 ≤ j∧j < (l.length:Int)) (hx:lb l ((treeT l).take (n - k).toNat) (sA l j) ≠ lb l ((treeT l).take (n - k).toNat) (sB l j)):∀ p ∈ (treeT l).take (n - k).toNat,wOf l p ≤ wOf l j:=by
  have he:=endB_net hnet
  intro p hp
  have hP:=pre_in hnet hc hk
  have hpr:=hP p hp
  obtain ⟨a,ha,hpa⟩:=pos_of hnet hpr
  obtain ⟨b,hb,hpb⟩:=pos_of hnet hj
  rcases Nat.lt_or_ge b a with c | c
  · exfalso
    -- what is taken before b lies in the prefix
    have hsub:∀ x ∈ tkT l ((ordT l).take (b+1)),x ∈ (treeT l).take (n - k).toNat:=by
      intro x hx
      obtain ⟨r,hr⟩:∃ r,treeT l=tkT l ((ordT l).take a) ++ r:=by
        have:∀ d,a+d ≤ (ordT l).length → ∃ r,tkT l ((ordT l).take (a+d))=tkT l ((ordT l).take a) ++ r:=by
          intro d
          induction d with
          | zero=>intro _; exact ⟨[],by simp⟩
          | succ d ih =>
            intro h
            obtain ⟨r,hr⟩:=ih (by omega)
            rw [show a+(d+1)=(a+d)+1 by omega,tkT_succ l (ordT l) (by omega),hr]
            split
            · exact ⟨r ++ [(ordT l).getD (a+d) 0],by rw [List.append_assoc]⟩
            · exact ⟨r,rfl⟩
        obtain ⟨r,hr⟩:=this ((ordT l).length - a) (by omega)
        rw [show a+((ordT l).length - a)=(ordT l).length by omega,List.take_length] at hr
        exact ⟨r,hr⟩
      have hxa:x ∈ tkT l ((ordT l).take a):=by
        have:=tk_mono l (ordT l) (i:=b+1) (a - (b+1)) (by omega) x hx
        rwa [show b+1+(a - (b+1))=a by omega] at this
      have hpn:p ∉ tkT l ((ordT l).take a):=fun h=>by
        have h2:p ∈ (ordT l).take a:=(tk_sublist l (ordT l) a (by omega)).subset h
        exact getD_notin' (ordT_nodup l) ha (hpa ▸ h2)
      rw [hr] at hp ⊢
      rw [List.take_append] at hp ⊢
      rcases Nat.lt_or_ge (n - k).toNat (tkT l ((ordT l).take a)).length with q | q
      · exfalso
        rw [show (n - k).toNat - (tkT l ((ordT l).take a)).length=0 by omega,List.take_zero,List.append_nil] at hp
        exact hpn (List.mem_of_mem_take hp)
      · rw [List.take_of_length_le q]
        exact List.mem_append_left _ hxa
    refine hx (cn_lb he hP ?_)
    by_cases d:j ∈ treeT l
    · refine Cn.edge (hsub j ?_)
      have hjt:=d
      rw [tkT_succ l (ordT l) hb,hpb]
      split
      · exact List.mem_append_right _ (List.mem_singleton_self _)
      · rename_i hne
        exfalso
        -- a street that does not join is not taken
        have key:∀ e,b+1+e ≤ (ordT l).length → j ∉ tkT l ((ordT l).take (b+1+e)):=by
          intro e
          induction e with
          | zero =>
            intro _ h
            rw [Nat.add_zero,tkT_succ l (ordT l) hb,hpb,if_neg hne] at h
            have h2:j ∈ (ordT l).take b:=(tk_sublist l (ordT l) b (by omega)).subset h
            exact getD_notin' (ordT_nodup l) hb (hpb ▸ h2)
          | succ e ih =>
            intro h h2
            rw [show b+1+(e+1)=(b+1+e)+1 by omega,tkT_succ l (ordT l) (by omega)] at h2
            split at h2
            · rcases List.mem_append.1 h2 with q | q
              · exact ih (by omega) q
              · have q:=List.mem_singleton.1 q
                have h3:(ordT l).getD b 0 ≠ (ordT l).getD (b+1+e) 0:=by
                  rw [getD_at hb,getD_at (by omega)]
                  exact List.pairwise_iff_getElem.1 (ordT_nodup l) b (b+1+e) hb (by omega) (by omega)
                exact h3 (hpb.trans q)
            · exact ih (by omega) h2
        have:=key ((ordT l).length - (b+1)) (by omega)
        rw [show b+1+((ordT l).length - (b+1))=(ordT l).length by omega,List.take_length] at this
        exact this hjt
    · refine (late hnet hj d hb hpb).mono fun x hx=>hsub x ?_
      exact tk_mono l (ordT l) (i:=b) 1 (by omega) x hx
  · have:=ord_le hnet c hb
    rw [hpa,hpb] at this
    exact this
theorem apart_le {g:List Int} {us:List Int} (hu:us.Nodup) (hlen:(us.length:Int)=k) (hv:∀ x ∈ us,∃ v,(0 ≤ v∧v < n)∧g.getD v.toNat 0=x) (hall:∀ v,0 ≤ v → v < n → g.getD v.toNat 0 ∈ us):¬ (mnT (gpT n l k) l < mnT g l):=by
  have he:=endB_net hnet
  obtain ⟨⟨n1,n2⟩,n3,_,hw⟩:=netB_ends hnet
  have hw0:∀ s ∈ l,0 ≤ s.2.2:=fun s hs=>(hw s hs).1
  intro hlt
  have hP:=pre_in hnet hc hk
  -- a street of the net is given by its number
  have num:∀ s ∈ l,∃ j,(0 ≤ j∧j < (l.length:Int))∧l.getD j.toNat (0,0,0)=s:=fun s hs=>by
    obtain ⟨i,hi,rfl⟩:=List.getElem_of_mem hs
    exact ⟨(i:Int),by omega,by rw [Int.toNat_natCast,getD_at hi]⟩
  have gG:∀ v,0 ≤ v → v < n → (gpT n l k).getD v.toNat 0=lb l ((treeT l).take (n - k).toNat) v:=fun v h0 h1=>by
    have:=grp_get (n:=n.toNat) (l:=l) (t:=(treeT l).take (n - k).toNat) (v:=v.toNat) (by omega) (by omega)
    rw [show ((v.toNat:Nat):Int)=v by omega] at this
    exact this
  rcases mn_char g l hw0 with ⟨m1,_⟩ | ⟨m1,_,m3⟩
  · rcases mn_char (gpT n l k) l hw0 with ⟨q,_⟩ | ⟨q,_⟩ <;> omega
  · have notc:∀ j,0 ≤ j∧j < (l.length:Int) → wOf l j ≤ mnT (gpT n l k) l → g.getD (sA l j).toNat 0=g.getD (sB l j).toNat 0:=fun j hj hwj=>by
      by_cases c:g.getD (sA l j).toNat 0=g.getD (sB l j).toNat 0
      · exact c
      · exfalso
        have:=m3 (l.getD j.toNat (0,0,0)) (mem_getD _ (by omega)) c
        have e:wOf l j=(l.getD j.toNat (0,0,0)).2.2:=rfl
        omega
    rcases mn_char (gpT n l k) l hw0 with ⟨q1,q2⟩ | ⟨q1,⟨s,s1,s2,s3⟩,q3⟩
    · -- no street between the groups: there is one
      have hall':∀ v,0 ≤ v → v < n → lb l ((treeT l).take (n - k).toNat) v=lb l ((treeT l).take (n - k).toNat) 0:=fun v h0 h1=>by
        have hT:∀ u w:Int,Cn l (treeT l) u w → (lb l ((treeT l).take (n - k).toNat) u=lb l ((treeT l).take (n - k).toNat) w):=fun u w h=>by
          induction h with
          | refl v=>rfl
          | @edge j hj =>
            have hjr:=tree_in hj
            have e:=ends_net hnet hjr
            have:=q2 (l.getD j.toNat (0,0,0)) (mem_getD _ (by omega))
            unfold crs at this
            have h3:=Decidable.not_not.1 this
            rw [show (l.getD j.toNat (0,0,0)).1=sA l j from rfl,show (l.getD j.toNat (0,0,0)).2.1=sB l j from rfl,gG _ e.1.1 e.1.2,gG _ e.2.1.1 e.2.1.2] at h3
            exact h3
          | symm _ ih=>exact ih.symm
          | trans _ _ a b=>exact a.trans b
        exact hT _ _ (conn_cn hnet hc ⟨h0,h1⟩ ⟨Int.le_refl _,by omega⟩)
      have hz:=lb_zero hnet hP
      have h1:=pre_rts hnet hc hk
      have h2:(rts l ((treeT l).take (n - k).toNat) n.toNat).length ≤ 1:=by
        have:∀ r ∈ rts l ((treeT l).take (n - k).toNat) n.toNat,r=0:=fun r hr=>by
          obtain ⟨r1,r2⟩:=List.mem_filter.1 hr
          have r1:=List.mem_range.1 r1
          have r2:=of_decide_eq_true r2
          have:=hall' (r:Int) (by omega) (by omega)
          omega
        have hnd:(rts l ((treeT l).take (n - k).toNat) n.toNat).Nodup:=List.nodup_range.sublist List.filter_sublist
        match hr:rts l ((treeT l).take (n - k).toNat) n.toNat with
        | []=>simp
        | [a]=>simp
        | a :: b :: r =>
          rw [hr] at this hnd
          have ha:=this a (by simp)
          have hb:=this b (by simp)
          simp [ha,hb] at hnd
      -- then all have the same number
      obtain ⟨x,hx⟩:∃ x,us=[x]:=by
        match hus:us with
        | []=>simp [hus] at hlen; omega
        | [x]=>exact ⟨x,rfl⟩
        | a :: b :: r=>simp [hus] at hlen; omega
      have hcst:∀ v,0 ≤ v → v < n → g.getD v.toNat 0=x:=fun v h0 h1=>by have:=hall v h0 h1; rw [hx] at this; exact List.mem_singleton.1 this
      rcases mn_char g l hw0 with ⟨z1,_⟩ | ⟨_,⟨s,s1,s2,_⟩,_⟩
      · omega
      · obtain ⟨j,hj,rfl⟩:=num s s1
        have e:=ends_net hnet hj
        refine s2 ?_
        rw [show (l.getD j.toNat (0,0,0)).1=sA l j from rfl,show (l.getD j.toNat (0,0,0)).2.1=sB l j from rfl,hcst _ e.1.1 e.1.2,hcst _ e.2.1.1 e.2.1.2]
    · obtain ⟨j,hj,rfl⟩:=num s s1
      have e:=ends_net hnet hj
      have hx:lb l ((treeT l).take (n - k).toNat) (sA l j) ≠ lb l ((treeT l).take (n - k).toNat) (sB l j):=by
        rw [← gG _ e.1.1 e.1.2,← gG _ e.2.1.1 e.2.1.2]; exact s2
      have hw1:=pre_light hnet hc hk hj hx
      have hq:∀ y ∈ (treeT l).take (n - k).toNat ++ [j],0 ≤ y∧y < (l.length:Int):=fun y hy=>(List.mem_append.1 hy).elim (hP y) fun c=>(List.mem_singleton.1 c) ▸ hj
      have ej:wOf l j=mnT (gpT n l k) l:=s3.symm
      have h1:=groups_le hnet hq (g:=fun v=>g.getD v.toNat 0) (us:=us) (fun y hy=>by
        rcases List.mem_append.1 hy with c | c
        · exact notc y (hP y c) (by have:=hw1 y c; omega)
        · rw [List.mem_singleton.1 c]; exact notc j hj (by omega)) hu hv
      have h2:=rts_len hnet hq
      have h3:=pre_rank hnet hc hk
      have h4:=tk_snoc l ((treeT l).take (n - k).toNat) j
      rw [if_pos (show (labT l ((treeT l).take (n - k).toNat)).getD (sA l j).toNat 0 ≠ (labT l ((treeT l).take (n - k).toNat)).getD (sB l j).toNat 0 from hx)] at h4
      rw [h4,List.length_append,List.length_singleton,h3] at h2
      omega
end
end Go.Proofs.Ytiejmoglooaalaa
end
section
open Go Go.HL
namespace Go.Proofs.Ytiejmoglooaalaa
set_option maxRecDepth 100000
open Go.Proofs.Try renaming prog → Tp
open Go.HL.HV renaming undef → Ud
section
variable {F:FuncId → Option (List HV → Option HV)}
noncomputable def B14:Code:=Try.f14.body.getD .skip
abbrev env14 (v0 v1 v4 v5 v6 v7 v8 v9:HV):Env:=[(0,v0),(1,v1),(4,v4),(5,v5),(6,v6),(7,v7),(8,v8),(9,v9)]
theorem te_a_0 (N:Nat) (n:Int) (ls:List HV) :RunsTo Tp (plF F) 14 (sub [0] B14) [(0,.i n),(1,.imm .arg 3 ls)] [] .normal ((plF F).keys 14) (env14 (.i n) (.imm .arg 3 ls) (.imm .lit 1 []) (.i 0) (.i 0) Ud Ud Ud) [] :=
  RunsTo.hin N 60 [] fun kf hk=>⟨_,by kernel_rfl,.nil⟩
theorem te_b_0 (N:Nat) (n:Int) (ls:List HV)  {y7 y8 y9:HV} {H0:Heap} {a0:HV} {H1:Heap} {H2:Heap} (g0:∀ kf,N ≤ kf → callN Tp (plF F) (kf+1) 39 [.i n,.imm .arg 3 ls] []=some (.tuple [.agg [.i n,.imm .arg 3 ls],.bool true],H0)) (g1:some (newV (.agg [.i 0,.imm .lit 0 []]) H0)=some (a0,H1)) (g2:storeV Tp H1 66 (a0) (.agg [.i n,.imm .arg 3 ls])=some H2):RunsTo Tp (plF F) 14 (sub [1,0] B14) (env14 (.i n) (.imm .arg 3 ls) (.imm .lit 1 []) (.i 0) (.i 0) y7 y8 y9) [] .normal ((plF F).keys 14) (env14 (.i n) (.imm .arg 3 ls) (.imm .lit 1 []) (.i 0) (.i 0) a0 (.bool true) y9) H2 :=
  RunsTo.hin N 60 [⟨1,2,.tuple [.agg [.i n,.imm .arg 3 ls],.bool true],H0⟩,⟨1,6,a0,H1⟩,⟨1,7,.tuple [],H2⟩] fun kf hk=>⟨_,by kernel_rfl,(oC (g0 kf (by omega)) (oC (g1) (oS g2 .nil)))⟩
theorem te_b_1 (N:Nat) (n:Int) (ls:List HV)  {y7 y8 y9:HV} {H0:Heap} {a0:HV} {H1:Heap} {H2:Heap} (g0:∀ kf,N ≤ kf → callN Tp (plF F) (kf+1) 39 [.i n,.imm .arg 3 ls] []=some (.tuple [.agg [.i n,.imm .arg 3 ls],.bool false],H0)) (g1:some (newV (.agg [.i 0,.imm .lit 0 []]) H0)=some (a0,H1)) (g2:storeV Tp H1 66 (a0) (.agg [.i n,.imm .arg 3 ls])=some H2):RunsTo Tp (plF F) 14 (sub [1,0] B14) (env14 (.i n) (.imm .arg 3 ls) (.imm .lit 1 []) (.i 0) (.i 0) y7 y8 y9) [] .normal ((plF F).keys 14) (env14 (.i n) (.imm .arg 3 ls) (.imm .lit 1 []) (.i 0) (.i 0) a0 (.bool false) y9) H2 :=
  RunsTo.hin N 60 [⟨1,2,.tuple [.agg [.i n,.imm .arg 3 ls],.bool false],H0⟩,⟨1,6,a0,H1⟩,⟨1,7,.tuple [],H2⟩] fun kf hk=>⟨_,by kernel_rfl,(oC (g0 kf (by omega)) (oC (g1) (oS g2 .nil)))⟩
theorem te_ct_0 (N:Nat) (n:Int) (ls:List HV) (H:Heap) {y9:HV}:RunsTo Tp (plF F) 14 (sub [1,1,0] B14) (env14 (.i n) (.imm .arg 3 ls) (.imm .lit 1 []) (.i 0) (.i 0) (.ptr 0 0 0 1) (.bool true) y9) H .normal ((plF F).keys 14) (env14 (.i n) (.imm .arg 3 ls) (.imm .lit 1 []) (.i 0) (.i 0) (.ptr 0 0 0 1) (.bool true) y9) H :=
  RunsTo.hin N 60 [] fun kf hk=>⟨_,by kernel_rfl,.nil⟩
theorem te_cf_0 (N:Nat) (n:Int) (ls:List HV) (H:Heap) {y9:HV}:RunsTo Tp (plF F) 14 (sub [1,1,0] B14) (env14 (.i n) (.imm .arg 3 ls) (.imm .lit 1 []) (.i 0) (.i 0) (.ptr 0 0 0 1) (.bool false) y9) H .ret ((plF F).keys 14) (env14 (.i n) (.imm .arg 3 ls) (.imm .lit 1 []) (.i 0) (.i 2) (.ptr 0 0 0 1) (.bool false) y9) H :=
  RunsTo.hin N 60 [] fun kf hk=>⟨_,by kernel_rfl,.nil⟩
theorem te_d_0 (N:Nat) (n:Int) (ls:List HV) (H:Heap) (tb m:Nat) {y9:HV} {H0:Heap} (g0:loadV Tp H 66 (.ptr 0 0 0 1)=some (.agg [.i n,.imm .arg 3 ls])) (g1:∀ kf,callN Tp (plF F) (kf+1) 40 [.agg [.i n,.imm .arg 3 ls]] H=some (.tuple [.s tb m,.bool true],H0)):RunsTo Tp (plF F) 14 (sub [1,1,1,0] B14) (env14 (.i n) (.imm .arg 3 ls) (.imm .lit 1 []) (.i 0) (.i 0) (.ptr 0 0 0 1) (.bool true) y9) H .normal ((plF F).keys 14) (env14 (.i n) (.imm .arg 3 ls) (.imm .lit 1 []) (.i 0) (.i 0) (.ptr 0 0 0 1) (.bool true) (.s tb m)) H0 :=
  RunsTo.hin N 60 [⟨4,0,.agg [.i n,.imm .arg 3 ls],H⟩,⟨4,1,.tuple [.s tb m,.bool true],H0⟩] fun kf hk=>⟨_,by kernel_rfl,(oP H g0 (oC (g1 kf) .nil))⟩
theorem te_d_1 (N:Nat) (n:Int) (ls:List HV) (H:Heap) (tb m:Nat) {y9:HV} {H0:Heap} (g0:loadV Tp H 66 (.ptr 0 0 0 1)=some (.agg [.i n,.imm .arg 3 ls])) (g1:∀ kf,callN Tp (plF F) (kf+1) 40 [.agg [.i n,.imm .arg 3 ls]] H=some (.tuple [.s tb m,.bool false],H0)):RunsTo Tp (plF F) 14 (sub [1,1,1,0] B14) (env14 (.i n) (.imm .arg 3 ls) (.imm .lit 1 []) (.i 0) (.i 0) (.ptr 0 0 0 1) (.bool true) y9) H .normal ((plF F).keys 14) (env14 (.i n) (.imm .arg 3 ls) (.imm .lit 1 []) (.i 0) (.i 0) (.ptr 0 0 0 1) (.bool false) (.s tb m)) H0 :=
  RunsTo.hin N 60 [⟨4,0,.agg [.i n,.imm .arg 3 ls],H⟩,⟨4,1,.tuple [.s tb m,.bool false],H0⟩] fun kf hk=>⟨_,by kernel_rfl,(oP H g0 (oC (g1 kf) .nil))⟩
theorem te_et_0 (N:Nat) (n:Int) (ls:List HV) (H:Heap) (tb m:Nat):RunsTo Tp (plF F) 14 (sub [1,1,1,1,0] B14) (env14 (.i n) (.imm .arg 3 ls) (.imm .lit 1 []) (.i 0) (.i 0) (.ptr 0 0 0 1) (.bool true) (.s tb m)) H .normal ((plF F).keys 14) (env14 (.i n) (.imm .arg 3 ls) (.imm .lit 1 []) (.i 0) (.i 0) (.ptr 0 0 0 1) (.bool true) (.s tb m)) H :=
  RunsTo.hin N 60 [] fun kf hk=>⟨_,by kernel_rfl,.nil⟩
theorem te_ef_0 (N:Nat) (n:Int) (ls:List HV) (H:Heap) (tb m:Nat):RunsTo Tp (plF F) 14 (sub [1,1,1,1,0] B14) (env14 (.i n) (.imm .arg 3 ls) (.imm .lit 1 []) (.i 0) (.i 0) (.ptr 0 0 0 1) (.bool false) (.s tb m)) H .ret ((plF F).keys 14) (env14 (.i n) (.imm .arg 3 ls) (.imm .lit 1 []) (.i 0) (.i 6) (.ptr 0 0 0 1) (.bool false) (.s tb m)) H :=
  RunsTo.hin N 60 [] fun kf hk=>⟨_,by kernel_rfl,.nil⟩
theorem te_z_0 (N:Nat) (n:Int) (ls:List HV) (H:Heap) (tb m:Nat) (w:Int) {H0:Heap} {H1:Heap} (g0:∀ kf,N ≤ kf → callN Tp (plF F) (kf+1) 41 [.s tb m] H=some (.tuple [],H0)) (g1:loadV Tp H0 66 (.ptr 0 0 0 1)=some (.agg [.i n,.imm .arg 3 ls])) (g2:∀ kf,callN Tp (plF F) (kf+1) 42 [.agg [.i n,.imm .arg 3 ls],.s tb m] H0=some (.i w,H1)):RunsTo Tp (plF F) 14 (sub [1,1,1,1,1] B14) (env14 (.i n) (.imm .arg 3 ls) (.imm .lit 1 []) (.i 0) (.i 0) (.ptr 0 0 0 1) (.bool true) (.s tb m)) H .ret ((plF F).keys 14) (env14 (.i n) (.imm .arg 3 ls) (.s tb m) (.i w) (.i 0) (.ptr 0 0 0 1) (.bool true) (.s tb m)) H1 :=
  RunsTo.hin N 60 [⟨7,1,.tuple [],H0⟩,⟨8,1,.agg [.i n,.imm .arg 3 ls],H0⟩,⟨8,3,.i w,H1⟩] fun kf hk=>⟨_,by kernel_rfl,(oC (g0 kf (by omega)) (oP H0 g1 (oC (g2 kf) .nil)))⟩
end
end Go.Proofs.Ytiejmoglooaalaa
end
section
open Go Go.HL
namespace Go.Proofs.Ytiejmoglooaalaa
set_option maxRecDepth 100000
open Go.Proofs.Try renaming prog → Tp
open Go.HL.HV renaming undef → Ud
section
variable {F:FuncId → Option (List HV → Option HV)}
noncomputable def B81:Code:=Try.f81.body.getD .skip
abbrev env81 (v0 v1 v4:HV):Env:=[(0,v0),(1,v1),(4,v4)]
theorem le_a_0 (x y:Int) (H:Heap) {H0:Heap} (g0:∀ kf,callN Tp (plF F) (kf+1) 89 [.i x] H=some (.bool false,H0)) (g1:x < y):RunsTo Tp (plF F) 81 (sub [] B81) [(0,.i x),(1,.i y)] H .ret ((plF F).keys 81) (env81 (.i x) (.i y) (.bool true)) H0 :=
  RunsTo.hin 0 60 [⟨1,1,.bool false,H0⟩,⟨1,10,.bool true,H0⟩] fun kf hk=>⟨_,by kernel_rfl,(oC (g0 kf) (oB H0 (decide_eq_true g1) .nil))⟩
theorem le_a_1 (x y:Int) (H:Heap) {H0:Heap} (g0:∀ kf,callN Tp (plF F) (kf+1) 89 [.i x] H=some (.bool false,H0)) (g1:¬ (x < y)):RunsTo Tp (plF F) 81 (sub [] B81) [(0,.i x),(1,.i y)] H .ret ((plF F).keys 81) (env81 (.i x) (.i y) (.bool false)) H0 :=
  RunsTo.hin 0 60 [⟨1,1,.bool false,H0⟩,⟨1,10,.bool false,H0⟩] fun kf hk=>⟨_,by kernel_rfl,(oC (g0 kf) (oB H0 (decide_eq_false g1) .nil))⟩
noncomputable def B75:Code:=Try.f75.body.getD .skip
abbrev env75 (v0 v1 v2 v6 v7:HV):Env:=[(0,v0),(1,v1),(2,v2),(6,v6),(7,v7)]
theorem ii_a_0 (db n:Nat) (H:Heap):RunsTo Tp (plF F) 75 (sub [0] B75) [(0,.s db n),(1,.i 0),(2,.i (n:Int))] H .normal ((plF F).keys 75) (env75 (.s db n) (.i 0) (.i (n:Int)) (.i 1) Ud) H :=
  RunsTo.hin 0 60 [] fun kf hk=>⟨_,by kernel_rfl,.nil⟩
theorem ii_b_0 (db n:Nat) (H:Heap) (i:Nat) {y7:HV}(g0:(i:Int) < (n:Int)):RunsTo Tp (plF F) 75 (sub [1,0,0,0] B75) (env75 (.s db n) (.i 0) (.i (n:Int)) (.i (i:Int)) y7) H .normal ((plF F).keys 75) (env75 (.s db n) (.i 0) (.i (n:Int)) (.i (i:Int)) y7) H :=
  RunsTo.hin 0 60 [⟨1,2,.bool true,H⟩] fun kf hk=>⟨_,by kernel_rfl,(oB H (decide_eq_true g0) .nil)⟩
theorem ii_b_1 (db n:Nat) (H:Heap) (i:Nat) {y7:HV}(g0:¬ ((i:Int) < (n:Int))):RunsTo Tp (plF F) 75 (sub [1,0,0,0] B75) (env75 (.s db n) (.i 0) (.i (n:Int)) (.i (i:Int)) y7) H (.exit 0) ((plF F).keys 75) (env75 (.s db n) (.i 0) (.i (n:Int)) (.i (i:Int)) y7) H :=
  RunsTo.hin 0 60 [⟨1,2,.bool false,H⟩] fun kf hk=>⟨_,by kernel_rfl,(oB H (decide_eq_false g0) .nil)⟩
theorem ii_c_0 (db n:Nat) (H:Heap) (i:Nat) {y7:HV}:RunsTo Tp (plF F) 75 (sub [1,0,0,1,0,0,0] B75) (env75 (.s db n) (.i 0) (.i (n:Int)) (.i (i:Int)) y7) H .normal ((plF F).keys 75) (env75 (.s db n) (.i 0) (.i (n:Int)) (.i (i:Int)) (.i (i:Int))) H :=
  RunsTo.hin 0 60 [] fun kf hk=>⟨_,by kernel_rfl,.nil⟩
theorem ii_d_0 (db n:Nat) (H:Heap) (i j:Nat) (x y:Int) {H0:Heap} {H1:Heap} {H2:Heap} (g0:0 < (j:Int)) (g1:idxV Tp 24 (.s db n) (.i (j:Int))=some (.ptr db j 0 n)) (g2:loadV Tp H 3 (.ptr db j 0 n)=some (.i x)) (g3:idxV Tp 24 (.s db n) (.i (IntKind.i64.wrap ((j:Int) - 1)))=some (.ptr db ((IntKind.i64.wrap ((j:Int) - 1)).toNat) 0 n)) (g4:loadV Tp H 3 (.ptr db ((IntKind.i64.wrap ((j:Int) - 1)).toNat) 0 n)=some (.i y)) (g5:∀ kf,callN Tp (plF F) (kf+1) 81 [.i x,.i y] H=some (.bool true,H0)) (g6:idxV Tp 24 (.s db n) (.i (IntKind.i64.wrap ((j:Int) - 1)))=some (.ptr db ((IntKind.i64.wrap ((j:Int) - 1)).toNat) 0 n)) (g7:loadV Tp H0 3 (.ptr db ((IntKind.i64.wrap ((j:Int) - 1)).toNat) 0 n)=some (.i y)) (g8:idxV Tp 24 (.s db n) (.i (j:Int))=some (.ptr db j 0 n)) (g9:loadV Tp H0 3 (.ptr db j 0 n)=some (.i x)) (g10:idxV Tp 24 (.s db n) (.i (j:Int))=some (.ptr db j 0 n)) (g11:storeV Tp H0 3 (.ptr db j 0 n) (.i y)=some H1) (g12:idxV Tp 24 (.s db n) (.i (IntKind.i64.wrap ((j:Int) - 1)))=some (.ptr db ((IntKind.i64.wrap ((j:Int) - 1)).toNat) 0 n)) (g13:storeV Tp H1 3 (.ptr db ((IntKind.i64.wrap ((j:Int) - 1)).toNat) 0 n) (.i x)=some H2):RunsTo Tp (plF F) 75 (sub [1,0,0,1,0,0,1,0,0] B75) (env75 (.s db n) (.i 0) (.i (n:Int)) (.i (i:Int)) (.i (j:Int))) H .normal ((plF F).keys 75) (env75 (.s db n) (.i 0) (.i (n:Int)) (.i (i:Int)) (.i (IntKind.i64.wrap ((j:Int) - 1)))) H2 :=
  RunsTo.hin 0 60 [⟨4,2,.bool true,H⟩,⟨4,6,.ptr db j 0 n,H⟩,⟨4,7,.i x,H⟩,⟨4,11,.ptr db ((IntKind.i64.wrap ((j:Int) - 1)).toNat) 0 n,H⟩,⟨4,12,.i y,H⟩,⟨4,13,.bool true,H0⟩,⟨6,8,.ptr db ((IntKind.i64.wrap ((j:Int) - 1)).toNat) 0 n,H0⟩,⟨6,9,.i y,H0⟩,⟨6,12,.ptr db j 0 n,H0⟩,⟨6,13,.i x,H0⟩,⟨6,14,.ptr db j 0 n,H0⟩,⟨6,15,.tuple [],H1⟩,⟨6,16,.ptr db ((IntKind.i64.wrap ((j:Int) - 1)).toNat) 0 n,H1⟩,⟨6,17,.tuple [],H2⟩] fun kf hk=>⟨_,by kernel_rfl,(oB H (decide_eq_true g0) (oP H g1 (oP H g2 (oP H g3 (oP H g4 (oC (g5 kf) (oP H0 g6 (oP H0 g7 (oP H0 g8 (oP H0 g9 (oP H0 g10 (oS g11 (oP H1 g12 (oS g13 .nil))))))))))))))⟩
theorem ii_d_1 (db n:Nat) (H:Heap) (i j:Nat) (x y:Int) {H0:Heap} (g0:0 < (j:Int)) (g1:idxV Tp 24 (.s db n) (.i (j:Int))=some (.ptr db j 0 n)) (g2:loadV Tp H 3 (.ptr db j 0 n)=some (.i x)) (g3:idxV Tp 24 (.s db n) (.i (IntKind.i64.wrap ((j:Int) - 1)))=some (.ptr db ((IntKind.i64.wrap ((j:Int) - 1)).toNat) 0 n)) (g4:loadV Tp H 3 (.ptr db ((IntKind.i64.wrap ((j:Int) - 1)).toNat) 0 n)=some (.i y)) (g5:∀ kf,callN Tp (plF F) (kf+1) 81 [.i x,.i y] H=some (.bool false,H0)):RunsTo Tp (plF F) 75 (sub [1,0,0,1,0,0,1,0,0] B75) (env75 (.s db n) (.i 0) (.i (n:Int)) (.i (i:Int)) (.i (j:Int))) H (.exit 2) ((plF F).keys 75) (env75 (.s db n) (.i 0) (.i (n:Int)) (.i (i:Int)) (.i (j:Int))) H0 :=
  RunsTo.hin 0 60 [⟨4,2,.bool true,H⟩,⟨4,6,.ptr db j 0 n,H⟩,⟨4,7,.i x,H⟩,⟨4,11,.ptr db ((IntKind.i64.wrap ((j:Int) - 1)).toNat) 0 n,H⟩,⟨4,12,.i y,H⟩,⟨4,13,.bool false,H0⟩] fun kf hk=>⟨_,by kernel_rfl,(oB H (decide_eq_true g0) (oP H g1 (oP H g2 (oP H g3 (oP H g4 (oC (g5 kf) .nil))))))⟩
theorem ii_d_2 (db n:Nat) (H:Heap) (i j:Nat) (x y:Int)(g0:¬ (0 < (j:Int))):RunsTo Tp (plF F) 75 (sub [1,0,0,1,0,0,1,0,0] B75) (env75 (.s db n) (.i 0) (.i (n:Int)) (.i (i:Int)) (.i (j:Int))) H (.exit 2) ((plF F).keys 75) (env75 (.s db n) (.i 0) (.i (n:Int)) (.i (i:Int)) (.i (j:Int))) H :=
  RunsTo.hin 0 60 [⟨4,2,.bool false,H⟩] fun kf hk=>⟨_,by kernel_rfl,(oB H (decide_eq_false g0) .nil)⟩
theorem ii_e_0 (db n:Nat) (H:Heap) (i:Nat) {y7:HV}:RunsTo Tp (plF F) 75 (sub [1,0,0,1,1] B75) (env75 (.s db n) (.i 0) (.i (n:Int)) (.i (i:Int)) y7) H .normal ((plF F).keys 75) (env75 (.s db n) (.i 0) (.i (n:Int)) (.i (IntKind.i64.wrap ((i:Int)+1))) y7) H :=
  RunsTo.hin 0 60 [] fun kf hk=>⟨_,by kernel_rfl,.nil⟩
noncomputable def B62:Code:=Try.f62.body.getD .skip
abbrev env62 (v0 v1 v2 v3 v8 v9 v10 v11 v12 v13 v14 v15 v16 v17 v18:HV):Env:=[(0,v0),(1,v1),(2,v2),(3,v3),(8,v8),(9,v9),(10,v10),(11,v11),(12,v12),(13,v13),(14,v14),(15,v15),(16,v16),(17,v17),(18,v18)]
theorem ip_a_0 (N:Nat) (db n:Nat) (m:Int) (H:Heap):RunsTo Tp (plF F) 62 (sub [0] B62) [(0,.s db n),(1,.i 0),(2,.i (n:Int)),(3,.i m)] H .normal ((plF F).keys 62) (env62 (.s db n) (.i 0) (.i (n:Int)) (.i m) (.bool true) Ud Ud Ud Ud Ud Ud Ud Ud Ud Ud) H :=
  RunsTo.hin N 60 [] fun kf hk=>⟨_,by kernel_rfl,.nil⟩
theorem ip_b_0 (N:Nat) (db n:Nat) (m:Int) (H:Heap) {y9 y10 y11 y12 y13 y14 y15 y16 y17 y18:HV}:RunsTo Tp (plF F) 62 (sub [1,0] B62) (env62 (.s db n) (.i 0) (.i (n:Int)) (.i m) (.bool true) y9 y10 y11 y12 y13 y14 y15 y16 y17 y18) H .normal ((plF F).keys 62) (env62 (.s db n) (.i 0) (.i (n:Int)) (.i m) (.bool true) (.bool true) y10 y11 y12 y13 y14 y15 y16 y17 y18) H :=
  RunsTo.hin N 60 [] fun kf hk=>⟨_,by kernel_rfl,.nil⟩
theorem ip_c_0 (N:Nat) (db n:Nat) (m:Int) (H:Heap) {y10 y11 y12 y13 y14 y15 y16 y17 y18:HV}:RunsTo Tp (plF F) 62 (sub [1,1,0,0,0,0] B62) (env62 (.s db n) (.i 0) (.i (n:Int)) (.i m) (.bool true) (.bool true) y10 y11 y12 y13 y14 y15 y16 y17 y18) H .normal ((plF F).keys 62) (env62 (.s db n) (.i 0) (.i (n:Int)) (.i m) (.bool true) (.bool true) (.i (IntKind.i64.wrap ((n:Int) - 0))) y11 y12 y13 y14 y15 y16 y17 y18) H :=
  RunsTo.hin N 60 [] fun kf hk=>⟨_,by kernel_rfl,.nil⟩
theorem ip_d_0 (N:Nat) (db n:Nat) (m:Int) (H:Heap) {y11 y12 y13 y14 y15 y16 y17 y18:HV} {H0:Heap} (g0:(n:Int) ≤ 12) (g1:∀ kf,N ≤ kf → callN Tp (plF F) (kf+1) 75 [.s db n,.i 0,.i (n:Int)] H=some (.tuple [],H0)):RunsTo Tp (plF F) 62 (sub [1,1,0,0,0,1,0] B62) (env62 (.s db n) (.i 0) (.i (n:Int)) (.i m) (.bool true) (.bool true) (.i (n:Int)) y11 y12 y13 y14 y15 y16 y17 y18) H .ret ((plF F).keys 62) (env62 (.s db n) (.i 0) (.i (n:Int)) (.i m) (.bool true) (.bool true) (.i (n:Int)) y11 y12 y13 y14 y15 y16 y17 y18) H0 :=
  RunsTo.hin N 60 [⟨3,1,.bool true,H⟩,⟨4,3,.tuple [],H0⟩] fun kf hk=>⟨_,by kernel_rfl,(oB H (decide_eq_true g0) (oC (g1 kf (by omega)) .nil))⟩
noncomputable def B41:Code:=Try.f41.body.getD .skip
abbrev env41 (v0 v2:HV):Env:=[(0,v0),(2,v2)]
theorem io_a_0 (N:Nat) (db n:Nat) (m:Int) (H:Heap) {H0:Heap} {H1:Heap} (g0:∀ kf,callN Tp (plF F) (kf+1) 63 [.int .u64 (IntKind.u64.wrap (n:Int))] H=some (.i m,H0)) (g1:∀ kf,N ≤ kf → callN Tp (plF F) (kf+1) 62 [.s db n,.i 0,.i (n:Int),.i m] H0=some (.tuple [],H1)):RunsTo Tp (plF F) 41 (sub [] B41) [(0,.s db n)] H .normal ((plF F).keys 41) (env41 (.s db n) (.i (n:Int))) H1 :=
  RunsTo.hin N 60 [⟨1,4,.i m,H0⟩,⟨1,5,.tuple [],H1⟩] fun kf hk=>⟨_,by kernel_rfl,(oC (g0 kf) (oC (g1 kf (by omega)) .nil))⟩
end
end Go.Proofs.Ytiejmoglooaalaa
end
section
open Go Go.HL Go.HL.So
namespace Go.Proofs.Ytiejmoglooaalaa
set_option linter.unusedSectionVars false
open Go.Proofs.Try renaming prog → Tp
open Go.HL.HV renaming undef → Ud
def less81:List HV → Option HV | [.int .i64 x,.int .i64 y]=>some (.bool (decide (x < y))) | _=>none
theorem res81:Try.f81.results.toList=[.tmp 4]:=by kernel_rfl
def prIs:FuncId → Option (List HV → Option HV):=fun g=>if g == 89 then some nan89 else none
theorem soundIs (n:Nat):CallSound Tp (callN Tp (plF prIs) n):=sound_prim _ (fun g f h=>by
  unfold prIs at h
  split at h
  · rename_i hg; cases h; rw [eq_of_beq hg]; exact nan_ok
  · cases h) n
theorem less_ok:PrimOk Tp 81 less81:=by
  refine primOk_pure (pol:=plF prIs) (fn:=Try.f81) (cd:=B81) follows_mixed soundIs (by kernel_rfl) (by kernel_rfl) (fnok prIs _ _ (by kernel_rfl)) (by kernel_rfl) ?_
  intro args res h
  unfold less81 at h
  split at h
  · rename_i x y
    cases h
    have q:∀ kf,callN Tp (plF prIs) (kf+1) 89 [.int .i64 x] []=some (.bool false,[]):=fun kf=>by
      rw [prim_call (pol:=plF prIs) (g:=89) (F:=nan89) (by kernel_rfl) (rs:=[.int .i64 x]) rfl (res:=.bool false) rfl]; rfl
    by_cases c:x < y
    · rw [decide_eq_true c]
      exact ⟨_,_,_,.bool true,le_a_0 x y [] q c,by simp,by simp only [resultsV,res81]; rfl,rfl⟩
    · rw [decide_eq_false c]
      exact ⟨_,_,_,.bool false,le_a_1 x y [] q c,by simp,by simp only [resultsV,res81]; rfl,rfl⟩
  · cases h
theorem ltI_lin:Lin (fun a b:Int=>a < b):=⟨fun x y z (h1:¬ y < x) (h2:¬ z < y)=>show ¬ z < x by omega,fun x y (h:x < y)=>show ¬ y < x by omega⟩
abbrev ltI:Int → Int → Prop:=fun a b=>a < b
section
variable {F:FuncId → Option (List HV → Option HV)} {H:Heap} {db n:Nat} (hd:db < H.length)
include hd
theorem less_at (h81:F 81=some less81) (x y:Int) (H:Heap):∀ kf,callN Tp (plF F) (kf+1) 81 [.int .i64 x,.int .i64 y] H=some (.bool (decide (x < y)),H):=fun kf=>by
  rw [prim_call (pol:=plF F) (g:=81) (F:=less81) h81 (rs:=[.int .i64 x,.int .i64 y]) rfl (res:=.bool (decide (x < y))) rfl]; rfl
theorem ii_in (h81:F 81=some less81) {i:Nat} (hi:i < n) (hn:n ≤ 1000):∀ (j:Nat) (l:List Int),l.length=n → j ≤ i → Sink ltI 0 (i+1) j l →
    ∃ y l',RunsTo Tp (plF F) 75 (sub [1,0,0,1,0,0,1,0] B75) (env75 (.sl db 0 n none n 1) (.int .i64 0) (.int .i64 (n:Int)) (.int .i64 (i:Int)) (.int .i64 (j:Int))) (H.set db (bI l)) (.exit 2) ((plF F).keys 75) (env75 (.sl db 0 n none n 1) (.int .i64 0) (.int .i64 (n:Int)) (.int .i64 (i:Int)) y) (H.set db (bI l'))∧Sw 0 (i+1) l l'∧Sorted ltI 0 (i+1) l':=by
  intro j
  induction j with
  | zero =>
    intro l hl hj hS
    exact ⟨_,l,lpo (ii_d_2 (F:=F) db n (H.set db (bI l)) i 0 0 0 (by omega)),.refl,sink_end ltI_lin hS (.inl (Nat.zero_le _))⟩
  | succ j ih =>
    intro l hl hj hS
    have hb:(H.set db (bI l))[db]?=some (bI l):=List.getElem?_set_self hd
    have e1:IntKind.i64.wrap (((j+1:Nat):Int) - 1)=(j:Int):=by simp only [wrapI64]; omega
    have e2:(IntKind.i64.wrap (((j+1:Nat):Int) - 1)).toNat=j:=by rw [e1]; omega
    have i1:=idxS (b:=db) (cap:=none) u24 z3 (show j+1 < n by omega)
    have i2:=idxS (b:=db) (cap:=none) u24 z3 (show j < n by omega)
    have l1:=load_out hb (y:=j+1) (by omega)
    have l2:=load_out hb (y:=j) (by omega)
    rw [hl] at l1 l2
    rw [← e1] at i2
    by_cases c:l.getD (j+1) 0 < l.getD j 0
    · have s1:=store_out hb (y:=j+1) (by omega) (l.getD j 0)
      rw [hl,List.set_set] at s1
      have hb2:(H.set db (bI (l.set (j+1) (l.getD j 0))))[db]?=some (bI (l.set (j+1) (l.getD j 0))):=List.getElem?_set_self hd
      have s2:=store_out hb2 (y:=j) (by simp; omega) (l.getD (j+1) 0)
      rw [List.length_set,hl,List.set_set] at s2
      have lt:=less_at hd h81 (l.getD (j+1) 0) (l.getD j 0) (H.set db (bI l))
      rw [decide_eq_true c] at lt
      have st:=ii_d_0 (F:=F) db n (H.set db (bI l)) i (j+1) (l.getD (j+1) 0) (l.getD j 0) (by omega) i1 l1 (by rw [e2]; exact i2) (by rw [e2]; exact l2) lt (by rw [e2]; exact i2) (by rw [e2]; exact l2) i1 l1 i1 s1 (by rw [e2]; exact i2) (by rw [e2]; exact s2)
      rw [e1] at st
      have sw:Sw 0 (i+1) l (swp l (j+1) j):=Sw.one (by omega) (by omega) (by omega) (by omega)
      obtain ⟨y,l',r,q1,q2⟩:=ih (swp l (j+1) j) (by rw [Go.HL.So.swp_len]; exact hl) (by omega) (sink_step ltI_lin (j:=j+1) (by omega) (by omega) (by omega) hS c)
      exact ⟨y,l',lop (st) (gc_eq _ (by simp)) (r),sw.trans q1,q2⟩
    · have lt:=less_at hd h81 (l.getD (j+1) 0) (l.getD j 0) (H.set db (bI l))
      rw [decide_eq_false c] at lt
      have st:=ii_d_1 (F:=F) db n (H.set db (bI l)) i (j+1) (l.getD (j+1) 0) (l.getD j 0) (by omega) i1 l1 (by rw [e2]; exact i2) (by rw [e2]; exact l2) lt
      exact ⟨_,l,lpo (st),.refl,sink_end ltI_lin hS (.inr c)⟩
theorem ii_out (h81:F 81=some less81) (hn:n ≤ 1000):∀ (d i:Nat) (l:List Int),i+d=n → l.length=n → Sorted ltI 0 i l →
    ∃ l',RunsTo Tp (plF F) 75 (sub [1,0] B75) (env75 (.sl db 0 n none n 1) (.int .i64 0) (.int .i64 (n:Int)) (.int .i64 (i:Int)) Ud) (H.set db (bI l)) (.exit 0) ((plF F).keys 75) (env75 (.sl db 0 n none n 1) (.int .i64 0) (.int .i64 (n:Int)) (.int .i64 (n:Int)) Ud) (H.set db (bI l'))∧Sw 0 n l l'∧Sorted ltI 0 n l':=by
  intro d
  induction d with
  | zero =>
    intro i l hi hl hS
    have:i=n:=by omega
    subst this
    exact ⟨l,lpo (sqo (ii_b_1 (F:=F) db i (H.set db (bI l)) i (by omega)) (c:=sub [1,0,0] B75) (b:=sub [1,0,0,1] B75)),.refl,hS⟩
  | succ d ih =>
    intro i l hi hl hS
    obtain ⟨y,l1,r1,q1,q2⟩:=ii_in hd h81 (i:=i) (by omega) hn i l hl (Nat.le_refl _) (sink_start hS)
    have r1':=lpi (e0:=(env75 (.sl db 0 n none n 1) (.int .i64 0) (.int .i64 (n:Int)) (.int .i64 (i:Int)) (.int .i64 (i:Int)))) r1 (b:=sub [1,0,0,1,0,0,1,0,0] B75)
    have st:=sq (ii_b_0 (F:=F) db n (H.set db (bI l)) i (y7:=Ud) (by omega)) (sq (RunsTo.block_normal (i:=1) (c:=sub [1,0,0,1,0] B75) (sq (ii_c_0 (F:=F) db n (H.set db (bI l)) i (y7:=Ud)) (bke (c:=sub [1,0,0,1,0,0,1] B75) (r1')) (c:=sub [1,0,0,1,0,0] B75)) (by kernel_rfl)) (ii_e_0 (F:=F) db n (H.set db (bI l1)) i) (c:=sub [1,0,0,1] B75)) (c:=sub [1,0,0] B75)
    rw [wrap_succ (by omega)] at st
    obtain ⟨l',r,q3,q4⟩:=ih (i+1) l1 (by omega) (q1.len.trans hl) q2
    exact ⟨l',lop (st) (gc_eq _ (by simp)) (r),(q1.mono (Nat.le_refl _) (by omega)).trans q3,q4⟩
theorem ins_call (h81:F 81=some less81) (h75:F 75=none) (hn:n ≤ 1000) {l:List Int} (hl:l.length=n) :
    ∃ l',ClF F 75 [.sl db 0 n none n 1,.int .i64 0,.int .i64 (n:Int)] (H.set db (bI l)) (.tuple []) (H.set db (bI l'))∧l'.Perm l∧Sorted ltI 0 n l':=by
  have key:∃ z l',RunsTo Tp (plF F) 75 (sub [1,0] B75) (env75 (.sl db 0 n none n 1) (.int .i64 0) (.int .i64 (n:Int)) (.int .i64 (1:Int)) Ud) (H.set db (bI l)) (.exit 0) ((plF F).keys 75) (env75 (.sl db 0 n none n 1) (.int .i64 0) (.int .i64 (n:Int)) z Ud) (H.set db (bI l'))∧Sw 0 n l l'∧Sorted ltI 0 n l':=by
    by_cases c:1 ≤ n
    · obtain ⟨l',r,q⟩:=ii_out hd h81 hn (n - 1) 1 l (by omega) hl (fun p q h1 h2 h3=>by omega)
      exact ⟨_,l',r,q⟩
    · exact ⟨_,l,lpo (sqo (ii_b_1 (F:=F) db n (H.set db (bI l)) 1 (by omega)) (c:=sub [1,0,0] B75) (b:=sub [1,0,0,1] B75)),.refl,fun p q h1 h2 h3=>by omega⟩
  obtain ⟨z,l',r,q1,q2⟩:=key
  have a:=ii_a_0 (F:=F) db n (H.set db (bI l))
  have hc:=CallsTo.shared (P:=Tp) (pol:=plF F) (g:=75) (fn:=Try.f75) (cd:=B75) (args:=[.sl db 0 n none n 1,.int .i64 0,.int .i64 (n:Int)]) (v:=.tuple []) h75 (by kernel_rfl) (by kernel_rfl) (by kernel_rfl) (sq (a) (bke (c:=sub [1] B75) (r)) (c:=B75)) (by kernel_rfl) (by simp) (by kernel_rfl)
  rw [gc_eq _ (by simp)] at hc
  exact ⟨l',hc,q1.perm (by omega),q2⟩
theorem pdq_call (h81:F 81=some less81) (h75:F 75=none) (h62:F 62=none) (hn:n ≤ 12) {l:List Int} (hl:l.length=n) (m:Int) :
    ∃ l',ClF F 62 [.sl db 0 n none n 1,.int .i64 0,.int .i64 (n:Int),.int .i64 m] (H.set db (bI l)) (.tuple []) (H.set db (bI l'))∧l'.Perm l∧Sorted ltI 0 n l':=by
  obtain ⟨l',hc,q⟩:=ins_call hd h81 h75 (by omega) hl
  obtain ⟨N,hN⟩:=CallsTo.from hc
  have a:=ip_a_0 (F:=F) 0 db n m (H.set db (bI l))
  have b:=ip_b_0 (F:=F) 0 db n m (H.set db (bI l)) (y9:=Ud) (y10:=Ud) (y11:=Ud) (y12:=Ud) (y13:=Ud) (y14:=Ud) (y15:=Ud) (y16:=Ud) (y17:=Ud) (y18:=Ud)
  have c:=ip_c_0 (F:=F) 0 db n m (H.set db (bI l)) (y10:=Ud) (y11:=Ud) (y12:=Ud) (y13:=Ud) (y14:=Ud) (y15:=Ud) (y16:=Ud) (y17:=Ud) (y18:=Ud)
  have d:=ip_d_0 (F:=F) N db n m (H.set db (bI l)) (y11:=Ud) (y12:=Ud) (y13:=Ud) (y14:=Ud) (y15:=Ud) (y16:=Ud) (y17:=Ud) (y18:=Ud) (by omega) hN
  have hw:IntKind.i64.wrap ((n:Int) - 0)=(n:Int):=wrap_id (by omega) (by omega)
  first | rw [hw] at c | skip
  have lp:=lpo (RunsTo.block_ret (i:=1) (c:=sub [1,1,0,0] B62) (sq (c) (sqo (d) (c:=sub [1,1,0,0,0,1] B62) (b:=sub [1,1,0,0,0,1,1] B62)) (c:=sub [1,1,0,0,0] B62)) (by kernel_rfl)) (c:=sub [1,1,0] B62)
  have hc2:=CallsTo.shared (P:=Tp) (pol:=plF F) (g:=62) (fn:=Try.f62) (cd:=B62) (args:=[.sl db 0 n none n 1,.int .i64 0,.int .i64 (n:Int),.int .i64 m]) (v:=.tuple []) h62 (by kernel_rfl) (by kernel_rfl) (by kernel_rfl) (sq (a) (sq (b) (RunsTo.block_ret (i:=0) (c:=sub [1,1] B62) (lp) (by kernel_rfl)) (c:=sub [1] B62)) (c:=B62)) (by kernel_rfl) (by simp) (by kernel_rfl)
  rw [gc_eq _ (by simp)] at hc2
  exact ⟨l',hc2,q⟩
end
structure StF (F:FuncId → Option (List HV → Option HV)):Prop where
  h81:F 81=some less81
  h63:F 63=some len82
  h75:F 75=none
  h62:F 62=none
  h41:F 41=none
theorem set_selfI {H:Heap} {b:Nat} {B:Blk} (h:H[b]?=some B):H.set b B=H:=by
  apply List.ext_getElem?
  intro i
  by_cases e:b=i
  · subst e; rw [List.getElem?_set_self (lt_of_get h),h]
  · rw [List.getElem?_set_ne e]
theorem sort_call {F:FuncId → Option (List HV → Option HV)} (hF:StF F) {H:Heap} {db:Nat} {l:List Int} (hb:H[db]?=some (bI l)) (hn:l.length ≤ 12) :
    ∃ l',ClF F 41 [.sl db 0 l.length none l.length 1] H (.tuple []) (H.set db (bI l'))∧l'.Perm l∧∀ i j,i < j → j < l'.length → l'.getD i 0 ≤ l'.getD j 0:=by
  obtain ⟨h81,h63,h75,h62,h41⟩:=hF
  have hd:=lt_of_get hb
  obtain ⟨l',hc,q1,q2⟩:=pdq_call (F:=F) hd h81 h75 h62 hn (l:=l) rfl (lenN l.length:Int)
  rw [set_selfI hb] at hc
  obtain ⟨N,hN⟩:=CallsTo.from hc
  have hu:IntKind.u64.wrap (l.length:Int)=(l.length:Int):=by rw [wrapU64]; omega
  have t:=io_a_0 (F:=F) N db l.length (lenN l.length:Int) H (H0:=H) (fun kf=>by
    rw [hu,prim_call (pol:=plF F) (g:=63) (F:=len82) h63 (rs:=[.int .u64 (l.length:Int)]) rfl (res:=.int .i64 (lenN l.length:Int)) (by simp only [len82]; rw [if_pos (by omega),Int.toNat_natCast])]; rfl) hN
  have hc2:=CallsTo.shared (P:=Tp) (pol:=plF F) (g:=41) (fn:=Try.f41) (cd:=B41) (args:=[.sl db 0 l.length none l.length 1]) (v:=.tuple []) h41 (by kernel_rfl) (by kernel_rfl) (by kernel_rfl) t (by kernel_rfl) (by simp) (by kernel_rfl)
  rw [gc_eq _ (by simp)] at hc2
  refine ⟨l',hc2,q1,fun i j hij hj=>?_⟩
  have:=q2 i j (Nat.zero_le _) hij (by rw [← q1.length_eq]; exact hj)
  exact Int.not_lt.1 this
theorem asc_ext:∀ {a b:List Int},a.Pairwise (· < ·) → b.Pairwise (· < ·) → (∀ x,x ∈ a ↔ x ∈ b) → a=b
  | [],b,_,_,h=>by
    have:b=[]:=List.eq_nil_iff_forall_not_mem.2 fun x hx=>by cases (h x).2 hx
    rw [this]
  | x :: a,[],_,_,h=>by cases (h x).1 (List.mem_cons_self ..)
  | x :: a,y :: b,ha,hb,h=>by
    obtain ⟨a1,a2⟩:=List.pairwise_cons.1 ha
    obtain ⟨b1,b2⟩:=List.pairwise_cons.1 hb
    have e:x=y:=by
      rcases List.mem_cons.1 ((h x).1 (List.mem_cons_self ..)) with c | c
      · exact c
      · rcases List.mem_cons.1 ((h y).2 (List.mem_cons_self ..)) with d | d
        · exact d.symm
        · have:=a1 _ d
          have:=b1 _ c
          omega
    subst e
    refine congrArg (x :: ·) (asc_ext a2 b2 fun z=>?_)
    constructor
    · intro hz
      rcases List.mem_cons.1 ((h z).1 (List.mem_cons_of_mem _ hz)) with c | c
      · have:=a1 _ hz; omega
      · exact c
    · intro hz
      rcases List.mem_cons.1 ((h z).2 (List.mem_cons_of_mem _ hz)) with c | c
      · have:=b1 _ hz; omega
      · exact c
theorem sort_asc {l l':List Int} (hn:l.Nodup) (hp:l'.Perm l) (hs:∀ i j,i < j → j < l'.length → l'.getD i 0 ≤ l'.getD j 0):l'.Pairwise (· < ·):=by
  have hn':l'.Nodup:=hp.nodup_iff.2 hn
  refine List.pairwise_iff_getElem.2 fun i j hi hj hij=>?_
  have h1:=hs i j hij hj
  rw [getD_at hi,getD_at hj] at h1
  have h2:=List.pairwise_iff_getElem.1 hn' i j hi hj hij
  omega
end Go.Proofs.Ytiejmoglooaalaa
end
section
open Go Go.HL
namespace Go.Proofs.Ytiejmoglooaalaa
def bM (M:List Int):Blk:=.map (M.map encI) (M.map fun _=>HV.bool true) 0
abbrev bL (m:Nat):Blk:=.arr 1 [.sl 3 0 m (some m) m 1] true 6
abbrev hS (n:Int) (l:List St) (T M O:List Int):Heap:=[bN n l,bI T,bM M,bI O,bL l.length,bI []]
end Go.Proofs.Ytiejmoglooaalaa
end
section
open Go Go.HL
namespace Go.Proofs.Ytiejmoglooaalaa
def slE (n:Int) (l:List St):Int:=if netB n l=true then (if connB n l=true then 0 else 6) else 2
end Go.Proofs.Ytiejmoglooaalaa
end
section
open Go Go.HL
namespace Go.Proofs.Ytiejmoglooaalaa
open Go.Proofs.Try renaming prog → Tp
open Go.HL.HV renaming undef → Ud
def trG (n:Int) (l:List St):List Int:=if slE n l=0 then frT l else []
def trW (n:Int) (l:List St):Int:=if slE n l=0 then wgt l (frT l) else 0
def tree14:List HV → Option HV:=f2 kI kS fun n l=>if l.length ≤ 500∧n ≤ 13 then some (.tuple [.own 1 ((trG n l).map encI),.int .i64 (trW n l),.int .i64 (slE n l)]) else none
theorem res14:Try.f14.results.toList=[.tmp 4,.tmp 5,.tmp 6]:=by kernel_rfl
def prTe:FuncId → Option (List HV → Option HV):=fun g=>if g == 52 then some within52 else if g == 40 then some tree40 else if g == 42 then some weight42 else if g == 81 then some less81 else if g == 63 then some len82 else none
theorem soundTe (n:Nat):CallSound Tp (callN Tp (plF prTe) n):=sound_prim _ (fun g f h=>by
  unfold prTe at h
  split at h
  · rename_i hg; cases h; rw [eq_of_beq hg]; exact within_ok
  split at h
  · rename_i hg; cases h; rw [eq_of_beq hg]; exact tree_ok
  split at h
  · rename_i hg; cases h; rw [eq_of_beq hg]; exact weight_ok
  split at h
  · rename_i hg; cases h; rw [eq_of_beq hg]; exact less_ok
  split at h
  · rename_i hg; cases h; rw [eq_of_beq hg]; exact len68_ok
  · cases h) n
theorem nwF_te:NwF prTe:=⟨by kernel_rfl,by kernel_rfl,by kernel_rfl,by kernel_rfl,by kernel_rfl⟩
theorem stF_te:StF prTe:=⟨by kernel_rfl,by kernel_rfl,by kernel_rfl,by kernel_rfl,by kernel_rfl⟩
theorem nil_res3 (H:Heap) (w e:Int):toRes H false (.tuple [.imm .lit 1 [],.int .i64 w,.int .i64 e])=some (.tuple [.own 1 [],.int .i64 w,.int .i64 e]):=by
  simp [toRes,ownedAll,cellsOf,owned,resVal,resCell,mapO]; rfl
theorem treeE_ok:PrimOk Tp 14 tree14:=by
  refine primOk_pure (pol:=plF prTe) (fn:=Try.f14) (cd:=B14) follows_mixed soundTe (by kernel_rfl) (by kernel_rfl) (fnok prTe _ _ (by kernel_rfl)) (by kernel_rfl) ?_
  intro args res h
  obtain ⟨n,l,rfl,hq⟩:=f2_inv h
  split at hq
  case isFalse=>cases hq
  rename_i hl
  obtain ⟨hl,hn⟩:=hl
  cases hq
  have a:=te_a_0 (F:=prTe) 0 n (l.map encT)
  obtain ⟨N0,c39⟩:=CallsTo.from (nw_call nwF_te (H:=[]) (Nat.le_refl _) n (l:=l) (by omega))
  cases hnet:netB n l with
  | false =>
    rw [hnet] at c39
    have b:=te_b_1 (F:=prTe) N0 n (l.map encT) (y7:=Ud) (y8:=Ud) (y9:=Ud) c39 rfl stN
    have c:=te_cf_0 (F:=prTe) 0 n (l.map encT) [bN n l] (y9:=Ud)
    refine ⟨_,_,_,.tuple [.imm .lit 1 [],.int .i64 0,.int .i64 2],sq (a) (sq (b) (sqo (c) (c:=sub [1,1] B14) (b:=sub [1,1,1] B14)) (c:=sub [1] B14)) (c:=B14),by simp,by simp only [resultsV,res14]; rfl,?_⟩
    have e:slE n l=2:=by rw [slE,if_neg (by rw [hnet]; simp)]
    rw [trG,trW,e,if_neg (by decide),if_neg (by decide)]; exact nil_res3 _ _ _
  | true =>
    rw [hnet] at c39
    obtain ⟨⟨n1,n2⟩,n3,he,hw⟩:=netB_ends hnet
    have heB:=endN_B he (by omega)
    have hwB:wB l=true:=wB_iff.2 fun s hs=>by have:=hw s hs; omega
    have b:=te_b_0 (F:=prTe) N0 n (l.map encT) (y7:=Ud) (y8:=Ud) (y9:=Ud) c39 rfl stN
    have c:=te_ct_0 (F:=prTe) 0 n (l.map encT) [bN n l] (y9:=Ud)
    have c40:=at1 (pol':=plF prTe) (g:=40) (c1:=kN) (f:=fun p=>if netOk p.1 p.2 then some (.tuple [.own 1 ((treeT p.2).map encI),.bool (connB p.1 p.2)]) else none) (H:=[bN n l]) (by kernel_rfl) (ShN _ n l) (if_pos ⟨heB,by show l.length ≤ 900; omega,by show 0 ≤ n; omega,by show n ≤ 1000; omega⟩)
    rw [recv_tb] at c40
    simp only at c40
    by_cases cn:connB n l=true
    · rw [cn] at c40
      have d:=te_d_0 (F:=prTe) 0 n (l.map encT) [bN n l] 1 (treeT l).length (y9:=Ud) (ld66 rfl) c40
      have e:=te_et_0 (F:=prTe) 0 n (l.map encT) ([bN n l] ++ [bI (treeT l)]) 1 (treeT l).length
      have hlen:=tree_len hnet cn
      obtain ⟨l',cs,hp,hs⟩:=sort_call stF_te (H:=[bN n l] ++ [bI (treeT l)]) (db:=1) (l:=treeT l) rfl (by omega)
      have e1:l'=frT l:=asc_ext (sort_asc (tree_nodup' l) hp hs) (frT_asc l) fun x=>by rw [hp.mem_iff]; exact frT_mem.symm
      subst e1
      obtain ⟨N1,c41⟩:=CallsTo.from cs
      have hfl:(frT l).length=(treeT l).length:=fr_len l
      have c42:=at2 (pol':=plF prTe) (g:=42) (c1:=kN) (c2:=kL) (f:=fun p t=>if inR p.2.length t=true∧wB p.2=true∧t.length ≤ 1000 then some (.int .i64 (wgt p.2 t)) else none) (H:=[bN n l,bI (frT l)]) (v2:=.sl 1 0 (treeT l).length none (treeT l).length 1) (by kernel_rfl) (ShN _ n l) (ShL_sl (l:=frT l) hfl rfl) (if_pos ⟨inR_iff.2 fun k hk=>tree_in (frT_mem.1 hk),hwB,by show (frT l).length ≤ 1000; omega⟩)
      have z:=te_z_0 (F:=prTe) N1 n (l.map encT) ([bN n l] ++ [bI (treeT l)]) 1 (treeT l).length (wgt l (frT l)) c41 (ld66 rfl) c42
      refine ⟨_,_,_,.tuple [.sl 1 0 (treeT l).length none (treeT l).length 1,.int .i64 (wgt l (frT l)),.int .i64 0],sq (a) (sq (b) (sq (c) (sq (d) (sq (e) (z) (c:=sub [1,1,1,1] B14)) (c:=sub [1,1,1] B14)) (c:=sub [1,1] B14)) (c:=sub [1] B14)) (c:=B14),by simp,by simp only [resultsV,res14]; rfl,?_⟩
      have ee:slE n l=0:=by rw [slE,if_pos hnet,if_pos cn]
      rw [trG,trW,ee,if_pos rfl,if_pos rfl]
      exact res_lii (b:=1) rfl hfl _ _
    · rw [nb_false cn] at c40
      have d:=te_d_1 (F:=prTe) 0 n (l.map encT) [bN n l] 1 (treeT l).length (y9:=Ud) (ld66 rfl) c40
      have e:=te_ef_0 (F:=prTe) 0 n (l.map encT) ([bN n l] ++ [bI (treeT l)]) 1 (treeT l).length
      refine ⟨_,_,_,.tuple [.imm .lit 1 [],.int .i64 0,.int .i64 6],sq (a) (sq (b) (sq (c) (sq (d) (sqo (e) (c:=sub [1,1,1,1] B14) (b:=sub [1,1,1,1,1] B14)) (c:=sub [1,1,1] B14)) (c:=sub [1,1] B14)) (c:=sub [1] B14)) (c:=B14),by simp,by simp only [resultsV,res14]; rfl,?_⟩
      have ee:slE n l=6:=by rw [slE,if_pos hnet,if_neg cn]
      rw [trG,trW,ee,if_neg (by decide),if_neg (by decide)]; exact nil_res3 _ _ _
end Go.Proofs.Ytiejmoglooaalaa
end
section
open Go Go.HL
namespace Go.Proofs.Ytiejmoglooaalaa
open Go.Proofs.Try renaming prog → Tp
open Go.HL.HV renaming undef → Ud
def prAw:FuncId → Option (List HV → Option HV):=fun g=>if g == 21 then some ints21 else if g == 52 then some within52 else if g == 54 then some ordered54 else if g == 40 then some tree40 else if g == 71 then some cmp71 else if g == 70 then some fst70 else none
theorem soundAw (n:Nat):CallSound Tp (callN Tp (plF prAw) n):=sound_prim _ (fun g f h=>by
  unfold prAw at h
  split at h
  · rename_i hg; cases h; rw [eq_of_beq hg]; exact ints_ok
  split at h
  · rename_i hg; cases h; rw [eq_of_beq hg]; exact within_ok
  split at h
  · rename_i hg; cases h; rw [eq_of_beq hg]; exact ordered_ok
  split at h
  · rename_i hg; cases h; rw [eq_of_beq hg]; exact tree_ok
  split at h
  · rename_i hg; cases h; rw [eq_of_beq hg]; exact cmp_ok
  split at h
  · rename_i hg; cases h; rw [eq_of_beq hg]; exact fst_ok
  · cases h) n
set_option maxRecDepth 100000 in
theorem awake_run:callN Tp (plF prAw) 400 18 [] []=some (.bool true,[]):=by kernel_rfl
end Go.Proofs.Ytiejmoglooaalaa
end
section
open Go Go.HL
namespace Go.Proofs.Ytiejmoglooaalaa
open Go.Proofs.Try renaming prog → Tp
open Go.HL.HV renaming undef → Ud
def awakeF:List HV → Option HV | []=>some (.bool true) | _=>none
theorem awake_prim:PrimOk Tp 18 awakeF:=by
  refine primOk_of (pol:=plF prAw) soundAw (by kernel_rfl) fun args res h=>?_
  match args,h with
  | [],h =>
    cases h
    exact ⟨400,_,_,false,awake_run,rfl⟩
theorem awake_at {pol':Pol} (hp:pol'.prim 18=some awakeF) (H:Heap):∀ k,callN Tp pol' (k+1) 18 [] H=some (.bool true,H):=fun k=>by
  rw [prim_call (pol:=pol') (g:=18) (F:=awakeF) hp (rs:=[]) rfl (res:=.bool true) rfl]; rfl
theorem recv_lii (l:List Int) (m e:Int) (H:Heap):recv (.tuple [.own 1 (l.map encI),.int .i64 m,.int .i64 e]) H=(.tuple [.sl H.length 0 l.length none l.length 1,.int .i64 m,.int .i64 e],H ++ [bI l]):=by
  have h:recvCell (.own 1 (l.map encI)) H=(.sl H.length 0 l.length none l.length 1,H ++ [bI l]):=by
    simp only [recvCell,encI_any,List.length_map]; rfl
  simp only [recv,recvVals,recvVal,h]; rfl
end Go.Proofs.Ytiejmoglooaalaa
end
section
open Go Go.HL
namespace Go.Proofs.Ytiejmoglooaalaa
set_option linter.unusedSectionVars false
open Go.Proofs.Try renaming prog → Tp
open Go.HL.HV renaming undef → Ud
def prL8:FuncId → Option (List HV → Option HV):=fun g=>if g == 18 then some awakeF else if g == 24 then some mod24 else if g == 25 then some tame25 else if g == 14 then some tree14 else if g == 33 then some groups33 else none
theorem soundL8 (n:Nat):CallSound Tp (callN Tp (plF prL8) n):=sound_prim _ (fun g f h=>by
  unfold prL8 at h
  split at h
  · rename_i hg; cases h; rw [eq_of_beq hg]; exact awake_prim
  split at h
  · rename_i hg; cases h; rw [eq_of_beq hg]; exact mod_ok
  split at h
  · rename_i hg; cases h; rw [eq_of_beq hg]; exact tame_ok
  split at h
  · rename_i hg; cases h; rw [eq_of_beq hg]; exact treeE_ok
  split at h
  · rename_i hg; cases h; rw [eq_of_beq hg]; exact groups_ok
  · cases h) n
theorem res8:Try.f8.results.toList=[.tmp 6]:=by kernel_rfl
abbrev polL8:Pol:=plF prL8
def xN (la:List Int) (v:Nat):Int:=if v < la.length then modW (la.getD v 0) 4 else 0
def gN (la:List Int) (i:Nat):List Int:=(List.range i).map (xN la)
def uN (la:List Int):Nat → List Int
  | 0=>[]
  | i+1=>if xN la i ∈ uN la i then uN la i else uN la i ++ [xN la i]
theorem gN_len (la:List Int) (i:Nat):(gN la i).length=i:=by rw [gN,List.length_map,List.length_range]
theorem gN_succ (la:List Int) (i:Nat):gN la (i+1)=gN la i ++ [xN la i]:=by rw [gN,List.range_succ,List.map_append]; rfl
theorem gN_get {la:List Int} {i v:Nat} (h:v < i):(gN la i).getD v 0=xN la v:=by simp [gN,List.getD,h]
theorem uN_len (la:List Int):∀ i,(uN la i).length ≤ i
  | 0=>Nat.le_refl _
  | i+1=>by
    have:=uN_len la i
    rw [uN]
    split
    · omega
    · rw [List.length_append,List.length_singleton]; omega
theorem uN_nodup (la:List Int):∀ i,(uN la i).Nodup
  | 0=>List.nodup_nil
  | i+1=>by
    have:=uN_nodup la i
    rw [uN]
    split
    · exact this
    · rename_i h
      exact List.nodup_append.2 ⟨this,by simp,fun a ha b hb=>by rw [List.mem_singleton.1 hb]; exact fun c=>h (c ▸ ha)⟩
theorem uN_mem (la:List Int) {x:Int}:∀ i,x ∈ uN la i ↔ ∃ v,v < i∧xN la v=x
  | 0=>by simp [uN]
  | i+1=>by
    have ih:=uN_mem la (x:=x) i
    rw [uN]
    constructor
    · intro h
      split at h
      · obtain ⟨v,h1,h2⟩:=ih.1 h
        exact ⟨v,by omega,h2⟩
      · rcases List.mem_append.1 h with c | c
        · obtain ⟨v,h1,h2⟩:=ih.1 c
          exact ⟨v,by omega,h2⟩
        · exact ⟨i,by omega,(List.mem_singleton.1 c).symm⟩
    · intro ⟨v,h1,h2⟩
      rcases Nat.lt_or_eq_of_le (Nat.le_of_lt_succ h1) with c | c
      · have:=ih.2 ⟨v,c,h2⟩
        split
        · exact this
        · exact List.mem_append_left _ this
      · subst c
        split
        · rename_i h; rw [← h2]; exact h
        · rw [← h2]; exact List.mem_append_right _ (List.mem_singleton_self _)
theorem ld_fld {H:Heap} {b:Nat} {o:List St} (h:H[b]?=some (bS o)) {y:Nat} (hy:y < o.length) (off:Nat) (x:Int) (hx:[HV.int .i64 (o.getD y (0,0,0)).1,.int .i64 (o.getD y (0,0,0)).2.1,.int .i64 (o.getD y (0,0,0)).2.2][off]?=some (.int .i64 x)):loadV Tp H 3 (.ptr b y off o.length)=some (.int .i64 x) :=
  load_cell (P:=Tp) (els:=o.map encT) (cs:=[.int .i64 (o.getD y (0,0,0)).1,.int .i64 (o.getD y (0,0,0)).2.1,.int .i64 (o.getD y (0,0,0)).2.2]) h (by simp) (by rw [getD_at hy]; simp [hy,encT]) a3 i3 hx
theorem idx_sa {b n y:Nat} {cap:Option Nat} (h:y < n):idxV Tp 22 (.sl b 0 n cap n 3) (.int .i64 (y:Int))=some (.ptr b y 0 n):=by
  have:=idx_sl (P:=Tp) (t:=22) (e:=42) (k:=3) (b:=b) (len:=n) (tot:=n) (cap:=cap) (ik:=.i64) (n:=(y:Int)) u22 z42 (by omega) (by omega)
  rwa [Int.toNat_natCast] at this
theorem ap_inner {n x:Int} {ls:List HV} {la U:List Int} {own:List St} {v:Nat} {H:Heap} (hH:H[2]?=some (bI U)) (hU:U.length ≤ 100) :
    RT polL8 8 (sub [1,1,1,1,1,0,1,0,0,1,0,0,1,1,1,1,0,1,0] B8) ((env8 (.int .i64 n) (.imm .arg 3 ls) (.imm .arg 1 (la.map encI)) (.bool false) (.sl 0 0 own.length none own.length 3) (.sl 1 0 (v+1) none (v+1) 1) (.sl 2 0 (U.length) none (U.length) 1) (.int .i64 (U.length:Int)) (.int .i64 (v:Int)) (.int .i64 x) (.bool false) (.int .i64 ((0:Nat):Int)) Ud Ud Ud Ud Ud Ud Ud Ud Ud Ud Ud)) H (.exit 2) ((env8 (.int .i64 n) (.imm .arg 3 ls) (.imm .arg 1 (la.map encI)) (.bool false) (.sl 0 0 own.length none own.length 3) (.sl 1 0 (v+1) none (v+1) 1) (.sl 2 0 (U.length) none (U.length) 1) (.int .i64 (U.length:Int)) (.int .i64 (v:Int)) (.int .i64 x) (.bool (decide (x ∈ U))) (.int .i64 ((U.length:Nat):Int)) Ud Ud Ud Ud Ud Ud Ud Ud Ud Ud Ud)) H:=by
  have key:∀ i,i < U.length → RT polL8 8 (sub [1,1,1,1,1,0,1,0,0,1,0,0,1,1,1,1,0,1,0,0] B8) ((env8 (.int .i64 n) (.imm .arg 3 ls) (.imm .arg 1 (la.map encI)) (.bool false) (.sl 0 0 own.length none own.length 3) (.sl 1 0 (v+1) none (v+1) 1) (.sl 2 0 (U.length) none (U.length) 1) (.int .i64 (U.length:Int)) (.int .i64 (v:Int)) (.int .i64 x) (.bool (decide (x ∈ U.take i))) (.int .i64 ((i:Nat):Int)) Ud Ud Ud Ud Ud Ud Ud Ud Ud Ud Ud)) H .normal ((env8 (.int .i64 n) (.imm .arg 3 ls) (.imm .arg 1 (la.map encI)) (.bool false) (.sl 0 0 own.length none own.length 3) (.sl 1 0 (v+1) none (v+1) 1) (.sl 2 0 (U.length) none (U.length) 1) (.int .i64 (U.length:Int)) (.int .i64 (v:Int)) (.int .i64 x) (.bool (decide (x ∈ U.take (i+1)))) (.int .i64 ((i+1:Nat):Int)) Ud Ud Ud Ud Ud Ud Ud Ud Ud Ud Ud)) H:=fun i hi=>by
    have hy:=load_out hH hi
    have ix:=idxS (b:=2) (cap:=none) u24 z3 hi
    by_cases c:x ∈ U.take i
    · have c2:x ∈ U.take (i+1):=by rw [take_snoc hi]; exact List.mem_append_left _ c
      rw [decide_eq_true c,decide_eq_true c2]
      have s:=pa_n1_0 (F:=prL8) n ls (la.map encI) H 0 own.length (v+1) U.length U.length v x i 0 (y15:=Ud) (y16:=Ud) (y17:=Ud) (y18:=Ud) (y19:=Ud) (y20:=Ud) (y21:=Ud) (y23:=Ud) (y24:=Ud) (y26:=Ud) (y27:=Ud) (by omega)
      rw [wrap_succ (by omega)] at s
      exact s
    · rw [decide_eq_false c]
      by_cases e:U.getD i 0=x
      · have c2:x ∈ U.take (i+1):=by rw [take_snoc hi,e]; simp
        rw [decide_eq_true c2]
        have s:=pa_n0_0 (F:=prL8) n ls (la.map encI) H 0 own.length (v+1) U.length U.length v x i (U.getD i 0) (y15:=Ud) (y16:=Ud) (y17:=Ud) (y18:=Ud) (y19:=Ud) (y20:=Ud) (y21:=Ud) (y23:=Ud) (y24:=Ud) (y26:=Ud) (y27:=Ud) (by omega) ix hy e
        rw [wrap_succ (by omega)] at s
        exact s
      · have c2:x ∉ U.take (i+1):=by
          rw [take_snoc hi,List.mem_append,List.mem_singleton]
          exact fun h=>h.elim c fun h=>e h.symm
        rw [decide_eq_false c2]
        have s:=pa_n0_1 (F:=prL8) n ls (la.map encI) H 0 own.length (v+1) U.length U.length v x i (U.getD i 0) (y15:=Ud) (y16:=Ud) (y17:=Ud) (y18:=Ud) (y19:=Ud) (y20:=Ud) (y21:=Ud) (y23:=Ud) (y24:=Ud) (y26:=Ud) (y27:=Ud) (by omega) ix hy e
        rw [wrap_succ (by omega)] at s
        exact s
  have out:RT polL8 8 (sub [1,1,1,1,1,0,1,0,0,1,0,0,1,1,1,1,0,1,0,0] B8) ((env8 (.int .i64 n) (.imm .arg 3 ls) (.imm .arg 1 (la.map encI)) (.bool false) (.sl 0 0 own.length none own.length 3) (.sl 1 0 (v+1) none (v+1) 1) (.sl 2 0 (U.length) none (U.length) 1) (.int .i64 (U.length:Int)) (.int .i64 (v:Int)) (.int .i64 x) (.bool (decide (x ∈ U.take U.length))) (.int .i64 ((U.length:Nat):Int)) Ud Ud Ud Ud Ud Ud Ud Ud Ud Ud Ud)) H (.exit 2) ((env8 (.int .i64 n) (.imm .arg 3 ls) (.imm .arg 1 (la.map encI)) (.bool false) (.sl 0 0 own.length none own.length 3) (.sl 1 0 (v+1) none (v+1) 1) (.sl 2 0 (U.length) none (U.length) 1) (.int .i64 (U.length:Int)) (.int .i64 (v:Int)) (.int .i64 x) (.bool (decide (x ∈ U))) (.int .i64 ((U.length:Nat):Int)) Ud Ud Ud Ud Ud Ud Ud Ud Ud Ud Ud)) H:=by
    rw [List.take_length]
    by_cases c:x ∈ U
    · rw [decide_eq_true c]
      exact pa_n1_1 (F:=prL8) n ls (la.map encI) H 0 own.length (v+1) U.length U.length v x U.length 0 (y15:=Ud) (y16:=Ud) (y17:=Ud) (y18:=Ud) (y19:=Ud) (y20:=Ud) (y21:=Ud) (y23:=Ud) (y24:=Ud) (y26:=Ud) (y27:=Ud) (by omega)
    · rw [decide_eq_false c]
      exact pa_n0_2 (F:=prL8) n ls (la.map encI) H 0 own.length (v+1) U.length U.length v x U.length 0 (y15:=Ud) (y16:=Ud) (y17:=Ud) (y18:=Ud) (y19:=Ud) (y20:=Ud) (y21:=Ud) (y23:=Ud) (y24:=Ud) (y26:=Ud) (y27:=Ud) (by omega)
  exact count (pol':=polL8) (f:=8) (E:=fun i=>(env8 (.int .i64 n) (.imm .arg 3 ls) (.imm .arg 1 (la.map encI)) (.bool false) (.sl 0 0 own.length none own.length 3) (.sl 1 0 (v+1) none (v+1) 1) (.sl 2 0 (U.length) none (U.length) 1) (.int .i64 (U.length:Int)) (.int .i64 (v:Int)) (.int .i64 x) (.bool (decide (x ∈ U.take i))) (.int .i64 ((i:Nat):Int)) Ud Ud Ud Ud Ud Ud Ud Ud Ud Ud Ud)) (Hs:=fun _=>H) U.length key (fun i _=>by kernel_rfl) (fun i _=>gc_eq _ rfl) out (by simp) (c:=sub [1,1,1,1,1,0,1,0,0,1,0,0,1,1,1,1,0,1,0] B8) (by kernel_rfl) (fun i _=>by kernel_rfl)
theorem ap_round {n:Int} {ls:List HV} {la:List Int} {own:List St} {v:Nat} (hv:(v:Int) < n) (hn:n ≤ 16) :
    ∃ z13 z14,RT polL8 8 (sub [1,1,1,1,1,0,1,0,0] B8) ((env8 (.int .i64 n) (.imm .arg 3 ls) (.imm .arg 1 (la.map encI)) (.bool false) (.sl 0 0 own.length none own.length 3) (.sl 1 0 (v) none (v) 1) (.sl 2 0 ((uN la (v)).length) none ((uN la (v)).length) 1) (.int .i64 ((uN la (v)).length:Int)) (.int .i64 ((v:Nat):Int)) Ud Ud Ud Ud Ud Ud Ud Ud Ud Ud Ud Ud Ud Ud)) [bS own,bI (gN la v),bI (uN la v)] .normal ((env8 (.int .i64 n) (.imm .arg 3 ls) (.imm .arg 1 (la.map encI)) (.bool false) (.sl 0 0 own.length none own.length 3) (.sl 1 0 (v+1) none (v+1) 1) (.sl 2 0 ((uN la (v+1)).length) none ((uN la (v+1)).length) 1) (.int .i64 ((uN la (v+1)).length:Int)) (.int .i64 ((v+1:Nat):Int)) (.int .i64 (xN la v)) z13 z14 Ud Ud Ud Ud Ud Ud Ud Ud Ud Ud Ud)) [bS own,bI (gN la (v+1)),bI (uN la (v+1))]:=by
  have hul:=uN_len la v
  have lm:((la.map encI).length:Int)=(la.length:Int):=by rw [List.length_map]
  have s1:=pa_g_0 (F:=prL8) n ls (la.map encI) [bS own,bI (gN la v),bI (uN la v)] 0 own.length v (uN la v).length (uN la v).length v (y12:=Ud) (y13:=Ud) (y14:=Ud) (y15:=Ud) (y16:=Ud) (y17:=Ud) (y18:=Ud) (y19:=Ud) (y20:=Ud) (y21:=Ud) (y23:=Ud) (y24:=Ud) (y26:=Ud) (y27:=Ud) hv
  have s2:=pa_h_0 (F:=prL8) n ls (la.map encI) [bS own,bI (gN la v),bI (uN la v)] 0 own.length v (uN la v).length (uN la v).length v (y12:=Ud) (y13:=Ud) (y14:=Ud) (y15:=Ud) (y16:=Ud) (y17:=Ud) (y18:=Ud) (y19:=Ud) (y20:=Ud) (y21:=Ud) (y23:=Ud) (y24:=Ud) (y26:=Ud) (y27:=Ud)
  have s3:RT polL8 8 (sub [1,1,1,1,1,0,1,0,0,1,0,0,1,0] B8) ((env8 (.int .i64 n) (.imm .arg 3 ls) (.imm .arg 1 (la.map encI)) (.bool false) (.sl 0 0 own.length none own.length 3) (.sl 1 0 (v) none (v) 1) (.sl 2 0 ((uN la (v)).length) none ((uN la (v)).length) 1) (.int .i64 ((uN la (v)).length:Int)) (.int .i64 ((v:Nat):Int)) (.int .i64 0) Ud Ud Ud Ud Ud Ud Ud Ud Ud Ud Ud Ud Ud)) [bS own,bI (gN la v),bI (uN la v)] .normal ((env8 (.int .i64 n) (.imm .arg 3 ls) (.imm .arg 1 (la.map encI)) (.bool false) (.sl 0 0 own.length none own.length 3) (.sl 1 0 (v) none (v) 1) (.sl 2 0 ((uN la (v)).length) none ((uN la (v)).length) 1) (.int .i64 ((uN la (v)).length:Int)) (.int .i64 ((v:Nat):Int)) (.int .i64 (xN la v)) Ud Ud Ud Ud Ud Ud Ud Ud Ud Ud Ud Ud Ud)) [bS own,bI (gN la v),bI (uN la v)]:=by
    by_cases c:v < la.length
    · have e:xN la v=modW (la.getD v 0) 4:=if_pos c
      rw [e]
      exact pa_i_0 (F:=prL8) n ls (la.map encI) [bS own,bI (gN la v),bI (uN la v)] 0 own.length v (uN la v).length (uN la v).length v (la.getD v 0) (modW (la.getD v 0) 4) (y13:=Ud) (y14:=Ud) (y15:=Ud) (y16:=Ud) (y17:=Ud) (y18:=Ud) (y19:=Ud) (y20:=Ud) (y21:=Ud) (y23:=Ud) (y24:=Ud) (y26:=Ud) (y27:=Ud) (by omega) (gx c) (mod_at (F:=prL8) (by kernel_rfl) _ (by omega) _)
    · have e:xN la v=0:=if_neg c
      rw [e]
      exact pa_i_1 (F:=prL8) n ls (la.map encI) [bS own,bI (gN la v),bI (uN la v)] 0 own.length v (uN la v).length (uN la v).length v 0 0 (y13:=Ud) (y14:=Ud) (y15:=Ud) (y16:=Ud) (y17:=Ud) (y18:=Ud) (y19:=Ud) (y20:=Ud) (y21:=Ud) (y23:=Ud) (y24:=Ud) (y26:=Ud) (y27:=Ud) (by omega)
  have gl:=gN_len la v
  have a1:=app_in1 (H:=[bS own,bI (gN la v),bI (uN la v)]) (b:=1) (o:=gN la v) rfl (by omega) (xN la v)
  rw [← gN_succ,gl] at a1
  have hus:uN la (v+1)=if xN la v ∈ uN la v then uN la v else uN la v ++ [xN la v]:=rfl
  have s4:=pa_j_0 (F:=prL8) n ls (la.map encI) [bS own,bI (gN la v),bI (uN la v)] 0 own.length v (uN la v).length (uN la v).length v (xN la v) (y13:=Ud) (y14:=Ud) (y15:=Ud) (y16:=Ud) (y17:=Ud) (y18:=Ud) (y19:=Ud) (y20:=Ud) (y21:=Ud) (y23:=Ud) (y24:=Ud) (y26:=Ud) (y27:=Ud) a1
  have s5:=pa_k_0 (F:=prL8) n ls (la.map encI) [bS own,bI (gN la (v+1)),bI (uN la v)] 0 own.length (v+1) (uN la v).length (uN la v).length v (xN la v) (y13:=Ud) (y14:=Ud) (y15:=Ud) (y16:=Ud) (y17:=Ud) (y18:=Ud) (y19:=Ud) (y20:=Ud) (y21:=Ud) (y23:=Ud) (y24:=Ud) (y26:=Ud) (y27:=Ud)
  have s6:=pa_m_0 (F:=prL8) n ls (la.map encI) [bS own,bI (gN la (v+1)),bI (uN la v)] 0 own.length (v+1) (uN la v).length (uN la v).length v (xN la v) (y14:=Ud) (y15:=Ud) (y16:=Ud) (y17:=Ud) (y18:=Ud) (y19:=Ud) (y20:=Ud) (y21:=Ud) (y23:=Ud) (y24:=Ud) (y26:=Ud) (y27:=Ud)
  have lp:=ap_inner (n:=n) (ls:=ls) (la:=la) (own:=own) (v:=v) (x:=xN la v) (H:=[bS own,bI (gN la (v+1)),bI (uN la v)]) (U:=uN la v) rfl (by omega)
  have a2:=app_in1 (H:=[bS own,bI (gN la (v+1)),bI (uN la v)]) (b:=2) (o:=uN la v) rfl (by omega) (xN la v)
  generalize uN la v=U at *
  generalize xN la v=x at *
  by_cases c:x ∈ U
  · rw [if_pos c] at hus
    rw [hus]
    rw [decide_eq_true c] at lp
    have s7:=pa_o1_0 (F:=prL8) n ls (la.map encI) [bS own,bI (gN la (v+1)),bI U] 0 own.length (v+1) U.length U.length v x (y14:=.int .i64 (U.length:Int)) (y15:=Ud) (y16:=Ud) (y17:=Ud) (y18:=Ud) (y19:=Ud) (y20:=Ud) (y21:=Ud) (y23:=Ud) (y24:=Ud) (y26:=Ud) (y27:=Ud)
    have s8:=pa_s_0 (F:=prL8) n ls (la.map encI) [bS own,bI (gN la (v+1)),bI U] 0 own.length (v+1) U.length U.length v (y12:=.int .i64 x) (y13:=.bool true) (y14:=.int .i64 (U.length:Int)) (y15:=Ud) (y16:=Ud) (y17:=Ud) (y18:=Ud) (y19:=Ud) (y20:=Ud) (y21:=Ud) (y23:=Ud) (y24:=Ud) (y26:=Ud) (y27:=Ud)
    rw [wrap_succ (by omega)] at s8
    exact ⟨_,_,sq (s1) (sq (RunsTo.block_normal (i:=1) (c:=sub [1,1,1,1,1,0,1,0,0,1,0] B8) (sq (s2) (sq (s3) (sq (s4) (sq (s5) (sq (sq (s6) (bke (c:=sub [1,1,1,1,1,0,1,0,0,1,0,0,1,1,1,1,0,1] B8) (lp)) (c:=sub [1,1,1,1,1,0,1,0,0,1,0,0,1,1,1,1,0] B8)) (s7) (c:=sub [1,1,1,1,1,0,1,0,0,1,0,0,1,1,1,1] B8)) (c:=sub [1,1,1,1,1,0,1,0,0,1,0,0,1,1,1] B8)) (c:=sub [1,1,1,1,1,0,1,0,0,1,0,0,1,1] B8)) (c:=sub [1,1,1,1,1,0,1,0,0,1,0,0,1] B8)) (c:=sub [1,1,1,1,1,0,1,0,0,1,0,0] B8)) (by kernel_rfl)) (s8) (c:=sub [1,1,1,1,1,0,1,0,0,1] B8)) (c:=sub [1,1,1,1,1,0,1,0,0] B8)⟩
  · rw [if_neg c] at hus
    rw [hus]
    rw [decide_eq_false c] at lp
    have s7:=pa_o0_0 (F:=prL8) n ls (la.map encI) [bS own,bI (gN la (v+1)),bI U] 0 own.length (v+1) U.length U.length v x (y14:=.int .i64 (U.length:Int)) (y15:=Ud) (y16:=Ud) (y17:=Ud) (y18:=Ud) (y19:=Ud) (y20:=Ud) (y21:=Ud) (y23:=Ud) (y24:=Ud) (y26:=Ud) (y27:=Ud) a2
    rw [wrap_succ (by omega)] at s7
    have s8:=pa_s_0 (F:=prL8) n ls (la.map encI) [bS own,bI (gN la (v+1)),bI (U ++ [x])] 0 own.length (v+1) (U.length+1) (U.length+1) v (y12:=.int .i64 x) (y13:=.bool false) (y14:=.int .i64 (U.length:Int)) (y15:=Ud) (y16:=Ud) (y17:=Ud) (y18:=Ud) (y19:=Ud) (y20:=Ud) (y21:=Ud) (y23:=Ud) (y24:=Ud) (y26:=Ud) (y27:=Ud)
    rw [wrap_succ (by omega)] at s8
    have hl:(U ++ [x]).length=U.length+1:=by simp
    rw [hl]
    exact ⟨_,_,sq (s1) (sq (RunsTo.block_normal (i:=1) (c:=sub [1,1,1,1,1,0,1,0,0,1,0] B8) (sq (s2) (sq (s3) (sq (s4) (sq (s5) (sq (sq (s6) (bke (c:=sub [1,1,1,1,1,0,1,0,0,1,0,0,1,1,1,1,0,1] B8) (lp)) (c:=sub [1,1,1,1,1,0,1,0,0,1,0,0,1,1,1,1,0] B8)) (s7) (c:=sub [1,1,1,1,1,0,1,0,0,1,0,0,1,1,1,1] B8)) (c:=sub [1,1,1,1,1,0,1,0,0,1,0,0,1,1,1] B8)) (c:=sub [1,1,1,1,1,0,1,0,0,1,0,0,1,1] B8)) (c:=sub [1,1,1,1,1,0,1,0,0,1,0,0,1] B8)) (c:=sub [1,1,1,1,1,0,1,0,0,1,0,0] B8)) (by kernel_rfl)) (s8) (c:=sub [1,1,1,1,1,0,1,0,0,1] B8)) (c:=sub [1,1,1,1,1,0,1,0,0] B8)⟩
theorem ap_mn {n:Int} {ls:List HV} {la g:List Int} {own:List St} {k:Nat} {H:Heap} (h0:H[0]?=some (bS own)) (h1:H[1]?=some (bI g)) (hg:∀ s ∈ own,(0 ≤ s.1∧s.1 < (g.length:Int))∧0 ≤ s.2.1∧s.2.1 < (g.length:Int)) (hol:own.length ≤ 100) :
    RT polL8 8 (sub [1,1,1,1,1,1,1,0,1,0] B8) ((env8 (.int .i64 n) (.imm .arg 3 ls) (.imm .arg 1 (la.map encI)) (.bool false) (.sl 0 0 own.length none own.length 3) (.sl 1 0 (g.length) none (g.length) 1) Ud (.int .i64 (k:Int)) Ud Ud Ud Ud (.int .i64 (-1)) (.int .i64 ((0:Nat):Int)) Ud Ud Ud Ud Ud Ud Ud Ud Ud)) H (.exit 4) ((env8 (.int .i64 n) (.imm .arg 3 ls) (.imm .arg 1 (la.map encI)) (.bool false) (.sl 0 0 own.length none own.length 3) (.sl 1 0 (g.length) none (g.length) 1) Ud (.int .i64 (k:Int)) Ud Ud Ud Ud (.int .i64 (mnT g own)) (.int .i64 ((own.length:Nat):Int)) Ud Ud Ud Ud Ud Ud Ud Ud Ud)) H:=by
  have key:∀ i,i < own.length → RT polL8 8 (sub [1,1,1,1,1,1,1,0,1,0,0] B8) ((env8 (.int .i64 n) (.imm .arg 3 ls) (.imm .arg 1 (la.map encI)) (.bool false) (.sl 0 0 own.length none own.length 3) (.sl 1 0 (g.length) none (g.length) 1) Ud (.int .i64 (k:Int)) Ud Ud Ud Ud (.int .i64 (mnT g (own.take i))) (.int .i64 ((i:Nat):Int)) Ud Ud Ud Ud Ud Ud Ud Ud Ud)) H .normal ((env8 (.int .i64 n) (.imm .arg 3 ls) (.imm .arg 1 (la.map encI)) (.bool false) (.sl 0 0 own.length none own.length 3) (.sl 1 0 (g.length) none (g.length) 1) Ud (.int .i64 (k:Int)) Ud Ud Ud Ud (.int .i64 (mnT g (own.take (i+1)))) (.int .i64 ((i+1:Nat):Int)) Ud Ud Ud Ud Ud Ud Ud Ud Ud)) H:=fun i hi=>by
    have hs:=hg _ (mem_getD (0,0,0) hi)
    have ix:=idx_sa (b:=0) (cap:=none) hi
    have fA:=ld_fld h0 hi 0 _ rfl
    have fB:=ld_fld h0 hi 1 _ rfl
    have fW:=ld_fld h0 hi 2 _ rfl
    rw [mnT_succ g own hi,mnS]
    generalize own.getD i (0,0,0)=s at *
    obtain ⟨A,D,W⟩:=s
    simp only at hs fA fB fW ⊢
    obtain ⟨A,rfl⟩:=Int.eq_ofNat_of_zero_le hs.1.1
    obtain ⟨D,rfl⟩:=Int.eq_ofNat_of_zero_le hs.2.1
    have hA:A < g.length:=by omega
    have hD:D < g.length:=by omega
    have iA:=idxS (b:=1) (cap:=none) u24 z3 hA
    have iD:=idxS (b:=1) (cap:=none) u24 z3 hD
    have lA:=load_out h1 hA
    have lD:=load_out h1 hD
    rw [Int.toNat_natCast,Int.toNat_natCast]
    generalize mnT g (own.take i)=bt at *
    by_cases c:g.getD A 0=g.getD D 0
    · rw [if_neg (fun h=>h.1 c)]
      have s:=pa_l_0 (F:=prL8) n ls (la.map encI) H 0 own.length g.length k bt i A D (g.getD A 0) (g.getD D 0) W (y9:=Ud) (y11:=Ud) (y12:=Ud) (y13:=Ud) (y14:=Ud) (y17:=Ud) (y18:=Ud) (y19:=Ud) (y20:=Ud) (y21:=Ud) (y23:=Ud) (y24:=Ud) (y26:=Ud) (y27:=Ud) (by omega) ix fA iA lA ix fB iD lD c
      rw [wrap_succ (by omega)] at s
      exact s
    · by_cases c1:bt < 0
      · rw [if_pos ⟨c,.inl c1⟩]
        have s:=pa_l_1 (F:=prL8) n ls (la.map encI) H 0 own.length g.length k bt i A D (g.getD A 0) (g.getD D 0) W (y9:=Ud) (y11:=Ud) (y12:=Ud) (y13:=Ud) (y14:=Ud) (y17:=Ud) (y18:=Ud) (y19:=Ud) (y20:=Ud) (y21:=Ud) (y23:=Ud) (y24:=Ud) (y26:=Ud) (y27:=Ud) (by omega) ix fA iA lA ix fB iD lD c c1 ix fW
        rw [wrap_succ (by omega)] at s
        exact s
      · by_cases c2:W < bt
        · rw [if_pos ⟨c,.inr c2⟩]
          have s:=pa_l_2 (F:=prL8) n ls (la.map encI) H 0 own.length g.length k bt i A D (g.getD A 0) (g.getD D 0) W (y9:=Ud) (y11:=Ud) (y12:=Ud) (y13:=Ud) (y14:=Ud) (y17:=Ud) (y18:=Ud) (y19:=Ud) (y20:=Ud) (y21:=Ud) (y23:=Ud) (y24:=Ud) (y26:=Ud) (y27:=Ud) (by omega) ix fA iA lA ix fB iD lD c c1 ix fW c2 ix fW
          rw [wrap_succ (by omega)] at s
          exact s
        · rw [if_neg (fun h=>h.2.elim c1 c2)]
          have s:=pa_l_3 (F:=prL8) n ls (la.map encI) H 0 own.length g.length k bt i A D (g.getD A 0) (g.getD D 0) W (y9:=Ud) (y11:=Ud) (y12:=Ud) (y13:=Ud) (y14:=Ud) (y17:=Ud) (y18:=Ud) (y19:=Ud) (y20:=Ud) (y21:=Ud) (y23:=Ud) (y24:=Ud) (y26:=Ud) (y27:=Ud) (by omega) ix fA iA lA ix fB iD lD c c1 ix fW c2
          rw [wrap_succ (by omega)] at s
          exact s
  have out:RT polL8 8 (sub [1,1,1,1,1,1,1,0,1,0,0] B8) ((env8 (.int .i64 n) (.imm .arg 3 ls) (.imm .arg 1 (la.map encI)) (.bool false) (.sl 0 0 own.length none own.length 3) (.sl 1 0 (g.length) none (g.length) 1) Ud (.int .i64 (k:Int)) Ud Ud Ud Ud (.int .i64 (mnT g (own.take own.length))) (.int .i64 ((own.length:Nat):Int)) Ud Ud Ud Ud Ud Ud Ud Ud Ud)) H (.exit 4) ((env8 (.int .i64 n) (.imm .arg 3 ls) (.imm .arg 1 (la.map encI)) (.bool false) (.sl 0 0 own.length none own.length 3) (.sl 1 0 (g.length) none (g.length) 1) Ud (.int .i64 (k:Int)) Ud Ud Ud Ud (.int .i64 (mnT g own)) (.int .i64 ((own.length:Nat):Int)) Ud Ud Ud Ud Ud Ud Ud Ud Ud)) H:=by
    rw [List.take_length]
    exact pa_l_4 (F:=prL8) n ls (la.map encI) H 0 own.length g.length k (mnT g own) own.length 0 0 0 0 0 (y9:=Ud) (y11:=Ud) (y12:=Ud) (y13:=Ud) (y14:=Ud) (y17:=Ud) (y18:=Ud) (y19:=Ud) (y20:=Ud) (y21:=Ud) (y23:=Ud) (y24:=Ud) (y26:=Ud) (y27:=Ud) (by omega)
  exact count (pol':=polL8) (f:=8) (E:=fun i=>(env8 (.int .i64 n) (.imm .arg 3 ls) (.imm .arg 1 (la.map encI)) (.bool false) (.sl 0 0 own.length none own.length 3) (.sl 1 0 (g.length) none (g.length) 1) Ud (.int .i64 (k:Int)) Ud Ud Ud Ud (.int .i64 (mnT g (own.take i))) (.int .i64 ((i:Nat):Int)) Ud Ud Ud Ud Ud Ud Ud Ud Ud)) (Hs:=fun _=>H) own.length key (fun i _=>by kernel_rfl) (fun i _=>gc_eq _ rfl) out (by simp) (c:=sub [1,1,1,1,1,1,1,0,1,0] B8) (by kernel_rfl) (fun i _=>by kernel_rfl)
def ptN (G:List Int) (i:Nat):Nat:=((List.range i).filter fun (v:Nat)=>decide (G.getD v 0=(v:Int))).length
theorem ptN_succ (G:List Int) (i:Nat):ptN G (i+1)=ptN G i+if G.getD i 0=(i:Int) then 1 else 0:=by
  rw [ptN,List.range_succ,List.filter_append,List.length_append,ptN]
  congr 1
  by_cases c:G.getD i 0=(i:Int)
  · have e:([i].filter fun (v:Nat)=>decide (G.getD v 0=(v:Int)))=[i]:=List.filter_cons_of_pos (p:=fun (v:Nat)=>decide (G.getD v 0=(v:Int))) (decide_eq_true c)
    rw [if_pos c,e]; rfl
  · have e:([i].filter fun (v:Nat)=>decide (G.getD v 0=(v:Int)))=[]:=List.filter_cons_of_neg (p:=fun (v:Nat)=>decide (G.getD v 0=(v:Int))) (by simpa using c)
    rw [if_neg c,e]; rfl
theorem ap_pt {n:Int} {ls:List HV} {la G:List Int} {own:List St} {k pb:Nat} {H:Heap} (h1:H[pb]?=some (bI G)) (hG:(G.length:Int)=n) (hn:n ≤ 100) (hp:∀ v,v < G.length → (0 ≤ G.getD v 0∧G.getD v 0 ≤ (v:Int))∧G.getD (G.getD v 0).toNat 0=G.getD v 0) :
    RT polL8 8 (sub [1,1,1,1,1,1,1,1,1,1,1,0,1,0] B8) ((env8 (.int .i64 n) (.imm .arg 3 ls) (.imm .arg 1 (la.map encI)) (.bool false) (.sl 0 0 own.length none own.length 3) Ud Ud (.int .i64 (k:Int)) Ud Ud Ud Ud Ud Ud (.sl pb 0 (G.length) none (G.length) 1) Ud Ud (.int .i64 ((0:Nat):Int)) (.int .i64 ((0:Nat):Int)) Ud Ud Ud Ud)) H (.exit 6) ((env8 (.int .i64 n) (.imm .arg 3 ls) (.imm .arg 1 (la.map encI)) (.bool false) (.sl 0 0 own.length none own.length 3) Ud Ud (.int .i64 (k:Int)) Ud Ud Ud Ud Ud Ud (.sl pb 0 (G.length) none (G.length) 1) Ud Ud (.int .i64 ((ptN G G.length:Nat):Int)) (.int .i64 ((G.length:Nat):Int)) Ud Ud Ud Ud)) H:=by
  have hpt:∀ i,ptN G i ≤ i:=fun i=>by
    have:=List.length_filter_le (fun (v:Nat)=>decide (G.getD v 0=(v:Int))) (List.range i)
    rw [List.length_range] at this
    exact this
  have key:∀ i,i < G.length → RT polL8 8 (sub [1,1,1,1,1,1,1,1,1,1,1,0,1,0,0] B8) ((env8 (.int .i64 n) (.imm .arg 3 ls) (.imm .arg 1 (la.map encI)) (.bool false) (.sl 0 0 own.length none own.length 3) Ud Ud (.int .i64 (k:Int)) Ud Ud Ud Ud Ud Ud (.sl pb 0 (G.length) none (G.length) 1) Ud Ud (.int .i64 ((ptN G i:Nat):Int)) (.int .i64 ((i:Nat):Int)) Ud Ud Ud Ud)) H .normal ((env8 (.int .i64 n) (.imm .arg 3 ls) (.imm .arg 1 (la.map encI)) (.bool false) (.sl 0 0 own.length none own.length 3) Ud Ud (.int .i64 (k:Int)) Ud Ud Ud Ud Ud Ud (.sl pb 0 (G.length) none (G.length) 1) Ud Ud (.int .i64 ((ptN G (i+1):Nat):Int)) (.int .i64 ((i+1:Nat):Int)) Ud Ud Ud Ud)) H:=fun i hi=>by
    obtain ⟨⟨p1,p2⟩,p3⟩:=hp i hi
    have:=hpt i
    have ix:=idxS (b:=pb) (cap:=none) u24 z3 hi
    have ly:=load_out h1 hi
    rw [ptN_succ]
    generalize hr:G.getD i 0=r at *
    obtain ⟨r,rfl⟩:=Int.eq_ofNat_of_zero_le p1
    rw [Int.toNat_natCast] at p3
    have hrl:r < G.length:=by omega
    have ir:=idxS (b:=pb) (cap:=none) u24 z3 hrl
    have lr:=load_out h1 hrl
    by_cases c:(r:Int)=(i:Int)
    · rw [if_pos c]
      have s:=pa_q_2 (F:=prL8) n ls (la.map encI) H 0 own.length k pb G.length (ptN G i) i r (G.getD r 0) (y8:=Ud) (y9:=Ud) (y11:=Ud) (y12:=Ud) (y13:=Ud) (y14:=Ud) (y15:=Ud) (y16:=Ud) (y18:=Ud) (y19:=Ud) (y23:=Ud) (y24:=Ud) (y26:=Ud) (y27:=Ud) (by omega) ix ly (by omega) ix ly (by omega) ix ly ir lr ix ly p3 ix ly c
      rw [wrap_succ (by omega),wrap_succ (by omega)] at s
      exact s
    · rw [if_neg c]
      have s:=pa_q_3 (F:=prL8) n ls (la.map encI) H 0 own.length k pb G.length (ptN G i) i r (G.getD r 0) (y8:=Ud) (y9:=Ud) (y11:=Ud) (y12:=Ud) (y13:=Ud) (y14:=Ud) (y15:=Ud) (y16:=Ud) (y18:=Ud) (y19:=Ud) (y23:=Ud) (y24:=Ud) (y26:=Ud) (y27:=Ud) (by omega) ix ly (by omega) ix ly (by omega) ix ly ir lr ix ly p3 ix ly c
      rw [wrap_succ (by omega)] at s
      exact s
  exact count (pol':=polL8) (f:=8) (E:=fun i=>(env8 (.int .i64 n) (.imm .arg 3 ls) (.imm .arg 1 (la.map encI)) (.bool false) (.sl 0 0 own.length none own.length 3) Ud Ud (.int .i64 (k:Int)) Ud Ud Ud Ud Ud Ud (.sl pb 0 (G.length) none (G.length) 1) Ud Ud (.int .i64 ((ptN G i:Nat):Int)) (.int .i64 ((i:Nat):Int)) Ud Ud Ud Ud)) (Hs:=fun _=>H) G.length key (fun i _=>by kernel_rfl) (fun i _=>gc_eq _ rfl) (pa_q_5 (F:=prL8) n ls (la.map encI) H 0 own.length k pb G.length (ptN G G.length) G.length 0 0 (y8:=Ud) (y9:=Ud) (y11:=Ud) (y12:=Ud) (y13:=Ud) (y14:=Ud) (y15:=Ud) (y16:=Ud) (y18:=Ud) (y19:=Ud) (y23:=Ud) (y24:=Ud) (y26:=Ud) (y27:=Ud) (by omega)) (by simp) (c:=sub [1,1,1,1,1,1,1,1,1,1,1,0,1,0] B8) (by kernel_rfl) (fun i _=>by kernel_rfl)
theorem arg_slD {H:Heap} {l:List St} (h0:1 < l.length) {b:Nat} (hb:H[b]?=some (bS l)):Sh kS H (.sl b 1 (l.length - 1) none l.length 3) (l.drop 1):=by
  have e:toArg H 6 (.sl b 1 (l.length - 1) none l.length 3)=if l.length - 1=0 then some (.imm .arg 3 []) else match view H b 1 (l.length - 1) l.length 3 with | some l=>(match mapO (toArg H 5) l with | some l=>some (.imm .arg 3 l) | none=>none) | none=>none:=rfl
  have hm:mapO (toArg H 5) ((l.drop 1).map encT)=some ((l.drop 1).map encT):=by
    have h2:=ShS_imm H (l.drop 1)
    exact mapO_self (fun s=>by rfl) _
  show toArg H 6 _=_
  rw [e,if_neg (by omega)]
  have hv:view H b 1 (l.length - 1) l.length 3=some ((l.drop 1).map encT):=by
    simp only [view,hb,List.length_map]
    rw [if_pos (by first | trivial | omega | exact ⟨rfl,by omega,rfl⟩ | simp; omega)]
    congr 1
    rw [← List.map_drop,List.take_of_length_le (by simp)]
  rw [hv]
  simp only [hm]
  rfl
theorem streetsApart_law (n:Int) (l:List St) (la:List Int):∃ E H,RT polL8 8 B8 (args0 [.int .i64 n,.imm .arg 3 (l.map encT),.imm .arg 1 (la.map encI)]) [] .ret E H∧E.get 6=.bool true:=by
  have a:=pa_a_0 (F:=prL8) n (l.map encT) (la.map encI)
  have hp:=modW_rng n (n:=12) (by omega) (by omega)
  have b:=pa_b_0 (F:=prL8) n (l.map encT) (la.map encI) [] (modW n 12) (y7:=Ud) (y8:=Ud) (y9:=Ud) (y10:=Ud) (y11:=Ud) (y12:=Ud) (y13:=Ud) (y14:=Ud) (y15:=Ud) (y16:=Ud) (y17:=Ud) (y18:=Ud) (y19:=Ud) (y20:=Ud) (y21:=Ud) (y23:=Ud) (y24:=Ud) (y26:=Ud) (y27:=Ud) (mod_at (F:=prL8) (by kernel_rfl) n (n:=12) (by omega) _)
  have hw:IntKind.i64.wrap (2+modW n 12)=2+modW n 12:=wrap_id (by omega) (by omega)
  rw [hw] at b
  generalize hm:2+modW n 12=m at *
  have hm1:2 ≤ m∧m ≤ 13:=by omega
  have c25:=at3 (pol':=polL8) (g:=25) (c1:=kS) (c2:=kI) (c3:=kI) (f:=fun l n most=>if (1 ≤ n∧n ≤ 100)∧0 ≤ most∧most ≤ 100 then some (.own 3 ((tamT n l most).map encT)) else none) (H:=[]) (by kernel_rfl) (ShS_imm _ l) (ShI _ m) (ShI _ 30) (if_pos ⟨by omega,by omega,by omega⟩)
  rw [recv_sts] at c25
  have hnet:=tam_net (n:=m) (by omega) l (most:=30) (by omega)
  have hc:=tam_conn (n:=m) (by omega) l (most:=30) (by omega)
  have hol:=tam_len m l 30
  have hlong:1 ≤ (tamT m l 30).length:=by rw [tamT,List.length_append,pathL_len]; omega
  generalize tamT m l 30=own at *
  have c:=pa_c_0 (F:=prL8) m (l.map encT) (la.map encI) [] 0 own.length (y7:=Ud) (y8:=Ud) (y9:=Ud) (y10:=Ud) (y11:=Ud) (y12:=Ud) (y13:=Ud) (y14:=Ud) (y15:=Ud) (y16:=Ud) (y17:=Ud) (y18:=Ud) (y19:=Ud) (y20:=Ud) (y21:=Ud) (y23:=Ud) (y24:=Ud) (y26:=Ud) (y27:=Ud) c25
  have d:=pa_d_0 (F:=prL8) m (l.map encT) (la.map encI) [bS own] 0 own.length (y8:=Ud) (y9:=Ud) (y10:=Ud) (y11:=Ud) (y12:=Ud) (y13:=Ud) (y14:=Ud) (y15:=Ud) (y16:=Ud) (y17:=Ud) (y18:=Ud) (y19:=Ud) (y20:=Ud) (y21:=Ud) (y23:=Ud) (y24:=Ud) (y26:=Ud) (y27:=Ud) rfl rfl
  have e:=pa_e_0 (F:=prL8) m (l.map encT) (la.map encI) [bS own,bI [],bI []] 0 own.length 0 0 (y10:=Ud) (y11:=Ud) (y12:=Ud) (y13:=Ud) (y14:=Ud) (y15:=Ud) (y16:=Ud) (y17:=Ud) (y18:=Ud) (y19:=Ud) (y20:=Ud) (y21:=Ud) (y23:=Ud) (y24:=Ud) (y26:=Ud) (y27:=Ud)
  have f:=pa_f_0 (F:=prL8) m (l.map encT) (la.map encI) [bS own,bI [],bI []] 0 own.length 0 0 0 (y11:=Ud) (y12:=Ud) (y13:=Ud) (y14:=Ud) (y15:=Ud) (y16:=Ud) (y17:=Ud) (y18:=Ud) (y19:=Ud) (y20:=Ud) (y21:=Ud) (y23:=Ud) (y24:=Ud) (y26:=Ud) (y27:=Ud)
  obtain ⟨M,rfl⟩:=Int.eq_ofNat_of_zero_le (show 0 ≤ m by omega)
  obtain ⟨x,E',H',r,rfl,rfl,rfl⟩:=countI (pol':=polL8) (f:=8) (b:=sub [1,1,1,1,1,0,1,0,0] B8) (c:=sub [1,1,1,1,1,0,1,0] B8) (I:=fun i e H=>e=(let n:Int:=(M:Int); let ls:=l.map encT; (env8 (.int .i64 n) (.imm .arg 3 ls) (.imm .arg 1 (la.map encI)) (.bool false) (.sl 0 0 own.length none own.length 3) (.sl 1 0 (i) none (i) 1) (.sl 2 0 ((uN la (i)).length) none ((uN la (i)).length) 1) (.int .i64 ((uN la (i)).length:Int)) (.int .i64 ((i:Nat):Int)) Ud Ud Ud Ud Ud Ud Ud Ud Ud Ud Ud Ud Ud Ud))∧H=[bS own,bI (gN la i),bI (uN la i)])
    (Q:=fun x E' H'=>x=.exit 0∧E'=(let n:Int:=(M:Int); let ls:=l.map encT; (env8 (.int .i64 n) (.imm .arg 3 ls) (.imm .arg 1 (la.map encI)) (.bool false) (.sl 0 0 own.length none own.length 3) (.sl 1 0 (M) none (M) 1) (.sl 2 0 ((uN la (M)).length) none ((uN la (M)).length) 1) (.int .i64 ((uN la (M)).length:Int)) (.int .i64 ((M:Nat):Int)) Ud Ud Ud Ud Ud Ud Ud Ud Ud Ud Ud Ud Ud Ud))∧H'=[bS own,bI (gN la M),bI (uN la M)]) M
    (by
      rintro i hi e H ⟨rfl,rfl⟩
      obtain ⟨z13,z14,h1⟩:=ap_round (n:=(M:Int)) (ls:=l.map encT) (la:=la) (own:=own) (v:=i) (by omega) (by omega)
      exact ⟨_,_,h1,by kernel_rfl,gc_eq _ rfl⟩)
    (by
      rintro e H ⟨rfl,rfl⟩
      have s:=pa_g_1 (F:=prL8) (M:Int) (l.map encT) (la.map encI) [bS own,bI (gN la M),bI (uN la M)] 0 own.length M (uN la M).length (uN la M).length M (y12:=Ud) (y13:=Ud) (y14:=Ud) (y15:=Ud) (y16:=Ud) (y17:=Ud) (y18:=Ud) (y19:=Ud) (y20:=Ud) (y21:=Ud) (y23:=Ud) (y24:=Ud) (y26:=Ud) (y27:=Ud) (by omega)
      exact ⟨_,_,_,sqo (s) (c:=sub [1,1,1,1,1,0,1,0,0] B8) (b:=sub [1,1,1,1,1,0,1,0,0,1] B8),by simp,rfl,rfl,rfl⟩)
    (by kernel_rfl) (by rintro i e H ⟨rfl,_⟩; kernel_rfl) (e:=(let n:Int:=(M:Int); let ls:=l.map encT; (env8 (.int .i64 n) (.imm .arg 3 ls) (.imm .arg 1 (la.map encI)) (.bool false) (.sl 0 0 own.length none own.length 3) (.sl 1 0 (0) none (0) 1) (.sl 2 0 ((uN la (0)).length) none ((uN la (0)).length) 1) (.int .i64 ((uN la (0)).length:Int)) (.int .i64 ((0:Nat):Int)) Ud Ud Ud Ud Ud Ud Ud Ud Ud Ud Ud Ud Ud Ud))) (H:=[bS own,bI [],bI []]) ⟨rfl,rfl⟩
  have hul:=uN_len la M
  have hun:=uN_nodup la M
  have hum:∀ x,x ∈ uN la M ↔ ∃ v,v < M∧xN la v=x:=fun x=>uN_mem la M
  have hgl:=gN_len la M
  have hgg:∀ v,v < M → (gN la M).getD v 0=xN la v:=fun v h=>gN_get h
  have hu1:1 ≤ (uN la M).length:=by
    have:xN la 0 ∈ uN la M:=(hum _).2 ⟨0,by omega,rfl⟩
    exact List.length_pos_of_mem this
  generalize hU:uN la M=U at *
  generalize hg:gN la M=g at *
  obtain ⟨⟨w1,w2⟩,w3,he,hw'⟩:=netB_ends hnet
  have t:=pa_t_0 (F:=prL8) (M:Int) (l.map encT) (la.map encI) [bS own,bI g,bI U] 0 own.length M U.length U.length (y11:=.int .i64 (M:Int)) (y12:=Ud) (y13:=Ud) (y14:=Ud) (y15:=Ud) (y16:=Ud) (y17:=Ud) (y18:=Ud) (y19:=Ud) (y20:=Ud) (y21:=Ud) (y23:=Ud) (y24:=Ud) (y26:=Ud) (y27:=Ud)
  have u:=pa_u_0 (F:=prL8) (M:Int) (l.map encT) (la.map encI) [bS own,bI g,bI U] 0 own.length M U.length (-1) (y9:=.sl 2 0 U.length none U.length 1) (y11:=.int .i64 (M:Int)) (y12:=Ud) (y13:=Ud) (y14:=Ud) (y16:=Ud) (y17:=Ud) (y18:=Ud) (y19:=Ud) (y20:=Ud) (y21:=Ud) (y23:=Ud) (y24:=Ud) (y26:=Ud) (y27:=Ud)
  have lp2:=ap_mn (n:=(M:Int)) (ls:=l.map encT) (la:=la) (g:=g) (own:=own) (k:=U.length) (H:=[bS own,bI g,bI U]) rfl rfl (fun s hs=>by
    have:=endN_iff.1 he s hs
    omega) (by omega)
  rw [hgl] at lp2
  have sS:∀ X:Heap,Sh kS ([bS own,bI g,bI U] ++ X) (.sl 0 0 own.length none own.length 3) own:=fun X=>ShS_sl rfl rfl
  have c33:=at3 (pol':=polL8) (g:=33) (c1:=kI) (c2:=kS) (c3:=kI) (f:=fun n l kk=>if l.length ≤ 500 then some (gpO n l kk) else none) (H:=[bS own,bI g,bI U]) (by kernel_rfl) (ShI _ (M:Int)) (sS []) (ShI _ (U.length:Int)) (if_pos (by omega))
  have hk:1 ≤ (U.length:Int)∧(U.length:Int) ≤ (M:Int):=by omega
  have hE:gpE (M:Int) own (U.length:Int)=0:=by rw [gpE,if_pos ⟨hnet,hk⟩,if_pos hc]
  rw [gpO_ok hE,recv_lii] at c33
  have hlt:=apart_le hnet hc hk (g:=g) (us:=U) hun rfl (fun x hx=>by
    obtain ⟨v,h1,h2⟩:=(hum x).1 hx
    exact ⟨(v:Int),by omega,by rw [Int.toNat_natCast,hgg v h1,h2]⟩) (fun v h0 h1=>by
    have:v.toNat < M:=by omega
    rw [hgg _ this]
    exact (hum _).2 ⟨v.toNat,this,rfl⟩)
  have hPin:=pre_in hnet hc hk
  have hrts:=pre_rts hnet hc hk
  have hGl:(gpT (M:Int) own (U.length:Int)).length=M:=by rw [gpT,grpT_len (by omega) (endB_net hnet) hPin]; omega
  have hGg:∀ v,v < M → (gpT (M:Int) own (U.length:Int)).getD v 0=lb own ((treeT own).take ((M:Int) - (U.length:Int)).toNat) (v:Int):=fun v hv=>by
    have:=grp_get (n:=M) (l:=own) (t:=(treeT own).take ((M:Int) - (U.length:Int)).toNat) (v:=v) hv (by omega)
    rw [gpT,Int.toNat_natCast]
    exact this
  have hpt:ptN (gpT (M:Int) own (U.length:Int)) M=U.length:=by
    have e:ptN (gpT (M:Int) own (U.length:Int)) M=(rts own ((treeT own).take ((M:Int) - (U.length:Int)).toNat) M).length:=by
      unfold ptN rts
      refine congrArg _ (List.filter_congr fun v hv=>?_)
      rw [hGg v (List.mem_range.1 hv)]
    rw [Int.toNat_natCast] at hrts
    omega
  have hlab:∀ v,v < M → (0 ≤ (gpT (M:Int) own (U.length:Int)).getD v 0∧(gpT (M:Int) own (U.length:Int)).getD v 0 ≤ (v:Int))∧(gpT (M:Int) own (U.length:Int)).getD ((gpT (M:Int) own (U.length:Int)).getD v 0).toNat 0=(gpT (M:Int) own (U.length:Int)).getD v 0:=fun v hv=>by
    have h1:=lb_lo (endB_net hnet) hPin (v:=(v:Int)) (by omega)
    rw [hGg v hv]
    have h2:=hGg (lb own ((treeT own).take ((M:Int) - (U.length:Int)).toNat) (v:Int)).toNat (by omega)
    rw [h2,show (((lb own ((treeT own).take ((M:Int) - (U.length:Int)).toNat) (v:Int)).toNat:Nat):Int)=lb own ((treeT own).take ((M:Int) - (U.length:Int)).toNat) (v:Int) by omega]
    exact ⟨⟨h1.1,h1.2.1⟩,h1.2.2⟩
  generalize gpT (M:Int) own (U.length:Int)=G at *
  rw [hGl] at c33
  have w:=pa_w_0 (F:=prL8) (M:Int) (l.map encT) (la.map encI) [bS own,bI g,bI U] 0 own.length M U.length (mnT g own) 3 M (mnT G own) 0 (y16:=.int .i64 (own.length:Int)) (y9:=Ud) (y11:=Ud) (y12:=Ud) (y13:=Ud) (y14:=Ud) (y17:=Ud) (y18:=Ud) (y19:=Ud) (y20:=Ud) (y21:=Ud) (y23:=Ud) (y24:=Ud) (y26:=Ud) (y27:=Ud) c33
  generalize hK:[bS own,bI g,bI U] ++ [bI G]=K at *
  have hK1:K=[bS own,bI g,bI U,bI G]:=by rw [← hK]; rfl
  have x:=pa_x_1 (F:=prL8) (M:Int) (l.map encT) (la.map encI) K 0 own.length M U.length (mnT g own) 3 M (mnT G own) 0 (y16:=.int .i64 (own.length:Int)) (y9:=Ud) (y11:=Ud) (y12:=Ud) (y13:=Ud) (y14:=Ud) (y20:=Ud) (y21:=Ud) (y23:=Ud) (y24:=Ud) (y26:=Ud) (y27:=Ud) rfl rfl hlt
  have y:=pa_y_0 (F:=prL8) (M:Int) (l.map encT) (la.map encI) K 0 own.length U.length 3 M (y8:=.sl 1 0 M none M 1) (y15:=.int .i64 (mnT g own)) (y16:=.int .i64 (own.length:Int)) (y18:=.int .i64 (mnT G own)) (y19:=.int .i64 0) (y9:=Ud) (y11:=Ud) (y12:=Ud) (y13:=Ud) (y14:=Ud) (y20:=Ud) (y21:=Ud) (y23:=Ud) (y24:=Ud) (y26:=Ud) (y27:=Ud)
  have y2:=pa_y2_0 (F:=prL8) (M:Int) (l.map encT) (la.map encI) K 0 own.length U.length 3 M 0 (y8:=.sl 1 0 M none M 1) (y15:=.int .i64 (mnT g own)) (y16:=.int .i64 (own.length:Int)) (y18:=.int .i64 (mnT G own)) (y19:=.int .i64 0) (y9:=Ud) (y11:=Ud) (y12:=Ud) (y13:=Ud) (y14:=Ud) (y21:=Ud) (y23:=Ud) (y24:=Ud) (y26:=Ud) (y27:=Ud)
  have lp3:=ap_pt (n:=(M:Int)) (ls:=l.map encT) (la:=la) (G:=G) (own:=own) (k:=U.length) (pb:=3) (H:=K) (by rw [hK1]; rfl) (by rw [hGl]) (by omega) (fun v hv=>hlab v (by omega))
  rw [hGl,hpt] at lp3
  have sK:∀ X:Heap,Sh kS (K ++ X) (.sl 0 0 own.length none own.length 3) own:=fun X=>by rw [hK1]; exact ShS_sl rfl rfl
  have c14:=at2 (pol':=polL8) (g:=14) (c1:=kI) (c2:=kS) (f:=fun n l=>if l.length ≤ 500∧n ≤ 13 then some (.tuple [.own 1 ((trG n l).map encI),.int .i64 (trW n l),.int .i64 (slE n l)]) else none) (H:=K) (by kernel_rfl) (ShI _ (M:Int)) (by have:=sK []; rwa [List.append_nil] at this) (if_pos ⟨by omega,by omega⟩)
  have ee:slE (M:Int) own=0:=by rw [slE,if_pos hnet,if_pos hc]
  rw [recv_lii,trG,trW,ee,if_pos rfl,if_pos rfl] at c14
  have z1:=pa_z1_0 (F:=prL8) (M:Int) (l.map encT) (la.map encI) K 0 own.length U.length 3 M U.length K.length (frT own).length (wgt own (frT own)) 0 (y21:=.int .i64 (M:Int)) (y8:=Ud) (y9:=Ud) (y11:=Ud) (y12:=Ud) (y13:=Ud) (y14:=Ud) (y15:=Ud) (y16:=Ud) (y18:=Ud) (y19:=Ud) (y23:=Ud) (y24:=Ud) (y26:=Ud) (y27:=Ud) c14
  have sl:sliceV Tp 22 (.sl 0 0 own.length none own.length 3) (some (.int .i64 1)) none none=some (.sl 0 1 (own.length - 1) none own.length 3):=by
    have h1:(1:Int) ≥ 0:=by omega
    simp only [sliceV,boundV,u22,z42]
    simp [hlong]
  have sD:Sh kS (K ++ [bI (frT own)]) (.sl 0 1 (own.length - 1) none own.length 3) (own.drop 1):=by
    rcases Nat.lt_or_ge 1 own.length with q | q
    · exact arg_slD q (by rw [hK1]; rfl)
    · have:own.length=1:=by omega
      have e1:own.drop 1=[]:=List.drop_eq_nil_of_le (by omega)
      rw [this,e1]
      rfl
  have c14b:=at2 (pol':=polL8) (g:=14) (c1:=kI) (c2:=kS) (f:=fun n l=>if l.length ≤ 500∧n ≤ 13 then some (.tuple [.own 1 ((trG n l).map encI),.int .i64 (trW n l),.int .i64 (slE n l)]) else none) (H:=K ++ [bI (frT own)]) (by kernel_rfl) (ShI _ (M:Int)) sD (if_pos ⟨by rw [List.length_drop]; omega,by omega⟩)
  rw [recv_lii] at c14b
  have z2:=pa_z2_0 (F:=prL8) (M:Int) (l.map encT) (la.map encI) (K ++ [bI (frT own)]) 0 own.length U.length 3 M U.length 0 0 (wgt own (frT own)) 0 _ _ _ _ (y21:=.int .i64 (M:Int)) (y8:=Ud) (y9:=Ud) (y11:=Ud) (y12:=Ud) (y13:=Ud) (y14:=Ud) (y15:=Ud) (y16:=Ud) (y18:=Ud) (y19:=Ud) (y26:=Ud) (y27:=Ud) sl c14b
  have aw:∀ H,∀ k,callN Tp polL8 (k+1) 18 [] H=some (.bool true,H):=fun H=>awake_at (by kernel_rfl) H
  by_cases q:slE (M:Int) (own.drop 1)=0
  · have hD:netB (M:Int) (own.drop 1)=true∧connB (M:Int) (own.drop 1)=true:=by
      unfold slE at q
      split at q
      · rename_i h1
        split at q
        · rename_i h2; exact ⟨h1,h2⟩
        · cases q
      · cases q
    have hle:=drop_le hnet hD.1 hD.2
    have eW:trW (M:Int) (own.drop 1)=wgt (own.drop 1) (frT (own.drop 1)):=if_pos q
    have z:=pa_z_0 (F:=prL8) (M:Int) (l.map encT) (la.map encI) (K ++ [bI (frT own)] ++ [bI (trG (M:Int) (own.drop 1))]) 0 own.length U.length 3 M U.length 0 0 (wgt own (frT own)) 0 (trW (M:Int) (own.drop 1)) (slE (M:Int) (own.drop 1)) (y21:=.int .i64 (M:Int)) (y8:=Ud) (y9:=Ud) (y11:=Ud) (y12:=Ud) (y13:=Ud) (y14:=Ud) (y15:=Ud) (y16:=Ud) (y18:=Ud) (y19:=Ud) rfl rfl q (by rw [eW]; exact hle) (aw _)
    exact ⟨_,_,sq (a) (sq (b) (sq (c) (sq (d) (sq (e) (sq (sq (f) (bke (c:=sub [1,1,1,1,1,0,1] B8) (r)) (c:=sub [1,1,1,1,1,0] B8)) (sq (t) (sq (sq (u) (bke (c:=sub [1,1,1,1,1,1,1,0,1] B8) (lpi (e0:=(env8 (.int .i64 (M:Int)) (.imm .arg 3 (l.map encT)) (.imm .arg 1 (la.map encI)) (.bool false) (.sl 0 0 own.length none own.length 3) (.sl 1 0 (M) none (M) 1) (.sl 2 0 (U.length) none (U.length) 1) (.int .i64 (U.length:Int)) (.int .i64 (M:Int)) Ud Ud Ud (.int .i64 (-1)) (.int .i64 ((0:Nat):Int)) Ud Ud Ud Ud Ud Ud Ud Ud Ud)) lp2 (b:=sub [1,1,1,1,1,1,1,0,1,0,0] B8))) (c:=sub [1,1,1,1,1,1,1,0] B8)) (sq (w) (sq (x) (sq (y) (sq (sq (y2) (bke (c:=sub [1,1,1,1,1,1,1,1,1,1,1,0,1] B8) (lpi (e0:=(env8 (.int .i64 (M:Int)) (.imm .arg 3 (l.map encT)) (.imm .arg 1 (la.map encI)) (.bool false) (.sl 0 0 own.length none own.length 3) (.sl 1 0 (M) none (M) 1) Ud (.int .i64 (U.length:Int)) Ud Ud Ud Ud (.int .i64 (mnT g own)) (.int .i64 (own.length:Int)) (.sl 3 0 (M) none (M) 1) (.int .i64 (mnT G own)) (.int .i64 0) (.int .i64 ((0:Nat):Int)) (.int .i64 ((0:Nat):Int)) Ud Ud Ud Ud)) lp3 (b:=sub [1,1,1,1,1,1,1,1,1,1,1,0,1,0,0] B8))) (c:=sub [1,1,1,1,1,1,1,1,1,1,1,0] B8)) (sq (z1) (sq (z2) (z) (c:=sub [1,1,1,1,1,1,1,1,1,1,1,1,1] B8)) (c:=sub [1,1,1,1,1,1,1,1,1,1,1,1] B8)) (c:=sub [1,1,1,1,1,1,1,1,1,1,1] B8)) (c:=sub [1,1,1,1,1,1,1,1,1,1] B8)) (c:=sub [1,1,1,1,1,1,1,1,1] B8)) (c:=sub [1,1,1,1,1,1,1,1] B8)) (c:=sub [1,1,1,1,1,1,1] B8)) (c:=sub [1,1,1,1,1,1] B8)) (c:=sub [1,1,1,1,1] B8)) (c:=sub [1,1,1,1] B8)) (c:=sub [1,1,1] B8)) (c:=sub [1,1] B8)) (c:=sub [1] B8)) (c:=B8),rfl⟩
  · have z:=pa_z_2 (F:=prL8) (M:Int) (l.map encT) (la.map encI) (K ++ [bI (frT own)] ++ [bI (trG (M:Int) (own.drop 1))]) 0 own.length U.length 3 M U.length 0 0 (wgt own (frT own)) 0 (trW (M:Int) (own.drop 1)) (slE (M:Int) (own.drop 1)) (y21:=.int .i64 (M:Int)) (y8:=Ud) (y9:=Ud) (y11:=Ud) (y12:=Ud) (y13:=Ud) (y14:=Ud) (y15:=Ud) (y16:=Ud) (y18:=Ud) (y19:=Ud) rfl rfl q (aw _)
    exact ⟨_,_,sq (a) (sq (b) (sq (c) (sq (d) (sq (e) (sq (sq (f) (bke (c:=sub [1,1,1,1,1,0,1] B8) (r)) (c:=sub [1,1,1,1,1,0] B8)) (sq (t) (sq (sq (u) (bke (c:=sub [1,1,1,1,1,1,1,0,1] B8) (lpi (e0:=(env8 (.int .i64 (M:Int)) (.imm .arg 3 (l.map encT)) (.imm .arg 1 (la.map encI)) (.bool false) (.sl 0 0 own.length none own.length 3) (.sl 1 0 (M) none (M) 1) (.sl 2 0 (U.length) none (U.length) 1) (.int .i64 (U.length:Int)) (.int .i64 (M:Int)) Ud Ud Ud (.int .i64 (-1)) (.int .i64 ((0:Nat):Int)) Ud Ud Ud Ud Ud Ud Ud Ud Ud)) lp2 (b:=sub [1,1,1,1,1,1,1,0,1,0,0] B8))) (c:=sub [1,1,1,1,1,1,1,0] B8)) (sq (w) (sq (x) (sq (y) (sq (sq (y2) (bke (c:=sub [1,1,1,1,1,1,1,1,1,1,1,0,1] B8) (lpi (e0:=(env8 (.int .i64 (M:Int)) (.imm .arg 3 (l.map encT)) (.imm .arg 1 (la.map encI)) (.bool false) (.sl 0 0 own.length none own.length 3) (.sl 1 0 (M) none (M) 1) Ud (.int .i64 (U.length:Int)) Ud Ud Ud Ud (.int .i64 (mnT g own)) (.int .i64 (own.length:Int)) (.sl 3 0 (M) none (M) 1) (.int .i64 (mnT G own)) (.int .i64 0) (.int .i64 ((0:Nat):Int)) (.int .i64 ((0:Nat):Int)) Ud Ud Ud Ud)) lp3 (b:=sub [1,1,1,1,1,1,1,1,1,1,1,0,1,0,0] B8))) (c:=sub [1,1,1,1,1,1,1,1,1,1,1,0] B8)) (sq (z1) (sq (z2) (z) (c:=sub [1,1,1,1,1,1,1,1,1,1,1,1,1] B8)) (c:=sub [1,1,1,1,1,1,1,1,1,1,1,1] B8)) (c:=sub [1,1,1,1,1,1,1,1,1,1,1] B8)) (c:=sub [1,1,1,1,1,1,1,1,1,1] B8)) (c:=sub [1,1,1,1,1,1,1,1,1] B8)) (c:=sub [1,1,1,1,1,1,1,1] B8)) (c:=sub [1,1,1,1,1,1,1] B8)) (c:=sub [1,1,1,1,1,1] B8)) (c:=sub [1,1,1,1,1] B8)) (c:=sub [1,1,1,1] B8)) (c:=sub [1,1,1] B8)) (c:=sub [1,1] B8)) (c:=sub [1] B8)) (c:=B8),rfl⟩
end Go.Proofs.Ytiejmoglooaalaa
end
section
namespace Go.HL
open Go.ChangeShapes Go.WideShapes Go.ChangeAt Go.RowKit Go.Deep
theorem okNil (w:World) (r:Nat):okOf Ctx.nil w.heap.size false r:=by
  refine ⟨fun hM=>?_,by simp⟩
  obtain ⟨b,y,h1,_,_⟩:=M_iff.1 hM
  simp [Ctx.nil] at h1
theorem cell_lt {w:World} {a:Addr} {v:Value} (h:w.cell? a=some v):a.block < w.heap.size:=by
  rcases Nat.lt_or_ge a.block w.heap.size with hl | hl
  · exact hl
  · have:w.heap[a.block]?=none:=by simp [hl]
    simp [World.cell?,this] at h
end Go.HL
end
section
namespace Go.HL
open Go.ChangeShapes Go.WideShapes Go.ChangeAt Go.RowKit Go.Deep
theorem arg_ints_ok {H:Type} {enc:TypeId × Value → H} {P:Program} {W:World} {base:Nat} {t q:TypeId} {v:Value} {d:DataW H} {ps:List MemPlace} (ht:P.underlying t=some (.slice q)) (hq:P.underlying q=some (.int .i64)) (cq:P.cellsOf q=1)
    (hval:Value.okWide P W .any base t v) (hd:DataW.Trod enc P W 0 (fun _=>true) true t v d ps):∃ l:List Int,V W (okOf Ctx.nil W.heap.size) Ctx.nil (.imm .arg 1 (l.map encI)) v:=by
  obtain ⟨a,len,cap,rfl⟩:=okWide_slice ht hval
  obtain ⟨fuel,hf⟩:=hd
  rcases open_slice ht hf with ⟨h0,_⟩ | ⟨a',len',cap',m,n,D,Pl,h0,hb,hl,hm,hmm,hx,hel⟩
  · simp [Value.cells] at h0
    obtain ⟨rfl,rfl,rfl⟩:=h0
    exact ⟨[],.imm .arg 1 [] none 0 (fun _=>.bool false) (by simp) (by simp) (by simp) (by simp) (by simp) (by simp)⟩
  · simp [Value.cells] at h0
    obtain ⟨rfl,rfl,rfl⟩:=h0
    have hlm:len ≤ m:=by rw [hmm]; split <;> omega
    have each:∀ i,i < len → ∃ z:Int,W.cell? (a'.add i)=some (.int .i64 z):=by
      intro i hi
      obtain ⟨cs',h1,h2⟩:=hel i (by omega)
      rw [cq] at h1
      obtain ⟨_,hlen,hcell⟩:=World.cells?_some h1
      match cs',hlen with
      | [v0],_ =>
        obtain ⟨z0,e0,_,_⟩:=DataW.trod_int hq h2
        simp at e0
        subst e0
        have c0:=hcell 0 (by omega)
        rw [add_add] at c0
        exact ⟨z0,by simpa using c0⟩
    obtain ⟨f,hf⟩:=choose_lt each
    refine ⟨(List.range len).map f,?_⟩
    have hlen:(((List.range len).map f).map encI).length=len:=by simp
    have key:=V.imm (w:=W) (ok:=okOf Ctx.nil W.heap.size) (c:=Ctx.nil) .arg 1 (((List.range len).map f).map encI) (some a') cap (fun j=>.int .i64 (f j))
      (by rw [hlen]; exact hl) (by simp) ?_ ?_ ?_ ?_
    · rw [hlen] at key; exact key
    · intro hne
      have h0:0 < len:=by
        rcases Nat.eq_zero_or_pos len with h | h
        · subst h; simp at hne
        · exact h
      obtain ⟨b,off,spot⟩:=a'
      have hspot:spot=none:=by simpa [Addr.add] using World.cell?_spot (hf 0 h0)
      subst hspot
      refine ⟨b,off,rfl,by simpa [Addr.add] using cell_lt (hf 0 h0),okNil W b,fun j hj=>?_⟩
      rw [hlen] at hj
      have c0:=hf j (by omega)
      rw [add_plain] at c0
      exact c0
    · intro v hv
      obtain ⟨p,_,rfl⟩:=List.mem_map.1 hv
      rfl
    · intro v hv
      obtain ⟨p,_,rfl⟩:=List.mem_map.1 hv
      rfl
    · intro i v j x hi hj
      have hil:i < len:=by have:=lt_of_get hi; rw [hlen] at this; exact this
      have:v=encI (f i):=by
        rw [List.getElem?_map,List.getElem?_map,List.getElem?_range hil] at hi
        simpa using hi.symm
      subst this
      have hjx:j < 1:=lt_of_get hj
      match j,hjx,hj with
      | 0,_,hj =>
        simp [encI,cellsOf] at hj
        subst hj
        have e1:i * 1+0=i:=by omega
        rw [e1]
        exact V.int _ _
end Go.HL
end
section
namespace Go.HL
open Go.ChangeShapes Go.WideShapes Go.ChangeAt Go.RowKit Go.Deep
abbrev encTr (s:Int × Int × Int):HV:=.agg [.int .i64 s.1,.int .i64 s.2.1,.int .i64 s.2.2]
theorem arg_trips_ok {H:Type} {enc:TypeId × Value → H} {P:Program} {W:World} {base:Nat} {t e q:TypeId} {v:Value} {d:DataW H} {ps:List MemPlace} {f0 f1 f2:Field} (ht:P.underlying t=some (.slice e)) (he:P.underlying e=some (.struct #[f0,f1,f2])) (t0:f0.type=q) (t1:f1.type=q) (t2:f2.type=q) (o0:f0.offset=0) (o1:f1.offset=1) (o2:f2.offset=2) (hq:P.underlying q=some (.int .i64)) (ce:P.cellsOf e=3) (cq:P.cellsOf q=1)
    (hval:Value.okWide P W .any base t v) (hd:DataW.Trod enc P W 0 (fun _=>true) true t v d ps):∃ l:List (Int × Int × Int),V W (okOf Ctx.nil W.heap.size) Ctx.nil (.imm .arg 3 (l.map encTr)) v:=by
  obtain ⟨a,len,cap,rfl⟩:=okWide_slice ht hval
  obtain ⟨fuel,hf⟩:=hd
  rcases open_slice ht hf with ⟨h0,_⟩ | ⟨a',len',cap',m,n,D,Pl,h0,hb,hl,hm,hmm,hx,hel⟩
  · simp [Value.cells] at h0
    obtain ⟨rfl,rfl,rfl⟩:=h0
    exact ⟨[],.imm .arg 3 [] none 0 (fun _=>.bool false) (by simp) (by simp) (by simp) (by simp) (by simp) (by simp)⟩
  · simp [Value.cells] at h0
    obtain ⟨rfl,rfl,rfl⟩:=h0
    have hlm:len ≤ m:=by rw [hmm]; split <;> omega
    have each:∀ i,i < len → ∃ p:Int × Int × Int,W.cell? (a'.add (i * 3))=some (.int .i64 p.1)∧W.cell? (a'.add (i * 3+1))=some (.int .i64 p.2.1)∧W.cell? (a'.add (i * 3+2))=some (.int .i64 p.2.2):=by
      intro i hi
      obtain ⟨cs',h1,h2⟩:=hel i (by omega)
      rw [ce] at h1
      obtain ⟨_,hlen,hcell⟩:=World.cells?_some h1
      obtain ⟨y0,y1,y2,k,_,_,g0,g1,g2⟩:=trod_struct3 he h2
      rw [t0,o0,cq] at g0
      rw [t1,o1,cq] at g1
      rw [t2,o2,cq] at g2
      match cs',hlen with
      | [v0,v1,v2],_ =>
        simp at g0 g1 g2
        obtain ⟨z0,e0,_,_⟩:=DataW.trod_int hq g0
        obtain ⟨z1,e1,_,_⟩:=DataW.trod_int hq g1
        obtain ⟨z2,e2,_,_⟩:=DataW.trod_int hq g2
        simp at e0 e1 e2
        subst e0; subst e1; subst e2
        have c0:=hcell 0 (by omega)
        have c1:=hcell 1 (by omega)
        have c2:=hcell 2 (by omega)
        rw [add_add] at c0 c1 c2
        exact ⟨(z0,z1,z2),by simpa using c0,by simpa using c1,by simpa using c2⟩
    obtain ⟨f,hf⟩:=choose_lt each
    refine ⟨(List.range len).map f,?_⟩
    have hlen:(((List.range len).map f).map encTr).length=len:=by simp
    have key:=V.imm (w:=W) (ok:=okOf Ctx.nil W.heap.size) (c:=Ctx.nil) .arg 3 (((List.range len).map f).map encTr) (some a') cap (fun j=>if j % 3=0 then .int .i64 (f (j / 3)).1 else if j % 3=1 then .int .i64 (f (j / 3)).2.1 else .int .i64 (f (j / 3)).2.2)
      (by rw [hlen]; exact hl) (by simp) ?_ ?_ ?_ ?_
    · rw [hlen] at key; exact key
    · intro hne
      have h0:0 < len:=by
        rcases Nat.eq_zero_or_pos len with h | h
        · subst h; simp at hne
        · exact h
      obtain ⟨b,off,spot⟩:=a'
      have hspot:spot=none:=by simpa [Addr.add] using World.cell?_spot (hf 0 h0).1
      subst hspot
      refine ⟨b,off,rfl,by simpa [Addr.add] using cell_lt (hf 0 h0).1,okNil W b,fun j hj=>?_⟩
      rw [hlen] at hj
      have hj2:j / 3 < len:=by omega
      obtain ⟨c0,c1,c2⟩:=hf (j / 3) hj2
      by_cases hp:j % 3=0
      · rw [if_pos hp]
        have:j / 3 * 3=j:=by omega
        rw [this,add_plain] at c0
        exact c0
      by_cases hp1:j % 3=1
      · rw [if_neg hp,if_pos hp1]
        have:j / 3 * 3+1=j:=by omega
        rw [this,add_plain] at c1
        exact c1
      · rw [if_neg hp,if_neg hp1]
        have:j / 3 * 3+2=j:=by omega
        rw [this,add_plain] at c2
        exact c2
    · intro v hv
      obtain ⟨p,_,rfl⟩:=List.mem_map.1 hv
      rfl
    · intro v hv
      obtain ⟨p,_,rfl⟩:=List.mem_map.1 hv
      rfl
    · intro i v j x hi hj
      have hil:i < len:=by have:=lt_of_get hi; rw [hlen] at this; exact this
      have:v=encTr (f i):=by
        rw [List.getElem?_map,List.getElem?_map,List.getElem?_range hil] at hi
        simpa using hi.symm
      subst this
      have hjx:j < 3:=lt_of_get hj
      match j,hjx,hj with
      | 0,_,hj =>
        simp [encTr,cellsOf] at hj
        subst hj
        have e1:(i * 3+0) % 3=0:=by omega
        have e2:(i * 3+0) / 3=i:=by omega
        rw [if_pos e1,e2]
        exact V.int _ _
      | 1,_,hj =>
        simp [encTr,cellsOf] at hj
        subst hj
        have e0:¬ (i * 3+1) % 3=0:=by omega
        have e1:(i * 3+1) % 3=1:=by omega
        have e2:(i * 3+1) / 3=i:=by omega
        rw [if_neg e0,if_pos e1,e2]
        exact V.int _ _
      | 2,_,hj =>
        simp [encTr,cellsOf] at hj
        subst hj
        have e0:¬ (i * 3+2) % 3=0:=by omega
        have e1:¬ (i * 3+2) % 3=1:=by omega
        have e2:(i * 3+2) / 3=i:=by omega
        rw [if_neg e0,if_neg e1,e2]
        exact V.int _ _
end Go.HL
end
