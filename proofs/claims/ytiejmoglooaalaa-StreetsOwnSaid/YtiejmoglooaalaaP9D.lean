/- A part of the proof. -/
import Derived.Test.YtiejmoglooaalaaP9C
set_option linter.unusedVariables false
set_option linter.unusedSimpArgs false
set_option linter.unnecessarySimpa false
section
open Go Go.HL
namespace Go.Proofs.Ytiejmoglooaalaa
open Go.Proofs.Try renaming prog → Tp
open Go.HL.HV renaming undef → Ud
def ixI (l:List Int) (v:Int):Int:=match fN (fun i=>decide (l.getD i 0=v)) l.length 0 with | some m=>(m:Int) | none=>-1
theorem ixI_mem (l:List Int) (v:Int):0 ≤ ixI l v ↔ v ∈ l:=by
  rw [ixI]
  cases h:fN (fun i=>decide (l.getD i 0=v)) l.length 0 with
  | some m =>
    obtain ⟨_,h2,h3,_⟩:=fN_some h
    refine ⟨fun _=>?_,fun _=>by simp⟩
    have:=of_decide_eq_true h3
    rw [← this]
    exact mem_getD 0 (by omega)
  | none =>
    refine ⟨fun h=>absurd h (by decide),fun hv=>?_⟩
    obtain ⟨j,hj,rfl⟩:=List.getElem_of_mem hv
    have:=fN_none h j (Nat.zero_le _) (by omega)
    simp only [decide_eq_false_iff_not] at this
    exact absurd (getD_at hj) this
def index93:List HV → Option HV:=f2 kL kI fun l v=>if l.length ≤ 900 then some (.int .i64 (ixI l v)) else none
theorem res93i:Try.f93.results.toList=[.tmp 4]:=by kernel_rfl
theorem index_ok:PrimOk Tp 93 index93:=by
  refine primOk_pure (pol:=plF fun _=>none) (fn:=Try.f93) (cd:=B93) follows_mixed (sound_prim (fun _=>none) (fun g f h=>by cases h)) (by kernel_rfl) (by kernel_rfl) (fnok (fun _=>none) _ _ (by kernel_rfl)) (by kernel_rfl) ?_
  intro args res h
  obtain ⟨l,v,rfl,hq⟩:=f2_inv h
  split at hq
  case isFalse=>cases hq
  rename_i hl
  cases hq
  have go:∀ m,m ≤ l.length → (∀ i,i < m → l.getD i 0 ≠ v) → ∀ i,i < m → RunsTo Tp (plF fun _=>none) 93 (sub [1,0,1,0,0] B93) ((env93 (.imm .arg 1 (l.map encI)) (.int .i64 v) (.int .i64 0) Ud (.int .i64 (l.length:Int)) (.int .i64 ((i:Nat):Int)))) [] .normal ((plF fun _=>none).keys 93) ((env93 (.imm .arg 1 (l.map encI)) (.int .i64 v) (.int .i64 0) (.int .i64 (i:Int)) (.int .i64 (l.length:Int)) (.int .i64 ((i+1:Nat):Int)))) []:=fun m hm' hn' i hi=>by
    have s:=ie_l_1 (F:=fun _=>none) (l.map encI) v [] l.length i (l.getD i 0) (y5:=Ud) (by omega) (gx (by omega)) (fun h=>hn' i hi h.symm)
    rw [wrap_succ (by omega)] at s
    exact s
  have a:=ie_a_0 (F:=fun _=>none) (l.map encI) v []
  have b:=ie_b_0 (F:=fun _=>none) (l.map encI) v [] (y5:=Ud) (y7:=Ud) (y8:=Ud)
  rw [List.length_map] at b
  rw [ixI]
  cases hf:fN (fun i=>decide (l.getD i 0=v)) l.length 0 with
  | some m =>
    obtain ⟨_,h1,h2,h3⟩:=fN_some hf
    have r:=count (pol':=plF fun _=>none) (f:=93) (E:=fun i=>(env93 (.imm .arg 1 (l.map encI)) (.int .i64 v) (.int .i64 0) Ud (.int .i64 (l.length:Int)) (.int .i64 ((i:Nat):Int)))) (Hs:=fun _=>[]) m (go m (by omega) fun i hi=>by have:=h3 i (Nat.zero_le _) hi; simpa using this) (fun i _=>by kernel_rfl) (fun i _=>gc_eq _ rfl) (ie_l_0 (F:=fun _=>none) (l.map encI) v [] l.length m (l.getD m 0) (y5:=Ud) (by omega) (gx (by omega)) (of_decide_eq_true h2).symm) (by simp) (c:=sub [1,0,1,0] B93) (by kernel_rfl) (fun i _=>by kernel_rfl)
    exact ⟨_,_,_,.int .i64 (m:Int),sq (a) (sqo (sq (b) (RunsTo.block_ret (i:=0) (c:=sub [1,0,1] B93) (r) (by kernel_rfl)) (c:=sub [1,0] B93)) (c:=sub [1] B93) (b:=sub [1,1] B93)) (c:=B93),by simp,by simp only [resultsV,res93i]; rfl,rfl⟩
  | none =>
    have h3:=fN_none hf
    have r:=count (pol':=plF fun _=>none) (f:=93) (E:=fun i=>(env93 (.imm .arg 1 (l.map encI)) (.int .i64 v) (.int .i64 0) Ud (.int .i64 (l.length:Int)) (.int .i64 ((i:Nat):Int)))) (Hs:=fun _=>[]) l.length (go l.length (Nat.le_refl _) fun i hi=>by have:=h3 i (Nat.zero_le _) (by omega); simpa using this) (fun i _=>by kernel_rfl) (fun i _=>gc_eq _ rfl) (ie_l_2 (F:=fun _=>none) (l.map encI) v [] l.length l.length 0 (y5:=Ud) (by omega)) (by simp) (c:=sub [1,0,1,0] B93) (by kernel_rfl) (fun i _=>by kernel_rfl)
    have z:=ie_z_0 (F:=fun _=>none) (l.map encI) v [] (y5:=Ud) (y7:=.int .i64 (l.length:Int)) (y8:=.int .i64 (l.length:Int))
    exact ⟨_,_,_,.int .i64 (-1),sq (a) (sq (sq (b) (bke (c:=sub [1,0,1] B93) (r)) (c:=sub [1,0] B93)) (z) (c:=sub [1] B93)) (c:=B93),by simp,by simp only [resultsV,res93i]; rfl,rfl⟩
def contains73:List HV → Option HV:=f2 kL kI fun l v=>if l.length ≤ 900 then some (.bool (decide (v ∈ l))) else none
theorem res73:Try.f73.results.toList=[.tmp 4]:=by kernel_rfl
def prCo:FuncId → Option (List HV → Option HV):=fun g=>if g == 93 then some index93 else none
theorem soundCo (n:Nat):CallSound Tp (callN Tp (plF prCo) n):=sound_prim _ (fun g f h=>by
  unfold prCo at h
  split at h
  · rename_i hg; cases h; rw [eq_of_beq hg]; exact index_ok
  · cases h) n
theorem contains_ok:PrimOk Tp 73 contains73:=by
  refine primOk_pure (pol:=plF prCo) (fn:=Try.f73) (cd:=B73) follows_mixed soundCo (by kernel_rfl) (by kernel_rfl) (fnok prCo _ _ (by kernel_rfl)) (by kernel_rfl) ?_
  intro args res h
  obtain ⟨l,v,rfl,hq⟩:=f2_inv h
  split at hq
  case isFalse=>cases hq
  rename_i hl
  cases hq
  have c:=at2 (pol':=plF prCo) (g:=93) (c1:=kL) (c2:=kI) (f:=fun l v=>if l.length ≤ 900 then some (.int .i64 (ixI l v)) else none) (H:=[]) (by kernel_rfl) (ShL_imm _ l) (ShI _ v) (if_pos hl)
  by_cases k:0 ≤ ixI l v
  · rw [decide_eq_true ((ixI_mem l v).1 k)]
    exact ⟨_,_,_,.bool true,ic_a_0 (F:=prCo) (l.map encI) v [] (ixI l v) c k,by simp,by simp only [resultsV,res73]; rfl,rfl⟩
  · rw [decide_eq_false fun h=>k ((ixI_mem l v).2 h)]
    exact ⟨_,_,_,.bool false,ic_a_1 (F:=prCo) (l.map encI) v [] (ixI l v) c k,by simp,by simp only [resultsV,res73]; rfl,rfl⟩
def joinsT (l:List St) (t:List Int) (o:Int) (k:Int):Prop:=(labT l (wo t o)).getD (sA l k).toNat 0 ≠ (labT l (wo t o)).getD (sB l k).toNat 0
instance (l:List St) (t:List Int) (o k:Int):Decidable (joinsT l t o k):=inferInstanceAs (Decidable (_ ≠ _))
def insT (l:List St) (t:List Int) (o:Int) (n:Nat):List Int:=(startT n).filter fun k=>decide (k ∉ t∧joinsT l t o k)
theorem ins_succ (l:List St) (t:List Int) (o:Int) (i:Nat):insT l t o (i+1)=insT l t o i ++ (if (i:Int) ∉ t∧joinsT l t o i then [(i:Int)] else []):=by
  rw [insT,startT_succ,List.filter_append,insT]
  refine congrArg _ ?_
  by_cases c:(i:Int) ∉ t∧joinsT l t o i
  · rw [if_pos c,List.filter_cons_of_pos (by simpa using c)]; rfl
  · rw [if_neg c,List.filter_cons_of_neg (by simpa using c)]; rfl
theorem ins_len (l:List St) (t:List Int) (o:Int) (n:Nat):(insT l t o n).length ≤ n:=by
  have:=List.length_filter_le (fun k=>decide (k ∉ t∧joinsT l t o k)) (startT n)
  rwa [startT_len] at this
def instead59:List HV → Option HV:=f3 kN kL kI fun p t o=>if (endB p.2=true∧p.2.length ≤ 500)∧inR p.2.length t=true∧t ≠ []∧t.length ≤ 500 then some (.own 1 ((insT p.2 t o p.2.length).map encI)) else none
theorem res59:Try.f59.results.toList=[.tmp 6]:=by kernel_rfl
def prIn:FuncId → Option (List HV → Option HV):=fun g=>if g == 72 then some without72 else if g == 73 then some contains73 else none
theorem soundIn (n:Nat):CallSound Tp (callN Tp (plF prIn) n):=sound_prim _ (fun g f h=>by
  unfold prIn at h
  split at h
  · rename_i hg; cases h; rw [eq_of_beq hg]; exact without_ok
  split at h
  · rename_i hg; cases h; rw [eq_of_beq hg]; exact contains_ok
  · cases h) n
theorem instead_ok:PrimOk Tp 59 instead59:=by
  refine primOk_pure (pol:=plF prIn) (fn:=Try.f59) (cd:=B59) follows_mixed soundIn (by kernel_rfl) (by kernel_rfl) (fnok prIn _ _ (by kernel_rfl)) (by kernel_rfl) ?_
  intro args res h
  obtain ⟨⟨n,l⟩,t,o,rfl,hq⟩:=f3_inv h
  simp only at hq
  split at hq
  case isFalse=>cases hq
  rename_i hc
  obtain ⟨⟨he,hl⟩,hr,hne,htl⟩:=hc
  cases hq
  have ht:=inR_iff.1 hr
  have hwl:=wo_le t o
  have htw:∀ k ∈ wo t o,0 ≤ k∧k < (l.length:Int):=fun k hk=>ht k (List.mem_filter.1 hk).1
  have a:=it_a_0 (F:=prIn) 0 n (l.map encT) (t.map encI) o
  have c72:=at2 (pol':=plF prIn) (g:=72) (c1:=kL) (c2:=kI) (f:=fun l v=>if l ≠ []∧l.length ≤ 900 then some (.own 1 ((wo l v).map encI)) else none) (H:=[bN n l]) (by kernel_rfl) (ShL_imm _ t) (ShI _ o) (if_pos ⟨hne,by omega⟩)
  rw [recv_ints] at c72
  obtain ⟨N1,c57⟩:=CallsTo.from (joined_sl (F:=prIn) (by kernel_rfl) (by kernel_rfl) (by kernel_rfl) (by kernel_rfl) (n:=n) he htw (by omega) (H:=[bN n l,bI (wo t o)]) (by show max 0 (max 0 0) ≤ 2; decide) (lb:=1) (cap:=none) (o:=wo t o) rfl (fun i hi=>⟨hi,rfl⟩))
  have sN:sameH [bN n l] [bN n l]=true:=by simp only [sameH,sameL,same_net,beq_self_eq_true,Bool.and_self]
  have hs1:(recL ((loadV Tp [bN n l] 66 (.ptr 0 0 0 1)).map (fun v=>(v,([bN n l]:Heap)))) ((loadV Tp [bN n l,bI (wo t o)] 66 (.ptr 0 0 0 1)).map (fun v=>(v,([bN n l,bI (wo t o)]:Heap)))) [bN n l] [bN n l,bI (wo t o)] && true)=true:=by
    rw [ld66 (n:=n) (l:=l) rfl,ld66 (n:=n) (l:=l) rfl]
    simp only [Option.map_some,recL,same_net,sN,sameH_cons sN (sameB_I (wo t o)),Bool.and_self]
  have b:=it_b_0 (F:=prIn) N1 n (l.map encT) (t.map encI) o [bN n l] 1 (wo t o).length 3 _ (y7:=Ud) (y9:=Ud) (y10:=Ud) (y11:=Ud) (y21:=Ud) (y22:=Ud) (y23:=Ud) (ld66 rfl) c72 c57 hs1
  have hU:=ksT_up he (t:=wo t o) htw
  have hlabE:(ksT l (wo t o)).2.1=labT l (wo t o):=rfl
  rw [hlabE] at hU
  generalize hus:(ksT l (wo t o)).1=us at *
  have c:=it_c_0 (F:=prIn) 0 n (l.map encT) (t.map encI) o [bN n l,bI (wo t o),bN n l,bU us] 3 (y9:=Ud) (y10:=Ud) (y11:=Ud) (y21:=Ud) (y22:=Ud) (y23:=Ud) rfl
  have d:=it_d_0 (F:=prIn) 0 n (l.map encT) (t.map encI) o [bN n l,bI (wo t o),bN n l,bU us,bI []] 3 4 0 (y10:=Ud) (y11:=Ud) (y21:=Ud) (y22:=Ud) (y23:=Ud) (ld_net (xb:=0) rfl)
  rw [List.length_map] at d
  have r:=count (pol':=plF prIn) (f:=59) (E:=fun i=>(env59 (encN n l) (.imm .arg 1 (t.map encI)) (.int .i64 o) Ud (.imm .lit 1 []) (.ptr 3 0 0 1) (.sl 4 0 (insT l t o i).length none (insT l t o i).length 1) Ud Ud (.imm .arg 3 (l.map encT)) (.int .i64 (l.length:Int)) (.int .i64 ((i:Nat):Int)))) (Hs:=fun i=>[bN n l,bI (wo t o),bN n l,bU us,bI (insT l t o i)]) l.length
    (E0:=fun i=>(env59 (encN n l) (.imm .arg 1 (t.map encI)) (.int .i64 o) Ud (.imm .lit 1 []) (.ptr 3 0 0 1) (.sl 4 0 (insT l t o (i+1)).length none (insT l t o (i+1)).length 1) (.int .i64 (i:Int)) (.ptr 5 0 0 1) (.imm .arg 3 (l.map encT)) (.int .i64 (l.length:Int)) (.int .i64 ((i+1:Nat):Int)))) (H1:=fun i=>[bN n l,bI (wo t o),bN n l,bU us,bI (insT l t o (i+1)),bT (l.getD i (0,0,0))])
    (fun i hi=>by
      have g2:=gs (l:=l) (y:=i) hi
      obtain ⟨e1,e2⟩:=ends he (k:=(i:Int)) (by omega)
      have hJ:joinsT l t o (i:Int) ↔ (labT l (wo t o)).getD (sA l i).toNat 0 ≠ (labT l (wo t o)).getD (sB l i).toNat 0:=Iff.rfl
      have hsA:sA l (i:Int)=(l.getD i (0,0,0)).1:=rfl
      have hsB:sB l (i:Int)=(l.getD i (0,0,0)).2.1:=rfl
      rw [hsA] at e1 hJ
      rw [hsB] at e2 hJ
      have his:=ins_succ l t o i
      have hil:=ins_len l t o i
      generalize l.getD i (0,0,0)=s at *
      have hx:([bN n l,bI (wo t o),bN n l,bU us,bI (insT l t o i),bT s]:Heap)[5]?=some (bT s):=rfl
      have la:=ldT hx 0 s.1 rfl
      have lb:=ldT hx 1 s.2.1 rfl
      have nv:=box_nv [bN n l,bI (wo t o),bN n l,bU us,bI (insT l t o i)]
      have st:=box_st [bN n l,bI (wo t o),bN n l,bU us,bI (insT l t o i)] s
      have c73:=at2 (pol':=plF prIn) (g:=73) (c1:=kL) (c2:=kI) (f:=fun l v=>if l.length ≤ 900 then some (.bool (decide (v ∈ l))) else none) (H:=[bN n l,bI (wo t o),bN n l,bU us,bI (insT l t o i),bT s]) (by kernel_rfl) (ShL_imm _ t) (ShI _ (i:Int)) (if_pos (by omega))
      obtain ⟨N2,o1⟩:=CallsTo.from (of_call (F:=prIn) (by kernel_rfl) (H:=[bN n l,bI (wo t o),bN n l,bU us,bI (insT l t o i),bT s]) (b:=3) rfl hU e1.1 e1.2)
      obtain ⟨N3,o2⟩:=CallsTo.from (of_call (F:=prIn) (by kernel_rfl) (H:=[bN n l,bI (wo t o),bN n l,bU us,bI (insT l t o i),bT s]) (b:=3) rfl hU e2.1 e2.2)
      have o1':∀ kf,max N2 N3 ≤ kf → _:=fun kf hk=>o1 kf (by omega)
      have o2':∀ kf,max N2 N3 ≤ kf → _:=fun kf hk=>o2 kf (by omega)
      have sT:sameH [bT s] [bT s]=true:=by simp only [sameH,sameL,same_st,beq_self_eq_true,Bool.and_self]
      have sU:sameH [bU us] [bU us]=true:=by simp only [sameH,sameL,same,same_mapL same_int,beq_self_eq_true,Bool.and_self]
      have sH:sameH [bN n l,bI (wo t o),bN n l,bU us,bI (insT l t o i),bT s] [bN n l,bI (wo t o),bN n l,bU us,bI (insT l t o i),bT s]=true:=sameH_cons sN (sameH_cons (sameB_I _) (sameH_cons sN (sameH_cons sU (sameH_cons (sameB_I _) sT))))
      have hs2:(recL ((loadV Tp [bN n l,bI (wo t o),bN n l,bU us,bI (insT l t o i),bT s] 3 (.ptr 5 0 1 1)).map (fun v=>(v,([bN n l,bI (wo t o),bN n l,bU us,bI (insT l t o i),bT s]:Heap)))) ((loadV Tp [bN n l,bI (wo t o),bN n l,bU us,bI (insT l t o i),bT s] 3 (.ptr 5 0 1 1)).map (fun v=>(v,([bN n l,bI (wo t o),bN n l,bU us,bI (insT l t o i),bT s]:Heap)))) [bN n l,bI (wo t o),bN n l,bU us,bI (insT l t o i),bT s] [bN n l,bI (wo t o),bN n l,bU us,bI (insT l t o i),bT s] && true)=true:=by
        rw [lb]
        have:same (.int .i64 s.2.1) (.int .i64 s.2.1)=true:=same_int s.2.1
        simp only [Option.map_some,recL,this,sH,Bool.and_self]
      by_cases cm:(i:Int) ∈ t
      · rw [decide_eq_true cm] at c73
        rw [if_neg (fun h=>h.1 cm),List.append_nil] at his
        have s1:=it_l_0 (F:=prIn) 0 n (l.map encT) (t.map encI) o [bN n l,bI (wo t o),bN n l,bU us,bI (insT l t o i)] 3 4 (insT l t o i).length l.length i s.1 s.2.1 s.2.2 (y3:=Ud) (y10:=Ud) (y11:=Ud) (by omega) g2 nv st c73 rfl
        rw [wrap_succ (by omega)] at s1
        rw [his]
        exact s1
      rw [decide_eq_false cm] at c73
      by_cases cj:(labT l (wo t o)).getD s.1.toNat 0=(labT l (wo t o)).getD s.2.1.toNat 0
      · rw [if_neg (fun h=>(hJ.1 h.2) cj),List.append_nil] at his
        have s1:=it_l_1 (F:=prIn) (max N2 N3) n (l.map encT) (t.map encI) o [bN n l,bI (wo t o),bN n l,bU us,bI (insT l t o i)] 3 4 (insT l t o i).length l.length i s.1 s.2.1 s.2.2 (y3:=Ud) (y10:=Ud) (y11:=Ud) (by omega) g2 nv st c73 (fld0 _) la o1' (fld1 _) lb o2' cj hs2
        rw [wrap_succ (by omega)] at s1
        rw [his]
        exact s1
      · rw [if_pos ⟨cm,hJ.2 cj⟩] at his
        have ap:=app_in1 (H:=[bN n l,bI (wo t o),bN n l,bU us,bI (insT l t o i),bT s]) (b:=4) (o:=insT l t o i) rfl (by omega) (i:Int)
        rw [← his] at ap
        have s1:=it_l_2 (F:=prIn) (max N2 N3) n (l.map encT) (t.map encI) o [bN n l,bI (wo t o),bN n l,bU us,bI (insT l t o i)] 3 4 (insT l t o i).length l.length i s.1 s.2.1 s.2.2 (y3:=Ud) (y10:=Ud) (y11:=Ud) (by omega) g2 nv st c73 (fld0 _) la o1' (fld1 _) lb o2' cj hs2 ap
        have el:(insT l t o (i+1)).length=(insT l t o i).length+1:=by rw [his]; simp
        rw [wrap_succ (by omega),← el] at s1
        exact s1) (fun i _=>by kernel_rfl) (fun i _=>by
          have hb:bndE ((env59 (encN n l) (.imm .arg 1 (t.map encI)) (.int .i64 o) Ud (.imm .lit 1 []) (.ptr 3 0 0 1) (.sl 4 0 (insT l t o (i+1)).length none (insT l t o (i+1)).length 1) Ud Ud (.imm .arg 3 (l.map encT)) (.int .i64 (l.length:Int)) (.int .i64 ((i+1:Nat):Int))))=5:=by simp only [bndE,bnd,bndL,encN]; rfl
          show gc 5 (bndE ((env59 (encN n l) (.imm .arg 1 (t.map encI)) (.int .i64 o) Ud (.imm .lit 1 []) (.ptr 3 0 0 1) (.sl 4 0 (insT l t o (i+1)).length none (insT l t o (i+1)).length 1) Ud Ud (.imm .arg 3 (l.map encT)) (.int .i64 (l.length:Int)) (.int .i64 ((i+1:Nat):Int))))) ([bN n l,bI (wo t o),bN n l,bU us,bI (insT l t o (i+1))] ++ [bT (l.getD i (0,0,0))])=_
          rw [hb]
          exact gc_back (H:=[bN n l,bI (wo t o),bN n l,bU us,bI (insT l t o (i+1))]) (by show max 0 (max 0 (max 0 (max 0 (max 0 (max 0 0))))) ≤ 5; decide) (Nat.le_refl _)) (it_l_3 (F:=prIn) 0 n (l.map encT) (t.map encI) o [bN n l,bI (wo t o),bN n l,bU us,bI (insT l t o l.length)] 3 4 (insT l t o l.length).length l.length l.length 0 0 0 (y3:=Ud) (y10:=Ud) (y11:=Ud) (by omega)) (by simp) (c:=sub [1,1,1,0,1,0] B59) (by kernel_rfl) (fun i _=>by kernel_rfl)
  have z:=it_z_0 (F:=prIn) 0 n (l.map encT) (t.map encI) o [bN n l,bI (wo t o),bN n l,bU us,bI (insT l t o l.length)] 3 4 (insT l t o l.length).length (y21:=.imm .arg 3 (l.map encT)) (y22:=.int .i64 (l.length:Int)) (y23:=.int .i64 (l.length:Int)) (y3:=Ud) (y10:=Ud) (y11:=Ud)
  refine ⟨_,_,_,.sl 4 0 (insT l t o l.length).length none (insT l t o l.length).length 1,sq (a) (sq (b) (sq (c) (sq (sq (d) (bke (c:=sub [1,1,1,0,1] B59) (lpi (e0:=(env59 (encN n l) (.imm .arg 1 (t.map encI)) (.int .i64 o) (.ptr 0 0 0 1) (.imm .lit 1 []) (.ptr 3 0 0 1) (.sl 4 0 0 none 0 1) Ud Ud (.imm .arg 3 (l.map encT)) (.int .i64 (l.length:Int)) (.int .i64 ((0:Nat):Int)))) r (b:=sub [1,1,1,0,1,0,0] B59))) (c:=sub [1,1,1,0] B59)) (z) (c:=sub [1,1,1] B59)) (c:=sub [1,1] B59)) (c:=sub [1] B59)) (c:=B59),by simp,by simp only [resultsV,res59]; rfl,?_⟩
  exact res_li (b:=4) rfl rfl
end Go.Proofs.Ytiejmoglooaalaa
end
section
open Go Go.HL
namespace Go.Proofs.Ytiejmoglooaalaa
def sw1 (p:Int) (s:List Int × Bool) (x:Int):List Int × Bool:=if s.2=false∧p < x then (s.1 ++ [p],true) else s
def swS (o p:Int) (s:List Int × Bool) (x:Int):List Int × Bool:=if x=o then sw1 p s x else ((sw1 p s x).1 ++ [x],(sw1 p s x).2)
def swF (o p:Int) (t:List Int):List Int × Bool:=t.foldl (swS o p) ([],false)
theorem swF_succ (o p:Int) (t:List Int) {i:Nat} (h:i < t.length):swF o p (t.take (i+1))=swS o p (swF o p (t.take i)) (t.getD i 0):=by
  rw [swF,take_snoc h,List.foldl_append]; rfl
theorem swp_len (o p:Int) (t:List Int):∀ i,i ≤ t.length → (swF o p (t.take i)).1.length ≤ 2 * i:=by
  intro i
  induction i with
  | zero=>intro _; simp [swF]
  | succ i ih =>
    intro hi
    have h:=ih (by omega)
    rw [swF_succ o p t (by omega),swS,sw1]
    split <;> split <;> simp <;> omega
end Go.Proofs.Ytiejmoglooaalaa
end
section
open Go Go.HL
namespace Go.Proofs.Ytiejmoglooaalaa
set_option linter.unusedSectionVars false
theorem mem_wo {t:List Int} {v x:Int}:x ∈ wo t v ↔ x ∈ t∧x ≠ v:=by simp [wo,List.mem_filter]
theorem wo_len {t:List Int} (hn:t.Nodup) {k:Int} (hk:k ∈ t):t.length=(wo t k).length+1:=by
  have:=filter_drop1 (p:=fun _=>true) (q:=fun x=>decide (x ≠ k)) hn hk rfl (fun y _ hy=>decide_eq_true hy) (by simp)
  rw [List.filter_eq_self.2 fun _ _=>rfl] at this
  exact this
end Go.Proofs.Ytiejmoglooaalaa
end
section
open Go Go.HL
namespace Go.Proofs.Ytiejmoglooaalaa
set_option linter.unusedSectionVars false
theorem tree_nodup' (l:List St):(treeT l).Nodup:=by
  have:=tk_sublist l (ordT l) (ordT l).length (Nat.le_refl _)
  rw [List.take_length] at this
  exact this.nodup (ordT_nodup l)
theorem nodup_len:∀ {a b:List Int},a.Nodup → b.Nodup → (∀ x,x ∈ a ↔ x ∈ b) → a.length=b.length
  | [],b,_,_,h=>by
    have:b=[]:=List.eq_nil_iff_forall_not_mem.2 fun x hx=>by cases (h x).2 hx
    rw [this]
  | x :: a,b,ha,hb,h=>by
    obtain ⟨h1,h2⟩:=List.nodup_cons.1 ha
    have hx:x ∈ b:=(h x).1 (List.mem_cons_self ..)
    rw [wo_len hb hx,List.length_cons]
    refine congrArg (·+1) (nodup_len h2 (hb.sublist List.filter_sublist) fun y=>?_)
    rw [mem_wo]
    constructor
    · intro hy
      exact ⟨(h y).1 (List.mem_cons_of_mem _ hy),fun c=>h1 (c ▸ hy)⟩
    · intro ⟨hy,hne⟩
      exact (List.mem_cons.1 ((h y).2 hy)).resolve_left hne
theorem startT_asc (m:Nat):(startT m).Pairwise (· < ·):=List.pairwise_map.2 (List.Pairwise.imp (fun {a b} h=>by omega) (List.pairwise_lt_range (n:=m)))
theorem frT_asc (l:List St):(frT l).Pairwise (· < ·):=(startT_asc _).sublist List.filter_sublist
section
variable {n:Int} {l:List St} (hnet:netB n l=true) (hc:connB n l=true)
include hnet
theorem endB_net:endB l=true:=endN_B (netB_ends hnet).2.2.1 (by have:=(netB_ends hnet).1; omega)
end
section
variable {n:Int} {l:List St} (hnet:netB n l=true) (hc:connB n l=true)
include hnet
include hc
theorem tree_len:((treeT l).length:Int)=n - 1:=of_decide_eq_true hc
end
end Go.Proofs.Ytiejmoglooaalaa
end
section
open Go Go.HL
namespace Go.Proofs.Ytiejmoglooaalaa
set_option linter.unusedSectionVars false
structure Tr (n:Int) (l:List St) (t:List Int):Prop where
  rg:∀ k ∈ t,0 ≤ k∧k < (l.length:Int)
  nd:t.Nodup
  ln:(t.length:Int)=n - 1
  fo:(tkT l t).length=t.length
theorem cn_out {n:Int} {l:List St} (hE:∀ k,0 ≤ k∧k < (l.length:Int) → sA l k < n∧sB l k < n) {t:List Int} (ht:∀ k ∈ t,0 ≤ k∧k < (l.length:Int)) {u v:Int} (h:Cn l t u v):u=v ∨ (u < n∧v < n):=by
  induction h with
  | refl v=>exact .inl rfl
  | edge h=>exact .inr (hE _ (ht _ h))
  | symm _ ih=>omega
  | trans _ _ h1 h2=>omega
section
variable {n:Int} {l:List St} (hnet:netB n l=true)
include hnet
theorem ends_net {k:Int} (hk:0 ≤ k∧k < (l.length:Int)):(0 ≤ sA l k∧sA l k < n)∧(0 ≤ sB l k∧sB l k < n)∧sA l k ≠ sB l k:=by
  have h:=hnet
  simp only [netB,Bool.and_eq_true,List.all_eq_true,decide_eq_true_eq,stB] at h
  have:=h.1 _ (mem_getD (l:=l) (0,0,0) (show k.toNat < l.length by omega))
  exact ⟨by have:=this.1; exact this,by have:=this.2.1; exact this,this.2.2.1⟩
theorem rt_ge {t:List Int} (ht:∀ k ∈ t,0 ≤ k∧k < (l.length:Int)):17 - n ≤ (rt (labT l t):Int):=by
  have he:=endB_net hnet
  obtain ⟨⟨n1,n2⟩,_⟩:=netB_ends hnet
  have hE:∀ k,0 ≤ k∧k < (l.length:Int) → sA l k < n∧sB l k < n:=fun k hk=>by have:=ends_net hnet hk; omega
  have h1:((List.range 16).filter fun (v:Nat)=>decide (v=0 ∨ n ≤ (v:Int))).length ≤ rt (labT l t):=by
    unfold rt
    rw [← List.countP_eq_length_filter,← List.countP_eq_length_filter]
    refine List.countP_mono_left fun v hv h=>?_
    have hv:=List.mem_range.1 hv
    have h:=of_decide_eq_true h
    have hr:0 ≤ (v:Int)∧(v:Int) < 16:=by omega
    refine decide_eq_true (show lb l t (v:Int)=(v:Int) from ?_)
    have h2:=lb_lo he ht hr
    have h3:=cn_out hE ht (lb_cn he ht hr)
    omega
  have h2:∀ m:Nat,1 ≤ m∧m ≤ 16 → ((List.range 16).filter fun (v:Nat)=>decide (v=0 ∨ (m:Int) ≤ (v:Int))).length=17 - m:=by
    have:∀ m:Fin 17,1 ≤ m.val → ((List.range 16).filter fun (v:Nat)=>decide (v=0 ∨ (m.val:Int) ≤ (v:Int))).length=17 - m.val:=by decide +kernel
    exact fun m hm=>this ⟨m,by omega⟩ hm.1
  have h3:=h2 n.toNat (by omega)
  rw [show ((n.toNat:Nat):Int)=n by omega] at h3
  omega
theorem rank_lt {t:List Int} (ht:∀ k ∈ t,0 ≤ k∧k < (l.length:Int)):((tkT l t).length:Int) ≤ n - 1:=by
  have:=rt_ge hnet ht
  have:=tk_rank (endB_net hnet) ht
  omega
end
end Go.Proofs.Ytiejmoglooaalaa
end
section
open Go Go.HL
namespace Go.Proofs.Ytiejmoglooaalaa
set_option maxRecDepth 100000
open Go.Proofs.Try renaming prog → Tp
open Go.HL.HV renaming undef → Ud
section
variable {F:FuncId → Option (List HV → Option HV)}
noncomputable def B25:Code:=Try.f25.body.getD .skip
abbrev env25 (v0 v1 v2 v6 v7 v8 v9 v10:HV):Env:=[(0,v0),(1,v1),(2,v2),(6,v6),(7,v7),(8,v8),(9,v9),(10,v10)]
theorem ta_a_0 (ls:List HV) (n most:Int) :RunsTo Tp (plF F) 25 (sub [0] B25) [(0,.imm .arg 3 ls),(1,.i n),(2,.i most)] [] .normal ((plF F).keys 25) (env25 (.imm .arg 3 ls) (.i n) (.i most) (.imm .lit 3 []) Ud Ud Ud Ud) [] :=
  RunsTo.hin 0 60 [] fun kf hk=>⟨_,by kernel_rfl,.nil⟩
theorem ta_b_0 (ls:List HV) (n most:Int)  {y7 y8 y9 y10:HV}:RunsTo Tp (plF F) 25 (sub [1,0] B25) (env25 (.imm .arg 3 ls) (.i n) (.i most) (.imm .lit 3 []) y7 y8 y9 y10) [] .normal ((plF F).keys 25) (env25 (.imm .arg 3 ls) (.i n) (.i most) (.imm .lit 3 []) (.sl 0 0 0 none 0 3) y8 y9 y10) [.arr 3 [] true 0] :=
  RunsTo.hin 0 60 [] fun kf hk=>⟨_,by kernel_rfl,.nil⟩
theorem ta_c_0 (ls:List HV) (n most:Int)  (q:Nat) (os:List HV) {y8 y9 y10:HV}:RunsTo Tp (plF F) 25 (sub [1,1,0,0] B25) (env25 (.imm .arg 3 ls) (.i n) (.i most) (.imm .lit 3 []) (.sl 0 0 q none q 3) y8 y9 y10) [.arr 3 os true 0] .normal ((plF F).keys 25) (env25 (.imm .arg 3 ls) (.i n) (.i most) (.imm .lit 3 []) (.sl 0 0 q none q 3) (.i 0) y9 y10) [.arr 3 os true 0] :=
  RunsTo.hin 0 60 [] fun kf hk=>⟨_,by kernel_rfl,.nil⟩
theorem ta_l_0 (ls:List HV) (n most:Int)  (q:Nat) (os:List HV) (i:Nat) (a b w x y v:Int) {y9 y10:HV}(g0:(i:Int) < (ls.length:Int)) (g1:(i:Int) < most) (g2:idxV Tp 22 (.imm .arg 3 ls) (.i (i:Int))=some (.vptr (.agg [.i a,.i b,.i w]))) (g3:∀ kf,callN Tp (plF F) (kf+1) 24 [.i a,.i n] [.arr 3 os true 0]=some (.i x,[.arr 3 os true 0])) (g4:idxV Tp 22 (.imm .arg 3 ls) (.i (i:Int))=some (.vptr (.agg [.i a,.i b,.i w]))) (g5:∀ kf,callN Tp (plF F) (kf+1) 24 [.i b,.i n] [.arr 3 os true 0]=some (.i y,[.arr 3 os true 0])) (g6:idxV Tp 22 (.imm .arg 3 ls) (.i (i:Int))=some (.vptr (.agg [.i a,.i b,.i w]))) (gS5:∀ kf,((same (.i a) (.i a) && sameH ([.arr 3 os true 0]:Heap) [.arr 3 os true 0] && sameH ([.arr 3 os true 0,.arr 3 [.agg [.i 0,.i 0,.i 0]] true 0]:Heap) [.arr 3 os true 0,.arr 3 [.agg [.i 0,.i 0,.i 0]] true 0]) && (recL (callN Tp (plF F) (kf+1) 24 [.i a,.i n] [.arr 3 os true 0]) (callN Tp (plF F) (kf+1) 24 [.i a,.i n] [.arr 3 os true 0]) [.arr 3 os true 0] [.arr 3 os true 0] && (recL (callN Tp (plF F) (kf+1) 24 [.i a,.i n] [.arr 3 os true 0]) (callN Tp (plF F) (kf+1) 24 [.i a,.i n] [.arr 3 os true 0,.arr 3 [.agg [.i 0,.i 0,.i 0]] true 0]) [.arr 3 os true 0] [.arr 3 os true 0,.arr 3 [.agg [.i 0,.i 0,.i 0]] true 0] && ((same (.i b) (.i b) && sameH ([.arr 3 os true 0]:Heap) [.arr 3 os true 0] && sameH ([.arr 3 os true 0,.arr 3 [.agg [.i 0,.i 0,.i 0]] true 0]:Heap) [.arr 3 os true 0,.arr 3 [.agg [.i 0,.i 0,.i 0]] true 0]) && (recL (callN Tp (plF F) (kf+1) 24 [.i b,.i n] [.arr 3 os true 0]) (callN Tp (plF F) (kf+1) 24 [.i b,.i n] [.arr 3 os true 0]) [.arr 3 os true 0] [.arr 3 os true 0] && (recL (callN Tp (plF F) (kf+1) 24 [.i b,.i n] [.arr 3 os true 0]) (callN Tp (plF F) (kf+1) 24 [.i b,.i n] [.arr 3 os true 0,.arr 3 [.agg [.i 0,.i 0,.i 0]] true 0]) [.arr 3 os true 0] [.arr 3 os true 0,.arr 3 [.agg [.i 0,.i 0,.i 0]] true 0] && ((same (.i w) (.i w) && sameH ([.arr 3 os true 0]:Heap) [.arr 3 os true 0] && sameH ([.arr 3 os true 0,.arr 3 [.agg [.i 0,.i 0,.i 0]] true 0]:Heap) [.arr 3 os true 0,.arr 3 [.agg [.i 0,.i 0,.i 0]] true 0]) && true)))))))=true) (g8:w < 0) (g9:∀ kf,callN Tp (plF F) (kf+1) 24 [.i w,.i 1001] [.arr 3 os true 0,.arr 3 [.agg [.i x,.i y,.i w]] true 0]=some (.i v,[.arr 3 os true 0,.arr 3 [.agg [.i x,.i y,.i w]] true 0])) (g10:x=y):RunsTo Tp (plF F) 25 (sub [1,1,0,1,0,0] B25) (env25 (.imm .arg 3 ls) (.i n) (.i most) (.imm .lit 3 []) (.sl 0 0 q none q 3) (.i (i:Int)) y9 y10) [.arr 3 os true 0] .normal ((plF F).keys 25) (env25 (.imm .arg 3 ls) (.i n) (.i most) (.imm .lit 3 []) (.sl 0 0 q none q 3) (.i (IntKind.i64.wrap ((i:Int)+1))) (.ptr 1 0 0 1) y10) [.arr 3 os true 0,.arr 3 [.agg [.i x,.i y,.i v]] true 0] :=
  RunsTo.hin 0 60 [⟨3,3,.bool true,[.arr 3 os true 0]⟩,⟨3,7,.bool true,[.arr 3 os true 0]⟩,⟨5,2,.vptr (.agg [.i a,.i b,.i w]),[.arr 3 os true 0]⟩,⟨5,6,.i x,[.arr 3 os true 0]⟩,⟨5,9,.vptr (.agg [.i a,.i b,.i w]),[.arr 3 os true 0]⟩,⟨5,13,.i y,[.arr 3 os true 0]⟩,⟨5,16,.vptr (.agg [.i a,.i b,.i w]),[.arr 3 os true 0]⟩,⟨6,2,.bool true,[.arr 3 os true 0,.arr 3 [.agg [.i x,.i y,.i w]] true 0]⟩,⟨7,2,.i v,[.arr 3 os true 0,.arr 3 [.agg [.i x,.i y,.i w]] true 0]⟩,⟨8,4,.bool false,[.arr 3 os true 0,.arr 3 [.agg [.i x,.i y,.i v]] true 0]⟩] fun kf hk=>⟨_,by kernel_rfl,(oB [.arr 3 os true 0] (decide_eq_true g0) (oB [.arr 3 os true 0] (decide_eq_true g1) (oC (gS5 kf) (oP [.arr 3 os true 0] g2 (oC (g3 kf) (oP [.arr 3 os true 0] g4 (oC (g5 kf) (oP [.arr 3 os true 0] g6 (oB [.arr 3 os true 0,.arr 3 [.agg [.i x,.i y,.i w]] true 0] (decide_eq_true g8) (oC (g9 kf) (oB [.arr 3 os true 0,.arr 3 [.agg [.i x,.i y,.i v]] true 0] (congrArg not (decide_eq_true g10)) .nil)))))))))))⟩
theorem ta_l_1 (ls:List HV) (n most:Int)  (q:Nat) (os:List HV) (i:Nat) (a b w x y v:Int) {y9 y10:HV}(g0:(i:Int) < (ls.length:Int)) (g1:(i:Int) < most) (g2:idxV Tp 22 (.imm .arg 3 ls) (.i (i:Int))=some (.vptr (.agg [.i a,.i b,.i w]))) (g3:∀ kf,callN Tp (plF F) (kf+1) 24 [.i a,.i n] [.arr 3 os true 0]=some (.i x,[.arr 3 os true 0])) (g4:idxV Tp 22 (.imm .arg 3 ls) (.i (i:Int))=some (.vptr (.agg [.i a,.i b,.i w]))) (g5:∀ kf,callN Tp (plF F) (kf+1) 24 [.i b,.i n] [.arr 3 os true 0]=some (.i y,[.arr 3 os true 0])) (g6:idxV Tp 22 (.imm .arg 3 ls) (.i (i:Int))=some (.vptr (.agg [.i a,.i b,.i w]))) (gS5:∀ kf,((same (.i a) (.i a) && sameH ([.arr 3 os true 0]:Heap) [.arr 3 os true 0] && sameH ([.arr 3 os true 0,.arr 3 [.agg [.i 0,.i 0,.i 0]] true 0]:Heap) [.arr 3 os true 0,.arr 3 [.agg [.i 0,.i 0,.i 0]] true 0]) && (recL (callN Tp (plF F) (kf+1) 24 [.i a,.i n] [.arr 3 os true 0]) (callN Tp (plF F) (kf+1) 24 [.i a,.i n] [.arr 3 os true 0]) [.arr 3 os true 0] [.arr 3 os true 0] && (recL (callN Tp (plF F) (kf+1) 24 [.i a,.i n] [.arr 3 os true 0]) (callN Tp (plF F) (kf+1) 24 [.i a,.i n] [.arr 3 os true 0,.arr 3 [.agg [.i 0,.i 0,.i 0]] true 0]) [.arr 3 os true 0] [.arr 3 os true 0,.arr 3 [.agg [.i 0,.i 0,.i 0]] true 0] && ((same (.i b) (.i b) && sameH ([.arr 3 os true 0]:Heap) [.arr 3 os true 0] && sameH ([.arr 3 os true 0,.arr 3 [.agg [.i 0,.i 0,.i 0]] true 0]:Heap) [.arr 3 os true 0,.arr 3 [.agg [.i 0,.i 0,.i 0]] true 0]) && (recL (callN Tp (plF F) (kf+1) 24 [.i b,.i n] [.arr 3 os true 0]) (callN Tp (plF F) (kf+1) 24 [.i b,.i n] [.arr 3 os true 0]) [.arr 3 os true 0] [.arr 3 os true 0] && (recL (callN Tp (plF F) (kf+1) 24 [.i b,.i n] [.arr 3 os true 0]) (callN Tp (plF F) (kf+1) 24 [.i b,.i n] [.arr 3 os true 0,.arr 3 [.agg [.i 0,.i 0,.i 0]] true 0]) [.arr 3 os true 0] [.arr 3 os true 0,.arr 3 [.agg [.i 0,.i 0,.i 0]] true 0] && ((same (.i w) (.i w) && sameH ([.arr 3 os true 0]:Heap) [.arr 3 os true 0] && sameH ([.arr 3 os true 0,.arr 3 [.agg [.i 0,.i 0,.i 0]] true 0]:Heap) [.arr 3 os true 0,.arr 3 [.agg [.i 0,.i 0,.i 0]] true 0]) && true)))))))=true) (g8:w < 0) (g9:∀ kf,callN Tp (plF F) (kf+1) 24 [.i w,.i 1001] [.arr 3 os true 0,.arr 3 [.agg [.i x,.i y,.i w]] true 0]=some (.i v,[.arr 3 os true 0,.arr 3 [.agg [.i x,.i y,.i w]] true 0])) (g10:¬ (x=y)) (g11:appV [.arr 3 os true 0,.arr 3 [.agg [.i x,.i y,.i v]] true 0] 3 24 (.sl 0 0 q none q 3) [.agg [.i x,.i y,.i v]]=some (.sl 0 0 (q+1) none (q+1) 3,[.arr 3 (os ++ [.agg [.i x,.i y,.i v]]) true 0,.arr 3 [.agg [.i x,.i y,.i v]] true 0])):RunsTo Tp (plF F) 25 (sub [1,1,0,1,0,0] B25) (env25 (.imm .arg 3 ls) (.i n) (.i most) (.imm .lit 3 []) (.sl 0 0 q none q 3) (.i (i:Int)) y9 y10) [.arr 3 os true 0] .normal ((plF F).keys 25) (env25 (.imm .arg 3 ls) (.i n) (.i most) (.imm .lit 3 []) (.sl 0 0 (q+1) none (q+1) 3) (.i (IntKind.i64.wrap ((i:Int)+1))) (.ptr 1 0 0 1) y10) [.arr 3 (os ++ [.agg [.i x,.i y,.i v]]) true 0,.arr 3 [.agg [.i x,.i y,.i v]] true 0] :=
  RunsTo.hin 0 60 [⟨3,3,.bool true,[.arr 3 os true 0]⟩,⟨3,7,.bool true,[.arr 3 os true 0]⟩,⟨5,2,.vptr (.agg [.i a,.i b,.i w]),[.arr 3 os true 0]⟩,⟨5,6,.i x,[.arr 3 os true 0]⟩,⟨5,9,.vptr (.agg [.i a,.i b,.i w]),[.arr 3 os true 0]⟩,⟨5,13,.i y,[.arr 3 os true 0]⟩,⟨5,16,.vptr (.agg [.i a,.i b,.i w]),[.arr 3 os true 0]⟩,⟨6,2,.bool true,[.arr 3 os true 0,.arr 3 [.agg [.i x,.i y,.i w]] true 0]⟩,⟨7,2,.i v,[.arr 3 os true 0,.arr 3 [.agg [.i x,.i y,.i w]] true 0]⟩,⟨8,4,.bool true,[.arr 3 os true 0,.arr 3 [.agg [.i x,.i y,.i v]] true 0]⟩,⟨9,3,.sl 0 0 (q+1) none (q+1) 3,[.arr 3 (os ++ [.agg [.i x,.i y,.i v]]) true 0,.arr 3 [.agg [.i x,.i y,.i v]] true 0]⟩] fun kf hk=>⟨_,by kernel_rfl,(oB [.arr 3 os true 0] (decide_eq_true g0) (oB [.arr 3 os true 0] (decide_eq_true g1) (oC (gS5 kf) (oP [.arr 3 os true 0] g2 (oC (g3 kf) (oP [.arr 3 os true 0] g4 (oC (g5 kf) (oP [.arr 3 os true 0] g6 (oB [.arr 3 os true 0,.arr 3 [.agg [.i x,.i y,.i w]] true 0] (decide_eq_true g8) (oC (g9 kf) (oB [.arr 3 os true 0,.arr 3 [.agg [.i x,.i y,.i v]] true 0] (congrArg not (decide_eq_false g10)) (oC (g11) .nil))))))))))))⟩
theorem ta_l_2 (ls:List HV) (n most:Int)  (q:Nat) (os:List HV) (i:Nat) (a b w x y v:Int) {y9 y10:HV}(g0:(i:Int) < (ls.length:Int)) (g1:(i:Int) < most) (g2:idxV Tp 22 (.imm .arg 3 ls) (.i (i:Int))=some (.vptr (.agg [.i a,.i b,.i w]))) (g3:∀ kf,callN Tp (plF F) (kf+1) 24 [.i a,.i n] [.arr 3 os true 0]=some (.i x,[.arr 3 os true 0])) (g4:idxV Tp 22 (.imm .arg 3 ls) (.i (i:Int))=some (.vptr (.agg [.i a,.i b,.i w]))) (g5:∀ kf,callN Tp (plF F) (kf+1) 24 [.i b,.i n] [.arr 3 os true 0]=some (.i y,[.arr 3 os true 0])) (g6:idxV Tp 22 (.imm .arg 3 ls) (.i (i:Int))=some (.vptr (.agg [.i a,.i b,.i w]))) (gS5:∀ kf,((same (.i a) (.i a) && sameH ([.arr 3 os true 0]:Heap) [.arr 3 os true 0] && sameH ([.arr 3 os true 0,.arr 3 [.agg [.i 0,.i 0,.i 0]] true 0]:Heap) [.arr 3 os true 0,.arr 3 [.agg [.i 0,.i 0,.i 0]] true 0]) && (recL (callN Tp (plF F) (kf+1) 24 [.i a,.i n] [.arr 3 os true 0]) (callN Tp (plF F) (kf+1) 24 [.i a,.i n] [.arr 3 os true 0]) [.arr 3 os true 0] [.arr 3 os true 0] && (recL (callN Tp (plF F) (kf+1) 24 [.i a,.i n] [.arr 3 os true 0]) (callN Tp (plF F) (kf+1) 24 [.i a,.i n] [.arr 3 os true 0,.arr 3 [.agg [.i 0,.i 0,.i 0]] true 0]) [.arr 3 os true 0] [.arr 3 os true 0,.arr 3 [.agg [.i 0,.i 0,.i 0]] true 0] && ((same (.i b) (.i b) && sameH ([.arr 3 os true 0]:Heap) [.arr 3 os true 0] && sameH ([.arr 3 os true 0,.arr 3 [.agg [.i 0,.i 0,.i 0]] true 0]:Heap) [.arr 3 os true 0,.arr 3 [.agg [.i 0,.i 0,.i 0]] true 0]) && (recL (callN Tp (plF F) (kf+1) 24 [.i b,.i n] [.arr 3 os true 0]) (callN Tp (plF F) (kf+1) 24 [.i b,.i n] [.arr 3 os true 0]) [.arr 3 os true 0] [.arr 3 os true 0] && (recL (callN Tp (plF F) (kf+1) 24 [.i b,.i n] [.arr 3 os true 0]) (callN Tp (plF F) (kf+1) 24 [.i b,.i n] [.arr 3 os true 0,.arr 3 [.agg [.i 0,.i 0,.i 0]] true 0]) [.arr 3 os true 0] [.arr 3 os true 0,.arr 3 [.agg [.i 0,.i 0,.i 0]] true 0] && ((same (.i w) (.i w) && sameH ([.arr 3 os true 0]:Heap) [.arr 3 os true 0] && sameH ([.arr 3 os true 0,.arr 3 [.agg [.i 0,.i 0,.i 0]] true 0]:Heap) [.arr 3 os true 0,.arr 3 [.agg [.i 0,.i 0,.i 0]] true 0]) && true)))))))=true) (g8:¬ (w < 0)) (g9:1000 < w) (g10:∀ kf,callN Tp (plF F) (kf+1) 24 [.i w,.i 1001] [.arr 3 os true 0,.arr 3 [.agg [.i x,.i y,.i w]] true 0]=some (.i v,[.arr 3 os true 0,.arr 3 [.agg [.i x,.i y,.i w]] true 0])) (g11:x=y):RunsTo Tp (plF F) 25 (sub [1,1,0,1,0,0] B25) (env25 (.imm .arg 3 ls) (.i n) (.i most) (.imm .lit 3 []) (.sl 0 0 q none q 3) (.i (i:Int)) y9 y10) [.arr 3 os true 0] .normal ((plF F).keys 25) (env25 (.imm .arg 3 ls) (.i n) (.i most) (.imm .lit 3 []) (.sl 0 0 q none q 3) (.i (IntKind.i64.wrap ((i:Int)+1))) (.ptr 1 0 0 1) y10) [.arr 3 os true 0,.arr 3 [.agg [.i x,.i y,.i v]] true 0] :=
  RunsTo.hin 0 60 [⟨3,3,.bool true,[.arr 3 os true 0]⟩,⟨3,7,.bool true,[.arr 3 os true 0]⟩,⟨5,2,.vptr (.agg [.i a,.i b,.i w]),[.arr 3 os true 0]⟩,⟨5,6,.i x,[.arr 3 os true 0]⟩,⟨5,9,.vptr (.agg [.i a,.i b,.i w]),[.arr 3 os true 0]⟩,⟨5,13,.i y,[.arr 3 os true 0]⟩,⟨5,16,.vptr (.agg [.i a,.i b,.i w]),[.arr 3 os true 0]⟩,⟨6,2,.bool false,[.arr 3 os true 0,.arr 3 [.agg [.i x,.i y,.i w]] true 0]⟩,⟨6,6,.bool true,[.arr 3 os true 0,.arr 3 [.agg [.i x,.i y,.i w]] true 0]⟩,⟨7,2,.i v,[.arr 3 os true 0,.arr 3 [.agg [.i x,.i y,.i w]] true 0]⟩,⟨8,4,.bool false,[.arr 3 os true 0,.arr 3 [.agg [.i x,.i y,.i v]] true 0]⟩] fun kf hk=>⟨_,by kernel_rfl,(oB [.arr 3 os true 0] (decide_eq_true g0) (oB [.arr 3 os true 0] (decide_eq_true g1) (oC (gS5 kf) (oP [.arr 3 os true 0] g2 (oC (g3 kf) (oP [.arr 3 os true 0] g4 (oC (g5 kf) (oP [.arr 3 os true 0] g6 (oB [.arr 3 os true 0,.arr 3 [.agg [.i x,.i y,.i w]] true 0] (decide_eq_false g8) (oB [.arr 3 os true 0,.arr 3 [.agg [.i x,.i y,.i w]] true 0] (decide_eq_true g9) (oC (g10 kf) (oB [.arr 3 os true 0,.arr 3 [.agg [.i x,.i y,.i v]] true 0] (congrArg not (decide_eq_true g11)) .nil))))))))))))⟩
theorem ta_l_3 (ls:List HV) (n most:Int)  (q:Nat) (os:List HV) (i:Nat) (a b w x y v:Int) {y9 y10:HV}(g0:(i:Int) < (ls.length:Int)) (g1:(i:Int) < most) (g2:idxV Tp 22 (.imm .arg 3 ls) (.i (i:Int))=some (.vptr (.agg [.i a,.i b,.i w]))) (g3:∀ kf,callN Tp (plF F) (kf+1) 24 [.i a,.i n] [.arr 3 os true 0]=some (.i x,[.arr 3 os true 0])) (g4:idxV Tp 22 (.imm .arg 3 ls) (.i (i:Int))=some (.vptr (.agg [.i a,.i b,.i w]))) (g5:∀ kf,callN Tp (plF F) (kf+1) 24 [.i b,.i n] [.arr 3 os true 0]=some (.i y,[.arr 3 os true 0])) (g6:idxV Tp 22 (.imm .arg 3 ls) (.i (i:Int))=some (.vptr (.agg [.i a,.i b,.i w]))) (gS5:∀ kf,((same (.i a) (.i a) && sameH ([.arr 3 os true 0]:Heap) [.arr 3 os true 0] && sameH ([.arr 3 os true 0,.arr 3 [.agg [.i 0,.i 0,.i 0]] true 0]:Heap) [.arr 3 os true 0,.arr 3 [.agg [.i 0,.i 0,.i 0]] true 0]) && (recL (callN Tp (plF F) (kf+1) 24 [.i a,.i n] [.arr 3 os true 0]) (callN Tp (plF F) (kf+1) 24 [.i a,.i n] [.arr 3 os true 0]) [.arr 3 os true 0] [.arr 3 os true 0] && (recL (callN Tp (plF F) (kf+1) 24 [.i a,.i n] [.arr 3 os true 0]) (callN Tp (plF F) (kf+1) 24 [.i a,.i n] [.arr 3 os true 0,.arr 3 [.agg [.i 0,.i 0,.i 0]] true 0]) [.arr 3 os true 0] [.arr 3 os true 0,.arr 3 [.agg [.i 0,.i 0,.i 0]] true 0] && ((same (.i b) (.i b) && sameH ([.arr 3 os true 0]:Heap) [.arr 3 os true 0] && sameH ([.arr 3 os true 0,.arr 3 [.agg [.i 0,.i 0,.i 0]] true 0]:Heap) [.arr 3 os true 0,.arr 3 [.agg [.i 0,.i 0,.i 0]] true 0]) && (recL (callN Tp (plF F) (kf+1) 24 [.i b,.i n] [.arr 3 os true 0]) (callN Tp (plF F) (kf+1) 24 [.i b,.i n] [.arr 3 os true 0]) [.arr 3 os true 0] [.arr 3 os true 0] && (recL (callN Tp (plF F) (kf+1) 24 [.i b,.i n] [.arr 3 os true 0]) (callN Tp (plF F) (kf+1) 24 [.i b,.i n] [.arr 3 os true 0,.arr 3 [.agg [.i 0,.i 0,.i 0]] true 0]) [.arr 3 os true 0] [.arr 3 os true 0,.arr 3 [.agg [.i 0,.i 0,.i 0]] true 0] && ((same (.i w) (.i w) && sameH ([.arr 3 os true 0]:Heap) [.arr 3 os true 0] && sameH ([.arr 3 os true 0,.arr 3 [.agg [.i 0,.i 0,.i 0]] true 0]:Heap) [.arr 3 os true 0,.arr 3 [.agg [.i 0,.i 0,.i 0]] true 0]) && true)))))))=true) (g8:¬ (w < 0)) (g9:1000 < w) (g10:∀ kf,callN Tp (plF F) (kf+1) 24 [.i w,.i 1001] [.arr 3 os true 0,.arr 3 [.agg [.i x,.i y,.i w]] true 0]=some (.i v,[.arr 3 os true 0,.arr 3 [.agg [.i x,.i y,.i w]] true 0])) (g11:¬ (x=y)) (g12:appV [.arr 3 os true 0,.arr 3 [.agg [.i x,.i y,.i v]] true 0] 3 24 (.sl 0 0 q none q 3) [.agg [.i x,.i y,.i v]]=some (.sl 0 0 (q+1) none (q+1) 3,[.arr 3 (os ++ [.agg [.i x,.i y,.i v]]) true 0,.arr 3 [.agg [.i x,.i y,.i v]] true 0])):RunsTo Tp (plF F) 25 (sub [1,1,0,1,0,0] B25) (env25 (.imm .arg 3 ls) (.i n) (.i most) (.imm .lit 3 []) (.sl 0 0 q none q 3) (.i (i:Int)) y9 y10) [.arr 3 os true 0] .normal ((plF F).keys 25) (env25 (.imm .arg 3 ls) (.i n) (.i most) (.imm .lit 3 []) (.sl 0 0 (q+1) none (q+1) 3) (.i (IntKind.i64.wrap ((i:Int)+1))) (.ptr 1 0 0 1) y10) [.arr 3 (os ++ [.agg [.i x,.i y,.i v]]) true 0,.arr 3 [.agg [.i x,.i y,.i v]] true 0] :=
  RunsTo.hin 0 60 [⟨3,3,.bool true,[.arr 3 os true 0]⟩,⟨3,7,.bool true,[.arr 3 os true 0]⟩,⟨5,2,.vptr (.agg [.i a,.i b,.i w]),[.arr 3 os true 0]⟩,⟨5,6,.i x,[.arr 3 os true 0]⟩,⟨5,9,.vptr (.agg [.i a,.i b,.i w]),[.arr 3 os true 0]⟩,⟨5,13,.i y,[.arr 3 os true 0]⟩,⟨5,16,.vptr (.agg [.i a,.i b,.i w]),[.arr 3 os true 0]⟩,⟨6,2,.bool false,[.arr 3 os true 0,.arr 3 [.agg [.i x,.i y,.i w]] true 0]⟩,⟨6,6,.bool true,[.arr 3 os true 0,.arr 3 [.agg [.i x,.i y,.i w]] true 0]⟩,⟨7,2,.i v,[.arr 3 os true 0,.arr 3 [.agg [.i x,.i y,.i w]] true 0]⟩,⟨8,4,.bool true,[.arr 3 os true 0,.arr 3 [.agg [.i x,.i y,.i v]] true 0]⟩,⟨9,3,.sl 0 0 (q+1) none (q+1) 3,[.arr 3 (os ++ [.agg [.i x,.i y,.i v]]) true 0,.arr 3 [.agg [.i x,.i y,.i v]] true 0]⟩] fun kf hk=>⟨_,by kernel_rfl,(oB [.arr 3 os true 0] (decide_eq_true g0) (oB [.arr 3 os true 0] (decide_eq_true g1) (oC (gS5 kf) (oP [.arr 3 os true 0] g2 (oC (g3 kf) (oP [.arr 3 os true 0] g4 (oC (g5 kf) (oP [.arr 3 os true 0] g6 (oB [.arr 3 os true 0,.arr 3 [.agg [.i x,.i y,.i w]] true 0] (decide_eq_false g8) (oB [.arr 3 os true 0,.arr 3 [.agg [.i x,.i y,.i w]] true 0] (decide_eq_true g9) (oC (g10 kf) (oB [.arr 3 os true 0,.arr 3 [.agg [.i x,.i y,.i v]] true 0] (congrArg not (decide_eq_false g11)) (oC (g12) .nil)))))))))))))⟩
theorem ta_l_4 (ls:List HV) (n most:Int)  (q:Nat) (os:List HV) (i:Nat) (a b w x y v:Int) {y9 y10:HV}(g0:(i:Int) < (ls.length:Int)) (g1:(i:Int) < most) (g2:idxV Tp 22 (.imm .arg 3 ls) (.i (i:Int))=some (.vptr (.agg [.i a,.i b,.i w]))) (g3:∀ kf,callN Tp (plF F) (kf+1) 24 [.i a,.i n] [.arr 3 os true 0]=some (.i x,[.arr 3 os true 0])) (g4:idxV Tp 22 (.imm .arg 3 ls) (.i (i:Int))=some (.vptr (.agg [.i a,.i b,.i w]))) (g5:∀ kf,callN Tp (plF F) (kf+1) 24 [.i b,.i n] [.arr 3 os true 0]=some (.i y,[.arr 3 os true 0])) (g6:idxV Tp 22 (.imm .arg 3 ls) (.i (i:Int))=some (.vptr (.agg [.i a,.i b,.i w]))) (gS5:∀ kf,((same (.i a) (.i a) && sameH ([.arr 3 os true 0]:Heap) [.arr 3 os true 0] && sameH ([.arr 3 os true 0,.arr 3 [.agg [.i 0,.i 0,.i 0]] true 0]:Heap) [.arr 3 os true 0,.arr 3 [.agg [.i 0,.i 0,.i 0]] true 0]) && (recL (callN Tp (plF F) (kf+1) 24 [.i a,.i n] [.arr 3 os true 0]) (callN Tp (plF F) (kf+1) 24 [.i a,.i n] [.arr 3 os true 0]) [.arr 3 os true 0] [.arr 3 os true 0] && (recL (callN Tp (plF F) (kf+1) 24 [.i a,.i n] [.arr 3 os true 0]) (callN Tp (plF F) (kf+1) 24 [.i a,.i n] [.arr 3 os true 0,.arr 3 [.agg [.i 0,.i 0,.i 0]] true 0]) [.arr 3 os true 0] [.arr 3 os true 0,.arr 3 [.agg [.i 0,.i 0,.i 0]] true 0] && ((same (.i b) (.i b) && sameH ([.arr 3 os true 0]:Heap) [.arr 3 os true 0] && sameH ([.arr 3 os true 0,.arr 3 [.agg [.i 0,.i 0,.i 0]] true 0]:Heap) [.arr 3 os true 0,.arr 3 [.agg [.i 0,.i 0,.i 0]] true 0]) && (recL (callN Tp (plF F) (kf+1) 24 [.i b,.i n] [.arr 3 os true 0]) (callN Tp (plF F) (kf+1) 24 [.i b,.i n] [.arr 3 os true 0]) [.arr 3 os true 0] [.arr 3 os true 0] && (recL (callN Tp (plF F) (kf+1) 24 [.i b,.i n] [.arr 3 os true 0]) (callN Tp (plF F) (kf+1) 24 [.i b,.i n] [.arr 3 os true 0,.arr 3 [.agg [.i 0,.i 0,.i 0]] true 0]) [.arr 3 os true 0] [.arr 3 os true 0,.arr 3 [.agg [.i 0,.i 0,.i 0]] true 0] && ((same (.i w) (.i w) && sameH ([.arr 3 os true 0]:Heap) [.arr 3 os true 0] && sameH ([.arr 3 os true 0,.arr 3 [.agg [.i 0,.i 0,.i 0]] true 0]:Heap) [.arr 3 os true 0,.arr 3 [.agg [.i 0,.i 0,.i 0]] true 0]) && true)))))))=true) (g8:¬ (w < 0)) (g9:¬ (1000 < w)) (g10:x=y):RunsTo Tp (plF F) 25 (sub [1,1,0,1,0,0] B25) (env25 (.imm .arg 3 ls) (.i n) (.i most) (.imm .lit 3 []) (.sl 0 0 q none q 3) (.i (i:Int)) y9 y10) [.arr 3 os true 0] .normal ((plF F).keys 25) (env25 (.imm .arg 3 ls) (.i n) (.i most) (.imm .lit 3 []) (.sl 0 0 q none q 3) (.i (IntKind.i64.wrap ((i:Int)+1))) (.ptr 1 0 0 1) y10) [.arr 3 os true 0,.arr 3 [.agg [.i x,.i y,.i w]] true 0] :=
  RunsTo.hin 0 60 [⟨3,3,.bool true,[.arr 3 os true 0]⟩,⟨3,7,.bool true,[.arr 3 os true 0]⟩,⟨5,2,.vptr (.agg [.i a,.i b,.i w]),[.arr 3 os true 0]⟩,⟨5,6,.i x,[.arr 3 os true 0]⟩,⟨5,9,.vptr (.agg [.i a,.i b,.i w]),[.arr 3 os true 0]⟩,⟨5,13,.i y,[.arr 3 os true 0]⟩,⟨5,16,.vptr (.agg [.i a,.i b,.i w]),[.arr 3 os true 0]⟩,⟨6,2,.bool false,[.arr 3 os true 0,.arr 3 [.agg [.i x,.i y,.i w]] true 0]⟩,⟨6,6,.bool false,[.arr 3 os true 0,.arr 3 [.agg [.i x,.i y,.i w]] true 0]⟩,⟨8,4,.bool false,[.arr 3 os true 0,.arr 3 [.agg [.i x,.i y,.i w]] true 0]⟩] fun kf hk=>⟨_,by kernel_rfl,(oB [.arr 3 os true 0] (decide_eq_true g0) (oB [.arr 3 os true 0] (decide_eq_true g1) (oC (gS5 kf) (oP [.arr 3 os true 0] g2 (oC (g3 kf) (oP [.arr 3 os true 0] g4 (oC (g5 kf) (oP [.arr 3 os true 0] g6 (oB [.arr 3 os true 0,.arr 3 [.agg [.i x,.i y,.i w]] true 0] (decide_eq_false g8) (oB [.arr 3 os true 0,.arr 3 [.agg [.i x,.i y,.i w]] true 0] (decide_eq_false g9) (oB [.arr 3 os true 0,.arr 3 [.agg [.i x,.i y,.i w]] true 0] (congrArg not (decide_eq_true g10)) .nil)))))))))))⟩
theorem ta_l_5 (ls:List HV) (n most:Int)  (q:Nat) (os:List HV) (i:Nat) (a b w x y v:Int) {y9 y10:HV}(g0:(i:Int) < (ls.length:Int)) (g1:(i:Int) < most) (g2:idxV Tp 22 (.imm .arg 3 ls) (.i (i:Int))=some (.vptr (.agg [.i a,.i b,.i w]))) (g3:∀ kf,callN Tp (plF F) (kf+1) 24 [.i a,.i n] [.arr 3 os true 0]=some (.i x,[.arr 3 os true 0])) (g4:idxV Tp 22 (.imm .arg 3 ls) (.i (i:Int))=some (.vptr (.agg [.i a,.i b,.i w]))) (g5:∀ kf,callN Tp (plF F) (kf+1) 24 [.i b,.i n] [.arr 3 os true 0]=some (.i y,[.arr 3 os true 0])) (g6:idxV Tp 22 (.imm .arg 3 ls) (.i (i:Int))=some (.vptr (.agg [.i a,.i b,.i w]))) (gS5:∀ kf,((same (.i a) (.i a) && sameH ([.arr 3 os true 0]:Heap) [.arr 3 os true 0] && sameH ([.arr 3 os true 0,.arr 3 [.agg [.i 0,.i 0,.i 0]] true 0]:Heap) [.arr 3 os true 0,.arr 3 [.agg [.i 0,.i 0,.i 0]] true 0]) && (recL (callN Tp (plF F) (kf+1) 24 [.i a,.i n] [.arr 3 os true 0]) (callN Tp (plF F) (kf+1) 24 [.i a,.i n] [.arr 3 os true 0]) [.arr 3 os true 0] [.arr 3 os true 0] && (recL (callN Tp (plF F) (kf+1) 24 [.i a,.i n] [.arr 3 os true 0]) (callN Tp (plF F) (kf+1) 24 [.i a,.i n] [.arr 3 os true 0,.arr 3 [.agg [.i 0,.i 0,.i 0]] true 0]) [.arr 3 os true 0] [.arr 3 os true 0,.arr 3 [.agg [.i 0,.i 0,.i 0]] true 0] && ((same (.i b) (.i b) && sameH ([.arr 3 os true 0]:Heap) [.arr 3 os true 0] && sameH ([.arr 3 os true 0,.arr 3 [.agg [.i 0,.i 0,.i 0]] true 0]:Heap) [.arr 3 os true 0,.arr 3 [.agg [.i 0,.i 0,.i 0]] true 0]) && (recL (callN Tp (plF F) (kf+1) 24 [.i b,.i n] [.arr 3 os true 0]) (callN Tp (plF F) (kf+1) 24 [.i b,.i n] [.arr 3 os true 0]) [.arr 3 os true 0] [.arr 3 os true 0] && (recL (callN Tp (plF F) (kf+1) 24 [.i b,.i n] [.arr 3 os true 0]) (callN Tp (plF F) (kf+1) 24 [.i b,.i n] [.arr 3 os true 0,.arr 3 [.agg [.i 0,.i 0,.i 0]] true 0]) [.arr 3 os true 0] [.arr 3 os true 0,.arr 3 [.agg [.i 0,.i 0,.i 0]] true 0] && ((same (.i w) (.i w) && sameH ([.arr 3 os true 0]:Heap) [.arr 3 os true 0] && sameH ([.arr 3 os true 0,.arr 3 [.agg [.i 0,.i 0,.i 0]] true 0]:Heap) [.arr 3 os true 0,.arr 3 [.agg [.i 0,.i 0,.i 0]] true 0]) && true)))))))=true) (g8:¬ (w < 0)) (g9:¬ (1000 < w)) (g10:¬ (x=y)) (g11:appV [.arr 3 os true 0,.arr 3 [.agg [.i x,.i y,.i w]] true 0] 3 24 (.sl 0 0 q none q 3) [.agg [.i x,.i y,.i w]]=some (.sl 0 0 (q+1) none (q+1) 3,[.arr 3 (os ++ [.agg [.i x,.i y,.i w]]) true 0,.arr 3 [.agg [.i x,.i y,.i w]] true 0])):RunsTo Tp (plF F) 25 (sub [1,1,0,1,0,0] B25) (env25 (.imm .arg 3 ls) (.i n) (.i most) (.imm .lit 3 []) (.sl 0 0 q none q 3) (.i (i:Int)) y9 y10) [.arr 3 os true 0] .normal ((plF F).keys 25) (env25 (.imm .arg 3 ls) (.i n) (.i most) (.imm .lit 3 []) (.sl 0 0 (q+1) none (q+1) 3) (.i (IntKind.i64.wrap ((i:Int)+1))) (.ptr 1 0 0 1) y10) [.arr 3 (os ++ [.agg [.i x,.i y,.i w]]) true 0,.arr 3 [.agg [.i x,.i y,.i w]] true 0] :=
  RunsTo.hin 0 60 [⟨3,3,.bool true,[.arr 3 os true 0]⟩,⟨3,7,.bool true,[.arr 3 os true 0]⟩,⟨5,2,.vptr (.agg [.i a,.i b,.i w]),[.arr 3 os true 0]⟩,⟨5,6,.i x,[.arr 3 os true 0]⟩,⟨5,9,.vptr (.agg [.i a,.i b,.i w]),[.arr 3 os true 0]⟩,⟨5,13,.i y,[.arr 3 os true 0]⟩,⟨5,16,.vptr (.agg [.i a,.i b,.i w]),[.arr 3 os true 0]⟩,⟨6,2,.bool false,[.arr 3 os true 0,.arr 3 [.agg [.i x,.i y,.i w]] true 0]⟩,⟨6,6,.bool false,[.arr 3 os true 0,.arr 3 [.agg [.i x,.i y,.i w]] true 0]⟩,⟨8,4,.bool true,[.arr 3 os true 0,.arr 3 [.agg [.i x,.i y,.i w]] true 0]⟩,⟨9,3,.sl 0 0 (q+1) none (q+1) 3,[.arr 3 (os ++ [.agg [.i x,.i y,.i w]]) true 0,.arr 3 [.agg [.i x,.i y,.i w]] true 0]⟩] fun kf hk=>⟨_,by kernel_rfl,(oB [.arr 3 os true 0] (decide_eq_true g0) (oB [.arr 3 os true 0] (decide_eq_true g1) (oC (gS5 kf) (oP [.arr 3 os true 0] g2 (oC (g3 kf) (oP [.arr 3 os true 0] g4 (oC (g5 kf) (oP [.arr 3 os true 0] g6 (oB [.arr 3 os true 0,.arr 3 [.agg [.i x,.i y,.i w]] true 0] (decide_eq_false g8) (oB [.arr 3 os true 0,.arr 3 [.agg [.i x,.i y,.i w]] true 0] (decide_eq_false g9) (oB [.arr 3 os true 0,.arr 3 [.agg [.i x,.i y,.i w]] true 0] (congrArg not (decide_eq_false g10)) (oC (g11) .nil))))))))))))⟩
theorem ta_l_6 (ls:List HV) (n most:Int)  (q:Nat) (os:List HV) (i:Nat) (a b w x y v:Int) {y9 y10:HV}(g0:(i:Int) < (ls.length:Int)) (g1:¬ ((i:Int) < most)):RunsTo Tp (plF F) 25 (sub [1,1,0,1,0,0] B25) (env25 (.imm .arg 3 ls) (.i n) (.i most) (.imm .lit 3 []) (.sl 0 0 q none q 3) (.i (i:Int)) y9 y10) [.arr 3 os true 0] (.exit 0) ((plF F).keys 25) (env25 (.imm .arg 3 ls) (.i n) (.i most) (.imm .lit 3 []) (.sl 0 0 q none q 3) (.i (i:Int)) y9 y10) [.arr 3 os true 0] :=
  RunsTo.hin 0 60 [⟨3,3,.bool true,[.arr 3 os true 0]⟩,⟨3,7,.bool false,[.arr 3 os true 0]⟩] fun kf hk=>⟨_,by kernel_rfl,(oB [.arr 3 os true 0] (decide_eq_true g0) (oB [.arr 3 os true 0] (decide_eq_false g1) .nil))⟩
theorem ta_l_7 (ls:List HV) (n most:Int)  (q:Nat) (os:List HV) (i:Nat) (a b w x y v:Int) {y9 y10:HV}(g0:¬ ((i:Int) < (ls.length:Int))):RunsTo Tp (plF F) 25 (sub [1,1,0,1,0,0] B25) (env25 (.imm .arg 3 ls) (.i n) (.i most) (.imm .lit 3 []) (.sl 0 0 q none q 3) (.i (i:Int)) y9 y10) [.arr 3 os true 0] (.exit 0) ((plF F).keys 25) (env25 (.imm .arg 3 ls) (.i n) (.i most) (.imm .lit 3 []) (.sl 0 0 q none q 3) (.i (i:Int)) y9 y10) [.arr 3 os true 0] :=
  RunsTo.hin 0 60 [⟨3,3,.bool false,[.arr 3 os true 0]⟩] fun kf hk=>⟨_,by kernel_rfl,(oB [.arr 3 os true 0] (decide_eq_false g0) .nil)⟩
theorem ta_d_0 (ls:List HV) (n most:Int)  (q:Nat) (os:List HV) {y8 y9 y10:HV}:RunsTo Tp (plF F) 25 (sub [1,1,1,0,0] B25) (env25 (.imm .arg 3 ls) (.i n) (.i most) (.imm .lit 3 []) (.sl 0 0 q none q 3) y8 y9 y10) [.arr 3 os true 0] .normal ((plF F).keys 25) (env25 (.imm .arg 3 ls) (.i n) (.i most) (.imm .lit 3 []) (.sl 0 0 q none q 3) y8 y9 (.i 1)) [.arr 3 os true 0] :=
  RunsTo.hin 0 60 [] fun kf hk=>⟨_,by kernel_rfl,.nil⟩
theorem ta_m_0 (ls:List HV) (n most:Int)  (q:Nat) (os:List HV) (i:Nat) (v:Int) {y8 y9:HV}(g0:(i:Int) < n) (g1:∀ kf,callN Tp (plF F) (kf+1) 24 [.i (IntKind.i64.wrap (7 * (i:Int))),.i 12] [.arr 3 os true 0]=some (.i v,[.arr 3 os true 0])) (g2:appV [.arr 3 os true 0] 3 24 (.sl 0 0 q none q 3) [.agg [.i (IntKind.i64.wrap ((i:Int) - 1)),.i (i:Int),.i v]]=some (.sl 0 0 (q+1) none (q+1) 3,[.arr 3 (os ++ [.agg [.i (IntKind.i64.wrap ((i:Int) - 1)),.i (i:Int),.i v]]) true 0])):RunsTo Tp (plF F) 25 (sub [1,1,1,0,1,0,0] B25) (env25 (.imm .arg 3 ls) (.i n) (.i most) (.imm .lit 3 []) (.sl 0 0 q none q 3) y8 y9 (.i (i:Int))) [.arr 3 os true 0] .normal ((plF F).keys 25) (env25 (.imm .arg 3 ls) (.i n) (.i most) (.imm .lit 3 []) (.sl 0 0 (q+1) none (q+1) 3) y8 y9 (.i (IntKind.i64.wrap ((i:Int)+1)))) [.arr 3 (os ++ [.agg [.i (IntKind.i64.wrap ((i:Int) - 1)),.i (i:Int),.i v]]) true 0] :=
  RunsTo.hin 0 60 [⟨11,2,.bool true,[.arr 3 os true 0]⟩,⟨13,6,.i v,[.arr 3 os true 0]⟩,⟨13,9,.sl 0 0 (q+1) none (q+1) 3,[.arr 3 (os ++ [.agg [.i (IntKind.i64.wrap ((i:Int) - 1)),.i (i:Int),.i v]]) true 0]⟩] fun kf hk=>⟨_,by kernel_rfl,(oB [.arr 3 os true 0] (decide_eq_true g0) (oC (g1 kf) (oC (g2) .nil)))⟩
theorem ta_m_1 (ls:List HV) (n most:Int)  (q:Nat) (os:List HV) (i:Nat) (v:Int) {y8 y9:HV}(g0:¬ ((i:Int) < n)):RunsTo Tp (plF F) 25 (sub [1,1,1,0,1,0,0] B25) (env25 (.imm .arg 3 ls) (.i n) (.i most) (.imm .lit 3 []) (.sl 0 0 q none q 3) y8 y9 (.i (i:Int))) [.arr 3 os true 0] (.exit 2) ((plF F).keys 25) (env25 (.imm .arg 3 ls) (.i n) (.i most) (.imm .lit 3 []) (.sl 0 0 q none q 3) y8 y9 (.i (i:Int))) [.arr 3 os true 0] :=
  RunsTo.hin 0 60 [⟨11,2,.bool false,[.arr 3 os true 0]⟩] fun kf hk=>⟨_,by kernel_rfl,(oB [.arr 3 os true 0] (decide_eq_false g0) .nil)⟩
theorem ta_z_0 (ls:List HV) (n most:Int)  (q:Nat) (os:List HV) {y8 y9 y10:HV}:RunsTo Tp (plF F) 25 (sub [1,1,1,1] B25) (env25 (.imm .arg 3 ls) (.i n) (.i most) (.imm .lit 3 []) (.sl 0 0 q none q 3) y8 y9 y10) [.arr 3 os true 0] .ret ((plF F).keys 25) (env25 (.imm .arg 3 ls) (.i n) (.i most) (.sl 0 0 q none q 3) (.sl 0 0 q none q 3) y8 y9 y10) [.arr 3 os true 0] :=
  RunsTo.hin 0 60 [] fun kf hk=>⟨_,by kernel_rfl,.nil⟩
end
end Go.Proofs.Ytiejmoglooaalaa
end
section
open Go Go.HL
namespace Go.Proofs.Ytiejmoglooaalaa
set_option linter.unusedSectionVars false
open Go.Proofs.Try renaming prog → Tp
open Go.HL.HV renaming undef → Ud
def tamW (w:Int):Int:=if w < 0 ∨ 1000 < w then modW w 1001 else w
def tam1 (n:Int) (s:St):St:=(modW s.1 n,modW s.2.1 n,tamW s.2.2)
def tamL (n:Int) (l:List St):List St:=(l.map (tam1 n)).filter fun s=>decide (s.1 ≠ s.2.1)
def pathL (i:Nat):List St:=(List.range i).map fun (k:Nat)=>((k:Int),(k:Int)+1,modW (7 * ((k:Int)+1)) 12)
def tamT (n:Int) (l:List St) (most:Int):List St:=tamL n (l.take most.toNat) ++ pathL (n.toNat - 1)
def tame25:List HV → Option HV:=f3 kS kI kI fun l n most=>if (1 ≤ n∧n ≤ 100)∧0 ≤ most∧most ≤ 100 then some (.own 3 ((tamT n l most).map encT)) else none
theorem tamL_snoc (n:Int) {l:List St} {i:Nat} (hi:i < l.length):tamL n (l.take (i+1))=tamL n (l.take i) ++ if (tam1 n (l.getD i (0,0,0))).1 ≠ (tam1 n (l.getD i (0,0,0))).2.1 then [tam1 n (l.getD i (0,0,0))] else []:=by
  have e:l.take (i+1)=l.take i ++ [l.getD i (0,0,0)]:=by
    rw [List.take_succ_eq_append_getElem hi,getD_at hi]
  rw [e,tamL,List.map_append,List.filter_append,tamL]
  congr 1
  by_cases c:(tam1 n (l.getD i (0,0,0))).1 ≠ (tam1 n (l.getD i (0,0,0))).2.1
  · rw [if_pos c]
    exact List.filter_cons_of_pos (decide_eq_true c)
  · rw [if_neg c]
    exact List.filter_cons_of_neg (by simpa using c)
theorem tamL_len (n:Int) (l:List St):(tamL n l).length ≤ l.length:=by
  have:=List.length_filter_le (fun s:St=>decide (s.1 ≠ s.2.1)) (l.map (tam1 n))
  rw [List.length_map] at this
  exact this
theorem pathL_snoc (i:Nat):pathL (i+1)=pathL i ++ [((i:Int),(i:Int)+1,modW (7 * ((i:Int)+1)) 12)]:=by rw [pathL,List.range_succ,List.map_append]; rfl
theorem pathL_len (i:Nat):(pathL i).length=i:=by rw [pathL,List.length_map,List.length_range]
def prTa:FuncId → Option (List HV → Option HV):=fun g=>if g == 24 then some mod24 else none
theorem soundTa (n:Nat):CallSound Tp (callN Tp (plF prTa) n):=sound_prim _ (fun g f h=>by
  unfold prTa at h
  split at h
  · rename_i hg; cases h; rw [eq_of_beq hg]; exact mod_ok
  · cases h) n
theorem mod_at {F:FuncId → Option (List HV → Option HV)} (h24:F 24=some mod24) (a:Int) {n:Int} (hn:0 < n∧n < 9223372036854775808) (H:Heap):∀ k,callN Tp (plF F) (k+1) 24 [.int .i64 a,.int .i64 n] H=some (.int .i64 (modW a n),H) :=
  at2 (pol':=plF F) (g:=24) (c1:=kI) (c2:=kI) (f:=fun a n=>if 0 < n∧n < 9223372036854775808 then some (.int .i64 (modW a n)) else none) h24 (ShI _ a) (ShI _ n) (if_pos hn)
theorem res25:Try.f25.results.toList=[.tmp 6]:=by kernel_rfl
theorem app_one {H X:Heap} {o:List St} (hl:o.length ≤ 900) (s:St):appV ([bS o] ++ X) 3 24 (.sl 0 0 o.length none o.length 3) [encT s]=some (.sl 0 0 (o.length+1) none (o.length+1) 3,[bS (o ++ [s])] ++ X):=by
  have:=app_sts (H:=[bS o] ++ X) (b:=0) (o:=o) (xs:=[s]) rfl (by simp; omega) (by simp)
  rw [List.length_append,List.length_singleton] at this
  exact this
theorem tam_rec {F:FuncId → Option (List HV → Option HV)} (O:List St) {a b n x y:Int} {kf:Nat} (e1:∀ H,callN Tp (plF F) (kf+1) 24 [.int .i64 a,.int .i64 n] H=some (.int .i64 x,H)) (e2:∀ H,callN Tp (plF F) (kf+1) 24 [.int .i64 b,.int .i64 n] H=some (.int .i64 y,H)) (w:Int) :
    ((same (.int .i64 a) (.int .i64 a) && sameH ([.arr 3 (O.map encT) true 0]:Heap) [.arr 3 (O.map encT) true 0] && sameH ([.arr 3 (O.map encT) true 0,.arr 3 [.agg [.int .i64 0,.int .i64 0,.int .i64 0]] true 0]:Heap) [.arr 3 (O.map encT) true 0,.arr 3 [.agg [.int .i64 0,.int .i64 0,.int .i64 0]] true 0]) && (recL (callN Tp (plF F) (kf+1) 24 [.int .i64 a,.int .i64 n] [.arr 3 (O.map encT) true 0]) (callN Tp (plF F) (kf+1) 24 [.int .i64 a,.int .i64 n] [.arr 3 (O.map encT) true 0]) [.arr 3 (O.map encT) true 0] [.arr 3 (O.map encT) true 0] && (recL (callN Tp (plF F) (kf+1) 24 [.int .i64 a,.int .i64 n] [.arr 3 (O.map encT) true 0]) (callN Tp (plF F) (kf+1) 24 [.int .i64 a,.int .i64 n] [.arr 3 (O.map encT) true 0,.arr 3 [.agg [.int .i64 0,.int .i64 0,.int .i64 0]] true 0]) [.arr 3 (O.map encT) true 0] [.arr 3 (O.map encT) true 0,.arr 3 [.agg [.int .i64 0,.int .i64 0,.int .i64 0]] true 0] && ((same (.int .i64 b) (.int .i64 b) && sameH ([.arr 3 (O.map encT) true 0]:Heap) [.arr 3 (O.map encT) true 0] && sameH ([.arr 3 (O.map encT) true 0,.arr 3 [.agg [.int .i64 0,.int .i64 0,.int .i64 0]] true 0]:Heap) [.arr 3 (O.map encT) true 0,.arr 3 [.agg [.int .i64 0,.int .i64 0,.int .i64 0]] true 0]) && (recL (callN Tp (plF F) (kf+1) 24 [.int .i64 b,.int .i64 n] [.arr 3 (O.map encT) true 0]) (callN Tp (plF F) (kf+1) 24 [.int .i64 b,.int .i64 n] [.arr 3 (O.map encT) true 0]) [.arr 3 (O.map encT) true 0] [.arr 3 (O.map encT) true 0] && (recL (callN Tp (plF F) (kf+1) 24 [.int .i64 b,.int .i64 n] [.arr 3 (O.map encT) true 0]) (callN Tp (plF F) (kf+1) 24 [.int .i64 b,.int .i64 n] [.arr 3 (O.map encT) true 0,.arr 3 [.agg [.int .i64 0,.int .i64 0,.int .i64 0]] true 0]) [.arr 3 (O.map encT) true 0] [.arr 3 (O.map encT) true 0,.arr 3 [.agg [.int .i64 0,.int .i64 0,.int .i64 0]] true 0] && ((same (.int .i64 w) (.int .i64 w) && sameH ([.arr 3 (O.map encT) true 0]:Heap) [.arr 3 (O.map encT) true 0] && sameH ([.arr 3 (O.map encT) true 0,.arr 3 [.agg [.int .i64 0,.int .i64 0,.int .i64 0]] true 0]:Heap) [.arr 3 (O.map encT) true 0,.arr 3 [.agg [.int .i64 0,.int .i64 0,.int .i64 0]] true 0]) && true)))))))=true:=by
  simp only [e1,e2,recL]
  simp [same,sameH,sameL,same_mapL same_st]
theorem tame_round {l:List St} {n most:Int} (hn:1 ≤ n∧n ≤ 100) (hm:most ≤ 100) {i:Nat} (hi:i < l.length) (hi2:(i:Int) < most) :
    ∃ B s,RunsTo Tp (plF prTa) 25 (sub [1,1,0,1,0,0] B25) ((env25 (.imm .arg 3 (l.map encT)) (.int .i64 n) (.int .i64 most) (.imm .lit 3 []) (.sl 0 0 (tamL n (l.take (i))).length none (tamL n (l.take (i))).length 3) (.int .i64 ((i:Nat):Int)) Ud Ud)) [bS (tamL n (l.take (i)))] .normal ((plF prTa).keys 25) ((env25 (.imm .arg 3 (l.map encT)) (.int .i64 n) (.int .i64 most) (.imm .lit 3 []) (.sl 0 0 (tamL n (l.take (i+1))).length none (tamL n (l.take (i+1))).length 3) (.int .i64 ((i+1:Nat):Int)) (.ptr 1 0 0 1) Ud)) ([bS (tamL n (l.take (i+1)))] ++ [B])∧B=bT s:=by
  have hgs:=gs hi
  have hlen:=tamL_len n (l.take i)
  rw [List.length_take] at hlen
  have hsn:=tamL_snoc n hi
  generalize l.getD i (0,0,0)=s at *
  obtain ⟨a,b,w⟩:=s
  have lm:((l.map encT).length:Int)=(l.length:Int):=by rw [List.length_map]
  have m1:=fun H=>mod_at (F:=prTa) (by kernel_rfl) a (n:=n) (by omega) H
  have m2:=fun H=>mod_at (F:=prTa) (by kernel_rfl) b (n:=n) (by omega) H
  have m3:=fun H=>mod_at (F:=prTa) (by kernel_rfl) w (n:=1001) (by omega) H
  generalize hO:tamL n (l.take i)=O at *
  have hw:IntKind.i64.wrap ((i:Int)+1)=((i+1:Nat):Int):=wrap_succ (by omega)
  refine ⟨bT (tam1 n (a,b,w)),tam1 n (a,b,w),?_,rfl⟩
  rw [hsn]
  by_cases c:modW a n=modW b n
  · rw [if_neg (by show ¬ (modW a n ≠ modW b n); simpa using c),List.append_nil]
    by_cases c1:w < 0
    · have s:=ta_l_0 (F:=prTa) (l.map encT) n most O.length (O.map encT) i a b w (modW a n) (modW b n) (modW w 1001) (y9:=Ud) (y10:=Ud) (by omega) hi2 hgs (m1 _) hgs (m2 _) hgs (fun kf=>tam_rec O (fun H=>m1 H kf) (fun H=>m2 H kf) w) c1 (m3 _) c
      rw [hw] at s
      rw [tam1,tamW,if_pos (.inl c1)]
      exact s
    · by_cases c2:1000 < w
      · have s:=ta_l_2 (F:=prTa) (l.map encT) n most O.length (O.map encT) i a b w (modW a n) (modW b n) (modW w 1001) (y9:=Ud) (y10:=Ud) (by omega) hi2 hgs (m1 _) hgs (m2 _) hgs (fun kf=>tam_rec O (fun H=>m1 H kf) (fun H=>m2 H kf) w) c1 c2 (m3 _) c
        rw [hw] at s
        rw [tam1,tamW,if_pos (.inr c2)]
        exact s
      · have s:=ta_l_4 (F:=prTa) (l.map encT) n most O.length (O.map encT) i a b w (modW a n) (modW b n) 0 (y9:=Ud) (y10:=Ud) (by omega) hi2 hgs (m1 _) hgs (m2 _) hgs (fun kf=>tam_rec O (fun H=>m1 H kf) (fun H=>m2 H kf) w) c1 c2 c
        rw [hw] at s
        rw [tam1,tamW,if_neg (fun h=>h.elim c1 c2)]
        exact s
  · rw [if_pos (by show modW a n ≠ modW b n; exact c)]
    have hl2:(O ++ [tam1 n (a,b,w)]).length=O.length+1:=by simp
    have eB:∀ s,bS (O ++ [s])=.arr 3 (O.map encT ++ [encT s]) true 0:=fun s=>by rw [bS,List.map_append]; rfl
    rw [hl2]
    by_cases c1:w < 0
    · have ap:=app_one (H:=[]) (X:=[bT (modW a n,modW b n,modW w 1001)]) (o:=O) (by omega) (modW a n,modW b n,modW w 1001)
      have e:tam1 n (a,b,w)=(modW a n,modW b n,modW w 1001):=by rw [tam1,tamW,if_pos (.inl c1)]
      rw [e]
      rw [eB] at ap ⊢
      have s:=ta_l_1 (F:=prTa) (l.map encT) n most O.length (O.map encT) i a b w (modW a n) (modW b n) (modW w 1001) (y9:=Ud) (y10:=Ud) (by omega) hi2 hgs (m1 _) hgs (m2 _) hgs (fun kf=>tam_rec O (fun H=>m1 H kf) (fun H=>m2 H kf) w) c1 (m3 _) c ap
      rw [hw] at s
      exact s
    · by_cases c2:1000 < w
      · have ap:=app_one (H:=[]) (X:=[bT (modW a n,modW b n,modW w 1001)]) (o:=O) (by omega) (modW a n,modW b n,modW w 1001)
        have e:tam1 n (a,b,w)=(modW a n,modW b n,modW w 1001):=by rw [tam1,tamW,if_pos (.inr c2)]
        rw [e]
        rw [eB] at ap ⊢
        have s:=ta_l_3 (F:=prTa) (l.map encT) n most O.length (O.map encT) i a b w (modW a n) (modW b n) (modW w 1001) (y9:=Ud) (y10:=Ud) (by omega) hi2 hgs (m1 _) hgs (m2 _) hgs (fun kf=>tam_rec O (fun H=>m1 H kf) (fun H=>m2 H kf) w) c1 c2 (m3 _) c ap
        rw [hw] at s
        exact s
      · have ap:=app_one (H:=[]) (X:=[bT (modW a n,modW b n,w)]) (o:=O) (by omega) (modW a n,modW b n,w)
        have e:tam1 n (a,b,w)=(modW a n,modW b n,w):=by rw [tam1,tamW,if_neg (fun h=>h.elim c1 c2)]
        rw [e]
        rw [eB] at ap ⊢
        have s:=ta_l_5 (F:=prTa) (l.map encT) n most O.length (O.map encT) i a b w (modW a n) (modW b n) 0 (y9:=Ud) (y10:=Ud) (by omega) hi2 hgs (m1 _) hgs (m2 _) hgs (fun kf=>tam_rec O (fun H=>m1 H kf) (fun H=>m2 H kf) w) c1 c2 c ap
        rw [hw] at s
        exact s
theorem tame_ok:PrimOk Tp 25 tame25:=by
  refine primOk_pure (pol:=plF prTa) (fn:=Try.f25) (cd:=B25) follows_mixed soundTa (by kernel_rfl) (by kernel_rfl) (fnok prTa _ _ (by kernel_rfl)) (by kernel_rfl) ?_
  intro args res h
  obtain ⟨l,n,most,rfl,hq⟩:=f3_inv h
  split at hq
  case isFalse=>cases hq
  rename_i hc
  obtain ⟨hn,hm0,hm⟩:=hc
  cases hq
  have lm:((l.map encT).length:Int)=(l.length:Int):=by rw [List.length_map]
  have a:=ta_a_0 (F:=prTa) (l.map encT) n most
  have b:=ta_b_0 (F:=prTa) (l.map encT) n most (y7:=Ud) (y8:=Ud) (y9:=Ud) (y10:=Ud)
  have c:=ta_c_0 (F:=prTa) (l.map encT) n most 0 [] (y8:=Ud) (y9:=Ud) (y10:=Ud)
  have hg:∀ i,i ≤ min l.length most.toNat → (tamL n (l.take i)).length ≤ 100:=fun i hi=>by
    have:=tamL_len n (l.take i)
    rw [List.length_take] at this
    omega
  have out:∀ i,i=min l.length most.toNat → RunsTo Tp (plF prTa) 25 (sub [1,1,0,1,0,0] B25) ((env25 (.imm .arg 3 (l.map encT)) (.int .i64 n) (.int .i64 most) (.imm .lit 3 []) (.sl 0 0 (tamL n (l.take (i))).length none (tamL n (l.take (i))).length 3) (.int .i64 ((i:Nat):Int)) Ud Ud)) [bS (tamL n (l.take (i)))] (.exit 0) ((plF prTa).keys 25) ((env25 (.imm .arg 3 (l.map encT)) (.int .i64 n) (.int .i64 most) (.imm .lit 3 []) (.sl 0 0 (tamL n (l.take (i))).length none (tamL n (l.take (i))).length 3) (.int .i64 ((i:Nat):Int)) Ud Ud)) [bS (tamL n (l.take (i)))]:=fun i hi=>by
    by_cases c1:(i:Int) < (l.length:Int)
    · exact ta_l_6 (F:=prTa) (l.map encT) n most (tamL n (l.take i)).length ((tamL n (l.take i)).map encT) i 0 0 0 0 0 0 (y9:=Ud) (y10:=Ud) (by omega) (by omega)
    · exact ta_l_7 (F:=prTa) (l.map encT) n most (tamL n (l.take i)).length ((tamL n (l.take i)).map encT) i 0 0 0 0 0 0 (y9:=Ud) (y10:=Ud) (by omega)
  obtain ⟨x,E',H',r,rfl,rfl,rfl⟩:=countI (pol':=plF prTa) (f:=25) (b:=sub [1,1,0,1,0,0] B25) (c:=sub [1,1,0,1,0] B25) (I:=fun i e H=>e=(env25 (.imm .arg 3 (l.map encT)) (.int .i64 n) (.int .i64 most) (.imm .lit 3 []) (.sl 0 0 (tamL n (l.take (i))).length none (tamL n (l.take (i))).length 3) (.int .i64 ((i:Nat):Int)) Ud Ud)∧H=[bS (tamL n (l.take (i)))])
    (Q:=fun x E' H'=>x=.exit 0∧E'=(env25 (.imm .arg 3 (l.map encT)) (.int .i64 n) (.int .i64 most) (.imm .lit 3 []) (.sl 0 0 (tamL n (l.take (min l.length most.toNat))).length none (tamL n (l.take (min l.length most.toNat))).length 3) (.int .i64 ((min l.length most.toNat:Nat):Int)) Ud Ud)∧H'=[bS (tamL n (l.take (min l.length most.toNat)))]) (min l.length most.toNat)
    (by
      rintro i hi e H ⟨rfl,rfl⟩
      obtain ⟨B,s,h1,rfl⟩:=tame_round (l:=l) (n:=n) (most:=most) hn hm (i:=i) (by omega) (by omega)
      refine ⟨_,_,h1,by kernel_rfl,?_⟩
      exact gc_back (H:=[bS (tamL n (l.take (i+1)))]) (X:=[bT s]) (by show max 0 (max 0 0) ≤ 1; decide) (by show max 0 (max 0 (max 0 (max 0 (max 1 (max 0 (max 0 (max 0 0))))))) ≤ 1; decide))
    (by
      rintro e H ⟨rfl,rfl⟩
      exact ⟨_,_,_,out _ rfl,by simp,rfl,rfl,rfl⟩)
    (by kernel_rfl) (by rintro i e H ⟨rfl,_⟩; kernel_rfl) (e:=(env25 (.imm .arg 3 (l.map encT)) (.int .i64 n) (.int .i64 most) (.imm .lit 3 []) (.sl 0 0 (tamL n (l.take (0))).length none (tamL n (l.take (0))).length 3) (.int .i64 ((0:Nat):Int)) Ud Ud)) (H:=[bS (tamL n (l.take (0)))]) ⟨rfl,rfl⟩
  have hO:=hg _ (Nat.le_refl _)
  have eO:tamL n (l.take (min l.length most.toNat))=tamL n (l.take most.toNat):=by
    congr 1
    rw [List.take_eq_take_iff]; omega
  rw [eO] at r hO
  have d:=ta_d_0 (F:=prTa) (l.map encT) n most (tamL n (l.take most.toNat)).length ((tamL n (l.take most.toNat)).map encT) (y8:=.int .i64 ((min l.length most.toNat:Nat):Int)) (y9:=Ud) (y10:=Ud)
  unfold tamT
  generalize tamL n (l.take most.toNat)=O at *
  have hPl:∀ i,(O ++ pathL i).length=O.length+i:=fun i=>by rw [List.length_append,pathL_len]
  have m12:=fun a H=>mod_at (F:=prTa) (by kernel_rfl) a (n:=12) (by omega) H
  have r2:=count (pol':=plF prTa) (f:=25) (E:=fun i=>(env25 (.imm .arg 3 (l.map encT)) (.int .i64 n) (.int .i64 most) (.imm .lit 3 []) (.sl 0 0 (O ++ pathL (i)).length none (O ++ pathL (i)).length 3) Ud Ud (.int .i64 ((i+1:Nat):Int)))) (Hs:=fun i=>[bS (O ++ pathL (i))]) (n.toNat - 1) (E0:=fun i=>(env25 (.imm .arg 3 (l.map encT)) (.int .i64 n) (.int .i64 most) (.imm .lit 3 []) (.sl 0 0 (O ++ pathL (i+1)).length none (O ++ pathL (i+1)).length 3) Ud Ud (.int .i64 ((i+1+1:Nat):Int)))) (H1:=fun i=>[bS (O ++ pathL (i+1))])
    (fun i hi=>by
      have ap:=app_one (H:=[]) (X:=[]) (o:=O ++ pathL i) (by rw [hPl]; omega) ((i:Int),(i:Int)+1,modW (7 * ((i:Int)+1)) 12)
      rw [List.append_nil,List.append_nil,List.append_assoc,← pathL_snoc] at ap
      have w1:IntKind.i64.wrap (7 * ((i+1:Nat):Int))=7 * ((i:Int)+1):=by rw [wrap_id (by omega) (by omega)]; omega
      have w2:IntKind.i64.wrap (((i+1:Nat):Int) - 1)=(i:Int):=by rw [wrap_id (by omega) (by omega)]; omega
      have w3:(((i+1:Nat):Int))=(i:Int)+1:=by omega
      have s:=ta_m_0 (F:=prTa) (l.map encT) n most (O ++ pathL i).length ((O ++ pathL i).map encT) (i+1) (modW (7 * ((i:Int)+1)) 12) (y8:=Ud) (y9:=Ud) (by omega) (by rw [w1]; exact m12 _ _) (by
        rw [w2,w3]
        have e:(O ++ pathL i).map encT ++ [.agg [.int .i64 (i:Int),.int .i64 ((i:Int)+1),.int .i64 (modW (7 * ((i:Int)+1)) 12)]]=(O ++ pathL (i+1)).map encT:=by
          rw [pathL_snoc,← List.append_assoc,List.map_append (l₁:=O ++ pathL i)]; rfl
        rw [e]
        exact ap)
      rw [wrap_succ (by omega),w2] at s
      have e:(O ++ pathL i).map encT ++ [.agg [.int .i64 (i:Int),.int .i64 ((i+1:Nat):Int),.int .i64 (modW (7 * ((i:Int)+1)) 12)]]=(O ++ pathL (i+1)).map encT:=by
        rw [pathL_snoc,← List.append_assoc,List.map_append (l₁:=O ++ pathL i)]; rfl
      rw [e] at s
      have e2:(O ++ pathL (i+1)).length=(O ++ pathL i).length+1:=by rw [hPl,hPl]; rfl
      rw [e2]
      exact s) (fun i _=>by kernel_rfl) (fun i _=>gc_eq _ rfl) (ta_m_1 (F:=prTa) (l.map encT) n most (O ++ pathL (n.toNat - 1)).length ((O ++ pathL (n.toNat - 1)).map encT) (n.toNat - 1+1) 0 (y8:=Ud) (y9:=Ud) (by omega)) (by simp) (c:=sub [1,1,1,0,1,0] B25) (by kernel_rfl) (fun i _=>by kernel_rfl)
  have e0:O ++ pathL 0=O:=List.append_nil _
  simp only [e0] at r2
  have z:=ta_z_0 (F:=prTa) (l.map encT) n most (O ++ pathL (n.toNat - 1)).length ((O ++ pathL (n.toNat - 1)).map encT) (y10:=.int .i64 ((n.toNat - 1+1:Nat):Int)) (y8:=Ud) (y9:=Ud)
  refine ⟨_,_,_,.sl 0 0 (O ++ pathL (n.toNat - 1)).length none (O ++ pathL (n.toNat - 1)).length 3,sq (a) (sq (b) (sq (sq (c) (bke (c:=sub [1,1,0,1] B25) (lpi (e0:=(env25 (.imm .arg 3 (l.map encT)) (.int .i64 n) (.int .i64 most) (.imm .lit 3 []) (.sl 0 0 (tamL n (l.take (0))).length none (tamL n (l.take (0))).length 3) (.int .i64 ((0:Nat):Int)) Ud Ud)) r (b:=sub [1,1,0,1,0,0] B25))) (c:=sub [1,1,0] B25)) (sq (sq (d) (bke (c:=sub [1,1,1,0,1] B25) (lpi (e0:=(env25 (.imm .arg 3 (l.map encT)) (.int .i64 n) (.int .i64 most) (.imm .lit 3 []) (.sl 0 0 (O).length none (O).length 3) (.int .i64 ((min l.length most.toNat:Nat):Int)) Ud (.int .i64 ((0+1:Nat):Int)))) r2 (b:=sub [1,1,1,0,1,0,0] B25))) (c:=sub [1,1,1,0] B25)) (z) (c:=sub [1,1,1] B25)) (c:=sub [1,1] B25)) (c:=sub [1] B25)) (c:=B25),by simp,by simp only [resultsV,res25]; rfl,?_⟩
  exact res_sts (b:=0) rfl rfl
end Go.Proofs.Ytiejmoglooaalaa
end
section
open Go Go.HL
namespace Go.Proofs.Ytiejmoglooaalaa
set_option linter.unusedSectionVars false
theorem modW_rng (a:Int) {n:Int} (h:0 < n) (h2:n < 4611686018427387904):0 ≤ modW a n∧modW a n < n:=by
  exact modW_bounds a n h (by omega)
theorem cnt16:∀ m:Nat,1 ≤ m∧m ≤ 16 → ((List.range 16).filter fun (v:Nat)=>decide (v=0 ∨ (m:Int) ≤ (v:Int))).length=17 - m:=by
  have:∀ m:Fin 17,1 ≤ m.val → ((List.range 16).filter fun (v:Nat)=>decide (v=0 ∨ (m.val:Int) ≤ (v:Int))).length=17 - m.val:=by decide +kernel
  exact fun m hm=>this ⟨m,by omega⟩ hm.1
section
variable {n:Int} {l:List St} (hnet:netB n l=true)
include hnet
theorem lb_zero {t:List Int} (ht:∀ k ∈ t,0 ≤ k∧k < (l.length:Int)):lb l t 0=0:=by
  have:=lb_lo (endB_net hnet) ht (v:=0) (by omega)
  omega
theorem rank_all {t:List Int} (ht:∀ k ∈ t,0 ≤ k∧k < (l.length:Int)) (h:∀ v,0 ≤ v → v < n → Cn l t 0 v):((tkT l t).length:Int)=n - 1:=by
  have he:=endB_net hnet
  obtain ⟨⟨n1,n2⟩,_⟩:=netB_ends hnet
  have h1:rt (labT l t) ≤ ((List.range 16).filter fun (v:Nat)=>decide (v=0 ∨ n ≤ (v:Int))).length:=by
    unfold rt
    rw [← List.countP_eq_length_filter,← List.countP_eq_length_filter]
    refine List.countP_mono_left fun v hv h3=>?_
    have hv:=List.mem_range.1 hv
    have h3:lb l t (v:Int)=(v:Int):=of_decide_eq_true h3
    refine decide_eq_true ?_
    by_cases c:n ≤ (v:Int)
    · exact .inr c
    · left
      have h4:=cn_lb he ht (h (v:Int) (by omega) (by omega))
      rw [lb_zero hnet ht] at h4
      omega
  have h2:=cnt16 n.toNat (by omega)
  rw [show ((n.toNat:Nat):Int)=n by omega] at h2
  have h3:=tk_rank he ht
  have h4:=rank_lt hnet ht
  omega
theorem conn_all (h:∀ v,0 ≤ v → v < n → Cn l (startT l.length) 0 v):connB n l=true:=by
  have h1:=rank_all hnet (t:=ordT l) (fun k hk=>ordT_mem.1 hk) fun v h0 h1=>(h v h0 h1).mono fun k hk=>ordT_mem.2 (startT_mem.1 hk)
  exact decide_eq_true h1
end
theorem tam_mem {n:Int} {l:List St} {s:St} (h:s ∈ tamL n l) (hn:0 < n) (hn2:n ≤ 100):(0 ≤ s.1∧s.1 < n)∧(0 ≤ s.2.1∧s.2.1 < n)∧s.1 ≠ s.2.1∧0 ≤ s.2.2∧s.2.2 ≤ 1000:=by
  obtain ⟨h1,h2⟩:=List.mem_filter.1 h
  obtain ⟨r,_,rfl⟩:=List.mem_map.1 h1
  have h2:=of_decide_eq_true h2
  have a:=modW_rng r.1 hn (by omega)
  have b:=modW_rng r.2.1 hn (by omega)
  have c:=modW_rng r.2.2 (n:=1001) (by omega) (by omega)
  refine ⟨a,b,h2,?_⟩
  show 0 ≤ tamW r.2.2∧tamW r.2.2 ≤ 1000
  unfold tamW
  split <;> omega
theorem path_mem {m:Nat} {s:St} (h:s ∈ pathL m):∃ k:Nat,k < m∧s=((k:Int),(k:Int)+1,modW (7 * ((k:Int)+1)) 12):=by
  obtain ⟨k,hk,rfl⟩:=List.mem_map.1 h
  exact ⟨k,List.mem_range.1 hk,rfl⟩
theorem tam_len (n:Int) (l:List St) (most:Int):(tamT n l most).length ≤ most.toNat+(n.toNat - 1):=by
  have:=tamL_len n (l.take most.toNat)
  rw [List.length_take] at this
  rw [tamT,List.length_append,pathL_len]
  omega
theorem tam_net {n:Int} (hn:1 ≤ n∧n ≤ 16) (l:List St) {most:Int} (hm:0 ≤ most∧most ≤ 44):netB n (tamT n l most)=true:=by
  have hl:=tam_len n l most
  simp only [netB,Bool.and_eq_true,List.all_eq_true,decide_eq_true_eq,stB]
  refine ⟨fun s hs=>?_,hn,by omega⟩
  rcases List.mem_append.1 hs with h | h
  · have:=tam_mem h (by omega) (by omega)
    omega
  · obtain ⟨k,hk,rfl⟩:=path_mem h
    have:=modW_rng (7 * ((k:Int)+1)) (n:=12) (by omega) (by omega)
    simp only
    omega
theorem tam_path {n:Int} {l:List St} {most:Int} {v:Nat} (hv:v < n.toNat - 1):(tamT n l most).getD ((tamL n (l.take most.toNat)).length+v) (0,0,0)=((v:Int),(v:Int)+1,modW (7 * ((v:Int)+1)) 12):=by
  rw [tamT,List.getD,List.getElem?_append_right (by omega),show (tamL n (l.take most.toNat)).length+v - (tamL n (l.take most.toNat)).length=v by omega]
  simp [pathL,hv]
theorem tam_conn {n:Int} (hn:1 ≤ n∧n ≤ 16) (l:List St) {most:Int} (hm:0 ≤ most∧most ≤ 44):connB n (tamT n l most)=true:=by
  have hnet:=tam_net hn l hm
  refine conn_all hnet fun v h0 h1=>?_
  have key:∀ k:Nat,(k:Int) < n → Cn (tamT n l most) (startT (tamT n l most).length) 0 (k:Int):=by
    intro k
    induction k with
    | zero=>intro _; exact .refl _
    | succ k ih =>
      intro hk
      refine .trans (ih (by omega)) ?_
      have hp:=tam_path (n:=n) (l:=l) (most:=most) (v:=k) (by omega)
      have hlen:(tamT n l most).length=(tamL n (l.take most.toNat)).length+(n.toNat - 1):=by rw [tamT,List.length_append,pathL_len]
      have e:=Cn.edge (l:=tamT n l most) (t:=startT (tamT n l most).length) (k:=(((tamL n (l.take most.toNat)).length+k:Nat):Int)) (startT_mem.2 (by omega))
      rw [sA,sB,Int.toNat_natCast,hp] at e
      exact e
  have:=key v.toNat (by omega)
  rwa [show ((v.toNat:Nat):Int)=v by omega] at this
end Go.Proofs.Ytiejmoglooaalaa
end
section
open Go Go.HL
namespace Go.Proofs.Ytiejmoglooaalaa
set_option maxRecDepth 100000
open Go.Proofs.Try renaming prog → Tp
open Go.HL.HV renaming undef → Ud
section
variable {F:FuncId → Option (List HV → Option HV)}
noncomputable def B14:Code:=Try.f14.body.getD .skip
abbrev env14 (v0 v1 v4 v5 v6 v7 v8 v9:HV):Env:=[(0,v0),(1,v1),(4,v4),(5,v5),(6,v6),(7,v7),(8,v8),(9,v9)]
theorem te_a_0 (N:Nat) (n:Int) (ls:List HV) :RunsTo Tp (plF F) 14 (sub [0] B14) [(0,.i n),(1,.imm .arg 3 ls)] [] .normal ((plF F).keys 14) (env14 (.i n) (.imm .arg 3 ls) (.imm .lit 1 []) (.i 0) (.i 0) Ud Ud Ud) [] :=
  RunsTo.hin N 60 [] fun kf hk=>⟨_,by kernel_rfl,.nil⟩
theorem te_b_0 (N:Nat) (n:Int) (ls:List HV)  {y7 y8 y9:HV} {H0:Heap} {a0:HV} {H1:Heap} {H2:Heap} (g0:∀ kf,N ≤ kf → callN Tp (plF F) (kf+1) 39 [.i n,.imm .arg 3 ls] []=some (.tuple [.agg [.i n,.imm .arg 3 ls],.bool true],H0)) (g1:some (newV (.agg [.i 0,.imm .lit 0 []]) H0)=some (a0,H1)) (g2:storeV Tp H1 66 (a0) (.agg [.i n,.imm .arg 3 ls])=some H2):RunsTo Tp (plF F) 14 (sub [1,0] B14) (env14 (.i n) (.imm .arg 3 ls) (.imm .lit 1 []) (.i 0) (.i 0) y7 y8 y9) [] .normal ((plF F).keys 14) (env14 (.i n) (.imm .arg 3 ls) (.imm .lit 1 []) (.i 0) (.i 0) a0 (.bool true) y9) H2 :=
  RunsTo.hin N 60 [⟨1,2,.tuple [.agg [.i n,.imm .arg 3 ls],.bool true],H0⟩,⟨1,6,a0,H1⟩,⟨1,7,.tuple [],H2⟩] fun kf hk=>⟨_,by kernel_rfl,(oC (g0 kf (by omega)) (oC (g1) (oS g2 .nil)))⟩
theorem te_b_1 (N:Nat) (n:Int) (ls:List HV)  {y7 y8 y9:HV} {H0:Heap} {a0:HV} {H1:Heap} {H2:Heap} (g0:∀ kf,N ≤ kf → callN Tp (plF F) (kf+1) 39 [.i n,.imm .arg 3 ls] []=some (.tuple [.agg [.i n,.imm .arg 3 ls],.bool false],H0)) (g1:some (newV (.agg [.i 0,.imm .lit 0 []]) H0)=some (a0,H1)) (g2:storeV Tp H1 66 (a0) (.agg [.i n,.imm .arg 3 ls])=some H2):RunsTo Tp (plF F) 14 (sub [1,0] B14) (env14 (.i n) (.imm .arg 3 ls) (.imm .lit 1 []) (.i 0) (.i 0) y7 y8 y9) [] .normal ((plF F).keys 14) (env14 (.i n) (.imm .arg 3 ls) (.imm .lit 1 []) (.i 0) (.i 0) a0 (.bool false) y9) H2 :=
  RunsTo.hin N 60 [⟨1,2,.tuple [.agg [.i n,.imm .arg 3 ls],.bool false],H0⟩,⟨1,6,a0,H1⟩,⟨1,7,.tuple [],H2⟩] fun kf hk=>⟨_,by kernel_rfl,(oC (g0 kf (by omega)) (oC (g1) (oS g2 .nil)))⟩
theorem te_ct_0 (N:Nat) (n:Int) (ls:List HV) (H:Heap) {y9:HV}:RunsTo Tp (plF F) 14 (sub [1,1,0] B14) (env14 (.i n) (.imm .arg 3 ls) (.imm .lit 1 []) (.i 0) (.i 0) (.ptr 0 0 0 1) (.bool true) y9) H .normal ((plF F).keys 14) (env14 (.i n) (.imm .arg 3 ls) (.imm .lit 1 []) (.i 0) (.i 0) (.ptr 0 0 0 1) (.bool true) y9) H :=
  RunsTo.hin N 60 [] fun kf hk=>⟨_,by kernel_rfl,.nil⟩
theorem te_cf_0 (N:Nat) (n:Int) (ls:List HV) (H:Heap) {y9:HV}:RunsTo Tp (plF F) 14 (sub [1,1,0] B14) (env14 (.i n) (.imm .arg 3 ls) (.imm .lit 1 []) (.i 0) (.i 0) (.ptr 0 0 0 1) (.bool false) y9) H .ret ((plF F).keys 14) (env14 (.i n) (.imm .arg 3 ls) (.imm .lit 1 []) (.i 0) (.i 2) (.ptr 0 0 0 1) (.bool false) y9) H :=
  RunsTo.hin N 60 [] fun kf hk=>⟨_,by kernel_rfl,.nil⟩
theorem te_d_0 (N:Nat) (n:Int) (ls:List HV) (H:Heap) (tb m:Nat) {y9:HV} {H0:Heap} (g0:loadV Tp H 66 (.ptr 0 0 0 1)=some (.agg [.i n,.imm .arg 3 ls])) (g1:∀ kf,callN Tp (plF F) (kf+1) 40 [.agg [.i n,.imm .arg 3 ls]] H=some (.tuple [.s tb m,.bool true],H0)):RunsTo Tp (plF F) 14 (sub [1,1,1,0] B14) (env14 (.i n) (.imm .arg 3 ls) (.imm .lit 1 []) (.i 0) (.i 0) (.ptr 0 0 0 1) (.bool true) y9) H .normal ((plF F).keys 14) (env14 (.i n) (.imm .arg 3 ls) (.imm .lit 1 []) (.i 0) (.i 0) (.ptr 0 0 0 1) (.bool true) (.s tb m)) H0 :=
  RunsTo.hin N 60 [⟨4,0,.agg [.i n,.imm .arg 3 ls],H⟩,⟨4,1,.tuple [.s tb m,.bool true],H0⟩] fun kf hk=>⟨_,by kernel_rfl,(oP H g0 (oC (g1 kf) .nil))⟩
theorem te_d_1 (N:Nat) (n:Int) (ls:List HV) (H:Heap) (tb m:Nat) {y9:HV} {H0:Heap} (g0:loadV Tp H 66 (.ptr 0 0 0 1)=some (.agg [.i n,.imm .arg 3 ls])) (g1:∀ kf,callN Tp (plF F) (kf+1) 40 [.agg [.i n,.imm .arg 3 ls]] H=some (.tuple [.s tb m,.bool false],H0)):RunsTo Tp (plF F) 14 (sub [1,1,1,0] B14) (env14 (.i n) (.imm .arg 3 ls) (.imm .lit 1 []) (.i 0) (.i 0) (.ptr 0 0 0 1) (.bool true) y9) H .normal ((plF F).keys 14) (env14 (.i n) (.imm .arg 3 ls) (.imm .lit 1 []) (.i 0) (.i 0) (.ptr 0 0 0 1) (.bool false) (.s tb m)) H0 :=
  RunsTo.hin N 60 [⟨4,0,.agg [.i n,.imm .arg 3 ls],H⟩,⟨4,1,.tuple [.s tb m,.bool false],H0⟩] fun kf hk=>⟨_,by kernel_rfl,(oP H g0 (oC (g1 kf) .nil))⟩
theorem te_et_0 (N:Nat) (n:Int) (ls:List HV) (H:Heap) (tb m:Nat):RunsTo Tp (plF F) 14 (sub [1,1,1,1,0] B14) (env14 (.i n) (.imm .arg 3 ls) (.imm .lit 1 []) (.i 0) (.i 0) (.ptr 0 0 0 1) (.bool true) (.s tb m)) H .normal ((plF F).keys 14) (env14 (.i n) (.imm .arg 3 ls) (.imm .lit 1 []) (.i 0) (.i 0) (.ptr 0 0 0 1) (.bool true) (.s tb m)) H :=
  RunsTo.hin N 60 [] fun kf hk=>⟨_,by kernel_rfl,.nil⟩
theorem te_ef_0 (N:Nat) (n:Int) (ls:List HV) (H:Heap) (tb m:Nat):RunsTo Tp (plF F) 14 (sub [1,1,1,1,0] B14) (env14 (.i n) (.imm .arg 3 ls) (.imm .lit 1 []) (.i 0) (.i 0) (.ptr 0 0 0 1) (.bool false) (.s tb m)) H .ret ((plF F).keys 14) (env14 (.i n) (.imm .arg 3 ls) (.imm .lit 1 []) (.i 0) (.i 6) (.ptr 0 0 0 1) (.bool false) (.s tb m)) H :=
  RunsTo.hin N 60 [] fun kf hk=>⟨_,by kernel_rfl,.nil⟩
theorem te_z_0 (N:Nat) (n:Int) (ls:List HV) (H:Heap) (tb m:Nat) (w:Int) {H0:Heap} {H1:Heap} (g0:∀ kf,N ≤ kf → callN Tp (plF F) (kf+1) 41 [.s tb m] H=some (.tuple [],H0)) (g1:loadV Tp H0 66 (.ptr 0 0 0 1)=some (.agg [.i n,.imm .arg 3 ls])) (g2:∀ kf,callN Tp (plF F) (kf+1) 42 [.agg [.i n,.imm .arg 3 ls],.s tb m] H0=some (.i w,H1)):RunsTo Tp (plF F) 14 (sub [1,1,1,1,1] B14) (env14 (.i n) (.imm .arg 3 ls) (.imm .lit 1 []) (.i 0) (.i 0) (.ptr 0 0 0 1) (.bool true) (.s tb m)) H .ret ((plF F).keys 14) (env14 (.i n) (.imm .arg 3 ls) (.s tb m) (.i w) (.i 0) (.ptr 0 0 0 1) (.bool true) (.s tb m)) H1 :=
  RunsTo.hin N 60 [⟨7,1,.tuple [],H0⟩,⟨8,1,.agg [.i n,.imm .arg 3 ls],H0⟩,⟨8,3,.i w,H1⟩] fun kf hk=>⟨_,by kernel_rfl,(oC (g0 kf (by omega)) (oP H0 g1 (oC (g2 kf) .nil)))⟩
end
end Go.Proofs.Ytiejmoglooaalaa
end
section
open Go Go.HL
namespace Go.Proofs.Ytiejmoglooaalaa
set_option maxRecDepth 100000
open Go.Proofs.Try renaming prog → Tp
open Go.HL.HV renaming undef → Ud
section
variable {F:FuncId → Option (List HV → Option HV)}
noncomputable def B81:Code:=Try.f81.body.getD .skip
abbrev env81 (v0 v1 v4:HV):Env:=[(0,v0),(1,v1),(4,v4)]
theorem le_a_0 (x y:Int) (H:Heap) {H0:Heap} (g0:∀ kf,callN Tp (plF F) (kf+1) 89 [.i x] H=some (.bool false,H0)) (g1:x < y):RunsTo Tp (plF F) 81 (sub [] B81) [(0,.i x),(1,.i y)] H .ret ((plF F).keys 81) (env81 (.i x) (.i y) (.bool true)) H0 :=
  RunsTo.hin 0 60 [⟨1,1,.bool false,H0⟩,⟨1,10,.bool true,H0⟩] fun kf hk=>⟨_,by kernel_rfl,(oC (g0 kf) (oB H0 (decide_eq_true g1) .nil))⟩
theorem le_a_1 (x y:Int) (H:Heap) {H0:Heap} (g0:∀ kf,callN Tp (plF F) (kf+1) 89 [.i x] H=some (.bool false,H0)) (g1:¬ (x < y)):RunsTo Tp (plF F) 81 (sub [] B81) [(0,.i x),(1,.i y)] H .ret ((plF F).keys 81) (env81 (.i x) (.i y) (.bool false)) H0 :=
  RunsTo.hin 0 60 [⟨1,1,.bool false,H0⟩,⟨1,10,.bool false,H0⟩] fun kf hk=>⟨_,by kernel_rfl,(oC (g0 kf) (oB H0 (decide_eq_false g1) .nil))⟩
noncomputable def B75:Code:=Try.f75.body.getD .skip
abbrev env75 (v0 v1 v2 v6 v7:HV):Env:=[(0,v0),(1,v1),(2,v2),(6,v6),(7,v7)]
theorem ii_a_0 (db n:Nat) (H:Heap):RunsTo Tp (plF F) 75 (sub [0] B75) [(0,.s db n),(1,.i 0),(2,.i (n:Int))] H .normal ((plF F).keys 75) (env75 (.s db n) (.i 0) (.i (n:Int)) (.i 1) Ud) H :=
  RunsTo.hin 0 60 [] fun kf hk=>⟨_,by kernel_rfl,.nil⟩
theorem ii_b_0 (db n:Nat) (H:Heap) (i:Nat) {y7:HV}(g0:(i:Int) < (n:Int)):RunsTo Tp (plF F) 75 (sub [1,0,0,0] B75) (env75 (.s db n) (.i 0) (.i (n:Int)) (.i (i:Int)) y7) H .normal ((plF F).keys 75) (env75 (.s db n) (.i 0) (.i (n:Int)) (.i (i:Int)) y7) H :=
  RunsTo.hin 0 60 [⟨1,2,.bool true,H⟩] fun kf hk=>⟨_,by kernel_rfl,(oB H (decide_eq_true g0) .nil)⟩
theorem ii_b_1 (db n:Nat) (H:Heap) (i:Nat) {y7:HV}(g0:¬ ((i:Int) < (n:Int))):RunsTo Tp (plF F) 75 (sub [1,0,0,0] B75) (env75 (.s db n) (.i 0) (.i (n:Int)) (.i (i:Int)) y7) H (.exit 0) ((plF F).keys 75) (env75 (.s db n) (.i 0) (.i (n:Int)) (.i (i:Int)) y7) H :=
  RunsTo.hin 0 60 [⟨1,2,.bool false,H⟩] fun kf hk=>⟨_,by kernel_rfl,(oB H (decide_eq_false g0) .nil)⟩
theorem ii_c_0 (db n:Nat) (H:Heap) (i:Nat) {y7:HV}:RunsTo Tp (plF F) 75 (sub [1,0,0,1,0,0,0] B75) (env75 (.s db n) (.i 0) (.i (n:Int)) (.i (i:Int)) y7) H .normal ((plF F).keys 75) (env75 (.s db n) (.i 0) (.i (n:Int)) (.i (i:Int)) (.i (i:Int))) H :=
  RunsTo.hin 0 60 [] fun kf hk=>⟨_,by kernel_rfl,.nil⟩
theorem ii_d_0 (db n:Nat) (H:Heap) (i j:Nat) (x y:Int) {H0:Heap} {H1:Heap} {H2:Heap} (g0:0 < (j:Int)) (g1:idxV Tp 24 (.s db n) (.i (j:Int))=some (.ptr db j 0 n)) (g2:loadV Tp H 3 (.ptr db j 0 n)=some (.i x)) (g3:idxV Tp 24 (.s db n) (.i (IntKind.i64.wrap ((j:Int) - 1)))=some (.ptr db ((IntKind.i64.wrap ((j:Int) - 1)).toNat) 0 n)) (g4:loadV Tp H 3 (.ptr db ((IntKind.i64.wrap ((j:Int) - 1)).toNat) 0 n)=some (.i y)) (g5:∀ kf,callN Tp (plF F) (kf+1) 81 [.i x,.i y] H=some (.bool true,H0)) (g6:idxV Tp 24 (.s db n) (.i (IntKind.i64.wrap ((j:Int) - 1)))=some (.ptr db ((IntKind.i64.wrap ((j:Int) - 1)).toNat) 0 n)) (g7:loadV Tp H0 3 (.ptr db ((IntKind.i64.wrap ((j:Int) - 1)).toNat) 0 n)=some (.i y)) (g8:idxV Tp 24 (.s db n) (.i (j:Int))=some (.ptr db j 0 n)) (g9:loadV Tp H0 3 (.ptr db j 0 n)=some (.i x)) (g10:idxV Tp 24 (.s db n) (.i (j:Int))=some (.ptr db j 0 n)) (g11:storeV Tp H0 3 (.ptr db j 0 n) (.i y)=some H1) (g12:idxV Tp 24 (.s db n) (.i (IntKind.i64.wrap ((j:Int) - 1)))=some (.ptr db ((IntKind.i64.wrap ((j:Int) - 1)).toNat) 0 n)) (g13:storeV Tp H1 3 (.ptr db ((IntKind.i64.wrap ((j:Int) - 1)).toNat) 0 n) (.i x)=some H2):RunsTo Tp (plF F) 75 (sub [1,0,0,1,0,0,1,0,0] B75) (env75 (.s db n) (.i 0) (.i (n:Int)) (.i (i:Int)) (.i (j:Int))) H .normal ((plF F).keys 75) (env75 (.s db n) (.i 0) (.i (n:Int)) (.i (i:Int)) (.i (IntKind.i64.wrap ((j:Int) - 1)))) H2 :=
  RunsTo.hin 0 60 [⟨4,2,.bool true,H⟩,⟨4,6,.ptr db j 0 n,H⟩,⟨4,7,.i x,H⟩,⟨4,11,.ptr db ((IntKind.i64.wrap ((j:Int) - 1)).toNat) 0 n,H⟩,⟨4,12,.i y,H⟩,⟨4,13,.bool true,H0⟩,⟨6,8,.ptr db ((IntKind.i64.wrap ((j:Int) - 1)).toNat) 0 n,H0⟩,⟨6,9,.i y,H0⟩,⟨6,12,.ptr db j 0 n,H0⟩,⟨6,13,.i x,H0⟩,⟨6,14,.ptr db j 0 n,H0⟩,⟨6,15,.tuple [],H1⟩,⟨6,16,.ptr db ((IntKind.i64.wrap ((j:Int) - 1)).toNat) 0 n,H1⟩,⟨6,17,.tuple [],H2⟩] fun kf hk=>⟨_,by kernel_rfl,(oB H (decide_eq_true g0) (oP H g1 (oP H g2 (oP H g3 (oP H g4 (oC (g5 kf) (oP H0 g6 (oP H0 g7 (oP H0 g8 (oP H0 g9 (oP H0 g10 (oS g11 (oP H1 g12 (oS g13 .nil))))))))))))))⟩
theorem ii_d_1 (db n:Nat) (H:Heap) (i j:Nat) (x y:Int) {H0:Heap} (g0:0 < (j:Int)) (g1:idxV Tp 24 (.s db n) (.i (j:Int))=some (.ptr db j 0 n)) (g2:loadV Tp H 3 (.ptr db j 0 n)=some (.i x)) (g3:idxV Tp 24 (.s db n) (.i (IntKind.i64.wrap ((j:Int) - 1)))=some (.ptr db ((IntKind.i64.wrap ((j:Int) - 1)).toNat) 0 n)) (g4:loadV Tp H 3 (.ptr db ((IntKind.i64.wrap ((j:Int) - 1)).toNat) 0 n)=some (.i y)) (g5:∀ kf,callN Tp (plF F) (kf+1) 81 [.i x,.i y] H=some (.bool false,H0)):RunsTo Tp (plF F) 75 (sub [1,0,0,1,0,0,1,0,0] B75) (env75 (.s db n) (.i 0) (.i (n:Int)) (.i (i:Int)) (.i (j:Int))) H (.exit 2) ((plF F).keys 75) (env75 (.s db n) (.i 0) (.i (n:Int)) (.i (i:Int)) (.i (j:Int))) H0 :=
  RunsTo.hin 0 60 [⟨4,2,.bool true,H⟩,⟨4,6,.ptr db j 0 n,H⟩,⟨4,7,.i x,H⟩,⟨4,11,.ptr db ((IntKind.i64.wrap ((j:Int) - 1)).toNat) 0 n,H⟩,⟨4,12,.i y,H⟩,⟨4,13,.bool false,H0⟩] fun kf hk=>⟨_,by kernel_rfl,(oB H (decide_eq_true g0) (oP H g1 (oP H g2 (oP H g3 (oP H g4 (oC (g5 kf) .nil))))))⟩
theorem ii_d_2 (db n:Nat) (H:Heap) (i j:Nat) (x y:Int)(g0:¬ (0 < (j:Int))):RunsTo Tp (plF F) 75 (sub [1,0,0,1,0,0,1,0,0] B75) (env75 (.s db n) (.i 0) (.i (n:Int)) (.i (i:Int)) (.i (j:Int))) H (.exit 2) ((plF F).keys 75) (env75 (.s db n) (.i 0) (.i (n:Int)) (.i (i:Int)) (.i (j:Int))) H :=
  RunsTo.hin 0 60 [⟨4,2,.bool false,H⟩] fun kf hk=>⟨_,by kernel_rfl,(oB H (decide_eq_false g0) .nil)⟩
theorem ii_e_0 (db n:Nat) (H:Heap) (i:Nat) {y7:HV}:RunsTo Tp (plF F) 75 (sub [1,0,0,1,1] B75) (env75 (.s db n) (.i 0) (.i (n:Int)) (.i (i:Int)) y7) H .normal ((plF F).keys 75) (env75 (.s db n) (.i 0) (.i (n:Int)) (.i (IntKind.i64.wrap ((i:Int)+1))) y7) H :=
  RunsTo.hin 0 60 [] fun kf hk=>⟨_,by kernel_rfl,.nil⟩
noncomputable def B62:Code:=Try.f62.body.getD .skip
abbrev env62 (v0 v1 v2 v3 v8 v9 v10 v11 v12 v13 v14 v15 v16 v17 v18:HV):Env:=[(0,v0),(1,v1),(2,v2),(3,v3),(8,v8),(9,v9),(10,v10),(11,v11),(12,v12),(13,v13),(14,v14),(15,v15),(16,v16),(17,v17),(18,v18)]
theorem ip_a_0 (N:Nat) (db n:Nat) (m:Int) (H:Heap):RunsTo Tp (plF F) 62 (sub [0] B62) [(0,.s db n),(1,.i 0),(2,.i (n:Int)),(3,.i m)] H .normal ((plF F).keys 62) (env62 (.s db n) (.i 0) (.i (n:Int)) (.i m) (.bool true) Ud Ud Ud Ud Ud Ud Ud Ud Ud Ud) H :=
  RunsTo.hin N 60 [] fun kf hk=>⟨_,by kernel_rfl,.nil⟩
theorem ip_b_0 (N:Nat) (db n:Nat) (m:Int) (H:Heap) {y9 y10 y11 y12 y13 y14 y15 y16 y17 y18:HV}:RunsTo Tp (plF F) 62 (sub [1,0] B62) (env62 (.s db n) (.i 0) (.i (n:Int)) (.i m) (.bool true) y9 y10 y11 y12 y13 y14 y15 y16 y17 y18) H .normal ((plF F).keys 62) (env62 (.s db n) (.i 0) (.i (n:Int)) (.i m) (.bool true) (.bool true) y10 y11 y12 y13 y14 y15 y16 y17 y18) H :=
  RunsTo.hin N 60 [] fun kf hk=>⟨_,by kernel_rfl,.nil⟩
theorem ip_c_0 (N:Nat) (db n:Nat) (m:Int) (H:Heap) {y10 y11 y12 y13 y14 y15 y16 y17 y18:HV}:RunsTo Tp (plF F) 62 (sub [1,1,0,0,0,0] B62) (env62 (.s db n) (.i 0) (.i (n:Int)) (.i m) (.bool true) (.bool true) y10 y11 y12 y13 y14 y15 y16 y17 y18) H .normal ((plF F).keys 62) (env62 (.s db n) (.i 0) (.i (n:Int)) (.i m) (.bool true) (.bool true) (.i (IntKind.i64.wrap ((n:Int) - 0))) y11 y12 y13 y14 y15 y16 y17 y18) H :=
  RunsTo.hin N 60 [] fun kf hk=>⟨_,by kernel_rfl,.nil⟩
theorem ip_d_0 (N:Nat) (db n:Nat) (m:Int) (H:Heap) {y11 y12 y13 y14 y15 y16 y17 y18:HV} {H0:Heap} (g0:(n:Int) ≤ 12) (g1:∀ kf,N ≤ kf → callN Tp (plF F) (kf+1) 75 [.s db n,.i 0,.i (n:Int)] H=some (.tuple [],H0)):RunsTo Tp (plF F) 62 (sub [1,1,0,0,0,1,0] B62) (env62 (.s db n) (.i 0) (.i (n:Int)) (.i m) (.bool true) (.bool true) (.i (n:Int)) y11 y12 y13 y14 y15 y16 y17 y18) H .ret ((plF F).keys 62) (env62 (.s db n) (.i 0) (.i (n:Int)) (.i m) (.bool true) (.bool true) (.i (n:Int)) y11 y12 y13 y14 y15 y16 y17 y18) H0 :=
  RunsTo.hin N 60 [⟨3,1,.bool true,H⟩,⟨4,3,.tuple [],H0⟩] fun kf hk=>⟨_,by kernel_rfl,(oB H (decide_eq_true g0) (oC (g1 kf (by omega)) .nil))⟩
noncomputable def B41:Code:=Try.f41.body.getD .skip
abbrev env41 (v0 v2:HV):Env:=[(0,v0),(2,v2)]
theorem io_a_0 (N:Nat) (db n:Nat) (m:Int) (H:Heap) {H0:Heap} {H1:Heap} (g0:∀ kf,callN Tp (plF F) (kf+1) 63 [.int .u64 (IntKind.u64.wrap (n:Int))] H=some (.i m,H0)) (g1:∀ kf,N ≤ kf → callN Tp (plF F) (kf+1) 62 [.s db n,.i 0,.i (n:Int),.i m] H0=some (.tuple [],H1)):RunsTo Tp (plF F) 41 (sub [] B41) [(0,.s db n)] H .normal ((plF F).keys 41) (env41 (.s db n) (.i (n:Int))) H1 :=
  RunsTo.hin N 60 [⟨1,4,.i m,H0⟩,⟨1,5,.tuple [],H1⟩] fun kf hk=>⟨_,by kernel_rfl,(oC (g0 kf) (oC (g1 kf (by omega)) .nil))⟩
end
end Go.Proofs.Ytiejmoglooaalaa
end
section
open Go Go.HL Go.HL.So
namespace Go.Proofs.Ytiejmoglooaalaa
set_option linter.unusedSectionVars false
open Go.Proofs.Try renaming prog → Tp
open Go.HL.HV renaming undef → Ud
def less81:List HV → Option HV | [.int .i64 x,.int .i64 y]=>some (.bool (decide (x < y))) | _=>none
theorem res81:Try.f81.results.toList=[.tmp 4]:=by kernel_rfl
def prIs:FuncId → Option (List HV → Option HV):=fun g=>if g == 89 then some nan89 else none
theorem soundIs (n:Nat):CallSound Tp (callN Tp (plF prIs) n):=sound_prim _ (fun g f h=>by
  unfold prIs at h
  split at h
  · rename_i hg; cases h; rw [eq_of_beq hg]; exact nan_ok
  · cases h) n
theorem less_ok:PrimOk Tp 81 less81:=by
  refine primOk_pure (pol:=plF prIs) (fn:=Try.f81) (cd:=B81) follows_mixed soundIs (by kernel_rfl) (by kernel_rfl) (fnok prIs _ _ (by kernel_rfl)) (by kernel_rfl) ?_
  intro args res h
  unfold less81 at h
  split at h
  · rename_i x y
    cases h
    have q:∀ kf,callN Tp (plF prIs) (kf+1) 89 [.int .i64 x] []=some (.bool false,[]):=fun kf=>by
      rw [prim_call (pol:=plF prIs) (g:=89) (F:=nan89) (by kernel_rfl) (rs:=[.int .i64 x]) rfl (res:=.bool false) rfl]; rfl
    by_cases c:x < y
    · rw [decide_eq_true c]
      exact ⟨_,_,_,.bool true,le_a_0 x y [] q c,by simp,by simp only [resultsV,res81]; rfl,rfl⟩
    · rw [decide_eq_false c]
      exact ⟨_,_,_,.bool false,le_a_1 x y [] q c,by simp,by simp only [resultsV,res81]; rfl,rfl⟩
  · cases h
theorem ltI_lin:Lin (fun a b:Int=>a < b):=⟨fun x y z (h1:¬ y < x) (h2:¬ z < y)=>show ¬ z < x by omega,fun x y (h:x < y)=>show ¬ y < x by omega⟩
abbrev ltI:Int → Int → Prop:=fun a b=>a < b
section
variable {F:FuncId → Option (List HV → Option HV)} {H:Heap} {db n:Nat} (hd:db < H.length)
include hd
theorem less_at (h81:F 81=some less81) (x y:Int) (H:Heap):∀ kf,callN Tp (plF F) (kf+1) 81 [.int .i64 x,.int .i64 y] H=some (.bool (decide (x < y)),H):=fun kf=>by
  rw [prim_call (pol:=plF F) (g:=81) (F:=less81) h81 (rs:=[.int .i64 x,.int .i64 y]) rfl (res:=.bool (decide (x < y))) rfl]; rfl
theorem ii_in (h81:F 81=some less81) {i:Nat} (hi:i < n) (hn:n ≤ 1000):∀ (j:Nat) (l:List Int),l.length=n → j ≤ i → Sink ltI 0 (i+1) j l →
    ∃ y l',RunsTo Tp (plF F) 75 (sub [1,0,0,1,0,0,1,0] B75) (env75 (.sl db 0 n none n 1) (.int .i64 0) (.int .i64 (n:Int)) (.int .i64 (i:Int)) (.int .i64 (j:Int))) (H.set db (bI l)) (.exit 2) ((plF F).keys 75) (env75 (.sl db 0 n none n 1) (.int .i64 0) (.int .i64 (n:Int)) (.int .i64 (i:Int)) y) (H.set db (bI l'))∧Sw 0 (i+1) l l'∧Sorted ltI 0 (i+1) l':=by
  intro j
  induction j with
  | zero =>
    intro l hl hj hS
    exact ⟨_,l,lpo (ii_d_2 (F:=F) db n (H.set db (bI l)) i 0 0 0 (by omega)),.refl,sink_end ltI_lin hS (.inl (Nat.zero_le _))⟩
  | succ j ih =>
    intro l hl hj hS
    have hb:(H.set db (bI l))[db]?=some (bI l):=List.getElem?_set_self hd
    have e1:IntKind.i64.wrap (((j+1:Nat):Int) - 1)=(j:Int):=by simp only [wrapI64]; omega
    have e2:(IntKind.i64.wrap (((j+1:Nat):Int) - 1)).toNat=j:=by rw [e1]; omega
    have i1:=idxS (b:=db) (cap:=none) u24 z3 (show j+1 < n by omega)
    have i2:=idxS (b:=db) (cap:=none) u24 z3 (show j < n by omega)
    have l1:=load_out hb (y:=j+1) (by omega)
    have l2:=load_out hb (y:=j) (by omega)
    rw [hl] at l1 l2
    rw [← e1] at i2
    by_cases c:l.getD (j+1) 0 < l.getD j 0
    · have s1:=store_out hb (y:=j+1) (by omega) (l.getD j 0)
      rw [hl,List.set_set] at s1
      have hb2:(H.set db (bI (l.set (j+1) (l.getD j 0))))[db]?=some (bI (l.set (j+1) (l.getD j 0))):=List.getElem?_set_self hd
      have s2:=store_out hb2 (y:=j) (by simp; omega) (l.getD (j+1) 0)
      rw [List.length_set,hl,List.set_set] at s2
      have lt:=less_at hd h81 (l.getD (j+1) 0) (l.getD j 0) (H.set db (bI l))
      rw [decide_eq_true c] at lt
      have st:=ii_d_0 (F:=F) db n (H.set db (bI l)) i (j+1) (l.getD (j+1) 0) (l.getD j 0) (by omega) i1 l1 (by rw [e2]; exact i2) (by rw [e2]; exact l2) lt (by rw [e2]; exact i2) (by rw [e2]; exact l2) i1 l1 i1 s1 (by rw [e2]; exact i2) (by rw [e2]; exact s2)
      rw [e1] at st
      have sw:Sw 0 (i+1) l (swp l (j+1) j):=Sw.one (by omega) (by omega) (by omega) (by omega)
      obtain ⟨y,l',r,q1,q2⟩:=ih (swp l (j+1) j) (by rw [Go.HL.So.swp_len]; exact hl) (by omega) (sink_step ltI_lin (j:=j+1) (by omega) (by omega) (by omega) hS c)
      exact ⟨y,l',lop (st) (gc_eq _ (by simp)) (r),sw.trans q1,q2⟩
    · have lt:=less_at hd h81 (l.getD (j+1) 0) (l.getD j 0) (H.set db (bI l))
      rw [decide_eq_false c] at lt
      have st:=ii_d_1 (F:=F) db n (H.set db (bI l)) i (j+1) (l.getD (j+1) 0) (l.getD j 0) (by omega) i1 l1 (by rw [e2]; exact i2) (by rw [e2]; exact l2) lt
      exact ⟨_,l,lpo (st),.refl,sink_end ltI_lin hS (.inr c)⟩
theorem ii_out (h81:F 81=some less81) (hn:n ≤ 1000):∀ (d i:Nat) (l:List Int),i+d=n → l.length=n → Sorted ltI 0 i l →
    ∃ l',RunsTo Tp (plF F) 75 (sub [1,0] B75) (env75 (.sl db 0 n none n 1) (.int .i64 0) (.int .i64 (n:Int)) (.int .i64 (i:Int)) Ud) (H.set db (bI l)) (.exit 0) ((plF F).keys 75) (env75 (.sl db 0 n none n 1) (.int .i64 0) (.int .i64 (n:Int)) (.int .i64 (n:Int)) Ud) (H.set db (bI l'))∧Sw 0 n l l'∧Sorted ltI 0 n l':=by
  intro d
  induction d with
  | zero =>
    intro i l hi hl hS
    have:i=n:=by omega
    subst this
    exact ⟨l,lpo (sqo (ii_b_1 (F:=F) db i (H.set db (bI l)) i (by omega)) (c:=sub [1,0,0] B75) (b:=sub [1,0,0,1] B75)),.refl,hS⟩
  | succ d ih =>
    intro i l hi hl hS
    obtain ⟨y,l1,r1,q1,q2⟩:=ii_in hd h81 (i:=i) (by omega) hn i l hl (Nat.le_refl _) (sink_start hS)
    have r1':=lpi (e0:=(env75 (.sl db 0 n none n 1) (.int .i64 0) (.int .i64 (n:Int)) (.int .i64 (i:Int)) (.int .i64 (i:Int)))) r1 (b:=sub [1,0,0,1,0,0,1,0,0] B75)
    have st:=sq (ii_b_0 (F:=F) db n (H.set db (bI l)) i (y7:=Ud) (by omega)) (sq (RunsTo.block_normal (i:=1) (c:=sub [1,0,0,1,0] B75) (sq (ii_c_0 (F:=F) db n (H.set db (bI l)) i (y7:=Ud)) (bke (c:=sub [1,0,0,1,0,0,1] B75) (r1')) (c:=sub [1,0,0,1,0,0] B75)) (by kernel_rfl)) (ii_e_0 (F:=F) db n (H.set db (bI l1)) i) (c:=sub [1,0,0,1] B75)) (c:=sub [1,0,0] B75)
    rw [wrap_succ (by omega)] at st
    obtain ⟨l',r,q3,q4⟩:=ih (i+1) l1 (by omega) (q1.len.trans hl) q2
    exact ⟨l',lop (st) (gc_eq _ (by simp)) (r),(q1.mono (Nat.le_refl _) (by omega)).trans q3,q4⟩
theorem ins_call (h81:F 81=some less81) (h75:F 75=none) (hn:n ≤ 1000) {l:List Int} (hl:l.length=n) :
    ∃ l',ClF F 75 [.sl db 0 n none n 1,.int .i64 0,.int .i64 (n:Int)] (H.set db (bI l)) (.tuple []) (H.set db (bI l'))∧l'.Perm l∧Sorted ltI 0 n l':=by
  have key:∃ z l',RunsTo Tp (plF F) 75 (sub [1,0] B75) (env75 (.sl db 0 n none n 1) (.int .i64 0) (.int .i64 (n:Int)) (.int .i64 (1:Int)) Ud) (H.set db (bI l)) (.exit 0) ((plF F).keys 75) (env75 (.sl db 0 n none n 1) (.int .i64 0) (.int .i64 (n:Int)) z Ud) (H.set db (bI l'))∧Sw 0 n l l'∧Sorted ltI 0 n l':=by
    by_cases c:1 ≤ n
    · obtain ⟨l',r,q⟩:=ii_out hd h81 hn (n - 1) 1 l (by omega) hl (fun p q h1 h2 h3=>by omega)
      exact ⟨_,l',r,q⟩
    · exact ⟨_,l,lpo (sqo (ii_b_1 (F:=F) db n (H.set db (bI l)) 1 (by omega)) (c:=sub [1,0,0] B75) (b:=sub [1,0,0,1] B75)),.refl,fun p q h1 h2 h3=>by omega⟩
  obtain ⟨z,l',r,q1,q2⟩:=key
  have a:=ii_a_0 (F:=F) db n (H.set db (bI l))
  have hc:=CallsTo.shared (P:=Tp) (pol:=plF F) (g:=75) (fn:=Try.f75) (cd:=B75) (args:=[.sl db 0 n none n 1,.int .i64 0,.int .i64 (n:Int)]) (v:=.tuple []) h75 (by kernel_rfl) (by kernel_rfl) (by kernel_rfl) (sq (a) (bke (c:=sub [1] B75) (r)) (c:=B75)) (by kernel_rfl) (by simp) (by kernel_rfl)
  rw [gc_eq _ (by simp)] at hc
  exact ⟨l',hc,q1.perm (by omega),q2⟩
theorem pdq_call (h81:F 81=some less81) (h75:F 75=none) (h62:F 62=none) (hn:n ≤ 12) {l:List Int} (hl:l.length=n) (m:Int) :
    ∃ l',ClF F 62 [.sl db 0 n none n 1,.int .i64 0,.int .i64 (n:Int),.int .i64 m] (H.set db (bI l)) (.tuple []) (H.set db (bI l'))∧l'.Perm l∧Sorted ltI 0 n l':=by
  obtain ⟨l',hc,q⟩:=ins_call hd h81 h75 (by omega) hl
  obtain ⟨N,hN⟩:=CallsTo.from hc
  have a:=ip_a_0 (F:=F) 0 db n m (H.set db (bI l))
  have b:=ip_b_0 (F:=F) 0 db n m (H.set db (bI l)) (y9:=Ud) (y10:=Ud) (y11:=Ud) (y12:=Ud) (y13:=Ud) (y14:=Ud) (y15:=Ud) (y16:=Ud) (y17:=Ud) (y18:=Ud)
  have c:=ip_c_0 (F:=F) 0 db n m (H.set db (bI l)) (y10:=Ud) (y11:=Ud) (y12:=Ud) (y13:=Ud) (y14:=Ud) (y15:=Ud) (y16:=Ud) (y17:=Ud) (y18:=Ud)
  have d:=ip_d_0 (F:=F) N db n m (H.set db (bI l)) (y11:=Ud) (y12:=Ud) (y13:=Ud) (y14:=Ud) (y15:=Ud) (y16:=Ud) (y17:=Ud) (y18:=Ud) (by omega) hN
  have hw:IntKind.i64.wrap ((n:Int) - 0)=(n:Int):=wrap_id (by omega) (by omega)
  first | rw [hw] at c | skip
  have lp:=lpo (RunsTo.block_ret (i:=1) (c:=sub [1,1,0,0] B62) (sq (c) (sqo (d) (c:=sub [1,1,0,0,0,1] B62) (b:=sub [1,1,0,0,0,1,1] B62)) (c:=sub [1,1,0,0,0] B62)) (by kernel_rfl)) (c:=sub [1,1,0] B62)
  have hc2:=CallsTo.shared (P:=Tp) (pol:=plF F) (g:=62) (fn:=Try.f62) (cd:=B62) (args:=[.sl db 0 n none n 1,.int .i64 0,.int .i64 (n:Int),.int .i64 m]) (v:=.tuple []) h62 (by kernel_rfl) (by kernel_rfl) (by kernel_rfl) (sq (a) (sq (b) (RunsTo.block_ret (i:=0) (c:=sub [1,1] B62) (lp) (by kernel_rfl)) (c:=sub [1] B62)) (c:=B62)) (by kernel_rfl) (by simp) (by kernel_rfl)
  rw [gc_eq _ (by simp)] at hc2
  exact ⟨l',hc2,q⟩
end
structure StF (F:FuncId → Option (List HV → Option HV)):Prop where
  h81:F 81=some less81
  h63:F 63=some len82
  h75:F 75=none
  h62:F 62=none
  h41:F 41=none
theorem set_selfI {H:Heap} {b:Nat} {B:Blk} (h:H[b]?=some B):H.set b B=H:=by
  apply List.ext_getElem?
  intro i
  by_cases e:b=i
  · subst e; rw [List.getElem?_set_self (lt_of_get h),h]
  · rw [List.getElem?_set_ne e]
theorem sort_call {F:FuncId → Option (List HV → Option HV)} (hF:StF F) {H:Heap} {db:Nat} {l:List Int} (hb:H[db]?=some (bI l)) (hn:l.length ≤ 12) :
    ∃ l',ClF F 41 [.sl db 0 l.length none l.length 1] H (.tuple []) (H.set db (bI l'))∧l'.Perm l∧∀ i j,i < j → j < l'.length → l'.getD i 0 ≤ l'.getD j 0:=by
  obtain ⟨h81,h63,h75,h62,h41⟩:=hF
  have hd:=lt_of_get hb
  obtain ⟨l',hc,q1,q2⟩:=pdq_call (F:=F) hd h81 h75 h62 hn (l:=l) rfl (lenN l.length:Int)
  rw [set_selfI hb] at hc
  obtain ⟨N,hN⟩:=CallsTo.from hc
  have hu:IntKind.u64.wrap (l.length:Int)=(l.length:Int):=by rw [wrapU64]; omega
  have t:=io_a_0 (F:=F) N db l.length (lenN l.length:Int) H (H0:=H) (fun kf=>by
    rw [hu,prim_call (pol:=plF F) (g:=63) (F:=len82) h63 (rs:=[.int .u64 (l.length:Int)]) rfl (res:=.int .i64 (lenN l.length:Int)) (by simp only [len82]; rw [if_pos (by omega),Int.toNat_natCast])]; rfl) hN
  have hc2:=CallsTo.shared (P:=Tp) (pol:=plF F) (g:=41) (fn:=Try.f41) (cd:=B41) (args:=[.sl db 0 l.length none l.length 1]) (v:=.tuple []) h41 (by kernel_rfl) (by kernel_rfl) (by kernel_rfl) t (by kernel_rfl) (by simp) (by kernel_rfl)
  rw [gc_eq _ (by simp)] at hc2
  refine ⟨l',hc2,q1,fun i j hij hj=>?_⟩
  have:=q2 i j (Nat.zero_le _) hij (by rw [← q1.length_eq]; exact hj)
  exact Int.not_lt.1 this
theorem asc_ext:∀ {a b:List Int},a.Pairwise (· < ·) → b.Pairwise (· < ·) → (∀ x,x ∈ a ↔ x ∈ b) → a=b
  | [],b,_,_,h=>by
    have:b=[]:=List.eq_nil_iff_forall_not_mem.2 fun x hx=>by cases (h x).2 hx
    rw [this]
  | x :: a,[],_,_,h=>by cases (h x).1 (List.mem_cons_self ..)
  | x :: a,y :: b,ha,hb,h=>by
    obtain ⟨a1,a2⟩:=List.pairwise_cons.1 ha
    obtain ⟨b1,b2⟩:=List.pairwise_cons.1 hb
    have e:x=y:=by
      rcases List.mem_cons.1 ((h x).1 (List.mem_cons_self ..)) with c | c
      · exact c
      · rcases List.mem_cons.1 ((h y).2 (List.mem_cons_self ..)) with d | d
        · exact d.symm
        · have:=a1 _ d
          have:=b1 _ c
          omega
    subst e
    refine congrArg (x :: ·) (asc_ext a2 b2 fun z=>?_)
    constructor
    · intro hz
      rcases List.mem_cons.1 ((h z).1 (List.mem_cons_of_mem _ hz)) with c | c
      · have:=a1 _ hz; omega
      · exact c
    · intro hz
      rcases List.mem_cons.1 ((h z).2 (List.mem_cons_of_mem _ hz)) with c | c
      · have:=b1 _ hz; omega
      · exact c
theorem sort_asc {l l':List Int} (hn:l.Nodup) (hp:l'.Perm l) (hs:∀ i j,i < j → j < l'.length → l'.getD i 0 ≤ l'.getD j 0):l'.Pairwise (· < ·):=by
  have hn':l'.Nodup:=hp.nodup_iff.2 hn
  refine List.pairwise_iff_getElem.2 fun i j hi hj hij=>?_
  have h1:=hs i j hij hj
  rw [getD_at hi,getD_at hj] at h1
  have h2:=List.pairwise_iff_getElem.1 hn' i j hi hj hij
  omega
end Go.Proofs.Ytiejmoglooaalaa
end
section
open Go Go.HL
namespace Go.Proofs.Ytiejmoglooaalaa
set_option maxRecDepth 100000
open Go.Proofs.Try renaming prog → Tp
open Go.HL.HV renaming undef → Ud
section
variable {F:FuncId → Option (List HV → Option HV)}
noncomputable def B26:Code:=Try.f26.body.getD .skip
abbrev env26 (v0 v1 v4 v5 v6 v7 v8:HV):Env:=[(0,v0),(1,v1),(4,v4),(5,v5),(6,v6),(7,v7),(8,v8)]
theorem sl_a_0 (N:Nat) (n:Int) (ls:List HV) :RunsTo Tp (plF F) 26 (sub [0] B26) [(0,.i n),(1,.imm .arg 3 ls)] [] .normal ((plF F).keys 26) (env26 (.i n) (.imm .arg 3 ls) (.imm .lit 1 []) (.i 0) Ud Ud Ud) [] :=
  RunsTo.hin N 60 [] fun kf hk=>⟨_,by kernel_rfl,.nil⟩
theorem sl_b_0 (N:Nat) (n:Int) (ls:List HV)  {y6 y7 y8:HV} {H0:Heap} {a0:HV} {H1:Heap} {H2:Heap} (g0:∀ kf,N ≤ kf → callN Tp (plF F) (kf+1) 39 [.i n,.imm .arg 3 ls] []=some (.tuple [.agg [.i n,.imm .arg 3 ls],.bool true],H0)) (g1:some (newV (.agg [.i 0,.imm .lit 0 []]) H0)=some (a0,H1)) (g2:storeV Tp H1 66 (a0) (.agg [.i n,.imm .arg 3 ls])=some H2):RunsTo Tp (plF F) 26 (sub [1,0] B26) (env26 (.i n) (.imm .arg 3 ls) (.imm .lit 1 []) (.i 0) y6 y7 y8) [] .normal ((plF F).keys 26) (env26 (.i n) (.imm .arg 3 ls) (.imm .lit 1 []) (.i 0) a0 (.bool true) y8) H2 :=
  RunsTo.hin N 60 [⟨1,2,.tuple [.agg [.i n,.imm .arg 3 ls],.bool true],H0⟩,⟨1,6,a0,H1⟩,⟨1,7,.tuple [],H2⟩] fun kf hk=>⟨_,by kernel_rfl,(oC (g0 kf (by omega)) (oC (g1) (oS g2 .nil)))⟩
theorem sl_b_1 (N:Nat) (n:Int) (ls:List HV)  {y6 y7 y8:HV} {H0:Heap} {a0:HV} {H1:Heap} {H2:Heap} (g0:∀ kf,N ≤ kf → callN Tp (plF F) (kf+1) 39 [.i n,.imm .arg 3 ls] []=some (.tuple [.agg [.i n,.imm .arg 3 ls],.bool false],H0)) (g1:some (newV (.agg [.i 0,.imm .lit 0 []]) H0)=some (a0,H1)) (g2:storeV Tp H1 66 (a0) (.agg [.i n,.imm .arg 3 ls])=some H2):RunsTo Tp (plF F) 26 (sub [1,0] B26) (env26 (.i n) (.imm .arg 3 ls) (.imm .lit 1 []) (.i 0) y6 y7 y8) [] .normal ((plF F).keys 26) (env26 (.i n) (.imm .arg 3 ls) (.imm .lit 1 []) (.i 0) a0 (.bool false) y8) H2 :=
  RunsTo.hin N 60 [⟨1,2,.tuple [.agg [.i n,.imm .arg 3 ls],.bool false],H0⟩,⟨1,6,a0,H1⟩,⟨1,7,.tuple [],H2⟩] fun kf hk=>⟨_,by kernel_rfl,(oC (g0 kf (by omega)) (oC (g1) (oS g2 .nil)))⟩
theorem sl_ct_0 (N:Nat) (n:Int) (ls:List HV) (H:Heap) {y8:HV}:RunsTo Tp (plF F) 26 (sub [1,1,0] B26) (env26 (.i n) (.imm .arg 3 ls) (.imm .lit 1 []) (.i 0) (.ptr 0 0 0 1) (.bool true) y8) H .normal ((plF F).keys 26) (env26 (.i n) (.imm .arg 3 ls) (.imm .lit 1 []) (.i 0) (.ptr 0 0 0 1) (.bool true) y8) H :=
  RunsTo.hin N 60 [] fun kf hk=>⟨_,by kernel_rfl,.nil⟩
theorem sl_cf_0 (N:Nat) (n:Int) (ls:List HV) (H:Heap) {y8:HV}:RunsTo Tp (plF F) 26 (sub [1,1,0] B26) (env26 (.i n) (.imm .arg 3 ls) (.imm .lit 1 []) (.i 0) (.ptr 0 0 0 1) (.bool false) y8) H .ret ((plF F).keys 26) (env26 (.i n) (.imm .arg 3 ls) (.imm .lit 1 []) (.i 2) (.ptr 0 0 0 1) (.bool false) y8) H :=
  RunsTo.hin N 60 [] fun kf hk=>⟨_,by kernel_rfl,.nil⟩
theorem sl_d_0 (N:Nat) (n:Int) (ls:List HV) (H:Heap) (ob m mb:Nat) {y8:HV} {H0:Heap} (g0:loadV Tp H 66 (.ptr 0 0 0 1)=some (.agg [.i n,.imm .arg 3 ls])) (g1:∀ kf,callN Tp (plF F) (kf+1) 43 [.agg [.i n,.imm .arg 3 ls]] H=some (.tuple [.s ob m,.map mb,.bool true],H0)):RunsTo Tp (plF F) 26 (sub [1,1,1,0] B26) (env26 (.i n) (.imm .arg 3 ls) (.imm .lit 1 []) (.i 0) (.ptr 0 0 0 1) (.bool true) y8) H .normal ((plF F).keys 26) (env26 (.i n) (.imm .arg 3 ls) (.imm .lit 1 []) (.i 0) (.ptr 0 0 0 1) (.bool true) (.s ob m)) H0 :=
  RunsTo.hin N 60 [⟨4,0,.agg [.i n,.imm .arg 3 ls],H⟩,⟨4,1,.tuple [.s ob m,.map mb,.bool true],H0⟩] fun kf hk=>⟨_,by kernel_rfl,(oP H g0 (oC (g1 kf) .nil))⟩
theorem sl_d_1 (N:Nat) (n:Int) (ls:List HV) (H:Heap) (ob m mb:Nat) {y8:HV} {H0:Heap} (g0:loadV Tp H 66 (.ptr 0 0 0 1)=some (.agg [.i n,.imm .arg 3 ls])) (g1:∀ kf,callN Tp (plF F) (kf+1) 43 [.agg [.i n,.imm .arg 3 ls]] H=some (.tuple [.s ob m,.nilmap,.bool false],H0)):RunsTo Tp (plF F) 26 (sub [1,1,1,0] B26) (env26 (.i n) (.imm .arg 3 ls) (.imm .lit 1 []) (.i 0) (.ptr 0 0 0 1) (.bool true) y8) H .normal ((plF F).keys 26) (env26 (.i n) (.imm .arg 3 ls) (.imm .lit 1 []) (.i 0) (.ptr 0 0 0 1) (.bool false) (.s ob m)) H0 :=
  RunsTo.hin N 60 [⟨4,0,.agg [.i n,.imm .arg 3 ls],H⟩,⟨4,1,.tuple [.s ob m,.nilmap,.bool false],H0⟩] fun kf hk=>⟨_,by kernel_rfl,(oP H g0 (oC (g1 kf) .nil))⟩
theorem sl_et_0 (N:Nat) (n:Int) (ls:List HV) (H:Heap) (ob m:Nat):RunsTo Tp (plF F) 26 (sub [1,1,1,1] B26) (env26 (.i n) (.imm .arg 3 ls) (.imm .lit 1 []) (.i 0) (.ptr 0 0 0 1) (.bool true) (.s ob m)) H .ret ((plF F).keys 26) (env26 (.i n) (.imm .arg 3 ls) (.s ob m) (.i 0) (.ptr 0 0 0 1) (.bool true) (.s ob m)) H :=
  RunsTo.hin N 60 [] fun kf hk=>⟨_,by kernel_rfl,.nil⟩
theorem sl_ef_0 (N:Nat) (n:Int) (ls:List HV) (H:Heap) (ob m:Nat):RunsTo Tp (plF F) 26 (sub [1,1,1,1] B26) (env26 (.i n) (.imm .arg 3 ls) (.imm .lit 1 []) (.i 0) (.ptr 0 0 0 1) (.bool false) (.s ob m)) H .ret ((plF F).keys 26) (env26 (.i n) (.imm .arg 3 ls) (.imm .lit 1 []) (.i 6) (.ptr 0 0 0 1) (.bool false) (.s ob m)) H :=
  RunsTo.hin N 60 [] fun kf hk=>⟨_,by kernel_rfl,.nil⟩
end
end Go.Proofs.Ytiejmoglooaalaa
end
section
open Go Go.HL
namespace Go.Proofs.Ytiejmoglooaalaa
set_option maxRecDepth 100000
open Go.Proofs.Try renaming prog → Tp
open Go.HL.HV renaming undef → Ud
section
variable {F:FuncId → Option (List HV → Option HV)}
noncomputable def B64:Code:=Try.f64.body.getD .skip
abbrev env64 (v0 v1 v2:HV):Env:=[(0,v0),(1,v1),(2,v2)]
theorem lo_a_0 (x d:Int) (sb ob m:Nat) (z:Int) (H:Heap) {H0:Heap} (g0:loadV Tp H 24 (.ptr sb 0 0 1)=some (.o ob m)) (g1:idxV Tp 24 (.o ob m) (.i x)=some (.ptr ob ((x).toNat) 0 m)) (g2:loadV Tp H 3 (.ptr ob ((x).toNat) 0 m)=some (.i z)) (g3:z < 0) (g4:loadV Tp H 24 (.ptr sb 0 0 1)=some (.o ob m)) (g5:idxV Tp 24 (.o ob m) (.i x)=some (.ptr ob ((x).toNat) 0 m)) (g6:storeV Tp H 3 (.ptr ob ((x).toNat) 0 m) (.i d)=some H0):RunsTo Tp (plF F) 64 (sub [] B64) (env64 (.i x) (.i d) (.ptr sb 0 0 1)) H .normal ((plF F).keys 64) (env64 (.i x) (.i d) (.ptr sb 0 0 1)) H0 :=
  RunsTo.hin 0 60 [⟨0,0,.o ob m,H⟩,⟨0,2,.ptr ob ((x).toNat) 0 m,H⟩,⟨0,3,.i z,H⟩,⟨0,4,.bool true,H⟩,⟨1,0,.o ob m,H⟩,⟨1,3,.ptr ob ((x).toNat) 0 m,H⟩,⟨1,4,.tuple [],H0⟩] fun kf hk=>⟨_,by kernel_rfl,(oP H g0 (oP H g1 (oP H g2 (oB H (decide_eq_true g3) (oP H g4 (oP H g5 (oS g6 .nil)))))))⟩
theorem lo_a_1 (x d:Int) (sb ob m:Nat) (z:Int) (H:Heap) {H0:Heap} (g0:loadV Tp H 24 (.ptr sb 0 0 1)=some (.o ob m)) (g1:idxV Tp 24 (.o ob m) (.i x)=some (.ptr ob ((x).toNat) 0 m)) (g2:loadV Tp H 3 (.ptr ob ((x).toNat) 0 m)=some (.i z)) (g3:¬ (z < 0)) (g4:loadV Tp H 24 (.ptr sb 0 0 1)=some (.o ob m)) (g5:idxV Tp 24 (.o ob m) (.i x)=some (.ptr ob ((x).toNat) 0 m)) (g6:loadV Tp H 3 (.ptr ob ((x).toNat) 0 m)=some (.i z)) (g7:d < z) (g8:loadV Tp H 24 (.ptr sb 0 0 1)=some (.o ob m)) (g9:idxV Tp 24 (.o ob m) (.i x)=some (.ptr ob ((x).toNat) 0 m)) (g10:storeV Tp H 3 (.ptr ob ((x).toNat) 0 m) (.i d)=some H0):RunsTo Tp (plF F) 64 (sub [] B64) (env64 (.i x) (.i d) (.ptr sb 0 0 1)) H .normal ((plF F).keys 64) (env64 (.i x) (.i d) (.ptr sb 0 0 1)) H0 :=
  RunsTo.hin 0 60 [⟨0,0,.o ob m,H⟩,⟨0,2,.ptr ob ((x).toNat) 0 m,H⟩,⟨0,3,.i z,H⟩,⟨0,4,.bool false,H⟩,⟨0,7,.o ob m,H⟩,⟨0,9,.ptr ob ((x).toNat) 0 m,H⟩,⟨0,10,.i z,H⟩,⟨0,11,.bool true,H⟩,⟨1,0,.o ob m,H⟩,⟨1,3,.ptr ob ((x).toNat) 0 m,H⟩,⟨1,4,.tuple [],H0⟩] fun kf hk=>⟨_,by kernel_rfl,(oP H g0 (oP H g1 (oP H g2 (oB H (decide_eq_false g3) (oP H g4 (oP H g5 (oP H g6 (oB H (decide_eq_true g7) (oP H g8 (oP H g9 (oS g10 .nil)))))))))))⟩
theorem lo_a_2 (x d:Int) (sb ob m:Nat) (z:Int) (H:Heap)(g0:loadV Tp H 24 (.ptr sb 0 0 1)=some (.o ob m)) (g1:idxV Tp 24 (.o ob m) (.i x)=some (.ptr ob ((x).toNat) 0 m)) (g2:loadV Tp H 3 (.ptr ob ((x).toNat) 0 m)=some (.i z)) (g3:¬ (z < 0)) (g4:loadV Tp H 24 (.ptr sb 0 0 1)=some (.o ob m)) (g5:idxV Tp 24 (.o ob m) (.i x)=some (.ptr ob ((x).toNat) 0 m)) (g6:loadV Tp H 3 (.ptr ob ((x).toNat) 0 m)=some (.i z)) (g7:¬ (d < z)):RunsTo Tp (plF F) 64 (sub [] B64) (env64 (.i x) (.i d) (.ptr sb 0 0 1)) H .normal ((plF F).keys 64) (env64 (.i x) (.i d) (.ptr sb 0 0 1)) H :=
  RunsTo.hin 0 60 [⟨0,0,.o ob m,H⟩,⟨0,2,.ptr ob ((x).toNat) 0 m,H⟩,⟨0,3,.i z,H⟩,⟨0,4,.bool false,H⟩,⟨0,7,.o ob m,H⟩,⟨0,9,.ptr ob ((x).toNat) 0 m,H⟩,⟨0,10,.i z,H⟩,⟨0,11,.bool false,H⟩] fun kf hk=>⟨_,by kernel_rfl,(oP H g0 (oP H g1 (oP H g2 (oB H (decide_eq_false g3) (oP H g4 (oP H g5 (oP H g6 (oB H (decide_eq_false g7) .nil))))))))⟩
noncomputable def B43:Code:=Try.f43.body.getD .skip
abbrev env43 (v0 v1 v2 v3 v4 v5 v6 v7 v8 v9 v10 v12 v14 v15 v29 v30 v38 v39 v40 v49 v50 v51:HV):Env:=[(0,v0),(1,v1),(2,v2),(3,v3),(4,v4),(5,v5),(6,v6),(7,v7),(8,v8),(9,v9),(10,v10),(12,v12),(14,v14),(15,v15),(29,v29),(30,v30),(38,v38),(39,v39),(40,v40),(49,v49),(50,v50),(51,v51)]
theorem sk_a_0 (N:Nat) (n:Int) (ls:List HV) :RunsTo Tp (plF F) 43 (sub [0] B43) [(0,.agg [.i n,.imm .arg 3 ls])] [] .normal ((plF F).keys 43) (env43 (.agg [.i n,.imm .arg 3 ls]) (.ptr 0 0 0 1) (.imm .lit 1 []) .nilmap (.bool false) Ud Ud Ud Ud Ud Ud Ud Ud Ud Ud Ud Ud Ud Ud Ud Ud Ud) [.arr 2 [.agg [.i n,.imm .arg 3 ls]] true 0] :=
  RunsTo.hin N 60 [] fun kf hk=>⟨_,by kernel_rfl,.nil⟩
theorem sk_b_0 (N:Nat) (n:Int) (ls:List HV) (H:Heap) (tb k:Nat) {y5 y6 y7 y8 y9 y10 y12 y14 y15 y29 y30 y38 y39 y40 y49 y50 y51:HV} {H0:Heap} (g0:loadV Tp H 66 (.ptr 0 0 0 1)=some (.agg [.i n,.imm .arg 3 ls])) (g1:∀ kf,callN Tp (plF F) (kf+1) 40 [.agg [.i n,.imm .arg 3 ls]] H=some (.tuple [.s tb k,.bool true],H0)):RunsTo Tp (plF F) 43 (sub [1,0] B43) (env43 (.agg [.i n,.imm .arg 3 ls]) (.ptr 0 0 0 1) (.imm .lit 1 []) .nilmap (.bool false) y5 y6 y7 y8 y9 y10 y12 y14 y15 y29 y30 y38 y39 y40 y49 y50 y51) H .normal ((plF F).keys 43) (env43 (.agg [.i n,.imm .arg 3 ls]) (.ptr 0 0 0 1) (.imm .lit 1 []) .nilmap (.bool false) (.s tb k) (.bool true) y7 y8 y9 y10 y12 y14 y15 y29 y30 y38 y39 y40 y49 y50 y51) H0 :=
  RunsTo.hin N 60 [⟨1,0,.agg [.i n,.imm .arg 3 ls],H⟩,⟨1,1,.tuple [.s tb k,.bool true],H0⟩] fun kf hk=>⟨_,by kernel_rfl,(oP H g0 (oC (g1 kf) .nil))⟩
theorem sk_b_1 (N:Nat) (n:Int) (ls:List HV) (H:Heap) (tb k:Nat) {y5 y6 y7 y8 y9 y10 y12 y14 y15 y29 y30 y38 y39 y40 y49 y50 y51:HV} {H0:Heap} (g0:loadV Tp H 66 (.ptr 0 0 0 1)=some (.agg [.i n,.imm .arg 3 ls])) (g1:∀ kf,callN Tp (plF F) (kf+1) 40 [.agg [.i n,.imm .arg 3 ls]] H=some (.tuple [.s tb k,.bool false],H0)):RunsTo Tp (plF F) 43 (sub [1,0] B43) (env43 (.agg [.i n,.imm .arg 3 ls]) (.ptr 0 0 0 1) (.imm .lit 1 []) .nilmap (.bool false) y5 y6 y7 y8 y9 y10 y12 y14 y15 y29 y30 y38 y39 y40 y49 y50 y51) H .normal ((plF F).keys 43) (env43 (.agg [.i n,.imm .arg 3 ls]) (.ptr 0 0 0 1) (.imm .lit 1 []) .nilmap (.bool false) (.s tb k) (.bool false) y7 y8 y9 y10 y12 y14 y15 y29 y30 y38 y39 y40 y49 y50 y51) H0 :=
  RunsTo.hin N 60 [⟨1,0,.agg [.i n,.imm .arg 3 ls],H⟩,⟨1,1,.tuple [.s tb k,.bool false],H0⟩] fun kf hk=>⟨_,by kernel_rfl,(oP H g0 (oC (g1 kf) .nil))⟩
theorem sk_ct_0 (N:Nat) (n:Int) (ls:List HV) (H:Heap) (tb k:Nat) {y7 y8 y9 y10 y12 y14 y15 y29 y30 y38 y39 y40 y49 y50 y51:HV}:RunsTo Tp (plF F) 43 (sub [1,1,0] B43) (env43 (.agg [.i n,.imm .arg 3 ls]) (.ptr 0 0 0 1) (.imm .lit 1 []) .nilmap (.bool false) (.s tb k) (.bool true) y7 y8 y9 y10 y12 y14 y15 y29 y30 y38 y39 y40 y49 y50 y51) H .normal ((plF F).keys 43) (env43 (.agg [.i n,.imm .arg 3 ls]) (.ptr 0 0 0 1) (.imm .lit 1 []) .nilmap (.bool false) (.s tb k) (.bool true) y7 y8 y9 y10 y12 y14 y15 y29 y30 y38 y39 y40 y49 y50 y51) H :=
  RunsTo.hin N 60 [] fun kf hk=>⟨_,by kernel_rfl,.nil⟩
theorem sk_cf_0 (N:Nat) (n:Int) (ls:List HV) (H:Heap) (tb k:Nat) {y7 y8 y9 y10 y12 y14 y15 y29 y30 y38 y39 y40 y49 y50 y51:HV}:RunsTo Tp (plF F) 43 (sub [1,1,0] B43) (env43 (.agg [.i n,.imm .arg 3 ls]) (.ptr 0 0 0 1) (.imm .lit 1 []) .nilmap (.bool false) (.s tb k) (.bool false) y7 y8 y9 y10 y12 y14 y15 y29 y30 y38 y39 y40 y49 y50 y51) H .ret ((plF F).keys 43) (env43 (.agg [.i n,.imm .arg 3 ls]) (.ptr 0 0 0 1) (.imm .lit 1 []) .nilmap (.bool false) (.s tb k) (.bool false) y7 y8 y9 y10 y12 y14 y15 y29 y30 y38 y39 y40 y49 y50 y51) H :=
  RunsTo.hin N 60 [] fun kf hk=>⟨_,by kernel_rfl,.nil⟩
theorem sk_d_0 (N:Nat) (n:Int) (ls:List HV) (H:Heap) (tb k:Nat) {y6 y7 y8 y9 y10 y12 y14 y15 y29 y30 y38 y39 y40 y49 y50 y51:HV} {a0:HV} {H0:Heap} (g0:some (HV.map H.length,H ++ [Blk.map [] [] 0])=some (a0,H0)):RunsTo Tp (plF F) 43 (sub [1,1,1,0] B43) (env43 (.agg [.i n,.imm .arg 3 ls]) (.ptr 0 0 0 1) (.imm .lit 1 []) .nilmap (.bool false) (.s tb k) y6 y7 y8 y9 y10 y12 y14 y15 y29 y30 y38 y39 y40 y49 y50 y51) H .normal ((plF F).keys 43) (env43 (.agg [.i n,.imm .arg 3 ls]) (.ptr 0 0 0 1) (.imm .lit 1 []) .nilmap (.bool false) (.s tb k) y6 a0 y8 y9 y10 y12 y14 y15 y29 y30 y38 y39 y40 y49 y50 y51) H0 :=
  RunsTo.hin N 60 [⟨4,0,a0,H0⟩] fun kf hk=>⟨_,by kernel_rfl,(oC (g0) .nil)⟩
theorem sk_e_0 (N:Nat) (n:Int) (ls:List HV) (H:Heap) (tb k mb ob m:Nat) {y6 y8 y9 y10 y12 y14 y15 y29 y30 y38 y39 y40 y49 y50 y51:HV} {H0:Heap} {a0:HV} {H1:Heap} {H2:Heap} (g0:loadV Tp H 22 (.ptr 0 0 1 1)=some (.imm .arg 3 ls)) (g1:makeV Tp false 24 (.i (ls.length:Int)) (.i (ls.length:Int)) H=some (.o ob m,H0)) (g2:some (HV.ptr H0.length 0 0 1,H0 ++ [Blk.arr 1 [HV.sl (H0.length+1) 0 0 none 0 1] true (H0.length+2),Blk.b []])=some (a0,H1)) (g3:storeV Tp H1 24 (a0) (.o ob m)=some H2):RunsTo Tp (plF F) 43 (sub [1,1,1,1,0] B43) (env43 (.agg [.i n,.imm .arg 3 ls]) (.ptr 0 0 0 1) (.imm .lit 1 []) .nilmap (.bool false) (.s tb k) y6 (.map mb) y8 y9 y10 y12 y14 y15 y29 y30 y38 y39 y40 y49 y50 y51) H .normal ((plF F).keys 43) (env43 (.agg [.i n,.imm .arg 3 ls]) (.ptr 0 0 0 1) (.imm .lit 1 []) .nilmap (.bool false) (.s tb k) y6 (.map mb) a0 y9 y10 y12 y14 y15 y29 y30 y38 y39 y40 y49 y50 y51) H2 :=
  RunsTo.hin N 60 [⟨5,1,.imm .arg 3 ls,H⟩,⟨5,3,.o ob m,H0⟩,⟨5,4,a0,H1⟩,⟨5,5,.tuple [],H2⟩] fun kf hk=>⟨_,by kernel_rfl,(oP H g0 (oC (g1) (oC (g2) (oS g3 .nil))))⟩
theorem sk_f_0 (N:Nat) (n:Int) (ls:List HV) (H:Heap) (tb k mb sb ob m:Nat) {y6 y9 y10 y12 y14 y15 y29 y30 y38 y39 y40 y49 y50 y51:HV}(g0:loadV Tp H 24 (.ptr sb 0 0 1)=some (.o ob m)):RunsTo Tp (plF F) 43 (sub [1,1,1,1,1,0,0] B43) (env43 (.agg [.i n,.imm .arg 3 ls]) (.ptr 0 0 0 1) (.imm .lit 1 []) .nilmap (.bool false) (.s tb k) y6 (.map mb) (.ptr sb 0 0 1) y9 y10 y12 y14 y15 y29 y30 y38 y39 y40 y49 y50 y51) H .normal ((plF F).keys 43) (env43 (.agg [.i n,.imm .arg 3 ls]) (.ptr 0 0 0 1) (.imm .lit 1 []) .nilmap (.bool false) (.s tb k) y6 (.map mb) (.ptr sb 0 0 1) y9 y10 y12 y14 y15 (.i (m:Int)) (.i 0) y38 y39 y40 y49 y50 y51) H :=
  RunsTo.hin N 60 [⟨6,0,.o ob m,H⟩] fun kf hk=>⟨_,by kernel_rfl,(oP H g0 .nil)⟩
theorem sk_g_0 (N:Nat) (n:Int) (ls:List HV) (H:Heap) (tb k mb sb ob m j:Nat) {y6 y9 y10 y12 y14 y15 y38 y39 y40 y49 y50 y51:HV} {H0:Heap} (g0:(j:Int) < (m:Int)) (g1:loadV Tp H 24 (.ptr sb 0 0 1)=some (.o ob m)) (g2:idxV Tp 24 (.o ob m) (.i (j:Int))=some (.ptr ob j 0 m)) (g3:storeV Tp H 3 (.ptr ob j 0 m) (.i (-1))=some H0):RunsTo Tp (plF F) 43 (sub [1,1,1,1,1,0,1,0,0] B43) (env43 (.agg [.i n,.imm .arg 3 ls]) (.ptr 0 0 0 1) (.imm .lit 1 []) .nilmap (.bool false) (.s tb k) y6 (.map mb) (.ptr sb 0 0 1) y9 y10 y12 y14 y15 (.i (m:Int)) (.i (j:Int)) y38 y39 y40 y49 y50 y51) H .normal ((plF F).keys 43) (env43 (.agg [.i n,.imm .arg 3 ls]) (.ptr 0 0 0 1) (.imm .lit 1 []) .nilmap (.bool false) (.s tb k) y6 (.map mb) (.ptr sb 0 0 1) (.i (j:Int)) y10 y12 y14 y15 (.i (m:Int)) (.i (IntKind.i64.wrap ((j:Int)+1))) y38 y39 y40 y49 y50 y51) H0 :=
  RunsTo.hin N 60 [⟨7,0,.bool true,H⟩,⟨9,0,.o ob m,H⟩,⟨9,2,.ptr ob j 0 m,H⟩,⟨9,3,.tuple [],H0⟩] fun kf hk=>⟨_,by kernel_rfl,(oB H (decide_eq_true g0) (oP H g1 (oP H g2 (oS g3 .nil))))⟩
theorem sk_g_1 (N:Nat) (n:Int) (ls:List HV) (H:Heap) (tb k mb sb ob m j:Nat) {y6 y9 y10 y12 y14 y15 y38 y39 y40 y49 y50 y51:HV}(g0:¬ ((j:Int) < (m:Int))):RunsTo Tp (plF F) 43 (sub [1,1,1,1,1,0,1,0,0] B43) (env43 (.agg [.i n,.imm .arg 3 ls]) (.ptr 0 0 0 1) (.imm .lit 1 []) .nilmap (.bool false) (.s tb k) y6 (.map mb) (.ptr sb 0 0 1) y9 y10 y12 y14 y15 (.i (m:Int)) (.i (j:Int)) y38 y39 y40 y49 y50 y51) H (.exit 0) ((plF F).keys 43) (env43 (.agg [.i n,.imm .arg 3 ls]) (.ptr 0 0 0 1) (.imm .lit 1 []) .nilmap (.bool false) (.s tb k) y6 (.map mb) (.ptr sb 0 0 1) y9 y10 y12 y14 y15 (.i (m:Int)) (.i (j:Int)) y38 y39 y40 y49 y50 y51) H :=
  RunsTo.hin N 60 [⟨7,0,.bool false,H⟩] fun kf hk=>⟨_,by kernel_rfl,(oB H (decide_eq_false g0) .nil)⟩
theorem sk_h_0 (N:Nat) (n:Int) (ls:List HV) (H:Heap) (tb k mb sb:Nat) {y6 y9 y10 y12 y14 y15 y29 y30 y38 y39 y40 y49 y50 y51:HV}:RunsTo Tp (plF F) 43 (sub [1,1,1,1,1,1,0] B43) (env43 (.agg [.i n,.imm .arg 3 ls]) (.ptr 0 0 0 1) (.imm .lit 1 []) .nilmap (.bool false) (.s tb k) y6 (.map mb) (.ptr sb 0 0 1) y9 y10 y12 y14 y15 y29 y30 y38 y39 y40 y49 y50 y51) H .normal ((plF F).keys 43) (env43 (.agg [.i n,.imm .arg 3 ls]) (.ptr 0 0 0 1) (.imm .lit 1 []) .nilmap (.bool false) (.s tb k) y6 (.map mb) (.ptr sb 0 0 1) y9 (.func 64 [] [.ptr sb 0 0 1]) y12 y14 y15 y29 y30 y38 y39 y40 y49 y50 y51) H :=
  RunsTo.hin N 60 [] fun kf hk=>⟨_,by kernel_rfl,.nil⟩
theorem sk_i_0 (N:Nat) (n:Int) (ls:List HV) (H:Heap) (tb k mb sb:Nat) {y6 y9 y12 y14 y15 y29 y30 y38 y39 y40 y49 y50 y51:HV}:RunsTo Tp (plF F) 43 (sub [1,1,1,1,1,1,1,0,0] B43) (env43 (.agg [.i n,.imm .arg 3 ls]) (.ptr 0 0 0 1) (.imm .lit 1 []) .nilmap (.bool false) (.s tb k) y6 (.map mb) (.ptr sb 0 0 1) y9 (.func 64 [] [.ptr sb 0 0 1]) y12 y14 y15 y29 y30 y38 y39 y40 y49 y50 y51) H .normal ((plF F).keys 43) (env43 (.agg [.i n,.imm .arg 3 ls]) (.ptr 0 0 0 1) (.imm .lit 1 []) .nilmap (.bool false) (.s tb k) y6 (.map mb) (.ptr sb 0 0 1) y9 (.func 64 [] [.ptr sb 0 0 1]) y12 y14 y15 y29 y30 (.s tb k) (.i (k:Int)) (.i 0) y49 y50 y51) H :=
  RunsTo.hin N 60 [] fun kf hk=>⟨_,by kernel_rfl,.nil⟩
theorem sk_l_0 (N:Nat) (n:Int) (ls:List HV) (H:Heap) (tb k mb sb i:Nat) {y6 y9 y12 y14 y15 y29 y30 y49 y50 y51:HV}(g0:(i:Int) < (k:Int)):RunsTo Tp (plF F) 43 (sub [1,1,1,1,1,1,1,0,1,0,0,0] B43) (env43 (.agg [.i n,.imm .arg 3 ls]) (.ptr 0 0 0 1) (.imm .lit 1 []) .nilmap (.bool false) (.s tb k) y6 (.map mb) (.ptr sb 0 0 1) y9 (.func 64 [] [.ptr sb 0 0 1]) y12 y14 y15 y29 y30 (.s tb k) (.i (k:Int)) (.i (i:Int)) y49 y50 y51) H .normal [0,1,2,3,4,5,6,7,8,9,10,12,14,15,29,30,38,39,40,49,50,51,41] [(0,.agg [.i n,.imm .arg 3 ls]),(1,.ptr 0 0 0 1),(2,.imm .lit 1 []),(3,.nilmap),(4,.bool false),(5,.s tb k),(6,y6),(7,.map mb),(8,.ptr sb 0 0 1),(9,y9),(10,.func 64 [] [.ptr sb 0 0 1]),(12,y12),(14,y14),(15,y15),(29,y29),(30,y30),(38,.s tb k),(39,.i (k:Int)),(40,.i (i:Int)),(49,y49),(50,y50),(51,y51),(41,.bool true)] H :=
  RunsTo.hin N 60 [⟨13,0,.bool true,H⟩] fun kf hk=>⟨_,by kernel_rfl,(oB H (decide_eq_true g0) .nil)⟩
theorem sk_l_1 (N:Nat) (n:Int) (ls:List HV) (H:Heap) (tb k mb sb i:Nat) {y6 y9 y12 y14 y15 y29 y30 y49 y50 y51:HV}(g0:¬ ((i:Int) < (k:Int))):RunsTo Tp (plF F) 43 (sub [1,1,1,1,1,1,1,0,1,0,0,0] B43) (env43 (.agg [.i n,.imm .arg 3 ls]) (.ptr 0 0 0 1) (.imm .lit 1 []) .nilmap (.bool false) (.s tb k) y6 (.map mb) (.ptr sb 0 0 1) y9 (.func 64 [] [.ptr sb 0 0 1]) y12 y14 y15 y29 y30 (.s tb k) (.i (k:Int)) (.i (i:Int)) y49 y50 y51) H .normal [0,1,2,3,4,5,6,7,8,9,10,12,14,15,29,30,38,39,40,49,50,51,41] [(0,.agg [.i n,.imm .arg 3 ls]),(1,.ptr 0 0 0 1),(2,.imm .lit 1 []),(3,.nilmap),(4,.bool false),(5,.s tb k),(6,y6),(7,.map mb),(8,.ptr sb 0 0 1),(9,y9),(10,.func 64 [] [.ptr sb 0 0 1]),(12,y12),(14,y14),(15,y15),(29,y29),(30,y30),(38,.s tb k),(39,.i (k:Int)),(40,.i (i:Int)),(49,y49),(50,y50),(51,y51),(41,.bool false)] H :=
  RunsTo.hin N 60 [⟨13,0,.bool false,H⟩] fun kf hk=>⟨_,by kernel_rfl,(oB H (decide_eq_false g0) .nil)⟩
theorem sk_lt_0 (N:Nat) (n:Int) (ls:List HV) (H:Heap) (tb k mb sb i:Nat) {y6 y9 y12 y14 y15 y29 y30 y49 y50 y51:HV}:RunsTo Tp (plF F) 43 (sub [1,1,1,1,1,1,1,0,1,0,0,1,0] B43) [(0,.agg [.i n,.imm .arg 3 ls]),(1,.ptr 0 0 0 1),(2,.imm .lit 1 []),(3,.nilmap),(4,.bool false),(5,.s tb k),(6,y6),(7,.map mb),(8,.ptr sb 0 0 1),(9,y9),(10,.func 64 [] [.ptr sb 0 0 1]),(12,y12),(14,y14),(15,y15),(29,y29),(30,y30),(38,.s tb k),(39,.i (k:Int)),(40,.i (i:Int)),(49,y49),(50,y50),(51,y51),(41,.bool true)] H .normal ((plF F).keys 43) (env43 (.agg [.i n,.imm .arg 3 ls]) (.ptr 0 0 0 1) (.imm .lit 1 []) .nilmap (.bool false) (.s tb k) y6 (.map mb) (.ptr sb 0 0 1) y9 (.func 64 [] [.ptr sb 0 0 1]) y12 y14 y15 y29 y30 (.s tb k) (.i (k:Int)) (.i (i:Int)) y49 y50 y51) H :=
  RunsTo.hin N 60 [] fun kf hk=>⟨_,by kernel_rfl,.nil⟩
theorem sk_lf_0 (N:Nat) (n:Int) (ls:List HV) (H:Heap) (tb k mb sb i:Nat) {y6 y9 y12 y14 y15 y29 y30 y49 y50 y51:HV}:RunsTo Tp (plF F) 43 (sub [1,1,1,1,1,1,1,0,1,0,0,1,0] B43) [(0,.agg [.i n,.imm .arg 3 ls]),(1,.ptr 0 0 0 1),(2,.imm .lit 1 []),(3,.nilmap),(4,.bool false),(5,.s tb k),(6,y6),(7,.map mb),(8,.ptr sb 0 0 1),(9,y9),(10,.func 64 [] [.ptr sb 0 0 1]),(12,y12),(14,y14),(15,y15),(29,y29),(30,y30),(38,.s tb k),(39,.i (k:Int)),(40,.i (i:Int)),(49,y49),(50,y50),(51,y51),(41,.bool false)] H (.exit 2) ((plF F).keys 43) (env43 (.agg [.i n,.imm .arg 3 ls]) (.ptr 0 0 0 1) (.imm .lit 1 []) .nilmap (.bool false) (.s tb k) y6 (.map mb) (.ptr sb 0 0 1) y9 (.func 64 [] [.ptr sb 0 0 1]) y12 y14 y15 y29 y30 (.s tb k) (.i (k:Int)) (.i (i:Int)) y49 y50 y51) H :=
  RunsTo.hin N 60 [] fun kf hk=>⟨_,by kernel_rfl,.nil⟩
theorem sk_m_0 (N:Nat) (n:Int) (ls:List HV) (H:Heap) (tb k mb sb i:Nat) (x:Int) {y6 y9 y12 y14 y15 y29 y30 y49 y50 y51:HV}(g0:idxV Tp 24 (.s tb k) (.i (i:Int))=some (.ptr tb i 0 k)) (g1:loadV Tp H 3 (.ptr tb i 0 k)=some (.i x)):RunsTo Tp (plF F) 43 (sub [1,1,1,1,1,1,1,0,1,0,0,1,1,0,0,0] B43) (env43 (.agg [.i n,.imm .arg 3 ls]) (.ptr 0 0 0 1) (.imm .lit 1 []) .nilmap (.bool false) (.s tb k) y6 (.map mb) (.ptr sb 0 0 1) y9 (.func 64 [] [.ptr sb 0 0 1]) y12 y14 y15 y29 y30 (.s tb k) (.i (k:Int)) (.i (i:Int)) y49 y50 y51) H .normal ((plF F).keys 43) (env43 (.agg [.i n,.imm .arg 3 ls]) (.ptr 0 0 0 1) (.imm .lit 1 []) .nilmap (.bool false) (.s tb k) y6 (.map mb) (.ptr sb 0 0 1) y9 (.func 64 [] [.ptr sb 0 0 1]) (.i x) y14 y15 y29 y30 (.s tb k) (.i (k:Int)) (.i (i:Int)) y49 y50 y51) H :=
  RunsTo.hin N 60 [⟨14,0,.ptr tb i 0 k,H⟩,⟨14,1,.i x,H⟩] fun kf hk=>⟨_,by kernel_rfl,(oP H g0 (oP H g1 .nil))⟩
theorem sk_o_0 (N:Nat) (n:Int) (ls:List HV) (H:Heap) (tb k mb sb i:Nat) (x:Int) {y6 y9 y14 y15 y29 y30 y49 y50 y51:HV} {H0:Heap} (g0:updV Tp false 72 (.map mb) (.i x) (.bool true) H=some H0):RunsTo Tp (plF F) 43 (sub [1,1,1,1,1,1,1,0,1,0,0,1,1,0,0,1,0] B43) (env43 (.agg [.i n,.imm .arg 3 ls]) (.ptr 0 0 0 1) (.imm .lit 1 []) .nilmap (.bool false) (.s tb k) y6 (.map mb) (.ptr sb 0 0 1) y9 (.func 64 [] [.ptr sb 0 0 1]) (.i x) y14 y15 y29 y30 (.s tb k) (.i (k:Int)) (.i (i:Int)) y49 y50 y51) H .normal ((plF F).keys 43) (env43 (.agg [.i n,.imm .arg 3 ls]) (.ptr 0 0 0 1) (.imm .lit 1 []) .nilmap (.bool false) (.s tb k) y6 (.map mb) (.ptr sb 0 0 1) y9 (.func 64 [] [.ptr sb 0 0 1]) (.i x) y14 y15 y29 y30 (.s tb k) (.i (k:Int)) (.i (i:Int)) y49 y50 y51) H0 :=
  RunsTo.hin N 60 [⟨15,2,.tuple [],H0⟩] fun kf hk=>⟨_,by kernel_rfl,(oS g0 .nil)⟩
theorem sk_p_0 (N:Nat) (n:Int) (ls:List HV) (H:Heap) (tb k mb sb i ib c:Nat) (x:Int) {y6 y9 y14 y15 y29 y30 y49 y50 y51:HV} {H0:Heap} (g0:loadV Tp H 66 (.ptr 0 0 0 1)=some (.agg [.i n,.imm .arg 3 ls])) (g1:∀ kf,callN Tp (plF F) (kf+1) 59 [.agg [.i n,.imm .arg 3 ls],.s tb k,.i x] H=some (.s ib c,H0)):RunsTo Tp (plF F) 43 (sub [1,1,1,1,1,1,1,0,1,0,0,1,1,0,0,1,1,0] B43) (env43 (.agg [.i n,.imm .arg 3 ls]) (.ptr 0 0 0 1) (.imm .lit 1 []) .nilmap (.bool false) (.s tb k) y6 (.map mb) (.ptr sb 0 0 1) y9 (.func 64 [] [.ptr sb 0 0 1]) (.i x) y14 y15 y29 y30 (.s tb k) (.i (k:Int)) (.i (i:Int)) y49 y50 y51) H .normal ((plF F).keys 43) (env43 (.agg [.i n,.imm .arg 3 ls]) (.ptr 0 0 0 1) (.imm .lit 1 []) .nilmap (.bool false) (.s tb k) y6 (.map mb) (.ptr sb 0 0 1) y9 (.func 64 [] [.ptr sb 0 0 1]) (.i x) y14 y15 y29 y30 (.s tb k) (.i (k:Int)) (.i (i:Int)) (.s ib c) (.i (c:Int)) (.i 0)) H0 :=
  RunsTo.hin N 60 [⟨16,0,.agg [.i n,.imm .arg 3 ls],H⟩,⟨16,3,.s ib c,H0⟩] fun kf hk=>⟨_,by kernel_rfl,(oP H g0 (oC (g1 kf) .nil))⟩
theorem sk_q_0 (N:Nat) (n:Int) (ls:List HV) (H:Heap) (tb k mb sb i ib c j:Nat) (x y a b w a2 b2 w2:Int) {y6 y9 y14 y15 y29 y30:HV} {H0:Heap} {H1:Heap} (g0:(j:Int) < (c:Int)) (g1:idxV Tp 24 (.s ib c) (.i (j:Int))=some (.ptr ib j 0 c)) (g2:loadV Tp H 3 (.ptr ib j 0 c)=some (.i y)) (g3:loadV Tp H 22 (.ptr 0 0 1 1)=some (.imm .arg 3 ls)) (g4:idxV Tp 22 (.imm .arg 3 ls) (.i y)=some (.vptr (.agg [.i a,.i b,.i w]))) (g5:loadV Tp H 22 (.ptr 0 0 1 1)=some (.imm .arg 3 ls)) (g6:idxV Tp 22 (.imm .arg 3 ls) (.i x)=some (.vptr (.agg [.i a2,.i b2,.i w2]))) (g7:∀ kf,N ≤ kf → callN Tp (plF F) (kf+1) 64 [.i x,.i (IntKind.i64.wrap (w - w2)),.ptr sb 0 0 1] H=some (.tuple [],H0)) (g8:∀ kf,N ≤ kf → callN Tp (plF F) (kf+1) 64 [.i y,.i (IntKind.i64.wrap (w - w2)),.ptr sb 0 0 1] H0=some (.tuple [],H1)):RunsTo Tp (plF F) 43 (sub [1,1,1,1,1,1,1,0,1,0,0,1,1,0,0,1,1,1,0,0] B43) (env43 (.agg [.i n,.imm .arg 3 ls]) (.ptr 0 0 0 1) (.imm .lit 1 []) .nilmap (.bool false) (.s tb k) y6 (.map mb) (.ptr sb 0 0 1) y9 (.func 64 [] [.ptr sb 0 0 1]) (.i x) y14 y15 y29 y30 (.s tb k) (.i (k:Int)) (.i (i:Int)) (.s ib c) (.i (c:Int)) (.i (j:Int))) H .normal ((plF F).keys 43) (env43 (.agg [.i n,.imm .arg 3 ls]) (.ptr 0 0 0 1) (.imm .lit 1 []) .nilmap (.bool false) (.s tb k) y6 (.map mb) (.ptr sb 0 0 1) y9 (.func 64 [] [.ptr sb 0 0 1]) (.i x) (.i y) (.i (IntKind.i64.wrap (w - w2))) y29 y30 (.s tb k) (.i (k:Int)) (.i (i:Int)) (.s ib c) (.i (c:Int)) (.i (IntKind.i64.wrap ((j:Int)+1)))) H1 :=
  RunsTo.hin N 60 [⟨17,0,.bool true,H⟩,⟨18,0,.ptr ib j 0 c,H⟩,⟨18,1,.i y,H⟩,⟨19,1,.imm .arg 3 ls,H⟩,⟨19,3,.vptr (.agg [.i a,.i b,.i w]),H⟩,⟨19,7,.imm .arg 3 ls,H⟩,⟨19,9,.vptr (.agg [.i a2,.i b2,.i w2]),H⟩,⟨20,3,.tuple [],H0⟩,⟨21,3,.tuple [],H1⟩] fun kf hk=>⟨_,by kernel_rfl,(oB H (decide_eq_true g0) (oP H g1 (oP H g2 (oP H g3 (oP H g4 (oP H g5 (oP H g6 (oC (g7 kf (by omega)) (oC (g8 kf (by omega)) .nil)))))))))⟩
theorem sk_q_1 (N:Nat) (n:Int) (ls:List HV) (H:Heap) (tb k mb sb i ib c j:Nat) (x y a b w a2 b2 w2:Int) {y6 y9 y14 y15 y29 y30:HV}(g0:¬ ((j:Int) < (c:Int))):RunsTo Tp (plF F) 43 (sub [1,1,1,1,1,1,1,0,1,0,0,1,1,0,0,1,1,1,0,0] B43) (env43 (.agg [.i n,.imm .arg 3 ls]) (.ptr 0 0 0 1) (.imm .lit 1 []) .nilmap (.bool false) (.s tb k) y6 (.map mb) (.ptr sb 0 0 1) y9 (.func 64 [] [.ptr sb 0 0 1]) (.i x) y14 y15 y29 y30 (.s tb k) (.i (k:Int)) (.i (i:Int)) (.s ib c) (.i (c:Int)) (.i (j:Int))) H (.exit 4) ((plF F).keys 43) (env43 (.agg [.i n,.imm .arg 3 ls]) (.ptr 0 0 0 1) (.imm .lit 1 []) .nilmap (.bool false) (.s tb k) y6 (.map mb) (.ptr sb 0 0 1) y9 (.func 64 [] [.ptr sb 0 0 1]) (.i x) y14 y15 y29 y30 (.s tb k) (.i (k:Int)) (.i (i:Int)) (.s ib c) (.i (c:Int)) (.i (j:Int))) H :=
  RunsTo.hin N 60 [⟨17,0,.bool false,H⟩] fun kf hk=>⟨_,by kernel_rfl,(oB H (decide_eq_false g0) .nil)⟩
theorem sk_r_0 (N:Nat) (n:Int) (ls:List HV) (H:Heap) (tb k mb sb i:Nat) {y6 y9 y12 y14 y15 y29 y30 y49 y50 y51:HV}:RunsTo Tp (plF F) 43 (sub [1,1,1,1,1,1,1,0,1,0,0,1,1,1] B43) (env43 (.agg [.i n,.imm .arg 3 ls]) (.ptr 0 0 0 1) (.imm .lit 1 []) .nilmap (.bool false) (.s tb k) y6 (.map mb) (.ptr sb 0 0 1) y9 (.func 64 [] [.ptr sb 0 0 1]) y12 y14 y15 y29 y30 (.s tb k) (.i (k:Int)) (.i (i:Int)) y49 y50 y51) H .normal ((plF F).keys 43) (env43 (.agg [.i n,.imm .arg 3 ls]) (.ptr 0 0 0 1) (.imm .lit 1 []) .nilmap (.bool false) (.s tb k) y6 (.map mb) (.ptr sb 0 0 1) y9 (.func 64 [] [.ptr sb 0 0 1]) y12 y14 y15 y29 y30 (.s tb k) (.i (k:Int)) (.i (IntKind.i64.wrap ((i:Int)+1))) y49 y50 y51) H :=
  RunsTo.hin N 60 [] fun kf hk=>⟨_,by kernel_rfl,.nil⟩
theorem sk_z_0 (N:Nat) (n:Int) (ls:List HV) (H:Heap) (tb k mb sb ob m:Nat) {y6 y9 y12 y14 y15 y29 y30 y38 y39 y40 y49 y50 y51:HV}(g0:loadV Tp H 24 (.ptr sb 0 0 1)=some (.o ob m)):RunsTo Tp (plF F) 43 (sub [1,1,1,1,1,1,1,1] B43) (env43 (.agg [.i n,.imm .arg 3 ls]) (.ptr 0 0 0 1) (.imm .lit 1 []) .nilmap (.bool false) (.s tb k) y6 (.map mb) (.ptr sb 0 0 1) y9 (.func 64 [] [.ptr sb 0 0 1]) y12 y14 y15 y29 y30 y38 y39 y40 y49 y50 y51) H .ret ((plF F).keys 43) (env43 (.agg [.i n,.imm .arg 3 ls]) (.ptr 0 0 0 1) (.o ob m) (.map mb) (.bool true) (.s tb k) y6 (.map mb) (.ptr sb 0 0 1) y9 (.func 64 [] [.ptr sb 0 0 1]) y12 y14 y15 y29 y30 y38 y39 y40 y49 y50 y51) H :=
  RunsTo.hin N 60 [⟨24,0,.o ob m,H⟩] fun kf hk=>⟨_,by kernel_rfl,(oP H g0 .nil)⟩
end
end Go.Proofs.Ytiejmoglooaalaa
end
section
open Go Go.HL
namespace Go.Proofs.Ytiejmoglooaalaa
open Go.Proofs.Try renaming prog → Tp
open Go.HL.HV renaming undef → Ud
def lwT (O:List Int) (k d:Int):List Int:=if O.getD k.toNat 0 < 0 ∨ d < O.getD k.toNat 0 then O.set k.toNat d else O
theorem lw_len (O:List Int) (k d:Int):(lwT O k d).length=O.length:=by unfold lwT; split <;> simp
theorem u72:Tp.underlying 72=some (.map 3 4):=by kernel_rfl
theorem key3 (x:Int):keyTy Tp 3 (.int .i64 x)=true:=by kernel_rfl
theorem findK_ints (x:Int):∀ (ks:List Int) (i:Nat),x ∉ ks → findK (.int .i64 x) (ks.map encI) i=some none
  | [],_,_=>rfl
  | y :: ks,i,h=>by
    have h1:x ≠ y:=fun c=>h (c ▸ List.mem_cons_self ..)
    simp only [List.map_cons,findK,encI,keyEq,scEq,if_true,decide_eq_false h1]
    exact findK_ints x ks (i+1) fun c=>h (List.mem_cons_of_mem _ c)
section
variable {F:FuncId → Option (List HV → Option HV)}
theorem lw_call (h64:F 64=none) {H:Heap} {sb ob m mx:Nat} {O:List Int} (hs:H[sb]?=some (.arr 1 [.sl ob 0 m (some m) m 1] true mx)) (ho:H[ob]?=some (bI O)) (hm:O.length=m) {k:Int} (hk:0 ≤ k∧k < (m:Int)) (d:Int):ClF F 64 [.int .i64 k,.int .i64 d,.ptr sb 0 0 1] H (.tuple []) (H.set ob (bI (lwT O k d))):=by
  have hr:Try.f64.results.toList=[]:=by kernel_rfl
  have l0:loadV Tp H 24 (.ptr sb 0 0 1)=some (.sl ob 0 m (some m) m 1):=load_elem (b:=sb) hs rfl rfl rfl a24 i24
  have ix:=idxU (b:=ob) (n:=m) (v:=k) hk (cap:=some m)
  have ld:=load_out ho (y:=k.toNat) (by omega)
  have st:=store_out ho (y:=k.toNat) (by omega) d
  rw [hm] at ld st
  by_cases c1:O.getD k.toNat 0 < 0
  · have h:=CallsTo.shared (P:=Tp) (pol:=plF F) (g:=64) (fn:=Try.f64) (cd:=B64) (args:=[.int .i64 k,.int .i64 d,.ptr sb 0 0 1]) (v:=.tuple []) h64 (by kernel_rfl) (by kernel_rfl) (by kernel_rfl) (lo_a_0 (F:=F) k d sb ob m _ H l0 ix ld c1 l0 ix st) (by kernel_rfl) (by simp) (by simp only [resultsV,hr]; rfl)
    rw [gc_eq _ (by simp)] at h
    rw [lwT,if_pos (.inl c1)]; exact h
  by_cases c2:d < O.getD k.toNat 0
  · have h:=CallsTo.shared (P:=Tp) (pol:=plF F) (g:=64) (fn:=Try.f64) (cd:=B64) (args:=[.int .i64 k,.int .i64 d,.ptr sb 0 0 1]) (v:=.tuple []) h64 (by kernel_rfl) (by kernel_rfl) (by kernel_rfl) (lo_a_1 (F:=F) k d sb ob m _ H l0 ix ld c1 l0 ix ld c2 l0 ix st) (by kernel_rfl) (by simp) (by simp only [resultsV,hr]; rfl)
    rw [gc_eq _ (by simp)] at h
    rw [lwT,if_pos (.inr c2)]; exact h
  · have h:=CallsTo.shared (P:=Tp) (pol:=plF F) (g:=64) (fn:=Try.f64) (cd:=B64) (args:=[.int .i64 k,.int .i64 d,.ptr sb 0 0 1]) (v:=.tuple []) h64 (by kernel_rfl) (by kernel_rfl) (by kernel_rfl) (lo_a_2 (F:=F) k d sb ob m _ H l0 ix ld c1 l0 ix ld c2) (by kernel_rfl) (by simp) (by simp only [resultsV,hr]; rfl)
    rw [gc_eq _ rfl] at h
    rw [lwT,if_neg (fun h=>h.elim c1 c2),set_same ho]; exact h
end
def inS (l:List St) (x:Int) (O:List Int) (y:Int):List Int:=lwT (lwT O x (wOf l y - wOf l x)) y (wOf l y - wOf l x)
theorem inS_len (l:List St) (x:Int) (O:List Int) (y:Int):(inS l x O y).length=O.length:=by rw [inS,lw_len,lw_len]
def inF (l:List St) (x:Int) (O ys:List Int):List Int:=ys.foldl (inS l x) O
theorem inF_len (l:List St) (x:Int):∀ (ys O:List Int),(inF l x O ys).length=O.length
  | [],_=>rfl
  | y :: ys,O=>by rw [inF,List.foldl_cons]; exact (inF_len l x ys _).trans (inS_len ..)
theorem inF_succ (l:List St) (x:Int) (O ys:List Int) {j:Nat} (h:j < ys.length):inF l x O (ys.take (j+1))=inS l x (inF l x O (ys.take j)) (ys.getD j 0):=by
  rw [inF,take_snoc h,List.foldl_append]; rfl
def ouF (l:List St) (t O ks:List Int):List Int:=ks.foldl (fun O k=>inF l k O (insT l t k l.length)) O
theorem ouF_len (l:List St) (t:List Int):∀ (ks O:List Int),(ouF l t O ks).length=O.length
  | [],_=>rfl
  | k :: ks,O=>by rw [ouF,List.foldl_cons]; exact (ouF_len l t ks _).trans (inF_len ..)
theorem ouF_succ (l:List St) (t O ks:List Int) {j:Nat} (h:j < ks.length):ouF l t O (ks.take (j+1))=inF l (ks.getD j 0) (ouF l t O (ks.take j)) (insT l t (ks.getD j 0) l.length):=by
  rw [ouF,take_snoc h,List.foldl_append]; rfl
def slT (l:List St):List Int:=ouF l (treeT l) (List.replicate l.length (-1)) (treeT l)
def bM (M:List Int):Blk:=.map (M.map encI) (M.map fun _=>HV.bool true) 0
abbrev bL (m:Nat):Blk:=.arr 1 [.sl 3 0 m (some m) m 1] true 6
abbrev hS (n:Int) (l:List St) (T M O:List Int):Heap:=[bN n l,bI T,bM M,bI O,bL l.length,bI []]
def slack43:List HV → Option HV:=f1 kN fun p=>if netB p.1 p.2=true then some (if connB p.1 p.2=true then .tuple [.own 1 ((slT p.2).map encI),.omap ((treeT p.2).map encI) ((treeT p.2).map fun _=>HV.bool true),.bool true] else .tuple [.own 1 [],.nilmap,.bool false]) else none
theorem res43:Try.f43.results.toList=[.tmp 2,.tmp 3,.tmp 4]:=by kernel_rfl
def prSk:FuncId → Option (List HV → Option HV):=fun g=>if g == 40 then some tree40 else if g == 59 then some instead59 else none
theorem soundSk (n:Nat):CallSound Tp (callN Tp (plF prSk) n):=sound_prim _ (fun g f h=>by
  unfold prSk at h
  split at h
  · rename_i hg; cases h; rw [eq_of_beq hg]; exact tree_ok
  split at h
  · rename_i hg; cases h; rw [eq_of_beq hg]; exact instead_ok
  · cases h) n
theorem tree_nodup (l:List St):(treeT l).Nodup:=by
  have:=tk_sublist l (ordT l) (ordT l).length (Nat.le_refl _)
  rw [List.take_length] at this
  exact this.nodup (ordT_nodup l)
theorem getD_notin {l:List Int} (h:l.Nodup) {i:Nat} (hi:i < l.length):l.getD i 0 ∉ l.take i:=by
  intro c
  have h2:(l.take (i+1)).Nodup:=(List.take_sublist _ _).nodup h
  rw [take_snoc hi] at h2
  exact (List.nodup_append.1 h2).2.2 _ c _ (List.mem_singleton_self _) rfl
theorem sk_round {n:Int} {l:List St} (hnet:netB n l=true) {T O:List Int} (hT:T=treeT l) (hO:O.length=l.length) {i:Nat} (hi:i < T.length) :
    ∃ E0 H1,RunsTo Tp (plF prSk) 43 (sub [1,1,1,1,1,1,1,0,1,0,0] B43) ((env43 (encN n l) (.ptr 0 0 0 1) (.imm .lit 1 []) .nilmap (.bool false) (.sl 1 0 T.length none T.length 1) Ud (.map 2) (.ptr 4 0 0 1) Ud (.func 64 [] [.ptr 4 0 0 1]) Ud Ud Ud Ud Ud (.sl 1 0 T.length none T.length 1) (.int .i64 (T.length:Int)) (.int .i64 ((i:Nat):Int)) Ud Ud Ud)) (hS n l T (T.take i) O) .normal ((plF prSk).keys 43) E0 H1∧lrestr (plF prSk) 43 (sub [1,1,1,1,1,1,1,0,1,0,0] B43) E0=(env43 (encN n l) (.ptr 0 0 0 1) (.imm .lit 1 []) .nilmap (.bool false) (.sl 1 0 T.length none T.length 1) Ud (.map 2) (.ptr 4 0 0 1) Ud (.func 64 [] [.ptr 4 0 0 1]) Ud Ud Ud Ud Ud (.sl 1 0 T.length none T.length 1) (.int .i64 (T.length:Int)) (.int .i64 ((i+1:Nat):Int)) Ud Ud Ud)∧gc 6 (bndE ((env43 (encN n l) (.ptr 0 0 0 1) (.imm .lit 1 []) .nilmap (.bool false) (.sl 1 0 T.length none T.length 1) Ud (.map 2) (.ptr 4 0 0 1) Ud (.func 64 [] [.ptr 4 0 0 1]) Ud Ud Ud Ud Ud (.sl 1 0 T.length none T.length 1) (.int .i64 (T.length:Int)) (.int .i64 ((i+1:Nat):Int)) Ud Ud Ud))) H1=hS n l T (T.take (i+1)) (inF l (T.getD i 0) O (insT l T (T.getD i 0) l.length)):=by
  obtain ⟨⟨n1,n2⟩,n3,he,hw⟩:=netB_ends hnet
  have heB:=endN_B he (by omega)
  have hTin:∀ x ∈ T,0 ≤ x∧x < (l.length:Int):=fun x hx=>tree_in (by rw [← hT]; exact hx)
  have hTn:T.Nodup:=by rw [hT]; exact tree_nodup l
  have hTl:T.length ≤ l.length:=by rw [hT,← fr_len]; exact frT_le l
  have hx:=hTin _ (mem_getD 0 hi)
  have hwt:∀ k:Int,0 ≤ k∧k < (l.length:Int) → 0 ≤ wOf l k∧wOf l k ≤ 1000:=fun k hk=>hw _ (mem_getD _ (by omega))
  have s1:=sk_l_0 (F:=prSk) 0 n (l.map encT) (hS n l T (T.take i) O) 1 T.length 2 4 i (y6:=Ud) (y9:=Ud) (y12:=Ud) (y14:=Ud) (y15:=Ud) (y29:=Ud) (y30:=Ud) (y49:=Ud) (y50:=Ud) (y51:=Ud) (by omega)
  have s2:=sk_lt_0 (F:=prSk) 0 n (l.map encT) (hS n l T (T.take i) O) 1 T.length 2 4 i (y6:=Ud) (y9:=Ud) (y12:=Ud) (y14:=Ud) (y15:=Ud) (y29:=Ud) (y30:=Ud) (y49:=Ud) (y50:=Ud) (y51:=Ud)
  have s3:=sk_m_0 (F:=prSk) 0 n (l.map encT) (hS n l T (T.take i) O) 1 T.length 2 4 i (T.getD i 0) (y6:=Ud) (y9:=Ud) (y12:=Ud) (y14:=Ud) (y15:=Ud) (y29:=Ud) (y30:=Ud) (y49:=Ud) (y50:=Ud) (y51:=Ud) (idxS u24 z3 hi) (load_out (H:=hS n l T (T.take i) O) (k:=1) rfl hi)
  have s4u:updV Tp false 72 (.map 2) (.int .i64 (T.getD i 0)) (.bool true) (hS n l T (T.take i) O)=some (hS n l T (T.take (i+1)) O):=by
    have hk:=key3 (T.getD i 0)
    have hf:=findK_ints (T.getD i 0) (T.take i) 0 (getD_notin hTn hi)
    have hg:(hS n l T (T.take i) O)[2]?=some (.map ((T.take i).map encI) ((T.take i).map fun _=>HV.bool true) 0):=rfl
    have ha:(aggEq (cellsOf (HV.int .i64 (T.getD i 0))) (cellsOf (HV.int .i64 (T.getD i 0)))).isSome=true:=rfl
    simp only [updV,u72,hk,if_true,Bool.false_eq_true,if_false,hg,hf,ha]
    rw [take_snoc hi]
    simp only [hS,bM,List.map_append]
    rfl
  have s4:=sk_o_0 (F:=prSk) 0 n (l.map encT) (hS n l T (T.take i) O) 1 T.length 2 4 i (T.getD i 0) (y6:=Ud) (y9:=Ud) (y14:=Ud) (y15:=Ud) (y29:=Ud) (y30:=Ud) (y49:=Ud) (y50:=Ud) (y51:=Ud) s4u
  have c59:=at3 (pol':=plF prSk) (g:=59) (c1:=kN) (c2:=kL) (c3:=kI) (f:=fun p t o=>if (endB p.2=true∧p.2.length ≤ 500)∧inR p.2.length t=true∧t ≠ []∧t.length ≤ 500 then some (.own 1 ((insT p.2 t o p.2.length).map encI)) else none) (H:=hS n l T (T.take (i+1)) O) (by kernel_rfl) (ShN _ n l) (ShL_sl (b:=1) (l:=T) rfl rfl) (ShI _ (T.getD i 0)) (if_pos ⟨⟨heB,by show l.length ≤ 500; omega⟩,inR_iff.2 hTin,fun h=>by rw [h] at hi; simp at hi,by omega⟩)
  rw [recv_ints] at c59
  have s5:=sk_p_0 (F:=prSk) 0 n (l.map encT) (hS n l T (T.take (i+1)) O) 1 T.length 2 4 i 6 (insT l T (T.getD i 0) l.length).length (T.getD i 0) (y6:=Ud) (y9:=Ud) (y14:=Ud) (y15:=Ud) (y29:=Ud) (y30:=Ud) (y49:=Ud) (y50:=Ud) (y51:=Ud) (ld66 rfl) c59
  have hYin:∀ y ∈ insT l T (T.getD i 0) l.length,0 ≤ y∧y < (l.length:Int):=fun y hy=>startT_mem.1 (List.mem_filter.1 hy).1
  have hYl:=ins_len l T (T.getD i 0) l.length
  generalize insT l T (T.getD i 0) l.length=Y at *
  have hfl:∀ j,(inF l (T.getD i 0) O (Y.take j)).length=l.length:=fun j=>(inF_len ..).trans hO
  have r:=count (pol':=plF prSk) (f:=43) (E:=fun j=>(env43 (encN n l) (.ptr 0 0 0 1) (.imm .lit 1 []) .nilmap (.bool false) (.sl 1 0 T.length none T.length 1) Ud (.map 2) (.ptr 4 0 0 1) Ud (.func 64 [] [.ptr 4 0 0 1]) (.int .i64 (T.getD i 0)) Ud Ud Ud Ud (.sl 1 0 T.length none T.length 1) (.int .i64 (T.length:Int)) (.int .i64 ((i:Nat):Int)) (.sl 6 0 Y.length none Y.length 1) (.int .i64 (Y.length:Int)) (.int .i64 ((j:Nat):Int)))) (Hs:=fun j=>hS n l T (T.take (i+1)) (inF l (T.getD i 0) O (Y.take j)) ++ [bI Y]) Y.length
    (E0:=fun j=>(env43 (encN n l) (.ptr 0 0 0 1) (.imm .lit 1 []) .nilmap (.bool false) (.sl 1 0 T.length none T.length 1) Ud (.map 2) (.ptr 4 0 0 1) Ud (.func 64 [] [.ptr 4 0 0 1]) (.int .i64 (T.getD i 0)) (.int .i64 (Y.getD j 0)) (.int .i64 (wOf l (Y.getD j 0) - wOf l (T.getD i 0))) Ud Ud (.sl 1 0 T.length none T.length 1) (.int .i64 (T.length:Int)) (.int .i64 ((i:Nat):Int)) (.sl 6 0 Y.length none Y.length 1) (.int .i64 (Y.length:Int)) (.int .i64 ((j+1:Nat):Int)))) (H1:=fun j=>hS n l T (T.take (i+1)) (inF l (T.getD i 0) O (Y.take (j+1))) ++ [bI Y])
    (fun j hj=>by
      have hy:=hYin _ (mem_getD 0 hj)
      have w1:=hwt _ hx
      have w2:=hwt _ hy
      have gy:=gs (l:=l) (y:=(Y.getD j 0).toNat) (by omega)
      have gxx:=gs (l:=l) (y:=(T.getD i 0).toNat) (by omega)
      rw [show (((Y.getD j 0).toNat:Nat):Int)=Y.getD j 0 by omega] at gy
      rw [show (((T.getD i 0).toNat:Nat):Int)=T.getD i 0 by omega] at gxx
      have hsucc:=inF_succ l (T.getD i 0) O Y hj
      have hOl:=hfl j
      generalize inF l (T.getD i 0) O (Y.take j)=Oj at *
      have hwr:IntKind.i64.wrap ((l.getD (Y.getD j 0).toNat (0,0,0)).2.2 - (l.getD (T.getD i 0).toNat (0,0,0)).2.2)=wOf l (Y.getD j 0) - wOf l (T.getD i 0):=wrap_id (by show _ ≤ wOf l (Y.getD j 0) - wOf l (T.getD i 0); omega) (by show wOf l (Y.getD j 0) - wOf l (T.getD i 0) < _; omega)
      obtain ⟨N1,k1⟩:=CallsTo.from (lw_call (F:=prSk) (by kernel_rfl) (H:=hS n l T (T.take (i+1)) Oj ++ [bI Y]) (sb:=4) (ob:=3) (mx:=6) rfl rfl hOl hx (wOf l (Y.getD j 0) - wOf l (T.getD i 0)))
      obtain ⟨N2,k2⟩:=CallsTo.from (lw_call (F:=prSk) (by kernel_rfl) (H:=hS n l T (T.take (i+1)) (lwT Oj (T.getD i 0) (wOf l (Y.getD j 0) - wOf l (T.getD i 0))) ++ [bI Y]) (sb:=4) (ob:=3) (mx:=6) rfl rfl (by rw [lw_len]; exact hOl) hy (wOf l (Y.getD j 0) - wOf l (T.getD i 0)))
      have s:=sk_q_0 (F:=prSk) (max N1 N2) n (l.map encT) (hS n l T (T.take (i+1)) Oj ++ [bI Y]) 1 T.length 2 4 i 6 Y.length j (T.getD i 0) (Y.getD j 0) _ _ _ _ _ _ (y6:=Ud) (y9:=Ud) (y14:=Ud) (y15:=Ud) (y29:=Ud) (y30:=Ud) (by omega) (idxS u24 z3 hj) (load_out (H:=hS n l T (T.take (i+1)) Oj ++ [bI Y]) (k:=6) rfl hj) (ld_net (xb:=0) rfl) gy (ld_net (xb:=0) rfl) gxx (fun kf hk=>by rw [hwr]; exact k1 kf (by omega)) (fun kf hk=>by rw [hwr]; exact k2 kf (by omega))
      rw [hwr,wrap_succ (by omega)] at s
      rw [hsucc]
      exact s) (fun j _=>by kernel_rfl) (fun j _=>gc_eq _ rfl) (sk_q_1 (F:=prSk) 0 n (l.map encT) (hS n l T (T.take (i+1)) (inF l (T.getD i 0) O (Y.take Y.length)) ++ [bI Y]) 1 T.length 2 4 i 6 Y.length Y.length (T.getD i 0) 0 0 0 0 0 0 0 (y6:=Ud) (y9:=Ud) (y14:=Ud) (y15:=Ud) (y29:=Ud) (y30:=Ud) (by omega)) (by simp) (c:=sub [1,1,1,1,1,1,1,0,1,0,0,1,1,0,0,1,1,1,0] B43) (by kernel_rfl) (fun j _=>by kernel_rfl)
  rw [List.take_length] at r
  have s7:=sk_r_0 (F:=prSk) 0 n (l.map encT) (hS n l T (T.take (i+1)) (inF l (T.getD i 0) O Y) ++ [bI Y]) 1 T.length 2 4 i (y12:=.int .i64 (T.getD i 0)) (y49:=.sl 6 0 Y.length none Y.length 1) (y50:=.int .i64 (Y.length:Int)) (y51:=.int .i64 (Y.length:Int)) (y6:=Ud) (y9:=Ud) (y14:=Ud) (y15:=Ud) (y29:=Ud) (y30:=Ud)
  rw [wrap_succ (by omega)] at s7
  refine ⟨_,_,sq (s1) (sq (s2) (sq (RunsTo.block_normal (i:=3) (c:=sub [1,1,1,1,1,1,1,0,1,0,0,1,1,0] B43) (sq (s3) (sq (s4) (sq (s5) (bke (c:=sub [1,1,1,1,1,1,1,0,1,0,0,1,1,0,0,1,1,1] B43) (r)) (c:=sub [1,1,1,1,1,1,1,0,1,0,0,1,1,0,0,1,1] B43)) (c:=sub [1,1,1,1,1,1,1,0,1,0,0,1,1,0,0,1] B43)) (c:=sub [1,1,1,1,1,1,1,0,1,0,0,1,1,0,0] B43)) (by kernel_rfl)) (s7) (c:=sub [1,1,1,1,1,1,1,0,1,0,0,1,1] B43)) (c:=sub [1,1,1,1,1,1,1,0,1,0,0,1] B43)) (c:=sub [1,1,1,1,1,1,1,0,1,0,0] B43),by kernel_rfl,?_⟩
  have hb:bndE ((env43 (encN n l) (.ptr 0 0 0 1) (.imm .lit 1 []) .nilmap (.bool false) (.sl 1 0 T.length none T.length 1) Ud (.map 2) (.ptr 4 0 0 1) Ud (.func 64 [] [.ptr 4 0 0 1]) Ud Ud Ud Ud Ud (.sl 1 0 T.length none T.length 1) (.int .i64 (T.length:Int)) (.int .i64 ((i+1:Nat):Int)) Ud Ud Ud))=5:=by simp only [bndE,bnd,bndL,encN]; rfl
  rw [hb]
  exact gc_back (H:=hS n l T (T.take (i+1)) (inF l (T.getD i 0) O Y)) (by show max 0 (max 0 (max 0 (max 0 (max 6 (max 0 (max 0 0)))))) ≤ 6; decide) (by show 5 ≤ 6; decide)
end Go.Proofs.Ytiejmoglooaalaa
end
section
open Go Go.HL
namespace Go.Proofs.Ytiejmoglooaalaa
open Go.Proofs.Try renaming prog → Tp
open Go.HL.HV renaming undef → Ud
theorem nilmap_res (H:Heap):toRes H false (.tuple [.imm .lit 1 [],.nilmap,.bool false])=some (.tuple [.own 1 [],.nilmap,.bool false]):=by
  simp [toRes,ownedAll,cellsOf,owned,resVal,resCell,mapO]; rfl
def iniT (m j:Nat):List Int:=List.replicate j (-1) ++ List.replicate (m - j) 0
theorem ini_len {m j:Nat} (h:j ≤ m):(iniT m j).length=m:=by rw [iniT,List.length_append,List.length_replicate,List.length_replicate]; omega
theorem ini_set {m j:Nat} (h:j < m):(iniT m j).set j (-1)=iniT m (j+1):=by
  rw [iniT,List.set_append_right _ _ (by simp),List.length_replicate,Nat.sub_self,iniT,show m - j=(m - (j+1))+1 by omega,List.replicate_succ (n:=m - (j+1)),List.set_cons_zero,List.replicate_succ',List.append_assoc]; rfl
theorem res_slk {n:Int} {l:List St} {T O:List Int} (hO:O.length=l.length):toRes (hS n l T T O) false (.tuple [.sl 3 0 l.length (some l.length) l.length 1,.map 2,.bool true])=some (.tuple [.own 1 (O.map encI),.omap (T.map encI) (T.map fun _=>HV.bool true),.bool true]):=by
  have hr:=resCell_sl (H:=hS n l T T O) (no:=[3,2]) (b:=3) (k:=1) (m:=l.length) (cap:=some l.length) (els:=O.map encI) rfl (by simpa using hO) (mapO_self (fun r=>frz_int 4 r) _)
  have hks:mapO (frz (hS n l T T O) [3,2] 4) (T.map encI)=some (T.map encI):=mapO_self (fun r=>frz_int 4 r) _
  have hvs:∀ l2:List Int,mapO (frz (hS n l T T O) [3,2] 4) (l2.map fun _=>HV.bool true)=some (l2.map fun _=>HV.bool true):=by
    intro l2
    induction l2 with
    | nil=>rfl
    | cons y l2 ih=>simp only [List.map_cons,mapO,ih]; rfl
  have hm:resCell (hS n l T T O) [3,2] false (.map 2)=some (.omap (T.map encI) (T.map fun _=>HV.bool true)):=by
    have hg:(hS n l T T O)[2]?=some (.map (T.map encI) (T.map fun _=>HV.bool true) 0):=rfl
    simp only [resCell,hg,hks,hvs T]
  have ho:ownedAll (hS n l T T O) false (.tuple [.sl 3 0 l.length (some l.length) l.length 1,.map 2,.bool true])=[3,2]:=rfl
  simp only [toRes,ho,List.nodup_cons,List.mem_singleton,List.not_mem_nil,not_false_eq_true,List.nodup_nil,and_self,and_true,if_true,resVal,mapO,hr,hm]
  rfl
theorem slack_ok:PrimOk Tp 43 slack43:=by
  refine primOk_pure (pol:=plF prSk) (fn:=Try.f43) (cd:=B43) follows_mixed soundSk (by kernel_rfl) (by kernel_rfl) (fnok prSk _ _ (by kernel_rfl)) (by kernel_rfl) ?_
  intro args res h
  obtain ⟨⟨n,l⟩,rfl,hq⟩:=f1_inv h
  simp only at hq
  split at hq
  case isFalse=>cases hq
  rename_i hnet
  cases hq
  obtain ⟨⟨n1,n2⟩,n3,he,hw⟩:=netB_ends hnet
  have heB:=endN_B he (by omega)
  have a:=sk_a_0 (F:=prSk) 0 n (l.map encT)
  have c40:=at1 (pol':=plF prSk) (g:=40) (c1:=kN) (f:=fun p=>if netOk p.1 p.2 then some (.tuple [.own 1 ((treeT p.2).map encI),.bool (connB p.1 p.2)]) else none) (H:=[bN n l]) (by kernel_rfl) (ShN _ n l) (if_pos ⟨heB,by show l.length ≤ 900; omega,by show 0 ≤ n; omega,by show n ≤ 1000; omega⟩)
  rw [recv_tb] at c40
  simp only at c40
  by_cases cn:connB n l=true
  case neg =>
    rw [nb_false cn] at c40
    have b:=sk_b_1 (F:=prSk) 0 n (l.map encT) [bN n l] 1 (treeT l).length (y5:=Ud) (y6:=Ud) (y7:=Ud) (y8:=Ud) (y9:=Ud) (y10:=Ud) (y12:=Ud) (y14:=Ud) (y15:=Ud) (y29:=Ud) (y30:=Ud) (y38:=Ud) (y39:=Ud) (y40:=Ud) (y49:=Ud) (y50:=Ud) (y51:=Ud) (ld66 rfl) c40
    have c:=sk_cf_0 (F:=prSk) 0 n (l.map encT) [bN n l,bI (treeT l)] 1 (treeT l).length (y7:=Ud) (y8:=Ud) (y9:=Ud) (y10:=Ud) (y12:=Ud) (y14:=Ud) (y15:=Ud) (y29:=Ud) (y30:=Ud) (y38:=Ud) (y39:=Ud) (y40:=Ud) (y49:=Ud) (y50:=Ud) (y51:=Ud)
    refine ⟨_,_,_,.tuple [.imm .lit 1 [],.nilmap,.bool false],sq (a) (sq (b) (sqo (c) (c:=sub [1,1] B43) (b:=sub [1,1,1] B43)) (c:=sub [1] B43)) (c:=B43),by simp,by simp only [resultsV,res43]; rfl,?_⟩
    rw [if_neg cn]
    exact nilmap_res _
  rw [cn] at c40
  rw [if_pos cn]
  have b:=sk_b_0 (F:=prSk) 0 n (l.map encT) [bN n l] 1 (treeT l).length (y5:=Ud) (y6:=Ud) (y7:=Ud) (y8:=Ud) (y9:=Ud) (y10:=Ud) (y12:=Ud) (y14:=Ud) (y15:=Ud) (y29:=Ud) (y30:=Ud) (y38:=Ud) (y39:=Ud) (y40:=Ud) (y49:=Ud) (y50:=Ud) (y51:=Ud) (ld66 rfl) c40
  have c:=sk_ct_0 (F:=prSk) 0 n (l.map encT) [bN n l,bI (treeT l)] 1 (treeT l).length (y7:=Ud) (y8:=Ud) (y9:=Ud) (y10:=Ud) (y12:=Ud) (y14:=Ud) (y15:=Ud) (y29:=Ud) (y30:=Ud) (y38:=Ud) (y39:=Ud) (y40:=Ud) (y49:=Ud) (y50:=Ud) (y51:=Ud)
  have d:=sk_d_0 (F:=prSk) 0 n (l.map encT) [bN n l,bI (treeT l)] 1 (treeT l).length (y6:=.bool true) (y7:=Ud) (y8:=Ud) (y9:=Ud) (y10:=Ud) (y12:=Ud) (y14:=Ud) (y15:=Ud) (y29:=Ud) (y30:=Ud) (y38:=Ud) (y39:=Ud) (y40:=Ud) (y49:=Ud) (y50:=Ud) (y51:=Ud) rfl
  have mk:=makeV_ok (P:=Tp) (H:=[bN n l,bI (treeT l),bM []]) (t:=24) (e:=3) (k:=1) (bt:=8) (zv:=.int .i64 0) (n:=(l.length:Int)) u24 (by kernel_rfl) (by simp [cellsOf,cellV]) (by simp [cellsOf]) (by omega) (by omega) (by simp only [roomMax]; omega)
  rw [Int.toNat_natCast] at mk
  have erep:List.replicate l.length (HV.int .i64 0)=(iniT l.length 0).map encI:=by simp [iniT,encI]
  rw [erep] at mk
  have e:=sk_e_0 (F:=prSk) 0 n (l.map encT) [bN n l,bI (treeT l),bM []] 1 (treeT l).length 2 3 l.length (y6:=.bool true) (H2:=hS n l (treeT l) [] (iniT l.length 0)) (y8:=Ud) (y9:=Ud) (y10:=Ud) (y12:=Ud) (y14:=Ud) (y15:=Ud) (y29:=Ud) (y30:=Ud) (y38:=Ud) (y39:=Ud) (y40:=Ud) (y49:=Ud) (y50:=Ud) (y51:=Ud) (ld_net (xb:=0) rfl) (by rw [List.length_map]; exact mk) rfl (by kernel_rfl)
  have hsl:∀ T M O,loadV Tp (hS n l T M O) 24 (.ptr 4 0 0 1)=some (.sl 3 0 l.length (some l.length) l.length 1):=fun T M O=>load_elem (b:=4) (H:=hS n l T M O) rfl rfl rfl rfl a24 i24
  have f:=sk_f_0 (F:=prSk) 0 n (l.map encT) (hS n l (treeT l) [] (iniT l.length 0)) 1 (treeT l).length 2 4 3 l.length (y6:=.bool true) (y9:=Ud) (y10:=Ud) (y12:=Ud) (y14:=Ud) (y15:=Ud) (y29:=Ud) (y30:=Ud) (y38:=Ud) (y39:=Ud) (y40:=Ud) (y49:=Ud) (y50:=Ud) (y51:=Ud) (hsl _ _ _)
  have hTe:ouF l (treeT l) (List.replicate l.length (-1)) (treeT l)=slT l:=rfl
  have hout:=@sk_round n l hnet (treeT l)
  generalize hT:treeT l=T at *
  have r1:=count (pol':=plF prSk) (f:=43) (E:=fun i=>(env43 (encN n l) (.ptr 0 0 0 1) (.imm .lit 1 []) .nilmap (.bool false) (.sl 1 0 T.length none T.length 1) Ud (.map 2) (.ptr 4 0 0 1) Ud Ud Ud Ud Ud (.int .i64 (l.length:Int)) (.int .i64 ((i:Nat):Int)) Ud Ud Ud Ud Ud Ud)) (Hs:=fun i=>hS n l T [] (iniT l.length i)) l.length (E0:=fun i=>(env43 (encN n l) (.ptr 0 0 0 1) (.imm .lit 1 []) .nilmap (.bool false) (.sl 1 0 T.length none T.length 1) Ud (.map 2) (.ptr 4 0 0 1) (.int .i64 (i:Int)) Ud Ud Ud Ud (.int .i64 (l.length:Int)) (.int .i64 ((i+1:Nat):Int)) Ud Ud Ud Ud Ud Ud)) (H1:=fun i=>hS n l T [] (iniT l.length (i+1)))
    (fun i hi=>by
      have hil:=ini_len (m:=l.length) (j:=i) (by omega)
      have st:=store_out (H:=hS n l T [] (iniT l.length i)) (k:=3) (o:=iniT l.length i) rfl (y:=i) (by omega) (-1)
      rw [hil,ini_set hi] at st
      have s:=sk_g_0 (F:=prSk) 0 n (l.map encT) (hS n l T [] (iniT l.length i)) 1 T.length 2 4 3 l.length i (y6:=Ud) (y9:=Ud) (y10:=Ud) (y12:=Ud) (y14:=Ud) (y15:=Ud) (y38:=Ud) (y39:=Ud) (y40:=Ud) (y49:=Ud) (y50:=Ud) (y51:=Ud) (by omega) (hsl _ _ _) (idxS u24 z3 hi) st
      rw [wrap_succ (by omega)] at s
      exact s) (fun i _=>by kernel_rfl) (fun i _=>gc_eq _ rfl) (sk_g_1 (F:=prSk) 0 n (l.map encT) (hS n l T [] (iniT l.length l.length)) 1 T.length 2 4 3 l.length l.length (y6:=Ud) (y9:=Ud) (y10:=Ud) (y12:=Ud) (y14:=Ud) (y15:=Ud) (y38:=Ud) (y39:=Ud) (y40:=Ud) (y49:=Ud) (y50:=Ud) (y51:=Ud) (by omega)) (by simp) (c:=sub [1,1,1,1,1,0,1,0] B43) (by kernel_rfl) (fun i _=>by kernel_rfl)
  have eini:iniT l.length l.length=List.replicate l.length (-1):=by rw [iniT,Nat.sub_self,List.replicate_zero,List.append_nil]
  rw [eini] at r1
  have hh:=sk_h_0 (F:=prSk) 0 n (l.map encT) (hS n l T [] (List.replicate l.length (-1))) 1 T.length 2 4 (y29:=.int .i64 (l.length:Int)) (y30:=.int .i64 (l.length:Int)) (y6:=Ud) (y9:=Ud) (y10:=Ud) (y12:=Ud) (y14:=Ud) (y15:=Ud) (y38:=Ud) (y39:=Ud) (y40:=Ud) (y49:=Ud) (y50:=Ud) (y51:=Ud)
  have ii:=sk_i_0 (F:=prSk) 0 n (l.map encT) (hS n l T [] (List.replicate l.length (-1))) 1 T.length 2 4 (y29:=.int .i64 (l.length:Int)) (y30:=.int .i64 (l.length:Int)) (y6:=Ud) (y9:=Ud) (y12:=Ud) (y14:=Ud) (y15:=Ud) (y38:=Ud) (y39:=Ud) (y40:=Ud) (y49:=Ud) (y50:=Ud) (y51:=Ud)
  have hol:∀ i,(ouF l T (List.replicate l.length (-1)) (T.take i)).length=l.length:=fun i=>(ouF_len ..).trans (by simp)
  obtain ⟨x,E',H',r2,rfl,rfl,rfl⟩:=countI (pol':=plF prSk) (f:=43) (b:=sub [1,1,1,1,1,1,1,0,1,0,0] B43) (c:=sub [1,1,1,1,1,1,1,0,1,0] B43) (I:=fun i e H=>e=(env43 (encN n l) (.ptr 0 0 0 1) (.imm .lit 1 []) .nilmap (.bool false) (.sl 1 0 T.length none T.length 1) Ud (.map 2) (.ptr 4 0 0 1) Ud (.func 64 [] [.ptr 4 0 0 1]) Ud Ud Ud Ud Ud (.sl 1 0 T.length none T.length 1) (.int .i64 (T.length:Int)) (.int .i64 ((i:Nat):Int)) Ud Ud Ud)∧H=hS n l T (T.take i) (ouF l T (List.replicate l.length (-1)) (T.take i)))
    (Q:=fun x E' H'=>x=.exit 2∧E'=(env43 (encN n l) (.ptr 0 0 0 1) (.imm .lit 1 []) .nilmap (.bool false) (.sl 1 0 T.length none T.length 1) Ud (.map 2) (.ptr 4 0 0 1) Ud (.func 64 [] [.ptr 4 0 0 1]) Ud Ud Ud Ud Ud (.sl 1 0 T.length none T.length 1) (.int .i64 (T.length:Int)) (.int .i64 ((T.length:Nat):Int)) Ud Ud Ud)∧H'=hS n l T T (ouF l T (List.replicate l.length (-1)) T)) T.length
    (by
      rintro i hi e H ⟨rfl,rfl⟩
      obtain ⟨E0,H1,s,q1,q2⟩:=hout (O:=ouF l T (List.replicate l.length (-1)) (T.take i)) rfl (hol i) hi
      refine ⟨E0,H1,s,q1,?_⟩
      rw [q1]
      show gc 6 _ H1=_
      rw [q2,ouF_succ l T _ T hi])
    (by
      rintro e H ⟨rfl,rfl⟩
      rw [List.take_length]
      have s1:=sk_l_1 (F:=prSk) 0 n (l.map encT) (hS n l T T (ouF l T (List.replicate l.length (-1)) T)) 1 T.length 2 4 T.length (y6:=Ud) (y9:=Ud) (y12:=Ud) (y14:=Ud) (y15:=Ud) (y29:=Ud) (y30:=Ud) (y49:=Ud) (y50:=Ud) (y51:=Ud) (by omega)
      have s2:=sk_lf_0 (F:=prSk) 0 n (l.map encT) (hS n l T T (ouF l T (List.replicate l.length (-1)) T)) 1 T.length 2 4 T.length (y6:=Ud) (y9:=Ud) (y12:=Ud) (y14:=Ud) (y15:=Ud) (y29:=Ud) (y30:=Ud) (y49:=Ud) (y50:=Ud) (y51:=Ud)
      exact ⟨_,_,_,sq (s1) (sqo (s2) (c:=sub [1,1,1,1,1,1,1,0,1,0,0,1] B43) (b:=sub [1,1,1,1,1,1,1,0,1,0,0,1,1] B43)) (c:=sub [1,1,1,1,1,1,1,0,1,0,0] B43),by simp,rfl,rfl,rfl⟩)
    (by kernel_rfl) (by rintro i e H ⟨rfl,_⟩; kernel_rfl) (e:=(env43 (encN n l) (.ptr 0 0 0 1) (.imm .lit 1 []) .nilmap (.bool false) (.sl 1 0 T.length none T.length 1) Ud (.map 2) (.ptr 4 0 0 1) Ud (.func 64 [] [.ptr 4 0 0 1]) Ud Ud Ud Ud Ud (.sl 1 0 T.length none T.length 1) (.int .i64 (T.length:Int)) (.int .i64 ((0:Nat):Int)) Ud Ud Ud)) (H:=hS n l T [] (List.replicate l.length (-1))) ⟨rfl,rfl⟩
  have z:=sk_z_0 (F:=prSk) 0 n (l.map encT) (hS n l T T (ouF l T (List.replicate l.length (-1)) T)) 1 T.length 2 4 3 l.length (y38:=.sl 1 0 T.length none T.length 1) (y39:=.int .i64 (T.length:Int)) (y40:=.int .i64 (T.length:Int)) (y6:=Ud) (y9:=Ud) (y12:=Ud) (y14:=Ud) (y15:=Ud) (y29:=Ud) (y30:=Ud) (y49:=Ud) (y50:=Ud) (y51:=Ud) (hsl _ _ _)
  refine ⟨_,_,_,.tuple [.sl 3 0 l.length (some l.length) l.length 1,.map 2,.bool true],sq (a) (sq (b) (sq (c) (sq (d) (sq (e) (sq (sq (f) (bke (c:=sub [1,1,1,1,1,0,1] B43) (lpi (e0:=(env43 (encN n l) (.ptr 0 0 0 1) (.imm .lit 1 []) .nilmap (.bool false) (.sl 1 0 T.length none T.length 1) (.bool true) (.map 2) (.ptr 4 0 0 1) Ud Ud Ud Ud Ud (.int .i64 (l.length:Int)) (.int .i64 ((0:Nat):Int)) Ud Ud Ud Ud Ud Ud)) r1 (b:=sub [1,1,1,1,1,0,1,0,0] B43))) (c:=sub [1,1,1,1,1,0] B43)) (sq (hh) (sq (sq (ii) (bke (c:=sub [1,1,1,1,1,1,1,0,1] B43) (lpi (e0:=(env43 (encN n l) (.ptr 0 0 0 1) (.imm .lit 1 []) .nilmap (.bool false) (.sl 1 0 T.length none T.length 1) Ud (.map 2) (.ptr 4 0 0 1) Ud (.func 64 [] [.ptr 4 0 0 1]) Ud Ud Ud (.int .i64 (l.length:Int)) (.int .i64 (l.length:Int)) (.sl 1 0 T.length none T.length 1) (.int .i64 (T.length:Int)) (.int .i64 ((0:Nat):Int)) Ud Ud Ud)) r2 (b:=sub [1,1,1,1,1,1,1,0,1,0,0] B43))) (c:=sub [1,1,1,1,1,1,1,0] B43)) (z) (c:=sub [1,1,1,1,1,1,1] B43)) (c:=sub [1,1,1,1,1,1] B43)) (c:=sub [1,1,1,1,1] B43)) (c:=sub [1,1,1,1] B43)) (c:=sub [1,1,1] B43)) (c:=sub [1,1] B43)) (c:=sub [1] B43)) (c:=B43),by simp,by simp only [resultsV,res43]; rfl,?_⟩
  rw [← hTe]
  have:=hol T.length
  rw [List.take_length] at this
  exact res_slk this
end Go.Proofs.Ytiejmoglooaalaa
end
section
open Go Go.HL
namespace Go.Proofs.Ytiejmoglooaalaa
open Go.Proofs.Try renaming prog → Tp
open Go.HL.HV renaming undef → Ud
def slE (n:Int) (l:List St):Int:=if netB n l=true then (if connB n l=true then 0 else 6) else 2
def slG (n:Int) (l:List St):List Int:=if slE n l=0 then slT l else []
def slack26:List HV → Option HV:=f2 kI kS fun n l=>if l.length ≤ 500 then some (.tuple [.own 1 ((slG n l).map encI),.int .i64 (slE n l)]) else none
theorem res26:Try.f26.results.toList=[.tmp 4,.tmp 5]:=by kernel_rfl
def prSl:FuncId → Option (List HV → Option HV):=fun g=>if g == 52 then some within52 else if g == 43 then some slack43 else none
theorem soundSl (n:Nat):CallSound Tp (callN Tp (plF prSl) n):=sound_prim _ (fun g f h=>by
  unfold prSl at h
  split at h
  · rename_i hg; cases h; rw [eq_of_beq hg]; exact within_ok
  split at h
  · rename_i hg; cases h; rw [eq_of_beq hg]; exact slack_ok
  · cases h) n
theorem nwF_sl:NwF prSl:=⟨by kernel_rfl,by kernel_rfl,by kernel_rfl,by kernel_rfl,by kernel_rfl⟩
theorem nil_res1 (H:Heap) (e:Int):toRes H false (.tuple [.imm .lit 1 [],.int .i64 e])=some (.tuple [.own 1 [],.int .i64 e]):=by
  simp [toRes,ownedAll,cellsOf,owned,resVal,resCell,mapO]; rfl
theorem recv_slk (O T:List Int) (H:Heap):recv (.tuple [.own 1 (O.map encI),.omap (T.map encI) (T.map fun _=>HV.bool true),.bool true]) H=(.tuple [.sl H.length 0 O.length none O.length 1,.map (H.length+1),.bool true],H ++ [bI O] ++ [bM T]):=by
  have h:recvCell (.own 1 (O.map encI)) H=(.sl H.length 0 O.length none O.length 1,H ++ [bI O]):=by
    simp only [recvCell,encI_any,List.length_map]; rfl
  have h2:recvCell (.omap (T.map encI) (T.map fun _=>HV.bool true)) (H ++ [bI O])=(.map (H.length+1),H ++ [bI O] ++ [bM T]):=by
    simp only [recvCell,List.length_append,List.length_cons,List.length_nil]; rfl
  simp only [recv,recvVals,recvVal,h,h2]; rfl
theorem recv_sln (H:Heap):recv (.tuple [.own 1 [],.nilmap,.bool false]) H=(.tuple [.sl H.length 0 0 none 0 1,.nilmap,.bool false],H ++ [bI []]):=rfl
theorem slT_len (l:List St):(slT l).length=l.length:=(ouF_len ..).trans (by simp)
theorem slackE_ok:PrimOk Tp 26 slack26:=by
  refine primOk_pure (pol:=plF prSl) (fn:=Try.f26) (cd:=B26) follows_mixed soundSl (by kernel_rfl) (by kernel_rfl) (fnok prSl _ _ (by kernel_rfl)) (by kernel_rfl) ?_
  intro args res h
  obtain ⟨n,l,rfl,hq⟩:=f2_inv h
  split at hq
  case isFalse=>cases hq
  rename_i hl
  cases hq
  have a:=sl_a_0 (F:=prSl) 0 n (l.map encT)
  obtain ⟨N0,c39⟩:=CallsTo.from (nw_call nwF_sl (H:=[]) (Nat.le_refl _) n (l:=l) (by omega))
  cases hnet:netB n l with
  | false =>
    rw [hnet] at c39
    have b:=sl_b_1 (F:=prSl) N0 n (l.map encT) (y6:=Ud) (y7:=Ud) (y8:=Ud) c39 rfl stN
    have c:=sl_cf_0 (F:=prSl) 0 n (l.map encT) [bN n l] (y8:=Ud)
    refine ⟨_,_,_,.tuple [.imm .lit 1 [],.int .i64 2],sq (a) (sq (b) (sqo (c) (c:=sub [1,1] B26) (b:=sub [1,1,1] B26)) (c:=sub [1] B26)) (c:=B26),by simp,by simp only [resultsV,res26]; rfl,?_⟩
    have e:slE n l=2:=by rw [slE,if_neg (by rw [hnet]; simp)]
    rw [slG,e,if_neg (by decide)]; exact nil_res1 _ _
  | true =>
    rw [hnet] at c39
    have b:=sl_b_0 (F:=prSl) N0 n (l.map encT) (y6:=Ud) (y7:=Ud) (y8:=Ud) c39 rfl stN
    have c:=sl_ct_0 (F:=prSl) 0 n (l.map encT) [bN n l] (y8:=Ud)
    have c43:=at1 (pol':=plF prSl) (g:=43) (c1:=kN) (f:=fun p=>if netB p.1 p.2=true then some (if connB p.1 p.2=true then .tuple [.own 1 ((slT p.2).map encI),.omap ((treeT p.2).map encI) ((treeT p.2).map fun _=>HV.bool true),.bool true] else .tuple [.own 1 [],.nilmap,.bool false]) else none) (H:=[bN n l]) (by kernel_rfl) (ShN _ n l) (if_pos hnet)
    simp only at c43
    by_cases cn:connB n l=true
    · rw [if_pos cn,recv_slk] at c43
      have d:=sl_d_0 (F:=prSl) 0 n (l.map encT) [bN n l] 1 (slT l).length 2 (y8:=Ud) (ld66 rfl) c43
      have e:=sl_et_0 (F:=prSl) 0 n (l.map encT) ([bN n l] ++ [bI (slT l)] ++ [bM (treeT l)]) 1 (slT l).length
      refine ⟨_,_,_,.tuple [.sl 1 0 (slT l).length none (slT l).length 1,.int .i64 0],sq (a) (sq (b) (sq (c) (sq (d) (e) (c:=sub [1,1,1] B26)) (c:=sub [1,1] B26)) (c:=sub [1] B26)) (c:=B26),by simp,by simp only [resultsV,res26]; rfl,?_⟩
      have ee:slE n l=0:=by rw [slE,if_pos hnet,if_pos cn]
      rw [slG,ee,if_pos rfl]
      exact res_li1 (b:=1) rfl rfl _
    · rw [if_neg cn,recv_sln] at c43
      have d:=sl_d_1 (F:=prSl) 0 n (l.map encT) [bN n l] 1 0 0 (y8:=Ud) (ld66 rfl) c43
      have e:=sl_ef_0 (F:=prSl) 0 n (l.map encT) ([bN n l] ++ [bI []]) 1 0
      refine ⟨_,_,_,.tuple [.imm .lit 1 [],.int .i64 6],sq (a) (sq (b) (sq (c) (sq (d) (e) (c:=sub [1,1,1] B26)) (c:=sub [1,1] B26)) (c:=sub [1] B26)) (c:=B26),by simp,by simp only [resultsV,res26]; rfl,?_⟩
      have ee:slE n l=6:=by rw [slE,if_pos hnet,if_neg cn]
      rw [slG,ee,if_neg (by decide)]; exact nil_res1 _ _
end Go.Proofs.Ytiejmoglooaalaa
end
section
open Go Go.HL
namespace Go.Proofs.Ytiejmoglooaalaa
set_option linter.unusedSectionVars false
theorem Tr.perm {n:Int} {l:List St} (hnet:netB n l=true) {t s:List Int} (h:Tr n l t) (hs:s.Nodup) (hm:∀ x,x ∈ t ↔ x ∈ s):Tr n l s:=by
  have hl:=nodup_len h.nd hs hm
  refine ⟨fun k hk=>h.rg k ((hm k).2 hk),hs,by have:=h.ln; omega,?_⟩
  rw [← tk_len_same (endB_net hnet) h.rg hm,h.fo,hl]
end Go.Proofs.Ytiejmoglooaalaa
end
section
open Go Go.HL
namespace Go.Proofs.Ytiejmoglooaalaa
open Go.Proofs.Try renaming prog → Tp
open Go.HL.HV renaming undef → Ud
def trG (n:Int) (l:List St):List Int:=if slE n l=0 then frT l else []
def trW (n:Int) (l:List St):Int:=if slE n l=0 then wgt l (frT l) else 0
def tree14:List HV → Option HV:=f2 kI kS fun n l=>if l.length ≤ 500∧n ≤ 13 then some (.tuple [.own 1 ((trG n l).map encI),.int .i64 (trW n l),.int .i64 (slE n l)]) else none
theorem res14:Try.f14.results.toList=[.tmp 4,.tmp 5,.tmp 6]:=by kernel_rfl
def prTe:FuncId → Option (List HV → Option HV):=fun g=>if g == 52 then some within52 else if g == 40 then some tree40 else if g == 42 then some weight42 else if g == 81 then some less81 else if g == 63 then some len82 else none
theorem soundTe (n:Nat):CallSound Tp (callN Tp (plF prTe) n):=sound_prim _ (fun g f h=>by
  unfold prTe at h
  split at h
  · rename_i hg; cases h; rw [eq_of_beq hg]; exact within_ok
  split at h
  · rename_i hg; cases h; rw [eq_of_beq hg]; exact tree_ok
  split at h
  · rename_i hg; cases h; rw [eq_of_beq hg]; exact weight_ok
  split at h
  · rename_i hg; cases h; rw [eq_of_beq hg]; exact less_ok
  split at h
  · rename_i hg; cases h; rw [eq_of_beq hg]; exact len68_ok
  · cases h) n
theorem nwF_te:NwF prTe:=⟨by kernel_rfl,by kernel_rfl,by kernel_rfl,by kernel_rfl,by kernel_rfl⟩
theorem stF_te:StF prTe:=⟨by kernel_rfl,by kernel_rfl,by kernel_rfl,by kernel_rfl,by kernel_rfl⟩
theorem nil_res3 (H:Heap) (w e:Int):toRes H false (.tuple [.imm .lit 1 [],.int .i64 w,.int .i64 e])=some (.tuple [.own 1 [],.int .i64 w,.int .i64 e]):=by
  simp [toRes,ownedAll,cellsOf,owned,resVal,resCell,mapO]; rfl
theorem treeE_ok:PrimOk Tp 14 tree14:=by
  refine primOk_pure (pol:=plF prTe) (fn:=Try.f14) (cd:=B14) follows_mixed soundTe (by kernel_rfl) (by kernel_rfl) (fnok prTe _ _ (by kernel_rfl)) (by kernel_rfl) ?_
  intro args res h
  obtain ⟨n,l,rfl,hq⟩:=f2_inv h
  split at hq
  case isFalse=>cases hq
  rename_i hl
  obtain ⟨hl,hn⟩:=hl
  cases hq
  have a:=te_a_0 (F:=prTe) 0 n (l.map encT)
  obtain ⟨N0,c39⟩:=CallsTo.from (nw_call nwF_te (H:=[]) (Nat.le_refl _) n (l:=l) (by omega))
  cases hnet:netB n l with
  | false =>
    rw [hnet] at c39
    have b:=te_b_1 (F:=prTe) N0 n (l.map encT) (y7:=Ud) (y8:=Ud) (y9:=Ud) c39 rfl stN
    have c:=te_cf_0 (F:=prTe) 0 n (l.map encT) [bN n l] (y9:=Ud)
    refine ⟨_,_,_,.tuple [.imm .lit 1 [],.int .i64 0,.int .i64 2],sq (a) (sq (b) (sqo (c) (c:=sub [1,1] B14) (b:=sub [1,1,1] B14)) (c:=sub [1] B14)) (c:=B14),by simp,by simp only [resultsV,res14]; rfl,?_⟩
    have e:slE n l=2:=by rw [slE,if_neg (by rw [hnet]; simp)]
    rw [trG,trW,e,if_neg (by decide),if_neg (by decide)]; exact nil_res3 _ _ _
  | true =>
    rw [hnet] at c39
    obtain ⟨⟨n1,n2⟩,n3,he,hw⟩:=netB_ends hnet
    have heB:=endN_B he (by omega)
    have hwB:wB l=true:=wB_iff.2 fun s hs=>by have:=hw s hs; omega
    have b:=te_b_0 (F:=prTe) N0 n (l.map encT) (y7:=Ud) (y8:=Ud) (y9:=Ud) c39 rfl stN
    have c:=te_ct_0 (F:=prTe) 0 n (l.map encT) [bN n l] (y9:=Ud)
    have c40:=at1 (pol':=plF prTe) (g:=40) (c1:=kN) (f:=fun p=>if netOk p.1 p.2 then some (.tuple [.own 1 ((treeT p.2).map encI),.bool (connB p.1 p.2)]) else none) (H:=[bN n l]) (by kernel_rfl) (ShN _ n l) (if_pos ⟨heB,by show l.length ≤ 900; omega,by show 0 ≤ n; omega,by show n ≤ 1000; omega⟩)
    rw [recv_tb] at c40
    simp only at c40
    by_cases cn:connB n l=true
    · rw [cn] at c40
      have d:=te_d_0 (F:=prTe) 0 n (l.map encT) [bN n l] 1 (treeT l).length (y9:=Ud) (ld66 rfl) c40
      have e:=te_et_0 (F:=prTe) 0 n (l.map encT) ([bN n l] ++ [bI (treeT l)]) 1 (treeT l).length
      have hlen:=tree_len hnet cn
      obtain ⟨l',cs,hp,hs⟩:=sort_call stF_te (H:=[bN n l] ++ [bI (treeT l)]) (db:=1) (l:=treeT l) rfl (by omega)
      have e1:l'=frT l:=asc_ext (sort_asc (tree_nodup' l) hp hs) (frT_asc l) fun x=>by rw [hp.mem_iff]; exact frT_mem.symm
      subst e1
      obtain ⟨N1,c41⟩:=CallsTo.from cs
      have hfl:(frT l).length=(treeT l).length:=fr_len l
      have c42:=at2 (pol':=plF prTe) (g:=42) (c1:=kN) (c2:=kL) (f:=fun p t=>if inR p.2.length t=true∧wB p.2=true∧t.length ≤ 1000 then some (.int .i64 (wgt p.2 t)) else none) (H:=[bN n l,bI (frT l)]) (v2:=.sl 1 0 (treeT l).length none (treeT l).length 1) (by kernel_rfl) (ShN _ n l) (ShL_sl (l:=frT l) hfl rfl) (if_pos ⟨inR_iff.2 fun k hk=>tree_in (frT_mem.1 hk),hwB,by show (frT l).length ≤ 1000; omega⟩)
      have z:=te_z_0 (F:=prTe) N1 n (l.map encT) ([bN n l] ++ [bI (treeT l)]) 1 (treeT l).length (wgt l (frT l)) c41 (ld66 rfl) c42
      refine ⟨_,_,_,.tuple [.sl 1 0 (treeT l).length none (treeT l).length 1,.int .i64 (wgt l (frT l)),.int .i64 0],sq (a) (sq (b) (sq (c) (sq (d) (sq (e) (z) (c:=sub [1,1,1,1] B14)) (c:=sub [1,1,1] B14)) (c:=sub [1,1] B14)) (c:=sub [1] B14)) (c:=B14),by simp,by simp only [resultsV,res14]; rfl,?_⟩
      have ee:slE n l=0:=by rw [slE,if_pos hnet,if_pos cn]
      rw [trG,trW,ee,if_pos rfl,if_pos rfl]
      exact res_lii (b:=1) rfl hfl _ _
    · rw [nb_false cn] at c40
      have d:=te_d_1 (F:=prTe) 0 n (l.map encT) [bN n l] 1 (treeT l).length (y9:=Ud) (ld66 rfl) c40
      have e:=te_ef_0 (F:=prTe) 0 n (l.map encT) ([bN n l] ++ [bI (treeT l)]) 1 (treeT l).length
      refine ⟨_,_,_,.tuple [.imm .lit 1 [],.int .i64 0,.int .i64 6],sq (a) (sq (b) (sq (c) (sq (d) (sqo (e) (c:=sub [1,1,1,1] B14) (b:=sub [1,1,1,1,1] B14)) (c:=sub [1,1,1] B14)) (c:=sub [1,1] B14)) (c:=sub [1] B14)) (c:=B14),by simp,by simp only [resultsV,res14]; rfl,?_⟩
      have ee:slE n l=6:=by rw [slE,if_pos hnet,if_neg cn]
      rw [trG,trW,ee,if_neg (by decide),if_neg (by decide)]; exact nil_res3 _ _ _
end Go.Proofs.Ytiejmoglooaalaa
end
section
open Go Go.HL
namespace Go.Proofs.Ytiejmoglooaalaa
open Go.Proofs.Try renaming prog → Tp
open Go.HL.HV renaming undef → Ud
def prAw:FuncId → Option (List HV → Option HV):=fun g=>if g == 21 then some ints21 else if g == 52 then some within52 else if g == 54 then some ordered54 else if g == 40 then some tree40 else if g == 71 then some cmp71 else if g == 70 then some fst70 else none
theorem soundAw (n:Nat):CallSound Tp (callN Tp (plF prAw) n):=sound_prim _ (fun g f h=>by
  unfold prAw at h
  split at h
  · rename_i hg; cases h; rw [eq_of_beq hg]; exact ints_ok
  split at h
  · rename_i hg; cases h; rw [eq_of_beq hg]; exact within_ok
  split at h
  · rename_i hg; cases h; rw [eq_of_beq hg]; exact ordered_ok
  split at h
  · rename_i hg; cases h; rw [eq_of_beq hg]; exact tree_ok
  split at h
  · rename_i hg; cases h; rw [eq_of_beq hg]; exact cmp_ok
  split at h
  · rename_i hg; cases h; rw [eq_of_beq hg]; exact fst_ok
  · cases h) n
set_option maxRecDepth 100000 in
theorem awake_run:callN Tp (plF prAw) 400 18 [] []=some (.bool true,[]):=by kernel_rfl
end Go.Proofs.Ytiejmoglooaalaa
end
section
open Go Go.HL
namespace Go.Proofs.Ytiejmoglooaalaa
open Go.Proofs.Try renaming prog → Tp
open Go.HL.HV renaming undef → Ud
def awakeF:List HV → Option HV | []=>some (.bool true) | _=>none
theorem awake_prim:PrimOk Tp 18 awakeF:=by
  refine primOk_of (pol:=plF prAw) soundAw (by kernel_rfl) fun args res h=>?_
  match args,h with
  | [],h =>
    cases h
    exact ⟨400,_,_,false,awake_run,rfl⟩
theorem recv_lii (l:List Int) (m e:Int) (H:Heap):recv (.tuple [.own 1 (l.map encI),.int .i64 m,.int .i64 e]) H=(.tuple [.sl H.length 0 l.length none l.length 1,.int .i64 m,.int .i64 e],H ++ [bI l]):=by
  have h:recvCell (.own 1 (l.map encI)) H=(.sl H.length 0 l.length none l.length 1,H ++ [bI l]):=by
    simp only [recvCell,encI_any,List.length_map]; rfl
  simp only [recv,recvVals,recvVal,h]; rfl
theorem recv_li1 (l:List Int) (m:Int) (H:Heap):recv (.tuple [.own 1 (l.map encI),.int .i64 m]) H=(.tuple [.sl H.length 0 l.length none l.length 1,.int .i64 m],H ++ [bI l]):=by
  have h:recvCell (.own 1 (l.map encI)) H=(.sl H.length 0 l.length none l.length 1,H ++ [bI l]):=by
    simp only [recvCell,encI_any,List.length_map]; rfl
  simp only [recv,recvVals,recvVal,h]; rfl
end Go.Proofs.Ytiejmoglooaalaa
end
section
open Go Go.HL
namespace Go.Proofs.Ytiejmoglooaalaa
set_option linter.unusedSectionVars false
open Go.Proofs.Try renaming prog → Tp
open Go.HL.HV renaming undef → Ud
def prL9:FuncId → Option (List HV → Option HV):=fun g=>if g == 18 then some awakeF else if g == 24 then some mod24 else if g == 25 then some tame25 else if g == 13 then some net13 else if g == 14 then some tree14 else if g == 26 then some slack26 else if g == 33 then some groups33 else if g == 20 then some first20 else if g == 21 then some ints21 else none
abbrev polL9:Pol:=plO prL9
theorem fnOk_L9 (g:FuncId) (fn:Func):fnOk polL9 g fn=fnOk pol g fn:=rfl
theorem primL9 (g:FuncId) (f:List HV → Option HV) (h:prL9 g=some f):PrimOk Tp g f:=by
  unfold prL9 at h
  split at h
  · rename_i hg; cases h; rw [eq_of_beq hg]; exact awake_prim
  split at h
  · rename_i hg; cases h; rw [eq_of_beq hg]; exact mod_ok
  split at h
  · rename_i hg; cases h; rw [eq_of_beq hg]; exact tame_ok
  split at h
  · rename_i hg; cases h; rw [eq_of_beq hg]; exact net_ok
  split at h
  · rename_i hg; cases h; rw [eq_of_beq hg]; exact treeE_ok
  split at h
  · rename_i hg; cases h; rw [eq_of_beq hg]; exact slackE_ok
  split at h
  · rename_i hg; cases h; rw [eq_of_beq hg]; exact groups_ok
  split at h
  · rename_i hg; cases h; rw [eq_of_beq hg]; exact first_ok
  split at h
  · rename_i hg; cases h; rw [eq_of_beq hg]; exact ints_ok
  · cases h
theorem soundL9 (n:Nat):CallSound Tp (callN Tp polL9 n) :=
  callN_ok follows_mixed (fun g fn h=>by
    rw [fnOk_L9]
    exact List.all_eq_true.1 fns_ok (fn,g) (by
      rw [List.mem_zipIdx_iff_getElem?]
      simpa using h)) primL9 n
theorem res9:Try.f9.results.toList=[.tmp 4]:=by kernel_rfl
theorem u57o:Tp.underlying 57=some (.slice 24):=by kernel_rfl
theorem z24s:tySize Tp 24=some 1:=by kernel_rfl
theorem lit3 (a b c:Nat) (H:Heap) (h:H.length=5):litV Tp false true 57 3 [(0,.sl 2 0 a none a 1),(1,.sl 3 0 b none b 1),(2,.sl 4 0 c none c 1)] H=some (.sl 5 0 3 (some 3) 3 1,H ++ [.arr 1 [.sl 2 0 a none a 1,.sl 3 0 b none b 1,.sl 4 0 c none c 1] true 5]):=by
  have:litV Tp false true 57 3 [(0,.sl 2 0 a none a 1),(1,.sl 3 0 b none b 1),(2,.sl 4 0 c none c 1)] H=some (.sl H.length 0 3 (some 3) 3 1,H ++ [.arr 1 [.sl 2 0 a none a 1,.sl 3 0 b none b 1,.sl 4 0 c none c 1] true 5]):=by kernel_rfl
  rw [this,h]
abbrev rowZ (Z:Nat → Nat) (i:Nat):HV:=.sl (2+i) 0 (Z i) none (Z i) 1
structure OwnH (Z:Nat → Nat) (P:Heap) (H:Heap):Prop where
  len:H.length=6
  low:∀ k,k < 2 → H[k]?=P[k]?
  all:H[5]?=some (.arr 1 [rowZ Z 0,rowZ Z 1,rowZ Z 2] true 5)
  row:∀ i,i < 3 → ∃ x:List Int,x.length=Z i∧H[2+i]?=some (bI x)
theorem ix3 {i:Nat} (hi:i < 3):idxV Tp 57 (.sl 5 0 3 (some 3) 3 1) (.int .i64 (i:Int))=some (.ptr 5 i 0 3):=by
  have:=idx_sl (P:=Tp) (t:=57) (b:=5) (len:=3) (tot:=3) (cap:=some 3) (ik:=.i64) (n:=(i:Int)) u57o z24s (by omega) (by omega)
  rwa [Int.toNat_natCast] at this
theorem OwnH.ld {Z:Nat → Nat} {P H:Heap} (h:OwnH Z P H) {i:Nat} (hi:i < 3):loadV Tp H 24 (.ptr 5 i 0 3)=some (rowZ Z i):=by
  refine load_elem (b:=5) h.all rfl ?_ rfl a24 i24
  match i,hi with
  | 0,_=>rfl
  | 1,_=>rfl
  | 2,_=>rfl
theorem own_in {n:Int} {ls:List HV} {q:Nat} {Z:Nat → Nat} {P:Heap} {i:Nat} (hi:i < 3) (hZ:Z i ≤ 1000):∀ k j (H:Heap),j+k=Z i → OwnH Z P H →
    ∃ H' y17,RT polL9 9 (sub [1,1,1,1,1,1,1,1,0,1,0,0,1,0,0,1,0] B9) ((env9 (.int .i64 n) (.imm .arg 3 ls) (.bool false) (.sl 0 0 q none q 3) (.sl 1 0 q none q 3) Ud (.int .i64 0) Ud (.int .i64 0) Ud (.int .i64 0) (.sl 5 0 3 (some 3) 3 1) (.int .i64 (i:Int)) (.int .i64 (j:Int)) Ud Ud Ud Ud)) H (.exit 2) ((env9 (.int .i64 n) (.imm .arg 3 ls) (.bool false) (.sl 0 0 q none q 3) (.sl 1 0 q none q 3) Ud (.int .i64 0) Ud (.int .i64 0) Ud (.int .i64 0) (.sl 5 0 3 (some 3) 3 1) (.int .i64 (i:Int)) y17 Ud Ud Ud Ud)) H'∧OwnH Z P H':=by
  intro k
  induction k with
  | zero =>
    intro j H hj hH
    have s:=ow_n_1 (F:=prL9) n ls H q i j (2+i) (Z i) (y7:=Ud) (y10:=Ud) (y12:=Ud) (y18:=Ud) (y20:=Ud) (y21:=Ud) (y23:=Ud) (ix3 hi) (hH.ld hi) (by omega)
    exact ⟨H,_,lpo (s),hH⟩
  | succ k ih =>
    intro j H hj hH
    obtain ⟨x,hx,hb⟩:=hH.row i hi
    have hst:=store_out hb (y:=j) (by omega) (-7)
    rw [hx] at hst
    have s:=ow_n_0 (F:=prL9) n ls H q i j (2+i) (Z i) (y7:=Ud) (y10:=Ud) (y12:=Ud) (y18:=Ud) (y20:=Ud) (y21:=Ud) (y23:=Ud) (ix3 hi) (hH.ld hi) (by omega) (ix3 hi) (hH.ld hi) (idxS u24 z3 (by omega)) hst
    rw [wrap_succ (by omega)] at s
    have hH2:OwnH Z P (H.set (2+i) (bI (x.set j (-7)))):=by
      refine ⟨by simp [hH.len],fun k hk=>?_,?_,fun i' hi'=>?_⟩
      · rw [List.getElem?_set_ne (by omega)]; exact hH.low k hk
      · rw [List.getElem?_set_ne (by omega)]; exact hH.all
      · by_cases e:i=i'
        · subst e
          exact ⟨x.set j (-7),by simp [hx],List.getElem?_set_self (by rw [hH.len]; omega)⟩
        · rw [List.getElem?_set_ne (by omega)]; exact hH.row i' hi'
    obtain ⟨H',y17,r,hr⟩:=ih (j+1) _ (by omega) hH2
    exact ⟨H',y17,lop (s) (gc_eq _ (by simp)) (r),hr⟩
theorem own_out {n:Int} {ls:List HV} {q:Nat} {Z:Nat → Nat} {P:Heap} (hZ:∀ i,i < 3 → Z i ≤ 1000):∀ (k i:Nat) (H:Heap),i+k=3 → OwnH Z P H →
    ∃ H' y16 y17,RT polL9 9 (sub [1,1,1,1,1,1,1,1,0,1,0] B9) ((env9 (.int .i64 n) (.imm .arg 3 ls) (.bool false) (.sl 0 0 q none q 3) (.sl 1 0 q none q 3) Ud (.int .i64 0) Ud (.int .i64 0) Ud (.int .i64 0) (.sl 5 0 3 (some 3) 3 1) (.int .i64 (i:Int)) Ud Ud Ud Ud Ud)) H (.exit 0) ((env9 (.int .i64 n) (.imm .arg 3 ls) (.bool false) (.sl 0 0 q none q 3) (.sl 1 0 q none q 3) Ud (.int .i64 0) Ud (.int .i64 0) Ud (.int .i64 0) (.sl 5 0 3 (some 3) 3 1) y16 y17 Ud Ud Ud Ud)) H'∧OwnH Z P H':=by
  intro k
  induction k with
  | zero =>
    intro i H hi hH
    have s:=ow_l_1 (F:=prL9) n ls H q i (y7:=Ud) (y10:=Ud) (y12:=Ud) (y17:=Ud) (y18:=Ud) (y20:=Ud) (y21:=Ud) (y23:=Ud) (by omega)
    exact ⟨H,_,_,lpo (sqo (s) (c:=sub [1,1,1,1,1,1,1,1,0,1,0,0] B9) (b:=sub [1,1,1,1,1,1,1,1,0,1,0,0,1] B9)),hH⟩
  | succ k ih =>
    intro i H hi hH
    have s1:=ow_l_0 (F:=prL9) n ls H q i (y7:=Ud) (y10:=Ud) (y12:=Ud) (y17:=Ud) (y18:=Ud) (y20:=Ud) (y21:=Ud) (y23:=Ud) (by omega)
    have s2:=ow_m_0 (F:=prL9) n ls H q i (y7:=Ud) (y10:=Ud) (y12:=Ud) (y17:=Ud) (y18:=Ud) (y20:=Ud) (y21:=Ud) (y23:=Ud)
    obtain ⟨H1,z17,r0,hH1⟩:=own_in (n:=n) (ls:=ls) (q:=q) (i:=i) (by omega) (hZ i (by omega)) (Z i) 0 H (by omega) hH
    have s3:=ow_o_0 (F:=prL9) n ls H1 q i (y17:=z17) (y7:=Ud) (y10:=Ud) (y12:=Ud) (y18:=Ud) (y20:=Ud) (y21:=Ud) (y23:=Ud)
    rw [wrap_succ (by omega)] at s3
    obtain ⟨H',y16,y17,r,hr⟩:=ih (i+1) H1 (by omega) hH1
    have st:=sq (s1) (sq (RunsTo.block_normal (i:=1) (c:=sub [1,1,1,1,1,1,1,1,0,1,0,0,1,0] B9) (sq (s2) (bke (c:=sub [1,1,1,1,1,1,1,1,0,1,0,0,1,0,0,1] B9) (lpi (e0:=(env9 (.int .i64 n) (.imm .arg 3 ls) (.bool false) (.sl 0 0 q none q 3) (.sl 1 0 q none q 3) Ud (.int .i64 0) Ud (.int .i64 0) Ud (.int .i64 0) (.sl 5 0 3 (some 3) 3 1) (.int .i64 (i:Int)) (.int .i64 ((0:Nat):Int)) Ud Ud Ud Ud)) r0 (b:=sub [1,1,1,1,1,1,1,1,0,1,0,0,1,0,0,1,0,0] B9))) (c:=sub [1,1,1,1,1,1,1,1,0,1,0,0,1,0,0] B9)) (by kernel_rfl)) (s3) (c:=sub [1,1,1,1,1,1,1,1,0,1,0,0,1] B9)) (c:=sub [1,1,1,1,1,1,1,1,0,1,0,0] B9)
    exact ⟨H',y16,y17,lop (st) (gc_eq _ (by rw [hH1.len,hH.len])) (r),hr⟩
theorem neq_st (s:St):binV Tp .neq 42 (encT s) (encT s)=some (.bool false):=by
  obtain ⟨A,D,W⟩:=s
  have h1:plainCells Tp 42 [HV.int IntKind.i64 A,HV.int IntKind.i64 D,HV.int IntKind.i64 W]=true:=by kernel_rfl
  simp [encT,binV,aggEq,scEq,cellsOf,h1,a42]
theorem own_rows {n:Int} {ls:List HV} {own:List St} {H:Heap} (h0:H[0]?=some (bS own)) (h1:H[1]?=some (bS own)) (hol:own.length ≤ 100) :
    RT polL9 9 (sub [1,1,1,1,1,1,1,1,1,1,1,1,0,1,0] B9) ((env9 (.int .i64 n) (.imm .arg 3 ls) (.bool false) (.sl 0 0 own.length none own.length 3) (.sl 1 0 own.length none own.length 3) Ud Ud Ud Ud Ud Ud Ud Ud Ud Ud Ud Ud (.int .i64 ((0:Nat):Int)))) H (.exit 4) ((env9 (.int .i64 n) (.imm .arg 3 ls) (.bool false) (.sl 0 0 own.length none own.length 3) (.sl 1 0 own.length none own.length 3) Ud Ud Ud Ud Ud Ud Ud Ud Ud Ud Ud Ud (.int .i64 (own.length:Int)))) H :=
  count (pol':=polL9) (f:=9) (E:=fun i=>(env9 (.int .i64 n) (.imm .arg 3 ls) (.bool false) (.sl 0 0 own.length none own.length 3) (.sl 1 0 own.length none own.length 3) Ud Ud Ud Ud Ud Ud Ud Ud Ud Ud Ud Ud (.int .i64 (i:Int)))) (Hs:=fun _=>H) own.length (fun i hi=>by
    have ix:∀ b,idxV Tp 22 (.sl b 0 own.length none own.length 3) (.int .i64 (i:Int))=some (.ptr b i 0 own.length):=fun b=>by
      have:=idx_sl (P:=Tp) (t:=22) (e:=42) (k:=3) (b:=b) (len:=own.length) (tot:=own.length) (cap:=none) (ik:=.i64) (n:=(i:Int)) u22 z42 (by omega) (by omega)
      rwa [Int.toNat_natCast] at this
    have ld:∀ b,H[b]?=some (bS own) → loadV Tp H 42 (.ptr b i 0 own.length)=some (encT (own.getD i (0,0,0))):=fun b h =>
      load_agg (P:=Tp) (b:=b) (els:=own.map encT) (cs:=[.int .i64 (own.getD i (0,0,0)).1,.int .i64 (own.getD i (0,0,0)).2.1,.int .i64 (own.getD i (0,0,0)).2.2]) h (by simp) (by rw [getD_at hi]; simp [hi,encT]) a42 z42
    have s:=ox_s_1 (F:=prL9) n ls H own.length i _ _ _ (y7:=Ud) (y9:=Ud) (y10:=Ud) (y11:=Ud) (y12:=Ud) (y14:=Ud) (y15:=Ud) (y16:=Ud) (y17:=Ud) (y18:=Ud) (y20:=Ud) (y21:=Ud) (by omega) (ix 0) (ld 0 h0) (ix 1) (ld 1 h1) (neq_st _)
    rw [wrap_succ (by omega)] at s
    exact s) (fun i _=>by kernel_rfl) (fun i _=>gc_eq _ rfl) (ox_s_2 (F:=prL9) n ls H own.length own.length 0 0 0 (y7:=Ud) (y9:=Ud) (y10:=Ud) (y11:=Ud) (y12:=Ud) (y14:=Ud) (y15:=Ud) (y16:=Ud) (y17:=Ud) (y18:=Ud) (y20:=Ud) (y21:=Ud) (by omega)) (by simp) (c:=sub [1,1,1,1,1,1,1,1,1,1,1,1,0,1,0] B9) (by kernel_rfl) (fun i _=>by kernel_rfl)
theorem streetsOwn_law (n:Int) (l:List St):∃ E H,RT polL9 9 B9 (args0 [.int .i64 n,.imm .arg 3 (l.map encT)]) [] .ret E H∧E.get 4=.bool true:=by
  have a:=ow_a_0 (F:=prL9) n (l.map encT)
  have hp:=modW_rng n (n:=12) (by omega) (by omega)
  have c24:=at2 (pol':=polL9) (g:=24) (c1:=kI) (c2:=kI) (f:=fun a n=>if 0 < n∧n < 9223372036854775808 then some (.int .i64 (modW a n)) else none) (H:=[]) (by kernel_rfl) (ShI _ n) (ShI _ 12) (if_pos (by omega))
  have b:=ow_b_0 (F:=prL9) n (l.map encT) [] (modW n 12) (y5:=Ud) (y6:=Ud) (y7:=Ud) (y9:=Ud) (y10:=Ud) (y11:=Ud) (y12:=Ud) (y14:=Ud) (y15:=Ud) (y16:=Ud) (y17:=Ud) (y18:=Ud) (y20:=Ud) (y21:=Ud) (y23:=Ud) c24
  have hw:IntKind.i64.wrap (2+modW n 12)=2+modW n 12:=wrap_id (by omega) (by omega)
  rw [hw] at b
  generalize hm:2+modW n 12=m at *
  have hm1:2 ≤ m∧m ≤ 13:=by omega
  have c25:=at3 (pol':=polL9) (g:=25) (c1:=kS) (c2:=kI) (c3:=kI) (f:=fun l n most=>if (1 ≤ n∧n ≤ 100)∧0 ≤ most∧most ≤ 100 then some (.own 3 ((tamT n l most).map encT)) else none) (H:=[]) (by kernel_rfl) (ShS_imm _ l) (ShI _ m) (ShI _ 30) (if_pos ⟨by omega,by omega,by omega⟩)
  rw [recv_sts] at c25
  have hnet:=tam_net (n:=m) (by omega) l (most:=30) (by omega)
  have hc:=tam_conn (n:=m) (by omega) l (most:=30) (by omega)
  have hol:=tam_len m l 30
  generalize tamT m l 30=own at *
  have hol:own.length ≤ 42:=by omega
  obtain ⟨⟨w1,w2⟩,w3,he,hw'⟩:=netB_ends hnet
  have ee:slE m own=0:=by rw [slE,if_pos hnet,if_pos hc]
  have c:=ow_c_0 (F:=prL9) m (l.map encT) [] own.length (y5:=Ud) (y6:=Ud) (y7:=Ud) (y9:=Ud) (y10:=Ud) (y11:=Ud) (y12:=Ud) (y14:=Ud) (y15:=Ud) (y16:=Ud) (y17:=Ud) (y18:=Ud) (y20:=Ud) (y21:=Ud) (y23:=Ud) c25
  have sS:∀ X:Heap,Sh kS ([bS own] ++ X) (.sl 0 0 own.length none own.length 3) own:=fun X=>ShS_sl rfl rfl
  have c13:=at1 (pol':=polL9) (g:=13) (c1:=kS) (f:=fun l=>some (.own 3 ((l.take 61).map encT))) (H:=[bS own]) (by kernel_rfl) (sS []) rfl
  rw [List.take_of_length_le (by omega),recv_sts] at c13
  have d:=ow_d_0 (F:=prL9) m (l.map encT) [bS own] own.length (y6:=Ud) (y7:=Ud) (y9:=Ud) (y10:=Ud) (y11:=Ud) (y12:=Ud) (y14:=Ud) (y15:=Ud) (y16:=Ud) (y17:=Ud) (y18:=Ud) (y20:=Ud) (y21:=Ud) (y23:=Ud) c13
  have tr:∀ H,Sh kS H (.sl 0 0 own.length none own.length 3) own → ∀ k,callN Tp polL9 (k+1) 14 [.int .i64 m,.sl 0 0 own.length none own.length 3] H=some (.tuple [.sl H.length 0 (frT own).length none (frT own).length 1,.int .i64 (wgt own (frT own)),.int .i64 0],H ++ [bI (frT own)]):=fun H hS k=>by
    have c14:=at2 (pol':=polL9) (g:=14) (c1:=kI) (c2:=kS) (f:=fun n l=>if l.length ≤ 500∧n ≤ 13 then some (.tuple [.own 1 ((trG n l).map encI),.int .i64 (trW n l),.int .i64 (slE n l)]) else none) (H:=H) (by kernel_rfl) (ShI _ m) hS (if_pos ⟨by omega,by omega⟩)
    rw [recv_lii,trG,trW,ee,if_pos rfl,if_pos rfl] at c14
    exact c14 k
  have e:=ow_e_0 (F:=prL9) m (l.map encT) [bS own,bS own] own.length (frT own).length 0 0 (wgt own (frT own)) (y7:=Ud) (y9:=Ud) (y10:=Ud) (y11:=Ud) (y12:=Ud) (y14:=Ud) (y15:=Ud) (y16:=Ud) (y17:=Ud) (y18:=Ud) (y20:=Ud) (y21:=Ud) (y23:=Ud) (tr [bS own,bS own] (sS _))
  have c26:=at2 (pol':=polL9) (g:=26) (c1:=kI) (c2:=kS) (f:=fun n l=>if l.length ≤ 500 then some (.tuple [.own 1 ((slG n l).map encI),.int .i64 (slE n l)]) else none) (H:=[bS own,bS own] ++ [bI (frT own)]) (by kernel_rfl) (ShI _ m) (sS _) (if_pos (by omega))
  rw [recv_li1,slG,ee,if_pos rfl] at c26
  have f:=ow_f_0 (F:=prL9) m (l.map encT) ([bS own,bS own] ++ [bI (frT own)]) own.length (frT own).length (slT own).length 0 (y10:=Ud) (y11:=Ud) (y12:=Ud) (y14:=Ud) (y15:=Ud) (y16:=Ud) (y17:=Ud) (y18:=Ud) (y20:=Ud) (y21:=Ud) (y23:=Ud) c26
  have hE:gpE m own 2=0:=by rw [gpE,if_pos ⟨hnet,by omega,by omega⟩,if_pos hc]
  have c33:=at3 (pol':=polL9) (g:=33) (c1:=kI) (c2:=kS) (c3:=kI) (f:=fun n l kk=>if l.length ≤ 500 then some (gpO n l kk) else none) (H:=[bS own,bS own] ++ [bI (frT own)] ++ [bI (slT own)]) (by kernel_rfl) (ShI _ m) (sS _) (ShI _ 2) (if_pos (by omega))
  rw [gpO_ok hE,recv_lii] at c33
  have hgl:(gpT m own 2).length ≤ 16:=by
    have:=grpT_len (n:=m.toNat) (by omega) (endB_net hnet) (t:=(treeT own).take (m - 2).toNat) (fun x hx=>tree_in (List.mem_of_mem_take hx))
    rw [gpT]; omega
  have hsl:(slT own).length ≤ 60:=by rw [slT_len]; omega
  have hfl:(frT own).length ≤ 60:=by have:=frT_le own; omega
  generalize gpT m own 2=G at *
  generalize slT own=S at *
  have g:=ow_g_0 (F:=prL9) m (l.map encT) ([bS own,bS own] ++ [bI (frT own)] ++ [bI S]) own.length (frT own).length S.length G.length (mnT G own) (y12:=Ud) (y14:=Ud) (y15:=Ud) (y16:=Ud) (y17:=Ud) (y18:=Ud) (y20:=Ud) (y21:=Ud) (y23:=Ud) c33
  have h:=ow_h_0 (F:=prL9) m (l.map encT) [bS own,bS own,bI (frT own),bI S,bI G] own.length (frT own).length S.length G.length (y15:=Ud) (y16:=Ud) (y17:=Ud) (y18:=Ud) (y20:=Ud) (y21:=Ud) (y23:=Ud) (lit3 _ _ _ _ rfl)
  let Zf:Nat → Nat:=fun i=>if i=0 then (frT own).length else if i=1 then S.length else G.length
  have i0:=ow_i0_0 (F:=prL9) m (l.map encT) [bS own,bS own,bI (frT own),bI S,bI G,.arr 1 [.sl 2 0 (frT own).length none (frT own).length 1,.sl 3 0 S.length none S.length 1,.sl 4 0 G.length none G.length 1] true 5] own.length (y7:=.sl 2 0 (frT own).length none (frT own).length 1) (y10:=.sl 3 0 S.length none S.length 1) (y12:=.sl 4 0 G.length none G.length 1) (y16:=Ud) (y17:=Ud) (y18:=Ud) (y20:=Ud) (y21:=Ud) (y23:=Ud)
  have hO:OwnH Zf [bS own,bS own] [bS own,bS own,bI (frT own),bI S,bI G,.arr 1 [.sl 2 0 (frT own).length none (frT own).length 1,.sl 3 0 S.length none S.length 1,.sl 4 0 G.length none G.length 1] true 5]:=by
    refine ⟨rfl,fun k hk=>?_,rfl,fun i hi=>?_⟩
    · match k,hk with
      | 0,_=>rfl
      | 1,_=>rfl
    · match i,hi with
      | 0,_=>exact ⟨frT own,rfl,rfl⟩
      | 1,_=>exact ⟨S,rfl,rfl⟩
      | 2,_=>exact ⟨G,rfl,rfl⟩
  obtain ⟨H6,y16,y17,r1,hH6⟩:=own_out (n:=m) (ls:=l.map encT) (q:=own.length) (Z:=Zf) (fun i hi=>by
    match i,hi with
    | 0,_=>show (frT own).length ≤ 1000; omega
    | 1,_=>show S.length ≤ 1000; omega
    | 2,_=>show G.length ≤ 1000; omega) 3 0 _ (by omega) hO
  have g0:H6[0]?=some (bS own):=hH6.low 0 (by omega)
  have g1:H6[1]?=some (bS own):=hH6.low 1 (by omega)
  have hl6:=hH6.len
  have p:=ox_p_0 (F:=prL9) m (l.map encT) H6 own.length H6.length (frT own).length (wgt own (frT own)) (y15:=.sl 5 0 3 (some 3) 3 1) (y16:=y16) (y17:=y17) (y7:=Ud) (y10:=Ud) (y12:=Ud) (y18:=Ud) (y20:=Ud) (y21:=Ud) (y23:=Ud) (tr H6 (ShS_sl rfl g0))
  have lk:∀ (B C:Blk) (k:Nat),k < 6 → (H6 ++ [B] ++ [C])[k]?=H6[k]?∧(H6 ++ [B])[k]?=H6[k]?:=fun B C k hk=>⟨by rw [List.append_assoc,List.getElem?_append_left (by omega)],List.getElem?_append_left (by omega)⟩
  have c20:=at2 (pol':=polL9) (g:=20) (c1:=kI) (c2:=kS) (f:=fun n l=>if (0 ≤ n∧n ≤ 16)∧endN n l=true∧l.length ≤ 500 then some (.tuple [.own 1 ((frT l).map encI),.bool (frOk n l)]) else none) (H:=H6 ++ [bI (frT own)]) (v2:=.sl 1 0 own.length none own.length 3) (by kernel_rfl) (ShI _ m) (ShS_sl rfl (by rw [(lk _ (bI []) 1 (by omega)).2]; exact g1)) (if_pos ⟨by omega,he,by omega⟩)
  rw [recv_tb,frOk_eq,hc] at c20
  have q:=ox_q_0 (F:=prL9) m (l.map encT) (H6 ++ [bI (frT own)]) own.length H6.length (frT own).length (H6 ++ [bI (frT own)]).length (frT own).length (y15:=.sl 5 0 3 (some 3) 3 1) (y16:=y16) (y17:=y17) (y7:=Ud) (y10:=Ud) (y12:=Ud) (y21:=Ud) (y23:=Ud) c20
  have e1:(H6 ++ [bI (frT own)] ++ [bI (frT own)])[H6.length]?=some (bI (frT own)):=by rw [List.append_assoc,List.getElem?_append_right (Nat.le_refl _),Nat.sub_self]; rfl
  have e2:(H6 ++ [bI (frT own)] ++ [bI (frT own)])[(H6 ++ [bI (frT own)]).length]?=some (bI (frT own)):=by rw [List.getElem?_append_right (Nat.le_refl _),Nat.sub_self]; rfl
  have c21:=at2 (pol':=polL9) (g:=21) (c1:=kL) (c2:=kL) (f:=fun a b=>if a.length ≤ 1000 then some (.bool (decide (a=b))) else none) (H:=H6 ++ [bI (frT own)] ++ [bI (frT own)]) (x:=frT own) (y:=frT own) (by kernel_rfl) (ShL_sl rfl e1) (ShL_sl rfl e2) (if_pos (by omega))
  rw [decide_eq_true rfl] at c21
  have r:=ox_r_0 (F:=prL9) m (l.map encT) (H6 ++ [bI (frT own)] ++ [bI (frT own)]) own.length H6.length (frT own).length (H6 ++ [bI (frT own)]).length (frT own).length (y15:=.sl 5 0 3 (some 3) 3 1) (y16:=y16) (y17:=y17) (y7:=Ud) (y10:=Ud) (y12:=Ud) (y23:=Ud) c21 rfl
  generalize hHz:H6 ++ [bI (frT own)] ++ [bI (frT own)]=Hz at *
  have z0:Hz[0]?=some (bS own):=by rw [← hHz,(lk _ _ 0 (by omega)).1]; exact g0
  have z1:Hz[1]?=some (bS own):=by rw [← hHz,(lk _ _ 1 (by omega)).1]; exact g1
  have s0:=ox_s0_0 (F:=prL9) m (l.map encT) Hz own.length (y9:=.int .i64 0) (y11:=.int .i64 0) (y14:=.int .i64 0) (y15:=.sl 5 0 3 (some 3) 3 1) (y16:=y16) (y17:=y17) (y18:=.sl H6.length 0 (frT own).length none (frT own).length 1) (y20:=.int .i64 0) (y21:=.sl (H6 ++ [bI (frT own)]).length 0 (frT own).length none (frT own).length 1) (y7:=Ud) (y10:=Ud) (y12:=Ud) (y23:=Ud)
  have r2:=own_rows (n:=m) (ls:=l.map encT) z0 z1 (by omega)
  have t:=ox_t_0 (F:=prL9) m (l.map encT) Hz own.length (y23:=.int .i64 (own.length:Int)) (y7:=Ud) (y9:=Ud) (y10:=Ud) (y11:=Ud) (y12:=Ud) (y14:=Ud) (y15:=Ud) (y16:=Ud) (y17:=Ud) (y18:=Ud) (y20:=Ud) (y21:=Ud) (fun k=>by
    rw [prim_call (pol:=polL9) (g:=18) (F:=awakeF) (by kernel_rfl) (rs:=[]) rfl (res:=.bool true) rfl]; rfl)



  exact ⟨_,_,sq (a) (sq (b) (sq (c) (sq (d) (sq (e) (sq (f) (sq (g) (sq (h) (sq (sq (i0) (bke (c:=sub [1,1,1,1,1,1,1,1,0,1] B9) (lpi (e0:=(env9 (.int .i64 m) (.imm .arg 3 (l.map encT)) (.bool false) (.sl 0 0 own.length none own.length 3) (.sl 1 0 own.length none own.length 3) (.sl 2 0 (frT own).length none (frT own).length 1) (.int .i64 0) (.sl 3 0 S.length none S.length 1) (.int .i64 0) (.sl 4 0 G.length none G.length 1) (.int .i64 0) (.sl 5 0 3 (some 3) 3 1) (.int .i64 ((0:Nat):Int)) Ud Ud Ud Ud Ud)) r1 (b:=sub [1,1,1,1,1,1,1,1,0,1,0,0] B9))) (c:=sub [1,1,1,1,1,1,1,1,0] B9)) (sq (p) (sq (q) (sq (r) (sq (sq (s0) (bke (c:=sub [1,1,1,1,1,1,1,1,1,1,1,1,0,1] B9) (lpi (e0:=(env9 (.int .i64 m) (.imm .arg 3 (l.map encT)) (.bool false) (.sl 0 0 own.length none own.length 3) (.sl 1 0 own.length none own.length 3) Ud (.int .i64 0) Ud (.int .i64 0) Ud (.int .i64 0) (.sl 5 0 3 (some 3) 3 1) y16 y17 (.sl H6.length 0 (frT own).length none (frT own).length 1) (.int .i64 0) (.sl (H6 ++ [bI (frT own)]).length 0 (frT own).length none (frT own).length 1) (.int .i64 ((0:Nat):Int)))) r2 (b:=sub [1,1,1,1,1,1,1,1,1,1,1,1,0,1,0,0] B9))) (c:=sub [1,1,1,1,1,1,1,1,1,1,1,1,0] B9)) (t) (c:=sub [1,1,1,1,1,1,1,1,1,1,1,1] B9)) (c:=sub [1,1,1,1,1,1,1,1,1,1,1] B9)) (c:=sub [1,1,1,1,1,1,1,1,1,1] B9)) (c:=sub [1,1,1,1,1,1,1,1,1] B9)) (c:=sub [1,1,1,1,1,1,1,1] B9)) (c:=sub [1,1,1,1,1,1,1] B9)) (c:=sub [1,1,1,1,1,1] B9)) (c:=sub [1,1,1,1,1] B9)) (c:=sub [1,1,1,1] B9)) (c:=sub [1,1,1] B9)) (c:=sub [1,1] B9)) (c:=sub [1] B9)) (c:=B9),rfl⟩
end Go.Proofs.Ytiejmoglooaalaa
end
section
namespace Go.HL
open Go.ChangeShapes Go.WideShapes Go.ChangeAt Go.RowKit Go.Deep
theorem okNil (w:World) (r:Nat):okOf Ctx.nil w.heap.size false r:=by
  refine ⟨fun hM=>?_,by simp⟩
  obtain ⟨b,y,h1,_,_⟩:=M_iff.1 hM
  simp [Ctx.nil] at h1
theorem cell_lt {w:World} {a:Addr} {v:Value} (h:w.cell? a=some v):a.block < w.heap.size:=by
  rcases Nat.lt_or_ge a.block w.heap.size with hl | hl
  · exact hl
  · have:w.heap[a.block]?=none:=by simp [hl]
    simp [World.cell?,this] at h
end Go.HL
end
section
namespace Go.HL
open Go.ChangeShapes Go.WideShapes Go.ChangeAt Go.RowKit Go.Deep
abbrev encTr (s:Int × Int × Int):HV:=.agg [.int .i64 s.1,.int .i64 s.2.1,.int .i64 s.2.2]
theorem arg_trips_ok {H:Type} {enc:TypeId × Value → H} {P:Program} {W:World} {base:Nat} {t e q:TypeId} {v:Value} {d:DataW H} {ps:List MemPlace} {f0 f1 f2:Field} (ht:P.underlying t=some (.slice e)) (he:P.underlying e=some (.struct #[f0,f1,f2])) (t0:f0.type=q) (t1:f1.type=q) (t2:f2.type=q) (o0:f0.offset=0) (o1:f1.offset=1) (o2:f2.offset=2) (hq:P.underlying q=some (.int .i64)) (ce:P.cellsOf e=3) (cq:P.cellsOf q=1)
    (hval:Value.okWide P W .any base t v) (hd:DataW.Trod enc P W 0 (fun _=>true) true t v d ps):∃ l:List (Int × Int × Int),V W (okOf Ctx.nil W.heap.size) Ctx.nil (.imm .arg 3 (l.map encTr)) v:=by
  obtain ⟨a,len,cap,rfl⟩:=okWide_slice ht hval
  obtain ⟨fuel,hf⟩:=hd
  rcases open_slice ht hf with ⟨h0,_⟩ | ⟨a',len',cap',m,n,D,Pl,h0,hb,hl,hm,hmm,hx,hel⟩
  · simp [Value.cells] at h0
    obtain ⟨rfl,rfl,rfl⟩:=h0
    exact ⟨[],.imm .arg 3 [] none 0 (fun _=>.bool false) (by simp) (by simp) (by simp) (by simp) (by simp) (by simp)⟩
  · simp [Value.cells] at h0
    obtain ⟨rfl,rfl,rfl⟩:=h0
    have hlm:len ≤ m:=by rw [hmm]; split <;> omega
    have each:∀ i,i < len → ∃ p:Int × Int × Int,W.cell? (a'.add (i * 3))=some (.int .i64 p.1)∧W.cell? (a'.add (i * 3+1))=some (.int .i64 p.2.1)∧W.cell? (a'.add (i * 3+2))=some (.int .i64 p.2.2):=by
      intro i hi
      obtain ⟨cs',h1,h2⟩:=hel i (by omega)
      rw [ce] at h1
      obtain ⟨_,hlen,hcell⟩:=World.cells?_some h1
      obtain ⟨y0,y1,y2,k,_,_,g0,g1,g2⟩:=trod_struct3 he h2
      rw [t0,o0,cq] at g0
      rw [t1,o1,cq] at g1
      rw [t2,o2,cq] at g2
      match cs',hlen with
      | [v0,v1,v2],_ =>
        simp at g0 g1 g2
        obtain ⟨z0,e0,_,_⟩:=DataW.trod_int hq g0
        obtain ⟨z1,e1,_,_⟩:=DataW.trod_int hq g1
        obtain ⟨z2,e2,_,_⟩:=DataW.trod_int hq g2
        simp at e0 e1 e2
        subst e0; subst e1; subst e2
        have c0:=hcell 0 (by omega)
        have c1:=hcell 1 (by omega)
        have c2:=hcell 2 (by omega)
        rw [add_add] at c0 c1 c2
        exact ⟨(z0,z1,z2),by simpa using c0,by simpa using c1,by simpa using c2⟩
    obtain ⟨f,hf⟩:=choose_lt each
    refine ⟨(List.range len).map f,?_⟩
    have hlen:(((List.range len).map f).map encTr).length=len:=by simp
    have key:=V.imm (w:=W) (ok:=okOf Ctx.nil W.heap.size) (c:=Ctx.nil) .arg 3 (((List.range len).map f).map encTr) (some a') cap (fun j=>if j % 3=0 then .int .i64 (f (j / 3)).1 else if j % 3=1 then .int .i64 (f (j / 3)).2.1 else .int .i64 (f (j / 3)).2.2)
      (by rw [hlen]; exact hl) (by simp) ?_ ?_ ?_ ?_
    · rw [hlen] at key; exact key
    · intro hne
      have h0:0 < len:=by
        rcases Nat.eq_zero_or_pos len with h | h
        · subst h; simp at hne
        · exact h
      obtain ⟨b,off,spot⟩:=a'
      have hspot:spot=none:=by simpa [Addr.add] using World.cell?_spot (hf 0 h0).1
      subst hspot
      refine ⟨b,off,rfl,by simpa [Addr.add] using cell_lt (hf 0 h0).1,okNil W b,fun j hj=>?_⟩
      rw [hlen] at hj
      have hj2:j / 3 < len:=by omega
      obtain ⟨c0,c1,c2⟩:=hf (j / 3) hj2
      by_cases hp:j % 3=0
      · rw [if_pos hp]
        have:j / 3 * 3=j:=by omega
        rw [this,add_plain] at c0
        exact c0
      by_cases hp1:j % 3=1
      · rw [if_neg hp,if_pos hp1]
        have:j / 3 * 3+1=j:=by omega
        rw [this,add_plain] at c1
        exact c1
      · rw [if_neg hp,if_neg hp1]
        have:j / 3 * 3+2=j:=by omega
        rw [this,add_plain] at c2
        exact c2
    · intro v hv
      obtain ⟨p,_,rfl⟩:=List.mem_map.1 hv
      rfl
    · intro v hv
      obtain ⟨p,_,rfl⟩:=List.mem_map.1 hv
      rfl
    · intro i v j x hi hj
      have hil:i < len:=by have:=lt_of_get hi; rw [hlen] at this; exact this
      have:v=encTr (f i):=by
        rw [List.getElem?_map,List.getElem?_map,List.getElem?_range hil] at hi
        simpa using hi.symm
      subst this
      have hjx:j < 3:=lt_of_get hj
      match j,hjx,hj with
      | 0,_,hj =>
        simp [encTr,cellsOf] at hj
        subst hj
        have e1:(i * 3+0) % 3=0:=by omega
        have e2:(i * 3+0) / 3=i:=by omega
        rw [if_pos e1,e2]
        exact V.int _ _
      | 1,_,hj =>
        simp [encTr,cellsOf] at hj
        subst hj
        have e0:¬ (i * 3+1) % 3=0:=by omega
        have e1:(i * 3+1) % 3=1:=by omega
        have e2:(i * 3+1) / 3=i:=by omega
        rw [if_neg e0,if_pos e1,e2]
        exact V.int _ _
      | 2,_,hj =>
        simp [encTr,cellsOf] at hj
        subst hj
        have e0:¬ (i * 3+2) % 3=0:=by omega
        have e1:¬ (i * 3+2) % 3=1:=by omega
        have e2:(i * 3+2) / 3=i:=by omega
        rw [if_neg e0,if_neg e1,e2]
        exact V.int _ _
end Go.HL
end
