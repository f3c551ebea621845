/- A part of the proof. -/
import Derived.Test.YtiejmoglooaalaaP4B
set_option linter.unusedVariables false
set_option linter.unusedSimpArgs false
set_option linter.unnecessarySimpa false
section
open Go Go.HL
namespace Go.Proofs.Ytiejmoglooaalaa
open Go.Proofs.Try renaming prog → Tp
open Go.HL.HV renaming undef → Ud
def sA (l:List St) (k:Int):Int:=(l.getD k.toNat (0,0,0)).1
def sB (l:List St) (k:Int):Int:=(l.getD k.toNat (0,0,0)).2.1
def kstep (l:List St) (s:List Int × List Int × List Int) (k:Int):List Int × List Int × List Int :=
  (upJ s.1 s.2.1 (sA l k) (sB l k),joinT s.2.1 (sA l k) (sB l k),if s.2.1.getD (sA l k).toNat 0 ≠ s.2.1.getD (sB l k).toNat 0 then s.2.2 ++ [k] else s.2.2)
def ksT (l:List St) (t:List Int):List Int × List Int × List Int:=t.foldl (kstep l) (startT 16,startT 16,[])
def labT (l:List St) (t:List Int):List Int:=(ksT l t).2.1
def tkT (l:List St) (t:List Int):List Int:=(ksT l t).2.2
def endB (l:List St):Bool:=l.all fun s=>decide ((0 ≤ s.1∧s.1 < 16)∧0 ≤ s.2.1∧s.2.1 < 16)
theorem endB_iff {l:List St}:endB l=true ↔ ∀ s ∈ l,(0 ≤ s.1∧s.1 < 16)∧0 ≤ s.2.1∧s.2.1 < 16:=by simp [endB]
theorem ends {l:List St} (he:endB l=true) {k:Int} (hk:0 ≤ k∧k < (l.length:Int)):(0 ≤ sA l k∧sA l k < 16)∧0 ≤ sB l k∧sB l k < 16:=endB_iff.1 he _ (mem_getD _ (by omega))
theorem ksT_up {l:List St} (he:endB l=true) {t:List Int} (ht:∀ k ∈ t,0 ≤ k∧k < (l.length:Int)):Up (ksT l t).1 (ksT l t).2.1:=by
  have key:∀ (t:List Int) (s:List Int × List Int × List Int),(∀ k ∈ t,0 ≤ k∧k < (l.length:Int)) → Up s.1 s.2.1 → Up (t.foldl (kstep l) s).1 (t.foldl (kstep l) s).2.1:=by
    intro t
    induction t with
    | nil=>intro s _ h; exact h
    | cons k t ih =>
      intro s hk h
      obtain ⟨⟨a1,a2⟩,b1,b2⟩:=ends he (hk k (by simp))
      refine ih _ (fun x hx=>hk x (by simp [hx])) ?_
      have:=h.join (u:=(sA l k).toNat) (v:=(sB l k).toNat) (by omega) (by omega)
      rw [show (((sA l k).toNat:Nat):Int)=sA l k by omega,show (((sB l k).toNat:Nat):Int)=sB l k by omega] at this
      exact this
  exact key t _ ht Up.start
theorem ksT_succ (l:List St) (t:List Int) {i:Nat} (hi:i < t.length):ksT l (t.take (i+1))=kstep l (ksT l (t.take i)) (t.getD i 0):=by
  rw [List.take_add_one,List.getElem?_eq_getElem hi,ksT,List.foldl_append,getD_at hi]; rfl
theorem ksT_len (l:List St) (t:List Int):(ksT l t).2.2.length ≤ t.length:=by
  have key:∀ (t:List Int) (s:List Int × List Int × List Int),(t.foldl (kstep l) s).2.2.length ≤ s.2.2.length+t.length:=by
    intro t
    induction t with
    | nil=>intro s; exact Nat.le_refl _
    | cons k t ih =>
      intro s
      have:=ih (kstep l s k)
      have h2:(kstep l s k).2.2.length ≤ s.2.2.length+1:=by
        unfold kstep; simp only; split <;> simp
      rw [List.foldl_cons,List.length_cons]; omega
  have:=key t (startT 16,startT 16,[])
  simpa [ksT] using this
section
variable {F:FuncId → Option (List HV → Option HV)}
theorem set2 (H:Heap) (A B C:Blk):(H ++ [A,B]).set (H.length+1) C=H ++ [A,C]:=by
  rw [List.set_append_right _ _ (by omega),show H.length+1 - H.length=1 by omega]; rfl
theorem get2a (H:Heap) (A B:Blk):(H ++ [A,B])[H.length]?=some A:=by rw [List.getElem?_append_right (Nat.le_refl _),Nat.sub_self]; rfl
theorem get2b (H:Heap) (A B:Blk):(H ++ [A,B])[H.length+1]?=some B:=by rw [List.getElem?_append_right (by omega),show H.length+1 - H.length=1 by omega]; rfl
theorem get_l {H X:Heap} {k:Nat} {B:Blk} (h:H[k]?=some B):(H ++ X)[k]?=some B:=by
  rcases Nat.lt_or_ge k H.length with c | c
  · rw [List.getElem?_append_left c]; exact h
  · rw [List.getElem?_eq_none c] at h; cases h
theorem joined_sl (h53:F 53=none) (h55:F 55=none) (h56:F 56=none) (h57:F 57=none) {n:Int} {l:List St} (he:endB l=true) {t o:List Int} (ht:∀ k ∈ t,0 ≤ k∧k < (l.length:Int)) (hl:t.length ≤ 1000) {H:Heap} (hm:mxs H ≤ H.length) {lb:Nat} {cap:Option Nat} (hb:H[lb]?=some (bI o)) (ho:∀ i,i < t.length → i < o.length∧o.getD i 0=t.getD i 0) :
    ClF F 57 [encN n l,.sl lb 0 t.length cap o.length 1] H (.tuple [.ptr (H.length+1) 0 0 1,.int .i64 ((ksT l t).2.2.length:Int)]) (H ++ [bN n l,bU (ksT l t).1]):=by
  have ixs:∀ i,i < t.length → idxV Tp 24 (.sl lb 0 t.length cap o.length 1) (.int .i64 (i:Int))=some (.ptr lb i 0 o.length):=fun i hi=>by
    have:=idx_sl (P:=Tp) (t:=24) (b:=lb) (len:=t.length) (tot:=o.length) (cap:=cap) (ik:=.i64) (n:=(i:Int)) u24 z3 (by omega) (by omega)
    rwa [Int.toNat_natCast] at this
  have lds:∀ (X:Heap) i,i < t.length → loadV Tp (H ++ X) 3 (.ptr lb i 0 o.length)=some (.int .i64 ((t.getD i 0).toNat:Int)):=fun X i hi=>by
    rw [load_out (get_l hb) (ho i hi).1,(ho i hi).2]
    have:=ht _ (mem_getD 0 hi)
    rw [show (((t.getD i 0).toNat:Nat):Int)=t.getD i 0 by omega]
  have hN:H[H.length]?=none:=List.getElem?_eq_none (Nat.le_refl _)
  have a:=js_a_0 (F:=F) 0 n (l.map encT) lb t.length o.length cap H (a0:=.ptr H.length 0 0 1) (H0:=H ++ [bN n l]) rfl
  obtain ⟨N0,c53⟩:=CallsTo.from (apart_call (F:=F) h53 (H ++ [bN n l]) (by rw [mxs_app]; simp only [mxs,Blk.mx,List.length_append,List.length_singleton]; omega))
  rw [List.append_assoc,List.length_append,List.length_singleton] at c53
  have b:=js_b_0 (F:=F) N0 n (l.map encT) lb t.length o.length cap (H ++ [bN n l]) H.length (H.length+1) (y4:=Ud) (y6:=Ud) (y7:=Ud) (y9:=Ud) (y11:=Ud) (y12:=Ud) (y13:=Ud) c53
  have c:=js_c_0 (F:=F) 0 n (l.map encT) lb t.length o.length cap (H ++ [bN n l,bU (startT 16)]) H.length (H.length+1) (y4:=Ud) (y7:=Ud) (y9:=Ud) (y11:=Ud) (y12:=Ud) (y13:=Ud)
  have d:=js_d_0 (F:=F) 0 n (l.map encT) lb t.length o.length cap (H ++ [bN n l,bU (startT 16)]) H.length (H.length+1) 0 (y4:=Ud) (y9:=Ud) (y11:=Ud) (y12:=Ud) (y13:=Ud)
  skip
  have r:=count (pol':=plF F) (f:=57) (E:=fun i=>(env57 (encN n l) (.sl lb 0 t.length cap o.length 1) (.ptr H.length 0 0 1) Ud (.int .i64 0) (.ptr (H.length+1) 0 0 1) (.int .i64 (((ksT l (t.take i)).2.2.length:Nat):Int)) Ud (.sl lb 0 t.length cap o.length 1) (.int .i64 (t.length:Int)) (.int .i64 ((i:Nat):Int)))) (Hs:=fun i=>H ++ [bN n l,bU (ksT l (t.take i)).1]) t.length
    (E0:=fun i=>(env57 (encN n l) (.sl lb 0 t.length cap o.length 1) (.ptr H.length 0 0 1) Ud (.int .i64 0) (.ptr (H.length+1) 0 0 1) (.int .i64 (((ksT l (t.take (i+1))).2.2.length:Nat):Int)) (.int .i64 ((t.getD i 0).toNat:Int)) (.sl lb 0 t.length cap o.length 1) (.int .i64 (t.length:Int)) (.int .i64 ((i+1:Nat):Int)))) (H1:=fun i=>H ++ [bN n l,bU (ksT l (t.take (i+1))).1])
    (fun i hi=>by
      have hk:=ht _ (mem_getD 0 hi)
      have hU:=ksT_up he (t:=t.take i) fun k hk=>ht k (List.mem_of_mem_take hk)
      obtain ⟨e1,e2⟩:=ends he hk
      obtain ⟨N1,cj⟩:=CallsTo.from (join_call' (F:=F) h55 h56 (H:=H ++ [bN n l,bU (ksT l (t.take i)).1]) (get2b H _ _) hU e1 e2)
      rw [set2] at cj
      have hs:=ksT_succ l t hi
      have g2:=gs (l:=l) (y:=(t.getD i 0).toNat) (by omega)
      have ln:=ld_net (H:=H ++ [bN n l,bU (ksT l (t.take i)).1]) (get2a H _ _)
      have hlen:=ksT_len l (t.take i)
      rw [List.length_take] at hlen
      have es:(ksT l (t.take (i+1))).1=upJ (ksT l (t.take i)).1 (ksT l (t.take i)).2.1 (sA l (t.getD i 0)) (sB l (t.getD i 0)):=by rw [hs]; rfl
      by_cases cc:(ksT l (t.take i)).2.1.getD (sA l (t.getD i 0)).toNat 0 ≠ (ksT l (t.take i)).2.1.getD (sB l (t.getD i 0)).toNat 0
      · rw [decide_eq_true cc] at cj
        have s:=js_l_0 (F:=F) N1 n (l.map encT) lb t.length o.length cap (H ++ [bN n l,bU (ksT l (t.take i)).1]) H.length (H.length+1) (ksT l (t.take i)).2.2.length t.length i (t.getD i 0).toNat (l.getD (t.getD i 0).toNat (0,0,0)).1 (l.getD (t.getD i 0).toNat (0,0,0)).2.1 (l.getD (t.getD i 0).toNat (0,0,0)).2.2 (y4:=Ud) (y9:=Ud) (by omega) (ixs i hi) (lds _ i hi) ln g2 ln g2 cj
        have el:(ksT l (t.take (i+1))).2.2.length=(ksT l (t.take i)).2.2.length+1:=by rw [hs,kstep]; simp only; rw [if_pos cc]; simp
        rw [wrap_succ (by omega),wrap_succ (by omega),← el,← es] at s
        exact s
      · rw [decide_eq_false cc] at cj
        have s:=js_l_1 (F:=F) N1 n (l.map encT) lb t.length o.length cap (H ++ [bN n l,bU (ksT l (t.take i)).1]) H.length (H.length+1) (ksT l (t.take i)).2.2.length t.length i (t.getD i 0).toNat (l.getD (t.getD i 0).toNat (0,0,0)).1 (l.getD (t.getD i 0).toNat (0,0,0)).2.1 (l.getD (t.getD i 0).toNat (0,0,0)).2.2 (y4:=Ud) (y9:=Ud) (by omega) (ixs i hi) (lds _ i hi) ln g2 ln g2 cj
        have el:(ksT l (t.take (i+1))).2.2.length=(ksT l (t.take i)).2.2.length:=by rw [hs,kstep]; simp only; rw [if_neg cc]
        rw [wrap_succ (by omega),← es] at s
        rw [el]
        exact s) (fun i _=>by kernel_rfl) (fun i _=>gc_eq _ (by simp)) (js_l_2 (F:=F) 0 n (l.map encT) lb t.length o.length cap (H ++ [bN n l,bU (ksT l (t.take t.length)).1]) H.length (H.length+1) (ksT l (t.take t.length)).2.2.length t.length t.length 0 0 0 0 (y4:=Ud) (y9:=Ud) (by omega)) (by simp) (c:=sub [1,1,1,0,1,0] B57) (by kernel_rfl) (fun i _=>by kernel_rfl)
  have z:=js_z_0 (F:=F) 0 n (l.map encT) lb t.length o.length cap (H ++ [bN n l,bU (ksT l (t.take t.length)).1]) H.length (H.length+1) (ksT l (t.take t.length)).2.2.length (y4:=Ud) (y9:=Ud) (y11:=(.sl lb 0 t.length cap o.length 1)) (y12:=.int .i64 (t.length:Int)) (y13:=.int .i64 (t.length:Int))
  have u:=sq (a) (sq (b) (sq (c) (sq (sq (d) (bke (c:=sub [1,1,1,0,1] B57) (r)) (c:=sub [1,1,1,0] B57)) (z) (c:=sub [1,1,1] B57)) (c:=sub [1,1] B57)) (c:=sub [1] B57)) (c:=B57)
  rw [List.take_length] at u
  have h:=CallsTo.shared (P:=Tp) (pol:=plF F) (g:=57) (fn:=Try.f57) (cd:=B57) (args:=[encN n l,(.sl lb 0 t.length cap o.length 1)]) (v:=.tuple [.ptr (H.length+1) 0 0 1,.int .i64 ((ksT l t).2.2.length:Int)]) h57 (by kernel_rfl) (by kernel_rfl) (by kernel_rfl) u (by kernel_rfl) (by simp) (by kernel_rfl)
  have e:gc H.length (bnd (.tuple [.ptr (H.length+1) 0 0 1,.int .i64 ((ksT l t).2.2.length:Int)])) (H ++ [bN n l,bU (ksT l t).1])=H ++ [bN n l,bU (ksT l t).1]:=by
    unfold gc
    rw [List.take_of_length_le]
    simp only [List.length_append,List.length_cons,List.length_nil,bnd,bndL]
    omega
  rw [e] at h
  exact h
end
end Go.Proofs.Ytiejmoglooaalaa
end
section
open Go Go.HL
namespace Go.Proofs.Ytiejmoglooaalaa
open Go.Proofs.Try renaming prog → Tp
open Go.HL.HV renaming undef → Ud
def treeT (l:List St):List Int:=tkT l (ordT l)
def connB (n:Int) (l:List St):Bool:=decide (((treeT l).length:Int)=n - 1)
def netOk (n:Int) (l:List St):Prop:=endB l=true∧l.length ≤ 900∧0 ≤ n∧n ≤ 1000
instance (n:Int) (l:List St):Decidable (netOk n l):=inferInstanceAs (Decidable (_∧_∧_∧_))
def tree40:List HV → Option HV:=f1 kN fun p=>if netOk p.1 p.2 then some (.tuple [.own 1 ((treeT p.2).map encI),.bool (connB p.1 p.2)]) else none
def prTr:FuncId → Option (List HV → Option HV):=fun g=>if g == 54 then some ordered54 else none
theorem soundTr (n:Nat):CallSound Tp (callN Tp (plF prTr) n):=sound_prim _ (fun g f h=>by
  unfold prTr at h
  split at h
  · rename_i hg; cases h; rw [eq_of_beq hg]; exact ordered_ok
  · cases h) n
theorem res40:Try.f40.results.toList=[.tmp 2,.tmp 3]:=by kernel_rfl
theorem recv_tb (l:List Int) (x:Bool) (H:Heap):recv (.tuple [.own 1 (l.map encI),.bool x]) H=(.tuple [.sl H.length 0 l.length none l.length 1,.bool x],H ++ [bI l]):=by
  have h:recvCell (.own 1 (l.map encI)) H=(.sl H.length 0 l.length none l.length 1,H ++ [bI l]):=by
    simp only [recvCell,encI_any,List.length_map]; rfl
  simp only [recv,recvVals,recvVal,h]; rfl
theorem res_lb {H:Heap} {b k:Nat} {o:List Int} (hb:H[b]?=some (bI o)) (hk:o.length=k) (x:Bool):toRes H false (.tuple [.sl b 0 k none k 1,.bool x])=some (.tuple [.own 1 (o.map encI),.bool x]):=by
  have hr:=resCell_sl (H:=H) (no:=[b]) (b:=b) (k:=1) (m:=k) (cap:=none) (els:=o.map encI) hb (by simpa using hk) (mapO_self (fun r=>frz_int 4 r) _)
  have ho:ownedAll H false (.tuple [.sl b 0 k none k 1,.bool x])=[b]:=by simp [ownedAll,cellsOf,owned,hb]
  simp only [toRes,ho,List.nodup_cons,List.not_mem_nil,not_false_eq_true,List.nodup_nil,and_self,if_true,resVal,mapO,hr]
  rfl
theorem tree_ok:PrimOk Tp 40 tree40:=by
  refine primOk_pure (pol:=plF prTr) (fn:=Try.f40) (cd:=B40) follows_mixed soundTr (by kernel_rfl) (by kernel_rfl) (fnok prTr _ _ (by kernel_rfl)) (by kernel_rfl) ?_
  intro args res h
  obtain ⟨⟨n,l⟩,rfl,hq⟩:=f1_inv h
  split at hq
  case isFalse=>cases hq
  rename_i hc
  obtain ⟨he,hl,n0,n1⟩:=hc
  simp only at he hl n0 n1
  cases hq
  have ht:∀ k ∈ ordT l,0 ≤ k∧k < (l.length:Int):=fun k hk=>ordT_mem.1 hk
  have hol:=ordT_len l
  have a:=tr_a_0 (F:=prTr) 0 n (l.map encT)
  obtain ⟨N0,c53⟩:=CallsTo.from (apart_call (F:=prTr) (by kernel_rfl) [bN n l] (by show max 0 0 ≤ 2; decide))
  have b:=tr_b_0 (F:=prTr) N0 n (l.map encT) [bN n l] (y4:=Ud) (y5:=Ud) (y7:=Ud) (y10:=Ud) (y11:=Ud) (y12:=Ud) c53
  have c:=tr_c_0 (F:=prTr) 0 n (l.map encT) ((startT 16).map encI) (y5:=Ud) (y7:=Ud) (y10:=Ud) (y11:=Ud) (y12:=Ud)
  have c54:=at1 (pol':=plF prTr) (g:=54) (c1:=kN) (f:=fun p=>if p.2.length ≤ 900 then some (.own 1 ((ordT p.2).map encI)) else none) (H:=[bN n l,bU (startT 16),bI []]) (by kernel_rfl) (ShN _ n l) (if_pos hl)
  rw [recv_ints,hol] at c54
  have d:=tr_d_0 (F:=prTr) 0 n (l.map encT) [bN n l,bU (startT 16),bI []] 0 l.length (y7:=Ud) (y10:=Ud) (y11:=Ud) (y12:=Ud) (load_agg (P:=Tp) (b:=0) (els:=[encN n l]) (cs:=[.int .i64 n,.imm .arg 3 (l.map encT)]) rfl rfl rfl a66 z66) c54
  have hT:treeT l=(ksT l (ordT l)).2.2:=rfl
  have hCn:connB n l=decide (((ksT l (ordT l)).2.2.length:Int)=n - 1):=rfl
  generalize ordT l=o at *
  have r:=count (pol':=plF prTr) (f:=40) (E:=fun i=>(env40 (encN n l) (.ptr 0 0 0 1) (.imm .lit 1 []) (.bool false) (.ptr 1 0 0 1) (.sl 2 0 (ksT l (o.take i)).2.2.length none (ksT l (o.take i)).2.2.length 1) Ud (.sl 3 0 l.length none l.length 1) (.int .i64 (l.length:Int)) (.int .i64 ((i:Nat):Int)))) (Hs:=fun i=>[bN n l,bU (ksT l (o.take i)).1,bI (ksT l (o.take i)).2.2,bI o]) l.length
    (E0:=fun i=>(env40 (encN n l) (.ptr 0 0 0 1) (.imm .lit 1 []) (.bool false) (.ptr 1 0 0 1) (.sl 2 0 (ksT l (o.take (i+1))).2.2.length none (ksT l (o.take (i+1))).2.2.length 1) (.int .i64 ((o.getD i 0).toNat:Int)) (.sl 3 0 l.length none l.length 1) (.int .i64 (l.length:Int)) (.int .i64 ((i+1:Nat):Int)))) (H1:=fun i=>[bN n l,bU (ksT l (o.take (i+1))).1,bI (ksT l (o.take (i+1))).2.2,bI o])
    (fun i hi=>by
      have hi2:i < o.length:=by omega
      have hk:=ht _ (mem_getD 0 hi2)
      have hU:=ksT_up he (t:=o.take i) fun k hk=>ht k (List.mem_of_mem_take hk)
      obtain ⟨e1,e2⟩:=ends he hk
      obtain ⟨N1,cj⟩:=CallsTo.from (join_call' (F:=prTr) (by kernel_rfl) (by kernel_rfl) (H:=[bN n l,bU (ksT l (o.take i)).1,bI (ksT l (o.take i)).2.2,bI o]) (b:=1) rfl hU e1 e2)
      have hs:=ksT_succ l o hi2
      have g2:=gs (l:=l) (y:=(o.getD i 0).toNat) (by omega)
      have ix:=idx_sl (P:=Tp) (t:=24) (b:=3) (len:=l.length) (tot:=l.length) (cap:=none) (ik:=.i64) (n:=(i:Int)) u24 z3 (by omega) (by omega)
      rw [Int.toNat_natCast] at ix
      have ld:=load_out (H:=[bN n l,bU (ksT l (o.take i)).1,bI (ksT l (o.take i)).2.2,bI o]) (k:=3) (o:=o) rfl hi2
      rw [hol,show o.getD i 0=(((o.getD i 0).toNat:Nat):Int) by omega] at ld
      have ln:=ld_net (H:=[bN n l,bU (ksT l (o.take i)).1,bI (ksT l (o.take i)).2.2,bI o]) (xb:=0) rfl
      have hlen:=ksT_len l (o.take i)
      rw [List.length_take] at hlen
      have es:(ksT l (o.take (i+1))).1=upJ (ksT l (o.take i)).1 (ksT l (o.take i)).2.1 (sA l (o.getD i 0)) (sB l (o.getD i 0)):=by rw [hs]; rfl
      have ek:(((o.getD i 0).toNat:Nat):Int)=o.getD i 0:=by omega
      by_cases cc:(ksT l (o.take i)).2.1.getD (sA l (o.getD i 0)).toNat 0 ≠ (ksT l (o.take i)).2.1.getD (sB l (o.getD i 0)).toNat 0
      · rw [decide_eq_true cc] at cj
        have el:(ksT l (o.take (i+1))).2.2=(ksT l (o.take i)).2.2 ++ [(((o.getD i 0).toNat:Nat):Int)]:=by rw [hs,kstep]; simp only; rw [if_pos cc,ek]
        have ap:=app_in1 (H:=[bN n l,bU (upJ (ksT l (o.take i)).1 (ksT l (o.take i)).2.1 (sA l (o.getD i 0)) (sB l (o.getD i 0))),bI (ksT l (o.take i)).2.2,bI o]) (b:=2) (o:=(ksT l (o.take i)).2.2) rfl (by omega) (((o.getD i 0).toNat:Nat):Int)
        rw [← el,← es] at ap
        have s:=tr_l_0 (F:=prTr) N1 n (l.map encT) [bN n l,bU (ksT l (o.take i)).1,bI (ksT l (o.take i)).2.2,bI o] (ksT l (o.take i)).2.2.length l.length i (o.getD i 0).toNat (l.getD (o.getD i 0).toNat (0,0,0)).1 (l.getD (o.getD i 0).toNat (0,0,0)).2.1 (l.getD (o.getD i 0).toNat (0,0,0)).2.2 (y7:=Ud) (by omega) ix ld ln g2 ln g2 cj (by rw [← es]; exact ap)
        have el2:(ksT l (o.take (i+1))).2.2.length=(ksT l (o.take i)).2.2.length+1:=by rw [el]; simp
        rw [wrap_succ (by omega),← el2] at s
        exact s
      · rw [decide_eq_false cc] at cj
        have el:(ksT l (o.take (i+1))).2.2=(ksT l (o.take i)).2.2:=by rw [hs,kstep]; simp only; rw [if_neg cc]
        have s:=tr_l_1 (F:=prTr) N1 n (l.map encT) [bN n l,bU (ksT l (o.take i)).1,bI (ksT l (o.take i)).2.2,bI o] (ksT l (o.take i)).2.2.length l.length i (o.getD i 0).toNat (l.getD (o.getD i 0).toNat (0,0,0)).1 (l.getD (o.getD i 0).toNat (0,0,0)).2.1 (l.getD (o.getD i 0).toNat (0,0,0)).2.2 (y7:=Ud) (by omega) ix ld ln g2 ln g2 cj
        rw [wrap_succ (by omega),← es] at s
        rw [el]
        exact s) (fun i _=>by kernel_rfl) (fun i _=>gc_eq _ rfl) (tr_l_2 (F:=prTr) 0 n (l.map encT) [bN n l,bU (ksT l (o.take l.length)).1,bI (ksT l (o.take l.length)).2.2,bI o] (ksT l (o.take l.length)).2.2.length l.length l.length 0 0 0 0 (y7:=Ud) (by omega)) (by simp) (c:=sub [1,1,1,0,1,0] B40) (by kernel_rfl) (fun i _=>by kernel_rfl)
  have eo:o.take l.length=o:=List.take_of_length_le (by omega)
  rw [eo] at r
  have hw:IntKind.i64.wrap (n - 1)=n - 1:=wrap_id (by omega) (by omega)
  have hlen:=ksT_len l o
  have fin:∃ E H2,RunsTo Tp (plF prTr) 40 (sub [1,1,1,1] B40) ((env40 (encN n l) (.ptr 0 0 0 1) (.imm .lit 1 []) (.bool false) (.ptr 1 0 0 1) (.sl 2 0 (ksT l o).2.2.length none (ksT l o).2.2.length 1) Ud (.sl 3 0 l.length none l.length 1) (.int .i64 (l.length:Int)) (.int .i64 (l.length:Int)))) [bN n l,bU (ksT l o).1,bI (ksT l o).2.2,bI o] .ret ((plF prTr).keys 40) E H2∧H2=[bN n l,bU (ksT l o).1,bI (ksT l o).2.2,bI o]∧E.get 2=.sl 2 0 (ksT l o).2.2.length none (ksT l o).2.2.length 1∧E.get 3=.bool (decide (((ksT l o).2.2.length:Int)=n - 1)):=by
    by_cases cc:((ksT l o).2.2.length:Int)=n - 1
    · rw [decide_eq_true cc]
      exact ⟨_,_,tr_z_0 (F:=prTr) 0 n (l.map encT) [bN n l,bU (ksT l o).1,bI (ksT l o).2.2,bI o] (ksT l o).2.2.length l.length (y7:=Ud) (y10:=.sl 3 0 l.length none l.length 1) (y11:=.int .i64 (l.length:Int)) (y12:=.int .i64 (l.length:Int)) (ld_netN (xb:=0) rfl) (by rw [hw]; exact cc),rfl,rfl,rfl⟩
    · rw [decide_eq_false cc]
      exact ⟨_,_,tr_z_1 (F:=prTr) 0 n (l.map encT) [bN n l,bU (ksT l o).1,bI (ksT l o).2.2,bI o] (ksT l o).2.2.length l.length (y7:=Ud) (y10:=.sl 3 0 l.length none l.length 1) (y11:=.int .i64 (l.length:Int)) (y12:=.int .i64 (l.length:Int)) (ld_netN (xb:=0) rfl) (by rw [hw]; exact cc),rfl,rfl,rfl⟩
  obtain ⟨E2,H2,z,rfl,z2,z3⟩:=fin
  refine ⟨_,_,_,.tuple [.sl 2 0 (ksT l o).2.2.length none (ksT l o).2.2.length 1,.bool (decide (((ksT l o).2.2.length:Int)=n - 1))],sq (a) (sq (b) (sq (c) (sq (sq (d) (bke (c:=sub [1,1,1,0,1] B40) (r)) (c:=sub [1,1,1,0] B40)) (z) (c:=sub [1,1,1] B40)) (c:=sub [1,1] B40)) (c:=sub [1] B40)) (c:=B40),by simp,by simp only [resultsV,res40,mapO,resultV,z2,z3],?_⟩
  show toRes _ false _=some (.tuple [.own 1 ((treeT l).map encI),.bool (connB n l)])
  rw [hT,hCn]
  exact res_lb (b:=2) rfl rfl _
end Go.Proofs.Ytiejmoglooaalaa
end
section
open Go Go.HL
namespace Go.Proofs.Ytiejmoglooaalaa
set_option maxRecDepth 100000
open Go.Proofs.Try renaming prog → Tp
open Go.HL.HV renaming undef → Ud
section
variable {F:FuncId → Option (List HV → Option HV)}
noncomputable def B60:Code:=Try.f60.body.getD .skip
abbrev env60 (v0 v1 v2 v3:HV):Env:=[(0,v0),(1,v1),(2,v2),(3,v3)]
theorem nn_a_0 (a b w:Int) (nb:Nat) (H:Heap) (v:Int) {a0:HV} {H0:Heap} {a1:HV} {H1:Heap} {a2:HV} {H2:Heap} {a3:HV} {a4:HV} (g0:some (newV (.agg [.i a,.i b,.i w]) H)=some (a0,H0)) (g1:fldAddrV Tp 42 a0 0=some (a1)) (g2:loadV Tp H0 3 (a1)=some (.i a)) (g3:loadV Tp H0 3 (.ptr nb 0 0 1)=some (.i v)) (g4:∀ kf,callN Tp (plF F) (kf+1) 52 [.i a,.i 0,.i (IntKind.i64.wrap (v - 1))] H0=some (.bool true,H1)) (g5:fldAddrV Tp 42 a0 1=some (a2)) (g6:loadV Tp H1 3 (a2)=some (.i b)) (g7:loadV Tp H1 3 (.ptr nb 0 0 1)=some (.i v)) (g8:∀ kf,callN Tp (plF F) (kf+1) 52 [.i b,.i 0,.i (IntKind.i64.wrap (v - 1))] H1=some (.bool true,H2)) (g9:fldAddrV Tp 42 a0 0=some (a3)) (g10:loadV Tp H2 3 (a3)=some (.i a)) (g11:fldAddrV Tp 42 a0 1=some (a4)) (g12:loadV Tp H2 3 (a4)=some (.i b)) (g13:a=b):RunsTo Tp (plF F) 60 (sub [] B60) [(0,.agg [.i a,.i b,.i w]),(1,.ptr nb 0 0 1)] H .ret ((plF F).keys 60) (env60 (.agg [.i a,.i b,.i w]) (.ptr nb 0 0 1) a0 (.bool true)) H2 :=
  RunsTo.hin 0 60 [⟨0,0,a0,H0⟩,⟨1,0,a1,H0⟩,⟨1,1,.i a,H0⟩,⟨1,2,.i v,H0⟩,⟨1,4,.bool true,H1⟩,⟨1,7,a2,H1⟩,⟨1,8,.i b,H1⟩,⟨1,9,.i v,H1⟩,⟨1,11,.bool true,H2⟩,⟨1,15,a3,H2⟩,⟨1,16,.i a,H2⟩,⟨1,17,a4,H2⟩,⟨1,18,.i b,H2⟩,⟨1,19,.bool true,H2⟩] fun kf hk=>⟨_,by kernel_rfl,(oC (g0) (oP H0 g1 (oP H0 g2 (oP H0 g3 (oC (g4 kf) (oP H1 g5 (oP H1 g6 (oP H1 g7 (oC (g8 kf) (oP H2 g9 (oP H2 g10 (oP H2 g11 (oP H2 g12 (oB H2 (decide_eq_true g13) .nil))))))))))))))⟩
theorem nn_a_1 (a b w:Int) (nb:Nat) (H:Heap) (v:Int) {a0:HV} {H0:Heap} {a1:HV} {H1:Heap} {a2:HV} {H2:Heap} {a3:HV} {a4:HV} {a5:HV} {H3:Heap} (g0:some (newV (.agg [.i a,.i b,.i w]) H)=some (a0,H0)) (g1:fldAddrV Tp 42 a0 0=some (a1)) (g2:loadV Tp H0 3 (a1)=some (.i a)) (g3:loadV Tp H0 3 (.ptr nb 0 0 1)=some (.i v)) (g4:∀ kf,callN Tp (plF F) (kf+1) 52 [.i a,.i 0,.i (IntKind.i64.wrap (v - 1))] H0=some (.bool true,H1)) (g5:fldAddrV Tp 42 a0 1=some (a2)) (g6:loadV Tp H1 3 (a2)=some (.i b)) (g7:loadV Tp H1 3 (.ptr nb 0 0 1)=some (.i v)) (g8:∀ kf,callN Tp (plF F) (kf+1) 52 [.i b,.i 0,.i (IntKind.i64.wrap (v - 1))] H1=some (.bool true,H2)) (g9:fldAddrV Tp 42 a0 0=some (a3)) (g10:loadV Tp H2 3 (a3)=some (.i a)) (g11:fldAddrV Tp 42 a0 1=some (a4)) (g12:loadV Tp H2 3 (a4)=some (.i b)) (g13:¬ (a=b)) (g14:fldAddrV Tp 42 a0 2=some (a5)) (g15:loadV Tp H2 3 (a5)=some (.i w)) (g16:∀ kf,callN Tp (plF F) (kf+1) 52 [.i w,.i 0,.i 1000] H2=some (.bool true,H3)):RunsTo Tp (plF F) 60 (sub [] B60) [(0,.agg [.i a,.i b,.i w]),(1,.ptr nb 0 0 1)] H .ret ((plF F).keys 60) (env60 (.agg [.i a,.i b,.i w]) (.ptr nb 0 0 1) a0 (.bool false)) H3 :=
  RunsTo.hin 0 60 [⟨0,0,a0,H0⟩,⟨1,0,a1,H0⟩,⟨1,1,.i a,H0⟩,⟨1,2,.i v,H0⟩,⟨1,4,.bool true,H1⟩,⟨1,7,a2,H1⟩,⟨1,8,.i b,H1⟩,⟨1,9,.i v,H1⟩,⟨1,11,.bool true,H2⟩,⟨1,15,a3,H2⟩,⟨1,16,.i a,H2⟩,⟨1,17,a4,H2⟩,⟨1,18,.i b,H2⟩,⟨1,19,.bool false,H2⟩,⟨1,22,a5,H2⟩,⟨1,23,.i w,H2⟩,⟨1,24,.bool true,H3⟩] fun kf hk=>⟨_,by kernel_rfl,(oC (g0) (oP H0 g1 (oP H0 g2 (oP H0 g3 (oC (g4 kf) (oP H1 g5 (oP H1 g6 (oP H1 g7 (oC (g8 kf) (oP H2 g9 (oP H2 g10 (oP H2 g11 (oP H2 g12 (oB H2 (decide_eq_false g13) (oP H2 g14 (oP H2 g15 (oC (g16 kf) .nil)))))))))))))))))⟩
theorem nn_a_2 (a b w:Int) (nb:Nat) (H:Heap) (v:Int) {a0:HV} {H0:Heap} {a1:HV} {H1:Heap} {a2:HV} {H2:Heap} {a3:HV} {a4:HV} {a5:HV} {H3:Heap} (g0:some (newV (.agg [.i a,.i b,.i w]) H)=some (a0,H0)) (g1:fldAddrV Tp 42 a0 0=some (a1)) (g2:loadV Tp H0 3 (a1)=some (.i a)) (g3:loadV Tp H0 3 (.ptr nb 0 0 1)=some (.i v)) (g4:∀ kf,callN Tp (plF F) (kf+1) 52 [.i a,.i 0,.i (IntKind.i64.wrap (v - 1))] H0=some (.bool true,H1)) (g5:fldAddrV Tp 42 a0 1=some (a2)) (g6:loadV Tp H1 3 (a2)=some (.i b)) (g7:loadV Tp H1 3 (.ptr nb 0 0 1)=some (.i v)) (g8:∀ kf,callN Tp (plF F) (kf+1) 52 [.i b,.i 0,.i (IntKind.i64.wrap (v - 1))] H1=some (.bool true,H2)) (g9:fldAddrV Tp 42 a0 0=some (a3)) (g10:loadV Tp H2 3 (a3)=some (.i a)) (g11:fldAddrV Tp 42 a0 1=some (a4)) (g12:loadV Tp H2 3 (a4)=some (.i b)) (g13:¬ (a=b)) (g14:fldAddrV Tp 42 a0 2=some (a5)) (g15:loadV Tp H2 3 (a5)=some (.i w)) (g16:∀ kf,callN Tp (plF F) (kf+1) 52 [.i w,.i 0,.i 1000] H2=some (.bool false,H3)):RunsTo Tp (plF F) 60 (sub [] B60) [(0,.agg [.i a,.i b,.i w]),(1,.ptr nb 0 0 1)] H .ret ((plF F).keys 60) (env60 (.agg [.i a,.i b,.i w]) (.ptr nb 0 0 1) a0 (.bool true)) H3 :=
  RunsTo.hin 0 60 [⟨0,0,a0,H0⟩,⟨1,0,a1,H0⟩,⟨1,1,.i a,H0⟩,⟨1,2,.i v,H0⟩,⟨1,4,.bool true,H1⟩,⟨1,7,a2,H1⟩,⟨1,8,.i b,H1⟩,⟨1,9,.i v,H1⟩,⟨1,11,.bool true,H2⟩,⟨1,15,a3,H2⟩,⟨1,16,.i a,H2⟩,⟨1,17,a4,H2⟩,⟨1,18,.i b,H2⟩,⟨1,19,.bool false,H2⟩,⟨1,22,a5,H2⟩,⟨1,23,.i w,H2⟩,⟨1,24,.bool false,H3⟩] fun kf hk=>⟨_,by kernel_rfl,(oC (g0) (oP H0 g1 (oP H0 g2 (oP H0 g3 (oC (g4 kf) (oP H1 g5 (oP H1 g6 (oP H1 g7 (oC (g8 kf) (oP H2 g9 (oP H2 g10 (oP H2 g11 (oP H2 g12 (oB H2 (decide_eq_false g13) (oP H2 g14 (oP H2 g15 (oC (g16 kf) .nil)))))))))))))))))⟩
theorem nn_a_3 (a b w:Int) (nb:Nat) (H:Heap) (v:Int) {a0:HV} {H0:Heap} {a1:HV} {H1:Heap} {a2:HV} {H2:Heap} (g0:some (newV (.agg [.i a,.i b,.i w]) H)=some (a0,H0)) (g1:fldAddrV Tp 42 a0 0=some (a1)) (g2:loadV Tp H0 3 (a1)=some (.i a)) (g3:loadV Tp H0 3 (.ptr nb 0 0 1)=some (.i v)) (g4:∀ kf,callN Tp (plF F) (kf+1) 52 [.i a,.i 0,.i (IntKind.i64.wrap (v - 1))] H0=some (.bool true,H1)) (g5:fldAddrV Tp 42 a0 1=some (a2)) (g6:loadV Tp H1 3 (a2)=some (.i b)) (g7:loadV Tp H1 3 (.ptr nb 0 0 1)=some (.i v)) (g8:∀ kf,callN Tp (plF F) (kf+1) 52 [.i b,.i 0,.i (IntKind.i64.wrap (v - 1))] H1=some (.bool false,H2)):RunsTo Tp (plF F) 60 (sub [] B60) [(0,.agg [.i a,.i b,.i w]),(1,.ptr nb 0 0 1)] H .ret ((plF F).keys 60) (env60 (.agg [.i a,.i b,.i w]) (.ptr nb 0 0 1) a0 (.bool true)) H2 :=
  RunsTo.hin 0 60 [⟨0,0,a0,H0⟩,⟨1,0,a1,H0⟩,⟨1,1,.i a,H0⟩,⟨1,2,.i v,H0⟩,⟨1,4,.bool true,H1⟩,⟨1,7,a2,H1⟩,⟨1,8,.i b,H1⟩,⟨1,9,.i v,H1⟩,⟨1,11,.bool false,H2⟩] fun kf hk=>⟨_,by kernel_rfl,(oC (g0) (oP H0 g1 (oP H0 g2 (oP H0 g3 (oC (g4 kf) (oP H1 g5 (oP H1 g6 (oP H1 g7 (oC (g8 kf) .nil)))))))))⟩
theorem nn_a_4 (a b w:Int) (nb:Nat) (H:Heap) (v:Int) {a0:HV} {H0:Heap} {a1:HV} {H1:Heap} (g0:some (newV (.agg [.i a,.i b,.i w]) H)=some (a0,H0)) (g1:fldAddrV Tp 42 a0 0=some (a1)) (g2:loadV Tp H0 3 (a1)=some (.i a)) (g3:loadV Tp H0 3 (.ptr nb 0 0 1)=some (.i v)) (g4:∀ kf,callN Tp (plF F) (kf+1) 52 [.i a,.i 0,.i (IntKind.i64.wrap (v - 1))] H0=some (.bool false,H1)):RunsTo Tp (plF F) 60 (sub [] B60) [(0,.agg [.i a,.i b,.i w]),(1,.ptr nb 0 0 1)] H .ret ((plF F).keys 60) (env60 (.agg [.i a,.i b,.i w]) (.ptr nb 0 0 1) a0 (.bool true)) H1 :=
  RunsTo.hin 0 60 [⟨0,0,a0,H0⟩,⟨1,0,a1,H0⟩,⟨1,1,.i a,H0⟩,⟨1,2,.i v,H0⟩,⟨1,4,.bool false,H1⟩] fun kf hk=>⟨_,by kernel_rfl,(oC (g0) (oP H0 g1 (oP H0 g2 (oP H0 g3 (oC (g4 kf) .nil)))))⟩
noncomputable def B74:Code:=Try.f74.body.getD .skip
abbrev env74 (v0 v1 v4 v5 v7 v8:HV):Env:=[(0,v0),(1,v1),(4,v4),(5,v5),(7,v7),(8,v8)]
theorem ix_a_0 (N:Nat) (ls:List HV) (nb:Nat) (H:Heap):RunsTo Tp (plF F) 74 (sub [0] B74) [(0,.imm .arg 3 ls),(1,.func 60 [] [.ptr nb 0 0 1])] H .normal ((plF F).keys 74) (env74 (.imm .arg 3 ls) (.func 60 [] [.ptr nb 0 0 1]) (.i 0) Ud Ud Ud) H :=
  RunsTo.hin N 60 [] fun kf hk=>⟨_,by kernel_rfl,.nil⟩
theorem ix_b_0 (N:Nat) (ls:List HV) (nb:Nat) (H:Heap) {y5 y7 y8:HV}:RunsTo Tp (plF F) 74 (sub [1,0,0] B74) (env74 (.imm .arg 3 ls) (.func 60 [] [.ptr nb 0 0 1]) (.i 0) y5 y7 y8) H .normal ((plF F).keys 74) (env74 (.imm .arg 3 ls) (.func 60 [] [.ptr nb 0 0 1]) (.i 0) y5 (.i (ls.length:Int)) (.i 0)) H :=
  RunsTo.hin N 60 [] fun kf hk=>⟨_,by kernel_rfl,.nil⟩
theorem ix_l_0 (N:Nat) (ls:List HV) (nb:Nat) (H:Heap) (m j:Nat) (a b w:Int) {y5:HV} {H0:Heap} (g0:(j:Int) < (m:Int)) (g1:idxV Tp 22 (.imm .arg 3 ls) (.i (j:Int))=some (.vptr (.agg [.i a,.i b,.i w]))) (g2:∀ kf,N ≤ kf → callN Tp (plF F) (kf+1) 60 [.agg [.i a,.i b,.i w],.ptr nb 0 0 1] H=some (.bool true,H0)):RunsTo Tp (plF F) 74 (sub [1,0,1,0,0] B74) (env74 (.imm .arg 3 ls) (.func 60 [] [.ptr nb 0 0 1]) (.i 0) y5 (.i (m:Int)) (.i (j:Int))) H .ret ((plF F).keys 74) (env74 (.imm .arg 3 ls) (.func 60 [] [.ptr nb 0 0 1]) (.i (j:Int)) (.i (j:Int)) (.i (m:Int)) (.i (j:Int))) H0 :=
  RunsTo.hin N 60 [⟨2,0,.bool true,H⟩,⟨4,3,.vptr (.agg [.i a,.i b,.i w]),H⟩,⟨4,5,.bool true,H0⟩] fun kf hk=>⟨_,by kernel_rfl,(oB H (decide_eq_true g0) (oP H g1 (oC (g2 kf (by omega)) .nil)))⟩
theorem ix_l_1 (N:Nat) (ls:List HV) (nb:Nat) (H:Heap) (m j:Nat) (a b w:Int) {y5:HV} {H0:Heap} (g0:(j:Int) < (m:Int)) (g1:idxV Tp 22 (.imm .arg 3 ls) (.i (j:Int))=some (.vptr (.agg [.i a,.i b,.i w]))) (g2:∀ kf,N ≤ kf → callN Tp (plF F) (kf+1) 60 [.agg [.i a,.i b,.i w],.ptr nb 0 0 1] H=some (.bool false,H0)):RunsTo Tp (plF F) 74 (sub [1,0,1,0,0] B74) (env74 (.imm .arg 3 ls) (.func 60 [] [.ptr nb 0 0 1]) (.i 0) y5 (.i (m:Int)) (.i (j:Int))) H .normal ((plF F).keys 74) (env74 (.imm .arg 3 ls) (.func 60 [] [.ptr nb 0 0 1]) (.i 0) (.i (j:Int)) (.i (m:Int)) (.i (IntKind.i64.wrap ((j:Int)+1)))) H0 :=
  RunsTo.hin N 60 [⟨2,0,.bool true,H⟩,⟨4,3,.vptr (.agg [.i a,.i b,.i w]),H⟩,⟨4,5,.bool false,H0⟩] fun kf hk=>⟨_,by kernel_rfl,(oB H (decide_eq_true g0) (oP H g1 (oC (g2 kf (by omega)) .nil)))⟩
theorem ix_l_2 (N:Nat) (ls:List HV) (nb:Nat) (H:Heap) (m j:Nat) (a b w:Int) {y5:HV}(g0:¬ ((j:Int) < (m:Int))):RunsTo Tp (plF F) 74 (sub [1,0,1,0,0] B74) (env74 (.imm .arg 3 ls) (.func 60 [] [.ptr nb 0 0 1]) (.i 0) y5 (.i (m:Int)) (.i (j:Int))) H (.exit 0) ((plF F).keys 74) (env74 (.imm .arg 3 ls) (.func 60 [] [.ptr nb 0 0 1]) (.i 0) y5 (.i (m:Int)) (.i (j:Int))) H :=
  RunsTo.hin N 60 [⟨2,0,.bool false,H⟩] fun kf hk=>⟨_,by kernel_rfl,(oB H (decide_eq_false g0) .nil)⟩
theorem ix_z_0 (N:Nat) (ls:List HV) (nb:Nat) (H:Heap) {y5 y7 y8:HV}:RunsTo Tp (plF F) 74 (sub [1,1] B74) (env74 (.imm .arg 3 ls) (.func 60 [] [.ptr nb 0 0 1]) (.i 0) y5 y7 y8) H .ret ((plF F).keys 74) (env74 (.imm .arg 3 ls) (.func 60 [] [.ptr nb 0 0 1]) (.i (-1)) y5 y7 y8) H :=
  RunsTo.hin N 60 [] fun kf hk=>⟨_,by kernel_rfl,.nil⟩
noncomputable def B61:Code:=Try.f61.body.getD .skip
abbrev env61 (v0 v1 v4:HV):Env:=[(0,v0),(1,v1),(4,v4)]
theorem cf_a_0 (N:Nat) (ls:List HV) (nb:Nat) (H:Heap) {r0:Int} {H0:Heap} (g0:∀ kf,N ≤ kf → callN Tp (plF F) (kf+1) 74 [.imm .arg 3 ls,.func 60 [] [.ptr nb 0 0 1]] H=some (.i r0,H0)) (g1:0 ≤ r0):RunsTo Tp (plF F) 61 (sub [] B61) [(0,.imm .arg 3 ls),(1,.func 60 [] [.ptr nb 0 0 1])] H .ret ((plF F).keys 61) (env61 (.imm .arg 3 ls) (.func 60 [] [.ptr nb 0 0 1]) (.bool true)) H0 :=
  RunsTo.hin N 60 [⟨1,2,.i r0,H0⟩,⟨1,3,.bool true,H0⟩] fun kf hk=>⟨_,by kernel_rfl,(oC (g0 kf (by omega)) (oB H0 (decide_eq_true g1) .nil))⟩
theorem cf_a_1 (N:Nat) (ls:List HV) (nb:Nat) (H:Heap) {r0:Int} {H0:Heap} (g0:∀ kf,N ≤ kf → callN Tp (plF F) (kf+1) 74 [.imm .arg 3 ls,.func 60 [] [.ptr nb 0 0 1]] H=some (.i r0,H0)) (g1:¬ (0 ≤ r0)):RunsTo Tp (plF F) 61 (sub [] B61) [(0,.imm .arg 3 ls),(1,.func 60 [] [.ptr nb 0 0 1])] H .ret ((plF F).keys 61) (env61 (.imm .arg 3 ls) (.func 60 [] [.ptr nb 0 0 1]) (.bool false)) H0 :=
  RunsTo.hin N 60 [⟨1,2,.i r0,H0⟩,⟨1,3,.bool false,H0⟩] fun kf hk=>⟨_,by kernel_rfl,(oC (g0 kf (by omega)) (oB H0 (decide_eq_false g1) .nil))⟩
noncomputable def B39:Code:=Try.f39.body.getD .skip
abbrev env39 (v0 v1 v2 v4 v5 v6 v7:HV):Env:=[(0,v0),(1,v1),(2,v2),(4,v4),(5,v5),(6,v6),(7,v7)]
theorem nw_a_0 (N:Nat) (n:Int) (ls:List HV) (H:Heap) {a0:HV} {H0:Heap} {a1:HV} {H1:Heap} {H2:Heap} {H3:Heap} {H4:Heap} (g0:some (newV (.i n) H)=some (a0,H0)) (g1:some (newV (.agg [.i 0,.imm .lit 0 []]) H0)=some (a1,H1)) (g2:loadV Tp H1 3 (a0)=some (.i n)) (g3:∀ kf,callN Tp (plF F) (kf+1) 52 [.i n,.i 1,.i 16] H1=some (.bool true,H2)) (g4:(ls.length:Int) ≤ 60) (g5:∀ kf,N ≤ kf → callN Tp (plF F) (kf+1) 61 [.imm .arg 3 ls,.func 60 [] [a0]] H2=some (.bool true,H3)) (g6:loadV Tp H3 3 (a0)=some (.i n)) (g7:storeV Tp H3 66 (a1) (.agg [.i n,.imm .arg 3 ls])=some H4):RunsTo Tp (plF F) 39 (sub [] B39) [(0,.i n),(1,.imm .arg 3 ls)] H .ret ((plF F).keys 39) (env39 (.i n) (.imm .arg 3 ls) a0 a1 (.bool false) (.func 60 [] [a0]) (.bool false)) H4 :=
  RunsTo.hin N 60 [⟨0,0,a0,H0⟩,⟨0,1,a1,H1⟩,⟨2,0,.i n,H1⟩,⟨2,1,.bool true,H2⟩,⟨2,5,.bool true,H2⟩,⟨2,10,.bool true,H3⟩,⟨3,0,.i n,H3⟩,⟨3,4,.tuple [],H4⟩] fun kf hk=>⟨_,by kernel_rfl,(oC (g0) (oC (g1) (oP H1 g2 (oC (g3 kf) (oB H2 (decide_eq_true g4) (oC (g5 kf (by omega)) (oP H3 g6 (oS g7 .nil))))))))⟩
theorem nw_a_1 (N:Nat) (n:Int) (ls:List HV) (H:Heap) {a0:HV} {H0:Heap} {a1:HV} {H1:Heap} {H2:Heap} {H3:Heap} {H4:Heap} (g0:some (newV (.i n) H)=some (a0,H0)) (g1:some (newV (.agg [.i 0,.imm .lit 0 []]) H0)=some (a1,H1)) (g2:loadV Tp H1 3 (a0)=some (.i n)) (g3:∀ kf,callN Tp (plF F) (kf+1) 52 [.i n,.i 1,.i 16] H1=some (.bool true,H2)) (g4:(ls.length:Int) ≤ 60) (g5:∀ kf,N ≤ kf → callN Tp (plF F) (kf+1) 61 [.imm .arg 3 ls,.func 60 [] [a0]] H2=some (.bool false,H3)) (g6:loadV Tp H3 3 (a0)=some (.i n)) (g7:storeV Tp H3 66 (a1) (.agg [.i n,.imm .arg 3 ls])=some H4):RunsTo Tp (plF F) 39 (sub [] B39) [(0,.i n),(1,.imm .arg 3 ls)] H .ret ((plF F).keys 39) (env39 (.i n) (.imm .arg 3 ls) a0 a1 (.bool true) (.func 60 [] [a0]) (.bool true)) H4 :=
  RunsTo.hin N 60 [⟨0,0,a0,H0⟩,⟨0,1,a1,H1⟩,⟨2,0,.i n,H1⟩,⟨2,1,.bool true,H2⟩,⟨2,5,.bool true,H2⟩,⟨2,10,.bool false,H3⟩,⟨3,0,.i n,H3⟩,⟨3,4,.tuple [],H4⟩] fun kf hk=>⟨_,by kernel_rfl,(oC (g0) (oC (g1) (oP H1 g2 (oC (g3 kf) (oB H2 (decide_eq_true g4) (oC (g5 kf (by omega)) (oP H3 g6 (oS g7 .nil))))))))⟩
theorem nw_a_2 (N:Nat) (n:Int) (ls:List HV) (H:Heap) {a0:HV} {H0:Heap} {a1:HV} {H1:Heap} {H2:Heap} {H3:Heap} (g0:some (newV (.i n) H)=some (a0,H0)) (g1:some (newV (.agg [.i 0,.imm .lit 0 []]) H0)=some (a1,H1)) (g2:loadV Tp H1 3 (a0)=some (.i n)) (g3:∀ kf,callN Tp (plF F) (kf+1) 52 [.i n,.i 1,.i 16] H1=some (.bool true,H2)) (g4:¬ ((ls.length:Int) ≤ 60)) (g5:loadV Tp H2 3 (a0)=some (.i n)) (g6:storeV Tp H2 66 (a1) (.agg [.i n,.imm .arg 3 ls])=some H3):RunsTo Tp (plF F) 39 (sub [] B39) [(0,.i n),(1,.imm .arg 3 ls)] H .ret ((plF F).keys 39) (env39 (.i n) (.imm .arg 3 ls) a0 a1 (.bool false) (.func 60 [] [a0]) (.bool false)) H3 :=
  RunsTo.hin N 60 [⟨0,0,a0,H0⟩,⟨0,1,a1,H1⟩,⟨2,0,.i n,H1⟩,⟨2,1,.bool true,H2⟩,⟨2,5,.bool false,H2⟩,⟨3,0,.i n,H2⟩,⟨3,4,.tuple [],H3⟩] fun kf hk=>⟨_,by kernel_rfl,(oC (g0) (oC (g1) (oP H1 g2 (oC (g3 kf) (oB H2 (decide_eq_false g4) (oP H2 g5 (oS g6 .nil)))))))⟩
theorem nw_a_3 (N:Nat) (n:Int) (ls:List HV) (H:Heap) {a0:HV} {H0:Heap} {a1:HV} {H1:Heap} {H2:Heap} {H3:Heap} (g0:some (newV (.i n) H)=some (a0,H0)) (g1:some (newV (.agg [.i 0,.imm .lit 0 []]) H0)=some (a1,H1)) (g2:loadV Tp H1 3 (a0)=some (.i n)) (g3:∀ kf,callN Tp (plF F) (kf+1) 52 [.i n,.i 1,.i 16] H1=some (.bool false,H2)) (g4:loadV Tp H2 3 (a0)=some (.i n)) (g5:storeV Tp H2 66 (a1) (.agg [.i n,.imm .arg 3 ls])=some H3):RunsTo Tp (plF F) 39 (sub [] B39) [(0,.i n),(1,.imm .arg 3 ls)] H .ret ((plF F).keys 39) (env39 (.i n) (.imm .arg 3 ls) a0 a1 (.bool false) (.func 60 [] [a0]) (.bool false)) H3 :=
  RunsTo.hin N 60 [⟨0,0,a0,H0⟩,⟨0,1,a1,H1⟩,⟨2,0,.i n,H1⟩,⟨2,1,.bool false,H2⟩,⟨3,0,.i n,H2⟩,⟨3,4,.tuple [],H3⟩] fun kf hk=>⟨_,by kernel_rfl,(oC (g0) (oC (g1) (oP H1 g2 (oC (g3 kf) (oP H2 g4 (oS g5 .nil))))))⟩
end
end Go.Proofs.Ytiejmoglooaalaa
end
section
open Go Go.HL
namespace Go.Proofs.Ytiejmoglooaalaa
open Go.Proofs.Try renaming prog → Tp
open Go.HL.HV renaming undef → Ud
section
variable {F:FuncId → Option (List HV → Option HV)}
theorem within_at (h52:F 52=some within52) (n lo hi:Int) (H:Heap):∀ k,callN Tp (plF F) (k+1) 52 [.int .i64 n,.int .i64 lo,.int .i64 hi] H=some (.bool (decide (lo ≤ n∧n ≤ hi)),H) :=
  at3 (pol':=plF F) (g:=52) (c1:=kI) (c2:=kI) (c3:=kI) (f:=fun n lo hi=>some (.bool (decide (lo ≤ n∧n ≤ hi)))) h52 (ShI H n) (ShI H lo) (ShI H hi) rfl
abbrev bT (s:St):Blk:=.arr 3 [encT s] true 0
theorem ldT {H:Heap} {b:Nat} {s:St} (hb:H[b]?=some (bT s)) (off:Nat) (x:Int) (hx:[HV.int .i64 s.1,.int .i64 s.2.1,.int .i64 s.2.2][off]?=some (.int .i64 x)):loadV Tp H 3 (.ptr b 0 off 1)=some (.int .i64 x) :=
  load_cell (P:=Tp) (t:=3) (b:=b) (i:=0) (off:=off) (tot:=1) (els:=[encT s]) (cs:=[.int .i64 s.1,.int .i64 s.2.1,.int .i64 s.2.2]) hb rfl rfl a3 i3 hx
theorem ld1 {H:Heap} {b mx:Nat} {n:Int} (hb:H[b]?=some (.arr 1 [.int .i64 n] true mx)):loadV Tp H 3 (.ptr b 0 0 1)=some (.int .i64 n):=load_elem (b:=b) hb rfl rfl rfl a3 i3
theorem gc_back {H X:Heap} (hm:mxs (H ++ X) ≤ H.length) {r:Nat} (hr:r ≤ H.length):gc H.length r (H ++ X)=H:=by
  unfold gc
  rw [show max H.length (max r (mxs (H ++ X)))=H.length by omega]
  exact List.take_left
theorem bad_call (h52:F 52=some within52) (h60:F 60=none) {H:Heap} {nb:Nat} {n:Int} (hb:H[nb]?=some (.arr 1 [.int .i64 n] true 0)) (hm:mxs H ≤ H.length) (hn:1 ≤ n∧n ≤ 16) (s:St) :
    ClF F 60 [encT s,.ptr nb 0 0 1] H (.bool (!stB n s)) H:=by
  have hw:IntKind.i64.wrap (n - 1)=n - 1:=wrap_id (by omega) (by omega)
  have hx:(H ++ [bT s])[H.length]?=some (bT s):=by rw [List.getElem?_append_right (Nat.le_refl _),Nat.sub_self]; rfl
  have lv:=ld1 (get_l (X:=[bT s]) hb)
  have la:=ldT hx 0 s.1 rfl
  have lb:=ldT hx 1 s.2.1 rfl
  have lw:=ldT hx 2 s.2.2 rfl
  have wi:=fun (x lo hi:Int)=>within_at h52 x lo hi (H ++ [bT s])
  have fin:∀ (v:Bool) (E:Env),RunsTo Tp (plF F) 60 (sub [] B60) [(0,encT s),(1,.ptr nb 0 0 1)] H .ret ((plF F).keys 60) E (H ++ [bT s]) → E.get 3=.bool v → ClF F 60 [encT s,.ptr nb 0 0 1] H (.bool v) H:=fun v E t he=>by
    have hr:Try.f60.results.toList=[.tmp 3]:=by kernel_rfl
    have h:=CallsTo.shared (P:=Tp) (pol:=plF F) (g:=60) (fn:=Try.f60) (cd:=B60) (args:=[encT s,.ptr nb 0 0 1]) (v:=.bool v) h60 (by kernel_rfl) (by kernel_rfl) (by kernel_rfl) t (by kernel_rfl) (by simp) (by simp only [resultsV,hr,mapO,resultV,he])
    rw [gc_back (r:=bnd (.bool v)) (by rw [mxs_app]; show max (mxs H) (max 0 0) ≤ _; omega) (by simp [bnd])] at h
    exact h
  have nv:some (newV (encT s) H)=some (.ptr H.length 0 0 1,H ++ [bT s]):=rfl
  have f0:fldAddrV Tp 42 (.ptr H.length 0 0 1) 0=some (.ptr H.length 0 0 1):=by kernel_rfl
  have f1:fldAddrV Tp 42 (.ptr H.length 0 0 1) 1=some (.ptr H.length 0 1 1):=by kernel_rfl
  have f2:fldAddrV Tp 42 (.ptr H.length 0 0 1) 2=some (.ptr H.length 0 2 1):=by kernel_rfl
  have w1:=wi s.1 0 (IntKind.i64.wrap (n - 1))
  have w2:=wi s.2.1 0 (IntKind.i64.wrap (n - 1))
  have w3:=wi s.2.2 0 1000
  rw [hw] at w1 w2
  by_cases k1:0 ≤ s.1∧s.1 ≤ n - 1
  · rw [decide_eq_true k1] at w1
    by_cases k2:0 ≤ s.2.1∧s.2.1 ≤ n - 1
    · rw [decide_eq_true k2] at w2
      by_cases k3:s.1=s.2.1
      · rw [show stB n s=false from decide_eq_false (fun h=>h.2.2.1 k3)]
        exact fin true _ (nn_a_0 (F:=F) s.1 s.2.1 s.2.2 nb H n nv f0 la lv (by rw [hw]; exact w1) f1 lb lv (by rw [hw]; exact w2) f0 la f1 lb k3) rfl
      · by_cases k4:0 ≤ s.2.2∧s.2.2 ≤ 1000
        · rw [decide_eq_true k4] at w3
          rw [show stB n s=true from decide_eq_true ⟨by omega,by omega,k3,k4⟩]
          exact fin false _ (nn_a_1 (F:=F) s.1 s.2.1 s.2.2 nb H n nv f0 la lv (by rw [hw]; exact w1) f1 lb lv (by rw [hw]; exact w2) f0 la f1 lb k3 f2 lw w3) rfl
        · rw [decide_eq_false k4] at w3
          rw [show stB n s=false from decide_eq_false (fun h=>k4 h.2.2.2)]
          exact fin true _ (nn_a_2 (F:=F) s.1 s.2.1 s.2.2 nb H n nv f0 la lv (by rw [hw]; exact w1) f1 lb lv (by rw [hw]; exact w2) f0 la f1 lb k3 f2 lw w3) rfl
    · rw [decide_eq_false k2] at w2
      rw [show stB n s=false from decide_eq_false (fun h=>k2 (by omega))]
      exact fin true _ (nn_a_3 (F:=F) s.1 s.2.1 s.2.2 nb H n nv f0 la lv (by rw [hw]; exact w1) f1 lb lv (by rw [hw]; exact w2)) rfl
  · rw [decide_eq_false k1] at w1
    rw [show stB n s=false from decide_eq_false (fun h=>k1 (by omega))]
    exact fin true _ (nn_a_4 (F:=F) s.1 s.2.1 s.2.2 nb H n nv f0 la lv (by rw [hw]; exact w1)) rfl
theorem ix_call (h52:F 52=some within52) (h60:F 60=none) (h74:F 74=none) {H:Heap} {nb:Nat} {n:Int} (hb:H[nb]?=some (.arr 1 [.int .i64 n] true 0)) (hm:mxs H ≤ H.length) (hn:1 ≤ n∧n ≤ 16) {l:List St} (hl:l.length ≤ 1000) :
    ∃ r:Int,ClF F 74 [.imm .arg 3 (l.map encT),.func 60 [] [.ptr nb 0 0 1]] H (.int .i64 r) H∧(0 ≤ r ↔ ¬ l.all (stB n)=true):=by
  have go:∀ m,m ≤ l.length → (∀ i,i < m → ¬ stB n (l.getD i (0,0,0))=false) → ∀ i,i < m → RunsTo Tp (plF F) 74 (sub [1,0,1,0,0] B74) ((env74 (.imm .arg 3 (l.map encT)) (.func 60 [] [.ptr nb 0 0 1]) (.int .i64 0) Ud (.int .i64 (l.length:Int)) (.int .i64 (i:Int)))) H .normal ((plF F).keys 74) ((env74 (.imm .arg 3 (l.map encT)) (.func 60 [] [.ptr nb 0 0 1]) (.int .i64 0) (.int .i64 (i:Int)) (.int .i64 (l.length:Int)) (.int .i64 ((i+1:Nat):Int)))) H:=fun m hm' hn' i hi=>by
    have ok:stB n (l.getD i (0,0,0))=true:=by have:=hn' i hi; cases c:stB n (l.getD i (0,0,0)) <;> simp_all
    obtain ⟨N,cN⟩:=CallsTo.from (bad_call h52 h60 hb hm hn (l.getD i (0,0,0)))
    rw [ok] at cN
    have s:=ix_l_1 (F:=F) N (l.map encT) nb H l.length i (l.getD i (0,0,0)).1 (l.getD i (0,0,0)).2.1 (l.getD i (0,0,0)).2.2 (y5:=Ud) (by omega) (gs (by omega)) cN
    rw [wrap_succ (by omega)] at s
    exact s
  have a:=ix_a_0 (F:=F) 0 (l.map encT) nb H
  have b:=ix_b_0 (F:=F) 0 (l.map encT) nb H (y5:=Ud) (y7:=Ud) (y8:=Ud)
  rw [List.length_map] at b
  have hr:Try.f74.results.toList=[.tmp 4]:=by kernel_rfl
  rcases first_at (0,0,0) (fun s=>stB n s=false) l with ⟨m,h1,h2,h3⟩ | hno
  · obtain ⟨N,cN⟩:=CallsTo.from (bad_call h52 h60 hb hm hn (l.getD m (0,0,0)))
    rw [h2] at cN
    have r:=count (pol':=plF F) (f:=74) (E:=fun i=>(env74 (.imm .arg 3 (l.map encT)) (.func 60 [] [.ptr nb 0 0 1]) (.int .i64 0) Ud (.int .i64 (l.length:Int)) (.int .i64 (i:Int)))) (Hs:=fun _=>H) m (go m (by omega) h3) (fun i _=>by kernel_rfl) (fun i _=>gc_eq _ rfl) (ix_l_0 (F:=F) N (l.map encT) nb H l.length m (l.getD m (0,0,0)).1 (l.getD m (0,0,0)).2.1 (l.getD m (0,0,0)).2.2 (y5:=Ud) (by omega) (gs h1) cN) (by simp) (c:=sub [1,0,1,0] B74) (by kernel_rfl) (fun i _=>by kernel_rfl)
    have t:=sq (a) (sqo (sq (b) (RunsTo.block_ret (i:=0) (c:=sub [1,0,1] B74) (r) (by kernel_rfl)) (c:=sub [1,0] B74)) (c:=sub [1] B74) (b:=sub [1,1] B74)) (c:=B74)
    have h:=CallsTo.shared (P:=Tp) (pol:=plF F) (g:=74) (fn:=Try.f74) (cd:=B74) (args:=[.imm .arg 3 (l.map encT),.func 60 [] [.ptr nb 0 0 1]]) (v:=.int .i64 (m:Int)) h74 (by kernel_rfl) (by kernel_rfl) (by kernel_rfl) t (by kernel_rfl) (by simp) (by simp only [resultsV,hr]; rfl)
    rw [gc_eq _ rfl] at h
    refine ⟨_,h,⟨fun _ hall=>?_,fun _=>by omega⟩⟩
    have:=List.all_eq_true.1 hall _ (mem_getD (0,0,0) h1)
    rw [h2] at this; cases this
  · have r:=count (pol':=plF F) (f:=74) (E:=fun i=>(env74 (.imm .arg 3 (l.map encT)) (.func 60 [] [.ptr nb 0 0 1]) (.int .i64 0) Ud (.int .i64 (l.length:Int)) (.int .i64 (i:Int)))) (Hs:=fun _=>H) l.length (go l.length (Nat.le_refl _) fun i hi=>hno _ (mem_getD _ hi)) (fun i _=>by kernel_rfl) (fun i _=>gc_eq _ rfl) (ix_l_2 (F:=F) 0 (l.map encT) nb H l.length l.length 0 0 0 (y5:=Ud) (by omega)) (by simp) (c:=sub [1,0,1,0] B74) (by kernel_rfl) (fun i _=>by kernel_rfl)
    have z:=ix_z_0 (F:=F) 0 (l.map encT) nb H (y5:=Ud) (y7:=.int .i64 (l.length:Int)) (y8:=.int .i64 (l.length:Int))
    have t:=sq (a) (sq (sq (b) (bke (c:=sub [1,0,1] B74) (r)) (c:=sub [1,0] B74)) (z) (c:=sub [1] B74)) (c:=B74)
    have h:=CallsTo.shared (P:=Tp) (pol:=plF F) (g:=74) (fn:=Try.f74) (cd:=B74) (args:=[.imm .arg 3 (l.map encT),.func 60 [] [.ptr nb 0 0 1]]) (v:=.int .i64 (-1)) h74 (by kernel_rfl) (by kernel_rfl) (by kernel_rfl) t (by kernel_rfl) (by simp) (by simp only [resultsV,hr]; rfl)
    rw [gc_eq _ rfl] at h
    refine ⟨_,h,⟨fun h=>by omega,fun hall=>absurd (List.all_eq_true.2 fun s hs=>?_) hall⟩⟩
    have:=hno s hs
    cases c:stB n s <;> simp_all
theorem cf_call (h52:F 52=some within52) (h60:F 60=none) (h61:F 61=none) (h74:F 74=none) {H:Heap} {nb:Nat} {n:Int} (hb:H[nb]?=some (.arr 1 [.int .i64 n] true 0)) (hm:mxs H ≤ H.length) (hn:1 ≤ n∧n ≤ 16) {l:List St} (hl:l.length ≤ 1000) :
    ClF F 61 [.imm .arg 3 (l.map encT),.func 60 [] [.ptr nb 0 0 1]] H (.bool (!l.all (stB n))) H:=by
  obtain ⟨r,hc,hr⟩:=ix_call h52 h60 h74 hb hm hn hl
  obtain ⟨N,cN⟩:=CallsTo.from hc
  have h61r:Try.f61.results.toList=[.tmp 4]:=by kernel_rfl
  by_cases c:0 ≤ r
  · have t:=cf_a_0 (F:=F) N (l.map encT) nb H cN c
    have h:=CallsTo.shared (P:=Tp) (pol:=plF F) (g:=61) (fn:=Try.f61) (cd:=B61) (args:=[.imm .arg 3 (l.map encT),.func 60 [] [.ptr nb 0 0 1]]) (v:=.bool true) h61 (by kernel_rfl) (by kernel_rfl) (by kernel_rfl) t (by kernel_rfl) (by simp) (by simp only [resultsV,h61r]; rfl)
    rw [gc_eq _ rfl] at h
    have:l.all (stB n)=false:=by have:=hr.1 c; cases d:l.all (stB n) <;> simp_all
    rw [this]; exact h
  · have t:=cf_a_1 (F:=F) N (l.map encT) nb H cN c
    have h:=CallsTo.shared (P:=Tp) (pol:=plF F) (g:=61) (fn:=Try.f61) (cd:=B61) (args:=[.imm .arg 3 (l.map encT),.func 60 [] [.ptr nb 0 0 1]]) (v:=.bool false) h61 (by kernel_rfl) (by kernel_rfl) (by kernel_rfl) t (by kernel_rfl) (by simp) (by simp only [resultsV,h61r]; rfl)
    rw [gc_eq _ rfl] at h
    have:l.all (stB n)=true:=by
      cases d:l.all (stB n) with
      | true=>rfl
      | false=>exact absurd (hr.2 (by simp [d])) c
    rw [this]; exact h
structure NwF (F:FuncId → Option (List HV → Option HV)):Prop where
  h39:F 39=none
  h52:F 52=some within52
  h60:F 60=none
  h61:F 61=none
  h74:F 74=none
theorem nw_call (hF:NwF F) {H:Heap} (hm:mxs H ≤ H.length) (n:Int) {l:List St} (hl:l.length ≤ 1000):ClF F 39 [.int .i64 n,.imm .arg 3 (l.map encT)] H (.tuple [encN n l,.bool (netB n l)]) H:=by
  have hr:Try.f39.results.toList=[.cell 4 66,.tmp 5]:=by kernel_rfl
  have g0:∀ (A B:Blk),(H ++ [A] ++ [B])[H.length]?=some A:=fun A B=>by rw [List.append_assoc]; exact get2a H A B
  have g1:∀ (A B:Blk),(H ++ [A] ++ [B])[H.length+1]?=some B:=fun A B=>by rw [List.append_assoc]; exact get2b H A B
  have nv0:some (newV (.int .i64 n) H)=some (.ptr H.length 0 0 1,H ++ [.arr 1 [.int .i64 n] true 0]):=rfl
  have nv1:some (newV (.agg [.int .i64 0,.imm .lit 0 []]) (H ++ [.arr 1 [.int .i64 n] true 0]))=some (.ptr (H.length+1) 0 0 1,H ++ [.arr 1 [.int .i64 n] true 0] ++ [.arr 2 [.agg [.int .i64 0,.imm .lit 0 []]] true 0]):=by
    have:(H ++ [Blk.arr 1 [HV.int .i64 n] true 0]).length=H.length+1:=by simp
    rw [← this]; rfl
  have l0:=ld1 (g0 (.arr 1 [.int .i64 n] true 0) (.arr 2 [.agg [.int .i64 0,.imm .lit 0 []]] true 0))
  have w0:=within_at hF.h52 n 1 16 (H ++ [.arr 1 [.int .i64 n] true 0] ++ [.arr 2 [.agg [.int .i64 0,.imm .lit 0 []]] true 0])
  have st:storeV Tp (H ++ [.arr 1 [.int .i64 n] true 0] ++ [.arr 2 [.agg [.int .i64 0,.imm .lit 0 []]] true 0]) 66 (.ptr (H.length+1) 0 0 1) (encN n l)=some (H ++ [.arr 1 [.int .i64 n] true 0] ++ [bN n l]):=by
    have:=store_agg (P:=Tp) (H:=H ++ [.arr 1 [.int .i64 n] true 0] ++ [.arr 2 [.agg [.int .i64 0,.imm .lit 0 []]] true 0]) (t:=66) (b:=H.length+1) (i:=0) (tot:=1) (k:=2) (mx:=0) (els:=[.agg [.int .i64 0,.imm .lit 0 []]]) (cs:=[.int .i64 0,.imm .lit 0 []]) (new:=[.int .i64 n,.imm .arg 3 (l.map encT)]) (g1 _ _) rfl rfl z66 rfl (by simp) rfl (by simp [bndL,bnd])
    unfold encN
    rw [this]
    congr 1
    rw [List.set_append_right _ _ (by simp)]
    simp only [List.length_append,List.length_singleton,Nat.sub_self]
    rfl
  have hmx:mxs (H ++ [Blk.arr 1 [.int .i64 n] true 0] ++ [Blk.arr 2 [.agg [.int .i64 0,.imm .lit 0 []]] true 0]) ≤ (H ++ [Blk.arr 1 [.int .i64 n] true 0] ++ [Blk.arr 2 [.agg [.int .i64 0,.imm .lit 0 []]] true 0]).length:=by
    rw [mxs_app,mxs_app,List.length_append,List.length_append]; show max (max (mxs H) (max 0 0)) (max 0 0) ≤ _; omega
  have fin:∀ (v:Bool) (E:Env),RunsTo Tp (plF F) 39 (sub [] B39) [(0,.int .i64 n),(1,.imm .arg 3 (l.map encT))] H .ret ((plF F).keys 39) E (H ++ [.arr 1 [.int .i64 n] true 0] ++ [bN n l]) → E.get 4=.ptr (H.length+1) 0 0 1 → E.get 5=.bool v → ClF F 39 [.int .i64 n,.imm .arg 3 (l.map encT)] H (.tuple [encN n l,.bool v]) H:=fun v E t he4 he5=>by
    have ld:loadV Tp (H ++ [.arr 1 [.int .i64 n] true 0] ++ [bN n l]) 66 (.ptr (H.length+1) 0 0 1)=some (encN n l):=load_agg (P:=Tp) (b:=H.length+1) (els:=[encN n l]) (cs:=[.int .i64 n,.imm .arg 3 (l.map encT)]) (g1 _ _) rfl rfl a66 z66
    have h:=CallsTo.shared (P:=Tp) (pol:=plF F) (g:=39) (fn:=Try.f39) (cd:=B39) (args:=[.int .i64 n,.imm .arg 3 (l.map encT)]) (v:=.tuple [encN n l,.bool v]) hF.h39 (by kernel_rfl) (by kernel_rfl) (by kernel_rfl) t (by kernel_rfl) (by simp) (by simp only [resultsV,hr,mapO,resultV,he4,he5,ld])
    rw [List.append_assoc] at h
    rw [gc_back (by rw [mxs_app]; show max (mxs H) (max 0 (max 0 0)) ≤ _; omega) (by simp [bnd,bndL,encN])] at h
    exact h
  by_cases k1:1 ≤ n∧n ≤ 16
  · rw [decide_eq_true k1] at w0
    by_cases k2:l.length ≤ 60
    · have cf:=cf_call hF.h52 hF.h60 hF.h61 hF.h74 (H:=H ++ [.arr 1 [.int .i64 n] true 0] ++ [.arr 2 [.agg [.int .i64 0,.imm .lit 0 []]] true 0]) (g0 _ _) hmx k1 hl
      obtain ⟨N,cN⟩:=CallsTo.from cf
      have e:netB n l=l.all (stB n):=by rw [netB,decide_eq_true ⟨k1,k2⟩,Bool.and_true]
      rw [e]
      cases d:l.all (stB n) with
      | true =>
        rw [d] at cN
        exact fin true _ (nw_a_1 (F:=F) N n (l.map encT) H nv0 nv1 l0 w0 (by rw [List.length_map]; omega) cN l0 st) rfl rfl
      | false =>
        rw [d] at cN
        exact fin false _ (nw_a_0 (F:=F) N n (l.map encT) H nv0 nv1 l0 w0 (by rw [List.length_map]; omega) cN l0 st) rfl rfl
    · rw [show netB n l=false by rw [netB,decide_eq_false (fun h=>k2 h.2),Bool.and_false]]
      exact fin false _ (nw_a_2 (F:=F) 0 n (l.map encT) H nv0 nv1 l0 w0 (by rw [List.length_map]; omega) l0 st) rfl rfl
  · rw [decide_eq_false k1] at w0
    rw [show netB n l=false by rw [netB,decide_eq_false (fun h=>k1 h.1),Bool.and_false]]
    exact fin false _ (nw_a_3 (F:=F) 0 n (l.map encT) H nv0 nv1 l0 w0 l0 st) rfl rfl
end
end Go.Proofs.Ytiejmoglooaalaa
end
section
open Go Go.HL
namespace Go.Proofs.Ytiejmoglooaalaa
open Go.Proofs.Try renaming prog → Tp
open Go.HL.HV renaming undef → Ud
def endN (n:Int) (l:List St):Bool:=l.all fun s=>decide ((0 ≤ s.1∧s.1 < n)∧0 ≤ s.2.1∧s.2.1 < n)
theorem endN_iff {n:Int} {l:List St}:endN n l=true ↔ ∀ s ∈ l,(0 ≤ s.1∧s.1 < n)∧0 ≤ s.2.1∧s.2.1 < n:=by simp [endN]
theorem endN_B {n:Int} {l:List St} (h:endN n l=true) (hn:n ≤ 16):endB l=true:=endB_iff.2 fun s hs=>by have:=endN_iff.1 h s hs; omega
def selT (l:List St) (t:List Int):List Int:=(startT l.length).filter fun k=>decide (k ∈ tkT l t)
theorem labT_succ (l:List St) (t:List Int) {i:Nat} (hi:i < t.length):labT l (t.take (i+1))=joinT (labT l (t.take i)) (sA l (t.getD i 0)) (sB l (t.getD i 0)):=by
  rw [labT,ksT_succ l t hi]; rfl
theorem tkT_succ (l:List St) (t:List Int) {i:Nat} (hi:i < t.length):tkT l (t.take (i+1))=if (labT l (t.take i)).getD (sA l (t.getD i 0)).toNat 0 ≠ (labT l (t.take i)).getD (sB l (t.getD i 0)).toNat 0 then tkT l (t.take i) ++ [t.getD i 0] else tkT l (t.take i):=by
  rw [tkT,ksT_succ l t hi]; rfl
theorem joinT_eqv {g:List Int} {a b:Int} (h:g.getD a.toNat 0=g.getD b.toNat 0):joinT g a b=g:=by
  unfold joinT
  rw [h]
  conv=>rhs; rw [← List.map_id g]
  refine List.map_congr_left fun x _=>?_
  unfold labS
  split
  · rename_i h; rw [h]; simp
  · rfl
theorem idxS {t b len:Nat} {cap:Option Nat} {e:TypeId} (ht:Tp.underlying t=some (.slice e)) (hs:tySize Tp e=some 1) {i:Nat} (h:i < len):idxV Tp t (.sl b 0 len cap len 1) (.int .i64 (i:Int))=some (.ptr b i 0 len):=by
  have:=idx_sl (P:=Tp) (t:=t) (b:=b) (len:=len) (tot:=len) (cap:=cap) (ik:=.i64) (n:=(i:Int)) ht hs (by omega) (by omega)
  rwa [Int.toNat_natCast] at this
end Go.Proofs.Ytiejmoglooaalaa
end
section
open Go Go.HL
namespace Go.Proofs.Ytiejmoglooaalaa
open Go.Proofs.Try renaming prog → Tp
open Go.HL.HV renaming undef → Ud
def fN (p:Nat → Bool):Nat → Nat → Option Nat
  | 0,_=>none
  | k+1,i=>if p i then some i else fN p k (i+1)
theorem fN_some {p:Nat → Bool}:∀ {k i m:Nat},fN p k i=some m → i ≤ m∧m < i+k∧p m=true∧∀ j,i ≤ j → j < m → p j=false
  | 0,i,m,h=>by cases h
  | k+1,i,m,h=>by
    rw [fN] at h
    split at h
    · rename_i hp
      cases h
      exact ⟨Nat.le_refl _,by omega,hp,fun j h1 h2=>by omega⟩
    · rename_i hp
      obtain ⟨h1,h2,h3,h4⟩:=fN_some h
      refine ⟨by omega,by omega,h3,fun j g1 g2=>?_⟩
      by_cases e:j=i
      · subst e; cases c:p j <;> simp_all
      · exact h4 j (by omega) g2
theorem fN_none {p:Nat → Bool}:∀ {k i:Nat},fN p k i=none → ∀ j,i ≤ j → j < i+k → p j=false
  | 0,i,_,j,h1,h2=>by omega
  | k+1,i,h,j,h1,h2=>by
    rw [fN] at h
    split at h
    · cases h
    · rename_i hp
      by_cases e:j=i
      · subst e; cases c:p j <;> simp_all
      · exact fN_none h j (by omega) (by omega)
theorem netB_ends {n:Int} {l:List St} (h:netB n l=true):(1 ≤ n∧n ≤ 16)∧l.length ≤ 60∧endN n l=true∧(∀ s ∈ l,0 ≤ s.2.2∧s.2.2 ≤ 1000):=by
  simp only [netB,Bool.and_eq_true,List.all_eq_true,decide_eq_true_eq,stB] at h
  obtain ⟨h1,h2,h3⟩:=h
  refine ⟨h2,h3,endN_iff.2 fun s hs=>?_,fun s hs=>?_⟩
  · have:=h1 s hs; omega
  · have:=h1 s hs; omega
theorem stN {n:Int} {l:List St}:storeV Tp [.arr 2 [.agg [.int .i64 0,.imm .lit 0 []]] true 0] 66 (.ptr 0 0 0 1) (encN n l)=some [bN n l]:=by
  have:=store_agg (P:=Tp) (H:=[.arr 2 [.agg [.int .i64 0,.imm .lit 0 []]] true 0]) (t:=66) (b:=0) (i:=0) (tot:=1) (k:=2) (mx:=0) (els:=[.agg [.int .i64 0,.imm .lit 0 []]]) (cs:=[.int .i64 0,.imm .lit 0 []]) (new:=[.int .i64 n,.imm .arg 3 (l.map encT)]) rfl rfl rfl z66 rfl (by simp) rfl (by simp [bndL,bnd])
  unfold encN
  rw [this]
  rfl
theorem ld66 {H:Heap} {b:Nat} {n:Int} {l:List St} (hb:H[b]?=some (bN n l)):loadV Tp H 66 (.ptr b 0 0 1)=some (encN n l):=load_agg (P:=Tp) (b:=b) (els:=[encN n l]) (cs:=[.int .i64 n,.imm .arg 3 (l.map encT)]) hb rfl rfl a66 z66
end Go.Proofs.Ytiejmoglooaalaa
end
section
open Go Go.HL
namespace Go.Proofs.Ytiejmoglooaalaa
open Go.Proofs.Try renaming prog → Tp
open Go.HL.HV renaming undef → Ud
theorem box_nv (H:Heap):some (newV (.agg [.int .i64 0,.int .i64 0,.int .i64 0]) H)=some (.ptr H.length 0 0 1,H ++ [.arr 3 [.agg [.int .i64 0,.int .i64 0,.int .i64 0]] true 0]):=rfl
theorem box_st (H:Heap) (s:St):storeV Tp (H ++ [.arr 3 [.agg [.int .i64 0,.int .i64 0,.int .i64 0]] true 0]) 42 (.ptr H.length 0 0 1) (encT s)=some (H ++ [bT s]):=by
  have:=store_agg (P:=Tp) (H:=H ++ [.arr 3 [.agg [.int .i64 0,.int .i64 0,.int .i64 0]] true 0]) (t:=42) (b:=H.length) (i:=0) (tot:=1) (k:=3) (mx:=0) (els:=[.agg [.int .i64 0,.int .i64 0,.int .i64 0]]) (cs:=[.int .i64 0,.int .i64 0,.int .i64 0]) (new:=[.int .i64 s.1,.int .i64 s.2.1,.int .i64 s.2.2]) (by rw [List.getElem?_append_right (Nat.le_refl _),Nat.sub_self]; rfl) rfl rfl z42 rfl (by simp) rfl (by simp [bndL,bnd])
  unfold encT
  rw [this]
  refine congrArg some ?_
  rw [List.set_append_right _ _ (Nat.le_refl _),Nat.sub_self]
  rfl
theorem fld0 (b:Nat):fldAddrV Tp 42 (.ptr b 0 0 1) 0=some (.ptr b 0 0 1):=by kernel_rfl
theorem fld1 (b:Nat):fldAddrV Tp 42 (.ptr b 0 0 1) 1=some (.ptr b 0 1 1):=by kernel_rfl
theorem idxU {b n:Nat} {v:Int} (h:0 ≤ v∧v < (n:Int)) {cap:Option Nat}:idxV Tp 24 (.sl b 0 n cap n 1) (.int .i64 v)=some (.ptr b v.toNat 0 n):=by
  have:=idxS (b:=b) (cap:=cap) u24 z3 (i:=v.toNat) (len:=n) (by omega)
  rwa [show ((v.toNat:Nat):Int)=v by omega] at this
end Go.Proofs.Ytiejmoglooaalaa
end
section
open Go Go.HL
namespace Go.Proofs.Ytiejmoglooaalaa
def frT (l:List St):List Int:=selT l (ordT l)
theorem frT_le (l:List St):(frT l).length ≤ l.length:=by
  have:=List.length_filter_le (fun k=>decide (k ∈ tkT l (ordT l))) (startT l.length)
  rwa [startT_len] at this
end Go.Proofs.Ytiejmoglooaalaa
end
section
open Go Go.HL
namespace Go.Proofs.Ytiejmoglooaalaa
theorem take_snoc {g:List Int} {i:Nat} (h:i < g.length):g.take (i+1)=g.take i ++ [g.getD i 0]:=by
  rw [List.take_add_one,List.getElem?_eq_getElem h,getD_at h]; rfl
theorem tk_sub (l:List St) (t:List Int):∀ i,i ≤ t.length → ∀ x ∈ tkT l (t.take i),x ∈ t:=by
  intro i
  induction i with
  | zero=>intro _ x hx; simp [tkT,ksT] at hx
  | succ i ih =>
    intro hi x hx
    rw [tkT_succ l t (by omega)] at hx
    split at hx
    · rcases List.mem_append.1 hx with h | h
      · exact ih (by omega) x h
      · rw [List.mem_singleton.1 h]; exact mem_getD 0 (by omega)
    · exact ih (by omega) x hx
theorem tree_in {l:List St} {x:Int} (h:x ∈ treeT l):0 ≤ x∧x < (l.length:Int):=by
  have:=tk_sub l (ordT l) (ordT l).length (Nat.le_refl _) x (by rw [List.take_length]; exact h)
  exact ordT_mem.1 this
theorem res_lii {H:Heap} {b k:Nat} {o:List Int} (hb:H[b]?=some (bI o)) (hk:o.length=k) (m e:Int):toRes H false (.tuple [.sl b 0 k none k 1,.int .i64 m,.int .i64 e])=some (.tuple [.own 1 (o.map encI),.int .i64 m,.int .i64 e]):=by
  have hr:=resCell_sl (H:=H) (no:=[b]) (b:=b) (k:=1) (m:=k) (cap:=none) (els:=o.map encI) hb (by simpa using hk) (mapO_self (fun r=>frz_int 4 r) _)
  have ho:ownedAll H false (.tuple [.sl b 0 k none k 1,.int .i64 m,.int .i64 e])=[b]:=by simp [ownedAll,cellsOf,owned,hb]
  simp only [toRes,ho,List.nodup_cons,List.not_mem_nil,not_false_eq_true,List.nodup_nil,and_self,if_true,resVal,mapO,hr]
  rfl
end Go.Proofs.Ytiejmoglooaalaa
end
section
open Go Go.HL
namespace Go.Proofs.Ytiejmoglooaalaa
theorem sub_filter {t s:List Int} (h:s.Sublist t) (hn:t.Nodup):t.filter (fun x=>decide (x ∈ s))=s:=by
  induction h with
  | slnil=>rfl
  | @cons s t a h ih =>
    have hn':=List.nodup_cons.1 hn
    rw [List.filter_cons_of_neg (by simpa using fun c=>hn'.1 (h.subset c))]
    exact ih hn'.2
  | @cons_cons s t a h ih =>
    have hn':=List.nodup_cons.1 hn
    rw [List.filter_cons_of_pos (by simp)]
    refine congrArg (a :: ·) ?_
    rw [← ih hn'.2]
    refine (List.filter_congr fun x hx=>?_)
    have:x ≠ a:=fun c=>hn'.1 (c ▸ hx)
    rw [ih hn'.2]
    simp [this]
theorem tk_sublist (l:List St) (t:List Int):∀ i,i ≤ t.length → (tkT l (t.take i)).Sublist (t.take i):=by
  intro i
  induction i with
  | zero=>intro _; exact List.Sublist.refl _
  | succ i ih =>
    intro hi
    rw [tkT_succ l t (by omega),take_snoc (by omega)]
    split
    · exact (ih (by omega)).append (List.Sublist.refl _)
    · exact (ih (by omega)).trans (List.sublist_append_left _ _)
theorem ordT_nodup (l:List St):(ordT l).Nodup:=(ordN_perm l l.length).nodup_iff.2 (startT_nodup _)
theorem frT_mem {l:List St} {x:Int}:x ∈ frT l ↔ x ∈ treeT l:=by
  rw [frT,selT,List.mem_filter]
  exact ⟨fun h=>of_decide_eq_true h.2,fun h=>⟨startT_mem.2 (tree_in h),decide_eq_true h⟩⟩
theorem tree_filter (l:List St):(ordT l).filter (fun x=>decide (x ∈ treeT l))=treeT l:=by
  have:=tk_sublist l (ordT l) (ordT l).length (Nat.le_refl _)
  rw [List.take_length] at this
  exact sub_filter this (ordT_nodup l)
theorem fr_len (l:List St):(frT l).length=(treeT l).length:=by
  have h:((ordT l).filter fun x=>decide (x ∈ treeT l)).Perm (frT l):=(ordN_perm l l.length).filter _
  rw [← h.length_eq,tree_filter]
theorem res_li1 {H:Heap} {b k:Nat} {o:List Int} (hb:H[b]?=some (bI o)) (hk:o.length=k) (m:Int):toRes H false (.tuple [.sl b 0 k none k 1,.int .i64 m])=some (.tuple [.own 1 (o.map encI),.int .i64 m]):=by
  have hr:=resCell_sl (H:=H) (no:=[b]) (b:=b) (k:=1) (m:=k) (cap:=none) (els:=o.map encI) hb (by simpa using hk) (mapO_self (fun r=>frz_int 4 r) _)
  have ho:ownedAll H false (.tuple [.sl b 0 k none k 1,.int .i64 m])=[b]:=by simp [ownedAll,cellsOf,owned,hb]
  simp only [toRes,ho,List.nodup_cons,List.not_mem_nil,not_false_eq_true,List.nodup_nil,and_self,if_true,resVal,mapO,hr]
  rfl
end Go.Proofs.Ytiejmoglooaalaa
end
section
open Go Go.HL
namespace Go.Proofs.Ytiejmoglooaalaa
set_option linter.unusedSectionVars false
inductive Cn (l:List St) (t:List Int):Int → Int → Prop
  | refl (v:Int):Cn l t v v
  | edge {k:Int} (h:k ∈ t):Cn l t (sA l k) (sB l k)
  | symm {u v:Int} (h:Cn l t u v):Cn l t v u
  | trans {u v w:Int} (h:Cn l t u v) (h2:Cn l t v w):Cn l t u w
theorem Cn.mono {l:List St} {t t':List Int} (hs:∀ k ∈ t,k ∈ t') {u v:Int} (h:Cn l t u v):Cn l t' u v:=by
  induction h with
  | refl v=>exact .refl v
  | edge h=>exact .edge (hs _ h)
  | symm _ ih=>exact .symm ih
  | trans _ _ h1 h2=>exact .trans h1 h2
def lb (l:List St) (t:List Int) (v:Int):Int:=(labT l t).getD v.toNat 0
section
variable {l:List St} (he:endB l=true) {t:List Int} (ht:∀ k ∈ t,0 ≤ k∧k < (l.length:Int))
include he ht
theorem lb_lo {v:Int} (hv:0 ≤ v∧v < 16):0 ≤ lb l t v∧lb l t v ≤ v∧lb l t (lb l t v)=lb l t v:=by
  have h:=(ksT_up he ht).lab v.toNat (by omega)
  refine ⟨h.1,?_,h.2.2.2⟩
  have:=h.2.1
  show (ksT l t).2.1.getD v.toNat 0 ≤ v
  omega
theorem lb_rng {v:Int} (hv:0 ≤ v∧v < 16):0 ≤ lb l t v∧lb l t v < 16:=by
  have:=lb_lo he ht hv
  omega
theorem lb_succ {i:Nat} (hi:i < t.length) {v:Int} (hv:0 ≤ v∧v < 16):lb l (t.take (i+1)) v=labS (min (lb l (t.take i) (sA l (t.getD i 0))) (lb l (t.take i) (sB l (t.getD i 0)))) (max (lb l (t.take i) (sA l (t.getD i 0))) (lb l (t.take i) (sB l (t.getD i 0)))) (lb l (t.take i) v):=by
  have hU:=ksT_up he (t:=t.take i) fun k hk=>ht k (List.mem_of_mem_take hk)
  have hl:(labT l (t.take i)).length=16:=hU.lg
  rw [lb,labT_succ l t hi,joinT,getD_map (by rw [hl]; omega)]
  rfl
theorem lb_cn_take:∀ i,i ≤ t.length → ∀ v:Int,0 ≤ v∧v < 16 → Cn l (t.take i) (lb l (t.take i) v) v:=by
  intro i
  induction i with
  | zero =>
    intro _ v hv
    have:lb l (t.take 0) v=v:=by
      show (startT 16).getD v.toNat 0=v
      have:v.toNat < 16:=by omega
      simp [startT,List.getD,this]; omega
    rw [this]; exact .refl v
  | succ i ih =>
    intro hi v hv
    have hk:=ht _ (mem_getD 0 (show i < t.length by omega))
    obtain ⟨ea,eb⟩:=ends he hk
    have ih:=ih (by omega)
    have hm:∀ x ∈ t.take i,x ∈ t.take (i+1):=fun x hx=>by rw [take_snoc (by omega)]; exact List.mem_append_left _ hx
    have hA:=(ih _ ea).mono hm
    have hB:=(ih _ eb).mono hm
    have hE:Cn l (t.take (i+1)) (sA l (t.getD i 0)) (sB l (t.getD i 0)):=.edge (by rw [take_snoc (by omega)]; simp)
    have hAB:Cn l (t.take (i+1)) (lb l (t.take i) (sA l (t.getD i 0))) (lb l (t.take i) (sB l (t.getD i 0))):=.trans hA (.trans hE (.symm hB))
    have hV:=(ih v hv).mono hm
    rw [lb_succ he ht (by omega) hv]
    generalize lb l (t.take i) (sA l (t.getD i 0))=A at *
    generalize lb l (t.take i) (sB l (t.getD i 0))=B at *
    unfold labS
    split
    · rename_i hx
      rw [hx] at hV
      refine .trans ?_ hV
      rcases Int.le_total A B with c | c
      · rw [Int.min_eq_left c,Int.max_eq_right c]; exact hAB
      · rw [Int.min_eq_right c,Int.max_eq_left c]; exact .symm hAB
    · exact hV
theorem lb_cn {v:Int} (hv:0 ≤ v∧v < 16):Cn l t (lb l t v) v:=by
  have:=lb_cn_take he ht t.length (Nat.le_refl _) v hv
  rwa [List.take_length] at this
theorem lb_edge_take {j:Nat} (hj:j < t.length):∀ d,j+1+d ≤ t.length → lb l (t.take (j+1+d)) (sA l (t.getD j 0))=lb l (t.take (j+1+d)) (sB l (t.getD j 0)):=by
  have hk:=ht _ (mem_getD 0 hj)
  obtain ⟨ea,eb⟩:=ends he hk
  intro d
  induction d with
  | zero =>
    intro _
    rw [Nat.add_zero,lb_succ he ht hj ea,lb_succ he ht hj eb]
    unfold labS
    split <;> split <;> omega
  | succ d ih =>
    intro h
    have:=ih (by omega)
    rw [show j+1+(d+1)=(j+1+d)+1 by omega,lb_succ he ht (by omega) ea,lb_succ he ht (by omega) eb,this]
theorem lb_edge {k:Int} (hk:k ∈ t):lb l t (sA l k)=lb l t (sB l k):=by
  obtain ⟨j,hj,rfl⟩:=List.getElem_of_mem hk
  have:=lb_edge_take he ht hj (t.length - (j+1)) (by omega)
  rw [show j+1+(t.length - (j+1))=t.length by omega,List.take_length,getD_at hj] at this
  exact this
theorem cn_lb {u v:Int} (h:Cn l t u v):lb l t u=lb l t v:=by
  induction h with
  | refl v=>rfl
  | edge h=>exact lb_edge he ht h
  | symm _ ih=>exact ih.symm
  | trans _ _ h1 h2=>exact h1.trans h2
theorem lb_iff {u v:Int} (hu:0 ≤ u∧u < 16) (hv:0 ≤ v∧v < 16):lb l t u=lb l t v ↔ Cn l t u v :=
  ⟨fun h=>.trans (.symm (lb_cn he ht hu)) (h ▸ lb_cn he ht hv),cn_lb he ht⟩
theorem lb_le {t':List Int} (ht':∀ k ∈ t',0 ≤ k∧k < (l.length:Int)) (hs:∀ k ∈ t,k ∈ t') {v:Int} (hv:0 ≤ v∧v < 16):lb l t' v ≤ lb l t v:=by
  have h1:=cn_lb he ht' ((lb_cn he ht hv).mono hs)
  have h2:=lb_lo he ht' (lb_rng he ht hv)
  omega
end
theorem lb_same {l:List St} (he:endB l=true) {t t':List Int} (ht:∀ k ∈ t,0 ≤ k∧k < (l.length:Int)) (hs:∀ k,k ∈ t ↔ k ∈ t') {v:Int} (hv:0 ≤ v∧v < 16):lb l t v=lb l t' v:=by
  have ht':∀ k ∈ t',0 ≤ k∧k < (l.length:Int):=fun k hk=>ht k ((hs k).2 hk)
  have h1:=lb_le he ht ht' (fun k hk=>(hs k).1 hk) hv
  have h2:=lb_le he ht' ht (fun k hk=>(hs k).2 hk) hv
  omega
theorem lab_same {l:List St} (he:endB l=true) {t t':List Int} (ht:∀ k ∈ t,0 ≤ k∧k < (l.length:Int)) (hs:∀ k,k ∈ t ↔ k ∈ t'):labT l t=labT l t':=by
  have ht':∀ k ∈ t',0 ≤ k∧k < (l.length:Int):=fun k hk=>ht k ((hs k).2 hk)
  have h1:(labT l t).length=16:=(ksT_up he ht).lg
  have h2:(labT l t').length=16:=(ksT_up he ht').lg
  apply List.ext_getElem (by rw [h1,h2])
  intro i hi hi'
  have:=lb_same he ht hs (v:=(i:Int)) (by omega)
  rw [lb,lb,Int.toNat_natCast,getD_at hi,getD_at hi'] at this
  exact this
end Go.Proofs.Ytiejmoglooaalaa
end
section
open Go Go.HL
namespace Go.Proofs.Ytiejmoglooaalaa
set_option linter.unusedSectionVars false
def rt (g:List Int):Nat:=((List.range 16).filter fun v=>decide (g.getD v 0=(v:Int))).length
theorem filter_drop1 {α:Type} {p q:α → Bool} {x:α}:∀ {s:List α},s.Nodup → x ∈ s → p x=true → (∀ y ∈ s,y ≠ x → q y=p y) → q x=false → (s.filter p).length=(s.filter q).length+1
  | [],_,h,_,_,_=>by cases h
  | y :: s,hn,h,hp,hq,hx=>by
    obtain ⟨h1,h2⟩:=List.nodup_cons.1 hn
    by_cases e:y=x
    · subst e
      rw [List.filter_cons_of_pos hp,List.filter_cons_of_neg (by simp [hx]),List.length_cons]
      refine congrArg (·+1) (congrArg _ (List.filter_congr fun z hz=>?_))
      exact (hq z (List.mem_cons_of_mem _ hz) fun c=>h1 (c ▸ hz)).symm
    · have hm:x ∈ s:=(List.mem_cons.1 h).resolve_left fun c=>e c.symm
      have ih:=filter_drop1 h2 hm hp (fun z hz hne=>hq z (List.mem_cons_of_mem _ hz) hne) hx
      have hy:=hq y (List.mem_cons_self ..) e
      by_cases c:p y=true
      · rw [List.filter_cons_of_pos c,List.filter_cons_of_pos (by rw [hy]; exact c),List.length_cons,List.length_cons,ih]
      · rw [List.filter_cons_of_neg c,List.filter_cons_of_neg (by rw [hy]; exact c),ih]
theorem rt_join {us g:List Int} (h:Up us g) {u v:Nat} (hu:u < 16) (hv:v < 16) (hne:g.getD u 0 ≠ g.getD v 0):rt g=rt (joinT g (u:Int) (v:Int))+1:=by
  obtain ⟨a1,a2,a3,a4⟩:=h.lab u hu
  obtain ⟨b1,b2,b3,b4⟩:=h.lab v hv
  have hget:∀ w:Nat,w < 16 → (joinT g (u:Int) (v:Int)).getD w 0=labS (min (g.getD u 0) (g.getD v 0)) (max (g.getD u 0) (g.getD v 0)) (g.getD w 0):=fun w hw=>by
    rw [joinT,getD_map (by rw [h.lg]; exact hw),Int.toNat_natCast,Int.toNat_natCast]
  generalize hA:g.getD u 0=A at *
  generalize hB:g.getD v 0=B at *
  have hmx:0 ≤ max A B∧max A B < 16:=by omega
  have hmr:g.getD (max A B).toNat 0=max A B:=by
    rcases Int.le_total A B with c | c
    · rw [Int.max_eq_right c]; exact b4
    · rw [Int.max_eq_left c]; exact a4
  have hmn:g.getD (min A B).toNat 0=min A B:=by
    rcases Int.le_total A B with c | c
    · rw [Int.min_eq_left c]; exact a4
    · rw [Int.min_eq_right c]; exact b4
  refine filter_drop1 (x:=(max A B).toNat) List.nodup_range (List.mem_range.2 (by omega)) (decide_eq_true (by rw [hmr]; omega)) (fun y hy hyne=>?_) ?_
  · have hy:=List.mem_range.1 hy
    rw [hget y hy,decide_eq_decide]
    unfold labS
    split
    · rename_i hc
      constructor
      · intro e
        exfalso
        have:(min A B).toNat=y:=by omega
        rw [← this,hmn] at hc
        omega
      · intro e; exfalso; omega
    · exact Iff.rfl
  · rw [hget _ (by omega),hmr]
    unfold labS
    rw [if_pos rfl]
    exact decide_eq_false (by omega)
theorem rt_start:rt (startT 16)=16:=by decide +kernel
theorem tk_rank {l:List St} (he:endB l=true) {t:List Int} (ht:∀ k ∈ t,0 ≤ k∧k < (l.length:Int)):(tkT l t).length+rt (labT l t)=16:=by
  have key:∀ i,i ≤ t.length → (tkT l (t.take i)).length+rt (labT l (t.take i))=16:=by
    intro i
    induction i with
    | zero=>intro _; exact rt_start
    | succ i ih =>
      intro hi
      have ih:=ih (by omega)
      have hk:=ht _ (mem_getD 0 (show i < t.length by omega))
      obtain ⟨ea,eb⟩:=ends he hk
      have hU:=ksT_up he (t:=t.take i) fun k hk=>ht k (List.mem_of_mem_take hk)
      rw [tkT_succ l t (by omega),labT_succ l t (by omega)]
      split
      · rename_i hne
        have:=rt_join hU (u:=(sA l (t.getD i 0)).toNat) (v:=(sB l (t.getD i 0)).toNat) (by omega) (by omega) hne
        rw [show (((sA l (t.getD i 0)).toNat:Nat):Int)=sA l (t.getD i 0) by omega,show (((sB l (t.getD i 0)).toNat:Nat):Int)=sB l (t.getD i 0) by omega] at this
        rw [List.length_append,List.length_singleton]
        show (tkT l (t.take i)).length+1+rt (joinT (ksT l (t.take i)).2.1 _ _)=16
        have e:labT l (t.take i)=(ksT l (t.take i)).2.1:=rfl
        rw [e] at ih
        omega
      · rename_i hne
        have e:joinT (labT l (t.take i)) (sA l (t.getD i 0)) (sB l (t.getD i 0))=labT l (t.take i):=joinT_eqv (Decidable.not_not.1 hne)
        rw [e]; exact ih
  have:=key t.length (Nat.le_refl _)
  rwa [List.take_length] at this
theorem tk_len_same {l:List St} (he:endB l=true) {t t':List Int} (ht:∀ k ∈ t,0 ≤ k∧k < (l.length:Int)) (hs:∀ k,k ∈ t ↔ k ∈ t'):(tkT l t).length=(tkT l t').length:=by
  have h1:=tk_rank he ht
  have h2:=tk_rank he (t:=t') fun k hk=>ht k ((hs k).2 hk)
  rw [lab_same he ht hs] at h1
  omega
theorem ks_tk {l:List St} {t:List Int}:∀ i,i ≤ t.length → labT l (tkT l (t.take i))=labT l (t.take i)∧tkT l (tkT l (t.take i))=tkT l (t.take i):=by
  intro i
  induction i with
  | zero=>intro _; exact ⟨rfl,rfl⟩
  | succ i ih =>
    intro hi
    obtain ⟨h1,h2⟩:=ih (by omega)
    have hts:=tkT_succ l t (i:=i) (by omega)
    have hls:=labT_succ l t (i:=i) (by omega)
    by_cases c:(labT l (t.take i)).getD (sA l (t.getD i 0)).toNat 0 ≠ (labT l (t.take i)).getD (sB l (t.getD i 0)).toNat 0
    · rw [if_pos c] at hts
      rw [hts,hls]
      have hn:=fun s:List Int=>take_snoc (g:=s ++ [t.getD i 0]) (i:=s.length) (by simp)
      have a1:=labT_succ l (tkT l (t.take i) ++ [t.getD i 0]) (i:=(tkT l (t.take i)).length) (by simp)
      have a2:=tkT_succ l (tkT l (t.take i) ++ [t.getD i 0]) (i:=(tkT l (t.take i)).length) (by simp)
      have g0:(tkT l (t.take i) ++ [t.getD i 0]).getD (tkT l (t.take i)).length 0=t.getD i 0:=by simp [List.getD]
      rw [List.take_of_length_le (by simp),g0,List.take_left,h1] at a1 a2
      rw [a1,a2,h2,if_pos c]
      exact ⟨rfl,rfl⟩
    · rw [if_neg c] at hts
      rw [hts,hls,h1,h2,joinT_eqv (Decidable.not_not.1 c)]
      exact ⟨rfl,rfl⟩
theorem lab_tree (l:List St):labT l (treeT l)=labT l (ordT l)∧tkT l (treeT l)=treeT l:=by
  have:=ks_tk (l:=l) (t:=ordT l) (ordT l).length (Nat.le_refl _)
  rwa [List.take_length] at this
end Go.Proofs.Ytiejmoglooaalaa
end
section
open Go Go.HL
namespace Go.Proofs.Ytiejmoglooaalaa
set_option maxRecDepth 100000
open Go.Proofs.Try renaming prog → Tp
open Go.HL.HV renaming undef → Ud
section
variable {F:FuncId → Option (List HV → Option HV)}
noncomputable def B93:Code:=Try.f93.body.getD .skip
abbrev env93 (v0 v1 v4 v5 v7 v8:HV):Env:=[(0,v0),(1,v1),(4,v4),(5,v5),(7,v7),(8,v8)]
theorem ie_a_0 (la:List HV) (x:Int) (H:Heap):RunsTo Tp (plF F) 93 (sub [0] B93) [(0,.a la),(1,.i x)] H .normal ((plF F).keys 93) (env93 (.a la) (.i x) (.i 0) Ud Ud Ud) H :=
  RunsTo.hin 0 60 [] fun kf hk=>⟨_,by kernel_rfl,.nil⟩
theorem ie_b_0 (la:List HV) (x:Int) (H:Heap) {y5 y7 y8:HV}:RunsTo Tp (plF F) 93 (sub [1,0,0] B93) (env93 (.a la) (.i x) (.i 0) y5 y7 y8) H .normal ((plF F).keys 93) (env93 (.a la) (.i x) (.i 0) y5 (.i (la.length:Int)) (.i 0)) H :=
  RunsTo.hin 0 60 [] fun kf hk=>⟨_,by kernel_rfl,.nil⟩
theorem ie_l_0 (la:List HV) (x:Int) (H:Heap) (m i:Nat) (a:Int) {y5:HV}(g0:(i:Int) < (m:Int)) (g1:idxV Tp 24 (.a la) (.i (i:Int))=some (.vptr (.i a))) (g2:x=a):RunsTo Tp (plF F) 93 (sub [1,0,1,0,0] B93) (env93 (.a la) (.i x) (.i 0) y5 (.i (m:Int)) (.i (i:Int))) H .ret ((plF F).keys 93) (env93 (.a la) (.i x) (.i (i:Int)) (.i (i:Int)) (.i (m:Int)) (.i (i:Int))) H :=
  RunsTo.hin 0 60 [⟨2,0,.bool true,H⟩,⟨4,3,.vptr (.i a),H⟩,⟨4,5,.bool true,H⟩] fun kf hk=>⟨_,by kernel_rfl,(oB H (decide_eq_true g0) (oP H g1 (oB H (decide_eq_true g2) .nil)))⟩
theorem ie_l_1 (la:List HV) (x:Int) (H:Heap) (m i:Nat) (a:Int) {y5:HV}(g0:(i:Int) < (m:Int)) (g1:idxV Tp 24 (.a la) (.i (i:Int))=some (.vptr (.i a))) (g2:¬ (x=a)):RunsTo Tp (plF F) 93 (sub [1,0,1,0,0] B93) (env93 (.a la) (.i x) (.i 0) y5 (.i (m:Int)) (.i (i:Int))) H .normal ((plF F).keys 93) (env93 (.a la) (.i x) (.i 0) (.i (i:Int)) (.i (m:Int)) (.i (IntKind.i64.wrap ((i:Int)+1)))) H :=
  RunsTo.hin 0 60 [⟨2,0,.bool true,H⟩,⟨4,3,.vptr (.i a),H⟩,⟨4,5,.bool false,H⟩] fun kf hk=>⟨_,by kernel_rfl,(oB H (decide_eq_true g0) (oP H g1 (oB H (decide_eq_false g2) .nil)))⟩
theorem ie_l_2 (la:List HV) (x:Int) (H:Heap) (m i:Nat) (a:Int) {y5:HV}(g0:¬ ((i:Int) < (m:Int))):RunsTo Tp (plF F) 93 (sub [1,0,1,0,0] B93) (env93 (.a la) (.i x) (.i 0) y5 (.i (m:Int)) (.i (i:Int))) H (.exit 0) ((plF F).keys 93) (env93 (.a la) (.i x) (.i 0) y5 (.i (m:Int)) (.i (i:Int))) H :=
  RunsTo.hin 0 60 [⟨2,0,.bool false,H⟩] fun kf hk=>⟨_,by kernel_rfl,(oB H (decide_eq_false g0) .nil)⟩
theorem ie_z_0 (la:List HV) (x:Int) (H:Heap) {y5 y7 y8:HV}:RunsTo Tp (plF F) 93 (sub [1,1] B93) (env93 (.a la) (.i x) (.i 0) y5 y7 y8) H .ret ((plF F).keys 93) (env93 (.a la) (.i x) (.i (-1)) y5 y7 y8) H :=
  RunsTo.hin 0 60 [] fun kf hk=>⟨_,by kernel_rfl,.nil⟩
noncomputable def B73:Code:=Try.f73.body.getD .skip
abbrev env73 (v0 v1 v4:HV):Env:=[(0,v0),(1,v1),(4,v4)]
theorem ic_a_0 (la:List HV) (x:Int) (H:Heap) (r:Int) {H0:Heap} (g0:∀ kf,callN Tp (plF F) (kf+1) 93 [.a la,.i x] H=some (.i r,H0)) (g1:0 ≤ r):RunsTo Tp (plF F) 73 (sub [] B73) [(0,.a la),(1,.i x)] H .ret ((plF F).keys 73) (env73 (.a la) (.i x) (.bool true)) H0 :=
  RunsTo.hin 0 60 [⟨1,2,.i r,H0⟩,⟨1,3,.bool true,H0⟩] fun kf hk=>⟨_,by kernel_rfl,(oC (g0 kf) (oB H0 (decide_eq_true g1) .nil))⟩
theorem ic_a_1 (la:List HV) (x:Int) (H:Heap) (r:Int) {H0:Heap} (g0:∀ kf,callN Tp (plF F) (kf+1) 93 [.a la,.i x] H=some (.i r,H0)) (g1:¬ (0 ≤ r)):RunsTo Tp (plF F) 73 (sub [] B73) [(0,.a la),(1,.i x)] H .ret ((plF F).keys 73) (env73 (.a la) (.i x) (.bool false)) H0 :=
  RunsTo.hin 0 60 [⟨1,2,.i r,H0⟩,⟨1,3,.bool false,H0⟩] fun kf hk=>⟨_,by kernel_rfl,(oC (g0 kf) (oB H0 (decide_eq_false g1) .nil))⟩
noncomputable def B59:Code:=Try.f59.body.getD .skip
abbrev env59 (v0 v1 v2 v3 v6 v7 v9 v10 v11 v21 v22 v23:HV):Env:=[(0,v0),(1,v1),(2,v2),(3,v3),(6,v6),(7,v7),(9,v9),(10,v10),(11,v11),(21,v21),(22,v22),(23,v23)]
theorem it_a_0 (N:Nat) (n:Int) (ls la:List HV) (kk:Int) :RunsTo Tp (plF F) 59 (sub [0] B59) [(0,.agg [.i n,.imm .arg 3 ls]),(1,.a la),(2,.i kk)] [] .normal ((plF F).keys 59) (env59 (.agg [.i n,.imm .arg 3 ls]) (.a la) (.i kk) (.ptr 0 0 0 1) (.imm .lit 1 []) Ud Ud Ud Ud Ud Ud Ud) [.arr 2 [.agg [.i n,.imm .arg 3 ls]] true 0] :=
  RunsTo.hin N 60 [] fun kf hk=>⟨_,by kernel_rfl,.nil⟩
theorem it_b_0 (N:Nat) (n:Int) (ls la:List HV) (kk:Int) (H:Heap) (wb c pb:Nat) (r:Int) {y7 y9 y10 y11 y21 y22 y23:HV} {H0:Heap} {H1:Heap} (g0:loadV Tp H 66 (.ptr 0 0 0 1)=some (.agg [.i n,.imm .arg 3 ls])) (g1:∀ kf,callN Tp (plF F) (kf+1) 72 [.a la,.i kk] H=some (.s wb c,H0)) (g2:∀ kf,N ≤ kf → callN Tp (plF F) (kf+1) 57 [.agg [.i n,.imm .arg 3 ls],.s wb c] H0=some (.tuple [.ptr pb 0 0 1,.i r],H1)) (gS1:(recL ((loadV Tp H 66 (.ptr 0 0 0 1)).map (fun v=>(v,(H:Heap)))) ((loadV Tp H0 66 (.ptr 0 0 0 1)).map (fun v=>(v,(H0:Heap)))) H H0 && true)=true):RunsTo Tp (plF F) 59 (sub [1,0] B59) (env59 (.agg [.i n,.imm .arg 3 ls]) (.a la) (.i kk) (.ptr 0 0 0 1) (.imm .lit 1 []) y7 y9 y10 y11 y21 y22 y23) H .normal ((plF F).keys 59) (env59 (.agg [.i n,.imm .arg 3 ls]) (.a la) (.i kk) (.ptr 0 0 0 1) (.imm .lit 1 []) (.ptr pb 0 0 1) y9 y10 y11 y21 y22 y23) H1 :=
  RunsTo.hin N 60 [⟨1,0,.agg [.i n,.imm .arg 3 ls],H⟩,⟨1,3,.s wb c,H0⟩,⟨1,4,.tuple [.ptr pb 0 0 1,.i r],H1⟩] fun kf hk=>⟨_,by kernel_rfl,(oC (gS1) (oP H g0 (oC (g1 kf) (oC (g2 kf (by omega)) .nil))))⟩
theorem it_c_0 (N:Nat) (n:Int) (ls la:List HV) (kk:Int) (H:Heap) (pb:Nat) {y9 y10 y11 y21 y22 y23:HV} {v0:HV} {H0:Heap} (g0:some (HV.sl H.length 0 0 none 0 1,H ++ [Blk.b []])=some (v0,H0)):RunsTo Tp (plF F) 59 (sub [1,1,0] B59) (env59 (.agg [.i n,.imm .arg 3 ls]) (.a la) (.i kk) (.ptr 0 0 0 1) (.imm .lit 1 []) (.ptr pb 0 0 1) y9 y10 y11 y21 y22 y23) H .normal ((plF F).keys 59) (env59 (.agg [.i n,.imm .arg 3 ls]) (.a la) (.i kk) (.ptr 0 0 0 1) (.imm .lit 1 []) (.ptr pb 0 0 1) v0 y10 y11 y21 y22 y23) H0 :=
  RunsTo.hin N 60 [⟨2,0,v0,H0⟩] fun kf hk=>⟨_,by kernel_rfl,(oC (g0) .nil)⟩
theorem it_d_0 (N:Nat) (n:Int) (ls la:List HV) (kk:Int) (H:Heap) (pb ob m:Nat) {y10 y11 y21 y22 y23:HV}(g0:loadV Tp H 22 (.ptr 0 0 1 1)=some (.imm .arg 3 ls)):RunsTo Tp (plF F) 59 (sub [1,1,1,0,0] B59) (env59 (.agg [.i n,.imm .arg 3 ls]) (.a la) (.i kk) (.ptr 0 0 0 1) (.imm .lit 1 []) (.ptr pb 0 0 1) (.s ob m) y10 y11 y21 y22 y23) H .normal ((plF F).keys 59) (env59 (.agg [.i n,.imm .arg 3 ls]) (.a la) (.i kk) (.ptr 0 0 0 1) (.imm .lit 1 []) (.ptr pb 0 0 1) (.s ob m) y10 y11 (.imm .arg 3 ls) (.i (ls.length:Int)) (.i 0)) H :=
  RunsTo.hin N 60 [⟨3,1,.imm .arg 3 ls,H⟩] fun kf hk=>⟨_,by kernel_rfl,(oP H g0 .nil)⟩
theorem it_l_0 (N:Nat) (n:Int) (ls la:List HV) (kk:Int) (H:Heap) (pb ob m c i:Nat) (a b w:Int) {y3 y10 y11:HV} {a0:HV} {H0:Heap} {H1:Heap} {H2:Heap} (g0:(i:Int) < (c:Int)) (g1:idxV Tp 22 (.imm .arg 3 ls) (.i (i:Int))=some (.vptr (.agg [.i a,.i b,.i w]))) (g2:some (newV (.agg [.i 0,.i 0,.i 0]) H)=some (a0,H0)) (g3:storeV Tp H0 42 (a0) (.agg [.i a,.i b,.i w])=some H1) (g4:∀ kf,callN Tp (plF F) (kf+1) 73 [.a la,.i (i:Int)] H1=some (.bool true,H2)) (gS6:(true && true)=true):RunsTo Tp (plF F) 59 (sub [1,1,1,0,1,0,0] B59) (env59 (.agg [.i n,.imm .arg 3 ls]) (.a la) (.i kk) y3 (.imm .lit 1 []) (.ptr pb 0 0 1) (.s ob m) y10 y11 (.imm .arg 3 ls) (.i (c:Int)) (.i (i:Int))) H .normal ((plF F).keys 59) (env59 (.agg [.i n,.imm .arg 3 ls]) (.a la) (.i kk) y3 (.imm .lit 1 []) (.ptr pb 0 0 1) (.s ob m) (.i (i:Int)) a0 (.imm .arg 3 ls) (.i (c:Int)) (.i (IntKind.i64.wrap ((i:Int)+1)))) H2 :=
  RunsTo.hin N 60 [⟨4,0,.bool true,H⟩,⟨5,1,.vptr (.agg [.i a,.i b,.i w]),H⟩,⟨5,3,a0,H0⟩,⟨5,5,.tuple [],H1⟩,⟨6,2,.bool true,H2⟩] fun kf hk=>⟨_,by kernel_rfl,(oB H (decide_eq_true g0) (oP H g1 (oC (g2) (oS g3 (oC (gS6) (oC (g4 kf) .nil))))))⟩
theorem it_l_1 (N:Nat) (n:Int) (ls la:List HV) (kk:Int) (H:Heap) (pb ob m c i:Nat) (a b w:Int) {y3 y10 y11:HV} {a0:HV} {H0:Heap} {H1:Heap} {H2:Heap} {a1:HV} {r0:Int} {H3:Heap} {a2:HV} {r1:Int} {H4:Heap} (g0:(i:Int) < (c:Int)) (g1:idxV Tp 22 (.imm .arg 3 ls) (.i (i:Int))=some (.vptr (.agg [.i a,.i b,.i w]))) (g2:some (newV (.agg [.i 0,.i 0,.i 0]) H)=some (a0,H0)) (g3:storeV Tp H0 42 (a0) (.agg [.i a,.i b,.i w])=some H1) (g4:∀ kf,callN Tp (plF F) (kf+1) 73 [.a la,.i (i:Int)] H1=some (.bool false,H2)) (g5:fldAddrV Tp 42 a0 0=some (a1)) (g6:loadV Tp H2 3 (a1)=some (.i a)) (g7:∀ kf,N ≤ kf → callN Tp (plF F) (kf+1) 55 [.ptr pb 0 0 1,.i a] H2=some (.i r0,H3)) (g8:fldAddrV Tp 42 a0 1=some (a2)) (g9:loadV Tp H3 3 (a2)=some (.i b)) (g10:∀ kf,N ≤ kf → callN Tp (plF F) (kf+1) 55 [.ptr pb 0 0 1,.i b] H3=some (.i r1,H4)) (g11:r0=r1) (gS6:(recL ((loadV Tp H3 3 (a2)).map (fun v=>(v,(H3:Heap)))) ((loadV Tp H2 3 (a2)).map (fun v=>(v,(H2:Heap)))) H3 H2 && true)=true):RunsTo Tp (plF F) 59 (sub [1,1,1,0,1,0,0] B59) (env59 (.agg [.i n,.imm .arg 3 ls]) (.a la) (.i kk) y3 (.imm .lit 1 []) (.ptr pb 0 0 1) (.s ob m) y10 y11 (.imm .arg 3 ls) (.i (c:Int)) (.i (i:Int))) H .normal ((plF F).keys 59) (env59 (.agg [.i n,.imm .arg 3 ls]) (.a la) (.i kk) y3 (.imm .lit 1 []) (.ptr pb 0 0 1) (.s ob m) (.i (i:Int)) a0 (.imm .arg 3 ls) (.i (c:Int)) (.i (IntKind.i64.wrap ((i:Int)+1)))) H4 :=
  RunsTo.hin N 60 [⟨4,0,.bool true,H⟩,⟨5,1,.vptr (.agg [.i a,.i b,.i w]),H⟩,⟨5,3,a0,H0⟩,⟨5,5,.tuple [],H1⟩,⟨6,2,.bool false,H2⟩,⟨6,6,a1,H2⟩,⟨6,7,.i a,H2⟩,⟨6,8,.i r0,H3⟩,⟨6,10,a2,H3⟩,⟨6,11,.i b,H3⟩,⟨6,12,.i r1,H4⟩,⟨6,13,.bool false,H4⟩] fun kf hk=>⟨_,by kernel_rfl,(oB H (decide_eq_true g0) (oP H g1 (oC (g2) (oS g3 (oC (gS6) (oC (g4 kf) (oP H2 g5 (oP H2 g6 (oC (g7 kf (by omega)) (oP H3 g8 (oP H3 g9 (oC (g10 kf (by omega)) (oB H4 (congrArg not (decide_eq_true g11)) .nil)))))))))))))⟩
theorem it_l_2 (N:Nat) (n:Int) (ls la:List HV) (kk:Int) (H:Heap) (pb ob m c i:Nat) (a b w:Int) {y3 y10 y11:HV} {a0:HV} {H0:Heap} {H1:Heap} {H2:Heap} {a1:HV} {r0:Int} {H3:Heap} {a2:HV} {r1:Int} {H4:Heap} {H5:Heap} {v0:HV} (g0:(i:Int) < (c:Int)) (g1:idxV Tp 22 (.imm .arg 3 ls) (.i (i:Int))=some (.vptr (.agg [.i a,.i b,.i w]))) (g2:some (newV (.agg [.i 0,.i 0,.i 0]) H)=some (a0,H0)) (g3:storeV Tp H0 42 (a0) (.agg [.i a,.i b,.i w])=some H1) (g4:∀ kf,callN Tp (plF F) (kf+1) 73 [.a la,.i (i:Int)] H1=some (.bool false,H2)) (g5:fldAddrV Tp 42 a0 0=some (a1)) (g6:loadV Tp H2 3 (a1)=some (.i a)) (g7:∀ kf,N ≤ kf → callN Tp (plF F) (kf+1) 55 [.ptr pb 0 0 1,.i a] H2=some (.i r0,H3)) (g8:fldAddrV Tp 42 a0 1=some (a2)) (g9:loadV Tp H3 3 (a2)=some (.i b)) (g10:∀ kf,N ≤ kf → callN Tp (plF F) (kf+1) 55 [.ptr pb 0 0 1,.i b] H3=some (.i r1,H4)) (g11:¬ (r0=r1)) (gS6:(recL ((loadV Tp H3 3 (a2)).map (fun v=>(v,(H3:Heap)))) ((loadV Tp H2 3 (a2)).map (fun v=>(v,(H2:Heap)))) H3 H2 && true)=true) (g13:appV H4 1 8 (.s ob m) [.i (i:Int)]=some (v0,H5)):RunsTo Tp (plF F) 59 (sub [1,1,1,0,1,0,0] B59) (env59 (.agg [.i n,.imm .arg 3 ls]) (.a la) (.i kk) y3 (.imm .lit 1 []) (.ptr pb 0 0 1) (.s ob m) y10 y11 (.imm .arg 3 ls) (.i (c:Int)) (.i (i:Int))) H .normal ((plF F).keys 59) (env59 (.agg [.i n,.imm .arg 3 ls]) (.a la) (.i kk) y3 (.imm .lit 1 []) (.ptr pb 0 0 1) v0 (.i (i:Int)) a0 (.imm .arg 3 ls) (.i (c:Int)) (.i (IntKind.i64.wrap ((i:Int)+1)))) H5 :=
  RunsTo.hin N 60 [⟨4,0,.bool true,H⟩,⟨5,1,.vptr (.agg [.i a,.i b,.i w]),H⟩,⟨5,3,a0,H0⟩,⟨5,5,.tuple [],H1⟩,⟨6,2,.bool false,H2⟩,⟨6,6,a1,H2⟩,⟨6,7,.i a,H2⟩,⟨6,8,.i r0,H3⟩,⟨6,10,a2,H3⟩,⟨6,11,.i b,H3⟩,⟨6,12,.i r1,H4⟩,⟨6,13,.bool true,H4⟩,⟨7,3,v0,H5⟩] fun kf hk=>⟨_,by kernel_rfl,(oB H (decide_eq_true g0) (oP H g1 (oC (g2) (oS g3 (oC (gS6) (oC (g4 kf) (oP H2 g5 (oP H2 g6 (oC (g7 kf (by omega)) (oP H3 g8 (oP H3 g9 (oC (g10 kf (by omega)) (oB H4 (congrArg not (decide_eq_false g11)) (oC (g13) .nil))))))))))))))⟩
theorem it_l_3 (N:Nat) (n:Int) (ls la:List HV) (kk:Int) (H:Heap) (pb ob m c i:Nat) (a b w:Int) {y3 y10 y11:HV}(g0:¬ ((i:Int) < (c:Int))):RunsTo Tp (plF F) 59 (sub [1,1,1,0,1,0,0] B59) (env59 (.agg [.i n,.imm .arg 3 ls]) (.a la) (.i kk) y3 (.imm .lit 1 []) (.ptr pb 0 0 1) (.s ob m) y10 y11 (.imm .arg 3 ls) (.i (c:Int)) (.i (i:Int))) H (.exit 0) ((plF F).keys 59) (env59 (.agg [.i n,.imm .arg 3 ls]) (.a la) (.i kk) y3 (.imm .lit 1 []) (.ptr pb 0 0 1) (.s ob m) y10 y11 (.imm .arg 3 ls) (.i (c:Int)) (.i (i:Int))) H :=
  RunsTo.hin N 60 [⟨4,0,.bool false,H⟩] fun kf hk=>⟨_,by kernel_rfl,(oB H (decide_eq_false g0) .nil)⟩
theorem it_z_0 (N:Nat) (n:Int) (ls la:List HV) (kk:Int) (H:Heap) (pb ob m:Nat) {y3 y10 y11 y21 y22 y23:HV}:RunsTo Tp (plF F) 59 (sub [1,1,1,1] B59) (env59 (.agg [.i n,.imm .arg 3 ls]) (.a la) (.i kk) y3 (.imm .lit 1 []) (.ptr pb 0 0 1) (.s ob m) y10 y11 y21 y22 y23) H .ret ((plF F).keys 59) (env59 (.agg [.i n,.imm .arg 3 ls]) (.a la) (.i kk) y3 (.s ob m) (.ptr pb 0 0 1) (.s ob m) y10 y11 y21 y22 y23) H :=
  RunsTo.hin N 60 [] fun kf hk=>⟨_,by kernel_rfl,.nil⟩
end
end Go.Proofs.Ytiejmoglooaalaa
end
section
open Go Go.HL
namespace Go.Proofs.Ytiejmoglooaalaa
set_option maxRecDepth 100000
open Go.Proofs.Try renaming prog → Tp
open Go.HL.HV renaming undef → Ud
section
variable {F:FuncId → Option (List HV → Option HV)}
noncomputable def B92:Code:=Try.f92.body.getD .skip
abbrev env92 (v0 v1 v3:HV):Env:=[(0,v0),(1,v1),(3,v3)]
theorem ve_a_0 (x:Int) (kb:Nat) (H:Heap) (v:Int)(g0:loadV Tp H 3 (.ptr kb 0 0 1)=some (.i v)) (g1:x=v):RunsTo Tp (plF F) 92 (sub [] B92) [(0,.i x),(1,.ptr kb 0 0 1)] H .ret ((plF F).keys 92) (env92 (.i x) (.ptr kb 0 0 1) (.bool true)) H :=
  RunsTo.hin 0 60 [⟨1,1,.i v,H⟩,⟨1,2,.bool true,H⟩] fun kf hk=>⟨_,by kernel_rfl,(oP H g0 (oB H (decide_eq_true g1) .nil))⟩
theorem ve_a_1 (x:Int) (kb:Nat) (H:Heap) (v:Int)(g0:loadV Tp H 3 (.ptr kb 0 0 1)=some (.i v)) (g1:¬ (x=v)):RunsTo Tp (plF F) 92 (sub [] B92) [(0,.i x),(1,.ptr kb 0 0 1)] H .ret ((plF F).keys 92) (env92 (.i x) (.ptr kb 0 0 1) (.bool false)) H :=
  RunsTo.hin 0 60 [⟨1,1,.i v,H⟩,⟨1,2,.bool false,H⟩] fun kf hk=>⟨_,by kernel_rfl,(oP H g0 (oB H (decide_eq_false g1) .nil))⟩
noncomputable def B107:Code:=Try.f107.body.getD .skip
abbrev env107 (v0 v1 v4 v5 v7 v8:HV):Env:=[(0,v0),(1,v1),(4,v4),(5,v5),(7,v7),(8,v8)]
theorem vi_a_0 (N:Nat) (lb m kb:Nat) (H:Heap):RunsTo Tp (plF F) 107 (sub [0] B107) [(0,.s lb m),(1,.func 92 [] [.ptr kb 0 0 1])] H .normal ((plF F).keys 107) (env107 (.s lb m) (.func 92 [] [.ptr kb 0 0 1]) (.i 0) Ud Ud Ud) H :=
  RunsTo.hin N 60 [] fun kf hk=>⟨_,by kernel_rfl,.nil⟩
theorem vi_b_0 (N:Nat) (lb m kb:Nat) (H:Heap) {y5 y7 y8:HV}:RunsTo Tp (plF F) 107 (sub [1,0,0] B107) (env107 (.s lb m) (.func 92 [] [.ptr kb 0 0 1]) (.i 0) y5 y7 y8) H .normal ((plF F).keys 107) (env107 (.s lb m) (.func 92 [] [.ptr kb 0 0 1]) (.i 0) y5 (.i (m:Int)) (.i 0)) H :=
  RunsTo.hin N 60 [] fun kf hk=>⟨_,by kernel_rfl,.nil⟩
theorem vi_l_0 (N:Nat) (lb m kb:Nat) (H:Heap) (i:Nat) (x:Int) {y5:HV} {H0:Heap} (g0:(i:Int) < (m:Int)) (g1:idxV Tp 24 (.s lb m) (.i (i:Int))=some (.ptr lb i 0 m)) (g2:loadV Tp H 3 (.ptr lb i 0 m)=some (.i x)) (g3:∀ kf,N ≤ kf → callN Tp (plF F) (kf+1) 92 [.i x,.ptr kb 0 0 1] H=some (.bool true,H0)):RunsTo Tp (plF F) 107 (sub [1,0,1,0,0] B107) (env107 (.s lb m) (.func 92 [] [.ptr kb 0 0 1]) (.i 0) y5 (.i (m:Int)) (.i (i:Int))) H .ret ((plF F).keys 107) (env107 (.s lb m) (.func 92 [] [.ptr kb 0 0 1]) (.i (i:Int)) (.i (i:Int)) (.i (m:Int)) (.i (i:Int))) H0 :=
  RunsTo.hin N 60 [⟨2,0,.bool true,H⟩,⟨4,3,.ptr lb i 0 m,H⟩,⟨4,4,.i x,H⟩,⟨4,5,.bool true,H0⟩] fun kf hk=>⟨_,by kernel_rfl,(oB H (decide_eq_true g0) (oP H g1 (oP H g2 (oC (g3 kf (by omega)) .nil))))⟩
theorem vi_l_1 (N:Nat) (lb m kb:Nat) (H:Heap) (i:Nat) (x:Int) {y5:HV} {H0:Heap} (g0:(i:Int) < (m:Int)) (g1:idxV Tp 24 (.s lb m) (.i (i:Int))=some (.ptr lb i 0 m)) (g2:loadV Tp H 3 (.ptr lb i 0 m)=some (.i x)) (g3:∀ kf,N ≤ kf → callN Tp (plF F) (kf+1) 92 [.i x,.ptr kb 0 0 1] H=some (.bool false,H0)):RunsTo Tp (plF F) 107 (sub [1,0,1,0,0] B107) (env107 (.s lb m) (.func 92 [] [.ptr kb 0 0 1]) (.i 0) y5 (.i (m:Int)) (.i (i:Int))) H .normal ((plF F).keys 107) (env107 (.s lb m) (.func 92 [] [.ptr kb 0 0 1]) (.i 0) (.i (i:Int)) (.i (m:Int)) (.i (IntKind.i64.wrap ((i:Int)+1)))) H0 :=
  RunsTo.hin N 60 [⟨2,0,.bool true,H⟩,⟨4,3,.ptr lb i 0 m,H⟩,⟨4,4,.i x,H⟩,⟨4,5,.bool false,H0⟩] fun kf hk=>⟨_,by kernel_rfl,(oB H (decide_eq_true g0) (oP H g1 (oP H g2 (oC (g3 kf (by omega)) .nil))))⟩
theorem vi_l_2 (N:Nat) (lb m kb:Nat) (H:Heap) (i:Nat) (x:Int) {y5:HV}(g0:¬ ((i:Int) < (m:Int))):RunsTo Tp (plF F) 107 (sub [1,0,1,0,0] B107) (env107 (.s lb m) (.func 92 [] [.ptr kb 0 0 1]) (.i 0) y5 (.i (m:Int)) (.i (i:Int))) H (.exit 0) ((plF F).keys 107) (env107 (.s lb m) (.func 92 [] [.ptr kb 0 0 1]) (.i 0) y5 (.i (m:Int)) (.i (i:Int))) H :=
  RunsTo.hin N 60 [⟨2,0,.bool false,H⟩] fun kf hk=>⟨_,by kernel_rfl,(oB H (decide_eq_false g0) .nil)⟩
theorem vi_z_0 (N:Nat) (lb m kb:Nat) (H:Heap) {y5 y7 y8:HV}:RunsTo Tp (plF F) 107 (sub [1,1] B107) (env107 (.s lb m) (.func 92 [] [.ptr kb 0 0 1]) (.i 0) y5 y7 y8) H .ret ((plF F).keys 107) (env107 (.s lb m) (.func 92 [] [.ptr kb 0 0 1]) (.i (-1)) y5 y7 y8) H :=
  RunsTo.hin N 60 [] fun kf hk=>⟨_,by kernel_rfl,.nil⟩
noncomputable def B90:Code:=Try.f90.body.getD .skip
abbrev env90 (v0 v1 v4 v5 v6 v7:HV):Env:=[(0,v0),(1,v1),(4,v4),(5,v5),(6,v6),(7,v7)]
theorem vd_a_0 (N:Nat) (lb m kb:Nat) (H:Heap):RunsTo Tp (plF F) 90 (sub [0] B90) [(0,.s lb m),(1,.func 92 [] [.ptr kb 0 0 1])] H .normal ((plF F).keys 90) (env90 (.s lb m) (.func 92 [] [.ptr kb 0 0 1]) (.imm .lit 1 []) Ud Ud Ud) H :=
  RunsTo.hin N 60 [] fun kf hk=>⟨_,by kernel_rfl,.nil⟩
theorem vd_b_0 (N:Nat) (lb m kb:Nat) (H:Heap) (r:Int) {y5 y6 y7:HV} {H0:Heap} (g0:∀ kf,N ≤ kf → callN Tp (plF F) (kf+1) 107 [.s lb m,.func 92 [] [.ptr kb 0 0 1]] H=some (.i r,H0)):RunsTo Tp (plF F) 90 (sub [1,0] B90) (env90 (.s lb m) (.func 92 [] [.ptr kb 0 0 1]) (.imm .lit 1 []) y5 y6 y7) H .normal ((plF F).keys 90) (env90 (.s lb m) (.func 92 [] [.ptr kb 0 0 1]) (.imm .lit 1 []) (.i r) y6 y7) H0 :=
  RunsTo.hin N 60 [⟨1,2,.i r,H0⟩] fun kf hk=>⟨_,by kernel_rfl,(oC (g0 kf (by omega)) .nil)⟩
theorem vd_c_0 (N:Nat) (lb m kb:Nat) (H:Heap) (r:Int) {y6 y7:HV}(g0:r=(-1)):RunsTo Tp (plF F) 90 (sub [1,1,0] B90) (env90 (.s lb m) (.func 92 [] [.ptr kb 0 0 1]) (.imm .lit 1 []) (.i r) y6 y7) H .ret ((plF F).keys 90) (env90 (.s lb m) (.func 92 [] [.ptr kb 0 0 1]) (.s lb m) (.i r) y6 y7) H :=
  RunsTo.hin N 60 [⟨2,1,.bool true,H⟩] fun kf hk=>⟨_,by kernel_rfl,(oB H (decide_eq_true g0) .nil)⟩
theorem vd_c_1 (N:Nat) (lb m kb:Nat) (H:Heap) (r:Int) {y6 y7:HV}(g0:¬ (r=(-1))):RunsTo Tp (plF F) 90 (sub [1,1,0] B90) (env90 (.s lb m) (.func 92 [] [.ptr kb 0 0 1]) (.imm .lit 1 []) (.i r) y6 y7) H .normal ((plF F).keys 90) (env90 (.s lb m) (.func 92 [] [.ptr kb 0 0 1]) (.imm .lit 1 []) (.i r) y6 y7) H :=
  RunsTo.hin N 60 [⟨2,1,.bool false,H⟩] fun kf hk=>⟨_,by kernel_rfl,(oB H (decide_eq_false g0) .nil)⟩
theorem vd_d_0 (N:Nat) (lb m kb:Nat) (H:Heap) (p:Nat) {y6 y7:HV}:RunsTo Tp (plF F) 90 (sub [1,1,1,0,0] B90) (env90 (.s lb m) (.func 92 [] [.ptr kb 0 0 1]) (.imm .lit 1 []) (.i (p:Int)) y6 y7) H .normal ((plF F).keys 90) (env90 (.s lb m) (.func 92 [] [.ptr kb 0 0 1]) (.imm .lit 1 []) (.i (p:Int)) (.i (IntKind.i64.wrap ((p:Int)+1))) y7) H :=
  RunsTo.hin N 60 [] fun kf hk=>⟨_,by kernel_rfl,.nil⟩
theorem vd_l_0 (N:Nat) (lb m kb:Nat) (H:Heap) (p i:Nat) (x:Int) {y7:HV} {H0:Heap} (g0:(i:Int) < (m:Int)) (g1:idxV Tp 24 (.s lb m) (.i (i:Int))=some (.ptr lb i 0 m)) (g2:loadV Tp H 3 (.ptr lb i 0 m)=some (.i x)) (g3:∀ kf,N ≤ kf → callN Tp (plF F) (kf+1) 92 [.i x,.ptr kb 0 0 1] H=some (.bool true,H0)):RunsTo Tp (plF F) 90 (sub [1,1,1,0,1,0,0] B90) (env90 (.s lb m) (.func 92 [] [.ptr kb 0 0 1]) (.imm .lit 1 []) (.i (p:Int)) (.i (i:Int)) y7) H .normal ((plF F).keys 90) (env90 (.s lb m) (.func 92 [] [.ptr kb 0 0 1]) (.imm .lit 1 []) (.i (p:Int)) (.i (IntKind.i64.wrap ((i:Int)+1))) (.i x)) H0 :=
  RunsTo.hin N 60 [⟨5,3,.bool true,H⟩,⟨7,2,.ptr lb i 0 m,H⟩,⟨7,3,.i x,H⟩,⟨8,2,.bool true,H0⟩] fun kf hk=>⟨_,by kernel_rfl,(oB H (decide_eq_true g0) (oP H g1 (oP H g2 (oC (g3 kf (by omega)) .nil))))⟩
theorem vd_l_1 (N:Nat) (lb m kb:Nat) (H:Heap) (p i:Nat) (x:Int) {y7:HV} {H0:Heap} {H1:Heap} (g0:(i:Int) < (m:Int)) (g1:idxV Tp 24 (.s lb m) (.i (i:Int))=some (.ptr lb i 0 m)) (g2:loadV Tp H 3 (.ptr lb i 0 m)=some (.i x)) (g3:∀ kf,N ≤ kf → callN Tp (plF F) (kf+1) 92 [.i x,.ptr kb 0 0 1] H=some (.bool false,H0)) (g4:idxV Tp 24 (.s lb m) (.i (p:Int))=some (.ptr lb p 0 m)) (g5:storeV Tp H0 3 (.ptr lb p 0 m) (.i x)=some H1):RunsTo Tp (plF F) 90 (sub [1,1,1,0,1,0,0] B90) (env90 (.s lb m) (.func 92 [] [.ptr kb 0 0 1]) (.imm .lit 1 []) (.i (p:Int)) (.i (i:Int)) y7) H .normal ((plF F).keys 90) (env90 (.s lb m) (.func 92 [] [.ptr kb 0 0 1]) (.imm .lit 1 []) (.i (IntKind.i64.wrap ((p:Int)+1))) (.i (IntKind.i64.wrap ((i:Int)+1))) (.i x)) H1 :=
  RunsTo.hin N 60 [⟨5,3,.bool true,H⟩,⟨7,2,.ptr lb i 0 m,H⟩,⟨7,3,.i x,H⟩,⟨8,2,.bool false,H0⟩,⟨9,3,.ptr lb p 0 m,H0⟩,⟨9,4,.tuple [],H1⟩] fun kf hk=>⟨_,by kernel_rfl,(oB H (decide_eq_true g0) (oP H g1 (oP H g2 (oC (g3 kf (by omega)) (oP H0 g4 (oS g5 .nil))))))⟩
theorem vd_l_2 (N:Nat) (lb m kb:Nat) (H:Heap) (p i:Nat) (x:Int) {y7:HV}(g0:¬ ((i:Int) < (m:Int))):RunsTo Tp (plF F) 90 (sub [1,1,1,0,1,0,0] B90) (env90 (.s lb m) (.func 92 [] [.ptr kb 0 0 1]) (.imm .lit 1 []) (.i (p:Int)) (.i (i:Int)) y7) H (.exit 0) ((plF F).keys 90) (env90 (.s lb m) (.func 92 [] [.ptr kb 0 0 1]) (.imm .lit 1 []) (.i (p:Int)) (.i (i:Int)) y7) H :=
  RunsTo.hin N 60 [⟨5,3,.bool false,H⟩] fun kf hk=>⟨_,by kernel_rfl,(oB H (decide_eq_false g0) .nil)⟩
theorem vd_z_0 (N:Nat) (lb m kb:Nat) (H:Heap) (p:Nat) {y6 y7:HV} {H0:Heap} (g0:sliceV Tp 24 (.s lb m) (some (.i (p:Int))) none none=some (.sl lb p (m - p) none m 1)) (g1:clearV Tp H 24 (.sl lb p (m - p) none m 1)=some (.tuple [],H0)) (g2:sliceV Tp 24 (.s lb m) none (some (.i (p:Int))) none=some (.sl lb 0 p none m 1)):RunsTo Tp (plF F) 90 (sub [1,1,1,1] B90) (env90 (.s lb m) (.func 92 [] [.ptr kb 0 0 1]) (.imm .lit 1 []) (.i (p:Int)) y6 y7) H .ret ((plF F).keys 90) (env90 (.s lb m) (.func 92 [] [.ptr kb 0 0 1]) (.sl lb 0 p none m 1) (.i (p:Int)) y6 y7) H0 :=
  RunsTo.hin N 60 [⟨11,2,.sl lb p (m - p) none m 1,H⟩,⟨11,3,.tuple [],H0⟩,⟨12,2,.sl lb 0 p none m 1,H0⟩] fun kf hk=>⟨_,by kernel_rfl,(oP H g0 (oC (g1) (oP H0 g2 .nil)))⟩
noncomputable def B91:Code:=Try.f91.body.getD .skip
abbrev env91 (v0 v2:HV):Env:=[(0,v0),(2,v2)]
theorem vc_a_1 (la:List HV) (H:Heap) {H0:Heap} {v0:HV} (g0:nilTest Tp .eql 24 (.a la)=some (.bool false)) (g1:appV H 1 8 (.imm .lit 1 []) la=some (v0,H0)):RunsTo Tp (plF F) 91 (sub [] B91) [(0,.a la)] H .ret ((plF F).keys 91) (env91 (.a la) v0) H0 :=
  RunsTo.hin 0 60 [⟨1,1,.bool false,H⟩,⟨3,2,v0,H0⟩] fun kf hk=>⟨_,by kernel_rfl,(oP H g0 (oC (g1) .nil))⟩
noncomputable def B72:Code:=Try.f72.body.getD .skip
abbrev env72 (v0 v1 v3 v4:HV):Env:=[(0,v0),(1,v1),(3,v3),(4,v4)]
theorem vo_a_0 (N:Nat) (la:List HV) (v:Int) (cb c p:Nat):RunsTo Tp (plF F) 72 (sub [0] B72) [(0,.a la),(1,.i v)] [] .normal ((plF F).keys 72) (env72 (.a la) (.i v) (.ptr 0 0 0 1) (.imm .lit 1 [])) [.arr 1 [.i v] true 0] :=
  RunsTo.hin N 60 [] fun kf hk=>⟨_,by kernel_rfl,.nil⟩
theorem vo_b_0 (N:Nat) (la:List HV) (v:Int) (H:Heap) (cb c p:Nat) {H0:Heap} {H1:Heap} (g0:∀ kf,callN Tp (plF F) (kf+1) 91 [.a la] H=some (.s cb c,H0)) (g1:∀ kf,N ≤ kf → callN Tp (plF F) (kf+1) 90 [.s cb c,.func 92 [] [.ptr 0 0 0 1]] H0=some (.sl cb 0 p none c 1,H1)):RunsTo Tp (plF F) 72 (sub [1] B72) (env72 (.a la) (.i v) (.ptr 0 0 0 1) (.imm .lit 1 [])) H .ret ((plF F).keys 72) (env72 (.a la) (.i v) (.ptr 0 0 0 1) (.sl cb 0 p none c 1)) H1 :=
  RunsTo.hin N 60 [⟨1,1,.s cb c,H0⟩,⟨1,3,.sl cb 0 p none c 1,H1⟩] fun kf hk=>⟨_,by kernel_rfl,(oC (g0 kf) (oC (g1 kf (by omega)) .nil))⟩
end
end Go.Proofs.Ytiejmoglooaalaa
end
section
open Go Go.HL
namespace Go.Proofs.Ytiejmoglooaalaa
variable {F:FuncId → Option (List HV → Option HV)}
open Go.Proofs.Try renaming prog → Tp
open Go.HL.HV renaming undef → Ud
theorem app_nil {l:List Int} (hne:l ≠ []) (hl:l.length ≤ 1000):appV [] 1 8 (.imm .lit 1 []) (l.map encI)=some (.sl 0 0 (l.map encI).length none (l.map encI).length 1,[.arr 1 (l.map encI) true 0]):=by
  have hne:l.map encI ≠ []:=by simpa using hne
  simp only [appV,if_neg hne]
  rw [if_pos ⟨.inr trivial,by simp only [List.length_nil,List.length_map,roomMax]; omega⟩,ints_bnd]
  simp
theorem nil_false {l:List Int} (hne:l ≠ []):nilTest Tp .eql 24 (.imm .arg 1 (l.map encI))=some (.bool false):=by
  cases l with
  | nil=>exact absurd rfl hne
  | cons v l=>simp only [nilTest,u24,knownNil,List.map_cons,nilOp]
def clone91:List HV → Option HV:=f1 kL fun l=>if l ≠ []∧l.length ≤ 900 then some (.own 1 (l.map encI)) else none
theorem res91:Try.f91.results.toList=[.tmp 2]:=by kernel_rfl
theorem clone_ok:PrimOk Tp 91 clone91:=by
  refine primOk_pure (pol:=plF fun _=>none) (fn:=Try.f91) (cd:=B91) follows_mixed (sound_prim (fun _=>none) (fun g f h=>by cases h)) (by kernel_rfl) (by kernel_rfl) (fnok (fun _=>none) _ _ (by kernel_rfl)) (by kernel_rfl) ?_
  intro args res h
  obtain ⟨l,rfl,hq⟩:=f1_inv h
  split at hq
  case isFalse=>cases hq
  rename_i hc
  cases hq
  have a:=vc_a_1 (F:=fun _=>none) (l.map encI) [] (nil_false hc.1) (app_nil hc.1 (by omega))
  refine ⟨_,_,_,.sl 0 0 (l.map encI).length none (l.map encI).length 1,a,by simp,by simp only [resultsV,res91]; rfl,?_⟩
  exact res_li (b:=0) rfl (by simp)
theorem info3c:(Tp.info? 3).map (fun i=>(i.size,i.bytes,i.zero.map ofConst))=some (1,8,some (.int .i64 0)):=by kernel_rfl
theorem clear_ok {H:Heap} {b n:Nat} {T:List Int} (hb:H[b]?=some (bI T)) (hT:T.length=n) {k:Nat} (hk:k ≤ n):clearV Tp H 24 (.sl b k (n - k) none n 1)=some (.tuple [],H.set b (bI (T.take k ++ List.replicate (n - k) 0))):=by
  by_cases h0:n - k=0
  · have:k=n:=by omega
    subst this
    simp only [clearV,u24,Nat.sub_self,if_true,List.replicate_zero,List.append_nil]
    rw [List.take_of_length_le (by omega),set_same hb]
  · have i3:=info3c
    cases hi:Tp.info? 3 with
    | none=>rw [hi] at i3; cases i3
    | some i =>
      rw [hi] at i3
      simp only [Option.map_some,Option.some.injEq,Prod.mk.injEq] at i3
      obtain ⟨e1,e2,hz⟩:=i3
      cases hz2:i.zero with
      | none=>rw [hz2] at hz; cases hz
      | some z =>
        rw [hz2] at hz
        simp only [Option.map_some,Option.some.injEq] at hz
        simp only [clearV,u24,if_neg h0,hi,hb,hz2]
        rw [hz,if_pos ⟨trivial,e1,by simp [hT],by simp [hT]; omega,rfl,rfl,by omega⟩]
        have e3:splice (T.map encI) k (List.replicate (n - k) (HV.int .i64 0))=(T.take k ++ List.replicate (n - k) 0).map encI:=by
          simp only [splice,List.length_replicate,List.map_append,List.map_take,List.map_replicate]
          rw [List.drop_of_length_le (by simp [hT]; omega),List.append_nil]
          rfl
        rw [e3]
theorem eq_call (h92:F 92=none) {H:Heap} {kb:Nat} {v:Int} (hb:H[kb]?=some (bI [v])) (x:Int):ClF F 92 [.int .i64 x,.ptr kb 0 0 1] H (.bool (decide (x=v))) H:=by
  have hr:Try.f92.results.toList=[.tmp 3]:=by kernel_rfl
  have ld:loadV Tp H 3 (.ptr kb 0 0 1)=some (.int .i64 v):=load_out (o:=[v]) hb (y:=0) (by simp)
  by_cases c:x=v
  · have h:=CallsTo.shared (P:=Tp) (pol:=plF F) (g:=92) (fn:=Try.f92) (cd:=B92) (args:=[.int .i64 x,.ptr kb 0 0 1]) (v:=.bool true) h92 (by kernel_rfl) (by kernel_rfl) (by kernel_rfl) (ve_a_0 (F:=F) x kb H v ld c) (by kernel_rfl) (by simp) (by simp only [resultsV,hr]; rfl)
    rw [gc_eq _ rfl] at h
    rw [decide_eq_true c]; exact h
  · have h:=CallsTo.shared (P:=Tp) (pol:=plF F) (g:=92) (fn:=Try.f92) (cd:=B92) (args:=[.int .i64 x,.ptr kb 0 0 1]) (v:=.bool false) h92 (by kernel_rfl) (by kernel_rfl) (by kernel_rfl) (ve_a_1 (F:=F) x kb H v ld c) (by kernel_rfl) (by simp) (by simp only [resultsV,hr]; rfl)
    rw [gc_eq _ rfl] at h
    rw [decide_eq_false c]; exact h
theorem ixf_call (h92:F 92=none) (h107:F 107=none) (l:List Int) (v:Int) (hl:l.length ≤ 900) :
    ∃ r:Int,ClF F 107 [.sl 1 0 l.length none l.length 1,.func 92 [] [.ptr 0 0 0 1]] [bI [v],bI l] (.int .i64 r) [bI [v],bI l]∧((r=-1∧v ∉ l) ∨ ∃ m:Nat,r=(m:Int)∧m < l.length∧l.getD m 0=v∧∀ i,i < m → l.getD i 0 ≠ v):=by
  have cl:∀ x,∃ N,∀ kf,N ≤ kf → callN Tp (plF F) (kf+1) 92 [.int .i64 x,.ptr 0 0 0 1] [bI [v],bI l]=some (.bool (decide (x=v)),[bI [v],bI l]):=fun x=>CallsTo.from (eq_call h92 (kb:=0) rfl x)
  have ld:∀ i,i < l.length → loadV Tp [bI [v],bI l] 3 (.ptr 1 i 0 l.length)=some (.int .i64 (l.getD i 0)):=fun i hi=>load_out (H:=[bI [v],bI l]) (k:=1) rfl hi
  have go:∀ m,m ≤ l.length → (∀ i,i < m → l.getD i 0 ≠ v) → ∀ i,i < m → RunsTo Tp (plF F) 107 (sub [1,0,1,0,0] B107) ((env107 (.sl 1 0 l.length none l.length 1) (.func 92 [] [.ptr 0 0 0 1]) (.int .i64 0) Ud (.int .i64 (l.length:Int)) (.int .i64 (i:Int)))) [bI [v],bI l] .normal ((plF F).keys 107) ((env107 (.sl 1 0 l.length none l.length 1) (.func 92 [] [.ptr 0 0 0 1]) (.int .i64 0) (.int .i64 (i:Int)) (.int .i64 (l.length:Int)) (.int .i64 ((i+1:Nat):Int)))) [bI [v],bI l]:=fun m hm' hn' i hi=>by
    obtain ⟨N,cN⟩:=cl (l.getD i 0)
    rw [decide_eq_false (hn' i hi)] at cN
    have s:=vi_l_1 (F:=F) N 1 l.length 0 [bI [v],bI l] i (l.getD i 0) (y5:=Ud) (by omega) (idxS u24 z3 (by omega)) (ld i (by omega)) cN
    rw [wrap_succ (by omega)] at s
    exact s
  have a:=vi_a_0 (F:=F) 0 1 l.length 0 [bI [v],bI l]
  have b:=vi_b_0 (F:=F) 0 1 l.length 0 [bI [v],bI l] (y5:=Ud) (y7:=Ud) (y8:=Ud)
  have hr:Try.f107.results.toList=[.tmp 4]:=by kernel_rfl
  rcases first_at 0 (fun x=>x=v) l with ⟨m,h1,h2,h3⟩ | hno
  · obtain ⟨N,cN⟩:=cl (l.getD m 0)
    rw [decide_eq_true h2] at cN
    have r:=count (pol':=plF F) (f:=107) (E:=fun i=>(env107 (.sl 1 0 l.length none l.length 1) (.func 92 [] [.ptr 0 0 0 1]) (.int .i64 0) Ud (.int .i64 (l.length:Int)) (.int .i64 (i:Int)))) (Hs:=fun _=>[bI [v],bI l]) m (go m (by omega) h3) (fun i _=>by kernel_rfl) (fun i _=>gc_eq _ rfl) (vi_l_0 (F:=F) N 1 l.length 0 [bI [v],bI l] m (l.getD m 0) (y5:=Ud) (by omega) (idxS u24 z3 (by omega)) (ld m (by omega)) cN) (by simp) (c:=sub [1,0,1,0] B107) (by kernel_rfl) (fun i _=>by kernel_rfl)
    have t:=sq (a) (sqo (sq (b) (RunsTo.block_ret (i:=0) (c:=sub [1,0,1] B107) (r) (by kernel_rfl)) (c:=sub [1,0] B107)) (c:=sub [1] B107) (b:=sub [1,1] B107)) (c:=B107)
    have h:=CallsTo.shared (P:=Tp) (pol:=plF F) (g:=107) (fn:=Try.f107) (cd:=B107) (args:=[.sl 1 0 l.length none l.length 1,.func 92 [] [.ptr 0 0 0 1]]) (v:=.int .i64 (m:Int)) h107 (by kernel_rfl) (by kernel_rfl) (by kernel_rfl) t (by kernel_rfl) (by simp) (by simp only [resultsV,hr]; rfl)
    rw [gc_eq _ rfl] at h
    exact ⟨_,h,.inr ⟨m,rfl,h1,h2,h3⟩⟩
  · have r:=count (pol':=plF F) (f:=107) (E:=fun i=>(env107 (.sl 1 0 l.length none l.length 1) (.func 92 [] [.ptr 0 0 0 1]) (.int .i64 0) Ud (.int .i64 (l.length:Int)) (.int .i64 (i:Int)))) (Hs:=fun _=>[bI [v],bI l]) l.length (go l.length (Nat.le_refl _) fun i hi=>hno _ (mem_getD _ hi)) (fun i _=>by kernel_rfl) (fun i _=>gc_eq _ rfl) (vi_l_2 (F:=F) 0 1 l.length 0 [bI [v],bI l] l.length 0 (y5:=Ud) (by omega)) (by simp) (c:=sub [1,0,1,0] B107) (by kernel_rfl) (fun i _=>by kernel_rfl)
    have z:=vi_z_0 (F:=F) 0 1 l.length 0 [bI [v],bI l] (y5:=Ud) (y7:=.int .i64 (l.length:Int)) (y8:=.int .i64 (l.length:Int))
    have t:=sq (a) (sq (sq (b) (bke (c:=sub [1,0,1] B107) (r)) (c:=sub [1,0] B107)) (z) (c:=sub [1] B107)) (c:=B107)
    have h:=CallsTo.shared (P:=Tp) (pol:=plF F) (g:=107) (fn:=Try.f107) (cd:=B107) (args:=[.sl 1 0 l.length none l.length 1,.func 92 [] [.ptr 0 0 0 1]]) (v:=.int .i64 (-1)) h107 (by kernel_rfl) (by kernel_rfl) (by kernel_rfl) t (by kernel_rfl) (by simp) (by simp only [resultsV,hr]; rfl)
    rw [gc_eq _ rfl] at h
    exact ⟨_,h,.inl ⟨rfl,fun hv=>hno v hv rfl⟩⟩
def wo (l:List Int) (v:Int):List Int:=l.filter fun x=>decide (x ≠ v)
def dT (l:List Int) (v:Int) (i:Nat):List Int:=wo (l.take i) v ++ l.drop (wo (l.take i) v).length
theorem wo_le (l:List Int) (v:Int):(wo l v).length ≤ l.length:=List.length_filter_le _ _
theorem dT_len (l:List Int) (v:Int) {i:Nat} (hi:i ≤ l.length):(dT l v i).length=l.length:=by
  have:=wo_le (l.take i) v
  rw [List.length_take] at this
  rw [dT,List.length_append,List.length_drop]; omega
theorem dT_get (l:List Int) (v:Int) {i:Nat} (hi:i < l.length):(dT l v i).getD i 0=l.getD i 0:=by
  have:=wo_le (l.take i) v
  rw [List.length_take] at this
  simp only [List.getD,dT]
  rw [List.getElem?_append_right (by omega),List.getElem?_drop,show (wo (l.take i) v).length+(i - (wo (l.take i) v).length)=i by omega]
theorem wo_succ (l:List Int) (v:Int) {i:Nat} (hi:i < l.length):wo (l.take (i+1)) v=if l.getD i 0=v then wo (l.take i) v else wo (l.take i) v ++ [l.getD i 0]:=by
  rw [take_snoc hi,wo,List.filter_append]
  by_cases c:l.getD i 0=v
  · rw [if_pos c,List.filter_cons_of_neg (by simpa using c)]; simp [wo]
  · rw [if_neg c,List.filter_cons_of_pos (by simpa using c)]; rfl
theorem dT_set (l:List Int) (v:Int) {i:Nat} (hi:i < l.length) (c:l.getD i 0 ≠ v):(dT l v i).set (wo (l.take i) v).length (l.getD i 0)=dT l v (i+1):=by
  have:=wo_le (l.take i) v
  rw [List.length_take] at this
  rw [dT,List.set_append_right _ _ (Nat.le_refl _),Nat.sub_self,dT,wo_succ l v hi,if_neg c,List.length_append,List.length_singleton,List.append_assoc]
  refine congrArg _ ?_
  rw [List.drop_eq_getElem_cons (by omega)]
  rfl
theorem del_call (h90:F 90=none) (h92:F 92=none) (h107:F 107=none) (l:List Int) (v:Int) (hl:l.length ≤ 900) :
    ∃ T,ClF F 90 [.sl 1 0 l.length none l.length 1,.func 92 [] [.ptr 0 0 0 1]] [bI [v],bI l] (.sl 1 0 (wo l v).length none l.length 1) [bI [v],bI (wo l v ++ T)]∧(wo l v ++ T).length=l.length:=by
  obtain ⟨r,hc,hr⟩:=ixf_call h92 h107 l v hl
  obtain ⟨N,c107⟩:=CallsTo.from hc
  have a:=vd_a_0 (F:=F) 0 1 l.length 0 [bI [v],bI l]
  have b:=vd_b_0 (F:=F) N 1 l.length 0 [bI [v],bI l] r (y5:=Ud) (y6:=Ud) (y7:=Ud) c107
  have hres:Try.f90.results.toList=[.tmp 4]:=by kernel_rfl
  rcases hr with ⟨rfl,hno⟩ | ⟨m,rfl,hm1,hm2,hm3⟩
  · have c:=vd_c_0 (F:=F) 0 1 l.length 0 [bI [v],bI l] (-1) (y6:=Ud) (y7:=Ud) rfl
    have t:=sq (a) (sq (b) (sqo (c) (c:=sub [1,1] B90) (b:=sub [1,1,1] B90)) (c:=sub [1] B90)) (c:=B90)
    have h:=CallsTo.shared (P:=Tp) (pol:=plF F) (g:=90) (fn:=Try.f90) (cd:=B90) (args:=[.sl 1 0 l.length none l.length 1,.func 92 [] [.ptr 0 0 0 1]]) (v:=.sl 1 0 l.length none l.length 1) h90 (by kernel_rfl) (by kernel_rfl) (by kernel_rfl) t (by kernel_rfl) (by simp) (by simp only [resultsV,hres]; rfl)
    rw [gc_eq _ rfl] at h
    have e:wo l v=l:=List.filter_eq_self.2 fun x hx=>decide_eq_true fun c=>hno (c ▸ hx)
    rw [e]
    exact ⟨[],by rw [List.append_nil]; exact h,by simp⟩
  · have c:=vd_c_1 (F:=F) 0 1 l.length 0 [bI [v],bI l] (m:Int) (y6:=Ud) (y7:=Ud) (by omega)
    have d:=vd_d_0 (F:=F) 0 1 l.length 0 [bI [v],bI l] m (y6:=Ud) (y7:=Ud)
    have ew:∀ i,i ≤ m → wo (l.take i) v=l.take i:=fun i hi=>List.filter_eq_self.2 fun x hx=>decide_eq_true fun c=>by
      obtain ⟨j,hj,rfl⟩:=List.getElem_of_mem hx
      rw [List.length_take] at hj
      have:=hm3 j (by omega)
      rw [getD_at (by omega)] at this
      rw [List.getElem_take] at c
      exact this c
    have em:wo (l.take (m+1)) v=l.take m:=by rw [wo_succ l v hm1,if_pos hm2,ew m (Nat.le_refl _)]
    have eml:(wo (l.take (m+1)) v).length=m:=by rw [em,List.length_take]; omega
    have r:=count (pol':=plF F) (f:=90) (E:=fun i=>(env90 (.sl 1 0 l.length none l.length 1) (.func 92 [] [.ptr 0 0 0 1]) (.imm .lit 1 []) (.int .i64 ((wo (l.take (m+1+i)) v).length:Int)) (.int .i64 (((m+1+i):Nat):Int)) Ud)) (Hs:=fun i=>[bI [v],bI (dT l v (m+1+i))]) (l.length - (m+1)) (E0:=fun i=>(env90 (.sl 1 0 l.length none l.length 1) (.func 92 [] [.ptr 0 0 0 1]) (.imm .lit 1 []) (.int .i64 ((wo (l.take (m+1+(i+1))) v).length:Int)) (.int .i64 (((m+1+(i+1)):Nat):Int)) (.int .i64 (l.getD (m+1+i) 0)))) (H1:=fun i=>[bI [v],bI (dT l v (m+1+(i+1)))])
      (fun i hi=>by
        generalize hj:m+1+i=j
        have hj2:m+1+(i+1)=j+1:=by omega
        rw [hj2]
        have hjl:j < l.length:=by omega
        have hdl:=dT_len l v (i:=j) (by omega)
        have ld:=load_out (H:=[bI [v],bI (dT l v j)]) (k:=1) (o:=dT l v j) rfl (y:=j) (by omega)
        rw [hdl,dT_get l v hjl] at ld
        obtain ⟨N,cN⟩:=CallsTo.from (eq_call (F:=F) h92 (H:=[bI [v],bI (dT l v j)]) (kb:=0) rfl (l.getD j 0))
        have hws:=wo_succ l v hjl
        have hwl:=wo_le (l.take j) v
        rw [List.length_take] at hwl
        by_cases cv:l.getD j 0=v
        · rw [decide_eq_true cv] at cN
          rw [if_pos cv] at hws
          have s:=vd_l_0 (F:=F) N 1 l.length 0 [bI [v],bI (dT l v j)] (wo (l.take j) v).length j (l.getD j 0) (y7:=Ud) (by omega) (idxS u24 z3 (by omega)) ld cN
          rw [wrap_succ (by omega)] at s
          have:dT l v (j+1)=dT l v j:=by rw [dT,hws]; rfl
          rw [this,hws]
          exact s
        · rw [decide_eq_false cv] at cN
          rw [if_neg cv] at hws
          have st:=store_out (H:=[bI [v],bI (dT l v j)]) (k:=1) (o:=dT l v j) rfl (y:=(wo (l.take j) v).length) (by omega) (l.getD j 0)
          rw [hdl,dT_set l v hjl cv] at st
          have s:=vd_l_1 (F:=F) N 1 l.length 0 [bI [v],bI (dT l v j)] (wo (l.take j) v).length j (l.getD j 0) (y7:=Ud) (by omega) (idxS u24 z3 (by omega)) ld cN (idxS u24 z3 (by omega)) st
          rw [wrap_succ (by omega),wrap_succ (by omega)] at s
          have el:(wo (l.take (j+1)) v).length=(wo (l.take j) v).length+1:=by rw [hws]; simp
          rw [← el] at s
          exact s) (fun i _=>by kernel_rfl) (fun i _=>gc_eq _ rfl) (vd_l_2 (F:=F) 0 1 l.length 0 [bI [v],bI (dT l v (m+1+(l.length - (m+1))))] (wo (l.take (m+1+(l.length - (m+1)))) v).length (m+1+(l.length - (m+1))) 0 (y7:=Ud) (by omega)) (by simp) (c:=sub [1,1,1,0,1,0] B90) (by kernel_rfl) (fun i _=>by kernel_rfl)
    have e0:dT l v (m+1+0)=l:=by rw [Nat.add_zero,dT,eml,em,List.take_append_drop]
    have en:m+1+(l.length - (m+1))=l.length:=by omega
    simp only [e0,en,Nat.add_zero,eml,List.take_length] at r
    rw [wrap_succ (by omega)] at d
    have hdl:=dT_len l v (Nat.le_refl l.length)
    have hwl:=wo_le l v
    have hcl:=clear_ok (H:=[bI [v],bI (dT l v l.length)]) (b:=1) rfl hdl hwl
    have hdt:(dT l v l.length).take (wo l v).length=wo l v:=by
      rw [dT,List.take_length,List.take_append_of_le_length (Nat.le_refl _),List.take_of_length_le (Nat.le_refl _)]
    rw [hdt] at hcl
    have z:=vd_z_0 (F:=F) 0 1 l.length 0 [bI [v],bI (dT l v l.length)] (wo l v).length (y6:=.int .i64 (l.length:Int)) (y7:=Ud) (slice_lo hwl) hcl (slice_hi hwl)
    have t:=sq (a) (sq (b) (sq (c) (sq (sq (d) (bke (c:=sub [1,1,1,0,1] B90) (r)) (c:=sub [1,1,1,0] B90)) (z) (c:=sub [1,1,1] B90)) (c:=sub [1,1] B90)) (c:=sub [1] B90)) (c:=B90)
    have h:=CallsTo.shared (P:=Tp) (pol:=plF F) (g:=90) (fn:=Try.f90) (cd:=B90) (args:=[.sl 1 0 l.length none l.length 1,.func 92 [] [.ptr 0 0 0 1]]) (v:=.sl 1 0 (wo l v).length none l.length 1) h90 (by kernel_rfl) (by kernel_rfl) (by kernel_rfl) t (by kernel_rfl) (by simp) (by simp only [resultsV,hres]; rfl)
    rw [gc_eq (H:=[bI [v],bI l]) (H':=([bI [v],bI (dT l v l.length)].set 1 (bI (wo l v ++ List.replicate (l.length - (wo l v).length) 0)))) _ rfl] at h
    exact ⟨_,h,by rw [List.length_append,List.length_replicate]; omega⟩
theorem resCell_cut {H:Heap} {no:List Nat} {b m n mx:Nat} {els:List HV} (hb:H[b]?=some (.arr 1 els true mx)) (hm:els.length=n) (hk:m ≤ n) (hf:mapO (frz H no 4) (els.take m)=some (els.take m)):resCell H no false (.sl b 0 m none n 1)=some (.own 1 (els.take m)):=by
  have hv:view H b 0 m n 1=some (els.take m):=by
    simp only [view,hb]
    rw [if_pos ⟨hm.symm,by omega,trivial⟩]
    simp
  have hr:(resElem H no false)=frz H no 4:=by funext v; rfl
  simp only [resCell,hb,if_true,hv,hr,hf]
def without72:List HV → Option HV:=f2 kL kI fun l v=>if l ≠ []∧l.length ≤ 900 then some (.own 1 ((wo l v).map encI)) else none
theorem res72:Try.f72.results.toList=[.tmp 4]:=by kernel_rfl
def prWo:FuncId → Option (List HV → Option HV):=fun g=>if g == 91 then some clone91 else none
theorem soundWo (n:Nat):CallSound Tp (callN Tp (plF prWo) n):=sound_prim _ (fun g f h=>by
  unfold prWo at h
  split at h
  · rename_i hg; cases h; rw [eq_of_beq hg]; exact clone_ok
  · cases h) n
theorem without_ok:PrimOk Tp 72 without72:=by
  refine primOk_pure (pol:=plF prWo) (fn:=Try.f72) (cd:=B72) follows_mixed soundWo (by kernel_rfl) (by kernel_rfl) (fnok prWo _ _ (by kernel_rfl)) (by kernel_rfl) ?_
  intro args res h
  obtain ⟨l,v,rfl,hq⟩:=f2_inv h
  split at hq
  case isFalse=>cases hq
  rename_i hc
  cases hq
  have a:=vo_a_0 (F:=prWo) 0 (l.map encI) v 0 0 0
  have c91:=at1 (pol':=plF prWo) (g:=91) (c1:=kL) (f:=fun l=>if l ≠ []∧l.length ≤ 900 then some (.own 1 (l.map encI)) else none) (H:=[bI [v]]) (by kernel_rfl) (ShL_imm _ l) (if_pos hc)
  rw [recv_ints] at c91
  obtain ⟨T,c90,hT⟩:=del_call (F:=prWo) (by kernel_rfl) (by kernel_rfl) (by kernel_rfl) l v hc.2
  obtain ⟨N,c90⟩:=CallsTo.from c90
  have b:=vo_b_0 (F:=prWo) N (l.map encI) v [bI [v]] 1 l.length (wo l v).length c91 c90
  refine ⟨_,_,_,.sl 1 0 (wo l v).length none l.length 1,sq (a) (b) (c:=B72),by simp,by simp only [resultsV,res72]; rfl,?_⟩
  have hr:=resCell_cut (H:=[bI [v],bI (wo l v ++ T)]) (no:=[1]) (b:=1) (m:=(wo l v).length) (n:=l.length) (mx:=0) (els:=(wo l v ++ T).map encI) rfl (by rw [List.length_map]; exact hT) (wo_le l v) (by rw [← List.map_take,List.take_append_of_le_length (Nat.le_refl _),List.take_of_length_le (Nat.le_refl _)]; exact mapO_self (fun r=>frz_int 4 r) _)
  rw [← List.map_take,List.take_append_of_le_length (Nat.le_refl _),List.take_of_length_le (Nat.le_refl _)] at hr
  have ho:ownedAll [bI [v],bI (wo l v ++ T)] false (.sl 1 0 (wo l v).length none l.length 1)=[1]:=rfl
  show toRes _ false _=_
  simp only [toRes,ho,List.nodup_cons,List.not_mem_nil,not_false_eq_true,List.nodup_nil,and_self,if_true,resVal,hr]
end Go.Proofs.Ytiejmoglooaalaa
end
section
open Go Go.HL
namespace Go.Proofs.Ytiejmoglooaalaa
open Go.Proofs.Try renaming prog → Tp
open Go.HL.HV renaming undef → Ud
def ixI (l:List Int) (v:Int):Int:=match fN (fun i=>decide (l.getD i 0=v)) l.length 0 with | some m=>(m:Int) | none=>-1
theorem ixI_mem (l:List Int) (v:Int):0 ≤ ixI l v ↔ v ∈ l:=by
  rw [ixI]
  cases h:fN (fun i=>decide (l.getD i 0=v)) l.length 0 with
  | some m =>
    obtain ⟨_,h2,h3,_⟩:=fN_some h
    refine ⟨fun _=>?_,fun _=>by simp⟩
    have:=of_decide_eq_true h3
    rw [← this]
    exact mem_getD 0 (by omega)
  | none =>
    refine ⟨fun h=>absurd h (by decide),fun hv=>?_⟩
    obtain ⟨j,hj,rfl⟩:=List.getElem_of_mem hv
    have:=fN_none h j (Nat.zero_le _) (by omega)
    simp only [decide_eq_false_iff_not] at this
    exact absurd (getD_at hj) this
def index93:List HV → Option HV:=f2 kL kI fun l v=>if l.length ≤ 900 then some (.int .i64 (ixI l v)) else none
theorem res93i:Try.f93.results.toList=[.tmp 4]:=by kernel_rfl
theorem index_ok:PrimOk Tp 93 index93:=by
  refine primOk_pure (pol:=plF fun _=>none) (fn:=Try.f93) (cd:=B93) follows_mixed (sound_prim (fun _=>none) (fun g f h=>by cases h)) (by kernel_rfl) (by kernel_rfl) (fnok (fun _=>none) _ _ (by kernel_rfl)) (by kernel_rfl) ?_
  intro args res h
  obtain ⟨l,v,rfl,hq⟩:=f2_inv h
  split at hq
  case isFalse=>cases hq
  rename_i hl
  cases hq
  have go:∀ m,m ≤ l.length → (∀ i,i < m → l.getD i 0 ≠ v) → ∀ i,i < m → RunsTo Tp (plF fun _=>none) 93 (sub [1,0,1,0,0] B93) ((env93 (.imm .arg 1 (l.map encI)) (.int .i64 v) (.int .i64 0) Ud (.int .i64 (l.length:Int)) (.int .i64 ((i:Nat):Int)))) [] .normal ((plF fun _=>none).keys 93) ((env93 (.imm .arg 1 (l.map encI)) (.int .i64 v) (.int .i64 0) (.int .i64 (i:Int)) (.int .i64 (l.length:Int)) (.int .i64 ((i+1:Nat):Int)))) []:=fun m hm' hn' i hi=>by
    have s:=ie_l_1 (F:=fun _=>none) (l.map encI) v [] l.length i (l.getD i 0) (y5:=Ud) (by omega) (gx (by omega)) (fun h=>hn' i hi h.symm)
    rw [wrap_succ (by omega)] at s
    exact s
  have a:=ie_a_0 (F:=fun _=>none) (l.map encI) v []
  have b:=ie_b_0 (F:=fun _=>none) (l.map encI) v [] (y5:=Ud) (y7:=Ud) (y8:=Ud)
  rw [List.length_map] at b
  rw [ixI]
  cases hf:fN (fun i=>decide (l.getD i 0=v)) l.length 0 with
  | some m =>
    obtain ⟨_,h1,h2,h3⟩:=fN_some hf
    have r:=count (pol':=plF fun _=>none) (f:=93) (E:=fun i=>(env93 (.imm .arg 1 (l.map encI)) (.int .i64 v) (.int .i64 0) Ud (.int .i64 (l.length:Int)) (.int .i64 ((i:Nat):Int)))) (Hs:=fun _=>[]) m (go m (by omega) fun i hi=>by have:=h3 i (Nat.zero_le _) hi; simpa using this) (fun i _=>by kernel_rfl) (fun i _=>gc_eq _ rfl) (ie_l_0 (F:=fun _=>none) (l.map encI) v [] l.length m (l.getD m 0) (y5:=Ud) (by omega) (gx (by omega)) (of_decide_eq_true h2).symm) (by simp) (c:=sub [1,0,1,0] B93) (by kernel_rfl) (fun i _=>by kernel_rfl)
    exact ⟨_,_,_,.int .i64 (m:Int),sq (a) (sqo (sq (b) (RunsTo.block_ret (i:=0) (c:=sub [1,0,1] B93) (r) (by kernel_rfl)) (c:=sub [1,0] B93)) (c:=sub [1] B93) (b:=sub [1,1] B93)) (c:=B93),by simp,by simp only [resultsV,res93i]; rfl,rfl⟩
  | none =>
    have h3:=fN_none hf
    have r:=count (pol':=plF fun _=>none) (f:=93) (E:=fun i=>(env93 (.imm .arg 1 (l.map encI)) (.int .i64 v) (.int .i64 0) Ud (.int .i64 (l.length:Int)) (.int .i64 ((i:Nat):Int)))) (Hs:=fun _=>[]) l.length (go l.length (Nat.le_refl _) fun i hi=>by have:=h3 i (Nat.zero_le _) (by omega); simpa using this) (fun i _=>by kernel_rfl) (fun i _=>gc_eq _ rfl) (ie_l_2 (F:=fun _=>none) (l.map encI) v [] l.length l.length 0 (y5:=Ud) (by omega)) (by simp) (c:=sub [1,0,1,0] B93) (by kernel_rfl) (fun i _=>by kernel_rfl)
    have z:=ie_z_0 (F:=fun _=>none) (l.map encI) v [] (y5:=Ud) (y7:=.int .i64 (l.length:Int)) (y8:=.int .i64 (l.length:Int))
    exact ⟨_,_,_,.int .i64 (-1),sq (a) (sq (sq (b) (bke (c:=sub [1,0,1] B93) (r)) (c:=sub [1,0] B93)) (z) (c:=sub [1] B93)) (c:=B93),by simp,by simp only [resultsV,res93i]; rfl,rfl⟩
def contains73:List HV → Option HV:=f2 kL kI fun l v=>if l.length ≤ 900 then some (.bool (decide (v ∈ l))) else none
theorem res73:Try.f73.results.toList=[.tmp 4]:=by kernel_rfl
def prCo:FuncId → Option (List HV → Option HV):=fun g=>if g == 93 then some index93 else none
theorem soundCo (n:Nat):CallSound Tp (callN Tp (plF prCo) n):=sound_prim _ (fun g f h=>by
  unfold prCo at h
  split at h
  · rename_i hg; cases h; rw [eq_of_beq hg]; exact index_ok
  · cases h) n
theorem contains_ok:PrimOk Tp 73 contains73:=by
  refine primOk_pure (pol:=plF prCo) (fn:=Try.f73) (cd:=B73) follows_mixed soundCo (by kernel_rfl) (by kernel_rfl) (fnok prCo _ _ (by kernel_rfl)) (by kernel_rfl) ?_
  intro args res h
  obtain ⟨l,v,rfl,hq⟩:=f2_inv h
  split at hq
  case isFalse=>cases hq
  rename_i hl
  cases hq
  have c:=at2 (pol':=plF prCo) (g:=93) (c1:=kL) (c2:=kI) (f:=fun l v=>if l.length ≤ 900 then some (.int .i64 (ixI l v)) else none) (H:=[]) (by kernel_rfl) (ShL_imm _ l) (ShI _ v) (if_pos hl)
  by_cases k:0 ≤ ixI l v
  · rw [decide_eq_true ((ixI_mem l v).1 k)]
    exact ⟨_,_,_,.bool true,ic_a_0 (F:=prCo) (l.map encI) v [] (ixI l v) c k,by simp,by simp only [resultsV,res73]; rfl,rfl⟩
  · rw [decide_eq_false fun h=>k ((ixI_mem l v).2 h)]
    exact ⟨_,_,_,.bool false,ic_a_1 (F:=prCo) (l.map encI) v [] (ixI l v) c k,by simp,by simp only [resultsV,res73]; rfl,rfl⟩
def joinsT (l:List St) (t:List Int) (o:Int) (k:Int):Prop:=(labT l (wo t o)).getD (sA l k).toNat 0 ≠ (labT l (wo t o)).getD (sB l k).toNat 0
instance (l:List St) (t:List Int) (o k:Int):Decidable (joinsT l t o k):=inferInstanceAs (Decidable (_ ≠ _))
def insT (l:List St) (t:List Int) (o:Int) (n:Nat):List Int:=(startT n).filter fun k=>decide (k ∉ t∧joinsT l t o k)
theorem ins_succ (l:List St) (t:List Int) (o:Int) (i:Nat):insT l t o (i+1)=insT l t o i ++ (if (i:Int) ∉ t∧joinsT l t o i then [(i:Int)] else []):=by
  rw [insT,startT_succ,List.filter_append,insT]
  refine congrArg _ ?_
  by_cases c:(i:Int) ∉ t∧joinsT l t o i
  · rw [if_pos c,List.filter_cons_of_pos (by simpa using c)]; rfl
  · rw [if_neg c,List.filter_cons_of_neg (by simpa using c)]; rfl
theorem ins_len (l:List St) (t:List Int) (o:Int) (n:Nat):(insT l t o n).length ≤ n:=by
  have:=List.length_filter_le (fun k=>decide (k ∉ t∧joinsT l t o k)) (startT n)
  rwa [startT_len] at this
def instead59:List HV → Option HV:=f3 kN kL kI fun p t o=>if (endB p.2=true∧p.2.length ≤ 500)∧inR p.2.length t=true∧t ≠ []∧t.length ≤ 500 then some (.own 1 ((insT p.2 t o p.2.length).map encI)) else none
theorem res59:Try.f59.results.toList=[.tmp 6]:=by kernel_rfl
def prIn:FuncId → Option (List HV → Option HV):=fun g=>if g == 72 then some without72 else if g == 73 then some contains73 else none
theorem soundIn (n:Nat):CallSound Tp (callN Tp (plF prIn) n):=sound_prim _ (fun g f h=>by
  unfold prIn at h
  split at h
  · rename_i hg; cases h; rw [eq_of_beq hg]; exact without_ok
  split at h
  · rename_i hg; cases h; rw [eq_of_beq hg]; exact contains_ok
  · cases h) n
theorem instead_ok:PrimOk Tp 59 instead59:=by
  refine primOk_pure (pol:=plF prIn) (fn:=Try.f59) (cd:=B59) follows_mixed soundIn (by kernel_rfl) (by kernel_rfl) (fnok prIn _ _ (by kernel_rfl)) (by kernel_rfl) ?_
  intro args res h
  obtain ⟨⟨n,l⟩,t,o,rfl,hq⟩:=f3_inv h
  simp only at hq
  split at hq
  case isFalse=>cases hq
  rename_i hc
  obtain ⟨⟨he,hl⟩,hr,hne,htl⟩:=hc
  cases hq
  have ht:=inR_iff.1 hr
  have hwl:=wo_le t o
  have htw:∀ k ∈ wo t o,0 ≤ k∧k < (l.length:Int):=fun k hk=>ht k (List.mem_filter.1 hk).1
  have a:=it_a_0 (F:=prIn) 0 n (l.map encT) (t.map encI) o
  have c72:=at2 (pol':=plF prIn) (g:=72) (c1:=kL) (c2:=kI) (f:=fun l v=>if l ≠ []∧l.length ≤ 900 then some (.own 1 ((wo l v).map encI)) else none) (H:=[bN n l]) (by kernel_rfl) (ShL_imm _ t) (ShI _ o) (if_pos ⟨hne,by omega⟩)
  rw [recv_ints] at c72
  obtain ⟨N1,c57⟩:=CallsTo.from (joined_sl (F:=prIn) (by kernel_rfl) (by kernel_rfl) (by kernel_rfl) (by kernel_rfl) (n:=n) he htw (by omega) (H:=[bN n l,bI (wo t o)]) (by show max 0 (max 0 0) ≤ 2; decide) (lb:=1) (cap:=none) (o:=wo t o) rfl (fun i hi=>⟨hi,rfl⟩))
  have sN:sameH [bN n l] [bN n l]=true:=by simp only [sameH,sameL,same_net,beq_self_eq_true,Bool.and_self]
  have hs1:(recL ((loadV Tp [bN n l] 66 (.ptr 0 0 0 1)).map (fun v=>(v,([bN n l]:Heap)))) ((loadV Tp [bN n l,bI (wo t o)] 66 (.ptr 0 0 0 1)).map (fun v=>(v,([bN n l,bI (wo t o)]:Heap)))) [bN n l] [bN n l,bI (wo t o)] && true)=true:=by
    rw [ld66 (n:=n) (l:=l) rfl,ld66 (n:=n) (l:=l) rfl]
    simp only [Option.map_some,recL,same_net,sN,sameH_cons sN (sameB_I (wo t o)),Bool.and_self]
  have b:=it_b_0 (F:=prIn) N1 n (l.map encT) (t.map encI) o [bN n l] 1 (wo t o).length 3 _ (y7:=Ud) (y9:=Ud) (y10:=Ud) (y11:=Ud) (y21:=Ud) (y22:=Ud) (y23:=Ud) (ld66 rfl) c72 c57 hs1
  have hU:=ksT_up he (t:=wo t o) htw
  have hlabE:(ksT l (wo t o)).2.1=labT l (wo t o):=rfl
  rw [hlabE] at hU
  generalize hus:(ksT l (wo t o)).1=us at *
  have c:=it_c_0 (F:=prIn) 0 n (l.map encT) (t.map encI) o [bN n l,bI (wo t o),bN n l,bU us] 3 (y9:=Ud) (y10:=Ud) (y11:=Ud) (y21:=Ud) (y22:=Ud) (y23:=Ud) rfl
  have d:=it_d_0 (F:=prIn) 0 n (l.map encT) (t.map encI) o [bN n l,bI (wo t o),bN n l,bU us,bI []] 3 4 0 (y10:=Ud) (y11:=Ud) (y21:=Ud) (y22:=Ud) (y23:=Ud) (ld_net (xb:=0) rfl)
  rw [List.length_map] at d
  have r:=count (pol':=plF prIn) (f:=59) (E:=fun i=>(env59 (encN n l) (.imm .arg 1 (t.map encI)) (.int .i64 o) Ud (.imm .lit 1 []) (.ptr 3 0 0 1) (.sl 4 0 (insT l t o i).length none (insT l t o i).length 1) Ud Ud (.imm .arg 3 (l.map encT)) (.int .i64 (l.length:Int)) (.int .i64 ((i:Nat):Int)))) (Hs:=fun i=>[bN n l,bI (wo t o),bN n l,bU us,bI (insT l t o i)]) l.length
    (E0:=fun i=>(env59 (encN n l) (.imm .arg 1 (t.map encI)) (.int .i64 o) Ud (.imm .lit 1 []) (.ptr 3 0 0 1) (.sl 4 0 (insT l t o (i+1)).length none (insT l t o (i+1)).length 1) (.int .i64 (i:Int)) (.ptr 5 0 0 1) (.imm .arg 3 (l.map encT)) (.int .i64 (l.length:Int)) (.int .i64 ((i+1:Nat):Int)))) (H1:=fun i=>[bN n l,bI (wo t o),bN n l,bU us,bI (insT l t o (i+1)),bT (l.getD i (0,0,0))])
    (fun i hi=>by
      have g2:=gs (l:=l) (y:=i) hi
      obtain ⟨e1,e2⟩:=ends he (k:=(i:Int)) (by omega)
      have hJ:joinsT l t o (i:Int) ↔ (labT l (wo t o)).getD (sA l i).toNat 0 ≠ (labT l (wo t o)).getD (sB l i).toNat 0:=Iff.rfl
      have hsA:sA l (i:Int)=(l.getD i (0,0,0)).1:=rfl
      have hsB:sB l (i:Int)=(l.getD i (0,0,0)).2.1:=rfl
      rw [hsA] at e1 hJ
      rw [hsB] at e2 hJ
      have his:=ins_succ l t o i
      have hil:=ins_len l t o i
      generalize l.getD i (0,0,0)=s at *
      have hx:([bN n l,bI (wo t o),bN n l,bU us,bI (insT l t o i),bT s]:Heap)[5]?=some (bT s):=rfl
      have la:=ldT hx 0 s.1 rfl
      have lb:=ldT hx 1 s.2.1 rfl
      have nv:=box_nv [bN n l,bI (wo t o),bN n l,bU us,bI (insT l t o i)]
      have st:=box_st [bN n l,bI (wo t o),bN n l,bU us,bI (insT l t o i)] s
      have c73:=at2 (pol':=plF prIn) (g:=73) (c1:=kL) (c2:=kI) (f:=fun l v=>if l.length ≤ 900 then some (.bool (decide (v ∈ l))) else none) (H:=[bN n l,bI (wo t o),bN n l,bU us,bI (insT l t o i),bT s]) (by kernel_rfl) (ShL_imm _ t) (ShI _ (i:Int)) (if_pos (by omega))
      obtain ⟨N2,o1⟩:=CallsTo.from (of_call (F:=prIn) (by kernel_rfl) (H:=[bN n l,bI (wo t o),bN n l,bU us,bI (insT l t o i),bT s]) (b:=3) rfl hU e1.1 e1.2)
      obtain ⟨N3,o2⟩:=CallsTo.from (of_call (F:=prIn) (by kernel_rfl) (H:=[bN n l,bI (wo t o),bN n l,bU us,bI (insT l t o i),bT s]) (b:=3) rfl hU e2.1 e2.2)
      have o1':∀ kf,max N2 N3 ≤ kf → _:=fun kf hk=>o1 kf (by omega)
      have o2':∀ kf,max N2 N3 ≤ kf → _:=fun kf hk=>o2 kf (by omega)
      have sT:sameH [bT s] [bT s]=true:=by simp only [sameH,sameL,same_st,beq_self_eq_true,Bool.and_self]
      have sU:sameH [bU us] [bU us]=true:=by simp only [sameH,sameL,same,same_mapL same_int,beq_self_eq_true,Bool.and_self]
      have sH:sameH [bN n l,bI (wo t o),bN n l,bU us,bI (insT l t o i),bT s] [bN n l,bI (wo t o),bN n l,bU us,bI (insT l t o i),bT s]=true:=sameH_cons sN (sameH_cons (sameB_I _) (sameH_cons sN (sameH_cons sU (sameH_cons (sameB_I _) sT))))
      have hs2:(recL ((loadV Tp [bN n l,bI (wo t o),bN n l,bU us,bI (insT l t o i),bT s] 3 (.ptr 5 0 1 1)).map (fun v=>(v,([bN n l,bI (wo t o),bN n l,bU us,bI (insT l t o i),bT s]:Heap)))) ((loadV Tp [bN n l,bI (wo t o),bN n l,bU us,bI (insT l t o i),bT s] 3 (.ptr 5 0 1 1)).map (fun v=>(v,([bN n l,bI (wo t o),bN n l,bU us,bI (insT l t o i),bT s]:Heap)))) [bN n l,bI (wo t o),bN n l,bU us,bI (insT l t o i),bT s] [bN n l,bI (wo t o),bN n l,bU us,bI (insT l t o i),bT s] && true)=true:=by
        rw [lb]
        have:same (.int .i64 s.2.1) (.int .i64 s.2.1)=true:=same_int s.2.1
        simp only [Option.map_some,recL,this,sH,Bool.and_self]
      by_cases cm:(i:Int) ∈ t
      · rw [decide_eq_true cm] at c73
        rw [if_neg (fun h=>h.1 cm),List.append_nil] at his
        have s1:=it_l_0 (F:=prIn) 0 n (l.map encT) (t.map encI) o [bN n l,bI (wo t o),bN n l,bU us,bI (insT l t o i)] 3 4 (insT l t o i).length l.length i s.1 s.2.1 s.2.2 (y3:=Ud) (y10:=Ud) (y11:=Ud) (by omega) g2 nv st c73 rfl
        rw [wrap_succ (by omega)] at s1
        rw [his]
        exact s1
      rw [decide_eq_false cm] at c73
      by_cases cj:(labT l (wo t o)).getD s.1.toNat 0=(labT l (wo t o)).getD s.2.1.toNat 0
      · rw [if_neg (fun h=>(hJ.1 h.2) cj),List.append_nil] at his
        have s1:=it_l_1 (F:=prIn) (max N2 N3) n (l.map encT) (t.map encI) o [bN n l,bI (wo t o),bN n l,bU us,bI (insT l t o i)] 3 4 (insT l t o i).length l.length i s.1 s.2.1 s.2.2 (y3:=Ud) (y10:=Ud) (y11:=Ud) (by omega) g2 nv st c73 (fld0 _) la o1' (fld1 _) lb o2' cj hs2
        rw [wrap_succ (by omega)] at s1
        rw [his]
        exact s1
      · rw [if_pos ⟨cm,hJ.2 cj⟩] at his
        have ap:=app_in1 (H:=[bN n l,bI (wo t o),bN n l,bU us,bI (insT l t o i),bT s]) (b:=4) (o:=insT l t o i) rfl (by omega) (i:Int)
        rw [← his] at ap
        have s1:=it_l_2 (F:=prIn) (max N2 N3) n (l.map encT) (t.map encI) o [bN n l,bI (wo t o),bN n l,bU us,bI (insT l t o i)] 3 4 (insT l t o i).length l.length i s.1 s.2.1 s.2.2 (y3:=Ud) (y10:=Ud) (y11:=Ud) (by omega) g2 nv st c73 (fld0 _) la o1' (fld1 _) lb o2' cj hs2 ap
        have el:(insT l t o (i+1)).length=(insT l t o i).length+1:=by rw [his]; simp
        rw [wrap_succ (by omega),← el] at s1
        exact s1) (fun i _=>by kernel_rfl) (fun i _=>by
          have hb:bndE ((env59 (encN n l) (.imm .arg 1 (t.map encI)) (.int .i64 o) Ud (.imm .lit 1 []) (.ptr 3 0 0 1) (.sl 4 0 (insT l t o (i+1)).length none (insT l t o (i+1)).length 1) Ud Ud (.imm .arg 3 (l.map encT)) (.int .i64 (l.length:Int)) (.int .i64 ((i+1:Nat):Int))))=5:=by simp only [bndE,bnd,bndL,encN]; rfl
          show gc 5 (bndE ((env59 (encN n l) (.imm .arg 1 (t.map encI)) (.int .i64 o) Ud (.imm .lit 1 []) (.ptr 3 0 0 1) (.sl 4 0 (insT l t o (i+1)).length none (insT l t o (i+1)).length 1) Ud Ud (.imm .arg 3 (l.map encT)) (.int .i64 (l.length:Int)) (.int .i64 ((i+1:Nat):Int))))) ([bN n l,bI (wo t o),bN n l,bU us,bI (insT l t o (i+1))] ++ [bT (l.getD i (0,0,0))])=_
          rw [hb]
          exact gc_back (H:=[bN n l,bI (wo t o),bN n l,bU us,bI (insT l t o (i+1))]) (by show max 0 (max 0 (max 0 (max 0 (max 0 (max 0 0))))) ≤ 5; decide) (Nat.le_refl _)) (it_l_3 (F:=prIn) 0 n (l.map encT) (t.map encI) o [bN n l,bI (wo t o),bN n l,bU us,bI (insT l t o l.length)] 3 4 (insT l t o l.length).length l.length l.length 0 0 0 (y3:=Ud) (y10:=Ud) (y11:=Ud) (by omega)) (by simp) (c:=sub [1,1,1,0,1,0] B59) (by kernel_rfl) (fun i _=>by kernel_rfl)
  have z:=it_z_0 (F:=prIn) 0 n (l.map encT) (t.map encI) o [bN n l,bI (wo t o),bN n l,bU us,bI (insT l t o l.length)] 3 4 (insT l t o l.length).length (y21:=.imm .arg 3 (l.map encT)) (y22:=.int .i64 (l.length:Int)) (y23:=.int .i64 (l.length:Int)) (y3:=Ud) (y10:=Ud) (y11:=Ud)
  refine ⟨_,_,_,.sl 4 0 (insT l t o l.length).length none (insT l t o l.length).length 1,sq (a) (sq (b) (sq (c) (sq (sq (d) (bke (c:=sub [1,1,1,0,1] B59) (lpi (e0:=(env59 (encN n l) (.imm .arg 1 (t.map encI)) (.int .i64 o) (.ptr 0 0 0 1) (.imm .lit 1 []) (.ptr 3 0 0 1) (.sl 4 0 0 none 0 1) Ud Ud (.imm .arg 3 (l.map encT)) (.int .i64 (l.length:Int)) (.int .i64 ((0:Nat):Int)))) r (b:=sub [1,1,1,0,1,0,0] B59))) (c:=sub [1,1,1,0] B59)) (z) (c:=sub [1,1,1] B59)) (c:=sub [1,1] B59)) (c:=sub [1] B59)) (c:=B59),by simp,by simp only [resultsV,res59]; rfl,?_⟩
  exact res_li (b:=4) rfl rfl
end Go.Proofs.Ytiejmoglooaalaa
end
section
open Go Go.HL
namespace Go.Proofs.Ytiejmoglooaalaa
def sw1 (p:Int) (s:List Int × Bool) (x:Int):List Int × Bool:=if s.2=false∧p < x then (s.1 ++ [p],true) else s
def swS (o p:Int) (s:List Int × Bool) (x:Int):List Int × Bool:=if x=o then sw1 p s x else ((sw1 p s x).1 ++ [x],(sw1 p s x).2)
def swF (o p:Int) (t:List Int):List Int × Bool:=t.foldl (swS o p) ([],false)
theorem swF_succ (o p:Int) (t:List Int) {i:Nat} (h:i < t.length):swF o p (t.take (i+1))=swS o p (swF o p (t.take i)) (t.getD i 0):=by
  rw [swF,take_snoc h,List.foldl_append]; rfl
theorem swp_len (o p:Int) (t:List Int):∀ i,i ≤ t.length → (swF o p (t.take i)).1.length ≤ 2 * i:=by
  intro i
  induction i with
  | zero=>intro _; simp [swF]
  | succ i ih =>
    intro hi
    have h:=ih (by omega)
    rw [swF_succ o p t (by omega),swS,sw1]
    split <;> split <;> simp <;> omega
end Go.Proofs.Ytiejmoglooaalaa
end
section
open Go Go.HL
namespace Go.Proofs.Ytiejmoglooaalaa
set_option linter.unusedSectionVars false
theorem tk_snoc (l:List St) (t:List Int) (k:Int):tkT l (t ++ [k])=if (labT l t).getD (sA l k).toNat 0 ≠ (labT l t).getD (sB l k).toNat 0 then tkT l t ++ [k] else tkT l t:=by
  have a:=tkT_succ l (t ++ [k]) (i:=t.length) (by simp)
  have g0:(t ++ [k]).getD t.length 0=k:=by simp [List.getD]
  rw [List.take_of_length_le (by simp),g0,List.take_left] at a
  exact a
theorem tk_le (l:List St) (t:List Int):(tkT l t).length ≤ t.length:=ksT_len l t
theorem mem_wo {t:List Int} {v x:Int}:x ∈ wo t v ↔ x ∈ t∧x ≠ v:=by simp [wo,List.mem_filter]
theorem wo_len {t:List Int} (hn:t.Nodup) {k:Int} (hk:k ∈ t):t.length=(wo t k).length+1:=by
  have:=filter_drop1 (p:=fun _=>true) (q:=fun x=>decide (x ≠ k)) hn hk rfl (fun y _ hy=>decide_eq_true hy) (by simp)
  rw [List.filter_eq_self.2 fun _ _=>rfl] at this
  exact this
section
variable {l:List St} (he:endB l=true) {t:List Int} (ht:∀ k ∈ t,0 ≤ k∧k < (l.length:Int)) (hn:t.Nodup) (hf:(tkT l t).length=t.length)
include he ht hn hf
theorem forest_sep {k:Int} (hk:k ∈ t):(tkT l (wo t k)).length+1=t.length∧joinsT l t k k:=by
  have hm:∀ x,x ∈ t ↔ x ∈ wo t k ++ [k]:=fun x=>by
    rw [List.mem_append,mem_wo,List.mem_singleton]
    by_cases c:x=k
    · subst c; simp [hk]
    · simp [c]
  have h1:=tk_len_same he ht hm
  rw [hf,tk_snoc] at h1
  have h2:=wo_len hn hk
  have h3:=tk_le l (wo t k)
  split at h1
  · rename_i c
    rw [List.length_append,List.length_singleton] at h1
    exact ⟨h1.symm,c⟩
  · omega
theorem exch_len {k j:Int} (hk:k ∈ t) (hj:0 ≤ j∧j < (l.length:Int)) {s:List Int} (hs:∀ x,x ∈ s ↔ x ∈ wo t k ++ [j]):(tkT l s).length=t.length ↔ joinsT l t k j:=by
  have hin:∀ x ∈ wo t k ++ [j],0 ≤ x∧x < (l.length:Int):=fun x hx=>by
    rcases List.mem_append.1 hx with h | h
    · exact ht x (mem_wo.1 h).1
    · rw [List.mem_singleton.1 h]; exact hj
  have h1:=tk_len_same he (t:=s) (t':=wo t k ++ [j]) (fun x hx=>hin x ((hs x).1 hx)) hs
  have h2:=(forest_sep he ht hn hf hk).1
  rw [h1,tk_snoc]
  split
  · rename_i c
    rw [List.length_append,List.length_singleton]
    exact ⟨fun _=>c,fun _=>by omega⟩
  · rename_i c
    exact ⟨fun h=>by omega,fun h=>absurd h c⟩
end
end Go.Proofs.Ytiejmoglooaalaa
end
section
open Go Go.HL
namespace Go.Proofs.Ytiejmoglooaalaa
set_option linter.unusedSectionVars false
theorem tree_nodup' (l:List St):(treeT l).Nodup:=by
  have:=tk_sublist l (ordT l) (ordT l).length (Nat.le_refl _)
  rw [List.take_length] at this
  exact this.nodup (ordT_nodup l)
theorem getD_notin' {l:List Int} (h:l.Nodup) {i:Nat} (hi:i < l.length):l.getD i 0 ∉ l.take i:=by
  intro c
  have h2:(l.take (i+1)).Nodup:=(List.take_sublist _ _).nodup h
  rw [take_snoc hi] at h2
  exact (List.nodup_append.1 h2).2.2 _ c _ (List.mem_singleton_self _) rfl
theorem tk_mono (l:List St) (t:List Int) {i:Nat}:∀ d,i+d ≤ t.length → ∀ x ∈ tkT l (t.take i),x ∈ tkT l (t.take (i+d)):=by
  intro d
  induction d with
  | zero=>intro _ x hx; exact hx
  | succ d ih =>
    intro h x hx
    have:=ih (by omega) x hx
    rw [show i+(d+1)=(i+d)+1 by omega,tkT_succ l t (by omega)]
    split
    · exact List.mem_append_left _ this
    · exact this
theorem tk_mono_all (l:List St) (t:List Int) {i:Nat} (hi:i ≤ t.length):∀ x ∈ tkT l (t.take i),x ∈ tkT l t:=fun x hx=>by
  have:=tk_mono l t (i:=i) (t.length - i) (by omega) x hx
  rwa [show i+(t.length - i)=t.length by omega,List.take_length] at this
theorem nodup_len:∀ {a b:List Int},a.Nodup → b.Nodup → (∀ x,x ∈ a ↔ x ∈ b) → a.length=b.length
  | [],b,_,_,h=>by
    have:b=[]:=List.eq_nil_iff_forall_not_mem.2 fun x hx=>by cases (h x).2 hx
    rw [this]
  | x :: a,b,ha,hb,h=>by
    obtain ⟨h1,h2⟩:=List.nodup_cons.1 ha
    have hx:x ∈ b:=(h x).1 (List.mem_cons_self ..)
    rw [wo_len hb hx,List.length_cons]
    refine congrArg (·+1) (nodup_len h2 (hb.sublist List.filter_sublist) fun y=>?_)
    rw [mem_wo]
    constructor
    · intro hy
      exact ⟨(h y).1 (List.mem_cons_of_mem _ hy),fun c=>h1 (c ▸ hy)⟩
    · intro ⟨hy,hne⟩
      exact (List.mem_cons.1 ((h y).2 hy)).resolve_left hne
theorem startT_asc (m:Nat):(startT m).Pairwise (· < ·):=List.pairwise_map.2 (List.Pairwise.imp (fun {a b} h=>by omega) (List.pairwise_lt_range (n:=m)))
theorem frT_asc (l:List St):(frT l).Pairwise (· < ·):=(startT_asc _).sublist List.filter_sublist
theorem asc_nodup {t:List Int} (h:t.Pairwise (· < ·)):t.Nodup:=List.Pairwise.imp (fun {a b} h c=>by omega) h
section
variable {n:Int} {l:List St} (hnet:netB n l=true) (hc:connB n l=true)
include hnet
theorem endB_net:endB l=true:=endN_B (netB_ends hnet).2.2.1 (by have:=(netB_ends hnet).1; omega)
theorem late {j:Int} (hj:0 ≤ j∧j < (l.length:Int)) (hjT:j ∉ treeT l) {p:Nat} (hp:p < (ordT l).length) (hpj:(ordT l).getD p 0=j):Cn l (tkT l ((ordT l).take p)) (sA l j) (sB l j):=by
  have he:=endB_net hnet
  have ho:∀ k ∈ ordT l,0 ≤ k∧k < (l.length:Int):=fun k hk=>ordT_mem.1 hk
  obtain ⟨ea,eb⟩:=ends he hj
  have hin:∀ k ∈ tkT l ((ordT l).take p),0 ≤ k∧k < (l.length:Int):=fun k hk=>tree_in (tk_mono_all l (ordT l) (by omega) k hk)
  refine (lb_iff he hin ea eb).1 ?_
  rw [lb,lb,(ks_tk (l:=l) (t:=ordT l) p (by omega)).1]
  by_cases c:(labT l ((ordT l).take p)).getD (sA l j).toNat 0=(labT l ((ordT l).take p)).getD (sB l j).toNat 0
  · exact c
  · exfalso
    refine hjT (tk_mono_all l (ordT l) (i:=p+1) (by omega) j ?_)
    rw [tkT_succ l (ordT l) hp,hpj,if_pos c]
    exact List.mem_append_right _ (List.mem_singleton_self _)
theorem pos_of {j:Int} (hj:0 ≤ j∧j < (l.length:Int)):∃ p,p < (ordT l).length∧(ordT l).getD p 0=j:=by
  obtain ⟨p,hp,he⟩:=List.getElem_of_mem (ordT_mem.2 hj)
  exact ⟨p,hp,by rw [getD_at hp]; exact he⟩
theorem exch_le {k j:Int} (hk:k ∈ treeT l) (hj:0 ≤ j∧j < (l.length:Int)) (hjT:j ∉ treeT l) (hJ:joinsT l (treeT l) k j):wOf l k ≤ wOf l j:=by
  have he:=endB_net hnet
  have hkr:=tree_in hk
  obtain ⟨p,hp,hpj⟩:=pos_of hnet hj
  obtain ⟨q,hq,hqk⟩:=pos_of hnet hkr
  have hs:=ordN_sorted l l.length
  have hs:(ordT l).Pairwise (ltK l):=hs
  have hne:p ≠ q:=fun c=>hjT (by rw [← hpj,c,hqk]; exact hk)
  rcases Nat.lt_or_gt_of_ne hne with c | c
  · exfalso
    have h1:=late hnet hj hjT hp hpj
    have hwin:∀ x ∈ wo (treeT l) k,0 ≤ x∧x < (l.length:Int):=fun x hx=>tree_in (mem_wo.1 hx).1
    refine hJ (cn_lb he hwin (h1.mono fun x hx=>mem_wo.2 ⟨tk_mono_all l (ordT l) (by omega) x hx,fun e=>?_⟩))
    have h2:x ∈ (ordT l).take p:=(by have:=tk_sublist l (ordT l) p (by omega); exact this.subset hx)
    obtain ⟨r,hr,hre⟩:=List.getElem_of_mem h2
    rw [List.length_take] at hr
    rw [List.getElem_take,e,← hqk,getD_at hq] at hre
    have:=(ordT_nodup l)
    have h3:=List.pairwise_iff_getElem.1 this r q (by omega) hq (by omega)
    exact h3 hre
  · have:=List.pairwise_iff_getElem.1 hs q p (by omega) (by omega) c
    rw [← getD_at (d:=0) hq,← getD_at (d:=0) hp,hqk,hpj] at this
    unfold ltK at this
    omega
end
section
variable {n:Int} {l:List St} (hnet:netB n l=true) (hc:connB n l=true)
include hnet
include hc
theorem tree_len:((treeT l).length:Int)=n - 1:=of_decide_eq_true hc
theorem tree_forest:(tkT l (treeT l)).length=(treeT l).length:=by rw [(lab_tree l).2]
theorem exch_ex {j:Int} (hj:0 ≤ j∧j < (l.length:Int)) (hjT:j ∉ treeT l):∃ k ∈ treeT l,joinsT l (treeT l) k j:=by
  have he:=endB_net hnet
  obtain ⟨ea,eb⟩:=ends he hj
  have hTin:∀ x ∈ treeT l,0 ≤ x∧x < (l.length:Int):=fun x hx=>tree_in hx
  have hab:sA l j ≠ sB l j:=by
    have h:=hnet
    simp only [netB,Bool.and_eq_true,List.all_eq_true,decide_eq_true_eq,stB] at h
    have:=(h.1 _ (mem_getD (l:=l) (0,0,0) (show j.toNat < l.length by omega))).2.2.1
    exact this
  obtain ⟨p,hp,hpj⟩:=pos_of hnet hj
  have h1:=(late hnet hj hjT hp hpj).mono (t':=treeT l) fun x hx=>tk_mono_all l (ordT l) (by omega) x hx
  have h2:=cn_lb he hTin h1
  have htk:∀ i,∀ x ∈ (treeT l).take i,0 ≤ x∧x < (l.length:Int):=fun i x hx=>hTin x (List.mem_of_mem_take hx)
  have key:∀ i,i ≤ (treeT l).length → lb l ((treeT l).take i) (sA l j)=lb l ((treeT l).take i) (sB l j) → ∃ m,m < i∧lb l ((treeT l).take m) (sA l j) ≠ lb l ((treeT l).take m) (sB l j)∧lb l ((treeT l).take (m+1)) (sA l j)=lb l ((treeT l).take (m+1)) (sB l j):=by
    intro i
    induction i with
    | zero =>
      intro _ h
      exfalso
      have e:∀ v:Int,0 ≤ v∧v < 16 → lb l ((treeT l).take 0) v=v:=fun v hv=>by
        show (startT 16).getD v.toNat 0=v
        have:v.toNat < 16:=by omega
        simp [startT,List.getD,this]; omega
      rw [e _ ea,e _ eb] at h
      exact hab h
    | succ i ih =>
      intro hi h
      by_cases c:lb l ((treeT l).take i) (sA l j)=lb l ((treeT l).take i) (sB l j)
      · obtain ⟨m,h1,h2,h3⟩:=ih (by omega) c
        exact ⟨m,by omega,h2,h3⟩
      · exact ⟨i,by omega,c,h⟩
  obtain ⟨m,hm,hne,heq⟩:=key (treeT l).length (Nat.le_refl _) (by rw [List.take_length]; exact h2)
  have hk:=mem_getD (l:=treeT l) 0 hm
  refine ⟨(treeT l).getD m 0,hk,fun hsame=>?_⟩
  have hsame:lb l (wo (treeT l) ((treeT l).getD m 0)) (sA l j)=lb l (wo (treeT l) ((treeT l).getD m 0)) (sB l j):=hsame
  have hwin:∀ x ∈ wo (treeT l) ((treeT l).getD m 0),0 ≤ x∧x < (l.length:Int):=fun x hx=>hTin x (mem_wo.1 hx).1
  obtain ⟨ka,kb⟩:=ends he (hTin _ hk)
  have hmono:∀ x ∈ (treeT l).take m,x ∈ wo (treeT l) ((treeT l).getD m 0):=fun x hx=>mem_wo.2 ⟨List.mem_of_mem_take hx,fun c=>getD_notin' (tree_nodup' l) hm (c ▸ hx)⟩
  have cA:=(lb_cn he (htk m) ka).mono hmono
  have cB:=(lb_cn he (htk m) kb).mono hmono
  have ca:=(lb_cn he (htk m) ea).mono hmono
  have cb:=(lb_cn he (htk m) eb).mono hmono
  have cab:=(lb_iff he hwin ea eb).1 hsame
  rw [lb_succ he hTin hm ea,lb_succ he hTin hm eb] at heq
  have hK:Cn l (wo (treeT l) ((treeT l).getD m 0)) (sA l ((treeT l).getD m 0)) (sB l ((treeT l).getD m 0)):=by
    generalize lb l ((treeT l).take m) (sA l j)=x at *
    generalize lb l ((treeT l).take m) (sB l j)=y at *
    generalize lb l ((treeT l).take m) (sA l ((treeT l).getD m 0))=A at *
    generalize lb l ((treeT l).take m) (sB l ((treeT l).getD m 0))=B at *
    have hxy:Cn l (wo (treeT l) ((treeT l).getD m 0)) x y:=.trans ca (.trans cab (.symm cb))
    have hc:(x=A∧y=B) ∨ (x=B∧y=A):=by
      unfold labS at heq
      split at heq <;> split at heq <;> omega
    rcases hc with ⟨e1,e2⟩ | ⟨e1,e2⟩
    · rw [e1,e2] at hxy; exact .trans (.symm cA) (.trans hxy cB)
    · rw [e1,e2] at hxy; exact .trans (.symm cA) (.trans (.symm hxy) cB)
  exact (forest_sep he hTin (tree_nodup' l) (tree_forest hnet hc) hk).2 (cn_lb he hwin hK)
end
end Go.Proofs.Ytiejmoglooaalaa
end
section
open Go Go.HL
namespace Go.Proofs.Ytiejmoglooaalaa
set_option linter.unusedSectionVars false
theorem tk_app_le (l:List St) (s:List Int):∀ r:List Int,(tkT l (s ++ r)).length ≤ (tkT l s).length+r.length:=by
  have key:∀ (m:Nat) (r:List Int),r.length=m → (tkT l (s ++ r)).length ≤ (tkT l s).length+m:=by
    intro m
    induction m with
    | zero=>intro r h; rw [List.length_eq_zero_iff.1 h,List.append_nil]; omega
    | succ m ih =>
      intro r h
      rcases List.eq_nil_or_concat r with e | ⟨r',x,e⟩
      · rw [e] at h; simp at h
      · subst e
        rw [List.concat_eq_append] at h ⊢
        rw [List.length_append,List.length_singleton] at h
        have:=ih r' (by omega)
        rw [← List.append_assoc,tk_snoc]
        split
        · rw [List.length_append,List.length_singleton]; omega
        · omega
  exact fun r=>key r.length r rfl
def loW (l:List St) (x:Int) (t:List Int):List Int:=t.filter fun k=>decide (wOf l k ≤ x)
def hiW (l:List St) (x:Int) (t:List Int):List Int:=t.filter fun k=>!decide (wOf l k ≤ x)
theorem lohi_mem {l:List St} {x:Int} {t:List Int} (y:Int):y ∈ t ↔ y ∈ loW l x t ++ hiW l x t:=by
  rw [List.mem_append,loW,hiW,List.mem_filter,List.mem_filter]
  cases decide (wOf l y ≤ x) <;> simp
theorem lohi_len (l:List St) (x:Int):∀ t:List Int,(loW l x t).length+(hiW l x t).length=t.length
  | []=>rfl
  | y :: t=>by
    have:=lohi_len l x t
    unfold loW hiW at *
    rw [List.filter_cons,List.filter_cons]
    cases decide (wOf l y ≤ x) <;> simp <;> omega
theorem lo_mem {l:List St} {x:Int} {t:List Int} {y:Int}:y ∈ loW l x t ↔ y ∈ t∧wOf l y ≤ x:=by rw [loW,List.mem_filter,decide_eq_true_eq]
section
variable {l:List St} (he:endB l=true)
include he
theorem rt_le {t t':List Int} (ht:∀ k ∈ t,0 ≤ k∧k < (l.length:Int)) (ht':∀ k ∈ t',0 ≤ k∧k < (l.length:Int)) (hs:∀ u v:Int,Cn l t u v → Cn l t' u v):rt (labT l t') ≤ rt (labT l t):=by
  unfold rt
  rw [← List.countP_eq_length_filter,← List.countP_eq_length_filter]
  refine List.countP_mono_left fun v hv h=>?_
  have hv:=List.mem_range.1 hv
  have h:lb l t' (v:Int)=(v:Int):=of_decide_eq_true h
  have hr:0 ≤ (v:Int)∧(v:Int) < 16:=by omega
  refine decide_eq_true (show lb l t (v:Int)=(v:Int) from ?_)
  have h1:=cn_lb he ht' (hs _ _ (lb_cn he ht hr))
  have h2:=lb_lo he ht' (lb_rng he ht hr)
  have h3:=lb_lo he ht hr
  omega
theorem rank_le {t t':List Int} (ht:∀ k ∈ t,0 ≤ k∧k < (l.length:Int)) (ht':∀ k ∈ t',0 ≤ k∧k < (l.length:Int)) (hs:∀ u v:Int,Cn l t u v → Cn l t' u v):(tkT l t).length ≤ (tkT l t').length:=by
  have:=rt_le he ht ht' hs
  have h1:=tk_rank he ht
  have h2:=tk_rank he ht'
  omega
theorem sub_forest {t s r:List Int} (ht:∀ k ∈ t,0 ≤ k∧k < (l.length:Int)) (hf:(tkT l t).length=t.length) (hm:∀ x,x ∈ t ↔ x ∈ s ++ r) (hl:s.length+r.length=t.length):(tkT l s).length=s.length:=by
  have h1:=tk_len_same he ht hm
  have h2:=tk_app_le l s r
  have h3:=tk_le l s
  omega
theorem first_way {t:List Int} (ht:∀ k ∈ t,0 ≤ k∧k < (l.length:Int)) (hn:t.Nodup) (hf:(tkT l t).length=t.length) {j:Int} (hj:0 ≤ j∧j < (l.length:Int)) (hab:sA l j ≠ sB l j) (h2:Cn l t (sA l j) (sB l j)) :
    ∃ m,m < t.length∧joinsT l t (t.getD m 0) j∧Cn l (t.take (m+1)) (sA l j) (sB l j):=by
  obtain ⟨ea,eb⟩:=ends he hj
  have htk:∀ i,∀ x ∈ t.take i,0 ≤ x∧x < (l.length:Int):=fun i x hx=>ht x (List.mem_of_mem_take hx)
  have key:∀ i,i ≤ t.length → lb l (t.take i) (sA l j)=lb l (t.take i) (sB l j) → ∃ m,m < i∧lb l (t.take m) (sA l j) ≠ lb l (t.take m) (sB l j)∧lb l (t.take (m+1)) (sA l j)=lb l (t.take (m+1)) (sB l j):=by
    intro i
    induction i with
    | zero =>
      intro _ h
      exfalso
      have e:∀ v:Int,0 ≤ v∧v < 16 → lb l (t.take 0) v=v:=fun v hv=>by
        show (startT 16).getD v.toNat 0=v
        have:v.toNat < 16:=by omega
        simp [startT,List.getD,this]; omega
      rw [e _ ea,e _ eb] at h
      exact hab h
    | succ i ih =>
      intro hi h
      by_cases c:lb l (t.take i) (sA l j)=lb l (t.take i) (sB l j)
      · obtain ⟨m,h1,h2,h3⟩:=ih (by omega) c
        exact ⟨m,by omega,h2,h3⟩
      · exact ⟨i,by omega,c,h⟩
  obtain ⟨m,hm,hne,heq⟩:=key t.length (Nat.le_refl _) (by rw [List.take_length]; exact cn_lb he ht h2)
  have hk:=mem_getD (l:=t) 0 hm
  refine ⟨m,hm,fun hsame=>?_,(lb_iff he (htk _) ea eb).1 heq⟩
  have hsame:lb l (wo t (t.getD m 0)) (sA l j)=lb l (wo t (t.getD m 0)) (sB l j):=hsame
  have hwin:∀ x ∈ wo t (t.getD m 0),0 ≤ x∧x < (l.length:Int):=fun x hx=>ht x (mem_wo.1 hx).1
  obtain ⟨ka,kb⟩:=ends he (ht _ hk)
  have hmono:∀ x ∈ t.take m,x ∈ wo t (t.getD m 0):=fun x hx=>mem_wo.2 ⟨List.mem_of_mem_take hx,fun c=>getD_notin' hn hm (c ▸ hx)⟩
  have cA:=(lb_cn he (htk m) ka).mono hmono
  have cB:=(lb_cn he (htk m) kb).mono hmono
  have ca:=(lb_cn he (htk m) ea).mono hmono
  have cb:=(lb_cn he (htk m) eb).mono hmono
  have cab:=(lb_iff he hwin ea eb).1 hsame
  rw [lb_succ he ht hm ea,lb_succ he ht hm eb] at heq
  have hK:Cn l (wo t (t.getD m 0)) (sA l (t.getD m 0)) (sB l (t.getD m 0)):=by
    generalize lb l (t.take m) (sA l j)=x at *
    generalize lb l (t.take m) (sB l j)=y at *
    generalize lb l (t.take m) (sA l (t.getD m 0))=A at *
    generalize lb l (t.take m) (sB l (t.getD m 0))=B at *
    have hxy:Cn l (wo t (t.getD m 0)) x y:=.trans ca (.trans cab (.symm cb))
    have hc:(x=A∧y=B) ∨ (x=B∧y=A):=by
      unfold labS at heq
      split at heq <;> split at heq <;> omega
    rcases hc with ⟨e1,e2⟩ | ⟨e1,e2⟩
    · rw [e1,e2] at hxy; exact .trans (.symm cA) (.trans hxy cB)
    · rw [e1,e2] at hxy; exact .trans (.symm cA) (.trans (.symm hxy) cB)
  exact (forest_sep he ht hn hf hk).2 (cn_lb he hwin hK)
end
structure Tr (n:Int) (l:List St) (t:List Int):Prop where
  rg:∀ k ∈ t,0 ≤ k∧k < (l.length:Int)
  nd:t.Nodup
  ln:(t.length:Int)=n - 1
  fo:(tkT l t).length=t.length
theorem cn_out {n:Int} {l:List St} (hE:∀ k,0 ≤ k∧k < (l.length:Int) → sA l k < n∧sB l k < n) {t:List Int} (ht:∀ k ∈ t,0 ≤ k∧k < (l.length:Int)) {u v:Int} (h:Cn l t u v):u=v ∨ (u < n∧v < n):=by
  induction h with
  | refl v=>exact .inl rfl
  | edge h=>exact .inr (hE _ (ht _ h))
  | symm _ ih=>omega
  | trans _ _ h1 h2=>omega
section
variable {n:Int} {l:List St} (hnet:netB n l=true)
include hnet
theorem ends_net {k:Int} (hk:0 ≤ k∧k < (l.length:Int)):(0 ≤ sA l k∧sA l k < n)∧(0 ≤ sB l k∧sB l k < n)∧sA l k ≠ sB l k:=by
  have h:=hnet
  simp only [netB,Bool.and_eq_true,List.all_eq_true,decide_eq_true_eq,stB] at h
  have:=h.1 _ (mem_getD (l:=l) (0,0,0) (show k.toNat < l.length by omega))
  exact ⟨by have:=this.1; exact this,by have:=this.2.1; exact this,this.2.2.1⟩
theorem rt_ge {t:List Int} (ht:∀ k ∈ t,0 ≤ k∧k < (l.length:Int)):17 - n ≤ (rt (labT l t):Int):=by
  have he:=endB_net hnet
  obtain ⟨⟨n1,n2⟩,_⟩:=netB_ends hnet
  have hE:∀ k,0 ≤ k∧k < (l.length:Int) → sA l k < n∧sB l k < n:=fun k hk=>by have:=ends_net hnet hk; omega
  have h1:((List.range 16).filter fun (v:Nat)=>decide (v=0 ∨ n ≤ (v:Int))).length ≤ rt (labT l t):=by
    unfold rt
    rw [← List.countP_eq_length_filter,← List.countP_eq_length_filter]
    refine List.countP_mono_left fun v hv h=>?_
    have hv:=List.mem_range.1 hv
    have h:=of_decide_eq_true h
    have hr:0 ≤ (v:Int)∧(v:Int) < 16:=by omega
    refine decide_eq_true (show lb l t (v:Int)=(v:Int) from ?_)
    have h2:=lb_lo he ht hr
    have h3:=cn_out hE ht (lb_cn he ht hr)
    omega
  have h2:∀ m:Nat,1 ≤ m∧m ≤ 16 → ((List.range 16).filter fun (v:Nat)=>decide (v=0 ∨ (m:Int) ≤ (v:Int))).length=17 - m:=by
    have:∀ m:Fin 17,1 ≤ m.val → ((List.range 16).filter fun (v:Nat)=>decide (v=0 ∨ (m.val:Int) ≤ (v:Int))).length=17 - m.val:=by decide +kernel
    exact fun m hm=>this ⟨m,by omega⟩ hm.1
  have h3:=h2 n.toNat (by omega)
  rw [show ((n.toNat:Nat):Int)=n by omega] at h3
  omega
theorem rank_lt {t:List Int} (ht:∀ k ∈ t,0 ≤ k∧k < (l.length:Int)):((tkT l t).length:Int) ≤ n - 1:=by
  have:=rt_ge hnet ht
  have:=tk_rank (endB_net hnet) ht
  omega
theorem Tr.con {t:List Int} (h:Tr n l t) {j:Int} (hj:0 ≤ j∧j < (l.length:Int)):Cn l t (sA l j) (sB l j):=by
  have he:=endB_net hnet
  obtain ⟨ea,eb⟩:=ends he hj
  refine (lb_iff he h.rg ea eb).1 ?_
  have h1:=tk_snoc l t j
  by_cases c:(labT l t).getD (sA l j).toNat 0=(labT l t).getD (sB l j).toNat 0
  · exact c
  · exfalso
    rw [if_pos c] at h1
    have h2:=rank_lt hnet (t:=t ++ [j]) (fun k hk=>(List.mem_append.1 hk).elim (h.rg k) fun e=>(List.mem_singleton.1 e) ▸ hj)
    rw [h1,List.length_append,List.length_singleton,h.fo] at h2
    have:=h.ln
    omega
def Loc (l:List St) (t:List Int):Prop:=∀ k ∈ t,∀ j,0 ≤ j∧j < (l.length:Int) → j ∉ t → joinsT l t k j → wOf l k ≤ wOf l j
theorem loc_way {t:List Int} (h:Tr n l t) (hL:Loc l t) {j:Int} (hj:0 ≤ j∧j < (l.length:Int)):Cn l (loW l (wOf l j) t) (sA l j) (sB l j):=by
  have he:=endB_net hnet
  by_cases hjt:j ∈ t
  · exact .edge (lo_mem.2 ⟨hjt,Int.le_refl _⟩)
  have hab:=(ends_net hnet hj).2.2
  have hm:=fun y=>lohi_mem (l:=l) (x:=wOf l j) (t:=t) y
  have hlen:=lohi_len l (wOf l j) t
  have hrg:∀ k ∈ loW l (wOf l j) t ++ hiW l (wOf l j) t,0 ≤ k∧k < (l.length:Int):=fun k hk=>h.rg k ((hm k).2 hk)
  have hf:(tkT l (loW l (wOf l j) t ++ hiW l (wOf l j) t)).length=(loW l (wOf l j) t ++ hiW l (wOf l j) t).length:=by
    rw [← tk_len_same he h.rg hm,h.fo,List.length_append,hlen]
  have hn:(loW l (wOf l j) t ++ hiW l (wOf l j) t).Nodup:=by
    refine List.nodup_append.2 ⟨h.nd.sublist List.filter_sublist,h.nd.sublist List.filter_sublist,fun a ha b hb e=>?_⟩
    subst e
    have h1:=(List.mem_filter.1 ha).2
    have h2:=(List.mem_filter.1 hb).2
    rw [h1] at h2
    cases h2
  obtain ⟨m,hm1,hm2,hm3⟩:=first_way he hrg hn hf hj hab ((Tr.con hnet h hj).mono fun k hk=>(hm k).1 hk)
  have hk:=mem_getD (l:=loW l (wOf l j) t ++ hiW l (wOf l j) t) 0 hm1
  have hkt:=(hm _).2 hk
  have hJ:joinsT l t ((loW l (wOf l j) t ++ hiW l (wOf l j) t).getD m 0) j:=by
    have:labT l (wo t ((loW l (wOf l j) t ++ hiW l (wOf l j) t).getD m 0))=labT l (wo (loW l (wOf l j) t ++ hiW l (wOf l j) t) ((loW l (wOf l j) t ++ hiW l (wOf l j) t).getD m 0)):=lab_same he (fun x hx=>h.rg x (mem_wo.1 hx).1) (fun x=>by rw [mem_wo,mem_wo,← hm])
    unfold joinsT
    rw [this]
    exact hm2
  have hw:=hL _ hkt j hj hjt hJ
  have hml:m < (loW l (wOf l j) t).length:=by
    rcases Nat.lt_or_ge m (loW l (wOf l j) t).length with c | c
    · exact c
    · exfalso
      rw [getD_at hm1,List.getElem_append_right c] at hw
      rw [List.length_append] at hm1
      have:((hiW l (wOf l j) t)[m - (loW l (wOf l j) t).length]'(by omega)) ∈ hiW l (wOf l j) t:=List.getElem_mem _
      have:=(List.mem_filter.1 this).2
      simp only [Bool.not_eq_true',decide_eq_false_iff_not] at this
      exact this hw
  refine hm3.mono fun k hk=>?_
  rw [List.take_append_of_le_length (by omega)] at hk
  exact List.mem_of_mem_take hk
theorem lo_rank {t:List Int} (h:Tr n l t) (x:Int):(loW l x t).length ≤ (tkT l (loW l x (startT l.length))).length:=by
  have he:=endB_net hnet
  have h1:=sub_forest he h.rg h.fo (fun y=>lohi_mem (l:=l) (x:=x) y) (lohi_len l x t)
  have h2:=rank_le he (t:=loW l x t) (t':=loW l x (startT l.length)) (fun k hk=>h.rg k (lo_mem.1 hk).1) (fun k hk=>startT_mem.1 (lo_mem.1 hk).1) (fun u v huv=>huv.mono fun k hk=>lo_mem.2 ⟨startT_mem.2 (h.rg k (lo_mem.1 hk).1),(lo_mem.1 hk).2⟩)
  omega
theorem lo_rank_loc {t:List Int} (h:Tr n l t) (hL:Loc l t) (x:Int):(loW l x t).length=(tkT l (loW l x (startT l.length))).length:=by
  have he:=endB_net hnet
  have h1:=sub_forest he h.rg h.fo (fun y=>lohi_mem (l:=l) (x:=x) y) (lohi_len l x t)
  have h2:=rank_le he (t:=loW l x (startT l.length)) (t':=loW l x t) (fun k hk=>startT_mem.1 (lo_mem.1 hk).1) (fun k hk=>h.rg k (lo_mem.1 hk).1) (fun u v huv=>by
    induction huv with
    | refl v=>exact .refl v
    | edge hk =>
      obtain ⟨h3,h4⟩:=lo_mem.1 hk
      refine (loc_way hnet h hL (startT_mem.1 h3)).mono fun y hy=>?_
      obtain ⟨h5,h6⟩:=lo_mem.1 hy
      exact lo_mem.2 ⟨h5,by omega⟩
    | symm _ ih=>exact .symm ih
    | trans _ _ a b=>exact .trans a b)
  have h3:=lo_rank hnet h x
  omega
end
def layS (l:List St) (t:List Int):Nat → Nat
  | 0=>0
  | m+1=>layS l t m+(hiW l (m:Int) t).length
theorem layS_nil (l:List St):∀ m,layS l [] m=0
  | 0=>rfl
  | m+1=>by rw [layS,layS_nil l m]; rfl
theorem layS_cons (l:List St) (k:Int) (t:List Int) (hk:0 ≤ wOf l k):∀ m:Nat,(layS l (k :: t) m:Int)=layS l t m+min (wOf l k) m
  | 0=>by rw [layS,layS]; omega
  | m+1=>by
    have:=layS_cons l k t hk m
    rw [layS,layS,hiW,List.filter_cons]
    by_cases c:wOf l k ≤ (m:Int)
    · rw [decide_eq_true c]
      simp only [Bool.not_true,Bool.false_eq_true,if_false]
      show ((layS l (k :: t) m+(hiW l (m:Int) t).length:Nat):Int)=_
      omega
    · rw [decide_eq_false c]
      simp only [Bool.not_false,if_true,List.length_cons]
      show ((layS l (k :: t) m+((hiW l (m:Int) t).length+1):Nat):Int)=_
      omega
theorem wgt_lay (l:List St) {M:Nat}:∀ t:List Int,(∀ k ∈ t,0 ≤ wOf l k∧wOf l k ≤ (M:Int)) → wgt l t=(layS l t M:Int)
  | [],_=>by rw [layS_nil]; rfl
  | k :: t,h=>by
    have h1:=h k (List.mem_cons_self ..)
    rw [layS_cons l k t h1.1,← wgt_lay l t fun y hy=>h y (List.mem_cons_of_mem _ hy)]
    show (((k :: t).map (wOf l)).sum)=(t.map (wOf l)).sum+_
    rw [List.map_cons,List.sum_cons]
    omega
theorem layS_mono {l:List St} {t s:List Int} (h:∀ m:Nat,(hiW l (m:Int) t).length ≤ (hiW l (m:Int) s).length):∀ m,layS l t m ≤ layS l s m
  | 0=>Nat.le_refl _
  | m+1=>Nat.add_le_add (layS_mono h m) (h m)
section
variable {n:Int} {l:List St} (hnet:netB n l=true)
include hnet
theorem w_rng {k:Int} (hk:0 ≤ k∧k < (l.length:Int)):0 ≤ wOf l k∧wOf l k ≤ 1000:=(netB_ends hnet).2.2.2 _ (mem_getD _ (by omega))
theorem loc_min {t s:List Int} (ht:Tr n l t) (hL:Loc l t) (hs:Tr n l s):wgt l t ≤ wgt l s:=by
  rw [wgt_lay l (M:=1000) t fun k hk=>w_rng hnet (ht.rg k hk),wgt_lay l (M:=1000) s fun k hk=>w_rng hnet (hs.rg k hk)]
  have:=layS_mono (l:=l) (t:=t) (s:=s) (fun m=>by
    have h1:=lo_rank_loc hnet ht hL (m:Int)
    have h2:=lo_rank hnet hs (m:Int)
    have h3:=lohi_len l (m:Int) t
    have h4:=lohi_len l (m:Int) s
    have:=ht.ln
    have:=hs.ln
    omega) 1000
  omega
theorem first_tr (hc:connB n l=true):Tr n l (treeT l):=⟨fun k hk=>tree_in hk,tree_nodup' l,tree_len hnet hc,tree_forest hnet hc⟩
theorem first_loc:Loc l (treeT l):=fun _ hk _ hj hjt hJ=>exch_le hnet hk hj hjt hJ
theorem conn_of {t:List Int} (h:Tr n l t):connB n l=true:=by
  have he:=endB_net hnet
  have h1:=rank_le he (t:=t) (t':=ordT l) h.rg (fun k hk=>ordT_mem.1 hk) (fun u v huv=>huv.mono fun k hk=>ordT_mem.2 (h.rg k hk))
  have h2:=rank_lt hnet (t:=ordT l) fun k hk=>ordT_mem.1 hk
  have:=h.fo
  have:=h.ln
  exact decide_eq_true (show ((tkT l (ordT l)).length:Int)=n - 1 by omega)
theorem first_min {s:List Int} (hs:Tr n l s):wgt l (treeT l) ≤ wgt l s:=loc_min hnet (first_tr hnet (conn_of hnet hs)) (first_loc hnet) hs
end
end Go.Proofs.Ytiejmoglooaalaa
end
section
open Go Go.HL
namespace Go.Proofs.Ytiejmoglooaalaa
set_option maxRecDepth 100000
open Go.Proofs.Try renaming prog → Tp
open Go.HL.HV renaming undef → Ud
section
variable {F:FuncId → Option (List HV → Option HV)}
noncomputable def B25:Code:=Try.f25.body.getD .skip
abbrev env25 (v0 v1 v2 v6 v7 v8 v9 v10:HV):Env:=[(0,v0),(1,v1),(2,v2),(6,v6),(7,v7),(8,v8),(9,v9),(10,v10)]
theorem ta_a_0 (ls:List HV) (n most:Int) :RunsTo Tp (plF F) 25 (sub [0] B25) [(0,.imm .arg 3 ls),(1,.i n),(2,.i most)] [] .normal ((plF F).keys 25) (env25 (.imm .arg 3 ls) (.i n) (.i most) (.imm .lit 3 []) Ud Ud Ud Ud) [] :=
  RunsTo.hin 0 60 [] fun kf hk=>⟨_,by kernel_rfl,.nil⟩
theorem ta_b_0 (ls:List HV) (n most:Int)  {y7 y8 y9 y10:HV}:RunsTo Tp (plF F) 25 (sub [1,0] B25) (env25 (.imm .arg 3 ls) (.i n) (.i most) (.imm .lit 3 []) y7 y8 y9 y10) [] .normal ((plF F).keys 25) (env25 (.imm .arg 3 ls) (.i n) (.i most) (.imm .lit 3 []) (.sl 0 0 0 none 0 3) y8 y9 y10) [.arr 3 [] true 0] :=
  RunsTo.hin 0 60 [] fun kf hk=>⟨_,by kernel_rfl,.nil⟩
theorem ta_c_0 (ls:List HV) (n most:Int)  (q:Nat) (os:List HV) {y8 y9 y10:HV}:RunsTo Tp (plF F) 25 (sub [1,1,0,0] B25) (env25 (.imm .arg 3 ls) (.i n) (.i most) (.imm .lit 3 []) (.sl 0 0 q none q 3) y8 y9 y10) [.arr 3 os true 0] .normal ((plF F).keys 25) (env25 (.imm .arg 3 ls) (.i n) (.i most) (.imm .lit 3 []) (.sl 0 0 q none q 3) (.i 0) y9 y10) [.arr 3 os true 0] :=
  RunsTo.hin 0 60 [] fun kf hk=>⟨_,by kernel_rfl,.nil⟩
theorem ta_l_0 (ls:List HV) (n most:Int)  (q:Nat) (os:List HV) (i:Nat) (a b w x y v:Int) {y9 y10:HV}(g0:(i:Int) < (ls.length:Int)) (g1:(i:Int) < most) (g2:idxV Tp 22 (.imm .arg 3 ls) (.i (i:Int))=some (.vptr (.agg [.i a,.i b,.i w]))) (g3:∀ kf,callN Tp (plF F) (kf+1) 24 [.i a,.i n] [.arr 3 os true 0]=some (.i x,[.arr 3 os true 0])) (g4:idxV Tp 22 (.imm .arg 3 ls) (.i (i:Int))=some (.vptr (.agg [.i a,.i b,.i w]))) (g5:∀ kf,callN Tp (plF F) (kf+1) 24 [.i b,.i n] [.arr 3 os true 0]=some (.i y,[.arr 3 os true 0])) (g6:idxV Tp 22 (.imm .arg 3 ls) (.i (i:Int))=some (.vptr (.agg [.i a,.i b,.i w]))) (gS5:∀ kf,((same (.i a) (.i a) && sameH ([.arr 3 os true 0]:Heap) [.arr 3 os true 0] && sameH ([.arr 3 os true 0,.arr 3 [.agg [.i 0,.i 0,.i 0]] true 0]:Heap) [.arr 3 os true 0,.arr 3 [.agg [.i 0,.i 0,.i 0]] true 0]) && (recL (callN Tp (plF F) (kf+1) 24 [.i a,.i n] [.arr 3 os true 0]) (callN Tp (plF F) (kf+1) 24 [.i a,.i n] [.arr 3 os true 0]) [.arr 3 os true 0] [.arr 3 os true 0] && (recL (callN Tp (plF F) (kf+1) 24 [.i a,.i n] [.arr 3 os true 0]) (callN Tp (plF F) (kf+1) 24 [.i a,.i n] [.arr 3 os true 0,.arr 3 [.agg [.i 0,.i 0,.i 0]] true 0]) [.arr 3 os true 0] [.arr 3 os true 0,.arr 3 [.agg [.i 0,.i 0,.i 0]] true 0] && ((same (.i b) (.i b) && sameH ([.arr 3 os true 0]:Heap) [.arr 3 os true 0] && sameH ([.arr 3 os true 0,.arr 3 [.agg [.i 0,.i 0,.i 0]] true 0]:Heap) [.arr 3 os true 0,.arr 3 [.agg [.i 0,.i 0,.i 0]] true 0]) && (recL (callN Tp (plF F) (kf+1) 24 [.i b,.i n] [.arr 3 os true 0]) (callN Tp (plF F) (kf+1) 24 [.i b,.i n] [.arr 3 os true 0]) [.arr 3 os true 0] [.arr 3 os true 0] && (recL (callN Tp (plF F) (kf+1) 24 [.i b,.i n] [.arr 3 os true 0]) (callN Tp (plF F) (kf+1) 24 [.i b,.i n] [.arr 3 os true 0,.arr 3 [.agg [.i 0,.i 0,.i 0]] true 0]) [.arr 3 os true 0] [.arr 3 os true 0,.arr 3 [.agg [.i 0,.i 0,.i 0]] true 0] && ((same (.i w) (.i w) && sameH ([.arr 3 os true 0]:Heap) [.arr 3 os true 0] && sameH ([.arr 3 os true 0,.arr 3 [.agg [.i 0,.i 0,.i 0]] true 0]:Heap) [.arr 3 os true 0,.arr 3 [.agg [.i 0,.i 0,.i 0]] true 0]) && true)))))))=true) (g8:w < 0) (g9:∀ kf,callN Tp (plF F) (kf+1) 24 [.i w,.i 1001] [.arr 3 os true 0,.arr 3 [.agg [.i x,.i y,.i w]] true 0]=some (.i v,[.arr 3 os true 0,.arr 3 [.agg [.i x,.i y,.i w]] true 0])) (g10:x=y):RunsTo Tp (plF F) 25 (sub [1,1,0,1,0,0] B25) (env25 (.imm .arg 3 ls) (.i n) (.i most) (.imm .lit 3 []) (.sl 0 0 q none q 3) (.i (i:Int)) y9 y10) [.arr 3 os true 0] .normal ((plF F).keys 25) (env25 (.imm .arg 3 ls) (.i n) (.i most) (.imm .lit 3 []) (.sl 0 0 q none q 3) (.i (IntKind.i64.wrap ((i:Int)+1))) (.ptr 1 0 0 1) y10) [.arr 3 os true 0,.arr 3 [.agg [.i x,.i y,.i v]] true 0] :=
  RunsTo.hin 0 60 [⟨3,3,.bool true,[.arr 3 os true 0]⟩,⟨3,7,.bool true,[.arr 3 os true 0]⟩,⟨5,2,.vptr (.agg [.i a,.i b,.i w]),[.arr 3 os true 0]⟩,⟨5,6,.i x,[.arr 3 os true 0]⟩,⟨5,9,.vptr (.agg [.i a,.i b,.i w]),[.arr 3 os true 0]⟩,⟨5,13,.i y,[.arr 3 os true 0]⟩,⟨5,16,.vptr (.agg [.i a,.i b,.i w]),[.arr 3 os true 0]⟩,⟨6,2,.bool true,[.arr 3 os true 0,.arr 3 [.agg [.i x,.i y,.i w]] true 0]⟩,⟨7,2,.i v,[.arr 3 os true 0,.arr 3 [.agg [.i x,.i y,.i w]] true 0]⟩,⟨8,4,.bool false,[.arr 3 os true 0,.arr 3 [.agg [.i x,.i y,.i v]] true 0]⟩] fun kf hk=>⟨_,by kernel_rfl,(oB [.arr 3 os true 0] (decide_eq_true g0) (oB [.arr 3 os true 0] (decide_eq_true g1) (oC (gS5 kf) (oP [.arr 3 os true 0] g2 (oC (g3 kf) (oP [.arr 3 os true 0] g4 (oC (g5 kf) (oP [.arr 3 os true 0] g6 (oB [.arr 3 os true 0,.arr 3 [.agg [.i x,.i y,.i w]] true 0] (decide_eq_true g8) (oC (g9 kf) (oB [.arr 3 os true 0,.arr 3 [.agg [.i x,.i y,.i v]] true 0] (congrArg not (decide_eq_true g10)) .nil)))))))))))⟩
theorem ta_l_1 (ls:List HV) (n most:Int)  (q:Nat) (os:List HV) (i:Nat) (a b w x y v:Int) {y9 y10:HV}(g0:(i:Int) < (ls.length:Int)) (g1:(i:Int) < most) (g2:idxV Tp 22 (.imm .arg 3 ls) (.i (i:Int))=some (.vptr (.agg [.i a,.i b,.i w]))) (g3:∀ kf,callN Tp (plF F) (kf+1) 24 [.i a,.i n] [.arr 3 os true 0]=some (.i x,[.arr 3 os true 0])) (g4:idxV Tp 22 (.imm .arg 3 ls) (.i (i:Int))=some (.vptr (.agg [.i a,.i b,.i w]))) (g5:∀ kf,callN Tp (plF F) (kf+1) 24 [.i b,.i n] [.arr 3 os true 0]=some (.i y,[.arr 3 os true 0])) (g6:idxV Tp 22 (.imm .arg 3 ls) (.i (i:Int))=some (.vptr (.agg [.i a,.i b,.i w]))) (gS5:∀ kf,((same (.i a) (.i a) && sameH ([.arr 3 os true 0]:Heap) [.arr 3 os true 0] && sameH ([.arr 3 os true 0,.arr 3 [.agg [.i 0,.i 0,.i 0]] true 0]:Heap) [.arr 3 os true 0,.arr 3 [.agg [.i 0,.i 0,.i 0]] true 0]) && (recL (callN Tp (plF F) (kf+1) 24 [.i a,.i n] [.arr 3 os true 0]) (callN Tp (plF F) (kf+1) 24 [.i a,.i n] [.arr 3 os true 0]) [.arr 3 os true 0] [.arr 3 os true 0] && (recL (callN Tp (plF F) (kf+1) 24 [.i a,.i n] [.arr 3 os true 0]) (callN Tp (plF F) (kf+1) 24 [.i a,.i n] [.arr 3 os true 0,.arr 3 [.agg [.i 0,.i 0,.i 0]] true 0]) [.arr 3 os true 0] [.arr 3 os true 0,.arr 3 [.agg [.i 0,.i 0,.i 0]] true 0] && ((same (.i b) (.i b) && sameH ([.arr 3 os true 0]:Heap) [.arr 3 os true 0] && sameH ([.arr 3 os true 0,.arr 3 [.agg [.i 0,.i 0,.i 0]] true 0]:Heap) [.arr 3 os true 0,.arr 3 [.agg [.i 0,.i 0,.i 0]] true 0]) && (recL (callN Tp (plF F) (kf+1) 24 [.i b,.i n] [.arr 3 os true 0]) (callN Tp (plF F) (kf+1) 24 [.i b,.i n] [.arr 3 os true 0]) [.arr 3 os true 0] [.arr 3 os true 0] && (recL (callN Tp (plF F) (kf+1) 24 [.i b,.i n] [.arr 3 os true 0]) (callN Tp (plF F) (kf+1) 24 [.i b,.i n] [.arr 3 os true 0,.arr 3 [.agg [.i 0,.i 0,.i 0]] true 0]) [.arr 3 os true 0] [.arr 3 os true 0,.arr 3 [.agg [.i 0,.i 0,.i 0]] true 0] && ((same (.i w) (.i w) && sameH ([.arr 3 os true 0]:Heap) [.arr 3 os true 0] && sameH ([.arr 3 os true 0,.arr 3 [.agg [.i 0,.i 0,.i 0]] true 0]:Heap) [.arr 3 os true 0,.arr 3 [.agg [.i 0,.i 0,.i 0]] true 0]) && true)))))))=true) (g8:w < 0) (g9:∀ kf,callN Tp (plF F) (kf+1) 24 [.i w,.i 1001] [.arr 3 os true 0,.arr 3 [.agg [.i x,.i y,.i w]] true 0]=some (.i v,[.arr 3 os true 0,.arr 3 [.agg [.i x,.i y,.i w]] true 0])) (g10:¬ (x=y)) (g11:appV [.arr 3 os true 0,.arr 3 [.agg [.i x,.i y,.i v]] true 0] 3 24 (.sl 0 0 q none q 3) [.agg [.i x,.i y,.i v]]=some (.sl 0 0 (q+1) none (q+1) 3,[.arr 3 (os ++ [.agg [.i x,.i y,.i v]]) true 0,.arr 3 [.agg [.i x,.i y,.i v]] true 0])):RunsTo Tp (plF F) 25 (sub [1,1,0,1,0,0] B25) (env25 (.imm .arg 3 ls) (.i n) (.i most) (.imm .lit 3 []) (.sl 0 0 q none q 3) (.i (i:Int)) y9 y10) [.arr 3 os true 0] .normal ((plF F).keys 25) (env25 (.imm .arg 3 ls) (.i n) (.i most) (.imm .lit 3 []) (.sl 0 0 (q+1) none (q+1) 3) (.i (IntKind.i64.wrap ((i:Int)+1))) (.ptr 1 0 0 1) y10) [.arr 3 (os ++ [.agg [.i x,.i y,.i v]]) true 0,.arr 3 [.agg [.i x,.i y,.i v]] true 0] :=
  RunsTo.hin 0 60 [⟨3,3,.bool true,[.arr 3 os true 0]⟩,⟨3,7,.bool true,[.arr 3 os true 0]⟩,⟨5,2,.vptr (.agg [.i a,.i b,.i w]),[.arr 3 os true 0]⟩,⟨5,6,.i x,[.arr 3 os true 0]⟩,⟨5,9,.vptr (.agg [.i a,.i b,.i w]),[.arr 3 os true 0]⟩,⟨5,13,.i y,[.arr 3 os true 0]⟩,⟨5,16,.vptr (.agg [.i a,.i b,.i w]),[.arr 3 os true 0]⟩,⟨6,2,.bool true,[.arr 3 os true 0,.arr 3 [.agg [.i x,.i y,.i w]] true 0]⟩,⟨7,2,.i v,[.arr 3 os true 0,.arr 3 [.agg [.i x,.i y,.i w]] true 0]⟩,⟨8,4,.bool true,[.arr 3 os true 0,.arr 3 [.agg [.i x,.i y,.i v]] true 0]⟩,⟨9,3,.sl 0 0 (q+1) none (q+1) 3,[.arr 3 (os ++ [.agg [.i x,.i y,.i v]]) true 0,.arr 3 [.agg [.i x,.i y,.i v]] true 0]⟩] fun kf hk=>⟨_,by kernel_rfl,(oB [.arr 3 os true 0] (decide_eq_true g0) (oB [.arr 3 os true 0] (decide_eq_true g1) (oC (gS5 kf) (oP [.arr 3 os true 0] g2 (oC (g3 kf) (oP [.arr 3 os true 0] g4 (oC (g5 kf) (oP [.arr 3 os true 0] g6 (oB [.arr 3 os true 0,.arr 3 [.agg [.i x,.i y,.i w]] true 0] (decide_eq_true g8) (oC (g9 kf) (oB [.arr 3 os true 0,.arr 3 [.agg [.i x,.i y,.i v]] true 0] (congrArg not (decide_eq_false g10)) (oC (g11) .nil))))))))))))⟩
theorem ta_l_2 (ls:List HV) (n most:Int)  (q:Nat) (os:List HV) (i:Nat) (a b w x y v:Int) {y9 y10:HV}(g0:(i:Int) < (ls.length:Int)) (g1:(i:Int) < most) (g2:idxV Tp 22 (.imm .arg 3 ls) (.i (i:Int))=some (.vptr (.agg [.i a,.i b,.i w]))) (g3:∀ kf,callN Tp (plF F) (kf+1) 24 [.i a,.i n] [.arr 3 os true 0]=some (.i x,[.arr 3 os true 0])) (g4:idxV Tp 22 (.imm .arg 3 ls) (.i (i:Int))=some (.vptr (.agg [.i a,.i b,.i w]))) (g5:∀ kf,callN Tp (plF F) (kf+1) 24 [.i b,.i n] [.arr 3 os true 0]=some (.i y,[.arr 3 os true 0])) (g6:idxV Tp 22 (.imm .arg 3 ls) (.i (i:Int))=some (.vptr (.agg [.i a,.i b,.i w]))) (gS5:∀ kf,((same (.i a) (.i a) && sameH ([.arr 3 os true 0]:Heap) [.arr 3 os true 0] && sameH ([.arr 3 os true 0,.arr 3 [.agg [.i 0,.i 0,.i 0]] true 0]:Heap) [.arr 3 os true 0,.arr 3 [.agg [.i 0,.i 0,.i 0]] true 0]) && (recL (callN Tp (plF F) (kf+1) 24 [.i a,.i n] [.arr 3 os true 0]) (callN Tp (plF F) (kf+1) 24 [.i a,.i n] [.arr 3 os true 0]) [.arr 3 os true 0] [.arr 3 os true 0] && (recL (callN Tp (plF F) (kf+1) 24 [.i a,.i n] [.arr 3 os true 0]) (callN Tp (plF F) (kf+1) 24 [.i a,.i n] [.arr 3 os true 0,.arr 3 [.agg [.i 0,.i 0,.i 0]] true 0]) [.arr 3 os true 0] [.arr 3 os true 0,.arr 3 [.agg [.i 0,.i 0,.i 0]] true 0] && ((same (.i b) (.i b) && sameH ([.arr 3 os true 0]:Heap) [.arr 3 os true 0] && sameH ([.arr 3 os true 0,.arr 3 [.agg [.i 0,.i 0,.i 0]] true 0]:Heap) [.arr 3 os true 0,.arr 3 [.agg [.i 0,.i 0,.i 0]] true 0]) && (recL (callN Tp (plF F) (kf+1) 24 [.i b,.i n] [.arr 3 os true 0]) (callN Tp (plF F) (kf+1) 24 [.i b,.i n] [.arr 3 os true 0]) [.arr 3 os true 0] [.arr 3 os true 0] && (recL (callN Tp (plF F) (kf+1) 24 [.i b,.i n] [.arr 3 os true 0]) (callN Tp (plF F) (kf+1) 24 [.i b,.i n] [.arr 3 os true 0,.arr 3 [.agg [.i 0,.i 0,.i 0]] true 0]) [.arr 3 os true 0] [.arr 3 os true 0,.arr 3 [.agg [.i 0,.i 0,.i 0]] true 0] && ((same (.i w) (.i w) && sameH ([.arr 3 os true 0]:Heap) [.arr 3 os true 0] && sameH ([.arr 3 os true 0,.arr 3 [.agg [.i 0,.i 0,.i 0]] true 0]:Heap) [.arr 3 os true 0,.arr 3 [.agg [.i 0,.i 0,.i 0]] true 0]) && true)))))))=true) (g8:¬ (w < 0)) (g9:1000 < w) (g10:∀ kf,callN Tp (plF F) (kf+1) 24 [.i w,.i 1001] [.arr 3 os true 0,.arr 3 [.agg [.i x,.i y,.i w]] true 0]=some (.i v,[.arr 3 os true 0,.arr 3 [.agg [.i x,.i y,.i w]] true 0])) (g11:x=y):RunsTo Tp (plF F) 25 (sub [1,1,0,1,0,0] B25) (env25 (.imm .arg 3 ls) (.i n) (.i most) (.imm .lit 3 []) (.sl 0 0 q none q 3) (.i (i:Int)) y9 y10) [.arr 3 os true 0] .normal ((plF F).keys 25) (env25 (.imm .arg 3 ls) (.i n) (.i most) (.imm .lit 3 []) (.sl 0 0 q none q 3) (.i (IntKind.i64.wrap ((i:Int)+1))) (.ptr 1 0 0 1) y10) [.arr 3 os true 0,.arr 3 [.agg [.i x,.i y,.i v]] true 0] :=
  RunsTo.hin 0 60 [⟨3,3,.bool true,[.arr 3 os true 0]⟩,⟨3,7,.bool true,[.arr 3 os true 0]⟩,⟨5,2,.vptr (.agg [.i a,.i b,.i w]),[.arr 3 os true 0]⟩,⟨5,6,.i x,[.arr 3 os true 0]⟩,⟨5,9,.vptr (.agg [.i a,.i b,.i w]),[.arr 3 os true 0]⟩,⟨5,13,.i y,[.arr 3 os true 0]⟩,⟨5,16,.vptr (.agg [.i a,.i b,.i w]),[.arr 3 os true 0]⟩,⟨6,2,.bool false,[.arr 3 os true 0,.arr 3 [.agg [.i x,.i y,.i w]] true 0]⟩,⟨6,6,.bool true,[.arr 3 os true 0,.arr 3 [.agg [.i x,.i y,.i w]] true 0]⟩,⟨7,2,.i v,[.arr 3 os true 0,.arr 3 [.agg [.i x,.i y,.i w]] true 0]⟩,⟨8,4,.bool false,[.arr 3 os true 0,.arr 3 [.agg [.i x,.i y,.i v]] true 0]⟩] fun kf hk=>⟨_,by kernel_rfl,(oB [.arr 3 os true 0] (decide_eq_true g0) (oB [.arr 3 os true 0] (decide_eq_true g1) (oC (gS5 kf) (oP [.arr 3 os true 0] g2 (oC (g3 kf) (oP [.arr 3 os true 0] g4 (oC (g5 kf) (oP [.arr 3 os true 0] g6 (oB [.arr 3 os true 0,.arr 3 [.agg [.i x,.i y,.i w]] true 0] (decide_eq_false g8) (oB [.arr 3 os true 0,.arr 3 [.agg [.i x,.i y,.i w]] true 0] (decide_eq_true g9) (oC (g10 kf) (oB [.arr 3 os true 0,.arr 3 [.agg [.i x,.i y,.i v]] true 0] (congrArg not (decide_eq_true g11)) .nil))))))))))))⟩
theorem ta_l_3 (ls:List HV) (n most:Int)  (q:Nat) (os:List HV) (i:Nat) (a b w x y v:Int) {y9 y10:HV}(g0:(i:Int) < (ls.length:Int)) (g1:(i:Int) < most) (g2:idxV Tp 22 (.imm .arg 3 ls) (.i (i:Int))=some (.vptr (.agg [.i a,.i b,.i w]))) (g3:∀ kf,callN Tp (plF F) (kf+1) 24 [.i a,.i n] [.arr 3 os true 0]=some (.i x,[.arr 3 os true 0])) (g4:idxV Tp 22 (.imm .arg 3 ls) (.i (i:Int))=some (.vptr (.agg [.i a,.i b,.i w]))) (g5:∀ kf,callN Tp (plF F) (kf+1) 24 [.i b,.i n] [.arr 3 os true 0]=some (.i y,[.arr 3 os true 0])) (g6:idxV Tp 22 (.imm .arg 3 ls) (.i (i:Int))=some (.vptr (.agg [.i a,.i b,.i w]))) (gS5:∀ kf,((same (.i a) (.i a) && sameH ([.arr 3 os true 0]:Heap) [.arr 3 os true 0] && sameH ([.arr 3 os true 0,.arr 3 [.agg [.i 0,.i 0,.i 0]] true 0]:Heap) [.arr 3 os true 0,.arr 3 [.agg [.i 0,.i 0,.i 0]] true 0]) && (recL (callN Tp (plF F) (kf+1) 24 [.i a,.i n] [.arr 3 os true 0]) (callN Tp (plF F) (kf+1) 24 [.i a,.i n] [.arr 3 os true 0]) [.arr 3 os true 0] [.arr 3 os true 0] && (recL (callN Tp (plF F) (kf+1) 24 [.i a,.i n] [.arr 3 os true 0]) (callN Tp (plF F) (kf+1) 24 [.i a,.i n] [.arr 3 os true 0,.arr 3 [.agg [.i 0,.i 0,.i 0]] true 0]) [.arr 3 os true 0] [.arr 3 os true 0,.arr 3 [.agg [.i 0,.i 0,.i 0]] true 0] && ((same (.i b) (.i b) && sameH ([.arr 3 os true 0]:Heap) [.arr 3 os true 0] && sameH ([.arr 3 os true 0,.arr 3 [.agg [.i 0,.i 0,.i 0]] true 0]:Heap) [.arr 3 os true 0,.arr 3 [.agg [.i 0,.i 0,.i 0]] true 0]) && (recL (callN Tp (plF F) (kf+1) 24 [.i b,.i n] [.arr 3 os true 0]) (callN Tp (plF F) (kf+1) 24 [.i b,.i n] [.arr 3 os true 0]) [.arr 3 os true 0] [.arr 3 os true 0] && (recL (callN Tp (plF F) (kf+1) 24 [.i b,.i n] [.arr 3 os true 0]) (callN Tp (plF F) (kf+1) 24 [.i b,.i n] [.arr 3 os true 0,.arr 3 [.agg [.i 0,.i 0,.i 0]] true 0]) [.arr 3 os true 0] [.arr 3 os true 0,.arr 3 [.agg [.i 0,.i 0,.i 0]] true 0] && ((same (.i w) (.i w) && sameH ([.arr 3 os true 0]:Heap) [.arr 3 os true 0] && sameH ([.arr 3 os true 0,.arr 3 [.agg [.i 0,.i 0,.i 0]] true 0]:Heap) [.arr 3 os true 0,.arr 3 [.agg [.i 0,.i 0,.i 0]] true 0]) && true)))))))=true) (g8:¬ (w < 0)) (g9:1000 < w) (g10:∀ kf,callN Tp (plF F) (kf+1) 24 [.i w,.i 1001] [.arr 3 os true 0,.arr 3 [.agg [.i x,.i y,.i w]] true 0]=some (.i v,[.arr 3 os true 0,.arr 3 [.agg [.i x,.i y,.i w]] true 0])) (g11:¬ (x=y)) (g12:appV [.arr 3 os true 0,.arr 3 [.agg [.i x,.i y,.i v]] true 0] 3 24 (.sl 0 0 q none q 3) [.agg [.i x,.i y,.i v]]=some (.sl 0 0 (q+1) none (q+1) 3,[.arr 3 (os ++ [.agg [.i x,.i y,.i v]]) true 0,.arr 3 [.agg [.i x,.i y,.i v]] true 0])):RunsTo Tp (plF F) 25 (sub [1,1,0,1,0,0] B25) (env25 (.imm .arg 3 ls) (.i n) (.i most) (.imm .lit 3 []) (.sl 0 0 q none q 3) (.i (i:Int)) y9 y10) [.arr 3 os true 0] .normal ((plF F).keys 25) (env25 (.imm .arg 3 ls) (.i n) (.i most) (.imm .lit 3 []) (.sl 0 0 (q+1) none (q+1) 3) (.i (IntKind.i64.wrap ((i:Int)+1))) (.ptr 1 0 0 1) y10) [.arr 3 (os ++ [.agg [.i x,.i y,.i v]]) true 0,.arr 3 [.agg [.i x,.i y,.i v]] true 0] :=
  RunsTo.hin 0 60 [⟨3,3,.bool true,[.arr 3 os true 0]⟩,⟨3,7,.bool true,[.arr 3 os true 0]⟩,⟨5,2,.vptr (.agg [.i a,.i b,.i w]),[.arr 3 os true 0]⟩,⟨5,6,.i x,[.arr 3 os true 0]⟩,⟨5,9,.vptr (.agg [.i a,.i b,.i w]),[.arr 3 os true 0]⟩,⟨5,13,.i y,[.arr 3 os true 0]⟩,⟨5,16,.vptr (.agg [.i a,.i b,.i w]),[.arr 3 os true 0]⟩,⟨6,2,.bool false,[.arr 3 os true 0,.arr 3 [.agg [.i x,.i y,.i w]] true 0]⟩,⟨6,6,.bool true,[.arr 3 os true 0,.arr 3 [.agg [.i x,.i y,.i w]] true 0]⟩,⟨7,2,.i v,[.arr 3 os true 0,.arr 3 [.agg [.i x,.i y,.i w]] true 0]⟩,⟨8,4,.bool true,[.arr 3 os true 0,.arr 3 [.agg [.i x,.i y,.i v]] true 0]⟩,⟨9,3,.sl 0 0 (q+1) none (q+1) 3,[.arr 3 (os ++ [.agg [.i x,.i y,.i v]]) true 0,.arr 3 [.agg [.i x,.i y,.i v]] true 0]⟩] fun kf hk=>⟨_,by kernel_rfl,(oB [.arr 3 os true 0] (decide_eq_true g0) (oB [.arr 3 os true 0] (decide_eq_true g1) (oC (gS5 kf) (oP [.arr 3 os true 0] g2 (oC (g3 kf) (oP [.arr 3 os true 0] g4 (oC (g5 kf) (oP [.arr 3 os true 0] g6 (oB [.arr 3 os true 0,.arr 3 [.agg [.i x,.i y,.i w]] true 0] (decide_eq_false g8) (oB [.arr 3 os true 0,.arr 3 [.agg [.i x,.i y,.i w]] true 0] (decide_eq_true g9) (oC (g10 kf) (oB [.arr 3 os true 0,.arr 3 [.agg [.i x,.i y,.i v]] true 0] (congrArg not (decide_eq_false g11)) (oC (g12) .nil)))))))))))))⟩
theorem ta_l_4 (ls:List HV) (n most:Int)  (q:Nat) (os:List HV) (i:Nat) (a b w x y v:Int) {y9 y10:HV}(g0:(i:Int) < (ls.length:Int)) (g1:(i:Int) < most) (g2:idxV Tp 22 (.imm .arg 3 ls) (.i (i:Int))=some (.vptr (.agg [.i a,.i b,.i w]))) (g3:∀ kf,callN Tp (plF F) (kf+1) 24 [.i a,.i n] [.arr 3 os true 0]=some (.i x,[.arr 3 os true 0])) (g4:idxV Tp 22 (.imm .arg 3 ls) (.i (i:Int))=some (.vptr (.agg [.i a,.i b,.i w]))) (g5:∀ kf,callN Tp (plF F) (kf+1) 24 [.i b,.i n] [.arr 3 os true 0]=some (.i y,[.arr 3 os true 0])) (g6:idxV Tp 22 (.imm .arg 3 ls) (.i (i:Int))=some (.vptr (.agg [.i a,.i b,.i w]))) (gS5:∀ kf,((same (.i a) (.i a) && sameH ([.arr 3 os true 0]:Heap) [.arr 3 os true 0] && sameH ([.arr 3 os true 0,.arr 3 [.agg [.i 0,.i 0,.i 0]] true 0]:Heap) [.arr 3 os true 0,.arr 3 [.agg [.i 0,.i 0,.i 0]] true 0]) && (recL (callN Tp (plF F) (kf+1) 24 [.i a,.i n] [.arr 3 os true 0]) (callN Tp (plF F) (kf+1) 24 [.i a,.i n] [.arr 3 os true 0]) [.arr 3 os true 0] [.arr 3 os true 0] && (recL (callN Tp (plF F) (kf+1) 24 [.i a,.i n] [.arr 3 os true 0]) (callN Tp (plF F) (kf+1) 24 [.i a,.i n] [.arr 3 os true 0,.arr 3 [.agg [.i 0,.i 0,.i 0]] true 0]) [.arr 3 os true 0] [.arr 3 os true 0,.arr 3 [.agg [.i 0,.i 0,.i 0]] true 0] && ((same (.i b) (.i b) && sameH ([.arr 3 os true 0]:Heap) [.arr 3 os true 0] && sameH ([.arr 3 os true 0,.arr 3 [.agg [.i 0,.i 0,.i 0]] true 0]:Heap) [.arr 3 os true 0,.arr 3 [.agg [.i 0,.i 0,.i 0]] true 0]) && (recL (callN Tp (plF F) (kf+1) 24 [.i b,.i n] [.arr 3 os true 0]) (callN Tp (plF F) (kf+1) 24 [.i b,.i n] [.arr 3 os true 0]) [.arr 3 os true 0] [.arr 3 os true 0] && (recL (callN Tp (plF F) (kf+1) 24 [.i b,.i n] [.arr 3 os true 0]) (callN Tp (plF F) (kf+1) 24 [.i b,.i n] [.arr 3 os true 0,.arr 3 [.agg [.i 0,.i 0,.i 0]] true 0]) [.arr 3 os true 0] [.arr 3 os true 0,.arr 3 [.agg [.i 0,.i 0,.i 0]] true 0] && ((same (.i w) (.i w) && sameH ([.arr 3 os true 0]:Heap) [.arr 3 os true 0] && sameH ([.arr 3 os true 0,.arr 3 [.agg [.i 0,.i 0,.i 0]] true 0]:Heap) [.arr 3 os true 0,.arr 3 [.agg [.i 0,.i 0,.i 0]] true 0]) && true)))))))=true) (g8:¬ (w < 0)) (g9:¬ (1000 < w)) (g10:x=y):RunsTo Tp (plF F) 25 (sub [1,1,0,1,0,0] B25) (env25 (.imm .arg 3 ls) (.i n) (.i most) (.imm .lit 3 []) (.sl 0 0 q none q 3) (.i (i:Int)) y9 y10) [.arr 3 os true 0] .normal ((plF F).keys 25) (env25 (.imm .arg 3 ls) (.i n) (.i most) (.imm .lit 3 []) (.sl 0 0 q none q 3) (.i (IntKind.i64.wrap ((i:Int)+1))) (.ptr 1 0 0 1) y10) [.arr 3 os true 0,.arr 3 [.agg [.i x,.i y,.i w]] true 0] :=
  RunsTo.hin 0 60 [⟨3,3,.bool true,[.arr 3 os true 0]⟩,⟨3,7,.bool true,[.arr 3 os true 0]⟩,⟨5,2,.vptr (.agg [.i a,.i b,.i w]),[.arr 3 os true 0]⟩,⟨5,6,.i x,[.arr 3 os true 0]⟩,⟨5,9,.vptr (.agg [.i a,.i b,.i w]),[.arr 3 os true 0]⟩,⟨5,13,.i y,[.arr 3 os true 0]⟩,⟨5,16,.vptr (.agg [.i a,.i b,.i w]),[.arr 3 os true 0]⟩,⟨6,2,.bool false,[.arr 3 os true 0,.arr 3 [.agg [.i x,.i y,.i w]] true 0]⟩,⟨6,6,.bool false,[.arr 3 os true 0,.arr 3 [.agg [.i x,.i y,.i w]] true 0]⟩,⟨8,4,.bool false,[.arr 3 os true 0,.arr 3 [.agg [.i x,.i y,.i w]] true 0]⟩] fun kf hk=>⟨_,by kernel_rfl,(oB [.arr 3 os true 0] (decide_eq_true g0) (oB [.arr 3 os true 0] (decide_eq_true g1) (oC (gS5 kf) (oP [.arr 3 os true 0] g2 (oC (g3 kf) (oP [.arr 3 os true 0] g4 (oC (g5 kf) (oP [.arr 3 os true 0] g6 (oB [.arr 3 os true 0,.arr 3 [.agg [.i x,.i y,.i w]] true 0] (decide_eq_false g8) (oB [.arr 3 os true 0,.arr 3 [.agg [.i x,.i y,.i w]] true 0] (decide_eq_false g9) (oB [.arr 3 os true 0,.arr 3 [.agg [.i x,.i y,.i w]] true 0] (congrArg not (decide_eq_true g10)) .nil)))))))))))⟩
theorem ta_l_5 (ls:List HV) (n most:Int)  (q:Nat) (os:List HV) (i:Nat) (a b w x y v:Int) {y9 y10:HV}(g0:(i:Int) < (ls.length:Int)) (g1:(i:Int) < most) (g2:idxV Tp 22 (.imm .arg 3 ls) (.i (i:Int))=some (.vptr (.agg [.i a,.i b,.i w]))) (g3:∀ kf,callN Tp (plF F) (kf+1) 24 [.i a,.i n] [.arr 3 os true 0]=some (.i x,[.arr 3 os true 0])) (g4:idxV Tp 22 (.imm .arg 3 ls) (.i (i:Int))=some (.vptr (.agg [.i a,.i b,.i w]))) (g5:∀ kf,callN Tp (plF F) (kf+1) 24 [.i b,.i n] [.arr 3 os true 0]=some (.i y,[.arr 3 os true 0])) (g6:idxV Tp 22 (.imm .arg 3 ls) (.i (i:Int))=some (.vptr (.agg [.i a,.i b,.i w]))) (gS5:∀ kf,((same (.i a) (.i a) && sameH ([.arr 3 os true 0]:Heap) [.arr 3 os true 0] && sameH ([.arr 3 os true 0,.arr 3 [.agg [.i 0,.i 0,.i 0]] true 0]:Heap) [.arr 3 os true 0,.arr 3 [.agg [.i 0,.i 0,.i 0]] true 0]) && (recL (callN Tp (plF F) (kf+1) 24 [.i a,.i n] [.arr 3 os true 0]) (callN Tp (plF F) (kf+1) 24 [.i a,.i n] [.arr 3 os true 0]) [.arr 3 os true 0] [.arr 3 os true 0] && (recL (callN Tp (plF F) (kf+1) 24 [.i a,.i n] [.arr 3 os true 0]) (callN Tp (plF F) (kf+1) 24 [.i a,.i n] [.arr 3 os true 0,.arr 3 [.agg [.i 0,.i 0,.i 0]] true 0]) [.arr 3 os true 0] [.arr 3 os true 0,.arr 3 [.agg [.i 0,.i 0,.i 0]] true 0] && ((same (.i b) (.i b) && sameH ([.arr 3 os true 0]:Heap) [.arr 3 os true 0] && sameH ([.arr 3 os true 0,.arr 3 [.agg [.i 0,.i 0,.i 0]] true 0]:Heap) [.arr 3 os true 0,.arr 3 [.agg [.i 0,.i 0,.i 0]] true 0]) && (recL (callN Tp (plF F) (kf+1) 24 [.i b,.i n] [.arr 3 os true 0]) (callN Tp (plF F) (kf+1) 24 [.i b,.i n] [.arr 3 os true 0]) [.arr 3 os true 0] [.arr 3 os true 0] && (recL (callN Tp (plF F) (kf+1) 24 [.i b,.i n] [.arr 3 os true 0]) (callN Tp (plF F) (kf+1) 24 [.i b,.i n] [.arr 3 os true 0,.arr 3 [.agg [.i 0,.i 0,.i 0]] true 0]) [.arr 3 os true 0] [.arr 3 os true 0,.arr 3 [.agg [.i 0,.i 0,.i 0]] true 0] && ((same (.i w) (.i w) && sameH ([.arr 3 os true 0]:Heap) [.arr 3 os true 0] && sameH ([.arr 3 os true 0,.arr 3 [.agg [.i 0,.i 0,.i 0]] true 0]:Heap) [.arr 3 os true 0,.arr 3 [.agg [.i 0,.i 0,.i 0]] true 0]) && true)))))))=true) (g8:¬ (w < 0)) (g9:¬ (1000 < w)) (g10:¬ (x=y)) (g11:appV [.arr 3 os true 0,.arr 3 [.agg [.i x,.i y,.i w]] true 0] 3 24 (.sl 0 0 q none q 3) [.agg [.i x,.i y,.i w]]=some (.sl 0 0 (q+1) none (q+1) 3,[.arr 3 (os ++ [.agg [.i x,.i y,.i w]]) true 0,.arr 3 [.agg [.i x,.i y,.i w]] true 0])):RunsTo Tp (plF F) 25 (sub [1,1,0,1,0,0] B25) (env25 (.imm .arg 3 ls) (.i n) (.i most) (.imm .lit 3 []) (.sl 0 0 q none q 3) (.i (i:Int)) y9 y10) [.arr 3 os true 0] .normal ((plF F).keys 25) (env25 (.imm .arg 3 ls) (.i n) (.i most) (.imm .lit 3 []) (.sl 0 0 (q+1) none (q+1) 3) (.i (IntKind.i64.wrap ((i:Int)+1))) (.ptr 1 0 0 1) y10) [.arr 3 (os ++ [.agg [.i x,.i y,.i w]]) true 0,.arr 3 [.agg [.i x,.i y,.i w]] true 0] :=
  RunsTo.hin 0 60 [⟨3,3,.bool true,[.arr 3 os true 0]⟩,⟨3,7,.bool true,[.arr 3 os true 0]⟩,⟨5,2,.vptr (.agg [.i a,.i b,.i w]),[.arr 3 os true 0]⟩,⟨5,6,.i x,[.arr 3 os true 0]⟩,⟨5,9,.vptr (.agg [.i a,.i b,.i w]),[.arr 3 os true 0]⟩,⟨5,13,.i y,[.arr 3 os true 0]⟩,⟨5,16,.vptr (.agg [.i a,.i b,.i w]),[.arr 3 os true 0]⟩,⟨6,2,.bool false,[.arr 3 os true 0,.arr 3 [.agg [.i x,.i y,.i w]] true 0]⟩,⟨6,6,.bool false,[.arr 3 os true 0,.arr 3 [.agg [.i x,.i y,.i w]] true 0]⟩,⟨8,4,.bool true,[.arr 3 os true 0,.arr 3 [.agg [.i x,.i y,.i w]] true 0]⟩,⟨9,3,.sl 0 0 (q+1) none (q+1) 3,[.arr 3 (os ++ [.agg [.i x,.i y,.i w]]) true 0,.arr 3 [.agg [.i x,.i y,.i w]] true 0]⟩] fun kf hk=>⟨_,by kernel_rfl,(oB [.arr 3 os true 0] (decide_eq_true g0) (oB [.arr 3 os true 0] (decide_eq_true g1) (oC (gS5 kf) (oP [.arr 3 os true 0] g2 (oC (g3 kf) (oP [.arr 3 os true 0] g4 (oC (g5 kf) (oP [.arr 3 os true 0] g6 (oB [.arr 3 os true 0,.arr 3 [.agg [.i x,.i y,.i w]] true 0] (decide_eq_false g8) (oB [.arr 3 os true 0,.arr 3 [.agg [.i x,.i y,.i w]] true 0] (decide_eq_false g9) (oB [.arr 3 os true 0,.arr 3 [.agg [.i x,.i y,.i w]] true 0] (congrArg not (decide_eq_false g10)) (oC (g11) .nil))))))))))))⟩
theorem ta_l_6 (ls:List HV) (n most:Int)  (q:Nat) (os:List HV) (i:Nat) (a b w x y v:Int) {y9 y10:HV}(g0:(i:Int) < (ls.length:Int)) (g1:¬ ((i:Int) < most)):RunsTo Tp (plF F) 25 (sub [1,1,0,1,0,0] B25) (env25 (.imm .arg 3 ls) (.i n) (.i most) (.imm .lit 3 []) (.sl 0 0 q none q 3) (.i (i:Int)) y9 y10) [.arr 3 os true 0] (.exit 0) ((plF F).keys 25) (env25 (.imm .arg 3 ls) (.i n) (.i most) (.imm .lit 3 []) (.sl 0 0 q none q 3) (.i (i:Int)) y9 y10) [.arr 3 os true 0] :=
  RunsTo.hin 0 60 [⟨3,3,.bool true,[.arr 3 os true 0]⟩,⟨3,7,.bool false,[.arr 3 os true 0]⟩] fun kf hk=>⟨_,by kernel_rfl,(oB [.arr 3 os true 0] (decide_eq_true g0) (oB [.arr 3 os true 0] (decide_eq_false g1) .nil))⟩
theorem ta_l_7 (ls:List HV) (n most:Int)  (q:Nat) (os:List HV) (i:Nat) (a b w x y v:Int) {y9 y10:HV}(g0:¬ ((i:Int) < (ls.length:Int))):RunsTo Tp (plF F) 25 (sub [1,1,0,1,0,0] B25) (env25 (.imm .arg 3 ls) (.i n) (.i most) (.imm .lit 3 []) (.sl 0 0 q none q 3) (.i (i:Int)) y9 y10) [.arr 3 os true 0] (.exit 0) ((plF F).keys 25) (env25 (.imm .arg 3 ls) (.i n) (.i most) (.imm .lit 3 []) (.sl 0 0 q none q 3) (.i (i:Int)) y9 y10) [.arr 3 os true 0] :=
  RunsTo.hin 0 60 [⟨3,3,.bool false,[.arr 3 os true 0]⟩] fun kf hk=>⟨_,by kernel_rfl,(oB [.arr 3 os true 0] (decide_eq_false g0) .nil)⟩
theorem ta_d_0 (ls:List HV) (n most:Int)  (q:Nat) (os:List HV) {y8 y9 y10:HV}:RunsTo Tp (plF F) 25 (sub [1,1,1,0,0] B25) (env25 (.imm .arg 3 ls) (.i n) (.i most) (.imm .lit 3 []) (.sl 0 0 q none q 3) y8 y9 y10) [.arr 3 os true 0] .normal ((plF F).keys 25) (env25 (.imm .arg 3 ls) (.i n) (.i most) (.imm .lit 3 []) (.sl 0 0 q none q 3) y8 y9 (.i 1)) [.arr 3 os true 0] :=
  RunsTo.hin 0 60 [] fun kf hk=>⟨_,by kernel_rfl,.nil⟩
theorem ta_m_0 (ls:List HV) (n most:Int)  (q:Nat) (os:List HV) (i:Nat) (v:Int) {y8 y9:HV}(g0:(i:Int) < n) (g1:∀ kf,callN Tp (plF F) (kf+1) 24 [.i (IntKind.i64.wrap (7 * (i:Int))),.i 12] [.arr 3 os true 0]=some (.i v,[.arr 3 os true 0])) (g2:appV [.arr 3 os true 0] 3 24 (.sl 0 0 q none q 3) [.agg [.i (IntKind.i64.wrap ((i:Int) - 1)),.i (i:Int),.i v]]=some (.sl 0 0 (q+1) none (q+1) 3,[.arr 3 (os ++ [.agg [.i (IntKind.i64.wrap ((i:Int) - 1)),.i (i:Int),.i v]]) true 0])):RunsTo Tp (plF F) 25 (sub [1,1,1,0,1,0,0] B25) (env25 (.imm .arg 3 ls) (.i n) (.i most) (.imm .lit 3 []) (.sl 0 0 q none q 3) y8 y9 (.i (i:Int))) [.arr 3 os true 0] .normal ((plF F).keys 25) (env25 (.imm .arg 3 ls) (.i n) (.i most) (.imm .lit 3 []) (.sl 0 0 (q+1) none (q+1) 3) y8 y9 (.i (IntKind.i64.wrap ((i:Int)+1)))) [.arr 3 (os ++ [.agg [.i (IntKind.i64.wrap ((i:Int) - 1)),.i (i:Int),.i v]]) true 0] :=
  RunsTo.hin 0 60 [⟨11,2,.bool true,[.arr 3 os true 0]⟩,⟨13,6,.i v,[.arr 3 os true 0]⟩,⟨13,9,.sl 0 0 (q+1) none (q+1) 3,[.arr 3 (os ++ [.agg [.i (IntKind.i64.wrap ((i:Int) - 1)),.i (i:Int),.i v]]) true 0]⟩] fun kf hk=>⟨_,by kernel_rfl,(oB [.arr 3 os true 0] (decide_eq_true g0) (oC (g1 kf) (oC (g2) .nil)))⟩
theorem ta_m_1 (ls:List HV) (n most:Int)  (q:Nat) (os:List HV) (i:Nat) (v:Int) {y8 y9:HV}(g0:¬ ((i:Int) < n)):RunsTo Tp (plF F) 25 (sub [1,1,1,0,1,0,0] B25) (env25 (.imm .arg 3 ls) (.i n) (.i most) (.imm .lit 3 []) (.sl 0 0 q none q 3) y8 y9 (.i (i:Int))) [.arr 3 os true 0] (.exit 2) ((plF F).keys 25) (env25 (.imm .arg 3 ls) (.i n) (.i most) (.imm .lit 3 []) (.sl 0 0 q none q 3) y8 y9 (.i (i:Int))) [.arr 3 os true 0] :=
  RunsTo.hin 0 60 [⟨11,2,.bool false,[.arr 3 os true 0]⟩] fun kf hk=>⟨_,by kernel_rfl,(oB [.arr 3 os true 0] (decide_eq_false g0) .nil)⟩
theorem ta_z_0 (ls:List HV) (n most:Int)  (q:Nat) (os:List HV) {y8 y9 y10:HV}:RunsTo Tp (plF F) 25 (sub [1,1,1,1] B25) (env25 (.imm .arg 3 ls) (.i n) (.i most) (.imm .lit 3 []) (.sl 0 0 q none q 3) y8 y9 y10) [.arr 3 os true 0] .ret ((plF F).keys 25) (env25 (.imm .arg 3 ls) (.i n) (.i most) (.sl 0 0 q none q 3) (.sl 0 0 q none q 3) y8 y9 y10) [.arr 3 os true 0] :=
  RunsTo.hin 0 60 [] fun kf hk=>⟨_,by kernel_rfl,.nil⟩
end
end Go.Proofs.Ytiejmoglooaalaa
end
section
open Go Go.HL
namespace Go.Proofs.Ytiejmoglooaalaa
set_option linter.unusedSectionVars false
open Go.Proofs.Try renaming prog → Tp
open Go.HL.HV renaming undef → Ud
def tamW (w:Int):Int:=if w < 0 ∨ 1000 < w then modW w 1001 else w
def tam1 (n:Int) (s:St):St:=(modW s.1 n,modW s.2.1 n,tamW s.2.2)
def tamL (n:Int) (l:List St):List St:=(l.map (tam1 n)).filter fun s=>decide (s.1 ≠ s.2.1)
def pathL (i:Nat):List St:=(List.range i).map fun (k:Nat)=>((k:Int),(k:Int)+1,modW (7 * ((k:Int)+1)) 12)
def tamT (n:Int) (l:List St) (most:Int):List St:=tamL n (l.take most.toNat) ++ pathL (n.toNat - 1)
def tame25:List HV → Option HV:=f3 kS kI kI fun l n most=>if (1 ≤ n∧n ≤ 100)∧0 ≤ most∧most ≤ 100 then some (.own 3 ((tamT n l most).map encT)) else none
theorem tamL_snoc (n:Int) {l:List St} {i:Nat} (hi:i < l.length):tamL n (l.take (i+1))=tamL n (l.take i) ++ if (tam1 n (l.getD i (0,0,0))).1 ≠ (tam1 n (l.getD i (0,0,0))).2.1 then [tam1 n (l.getD i (0,0,0))] else []:=by
  have e:l.take (i+1)=l.take i ++ [l.getD i (0,0,0)]:=by
    rw [List.take_succ_eq_append_getElem hi,getD_at hi]
  rw [e,tamL,List.map_append,List.filter_append,tamL]
  congr 1
  by_cases c:(tam1 n (l.getD i (0,0,0))).1 ≠ (tam1 n (l.getD i (0,0,0))).2.1
  · rw [if_pos c]
    exact List.filter_cons_of_pos (decide_eq_true c)
  · rw [if_neg c]
    exact List.filter_cons_of_neg (by simpa using c)
theorem tamL_len (n:Int) (l:List St):(tamL n l).length ≤ l.length:=by
  have:=List.length_filter_le (fun s:St=>decide (s.1 ≠ s.2.1)) (l.map (tam1 n))
  rw [List.length_map] at this
  exact this
theorem pathL_snoc (i:Nat):pathL (i+1)=pathL i ++ [((i:Int),(i:Int)+1,modW (7 * ((i:Int)+1)) 12)]:=by rw [pathL,List.range_succ,List.map_append]; rfl
theorem pathL_len (i:Nat):(pathL i).length=i:=by rw [pathL,List.length_map,List.length_range]
def prTa:FuncId → Option (List HV → Option HV):=fun g=>if g == 24 then some mod24 else none
theorem soundTa (n:Nat):CallSound Tp (callN Tp (plF prTa) n):=sound_prim _ (fun g f h=>by
  unfold prTa at h
  split at h
  · rename_i hg; cases h; rw [eq_of_beq hg]; exact mod_ok
  · cases h) n
theorem mod_at {F:FuncId → Option (List HV → Option HV)} (h24:F 24=some mod24) (a:Int) {n:Int} (hn:0 < n∧n < 9223372036854775808) (H:Heap):∀ k,callN Tp (plF F) (k+1) 24 [.int .i64 a,.int .i64 n] H=some (.int .i64 (modW a n),H) :=
  at2 (pol':=plF F) (g:=24) (c1:=kI) (c2:=kI) (f:=fun a n=>if 0 < n∧n < 9223372036854775808 then some (.int .i64 (modW a n)) else none) h24 (ShI _ a) (ShI _ n) (if_pos hn)
theorem res25:Try.f25.results.toList=[.tmp 6]:=by kernel_rfl
theorem app_one {H X:Heap} {o:List St} (hl:o.length ≤ 900) (s:St):appV ([bS o] ++ X) 3 24 (.sl 0 0 o.length none o.length 3) [encT s]=some (.sl 0 0 (o.length+1) none (o.length+1) 3,[bS (o ++ [s])] ++ X):=by
  have:=app_sts (H:=[bS o] ++ X) (b:=0) (o:=o) (xs:=[s]) rfl (by simp; omega) (by simp)
  rw [List.length_append,List.length_singleton] at this
  exact this
theorem tam_rec {F:FuncId → Option (List HV → Option HV)} (O:List St) {a b n x y:Int} {kf:Nat} (e1:∀ H,callN Tp (plF F) (kf+1) 24 [.int .i64 a,.int .i64 n] H=some (.int .i64 x,H)) (e2:∀ H,callN Tp (plF F) (kf+1) 24 [.int .i64 b,.int .i64 n] H=some (.int .i64 y,H)) (w:Int) :
    ((same (.int .i64 a) (.int .i64 a) && sameH ([.arr 3 (O.map encT) true 0]:Heap) [.arr 3 (O.map encT) true 0] && sameH ([.arr 3 (O.map encT) true 0,.arr 3 [.agg [.int .i64 0,.int .i64 0,.int .i64 0]] true 0]:Heap) [.arr 3 (O.map encT) true 0,.arr 3 [.agg [.int .i64 0,.int .i64 0,.int .i64 0]] true 0]) && (recL (callN Tp (plF F) (kf+1) 24 [.int .i64 a,.int .i64 n] [.arr 3 (O.map encT) true 0]) (callN Tp (plF F) (kf+1) 24 [.int .i64 a,.int .i64 n] [.arr 3 (O.map encT) true 0]) [.arr 3 (O.map encT) true 0] [.arr 3 (O.map encT) true 0] && (recL (callN Tp (plF F) (kf+1) 24 [.int .i64 a,.int .i64 n] [.arr 3 (O.map encT) true 0]) (callN Tp (plF F) (kf+1) 24 [.int .i64 a,.int .i64 n] [.arr 3 (O.map encT) true 0,.arr 3 [.agg [.int .i64 0,.int .i64 0,.int .i64 0]] true 0]) [.arr 3 (O.map encT) true 0] [.arr 3 (O.map encT) true 0,.arr 3 [.agg [.int .i64 0,.int .i64 0,.int .i64 0]] true 0] && ((same (.int .i64 b) (.int .i64 b) && sameH ([.arr 3 (O.map encT) true 0]:Heap) [.arr 3 (O.map encT) true 0] && sameH ([.arr 3 (O.map encT) true 0,.arr 3 [.agg [.int .i64 0,.int .i64 0,.int .i64 0]] true 0]:Heap) [.arr 3 (O.map encT) true 0,.arr 3 [.agg [.int .i64 0,.int .i64 0,.int .i64 0]] true 0]) && (recL (callN Tp (plF F) (kf+1) 24 [.int .i64 b,.int .i64 n] [.arr 3 (O.map encT) true 0]) (callN Tp (plF F) (kf+1) 24 [.int .i64 b,.int .i64 n] [.arr 3 (O.map encT) true 0]) [.arr 3 (O.map encT) true 0] [.arr 3 (O.map encT) true 0] && (recL (callN Tp (plF F) (kf+1) 24 [.int .i64 b,.int .i64 n] [.arr 3 (O.map encT) true 0]) (callN Tp (plF F) (kf+1) 24 [.int .i64 b,.int .i64 n] [.arr 3 (O.map encT) true 0,.arr 3 [.agg [.int .i64 0,.int .i64 0,.int .i64 0]] true 0]) [.arr 3 (O.map encT) true 0] [.arr 3 (O.map encT) true 0,.arr 3 [.agg [.int .i64 0,.int .i64 0,.int .i64 0]] true 0] && ((same (.int .i64 w) (.int .i64 w) && sameH ([.arr 3 (O.map encT) true 0]:Heap) [.arr 3 (O.map encT) true 0] && sameH ([.arr 3 (O.map encT) true 0,.arr 3 [.agg [.int .i64 0,.int .i64 0,.int .i64 0]] true 0]:Heap) [.arr 3 (O.map encT) true 0,.arr 3 [.agg [.int .i64 0,.int .i64 0,.int .i64 0]] true 0]) && true)))))))=true:=by
  simp only [e1,e2,recL]
  simp [same,sameH,sameL,same_mapL same_st]
theorem tame_round {l:List St} {n most:Int} (hn:1 ≤ n∧n ≤ 100) (hm:most ≤ 100) {i:Nat} (hi:i < l.length) (hi2:(i:Int) < most) :
    ∃ B s,RunsTo Tp (plF prTa) 25 (sub [1,1,0,1,0,0] B25) ((env25 (.imm .arg 3 (l.map encT)) (.int .i64 n) (.int .i64 most) (.imm .lit 3 []) (.sl 0 0 (tamL n (l.take (i))).length none (tamL n (l.take (i))).length 3) (.int .i64 ((i:Nat):Int)) Ud Ud)) [bS (tamL n (l.take (i)))] .normal ((plF prTa).keys 25) ((env25 (.imm .arg 3 (l.map encT)) (.int .i64 n) (.int .i64 most) (.imm .lit 3 []) (.sl 0 0 (tamL n (l.take (i+1))).length none (tamL n (l.take (i+1))).length 3) (.int .i64 ((i+1:Nat):Int)) (.ptr 1 0 0 1) Ud)) ([bS (tamL n (l.take (i+1)))] ++ [B])∧B=bT s:=by
  have hgs:=gs hi
  have hlen:=tamL_len n (l.take i)
  rw [List.length_take] at hlen
  have hsn:=tamL_snoc n hi
  generalize l.getD i (0,0,0)=s at *
  obtain ⟨a,b,w⟩:=s
  have lm:((l.map encT).length:Int)=(l.length:Int):=by rw [List.length_map]
  have m1:=fun H=>mod_at (F:=prTa) (by kernel_rfl) a (n:=n) (by omega) H
  have m2:=fun H=>mod_at (F:=prTa) (by kernel_rfl) b (n:=n) (by omega) H
  have m3:=fun H=>mod_at (F:=prTa) (by kernel_rfl) w (n:=1001) (by omega) H
  generalize hO:tamL n (l.take i)=O at *
  have hw:IntKind.i64.wrap ((i:Int)+1)=((i+1:Nat):Int):=wrap_succ (by omega)
  refine ⟨bT (tam1 n (a,b,w)),tam1 n (a,b,w),?_,rfl⟩
  rw [hsn]
  by_cases c:modW a n=modW b n
  · rw [if_neg (by show ¬ (modW a n ≠ modW b n); simpa using c),List.append_nil]
    by_cases c1:w < 0
    · have s:=ta_l_0 (F:=prTa) (l.map encT) n most O.length (O.map encT) i a b w (modW a n) (modW b n) (modW w 1001) (y9:=Ud) (y10:=Ud) (by omega) hi2 hgs (m1 _) hgs (m2 _) hgs (fun kf=>tam_rec O (fun H=>m1 H kf) (fun H=>m2 H kf) w) c1 (m3 _) c
      rw [hw] at s
      rw [tam1,tamW,if_pos (.inl c1)]
      exact s
    · by_cases c2:1000 < w
      · have s:=ta_l_2 (F:=prTa) (l.map encT) n most O.length (O.map encT) i a b w (modW a n) (modW b n) (modW w 1001) (y9:=Ud) (y10:=Ud) (by omega) hi2 hgs (m1 _) hgs (m2 _) hgs (fun kf=>tam_rec O (fun H=>m1 H kf) (fun H=>m2 H kf) w) c1 c2 (m3 _) c
        rw [hw] at s
        rw [tam1,tamW,if_pos (.inr c2)]
        exact s
      · have s:=ta_l_4 (F:=prTa) (l.map encT) n most O.length (O.map encT) i a b w (modW a n) (modW b n) 0 (y9:=Ud) (y10:=Ud) (by omega) hi2 hgs (m1 _) hgs (m2 _) hgs (fun kf=>tam_rec O (fun H=>m1 H kf) (fun H=>m2 H kf) w) c1 c2 c
        rw [hw] at s
        rw [tam1,tamW,if_neg (fun h=>h.elim c1 c2)]
        exact s
  · rw [if_pos (by show modW a n ≠ modW b n; exact c)]
    have hl2:(O ++ [tam1 n (a,b,w)]).length=O.length+1:=by simp
    have eB:∀ s,bS (O ++ [s])=.arr 3 (O.map encT ++ [encT s]) true 0:=fun s=>by rw [bS,List.map_append]; rfl
    rw [hl2]
    by_cases c1:w < 0
    · have ap:=app_one (H:=[]) (X:=[bT (modW a n,modW b n,modW w 1001)]) (o:=O) (by omega) (modW a n,modW b n,modW w 1001)
      have e:tam1 n (a,b,w)=(modW a n,modW b n,modW w 1001):=by rw [tam1,tamW,if_pos (.inl c1)]
      rw [e]
      rw [eB] at ap ⊢
      have s:=ta_l_1 (F:=prTa) (l.map encT) n most O.length (O.map encT) i a b w (modW a n) (modW b n) (modW w 1001) (y9:=Ud) (y10:=Ud) (by omega) hi2 hgs (m1 _) hgs (m2 _) hgs (fun kf=>tam_rec O (fun H=>m1 H kf) (fun H=>m2 H kf) w) c1 (m3 _) c ap
      rw [hw] at s
      exact s
    · by_cases c2:1000 < w
      · have ap:=app_one (H:=[]) (X:=[bT (modW a n,modW b n,modW w 1001)]) (o:=O) (by omega) (modW a n,modW b n,modW w 1001)
        have e:tam1 n (a,b,w)=(modW a n,modW b n,modW w 1001):=by rw [tam1,tamW,if_pos (.inr c2)]
        rw [e]
        rw [eB] at ap ⊢
        have s:=ta_l_3 (F:=prTa) (l.map encT) n most O.length (O.map encT) i a b w (modW a n) (modW b n) (modW w 1001) (y9:=Ud) (y10:=Ud) (by omega) hi2 hgs (m1 _) hgs (m2 _) hgs (fun kf=>tam_rec O (fun H=>m1 H kf) (fun H=>m2 H kf) w) c1 c2 (m3 _) c ap
        rw [hw] at s
        exact s
      · have ap:=app_one (H:=[]) (X:=[bT (modW a n,modW b n,w)]) (o:=O) (by omega) (modW a n,modW b n,w)
        have e:tam1 n (a,b,w)=(modW a n,modW b n,w):=by rw [tam1,tamW,if_neg (fun h=>h.elim c1 c2)]
        rw [e]
        rw [eB] at ap ⊢
        have s:=ta_l_5 (F:=prTa) (l.map encT) n most O.length (O.map encT) i a b w (modW a n) (modW b n) 0 (y9:=Ud) (y10:=Ud) (by omega) hi2 hgs (m1 _) hgs (m2 _) hgs (fun kf=>tam_rec O (fun H=>m1 H kf) (fun H=>m2 H kf) w) c1 c2 c ap
        rw [hw] at s
        exact s
theorem tame_ok:PrimOk Tp 25 tame25:=by
  refine primOk_pure (pol:=plF prTa) (fn:=Try.f25) (cd:=B25) follows_mixed soundTa (by kernel_rfl) (by kernel_rfl) (fnok prTa _ _ (by kernel_rfl)) (by kernel_rfl) ?_
  intro args res h
  obtain ⟨l,n,most,rfl,hq⟩:=f3_inv h
  split at hq
  case isFalse=>cases hq
  rename_i hc
  obtain ⟨hn,hm0,hm⟩:=hc
  cases hq
  have lm:((l.map encT).length:Int)=(l.length:Int):=by rw [List.length_map]
  have a:=ta_a_0 (F:=prTa) (l.map encT) n most
  have b:=ta_b_0 (F:=prTa) (l.map encT) n most (y7:=Ud) (y8:=Ud) (y9:=Ud) (y10:=Ud)
  have c:=ta_c_0 (F:=prTa) (l.map encT) n most 0 [] (y8:=Ud) (y9:=Ud) (y10:=Ud)
  have hg:∀ i,i ≤ min l.length most.toNat → (tamL n (l.take i)).length ≤ 100:=fun i hi=>by
    have:=tamL_len n (l.take i)
    rw [List.length_take] at this
    omega
  have out:∀ i,i=min l.length most.toNat → RunsTo Tp (plF prTa) 25 (sub [1,1,0,1,0,0] B25) ((env25 (.imm .arg 3 (l.map encT)) (.int .i64 n) (.int .i64 most) (.imm .lit 3 []) (.sl 0 0 (tamL n (l.take (i))).length none (tamL n (l.take (i))).length 3) (.int .i64 ((i:Nat):Int)) Ud Ud)) [bS (tamL n (l.take (i)))] (.exit 0) ((plF prTa).keys 25) ((env25 (.imm .arg 3 (l.map encT)) (.int .i64 n) (.int .i64 most) (.imm .lit 3 []) (.sl 0 0 (tamL n (l.take (i))).length none (tamL n (l.take (i))).length 3) (.int .i64 ((i:Nat):Int)) Ud Ud)) [bS (tamL n (l.take (i)))]:=fun i hi=>by
    by_cases c1:(i:Int) < (l.length:Int)
    · exact ta_l_6 (F:=prTa) (l.map encT) n most (tamL n (l.take i)).length ((tamL n (l.take i)).map encT) i 0 0 0 0 0 0 (y9:=Ud) (y10:=Ud) (by omega) (by omega)
    · exact ta_l_7 (F:=prTa) (l.map encT) n most (tamL n (l.take i)).length ((tamL n (l.take i)).map encT) i 0 0 0 0 0 0 (y9:=Ud) (y10:=Ud) (by omega)
  obtain ⟨x,E',H',r,rfl,rfl,rfl⟩:=countI (pol':=plF prTa) (f:=25) (b:=sub [1,1,0,1,0,0] B25) (c:=sub [1,1,0,1,0] B25) (I:=fun i e H=>e=(env25 (.imm .arg 3 (l.map encT)) (.int .i64 n) (.int .i64 most) (.imm .lit 3 []) (.sl 0 0 (tamL n (l.take (i))).length none (tamL n (l.take (i))).length 3) (.int .i64 ((i:Nat):Int)) Ud Ud)∧H=[bS (tamL n (l.take (i)))])
    (Q:=fun x E' H'=>x=.exit 0∧E'=(env25 (.imm .arg 3 (l.map encT)) (.int .i64 n) (.int .i64 most) (.imm .lit 3 []) (.sl 0 0 (tamL n (l.take (min l.length most.toNat))).length none (tamL n (l.take (min l.length most.toNat))).length 3) (.int .i64 ((min l.length most.toNat:Nat):Int)) Ud Ud)∧H'=[bS (tamL n (l.take (min l.length most.toNat)))]) (min l.length most.toNat)
    (by
      rintro i hi e H ⟨rfl,rfl⟩
      obtain ⟨B,s,h1,rfl⟩:=tame_round (l:=l) (n:=n) (most:=most) hn hm (i:=i) (by omega) (by omega)
      refine ⟨_,_,h1,by kernel_rfl,?_⟩
      exact gc_back (H:=[bS (tamL n (l.take (i+1)))]) (X:=[bT s]) (by show max 0 (max 0 0) ≤ 1; decide) (by show max 0 (max 0 (max 0 (max 0 (max 1 (max 0 (max 0 (max 0 0))))))) ≤ 1; decide))
    (by
      rintro e H ⟨rfl,rfl⟩
      exact ⟨_,_,_,out _ rfl,by simp,rfl,rfl,rfl⟩)
    (by kernel_rfl) (by rintro i e H ⟨rfl,_⟩; kernel_rfl) (e:=(env25 (.imm .arg 3 (l.map encT)) (.int .i64 n) (.int .i64 most) (.imm .lit 3 []) (.sl 0 0 (tamL n (l.take (0))).length none (tamL n (l.take (0))).length 3) (.int .i64 ((0:Nat):Int)) Ud Ud)) (H:=[bS (tamL n (l.take (0)))]) ⟨rfl,rfl⟩
  have hO:=hg _ (Nat.le_refl _)
  have eO:tamL n (l.take (min l.length most.toNat))=tamL n (l.take most.toNat):=by
    congr 1
    rw [List.take_eq_take_iff]; omega
  rw [eO] at r hO
  have d:=ta_d_0 (F:=prTa) (l.map encT) n most (tamL n (l.take most.toNat)).length ((tamL n (l.take most.toNat)).map encT) (y8:=.int .i64 ((min l.length most.toNat:Nat):Int)) (y9:=Ud) (y10:=Ud)
  unfold tamT
  generalize tamL n (l.take most.toNat)=O at *
  have hPl:∀ i,(O ++ pathL i).length=O.length+i:=fun i=>by rw [List.length_append,pathL_len]
  have m12:=fun a H=>mod_at (F:=prTa) (by kernel_rfl) a (n:=12) (by omega) H
  have r2:=count (pol':=plF prTa) (f:=25) (E:=fun i=>(env25 (.imm .arg 3 (l.map encT)) (.int .i64 n) (.int .i64 most) (.imm .lit 3 []) (.sl 0 0 (O ++ pathL (i)).length none (O ++ pathL (i)).length 3) Ud Ud (.int .i64 ((i+1:Nat):Int)))) (Hs:=fun i=>[bS (O ++ pathL (i))]) (n.toNat - 1) (E0:=fun i=>(env25 (.imm .arg 3 (l.map encT)) (.int .i64 n) (.int .i64 most) (.imm .lit 3 []) (.sl 0 0 (O ++ pathL (i+1)).length none (O ++ pathL (i+1)).length 3) Ud Ud (.int .i64 ((i+1+1:Nat):Int)))) (H1:=fun i=>[bS (O ++ pathL (i+1))])
    (fun i hi=>by
      have ap:=app_one (H:=[]) (X:=[]) (o:=O ++ pathL i) (by rw [hPl]; omega) ((i:Int),(i:Int)+1,modW (7 * ((i:Int)+1)) 12)
      rw [List.append_nil,List.append_nil,List.append_assoc,← pathL_snoc] at ap
      have w1:IntKind.i64.wrap (7 * ((i+1:Nat):Int))=7 * ((i:Int)+1):=by rw [wrap_id (by omega) (by omega)]; omega
      have w2:IntKind.i64.wrap (((i+1:Nat):Int) - 1)=(i:Int):=by rw [wrap_id (by omega) (by omega)]; omega
      have w3:(((i+1:Nat):Int))=(i:Int)+1:=by omega
      have s:=ta_m_0 (F:=prTa) (l.map encT) n most (O ++ pathL i).length ((O ++ pathL i).map encT) (i+1) (modW (7 * ((i:Int)+1)) 12) (y8:=Ud) (y9:=Ud) (by omega) (by rw [w1]; exact m12 _ _) (by
        rw [w2,w3]
        have e:(O ++ pathL i).map encT ++ [.agg [.int .i64 (i:Int),.int .i64 ((i:Int)+1),.int .i64 (modW (7 * ((i:Int)+1)) 12)]]=(O ++ pathL (i+1)).map encT:=by
          rw [pathL_snoc,← List.append_assoc,List.map_append (l₁:=O ++ pathL i)]; rfl
        rw [e]
        exact ap)
      rw [wrap_succ (by omega),w2] at s
      have e:(O ++ pathL i).map encT ++ [.agg [.int .i64 (i:Int),.int .i64 ((i+1:Nat):Int),.int .i64 (modW (7 * ((i:Int)+1)) 12)]]=(O ++ pathL (i+1)).map encT:=by
        rw [pathL_snoc,← List.append_assoc,List.map_append (l₁:=O ++ pathL i)]; rfl
      rw [e] at s
      have e2:(O ++ pathL (i+1)).length=(O ++ pathL i).length+1:=by rw [hPl,hPl]; rfl
      rw [e2]
      exact s) (fun i _=>by kernel_rfl) (fun i _=>gc_eq _ rfl) (ta_m_1 (F:=prTa) (l.map encT) n most (O ++ pathL (n.toNat - 1)).length ((O ++ pathL (n.toNat - 1)).map encT) (n.toNat - 1+1) 0 (y8:=Ud) (y9:=Ud) (by omega)) (by simp) (c:=sub [1,1,1,0,1,0] B25) (by kernel_rfl) (fun i _=>by kernel_rfl)
  have e0:O ++ pathL 0=O:=List.append_nil _
  simp only [e0] at r2
  have z:=ta_z_0 (F:=prTa) (l.map encT) n most (O ++ pathL (n.toNat - 1)).length ((O ++ pathL (n.toNat - 1)).map encT) (y10:=.int .i64 ((n.toNat - 1+1:Nat):Int)) (y8:=Ud) (y9:=Ud)
  refine ⟨_,_,_,.sl 0 0 (O ++ pathL (n.toNat - 1)).length none (O ++ pathL (n.toNat - 1)).length 3,sq (a) (sq (b) (sq (sq (c) (bke (c:=sub [1,1,0,1] B25) (lpi (e0:=(env25 (.imm .arg 3 (l.map encT)) (.int .i64 n) (.int .i64 most) (.imm .lit 3 []) (.sl 0 0 (tamL n (l.take (0))).length none (tamL n (l.take (0))).length 3) (.int .i64 ((0:Nat):Int)) Ud Ud)) r (b:=sub [1,1,0,1,0,0] B25))) (c:=sub [1,1,0] B25)) (sq (sq (d) (bke (c:=sub [1,1,1,0,1] B25) (lpi (e0:=(env25 (.imm .arg 3 (l.map encT)) (.int .i64 n) (.int .i64 most) (.imm .lit 3 []) (.sl 0 0 (O).length none (O).length 3) (.int .i64 ((min l.length most.toNat:Nat):Int)) Ud (.int .i64 ((0+1:Nat):Int)))) r2 (b:=sub [1,1,1,0,1,0,0] B25))) (c:=sub [1,1,1,0] B25)) (z) (c:=sub [1,1,1] B25)) (c:=sub [1,1] B25)) (c:=sub [1] B25)) (c:=B25),by simp,by simp only [resultsV,res25]; rfl,?_⟩
  exact res_sts (b:=0) rfl rfl
end Go.Proofs.Ytiejmoglooaalaa
end
section
open Go Go.HL
namespace Go.Proofs.Ytiejmoglooaalaa
set_option linter.unusedSectionVars false
theorem modW_rng (a:Int) {n:Int} (h:0 < n) (h2:n < 4611686018427387904):0 ≤ modW a n∧modW a n < n:=by
  exact modW_bounds a n h (by omega)
theorem cnt16:∀ m:Nat,1 ≤ m∧m ≤ 16 → ((List.range 16).filter fun (v:Nat)=>decide (v=0 ∨ (m:Int) ≤ (v:Int))).length=17 - m:=by
  have:∀ m:Fin 17,1 ≤ m.val → ((List.range 16).filter fun (v:Nat)=>decide (v=0 ∨ (m.val:Int) ≤ (v:Int))).length=17 - m.val:=by decide +kernel
  exact fun m hm=>this ⟨m,by omega⟩ hm.1
theorem cnt16r:∀ m r:Nat,(1 ≤ m∧m ≤ 16) → (1 ≤ r∧r < m) → ((List.range 16).filter fun (v:Nat)=>decide (v=0 ∨ (m:Int) ≤ (v:Int) ∨ v=r)).length=18 - m:=by
  have:∀ m r:Fin 17,1 ≤ m.val → 1 ≤ r.val → r.val < m.val → ((List.range 16).filter fun (v:Nat)=>decide (v=0 ∨ (m.val:Int) ≤ (v:Int) ∨ v=r.val)).length=18 - m.val:=by decide +kernel
  exact fun m r hm hr=>this ⟨m,by omega⟩ ⟨r,by omega⟩ hm.1 hr.1 hr.2
section
variable {n:Int} {l:List St} (hnet:netB n l=true)
include hnet
theorem lb_zero {t:List Int} (ht:∀ k ∈ t,0 ≤ k∧k < (l.length:Int)):lb l t 0=0:=by
  have:=lb_lo (endB_net hnet) ht (v:=0) (by omega)
  omega
theorem rank_all {t:List Int} (ht:∀ k ∈ t,0 ≤ k∧k < (l.length:Int)) (h:∀ v,0 ≤ v → v < n → Cn l t 0 v):((tkT l t).length:Int)=n - 1:=by
  have he:=endB_net hnet
  obtain ⟨⟨n1,n2⟩,_⟩:=netB_ends hnet
  have h1:rt (labT l t) ≤ ((List.range 16).filter fun (v:Nat)=>decide (v=0 ∨ n ≤ (v:Int))).length:=by
    unfold rt
    rw [← List.countP_eq_length_filter,← List.countP_eq_length_filter]
    refine List.countP_mono_left fun v hv h3=>?_
    have hv:=List.mem_range.1 hv
    have h3:lb l t (v:Int)=(v:Int):=of_decide_eq_true h3
    refine decide_eq_true ?_
    by_cases c:n ≤ (v:Int)
    · exact .inr c
    · left
      have h4:=cn_lb he ht (h (v:Int) (by omega) (by omega))
      rw [lb_zero hnet ht] at h4
      omega
  have h2:=cnt16 n.toNat (by omega)
  rw [show ((n.toNat:Nat):Int)=n by omega] at h2
  have h3:=tk_rank he ht
  have h4:=rank_lt hnet ht
  omega
theorem conn_all (h:∀ v,0 ≤ v → v < n → Cn l (startT l.length) 0 v):connB n l=true:=by
  have h1:=rank_all hnet (t:=ordT l) (fun k hk=>ordT_mem.1 hk) fun v h0 h1=>(h v h0 h1).mono fun k hk=>ordT_mem.2 (startT_mem.1 hk)
  exact decide_eq_true h1
theorem all_zero {t:List Int} (ht:∀ k ∈ t,0 ≤ k∧k < (l.length:Int)) (h:((tkT l t).length:Int)=n - 1) {v:Int} (h0:0 ≤ v) (h1:v < n):lb l t v=0:=by
  have he:=endB_net hnet
  obtain ⟨⟨n1,n2⟩,_⟩:=netB_ends hnet
  have hE:∀ k,0 ≤ k∧k < (l.length:Int) → sA l k < n∧sB l k < n:=fun k hk=>by have:=ends_net hnet hk; omega
  have hv:=lb_lo he ht (v:=v) (by omega)
  by_cases c:lb l t v=0
  · exact c
  · exfalso
    generalize hr:lb l t v=r at *
    have h2:((List.range 16).filter fun (v:Nat)=>decide (v=0 ∨ n ≤ (v:Int) ∨ v=r.toNat)).length ≤ rt (labT l t):=by
      unfold rt
      rw [← List.countP_eq_length_filter,← List.countP_eq_length_filter]
      refine List.countP_mono_left fun w hw h3=>?_
      have hw:=List.mem_range.1 hw
      have h3:=of_decide_eq_true h3
      have hwr:0 ≤ (w:Int)∧(w:Int) < 16:=by omega
      refine decide_eq_true (show lb l t (w:Int)=(w:Int) from ?_)
      rcases h3 with e | e | e
      · subst e; exact lb_zero hnet ht
      · have h4:=lb_lo he ht hwr
        have h5:=cn_out hE ht (lb_cn he ht hwr)
        omega
      · have:(w:Int)=r:=by omega
        rw [this]; exact hv.2.2
    have h3:=cnt16r n.toNat r.toNat (by omega) (by omega)
    rw [show ((n.toNat:Nat):Int)=n by omega] at h3
    have h4:=tk_rank he ht
    omega
theorem conn_cn (hc:connB n l=true) {u v:Int} (hu:0 ≤ u∧u < n) (hv:0 ≤ v∧v < n):Cn l (treeT l) u v:=by
  have he:=endB_net hnet
  obtain ⟨⟨n1,n2⟩,_⟩:=netB_ends hnet
  have hT:=first_tr hnet hc
  have h0:((tkT l (treeT l)).length:Int)=n - 1:=by rw [hT.fo]; exact hT.ln
  exact (lb_iff he hT.rg (by omega) (by omega)).1 (by rw [all_zero hnet hT.rg h0 hu.1 hu.2,all_zero hnet hT.rg h0 hv.1 hv.2])
end
theorem tam_mem {n:Int} {l:List St} {s:St} (h:s ∈ tamL n l) (hn:0 < n) (hn2:n ≤ 100):(0 ≤ s.1∧s.1 < n)∧(0 ≤ s.2.1∧s.2.1 < n)∧s.1 ≠ s.2.1∧0 ≤ s.2.2∧s.2.2 ≤ 1000:=by
  obtain ⟨h1,h2⟩:=List.mem_filter.1 h
  obtain ⟨r,_,rfl⟩:=List.mem_map.1 h1
  have h2:=of_decide_eq_true h2
  have a:=modW_rng r.1 hn (by omega)
  have b:=modW_rng r.2.1 hn (by omega)
  have c:=modW_rng r.2.2 (n:=1001) (by omega) (by omega)
  refine ⟨a,b,h2,?_⟩
  show 0 ≤ tamW r.2.2∧tamW r.2.2 ≤ 1000
  unfold tamW
  split <;> omega
theorem path_mem {m:Nat} {s:St} (h:s ∈ pathL m):∃ k:Nat,k < m∧s=((k:Int),(k:Int)+1,modW (7 * ((k:Int)+1)) 12):=by
  obtain ⟨k,hk,rfl⟩:=List.mem_map.1 h
  exact ⟨k,List.mem_range.1 hk,rfl⟩
theorem tam_len (n:Int) (l:List St) (most:Int):(tamT n l most).length ≤ most.toNat+(n.toNat - 1):=by
  have:=tamL_len n (l.take most.toNat)
  rw [List.length_take] at this
  rw [tamT,List.length_append,pathL_len]
  omega
theorem tam_net {n:Int} (hn:1 ≤ n∧n ≤ 16) (l:List St) {most:Int} (hm:0 ≤ most∧most ≤ 44):netB n (tamT n l most)=true:=by
  have hl:=tam_len n l most
  simp only [netB,Bool.and_eq_true,List.all_eq_true,decide_eq_true_eq,stB]
  refine ⟨fun s hs=>?_,hn,by omega⟩
  rcases List.mem_append.1 hs with h | h
  · have:=tam_mem h (by omega) (by omega)
    omega
  · obtain ⟨k,hk,rfl⟩:=path_mem h
    have:=modW_rng (7 * ((k:Int)+1)) (n:=12) (by omega) (by omega)
    simp only
    omega
theorem tam_path {n:Int} {l:List St} {most:Int} {v:Nat} (hv:v < n.toNat - 1):(tamT n l most).getD ((tamL n (l.take most.toNat)).length+v) (0,0,0)=((v:Int),(v:Int)+1,modW (7 * ((v:Int)+1)) 12):=by
  rw [tamT,List.getD,List.getElem?_append_right (by omega),show (tamL n (l.take most.toNat)).length+v - (tamL n (l.take most.toNat)).length=v by omega]
  simp [pathL,hv]
theorem tam_conn {n:Int} (hn:1 ≤ n∧n ≤ 16) (l:List St) {most:Int} (hm:0 ≤ most∧most ≤ 44):connB n (tamT n l most)=true:=by
  have hnet:=tam_net hn l hm
  refine conn_all hnet fun v h0 h1=>?_
  have key:∀ k:Nat,(k:Int) < n → Cn (tamT n l most) (startT (tamT n l most).length) 0 (k:Int):=by
    intro k
    induction k with
    | zero=>intro _; exact .refl _
    | succ k ih =>
      intro hk
      refine .trans (ih (by omega)) ?_
      have hp:=tam_path (n:=n) (l:=l) (most:=most) (v:=k) (by omega)
      have hlen:(tamT n l most).length=(tamL n (l.take most.toNat)).length+(n.toNat - 1):=by rw [tamT,List.length_append,pathL_len]
      have e:=Cn.edge (l:=tamT n l most) (t:=startT (tamT n l most).length) (k:=(((tamL n (l.take most.toNat)).length+k:Nat):Int)) (startT_mem.2 (by omega))
      rw [sA,sB,Int.toNat_natCast,hp] at e
      exact e
  have:=key v.toNat (by omega)
  rwa [show ((v.toNat:Nat):Int)=v by omega] at this
end Go.Proofs.Ytiejmoglooaalaa
end
section
open Go Go.HL
namespace Go.Proofs.Ytiejmoglooaalaa
set_option linter.unusedSectionVars false
theorem wgt_nil (l:List St):wgt l []=0:=rfl
theorem wgt_cons (l:List St) (k:Int) (t:List Int):wgt l (k :: t)=wOf l k+wgt l t:=by rw [wgt,List.map_cons,List.sum_cons]; rfl
theorem wgt_app (l:List St) (s t:List Int):wgt l (s ++ t)=wgt l s+wgt l t:=by rw [wgt,List.map_append,List.sum_append]; rfl
theorem wgt_wo (l:List St) {k:Int}:∀ {t:List Int},t.Nodup → k ∈ t → wgt l t=wOf l k+wgt l (wo t k)
  | [],_,h=>by cases h
  | x :: t,hn,h=>by
    obtain ⟨h1,h2⟩:=List.nodup_cons.1 hn
    by_cases e:x=k
    · subst e
      have:wo (x :: t) x=t:=by
        rw [wo,List.filter_cons_of_neg (by simp)]
        exact List.filter_eq_self.2 fun y hy=>decide_eq_true fun (c:y=x)=>h1 (c ▸ hy)
      rw [this,wgt_cons]
    · have hm:=(List.mem_cons.1 h).resolve_left fun c=>e c.symm
      have:wo (x :: t) k=x :: wo t k:=by rw [wo,List.filter_cons_of_pos (by simpa using e)]; rfl
      rw [this,wgt_cons,wgt_cons,wgt_wo l h2 hm]
      omega
theorem wgt_same (l:List St):∀ {a b:List Int},a.Nodup → b.Nodup → (∀ x,x ∈ a ↔ x ∈ b) → wgt l a=wgt l b
  | [],b,_,_,h=>by
    have:b=[]:=List.eq_nil_iff_forall_not_mem.2 fun x hx=>by cases (h x).2 hx
    rw [this]
  | x :: a,b,ha,hb,h=>by
    obtain ⟨h1,h2⟩:=List.nodup_cons.1 ha
    have hx:x ∈ b:=(h x).1 (List.mem_cons_self ..)
    rw [wgt_wo l hb hx,wgt_cons]
    refine congrArg (wOf l x+·) (wgt_same l h2 (hb.sublist List.filter_sublist) fun y=>?_)
    rw [mem_wo]
    constructor
    · intro hy
      exact ⟨(h y).1 (List.mem_cons_of_mem _ hy),fun c=>h1 (c ▸ hy)⟩
    · intro ⟨hy,hne⟩
      exact (List.mem_cons.1 ((h y).2 hy)).resolve_left hne
theorem Tr.perm {n:Int} {l:List St} (hnet:netB n l=true) {t s:List Int} (h:Tr n l t) (hs:s.Nodup) (hm:∀ x,x ∈ t ↔ x ∈ s):Tr n l s:=by
  have hl:=nodup_len h.nd hs hm
  refine ⟨fun k hk=>h.rg k ((hm k).2 hk),hs,by have:=h.ln; omega,?_⟩
  rw [← tk_len_same (endB_net hnet) h.rg hm,h.fo,hl]
section
variable {n:Int} {l:List St} (hnet:netB n l=true)
include hnet
theorem Tr.exch {t:List Int} (h:Tr n l t) {k j:Int} (hk:k ∈ t) (hj:0 ≤ j∧j < (l.length:Int)) (hjt:j ∉ t) (hJ:joinsT l t k j):Tr n l (wo t k ++ [j]):=by
  have hn:(wo t k ++ [j]).Nodup:=List.nodup_append.2 ⟨h.nd.sublist List.filter_sublist,by simp,fun a ha b hb=>by rw [List.mem_singleton.1 hb]; exact fun c=>hjt (c ▸ (mem_wo.1 ha).1)⟩
  have hlen:(wo t k ++ [j]).length=t.length:=by rw [List.length_append,List.length_singleton,wo_len h.nd hk]
  refine ⟨fun x hx=>?_,hn,by rw [hlen]; exact h.ln,?_⟩
  · rcases List.mem_append.1 hx with e | e
    · exact h.rg x (mem_wo.1 e).1
    · rw [List.mem_singleton.1 e]; exact hj
  · rw [hlen]
    exact (exch_len (endB_net hnet) h.rg h.nd h.fo hk hj (fun _=>Iff.rfl)).2 hJ
omit hnet in
theorem exch_wgt {t:List Int} (hn:t.Nodup) {k j:Int} (hk:k ∈ t):wgt l (wo t k ++ [j])=wgt l t - wOf l k+wOf l j:=by
  rw [wgt_app,wgt_cons,wgt_nil,wgt_wo l hn hk]; omega
theorem fr_tr (hc:connB n l=true):Tr n l (frT l):=Tr.perm hnet (first_tr hnet hc) (asc_nodup (frT_asc l)) fun _=>frT_mem.symm
omit hnet in
theorem fr_wgt:wgt l (frT l)=wgt l (treeT l):=wgt_same l (asc_nodup (frT_asc l)) (tree_nodup' l) fun _=>frT_mem
theorem fr_min {s:List Int} (hs:Tr n l s):wgt l (frT l) ≤ wgt l s:=by rw [fr_wgt]; exact first_min hnet hs
end
end Go.Proofs.Ytiejmoglooaalaa
end
section
open Go Go.HL
namespace Go.Proofs.Ytiejmoglooaalaa
set_option linter.unusedSectionVars false
section
variable {l l':List St} (he:endB l=true) (he':endB l'=true) {t t':List Int} (ht:∀ k ∈ t,0 ≤ k∧k < (l.length:Int)) (ht':∀ k ∈ t',0 ≤ k∧k < (l'.length:Int)) (h:∀ u v:Int,Cn l t u v ↔ Cn l' t' u v)
include he he' ht ht' h
theorem lb_two {v:Int} (hv:0 ≤ v∧v < 16):lb l t v=lb l' t' v:=by
  have a1:=lb_lo he ht hv
  have b1:=lb_lo he' ht' hv
  have a2:=cn_lb he' ht' ((h _ _).1 (lb_cn he ht hv))
  have b2:=cn_lb he ht ((h _ _).2 (lb_cn he' ht' hv))
  have a3:=lb_lo he' ht' (lb_rng he ht hv)
  have b3:=lb_lo he ht (lb_rng he' ht' hv)
  omega
theorem rank_two:(tkT l t).length=(tkT l' t').length:=by
  have h1:=tk_rank he ht
  have h2:=tk_rank he' ht'
  have h3:rt (labT l t)=rt (labT l' t'):=by
    unfold rt
    refine congrArg _ (List.filter_congr fun v hv=>?_)
    have hv:=List.mem_range.1 hv
    have:=lb_two he he' ht ht' h (v:=(v:Int)) (by omega)
    unfold lb at this
    rw [Int.toNat_natCast] at this
    rw [this]
  omega
end
end Go.Proofs.Ytiejmoglooaalaa
end
