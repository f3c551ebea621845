/- A part of the proof. -/
import Derived.Test.YtiejmoglooaalaaP12C
set_option linter.unusedVariables false
set_option linter.unusedSimpArgs false
set_option linter.unnecessarySimpa false
section
open Go Go.HL
namespace Go.Proofs.Ytiejmoglooaalaa
open Go.Proofs.Try renaming prog → Tp
open Go.HL.HV renaming undef → Ud
theorem take_snoc {g:List Int} {i:Nat} (h:i < g.length):g.take (i+1)=g.take i ++ [g.getD i 0]:=by
  rw [List.take_add_one,List.getElem?_eq_getElem h,getD_at h]; rfl
def mnS (g:List Int) (b:Int) (s:St):Int:=if g.getD s.1.toNat 0 ≠ g.getD s.2.1.toNat 0∧(b < 0 ∨ s.2.2 < b) then s.2.2 else b
def mnT (g:List Int) (l:List St):Int:=l.foldl (mnS g) (-1)
theorem mnT_succ (g:List Int) (l:List St) {i:Nat} (h:i < l.length):mnT g (l.take (i+1))=mnS g (mnT g (l.take i)) (l.getD i (0,0,0)):=by
  rw [mnT,List.take_add_one,List.getElem?_eq_getElem h,getD_at h,List.foldl_append]; rfl
def gpT (n:Int) (l:List St) (kk:Int):List Int:=grpT n.toNat l ((treeT l).take (n - kk).toNat)
def gpE (n:Int) (l:List St) (kk:Int):Int:=if netB n l=true∧1 ≤ kk∧kk ≤ n then (if connB n l=true then 0 else 6) else 2
def gpG (n:Int) (l:List St) (kk:Int):List Int:=if gpE n l kk=0 then gpT n l kk else []
def gpM (n:Int) (l:List St) (kk:Int):Int:=if gpE n l kk=0 then mnT (gpT n l kk) l else 0
def gpO (n:Int) (l:List St) (kk:Int):HV:=.tuple [.own 1 ((gpG n l kk).map encI),.int .i64 (gpM n l kk),.int .i64 (gpE n l kk)]
def groups33:List HV → Option HV:=f3 kI kS kI fun n l kk=>if l.length ≤ 500 then some (gpO n l kk) else none
theorem res33:Try.f33.results.toList=[.tmp 6,.tmp 7,.tmp 8]:=by kernel_rfl
def prGr:FuncId → Option (List HV → Option HV):=fun g=>if g == 52 then some within52 else if g == 40 then some tree40 else none
theorem soundGr (n:Nat):CallSound Tp (callN Tp (plF prGr) n):=sound_prim _ (fun g f h=>by
  unfold prGr at h
  split at h
  · rename_i hg; cases h; rw [eq_of_beq hg]; exact within_ok
  split at h
  · rename_i hg; cases h; rw [eq_of_beq hg]; exact tree_ok
  · cases h) n
theorem nwF_gr:NwF prGr:=⟨by kernel_rfl,by kernel_rfl,by kernel_rfl,by kernel_rfl,by kernel_rfl⟩
theorem nil_res (H:Heap) (m e:Int):toRes H false (.tuple [.imm .lit 1 [],.int .i64 m,.int .i64 e])=some (.tuple [.own 1 [],.int .i64 m,.int .i64 e]):=by
  simp [toRes,ownedAll,cellsOf,owned,resVal,resCell,mapO]; rfl
theorem gpO_bad {n:Int} {l:List St} {kk e:Int} (h:gpE n l kk=e) (he:e ≠ 0):gpO n l kk=.tuple [.own 1 [],.int .i64 0,.int .i64 e]:=by
  subst h; rw [gpO,gpG,gpM,if_neg he,if_neg he]; rfl
theorem gpO_ok {n:Int} {l:List St} {kk:Int} (h:gpE n l kk=0):gpO n l kk=.tuple [.own 1 ((gpT n l kk).map encI),.int .i64 (mnT (gpT n l kk) l),.int .i64 0]:=by
  rw [gpO,gpG,gpM,if_pos h,if_pos h,h]
theorem tk_sub (l:List St) (t:List Int):∀ i,i ≤ t.length → ∀ x ∈ tkT l (t.take i),x ∈ t:=by
  intro i
  induction i with
  | zero=>intro _ x hx; simp [tkT,ksT] at hx
  | succ i ih =>
    intro hi x hx
    rw [tkT_succ l t (by omega)] at hx
    split at hx
    · rcases List.mem_append.1 hx with h | h
      · exact ih (by omega) x h
      · rw [List.mem_singleton.1 h]; exact mem_getD 0 (by omega)
    · exact ih (by omega) x hx
theorem tree_in {l:List St} {x:Int} (h:x ∈ treeT l):0 ≤ x∧x < (l.length:Int):=by
  have:=tk_sub l (ordT l) (ordT l).length (Nat.le_refl _) x (by rw [List.take_length]; exact h)
  exact ordT_mem.1 this
theorem res_lii {H:Heap} {b k:Nat} {o:List Int} (hb:H[b]?=some (bI o)) (hk:o.length=k) (m e:Int):toRes H false (.tuple [.sl b 0 k none k 1,.int .i64 m,.int .i64 e])=some (.tuple [.own 1 (o.map encI),.int .i64 m,.int .i64 e]):=by
  have hr:=resCell_sl (H:=H) (no:=[b]) (b:=b) (k:=1) (m:=k) (cap:=none) (els:=o.map encI) hb (by simpa using hk) (mapO_self (fun r=>frz_int 4 r) _)
  have ho:ownedAll H false (.tuple [.sl b 0 k none k 1,.int .i64 m,.int .i64 e])=[b]:=by simp [ownedAll,cellsOf,owned,hb]
  simp only [toRes,ho,List.nodup_cons,List.not_mem_nil,not_false_eq_true,List.nodup_nil,and_self,if_true,resVal,mapO,hr]
  rfl
theorem groups_ok:PrimOk Tp 33 groups33:=by
  refine primOk_pure (pol:=plF prGr) (fn:=Try.f33) (cd:=B33) follows_mixed soundGr (by kernel_rfl) (by kernel_rfl) (fnok prGr _ _ (by kernel_rfl)) (by kernel_rfl) ?_
  intro args res h
  obtain ⟨n,l,kk,rfl,hq⟩:=f3_inv h
  split at hq
  case isFalse=>cases hq
  rename_i hl
  cases hq
  have a:=gg_a_0 (F:=prGr) 0 n (l.map encT) kk
  obtain ⟨N0,c39⟩:=CallsTo.from (nw_call nwF_gr (H:=[]) (Nat.le_refl _) n (l:=l) (by omega))
  cases hnet:netB n l with
  | false =>
    rw [hnet] at c39
    have b:=gg_b_1 (F:=prGr) N0 n (l.map encT) kk (y9:=Ud) (y10:=Ud) (y11:=Ud) (y12:=Ud) (y14:=Ud) (y15:=Ud) (y16:=Ud) (y18:=Ud) (y50:=Ud) (y51:=Ud) (y61:=Ud) (y62:=Ud) (y63:=Ud) c39 rfl stN
    have ct:=gg_cf_0 (F:=prGr) 0 n (l.map encT) kk [bN n l] (y11:=Ud) (y12:=Ud) (y14:=Ud) (y15:=Ud) (y16:=Ud) (y18:=Ud) (y50:=Ud) (y51:=Ud) (y61:=Ud) (y62:=Ud) (y63:=Ud)
    refine ⟨_,_,_,.tuple [.imm .lit 1 [],.int .i64 0,.int .i64 2],sq (a) (sq (b) (sqo (ct) (c:=sub [1,1] B33) (b:=sub [1,1,1] B33)) (c:=sub [1] B33)) (c:=B33),by simp,by simp only [resultsV,res33]; rfl,?_⟩
    have he:gpE n l kk=2:=by rw [gpE,if_neg (by rw [hnet]; simp)]
    rw [gpO_bad he (by decide)]; exact nil_res _ _ _
  | true =>
    rw [hnet] at c39
    obtain ⟨⟨n1,n2⟩,n3,he,_⟩:=netB_ends hnet
    have heB:=endN_B he (by omega)
    have b:=gg_b_0 (F:=prGr) N0 n (l.map encT) kk (y9:=Ud) (y10:=Ud) (y11:=Ud) (y12:=Ud) (y14:=Ud) (y15:=Ud) (y16:=Ud) (y18:=Ud) (y50:=Ud) (y51:=Ud) (y61:=Ud) (y62:=Ud) (y63:=Ud) c39 rfl stN
    have wk:=within_at (F:=prGr) (by kernel_rfl) kk 1 n [bN n l]
    by_cases ku:1 ≤ kk∧kk ≤ n
    case neg =>
      rw [decide_eq_false ku] at wk
      have ct:=gg_ct_1 (F:=prGr) 0 n (l.map encT) kk [bN n l] (y11:=Ud) (y12:=Ud) (y14:=Ud) (y15:=Ud) (y16:=Ud) (y18:=Ud) (y50:=Ud) (y51:=Ud) (y61:=Ud) (y62:=Ud) (y63:=Ud) wk
      refine ⟨_,_,_,.tuple [.imm .lit 1 [],.int .i64 0,.int .i64 2],sq (a) (sq (b) (sqo (ct) (c:=sub [1,1] B33) (b:=sub [1,1,1] B33)) (c:=sub [1] B33)) (c:=B33),by simp,by simp only [resultsV,res33]; rfl,?_⟩
      have he:gpE n l kk=2:=by rw [gpE,if_neg (fun h=>ku h.2)]
      rw [gpO_bad he (by decide)]; exact nil_res _ _ _
    rw [decide_eq_true ku] at wk
    have ct:=gg_ct_0 (F:=prGr) 0 n (l.map encT) kk [bN n l] (y11:=Ud) (y12:=Ud) (y14:=Ud) (y15:=Ud) (y16:=Ud) (y18:=Ud) (y50:=Ud) (y51:=Ud) (y61:=Ud) (y62:=Ud) (y63:=Ud) wk
    have c40:=at1 (pol':=plF prGr) (g:=40) (c1:=kN) (f:=fun p=>if netOk p.1 p.2 then some (.tuple [.own 1 ((treeT p.2).map encI),.bool (connB p.1 p.2)]) else none) (H:=[bN n l]) (by kernel_rfl) (ShN _ n l) (if_pos ⟨heB,by show l.length ≤ 900; omega,by show 0 ≤ n; omega,by show n ≤ 1000; omega⟩)
    rw [recv_tb] at c40
    have hlT:(treeT l).length ≤ l.length:=by have:=ksT_len l (ordT l); rw [ordT_len] at this; exact this
    by_cases cn:connB n l=true
    case neg =>
      have c40':=c40
      simp only at c40'
      rw [nb_false cn] at c40'
      have d:=gg_d_1 (F:=prGr) 0 n (l.map encT) kk [bN n l] 1 (treeT l).length (y11:=Ud) (y12:=Ud) (y14:=Ud) (y15:=Ud) (y16:=Ud) (y18:=Ud) (y50:=Ud) (y51:=Ud) (y61:=Ud) (y62:=Ud) (y63:=Ud) (ld66 rfl) c40'
      have e:=gg_ef_0 (F:=prGr) 0 n (l.map encT) kk [bN n l,bI (treeT l)] 1 (treeT l).length (y12:=Ud) (y14:=Ud) (y15:=Ud) (y16:=Ud) (y18:=Ud) (y50:=Ud) (y51:=Ud) (y61:=Ud) (y62:=Ud) (y63:=Ud)
      refine ⟨_,_,_,.tuple [.imm .lit 1 [],.int .i64 0,.int .i64 6],sq (a) (sq (b) (sq (ct) (sq (d) (sqo (e) (c:=sub [1,1,1,1] B33) (b:=sub [1,1,1,1,1] B33)) (c:=sub [1,1,1] B33)) (c:=sub [1,1] B33)) (c:=sub [1] B33)) (c:=B33),by simp,by simp only [resultsV,res33]; rfl,?_⟩
      have he:gpE n l kk=6:=by rw [gpE,if_pos ⟨hnet,ku⟩,if_neg cn]
      rw [gpO_bad he (by decide)]; exact nil_res _ _ _
    have c40':=c40
    simp only at c40'
    rw [cn] at c40'
    have d:=gg_d_0 (F:=prGr) 0 n (l.map encT) kk [bN n l] 1 (treeT l).length (y11:=Ud) (y12:=Ud) (y14:=Ud) (y15:=Ud) (y16:=Ud) (y18:=Ud) (y50:=Ud) (y51:=Ud) (y61:=Ud) (y62:=Ud) (y63:=Ud) (ld66 rfl) c40'
    have e:=gg_et_0 (F:=prGr) 0 n (l.map encT) kk [bN n l,bI (treeT l)] 1 (treeT l).length (y12:=Ud) (y14:=Ud) (y15:=Ud) (y16:=Ud) (y18:=Ud) (y50:=Ud) (y51:=Ud) (y61:=Ud) (y62:=Ud) (y63:=Ud)
    have hE:gpE n l kk=0:=by rw [gpE,if_pos ⟨hnet,ku⟩,if_pos cn]
    have hcl:((treeT l).length:Int)=n - 1:=of_decide_eq_true cn
    rw [gpO_ok hE]
    obtain ⟨n,rfl⟩:∃ m:Nat,n=(m:Int):=⟨n.toNat,by omega⟩
    generalize hk:((n:Int) - kk).toNat=k at *
    have hk2:((k:Nat):Int)=(n:Int) - kk:=by omega
    have hw:IntKind.i64.wrap ((n:Int) - kk)=(k:Int):=by rw [wrap_id (by omega) (by omega)]; omega
    have hgp:gpT (n:Int) l kk=grpT n l ((treeT l).take k):=by rw [gpT,hk]; rfl
    rw [hgp]
    have ht0:∀ x ∈ treeT l,0 ≤ x∧x < (l.length:Int):=fun x hx=>tree_in hx
    have htl:((treeT l).take k).length=k:=by rw [List.length_take]; omega
    have hto:∀ i,i < ((treeT l).take k).length → i < (treeT l).length∧(treeT l).getD i 0=((treeT l).take k).getD i 0:=fun i hi=>⟨by omega,(take_getD (by omega)).symm⟩
    have htt:∀ x ∈ (treeT l).take k,0 ≤ x∧x < (l.length:Int):=fun x hx=>ht0 x (List.mem_of_mem_take hx)
    obtain ⟨N1,c57⟩:=CallsTo.from (joined_sl (F:=prGr) (by kernel_rfl) (by kernel_rfl) (by kernel_rfl) (by kernel_rfl) (n:=(n:Int)) heB htt (by omega) (H:=[bN n l,bI (treeT l)]) (by show max 0 (max 0 0) ≤ 2; decide) (lb:=1) (cap:=none) rfl hto)
    rw [htl] at c57
    have f:=gg_f_0 (F:=prGr) N1 n (l.map encT) kk [bN n l,bI (treeT l)] 1 (treeT l).length 3 _ (y12:=Ud) (y14:=Ud) (y15:=Ud) (y16:=Ud) (y18:=Ud) (y50:=Ud) (y51:=Ud) (y61:=Ud) (y62:=Ud) (y63:=Ud) (ld66 rfl) (by rw [hw,Int.toNat_natCast]; exact slice_hi (by omega)) (by rw [hw,Int.toNat_natCast]; exact c57)
    have hU:=ksT_up heB (t:=(treeT l).take k) htt
    have g:=gg_g_0 (F:=prGr) 0 n (l.map encT) kk [bN n l,bI (treeT l),bN n l,bU (ksT l ((treeT l).take k)).1] 3 (y9:=.ptr 0 0 0 1) (y10:=.bool true) (y11:=.sl 1 0 (treeT l).length none (treeT l).length 1) (y14:=Ud) (y15:=Ud) (y16:=Ud) (y18:=Ud) (y50:=Ud) (y51:=Ud) (y61:=Ud) (y62:=Ud) (y63:=Ud) rfl
    have hh:=gg_h_0 (F:=prGr) 0 n (l.map encT) kk [bN n l,bI (treeT l),bN n l,bU (ksT l ((treeT l).take k)).1,bI []] 3 4 0 (y9:=.ptr 0 0 0 1) (y10:=.bool true) (y11:=.sl 1 0 (treeT l).length none (treeT l).length 1) (y15:=Ud) (y16:=Ud) (y18:=Ud) (y50:=Ud) (y51:=Ud) (y61:=Ud) (y62:=Ud) (y63:=Ud)
    have hG:grpT n l ((treeT l).take k)=(labT l ((treeT l).take k)).take n:=rfl
    rw [hG]
    have hlg:(labT l ((treeT l).take k)).length=16:=hU.lg
    have hU2:Up (ksT l ((treeT l).take k)).1 (labT l ((treeT l).take k)):=hU
    generalize hus:(ksT l ((treeT l).take k)).1=us at *
    generalize hlab:labT l ((treeT l).take k)=lab at *
    have lt:∀ i,i ≤ n → (lab.take i).length=i:=fun i hi=>by rw [List.length_take]; omega
    have r:=count (pol':=plF prGr) (f:=33) (E:=fun i=>(env33 (.int .i64 (n:Int)) (.imm .arg 3 (l.map encT)) (.int .i64 kk) (.imm .lit 1 []) (.int .i64 0) (.int .i64 0) Ud Ud Ud (.ptr 3 0 0 1) (.sl 4 0 (lab.take i).length none (lab.take i).length 1) Ud Ud Ud (.int .i64 (n:Int)) (.int .i64 (i:Int)) Ud Ud Ud)) (Hs:=fun i=>[bN n l,bI (treeT l),bN n l,bU us,bI (lab.take i)]) n
      (E0:=fun i=>(env33 (.int .i64 (n:Int)) (.imm .arg 3 (l.map encT)) (.int .i64 kk) (.imm .lit 1 []) (.int .i64 0) (.int .i64 0) Ud Ud Ud (.ptr 3 0 0 1) (.sl 4 0 (lab.take (i+1)).length none (lab.take (i+1)).length 1) (.int .i64 (i:Int)) Ud Ud (.int .i64 (n:Int)) (.int .i64 ((i+1:Nat):Int)) Ud Ud Ud)) (H1:=fun i=>[bN n l,bI (treeT l),bN n l,bU us,bI (lab.take (i+1))])
      (fun i hi=>by
        obtain ⟨N2,c55⟩:=CallsTo.from (of_call (F:=prGr) (by kernel_rfl) (H:=[bN n l,bI (treeT l),bN n l,bU us,bI (lab.take i)]) (b:=3) rfl hU2 (v:=(i:Int)) (by omega) (by omega))
        rw [Int.toNat_natCast] at c55
        have hli:=lt i (by omega)
        have ap:=app_in1 (H:=[bN n l,bI (treeT l),bN n l,bU us,bI (lab.take i)]) (b:=4) (o:=lab.take i) rfl (by omega) (lab.getD i 0)
        have es:=take_snoc (g:=lab) (i:=i) (by omega)
        rw [← es] at ap
        have s:=gg_l_0 (F:=prGr) N2 n (l.map encT) kk [bN n l,bI (treeT l),bN n l,bU us,bI (lab.take i)] 3 4 (lab.take i).length i (y9:=Ud) (y10:=Ud) (y11:=Ud) (y15:=Ud) (y16:=Ud) (y18:=Ud) (y61:=Ud) (y62:=Ud) (y63:=Ud) (by omega) c55 ap
        have el:(lab.take (i+1)).length=(lab.take i).length+1:=by rw [lt _ (by omega),lt _ (by omega)]
        rw [wrap_succ (by omega),← el] at s
        exact s) (fun i _=>by kernel_rfl) (fun i _=>gc_eq _ rfl) (gg_l_1 (F:=prGr) 0 n (l.map encT) kk [bN n l,bI (treeT l),bN n l,bU us,bI (lab.take n)] 3 4 (lab.take n).length n (y9:=Ud) (y10:=Ud) (y11:=Ud) (y15:=Ud) (y16:=Ud) (y18:=Ud) (y61:=Ud) (y62:=Ud) (y63:=Ud) (by omega)) (by simp) (c:=sub [1,1,1,1,1,1,1,0,1,0] B33) (by kernel_rfl) (fun i _=>by kernel_rfl)
    have hln:=lt n (Nat.le_refl _)
    rw [hln] at r
    have ii:=gg_i_0 (F:=prGr) 0 n (l.map encT) kk [bN n l,bI (treeT l),bN n l,bU us,bI (lab.take n)] 4 n (y12:=.ptr 3 0 0 1) (y50:=.int .i64 (n:Int)) (y51:=.int .i64 (n:Int)) (y9:=Ud) (y10:=Ud) (y11:=Ud) (y15:=Ud) (y16:=Ud) (y18:=Ud) (y61:=Ud) (y62:=Ud) (y63:=Ud)
    have jj:=gg_j_0 (F:=prGr) 0 n (l.map encT) kk [bN n l,bI (treeT l),bN n l,bU us,bI (lab.take n)] 4 n (-1) (y12:=.ptr 3 0 0 1) (y50:=.int .i64 (n:Int)) (y51:=.int .i64 (n:Int)) (y9:=Ud) (y10:=Ud) (y11:=Ud) (y15:=Ud) (y18:=Ud) (y61:=Ud) (y62:=Ud) (y63:=Ud)
    generalize hgr:lab.take n=gr at *
    generalize hH:[bN (n:Int) l,bI (treeT l),bN (n:Int) l,bU us,bI gr]=H at *
    have hH4:H[4]?=some (bI gr):=by rw [← hH]; rfl
    have hH5:H.length=5:=by rw [← hH]; rfl
    have r2:=count (pol':=plF prGr) (f:=33) (E:=fun i=>(env33 (.int .i64 (n:Int)) (.imm .arg 3 (l.map encT)) (.int .i64 kk) (.imm .lit 1 []) (.int .i64 0) (.int .i64 0) Ud Ud Ud Ud (.sl 4 0 n none n 1) Ud (.int .i64 (mnT gr (l.take i))) Ud Ud Ud (.imm .arg 3 (l.map encT)) (.int .i64 (l.length:Int)) (.int .i64 (i:Int)))) (Hs:=fun i=>H) l.length
      (E0:=fun i=>(env33 (.int .i64 (n:Int)) (.imm .arg 3 (l.map encT)) (.int .i64 kk) (.imm .lit 1 []) (.int .i64 0) (.int .i64 0) Ud Ud Ud Ud (.sl 4 0 n none n 1) Ud (.int .i64 (mnT gr (l.take (i+1)))) (.ptr H.length 0 0 1) Ud Ud (.imm .arg 3 (l.map encT)) (.int .i64 (l.length:Int)) (.int .i64 ((i+1:Nat):Int)))) (H1:=fun i=>H ++ [bT (l.getD i (0,0,0))])
      (fun i hi=>by
        have g2:=gs (l:=l) (y:=i) hi
        have hm:=mnT_succ gr l hi
        have hse:=endN_iff.1 he _ (mem_getD (0,0,0) hi)
        generalize l.getD i (0,0,0)=s at *
        obtain ⟨⟨sa1,sa2⟩,sb1,sb2⟩:=hse
        have hx:=get_x H (bT s)
        have la:=ldT hx 0 s.1 rfl
        have lb:=ldT hx 1 s.2.1 rfl
        have lc:=ldT hx 2 s.2.2 rfl
        have hg4:(H ++ [bT s])[4]?=some (bI gr):=get_l hH4
        have lx:=load_out hg4 (y:=s.1.toNat) (by omega)
        have ly:=load_out hg4 (y:=s.2.1.toNat) (by omega)
        rw [hln] at lx ly
        rw [hm,mnS]
        by_cases cx:gr.getD s.1.toNat 0=gr.getD s.2.1.toNat 0
        · rw [if_neg (fun h=>h.1 cx)]
          have s1:=gg_k_0 (F:=prGr) 0 n (l.map encT) kk H 4 n l.length i (mnT gr (l.take i)) s.1 s.2.1 s.2.2 _ _ (y9:=Ud) (y10:=Ud) (y11:=Ud) (y12:=Ud) (y15:=Ud) (y18:=Ud) (y50:=Ud) (y51:=Ud) (by omega) g2 (box_nv H) (box_st H s) (fld0 _) la (idxU ⟨sa1,sa2⟩) lx (fld1 _) lb (idxU ⟨sb1,sb2⟩) ly cx
          rw [wrap_succ (by omega)] at s1
          exact s1
        by_cases cg:mnT gr (l.take i) < 0
        · rw [if_pos ⟨cx,.inl cg⟩]
          have s1:=gg_k_1 (F:=prGr) 0 n (l.map encT) kk H 4 n l.length i (mnT gr (l.take i)) s.1 s.2.1 s.2.2 _ _ (y9:=Ud) (y10:=Ud) (y11:=Ud) (y12:=Ud) (y15:=Ud) (y18:=Ud) (y50:=Ud) (y51:=Ud) (by omega) g2 (box_nv H) (box_st H s) (fld0 _) la (idxU ⟨sa1,sa2⟩) lx (fld1 _) lb (idxU ⟨sb1,sb2⟩) ly cx cg (fld2 _) lc
          rw [wrap_succ (by omega)] at s1
          exact s1
        by_cases cw:s.2.2 < mnT gr (l.take i)
        · rw [if_pos ⟨cx,.inr cw⟩]
          have s1:=gg_k_2 (F:=prGr) 0 n (l.map encT) kk H 4 n l.length i (mnT gr (l.take i)) s.1 s.2.1 s.2.2 _ _ (y9:=Ud) (y10:=Ud) (y11:=Ud) (y12:=Ud) (y15:=Ud) (y18:=Ud) (y50:=Ud) (y51:=Ud) (by omega) g2 (box_nv H) (box_st H s) (fld0 _) la (idxU ⟨sa1,sa2⟩) lx (fld1 _) lb (idxU ⟨sb1,sb2⟩) ly cx cg (fld2 _) lc cw (fld2 _) lc
          rw [wrap_succ (by omega)] at s1
          exact s1
        · rw [if_neg (fun h=>h.2.elim cg cw)]
          have s1:=gg_k_3 (F:=prGr) 0 n (l.map encT) kk H 4 n l.length i (mnT gr (l.take i)) s.1 s.2.1 s.2.2 _ _ (y9:=Ud) (y10:=Ud) (y11:=Ud) (y12:=Ud) (y15:=Ud) (y18:=Ud) (y50:=Ud) (y51:=Ud) (by omega) g2 (box_nv H) (box_st H s) (fld0 _) la (idxU ⟨sa1,sa2⟩) lx (fld1 _) lb (idxU ⟨sb1,sb2⟩) ly cx cg (fld2 _) lc cw
          rw [wrap_succ (by omega)] at s1
          exact s1) (fun i _=>by kernel_rfl) (fun i _=>by
            have hb:bndE ((env33 (.int .i64 (n:Int)) (.imm .arg 3 (l.map encT)) (.int .i64 kk) (.imm .lit 1 []) (.int .i64 0) (.int .i64 0) Ud Ud Ud Ud (.sl 4 0 n none n 1) Ud (.int .i64 (mnT gr (l.take (i+1)))) Ud Ud Ud (.imm .arg 3 (l.map encT)) (.int .i64 (l.length:Int)) (.int .i64 ((i+1:Nat):Int))))=5:=by simp only [bndE,bnd,bndL]; rfl
            show gc H.length (bndE ((env33 (.int .i64 (n:Int)) (.imm .arg 3 (l.map encT)) (.int .i64 kk) (.imm .lit 1 []) (.int .i64 0) (.int .i64 0) Ud Ud Ud Ud (.sl 4 0 n none n 1) Ud (.int .i64 (mnT gr (l.take (i+1)))) Ud Ud Ud (.imm .arg 3 (l.map encT)) (.int .i64 (l.length:Int)) (.int .i64 ((i+1:Nat):Int))))) (H ++ [bT (l.getD i (0,0,0))])=H
            rw [hb,← hH5]
            exact gc_back (by rw [mxs_app,← hH]; show max (max 0 (max 0 (max 0 (max 0 (max 0 0))))) (max 0 0) ≤ 5; decide) (Nat.le_refl _)) (gg_k_4 (F:=prGr) 0 n (l.map encT) kk H 4 n l.length l.length (mnT gr (l.take l.length)) 0 0 0 0 0 (y9:=Ud) (y10:=Ud) (y11:=Ud) (y12:=Ud) (y15:=Ud) (y18:=Ud) (y50:=Ud) (y51:=Ud) (by omega)) (by simp) (c:=sub [1,1,1,1,1,1,1,1,1,0,1,0] B33) (by kernel_rfl) (fun i _=>by kernel_rfl)
    rw [List.take_of_length_le (Nat.le_refl _)] at r2
    have z:=gg_z_0 (F:=prGr) 0 n (l.map encT) kk H 4 n (mnT gr l) (y61:=.imm .arg 3 (l.map encT)) (y62:=.int .i64 (l.length:Int)) (y63:=.int .i64 (l.length:Int)) (y9:=Ud) (y10:=Ud) (y11:=Ud) (y12:=Ud) (y15:=Ud) (y18:=Ud) (y50:=Ud) (y51:=Ud)
    have lmap:(l.map encT).length=l.length:=List.length_map _
    rw [lmap] at jj
    refine ⟨_,_,_,.tuple [.sl 4 0 n none n 1,.int .i64 (mnT gr l),.int .i64 0],sq (a) (sq (b) (sq (ct) (sq (d) (sq (e) (sq (f) (sq (g) (sq (sq (hh) (bke (c:=sub [1,1,1,1,1,1,1,0,1] B33) (lpi (e0:=(env33 (.int .i64 (n:Int)) (.imm .arg 3 (l.map encT)) (.int .i64 kk) (.imm .lit 1 []) (.int .i64 0) (.int .i64 0) (.ptr 0 0 0 1) (.bool true) (.sl 1 0 (treeT l).length none (treeT l).length 1) (.ptr 3 0 0 1) (.sl 4 0 0 none 0 1) Ud Ud Ud (.int .i64 (n:Int)) (.int .i64 ((0:Nat):Int)) Ud Ud Ud)) r (b:=sub [1,1,1,1,1,1,1,0,1,0,0] B33))) (c:=sub [1,1,1,1,1,1,1,0] B33)) (sq (ii) (sq (sq (jj) (bke (c:=sub [1,1,1,1,1,1,1,1,1,0,1] B33) (lpi (e0:=(env33 (.int .i64 (n:Int)) (.imm .arg 3 (l.map encT)) (.int .i64 kk) (.imm .lit 1 []) (.int .i64 0) (.int .i64 0) Ud Ud Ud (.ptr 3 0 0 1) (.sl 4 0 n none n 1) Ud (.int .i64 (-1)) Ud (.int .i64 (n:Int)) (.int .i64 (n:Int)) (.imm .arg 3 (l.map encT)) (.int .i64 (l.length:Int)) (.int .i64 ((0:Nat):Int)))) r2 (b:=sub [1,1,1,1,1,1,1,1,1,0,1,0,0] B33))) (c:=sub [1,1,1,1,1,1,1,1,1,0] B33)) (z) (c:=sub [1,1,1,1,1,1,1,1,1] B33)) (c:=sub [1,1,1,1,1,1,1,1] B33)) (c:=sub [1,1,1,1,1,1,1] B33)) (c:=sub [1,1,1,1,1,1] B33)) (c:=sub [1,1,1,1,1] B33)) (c:=sub [1,1,1,1] B33)) (c:=sub [1,1,1] B33)) (c:=sub [1,1] B33)) (c:=sub [1] B33)) (c:=B33),by simp,by simp only [resultsV,res33]; rfl,?_⟩
    exact res_lii hH4 hln _ _
end Go.Proofs.Ytiejmoglooaalaa
end
section
open Go Go.HL
namespace Go.Proofs.Ytiejmoglooaalaa
open Go.Proofs.Try renaming prog → Tp
open Go.HL.HV renaming undef → Ud
theorem sub_filter {t s:List Int} (h:s.Sublist t) (hn:t.Nodup):t.filter (fun x=>decide (x ∈ s))=s:=by
  induction h with
  | slnil=>rfl
  | @cons s t a h ih =>
    have hn':=List.nodup_cons.1 hn
    rw [List.filter_cons_of_neg (by simpa using fun c=>hn'.1 (h.subset c))]
    exact ih hn'.2
  | @cons_cons s t a h ih =>
    have hn':=List.nodup_cons.1 hn
    rw [List.filter_cons_of_pos (by simp)]
    refine congrArg (a :: ·) ?_
    rw [← ih hn'.2]
    refine (List.filter_congr fun x hx=>?_)
    have:x ≠ a:=fun c=>hn'.1 (c ▸ hx)
    rw [ih hn'.2]
    simp [this]
theorem tk_sublist (l:List St) (t:List Int):∀ i,i ≤ t.length → (tkT l (t.take i)).Sublist (t.take i):=by
  intro i
  induction i with
  | zero=>intro _; exact List.Sublist.refl _
  | succ i ih =>
    intro hi
    rw [tkT_succ l t (by omega),take_snoc (by omega)]
    split
    · exact (ih (by omega)).append (List.Sublist.refl _)
    · exact (ih (by omega)).trans (List.sublist_append_left _ _)
theorem ordT_nodup (l:List St):(ordT l).Nodup:=(ordN_perm l l.length).nodup_iff.2 (startT_nodup _)
theorem frT_mem {l:List St} {x:Int}:x ∈ frT l ↔ x ∈ treeT l:=by
  rw [frT,selT,List.mem_filter]
  exact ⟨fun h=>of_decide_eq_true h.2,fun h=>⟨startT_mem.2 (tree_in h),decide_eq_true h⟩⟩
theorem tree_filter (l:List St):(ordT l).filter (fun x=>decide (x ∈ treeT l))=treeT l:=by
  have:=tk_sublist l (ordT l) (ordT l).length (Nat.le_refl _)
  rw [List.take_length] at this
  exact sub_filter this (ordT_nodup l)
theorem fr_filter (l:List St):(ordT l).filter (fun x=>decide (x ∈ frT l))=treeT l:=by
  rw [← tree_filter l]
  refine List.filter_congr fun x _=>?_
  rw [decide_eq_decide]; exact frT_mem
theorem fr_len (l:List St):(frT l).length=(treeT l).length:=by
  have h:((ordT l).filter fun x=>decide (x ∈ treeT l)).Perm (frT l):=(ordN_perm l l.length).filter _
  rw [← h.length_eq,tree_filter]
theorem frOk_eq (n:Int) (l:List St):frOk n l=connB n l:=by rw [frOk,connB,fr_len]
def kp (l:List St) (i:Nat):List Int:=((ordT l).take i).filter fun x=>decide (x ∈ frT l)
theorem kp_succ {l:List St} {i:Nat} (h:i < l.length):kp l (i+1)=kp l i ++ (if (ordT l).getD i 0 ∈ frT l then [(ordT l).getD i 0] else []):=by
  rw [kp,take_snoc (by rw [ordT_len]; exact h),List.filter_append,kp]
  refine congrArg _ ?_
  by_cases c:(ordT l).getD i 0 ∈ frT l
  · rw [if_pos c,List.filter_cons_of_pos (by simpa using c)]; rfl
  · rw [if_neg c,List.filter_cons_of_neg (by simpa using c)]; rfl
theorem kp_all (l:List St) (i:Nat):∃ r,treeT l=kp l i ++ r:=by
  refine ⟨((ordT l).drop i).filter fun x=>decide (x ∈ frT l),?_⟩
  rw [kp,← List.filter_append,List.take_append_drop,fr_filter]
theorem kp_last (l:List St):kp l l.length=treeT l:=by
  rw [kp,List.take_of_length_le (by rw [ordT_len]; exact Nat.le_refl _),fr_filter]
theorem kp_stop (l:List St) (k:Nat):∃ j,j ≤ l.length∧(∀ i,i < j → (kp l i).length < k)∧(j=l.length ∨ ¬ (kp l j).length < k)∧kp l j=(treeT l).take k:=by
  have step:∀ i,i < l.length → (kp l (i+1)).length ≤ (kp l i).length+1:=fun i hi=>by
    rw [kp_succ hi,List.length_append]; split <;> simp
  have fin:∀ j,j ≤ l.length → (∀ i,i < j → (kp l i).length < k) → (j=l.length ∨ ¬ (kp l j).length < k) → kp l j=(treeT l).take k:=by
    intro j hj h1 h2
    have hle:(kp l j).length ≤ k:=by
      rcases Nat.eq_zero_or_pos j with c | c
      · subst c; simp [kp]
      · have:=step (j - 1) (by omega)
        have:=h1 (j - 1) (by omega)
        rw [show j - 1+1=j by omega] at *
        omega
    rcases h2 with h2 | h2
    · subst h2
      rw [kp_last] at hle ⊢
      rw [List.take_of_length_le hle]
    · obtain ⟨r,hr⟩:=kp_all l j
      rw [hr,List.take_append_of_le_length (by omega),List.take_of_length_le (by omega)]
  cases hf:fN (fun i=>decide (k ≤ (kp l i).length)) l.length 0 with
  | some j =>
    obtain ⟨h1,h2,h3,h4⟩:=fN_some hf
    have h5:∀ i,i < j → (kp l i).length < k:=fun i hi=>by have:=h4 i (Nat.zero_le _) hi; simpa using this
    have h6:j=l.length ∨ ¬ (kp l j).length < k:=.inr (by have:=of_decide_eq_true h3; omega)
    exact ⟨j,by omega,h5,h6,fin j (by omega) h5 h6⟩
  | none =>
    have h4:=fN_none hf
    have h5:∀ i,i < l.length → (kp l i).length < k:=fun i hi=>by have:=h4 i (Nat.zero_le _) (by omega); simpa using this
    exact ⟨l.length,Nat.le_refl _,h5,.inl rfl,fin _ (Nat.le_refl _) h5 (.inl rfl)⟩
def rgroups38:List HV → Option HV:=f3 kI kS kI fun n l kk=>if netB n l=true∧1 ≤ kk∧kk ≤ n then some (.tuple [.own 1 ((gpT n l kk).map encI),.int .i64 (mnT (gpT n l kk) l)]) else none
theorem res38:Try.f38.results.toList=[.tmp 6,.tmp 7]:=by kernel_rfl
def prRg:FuncId → Option (List HV → Option HV):=fun g=>if g == 20 then some first20 else if g == 47 then some rorder47 else if g == 50 then some taken50 else if g == 51 then some has51 else none
theorem soundRg (n:Nat):CallSound Tp (callN Tp (plF prRg) n):=sound_prim _ (fun g f h=>by
  unfold prRg at h
  split at h
  · rename_i hg; cases h; rw [eq_of_beq hg]; exact first_ok
  split at h
  · rename_i hg; cases h; rw [eq_of_beq hg]; exact rorder_ok
  split at h
  · rename_i hg; cases h; rw [eq_of_beq hg]; exact taken_ok
  split at h
  · rename_i hg; cases h; rw [eq_of_beq hg]; exact has_ok
  · cases h) n
theorem res_li1 {H:Heap} {b k:Nat} {o:List Int} (hb:H[b]?=some (bI o)) (hk:o.length=k) (m:Int):toRes H false (.tuple [.sl b 0 k none k 1,.int .i64 m])=some (.tuple [.own 1 (o.map encI),.int .i64 m]):=by
  have hr:=resCell_sl (H:=H) (no:=[b]) (b:=b) (k:=1) (m:=k) (cap:=none) (els:=o.map encI) hb (by simpa using hk) (mapO_self (fun r=>frz_int 4 r) _)
  have ho:ownedAll H false (.tuple [.sl b 0 k none k 1,.int .i64 m])=[b]:=by simp [ownedAll,cellsOf,owned,hb]
  simp only [toRes,ho,List.nodup_cons,List.not_mem_nil,not_false_eq_true,List.nodup_nil,and_self,if_true,resVal,mapO,hr]
  rfl
theorem rgroups_ok:PrimOk Tp 38 rgroups38:=by
  refine primOk_pure (pol:=plF prRg) (fn:=Try.f38) (cd:=B38) follows_mixed soundRg (by kernel_rfl) (by kernel_rfl) (fnok prRg _ _ (by kernel_rfl)) (by kernel_rfl) ?_
  intro args res h
  obtain ⟨n,l,kk,rfl,hq⟩:=f3_inv h
  split at hq
  case isFalse=>cases hq
  rename_i hc
  obtain ⟨hnet,ku⟩:=hc
  cases hq
  obtain ⟨⟨n1,n2⟩,n3,he,_⟩:=netB_ends hnet
  have heB:=endN_B he (by omega)
  obtain ⟨n,rfl⟩:∃ m:Nat,n=(m:Int):=⟨n.toNat,by omega⟩
  generalize hk:((n:Int) - kk).toNat=k at *
  have hw:IntKind.i64.wrap ((n:Int) - kk)=(k:Int):=by rw [wrap_id (by omega) (by omega)]; omega
  have hgp:gpT (n:Int) l kk=grpT n l ((treeT l).take k):=by rw [gpT,hk]; rfl
  rw [hgp]
  have a:=rg_a_0 (F:=prRg) n (l.map encT) kk
  have c20:=at2 (pol':=plF prRg) (g:=20) (c1:=kI) (c2:=kS) (f:=fun n l=>if (0 ≤ n∧n ≤ 16)∧endN n l=true∧l.length ≤ 500 then some (.tuple [.own 1 ((frT l).map encI),.bool (frOk n l)]) else none) (H:=[]) (by kernel_rfl) (ShI _ (n:Int)) (ShS_imm _ l) (if_pos ⟨by omega,he,by omega⟩)
  rw [recv_tb] at c20
  have b:RunsTo Tp (plF prRg) 38 (sub [1,0] B38) ((env38 (.int .i64 (n:Int)) (.imm .arg 3 (l.map encT)) (.int .i64 kk) (.imm .lit 1 []) (.int .i64 0) Ud Ud Ud Ud Ud Ud Ud)) [] .normal ((plF prRg).keys 38) ((env38 (.int .i64 (n:Int)) (.imm .arg 3 (l.map encT)) (.int .i64 kk) (.imm .lit 1 []) (.int .i64 0) (.sl 0 0 (frT l).length none (frT l).length 1) Ud Ud Ud Ud Ud Ud)) [bI (frT l)]:=by
    cases hb:frOk (n:Int) l with
    | true=>rw [hb] at c20; exact rg_b_0 (F:=prRg) n (l.map encT) kk [] 0 _ (y8:=Ud) (y10:=Ud) (y11:=Ud) (y12:=Ud) (y14:=Ud) (y15:=Ud) (y16:=Ud) c20
    | false=>rw [hb] at c20; exact rg_b_1 (F:=prRg) n (l.map encT) kk [] 0 _ (y8:=Ud) (y10:=Ud) (y11:=Ud) (y12:=Ud) (y14:=Ud) (y15:=Ud) (y16:=Ud) c20
  have c47:=at1 (pol':=plF prRg) (g:=47) (c1:=kS) (f:=fun l=>if l.length ≤ 500 then some (.own 1 ((ordT l).map encI)) else none) (H:=[bI (frT l)]) (by kernel_rfl) (ShS_imm _ l) (if_pos (by omega))
  rw [recv_ints,ordT_len] at c47
  have c:=rg_c_0 (F:=prRg) n (l.map encT) kk [bI (frT l)] 0 (frT l).length 1 l.length (y10:=Ud) (y11:=Ud) (y12:=Ud) (y14:=Ud) (y15:=Ud) (y16:=Ud) c47
  have d:=rg_d_0 (F:=prRg) n (l.map encT) kk [bI (frT l),bI (ordT l)] 0 (frT l).length 1 l.length (y11:=Ud) (y12:=Ud) (y14:=Ud) (y15:=Ud) (y16:=Ud) rfl
  have e:=rg_e_0 (F:=prRg) n (l.map encT) kk [bI (frT l),bI (ordT l),bI []] 0 (frT l).length 1 l.length 2 0 (y12:=Ud) (y14:=Ud) (y15:=Ud) (y16:=Ud)
  have hol:=ordT_len l
  have hfl:=frT_le l
  have hkl:∀ i,(kp l i).length ≤ l.length:=fun i=>by
    obtain ⟨r,hr⟩:=kp_all l i
    have:=fr_len l
    rw [hr,List.length_append] at this
    omega
  obtain ⟨j,hj1,hj2,hj3,hj4⟩:=kp_stop l k
  have r:=count (pol':=plF prRg) (f:=38) (E:=fun i=>(env38 (.int .i64 (n:Int)) (.imm .arg 3 (l.map encT)) (.int .i64 kk) (.imm .lit 1 []) (.int .i64 0) (.sl 0 0 (frT l).length none (frT l).length 1) (.sl 1 0 l.length none l.length 1) (.sl 2 0 (kp l i).length none (kp l i).length 1) (.int .i64 (i:Int)) Ud Ud Ud)) (Hs:=fun i=>[bI (frT l),bI (ordT l),bI (kp l i)]) j
    (E0:=fun i=>(env38 (.int .i64 (n:Int)) (.imm .arg 3 (l.map encT)) (.int .i64 kk) (.imm .lit 1 []) (.int .i64 0) (.sl 0 0 (frT l).length none (frT l).length 1) (.sl 1 0 l.length none l.length 1) (.sl 2 0 (kp l (i+1)).length none (kp l (i+1)).length 1) (.int .i64 ((i+1:Nat):Int)) Ud Ud Ud)) (H1:=fun i=>[bI (frT l),bI (ordT l),bI (kp l (i+1))]) (x:=.exit 0)
    (fun i hi=>by
      have hil:i < l.length:=by omega
      have ix:=idxS (b:=1) (cap:=none) (len:=l.length) u24 z3 hil
      have ld:=load_out (H:=[bI (frT l),bI (ordT l),bI (kp l i)]) (k:=1) (o:=ordT l) rfl (y:=i) (by omega)
      rw [hol] at ld
      have c51:=at2 (pol':=plF prRg) (g:=51) (c1:=kL) (c2:=kI) (f:=fun l x=>if l.length ≤ 1000 then some (.bool (decide (x ∈ l))) else none) (H:=[bI (frT l),bI (ordT l),bI (kp l i)]) (by kernel_rfl) (ShL_sl (b:=0) (l:=frT l) rfl rfl) (ShI _ ((ordT l).getD i 0)) (if_pos (by omega))
      have hkk:=hkl i
      have hks:=kp_succ hil
      have hlt:((kp l i).length:Int) < IntKind.i64.wrap ((n:Int) - kk):=by rw [hw]; have:=hj2 i hi; omega
      by_cases cm:(ordT l).getD i 0 ∈ frT l
      · rw [decide_eq_true cm] at c51
        rw [if_pos cm] at hks
        have ap:=app_in1 (H:=[bI (frT l),bI (ordT l),bI (kp l i)]) (b:=2) (o:=kp l i) rfl (by omega) ((ordT l).getD i 0)
        rw [← hks] at ap
        have s:=rg_l_0 (F:=prRg) n (l.map encT) kk [bI (frT l),bI (ordT l),bI (kp l i)] 0 (frT l).length 1 l.length 2 (kp l i).length i ((ordT l).getD i 0) (y14:=Ud) (y15:=Ud) (y16:=Ud) (by omega) hlt ix ld c51 ix ld ap
        have el:(kp l (i+1)).length=(kp l i).length+1:=by rw [hks]; simp
        rw [wrap_succ (by omega),← el] at s
        exact s
      · rw [decide_eq_false cm] at c51
        rw [if_neg cm,List.append_nil] at hks
        have s:=rg_l_1 (F:=prRg) n (l.map encT) kk [bI (frT l),bI (ordT l),bI (kp l i)] 0 (frT l).length 1 l.length 2 (kp l i).length i ((ordT l).getD i 0) (y14:=Ud) (y15:=Ud) (y16:=Ud) (by omega) hlt ix ld c51
        rw [wrap_succ (by omega)] at s
        rw [hks]
        exact s) (fun i _=>by kernel_rfl) (fun i _=>gc_eq _ rfl) (E':=(env38 (.int .i64 (n:Int)) (.imm .arg 3 (l.map encT)) (.int .i64 kk) (.imm .lit 1 []) (.int .i64 0) (.sl 0 0 (frT l).length none (frT l).length 1) (.sl 1 0 l.length none l.length 1) (.sl 2 0 (kp l j).length none (kp l j).length 1) (.int .i64 (j:Int)) Ud Ud Ud)) (H':=[bI (frT l),bI (ordT l),bI (kp l j)]) (by
        by_cases cj:j < l.length
        · exact rg_l_2 (F:=prRg) n (l.map encT) kk [bI (frT l),bI (ordT l),bI (kp l j)] 0 (frT l).length 1 l.length 2 (kp l j).length j 0 (y14:=Ud) (y15:=Ud) (y16:=Ud) (by omega) (by rw [hw]; omega)
        · exact rg_l_3 (F:=prRg) n (l.map encT) kk [bI (frT l),bI (ordT l),bI (kp l j)] 0 (frT l).length 1 l.length 2 (kp l j).length j 0 (y14:=Ud) (y15:=Ud) (y16:=Ud) (by omega)) (by simp) (c:=sub [1,1,1,1,0,1,0] B38) (by kernel_rfl) (fun i _=>by kernel_rfl)
  have htt:∀ x ∈ (treeT l).take k,0 ≤ x∧x < (l.length:Int):=fun x hx=>tree_in (List.mem_of_mem_take hx)
  rw [hj4] at r
  generalize hT:(treeT l).take k=T at *
  have hTl:T.length ≤ l.length:=by rw [← hj4]; exact hkl j
  have c50:=at3 (pol':=plF prRg) (g:=50) (c1:=kI) (c2:=kS) (c3:=kL) (f:=fun n l t=>if (0 ≤ n∧n ≤ 16)∧endN n l=true∧inR l.length t=true∧t.length ≤ 500∧l.length ≤ 500 then some (.tuple [.own 1 ((selT l t).map encI),.own 1 ((grpT n.toNat l t).map encI)]) else none) (H:=[bI (frT l),bI (ordT l),bI T]) (by kernel_rfl) (ShI _ (n:Int)) (ShS_imm _ l) (ShL_sl (b:=2) (l:=T) rfl rfl) (if_pos ⟨by omega,he,inR_iff.2 htt,by omega,by omega⟩)
  rw [recv_ll,Int.toNat_natCast] at c50
  have hln:(grpT n l T).length=n:=grpT_len (by omega) heB htt
  generalize hgr:grpT n l T=gr at *
  rw [hln,show ([bI (frT l),bI (ordT l),bI T] ++ [bI (selT l T)] ++ [bI gr]:Heap)=[bI (frT l),bI (ordT l),bI T,bI (selT l T),bI gr] from rfl,show ([bI (frT l),bI (ordT l),bI T]:Heap).length+1=4 from rfl] at c50
  have f:=rg_f_0 (F:=prRg) n (l.map encT) kk [bI (frT l),bI (ordT l),bI T] 0 (frT l).length 1 l.length 2 T.length _ _ _ n (y12:=.int .i64 (j:Int)) (y14:=Ud) (y15:=Ud) (y16:=Ud) c50
  have g:=rg_g_0 (F:=prRg) n (l.map encT) kk [bI (frT l),bI (ordT l),bI T,bI (selT l T),bI gr] 4 n (y8:=.sl 0 0 (frT l).length none (frT l).length 1) (y10:=.sl 1 0 l.length none l.length 1) (y11:=.sl 2 0 T.length none T.length 1) (y12:=.int .i64 (j:Int)) (y15:=Ud) (y16:=Ud)
  have hh:=rg_h_0 (F:=prRg) n (l.map encT) kk [bI (frT l),bI (ordT l),bI T,bI (selT l T),bI gr] 4 n (-1) (y8:=.sl 0 0 (frT l).length none (frT l).length 1) (y10:=.sl 1 0 l.length none l.length 1) (y11:=.sl 2 0 T.length none T.length 1) (y12:=.int .i64 (j:Int)) (y16:=Ud)
  generalize hH:[bI (frT l),bI (ordT l),bI T,bI (selT l T),bI gr]=H at *
  have hH4:H[4]?=some (bI gr):=by rw [← hH]; rfl
  have r2:=count (pol':=plF prRg) (f:=38) (E:=fun i=>(env38 (.int .i64 (n:Int)) (.imm .arg 3 (l.map encT)) (.int .i64 kk) (.imm .lit 1 []) (.int .i64 0) Ud Ud Ud Ud (.sl 4 0 n none n 1) (.int .i64 (mnT gr (l.take i))) (.int .i64 (i:Int)))) (Hs:=fun i=>H) l.length
    (E0:=fun i=>(env38 (.int .i64 (n:Int)) (.imm .arg 3 (l.map encT)) (.int .i64 kk) (.imm .lit 1 []) (.int .i64 0) Ud Ud Ud Ud (.sl 4 0 n none n 1) (.int .i64 (mnT gr (l.take (i+1)))) (.int .i64 ((i+1:Nat):Int)))) (H1:=fun i=>H)
    (fun i hi=>by
      have g2:=gs (l:=l) (y:=i) hi
      have hm:=mnT_succ gr l hi
      have hse:=endN_iff.1 he _ (mem_getD (0,0,0) hi)
      generalize l.getD i (0,0,0)=s at *
      obtain ⟨⟨sa1,sa2⟩,sb1,sb2⟩:=hse
      have lx:=load_out hH4 (y:=s.1.toNat) (by omega)
      have ly:=load_out hH4 (y:=s.2.1.toNat) (by omega)
      rw [hln] at lx ly
      have hil:(i:Int) < ((l.map encT).length:Int):=by rw [List.length_map]; omega
      rw [hm,mnS]
      by_cases cx:gr.getD s.1.toNat 0=gr.getD s.2.1.toNat 0
      · rw [if_neg (fun h=>h.1 cx)]
        have s1:=rg_k_0 (F:=prRg) n (l.map encT) kk H 4 n i (mnT gr (l.take i)) s.1 s.2.1 s.2.2 _ _ (y8:=Ud) (y10:=Ud) (y11:=Ud) (y12:=Ud) hil g2 (idxU ⟨sa1,sa2⟩) lx g2 (idxU ⟨sb1,sb2⟩) ly cx
        rw [wrap_succ (by omega)] at s1
        exact s1
      by_cases cg:mnT gr (l.take i) < 0
      · rw [if_pos ⟨cx,.inl cg⟩]
        have s1:=rg_k_1 (F:=prRg) n (l.map encT) kk H 4 n i (mnT gr (l.take i)) s.1 s.2.1 s.2.2 _ _ (y8:=Ud) (y10:=Ud) (y11:=Ud) (y12:=Ud) hil g2 (idxU ⟨sa1,sa2⟩) lx g2 (idxU ⟨sb1,sb2⟩) ly cx cg g2
        rw [wrap_succ (by omega)] at s1
        exact s1
      by_cases cw:s.2.2 < mnT gr (l.take i)
      · rw [if_pos ⟨cx,.inr cw⟩]
        have s1:=rg_k_2 (F:=prRg) n (l.map encT) kk H 4 n i (mnT gr (l.take i)) s.1 s.2.1 s.2.2 _ _ (y8:=Ud) (y10:=Ud) (y11:=Ud) (y12:=Ud) hil g2 (idxU ⟨sa1,sa2⟩) lx g2 (idxU ⟨sb1,sb2⟩) ly cx cg g2 cw g2
        rw [wrap_succ (by omega)] at s1
        exact s1
      · rw [if_neg (fun h=>h.2.elim cg cw)]
        have s1:=rg_k_3 (F:=prRg) n (l.map encT) kk H 4 n i (mnT gr (l.take i)) s.1 s.2.1 s.2.2 _ _ (y8:=Ud) (y10:=Ud) (y11:=Ud) (y12:=Ud) hil g2 (idxU ⟨sa1,sa2⟩) lx g2 (idxU ⟨sb1,sb2⟩) ly cx cg g2 cw
        rw [wrap_succ (by omega)] at s1
        exact s1) (fun i _=>by kernel_rfl) (fun i _=>gc_eq _ rfl) (rg_k_4 (F:=prRg) n (l.map encT) kk H 4 n l.length (mnT gr (l.take l.length)) 0 0 0 0 0 (y8:=Ud) (y10:=Ud) (y11:=Ud) (y12:=Ud) (by rw [List.length_map]; omega)) (by simp) (c:=sub [1,1,1,1,1,1,1,0,1,0] B38) (by kernel_rfl) (fun i _=>by kernel_rfl)
  rw [List.take_of_length_le (Nat.le_refl _)] at r2
  have z:=rg_z_0 (F:=prRg) n (l.map encT) kk H 4 n (mnT gr l) (y16:=.int .i64 (l.length:Int)) (y8:=Ud) (y10:=Ud) (y11:=Ud) (y12:=Ud)
  refine ⟨_,_,_,.tuple [.sl 4 0 n none n 1,.int .i64 (mnT gr l)],sq (a) (sq (b) (sq (c) (sq (d) (sq (sq (e) (bke (c:=sub [1,1,1,1,0,1] B38) (r)) (c:=sub [1,1,1,1,0] B38)) (sq (f) (sq (g) (sq (sq (hh) (bke (c:=sub [1,1,1,1,1,1,1,0,1] B38) (lpi (e0:=(env38 (.int .i64 (n:Int)) (.imm .arg 3 (l.map encT)) (.int .i64 kk) (.imm .lit 1 []) (.int .i64 0) (.sl 0 0 (frT l).length none (frT l).length 1) (.sl 1 0 l.length none l.length 1) (.sl 2 0 T.length none T.length 1) (.int .i64 (j:Int)) (.sl 4 0 n none n 1) (.int .i64 (-1)) (.int .i64 ((0:Nat):Int)))) r2 (b:=sub [1,1,1,1,1,1,1,0,1,0,0] B38))) (c:=sub [1,1,1,1,1,1,1,0] B38)) (z) (c:=sub [1,1,1,1,1,1,1] B38)) (c:=sub [1,1,1,1,1,1] B38)) (c:=sub [1,1,1,1,1] B38)) (c:=sub [1,1,1,1] B38)) (c:=sub [1,1,1] B38)) (c:=sub [1,1] B38)) (c:=sub [1] B38)) (c:=B38),by simp,by simp only [resultsV,res38]; rfl,?_⟩
  exact res_li1 hH4 hln _
end Go.Proofs.Ytiejmoglooaalaa
end
section
open Go Go.HL
namespace Go.Proofs.Ytiejmoglooaalaa
open Go.Proofs.Try renaming prog → Tp
open Go.HL.HV renaming undef → Ud
def prAw:FuncId → Option (List HV → Option HV):=fun g=>if g == 21 then some ints21 else if g == 52 then some within52 else if g == 54 then some ordered54 else if g == 40 then some tree40 else if g == 71 then some cmp71 else if g == 70 then some fst70 else none
theorem soundAw (n:Nat):CallSound Tp (callN Tp (plF prAw) n):=sound_prim _ (fun g f h=>by
  unfold prAw at h
  split at h
  · rename_i hg; cases h; rw [eq_of_beq hg]; exact ints_ok
  split at h
  · rename_i hg; cases h; rw [eq_of_beq hg]; exact within_ok
  split at h
  · rename_i hg; cases h; rw [eq_of_beq hg]; exact ordered_ok
  split at h
  · rename_i hg; cases h; rw [eq_of_beq hg]; exact tree_ok
  split at h
  · rename_i hg; cases h; rw [eq_of_beq hg]; exact cmp_ok
  split at h
  · rename_i hg; cases h; rw [eq_of_beq hg]; exact fst_ok
  · cases h) n
set_option maxRecDepth 100000 in
theorem awake_run:callN Tp (plF prAw) 400 18 [] []=some (.bool true,[]):=by kernel_rfl
end Go.Proofs.Ytiejmoglooaalaa
end
section
open Go Go.HL
namespace Go.Proofs.Ytiejmoglooaalaa
open Go.Proofs.Try renaming prog → Tp
open Go.HL.HV renaming undef → Ud
def awakeF:List HV → Option HV | []=>some (.bool true) | _=>none
theorem awake_prim:PrimOk Tp 18 awakeF:=by
  refine primOk_of (pol:=plF prAw) soundAw (by kernel_rfl) fun args res h=>?_
  match args,h with
  | [],h =>
    cases h
    exact ⟨400,_,_,false,awake_run,rfl⟩
theorem awake_at {pol':Pol} (hp:pol'.prim 18=some awakeF) (H:Heap):∀ k,callN Tp pol' (k+1) 18 [] H=some (.bool true,H):=fun k=>by
  rw [prim_call (pol:=pol') (g:=18) (F:=awakeF) hp (rs:=[]) rfl (res:=.bool true) rfl]; rfl
theorem recv_lii (l:List Int) (m e:Int) (H:Heap):recv (.tuple [.own 1 (l.map encI),.int .i64 m,.int .i64 e]) H=(.tuple [.sl H.length 0 l.length none l.length 1,.int .i64 m,.int .i64 e],H ++ [bI l]):=by
  have h:recvCell (.own 1 (l.map encI)) H=(.sl H.length 0 l.length none l.length 1,H ++ [bI l]):=by
    simp only [recvCell,encI_any,List.length_map]; rfl
  simp only [recv,recvVals,recvVal,h]; rfl
theorem recv_li1 (l:List Int) (m:Int) (H:Heap):recv (.tuple [.own 1 (l.map encI),.int .i64 m]) H=(.tuple [.sl H.length 0 l.length none l.length 1,.int .i64 m],H ++ [bI l]):=by
  have h:recvCell (.own 1 (l.map encI)) H=(.sl H.length 0 l.length none l.length 1,H ++ [bI l]):=by
    simp only [recvCell,encI_any,List.length_map]; rfl
  simp only [recv,recvVals,recvVal,h]; rfl
def prL12:FuncId → Option (List HV → Option HV):=fun g=>if g == 18 then some awakeF else if g == 13 then some net13 else if g == 17 then some rnet17 else if g == 20 then some first20 else if g == 21 then some ints21 else if g == 27 then some narrow27 else if g == 29 then some rnarrow29 else if g == 33 then some groups33 else if g == 38 then some rgroups38 else none
theorem soundL12 (n:Nat):CallSound Tp (callN Tp (plF prL12) n):=sound_prim _ (fun g f h=>by
  unfold prL12 at h
  split at h
  · rename_i hg; cases h; rw [eq_of_beq hg]; exact awake_prim
  split at h
  · rename_i hg; cases h; rw [eq_of_beq hg]; exact net_ok
  split at h
  · rename_i hg; cases h; rw [eq_of_beq hg]; exact rnet_ok
  split at h
  · rename_i hg; cases h; rw [eq_of_beq hg]; exact first_ok
  split at h
  · rename_i hg; cases h; rw [eq_of_beq hg]; exact ints_ok
  split at h
  · rename_i hg; cases h; rw [eq_of_beq hg]; exact narrow_ok
  split at h
  · rename_i hg; cases h; rw [eq_of_beq hg]; exact rnarrow_ok
  split at h
  · rename_i hg; cases h; rw [eq_of_beq hg]; exact groups_ok
  split at h
  · rename_i hg; cases h; rw [eq_of_beq hg]; exact rgroups_ok
  · cases h) n
theorem res12:Try.f12.results.toList=[.tmp 6]:=by kernel_rfl
abbrev polL12:Pol:=plF prL12
theorem streetsGroups_law (n:Int) (l:List St) (u v kk:Int):∃ E H,RT polL12 12 B12 (args0 [.int .i64 n,.imm .arg 3 (l.map encT),.agg [.int .i64 u,.int .i64 v,.int .i64 kk]]) [] .ret E H∧E.get 6=.bool true:=by
  have a:=lg_a_0 (F:=prL12) n (l.map encT) u v kk
  have c13:=at1 (pol':=plF prL12) (g:=13) (c1:=kS) (f:=fun l=>some (.own 3 ((l.take 61).map encT))) (H:=[bT (u,v,kk)]) (by kernel_rfl) (ShS_imm _ l) rfl
  rw [recv_sts] at c13
  generalize hown:l.take 61=own at *
  have hol:own.length ≤ 61:=by rw [← hown,List.length_take]; omega
  have b:=lg_b_0 (F:=prL12) n (l.map encT) u v kk [bT (u,v,kk)] 1 own.length (y7:=Ud) (y8:=Ud) (y9:=Ud) (y10:=Ud) (y11:=Ud) (y12:=Ud) (y13:=Ud) (y14:=Ud) (y15:=Ud) (y16:=Ud) (y17:=Ud) (y19:=Ud) (y20:=Ud) (y21:=Ud) c13
  have hb0:([bT (u,v,kk),bS own]:Heap)[0]?=some (bT (u,v,kk)):=rfl
  have c:=lg_c_0 (F:=prL12) n (l.map encT) u v kk [bT (u,v,kk),bS own] 1 own.length u v kk (y8:=Ud) (y9:=Ud) (y10:=Ud) (y11:=Ud) (y12:=Ud) (y13:=Ud) (y14:=Ud) (y15:=Ud) (y16:=Ud) (y17:=Ud) (y19:=Ud) (y20:=Ud) (y21:=Ud) (ldT hb0 0 u rfl) (ldT hb0 1 v rfl) (ldT hb0 2 kk rfl)
  have sS:∀ X:Heap,Sh kS ([bT (u,v,kk),bS own] ++ X) (.sl 1 0 own.length none own.length 3) own:=fun X=>ShS_sl rfl rfl
  have c27:=at4 (pol':=plF prL12) (g:=27) (c1:=kI) (c2:=kS) (c3:=kI) (c4:=kI) (f:=fun n l u v=>if l.length ≤ 500 then some (.tuple [.int .i64 (narT n l u v).1,.int .i64 (narT n l u v).2]) else none) (H:=[bT (u,v,kk),bS own]) (by kernel_rfl) (ShI _ n) (sS []) (ShI _ u) (ShI _ v) (if_pos (by omega))
  have d:=lg_d_0 (F:=prL12) n (l.map encT) u v kk [bT (u,v,kk),bS own] 1 own.length u v kk (narT n own u v).1 (narT n own u v).2 (y11:=Ud) (y12:=Ud) (y13:=Ud) (y14:=Ud) (y15:=Ud) (y16:=Ud) (y17:=Ud) (y19:=Ud) (y20:=Ud) (y21:=Ud) c27
  have c33:=at3 (pol':=plF prL12) (g:=33) (c1:=kI) (c2:=kS) (c3:=kI) (f:=fun n l kk=>if l.length ≤ 500 then some (gpO n l kk) else none) (H:=[bT (u,v,kk),bS own]) (by kernel_rfl) (ShI _ n) (sS []) (ShI _ kk) (if_pos (by omega))
  rw [gpO,recv_lii] at c33
  have e:=lg_e_0 (F:=prL12) n (l.map encT) u v kk [bT (u,v,kk),bS own] 1 own.length u v kk (narT n own u v).1 (narT n own u v).2 2 (gpG n own kk).length (gpM n own kk) (gpE n own kk) (y13:=Ud) (y14:=Ud) (y15:=Ud) (y16:=Ud) (y17:=Ud) (y19:=Ud) (y20:=Ud) (y21:=Ud) c33
  generalize hH:[bT (u,v,kk),bS own] ++ [bI (gpG n own kk)]=H at *
  have sH:Sh kS H (.sl 1 0 own.length none own.length 3) own:=by rw [← hH]; exact sS _
  have c17:=at2 (pol':=plF prL12) (g:=17) (c1:=kI) (c2:=kS) (f:=fun n l=>if l.length ≤ 1000 then some (.bool (netB n l)) else none) (H:=H) (by kernel_rfl) (ShI _ n) sH (if_pos (by omega))
  have aw:∀ H,∀ k,callN Tp (plF prL12) (k+1) 18 [] H=some (.bool true,H):=fun H=>awake_at (by kernel_rfl) H
  cases hnet:netB n own with
  | false =>
    rw [hnet] at c17
    have e1:narT n own u v=(0,2):=if_neg (fun h=>by rw [hnet] at h; cases h.1)
    have e2:gpE n own kk=2:=if_neg (fun h=>by rw [hnet] at h; cases h.1)
    have e3:gpG n own kk=[]:=by rw [gpG,e2]; rfl
    have e4:gpM n own kk=0:=by rw [gpM,e2]; rfl
    have f:=lg_f_1 (F:=prL12) n (l.map encT) u v kk H 1 own.length u v kk (narT n own u v).1 (narT n own u v).2 2 (gpG n own kk).length (gpM n own kk) (gpE n own kk) (y16:=Ud) (y17:=Ud) (y19:=Ud) (y20:=Ud) (y21:=Ud) c17 (by rw [e1]) (by rw [e1]) (by rw [e3]; rfl) e4 e2 (aw H)
    exact ⟨_,_,sq (a) (sq (b) (sq (c) (sq (d) (sq (e) (sqo (f) (c:=sub [1,1,1,1,1] B12) (b:=sub [1,1,1,1,1,1] B12)) (c:=sub [1,1,1,1] B12)) (c:=sub [1,1,1] B12)) (c:=sub [1,1] B12)) (c:=sub [1] B12)) (c:=B12),rfl⟩
  | true =>
    rw [hnet] at c17
    obtain ⟨⟨n1,n2⟩,n3,he,_⟩:=netB_ends hnet
    have f:=lg_f_0 (F:=prL12) n (l.map encT) u v kk H 1 own.length u v kk (narT n own u v).1 (narT n own u v).2 2 (gpG n own kk).length (gpM n own kk) (gpE n own kk) (y16:=Ud) (y17:=Ud) (y19:=Ud) (y20:=Ud) (y21:=Ud) c17
    have g:∃ y16 y17,RunsTo Tp (plF prL12) 12 (sub [1,1,1,1,1,1,0] B12) ((env12 (.int .i64 n) (.imm .arg 3 (l.map encT)) (.agg [.int .i64 u,.int .i64 v,.int .i64 kk]) (.ptr 0 0 0 1) (.bool false) (.sl 1 0 own.length none own.length 3) (.int .i64 u) (.int .i64 v) (.int .i64 kk) (.int .i64 (narT n own u v).1) (.int .i64 (narT n own u v).2) (.sl 2 0 (gpG n own kk).length none (gpG n own kk).length 1) (.int .i64 (gpM n own kk)) (.int .i64 (gpE n own kk)) Ud Ud Ud Ud Ud)) H .normal ((plF prL12).keys 12) ((env12 (.int .i64 n) (.imm .arg 3 (l.map encT)) (.agg [.int .i64 u,.int .i64 v,.int .i64 kk]) (.ptr 0 0 0 1) (.bool false) (.sl 1 0 own.length none own.length 3) (.int .i64 u) (.int .i64 v) (.int .i64 kk) (.int .i64 (narT n own u v).1) (.int .i64 (narT n own u v).2) (.sl 2 0 (gpG n own kk).length none (gpG n own kk).length 1) (.int .i64 (gpM n own kk)) (.int .i64 (gpE n own kk)) y16 y17 Ud Ud Ud)) H:=by
      by_cases hu0:u < 0
      · have e1:narT n own u v=(0,2):=if_neg (fun h=>by omega)
        exact ⟨_,_,lg_g_0 (F:=prL12) n (l.map encT) u v kk H 1 own.length u v kk _ _ 2 _ (gpM n own kk) (gpE n own kk) 0 (y16:=Ud) (y17:=Ud) (y19:=Ud) (y20:=Ud) (y21:=Ud) hu0 (by rw [e1]) (by rw [e1])⟩
      by_cases hu1:n ≤ u
      · have e1:narT n own u v=(0,2):=if_neg (fun h=>by omega)
        exact ⟨_,_,lg_g_3 (F:=prL12) n (l.map encT) u v kk H 1 own.length u v kk _ _ 2 _ (gpM n own kk) (gpE n own kk) 0 (y16:=Ud) (y17:=Ud) (y19:=Ud) (y20:=Ud) (y21:=Ud) hu0 hu1 (by rw [e1]) (by rw [e1])⟩
      by_cases hv0:v < 0
      · have e1:narT n own u v=(0,2):=if_neg (fun h=>by omega)
        exact ⟨_,_,lg_g_6 (F:=prL12) n (l.map encT) u v kk H 1 own.length u v kk _ _ 2 _ (gpM n own kk) (gpE n own kk) 0 (y16:=Ud) (y17:=Ud) (y19:=Ud) (y20:=Ud) (y21:=Ud) hu0 hu1 hv0 (by rw [e1]) (by rw [e1])⟩
      by_cases hv1:n ≤ v
      · have e1:narT n own u v=(0,2):=if_neg (fun h=>by omega)
        exact ⟨_,_,lg_g_9 (F:=prL12) n (l.map encT) u v kk H 1 own.length u v kk _ _ 2 _ (gpM n own kk) (gpE n own kk) 0 (y16:=Ud) (y17:=Ud) (y19:=Ud) (y20:=Ud) (y21:=Ud) hu0 hu1 hv0 hv1 (by rw [e1]) (by rw [e1])⟩
      have hin:(0 ≤ u∧u < n)∧(0 ≤ v∧v < n):=by omega
      have e1:narT n own u v=narO own u v:=if_pos ⟨hnet,hin.1,hin.2⟩
      have c29:=at4 (pol':=plF prL12) (g:=29) (c1:=kI) (c2:=kS) (c3:=kI) (c4:=kI) (f:=fun n l u v=>if netB n l=true∧(0 ≤ u∧u < n)∧(0 ≤ v∧v < n) then some (.tuple [.int .i64 (rnarO l u v).1,.bool (rnarO l u v).2]) else none) (H:=H) (by kernel_rfl) (ShI _ n) sH (ShI _ u) (ShI _ v) (if_pos ⟨hnet,hin.1,hin.2⟩)
      cases hP:narP own u v with
      | some i =>
        have r1:narO own u v=(sW own i,0):=by rw [narO,hP]
        have r2:rnarO own u v=(sW own i,true):=by rw [rnarO,hP]
        rw [r2] at c29
        exact ⟨_,_,lg_g_12 (F:=prL12) n (l.map encT) u v kk H 1 own.length u v kk _ _ 2 _ (gpM n own kk) (gpE n own kk) (sW own i) (y16:=Ud) (y17:=Ud) (y19:=Ud) (y20:=Ud) (y21:=Ud) hu0 hu1 hv0 hv1 c29 (by rw [e1,r1]) (by rw [e1,r1])⟩
      | none =>
        have r1:narO own u v=(0,6):=by rw [narO,hP]
        have r2:rnarO own u v=(0,false):=by rw [rnarO,hP]
        rw [r2] at c29
        exact ⟨_,_,lg_g_15 (F:=prL12) n (l.map encT) u v kk H 1 own.length u v kk _ _ 2 _ (gpM n own kk) (gpE n own kk) 0 (y16:=Ud) (y17:=Ud) (y19:=Ud) (y20:=Ud) (y21:=Ud) hu0 hu1 hv0 hv1 c29 (by rw [e1,r1]) (by rw [e1,r1])⟩
    obtain ⟨y16,y17,g⟩:=g
    have bad:∀ x,gpE n own kk=x → x ≠ 0 → gpG n own kk=[]∧gpM n own kk=0:=fun x h1 h2=>by
      subst h1; exact ⟨if_neg h2,if_neg h2⟩
    by_cases hk1:kk < 1
    · have e2:gpE n own kk=2:=if_neg (fun h=>by omega)
      obtain ⟨e3,e4⟩:=bad _ e2 (by decide)
      have h:=lg_h_0 (F:=prL12) n (l.map encT) u v kk H 1 own.length u v kk (narT n own u v).1 (narT n own u v).2 2 (gpG n own kk).length (gpM n own kk) (gpE n own kk) (y16:=y16) (y17:=y17) (y19:=Ud) (y20:=Ud) (y21:=Ud) hk1 (by rw [e3]; rfl) e4 e2 (aw H)
      exact ⟨_,_,sq (a) (sq (b) (sq (c) (sq (d) (sq (e) (sq (f) (sq (g) (sqo (h) (c:=sub [1,1,1,1,1,1,1] B12) (b:=sub [1,1,1,1,1,1,1,1] B12)) (c:=sub [1,1,1,1,1,1] B12)) (c:=sub [1,1,1,1,1] B12)) (c:=sub [1,1,1,1] B12)) (c:=sub [1,1,1] B12)) (c:=sub [1,1] B12)) (c:=sub [1] B12)) (c:=B12),rfl⟩
    by_cases hk2:n < kk
    · have e2:gpE n own kk=2:=if_neg (fun h=>by omega)
      obtain ⟨e3,e4⟩:=bad _ e2 (by decide)
      have h:=lg_h_4 (F:=prL12) n (l.map encT) u v kk H 1 own.length u v kk (narT n own u v).1 (narT n own u v).2 2 (gpG n own kk).length (gpM n own kk) (gpE n own kk) (y16:=y16) (y17:=y17) (y19:=Ud) (y20:=Ud) (y21:=Ud) hk1 hk2 (by rw [e3]; rfl) e4 e2 (aw H)
      exact ⟨_,_,sq (a) (sq (b) (sq (c) (sq (d) (sq (e) (sq (f) (sq (g) (sqo (h) (c:=sub [1,1,1,1,1,1,1] B12) (b:=sub [1,1,1,1,1,1,1,1] B12)) (c:=sub [1,1,1,1,1,1] B12)) (c:=sub [1,1,1,1,1] B12)) (c:=sub [1,1,1,1] B12)) (c:=sub [1,1,1] B12)) (c:=sub [1,1] B12)) (c:=sub [1] B12)) (c:=B12),rfl⟩
    have h:=lg_h_8 (F:=prL12) n (l.map encT) u v kk H 1 own.length u v kk (narT n own u v).1 (narT n own u v).2 2 (gpG n own kk).length (gpM n own kk) (gpE n own kk) (y16:=y16) (y17:=y17) (y19:=Ud) (y20:=Ud) (y21:=Ud) hk1 hk2
    have c20:=at2 (pol':=plF prL12) (g:=20) (c1:=kI) (c2:=kS) (f:=fun n l=>if (0 ≤ n∧n ≤ 16)∧endN n l=true∧l.length ≤ 500 then some (.tuple [.own 1 ((frT l).map encI),.bool (frOk n l)]) else none) (H:=H) (by kernel_rfl) (ShI _ n) sH (if_pos ⟨by omega,he,by omega⟩)
    rw [recv_tb,frOk_eq] at c20
    by_cases cn:connB n own=true
    case neg =>
      rw [nb_false cn] at c20
      have e2:gpE n own kk=6:=by rw [gpE,if_pos ⟨hnet,by omega⟩,if_neg cn]
      obtain ⟨e3,e4⟩:=bad _ e2 (by decide)
      have i:=lg_i_1 (F:=prL12) n (l.map encT) u v kk H 1 own.length u v kk (narT n own u v).1 (narT n own u v).2 2 (gpG n own kk).length (gpM n own kk) (gpE n own kk) _ _ (y16:=y16) (y17:=y17) (y19:=Ud) (y20:=Ud) (y21:=Ud) c20 (by rw [e3]; rfl) e4 e2 (aw _)
      exact ⟨_,_,sq (a) (sq (b) (sq (c) (sq (d) (sq (e) (sq (f) (sq (g) (sq (h) (sqo (i) (c:=sub [1,1,1,1,1,1,1,1] B12) (b:=sub [1,1,1,1,1,1,1,1,1] B12)) (c:=sub [1,1,1,1,1,1,1] B12)) (c:=sub [1,1,1,1,1,1] B12)) (c:=sub [1,1,1,1,1] B12)) (c:=sub [1,1,1,1] B12)) (c:=sub [1,1,1] B12)) (c:=sub [1,1] B12)) (c:=sub [1] B12)) (c:=B12),rfl⟩
    rw [cn] at c20
    have e2:gpE n own kk=0:=by rw [gpE,if_pos ⟨hnet,by omega⟩,if_pos cn]
    have e3:gpG n own kk=gpT n own kk:=if_pos e2
    have e4:gpM n own kk=mnT (gpT n own kk) own:=if_pos e2
    have i:=lg_i_0 (F:=prL12) n (l.map encT) u v kk H 1 own.length u v kk (narT n own u v).1 (narT n own u v).2 2 (gpG n own kk).length (gpM n own kk) (gpE n own kk) _ _ (y16:=y16) (y17:=y17) (y19:=Ud) (y20:=Ud) (y21:=Ud) c20
    have c38:=at3 (pol':=plF prL12) (g:=38) (c1:=kI) (c2:=kS) (c3:=kI) (f:=fun n l kk=>if netB n l=true∧1 ≤ kk∧kk ≤ n then some (.tuple [.own 1 ((gpT n l kk).map encI),.int .i64 (mnT (gpT n l kk) l)]) else none) (H:=H ++ [bI (frT own)]) (by kernel_rfl) (ShI _ n) (by rw [← hH,List.append_assoc]; exact sS _) (ShI _ kk) (if_pos ⟨hnet,by omega⟩)
    rw [recv_li1] at c38
    have hlen:(gpT n own kk).length ≤ 16:=by
      have hm:(gpT n own kk).length=n.toNat:=grpT_len (by omega) (endN_B he (by omega)) fun k hk=>tree_in (List.mem_of_mem_take hk)
      omega
    have hl2:(H ++ [bI (frT own)])[(H ++ [bI (frT own)]).length]?=none:=List.getElem?_eq_none (Nat.le_refl _)
    have c21:=at2 (pol':=plF prL12) (g:=21) (c1:=kL) (c2:=kL) (f:=fun a b=>if a.length ≤ 1000 then some (.bool (decide (a=b))) else none) (H:=H ++ [bI (frT own)] ++ [bI (gpT n own kk)]) (v1:=.sl 2 0 (gpG n own kk).length none (gpG n own kk).length 1) (v2:=.sl (H ++ [bI (frT own)]).length 0 (gpT n own kk).length none (gpT n own kk).length 1) (x:=gpG n own kk) (y:=gpT n own kk) (by kernel_rfl) (ShL_sl rfl (by rw [← hH]; rfl)) (ShL_sl rfl (get_x _ _)) (if_pos (by rw [e3]; omega))
    rw [decide_eq_true e3] at c21
    have z:=lg_z_0 (F:=prL12) n (l.map encT) u v kk (H ++ [bI (frT own)]) 1 own.length u v kk (narT n own u v).1 (narT n own u v).2 2 (gpG n own kk).length (gpM n own kk) (gpE n own kk) _ _ _ (y16:=y16) (y17:=y17) (y19:=.bool true) (y20:=Ud) (y21:=Ud) c38 c21 e4 e2 (aw _)
    exact ⟨_,_,sq (a) (sq (b) (sq (c) (sq (d) (sq (e) (sq (f) (sq (g) (sq (h) (sq (i) (z) (c:=sub [1,1,1,1,1,1,1,1] B12)) (c:=sub [1,1,1,1,1,1,1] B12)) (c:=sub [1,1,1,1,1,1] B12)) (c:=sub [1,1,1,1,1] B12)) (c:=sub [1,1,1,1] B12)) (c:=sub [1,1,1] B12)) (c:=sub [1,1] B12)) (c:=sub [1] B12)) (c:=B12),rfl⟩
end Go.Proofs.Ytiejmoglooaalaa
end
section
namespace Go.HL
open Go.ChangeShapes Go.WideShapes Go.ChangeAt Go.RowKit Go.Deep
theorem okNil (w:World) (r:Nat):okOf Ctx.nil w.heap.size false r:=by
  refine ⟨fun hM=>?_,by simp⟩
  obtain ⟨b,y,h1,_,_⟩:=M_iff.1 hM
  simp [Ctx.nil] at h1
theorem cell_lt {w:World} {a:Addr} {v:Value} (h:w.cell? a=some v):a.block < w.heap.size:=by
  rcases Nat.lt_or_ge a.block w.heap.size with hl | hl
  · exact hl
  · have:w.heap[a.block]?=none:=by simp [hl]
    simp [World.cell?,this] at h
end Go.HL
end
section
namespace Go.HL
open Go.ChangeShapes Go.WideShapes Go.ChangeAt Go.RowKit Go.Deep
abbrev encTr (s:Int × Int × Int):HV:=.agg [.int .i64 s.1,.int .i64 s.2.1,.int .i64 s.2.2]
theorem arg_trips_ok {H:Type} {enc:TypeId × Value → H} {P:Program} {W:World} {base:Nat} {t e q:TypeId} {v:Value} {d:DataW H} {ps:List MemPlace} {f0 f1 f2:Field} (ht:P.underlying t=some (.slice e)) (he:P.underlying e=some (.struct #[f0,f1,f2])) (t0:f0.type=q) (t1:f1.type=q) (t2:f2.type=q) (o0:f0.offset=0) (o1:f1.offset=1) (o2:f2.offset=2) (hq:P.underlying q=some (.int .i64)) (ce:P.cellsOf e=3) (cq:P.cellsOf q=1)
    (hval:Value.okWide P W .any base t v) (hd:DataW.Trod enc P W 0 (fun _=>true) true t v d ps):∃ l:List (Int × Int × Int),V W (okOf Ctx.nil W.heap.size) Ctx.nil (.imm .arg 3 (l.map encTr)) v:=by
  obtain ⟨a,len,cap,rfl⟩:=okWide_slice ht hval
  obtain ⟨fuel,hf⟩:=hd
  rcases open_slice ht hf with ⟨h0,_⟩ | ⟨a',len',cap',m,n,D,Pl,h0,hb,hl,hm,hmm,hx,hel⟩
  · simp [Value.cells] at h0
    obtain ⟨rfl,rfl,rfl⟩:=h0
    exact ⟨[],.imm .arg 3 [] none 0 (fun _=>.bool false) (by simp) (by simp) (by simp) (by simp) (by simp) (by simp)⟩
  · simp [Value.cells] at h0
    obtain ⟨rfl,rfl,rfl⟩:=h0
    have hlm:len ≤ m:=by rw [hmm]; split <;> omega
    have each:∀ i,i < len → ∃ p:Int × Int × Int,W.cell? (a'.add (i * 3))=some (.int .i64 p.1)∧W.cell? (a'.add (i * 3+1))=some (.int .i64 p.2.1)∧W.cell? (a'.add (i * 3+2))=some (.int .i64 p.2.2):=by
      intro i hi
      obtain ⟨cs',h1,h2⟩:=hel i (by omega)
      rw [ce] at h1
      obtain ⟨_,hlen,hcell⟩:=World.cells?_some h1
      obtain ⟨y0,y1,y2,k,_,_,g0,g1,g2⟩:=trod_struct3 he h2
      rw [t0,o0,cq] at g0
      rw [t1,o1,cq] at g1
      rw [t2,o2,cq] at g2
      match cs',hlen with
      | [v0,v1,v2],_ =>
        simp at g0 g1 g2
        obtain ⟨z0,e0,_,_⟩:=DataW.trod_int hq g0
        obtain ⟨z1,e1,_,_⟩:=DataW.trod_int hq g1
        obtain ⟨z2,e2,_,_⟩:=DataW.trod_int hq g2
        simp at e0 e1 e2
        subst e0; subst e1; subst e2
        have c0:=hcell 0 (by omega)
        have c1:=hcell 1 (by omega)
        have c2:=hcell 2 (by omega)
        rw [add_add] at c0 c1 c2
        exact ⟨(z0,z1,z2),by simpa using c0,by simpa using c1,by simpa using c2⟩
    obtain ⟨f,hf⟩:=choose_lt each
    refine ⟨(List.range len).map f,?_⟩
    have hlen:(((List.range len).map f).map encTr).length=len:=by simp
    have key:=V.imm (w:=W) (ok:=okOf Ctx.nil W.heap.size) (c:=Ctx.nil) .arg 3 (((List.range len).map f).map encTr) (some a') cap (fun j=>if j % 3=0 then .int .i64 (f (j / 3)).1 else if j % 3=1 then .int .i64 (f (j / 3)).2.1 else .int .i64 (f (j / 3)).2.2)
      (by rw [hlen]; exact hl) (by simp) ?_ ?_ ?_ ?_
    · rw [hlen] at key; exact key
    · intro hne
      have h0:0 < len:=by
        rcases Nat.eq_zero_or_pos len with h | h
        · subst h; simp at hne
        · exact h
      obtain ⟨b,off,spot⟩:=a'
      have hspot:spot=none:=by simpa [Addr.add] using World.cell?_spot (hf 0 h0).1
      subst hspot
      refine ⟨b,off,rfl,by simpa [Addr.add] using cell_lt (hf 0 h0).1,okNil W b,fun j hj=>?_⟩
      rw [hlen] at hj
      have hj2:j / 3 < len:=by omega
      obtain ⟨c0,c1,c2⟩:=hf (j / 3) hj2
      by_cases hp:j % 3=0
      · rw [if_pos hp]
        have:j / 3 * 3=j:=by omega
        rw [this,add_plain] at c0
        exact c0
      by_cases hp1:j % 3=1
      · rw [if_neg hp,if_pos hp1]
        have:j / 3 * 3+1=j:=by omega
        rw [this,add_plain] at c1
        exact c1
      · rw [if_neg hp,if_neg hp1]
        have:j / 3 * 3+2=j:=by omega
        rw [this,add_plain] at c2
        exact c2
    · intro v hv
      obtain ⟨p,_,rfl⟩:=List.mem_map.1 hv
      rfl
    · intro v hv
      obtain ⟨p,_,rfl⟩:=List.mem_map.1 hv
      rfl
    · intro i v j x hi hj
      have hil:i < len:=by have:=lt_of_get hi; rw [hlen] at this; exact this
      have:v=encTr (f i):=by
        rw [List.getElem?_map,List.getElem?_map,List.getElem?_range hil] at hi
        simpa using hi.symm
      subst this
      have hjx:j < 3:=lt_of_get hj
      match j,hjx,hj with
      | 0,_,hj =>
        simp [encTr,cellsOf] at hj
        subst hj
        have e1:(i * 3+0) % 3=0:=by omega
        have e2:(i * 3+0) / 3=i:=by omega
        rw [if_pos e1,e2]
        exact V.int _ _
      | 1,_,hj =>
        simp [encTr,cellsOf] at hj
        subst hj
        have e0:¬ (i * 3+1) % 3=0:=by omega
        have e1:(i * 3+1) % 3=1:=by omega
        have e2:(i * 3+1) / 3=i:=by omega
        rw [if_neg e0,if_pos e1,e2]
        exact V.int _ _
      | 2,_,hj =>
        simp [encTr,cellsOf] at hj
        subst hj
        have e0:¬ (i * 3+2) % 3=0:=by omega
        have e1:¬ (i * 3+2) % 3=1:=by omega
        have e2:(i * 3+2) / 3=i:=by omega
        rw [if_neg e0,if_neg e1,e2]
        exact V.int _ _
theorem arg_three_ok {H:Type} {enc:TypeId × Value → H} {P:Program} {W:World} {base:Nat} {t q:TypeId} {v:Value} {d:DataW H} {ps:List MemPlace} (ht:P.underlying t=some (.array 3 q)) (hq:P.underlying q=some (.int .i64)) (ct:P.cellsOf t=3) (cq:P.cellsOf q=1)
    (hval:Value.okWide P W .any base t v) (hd:DataW.Trod enc P W 0 (fun _=>true) true t v d ps):∃ a b c:Int,V W (okOf Ctx.nil W.heap.size) Ctx.nil (.agg [.int .i64 a,.int .i64 b,.int .i64 c]) v:=by
  unfold Value.okWide at hval
  simp only [ht] at hval
  obtain ⟨cs,rfl,hsz,_⟩:=hval
  rw [ct] at hsz
  obtain ⟨fuel,hf⟩:=hd
  obtain ⟨xs,k,_,_,_,hxl,hxs⟩:=DataW.trod_array ht hf
  have g0:=hxs 0 (by omega)
  have g1:=hxs 1 (by omega)
  have g2:=hxs 2 (by omega)
  rw [cq] at g0 g1 g2
  have hx0:xs[0]?=some xs[0]:=List.getElem?_eq_getElem (by omega)
  have hx1:xs[1]?=some xs[1]:=List.getElem?_eq_getElem (by omega)
  have hx2:xs[2]?=some xs[2]:=List.getElem?_eq_getElem (by omega)
  rw [hx0] at g0
  rw [hx1] at g1
  rw [hx2] at g2
  obtain ⟨l⟩:=cs
  simp [Value.cells] at g0 g1 g2 hsz
  obtain ⟨v0,v1,v2,rfl⟩:∃ v0 v1 v2,l=[v0,v1,v2]:=by
    match l,hsz with
    | [a,b,c],_=>exact ⟨a,b,c,rfl⟩
  obtain ⟨z0,e0,_,_⟩:=DataW.trod_int hq g0
  obtain ⟨z1,e1,_,_⟩:=DataW.trod_int hq g1
  obtain ⟨z2,e2,_,_⟩:=DataW.trod_int hq g2
  have f0:v0=.int .i64 z0:=by simpa using e0
  have f1:v1=.int .i64 z1:=by simpa using e1
  have f2:v2=.int .i64 z2:=by simpa using e2
  subst f0; subst f1; subst f2
  refine ⟨z0,z1,z2,V.agg _ _ rfl (fun v hv=>?_) fun i v r h1 h2=>?_⟩
  · simp only [List.mem_cons,List.not_mem_nil,or_false] at hv
    rcases hv with rfl | rfl | rfl <;> rfl
  · match i,h1,h2 with
    | 0,h1,h2=>simp at h1 h2; subst h1; subst h2; exact V.int _ _
    | 1,h1,h2=>simp at h1 h2; subst h1; subst h2; exact V.int _ _
    | 2,h1,h2=>simp at h1 h2; subst h1; subst h2; exact V.int _ _
end Go.HL
end
