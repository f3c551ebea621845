/- A part of the proof. -/
import Derived.Test.YtlendaofkmhgmaaP8C
set_option linter.unusedVariables false
set_option linter.unusedSimpArgs false
section
open Go Go.HL Go.HL.So
namespace Go.Proofs.Ytlendaofkmhgmaa
open Go.Proofs.Try renaming prog → Tp
open Go.HL.HV renaming undef → Ud
theorem res50:Try.f50.results.toList=[.tmp 4,.cell 5 66]:=by kernel_rfl
section
variable {d:List (List Int)} {ps:List Int}
theorem pst {H:Heap} {b i:Nat} {t:List Int} (hb:H[b]?=some (pB t)) (ht:t.length=11) (hi:i < 11) (v:Int):storeV Tp H 3 (.ptr b 0 i 1) (.int .i64 v)=some (H.set b (pB (t.set i v))):=by
  have:=store_cell (P:=Tp) (t:=3) (b:=b) (i:=0) (off:=i) (tot:=1) (v:=.int .i64 v) (cs:=t.map encI) hb rfl rfl z3 rfl rfl (by simp [bnd]) (by simpa [ht] using hi)
  rw [this]
  show some (H.set b (.arr 11 [.agg ((t.map encI).set i (encI v))] true 0))=_
  rw [← List.map_set]
theorem pel {t:List Int} {i:Nat} (ht:t.length=11) (hi:i < 11):elemV Tp 66 (.agg (t.map encI)) (.int .i64 (i:Int))=some (.int .i64 (t.getD i 0)):=by
  have:=elem_arr (P:=Tp) (t:=66) (e:=3) (m:=11) (ik:=.i64) (n:=(i:Int)) (cs:=t.map encI) (v:=.int .i64 (t.getD i 0)) u66 z3 a3 i3 (by omega) (by omega) (by rw [Int.toNat_natCast,List.getElem?_map,List.getElem?_eq_getElem (by omega)]; simp [List.getD,List.getElem?_eq_getElem (show i < t.length by omega),encI])
  exact this
theorem pst_all {H:Heap} {b:Nat} {t u:List Int} (hb:H[b]?=some (pB t)) (ht:t.length=11) (hu:u.length=11):storeV Tp H 66 (.ptr b 0 0 1) (.agg (u.map encI))=some (H.set b (pB u)):=by
  have hc:(u.map encI).all cellV=true:=by simp [cellV,encI]
  have:=store_agg (P:=Tp) (t:=66) (b:=b) (i:=0) (tot:=1) (cs:=t.map encI) (new:=u.map encI) hb rfl rfl (by rw [show tySize Tp 66=some 11 by kernel_rfl]; simp [hu]) (by simp [ht,hu]) (by simp [hu]) hc (ints_bnd u)
  rw [this]; rfl
abbrev Zs:List Int:=List.replicate 11 0
abbrev boH (ps:List Int) (cs es:List Ed):Heap:=[pB ps,pB Zs,bE encE cs,bE encE es]
abbrev boX (ps:List Int) (cs es:List Ed) (e:Ed):Heap:=[pB ps,pB Zs,bE encE cs,bE encE es,.arr 3 [encE e] true 0]
theorem bogc {cs cs2 es:List Ed} {e:Ed} (m w i q:Nat) (y6:HV) (h6:bnd y6 ≤ 4):gc (boH ps cs es).length (bndE (env50 (.imm .arg 1 (d.map encR)) (.agg (ps.map encI)) (.ptr 0 0 0 1) (.int .i64 0) (.ptr 1 0 0 1) y6 (.int .i64 (w:Int)) Ud Ud Ud Ud Ud (.sl 3 0 q none q 3) (.int .i64 (q:Int)) (.int .i64 (i:Int)) Ud Ud Ud Ud Ud)) (boX ps cs2 es e)=boH ps cs2 es:=by
  unfold gc
  have:max (boH ps cs es).length (max (bndE (env50 (.imm .arg 1 (d.map encR)) (.agg (ps.map encI)) (.ptr 0 0 0 1) (.int .i64 0) (.ptr 1 0 0 1) y6 (.int .i64 (w:Int)) Ud Ud Ud Ud Ud (.sl 3 0 q none q 3) (.int .i64 (q:Int)) (.int .i64 (i:Int)) Ud Ud Ud Ud Ud)) (mxs (boX ps cs2 es e)))=4:=by
    have h1:mxs (boX ps cs2 es e)=0:=by simp [mxs,Blk.mx,bE]
    have h2:bndE (env50 (.imm .arg 1 (d.map encR)) (.agg (ps.map encI)) (.ptr 0 0 0 1) (.int .i64 0) (.ptr 1 0 0 1) y6 (.int .i64 (w:Int)) Ud Ud Ud Ud Ud (.sl 3 0 q none q 3) (.int .i64 (q:Int)) (.int .i64 (i:Int)) Ud Ud Ud Ud Ud) ≤ 4:=by
      simp only [bndE,bnd,ints_bnd]; omega
    rw [h1]; show max 4 (max _ 0)=4; omega
  rw [this]; rfl
theorem bo_two (hd:okD d) {es:List Ed} (he:EIn d.length es) (hq:es.length ≤ 500):∀ (k i w:Nat) (cs:List Ed),i+k=es.length → w ≤ 2 → cs.length+k ≤ 700 →
    ∃ y7 y23,RT polBo 50 (sub [1,1,1,0,1,0] B50) (env50 (.imm .arg 1 (d.map encR)) (.agg (ps.map encI)) (.ptr 0 0 0 1) (.int .i64 0) (.ptr 1 0 0 1) (.sl 2 0 cs.length none cs.length 3) (.int .i64 (w:Int)) Ud Ud Ud Ud Ud (.sl 3 0 es.length none es.length 3) (.int .i64 (es.length:Int)) (.int .i64 (i:Int)) Ud Ud Ud Ud Ud) (boH ps cs es) (.exit 0)
      (env50 (.imm .arg 1 (d.map encR)) (.agg (ps.map encI)) (.ptr 0 0 0 1) (.int .i64 0) (.ptr 1 0 0 1) (.sl 2 0 (cs ++ two2 w (es.drop i)).length none (cs ++ two2 w (es.drop i)).length 3) y7 Ud Ud Ud Ud Ud (.sl 3 0 es.length none es.length 3) (.int .i64 (es.length:Int)) y23 Ud Ud Ud Ud Ud) (boH ps (cs ++ two2 w (es.drop i)) es):=by
  have hn:=hd.1
  intro k
  induction k with
  | zero =>
    intro i w cs hi hw ho
    have:i=es.length:=by omega
    subst this
    rw [List.drop_length,two2,List.append_nil]
    exact ⟨_,_,lpo (bo_e_3 (d.map encR) (ps.map encI) cs.length (cs.map encE) es.length (es.map encE) w es.length 0 0 0 (by omega))⟩
  | succ k ih =>
    intro i w cs hi hw ho
    have hdrop:es.drop i=at_ es i :: es.drop (i+1):=by
      rw [List.drop_eq_getElem_cons (by omega)]
      simp [at_,List.getD,List.getElem?_eq_getElem (show i < es.length by omega)]
    have hmem:at_ es i ∈ es:=by
      have:at_ es i=es[i]:=by simp [at_,List.getD,List.getElem?_eq_getElem (show i < es.length by omega)]
      rw [this]; exact List.getElem_mem _
    obtain ⟨ec,ea,eb,hae,ha,hb⟩:∃ (ec:Int) (ea eb:Nat),at_ es i=mkQ ec ea eb∧ea < d.length∧eb < d.length:=by
      obtain ⟨⟨h1,h2⟩,h3,h4⟩:=he _ hmem
      refine ⟨(at_ es i).1,(at_ es i).2.1.toNat,(at_ es i).2.2.toNat,?_,h2,h4⟩
      show at_ es i=((at_ es i).1,_,_)
      rw [Int.toNat_of_nonneg h1,Int.toNat_of_nonneg h3]
    rw [hdrop,hae,two2]
    have hl:=lde (H:=boH ps cs es) (b:=3) (k:=i) (l:=es) rfl rfl (by omega)
    rw [hae] at hl
    by_cases c:(ea:Int)=0
    · by_cases c2:w < 2
      · have s:=bo_e_0 (d.map encR) (ps.map encI) cs.length (cs.map encE) es.length (es.map encE) w i ec ea eb (y9:=Ud) (y10:=Ud) (y11:=Ud) (y13:=Ud) (y15:=Ud) (y41:=Ud) (y42:=Ud) (y43:=Ud) (y64:=Ud) (y65:=Ud) (by omega) (ixe (by omega)) hl c (by omega) (app_Em (H:=boX ps cs es (mkQ ec ea eb)) (b:=2) (o:=cs) rfl (by omega) (mkQ ec ea eb))
        have hs:cs.map encE ++ [HV.agg [.int .i64 ec,.int .i64 (ea:Int),.int .i64 (eb:Int)]]=(cs ++ [mkQ ec ea eb]).map encE:=by simp [encE]
        rw [wrap_succ (by omega),wrap_succ (by omega),hs] at s
        obtain ⟨y7,y23,r⟩:=ih (i+1) (w+1) (cs ++ [mkQ ec ea eb]) (by omega) (by omega) (by simp; omega)
        rw [if_pos ⟨c,c2⟩]
        rw [List.append_assoc,show (cs ++ [mkQ ec ea eb]).length=cs.length+1 by simp] at r
        exact ⟨y7,y23,lop (s) (bogc (cs:=cs) (cs2:=cs ++ [mkQ ec ea eb]) (e:=mkQ ec ea eb) 0 (w+1) (i+1) es.length (.sl 2 0 (cs.length+1) none (cs.length+1) 3) (by simp [bnd])) (r)⟩
      · have s:=bo_e_1 (d.map encR) (ps.map encI) cs.length (cs.map encE) es.length (es.map encE) w i ec ea eb (y9:=Ud) (y10:=Ud) (y11:=Ud) (y13:=Ud) (y15:=Ud) (y41:=Ud) (y42:=Ud) (y43:=Ud) (y64:=Ud) (y65:=Ud) (by omega) (ixe (by omega)) hl c (by omega)
        rw [wrap_succ (by omega)] at s
        obtain ⟨y7,y23,r⟩:=ih (i+1) w cs (by omega) (by omega) (by omega)
        rw [if_neg (fun h=>c2 h.2)]
        exact ⟨y7,y23,lop (s) (bogc (cs:=cs) (cs2:=cs) (e:=mkQ ec ea eb) 0 w (i+1) es.length (.sl 2 0 cs.length none cs.length 3) (by simp [bnd])) (r)⟩
    · have s:=bo_e_2 (d.map encR) (ps.map encI) cs.length (cs.map encE) es.length (es.map encE) w i ec ea eb (y9:=Ud) (y10:=Ud) (y11:=Ud) (y13:=Ud) (y15:=Ud) (y41:=Ud) (y42:=Ud) (y43:=Ud) (y64:=Ud) (y65:=Ud) (by omega) (ixe (by omega)) hl c
      rw [wrap_succ (by omega)] at s
      obtain ⟨y7,y23,r⟩:=ih (i+1) w cs (by omega) (by omega) (by omega)
      rw [if_neg (fun h=>c h.1)]
      exact ⟨y7,y23,lop (s) (bogc (cs:=cs) (cs2:=cs) (e:=mkQ ec ea eb) 0 w (i+1) es.length (.sl 2 0 cs.length none cs.length 3) (by simp [bnd])) (r)⟩
abbrev boD (ps:List Int) (cs es:List Ed) (t:List Int):Heap:=[pB ps,pB Zs,bE encE cs,bE encE es,pB t]
abbrev boY (ps:List Int) (cs es:List Ed) (t:List Int) (e:Ed):Heap:=[pB ps,pB Zs,bE encE cs,bE encE es,pB t,.arr 3 [encE e] true 0]
theorem bogc2 {cs es:List Ed} {t u:List Int} {e:Ed} {m i:Nat} {s:Int}:gc (boD ps cs es t).length (bndE (env50 (.imm .arg 1 (d.map encR)) (.agg (ps.map encI)) (.ptr 0 0 0 1) (.int .i64 0) (.ptr 1 0 0 1) Ud Ud Ud (.int .i64 s) (.ptr 4 0 0 1) Ud Ud Ud Ud Ud (.sl 2 0 m none m 3) (.int .i64 (m:Int)) (.int .i64 (i:Int)) Ud Ud)) (boY ps cs es u e)=boD ps cs es u:=by
  unfold gc
  have:max (boD ps cs es t).length (max (bndE (env50 (.imm .arg 1 (d.map encR)) (.agg (ps.map encI)) (.ptr 0 0 0 1) (.int .i64 0) (.ptr 1 0 0 1) Ud Ud Ud (.int .i64 s) (.ptr 4 0 0 1) Ud Ud Ud Ud Ud (.sl 2 0 m none m 3) (.int .i64 (m:Int)) (.int .i64 (i:Int)) Ud Ud)) (mxs (boY ps cs es u e)))=5:=by
    have h1:mxs (boY ps cs es u e)=0:=by simp [mxs,Blk.mx,bE]
    have h2:bndE (env50 (.imm .arg 1 (d.map encR)) (.agg (ps.map encI)) (.ptr 0 0 0 1) (.int .i64 0) (.ptr 1 0 0 1) Ud Ud Ud (.int .i64 s) (.ptr 4 0 0 1) Ud Ud Ud Ud Ud (.sl 2 0 m none m 3) (.int .i64 (m:Int)) (.int .i64 (i:Int)) Ud Ud) ≤ 5:=by
      simp only [bndE,bnd,ints_bnd]; omega
    rw [h1]; show max 5 (max _ 0)=5; omega
  rw [this]; rfl
theorem bo_sum (hd:okD d) {cs es:List Ed} (he:EIn d.length cs) (hc:costOk cs) (hq:cs.length ≤ 500):∀ (k i:Nat) (t:List Int) (s:Int),i+k=cs.length → CtB t i → -3000000000 * (i:Int) ≤ s → s ≤ 3000000000 * (i:Int) →
    ∃ y13,RT polBo 50 (sub [1,1,1,1,1,1,0,1,0] B50) (env50 (.imm .arg 1 (d.map encR)) (.agg (ps.map encI)) (.ptr 0 0 0 1) (.int .i64 0) (.ptr 1 0 0 1) Ud Ud Ud (.int .i64 s) (.ptr 4 0 0 1) Ud Ud Ud Ud Ud (.sl 2 0 cs.length none cs.length 3) (.int .i64 (cs.length:Int)) (.int .i64 (i:Int)) Ud Ud) (boD ps cs es t) (.exit 2)
      (env50 (.imm .arg 1 (d.map encR)) (.agg (ps.map encI)) (.ptr 0 0 0 1) (.int .i64 0) (.ptr 1 0 0 1) Ud Ud Ud (.int .i64 (sumA (cs.drop i) s)) (.ptr 4 0 0 1) y13 Ud Ud Ud Ud (.sl 2 0 cs.length none cs.length 3) (.int .i64 (cs.length:Int)) (.int .i64 (cs.length:Int)) Ud Ud) (boD ps cs es ((cs.drop i).foldl dstep t)):=by
  have hn:=hd.1
  intro k
  induction k with
  | zero =>
    intro i t s hi hb h1 h2
    have:i=cs.length:=by omega
    subst this
    rw [List.drop_length]
    exact ⟨_,lpo (bo_i_1 (d.map encR) (ps.map encI) cs.length (cs.map encE) es.length (es.map encE) (t.map encI) s cs.length 0 0 0 (by omega))⟩
  | succ k ih =>
    intro i t s hi hb h1 h2
    have hdrop:cs.drop i=at_ cs i :: cs.drop (i+1):=by
      rw [List.drop_eq_getElem_cons (by omega)]
      simp [at_,List.getD,List.getElem?_eq_getElem (show i < cs.length by omega)]
    have hmem:at_ cs i ∈ cs:=by
      have:at_ cs i=cs[i]:=by simp [at_,List.getD,List.getElem?_eq_getElem (show i < cs.length by omega)]
      rw [this]; exact List.getElem_mem _
    have hco:=hc _ hmem
    obtain ⟨ec,ea,eb,hae,ha,hbb⟩:∃ (ec:Int) (ea eb:Nat),at_ cs i=mkQ ec ea eb∧ea < d.length∧eb < d.length:=by
      obtain ⟨⟨h1,h2⟩,h3,h4⟩:=he _ hmem
      refine ⟨(at_ cs i).1,(at_ cs i).2.1.toNat,(at_ cs i).2.2.toNat,?_,h2,h4⟩
      show at_ cs i=((at_ cs i).1,_,_)
      rw [Int.toNat_of_nonneg h1,Int.toNat_of_nonneg h3]
    rw [hae] at hco
    simp only at hco
    rw [hdrop,hae]
    have hl:=lde (H:=boD ps cs es t) (b:=2) (k:=i) (l:=cs) rfl rfl (by omega)
    rw [hae] at hl
    have b1:=hb.2 ea (by omega)
    have hb1:∀ x,x < 11 → 0 ≤ (t.set ea (t.getD ea 0+1)).getD x 0∧(t.set ea (t.getD ea 0+1)).getD x 0 ≤ 2 * (i:Int)+1:=fun x hx=>by
      rw [getDs _ _ _ _ (by rw [hb.1]; omega)]
      have:=hb.2 x hx
      split <;> omega
    have b2:=hb1 eb (by omega)
    have hst:=hb.step (e:=mkQ ec ea eb) (by show ((ea:Int)).toNat < 11; omega) (by show ((eb:Int)).toNat < 11; omega)
    have w1:IntKind.i64.wrap (t.getD ea 0+1)=t.getD ea 0+1:=wrap_id (by omega) (by omega)
    have w2:IntKind.i64.wrap ((t.set ea (t.getD ea 0+1)).getD eb 0+1)=(t.set ea (t.getD ea 0+1)).getD eb 0+1:=wrap_id (by omega) (by omega)
    have w3:IntKind.i64.wrap (s+ec)=s+ec:=wrap_id (by omega) (by omega)
    have st1:=pst (H:=boY ps cs es t (mkQ ec ea eb)) (b:=4) (i:=ea) rfl hb.1 (by omega) (t.getD ea 0+1)
    have st2:=pst (H:=boY ps cs es (t.set ea (t.getD ea 0+1)) (mkQ ec ea eb)) (b:=4) (i:=eb) rfl (by simp [hb.1]) (by omega) ((t.set ea (t.getD ea 0+1)).getD eb 0+1)
    have sb:=bo_i_0 (d.map encR) (ps.map encI) cs.length (cs.map encE) es.length (es.map encE) (t.map encI) s i ec ea eb (y6:=Ud) (y7:=Ud) (y9:=Ud) (y13:=Ud) (y15:=Ud) (y21:=Ud) (y22:=Ud) (y23:=Ud) (y64:=Ud) (y65:=Ud) (by omega) (ixe (by omega)) hl (px (H:=[]) (by omega)) (pl_at (H:=boY ps cs es t (mkQ ec ea eb)) (b:=4) (ps:=t) rfl hb.1 (by omega)) (px (H:=[]) (by omega)) (by rw [w1]; exact st1) (px (H:=[]) (by omega))
      (pl_at (H:=boY ps cs es (t.set ea (t.getD ea 0+1)) (mkQ ec ea eb)) (b:=4) (ps:=t.set ea (t.getD ea 0+1)) rfl (by simp [hb.1]) (by omega)) (px (H:=[]) (by omega)) (by rw [w2]; exact st2)
    rw [wrap_succ (by omega),w3] at sb
    obtain ⟨y13,r⟩:=ih (i+1) (dstep t (mkQ ec ea eb)) (s+ec) (by omega) hst (by omega) (by omega)
    refine ⟨y13,lop sb (bogc2 (d:=d) (ps:=ps) (cs:=cs) (es:=es) (t:=t) (u:=dstep t (mkQ ec ea eb)) (e:=mkQ ec ea eb) (m:=cs.length) (i:=i+1) (s:=s+ec)) r⟩
theorem bo_pr (hp:Small ps) {cs es:List Ed} {t:List Int} {y3 y41 y42 y43:HV}:∀ (k i:Nat) (s:Int),i+k=11 → -10000000000000 - 2000000000 * (i:Int) ≤ s → s ≤ 10000000000000+2000000000 * (i:Int) →
    ∃ y15,RT polBo 50 (sub [1,1,1,1,1,1,1,0,1,0] B50) (env50 (.imm .arg 1 (d.map encR)) (.agg (ps.map encI)) Ud (.int .i64 0) (.ptr 1 0 0 1) Ud Ud Ud (.int .i64 s) (.ptr 4 0 0 1) Ud Ud Ud Ud Ud Ud Ud Ud (.agg (ps.map encI)) (.int .i64 (i:Int))) (boD ps cs es t) (.exit 4)
      (env50 (.imm .arg 1 (d.map encR)) (.agg (ps.map encI)) Ud (.int .i64 0) (.ptr 1 0 0 1) Ud Ud Ud (.int .i64 (sumP (ps.drop i) s)) (.ptr 4 0 0 1) Ud y15 Ud Ud Ud Ud Ud Ud (.agg (ps.map encI)) (.int .i64 (11:Int))) (boD ps cs es t):=by
  intro k
  induction k with
  | zero =>
    intro i s hi h1 h2
    have:i=11:=by omega
    subst this
    rw [List.drop_of_length_le (by rw [hp.1]; omega)]
    exact ⟨_,lpo (bo_k_1 (d.map encR) (ps.map encI) cs.length (cs.map encE) es.length (es.map encE) (t.map encI) s 11 (by omega))⟩
  | succ k ih =>
    intro i s hi h1 h2
    have hl:=hp.1
    have b:=hp.at (i:=i) (by omega)
    have hdrop:ps.drop i=ps.getD i 0 :: ps.drop (i+1):=by
      rw [List.drop_eq_getElem_cons (by omega)]
      simp [List.getD,List.getElem?_eq_getElem (show i < ps.length by omega)]
    rw [hdrop]
    have w1:IntKind.i64.wrap (2 * ps.getD i 0)=2 * ps.getD i 0:=wrap_id (by omega) (by omega)
    have w2:IntKind.i64.wrap (s - 2 * ps.getD i 0)=s - 2 * ps.getD i 0:=wrap_id (by omega) (by omega)
    have sb:=bo_k_0 (d.map encR) (ps.map encI) cs.length (cs.map encE) es.length (es.map encE) (t.map encI) s i (y3:=Ud) (y6:=Ud) (y7:=Ud) (y9:=Ud) (y13:=Ud) (y15:=Ud) (y21:=Ud) (y22:=Ud) (y23:=Ud) (y41:=Ud) (y42:=Ud) (y43:=Ud) (by omega) (pel hl (by omega))
    rw [wrap_succ (by omega),w1,w2] at sb
    obtain ⟨y15,r⟩:=ih (i+1) (s - 2 * ps.getD i 0) (by omega) (by omega) (by omega)
    exact ⟨y15,lop sb (gc_eq _ rfl) r⟩
end
theorem toRes_bd {H:Heap} {s:Int} {t:List Int}:toRes H false (.tuple [.int .i64 s,.agg (t.map encI)])=some (.tuple [.int .i64 s,.agg (t.map encI)]):=by
  have hm:mapO (resCell H [] false) (t.map encI)=some (t.map encI):=mapO_self (f:=resCell H [] false) (g:=encI) (fun _=>rfl) t
  have ho:ownedAll H false (.tuple [.int .i64 s,.agg (t.map encI)])=[]:=by
    have h1:∀ l:List Int,(l.map encI).flatMap (owned H false)=[]:=fun l=>by
      rw [List.flatMap_eq_nil_iff]
      intro v hv
      obtain ⟨k,_,rfl⟩:=List.mem_map.1 hv
      rfl
    simp only [ownedAll,List.flatMap_cons,List.flatMap_nil,cellsOf,h1]
    rfl
  simp only [toRes,ho,List.nodup_nil,if_true,mapO,resVal,hm]
  rfl
theorem degs_ok {d:List (List Int)} (hd:okD d):∀ (l:List Ed) (t:List Int) (k:Nat),EIn d.length l → CtB t k → (l.foldl dstep t).length=11
  | [],t,k,_,h=>h.1
  | e :: l,t,k,he,h=>by
    have hn:=hd.1
    obtain ⟨⟨_,h2⟩,_,h4⟩:=he e (by simp)
    rw [List.foldl_cons]
    exact degs_ok hd l _ (k+1) (fun x hx=>he x (by simp [hx])) (h.step (by omega) (by omega))
theorem bound_ok:PrimOk Tp 50 bound50:=by
  refine primOk_pure (pol:=polBo) (fn:=Try.f50) (cd:=B50) follows_mixed soundBo (by kernel_rfl) (by kernel_rfl) (fnok polBo.prim _ _ (by kernel_rfl)) (by kernel_rfl) ?_
  intro args res h
  unfold bound50 at h
  split at h
  · rename_i rw pv
    split at h
    · rename_i d ps hR hP
      rw [mapO_inv decR_inv hR,mapO_inv decI_inv hP]
      split at h
      · rename_i hc
        obtain ⟨hd,hp⟩:=hc
        cases h
        have hn:=hd.1
        have s0:=bo_a_0 (d.map encR) (ps.map encI) (box_p hp.1)
        have s1:=bo_b_0 (d.map encR) (ps.map encI) (y6:=Ud) (y7:=Ud) (y9:=Ud) (y10:=Ud) (y11:=Ud) (y13:=Ud) (y15:=Ud) (y21:=Ud) (y22:=Ud) (y23:=Ud) (y41:=Ud) (y42:=Ud) (y43:=Ud) (y64:=Ud) (y65:=Ud) (pl_all (b:=0) rfl hp.1) (q61 (pol':=polBo) (f:=1) (by kernel_rfl) hd (by omega) hp _ (arg_rw _ d))
        have s2:=bo_c_0 (d.map encR) (ps.map encI) (treeL d ps 1).length ((treeL d ps 1).map encE) (y7:=Ud) (y9:=Ud) (y10:=Ud) (y11:=Ud) (y13:=Ud) (y15:=Ud) (y21:=Ud) (y22:=Ud) (y23:=Ud) (y41:=Ud) (y42:=Ud) (y43:=Ud) (y64:=Ud) (y65:=Ud)
        have s3:=bo_d_0 (d.map encR) (ps.map encI) (treeL d ps 1).length ((treeL d ps 1).map encE) (y9:=Ud) (y10:=Ud) (y11:=Ud) (y13:=Ud) (y15:=Ud) (y21:=Ud) (y22:=Ud) (y23:=Ud) (y41:=Ud) (y42:=Ud) (y43:=Ud) (y64:=Ud) (y65:=Ud) (pl_all (b:=0) rfl hp.1) (q70 (pol':=polBo) (f:=0) (by kernel_rfl) hd (by omega) hp _ (arg_rw _ d))
        have hel:=edg_len (ps:=ps) (f:=0) hd (by omega)
        have hcl:=chosen_len (ps:=ps) hd
        have htl:(treeL d ps 1).length ≤ 123:=by unfold chosen at hcl; rw [List.length_append] at hcl; omega
        obtain ⟨y7,y23,r1⟩:=bo_two (ps:=ps) hd (edg_in (ps:=ps) (f:=0) (by omega)) (by omega) (edg d ps 0).length 0 0 (treeL d ps 1) (by omega) (by omega) (by omega)
        rw [List.drop_zero,show treeL d ps 1 ++ two2 0 (edg d ps 0)=chosen d ps from rfl] at r1
        have s4:=bo_f_0 (d.map encR) (ps.map encI) (chosen d ps).length ((chosen d ps).map encE) (edg d ps 0).length ((edg d ps 0).map encE) (y9:=Ud) (y10:=Ud) (y11:=Ud) (y13:=Ud) (y15:=Ud) (y41:=Ud) (y42:=Ud) (y43:=Ud) (y64:=Ud) (y65:=Ud) (y7:=y7) (y21:=.sl 3 0 (edg d ps 0).length none (edg d ps 0).length 3) (y22:=.int .i64 ((edg d ps 0).length:Int)) (y23:=y23)
        have s5:=bo_g_0 (d.map encR) (ps.map encI) (chosen d ps).length ((chosen d ps).map encE) (edg d ps 0).length ((edg d ps 0).map encE) (y9:=Ud) (y11:=Ud) (y13:=Ud) (y15:=Ud) (y41:=Ud) (y42:=Ud) (y43:=Ud) (y64:=Ud) (y65:=Ud) (y7:=y7) (y21:=.sl 3 0 (edg d ps 0).length none (edg d ps 0).length 3) (y22:=.int .i64 ((edg d ps 0).length:Int)) (y23:=y23)
        have s6:=bo_h_0 (d.map encR) (ps.map encI) (chosen d ps).length ((chosen d ps).map encE) (edg d ps 0).length ((edg d ps 0).map encE) (Zs.map encI) (y9:=Ud) (y13:=Ud) (y15:=Ud) (y41:=Ud) (y42:=Ud) (y43:=Ud) (y64:=Ud) (y65:=Ud) (y7:=y7) (y21:=.sl 3 0 (edg d ps 0).length none (edg d ps 0).length 3) (y22:=.int .i64 ((edg d ps 0).length:Int)) (y23:=y23)
        obtain ⟨y13,r2⟩:=bo_sum (ps:=ps) (es:=edg d ps 0) hd (chosen_in (ps:=ps) hd) (chosen_cost hd hp) (by omega) (chosen d ps).length 0 Zs 0 (by omega) CtB.zero (by omega) (by omega)
        rw [List.drop_zero] at r2
        have hsb:∀ (l:List Ed) (s:Int) (k:Nat),costOk l → -3000000000 * (k:Int) ≤ s → s ≤ 3000000000 * (k:Int) → -3000000000 * ((k+l.length:Nat):Int) ≤ sumA l s∧sumA l s ≤ 3000000000 * ((k+l.length:Nat):Int):=by
          intro l
          induction l with
          | nil=>intro s k _ h1 h2; exact ⟨by simpa [sumA] using h1,by simpa [sumA] using h2⟩
          | cons e l ih =>
            intro s k hc h1 h2
            have h3:=hc e (by simp)
            have:=ih (s+e.1) (k+1) (fun x hx=>hc x (by simp [hx])) (by omega) (by omega)
            rw [List.length_cons,show k+(l.length+1)=k+1+l.length by omega]
            exact this
        have hsum:=hsb (chosen d ps) 0 0 (chosen_cost hd hp) (by omega) (by omega)
        have htl2:=degs_ok hd (chosen d ps) Zs 0 (chosen_in hd) CtB.zero
        have edg':(chosen d ps).foldl dstep Zs=degs (chosen d ps):=rfl
        rw [edg'] at htl2 r2
        generalize hsA:sumA (chosen d ps) 0=sA at hsum r2
        have s7:=bo_j_0 (d.map encR) (ps.map encI) (chosen d ps).length ((chosen d ps).map encE) (edg d ps 0).length ((edg d ps 0).map encE) ((degs (chosen d ps)).map encI) sA (y6:=Ud) (y7:=Ud) (y9:=Ud) (y15:=Ud) (y21:=Ud) (y22:=Ud) (y23:=Ud) (y64:=Ud) (y65:=Ud) (y13:=y13) (y41:=.sl 2 0 (chosen d ps).length none (chosen d ps).length 3) (y42:=.int .i64 ((chosen d ps).length:Int)) (y43:=.int .i64 ((chosen d ps).length:Int)) (pl_all (b:=0) rfl hp.1)
        obtain ⟨y15,r3⟩:=bo_pr (d:=d) hp (cs:=chosen d ps) (es:=edg d ps 0) (t:=degs (chosen d ps)) (y3:=Ud) (y41:=Ud) (y42:=Ud) (y43:=Ud) 11 0 sA rfl (by omega) (by omega)
        rw [List.drop_zero] at r3
        have eb:sumP ps sA=boundS d ps:=by rw [← hsA]; rfl
        rw [eb] at r3
        have s8:=bo_l_0 (d.map encR) (ps.map encI) (chosen d ps).length ((chosen d ps).map encE) (edg d ps 0).length ((edg d ps 0).map encE) ((degs (chosen d ps)).map encI) (boundS d ps) (y3:=Ud) (y6:=Ud) (y7:=Ud) (y9:=Ud) (y13:=Ud) (y21:=Ud) (y22:=Ud) (y23:=Ud) (y41:=Ud) (y42:=Ud) (y43:=Ud) (y15:=y15) (y64:=.agg (ps.map encI)) (y65:=.int .i64 ((11:Nat):Int)) (pl_all (b:=4) (ps:=degs (chosen d ps)) rfl htl2) (pst_all (H:=boD ps (chosen d ps) (edg d ps 0) (degs (chosen d ps))) (b:=1) (t:=Zs) rfl rfl htl2)
        have r1':=lpi (e0:=(env50 (.imm .arg 1 (d.map encR)) (.agg (ps.map encI)) (.ptr 0 0 0 1) (.int .i64 0) (.ptr 1 0 0 1) (.sl 2 0 (treeL d ps 1).length none (treeL d ps 1).length 3) (.int .i64 0) Ud Ud Ud Ud Ud (.sl 3 0 (edg d ps 0).length none (edg d ps 0).length 3) (.int .i64 ((edg d ps 0).length:Int)) (.int .i64 0) Ud Ud Ud Ud Ud)) r1 (b:=sub [1,1,1,0,1,0,0] B50)
        have r2':=lpi (e0:=(env50 (.imm .arg 1 (d.map encR)) (.agg (ps.map encI)) (.ptr 0 0 0 1) (.int .i64 0) (.ptr 1 0 0 1) (.sl 2 0 (chosen d ps).length none (chosen d ps).length 3) y7 Ud (.int .i64 0) (.ptr 4 0 0 1) Ud Ud (.sl 3 0 (edg d ps 0).length none (edg d ps 0).length 3) (.int .i64 ((edg d ps 0).length:Int)) y23 (.sl 2 0 (chosen d ps).length none (chosen d ps).length 3) (.int .i64 ((chosen d ps).length:Int)) (.int .i64 0) Ud Ud)) r2 (b:=sub [1,1,1,1,1,1,0,1,0,0] B50)
        have r3':=lpi (e0:=(env50 (.imm .arg 1 (d.map encR)) (.agg (ps.map encI)) (.ptr 0 0 0 1) (.int .i64 0) (.ptr 1 0 0 1) Ud Ud Ud (.int .i64 sA) (.ptr 4 0 0 1) y13 Ud Ud Ud Ud (.sl 2 0 (chosen d ps).length none (chosen d ps).length 3) (.int .i64 ((chosen d ps).length:Int)) (.int .i64 ((chosen d ps).length:Int)) (.agg (ps.map encI)) (.int .i64 0))) r3 (b:=sub [1,1,1,1,1,1,1,0,1,0,0] B50)
        have t:=sq (s0) (sq (s1) (sq (s2) (sq (sq (s3) (bke (c:=sub [1,1,1,0,1] B50) (r1')) (c:=sub [1,1,1,0] B50)) (sq (s4) (sq (s5) (sq (sq (s6) (bke (c:=sub [1,1,1,1,1,1,0,1] B50) (r2')) (c:=sub [1,1,1,1,1,1,0] B50)) (sq (sq (s7) (bke (c:=sub [1,1,1,1,1,1,1,0,1] B50) (r3')) (c:=sub [1,1,1,1,1,1,1,0] B50)) (s8) (c:=sub [1,1,1,1,1,1,1] B50)) (c:=sub [1,1,1,1,1,1] B50)) (c:=sub [1,1,1,1,1] B50)) (c:=sub [1,1,1,1] B50)) (c:=sub [1,1,1] B50)) (c:=sub [1,1] B50)) (c:=sub [1] B50)) (c:=B50)
        refine ⟨_,_,_,.tuple [.int .i64 (boundS d ps),.agg ((degs (chosen d ps)).map encI)],t,by simp,?_,toRes_bd⟩
        have hr:=pl_all (H:=[pB ps,pB (degs (chosen d ps)),bE encE (chosen d ps),bE encE (edg d ps 0),pB (degs (chosen d ps))]) (b:=1) rfl htl2
        have hr2:loadV Tp [.arr 11 [.agg (ps.map encI)] true 0,.arr 11 [.agg ((degs (chosen d ps)).map encI)] true 0,.arr 3 ((chosen d ps).map encE) true 0,.arr 3 ((edg d ps 0).map encE) true 0,.arr 11 [.agg ((degs (chosen d ps)).map encI)] true 0] 66 (.ptr 1 0 0 1)=some (.agg ((degs (chosen d ps)).map encI)):=hr
        simp [resultsV,res50,mapO,resultV,env50,Env.get]
        rw [hr2]
      · cases h
    · cases h
  · cases h
end Go.Proofs.Ytlendaofkmhgmaa
end
section
open Go Go.HL Go.HL.So
namespace Go.Proofs.Ytlendaofkmhgmaa
def price48:List HV → Option HV
  | [.int .i64 n]=>some (.bool (!decide (-10000 ≤ n∧n ≤ 10000)))
  | _=>none
noncomputable def polPm:Pol:={ pol with prim:=fun g=>if g == 46 then some miles46 else if g == 48 then some price48 else if g == 50 then some bound50 else none }
def pad (l:List Int):List Int:=l ++ List.replicate (11 - l.length) 0
def prOk (l:List Int):Prop:=∀ v ∈ l,-10000 ≤ v∧v ≤ 10000
def bndT (d:List (List Int)) (l:List Int):Int:=if d.length < 3 then 2 * at2 d 0 (d.length - 1) else boundS d (pad l)
open Classical in
noncomputable def bound17:List HV → Option HV:=rlF fun R l=>if (R.length ≤ 1000∧(R.all fun r=>decide (r.length ≤ 1000))=true)∧l.length ≤ 1000 then some (if okD R∧l.length=R.length∧prOk l then .tuple [.int .i64 (bndT R l),.int .i64 0] else .tuple [.int .i64 0,.int .i64 2]) else none
theorem pad_len {l:List Int} (h:l.length ≤ 11):(pad l).length=11:=by simp [pad]; omega
theorem pad_small {l:List Int} (h:l.length ≤ 11) (hp:prOk l):Small (pad l):=by
  refine ⟨pad_len h,fun x hx=>?_⟩
  rcases List.mem_append.1 hx with hx | hx
  · have:=hp x hx; omega
  · have:=(List.mem_replicate.1 hx).2; omega
end Go.Proofs.Ytlendaofkmhgmaa
end
section
open Go Go.HL
namespace Go.Proofs.Ytlendaofkmhgmaa
set_option maxRecDepth 100000
open Go.Proofs.Try renaming prog → Tp
open Go.HL.HV renaming undef → Ud
noncomputable def B48:Code:=Try.f48.body.getD .skip
abbrev env48 (v0 v2:HV):Env:=[(0,v0),(2,v2)]
theorem pc48_0 (n:Int)(g0:(-10000:Int) ≤ n∧n ≤ (10000:Int)):RT polW 48 (sub [] B48) [(0,.i n)] [] .ret (env48 (.i n) (.bool false)) [] :=
  RunsTo.hin 0 60 [⟨1,1,.bool true,[]⟩] fun kf hk=>⟨_,by kernel_rfl,(oB [] (decide_eq_true g0) .nil)⟩
theorem pc48_1 (n:Int)(g0:¬ ((-10000:Int) ≤ n∧n ≤ (10000:Int))):RT polW 48 (sub [] B48) [(0,.i n)] [] .ret (env48 (.i n) (.bool true)) [] :=
  RunsTo.hin 0 60 [⟨1,1,.bool false,[]⟩] fun kf hk=>⟨_,by kernel_rfl,(oB [] (decide_eq_false g0) .nil)⟩
theorem jp_a_0 (la:List HV) (H:Heap):RT polPm 69 (sub [0] B69) [(0,.imm .arg 1 la),(1,.func 48 [] [])] H .normal (env69 (.imm .arg 1 la) (.func 48 [] []) (.i 0) Ud Ud Ud) H :=
  RunsTo.hin 0 60 [] fun kf hk=>⟨_,by kernel_rfl,.nil⟩
theorem jp_b_0 (la:List HV) (H:Heap):RT polPm 69 (sub [1,0,0] B69) (env69 (.imm .arg 1 la) (.func 48 [] []) (.i 0) Ud Ud Ud) H .normal (env69 (.imm .arg 1 la) (.func 48 [] []) (.i 0) Ud (.i (la.length:Int)) (.i 0)) H :=
  RunsTo.hin 0 60 [] fun kf hk=>⟨_,by kernel_rfl,.nil⟩
theorem jp_l_0 (la:List HV) (H:Heap) (j:Nat) (x0:Int) (H0:Heap) (g0:(j:Int) < (la.length:Int)) (g1:idxV Tp 23 (.imm .arg 1 la) (.i (j:Int))=some (.vptr (.i x0))) (g2:∀ kf,callN Tp polPm (kf+1) 48 [.i x0] H=some (.bool true,H0)):RT polPm 69 (sub [1,0,1,0,0] B69) (env69 (.imm .arg 1 la) (.func 48 [] []) (.i 0) Ud (.i (la.length:Int)) (.i (j:Int))) H .ret (env69 (.imm .arg 1 la) (.func 48 [] []) (.i (j:Int)) (.i (j:Int)) (.i (la.length:Int)) (.i (j:Int))) H0 :=
  RunsTo.hin 0 60 [⟨2,0,.bool true,H⟩,⟨4,3,.vptr (.i x0),H⟩,⟨4,5,.bool true,H0⟩] fun kf hk=>⟨_,by kernel_rfl,(oB H (decide_eq_true g0) (oP H g1 (oC (g2 kf) .nil)))⟩
theorem jp_l_1 (la:List HV) (H:Heap) (j:Nat) (x0:Int) (H0:Heap) (g0:(j:Int) < (la.length:Int)) (g1:idxV Tp 23 (.imm .arg 1 la) (.i (j:Int))=some (.vptr (.i x0))) (g2:∀ kf,callN Tp polPm (kf+1) 48 [.i x0] H=some (.bool false,H0)):RT polPm 69 (sub [1,0,1,0,0] B69) (env69 (.imm .arg 1 la) (.func 48 [] []) (.i 0) Ud (.i (la.length:Int)) (.i (j:Int))) H .normal (env69 (.imm .arg 1 la) (.func 48 [] []) (.i 0) (.i (j:Int)) (.i (la.length:Int)) (.i (IntKind.i64.wrap ((j:Int)+1)))) H0 :=
  RunsTo.hin 0 60 [⟨2,0,.bool true,H⟩,⟨4,3,.vptr (.i x0),H⟩,⟨4,5,.bool false,H0⟩] fun kf hk=>⟨_,by kernel_rfl,(oB H (decide_eq_true g0) (oP H g1 (oC (g2 kf) .nil)))⟩
theorem jp_l_2 (la:List HV) (H:Heap) (j:Nat)(g0:¬ ((j:Int) < (la.length:Int))):RT polPm 69 (sub [1,0,1,0,0] B69) (env69 (.imm .arg 1 la) (.func 48 [] []) (.i 0) Ud (.i (la.length:Int)) (.i (j:Int))) H (.exit 0) (env69 (.imm .arg 1 la) (.func 48 [] []) (.i 0) Ud (.i (la.length:Int)) (.i (j:Int))) H :=
  RunsTo.hin 0 60 [⟨2,0,.bool false,H⟩] fun kf hk=>⟨_,by kernel_rfl,(oB H (decide_eq_false g0) .nil)⟩
theorem jp_z_0 (la:List HV) (H:Heap) (j:Nat):RT polPm 69 (sub [1,1] B69) (env69 (.imm .arg 1 la) (.func 48 [] []) (.i 0) Ud (.i (la.length:Int)) (.i (j:Int))) H .ret (env69 (.imm .arg 1 la) (.func 48 [] []) (.i (-1)) Ud (.i (la.length:Int)) (.i (j:Int))) H :=
  RunsTo.hin 0 60 [] fun kf hk=>⟨_,by kernel_rfl,.nil⟩
theorem cp_0 (N:Nat) (la:List HV) (H:Heap) (r:Int) (H0:Heap) (g0:∀ kf,N ≤ kf → callN Tp polPm (kf+1) 69 [.imm .arg 1 la,.func 48 [] []] H=some (.i r,H0)) (g1:0 ≤ r):RT polPm 47 (sub [] B47) [(0,.imm .arg 1 la),(1,.func 48 [] [])] H .ret (env47 (.imm .arg 1 la) (.func 48 [] []) (.bool true)) H0 :=
  RunsTo.hin N 60 [⟨1,2,.i r,H0⟩,⟨1,3,.bool true,H0⟩] fun kf hk=>⟨_,by kernel_rfl,(oC (g0 kf (by omega)) (oB H0 (decide_eq_true g1) .nil))⟩
theorem cp_1 (N:Nat) (la:List HV) (H:Heap) (r:Int) (H0:Heap) (g0:∀ kf,N ≤ kf → callN Tp polPm (kf+1) 69 [.imm .arg 1 la,.func 48 [] []] H=some (.i r,H0)) (g1:¬ (0 ≤ r)):RT polPm 47 (sub [] B47) [(0,.imm .arg 1 la),(1,.func 48 [] [])] H .ret (env47 (.imm .arg 1 la) (.func 48 [] []) (.bool false)) H0 :=
  RunsTo.hin N 60 [⟨1,2,.i r,H0⟩,⟨1,3,.bool false,H0⟩] fun kf hk=>⟨_,by kernel_rfl,(oC (g0 kf (by omega)) (oB H0 (decide_eq_false g1) .nil))⟩
noncomputable def B17:Code:=Try.f17.body.getD .skip
abbrev env17 (v0 v1 v4 v5 v6 v7:HV):Env:=[(0,v0),(1,v1),(4,v4),(5,v5),(6,v6),(7,v7)]
theorem bd_a_0 (N:Nat) (rw la:List HV) :RT polPm 17 (sub [0] B17) [(0,.imm .arg 1 rw),(1,.imm .arg 1 la)] [] .normal (env17 (.imm .arg 1 rw) (.imm .arg 1 la) (.i 0) (.i 0) Ud Ud) [] :=
  RunsTo.hin N 60 [] fun kf hk=>⟨_,by kernel_rfl,.nil⟩
theorem bd_b_0 (N:Nat) (rw la:List HV)  {y6 y7:HV} {H0:Heap} (g0:∀ kf,callN Tp polPm (kf+1) 46 [.imm .arg 1 rw] []=some (.bool true,[])) (g1:(la.length:Int)=(rw.length:Int)) (g2:∀ kf,N ≤ kf → callN Tp polPm (kf+1) 47 [.imm .arg 1 la,.func 48 [] []] []=some (.bool true,H0)):RT polPm 17 (sub [1,0] B17) (env17 (.imm .arg 1 rw) (.imm .arg 1 la) (.i 0) (.i 0) y6 y7) [] .ret (env17 (.imm .arg 1 rw) (.imm .arg 1 la) (.i 0) (.i 2) y6 y7) H0 :=
  RunsTo.hin N 60 [⟨1,1,.bool true,[]⟩,⟨1,8,.bool false,[]⟩,⟨1,12,.bool true,H0⟩] fun kf hk=>⟨_,by kernel_rfl,(oC (g0 kf) (oB [] (congrArg not (decide_eq_true g1)) (oC (g2 kf (by omega)) .nil)))⟩
theorem bd_b_1 (N:Nat) (rw la:List HV)  {y6 y7:HV} {H0:Heap} (g0:∀ kf,callN Tp polPm (kf+1) 46 [.imm .arg 1 rw] []=some (.bool true,[])) (g1:(la.length:Int)=(rw.length:Int)) (g2:∀ kf,N ≤ kf → callN Tp polPm (kf+1) 47 [.imm .arg 1 la,.func 48 [] []] []=some (.bool false,H0)):RT polPm 17 (sub [1,0] B17) (env17 (.imm .arg 1 rw) (.imm .arg 1 la) (.i 0) (.i 0) y6 y7) [] .normal (env17 (.imm .arg 1 rw) (.imm .arg 1 la) (.i 0) (.i 0) y6 y7) H0 :=
  RunsTo.hin N 60 [⟨1,1,.bool true,[]⟩,⟨1,8,.bool false,[]⟩,⟨1,12,.bool false,H0⟩] fun kf hk=>⟨_,by kernel_rfl,(oC (g0 kf) (oB [] (congrArg not (decide_eq_true g1)) (oC (g2 kf (by omega)) .nil)))⟩
theorem bd_b_2 (N:Nat) (rw la:List HV)  {y6 y7:HV}(g0:∀ kf,callN Tp polPm (kf+1) 46 [.imm .arg 1 rw] []=some (.bool true,[])) (g1:¬ ((la.length:Int)=(rw.length:Int))):RT polPm 17 (sub [1,0] B17) (env17 (.imm .arg 1 rw) (.imm .arg 1 la) (.i 0) (.i 0) y6 y7) [] .ret (env17 (.imm .arg 1 rw) (.imm .arg 1 la) (.i 0) (.i 2) y6 y7) [] :=
  RunsTo.hin N 60 [⟨1,1,.bool true,[]⟩,⟨1,8,.bool true,[]⟩] fun kf hk=>⟨_,by kernel_rfl,(oC (g0 kf) (oB [] (congrArg not (decide_eq_false g1)) .nil))⟩
theorem bd_b_3 (N:Nat) (rw la:List HV)  {y6 y7:HV}(g0:∀ kf,callN Tp polPm (kf+1) 46 [.imm .arg 1 rw] []=some (.bool false,[])):RT polPm 17 (sub [1,0] B17) (env17 (.imm .arg 1 rw) (.imm .arg 1 la) (.i 0) (.i 0) y6 y7) [] .ret (env17 (.imm .arg 1 rw) (.imm .arg 1 la) (.i 0) (.i 2) y6 y7) [] :=
  RunsTo.hin N 60 [⟨1,1,.bool false,[]⟩] fun kf hk=>⟨_,by kernel_rfl,(oC (g0 kf) .nil)⟩
theorem bd_c_0 (N:Nat) (rw la:List HV)  {y6 y7:HV} {l0:List HV} {x0:Int} (g0:(rw.length:Int) < 3) (g1:idxV Tp 22 (.imm .arg 1 rw) (.i 0)=some (.vptr (.imm .arg 1 l0))) (g2:idxV Tp 23 (.imm .arg 1 l0) (.i (IntKind.i64.wrap ((rw.length:Int) - 1)))=some (.vptr (.i x0))):RT polPm 17 (sub [1,1,0] B17) (env17 (.imm .arg 1 rw) (.imm .arg 1 la) (.i 0) (.i 0) y6 y7) [] .ret (env17 (.imm .arg 1 rw) (.imm .arg 1 la) (.i (IntKind.i64.wrap (2 * x0))) (.i 0) y6 y7) [] :=
  RunsTo.hin N 60 [⟨3,2,.bool true,[]⟩,⟨4,1,.vptr (.imm .arg 1 l0),[]⟩,⟨4,6,.vptr (.i x0),[]⟩] fun kf hk=>⟨_,by kernel_rfl,(oB [] (decide_eq_true g0) (oP [] g1 (oP [] g2 .nil)))⟩
theorem bd_c_1 (N:Nat) (rw la:List HV)  {y6 y7:HV}(g0:¬ ((rw.length:Int) < 3)):RT polPm 17 (sub [1,1,0] B17) (env17 (.imm .arg 1 rw) (.imm .arg 1 la) (.i 0) (.i 0) y6 y7) [] .normal (env17 (.imm .arg 1 rw) (.imm .arg 1 la) (.i 0) (.i 0) y6 y7) [] :=
  RunsTo.hin N 60 [⟨3,2,.bool false,[]⟩] fun kf hk=>⟨_,by kernel_rfl,(oB [] (decide_eq_false g0) .nil)⟩
theorem bd_d_0 (N:Nat) (rw la:List HV)  {y6 y7:HV}:RT polPm 17 (sub [1,1,1,0] B17) (env17 (.imm .arg 1 rw) (.imm .arg 1 la) (.i 0) (.i 0) y6 y7) [] .normal (env17 (.imm .arg 1 rw) (.imm .arg 1 la) (.i 0) (.i 0) (.ptr 0 0 0 1) y7) [.arr 11 [.agg [.i 0,.i 0,.i 0,.i 0,.i 0,.i 0,.i 0,.i 0,.i 0,.i 0,.i 0]] true 0] :=
  RunsTo.hin N 60 [] fun kf hk=>⟨_,by kernel_rfl,.nil⟩
theorem bd_e_0 (N:Nat) (rw la:List HV)  {y7:HV} {pp0:List HV} {n0:Int} (g0:builtinV Tp .copy [23,23] [.aview 0 0 0 11,.imm .arg 1 la] [.arr 11 [.agg [.i 0,.i 0,.i 0,.i 0,.i 0,.i 0,.i 0,.i 0,.i 0,.i 0,.i 0]] true 0]=some (.i n0,[.arr 11 [.agg pp0] true 0])):RT polPm 17 (sub [1,1,1,1,0] B17) (env17 (.imm .arg 1 rw) (.imm .arg 1 la) (.i 0) (.i 0) (.ptr 0 0 0 1) y7) [.arr 11 [.agg [.i 0,.i 0,.i 0,.i 0,.i 0,.i 0,.i 0,.i 0,.i 0,.i 0,.i 0]] true 0] .normal (env17 (.imm .arg 1 rw) (.imm .arg 1 la) (.i 0) (.i 0) (.ptr 0 0 0 1) y7) [.arr 11 [.agg pp0] true 0] :=
  RunsTo.hin N 60 [⟨6,2,.i n0,[.arr 11 [.agg pp0] true 0]⟩] fun kf hk=>⟨_,by kernel_rfl,(oC (g0) .nil)⟩
theorem bd_f_0 (N:Nat) (rw la:List HV) (pp:List HV) {y7:HV} {sm:Int} {aa:List HV} (g0:loadV Tp [.arr 11 [.agg pp] true 0] 66 (.ptr 0 0 0 1)=some (.agg pp)) (g1:∀ kf,callN Tp polPm (kf+1) 50 [.imm .arg 1 rw,.agg pp] [.arr 11 [.agg pp] true 0]=some (.tuple [.i sm,.agg aa],[.arr 11 [.agg pp] true 0])) (g2:storeV Tp [.arr 11 [.agg pp] true 0,.arr 11 [.agg [.i 0,.i 0,.i 0,.i 0,.i 0,.i 0,.i 0,.i 0,.i 0,.i 0,.i 0]] true 0] 66 (.ptr 1 0 0 1) (.agg aa)=some [.arr 11 [.agg pp] true 0,.arr 11 [.agg aa] true 0]):RT polPm 17 (sub [1,1,1,1,1] B17) (env17 (.imm .arg 1 rw) (.imm .arg 1 la) (.i 0) (.i 0) (.ptr 0 0 0 1) y7) [.arr 11 [.agg pp] true 0] .ret (env17 (.imm .arg 1 rw) (.imm .arg 1 la) (.i sm) (.i 0) (.ptr 0 0 0 1) (.i sm)) [.arr 11 [.agg pp] true 0,.arr 11 [.agg aa] true 0] :=
  RunsTo.hin N 60 [⟨7,1,.agg pp,[.arr 11 [.agg pp] true 0]⟩,⟨7,2,.tuple [.i sm,.agg aa],[.arr 11 [.agg pp] true 0]⟩,⟨7,8,.tuple [],[.arr 11 [.agg pp] true 0,.arr 11 [.agg aa] true 0]⟩] fun kf hk=>⟨_,by kernel_rfl,(oP [.arr 11 [.agg pp] true 0] g0 (oC (g1 kf) (oS g2 .nil)))⟩
end Go.Proofs.Ytlendaofkmhgmaa
end
section
open Go Go.HL Go.HL.So
namespace Go.Proofs.Ytlendaofkmhgmaa
open Go.Proofs.Try renaming prog → Tp
open Go.HL.HV renaming undef → Ud
theorem res48:Try.f48.results.toList=[.tmp 2]:=by kernel_rfl
theorem res17:Try.f17.results.toList=[.tmp 4,.tmp 5]:=by kernel_rfl
theorem price_ok:PrimOk Tp 48 price48:=by
  refine primOk_pure (pol:=polW) (fn:=Try.f48) (cd:=B48) follows_mixed soundW (by kernel_rfl) (by kernel_rfl) (fnok polW.prim _ _ (by kernel_rfl)) (by kernel_rfl) ?_
  intro args res h
  unfold price48 at h
  split at h
  · rename_i n
    cases h
    by_cases g:(-10000:Int) ≤ n∧n ≤ 10000
    · exact ⟨_,_,_,.bool false,pc48_0 n g,by simp,by simp only [resultsV,res48]; rfl,by rw [decide_eq_true g]; rfl⟩
    · exact ⟨_,_,_,.bool true,pc48_1 n g,by simp,by simp only [resultsV,res48]; rfl,by rw [decide_eq_false g]; rfl⟩
  · cases h
theorem soundPm (n:Nat):CallSound Tp (callN Tp polPm n):=sound_prim _ (fun g f h=>by
  split at h
  · rename_i hg; cases h; rw [eq_of_beq hg]; exact miles_ok
  split at h
  · rename_i hg; cases h; rw [eq_of_beq hg]; exact price_ok
  split at h
  · rename_i hg; cases h; rw [eq_of_beq hg]; exact bound_ok
  · cases h) n
abbrev jpE (l:List Int) (j:Nat):Env:=env69 (.imm .arg 1 (l.map encI)) (.func 48 [] []) (.int .i64 0) Ud (.int .i64 (l.length:Int)) (.int .i64 (j:Int))
def pk (v:Int):Prop:=-10000 ≤ v∧v ≤ 10000
theorem prim_price (n:Int) (H:Heap) (b:Bool) (hb:(!decide (-10000 ≤ n∧n ≤ 10000))=b):∀ k,callN Tp polPm (k+1) 48 [.int .i64 n] H=some (.bool b,H):=fun k=>by
  rw [prim_call (pol:=polPm) (g:=48) (F:=price48) (by kernel_rfl) (rs:=[.int .i64 n]) rfl (res:=.bool b) (by rw [← hb]; rfl)]; rfl
theorem jp_loop (l:List Int) (H:Heap) (hl:l.length ≤ 1000):∀ (d j:Nat),j+d=l.length →
    ∃ x E r,RT polPm 69 (sub [1,0,1,0] B69) (jpE l j) H x E H ∧
      (((∀ v,v ∈ l.drop j → pk v)∧x=.exit 0∧E=jpE l l.length) ∨ (x=.ret∧E.get 4=.int .i64 r∧0 ≤ r∧¬ ∀ v,v ∈ l.drop j → pk v)):=by
  intro d
  induction d with
  | zero =>
    intro j hj
    have hj:j=l.length:=by omega
    subst hj
    have s1:=jp_l_2 (l.map encI) H l.length (by simp)
    rw [List.length_map] at s1
    exact ⟨_,_,0,lpo s1,.inl ⟨by simp,rfl,rfl⟩⟩
  | succ d ih =>
    intro j hj
    have hjl:j < l.length:=by omega
    have g1:=gx hjl
    rw [getD_at hjl] at g1
    rw [List.drop_eq_getElem_cons hjl]
    by_cases he:-10000 ≤ l[j]∧l[j] ≤ 10000
    · obtain ⟨x,E,r,h1,h2⟩:=ih (j+1) (by omega)
      have s1:=jp_l_1 (l.map encI) H j _ H (by simp; omega) g1 (prim_price _ H false (by rw [decide_eq_true he]; rfl))
      rw [wrap_succ (by omega),List.length_map] at s1
      refine ⟨x,E,r,lop s1 (gc_eq _ rfl) h1,?_⟩
      rcases h2 with ⟨k1,k2,k3⟩ | ⟨k1,k2,k3,k4⟩
      · exact .inl ⟨fun v hv=>by
          rcases List.mem_cons.1 hv with rfl | hv
          · exact he
          · exact k1 v hv,k2,k3⟩
      · exact .inr ⟨k1,k2,k3,fun h=>k4 fun v hv=>h v (List.mem_cons_of_mem _ hv)⟩
    · have s1:=jp_l_0 (l.map encI) H j _ H (by simp; omega) g1 (prim_price _ H true (by rw [decide_eq_false he]; rfl))
      rw [List.length_map] at s1
      exact ⟨_,_,(j:Int),lpo s1,.inr ⟨rfl,rfl,by omega,fun h=>he (h _ List.mem_cons_self)⟩⟩
theorem jp_call (l:List Int) (H:Heap) (hl:l.length ≤ 1000):∃ r,CallsTo (P:=Tp) (pol:=polPm) 69 [.imm .arg 1 (l.map encI),.func 48 [] []] H (.int .i64 r) H∧(0 ≤ r ↔ ¬ ∀ v,v ∈ l → pk v):=by
  have a1:=jp_a_0 (l.map encI) H
  have b1:=jp_b_0 (l.map encI) H
  rw [List.length_map] at b1
  obtain ⟨x,E,r,h1,h2⟩:=jp_loop l H hl l.length 0 (by omega)
  rw [List.drop_zero] at h2
  rcases h2 with ⟨k1,rfl,rfl⟩ | ⟨rfl,k2,k3,k4⟩
  · have t1:=sq b1 (bke (c:=sub [1,0,1] B69) h1) (c:=sub [1,0] B69)
    have z1:=jp_z_0 (l.map encI) H l.length
    rw [List.length_map] at z1
    have t2:=sq a1 (sq t1 z1 (c:=sub [1] B69)) (c:=B69)
    have:=CallsTo.shared (P:=Tp) (pol:=polPm) (g:=69) (fn:=Try.f69) (cd:=B69) (args:=[.imm .arg 1 (l.map encI),.func 48 [] []]) (v:=.int .i64 (-1)) (by kernel_rfl) (by kernel_rfl) (by kernel_rfl) (by kernel_rfl) t2 (by kernel_rfl) (by simp) (by simp only [resultsV,res69]; rfl)
    rw [gc_eq _ rfl] at this
    exact ⟨-1,this,fun h=>absurd h (by omega),fun h=>absurd k1 h⟩
  · have t1:=sq b1 (RunsTo.block_ret (c:=sub [1,0,1] B69) (i:=0) h1 (by kernel_rfl)) (c:=sub [1,0] B69)
    have t2:=sq a1 (sqo t1 (c:=sub [1] B69) (b:=sub [1,1] B69)) (c:=B69)
    have:=CallsTo.shared (P:=Tp) (pol:=polPm) (g:=69) (fn:=Try.f69) (cd:=B69) (args:=[.imm .arg 1 (l.map encI),.func 48 [] []]) (v:=.int .i64 r) (by kernel_rfl) (by kernel_rfl) (by kernel_rfl) (by kernel_rfl) t2 (by kernel_rfl) (by simp) (by simp only [resultsV,res69,mapO,resultV,k2])
    rw [gc_eq _ rfl] at this
    exact ⟨r,this,by simp only [k3,true_iff]; exact k4⟩
open Classical in
theorem cp_call (l:List Int) (H:Heap) (hl:l.length ≤ 1000):CallsTo (P:=Tp) (pol:=polPm) 47 [.imm .arg 1 (l.map encI),.func 48 [] []] H (.bool (decide (¬ ∀ v,v ∈ l → pk v))) H:=by
  obtain ⟨r,hc,hr⟩:=jp_call l H hl
  obtain ⟨N,hN⟩:=CallsTo.from hc
  by_cases h0:0 ≤ r
  · rw [decide_eq_true (hr.1 h0)]
    have:=CallsTo.shared (P:=Tp) (pol:=polPm) (g:=47) (fn:=Try.f47) (cd:=B47) (args:=[.imm .arg 1 (l.map encI),.func 48 [] []]) (v:=.bool true) (by kernel_rfl) (by kernel_rfl) (by kernel_rfl) (by kernel_rfl) (cp_0 N (l.map encI) H r H hN h0) (by kernel_rfl) (by simp) (by simp only [resultsV,res47]; rfl)
    rw [gc_eq _ rfl] at this
    exact this
  · rw [decide_eq_false (fun h=>h0 (hr.2 h))]
    have:=CallsTo.shared (P:=Tp) (pol:=polPm) (g:=47) (fn:=Try.f47) (cd:=B47) (args:=[.imm .arg 1 (l.map encI),.func 48 [] []]) (v:=.bool false) (by kernel_rfl) (by kernel_rfl) (by kernel_rfl) (by kernel_rfl) (cp_1 N (l.map encI) H r H hN h0) (by kernel_rfl) (by simp) (by simp only [resultsV,res47]; rfl)
    rw [gc_eq _ rfl] at this
    exact this
theorem q50 {pol':Pol} (hp:pol'.prim 50=some bound50) {d:List (List Int)} {ps:List Int} {v:HV} (hd:okD d) (hs:Small ps) (H:Heap) (hv:toArg H 6 v=some (.imm .arg 1 (d.map encR))) :
    ∀ kf,callN Tp pol' (kf+1) 50 [v,.agg (ps.map encI)] H=some (.tuple [.int .i64 (boundS d ps),.agg ((degs (chosen d ps)).map encI)],H):=fun kf=>by
  rw [prim_call (pol:=pol') (g:=50) (F:=bound50) hp (rs:=[.imm .arg 1 (d.map encR),.agg (ps.map encI)]) (by simp only [mapO,hv,arg_agg]) (res:=.tuple [.int .i64 (boundS d ps),.agg ((degs (chosen d ps)).map encI)]) (by simp only [bound50,mapO_map decR_enc,mapO_map decI_enc]; rw [if_pos ⟨hd,hs⟩])]
  have hc:∀ (l:List Int) (H:Heap),recvCells (l.map encI) H=(l.map encI,H):=fun l=>by
    induction l with
    | nil=>intro H; rfl
    | cons x l ih=>intro H; simp only [List.map_cons,recvCells,ih,encI,recvCell]
  simp only [recv,recvVals,recvVal,hc,recvCell]
set_option maxRecDepth 100000 in
theorem copy_ok {l:List Int} (hl:l.length ≤ 11):builtinV Tp .copy [23,23] [.aview 0 0 0 11,.imm .arg 1 (l.map encI)] [pB (List.replicate 11 0)]=some (.int .i64 (l.length:Int),[pB (pad l)]):=by
  have hs:splice ((List.replicate 11 (0:Int)).map encI) 0 ((l.map encI).take 11)=(pad l).map encI:=by
    rw [List.take_of_length_le (by simpa using hl)]
    unfold splice pad
    simp only [List.take_zero,List.nil_append,Nat.zero_add,List.length_map,List.map_append,← List.map_drop,List.drop_replicate]
  have hall:(l.map encI).all cellV=true:=by simp [encI,cellV]
  have e:copyV [pB (List.replicate 11 0)] (.aview 0 0 0 11) (.imm .arg 1 (l.map encI))=some (.int .i64 (l.length:Int),[pB (pad l)]):=by
    show (if (1:Nat)=1 then (if ([HV.agg ((List.replicate 11 (0:Int)).map encI)].length=1∧0+11 ≤ ((List.replicate 11 (0:Int)).map encI).length∧bndL (l.map encI)=0∧(l.map encI).all cellV=true) then some (HV.int .i64 ((min (l.map encI).length 11:Nat):Int),[Blk.arr 11 [.agg (splice ((List.replicate 11 (0:Int)).map encI) 0 ((l.map encI).take 11))] true 0]) else none) else none)=_
    rw [if_pos rfl,if_pos ⟨rfl,by simp,ints_bnd l,hall⟩,hs]
    simp only [List.length_map,Nat.min_eq_left hl]
  show (match Tp.underlying 23 with | some (.slice e)=>(match srcOf [pB (List.replicate 11 0)] (.imm .arg 1 (l.map encI)) with | some (_,k)=>if tySize Tp e=some k then copyV [pB (List.replicate 11 0)] (.aview 0 0 0 11) (.imm .arg 1 (l.map encI)) else none | none=>none) | _=>none)=_
  rw [u23]
  show (if tySize Tp 3=some 1 then copyV [pB (List.replicate 11 0)] (.aview 0 0 0 11) (.imm .arg 1 (l.map encI)) else none)=_
  rw [if_pos z3,e]
open Classical in
theorem Bound_ok:PrimOk Tp 17 bound17:=by
  refine primOk_pure (pol:=polPm) (fn:=Try.f17) (cd:=B17) follows_mixed soundPm (by kernel_rfl) (by kernel_rfl) (fnok polPm.prim _ _ (by kernel_rfl)) (by kernel_rfl) ?_
  intro args res h
  obtain ⟨d,l,rfl,hq⟩:=rlF_inv h
  clear h
  split at hq
  · rename_i hc
    obtain ⟨hc,hl⟩:=hc
    cases hq
    have a:=bd_a_0 0 (d.map encR) (l.map encI)
    have bad:∀ (E:Env) (Hd:Heap),RT polPm 17 (sub [1,0] B17) (env17 (.imm .arg 1 (d.map encR)) (.imm .arg 1 (l.map encI)) (.int .i64 0) (.int .i64 0) Ud Ud) [] .ret E Hd → E.get 4=.int .i64 0 → E.get 5=.int .i64 2 → ¬ (okD d∧l.length=d.length∧prOk l) →
        ∃ x E H' v,RT polPm 17 B17 (args0 [.imm .arg 1 (d.map encR),.imm .arg 1 (l.map encI)]) [] x E H'∧(∀ i,x ≠ .exit i)∧resultsV Tp Try.f17 E H'=some v∧toRes H' (polPm.deep 17) v=some (if okD d∧l.length=d.length∧prOk l then .tuple [.int .i64 (bndT d l),.int .i64 0] else .tuple [.int .i64 0,.int .i64 2]):=by
      intro E Hd t h4 h5 hn
      rw [if_neg hn]
      exact ⟨_,_,_,.tuple [.int .i64 0,.int .i64 2],sq a (sqo t (c:=sub [1] B17) (b:=sub [1,1] B17)) (c:=B17),by simp,by simp only [resultsV,res17,mapO,resultV,h4,h5],rfl⟩
    by_cases c1:okD d
    · have hn:=c1.1
      have m1:=prim_miles (pol':=polPm) (by kernel_rfl) hc.1 hc.2 [] true (okB_true c1)
      by_cases c2:l.length=d.length
      · obtain ⟨N,hN⟩:=CallsTo.from (cp_call l [] hl)
        by_cases c3:prOk l
        · rw [decide_eq_false (fun h=>h c3)] at hN
          rw [if_pos ⟨c1,c2,c3⟩]
          have b:=bd_b_1 N (d.map encR) (l.map encI) (y6:=Ud) (y7:=Ud) m1 (by simp only [List.length_map]; omega) hN
          by_cases c4:d.length < 3
          · have e1:IntKind.i64.wrap (((d.map encR).length:Int) - 1)=((d.length - 1:Nat):Int):=by rw [List.length_map,wrap_pred (by omega) (by omega)]
            have b1:=c1.at (i:=0) (j:=d.length - 1) (by omega) (by omega)
            have c:=bd_c_0 0 (d.map encR) (l.map encI) (y6:=Ud) (y7:=Ud) (by rw [List.length_map]; omega) (g22' (d:=d) (v:=0) (by omega)) (by rw [e1]; exact g23' c1 (by omega) (by omega))
            rw [wrap_id (by omega) (by omega)] at c
            have t:=sq a (sq b (sqo c (c:=sub [1,1] B17) (b:=sub [1,1,1] B17)) (c:=sub [1] B17)) (c:=B17)
            have e:bndT d l=2 * at2 d 0 (d.length - 1):=if_pos c4
            rw [e]
            exact ⟨_,_,_,.tuple [.int .i64 (2 * at2 d 0 (d.length - 1)),.int .i64 0],t,by simp,by simp only [resultsV,res17]; rfl,rfl⟩
          · have c:=bd_c_1 0 (d.map encR) (l.map encI) (y6:=Ud) (y7:=Ud) (by rw [List.length_map]; omega)
            have dd:=bd_d_0 0 (d.map encR) (l.map encI) (y6:=Ud) (y7:=Ud)
            have e':=bd_e_0 0 (d.map encR) (l.map encI) (y7:=Ud) (copy_ok (by omega))
            have hs:=pad_small (by omega) c3
            have f:=bd_f_0 0 (d.map encR) (l.map encI) ((pad l).map encI) (y7:=Ud) (pl_all (b:=0) rfl hs.1) (q50 (pol':=polPm) (by kernel_rfl) c1 hs _ (arg_rw _ d)) (pst_all (H:=[pB (pad l),pB (List.replicate 11 0)]) (b:=1) (t:=List.replicate 11 0) rfl rfl (degs_ok c1 _ _ 0 (chosen_in c1) CtB.zero))
            have t1:=sq dd (sq e' f (c:=sub [1,1,1,1] B17)) (c:=sub [1,1,1] B17)
            have t:=sq a (sq b (sq c t1 (c:=sub [1,1] B17)) (c:=sub [1] B17)) (c:=B17)
            have e:bndT d l=boundS d (pad l):=if_neg c4
            rw [e]
            exact ⟨_,_,_,.tuple [.int .i64 (boundS d (pad l)),.int .i64 0],t,by simp,by simp only [resultsV,res17]; rfl,rfl⟩
        · have c3':¬ ∀ v,v ∈ l → pk v:=c3
          rw [decide_eq_true (p:=¬ ∀ v,v ∈ l → pk v) c3'] at hN
          exact bad _ _ (bd_b_0 N (d.map encR) (l.map encI) (y6:=Ud) (y7:=Ud) m1 (by simp only [List.length_map]; omega) hN) rfl rfl (fun h=>c3 h.2.2)
      · exact bad _ _ (bd_b_2 0 (d.map encR) (l.map encI) (y6:=Ud) (y7:=Ud) m1 (by simp only [List.length_map]; omega)) rfl rfl (fun h=>c2 h.2.1)
    · have m1:=prim_miles (pol':=polPm) (by kernel_rfl) hc.1 hc.2 [] false (okB_false c1)
      exact bad _ _ (bd_b_3 0 (d.map encR) (l.map encI) (y6:=Ud) (y7:=Ud) m1) rfl rfl (fun h=>c1 h.1)
  · cases hq
end Go.Proofs.Ytlendaofkmhgmaa
end
section
open Go Go.HL Go.HL.So
namespace Go.Proofs.Ytlendaofkmhgmaa
abbrev bF (l:List Ed):Blk:=.arr 3 (l.map encF) true 0
abbrev hF (Ls:List (List Ed)):Heap:=Ls.map bF
end Go.Proofs.Ytlendaofkmhgmaa
end
section
open Go Go.HL Go.HL.So
namespace Go.Proofs.Ytlendaofkmhgmaa
section
variable {d:List (List Int)} {l:List Int} {f:Nat}
theorem prOk.at (h:prOk l) {i:Nat} (hi:i < l.length):-10000 ≤ l.getD i 0∧l.getD i 0 ≤ 10000:=by
  have e:l.getD i 0=l[i]:=by simp [List.getD,List.getElem?_eq_getElem hi]
  rw [e]; exact h _ (List.getElem_mem _)
end
end Go.Proofs.Ytlendaofkmhgmaa
end
section
open Go Go.HL Go.HL.So
namespace Go.Proofs.Ytlendaofkmhgmaa
theorem edg_cong {d:List (List Int)} {p p':List Int} {f:Nat} (hf:f ≤ d.length) (h:∀ a,a < d.length → p.getD a 0=p'.getD a 0):edg d p f=edg d p' f:=by
  obtain ⟨h1,h2⟩:=edg_ok (d:=d) (p:=p) hf
  obtain ⟨h3,h4⟩:=edg_ok (d:=d) (p:=p') hf
  refine strict_eq h1 h3 fun e=>(h2 e).trans (Iff.trans ?_ (h4 e).symm)
  have key:∀ x y,x < y → y < d.length → mkE d p x y=mkE d p' x y:=fun x y hxy hy=>by
    simp only [mkE,cst]
    rw [h x (by omega),h y hy]
  constructor
  · rintro ⟨x,y,hh,e⟩; exact ⟨x,y,hh,by rw [e,key x y hh.2.1 hh.2.2]⟩
  · rintro ⟨x,y,hh,e⟩; exact ⟨x,y,hh,by rw [e,key x y hh.2.1 hh.2.2]⟩
theorem chosen_cong {d:List (List Int)} {p p':List Int} (hd:1 ≤ d.length) (h:∀ a,a < d.length → p.getD a 0=p'.getD a 0):chosen d p=chosen d p':=by
  unfold chosen treeL
  rw [edg_cong (f:=1) hd h,edg_cong (f:=0) (by omega) h]
theorem pad_get (l:List Int) (a:Nat) (ha:a < l.length):(pad l).getD a 0=l.getD a 0:=by
  simp only [pad,List.getD,List.getElem?_append_left ha]
theorem sumP_app (a b:List Int) (s:Int):sumP (a ++ b) s=sumP b (sumP a s):=by simp [sumP,List.foldl_append]
theorem sumP_zero:∀ (k:Nat) (s:Int),sumP (List.replicate k 0) s=s
  | 0,_=>rfl
  | k+1,s=>by
    have:=sumP_zero k (s - 2 * 0)
    rw [show s - 2 * 0=s by omega] at this
    show sumP (List.replicate k 0) (s - 2 * 0)=s
    rw [show s - 2 * 0=s by omega,this]
theorem sumP_pad (l:List Int) (s:Int):sumP (pad l) s=sumP l s:=by rw [pad,sumP_app,sumP_zero]
theorem sumA_bd:∀ (l:List Ed) (s:Int),costOk l → s - 3000000000 * (l.length:Int) ≤ sumA l s∧sumA l s ≤ s+3000000000 * (l.length:Int)
  | [],s,_=>by simp [sumA]
  | e :: l,s,h=>by
    have h1:=h e (by simp)
    have h2:=sumA_bd l (s+e.1) (fun x hx=>h x (by simp [hx]))
    show s - 3000000000 * ((e :: l).length:Int) ≤ sumA l (s+e.1)∧sumA l (s+e.1) ≤ _
    rw [List.length_cons]
    omega
end Go.Proofs.Ytlendaofkmhgmaa
end
section
open Go Go.HL Go.HL.So
namespace Go.Proofs.Ytlendaofkmhgmaa
theorem countP_lt {p q:Nat → Bool}:∀ {l:List Nat} {a:Nat},(∀ x ∈ l,q x=true → p x=true) → a ∈ l → p a=true → q a=false → l.countP q+1 ≤ l.countP p
  | [],a,_,h,_,_=>by cases h
  | x :: l,a,hm,ha,h1,h2=>by
    have mono:l.countP q ≤ l.countP p:=List.countP_mono_left fun y hy=>hm y (by simp [hy])
    rw [List.countP_cons,List.countP_cons]
    rcases List.mem_cons.1 ha with rfl | ha'
    · rw [h1,h2]; simp; omega
    · have ih:=countP_lt (fun y hy=>hm y (by simp [hy])) ha' h1 h2
      have hx:=hm x (by simp)
      cases hq:q x
      · cases hp:p x <;> simp <;> omega
      · rw [hx hq]; simp; omega
def rootB (g:List Int) (x:Nat):Bool:=decide (1 ≤ x∧g.getD x 0=(x:Int))
def rts (n:Nat) (g:List Int):Nat:=(List.range n).countP (rootB g)
def KInv (n:Nat) (g:List Int):Prop:=g.length=n∧∀ x,x < n → (∃ y:Nat,y < n∧g.getD x 0=(y:Int)∧g.getD y 0=(y:Int))∧(1 ≤ x → 1 ≤ g.getD x 0)
theorem KInv.iota (n:Nat):KInv n (iota n):=⟨iota_len n,fun x hx=>⟨⟨x,hx,iota_at hx,iota_at hx⟩,fun h=>by rw [iota_at hx]; omega⟩⟩
theorem KInv.step {n:Nat} {g:List Int} (h:KInv n g) {a b:Nat} (ha:a < n) (hb:b < n) (h1a:1 ≤ a) (h1b:1 ≤ b) (hne:g.getD a 0 ≠ g.getD b 0) :
    KInv n (rlb (g.getD a 0) (g.getD b 0) g.length 0 g)∧rts n (rlb (g.getD a 0) (g.getD b 0) g.length 0 g)+1 ≤ rts n g:=by
  obtain ⟨hl,h⟩:=h
  obtain ⟨⟨ya,hya,ea,eya⟩,pa⟩:=h a ha
  obtain ⟨⟨yb,hyb,eb,eyb⟩,pb⟩:=h b hb
  have hat:∀ x,x < n → (rlb (g.getD a 0) (g.getD b 0) g.length 0 g).getD x 0=if g.getD x 0=g.getD a 0 then g.getD b 0 else g.getD x 0:=fun x hx=>rlb_at _ _ _ (by omega)
  have hgl:=rlb_len (g.getD a 0) (g.getD b 0) g.length 0 g
  generalize rlb (g.getD a 0) (g.getD b 0) g.length 0 g=g' at hat hgl ⊢
  have pa:=pa h1a
  have pb:=pb h1b
  rw [ea] at hne pa hat
  rw [eb] at hne pb hat
  refine ⟨⟨?_,fun x hx=>?_⟩,?_⟩
  · rw [hgl,hl]
  · obtain ⟨⟨y,hy,e1,e2⟩,p⟩:=h x hx
    rw [hat x hx]
    by_cases c:g.getD x 0=(ya:Int)
    · rw [if_pos c]
      refine ⟨⟨yb,hyb,rfl,?_⟩,fun _=>pb⟩
      rw [hat yb hyb,eyb,if_neg (fun h=>hne h.symm)]
    · rw [if_neg c]
      refine ⟨⟨y,hy,e1,?_⟩,p⟩
      rw [hat y hy,e2,if_neg (by rw [← e1]; exact c)]
  · refine countP_lt (a:=ya) (fun x hx hq=>?_) (List.mem_range.2 hya) (decide_eq_true ⟨by omega,eya⟩) (decide_eq_false fun h=>?_)
    · have hx:=List.mem_range.1 hx
      obtain ⟨h1,h2⟩:=of_decide_eq_true hq
      rw [hat x hx] at h2
      refine decide_eq_true ⟨h1,?_⟩
      by_cases c:g.getD x 0=(ya:Int)
      · rw [if_pos c] at h2
        have:yb=x:=by omega
        subst this
        rw [eyb] at c
        exact absurd c.symm hne
      · rwa [if_neg c] at h2
    · have h2:=h.2
      rw [hat ya hya,if_pos eya] at h2
      exact hne h2.symm
theorem rts_pos {n:Nat} {g:List Int} (h:KInv n g) (hn:2 ≤ n):1 ≤ rts n g:=by
  obtain ⟨⟨y,hy,e1,e2⟩,p⟩:=h.2 1 (by omega)
  have:=countP_lt (p:=rootB g) (q:=fun _=>false) (l:=List.range n) (a:=y) (fun x _ h=>by cases h) (List.mem_range.2 hy) (decide_eq_true ⟨by have:=p (Nat.le_refl 1); omega,e2⟩) rfl
  exact Nat.le_trans (Nat.le_add_left 1 _) this
theorem rts_le {n:Nat} (g:List Int) (hn:1 ≤ n):rts n g+1 ≤ n:=by
  have:=countP_lt (p:=fun _=>true) (q:=rootB g) (l:=List.range n) (a:=0) (fun _ _ _=>rfl) (List.mem_range.2 hn) rfl (decide_eq_false fun h=>by omega)
  rw [show (List.range n).countP (fun _=>true)=n by simp] at this
  exact this
theorem krP_rts {n:Nat} (hn:2 ≤ n):∀ (l:List Ed) (g:List Int),KInv n g → (∀ e ∈ l,(1 ≤ e.2.1.toNat∧e.2.1.toNat < n)∧1 ≤ e.2.2.toNat∧e.2.2.toNat < n) → (krP l g).length+1 ≤ rts n g
  | [],g,h,_=>rts_pos h hn
  | e :: l,g,h,he=>by
    obtain ⟨⟨h1,h2⟩,h3,h4⟩:=he e (by simp)
    have he':=fun x hx=>he x (List.mem_cons_of_mem e hx)
    rw [krP]
    split
    · exact krP_rts hn l g h he'
    · rename_i c
      obtain ⟨k1,k2⟩:=h.step h2 h4 h1 h3 c
      have:=krP_rts hn l _ k1 he'
      rw [List.length_cons]; omega
theorem chosen_n {d:List (List Int)} {p:List Int} (hn:2 ≤ d.length):(chosen d p).length ≤ d.length:=by
  have h1:=krP_rts hn (edg d p 1) (iota d.length) (KInv.iota _) fun e he=>by
    obtain ⟨x,y,h,rfl⟩:=((edg_ok (d:=d) (p:=p) (f:=1) (by omega)).2 e).1 he
    simp only [mkE,Int.toNat_natCast]
    omega
  have h2:=rts_le (n:=d.length) (iota d.length) (by omega)
  have h3:=two2_len (edg d p 0) 0
  unfold chosen treeL
  rw [List.length_append]
  omega
theorem degs_bd {n:Nat} (hn:n ≤ 11):∀ (l:List Ed) (t:List Int) (k:Nat),EIn n l → CtB t k → CtB (l.foldl dstep t) (k+l.length)
  | [],t,k,_,h=>h
  | e :: l,t,k,he,h=>by
    obtain ⟨⟨_,h1⟩,_,h2⟩:=he e (by simp)
    have:=degs_bd hn l (dstep t e) (k+1) (fun x hx=>he x (by simp [hx])) (h.step (by omega) (by omega))
    rw [List.length_cons,show k+(l.length+1)=k+1+l.length by omega]
    exact this
theorem degs_at {d:List (List Int)} {p:List Int} (hd:okD d) (hn:2 ≤ d.length):CtB (degs (chosen d p)) 11:=by
  have hdn:=hd.1
  have h1:=degs_bd (n:=d.length) hdn.2 (chosen d p) _ 0 (chosen_in hd) CtB.zero
  have h2:=chosen_n (p:=p) hn
  refine ⟨h1.1,fun x hx=>?_⟩
  have:=h1.2 x hx
  show 0 ≤ (degs (chosen d p)).getD x 0∧(degs (chosen d p)).getD x 0 ≤ _
  unfold degs
  omega
def cstep (d:List (List Int)) (p:List Int):List Int:=(List.range d.length).map fun i=>p.getD i 0+((degs (chosen d p)).getD i 0 - 2)
def zer (n:Nat):List Int:=List.replicate n 0
theorem cstep_len (d:List (List Int)) (p:List Int):(cstep d p).length=d.length:=by simp [cstep]
theorem cstep_at {d:List (List Int)} {p:List Int} {i:Nat} (hi:i < d.length):(cstep d p).getD i 0=p.getD i 0+((degs (chosen d p)).getD i 0 - 2):=by
  simp [cstep,List.getD,List.getElem?_map,List.getElem?_range hi]
def PB (n k:Nat) (p:List Int):Prop:=p.length=n∧∀ i,i < n → -2 * (k:Int) ≤ p.getD i 0∧p.getD i 0 ≤ 20 * (k:Int)
theorem PB.zero (n:Nat):PB n 0 (zer n):=⟨by simp [zer],fun i hi=>by
  have:(zer n).getD i 0=0:=by rw [zer,List.getD,List.getElem?_replicate,if_pos hi]; rfl
  rw [this]; omega⟩
theorem PB.step {d:List (List Int)} {p:List Int} {k:Nat} (hd:okD d) (hn:2 ≤ d.length) (h:PB d.length k p):PB d.length (k+1) (cstep d p):=by
  refine ⟨cstep_len d p,fun i hi=>?_⟩
  have hdn:=hd.1
  rw [cstep_at hi]
  have h1:=h.2 i hi
  have h2:=(degs_at (p:=p) hd hn).2 i (by omega)
  omega
theorem PB.ok {n k:Nat} {p:List Int} (h:PB n k p) (hk:k ≤ 200):prOk p:=fun v hv=>by
  obtain ⟨i,hi,rfl⟩:=List.getElem_of_mem hv
  have h2:=h.2 i (by rw [← h.1]; exact hi)
  rw [show p.getD i 0=p[i] by simp [List.getD,List.getElem?_eq_getElem hi]] at h2
  omega
theorem bndT_eq {d:List (List Int)} {p:List Int} (hn:¬ d.length < 3) (hp:p.length=d.length):bndT d p=boundS d p:=by
  unfold bndT
  rw [if_neg hn]
  show sumP (pad p) (sumA (chosen d (pad p)) 0)=sumP p (sumA (chosen d p) 0)
  rw [sumP_pad,chosen_cong (p:=pad p) (p':=p) (by omega) (fun a ha=>pad_get p a (by omega))]
end Go.Proofs.Ytlendaofkmhgmaa
end
section
open Go Go.HL
namespace Go.Proofs.Ytlendaofkmhgmaa
set_option maxRecDepth 100000
open Go.Proofs.Try renaming prog → Tp
open Go.HL.HV renaming undef → Ud
noncomputable def B55:Code:=Try.f55.body.getD .skip
abbrev env55 (v0 v1 v2 v5 v6 v8 v9 v10 v11 v31 v32:HV):Env:=[(0,v0),(1,v1),(2,v2),(5,v5),(6,v6),(8,v8),(9,v9),(10,v10),(11,v11),(31,v31),(32,v32)]
theorem rs_a_0 (N:Nat) (rw:List HV) (mb v w kb:Nat) (H:Heap) (H0:Heap) (g0:some (newV (.agg [.i (v:Int),.i (w:Int)]) H)=some (.ptr kb 0 0 1,H0)):RT polI 55 (sub [0] B55) [(0,.imm .arg 1 rw),(1,.map mb),(2,.agg [.i (v:Int),.i (w:Int)])] H .normal (env55 (.imm .arg 1 rw) (.map mb) (.agg [.i (v:Int),.i (w:Int)]) (.ptr kb 0 0 1) (.i 0) Ud Ud Ud Ud Ud Ud) H0 :=
  RunsTo.hin N 60 [⟨0,0,.ptr kb 0 0 1,H0⟩] fun kf hk=>⟨_,by kernel_rfl,(oC (g0) .nil)⟩
theorem rs_b_0 (N:Nat) (rw:List HV) (mb v w kb:Nat) (H:Heap) (l0:List HV) (x0:Int) (g0:loadV Tp H 3 (.ptr kb 0 1 1)=some (.i (w:Int))) (g1:(w:Int)=0) (g2:loadV Tp H 3 (.ptr kb 0 0 1)=some (.i (v:Int))) (g3:idxV Tp 68 (.imm .arg 1 rw) (.i (v:Int))=some (.vptr (.imm .arg 1 l0))) (g4:idxV Tp 23 (.imm .arg 1 l0) (.i 0)=some (.vptr (.i x0))):RT polI 55 (sub [1,0] B55) (env55 (.imm .arg 1 rw) (.map mb) (.agg [.i (v:Int),.i (w:Int)]) (.ptr kb 0 0 1) (.i 0) Ud Ud Ud Ud Ud Ud) H .ret (env55 (.imm .arg 1 rw) (.map mb) (.agg [.i (v:Int),.i (w:Int)]) (.ptr kb 0 0 1) (.i x0) Ud Ud Ud Ud Ud Ud) H :=
  RunsTo.hin N 60 [⟨1,1,.i (w:Int),H⟩,⟨1,2,.bool true,H⟩,⟨2,2,.i (v:Int),H⟩,⟨2,3,.vptr (.imm .arg 1 l0),H⟩,⟨2,5,.vptr (.i x0),H⟩] fun kf hk=>⟨_,by kernel_rfl,(oP H g0 (oB H (decide_eq_true g1) (oP H g2 (oP H g3 (oP H g4 .nil)))))⟩
theorem rs_b_1 (N:Nat) (rw:List HV) (mb v w kb:Nat) (H:Heap)(g0:loadV Tp H 3 (.ptr kb 0 1 1)=some (.i (w:Int))) (g1:¬ ((w:Int)=0)):RT polI 55 (sub [1,0] B55) (env55 (.imm .arg 1 rw) (.map mb) (.agg [.i (v:Int),.i (w:Int)]) (.ptr kb 0 0 1) (.i 0) Ud Ud Ud Ud Ud Ud) H .normal (env55 (.imm .arg 1 rw) (.map mb) (.agg [.i (v:Int),.i (w:Int)]) (.ptr kb 0 0 1) (.i 0) Ud Ud Ud Ud Ud Ud) H :=
  RunsTo.hin N 60 [⟨1,1,.i (w:Int),H⟩,⟨1,2,.bool false,H⟩] fun kf hk=>⟨_,by kernel_rfl,(oP H g0 (oB H (decide_eq_false g1) .nil))⟩
theorem rs_c_0 (N:Nat) (rw:List HV) (mb v w kb:Nat) (H:Heap) (t0:Int) (g0:loadV Tp H 77 (.ptr kb 0 0 1)=some (.agg [.i (v:Int),.i (w:Int)])) (g1:lkG Tp 82 H mb (.agg [.i (v:Int),.i (w:Int)]) true=some (.tuple [.i t0,.bool true],H)):RT polI 55 (sub [1,1,0,0] B55) (env55 (.imm .arg 1 rw) (.map mb) (.agg [.i (v:Int),.i (w:Int)]) (.ptr kb 0 0 1) (.i 0) Ud Ud Ud Ud Ud Ud) H .normal (env55 (.imm .arg 1 rw) (.map mb) (.agg [.i (v:Int),.i (w:Int)]) (.ptr kb 0 0 1) (.i 0) (.bool true) Ud Ud Ud Ud Ud) H :=
  RunsTo.hin N 60 [⟨3,1,.agg [.i (v:Int),.i (w:Int)],H⟩,⟨3,2,.tuple [.i t0,.bool true],H⟩] fun kf hk=>⟨_,by kernel_rfl,(oP H g0 (oC (g1) .nil))⟩
theorem rs_c_1 (N:Nat) (rw:List HV) (mb v w kb:Nat) (H:Heap)(g0:loadV Tp H 77 (.ptr kb 0 0 1)=some (.agg [.i (v:Int),.i (w:Int)])) (g1:lkG Tp 82 H mb (.agg [.i (v:Int),.i (w:Int)]) true=some (.tuple [.i 0,.bool false],H)):RT polI 55 (sub [1,1,0,0] B55) (env55 (.imm .arg 1 rw) (.map mb) (.agg [.i (v:Int),.i (w:Int)]) (.ptr kb 0 0 1) (.i 0) Ud Ud Ud Ud Ud Ud) H .normal (env55 (.imm .arg 1 rw) (.map mb) (.agg [.i (v:Int),.i (w:Int)]) (.ptr kb 0 0 1) (.i 0) (.bool false) Ud Ud Ud Ud Ud) H :=
  RunsTo.hin N 60 [⟨3,1,.agg [.i (v:Int),.i (w:Int)],H⟩,⟨3,2,.tuple [.i 0,.bool false],H⟩] fun kf hk=>⟨_,by kernel_rfl,(oP H g0 (oC (g1) .nil))⟩
theorem rs_dt_0 (N:Nat) (rw:List HV) (mb v w kb:Nat) (H:Heap):RunsTo Tp polI 55 (sub [1,1,0,1,0] B55) (env55 (.imm .arg 1 rw) (.map mb) (.agg [.i (v:Int),.i (w:Int)]) (.ptr kb 0 0 1) (.i 0) (.bool true) Ud Ud Ud Ud Ud) H .normal [0,1,2,5,6,8,9,10,11,31,32,29] [(0,.imm .arg 1 rw),(1,.map mb),(2,.agg [.i (v:Int),.i (w:Int)]),(5,.ptr kb 0 0 1),(6,.i 0),(8,.bool true),(9,Ud),(10,Ud),(11,Ud),(31,Ud),(32,Ud),(29,.bool false)] H :=
  RunsTo.hin N 60 [] fun kf hk=>⟨_,by kernel_rfl,.nil⟩
theorem rs_df_0 (N:Nat) (rw:List HV) (mb v w kb:Nat) (H:Heap):RunsTo Tp polI 55 (sub [1,1,0,1,0] B55) (env55 (.imm .arg 1 rw) (.map mb) (.agg [.i (v:Int),.i (w:Int)]) (.ptr kb 0 0 1) (.i 0) (.bool false) Ud Ud Ud Ud Ud) H .normal [0,1,2,5,6,8,9,10,11,31,32,29] [(0,.imm .arg 1 rw),(1,.map mb),(2,.agg [.i (v:Int),.i (w:Int)]),(5,.ptr kb 0 0 1),(6,.i 0),(8,.bool false),(9,Ud),(10,Ud),(11,Ud),(31,Ud),(32,Ud),(29,.bool true)] H :=
  RunsTo.hin N 60 [] fun kf hk=>⟨_,by kernel_rfl,.nil⟩
theorem rs_e_0 (N:Nat) (rw:List HV) (mb v w kb:Nat) (H:Heap):RT polI 55 (sub [1,1,0,1,1,0,0] B55) (env55 (.imm .arg 1 rw) (.map mb) (.agg [.i (v:Int),.i (w:Int)]) (.ptr kb 0 0 1) (.i 0) (.bool false) Ud Ud Ud Ud Ud) H .normal (env55 (.imm .arg 1 rw) (.map mb) (.agg [.i (v:Int),.i (w:Int)]) (.ptr kb 0 0 1) (.i 0) (.bool false) (.i (-1)) Ud Ud Ud Ud) H :=
  RunsTo.hin N 60 [] fun kf hk=>⟨_,by kernel_rfl,.nil⟩
theorem rs_f_0 (N:Nat) (rw:List HV) (mb v w kb:Nat) (H:Heap) (mo:Int):RT polI 55 (sub [1,1,0,1,1,0,1,0,0] B55) (env55 (.imm .arg 1 rw) (.map mb) (.agg [.i (v:Int),.i (w:Int)]) (.ptr kb 0 0 1) (.i 0) (.bool false) (.i mo) Ud Ud Ud Ud) H .normal (env55 (.imm .arg 1 rw) (.map mb) (.agg [.i (v:Int),.i (w:Int)]) (.ptr kb 0 0 1) (.i 0) (.bool false) (.i mo) Ud Ud (.i (rw.length:Int)) (.i 0)) H :=
  RunsTo.hin N 60 [] fun kf hk=>⟨_,by kernel_rfl,.nil⟩
theorem rs_l_0 (N:Nat) (rw:List HV) (mb v w kb:Nat) (H:Heap) (mo:Int) (n i:Nat) (h0:Int) (h1:Int) (l0:List HV) (x0:Int) (h2:Int) (h3:Int) (s:Int) (H0:Heap) (g0:(i:Int) < (n:Int)) (g1:loadV Tp H 3 (.ptr kb 0 1 1)=some (.i (w:Int))) (g2:binV Tp .shr 3 (.i (w:Int)) (.i (i:Int))=some (.i h0)) (g3:binV Tp .and 3 (.i h0) (.i 1)=some (.i h1)) (g4:h1=1) (g5:loadV Tp H 3 (.ptr kb 0 0 1)=some (.i (v:Int))) (g6:idxV Tp 68 (.imm .arg 1 rw) (.i (v:Int))=some (.vptr (.imm .arg 1 l0))) (g7:idxV Tp 23 (.imm .arg 1 l0) (.i (i:Int))=some (.vptr (.i x0))) (g8:loadV Tp H 3 (.ptr kb 0 1 1)=some (.i (w:Int))) (g9:binV Tp .shl 3 (.i 1) (.i (i:Int))=some (.i h2)) (g10:binV Tp .andNot 3 (.i (w:Int)) (.i h2)=some (.i h3)) (g11:∀ kf,N ≤ kf → callN Tp polI (kf+1) 55 [.imm .arg 1 rw,.map mb,.agg [.i (i:Int),.i h3]] H=some (.i s,H0)) (gS10:(recL ((loadV Tp H 3 (.ptr kb 0 0 1)).map (fun v=>(v,(H:Heap)))) ((loadV Tp H0 3 (.ptr kb 0 0 1)).map (fun v=>(v,(H0:Heap)))) H H0 && ((same (.imm .arg 1 l0) (.imm .arg 1 l0) && sameH (H:Heap) H && sameH (H0:Heap) H0) && ((same (.i x0) (.i x0) && sameH (H:Heap) H && sameH (H0:Heap) H0) && true)))=true) (g13:mo < 0):RT polI 55 (sub [1,1,0,1,1,0,1,0,1,0,0] B55) (env55 (.imm .arg 1 rw) (.map mb) (.agg [.i (v:Int),.i (w:Int)]) (.ptr kb 0 0 1) (.i 0) Ud (.i mo) Ud Ud (.i (n:Int)) (.i (i:Int))) H .normal (env55 (.imm .arg 1 rw) (.map mb) (.agg [.i (v:Int),.i (w:Int)]) (.ptr kb 0 0 1) (.i 0) Ud (.i (IntKind.i64.wrap (x0+s))) (.i (i:Int)) (.i (IntKind.i64.wrap (x0+s))) (.i (n:Int)) (.i (IntKind.i64.wrap ((i:Int)+1)))) H0 :=
  RunsTo.hin N 60 [⟨7,0,.bool true,H⟩,⟨9,1,.i (w:Int),H⟩,⟨9,3,.i h0,H⟩,⟨9,4,.i h1,H⟩,⟨9,5,.bool true,H⟩,⟨10,2,.i (v:Int),H⟩,⟨10,3,.vptr (.imm .arg 1 l0),H⟩,⟨10,6,.vptr (.i x0),H⟩,⟨10,12,.i (w:Int),H⟩,⟨10,14,.i h2,H⟩,⟨10,15,.i h3,H⟩,⟨10,17,.i s,H0⟩,⟨11,1,.bool true,H0⟩] fun kf hk=>⟨_,by kernel_rfl,(oB H (decide_eq_true g0) (oP H g1 (oP H g2 (oP H g3 (oB H (decide_eq_true g4) (oC (gS10) (oP H g5 (oP H g6 (oP H g7 (oP H g8 (oP H g9 (oP H g10 (oC (g11 kf (by omega)) (oB H0 (decide_eq_true g13) .nil))))))))))))))⟩
theorem rs_l_1 (N:Nat) (rw:List HV) (mb v w kb:Nat) (H:Heap) (mo:Int) (n i:Nat) (h0:Int) (h1:Int) (l0:List HV) (x0:Int) (h2:Int) (h3:Int) (s:Int) (H0:Heap) (g0:(i:Int) < (n:Int)) (g1:loadV Tp H 3 (.ptr kb 0 1 1)=some (.i (w:Int))) (g2:binV Tp .shr 3 (.i (w:Int)) (.i (i:Int))=some (.i h0)) (g3:binV Tp .and 3 (.i h0) (.i 1)=some (.i h1)) (g4:h1=1) (g5:loadV Tp H 3 (.ptr kb 0 0 1)=some (.i (v:Int))) (g6:idxV Tp 68 (.imm .arg 1 rw) (.i (v:Int))=some (.vptr (.imm .arg 1 l0))) (g7:idxV Tp 23 (.imm .arg 1 l0) (.i (i:Int))=some (.vptr (.i x0))) (g8:loadV Tp H 3 (.ptr kb 0 1 1)=some (.i (w:Int))) (g9:binV Tp .shl 3 (.i 1) (.i (i:Int))=some (.i h2)) (g10:binV Tp .andNot 3 (.i (w:Int)) (.i h2)=some (.i h3)) (g11:∀ kf,N ≤ kf → callN Tp polI (kf+1) 55 [.imm .arg 1 rw,.map mb,.agg [.i (i:Int),.i h3]] H=some (.i s,H0)) (gS10:(recL ((loadV Tp H 3 (.ptr kb 0 0 1)).map (fun v=>(v,(H:Heap)))) ((loadV Tp H0 3 (.ptr kb 0 0 1)).map (fun v=>(v,(H0:Heap)))) H H0 && ((same (.imm .arg 1 l0) (.imm .arg 1 l0) && sameH (H:Heap) H && sameH (H0:Heap) H0) && ((same (.i x0) (.i x0) && sameH (H:Heap) H && sameH (H0:Heap) H0) && true)))=true) (g13:¬ (mo < 0)) (g14:IntKind.i64.wrap (x0+s) < mo):RT polI 55 (sub [1,1,0,1,1,0,1,0,1,0,0] B55) (env55 (.imm .arg 1 rw) (.map mb) (.agg [.i (v:Int),.i (w:Int)]) (.ptr kb 0 0 1) (.i 0) Ud (.i mo) Ud Ud (.i (n:Int)) (.i (i:Int))) H .normal (env55 (.imm .arg 1 rw) (.map mb) (.agg [.i (v:Int),.i (w:Int)]) (.ptr kb 0 0 1) (.i 0) Ud (.i (IntKind.i64.wrap (x0+s))) (.i (i:Int)) (.i (IntKind.i64.wrap (x0+s))) (.i (n:Int)) (.i (IntKind.i64.wrap ((i:Int)+1)))) H0 :=
  RunsTo.hin N 60 [⟨7,0,.bool true,H⟩,⟨9,1,.i (w:Int),H⟩,⟨9,3,.i h0,H⟩,⟨9,4,.i h1,H⟩,⟨9,5,.bool true,H⟩,⟨10,2,.i (v:Int),H⟩,⟨10,3,.vptr (.imm .arg 1 l0),H⟩,⟨10,6,.vptr (.i x0),H⟩,⟨10,12,.i (w:Int),H⟩,⟨10,14,.i h2,H⟩,⟨10,15,.i h3,H⟩,⟨10,17,.i s,H0⟩,⟨11,1,.bool false,H0⟩,⟨11,5,.bool true,H0⟩] fun kf hk=>⟨_,by kernel_rfl,(oB H (decide_eq_true g0) (oP H g1 (oP H g2 (oP H g3 (oB H (decide_eq_true g4) (oC (gS10) (oP H g5 (oP H g6 (oP H g7 (oP H g8 (oP H g9 (oP H g10 (oC (g11 kf (by omega)) (oB H0 (decide_eq_false g13) (oB H0 (decide_eq_true g14) .nil)))))))))))))))⟩
theorem rs_l_2 (N:Nat) (rw:List HV) (mb v w kb:Nat) (H:Heap) (mo:Int) (n i:Nat) (h0:Int) (h1:Int) (l0:List HV) (x0:Int) (h2:Int) (h3:Int) (s:Int) (H0:Heap) (g0:(i:Int) < (n:Int)) (g1:loadV Tp H 3 (.ptr kb 0 1 1)=some (.i (w:Int))) (g2:binV Tp .shr 3 (.i (w:Int)) (.i (i:Int))=some (.i h0)) (g3:binV Tp .and 3 (.i h0) (.i 1)=some (.i h1)) (g4:h1=1) (g5:loadV Tp H 3 (.ptr kb 0 0 1)=some (.i (v:Int))) (g6:idxV Tp 68 (.imm .arg 1 rw) (.i (v:Int))=some (.vptr (.imm .arg 1 l0))) (g7:idxV Tp 23 (.imm .arg 1 l0) (.i (i:Int))=some (.vptr (.i x0))) (g8:loadV Tp H 3 (.ptr kb 0 1 1)=some (.i (w:Int))) (g9:binV Tp .shl 3 (.i 1) (.i (i:Int))=some (.i h2)) (g10:binV Tp .andNot 3 (.i (w:Int)) (.i h2)=some (.i h3)) (g11:∀ kf,N ≤ kf → callN Tp polI (kf+1) 55 [.imm .arg 1 rw,.map mb,.agg [.i (i:Int),.i h3]] H=some (.i s,H0)) (gS10:(recL ((loadV Tp H 3 (.ptr kb 0 0 1)).map (fun v=>(v,(H:Heap)))) ((loadV Tp H0 3 (.ptr kb 0 0 1)).map (fun v=>(v,(H0:Heap)))) H H0 && ((same (.imm .arg 1 l0) (.imm .arg 1 l0) && sameH (H:Heap) H && sameH (H0:Heap) H0) && ((same (.i x0) (.i x0) && sameH (H:Heap) H && sameH (H0:Heap) H0) && true)))=true) (g13:¬ (mo < 0)) (g14:¬ (IntKind.i64.wrap (x0+s) < mo)):RT polI 55 (sub [1,1,0,1,1,0,1,0,1,0,0] B55) (env55 (.imm .arg 1 rw) (.map mb) (.agg [.i (v:Int),.i (w:Int)]) (.ptr kb 0 0 1) (.i 0) Ud (.i mo) Ud Ud (.i (n:Int)) (.i (i:Int))) H .normal (env55 (.imm .arg 1 rw) (.map mb) (.agg [.i (v:Int),.i (w:Int)]) (.ptr kb 0 0 1) (.i 0) Ud (.i mo) (.i (i:Int)) (.i (IntKind.i64.wrap (x0+s))) (.i (n:Int)) (.i (IntKind.i64.wrap ((i:Int)+1)))) H0 :=
  RunsTo.hin N 60 [⟨7,0,.bool true,H⟩,⟨9,1,.i (w:Int),H⟩,⟨9,3,.i h0,H⟩,⟨9,4,.i h1,H⟩,⟨9,5,.bool true,H⟩,⟨10,2,.i (v:Int),H⟩,⟨10,3,.vptr (.imm .arg 1 l0),H⟩,⟨10,6,.vptr (.i x0),H⟩,⟨10,12,.i (w:Int),H⟩,⟨10,14,.i h2,H⟩,⟨10,15,.i h3,H⟩,⟨10,17,.i s,H0⟩,⟨11,1,.bool false,H0⟩,⟨11,5,.bool false,H0⟩] fun kf hk=>⟨_,by kernel_rfl,(oB H (decide_eq_true g0) (oP H g1 (oP H g2 (oP H g3 (oB H (decide_eq_true g4) (oC (gS10) (oP H g5 (oP H g6 (oP H g7 (oP H g8 (oP H g9 (oP H g10 (oC (g11 kf (by omega)) (oB H0 (decide_eq_false g13) (oB H0 (decide_eq_false g14) .nil)))))))))))))))⟩
theorem rs_l_3 (N:Nat) (rw:List HV) (mb v w kb:Nat) (H:Heap) (mo:Int) (n i:Nat) (h0:Int) (h1:Int) (g0:(i:Int) < (n:Int)) (g1:loadV Tp H 3 (.ptr kb 0 1 1)=some (.i (w:Int))) (g2:binV Tp .shr 3 (.i (w:Int)) (.i (i:Int))=some (.i h0)) (g3:binV Tp .and 3 (.i h0) (.i 1)=some (.i h1)) (g4:¬ (h1=1)):RT polI 55 (sub [1,1,0,1,1,0,1,0,1,0,0] B55) (env55 (.imm .arg 1 rw) (.map mb) (.agg [.i (v:Int),.i (w:Int)]) (.ptr kb 0 0 1) (.i 0) Ud (.i mo) Ud Ud (.i (n:Int)) (.i (i:Int))) H .normal (env55 (.imm .arg 1 rw) (.map mb) (.agg [.i (v:Int),.i (w:Int)]) (.ptr kb 0 0 1) (.i 0) Ud (.i mo) (.i (i:Int)) Ud (.i (n:Int)) (.i (IntKind.i64.wrap ((i:Int)+1)))) H :=
  RunsTo.hin N 60 [⟨7,0,.bool true,H⟩,⟨9,1,.i (w:Int),H⟩,⟨9,3,.i h0,H⟩,⟨9,4,.i h1,H⟩,⟨9,5,.bool false,H⟩] fun kf hk=>⟨_,by kernel_rfl,(oB H (decide_eq_true g0) (oP H g1 (oP H g2 (oP H g3 (oB H (decide_eq_false g4) .nil)))))⟩
theorem rs_l_4 (N:Nat) (rw:List HV) (mb v w kb:Nat) (H:Heap) (mo:Int) (n i:Nat)(g0:¬ ((i:Int) < (n:Int))):RT polI 55 (sub [1,1,0,1,1,0,1,0,1,0,0] B55) (env55 (.imm .arg 1 rw) (.map mb) (.agg [.i (v:Int),.i (w:Int)]) (.ptr kb 0 0 1) (.i 0) Ud (.i mo) Ud Ud (.i (n:Int)) (.i (i:Int))) H (.exit 0) (env55 (.imm .arg 1 rw) (.map mb) (.agg [.i (v:Int),.i (w:Int)]) (.ptr kb 0 0 1) (.i 0) Ud (.i mo) Ud Ud (.i (n:Int)) (.i (i:Int))) H :=
  RunsTo.hin N 60 [⟨7,0,.bool false,H⟩] fun kf hk=>⟨_,by kernel_rfl,(oB H (decide_eq_false g0) .nil)⟩
theorem rs_g_0 (N:Nat) (rw:List HV) (mb v w kb:Nat) (H:Heap) (mo:Int) (n i:Nat) (y10 y11:HV) (H0:Heap) (g0:loadV Tp H 77 (.ptr kb 0 0 1)=some (.agg [.i (v:Int),.i (w:Int)])) (g1:updV Tp false 82 (.map mb) (.agg [.i (v:Int),.i (w:Int)]) (.i mo) H=some H0):RT polI 55 (sub [1,1,0,1,1,0,1,1] B55) (env55 (.imm .arg 1 rw) (.map mb) (.agg [.i (v:Int),.i (w:Int)]) (.ptr kb 0 0 1) (.i 0) Ud (.i mo) y10 y11 (.i (n:Int)) (.i (i:Int))) H .normal (env55 (.imm .arg 1 rw) (.map mb) (.agg [.i (v:Int),.i (w:Int)]) (.ptr kb 0 0 1) (.i 0) Ud (.i mo) y10 y11 (.i (n:Int)) (.i (i:Int))) H0 :=
  RunsTo.hin N 60 [⟨14,1,.agg [.i (v:Int),.i (w:Int)],H⟩,⟨14,3,.tuple [],H0⟩] fun kf hk=>⟨_,by kernel_rfl,(oP H g0 (oS g1 .nil))⟩
theorem rs_z_0 (N:Nat) (rw:List HV) (mb v w kb:Nat) (H:Heap) (y8 y9 y10 y11 y31 y32:HV) (t0:Int) (g0:loadV Tp H 77 (.ptr kb 0 0 1)=some (.agg [.i (v:Int),.i (w:Int)])) (g1:lkG Tp 82 H mb (.agg [.i (v:Int),.i (w:Int)]) false=some (.i t0,H)):RT polI 55 (sub [1,1,1] B55) (env55 (.imm .arg 1 rw) (.map mb) (.agg [.i (v:Int),.i (w:Int)]) (.ptr kb 0 0 1) (.i 0) y8 y9 y10 y11 y31 y32) H .ret (env55 (.imm .arg 1 rw) (.map mb) (.agg [.i (v:Int),.i (w:Int)]) (.ptr kb 0 0 1) (.i t0) y8 y9 y10 y11 y31 y32) H :=
  RunsTo.hin N 60 [⟨15,1,.agg [.i (v:Int),.i (w:Int)],H⟩,⟨15,2,.i t0,H⟩] fun kf hk=>⟨_,by kernel_rfl,(oP H g0 (oC (g1) .nil))⟩
end Go.Proofs.Ytlendaofkmhgmaa
end
section
open Go Go.HL
namespace Go.Proofs.Ytlendaofkmhgmaa
open Go.Proofs.Try renaming prog → Tp
open Go.HL.HV renaming undef → Ud
theorem res55:Try.f55.results.toList=[.tmp 6]:=by kernel_rfl
abbrev ClI (g:FuncId) (args:List HV) (H:Heap) (r:HV) (H':Heap):Prop:=CallsTo (P:=Tp) (pol:=polI) g args H r H'
def RsOk (d:List (List Int)) (v w:Nat):Prop:=∀ H,Mem (rsT d) H → ∃ H',ClI 55 [.imm .arg 1 (d.map encR),.map 0,.agg [.int .i64 (v:Int),.int .i64 (w:Int)]] H (.int .i64 (rsT d v w)) H'∧Mem (rsT d) H'∧Fr H H'
section
variable {d:List (List Int)}
theorem g68 {v:Nat} (hv:v < d.length):idxV Tp 68 (.imm .arg 1 (d.map encR)) (.int .i64 (v:Int))=some (.vptr (.imm .arg 1 ((d.getD v []).map encI))):=by
  exact gm (R:=d) (y:=(v:Int)) (Int.natCast_nonneg v) hv
theorem g22 {v:Nat} (hv:v < d.length):idxV Tp 22 (.imm .arg 1 (d.map encR)) (.int .i64 (v:Int))=some (.vptr (.imm .arg 1 ((d.getD v []).map encI))):=gr hv
theorem g23 (h:okD d) {v u:Nat} (hv:v < d.length) (hu:u < d.length):idxV Tp 23 (.imm .arg 1 ((d.getD v []).map encI)) (.int .i64 (u:Int))=some (.vptr (.int .i64 (at2 d v u))):=gx (by rw [h.2.1 v hv]; exact hu)
abbrev rsE (d:List (List Int)) (v w kb:Nat) (y8 y9 y10 y11 y31 y32:HV):Env:=env55 (.imm .arg 1 (d.map encR)) (.map 0) (.agg [.int .i64 (v:Int),.int .i64 (w:Int)]) (.ptr kb 0 0 1) (.int .i64 0) y8 y9 y10 y11 y31 y32
theorem rs_loop (hd:okD d) {v w kb:Nat} (hv:v < d.length) (hw:w < 2 ^ d.length) (hR:∀ u,w.testBit u=true → RsOk d u (wo w u)) (hkb:kb ≠ 0) :
    ∀ k i mo H,i+k=d.length → Mem (rsT d) H → H[kb]?=some (boxK v w) →
    ∃ H',RunsTo Tp polI 55 (sub [1,1,0,1,1,0,1,0,1,0] B55) (rsE d v w kb Ud (.int .i64 mo) Ud Ud (.int .i64 (d.length:Int)) (.int .i64 (i:Int))) H
      (.exit 0) (polI.keys 55) (rsE d v w kb Ud (.int .i64 (lst (fun u=>at2 d v u+rsT d u (wo w u)) w k i mo)) Ud Ud (.int .i64 (d.length:Int)) (.int .i64 (d.length:Int))) H'∧Mem (rsT d) H'∧Fr H H':=by
  have hp:=pow_le hd.1.2
  have hn:=hd.1.2
  intro k
  induction k with
  | zero =>
    intro i mo H hi hM hK
    have hi:i=d.length:=by omega
    subst hi
    exact ⟨H,lpo (rs_l_4 0 (d.map encR) 0 v w kb H mo d.length d.length (by omega)),hM,Fr.refl _⟩
  | succ k ih =>
    intro i mo H hi hM hK
    rw [lst]
    by_cases c:w.testBit i=true
    · obtain ⟨H1,hcl,hM1,hF⟩:=hR i c H hM
      obtain ⟨N,hN⟩:=CallsTo.from hcl
      have b1:=hd.at hv (j:=i) (by omega)
      have b2:=wo_lt c
      have b3:=rsT_bnd hd (s:=i) (L:=wo w i) (by omega) (by omega)
      have hwr:IntKind.i64.wrap (at2 d v i+rsT d i (wo w i))=at2 d v i+rsT d i (wo w i):=wrap_id (by omega) (by omega)
      have l1:=ld_k0 hK
      have l2:loadV Tp H1 3 (.ptr kb 0 0 1)=some (.int .i64 (v:Int)):=ld_k0 (by rw [hF.same _ hkb]; exact hK)
      have gS:(recL ((loadV Tp H 3 (.ptr kb 0 0 1)).map (fun v=>(v,(H:Heap)))) ((loadV Tp H1 3 (.ptr kb 0 0 1)).map (fun v=>(v,(H1:Heap)))) H H1 && ((same (.imm .arg 1 ((d.getD v []).map encI)) (.imm .arg 1 ((d.getD v []).map encI)) && sameH (H:Heap) H && sameH (H1:Heap) H1) && ((same (.int .i64 (at2 d v i)) (.int .i64 (at2 d v i)) && sameH (H:Heap) H && sameH (H1:Heap) H1) && true)))=true:=by
        rw [l1,l2]
        simp only [Option.map,recL,hM.rf,hM1.rf,same_imm]
        simp [same]
      obtain ⟨H',r,hM',hF'⟩:=ih (i+1) (if w.testBit i then (if mo < 0 ∨ (at2 d v i+rsT d i (wo w i)) < mo then at2 d v i+rsT d i (wo w i) else mo) else mo) H1 (by omega) hM1 (by rw [hF.same _ hkb]; exact hK)
      have done:RT polI 55 (sub [1,1,0,1,1,0,1,0,1,0,0] B55) (rsE d v w kb Ud (.int .i64 mo) Ud Ud (.int .i64 (d.length:Int)) (.int .i64 (i:Int))) H .normal
          (rsE d v w kb Ud (.int .i64 (if w.testBit i then (if mo < 0 ∨ (at2 d v i+rsT d i (wo w i)) < mo then at2 d v i+rsT d i (wo w i) else mo) else mo)) (.int .i64 (i:Int)) (.int .i64 (at2 d v i+rsT d i (wo w i))) (.int .i64 (d.length:Int)) (.int .i64 ((i+1:Nat):Int))) H1:=by
        rw [if_pos c]
        have bs:=bo_shr (L:=w) (v:=i) (by omega)
        have ba:=bo_and (L:=w) (v:=i) (by omega) (by omega)
        rw [if_pos c] at ba
        have bl:=bo_shl (v:=i) (by omega)
        have bn:=bo_andn (L:=w) (v:=i) (by omega) (by omega)
        by_cases c1:mo < 0
        · have s:=rs_l_0 N (d.map encR) 0 v w kb H mo d.length i _ _ _ _ _ _ _ H1 (by omega) (ld_k1 hK) bs ba rfl l1 (g68 hv) (g23 hd hv (by omega)) (ld_k1 hK) bl bn hN gS c1
          rw [hwr,wrap_succ (by omega)] at s
          rw [if_pos (.inl c1)]; exact s
        · by_cases c2:(at2 d v i+rsT d i (wo w i)) < mo
          · have s:=rs_l_1 N (d.map encR) 0 v w kb H mo d.length i _ _ _ _ _ _ _ H1 (by omega) (ld_k1 hK) bs ba rfl l1 (g68 hv) (g23 hd hv (by omega)) (ld_k1 hK) bl bn hN gS c1 (by rw [hwr]; exact c2)
            rw [hwr,wrap_succ (by omega)] at s
            rw [if_pos (.inr c2)]; exact s
          · have s:=rs_l_2 N (d.map encR) 0 v w kb H mo d.length i _ _ _ _ _ _ _ H1 (by omega) (ld_k1 hK) bs ba rfl l1 (g68 hv) (g23 hd hv (by omega)) (ld_k1 hK) bl bn hN gS c1 (by rw [hwr]; exact c2)
            rw [hwr,wrap_succ (by omega)] at s
            rw [if_neg (by omega)]; exact s
      exact ⟨H',lop done (gc_eq _ hF.len) r,hM',hF.trans hF'⟩
    · have bs:=bo_shr (L:=w) (v:=i) (by omega)
      have ba:=bo_and (L:=w) (v:=i) (by omega) (by omega)
      rw [if_neg c] at ba
      have s:=rs_l_3 0 (d.map encR) 0 v w kb H mo d.length i _ _ (by omega) (ld_k1 hK) bs ba (by omega)
      rw [wrap_succ (by omega)] at s
      rw [if_neg c]
      obtain ⟨H',r,hM',hF'⟩:=ih (i+1) mo H (by omega) hM hK
      exact ⟨H',lop s (gc_eq _ rfl) r,hM',hF'⟩
theorem rs_step (hd:okD d) {v w:Nat} (hv:v < d.length) (hw:w < 2 ^ d.length) (hR:∀ u,w.testBit u=true → RsOk d u (wo w u)):RsOk d v w:=by
  intro H hM
  have hp:=pow_le hd.1.2
  have hn:=hd.1
  have h0:=hM.pos
  have a:=rs_a_0 0 (d.map encR) 0 v w H.length H _ (by rw [show (HV.agg [.i (v:Int),.i (w:Int)])=encP ((v:Int),(w:Int)) from rfl,new_k])
  have hMa:Mem (rsT d) (H ++ [boxK v w]):=hM.app (same_box _ _) rfl
  have hla:(H ++ [boxK (v:Int) w]).length=H.length+1:=by simp
  have hlow:∀ j,j < H.length → (H ++ [boxK (v:Int) w])[j]?=H[j]?:=fun j hj=>List.getElem?_append_left hj
  have gK:(H ++ [boxK (v:Int) w])[H.length]?=some (boxK v w):=by
    rw [List.getElem?_append_right (Nat.le_refl _)]; simp
  generalize H ++ [boxK (v:Int) w]=Ha at a hMa hla hlow gK
  have done:∀ (E:Env) (Hd:Heap),RT polI 55 (sub [1] B55) (rsE d v w H.length Ud Ud Ud Ud Ud Ud) Ha .ret E Hd → E.get 6=.i (rsT d v w) → Mem (rsT d) Hd → Fr Ha Hd →
      ∃ H',ClI 55 [.imm .arg 1 (d.map encR),.map 0,.agg [.i (v:Int),.i (w:Int)]] H (.i (rsT d v w)) H'∧Mem (rsT d) H'∧Fr H H':=by
    intro E Hd t h6 hMd hFd
    have t2:=sq a t (c:=B55)
    have hc:=CallsTo.shared (P:=Tp) (pol:=polI) (g:=55) (fn:=Try.f55) (cd:=B55) (args:=[.imm .arg 1 (d.map encR),.map 0,.agg [.i (v:Int),.i (w:Int)]]) (v:=.i (rsT d v w)) (by kernel_rfl) (by kernel_rfl) (by kernel_rfl) (by kernel_rfl) t2 (by kernel_rfl) (by simp) (by simp only [resultsV,res55,mapO,resultV,h6])
    rw [hMd.gc] at hc
    have e:max H.length (bnd (.i (rsT d v w)))=H.length:=by simp [bnd]
    rw [e] at hc
    refine ⟨_,hc,hMd.take h0,by rw [List.length_take,hFd.len]; omega,fun k hk=>?_⟩
    rw [List.getElem?_take]
    split
    · rename_i hl
      rw [hFd.same k hk,hlow k hl]
    · rename_i hl
      rw [List.getElem?_eq_none (by omega)]
  by_cases cw:w=0
  · subst cw
    have b:=rs_b_0 0 (d.map encR) 0 v 0 H.length Ha _ _ (ld_k1 gK) rfl (ld_k0 gK) (g68 hv) (g23 hd hv (u:=0) (by omega))
    exact done _ _ (sqo b (c:=sub [1] B55) (b:=sub [1,1] B55)) rfl hMa (Fr.refl _)
  · have b:=rs_b_1 0 (d.map encR) 0 v w H.length Ha (ld_k1 gK) (by omega)
    have up:∀ (E:Env) (Hd:Heap),RT polI 55 (sub [1,1] B55) (rsE d v w H.length Ud Ud Ud Ud Ud Ud) Ha .ret E Hd → RT polI 55 (sub [1] B55) (rsE d v w H.length Ud Ud Ud Ud Ud Ud) Ha .ret E Hd:=fun E Hd t=>sq b t (c:=sub [1] B55)
    obtain ⟨bb,hl1,hl2⟩:=hMa.lk ((v:Int),(w:Int))
    simp only [Int.toNat_natCast] at hl1 hl2
    cases bb with
    | true =>
      have c:=rs_c_0 0 (d.map encR) 0 v w H.length Ha _ (ld_k gK) hl1
      have e:=rs_dt_0 0 (d.map encR) 0 v w H.length Ha
      have z:=rs_z_0 0 (d.map encR) 0 v w H.length Ha (.bool true) Ud Ud Ud Ud Ud (rsT d v w) (ld_k gK) (hl2 rfl)
      have sk:RT polI 55 (sub [1,1,0,1,1,1] B55) (rsE d v w H.length (.bool true) Ud Ud Ud Ud Ud) Ha .normal (rsE d v w H.length (.bool true) Ud Ud Ud Ud Ud) Ha:=RunsTo.hint 1 60 [] fun kf hk=>by
        obtain ⟨kf,rfl⟩:∃ n,kf=n+1:=⟨kf - 1,by omega⟩
        exact ⟨[],by kernel_rfl,Obls.nil⟩
      have t1:=sq e (RunsTo.cond (y:=.tmp 29) (t:=false) (c:=sub [1,1,0,1,1] B55) (a:=sub [1,1,0,1,1,0] B55) (b:=sub [1,1,0,1,1,1] B55) (by kernel_rfl) rfl sk) (c:=sub [1,1,0,1] B55)
      have t2:=sq (sq c t1 (c:=sub [1,1,0] B55)) z (c:=sub [1,1] B55)
      exact done _ _ (up _ _ t2) rfl hMa (Fr.refl _)
    | false =>
      have c:=rs_c_1 0 (d.map encR) 0 v w H.length Ha (ld_k gK) hl1
      have e:=rs_df_0 0 (d.map encR) 0 v w H.length Ha
      have f:=rs_e_0 0 (d.map encR) 0 v w H.length Ha
      have g:=rs_f_0 0 (d.map encR) 0 v w H.length Ha (-1)
      rw [List.length_map] at g
      obtain ⟨Hc,rl,hMc,hFc⟩:=rs_loop hd hv hw hR (kb:=H.length) (by omega) d.length 0 (-1) Ha (by omega) hMa gK
      rw [← rsT_step d v cw] at rl
      have gKc:Hc[H.length]?=some (boxK v w):=by rw [hFc.same _ (by omega)]; exact gK
      obtain ⟨Hd,hu,hMd,hFd,hlk⟩:=hMc.upd ((v:Int),(w:Int))
      have gKd:Hd[H.length]?=some (boxK v w):=by rw [hFd.same _ (by omega)]; exact gKc
      have m:=rs_g_0 0 (d.map encR) 0 v w H.length Hc (rsT d v w) d.length d.length Ud Ud Hd (ld_k gKc) hu
      have z:=rs_z_0 0 (d.map encR) 0 v w H.length Hd Ud (.i (rsT d v w)) Ud Ud (.i (d.length:Int)) (.i (d.length:Int)) (rsT d v w) (ld_k gKd) hlk
      have rl':=lpi (e0:=rsE d v w H.length (.bool false) (.i (-1)) Ud Ud (.i (d.length:Int)) (.i 0)) rl (b:=sub [1,1,0,1,1,0,1,0,1,0,0] B55)
      have t1:=sq g (bke (c:=sub [1,1,0,1,1,0,1,0,1] B55) rl') (c:=sub [1,1,0,1,1,0,1,0] B55)
      have t2:=sq t1 m (c:=sub [1,1,0,1,1,0,1] B55)
      have t3:=sq f t2 (c:=sub [1,1,0,1,1,0] B55)
      have t4:=sq e (RunsTo.cond (y:=.tmp 29) (t:=true) (c:=sub [1,1,0,1,1] B55) (a:=sub [1,1,0,1,1,0] B55) (b:=sub [1,1,0,1,1,1] B55) (by kernel_rfl) rfl t3) (c:=sub [1,1,0,1] B55)
      have t5:=sq (sq c t4 (c:=sub [1,1,0] B55)) z (c:=sub [1,1] B55)
      exact done _ _ (up _ _ t5) rfl hMd (hFc.trans hFd)
theorem rs_call (hd:okD d):∀ (k v w:Nat),w ≤ k → v < d.length → w < 2 ^ d.length → RsOk d v w:=by
  intro k
  induction k with
  | zero =>
    intro v w hk hv hw
    have:w=0:=by omega
    subst this
    exact rs_step hd hv hw fun u hu=>by simp at hu
  | succ k ih =>
    intro v w hk hv hw
    refine rs_step hd hv hw fun u hu=>?_
    have:=wo_lt hu
    exact ih u (wo w u) (by omega) (bit_lt hw hu) (by omega)
end
end Go.Proofs.Ytlendaofkmhgmaa
end
section
open Go Go.HL
namespace Go.Proofs.Ytlendaofkmhgmaa
set_option maxRecDepth 100000
open Go.Proofs.Try renaming prog → Tp
open Go.HL.HV renaming undef → Ud
noncomputable def B29:Code:=Try.f29.body.getD .skip
abbrev env29 (v0 v2 v3 v4 v5 v6 v7 v8 v9 v10 v29 v30:HV):Env:=[(0,v0),(2,v2),(3,v3),(4,v4),(5,v5),(6,v6),(7,v7),(8,v8),(9,v9),(10,v10),(29,v29),(30,v30)]
theorem bs_a_0 (N:Nat) (rw:List HV):RT polI 29 (sub [0] B29) [(0,.imm .arg 1 rw)] [] .normal (env29 (.imm .arg 1 rw) (.imm .lit 1 []) (.i 0) (.i 0) Ud Ud Ud Ud Ud Ud Ud Ud) [] :=
  RunsTo.hin N 60 [] fun kf hk=>⟨_,by kernel_rfl,.nil⟩
theorem bs_b_0 (N:Nat) (rw:List HV)(g0:∀ kf,callN Tp polI (kf+1) 46 [.imm .arg 1 rw] []=some (.bool true,[])):RT polI 29 (sub [1,0] B29) (env29 (.imm .arg 1 rw) (.imm .lit 1 []) (.i 0) (.i 0) Ud Ud Ud Ud Ud Ud Ud Ud) [] .normal (env29 (.imm .arg 1 rw) (.imm .lit 1 []) (.i 0) (.i 0) Ud Ud Ud Ud Ud Ud Ud Ud) [] :=
  RunsTo.hin N 60 [⟨1,1,.bool true,[]⟩] fun kf hk=>⟨_,by kernel_rfl,(oC (g0 kf) .nil)⟩
theorem bs_b_1 (N:Nat) (rw:List HV)(g0:∀ kf,callN Tp polI (kf+1) 46 [.imm .arg 1 rw] []=some (.bool false,[])):RT polI 29 (sub [1,0] B29) (env29 (.imm .arg 1 rw) (.imm .lit 1 []) (.i 0) (.i 0) Ud Ud Ud Ud Ud Ud Ud Ud) [] .ret (env29 (.imm .arg 1 rw) (.imm .lit 1 []) (.i 0) (.i 2) Ud Ud Ud Ud Ud Ud Ud Ud) [] :=
  RunsTo.hin N 60 [⟨1,1,.bool false,[]⟩] fun kf hk=>⟨_,by kernel_rfl,(oC (g0 kf) .nil)⟩
theorem bs_c_0 (N:Nat) (rw:List HV) (H:Heap) (H0:Heap) (g0:some (HV.map H.length,H ++ [Blk.map [] [] 0])=some (.map 0,H0)):RT polI 29 (sub [1,1,0] B29) (env29 (.imm .arg 1 rw) (.imm .lit 1 []) (.i 0) (.i 0) Ud Ud Ud Ud Ud Ud Ud Ud) H .normal (env29 (.imm .arg 1 rw) (.imm .lit 1 []) (.i 0) (.i 0) (.map 0) Ud Ud Ud Ud Ud Ud Ud) H0 :=
  RunsTo.hin N 60 [⟨3,0,.map 0,H0⟩] fun kf hk=>⟨_,by kernel_rfl,(oC (g0) .nil)⟩
theorem bs_d_0 (N:Nat) (rw:List HV) (H:Heap) (h0:Int) (H0:Heap) (H1:Heap) (g0:binV Tp .shl 3 (.i 1) (.i (rw.length:Int))=some (.i h0)) (g1:some (newV (.agg [.i 0,.i 0]) H)=some (.ptr 1 0 0 1,H0)) (g2:storeV Tp H0 77 (.ptr 1 0 0 1) (.agg [.i 0,.i (IntKind.i64.wrap (h0 - 2))])=some H1):RT polI 29 (sub [1,1,1,0] B29) (env29 (.imm .arg 1 rw) (.imm .lit 1 []) (.i 0) (.i 0) (.map 0) Ud Ud Ud Ud Ud Ud Ud) H .normal (env29 (.imm .arg 1 rw) (.imm .lit 1 []) (.i 0) (.i 0) (.map 0) (.ptr 1 0 0 1) Ud Ud Ud Ud Ud Ud) H1 :=
  RunsTo.hin N 60 [⟨4,2,.i h0,H⟩,⟨4,5,.ptr 1 0 0 1,H0⟩,⟨4,6,.tuple [],H1⟩] fun kf hk=>⟨_,by kernel_rfl,(oP H g0 (oC (g1) (oS g2 .nil)))⟩
theorem bs_e_0 (N:Nat) (rw:List HV) (tv:HV) (H:Heap) (H0:Heap) (g0:litV Tp true true 23 1 [(0,.i 0)] H=some (tv,H0)):RT polI 29 (sub [1,1,1,1,0] B29) (env29 (.imm .arg 1 rw) (.imm .lit 1 []) (.i 0) (.i 0) (.map 0) (.ptr 1 0 0 1) Ud Ud Ud Ud Ud Ud) H .normal (env29 (.imm .arg 1 rw) (.imm .lit 1 []) (.i 0) (.i 0) (.map 0) (.ptr 1 0 0 1) tv Ud Ud Ud Ud Ud) H0 :=
  RunsTo.hin N 60 [⟨5,0,tv,H0⟩] fun kf hk=>⟨_,by kernel_rfl,(oC (g0) .nil)⟩
theorem bs_f_0 (N:Nat) (rw:List HV) (tv:HV) (v w:Nat) (H:Heap)(g0:loadV Tp H 3 (.ptr 1 0 1 1)=some (.i (w:Int))) (g1:0 < (w:Int)):RT polI 29 (sub [1,1,1,1,1,0,0,0,0] B29) (env29 (.imm .arg 1 rw) (.imm .lit 1 []) (.i 0) (.i 0) (.map 0) (.ptr 1 0 0 1) tv Ud Ud Ud Ud Ud) H .normal (env29 (.imm .arg 1 rw) (.imm .lit 1 []) (.i 0) (.i 0) (.map 0) (.ptr 1 0 0 1) tv Ud Ud Ud Ud Ud) H :=
  RunsTo.hin N 60 [⟨6,1,.i (w:Int),H⟩,⟨6,2,.bool true,H⟩] fun kf hk=>⟨_,by kernel_rfl,(oP H g0 (oB H (decide_eq_true g1) .nil))⟩
theorem bs_f_1 (N:Nat) (rw:List HV) (tv:HV) (v w:Nat) (H:Heap)(g0:loadV Tp H 3 (.ptr 1 0 1 1)=some (.i (w:Int))) (g1:¬ (0 < (w:Int))):RT polI 29 (sub [1,1,1,1,1,0,0,0,0] B29) (env29 (.imm .arg 1 rw) (.imm .lit 1 []) (.i 0) (.i 0) (.map 0) (.ptr 1 0 0 1) tv Ud Ud Ud Ud Ud) H (.exit 0) (env29 (.imm .arg 1 rw) (.imm .lit 1 []) (.i 0) (.i 0) (.map 0) (.ptr 1 0 0 1) tv Ud Ud Ud Ud Ud) H :=
  RunsTo.hin N 60 [⟨6,1,.i (w:Int),H⟩,⟨6,2,.bool false,H⟩] fun kf hk=>⟨_,by kernel_rfl,(oP H g0 (oB H (decide_eq_false g1) .nil))⟩
theorem bs_g_0 (N:Nat) (rw:List HV) (tv:HV) (v w:Nat) (H:Heap) (s:Int) (H0:Heap) (g0:loadV Tp H 77 (.ptr 1 0 0 1)=some (.agg [.i (v:Int),.i (w:Int)])) (g1:∀ kf,N ≤ kf → callN Tp polI (kf+1) 55 [.imm .arg 1 rw,.map 0,.agg [.i (v:Int),.i (w:Int)]] H=some (.i s,H0)):RT polI 29 (sub [1,1,1,1,1,0,0,0,1,0,0] B29) (env29 (.imm .arg 1 rw) (.imm .lit 1 []) (.i 0) (.i 0) (.map 0) (.ptr 1 0 0 1) tv Ud Ud Ud Ud Ud) H .normal (env29 (.imm .arg 1 rw) (.imm .lit 1 []) (.i 0) (.i 0) (.map 0) (.ptr 1 0 0 1) tv (.i s) Ud Ud Ud Ud) H0 :=
  RunsTo.hin N 60 [⟨7,2,.agg [.i (v:Int),.i (w:Int)],H⟩,⟨7,3,.i s,H0⟩] fun kf hk=>⟨_,by kernel_rfl,(oP H g0 (oC (g1 kf (by omega)) .nil))⟩
theorem bs_h_0 (N:Nat) (rw:List HV) (tv:HV) (v w:Nat) (H:Heap) (mo:Int):RT polI 29 (sub [1,1,1,1,1,0,0,0,1,0,1,0] B29) (env29 (.imm .arg 1 rw) (.imm .lit 1 []) (.i 0) (.i 0) (.map 0) (.ptr 1 0 0 1) tv (.i mo) Ud Ud Ud Ud) H .normal (env29 (.imm .arg 1 rw) (.imm .lit 1 []) (.i 0) (.i 0) (.map 0) (.ptr 1 0 0 1) tv (.i mo) Ud Ud (.i (rw.length:Int)) (.i 0)) H :=
  RunsTo.hin N 60 [] fun kf hk=>⟨_,by kernel_rfl,.nil⟩
theorem bs_l_0 (N:Nat) (rw:List HV) (tv:HV) (v w:Nat) (H:Heap) (mo:Int) (n i:Nat) (nb:Nat) (w2:Int) (h0:Int) (h1:Int) (H0:Heap) (H1:Heap) (g0:(i:Int) < (n:Int)) (g1:loadV Tp H 3 (.ptr 1 0 1 1)=some (.i (w:Int))) (g2:binV Tp .shl 3 (.i 1) (.i (i:Int))=some (.i h0)) (g3:binV Tp .andNot 3 (.i (w:Int)) (.i h0)=some (.i h1)) (g4:some (newV (.agg [.i 0,.i 0]) H)=some (.ptr nb 0 0 1,H0)) (g5:storeV Tp H0 77 (.ptr nb 0 0 1) (.agg [.i (i:Int),.i h1])=some H1) (gS11:(recL ((loadV Tp H 3 (.ptr 1 0 1 1)).map (fun v=>(v,(H:Heap)))) ((loadV Tp H0 3 (.ptr 1 0 1 1)).map (fun v=>(v,(H0:Heap)))) H H0 && true)=true) (g7:loadV Tp H1 3 (.ptr 1 0 1 1)=some (.i (w:Int))) (g8:loadV Tp H1 3 (.ptr nb 0 1 1)=some (.i w2)) (g9:(w:Int)=w2) (gS12:(true && (true && (true && true)))=true):RT polI 29 (sub [1,1,1,1,1,0,0,0,1,0,1,1,0,0] B29) (env29 (.imm .arg 1 rw) (.imm .lit 1 []) (.i 0) (.i 0) (.map 0) (.ptr 1 0 0 1) tv (.i mo) Ud Ud (.i (n:Int)) (.i (i:Int))) H .normal (env29 (.imm .arg 1 rw) (.imm .lit 1 []) (.i 0) (.i 0) (.map 0) (.ptr 1 0 0 1) tv (.i mo) (.i (i:Int)) (.ptr nb 0 0 1) (.i (n:Int)) (.i (IntKind.i64.wrap ((i:Int)+1)))) H1 :=
  RunsTo.hin N 60 [⟨9,0,.bool true,H⟩,⟨11,2,.i (w:Int),H⟩,⟨11,4,.i h0,H⟩,⟨11,5,.i h1,H⟩,⟨11,7,.ptr nb 0 0 1,H0⟩,⟨11,8,.tuple [],H1⟩,⟨12,1,.i (w:Int),H1⟩,⟨12,3,.i w2,H1⟩,⟨12,4,.bool false,H1⟩] fun kf hk=>⟨_,by kernel_rfl,(oB H (decide_eq_true g0) (oC (gS11) (oP H g1 (oP H g2 (oP H g3 (oC (g4) (oS g5 (oC (gS12) (oP H1 g7 (oP H1 g8 (oB H1 (congrArg not (decide_eq_true g9)) .nil)))))))))))⟩
theorem bs_l_1 (N:Nat) (rw:List HV) (tv:HV) (v w:Nat) (H:Heap) (mo:Int) (n i:Nat) (nb:Nat) (w2:Int) (h0:Int) (h1:Int) (H0:Heap) (H1:Heap) (l0:List HV) (x0:Int) (s:Int) (H2:Heap) (H3:Heap) (H4:Heap) (v0:HV) (g0:(i:Int) < (n:Int)) (g1:loadV Tp H 3 (.ptr 1 0 1 1)=some (.i (w:Int))) (g2:binV Tp .shl 3 (.i 1) (.i (i:Int))=some (.i h0)) (g3:binV Tp .andNot 3 (.i (w:Int)) (.i h0)=some (.i h1)) (g4:some (newV (.agg [.i 0,.i 0]) H)=some (.ptr nb 0 0 1,H0)) (g5:storeV Tp H0 77 (.ptr nb 0 0 1) (.agg [.i (i:Int),.i h1])=some H1) (gS11:(recL ((loadV Tp H 3 (.ptr 1 0 1 1)).map (fun v=>(v,(H:Heap)))) ((loadV Tp H0 3 (.ptr 1 0 1 1)).map (fun v=>(v,(H0:Heap)))) H H0 && true)=true) (g7:loadV Tp H1 3 (.ptr 1 0 1 1)=some (.i (w:Int))) (g8:loadV Tp H1 3 (.ptr nb 0 1 1)=some (.i w2)) (g9:¬ ((w:Int)=w2)) (g10:loadV Tp H1 3 (.ptr 1 0 0 1)=some (.i (v:Int))) (g11:idxV Tp 22 (.imm .arg 1 rw) (.i (v:Int))=some (.vptr (.imm .arg 1 l0))) (g12:idxV Tp 23 (.imm .arg 1 l0) (.i (i:Int))=some (.vptr (.i x0))) (g13:loadV Tp H1 77 (.ptr nb 0 0 1)=some (.agg [.i (i:Int),.i w2])) (g14:∀ kf,N ≤ kf → callN Tp polI (kf+1) 55 [.imm .arg 1 rw,.map 0,.agg [.i (i:Int),.i w2]] H1=some (.i s,H2)) (g15:IntKind.i64.wrap (x0+s)=mo) (gS12:(recL ((loadV Tp H1 3 (.ptr 1 0 0 1)).map (fun v=>(v,(H1:Heap)))) ((loadV Tp H2 3 (.ptr 1 0 0 1)).map (fun v=>(v,(H2:Heap)))) H1 H2 && ((same (.imm .arg 1 l0) (.imm .arg 1 l0) && sameH (H1:Heap) H1 && sameH (H2:Heap) H2) && ((same (.i x0) (.i x0) && sameH (H1:Heap) H1 && sameH (H2:Heap) H2) && true)))=true) (g17:loadV Tp H2 77 (.ptr nb 0 0 1)=some (.agg [.i (i:Int),.i w2])) (g18:storeV Tp H2 77 (.ptr 1 0 0 1) (.agg [.i (i:Int),.i w2])=some H3) (g19:appV H3 1 8 (tv) [.i (i:Int)]=some (v0,H4)):RT polI 29 (sub [1,1,1,1,1,0,0,0,1,0,1,1,0,0] B29) (env29 (.imm .arg 1 rw) (.imm .lit 1 []) (.i 0) (.i 0) (.map 0) (.ptr 1 0 0 1) tv (.i mo) Ud Ud (.i (n:Int)) (.i (i:Int))) H (.exit 2) (env29 (.imm .arg 1 rw) (.imm .lit 1 []) (.i 0) (.i 0) (.map 0) (.ptr 1 0 0 1) v0 (.i mo) (.i (i:Int)) (.ptr nb 0 0 1) (.i (n:Int)) (.i (i:Int))) H4 :=
  RunsTo.hin N 60 [⟨9,0,.bool true,H⟩,⟨11,2,.i (w:Int),H⟩,⟨11,4,.i h0,H⟩,⟨11,5,.i h1,H⟩,⟨11,7,.ptr nb 0 0 1,H0⟩,⟨11,8,.tuple [],H1⟩,⟨12,1,.i (w:Int),H1⟩,⟨12,3,.i w2,H1⟩,⟨12,4,.bool true,H1⟩,⟨12,8,.i (v:Int),H1⟩,⟨12,9,.vptr (.imm .arg 1 l0),H1⟩,⟨12,12,.vptr (.i x0),H1⟩,⟨12,16,.agg [.i (i:Int),.i w2],H1⟩,⟨12,17,.i s,H2⟩,⟨12,20,.bool true,H2⟩,⟨13,0,.agg [.i (i:Int),.i w2],H2⟩,⟨13,1,.tuple [],H3⟩,⟨14,3,v0,H4⟩] fun kf hk=>⟨_,by kernel_rfl,(oB H (decide_eq_true g0) (oC (gS11) (oP H g1 (oP H g2 (oP H g3 (oC (g4) (oS g5 (oC (gS12) (oP H1 g7 (oP H1 g8 (oB H1 (congrArg not (decide_eq_false g9)) (oP H1 g10 (oP H1 g11 (oP H1 g12 (oP H1 g13 (oC (g14 kf (by omega)) (oB H2 (decide_eq_true g15) (oP H2 g17 (oS g18 (oC (g19) .nil))))))))))))))))))))⟩
theorem bs_l_2 (N:Nat) (rw:List HV) (tv:HV) (v w:Nat) (H:Heap) (mo:Int) (n i:Nat) (nb:Nat) (w2:Int) (h0:Int) (h1:Int) (H0:Heap) (H1:Heap) (l0:List HV) (x0:Int) (s:Int) (H2:Heap) (g0:(i:Int) < (n:Int)) (g1:loadV Tp H 3 (.ptr 1 0 1 1)=some (.i (w:Int))) (g2:binV Tp .shl 3 (.i 1) (.i (i:Int))=some (.i h0)) (g3:binV Tp .andNot 3 (.i (w:Int)) (.i h0)=some (.i h1)) (g4:some (newV (.agg [.i 0,.i 0]) H)=some (.ptr nb 0 0 1,H0)) (g5:storeV Tp H0 77 (.ptr nb 0 0 1) (.agg [.i (i:Int),.i h1])=some H1) (gS11:(recL ((loadV Tp H 3 (.ptr 1 0 1 1)).map (fun v=>(v,(H:Heap)))) ((loadV Tp H0 3 (.ptr 1 0 1 1)).map (fun v=>(v,(H0:Heap)))) H H0 && true)=true) (g7:loadV Tp H1 3 (.ptr 1 0 1 1)=some (.i (w:Int))) (g8:loadV Tp H1 3 (.ptr nb 0 1 1)=some (.i w2)) (g9:¬ ((w:Int)=w2)) (g10:loadV Tp H1 3 (.ptr 1 0 0 1)=some (.i (v:Int))) (g11:idxV Tp 22 (.imm .arg 1 rw) (.i (v:Int))=some (.vptr (.imm .arg 1 l0))) (g12:idxV Tp 23 (.imm .arg 1 l0) (.i (i:Int))=some (.vptr (.i x0))) (g13:loadV Tp H1 77 (.ptr nb 0 0 1)=some (.agg [.i (i:Int),.i w2])) (g14:∀ kf,N ≤ kf → callN Tp polI (kf+1) 55 [.imm .arg 1 rw,.map 0,.agg [.i (i:Int),.i w2]] H1=some (.i s,H2)) (g15:¬ (IntKind.i64.wrap (x0+s)=mo)) (gS12:(recL ((loadV Tp H1 3 (.ptr 1 0 0 1)).map (fun v=>(v,(H1:Heap)))) ((loadV Tp H2 3 (.ptr 1 0 0 1)).map (fun v=>(v,(H2:Heap)))) H1 H2 && ((same (.imm .arg 1 l0) (.imm .arg 1 l0) && sameH (H1:Heap) H1 && sameH (H2:Heap) H2) && ((same (.i x0) (.i x0) && sameH (H1:Heap) H1 && sameH (H2:Heap) H2) && true)))=true):RT polI 29 (sub [1,1,1,1,1,0,0,0,1,0,1,1,0,0] B29) (env29 (.imm .arg 1 rw) (.imm .lit 1 []) (.i 0) (.i 0) (.map 0) (.ptr 1 0 0 1) tv (.i mo) Ud Ud (.i (n:Int)) (.i (i:Int))) H .normal (env29 (.imm .arg 1 rw) (.imm .lit 1 []) (.i 0) (.i 0) (.map 0) (.ptr 1 0 0 1) tv (.i mo) (.i (i:Int)) (.ptr nb 0 0 1) (.i (n:Int)) (.i (IntKind.i64.wrap ((i:Int)+1)))) H2 :=
  RunsTo.hin N 60 [⟨9,0,.bool true,H⟩,⟨11,2,.i (w:Int),H⟩,⟨11,4,.i h0,H⟩,⟨11,5,.i h1,H⟩,⟨11,7,.ptr nb 0 0 1,H0⟩,⟨11,8,.tuple [],H1⟩,⟨12,1,.i (w:Int),H1⟩,⟨12,3,.i w2,H1⟩,⟨12,4,.bool true,H1⟩,⟨12,8,.i (v:Int),H1⟩,⟨12,9,.vptr (.imm .arg 1 l0),H1⟩,⟨12,12,.vptr (.i x0),H1⟩,⟨12,16,.agg [.i (i:Int),.i w2],H1⟩,⟨12,17,.i s,H2⟩,⟨12,20,.bool false,H2⟩] fun kf hk=>⟨_,by kernel_rfl,(oB H (decide_eq_true g0) (oC (gS11) (oP H g1 (oP H g2 (oP H g3 (oC (g4) (oS g5 (oC (gS12) (oP H1 g7 (oP H1 g8 (oB H1 (congrArg not (decide_eq_false g9)) (oP H1 g10 (oP H1 g11 (oP H1 g12 (oP H1 g13 (oC (g14 kf (by omega)) (oB H2 (decide_eq_false g15) .nil)))))))))))))))))⟩
theorem bs_z_0 (N:Nat) (rw:List HV) (tv:HV) (H:Heap) (y8 y9 y10 y29 y30:HV) (sm:Int) (H0:Heap) (g0:∀ kf,callN Tp polI (kf+1) 56 [.imm .arg 1 rw,tv] H=some (.i sm,H0)):RT polI 29 (sub [1,1,1,1,1,1] B29) (env29 (.imm .arg 1 rw) (.imm .lit 1 []) (.i 0) (.i 0) (.map 0) (.ptr 1 0 0 1) tv y8 y9 y10 y29 y30) H .ret (env29 (.imm .arg 1 rw) tv (.i sm) (.i 0) (.map 0) (.ptr 1 0 0 1) tv y8 y9 y10 y29 y30) H0 :=
  RunsTo.hin N 60 [⟨16,3,.i sm,H0⟩] fun kf hk=>⟨_,by kernel_rfl,(oC (g0 kf) .nil)⟩
end Go.Proofs.Ytlendaofkmhgmaa
end
section
open Go Go.HL
namespace Go.Proofs.Ytlendaofkmhgmaa
open Go.Proofs.Try renaming prog → Tp
open Go.HL.HV renaming undef → Ud
theorem soundI (n:Nat):CallSound Tp (callN Tp polI n):=sound_prim _ (fun g f h=>by
  split at h
  · rename_i hg; cases h; rw [eq_of_beq hg]; exact miles_ok
  split at h
  · rename_i hg; cases h; rw [eq_of_beq hg]; exact mlen_ok
  · cases h) n
open Classical in
noncomputable def best29:List HV → Option HV:=rwF fun R=>if R.length ≤ 1000∧(R.all fun r=>decide (r.length ≤ 1000))=true then some (if okD R then .tuple [.own 1 ((bestT R).map encI),.int .i64 (lenT R (bestT R)),.int .i64 0] else .tuple [.own 1 [],.int .i64 0,.int .i64 2]) else none
theorem toRes_li2 {H:Heap} {b k:Nat} {cap:Option Nat} {o:List Int} (hb:H[b]?=some (bI o)) (hk:o.length=k) (x e:Int):toRes H false (.tuple [.sl b 0 k cap k 1,.int .i64 x,.int .i64 e])=some (.tuple [.own 1 (o.map encI),.int .i64 x,.int .i64 e]):=by
  have hr:=resCell_sl (H:=H) (no:=[b]) (b:=b) (k:=1) (m:=k) (cap:=cap) (els:=o.map encI) hb (by simpa using hk) (mapO_self (fun r=>frz_int 4 r) _)
  have ho:ownedAll H false (.tuple [.sl b 0 k cap k 1,.int .i64 x,.int .i64 e])=[b]:=by simp [ownedAll,cellsOf,owned,hb]
  simp only [toRes,ho,List.nodup_cons,List.not_mem_nil,not_false_eq_true,List.nodup_nil,and_self,if_true,mapO,resVal,hr]
  rfl
theorem arg_slc {H:Heap} {l:List Int} {b m:Nat} {cap:Option Nat} (hm:l.length=m) (hb:H[b]?=some (bI l)):toArg H 6 (.sl b 0 m cap m 1)=some (.imm .arg 1 (l.map encI)):=arg_sl hm hb
theorem res29:Try.f29.results.toList=[.tmp 2,.tmp 3,.tmp 4]:=by kernel_rfl
theorem lit_zero (H:Heap):litV Tp true true 23 1 [(0,.int .i64 0)] H=some (.sl H.length 0 1 (some 1) 1 1,H ++ [bI [0]]):=by kernel_rfl
section
variable {d:List (List Int)}
abbrev bsE (d:List (List Int)) (tv y8 y9 y10 y29 y30:HV):Env:=env29 (.imm .arg 1 (d.map encR)) (.imm .lit 1 []) (.int .i64 0) (.int .i64 0) (.map 0) (.ptr 1 0 0 1) tv y8 y9 y10 y29 y30
abbrev tv4 (m:Nat):HV:=.sl 4 0 m none m 1
structure BI (d:List (List Int)) (v w:Nat) (o:List Int) (tv:HV) (H:Heap):Prop where
  mem:Mem (rsT d) H
  box:H[1]?=some (boxK v w)
  st:(tv=.sl 2 0 1 (some 1) 1 1∧o=[0]∧H.length=3∧H[2]?=some (bI o)) ∨ (tv=tv4 o.length∧H.length=5∧H[4]?=some (bI o))
theorem BI.len {d:List (List Int)} {v w:Nat} {o:List Int} {tv:HV} {H:Heap} (h:BI d v w o tv H):3 ≤ H.length∧H.length ≤ 5∧bnd tv ≤ H.length:=by
  rcases h.st with ⟨h1,_,h3,_⟩ | ⟨h1,h3,_⟩ <;> rw [h1,h3] <;> simp [bnd]
theorem BI.app {d:List (List Int)} {v w:Nat} {o:List Int} {tv:HV} {H H3:Heap} (h:BI d v w o tv H) (hM:Mem (rsT d) H3) (hl:H3.length=H.length+1) (hs:∀ k,2 ≤ k → k < H.length → H3[k]?=H[k]?) (ho:o.length ≤ 500) (x:Int) :
    ∃ H4,appV H3 1 8 tv [.int .i64 x]=some (tv4 (o.length+1),H4)∧Mem (rsT d) H4∧H4[1]?=H3[1]?∧H4[4]?=some (bI (o ++ [x]))∧5 ≤ H4.length:=by
  rcases h.st with ⟨h1,h2,h3,h4⟩ | ⟨h1,h3,h4⟩
  · have e:=hs 2 (by omega) (by omega)
    rw [h4] at e
    subst h2; subst h1
    refine ⟨H3 ++ [bI ([0] ++ [x])],?_,hM.app (same_bI _) rfl,List.getElem?_append_left (by omega),?_,by simp; omega⟩
    · have e4:H3.length=4:=by omega
      simp only [appV,e,e4]
      simp [roomMax,bnd,bndL,encI]
    · rw [List.getElem?_append_right (by omega)]; simp [hl,h3]
  · have e:=hs 4 (by omega) (by omega)
    rw [h4] at e
    subst h1
    have ap:=app_ints (xs:=[x]) e (by simp; omega) (by simp)
    rw [show (o ++ [x]).length=o.length+1 by simp] at ap
    exact ⟨_,ap,hM.set (by omega) (same_bI _) rfl,List.getElem?_set_ne (by omega),List.getElem?_set_self (by omega),by simp; omega⟩
theorem bs_in (hd:okD d) {v w:Nat} {o:List Int} {tv:HV} (hv:v < d.length) (hw:w < 2 ^ d.length) (ho:o.length ≤ 500):∀ k i H u,i+k=d.length → BI d v w o tv H → pck (okV d v w) k i=some u →
    ∃ y9 y10 y29 y30 H',RunsTo Tp polI 29 (sub [1,1,1,1,1,0,0,0,1,0,1,1,0] B29) (bsE d tv (.int .i64 (rsT d v w)) Ud Ud (.int .i64 (d.length:Int)) (.int .i64 (i:Int))) H
      (.exit 2) (polI.keys 29) (bsE d (tv4 (o.length+1)) (.int .i64 (rsT d v w)) y9 y10 y29 y30) H'∧Mem (rsT d) H'∧H'[1]?=some (boxK u (wo w u:Nat))∧H'[4]?=some (bI (o ++ [(u:Int)]))∧5 ≤ H'.length:=by
  have hp:=pow_le hd.1.2
  have hn:=hd.1.2
  intro k
  induction k with
  | zero=>intro i H u _ _ h; cases h
  | succ k ih =>
    intro i H u hi hB hq
    rw [pck] at hq
    have bl:=bo_shl (v:=i) (by omega)
    have bn:=bo_andn (L:=w) (v:=i) (by omega) (by omega)
    have hl:=hB.len
    have g4:some (newV (.agg [.int .i64 0,.int .i64 0]) H)=some (.ptr H.length 0 0 1,H ++ [boxK 0 0]):=by
      rw [show (HV.agg [.int .i64 0,.int .i64 0])=encP ((0:Int),(0:Int)) from rfl,new_k]
    have gn0:(H ++ [boxK 0 0])[H.length]?=some (boxK 0 0):=by rw [List.getElem?_append_right (Nat.le_refl _)]; simp
    have g5:storeV Tp (H ++ [boxK 0 0]) 77 (.ptr H.length 0 0 1) (.agg [.int .i64 (i:Int),.int .i64 ((wo w i:Nat):Int)])=some (H ++ [boxK i (wo w i:Nat)]):=by
      have:=st_k (x:=(i:Int)) (y:=((wo w i:Nat):Int)) gn0
      rw [List.set_append_right _ _ (Nat.le_refl _),Nat.sub_self] at this
      exact this
    have hM0:Mem (rsT d) (H ++ [boxK 0 0]):=hB.mem.app (same_box _ _) rfl
    have l0:loadV Tp (H ++ [boxK 0 0]) 3 (.ptr 1 0 1 1)=some (.int .i64 (w:Int)):=ld_k1 (by rw [List.getElem?_append_left (by omega)]; exact hB.box)
    have gS:(recL ((loadV Tp H 3 (.ptr 1 0 1 1)).map (fun v=>(v,(H:Heap)))) ((loadV Tp (H ++ [boxK 0 0]) 3 (.ptr 1 0 1 1)).map (fun v=>(v,((H ++ [boxK 0 0]):Heap)))) H (H ++ [boxK 0 0]) && true)=true:=by
      rw [ld_k1 hB.box,l0]
      simp only [Option.map,recL,hB.mem.rf,hM0.rf]
      simp [same]
    have hM1:Mem (rsT d) (H ++ [boxK i (wo w i:Nat)]):=hB.mem.app (same_box _ _) rfl
    have low:∀ k,k < H.length → (H ++ [boxK (i:Int) (wo w i:Nat)])[k]?=H[k]?:=fun k hk=>List.getElem?_append_left hk
    have x1:(H ++ [boxK i (wo w i:Nat)])[1]?=some (boxK v w):=by rw [low 1 (by omega)]; exact hB.box
    have x3:(H ++ [boxK (i:Int) (wo w i:Nat)])[H.length]?=some (boxK i (wo w i:Nat)):=by rw [List.getElem?_append_right (Nat.le_refl _)]; simp
    have ll:(H ++ [boxK (i:Int) (wo w i:Nat)]).length=H.length+1:=by simp
    have cut:∀ (H':Heap) (y:HV),Mem (rsT d) H' → bnd y=0 → gc H.length (bndE (bsE d tv y Ud Ud (.int .i64 (d.length:Int)) (.int .i64 ((i+1:Nat):Int)))) H'=H'.take H.length:=fun H' y hM' hy=>by
      rw [hM'.gc]
      congr 1
      simp only [bndE,bnd,bndL,hy]
      omega
    by_cases c:w.testBit i=true
    · have hne:¬ ((w:Int)=((wo w i:Nat):Int)):=by have:=wo_lt c; omega
      obtain ⟨H2,hcl,hM2,hF⟩:=rs_call hd w i (wo w i) (wo_le _ _) (by omega) (by have:=wo_le w i; omega) _ hM1
      obtain ⟨N,hN⟩:=CallsTo.from hcl
      have b1:=hd.at hv (j:=i) (by omega)
      have b3:=rsT_bnd hd (s:=i) (L:=wo w i) (by omega) (by have:=wo_le w i; omega)
      have hwr:IntKind.i64.wrap (at2 d v i+rsT d i (wo w i))=at2 d v i+rsT d i (wo w i):=wrap_id (by omega) (by omega)
      have gS2:(recL ((loadV Tp (H ++ [boxK i (wo w i:Nat)]) 3 (.ptr 1 0 0 1)).map (fun v=>(v,((H ++ [boxK i (wo w i:Nat)]):Heap)))) ((loadV Tp H2 3 (.ptr 1 0 0 1)).map (fun v=>(v,(H2:Heap)))) (H ++ [boxK i (wo w i:Nat)]) H2 && ((same (.imm .arg 1 ((d.getD v []).map encI)) (.imm .arg 1 ((d.getD v []).map encI)) && sameH ((H ++ [boxK i (wo w i:Nat)]):Heap) (H ++ [boxK i (wo w i:Nat)]) && sameH (H2:Heap) H2) && ((same (.int .i64 (at2 d v i)) (.int .i64 (at2 d v i)) && sameH ((H ++ [boxK i (wo w i:Nat)]):Heap) (H ++ [boxK i (wo w i:Nat)]) && sameH (H2:Heap) H2) && true)))=true:=by
        have l2:loadV Tp H2 3 (.ptr 1 0 0 1)=some (.int .i64 (v:Int)):=ld_k0 (by rw [hF.same _ (by omega)]; exact x1)
        rw [ld_k0 x1,l2]
        simp only [Option.map,recL,hM1.rf,hM2.rf,same_imm]
        simp [same]
      have y1:H2[1]?=some (boxK v w):=by rw [hF.same _ (by omega)]; exact x1
      have y3:H2[H.length]?=some (boxK i (wo w i:Nat)):=by rw [hF.same _ (by omega)]; exact x3
      have l2:=lt_of_get y1
      by_cases c2:at2 d v i+rsT d i (wo w i)=rsT d v w
      · have hok:okV d v w i=true:=by simp [okV,c,c2]
        rw [if_pos hok] at hq
        cases hq
        have s3:=st_k (x:=(i:Int)) (y:=((wo w i:Nat):Int)) y1
        obtain ⟨H4,ap,hM4,z1,z4,z5⟩:=hB.app (H3:=H2.set 1 (boxK i (wo w i:Nat))) (hM2.set (by omega) (same_box _ _) rfl) (by simp [hF.len]) (fun k h2 hk=>by rw [List.getElem?_set_ne (by omega),hF.same _ (by omega),low _ hk]) ho (i:Int)
        have s:=bs_l_1 N (d.map encR) tv v w H (rsT d v w) d.length i H.length ((wo w i:Nat):Int) _ _ _ _ _ _ _ H2 _ _ _ (by omega) (ld_k1 hB.box) bl bn g4 g5 gS (ld_k1 x1) (ld_k1 x3) hne (ld_k0 x1) (g22 hv) (g23 hd hv (by omega)) (ld_k x3) hN (by rw [hwr,c2]) gS2 (ld_k y3) s3 ap
        refine ⟨_,_,_,_,_,lpo s,hM4,?_,z4,z5⟩
        rw [z1,List.getElem?_set_self (by omega)]
      · have hok:¬ okV d v w i=true:=by simp [okV,c,c2]
        rw [if_neg hok] at hq
        have s:=bs_l_2 N (d.map encR) tv v w H (rsT d v w) d.length i H.length ((wo w i:Nat):Int) _ _ _ _ _ _ _ H2 (by omega) (ld_k1 hB.box) bl bn g4 g5 gS (ld_k1 x1) (ld_k1 x3) hne (ld_k0 x1) (g22 hv) (g23 hd hv (by omega)) (ld_k x3) hN (by rw [hwr]; exact c2) gS2
        rw [wrap_succ (by omega)] at s
        have tl:(H2.take H.length).length=H.length:=by rw [List.length_take,hF.len,ll]; omega
        have tk:∀ k,k ≠ 0 → k < H.length → (H2.take H.length)[k]?=H[k]?:=fun k h0 hk=>by rw [List.getElem?_take,if_pos hk,hF.same _ h0,low _ hk]
        have hB2:BI d v w o tv (H2.take H.length):=by
          refine ⟨hM2.take (by omega),by rw [tk 1 (by omega) (by omega)]; exact hB.box,?_⟩
          rcases hB.st with ⟨h1,h2,h3,h4⟩ | ⟨h1,h3,h4⟩
          · exact .inl ⟨h1,h2,tl.trans h3,by rw [tk 2 (by omega) (by omega)]; exact h4⟩
          · exact .inr ⟨h1,tl.trans h3,by rw [tk 4 (by omega) (by omega)]; exact h4⟩
        obtain ⟨y9,y10,y29,y30,H',r,r2⟩:=ih (i+1) _ u (by omega) hB2 hq
        exact ⟨y9,y10,y29,y30,H',lop s (cut _ _ hM2 rfl) r,r2⟩
    · have hok:¬ okV d v w i=true:=by simp [okV,c]
      rw [if_neg hok] at hq
      have e:wo w i=w:=by unfold wo; rw [if_neg c]
      rw [e] at bn g5 hM1 x1 x3
      have s:=bs_l_0 0 (d.map encR) tv v w H (rsT d v w) d.length i H.length (w:Int) _ _ _ _ (by omega) (ld_k1 hB.box) bl bn g4 g5 gS (ld_k1 x1) (ld_k1 x3) rfl rfl
      rw [wrap_succ (by omega)] at s
      have ec:=cut _ (.int .i64 (rsT d v w)) hM1 rfl
      have et:(H ++ [boxK (i:Int) (w:Int)]).take H.length=H:=by rw [List.take_append_of_le_length (Nat.le_refl _),List.take_of_length_le (Nat.le_refl _)]
      rw [et] at ec
      obtain ⟨y9,y10,y29,y30,H',r,r2⟩:=ih (i+1) _ u (by omega) hB hq
      exact ⟨y9,y10,y29,y30,H',lop s ec r,r2⟩
theorem bs_loop (hd:okD d):∀ (k v w:Nat) (o:List Int) (tv:HV) (H:Heap),w ≤ k → v < d.length → w < 2 ^ d.length → BI d v w o tv H → o.length+(grd d k v w).length ≤ 500 →
    ∃ tb cap H',RT polI 29 (sub [1,1,1,1,1,0,0] B29) (bsE d tv Ud Ud Ud Ud Ud) H (.exit 0) (bsE d (.sl tb 0 (o ++ grd d k v w).length cap (o ++ grd d k v w).length 1) Ud Ud Ud Ud Ud) H'∧H'[tb]?=some (bI (o ++ grd d k v w)):=by
  have h0:∀ (v:Nat) (o:List Int) (tv:HV) (H:Heap),BI d v 0 o tv H → ∃ tb cap H',RT polI 29 (sub [1,1,1,1,1,0,0] B29) (bsE d tv Ud Ud Ud Ud Ud) H (.exit 0) (bsE d (.sl tb 0 (o ++ []).length cap (o ++ []).length 1) Ud Ud Ud Ud Ud) H'∧H'[tb]?=some (bI (o ++ [])):=fun v o tv H hB=>by
    rw [List.append_nil]
    have f:=bs_f_1 0 (d.map encR) tv v 0 H (ld_k1 hB.box) (by omega)
    have r:=lpo (sqo f (c:=sub [1,1,1,1,1,0,0,0] B29) (b:=sub [1,1,1,1,1,0,0,0,1] B29)) (c:=sub [1,1,1,1,1,0,0] B29)
    rcases hB.st with ⟨h1,h2,h3,h4⟩ | ⟨h1,h3,h4⟩
    · subst h1; subst h2
      exact ⟨2,some 1,H,r,h4⟩
    · subst h1
      exact ⟨4,none,H,r,h4⟩
  intro k
  induction k with
  | zero =>
    intro v w o tv H hk _ _ hB _
    have:w=0:=by omega
    subst this
    exact h0 v o tv H hB
  | succ k ih =>
    intro v w o tv H hk hv hw hB hl
    by_cases cw:w=0
    · subst cw
      rw [grd,if_pos rfl]
      exact h0 v o tv H hB
    · obtain ⟨u,p1,p2,p3,p4⟩:=pck_ok hd hv hw cw
      have eg:grd d (k+1) v w=(u:Int) :: grd d k u (wo w u):=by rw [grd,if_neg cw,p1]
      rw [eg] at hl ⊢
      rw [List.length_cons] at hl
      have f:=bs_f_0 0 (d.map encR) tv v w H (ld_k1 hB.box) (by omega)
      obtain ⟨H1,hcl,hM1,hF⟩:=rs_call hd w v w (Nat.le_refl _) hv hw _ hB.mem
      obtain ⟨N,hN⟩:=CallsTo.from hcl
      have g:=bs_g_0 N (d.map encR) tv v w H _ H1 (ld_k hB.box) hN
      have h:=bs_h_0 0 (d.map encR) tv v w H1 (rsT d v w)
      rw [List.length_map] at h
      have hB1:BI d v w o tv H1:=by
        refine ⟨hM1,by rw [hF.same _ (by omega)]; exact hB.box,?_⟩
        rcases hB.st with ⟨h1,h2,h3,h4⟩ | ⟨h1,h3,h4⟩
        · exact .inl ⟨h1,h2,hF.len.trans h3,by rw [hF.same _ (by omega)]; exact h4⟩
        · exact .inr ⟨h1,hF.len.trans h3,by rw [hF.same _ (by omega)]; exact h4⟩
      obtain ⟨y9,y10,y29,y30,H2,r,r1,r2,r3,r4⟩:=bs_in hd hv hw (by omega) d.length 0 H1 u (by omega) hB1 p1
      have r':=lpi (e0:=bsE d tv (.int .i64 (rsT d v w)) Ud Ud (.int .i64 (d.length:Int)) (.int .i64 0)) r (b:=sub [1,1,1,1,1,0,0,0,1,0,1,1,0,0] B29)
      have t1:=sq h (bke (c:=sub [1,1,1,1,1,0,0,0,1,0,1,1] B29) r') (c:=sub [1,1,1,1,1,0,0,0,1,0,1] B29)
      have t2:=sq g t1 (c:=sub [1,1,1,1,1,0,0,0,1,0] B29)
      have t3:=RunsTo.block_normal (i:=1) (c:=sub [1,1,1,1,1,0,0,0,1] B29) t2 (by kernel_rfl)
      have t4:=sq f t3 (c:=sub [1,1,1,1,1,0,0,0] B29)
      have hB2:BI d u (wo w u) (o ++ [(u:Int)]) (tv4 (o.length+1)) (H2.take 5):=by
        refine ⟨r1.take (by omega),?_,.inr ⟨by simp,by rw [List.length_take]; omega,?_⟩⟩
        · rw [List.getElem?_take,if_pos (by omega)]; exact r2
        · rw [List.getElem?_take,if_pos (by omega)]; exact r3
      have ec:gc H.length (bndE (bsE d (tv4 (o.length+1)) Ud Ud Ud Ud Ud)) H2=H2.take 5:=by
        rw [r1.gc]
        congr 1
        have:=hB.len
        simp only [bndE,bnd,bndL]
        omega
      obtain ⟨tb,cap,H',q1,q2⟩:=ih u (wo w u) (o ++ [(u:Int)]) _ (H2.take 5) (by have:=wo_lt p3; omega) p2 (by have:=wo_lt p3; omega) hB2 (by simp; omega)
      rw [List.append_assoc] at q1 q2
      exact ⟨tb,cap,H',lop t4 ec q1,q2⟩
end
theorem best_ok:PrimOk Tp 29 best29:=by
  refine primOk_pure (pol:=polI) (fn:=Try.f29) (cd:=B29) follows_mixed soundI (by kernel_rfl) (by kernel_rfl) (fnok polI.prim _ _ (by kernel_rfl)) (by kernel_rfl) ?_
  intro args res h
  obtain ⟨d,rfl,hq⟩:=rwF_inv h
  clear h
  split at hq
  · rename_i hc
    cases hq
    have a:=bs_a_0 0 (d.map encR)
    by_cases hd:okD d
    · rw [if_pos hd]
      have hn:=hd.1
      have hp:=pow_le hd.1.2
      have m1:=prim_miles (pol':=polI) (by kernel_rfl) hc.1 hc.2 [] true (okB_true hd)
      have b:=bs_b_0 0 (d.map encR) m1
      have c:=bs_c_0 0 (d.map encR) [] _ rfl
      have h2:2 ≤ 2 ^ d.length:=by
        have:=Nat.pow_le_pow_right (n:=2) (by omega) hn.1
        omega
      have ew:IntKind.i64.wrap (((2 ^ d.length:Nat):Int) - 2)=((2 ^ d.length - 2:Nat):Int):=by
        generalize 2 ^ d.length=x at hp h2
        rw [wrap_id (by omega) (by omega)]; omega
      have bl:=bo_shl (v:=d.length) (by omega)
      have dd:=bs_d_0 0 (d.map encR) [.map [] [] 0] ((2 ^ d.length:Nat):Int) _ [.map [] [] 0,boxK 0 (2 ^ d.length - 2:Nat)] (by rw [List.length_map]; exact bl) (by rw [show (HV.agg [.int .i64 0,.int .i64 0])=encP ((0:Int),(0:Int)) from rfl,new_k]; rfl) (by rw [ew]; exact st_k rfl)
      have e:=bs_e_0 0 (d.map encR) _ [.map [] [] 0,boxK 0 (2 ^ d.length - 2:Nat)] _ (lit_zero _)
      have hB:BI d 0 (2 ^ d.length - 2) [0] (.sl 2 0 1 (some 1) 1 1) [.map [] [] 0,boxK 0 (2 ^ d.length - 2:Nat),bI [0]]:=⟨⟨⟨[],rfl⟩,by
        rw [sameH_iff]
        intro B hB
        simp only [List.mem_cons,List.not_mem_nil,or_false] at hB
        rcases hB with rfl | rfl | rfl
        · rfl
        · exact same_box _ _
        · exact same_bI _,by simp [mxs,Blk.mx]⟩,rfl,.inl ⟨rfl,rfl,rfl,rfl⟩⟩
      have ht:=best_tour hd
      obtain ⟨t1,t2,t3,t4⟩:=trOk_iff.1 ht
      have hbl:(bestT d).length=1+(grd d (2 ^ d.length) 0 (2 ^ d.length - 2)).length:=by simp only [bestT,List.length_cons]; omega
      obtain ⟨tb,cap,H',q1,q2⟩:=bs_loop hd (2 ^ d.length) 0 (2 ^ d.length - 2) [0] _ _ (Nat.sub_le _ _) (by omega) all_lt hB (by simp only [List.length_cons,List.length_nil]; omega)
      have eb:[0] ++ grd d (2 ^ d.length) 0 (2 ^ d.length - 2)=bestT d:=rfl
      rw [eb] at q1 q2
      have k56:∀ k,callN Tp polI (k+1) 56 [.imm .arg 1 (d.map encR),.sl tb 0 (bestT d).length cap (bestT d).length 1] H'=some (.int .i64 (lenT d (bestT d)),H'):=fun k=>by
        rw [prim_call (pol:=polI) (g:=56) (F:=len56) (by kernel_rfl) (rs:=[.imm .arg 1 (d.map encR),.imm .arg 1 ((bestT d).map encI)]) (by simp only [mapO,arg_rw,arg_slc rfl q2]) (res:=.int .i64 (lenT d (bestT d))) (by simp only [len56,rlF,mapO_map decR_enc,mapO_map decI_enc]; rw [if_pos ⟨hd,t3,by omega⟩])]; rfl
      have z:=bs_z_0 0 (d.map encR) _ H' Ud Ud Ud Ud Ud _ _ k56
      have u1:=sq (bke (c:=sub [1,1,1,1,1,0] B29) q1) z (c:=sub [1,1,1,1,1] B29)
      have u2:=sq e u1 (c:=sub [1,1,1,1] B29)
      have u3:=sq dd u2 (c:=sub [1,1,1] B29)
      have u4:=sq c u3 (c:=sub [1,1] B29)
      have u5:=sq a (sq b u4 (c:=sub [1] B29)) (c:=B29)
      exact ⟨_,_,_,.tuple [.sl tb 0 (bestT d).length cap (bestT d).length 1,.int .i64 (lenT d (bestT d)),.int .i64 0],u5,by simp,by simp only [resultsV,res29]; rfl,toRes_li2 q2 rfl _ 0⟩
    · rw [if_neg hd]
      have m1:=prim_miles (pol':=polI) (by kernel_rfl) hc.1 hc.2 [] false (okB_false hd)
      exact ⟨_,_,_,_,sq a (sqo (bs_b_1 0 (d.map encR) m1) (c:=sub [1] B29) (b:=sub [1,1] B29)) (c:=B29),by simp,by simp only [resultsV,res29]; rfl,rfl⟩
  · cases hq
end Go.Proofs.Ytlendaofkmhgmaa
end
section
open Go Go.HL
namespace Go.Proofs.Ytlendaofkmhgmaa
set_option maxRecDepth 100000
open Go.Proofs.Try renaming prog → Tp
open Go.HL.HV renaming undef → Ud
noncomputable def B33:Code:=Try.f33.body.getD .skip
abbrev env33 (v0 v1 v4 v5 v6 v7 v8:HV):Env:=[(0,v0),(1,v1),(4,v4),(5,v5),(6,v6),(7,v7),(8,v8)]
theorem to_a_0 (la:List HV) (n:Nat) (H:Heap):RT polA 33 (sub [0] B33) [(0,.imm .arg 1 la),(1,.i (n:Int))] H .normal (env33 (.imm .arg 1 la) (.i (n:Int)) (.imm .lit 1 []) Ud Ud Ud Ud) H :=
  RunsTo.hin 0 60 [] fun kf hk=>⟨_,by kernel_rfl,.nil⟩
theorem to_b_0 (la:List HV) (n:Nat) (tv:HV) (H:Heap) (H0:Heap) (g0:litV Tp true true 23 1 [(0,.i 0)] H=some (tv,H0)):RT polA 33 (sub [1,0] B33) (env33 (.imm .arg 1 la) (.i (n:Int)) (.imm .lit 1 []) Ud Ud Ud Ud) H .normal (env33 (.imm .arg 1 la) (.i (n:Int)) (.imm .lit 1 []) tv Ud Ud Ud) H0 :=
  RunsTo.hin 0 60 [⟨1,0,tv,H0⟩] fun kf hk=>⟨_,by kernel_rfl,(oC (g0) .nil)⟩
theorem to_c_0 (la:List HV) (n:Nat) (tv:HV) (H:Heap):RT polA 33 (sub [1,1,0,0] B33) (env33 (.imm .arg 1 la) (.i (n:Int)) (.imm .lit 1 []) tv Ud Ud Ud) H .normal (env33 (.imm .arg 1 la) (.i (n:Int)) (.imm .lit 1 []) tv (.i 1) Ud Ud) H :=
  RunsTo.hin 0 60 [] fun kf hk=>⟨_,by kernel_rfl,.nil⟩
theorem to_l_0 (la:List HV) (n:Nat) (tv v1 v2:HV) (i ob a m:Nat) (H:Heap) (x0:Int) (md:Int) (H0:Heap) (H1:Heap) (H2:Heap) (H3:Heap) (H4:Heap) (g0:(i:Int) < (n:Int)) (g1:(i:Int) < (la.length:Int)) (g2:idxV Tp 23 (.imm .arg 1 la) (.i (i:Int))=some (.vptr (.i x0))) (g3:∀ kf,callN Tp polA (kf+1) 27 [.i x0,.i (i:Int)] H=some (.i md,H0)) (g4:some (HV.sl H0.length 0 0 none 0 1,H0 ++ [Blk.arr 1 [] true 0])=some (.sl ob 0 0 none 0 1,H1)) (g5:sliceV Tp 23 (tv) none (some (.i (IntKind.i64.wrap (1+md)))) none=some (v1)) (g6:builtinV Tp .append [23,23] [.sl ob 0 0 none 0 1,v1] H1=some (.sl ob 0 a none a 1,H2)) (g7:appV H2 1 8 (.sl ob 0 a none a 1) [.i (i:Int)]=some (.sl ob 0 (a+1) none (a+1) 1,H3)) (g8:sliceV Tp 23 (tv) (some (.i (IntKind.i64.wrap (1+md)))) none none=some (v2)) (g9:builtinV Tp .append [23,23] [.sl ob 0 (a+1) none (a+1) 1,v2] H3=some (.sl ob 0 m none m 1,H4)):RT polA 33 (sub [1,1,0,1,0,0] B33) (env33 (.imm .arg 1 la) (.i (n:Int)) (.imm .lit 1 []) tv (.i (i:Int)) Ud Ud) H .normal (env33 (.imm .arg 1 la) (.i (n:Int)) (.imm .lit 1 []) (.sl ob 0 m none m 1) (.i (IntKind.i64.wrap ((i:Int)+1))) (.i (IntKind.i64.wrap (1+md))) (.sl ob 0 (a+1) none (a+1) 1)) H4 :=
  RunsTo.hin 0 60 [⟨3,2,.bool true,H⟩,⟨6,3,.bool true,H⟩,⟨7,2,.vptr (.i x0),H⟩,⟨7,5,.i md,H0⟩,⟨8,0,.sl ob 0 0 none 0 1,H1⟩,⟨9,3,v1,H1⟩,⟨9,4,.sl ob 0 a none a 1,H2⟩,⟨10,3,.sl ob 0 (a+1) none (a+1) 1,H3⟩,⟨11,3,v2,H3⟩,⟨11,4,.sl ob 0 m none m 1,H4⟩] fun kf hk=>⟨_,by kernel_rfl,(oB H (decide_eq_true g0) (oB H (decide_eq_true g1) (oP H g2 (oC (g3 kf) (oC (g4) (oP H1 g5 (oC (g6) (oC (g7) (oP H3 g8 (oC (g9) .nil))))))))))⟩
theorem to_l_1 (la:List HV) (n:Nat) (tv v1 v2:HV) (i ob a m:Nat) (H:Heap) (H0:Heap) (H1:Heap) (H2:Heap) (H3:Heap) (g0:(i:Int) < (n:Int)) (g1:¬ ((i:Int) < (la.length:Int))) (g2:some (HV.sl H.length 0 0 none 0 1,H ++ [Blk.arr 1 [] true 0])=some (.sl ob 0 0 none 0 1,H0)) (g3:sliceV Tp 23 (tv) none (some (.i (i:Int))) none=some (v1)) (g4:builtinV Tp .append [23,23] [.sl ob 0 0 none 0 1,v1] H0=some (.sl ob 0 a none a 1,H1)) (g5:appV H1 1 8 (.sl ob 0 a none a 1) [.i (i:Int)]=some (.sl ob 0 (a+1) none (a+1) 1,H2)) (g6:sliceV Tp 23 (tv) (some (.i (i:Int))) none none=some (v2)) (g7:builtinV Tp .append [23,23] [.sl ob 0 (a+1) none (a+1) 1,v2] H2=some (.sl ob 0 m none m 1,H3)):RT polA 33 (sub [1,1,0,1,0,0] B33) (env33 (.imm .arg 1 la) (.i (n:Int)) (.imm .lit 1 []) tv (.i (i:Int)) Ud Ud) H .normal (env33 (.imm .arg 1 la) (.i (n:Int)) (.imm .lit 1 []) (.sl ob 0 m none m 1) (.i (IntKind.i64.wrap ((i:Int)+1))) (.i (i:Int)) (.sl ob 0 (a+1) none (a+1) 1)) H3 :=
  RunsTo.hin 0 60 [⟨3,2,.bool true,H⟩,⟨6,3,.bool false,H⟩,⟨8,0,.sl ob 0 0 none 0 1,H0⟩,⟨9,3,v1,H0⟩,⟨9,4,.sl ob 0 a none a 1,H1⟩,⟨10,3,.sl ob 0 (a+1) none (a+1) 1,H2⟩,⟨11,3,v2,H2⟩,⟨11,4,.sl ob 0 m none m 1,H3⟩] fun kf hk=>⟨_,by kernel_rfl,(oB H (decide_eq_true g0) (oB H (decide_eq_false g1) (oC (g2) (oP H0 g3 (oC (g4) (oC (g5) (oP H2 g6 (oC (g7) .nil))))))))⟩
theorem to_l_2 (la:List HV) (n:Nat) (tv v1 v2:HV) (i ob a m:Nat) (H:Heap)(g0:¬ ((i:Int) < (n:Int))):RT polA 33 (sub [1,1,0,1,0,0] B33) (env33 (.imm .arg 1 la) (.i (n:Int)) (.imm .lit 1 []) tv (.i (i:Int)) Ud Ud) H (.exit 0) (env33 (.imm .arg 1 la) (.i (n:Int)) (.imm .lit 1 []) tv (.i (i:Int)) Ud Ud) H :=
  RunsTo.hin 0 60 [⟨3,2,.bool false,H⟩] fun kf hk=>⟨_,by kernel_rfl,(oB H (decide_eq_false g0) .nil)⟩
theorem to_z_0 (la:List HV) (n:Nat) (tv y6 y7 y8:HV) (H:Heap):RT polA 33 (sub [1,1,1] B33) (env33 (.imm .arg 1 la) (.i (n:Int)) (.imm .lit 1 []) tv y6 y7 y8) H .ret (env33 (.imm .arg 1 la) (.i (n:Int)) tv tv y6 y7 y8) H :=
  RunsTo.hin 0 60 [] fun kf hk=>⟨_,by kernel_rfl,.nil⟩
end Go.Proofs.Ytlendaofkmhgmaa
end
section
open Go Go.HL
namespace Go.Proofs.Ytlendaofkmhgmaa
open Go.Proofs.Try renaming prog → Tp
open Go.HL.HV renaming undef → Ud
theorem res33:Try.f33.results.toList=[.tmp 4]:=by kernel_rfl
theorem info3b:(Tp.info? 3).map (fun i=>(i.size,i.bytes,zeroFits i))=some (1,8,true):=by kernel_rfl
theorem set_self' {H:Heap} {b:Nat} {B:Blk} (hb:H[b]?=some B):H.set b B=H:=by
  apply List.ext_getElem?
  intro k
  rw [List.getElem?_set]
  by_cases e:b=k
  · subst e; rw [if_pos rfl,if_pos (lt_of_get hb),hb]
  · rw [if_neg e]
theorem app_sq {H:Heap} {b:Nat} {x:HV} {o xs:List Int} (hb:H[b]?=some (bI o)) (hs:srcOf H x=some (xs.map encI,1)) (hlen:o.length+xs.length ≤ 1000) :
    builtinV Tp .append [23,23] [.sl b 0 o.length none o.length 1,x] H=some (.sl b 0 (o ++ xs).length none (o ++ xs).length 1,H.set b (bI (o ++ xs))):=by
  have hi:=info3b
  cases hinf:Tp.info? 3 with
  | none=>rw [hinf] at hi; cases hi
  | some inf =>
    rw [hinf] at hi
    simp only [Option.map,Option.some.injEq,Prod.mk.injEq] at hi
    obtain ⟨e1,e2,e3⟩:=hi
    simp only [builtinV,u23,hinf,hs,e1,e2,e3]
    rw [if_pos ⟨.inl trivial,by omega,trivial⟩]
    by_cases hx:xs=[]
    · subst hx
      simp only [List.map_nil,appV,if_true,List.append_nil,set_self' hb]
    · exact app_ints hb hlen hx
theorem src_slc {H:Heap} {b off len tot:Nat} {cap:Option Nat} {o:List Int} (hb:H[b]?=some (bI o)) (ht:o.length=tot) (h:off+len ≤ tot):srcOf H (.sl b off len cap tot 1)=some (((o.drop off).take len).map encI,1):=by
  simp only [srcOf]
  split
  · rename_i h0
    subst h0
    simp
  · simp only [view,hb,List.length_map,ht]
    rw [if_pos ⟨trivial,by omega,trivial⟩]
    simp [List.map_take,List.map_drop]
theorem sl_hi {b m:Nat} {cap:Option Nat} {a:Nat} (ha:a ≤ m):sliceV Tp 23 (.sl b 0 m cap m 1) none (some (.int .i64 (a:Int))) none=some (.sl b 0 a (cap.map (· - 0)) m 1):=by
  have hb1:boundV (some (.int .i64 (a:Int)))=some (some a):=by simp [boundV]
  have hb0:boundV none=some none:=rfl
  simp only [sliceV,hb1,hb0,u23,z3,if_true,Option.getD,Nat.zero_add,Nat.sub_zero]
  rw [if_pos ⟨Nat.zero_le _,ha⟩]
theorem sl_lo {b m:Nat} {cap:Option Nat} {a:Nat} (ha:a ≤ m):sliceV Tp 23 (.sl b 0 m cap m 1) (some (.int .i64 (a:Int))) none none=some (.sl b a (m - a) (cap.map (· - a)) m 1):=by
  have hb1:boundV (some (.int .i64 (a:Int)))=some (some a):=by simp [boundV]
  have hb0:boundV none=some none:=rfl
  simp only [sliceV,hb1,hb0,u23,z3,if_true,Option.getD,Nat.zero_add]
  rw [if_pos ⟨ha,Nat.le_refl _⟩]
theorem mxs_set0 {H:Heap} (h:mxs H ≤ 0) {k:Nat} {B:Blk} (hB:B.mx=0):mxs (H.set k B) ≤ 0:=by
  rw [mxs_le] at h ⊢
  intro C hC
  rcases List.mem_or_eq_of_mem_set hC with hC | rfl
  · exact h C hC
  · omega
theorem mxs_app0 {H:Heap} (h:mxs H ≤ 0) {B:Blk} (hB:B.mx=0):mxs (H ++ [B]) ≤ 0:=by
  rw [mxs_le] at h ⊢
  intro C hC
  rcases List.mem_append.1 hC with hC | hC
  · exact h C hC
  · rw [List.mem_singleton.1 hC]; omega
section
variable {l:List Int} {n:Nat}
abbrev toE (l:List Int) (n:Nat) (tv y6 y7 y8:HV):Env:=env33 (.imm .arg 1 (l.map encI)) (.int .i64 (n:Int)) (.imm .lit 1 []) tv y6 y7 y8
theorem to_apps {H:Heap} {tb m:Nat} {cap:Option Nat} {o:List Int} (hx:mxs H ≤ 0) (ho:H[tb]?=some (bI o)) (hm:o.length=m) {a:Nat} (ha:a ≤ m) (hl:m ≤ 100) (x:Int) :
    ∃ H2 H3 H4,builtinV Tp .append [23,23] [.sl H.length 0 0 none 0 1,.sl tb 0 a (cap.map (· - 0)) m 1] (H ++ [bI []])=some (.sl H.length 0 a none a 1,H2) ∧
      appV H2 1 8 (.sl H.length 0 a none a 1) [.int .i64 x]=some (.sl H.length 0 (a+1) none (a+1) 1,H3) ∧
      builtinV Tp .append [23,23] [.sl H.length 0 (a+1) none (a+1) 1,.sl tb a (m - a) (cap.map (· - a)) m 1] H3=some (.sl H.length 0 (m+1) none (m+1) 1,H4) ∧
      H4.length=H.length+1∧H4[H.length]?=some (bI (o.take a ++ (x :: o.drop a)))∧mxs H4 ≤ 0:=by
  have htl:=lt_of_get ho
  have n0:(H ++ [bI []])[H.length]?=some (bI []):=by rw [List.getElem?_append_right (Nat.le_refl _)]; simp
  have t0:(H ++ [bI []])[tb]?=some (bI o):=by rw [List.getElem?_append_left htl]; exact ho
  have s0:=src_slc (cap:=cap.map (· - 0)) t0 hm (off:=0) (len:=a) (by omega)
  rw [List.drop_zero] at s0
  have p0:=app_sq (o:=[]) (xs:=o.take a) n0 s0 (by simp; omega)
  rw [List.nil_append,show (o.take a).length=a by rw [List.length_take]; omega] at p0
  have n1:((H ++ [bI []]).set H.length (bI (o.take a)))[H.length]?=some (bI (o.take a)):=List.getElem?_set_self (by simp)
  have p1:=app_ints (o:=o.take a) (xs:=[x]) n1 (by simp; omega) (by simp)
  rw [show (o.take a).length=a by rw [List.length_take]; omega,show (o.take a ++ [x]).length=a+1 by simp; omega] at p1
  have n2:(((H ++ [bI []]).set H.length (bI (o.take a))).set H.length (bI (o.take a ++ [x])))[H.length]?=some (bI (o.take a ++ [x])):=List.getElem?_set_self (by simp)
  have t2:(((H ++ [bI []]).set H.length (bI (o.take a))).set H.length (bI (o.take a ++ [x])))[tb]?=some (bI o):=by rw [List.getElem?_set_ne (by omega),List.getElem?_set_ne (by omega)]; exact t0
  have s2:=src_slc (cap:=cap.map (· - a)) t2 hm (off:=a) (len:=m - a) (by omega)
  rw [List.take_of_length_le (l:=o.drop a) (i:=m - a) (by simp; omega)] at s2
  have p2:=app_sq (o:=o.take a ++ [x]) (xs:=o.drop a) n2 s2 (by simp; omega)
  rw [show (o.take a ++ [x]).length=a+1 by simp; omega,show (o.take a ++ [x] ++ o.drop a).length=m+1 by simp; omega] at p2
  refine ⟨_,_,_,p0,p1,p2,by simp,?_,mxs_set0 (mxs_set0 (mxs_set0 (mxs_app0 hx rfl) rfl) rfl) rfl⟩
  rw [List.getElem?_set_self (by simp),List.append_assoc]
  rfl
theorem to_loop (hn:n ≤ 12):∀ k i o tb cap H,i+k=n → 1 ≤ i → H[tb]?=some (bI o) → o.length=i → mxs H ≤ 0 →
    ∃ tb' cap' H',RT polA 33 (sub [1,1,0,1,0] B33) (toE l n (.sl tb 0 i cap i 1) (.int .i64 (i:Int)) Ud Ud) H (.exit 0) (toE l n (.sl tb' 0 n cap' n 1) (.int .i64 (n:Int)) Ud Ud) H'∧H'[tb']?=some (bI (tourGo l k i o))∧(tourGo l k i o).length=n:=by
  intro k
  induction k with
  | zero =>
    intro i o tb cap H hi _ ho hl _
    have:i=n:=by omega
    subst this
    exact ⟨tb,cap,H,lpo (to_l_2 (l.map encI) i _ Ud Ud i 0 0 0 H (by omega)),ho,hl⟩
  | succ k ih =>
    intro i o tb cap H hi h1 ho hl hx
    have ha:=ins_at (l:=l) h1 (by omega)
    rw [tourGo]
    have htl:=lt_of_get ho
    have go:∀ (a:Nat) (y7 y8:HV) (H4:Heap),a ≤ i → (if i < l.length then 1+modW (l.getD i 0) i else (i:Int)).toNat=a → H4.length=H.length+1 → H4[H.length]?=some (bI (o.take a ++ ((i:Int) :: o.drop a))) →
        RT polA 33 (sub [1,1,0,1,0,0] B33) (toE l n (.sl tb 0 i cap i 1) (.int .i64 (i:Int)) Ud Ud) H .normal (toE l n (.sl H.length 0 (i+1) none (i+1) 1) (.int .i64 ((i+1:Nat):Int)) y7 y8) H4 →
        mxs H4 ≤ 0 → ∃ tb' cap' H',RT polA 33 (sub [1,1,0,1,0] B33) (toE l n (.sl tb 0 i cap i 1) (.int .i64 (i:Int)) Ud Ud) H (.exit 0) (toE l n (.sl tb' 0 n cap' n 1) (.int .i64 (n:Int)) Ud Ud) H'∧H'[tb']?=some (bI (tourGo l k (i+1) (insT l i o)))∧(tourGo l k (i+1) (insT l i o)).length=n:=by
      intro a y7 y8 H4 hai hat hl4 hb4 hs hx4
      have e:insT l i o=o.take a ++ ((i:Int) :: o.drop a):=by unfold insT; simp only [hat]
      have ec:gc H.length (bndE (toE l n (.sl H.length 0 (i+1) none (i+1) 1) (.int .i64 ((i+1:Nat):Int)) Ud Ud)) H4=H4:=by
        unfold gc
        have:H4.length ≤ max H.length (max (bndE (toE l n (.sl H.length 0 (i+1) none (i+1) 1) (.int .i64 ((i+1:Nat):Int)) Ud Ud)) (mxs H4)):=by
          simp only [bndE,bnd,bndL]
          omega
        exact List.take_of_length_le this
      obtain ⟨tb',cap',H',r,q1,q2⟩:=ih (i+1) (insT l i o) H.length none H4 (by omega) (by omega) (by rw [e]; exact hb4) (by rw [e]; simp; omega) hx4
      exact ⟨tb',cap',H',lop hs ec r,q1,q2⟩
    by_cases c:i < l.length
    · rw [if_pos c] at ha
      have hmb:=modW_bounds (l.getD i 0) (i:Int) (by omega) (by omega)
      obtain ⟨a,hae⟩:∃ a:Nat,1+modW (l.getD i 0) (i:Int)=(a:Int):=⟨(1+modW (l.getD i 0) (i:Int)).toNat,by omega⟩
      have hw:IntKind.i64.wrap (1+modW (l.getD i 0) (i:Int))=(a:Int):=by rw [wrap_id (by omega) (by omega),hae]
      obtain ⟨H2,H3,H4,p0,p1,p2,p3,p4,p5⟩:=to_apps (cap:=cap) hx ho hl (a:=a) (by omega) (by omega) (i:Int)
      have s:=to_l_0 (l.map encI) n (.sl tb 0 i cap i 1) _ _ i H.length a (i+1) H _ _ H (H ++ [bI []]) H2 H3 H4 (by omega) (by rw [List.length_map]; omega) (gx c) (prim_mod (by kernel_rfl) (by omega) H) rfl (by rw [hw]; exact sl_hi (by omega)) p0 p1 (by rw [hw]; exact sl_lo (by omega)) p2
      rw [wrap_succ (by omega)] at s
      exact go a _ _ H4 (by omega) (by rw [if_pos c,hae]; omega) p3 p4 s p5
    · obtain ⟨H2,H3,H4,p0,p1,p2,p3,p4,p5⟩:=to_apps (cap:=cap) hx ho hl (a:=i) (by omega) (by omega) (i:Int)
      have s:=to_l_1 (l.map encI) n (.sl tb 0 i cap i 1) _ _ i H.length i (i+1) H (H ++ [bI []]) H2 H3 H4 (by omega) (by rw [List.length_map]; omega) rfl (sl_hi (by omega)) p0 p1 (sl_lo (by omega)) p2
      rw [wrap_succ (by omega)] at s
      exact go i _ _ H4 (by omega) (by rw [if_neg c]; omega) p3 p4 s p5
end
theorem tour33_ok:PrimOk Tp 33 tour33:=by
  refine primOk_pure (pol:=polA) (fn:=Try.f33) (cd:=B33) follows_mixed soundA (by kernel_rfl) (by kernel_rfl) (fnokA _ _ (by kernel_rfl)) (by kernel_rfl) ?_
  intro args res h
  obtain ⟨l,n0,rfl,hq⟩:=lnF_inv h
  clear h
  split at hq
  · rename_i hc
    cases hq
    obtain ⟨n,rfl⟩:∃ n:Nat,n0=(n:Int):=⟨n0.toNat,by omega⟩
    rw [Int.toNat_natCast]
    have a:=to_a_0 (l.map encI) n []
    have b:=to_b_0 (l.map encI) n _ [] _ (lit_zero [])
    have c:=to_c_0 (l.map encI) n (.sl 0 0 1 (some 1) 1 1) [bI [0]]
    obtain ⟨tb,cap,H',r,q1,q2⟩:=to_loop (l:=l) (n:=n) (by omega) (n - 1) 1 [0] 0 (some 1) [bI [0]] (by omega) (by omega) rfl rfl (by simp [mxs,Blk.mx])
    have z:=to_z_0 (l.map encI) n (.sl tb 0 n cap n 1) (.int .i64 (n:Int)) Ud Ud H'
    have t1:=sq (sq c (bke (c:=sub [1,1,0,1] B33) r) (c:=sub [1,1,0] B33)) z (c:=sub [1,1] B33)
    have t2:=sq a (sq b t1 (c:=sub [1] B33)) (c:=B33)
    refine ⟨_,_,_,.sl tb 0 n cap n 1,t2,by simp,by simp only [resultsV,res33]; rfl,?_⟩
    have hr:=resCell_sl (H:=H') (no:=[tb]) (b:=tb) (k:=1) (m:=n) (cap:=cap) (els:=(tourGo l (n - 1) 1 [0]).map encI) q1 (by simpa using q2) (mapO_self (fun r=>frz_int 4 r) _)
    have ho:ownedAll H' false (.sl tb 0 n cap n 1)=[tb]:=by simp [ownedAll,cellsOf,owned,q1]
    show toRes H' false (.sl tb 0 n cap n 1)=_
    simp only [toRes,ho,List.nodup_cons,List.not_mem_nil,not_false_eq_true,List.nodup_nil,and_self,if_true,resVal]
    exact hr
  · cases hq
end Go.Proofs.Ytlendaofkmhgmaa
end
section
open Go Go.HL
namespace Go.Proofs.Ytlendaofkmhgmaa
section
variable {d:List (List Int)}
def lastP:Nat → List Int → Nat
  | s,[]=>s
  | _,v :: p=>lastP v.toNat p
structure Pre (n:Nat) (p:List Int) (L:Nat):Prop where
  inn:inT n (0 :: p)
  nd:(0 :: p).Nodup
  left:∀ y:Nat,L.testBit y=true ↔ y < n∧(y:Int) ∉ (0 :: p)
theorem Pre.lt {n L:Nat} {p:List Int} (h:Pre n p L):L < 2 ^ n:=Nat.lt_pow_two_of_testBit _ fun i hi=>by
  cases hb:L.testBit i with
  | false=>rfl
  | true=>have:=((h.left i).1 hb).1; omega
theorem Pre.step {n L y:Nat} {p:List Int} (h:Pre n p L) (hn:n ≤ 11) (hb:L.testBit y=true):Pre n (p ++ [(y:Int)]) (wo L y):=by
  obtain ⟨h1,h2⟩:=(h.left y).1 hb
  have hL:=h.lt
  have hp:=pow_le hn
  have e:(0 :: (p ++ [(y:Int)]))=(0 :: p) ++ [(y:Int)]:=rfl
  refine ⟨fun v hv=>?_,?_,fun u=>?_⟩
  · rw [e,List.mem_append,List.mem_singleton] at hv
    rcases hv with hv | rfl
    · exact h.inn v hv
    · omega
  · rw [e,List.nodup_append]
    refine ⟨h.nd,by simp,fun a ha b hb'=>?_⟩
    rw [List.mem_singleton] at hb'
    subst hb'
    exact fun e=>h2 (e ▸ ha)
  · rw [wo_bit (by omega) (by omega),e,Bool.and_eq_true,h.left,decide_eq_true_eq]
    simp only [List.mem_append,List.mem_singleton,not_or]
    constructor
    · rintro ⟨⟨g1,g2⟩,g3⟩; exact ⟨g1,g2,by omega⟩
    · rintro ⟨g1,g2,g3⟩; exact ⟨⟨g1,g2⟩,by omega⟩
end
end Go.Proofs.Ytlendaofkmhgmaa
end
section
open Go Go.HL
namespace Go.Proofs.Ytlendaofkmhgmaa
def rl (d:List (List Int)) (A:List Int) (p:Nat × Nat):List Int:=A.set p.2 (min (A.getD p.2 0) (A.getD p.1 0+at2 d p.1 p.2))
def BdA (n:Nat) (A:List Int):Prop:=A.length=n∧∀ v,v < n → 0 ≤ A.getD v 0∧A.getD v 0 ≤ 1099511627776
theorem getD_set' (o:List Int) (i k:Nat) (v:Int) (hi:i < o.length):(o.set i v).getD k 0=if i=k then v else o.getD k 0:=by
  simp only [List.getD,List.getElem?_set,hi]
  split
  · rename_i e; subst e; simp
  · rfl
section
variable {d:List (List Int)}
theorem BdA.rl (h:okD d) {A:List Int} (hA:BdA d.length A) {p:Nat × Nat} (h1:p.1 < d.length) (h2:p.2 < d.length):BdA d.length (rl d A p):=by
  refine ⟨by simp [Ytlendaofkmhgmaa.rl,hA.1],fun v hv=>?_⟩
  unfold Ytlendaofkmhgmaa.rl
  rw [getD_set' _ _ _ _ (by rw [hA.1]; exact h2)]
  have a1:=hA.2 p.1 h1
  have a2:=hA.2 p.2 h2
  have a3:=h.at h1 h2
  split
  · omega
  · exact hA.2 v hv
end
end Go.Proofs.Ytlendaofkmhgmaa
end
section
open Go Go.HL
namespace Go.Proofs.Ytlendaofkmhgmaa
open Go.Proofs.Try renaming prog → Tp
open Go.HL.HV renaming undef → Ud
section
variable {pol':Pol} {d:List (List Int)} {l:List Int} {H:Heap} {xb lb:Nat}
abbrev bRw (d:List (List Int)):Blk:=.arr 1 (d.map encO) true 0
theorem rows_len (h:okD d):d.length ≤ 1000∧(d.all fun r=>decide (r.length ≤ 1000))=true:=by
  have hn:=h.1
  refine ⟨by omega,List.all_eq_true.2 fun r hr=>?_⟩
  obtain ⟨i,hi⟩:=List.mem_iff_getElem?.1 hr
  have hil:=lt_of_get hi
  have:=h.2.1 i hil
  rw [List.getD,hi] at this
  exact decide_eq_true (by simp at this; omega)
theorem c_tame (hp:pol'.prim 28=some tame28) {R:List (List Int)} {n:Nat} {mo:Int} (hn:1 ≤ n∧n ≤ 12) (hm:0 ≤ mo∧mo ≤ 1000000) (H:Heap):∀ k,callN Tp pol' (k+1) 28 [.imm .arg 1 (R.map encR),.int .i64 (n:Int),.int .i64 mo] H=some (.sl H.length 0 (tameL R n mo).length none (tameL R n mo).length 1,H ++ [bRw (tameL R n mo)]):=fun k=>by
  rw [prim_call (pol:=pol') (g:=28) (F:=tame28) hp (rs:=[.imm .arg 1 (R.map encR),.int .i64 (n:Int),.int .i64 mo]) (by simp only [mapO,arg_rw]; rfl) (res:=.own 1 ((tameL R n mo).map encO)) (by simp only [tame28,nmF,mapO_map decR_enc]; rw [if_pos ⟨by omega,hm⟩,Int.toNat_natCast]),recv_rows]
theorem c_tour (hp:pol'.prim 33=some tour33) {n:Nat} (hn:1 ≤ n∧n ≤ 12) (H:Heap):∀ k,callN Tp pol' (k+1) 33 [.imm .arg 1 (l.map encI),.int .i64 (n:Int)] H=some (.sl H.length 0 (tourL l n).length none (tourL l n).length 1,H ++ [bI (tourL l n)]):=fun k=>by
  rw [prim_call (pol:=pol') (g:=33) (F:=tour33) hp (rs:=[.imm .arg 1 (l.map encI),.int .i64 (n:Int)]) (by simp only [mapO,arg_li]; rfl) (res:=.own 1 ((tourL l n).map encI)) (by simp only [tour33,lnF,mapO_map decI_enc]; rw [if_pos (by omega),Int.toNat_natCast]),recv_ints]
end
theorem same_bR (d:List (List Int)):sameH [bRw d] [bRw d]=true:=same_arr fun v hv=>by
  obtain ⟨k,_,rfl⟩:=List.mem_map.1 hv
  simp [encO,same,same_li]
theorem sameH_cons {B:Blk} {H:Heap} (hB:sameH [B] [B]=true) (hH:sameH H H=true):sameH (B :: H) (B :: H)=true:=by
  rw [sameH_iff] at hH ⊢
  intro C hC
  rcases List.mem_cons.1 hC with rfl | hC
  · exact hB
  · exact hH C hC
theorem n_of (R0:List (List Int)) (m:Int) (hm:0 < m∧m ≤ 1000) (c:Int) (hc:0 ≤ c∧c ≤ 3):∃ n:Nat,(c ≤ n∧(n:Int) < c+m)∧IntKind.i64.wrap (c+modW (IntKind.i64.wrap (((R0.map encR).length:Int) - c)) m)=(n:Int):=by
  have h:=modW_bounds (IntKind.i64.wrap (((R0.map encR).length:Int) - c)) m (by omega) (by omega)
  refine ⟨(c+modW (IntKind.i64.wrap (((R0.map encR).length:Int) - c)) m).toNat,by omega,?_⟩
  rw [wrap_id (by omega) (by omega)]; omega
end Go.Proofs.Ytlendaofkmhgmaa
end
section
open Go Go.HL
namespace Go.Proofs.Ytlendaofkmhgmaa
open Go.Proofs.Try renaming prog → Tp
open Go.HL.HV renaming undef → Ud
def anyF (f:Nat → Bool):Nat → Nat → Bool
  | 0,_=>false
  | k+1,i=>f i || anyF f k (i+1)
def tight (d:List (List Int)) (fa:List Int) (v u:Nat):Bool:=decide (at2 d v u+fa.getD u 0=fa.getD v 0)
def ldF (d:List (List Int)) (fa:List Int) (to:Nat):Nat → Nat → Nat → Bool
  | 0,v,_=>decide (v=to)
  | k+1,v,L=>decide (v=to) || anyF (fun u=>L.testBit u && tight d fa v u && ldF d fa to k u (wo L u)) d.length 0
def ldT (d:List (List Int)) (fa:List Int) (to v L:Nat):Bool:=ldF d fa to L v L
theorem u74:Tp.underlying 74=some (.map 77 4):=by kernel_rfl
theorem a22:tyAgg Tp 22=false:=by kernel_rfl
theorem i22:(Tp.underlying 22).isSome=true:=by kernel_rfl
theorem a74:tyAgg Tp 74=false:=by kernel_rfl
theorem i74:(Tp.underlying 74).isSome=true:=by kernel_rfl
theorem a75:tyAgg Tp 75=false:=by kernel_rfl
theorem i75:(Tp.underlying 75).isSome=true:=by kernel_rfl
abbrev fnK:HV:=.func 53 [] [.ptr 1 0 0 1,.ptr 6 0 0 1,.ptr 0 0 0 1,.ptr 3 0 0 1,.ptr 7 0 0 1]
abbrev bB (g:Int × Int → Bool) (k:Int × Int):HV:=.bool (g k)
structure WM (d:List (List Int)) (fa:List Int) (to:Nat) (ks:List (Int × Int)) (g:Int × Int → Bool) (H:Heap):Prop where
  b0:H[0]?=some (.arr 1 [.imm .arg 1 (d.map encR)] true 0)
  b1:H[1]?=some (.arr 1 [.int .i64 (to:Int)] true 0)
  b2:H[2]?=some (bI fa)
  b3:H[3]?=some (.arr 1 [.sl 2 0 d.length none d.length 1] true 5)
  b5:H[5]?=some (.map (ks.map encP) (ks.map (bB g)) 0)
  b6:H[6]?=some (.arr 1 [.map 5] true 6)
  b7:H[7]?=some (.arr 1 [fnK] true 8)
  nd:ks.Nodup
  rf:sameH H H=true
  mx:mxs H ≤ 8
structure FrW (H H':Heap):Prop where
  len:H'.length=H.length
  same:∀ k,k ≠ 5 → H'[k]?=H[k]?
theorem FrW.refl (H:Heap):FrW H H:=⟨rfl,fun _ _=>rfl⟩
theorem FrW.trans {H H' H'':Heap} (h:FrW H H') (h':FrW H' H''):FrW H H'':=⟨h'.len.trans h.len,fun k hk=>(h'.same k hk).trans (h.same k hk)⟩
section
variable {d:List (List Int)} {fa:List Int} {to:Nat} {ks:List (Int × Int)} {g:Int × Int → Bool} {H:Heap}
theorem WM.seven (h:WM d fa to ks g H):8 ≤ H.length:=lt_of_get h.b7
theorem WM.l0 (h:WM d fa to ks g H):loadV Tp H 22 (.ptr 0 0 0 1)=some (.imm .arg 1 (d.map encR)):=load_elem (b:=0) h.b0 rfl rfl rfl a22 i22
theorem WM.l1 (h:WM d fa to ks g H):loadV Tp H 3 (.ptr 1 0 0 1)=some (.int .i64 (to:Int)):=load_elem (b:=1) h.b1 rfl rfl rfl a3 i3
theorem WM.l3 (h:WM d fa to ks g H):loadV Tp H 23 (.ptr 3 0 0 1)=some (.sl 2 0 d.length none d.length 1):=load_elem (b:=3) h.b3 rfl rfl rfl a23 i23
theorem WM.l5 (h:WM d fa to ks g H):loadV Tp H 74 (.ptr 6 0 0 1)=some (.map 5):=load_elem (b:=6) h.b6 rfl rfl rfl a74 i74
theorem WM.l6 (h:WM d fa to ks g H):loadV Tp H 75 (.ptr 7 0 0 1)=some fnK:=load_elem (b:=7) h.b7 rfl rfl rfl a75 i75
theorem WM.l2 (h:WM d fa to ks g H) (hf:fa.length=d.length) {v:Nat} (hv:v < d.length):loadV Tp H 3 (.ptr 2 v 0 d.length)=some (.int .i64 (fa.getD v 0)):=by
  rw [← hf]
  exact load_out h.b2 (by omega)
theorem same_mapB (g:Int × Int → Bool) (ks:List (Int × Int)):sameH [.map (ks.map encP) (ks.map (bB g)) 0] [.map (ks.map encP) (ks.map (bB g)) 0]=true:=by
  have e1:sameL (ks.map encP) (ks.map encP)=true:=sameL_all fun v hv=>by
    obtain ⟨k,_,rfl⟩:=List.mem_map.1 hv
    simp [encP,same,sameL]
  have e2:sameL (ks.map (bB g)) (ks.map (bB g))=true:=sameL_all fun v hv=>by
    obtain ⟨k,_,rfl⟩:=List.mem_map.1 hv
    simp [same]
  simp only [sameH,e1,e2,beq_self_eq_true,Bool.and_self]
def put (g:Int × Int → Bool) (k:Int × Int) (b:Bool) (q:Int × Int):Bool:=if q=k then b else g q
theorem WM.upd (h:WM d fa to ks g H) (k:Int × Int) (b:Bool):∃ ks' H',updV Tp false 74 (.map 5) (encP k) (.bool b) H=some H'∧WM d fa to ks' (put g k b) H'∧FrW H H'∧(∀ q,q ∈ ks' ↔ q ∈ ks ∨ q=k):=by
  obtain ⟨r,h1,h2⟩:=findK_pairs k ks 0
  have ht:=key77 k
  have hl:=lt_of_get h.b5
  have key:∀ ks':List (Int × Int),ks'.Nodup → (∀ q,q ∈ ks' ↔ q ∈ ks ∨ q=k) → updV Tp false 74 (.map 5) (encP k) (.bool b) H=some (H.set 5 (.map (ks'.map encP) (ks'.map (bB (put g k b))) 0)) → ∃ ks' H',updV Tp false 74 (.map 5) (encP k) (.bool b) H=some H'∧WM d fa to ks' (put g k b) H'∧FrW H H'∧(∀ q,q ∈ ks' ↔ q ∈ ks ∨ q=k):=by
    intro ks' hnd hin hu
    have hs:∀ j,j ≠ 5 → (H.set 5 (.map (ks'.map encP) (ks'.map (bB (put g k b))) 0))[j]?=H[j]?:=fun j hj=>List.getElem?_set_ne (by omega)
    refine ⟨ks',_,hu,⟨by rw [hs 0 (by omega)]; exact h.b0,by rw [hs 1 (by omega)]; exact h.b1,by rw [hs 2 (by omega)]; exact h.b2,by rw [hs 3 (by omega)]; exact h.b3,List.getElem?_set_self hl,by rw [hs 6 (by omega)]; exact h.b6,by rw [hs 7 (by omega)]; exact h.b7,hnd,sameH_set h.rf (same_mapB _ ks'),?_⟩,⟨by simp,hs⟩,hin⟩
    have hm:=h.mx
    rw [mxs_le] at hm ⊢
    intro C hC
    rcases List.mem_or_eq_of_mem_set hC with hC | rfl
    · exact hm C hC
    · exact Nat.zero_le _
  rcases h2 with ⟨h3,j,rfl,h5⟩ | ⟨h3,rfl⟩
  · refine key ks h.nd (fun q=>⟨.inl,fun h=>h.elim id fun e=>e ▸ h3⟩) ?_
    simp only [updV,u74,ht,if_true,h.b5,h1,Bool.false_eq_true,if_false]
    have hs:(ks.map (bB g)).set (0+j) (.bool b)=ks.map (bB (put g k b)):=by
      apply List.ext_getElem?
      intro i
      have hjl:=lt_of_get h5
      rw [List.getElem?_set,List.length_map]
      by_cases e:0+j=i
      · subst e
        rw [if_pos rfl,if_pos (by omega),Nat.zero_add,List.getElem?_map,h5]
        simp [bB,put]
      · rw [if_neg e,List.getElem?_map,List.getElem?_map]
        cases hi:ks[i]? with
        | none=>rfl
        | some q =>
          have hq:q ≠ k:=fun e2=>by
            subst e2
            have hil:=lt_of_get hi
            have hinj:=(List.getElem?_inj hil h.nd).1 (by rw [hi,h5]:ks[i]?=ks[j]?)
            omega
          simp [bB,put,hq]
    simp only [hs,bnd,Nat.max_zero]
  · refine key (ks ++ [k]) (List.nodup_append.2 ⟨h.nd,by simp,fun a ha b hb=>by rw [List.mem_singleton] at hb; subst hb; exact fun e=>h3 (e ▸ ha)⟩) (fun q=>by simp) ?_
    have ha:(aggEq (cellsOf (encP k)) (cellsOf (encP k))).isSome=true:=by simp [encP,cellsOf,aggEq,scEq]
    have hs:ks.map (bB g) ++ [.bool b]=(ks ++ [k]).map (bB (put g k b)):=by
      have e1:ks.map (bB g)=ks.map (bB (put g k b)):=List.map_congr_left fun q hq=>by
        have:q ≠ k:=fun e=>h3 (e ▸ hq)
        simp only [bB,put,if_neg this]
      have e2:bB (put g k b) k=.bool b:=by simp only [bB,put,if_true]
      rw [e1,List.map_append,List.map_cons,List.map_nil,e2]
    simp only [updV,u74,ht,if_true,h.b5,h1,ha,Bool.false_eq_true,if_false,bnd,Nat.max_zero,← hs,List.map_append,List.map_cons,List.map_nil]
theorem WM.app (h:WM d fa to ks g H) {B:Blk} (hB:sameH [B] [B]=true) (hm:B.mx ≤ 8):WM d fa to ks g (H ++ [B]):=by
  have h7:=h.seven
  have hs:∀ j,j < 8 → (H ++ [B])[j]?=H[j]?:=fun j hj=>List.getElem?_append_left (by omega)
  refine ⟨by rw [hs 0 (by omega)]; exact h.b0,by rw [hs 1 (by omega)]; exact h.b1,by rw [hs 2 (by omega)]; exact h.b2,by rw [hs 3 (by omega)]; exact h.b3,by rw [hs 5 (by omega)]; exact h.b5,by rw [hs 6 (by omega)]; exact h.b6,by rw [hs 7 (by omega)]; exact h.b7,h.nd,sameH_app h.rf hB,?_⟩
  have hx:=h.mx
  rw [mxs_le] at hx ⊢
  intro C hC
  rcases List.mem_append.1 hC with hC | hC
  · exact hx C hC
  · rw [List.mem_singleton.1 hC]; exact hm
theorem WM.set (h:WM d fa to ks g H) {k:Nat} {B:Blk} (hk:8 ≤ k) (hB:sameH [B] [B]=true) (hm:B.mx ≤ 8):WM d fa to ks g (H.set k B):=by
  have hs:∀ j,j < 8 → (H.set k B)[j]?=H[j]?:=fun j hj=>List.getElem?_set_ne (by omega)
  refine ⟨by rw [hs 0 (by omega)]; exact h.b0,by rw [hs 1 (by omega)]; exact h.b1,by rw [hs 2 (by omega)]; exact h.b2,by rw [hs 3 (by omega)]; exact h.b3,by rw [hs 5 (by omega)]; exact h.b5,by rw [hs 6 (by omega)]; exact h.b6,by rw [hs 7 (by omega)]; exact h.b7,h.nd,sameH_set h.rf hB,?_⟩
  have hx:=h.mx
  rw [mxs_le] at hx ⊢
  intro C hC
  rcases List.mem_or_eq_of_mem_set hC with hC | rfl
  · exact hx C hC
  · exact hm
theorem WM.take (h:WM d fa to ks g H) {m:Nat} (hm:8 ≤ m):WM d fa to ks g (H.take m):=by
  have hs:∀ j,j < 8 → (H.take m)[j]?=H[j]?:=fun j hj=>by rw [List.getElem?_take,if_pos (by omega)]
  refine ⟨by rw [hs 0 (by omega)]; exact h.b0,by rw [hs 1 (by omega)]; exact h.b1,by rw [hs 2 (by omega)]; exact h.b2,by rw [hs 3 (by omega)]; exact h.b3,by rw [hs 5 (by omega)]; exact h.b5,by rw [hs 6 (by omega)]; exact h.b6,by rw [hs 7 (by omega)]; exact h.b7,h.nd,sameH_take h.rf,?_⟩
  have hx:=h.mx
  rw [mxs_le] at hx ⊢
  exact fun C hC=>hx C (List.mem_of_mem_take hC)
theorem WM.gc (h:WM d fa to ks g H) {b r:Nat} (hb:8 ≤ b):gc b r H=H.take (max b r):=by
  have:=h.mx
  unfold HL.gc
  congr 1
  omega
end
end Go.Proofs.Ytlendaofkmhgmaa
end
section
open Go Go.HL
namespace Go.Proofs.Ytlendaofkmhgmaa
def Good (d:List (List Int)) (fa:List Int) (to:Nat) (ks:List (Int × Int)) (g:Int × Int → Bool) (B:Nat):Prop:=∀ q,q ∈ ks → q.2 < (B:Int) → g q=ldT d fa to q.1.toNat q.2.toNat
def Kept (ks ks':List (Int × Int)) (g g':Int × Int → Bool) (w:Nat):Prop:=∀ q:Int × Int,(w:Int) < q.2 → (q ∈ ks' ↔ q ∈ ks)∧g' q=g q
end Go.Proofs.Ytlendaofkmhgmaa
end
section
open Go Go.HL
namespace Go.Proofs.Ytlendaofkmhgmaa
section
variable {d:List (List Int)} {fa:List Int} {to:Nat}
theorem Good.mono {ks:List (Int × Int)} {g:Int × Int → Bool} {B B':Nat} (h:Good d fa to ks g B) (hB:B' ≤ B):Good d fa to ks g B':=fun q hq hq2=>h q hq (by omega)
theorem Good.step {ks ks':List (Int × Int)} {g g':Int × Int → Bool} {B w:Nat} (h:Good d fa to ks g B) (h':Good d fa to ks' g' (w+1)) (hk:Kept ks ks' g g' w):Good d fa to ks' g' B:=fun q hq hq2=>by
  by_cases c:q.2 < ((w+1:Nat):Int)
  · exact h' q hq c
  · have:=hk q (by omega)
    rw [this.2]
    exact h q (this.1.1 hq) hq2
abbrev tvW (m:Nat):HV:=.sl 11 0 m none m 1
structure BW (d:List (List Int)) (fa:List Int) (to v w:Nat) (o:List Int) (tv:HV) (H:Heap):Prop where
  mem:∃ ks g,WM d fa to ks g H∧Good d fa to ks g (w+1)
  box:H[8]?=some (boxK v w)
  st:(tv=.sl 9 0 1 (some 1) 1 1∧o.length=1∧H.length=10∧H[9]?=some (bI o)) ∨ (tv=tvW o.length∧H.length=12∧H[11]?=some (bI o))
theorem BW.len {v w:Nat} {o:List Int} {tv:HV} {H:Heap} (h:BW d fa to v w o tv H):10 ≤ H.length∧H.length ≤ 12∧bnd tv ≤ H.length:=by
  rcases h.st with ⟨h1,_,h3,_⟩ | ⟨h1,h3,_⟩ <;> rw [h1,h3] <;> simp [bnd]
theorem BW.app {v w:Nat} {o:List Int} {tv:HV} {H H3:Heap} {ks:List (Int × Int)} {g:Int × Int → Bool} (h:BW d fa to v w o tv H) (hM:WM d fa to ks g H3) (hl:H3.length=H.length+1) (hs:∀ k,9 ≤ k → k < H.length → H3[k]?=H[k]?) (ho:o.length ≤ 500) (x:Int) :
    ∃ H4,appV H3 1 8 tv [.int .i64 x]=some (tvW (o.length+1),H4)∧WM d fa to ks g H4∧H4[8]?=H3[8]?∧H4[11]?=some (bI (o ++ [x]))∧12 ≤ H4.length:=by
  rcases h.st with ⟨h1,h2,h3,h4⟩ | ⟨h1,h3,h4⟩
  · have e:=hs 9 (by omega) (by omega)
    rw [h4] at e
    obtain ⟨y,rfl⟩:∃ y,o=[y]:=by
      match o,h2 with
      | [y],_=>exact ⟨y,rfl⟩
    subst h1
    refine ⟨H3 ++ [bI ([y] ++ [x])],?_,hM.app (same_bI _) (Nat.zero_le _),List.getElem?_append_left (by omega),?_,by simp; omega⟩
    · have e4:H3.length=11:=by omega
      simp only [appV,e,e4]
      simp [roomMax,bnd,bndL,encI]
    · rw [List.getElem?_append_right (by omega)]; simp [hl,h3]
  · have e:=hs 11 (by omega) (by omega)
    rw [h4] at e
    subst h1
    have ap:=app_ints (xs:=[x]) e (by simp; omega) (by simp)
    rw [show (o ++ [x]).length=o.length+1 by simp] at ap
    exact ⟨_,ap,hM.set (by omega) (same_bI _) (Nat.zero_le _),List.getElem?_set_ne (by omega),List.getElem?_set_self (by omega),by simp; omega⟩
end
end Go.Proofs.Ytlendaofkmhgmaa
end
section
open Go Go.HL
namespace Go.Proofs.Ytlendaofkmhgmaa
def Ch (R:Nat → Nat → Prop):Nat → List Int → Prop
  | _,[]=>True
  | s,v :: p=>R s v.toNat∧Ch R v.toNat p
theorem Ch.mono {R R':Nat → Nat → Prop} (h:∀ a b,R a b → R' a b):∀ (p:List Int) (s:Nat),Ch R s p → Ch R' s p
  | [],_,_=>trivial
  | v :: p,s,hp=>⟨h _ _ hp.1,Ch.mono h p _ hp.2⟩
theorem Ch.split {R:Nat → Nat → Prop}:∀ (p q:List Int) (s:Nat),Ch R s (p ++ q) ↔ Ch R s p∧Ch R (lastP s p) q
  | [],q,s=>by simp [Ch,lastP]
  | v :: p,q,s=>by rw [List.cons_append,Ch,Ch,lastP,Ch.split p q,and_assoc]
theorem inT.tail {n:Nat} {v:Int} {p:List Int} (h:inT n (v :: p)):inT n p:=fun w hw=>h w (by simp [hw])
theorem inT.hd {n:Nat} {v:Int} {p:List Int} (h:inT n (v :: p)):v.toNat < n∧((v.toNat:Nat):Int)=v:=by
  have:=h v (by simp); omega
theorem inT.app {n:Nat} {p q:List Int}:inT n (p ++ q) ↔ inT n p∧inT n q :=
  ⟨fun h=>⟨fun v hv=>h v (by simp [hv]),fun v hv=>h v (by simp [hv])⟩,fun h v hv=>(List.mem_append.1 hv).elim (h.1 v) (h.2 v)⟩
end Go.Proofs.Ytlendaofkmhgmaa
end
section
open Go Go.HL Go.HL.So
namespace Go.Proofs.Ytlendaofkmhgmaa
theorem edg_cong2 {d d':List (List Int)} {p p':List Int} {f:Nat} (hl:d'.length=d.length) (hf:f ≤ d.length) (h:∀ x y,x < y → y < d.length → cst d p x y=cst d' p' x y):edg d p f=edg d' p' f:=by
  obtain ⟨h1,h2⟩:=edg_ok (d:=d) (p:=p) hf
  obtain ⟨h3,h4⟩:=edg_ok (d:=d') (p:=p') (f:=f) (by omega)
  refine strict_eq h1 h3 fun e=>(h2 e).trans (Iff.trans ?_ (h4 e).symm)
  have key:∀ x y,x < y → y < d.length → mkE d p x y=mkE d' p' x y:=fun x y hxy hy=>by
    simp only [mkE]
    rw [h x y hxy hy]
  rw [hl]
  constructor
  · rintro ⟨x,y,hh,e⟩; exact ⟨x,y,hh,by rw [e,key x y hh.2.1 hh.2.2]⟩
  · rintro ⟨x,y,hh,e⟩; exact ⟨x,y,hh,by rw [e,key x y hh.2.1 hh.2.2]⟩
theorem chosen_cong2 {d d':List (List Int)} {p p':List Int} (hl:d'.length=d.length) (h1:1 ≤ d.length) (h:∀ x y,x < y → y < d.length → cst d p x y=cst d' p' x y):chosen d p=chosen d' p':=by
  unfold chosen treeL
  rw [edg_cong2 (f:=1) hl h1 h,edg_cong2 (f:=0) hl (by omega) h,hl]
theorem sumP_shift (s c:Int):∀ (p:List Int),sumP p (s+c)=sumP p s+c
  | []=>rfl
  | a :: p=>by
    show sumP p (s+c - 2 * a)=sumP p (s - 2 * a)+c
    rw [show s+c - 2 * a=(s - 2 * a)+c by omega,sumP_shift]
theorem sumP_set:∀ (p:List Int) (a:Nat) (x s:Int),a < p.length → sumP (p.set a x) s=sumP p s+2 * (p.getD a 0 - x)
  | [],_,_,_,h=>by simp at h
  | y :: p,0,x,s,_=>by
    show sumP p (s - 2 * x)=sumP p (s - 2 * y)+2 * (y - x)
    rw [← sumP_shift]; congr 1; omega
  | y :: p,a+1,x,s,h=>by
    show sumP (p.set a x) (s - 2 * y)=sumP p (s - 2 * y)+2 * (p.getD a 0 - x)
    exact sumP_set p a x _ (by simpa using h)
theorem bound_adds {d d':List (List Int)} {p:List Int} {a:Nat} {b:Int} (hl:d'.length=d.length) (h1:1 ≤ d.length) (hp:p.length=d.length) (ha:a < d.length)
    (hd:∀ x y,x < d.length → y < d.length → x ≠ y → at2 d' x y=at2 d x y+(if x=a then b else 0)+(if y=a then b else 0)):boundS d' (p.set a (p.getD a 0 - b))=boundS d p+2 * b:=by
  have hc:chosen d p=chosen d' (p.set a (p.getD a 0 - b)):=chosen_cong2 hl h1 fun x y hxy hy=>by
    unfold cst
    rw [hd x y (by omega) hy (by omega),getDs _ _ _ _ (by omega),getDs _ _ _ _ (by omega)]
    by_cases c1:x=a
    · have c2:¬ y=a:=by omega
      subst c1
      rw [if_pos rfl,if_neg c2,if_pos rfl,if_neg (fun h=>c2 h.symm)]
      omega
    · by_cases c2:y=a
      · subst c2
        rw [if_neg c1,if_pos rfl,if_neg (fun h=>c1 h.symm),if_pos rfl]
        omega
      · rw [if_neg c1,if_neg c2,if_neg (fun h=>c1 h.symm),if_neg (fun h=>c2 h.symm)]
        omega
  show sumP (p.set a (p.getD a 0 - b)) (sumA (chosen d' _) 0)=sumP p (sumA (chosen d p) 0)+2 * b
  rw [← hc,sumP_set _ _ _ _ (by omega)]
  omega
end Go.Proofs.Ytlendaofkmhgmaa
end
section
open Go Go.HL Go.HL.So
namespace Go.Proofs.Ytlendaofkmhgmaa
def shf (a:Nat) (b:Int) (s L:Nat):Int:=(if s=a then b else 0)+(if L.testBit a=true then 2 * b else 0)+(if a=0 then b else 0)
section
variable {d d':List (List Int)} {a:Nat} {b:Int}
theorem rsT_shift (hd:okD d) (hd':okD d') (hl:d'.length=d.length)
    (hs:∀ x y,x < d.length → y < d.length → x ≠ y → at2 d' x y=at2 d x y+(if x=a then b else 0)+(if y=a then b else 0)) :
    ∀ (k s L:Nat),L ≤ k → s < d.length → L < 2 ^ d.length → L.testBit s=false → L.testBit 0=false → (L=0 → s ≠ 0) → rsT d' s L=rsT d s L+shf a b s L:=by
  have hn:=hd.1
  have hpw:=pow_le hn.2
  have base:∀ s,s < d.length → s ≠ 0 → rsT d' s 0=rsT d s 0+shf a b s 0:=fun s h1 h2=>by
    rw [rsT_zero,rsT_zero,hs s 0 h1 (by omega) h2]
    unfold shf
    rw [Nat.zero_testBit]
    simp only [Bool.false_eq_true,if_false]
    split <;> split <;> split <;> omega
  intro k
  induction k with
  | zero =>
    intro s L hk h1 h2 h3 h4 h5
    have:L=0:=by omega
    subst this
    exact base s h1 (h5 rfl)
  | succ k ih =>
    intro s L hk h1 h2 h3 h4 h5
    by_cases c:L=0
    · subst c
      exact base s h1 (h5 rfl)
    · have step:∀ v,L.testBit v=true → at2 d' s v+rsT d' v (wo L v)=at2 d s v+rsT d v (wo L v)+shf a b s L:=fun v hv=>by
        have hvn:=bit_lt h2 hv
        have hwl:=wo_lt hv
        have hv0:v ≠ 0:=fun e=>by subst e; rw [h4] at hv; cases hv
        have hsv:s ≠ v:=fun e=>by subst e; rw [h3] at hv; cases hv
        have wb:=fun u=>wo_bit (L:=L) (v:=v) (by omega) (by omega) u
        rw [ih v (wo L v) (by omega) hvn (by omega) (by rw [wb]; simp) (by rw [wb,h4]; simp) (fun _=>hv0),hs s v h1 hvn hsv]
        unfold shf
        rw [wb a]
        by_cases e:v=a
        · subst e
          have t:(L.testBit v && decide (v ≠ v))=false:=by simp
          rw [t,hv]
          simp only [eq_self_iff_true,if_true,Bool.false_eq_true,if_false]
          omega
        · have e':¬ a=v:=fun h=>e h.symm
          have t:(L.testBit a && decide (a ≠ v))=L.testBit a:=by simp [e']
          rw [t,if_neg e]
          omega
      obtain ⟨m1,v,hv,e⟩:=rsT_min hd h1 h2 c
      obtain ⟨m2,w,hw,e'⟩:=rsT_min hd' (s:=s) (L:=L) (by omega) (by rw [hl]; exact h2) c
      have q1:=m2 v hv
      have q2:=m1 w hw
      rw [step v hv] at q1
      have q3:=step w hw
      omega
theorem okV_shift (hd:okD d) (hd':okD d') (hl:d'.length=d.length)
    (hs:∀ x y,x < d.length → y < d.length → x ≠ y → at2 d' x y=at2 d x y+(if x=a then b else 0)+(if y=a then b else 0))
    {s L v:Nat} (h1:s < d.length) (h2:L < 2 ^ d.length) (h3:L.testBit s=false) (h4:L.testBit 0=false) (h5:L=0 → s ≠ 0):okV d' s L v=okV d s L v:=by
  have hn:=hd.1
  have hpw:=pow_le hn.2
  unfold okV
  by_cases hv:L.testBit v=true
  · have hvn:=bit_lt h2 hv
    have hwl:=wo_lt hv
    have hv0:v ≠ 0:=fun e=>by subst e; rw [h4] at hv; cases hv
    have hsv:s ≠ v:=fun e=>by subst e; rw [h3] at hv; cases hv
    have wb:=fun u=>wo_bit (L:=L) (v:=v) (by omega) (by omega) u
    have r1:=rsT_shift hd hd' hl hs L s L (Nat.le_refl _) h1 h2 h3 h4 h5
    have r2:=rsT_shift hd hd' hl hs (wo L v) v (wo L v) (Nat.le_refl _) hvn (by omega) (by rw [wb]; simp) (by rw [wb,h4]; simp) (fun _=>hv0)
    have r3:=hs s v h1 hvn hsv
    have key:shf a b s L=(if s=a then b else 0)+(if v=a then b else 0)+shf a b v (wo L v):=by
      unfold shf
      rw [wb a]
      by_cases e:v=a
      · subst e
        have t:(L.testBit v && decide (v ≠ v))=false:=by simp
        rw [t,hv]
        simp only [eq_self_iff_true,if_true,Bool.false_eq_true,if_false]
        omega
      · have e':¬ a=v:=fun h=>e h.symm
        have t:(L.testBit a && decide (a ≠ v))=L.testBit a:=by simp [e']
        rw [t,if_neg e]
        omega
    rw [hv,Bool.true_and,Bool.true_and]
    apply decide_eq_decide.2
    rw [r1,r2,r3]
    omega
  · rw [nb_false hv,Bool.false_and,Bool.false_and]
end
end Go.Proofs.Ytlendaofkmhgmaa
end
section
open Go Go.HL Go.HL.So
namespace Go.Proofs.Ytlendaofkmhgmaa
section
variable {d d':List (List Int)} {a:Nat} {b:Int}
theorem grd_shift (hd:okD d) (hd':okD d') (hl:d'.length=d.length)
    (hs:∀ x y,x < d.length → y < d.length → x ≠ y → at2 d' x y=at2 d x y+(if x=a then b else 0)+(if y=a then b else 0)) :
    ∀ (k s L:Nat),s < d.length → L < 2 ^ d.length → L.testBit s=false → L.testBit 0=false → (L=0 → s ≠ 0) → grd d' k s L=grd d k s L:=by
  have hn:=hd.1
  have hpw:=pow_le hn.2
  intro k
  induction k with
  | zero=>intros; rfl
  | succ k ih =>
    intro s L h1 h2 h3 h4 h5
    have e:okV d' s L=okV d s L:=funext fun v=>okV_shift hd hd' hl hs h1 h2 h3 h4 h5
    rw [grd,grd,e,hl]
    by_cases c:L=0
    · rw [if_pos c,if_pos c]
    · rw [if_neg c,if_neg c]
      cases hp:pck (okV d s L) d.length 0 with
      | none=>rfl
      | some v =>
        obtain ⟨_,hv,_⟩:=pck_some _ _ hp
        simp only [okV,Bool.and_eq_true,decide_eq_true_eq] at hv
        have hvb:=hv.1
        have hvn:=bit_lt h2 hvb
        have hwl:=wo_lt hvb
        have hv0:v ≠ 0:=fun e=>by subst e; rw [h4] at hvb; cases hvb
        have wb:=fun u=>wo_bit (L:=L) (v:=v) (by omega) (by omega) u
        show (v:Int) :: grd d' k v (wo L v)=(v:Int) :: grd d k v (wo L v)
        rw [ih v (wo L v) hvn (by omega) (by rw [wb]; simp) (by rw [wb,h4]; simp) (fun _=>hv0)]
theorem best_shift (hd:okD d) (hd':okD d') (hl:d'.length=d.length) (hn2:2 ≤ d.length) (ha:a < d.length)
    (hs:∀ x y,x < d.length → y < d.length → x ≠ y → at2 d' x y=at2 d x y+(if x=a then b else 0)+(if y=a then b else 0)) :
    bestT d'=bestT d∧lenT d' (bestT d')=lenT d (bestT d)+2 * b:=by
  have hn:=hd.1
  have h4:2 ^ 2 ≤ 2 ^ d.length:=Nat.pow_le_pow_right (by omega) hn2
  have b0:(2 ^ d.length - 2).testBit 0=false:=by rw [all_bit hn.1]; simp
  have ne:2 ^ d.length - 2 ≠ 0:=by omega
  refine ⟨?_,?_⟩
  · unfold bestT
    rw [hl,grd_shift hd hd' hl hs (2 ^ d.length) 0 (2 ^ d.length - 2) (by omega) all_lt b0 b0 (fun h=>absurd h ne)]
  · rw [best_len hd',best_len hd,hl,rsT_shift hd hd' hl hs (2 ^ d.length) 0 (2 ^ d.length - 2) (by omega) (by omega) all_lt b0 b0 (fun h=>absurd h ne)]
    congr 1
    unfold shf
    rw [all_bit hn.1]
    by_cases c:a=0
    · subst c
      simp
      omega
    · have c':¬ 0=a:=fun h=>c h.symm
      have t:decide (1 ≤ a∧a < d.length)=true:=decide_eq_true (by omega)
      rw [t,if_neg c,if_neg c']
      simp
end
end Go.Proofs.Ytlendaofkmhgmaa
end
section
open Go Go.HL Go.HL.So
namespace Go.Proofs.Ytlendaofkmhgmaa
theorem shf_step {a:Nat} {b:Int} {s L v:Nat} (hL:L < 2048) (hv:v < 11) (hb:L.testBit v=true):shf a b s L=(if s=a then b else 0)+(if v=a then b else 0)+shf a b v (wo L v):=by
  unfold shf
  rw [wo_bit hL hv a]
  by_cases e:v=a
  · subst e
    have t:(L.testBit v && decide (v ≠ v))=false:=by simp
    rw [t,hb]
    simp only [eq_self_iff_true,if_true,Bool.false_eq_true,if_false]
    omega
  · have e':¬ a=v:=fun h=>e h.symm
    have t:(L.testBit a && decide (a ≠ v))=L.testBit a:=by simp [e']
    rw [t,if_neg e]
    omega
theorem pl_shift {d d':List (List Int)} {a:Nat} {b:Int} (hd:okD d)
    (hs:∀ x y,x < d.length → y < d.length → x ≠ y → at2 d' x y=at2 d x y+(if x=a then b else 0)+(if y=a then b else 0)) :
    ∀ (p:List Int) (s L:Nat),Cp L p → s < d.length → L < 2 ^ d.length → L.testBit s=false → L.testBit 0=false → (L=0 → s ≠ 0) → pl d' s p=pl d s p+shf a b s L
  | [],s,L,hp,h1,h2,h3,h4,h5=>by
    have hn:=hd.1
    have hL:L=0:=Nat.eq_of_testBit_eq fun i=>by
      rw [Nat.zero_testBit]
      cases h:L.testBit i with
      | false=>rfl
      | true=>have:=(hp.2 (i:Int)).2 ⟨by omega,by rw [Int.toNat_natCast]; exact h⟩; cases this
    rw [pl,pl,hs s 0 h1 (by omega) (h5 hL)]
    unfold shf
    rw [hL,Nat.zero_testBit]
    simp only [Bool.false_eq_true,if_false]
    split <;> split <;> split <;> omega
  | v :: t,s,L,hp,h1,h2,h3,h4,h5=>by
    have hn:=hd.1
    have hpw:=pow_le hn.2
    obtain ⟨⟨hv0,hvb⟩,ht⟩:=hp.tail (by omega)
    have hvn:=bit_lt h2 hvb
    have hwl:=wo_lt hvb
    have hvz:v.toNat ≠ 0:=fun e=>by rw [e,h4] at hvb; cases hvb
    have hsv:s ≠ v.toNat:=fun e=>by rw [← e,h3] at hvb; cases hvb
    have wb:=fun u=>wo_bit (L:=L) (v:=v.toNat) (by omega) (by omega) u
    rw [pl,pl,pl_shift hd hs t v.toNat (wo L v.toNat) ht hvn (by omega) (by rw [wb]; simp) (by rw [wb,h4]; simp) (fun _=>hvz),hs s v.toNat h1 hvn hsv,shf_step (s:=s) (by omega) (by omega) hvb]
    omega
theorem len_shift {d d':List (List Int)} {a:Nat} {b:Int} (hd:okD d) (hn2:2 ≤ d.length) (ha:a < d.length)
    (hs:∀ x y,x < d.length → y < d.length → x ≠ y → at2 d' x y=at2 d x y+(if x=a then b else 0)+(if y=a then b else 0)) {l:List Int} (hl:trOk d.length l=true):lenT d' l=lenT d l+2 * b:=by
  have hn:=hd.1
  have h4:2 ^ 2 ≤ 2 ^ d.length:=Nat.pow_le_pow_right (by omega) hn2
  have b0:(2 ^ d.length - 2).testBit 0=false:=by rw [all_bit hn.1]; simp
  obtain ⟨q,rfl,hc⟩:=tour_cp hn.1 hl
  rw [lenT_pl,lenT_pl,pl_shift hd hs q 0 (2 ^ d.length - 2) hc (by omega) all_lt b0 b0 (fun h=>by omega)]
  congr 1
  unfold shf
  rw [all_bit hn.1]
  by_cases c:a=0
  · subst c
    simp
    omega
  · have c':¬ 0=a:=fun h=>c h.symm
    have t:decide (1 ≤ a∧a < d.length)=true:=decide_eq_true (by omega)
    rw [t,if_neg c,if_neg c']
    simp
end Go.Proofs.Ytlendaofkmhgmaa
end
section
open Go Go.HL
namespace Go.Proofs.Ytlendaofkmhgmaa
open Go.Proofs.Try renaming prog → Tp
open Go.HL.HV renaming undef → Ud
noncomputable def polLa8:Pol:={ pol with prim:=fun g=>if g == 20 then some awakeF else if g == 27 then some modF else if g == 28 then some tame28 else if g == 15 then some table15D else if g == 33 then some tour33 else if g == 29 then some best29 else if g == 34 then some length34 else if g == 17 then some bound17 else if g == 26 then some ints26 else none }
theorem primLa8 (g:FuncId) (f:List HV → Option HV) (h:polLa8.prim g=some f):PrimOk Tp g f:=by
  unfold polLa8 at h
  simp only at h
  split at h
  · rename_i hg; cases h; rw [eq_of_beq hg]; exact awake_prim
  split at h
  · rename_i hg; cases h; rw [eq_of_beq hg]; exact mod_ok
  split at h
  · rename_i hg; cases h; rw [eq_of_beq hg]; exact tame_ok
  split at h
  · rename_i hg; cases h; rw [eq_of_beq hg]; exact tableD_ok
  split at h
  · rename_i hg; cases h; rw [eq_of_beq hg]; exact tour33_ok
  split at h
  · rename_i hg; cases h; rw [eq_of_beq hg]; exact best_ok
  split at h
  · rename_i hg; cases h; rw [eq_of_beq hg]; exact length_ok
  split at h
  · rename_i hg; cases h; rw [eq_of_beq hg]; exact Bound_ok
  split at h
  · rename_i hg; cases h; rw [eq_of_beq hg]; exact ints_ok
  · cases h
theorem soundLa8 (n:Nat):CallSound Tp (callN Tp polLa8 n):=sound_prim _ primLa8 n
end Go.Proofs.Ytlendaofkmhgmaa
end
section
open Go Go.HL
namespace Go.Proofs.Ytlendaofkmhgmaa
set_option maxRecDepth 100000
open Go.Proofs.Try renaming prog → Tp
open Go.HL.HV renaming undef → Ud
noncomputable def B8:Code:=Try.f8.body.getD .skip
abbrev env8 (v0 v1 v2 v5 v6 v7 v8 v9 v10 v11 v12 v13 v14 v15 v16 v17 v18 v19 v20 v21 v22 v23 v24 v25 v26 v27 v28 v29 v30 v31:HV):Env:=[(0,v0),(1,v1),(2,v2),(5,v5),(6,v6),(7,v7),(8,v8),(9,v9),(10,v10),(11,v11),(12,v12),(13,v13),(14,v14),(15,v15),(16,v16),(17,v17),(18,v18),(19,v19),(20,v20),(21,v21),(22,v22),(23,v23),(24,v24),(25,v25),(26,v26),(27,v27),(28,v28),(29,v29),(30,v30),(31,v31)]
theorem laa_a_0 (rw la:List HV) (p r:Int) :RT polLa8 8 (sub [0] B8) [(0,.imm .arg 1 rw),(1,.imm .arg 1 la),(2,.agg [.i p,.i r])] [] .normal (env8 (.imm .arg 1 rw) (.imm .arg 1 la) (.agg [.i p,.i r]) (.ptr 0 0 0 1) (.bool false) Ud Ud Ud Ud Ud Ud Ud Ud Ud Ud Ud Ud Ud Ud Ud Ud Ud Ud Ud Ud Ud Ud Ud Ud Ud) [.arr 2 [.agg [.i p,.i r]] true 0] :=
  RunsTo.hin 0 60 [] fun kf hk=>⟨_,by kernel_rfl,.nil⟩
theorem laa_b_0 (rw la:List HV) (p r:Int)  {y7 y8 y9 y10 y11 y12 y13 y14 y15 y16 y17 y18 y19 y20 y21 y22 y23 y24 y25 y26 y27 y28 y29 y30 y31:HV} {md0:Int} (g0:∀ kf,callN Tp polLa8 (kf+1) 27 [.i (IntKind.i64.wrap ((rw.length:Int) - 3)),.i 7] [.arr 2 [.agg [.i p,.i r]] true 0]=some (.i md0,[.arr 2 [.agg [.i p,.i r]] true 0])):RT polLa8 8 (sub [1,0] B8) (env8 (.imm .arg 1 rw) (.imm .arg 1 la) (.agg [.i p,.i r]) (.ptr 0 0 0 1) (.bool false) y7 y8 y9 y10 y11 y12 y13 y14 y15 y16 y17 y18 y19 y20 y21 y22 y23 y24 y25 y26 y27 y28 y29 y30 y31) [.arr 2 [.agg [.i p,.i r]] true 0] .normal (env8 (.imm .arg 1 rw) (.imm .arg 1 la) (.agg [.i p,.i r]) (.ptr 0 0 0 1) (.bool false) (.i (IntKind.i64.wrap (3+md0))) y8 y9 y10 y11 y12 y13 y14 y15 y16 y17 y18 y19 y20 y21 y22 y23 y24 y25 y26 y27 y28 y29 y30 y31) [.arr 2 [.agg [.i p,.i r]] true 0] :=
  RunsTo.hin 0 60 [⟨1,3,.i md0,[.arr 2 [.agg [.i p,.i r]] true 0]⟩] fun kf hk=>⟨_,by kernel_rfl,(oC (g0 kf) .nil)⟩
theorem laa_c_0 (rw la:List HV) (p r:Int) (n:Nat) {y8 y9 y10 y11 y12 y13 y14 y15 y16 y17 y18 y19 y20 y21 y22 y23 y24 y25 y26 y27 y28 y29 y30 y31:HV} {xs:List HV} (g0:∀ kf,callN Tp polLa8 (kf+1) 28 [.imm .arg 1 rw,.i (n:Int),.i 500] [.arr 2 [.agg [.i p,.i r]] true 0]=some (.sl 1 0 n none n 1,[.arr 2 [.agg [.i p,.i r]] true 0,.arr 1 xs true 0])):RT polLa8 8 (sub [1,1,0] B8) (env8 (.imm .arg 1 rw) (.imm .arg 1 la) (.agg [.i p,.i r]) (.ptr 0 0 0 1) (.bool false) (.i (n:Int)) y8 y9 y10 y11 y12 y13 y14 y15 y16 y17 y18 y19 y20 y21 y22 y23 y24 y25 y26 y27 y28 y29 y30 y31) [.arr 2 [.agg [.i p,.i r]] true 0] .normal (env8 (.imm .arg 1 rw) (.imm .arg 1 la) (.agg [.i p,.i r]) (.ptr 0 0 0 1) (.bool false) (.i (n:Int)) (.sl 1 0 n none n 1) y9 y10 y11 y12 y13 y14 y15 y16 y17 y18 y19 y20 y21 y22 y23 y24 y25 y26 y27 y28 y29 y30 y31) [.arr 2 [.agg [.i p,.i r]] true 0,.arr 1 xs true 0] :=
  RunsTo.hin 0 60 [⟨2,2,.sl 1 0 n none n 1,[.arr 2 [.agg [.i p,.i r]] true 0,.arr 1 xs true 0]⟩] fun kf hk=>⟨_,by kernel_rfl,(oC (g0 kf) .nil)⟩
theorem laa_d_0 (rw la:List HV) (p r:Int) (n:Nat) (xs:List HV) {y9 y10 y11 y12 y13 y14 y15 y16 y17 y18 y19 y20 y21 y22 y23 y24 y25 y26 y27 y28 y29 y30 y31:HV} {md0:Int} {md1:Int} (g0:∀ kf,callN Tp polLa8 (kf+1) 27 [.i p,.i (n:Int)] [.arr 2 [.agg [.i p,.i r]] true 0,.arr 1 xs true 0]=some (.i md0,[.arr 2 [.agg [.i p,.i r]] true 0,.arr 1 xs true 0])) (g1:∀ kf,callN Tp polLa8 (kf+1) 27 [.i r,.i 501] [.arr 2 [.agg [.i p,.i r]] true 0,.arr 1 xs true 0]=some (.i md1,[.arr 2 [.agg [.i p,.i r]] true 0,.arr 1 xs true 0])) (gS3:((same (.i r) (.i r) && sameH ([.arr 2 [.agg [.i p,.i r]] true 0,.arr 1 xs true 0]:Heap) [.arr 2 [.agg [.i p,.i r]] true 0,.arr 1 xs true 0] && sameH ([.arr 2 [.agg [.i p,.i r]] true 0,.arr 1 xs true 0]:Heap) [.arr 2 [.agg [.i p,.i r]] true 0,.arr 1 xs true 0]) && true)=true):RT polLa8 8 (sub [1,1,1,0] B8) (env8 (.imm .arg 1 rw) (.imm .arg 1 la) (.agg [.i p,.i r]) (.ptr 0 0 0 1) (.bool false) (.i (n:Int)) (.sl 1 0 n none n 1) y9 y10 y11 y12 y13 y14 y15 y16 y17 y18 y19 y20 y21 y22 y23 y24 y25 y26 y27 y28 y29 y30 y31) [.arr 2 [.agg [.i p,.i r]] true 0,.arr 1 xs true 0] .normal (env8 (.imm .arg 1 rw) (.imm .arg 1 la) (.agg [.i p,.i r]) (.ptr 0 0 0 1) (.bool false) (.i (n:Int)) (.sl 1 0 n none n 1) (.i md0) (.i md1) y11 y12 y13 y14 y15 y16 y17 y18 y19 y20 y21 y22 y23 y24 y25 y26 y27 y28 y29 y30 y31) [.arr 2 [.agg [.i p,.i r]] true 0,.arr 1 xs true 0] :=
  RunsTo.hin 0 60 [⟨3,3,.i md0,[.arr 2 [.agg [.i p,.i r]] true 0,.arr 1 xs true 0]⟩,⟨3,6,.i md1,[.arr 2 [.agg [.i p,.i r]] true 0,.arr 1 xs true 0]⟩] fun kf hk=>⟨_,by kernel_rfl,(oC (gS3) (oC (g0 kf) (oC (g1 kf) .nil)))⟩
theorem laa_e_0 (rw la:List HV) (p r:Int) (n:Nat) (xs:List HV) (s:Nat) (by_:Int) {y11 y12 y13 y14 y15 y16 y17 y18 y19 y20 y21 y22 y23 y24 y25 y26 y27 y28 y29 y30 y31:HV} {HT:Heap} (g0:∀ kf,callN Tp polLa8 (kf+1) 15 [.sl 1 0 n none n 1] [.arr 2 [.agg [.i p,.i r]] true 0,.arr 1 xs true 0]=some (.sl 2 0 n none n 1,HT)):RT polLa8 8 (sub [1,1,1,1,0] B8) (env8 (.imm .arg 1 rw) (.imm .arg 1 la) (.agg [.i p,.i r]) (.ptr 0 0 0 1) (.bool false) (.i (n:Int)) (.sl 1 0 n none n 1) (.i (s:Int)) (.i by_) y11 y12 y13 y14 y15 y16 y17 y18 y19 y20 y21 y22 y23 y24 y25 y26 y27 y28 y29 y30 y31) [.arr 2 [.agg [.i p,.i r]] true 0,.arr 1 xs true 0] .normal (env8 (.imm .arg 1 rw) (.imm .arg 1 la) (.agg [.i p,.i r]) (.ptr 0 0 0 1) (.bool false) (.i (n:Int)) (.sl 1 0 n none n 1) (.i (s:Int)) (.i by_) (.sl 2 0 n none n 1) y12 y13 y14 y15 y16 y17 y18 y19 y20 y21 y22 y23 y24 y25 y26 y27 y28 y29 y30 y31) HT :=
  RunsTo.hin 0 60 [⟨4,1,.sl 2 0 n none n 1,HT⟩] fun kf hk=>⟨_,by kernel_rfl,(oC (g0 kf) .nil)⟩
theorem laa_f_0 (rw la:List HV) (p r:Int) (n:Nat) (s:Nat) (by_:Int) (H:Heap) {y5 y12 y13 y14 y15 y16 y17 y18 y19 y20 y21 y22 y23 y24 y25 y26 y27 y28 y29 y30 y31:HV}:RT polLa8 8 (sub [1,1,1,1,1,0,0] B8) (env8 (.imm .arg 1 rw) (.imm .arg 1 la) (.agg [.i p,.i r]) y5 (.bool false) (.i (n:Int)) (.sl 1 0 n none n 1) (.i (s:Int)) (.i by_) (.sl 2 0 n none n 1) y12 y13 y14 y15 y16 y17 y18 y19 y20 y21 y22 y23 y24 y25 y26 y27 y28 y29 y30 y31) H .normal (env8 (.imm .arg 1 rw) (.imm .arg 1 la) (.agg [.i p,.i r]) y5 (.bool false) (.i (n:Int)) (.sl 1 0 n none n 1) (.i (s:Int)) (.i by_) (.sl 2 0 n none n 1) (.i 0) y13 y14 y15 y16 y17 y18 y19 y20 y21 y22 y23 y24 y25 y26 y27 y28 y29 y30 y31) H :=
  RunsTo.hin 0 60 [] fun kf hk=>⟨_,by kernel_rfl,.nil⟩
theorem laa_g_0 (rw la:List HV) (p r:Int) (n:Nat) (s:Nat) (by_:Int) (H:Heap) (i bi bs:Nat) {y5 y13 y14 y15 y16 y17 y18 y19 y20 y21 y22 y23 y24 y25 y26 y27 y28 y29 y30 y31:HV}(g0:(i:Int) < (n:Int)) (g1:(i:Int)=(s:Int)):RT polLa8 8 (sub [1,1,1,1,1,0,1,0,0] B8) (env8 (.imm .arg 1 rw) (.imm .arg 1 la) (.agg [.i p,.i r]) y5 (.bool false) (.i (n:Int)) (.sl 1 0 n none n 1) (.i (s:Int)) (.i by_) (.sl 2 0 n none n 1) (.i (i:Int)) y13 y14 y15 y16 y17 y18 y19 y20 y21 y22 y23 y24 y25 y26 y27 y28 y29 y30 y31) H .normal (env8 (.imm .arg 1 rw) (.imm .arg 1 la) (.agg [.i p,.i r]) y5 (.bool false) (.i (n:Int)) (.sl 1 0 n none n 1) (.i (s:Int)) (.i by_) (.sl 2 0 n none n 1) (.i (IntKind.i64.wrap ((i:Int)+1))) y13 y14 y15 y16 y17 y18 y19 y20 y21 y22 y23 y24 y25 y26 y27 y28 y29 y30 y31) H :=
  RunsTo.hin 0 60 [⟨6,2,.bool true,H⟩,⟨8,2,.bool false,H⟩] fun kf hk=>⟨_,by kernel_rfl,(oB H (decide_eq_true g0) (oB H (congrArg not (decide_eq_true g1)) .nil))⟩
theorem laa_g_1 (rw la:List HV) (p r:Int) (n:Nat) (s:Nat) (by_:Int) (H:Heap) (i bi bs:Nat) {y5 y13 y14 y15 y16 y17 y18 y19 y20 y21 y22 y23 y24 y25 y26 y27 y28 y29 y30 y31:HV} {x0:Int} {H0:Heap} {x1:Int} {H1:Heap} (g0:(i:Int) < (n:Int)) (g1:¬ ((i:Int)=(s:Int))) (g2:idxV Tp 22 (.sl 2 0 n none n 1) (.i (i:Int))=some (.ptr 2 i 0 n)) (g3:loadV Tp H 23 (.ptr 2 i 0 n)=some (.sl bi 0 n none n 1)) (g4:idxV Tp 22 (.sl 2 0 n none n 1) (.i (s:Int))=some (.ptr 2 s 0 n)) (g5:loadV Tp H 23 (.ptr 2 s 0 n)=some (.sl bs 0 n none n 1)) (g6:idxV Tp 23 (.sl bi 0 n none n 1) (.i (s:Int))=some (.ptr bi s 0 n)) (g7:loadV Tp H 3 (.ptr bi s 0 n)=some (.i x0)) (g8:idxV Tp 23 (.sl bi 0 n none n 1) (.i (s:Int))=some (.ptr bi s 0 n)) (g9:storeV Tp H 3 (.ptr bi s 0 n) (.i (IntKind.i64.wrap (x0+by_)))=some H0) (g10:idxV Tp 23 (.sl bs 0 n none n 1) (.i (i:Int))=some (.ptr bs i 0 n)) (g11:loadV Tp H0 3 (.ptr bs i 0 n)=some (.i x1)) (g12:idxV Tp 23 (.sl bs 0 n none n 1) (.i (i:Int))=some (.ptr bs i 0 n)) (g13:storeV Tp H0 3 (.ptr bs i 0 n) (.i (IntKind.i64.wrap (x1+by_)))=some H1):RT polLa8 8 (sub [1,1,1,1,1,0,1,0,0] B8) (env8 (.imm .arg 1 rw) (.imm .arg 1 la) (.agg [.i p,.i r]) y5 (.bool false) (.i (n:Int)) (.sl 1 0 n none n 1) (.i (s:Int)) (.i by_) (.sl 2 0 n none n 1) (.i (i:Int)) y13 y14 y15 y16 y17 y18 y19 y20 y21 y22 y23 y24 y25 y26 y27 y28 y29 y30 y31) H .normal (env8 (.imm .arg 1 rw) (.imm .arg 1 la) (.agg [.i p,.i r]) y5 (.bool false) (.i (n:Int)) (.sl 1 0 n none n 1) (.i (s:Int)) (.i by_) (.sl 2 0 n none n 1) (.i (IntKind.i64.wrap ((i:Int)+1))) (.sl bi 0 n none n 1) (.sl bs 0 n none n 1) y15 y16 y17 y18 y19 y20 y21 y22 y23 y24 y25 y26 y27 y28 y29 y30 y31) H1 :=
  RunsTo.hin 0 60 [⟨6,2,.bool true,H⟩,⟨8,2,.bool true,H⟩,⟨9,2,.ptr 2 i 0 n,H⟩,⟨9,3,.sl bi 0 n none n 1,H⟩,⟨9,6,.ptr 2 s 0 n,H⟩,⟨9,7,.sl bs 0 n none n 1,H⟩,⟨10,4,.ptr bi s 0 n,H⟩,⟨10,5,.i x0,H⟩,⟨10,8,.ptr bi s 0 n,H⟩,⟨10,9,.tuple [],H0⟩,⟨11,4,.ptr bs i 0 n,H0⟩,⟨11,5,.i x1,H0⟩,⟨11,8,.ptr bs i 0 n,H0⟩,⟨11,9,.tuple [],H1⟩] fun kf hk=>⟨_,by kernel_rfl,(oB H (decide_eq_true g0) (oB H (congrArg not (decide_eq_false g1)) (oP H g2 (oP H g3 (oP H g4 (oP H g5 (oP H g6 (oP H g7 (oP H g8 (oS g9 (oP H0 g10 (oP H0 g11 (oP H0 g12 (oS g13 .nil))))))))))))))⟩
theorem laa_g_2 (rw la:List HV) (p r:Int) (n:Nat) (s:Nat) (by_:Int) (H:Heap) (i bi bs:Nat) {y5 y13 y14 y15 y16 y17 y18 y19 y20 y21 y22 y23 y24 y25 y26 y27 y28 y29 y30 y31:HV}(g0:¬ ((i:Int) < (n:Int))):RT polLa8 8 (sub [1,1,1,1,1,0,1,0,0] B8) (env8 (.imm .arg 1 rw) (.imm .arg 1 la) (.agg [.i p,.i r]) y5 (.bool false) (.i (n:Int)) (.sl 1 0 n none n 1) (.i (s:Int)) (.i by_) (.sl 2 0 n none n 1) (.i (i:Int)) y13 y14 y15 y16 y17 y18 y19 y20 y21 y22 y23 y24 y25 y26 y27 y28 y29 y30 y31) H (.exit 0) (env8 (.imm .arg 1 rw) (.imm .arg 1 la) (.agg [.i p,.i r]) y5 (.bool false) (.i (n:Int)) (.sl 1 0 n none n 1) (.i (s:Int)) (.i by_) (.sl 2 0 n none n 1) (.i (i:Int)) y13 y14 y15 y16 y17 y18 y19 y20 y21 y22 y23 y24 y25 y26 y27 y28 y29 y30 y31) H :=
  RunsTo.hin 0 60 [⟨6,2,.bool false,H⟩] fun kf hk=>⟨_,by kernel_rfl,(oB H (decide_eq_false g0) .nil)⟩
theorem laa_h12_0 (rw la:List HV) (p r:Int) (n:Nat) (s:Nat) (by_:Int) (H:Heap) {y5 y12 y13 y14 y15 y16 y17 y18 y19 y20 y21 y22 y23 y24 y25 y26 y27 y28 y29 y30 y31:HV} {tb:Nat} {H0:Heap} (g0:∀ kf,callN Tp polLa8 (kf+1) 33 [.imm .arg 1 la,.i (n:Int)] H=some (.sl tb 0 n none n 1,H0)):RT polLa8 8 (sub [1,1,1,1,1,1,0] B8) (env8 (.imm .arg 1 rw) (.imm .arg 1 la) (.agg [.i p,.i r]) y5 (.bool false) (.i (n:Int)) (.sl 1 0 n none n 1) (.i (s:Int)) (.i by_) (.sl 2 0 n none n 1) y12 y13 y14 y15 y16 y17 y18 y19 y20 y21 y22 y23 y24 y25 y26 y27 y28 y29 y30 y31) H .normal (env8 (.imm .arg 1 rw) (.imm .arg 1 la) (.agg [.i p,.i r]) y5 (.bool false) (.i (n:Int)) (.sl 1 0 n none n 1) (.i (s:Int)) (.i by_) (.sl 2 0 n none n 1) y12 y13 y14 (.sl tb 0 n none n 1) y16 y17 y18 y19 y20 y21 y22 y23 y24 y25 y26 y27 y28 y29 y30 y31) H0 :=
  RunsTo.hin 0 60 [⟨12,2,.sl tb 0 n none n 1,H0⟩] fun kf hk=>⟨_,by kernel_rfl,(oC (g0 kf) .nil)⟩
theorem laa_h13_0 (rw la:List HV) (p r:Int) (n:Nat) (s:Nat) (by_:Int) (H:Heap) (tb:Nat) {y5 y12 y13 y14 y16 y17 y18 y19 y20 y21 y22 y23 y24 y25 y26 y27 y28 y29 y30 y31:HV} {w0:Int} (g0:∀ kf,callN Tp polLa8 (kf+1) 34 [.sl 1 0 n none n 1,.sl tb 0 n none n 1] H=some (.tuple [.i w0,.i 0],H)):RT polLa8 8 (sub [1,1,1,1,1,1,1,0] B8) (env8 (.imm .arg 1 rw) (.imm .arg 1 la) (.agg [.i p,.i r]) y5 (.bool false) (.i (n:Int)) (.sl 1 0 n none n 1) (.i (s:Int)) (.i by_) (.sl 2 0 n none n 1) y12 y13 y14 (.sl tb 0 n none n 1) y16 y17 y18 y19 y20 y21 y22 y23 y24 y25 y26 y27 y28 y29 y30 y31) H .normal (env8 (.imm .arg 1 rw) (.imm .arg 1 la) (.agg [.i p,.i r]) y5 (.bool false) (.i (n:Int)) (.sl 1 0 n none n 1) (.i (s:Int)) (.i by_) (.sl 2 0 n none n 1) y12 y13 y14 (.sl tb 0 n none n 1) (.i w0) (.i 0) y18 y19 y20 y21 y22 y23 y24 y25 y26 y27 y28 y29 y30 y31) H :=
  RunsTo.hin 0 60 [⟨13,2,.tuple [.i w0,.i 0],H⟩] fun kf hk=>⟨_,by kernel_rfl,(oC (g0 kf) .nil)⟩
theorem laa_h14_0 (rw la:List HV) (p r:Int) (n:Nat) (s:Nat) (by_:Int) (H:Heap) (tb:Nat) (l1:Int) {y5 y12 y13 y14 y18 y19 y20 y21 y22 y23 y24 y25 y26 y27 y28 y29 y30 y31:HV} {w0:Int} (g0:∀ kf,callN Tp polLa8 (kf+1) 34 [.sl 2 0 n none n 1,.sl tb 0 n none n 1] H=some (.tuple [.i w0,.i 0],H)):RT polLa8 8 (sub [1,1,1,1,1,1,1,1,0] B8) (env8 (.imm .arg 1 rw) (.imm .arg 1 la) (.agg [.i p,.i r]) y5 (.bool false) (.i (n:Int)) (.sl 1 0 n none n 1) (.i (s:Int)) (.i by_) (.sl 2 0 n none n 1) y12 y13 y14 (.sl tb 0 n none n 1) (.i l1) (.i 0) y18 y19 y20 y21 y22 y23 y24 y25 y26 y27 y28 y29 y30 y31) H .normal (env8 (.imm .arg 1 rw) (.imm .arg 1 la) (.agg [.i p,.i r]) y5 (.bool false) (.i (n:Int)) (.sl 1 0 n none n 1) (.i (s:Int)) (.i by_) (.sl 2 0 n none n 1) y12 y13 y14 (.sl tb 0 n none n 1) (.i l1) (.i 0) (.i w0) (.i 0) y20 y21 y22 y23 y24 y25 y26 y27 y28 y29 y30 y31) H :=
  RunsTo.hin 0 60 [⟨14,2,.tuple [.i w0,.i 0],H⟩] fun kf hk=>⟨_,by kernel_rfl,(oC (g0 kf) .nil)⟩
theorem laa_h15_0 (rw la:List HV) (p r:Int) (n:Nat) (s:Nat) (by_:Int) (H:Heap) (tb:Nat) (l1:Int) (l2:Int) {y5 y12 y13 y14 y20 y21 y22 y23 y24 y25 y26 y27 y28 y29 y30 y31:HV} {pb:Nat} {c1:Int} {H0:Heap} (g0:∀ kf,callN Tp polLa8 (kf+1) 29 [.sl 1 0 n none n 1] H=some (.tuple [.sl pb 0 n none n 1,.i c1,.i 0],H0)):RT polLa8 8 (sub [1,1,1,1,1,1,1,1,1,0] B8) (env8 (.imm .arg 1 rw) (.imm .arg 1 la) (.agg [.i p,.i r]) y5 (.bool false) (.i (n:Int)) (.sl 1 0 n none n 1) (.i (s:Int)) (.i by_) (.sl 2 0 n none n 1) y12 y13 y14 (.sl tb 0 n none n 1) (.i l1) (.i 0) (.i l2) (.i 0) y20 y21 y22 y23 y24 y25 y26 y27 y28 y29 y30 y31) H .normal (env8 (.imm .arg 1 rw) (.imm .arg 1 la) (.agg [.i p,.i r]) y5 (.bool false) (.i (n:Int)) (.sl 1 0 n none n 1) (.i (s:Int)) (.i by_) (.sl 2 0 n none n 1) y12 y13 y14 (.sl tb 0 n none n 1) (.i l1) (.i 0) (.i l2) (.i 0) (.sl pb 0 n none n 1) (.i c1) (.i 0) y23 y24 y25 y26 y27 y28 y29 y30 y31) H0 :=
  RunsTo.hin 0 60 [⟨15,1,.tuple [.sl pb 0 n none n 1,.i c1,.i 0],H0⟩] fun kf hk=>⟨_,by kernel_rfl,(oC (g0 kf) .nil)⟩
theorem laa_h16_0 (rw la:List HV) (p r:Int) (n:Nat) (s:Nat) (by_:Int) (H:Heap) (tb:Nat) (l1:Int) (l2:Int) (pb:Nat) (c1:Int) {y5 y12 y13 y14 y23 y24 y25 y26 y27 y28 y29 y30 y31:HV} {qb:Nat} {c2:Int} {H0:Heap} (g0:∀ kf,callN Tp polLa8 (kf+1) 29 [.sl 2 0 n none n 1] H=some (.tuple [.sl qb 0 n none n 1,.i c2,.i 0],H0)):RT polLa8 8 (sub [1,1,1,1,1,1,1,1,1,1,0] B8) (env8 (.imm .arg 1 rw) (.imm .arg 1 la) (.agg [.i p,.i r]) y5 (.bool false) (.i (n:Int)) (.sl 1 0 n none n 1) (.i (s:Int)) (.i by_) (.sl 2 0 n none n 1) y12 y13 y14 (.sl tb 0 n none n 1) (.i l1) (.i 0) (.i l2) (.i 0) (.sl pb 0 n none n 1) (.i c1) (.i 0) y23 y24 y25 y26 y27 y28 y29 y30 y31) H .normal (env8 (.imm .arg 1 rw) (.imm .arg 1 la) (.agg [.i p,.i r]) y5 (.bool false) (.i (n:Int)) (.sl 1 0 n none n 1) (.i (s:Int)) (.i by_) (.sl 2 0 n none n 1) y12 y13 y14 (.sl tb 0 n none n 1) (.i l1) (.i 0) (.i l2) (.i 0) (.sl pb 0 n none n 1) (.i c1) (.i 0) (.sl qb 0 n none n 1) (.i c2) (.i 0) y26 y27 y28 y29 y30 y31) H0 :=
  RunsTo.hin 0 60 [⟨16,1,.tuple [.sl qb 0 n none n 1,.i c2,.i 0],H0⟩] fun kf hk=>⟨_,by kernel_rfl,(oC (g0 kf) .nil)⟩
theorem laa_z_0 (rw la:List HV) (p r:Int) (n:Nat) (s:Nat) (by_:Int) (H:Heap) (tb:Nat) (l1:Int) (l2:Int) (pb:Nat) (c1:Int) (qb:Nat) (c2:Int) (zb wb:Nat) {y5 y12 y13 y14 y28 y29 y30 y31:HV} {H0:Heap} {u0:Int} {u1:Int} (g0:idxV Tp 23 (.sl wb 0 n (some n) n 1) (.i (s:Int))=some (.ptr wb s 0 n)) (g1:storeV Tp H 3 (.ptr wb s 0 n) (.i (IntKind.i64.wrap (0 - by_)))=some H0) (g2:∀ kf,callN Tp polLa8 (kf+1) 17 [.sl 1 0 n none n 1,.sl zb 0 n (some n) n 1] H0=some (.tuple [.i u0,.i 0],H0)) (g3:∀ kf,callN Tp polLa8 (kf+1) 17 [.sl 2 0 n none n 1,.sl wb 0 n (some n) n 1] H0=some (.tuple [.i u1,.i 0],H0)) (g4:l2=IntKind.i64.wrap (l1+IntKind.i64.wrap (2 * by_))) (g5:c2=IntKind.i64.wrap (c1+IntKind.i64.wrap (2 * by_))) (g6:∀ kf,callN Tp polLa8 (kf+1) 26 [.sl pb 0 n none n 1,.sl qb 0 n none n 1] H0=some (.bool true,H0)) (g7:u1=IntKind.i64.wrap (u0+IntKind.i64.wrap (2 * by_))):RT polLa8 8 (sub [1,1,1,1,1,1,1,1,1,1,1,1] B8) (env8 (.imm .arg 1 rw) (.imm .arg 1 la) (.agg [.i p,.i r]) y5 (.bool false) (.i (n:Int)) (.sl 1 0 n none n 1) (.i (s:Int)) (.i by_) (.sl 2 0 n none n 1) y12 y13 y14 (.sl tb 0 n none n 1) (.i l1) (.i 0) (.i l2) (.i 0) (.sl pb 0 n none n 1) (.i c1) (.i 0) (.sl qb 0 n none n 1) (.i c2) (.i 0) (.sl zb 0 n (some n) n 1) (.sl wb 0 n (some n) n 1) y28 y29 y30 y31) H .ret (env8 (.imm .arg 1 rw) (.imm .arg 1 la) (.agg [.i p,.i r]) y5 (.bool true) (.i (n:Int)) (.sl 1 0 n none n 1) (.i (s:Int)) (.i by_) (.sl 2 0 n none n 1) y12 y13 y14 (.sl tb 0 n none n 1) (.i l1) (.i 0) (.i l2) (.i 0) (.sl pb 0 n none n 1) (.i c1) (.i 0) (.sl qb 0 n none n 1) (.i c2) (.i 0) (.sl zb 0 n (some n) n 1) (.sl wb 0 n (some n) n 1) (.i u0) (.i 0) (.i u1) (.i 0)) H0 :=
  RunsTo.hin 0 60 [⟨18,4,.ptr wb s 0 n,H⟩,⟨18,5,.tuple [],H0⟩,⟨19,2,.tuple [.i u0,.i 0],H0⟩,⟨20,2,.tuple [.i u1,.i 0],H0⟩,⟨21,28,.bool true,H0⟩,⟨21,36,.bool true,H0⟩,⟨21,41,.bool true,H0⟩,⟨21,49,.bool true,H0⟩] fun kf hk=>⟨_,by kernel_rfl,(oP H g0 (oS g1 (oC (g2 kf) (oC (g3 kf) (oB H0 (decide_eq_true g4) (oB H0 (decide_eq_true g5) (oC (g6 kf) (oB H0 (decide_eq_true g7) .nil))))))))⟩
end Go.Proofs.Ytlendaofkmhgmaa
end
section
open Go Go.HL
namespace Go.Proofs.Ytlendaofkmhgmaa
open Go.Proofs.Try renaming prog → Tp
open Go.HL.HV renaming undef → Ud
theorem lenGo_up {d:List (List Int)} (h:okD d) {l:List Int} (hl:inT d.length l):∀ (k j:Nat) (s:Int),j+k=l.length → lenGo d l k j s ≤ s+1000 * k
  | 0,_,_,_=>by simp [lenGo]
  | k+1,j,s,hj=>by
    rw [lenGo]
    obtain ⟨a,b,ha,hb,⟨a0,a1⟩,⟨b0,b1⟩,hm⟩:=len_args h hl (j:=j) (by omega)
    rw [ha,hb]
    have:=at_bd h a1 b1
    have:=lenGo_up h hl k (j+1) (s+at2 d a.toNat b.toNat) (by omega)
    omega
theorem lenT_up {d:List (List Int)} (h:okD d) {l:List Int} (hl:trOk d.length l=true):0 ≤ lenT d l∧lenT d l ≤ 11000:=by
  obtain ⟨h1,_,h3,_⟩:=trOk_iff.1 hl
  have:=lenGo_up h h3 l.length 0 0 (by omega)
  have:=lenT_nn h h3
  have:=h.1
  unfold lenT at *
  omega
theorem len_at {d:List (List Int)} {X Y:HV} {l:List Int} {H:Heap} {pol':Pol} (hp:pol'.prim 34=some length34) (hd:okD d) (ht:trOk d.length l=true) (hx:toArg H 6 X=some (.imm .arg 1 (d.map encR))) (hy:toArg H 6 Y=some (.imm .arg 1 (l.map encI))) :
    ∀ k,callN Tp pol' (k+1) 34 [X,Y] H=some (.tuple [.int .i64 (lenT d l),.int .i64 0],H):=fun k=>by
  have hr:=rows_len hd
  have hn:=hd.1
  have t:=(trOk_iff.1 ht).1
  rw [prim_call (pol:=pol') (g:=34) (F:=length34) hp (rs:=[.imm .arg 1 (d.map encR),.imm .arg 1 (l.map encI)]) (by simp only [mapO,hx,hy]) (res:=.tuple [.int .i64 (lenT d l),.int .i64 0]) (by
    simp only [length34,rlF,mapO_map decR_enc,mapO_map decI_enc]
    rw [if_pos ⟨hr.1,hr.2,by omega⟩,if_pos ⟨hd,ht⟩])]
  rfl
theorem best_at {d:List (List Int)} {X:HV} {H:Heap} {pol':Pol} (hp:pol'.prim 29=some best29) (hd:okD d) (hx:toArg H 6 X=some (.imm .arg 1 (d.map encR))) :
    ∀ k,callN Tp pol' (k+1) 29 [X] H=some (.tuple [.sl H.length 0 d.length none d.length 1,.int .i64 (lenT d (bestT d)),.int .i64 0],H ++ [bI (bestT d)]):=fun k=>by
  have hr:=rows_len hd
  have hl:(bestT d).length=d.length:=(trOk_iff.1 (best_tour hd)).1
  rw [prim_call (pol:=pol') (g:=29) (F:=best29) hp (rs:=[.imm .arg 1 (d.map encR)]) (by simp only [mapO,hx]) (res:=.tuple [.own 1 ((bestT d).map encI),.int .i64 (lenT d (bestT d)),.int .i64 0]) (by
    simp only [best29,rwF,mapO_map decR_enc]
    rw [if_pos ⟨hr.1,hr.2⟩,if_pos hd])]
  have e:recv (.tuple [.own 1 ((bestT d).map encI),.int .i64 (lenT d (bestT d)),.int .i64 0]) H=(.tuple [.sl H.length 0 (bestT d).length none (bestT d).length 1,.int .i64 (lenT d (bestT d)),.int .i64 0],H ++ [bI (bestT d)]):=by
    simp only [recv,recvVals,recvVal,recvCell,encI_any,List.length_map]
    rfl
  rw [e,hl]
theorem bnd_at {d:List (List Int)} {X Y:HV} {l:List Int} {H:Heap} {pol':Pol} (hp:pol'.prim 17=some bound17) (hd:okD d) (hl:l.length=d.length) (hk:prOk l) (hx:toArg H 6 X=some (.imm .arg 1 (d.map encR))) (hy:toArg H 6 Y=some (.imm .arg 1 (l.map encI))) :
    ∀ k,callN Tp pol' (k+1) 17 [X,Y] H=some (.tuple [.int .i64 (bndT d l),.int .i64 0],H):=fun k=>by
  have hr:=rows_len hd
  have hn:=hd.1
  rw [prim_call (pol:=pol') (g:=17) (F:=bound17) hp (rs:=[.imm .arg 1 (d.map encR),.imm .arg 1 (l.map encI)]) (by simp only [mapO,hx,hy]) (res:=.tuple [.int .i64 (bndT d l),.int .i64 0]) (by
    simp only [bound17,rlF,mapO_map decR_enc,mapO_map decI_enc]
    rw [if_pos ⟨⟨hr.1,hr.2⟩,by omega⟩,if_pos ⟨hd,hl,hk⟩])]
  rfl
abbrev rwF' (n:Nat) (f:Nat → Nat → Int) (a:Nat):List Int:=(List.range n).map (f a)
theorem rw_len (n:Nat) (f:Nat → Nat → Int) (a:Nat):(rwF' n f a).length=n:=by simp
theorem TD.ext {m i:Nat} {r:Nat → List Int} {H H2:Heap} (h:TD m r i H) (hp:∀ k,k < H.length → H2[k]?=H[k]?):H2[m]?=some (.arr 1 ((List.range i).map (slD m r)) true (if i=0 then 0 else m+i+1))∧∀ a,a < i → H2[m+1+a]?=some (bI (r a)):=by
  have hl:=h.len
  exact ⟨by rw [hp m (by omega)]; exact h.out,fun a ha=>by rw [hp _ (by omega)]; exact h.row a ha⟩
theorem arg_TD {m n:Nat} {f:Nat → Nat → Int} {H0 H:Heap} (h0:TD m (rwF' n f) n H0) (hp:∀ k,k < H0.length → H[k]?=H0[k]?) (hn:1 ≤ n):toArg H 6 (.sl m 0 n none n 1)=some (.imm .arg 1 ((mat n f).map encR)):=by
  obtain ⟨ho,hr⟩:=h0.ext hp
  have e:toArg H 6 (.sl m 0 n none n 1)=if n=0 then some (.imm .arg 1 []) else match view H m 0 n n 1 with | some l=>(match mapO (toArg H 5) l with | some l=>some (.imm .arg 1 l) | none=>none) | none=>none:=rfl
  have hv:view H m 0 n n 1=some ((List.range n).map (slD m (rwF' n f))):=by
    simp only [view,ho,List.length_map,List.length_range]
    rw [if_pos ⟨trivial,by omega,trivial⟩,List.drop_zero,List.take_of_length_le (by simp)]
  have hm:∀ (j k:Nat),k+j ≤ n → mapO (toArg H 5) ((List.range' k j).map (slD m (rwF' n f)))=some ((List.range' k j).map fun a=>encR (rwF' n f a)):=by
    intro j
    induction j with
    | zero=>intro k _; rfl
    | succ j ih =>
      intro k hk
      rw [List.range'_succ,List.map_cons,List.map_cons,mapO,ih (k+1) (by omega)]
      have hv2:view H (m+1+k) 0 n n 1=some ((rwF' n f k).map encI):=by
        simp only [view,hr k (by omega),List.length_map,List.length_range]
        rw [if_pos ⟨trivial,by omega,trivial⟩,List.drop_zero,List.take_of_length_le (by simp)]
      have hm2:mapO (toArg H 4) ((rwF' n f k).map encI)=some ((rwF' n f k).map encI):=mapO_self (f:=toArg H 4) (g:=encI) (fun _=>rfl) _
      have:toArg H 5 (slD m (rwF' n f) k)=some (encR (rwF' n f k)):=by
        have e2:toArg H 5 (.sl (m+1+k) 0 n none n 1)=if n=0 then some (.imm .arg 1 []) else match view H (m+1+k) 0 n n 1 with | some l=>(match mapO (toArg H 4) l with | some l=>some (.imm .arg 1 l) | none=>none) | none=>none:=rfl
        simp only [slD,rw_len]
        rw [e2,if_neg (by omega)]
        simp only [hv2,hm2]
        rfl
      rw [this]
  rw [e,if_neg (by omega),hv]
  have h2:=hm n 0 (by omega)
  rw [← List.range_eq_range'] at h2
  simp only [h2]
  rw [mat,List.map_map]
  rfl
theorem TD.two {m n:Nat} {f g:Nat → Nat → Int} {H:Heap} (h:TD m (rwF' n f) n H) {i s:Nat} (hi:i < n) (hs:s < n) (his:i ≠ s) (x y:Int) (hg:∀ a b,a < n → b < n → g a b=if a=i∧b=s then x else if a=s∧b=i then y else f a b) :
    TD m (rwF' n g) n ((H.set (m+1+i) (bI ((rwF' n f i).set s x))).set (m+1+s) (bI ((rwF' n f s).set i y))):=by
  have hl:=h.len
  refine ⟨by simp [hl],?_,fun a ha=>?_⟩
  · rw [List.getElem?_set_ne (by omega),List.getElem?_set_ne (by omega),h.out]
    congr 2
    refine List.map_congr_left fun a _=>?_
    simp only [slD,rw_len]
  · by_cases e1:a=s
    · subst e1
      rw [List.getElem?_set_self (by simp; omega),row_set]
      congr 2
      refine row_congr fun b hb=>?_
      rw [hg a b ha hb,if_neg (show ¬ (a=i∧b=a) by omega)]
      by_cases e:b=i
      · rw [if_pos e,if_pos ⟨rfl,e⟩]
      · rw [if_neg e,if_neg (by omega)]
    · rw [List.getElem?_set_ne (by omega)]
      by_cases e2:a=i
      · subst e2
        rw [List.getElem?_set_self (by omega),row_set]
        congr 2
        refine row_congr fun b hb=>?_
        rw [hg a b ha hb]
        by_cases e:b=s
        · rw [if_pos e,if_pos ⟨rfl,e⟩]
        · rw [if_neg e,if_neg (by omega),if_neg (by omega)]
      · rw [List.getElem?_set_ne (by omega),h.row a ha]
        congr 2
        refine row_congr fun b hb=>?_
        rw [hg a b ha hb,if_neg (by omega),if_neg (by omega)]
def adF (d:List (List Int)) (s:Nat) (by_:Int) (i a b:Nat):Int:=at2 d a b+(if a ≠ b∧(b=s∧a < i ∨ a=s∧b < i) then by_ else 0)
theorem adF_step {d:List (List Int)} {s i:Nat} {by_:Int} (his:i ≠ s) (a b:Nat):adF d s by_ (i+1) a b=if a=i∧b=s then adF d s by_ i i s+by_ else if a=s∧b=i then adF d s by_ i s i+by_ else adF d s by_ i a b:=by
  unfold adF
  by_cases c1:a=i∧b=s
  · obtain ⟨rfl,rfl⟩:=c1
    rw [if_pos (show a=a∧b=b from ⟨rfl,rfl⟩),if_pos (show a ≠ b∧(b=b∧a < a+1 ∨ a=b∧b < a+1) from ⟨his,.inl ⟨rfl,by omega⟩⟩),if_neg (show ¬ (a ≠ b∧(b=b∧a < a ∨ a=b∧b < a)) by omega)]
    omega
  · rw [if_neg c1]
    by_cases c2:a=s∧b=i
    · obtain ⟨rfl,rfl⟩:=c2
      rw [if_pos (show a=a∧b=b from ⟨rfl,rfl⟩),if_pos (show a ≠ b∧(b=a∧a < b+1 ∨ a=a∧b < b+1) from ⟨fun h=>his h.symm,.inr ⟨rfl,by omega⟩⟩),if_neg (show ¬ (a ≠ b∧(b=a∧a < b ∨ a=a∧b < b)) by omega)]
      omega
    · rw [if_neg c2]
      by_cases c:a ≠ b∧(b=s∧a < i ∨ a=s∧b < i)
      · rw [if_pos c,if_pos (by omega)]
      · rw [if_neg c,if_neg (by omega)]
theorem adF_same {d:List (List Int)} {s:Nat} {by_:Int} (a b:Nat):adF d s by_ (s+1) a b=adF d s by_ s a b:=by
  unfold adF
  by_cases c:a ≠ b∧(b=s∧a < s ∨ a=s∧b < s)
  · rw [if_pos c,if_pos (by omega)]
  · rw [if_neg c,if_neg (by omega)]
section
variable {R0:List (List Int)} {l0:List Int} {p r by_:Int} {n s:Nat} {d:List (List Int)}
abbrev aaE (R0:List (List Int)) (l0:List Int) (p r:Int) (n s:Nat) (by_:Int) (v12 v13 v14:HV):Env:=(env8 (.imm .arg 1 (R0.map encR)) (.imm .arg 1 (l0.map encI)) (.agg [.int .i64 p,.int .i64 r]) Ud (.bool false) (.int .i64 (n:Int)) (.sl 1 0 n none n 1) (.int .i64 (s:Int)) (.int .i64 by_) (.sl 2 0 n none n 1) v12 v13 v14 Ud Ud Ud Ud Ud Ud Ud Ud Ud Ud Ud Ud Ud Ud Ud Ud Ud)
theorem aa_loop (hn:n ≤ 12) (hs:s < n) (hb:0 ≤ by_∧by_ ≤ 500) (hd:∀ a b,a < n → b < n → 0 ≤ at2 d a b∧at2 d a b ≤ 500):∀ k i H,i+k=n → TD 2 (rwF' n (adF d s by_ i)) n H → H[1]?=some (bRw d) →
    ∃ H' v13 v14,RT polLa8 8 (sub [1,1,1,1,1,0,1,0] B8) (aaE R0 l0 p r n s by_ (.int .i64 (i:Int)) Ud Ud) H (.exit 0) (aaE R0 l0 p r n s by_ (.int .i64 (n:Int)) v13 v14) H'∧TD 2 (rwF' n (adF d s by_ n)) n H'∧H'[1]?=some (bRw d):=by
  intro k
  induction k with
  | zero =>
    intro i H hi hT h1
    have:i=n:=by omega
    subst this
    exact ⟨H,_,_,lpo ((laa_g_2 (R0.map encR) (l0.map encI) p r i s by_ H i 0 0 (y5:=Ud) (y13:=Ud) (y14:=Ud) (y15:=Ud) (y16:=Ud) (y17:=Ud) (y18:=Ud) (y19:=Ud) (y20:=Ud) (y21:=Ud) (y22:=Ud) (y23:=Ud) (y24:=Ud) (y25:=Ud) (y26:=Ud) (y27:=Ud) (y28:=Ud) (y29:=Ud) (y30:=Ud) (y31:=Ud) (by omega))),hT,h1⟩
  | succ k ih =>
    intro i H hi hT h1
    by_cases c:i=s
    · subst c
      have t:=laa_g_0 (R0.map encR) (l0.map encI) p r n i by_ H i 0 0 (y5:=Ud) (y13:=Ud) (y14:=Ud) (y15:=Ud) (y16:=Ud) (y17:=Ud) (y18:=Ud) (y19:=Ud) (y20:=Ud) (y21:=Ud) (y22:=Ud) (y23:=Ud) (y24:=Ud) (y25:=Ud) (y26:=Ud) (y27:=Ud) (y28:=Ud) (y29:=Ud) (y30:=Ud) (y31:=Ud) (by omega) rfl
      rw [wrap_succ (by omega)] at t
      have hT':TD 2 (rwF' n (adF d i by_ (i+1))) n H:=by
        have e:adF d i by_ (i+1)=adF d i by_ i:=by funext a b; exact adF_same a b
        rw [e]; exact hT
      obtain ⟨H',v13,v14,r1,h2,h3⟩:=ih (i+1) H (by omega) hT' h1
      exact ⟨H',v13,v14,lop (t) (gc_eq _ rfl) (r1),h2,h3⟩
    · have hin:i < n:=by omega
      have hl:=hT.len
      have ix2:∀ a,a < n → idxV Tp 22 (.sl 2 0 n none n 1) (.int .i64 (a:Int))=some (.ptr 2 a 0 n):=fun a ha=>by
        have:=idx_sl (P:=Tp) (t:=22) (b:=2) (len:=n) (tot:=n) (cap:=none) (ik:=.i64) (n:=(a:Int)) u22 z23 (by omega) (by omega)
        rwa [Int.toNat_natCast] at this
      have ld2:∀ a,a < n → loadV Tp H 23 (.ptr 2 a 0 n)=some (.sl (2+1+a) 0 n none n 1):=fun a ha=>by
        refine load_elem (b:=2) hT.out (by simp) ?_ rfl a23 i23
        rw [List.getElem?_map,List.getElem?_range ha]
        simp only [Option.map,slD,rw_len]
      have r1:=hT.row i hin
      have r2:=hT.row s hs
      have b1:=hd i s hin hs
      have b2:=hd s i hs hin
      have v1:adF d s by_ i i s=at2 d i s:=by unfold adF; rw [if_neg (by omega)]; omega
      have v2:adF d s by_ i s i=at2 d s i:=by unfold adF; rw [if_neg (by omega)]; omega
      have l1:=ldg (H:=H) (b:=2+1+i) (k:=s) r1 (rw_len _ _ _) hs
      have s1:=stg (H:=H) (b:=2+1+i) (k:=s) r1 (rw_len _ _ _) hs (adF d s by_ i i s+by_)
      have e1:(rwF' n (adF d s by_ i) i).getD s 0=adF d s by_ i i s:=by
        rw [List.getD,List.getElem?_map,List.getElem?_range hs]; rfl
      have e2:(rwF' n (adF d s by_ i) s).getD i 0=adF d s by_ i s i:=by
        rw [List.getD,List.getElem?_map,List.getElem?_range hin]; rfl
      rw [e1] at l1
      have r2':(H.set (2+1+i) (bI ((rwF' n (adF d s by_ i) i).set s (adF d s by_ i i s+by_))))[2+1+s]?=some (bI (rwF' n (adF d s by_ i) s)):=by
        rw [List.getElem?_set_ne (by omega)]; exact r2
      have l2:=ldg (b:=2+1+s) (k:=i) r2' (rw_len _ _ _) hin
      rw [e2] at l2
      have s2:=stg (b:=2+1+s) (k:=i) r2' (rw_len _ _ _) hin (adF d s by_ i s i+by_)
      have w1:IntKind.i64.wrap (adF d s by_ i i s+by_)=adF d s by_ i i s+by_:=wrap_id (by omega) (by omega)
      have w2:IntKind.i64.wrap (adF d s by_ i s i+by_)=adF d s by_ i s i+by_:=wrap_id (by omega) (by omega)
      rw [← w1] at s1
      rw [← w2] at s2
      have t:=laa_g_1 (R0.map encR) (l0.map encI) p r n s by_ H i (2+1+i) (2+1+s) (y5:=Ud) (y13:=Ud) (y14:=Ud) (y15:=Ud) (y16:=Ud) (y17:=Ud) (y18:=Ud) (y19:=Ud) (y20:=Ud) (y21:=Ud) (y22:=Ud) (y23:=Ud) (y24:=Ud) (y25:=Ud) (y26:=Ud) (y27:=Ud) (y28:=Ud) (y29:=Ud) (y30:=Ud) (y31:=Ud) (by omega) (by omega) (ix2 i hin) (ld2 i hin) (ix2 s hs) (ld2 s hs) (ixg hs) l1 (ixg hs) s1 (ixg hin) (by rw [w1]; exact l2) (ixg hin) (by rw [w1]; exact s2)
      rw [wrap_succ (by omega),w2] at t
      have hT':=hT.two (g:=adF d s by_ (i+1)) hin hs c (adF d s by_ i i s+by_) (adF d s by_ i s i+by_) fun a b _ _=>adF_step c a b
      obtain ⟨H',v13,v14,q1,h2,h3⟩:=ih (i+1) _ (by omega) hT' (by rw [List.getElem?_set_ne (by omega),List.getElem?_set_ne (by omega)]; exact h1)
      exact ⟨H',v13,v14,lop (t) (gc_eq _ (by simp)) (q1),h2,h3⟩
end
theorem tabL_id12 {d:List (List Int)} (hd:okD d):tabL d=d:=by
  have hn:=hd.1
  unfold tabL
  rw [List.take_of_length_le (by omega)]
  conv=>rhs; rw [← List.map_id d]
  refine List.map_congr_left fun r hr=>?_
  obtain ⟨i,hi,rfl⟩:=List.getElem_of_mem hr
  have:=hd.2.1 i hi
  rw [List.getD,List.getElem?_eq_getElem hi] at this
  exact List.take_of_length_le (by simp at this; omega)
theorem mat_of {d:List (List Int)} (hd:okD d):(fun a=>d.getD a [])=fun a=>if a < d.length then rwF' d.length (at2 d) a else []:=by
  funext a
  split
  · rename_i h
    refine List.ext_getElem (by rw [rw_len]; exact hd.2.1 a h) fun i h1 h2=>?_
    simp only [List.getElem_map,List.getElem_range,at2]
    exact (getD_at h1).symm
  · rename_i h
    simp [List.getD,List.getElem?_eq_none (Nat.le_of_not_lt h)]
theorem TD.congr {m n:Nat} {r r':Nat → List Int} {H:Heap} (h:TD m r n H) (e:∀ a,a < n → r a=r' a):TD m r' n H:=by
  refine ⟨h.len,?_,fun a ha=>by rw [← e a ha]; exact h.row a ha⟩
  rw [h.out]
  congr 2
  refine List.map_congr_left fun a ha=>?_
  simp only [slD]
  rw [e a (List.mem_range.1 ha)]
theorem adF_okD {d:List (List Int)} {s:Nat} {by_:Int} (hd:okD d) (h5:∀ a b,a < d.length → b < d.length → 0 ≤ at2 d a b∧at2 d a b ≤ 500) (hb:0 ≤ by_∧by_ ≤ 500):okD (mat d.length (adF d s by_ d.length)):=by
  have hl:(mat d.length (adF d s by_ d.length)).length=d.length:=mat_len _ _
  refine ⟨by rw [hl]; exact hd.1,fun i hi=>?_,fun i hi j hj=>?_⟩
  · rw [hl] at hi ⊢
    rw [mat_row hi]; simp
  · rw [hl] at hi hj
    rw [mat_at hi hj,mat_at hj hi]
    have b1:=h5 i j hi hj
    obtain ⟨_,s1,s2⟩:=hd.2.2 i hi j hj
    refine ⟨?_,?_,?_⟩
    · unfold adF; split <;> omega
    · unfold adF
      rw [s1]
      by_cases c:i ≠ j∧(j=s∧i < d.length ∨ i=s∧j < d.length)
      · rw [if_pos c,if_pos (by omega)]
      · rw [if_neg c,if_neg (by omega)]
    · intro e
      unfold adF
      rw [if_neg (by omega),s2 e]; rfl
theorem bnd_zero {d:List (List Int)} (hd:okD d):-1000000000000 ≤ boundS d (zer d.length)∧boundS d (zer d.length) ≤ 1000000000000:=by
  have hn:=hd.1
  have hc:chosen d (zer d.length)=chosen d (pad (zer d.length)):=chosen_cong hd.1.1 fun a ha=>by
    exact (pad_get _ _ (by simp [zer]; exact ha)).symm
  have h1:=chosen_cost (ps:=pad (zer d.length)) hd (pad_small (by simp [zer]; omega) (fun v hv=>by simp [zer] at hv; omega))
  have h2:=chosen_len (ps:=pad (zer d.length)) hd
  have h3:=sumA_bd (chosen d (pad (zer d.length))) 0 h1
  have e:boundS d (zer d.length)=sumA (chosen d (pad (zer d.length))) 0:=by
    unfold boundS
    rw [hc]
    exact sumP_zero _ _
  rw [e]
  omega
end Go.Proofs.Ytlendaofkmhgmaa
end
section
open Go Go.HL
namespace Go.Proofs.Ytlendaofkmhgmaa
open Go.Proofs.Try renaming prog → Tp
open Go.HL.HV renaming undef → Ud
noncomputable def C17:Code:=sub [1,1,1,1,1,1,1,1,1,1,1,0] B8
section
variable (rw la:List HV) (p r:Int) (s:Nat) (by_:Int) (tb:Nat) (l1 l2:Int) (pb:Nat) (c1:Int) (qb:Nat) (c2:Int) (y5 y12 y13 y14:HV)
abbrev aaZ (n:Nat) (v26 v27:HV):Env:=(env8 (.imm .arg 1 rw) (.imm .arg 1 la) (.agg [.int .i64 p,.int .i64 r]) y5 (.bool false) (.int .i64 (n:Int)) (.sl 1 0 n none n 1) (.int .i64 (s:Int)) (.int .i64 by_) (.sl 2 0 n none n 1) y12 y13 y14 (.sl tb 0 n none n 1) (.int .i64 l1) (.int .i64 0) (.int .i64 l2) (.int .i64 0) (.sl pb 0 n none n 1) (.int .i64 c1) (.int .i64 0) (.sl qb 0 n none n 1) (.int .i64 c2) (.int .i64 0) v26 v27 Ud Ud Ud Ud)
abbrev zB (n:Nat):Blk:=.arr 1 (List.replicate n (.int .i64 0)) true 0
abbrev oA (H:Heap) (n:Nat):Env × Heap:=(aaZ rw la p r s by_ tb l1 l2 pb c1 qb c2 y5 y12 y13 y14 n (.sl H.length 0 n (some n) n 1) (.sl (H ++ [zB n]).length 0 n (some n) n 1),H ++ [zB n] ++ [zB n])
abbrev oB (H:Heap) (n:Nat):Env × Heap:=(aaZ rw la p r s by_ tb l1 l2 pb c1 qb c2 y5 y12 y13 y14 n (.sl (H ++ [zB n]).length 0 n (some n) n 1) (.sl H.length 0 n (some n) n 1),H ++ [zB n] ++ [zB n])
theorem aa_any (H:Heap) (n:Nat) (hn:3 ≤ n∧n ≤ 9) :
    (evAny Tp polLa8 8 17 (regOps C17) (asgTmps (regOps C17).toList) (callN Tp polLa8 0) (regOps C17).size (Array.replicate (regOps C17).size false) (aaZ rw la p r s by_ tb l1 l2 pb c1 qb c2 y5 y12 y13 y14 n Ud Ud) H).map (fun l=>l.map fun q=>(restr (polLa8.keys 8) q.1,q.2))
      = some ([oA rw la p r s by_ tb l1 l2 pb c1 qb c2 y5 y12 y13 y14 H n,oA rw la p r s by_ tb l1 l2 pb c1 qb c2 y5 y12 y13 y14 H n,oA rw la p r s by_ tb l1 l2 pb c1 qb c2 y5 y12 y13 y14 H n,oA rw la p r s by_ tb l1 l2 pb c1 qb c2 y5 y12 y13 y14 H n,oA rw la p r s by_ tb l1 l2 pb c1 qb c2 y5 y12 y13 y14 H n,oB rw la p r s by_ tb l1 l2 pb c1 qb c2 y5 y12 y13 y14 H n,oA rw la p r s by_ tb l1 l2 pb c1 qb c2 y5 y12 y13 y14 H n,oA rw la p r s by_ tb l1 l2 pb c1 qb c2 y5 y12 y13 y14 H n,oB rw la p r s by_ tb l1 l2 pb c1 qb c2 y5 y12 y13 y14 H n,oB rw la p r s by_ tb l1 l2 pb c1 qb c2 y5 y12 y13 y14 H n]):=by
  have h:n=3 ∨ n=4 ∨ n=5 ∨ n=6 ∨ n=7 ∨ n=8 ∨ n=9:=by omega
  rcases h with rfl | rfl | rfl | rfl | rfl | rfl | rfl
  · show _=_
    kernel_rfl
  · show _=_
    kernel_rfl
  · show _=_
    kernel_rfl
  · show _=_
    kernel_rfl
  · show _=_
    kernel_rfl
  · show _=_
    kernel_rfl
  · show _=_
    kernel_rfl
theorem aa_trip (H:Heap) (n:Nat) (hn:3 ≤ n∧n ≤ 9):Trip Tp Try.f8.ntmps C17 (aaZ rw la p r s by_ tb l1 l2 pb c1 qb c2 y5 y12 y13 y14 n Ud Ud) H
    (fun x e' H'=>x=.normal∧∃ zb wb,e'=aaZ rw la p r s by_ tb l1 l2 pb c1 qb c2 y5 y12 y13 y14 n (.sl zb 0 n (some n) n 1) (.sl wb 0 n (some n) n 1)∧H'=H ++ [zB n] ++ [zB n]∧zb ≠ wb∧H.length ≤ zb∧zb < H.length+2∧H.length ≤ wb∧wb < H.length+2):=by
  refine Trip.any follows_mixed soundLa8 (by kernel_rfl) (by kernel_rfl) (aa_any rw la p r s by_ tb l1 l2 pb c1 qb c2 y5 y12 y13 y14 H n hn) ?_
  have hA:∃ zb wb,(oA rw la p r s by_ tb l1 l2 pb c1 qb c2 y5 y12 y13 y14 H n).1=aaZ rw la p r s by_ tb l1 l2 pb c1 qb c2 y5 y12 y13 y14 n (.sl zb 0 n (some n) n 1) (.sl wb 0 n (some n) n 1)∧(oA rw la p r s by_ tb l1 l2 pb c1 qb c2 y5 y12 y13 y14 H n).2=H ++ [zB n] ++ [zB n]∧zb ≠ wb∧H.length ≤ zb∧zb < H.length+2∧H.length ≤ wb∧wb < H.length+2 :=
    ⟨_,_,rfl,rfl,by simp,by simp,by simp,by simp,by simp⟩
  have hB:∃ zb wb,(oB rw la p r s by_ tb l1 l2 pb c1 qb c2 y5 y12 y13 y14 H n).1=aaZ rw la p r s by_ tb l1 l2 pb c1 qb c2 y5 y12 y13 y14 n (.sl zb 0 n (some n) n 1) (.sl wb 0 n (some n) n 1)∧(oB rw la p r s by_ tb l1 l2 pb c1 qb c2 y5 y12 y13 y14 H n).2=H ++ [zB n] ++ [zB n]∧zb ≠ wb∧H.length ≤ zb∧zb < H.length+2∧H.length ≤ wb∧wb < H.length+2 :=
    ⟨_,_,rfl,rfl,by simp,by simp,by simp,by simp,by simp⟩
  intro q hq
  simp only [List.mem_cons,List.not_mem_nil,or_false] at hq
  rcases hq with rfl | rfl | rfl | rfl | rfl | rfl | rfl | rfl | rfl | rfl <;> assumption
end
end Go.Proofs.Ytlendaofkmhgmaa
end
section
open Go Go.HL
namespace Go.Proofs.Ytlendaofkmhgmaa
open Go.Proofs.Try renaming prog → Tp
open Go.HL.HV renaming undef → Ud
theorem res8:Try.f8.results.toList=[.tmp 6]:=by kernel_rfl
theorem get_app {H X:Heap} {k:Nat} {B:Blk} (h:H[k]?=some B):(H ++ X)[k]?=some B:=by
  rw [List.getElem?_append_left (lt_of_get h)]; exact h
theorem get_new {H X:Heap} {B:Blk}:(H ++ B :: X)[H.length]?=some B:=by
  rw [List.getElem?_append_right (Nat.le_refl _),Nat.sub_self]; rfl
theorem roundAdds_trip (R0:List (List Int)) (l0:List Int) (p r:Int):Trip Tp Try.f8.ntmps B8 (args0 [.imm .arg 1 (R0.map encR),.imm .arg 1 (l0.map encI),.agg [.int .i64 p,.int .i64 r]]) [] (fun x E _=>x=.ret∧E.get 6=.bool true):=by
  obtain ⟨n,hn,hw⟩:=n_of R0 7 (by omega) 3 (by omega)
  have hn1:3 ≤ n∧n ≤ 9:=by omega
  have a:=laa_a_0 (R0.map encR) (l0.map encI) p r
  have b:=laa_b_0 (R0.map encR) (l0.map encI) p r (y7:=Ud) (y8:=Ud) (y9:=Ud) (y10:=Ud) (y11:=Ud) (y12:=Ud) (y13:=Ud) (y14:=Ud) (y15:=Ud) (y16:=Ud) (y17:=Ud) (y18:=Ud) (y19:=Ud) (y20:=Ud) (y21:=Ud) (y22:=Ud) (y23:=Ud) (y24:=Ud) (y25:=Ud) (y26:=Ud) (y27:=Ud) (y28:=Ud) (y29:=Ud) (y30:=Ud) (y31:=Ud) (prim_mod (pol':=polLa8) (by kernel_rfl) (by omega) _)
  rw [hw] at b
  have hd:okD (tameL R0 n 500):=tame_okD (by omega) (by omega)
  have hdl:(tameL R0 n 500).length=n:=mat_len _ _
  have h5:∀ a b,a < n → b < n → 0 ≤ at2 (tameL R0 n 500) a b∧at2 (tameL R0 n 500) a b ≤ 500:=fun a b ha hb=>by
    rw [tameL,mat_at ha hb]
    unfold tameF
    have h1:=tmX_bnd (R:=R0) (mo:=500) (by omega) a b
    have h2:=tmX_bnd (R:=R0) (mo:=500) (by omega) b a
    split
    · omega
    · split <;> omega
  have kt:=c_tame (pol':=polLa8) (by kernel_rfl) (R:=R0) (n:=n) (mo:=500) (by omega) (by omega) [.arr 2 [.agg [.int .i64 p,.int .i64 r]] true 0]
  rw [hdl] at kt
  generalize tameL R0 n 500=d at hd hdl h5 kt
  have c:=laa_c_0 (R0.map encR) (l0.map encI) p r n (y8:=Ud) (y9:=Ud) (y10:=Ud) (y11:=Ud) (y12:=Ud) (y13:=Ud) (y14:=Ud) (y15:=Ud) (y16:=Ud) (y17:=Ud) (y18:=Ud) (y19:=Ud) (y20:=Ud) (y21:=Ud) (y22:=Ud) (y23:=Ud) (y24:=Ud) (y25:=Ud) (y26:=Ud) (y27:=Ud) (y28:=Ud) (y29:=Ud) (y30:=Ud) (y31:=Ud) kt
  have hs:=modW_bounds p (n:Int) (by omega) (by omega)
  have hb:=modW_bounds r 501 (by omega) (by omega)
  obtain ⟨s,hse⟩:∃ s:Nat,modW p (n:Int)=(s:Int):=⟨(modW p (n:Int)).toNat,by omega⟩
  have hS:=sameH_cons (same_arr (k:=2) (m:=0) (w:=true) (l:=[.agg [.int .i64 p,.int .i64 r]]) (fun v hv=>by rw [List.mem_singleton] at hv; subst hv; simp [same,sameL])) (same_bR d)
  have dd:=laa_d_0 (R0.map encR) (l0.map encI) p r n (d.map encO) (y9:=Ud) (y10:=Ud) (y11:=Ud) (y12:=Ud) (y13:=Ud) (y14:=Ud) (y15:=Ud) (y16:=Ud) (y17:=Ud) (y18:=Ud) (y19:=Ud) (y20:=Ud) (y21:=Ud) (y22:=Ud) (y23:=Ud) (y24:=Ud) (y25:=Ud) (y26:=Ud) (y27:=Ud) (y28:=Ud) (y29:=Ud) (y30:=Ud) (y31:=Ud) (prim_mod (pol':=polLa8) (by kernel_rfl) (by omega) _) (prim_mod (pol':=polLa8) (by kernel_rfl) (by omega) _) (by rw [hS]; simp [same])
  rw [hse] at dd
  generalize modW r 501=bz at dd hb
  have hsn:s < n:=by omega
  obtain ⟨HT,hrec,hTD⟩:=recv_W d (fun h=>by rw [h] at hdl; simp at hdl; omega) [.arr 2 [.agg [.int .i64 p,.int .i64 r]] true 0,bRw d]
  have k15:∀ kf,callN Tp polLa8 (kf+1) 15 [.sl 1 0 n none n 1] [.arr 2 [.agg [.int .i64 p,.int .i64 r]] true 0,bRw d]=some (.sl 2 0 n none n 1,[.arr 2 [.agg [.int .i64 p,.int .i64 r]] true 0,bRw d] ++ HT):=fun kf=>by
    rw [prim_call (pol:=polLa8) (g:=15) (F:=table15D) (by kernel_rfl) (rs:=[.imm .arg 1 (d.map encR)]) (by simp only [mapO,arg_rs (H:=[.arr 2 [.agg [.int .i64 p,.int .i64 r]] true 0,bRw d]) (R:=d) (b:=1) (mx:=0) hdl rfl]) (res:=.own 1 (d.map encW)) (by simp only [table15D,rwF,mapO_map decR_enc]; rw [tabL_id12 hd]),hrec,hdl]
    rfl
  have e:=laa_e_0 (R0.map encR) (l0.map encI) p r n (d.map encO) s bz (y11:=Ud) (y12:=Ud) (y13:=Ud) (y14:=Ud) (y15:=Ud) (y16:=Ud) (y17:=Ud) (y18:=Ud) (y19:=Ud) (y20:=Ud) (y21:=Ud) (y22:=Ud) (y23:=Ud) (y24:=Ud) (y25:=Ud) (y26:=Ud) (y27:=Ud) (y28:=Ud) (y29:=Ud) (y30:=Ud) (y31:=Ud) k15
  have hT0:TD 2 (rwF' n (adF d s bz 0)) n ([.arr 2 [.agg [.int .i64 p,.int .i64 r]] true 0,bRw d] ++ HT):=by
    have h1:TD 2 (fun a=>d.getD a []) n ([.arr 2 [.agg [.int .i64 p,.int .i64 r]] true 0,bRw d] ++ HT):=by
      have:=hTD
      rw [hdl] at this
      exact this
    refine h1.congr fun a ha=>?_
    have h2:=congrFun (mat_of hd) a
    rw [h2,if_pos (by omega),hdl]
    refine row_congr fun b hb=>?_
    unfold adF
    rw [if_neg (by omega)]; omega
  have f:=laa_f_0 (R0.map encR) (l0.map encI) p r n s bz ([.arr 2 [.agg [.int .i64 p,.int .i64 r]] true 0,bRw d] ++ HT) (y5:=.ptr 0 0 0 1) (y12:=Ud) (y13:=Ud) (y14:=Ud) (y15:=Ud) (y16:=Ud) (y17:=Ud) (y18:=Ud) (y19:=Ud) (y20:=Ud) (y21:=Ud) (y22:=Ud) (y23:=Ud) (y24:=Ud) (y25:=Ud) (y26:=Ud) (y27:=Ud) (y28:=Ud) (y29:=Ud) (y30:=Ud) (y31:=Ud)
  obtain ⟨H,v13,v14,lp,hT,h1⟩:=aa_loop (R0:=R0) (l0:=l0) (p:=p) (r:=r) (d:=d) (by omega) hsn (by omega) h5 n 0 _ (by omega) hT0 rfl
  have hl:=hT.len
  have hd':okD (mat n (adF d s bz n)):=by have:=adF_okD (s:=s) (by_:=bz) hd (by rw [hdl]; exact h5) (by omega); rwa [hdl] at this
  have hdl':(mat n (adF d s bz n)).length=n:=mat_len _ _
  have hsh:∀ x y,x < d.length → y < d.length → x ≠ y → at2 (mat n (adF d s bz n)) x y=at2 d x y+(if x=s then bz else 0)+(if y=s then bz else 0):=fun x y hx hy hxy=>by
    rw [hdl] at hx hy
    rw [mat_at hx hy]
    unfold adF
    by_cases c1:x=s
    · rw [if_pos c1,if_neg (show ¬ y=s by omega),if_pos (show x ≠ y∧(y=s∧x < n ∨ x=s∧y < n) by omega)]; omega
    · rw [if_neg c1]
      by_cases c2:y=s
      · rw [if_pos c2,if_pos (show x ≠ y∧(y=s∧x < n ∨ x=s∧y < n) by omega)]; omega
      · rw [if_neg c2,if_neg (show ¬ (x ≠ y∧(y=s∧x < n ∨ x=s∧y < n)) by omega)]; omega
  have argY:∀ X,toArg (H ++ X) 6 (.sl 2 0 n none n 1)=some (.imm .arg 1 ((mat n (adF d s bz n)).map encR)):=fun X=>arg_TD hT (fun k hk=>List.getElem?_append_left hk) (by omega)
  have argX:∀ X,toArg (H ++ X) 6 (.sl 1 0 n none n 1)=some (.imm .arg 1 (d.map encR)):=fun X=>arg_rs hdl (get_app h1)
  have ht:=tour_trOk l0 (n:=n) (by omega)
  have hlt:(tourL l0 n).length=n:=(trOk_iff.1 ht).1
  have k33:=c_tour (pol':=polLa8) (by kernel_rfl) (l:=l0) (n:=n) (by omega) H
  rw [hlt] at k33
  generalize tourL l0 n=l at ht hlt k33
  have tD:trOk d.length l=true:=by rw [hdl]; exact ht
  have tD':trOk (mat n (adF d s bz n)).length l=true:=by rw [hdl']; exact ht
  have ls:=len_shift hd (by omega) (by omega) hsh tD
  have bs:=best_shift hd hd' (hdl'.trans hdl.symm) (by omega) (by omega) hsh
  have bo:=bound_adds (d:=d) (d':=mat n (adF d s bz n)) (p:=zer n) (a:=s) (b:=bz) (hdl'.trans hdl.symm) (by omega) (by simp [zer]; omega) (by omega) hsh
  have z0:=bnd_zero hd
  rw [hdl] at z0
  have eb1:bndT d (zer n)=boundS d (zer n):=bndT_eq (by omega) (by simp [zer]; omega)
  have eb2:bndT (mat n (adF d s bz n)) ((zer n).set s ((zer n).getD s 0 - bz))=boundS (mat n (adF d s bz n)) ((zer n).set s ((zer n).getD s 0 - bz)):=bndT_eq (by omega) (by simp [zer]; omega)
  have u1:=lenT_up hd tD
  have u2:=lenT_up hd' tD'
  have u3:=lenT_up hd (best_tour hd)
  have u4:=lenT_up hd' (best_tour hd')
  generalize hdd:mat n (adF d s bz n)=d' at *
  have hgz:(zer n).getD s 0=0:=by simp [zer,List.getD,List.getElem?_replicate,hsn]
  rw [hgz] at bo eb2
  have h12:=laa_h12_0 (R0.map encR) (l0.map encI) p r n s bz H (y12:=.int .i64 (n:Int)) (y13:=v13) (y14:=v14) (y5:=Ud) (y15:=Ud) (y16:=Ud) (y17:=Ud) (y18:=Ud) (y19:=Ud) (y20:=Ud) (y21:=Ud) (y22:=Ud) (y23:=Ud) (y24:=Ud) (y25:=Ud) (y26:=Ud) (y27:=Ud) (y28:=Ud) (y29:=Ud) (y30:=Ud) (y31:=Ud) k33
  have gl:(H ++ [bI l])[H.length]?=some (bI l):=get_new
  have argL:∀ X,toArg (H ++ ([bI l] ++ X)) 6 (.sl H.length 0 n none n 1)=some (.imm .arg 1 (l.map encI)):=fun X=>by
    rw [← List.append_assoc]; exact arg_sl hlt (get_app gl)
  have h13:=laa_h13_0 (R0.map encR) (l0.map encI) p r n s bz (H ++ [bI l]) H.length (y12:=.int .i64 (n:Int)) (y13:=v13) (y14:=v14) (y5:=Ud) (y16:=Ud) (y17:=Ud) (y18:=Ud) (y19:=Ud) (y20:=Ud) (y21:=Ud) (y22:=Ud) (y23:=Ud) (y24:=Ud) (y25:=Ud) (y26:=Ud) (y27:=Ud) (y28:=Ud) (y29:=Ud) (y30:=Ud) (y31:=Ud) (len_at (pol':=polLa8) (by kernel_rfl) hd tD (argX _) (argL []))
  have h14:=laa_h14_0 (R0.map encR) (l0.map encI) p r n s bz (H ++ [bI l]) H.length (lenT d l) (y12:=.int .i64 (n:Int)) (y13:=v13) (y14:=v14) (y5:=Ud) (y18:=Ud) (y19:=Ud) (y20:=Ud) (y21:=Ud) (y22:=Ud) (y23:=Ud) (y24:=Ud) (y25:=Ud) (y26:=Ud) (y27:=Ud) (y28:=Ud) (y29:=Ud) (y30:=Ud) (y31:=Ud) (len_at (pol':=polLa8) (by kernel_rfl) hd' tD' (argY _) (argL []))
  have k15b:=best_at (pol':=polLa8) (by kernel_rfl) hd (argX [bI l])
  rw [hdl] at k15b
  have h15:=laa_h15_0 (R0.map encR) (l0.map encI) p r n s bz (H ++ [bI l]) H.length (lenT d l) (lenT d' l) (y12:=.int .i64 (n:Int)) (y13:=v13) (y14:=v14) (y5:=Ud) (y20:=Ud) (y21:=Ud) (y22:=Ud) (y23:=Ud) (y24:=Ud) (y25:=Ud) (y26:=Ud) (y27:=Ud) (y28:=Ud) (y29:=Ud) (y30:=Ud) (y31:=Ud) k15b
  have k16b:=best_at (pol':=polLa8) (by kernel_rfl) hd' (argY ([bI l] ++ [bI (bestT d)]))
  rw [hdl'] at k16b
  have ea:H ++ [bI l] ++ [bI (bestT d)]=H ++ ([bI l] ++ [bI (bestT d)]):=List.append_assoc _ _ _
  rw [← ea] at k16b
  have h16:=laa_h16_0 (R0.map encR) (l0.map encI) p r n s bz (H ++ [bI l] ++ [bI (bestT d)]) H.length (lenT d l) (lenT d' l) (H ++ [bI l]).length (lenT d (bestT d)) (y12:=.int .i64 (n:Int)) (y13:=v13) (y14:=v14) (y5:=Ud) (y23:=Ud) (y24:=Ud) (y25:=Ud) (y26:=Ud) (y27:=Ud) (y28:=Ud) (y29:=Ud) (y30:=Ud) (y31:=Ud) k16b
  have lpB:=sq (f) (bke (c:=sub [1,1,1,1,1,0,1] B8) (lpi (e0:=(env8 (.imm .arg 1 (R0.map encR)) (.imm .arg 1 (l0.map encI)) (.agg [.int .i64 p,.int .i64 r]) (.ptr 0 0 0 1) (.bool false) (.int .i64 (n:Int)) (.sl 1 0 n none n 1) (.int .i64 (s:Int)) (.int .i64 bz) (.sl 2 0 n none n 1) (.int .i64 ((0:Nat):Int)) Ud Ud Ud Ud Ud Ud Ud Ud Ud Ud Ud Ud Ud Ud Ud Ud Ud Ud Ud)) lp (b:=sub [1,1,1,1,1,0,1,0,0] B8))) (c:=sub [1,1,1,1,1,0] B8)
  refine Trip.seqR a follows_mixed soundLa8 (by kernel_rfl) (cd:=B8) (ca:=(sub [0] B8)) (cb:=(sub [1] B8)) (by kernel_rfl) ?_
  refine Trip.seqR b follows_mixed soundLa8 (by kernel_rfl) (cd:=(sub [1] B8)) (ca:=(sub [1,0] B8)) (cb:=(sub [1,1] B8)) (by kernel_rfl) ?_
  refine Trip.seqR c follows_mixed soundLa8 (by kernel_rfl) (cd:=(sub [1,1] B8)) (ca:=(sub [1,1,0] B8)) (cb:=(sub [1,1,1] B8)) (by kernel_rfl) ?_
  refine Trip.seqR dd follows_mixed soundLa8 (by kernel_rfl) (cd:=(sub [1,1,1] B8)) (ca:=(sub [1,1,1,0] B8)) (cb:=(sub [1,1,1,1] B8)) (by kernel_rfl) ?_
  refine Trip.seqR e follows_mixed soundLa8 (by kernel_rfl) (cd:=(sub [1,1,1,1] B8)) (ca:=(sub [1,1,1,1,0] B8)) (cb:=(sub [1,1,1,1,1] B8)) (by kernel_rfl) ?_
  refine Trip.seqR lpB follows_mixed soundLa8 (by kernel_rfl) (cd:=(sub [1,1,1,1,1] B8)) (ca:=(sub [1,1,1,1,1,0] B8)) (cb:=(sub [1,1,1,1,1,1] B8)) (by kernel_rfl) ?_
  refine Trip.seqR h12 follows_mixed soundLa8 (by kernel_rfl) (cd:=(sub [1,1,1,1,1,1] B8)) (ca:=(sub [1,1,1,1,1,1,0] B8)) (cb:=(sub [1,1,1,1,1,1,1] B8)) (by kernel_rfl) ?_
  refine Trip.seqR h13 follows_mixed soundLa8 (by kernel_rfl) (cd:=(sub [1,1,1,1,1,1,1] B8)) (ca:=(sub [1,1,1,1,1,1,1,0] B8)) (cb:=(sub [1,1,1,1,1,1,1,1] B8)) (by kernel_rfl) ?_
  refine Trip.seqR h14 follows_mixed soundLa8 (by kernel_rfl) (cd:=(sub [1,1,1,1,1,1,1,1] B8)) (ca:=(sub [1,1,1,1,1,1,1,1,0] B8)) (cb:=(sub [1,1,1,1,1,1,1,1,1] B8)) (by kernel_rfl) ?_
  refine Trip.seqR h15 follows_mixed soundLa8 (by kernel_rfl) (cd:=(sub [1,1,1,1,1,1,1,1,1] B8)) (ca:=(sub [1,1,1,1,1,1,1,1,1,0] B8)) (cb:=(sub [1,1,1,1,1,1,1,1,1,1] B8)) (by kernel_rfl) ?_
  refine Trip.seqR h16 follows_mixed soundLa8 (by kernel_rfl) (cd:=(sub [1,1,1,1,1,1,1,1,1,1] B8)) (ca:=(sub [1,1,1,1,1,1,1,1,1,1,0] B8)) (cb:=(sub [1,1,1,1,1,1,1,1,1,1,1] B8)) (by kernel_rfl) ?_
  have hc:sub [1,1,1,1,1,1,1,1,1,1,1] B8=.seq C17 (sub [1,1,1,1,1,1,1,1,1,1,1,1] B8):=by kernel_rfl
  rw [hc]
  refine Trip.seq (aa_trip (R0.map encR) (l0.map encI) p r s bz H.length (lenT d l) (lenT d' l) (H ++ [bI l]).length (lenT d (bestT d)) (H ++ [bI l] ++ [bI (bestT d)]).length (lenT d' (bestT d')) Ud (.int .i64 (n:Int)) v13 v14 (H ++ [bI l] ++ [bI (bestT d)] ++ [bI (bestT d')]) n hn1) ?_ (fun x e1 H1 hx q=>absurd q.1 hx)
  rintro e1 H1 ⟨_,zb,wb,rfl,rfl,hzw,z1,z2,w1,w2⟩
  have hzb:zB n=bI (zer n):=by simp [zer,encI]
  rw [hzb]
  have hL:(H ++ [bI l] ++ [bI (bestT d)] ++ [bI (bestT d')]).length=n+6:=by simp [hl]; omega
  rw [hL] at z1 z2 w1 w2
  generalize hHH:H ++ [bI l] ++ [bI (bestT d)] ++ [bI (bestT d')] ++ [bI (zer n)] ++ [bI (zer n)]=HH
  have eH:HH=H ++ ([bI l,bI (bestT d),bI (bestT d'),bI (zer n),bI (zer n)]):=by rw [← hHH]; simp
  have gz:∀ q,q=n+6 ∨ q=n+7 → HH[q]?=some (bI (zer n)):=fun q hq=>by
    rw [eH,List.getElem?_append_right (by omega),hl]
    rcases hq with rfl | rfl
    · rw [show n+6 - (2+n+1)=3 by omega]; rfl
    · rw [show n+7 - (2+n+1)=4 by omega]; rfl
  have gzb:=gz zb (by omega)
  have gwb:=gz wb (by omega)
  have hzl:(zer n).length=n:=by simp [zer]
  have st:=stg (H:=HH) (b:=wb) (k:=s) gwb hzl hsn (0 - bz)
  have hwl:((zer n).set s (0 - bz)).length=n:=by simp [zer]
  generalize hH2:HH.set wb (bI ((zer n).set s (0 - bz)))=H2 at st
  have g2:∀ k,k ≠ wb → H2[k]?=HH[k]?:=fun k hk=>by rw [← hH2,List.getElem?_set_ne (fun h=>hk h.symm)]
  have low:∀ k,k < H.length → H2[k]?=H[k]?:=fun k hk=>by rw [g2 k (by omega),eH,List.getElem?_append_left hk]
  have gw2:H2[wb]?=some (bI ((zer n).set s (0 - bz))):=by rw [← hH2,List.getElem?_set_self (lt_of_get gwb)]
  have gp:H2[(H ++ [bI l]).length]?=some (bI (bestT d)):=by
    have e1:(H ++ [bI l]).length=H.length+1:=by simp
    rw [g2 _ (by omega),eH,e1,List.getElem?_append_right (by omega),Nat.add_sub_cancel_left]
    rfl
  have gq:H2[(H ++ [bI l] ++ [bI (bestT d)]).length]?=some (bI (bestT d')):=by
    have e1:(H ++ [bI l] ++ [bI (bestT d)]).length=H.length+2:=by simp
    rw [g2 _ (by omega),eH,e1,List.getElem?_append_right (by omega),Nat.add_sub_cancel_left]
    rfl
  have aX:toArg H2 6 (.sl 1 0 n none n 1)=some (.imm .arg 1 (d.map encR)):=arg_rs hdl (by rw [low 1 (by omega)]; exact h1)
  have aY:toArg H2 6 (.sl 2 0 n none n 1)=some (.imm .arg 1 (d'.map encR)):=by rw [← hdd]; exact arg_TD hT low (by omega)
  have aZ:toArg H2 6 (.sl zb 0 n (some n) n 1)=some (.imm .arg 1 ((zer n).map encI)):=arg_sl (b:=zb) hzl (by rw [g2 zb hzw]; exact gzb)
  have aW:toArg H2 6 (.sl wb 0 n (some n) n 1)=some (.imm .arg 1 (((zer n).set s (0 - bz)).map encI)):=arg_sl (b:=wb) hwl gw2
  have lb1:(bestT d).length=n:=by rw [← hdl]; exact (trOk_iff.1 (best_tour hd)).1
  have lb2:(bestT d').length=n:=by rw [← hdl']; exact (trOk_iff.1 (best_tour hd')).1
  have k26:∀ kf,callN Tp polLa8 (kf+1) 26 [.sl (H ++ [bI l]).length 0 n none n 1,.sl (H ++ [bI l] ++ [bI (bestT d)]).length 0 n none n 1] H2=some (.bool true,H2):=fun kf=>by
    rw [prim_call (pol:=polLa8) (g:=26) (F:=ints26) (by kernel_rfl) (rs:=[.imm .arg 1 ((bestT d).map encI),.imm .arg 1 ((bestT d').map encI)]) (by simp only [mapO,arg_sl lb1 gp,arg_sl lb2 gq]) (res:=.bool true) (by
      simp only [ints26,llF,mapO_map decI_enc]
      rw [if_pos (by omega),bs.1,decide_eq_true rfl])]
    rfl
  have zpr:prOk (zer n):=fun v hv=>by simp [zer] at hv; omega
  have wpr:prOk ((zer n).set s (0 - bz)):=fun v hv=>by
    rcases List.mem_or_eq_of_mem_set hv with h | h
    · exact zpr v h
    · omega
  have ew:IntKind.i64.wrap (2 * bz)=2 * bz:=wrap_id (by omega) (by omega)
  have eneg:IntKind.i64.wrap (0 - bz)=0 - bz:=wrap_id (by omega) (by omega)
  have zz:=laa_z_0 (R0.map encR) (l0.map encI) p r n s bz HH H.length (lenT d l) (lenT d' l) (H ++ [bI l]).length (lenT d (bestT d)) (H ++ [bI l] ++ [bI (bestT d)]).length (lenT d' (bestT d')) zb wb (y12:=.int .i64 (n:Int)) (y13:=v13) (y14:=v14) (y5:=Ud) (y28:=Ud) (y29:=Ud) (y30:=Ud) (y31:=Ud) (H0:=H2) (ixr hsn) (by rw [eneg]; exact st)
    (bnd_at (pol':=polLa8) (by kernel_rfl) hd (hzl.trans hdl.symm) zpr aX aZ) (bnd_at (pol':=polLa8) (by kernel_rfl) hd' (hwl.trans hdl'.symm) wpr aY aW)
    (by rw [ew,ls]; exact (wrap_id (by omega) (by omega)).symm) (by rw [ew,bs.2]; exact (wrap_id (by omega) (by omega)).symm) k26
    (by rw [ew,eb2,bo,eb1]; exact (wrap_id (by omega) (by omega)).symm)
  refine (Trip.run follows_mixed soundLa8 (by kernel_rfl) zz).mono ?_
  rintro x e' H' ⟨rfl,rfl,rfl⟩
  exact ⟨rfl,rfl⟩
theorem roundAdds_call (R0:List (List Int)) (l0:List Int) (p r:Int):CallT Tp 8 [.imm .arg 1 (R0.map encR),.imm .arg 1 (l0.map encI),.agg [.int .i64 p,.int .i64 r]] [] (fun v _=>v=.bool true) :=
  CallT.body (fn:=Try.f8) (cd:=B8) (by kernel_rfl) (by kernel_rfl) (roundAdds_trip R0 l0 p r) (by
    rintro x e H' ⟨rfl,he⟩
    exact ⟨by simp,.bool true,by simp only [resultsV,res8,mapO,resultV,he],rfl⟩)
end Go.Proofs.Ytlendaofkmhgmaa
end
section
namespace Go.HL
open Go.ChangeShapes Go.WideShapes Go.ChangeAt Go.RowKit Go.Deep
theorem okNil (w:World) (r:Nat):okOf Ctx.nil w.heap.size false r:=by
  refine ⟨fun hM=>?_,by simp⟩
  obtain ⟨b,y,h1,_,_⟩:=M_iff.1 hM
  simp [Ctx.nil] at h1
theorem cell_lt {w:World} {a:Addr} {v:Value} (h:w.cell? a=some v):a.block < w.heap.size:=by
  rcases Nat.lt_or_ge a.block w.heap.size with hl | hl
  · exact hl
  · have:w.heap[a.block]?=none:=by simp [hl]
    simp [World.cell?,this] at h
end Go.HL
end
section
namespace Go.HL
open Go.ChangeShapes Go.WideShapes Go.ChangeAt Go.RowKit Go.Deep
theorem arg_ints_ok {H:Type} {enc:TypeId × Value → H} {P:Program} {W:World} {base:Nat} {t q:TypeId} {v:Value} {d:DataW H} {ps:List MemPlace} (ht:P.underlying t=some (.slice q)) (hq:P.underlying q=some (.int .i64)) (cq:P.cellsOf q=1)
    (hval:Value.okWide P W .any base t v) (hd:DataW.Trod enc P W 0 (fun _=>true) true t v d ps):∃ l:List Int,V W (okOf Ctx.nil W.heap.size) Ctx.nil (.imm .arg 1 (l.map encI)) v:=by
  obtain ⟨a,len,cap,rfl⟩:=okWide_slice ht hval
  obtain ⟨fuel,hf⟩:=hd
  rcases open_slice ht hf with ⟨h0,_⟩ | ⟨a',len',cap',m,n,D,Pl,h0,hb,hl,hm,hmm,hx,hel⟩
  · simp [Value.cells] at h0
    obtain ⟨rfl,rfl,rfl⟩:=h0
    exact ⟨[],.imm .arg 1 [] none 0 (fun _=>.bool false) (by simp) (by simp) (by simp) (by simp) (by simp) (by simp)⟩
  · simp [Value.cells] at h0
    obtain ⟨rfl,rfl,rfl⟩:=h0
    have hlm:len ≤ m:=by rw [hmm]; split <;> omega
    have each:∀ i,i < len → ∃ z:Int,W.cell? (a'.add i)=some (.int .i64 z):=by
      intro i hi
      obtain ⟨cs',h1,h2⟩:=hel i (by omega)
      rw [cq] at h1
      obtain ⟨_,hlen,hcell⟩:=World.cells?_some h1
      match cs',hlen with
      | [v0],_ =>
        obtain ⟨z0,e0,_,_⟩:=DataW.trod_int hq h2
        simp at e0
        subst e0
        have c0:=hcell 0 (by omega)
        rw [add_add] at c0
        exact ⟨z0,by simpa using c0⟩
    obtain ⟨f,hf⟩:=choose_lt each
    refine ⟨(List.range len).map f,?_⟩
    have hlen:(((List.range len).map f).map encI).length=len:=by simp
    have key:=V.imm (w:=W) (ok:=okOf Ctx.nil W.heap.size) (c:=Ctx.nil) .arg 1 (((List.range len).map f).map encI) (some a') cap (fun j=>.int .i64 (f j))
      (by rw [hlen]; exact hl) (by simp) ?_ ?_ ?_ ?_
    · rw [hlen] at key; exact key
    · intro hne
      have h0:0 < len:=by
        rcases Nat.eq_zero_or_pos len with h | h
        · subst h; simp at hne
        · exact h
      obtain ⟨b,off,spot⟩:=a'
      have hspot:spot=none:=by simpa [Addr.add] using World.cell?_spot (hf 0 h0)
      subst hspot
      refine ⟨b,off,rfl,by simpa [Addr.add] using cell_lt (hf 0 h0),okNil W b,fun j hj=>?_⟩
      rw [hlen] at hj
      have c0:=hf j (by omega)
      rw [add_plain] at c0
      exact c0
    · intro v hv
      obtain ⟨p,_,rfl⟩:=List.mem_map.1 hv
      rfl
    · intro v hv
      obtain ⟨p,_,rfl⟩:=List.mem_map.1 hv
      rfl
    · intro i v j x hi hj
      have hil:i < len:=by have:=lt_of_get hi; rw [hlen] at this; exact this
      have:v=encI (f i):=by
        rw [List.getElem?_map,List.getElem?_map,List.getElem?_range hil] at hi
        simpa using hi.symm
      subst this
      have hjx:j < 1:=lt_of_get hj
      match j,hjx,hj with
      | 0,_,hj =>
        simp [encI,cellsOf] at hj
        subst hj
        have e1:i * 1+0=i:=by omega
        rw [e1]
        exact V.int _ _
end Go.HL
end
