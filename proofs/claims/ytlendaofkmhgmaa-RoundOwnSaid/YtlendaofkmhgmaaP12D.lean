/- A part of the proof. -/
import Derived.Test.YtlendaofkmhgmaaP12C
set_option linter.unusedVariables false
set_option linter.unusedSimpArgs false
section
open Go Go.HL Go.HL.So
namespace Go.Proofs.Ytlendaofkmhgmaa
theorem countP_lt {p q:Nat → Bool}:∀ {l:List Nat} {a:Nat},(∀ x ∈ l,q x=true → p x=true) → a ∈ l → p a=true → q a=false → l.countP q+1 ≤ l.countP p
  | [],a,_,h,_,_=>by cases h
  | x :: l,a,hm,ha,h1,h2=>by
    have mono:l.countP q ≤ l.countP p:=List.countP_mono_left fun y hy=>hm y (by simp [hy])
    rw [List.countP_cons,List.countP_cons]
    rcases List.mem_cons.1 ha with rfl | ha'
    · rw [h1,h2]; simp; omega
    · have ih:=countP_lt (fun y hy=>hm y (by simp [hy])) ha' h1 h2
      have hx:=hm x (by simp)
      cases hq:q x
      · cases hp:p x <;> simp <;> omega
      · rw [hx hq]; simp; omega
def rootB (g:List Int) (x:Nat):Bool:=decide (1 ≤ x∧g.getD x 0=(x:Int))
def rts (n:Nat) (g:List Int):Nat:=(List.range n).countP (rootB g)
def KInv (n:Nat) (g:List Int):Prop:=g.length=n∧∀ x,x < n → (∃ y:Nat,y < n∧g.getD x 0=(y:Int)∧g.getD y 0=(y:Int))∧(1 ≤ x → 1 ≤ g.getD x 0)
theorem KInv.iota (n:Nat):KInv n (iota n):=⟨iota_len n,fun x hx=>⟨⟨x,hx,iota_at hx,iota_at hx⟩,fun h=>by rw [iota_at hx]; omega⟩⟩
theorem KInv.step {n:Nat} {g:List Int} (h:KInv n g) {a b:Nat} (ha:a < n) (hb:b < n) (h1a:1 ≤ a) (h1b:1 ≤ b) (hne:g.getD a 0 ≠ g.getD b 0) :
    KInv n (rlb (g.getD a 0) (g.getD b 0) g.length 0 g)∧rts n (rlb (g.getD a 0) (g.getD b 0) g.length 0 g)+1 ≤ rts n g:=by
  obtain ⟨hl,h⟩:=h
  obtain ⟨⟨ya,hya,ea,eya⟩,pa⟩:=h a ha
  obtain ⟨⟨yb,hyb,eb,eyb⟩,pb⟩:=h b hb
  have hat:∀ x,x < n → (rlb (g.getD a 0) (g.getD b 0) g.length 0 g).getD x 0=if g.getD x 0=g.getD a 0 then g.getD b 0 else g.getD x 0:=fun x hx=>rlb_at _ _ _ (by omega)
  have hgl:=rlb_len (g.getD a 0) (g.getD b 0) g.length 0 g
  generalize rlb (g.getD a 0) (g.getD b 0) g.length 0 g=g' at hat hgl ⊢
  have pa:=pa h1a
  have pb:=pb h1b
  rw [ea] at hne pa hat
  rw [eb] at hne pb hat
  refine ⟨⟨?_,fun x hx=>?_⟩,?_⟩
  · rw [hgl,hl]
  · obtain ⟨⟨y,hy,e1,e2⟩,p⟩:=h x hx
    rw [hat x hx]
    by_cases c:g.getD x 0=(ya:Int)
    · rw [if_pos c]
      refine ⟨⟨yb,hyb,rfl,?_⟩,fun _=>pb⟩
      rw [hat yb hyb,eyb,if_neg (fun h=>hne h.symm)]
    · rw [if_neg c]
      refine ⟨⟨y,hy,e1,?_⟩,p⟩
      rw [hat y hy,e2,if_neg (by rw [← e1]; exact c)]
  · refine countP_lt (a:=ya) (fun x hx hq=>?_) (List.mem_range.2 hya) (decide_eq_true ⟨by omega,eya⟩) (decide_eq_false fun h=>?_)
    · have hx:=List.mem_range.1 hx
      obtain ⟨h1,h2⟩:=of_decide_eq_true hq
      rw [hat x hx] at h2
      refine decide_eq_true ⟨h1,?_⟩
      by_cases c:g.getD x 0=(ya:Int)
      · rw [if_pos c] at h2
        have:yb=x:=by omega
        subst this
        rw [eyb] at c
        exact absurd c.symm hne
      · rwa [if_neg c] at h2
    · have h2:=h.2
      rw [hat ya hya,if_pos eya] at h2
      exact hne h2.symm
theorem rts_pos {n:Nat} {g:List Int} (h:KInv n g) (hn:2 ≤ n):1 ≤ rts n g:=by
  obtain ⟨⟨y,hy,e1,e2⟩,p⟩:=h.2 1 (by omega)
  have:=countP_lt (p:=rootB g) (q:=fun _=>false) (l:=List.range n) (a:=y) (fun x _ h=>by cases h) (List.mem_range.2 hy) (decide_eq_true ⟨by have:=p (Nat.le_refl 1); omega,e2⟩) rfl
  exact Nat.le_trans (Nat.le_add_left 1 _) this
theorem rts_le {n:Nat} (g:List Int) (hn:1 ≤ n):rts n g+1 ≤ n:=by
  have:=countP_lt (p:=fun _=>true) (q:=rootB g) (l:=List.range n) (a:=0) (fun _ _ _=>rfl) (List.mem_range.2 hn) rfl (decide_eq_false fun h=>by omega)
  rw [show (List.range n).countP (fun _=>true)=n by simp] at this
  exact this
theorem krP_rts {n:Nat} (hn:2 ≤ n):∀ (l:List Ed) (g:List Int),KInv n g → (∀ e ∈ l,(1 ≤ e.2.1.toNat∧e.2.1.toNat < n)∧1 ≤ e.2.2.toNat∧e.2.2.toNat < n) → (krP l g).length+1 ≤ rts n g
  | [],g,h,_=>rts_pos h hn
  | e :: l,g,h,he=>by
    obtain ⟨⟨h1,h2⟩,h3,h4⟩:=he e (by simp)
    have he':=fun x hx=>he x (List.mem_cons_of_mem e hx)
    rw [krP]
    split
    · exact krP_rts hn l g h he'
    · rename_i c
      obtain ⟨k1,k2⟩:=h.step h2 h4 h1 h3 c
      have:=krP_rts hn l _ k1 he'
      rw [List.length_cons]; omega
theorem chosen_n {d:List (List Int)} {p:List Int} (hn:2 ≤ d.length):(chosen d p).length ≤ d.length:=by
  have h1:=krP_rts hn (edg d p 1) (iota d.length) (KInv.iota _) fun e he=>by
    obtain ⟨x,y,h,rfl⟩:=((edg_ok (d:=d) (p:=p) (f:=1) (by omega)).2 e).1 he
    simp only [mkE,Int.toNat_natCast]
    omega
  have h2:=rts_le (n:=d.length) (iota d.length) (by omega)
  have h3:=two2_len (edg d p 0) 0
  unfold chosen treeL
  rw [List.length_append]
  omega
theorem degs_bd {n:Nat} (hn:n ≤ 11):∀ (l:List Ed) (t:List Int) (k:Nat),EIn n l → CtB t k → CtB (l.foldl dstep t) (k+l.length)
  | [],t,k,_,h=>h
  | e :: l,t,k,he,h=>by
    obtain ⟨⟨_,h1⟩,_,h2⟩:=he e (by simp)
    have:=degs_bd hn l (dstep t e) (k+1) (fun x hx=>he x (by simp [hx])) (h.step (by omega) (by omega))
    rw [List.length_cons,show k+(l.length+1)=k+1+l.length by omega]
    exact this
theorem degs_at {d:List (List Int)} {p:List Int} (hd:okD d) (hn:2 ≤ d.length):CtB (degs (chosen d p)) 11:=by
  have hdn:=hd.1
  have h1:=degs_bd (n:=d.length) hdn.2 (chosen d p) _ 0 (chosen_in hd) CtB.zero
  have h2:=chosen_n (p:=p) hn
  refine ⟨h1.1,fun x hx=>?_⟩
  have:=h1.2 x hx
  show 0 ≤ (degs (chosen d p)).getD x 0∧(degs (chosen d p)).getD x 0 ≤ _
  unfold degs
  omega
def cstep (d:List (List Int)) (p:List Int):List Int:=(List.range d.length).map fun i=>p.getD i 0+((degs (chosen d p)).getD i 0 - 2)
def clim (d:List (List Int)):Nat → List Int → List Int → Int → List Int × Int
  | 0,_,b,v=>(b,v)
  | k+1,p,b,v=>clim d k (cstep d p) (if v < boundS d (cstep d p) then cstep d p else b) (if v < boundS d (cstep d p) then boundS d (cstep d p) else v)
def zer (n:Nat):List Int:=List.replicate n 0
def climT (d:List (List Int)) (s:Nat):List Int × Int:=if d.length < 3 then (zer d.length,bndT d (zer d.length)) else clim d s (zer d.length) (zer d.length) (bndT d (zer d.length))
theorem cstep_len (d:List (List Int)) (p:List Int):(cstep d p).length=d.length:=by simp [cstep]
theorem cstep_at {d:List (List Int)} {p:List Int} {i:Nat} (hi:i < d.length):(cstep d p).getD i 0=p.getD i 0+((degs (chosen d p)).getD i 0 - 2):=by
  simp [cstep,List.getD,List.getElem?_map,List.getElem?_range hi]
def PB (n k:Nat) (p:List Int):Prop:=p.length=n∧∀ i,i < n → -2 * (k:Int) ≤ p.getD i 0∧p.getD i 0 ≤ 20 * (k:Int)
theorem PB.zero (n:Nat):PB n 0 (zer n):=⟨by simp [zer],fun i hi=>by
  have:(zer n).getD i 0=0:=by rw [zer,List.getD,List.getElem?_replicate,if_pos hi]; rfl
  rw [this]; omega⟩
theorem PB.step {d:List (List Int)} {p:List Int} {k:Nat} (hd:okD d) (hn:2 ≤ d.length) (h:PB d.length k p):PB d.length (k+1) (cstep d p):=by
  refine ⟨cstep_len d p,fun i hi=>?_⟩
  have hdn:=hd.1
  rw [cstep_at hi]
  have h1:=h.2 i hi
  have h2:=(degs_at (p:=p) hd hn).2 i (by omega)
  omega
theorem PB.ok {n k:Nat} {p:List Int} (h:PB n k p) (hk:k ≤ 200):prOk p:=fun v hv=>by
  obtain ⟨i,hi,rfl⟩:=List.getElem_of_mem hv
  have h2:=h.2 i (by rw [← h.1]; exact hi)
  rw [show p.getD i 0=p[i] by simp [List.getD,List.getElem?_eq_getElem hi]] at h2
  omega
theorem bndT_eq {d:List (List Int)} {p:List Int} (hn:¬ d.length < 3) (hp:p.length=d.length):bndT d p=boundS d p:=by
  unfold bndT
  rw [if_neg hn]
  show sumP (pad p) (sumA (chosen d (pad p)) 0)=sumP p (sumA (chosen d p) 0)
  rw [sumP_pad,chosen_cong (p:=pad p) (p':=p) (by omega) (fun a ha=>pad_get p a (by omega))]
end Go.Proofs.Ytlendaofkmhgmaa
end
section
open Go Go.HL
namespace Go.Proofs.Ytlendaofkmhgmaa
set_option maxRecDepth 100000
open Go.Proofs.Try renaming prog → Tp
open Go.HL.HV renaming undef → Ud
noncomputable def B55:Code:=Try.f55.body.getD .skip
abbrev env55 (v0 v1 v2 v5 v6 v8 v9 v10 v11 v31 v32:HV):Env:=[(0,v0),(1,v1),(2,v2),(5,v5),(6,v6),(8,v8),(9,v9),(10,v10),(11,v11),(31,v31),(32,v32)]
theorem rs_a_0 (N:Nat) (rw:List HV) (mb v w kb:Nat) (H:Heap) (H0:Heap) (g0:some (newV (.agg [.i (v:Int),.i (w:Int)]) H)=some (.ptr kb 0 0 1,H0)):RT polI 55 (sub [0] B55) [(0,.imm .arg 1 rw),(1,.map mb),(2,.agg [.i (v:Int),.i (w:Int)])] H .normal (env55 (.imm .arg 1 rw) (.map mb) (.agg [.i (v:Int),.i (w:Int)]) (.ptr kb 0 0 1) (.i 0) Ud Ud Ud Ud Ud Ud) H0 :=
  RunsTo.hin N 60 [⟨0,0,.ptr kb 0 0 1,H0⟩] fun kf hk=>⟨_,by kernel_rfl,(oC (g0) .nil)⟩
theorem rs_b_0 (N:Nat) (rw:List HV) (mb v w kb:Nat) (H:Heap) (l0:List HV) (x0:Int) (g0:loadV Tp H 3 (.ptr kb 0 1 1)=some (.i (w:Int))) (g1:(w:Int)=0) (g2:loadV Tp H 3 (.ptr kb 0 0 1)=some (.i (v:Int))) (g3:idxV Tp 68 (.imm .arg 1 rw) (.i (v:Int))=some (.vptr (.imm .arg 1 l0))) (g4:idxV Tp 23 (.imm .arg 1 l0) (.i 0)=some (.vptr (.i x0))):RT polI 55 (sub [1,0] B55) (env55 (.imm .arg 1 rw) (.map mb) (.agg [.i (v:Int),.i (w:Int)]) (.ptr kb 0 0 1) (.i 0) Ud Ud Ud Ud Ud Ud) H .ret (env55 (.imm .arg 1 rw) (.map mb) (.agg [.i (v:Int),.i (w:Int)]) (.ptr kb 0 0 1) (.i x0) Ud Ud Ud Ud Ud Ud) H :=
  RunsTo.hin N 60 [⟨1,1,.i (w:Int),H⟩,⟨1,2,.bool true,H⟩,⟨2,2,.i (v:Int),H⟩,⟨2,3,.vptr (.imm .arg 1 l0),H⟩,⟨2,5,.vptr (.i x0),H⟩] fun kf hk=>⟨_,by kernel_rfl,(oP H g0 (oB H (decide_eq_true g1) (oP H g2 (oP H g3 (oP H g4 .nil)))))⟩
theorem rs_b_1 (N:Nat) (rw:List HV) (mb v w kb:Nat) (H:Heap)(g0:loadV Tp H 3 (.ptr kb 0 1 1)=some (.i (w:Int))) (g1:¬ ((w:Int)=0)):RT polI 55 (sub [1,0] B55) (env55 (.imm .arg 1 rw) (.map mb) (.agg [.i (v:Int),.i (w:Int)]) (.ptr kb 0 0 1) (.i 0) Ud Ud Ud Ud Ud Ud) H .normal (env55 (.imm .arg 1 rw) (.map mb) (.agg [.i (v:Int),.i (w:Int)]) (.ptr kb 0 0 1) (.i 0) Ud Ud Ud Ud Ud Ud) H :=
  RunsTo.hin N 60 [⟨1,1,.i (w:Int),H⟩,⟨1,2,.bool false,H⟩] fun kf hk=>⟨_,by kernel_rfl,(oP H g0 (oB H (decide_eq_false g1) .nil))⟩
theorem rs_c_0 (N:Nat) (rw:List HV) (mb v w kb:Nat) (H:Heap) (t0:Int) (g0:loadV Tp H 77 (.ptr kb 0 0 1)=some (.agg [.i (v:Int),.i (w:Int)])) (g1:lkG Tp 82 H mb (.agg [.i (v:Int),.i (w:Int)]) true=some (.tuple [.i t0,.bool true],H)):RT polI 55 (sub [1,1,0,0] B55) (env55 (.imm .arg 1 rw) (.map mb) (.agg [.i (v:Int),.i (w:Int)]) (.ptr kb 0 0 1) (.i 0) Ud Ud Ud Ud Ud Ud) H .normal (env55 (.imm .arg 1 rw) (.map mb) (.agg [.i (v:Int),.i (w:Int)]) (.ptr kb 0 0 1) (.i 0) (.bool true) Ud Ud Ud Ud Ud) H :=
  RunsTo.hin N 60 [⟨3,1,.agg [.i (v:Int),.i (w:Int)],H⟩,⟨3,2,.tuple [.i t0,.bool true],H⟩] fun kf hk=>⟨_,by kernel_rfl,(oP H g0 (oC (g1) .nil))⟩
theorem rs_c_1 (N:Nat) (rw:List HV) (mb v w kb:Nat) (H:Heap)(g0:loadV Tp H 77 (.ptr kb 0 0 1)=some (.agg [.i (v:Int),.i (w:Int)])) (g1:lkG Tp 82 H mb (.agg [.i (v:Int),.i (w:Int)]) true=some (.tuple [.i 0,.bool false],H)):RT polI 55 (sub [1,1,0,0] B55) (env55 (.imm .arg 1 rw) (.map mb) (.agg [.i (v:Int),.i (w:Int)]) (.ptr kb 0 0 1) (.i 0) Ud Ud Ud Ud Ud Ud) H .normal (env55 (.imm .arg 1 rw) (.map mb) (.agg [.i (v:Int),.i (w:Int)]) (.ptr kb 0 0 1) (.i 0) (.bool false) Ud Ud Ud Ud Ud) H :=
  RunsTo.hin N 60 [⟨3,1,.agg [.i (v:Int),.i (w:Int)],H⟩,⟨3,2,.tuple [.i 0,.bool false],H⟩] fun kf hk=>⟨_,by kernel_rfl,(oP H g0 (oC (g1) .nil))⟩
theorem rs_dt_0 (N:Nat) (rw:List HV) (mb v w kb:Nat) (H:Heap):RunsTo Tp polI 55 (sub [1,1,0,1,0] B55) (env55 (.imm .arg 1 rw) (.map mb) (.agg [.i (v:Int),.i (w:Int)]) (.ptr kb 0 0 1) (.i 0) (.bool true) Ud Ud Ud Ud Ud) H .normal [0,1,2,5,6,8,9,10,11,31,32,29] [(0,.imm .arg 1 rw),(1,.map mb),(2,.agg [.i (v:Int),.i (w:Int)]),(5,.ptr kb 0 0 1),(6,.i 0),(8,.bool true),(9,Ud),(10,Ud),(11,Ud),(31,Ud),(32,Ud),(29,.bool false)] H :=
  RunsTo.hin N 60 [] fun kf hk=>⟨_,by kernel_rfl,.nil⟩
theorem rs_df_0 (N:Nat) (rw:List HV) (mb v w kb:Nat) (H:Heap):RunsTo Tp polI 55 (sub [1,1,0,1,0] B55) (env55 (.imm .arg 1 rw) (.map mb) (.agg [.i (v:Int),.i (w:Int)]) (.ptr kb 0 0 1) (.i 0) (.bool false) Ud Ud Ud Ud Ud) H .normal [0,1,2,5,6,8,9,10,11,31,32,29] [(0,.imm .arg 1 rw),(1,.map mb),(2,.agg [.i (v:Int),.i (w:Int)]),(5,.ptr kb 0 0 1),(6,.i 0),(8,.bool false),(9,Ud),(10,Ud),(11,Ud),(31,Ud),(32,Ud),(29,.bool true)] H :=
  RunsTo.hin N 60 [] fun kf hk=>⟨_,by kernel_rfl,.nil⟩
theorem rs_e_0 (N:Nat) (rw:List HV) (mb v w kb:Nat) (H:Heap):RT polI 55 (sub [1,1,0,1,1,0,0] B55) (env55 (.imm .arg 1 rw) (.map mb) (.agg [.i (v:Int),.i (w:Int)]) (.ptr kb 0 0 1) (.i 0) (.bool false) Ud Ud Ud Ud Ud) H .normal (env55 (.imm .arg 1 rw) (.map mb) (.agg [.i (v:Int),.i (w:Int)]) (.ptr kb 0 0 1) (.i 0) (.bool false) (.i (-1)) Ud Ud Ud Ud) H :=
  RunsTo.hin N 60 [] fun kf hk=>⟨_,by kernel_rfl,.nil⟩
theorem rs_f_0 (N:Nat) (rw:List HV) (mb v w kb:Nat) (H:Heap) (mo:Int):RT polI 55 (sub [1,1,0,1,1,0,1,0,0] B55) (env55 (.imm .arg 1 rw) (.map mb) (.agg [.i (v:Int),.i (w:Int)]) (.ptr kb 0 0 1) (.i 0) (.bool false) (.i mo) Ud Ud Ud Ud) H .normal (env55 (.imm .arg 1 rw) (.map mb) (.agg [.i (v:Int),.i (w:Int)]) (.ptr kb 0 0 1) (.i 0) (.bool false) (.i mo) Ud Ud (.i (rw.length:Int)) (.i 0)) H :=
  RunsTo.hin N 60 [] fun kf hk=>⟨_,by kernel_rfl,.nil⟩
theorem rs_l_0 (N:Nat) (rw:List HV) (mb v w kb:Nat) (H:Heap) (mo:Int) (n i:Nat) (h0:Int) (h1:Int) (l0:List HV) (x0:Int) (h2:Int) (h3:Int) (s:Int) (H0:Heap) (g0:(i:Int) < (n:Int)) (g1:loadV Tp H 3 (.ptr kb 0 1 1)=some (.i (w:Int))) (g2:binV Tp .shr 3 (.i (w:Int)) (.i (i:Int))=some (.i h0)) (g3:binV Tp .and 3 (.i h0) (.i 1)=some (.i h1)) (g4:h1=1) (g5:loadV Tp H 3 (.ptr kb 0 0 1)=some (.i (v:Int))) (g6:idxV Tp 68 (.imm .arg 1 rw) (.i (v:Int))=some (.vptr (.imm .arg 1 l0))) (g7:idxV Tp 23 (.imm .arg 1 l0) (.i (i:Int))=some (.vptr (.i x0))) (g8:loadV Tp H 3 (.ptr kb 0 1 1)=some (.i (w:Int))) (g9:binV Tp .shl 3 (.i 1) (.i (i:Int))=some (.i h2)) (g10:binV Tp .andNot 3 (.i (w:Int)) (.i h2)=some (.i h3)) (g11:∀ kf,N ≤ kf → callN Tp polI (kf+1) 55 [.imm .arg 1 rw,.map mb,.agg [.i (i:Int),.i h3]] H=some (.i s,H0)) (gS10:(recL ((loadV Tp H 3 (.ptr kb 0 0 1)).map (fun v=>(v,(H:Heap)))) ((loadV Tp H0 3 (.ptr kb 0 0 1)).map (fun v=>(v,(H0:Heap)))) H H0 && ((same (.imm .arg 1 l0) (.imm .arg 1 l0) && sameH (H:Heap) H && sameH (H0:Heap) H0) && ((same (.i x0) (.i x0) && sameH (H:Heap) H && sameH (H0:Heap) H0) && true)))=true) (g13:mo < 0):RT polI 55 (sub [1,1,0,1,1,0,1,0,1,0,0] B55) (env55 (.imm .arg 1 rw) (.map mb) (.agg [.i (v:Int),.i (w:Int)]) (.ptr kb 0 0 1) (.i 0) Ud (.i mo) Ud Ud (.i (n:Int)) (.i (i:Int))) H .normal (env55 (.imm .arg 1 rw) (.map mb) (.agg [.i (v:Int),.i (w:Int)]) (.ptr kb 0 0 1) (.i 0) Ud (.i (IntKind.i64.wrap (x0+s))) (.i (i:Int)) (.i (IntKind.i64.wrap (x0+s))) (.i (n:Int)) (.i (IntKind.i64.wrap ((i:Int)+1)))) H0 :=
  RunsTo.hin N 60 [⟨7,0,.bool true,H⟩,⟨9,1,.i (w:Int),H⟩,⟨9,3,.i h0,H⟩,⟨9,4,.i h1,H⟩,⟨9,5,.bool true,H⟩,⟨10,2,.i (v:Int),H⟩,⟨10,3,.vptr (.imm .arg 1 l0),H⟩,⟨10,6,.vptr (.i x0),H⟩,⟨10,12,.i (w:Int),H⟩,⟨10,14,.i h2,H⟩,⟨10,15,.i h3,H⟩,⟨10,17,.i s,H0⟩,⟨11,1,.bool true,H0⟩] fun kf hk=>⟨_,by kernel_rfl,(oB H (decide_eq_true g0) (oP H g1 (oP H g2 (oP H g3 (oB H (decide_eq_true g4) (oC (gS10) (oP H g5 (oP H g6 (oP H g7 (oP H g8 (oP H g9 (oP H g10 (oC (g11 kf (by omega)) (oB H0 (decide_eq_true g13) .nil))))))))))))))⟩
theorem rs_l_1 (N:Nat) (rw:List HV) (mb v w kb:Nat) (H:Heap) (mo:Int) (n i:Nat) (h0:Int) (h1:Int) (l0:List HV) (x0:Int) (h2:Int) (h3:Int) (s:Int) (H0:Heap) (g0:(i:Int) < (n:Int)) (g1:loadV Tp H 3 (.ptr kb 0 1 1)=some (.i (w:Int))) (g2:binV Tp .shr 3 (.i (w:Int)) (.i (i:Int))=some (.i h0)) (g3:binV Tp .and 3 (.i h0) (.i 1)=some (.i h1)) (g4:h1=1) (g5:loadV Tp H 3 (.ptr kb 0 0 1)=some (.i (v:Int))) (g6:idxV Tp 68 (.imm .arg 1 rw) (.i (v:Int))=some (.vptr (.imm .arg 1 l0))) (g7:idxV Tp 23 (.imm .arg 1 l0) (.i (i:Int))=some (.vptr (.i x0))) (g8:loadV Tp H 3 (.ptr kb 0 1 1)=some (.i (w:Int))) (g9:binV Tp .shl 3 (.i 1) (.i (i:Int))=some (.i h2)) (g10:binV Tp .andNot 3 (.i (w:Int)) (.i h2)=some (.i h3)) (g11:∀ kf,N ≤ kf → callN Tp polI (kf+1) 55 [.imm .arg 1 rw,.map mb,.agg [.i (i:Int),.i h3]] H=some (.i s,H0)) (gS10:(recL ((loadV Tp H 3 (.ptr kb 0 0 1)).map (fun v=>(v,(H:Heap)))) ((loadV Tp H0 3 (.ptr kb 0 0 1)).map (fun v=>(v,(H0:Heap)))) H H0 && ((same (.imm .arg 1 l0) (.imm .arg 1 l0) && sameH (H:Heap) H && sameH (H0:Heap) H0) && ((same (.i x0) (.i x0) && sameH (H:Heap) H && sameH (H0:Heap) H0) && true)))=true) (g13:¬ (mo < 0)) (g14:IntKind.i64.wrap (x0+s) < mo):RT polI 55 (sub [1,1,0,1,1,0,1,0,1,0,0] B55) (env55 (.imm .arg 1 rw) (.map mb) (.agg [.i (v:Int),.i (w:Int)]) (.ptr kb 0 0 1) (.i 0) Ud (.i mo) Ud Ud (.i (n:Int)) (.i (i:Int))) H .normal (env55 (.imm .arg 1 rw) (.map mb) (.agg [.i (v:Int),.i (w:Int)]) (.ptr kb 0 0 1) (.i 0) Ud (.i (IntKind.i64.wrap (x0+s))) (.i (i:Int)) (.i (IntKind.i64.wrap (x0+s))) (.i (n:Int)) (.i (IntKind.i64.wrap ((i:Int)+1)))) H0 :=
  RunsTo.hin N 60 [⟨7,0,.bool true,H⟩,⟨9,1,.i (w:Int),H⟩,⟨9,3,.i h0,H⟩,⟨9,4,.i h1,H⟩,⟨9,5,.bool true,H⟩,⟨10,2,.i (v:Int),H⟩,⟨10,3,.vptr (.imm .arg 1 l0),H⟩,⟨10,6,.vptr (.i x0),H⟩,⟨10,12,.i (w:Int),H⟩,⟨10,14,.i h2,H⟩,⟨10,15,.i h3,H⟩,⟨10,17,.i s,H0⟩,⟨11,1,.bool false,H0⟩,⟨11,5,.bool true,H0⟩] fun kf hk=>⟨_,by kernel_rfl,(oB H (decide_eq_true g0) (oP H g1 (oP H g2 (oP H g3 (oB H (decide_eq_true g4) (oC (gS10) (oP H g5 (oP H g6 (oP H g7 (oP H g8 (oP H g9 (oP H g10 (oC (g11 kf (by omega)) (oB H0 (decide_eq_false g13) (oB H0 (decide_eq_true g14) .nil)))))))))))))))⟩
theorem rs_l_2 (N:Nat) (rw:List HV) (mb v w kb:Nat) (H:Heap) (mo:Int) (n i:Nat) (h0:Int) (h1:Int) (l0:List HV) (x0:Int) (h2:Int) (h3:Int) (s:Int) (H0:Heap) (g0:(i:Int) < (n:Int)) (g1:loadV Tp H 3 (.ptr kb 0 1 1)=some (.i (w:Int))) (g2:binV Tp .shr 3 (.i (w:Int)) (.i (i:Int))=some (.i h0)) (g3:binV Tp .and 3 (.i h0) (.i 1)=some (.i h1)) (g4:h1=1) (g5:loadV Tp H 3 (.ptr kb 0 0 1)=some (.i (v:Int))) (g6:idxV Tp 68 (.imm .arg 1 rw) (.i (v:Int))=some (.vptr (.imm .arg 1 l0))) (g7:idxV Tp 23 (.imm .arg 1 l0) (.i (i:Int))=some (.vptr (.i x0))) (g8:loadV Tp H 3 (.ptr kb 0 1 1)=some (.i (w:Int))) (g9:binV Tp .shl 3 (.i 1) (.i (i:Int))=some (.i h2)) (g10:binV Tp .andNot 3 (.i (w:Int)) (.i h2)=some (.i h3)) (g11:∀ kf,N ≤ kf → callN Tp polI (kf+1) 55 [.imm .arg 1 rw,.map mb,.agg [.i (i:Int),.i h3]] H=some (.i s,H0)) (gS10:(recL ((loadV Tp H 3 (.ptr kb 0 0 1)).map (fun v=>(v,(H:Heap)))) ((loadV Tp H0 3 (.ptr kb 0 0 1)).map (fun v=>(v,(H0:Heap)))) H H0 && ((same (.imm .arg 1 l0) (.imm .arg 1 l0) && sameH (H:Heap) H && sameH (H0:Heap) H0) && ((same (.i x0) (.i x0) && sameH (H:Heap) H && sameH (H0:Heap) H0) && true)))=true) (g13:¬ (mo < 0)) (g14:¬ (IntKind.i64.wrap (x0+s) < mo)):RT polI 55 (sub [1,1,0,1,1,0,1,0,1,0,0] B55) (env55 (.imm .arg 1 rw) (.map mb) (.agg [.i (v:Int),.i (w:Int)]) (.ptr kb 0 0 1) (.i 0) Ud (.i mo) Ud Ud (.i (n:Int)) (.i (i:Int))) H .normal (env55 (.imm .arg 1 rw) (.map mb) (.agg [.i (v:Int),.i (w:Int)]) (.ptr kb 0 0 1) (.i 0) Ud (.i mo) (.i (i:Int)) (.i (IntKind.i64.wrap (x0+s))) (.i (n:Int)) (.i (IntKind.i64.wrap ((i:Int)+1)))) H0 :=
  RunsTo.hin N 60 [⟨7,0,.bool true,H⟩,⟨9,1,.i (w:Int),H⟩,⟨9,3,.i h0,H⟩,⟨9,4,.i h1,H⟩,⟨9,5,.bool true,H⟩,⟨10,2,.i (v:Int),H⟩,⟨10,3,.vptr (.imm .arg 1 l0),H⟩,⟨10,6,.vptr (.i x0),H⟩,⟨10,12,.i (w:Int),H⟩,⟨10,14,.i h2,H⟩,⟨10,15,.i h3,H⟩,⟨10,17,.i s,H0⟩,⟨11,1,.bool false,H0⟩,⟨11,5,.bool false,H0⟩] fun kf hk=>⟨_,by kernel_rfl,(oB H (decide_eq_true g0) (oP H g1 (oP H g2 (oP H g3 (oB H (decide_eq_true g4) (oC (gS10) (oP H g5 (oP H g6 (oP H g7 (oP H g8 (oP H g9 (oP H g10 (oC (g11 kf (by omega)) (oB H0 (decide_eq_false g13) (oB H0 (decide_eq_false g14) .nil)))))))))))))))⟩
theorem rs_l_3 (N:Nat) (rw:List HV) (mb v w kb:Nat) (H:Heap) (mo:Int) (n i:Nat) (h0:Int) (h1:Int) (g0:(i:Int) < (n:Int)) (g1:loadV Tp H 3 (.ptr kb 0 1 1)=some (.i (w:Int))) (g2:binV Tp .shr 3 (.i (w:Int)) (.i (i:Int))=some (.i h0)) (g3:binV Tp .and 3 (.i h0) (.i 1)=some (.i h1)) (g4:¬ (h1=1)):RT polI 55 (sub [1,1,0,1,1,0,1,0,1,0,0] B55) (env55 (.imm .arg 1 rw) (.map mb) (.agg [.i (v:Int),.i (w:Int)]) (.ptr kb 0 0 1) (.i 0) Ud (.i mo) Ud Ud (.i (n:Int)) (.i (i:Int))) H .normal (env55 (.imm .arg 1 rw) (.map mb) (.agg [.i (v:Int),.i (w:Int)]) (.ptr kb 0 0 1) (.i 0) Ud (.i mo) (.i (i:Int)) Ud (.i (n:Int)) (.i (IntKind.i64.wrap ((i:Int)+1)))) H :=
  RunsTo.hin N 60 [⟨7,0,.bool true,H⟩,⟨9,1,.i (w:Int),H⟩,⟨9,3,.i h0,H⟩,⟨9,4,.i h1,H⟩,⟨9,5,.bool false,H⟩] fun kf hk=>⟨_,by kernel_rfl,(oB H (decide_eq_true g0) (oP H g1 (oP H g2 (oP H g3 (oB H (decide_eq_false g4) .nil)))))⟩
theorem rs_l_4 (N:Nat) (rw:List HV) (mb v w kb:Nat) (H:Heap) (mo:Int) (n i:Nat)(g0:¬ ((i:Int) < (n:Int))):RT polI 55 (sub [1,1,0,1,1,0,1,0,1,0,0] B55) (env55 (.imm .arg 1 rw) (.map mb) (.agg [.i (v:Int),.i (w:Int)]) (.ptr kb 0 0 1) (.i 0) Ud (.i mo) Ud Ud (.i (n:Int)) (.i (i:Int))) H (.exit 0) (env55 (.imm .arg 1 rw) (.map mb) (.agg [.i (v:Int),.i (w:Int)]) (.ptr kb 0 0 1) (.i 0) Ud (.i mo) Ud Ud (.i (n:Int)) (.i (i:Int))) H :=
  RunsTo.hin N 60 [⟨7,0,.bool false,H⟩] fun kf hk=>⟨_,by kernel_rfl,(oB H (decide_eq_false g0) .nil)⟩
theorem rs_g_0 (N:Nat) (rw:List HV) (mb v w kb:Nat) (H:Heap) (mo:Int) (n i:Nat) (y10 y11:HV) (H0:Heap) (g0:loadV Tp H 77 (.ptr kb 0 0 1)=some (.agg [.i (v:Int),.i (w:Int)])) (g1:updV Tp false 82 (.map mb) (.agg [.i (v:Int),.i (w:Int)]) (.i mo) H=some H0):RT polI 55 (sub [1,1,0,1,1,0,1,1] B55) (env55 (.imm .arg 1 rw) (.map mb) (.agg [.i (v:Int),.i (w:Int)]) (.ptr kb 0 0 1) (.i 0) Ud (.i mo) y10 y11 (.i (n:Int)) (.i (i:Int))) H .normal (env55 (.imm .arg 1 rw) (.map mb) (.agg [.i (v:Int),.i (w:Int)]) (.ptr kb 0 0 1) (.i 0) Ud (.i mo) y10 y11 (.i (n:Int)) (.i (i:Int))) H0 :=
  RunsTo.hin N 60 [⟨14,1,.agg [.i (v:Int),.i (w:Int)],H⟩,⟨14,3,.tuple [],H0⟩] fun kf hk=>⟨_,by kernel_rfl,(oP H g0 (oS g1 .nil))⟩
theorem rs_z_0 (N:Nat) (rw:List HV) (mb v w kb:Nat) (H:Heap) (y8 y9 y10 y11 y31 y32:HV) (t0:Int) (g0:loadV Tp H 77 (.ptr kb 0 0 1)=some (.agg [.i (v:Int),.i (w:Int)])) (g1:lkG Tp 82 H mb (.agg [.i (v:Int),.i (w:Int)]) false=some (.i t0,H)):RT polI 55 (sub [1,1,1] B55) (env55 (.imm .arg 1 rw) (.map mb) (.agg [.i (v:Int),.i (w:Int)]) (.ptr kb 0 0 1) (.i 0) y8 y9 y10 y11 y31 y32) H .ret (env55 (.imm .arg 1 rw) (.map mb) (.agg [.i (v:Int),.i (w:Int)]) (.ptr kb 0 0 1) (.i t0) y8 y9 y10 y11 y31 y32) H :=
  RunsTo.hin N 60 [⟨15,1,.agg [.i (v:Int),.i (w:Int)],H⟩,⟨15,2,.i t0,H⟩] fun kf hk=>⟨_,by kernel_rfl,(oP H g0 (oC (g1) .nil))⟩
end Go.Proofs.Ytlendaofkmhgmaa
end
section
open Go Go.HL
namespace Go.Proofs.Ytlendaofkmhgmaa
open Go.Proofs.Try renaming prog → Tp
open Go.HL.HV renaming undef → Ud
theorem res55:Try.f55.results.toList=[.tmp 6]:=by kernel_rfl
abbrev ClI (g:FuncId) (args:List HV) (H:Heap) (r:HV) (H':Heap):Prop:=CallsTo (P:=Tp) (pol:=polI) g args H r H'
def RsOk (d:List (List Int)) (v w:Nat):Prop:=∀ H,Mem (rsT d) H → ∃ H',ClI 55 [.imm .arg 1 (d.map encR),.map 0,.agg [.int .i64 (v:Int),.int .i64 (w:Int)]] H (.int .i64 (rsT d v w)) H'∧Mem (rsT d) H'∧Fr H H'
section
variable {d:List (List Int)}
theorem g68 {v:Nat} (hv:v < d.length):idxV Tp 68 (.imm .arg 1 (d.map encR)) (.int .i64 (v:Int))=some (.vptr (.imm .arg 1 ((d.getD v []).map encI))):=by
  exact gm (R:=d) (y:=(v:Int)) (Int.natCast_nonneg v) hv
theorem g22 {v:Nat} (hv:v < d.length):idxV Tp 22 (.imm .arg 1 (d.map encR)) (.int .i64 (v:Int))=some (.vptr (.imm .arg 1 ((d.getD v []).map encI))):=gr hv
theorem g23 (h:okD d) {v u:Nat} (hv:v < d.length) (hu:u < d.length):idxV Tp 23 (.imm .arg 1 ((d.getD v []).map encI)) (.int .i64 (u:Int))=some (.vptr (.int .i64 (at2 d v u))):=gx (by rw [h.2.1 v hv]; exact hu)
abbrev rsE (d:List (List Int)) (v w kb:Nat) (y8 y9 y10 y11 y31 y32:HV):Env:=env55 (.imm .arg 1 (d.map encR)) (.map 0) (.agg [.int .i64 (v:Int),.int .i64 (w:Int)]) (.ptr kb 0 0 1) (.int .i64 0) y8 y9 y10 y11 y31 y32
theorem rs_loop (hd:okD d) {v w kb:Nat} (hv:v < d.length) (hw:w < 2 ^ d.length) (hR:∀ u,w.testBit u=true → RsOk d u (wo w u)) (hkb:kb ≠ 0) :
    ∀ k i mo H,i+k=d.length → Mem (rsT d) H → H[kb]?=some (boxK v w) →
    ∃ H',RunsTo Tp polI 55 (sub [1,1,0,1,1,0,1,0,1,0] B55) (rsE d v w kb Ud (.int .i64 mo) Ud Ud (.int .i64 (d.length:Int)) (.int .i64 (i:Int))) H
      (.exit 0) (polI.keys 55) (rsE d v w kb Ud (.int .i64 (lst (fun u=>at2 d v u+rsT d u (wo w u)) w k i mo)) Ud Ud (.int .i64 (d.length:Int)) (.int .i64 (d.length:Int))) H'∧Mem (rsT d) H'∧Fr H H':=by
  have hp:=pow_le hd.1.2
  have hn:=hd.1.2
  intro k
  induction k with
  | zero =>
    intro i mo H hi hM hK
    have hi:i=d.length:=by omega
    subst hi
    exact ⟨H,lpo (rs_l_4 0 (d.map encR) 0 v w kb H mo d.length d.length (by omega)),hM,Fr.refl _⟩
  | succ k ih =>
    intro i mo H hi hM hK
    rw [lst]
    by_cases c:w.testBit i=true
    · obtain ⟨H1,hcl,hM1,hF⟩:=hR i c H hM
      obtain ⟨N,hN⟩:=CallsTo.from hcl
      have b1:=hd.at hv (j:=i) (by omega)
      have b2:=wo_lt c
      have b3:=rsT_bnd hd (s:=i) (L:=wo w i) (by omega) (by omega)
      have hwr:IntKind.i64.wrap (at2 d v i+rsT d i (wo w i))=at2 d v i+rsT d i (wo w i):=wrap_id (by omega) (by omega)
      have l1:=ld_k0 hK
      have l2:loadV Tp H1 3 (.ptr kb 0 0 1)=some (.int .i64 (v:Int)):=ld_k0 (by rw [hF.same _ hkb]; exact hK)
      have gS:(recL ((loadV Tp H 3 (.ptr kb 0 0 1)).map (fun v=>(v,(H:Heap)))) ((loadV Tp H1 3 (.ptr kb 0 0 1)).map (fun v=>(v,(H1:Heap)))) H H1 && ((same (.imm .arg 1 ((d.getD v []).map encI)) (.imm .arg 1 ((d.getD v []).map encI)) && sameH (H:Heap) H && sameH (H1:Heap) H1) && ((same (.int .i64 (at2 d v i)) (.int .i64 (at2 d v i)) && sameH (H:Heap) H && sameH (H1:Heap) H1) && true)))=true:=by
        rw [l1,l2]
        simp only [Option.map,recL,hM.rf,hM1.rf,same_imm]
        simp [same]
      obtain ⟨H',r,hM',hF'⟩:=ih (i+1) (if w.testBit i then (if mo < 0 ∨ (at2 d v i+rsT d i (wo w i)) < mo then at2 d v i+rsT d i (wo w i) else mo) else mo) H1 (by omega) hM1 (by rw [hF.same _ hkb]; exact hK)
      have done:RT polI 55 (sub [1,1,0,1,1,0,1,0,1,0,0] B55) (rsE d v w kb Ud (.int .i64 mo) Ud Ud (.int .i64 (d.length:Int)) (.int .i64 (i:Int))) H .normal
          (rsE d v w kb Ud (.int .i64 (if w.testBit i then (if mo < 0 ∨ (at2 d v i+rsT d i (wo w i)) < mo then at2 d v i+rsT d i (wo w i) else mo) else mo)) (.int .i64 (i:Int)) (.int .i64 (at2 d v i+rsT d i (wo w i))) (.int .i64 (d.length:Int)) (.int .i64 ((i+1:Nat):Int))) H1:=by
        rw [if_pos c]
        have bs:=bo_shr (L:=w) (v:=i) (by omega)
        have ba:=bo_and (L:=w) (v:=i) (by omega) (by omega)
        rw [if_pos c] at ba
        have bl:=bo_shl (v:=i) (by omega)
        have bn:=bo_andn (L:=w) (v:=i) (by omega) (by omega)
        by_cases c1:mo < 0
        · have s:=rs_l_0 N (d.map encR) 0 v w kb H mo d.length i _ _ _ _ _ _ _ H1 (by omega) (ld_k1 hK) bs ba rfl l1 (g68 hv) (g23 hd hv (by omega)) (ld_k1 hK) bl bn hN gS c1
          rw [hwr,wrap_succ (by omega)] at s
          rw [if_pos (.inl c1)]; exact s
        · by_cases c2:(at2 d v i+rsT d i (wo w i)) < mo
          · have s:=rs_l_1 N (d.map encR) 0 v w kb H mo d.length i _ _ _ _ _ _ _ H1 (by omega) (ld_k1 hK) bs ba rfl l1 (g68 hv) (g23 hd hv (by omega)) (ld_k1 hK) bl bn hN gS c1 (by rw [hwr]; exact c2)
            rw [hwr,wrap_succ (by omega)] at s
            rw [if_pos (.inr c2)]; exact s
          · have s:=rs_l_2 N (d.map encR) 0 v w kb H mo d.length i _ _ _ _ _ _ _ H1 (by omega) (ld_k1 hK) bs ba rfl l1 (g68 hv) (g23 hd hv (by omega)) (ld_k1 hK) bl bn hN gS c1 (by rw [hwr]; exact c2)
            rw [hwr,wrap_succ (by omega)] at s
            rw [if_neg (by omega)]; exact s
      exact ⟨H',lop done (gc_eq _ hF.len) r,hM',hF.trans hF'⟩
    · have bs:=bo_shr (L:=w) (v:=i) (by omega)
      have ba:=bo_and (L:=w) (v:=i) (by omega) (by omega)
      rw [if_neg c] at ba
      have s:=rs_l_3 0 (d.map encR) 0 v w kb H mo d.length i _ _ (by omega) (ld_k1 hK) bs ba (by omega)
      rw [wrap_succ (by omega)] at s
      rw [if_neg c]
      obtain ⟨H',r,hM',hF'⟩:=ih (i+1) mo H (by omega) hM hK
      exact ⟨H',lop s (gc_eq _ rfl) r,hM',hF'⟩
theorem rs_step (hd:okD d) {v w:Nat} (hv:v < d.length) (hw:w < 2 ^ d.length) (hR:∀ u,w.testBit u=true → RsOk d u (wo w u)):RsOk d v w:=by
  intro H hM
  have hp:=pow_le hd.1.2
  have hn:=hd.1
  have h0:=hM.pos
  have a:=rs_a_0 0 (d.map encR) 0 v w H.length H _ (by rw [show (HV.agg [.i (v:Int),.i (w:Int)])=encP ((v:Int),(w:Int)) from rfl,new_k])
  have hMa:Mem (rsT d) (H ++ [boxK v w]):=hM.app (same_box _ _) rfl
  have hla:(H ++ [boxK (v:Int) w]).length=H.length+1:=by simp
  have hlow:∀ j,j < H.length → (H ++ [boxK (v:Int) w])[j]?=H[j]?:=fun j hj=>List.getElem?_append_left hj
  have gK:(H ++ [boxK (v:Int) w])[H.length]?=some (boxK v w):=by
    rw [List.getElem?_append_right (Nat.le_refl _)]; simp
  generalize H ++ [boxK (v:Int) w]=Ha at a hMa hla hlow gK
  have done:∀ (E:Env) (Hd:Heap),RT polI 55 (sub [1] B55) (rsE d v w H.length Ud Ud Ud Ud Ud Ud) Ha .ret E Hd → E.get 6=.i (rsT d v w) → Mem (rsT d) Hd → Fr Ha Hd →
      ∃ H',ClI 55 [.imm .arg 1 (d.map encR),.map 0,.agg [.i (v:Int),.i (w:Int)]] H (.i (rsT d v w)) H'∧Mem (rsT d) H'∧Fr H H':=by
    intro E Hd t h6 hMd hFd
    have t2:=sq a t (c:=B55)
    have hc:=CallsTo.shared (P:=Tp) (pol:=polI) (g:=55) (fn:=Try.f55) (cd:=B55) (args:=[.imm .arg 1 (d.map encR),.map 0,.agg [.i (v:Int),.i (w:Int)]]) (v:=.i (rsT d v w)) (by kernel_rfl) (by kernel_rfl) (by kernel_rfl) (by kernel_rfl) t2 (by kernel_rfl) (by simp) (by simp only [resultsV,res55,mapO,resultV,h6])
    rw [hMd.gc] at hc
    have e:max H.length (bnd (.i (rsT d v w)))=H.length:=by simp [bnd]
    rw [e] at hc
    refine ⟨_,hc,hMd.take h0,by rw [List.length_take,hFd.len]; omega,fun k hk=>?_⟩
    rw [List.getElem?_take]
    split
    · rename_i hl
      rw [hFd.same k hk,hlow k hl]
    · rename_i hl
      rw [List.getElem?_eq_none (by omega)]
  by_cases cw:w=0
  · subst cw
    have b:=rs_b_0 0 (d.map encR) 0 v 0 H.length Ha _ _ (ld_k1 gK) rfl (ld_k0 gK) (g68 hv) (g23 hd hv (u:=0) (by omega))
    exact done _ _ (sqo b (c:=sub [1] B55) (b:=sub [1,1] B55)) rfl hMa (Fr.refl _)
  · have b:=rs_b_1 0 (d.map encR) 0 v w H.length Ha (ld_k1 gK) (by omega)
    have up:∀ (E:Env) (Hd:Heap),RT polI 55 (sub [1,1] B55) (rsE d v w H.length Ud Ud Ud Ud Ud Ud) Ha .ret E Hd → RT polI 55 (sub [1] B55) (rsE d v w H.length Ud Ud Ud Ud Ud Ud) Ha .ret E Hd:=fun E Hd t=>sq b t (c:=sub [1] B55)
    obtain ⟨bb,hl1,hl2⟩:=hMa.lk ((v:Int),(w:Int))
    simp only [Int.toNat_natCast] at hl1 hl2
    cases bb with
    | true =>
      have c:=rs_c_0 0 (d.map encR) 0 v w H.length Ha _ (ld_k gK) hl1
      have e:=rs_dt_0 0 (d.map encR) 0 v w H.length Ha
      have z:=rs_z_0 0 (d.map encR) 0 v w H.length Ha (.bool true) Ud Ud Ud Ud Ud (rsT d v w) (ld_k gK) (hl2 rfl)
      have sk:RT polI 55 (sub [1,1,0,1,1,1] B55) (rsE d v w H.length (.bool true) Ud Ud Ud Ud Ud) Ha .normal (rsE d v w H.length (.bool true) Ud Ud Ud Ud Ud) Ha:=RunsTo.hint 1 60 [] fun kf hk=>by
        obtain ⟨kf,rfl⟩:∃ n,kf=n+1:=⟨kf - 1,by omega⟩
        exact ⟨[],by kernel_rfl,Obls.nil⟩
      have t1:=sq e (RunsTo.cond (y:=.tmp 29) (t:=false) (c:=sub [1,1,0,1,1] B55) (a:=sub [1,1,0,1,1,0] B55) (b:=sub [1,1,0,1,1,1] B55) (by kernel_rfl) rfl sk) (c:=sub [1,1,0,1] B55)
      have t2:=sq (sq c t1 (c:=sub [1,1,0] B55)) z (c:=sub [1,1] B55)
      exact done _ _ (up _ _ t2) rfl hMa (Fr.refl _)
    | false =>
      have c:=rs_c_1 0 (d.map encR) 0 v w H.length Ha (ld_k gK) hl1
      have e:=rs_df_0 0 (d.map encR) 0 v w H.length Ha
      have f:=rs_e_0 0 (d.map encR) 0 v w H.length Ha
      have g:=rs_f_0 0 (d.map encR) 0 v w H.length Ha (-1)
      rw [List.length_map] at g
      obtain ⟨Hc,rl,hMc,hFc⟩:=rs_loop hd hv hw hR (kb:=H.length) (by omega) d.length 0 (-1) Ha (by omega) hMa gK
      rw [← rsT_step d v cw] at rl
      have gKc:Hc[H.length]?=some (boxK v w):=by rw [hFc.same _ (by omega)]; exact gK
      obtain ⟨Hd,hu,hMd,hFd,hlk⟩:=hMc.upd ((v:Int),(w:Int))
      have gKd:Hd[H.length]?=some (boxK v w):=by rw [hFd.same _ (by omega)]; exact gKc
      have m:=rs_g_0 0 (d.map encR) 0 v w H.length Hc (rsT d v w) d.length d.length Ud Ud Hd (ld_k gKc) hu
      have z:=rs_z_0 0 (d.map encR) 0 v w H.length Hd Ud (.i (rsT d v w)) Ud Ud (.i (d.length:Int)) (.i (d.length:Int)) (rsT d v w) (ld_k gKd) hlk
      have rl':=lpi (e0:=rsE d v w H.length (.bool false) (.i (-1)) Ud Ud (.i (d.length:Int)) (.i 0)) rl (b:=sub [1,1,0,1,1,0,1,0,1,0,0] B55)
      have t1:=sq g (bke (c:=sub [1,1,0,1,1,0,1,0,1] B55) rl') (c:=sub [1,1,0,1,1,0,1,0] B55)
      have t2:=sq t1 m (c:=sub [1,1,0,1,1,0,1] B55)
      have t3:=sq f t2 (c:=sub [1,1,0,1,1,0] B55)
      have t4:=sq e (RunsTo.cond (y:=.tmp 29) (t:=true) (c:=sub [1,1,0,1,1] B55) (a:=sub [1,1,0,1,1,0] B55) (b:=sub [1,1,0,1,1,1] B55) (by kernel_rfl) rfl t3) (c:=sub [1,1,0,1] B55)
      have t5:=sq (sq c t4 (c:=sub [1,1,0] B55)) z (c:=sub [1,1] B55)
      exact done _ _ (up _ _ t5) rfl hMd (hFc.trans hFd)
theorem rs_call (hd:okD d):∀ (k v w:Nat),w ≤ k → v < d.length → w < 2 ^ d.length → RsOk d v w:=by
  intro k
  induction k with
  | zero =>
    intro v w hk hv hw
    have:w=0:=by omega
    subst this
    exact rs_step hd hv hw fun u hu=>by simp at hu
  | succ k ih =>
    intro v w hk hv hw
    refine rs_step hd hv hw fun u hu=>?_
    have:=wo_lt hu
    exact ih u (wo w u) (by omega) (bit_lt hw hu) (by omega)
end
end Go.Proofs.Ytlendaofkmhgmaa
end
section
open Go Go.HL
namespace Go.Proofs.Ytlendaofkmhgmaa
set_option maxRecDepth 100000
open Go.Proofs.Try renaming prog → Tp
open Go.HL.HV renaming undef → Ud
noncomputable def B29:Code:=Try.f29.body.getD .skip
abbrev env29 (v0 v2 v3 v4 v5 v6 v7 v8 v9 v10 v29 v30:HV):Env:=[(0,v0),(2,v2),(3,v3),(4,v4),(5,v5),(6,v6),(7,v7),(8,v8),(9,v9),(10,v10),(29,v29),(30,v30)]
theorem bs_a_0 (N:Nat) (rw:List HV):RT polI 29 (sub [0] B29) [(0,.imm .arg 1 rw)] [] .normal (env29 (.imm .arg 1 rw) (.imm .lit 1 []) (.i 0) (.i 0) Ud Ud Ud Ud Ud Ud Ud Ud) [] :=
  RunsTo.hin N 60 [] fun kf hk=>⟨_,by kernel_rfl,.nil⟩
theorem bs_b_0 (N:Nat) (rw:List HV)(g0:∀ kf,callN Tp polI (kf+1) 46 [.imm .arg 1 rw] []=some (.bool true,[])):RT polI 29 (sub [1,0] B29) (env29 (.imm .arg 1 rw) (.imm .lit 1 []) (.i 0) (.i 0) Ud Ud Ud Ud Ud Ud Ud Ud) [] .normal (env29 (.imm .arg 1 rw) (.imm .lit 1 []) (.i 0) (.i 0) Ud Ud Ud Ud Ud Ud Ud Ud) [] :=
  RunsTo.hin N 60 [⟨1,1,.bool true,[]⟩] fun kf hk=>⟨_,by kernel_rfl,(oC (g0 kf) .nil)⟩
theorem bs_b_1 (N:Nat) (rw:List HV)(g0:∀ kf,callN Tp polI (kf+1) 46 [.imm .arg 1 rw] []=some (.bool false,[])):RT polI 29 (sub [1,0] B29) (env29 (.imm .arg 1 rw) (.imm .lit 1 []) (.i 0) (.i 0) Ud Ud Ud Ud Ud Ud Ud Ud) [] .ret (env29 (.imm .arg 1 rw) (.imm .lit 1 []) (.i 0) (.i 2) Ud Ud Ud Ud Ud Ud Ud Ud) [] :=
  RunsTo.hin N 60 [⟨1,1,.bool false,[]⟩] fun kf hk=>⟨_,by kernel_rfl,(oC (g0 kf) .nil)⟩
theorem bs_c_0 (N:Nat) (rw:List HV) (H:Heap) (H0:Heap) (g0:some (HV.map H.length,H ++ [Blk.map [] [] 0])=some (.map 0,H0)):RT polI 29 (sub [1,1,0] B29) (env29 (.imm .arg 1 rw) (.imm .lit 1 []) (.i 0) (.i 0) Ud Ud Ud Ud Ud Ud Ud Ud) H .normal (env29 (.imm .arg 1 rw) (.imm .lit 1 []) (.i 0) (.i 0) (.map 0) Ud Ud Ud Ud Ud Ud Ud) H0 :=
  RunsTo.hin N 60 [⟨3,0,.map 0,H0⟩] fun kf hk=>⟨_,by kernel_rfl,(oC (g0) .nil)⟩
theorem bs_d_0 (N:Nat) (rw:List HV) (H:Heap) (h0:Int) (H0:Heap) (H1:Heap) (g0:binV Tp .shl 3 (.i 1) (.i (rw.length:Int))=some (.i h0)) (g1:some (newV (.agg [.i 0,.i 0]) H)=some (.ptr 1 0 0 1,H0)) (g2:storeV Tp H0 77 (.ptr 1 0 0 1) (.agg [.i 0,.i (IntKind.i64.wrap (h0 - 2))])=some H1):RT polI 29 (sub [1,1,1,0] B29) (env29 (.imm .arg 1 rw) (.imm .lit 1 []) (.i 0) (.i 0) (.map 0) Ud Ud Ud Ud Ud Ud Ud) H .normal (env29 (.imm .arg 1 rw) (.imm .lit 1 []) (.i 0) (.i 0) (.map 0) (.ptr 1 0 0 1) Ud Ud Ud Ud Ud Ud) H1 :=
  RunsTo.hin N 60 [⟨4,2,.i h0,H⟩,⟨4,5,.ptr 1 0 0 1,H0⟩,⟨4,6,.tuple [],H1⟩] fun kf hk=>⟨_,by kernel_rfl,(oP H g0 (oC (g1) (oS g2 .nil)))⟩
theorem bs_e_0 (N:Nat) (rw:List HV) (tv:HV) (H:Heap) (H0:Heap) (g0:litV Tp true true 23 1 [(0,.i 0)] H=some (tv,H0)):RT polI 29 (sub [1,1,1,1,0] B29) (env29 (.imm .arg 1 rw) (.imm .lit 1 []) (.i 0) (.i 0) (.map 0) (.ptr 1 0 0 1) Ud Ud Ud Ud Ud Ud) H .normal (env29 (.imm .arg 1 rw) (.imm .lit 1 []) (.i 0) (.i 0) (.map 0) (.ptr 1 0 0 1) tv Ud Ud Ud Ud Ud) H0 :=
  RunsTo.hin N 60 [⟨5,0,tv,H0⟩] fun kf hk=>⟨_,by kernel_rfl,(oC (g0) .nil)⟩
theorem bs_f_0 (N:Nat) (rw:List HV) (tv:HV) (v w:Nat) (H:Heap)(g0:loadV Tp H 3 (.ptr 1 0 1 1)=some (.i (w:Int))) (g1:0 < (w:Int)):RT polI 29 (sub [1,1,1,1,1,0,0,0,0] B29) (env29 (.imm .arg 1 rw) (.imm .lit 1 []) (.i 0) (.i 0) (.map 0) (.ptr 1 0 0 1) tv Ud Ud Ud Ud Ud) H .normal (env29 (.imm .arg 1 rw) (.imm .lit 1 []) (.i 0) (.i 0) (.map 0) (.ptr 1 0 0 1) tv Ud Ud Ud Ud Ud) H :=
  RunsTo.hin N 60 [⟨6,1,.i (w:Int),H⟩,⟨6,2,.bool true,H⟩] fun kf hk=>⟨_,by kernel_rfl,(oP H g0 (oB H (decide_eq_true g1) .nil))⟩
theorem bs_f_1 (N:Nat) (rw:List HV) (tv:HV) (v w:Nat) (H:Heap)(g0:loadV Tp H 3 (.ptr 1 0 1 1)=some (.i (w:Int))) (g1:¬ (0 < (w:Int))):RT polI 29 (sub [1,1,1,1,1,0,0,0,0] B29) (env29 (.imm .arg 1 rw) (.imm .lit 1 []) (.i 0) (.i 0) (.map 0) (.ptr 1 0 0 1) tv Ud Ud Ud Ud Ud) H (.exit 0) (env29 (.imm .arg 1 rw) (.imm .lit 1 []) (.i 0) (.i 0) (.map 0) (.ptr 1 0 0 1) tv Ud Ud Ud Ud Ud) H :=
  RunsTo.hin N 60 [⟨6,1,.i (w:Int),H⟩,⟨6,2,.bool false,H⟩] fun kf hk=>⟨_,by kernel_rfl,(oP H g0 (oB H (decide_eq_false g1) .nil))⟩
theorem bs_g_0 (N:Nat) (rw:List HV) (tv:HV) (v w:Nat) (H:Heap) (s:Int) (H0:Heap) (g0:loadV Tp H 77 (.ptr 1 0 0 1)=some (.agg [.i (v:Int),.i (w:Int)])) (g1:∀ kf,N ≤ kf → callN Tp polI (kf+1) 55 [.imm .arg 1 rw,.map 0,.agg [.i (v:Int),.i (w:Int)]] H=some (.i s,H0)):RT polI 29 (sub [1,1,1,1,1,0,0,0,1,0,0] B29) (env29 (.imm .arg 1 rw) (.imm .lit 1 []) (.i 0) (.i 0) (.map 0) (.ptr 1 0 0 1) tv Ud Ud Ud Ud Ud) H .normal (env29 (.imm .arg 1 rw) (.imm .lit 1 []) (.i 0) (.i 0) (.map 0) (.ptr 1 0 0 1) tv (.i s) Ud Ud Ud Ud) H0 :=
  RunsTo.hin N 60 [⟨7,2,.agg [.i (v:Int),.i (w:Int)],H⟩,⟨7,3,.i s,H0⟩] fun kf hk=>⟨_,by kernel_rfl,(oP H g0 (oC (g1 kf (by omega)) .nil))⟩
theorem bs_h_0 (N:Nat) (rw:List HV) (tv:HV) (v w:Nat) (H:Heap) (mo:Int):RT polI 29 (sub [1,1,1,1,1,0,0,0,1,0,1,0] B29) (env29 (.imm .arg 1 rw) (.imm .lit 1 []) (.i 0) (.i 0) (.map 0) (.ptr 1 0 0 1) tv (.i mo) Ud Ud Ud Ud) H .normal (env29 (.imm .arg 1 rw) (.imm .lit 1 []) (.i 0) (.i 0) (.map 0) (.ptr 1 0 0 1) tv (.i mo) Ud Ud (.i (rw.length:Int)) (.i 0)) H :=
  RunsTo.hin N 60 [] fun kf hk=>⟨_,by kernel_rfl,.nil⟩
theorem bs_l_0 (N:Nat) (rw:List HV) (tv:HV) (v w:Nat) (H:Heap) (mo:Int) (n i:Nat) (nb:Nat) (w2:Int) (h0:Int) (h1:Int) (H0:Heap) (H1:Heap) (g0:(i:Int) < (n:Int)) (g1:loadV Tp H 3 (.ptr 1 0 1 1)=some (.i (w:Int))) (g2:binV Tp .shl 3 (.i 1) (.i (i:Int))=some (.i h0)) (g3:binV Tp .andNot 3 (.i (w:Int)) (.i h0)=some (.i h1)) (g4:some (newV (.agg [.i 0,.i 0]) H)=some (.ptr nb 0 0 1,H0)) (g5:storeV Tp H0 77 (.ptr nb 0 0 1) (.agg [.i (i:Int),.i h1])=some H1) (gS11:(recL ((loadV Tp H 3 (.ptr 1 0 1 1)).map (fun v=>(v,(H:Heap)))) ((loadV Tp H0 3 (.ptr 1 0 1 1)).map (fun v=>(v,(H0:Heap)))) H H0 && true)=true) (g7:loadV Tp H1 3 (.ptr 1 0 1 1)=some (.i (w:Int))) (g8:loadV Tp H1 3 (.ptr nb 0 1 1)=some (.i w2)) (g9:(w:Int)=w2) (gS12:(true && (true && (true && true)))=true):RT polI 29 (sub [1,1,1,1,1,0,0,0,1,0,1,1,0,0] B29) (env29 (.imm .arg 1 rw) (.imm .lit 1 []) (.i 0) (.i 0) (.map 0) (.ptr 1 0 0 1) tv (.i mo) Ud Ud (.i (n:Int)) (.i (i:Int))) H .normal (env29 (.imm .arg 1 rw) (.imm .lit 1 []) (.i 0) (.i 0) (.map 0) (.ptr 1 0 0 1) tv (.i mo) (.i (i:Int)) (.ptr nb 0 0 1) (.i (n:Int)) (.i (IntKind.i64.wrap ((i:Int)+1)))) H1 :=
  RunsTo.hin N 60 [⟨9,0,.bool true,H⟩,⟨11,2,.i (w:Int),H⟩,⟨11,4,.i h0,H⟩,⟨11,5,.i h1,H⟩,⟨11,7,.ptr nb 0 0 1,H0⟩,⟨11,8,.tuple [],H1⟩,⟨12,1,.i (w:Int),H1⟩,⟨12,3,.i w2,H1⟩,⟨12,4,.bool false,H1⟩] fun kf hk=>⟨_,by kernel_rfl,(oB H (decide_eq_true g0) (oC (gS11) (oP H g1 (oP H g2 (oP H g3 (oC (g4) (oS g5 (oC (gS12) (oP H1 g7 (oP H1 g8 (oB H1 (congrArg not (decide_eq_true g9)) .nil)))))))))))⟩
theorem bs_l_1 (N:Nat) (rw:List HV) (tv:HV) (v w:Nat) (H:Heap) (mo:Int) (n i:Nat) (nb:Nat) (w2:Int) (h0:Int) (h1:Int) (H0:Heap) (H1:Heap) (l0:List HV) (x0:Int) (s:Int) (H2:Heap) (H3:Heap) (H4:Heap) (v0:HV) (g0:(i:Int) < (n:Int)) (g1:loadV Tp H 3 (.ptr 1 0 1 1)=some (.i (w:Int))) (g2:binV Tp .shl 3 (.i 1) (.i (i:Int))=some (.i h0)) (g3:binV Tp .andNot 3 (.i (w:Int)) (.i h0)=some (.i h1)) (g4:some (newV (.agg [.i 0,.i 0]) H)=some (.ptr nb 0 0 1,H0)) (g5:storeV Tp H0 77 (.ptr nb 0 0 1) (.agg [.i (i:Int),.i h1])=some H1) (gS11:(recL ((loadV Tp H 3 (.ptr 1 0 1 1)).map (fun v=>(v,(H:Heap)))) ((loadV Tp H0 3 (.ptr 1 0 1 1)).map (fun v=>(v,(H0:Heap)))) H H0 && true)=true) (g7:loadV Tp H1 3 (.ptr 1 0 1 1)=some (.i (w:Int))) (g8:loadV Tp H1 3 (.ptr nb 0 1 1)=some (.i w2)) (g9:¬ ((w:Int)=w2)) (g10:loadV Tp H1 3 (.ptr 1 0 0 1)=some (.i (v:Int))) (g11:idxV Tp 22 (.imm .arg 1 rw) (.i (v:Int))=some (.vptr (.imm .arg 1 l0))) (g12:idxV Tp 23 (.imm .arg 1 l0) (.i (i:Int))=some (.vptr (.i x0))) (g13:loadV Tp H1 77 (.ptr nb 0 0 1)=some (.agg [.i (i:Int),.i w2])) (g14:∀ kf,N ≤ kf → callN Tp polI (kf+1) 55 [.imm .arg 1 rw,.map 0,.agg [.i (i:Int),.i w2]] H1=some (.i s,H2)) (g15:IntKind.i64.wrap (x0+s)=mo) (gS12:(recL ((loadV Tp H1 3 (.ptr 1 0 0 1)).map (fun v=>(v,(H1:Heap)))) ((loadV Tp H2 3 (.ptr 1 0 0 1)).map (fun v=>(v,(H2:Heap)))) H1 H2 && ((same (.imm .arg 1 l0) (.imm .arg 1 l0) && sameH (H1:Heap) H1 && sameH (H2:Heap) H2) && ((same (.i x0) (.i x0) && sameH (H1:Heap) H1 && sameH (H2:Heap) H2) && true)))=true) (g17:loadV Tp H2 77 (.ptr nb 0 0 1)=some (.agg [.i (i:Int),.i w2])) (g18:storeV Tp H2 77 (.ptr 1 0 0 1) (.agg [.i (i:Int),.i w2])=some H3) (g19:appV H3 1 8 (tv) [.i (i:Int)]=some (v0,H4)):RT polI 29 (sub [1,1,1,1,1,0,0,0,1,0,1,1,0,0] B29) (env29 (.imm .arg 1 rw) (.imm .lit 1 []) (.i 0) (.i 0) (.map 0) (.ptr 1 0 0 1) tv (.i mo) Ud Ud (.i (n:Int)) (.i (i:Int))) H (.exit 2) (env29 (.imm .arg 1 rw) (.imm .lit 1 []) (.i 0) (.i 0) (.map 0) (.ptr 1 0 0 1) v0 (.i mo) (.i (i:Int)) (.ptr nb 0 0 1) (.i (n:Int)) (.i (i:Int))) H4 :=
  RunsTo.hin N 60 [⟨9,0,.bool true,H⟩,⟨11,2,.i (w:Int),H⟩,⟨11,4,.i h0,H⟩,⟨11,5,.i h1,H⟩,⟨11,7,.ptr nb 0 0 1,H0⟩,⟨11,8,.tuple [],H1⟩,⟨12,1,.i (w:Int),H1⟩,⟨12,3,.i w2,H1⟩,⟨12,4,.bool true,H1⟩,⟨12,8,.i (v:Int),H1⟩,⟨12,9,.vptr (.imm .arg 1 l0),H1⟩,⟨12,12,.vptr (.i x0),H1⟩,⟨12,16,.agg [.i (i:Int),.i w2],H1⟩,⟨12,17,.i s,H2⟩,⟨12,20,.bool true,H2⟩,⟨13,0,.agg [.i (i:Int),.i w2],H2⟩,⟨13,1,.tuple [],H3⟩,⟨14,3,v0,H4⟩] fun kf hk=>⟨_,by kernel_rfl,(oB H (decide_eq_true g0) (oC (gS11) (oP H g1 (oP H g2 (oP H g3 (oC (g4) (oS g5 (oC (gS12) (oP H1 g7 (oP H1 g8 (oB H1 (congrArg not (decide_eq_false g9)) (oP H1 g10 (oP H1 g11 (oP H1 g12 (oP H1 g13 (oC (g14 kf (by omega)) (oB H2 (decide_eq_true g15) (oP H2 g17 (oS g18 (oC (g19) .nil))))))))))))))))))))⟩
theorem bs_l_2 (N:Nat) (rw:List HV) (tv:HV) (v w:Nat) (H:Heap) (mo:Int) (n i:Nat) (nb:Nat) (w2:Int) (h0:Int) (h1:Int) (H0:Heap) (H1:Heap) (l0:List HV) (x0:Int) (s:Int) (H2:Heap) (g0:(i:Int) < (n:Int)) (g1:loadV Tp H 3 (.ptr 1 0 1 1)=some (.i (w:Int))) (g2:binV Tp .shl 3 (.i 1) (.i (i:Int))=some (.i h0)) (g3:binV Tp .andNot 3 (.i (w:Int)) (.i h0)=some (.i h1)) (g4:some (newV (.agg [.i 0,.i 0]) H)=some (.ptr nb 0 0 1,H0)) (g5:storeV Tp H0 77 (.ptr nb 0 0 1) (.agg [.i (i:Int),.i h1])=some H1) (gS11:(recL ((loadV Tp H 3 (.ptr 1 0 1 1)).map (fun v=>(v,(H:Heap)))) ((loadV Tp H0 3 (.ptr 1 0 1 1)).map (fun v=>(v,(H0:Heap)))) H H0 && true)=true) (g7:loadV Tp H1 3 (.ptr 1 0 1 1)=some (.i (w:Int))) (g8:loadV Tp H1 3 (.ptr nb 0 1 1)=some (.i w2)) (g9:¬ ((w:Int)=w2)) (g10:loadV Tp H1 3 (.ptr 1 0 0 1)=some (.i (v:Int))) (g11:idxV Tp 22 (.imm .arg 1 rw) (.i (v:Int))=some (.vptr (.imm .arg 1 l0))) (g12:idxV Tp 23 (.imm .arg 1 l0) (.i (i:Int))=some (.vptr (.i x0))) (g13:loadV Tp H1 77 (.ptr nb 0 0 1)=some (.agg [.i (i:Int),.i w2])) (g14:∀ kf,N ≤ kf → callN Tp polI (kf+1) 55 [.imm .arg 1 rw,.map 0,.agg [.i (i:Int),.i w2]] H1=some (.i s,H2)) (g15:¬ (IntKind.i64.wrap (x0+s)=mo)) (gS12:(recL ((loadV Tp H1 3 (.ptr 1 0 0 1)).map (fun v=>(v,(H1:Heap)))) ((loadV Tp H2 3 (.ptr 1 0 0 1)).map (fun v=>(v,(H2:Heap)))) H1 H2 && ((same (.imm .arg 1 l0) (.imm .arg 1 l0) && sameH (H1:Heap) H1 && sameH (H2:Heap) H2) && ((same (.i x0) (.i x0) && sameH (H1:Heap) H1 && sameH (H2:Heap) H2) && true)))=true):RT polI 29 (sub [1,1,1,1,1,0,0,0,1,0,1,1,0,0] B29) (env29 (.imm .arg 1 rw) (.imm .lit 1 []) (.i 0) (.i 0) (.map 0) (.ptr 1 0 0 1) tv (.i mo) Ud Ud (.i (n:Int)) (.i (i:Int))) H .normal (env29 (.imm .arg 1 rw) (.imm .lit 1 []) (.i 0) (.i 0) (.map 0) (.ptr 1 0 0 1) tv (.i mo) (.i (i:Int)) (.ptr nb 0 0 1) (.i (n:Int)) (.i (IntKind.i64.wrap ((i:Int)+1)))) H2 :=
  RunsTo.hin N 60 [⟨9,0,.bool true,H⟩,⟨11,2,.i (w:Int),H⟩,⟨11,4,.i h0,H⟩,⟨11,5,.i h1,H⟩,⟨11,7,.ptr nb 0 0 1,H0⟩,⟨11,8,.tuple [],H1⟩,⟨12,1,.i (w:Int),H1⟩,⟨12,3,.i w2,H1⟩,⟨12,4,.bool true,H1⟩,⟨12,8,.i (v:Int),H1⟩,⟨12,9,.vptr (.imm .arg 1 l0),H1⟩,⟨12,12,.vptr (.i x0),H1⟩,⟨12,16,.agg [.i (i:Int),.i w2],H1⟩,⟨12,17,.i s,H2⟩,⟨12,20,.bool false,H2⟩] fun kf hk=>⟨_,by kernel_rfl,(oB H (decide_eq_true g0) (oC (gS11) (oP H g1 (oP H g2 (oP H g3 (oC (g4) (oS g5 (oC (gS12) (oP H1 g7 (oP H1 g8 (oB H1 (congrArg not (decide_eq_false g9)) (oP H1 g10 (oP H1 g11 (oP H1 g12 (oP H1 g13 (oC (g14 kf (by omega)) (oB H2 (decide_eq_false g15) .nil)))))))))))))))))⟩
theorem bs_z_0 (N:Nat) (rw:List HV) (tv:HV) (H:Heap) (y8 y9 y10 y29 y30:HV) (sm:Int) (H0:Heap) (g0:∀ kf,callN Tp polI (kf+1) 56 [.imm .arg 1 rw,tv] H=some (.i sm,H0)):RT polI 29 (sub [1,1,1,1,1,1] B29) (env29 (.imm .arg 1 rw) (.imm .lit 1 []) (.i 0) (.i 0) (.map 0) (.ptr 1 0 0 1) tv y8 y9 y10 y29 y30) H .ret (env29 (.imm .arg 1 rw) tv (.i sm) (.i 0) (.map 0) (.ptr 1 0 0 1) tv y8 y9 y10 y29 y30) H0 :=
  RunsTo.hin N 60 [⟨16,3,.i sm,H0⟩] fun kf hk=>⟨_,by kernel_rfl,(oC (g0 kf) .nil)⟩
end Go.Proofs.Ytlendaofkmhgmaa
end
section
open Go Go.HL
namespace Go.Proofs.Ytlendaofkmhgmaa
open Go.Proofs.Try renaming prog → Tp
open Go.HL.HV renaming undef → Ud
theorem soundI (n:Nat):CallSound Tp (callN Tp polI n):=sound_prim _ (fun g f h=>by
  split at h
  · rename_i hg; cases h; rw [eq_of_beq hg]; exact miles_ok
  split at h
  · rename_i hg; cases h; rw [eq_of_beq hg]; exact mlen_ok
  · cases h) n
open Classical in
noncomputable def best29:List HV → Option HV:=rwF fun R=>if R.length ≤ 1000∧(R.all fun r=>decide (r.length ≤ 1000))=true then some (if okD R then .tuple [.own 1 ((bestT R).map encI),.int .i64 (lenT R (bestT R)),.int .i64 0] else .tuple [.own 1 [],.int .i64 0,.int .i64 2]) else none
theorem toRes_li2 {H:Heap} {b k:Nat} {cap:Option Nat} {o:List Int} (hb:H[b]?=some (bI o)) (hk:o.length=k) (x e:Int):toRes H false (.tuple [.sl b 0 k cap k 1,.int .i64 x,.int .i64 e])=some (.tuple [.own 1 (o.map encI),.int .i64 x,.int .i64 e]):=by
  have hr:=resCell_sl (H:=H) (no:=[b]) (b:=b) (k:=1) (m:=k) (cap:=cap) (els:=o.map encI) hb (by simpa using hk) (mapO_self (fun r=>frz_int 4 r) _)
  have ho:ownedAll H false (.tuple [.sl b 0 k cap k 1,.int .i64 x,.int .i64 e])=[b]:=by simp [ownedAll,cellsOf,owned,hb]
  simp only [toRes,ho,List.nodup_cons,List.not_mem_nil,not_false_eq_true,List.nodup_nil,and_self,if_true,mapO,resVal,hr]
  rfl
theorem arg_slc {H:Heap} {l:List Int} {b m:Nat} {cap:Option Nat} (hm:l.length=m) (hb:H[b]?=some (bI l)):toArg H 6 (.sl b 0 m cap m 1)=some (.imm .arg 1 (l.map encI)):=arg_sl hm hb
theorem res29:Try.f29.results.toList=[.tmp 2,.tmp 3,.tmp 4]:=by kernel_rfl
theorem lit_zero (H:Heap):litV Tp true true 23 1 [(0,.int .i64 0)] H=some (.sl H.length 0 1 (some 1) 1 1,H ++ [bI [0]]):=by kernel_rfl
section
variable {d:List (List Int)}
abbrev bsE (d:List (List Int)) (tv y8 y9 y10 y29 y30:HV):Env:=env29 (.imm .arg 1 (d.map encR)) (.imm .lit 1 []) (.int .i64 0) (.int .i64 0) (.map 0) (.ptr 1 0 0 1) tv y8 y9 y10 y29 y30
abbrev tv4 (m:Nat):HV:=.sl 4 0 m none m 1
structure BI (d:List (List Int)) (v w:Nat) (o:List Int) (tv:HV) (H:Heap):Prop where
  mem:Mem (rsT d) H
  box:H[1]?=some (boxK v w)
  st:(tv=.sl 2 0 1 (some 1) 1 1∧o=[0]∧H.length=3∧H[2]?=some (bI o)) ∨ (tv=tv4 o.length∧H.length=5∧H[4]?=some (bI o))
theorem BI.len {d:List (List Int)} {v w:Nat} {o:List Int} {tv:HV} {H:Heap} (h:BI d v w o tv H):3 ≤ H.length∧H.length ≤ 5∧bnd tv ≤ H.length:=by
  rcases h.st with ⟨h1,_,h3,_⟩ | ⟨h1,h3,_⟩ <;> rw [h1,h3] <;> simp [bnd]
theorem BI.app {d:List (List Int)} {v w:Nat} {o:List Int} {tv:HV} {H H3:Heap} (h:BI d v w o tv H) (hM:Mem (rsT d) H3) (hl:H3.length=H.length+1) (hs:∀ k,2 ≤ k → k < H.length → H3[k]?=H[k]?) (ho:o.length ≤ 500) (x:Int) :
    ∃ H4,appV H3 1 8 tv [.int .i64 x]=some (tv4 (o.length+1),H4)∧Mem (rsT d) H4∧H4[1]?=H3[1]?∧H4[4]?=some (bI (o ++ [x]))∧5 ≤ H4.length:=by
  rcases h.st with ⟨h1,h2,h3,h4⟩ | ⟨h1,h3,h4⟩
  · have e:=hs 2 (by omega) (by omega)
    rw [h4] at e
    subst h2; subst h1
    refine ⟨H3 ++ [bI ([0] ++ [x])],?_,hM.app (same_bI _) rfl,List.getElem?_append_left (by omega),?_,by simp; omega⟩
    · have e4:H3.length=4:=by omega
      simp only [appV,e,e4]
      simp [roomMax,bnd,bndL,encI]
    · rw [List.getElem?_append_right (by omega)]; simp [hl,h3]
  · have e:=hs 4 (by omega) (by omega)
    rw [h4] at e
    subst h1
    have ap:=app_ints (xs:=[x]) e (by simp; omega) (by simp)
    rw [show (o ++ [x]).length=o.length+1 by simp] at ap
    exact ⟨_,ap,hM.set (by omega) (same_bI _) rfl,List.getElem?_set_ne (by omega),List.getElem?_set_self (by omega),by simp; omega⟩
theorem bs_in (hd:okD d) {v w:Nat} {o:List Int} {tv:HV} (hv:v < d.length) (hw:w < 2 ^ d.length) (ho:o.length ≤ 500):∀ k i H u,i+k=d.length → BI d v w o tv H → pck (okV d v w) k i=some u →
    ∃ y9 y10 y29 y30 H',RunsTo Tp polI 29 (sub [1,1,1,1,1,0,0,0,1,0,1,1,0] B29) (bsE d tv (.int .i64 (rsT d v w)) Ud Ud (.int .i64 (d.length:Int)) (.int .i64 (i:Int))) H
      (.exit 2) (polI.keys 29) (bsE d (tv4 (o.length+1)) (.int .i64 (rsT d v w)) y9 y10 y29 y30) H'∧Mem (rsT d) H'∧H'[1]?=some (boxK u (wo w u:Nat))∧H'[4]?=some (bI (o ++ [(u:Int)]))∧5 ≤ H'.length:=by
  have hp:=pow_le hd.1.2
  have hn:=hd.1.2
  intro k
  induction k with
  | zero=>intro i H u _ _ h; cases h
  | succ k ih =>
    intro i H u hi hB hq
    rw [pck] at hq
    have bl:=bo_shl (v:=i) (by omega)
    have bn:=bo_andn (L:=w) (v:=i) (by omega) (by omega)
    have hl:=hB.len
    have g4:some (newV (.agg [.int .i64 0,.int .i64 0]) H)=some (.ptr H.length 0 0 1,H ++ [boxK 0 0]):=by
      rw [show (HV.agg [.int .i64 0,.int .i64 0])=encP ((0:Int),(0:Int)) from rfl,new_k]
    have gn0:(H ++ [boxK 0 0])[H.length]?=some (boxK 0 0):=by rw [List.getElem?_append_right (Nat.le_refl _)]; simp
    have g5:storeV Tp (H ++ [boxK 0 0]) 77 (.ptr H.length 0 0 1) (.agg [.int .i64 (i:Int),.int .i64 ((wo w i:Nat):Int)])=some (H ++ [boxK i (wo w i:Nat)]):=by
      have:=st_k (x:=(i:Int)) (y:=((wo w i:Nat):Int)) gn0
      rw [List.set_append_right _ _ (Nat.le_refl _),Nat.sub_self] at this
      exact this
    have hM0:Mem (rsT d) (H ++ [boxK 0 0]):=hB.mem.app (same_box _ _) rfl
    have l0:loadV Tp (H ++ [boxK 0 0]) 3 (.ptr 1 0 1 1)=some (.int .i64 (w:Int)):=ld_k1 (by rw [List.getElem?_append_left (by omega)]; exact hB.box)
    have gS:(recL ((loadV Tp H 3 (.ptr 1 0 1 1)).map (fun v=>(v,(H:Heap)))) ((loadV Tp (H ++ [boxK 0 0]) 3 (.ptr 1 0 1 1)).map (fun v=>(v,((H ++ [boxK 0 0]):Heap)))) H (H ++ [boxK 0 0]) && true)=true:=by
      rw [ld_k1 hB.box,l0]
      simp only [Option.map,recL,hB.mem.rf,hM0.rf]
      simp [same]
    have hM1:Mem (rsT d) (H ++ [boxK i (wo w i:Nat)]):=hB.mem.app (same_box _ _) rfl
    have low:∀ k,k < H.length → (H ++ [boxK (i:Int) (wo w i:Nat)])[k]?=H[k]?:=fun k hk=>List.getElem?_append_left hk
    have x1:(H ++ [boxK i (wo w i:Nat)])[1]?=some (boxK v w):=by rw [low 1 (by omega)]; exact hB.box
    have x3:(H ++ [boxK (i:Int) (wo w i:Nat)])[H.length]?=some (boxK i (wo w i:Nat)):=by rw [List.getElem?_append_right (Nat.le_refl _)]; simp
    have ll:(H ++ [boxK (i:Int) (wo w i:Nat)]).length=H.length+1:=by simp
    have cut:∀ (H':Heap) (y:HV),Mem (rsT d) H' → bnd y=0 → gc H.length (bndE (bsE d tv y Ud Ud (.int .i64 (d.length:Int)) (.int .i64 ((i+1:Nat):Int)))) H'=H'.take H.length:=fun H' y hM' hy=>by
      rw [hM'.gc]
      congr 1
      simp only [bndE,bnd,bndL,hy]
      omega
    by_cases c:w.testBit i=true
    · have hne:¬ ((w:Int)=((wo w i:Nat):Int)):=by have:=wo_lt c; omega
      obtain ⟨H2,hcl,hM2,hF⟩:=rs_call hd w i (wo w i) (wo_le _ _) (by omega) (by have:=wo_le w i; omega) _ hM1
      obtain ⟨N,hN⟩:=CallsTo.from hcl
      have b1:=hd.at hv (j:=i) (by omega)
      have b3:=rsT_bnd hd (s:=i) (L:=wo w i) (by omega) (by have:=wo_le w i; omega)
      have hwr:IntKind.i64.wrap (at2 d v i+rsT d i (wo w i))=at2 d v i+rsT d i (wo w i):=wrap_id (by omega) (by omega)
      have gS2:(recL ((loadV Tp (H ++ [boxK i (wo w i:Nat)]) 3 (.ptr 1 0 0 1)).map (fun v=>(v,((H ++ [boxK i (wo w i:Nat)]):Heap)))) ((loadV Tp H2 3 (.ptr 1 0 0 1)).map (fun v=>(v,(H2:Heap)))) (H ++ [boxK i (wo w i:Nat)]) H2 && ((same (.imm .arg 1 ((d.getD v []).map encI)) (.imm .arg 1 ((d.getD v []).map encI)) && sameH ((H ++ [boxK i (wo w i:Nat)]):Heap) (H ++ [boxK i (wo w i:Nat)]) && sameH (H2:Heap) H2) && ((same (.int .i64 (at2 d v i)) (.int .i64 (at2 d v i)) && sameH ((H ++ [boxK i (wo w i:Nat)]):Heap) (H ++ [boxK i (wo w i:Nat)]) && sameH (H2:Heap) H2) && true)))=true:=by
        have l2:loadV Tp H2 3 (.ptr 1 0 0 1)=some (.int .i64 (v:Int)):=ld_k0 (by rw [hF.same _ (by omega)]; exact x1)
        rw [ld_k0 x1,l2]
        simp only [Option.map,recL,hM1.rf,hM2.rf,same_imm]
        simp [same]
      have y1:H2[1]?=some (boxK v w):=by rw [hF.same _ (by omega)]; exact x1
      have y3:H2[H.length]?=some (boxK i (wo w i:Nat)):=by rw [hF.same _ (by omega)]; exact x3
      have l2:=lt_of_get y1
      by_cases c2:at2 d v i+rsT d i (wo w i)=rsT d v w
      · have hok:okV d v w i=true:=by simp [okV,c,c2]
        rw [if_pos hok] at hq
        cases hq
        have s3:=st_k (x:=(i:Int)) (y:=((wo w i:Nat):Int)) y1
        obtain ⟨H4,ap,hM4,z1,z4,z5⟩:=hB.app (H3:=H2.set 1 (boxK i (wo w i:Nat))) (hM2.set (by omega) (same_box _ _) rfl) (by simp [hF.len]) (fun k h2 hk=>by rw [List.getElem?_set_ne (by omega),hF.same _ (by omega),low _ hk]) ho (i:Int)
        have s:=bs_l_1 N (d.map encR) tv v w H (rsT d v w) d.length i H.length ((wo w i:Nat):Int) _ _ _ _ _ _ _ H2 _ _ _ (by omega) (ld_k1 hB.box) bl bn g4 g5 gS (ld_k1 x1) (ld_k1 x3) hne (ld_k0 x1) (g22 hv) (g23 hd hv (by omega)) (ld_k x3) hN (by rw [hwr,c2]) gS2 (ld_k y3) s3 ap
        refine ⟨_,_,_,_,_,lpo s,hM4,?_,z4,z5⟩
        rw [z1,List.getElem?_set_self (by omega)]
      · have hok:¬ okV d v w i=true:=by simp [okV,c,c2]
        rw [if_neg hok] at hq
        have s:=bs_l_2 N (d.map encR) tv v w H (rsT d v w) d.length i H.length ((wo w i:Nat):Int) _ _ _ _ _ _ _ H2 (by omega) (ld_k1 hB.box) bl bn g4 g5 gS (ld_k1 x1) (ld_k1 x3) hne (ld_k0 x1) (g22 hv) (g23 hd hv (by omega)) (ld_k x3) hN (by rw [hwr]; exact c2) gS2
        rw [wrap_succ (by omega)] at s
        have tl:(H2.take H.length).length=H.length:=by rw [List.length_take,hF.len,ll]; omega
        have tk:∀ k,k ≠ 0 → k < H.length → (H2.take H.length)[k]?=H[k]?:=fun k h0 hk=>by rw [List.getElem?_take,if_pos hk,hF.same _ h0,low _ hk]
        have hB2:BI d v w o tv (H2.take H.length):=by
          refine ⟨hM2.take (by omega),by rw [tk 1 (by omega) (by omega)]; exact hB.box,?_⟩
          rcases hB.st with ⟨h1,h2,h3,h4⟩ | ⟨h1,h3,h4⟩
          · exact .inl ⟨h1,h2,tl.trans h3,by rw [tk 2 (by omega) (by omega)]; exact h4⟩
          · exact .inr ⟨h1,tl.trans h3,by rw [tk 4 (by omega) (by omega)]; exact h4⟩
        obtain ⟨y9,y10,y29,y30,H',r,r2⟩:=ih (i+1) _ u (by omega) hB2 hq
        exact ⟨y9,y10,y29,y30,H',lop s (cut _ _ hM2 rfl) r,r2⟩
    · have hok:¬ okV d v w i=true:=by simp [okV,c]
      rw [if_neg hok] at hq
      have e:wo w i=w:=by unfold wo; rw [if_neg c]
      rw [e] at bn g5 hM1 x1 x3
      have s:=bs_l_0 0 (d.map encR) tv v w H (rsT d v w) d.length i H.length (w:Int) _ _ _ _ (by omega) (ld_k1 hB.box) bl bn g4 g5 gS (ld_k1 x1) (ld_k1 x3) rfl rfl
      rw [wrap_succ (by omega)] at s
      have ec:=cut _ (.int .i64 (rsT d v w)) hM1 rfl
      have et:(H ++ [boxK (i:Int) (w:Int)]).take H.length=H:=by rw [List.take_append_of_le_length (Nat.le_refl _),List.take_of_length_le (Nat.le_refl _)]
      rw [et] at ec
      obtain ⟨y9,y10,y29,y30,H',r,r2⟩:=ih (i+1) _ u (by omega) hB hq
      exact ⟨y9,y10,y29,y30,H',lop s ec r,r2⟩
theorem bs_loop (hd:okD d):∀ (k v w:Nat) (o:List Int) (tv:HV) (H:Heap),w ≤ k → v < d.length → w < 2 ^ d.length → BI d v w o tv H → o.length+(grd d k v w).length ≤ 500 →
    ∃ tb cap H',RT polI 29 (sub [1,1,1,1,1,0,0] B29) (bsE d tv Ud Ud Ud Ud Ud) H (.exit 0) (bsE d (.sl tb 0 (o ++ grd d k v w).length cap (o ++ grd d k v w).length 1) Ud Ud Ud Ud Ud) H'∧H'[tb]?=some (bI (o ++ grd d k v w)):=by
  have h0:∀ (v:Nat) (o:List Int) (tv:HV) (H:Heap),BI d v 0 o tv H → ∃ tb cap H',RT polI 29 (sub [1,1,1,1,1,0,0] B29) (bsE d tv Ud Ud Ud Ud Ud) H (.exit 0) (bsE d (.sl tb 0 (o ++ []).length cap (o ++ []).length 1) Ud Ud Ud Ud Ud) H'∧H'[tb]?=some (bI (o ++ [])):=fun v o tv H hB=>by
    rw [List.append_nil]
    have f:=bs_f_1 0 (d.map encR) tv v 0 H (ld_k1 hB.box) (by omega)
    have r:=lpo (sqo f (c:=sub [1,1,1,1,1,0,0,0] B29) (b:=sub [1,1,1,1,1,0,0,0,1] B29)) (c:=sub [1,1,1,1,1,0,0] B29)
    rcases hB.st with ⟨h1,h2,h3,h4⟩ | ⟨h1,h3,h4⟩
    · subst h1; subst h2
      exact ⟨2,some 1,H,r,h4⟩
    · subst h1
      exact ⟨4,none,H,r,h4⟩
  intro k
  induction k with
  | zero =>
    intro v w o tv H hk _ _ hB _
    have:w=0:=by omega
    subst this
    exact h0 v o tv H hB
  | succ k ih =>
    intro v w o tv H hk hv hw hB hl
    by_cases cw:w=0
    · subst cw
      rw [grd,if_pos rfl]
      exact h0 v o tv H hB
    · obtain ⟨u,p1,p2,p3,p4⟩:=pck_ok hd hv hw cw
      have eg:grd d (k+1) v w=(u:Int) :: grd d k u (wo w u):=by rw [grd,if_neg cw,p1]
      rw [eg] at hl ⊢
      rw [List.length_cons] at hl
      have f:=bs_f_0 0 (d.map encR) tv v w H (ld_k1 hB.box) (by omega)
      obtain ⟨H1,hcl,hM1,hF⟩:=rs_call hd w v w (Nat.le_refl _) hv hw _ hB.mem
      obtain ⟨N,hN⟩:=CallsTo.from hcl
      have g:=bs_g_0 N (d.map encR) tv v w H _ H1 (ld_k hB.box) hN
      have h:=bs_h_0 0 (d.map encR) tv v w H1 (rsT d v w)
      rw [List.length_map] at h
      have hB1:BI d v w o tv H1:=by
        refine ⟨hM1,by rw [hF.same _ (by omega)]; exact hB.box,?_⟩
        rcases hB.st with ⟨h1,h2,h3,h4⟩ | ⟨h1,h3,h4⟩
        · exact .inl ⟨h1,h2,hF.len.trans h3,by rw [hF.same _ (by omega)]; exact h4⟩
        · exact .inr ⟨h1,hF.len.trans h3,by rw [hF.same _ (by omega)]; exact h4⟩
      obtain ⟨y9,y10,y29,y30,H2,r,r1,r2,r3,r4⟩:=bs_in hd hv hw (by omega) d.length 0 H1 u (by omega) hB1 p1
      have r':=lpi (e0:=bsE d tv (.int .i64 (rsT d v w)) Ud Ud (.int .i64 (d.length:Int)) (.int .i64 0)) r (b:=sub [1,1,1,1,1,0,0,0,1,0,1,1,0,0] B29)
      have t1:=sq h (bke (c:=sub [1,1,1,1,1,0,0,0,1,0,1,1] B29) r') (c:=sub [1,1,1,1,1,0,0,0,1,0,1] B29)
      have t2:=sq g t1 (c:=sub [1,1,1,1,1,0,0,0,1,0] B29)
      have t3:=RunsTo.block_normal (i:=1) (c:=sub [1,1,1,1,1,0,0,0,1] B29) t2 (by kernel_rfl)
      have t4:=sq f t3 (c:=sub [1,1,1,1,1,0,0,0] B29)
      have hB2:BI d u (wo w u) (o ++ [(u:Int)]) (tv4 (o.length+1)) (H2.take 5):=by
        refine ⟨r1.take (by omega),?_,.inr ⟨by simp,by rw [List.length_take]; omega,?_⟩⟩
        · rw [List.getElem?_take,if_pos (by omega)]; exact r2
        · rw [List.getElem?_take,if_pos (by omega)]; exact r3
      have ec:gc H.length (bndE (bsE d (tv4 (o.length+1)) Ud Ud Ud Ud Ud)) H2=H2.take 5:=by
        rw [r1.gc]
        congr 1
        have:=hB.len
        simp only [bndE,bnd,bndL]
        omega
      obtain ⟨tb,cap,H',q1,q2⟩:=ih u (wo w u) (o ++ [(u:Int)]) _ (H2.take 5) (by have:=wo_lt p3; omega) p2 (by have:=wo_lt p3; omega) hB2 (by simp; omega)
      rw [List.append_assoc] at q1 q2
      exact ⟨tb,cap,H',lop t4 ec q1,q2⟩
end
theorem best_ok:PrimOk Tp 29 best29:=by
  refine primOk_pure (pol:=polI) (fn:=Try.f29) (cd:=B29) follows_mixed soundI (by kernel_rfl) (by kernel_rfl) (fnok polI.prim _ _ (by kernel_rfl)) (by kernel_rfl) ?_
  intro args res h
  obtain ⟨d,rfl,hq⟩:=rwF_inv h
  clear h
  split at hq
  · rename_i hc
    cases hq
    have a:=bs_a_0 0 (d.map encR)
    by_cases hd:okD d
    · rw [if_pos hd]
      have hn:=hd.1
      have hp:=pow_le hd.1.2
      have m1:=prim_miles (pol':=polI) (by kernel_rfl) hc.1 hc.2 [] true (okB_true hd)
      have b:=bs_b_0 0 (d.map encR) m1
      have c:=bs_c_0 0 (d.map encR) [] _ rfl
      have h2:2 ≤ 2 ^ d.length:=by
        have:=Nat.pow_le_pow_right (n:=2) (by omega) hn.1
        omega
      have ew:IntKind.i64.wrap (((2 ^ d.length:Nat):Int) - 2)=((2 ^ d.length - 2:Nat):Int):=by
        generalize 2 ^ d.length=x at hp h2
        rw [wrap_id (by omega) (by omega)]; omega
      have bl:=bo_shl (v:=d.length) (by omega)
      have dd:=bs_d_0 0 (d.map encR) [.map [] [] 0] ((2 ^ d.length:Nat):Int) _ [.map [] [] 0,boxK 0 (2 ^ d.length - 2:Nat)] (by rw [List.length_map]; exact bl) (by rw [show (HV.agg [.int .i64 0,.int .i64 0])=encP ((0:Int),(0:Int)) from rfl,new_k]; rfl) (by rw [ew]; exact st_k rfl)
      have e:=bs_e_0 0 (d.map encR) _ [.map [] [] 0,boxK 0 (2 ^ d.length - 2:Nat)] _ (lit_zero _)
      have hB:BI d 0 (2 ^ d.length - 2) [0] (.sl 2 0 1 (some 1) 1 1) [.map [] [] 0,boxK 0 (2 ^ d.length - 2:Nat),bI [0]]:=⟨⟨⟨[],rfl⟩,by
        rw [sameH_iff]
        intro B hB
        simp only [List.mem_cons,List.not_mem_nil,or_false] at hB
        rcases hB with rfl | rfl | rfl
        · rfl
        · exact same_box _ _
        · exact same_bI _,by simp [mxs,Blk.mx]⟩,rfl,.inl ⟨rfl,rfl,rfl,rfl⟩⟩
      have ht:=best_tour hd
      obtain ⟨t1,t2,t3,t4⟩:=trOk_iff.1 ht
      have hbl:(bestT d).length=1+(grd d (2 ^ d.length) 0 (2 ^ d.length - 2)).length:=by simp only [bestT,List.length_cons]; omega
      obtain ⟨tb,cap,H',q1,q2⟩:=bs_loop hd (2 ^ d.length) 0 (2 ^ d.length - 2) [0] _ _ (Nat.sub_le _ _) (by omega) all_lt hB (by simp only [List.length_cons,List.length_nil]; omega)
      have eb:[0] ++ grd d (2 ^ d.length) 0 (2 ^ d.length - 2)=bestT d:=rfl
      rw [eb] at q1 q2
      have k56:∀ k,callN Tp polI (k+1) 56 [.imm .arg 1 (d.map encR),.sl tb 0 (bestT d).length cap (bestT d).length 1] H'=some (.int .i64 (lenT d (bestT d)),H'):=fun k=>by
        rw [prim_call (pol:=polI) (g:=56) (F:=len56) (by kernel_rfl) (rs:=[.imm .arg 1 (d.map encR),.imm .arg 1 ((bestT d).map encI)]) (by simp only [mapO,arg_rw,arg_slc rfl q2]) (res:=.int .i64 (lenT d (bestT d))) (by simp only [len56,rlF,mapO_map decR_enc,mapO_map decI_enc]; rw [if_pos ⟨hd,t3,by omega⟩])]; rfl
      have z:=bs_z_0 0 (d.map encR) _ H' Ud Ud Ud Ud Ud _ _ k56
      have u1:=sq (bke (c:=sub [1,1,1,1,1,0] B29) q1) z (c:=sub [1,1,1,1,1] B29)
      have u2:=sq e u1 (c:=sub [1,1,1,1] B29)
      have u3:=sq dd u2 (c:=sub [1,1,1] B29)
      have u4:=sq c u3 (c:=sub [1,1] B29)
      have u5:=sq a (sq b u4 (c:=sub [1] B29)) (c:=B29)
      exact ⟨_,_,_,.tuple [.sl tb 0 (bestT d).length cap (bestT d).length 1,.int .i64 (lenT d (bestT d)),.int .i64 0],u5,by simp,by simp only [resultsV,res29]; rfl,toRes_li2 q2 rfl _ 0⟩
    · rw [if_neg hd]
      have m1:=prim_miles (pol':=polI) (by kernel_rfl) hc.1 hc.2 [] false (okB_false hd)
      exact ⟨_,_,_,_,sq a (sqo (bs_b_1 0 (d.map encR) m1) (c:=sub [1] B29) (b:=sub [1,1] B29)) (c:=B29),by simp,by simp only [resultsV,res29]; rfl,rfl⟩
  · cases hq
end Go.Proofs.Ytlendaofkmhgmaa
end
section
open Go Go.HL Go.HL.So
namespace Go.Proofs.Ytlendaofkmhgmaa
open Go.Proofs.Try renaming prog → Tp
open Go.HL.HV renaming undef → Ud
def riF (f:List (List Int) → Int → Option HV):List HV → Option HV
  | [.imm .arg 1 rw,.int .i64 a]=>(match mapO decR rw with | some R=>f R a | none=>none)
  | _=>none
theorem riF_inv {f:List (List Int) → Int → Option HV} {args:List HV} {res:HV} (h:riF f args=some res):∃ R a,args=[.imm .arg 1 (R.map encR),.int .i64 a]∧f R a=some res:=by
  unfold riF at h
  split at h
  · rename_i rw a
    split at h
    · rename_i R hR
      exact ⟨R,a,by rw [mapO_inv decR_inv hR],h⟩
    · cases h
  · cases h
open Classical in
noncomputable def climb31:List HV → Option HV:=riF fun R s=>if R.length ≤ 1000∧(R.all fun r=>decide (r.length ≤ 1000))=true then some (if okD R∧0 ≤ s∧s ≤ 100 then .tuple [.own 1 ((climT R s.toNat).1.map encI),.int .i64 (climT R s.toNat).2,.int .i64 0] else .tuple [.own 1 [],.int .i64 0,.int .i64 2]) else none
noncomputable def polCl:Pol:={ pol with prim:=fun g=>if g == 46 then some miles46 else if g == 49 then some withinF else if g == 50 then some bound50 else if g == 52 then some clone52 else none }
theorem soundCl (n:Nat):CallSound Tp (callN Tp polCl n):=sound_prim _ (fun g f h=>by
  split at h
  · rename_i hg; cases h; rw [eq_of_beq hg]; exact miles_ok
  split at h
  · rename_i hg; cases h; rw [eq_of_beq hg]; exact within_ok
  split at h
  · rename_i hg; cases h; rw [eq_of_beq hg]; exact bound_ok
  split at h
  · rename_i hg; cases h; rw [eq_of_beq hg]; exact clone_ok
  · cases h) n
theorem li_ext {a b:List Int} (hl:a.length=b.length) (h:∀ x,x < a.length → a.getD x 0=b.getD x 0):a=b:=by
  apply List.ext_getElem?
  intro x
  by_cases hx:x < a.length
  · have h1:=h x hx
    rw [List.getElem?_eq_getElem hx,List.getElem?_eq_getElem (by omega)]
    simp only [List.getD,List.getElem?_eq_getElem hx,List.getElem?_eq_getElem (show x < b.length by omega),Option.getD_some] at h1
    rw [h1]
  · rw [List.getElem?_eq_none (by omega),List.getElem?_eq_none (by omega)]
theorem pad_hi {l:List Int} {x:Nat} (h1:l.length ≤ x) (h2:x < 11):(pad l).getD x 0=0:=by
  rw [pad,List.getD,List.getElem?_append_right h1,List.getElem?_replicate,if_pos (by omega)]; rfl
theorem bnd_pad {d:List (List Int)} {p:List Int} (hn:1 ≤ d.length) (hp:p.length=d.length):boundS d (pad p)=boundS d p:=by
  show sumP (pad p) (sumA (chosen d (pad p)) 0)=sumP p (sumA (chosen d p) 0)
  rw [sumP_pad,chosen_cong (p:=pad p) (p':=p) hn (fun a ha=>pad_get p a (by omega))]
theorem pad_zer {n:Nat} (h:n ≤ 11):pad (zer n)=List.replicate 11 0:=by
  unfold pad zer
  rw [List.length_replicate,List.replicate_append_replicate]
  congr 1; omega
theorem clim_len {d:List (List Int)}:∀ (k:Nat) (p b:List Int) (v:Int),b.length=d.length → (clim d k p b v).1.length=d.length
  | 0,_,b,_,h=>h
  | k+1,p,b,v,h=>by
    rw [clim]
    exact clim_len k _ _ _ (by split; exact cstep_len d p; exact h)
end Go.Proofs.Ytlendaofkmhgmaa
end
section
open Go Go.HL
namespace Go.Proofs.Ytlendaofkmhgmaa
set_option maxRecDepth 100000
open Go.Proofs.Try renaming prog → Tp
open Go.HL.HV renaming undef → Ud
noncomputable def B31:Code:=Try.f31.body.getD .skip
abbrev env31 (v0 v1 v4 v5 v6 v7 v8 v9 v10 v11 v12 v42 v43 v46 v47:HV):Env:=[(0,v0),(1,v1),(4,v4),(5,v5),(6,v6),(7,v7),(8,v8),(9,v9),(10,v10),(11,v11),(12,v12),(42,v42),(43,v43),(46,v46),(47,v47)]
theorem cl_a_0 (rw:List HV) (st:Int) :RT polCl 31 (sub [0] B31) [(0,.imm .arg 1 rw),(1,.i st)] [] .normal (env31 (.imm .arg 1 rw) (.i st) (.imm .lit 1 []) (.i 0) (.i 0) Ud Ud Ud Ud Ud Ud Ud Ud Ud Ud) [] :=
  RunsTo.hin 0 60 [] fun kf hk=>⟨_,by kernel_rfl,.nil⟩
theorem cl_b_0 (rw:List HV) (st:Int)  {y7 y8 y9 y10 y11 y12 y42 y43 y46 y47:HV}(g0:∀ kf,callN Tp polCl (kf+1) 46 [.imm .arg 1 rw] []=some (.bool true,[])) (g1:(0:Int) ≤ st∧st ≤ (100:Int)):RT polCl 31 (sub [1,0] B31) (env31 (.imm .arg 1 rw) (.i st) (.imm .lit 1 []) (.i 0) (.i 0) y7 y8 y9 y10 y11 y12 y42 y43 y46 y47) [] .normal (env31 (.imm .arg 1 rw) (.i st) (.imm .lit 1 []) (.i 0) (.i 0) y7 y8 y9 y10 y11 y12 y42 y43 y46 y47) [] :=
  RunsTo.hin 0 60 [⟨1,1,.bool true,[]⟩,⟨1,5,.bool true,[]⟩] fun kf hk=>⟨_,by kernel_rfl,(oC (g0 kf) (oB [] (decide_eq_true g1) .nil))⟩
theorem cl_b_1 (rw:List HV) (st:Int)  {y7 y8 y9 y10 y11 y12 y42 y43 y46 y47:HV}(g0:∀ kf,callN Tp polCl (kf+1) 46 [.imm .arg 1 rw] []=some (.bool true,[])) (g1:¬ ((0:Int) ≤ st∧st ≤ (100:Int))):RT polCl 31 (sub [1,0] B31) (env31 (.imm .arg 1 rw) (.i st) (.imm .lit 1 []) (.i 0) (.i 0) y7 y8 y9 y10 y11 y12 y42 y43 y46 y47) [] .ret (env31 (.imm .arg 1 rw) (.i st) (.imm .lit 1 []) (.i 0) (.i 2) y7 y8 y9 y10 y11 y12 y42 y43 y46 y47) [] :=
  RunsTo.hin 0 60 [⟨1,1,.bool true,[]⟩,⟨1,5,.bool false,[]⟩] fun kf hk=>⟨_,by kernel_rfl,(oC (g0 kf) (oB [] (decide_eq_false g1) .nil))⟩
theorem cl_b_2 (rw:List HV) (st:Int)  {y7 y8 y9 y10 y11 y12 y42 y43 y46 y47:HV}(g0:∀ kf,callN Tp polCl (kf+1) 46 [.imm .arg 1 rw] []=some (.bool false,[])):RT polCl 31 (sub [1,0] B31) (env31 (.imm .arg 1 rw) (.i st) (.imm .lit 1 []) (.i 0) (.i 0) y7 y8 y9 y10 y11 y12 y42 y43 y46 y47) [] .ret (env31 (.imm .arg 1 rw) (.i st) (.imm .lit 1 []) (.i 0) (.i 2) y7 y8 y9 y10 y11 y12 y42 y43 y46 y47) [] :=
  RunsTo.hin 0 60 [⟨1,1,.bool false,[]⟩] fun kf hk=>⟨_,by kernel_rfl,(oC (g0 kf) .nil)⟩
theorem cl_c_0 (rw:List HV) (st:Int)  {y7 y8 y9 y10 y11 y12 y42 y43 y46 y47:HV} {l0:List HV} {x0:Int} (g0:(rw.length:Int) < 3) (g1:makeV Tp false 23 (.i (rw.length:Int)) (.i (rw.length:Int)) []=some (.sl 0 0 rw.length (some rw.length) rw.length 1,[.arr 1 (List.replicate rw.length (.i 0)) true 0])) (g2:idxV Tp 22 (.imm .arg 1 rw) (.i 0)=some (.vptr (.imm .arg 1 l0))) (g3:idxV Tp 23 (.imm .arg 1 l0) (.i (IntKind.i64.wrap ((rw.length:Int) - 1)))=some (.vptr (.i x0))) (gS4:((same (.imm .arg 1 l0) (.imm .arg 1 l0) && sameH ([.arr 1 (List.replicate rw.length (.i 0)) true 0]:Heap) [.arr 1 (List.replicate rw.length (.i 0)) true 0] && sameH ([]:Heap) []) && ((same (.i (rw.length:Int)) (.i (rw.length:Int)) && sameH ([.arr 1 (List.replicate rw.length (.i 0)) true 0]:Heap) [.arr 1 (List.replicate rw.length (.i 0)) true 0] && sameH ([]:Heap) []) && ((same (.i x0) (.i x0) && sameH ([.arr 1 (List.replicate rw.length (.i 0)) true 0]:Heap) [.arr 1 (List.replicate rw.length (.i 0)) true 0] && sameH ([]:Heap) []) && true)))=true):RT polCl 31 (sub [1,1,0] B31) (env31 (.imm .arg 1 rw) (.i st) (.imm .lit 1 []) (.i 0) (.i 0) y7 y8 y9 y10 y11 y12 y42 y43 y46 y47) [] .ret (env31 (.imm .arg 1 rw) (.i st) (.sl 0 0 rw.length (some rw.length) rw.length 1) (.i (IntKind.i64.wrap (2 * x0))) (.i 0) y7 y8 y9 y10 y11 y12 y42 y43 y46 y47) [.arr 1 (List.replicate rw.length (.i 0)) true 0] :=
  RunsTo.hin 0 60 [⟨3,2,.bool true,[]⟩,⟨4,2,.sl 0 0 rw.length (some rw.length) rw.length 1,[.arr 1 (List.replicate rw.length (.i 0)) true 0]⟩,⟨4,4,.vptr (.imm .arg 1 l0),[.arr 1 (List.replicate rw.length (.i 0)) true 0]⟩,⟨4,9,.vptr (.i x0),[.arr 1 (List.replicate rw.length (.i 0)) true 0]⟩] fun kf hk=>⟨_,by kernel_rfl,(oB [] (decide_eq_true g0) (oC (gS4) (oC (g1) (oP [.arr 1 (List.replicate rw.length (.i 0)) true 0] g2 (oP [.arr 1 (List.replicate rw.length (.i 0)) true 0] g3 .nil)))))⟩
theorem cl_c_1 (rw:List HV) (st:Int)  {y7 y8 y9 y10 y11 y12 y42 y43 y46 y47:HV}(g0:¬ ((rw.length:Int) < 3)):RT polCl 31 (sub [1,1,0] B31) (env31 (.imm .arg 1 rw) (.i st) (.imm .lit 1 []) (.i 0) (.i 0) y7 y8 y9 y10 y11 y12 y42 y43 y46 y47) [] .normal (env31 (.imm .arg 1 rw) (.i st) (.imm .lit 1 []) (.i 0) (.i 0) y7 y8 y9 y10 y11 y12 y42 y43 y46 y47) [] :=
  RunsTo.hin 0 60 [⟨3,2,.bool false,[]⟩] fun kf hk=>⟨_,by kernel_rfl,(oB [] (decide_eq_false g0) .nil)⟩
theorem cl_d_0 (rw:List HV) (st:Int)  {y7 y8 y9 y10 y11 y12 y42 y43 y46 y47:HV}:RT polCl 31 (sub [1,1,1,0] B31) (env31 (.imm .arg 1 rw) (.i st) (.imm .lit 1 []) (.i 0) (.i 0) y7 y8 y9 y10 y11 y12 y42 y43 y46 y47) [] .normal (env31 (.imm .arg 1 rw) (.i st) (.imm .lit 1 []) (.i 0) (.i 0) (.ptr 0 0 0 1) (.ptr 1 0 0 1) y9 y10 y11 y12 y42 y43 y46 y47) [.arr 11 [.agg [.i 0,.i 0,.i 0,.i 0,.i 0,.i 0,.i 0,.i 0,.i 0,.i 0,.i 0]] true 0,.arr 11 [.agg [.i 0,.i 0,.i 0,.i 0,.i 0,.i 0,.i 0,.i 0,.i 0,.i 0,.i 0]] true 0] :=
  RunsTo.hin 0 60 [] fun kf hk=>⟨_,by kernel_rfl,.nil⟩
theorem cl_e_0 (rw:List HV) (st:Int)  {y9 y10 y11 y12 y42 y43 y46 y47:HV} {sm:Int} {ag:List HV} (g0:∀ kf,callN Tp polCl (kf+1) 50 [.imm .arg 1 rw,.agg [.i 0,.i 0,.i 0,.i 0,.i 0,.i 0,.i 0,.i 0,.i 0,.i 0,.i 0]] [.arr 11 [.agg [.i 0,.i 0,.i 0,.i 0,.i 0,.i 0,.i 0,.i 0,.i 0,.i 0,.i 0]] true 0,.arr 11 [.agg [.i 0,.i 0,.i 0,.i 0,.i 0,.i 0,.i 0,.i 0,.i 0,.i 0,.i 0]] true 0]=some (.tuple [.i sm,.agg ag],[.arr 11 [.agg [.i 0,.i 0,.i 0,.i 0,.i 0,.i 0,.i 0,.i 0,.i 0,.i 0,.i 0]] true 0,.arr 11 [.agg [.i 0,.i 0,.i 0,.i 0,.i 0,.i 0,.i 0,.i 0,.i 0,.i 0,.i 0]] true 0])) (g1:storeV Tp [.arr 11 [.agg [.i 0,.i 0,.i 0,.i 0,.i 0,.i 0,.i 0,.i 0,.i 0,.i 0,.i 0]] true 0,.arr 11 [.agg [.i 0,.i 0,.i 0,.i 0,.i 0,.i 0,.i 0,.i 0,.i 0,.i 0,.i 0]] true 0,.arr 11 [.agg [.i 0,.i 0,.i 0,.i 0,.i 0,.i 0,.i 0,.i 0,.i 0,.i 0,.i 0]] true 0] 66 (.ptr 2 0 0 1) (.agg ag)=some [.arr 11 [.agg [.i 0,.i 0,.i 0,.i 0,.i 0,.i 0,.i 0,.i 0,.i 0,.i 0,.i 0]] true 0,.arr 11 [.agg [.i 0,.i 0,.i 0,.i 0,.i 0,.i 0,.i 0,.i 0,.i 0,.i 0,.i 0]] true 0,.arr 11 [.agg ag] true 0]):RT polCl 31 (sub [1,1,1,1,0] B31) (env31 (.imm .arg 1 rw) (.i st) (.imm .lit 1 []) (.i 0) (.i 0) (.ptr 0 0 0 1) (.ptr 1 0 0 1) y9 y10 y11 y12 y42 y43 y46 y47) [.arr 11 [.agg [.i 0,.i 0,.i 0,.i 0,.i 0,.i 0,.i 0,.i 0,.i 0,.i 0,.i 0]] true 0,.arr 11 [.agg [.i 0,.i 0,.i 0,.i 0,.i 0,.i 0,.i 0,.i 0,.i 0,.i 0,.i 0]] true 0] .normal (env31 (.imm .arg 1 rw) (.i st) (.imm .lit 1 []) (.i 0) (.i 0) (.ptr 0 0 0 1) (.ptr 1 0 0 1) (.i sm) (.ptr 2 0 0 1) y11 y12 y42 y43 y46 y47) [.arr 11 [.agg [.i 0,.i 0,.i 0,.i 0,.i 0,.i 0,.i 0,.i 0,.i 0,.i 0,.i 0]] true 0,.arr 11 [.agg [.i 0,.i 0,.i 0,.i 0,.i 0,.i 0,.i 0,.i 0,.i 0,.i 0,.i 0]] true 0,.arr 11 [.agg ag] true 0] :=
  RunsTo.hin 0 60 [⟨6,2,.tuple [.i sm,.agg ag],[.arr 11 [.agg [.i 0,.i 0,.i 0,.i 0,.i 0,.i 0,.i 0,.i 0,.i 0,.i 0,.i 0]] true 0,.arr 11 [.agg [.i 0,.i 0,.i 0,.i 0,.i 0,.i 0,.i 0,.i 0,.i 0,.i 0,.i 0]] true 0]⟩,⟨6,8,.tuple [],[.arr 11 [.agg [.i 0,.i 0,.i 0,.i 0,.i 0,.i 0,.i 0,.i 0,.i 0,.i 0,.i 0]] true 0,.arr 11 [.agg [.i 0,.i 0,.i 0,.i 0,.i 0,.i 0,.i 0,.i 0,.i 0,.i 0,.i 0]] true 0,.arr 11 [.agg ag] true 0]⟩] fun kf hk=>⟨_,by kernel_rfl,(oC (g0 kf) (oS g1 .nil))⟩
theorem cl_f_0 (rw:List HV) (st:Int) (xs bs ds:List HV) (bv:Int) {y11 y12 y42 y43 y46 y47:HV}:RT polCl 31 (sub [1,1,1,1,1,0,0] B31) (env31 (.imm .arg 1 rw) (.i st) (.imm .lit 1 []) (.i 0) (.i 0) (.ptr 0 0 0 1) (.ptr 1 0 0 1) (.i bv) (.ptr 2 0 0 1) y11 y12 y42 y43 y46 y47) [.arr 11 [.agg xs] true 0,.arr 11 [.agg bs] true 0,.arr 11 [.agg ds] true 0] .normal (env31 (.imm .arg 1 rw) (.i st) (.imm .lit 1 []) (.i 0) (.i 0) (.ptr 0 0 0 1) (.ptr 1 0 0 1) (.i bv) (.ptr 2 0 0 1) y11 y12 (.i st) (.i 0) y46 y47) [.arr 11 [.agg xs] true 0,.arr 11 [.agg bs] true 0,.arr 11 [.agg ds] true 0] :=
  RunsTo.hin 0 60 [] fun kf hk=>⟨_,by kernel_rfl,.nil⟩
theorem cl_g_0 (rw:List HV) (st:Int) (xs bs ds:List HV) (bv:Int) (k:Nat) {y11 y12 y46 y47:HV}(g0:(k:Int) < st):RunsTo Tp polCl 31 (sub [1,1,1,1,1,0,1,0,0,0] B31) (env31 (.imm .arg 1 rw) (.i st) (.imm .lit 1 []) (.i 0) (.i 0) (.ptr 0 0 0 1) (.ptr 1 0 0 1) (.i bv) (.ptr 2 0 0 1) y11 y12 (.i st) (.i (k:Int)) y46 y47) [.arr 11 [.agg xs] true 0,.arr 11 [.agg bs] true 0,.arr 11 [.agg ds] true 0] .normal [0,1,4,5,6,7,8,9,10,11,12,42,43,46,47,44] [(0,.imm .arg 1 rw),(1,.i st),(4,.imm .lit 1 []),(5,.i 0),(6,.i 0),(7,.ptr 0 0 0 1),(8,.ptr 1 0 0 1),(9,.i bv),(10,.ptr 2 0 0 1),(11,y11),(12,y12),(42,.i st),(43,.i (k:Int)),(46,y46),(47,y47),(44,.bool true)] [.arr 11 [.agg xs] true 0,.arr 11 [.agg bs] true 0,.arr 11 [.agg ds] true 0] :=
  RunsTo.hin 0 60 [⟨8,0,.bool true,[.arr 11 [.agg xs] true 0,.arr 11 [.agg bs] true 0,.arr 11 [.agg ds] true 0]⟩] fun kf hk=>⟨_,by kernel_rfl,(oB [.arr 11 [.agg xs] true 0,.arr 11 [.agg bs] true 0,.arr 11 [.agg ds] true 0] (decide_eq_true g0) .nil)⟩
theorem cl_g_1 (rw:List HV) (st:Int) (xs bs ds:List HV) (bv:Int) (k:Nat) {y11 y12 y46 y47:HV}(g0:¬ ((k:Int) < st)):RunsTo Tp polCl 31 (sub [1,1,1,1,1,0,1,0,0,0] B31) (env31 (.imm .arg 1 rw) (.i st) (.imm .lit 1 []) (.i 0) (.i 0) (.ptr 0 0 0 1) (.ptr 1 0 0 1) (.i bv) (.ptr 2 0 0 1) y11 y12 (.i st) (.i (k:Int)) y46 y47) [.arr 11 [.agg xs] true 0,.arr 11 [.agg bs] true 0,.arr 11 [.agg ds] true 0] .normal [0,1,4,5,6,7,8,9,10,11,12,42,43,46,47,44] [(0,.imm .arg 1 rw),(1,.i st),(4,.imm .lit 1 []),(5,.i 0),(6,.i 0),(7,.ptr 0 0 0 1),(8,.ptr 1 0 0 1),(9,.i bv),(10,.ptr 2 0 0 1),(11,y11),(12,y12),(42,.i st),(43,.i (k:Int)),(46,y46),(47,y47),(44,.bool false)] [.arr 11 [.agg xs] true 0,.arr 11 [.agg bs] true 0,.arr 11 [.agg ds] true 0] :=
  RunsTo.hin 0 60 [⟨8,0,.bool false,[.arr 11 [.agg xs] true 0,.arr 11 [.agg bs] true 0,.arr 11 [.agg ds] true 0]⟩] fun kf hk=>⟨_,by kernel_rfl,(oB [.arr 11 [.agg xs] true 0,.arr 11 [.agg bs] true 0,.arr 11 [.agg ds] true 0] (decide_eq_false g0) .nil)⟩
theorem cl_ht_0 (rw:List HV) (st:Int) (xs bs ds:List HV) (bv:Int) (k:Nat) {y11 y12 y46 y47:HV}:RT polCl 31 (sub [1,1,1,1,1,0,1,0,0,1,0] B31) [(0,.imm .arg 1 rw),(1,.i st),(4,.imm .lit 1 []),(5,.i 0),(6,.i 0),(7,.ptr 0 0 0 1),(8,.ptr 1 0 0 1),(9,.i bv),(10,.ptr 2 0 0 1),(11,y11),(12,y12),(42,.i st),(43,.i (k:Int)),(46,y46),(47,y47),(44,.bool true)] [.arr 11 [.agg xs] true 0,.arr 11 [.agg bs] true 0,.arr 11 [.agg ds] true 0] .normal (env31 (.imm .arg 1 rw) (.i st) (.imm .lit 1 []) (.i 0) (.i 0) (.ptr 0 0 0 1) (.ptr 1 0 0 1) (.i bv) (.ptr 2 0 0 1) y11 y12 (.i st) (.i (k:Int)) y46 y47) [.arr 11 [.agg xs] true 0,.arr 11 [.agg bs] true 0,.arr 11 [.agg ds] true 0] :=
  RunsTo.hin 0 60 [] fun kf hk=>⟨_,by kernel_rfl,.nil⟩
theorem cl_hf_0 (rw:List HV) (st:Int) (xs bs ds:List HV) (bv:Int) (k:Nat) {y11 y12 y46 y47:HV}:RT polCl 31 (sub [1,1,1,1,1,0,1,0,0,1,0] B31) [(0,.imm .arg 1 rw),(1,.i st),(4,.imm .lit 1 []),(5,.i 0),(6,.i 0),(7,.ptr 0 0 0 1),(8,.ptr 1 0 0 1),(9,.i bv),(10,.ptr 2 0 0 1),(11,y11),(12,y12),(42,.i st),(43,.i (k:Int)),(46,y46),(47,y47),(44,.bool false)] [.arr 11 [.agg xs] true 0,.arr 11 [.agg bs] true 0,.arr 11 [.agg ds] true 0] (.exit 0) (env31 (.imm .arg 1 rw) (.i st) (.imm .lit 1 []) (.i 0) (.i 0) (.ptr 0 0 0 1) (.ptr 1 0 0 1) (.i bv) (.ptr 2 0 0 1) y11 y12 (.i st) (.i (k:Int)) y46 y47) [.arr 11 [.agg xs] true 0,.arr 11 [.agg bs] true 0,.arr 11 [.agg ds] true 0] :=
  RunsTo.hin 0 60 [] fun kf hk=>⟨_,by kernel_rfl,.nil⟩
theorem cl_i_0 (rw:List HV) (st:Int) (xs bs ds:List HV) (bv:Int) (k:Nat) {y11 y12 y46 y47:HV}:RT polCl 31 (sub [1,1,1,1,1,0,1,0,0,1,1,0,0,0,0] B31) (env31 (.imm .arg 1 rw) (.i st) (.imm .lit 1 []) (.i 0) (.i 0) (.ptr 0 0 0 1) (.ptr 1 0 0 1) (.i bv) (.ptr 2 0 0 1) y11 y12 (.i st) (.i (k:Int)) y46 y47) [.arr 11 [.agg xs] true 0,.arr 11 [.agg bs] true 0,.arr 11 [.agg ds] true 0] .normal (env31 (.imm .arg 1 rw) (.i st) (.imm .lit 1 []) (.i 0) (.i 0) (.ptr 0 0 0 1) (.ptr 1 0 0 1) (.i bv) (.ptr 2 0 0 1) y11 y12 (.i st) (.i (k:Int)) (.i (rw.length:Int)) (.i 0)) [.arr 11 [.agg xs] true 0,.arr 11 [.agg bs] true 0,.arr 11 [.agg ds] true 0] :=
  RunsTo.hin 0 60 [] fun kf hk=>⟨_,by kernel_rfl,.nil⟩
theorem cl_j_0 (rw:List HV) (st:Int) (xs bs ds:List HV) (bv:Int) (k n i:Nat) {y11 y12:HV} {x0:Int} {x1:Int} {cs0:List HV} (g0:(i:Int) < (n:Int)) (g1:idxV Tp 66 (.ptr 0 0 0 1) (.i (i:Int))=some (.ptr 0 0 i 1)) (g2:loadV Tp [.arr 11 [.agg xs] true 0,.arr 11 [.agg bs] true 0,.arr 11 [.agg ds] true 0] 3 (.ptr 0 0 i 1)=some (.i x0)) (g3:idxV Tp 66 (.ptr 2 0 0 1) (.i (i:Int))=some (.ptr 2 0 i 1)) (g4:loadV Tp [.arr 11 [.agg xs] true 0,.arr 11 [.agg bs] true 0,.arr 11 [.agg ds] true 0] 3 (.ptr 2 0 i 1)=some (.i x1)) (g5:idxV Tp 66 (.ptr 0 0 0 1) (.i (i:Int))=some (.ptr 0 0 i 1)) (g6:storeV Tp [.arr 11 [.agg xs] true 0,.arr 11 [.agg bs] true 0,.arr 11 [.agg ds] true 0] 3 (.ptr 0 0 i 1) (.i (IntKind.i64.wrap (x0+IntKind.i64.wrap (x1 - 2))))=some [.arr 11 [.agg cs0] true 0,.arr 11 [.agg bs] true 0,.arr 11 [.agg ds] true 0]):RT polCl 31 (sub [1,1,1,1,1,0,1,0,0,1,1,0,0,0,1,0,0] B31) (env31 (.imm .arg 1 rw) (.i st) (.imm .lit 1 []) (.i 0) (.i 0) (.ptr 0 0 0 1) (.ptr 1 0 0 1) (.i bv) (.ptr 2 0 0 1) y11 y12 (.i st) (.i (k:Int)) (.i (n:Int)) (.i (i:Int))) [.arr 11 [.agg xs] true 0,.arr 11 [.agg bs] true 0,.arr 11 [.agg ds] true 0] .normal (env31 (.imm .arg 1 rw) (.i st) (.imm .lit 1 []) (.i 0) (.i 0) (.ptr 0 0 0 1) (.ptr 1 0 0 1) (.i bv) (.ptr 2 0 0 1) (.i (i:Int)) y12 (.i st) (.i (k:Int)) (.i (n:Int)) (.i (IntKind.i64.wrap ((i:Int)+1)))) [.arr 11 [.agg cs0] true 0,.arr 11 [.agg bs] true 0,.arr 11 [.agg ds] true 0] :=
  RunsTo.hin 0 60 [⟨10,0,.bool true,[.arr 11 [.agg xs] true 0,.arr 11 [.agg bs] true 0,.arr 11 [.agg ds] true 0]⟩,⟨12,1,.ptr 0 0 i 1,[.arr 11 [.agg xs] true 0,.arr 11 [.agg bs] true 0,.arr 11 [.agg ds] true 0]⟩,⟨12,2,.i x0,[.arr 11 [.agg xs] true 0,.arr 11 [.agg bs] true 0,.arr 11 [.agg ds] true 0]⟩,⟨12,4,.ptr 2 0 i 1,[.arr 11 [.agg xs] true 0,.arr 11 [.agg bs] true 0,.arr 11 [.agg ds] true 0]⟩,⟨12,5,.i x1,[.arr 11 [.agg xs] true 0,.arr 11 [.agg bs] true 0,.arr 11 [.agg ds] true 0]⟩,⟨12,8,.ptr 0 0 i 1,[.arr 11 [.agg xs] true 0,.arr 11 [.agg bs] true 0,.arr 11 [.agg ds] true 0]⟩,⟨12,9,.tuple [],[.arr 11 [.agg cs0] true 0,.arr 11 [.agg bs] true 0,.arr 11 [.agg ds] true 0]⟩] fun kf hk=>⟨_,by kernel_rfl,(oB [.arr 11 [.agg xs] true 0,.arr 11 [.agg bs] true 0,.arr 11 [.agg ds] true 0] (decide_eq_true g0) (oP [.arr 11 [.agg xs] true 0,.arr 11 [.agg bs] true 0,.arr 11 [.agg ds] true 0] g1 (oP [.arr 11 [.agg xs] true 0,.arr 11 [.agg bs] true 0,.arr 11 [.agg ds] true 0] g2 (oP [.arr 11 [.agg xs] true 0,.arr 11 [.agg bs] true 0,.arr 11 [.agg ds] true 0] g3 (oP [.arr 11 [.agg xs] true 0,.arr 11 [.agg bs] true 0,.arr 11 [.agg ds] true 0] g4 (oP [.arr 11 [.agg xs] true 0,.arr 11 [.agg bs] true 0,.arr 11 [.agg ds] true 0] g5 (oS g6 .nil)))))))⟩
theorem cl_j_1 (rw:List HV) (st:Int) (xs bs ds:List HV) (bv:Int) (k n i:Nat) {y11 y12:HV}(g0:¬ ((i:Int) < (n:Int))):RT polCl 31 (sub [1,1,1,1,1,0,1,0,0,1,1,0,0,0,1,0,0] B31) (env31 (.imm .arg 1 rw) (.i st) (.imm .lit 1 []) (.i 0) (.i 0) (.ptr 0 0 0 1) (.ptr 1 0 0 1) (.i bv) (.ptr 2 0 0 1) y11 y12 (.i st) (.i (k:Int)) (.i (n:Int)) (.i (i:Int))) [.arr 11 [.agg xs] true 0,.arr 11 [.agg bs] true 0,.arr 11 [.agg ds] true 0] (.exit 2) (env31 (.imm .arg 1 rw) (.i st) (.imm .lit 1 []) (.i 0) (.i 0) (.ptr 0 0 0 1) (.ptr 1 0 0 1) (.i bv) (.ptr 2 0 0 1) y11 y12 (.i st) (.i (k:Int)) (.i (n:Int)) (.i (i:Int))) [.arr 11 [.agg xs] true 0,.arr 11 [.agg bs] true 0,.arr 11 [.agg ds] true 0] :=
  RunsTo.hin 0 60 [⟨10,0,.bool false,[.arr 11 [.agg xs] true 0,.arr 11 [.agg bs] true 0,.arr 11 [.agg ds] true 0]⟩] fun kf hk=>⟨_,by kernel_rfl,(oB [.arr 11 [.agg xs] true 0,.arr 11 [.agg bs] true 0,.arr 11 [.agg ds] true 0] (decide_eq_false g0) .nil)⟩
theorem cl_k_0 (rw:List HV) (st:Int) (xs bs ds:List HV) (bv:Int) (k:Nat) {y11 y12 y46 y47:HV} {sm:Int} {ag:List HV} (g0:loadV Tp [.arr 11 [.agg xs] true 0,.arr 11 [.agg bs] true 0,.arr 11 [.agg ds] true 0] 66 (.ptr 0 0 0 1)=some (.agg xs)) (g1:∀ kf,callN Tp polCl (kf+1) 50 [.imm .arg 1 rw,.agg xs] [.arr 11 [.agg xs] true 0,.arr 11 [.agg bs] true 0,.arr 11 [.agg ds] true 0]=some (.tuple [.i sm,.agg ag],[.arr 11 [.agg xs] true 0,.arr 11 [.agg bs] true 0,.arr 11 [.agg ds] true 0])) (g2:storeV Tp [.arr 11 [.agg xs] true 0,.arr 11 [.agg bs] true 0,.arr 11 [.agg ds] true 0] 66 (.ptr 2 0 0 1) (.agg ag)=some [.arr 11 [.agg xs] true 0,.arr 11 [.agg bs] true 0,.arr 11 [.agg ag] true 0]) (g3:bv < sm) (g4:loadV Tp [.arr 11 [.agg xs] true 0,.arr 11 [.agg bs] true 0,.arr 11 [.agg ag] true 0] 66 (.ptr 0 0 0 1)=some (.agg xs)) (g5:storeV Tp [.arr 11 [.agg xs] true 0,.arr 11 [.agg bs] true 0,.arr 11 [.agg ag] true 0] 66 (.ptr 1 0 0 1) (.agg xs)=some [.arr 11 [.agg xs] true 0,.arr 11 [.agg xs] true 0,.arr 11 [.agg ag] true 0]):RT polCl 31 (sub [1,1,1,1,1,0,1,0,0,1,1,0,0,1] B31) (env31 (.imm .arg 1 rw) (.i st) (.imm .lit 1 []) (.i 0) (.i 0) (.ptr 0 0 0 1) (.ptr 1 0 0 1) (.i bv) (.ptr 2 0 0 1) y11 y12 (.i st) (.i (k:Int)) y46 y47) [.arr 11 [.agg xs] true 0,.arr 11 [.agg bs] true 0,.arr 11 [.agg ds] true 0] .normal (env31 (.imm .arg 1 rw) (.i st) (.imm .lit 1 []) (.i 0) (.i 0) (.ptr 0 0 0 1) (.ptr 1 0 0 1) (.i sm) (.ptr 2 0 0 1) y11 (.i sm) (.i st) (.i (k:Int)) y46 y47) [.arr 11 [.agg xs] true 0,.arr 11 [.agg xs] true 0,.arr 11 [.agg ag] true 0] :=
  RunsTo.hin 0 60 [⟨15,1,.agg xs,[.arr 11 [.agg xs] true 0,.arr 11 [.agg bs] true 0,.arr 11 [.agg ds] true 0]⟩,⟨15,2,.tuple [.i sm,.agg ag],[.arr 11 [.agg xs] true 0,.arr 11 [.agg bs] true 0,.arr 11 [.agg ds] true 0]⟩,⟨15,7,.tuple [],[.arr 11 [.agg xs] true 0,.arr 11 [.agg bs] true 0,.arr 11 [.agg ag] true 0]⟩,⟨16,2,.bool true,[.arr 11 [.agg xs] true 0,.arr 11 [.agg bs] true 0,.arr 11 [.agg ag] true 0]⟩,⟨17,1,.agg xs,[.arr 11 [.agg xs] true 0,.arr 11 [.agg bs] true 0,.arr 11 [.agg ag] true 0]⟩,⟨17,3,.tuple [],[.arr 11 [.agg xs] true 0,.arr 11 [.agg xs] true 0,.arr 11 [.agg ag] true 0]⟩] fun kf hk=>⟨_,by kernel_rfl,(oP [.arr 11 [.agg xs] true 0,.arr 11 [.agg bs] true 0,.arr 11 [.agg ds] true 0] g0 (oC (g1 kf) (oS g2 (oB [.arr 11 [.agg xs] true 0,.arr 11 [.agg bs] true 0,.arr 11 [.agg ag] true 0] (decide_eq_true g3) (oP [.arr 11 [.agg xs] true 0,.arr 11 [.agg bs] true 0,.arr 11 [.agg ag] true 0] g4 (oS g5 .nil))))))⟩
theorem cl_k_1 (rw:List HV) (st:Int) (xs bs ds:List HV) (bv:Int) (k:Nat) {y11 y12 y46 y47:HV} {sm:Int} {ag:List HV} (g0:loadV Tp [.arr 11 [.agg xs] true 0,.arr 11 [.agg bs] true 0,.arr 11 [.agg ds] true 0] 66 (.ptr 0 0 0 1)=some (.agg xs)) (g1:∀ kf,callN Tp polCl (kf+1) 50 [.imm .arg 1 rw,.agg xs] [.arr 11 [.agg xs] true 0,.arr 11 [.agg bs] true 0,.arr 11 [.agg ds] true 0]=some (.tuple [.i sm,.agg ag],[.arr 11 [.agg xs] true 0,.arr 11 [.agg bs] true 0,.arr 11 [.agg ds] true 0])) (g2:storeV Tp [.arr 11 [.agg xs] true 0,.arr 11 [.agg bs] true 0,.arr 11 [.agg ds] true 0] 66 (.ptr 2 0 0 1) (.agg ag)=some [.arr 11 [.agg xs] true 0,.arr 11 [.agg bs] true 0,.arr 11 [.agg ag] true 0]) (g3:¬ (bv < sm)):RT polCl 31 (sub [1,1,1,1,1,0,1,0,0,1,1,0,0,1] B31) (env31 (.imm .arg 1 rw) (.i st) (.imm .lit 1 []) (.i 0) (.i 0) (.ptr 0 0 0 1) (.ptr 1 0 0 1) (.i bv) (.ptr 2 0 0 1) y11 y12 (.i st) (.i (k:Int)) y46 y47) [.arr 11 [.agg xs] true 0,.arr 11 [.agg bs] true 0,.arr 11 [.agg ds] true 0] .normal (env31 (.imm .arg 1 rw) (.i st) (.imm .lit 1 []) (.i 0) (.i 0) (.ptr 0 0 0 1) (.ptr 1 0 0 1) (.i bv) (.ptr 2 0 0 1) y11 (.i sm) (.i st) (.i (k:Int)) y46 y47) [.arr 11 [.agg xs] true 0,.arr 11 [.agg bs] true 0,.arr 11 [.agg ag] true 0] :=
  RunsTo.hin 0 60 [⟨15,1,.agg xs,[.arr 11 [.agg xs] true 0,.arr 11 [.agg bs] true 0,.arr 11 [.agg ds] true 0]⟩,⟨15,2,.tuple [.i sm,.agg ag],[.arr 11 [.agg xs] true 0,.arr 11 [.agg bs] true 0,.arr 11 [.agg ds] true 0]⟩,⟨15,7,.tuple [],[.arr 11 [.agg xs] true 0,.arr 11 [.agg bs] true 0,.arr 11 [.agg ag] true 0]⟩,⟨16,2,.bool false,[.arr 11 [.agg xs] true 0,.arr 11 [.agg bs] true 0,.arr 11 [.agg ag] true 0]⟩] fun kf hk=>⟨_,by kernel_rfl,(oP [.arr 11 [.agg xs] true 0,.arr 11 [.agg bs] true 0,.arr 11 [.agg ds] true 0] g0 (oC (g1 kf) (oS g2 (oB [.arr 11 [.agg xs] true 0,.arr 11 [.agg bs] true 0,.arr 11 [.agg ag] true 0] (decide_eq_false g3) .nil))))⟩
theorem cl_l_0 (rw:List HV) (st:Int) (xs bs ds:List HV) (bv:Int) (k:Nat) {y11 y12 y46 y47:HV}:RT polCl 31 (sub [1,1,1,1,1,0,1,0,0,1,1,1] B31) (env31 (.imm .arg 1 rw) (.i st) (.imm .lit 1 []) (.i 0) (.i 0) (.ptr 0 0 0 1) (.ptr 1 0 0 1) (.i bv) (.ptr 2 0 0 1) y11 y12 (.i st) (.i (k:Int)) y46 y47) [.arr 11 [.agg xs] true 0,.arr 11 [.agg bs] true 0,.arr 11 [.agg ds] true 0] .normal (env31 (.imm .arg 1 rw) (.i st) (.imm .lit 1 []) (.i 0) (.i 0) (.ptr 0 0 0 1) (.ptr 1 0 0 1) (.i bv) (.ptr 2 0 0 1) y11 y12 (.i st) (.i (IntKind.i64.wrap ((k:Int)+1))) y46 y47) [.arr 11 [.agg xs] true 0,.arr 11 [.agg bs] true 0,.arr 11 [.agg ds] true 0] :=
  RunsTo.hin 0 60 [] fun kf hk=>⟨_,by kernel_rfl,.nil⟩
theorem cl_m_0 (rw:List HV) (st:Int) (xs bs ds:List HV) (bv:Int) {y11 y12 y42 y43 y46 y47:HV} {m:Nat} {ts:List HV} (g0:sliceV Tp 66 (.ptr 1 0 0 1) none (some (.i (rw.length:Int))) none=some (.aview 1 0 0 rw.length)) (g1:∀ kf,callN Tp polCl (kf+1) 52 [.aview 1 0 0 rw.length] [.arr 11 [.agg xs] true 0,.arr 11 [.agg bs] true 0,.arr 11 [.agg ds] true 0]=some (.sl 3 0 m none m 1,[.arr 11 [.agg xs] true 0,.arr 11 [.agg bs] true 0,.arr 11 [.agg ds] true 0,.arr 1 ts true 0])):RT polCl 31 (sub [1,1,1,1,1,1] B31) (env31 (.imm .arg 1 rw) (.i st) (.imm .lit 1 []) (.i 0) (.i 0) (.ptr 0 0 0 1) (.ptr 1 0 0 1) (.i bv) (.ptr 2 0 0 1) y11 y12 y42 y43 y46 y47) [.arr 11 [.agg xs] true 0,.arr 11 [.agg bs] true 0,.arr 11 [.agg ds] true 0] .ret (env31 (.imm .arg 1 rw) (.i st) (.sl 3 0 m none m 1) (.i bv) (.i 0) (.ptr 0 0 0 1) (.ptr 1 0 0 1) (.i bv) (.ptr 2 0 0 1) y11 y12 y42 y43 y46 y47) [.arr 11 [.agg xs] true 0,.arr 11 [.agg bs] true 0,.arr 11 [.agg ds] true 0,.arr 1 ts true 0] :=
  RunsTo.hin 0 60 [⟨19,2,.aview 1 0 0 rw.length,[.arr 11 [.agg xs] true 0,.arr 11 [.agg bs] true 0,.arr 11 [.agg ds] true 0]⟩,⟨19,3,.sl 3 0 m none m 1,[.arr 11 [.agg xs] true 0,.arr 11 [.agg bs] true 0,.arr 11 [.agg ds] true 0,.arr 1 ts true 0]⟩] fun kf hk=>⟨_,by kernel_rfl,(oP [.arr 11 [.agg xs] true 0,.arr 11 [.agg bs] true 0,.arr 11 [.agg ds] true 0] g0 (oC (g1 kf) .nil))⟩
end Go.Proofs.Ytlendaofkmhgmaa
end
section
open Go Go.HL Go.HL.So
namespace Go.Proofs.Ytlendaofkmhgmaa
open Go.Proofs.Try renaming prog → Tp
open Go.HL.HV renaming undef → Ud
theorem res31:Try.f31.results.toList=[.tmp 4,.tmp 5,.tmp 6]:=by kernel_rfl
section
variable {d:List (List Int)} {st:Int}
abbrev clE (d:List (List Int)) (st bv:Int) (v11 v12 v42 v43 v46 v47:HV):Env:=(env31 (.imm .arg 1 (d.map encR)) (.int .i64 st) (.imm .lit 1 []) (.int .i64 0) (.int .i64 0) (.ptr 0 0 0 1) (.ptr 1 0 0 1) (.int .i64 bv) (.ptr 2 0 0 1) v11 v12 v42 v43 v46 v47)
abbrev clH (xs bs ds:List Int):Heap:=[pB xs,pB bs,pB ds]
theorem cl_in (hd:okD d) (h2:2 ≤ d.length) {p bs:List Int} {j:Nat} {bv:Int} (hp:PB d.length j p) (hj:j ≤ 200) {kN:Nat}:∀ k i (u:List Int),i+k=d.length → u.length=11 → (∀ x,x < 11 → u.getD x 0=if x < i then (cstep d p).getD x 0 else (pad p).getD x 0) →
    ∃ y11,RT polCl 31 (sub [1,1,1,1,1,0,1,0,0,1,1,0,0,0,1,0] B31) (clE d st bv Ud Ud (.int .i64 st) (.int .i64 (kN:Int)) (.int .i64 (d.length:Int)) (.int .i64 (i:Int))) (clH u bs (degs (chosen d p))) (.exit 2)
      (clE d st bv y11 Ud (.int .i64 st) (.int .i64 (kN:Int)) (.int .i64 (d.length:Int)) (.int .i64 (d.length:Int))) (clH (pad (cstep d p)) bs (degs (chosen d p))):=by
  have hdn:=hd.1
  have hda:=degs_at (p:=p) hd h2
  intro k
  induction k with
  | zero =>
    intro i u hi hu hx
    have:i=d.length:=by omega
    subst this
    have e:u=pad (cstep d p):=li_ext (by rw [hu,pad_len (by rw [cstep_len]; omega)]) fun x hxl=>by
      rw [hu] at hxl
      rw [hx x hxl]
      split
      · rw [pad_get _ _ (by rw [cstep_len]; assumption)]
      · rw [pad_hi (l:=p) (by rw [hp.1]; omega) hxl,pad_hi (l:=cstep d p) (by rw [cstep_len]; omega) hxl]
    rw [e]
    exact ⟨_,lpo ((cl_j_1 (d.map encR) st ((pad (cstep d p)).map encI) (bs.map encI) ((degs (chosen d p)).map encI) bv kN d.length d.length (y11:=Ud) (y12:=Ud) (by omega)))⟩
  | succ k ih =>
    intro i u hi hu hx
    have hxi:=hx i (by omega)
    rw [if_neg (by omega),pad_get _ _ (by rw [hp.1]; omega)] at hxi
    have b1:=hp.2 i (by omega)
    have b2:=hda.2 i (by omega)
    have w1:IntKind.i64.wrap ((degs (chosen d p)).getD i 0 - 2)=(degs (chosen d p)).getD i 0 - 2:=wrap_id (by omega) (by omega)
    have w2:IntKind.i64.wrap (u.getD i 0+((degs (chosen d p)).getD i 0 - 2))=(cstep d p).getD i 0:=by
      rw [cstep_at (by omega),hxi]; exact wrap_id (by omega) (by omega)
    have s:=cl_j_0 (d.map encR) st (u.map encI) (bs.map encI) ((degs (chosen d p)).map encI) bv kN d.length i (y11:=Ud) (y12:=Ud) (by omega) (px (H:=[]) (by omega)) (pl_at (H:=clH u bs (degs (chosen d p))) (b:=0) rfl hu (by omega)) (px (H:=[]) (by omega)) (pl_at (H:=clH u bs (degs (chosen d p))) (b:=2) rfl hda.1 (by omega)) (px (H:=[]) (by omega))
      (by rw [w1,w2]; exact pst (H:=clH u bs (degs (chosen d p))) (b:=0) (i:=i) rfl hu (by omega) _)
    rw [wrap_succ (by omega)] at s
    obtain ⟨y11,r⟩:=ih (i+1) (u.set i ((cstep d p).getD i 0)) (by omega) (by simpa using hu) (fun x hxl=>by
      rw [getDs _ _ _ _ (by omega)]
      by_cases e:i=x
      · subst e; rw [if_pos rfl,if_pos (by omega)]
      · rw [if_neg e,hx x hxl]
        by_cases c:x < i
        · rw [if_pos c,if_pos (by omega)]
        · rw [if_neg c,if_neg (by omega)])
    exact ⟨y11,lop (s) (gc_eq _ rfl) (r)⟩
theorem cl_out (hd:okD d) (h2:2 ≤ d.length) {s:Nat} (hs:s ≤ 100):∀ k i (p b:List Int) (v:Int),i+k=s → PB d.length i p → b.length=d.length →
    ∃ y11 y12 y42 y43 y46 y47 xs ds,RT polCl 31 (sub [1,1,1,1,1,0,1,0] B31) (clE d (s:Int) v Ud Ud (.int .i64 (s:Int)) (.int .i64 (i:Int)) Ud Ud) (clH (pad p) (pad b) (degs (chosen d p))) (.exit 0)
      (clE d (s:Int) (clim d k p b v).2 y11 y12 y42 y43 y46 y47) (clH xs (pad (clim d k p b v).1) ds):=by
  have hdn:=hd.1
  intro k
  induction k with
  | zero =>
    intro i p b v hi hp hb
    have:i=s:=by omega
    subst this
    have s1:=cl_g_1 (d.map encR) (i:Int) ((pad p).map encI) ((pad b).map encI) ((degs (chosen d p)).map encI) v i (y11:=Ud) (y12:=Ud) (y46:=Ud) (y47:=Ud) (by omega)
    have s2:=cl_hf_0 (d.map encR) (i:Int) ((pad p).map encI) ((pad b).map encI) ((degs (chosen d p)).map encI) v i (y11:=Ud) (y12:=Ud) (y46:=Ud) (y47:=Ud)
    exact ⟨_,_,_,_,_,_,_,_,lpo (sq (s1) (sqo (s2) (c:=sub [1,1,1,1,1,0,1,0,0,1] B31) (b:=sub [1,1,1,1,1,0,1,0,0,1,1] B31)) (c:=sub [1,1,1,1,1,0,1,0,0] B31))⟩
  | succ k ih =>
    intro i p b v hi hp hb
    have hda:=degs_at (p:=p) hd h2
    have hp':=hp.step hd h2
    have s1:=cl_g_0 (d.map encR) (s:Int) ((pad p).map encI) ((pad b).map encI) ((degs (chosen d p)).map encI) v i (y11:=Ud) (y12:=Ud) (y46:=Ud) (y47:=Ud) (by omega)
    have s2:=cl_ht_0 (d.map encR) (s:Int) ((pad p).map encI) ((pad b).map encI) ((degs (chosen d p)).map encI) v i (y11:=Ud) (y12:=Ud) (y46:=Ud) (y47:=Ud)
    have s3:=cl_i_0 (d.map encR) (s:Int) ((pad p).map encI) ((pad b).map encI) ((degs (chosen d p)).map encI) v i (y11:=Ud) (y12:=Ud) (y46:=Ud) (y47:=Ud)
    rw [List.length_map] at s3
    obtain ⟨z11,r0⟩:=cl_in (st:=(s:Int)) (bs:=pad b) (bv:=v) (kN:=i) hd h2 hp (by omega) d.length 0 (pad p) (by omega) (pad_len (by rw [hp.1]; omega)) (fun x hx=>by rw [if_neg (by omega)])
    have hq:=q50 (pol':=polCl) (by kernel_rfl) hd (pad_small (l:=cstep d p) (by rw [cstep_len]; omega) (hp'.ok (by omega))) (clH (pad (cstep d p)) (pad b) (degs (chosen d p))) (arg_rw _ d)
    rw [bnd_pad (by omega) (cstep_len d p),chosen_cong (p:=pad (cstep d p)) (p':=cstep d p) (by omega) (fun a ha=>pad_get _ a (by rw [cstep_len]; exact ha))] at hq
    have hl11:(pad (cstep d p)).length=11:=pad_len (by rw [cstep_len]; omega)
    have hl11':(pad b).length=11:=pad_len (by omega)
    have hda':=degs_at (p:=cstep d p) hd h2
    rw [clim]
    by_cases c:v < boundS d (cstep d p)
    · have s4:=cl_k_0 (d.map encR) (s:Int) ((pad (cstep d p)).map encI) ((pad b).map encI) ((degs (chosen d p)).map encI) v i (y12:=Ud) (y11:=z11) (y46:=.int .i64 (d.length:Int)) (y47:=.int .i64 (d.length:Int)) (pl_all (b:=0) rfl hl11) hq (pst_all (H:=clH (pad (cstep d p)) (pad b) (degs (chosen d p))) (b:=2) (t:=degs (chosen d p)) rfl hda.1 hda'.1) c (pl_all (H:=clH (pad (cstep d p)) (pad b) (degs (chosen d (cstep d p)))) (b:=0) rfl hl11) (pst_all (H:=clH (pad (cstep d p)) (pad b) (degs (chosen d (cstep d p)))) (b:=1) (t:=pad b) rfl hl11' hl11)
      have s5:=cl_l_0 (d.map encR) (s:Int) ((pad (cstep d p)).map encI) ((pad (cstep d p)).map encI) ((degs (chosen d (cstep d p))).map encI) (boundS d (cstep d p)) i (y11:=z11) (y12:=.int .i64 (boundS d (cstep d p))) (y46:=.int .i64 (d.length:Int)) (y47:=.int .i64 (d.length:Int))
      rw [wrap_succ (by omega)] at s5
      obtain ⟨y11,y12,y42,y43,y46,y47,xs,ds,r⟩:=ih (i+1) (cstep d p) (cstep d p) (boundS d (cstep d p)) (by omega) hp' (cstep_len d p)
      rw [if_pos c,if_pos c]
      exact ⟨y11,y12,y42,y43,y46,y47,xs,ds,lop (sq (s1) (sq (s2) (sq (RunsTo.block_normal (i:=1) (c:=sub [1,1,1,1,1,0,1,0,0,1,1,0] B31) (sq (sq (s3) (bke (c:=sub [1,1,1,1,1,0,1,0,0,1,1,0,0,0,1] B31) (lpi (e0:=(clE d (s:Int) v Ud Ud (.int .i64 (s:Int)) (.int .i64 (i:Int)) (.int .i64 (d.length:Int)) (.int .i64 ((0:Nat):Int)))) r0 (b:=sub [1,1,1,1,1,0,1,0,0,1,1,0,0,0,1,0,0] B31))) (c:=sub [1,1,1,1,1,0,1,0,0,1,1,0,0,0] B31)) (s4) (c:=sub [1,1,1,1,1,0,1,0,0,1,1,0,0] B31)) (by kernel_rfl)) (s5) (c:=sub [1,1,1,1,1,0,1,0,0,1,1] B31)) (c:=sub [1,1,1,1,1,0,1,0,0,1] B31)) (c:=sub [1,1,1,1,1,0,1,0,0] B31)) (gc_eq _ rfl) (r)⟩
    · have s4:=cl_k_1 (d.map encR) (s:Int) ((pad (cstep d p)).map encI) ((pad b).map encI) ((degs (chosen d p)).map encI) v i (y12:=Ud) (y11:=z11) (y46:=.int .i64 (d.length:Int)) (y47:=.int .i64 (d.length:Int)) (pl_all (b:=0) rfl hl11) hq (pst_all (H:=clH (pad (cstep d p)) (pad b) (degs (chosen d p))) (b:=2) (t:=degs (chosen d p)) rfl hda.1 hda'.1) c
      have s5:=cl_l_0 (d.map encR) (s:Int) ((pad (cstep d p)).map encI) ((pad b).map encI) ((degs (chosen d (cstep d p))).map encI) v i (y11:=z11) (y12:=.int .i64 (boundS d (cstep d p))) (y46:=.int .i64 (d.length:Int)) (y47:=.int .i64 (d.length:Int))
      rw [wrap_succ (by omega)] at s5
      obtain ⟨y11,y12,y42,y43,y46,y47,xs,ds,r⟩:=ih (i+1) (cstep d p) b v (by omega) hp' hb
      rw [if_neg c,if_neg c]
      exact ⟨y11,y12,y42,y43,y46,y47,xs,ds,lop (sq (s1) (sq (s2) (sq (RunsTo.block_normal (i:=1) (c:=sub [1,1,1,1,1,0,1,0,0,1,1,0] B31) (sq (sq (s3) (bke (c:=sub [1,1,1,1,1,0,1,0,0,1,1,0,0,0,1] B31) (lpi (e0:=(clE d (s:Int) v Ud Ud (.int .i64 (s:Int)) (.int .i64 (i:Int)) (.int .i64 (d.length:Int)) (.int .i64 ((0:Nat):Int)))) r0 (b:=sub [1,1,1,1,1,0,1,0,0,1,1,0,0,0,1,0,0] B31))) (c:=sub [1,1,1,1,1,0,1,0,0,1,1,0,0,0] B31)) (s4) (c:=sub [1,1,1,1,1,0,1,0,0,1,1,0,0] B31)) (by kernel_rfl)) (s5) (c:=sub [1,1,1,1,1,0,1,0,0,1,1] B31)) (c:=sub [1,1,1,1,1,0,1,0,0,1] B31)) (c:=sub [1,1,1,1,1,0,1,0,0] B31)) (gc_eq _ rfl) (r)⟩
end
theorem slArr {n:Nat} (h:n ≤ 11) {b:Nat}:sliceV Tp 66 (.ptr b 0 0 1) none (some (.int .i64 (n:Int))) none=some (.aview b 0 0 n):=by
  have e:boundV (some (.int .i64 (n:Int)))=some (some n):=by
    show (if (0:Int) ≤ (n:Int) then some (some ((n:Int)).toNat) else none)=_
    rw [if_pos (by omega),Int.toNat_natCast]
  have ha:tyAgg Tp 3=false:=by kernel_rfl
  simp only [sliceV,e,boundV,u66,z3]
  simp [h,ha]
theorem arg_av {H:Heap} {b n:Nat} {u:List Int} (hb:H[b]?=some (pB u)) (hn:n ≤ u.length):toArg H 6 (.aview b 0 0 n)=some (.imm .arg 1 ((u.take n).map encI)):=by
  have hm:mapO (toArg H 5) ((u.take n).map encI)=some ((u.take n).map encI):=mapO_self (f:=toArg H 5) (g:=encI) (fun _=>rfl) _
  have e:∀ B,H[b]?=B → toArg H 6 (.aview b 0 0 n)=(match B with | some (.arr _ els _ _)=>(match els[0]? with | some (HV.agg cs)=>if els.length=1∧0+n ≤ cs.length then (match mapO (toArg H 5) ((cs.drop 0).take n) with | some l=>some (HV.imm .arg 1 l) | none=>none) else none | _=>none) | _=>none):=fun B hB=>by subst hB; rfl
  rw [e _ hb]
  show (if [HV.agg (u.map encI)].length=1∧0+n ≤ (u.map encI).length then (match mapO (toArg H 5) (((u.map encI).drop 0).take n) with | some l=>some (HV.imm .arg 1 l) | none=>none) else none)=_
  rw [if_pos ⟨rfl,by rw [List.length_map]; omega⟩,List.drop_zero,← List.map_take,hm]
theorem q52a {pol':Pol} (hp:pol'.prim 52=some clone52) {H:Heap} {b n:Nat} {u:List Int} (hb:H[b]?=some (pB u)) (hn:n ≤ u.length) (hu:u.length ≤ 1000) (h0:1 ≤ n) :
    ∀ kf,callN Tp pol' (kf+1) 52 [.aview b 0 0 n] H=some (.sl H.length 0 n none n 1,H ++ [bI (u.take n)]):=fun kf=>by
  have hl:(u.take n).length=n:=by rw [List.length_take]; omega
  rw [prim_call (pol:=pol') (g:=52) (F:=clone52) hp (rs:=[.imm .arg 1 ((u.take n).map encI)]) (by simp only [mapO,arg_av hb hn]) (res:=.own 1 ((u.take n).map encI)) (by simp only [clone52,liF,mapO_map decI_enc]; rw [if_pos (by omega)]),recv_ints,hl]
theorem pad_take {n:Nat} {l:List Int} (h:l.length=n):(pad l).take n=l:=by rw [pad,← h,List.take_left]
open Classical in
theorem climb_ok:PrimOk Tp 31 climb31:=by
  refine primOk_pure (pol:=polCl) (fn:=Try.f31) (cd:=B31) follows_mixed soundCl (by kernel_rfl) (by kernel_rfl) (fnok polCl.prim _ _ (by kernel_rfl)) (by kernel_rfl) ?_
  intro args res h
  obtain ⟨d,s0,rfl,hq⟩:=riF_inv h
  clear h
  split at hq
  case isFalse=>cases hq
  rename_i hc
  cases hq
  have a:=cl_a_0 (d.map encR) s0
  have bad:∀ (E:Env) (Hd:Heap),RT polCl 31 (sub [1,0] B31) (env31 (.imm .arg 1 (d.map encR)) (.int .i64 s0) (.imm .lit 1 []) (.int .i64 0) (.int .i64 0) Ud Ud Ud Ud Ud Ud Ud Ud Ud Ud) [] .ret E Hd → E.get 4=.imm .lit 1 [] → E.get 5=.int .i64 0 → E.get 6=.int .i64 2 → ¬ (okD d∧0 ≤ s0∧s0 ≤ 100) →
      ∃ x E H' v,RT polCl 31 B31 (args0 [.imm .arg 1 (d.map encR),.int .i64 s0]) [] x E H'∧(∀ i,x ≠ .exit i)∧resultsV Tp Try.f31 E H'=some v∧toRes H' (polCl.deep 31) v=some (if okD d∧0 ≤ s0∧s0 ≤ 100 then .tuple [.own 1 ((climT d s0.toNat).1.map encI),.int .i64 (climT d s0.toNat).2,.int .i64 0] else .tuple [.own 1 [],.int .i64 0,.int .i64 2]):=by
    intro E Hd t h4 h5 h6 hn
    rw [if_neg hn]
    exact ⟨_,_,_,.tuple [.imm .lit 1 [],.int .i64 0,.int .i64 2],sq (a) (sqo (t) (c:=sub [1] B31) (b:=sub [1,1] B31)) (c:=B31),by simp,by simp only [resultsV,res31,mapO,resultV,h4,h5,h6],rfl⟩
  by_cases c1:okD d
  · have hdn:=c1.1
    have m1:=prim_miles (pol':=polCl) (by kernel_rfl) hc.1 hc.2 [] true (okB_true c1)
    by_cases c2:0 ≤ s0∧s0 ≤ 100
    · rw [if_pos ⟨c1,c2⟩]
      obtain ⟨s,rfl⟩:∃ x:Nat,s0=(x:Int):=⟨s0.toNat,by omega⟩
      rw [Int.toNat_natCast]
      have b:=cl_b_0 (d.map encR) (s:Int) (y7:=Ud) (y8:=Ud) (y9:=Ud) (y10:=Ud) (y11:=Ud) (y12:=Ud) (y42:=Ud) (y43:=Ud) (y46:=Ud) (y47:=Ud) m1 c2
      by_cases c3:d.length < 3
      · have mk:=makeV_ok (P:=Tp) (H:=[]) (t:=23) (e:=3) (k:=1) (bt:=8) (zv:=.int .i64 0) (n:=(d.length:Int)) u23 (by kernel_rfl) (by simp [cellsOf,cellV]) (by simp [cellsOf]) (by omega) (by omega) (by simp only [roomMax]; omega)
        rw [Int.toNat_natCast] at mk
        have hrep:List.replicate d.length (HV.int .i64 0)=(zer d.length).map encI:=by simp [encI,zer]
        have e1:IntKind.i64.wrap (((d.map encR).length:Int) - 1)=((d.length - 1:Nat):Int):=by rw [List.length_map,wrap_pred (by omega) (by omega)]
        have b1:=c1.at (i:=0) (j:=d.length - 1) (by omega) (by omega)
        have c:=cl_c_0 (d.map encR) (s:Int) (y7:=Ud) (y8:=Ud) (y9:=Ud) (y10:=Ud) (y11:=Ud) (y12:=Ud) (y42:=Ud) (y43:=Ud) (y46:=Ud) (y47:=Ud) (by rw [List.length_map]; omega) (by rw [List.length_map]; exact mk) (g22' (d:=d) (v:=0) (by omega)) (by rw [e1]; exact g23' c1 (by omega) (by omega)) (by
          rw [List.length_map,hrep]
          have:=same_bI (zer d.length)
          simp only [bI] at this
          simp only [same,same_li,this,sameH,beq_self_eq_true,Bool.and_self])
        rw [wrap_id (by omega) (by omega),List.length_map,hrep] at c
        have t:=sq (a) (sq (b) (sqo (c) (c:=sub [1,1] B31) (b:=sub [1,1,1] B31)) (c:=sub [1] B31)) (c:=B31)
        have e:climT d s=(zer d.length,2 * at2 d 0 (d.length - 1)):=by
          unfold climT
          rw [if_pos c3]
          unfold bndT
          rw [if_pos c3]
        rw [e]
        exact ⟨_,_,_,.tuple [.sl 0 0 d.length (some d.length) d.length 1,.int .i64 (2 * at2 d 0 (d.length - 1)),.int .i64 0],t,by simp,by simp only [resultsV,res31]; rfl,toRes_li2 (b:=0) (o:=zer d.length) rfl (by simp [zer]) _ 0⟩
      · have c:=cl_c_1 (d.map encR) (s:Int) (y7:=Ud) (y8:=Ud) (y9:=Ud) (y10:=Ud) (y11:=Ud) (y12:=Ud) (y42:=Ud) (y43:=Ud) (y46:=Ud) (y47:=Ud) (by rw [List.length_map]; omega)
        have dd:=cl_d_0 (d.map encR) (s:Int) (y7:=Ud) (y8:=Ud) (y9:=Ud) (y10:=Ud) (y11:=Ud) (y12:=Ud) (y42:=Ud) (y43:=Ud) (y46:=Ud) (y47:=Ud)
        have hz:=pad_zer (n:=d.length) hdn.2
        have hzl:(zer d.length).length=d.length:=by simp [zer]
        have hq:=q50 (pol':=polCl) (by kernel_rfl) c1 (ps:=List.replicate 11 0) ⟨rfl,fun x hx=>by have:=(List.mem_replicate.1 hx).2; omega⟩ [pB (List.replicate 11 0),pB (List.replicate 11 0)] (arg_rw _ d)
        have hb:=bnd_pad (d:=d) (p:=zer d.length) (by omega) hzl
        have hch:=chosen_cong (d:=d) (p:=pad (zer d.length)) (p':=zer d.length) (by omega) (fun a ha=>pad_get _ a (by rw [hzl]; exact ha))
        rw [hz] at hb hch
        rw [hb,hch] at hq
        have hda:=degs_at (p:=zer d.length) c1 (by omega)
        have e:=cl_e_0 (d.map encR) (s:Int) (y9:=Ud) (y10:=Ud) (y11:=Ud) (y12:=Ud) (y42:=Ud) (y43:=Ud) (y46:=Ud) (y47:=Ud) hq (pst_all (H:=[pB (List.replicate 11 0),pB (List.replicate 11 0),pB (List.replicate 11 0)]) (b:=2) (t:=List.replicate 11 0) rfl rfl hda.1)
        have f:=cl_f_0 (d.map encR) (s:Int) ((List.replicate 11 (0:Int)).map encI) ((List.replicate 11 (0:Int)).map encI) ((degs (chosen d (zer d.length))).map encI) (boundS d (zer d.length)) (y11:=Ud) (y12:=Ud) (y42:=Ud) (y43:=Ud) (y46:=Ud) (y47:=Ud)
        obtain ⟨y11,y12,y42,y43,y46,y47,xs,ds,r⟩:=cl_out (s:=s) c1 (by omega) (by omega) s 0 (zer d.length) (zer d.length) (boundS d (zer d.length)) (by omega) (PB.zero _) hzl
        rw [hz] at r
        have hcl:=clim_len (d:=d) s (zer d.length) (zer d.length) (boundS d (zer d.length)) hzl
        have ht:climT d s=clim d s (zer d.length) (zer d.length) (boundS d (zer d.length)):=by
          unfold climT
          rw [if_neg c3,bndT_eq c3 hzl]
        rw [ht]
        generalize clim d s (zer d.length) (zer d.length) (boundS d (zer d.length))=w at r hcl ⊢
        have hpl:(pad w.1).length=11:=pad_len (by omega)
        have k52:=q52a (pol':=polCl) (by kernel_rfl) (H:=clH xs (pad w.1) ds) (b:=1) (n:=d.length) (u:=pad w.1) rfl (by omega) (by omega) (by omega)
        rw [pad_take hcl] at k52
        have m:=cl_m_0 (d.map encR) (s:Int) (xs.map encI) ((pad w.1).map encI) (ds.map encI) w.2 (y11:=y11) (y12:=y12) (y42:=y42) (y43:=y43) (y46:=y46) (y47:=y47) (by rw [List.length_map]; exact slArr hdn.2) (by rw [List.length_map]; exact k52)
        have t:=sq (a) (sq (b) (sq (c) (sq (dd) (sq (e) (sq (sq (f) (bke (c:=sub [1,1,1,1,1,0,1] B31) (lpi (e0:=(clE d (s:Int) (boundS d (zer d.length)) Ud Ud (.int .i64 (s:Int)) (.int .i64 ((0:Nat):Int)) Ud Ud)) r (b:=sub [1,1,1,1,1,0,1,0,0] B31))) (c:=sub [1,1,1,1,1,0] B31)) (m) (c:=sub [1,1,1,1,1] B31)) (c:=sub [1,1,1,1] B31)) (c:=sub [1,1,1] B31)) (c:=sub [1,1] B31)) (c:=sub [1] B31)) (c:=B31)
        exact ⟨_,_,_,.tuple [.sl 3 0 d.length none d.length 1,.int .i64 w.2,.int .i64 0],t,by simp,by simp only [resultsV,res31]; rfl,toRes_li2 (b:=3) (o:=w.1) rfl hcl _ 0⟩
    · exact bad _ _ (cl_b_1 (d.map encR) s0 (y7:=Ud) (y8:=Ud) (y9:=Ud) (y10:=Ud) (y11:=Ud) (y12:=Ud) (y42:=Ud) (y43:=Ud) (y46:=Ud) (y47:=Ud) m1 c2) rfl rfl rfl (fun h=>c2 h.2)
  · have m1:=prim_miles (pol':=polCl) (by kernel_rfl) hc.1 hc.2 [] false (okB_false c1)
    exact bad _ _ (cl_b_2 (d.map encR) s0 (y7:=Ud) (y8:=Ud) (y9:=Ud) (y10:=Ud) (y11:=Ud) (y12:=Ud) (y42:=Ud) (y43:=Ud) (y46:=Ud) (y47:=Ud) m1) rfl rfl rfl (fun h=>c1 h.1)
end Go.Proofs.Ytlendaofkmhgmaa
end
section
open Go Go.HL
namespace Go.Proofs.Ytlendaofkmhgmaa
def clm (mo x:Int):Int:=if x < 0 ∨ mo < x then modW x (mo+1) else x
def tmX (R:List (List Int)) (mo:Int) (i k:Nat):Int:=clm mo (if i < R.length∧k < (R.getD i []).length then at2 R i k else 1)
def mat (n:Nat) (f:Nat → Nat → Int):List (List Int):=(List.range n).map fun a=>(List.range n).map (f a)
def tameF (R:List (List Int)) (mo:Int) (a b:Nat):Int:=if a=b then 0 else if a < b then tmX R mo a b else tmX R mo b a
def tameL (R:List (List Int)) (n:Nat) (mo:Int):List (List Int):=mat n (tameF R mo)
def nmF (f:List (List Int) → Int → Int → Option HV):List HV → Option HV
  | [.imm .arg 1 rw,.int .i64 n,.int .i64 mo]=>(match mapO decR rw with | some R=>f R n mo | none=>none)
  | _=>none
theorem nmF_inv {f:List (List Int) → Int → Int → Option HV} {args:List HV} {res:HV} (h:nmF f args=some res):∃ R n mo,args=[.imm .arg 1 (R.map encR),.int .i64 n,.int .i64 mo]∧f R n mo=some res:=by
  unfold nmF at h
  split at h
  · rename_i rw n mo
    split at h
    · rename_i R hR
      exact ⟨R,n,mo,by rw [mapO_inv decR_inv hR],h⟩
    · cases h
  · cases h
def tame28:List HV → Option HV:=nmF fun R n mo=>if (1 ≤ n∧n ≤ 12)∧0 ≤ mo∧mo ≤ 1000000 then some (.own 1 ((tameL R n.toNat mo).map encO)) else none
theorem mat_len (n:Nat) (f:Nat → Nat → Int):(mat n f).length=n:=by simp [mat]
theorem mat_row {n:Nat} {f:Nat → Nat → Int} {a:Nat} (ha:a < n):(mat n f).getD a []=(List.range n).map (f a):=by
  simp [mat,List.getD,List.getElem?_map,List.getElem?_range ha]
theorem row_at {n:Nat} {g:Nat → Int} {b:Nat} (hb:b < n):((List.range n).map g).getD b 0=g b:=by
  simp [List.getD,List.getElem?_map,List.getElem?_range hb]
theorem mat_at {n:Nat} {f:Nat → Nat → Int} {a b:Nat} (ha:a < n) (hb:b < n):at2 (mat n f) a b=f a b:=by
  unfold at2
  rw [mat_row ha,row_at hb]
theorem row_set {n:Nat} {g:Nat → Int} {k:Nat} {x:Int}:((List.range n).map g).set k x=(List.range n).map fun b=>if b=k then x else g b:=by
  apply List.ext_getElem?
  intro i
  rw [List.getElem?_set,List.length_map,List.length_range]
  by_cases e:k=i
  · subst e
    rw [if_pos rfl]
    by_cases h:k < n
    · rw [if_pos h,List.getElem?_map,List.getElem?_range h]; simp
    · rw [if_neg h,List.getElem?_eq_none (by simp; omega)]
  · rw [if_neg e,List.getElem?_map,List.getElem?_map]
    by_cases h:i < n
    · rw [List.getElem?_range h]; simp; intro h2; exact absurd h2.symm e
    · rw [List.getElem?_eq_none (by simp; omega)]; rfl
theorem row_congr {n:Nat} {g h:Nat → Int} (e:∀ b,b < n → g b=h b):(List.range n).map g=(List.range n).map h:=List.map_congr_left fun b hb=>e b (List.mem_range.1 hb)
theorem clm_bnd {mo:Int} (h:0 ≤ mo∧mo ≤ 1000000) (x:Int):0 ≤ clm mo x∧clm mo x ≤ mo:=by
  unfold clm
  split
  · have:=modW_bounds x (mo+1) (by omega) (by omega)
    omega
  · omega
theorem tmX_bnd {R:List (List Int)} {mo:Int} (h:0 ≤ mo∧mo ≤ 1000000) (i k:Nat):0 ≤ tmX R mo i k∧tmX R mo i k ≤ mo:=clm_bnd h _
theorem tame_okD {R:List (List Int)} {n:Nat} {mo:Int} (hn:1 ≤ n∧n ≤ 11) (h:0 ≤ mo∧mo ≤ 1000):okD (tameL R n mo):=by
  have hl:(tameL R n mo).length=n:=mat_len _ _
  refine ⟨by rw [hl]; exact hn,fun i hi=>?_,fun i hi j hj=>?_⟩
  · rw [hl] at hi ⊢
    rw [tameL,mat_row hi]; simp
  · rw [hl] at hi hj
    rw [tameL,mat_at hi hj,mat_at hj hi]
    refine ⟨?_,?_,?_⟩
    · unfold tameF
      split
      · omega
      · have h1:=tmX_bnd (R:=R) (mo:=mo) (by omega) i j
        have h2:=tmX_bnd (R:=R) (mo:=mo) (by omega) j i
        split <;> omega
    · unfold tameF
      by_cases e:i=j
      · subst e; rfl
      · rw [if_neg e,if_neg (fun h:j=i=>e h.symm)]
        by_cases c:i < j
        · rw [if_pos c,if_neg (by omega)]
        · rw [if_neg c,if_pos (by omega)]
    · rintro rfl; simp [tameF]
def insT (l:List Int) (x:Nat) (o:List Int):List Int :=
  let at_:=(if x < l.length then 1+modW (l.getD x 0) x else (x:Int)).toNat
  o.take at_ ++ ((x:Int) :: o.drop at_)
def tourGo (l:List Int):Nat → Nat → List Int → List Int
  | 0,_,o=>o
  | k+1,x,o=>tourGo l k (x+1) (insT l x o)
def tourL (l:List Int) (n:Nat):List Int:=tourGo l (n - 1) 1 [0]
def tour33:List HV → Option HV:=lnF fun l n=>if 1 ≤ n∧n ≤ 12 then some (.own 1 ((tourL l n.toNat).map encI)) else none
theorem ins_at {l:List Int} {x:Nat} (hx:1 ≤ x) (hx2:x ≤ 1000):1 ≤ (if x < l.length then 1+modW (l.getD x 0) x else (x:Int))∧(if x < l.length then 1+modW (l.getD x 0) x else (x:Int)) ≤ x:=by
  split
  · have:=modW_bounds (l.getD x 0) (x:Int) (by omega) (by omega)
    omega
  · omega
theorem tourGo_ok (l:List Int):∀ (k x:Nat) (o:List Int),1 ≤ x → x+k ≤ 1000 → trOk x o=true → trOk (x+k) (tourGo l k x o)=true:=by
  intro k
  induction k with
  | zero=>intro x o _ _ h; exact h
  | succ k ih =>
    intro x o hx hk h
    rw [tourGo,show x+(k+1)=(x+1)+k by omega]
    refine ih (x+1) _ (by omega) (by omega) ?_
    simp only [trOk,decide_eq_true_eq] at h ⊢
    obtain ⟨t1,t2,t3,t4⟩:=h
    have ha:=ins_at (l:=l) hx (by omega)
    unfold insT
    simp only
    generalize (if x < l.length then 1+modW (l.getD x 0) x else (x:Int))=a at ha
    have hp:(o.take a.toNat ++ ((x:Int) :: o.drop a.toNat)).Perm ((x:Int) :: o):=by
      have h1:(o.take a.toNat ++ ((x:Int) :: o.drop a.toNat)).Perm ((x:Int) :: (o.take a.toNat ++ o.drop a.toNat)):=List.perm_middle
      rwa [List.take_append_drop] at h1
    have hx':(x:Int) ∉ o:=fun hm=>by have:=t3 _ hm; omega
    refine ⟨by rw [hp.length_eq,List.length_cons,t1],?_,fun v hv=>?_,hp.nodup_iff.2 (List.nodup_cons.2 ⟨hx',t4⟩)⟩
    · cases o with
      | nil=>simp at t1; omega
      | cons b o =>
        obtain ⟨m,hm⟩:∃ m,a.toNat=m+1:=⟨a.toNat - 1,by omega⟩
        rw [hm,List.take_succ_cons]
        simpa using t2
    · rw [hp.mem_iff,List.mem_cons] at hv
      rcases hv with rfl | hv
      · omega
      · have:=t3 v hv; omega
theorem tour_trOk (l:List Int) {n:Nat} (hn:1 ≤ n∧n ≤ 12):trOk n (tourL l n)=true:=by
  have:=tourGo_ok l (n - 1) 1 [0] (by omega) (by omega) (by decide)
  rwa [show 1+(n - 1)=n by omega] at this
def polA:Pol:={ pol with prim:=fun g=>if g == 27 then some modF else none,freeze:=fun g _=>!(g == 28) }
end Go.Proofs.Ytlendaofkmhgmaa
end
section
open Go Go.HL
namespace Go.Proofs.Ytlendaofkmhgmaa
set_option maxRecDepth 100000
open Go.Proofs.Try renaming prog → Tp
open Go.HL.HV renaming undef → Ud
noncomputable def B33:Code:=Try.f33.body.getD .skip
abbrev env33 (v0 v1 v4 v5 v6 v7 v8:HV):Env:=[(0,v0),(1,v1),(4,v4),(5,v5),(6,v6),(7,v7),(8,v8)]
theorem to_a_0 (la:List HV) (n:Nat) (H:Heap):RT polA 33 (sub [0] B33) [(0,.imm .arg 1 la),(1,.i (n:Int))] H .normal (env33 (.imm .arg 1 la) (.i (n:Int)) (.imm .lit 1 []) Ud Ud Ud Ud) H :=
  RunsTo.hin 0 60 [] fun kf hk=>⟨_,by kernel_rfl,.nil⟩
theorem to_b_0 (la:List HV) (n:Nat) (tv:HV) (H:Heap) (H0:Heap) (g0:litV Tp true true 23 1 [(0,.i 0)] H=some (tv,H0)):RT polA 33 (sub [1,0] B33) (env33 (.imm .arg 1 la) (.i (n:Int)) (.imm .lit 1 []) Ud Ud Ud Ud) H .normal (env33 (.imm .arg 1 la) (.i (n:Int)) (.imm .lit 1 []) tv Ud Ud Ud) H0 :=
  RunsTo.hin 0 60 [⟨1,0,tv,H0⟩] fun kf hk=>⟨_,by kernel_rfl,(oC (g0) .nil)⟩
theorem to_c_0 (la:List HV) (n:Nat) (tv:HV) (H:Heap):RT polA 33 (sub [1,1,0,0] B33) (env33 (.imm .arg 1 la) (.i (n:Int)) (.imm .lit 1 []) tv Ud Ud Ud) H .normal (env33 (.imm .arg 1 la) (.i (n:Int)) (.imm .lit 1 []) tv (.i 1) Ud Ud) H :=
  RunsTo.hin 0 60 [] fun kf hk=>⟨_,by kernel_rfl,.nil⟩
theorem to_l_0 (la:List HV) (n:Nat) (tv v1 v2:HV) (i ob a m:Nat) (H:Heap) (x0:Int) (md:Int) (H0:Heap) (H1:Heap) (H2:Heap) (H3:Heap) (H4:Heap) (g0:(i:Int) < (n:Int)) (g1:(i:Int) < (la.length:Int)) (g2:idxV Tp 23 (.imm .arg 1 la) (.i (i:Int))=some (.vptr (.i x0))) (g3:∀ kf,callN Tp polA (kf+1) 27 [.i x0,.i (i:Int)] H=some (.i md,H0)) (g4:some (HV.sl H0.length 0 0 none 0 1,H0 ++ [Blk.arr 1 [] true 0])=some (.sl ob 0 0 none 0 1,H1)) (g5:sliceV Tp 23 (tv) none (some (.i (IntKind.i64.wrap (1+md)))) none=some (v1)) (g6:builtinV Tp .append [23,23] [.sl ob 0 0 none 0 1,v1] H1=some (.sl ob 0 a none a 1,H2)) (g7:appV H2 1 8 (.sl ob 0 a none a 1) [.i (i:Int)]=some (.sl ob 0 (a+1) none (a+1) 1,H3)) (g8:sliceV Tp 23 (tv) (some (.i (IntKind.i64.wrap (1+md)))) none none=some (v2)) (g9:builtinV Tp .append [23,23] [.sl ob 0 (a+1) none (a+1) 1,v2] H3=some (.sl ob 0 m none m 1,H4)):RT polA 33 (sub [1,1,0,1,0,0] B33) (env33 (.imm .arg 1 la) (.i (n:Int)) (.imm .lit 1 []) tv (.i (i:Int)) Ud Ud) H .normal (env33 (.imm .arg 1 la) (.i (n:Int)) (.imm .lit 1 []) (.sl ob 0 m none m 1) (.i (IntKind.i64.wrap ((i:Int)+1))) (.i (IntKind.i64.wrap (1+md))) (.sl ob 0 (a+1) none (a+1) 1)) H4 :=
  RunsTo.hin 0 60 [⟨3,2,.bool true,H⟩,⟨6,3,.bool true,H⟩,⟨7,2,.vptr (.i x0),H⟩,⟨7,5,.i md,H0⟩,⟨8,0,.sl ob 0 0 none 0 1,H1⟩,⟨9,3,v1,H1⟩,⟨9,4,.sl ob 0 a none a 1,H2⟩,⟨10,3,.sl ob 0 (a+1) none (a+1) 1,H3⟩,⟨11,3,v2,H3⟩,⟨11,4,.sl ob 0 m none m 1,H4⟩] fun kf hk=>⟨_,by kernel_rfl,(oB H (decide_eq_true g0) (oB H (decide_eq_true g1) (oP H g2 (oC (g3 kf) (oC (g4) (oP H1 g5 (oC (g6) (oC (g7) (oP H3 g8 (oC (g9) .nil))))))))))⟩
theorem to_l_1 (la:List HV) (n:Nat) (tv v1 v2:HV) (i ob a m:Nat) (H:Heap) (H0:Heap) (H1:Heap) (H2:Heap) (H3:Heap) (g0:(i:Int) < (n:Int)) (g1:¬ ((i:Int) < (la.length:Int))) (g2:some (HV.sl H.length 0 0 none 0 1,H ++ [Blk.arr 1 [] true 0])=some (.sl ob 0 0 none 0 1,H0)) (g3:sliceV Tp 23 (tv) none (some (.i (i:Int))) none=some (v1)) (g4:builtinV Tp .append [23,23] [.sl ob 0 0 none 0 1,v1] H0=some (.sl ob 0 a none a 1,H1)) (g5:appV H1 1 8 (.sl ob 0 a none a 1) [.i (i:Int)]=some (.sl ob 0 (a+1) none (a+1) 1,H2)) (g6:sliceV Tp 23 (tv) (some (.i (i:Int))) none none=some (v2)) (g7:builtinV Tp .append [23,23] [.sl ob 0 (a+1) none (a+1) 1,v2] H2=some (.sl ob 0 m none m 1,H3)):RT polA 33 (sub [1,1,0,1,0,0] B33) (env33 (.imm .arg 1 la) (.i (n:Int)) (.imm .lit 1 []) tv (.i (i:Int)) Ud Ud) H .normal (env33 (.imm .arg 1 la) (.i (n:Int)) (.imm .lit 1 []) (.sl ob 0 m none m 1) (.i (IntKind.i64.wrap ((i:Int)+1))) (.i (i:Int)) (.sl ob 0 (a+1) none (a+1) 1)) H3 :=
  RunsTo.hin 0 60 [⟨3,2,.bool true,H⟩,⟨6,3,.bool false,H⟩,⟨8,0,.sl ob 0 0 none 0 1,H0⟩,⟨9,3,v1,H0⟩,⟨9,4,.sl ob 0 a none a 1,H1⟩,⟨10,3,.sl ob 0 (a+1) none (a+1) 1,H2⟩,⟨11,3,v2,H2⟩,⟨11,4,.sl ob 0 m none m 1,H3⟩] fun kf hk=>⟨_,by kernel_rfl,(oB H (decide_eq_true g0) (oB H (decide_eq_false g1) (oC (g2) (oP H0 g3 (oC (g4) (oC (g5) (oP H2 g6 (oC (g7) .nil))))))))⟩
theorem to_l_2 (la:List HV) (n:Nat) (tv v1 v2:HV) (i ob a m:Nat) (H:Heap)(g0:¬ ((i:Int) < (n:Int))):RT polA 33 (sub [1,1,0,1,0,0] B33) (env33 (.imm .arg 1 la) (.i (n:Int)) (.imm .lit 1 []) tv (.i (i:Int)) Ud Ud) H (.exit 0) (env33 (.imm .arg 1 la) (.i (n:Int)) (.imm .lit 1 []) tv (.i (i:Int)) Ud Ud) H :=
  RunsTo.hin 0 60 [⟨3,2,.bool false,H⟩] fun kf hk=>⟨_,by kernel_rfl,(oB H (decide_eq_false g0) .nil)⟩
theorem to_z_0 (la:List HV) (n:Nat) (tv y6 y7 y8:HV) (H:Heap):RT polA 33 (sub [1,1,1] B33) (env33 (.imm .arg 1 la) (.i (n:Int)) (.imm .lit 1 []) tv y6 y7 y8) H .ret (env33 (.imm .arg 1 la) (.i (n:Int)) tv tv y6 y7 y8) H :=
  RunsTo.hin 0 60 [] fun kf hk=>⟨_,by kernel_rfl,.nil⟩
end Go.Proofs.Ytlendaofkmhgmaa
end
section
open Go Go.HL
namespace Go.Proofs.Ytlendaofkmhgmaa
set_option maxRecDepth 100000
open Go.Proofs.Try renaming prog → Tp
open Go.HL.HV renaming undef → Ud
noncomputable def B28:Code:=Try.f28.body.getD .skip
abbrev env28 (v0 v1 v2 v6 v7 v8 v9 v10 v11 v12 v13:HV):Env:=[(0,v0),(1,v1),(2,v2),(6,v6),(7,v7),(8,v8),(9,v9),(10,v10),(11,v11),(12,v12),(13,v13)]
theorem tm_a_0 (rw:List HV) (n:Nat) (mo:Int) (H:Heap):RT polA 28 (sub [0] B28) [(0,.imm .arg 1 rw),(1,.i (n:Int)),(2,.i mo)] H .normal (env28 (.imm .arg 1 rw) (.i (n:Int)) (.i mo) (.imm .lit 1 []) Ud Ud Ud Ud Ud Ud Ud) H :=
  RunsTo.hin 0 60 [] fun kf hk=>⟨_,by kernel_rfl,.nil⟩
theorem tm_b_0 (rw:List HV) (n:Nat) (mo:Int) (H:Heap) (H0:Heap) (g0:some (HV.sl H.length 0 0 none 0 1,H ++ [Blk.arr 1 [] true 0])=some (.sl 0 0 0 none 0 1,H0)):RT polA 28 (sub [1,0] B28) (env28 (.imm .arg 1 rw) (.i (n:Int)) (.i mo) (.imm .lit 1 []) Ud Ud Ud Ud Ud Ud Ud) H .normal (env28 (.imm .arg 1 rw) (.i (n:Int)) (.i mo) (.imm .lit 1 []) (.sl 0 0 0 none 0 1) Ud Ud Ud Ud Ud Ud) H0 :=
  RunsTo.hin 0 60 [⟨1,0,.sl 0 0 0 none 0 1,H0⟩] fun kf hk=>⟨_,by kernel_rfl,(oC (g0) .nil)⟩
theorem tm_c_0 (rw:List HV) (n:Nat) (mo:Int) (H:Heap):RT polA 28 (sub [1,1,0,0] B28) (env28 (.imm .arg 1 rw) (.i (n:Int)) (.i mo) (.imm .lit 1 []) (.sl 0 0 0 none 0 1) Ud Ud Ud Ud Ud Ud) H .normal (env28 (.imm .arg 1 rw) (.i (n:Int)) (.i mo) (.imm .lit 1 []) (.sl 0 0 0 none 0 1) (.i 0) Ud Ud Ud Ud Ud) H :=
  RunsTo.hin 0 60 [] fun kf hk=>⟨_,by kernel_rfl,.nil⟩
theorem tm_l_0 (rw:List HV) (n:Nat) (mo:Int) (i rb lb:Nat) (H:Heap) (H0:Heap) (H1:Heap) (H2:Heap) (g0:(i:Int) < (n:Int)) (g1:makeV Tp false 23 (.i (n:Int)) (.i (n:Int)) H=some (.sl rb 0 n (some n) n 1,H0)) (g2:litV Tp false false 22 1 [(0,.sl rb 0 n (some n) n 1)] H0=some (.sl lb 0 1 (some 1) 1 1,H1)) (g3:builtinV Tp .append [22,22] [.sl 0 0 i none i 1,.sl lb 0 1 (some 1) 1 1] H1=some (.sl 0 0 (i+1) none (i+1) 1,H2)):RT polA 28 (sub [1,1,0,1,0,0] B28) (env28 (.imm .arg 1 rw) (.i (n:Int)) (.i mo) (.imm .lit 1 []) (.sl 0 0 i none i 1) (.i (i:Int)) Ud Ud Ud Ud Ud) H .normal (env28 (.imm .arg 1 rw) (.i (n:Int)) (.i mo) (.imm .lit 1 []) (.sl 0 0 (i+1) none (i+1) 1) (.i (IntKind.i64.wrap ((i:Int)+1))) Ud Ud Ud Ud Ud) H2 :=
  RunsTo.hin 0 60 [⟨3,2,.bool true,H⟩,⟨5,2,.sl rb 0 n (some n) n 1,H0⟩,⟨5,3,.sl lb 0 1 (some 1) 1 1,H1⟩,⟨5,4,.sl 0 0 (i+1) none (i+1) 1,H2⟩] fun kf hk=>⟨_,by kernel_rfl,(oB H (decide_eq_true g0) (oC (g1) (oC (g2) (oC (g3) .nil))))⟩
theorem tm_l_1 (rw:List HV) (n:Nat) (mo:Int) (i rb lb:Nat) (H:Heap)(g0:¬ ((i:Int) < (n:Int))):RT polA 28 (sub [1,1,0,1,0,0] B28) (env28 (.imm .arg 1 rw) (.i (n:Int)) (.i mo) (.imm .lit 1 []) (.sl 0 0 i none i 1) (.i (i:Int)) Ud Ud Ud Ud Ud) H (.exit 0) (env28 (.imm .arg 1 rw) (.i (n:Int)) (.i mo) (.imm .lit 1 []) (.sl 0 0 i none i 1) (.i (i:Int)) Ud Ud Ud Ud Ud) H :=
  RunsTo.hin 0 60 [⟨3,2,.bool false,H⟩] fun kf hk=>⟨_,by kernel_rfl,(oB H (decide_eq_false g0) .nil)⟩
theorem tm_d_0 (rw:List HV) (n:Nat) (mo:Int) (y8:HV) (H:Heap):RT polA 28 (sub [1,1,1,0,0] B28) (env28 (.imm .arg 1 rw) (.i (n:Int)) (.i mo) (.imm .lit 1 []) (.sl 0 0 n none n 1) y8 Ud Ud Ud Ud Ud) H .normal (env28 (.imm .arg 1 rw) (.i (n:Int)) (.i mo) (.imm .lit 1 []) (.sl 0 0 n none n 1) y8 (.i 0) Ud Ud Ud Ud) H :=
  RunsTo.hin 0 60 [] fun kf hk=>⟨_,by kernel_rfl,.nil⟩
theorem tm_e_0 (rw:List HV) (n:Nat) (mo:Int) (y8:HV) (i:Nat) (H:Heap)(g0:(i:Int) < (n:Int)):RT polA 28 (sub [1,1,1,0,1,0,0,0] B28) (env28 (.imm .arg 1 rw) (.i (n:Int)) (.i mo) (.imm .lit 1 []) (.sl 0 0 n none n 1) y8 (.i (i:Int)) Ud Ud Ud Ud) H .normal (env28 (.imm .arg 1 rw) (.i (n:Int)) (.i mo) (.imm .lit 1 []) (.sl 0 0 n none n 1) y8 (.i (i:Int)) Ud Ud Ud Ud) H :=
  RunsTo.hin 0 60 [⟨7,2,.bool true,H⟩] fun kf hk=>⟨_,by kernel_rfl,(oB H (decide_eq_true g0) .nil)⟩
theorem tm_e_1 (rw:List HV) (n:Nat) (mo:Int) (y8:HV) (i:Nat) (H:Heap)(g0:¬ ((i:Int) < (n:Int))):RT polA 28 (sub [1,1,1,0,1,0,0,0] B28) (env28 (.imm .arg 1 rw) (.i (n:Int)) (.i mo) (.imm .lit 1 []) (.sl 0 0 n none n 1) y8 (.i (i:Int)) Ud Ud Ud Ud) H (.exit 2) (env28 (.imm .arg 1 rw) (.i (n:Int)) (.i mo) (.imm .lit 1 []) (.sl 0 0 n none n 1) y8 (.i (i:Int)) Ud Ud Ud Ud) H :=
  RunsTo.hin 0 60 [⟨7,2,.bool false,H⟩] fun kf hk=>⟨_,by kernel_rfl,(oB H (decide_eq_false g0) .nil)⟩
theorem tm_f_0 (rw:List HV) (n:Nat) (mo:Int) (y8:HV) (i:Nat) (H:Heap):RT polA 28 (sub [1,1,1,0,1,0,0,1,0,0,0] B28) (env28 (.imm .arg 1 rw) (.i (n:Int)) (.i mo) (.imm .lit 1 []) (.sl 0 0 n none n 1) y8 (.i (i:Int)) Ud Ud Ud Ud) H .normal (env28 (.imm .arg 1 rw) (.i (n:Int)) (.i mo) (.imm .lit 1 []) (.sl 0 0 n none n 1) y8 (.i (i:Int)) (.i (IntKind.i64.wrap ((i:Int)+1))) Ud Ud Ud) H :=
  RunsTo.hin 0 60 [] fun kf hk=>⟨_,by kernel_rfl,.nil⟩
theorem tm_m_0 (rw:List HV) (n:Nat) (mo:Int) (y8:HV) (i k:Nat) (H:Heap) (l0:List HV) (l1:List HV) (x0:Int) (md:Int) (H0:Heap) (H1:Heap) (H2:Heap) (g0:(k:Int) < (n:Int)) (g1:(i:Int) < (rw.length:Int)) (g2:idxV Tp 22 (.imm .arg 1 rw) (.i (i:Int))=some (.vptr (.imm .arg 1 l0))) (g3:(k:Int) < (l0.length:Int)) (g4:idxV Tp 22 (.imm .arg 1 rw) (.i (i:Int))=some (.vptr (.imm .arg 1 l1))) (g5:idxV Tp 23 (.imm .arg 1 l1) (.i (k:Int))=some (.vptr (.i x0))) (g6:x0 < 0) (g7:∀ kf,callN Tp polA (kf+1) 27 [.i x0,.i (IntKind.i64.wrap (mo+1))] H=some (.i md,H0)) (g8:idxV Tp 22 (.sl 0 0 n none n 1) (.i (i:Int))=some (.ptr 0 i 0 n)) (g9:loadV Tp H0 23 (.ptr 0 i 0 n)=some (.sl (i+1) 0 n (some n) n 1)) (g10:idxV Tp 22 (.sl 0 0 n none n 1) (.i (k:Int))=some (.ptr 0 k 0 n)) (g11:loadV Tp H0 23 (.ptr 0 k 0 n)=some (.sl (k+1) 0 n (some n) n 1)) (g12:idxV Tp 23 (.sl (i+1) 0 n (some n) n 1) (.i (k:Int))=some (.ptr (i+1) k 0 n)) (g13:storeV Tp H0 3 (.ptr (i+1) k 0 n) (.i md)=some H1) (g14:idxV Tp 23 (.sl (k+1) 0 n (some n) n 1) (.i (i:Int))=some (.ptr (k+1) i 0 n)) (g15:storeV Tp H1 3 (.ptr (k+1) i 0 n) (.i md)=some H2):RT polA 28 (sub [1,1,1,0,1,0,0,1,0,0,1,0,0] B28) (env28 (.imm .arg 1 rw) (.i (n:Int)) (.i mo) (.imm .lit 1 []) (.sl 0 0 n none n 1) y8 (.i (i:Int)) (.i (k:Int)) Ud Ud Ud) H .normal (env28 (.imm .arg 1 rw) (.i (n:Int)) (.i mo) (.imm .lit 1 []) (.sl 0 0 n none n 1) y8 (.i (i:Int)) (.i (IntKind.i64.wrap ((k:Int)+1))) (.i md) (.sl (i+1) 0 n (some n) n 1) (.sl (k+1) 0 n (some n) n 1)) H2 :=
  RunsTo.hin 0 60 [⟨10,2,.bool true,H⟩,⟨13,3,.bool true,H⟩,⟨13,8,.vptr (.imm .arg 1 l0),H⟩,⟨13,11,.bool true,H⟩,⟨14,2,.vptr (.imm .arg 1 l1),H⟩,⟨14,5,.vptr (.i x0),H⟩,⟨15,1,.bool true,H⟩,⟨16,3,.i md,H0⟩,⟨17,2,.ptr 0 i 0 n,H0⟩,⟨17,3,.sl (i+1) 0 n (some n) n 1,H0⟩,⟨17,6,.ptr 0 k 0 n,H0⟩,⟨17,7,.sl (k+1) 0 n (some n) n 1,H0⟩,⟨18,3,.ptr (i+1) k 0 n,H0⟩,⟨18,4,.tuple [],H1⟩,⟨19,3,.ptr (k+1) i 0 n,H1⟩,⟨19,4,.tuple [],H2⟩] fun kf hk=>⟨_,by kernel_rfl,(oB H (decide_eq_true g0) (oB H (decide_eq_true g1) (oP H g2 (oB H (decide_eq_true g3) (oP H g4 (oP H g5 (oB H (decide_eq_true g6) (oC (g7 kf) (oP H0 g8 (oP H0 g9 (oP H0 g10 (oP H0 g11 (oP H0 g12 (oS g13 (oP H1 g14 (oS g15 .nil))))))))))))))))⟩
theorem tm_m_1 (rw:List HV) (n:Nat) (mo:Int) (y8:HV) (i k:Nat) (H:Heap) (l0:List HV) (l1:List HV) (x0:Int) (md:Int) (H0:Heap) (H1:Heap) (H2:Heap) (g0:(k:Int) < (n:Int)) (g1:(i:Int) < (rw.length:Int)) (g2:idxV Tp 22 (.imm .arg 1 rw) (.i (i:Int))=some (.vptr (.imm .arg 1 l0))) (g3:(k:Int) < (l0.length:Int)) (g4:idxV Tp 22 (.imm .arg 1 rw) (.i (i:Int))=some (.vptr (.imm .arg 1 l1))) (g5:idxV Tp 23 (.imm .arg 1 l1) (.i (k:Int))=some (.vptr (.i x0))) (g6:¬ (x0 < 0)) (g7:mo < x0) (g8:∀ kf,callN Tp polA (kf+1) 27 [.i x0,.i (IntKind.i64.wrap (mo+1))] H=some (.i md,H0)) (g9:idxV Tp 22 (.sl 0 0 n none n 1) (.i (i:Int))=some (.ptr 0 i 0 n)) (g10:loadV Tp H0 23 (.ptr 0 i 0 n)=some (.sl (i+1) 0 n (some n) n 1)) (g11:idxV Tp 22 (.sl 0 0 n none n 1) (.i (k:Int))=some (.ptr 0 k 0 n)) (g12:loadV Tp H0 23 (.ptr 0 k 0 n)=some (.sl (k+1) 0 n (some n) n 1)) (g13:idxV Tp 23 (.sl (i+1) 0 n (some n) n 1) (.i (k:Int))=some (.ptr (i+1) k 0 n)) (g14:storeV Tp H0 3 (.ptr (i+1) k 0 n) (.i md)=some H1) (g15:idxV Tp 23 (.sl (k+1) 0 n (some n) n 1) (.i (i:Int))=some (.ptr (k+1) i 0 n)) (g16:storeV Tp H1 3 (.ptr (k+1) i 0 n) (.i md)=some H2):RT polA 28 (sub [1,1,1,0,1,0,0,1,0,0,1,0,0] B28) (env28 (.imm .arg 1 rw) (.i (n:Int)) (.i mo) (.imm .lit 1 []) (.sl 0 0 n none n 1) y8 (.i (i:Int)) (.i (k:Int)) Ud Ud Ud) H .normal (env28 (.imm .arg 1 rw) (.i (n:Int)) (.i mo) (.imm .lit 1 []) (.sl 0 0 n none n 1) y8 (.i (i:Int)) (.i (IntKind.i64.wrap ((k:Int)+1))) (.i md) (.sl (i+1) 0 n (some n) n 1) (.sl (k+1) 0 n (some n) n 1)) H2 :=
  RunsTo.hin 0 60 [⟨10,2,.bool true,H⟩,⟨13,3,.bool true,H⟩,⟨13,8,.vptr (.imm .arg 1 l0),H⟩,⟨13,11,.bool true,H⟩,⟨14,2,.vptr (.imm .arg 1 l1),H⟩,⟨14,5,.vptr (.i x0),H⟩,⟨15,1,.bool false,H⟩,⟨15,5,.bool true,H⟩,⟨16,3,.i md,H0⟩,⟨17,2,.ptr 0 i 0 n,H0⟩,⟨17,3,.sl (i+1) 0 n (some n) n 1,H0⟩,⟨17,6,.ptr 0 k 0 n,H0⟩,⟨17,7,.sl (k+1) 0 n (some n) n 1,H0⟩,⟨18,3,.ptr (i+1) k 0 n,H0⟩,⟨18,4,.tuple [],H1⟩,⟨19,3,.ptr (k+1) i 0 n,H1⟩,⟨19,4,.tuple [],H2⟩] fun kf hk=>⟨_,by kernel_rfl,(oB H (decide_eq_true g0) (oB H (decide_eq_true g1) (oP H g2 (oB H (decide_eq_true g3) (oP H g4 (oP H g5 (oB H (decide_eq_false g6) (oB H (decide_eq_true g7) (oC (g8 kf) (oP H0 g9 (oP H0 g10 (oP H0 g11 (oP H0 g12 (oP H0 g13 (oS g14 (oP H1 g15 (oS g16 .nil)))))))))))))))))⟩
theorem tm_m_2 (rw:List HV) (n:Nat) (mo:Int) (y8:HV) (i k:Nat) (H:Heap) (l0:List HV) (l1:List HV) (x0:Int) (H0:Heap) (H1:Heap) (g0:(k:Int) < (n:Int)) (g1:(i:Int) < (rw.length:Int)) (g2:idxV Tp 22 (.imm .arg 1 rw) (.i (i:Int))=some (.vptr (.imm .arg 1 l0))) (g3:(k:Int) < (l0.length:Int)) (g4:idxV Tp 22 (.imm .arg 1 rw) (.i (i:Int))=some (.vptr (.imm .arg 1 l1))) (g5:idxV Tp 23 (.imm .arg 1 l1) (.i (k:Int))=some (.vptr (.i x0))) (g6:¬ (x0 < 0)) (g7:¬ (mo < x0)) (g8:idxV Tp 22 (.sl 0 0 n none n 1) (.i (i:Int))=some (.ptr 0 i 0 n)) (g9:loadV Tp H 23 (.ptr 0 i 0 n)=some (.sl (i+1) 0 n (some n) n 1)) (g10:idxV Tp 22 (.sl 0 0 n none n 1) (.i (k:Int))=some (.ptr 0 k 0 n)) (g11:loadV Tp H 23 (.ptr 0 k 0 n)=some (.sl (k+1) 0 n (some n) n 1)) (g12:idxV Tp 23 (.sl (i+1) 0 n (some n) n 1) (.i (k:Int))=some (.ptr (i+1) k 0 n)) (g13:storeV Tp H 3 (.ptr (i+1) k 0 n) (.i x0)=some H0) (g14:idxV Tp 23 (.sl (k+1) 0 n (some n) n 1) (.i (i:Int))=some (.ptr (k+1) i 0 n)) (g15:storeV Tp H0 3 (.ptr (k+1) i 0 n) (.i x0)=some H1):RT polA 28 (sub [1,1,1,0,1,0,0,1,0,0,1,0,0] B28) (env28 (.imm .arg 1 rw) (.i (n:Int)) (.i mo) (.imm .lit 1 []) (.sl 0 0 n none n 1) y8 (.i (i:Int)) (.i (k:Int)) Ud Ud Ud) H .normal (env28 (.imm .arg 1 rw) (.i (n:Int)) (.i mo) (.imm .lit 1 []) (.sl 0 0 n none n 1) y8 (.i (i:Int)) (.i (IntKind.i64.wrap ((k:Int)+1))) (.i x0) (.sl (i+1) 0 n (some n) n 1) (.sl (k+1) 0 n (some n) n 1)) H1 :=
  RunsTo.hin 0 60 [⟨10,2,.bool true,H⟩,⟨13,3,.bool true,H⟩,⟨13,8,.vptr (.imm .arg 1 l0),H⟩,⟨13,11,.bool true,H⟩,⟨14,2,.vptr (.imm .arg 1 l1),H⟩,⟨14,5,.vptr (.i x0),H⟩,⟨15,1,.bool false,H⟩,⟨15,5,.bool false,H⟩,⟨17,2,.ptr 0 i 0 n,H⟩,⟨17,3,.sl (i+1) 0 n (some n) n 1,H⟩,⟨17,6,.ptr 0 k 0 n,H⟩,⟨17,7,.sl (k+1) 0 n (some n) n 1,H⟩,⟨18,3,.ptr (i+1) k 0 n,H⟩,⟨18,4,.tuple [],H0⟩,⟨19,3,.ptr (k+1) i 0 n,H0⟩,⟨19,4,.tuple [],H1⟩] fun kf hk=>⟨_,by kernel_rfl,(oB H (decide_eq_true g0) (oB H (decide_eq_true g1) (oP H g2 (oB H (decide_eq_true g3) (oP H g4 (oP H g5 (oB H (decide_eq_false g6) (oB H (decide_eq_false g7) (oP H g8 (oP H g9 (oP H g10 (oP H g11 (oP H g12 (oS g13 (oP H0 g14 (oS g15 .nil))))))))))))))))⟩
theorem tm_m_3 (rw:List HV) (n:Nat) (mo:Int) (y8:HV) (i k:Nat) (H:Heap) (l0:List HV) (md:Int) (H0:Heap) (H1:Heap) (H2:Heap) (g0:(k:Int) < (n:Int)) (g1:(i:Int) < (rw.length:Int)) (g2:idxV Tp 22 (.imm .arg 1 rw) (.i (i:Int))=some (.vptr (.imm .arg 1 l0))) (g3:¬ ((k:Int) < (l0.length:Int))) (g4:mo < (1:Int)) (g5:∀ kf,callN Tp polA (kf+1) 27 [.i 1,.i (IntKind.i64.wrap (mo+1))] H=some (.i md,H0)) (g6:idxV Tp 22 (.sl 0 0 n none n 1) (.i (i:Int))=some (.ptr 0 i 0 n)) (g7:loadV Tp H0 23 (.ptr 0 i 0 n)=some (.sl (i+1) 0 n (some n) n 1)) (g8:idxV Tp 22 (.sl 0 0 n none n 1) (.i (k:Int))=some (.ptr 0 k 0 n)) (g9:loadV Tp H0 23 (.ptr 0 k 0 n)=some (.sl (k+1) 0 n (some n) n 1)) (g10:idxV Tp 23 (.sl (i+1) 0 n (some n) n 1) (.i (k:Int))=some (.ptr (i+1) k 0 n)) (g11:storeV Tp H0 3 (.ptr (i+1) k 0 n) (.i md)=some H1) (g12:idxV Tp 23 (.sl (k+1) 0 n (some n) n 1) (.i (i:Int))=some (.ptr (k+1) i 0 n)) (g13:storeV Tp H1 3 (.ptr (k+1) i 0 n) (.i md)=some H2):RT polA 28 (sub [1,1,1,0,1,0,0,1,0,0,1,0,0] B28) (env28 (.imm .arg 1 rw) (.i (n:Int)) (.i mo) (.imm .lit 1 []) (.sl 0 0 n none n 1) y8 (.i (i:Int)) (.i (k:Int)) Ud Ud Ud) H .normal (env28 (.imm .arg 1 rw) (.i (n:Int)) (.i mo) (.imm .lit 1 []) (.sl 0 0 n none n 1) y8 (.i (i:Int)) (.i (IntKind.i64.wrap ((k:Int)+1))) (.i md) (.sl (i+1) 0 n (some n) n 1) (.sl (k+1) 0 n (some n) n 1)) H2 :=
  RunsTo.hin 0 60 [⟨10,2,.bool true,H⟩,⟨13,3,.bool true,H⟩,⟨13,8,.vptr (.imm .arg 1 l0),H⟩,⟨13,11,.bool false,H⟩,⟨15,5,.bool true,H⟩,⟨16,3,.i md,H0⟩,⟨17,2,.ptr 0 i 0 n,H0⟩,⟨17,3,.sl (i+1) 0 n (some n) n 1,H0⟩,⟨17,6,.ptr 0 k 0 n,H0⟩,⟨17,7,.sl (k+1) 0 n (some n) n 1,H0⟩,⟨18,3,.ptr (i+1) k 0 n,H0⟩,⟨18,4,.tuple [],H1⟩,⟨19,3,.ptr (k+1) i 0 n,H1⟩,⟨19,4,.tuple [],H2⟩] fun kf hk=>⟨_,by kernel_rfl,(oB H (decide_eq_true g0) (oB H (decide_eq_true g1) (oP H g2 (oB H (decide_eq_false g3) (oB H (decide_eq_true g4) (oC (g5 kf) (oP H0 g6 (oP H0 g7 (oP H0 g8 (oP H0 g9 (oP H0 g10 (oS g11 (oP H1 g12 (oS g13 .nil))))))))))))))⟩
theorem tm_m_4 (rw:List HV) (n:Nat) (mo:Int) (y8:HV) (i k:Nat) (H:Heap) (l0:List HV) (H0:Heap) (H1:Heap) (g0:(k:Int) < (n:Int)) (g1:(i:Int) < (rw.length:Int)) (g2:idxV Tp 22 (.imm .arg 1 rw) (.i (i:Int))=some (.vptr (.imm .arg 1 l0))) (g3:¬ ((k:Int) < (l0.length:Int))) (g4:¬ (mo < (1:Int))) (g5:idxV Tp 22 (.sl 0 0 n none n 1) (.i (i:Int))=some (.ptr 0 i 0 n)) (g6:loadV Tp H 23 (.ptr 0 i 0 n)=some (.sl (i+1) 0 n (some n) n 1)) (g7:idxV Tp 22 (.sl 0 0 n none n 1) (.i (k:Int))=some (.ptr 0 k 0 n)) (g8:loadV Tp H 23 (.ptr 0 k 0 n)=some (.sl (k+1) 0 n (some n) n 1)) (g9:idxV Tp 23 (.sl (i+1) 0 n (some n) n 1) (.i (k:Int))=some (.ptr (i+1) k 0 n)) (g10:storeV Tp H 3 (.ptr (i+1) k 0 n) (.i 1)=some H0) (g11:idxV Tp 23 (.sl (k+1) 0 n (some n) n 1) (.i (i:Int))=some (.ptr (k+1) i 0 n)) (g12:storeV Tp H0 3 (.ptr (k+1) i 0 n) (.i 1)=some H1):RT polA 28 (sub [1,1,1,0,1,0,0,1,0,0,1,0,0] B28) (env28 (.imm .arg 1 rw) (.i (n:Int)) (.i mo) (.imm .lit 1 []) (.sl 0 0 n none n 1) y8 (.i (i:Int)) (.i (k:Int)) Ud Ud Ud) H .normal (env28 (.imm .arg 1 rw) (.i (n:Int)) (.i mo) (.imm .lit 1 []) (.sl 0 0 n none n 1) y8 (.i (i:Int)) (.i (IntKind.i64.wrap ((k:Int)+1))) (.i 1) (.sl (i+1) 0 n (some n) n 1) (.sl (k+1) 0 n (some n) n 1)) H1 :=
  RunsTo.hin 0 60 [⟨10,2,.bool true,H⟩,⟨13,3,.bool true,H⟩,⟨13,8,.vptr (.imm .arg 1 l0),H⟩,⟨13,11,.bool false,H⟩,⟨15,5,.bool false,H⟩,⟨17,2,.ptr 0 i 0 n,H⟩,⟨17,3,.sl (i+1) 0 n (some n) n 1,H⟩,⟨17,6,.ptr 0 k 0 n,H⟩,⟨17,7,.sl (k+1) 0 n (some n) n 1,H⟩,⟨18,3,.ptr (i+1) k 0 n,H⟩,⟨18,4,.tuple [],H0⟩,⟨19,3,.ptr (k+1) i 0 n,H0⟩,⟨19,4,.tuple [],H1⟩] fun kf hk=>⟨_,by kernel_rfl,(oB H (decide_eq_true g0) (oB H (decide_eq_true g1) (oP H g2 (oB H (decide_eq_false g3) (oB H (decide_eq_false g4) (oP H g5 (oP H g6 (oP H g7 (oP H g8 (oP H g9 (oS g10 (oP H0 g11 (oS g12 .nil)))))))))))))⟩
theorem tm_m_5 (rw:List HV) (n:Nat) (mo:Int) (y8:HV) (i k:Nat) (H:Heap) (md:Int) (H0:Heap) (H1:Heap) (H2:Heap) (g0:(k:Int) < (n:Int)) (g1:¬ ((i:Int) < (rw.length:Int))) (g2:mo < (1:Int)) (g3:∀ kf,callN Tp polA (kf+1) 27 [.i 1,.i (IntKind.i64.wrap (mo+1))] H=some (.i md,H0)) (g4:idxV Tp 22 (.sl 0 0 n none n 1) (.i (i:Int))=some (.ptr 0 i 0 n)) (g5:loadV Tp H0 23 (.ptr 0 i 0 n)=some (.sl (i+1) 0 n (some n) n 1)) (g6:idxV Tp 22 (.sl 0 0 n none n 1) (.i (k:Int))=some (.ptr 0 k 0 n)) (g7:loadV Tp H0 23 (.ptr 0 k 0 n)=some (.sl (k+1) 0 n (some n) n 1)) (g8:idxV Tp 23 (.sl (i+1) 0 n (some n) n 1) (.i (k:Int))=some (.ptr (i+1) k 0 n)) (g9:storeV Tp H0 3 (.ptr (i+1) k 0 n) (.i md)=some H1) (g10:idxV Tp 23 (.sl (k+1) 0 n (some n) n 1) (.i (i:Int))=some (.ptr (k+1) i 0 n)) (g11:storeV Tp H1 3 (.ptr (k+1) i 0 n) (.i md)=some H2):RT polA 28 (sub [1,1,1,0,1,0,0,1,0,0,1,0,0] B28) (env28 (.imm .arg 1 rw) (.i (n:Int)) (.i mo) (.imm .lit 1 []) (.sl 0 0 n none n 1) y8 (.i (i:Int)) (.i (k:Int)) Ud Ud Ud) H .normal (env28 (.imm .arg 1 rw) (.i (n:Int)) (.i mo) (.imm .lit 1 []) (.sl 0 0 n none n 1) y8 (.i (i:Int)) (.i (IntKind.i64.wrap ((k:Int)+1))) (.i md) (.sl (i+1) 0 n (some n) n 1) (.sl (k+1) 0 n (some n) n 1)) H2 :=
  RunsTo.hin 0 60 [⟨10,2,.bool true,H⟩,⟨13,3,.bool false,H⟩,⟨15,5,.bool true,H⟩,⟨16,3,.i md,H0⟩,⟨17,2,.ptr 0 i 0 n,H0⟩,⟨17,3,.sl (i+1) 0 n (some n) n 1,H0⟩,⟨17,6,.ptr 0 k 0 n,H0⟩,⟨17,7,.sl (k+1) 0 n (some n) n 1,H0⟩,⟨18,3,.ptr (i+1) k 0 n,H0⟩,⟨18,4,.tuple [],H1⟩,⟨19,3,.ptr (k+1) i 0 n,H1⟩,⟨19,4,.tuple [],H2⟩] fun kf hk=>⟨_,by kernel_rfl,(oB H (decide_eq_true g0) (oB H (decide_eq_false g1) (oB H (decide_eq_true g2) (oC (g3 kf) (oP H0 g4 (oP H0 g5 (oP H0 g6 (oP H0 g7 (oP H0 g8 (oS g9 (oP H1 g10 (oS g11 .nil))))))))))))⟩
theorem tm_m_6 (rw:List HV) (n:Nat) (mo:Int) (y8:HV) (i k:Nat) (H:Heap) (H0:Heap) (H1:Heap) (g0:(k:Int) < (n:Int)) (g1:¬ ((i:Int) < (rw.length:Int))) (g2:¬ (mo < (1:Int))) (g3:idxV Tp 22 (.sl 0 0 n none n 1) (.i (i:Int))=some (.ptr 0 i 0 n)) (g4:loadV Tp H 23 (.ptr 0 i 0 n)=some (.sl (i+1) 0 n (some n) n 1)) (g5:idxV Tp 22 (.sl 0 0 n none n 1) (.i (k:Int))=some (.ptr 0 k 0 n)) (g6:loadV Tp H 23 (.ptr 0 k 0 n)=some (.sl (k+1) 0 n (some n) n 1)) (g7:idxV Tp 23 (.sl (i+1) 0 n (some n) n 1) (.i (k:Int))=some (.ptr (i+1) k 0 n)) (g8:storeV Tp H 3 (.ptr (i+1) k 0 n) (.i 1)=some H0) (g9:idxV Tp 23 (.sl (k+1) 0 n (some n) n 1) (.i (i:Int))=some (.ptr (k+1) i 0 n)) (g10:storeV Tp H0 3 (.ptr (k+1) i 0 n) (.i 1)=some H1):RT polA 28 (sub [1,1,1,0,1,0,0,1,0,0,1,0,0] B28) (env28 (.imm .arg 1 rw) (.i (n:Int)) (.i mo) (.imm .lit 1 []) (.sl 0 0 n none n 1) y8 (.i (i:Int)) (.i (k:Int)) Ud Ud Ud) H .normal (env28 (.imm .arg 1 rw) (.i (n:Int)) (.i mo) (.imm .lit 1 []) (.sl 0 0 n none n 1) y8 (.i (i:Int)) (.i (IntKind.i64.wrap ((k:Int)+1))) (.i 1) (.sl (i+1) 0 n (some n) n 1) (.sl (k+1) 0 n (some n) n 1)) H1 :=
  RunsTo.hin 0 60 [⟨10,2,.bool true,H⟩,⟨13,3,.bool false,H⟩,⟨15,5,.bool false,H⟩,⟨17,2,.ptr 0 i 0 n,H⟩,⟨17,3,.sl (i+1) 0 n (some n) n 1,H⟩,⟨17,6,.ptr 0 k 0 n,H⟩,⟨17,7,.sl (k+1) 0 n (some n) n 1,H⟩,⟨18,3,.ptr (i+1) k 0 n,H⟩,⟨18,4,.tuple [],H0⟩,⟨19,3,.ptr (k+1) i 0 n,H0⟩,⟨19,4,.tuple [],H1⟩] fun kf hk=>⟨_,by kernel_rfl,(oB H (decide_eq_true g0) (oB H (decide_eq_false g1) (oB H (decide_eq_false g2) (oP H g3 (oP H g4 (oP H g5 (oP H g6 (oP H g7 (oS g8 (oP H0 g9 (oS g10 .nil)))))))))))⟩
theorem tm_m_7 (rw:List HV) (n:Nat) (mo:Int) (y8:HV) (i k:Nat) (H:Heap)(g0:¬ ((k:Int) < (n:Int))):RT polA 28 (sub [1,1,1,0,1,0,0,1,0,0,1,0,0] B28) (env28 (.imm .arg 1 rw) (.i (n:Int)) (.i mo) (.imm .lit 1 []) (.sl 0 0 n none n 1) y8 (.i (i:Int)) (.i (k:Int)) Ud Ud Ud) H (.exit 4) (env28 (.imm .arg 1 rw) (.i (n:Int)) (.i mo) (.imm .lit 1 []) (.sl 0 0 n none n 1) y8 (.i (i:Int)) (.i (k:Int)) Ud Ud Ud) H :=
  RunsTo.hin 0 60 [⟨10,2,.bool false,H⟩] fun kf hk=>⟨_,by kernel_rfl,(oB H (decide_eq_false g0) .nil)⟩
theorem tm_g_0 (rw:List HV) (n:Nat) (mo:Int) (y8:HV) (i k:Nat) (H:Heap):RT polA 28 (sub [1,1,1,0,1,0,0,1,1] B28) (env28 (.imm .arg 1 rw) (.i (n:Int)) (.i mo) (.imm .lit 1 []) (.sl 0 0 n none n 1) y8 (.i (i:Int)) (.i (k:Int)) Ud Ud Ud) H .normal (env28 (.imm .arg 1 rw) (.i (n:Int)) (.i mo) (.imm .lit 1 []) (.sl 0 0 n none n 1) y8 (.i (IntKind.i64.wrap ((i:Int)+1))) (.i (k:Int)) Ud Ud Ud) H :=
  RunsTo.hin 0 60 [] fun kf hk=>⟨_,by kernel_rfl,.nil⟩
theorem tm_z_0 (rw:List HV) (n:Nat) (mo:Int) (y8 y9 y10 y11 y12 y13:HV) (H:Heap):RT polA 28 (sub [1,1,1,1] B28) (env28 (.imm .arg 1 rw) (.i (n:Int)) (.i mo) (.imm .lit 1 []) (.sl 0 0 n none n 1) y8 y9 y10 y11 y12 y13) H .ret (env28 (.imm .arg 1 rw) (.i (n:Int)) (.i mo) (.sl 0 0 n none n 1) (.sl 0 0 n none n 1) y8 y9 y10 y11 y12 y13) H :=
  RunsTo.hin 0 60 [] fun kf hk=>⟨_,by kernel_rfl,.nil⟩
end Go.Proofs.Ytlendaofkmhgmaa
end
section
open Go Go.HL
namespace Go.Proofs.Ytlendaofkmhgmaa
open Go.Proofs.Try renaming prog → Tp
open Go.HL.HV renaming undef → Ud
theorem soundA (n:Nat):CallSound Tp (callN Tp polA n) :=
  callN_ok follows_mixed (fun g fn h=>by
    have e:fnOk polA g fn=fnOk pol g fn:=rfl
    rw [e]
    exact List.all_eq_true.1 fns_ok (fn,g) (by
      rw [List.mem_zipIdx_iff_getElem?]
      simpa using h)) (fun g f h=>by
  simp only [polA] at h
  split at h
  · rename_i hg; cases h; rw [eq_of_beq hg]; exact mod_ok
  · cases h) n
theorem fnokA (g:FuncId) (fn:Func) (h:Tp.funcs[g]?=some fn):fnOk polA g fn=true:=by
  have e:fnOk polA g fn=fnOk pol g fn:=rfl
  rw [e]
  exact List.all_eq_true.1 fns_ok (fn,g) (by
    rw [List.mem_zipIdx_iff_getElem?]
    simpa using h)
theorem res28:Try.f28.results.toList=[.tmp 6]:=by kernel_rfl
theorem info23b:(Tp.info? 23).map (fun i=>(i.size,i.bytes,zeroFits i))=some (1,24,true):=by kernel_rfl
theorem info3m:(Tp.info? 3).map (fun i=>(i.size,i.bytes,i.zero.map ofConst))=some (1,8,some (.int .i64 0)):=by kernel_rfl
abbrev slT (n a:Nat):HV:=.sl (a+1) 0 n (some n) n 1
theorem lit_sl (b n:Nat) (H:Heap):litV Tp false false 22 1 [(0,slT n b)] H=some (.sl H.length 0 1 (some 1) 1 1,H ++ [.arr 1 [slT n b] true (b+2)]):=by kernel_rfl
theorem app_one {H:Heap} {n i lb mx m2:Nat} {els:List HV} {v:HV} (hi:els.length=i) (h0:H[0]?=some (.arr 1 els true mx)) (hl:H[lb]?=some (.arr 1 [v] true m2)) (hb:i ≤ 1000) (hm:bndL [v]=m2) :
    builtinV Tp .append [22,22] [.sl 0 0 i none i 1,.sl lb 0 1 (some 1) 1 1] H=some (.sl 0 0 (i+1) none (i+1) 1,H.set 0 (.arr 1 (els ++ [v]) true (max mx m2))):=by
  have hinfo:=info23b
  cases hinf:Tp.info? 23 with
  | none=>rw [hinf] at hinfo; cases hinfo
  | some inf =>
    rw [hinf] at hinfo
    simp only [Option.map,Option.some.injEq,Prod.mk.injEq] at hinfo
    obtain ⟨e1,e2,e3⟩:=hinfo
    have hs:srcOf H (.sl lb 0 1 (some 1) 1 1)=some ([v],1):=by simp [srcOf,view,hl]
    simp only [builtinV,u22,hinf,hs,e1,e2,e3]
    rw [if_pos ⟨.inl trivial,by omega,trivial⟩]
    simp only [appV,h0,hi,hm,List.length_cons,List.length_nil,List.cons_ne_nil,if_false]
    rw [if_pos ⟨trivial,trivial,trivial,by rw [show roomMax=70368744177664 from rfl]; omega⟩,if_pos ⟨trivial,trivial,trivial⟩]
structure TS (n i:Nat) (H:Heap):Prop where
  len:H.length=i+1
  out:H[0]?=some (.arr 1 ((List.range i).map (slT n)) true (if i=0 then 0 else i+1))
  row:∀ a,a < i → H[a+1]?=some (bI (List.replicate n 0))
theorem mxs_ge {H:Heap} {j:Nat} {B:Blk} (h:H[j]?=some B):B.mx ≤ mxs H:=mxs_le.1 (Nat.le_refl _) B (List.mem_of_getElem? h)
section
variable {R:List (List Int)} {n:Nat} {mo:Int}
abbrev tmE (R:List (List Int)) (n:Nat) (mo:Int) (v7 y8 y9 y10 y11 y12 y13:HV):Env:=env28 (.imm .arg 1 (R.map encR)) (.int .i64 (n:Int)) (.int .i64 mo) (.imm .lit 1 []) v7 y8 y9 y10 y11 y12 y13
theorem tm_make (hn:n ≤ 12):∀ k i H,i+k=n → TS n i H →
    ∃ H',RT polA 28 (sub [1,1,0,1,0] B28) (tmE R n mo (.sl 0 0 i none i 1) (.int .i64 (i:Int)) Ud Ud Ud Ud Ud) H (.exit 0) (tmE R n mo (.sl 0 0 n none n 1) (.int .i64 (n:Int)) Ud Ud Ud Ud Ud) H'∧TS n n H':=by
  intro k
  induction k with
  | zero =>
    intro i H hi hT
    have:i=n:=by omega
    subst this
    exact ⟨H,lpo (tm_l_1 (R.map encR) i mo i 0 0 H (by omega)),hT⟩
  | succ k ih =>
    intro i H hi hT
    have hl:=hT.len
    have m1:=makeV_ok (P:=Tp) (H:=H) (t:=23) (n:=(n:Int)) u23 info3m rfl rfl (by omega) (by omega) (by rw [show roomMax=70368744177664 from rfl]; omega)
    rw [Int.toNat_natCast,hl] at m1
    have m2:=lit_sl i n (H ++ [.arr 1 (List.replicate n (.int .i64 0)) true 0])
    have hl2:(H ++ [Blk.arr 1 (List.replicate n (.int .i64 0)) true 0]).length=i+2:=by simp [hl]
    rw [hl2] at m2
    have m3:=app_one (H:=H ++ [.arr 1 (List.replicate n (.int .i64 0)) true 0] ++ [.arr 1 [slT n i] true (i+2)]) (n:=n) (i:=i) (lb:=i+2) (m2:=i+2) (v:=slT n i) (els:=(List.range i).map (slT n)) (by simp) (by rw [List.getElem?_append_left (by omega),List.getElem?_append_left (by omega)]; exact hT.out) (by rw [List.getElem?_append_right (by omega),hl2]; simp) (by omega) (by simp [bndL,bnd])
    have s:=tm_l_0 (R.map encR) n mo i (i+1) (i+2) H _ _ _ (by omega) m1 m2 m3
    rw [wrap_succ (by omega)] at s
    generalize hH2:(H ++ [Blk.arr 1 (List.replicate n (.int .i64 0)) true 0] ++ [Blk.arr 1 [slT n i] true (i+2)]).set 0 (.arr 1 ((List.range i).map (slT n) ++ [slT n i]) true (max (if i=0 then 0 else i+1) (i+2)))=H2 at s
    have hlen:H2.length=i+3:=by rw [← hH2]; simp [hl]
    have g0:H2[0]?=some (.arr 1 ((List.range (i+1)).map (slT n)) true (i+2)):=by
      rw [← hH2,List.getElem?_set_self (by simp),List.range_succ,List.map_append]
      have:max (if i=0 then 0 else i+1) (i+2)=i+2:=by split <;> omega
      rw [this]; rfl
    have g1:∀ a,a < i+1 → H2[a+1]?=some (bI (List.replicate n 0)):=fun a ha=>by
      rw [← hH2,List.getElem?_set_ne (by omega),List.getElem?_append_left (by omega)]
      by_cases e:a=i
      · subst e
        rw [List.getElem?_append_right (by omega),show a+1 - H.length=0 by omega]
        simp [bI,encI]
      · rw [List.getElem?_append_left (by omega)]
        exact hT.row a (by omega)
    have hmx:mxs H2=i+2:=by
      have h1:i+2 ≤ mxs H2:=mxs_ge g0
      have h2:mxs H2 ≤ i+2:=by
        rw [mxs_le]
        intro B hB
        obtain ⟨j,hj⟩:=List.mem_iff_getElem?.1 hB
        have hjl:=lt_of_get hj
        by_cases e0:j=0
        · rw [e0,g0] at hj
          rw [← Option.some.inj hj]; exact Nat.le_refl _
        · by_cases e1:j ≤ i+1
          · rw [show j=(j - 1)+1 by omega,g1 (j - 1) (by omega)] at hj
            rw [← Option.some.inj hj]; exact Nat.zero_le _
          · have ej:j=i+2:=by omega
            rw [ej,← hH2,List.getElem?_set_ne (by omega),List.getElem?_append_right (by omega),hl2] at hj
            simp at hj
            rw [← hj]; exact Nat.le_refl _
      omega
    have ec:gc H.length (bndE (tmE R n mo (.sl 0 0 (i+1) none (i+1) 1) (.int .i64 ((i+1:Nat):Int)) Ud Ud Ud Ud Ud)) H2=H2.take (i+2):=by
      unfold gc
      rw [hmx,hl]
      have e:max (i+1) (max (bndE (tmE R n mo (.sl 0 0 (i+1) none (i+1) 1) (.int .i64 ((i+1:Nat):Int)) Ud Ud Ud Ud Ud)) (i+2))=i+2:=by
        simp only [bndE,bnd,bndL]
        omega
      rw [e]
    have hT2:TS n (i+1) (H2.take (i+2)):=by
      refine ⟨by rw [List.length_take]; omega,?_,fun a ha=>?_⟩
      · rw [List.getElem?_take,if_pos (by omega),g0,if_neg (by omega)]
      · rw [List.getElem?_take,if_pos (by omega),g1 a ha]
    obtain ⟨H',r,hT'⟩:=ih (i+1) _ (by omega) hT2
    exact ⟨H',lop s ec r,hT'⟩
structure TM (n:Nat) (f:Nat → Nat → Int) (H:Heap):Prop where
  len:H.length=n+1
  out:H[0]?=some (.arr 1 ((List.range n).map (slT n)) true (n+1))
  row:∀ a,a < n → H[a+1]?=some (bI ((List.range n).map (f a)))
theorem TS.mem {H:Heap} (h:TS n n H) (hn:1 ≤ n):TM n (fun _ _=>0) H:=by
  refine ⟨h.len,by rw [h.out,if_neg (by omega)],fun a ha=>?_⟩
  rw [h.row a ha]
  have e:List.replicate n (0:Int)=(List.range n).map fun _=>(0:Int):=by
    apply List.ext_getElem?
    intro i
    by_cases h:i < n
    · rw [List.getElem?_map,List.getElem?_range h,List.getElem?_replicate,if_pos h]; simp
    · rw [List.getElem?_eq_none (by simp; omega),List.getElem?_eq_none (by simp; omega)]
  rw [e]
def up2 (f:Nat → Nat → Int) (i k:Nat) (x:Int) (a b:Nat):Int:=if a=i∧b=k ∨ a=k∧b=i then x else f a b
theorem ixo {i:Nat} (hi:i < n):idxV Tp 22 (.sl 0 0 n none n 1) (.int .i64 (i:Int))=some (.ptr 0 i 0 n):=by
  have:=idx_sl (P:=Tp) (t:=22) (b:=0) (len:=n) (tot:=n) (cap:=none) (ik:=.i64) (n:=(i:Int)) u22 z23 (by omega) (by omega)
  rwa [Int.toNat_natCast] at this
theorem ixr {b k:Nat} (hk:k < n):idxV Tp 23 (.sl b 0 n (some n) n 1) (.int .i64 (k:Int))=some (.ptr b k 0 n):=by
  have:=idx_sl (P:=Tp) (t:=23) (b:=b) (len:=n) (tot:=n) (cap:=some n) (ik:=.i64) (n:=(k:Int)) u23 z3 (by omega) (by omega)
  rwa [Int.toNat_natCast] at this
theorem TM.ld {f:Nat → Nat → Int} {H:Heap} (h:TM n f H) {i:Nat} (hi:i < n):loadV Tp H 23 (.ptr 0 i 0 n)=some (slT n i):=by
  refine load_elem (b:=0) h.out (by simp) ?_ rfl a23 i23
  rw [List.getElem?_map,List.getElem?_range hi]; rfl
theorem TM.st {f:Nat → Nat → Int} {H:Heap} (h:TM n f H) {i k:Nat} (hi:i < n) (hk:k < n) (x:Int):storeV Tp H 3 (.ptr (i+1) k 0 n) (.int .i64 x)=some (H.set (i+1) (bI (((List.range n).map (f i)).set k x))):=by
  have:=store_out (h.row i hi) (y:=k) (by simpa using hk) x
  rwa [show ((List.range n).map (f i)).length=n by simp] at this
theorem TM.two {f:Nat → Nat → Int} {H:Heap} (h:TM n f H) {i k:Nat} (hi:i < n) (hk:k < n) (hik:i < k) (x:Int) :
    storeV Tp H 3 (.ptr (i+1) k 0 n) (.int .i64 x)=some (H.set (i+1) (bI (((List.range n).map (f i)).set k x))) ∧
    storeV Tp (H.set (i+1) (bI (((List.range n).map (f i)).set k x))) 3 (.ptr (k+1) i 0 n) (.int .i64 x)=some ((H.set (i+1) (bI (((List.range n).map (f i)).set k x))).set (k+1) (bI (((List.range n).map (f k)).set i x))) ∧
    TM n (up2 f i k x) ((H.set (i+1) (bI (((List.range n).map (f i)).set k x))).set (k+1) (bI (((List.range n).map (f k)).set i x))):=by
  have hl:=h.len
  refine ⟨h.st hi hk x,?_,?_⟩
  · have hr:(H.set (i+1) (bI (((List.range n).map (f i)).set k x)))[k+1]?=some (bI ((List.range n).map (f k))):=by
      rw [List.getElem?_set_ne (by omega)]; exact h.row k hk
    have:=store_out hr (y:=i) (by simpa using hi) x
    rwa [show ((List.range n).map (f k)).length=n by simp] at this
  · refine ⟨by simp [hl],by rw [List.getElem?_set_ne (by omega),List.getElem?_set_ne (by omega)]; exact h.out,fun a ha=>?_⟩
    by_cases e1:a=k
    · subst e1
      rw [List.getElem?_set_self (by simp; omega),row_set]
      congr 2
      refine row_congr fun b hb=>?_
      unfold up2
      by_cases e:b=i
      · rw [if_pos e,if_pos (.inr ⟨rfl,e⟩)]
      · rw [if_neg e,if_neg (by omega)]
    · rw [List.getElem?_set_ne (by omega)]
      by_cases e2:a=i
      · subst e2
        rw [List.getElem?_set_self (by omega),row_set]
        congr 2
        refine row_congr fun b hb=>?_
        unfold up2
        by_cases e:b=k
        · rw [if_pos e,if_pos (.inl ⟨rfl,e⟩)]
        · rw [if_neg e,if_neg (by omega)]
      · rw [List.getElem?_set_ne (by omega),h.row a ha]
        congr 2
        refine row_congr fun b hb=>?_
        unfold up2
        rw [if_neg (by omega)]
theorem TM.congr {f g:Nat → Nat → Int} {H:Heap} (h:TM n f H) (e:∀ a b,a < n → b < n → f a b=g a b):TM n g H:=⟨h.len,h.out,fun a ha=>by rw [h.row a ha,row_congr fun b hb=>e a b ha hb]⟩
theorem prim_mod {pol':Pol} (hp:pol'.prim 27=some modF) {a m:Int} (hm:0 < m∧m < 9223372036854775808) (H:Heap):∀ k,callN Tp pol' (k+1) 27 [.int .i64 a,.int .i64 m] H=some (.int .i64 (modW a m),H):=fun k=>by
  rw [prim_call (pol:=pol') (g:=27) (F:=modF) hp (rs:=[.int .i64 a,.int .i64 m]) rfl (res:=.int .i64 (modW a m)) (by simp only [modF]; rw [if_pos hm])]; rfl
theorem tm_step (hn:n ≤ 12) (hmo:0 ≤ mo∧mo ≤ 1000000) {f:Nat → Nat → Int} {H:Heap} (h:TM n f H) {i k:Nat} (hk:k < n) (hik:i < k) :
    ∃ H' y11 y12 y13,RT polA 28 (sub [1,1,1,0,1,0,0,1,0,0,1,0,0] B28) (tmE R n mo (.sl 0 0 n none n 1) Ud (.int .i64 (i:Int)) (.int .i64 (k:Int)) Ud Ud Ud) H .normal (tmE R n mo (.sl 0 0 n none n 1) Ud (.int .i64 (i:Int)) (.int .i64 ((k+1:Nat):Int)) y11 y12 y13) H'∧TM n (up2 f i k (tmX R mo i k)) H':=by
  have hi:i < n:=by omega
  obtain ⟨s1,s2,s3⟩:=h.two hi hk hik (tmX R mo i k)
  have hwm:IntKind.i64.wrap (mo+1)=mo+1:=wrap_id (by omega) (by omega)
  have hm:∀ a:Int,∀ kf,callN Tp polA (kf+1) 27 [.int .i64 a,.int .i64 (IntKind.i64.wrap (mo+1))] H=some (.int .i64 (modW a (mo+1)),H):=fun a=>by
    rw [hwm]; exact prim_mod (by kernel_rfl) (by omega) H
  refine ⟨_,.int .i64 (tmX R mo i k),slT n i,slT n k,?_,s3⟩
  by_cases c1:i < R.length
  · have gi:=gr (R:=R) (y:=i) c1
    by_cases c2:k < (R.getD i []).length
    · have gk:=gx (l:=R.getD i []) (y:=k) c2
      have ex:tmX R mo i k=clm mo (at2 R i k):=by unfold tmX; rw [if_pos ⟨c1,c2⟩]
      rw [ex] at s1 s2 ⊢
      by_cases c3:at2 R i k < 0
      · rw [show clm mo (at2 R i k)=modW (at2 R i k) (mo+1) by unfold clm; rw [if_pos (.inl c3)]] at s1 s2 ⊢
        have s:=tm_m_0 (R.map encR) n mo Ud i k H _ _ (at2 R i k) _ H _ _ (by omega) (by rw [List.length_map]; omega) gi (by rw [List.length_map]; omega) gi gk c3 (hm _) (ixo hi) (h.ld hi) (ixo hk) (h.ld hk) (ixr hk) s1 (ixr hi) s2
        rwa [wrap_succ (by omega)] at s
      · by_cases c4:mo < at2 R i k
        · rw [show clm mo (at2 R i k)=modW (at2 R i k) (mo+1) by unfold clm; rw [if_pos (.inr c4)]] at s1 s2 ⊢
          have s:=tm_m_1 (R.map encR) n mo Ud i k H _ _ (at2 R i k) _ H _ _ (by omega) (by rw [List.length_map]; omega) gi (by rw [List.length_map]; omega) gi gk c3 c4 (hm _) (ixo hi) (h.ld hi) (ixo hk) (h.ld hk) (ixr hk) s1 (ixr hi) s2
          rwa [wrap_succ (by omega)] at s
        · rw [show clm mo (at2 R i k)=at2 R i k by unfold clm; rw [if_neg (by omega)]] at s1 s2 ⊢
          have s:=tm_m_2 (R.map encR) n mo Ud i k H _ _ (at2 R i k) _ _ (by omega) (by rw [List.length_map]; omega) gi (by rw [List.length_map]; omega) gi gk c3 c4 (ixo hi) (h.ld hi) (ixo hk) (h.ld hk) (ixr hk) s1 (ixr hi) s2
          rwa [wrap_succ (by omega)] at s
    · have ex:tmX R mo i k=clm mo 1:=by unfold tmX; rw [if_neg (fun h=>c2 h.2)]
      rw [ex] at s1 s2 ⊢
      by_cases c4:mo < 1
      · rw [show clm mo 1=modW 1 (mo+1) by unfold clm; rw [if_pos (.inr c4)]] at s1 s2 ⊢
        have s:=tm_m_3 (R.map encR) n mo Ud i k H _ _ H _ _ (by omega) (by rw [List.length_map]; omega) gi (by rw [List.length_map]; omega) c4 (hm _) (ixo hi) (h.ld hi) (ixo hk) (h.ld hk) (ixr hk) s1 (ixr hi) s2
        rwa [wrap_succ (by omega)] at s
      · rw [show clm mo 1=1 by unfold clm; rw [if_neg (by omega)]] at s1 s2 ⊢
        have s:=tm_m_4 (R.map encR) n mo Ud i k H _ _ _ (by omega) (by rw [List.length_map]; omega) gi (by rw [List.length_map]; omega) c4 (ixo hi) (h.ld hi) (ixo hk) (h.ld hk) (ixr hk) s1 (ixr hi) s2
        rwa [wrap_succ (by omega)] at s
  · have ex:tmX R mo i k=clm mo 1:=by unfold tmX; rw [if_neg (fun h=>c1 h.1)]
    rw [ex] at s1 s2 ⊢
    by_cases c4:mo < 1
    · rw [show clm mo 1=modW 1 (mo+1) by unfold clm; rw [if_pos (.inr c4)]] at s1 s2 ⊢
      have s:=tm_m_5 (R.map encR) n mo Ud i k H _ H _ _ (by omega) (by rw [List.length_map]; omega) c4 (hm _) (ixo hi) (h.ld hi) (ixo hk) (h.ld hk) (ixr hk) s1 (ixr hi) s2
      rwa [wrap_succ (by omega)] at s
    · rw [show clm mo 1=1 by unfold clm; rw [if_neg (by omega)]] at s1 s2 ⊢
      have s:=tm_m_6 (R.map encR) n mo Ud i k H _ _ (by omega) (by rw [List.length_map]; omega) c4 (ixo hi) (h.ld hi) (ixo hk) (h.ld hk) (ixr hk) s1 (ixr hi) s2
      rwa [wrap_succ (by omega)] at s
def tmP (R:List (List Int)) (mo:Int) (i k a b:Nat):Int:=if a=b then 0 else if min a b < i ∨ min a b=i∧max a b < k then tmX R mo (min a b) (max a b) else 0
theorem tmP_up {i k a b:Nat} (hik:i < k):up2 (tmP R mo i k) i k (tmX R mo i k) a b=tmP R mo i (k+1) a b:=by
  unfold up2 tmP
  by_cases e:a=i∧b=k ∨ a=k∧b=i
  · rw [if_pos e,if_neg (by omega),show min a b=i by omega,show max a b=k by omega,if_pos (by omega)]
  · rw [if_neg e]
    by_cases e2:a=b
    · rw [if_pos e2,if_pos e2]
    · rw [if_neg e2,if_neg e2]
      by_cases c:min a b < i ∨ min a b=i∧max a b < k
      · rw [if_pos c,if_pos (by omega)]
      · rw [if_neg c,if_neg (by omega)]
theorem tm_in (hn:n ≤ 12) (hmo:0 ≤ mo∧mo ≤ 1000000):∀ j i k H,k+j=n → i < k → TM n (tmP R mo i k) H →
    ∃ H',RT polA 28 (sub [1,1,1,0,1,0,0,1,0,0,1,0] B28) (tmE R n mo (.sl 0 0 n none n 1) Ud (.int .i64 (i:Int)) (.int .i64 (k:Int)) Ud Ud Ud) H (.exit 4) (tmE R n mo (.sl 0 0 n none n 1) Ud (.int .i64 (i:Int)) (.int .i64 (n:Int)) Ud Ud Ud) H'∧TM n (tmP R mo i n) H':=by
  intro j
  induction j with
  | zero =>
    intro i k H hj hik h
    have:k=n:=by omega
    subst this
    exact ⟨H,lpo (tm_m_7 (R.map encR) k mo Ud i k H (by omega)),h⟩
  | succ j ih =>
    intro i k H hj hik h
    obtain ⟨H1,y11,y12,y13,s,h1⟩:=tm_step (R:=R) hn hmo h (k:=k) (by omega) hik
    obtain ⟨H',r,h'⟩:=ih i (k+1) H1 (by omega) (by omega) (h1.congr fun a b _ _=>tmP_up hik)
    exact ⟨H',lop s (gc_eq _ (by rw [h1.len,h.len])) r,h'⟩
theorem tmP_next {i a b:Nat} (ha:a < n) (hb:b < n):tmP R mo i n a b=tmP R mo (i+1) (i+2) a b:=by
  unfold tmP
  by_cases e2:a=b
  · rw [if_pos e2,if_pos e2]
  · rw [if_neg e2,if_neg e2]
    by_cases c:min a b < i ∨ min a b=i∧max a b < n
    · rw [if_pos c,if_pos (by omega)]
    · rw [if_neg c,if_neg (by omega)]
theorem tm_out (hn:n ≤ 12) (hmo:0 ≤ mo∧mo ≤ 1000000):∀ j i H,i+j=n → TM n (tmP R mo i (i+1)) H →
    ∃ H',RT polA 28 (sub [1,1,1,0,1,0] B28) (tmE R n mo (.sl 0 0 n none n 1) Ud (.int .i64 (i:Int)) Ud Ud Ud Ud) H (.exit 2) (tmE R n mo (.sl 0 0 n none n 1) Ud (.int .i64 (n:Int)) Ud Ud Ud Ud) H'∧TM n (tmP R mo n (n+1)) H':=by
  intro j
  induction j with
  | zero =>
    intro i H hj h
    have:i=n:=by omega
    subst this
    exact ⟨H,lpo (sqo (tm_e_1 (R.map encR) i mo Ud i H (by omega)) (c:=sub [1,1,1,0,1,0,0] B28) (b:=sub [1,1,1,0,1,0,0,1] B28)),h⟩
  | succ j ih =>
    intro i H hj h
    have e:=tm_e_0 (R.map encR) n mo Ud i H (by omega)
    have f:=tm_f_0 (R.map encR) n mo Ud i H
    rw [wrap_succ (by omega)] at f
    obtain ⟨H1,r,h1⟩:=tm_in (R:=R) hn hmo (n - (i+1)) i (i+1) H (by omega) (by omega) h
    have g:=tm_g_0 (R.map encR) n mo Ud i n H1
    rw [wrap_succ (by omega)] at g
    have t1:=sq f (bke (c:=sub [1,1,1,0,1,0,0,1,0,0,1] B28) r) (c:=sub [1,1,1,0,1,0,0,1,0,0] B28)
    have t2:=RunsTo.block_normal (i:=3) (c:=sub [1,1,1,0,1,0,0,1,0] B28) t1 (by kernel_rfl)
    have t3:=sq t2 g (c:=sub [1,1,1,0,1,0,0,1] B28)
    have t4:=sq e t3 (c:=sub [1,1,1,0,1,0,0] B28)
    obtain ⟨H',r2,h'⟩:=ih (i+1) H1 (by omega) (h1.congr fun a b ha hb=>tmP_next ha hb)
    exact ⟨H',lop t4 (gc_eq _ (by rw [h1.len,h.len])) r2,h'⟩
theorem frz_rows {H:Heap} (hn:1 ≤ n) {f:Nat → Nat → Int} (h:TM n f H):∀ (j i:Nat),i+j=n → mapO (frz H [0] 4) ((List.range' i j).map (slT n))=some ((List.range' i j).map fun a=>encO ((List.range n).map (f a))):=by
  intro j
  induction j with
  | zero=>intro i _; rfl
  | succ j ih =>
    intro i hi
    rw [List.range'_succ,List.map_cons,List.map_cons,mapO,ih (i+1) (by omega)]
    have hr:=h.row i (by omega)
    have hv:view H (i+1) 0 n n 1=some (((List.range n).map (f i)).map encI):=by
      simp only [view,hr,List.length_map,List.length_range]
      rw [if_pos ⟨trivial,by omega,trivial⟩]
      rw [List.drop_zero,List.take_of_length_le (by simp)]
    have hm:mapO (frz H [0] 3) (((List.range n).map (f i)).map encI)=some (((List.range n).map (f i)).map encI):=mapO_self (f:=frz H [0] 3) (g:=encI) (fun r=>frz_int 3 r) _
    have:frz H [0] 4 (slT n i)=some (encO ((List.range n).map (f i))):=by
      have e:frz H [0] 4 (slT n i)=if n=0 then some (.imm .own 1 []) else if [0].contains (i+1) then none else match view H (i+1) 0 n n 1 with | some l=>(match mapO (frz H [0] 3) l with | some l=>some (.imm .own 1 l) | none=>none) | none=>none:=rfl
      rw [e,if_neg (by omega),if_neg (by simp)]
      simp only [hv,hm]
      rfl
    rw [this]
theorem res_rows {H:Heap} (hn:1 ≤ n) {f:Nat → Nat → Int} (h:TM n f H):toRes H false (.sl 0 0 n none n 1)=some (.own 1 ((mat n f).map encO)):=by
  have ho:ownedAll H false (.sl 0 0 n none n 1)=[0]:=by simp [ownedAll,cellsOf,owned,h.out]
  have hv:view H 0 0 n n 1=some ((List.range n).map (slT n)):=by
    simp only [view,h.out,List.length_map,List.length_range]
    rw [if_pos ⟨trivial,by omega,trivial⟩]
    rw [List.drop_zero,List.take_of_length_le (by simp)]
  have hf:=frz_rows hn h n 0 (by omega)
  rw [← List.range_eq_range'] at hf
  have hr:(resElem H [0] false)=frz H [0] 4:=by funext v; rfl
  have e:(mat n f).map encO=(List.range n).map fun a=>encO ((List.range n).map (f a)):=by simp [mat,List.map_map,Function.comp_def]
  simp only [toRes,ho,List.nodup_cons,List.not_mem_nil,not_false_eq_true,List.nodup_nil,and_self,if_true,resVal,resCell,h.out,hv,hr,hf,e]
end
theorem tame_ok:PrimOk Tp 28 tame28:=by
  refine primOk_pure (pol:=polA) (fn:=Try.f28) (cd:=B28) follows_mixed soundA (by kernel_rfl) (by kernel_rfl) (fnokA _ _ (by kernel_rfl)) (by kernel_rfl) ?_
  intro args res h
  obtain ⟨R,n0,mo,rfl,hq⟩:=nmF_inv h
  clear h
  split at hq
  · rename_i hc
    cases hq
    obtain ⟨n,rfl⟩:∃ n:Nat,n0=(n:Int):=⟨n0.toNat,by omega⟩
    rw [Int.toNat_natCast]
    have a:=tm_a_0 (R.map encR) n mo []
    have b:=tm_b_0 (R.map encR) n mo [] _ rfl
    have c:=tm_c_0 (R.map encR) n mo [.arr 1 [] true 0]
    obtain ⟨H1,r1,h1⟩:=tm_make (R:=R) (n:=n) (mo:=mo) (by omega) n 0 [.arr 1 [] true 0] (by omega) ⟨rfl,rfl,fun a ha=>by omega⟩
    have d:=tm_d_0 (R.map encR) n mo (.int .i64 (n:Int)) H1
    have hM:TM n (tmP R mo 0 1) H1:=(h1.mem (by omega)).congr fun a b _ _=>by
      unfold tmP
      split
      · rfl
      · rw [if_neg (by omega)]
    obtain ⟨H2,r2,h2⟩:=tm_out (R:=R) (n:=n) (mo:=mo) (by omega) hc.2 n 0 H1 (by omega) hM
    have z:=tm_z_0 (R.map encR) n mo Ud (.int .i64 (n:Int)) Ud Ud Ud Ud H2
    have r2':=lpi (e0:=tmE R n mo (.sl 0 0 n none n 1) (.int .i64 (n:Int)) (.int .i64 0) Ud Ud Ud Ud) r2 (b:=sub [1,1,1,0,1,0,0] B28)
    have t1:=sq c (bke (c:=sub [1,1,0,1] B28) r1) (c:=sub [1,1,0] B28)
    have t2:=sq d (bke (c:=sub [1,1,1,0,1] B28) r2') (c:=sub [1,1,1,0] B28)
    have t3:=sq t1 (sq t2 z (c:=sub [1,1,1] B28)) (c:=sub [1,1] B28)
    have t4:=sq a (sq b t3 (c:=sub [1] B28)) (c:=B28)
    have hfin:TM n (tameF R mo) H2:=h2.congr fun a b ha hb=>by
      unfold tmP tameF
      by_cases e:a=b
      · rw [if_pos e,if_pos e]
      · rw [if_neg e,if_neg e,if_pos (by omega)]
        by_cases c:a < b
        · rw [if_pos c,show min a b=a by omega,show max a b=b by omega]
        · rw [if_neg c,show min a b=b by omega,show max a b=a by omega]
    exact ⟨_,_,_,.sl 0 0 n none n 1,t4,by simp,by simp only [resultsV,res28]; rfl,res_rows (by omega) hfin⟩
  · cases hq
end Go.Proofs.Ytlendaofkmhgmaa
end
section
open Go Go.HL
namespace Go.Proofs.Ytlendaofkmhgmaa
open Go.Proofs.Try renaming prog → Tp
open Go.HL.HV renaming undef → Ud
theorem res33:Try.f33.results.toList=[.tmp 4]:=by kernel_rfl
theorem info3b:(Tp.info? 3).map (fun i=>(i.size,i.bytes,zeroFits i))=some (1,8,true):=by kernel_rfl
theorem set_self' {H:Heap} {b:Nat} {B:Blk} (hb:H[b]?=some B):H.set b B=H:=by
  apply List.ext_getElem?
  intro k
  rw [List.getElem?_set]
  by_cases e:b=k
  · subst e; rw [if_pos rfl,if_pos (lt_of_get hb),hb]
  · rw [if_neg e]
theorem app_sq {H:Heap} {b:Nat} {x:HV} {o xs:List Int} (hb:H[b]?=some (bI o)) (hs:srcOf H x=some (xs.map encI,1)) (hlen:o.length+xs.length ≤ 1000) :
    builtinV Tp .append [23,23] [.sl b 0 o.length none o.length 1,x] H=some (.sl b 0 (o ++ xs).length none (o ++ xs).length 1,H.set b (bI (o ++ xs))):=by
  have hi:=info3b
  cases hinf:Tp.info? 3 with
  | none=>rw [hinf] at hi; cases hi
  | some inf =>
    rw [hinf] at hi
    simp only [Option.map,Option.some.injEq,Prod.mk.injEq] at hi
    obtain ⟨e1,e2,e3⟩:=hi
    simp only [builtinV,u23,hinf,hs,e1,e2,e3]
    rw [if_pos ⟨.inl trivial,by omega,trivial⟩]
    by_cases hx:xs=[]
    · subst hx
      simp only [List.map_nil,appV,if_true,List.append_nil,set_self' hb]
    · exact app_ints hb hlen hx
theorem src_slc {H:Heap} {b off len tot:Nat} {cap:Option Nat} {o:List Int} (hb:H[b]?=some (bI o)) (ht:o.length=tot) (h:off+len ≤ tot):srcOf H (.sl b off len cap tot 1)=some (((o.drop off).take len).map encI,1):=by
  simp only [srcOf]
  split
  · rename_i h0
    subst h0
    simp
  · simp only [view,hb,List.length_map,ht]
    rw [if_pos ⟨trivial,by omega,trivial⟩]
    simp [List.map_take,List.map_drop]
theorem sl_hi {b m:Nat} {cap:Option Nat} {a:Nat} (ha:a ≤ m):sliceV Tp 23 (.sl b 0 m cap m 1) none (some (.int .i64 (a:Int))) none=some (.sl b 0 a (cap.map (· - 0)) m 1):=by
  have hb1:boundV (some (.int .i64 (a:Int)))=some (some a):=by simp [boundV]
  have hb0:boundV none=some none:=rfl
  simp only [sliceV,hb1,hb0,u23,z3,if_true,Option.getD,Nat.zero_add,Nat.sub_zero]
  rw [if_pos ⟨Nat.zero_le _,ha⟩]
theorem sl_lo {b m:Nat} {cap:Option Nat} {a:Nat} (ha:a ≤ m):sliceV Tp 23 (.sl b 0 m cap m 1) (some (.int .i64 (a:Int))) none none=some (.sl b a (m - a) (cap.map (· - a)) m 1):=by
  have hb1:boundV (some (.int .i64 (a:Int)))=some (some a):=by simp [boundV]
  have hb0:boundV none=some none:=rfl
  simp only [sliceV,hb1,hb0,u23,z3,if_true,Option.getD,Nat.zero_add]
  rw [if_pos ⟨ha,Nat.le_refl _⟩]
theorem mxs_set0 {H:Heap} (h:mxs H ≤ 0) {k:Nat} {B:Blk} (hB:B.mx=0):mxs (H.set k B) ≤ 0:=by
  rw [mxs_le] at h ⊢
  intro C hC
  rcases List.mem_or_eq_of_mem_set hC with hC | rfl
  · exact h C hC
  · omega
theorem mxs_app0 {H:Heap} (h:mxs H ≤ 0) {B:Blk} (hB:B.mx=0):mxs (H ++ [B]) ≤ 0:=by
  rw [mxs_le] at h ⊢
  intro C hC
  rcases List.mem_append.1 hC with hC | hC
  · exact h C hC
  · rw [List.mem_singleton.1 hC]; omega
section
variable {l:List Int} {n:Nat}
abbrev toE (l:List Int) (n:Nat) (tv y6 y7 y8:HV):Env:=env33 (.imm .arg 1 (l.map encI)) (.int .i64 (n:Int)) (.imm .lit 1 []) tv y6 y7 y8
theorem to_apps {H:Heap} {tb m:Nat} {cap:Option Nat} {o:List Int} (hx:mxs H ≤ 0) (ho:H[tb]?=some (bI o)) (hm:o.length=m) {a:Nat} (ha:a ≤ m) (hl:m ≤ 100) (x:Int) :
    ∃ H2 H3 H4,builtinV Tp .append [23,23] [.sl H.length 0 0 none 0 1,.sl tb 0 a (cap.map (· - 0)) m 1] (H ++ [bI []])=some (.sl H.length 0 a none a 1,H2) ∧
      appV H2 1 8 (.sl H.length 0 a none a 1) [.int .i64 x]=some (.sl H.length 0 (a+1) none (a+1) 1,H3) ∧
      builtinV Tp .append [23,23] [.sl H.length 0 (a+1) none (a+1) 1,.sl tb a (m - a) (cap.map (· - a)) m 1] H3=some (.sl H.length 0 (m+1) none (m+1) 1,H4) ∧
      H4.length=H.length+1∧H4[H.length]?=some (bI (o.take a ++ (x :: o.drop a)))∧mxs H4 ≤ 0:=by
  have htl:=lt_of_get ho
  have n0:(H ++ [bI []])[H.length]?=some (bI []):=by rw [List.getElem?_append_right (Nat.le_refl _)]; simp
  have t0:(H ++ [bI []])[tb]?=some (bI o):=by rw [List.getElem?_append_left htl]; exact ho
  have s0:=src_slc (cap:=cap.map (· - 0)) t0 hm (off:=0) (len:=a) (by omega)
  rw [List.drop_zero] at s0
  have p0:=app_sq (o:=[]) (xs:=o.take a) n0 s0 (by simp; omega)
  rw [List.nil_append,show (o.take a).length=a by rw [List.length_take]; omega] at p0
  have n1:((H ++ [bI []]).set H.length (bI (o.take a)))[H.length]?=some (bI (o.take a)):=List.getElem?_set_self (by simp)
  have p1:=app_ints (o:=o.take a) (xs:=[x]) n1 (by simp; omega) (by simp)
  rw [show (o.take a).length=a by rw [List.length_take]; omega,show (o.take a ++ [x]).length=a+1 by simp; omega] at p1
  have n2:(((H ++ [bI []]).set H.length (bI (o.take a))).set H.length (bI (o.take a ++ [x])))[H.length]?=some (bI (o.take a ++ [x])):=List.getElem?_set_self (by simp)
  have t2:(((H ++ [bI []]).set H.length (bI (o.take a))).set H.length (bI (o.take a ++ [x])))[tb]?=some (bI o):=by rw [List.getElem?_set_ne (by omega),List.getElem?_set_ne (by omega)]; exact t0
  have s2:=src_slc (cap:=cap.map (· - a)) t2 hm (off:=a) (len:=m - a) (by omega)
  rw [List.take_of_length_le (l:=o.drop a) (i:=m - a) (by simp; omega)] at s2
  have p2:=app_sq (o:=o.take a ++ [x]) (xs:=o.drop a) n2 s2 (by simp; omega)
  rw [show (o.take a ++ [x]).length=a+1 by simp; omega,show (o.take a ++ [x] ++ o.drop a).length=m+1 by simp; omega] at p2
  refine ⟨_,_,_,p0,p1,p2,by simp,?_,mxs_set0 (mxs_set0 (mxs_set0 (mxs_app0 hx rfl) rfl) rfl) rfl⟩
  rw [List.getElem?_set_self (by simp),List.append_assoc]
  rfl
theorem to_loop (hn:n ≤ 12):∀ k i o tb cap H,i+k=n → 1 ≤ i → H[tb]?=some (bI o) → o.length=i → mxs H ≤ 0 →
    ∃ tb' cap' H',RT polA 33 (sub [1,1,0,1,0] B33) (toE l n (.sl tb 0 i cap i 1) (.int .i64 (i:Int)) Ud Ud) H (.exit 0) (toE l n (.sl tb' 0 n cap' n 1) (.int .i64 (n:Int)) Ud Ud) H'∧H'[tb']?=some (bI (tourGo l k i o))∧(tourGo l k i o).length=n:=by
  intro k
  induction k with
  | zero =>
    intro i o tb cap H hi _ ho hl _
    have:i=n:=by omega
    subst this
    exact ⟨tb,cap,H,lpo (to_l_2 (l.map encI) i _ Ud Ud i 0 0 0 H (by omega)),ho,hl⟩
  | succ k ih =>
    intro i o tb cap H hi h1 ho hl hx
    have ha:=ins_at (l:=l) h1 (by omega)
    rw [tourGo]
    have htl:=lt_of_get ho
    have go:∀ (a:Nat) (y7 y8:HV) (H4:Heap),a ≤ i → (if i < l.length then 1+modW (l.getD i 0) i else (i:Int)).toNat=a → H4.length=H.length+1 → H4[H.length]?=some (bI (o.take a ++ ((i:Int) :: o.drop a))) →
        RT polA 33 (sub [1,1,0,1,0,0] B33) (toE l n (.sl tb 0 i cap i 1) (.int .i64 (i:Int)) Ud Ud) H .normal (toE l n (.sl H.length 0 (i+1) none (i+1) 1) (.int .i64 ((i+1:Nat):Int)) y7 y8) H4 →
        mxs H4 ≤ 0 → ∃ tb' cap' H',RT polA 33 (sub [1,1,0,1,0] B33) (toE l n (.sl tb 0 i cap i 1) (.int .i64 (i:Int)) Ud Ud) H (.exit 0) (toE l n (.sl tb' 0 n cap' n 1) (.int .i64 (n:Int)) Ud Ud) H'∧H'[tb']?=some (bI (tourGo l k (i+1) (insT l i o)))∧(tourGo l k (i+1) (insT l i o)).length=n:=by
      intro a y7 y8 H4 hai hat hl4 hb4 hs hx4
      have e:insT l i o=o.take a ++ ((i:Int) :: o.drop a):=by unfold insT; simp only [hat]
      have ec:gc H.length (bndE (toE l n (.sl H.length 0 (i+1) none (i+1) 1) (.int .i64 ((i+1:Nat):Int)) Ud Ud)) H4=H4:=by
        unfold gc
        have:H4.length ≤ max H.length (max (bndE (toE l n (.sl H.length 0 (i+1) none (i+1) 1) (.int .i64 ((i+1:Nat):Int)) Ud Ud)) (mxs H4)):=by
          simp only [bndE,bnd,bndL]
          omega
        exact List.take_of_length_le this
      obtain ⟨tb',cap',H',r,q1,q2⟩:=ih (i+1) (insT l i o) H.length none H4 (by omega) (by omega) (by rw [e]; exact hb4) (by rw [e]; simp; omega) hx4
      exact ⟨tb',cap',H',lop hs ec r,q1,q2⟩
    by_cases c:i < l.length
    · rw [if_pos c] at ha
      have hmb:=modW_bounds (l.getD i 0) (i:Int) (by omega) (by omega)
      obtain ⟨a,hae⟩:∃ a:Nat,1+modW (l.getD i 0) (i:Int)=(a:Int):=⟨(1+modW (l.getD i 0) (i:Int)).toNat,by omega⟩
      have hw:IntKind.i64.wrap (1+modW (l.getD i 0) (i:Int))=(a:Int):=by rw [wrap_id (by omega) (by omega),hae]
      obtain ⟨H2,H3,H4,p0,p1,p2,p3,p4,p5⟩:=to_apps (cap:=cap) hx ho hl (a:=a) (by omega) (by omega) (i:Int)
      have s:=to_l_0 (l.map encI) n (.sl tb 0 i cap i 1) _ _ i H.length a (i+1) H _ _ H (H ++ [bI []]) H2 H3 H4 (by omega) (by rw [List.length_map]; omega) (gx c) (prim_mod (by kernel_rfl) (by omega) H) rfl (by rw [hw]; exact sl_hi (by omega)) p0 p1 (by rw [hw]; exact sl_lo (by omega)) p2
      rw [wrap_succ (by omega)] at s
      exact go a _ _ H4 (by omega) (by rw [if_pos c,hae]; omega) p3 p4 s p5
    · obtain ⟨H2,H3,H4,p0,p1,p2,p3,p4,p5⟩:=to_apps (cap:=cap) hx ho hl (a:=i) (by omega) (by omega) (i:Int)
      have s:=to_l_1 (l.map encI) n (.sl tb 0 i cap i 1) _ _ i H.length i (i+1) H (H ++ [bI []]) H2 H3 H4 (by omega) (by rw [List.length_map]; omega) rfl (sl_hi (by omega)) p0 p1 (sl_lo (by omega)) p2
      rw [wrap_succ (by omega)] at s
      exact go i _ _ H4 (by omega) (by rw [if_neg c]; omega) p3 p4 s p5
end
theorem tour33_ok:PrimOk Tp 33 tour33:=by
  refine primOk_pure (pol:=polA) (fn:=Try.f33) (cd:=B33) follows_mixed soundA (by kernel_rfl) (by kernel_rfl) (fnokA _ _ (by kernel_rfl)) (by kernel_rfl) ?_
  intro args res h
  obtain ⟨l,n0,rfl,hq⟩:=lnF_inv h
  clear h
  split at hq
  · rename_i hc
    cases hq
    obtain ⟨n,rfl⟩:∃ n:Nat,n0=(n:Int):=⟨n0.toNat,by omega⟩
    rw [Int.toNat_natCast]
    have a:=to_a_0 (l.map encI) n []
    have b:=to_b_0 (l.map encI) n _ [] _ (lit_zero [])
    have c:=to_c_0 (l.map encI) n (.sl 0 0 1 (some 1) 1 1) [bI [0]]
    obtain ⟨tb,cap,H',r,q1,q2⟩:=to_loop (l:=l) (n:=n) (by omega) (n - 1) 1 [0] 0 (some 1) [bI [0]] (by omega) (by omega) rfl rfl (by simp [mxs,Blk.mx])
    have z:=to_z_0 (l.map encI) n (.sl tb 0 n cap n 1) (.int .i64 (n:Int)) Ud Ud H'
    have t1:=sq (sq c (bke (c:=sub [1,1,0,1] B33) r) (c:=sub [1,1,0] B33)) z (c:=sub [1,1] B33)
    have t2:=sq a (sq b t1 (c:=sub [1] B33)) (c:=B33)
    refine ⟨_,_,_,.sl tb 0 n cap n 1,t2,by simp,by simp only [resultsV,res33]; rfl,?_⟩
    have hr:=resCell_sl (H:=H') (no:=[tb]) (b:=tb) (k:=1) (m:=n) (cap:=cap) (els:=(tourGo l (n - 1) 1 [0]).map encI) q1 (by simpa using q2) (mapO_self (fun r=>frz_int 4 r) _)
    have ho:ownedAll H' false (.sl tb 0 n cap n 1)=[tb]:=by simp [ownedAll,cellsOf,owned,q1]
    show toRes H' false (.sl tb 0 n cap n 1)=_
    simp only [toRes,ho,List.nodup_cons,List.not_mem_nil,not_false_eq_true,List.nodup_nil,and_self,if_true,resVal]
    exact hr
  · cases hq
end Go.Proofs.Ytlendaofkmhgmaa
end
section
open Go Go.HL
namespace Go.Proofs.Ytlendaofkmhgmaa
section
variable {d:List (List Int)}
theorem revP_perm {l:List Int} {i j:Nat} (h:i ≤ j) (hj:j < l.length):(revP l i j).Perm l:=by
  unfold revP
  have e:l=l.take i ++ ((l.drop i).take (j+1 - i) ++ l.drop (j+1)):=by
    rw [← List.take_append_drop i l]
    congr 1
    · simp
    · rw [List.take_append_drop]
      have:l.drop (j+1)=(l.drop i).drop (j+1 - i):=by rw [List.drop_drop]; congr 1; omega
      rw [this,List.take_append_drop]
  conv=>rhs; rw [e]
  exact List.Perm.append_left _ (List.Perm.append_right _ (List.reverse_perm _))
theorem revP_tour {n:Nat} {l:List Int} {i j:Nat} (h1:1 ≤ i) (h:i ≤ j) (hj:j < l.length) (hl:trOk n l=true):trOk n (revP l i j)=true:=by
  rw [trOk_iff] at hl ⊢
  obtain ⟨t1,t2,t3,t4⟩:=hl
  refine ⟨(revP_len h hj).trans t1,?_,inT_rev h hj t3,(revP_perm h hj).nodup_iff.2 t4⟩
  have:=revP_get h hj 0
  rw [if_neg (by omega)] at this
  have e:(revP l i j).getD 0 0=l.getD 0 0:=by simp only [List.getD,this]
  exact e.trans t2
theorem impF_ok (h:okD d):∀ (k:Nat) (l:List Int),trOk d.length l=true → (lenT d l).toNat ≤ k → bett d (impF d k l)=none∧trOk d.length (impF d k l)=true∧lenT d (impF d k l) ≤ lenT d l:=by
  have hn:=h.1
  intro k
  induction k with
  | zero =>
    intro l hl hk
    rw [impF]
    have ht:=trOk_iff.1 hl
    refine ⟨?_,hl,Int.le_refl _⟩
    cases hb:bett d l with
    | none=>rfl
    | some r =>
      have:=bett_ok h ht.2.2.1 (by omega) hb
      omega
  | succ k ih =>
    intro l hl hk
    rw [impF]
    have ht:=trOk_iff.1 hl
    cases hb:bett d l with
    | none=>exact ⟨hb,hl,Int.le_refl _⟩
    | some r =>
      have h1:=bett_ok h ht.2.2.1 (by omega) hb
      obtain ⟨i,j,g1,g2,g3,g4,g5⟩:=bett_some (by omega) hb
      have hr:trOk d.length r=true:=by rw [g4]; exact revP_tour g1 g2 g3 hl
      obtain ⟨q1,q2,q3⟩:=ih r hr (by omega)
      exact ⟨q1,q2,by show lenT d (impF d k r) ≤ _; omega⟩
theorem impT_ok (h:okD d) {l:List Int} (hl:trOk d.length l=true):bett d (impT d l)=none∧trOk d.length (impT d l)=true∧lenT d (impT d l) ≤ lenT d l:=impF_ok h _ _ hl (Nat.le_refl _)
end
end Go.Proofs.Ytlendaofkmhgmaa
end
section
open Go Go.HL
namespace Go.Proofs.Ytlendaofkmhgmaa
section
variable {d:List (List Int)}
def lastP:Nat → List Int → Nat
  | s,[]=>s
  | _,v :: p=>lastP v.toNat p
structure Pre (n:Nat) (p:List Int) (L:Nat):Prop where
  inn:inT n (0 :: p)
  nd:(0 :: p).Nodup
  left:∀ y:Nat,L.testBit y=true ↔ y < n∧(y:Int) ∉ (0 :: p)
theorem Pre.lt {n L:Nat} {p:List Int} (h:Pre n p L):L < 2 ^ n:=Nat.lt_pow_two_of_testBit _ fun i hi=>by
  cases hb:L.testBit i with
  | false=>rfl
  | true=>have:=((h.left i).1 hb).1; omega
theorem Pre.step {n L y:Nat} {p:List Int} (h:Pre n p L) (hn:n ≤ 11) (hb:L.testBit y=true):Pre n (p ++ [(y:Int)]) (wo L y):=by
  obtain ⟨h1,h2⟩:=(h.left y).1 hb
  have hL:=h.lt
  have hp:=pow_le hn
  have e:(0 :: (p ++ [(y:Int)]))=(0 :: p) ++ [(y:Int)]:=rfl
  refine ⟨fun v hv=>?_,?_,fun u=>?_⟩
  · rw [e,List.mem_append,List.mem_singleton] at hv
    rcases hv with hv | rfl
    · exact h.inn v hv
    · omega
  · rw [e,List.nodup_append]
    refine ⟨h.nd,by simp,fun a ha b hb'=>?_⟩
    rw [List.mem_singleton] at hb'
    subst hb'
    exact fun e=>h2 (e ▸ ha)
  · rw [wo_bit (by omega) (by omega),e,Bool.and_eq_true,h.left,decide_eq_true_eq]
    simp only [List.mem_append,List.mem_singleton,not_or]
    constructor
    · rintro ⟨⟨g1,g2⟩,g3⟩; exact ⟨g1,g2,by omega⟩
    · rintro ⟨g1,g2,g3⟩; exact ⟨⟨g1,g2⟩,by omega⟩
end
end Go.Proofs.Ytlendaofkmhgmaa
end
section
open Go Go.HL
namespace Go.Proofs.Ytlendaofkmhgmaa
def rl (d:List (List Int)) (A:List Int) (p:Nat × Nat):List Int:=A.set p.2 (min (A.getD p.2 0) (A.getD p.1 0+at2 d p.1 p.2))
def BdA (n:Nat) (A:List Int):Prop:=A.length=n∧∀ v,v < n → 0 ≤ A.getD v 0∧A.getD v 0 ≤ 1099511627776
theorem getD_set' (o:List Int) (i k:Nat) (v:Int) (hi:i < o.length):(o.set i v).getD k 0=if i=k then v else o.getD k 0:=by
  simp only [List.getD,List.getElem?_set,hi]
  split
  · rename_i e; subst e; simp
  · rfl
section
variable {d:List (List Int)}
theorem BdA.rl (h:okD d) {A:List Int} (hA:BdA d.length A) {p:Nat × Nat} (h1:p.1 < d.length) (h2:p.2 < d.length):BdA d.length (rl d A p):=by
  refine ⟨by simp [Ytlendaofkmhgmaa.rl,hA.1],fun v hv=>?_⟩
  unfold Ytlendaofkmhgmaa.rl
  rw [getD_set' _ _ _ _ (by rw [hA.1]; exact h2)]
  have a1:=hA.2 p.1 h1
  have a2:=hA.2 p.2 h2
  have a3:=h.at h1 h2
  split
  · omega
  · exact hA.2 v hv
end
end Go.Proofs.Ytlendaofkmhgmaa
end
section
open Go Go.HL
namespace Go.Proofs.Ytlendaofkmhgmaa
open Go.Proofs.Try renaming prog → Tp
open Go.HL.HV renaming undef → Ud
section
variable {pol':Pol} {d:List (List Int)} {l:List Int} {H:Heap} {xb lb:Nat}
abbrev bRw (d:List (List Int)):Blk:=.arr 1 (d.map encO) true 0
theorem rows_len (h:okD d):d.length ≤ 1000∧(d.all fun r=>decide (r.length ≤ 1000))=true:=by
  have hn:=h.1
  refine ⟨by omega,List.all_eq_true.2 fun r hr=>?_⟩
  obtain ⟨i,hi⟩:=List.mem_iff_getElem?.1 hr
  have hil:=lt_of_get hi
  have:=h.2.1 i hil
  rw [List.getD,hi] at this
  exact decide_eq_true (by simp at this; omega)
theorem c_tame (hp:pol'.prim 28=some tame28) {R:List (List Int)} {n:Nat} {mo:Int} (hn:1 ≤ n∧n ≤ 12) (hm:0 ≤ mo∧mo ≤ 1000000) (H:Heap):∀ k,callN Tp pol' (k+1) 28 [.imm .arg 1 (R.map encR),.int .i64 (n:Int),.int .i64 mo] H=some (.sl H.length 0 (tameL R n mo).length none (tameL R n mo).length 1,H ++ [bRw (tameL R n mo)]):=fun k=>by
  rw [prim_call (pol:=pol') (g:=28) (F:=tame28) hp (rs:=[.imm .arg 1 (R.map encR),.int .i64 (n:Int),.int .i64 mo]) (by simp only [mapO,arg_rw]; rfl) (res:=.own 1 ((tameL R n mo).map encO)) (by simp only [tame28,nmF,mapO_map decR_enc]; rw [if_pos ⟨by omega,hm⟩,Int.toNat_natCast]),recv_rows]
theorem c_tour (hp:pol'.prim 33=some tour33) {n:Nat} (hn:1 ≤ n∧n ≤ 12) (H:Heap):∀ k,callN Tp pol' (k+1) 33 [.imm .arg 1 (l.map encI),.int .i64 (n:Int)] H=some (.sl H.length 0 (tourL l n).length none (tourL l n).length 1,H ++ [bI (tourL l n)]):=fun k=>by
  rw [prim_call (pol:=pol') (g:=33) (F:=tour33) hp (rs:=[.imm .arg 1 (l.map encI),.int .i64 (n:Int)]) (by simp only [mapO,arg_li]; rfl) (res:=.own 1 ((tourL l n).map encI)) (by simp only [tour33,lnF,mapO_map decI_enc]; rw [if_pos (by omega),Int.toNat_natCast]),recv_ints]
theorem c_imp (hp:pol'.prim 35=some improve35) (hd:okD d) (ht:trOk d.length l=true) (hx:H[xb]?=some (bRw d)) (hl:H[lb]?=some (bI l)):∀ k,callN Tp pol' (k+1) 35 [.sl xb 0 d.length none d.length 1,.sl lb 0 l.length none l.length 1] H=some (.tuple [.sl H.length 0 (impT d l).length none (impT d l).length 1,.int .i64 0],H ++ [bI (impT d l)]):=fun k=>by
  have hr:=rows_len hd
  have hn:=hd.1
  have t:=(trOk_iff.1 ht).1
  rw [prim_call (pol:=pol') (g:=35) (F:=improve35) hp (rs:=[.imm .arg 1 (d.map encR),.imm .arg 1 (l.map encI)]) (by simp only [mapO,arg_rs rfl hx,arg_sl rfl hl]) (res:=.tuple [.own 1 ((impT d l).map encI),.int .i64 0]) (by
    simp only [improve35,rlF,mapO_map decR_enc,mapO_map decI_enc]
    rw [if_pos ⟨hr.1,hr.2,by omega⟩,if_pos ⟨hd,ht⟩])]
  simp only [recv,recvVals,recvVal,recvCell,encI_any,List.length_map]
  rfl
theorem c_best (hp:pol'.prim 29=some best29) (hd:okD d) (hx:H[xb]?=some (bRw d)):∀ k,callN Tp pol' (k+1) 29 [.sl xb 0 d.length none d.length 1] H=some (.tuple [.sl H.length 0 (bestT d).length none (bestT d).length 1,.int .i64 (lenT d (bestT d)),.int .i64 0],H ++ [bI (bestT d)]):=fun k=>by
  have hr:=rows_len hd
  rw [prim_call (pol:=pol') (g:=29) (F:=best29) hp (rs:=[.imm .arg 1 (d.map encR)]) (by simp only [mapO,arg_rs rfl hx]) (res:=.tuple [.own 1 ((bestT d).map encI),.int .i64 (lenT d (bestT d)),.int .i64 0]) (by
    simp only [best29,rwF,mapO_map decR_enc]
    rw [if_pos ⟨hr.1,hr.2⟩,if_pos hd])]
  simp only [recv,recvVals,recvVal,recvCell,encI_any,List.length_map]
  rfl
theorem c_ints (hp:pol'.prim 26=some ints26) {a b:Nat} (hn:l.length ≤ 1000) (h2:H[a]?=some (bI l)) (h3:H[b]?=some (bI l)):∀ k,callN Tp pol' (k+1) 26 [.sl a 0 l.length none l.length 1,.sl b 0 l.length none l.length 1] H=some (.bool true,H):=fun k=>by
  rw [prim_call (pol:=pol') (g:=26) (F:=ints26) hp (rs:=[.imm .arg 1 (l.map encI),.imm .arg 1 (l.map encI)]) (by simp only [mapO,arg_sl rfl h2,arg_sl rfl h3]) (res:=.bool true) (by simp only [ints26,llF,mapO_map decI_enc]; rw [if_pos (by omega),decide_eq_true trivial])]; rfl
end
theorem n_of (R0:List (List Int)) (m:Int) (hm:0 < m∧m ≤ 1000) (c:Int) (hc:0 ≤ c∧c ≤ 3):∃ n:Nat,(c ≤ n∧(n:Int) < c+m)∧IntKind.i64.wrap (c+modW (IntKind.i64.wrap (((R0.map encR).length:Int) - c)) m)=(n:Int):=by
  have h:=modW_bounds (IntKind.i64.wrap (((R0.map encR).length:Int) - c)) m (by omega) (by omega)
  refine ⟨(c+modW (IntKind.i64.wrap (((R0.map encR).length:Int) - c)) m).toNat,by omega,?_⟩
  rw [wrap_id (by omega) (by omega)]; omega
end Go.Proofs.Ytlendaofkmhgmaa
end
section
open Go Go.HL
namespace Go.Proofs.Ytlendaofkmhgmaa
open Go.Proofs.Try renaming prog → Tp
open Go.HL.HV renaming undef → Ud
def anyF (f:Nat → Bool):Nat → Nat → Bool
  | 0,_=>false
  | k+1,i=>f i || anyF f k (i+1)
def tight (d:List (List Int)) (fa:List Int) (v u:Nat):Bool:=decide (at2 d v u+fa.getD u 0=fa.getD v 0)
def ldF (d:List (List Int)) (fa:List Int) (to:Nat):Nat → Nat → Nat → Bool
  | 0,v,_=>decide (v=to)
  | k+1,v,L=>decide (v=to) || anyF (fun u=>L.testBit u && tight d fa v u && ldF d fa to k u (wo L u)) d.length 0
def ldT (d:List (List Int)) (fa:List Int) (to v L:Nat):Bool:=ldF d fa to L v L
theorem u74:Tp.underlying 74=some (.map 77 4):=by kernel_rfl
theorem a22:tyAgg Tp 22=false:=by kernel_rfl
theorem i22:(Tp.underlying 22).isSome=true:=by kernel_rfl
theorem a74:tyAgg Tp 74=false:=by kernel_rfl
theorem i74:(Tp.underlying 74).isSome=true:=by kernel_rfl
theorem a75:tyAgg Tp 75=false:=by kernel_rfl
theorem i75:(Tp.underlying 75).isSome=true:=by kernel_rfl
abbrev fnK:HV:=.func 53 [] [.ptr 1 0 0 1,.ptr 6 0 0 1,.ptr 0 0 0 1,.ptr 3 0 0 1,.ptr 7 0 0 1]
abbrev bB (g:Int × Int → Bool) (k:Int × Int):HV:=.bool (g k)
structure WM (d:List (List Int)) (fa:List Int) (to:Nat) (ks:List (Int × Int)) (g:Int × Int → Bool) (H:Heap):Prop where
  b0:H[0]?=some (.arr 1 [.imm .arg 1 (d.map encR)] true 0)
  b1:H[1]?=some (.arr 1 [.int .i64 (to:Int)] true 0)
  b2:H[2]?=some (bI fa)
  b3:H[3]?=some (.arr 1 [.sl 2 0 d.length none d.length 1] true 5)
  b5:H[5]?=some (.map (ks.map encP) (ks.map (bB g)) 0)
  b6:H[6]?=some (.arr 1 [.map 5] true 6)
  b7:H[7]?=some (.arr 1 [fnK] true 8)
  nd:ks.Nodup
  rf:sameH H H=true
  mx:mxs H ≤ 8
structure FrW (H H':Heap):Prop where
  len:H'.length=H.length
  same:∀ k,k ≠ 5 → H'[k]?=H[k]?
theorem FrW.refl (H:Heap):FrW H H:=⟨rfl,fun _ _=>rfl⟩
theorem FrW.trans {H H' H'':Heap} (h:FrW H H') (h':FrW H' H''):FrW H H'':=⟨h'.len.trans h.len,fun k hk=>(h'.same k hk).trans (h.same k hk)⟩
section
variable {d:List (List Int)} {fa:List Int} {to:Nat} {ks:List (Int × Int)} {g:Int × Int → Bool} {H:Heap}
theorem WM.seven (h:WM d fa to ks g H):8 ≤ H.length:=lt_of_get h.b7
theorem WM.l0 (h:WM d fa to ks g H):loadV Tp H 22 (.ptr 0 0 0 1)=some (.imm .arg 1 (d.map encR)):=load_elem (b:=0) h.b0 rfl rfl rfl a22 i22
theorem WM.l1 (h:WM d fa to ks g H):loadV Tp H 3 (.ptr 1 0 0 1)=some (.int .i64 (to:Int)):=load_elem (b:=1) h.b1 rfl rfl rfl a3 i3
theorem WM.l3 (h:WM d fa to ks g H):loadV Tp H 23 (.ptr 3 0 0 1)=some (.sl 2 0 d.length none d.length 1):=load_elem (b:=3) h.b3 rfl rfl rfl a23 i23
theorem WM.l5 (h:WM d fa to ks g H):loadV Tp H 74 (.ptr 6 0 0 1)=some (.map 5):=load_elem (b:=6) h.b6 rfl rfl rfl a74 i74
theorem WM.l6 (h:WM d fa to ks g H):loadV Tp H 75 (.ptr 7 0 0 1)=some fnK:=load_elem (b:=7) h.b7 rfl rfl rfl a75 i75
theorem WM.l2 (h:WM d fa to ks g H) (hf:fa.length=d.length) {v:Nat} (hv:v < d.length):loadV Tp H 3 (.ptr 2 v 0 d.length)=some (.int .i64 (fa.getD v 0)):=by
  rw [← hf]
  exact load_out h.b2 (by omega)
theorem same_mapB (g:Int × Int → Bool) (ks:List (Int × Int)):sameH [.map (ks.map encP) (ks.map (bB g)) 0] [.map (ks.map encP) (ks.map (bB g)) 0]=true:=by
  have e1:sameL (ks.map encP) (ks.map encP)=true:=sameL_all fun v hv=>by
    obtain ⟨k,_,rfl⟩:=List.mem_map.1 hv
    simp [encP,same,sameL]
  have e2:sameL (ks.map (bB g)) (ks.map (bB g))=true:=sameL_all fun v hv=>by
    obtain ⟨k,_,rfl⟩:=List.mem_map.1 hv
    simp [same]
  simp only [sameH,e1,e2,beq_self_eq_true,Bool.and_self]
def put (g:Int × Int → Bool) (k:Int × Int) (b:Bool) (q:Int × Int):Bool:=if q=k then b else g q
theorem WM.upd (h:WM d fa to ks g H) (k:Int × Int) (b:Bool):∃ ks' H',updV Tp false 74 (.map 5) (encP k) (.bool b) H=some H'∧WM d fa to ks' (put g k b) H'∧FrW H H'∧(∀ q,q ∈ ks' ↔ q ∈ ks ∨ q=k):=by
  obtain ⟨r,h1,h2⟩:=findK_pairs k ks 0
  have ht:=key77 k
  have hl:=lt_of_get h.b5
  have key:∀ ks':List (Int × Int),ks'.Nodup → (∀ q,q ∈ ks' ↔ q ∈ ks ∨ q=k) → updV Tp false 74 (.map 5) (encP k) (.bool b) H=some (H.set 5 (.map (ks'.map encP) (ks'.map (bB (put g k b))) 0)) → ∃ ks' H',updV Tp false 74 (.map 5) (encP k) (.bool b) H=some H'∧WM d fa to ks' (put g k b) H'∧FrW H H'∧(∀ q,q ∈ ks' ↔ q ∈ ks ∨ q=k):=by
    intro ks' hnd hin hu
    have hs:∀ j,j ≠ 5 → (H.set 5 (.map (ks'.map encP) (ks'.map (bB (put g k b))) 0))[j]?=H[j]?:=fun j hj=>List.getElem?_set_ne (by omega)
    refine ⟨ks',_,hu,⟨by rw [hs 0 (by omega)]; exact h.b0,by rw [hs 1 (by omega)]; exact h.b1,by rw [hs 2 (by omega)]; exact h.b2,by rw [hs 3 (by omega)]; exact h.b3,List.getElem?_set_self hl,by rw [hs 6 (by omega)]; exact h.b6,by rw [hs 7 (by omega)]; exact h.b7,hnd,sameH_set h.rf (same_mapB _ ks'),?_⟩,⟨by simp,hs⟩,hin⟩
    have hm:=h.mx
    rw [mxs_le] at hm ⊢
    intro C hC
    rcases List.mem_or_eq_of_mem_set hC with hC | rfl
    · exact hm C hC
    · exact Nat.zero_le _
  rcases h2 with ⟨h3,j,rfl,h5⟩ | ⟨h3,rfl⟩
  · refine key ks h.nd (fun q=>⟨.inl,fun h=>h.elim id fun e=>e ▸ h3⟩) ?_
    simp only [updV,u74,ht,if_true,h.b5,h1,Bool.false_eq_true,if_false]
    have hs:(ks.map (bB g)).set (0+j) (.bool b)=ks.map (bB (put g k b)):=by
      apply List.ext_getElem?
      intro i
      have hjl:=lt_of_get h5
      rw [List.getElem?_set,List.length_map]
      by_cases e:0+j=i
      · subst e
        rw [if_pos rfl,if_pos (by omega),Nat.zero_add,List.getElem?_map,h5]
        simp [bB,put]
      · rw [if_neg e,List.getElem?_map,List.getElem?_map]
        cases hi:ks[i]? with
        | none=>rfl
        | some q =>
          have hq:q ≠ k:=fun e2=>by
            subst e2
            have hil:=lt_of_get hi
            have hinj:=(List.getElem?_inj hil h.nd).1 (by rw [hi,h5]:ks[i]?=ks[j]?)
            omega
          simp [bB,put,hq]
    simp only [hs,bnd,Nat.max_zero]
  · refine key (ks ++ [k]) (List.nodup_append.2 ⟨h.nd,by simp,fun a ha b hb=>by rw [List.mem_singleton] at hb; subst hb; exact fun e=>h3 (e ▸ ha)⟩) (fun q=>by simp) ?_
    have ha:(aggEq (cellsOf (encP k)) (cellsOf (encP k))).isSome=true:=by simp [encP,cellsOf,aggEq,scEq]
    have hs:ks.map (bB g) ++ [.bool b]=(ks ++ [k]).map (bB (put g k b)):=by
      have e1:ks.map (bB g)=ks.map (bB (put g k b)):=List.map_congr_left fun q hq=>by
        have:q ≠ k:=fun e=>h3 (e ▸ hq)
        simp only [bB,put,if_neg this]
      have e2:bB (put g k b) k=.bool b:=by simp only [bB,put,if_true]
      rw [e1,List.map_append,List.map_cons,List.map_nil,e2]
    simp only [updV,u74,ht,if_true,h.b5,h1,ha,Bool.false_eq_true,if_false,bnd,Nat.max_zero,← hs,List.map_append,List.map_cons,List.map_nil]
theorem WM.app (h:WM d fa to ks g H) {B:Blk} (hB:sameH [B] [B]=true) (hm:B.mx ≤ 8):WM d fa to ks g (H ++ [B]):=by
  have h7:=h.seven
  have hs:∀ j,j < 8 → (H ++ [B])[j]?=H[j]?:=fun j hj=>List.getElem?_append_left (by omega)
  refine ⟨by rw [hs 0 (by omega)]; exact h.b0,by rw [hs 1 (by omega)]; exact h.b1,by rw [hs 2 (by omega)]; exact h.b2,by rw [hs 3 (by omega)]; exact h.b3,by rw [hs 5 (by omega)]; exact h.b5,by rw [hs 6 (by omega)]; exact h.b6,by rw [hs 7 (by omega)]; exact h.b7,h.nd,sameH_app h.rf hB,?_⟩
  have hx:=h.mx
  rw [mxs_le] at hx ⊢
  intro C hC
  rcases List.mem_append.1 hC with hC | hC
  · exact hx C hC
  · rw [List.mem_singleton.1 hC]; exact hm
theorem WM.set (h:WM d fa to ks g H) {k:Nat} {B:Blk} (hk:8 ≤ k) (hB:sameH [B] [B]=true) (hm:B.mx ≤ 8):WM d fa to ks g (H.set k B):=by
  have hs:∀ j,j < 8 → (H.set k B)[j]?=H[j]?:=fun j hj=>List.getElem?_set_ne (by omega)
  refine ⟨by rw [hs 0 (by omega)]; exact h.b0,by rw [hs 1 (by omega)]; exact h.b1,by rw [hs 2 (by omega)]; exact h.b2,by rw [hs 3 (by omega)]; exact h.b3,by rw [hs 5 (by omega)]; exact h.b5,by rw [hs 6 (by omega)]; exact h.b6,by rw [hs 7 (by omega)]; exact h.b7,h.nd,sameH_set h.rf hB,?_⟩
  have hx:=h.mx
  rw [mxs_le] at hx ⊢
  intro C hC
  rcases List.mem_or_eq_of_mem_set hC with hC | rfl
  · exact hx C hC
  · exact hm
theorem WM.take (h:WM d fa to ks g H) {m:Nat} (hm:8 ≤ m):WM d fa to ks g (H.take m):=by
  have hs:∀ j,j < 8 → (H.take m)[j]?=H[j]?:=fun j hj=>by rw [List.getElem?_take,if_pos (by omega)]
  refine ⟨by rw [hs 0 (by omega)]; exact h.b0,by rw [hs 1 (by omega)]; exact h.b1,by rw [hs 2 (by omega)]; exact h.b2,by rw [hs 3 (by omega)]; exact h.b3,by rw [hs 5 (by omega)]; exact h.b5,by rw [hs 6 (by omega)]; exact h.b6,by rw [hs 7 (by omega)]; exact h.b7,h.nd,sameH_take h.rf,?_⟩
  have hx:=h.mx
  rw [mxs_le] at hx ⊢
  exact fun C hC=>hx C (List.mem_of_mem_take hC)
theorem WM.gc (h:WM d fa to ks g H) {b r:Nat} (hb:8 ≤ b):gc b r H=H.take (max b r):=by
  have:=h.mx
  unfold HL.gc
  congr 1
  omega
end
end Go.Proofs.Ytlendaofkmhgmaa
end
section
open Go Go.HL
namespace Go.Proofs.Ytlendaofkmhgmaa
def Good (d:List (List Int)) (fa:List Int) (to:Nat) (ks:List (Int × Int)) (g:Int × Int → Bool) (B:Nat):Prop:=∀ q,q ∈ ks → q.2 < (B:Int) → g q=ldT d fa to q.1.toNat q.2.toNat
def Kept (ks ks':List (Int × Int)) (g g':Int × Int → Bool) (w:Nat):Prop:=∀ q:Int × Int,(w:Int) < q.2 → (q ∈ ks' ↔ q ∈ ks)∧g' q=g q
end Go.Proofs.Ytlendaofkmhgmaa
end
section
open Go Go.HL
namespace Go.Proofs.Ytlendaofkmhgmaa
section
variable {d:List (List Int)} {fa:List Int} {to:Nat}
theorem Good.mono {ks:List (Int × Int)} {g:Int × Int → Bool} {B B':Nat} (h:Good d fa to ks g B) (hB:B' ≤ B):Good d fa to ks g B':=fun q hq hq2=>h q hq (by omega)
theorem Good.step {ks ks':List (Int × Int)} {g g':Int × Int → Bool} {B w:Nat} (h:Good d fa to ks g B) (h':Good d fa to ks' g' (w+1)) (hk:Kept ks ks' g g' w):Good d fa to ks' g' B:=fun q hq hq2=>by
  by_cases c:q.2 < ((w+1:Nat):Int)
  · exact h' q hq c
  · have:=hk q (by omega)
    rw [this.2]
    exact h q (this.1.1 hq) hq2
abbrev tvW (m:Nat):HV:=.sl 11 0 m none m 1
structure BW (d:List (List Int)) (fa:List Int) (to v w:Nat) (o:List Int) (tv:HV) (H:Heap):Prop where
  mem:∃ ks g,WM d fa to ks g H∧Good d fa to ks g (w+1)
  box:H[8]?=some (boxK v w)
  st:(tv=.sl 9 0 1 (some 1) 1 1∧o.length=1∧H.length=10∧H[9]?=some (bI o)) ∨ (tv=tvW o.length∧H.length=12∧H[11]?=some (bI o))
theorem BW.len {v w:Nat} {o:List Int} {tv:HV} {H:Heap} (h:BW d fa to v w o tv H):10 ≤ H.length∧H.length ≤ 12∧bnd tv ≤ H.length:=by
  rcases h.st with ⟨h1,_,h3,_⟩ | ⟨h1,h3,_⟩ <;> rw [h1,h3] <;> simp [bnd]
theorem BW.app {v w:Nat} {o:List Int} {tv:HV} {H H3:Heap} {ks:List (Int × Int)} {g:Int × Int → Bool} (h:BW d fa to v w o tv H) (hM:WM d fa to ks g H3) (hl:H3.length=H.length+1) (hs:∀ k,9 ≤ k → k < H.length → H3[k]?=H[k]?) (ho:o.length ≤ 500) (x:Int) :
    ∃ H4,appV H3 1 8 tv [.int .i64 x]=some (tvW (o.length+1),H4)∧WM d fa to ks g H4∧H4[8]?=H3[8]?∧H4[11]?=some (bI (o ++ [x]))∧12 ≤ H4.length:=by
  rcases h.st with ⟨h1,h2,h3,h4⟩ | ⟨h1,h3,h4⟩
  · have e:=hs 9 (by omega) (by omega)
    rw [h4] at e
    obtain ⟨y,rfl⟩:∃ y,o=[y]:=by
      match o,h2 with
      | [y],_=>exact ⟨y,rfl⟩
    subst h1
    refine ⟨H3 ++ [bI ([y] ++ [x])],?_,hM.app (same_bI _) (Nat.zero_le _),List.getElem?_append_left (by omega),?_,by simp; omega⟩
    · have e4:H3.length=11:=by omega
      simp only [appV,e,e4]
      simp [roomMax,bnd,bndL,encI]
    · rw [List.getElem?_append_right (by omega)]; simp [hl,h3]
  · have e:=hs 11 (by omega) (by omega)
    rw [h4] at e
    subst h1
    have ap:=app_ints (xs:=[x]) e (by simp; omega) (by simp)
    rw [show (o ++ [x]).length=o.length+1 by simp] at ap
    exact ⟨_,ap,hM.set (by omega) (same_bI _) (Nat.zero_le _),List.getElem?_set_ne (by omega),List.getElem?_set_self (by omega),by simp; omega⟩
end
end Go.Proofs.Ytlendaofkmhgmaa
end
section
open Go Go.HL
namespace Go.Proofs.Ytlendaofkmhgmaa
def Ch (R:Nat → Nat → Prop):Nat → List Int → Prop
  | _,[]=>True
  | s,v :: p=>R s v.toNat∧Ch R v.toNat p
theorem Ch.mono {R R':Nat → Nat → Prop} (h:∀ a b,R a b → R' a b):∀ (p:List Int) (s:Nat),Ch R s p → Ch R' s p
  | [],_,_=>trivial
  | v :: p,s,hp=>⟨h _ _ hp.1,Ch.mono h p _ hp.2⟩
theorem Ch.split {R:Nat → Nat → Prop}:∀ (p q:List Int) (s:Nat),Ch R s (p ++ q) ↔ Ch R s p∧Ch R (lastP s p) q
  | [],q,s=>by simp [Ch,lastP]
  | v :: p,q,s=>by rw [List.cons_append,Ch,Ch,lastP,Ch.split p q,and_assoc]
theorem inT.hd {n:Nat} {v:Int} {p:List Int} (h:inT n (v :: p)):v.toNat < n∧((v.toNat:Nat):Int)=v:=by
  have:=h v (by simp); omega
theorem inT.app {n:Nat} {p q:List Int}:inT n (p ++ q) ↔ inT n p∧inT n q :=
  ⟨fun h=>⟨fun v hv=>h v (by simp [hv]),fun v hv=>h v (by simp [hv])⟩,fun h v hv=>(List.mem_append.1 hv).elim (h.1 v) (h.2 v)⟩
end Go.Proofs.Ytlendaofkmhgmaa
end
section
open Go Go.HL
namespace Go.Proofs.Ytlendaofkmhgmaa
open Go.Proofs.Try renaming prog → Tp
open Go.HL.HV renaming undef → Ud
section
variable {pol':Pol} {d:List (List Int)} {l:List Int} {H:Heap}
open Classical in
theorem q31 (hp:pol'.prim 31=some climb31) (hx:H[0]?=some (.arr 1 (d.map encO) true 0)) (h1:d.length ≤ 1000) (h2:(d.all fun r=>decide (r.length ≤ 1000))=true) {s:Int} {o:List Int} {a e:Int} (he:(if okD d∧0 ≤ s∧s ≤ 100 then ((climT d s.toNat).1,(climT d s.toNat).2,(0:Int)) else ([],0,2))=(o,a,e)):∀ k,callN Tp pol' (k+1) 31 [.sl 0 0 d.length none d.length 1,.int .i64 s] H=some (.tuple [.sl H.length 0 o.length none o.length 1,.int .i64 a,.int .i64 e],H ++ [bI o]):=fun k=>by
  rw [prim_call (pol:=pol') (g:=31) (F:=climb31) hp (rs:=[.imm .arg 1 (d.map encR),.int .i64 s]) (by simp only [mapO,arg_rs rfl hx]; rfl) (res:=.tuple [.own 1 (o.map encI),.int .i64 a,.int .i64 e]) (by
    simp only [climb31,riF,mapO_map decR_enc]
    rw [if_pos ⟨h1,h2⟩]
    split at he <;> rename_i hc <;> cases he
    · rw [if_pos hc]
    · rw [if_neg hc]; rfl)]
  simp only [recv,recvVals,recvVal,recvCell,encI_any,List.length_map]
  rfl
end
theorem climT_len (d:List (List Int)) (s:Nat):(climT d s).1.length=d.length:=by
  unfold climT
  split
  · simp [zer]
  · exact clim_len _ _ _ _ (by simp [zer])
end Go.Proofs.Ytlendaofkmhgmaa
end
section
open Go Go.HL
namespace Go.Proofs.Ytlendaofkmhgmaa
theorem left_bit {n U v:Nat} (hU:U < 2 ^ n) (hv:v < n):(2 ^ n - 1 - U).testBit v=!U.testBit v:=by
  rw [show 2 ^ n - 1 - U=2 ^ n - (U+1) by omega,Nat.testBit_two_pow_sub_succ hU,decide_eq_true hv,Bool.true_and]
theorem bit_rem (U v:Nat):((U / 2 ^ v:Nat):Int).tmod 2=0 ↔ U.testBit v=false:=by
  rw [Nat.testBit_eq_decide_div_mod_eq,decide_eq_false_iff_not]
  have:((U / 2 ^ v:Nat):Int).tmod 2=((U / 2 ^ v % 2:Nat):Int):=by
    rw [Int.tmod_eq_emod_of_nonneg (Int.natCast_nonneg _)]; rfl
  rw [this]
  omega
theorem left_add {n U v:Nat} (hU:U < 2 ^ n) (hv:v < n) (hb:U.testBit v=false):U+2 ^ v < 2 ^ n∧2 ^ n - 1 - (U+2 ^ v)=wo (2 ^ n - 1 - U) v∧(2 ^ n - 1 - U).testBit v=true:=by
  have h1:(2 ^ n - 1 - U).testBit v=true:=by rw [left_bit hU hv,hb]; rfl
  have h2:=Nat.ge_two_pow_of_testBit h1
  refine ⟨by omega,?_,h1⟩
  unfold wo
  rw [if_pos h1]
  omega
def mnF (f:Nat → Int) (L:Nat):Nat → Nat → Int → Int
  | 0,_,m=>m
  | k+1,i,m=>mnF f L k (i+1) (if L.testBit i then min m (f i) else m)
theorem mnF_eq {f:Nat → Int} {L:Nat} {x:Int}:∀ (k i:Nat) (m:Int),x ≤ m → (∀ v,i ≤ v → v < i+k → L.testBit v=true → x ≤ f v) → (m=x ∨ ∃ v,(i ≤ v∧v < i+k)∧L.testBit v=true∧f v=x) → mnF f L k i m=x
  | 0,i,m,h1,_,h3=>by
    rcases h3 with h | ⟨v,h,_⟩
    · exact h
    · omega
  | k+1,i,m,h1,h2,h3=>by
    rw [mnF]
    by_cases c:L.testBit i=true
    · rw [if_pos c]
      have hi:=h2 i (Nat.le_refl _) (by omega) c
      refine mnF_eq k (i+1) _ (by omega) (fun v hv hv2 hb=>h2 v (by omega) (by omega) hb) ?_
      rcases h3 with h | ⟨v,h,hb,e⟩
      · exact .inl (by omega)
      · by_cases ev:v=i
        · subst ev; exact .inl (by omega)
        · exact .inr ⟨v,by omega,hb,e⟩
    · rw [if_neg c]
      refine mnF_eq k (i+1) _ h1 (fun v hv hv2 hb=>h2 v (by omega) (by omega) hb) ?_
      rcases h3 with h | ⟨v,h,hb,e⟩
      · exact .inl h
      · by_cases ev:v=i
        · subst ev; exact absurd hb c
        · exact .inr ⟨v,by omega,hb,e⟩
section
variable {d:List (List Int)}
theorem mnF_rs (hd:okD d) {a L:Nat} (ha:a < d.length) (hL:L < 2 ^ d.length) (h0:L ≠ 0):mnF (fun v=>at2 d a v+rsT d v (wo L v)) L d.length 0 1099511627776=rsT d a L:=by
  obtain ⟨h1,v,hb,e⟩:=rsT_min hd ha hL h0
  have h2:=rsT_bnd hd ha hL
  exact mnF_eq _ _ _ (by omega) (fun v _ _ hb=>h1 v hb) (.inr ⟨v,⟨Nat.zero_le _,by have:=bit_lt hL hb; omega⟩,hb,by
    first
    | exact e.symm
    | exact e
    | exact e.1.symm
    | exact e.2.symm⟩)
def TI (d:List (List Int)) (T:List Int) (U a:Nat):Prop:=T.length=2 ^ d.length * d.length∧(∀ V,U < V → V < 2 ^ d.length → ∀ b,b < d.length → T.getD (V * d.length+b) 0=rsT d b (2 ^ d.length - 1 - V))∧∀ b,b < a → T.getD (U * d.length+b) 0=rsT d b (2 ^ d.length - 1 - U)
theorem ix_lt {n V b:Nat} (hV:V < 2 ^ n) (hb:b < n):V * n+b < 2 ^ n * n:=by
  have:=Nat.mul_le_mul_right n (show V+1 ≤ 2 ^ n by omega)
  rw [Nat.succ_mul] at this
  omega
theorem ix_inj {n V b U a:Nat} (hb:b < n) (ha:a < n) (h:V * n+b=U * n+a):V=U∧b=a:=by
  have h1:(V * n+b) / n=V:=by rw [Nat.mul_comm,Nat.mul_add_div (by omega),Nat.div_eq_of_lt hb]; omega
  have h2:(U * n+a) / n=U:=by rw [Nat.mul_comm,Nat.mul_add_div (by omega),Nat.div_eq_of_lt ha]; omega
  have:V=U:=by rw [← h1,← h2,h]
  subst this
  exact ⟨rfl,by omega⟩
end
end Go.Proofs.Ytlendaofkmhgmaa
end
section
open Go Go.HL
namespace Go.Proofs.Ytlendaofkmhgmaa
set_option maxRecDepth 100000
open Go.Proofs.Try renaming prog → Tp
open Go.HL.HV renaming undef → Ud
noncomputable def B40:Code:=Try.f40.body.getD .skip
abbrev env40 (v0 v2 v3 v4 v5 v6 v7 v8 v9 v10 v11 v12 v13:HV):Env:=[(0,v0),(2,v2),(3,v3),(4,v4),(5,v5),(6,v6),(7,v7),(8,v8),(9,v9),(10,v10),(11,v11),(12,v12),(13,v13)]
theorem rbe_a_0 (rw:List HV) :RT polW 40 (sub [0] B40) [(0,.imm .arg 1 rw)] [] .normal (env40 (.imm .arg 1 rw) (.imm .lit 1 []) Ud Ud Ud Ud Ud Ud Ud Ud Ud Ud Ud) [] :=
  RunsTo.hin 0 60 [] fun kf hk=>⟨_,by kernel_rfl,.nil⟩
theorem rbe_b_0 (rw:List HV)  {y3 y4 y5 y6 y7 y8 y9 y10 y11 y12 y13:HV}:RT polW 40 (sub [1,0] B40) (env40 (.imm .arg 1 rw) (.imm .lit 1 []) y3 y4 y5 y6 y7 y8 y9 y10 y11 y12 y13) [] .normal (env40 (.imm .arg 1 rw) (.imm .lit 1 []) (.i (rw.length:Int)) y4 y5 y6 y7 y8 y9 y10 y11 y12 y13) [] :=
  RunsTo.hin 0 60 [] fun kf hk=>⟨_,by kernel_rfl,.nil⟩
theorem rbe_c_0 (rw:List HV) (n:Nat) {y4 y5 y6 y7 y8 y9 y10 y11 y12 y13:HV} {h0:Int} (g0:binV Tp .shl 3 (.i 1) (.i (n:Int))=some (.i h0)):RT polW 40 (sub [1,1,0] B40) (env40 (.imm .arg 1 rw) (.imm .lit 1 []) (.i (n:Int)) y4 y5 y6 y7 y8 y9 y10 y11 y12 y13) [] .normal (env40 (.imm .arg 1 rw) (.imm .lit 1 []) (.i (n:Int)) (.i (IntKind.i64.wrap (h0 - 1))) y5 y6 y7 y8 y9 y10 y11 y12 y13) [] :=
  RunsTo.hin 0 60 [⟨2,1,.i h0,[]⟩] fun kf hk=>⟨_,by kernel_rfl,(oP [] g0 .nil)⟩
theorem rbe_d_0 (rw:List HV) (n:Nat) (fl:Int) {y5 y6 y7 y8 y9 y10 y11 y12 y13:HV}(g0:makeV Tp false 23 (.i (IntKind.i64.wrap (IntKind.i64.wrap (fl+1) * (n:Int)))) (.i (IntKind.i64.wrap (IntKind.i64.wrap (fl+1) * (n:Int)))) []=some (.sl 0 0 ((IntKind.i64.wrap (IntKind.i64.wrap (fl+1) * (n:Int))).toNat) (some ((IntKind.i64.wrap (IntKind.i64.wrap (fl+1) * (n:Int))).toNat)) ((IntKind.i64.wrap (IntKind.i64.wrap (fl+1) * (n:Int))).toNat) 1,[.arr 1 (List.replicate ((IntKind.i64.wrap (IntKind.i64.wrap (fl+1) * (n:Int))).toNat) (.i 0)) true 0])):RT polW 40 (sub [1,1,1,0] B40) (env40 (.imm .arg 1 rw) (.imm .lit 1 []) (.i (n:Int)) (.i fl) y5 y6 y7 y8 y9 y10 y11 y12 y13) [] .normal (env40 (.imm .arg 1 rw) (.imm .lit 1 []) (.i (n:Int)) (.i fl) (.sl 0 0 ((IntKind.i64.wrap (IntKind.i64.wrap (fl+1) * (n:Int))).toNat) (some ((IntKind.i64.wrap (IntKind.i64.wrap (fl+1) * (n:Int))).toNat)) ((IntKind.i64.wrap (IntKind.i64.wrap (fl+1) * (n:Int))).toNat) 1) y6 y7 y8 y9 y10 y11 y12 y13) [.arr 1 (List.replicate ((IntKind.i64.wrap (IntKind.i64.wrap (fl+1) * (n:Int))).toNat) (.i 0)) true 0] :=
  RunsTo.hin 0 60 [⟨3,4,.sl 0 0 ((IntKind.i64.wrap (IntKind.i64.wrap (fl+1) * (n:Int))).toNat) (some ((IntKind.i64.wrap (IntKind.i64.wrap (fl+1) * (n:Int))).toNat)) ((IntKind.i64.wrap (IntKind.i64.wrap (fl+1) * (n:Int))).toNat) 1,[.arr 1 (List.replicate ((IntKind.i64.wrap (IntKind.i64.wrap (fl+1) * (n:Int))).toNat) (.i 0)) true 0]⟩] fun kf hk=>⟨_,by kernel_rfl,(oC (g0) .nil)⟩
theorem rbe_e_0 (rw:List HV) (n:Nat) (fl:Int) (m:Nat) (ts:List HV) {y6 y7 y8 y9 y10 y11 y12 y13:HV}:RT polW 40 (sub [1,1,1,1,0,0] B40) (env40 (.imm .arg 1 rw) (.imm .lit 1 []) (.i (n:Int)) (.i fl) (.sl 0 0 m (some m) m 1) y6 y7 y8 y9 y10 y11 y12 y13) [.arr 1 ts true 0] .normal (env40 (.imm .arg 1 rw) (.imm .lit 1 []) (.i (n:Int)) (.i fl) (.sl 0 0 m (some m) m 1) (.i fl) y7 y8 y9 y10 y11 y12 y13) [.arr 1 ts true 0] :=
  RunsTo.hin 0 60 [] fun kf hk=>⟨_,by kernel_rfl,.nil⟩
theorem rbe_f_0 (rw:List HV) (n:Nat) (fl:Int) (m:Nat) (ts:List HV) (us:Nat) {y7 y8 y9 y10 y11 y12 y13:HV}(g0:0 < (us:Int)):RT polW 40 (sub [1,1,1,1,0,1,0,0,0] B40) (env40 (.imm .arg 1 rw) (.imm .lit 1 []) (.i (n:Int)) (.i fl) (.sl 0 0 m (some m) m 1) (.i (us:Int)) y7 y8 y9 y10 y11 y12 y13) [.arr 1 ts true 0] .normal (env40 (.imm .arg 1 rw) (.imm .lit 1 []) (.i (n:Int)) (.i fl) (.sl 0 0 m (some m) m 1) (.i (us:Int)) y7 y8 y9 y10 y11 y12 y13) [.arr 1 ts true 0] :=
  RunsTo.hin 0 60 [⟨5,1,.bool true,[.arr 1 ts true 0]⟩] fun kf hk=>⟨_,by kernel_rfl,(oB [.arr 1 ts true 0] (decide_eq_true g0) .nil)⟩
theorem rbe_f_1 (rw:List HV) (n:Nat) (fl:Int) (m:Nat) (ts:List HV) (us:Nat) {y7 y8 y9 y10 y11 y12 y13:HV}(g0:¬ (0 < (us:Int))):RT polW 40 (sub [1,1,1,1,0,1,0,0,0] B40) (env40 (.imm .arg 1 rw) (.imm .lit 1 []) (.i (n:Int)) (.i fl) (.sl 0 0 m (some m) m 1) (.i (us:Int)) y7 y8 y9 y10 y11 y12 y13) [.arr 1 ts true 0] (.exit 0) (env40 (.imm .arg 1 rw) (.imm .lit 1 []) (.i (n:Int)) (.i fl) (.sl 0 0 m (some m) m 1) (.i (us:Int)) y7 y8 y9 y10 y11 y12 y13) [.arr 1 ts true 0] :=
  RunsTo.hin 0 60 [⟨5,1,.bool false,[.arr 1 ts true 0]⟩] fun kf hk=>⟨_,by kernel_rfl,(oB [.arr 1 ts true 0] (decide_eq_false g0) .nil)⟩
theorem rbe_g_0 (rw:List HV) (n:Nat) (fl:Int) (m:Nat) (ts:List HV) (us:Nat) {y7 y8 y9 y10 y11 y12 y13:HV}:RT polW 40 (sub [1,1,1,1,0,1,0,0,1,0,0,0] B40) (env40 (.imm .arg 1 rw) (.imm .lit 1 []) (.i (n:Int)) (.i fl) (.sl 0 0 m (some m) m 1) (.i (us:Int)) y7 y8 y9 y10 y11 y12 y13) [.arr 1 ts true 0] .normal (env40 (.imm .arg 1 rw) (.imm .lit 1 []) (.i (n:Int)) (.i fl) (.sl 0 0 m (some m) m 1) (.i (us:Int)) (.i 0) y8 y9 y10 y11 y12 y13) [.arr 1 ts true 0] :=
  RunsTo.hin 0 60 [] fun kf hk=>⟨_,by kernel_rfl,.nil⟩
theorem rbe_h_0 (rw:List HV) (n:Nat) (fl:Int) (m:Nat) (ts:List HV) (us:Nat) (a:Nat) {y8 y9 y10 y11 y12 y13:HV}(g0:(a:Int) < (n:Int)):RT polW 40 (sub [1,1,1,1,0,1,0,0,1,0,0,1,0,0,0] B40) (env40 (.imm .arg 1 rw) (.imm .lit 1 []) (.i (n:Int)) (.i fl) (.sl 0 0 m (some m) m 1) (.i (us:Int)) (.i (a:Int)) y8 y9 y10 y11 y12 y13) [.arr 1 ts true 0] .normal (env40 (.imm .arg 1 rw) (.imm .lit 1 []) (.i (n:Int)) (.i fl) (.sl 0 0 m (some m) m 1) (.i (us:Int)) (.i (a:Int)) y8 y9 y10 y11 y12 y13) [.arr 1 ts true 0] :=
  RunsTo.hin 0 60 [⟨8,2,.bool true,[.arr 1 ts true 0]⟩] fun kf hk=>⟨_,by kernel_rfl,(oB [.arr 1 ts true 0] (decide_eq_true g0) .nil)⟩
theorem rbe_h_1 (rw:List HV) (n:Nat) (fl:Int) (m:Nat) (ts:List HV) (us:Nat) (a:Nat) {y8 y9 y10 y11 y12 y13:HV}(g0:¬ ((a:Int) < (n:Int))):RT polW 40 (sub [1,1,1,1,0,1,0,0,1,0,0,1,0,0,0] B40) (env40 (.imm .arg 1 rw) (.imm .lit 1 []) (.i (n:Int)) (.i fl) (.sl 0 0 m (some m) m 1) (.i (us:Int)) (.i (a:Int)) y8 y9 y10 y11 y12 y13) [.arr 1 ts true 0] (.exit 2) (env40 (.imm .arg 1 rw) (.imm .lit 1 []) (.i (n:Int)) (.i fl) (.sl 0 0 m (some m) m 1) (.i (us:Int)) (.i (a:Int)) y8 y9 y10 y11 y12 y13) [.arr 1 ts true 0] :=
  RunsTo.hin 0 60 [⟨8,2,.bool false,[.arr 1 ts true 0]⟩] fun kf hk=>⟨_,by kernel_rfl,(oB [.arr 1 ts true 0] (decide_eq_false g0) .nil)⟩
theorem rbe_i_0 (rw:List HV) (n:Nat) (fl:Int) (m:Nat) (ts:List HV) (us:Nat) (a:Nat) {y8 y9 y10 y11 y12 y13:HV}:RT polW 40 (sub [1,1,1,1,0,1,0,0,1,0,0,1,0,0,1,0,0,0] B40) (env40 (.imm .arg 1 rw) (.imm .lit 1 []) (.i (n:Int)) (.i fl) (.sl 0 0 m (some m) m 1) (.i (us:Int)) (.i (a:Int)) y8 y9 y10 y11 y12 y13) [.arr 1 ts true 0] .normal (env40 (.imm .arg 1 rw) (.imm .lit 1 []) (.i (n:Int)) (.i fl) (.sl 0 0 m (some m) m 1) (.i (us:Int)) (.i (a:Int)) (.i 1099511627776) y9 y10 y11 y12 y13) [.arr 1 ts true 0] :=
  RunsTo.hin 0 60 [] fun kf hk=>⟨_,by kernel_rfl,.nil⟩
theorem rbe_j_0 (rw:List HV) (n:Nat) (fl:Int) (m:Nat) (ts:List HV) (us:Nat) (a:Nat) (ls:Int) {y9 y10 y11 y12 y13:HV} {l0:List HV} {x0:Int} (g0:(us:Int)=fl) (g1:idxV Tp 22 (.imm .arg 1 rw) (.i (a:Int))=some (.vptr (.imm .arg 1 l0))) (g2:idxV Tp 23 (.imm .arg 1 l0) (.i 0)=some (.vptr (.i x0))):RT polW 40 (sub [1,1,1,1,0,1,0,0,1,0,0,1,0,0,1,0,0,1,0] B40) (env40 (.imm .arg 1 rw) (.imm .lit 1 []) (.i (n:Int)) (.i fl) (.sl 0 0 m (some m) m 1) (.i (us:Int)) (.i (a:Int)) (.i ls) y9 y10 y11 y12 y13) [.arr 1 ts true 0] .normal (env40 (.imm .arg 1 rw) (.imm .lit 1 []) (.i (n:Int)) (.i fl) (.sl 0 0 m (some m) m 1) (.i (us:Int)) (.i (a:Int)) (.i x0) y9 y10 y11 y12 y13) [.arr 1 ts true 0] :=
  RunsTo.hin 0 60 [⟨11,2,.bool true,[.arr 1 ts true 0]⟩,⟨12,2,.vptr (.imm .arg 1 l0),[.arr 1 ts true 0]⟩,⟨12,4,.vptr (.i x0),[.arr 1 ts true 0]⟩] fun kf hk=>⟨_,by kernel_rfl,(oB [.arr 1 ts true 0] (decide_eq_true g0) (oP [.arr 1 ts true 0] g1 (oP [.arr 1 ts true 0] g2 .nil)))⟩
theorem rbe_j_1 (rw:List HV) (n:Nat) (fl:Int) (m:Nat) (ts:List HV) (us:Nat) (a:Nat) (ls:Int) {y9 y10 y11 y12 y13:HV}(g0:¬ ((us:Int)=fl)):RT polW 40 (sub [1,1,1,1,0,1,0,0,1,0,0,1,0,0,1,0,0,1,0] B40) (env40 (.imm .arg 1 rw) (.imm .lit 1 []) (.i (n:Int)) (.i fl) (.sl 0 0 m (some m) m 1) (.i (us:Int)) (.i (a:Int)) (.i ls) y9 y10 y11 y12 y13) [.arr 1 ts true 0] .normal (env40 (.imm .arg 1 rw) (.imm .lit 1 []) (.i (n:Int)) (.i fl) (.sl 0 0 m (some m) m 1) (.i (us:Int)) (.i (a:Int)) (.i ls) y9 y10 y11 y12 y13) [.arr 1 ts true 0] :=
  RunsTo.hin 0 60 [⟨11,2,.bool false,[.arr 1 ts true 0]⟩] fun kf hk=>⟨_,by kernel_rfl,(oB [.arr 1 ts true 0] (decide_eq_false g0) .nil)⟩
theorem rbe_k_0 (rw:List HV) (n:Nat) (fl:Int) (m:Nat) (ts:List HV) (us:Nat) (a:Nat) (ls:Int) {y9 y10 y11 y12 y13:HV}:RT polW 40 (sub [1,1,1,1,0,1,0,0,1,0,0,1,0,0,1,0,0,1,1,0,0] B40) (env40 (.imm .arg 1 rw) (.imm .lit 1 []) (.i (n:Int)) (.i fl) (.sl 0 0 m (some m) m 1) (.i (us:Int)) (.i (a:Int)) (.i ls) y9 y10 y11 y12 y13) [.arr 1 ts true 0] .normal (env40 (.imm .arg 1 rw) (.imm .lit 1 []) (.i (n:Int)) (.i fl) (.sl 0 0 m (some m) m 1) (.i (us:Int)) (.i (a:Int)) (.i ls) (.i 0) y10 y11 y12 y13) [.arr 1 ts true 0] :=
  RunsTo.hin 0 60 [] fun kf hk=>⟨_,by kernel_rfl,.nil⟩
theorem rbe_l_0 (rw:List HV) (n:Nat) (fl:Int) (m:Nat) (ts:List HV) (us:Nat) (a:Nat) (ls:Int) (v:Nat) {y10 y11 y12 y13:HV} {h0:Int} {l0:List HV} {x0:Int} {h1:Int} {a0:HV} {x1:Int} (g0:(v:Int) < (n:Int)) (g1:binV Tp .shr 3 (.i (us:Int)) (.i (v:Int))=some (.i h0)) (g2:(h0:Int).tmod 2=0) (g3:idxV Tp 22 (.imm .arg 1 rw) (.i (a:Int))=some (.vptr (.imm .arg 1 l0))) (g4:idxV Tp 23 (.imm .arg 1 l0) (.i (v:Int))=some (.vptr (.i x0))) (g5:binV Tp .shl 3 (.i 1) (.i (v:Int))=some (.i h1)) (g6:idxV Tp 23 (.sl 0 0 m (some m) m 1) (.i (IntKind.i64.wrap (IntKind.i64.wrap (IntKind.i64.wrap ((us:Int)+h1) * (n:Int))+(v:Int))))=some (a0)) (g7:loadV Tp [.arr 1 ts true 0] 3 (a0)=some (.i x1)):RT polW 40 (sub [1,1,1,1,0,1,0,0,1,0,0,1,0,0,1,0,0,1,1,0,1,0,0] B40) (env40 (.imm .arg 1 rw) (.imm .lit 1 []) (.i (n:Int)) (.i fl) (.sl 0 0 m (some m) m 1) (.i (us:Int)) (.i (a:Int)) (.i ls) (.i (v:Int)) y10 y11 y12 y13) [.arr 1 ts true 0] .normal (env40 (.imm .arg 1 rw) (.imm .lit 1 []) (.i (n:Int)) (.i fl) (.sl 0 0 m (some m) m 1) (.i (us:Int)) (.i (a:Int)) (.i (min ls (IntKind.i64.wrap (x0+x1)))) (.i (IntKind.i64.wrap ((v:Int)+1))) y10 y11 y12 y13) [.arr 1 ts true 0] :=
  RunsTo.hin 0 60 [⟨14,2,.bool true,[.arr 1 ts true 0]⟩,⟨16,2,.i h0,[.arr 1 ts true 0]⟩,⟨16,4,.bool true,[.arr 1 ts true 0]⟩,⟨17,3,.vptr (.imm .arg 1 l0),[.arr 1 ts true 0]⟩,⟨17,6,.vptr (.i x0),[.arr 1 ts true 0]⟩,⟨17,11,.i h1,[.arr 1 ts true 0]⟩,⟨17,17,a0,[.arr 1 ts true 0]⟩,⟨17,18,.i x1,[.arr 1 ts true 0]⟩] fun kf hk=>⟨_,by kernel_rfl,(oB [.arr 1 ts true 0] (decide_eq_true g0) (oP [.arr 1 ts true 0] g1 (oB [.arr 1 ts true 0] (decide_eq_true g2) (oP [.arr 1 ts true 0] g3 (oP [.arr 1 ts true 0] g4 (oP [.arr 1 ts true 0] g5 (oP [.arr 1 ts true 0] g6 (oP [.arr 1 ts true 0] g7 .nil))))))))⟩
theorem rbe_l_1 (rw:List HV) (n:Nat) (fl:Int) (m:Nat) (ts:List HV) (us:Nat) (a:Nat) (ls:Int) (v:Nat) {y10 y11 y12 y13:HV} {h0:Int} (g0:(v:Int) < (n:Int)) (g1:binV Tp .shr 3 (.i (us:Int)) (.i (v:Int))=some (.i h0)) (g2:¬ ((h0:Int).tmod 2=0)):RT polW 40 (sub [1,1,1,1,0,1,0,0,1,0,0,1,0,0,1,0,0,1,1,0,1,0,0] B40) (env40 (.imm .arg 1 rw) (.imm .lit 1 []) (.i (n:Int)) (.i fl) (.sl 0 0 m (some m) m 1) (.i (us:Int)) (.i (a:Int)) (.i ls) (.i (v:Int)) y10 y11 y12 y13) [.arr 1 ts true 0] .normal (env40 (.imm .arg 1 rw) (.imm .lit 1 []) (.i (n:Int)) (.i fl) (.sl 0 0 m (some m) m 1) (.i (us:Int)) (.i (a:Int)) (.i ls) (.i (IntKind.i64.wrap ((v:Int)+1))) y10 y11 y12 y13) [.arr 1 ts true 0] :=
  RunsTo.hin 0 60 [⟨14,2,.bool true,[.arr 1 ts true 0]⟩,⟨16,2,.i h0,[.arr 1 ts true 0]⟩,⟨16,4,.bool false,[.arr 1 ts true 0]⟩] fun kf hk=>⟨_,by kernel_rfl,(oB [.arr 1 ts true 0] (decide_eq_true g0) (oP [.arr 1 ts true 0] g1 (oB [.arr 1 ts true 0] (decide_eq_false g2) .nil)))⟩
theorem rbe_l_2 (rw:List HV) (n:Nat) (fl:Int) (m:Nat) (ts:List HV) (us:Nat) (a:Nat) (ls:Int) (v:Nat) {y10 y11 y12 y13:HV}(g0:¬ ((v:Int) < (n:Int))):RT polW 40 (sub [1,1,1,1,0,1,0,0,1,0,0,1,0,0,1,0,0,1,1,0,1,0,0] B40) (env40 (.imm .arg 1 rw) (.imm .lit 1 []) (.i (n:Int)) (.i fl) (.sl 0 0 m (some m) m 1) (.i (us:Int)) (.i (a:Int)) (.i ls) (.i (v:Int)) y10 y11 y12 y13) [.arr 1 ts true 0] (.exit 4) (env40 (.imm .arg 1 rw) (.imm .lit 1 []) (.i (n:Int)) (.i fl) (.sl 0 0 m (some m) m 1) (.i (us:Int)) (.i (a:Int)) (.i ls) (.i (v:Int)) y10 y11 y12 y13) [.arr 1 ts true 0] :=
  RunsTo.hin 0 60 [⟨14,2,.bool false,[.arr 1 ts true 0]⟩] fun kf hk=>⟨_,by kernel_rfl,(oB [.arr 1 ts true 0] (decide_eq_false g0) .nil)⟩
theorem rbe_m_0 (rw:List HV) (n:Nat) (fl:Int) (m:Nat) (ts:List HV) (us:Nat) (a:Nat) (ls:Int) {y9 y10 y11 y12 y13:HV} {a0:HV} {H0:Heap} (g0:idxV Tp 23 (.sl 0 0 m (some m) m 1) (.i (IntKind.i64.wrap (IntKind.i64.wrap ((us:Int) * (n:Int))+(a:Int))))=some (a0)) (g1:storeV Tp [.arr 1 ts true 0] 3 (a0) (.i ls)=some H0):RT polW 40 (sub [1,1,1,1,0,1,0,0,1,0,0,1,0,0,1,0,0,1,1,1] B40) (env40 (.imm .arg 1 rw) (.imm .lit 1 []) (.i (n:Int)) (.i fl) (.sl 0 0 m (some m) m 1) (.i (us:Int)) (.i (a:Int)) (.i ls) y9 y10 y11 y12 y13) [.arr 1 ts true 0] .normal (env40 (.imm .arg 1 rw) (.imm .lit 1 []) (.i (n:Int)) (.i fl) (.sl 0 0 m (some m) m 1) (.i (us:Int)) (.i (a:Int)) (.i ls) y9 y10 y11 y12 y13) H0 :=
  RunsTo.hin 0 60 [⟨18,7,a0,[.arr 1 ts true 0]⟩,⟨18,8,.tuple [],H0⟩] fun kf hk=>⟨_,by kernel_rfl,(oP [.arr 1 ts true 0] g0 (oS g1 .nil))⟩
theorem rbe_n_0 (rw:List HV) (n:Nat) (fl:Int) (m:Nat) (ts:List HV) (us:Nat) (a:Nat) {y8 y9 y10 y11 y12 y13:HV}:RT polW 40 (sub [1,1,1,1,0,1,0,0,1,0,0,1,0,0,1,1] B40) (env40 (.imm .arg 1 rw) (.imm .lit 1 []) (.i (n:Int)) (.i fl) (.sl 0 0 m (some m) m 1) (.i (us:Int)) (.i (a:Int)) y8 y9 y10 y11 y12 y13) [.arr 1 ts true 0] .normal (env40 (.imm .arg 1 rw) (.imm .lit 1 []) (.i (n:Int)) (.i fl) (.sl 0 0 m (some m) m 1) (.i (us:Int)) (.i (IntKind.i64.wrap ((a:Int)+1))) y8 y9 y10 y11 y12 y13) [.arr 1 ts true 0] :=
  RunsTo.hin 0 60 [] fun kf hk=>⟨_,by kernel_rfl,.nil⟩
theorem rbe_o_0 (rw:List HV) (n:Nat) (fl:Int) (m:Nat) (ts:List HV) (us:Nat) {y7 y8 y9 y10 y11 y12 y13:HV}:RT polW 40 (sub [1,1,1,1,0,1,0,0,1,1] B40) (env40 (.imm .arg 1 rw) (.imm .lit 1 []) (.i (n:Int)) (.i fl) (.sl 0 0 m (some m) m 1) (.i (us:Int)) y7 y8 y9 y10 y11 y12 y13) [.arr 1 ts true 0] .normal (env40 (.imm .arg 1 rw) (.imm .lit 1 []) (.i (n:Int)) (.i fl) (.sl 0 0 m (some m) m 1) (.i (IntKind.i64.wrap ((us:Int) - 1))) y7 y8 y9 y10 y11 y12 y13) [.arr 1 ts true 0] :=
  RunsTo.hin 0 60 [] fun kf hk=>⟨_,by kernel_rfl,.nil⟩
theorem rbe_p_0 (rw:List HV) (n:Nat) (fl:Int) (m:Nat) (ts:List HV) (tv:HV) {y6 y7 y8 y9 y10 y11 y12 y13:HV}:RT polW 40 (sub [1,1,1,1,1,0] B40) (env40 (.imm .arg 1 rw) (.imm .lit 1 []) (.i (n:Int)) (.i fl) (.sl 0 0 m (some m) m 1) y6 y7 y8 y9 y10 y11 y12 y13) [.arr 1 ts true 0] .normal (env40 (.imm .arg 1 rw) (.imm .lit 1 []) (.i (n:Int)) (.i fl) (.sl 0 0 m (some m) m 1) y6 y7 y8 y9 (.sl 1 0 1 (some 1) 1 1) y11 y12 y13) [.arr 1 ts true 0,.arr 1 [.i 0] true 0] :=
  RunsTo.hin 0 60 [] fun kf hk=>⟨_,by kernel_rfl,.nil⟩
theorem rbe_q_0 (rw:List HV) (n:Nat) (m:Nat) (H:Heap) (tv:HV) {y4 y6 y7 y8 y9 y11 y12 y13:HV}:RT polW 40 (sub [1,1,1,1,1,1,0] B40) (env40 (.imm .arg 1 rw) (.imm .lit 1 []) (.i (n:Int)) y4 (.sl 0 0 m (some m) m 1) y6 y7 y8 y9 tv y11 y12 y13) H .normal (env40 (.imm .arg 1 rw) (.imm .lit 1 []) (.i (n:Int)) y4 (.sl 0 0 m (some m) m 1) y6 y7 y8 y9 tv (.i 1) (.i 0) y13) H :=
  RunsTo.hin 0 60 [] fun kf hk=>⟨_,by kernel_rfl,.nil⟩
theorem rbe_r_0 (rw:List HV) (n:Nat) (m:Nat) (H:Heap) (tv:HV) (us a:Nat) {y4 y6 y7 y8 y9 y13:HV} {n0:Int} (g0:lenV Tp H 23 tv=some (.i n0)) (g1:n0 < (n:Int)):RT polW 40 (sub [1,1,1,1,1,1,1,0,0,0,0] B40) (env40 (.imm .arg 1 rw) (.imm .lit 1 []) (.i (n:Int)) y4 (.sl 0 0 m (some m) m 1) y6 y7 y8 y9 tv (.i (us:Int)) (.i (a:Int)) y13) H .normal (env40 (.imm .arg 1 rw) (.imm .lit 1 []) (.i (n:Int)) y4 (.sl 0 0 m (some m) m 1) y6 y7 y8 y9 tv (.i (us:Int)) (.i (a:Int)) y13) H :=
  RunsTo.hin 0 60 [⟨21,1,.i n0,H⟩,⟨21,3,.bool true,H⟩] fun kf hk=>⟨_,by kernel_rfl,(oP H g0 (oB H (decide_eq_true g1) .nil))⟩
theorem rbe_r_1 (rw:List HV) (n:Nat) (m:Nat) (H:Heap) (tv:HV) (us a:Nat) {y4 y6 y7 y8 y9 y13:HV} {n0:Int} (g0:lenV Tp H 23 tv=some (.i n0)) (g1:¬ (n0 < (n:Int))):RT polW 40 (sub [1,1,1,1,1,1,1,0,0,0,0] B40) (env40 (.imm .arg 1 rw) (.imm .lit 1 []) (.i (n:Int)) y4 (.sl 0 0 m (some m) m 1) y6 y7 y8 y9 tv (.i (us:Int)) (.i (a:Int)) y13) H (.exit 6) (env40 (.imm .arg 1 rw) (.imm .lit 1 []) (.i (n:Int)) y4 (.sl 0 0 m (some m) m 1) y6 y7 y8 y9 tv (.i (us:Int)) (.i (a:Int)) y13) H :=
  RunsTo.hin 0 60 [⟨21,1,.i n0,H⟩,⟨21,3,.bool false,H⟩] fun kf hk=>⟨_,by kernel_rfl,(oP H g0 (oB H (decide_eq_false g1) .nil))⟩
theorem rbe_s_0 (rw:List HV) (n:Nat) (m:Nat) (H:Heap) (tv:HV) (us a:Nat) {y4 y6 y7 y8 y9 y13:HV}:RT polW 40 (sub [1,1,1,1,1,1,1,0,0,0,1,0,0] B40) (env40 (.imm .arg 1 rw) (.imm .lit 1 []) (.i (n:Int)) y4 (.sl 0 0 m (some m) m 1) y6 y7 y8 y9 tv (.i (us:Int)) (.i (a:Int)) y13) H .normal (env40 (.imm .arg 1 rw) (.imm .lit 1 []) (.i (n:Int)) y4 (.sl 0 0 m (some m) m 1) y6 y7 y8 y9 tv (.i (us:Int)) (.i (a:Int)) (.i 0)) H :=
  RunsTo.hin 0 60 [] fun kf hk=>⟨_,by kernel_rfl,.nil⟩
theorem rbe_t_0 (rw:List HV) (n:Nat) (m:Nat) (H:Heap) (tv:HV) (us a:Nat) (v:Nat) (tw:HV) {y4 y6 y7 y8 y9:HV} {h0:Int} {l0:List HV} {x0:Int} {h1:Int} {a0:HV} {x1:Int} {a1:HV} {x2:Int} {H0:Heap} {h2:Int} (g0:(v:Int) < (n:Int)) (g1:binV Tp .shr 3 (.i (us:Int)) (.i (v:Int))=some (.i h0)) (g2:(h0:Int).tmod 2=0) (g3:idxV Tp 22 (.imm .arg 1 rw) (.i (a:Int))=some (.vptr (.imm .arg 1 l0))) (g4:idxV Tp 23 (.imm .arg 1 l0) (.i (v:Int))=some (.vptr (.i x0))) (g5:binV Tp .shl 3 (.i 1) (.i (v:Int))=some (.i h1)) (g6:idxV Tp 23 (.sl 0 0 m (some m) m 1) (.i (IntKind.i64.wrap (IntKind.i64.wrap (IntKind.i64.wrap ((us:Int)+h1) * (n:Int))+(v:Int))))=some (a0)) (g7:loadV Tp H 3 (a0)=some (.i x1)) (g8:idxV Tp 23 (.sl 0 0 m (some m) m 1) (.i (IntKind.i64.wrap (IntKind.i64.wrap ((us:Int) * (n:Int))+(a:Int))))=some (a1)) (g9:loadV Tp H 3 (a1)=some (.i x2)) (g10:IntKind.i64.wrap (x0+x1)=x2) (g11:appV H 1 8 (tv) [.i (v:Int)]=some (tw,H0)) (g12:binV Tp .shl 3 (.i 1) (.i (v:Int))=some (.i h2)):RT polW 40 (sub [1,1,1,1,1,1,1,0,0,0,1,0,1,0,0] B40) (env40 (.imm .arg 1 rw) (.imm .lit 1 []) (.i (n:Int)) y4 (.sl 0 0 m (some m) m 1) y6 y7 y8 y9 tv (.i (us:Int)) (.i (a:Int)) (.i (v:Int))) H (.exit 8) (env40 (.imm .arg 1 rw) (.imm .lit 1 []) (.i (n:Int)) y4 (.sl 0 0 m (some m) m 1) y6 y7 y8 y9 tw (.i (IntKind.i64.wrap ((us:Int)+h2))) (.i (v:Int)) (.i (v:Int))) H0 :=
  RunsTo.hin 0 60 [⟨23,2,.bool true,H⟩,⟨25,2,.i h0,H⟩,⟨25,4,.bool true,H⟩,⟨25,8,.vptr (.imm .arg 1 l0),H⟩,⟨25,11,.vptr (.i x0),H⟩,⟨25,16,.i h1,H⟩,⟨25,22,a0,H⟩,⟨25,23,.i x1,H⟩,⟨25,31,a1,H⟩,⟨25,32,.i x2,H⟩,⟨25,33,.bool true,H⟩,⟨26,3,tw,H0⟩,⟨27,2,.i h2,H0⟩] fun kf hk=>⟨_,by kernel_rfl,(oB H (decide_eq_true g0) (oP H g1 (oB H (decide_eq_true g2) (oP H g3 (oP H g4 (oP H g5 (oP H g6 (oP H g7 (oP H g8 (oP H g9 (oB H (decide_eq_true g10) (oC (g11) (oP H0 g12 .nil)))))))))))))⟩
theorem rbe_t_1 (rw:List HV) (n:Nat) (m:Nat) (H:Heap) (tv:HV) (us a:Nat) (v:Nat) (tw:HV) {y4 y6 y7 y8 y9:HV} {h0:Int} {l0:List HV} {x0:Int} {h1:Int} {a0:HV} {x1:Int} {a1:HV} {x2:Int} (g0:(v:Int) < (n:Int)) (g1:binV Tp .shr 3 (.i (us:Int)) (.i (v:Int))=some (.i h0)) (g2:(h0:Int).tmod 2=0) (g3:idxV Tp 22 (.imm .arg 1 rw) (.i (a:Int))=some (.vptr (.imm .arg 1 l0))) (g4:idxV Tp 23 (.imm .arg 1 l0) (.i (v:Int))=some (.vptr (.i x0))) (g5:binV Tp .shl 3 (.i 1) (.i (v:Int))=some (.i h1)) (g6:idxV Tp 23 (.sl 0 0 m (some m) m 1) (.i (IntKind.i64.wrap (IntKind.i64.wrap (IntKind.i64.wrap ((us:Int)+h1) * (n:Int))+(v:Int))))=some (a0)) (g7:loadV Tp H 3 (a0)=some (.i x1)) (g8:idxV Tp 23 (.sl 0 0 m (some m) m 1) (.i (IntKind.i64.wrap (IntKind.i64.wrap ((us:Int) * (n:Int))+(a:Int))))=some (a1)) (g9:loadV Tp H 3 (a1)=some (.i x2)) (g10:¬ (IntKind.i64.wrap (x0+x1)=x2)):RT polW 40 (sub [1,1,1,1,1,1,1,0,0,0,1,0,1,0,0] B40) (env40 (.imm .arg 1 rw) (.imm .lit 1 []) (.i (n:Int)) y4 (.sl 0 0 m (some m) m 1) y6 y7 y8 y9 tv (.i (us:Int)) (.i (a:Int)) (.i (v:Int))) H .normal (env40 (.imm .arg 1 rw) (.imm .lit 1 []) (.i (n:Int)) y4 (.sl 0 0 m (some m) m 1) y6 y7 y8 y9 tv (.i (us:Int)) (.i (a:Int)) (.i (IntKind.i64.wrap ((v:Int)+1)))) H :=
  RunsTo.hin 0 60 [⟨23,2,.bool true,H⟩,⟨25,2,.i h0,H⟩,⟨25,4,.bool true,H⟩,⟨25,8,.vptr (.imm .arg 1 l0),H⟩,⟨25,11,.vptr (.i x0),H⟩,⟨25,16,.i h1,H⟩,⟨25,22,a0,H⟩,⟨25,23,.i x1,H⟩,⟨25,31,a1,H⟩,⟨25,32,.i x2,H⟩,⟨25,33,.bool false,H⟩] fun kf hk=>⟨_,by kernel_rfl,(oB H (decide_eq_true g0) (oP H g1 (oB H (decide_eq_true g2) (oP H g3 (oP H g4 (oP H g5 (oP H g6 (oP H g7 (oP H g8 (oP H g9 (oB H (decide_eq_false g10) .nil)))))))))))⟩
theorem rbe_t_2 (rw:List HV) (n:Nat) (m:Nat) (H:Heap) (tv:HV) (us a:Nat) (v:Nat) (tw:HV) {y4 y6 y7 y8 y9:HV} {h0:Int} (g0:(v:Int) < (n:Int)) (g1:binV Tp .shr 3 (.i (us:Int)) (.i (v:Int))=some (.i h0)) (g2:¬ ((h0:Int).tmod 2=0)):RT polW 40 (sub [1,1,1,1,1,1,1,0,0,0,1,0,1,0,0] B40) (env40 (.imm .arg 1 rw) (.imm .lit 1 []) (.i (n:Int)) y4 (.sl 0 0 m (some m) m 1) y6 y7 y8 y9 tv (.i (us:Int)) (.i (a:Int)) (.i (v:Int))) H .normal (env40 (.imm .arg 1 rw) (.imm .lit 1 []) (.i (n:Int)) y4 (.sl 0 0 m (some m) m 1) y6 y7 y8 y9 tv (.i (us:Int)) (.i (a:Int)) (.i (IntKind.i64.wrap ((v:Int)+1)))) H :=
  RunsTo.hin 0 60 [⟨23,2,.bool true,H⟩,⟨25,2,.i h0,H⟩,⟨25,4,.bool false,H⟩] fun kf hk=>⟨_,by kernel_rfl,(oB H (decide_eq_true g0) (oP H g1 (oB H (decide_eq_false g2) .nil)))⟩
theorem rbe_u_0 (rw:List HV) (n:Nat) (m:Nat) (H:Heap) (tv:HV) {y3 y4 y5 y6 y7 y8 y9 y11 y12 y13:HV}:RT polW 40 (sub [1,1,1,1,1,1,1,1] B40) (env40 (.imm .arg 1 rw) (.imm .lit 1 []) y3 y4 y5 y6 y7 y8 y9 tv y11 y12 y13) H .ret (env40 (.imm .arg 1 rw) tv y3 y4 y5 y6 y7 y8 y9 tv y11 y12 y13) H :=
  RunsTo.hin 0 60 [] fun kf hk=>⟨_,by kernel_rfl,.nil⟩
end Go.Proofs.Ytlendaofkmhgmaa
end
