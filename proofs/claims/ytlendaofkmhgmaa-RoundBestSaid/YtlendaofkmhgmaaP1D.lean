/- A part of the proof. -/
import Derived.Test.YtlendaofkmhgmaaP1C
set_option linter.unusedVariables false
set_option linter.unusedSimpArgs false
set_option linter.unnecessarySimpa false
section
open Go Go.HL Go.HL.So
namespace Go.Proofs.Ytlendaofkmhgmaa
set_option linter.unusedSectionVars false
open Go.Proofs.Try renaming prog → Tp
open Go.HL.HV renaming undef → Ud
theorem res65:Try.f65.results.toList=[.tmp 4]:=by kernel_rfl
def decF:HV → Option Ed
  | .agg [.int .i64 a,.int .i64 b,.int .i64 c]=>some (c,a,b)
  | _=>none
theorem decF_enc (e:Ed):decF (encF e)=some e:=rfl
theorem decF_inv {v:HV} {e:Ed} (h:decF v=some e):v=encF e:=by
  unfold decF at h
  split at h
  · cases h; rfl
  · cases h
open Classical in
noncomputable def joined65:List HV → Option HV
  | [.imm .arg 3 es,.int .i64 n]=>(match mapO decF es with | some l=>if (0 ≤ n∧n ≤ 1000)∧EIn n.toNat l∧l.length ≤ 500 then some (.own 3 ((krD l (iota n.toNat)).map encF)) else none | none=>none)
  | _=>none
section
variable {es:List Ed} {n:Nat}
abbrev jnE (es:List Ed) (n m:Nat) (v6 v8 v9 v10 v11:HV):Env:=(env65 (.g (es.map encF)) (.i (n:Int)) (.imm .lit 3 []) (.o 0 n) v6 (.sl 1 0 m none m 3) v8 v9 v10 v11)
abbrev jnH (g:List Int) (os:List Ed):Heap:=[bI g,bF os]
theorem gef {k:Nat} (hk:k < es.length):idxV Tp 70 (.imm .arg 3 (es.map encF)) (.int .i64 (k:Int))=some (.vptr (encF (at_ es k))):=by
  have:(if (0:Int) ≤ (k:Int)∧(k:Int) < ((es.map encF).length:Int)∧tySize Tp 73=some 3 then (match (es.map encF)[((k:Int)).toNat]? with | some v=>some (HV.vptr v) | none=>none) else none)=some (.vptr (encF (at_ es k))):=by
    rw [if_pos ⟨by omega,by rw [List.length_map]; omega,s73⟩,Int.toNat_natCast,List.getElem?_map,at_get hk]
    rfl
  simp only [IX,IO,IS,idxV,u70]
  exact this
theorem jn_in {i ea eb:Nat} {ec o w:Int} {os:List Ed} (hN:n ≤ 1000):∀ k j (g:List Int),g.length=n → j+k=n →
    RT polW 65 (sn 128158 B65) (jnE es n os.length Ud (.int .i64 (i:Int)) (.int .i64 w) (.int .i64 o) (.int .i64 (j:Int))) (jnH g os) (.exit 4)
      (jnE es n os.length Ud (.int .i64 (i:Int)) (.int .i64 w) (.int .i64 o) (.int .i64 (n:Int))) (jnH (rlb o w k j g) os):=by
  intro k
  induction k with
  | zero =>
    intro j g hg hj
    have:j=n:=by omega
    subst this
    exact lpo ((jn_l_2 (es.map encF) j (g.map hvI) os.length (os.map encF) i ec ea eb o w j (by omega)))
  | succ k ih =>
    intro j g hg hj
    by_cases c:g.getD j 0=o
    · have s:=jn_l_0 (es.map encF) n (g.map hvI) os.length (os.map encF) i ec ea eb o w j (by omega) (ixg (by omega)) (ldg (H:=jnH g os) (g:=g) rfl hg (by omega)) c (ixg (by omega)) (stg (H:=jnH g os) (b:=0) (k:=j) rfl hg (by omega) w)
      rw [wrap_succ (by omega)] at s
      have r:=ih (j+1) (g.set j w) (by simpa using hg) (by omega)
      rw [rlb,if_pos c]
      exact lop (s) (gc_eq _ rfl) (r)
    · have s:=jn_l_1 (es.map encF) n (g.map hvI) os.length (os.map encF) i ec ea eb o w j (by omega) (ixg (by omega)) (ldg (H:=jnH g os) (g:=g) rfl hg (by omega)) c
      rw [wrap_succ (by omega)] at s
      have r:=ih (j+1) g hg (by omega)
      rw [rlb,if_neg c]
      exact lop (s) (gc_eq _ rfl) (r)
theorem jn_out (hN:n ≤ 1000) (he:EIn n es) (hq:es.length ≤ 500):∀ k i (os:List Ed) (g:List Int),i+k=es.length → g.length=n → os.length+k ≤ 500 →
    ∃ g' y8 y9 y10 y11,RT polW 65 (sn 250 B65) (jnE es n os.length Ud (.int .i64 (i:Int)) Ud Ud Ud) (jnH g os) (.exit 2)
      (jnE es n (os ++ krD (es.drop i) g).length Ud y8 y9 y10 y11) (jnH g' (os ++ krD (es.drop i) g)):=by
  intro k
  induction k with
  | zero =>
    intro i os g hi hg ho
    have:i=es.length:=by omega
    subst this
    rw [List.drop_length,krD,List.append_nil]
    have s:=jn_g_1 (es.map encF) n (g.map hvI) os.length (os.map encF) es.length (by simp)
    exact ⟨g,_,_,_,_,lpo (sqo (s) (c:=sn 500 B65) (b:=sn 1001 B65))⟩
  | succ k ih =>
    intro i os g hi hg ho
    have hdrop:es.drop i=at_ es i :: es.drop (i+1):=by
      rw [List.drop_eq_getElem_cons (by omega)]
      simp [at_,List.getD,List.getElem?_eq_getElem (show i < es.length by omega)]
    have hmem:at_ es i ∈ es:=by
      have:at_ es i=es[i]:=by simp [at_,List.getD,List.getElem?_eq_getElem (show i < es.length by omega)]
      rw [this]; exact List.getElem_mem _
    obtain ⟨ec,ea,eb,hae,ha,hb⟩:∃ (ec:Int) (ea eb:Nat),at_ es i=mkQ ec ea eb∧ea < n∧eb < n:=by
      obtain ⟨⟨h1,h2⟩,h3,h4⟩:=he _ hmem
      refine ⟨(at_ es i).1,(at_ es i).2.1.toNat,(at_ es i).2.2.toNat,?_,h2,h4⟩
      show at_ es i=((at_ es i).1,_,_)
      rw [Int.toNat_of_nonneg h1,Int.toNat_of_nonneg h3]
    rw [hdrop,hae,krD]
    simp only [Int.toNat_natCast]
    have hx:=gef (es:=es) (k:=i) (by omega)
    rw [hae] at hx
    have s:=jn_g_0 (es.map encF) n (g.map hvI) os.length (os.map encF) i (by rw [List.length_map]; omega)
    have s2:=jn_h_0 (es.map encF) n (g.map hvI) os.length (os.map encF) i ec ea eb hx (ixg ha) (ldg (H:=jnH g os) (g:=g) rfl hg ha) hx (ixg hb) (ldg (H:=jnH g os) (g:=g) rfl hg hb)
    by_cases c:g.getD ea 0=g.getD eb 0
    · rw [if_pos c]
      have s3:=jn_i_0 (es.map encF) n (g.map hvI) os.length (os.map encF) i ec ea eb (g.getD eb 0) (g.getD ea 0) c
      have s4:=jn_m_0 (es.map encF) n (g.map hvI) os.length (os.map encF) i (y9:=.i (g.getD ea 0)) (y10:=.i (g.getD eb 0))
      rw [wrap_succ (by omega)] at s4
      have st:=sq (s) (sq (bke (c:=sn 2002 B65) (sq (s2) (sqo (s3) (c:=sn 8009 B65) (b:=sn 16019 B65)) (c:=sn 4004 B65))) (s4) (c:=sn 1001 B65)) (c:=sn 500 B65)
      obtain ⟨g',y8,y9,y10,y11,r⟩:=ih (i+1) os g (by omega) hg (by omega)
      exact ⟨g',y8,y9,y10,y11,lop (st) (gc_eq _ rfl) (r)⟩
    · rw [if_neg c]
      have s3:=jn_i_1 (es.map encF) n (g.map hvI) os.length (os.map encF) i ec ea eb (g.getD eb 0) (g.getD ea 0) c
      have s5:=jn_j_0 (es.map encF) n (g.map hvI) os.length (os.map encF) i ec ea eb (g.getD eb 0) (g.getD ea 0) hx (by
        have:=app_f1 (H:=jnH g os) (b:=1) (o:=os) rfl (by omega) (mkQ ec ea eb)
        simp only [bF,List.map_append,List.map_cons,List.map_nil] at this
        exact this)
      have hs:os.map encF ++ [HV.agg [.int .i64 (ea:Int),.int .i64 (eb:Int),.int .i64 ec]]=(os ++ [mkQ ec ea eb]).map encF:=by simp [encF]
      rw [hs] at s5
      have s6:=jn_k_0 (es.map encF) n (g.map hvI) (os.length+1) ((os ++ [mkQ ec ea eb]).map encF) i ec ea eb (g.getD eb 0) (g.getD ea 0)
      have r0:=jn_in (es:=es) (i:=i) (ea:=ea) (eb:=eb) (ec:=ec) (o:=g.getD eb 0) (w:=g.getD ea 0) (os:=os ++ [mkQ ec ea eb]) hN n 0 g hg (by omega)
      rw [show (os ++ [mkQ ec ea eb]).length=os.length+1 by simp] at r0
      have s4:=jn_m_0 (es.map encF) n ((rlb (g.getD eb 0) (g.getD ea 0) n 0 g).map hvI) (os.length+1) ((os ++ [mkQ ec ea eb]).map encF) i (y9:=.i (g.getD ea 0)) (y10:=.i (g.getD eb 0)) (y11:=.i (n:Int))
      rw [wrap_succ (by omega)] at s4
      have st:=sq (s) (sq (RunsTo.block_normal (i:=3) (c:=sn 2002 B65) (sq (s2) (sq (s3) (sq (s5) (sq (s6) (bke (c:=sn 64079 B65) (lpi (e0:=(jnE es n (os.length+1) Ud (.int .i64 (i:Int)) (.int .i64 (g.getD ea 0)) (.int .i64 (g.getD eb 0)) (.int .i64 ((0:Nat):Int)))) r0 (b:=sn 256316 B65))) (c:=sn 32039 B65)) (c:=sn 16019 B65)) (c:=sn 8009 B65)) (c:=sn 4004 B65)) (by kernel_rfl)) (s4) (c:=sn 1001 B65)) (c:=sn 500 B65)
      have hg2:(rlb (g.getD eb 0) (g.getD ea 0) n 0 g).length=n:=by rw [rlb_len,hg]
      obtain ⟨g',y8,y9,y10,y11,r⟩:=ih (i+1) (os ++ [mkQ ec ea eb]) _ (by omega) hg2 (by simp; omega)
      rw [List.append_assoc] at r
      rw [hg]
      rw [show (os ++ [mkQ ec ea eb]).length=os.length+1 by simp] at r
      exact ⟨g',y8,y9,y10,y11,lop (st) (gc_eq _ rfl) (r)⟩
theorem jn_init (hN:n ≤ 1000):∀ k i (g:List Int),i+k=n → g.length=n → (∀ x,x < i → g.getD x 0=(x:Int)) →
    RT polW 65 (sn 58 B65) (env65 (.g (es.map encF)) (.i (n:Int)) (.imm .lit 3 []) (.o 0 n) (.i (i:Int)) Ud Ud Ud Ud Ud) [bI g] (.exit 0)
      (env65 (.g (es.map encF)) (.i (n:Int)) (.imm .lit 3 []) (.o 0 n) (.i (n:Int)) Ud Ud Ud Ud Ud) [bI (iota n)]:=by
  intro k
  induction k with
  | zero =>
    intro i g hi hg hx
    have:i=n:=by omega
    subst this
    have e:g=iota i:=by
      apply List.ext_getElem?
      intro x
      by_cases hxl:x < i
      · have h1:=hx x hxl
        have h2:=iota_at hxl
        rw [List.getElem?_eq_getElem (by omega),List.getElem?_eq_getElem (by rw [iota_len]; exact hxl)]
        simp only [List.getD,List.getElem?_eq_getElem (show x < g.length by omega),Option.getD_some] at h1
        simp only [List.getD,List.getElem?_eq_getElem (show x < (iota i).length by rw [iota_len]; exact hxl),Option.getD_some] at h2
        rw [h1,h2]
      · rw [List.getElem?_eq_none (by omega),List.getElem?_eq_none (by rw [iota_len]; omega)]
    rw [e]
    exact lpo ((jn_d_1 (es.map encF) i ((iota i).map hvI) i (by omega)))
  | succ k ih =>
    intro i g hi hg hx
    have s:=jn_d_0 (es.map encF) n (g.map hvI) i (by omega) (ixg (by omega)) (stg (H:=[bI g]) (b:=0) (k:=i) rfl hg (by omega) (i:Int))
    rw [wrap_succ (by omega)] at s
    have r:=ih (i+1) (g.set i (i:Int)) (by omega) (by simpa using hg) (fun x hx2=>by
      rw [getDs _ _ _ _ (by omega)]
      split
      · rename_i e; rw [e]
      · exact hx x (by omega))
    exact lop (s) (gc_eq _ rfl) (r)
end
theorem joined_ok:PrimOk Tp 65 joined65:=by
  refine primOk_pure (pol:=polW) (fn:=Try.f65) (cd:=B65) follows_mixed soundW (by kernel_rfl) (by kernel_rfl) (fnok polW.prim _ _ (by kernel_rfl)) (by kernel_rfl) ?_
  intro args res h
  unfold joined65 at h
  split at h
  case h_2=>cases h
  rename_i ev n0
  split at h
  case h_2=>cases h
  rename_i es hes
  have hev:ev=es.map encF:=mapO_inv (fun _ _ h=>decF_inv h) hes
  subst hev
  split at h
  case isFalse=>cases h
  rename_i hc
  obtain ⟨hn0,he,hq⟩:=hc
  cases h
  obtain ⟨n,rfl⟩:∃ x:Nat,n0=(x:Int):=⟨n0.toNat,by omega⟩
  rw [Int.toNat_natCast] at he ⊢
  have s0:=jn_a_0 (es.map encF) n
  have mk:=makeV_ok (P:=Tp) (H:=[]) (t:=23) (e:=3) (k:=1) (bt:=8) (zv:=.int .i64 0) (n:=(n:Int)) u23 (by kernel_rfl) (by simp [cellsOf,cellV]) (by simp [cellsOf]) (by omega) (by omega) (by simp only [roomMax]; omega)
  rw [Int.toNat_natCast] at mk
  have hrep:List.replicate n (HV.int .i64 0)=(List.replicate n (0:Int)).map hvI:=by simp [hvI]
  have s1:=jn_b_0 (es.map encF) n mk
  rw [hrep] at s1
  have s2:=jn_c_0 (es.map encF) n ((List.replicate n (0:Int)).map hvI)
  have r1:=jn_init (es:=es) (n:=n) (by omega) n 0 (List.replicate n 0) (by omega) (by simp) (fun x hx=>absurd hx (by omega))
  have s3:=jn_e_0 (es.map encF) n ((iota n).map hvI) (y6:=.i (n:Int))
  have s4:=jn_f_0 (es.map encF) n ((iota n).map hvI) 0 [] (y6:=.i (n:Int))
  obtain ⟨g',y8,y9,y10,y11,r2⟩:=jn_out (es:=es) (n:=n) (by omega) he hq es.length 0 [] (iota n) (by omega) (iota_len n) (by simp; omega)
  rw [List.nil_append,List.drop_zero] at r2
  have s5:=jn_n_0 (es.map encF) n (g'.map hvI) (krD es (iota n)).length ((krD es (iota n)).map encF) (y8:=y8) (y9:=y9) (y10:=y10) (y11:=y11)
  have t:=sq (s0) (sq (s1) (sq (sq (s2) (bke (c:=sn 29 B65) (lpi (e0:=(env65 (.g (es.map encF)) (.i (n:Int)) (.imm .lit 3 []) (.o 0 n) (.i (0:Int)) Ud Ud Ud Ud Ud)) r1 (b:=sn 116 B65))) (c:=sn 14 B65)) (sq (s3) (sq (sq (s4) (bke (c:=sn 125 B65) (lpi (e0:=(jnE es n 0 (.int .i64 (n:Int)) (.int .i64 ((0:Nat):Int)) Ud Ud Ud)) r2 (b:=sn 500 B65))) (c:=sn 62 B65)) (s5) (c:=sn 31 B65)) (c:=sn 15 B65)) (c:=sn 7 B65)) (c:=sn 3 B65)) (c:=B65)
  exact ⟨_,_,_,.sl 1 0 (krD es (iota n)).length none (krD es (iota n)).length 3,t,by simp,by simp only [resultsV,res65]; rfl,toRes_F rfl⟩
section
variable {d:List (List Int)} {l:List Int}
theorem arg_encF (H:Heap) (n:Nat) (e:Ed):toArg H (n+1) (encF e)=some (encF e):=by
  show (match mapO (toArg H n) [.int .i64 e.2.1,.int .i64 e.2.2,.int .i64 e.1] with | some l=>some (HV.agg l) | none=>none)=_
  have h1:∀ x:Int,toArg H n (.int .i64 x)=some (.int .i64 x):=fun x=>by cases n <;> rfl
  simp only [mapO,h1]; rfl
theorem arg_F {H:Heap} {l:List Ed} {b m:Nat} (hm:l.length=m) (hb:H[b]?=some (bF l)):toArg H 6 (.sl b 0 m none m 3)=some (.imm .arg 3 (l.map encF)):=by
  subst hm
  have e:toArg H 6 (.sl b 0 l.length none l.length 3)=if l.length=0 then some (.imm .arg 3 []) else match view H b 0 l.length l.length 3 with | some l=>(match mapO (toArg H 5) l with | some l=>some (.imm .arg 3 l) | none=>none) | none=>none:=rfl
  rw [e]
  split
  · rename_i h0
    rw [List.length_eq_zero_iff.1 h0]; rfl
  · have hv:view H b 0 l.length l.length 3=some (l.map encF):=by
      unfold view
      rw [hb]
      simp only [bF]
      simp
      exact List.take_of_length_le (by simp)
    have hm:mapO (toArg H 5) (l.map encF)=some (l.map encF):=mapO_self (f:=toArg H 5) (g:=encF) (fun e=>arg_encF H 4 e) l
    rw [hv]
    simp only [hm]
theorem q65 {pol':Pol} (hp:pol'.prim 65=some joined65) {es:List Ed} {n b:Nat} {H:Heap} (hb:H[b]?=some (bF es)) (hn:n ≤ 1000) (he:EIn n es) (hq:es.length ≤ 500) :
    ∀ kf,callN Tp pol' (kf+1) 65 [.sl b 0 es.length none es.length 3,.int .i64 (n:Int)] H=some (.sl H.length 0 (krD es (iota n)).length none (krD es (iota n)).length 3,H ++ [bF (krD es (iota n))]):=fun kf=>by
  rw [prim_call (pol:=pol') (g:=65) (F:=joined65) hp (rs:=[.imm .arg 3 (es.map encF),.int .i64 (n:Int)]) (by simp only [mapO,arg_F rfl hb]; rfl) (res:=.own 3 ((krD es (iota n)).map encF)) (by simp only [joined65,mapO_map decF_enc]; rw [if_pos ⟨by omega,by rw [Int.toNat_natCast]; exact he,hq⟩,Int.toNat_natCast]),recv_F]
end
theorem edg_cong {d:List (List Int)} {p p':List Int} {f:Nat} (hf:f ≤ d.length) (h:∀ a,a < d.length → p.getD a 0=p'.getD a 0):edg d p f=edg d p' f:=by
  obtain ⟨h1,h2⟩:=edg_ok (d:=d) (p:=p) hf
  obtain ⟨h3,h4⟩:=edg_ok (d:=d) (p:=p') hf
  refine strict_eq h1 h3 fun e=>(h2 e).trans (Iff.trans ?_ (h4 e).symm)
  have key:∀ x y,x < y → y < d.length → mkE d p x y=mkE d p' x y:=fun x y hxy hy=>by
    simp only [mkE,cst]
    rw [h x (by omega),h y hy]
  constructor
  · rintro ⟨x,y,hh,e⟩; exact ⟨x,y,hh,by rw [e,key x y hh.2.1 hh.2.2]⟩
  · rintro ⟨x,y,hh,e⟩; exact ⟨x,y,hh,by rw [e,key x y hh.2.1 hh.2.2]⟩
theorem countP_lt {p q:Nat → Bool}:∀ {l:List Nat} {a:Nat},(∀ x ∈ l,q x=true → p x=true) → a ∈ l → p a=true → q a=false → l.countP q+1 ≤ l.countP p
  | [],a,_,h,_,_=>by cases h
  | x :: l,a,hm,ha,h1,h2=>by
    have mono:l.countP q ≤ l.countP p:=List.countP_mono_left fun y hy=>hm y (by simp [hy])
    rw [List.countP_cons,List.countP_cons]
    rcases List.mem_cons.1 ha with rfl | ha'
    · rw [h1,h2]; simp; omega
    · have ih:=countP_lt (fun y hy=>hm y (by simp [hy])) ha' h1 h2
      have hx:=hm x (by simp)
      cases hq:q x
      · cases hp:p x <;> simp <;> omega
      · rw [hx hq]; simp; omega
def rootB (g:List Int) (x:Nat):Bool:=decide (1 ≤ x∧g.getD x 0=(x:Int))
def rts (n:Nat) (g:List Int):Nat:=(List.range n).countP (rootB g)
def KInv (n:Nat) (g:List Int):Prop:=g.length=n∧∀ x,x < n → (∃ y:Nat,y < n∧g.getD x 0=(y:Int)∧g.getD y 0=(y:Int))∧(1 ≤ x → 1 ≤ g.getD x 0)
theorem KInv.iota (n:Nat):KInv n (iota n):=⟨iota_len n,fun x hx=>⟨⟨x,hx,iota_at hx,iota_at hx⟩,fun h=>by rw [iota_at hx]; omega⟩⟩
theorem KInv.step {n:Nat} {g:List Int} (h:KInv n g) {a b:Nat} (ha:a < n) (hb:b < n) (h1a:1 ≤ a) (h1b:1 ≤ b) (hne:g.getD a 0 ≠ g.getD b 0) :
    KInv n (rlb (g.getD a 0) (g.getD b 0) g.length 0 g)∧rts n (rlb (g.getD a 0) (g.getD b 0) g.length 0 g)+1 ≤ rts n g:=by
  obtain ⟨hl,h⟩:=h
  obtain ⟨⟨ya,hya,ea,eya⟩,pa⟩:=h a ha
  obtain ⟨⟨yb,hyb,eb,eyb⟩,pb⟩:=h b hb
  have hat:∀ x,x < n → (rlb (g.getD a 0) (g.getD b 0) g.length 0 g).getD x 0=if g.getD x 0=g.getD a 0 then g.getD b 0 else g.getD x 0:=fun x hx=>rlb_at _ _ _ (by omega)
  have hgl:=rlb_len (g.getD a 0) (g.getD b 0) g.length 0 g
  generalize rlb (g.getD a 0) (g.getD b 0) g.length 0 g=g' at hat hgl ⊢
  have pa:=pa h1a
  have pb:=pb h1b
  rw [ea] at hne pa hat
  rw [eb] at hne pb hat
  refine ⟨⟨?_,fun x hx=>?_⟩,?_⟩
  · rw [hgl,hl]
  · obtain ⟨⟨y,hy,e1,e2⟩,p⟩:=h x hx
    rw [hat x hx]
    by_cases c:g.getD x 0=(ya:Int)
    · rw [if_pos c]
      refine ⟨⟨yb,hyb,rfl,?_⟩,fun _=>pb⟩
      rw [hat yb hyb,eyb,if_neg (fun h=>hne h.symm)]
    · rw [if_neg c]
      refine ⟨⟨y,hy,e1,?_⟩,p⟩
      rw [hat y hy,e2,if_neg (by rw [← e1]; exact c)]
  · refine countP_lt (a:=ya) (fun x hx hq=>?_) (List.mem_range.2 hya) (decide_eq_true ⟨by omega,eya⟩) (decide_eq_false fun h=>?_)
    · have hx:=List.mem_range.1 hx
      obtain ⟨h1,h2⟩:=of_decide_eq_true hq
      rw [hat x hx] at h2
      refine decide_eq_true ⟨h1,?_⟩
      by_cases c:g.getD x 0=(ya:Int)
      · rw [if_pos c] at h2
        have:yb=x:=by omega
        subst this
        rw [eyb] at c
        exact absurd c.symm hne
      · rwa [if_neg c] at h2
    · have h2:=h.2
      rw [hat ya hya,if_pos eya] at h2
      exact hne h2.symm
theorem rts_pos {n:Nat} {g:List Int} (h:KInv n g) (hn:2 ≤ n):1 ≤ rts n g:=by
  obtain ⟨⟨y,hy,e1,e2⟩,p⟩:=h.2 1 (by omega)
  have:=countP_lt (p:=rootB g) (q:=fun _=>false) (l:=List.range n) (a:=y) (fun x _ h=>by cases h) (List.mem_range.2 hy) (decide_eq_true ⟨by have:=p (Nat.le_refl 1); omega,e2⟩) rfl
  exact Nat.le_trans (Nat.le_add_left 1 _) this
theorem rts_le {n:Nat} (g:List Int) (hn:1 ≤ n):rts n g+1 ≤ n:=by
  have:=countP_lt (p:=fun _=>true) (q:=rootB g) (l:=List.range n) (a:=0) (fun _ _ _=>rfl) (List.mem_range.2 hn) rfl (decide_eq_false fun h=>by omega)
  rw [show (List.range n).countP (fun _=>true)=n by simp] at this
  exact this
theorem krP_rts {n:Nat} (hn:2 ≤ n):∀ (l:List Ed) (g:List Int),KInv n g → (∀ e ∈ l,(1 ≤ e.2.1.toNat∧e.2.1.toNat < n)∧1 ≤ e.2.2.toNat∧e.2.2.toNat < n) → (krP l g).length+1 ≤ rts n g
  | [],g,h,_=>rts_pos h hn
  | e :: l,g,h,he=>by
    obtain ⟨⟨h1,h2⟩,h3,h4⟩:=he e (by simp)
    have he':=fun x hx=>he x (List.mem_cons_of_mem e hx)
    rw [krP]
    split
    · exact krP_rts hn l g h he'
    · rename_i c
      obtain ⟨k1,k2⟩:=h.step h2 h4 h1 h3 c
      have:=krP_rts hn l _ k1 he'
      rw [List.length_cons]; omega
theorem chosen_n {d:List (List Int)} {p:List Int} (hn:2 ≤ d.length):(chosen d p).length ≤ d.length:=by
  have h1:=krP_rts hn (edg d p 1) (iota d.length) (KInv.iota _) fun e he=>by
    obtain ⟨x,y,h,rfl⟩:=((edg_ok (d:=d) (p:=p) (f:=1) (by omega)).2 e).1 he
    simp only [mkE,Int.toNat_natCast]
    omega
  have h2:=rts_le (n:=d.length) (iota d.length) (by omega)
  have h3:=two2_len (edg d p 0) 0
  unfold chosen treeL
  rw [List.length_append]
  omega
theorem degs_bd {n:Nat} (hn:n ≤ 11):∀ (l:List Ed) (t:List Int) (k:Nat),EIn n l → CtB t k → CtB (l.foldl dstep t) (k+l.length)
  | [],t,k,_,h=>h
  | e :: l,t,k,he,h=>by
    obtain ⟨⟨_,h1⟩,_,h2⟩:=he e (by simp)
    have:=degs_bd hn l (dstep t e) (k+1) (fun x hx=>he x (by simp [hx])) (h.step (by omega) (by omega))
    rw [List.length_cons,show k+(l.length+1)=k+1+l.length by omega]
    exact this
theorem degs_at {d:List (List Int)} {p:List Int} (hd:okD d) (hn:2 ≤ d.length):CtB (degs (chosen d p)) 11:=by
  have hdn:=hd.1
  have h1:=degs_bd (n:=d.length) hdn.2 (chosen d p) _ 0 (chosen_in hd) CtB.zero
  have h2:=chosen_n (p:=p) hn
  refine ⟨h1.1,fun x hx=>?_⟩
  have:=h1.2 x hx
  show 0 ≤ (degs (chosen d p)).getD x 0∧(degs (chosen d p)).getD x 0 ≤ _
  unfold degs
  omega
def cstep (d:List (List Int)) (p:List Int):List Int:=(List.range d.length).map fun i=>p.getD i 0+((degs (chosen d p)).getD i 0 - 2)
def zer (n:Nat):List Int:=List.replicate n 0
theorem cstep_len (d:List (List Int)) (p:List Int):(cstep d p).length=d.length:=by simp [cstep]
theorem cstep_at {d:List (List Int)} {p:List Int} {i:Nat} (hi:i < d.length):(cstep d p).getD i 0=p.getD i 0+((degs (chosen d p)).getD i 0 - 2):=by
  simp [cstep,List.getD,List.getElem?_map,List.getElem?_range hi]
def PB (n k:Nat) (p:List Int):Prop:=p.length=n∧∀ i,i < n → -2 * (k:Int) ≤ p.getD i 0∧p.getD i 0 ≤ 20 * (k:Int)
theorem PB.zero (n:Nat):PB n 0 (zer n):=⟨by simp [zer],fun i hi=>by
  have:(zer n).getD i 0=0:=by rw [zer,List.getD,List.getElem?_replicate,if_pos hi]; rfl
  rw [this]; omega⟩
theorem PB.step {d:List (List Int)} {p:List Int} {k:Nat} (hd:okD d) (hn:2 ≤ d.length) (h:PB d.length k p):PB d.length (k+1) (cstep d p):=by
  refine ⟨cstep_len d p,fun i hi=>?_⟩
  have hdn:=hd.1
  rw [cstep_at hi]
  have h1:=h.2 i hi
  have h2:=(degs_at (p:=p) hd hn).2 i (by omega)
  omega
theorem PB.ok {n k:Nat} {p:List Int} (h:PB n k p) (hk:k ≤ 200):prOk p:=fun v hv=>by
  obtain ⟨i,hi,rfl⟩:=List.getElem_of_mem hv
  have h2:=h.2 i (by rw [← h.1]; exact hi)
  rw [show p.getD i 0=p[i] by simp [List.getD,List.getElem?_eq_getElem hi]] at h2
  omega
def adjB (es:List Ed) (u v:Int):Bool:=es.any fun e=>(decide (e.2.1=u) && decide (e.2.2=v)) || (decide (e.2.1=v) && decide (e.2.2=u))
def visL (es:List Ed) (f:List Int → List Int) (a:Int):Nat → Nat → List Int → List Int
  | 0,_,o=>o
  | k+1,v,o=>visL es f a k (v+1) (if adjB es a v=true∧(v:Int) ∉ o then f (o ++ [(v:Int)]) else o)
def visF (es:List Ed) (n:Nat):Nat → List Int → List Int
  | 0,o=>o
  | k+1,o=>visL es (visF es n k) (o.getD (o.length - 1) 0) n 0 o
def VK (n:Nat) (o o':List Int):Prop:=(∃ t,o'=o ++ t)∧(o.Nodup → o'.Nodup)∧(inT n o → inT n o')
theorem VK.refl (n:Nat) (o:List Int):VK n o o:=⟨⟨[],by simp⟩,id,id⟩
theorem VK.trans {n:Nat} {a b c:List Int} (h1:VK n a b) (h2:VK n b c):VK n a c:=by
  obtain ⟨⟨t,e1⟩,n1,i1⟩:=h1
  obtain ⟨⟨u,e2⟩,n2,i2⟩:=h2
  exact ⟨⟨t ++ u,by rw [e2,e1,List.append_assoc]⟩,fun h=>n2 (n1 h),fun h=>i2 (i1 h)⟩
theorem VK.add {n:Nat} {o:List Int} {v:Nat} (hv:v < n) (ho:(v:Int) ∉ o):VK n o (o ++ [(v:Int)]):=by
  refine ⟨⟨_,rfl⟩,fun h=>?_,fun h x hx=>?_⟩
  · rw [List.nodup_append]
    refine ⟨h,by simp,fun x hx y hy e=>?_⟩
    have:y=(v:Int):=by simpa using hy
    subst this; subst e
    exact ho hx
  · rcases List.mem_append.1 hx with hx | hx
    · exact h x hx
    · have:x=(v:Int):=by simpa using hx
      subst this
      omega
theorem visL_keep {es:List Ed} {n:Nat} {f:List Int → List Int} {a:Int} (hf:∀ o,VK n o (f o)):∀ k v o,v+k=n → VK n o (visL es f a k v o)
  | 0,_,o,_=>VK.refl n o
  | k+1,v,o,hv=>by
    rw [visL]
    split
    · rename_i c
      exact (VK.add (by omega) c.2).trans ((hf _).trans (visL_keep hf k (v+1) _ (by omega)))
    · exact visL_keep hf k (v+1) o (by omega)
theorem visF_keep (es:List Ed) (n:Nat):∀ k o,VK n o (visF es n k o)
  | 0,o=>VK.refl n o
  | k+1,o=>visL_keep (visF_keep es n k) n 0 o (by omega)
def dblT (d:List (List Int)):List Int:=visF (treeL d (zer d.length) 0) d.length d.length [0]
end Go.Proofs.Ytlendaofkmhgmaa
end
section
open Go Go.HL
namespace Go.Proofs.Ytlendaofkmhgmaa
set_option linter.unusedSectionVars false
open Go.Proofs.Try renaming prog → Tp
open Go.HL.HV renaming undef → Ud
noncomputable def prVs:FuncId → Option (List HV → Option HV):=fun g=>if g == 66 then some edges66 else if g == 65 then some joined65 else none
noncomputable def polVs:Pol:={ pol with shared:=fun g=>g == 67 || sharedT.contains g,freeze:=fun g r=>!(g == 44 && r == 3),prim:=prVs }
theorem fns_okVs:(Tp.funcs.toList.zipIdx.all fun p=>fnOk polVs p.2 p.1)=true:=by kernel_rfl
theorem fnokVs (g:FuncId) (fn:Func) (h:Tp.funcs[g]?=some fn):fnOk polVs g fn=true:=List.all_eq_true.1 fns_okVs (fn,g) (by
  rw [List.mem_zipIdx_iff_getElem?]
  simpa using h)
theorem soundVs (n:Nat):CallSound Tp (callN Tp polVs n) :=
  callN_ok follows_mixed fnokVs (fun g f h=>by
    have h:prVs g=some f:=h
    unfold prVs at h
    split at h
    · rename_i hg; cases h; rw [eq_of_beq hg]; exact redges_ok
    split at h
    · rename_i hg; cases h; rw [eq_of_beq hg]; exact joined_ok
    · cases h) n
end Go.Proofs.Ytlendaofkmhgmaa
end
section
open Go Go.HL
namespace Go.Proofs.Ytlendaofkmhgmaa
set_option maxRecDepth 100000
set_option linter.unusedSectionVars false
open Go.Proofs.Try renaming prog → Tp
open Go.HL.HV renaming undef → Ud
noncomputable def B67:Code:=Try.f67.body.getD .skip
abbrev env67 (v0 v1 v2 v6 v7 v8 v9 v10 v11 v12:HV):Env:=[(0,v0),(1,v1),(2,v2),(6,v6),(7,v7),(8,v8),(9,v9),(10,v10),(11,v11),(12,v12)]
abbrev e67 (tb:Nat) (q:Nat) (n:Nat) (a:Nat) (v:Nat) (u1 u6 u7 u8 u9:HV):Env:=env67 (.sl tb 0 q none q 3) u1 (.n n) (.imm .lit 1 []) (.n a) (.n v) u6 u7 u8 u9
section
variable (N:Nat) (tb q:Nat) (H:Heap) (tv:HV) (n:Nat)
include N tb q H tv n
theorem vs_a_0:RT polVs 67 (sn 2 B67) [(0,.sl tb 0 q none q 3),(1,tv),(2,.n n)] H .normal (env67 (.sl tb 0 q none q 3) tv (.n n) (.imm .lit 1 []) Ud Ud Ud Ud Ud Ud) H :=
  hx N 60 []
end
section
variable (N:Nat) (tb q:Nat) (H:Heap) (tv:HV) (n:Nat)
include N tb q H tv n
theorem vs_b_0 (a:Nat) {n0:Int} {a0:HV} (g0:lenV Tp H 23 tv=some (.i n0)) (g1:IX 23 tv (.i (IntKind.i64.wrap (n0 - 1))) (a0)) (g2:LD H 3 (a0) (.n a)) (y7 y8 y9 y10 y11 y12:HV:=Ud): RT polVs 67 (sn 6 B67) (env67 (.sl tb 0 q none q 3) tv (.n n) (.imm .lit 1 []) y7 y8 y9 y10 y11 y12) H .normal (env67 (.sl tb 0 q none q 3) tv (.n n) (.imm .lit 1 []) (.n a) y8 y9 y10 y11 y12) H :=
  hx N 60 [jO 1 2 H g0,jO 1 4 H g1,jO 1 5 H g2]
theorem vs_c_0 (a:Nat) (y8 y9 y10 y11 y12:HV:=Ud): RT polVs 67 (sn 28 B67) (env67 (.sl tb 0 q none q 3) tv (.n n) (.imm .lit 1 []) (.n a) y8 y9 y10 y11 y12) H .normal (env67 (.sl tb 0 q none q 3) tv (.n n) (.imm .lit 1 []) (.n a) (.i 0) y9 y10 y11 y12) H :=
  hx N 60 []
theorem vs_d_0 (a:Nat) (v:Nat) (g0:(v:Int) < (n:Int)) (y9 y10 y11 y12:HV:=Ud): RT polVs 67 (sn 232 B67) (e67 tb q n a v tv y9 y10 y11 y12) H .normal (e67 tb q n a v tv y9 y10 y11 y12) H :=
  hx N 60 [jT 3 2 H g0]
theorem vs_d_1 (a:Nat) (v:Nat) (g0:¬ ((v:Int) < (n:Int))) (y9 y10 y11 y12:HV:=Ud): RT polVs 67 (sn 232 B67) (e67 tb q n a v tv y9 y10 y11 y12) H (.exit 0) (e67 tb q n a v tv y9 y10 y11 y12) H :=
  hx N 60 [jF 3 2 H g0]
theorem vs_e_0 (a:Nat) (v:Nat) (y9 y10 y11 y12:HV:=Ud): RT polVs 67 (sn 1864 B67) (e67 tb q n a v tv y9 y10 y11 y12) H .normal (e67 tb q n a v tv (.bool false) (.bool false) y11 y12) H :=
  hx N 60 []
theorem vs_f_0 (a:Nat) (v:Nat) (y9 y10 y11 y12:HV:=Ud): RT polVs 67 (sn 7460 B67) (e67 tb q n a v tv y9 y10 y11 y12) H .normal (e67 tb q n a v tv y9 y10 (.i 0) y12) H :=
  hx N 60 []
theorem vs_gt_0 (a:Nat) (v:Nat) (j ea eb:Nat) (ec:Int) (g0:(j:Int) < (q:Int)) (y10 y12:HV:=Ud): RT polVs 67 (sn 29844 B67) (e67 tb q n a v tv (.bool true) y10 (.n j) y12) H .normal (e67 tb q n a v tv (.bool true) y10 (.i (IntKind.i64.wrap ((j:Int)+1))) y12) H :=
  hx N 60 [jT 7 3 H g0]
theorem vs_gt_1 (a:Nat) (v:Nat) (j ea eb:Nat) (ec:Int) (g0:¬ ((j:Int) < (q:Int))) (y10 y12:HV:=Ud): RT polVs 67 (sn 29844 B67) (e67 tb q n a v tv (.bool true) y10 (.n j) y12) H (.exit 2) (e67 tb q n a v tv (.bool true) y10 (.n j) y12) H :=
  hx N 60 [jF 7 3 H g0]
theorem vs_gf_0 (a:Nat) (v:Nat) (j ea eb:Nat) (ec:Int) (g0:(j:Int) < (q:Int)) (g1:IX 70 (.sl tb 0 q none q 3) (.n j) (.ptr tb j 0 q)) (g2:LD H 3 (.ptr tb j 0 q) (.n ea)) (g3:(ea:Int)=(a:Int)) (g4:IX 70 (.sl tb 0 q none q 3) (.n j) (.ptr tb j 0 q)) (g5:LD H 3 (.ptr tb j 1 q) (.n eb)) (g6:(eb:Int)=(v:Int)) (y10 y12:HV:=Ud): RT polVs 67 (sn 29844 B67) (e67 tb q n a v tv (.bool false) y10 (.n j) y12) H .normal (e67 tb q n a v tv (.bool true) y10 (.i (IntKind.i64.wrap ((j:Int)+1))) y12) H :=
  hx N 60 [jT 7 3 H g0,jO 9 4 H g1,jO 9 6 H g2,jT 9 8 H g3,jO 9 12 H g4,jO 9 14 H g5,jT 9 16 H g6]
theorem vs_gf_1 (a:Nat) (v:Nat) (j ea eb:Nat) (ec:Int) (g0:(j:Int) < (q:Int)) (g1:IX 70 (.sl tb 0 q none q 3) (.n j) (.ptr tb j 0 q)) (g2:LD H 3 (.ptr tb j 0 q) (.n ea)) (g3:(ea:Int)=(a:Int)) (g4:IX 70 (.sl tb 0 q none q 3) (.n j) (.ptr tb j 0 q)) (g5:LD H 3 (.ptr tb j 1 q) (.n eb)) (g6:¬ ((eb:Int)=(v:Int))) (g7:IX 70 (.sl tb 0 q none q 3) (.n j) (.ptr tb j 0 q)) (g8:LD H 3 (.ptr tb j 0 q) (.n ea)) (g9:(ea:Int)=(v:Int)) (g10:IX 70 (.sl tb 0 q none q 3) (.n j) (.ptr tb j 0 q)) (g11:LD H 3 (.ptr tb j 1 q) (.n eb)) (g12:(eb:Int)=(a:Int)) (y10 y12:HV:=Ud): RT polVs 67 (sn 29844 B67) (e67 tb q n a v tv (.bool false) y10 (.n j) y12) H .normal (e67 tb q n a v tv (.bool true) y10 (.i (IntKind.i64.wrap ((j:Int)+1))) y12) H :=
  hx N 60 [jT 7 3 H g0,jO 9 4 H g1,jO 9 6 H g2,jT 9 8 H g3,jO 9 12 H g4,jO 9 14 H g5,jF 9 16 H g6,jO 9 22 H g7,jO 9 24 H g8,jT 9 26 H g9,jO 9 30 H g10,jO 9 32 H g11,jT 9 34 H g12]
theorem vs_gf_2 (a:Nat) (v:Nat) (j ea eb:Nat) (ec:Int) (g0:(j:Int) < (q:Int)) (g1:IX 70 (.sl tb 0 q none q 3) (.n j) (.ptr tb j 0 q)) (g2:LD H 3 (.ptr tb j 0 q) (.n ea)) (g3:(ea:Int)=(a:Int)) (g4:IX 70 (.sl tb 0 q none q 3) (.n j) (.ptr tb j 0 q)) (g5:LD H 3 (.ptr tb j 1 q) (.n eb)) (g6:¬ ((eb:Int)=(v:Int))) (g7:IX 70 (.sl tb 0 q none q 3) (.n j) (.ptr tb j 0 q)) (g8:LD H 3 (.ptr tb j 0 q) (.n ea)) (g9:(ea:Int)=(v:Int)) (g10:IX 70 (.sl tb 0 q none q 3) (.n j) (.ptr tb j 0 q)) (g11:LD H 3 (.ptr tb j 1 q) (.n eb)) (g12:¬ ((eb:Int)=(a:Int))) (y10 y12:HV:=Ud): RT polVs 67 (sn 29844 B67) (e67 tb q n a v tv (.bool false) y10 (.n j) y12) H .normal (e67 tb q n a v tv (.bool false) y10 (.i (IntKind.i64.wrap ((j:Int)+1))) y12) H :=
  hx N 60 [jT 7 3 H g0,jO 9 4 H g1,jO 9 6 H g2,jT 9 8 H g3,jO 9 12 H g4,jO 9 14 H g5,jF 9 16 H g6,jO 9 22 H g7,jO 9 24 H g8,jT 9 26 H g9,jO 9 30 H g10,jO 9 32 H g11,jF 9 34 H g12]
theorem vs_gf_3 (a:Nat) (v:Nat) (j ea eb:Nat) (ec:Int) (g0:(j:Int) < (q:Int)) (g1:IX 70 (.sl tb 0 q none q 3) (.n j) (.ptr tb j 0 q)) (g2:LD H 3 (.ptr tb j 0 q) (.n ea)) (g3:(ea:Int)=(a:Int)) (g4:IX 70 (.sl tb 0 q none q 3) (.n j) (.ptr tb j 0 q)) (g5:LD H 3 (.ptr tb j 1 q) (.n eb)) (g6:¬ ((eb:Int)=(v:Int))) (g7:IX 70 (.sl tb 0 q none q 3) (.n j) (.ptr tb j 0 q)) (g8:LD H 3 (.ptr tb j 0 q) (.n ea)) (g9:¬ ((ea:Int)=(v:Int))) (y10 y12:HV:=Ud): RT polVs 67 (sn 29844 B67) (e67 tb q n a v tv (.bool false) y10 (.n j) y12) H .normal (e67 tb q n a v tv (.bool false) y10 (.i (IntKind.i64.wrap ((j:Int)+1))) y12) H :=
  hx N 60 [jT 7 3 H g0,jO 9 4 H g1,jO 9 6 H g2,jT 9 8 H g3,jO 9 12 H g4,jO 9 14 H g5,jF 9 16 H g6,jO 9 22 H g7,jO 9 24 H g8,jF 9 26 H g9]
theorem vs_gf_4 (a:Nat) (v:Nat) (j ea eb:Nat) (ec:Int) (g0:(j:Int) < (q:Int)) (g1:IX 70 (.sl tb 0 q none q 3) (.n j) (.ptr tb j 0 q)) (g2:LD H 3 (.ptr tb j 0 q) (.n ea)) (g3:¬ ((ea:Int)=(a:Int))) (g4:IX 70 (.sl tb 0 q none q 3) (.n j) (.ptr tb j 0 q)) (g5:LD H 3 (.ptr tb j 0 q) (.n ea)) (g6:(ea:Int)=(v:Int)) (g7:IX 70 (.sl tb 0 q none q 3) (.n j) (.ptr tb j 0 q)) (g8:LD H 3 (.ptr tb j 1 q) (.n eb)) (g9:(eb:Int)=(a:Int)) (y10 y12:HV:=Ud): RT polVs 67 (sn 29844 B67) (e67 tb q n a v tv (.bool false) y10 (.n j) y12) H .normal (e67 tb q n a v tv (.bool true) y10 (.i (IntKind.i64.wrap ((j:Int)+1))) y12) H :=
  hx N 60 [jT 7 3 H g0,jO 9 4 H g1,jO 9 6 H g2,jF 9 8 H g3,jO 9 22 H g4,jO 9 24 H g5,jT 9 26 H g6,jO 9 30 H g7,jO 9 32 H g8,jT 9 34 H g9]
theorem vs_gf_5 (a:Nat) (v:Nat) (j ea eb:Nat) (ec:Int) (g0:(j:Int) < (q:Int)) (g1:IX 70 (.sl tb 0 q none q 3) (.n j) (.ptr tb j 0 q)) (g2:LD H 3 (.ptr tb j 0 q) (.n ea)) (g3:¬ ((ea:Int)=(a:Int))) (g4:IX 70 (.sl tb 0 q none q 3) (.n j) (.ptr tb j 0 q)) (g5:LD H 3 (.ptr tb j 0 q) (.n ea)) (g6:(ea:Int)=(v:Int)) (g7:IX 70 (.sl tb 0 q none q 3) (.n j) (.ptr tb j 0 q)) (g8:LD H 3 (.ptr tb j 1 q) (.n eb)) (g9:¬ ((eb:Int)=(a:Int))) (y10 y12:HV:=Ud): RT polVs 67 (sn 29844 B67) (e67 tb q n a v tv (.bool false) y10 (.n j) y12) H .normal (e67 tb q n a v tv (.bool false) y10 (.i (IntKind.i64.wrap ((j:Int)+1))) y12) H :=
  hx N 60 [jT 7 3 H g0,jO 9 4 H g1,jO 9 6 H g2,jF 9 8 H g3,jO 9 22 H g4,jO 9 24 H g5,jT 9 26 H g6,jO 9 30 H g7,jO 9 32 H g8,jF 9 34 H g9]
theorem vs_gf_6 (a:Nat) (v:Nat) (j ea eb:Nat) (ec:Int) (g0:(j:Int) < (q:Int)) (g1:IX 70 (.sl tb 0 q none q 3) (.n j) (.ptr tb j 0 q)) (g2:LD H 3 (.ptr tb j 0 q) (.n ea)) (g3:¬ ((ea:Int)=(a:Int))) (g4:IX 70 (.sl tb 0 q none q 3) (.n j) (.ptr tb j 0 q)) (g5:LD H 3 (.ptr tb j 0 q) (.n ea)) (g6:¬ ((ea:Int)=(v:Int))) (y10 y12:HV:=Ud): RT polVs 67 (sn 29844 B67) (e67 tb q n a v tv (.bool false) y10 (.n j) y12) H .normal (e67 tb q n a v tv (.bool false) y10 (.i (IntKind.i64.wrap ((j:Int)+1))) y12) H :=
  hx N 60 [jT 7 3 H g0,jO 9 4 H g1,jO 9 6 H g2,jF 9 8 H g3,jO 9 22 H g4,jO 9 24 H g5,jF 9 26 H g6]
theorem vs_gf_7 (a:Nat) (v:Nat) (j ea eb:Nat) (ec:Int) (g0:¬ ((j:Int) < (q:Int))) (y10 y12:HV:=Ud): RT polVs 67 (sn 29844 B67) (e67 tb q n a v tv (.bool false) y10 (.n j) y12) H (.exit 2) (e67 tb q n a v tv (.bool false) y10 (.n j) y12) H :=
  hx N 60 [jF 7 3 H g0]
theorem vs_h_0 (a:Nat) (v:Nat) (y9 y10 y11 y12:HV:=Ud): RT polVs 67 (sn 14924 B67) (e67 tb q n a v tv y9 y10 y11 y12) H .normal (e67 tb q n a v tv y9 y10 y11 (.i 0)) H :=
  hx N 60 []
theorem vs_it_0 (a:Nat) (v:Nat) (i:Nat) {n0:Int} (g0:lenV Tp H 23 tv=some (.i n0)) (g1:(i:Int) < n0) (y9 y11:HV:=Ud): RT polVs 67 (sn 59700 B67) (e67 tb q n a v tv y9 (.bool true) y11 (.n i)) H .normal (e67 tb q n a v tv y9 (.bool true) y11 (.i (IntKind.i64.wrap ((i:Int)+1)))) H :=
  hx N 60 [jO 11 2 H g0,jT 11 3 H g1]
theorem vs_it_1 (a:Nat) (v:Nat) (i:Nat) {n0:Int} (g0:lenV Tp H 23 tv=some (.i n0)) (g1:¬ ((i:Int) < n0)) (y9 y11:HV:=Ud): RT polVs 67 (sn 59700 B67) (e67 tb q n a v tv y9 (.bool true) y11 (.n i)) H (.exit 4) (e67 tb q n a v tv y9 (.bool true) y11 (.n i)) H :=
  hx N 60 [jO 11 2 H g0,jF 11 3 H g1]
theorem vs_if_0 (a:Nat) (v:Nat) (i:Nat) {n0:Int} {a0:HV} {x0:Int} (g0:lenV Tp H 23 tv=some (.i n0)) (g1:(i:Int) < n0) (g2:IX 23 tv (.n i) (a0)) (g3:LD H 3 (a0) (.i x0)) (g4:x0=(v:Int)) (y9 y11:HV:=Ud): RT polVs 67 (sn 59700 B67) (e67 tb q n a v tv y9 (.bool false) y11 (.n i)) H .normal (e67 tb q n a v tv y9 (.bool true) y11 (.i (IntKind.i64.wrap ((i:Int)+1)))) H :=
  hx N 60 [jO 11 2 H g0,jT 11 3 H g1,jO 13 4 H g2,jO 13 5 H g3,jT 13 7 H g4]
theorem vs_if_1 (a:Nat) (v:Nat) (i:Nat) {n0:Int} {a0:HV} {x0:Int} (g0:lenV Tp H 23 tv=some (.i n0)) (g1:(i:Int) < n0) (g2:IX 23 tv (.n i) (a0)) (g3:LD H 3 (a0) (.i x0)) (g4:¬ (x0=(v:Int))) (y9 y11:HV:=Ud): RT polVs 67 (sn 59700 B67) (e67 tb q n a v tv y9 (.bool false) y11 (.n i)) H .normal (e67 tb q n a v tv y9 (.bool false) y11 (.i (IntKind.i64.wrap ((i:Int)+1)))) H :=
  hx N 60 [jO 11 2 H g0,jT 11 3 H g1,jO 13 4 H g2,jO 13 5 H g3,jF 13 7 H g4]
theorem vs_if_2 (a:Nat) (v:Nat) (i:Nat) {n0:Int} (g0:lenV Tp H 23 tv=some (.i n0)) (g1:¬ ((i:Int) < n0)) (y9 y11:HV:=Ud): RT polVs 67 (sn 59700 B67) (e67 tb q n a v tv y9 (.bool false) y11 (.n i)) H (.exit 4) (e67 tb q n a v tv y9 (.bool false) y11 (.n i)) H :=
  hx N 60 [jO 11 2 H g0,jF 11 3 H g1]
theorem vs_jf_0 (a:Nat) (v:Nat) (y10 y11 y12:HV:=Ud): RT polVs 67 (sn 7463 B67) (e67 tb q n a v tv (.bool false) y10 y11 y12) H .normal (e67 tb q n a v tv (.bool false) y10 y11 y12) H :=
  hx N 60 []
theorem vs_jtt_0 (a:Nat) (v:Nat) (y11 y12:HV:=Ud): RT polVs 67 (sn 7463 B67) (e67 tb q n a v tv (.bool true) (.bool true) y11 y12) H .normal (e67 tb q n a v tv (.bool true) (.bool true) y11 y12) H :=
  hx N 60 []
theorem vs_jtf_0 (a:Nat) (v:Nat) (tw tz:HV) {H0:Heap} {H1:Heap} (g0:appV H 1 8 (tv) [.n v]=some (tw,H0)) (g1:∀ kf,N ≤ kf → callN Tp polVs (kf+1) 67 [.sl tb 0 q none q 3,tw,.n n] H0=some (tz,H1)) (y11 y12:HV:=Ud): RT polVs 67 (sn 7463 B67) (e67 tb q n a v tv (.bool true) (.bool false) y11 y12) H .normal (e67 tb q n a v tz (.bool true) (.bool false) y11 y12) H1 :=
  hx N 60 [jR 15 4 g0,jC 15 6 g1]
theorem vs_k_0 (a:Nat) (v:Nat) (y9 y10 y11 y12:HV:=Ud): RT polVs 67 (sn 467 B67) (e67 tb q n a v tv y9 y10 y11 y12) H .normal (env67 (.sl tb 0 q none q 3) tv (.n n) (.imm .lit 1 []) (.n a) (.i (IntKind.i64.wrap ((v:Int)+1))) y9 y10 y11 y12) H :=
  hx N 60 []
theorem vs_l_0 (y7 y8 y9 y10 y11 y12:HV:=Ud): RT polVs 67 (sn 15 B67) (env67 (.sl tb 0 q none q 3) tv (.n n) (.imm .lit 1 []) y7 y8 y9 y10 y11 y12) H .ret (env67 (.sl tb 0 q none q 3) tv (.n n) tv y7 y8 y9 y10 y11 y12) H :=
  hx N 60 []
end
end Go.Proofs.Ytlendaofkmhgmaa
end
section
open Go Go.HL Go.HL.So
namespace Go.Proofs.Ytlendaofkmhgmaa
set_option linter.unusedSectionVars false
open Go.Proofs.Try renaming prog → Tp
open Go.HL.HV renaming undef → Ud
section
variable {es:List Ed} {tb n a v:Nat} {tv:HV} {H:Heap}
abbrev vsE (es:List Ed) (tb:Nat) (tv:HV) (n a v:Nat) (v9 v10 v11 v12:HV):Env:=(env67 (.sl tb 0 es.length none es.length 3) tv (.i (n:Int)) (.imm .lit 1 []) (.i (a:Int)) (.i (v:Int)) v9 v10 v11 v12)
def lnkB (a v:Nat) (e:Ed):Bool:=(decide (e.2.1=(a:Int)) && decide (e.2.2=(v:Int))) || (decide (e.2.1=(v:Int)) && decide (e.2.2=(a:Int)))
theorem vs_link (htb:H[tb]?=some (bF es)) (he:EIn n es) (hq:es.length ≤ 500) {y10:HV}:∀ k j (b:Bool),j+k=es.length →
    ∃ y11,RT polVs 67 (sn 14922 B67) (vsE es tb tv n a v (.bool b) y10 (.int .i64 (j:Int)) Ud) H (.exit 2)
      (vsE es tb tv n a v (.bool (b || (es.drop j).any (lnkB a v))) y10 y11 Ud) H:=by
  intro k
  induction k with
  | zero =>
    intro j b hj
    have:j=es.length:=by omega
    subst this
    rw [List.drop_length,List.any_nil,Bool.or_false]
    cases b with
    | true=>exact ⟨_,lpo ((vs_gt_1 0 tb es.length H tv n a v es.length 0 0 0 (y10:=y10) (by simp)))⟩
    | false=>exact ⟨_,lpo ((vs_gf_7 0 tb es.length H tv n a v es.length 0 0 0 (y10:=y10) (by simp)))⟩
  | succ k ih =>
    intro j b hj
    have hdrop:es.drop j=at_ es j :: es.drop (j+1):=by
      rw [List.drop_eq_getElem_cons (by omega)]
      simp [at_,List.getD,List.getElem?_eq_getElem (show j < es.length by omega)]
    have hmem:at_ es j ∈ es:=by
      have:at_ es j=es[j]:=by simp [at_,List.getD,List.getElem?_eq_getElem (show j < es.length by omega)]
      rw [this]; exact List.getElem_mem _
    obtain ⟨ec,ea,eb,hae,ha,hb⟩:∃ (ec:Int) (ea eb:Nat),at_ es j=mkQ ec ea eb∧ea < n∧eb < n:=by
      obtain ⟨⟨h1,h2⟩,h3,h4⟩:=he _ hmem
      refine ⟨(at_ es j).1,(at_ es j).2.1.toNat,(at_ es j).2.2.toNat,?_,h2,h4⟩
      show at_ es j=((at_ es j).1,_,_)
      rw [Int.toNat_of_nonneg h1,Int.toNat_of_nonneg h3]
    have hi:=ixf (b:=tb) (cap:=none) (show j < es.length by omega)
    have h0:=lf0 htb rfl (show j < es.length by omega)
    have h1:=lf1 htb rfl (show j < es.length by omega)
    rw [hdrop,List.any_cons]
    rw [hae] at h0 h1 ⊢
    have hlt:(j:Int) < (es.length:Int):=by omega
    cases b with
    | true =>
      have s:=vs_gt_0 0 tb es.length H tv n a v j 0 0 0 (y10:=y10) hlt
      rw [wrap_succ (by omega)] at s
      obtain ⟨y11,r⟩:=ih (j+1) true (by omega)
      rw [Bool.true_or] at r ⊢
      exact ⟨y11,lop (s) (gc_eq _ rfl) (r)⟩
    | false =>
      have go:∀ b',lnkB a v (mkQ ec ea eb)=b' → RT polVs 67 (sn 29844 B67) (vsE es tb tv n a v (.bool false) y10 (.int .i64 (j:Int)) Ud) H .normal (vsE es tb tv n a v (.bool b') y10 (.int .i64 (IntKind.i64.wrap ((j:Int)+1))) Ud) H → ∃ y11,RT polVs 67 (sn 14922 B67) (vsE es tb tv n a v (.bool false) y10 (.int .i64 (j:Int)) Ud) H (.exit 2)
          (vsE es tb tv n a v (.bool (false || (lnkB a v (mkQ ec ea eb) || (es.drop (j+1)).any (lnkB a v)))) y10 y11 Ud) H:=fun b' hb' s=>by
        rw [wrap_succ (by omega)] at s
        obtain ⟨y11,r⟩:=ih (j+1) b' (by omega)
        rw [Bool.false_or,hb']
        exact ⟨y11,lop (s) (gc_eq _ rfl) (r)⟩
      by_cases c1:(ea:Int)=(a:Int)
      · by_cases c2:(eb:Int)=(v:Int)
        · exact go true (by simp [lnkB,c1,c2]) (vs_gf_0 0 tb es.length H tv n a v j ea eb ec (y10:=y10) hlt hi h0 c1 hi h1 c2)
        · by_cases c3:(ea:Int)=(v:Int)
          · by_cases c4:(eb:Int)=(a:Int)
            · exact go true (by simp [lnkB,c3,c4]) (vs_gf_1 0 tb es.length H tv n a v j ea eb ec (y10:=y10) hlt hi h0 c1 hi h1 c2 hi h0 c3 hi h1 c4)
            · exact go false (by simp [lnkB,c2,c4]) (vs_gf_2 0 tb es.length H tv n a v j ea eb ec (y10:=y10) hlt hi h0 c1 hi h1 c2 hi h0 c3 hi h1 c4)
          · exact go false (by simp [lnkB,c2,c3]) (vs_gf_3 0 tb es.length H tv n a v j ea eb ec (y10:=y10) hlt hi h0 c1 hi h1 c2 hi h0 c3)
      · by_cases c3:(ea:Int)=(v:Int)
        · by_cases c4:(eb:Int)=(a:Int)
          · exact go true (by simp [lnkB,c3,c4]) (vs_gf_4 0 tb es.length H tv n a v j ea eb ec (y10:=y10) hlt hi h0 c1 hi h0 c3 hi h1 c4)
          · exact go false (by simp [lnkB,c1,c4]) (vs_gf_5 0 tb es.length H tv n a v j ea eb ec (y10:=y10) hlt hi h0 c1 hi h0 c3 hi h1 c4)
        · exact go false (by simp [lnkB,c1,c3]) (vs_gf_6 0 tb es.length H tv n a v j ea eb ec (y10:=y10) hlt hi h0 c1 hi h0 c3)
def SlO (H:Heap) (tv:HV) (o:List Int):Prop:=(∃ b cap,tv=.sl b 0 o.length cap o.length 1∧H[b]?=some (bI o)) ∨ tv=.imm .lit 1 (o.map hvI)
theorem SlO.len {o:List Int} (h:SlO H tv o):lenV Tp H 23 tv=some (.int .i64 (o.length:Int)):=by
  rcases h with ⟨b,cap,h1,_⟩ | h1
  · rw [h1]
    kernel_rfl
  · rw [h1,show (o.length:Int)=((o.map hvI).length:Int) by rw [List.length_map]]
    kernel_rfl
theorem SlO.el {o:List Int} (h:SlO H tv o) {i:Nat} (hi:i < o.length):∃ a,idxV Tp 23 tv (.int .i64 (i:Int))=some a∧loadV Tp H 3 a=some (.int .i64 (o.getD i 0)):=by
  rcases h with ⟨b,cap,h1,h2⟩ | h1
  · exact ⟨.ptr b i 0 o.length,by rw [h1]; exact ixg hi,ldg h2 rfl hi⟩
  · refine ⟨.vptr (.int .i64 (o.getD i 0)),?_,by kernel_rfl⟩
    rw [h1]
    exact idx_imm u23 z3 (by omega) (by rw [Int.toNat_natCast,List.getElem?_map,List.getElem?_eq_getElem hi]; simp [List.getD,List.getElem?_eq_getElem hi,hvI])
theorem vs_seen {o:List Int} (hO:SlO H tv o) (hl:o.length ≤ 500) {y9 y11:HV}:∀ k i (b:Bool),i+k=o.length →
    ∃ y12,RT polVs 67 (sn 29850 B67) (vsE es tb tv n a v y9 (.bool b) Ud (.int .i64 (i:Int))) H (.exit 4)
      (vsE es tb tv n a v y9 (.bool (b || (o.drop i).contains (v:Int))) Ud y12) H:=by
  intro k
  induction k with
  | zero =>
    intro i b hi
    have:i=o.length:=by omega
    subst this
    rw [List.drop_length,List.contains_nil,Bool.or_false]
    cases b with
    | true=>exact ⟨_,lpo ((vs_it_1 0 tb es.length H tv n a v o.length (y9:=y9) hO.len (by omega)))⟩
    | false=>exact ⟨_,lpo ((vs_if_2 0 tb es.length H tv n a v o.length (y9:=y9) hO.len (by omega)))⟩
  | succ k ih =>
    intro i b hi
    have hil:i < o.length:=by omega
    rw [List.drop_eq_getElem_cons hil,List.contains_cons]
    have eg:o.getD i 0=o[i]:=by simp [List.getD,List.getElem?_eq_getElem hil]
    cases b with
    | true =>
      have s:=vs_it_0 0 tb es.length H tv n a v i (y9:=y9) hO.len (by omega)
      rw [wrap_succ (by omega)] at s
      obtain ⟨y12,r⟩:=ih (i+1) true (by omega)
      rw [Bool.true_or] at r ⊢
      exact ⟨y12,lop (s) (gc_eq _ rfl) (r)⟩
    | false =>
      obtain ⟨b0,i1,i2⟩:=hO.el hil
      rw [eg] at i2
      by_cases c:o[i]=(v:Int)
      · have s:=vs_if_0 0 tb es.length H tv n a v i (y9:=y9) hO.len (by omega) i1 i2 c
        rw [wrap_succ (by omega)] at s
        obtain ⟨y12,r⟩:=ih (i+1) true (by omega)
        rw [Bool.true_or] at r
        rw [show ((v:Int) == o[i])=true by simp [c],Bool.true_or,Bool.false_or]
        exact ⟨y12,lop (s) (gc_eq _ rfl) (r)⟩
      · have s:=vs_if_1 0 tb es.length H tv n a v i (y9:=y9) hO.len (by omega) i1 i2 c
        rw [wrap_succ (by omega)] at s
        obtain ⟨y12,r⟩:=ih (i+1) false (by omega)
        rw [show ((v:Int) == o[i])=false by simp; exact fun h=>c h.symm,Bool.false_or]
        exact ⟨y12,lop (s) (gc_eq _ rfl) (r)⟩
end
end Go.Proofs.Ytlendaofkmhgmaa
end
section
open Go Go.HL
namespace Go.Proofs.Ytlendaofkmhgmaa
set_option linter.unusedSectionVars false
open Go.Proofs.Try renaming prog → Tp
open Go.HL.HV renaming undef → Ud
theorem countI {pol':Pol} {f:FuncId} {b c:Code} {I:Nat → Env → Heap → Prop} {Q:X → Env → Heap → Prop} (n:Nat)
    (step:∀ i,i < n → ∀ e H,I i e H → ∃ E0 H1,RunsTo Tp pol' f b e H .normal (pol'.keys f) E0 H1∧I (i+1) (lrestr pol' f b E0) (gc H.length (bndE (lrestr pol' f b E0)) H1))
    (out:∀ e H,I n e H → ∃ x E' H',RunsTo Tp pol' f b e H x (pol'.keys f) E' H'∧x ≠ .normal∧Q x E' H') (hc:c=.loop b) (he:∀ i e H,I i e H → lrestr pol' f b e=e) {e:Env} {H:Heap} (h0:I 0 e H) :
    ∃ x E' H',RunsTo Tp pol' f c e H x (pol'.keys f) E' H'∧Q x E' H':=by
  have key:∀ k i e H,i+k=n → I i e H → ∃ x E' H',RunsTo Tp pol' f c e H x (pol'.keys f) E' H'∧Q x E' H':=by
    intro k
    induction k with
    | zero =>
      intro i e H hi hI
      have:i=n:=by omega
      subst this
      obtain ⟨x,E',H',h1,h2,h3⟩:=out e H hI
      exact ⟨x,E',H',RunsTo.loop_out h1 h2 hc (he _ _ _ hI),h3⟩
    | succ k ih =>
      intro i e H hi hI
      obtain ⟨E0,H1,h1,h2⟩:=step i (by omega) e H hI
      obtain ⟨x,E',H',h3,h4⟩:=ih (i+1) _ _ (by omega) h2
      exact ⟨x,E',H',RunsTo.loop h1 rfl rfl h3 rfl hc (he _ _ _ hI),h4⟩
  exact key n 0 e H (Nat.zero_add n) h0
theorem gc_get {base r k:Nat} {H:Heap} (h:k < r):(gc base r H)[k]?=H[k]?:=by
  unfold gc
  exact List.getElem?_take_of_lt (by omega)
end Go.Proofs.Ytlendaofkmhgmaa
end
section
open Go Go.HL Go.HL.So
namespace Go.Proofs.Ytlendaofkmhgmaa
set_option linter.unusedSectionVars false
open Go.Proofs.Try renaming prog → Tp
open Go.HL.HV renaming undef → Ud
section
variable {tb:Nat} {es:List Ed}
def SlV (tb:Nat) (es:List Ed) (H:Heap) (tv:HV) (o:List Int):Prop:=((∃ b cap,tv=.sl b 0 o.length cap o.length 1∧H[b]?=some (bI o)∧(cap=none ∨ cap=some o.length)∧b ≠ tb∧2 ≤ o.length) ∨ (tv=.imm .lit 1 (o.map hvI)∧o.length < 2))∧H[tb]?=some (bF es)
theorem SlV.slO {H:Heap} {tv:HV} {o:List Int} (h:SlV tb es H tv o):SlO H tv o:=by
  rcases h.1 with ⟨b,cap,h1,h2,_⟩ | ⟨h1,_⟩
  · exact .inl ⟨b,cap,h1,h2⟩
  · exact .inr h1
theorem SlV.tr {H:Heap} {tv:HV} {o:List Int} (h:SlV tb es H tv o):H[tb]?=some (bF es):=h.2
theorem lt_some {H:Heap} {b:Nat} {B:Blk} (h:H[b]?=some B):b < H.length:=by
  rcases Nat.lt_or_ge b H.length with c | c
  · exact c
  · rw [List.getElem?_eq_none c] at h; cases h
theorem SlV.app {H:Heap} {tv:HV} {o:List Int} (h:SlV tb es H tv o) (h1:o ≠ []) (hl:o.length ≤ 500) (v:Int):∃ tw H',appV H 1 8 tv [.int .i64 v]=some (tw,H')∧SlV tb es H' tw (o ++ [v]):=by
  obtain ⟨h,ht⟩:=h
  have hp:2 ≤ (o ++ [v]).length:=by
    have:=List.length_pos_iff.2 h1
    rw [List.length_append,List.length_singleton]; omega
  have lt:=lt_some ht
  have e1:(o.length+1) * (8+1) ≤ roomMax:=by simp only [roomMax]; omega
  rcases h with ⟨b,cap,rfl,hb,hc,hne,_⟩ | ⟨rfl,_⟩
  · have lb:=lt_some hb
    rcases hc with rfl | rfl
    · have:=app_ints (xs:=[v]) hb (by simp; omega) (by simp)
      rw [List.length_append,List.length_singleton] at this
      exact ⟨_,_,this,.inl ⟨b,none,by rw [List.length_append,List.length_singleton],List.getElem?_set_self lb,.inl rfl,hne,hp⟩,by rw [List.getElem?_set_ne hne]; exact ht⟩
    · refine ⟨.sl H.length 0 (o.length+1) none (o.length+1) 1,H ++ [bI (o ++ [v])],?_,.inl ⟨H.length,none,by rw [List.length_append,List.length_singleton],by simp,.inl rfl,by omega,hp⟩,by rw [List.getElem?_append_left lt]; exact ht⟩
      have e2:¬ (o.length+1 ≤ o.length):=by omega
      simp [appV,hb,e1,bndL,bnd]
      rw [if_neg e2,List.take_of_length_le (by simp)]
      simp [hvI]
  · refine ⟨.sl H.length 0 (o.length+1) none (o.length+1) 1,H ++ [bI (o ++ [v])],?_,.inl ⟨H.length,none,by rw [List.length_append,List.length_singleton],by simp,.inl rfl,by omega,hp⟩,by rw [List.getElem?_append_left lt]; exact ht⟩
    simp [appV,e1,bndL,bnd,hvI]
theorem gc_low {base r k:Nat} {H:Heap} (h:k < base):(gc base r H)[k]?=H[k]?:=by
  unfold gc
  exact List.getElem?_take_of_lt (by omega)
theorem SlV.gc {H:Heap} {tv:HV} {o:List Int} (h:SlV tb es H tv o) {base r:Nat} (hb:bnd tv ≤ r) (ht:tb < base ∨ tb < r):SlV tb es (gc base r H) tv o:=by
  refine ⟨?_,by rcases ht with c | c; rw [gc_low c]; exact h.2; rw [gc_get c]; exact h.2⟩
  rcases h.1 with ⟨b,cap,rfl,h2,h3,h4,h5⟩ | h1
  · refine .inl ⟨b,cap,rfl,?_,h3,h4,h5⟩
    simp only [bnd] at hb
    rw [gc_get (by omega)]; exact h2
  · exact .inr h1
end
section
variable {es:List Ed} {tb n:Nat}
theorem lnk_any (es:List Ed) (a v:Nat):es.any (lnkB a v)=adjB es (a:Int) (v:Int):=rfl
theorem visit_call (he:EIn n es) (hq:es.length ≤ 500) (hn:n ≤ 100):∀ k o tv H,SlV tb es H tv o → o ≠ [] → o.Nodup → inT n o → n+1 ≤ o.length+k →
    ∃ tv' H',CallsTo (P:=Tp) (pol:=polVs) 67 [.sl tb 0 es.length none es.length 3,tv,.int .i64 (n:Int)] H tv' H'∧SlV tb es H' tv' (visF es n k o):=by
  intro k
  induction k with
  | zero =>
    intro o tv H _ _ h2 h3 h4
    have:=nd_len h2 h3
    omega
  | succ k ih =>
    intro o tv H hS h1 h2 h3 h4
    have hol:=nd_len h2 h3
    have hpos:0 < o.length:=List.length_pos_iff.2 h1
    obtain ⟨a,ha⟩:∃ a:Nat,o.getD (o.length - 1) 0=(a:Int):=by
      have hlt:o.length - 1 < o.length:=by omega
      have:=(h3 (o.getD (o.length - 1) 0) (by
        rw [List.getD,List.getElem?_eq_getElem hlt,Option.getD_some]; exact List.getElem_mem _)).1
      exact ⟨(o.getD (o.length - 1) 0).toNat,by omega⟩
    have s1:=vs_a_0 0 tb es.length H tv n
    obtain ⟨b0,i1,i2⟩:=hS.slO.el (i:=o.length - 1) (by omega)
    rw [ha] at i2
    have e1:IntKind.i64.wrap ((o.length:Int) - 1)=((o.length - 1:Nat):Int):=wrap_pred hpos (by omega)
    have s2:=vs_b_0 0 tb es.length H tv n a hS.slO.len (by rw [e1]; exact i1) i2
    have s3:=vs_c_0 0 tb es.length H tv n a
    -- the loop
    obtain ⟨x,E',H',r,rfl,tv',rfl,hS'⟩:=countI (pol':=polVs) (f:=67) (b:=sn 116 B67) (c:=sn 58 B67) (I:=fun v e X=>∃ tv o',e=(env67 (.sl tb 0 es.length none es.length 3) tv (.i (n:Int)) (.imm .lit 1 []) (.i (a:Int)) (.i (v:Int)) Ud Ud Ud Ud)∧SlV tb es X tv o'∧VK n o o'∧visL es (visF es n k) a (n - v) v o'=visL es (visF es n k) a n 0 o)
      (Q:=fun x E' X=>x=.exit 0∧∃ tv,E'=(env67 (.sl tb 0 es.length none es.length 3) tv (.i (n:Int)) (.imm .lit 1 []) (.i (a:Int)) (.i (n:Int)) Ud Ud Ud Ud)∧SlV tb es X tv (visL es (visF es n k) a n 0 o)) n
      (by
        rintro v hv e X ⟨tv,o',rfl,hS,hK,hL⟩
        obtain ⟨⟨t,et⟩,hnd,hin⟩:=hK
        have hol':=nd_len (hnd h2) (hin h3)
        have hge:o.length ≤ o'.length:=by rw [et,List.length_append]; omega
        have t1:=vs_d_0 0 tb es.length X tv n a v (by omega)
        have t2:=vs_e_0 0 tb es.length X tv n a v
        have t3:=vs_f_0 0 tb es.length X tv n a v (y9:=.bool false) (y10:=.bool false)
        obtain ⟨y11,t4⟩:=vs_link (tv:=tv) (a:=a) (v:=v) (H:=X) hS.tr he hq (y10:=.bool false) es.length 0 false (Nat.zero_add _)
        rw [Bool.false_or,List.drop_zero,lnk_any] at t4
        have t5:=vs_h_0 0 tb es.length X tv n a v (y9:=.bool (adjB es (a:Int) (v:Int))) (y10:=.bool false) (y11:=y11)
        obtain ⟨y12,t6⟩:=vs_seen (es:=es) (tb:=tb) (n:=n) (a:=a) (v:=v) hS.slO (by omega) (y9:=.bool (adjB es (a:Int) (v:Int))) (y11:=HV.undef) o'.length 0 false (Nat.zero_add _)
        rw [Bool.false_or,List.drop_zero] at t6
        have t6':=lpi (e0:=(env67 (.sl tb 0 es.length none es.length 3) tv (.i (n:Int)) (.imm .lit 1 []) (.i (a:Int)) (.i (v:Int)) (.bool (adjB es (a:Int) (v:Int))) (.bool false) y11 (.i (0:Int)))) t6 (b:=sn 59700 B67)
        have hsucc:visL es (visF es n k) a (n - v) v o'=visL es (visF es n k) a (n - (v+1)) (v+1) (if adjB es a v=true∧(v:Int) ∉ o' then visF es n k (o' ++ [(v:Int)]) else o'):=by
          rw [show n - v=(n - (v+1))+1 by omega,visL]
        have fin:∀ (tz:HV) (Z:Heap) (y9 y10:HV) (o2:List Int),SlV tb es Z tz o2 → VK n o o2 → visL es (visF es n k) a (n - (v+1)) (v+1) o2=visL es (visF es n k) a n 0 o →
            RT polVs 67 (sn 7463 B67) ((env67 (.sl tb 0 es.length none es.length 3) tv (.i (n:Int)) (.imm .lit 1 []) (.i (a:Int)) (.i (v:Int)) (.bool (adjB es (a:Int) (v:Int))) (.bool (o'.contains (v:Int))) Ud y12)) X .normal ((env67 (.sl tb 0 es.length none es.length 3) tz (.i (n:Int)) (.imm .lit 1 []) (.i (a:Int)) (.i (v:Int)) y9 y10 Ud y12)) Z →
            ∃ E0 H1,RT polVs 67 (sn 116 B67) ((env67 (.sl tb 0 es.length none es.length 3) tv (.i (n:Int)) (.imm .lit 1 []) (.i (a:Int)) (.i (v:Int)) Ud Ud Ud Ud)) X .normal E0 H1∧∃ tv o',lrestr polVs 67 (sn 116 B67) E0=(env67 (.sl tb 0 es.length none es.length 3) tv (.i (n:Int)) (.imm .lit 1 []) (.i (a:Int)) (.i ((v+1:Nat):Int)) Ud Ud Ud Ud)∧SlV tb es (gc X.length (bndE (lrestr polVs 67 (sn 116 B67) E0)) H1) tv o'∧VK n o o'∧visL es (visF es n k) a (n - (v+1)) (v+1) o'=visL es (visF es n k) a n 0 o:=fun tz Z y9 y10 o2 hZ hK2 hL2 t7=>by
          have t8:=vs_k_0 0 tb es.length Z tz n a v (y9:=y9) (y10:=y10) (y12:=y12)
          rw [wrap_succ (by omega)] at t8
          have er:lrestr polVs 67 (sn 116 B67) ((env67 (.sl tb 0 es.length none es.length 3) tz (.i (n:Int)) (.imm .lit 1 []) (.i (a:Int)) (.i ((v+1:Nat):Int)) y9 y10 Ud y12))=(env67 (.sl tb 0 es.length none es.length 3) tz (.i (n:Int)) (.imm .lit 1 []) (.i (a:Int)) (.i ((v+1:Nat):Int)) Ud Ud Ud Ud):=by kernel_rfl
          refine ⟨_,Z,sq (t1) (sq (RunsTo.block_normal (i:=1) (c:=sn 466 B67) (sq (t2) (sq (sq (t3) (bke (c:=sn 7461 B67) (t4)) (c:=sn 3730 B67)) (sq (sq (t5) (bke (c:=sn 14925 B67) (t6')) (c:=sn 7462 B67)) (t7) (c:=sn 3731 B67)) (c:=sn 1865 B67)) (c:=sn 932 B67)) (by kernel_rfl)) (t8) (c:=sn 233 B67)) (c:=sn 116 B67),tz,o2,er,?_,hK2,hL2⟩
          rw [er]
          exact hZ.gc (by simp only [bndE,bnd,bndL]; omega) (.inr (by simp only [bndE,bnd,bndL]; omega))
        by_cases c1:adjB es (a:Int) (v:Int)=true
        · by_cases c2:(v:Int) ∈ o'
          · rw [if_neg fun h=>h.2 c2] at hsucc
            refine fin tv X (.bool true) (.bool true) o' hS ⟨⟨t,et⟩,hnd,hin⟩ (hsucc.symm.trans hL) ?_
            rw [c1,List.contains_iff_mem.2 c2]
            exact vs_jtt_0 0 tb es.length X tv n a v (y12:=y12)
          · rw [if_pos ⟨c1,c2⟩] at hsucc
            obtain ⟨tw,H2,ap,hS2⟩:=hS.app (fun e=>by rw [e,List.length_nil] at hge; omega) (by omega) (v:Int)
            have hK1:VK n o (o' ++ [(v:Int)]):=VK.trans ⟨⟨t,et⟩,hnd,hin⟩ (VK.add hv c2)
            obtain ⟨tz,H3,hc,hS3⟩:=ih (o' ++ [(v:Int)]) tw H2 hS2 (by simp) (hK1.2.1 h2) (hK1.2.2 h3) (by rw [List.length_append,List.length_singleton]; omega)
            obtain ⟨N,hN⟩:=CallsTo.from hc
            refine fin tz H3 (.bool true) (.bool false) _ hS3 (hK1.trans (visF_keep es n k _)) (hsucc.symm.trans hL) ?_
            rw [c1,show o'.contains (v:Int)=false by rw [Bool.eq_false_iff]; exact fun h=>c2 (List.contains_iff_mem.1 h)]
            exact vs_jtf_0 N tb es.length X tv n a v tw tz (y12:=y12) ap hN
        · rw [if_neg fun h=>c1 h.1] at hsucc
          have c1:adjB es (a:Int) (v:Int)=false:=by rw [Bool.eq_false_iff]; exact c1
          refine fin tv X (.bool false) (.bool (o'.contains (v:Int))) o' hS ⟨⟨t,et⟩,hnd,hin⟩ (hsucc.symm.trans hL) ?_
          rw [c1]
          exact vs_jf_0 0 tb es.length X tv n a v (y10:=.bool (o'.contains (v:Int))) (y12:=y12))
      (by
        rintro e X ⟨tv,o',rfl,hS,hK,hL⟩
        rw [Nat.sub_self,visL] at hL
        have t1:=vs_d_1 0 tb es.length X tv n a n (by omega)
        exact ⟨_,_,_,sqo (t1) (c:=sn 116 B67) (b:=sn 233 B67),by simp,rfl,tv,rfl,by rw [← hL]; exact hS⟩)
      (by kernel_rfl) (by rintro v e X ⟨tv,o',rfl,_⟩; kernel_rfl) (e:=(env67 (.sl tb 0 es.length none es.length 3) tv (.i (n:Int)) (.imm .lit 1 []) (.i (a:Int)) (.i (0:Int)) Ud Ud Ud Ud)) (H:=H) ⟨tv,o,rfl,hS,VK.refl n o,by rw [Nat.sub_zero]⟩
    have z:=vs_l_0 0 tb es.length H' tv' n (y7:=.i (a:Int)) (y8:=.i (n:Int))
    have h:=CallsTo.shared (P:=Tp) (pol:=polVs) (g:=67) (fn:=Try.f67) (cd:=B67) (args:=[.sl tb 0 es.length none es.length 3,tv,.int .i64 (n:Int)]) (v:=tv') (by kernel_rfl) (by kernel_rfl) (by kernel_rfl) (by kernel_rfl) (sq (s1) (sq (s2) (sq (sq (s3) (bke (c:=sn 29 B67) (r)) (c:=sn 14 B67)) (z) (c:=sn 7 B67)) (c:=sn 3 B67)) (c:=B67)) (by kernel_rfl) (by simp) (by kernel_rfl)
    rw [← ha] at hS'
    exact ⟨_,_,h,hS'.gc (Nat.le_refl _) (.inl (lt_some hS.tr))⟩
end
def visP (nb:Int → List Int):Nat → Int → List Int → List Int
  | 0,v,o=>o ++ [v]
  | k+1,v,o=>(nb v).foldl (fun o u=>if u ∈ o then o else visP nb k u o) (o ++ [v])
def nbL (es:List Ed) (n:Nat) (a:Int):List Int:=(iota n).filter fun v=>adjB es a v
theorem visL_fold (es:List Ed) (f:List Int → List Int) (a:Int):∀ k v o,visL es f a k v o=(((List.range' v k).map fun i:Nat=>(i:Int)).filter (adjB es a)).foldl (fun o u=>if u ∈ o then o else f (o ++ [u])) o
  | 0,v,o=>rfl
  | k+1,v,o=>by
    rw [visL,visL_fold es f a k (v+1),List.range'_succ,List.map_cons,List.filter_cons]
    by_cases c:adjB es a v=true
    · rw [if_pos c,List.foldl_cons]
      by_cases c2:(v:Int) ∈ o
      · rw [if_neg (fun h=>h.2 c2),if_pos c2]
      · rw [if_pos ⟨c,c2⟩,if_neg c2]
    · rw [if_neg c,if_neg (fun h=>c h.1)]
theorem visP_eq (es:List Ed) (n:Nat):∀ k a o,visP (nbL es n) k a o=visF es n k (o ++ [a])
  | 0,a,o=>rfl
  | k+1,a,o=>by
    have e:(o ++ [a]).getD ((o ++ [a]).length - 1) 0=a:=by simp [List.getD]
    rw [visP,visF,e,visL_fold,nbL,iota,List.range_eq_range']
    have q:(fun (o:List Int) (u:Int)=>if u ∈ o then o else visP (nbL es n) k u o)=fun o u=>if u ∈ o then o else visF es n k (o ++ [u]):=by
      funext o u
      rw [visP_eq es n k u o]
    rw [q]
def nearL:List Ed → Int → List Int
  | [],_=>[]
  | e :: l,v=>(if e.2.1=v then [e.2.2] else []) ++ ((if e.2.2=v then [e.2.1] else []) ++ nearL l v)
def EP (n:Nat) (es:List Ed):Prop:=(∀ e ∈ es,0 ≤ e.2.1∧e.2.1 < e.2.2∧e.2.2 < (n:Int))∧es.Pairwise fun e e'=>e.2 ≠ e'.2
theorem mem_nearL {x v:Int}:∀ {es:List Ed},x ∈ nearL es v ↔ ∃ e ∈ es,(e.2.1=v∧e.2.2=x) ∨ (e.2.2=v∧e.2.1=x)
  | []=>by simp [nearL]
  | e :: l=>by
    rw [nearL,List.mem_append,List.mem_append,mem_nearL (es:=l)]
    constructor
    · rintro (h | h | ⟨e',h1,h2⟩)
      · split at h
        · rename_i c; exact ⟨e,by simp,.inl ⟨c,(List.mem_singleton.1 h).symm⟩⟩
        · cases h
      · split at h
        · rename_i c; exact ⟨e,by simp,.inr ⟨c,(List.mem_singleton.1 h).symm⟩⟩
        · cases h
      · exact ⟨e',by simp [h1],h2⟩
    · rintro ⟨e',h1,h2⟩
      rcases List.mem_cons.1 h1 with rfl | h1
      · rcases h2 with ⟨c,rfl⟩ | ⟨c,rfl⟩
        · exact .inl (by simp [c])
        · exact .inr (.inl (by simp [c]))
      · exact .inr (.inr ⟨e',h1,h2⟩)
theorem nearL_nodup {n:Nat} {v:Int}:∀ {es:List Ed},EP n es → (nearL es v).Nodup
  | [],_=>List.nodup_nil
  | e :: l,h=>by
    have hl:EP n l:=⟨fun x hx=>h.1 x (by simp [hx]),(List.pairwise_cons.1 h.2).2⟩
    have hne:=(List.pairwise_cons.1 h.2).1
    have he:=h.1 e (by simp)
    have key:∀ x,((e.2.1=v∧e.2.2=x) ∨ (e.2.2=v∧e.2.1=x)) → x ∉ nearL l v:=by
      intro x hx hm
      obtain ⟨e',h1,h2⟩:=mem_nearL.1 hm
      have h3:=h.1 e' (by simp [h1])
      have h4:=hne e' h1
      have h5:¬ (e.2.1=e'.2.1∧e.2.2=e'.2.2):=fun q=>h4 (Prod.ext q.1 q.2)
      rcases hx with ⟨a,b⟩ | ⟨a,b⟩ <;> rcases h2 with ⟨c,d⟩ | ⟨c,d⟩ <;> omega
    have ih:=nearL_nodup (v:=v) hl
    rw [nearL]
    by_cases c:e.2.1=v
    · rw [if_pos c,if_neg (by omega),List.nil_append,List.singleton_append,List.nodup_cons]
      exact ⟨key _ (.inl ⟨c,rfl⟩),ih⟩
    · rw [if_neg c,List.nil_append]
      by_cases c2:e.2.2=v
      · rw [if_pos c2,List.singleton_append,List.nodup_cons]
        exact ⟨key _ (.inr ⟨c2,rfl⟩),ih⟩
      · rw [if_neg c2,List.nil_append]
        exact ih
theorem lt_eq:∀ {l l':List Int},l.Pairwise (· < ·) → l'.Pairwise (· < ·) → (∀ e,e ∈ l ↔ e ∈ l') → l=l'
  | [],[],_,_,_=>rfl
  | [],y :: l',_,_,h=>by have:=(h y).2 (by simp); cases this
  | x :: l,[],_,_,h=>by have:=(h x).1 (by simp); cases this
  | x :: l,y :: l',h1,h2,h=>by
    have h1':=List.pairwise_cons.1 h1
    have h2':=List.pairwise_cons.1 h2
    have e:x=y:=by
      rcases List.mem_cons.1 ((h x).1 (by simp)) with e | hx
      · exact e
      · rcases List.mem_cons.1 ((h y).2 (by simp)) with e | hy
        · exact e.symm
        · have:=h1'.1 y hy; have:=h2'.1 x hx; omega
    subst e
    rw [lt_eq h1'.2 h2'.2 fun e=>?_]
    constructor
    · intro he
      rcases List.mem_cons.1 ((h e).1 (by simp [he])) with rfl | h3
      · have:=h1'.1 _ he; omega
      · exact h3
    · intro he
      rcases List.mem_cons.1 ((h e).2 (by simp [he])) with rfl | h3
      · have:=h2'.1 _ he; omega
      · exact h3
theorem iota_lt (n:Nat):(iota n).Pairwise (· < ·):=by
  rw [iota,List.pairwise_map]
  exact List.pairwise_lt_range.imp fun h=>by omega
theorem mem_iota {n:Nat} {x:Int}:x ∈ iota n ↔ 0 ≤ x∧x < n:=by
  rw [iota,List.mem_map]
  constructor
  · rintro ⟨i,hi,rfl⟩; have:=List.mem_range.1 hi; omega
  · rintro ⟨h1,h2⟩; exact ⟨x.toNat,List.mem_range.2 (by omega),by omega⟩
theorem near_sort {n:Nat} {es:List Ed} {v:Int} (h:EP n es) {l:List Int} (hp:l.Perm (nearL es v)) (hs:l.Pairwise (· ≤ ·)):l=nbL es n v:=by
  have nd:l.Nodup:=hp.nodup_iff.2 (nearL_nodup h)
  have lt:l.Pairwise (· < ·):=by
    have:=List.pairwise_and_iff.2 ⟨hs,nd⟩
    exact this.imp fun h=>by omega
  refine lt_eq lt ((iota_lt n).filter _) fun x=>?_
  rw [hp.mem_iff,mem_nearL,nbL,List.mem_filter,mem_iota,adjB,List.any_eq_true]
  constructor
  · rintro ⟨e,h1,h2⟩
    have:=h.1 e h1
    refine ⟨by rcases h2 with ⟨a,b⟩ | ⟨a,b⟩ <;> omega,e,h1,?_⟩
    rcases h2 with ⟨a,b⟩ | ⟨a,b⟩
    · simp [a,b]
    · simp [a,b]
  · rintro ⟨_,e,h1,h2⟩
    refine ⟨e,h1,?_⟩
    simp only [Bool.or_eq_true,Bool.and_eq_true,decide_eq_true_eq] at h2
    rcases h2 with ⟨a,b⟩ | ⟨a,b⟩
    · exact .inl ⟨a,b⟩
    · exact .inr ⟨b,a⟩
theorem krP_sub:∀ (l:List Ed) (g:List Int),(krP l g).Sublist l
  | [],_=>List.Sublist.refl _
  | e :: l,g=>by
    rw [krP]
    split
    · exact (krP_sub l g).cons _
    · exact (krP_sub l _).cons_cons _
theorem tree_EP (d:List (List Int)) (p:List Int):EP d.length (treeL d p 0):=by
  obtain ⟨h1,h2⟩:=edg_ok (d:=d) (p:=p) (f:=0) (Nat.zero_le _)
  have hm:∀ e ∈ edg d p 0,∃ x y,(0 ≤ x∧x < y∧y < d.length)∧e=mkE d p x y:=fun e he=>(h2 e).1 he
  have hs:=krP_sub (edg d p 0) (iota d.length)
  refine ⟨fun e he=>?_,?_⟩
  · obtain ⟨x,y,q,rfl⟩:=hm e (hs.subset he)
    simp only [mkE]; omega
  · refine (h1.sublist hs).imp_of_mem fun {e e'} he he' hlt heq=>?_
    obtain ⟨x,y,q,rfl⟩:=hm e (hs.subset he)
    obtain ⟨x',y',q',rfl⟩:=hm e' (hs.subset he')
    simp only [mkE,Prod.mk.injEq] at heq
    have e1:x=x':=by omega
    have e2:y=y':=by omega
    subst e1; subst e2
    exact ltE_lin.rf _ hlt
theorem ints_of:∀ l:List Int,intsOf (l.map hvI)=some l
  | []=>rfl
  | x :: l=>by
    show (intsOf (l.map hvI)).map (x :: ·)=_
    rw [ints_of l]; rfl
theorem ixR {n b k:Nat} {cap:Option Nat} (hk:k < n):idxV Tp 22 (.sl b 0 n cap n 1) (.int .i64 (k:Int))=some (.ptr b k 0 n):=by
  have hs:tySize Tp 23=some 1:=by kernel_rfl
  have:=idx_sl (P:=Tp) (t:=22) (b:=b) (len:=n) (tot:=n) (cap:=cap) (ik:=.i64) (n:=(k:Int)) u22 hs (by omega) (by omega)
  rwa [Int.toNat_natCast] at this
theorem v64 {H:Heap} (nk m:Nat):CallsTo (P:=Tp) (pol:=polDb) 64 [.sl nk 0 m none m 1] H (.func 75 [] [.ptr H.length 0 0 1]) (H ++ [.arr 1 [.sl nk 0 m none m 1] true (nk+1)]):=by
  have t:=vu_a_0 0 nk m H H.length (H0:=H ++ [.arr 1 [.sl nk 0 m none m 1] true (nk+1)]) rfl
  have h:=CallsTo.shared (P:=Tp) (pol:=polDb) (g:=64) (fn:=Try.f64) (cd:=B64) (args:=[.sl nk 0 m none m 1]) (v:=.func 75 [] [.ptr H.length 0 0 1]) (by kernel_rfl) (by kernel_rfl) (by kernel_rfl) (by kernel_rfl) t (by kernel_rfl) (by simp) (by kernel_rfl)
  have e:gc H.length (bnd (.func 75 [] [.ptr H.length 0 0 1])) (H ++ [.arr 1 [.sl nk 0 m none m 1] true (nk+1)])=H ++ [.arr 1 [.sl nk 0 m none m 1] true (nk+1)]:=by
    unfold gc
    refine List.take_of_length_le ?_
    rw [List.length_append,List.length_singleton]
    simp only [bnd,bndL]
    omega
  rw [e] at h
  exact h
theorem v63 {H:Heap} {xb nk mx:Nat} {l:List Int} (hx:H[xb]?=some (.arr 1 [.sl nk 0 l.length none l.length 1] true mx)) (hk:H[nk]?=some (bI l)) (hl:l.length ≤ 1000):∀ kf,callN Tp polDb (kf+1) 63 [.func 75 [] [.ptr xb 0 0 1]] H=some (.sl H.length 0 l.length none l.length 1,H ++ [bI (srt l)]):=fun kf=>by
  rw [heap_call (pol:=polDb) (g:=63) (F:=sortV) rfl rfl]
  unfold sortV
  simp only [hx,hk,ints_of]
  rw [if_pos ⟨trivial,trivial,hl⟩]; rfl
structure Kp (tb ob:Nat) (H H':Heap):Prop where
  ln:H.length ≤ H'.length
  eq:∀ b,b < H.length → b ≠ tb → b ≠ ob → H'[b]?=H[b]?
theorem Kp.refl (tb ob:Nat) (H:Heap):Kp tb ob H H:=⟨Nat.le_refl _,fun _ _ _ _=>rfl⟩
theorem Kp.trans {tb ob:Nat} {A B C:Heap} (h:Kp tb ob A B) (k:Kp tb ob B C):Kp tb ob A C:=⟨Nat.le_trans h.ln k.ln,fun b hb h1 h2=>(k.eq b (Nat.lt_of_lt_of_le hb h.ln) h1 h2).trans (h.eq b hb h1 h2)⟩
theorem Kp.app (tb ob:Nat) (H T:Heap):Kp tb ob H (H ++ T):=⟨by simp,fun b hb _ _=>List.getElem?_append_left hb⟩
theorem gc_len2 {base r:Nat} {H:Heap} (h:base ≤ H.length):base ≤ (gc base r H).length:=by
  unfold gc
  rw [List.length_take]; omega
theorem Kp.gc {tb ob:Nat} {A H:Heap} (h:Kp tb ob A H) {base:Nat} (hb:A.length ≤ base) (hl:base ≤ H.length) (r:Nat):Kp tb ob A (gc base r H) :=
  ⟨Nat.le_trans hb (gc_len2 hl),fun b hb' h1 h2=>by rw [gc_low (by omega)]; exact h.eq b hb' h1 h2⟩
theorem Kp.get {tb ob b:Nat} {A H:Heap} {B:Blk} (h:Kp tb ob A H) (hb:A[b]?=some B) (h1:b ≠ tb) (h2:b ≠ ob):H[b]?=some B:=(h.eq b (lt_some hb) h1 h2).trans hb
def To (tb ob:Nat) (H:Heap) (o:List Int):Prop:=(∃ mx,H[tb]?=some (.arr 1 [.sl ob 0 o.length none o.length 1] true mx))∧H[ob]?=some (bI o)
theorem To.gc {tb ob:Nat} {H:Heap} {o:List Int} (h:To tb ob H o) {base r:Nat} (h1:tb < base) (h2:ob < base):To tb ob (gc base r H) o:=by
  obtain ⟨⟨mx,a⟩,b⟩:=h
  exact ⟨⟨mx,by rw [gc_low h1]; exact a⟩,by rw [gc_low h2]; exact b⟩
structure Nr (tb ob nb vb rb n:Nat) (es:List Ed) (H:Heap):Prop where
  near:∃ mx,H[nb]?=some (.arr 1 [.sl rb 0 n (some n) n 1] true mx)
  rows:∃ rs mx,H[rb]?=some (.arr 1 rs true mx)∧rs.length=n∧∀ i:Nat,i < n → rs[i]?=some (.sl (rb+1+i) 0 (nearL es i).length none (nearL es i).length 1)
  row:∀ i:Nat,i < n → H[rb+1+i]?=some (bI (nearL es i))
  self:∃ mx,H[vb]?=some (.arr 1 [.func 62 [] [.ptr tb 0 0 1,.ptr nb 0 0 1,.ptr vb 0 0 1]] true mx)
  ne:nb ≠ tb∧nb ≠ ob∧vb ≠ tb∧vb ≠ ob∧rb ≠ tb∧rb ≠ ob∧tb ≠ ob∧∀ i:Nat,i < n → rb+1+i ≠ tb∧rb+1+i ≠ ob
theorem Nr.kp {tb ob nb vb rb n:Nat} {es:List Ed} {H H':Heap} (h:Nr tb ob nb vb rb n es H) (k:Kp tb ob H H'):Nr tb ob nb vb rb n es H':=by
  obtain ⟨n1,n2,n3,n4,n5,n6,n7,n8⟩:=h.ne
  obtain ⟨mx,h1⟩:=h.near
  obtain ⟨rs,mx2,h2,h3,h4⟩:=h.rows
  obtain ⟨mx3,h5⟩:=h.self
  exact ⟨⟨mx,k.get h1 n1 n2⟩,⟨rs,mx2,k.get h2 n5 n6,h3,h4⟩,fun i hi=>k.get (h.row i hi) (n8 i hi).1 (n8 i hi).2,⟨mx3,k.get h5 n3 n4⟩,h.ne⟩
section
variable {tb ob nb vb rb n:Nat} {es:List Ed}
theorem near_lt (h:EP n es) {v:Int} {x:Int} (hx:x ∈ nearL es v):0 ≤ x∧x < (n:Int):=by
  obtain ⟨e,h1,h2⟩:=mem_nearL.1 hx
  have:=h.1 e h1
  rcases h2 with ⟨a,b⟩ | ⟨a,b⟩ <;> omega
theorem near_len (h:EP n es) (v:Int):(nearL es v).length ≤ n:=nd_len (nearL_nodup h) fun x hx=>near_lt h hx
theorem vis_call (hE:EP n es) (hn:n ≤ 100):∀ (k:Nat) (v:Nat) (o:List Int) (H:Heap),Nr tb ob nb vb rb n es H → To tb ob H o → v < n → (v:Int) ∉ o → o.Nodup → inT n o → n ≤ o.length+k →
    ∃ H',CallsTo (P:=Tp) (pol:=polDb) 62 [.int .i64 (v:Int),.ptr tb 0 0 1,.ptr nb 0 0 1,.ptr vb 0 0 1] H (.tuple []) H'∧Kp tb ob H H'∧To tb ob H' (visP (nbL es n) k v o):=by
  intro k
  induction k with
  | zero =>
    intro v o H _ _ hv ho h2 h3 h4
    have:=nd_len (p:=o ++ [(v:Int)]) ((VK.add (n:=n) hv ho).2.1 h2) ((VK.add hv ho).2.2 h3)
    rw [List.length_append,List.length_singleton] at this
    omega
  | succ k ih =>
    intro v o H hN hT hv ho h2 h3 h4
    have hK0:=VK.add (n:=n) hv ho
    have hol:=nd_len (hK0.2.1 h2) (hK0.2.2 h3)
    rw [List.length_append,List.length_singleton] at hol
    obtain ⟨n1,n2,n3,n4,n5,n6,n7,n8⟩:=hN.ne
    obtain ⟨⟨mx,t1⟩,t2⟩:=hT
    -- the stop goes to the order's end
    have ap:=app_ints (xs:=[(v:Int)]) t2 (by simp; omega) (by simp)
    have ltb:=lt_some t1
    have lob:=lt_some t2
    have t1':(H.set ob (bI (o ++ [(v:Int)])))[tb]?=some (.arr 1 [.sl ob 0 o.length none o.length 1] true mx):=by rw [List.getElem?_set_ne (Ne.symm n7)]; exact t1
    have st:storeV Tp (H.set ob (bI (o ++ [(v:Int)]))) 23 (.ptr tb 0 0 1) (.sl ob 0 (o ++ [(v:Int)]).length none (o ++ [(v:Int)]).length 1)=some ((H.set ob (bI (o ++ [(v:Int)]))).set tb (.arr 1 [.sl ob 0 (o ++ [(v:Int)]).length none (o ++ [(v:Int)]).length 1] true (max mx (ob+1)))):=by
      have hs:tySize Tp 23=some 1:=by kernel_rfl
      simp [storeV,t1',hs,cellsOf,cellV,bnd]
    have s1:=vt_a_0 0 v tb nb vb H (.sl ob 0 o.length none o.length 1) _ (load_elem t1 rfl rfl rfl (by kernel_rfl) (by kernel_rfl)) ap st
    have hT1:To tb ob ((H.set ob (bI (o ++ [(v:Int)]))).set tb (.arr 1 [.sl ob 0 (o ++ [(v:Int)]).length none (o ++ [(v:Int)]).length 1] true (max mx (ob+1)))) (o ++ [(v:Int)]) :=
      ⟨⟨_,List.getElem?_set_self (by rw [List.length_set]; exact ltb)⟩,by rw [List.getElem?_set_ne n7]; exact List.getElem?_set_self lob⟩
    have hK1:Kp tb ob H ((H.set ob (bI (o ++ [(v:Int)]))).set tb (.arr 1 [.sl ob 0 (o ++ [(v:Int)]).length none (o ++ [(v:Int)]).length 1] true (max mx (ob+1)))) :=
      ⟨by simp,fun b _ h1 h2=>by rw [List.getElem?_set_ne (Ne.symm h1),List.getElem?_set_ne (Ne.symm h2)]⟩
    generalize (H.set ob (bI (o ++ [(v:Int)]))).set tb (.arr 1 [.sl ob 0 (o ++ [(v:Int)]).length none (o ++ [(v:Int)]).length 1] true (max mx (ob+1)))=H1 at *
    have hN1:=hN.kp hK1
    -- the sorted neighbors
    obtain ⟨mx2,q1⟩:=hN1.near
    obtain ⟨rs,mx3,q2,q3,q4⟩:=hN1.rows
    have q5:=hN1.row v hv
    have hLs:srt (nearL es (v:Int))=nbL es n (v:Int):=near_sort hE (srt_perm _) (srt_pair _)
    have hLl:(nbL es n (v:Int)).length=(nearL es (v:Int)).length:=by rw [← hLs,srt_len]
    have hnl:=near_len hE (v:Int)
    obtain ⟨L,hL⟩:∃ L,L=nbL es n (v:Int):=⟨_,rfl⟩
    obtain ⟨N1,c64⟩:=CallsTo.from (v64 (H:=H1) (rb+1+v) (nearL es (v:Int)).length)
    have q6:(H1 ++ [Blk.arr 1 [.sl (rb+1+v) 0 (nearL es (v:Int)).length none (nearL es (v:Int)).length 1] true (rb+1+v+1)])[H1.length]?=some (Blk.arr 1 [.sl (rb+1+v) 0 (nearL es (v:Int)).length none (nearL es (v:Int)).length 1] true (rb+1+v+1)):=by simp
    have q7:(H1 ++ [Blk.arr 1 [.sl (rb+1+v) 0 (nearL es (v:Int)).length none (nearL es (v:Int)).length 1] true (rb+1+v+1)])[rb+1+v]?=some (bI (nearL es (v:Int))):=by rw [List.getElem?_append_left (lt_some q5)]; exact q5
    have c63:=v63 (l:=nearL es (v:Int)) q6 q7 (by omega)
    rw [hLs,← hL,List.length_append,List.length_singleton] at c63
    have hll:(nearL es (v:Int)).length=L.length:=by rw [hL,hLl]
    have s2:=vt_b_0 N1 v tb nb vb H1 n rb (rb+1+v) (nearL es (v:Int)).length H1.length (H1.length+1) (load_elem q1 rfl rfl rfl (by kernel_rfl) (by kernel_rfl)) (ixR hv) (load_elem q2 q3.symm (q4 v hv) rfl (by kernel_rfl) (by kernel_rfl)) c64 (fun kf _=>c63 kf)
    rw [hll] at s2 c63 q6
    have hK2:=Kp.app tb ob H1 ([Blk.arr 1 [.sl (rb+1+v) 0 L.length none L.length 1] true (rb+1+v+1)] ++ [bI L])
    rw [← List.append_assoc] at hK2
    have hT2:To tb ob (H1 ++ [Blk.arr 1 [.sl (rb+1+v) 0 L.length none L.length 1] true (rb+1+v+1)] ++ [bI L]) (o ++ [(v:Int)]):=by
      obtain ⟨⟨mx,a⟩,b⟩:=hT1
      have l1:=lt_some a
      have l2:=lt_some b
      exact ⟨⟨mx,by rw [List.append_assoc,List.getElem?_append_left l1]; exact a⟩,by rw [List.append_assoc,List.getElem?_append_left l2]; exact b⟩
    have hsb:(H1 ++ [Blk.arr 1 [.sl (rb+1+v) 0 L.length none L.length 1] true (rb+1+v+1)] ++ [bI L])[H1.length+1]?=some (bI L):=by simp
    have lt1:tb < H1.length:=by obtain ⟨⟨_,a⟩,_⟩:=hT1; exact lt_some a
    have lo1:ob < H1.length:=lt_some hT1.2
    generalize hX0:H1 ++ [Blk.arr 1 [.sl (rb+1+v) 0 L.length none L.length 1] true (rb+1+v+1)] ++ [bI L]=X0 at *
    have hN2:=hN1.kp hK2
    have hLm:∀ x ∈ L,0 ≤ x∧x < (n:Int):=fun x hx=>by
      rw [hL,nbL,List.mem_filter,mem_iota] at hx
      exact hx.1
    -- one after the other
    obtain ⟨f,hf⟩:∃ f:List Int → Int → List Int,f=fun o u=>if u ∈ o then o else visP (nbL es n) k u o:=⟨_,rfl⟩
    obtain ⟨x,E',H',r,rfl,rfl,hK3,hT3⟩:=countI (pol':=polDb) (f:=62) (b:=sn 28 B62) (c:=sn 14 B62) (I:=fun i e X=>e=(env62 (.i (v:Int)) (.q tb) (.q nb) (.q vb) Ud (.s (H1.length+1) L.length) (.i (L.length:Int)) (.i (i:Int)))∧Kp tb ob X0 X∧To tb ob X ((L.take i).foldl f (o ++ [(v:Int)]))∧VK n (o ++ [(v:Int)]) ((L.take i).foldl f (o ++ [(v:Int)])))
      (Q:=fun x E' X=>x=.exit 0∧E'=(env62 (.i (v:Int)) (.q tb) (.q nb) (.q vb) Ud (.s (H1.length+1) L.length) (.i (L.length:Int)) (.i ((L.length:Nat):Int)))∧Kp tb ob X0 X∧To tb ob X (L.foldl f (o ++ [(v:Int)]))) L.length
      (by
        rintro i hi e X ⟨rfl,hK,hT,hV⟩
        obtain ⟨u,hu,hun⟩:∃ u:Nat,L.getD i 0=(u:Int)∧u < n:=by
          have:=hLm (L.getD i 0) (by rw [List.getD,List.getElem?_eq_getElem hi,Option.getD_some]; exact List.getElem_mem _)
          exact ⟨(L.getD i 0).toNat,by omega,by omega⟩
        have es1:(L.take (i+1)).foldl f (o ++ [(v:Int)])=f ((L.take i).foldl f (o ++ [(v:Int)])) (u:Int):=by
          rw [List.take_succ_eq_append_getElem hi,List.foldl_append,List.foldl_cons,List.foldl_nil,← hu,List.getD,List.getElem?_eq_getElem hi,Option.getD_some]
        generalize (L.take i).foldl f (o ++ [(v:Int)])=oi at *
        have hbX:=hK.get hsb (by omega) (by omega)
        have hix:=ixg (b:=H1.length+1) (cap:=none) hi
        have hld:=ldg hbX rfl hi
        rw [hu] at hld
        obtain ⟨⟨mx4,w1⟩,w2⟩:=id hT
        have hle:=nd_len (hV.2.1 (hK0.2.1 h2)) (hV.2.2 (hK0.2.2 h3))
        have hlz:=load_elem (P:=Tp) (t:=23) w1 rfl (i:=0) rfl rfl (by kernel_rfl) (by kernel_rfl)
        have c60:∀ b:Bool,decide ((u:Int) ∈ oi)=b → ∀ kf,callN Tp polDb (kf+1) 60 [.sl ob 0 oi.length none oi.length 1,.int .i64 (u:Int)] X=some (.bool b,X):=fun b hb kf=>by
          rw [prim_call (pol:=polDb) (g:=60) (F:=contains60) rfl (rs:=[.imm .arg 1 (oi.map hvI),.int .i64 (u:Int)]) (by simp only [mapO,arg_sl rfl w2]; rfl) (res:=.bool b) (by simp only [contains60,lnF,mapO_map decI_enc]; rw [if_pos (by omega),hb])]; rfl
        have er:lrestr polDb 62 (sn 28 B62) ((env62 (.i (v:Int)) (.q tb) (.q nb) (.q vb) (.i (u:Int)) (.s (H1.length+1) L.length) (.i (L.length:Int)) (.i ((i+1:Nat):Int))))=(env62 (.i (v:Int)) (.q tb) (.q nb) (.q vb) Ud (.s (H1.length+1) L.length) (.i (L.length:Int)) (.i ((i+1:Nat):Int))):=by kernel_rfl
        by_cases c:(u:Int) ∈ oi
        · have s:=vt_c_0 0 v tb nb vb X L.length (H1.length+1) i u _ (by omega) hix hld hlz (c60 true (decide_eq_true c))
          rw [wrap_succ (by omega)] at s
          have ef:f oi (u:Int)=oi:=by rw [hf]; exact if_pos c
          refine ⟨_,X,s,er,?_,?_,?_⟩
          · rw [er,gc_eq _ rfl]; exact hK
          · rw [es1,ef,er,gc_eq _ rfl]; exact hT
          · rw [es1,ef]; exact hV
        · have ef:f oi (u:Int)=visP (nbL es n) k (u:Int) oi:=by rw [hf]; exact if_neg c
          have hNX:=hN2.kp hK
          obtain ⟨⟨tt,ht⟩,_⟩:=id hV
          have hlo:o.length+1 ≤ oi.length:=by rw [ht,List.length_append,List.length_append,List.length_singleton]; omega
          obtain ⟨X',hc,hK4,hT4⟩:=ih u oi X hNX hT hun c (hV.2.1 (hK0.2.1 h2)) (hV.2.2 (hK0.2.2 h3)) (by omega)
          obtain ⟨N,hN'⟩:=CallsTo.from hc
          obtain ⟨mx5,w3⟩:=hNX.self
          have s:=vt_c_1 N v tb nb vb X L.length (H1.length+1) i u _ (by omega) hix hld hlz (c60 false (decide_eq_false c)) (load_elem w3 rfl rfl rfl (by kernel_rfl) (by kernel_rfl)) hN'
          rw [wrap_succ (by omega)] at s
          have hVu:VK n (o ++ [(v:Int)]) (visP (nbL es n) k (u:Int) oi):=by
            rw [visP_eq]
            exact hV.trans ((VK.add hun c).trans (visF_keep es n k _))
          refine ⟨_,X',s,er,?_,?_,?_⟩
          · exact hK.trans (hK4.gc (Nat.le_refl _) hK4.ln _)
          · rw [es1,ef]
            exact hT4.gc (Nat.lt_of_lt_of_le (lt_some w1) (Nat.le_refl _)) (lt_some w2)
          · rw [es1,ef]; exact hVu)
      (by
        rintro e X ⟨rfl,hK,hT,hV⟩
        rw [List.take_length] at hT
        exact ⟨_,_,_,vt_c_2 0 v tb nb vb X L.length (H1.length+1) L.length 0 Ud (by omega),by simp,rfl,rfl,hK,hT⟩)
      (by kernel_rfl) (by rintro i e X ⟨rfl,_⟩; kernel_rfl) (e:=(env62 (.i (v:Int)) (.q tb) (.q nb) (.q vb) Ud (.s (H1.length+1) L.length) (.i (L.length:Int)) (.i (0:Int)))) (H:=X0) ⟨rfl,Kp.refl tb ob X0,hT2,VK.refl n _⟩
    have h:=CallsTo.shared (P:=Tp) (pol:=polDb) (g:=62) (fn:=Try.f62) (cd:=B62) (args:=[.int .i64 (v:Int),.ptr tb 0 0 1,.ptr nb 0 0 1,.ptr vb 0 0 1]) (v:=.tuple []) (by kernel_rfl) (by kernel_rfl) (by kernel_rfl) (by kernel_rfl) (sq (s1) (sq (s2) (bke (c:=sn 7 B62) (r)) (c:=sn 3 B62)) (c:=B62)) (by kernel_rfl) (by simp) (by kernel_rfl)
    have hKK:=hK1.trans (hK2.trans hK3)
    refine ⟨_,h,hKK.gc (Nat.le_refl _) hKK.ln _,?_⟩
    have e:visP (nbL es n) (k+1) (v:Int) o=L.foldl f (o ++ [(v:Int)]):=by rw [visP,hL,hf]
    rw [e]
    exact hT3.gc ltb lob
end
theorem nearL_append (l l':List Ed) (v:Int):nearL (l ++ l') v=nearL l v ++ nearL l' v:=by
  induction l with
  | nil=>rfl
  | cons e l ih=>rw [List.cons_append,nearL,nearL,ih,List.append_assoc,List.append_assoc]
theorem store_sl {H:Heap} {t b i tot k mx:Nat} {els:List HV} {v old:HV} (hb:H[b]?=some (.arr k els true mx)) (ht:tot=els.length) (hi:els[i]?=some old) (ho:cellsOf old=[old]) (hna:∀ cs,old ≠ .agg cs) (hs:tySize Tp t=some 1) (hc:cellsOf v=[v]) (hcv:cellV v=true) :
    storeV Tp H t (.ptr b i 0 tot) v=some (H.set b (.arr k (els.set i v) true (max mx (bnd v)))):=by
  simp only [ST,storeV,hb,hi,ht,hs,hc,ho,List.length_singleton]
  rw [if_pos ⟨trivial,trivial⟩,if_pos ⟨by omega,by simp [hcv],by omega⟩]
theorem rcl {x x':Option HV} {H H':Heap} {v:HV} {b:Bool} (h:x=some v) (h':x'=some v) (hv:same v v=true) (hH:sameH H H=true) (hH':sameH H' H'=true) (hb:b=true):(recL (x.map fun v=>(v,H)) (x'.map fun v=>(v,H')) H H' && b)=true:=by
  subst h h' hb
  simp only [recL,Option.map,hv,hH,hH',Bool.and_self]
theorem same_sl (b n k:Nat) (cap:Option Nat):same (.sl b 0 n cap n k) (.sl b 0 n cap n k)=true:=by simp [same]
theorem same_i (v:Int):same (.int .i64 v) (.int .i64 v)=true:=by simp [same]
theorem sz23:tySize Tp 23=some 1:=by kernel_rfl
theorem ag23:tyAgg Tp 23=false:=by kernel_rfl
theorem un23:(Tp.underlying 23).isSome=true:=by kernel_rfl
theorem ag22:tyAgg Tp 22=false:=by kernel_rfl
theorem un22:(Tp.underlying 22).isSome=true:=by kernel_rfl
theorem sz22:tySize Tp 22=some 1:=by kernel_rfl
theorem ag3':tyAgg Tp 3=false:=by kernel_rfl
theorem un3':(Tp.underlying 3).isSome=true:=by kernel_rfl
structure Rw (nb rb n eb:Nat) (es:List Ed) (R:Nat → List Int) (H:Heap):Prop where
  near:∃ mx,H[nb]?=some (.arr 1 [.sl rb 0 n (some n) n 1] true mx)
  rows:∃ rs mx,H[rb]?=some (.arr 1 rs true mx)∧rs.length=n∧∀ i:Nat,i < n → rs[i]?=some (.sl (rb+1+i) 0 (R i).length none (R i).length 1)
  row:∀ i:Nat,i < n → H[rb+1+i]?=some (bI (R i))
  edg:H[eb]?=some (bE encE es)
  sm:sameH H H=true
  ne:nb ≠ rb∧eb ≠ rb∧∀ i:Nat,i < n → nb ≠ rb+1+i∧eb ≠ rb+1+i
theorem Rw.low {nb rb n eb:Nat} {es:List Ed} {R:Nat → List Int} {H H':Heap} (h:Rw nb rb n eb es R H) (hs:sameH H' H'=true) (k:∀ b,b < H.length → H'[b]?=H[b]?):Rw nb rb n eb es R H':=by
  obtain ⟨mx,h1⟩:=h.near
  obtain ⟨rs,mx2,h2,h3,h4⟩:=h.rows
  exact ⟨⟨mx,(k _ (lt_some h1)).trans h1⟩,⟨rs,mx2,(k _ (lt_some h2)).trans h2,h3,h4⟩,fun i hi=>(k _ (lt_some (h.row i hi))).trans (h.row i hi),(k _ (lt_some h.edg)).trans h.edg,hs,h.ne⟩
section
variable {nb rb n eb:Nat} {es:List Ed} {R:Nat → List Int} {H:Heap}
theorem Rw.ld22 (h:Rw nb rb n eb es R H):loadV Tp H 22 (.ptr nb 0 0 1)=some (.sl rb 0 n (some n) n 1):=by
  obtain ⟨mx,h1⟩:=h.near
  exact load_elem h1 rfl rfl rfl ag22 un22
theorem Rw.ld23 (h:Rw nb rb n eb es R H) {a:Nat} (ha:a < n):loadV Tp H 23 (.ptr rb a 0 n)=some (.sl (rb+1+a) 0 (R a).length none (R a).length 1):=by
  obtain ⟨rs,mx2,h2,h3,h4⟩:=h.rows
  exact load_elem h2 h3.symm (h4 a ha) rfl ag23 un23
def updR (R:Nat → List Int) (a:Nat) (x:Int):Nat → List Int:=fun v=>if v=a then R v ++ [x] else R v
theorem Rw.put (h:Rw nb rb n eb es R H) {a:Nat} (ha:a < n) (hl:(R a).length ≤ 500) (x:Int):∃ H2 H3,
    appV H 1 8 (.sl (rb+1+a) 0 (R a).length none (R a).length 1) [.int .i64 x]=some (.sl (rb+1+a) 0 ((R a).length+1) none ((R a).length+1) 1,H2) ∧
    storeV Tp H2 23 (.ptr rb a 0 n) (.sl (rb+1+a) 0 ((R a).length+1) none ((R a).length+1) 1)=some H3 ∧
    sameH H2 H2=true∧(∀ b,b ≠ rb+1+a → H2[b]?=H[b]?)∧(∀ b,b ≠ rb → b ≠ rb+1+a → H3[b]?=H[b]?)∧H3.length=H.length∧Rw nb rb n eb es (updR R a x) H3:=by
  obtain ⟨n1,n2,n3⟩:=h.ne
  obtain ⟨mx,h1⟩:=h.near
  obtain ⟨rs,mx2,h2,h3,h4⟩:=h.rows
  have h5:=h.row a ha
  have ap:=app_ints (xs:=[x]) h5 (by simp; omega) (by simp)
  rw [List.length_append,List.length_singleton] at ap
  have hq:(H.set (rb+1+a) (bI (R a ++ [x])))[rb]?=some (.arr 1 rs true mx2):=by rw [List.getElem?_set_ne (by omega)]; exact h2
  have st:=store_sl (t:=23) (v:=.sl (rb+1+a) 0 ((R a).length+1) none ((R a).length+1) 1) hq h3.symm (h4 a ha) rfl (fun cs e=>by cases e) sz23 rfl rfl
  have s2:sameH (H.set (rb+1+a) (bI (R a ++ [x]))) (H.set (rb+1+a) (bI (R a ++ [x])))=true:=sameH_set h.sm (same_bI _)
  refine ⟨_,_,ap,st,s2,fun b hb=>List.getElem?_set_ne (Ne.symm hb),fun b hb hb'=>by rw [List.getElem?_set_ne (Ne.symm hb),List.getElem?_set_ne (Ne.symm hb')],by simp,?_⟩
  have l1:=lt_some h2
  have l2:=lt_some h5
  have e4:∀ i:Nat,i < n → (rs.set a (.sl (rb+1+a) 0 ((R a).length+1) none ((R a).length+1) 1))[i]?=some (.sl (rb+1+i) 0 (updR R a x i).length none (updR R a x i).length 1):=fun i hi=>by
    by_cases c:i=a
    · subst c
      rw [List.getElem?_set_self (by omega),updR,if_pos rfl,List.length_append,List.length_singleton]
    · rw [List.getElem?_set_ne (Ne.symm c),updR,if_neg c]; exact h4 i hi
  refine ⟨⟨mx,?_⟩,⟨_,_,List.getElem?_set_self (by rw [List.length_set]; exact l1),by simpa using h3,e4⟩,fun i hi=>?_,?_,?_,h.ne⟩
  · rw [List.getElem?_set_ne (Ne.symm n1),List.getElem?_set_ne (Ne.symm (n3 a ha).1)]; exact h1
  · rw [List.getElem?_set_ne (by omega)]
    by_cases c:i=a
    · subst c
      rw [List.getElem?_set_self l2,updR,if_pos rfl]
    · rw [List.getElem?_set_ne (by omega),updR,if_neg c]; exact h.row i hi
  · rw [List.getElem?_set_ne (Ne.symm n2),List.getElem?_set_ne (Ne.symm (n3 a ha).2)]; exact h.edg
  · refine sameH_set s2 (same_arr fun v hv=>?_)
    obtain ⟨i,hi,rfl⟩:=List.getElem_of_mem hv
    have hi':i < n:=by rw [List.length_set,h3] at hi; exact hi
    have:=e4 i hi'
    rw [List.getElem?_eq_getElem hi] at this
    rw [Option.some.inj this]
    exact same_sl _ _ _ _
theorem box_e (H:Heap) (ec ea ed:Int):∃ H1,storeV Tp (H ++ [.arr 3 [.agg [.int .i64 0,.int .i64 0,.int .i64 0]] true 0]) 91 (.ptr H.length 0 0 1) (.agg [.int .i64 ec,.int .i64 ea,.int .i64 ed])=some H1∧H1=H ++ [.arr 3 [.agg [.int .i64 ec,.int .i64 ea,.int .i64 ed]] true 0]:=by
  refine ⟨_,store_agg (P:=Tp) (t:=91) (b:=H.length) (i:=0) (tot:=1) (k:=3) (mx:=0) (els:=[.agg [.int .i64 0,.int .i64 0,.int .i64 0]]) (cs:=[.int .i64 0,.int .i64 0,.int .i64 0]) (new:=[.int .i64 ec,.int .i64 ea,.int .i64 ed]) (by simp) rfl rfl (by kernel_rfl) rfl (by simp) rfl rfl,?_⟩
  rw [List.set_append_right _ _ (Nat.le_refl _),Nat.sub_self]; rfl
theorem ld_box {H:Heap} {xb off:Nat} {cs:List HV} {v:HV} (hb:H[xb]?=some (.arr 3 [.agg cs] true 0)) (hv:cs[off]?=some v):loadV Tp H 3 (.ptr xb 0 off 1)=some v :=
  load_cell hb rfl rfl ag3' un3' hv
end
section
variable {d:List (List Int)} {nb rb n eb:Nat} {es:List Ed}
abbrev dE (rw:List HV) (nb eb q i:Nat):Env:=env42 (.imm .arg 1 rw) (.imm .lit 1 []) (.int .i64 0) (.ptr nb 0 0 1) Ud Ud Ud (.sl eb 0 q none q 3) (.int .i64 (q:Int)) (.int .i64 (i:Int))
theorem db_loop (hE:EP n es) (hq:es.length ≤ 200) (hn:n ≤ 100) (rw:List HV) {X0:Heap} (h0:Rw nb rb n eb es (fun _=>[]) X0) :
    ∃ H',RT polDb 42 (sn 122 B42) (dE rw nb eb es.length 0) X0 (.exit 0) (dE rw nb eb es.length es.length) H'∧Rw nb rb n eb es (fun v:Nat=>nearL es (v:Int)) H'∧X0.length ≤ H'.length:=by
  obtain ⟨x,E',H',r,rfl,rfl,h1,h2⟩:=countI (pol':=polDb) (f:=42) (b:=sn 244 B42) (c:=sn 122 B42) (I:=fun i e X=>e=dE rw nb eb es.length i∧Rw nb rb n eb es (fun v:Nat=>nearL (es.take i) (v:Int)) X∧X0.length ≤ X.length)
    (Q:=fun x E' X=>x=.exit 0∧E'=dE rw nb eb es.length es.length∧Rw nb rb n eb es (fun v:Nat=>nearL es (v:Int)) X∧X0.length ≤ X.length) es.length
    (by
      rintro i hi e X ⟨rfl,hR,hX⟩
      obtain ⟨ec,e2,e3,hed⟩:∃ ec e2 e3,at_ es i=(ec,e2,e3):=⟨_,_,_,rfl⟩
      have hm:(ec,e2,e3) ∈ es:=by
        rw [← hed,at_,List.getD,List.getElem?_eq_getElem hi,Option.getD_some]; exact List.getElem_mem _
      have hb:=hE.1 _ hm
      obtain ⟨ea,rfl⟩:∃ a:Nat,e2=(a:Int):=⟨e2.toNat,by have:=hb.1; simp only at this; omega⟩
      obtain ⟨ed,rfl⟩:∃ a:Nat,e3=(a:Int):=⟨e3.toNat,by have:=hb.1; have:=hb.2.1; simp only at *; omega⟩
      simp only at hb
      have hEi:EP n (es.take i):=⟨fun e he=>hE.1 e (List.mem_of_mem_take he),hE.2.sublist (List.take_sublist _ _)⟩
      have hts:es.take (i+1)=es.take i ++ [(ec,((ea:Nat):Int),((ed:Nat):Int))]:=by
        rw [List.take_succ_eq_append_getElem hi]
        congr 2
        rw [← hed,at_,List.getD,List.getElem?_eq_getElem hi,Option.getD_some]
      have hld:=lde hR.edg rfl hi
      rw [hed] at hld
      obtain ⟨H1,b1,b2⟩:=box_e X ec ea ed
      have s1:sameH H1 H1=true:=by
        rw [b2]; exact sameH_app hR.sm (same_arr fun v hv=>by rw [List.mem_singleton.1 hv]; simp [same,sameL])
      have hR1:Rw nb rb n eb es (fun v:Nat=>nearL (es.take i) (v:Int)) H1:=hR.low s1 fun b hb=>by rw [b2,List.getElem?_append_left hb]
      have hx1:H1[X.length]?=some (.arr 3 [.agg [.int .i64 ec,.int .i64 (ea:Int),.int .i64 (ed:Int)]] true 0):=by rw [b2]; simp
      have hl1:H1.length=X.length+1:=by rw [b2]; simp
      have lr:rb < X.length:=by obtain ⟨_,_,h,_⟩:=hR.rows; exact lt_some h
      have la:rb+1+ea < X.length:=lt_some (hR.row ea (by omega))
      have ld:rb+1+ed < X.length:=lt_some (hR.row ed (by omega))
      obtain ⟨H2,H3,a1,a2,a3,a4,a5,a6,hR3⟩:=hR1.put (a:=ea) (by omega) (Nat.le_trans (near_len hEi _) (by omega)) (ed:Int)
      have hx2:=(a4 X.length (by omega)).trans hx1
      have hx3:=(a5 X.length (by omega) (by omega)).trans hx1
      have hnb:=hR1.ne
      have l2:loadV Tp H2 22 (.ptr nb 0 0 1)=some (.sl rb 0 n (some n) n 1):=by
        obtain ⟨mx,q⟩:=hR1.near
        exact load_elem ((a4 nb (hnb.2.2 ea (by omega)).1).trans q) rfl rfl rfl ag22 un22
      have eR:updR (fun v:Nat=>nearL (es.take i) (v:Int)) ea (ed:Int) ed=nearL (es.take i) (ed:Int):=by rw [updR,if_neg (by omega)]
      obtain ⟨H4,H5,c1,c2,c3,c4,c5,c6,hR5⟩:=hR3.put (a:=ed) (by omega) (by rw [eR]; exact Nat.le_trans (near_len hEi _) (by omega)) (ea:Int)
      have hx4:=(c4 X.length (by omega)).trans hx3
      have l4:loadV Tp H4 22 (.ptr nb 0 0 1)=some (.sl rb 0 n (some n) n 1):=by
        obtain ⟨mx,q⟩:=hR3.near
        exact load_elem ((c4 nb (hnb.2.2 ed (by omega)).1).trans q) rfl rfl rfl ag22 un22
      have f1:∀ {Y:Heap},Y[X.length]?=some (.arr 3 [.agg [.int .i64 ec,.int .i64 (ea:Int),.int .i64 (ed:Int)]] true 0) → loadV Tp Y 3 (.ptr X.length 0 1 1)=some (.int .i64 (ea:Int)):=fun h=>ld_box h rfl
      have f2:∀ {Y:Heap},Y[X.length]?=some (.arr 3 [.agg [.int .i64 ec,.int .i64 (ea:Int),.int .i64 (ed:Int)]] true 0) → loadV Tp Y 3 (.ptr X.length 0 2 1)=some (.int .i64 (ed:Int)):=fun h=>ld_box h rfl
      have ea23:=hR1.ld23 (a:=ea) (by omega)
      have ed23:=hR3.ld23 (a:=ed) (by omega)
      have hS7:=rcl hR1.ld22 hR1.ld22 (same_sl _ _ _ _) s1 s1 (rcl hR1.ld22 l2 (same_sl _ _ _ _) s1 a3 (rcl (f1 hx1) (f1 hx1) (same_i _) s1 s1 (rcl (f1 hx1) (f1 hx2) (same_i _) s1 a3 (rcl hR1.ld22 hR1.ld22 (same_sl _ _ _ _) s1 s1 (rcl (f1 hx1) (f1 hx1) (same_i _) s1 s1 (rcl ea23 ea23 (same_sl _ _ _ _) s1 s1 rfl))))))
      have s3:=hR3.sm
      have hS8:=rcl hR3.ld22 hR3.ld22 (same_sl _ _ _ _) s3 s3 (rcl hR3.ld22 l4 (same_sl _ _ _ _) s3 c3 (rcl (f2 hx3) (f2 hx3) (same_i _) s3 s3 (rcl (f2 hx3) (f2 hx4) (same_i _) s3 c3 (rcl hR3.ld22 hR3.ld22 (same_sl _ _ _ _) s3 s3 (rcl (f2 hx3) (f2 hx3) (same_i _) s3 s3 (rcl ed23 ed23 (same_sl _ _ _ _) s3 s3 rfl))))))
      have s:=dp_e_0 0 rw X nb eb es.length i n rb X.length ec ea ed (rb+1+ea) _ _ (rb+1+ed) _ _ (by omega) (ixe hi) hld rfl b1 hR1.ld22 (f1 hx1) hR1.ld22 (f1 hx1) (ixR (by omega)) ea23 (f2 hx1) a1 (ixR (by omega)) a2 hS7 hR3.ld22 (f2 hx3) hR3.ld22 (f2 hx3) (ixR (by omega)) ed23 (f1 hx3) c1 (ixR (by omega)) c2 hS8
      rw [wrap_succ (by omega)] at s
      have er:lrestr polDb 42 (sn 244 B42) (env42 (.a rw) (.imm .lit 1 []) (.i 0) (.q nb) (.ptr X.length 0 0 1) Ud Ud (.sl eb 0 es.length none es.length 3) (.i (es.length:Int)) (.i ((i+1:Nat):Int)))=dE rw nb eb es.length (i+1):=by kernel_rfl
      refine ⟨_,H5,s,er,?_,?_⟩
      · have e:(fun v:Nat=>nearL (es.take (i+1)) (v:Int))=updR (updR (fun v:Nat=>nearL (es.take i) (v:Int)) ea (ed:Int)) ed (ea:Int):=by
          funext v
          rw [hts,nearL_append,nearL,nearL]
          unfold updR
          simp only
          by_cases v1:v=ea
          · subst v1
            rw [if_pos rfl,if_neg (by omega),if_neg (by omega),if_pos rfl]; simp
          · by_cases v2:v=ed
            · subst v2
              rw [if_neg (by omega),if_pos rfl,if_pos rfl,if_neg v1]; simp
            · rw [if_neg (by omega),if_neg (by omega),if_neg v2,if_neg v1]; simp
        rw [e]
        refine ⟨?_,?_,?_,?_,sameH_take hR5.sm,hR5.ne⟩
        · obtain ⟨mx,q⟩:=hR5.near
          have:=lt_some hR.near.choose_spec
          exact ⟨mx,by rw [gc_low this]; exact q⟩
        · obtain ⟨rs,mx,q⟩:=hR5.rows
          exact ⟨rs,mx,by rw [gc_low lr]; exact q⟩
        · intro j hj
          rw [gc_low (lt_some (hR.row j hj))]; exact hR5.row j hj
        · rw [gc_low (lt_some hR.edg)]; exact hR5.edg
      · exact Nat.le_trans hX (gc_len2 (by omega)))
    (by
      rintro e X ⟨rfl,hR,hX⟩
      rw [List.take_length] at hR
      exact ⟨_,_,_,dp_e_1 0 rw X nb eb es.length es.length n rb 0 0 0 0 0 0 0 0 0 0 (by omega),by simp,rfl,rfl,hR,hX⟩)
    (by kernel_rfl) (by rintro i e X ⟨rfl,_⟩; kernel_rfl) (e:=dE rw nb eb es.length 0) (H:=X0) ⟨rfl,by rw [List.take_zero]; exact h0,Nat.le_refl _⟩
  exact ⟨H',r,h1,h2⟩
end
end Go.Proofs.Ytlendaofkmhgmaa
end
section
open Go Go.HL
namespace Go.Proofs.Ytlendaofkmhgmaa
set_option maxRecDepth 100000
set_option linter.unusedSectionVars false
open Go.Proofs.Try renaming prog → Tp
open Go.HL.HV renaming undef → Ud
noncomputable def B44:Code:=Try.f44.body.getD .skip
abbrev env44 (v0 v2 v3 v4:HV):Env:=[(0,v0),(2,v2),(3,v3),(4,v4)]
theorem db_a_0 (N:Nat) (rw:List HV) (H:Heap) (n zb eb m tb q:Nat) (tz:HV) {H0:Heap} {H1:Heap} {H2:Heap} {H3:Heap} (g0:makeV Tp false 23 (.i (rw.length:Int)) (.i (rw.length:Int)) H=some (.o zb n,H0)) (g1:∀ kf,callN Tp polVs (kf+1) 66 [.a rw,.o zb n,.i 0] H0=some (.sl eb 0 m none m 3,H1)) (g2:∀ kf,callN Tp polVs (kf+1) 65 [.sl eb 0 m none m 3,.i (rw.length:Int)] H1=some (.sl tb 0 q none q 3,H2)) (g3:∀ kf,N ≤ kf → callN Tp polVs (kf+1) 67 [.sl tb 0 q none q 3,.imm .lit 1 [.i 0],.i (rw.length:Int)] H2=some (tz,H3)): RT polVs 44 (sub [] B44) [(0,.a rw)] H .ret (env44 (.a rw) tz (.i (rw.length:Int)) (.sl tb 0 q none q 3)) H3 :=
  hx N 60 [jR 2 2 g0,jD 2 3 g1,jD 2 5 g2,jC 3 3 g3]
end Go.Proofs.Ytlendaofkmhgmaa
end
section
open Go Go.HL Go.HL.So
namespace Go.Proofs.Ytlendaofkmhgmaa
set_option linter.unusedSectionVars false
open Go.Proofs.Try renaming prog → Tp
open Go.HL.HV renaming undef → Ud
theorem res44:Try.f44.results.toList=[.tmp 2]:=by kernel_rfl
open Classical in
noncomputable def rdouble44:List HV → Option HV:=rwF fun d=>if okD d then some (if 2 ≤ (dblT d).length then .own 1 ((dblT d).map hvI) else .imm .lit 1 ((dblT d).map hvI)) else none
theorem resPL_ints:∀ l:List Int,resPL (l.map hvI)=true
  | []=>rfl
  | a :: l=>by
    have:=resPL_ints l
    rw [List.map_cons,resPL,this]; rfl
theorem res_imm (H:Heap) (o:List Int) (h:o ≠ []):toRes H false (.imm .lit 1 (o.map hvI))=some (.imm .lit 1 (o.map hvI)):=by
  cases o with
  | nil=>exact absurd rfl h
  | cons a o =>
    have:=resPL_ints (a :: o)
    rw [List.map_cons] at this ⊢
    simp [toRes,ownedAll,cellsOf,owned,owned1,resVal,resCell,frz,resP,this]
theorem tree_in (d:List (List Int)) (p:List Int):EIn d.length (treeL d p 0):=fun e he=>by
  have:=(tree_EP d p).1 e he
  omega
theorem rdouble_ok:PrimOk Tp 44 rdouble44:=by
  refine primOk_pure (pol:=polVs) (fn:=Try.f44) (cd:=B44) follows_mixed soundVs (by kernel_rfl) (by kernel_rfl) (fnokVs _ _ (by kernel_rfl)) (by kernel_rfl) ?_
  intro args res h
  obtain ⟨d,rfl,hq⟩:=rwF_inv h
  clear h
  split at hq
  case isFalse=>cases hq
  rename_i hd
  cases hq
  have hdn:=hd.1
  have h0:=edg_len (ps:=zer d.length) (f:=0) hd (by omega)
  have e0:=edg_in (d:=d) (ps:=zer d.length) (f:=0) (by omega)
  have hk:treeL d (zer d.length) 0=krD (edg d (zer d.length) 0) (iota d.length):=kr_eq _ _ _ e0 (Eqv.refl (iota_len _))
  have hlen:=krP_len (edg d (zer d.length) 0) (iota d.length)
  have hzl:(zer d.length).length=d.length:=by simp [zer]
  have hzp:prOk (zer d.length):=fun v hv=>by
    have:=List.eq_of_mem_replicate hv
    omega
  have mk:=makeV_ok (P:=Tp) (H:=[]) (t:=23) (e:=3) (k:=1) (bt:=8) (zv:=.int .i64 0) (n:=(d.length:Int)) u23 (by kernel_rfl) (by simp [cellsOf,cellV]) (by simp [cellsOf]) (by omega) (by omega) (by simp only [roomMax]; omega)
  rw [Int.toNat_natCast] at mk
  have hz:List.replicate d.length (HV.int .i64 0)=(zer d.length).map hvI:=by rw [zer,List.map_replicate]; rfl
  rw [hz] at mk
  have c66:∀ kf,callN Tp polVs (kf+1) 66 [.imm .arg 1 (d.map encR),.sl 0 0 d.length (some d.length) d.length 1,.int .i64 0] [bI (zer d.length)]=some (.sl 1 0 (edg d (zer d.length) 0).length none (edg d (zer d.length) 0).length 3,[bI (zer d.length),bF (edg d (zer d.length) 0)]):=fun kf=>by
    rw [prim_call (pol:=polVs) (g:=66) (F:=edges66) rfl (rs:=[.imm .arg 1 (d.map encR),.imm .arg 1 ((zer d.length).map hvI),.int .i64 ((0:Nat):Int)]) (by simp only [mapO,arg_rw,arg_slc (H:=[bI (zer d.length)]) (b:=0) hzl rfl]; rfl) (res:=.own 3 ((edg d (zer d.length) 0).map encF)) (by simp only [edges66,rliF,mapO_map decR_enc,mapO_map decI_enc]; rw [if_pos ⟨hd,hzl,hzp,by omega,by omega⟩,Int.toNat_natCast]),recv_F]; rfl
  have c65:=q65 (pol':=polVs) rfl (b:=1) (H:=[bI (zer d.length),bF (edg d (zer d.length) 0)]) rfl (n:=d.length) (by omega) e0 (by omega)
  rw [← hk] at c65
  have hS:SlV 2 (treeL d (zer d.length) 0) [bI (zer d.length),bF (edg d (zer d.length) 0),bF (treeL d (zer d.length) 0)] (.imm .lit 1 [.int .i64 0]) [0]:=⟨.inr ⟨rfl,by simp⟩,rfl⟩
  obtain ⟨tv',H',hc,hV⟩:=visit_call (n:=d.length) (tree_in d (zer d.length)) (by rw [treeL]; omega) (by omega) d.length [0] _ _ hS (by simp) (by simp) (fun v hv=>by rw [List.mem_singleton.1 hv]; omega) (by simp; omega)
  obtain ⟨N,hN⟩:=CallsTo.from hc
  have t:=db_a_0 N (d.map encR) [] d.length 0 1 (edg d (zer d.length) 0).length 2 (treeL d (zer d.length) 0).length tv' (by rw [List.length_map]; exact mk) c66 (by rw [List.length_map]; exact c65) (by rw [List.length_map]; exact hN)
  refine ⟨_,_,_,tv',t,by simp,by simp only [resultsV,res44]; rfl,?_⟩
  have hne:dblT d ≠ []:=fun e=>by
    obtain ⟨⟨t,et⟩,_⟩:=visF_keep (treeL d (zer d.length) 0) d.length d.length [0]
    rw [show visF (treeL d (zer d.length) 0) d.length d.length [0]=dblT d from rfl,e] at et
    simp at et
  rcases hV.1 with ⟨b,cap,rfl,q1,_,_,q5⟩ | ⟨rfl,q5⟩
  · rw [if_pos (show 2 ≤ (dblT d).length from q5)]
    exact res_lic q1 rfl
  · rw [if_neg (show ¬ 2 ≤ (dblT d).length from Nat.not_le.2 q5)]
    exact res_imm H' (dblT d) hne
open Classical in
noncomputable def double42:List HV → Option HV:=rwF fun R=>if R.length ≤ 1000∧(R.all fun r=>decide (r.length ≤ 1000))=true then some (if okD R then .tuple [.own 1 ((dblT R).map hvI),.int .i64 0] else .tuple [.own 1 [],.int .i64 2]) else none
theorem res42:Try.f42.results.toList=[.tmp 2,.tmp 3]:=by kernel_rfl
theorem mk22 {n:Nat} (hn:n ≤ 100):makeV Tp true 22 (.int .i64 (n:Int)) (.int .i64 (n:Int)) []=some (.sl 0 0 n (some n) n 1,[.arr 1 ((List.range n).map fun j=>.sl (0+1+j) 0 0 none 0 1) true (0+1+n)] ++ List.replicate n (.arr 1 [] true 0)):=by
  have h1:Tp.underlying 22=some (.slice 23):=u22
  have h2:Tp.underlying 23=some (.slice 3):=u23
  have h3:tySize Tp 3=some 1:=by kernel_rfl
  have h4:(Tp.info? 23).map (fun i=>(i.size,i.bytes,nilZero i))=some (1,24,true):=by kernel_rfl
  simp only [makeV,h1,h2,h3]
  cases hi:Tp.info? 23 with
  | none=>rw [hi] at h4; cases h4
  | some i =>
    rw [hi] at h4
    simp only [Option.map_some,Option.some.injEq,Prod.mk.injEq] at h4
    simp only [h4.1,h4.2.1,h4.2.2]
    rw [if_pos ⟨by omega,by omega,by simp only [roomMax]; omega⟩]
    simp
theorem rw0 {n:Nat} (es:List Ed):sameH ([.arr 1 ((List.range n).map fun j=>.sl (0+1+j) 0 0 none 0 1) true (0+1+n)] ++ List.replicate n (.arr 1 [] true 0)) ([.arr 1 ((List.range n).map fun j=>.sl (0+1+j) 0 0 none 0 1) true (0+1+n)] ++ List.replicate n (.arr 1 [] true 0))=true:=by
  refine sameH_iff.2 fun B hB=>?_
  rcases List.mem_append.1 hB with h | h
  · rw [List.mem_singleton.1 h]
    refine same_arr fun v hv=>?_
    obtain ⟨j,_,rfl⟩:=List.mem_map.1 hv
    exact same_sl _ _ _ _
  · rw [List.eq_of_mem_replicate h]; rfl
section
variable {d:List (List Int)}
theorem tree11 (d:List (List Int)) (h:d.length ≤ 11):treeL d (List.replicate 11 0) 0=treeL d (zer d.length) 0:=by
  unfold treeL
  rw [edg_cong (f:=0) (Nat.zero_le _) fun a ha=>?_]
  rw [zer,List.getD,List.getD,List.getElem?_replicate,List.getElem?_replicate,if_pos ha,if_pos (by omega)]
theorem double_ok:PrimOk Tp 42 double42:=by
  refine primOk_pure (pol:=polDb) (fn:=Try.f42) (cd:=B42) follows_mixed soundDb (by kernel_rfl) (by kernel_rfl) (fnokDb _ _ (by kernel_rfl)) (by kernel_rfl) ?_
  intro args res h
  obtain ⟨d,rfl,hq⟩:=rwF_inv h
  clear h
  split at hq
  case isFalse=>cases hq
  rename_i hc
  cases hq
  have a:=dp_a_0 0 (d.map encR) []
  by_cases hd:okD d
  · rw [if_pos hd]
    have hdn:=hd.1
    have hpos:0 < d.length:=by omega
    have b:=dp_b_0 0 (d.map encR) [] (prim_miles (pol':=polDb) (by kernel_rfl) hc.1 hc.2 [] true (okB_true hd))
    -- the lists,empty
    have mk:=mk22 (n:=d.length) (by omega)
    obtain ⟨M0,hM0⟩:∃ M:Heap,M=[Blk.arr 1 ((List.range d.length).map fun j=>.sl (0+1+j) 0 0 none 0 1) true (0+1+d.length)] ++ List.replicate d.length (.arr 1 [] true 0):=⟨_,rfl⟩
    have hs0:=rw0 (n:=d.length) []
    rw [← hM0] at mk hs0
    have hl0:M0.length=d.length+1:=by rw [hM0]; simp
    have hr0:M0[0]?=some (Blk.arr 1 ((List.range d.length).map fun j=>.sl (0+1+j) 0 0 none 0 1) true (0+1+d.length)):=by rw [hM0]; rfl
    have hr1:∀ i:Nat,i < d.length → M0[0+1+i]?=some (bI []):=fun i hi=>by
      rw [hM0,List.getElem?_append_right (by simp)]
      rw [List.getElem?_replicate,if_pos (by simp; omega)]; rfl
    have st:=store_sl (H:=M0 ++ [Blk.arr 1 [HV.sl (M0.length+1) 0 0 none 0 1] true (M0.length+2),Blk.arr 1 [] true 0]) (t:=22) (b:=M0.length) (i:=0) (tot:=1) (k:=1) (mx:=M0.length+2) (els:=[HV.sl (M0.length+1) 0 0 none 0 1]) (old:=HV.sl (M0.length+1) 0 0 none 0 1) (v:=.sl 0 0 d.length (some d.length) d.length 1) (by simp) rfl rfl rfl (fun cs e=>by cases e) sz22 rfl rfl
    obtain ⟨M1,hM1⟩:∃ M:Heap,M=(M0 ++ [Blk.arr 1 [HV.sl (M0.length+1) 0 0 none 0 1] true (M0.length+2),Blk.arr 1 [] true 0]).set M0.length (Blk.arr 1 [.sl 0 0 d.length (some d.length) d.length 1] true (max (M0.length+2) (bnd (.sl 0 0 d.length (some d.length) d.length 1)))):=⟨_,rfl⟩
    have st':storeV Tp (M0 ++ [Blk.arr 1 [HV.sl (M0.length+1) 0 0 none 0 1] true (M0.length+2),Blk.arr 1 [] true 0]) 22 (.ptr M0.length 0 0 1) (.sl 0 0 d.length (some d.length) d.length 1)=some M1:=by rw [hM1]; exact st
    have hl1:M1.length=M0.length+2:=by rw [hM1]; simp
    have hnb:M1[M0.length]?=some (Blk.arr 1 [.sl 0 0 d.length (some d.length) d.length 1] true (max (M0.length+2) (bnd (.sl 0 0 d.length (some d.length) d.length 1)))):=by
      rw [hM1]; exact List.getElem?_set_self (by simp)
    have hlow:∀ b,b < M0.length → M1[b]?=M0[b]?:=fun b hb=>by rw [hM1,List.getElem?_set_ne (by omega),List.getElem?_append_left hb]
    have hs1:sameH M1 M1=true:=by
      rw [hM1]
      refine sameH_set ?_ (same_arr fun v hv=>by rw [List.mem_singleton.1 hv]; exact same_sl _ _ _ _)
      rw [show M0 ++ [Blk.arr 1 [HV.sl (M0.length+1) 0 0 none 0 1] true (M0.length+2),Blk.arr 1 [] true 0]=(M0 ++ [Blk.arr 1 [HV.sl (M0.length+1) 0 0 none 0 1] true (M0.length+2)]) ++ [Blk.arr 1 [] true 0] by simp]
      exact sameH_app (sameH_app hs0 (same_arr fun v hv=>by rw [List.mem_singleton.1 hv]; exact same_sl _ _ _ _)) rfl
    have c:=dp_c_0 0 (d.map encR) [] d.length M0.length 0 (by rw [List.length_map]; exact mk) rfl st'
    -- the tree
    have c61:=q61 (pol':=polDb) (by kernel_rfl) (d:=d) (ps:=List.replicate 11 0) (f:=0) hd (Nat.zero_le _) ⟨rfl,fun x hx=>by have:=List.eq_of_mem_replicate hx; omega⟩ M1 (arg_rw M1 d)
    rw [tree11 d (by omega)] at c61
    obtain ⟨es,hes⟩:∃ es,es=treeL d (zer d.length) 0:=⟨_,rfl⟩
    rw [← hes] at c61
    have hE:EP d.length es:=by rw [hes]; exact tree_EP _ _
    have hel:es.length ≤ 200:=by
      have h0:=edg_len (ps:=zer d.length) (f:=0) hd (by omega)
      have hlen:=krP_len (edg d (zer d.length) 0) (iota d.length)
      rw [hes,treeL]; omega
    have e4:=dp_d_0 0 (d.map encR) M1 M0.length M1.length es.length Ud c61
    have hR0:Rw M0.length 0 d.length M1.length es (fun _=>[]) (M1 ++ [bE encE es]):=by
      refine ⟨⟨_,by rw [List.getElem?_append_left (by omega)]; exact hnb⟩,⟨_,_,by rw [List.getElem?_append_left (by omega),hlow 0 (by omega)]; exact hr0,by simp,fun i hi=>by simp [hi]⟩,fun i hi=>by rw [List.getElem?_append_left (by omega),hlow _ (by omega)]; exact hr1 i hi,by simp,sameH_app hs1 ?_,by omega,by omega,fun i hi=>by omega⟩
      refine same_arr fun v hv=>?_
      obtain ⟨e,_,rfl⟩:=List.mem_map.1 hv
      simp [encE,same,sameL]
    obtain ⟨H',r,hR,hle⟩:=db_loop hE hel (by omega) (d.map encR) hR0
    rw [List.length_append,List.length_singleton] at hle
    -- the visit
    obtain ⟨mxn,hn1⟩:=hR.near
    have ln:=lt_some hn1
    have h2:∃ H2,storeV Tp (H' ++ [Blk.arr 1 [HV.sl (H'.length+1) 0 0 none 0 1] true (H'.length+2),Blk.arr 1 [] true 0] ++ [Blk.arr 1 [HV.nilFunc] true 0]) 92 (.ptr (H'.length+2) 0 0 1) (.func 62 [] [.ptr H'.length 0 0 1,.ptr M0.length 0 0 1,.ptr (H'.length+2) 0 0 1])=some H2∧H2=H' ++ [Blk.arr 1 [HV.sl (H'.length+1) 0 0 none 0 1] true (H'.length+2),Blk.arr 1 [] true 0] ++ [Blk.arr 1 [.func 62 [] [.ptr H'.length 0 0 1,.ptr M0.length 0 0 1,.ptr (H'.length+2) 0 0 1]] true (max 0 (bnd (.func 62 [] [.ptr H'.length 0 0 1,.ptr M0.length 0 0 1,.ptr (H'.length+2) 0 0 1])))]:=by
      refine ⟨_,store_sl (t:=92) (b:=H'.length+2) (i:=0) (tot:=1) (k:=1) (mx:=0) (els:=[.nilFunc]) (old:=.nilFunc) (v:=.func 62 [] [.ptr H'.length 0 0 1,.ptr M0.length 0 0 1,.ptr (H'.length+2) 0 0 1]) (by simp) rfl rfl rfl (fun cs e=>by cases e) (by kernel_rfl) rfl rfl,?_⟩
      rw [List.set_append_right _ _ (by simp)]; simp
    obtain ⟨H2,st2,hH2⟩:=h2
    have k2:∀ b,b < H'.length → H2[b]?=H'[b]?:=fun b hb=>by rw [hH2,List.append_assoc,List.getElem?_append_left hb]
    have hR2:H2[H'.length]?=some (Blk.arr 1 [HV.sl (H'.length+1) 0 0 none 0 1] true (H'.length+2)):=by rw [hH2]; simp
    have hR3:H2[H'.length+1]?=some (bI []):=by rw [hH2]; simp [bI]
    have hR4:H2[H'.length+2]?=some (Blk.arr 1 [.func 62 [] [.ptr H'.length 0 0 1,.ptr M0.length 0 0 1,.ptr (H'.length+2) 0 0 1]] true (max 0 (bnd (.func 62 [] [.ptr H'.length 0 0 1,.ptr M0.length 0 0 1,.ptr (H'.length+2) 0 0 1])))):=by rw [hH2]; simp
    have hT:To H'.length (H'.length+1) H2 []:=⟨⟨_,hR2⟩,hR3⟩
    have hN:Nr H'.length (H'.length+1) M0.length (H'.length+2) 0 d.length es H2:=by
      obtain ⟨rs,mx2,q2,q3,q4⟩:=hR.rows
      have l0:=lt_some q2
      refine ⟨⟨mxn,(k2 _ ln).trans hn1⟩,⟨rs,mx2,(k2 _ l0).trans q2,q3,q4⟩,fun i hi=>(k2 _ (lt_some (hR.row i hi))).trans (hR.row i hi),⟨_,hR4⟩,by omega,by omega,by omega,by omega,by omega,by omega,by omega,fun i hi=>?_⟩
      have:=lt_some (hR.row i hi)
      omega
    obtain ⟨H3,hv,hK,hT3⟩:=vis_call hE (by omega) d.length 0 [] H2 hN hT hpos (by simp) List.nodup_nil (fun v hv=>by cases hv) (by simp)
    obtain ⟨N,hv⟩:=CallsTo.from hv
    obtain ⟨⟨mx3,t1⟩,t2⟩:=hT3
    have ez:visP (nbL es d.length) d.length ((0:Nat):Int) []=dblT d:=by rw [visP_eq,hes]; rfl
    rw [ez] at t1 t2
    have z:=dp_f_0 N (d.map encR) H' M0.length H'.length (H'.length+2) _ (y17:=.sl M1.length 0 es.length none es.length 3) (y18:=.i (es.length:Int)) (y19:=.i (es.length:Int)) rfl (by simp [newV,cellsOf,bnd]) st2 (load_elem hR4 rfl rfl rfl (by kernel_rfl) (by kernel_rfl)) hv (load_elem t1 rfl rfl rfl ag23 un23)
    have t:=sq (a) (sq (b) (sq (c) (sq (sq (e4) (bke (c:=sn 61 B42) (r)) (c:=sn 30 B42)) (z) (c:=sn 15 B42)) (c:=sn 7 B42)) (c:=sn 3 B42)) (c:=B42)
    exact ⟨_,_,_,.tuple [.sl (H'.length+1) 0 (dblT d).length none (dblT d).length 1,.int .i64 0],t,by simp,by simp only [resultsV,res42]; rfl,toRes_li1 t2 rfl 0⟩
  · rw [if_neg hd]
    have b:=dp_b_1 0 (d.map encR) [] (prim_miles (pol':=polDb) (by kernel_rfl) hc.1 hc.2 [] false (okB_false hd))
    have t:=sq (a) (sqo (b) (c:=sn 3 B42) (b:=sn 7 B42)) (c:=B42)
    exact ⟨_,_,_,.tuple [.imm .lit 1 [],.int .i64 2],t,by simp,by simp only [resultsV,res42]; rfl,rfl⟩
end
end Go.Proofs.Ytlendaofkmhgmaa
end
section
open Go Go.HL
namespace Go.Proofs.Ytlendaofkmhgmaa
set_option maxRecDepth 100000
set_option linter.unusedSectionVars false
open Go.Proofs.Try renaming prog → Tp
open Go.HL.HV renaming undef → Ud
noncomputable def B43:Code:=Try.f43.body.getD .skip
abbrev env43 (v0 v2 v3 v4 v5 v6 v7 v8:HV):Env:=[(0,v0),(2,v2),(3,v3),(4,v4),(5,v5),(6,v6),(7,v7),(8,v8)]
abbrev e43 (rw:List HV) (n:Nat) (u4 u5 u6 u7:HV):Env:=env43 (.a rw) (.imm .lit 1 []) (.n n) (.o 0 n) u4 u5 u6 u7
section
variable (rw:List HV)
include rw
theorem rn_a_0:RT polW 43 (sn 2 B43) [(0,.a rw)] [] .normal (env43 (.a rw) (.imm .lit 1 []) Ud Ud Ud Ud Ud Ud) [] :=
  hx 0 60 []
end
section
variable (rw:List HV)
include rw
theorem rn_b_0 (y3 y4 y5 y6 y7 y8:HV:=Ud): RT polW 43 (sn 6 B43) (env43 (.a rw) (.imm .lit 1 []) y3 y4 y5 y6 y7 y8) [] .normal (env43 (.a rw) (.imm .lit 1 []) (.i (rw.length:Int)) y4 y5 y6 y7 y8) [] :=
  hx 0 60 []
theorem rn_c_0 (n:Nat) (g0:makeV Tp false 79 (.n n) (.n n) []=some (.o 0 n,[.arr 1 (List.replicate n (.bool false)) true 0])) (y4 y5 y6 y7 y8:HV:=Ud): RT polW 43 (sn 14 B43) (env43 (.a rw) (.imm .lit 1 []) (.n n) y4 y5 y6 y7 y8) [] .normal (e43 rw n y5 y6 y7 y8) [.arr 1 (List.replicate n (.bool false)) true 0] :=
  hx 0 60 [jR 2 1 g0]
theorem rn_d_0 (n:Nat) (ts:List HV) {el0:List HV} (g0:IX 79 (.o 0 n) (.i 0) (.ptr 0 0 0 n)) (g1:ST [.b ts] 4 (.ptr 0 0 0 n) (.bool true) [.b el0]) (y5 y6 y7 y8:HV:=Ud): RT polW 43 (sn 30 B43) (e43 rw n y5 y6 y7 y8) [.b ts] .normal (e43 rw n y5 y6 y7 y8) [.b el0] :=
  hx 0 60 [jO 3 1 [.b ts] g0,jS 3 2 g1]
theorem rn_e_0 (n:Nat) (ts:List HV) (y5 y6 y7 y8:HV:=Ud): RT polW 43 (sn 62 B43) (e43 rw n y5 y6 y7 y8) [.b ts] .normal (e43 rw n (.o 1 1) y6 y7 y8) [.b ts,.arr 1 [.i 0] true 0] :=
  hx 0 60 []
theorem rn_f_0 (n:Nat) (H:Heap) (tv:HV) {n0:Int} (g0:lenV Tp H 23 tv=some (.i n0)) (g1:n0 < (n:Int)) (y6 y7 y8:HV:=Ud): RT polW 43 (sn 1008 B43) (e43 rw n tv y6 y7 y8) H .normal (e43 rw n tv y6 y7 y8) H :=
  hx 0 60 [jO 5 1 H g0,jT 5 3 H g1]
theorem rn_f_1 (n:Nat) (H:Heap) (tv:HV) {n0:Int} (g0:lenV Tp H 23 tv=some (.i n0)) (g1:¬ (n0 < (n:Int))) (y6 y7 y8:HV:=Ud): RT polW 43 (sn 1008 B43) (e43 rw n tv y6 y7 y8) H (.exit 0) (e43 rw n tv y6 y7 y8) H :=
  hx 0 60 [jO 5 1 H g0,jF 5 3 H g1]
theorem rn_g_0 (n:Nat) (H:Heap) (tv:HV) (a:Nat) {n0:Int} {a0:HV} (g0:lenV Tp H 23 tv=some (.i n0)) (g1:IX 23 tv (.i (IntKind.i64.wrap (n0 - 1))) (a0)) (g2:LD H 3 (a0) (.n a)) (y6 y7 y8:HV:=Ud): RT polW 43 (sn 4036 B43) (e43 rw n tv y6 y7 y8) H .normal (e43 rw n tv (.n a) y7 y8) H :=
  hx 0 60 [jO 6 2 H g0,jO 6 4 H g1,jO 6 5 H g2]
theorem rn_h_0 (n:Nat) (H:Heap) (tv:HV) (a:Nat) (y7 y8:HV:=Ud): RT polW 43 (sn 8074 B43) (e43 rw n tv (.n a) y7 y8) H .normal (e43 rw n tv (.n a) (.i (-1)) y8) H :=
  hx 0 60 []
theorem rn_i_0 (n:Nat) (H:Heap) (tv:HV) (a:Nat) (b:Int) (y8:HV:=Ud): RT polW 43 (sn 32300 B43) (e43 rw n tv (.n a) (.i b) y8) H .normal (e43 rw n tv (.n a) (.i b) (.i 0)) H :=
  hx 0 60 []
theorem rn_j_0 (n:Nat) (H:Heap) (tv:HV) (a:Nat) (b:Int) (i:Nat) (g0:(i:Int) < (n:Int)) (g1:IO 79 0 n i) (g2:LD H 4 (.ptr 0 i 0 n) (.bool true)): RT polW 43 (sn 129204 B43) (e43 rw n tv (.n a) (.i b) (.n i)) H .normal (e43 rw n tv (.n a) (.i b) (.i (IntKind.i64.wrap ((i:Int)+1)))) H :=
  hx 0 60 [jT 9 2 H g0,jO 11 2 H g1,jO 11 3 H g2]
theorem rn_j_1 (n:Nat) (H:Heap) (tv:HV) (a:Nat) (b:Int) (i:Nat) (g0:(i:Int) < (n:Int)) (g1:IO 79 0 n i) (g2:LD H 4 (.ptr 0 i 0 n) (.bool false)) (g3:b < 0): RT polW 43 (sn 129204 B43) (e43 rw n tv (.n a) (.i b) (.n i)) H .normal (e43 rw n tv (.n a) (.n i) (.i (IntKind.i64.wrap ((i:Int)+1)))) H :=
  hx 0 60 [jT 9 2 H g0,jO 11 2 H g1,jO 11 3 H g2,jT 11 7 H g3]
theorem rn_j_2 (n:Nat) (H:Heap) (tv:HV) (a:Nat) (b:Int) (i:Nat) {l0:List HV} {x0:Int} {l1:List HV} {x1:Int} (g0:(i:Int) < (n:Int)) (g1:IO 79 0 n i) (g2:LD H 4 (.ptr 0 i 0 n) (.bool false)) (g3:¬ (b < 0)) (g4:IX 22 (.a rw) (.n a) (.vptr (.a l0))) (g5:IX 23 (.a l0) (.n i) (.vptr (.i x0))) (g6:IX 22 (.a rw) (.n a) (.vptr (.a l1))) (g7:IX 23 (.a l1) (.i b) (.vptr (.i x1))) (g8:x0 < x1): RT polW 43 (sn 129204 B43) (e43 rw n tv (.n a) (.i b) (.n i)) H .normal (e43 rw n tv (.n a) (.n i) (.i (IntKind.i64.wrap ((i:Int)+1)))) H :=
  hx 0 60 [jT 9 2 H g0,jO 11 2 H g1,jO 11 3 H g2,jF 11 7 H g3,jO 11 11 H g4,jO 11 14 H g5,jO 11 18 H g6,jO 11 21 H g7,jT 11 23 H g8]
theorem rn_j_3 (n:Nat) (H:Heap) (tv:HV) (a:Nat) (b:Int) (i:Nat) {l0:List HV} {x0:Int} {l1:List HV} {x1:Int} (g0:(i:Int) < (n:Int)) (g1:IO 79 0 n i) (g2:LD H 4 (.ptr 0 i 0 n) (.bool false)) (g3:¬ (b < 0)) (g4:IX 22 (.a rw) (.n a) (.vptr (.a l0))) (g5:IX 23 (.a l0) (.n i) (.vptr (.i x0))) (g6:IX 22 (.a rw) (.n a) (.vptr (.a l1))) (g7:IX 23 (.a l1) (.i b) (.vptr (.i x1))) (g8:¬ (x0 < x1)): RT polW 43 (sn 129204 B43) (e43 rw n tv (.n a) (.i b) (.n i)) H .normal (e43 rw n tv (.n a) (.i b) (.i (IntKind.i64.wrap ((i:Int)+1)))) H :=
  hx 0 60 [jT 9 2 H g0,jO 11 2 H g1,jO 11 3 H g2,jF 11 7 H g3,jO 11 11 H g4,jO 11 14 H g5,jO 11 18 H g6,jO 11 21 H g7,jF 11 23 H g8]
theorem rn_j_4 (n:Nat) (H:Heap) (tv:HV) (a:Nat) (b:Int) (i:Nat) (g0:¬ ((i:Int) < (n:Int))): RT polW 43 (sn 129204 B43) (e43 rw n tv (.n a) (.i b) (.n i)) H (.exit 2) (e43 rw n tv (.n a) (.i b) (.n i)) H :=
  hx 0 60 [jF 9 2 H g0]
theorem rn_k_0 (n:Nat) (H:Heap) (tv:HV) (a:Nat) (b:Nat) (tw:HV) {H0:Heap} {H1:Heap} (g0:IO 79 0 n b) (g1:ST H 4 (.ptr 0 b 0 n) (.bool true) H0) (g2:appV H0 1 8 (tv) [.n b]=some (tw,H1)) (y8:HV:=Ud): RT polW 43 (sn 16151 B43) (e43 rw n tv (.n a) (.n b) y8) H .normal (e43 rw n tw (.n a) (.n b) y8) H1 :=
  hx 0 60 [jO 13 2 H g0,jS 13 3 g1,jR 14 3 g2]
theorem rn_l_0 (n:Nat) (H:Heap) (tv:HV) (y6 y7 y8:HV:=Ud): RT polW 43 (sn 127 B43) (e43 rw n tv y6 y7 y8) H .ret (env43 (.a rw) tv (.n n) (.o 0 n) tv y6 y7 y8) H :=
  hx 0 60 []
end
end Go.Proofs.Ytlendaofkmhgmaa
end
section
open Go Go.HL
namespace Go.Proofs.Ytlendaofkmhgmaa
set_option linter.unusedSectionVars false
open Go.Proofs.Try renaming prog → Tp
open Go.HL.HV renaming undef → Ud
theorem res43:Try.f43.results.toList=[.tmp 2]:=by kernel_rfl
abbrev bBl (l:List Bool):Blk:=.arr 1 (l.map HV.bool) true 0
theorem OG.set0 {B B':Blk} {o:List Int} {tv:HV} {H:Heap} (h:OG [B] o tv H):OG [B'] o tv (H.set 0 B'):=by
  rcases h with ⟨h1,h2,h3⟩ | ⟨h1,h3⟩
  · exact .inl ⟨h1,h2,by rw [h3]; rfl⟩
  · exact .inr ⟨h1,by rw [h3]; rfl⟩
theorem OG.at0 {B:Blk} {o:List Int} {tv:HV} {H:Heap} (h:OG [B] o tv H):H[0]?=some B:=by
  rcases h with ⟨_,_,h3⟩ | ⟨_,h3⟩ <;> rw [h3] <;> rfl
def TB (n:Nat) (o:List Int) (bs:List Bool):Prop:=bs.length=n∧∀ i,i < n → bs.getD i false=decide ((i:Int) ∈ o)
theorem TB.put {n:Nat} {o:List Int} {bs:List Bool} (h:TB n o bs) {v:Nat} (hv:v < n):TB n (o ++ [(v:Int)]) (bs.set v true):=by
  refine ⟨by simp [h.1],fun i hi=>?_⟩
  have e:(bs.set v true).getD i false=if v=i then true else bs.getD i false:=by
    simp only [List.getD,List.getElem?_set]
    split
    · rename_i e; subst e; rw [if_pos (by rw [h.1]; exact hv)]; rfl
    · rfl
  rw [e]
  by_cases c:v=i
  · subst c; simp
  · rw [if_neg c,h.2 i hi]
    have:¬ ((i:Int)=(v:Int)):=by omega
    simp [this]
section
variable {d:List (List Int)}
abbrev rnE (d:List (List Int)) (tv v6 v7 v8:HV):Env:=(env43 (.a (d.map encR)) (.imm .lit 1 []) (.i (d.length:Int)) (.o 0 d.length) tv v6 v7 v8)
theorem rn_in (hd:okD d) {bs:List Bool} {o:List Int} {tv:HV} {H:Heap} (hT:TB d.length o bs) (h0:H[0]?=some (bBl bs)) {a:Nat} (ha:a < d.length):∀ k i (b:Int),i+k=d.length → (b < 0 ∨ (0 ≤ b∧b < d.length)) →
    ∃ y8,RT polW 43 (sn 64602 B43) (rnE d tv (.int .i64 (a:Int)) (.int .i64 b) (.int .i64 (i:Int))) H (.exit 2)
      (rnE d tv (.int .i64 (a:Int)) (.int .i64 (nxt d o a k i b)) y8) H:=by
  have hdn:=hd.1
  intro k
  induction k with
  | zero =>
    intro i b hi _
    exact ⟨_,lpo ((rn_j_4 (d.map encR) d.length H tv a b i (by omega)))⟩
  | succ k ih =>
    intro i b hi hb
    rw [nxt]
    have hg:=b_get (H:=H) (b:=0) (y:=i) h0 (by rw [hT.1]; omega)
    rw [hT.1,hT.2 i (by omega)] at hg
    by_cases c:(i:Int) ∈ o
    · rw [decide_eq_true c] at hg
      have s:=rn_j_0 (d.map encR) d.length H tv a b i (by omega) (b_idx (by omega)) hg
      rw [wrap_succ (by omega)] at s
      obtain ⟨y8,r⟩:=ih (i+1) b (by omega) hb
      rw [if_pos c]
      exact ⟨y8,lop (s) (gc_eq _ rfl) (r)⟩
    · rw [decide_eq_false c] at hg
      rw [if_neg c]
      by_cases c2:b < 0
      · have s:=rn_j_1 (d.map encR) d.length H tv a b i (by omega) (b_idx (by omega)) hg c2
        rw [wrap_succ (by omega)] at s
        obtain ⟨y8,r⟩:=ih (i+1) i (by omega) (.inr (by omega))
        rw [if_pos c2]
        exact ⟨y8,lop (s) (gc_eq _ rfl) (r)⟩
      · have hb':=hb.resolve_left c2
        rw [if_neg c2]
        have g2:=g23 hd ha (u:=b.toNat) (by omega)
        rw [Int.toNat_of_nonneg hb'.1] at g2
        by_cases c3:at2 d a i < at2 d a b.toNat
        · have s:=rn_j_2 (d.map encR) d.length H tv a b i (by omega) (b_idx (by omega)) hg c2 (g22 ha) (g23 hd ha (u:=i) (by omega)) (g22 ha) g2 c3
          rw [wrap_succ (by omega)] at s
          obtain ⟨y8,r⟩:=ih (i+1) i (by omega) (.inr (by omega))
          rw [if_pos c3]
          exact ⟨y8,lop (s) (gc_eq _ rfl) (r)⟩
        · have s:=rn_j_3 (d.map encR) d.length H tv a b i (by omega) (b_idx (by omega)) hg c2 (g22 ha) (g23 hd ha (u:=i) (by omega)) (g22 ha) g2 c3
          rw [wrap_succ (by omega)] at s
          obtain ⟨y8,r⟩:=ih (i+1) b (by omega) hb
          rw [if_neg c3]
          exact ⟨y8,lop (s) (gc_eq _ rfl) (r)⟩
theorem rn_out (hd:okD d):∀ k (a:Nat) (o:List Int) (bs:List Bool) (tv:HV) (H:Heap),o.length+k=d.length → 1 ≤ o.length → a < d.length → o.getD (o.length - 1) 0=(a:Int) → TB d.length o bs → OG [bBl bs] o tv H →
    ∃ tb cap H' y6 y7 y8,RT polW 43 (sn 252 B43) (rnE d tv Ud Ud Ud) H (.exit 0)
      (rnE d (.sl tb 0 (nearG d k a o).length cap (nearG d k a o).length 1) y6 y7 y8) H'∧H'[tb]?=some (bI (nearG d k a o)):=by
  have hdn:=hd.1
  intro k
  induction k with
  | zero =>
    intro a o bs tv H hk h1 ha hla hT hO
    have s:=rn_f_1 (d.map encR) d.length H tv hO.len (by omega)
    obtain ⟨b,cap,e1,e2,_⟩:=hO.get
    subst e1
    exact ⟨b,cap,H,_,_,_,lpo (sqo (s) (c:=sn 504 B43) (b:=sn 1009 B43)),e2⟩
  | succ k ih =>
    intro a o bs tv H hk h1 ha hla hT hO
    have s1:=rn_f_0 (d.map encR) d.length H tv hO.len (by omega)
    obtain ⟨b,i1,i2⟩:=hO.last h1 (by omega)
    rw [hla] at i2
    have s2:=rn_g_0 (d.map encR) d.length H tv a hO.len i1 i2
    have s3:=rn_h_0 (d.map encR) d.length H tv a
    have s3b:=rn_i_0 (d.map encR) d.length H tv a (-1)
    obtain ⟨y8,r0⟩:=rn_in hd (tv:=tv) hT hO.at0 ha d.length 0 (-1) (by omega) (.inl (by omega))
    obtain ⟨p1,p2,p3⟩:=nxt_ok (d:=d) (o:=o) (a:=a) (by omega)
    rw [nearG]
    generalize nxt d o a d.length 0 (-1)=v at *
    obtain ⟨w,rfl⟩:∃ w:Nat,v=(w:Int):=⟨v.toNat,by omega⟩
    rw [Int.toNat_natCast]
    have hst:=b_set (H:=H) (b:=0) (y:=w) hO.at0 (by rw [hT.1]; omega) true
    rw [hT.1] at hst
    have hO2:OG [bBl (bs.set w true)] o tv (H.set 0 (bBl (bs.set w true))):=hO.set0
    obtain ⟨H',ap,hH'⟩:=hO2.app (by omega) (w:Int)
    have s4:=rn_k_0 (d.map encR) d.length H tv a w _ (y8:=y8) (b_idx (by omega)) hst ap
    have hO':OG [bBl (bs.set w true)] (o ++ [(w:Int)]) (.sl (([bBl (bs.set w true)]:Heap).length+1) 0 (o.length+1) none (o.length+1) 1) H':=.inr ⟨by simp,hH'⟩
    obtain ⟨tb,cap,Hz,z6,z7,z8,r,hr⟩:=ih w (o ++ [(w:Int)]) (bs.set w true) _ H' (by simp; omega) (by simp) (by omega) (by rw [List.length_append,List.length_singleton,Nat.add_sub_cancel,List.getD,List.getElem?_append_right (Nat.le_refl _),Nat.sub_self]; rfl) (hT.put (by omega)) hO'
    have hg:gc H.length (bndE (rnE d (.sl (([bBl (bs.set w true)]:Heap).length+1) 0 (o.length+1) none (o.length+1) 1) Ud Ud Ud)) H'=H':=gc_ln (by
      rw [hH']
      simp only [bndE,bnd,List.length_cons,List.length_nil,List.length_append]
      omega)
    exact ⟨tb,cap,Hz,z6,z7,z8,lop (sq (s1) (RunsTo.block_normal (i:=1) (c:=sn 1009 B43) (sq (s2) (sq (s3) (sq (sq (s3b) (bke (c:=sn 32301 B43) (lpi (e0:=(rnE d tv (.int .i64 (a:Int)) (.int .i64 (-1)) (.int .i64 ((0:Nat):Int)))) r0 (b:=sn 129204 B43))) (c:=sn 16150 B43)) (s4) (c:=sn 8075 B43)) (c:=sn 4037 B43)) (c:=sn 2018 B43)) (by kernel_rfl)) (c:=sn 504 B43)) hg (r),hr⟩
end
theorem rnear_ok:PrimOk Tp 43 near43:=by
  refine primOk_pure (pol:=polW) (fn:=Try.f43) (cd:=B43) follows_mixed soundW (by kernel_rfl) (by kernel_rfl) (fnok polW.prim _ _ (by kernel_rfl)) (by kernel_rfl) ?_
  intro args res h
  obtain ⟨d,rfl,hq⟩:=rwF_inv h
  clear h
  split at hq
  case isFalse=>cases hq
  rename_i hd
  cases hq
  have hdn:=hd.1
  have a:=rn_a_0 (d.map encR)
  have b:=rn_b_0 (d.map encR)
  rw [List.length_map] at b
  have mk:=makeV_ok (P:=Tp) (H:=[]) (t:=79) (e:=4) (k:=1) (bt:=1) (zv:=.bool false) (n:=(d.length:Int)) u79 (by kernel_rfl) (by simp [cellsOf,cellV]) (by simp [cellsOf]) (by omega) (by omega) (by simp only [roomMax]; omega)
  rw [Int.toNat_natCast] at mk
  have hrep:List.replicate d.length (HV.bool false)=(List.replicate d.length false).map HV.bool:=by simp
  have c:=rn_c_0 (d.map encR) d.length mk
  rw [hrep] at c
  have hst:=b_set (o:=List.replicate d.length false) (H:=[bBl (List.replicate d.length false)]) (b:=0) (y:=0) rfl (by simp; omega) true
  rw [List.length_replicate] at hst
  have dd:=rn_d_0 (d.map encR) d.length ((List.replicate d.length false).map HV.bool) (b_idx (x:=0) (by omega)) hst
  have e:=rn_e_0 (d.map encR) d.length (((List.replicate d.length false).set 0 true).map HV.bool)
  have hT:TB d.length [0] ((List.replicate d.length false).set 0 true):=by
    refine ⟨by simp,fun i hi=>?_⟩
    simp only [List.getD,List.getElem?_set,List.length_replicate,List.getElem?_replicate]
    by_cases c:0=i
    · subst c; simp [hi]
    · rw [if_neg c,if_pos hi]
      simp
      omega
  obtain ⟨tb,cap,H',y6,y7,y8,r,hr⟩:=rn_out hd (d.length - 1) 0 [0] _ (.sl 1 0 1 (some 1) 1 1) [bBl ((List.replicate d.length false).set 0 true),bI [0]] (by simp; omega) (by simp) (by omega) rfl hT (.inl ⟨rfl,rfl,rfl⟩)
  rw [show nearG d (d.length - 1) 0 [0]=nearT d from rfl] at r hr
  have l:=rn_l_0 (d.map encR) d.length H' (.sl tb 0 (nearT d).length cap (nearT d).length 1) (y6:=y6) (y7:=y7) (y8:=y8)
  have t:=sq (a) (sq (b) (sq (c) (sq (dd) (sq (e) (sq (bke (c:=sn 126 B43) (r)) (l) (c:=sn 63 B43)) (c:=sn 31 B43)) (c:=sn 15 B43)) (c:=sn 7 B43)) (c:=sn 3 B43)) (c:=B43)
  exact ⟨_,_,_,.sl tb 0 (nearT d).length cap (nearT d).length 1,t,by simp,by simp only [resultsV,res43]; rfl,res_lic hr rfl⟩
noncomputable def polLb13:Pol:={ pol with prim:=fun g=>if g == 20 then some awakeF else if g == 15 then some table15 else if g == 29 then some best29 else if g == 41 then some near41 else if g == 42 then some double42 else if g == 18 then some miles46 else if g == 40 then some best40 else if g == 26 then some ints26 else if g == 37 then some len56 else if g == 43 then some near43 else if g == 44 then some rdouble44 else none }
theorem soundLb13 (n:Nat):CallSound Tp (callN Tp polLb13 n):=sound_prim _ (fun g f h=>by
  split at h
  · rename_i hg; cases h; rw [eq_of_beq hg]; exact awake_prim
  split at h
  · rename_i hg; cases h; rw [eq_of_beq hg]; exact table_ok
  split at h
  · rename_i hg; cases h; rw [eq_of_beq hg]; exact best_ok
  split at h
  · rename_i hg; cases h; rw [eq_of_beq hg]; exact near_ok
  split at h
  · rename_i hg; cases h; rw [eq_of_beq hg]; exact double_ok
  split at h
  · rename_i hg; cases h; rw [eq_of_beq hg]; exact dist_ok
  split at h
  · rename_i hg; cases h; rw [eq_of_beq hg]; exact rbest_ok
  split at h
  · rename_i hg; cases h; rw [eq_of_beq hg]; exact ints_ok
  split at h
  · rename_i hg; cases h; rw [eq_of_beq hg]; exact rlen_ok
  split at h
  · rename_i hg; cases h; rw [eq_of_beq hg]; exact rnear_ok
  split at h
  · rename_i hg; cases h; rw [eq_of_beq hg]; exact rdouble_ok
  · cases h) n
end Go.Proofs.Ytlendaofkmhgmaa
end
section
open Go Go.HL
namespace Go.Proofs.Ytlendaofkmhgmaa
set_option maxRecDepth 100000
set_option linter.unusedSectionVars false
open Go.Proofs.Try renaming prog → Tp
open Go.HL.HV renaming undef → Ud
noncomputable def B13:Code:=Try.f13.body.getD .skip
abbrev env13 (v0 v2 v3 v4 v5 v6 v7 v8 v9 v10 v11:HV):Env:=[(0,v0),(2,v2),(3,v3),(4,v4),(5,v5),(6,v6),(7,v7),(8,v8),(9,v9),(10,v10),(11,v11)]
abbrev e13 (rw:List HV) (n:Nat) (u3 u4 u5 u6 u7 u8 u9 u10:HV):Env:=env13 (.a rw) (.bool false) (.s 0 n) u3 u4 u5 u6 u7 u8 u9 u10
section
variable (N:Nat) (rw:List HV)
include N rw
theorem lbt_a_0:RT polLb13 13 (sn 2 B13) [(0,.a rw)] [] .normal (env13 (.a rw) (.bool false) Ud Ud Ud Ud Ud Ud Ud Ud Ud) [] :=
  hx N 60 []
end
section
variable (N:Nat) (rw:List HV)
include N rw
theorem lbt_b_0 (n:Nat) (xs:List HV) (g0:∀ kf,callN Tp polLb13 (kf+1) 15 [.a rw] []=some (.s 0 n,[.b xs])): RT polLb13 13 (sn 6 B13) (env13 (.a rw) (.bool false) Ud Ud Ud Ud Ud Ud Ud Ud Ud) [] .normal (e13 rw n Ud Ud Ud Ud Ud Ud Ud Ud) [.b xs] :=
  hx N 60 [jD 1 1 g0]
theorem lbt_c_0 (n:Nat) (xs:List HV) (q:Nat) (a:Int) (e:Int) (os:List HV) (g0:∀ kf,callN Tp polLb13 (kf+1) 29 [.s 0 n] [.b xs]=some (.tuple [.s 1 q,.i a,.i e],[.b xs,.b os])): RT polLb13 13 (sn 14 B13) (e13 rw n Ud Ud Ud Ud Ud Ud Ud Ud) [.b xs] .normal (e13 rw n (.s 1 q) (.i a) (.i e) Ud Ud Ud Ud Ud) [.b xs,.b os] :=
  hx N 60 [jD 2 1 g0]
theorem lbt_d_0 (n:Nat) (xs:List HV) (q:Nat) (a e:Int) (os:List HV) (w:Nat) (c:Int) (ws:List HV) (g0:∀ kf,callN Tp polLb13 (kf+1) 41 [.s 0 n] [.b xs,.b os]=some (.tuple [.s 2 w,.i c],[.b xs,.b os,.b ws])): RT polLb13 13 (sn 30 B13) (e13 rw n (.s 1 q) (.i a) (.i e) Ud Ud Ud Ud Ud) [.b xs,.b os] .normal (e13 rw n (.s 1 q) (.i a) (.i e) (.s 2 w) (.i c) Ud Ud Ud) [.b xs,.b os,.b ws] :=
  hx N 60 [jD 3 1 g0]
theorem lbt_e_0 (n:Nat) (xs:List HV) (q:Nat) (a e:Int) (os:List HV) (w:Nat) (c:Int) (ws:List HV) (u:Nat) (f:Int) (us:List HV) (g0:∀ kf,callN Tp polLb13 (kf+1) 42 [.s 0 n] [.b xs,.b os,.b ws]=some (.tuple [.s 3 u,.i f],[.b xs,.b os,.b ws,.b us])): RT polLb13 13 (sn 62 B13) (e13 rw n (.s 1 q) (.i a) (.i e) (.s 2 w) (.i c) Ud Ud Ud) [.b xs,.b os,.b ws] .normal (e13 rw n (.s 1 q) (.i a) (.i e) (.s 2 w) (.i c) (.s 3 u) (.i f) Ud) [.b xs,.b os,.b ws,.b us] :=
  hx N 60 [jD 4 1 g0]
theorem lbt_f_0 (n:Nat) (xs:List HV) (q:Nat) (a e:Int) (os:List HV) (w:Nat) (c:Int) (ws:List HV) (u:Nat) (f:Int) (us:List HV) (bk:Nat) (bs:List HV) (ln:Int) (nk:Nat) (ns:List HV) (zk:Nat) (zs:List HV) (g0:∀ kf,callN Tp polLb13 (kf+1) 18 [.s 0 n] [.b xs,.b os,.b ws,.b us]=some (.bool true,[.b xs,.b os,.b ws,.b us])) (g1:∀ kf,callN Tp polLb13 (kf+1) 40 [.s 0 n] [.b xs,.b os,.b ws,.b us]=some (.s 4 bk,[.b xs,.b os,.b ws,.b us,.b bs])) (g2:∀ kf,callN Tp polLb13 (kf+1) 26 [.s 1 q,.s 4 bk] [.b xs,.b os,.b ws,.b us,.b bs]=some (.bool true,[.b xs,.b os,.b ws,.b us,.b bs])) (g3:∀ kf,callN Tp polLb13 (kf+1) 37 [.s 0 n,.s 4 bk] [.b xs,.b os,.b ws,.b us,.b bs]=some (.i ln,[.b xs,.b os,.b ws,.b us,.b bs])) (g4:a=ln) (g5:e=0) (g6:∀ kf,callN Tp polLb13 (kf+1) 43 [.s 0 n] [.b xs,.b os,.b ws,.b us,.b bs]=some (.s 5 nk,[.b xs,.b os,.b ws,.b us,.b bs,.b ns])) (g7:∀ kf,callN Tp polLb13 (kf+1) 26 [.s 2 w,.s 5 nk] [.b xs,.b os,.b ws,.b us,.b bs,.b ns]=some (.bool true,[.b xs,.b os,.b ws,.b us,.b bs,.b ns])) (g8:c=0) (g9:∀ kf,callN Tp polLb13 (kf+1) 44 [.s 0 n] [.b xs,.b os,.b ws,.b us,.b bs,.b ns]=some (.s 6 zk,[.b xs,.b os,.b ws,.b us,.b bs,.b ns,.b zs])) (g10:∀ kf,callN Tp polLb13 (kf+1) 26 [.s 3 u,.s 6 zk] [.b xs,.b os,.b ws,.b us,.b bs,.b ns,.b zs]=some (.bool true,[.b xs,.b os,.b ws,.b us,.b bs,.b ns,.b zs])) (g11:f=0): RT polLb13 13 (sn 63 B13) (e13 rw n (.s 1 q) (.i a) (.i e) (.s 2 w) (.i c) (.s 3 u) (.i f) Ud) [.b xs,.b os,.b ws,.b us] .ret (env13 (.a rw) (.bool true) (.s 0 n) (.s 1 q) (.i a) (.i e) (.s 2 w) (.i c) (.s 3 u) (.i f) (.s 4 bk)) [.b xs,.b os,.b ws,.b us,.b bs,.b ns,.b zs] :=
  hx N 60 [jD 5 1 g0,jD 7 1 g1,jD 8 2 g2,jD 8 7 g3,jT 8 8 [.b xs,.b os,.b ws,.b us,.b bs] g4,jT 8 12 [.b xs,.b os,.b ws,.b us,.b bs] g5,jD 8 17 g6,jD 8 18 g7,jT 8 22 [.b xs,.b os,.b ws,.b us,.b bs,.b ns] g8,jD 8 27 g9,jD 8 28 g10,jT 8 32 [.b xs,.b os,.b ws,.b us,.b bs,.b ns,.b zs] g11]
theorem lbt_f_3 (n:Nat) (xs:List HV) (q:Nat) (a e:Int) (os:List HV) (w:Nat) (c:Int) (ws:List HV) (u:Nat) (f:Int) (us:List HV) (bk:Nat) (bs:List HV) (ln:Int) (nk:Nat) (ns:List HV) (zs:List HV) (g0:∀ kf,callN Tp polLb13 (kf+1) 18 [.s 0 n] [.b xs,.b os,.b ws,.b us]=some (.bool true,[.b xs,.b os,.b ws,.b us])) (g1:∀ kf,callN Tp polLb13 (kf+1) 40 [.s 0 n] [.b xs,.b os,.b ws,.b us]=some (.s 4 bk,[.b xs,.b os,.b ws,.b us,.b bs])) (g2:∀ kf,callN Tp polLb13 (kf+1) 26 [.s 1 q,.s 4 bk] [.b xs,.b os,.b ws,.b us,.b bs]=some (.bool true,[.b xs,.b os,.b ws,.b us,.b bs])) (g3:∀ kf,callN Tp polLb13 (kf+1) 37 [.s 0 n,.s 4 bk] [.b xs,.b os,.b ws,.b us,.b bs]=some (.i ln,[.b xs,.b os,.b ws,.b us,.b bs])) (g4:a=ln) (g5:e=0) (g6:∀ kf,callN Tp polLb13 (kf+1) 43 [.s 0 n] [.b xs,.b os,.b ws,.b us,.b bs]=some (.s 5 nk,[.b xs,.b os,.b ws,.b us,.b bs,.b ns])) (g7:∀ kf,callN Tp polLb13 (kf+1) 26 [.s 2 w,.s 5 nk] [.b xs,.b os,.b ws,.b us,.b bs,.b ns]=some (.bool true,[.b xs,.b os,.b ws,.b us,.b bs,.b ns])) (g8:c=0) (g9:∀ kf,callN Tp polLb13 (kf+1) 44 [.s 0 n] [.b xs,.b os,.b ws,.b us,.b bs,.b ns]=some (.imm .lit 1 zs,[.b xs,.b os,.b ws,.b us,.b bs,.b ns])) (g10:∀ kf,callN Tp polLb13 (kf+1) 26 [.s 3 u,.imm .lit 1 zs] [.b xs,.b os,.b ws,.b us,.b bs,.b ns]=some (.bool true,[.b xs,.b os,.b ws,.b us,.b bs,.b ns])) (g11:f=0): RT polLb13 13 (sn 63 B13) (e13 rw n (.s 1 q) (.i a) (.i e) (.s 2 w) (.i c) (.s 3 u) (.i f) Ud) [.b xs,.b os,.b ws,.b us] .ret (env13 (.a rw) (.bool true) (.s 0 n) (.s 1 q) (.i a) (.i e) (.s 2 w) (.i c) (.s 3 u) (.i f) (.s 4 bk)) [.b xs,.b os,.b ws,.b us,.b bs,.b ns] :=
  hx N 60 [jD 5 1 g0,jD 7 1 g1,jD 8 2 g2,jD 8 7 g3,jT 8 8 [.b xs,.b os,.b ws,.b us,.b bs] g4,jT 8 12 [.b xs,.b os,.b ws,.b us,.b bs] g5,jD 8 17 g6,jD 8 18 g7,jT 8 22 [.b xs,.b os,.b ws,.b us,.b bs,.b ns] g8,jD 8 27 g9,jD 8 28 g10,jT 8 32 [.b xs,.b os,.b ws,.b us,.b bs,.b ns] g11]
theorem lbt_f_11 (n:Nat) (xs:List HV) (q:Nat) (a e:Int) (os:List HV) (w:Nat) (c:Int) (ws:List HV) (u:Nat) (f:Int) (us:List HV) (g0:∀ kf,callN Tp polLb13 (kf+1) 18 [.s 0 n] [.b xs,.b os,.b ws,.b us]=some (.bool false,[.b xs,.b os,.b ws,.b us])) (g1:(q:Int)=0) (g2:a=0) (g3:e=2) (g4:(w:Int)=0) (g5:c=2) (g6:(u:Int)=0) (g7:f=2): RT polLb13 13 (sn 63 B13) (e13 rw n (.s 1 q) (.i a) (.i e) (.s 2 w) (.i c) (.s 3 u) (.i f) Ud) [.b xs,.b os,.b ws,.b us] .ret (env13 (.a rw) (.bool true) (.s 0 n) (.s 1 q) (.i a) (.i e) (.s 2 w) (.i c) (.s 3 u) (.i f) Ud) [.b xs,.b os,.b ws,.b us] :=
  hx N 60 [jD 5 1 g0,jT 6 2 [.b xs,.b os,.b ws,.b us] g1,jT 6 5 [.b xs,.b os,.b ws,.b us] g2,jT 6 9 [.b xs,.b os,.b ws,.b us] g3,jT 6 14 [.b xs,.b os,.b ws,.b us] g4,jT 6 18 [.b xs,.b os,.b ws,.b us] g5,jT 6 23 [.b xs,.b os,.b ws,.b us] g6,jT 6 27 [.b xs,.b os,.b ws,.b us] g7]
end
end Go.Proofs.Ytlendaofkmhgmaa
end
section
open Go Go.HL
namespace Go.Proofs.Ytlendaofkmhgmaa
set_option linter.unusedSectionVars false
open Go.Proofs.Try renaming prog → Tp
open Go.HL.HV renaming undef → Ud
theorem res13:Try.f13.results.toList=[.tmp 2]:=by kernel_rfl
theorem tabLe (R:List (List Int)):(tabL R).length ≤ 12∧((tabL R).all fun r=>decide (r.length ≤ 1000))=true:=by
  refine ⟨by simp only [tabL,List.length_map,List.length_take]; omega,List.all_eq_true.2 fun r hr=>?_⟩
  unfold tabL at hr
  obtain ⟨q,_,rfl⟩:=List.mem_map.1 hr
  exact decide_eq_true (by rw [List.length_take]; omega)
section
variable {pol':Pol} {d:List (List Int)} {l:List Int} {H:Heap}
open Classical in
theorem p29 (hp:pol'.prim 29=some best29) (hx:H[0]?=some (.arr 1 (d.map encO) true 0)) (h1:d.length ≤ 1000) (h2:(d.all fun r=>decide (r.length ≤ 1000))=true) {o:List Int} {a e:Int} (he:(if okD d then (bestT d,lenT d (bestT d),(0:Int)) else ([],0,2))=(o,a,e)):∀ k,callN Tp pol' (k+1) 29 [.sl 0 0 d.length none d.length 1] H=some (.tuple [.sl H.length 0 o.length none o.length 1,.int .i64 a,.int .i64 e],H ++ [bI o]):=fun k=>by
  rw [prim_call (pol:=pol') (g:=29) (F:=best29) hp (rs:=[.imm .arg 1 (d.map encR)]) (by simp only [mapO,arg_rs rfl hx]) (res:=.tuple [.own 1 (o.map hvI),.int .i64 a,.int .i64 e]) (by
    simp only [best29,rwF,mapO_map decR_enc]
    rw [if_pos ⟨h1,h2⟩]
    split at he <;> rename_i hc <;> cases he
    · rw [if_pos hc]
    · rw [if_neg hc]; rfl)]
  simp only [recv,recvVals,recvVal,recvCell,encI_any,List.length_map]
  rfl
open Classical in
theorem p41 (hp:pol'.prim 41=some near41) (hx:H[0]?=some (.arr 1 (d.map encO) true 0)) (h1:d.length ≤ 1000) (h2:(d.all fun r=>decide (r.length ≤ 1000))=true) {o:List Int} {e:Int} (he:(if okD d then (nearT d,(0:Int)) else ([],2))=(o,e)):∀ k,callN Tp pol' (k+1) 41 [.sl 0 0 d.length none d.length 1] H=some (.tuple [.sl H.length 0 o.length none o.length 1,.int .i64 e],H ++ [bI o]):=fun k=>by
  rw [prim_call (pol:=pol') (g:=41) (F:=near41) hp (rs:=[.imm .arg 1 (d.map encR)]) (by simp only [mapO,arg_rs rfl hx]) (res:=.tuple [.own 1 (o.map hvI),.int .i64 e]) (by
    simp only [near41,rwF,mapO_map decR_enc]
    rw [if_pos ⟨h1,h2⟩]
    split at he <;> rename_i hc <;> cases he
    · rw [if_pos hc]
    · rw [if_neg hc]; rfl)]
  simp only [recv,recvVals,recvVal,recvCell,encI_any,List.length_map]
  rfl
open Classical in
theorem p42 (hp:pol'.prim 42=some double42) (hx:H[0]?=some (.arr 1 (d.map encO) true 0)) (h1:d.length ≤ 1000) (h2:(d.all fun r=>decide (r.length ≤ 1000))=true) {o:List Int} {e:Int} (he:(if okD d then (dblT d,(0:Int)) else ([],2))=(o,e)):∀ k,callN Tp pol' (k+1) 42 [.sl 0 0 d.length none d.length 1] H=some (.tuple [.sl H.length 0 o.length none o.length 1,.int .i64 e],H ++ [bI o]):=fun k=>by
  rw [prim_call (pol:=pol') (g:=42) (F:=double42) hp (rs:=[.imm .arg 1 (d.map encR)]) (by simp only [mapO,arg_rs rfl hx]) (res:=.tuple [.own 1 (o.map hvI),.int .i64 e]) (by
    simp only [double42,rwF,mapO_map decR_enc]
    rw [if_pos ⟨h1,h2⟩]
    split at he <;> rename_i hc <;> cases he
    · rw [if_pos hc]
    · rw [if_neg hc]; rfl)]
  simp only [recv,recvVals,recvVal,recvCell,encI_any,List.length_map]
  rfl
theorem p18 (hp:pol'.prim 18=some miles46) (hx:H[0]?=some (.arr 1 (d.map encO) true 0)) (h1:d.length ≤ 1000) (h2:(d.all fun r=>decide (r.length ≤ 1000))=true) (b:Bool) (hb:okB d=b):∀ k,callN Tp pol' (k+1) 18 [.sl 0 0 d.length none d.length 1] H=some (.bool b,H):=fun k=>by
  rw [prim_call (pol:=pol') (g:=18) (F:=miles46) hp (rs:=[.imm .arg 1 (d.map encR)]) (by simp only [mapO,arg_rs rfl hx]) (res:=.bool b) (by simp only [miles46,rwF,mapO_map decR_enc]; rw [if_pos ⟨h1,h2⟩,hb])]; rfl
theorem p26 (hp:pol'.prim 26=some ints26) {o:List Int} {a n:Nat} (hn:o.length=n) (ho:n ≤ 1000) (h2:H[a]?=some (bI o)) {v:HV} (h3:toArg H 6 v=some (.imm .arg 1 (o.map hvI))):∀ k,callN Tp pol' (k+1) 26 [.sl a 0 n none n 1,v] H=some (.bool true,H):=fun k=>by
  rw [prim_call (pol:=pol') (g:=26) (F:=ints26) hp (rs:=[.imm .arg 1 (o.map hvI),.imm .arg 1 (o.map hvI)]) (by simp only [mapO,arg_sl hn h2,h3]) (res:=.bool true) (by simp only [ints26,llF,mapO_map decI_enc]; rw [if_pos (by omega),decide_eq_true trivial])]; rfl
theorem p37 (hp:pol'.prim 37=some len56) (hx:H[0]?=some (.arr 1 (d.map encO) true 0)) {b:Nat} (ht:H[b]?=some (bI l)) (h1:okD d) (h2:inT d.length l) (h3:l.length ≤ 1000):∀ k,callN Tp pol' (k+1) 37 [.sl 0 0 d.length none d.length 1,.sl b 0 l.length none l.length 1] H=some (.int .i64 (lenT d l),H):=fun k=>by
  rw [prim_call (pol:=pol') (g:=37) (F:=len56) hp (rs:=[.imm .arg 1 (d.map encR),.imm .arg 1 (l.map hvI)]) (by simp only [mapO,arg_rs rfl hx,arg_sl rfl ht]) (res:=.int .i64 (lenT d l)) (by simp only [len56,rlF,mapO_map decR_enc,mapO_map decI_enc]; rw [if_pos ⟨h1,h2,h3⟩])]; rfl
theorem p40 (hp:pol'.prim 40=some best40) (hx:H[0]?=some (.arr 1 (d.map encO) true 0)) (h1:okD d):∀ k,callN Tp pol' (k+1) 40 [.sl 0 0 d.length none d.length 1] H=some (.sl H.length 0 (bestT d).length none (bestT d).length 1,H ++ [bI (bestT d)]):=fun k=>by
  rw [prim_call (pol:=pol') (g:=40) (F:=best40) hp (rs:=[.imm .arg 1 (d.map encR)]) (by simp only [mapO,arg_rs rfl hx]) (res:=.own 1 ((bestT d).map hvI)) (by simp only [best40,rwF,mapO_map decR_enc]; rw [if_pos h1])]
  simp only [recv,recvVals,recvVal,recvCell,encI_any,List.length_map]
  rfl
theorem p43 (hp:pol'.prim 43=some near43) (hx:H[0]?=some (.arr 1 (d.map encO) true 0)) (h1:okD d):∀ k,callN Tp pol' (k+1) 43 [.sl 0 0 d.length none d.length 1] H=some (.sl H.length 0 (nearT d).length none (nearT d).length 1,H ++ [bI (nearT d)]):=fun k=>by
  rw [prim_call (pol:=pol') (g:=43) (F:=near43) hp (rs:=[.imm .arg 1 (d.map encR)]) (by simp only [mapO,arg_rs rfl hx]) (res:=.own 1 ((nearT d).map hvI)) (by simp only [near43,rwF,mapO_map decR_enc]; rw [if_pos h1])]
  simp only [recv,recvVals,recvVal,recvCell,encI_any,List.length_map]
  rfl
theorem p44 (hp:pol'.prim 44=some rdouble44) (hx:H[0]?=some (.arr 1 (d.map encO) true 0)) (h1:okD d) (h2:2 ≤ (dblT d).length):∀ k,callN Tp pol' (k+1) 44 [.sl 0 0 d.length none d.length 1] H=some (.sl H.length 0 (dblT d).length none (dblT d).length 1,H ++ [bI (dblT d)]):=fun k=>by
  rw [prim_call (pol:=pol') (g:=44) (F:=rdouble44) hp (rs:=[.imm .arg 1 (d.map encR)]) (by simp only [mapO,arg_rs rfl hx]) (res:=.own 1 ((dblT d).map hvI)) (by simp only [rdouble44,rwF,mapO_map decR_enc]; rw [if_pos h1,if_pos h2])]
  simp only [recv,recvVals,recvVal,recvCell,encI_any,List.length_map]
  rfl
theorem p44i (hp:pol'.prim 44=some rdouble44) (hx:H[0]?=some (.arr 1 (d.map encO) true 0)) (h1:okD d) (h2:¬ 2 ≤ (dblT d).length):∀ k,callN Tp pol' (k+1) 44 [.sl 0 0 d.length none d.length 1] H=some (.imm .lit 1 ((dblT d).map hvI),H):=fun k=>by
  rw [prim_call (pol:=pol') (g:=44) (F:=rdouble44) hp (rs:=[.imm .arg 1 (d.map encR)]) (by simp only [mapO,arg_rs rfl hx]) (res:=.imm .lit 1 ((dblT d).map hvI)) (by simp only [rdouble44,rwF,mapO_map decR_enc]; rw [if_pos h1,if_neg h2])]
  simp only [recv,recvVal,recvCell]
theorem arg_lit (H:Heap) (l:List Int):toArg H 6 (.imm .lit 1 (l.map hvI))=some (.imm .arg 1 (l.map hvI)):=by
  have:=arg_li H l
  simpa [toArg,argP] using this
end
theorem dblT_len (d:List (List Int)) (hd:okD d):(dblT d).length ≤ 1000:=by
  have hdn:=hd.1
  obtain ⟨_,h2,h3⟩:=visF_keep (treeL d (zer d.length) 0) d.length d.length [0]
  have:=nd_len (n:=d.length) (h2 (by simp)) (h3 fun v hv=>by rw [List.mem_singleton.1 hv]; omega)
  exact Nat.le_trans this (by omega)
open Classical in
theorem roundBest_law (R0:List (List Int)):∃ E H,RT polLb13 13 B13 (args0 [.imm .arg 1 (R0.map encR)]) [] .ret E H∧E.get 2=.bool true:=by
  have a1:=lbt_a_0 0 (R0.map encR)
  have k15:∀ k,callN Tp polLb13 (k+1) 15 [.imm .arg 1 (R0.map encR)] []=some (.sl 0 0 (tabL R0).length none (tabL R0).length 1,[.arr 1 ((tabL R0).map encO) true 0]):=fun k=>by
    rw [prim_call (pol:=polLb13) (g:=15) (F:=table15) (by kernel_rfl) (rs:=[.imm .arg 1 (R0.map encR)]) (by simp only [mapO,arg_rw]) (res:=.own 1 ((tabL R0).map encO)) (by simp only [table15,rwF,mapO_map decR_enc]),recv_rows]; rfl
  have b1:=lbt_b_0 0 (R0.map encR) _ _ k15
  obtain ⟨hd12,hdr⟩:=tabLe R0
  generalize tabL R0=d at b1 hd12 hdr
  have up:∀ (o:List Int) (a e:Int) (w:List Int) (c:Int) (u:List Int) (f:Int) (E:Env) (H:Heap),(if okD d then (bestT d,lenT d (bestT d),(0:Int)) else ([],0,2))=(o,a,e) → (if okD d then (nearT d,(0:Int)) else ([],2))=(w,c) → (if okD d then (dblT d,(0:Int)) else ([],2))=(u,f) →
      RT polLb13 13 (sn 63 B13) (env13 (.a (R0.map encR)) (.bool false) (.s 0 d.length) (.s 1 o.length) (.i a) (.i e) (.s 2 w.length) (.i c) (.s 3 u.length) (.i f) Ud) [.arr 1 (d.map encO) true 0,bI o,bI w,bI u] .ret E H →
      RT polLb13 13 B13 (args0 [.imm .arg 1 (R0.map encR)]) [] .ret E H:=fun o a e w c u f E H he hw hu t=>by
    have c1:=lbt_c_0 0 (R0.map encR) d.length (d.map encO) o.length a e (o.map hvI) (p29 (pol':=polLb13) (by kernel_rfl) (d:=d) (H:=[.arr 1 (d.map encO) true 0]) rfl (by omega) hdr he)
    have d1:=lbt_d_0 0 (R0.map encR) d.length (d.map encO) o.length a e (o.map hvI) w.length c (w.map hvI) (p41 (pol':=polLb13) (by kernel_rfl) (d:=d) (H:=[.arr 1 (d.map encO) true 0,bI o]) rfl (by omega) hdr hw)
    have e1:=lbt_e_0 0 (R0.map encR) d.length (d.map encO) o.length a e (o.map hvI) w.length c (w.map hvI) u.length f (u.map hvI) (p42 (pol':=polLb13) (by kernel_rfl) (d:=d) (H:=[.arr 1 (d.map encO) true 0,bI o,bI w]) rfl (by omega) hdr hu)
    exact sq (a1) (sq (b1) (sq (c1) (sq (d1) (sq (e1) (t) (c:=sn 31 B13)) (c:=sn 15 B13)) (c:=sn 7 B13)) (c:=sn 3 B13)) (c:=B13)
  by_cases hd:okD d
  · have hdn:=hd.1
    obtain ⟨t1,_,t3,_⟩:=trOk_iff.1 (best_tour hd)
    have hn:(nearT d).length ≤ 1000:=by
      rw [nearT,nearG_len]
      simp only [List.length_cons,List.length_nil]; omega
    have hb:=dblT_len d hd
    have k18:=p18 (pol':=polLb13) (by kernel_rfl) (d:=d) (H:=[.arr 1 (d.map encO) true 0,bI (bestT d),bI (nearT d),bI (dblT d)]) rfl (by omega) hdr true (okB_true hd)
    have k40:=p40 (pol':=polLb13) (by kernel_rfl) (d:=d) (H:=[.arr 1 (d.map encO) true 0,bI (bestT d),bI (nearT d),bI (dblT d)]) rfl hd
    have k26:=p26 (pol':=polLb13) (by kernel_rfl) (o:=bestT d) (a:=1) (H:=[.arr 1 (d.map encO) true 0,bI (bestT d),bI (nearT d),bI (dblT d),bI (bestT d)]) rfl (by omega) rfl (arg_sl (b:=4) rfl rfl)
    have k37:=p37 (pol':=polLb13) (by kernel_rfl) (d:=d) (H:=[.arr 1 (d.map encO) true 0,bI (bestT d),bI (nearT d),bI (dblT d),bI (bestT d)]) rfl (b:=4) rfl hd t3 (by omega)
    have k43:=p43 (pol':=polLb13) (by kernel_rfl) (d:=d) (H:=[.arr 1 (d.map encO) true 0,bI (bestT d),bI (nearT d),bI (dblT d),bI (bestT d)]) rfl hd
    have k26b:=p26 (pol':=polLb13) (by kernel_rfl) (o:=nearT d) (a:=2) (H:=[.arr 1 (d.map encO) true 0,bI (bestT d),bI (nearT d),bI (dblT d),bI (bestT d),bI (nearT d)]) rfl hn rfl (arg_sl (b:=5) rfl rfl)
    by_cases h2:2 ≤ (dblT d).length
    · have k44:=p44 (pol':=polLb13) (by kernel_rfl) (d:=d) (H:=[.arr 1 (d.map encO) true 0,bI (bestT d),bI (nearT d),bI (dblT d),bI (bestT d),bI (nearT d)]) rfl hd h2
      have k26c:=p26 (pol':=polLb13) (by kernel_rfl) (o:=dblT d) (a:=3) (H:=[.arr 1 (d.map encO) true 0,bI (bestT d),bI (nearT d),bI (dblT d),bI (bestT d),bI (nearT d),bI (dblT d)]) rfl hb rfl (arg_sl (b:=6) rfl rfl)
      exact ⟨_,_,up _ _ _ _ _ _ _ _ _ (if_pos hd) (if_pos hd) (if_pos hd) (lbt_f_0 0 (R0.map encR) d.length (d.map encO) _ _ _ _ _ _ _ _ _ _ _ _ _ _ _ _ _ k18 k40 k26 k37 rfl rfl k43 k26b rfl k44 k26c rfl),rfl⟩
    · have k44:=p44i (pol':=polLb13) (by kernel_rfl) (d:=d) (H:=[.arr 1 (d.map encO) true 0,bI (bestT d),bI (nearT d),bI (dblT d),bI (bestT d),bI (nearT d)]) rfl hd h2
      have k26c:=p26 (pol':=polLb13) (by kernel_rfl) (o:=dblT d) (a:=3) (H:=[.arr 1 (d.map encO) true 0,bI (bestT d),bI (nearT d),bI (dblT d),bI (bestT d),bI (nearT d)]) rfl hb rfl (arg_lit _ _)
      exact ⟨_,_,up _ _ _ _ _ _ _ _ _ (if_pos hd) (if_pos hd) (if_pos hd) (lbt_f_3 0 (R0.map encR) d.length (d.map encO) _ _ _ _ _ _ _ _ _ _ _ _ _ _ _ _ k18 k40 k26 k37 rfl rfl k43 k26b rfl k44 k26c rfl),rfl⟩
  · have k18:=p18 (pol':=polLb13) (by kernel_rfl) (d:=d) (H:=[.arr 1 (d.map encO) true 0,bI [],bI [],bI []]) rfl (by omega) hdr false (okB_false hd)
    exact ⟨_,_,up [] 0 2 [] 2 [] 2 _ _ (if_neg hd) (if_neg hd) (if_neg hd) (lbt_f_11 0 (R0.map encR) d.length (d.map encO) _ _ _ _ _ _ _ _ _ _ k18 rfl rfl rfl rfl rfl rfl rfl),rfl⟩
end Go.Proofs.Ytlendaofkmhgmaa
end
section
namespace Go.HL
open Go.ChangeShapes Go.WideShapes Go.ChangeAt Go.RowKit Go.Deep
set_option linter.unusedSectionVars false
open Go.Proofs.Try renaming prog → Tp
open Go.HL.HV renaming undef → Ud
theorem okNil (w:World) (r:Nat):okOf Ctx.nil w.heap.size false r:=by
  refine ⟨fun hM=>?_,by simp⟩
  obtain ⟨b,y,h1,_,_⟩:=M_iff.1 hM
  simp [Ctx.nil] at h1
theorem cell_lt {w:World} {a:Addr} {v:Value} (h:w.cell? a=some v):a.block < w.heap.size:=by
  rcases Nat.lt_or_ge a.block w.heap.size with hl | hl
  · exact hl
  · have:w.heap[a.block]?=none:=by simp [hl]
    simp [World.cell?,this] at h
theorem ints_cells {H:Type} {enc:TypeId × Value → H} {P:Program} {W:World} {base fuel:Nat} {sp:Nat → Bool} {held:Bool} {t q:TypeId} {cs:List Value} {x:DataW H × List MemPlace} (ht:P.underlying t=some (.slice q)) (hq:P.underlying q=some (.int .i64)) (cq:P.cellsOf q=1)
    (hf:DataW.trod enc P W base sp held fuel t cs=some x):∃ (l:List Int) (v:Value),cs=[v]∧V W (okOf Ctx.nil W.heap.size) Ctx.nil (.imm .arg 1 (l.map hvI)) v:=by
  rcases open_slice ht hf with ⟨h0,_⟩ | ⟨a',len,cap,m,n,D,Pl,h0,hb,hl,hm,hmm,hx,hel⟩
  · exact ⟨[],_,h0,.imm .arg 1 [] none 0 (fun _=>.bool false) (by simp) (by simp) (by simp) (by simp) (by simp) (by simp)⟩
  · subst h0
    have hlm:len ≤ m:=by rw [hmm]; split <;> omega
    have each:∀ i,i < len → ∃ z:Int,W.cell? (a'.add i)=some (.int .i64 z):=by
      intro i hi
      obtain ⟨cs',h1,h2⟩:=hel i (by omega)
      rw [cq] at h1
      obtain ⟨_,hlen,hcell⟩:=World.cells?_some h1
      match cs',hlen with
      | [v0],_ =>
        obtain ⟨z0,e0,_,_⟩:=DataW.trod_int hq h2
        simp at e0
        subst e0
        have c0:=hcell 0 (by omega)
        rw [add_add] at c0
        exact ⟨z0,by simpa using c0⟩
    obtain ⟨f,hf⟩:=choose_lt each
    refine ⟨(List.range len).map f,_,rfl,?_⟩
    have hlen:(((List.range len).map f).map hvI).length=len:=by simp
    have key:=V.imm (w:=W) (ok:=okOf Ctx.nil W.heap.size) (c:=Ctx.nil) .arg 1 (((List.range len).map f).map hvI) (some a') cap (fun j=>.int .i64 (f j))
      (by rw [hlen]; exact hl) (by simp) ?_ ?_ ?_ ?_
    · rw [hlen] at key; exact key
    · intro hne
      have h0:0 < len:=by
        rcases Nat.eq_zero_or_pos len with h | h
        · subst h; simp at hne
        · exact h
      obtain ⟨b,off,spot⟩:=a'
      have hspot:spot=none:=by simpa [Addr.add] using World.cell?_spot (hf 0 h0)
      subst hspot
      refine ⟨b,off,rfl,by simpa [Addr.add] using cell_lt (hf 0 h0),okNil W b,fun j hj=>?_⟩
      rw [hlen] at hj
      have c0:=hf j (by omega)
      rw [add_plain] at c0
      exact c0
    · intro v hv
      obtain ⟨p,_,rfl⟩:=List.mem_map.1 hv
      rfl
    · intro v hv
      obtain ⟨p,_,rfl⟩:=List.mem_map.1 hv
      rfl
    · intro i v j x hi hj
      have hil:i < len:=by have:=lt_of_get hi; rw [hlen] at this; exact this
      have:v=hvI (f i):=by
        rw [List.getElem?_map,List.getElem?_map,List.getElem?_range hil] at hi
        simpa using hi.symm
      subst this
      have hjx:j < 1:=lt_of_get hj
      match j,hjx,hj with
      | 0,_,hj =>
        simp [hvI,cellsOf] at hj
        subst hj
        have e1:i * 1+0=i:=by omega
        rw [e1]
        exact V.int _ _
def encRH (r:List Int):HV:=.imm .arg 1 (r.map hvI)
theorem rows_cells {H:Type} {enc:TypeId × Value → H} {P:Program} {W:World} {base fuel:Nat} {sp:Nat → Bool} {held:Bool} {s t q:TypeId} {cs:List Value} {x:DataW H × List MemPlace} (hs:P.underlying s=some (.slice t)) (ct:P.cellsOf t=1) (ht:P.underlying t=some (.slice q)) (hq:P.underlying q=some (.int .i64)) (cq:P.cellsOf q=1)
    (hf:DataW.trod enc P W base sp held fuel s cs=some x):∃ (R:List (List Int)) (v:Value),cs=[v]∧V W (okOf Ctx.nil W.heap.size) Ctx.nil (.imm .arg 1 (R.map encRH)) v:=by
  rcases open_slice hs hf with ⟨h0,_⟩ | ⟨a',len,cap,m,n,D,Pl,h0,hb,hl,hm,hmm,hx,hel⟩
  · exact ⟨[],_,h0,.imm .arg 1 [] none 0 (fun _=>.bool false) (by simp) (by simp) (by simp) (by simp) (by simp) (by simp)⟩
  · subst h0
    have hlm:len ≤ m:=by rw [hmm]; split <;> omega
    have each:∀ i,i < len → ∃ p:List Int × Value,W.cell? (a'.add i)=some p.2∧V W (okOf Ctx.nil W.heap.size) Ctx.nil (encRH p.1) p.2:=by
      intro i hi
      obtain ⟨cs',h1,h2⟩:=hel i (by omega)
      rw [ct,Nat.mul_one] at h1
      obtain ⟨_,hlen,hcell⟩:=World.cells?_some h1
      obtain ⟨l,v,rfl,hV⟩:=ints_cells ht hq cq h2
      have c0:=hcell 0 (by omega)
      rw [add_add] at c0
      exact ⟨(l,v),by simpa using c0,hV⟩
    obtain ⟨f,hf⟩:=choose_lt each
    refine ⟨(List.range len).map fun i=>(f i).1,_,rfl,?_⟩
    have hlen:(((List.range len).map fun i=>(f i).1).map encRH).length=len:=by simp
    have key:=V.imm (w:=W) (ok:=okOf Ctx.nil W.heap.size) (c:=Ctx.nil) .arg 1 (((List.range len).map fun i=>(f i).1).map encRH) (some a') cap (fun j=>(f j).2)
      (by rw [hlen]; exact hl) (by simp) ?_ ?_ ?_ ?_
    · rw [hlen] at key; exact key
    · intro hne
      have h0:0 < len:=by
        rcases Nat.eq_zero_or_pos len with h | h
        · subst h; simp at hne
        · exact h
      obtain ⟨b,off,spot⟩:=a'
      have hspot:spot=none:=by simpa [Addr.add] using World.cell?_spot (hf 0 h0).1
      subst hspot
      refine ⟨b,off,rfl,by simpa [Addr.add] using cell_lt (hf 0 h0).1,okNil W b,fun j hj=>?_⟩
      rw [hlen,Nat.mul_one] at hj
      have c0:=(hf j hj).1
      rw [add_plain] at c0
      exact c0
    · intro v hv
      obtain ⟨p,_,rfl⟩:=List.mem_map.1 hv
      rfl
    · intro v hv
      obtain ⟨p,_,rfl⟩:=List.mem_map.1 hv
      rfl
    · intro i v j x hi hj
      have hil:i < len:=by have:=lt_of_get hi; rw [hlen] at this; exact this
      have:v=encRH (f i).1:=by
        rw [List.getElem?_map,List.getElem?_map,List.getElem?_range hil] at hi
        simpa using hi.symm
      subst this
      have hjx:j < 1:=lt_of_get hj
      obtain rfl:j=0:=by omega
      simp [encRH,cellsOf] at hj
      subst hj
      have e1:i * 1+0=i:=by omega
      rw [e1]
      exact (hf i hil).2
theorem arg_rows_ok {H:Type} {enc:TypeId × Value → H} {P:Program} {W:World} {base:Nat} {s t q:TypeId} {v:Value} {d:DataW H} {ps:List MemPlace} (hs:P.underlying s=some (.slice t)) (ct:P.cellsOf t=1) (ht:P.underlying t=some (.slice q)) (hq:P.underlying q=some (.int .i64)) (cq:P.cellsOf q=1)
    (hval:Value.okWide P W .any base s v) (hd:DataW.Trod enc P W 0 (fun _=>true) true s v d ps):∃ R:List (List Int),V W (okOf Ctx.nil W.heap.size) Ctx.nil (.imm .arg 1 (R.map encRH)) v:=by
  obtain ⟨a,len,cap,rfl⟩:=okWide_slice hs hval
  obtain ⟨fuel,hf⟩:=hd
  obtain ⟨R,v,hv,h⟩:=rows_cells hs ct ht hq cq hf
  simp [Value.cells] at hv
  subst hv
  exact ⟨R,h⟩
end Go.HL
end
