/- A part of the proof. -/
import Derived.Test.YtlendaofkmhgmaaP12D
set_option linter.unusedVariables false
set_option linter.unusedSimpArgs false
section
open Go Go.HL
namespace Go.Proofs.Ytlendaofkmhgmaa
open Go.Proofs.Try renaming prog → Tp
open Go.HL.HV renaming undef → Ud
theorem res40:Try.f40.results.toList=[.tmp 2]:=by kernel_rfl
open Classical in
noncomputable def best40:List HV → Option HV:=rwF fun R=>if okD R then some (.own 1 ((bestT R).map encI)) else none
theorem res_lic {H:Heap} {b k:Nat} {cap:Option Nat} {o:List Int} (hb:H[b]?=some (bI o)) (hk:o.length=k):toRes H false (.sl b 0 k cap k 1)=some (.own 1 (o.map encI)):=by
  have hr:=resCell_sl (H:=H) (no:=[b]) (b:=b) (k:=1) (m:=k) (cap:=cap) (els:=o.map encI) hb (by simpa using hk) (mapO_self (fun r=>frz_int 4 r) _)
  have ho:ownedAll H false (.sl b 0 k cap k 1)=[b]:=by simp [ownedAll,cellsOf,owned,hb]
  simp only [toRes,ho,List.nodup_cons,List.not_mem_nil,not_false_eq_true,List.nodup_nil,and_self,if_true,resVal,hr]
section
variable {d:List (List Int)}
abbrev rbE (d:List (List Int)) (v6 v7 v8 v9:HV):Env:=(env40 (.imm .arg 1 (d.map encR)) (.imm .lit 1 []) (.int .i64 (d.length:Int)) (.int .i64 ((2 ^ d.length - 1:Nat):Int)) (.sl 0 0 (2 ^ d.length * d.length) (some (2 ^ d.length * d.length)) (2 ^ d.length * d.length) 1) v6 v7 v8 v9 Ud Ud Ud Ud)
theorem wix {U n a:Nat} (hU:U ≤ 4096) (hn:n ≤ 11) (ha:a ≤ 11):IntKind.i64.wrap (IntKind.i64.wrap ((U:Int) * (n:Int))+(a:Int))=((U * n+a:Nat):Int):=by
  have h:=Nat.mul_le_mul hU hn
  rw [show (U:Int) * (n:Int)=((U * n:Nat):Int) by push_cast; rfl]
  generalize U * n=x at h
  rw [wrap_id (n:=(x:Int)) (by omega) (by omega),wrap_id (by omega) (by omega)]
  omega
theorem rb_c (hd:okD d) {U a:Nat} {T:List Int} (hU:U < 2 ^ d.length) (ha:a < d.length) (hT:TI d T U a):∀ k v (ls:Int),v+k=d.length →
    RT polW 40 (sub [1,1,1,1,0,1,0,0,1,0,0,1,0,0,1,0,0,1,1,0,1,0] B40) (rbE d (.int .i64 (U:Int)) (.int .i64 (a:Int)) (.int .i64 ls) (.int .i64 (v:Int))) [bI T] (.exit 4)
      (rbE d (.int .i64 (U:Int)) (.int .i64 (a:Int)) (.int .i64 (mnF (fun v=>at2 d a v+rsT d v (wo (2 ^ d.length - 1 - U) v)) (2 ^ d.length - 1 - U) k v ls)) (.int .i64 (d.length:Int))) [bI T]:=by
  have hdn:=hd.1
  have hpw:=pow_le hdn.2
  intro k
  induction k with
  | zero =>
    intro v ls hv
    have:v=d.length:=by omega
    subst this
    exact lpo ((rbe_l_2 (d.map encR) d.length _ _ (T.map encI) U a ls d.length (y10:=Ud) (y11:=Ud) (y12:=Ud) (y13:=Ud) (by omega)))
  | succ k ih =>
    intro v ls hv
    rw [mnF]
    by_cases c:U.testBit v=false
    · obtain ⟨h1,h2,h3⟩:=left_add hU (show v < d.length by omega) c
      rw [if_pos h3]
      have b1:=hd.at ha (j:=v) (by omega)
      have b2:=rsT_bnd hd (s:=v) (L:=wo (2 ^ d.length - 1 - U) v) (by omega) (by have:=wo_le (2 ^ d.length - 1 - U) v; omega)
      have h2v:0 < 2 ^ v:=Nat.two_pow_pos v
      have hval:=hT.2.1 (U+2 ^ v) (by omega) h1 v (by omega)
      rw [h2] at hval
      have hix:=ix_lt h1 (show v < d.length by omega)
      have hl:=ldg (H:=[bI T]) (b:=0) (k:=(U+2 ^ v) * d.length+v) (g:=T) rfl hT.1 hix
      rw [hval] at hl
      have w1:IntKind.i64.wrap ((U:Int)+((2 ^ v:Nat):Int))=((U+2 ^ v:Nat):Int):=by
        generalize 2 ^ v=x at h1
        rw [wrap_id (by omega) (by omega)]; omega
      have s:=rbe_l_0 (d.map encR) d.length ((2 ^ d.length - 1:Nat):Int) (2 ^ d.length * d.length) (T.map encI) U a ls v (y10:=Ud) (y11:=Ud) (y12:=Ud) (y13:=Ud) (by omega) (bo_shr (by omega)) ((bit_rem U v).2 c) (g22 ha) (g23 hd ha (by omega)) (bo_shl (by omega)) (by rw [w1,wix (by omega) (by omega) (by omega)]; exact ixg hix) hl
      rw [wrap_succ (by omega),wrap_id (n:=at2 d a v+_) (by omega) (by omega)] at s
      have r:=ih (v+1) (min ls (at2 d a v+rsT d v (wo (2 ^ d.length - 1 - U) v))) (by omega)
      exact lop (s) (gc_eq _ rfl) (r)
    · have h3:¬ (2 ^ d.length - 1 - U).testBit v=true:=by rw [left_bit hU (by omega)]; simpa using c
      rw [if_neg h3]
      have s:=rbe_l_1 (d.map encR) d.length ((2 ^ d.length - 1:Nat):Int) (2 ^ d.length * d.length) (T.map encI) U a ls v (y10:=Ud) (y11:=Ud) (y12:=Ud) (y13:=Ud) (by omega) (bo_shr (by omega)) (fun h=>c ((bit_rem U v).1 h))
      rw [wrap_succ (by omega)] at s
      have r:=ih (v+1) ls (by omega)
      exact lop (s) (gc_eq _ rfl) (r)
theorem mnF_none (f:Nat → Int):∀ (k i:Nat) (m:Int),mnF f 0 k i m=m
  | 0,_,_=>rfl
  | k+1,i,m=>by rw [mnF,Nat.zero_testBit,if_neg (by simp),mnF_none f k]
theorem TI.put {T:List Int} {U a:Nat} (hU:U < 2 ^ d.length) (ha:a < d.length) (h:TI d T U a):TI d (T.set (U * d.length+a) (rsT d a (2 ^ d.length - 1 - U))) U (a+1):=by
  have hix:=ix_lt hU ha
  refine ⟨by rw [List.length_set]; exact h.1,fun V hV hV2 b hb=>?_,fun b hb=>?_⟩
  · rw [getDs _ _ _ _ (by rw [h.1]; exact hix),if_neg (fun e=>by have:=(ix_inj ha hb e).1; omega)]
    exact h.2.1 V hV hV2 b hb
  · rw [getDs _ _ _ _ (by rw [h.1]; exact hix)]
    by_cases e:a=b
    · subst e; rw [if_pos rfl]
    · rw [if_neg (by omega)]
      exact h.2.2 b (by omega)
theorem rb_b (hd:okD d) {U:Nat} (hU:U < 2 ^ d.length):∀ k a (T:List Int),a+k=d.length → TI d T U a →
    ∃ T' y8 y9,RT polW 40 (sub [1,1,1,1,0,1,0,0,1,0,0,1,0] B40) (rbE d (.int .i64 (U:Int)) (.int .i64 (a:Int)) Ud Ud) [bI T] (.exit 2)
      (rbE d (.int .i64 (U:Int)) (.int .i64 (d.length:Int)) y8 y9) [bI T']∧TI d T' U d.length:=by
  have hdn:=hd.1
  have hpw:=pow_le hdn.2
  intro k
  induction k with
  | zero =>
    intro a T ha hT
    have:a=d.length:=by omega
    subst this
    have s:=rbe_h_1 (d.map encR) d.length ((2 ^ d.length - 1:Nat):Int) (2 ^ d.length * d.length) (T.map encI) U d.length (y8:=Ud) (y9:=Ud) (y10:=Ud) (y11:=Ud) (y12:=Ud) (y13:=Ud) (by omega)
    exact ⟨T,_,_,lpo (sqo (s) (c:=sub [1,1,1,1,0,1,0,0,1,0,0,1,0,0] B40) (b:=sub [1,1,1,1,0,1,0,0,1,0,0,1,0,0,1] B40)),hT⟩
  | succ k ih =>
    intro a T ha hT
    have hal:a < d.length:=by omega
    have s1:=rbe_h_0 (d.map encR) d.length ((2 ^ d.length - 1:Nat):Int) (2 ^ d.length * d.length) (T.map encI) U a (y8:=Ud) (y9:=Ud) (y10:=Ud) (y11:=Ud) (y12:=Ud) (y13:=Ud) (by omega)
    have s2:=rbe_i_0 (d.map encR) d.length ((2 ^ d.length - 1:Nat):Int) (2 ^ d.length * d.length) (T.map encI) U a (y8:=Ud) (y9:=Ud) (y10:=Ud) (y11:=Ud) (y12:=Ud) (y13:=Ud)
    have hix:=ix_lt hU hal
    have go:∀ ls:Int,mnF (fun v=>at2 d a v+rsT d v (wo (2 ^ d.length - 1 - U) v)) (2 ^ d.length - 1 - U) d.length 0 ls=rsT d a (2 ^ d.length - 1 - U) →
        RT polW 40 (sub [1,1,1,1,0,1,0,0,1,0,0,1,0,0,1,0,0,1,0] B40) (rbE d (.int .i64 (U:Int)) (.int .i64 (a:Int)) (.int .i64 1099511627776) Ud) [bI T] .normal (rbE d (.int .i64 (U:Int)) (.int .i64 (a:Int)) (.int .i64 ls) Ud) [bI T] →
        ∃ T' y8 y9,RT polW 40 (sub [1,1,1,1,0,1,0,0,1,0,0,1,0] B40) (rbE d (.int .i64 (U:Int)) (.int .i64 (a:Int)) Ud Ud) [bI T] (.exit 2)
          (rbE d (.int .i64 (U:Int)) (.int .i64 (d.length:Int)) y8 y9) [bI T']∧TI d T' U d.length:=fun ls hls s3=>by
      have s4:=rbe_k_0 (d.map encR) d.length ((2 ^ d.length - 1:Nat):Int) (2 ^ d.length * d.length) (T.map encI) U a ls (y9:=Ud) (y10:=Ud) (y11:=Ud) (y12:=Ud) (y13:=Ud)
      have r0:=rb_c hd hU hal hT d.length 0 ls (by omega)
      rw [hls] at r0
      have hst:=stg (H:=[bI T]) (b:=0) (k:=U * d.length+a) (g:=T) rfl hT.1 hix (rsT d a (2 ^ d.length - 1 - U))
      have s5:=rbe_m_0 (d.map encR) d.length ((2 ^ d.length - 1:Nat):Int) (2 ^ d.length * d.length) (T.map encI) U a (rsT d a (2 ^ d.length - 1 - U)) (y9:=.int .i64 (d.length:Int)) (y10:=Ud) (y11:=Ud) (y12:=Ud) (y13:=Ud) (by rw [wix (by omega) (by omega) (by omega)]; exact ixg hix) hst
      have s6:=rbe_n_0 (d.map encR) d.length ((2 ^ d.length - 1:Nat):Int) (2 ^ d.length * d.length) ((T.set (U * d.length+a) (rsT d a (2 ^ d.length - 1 - U))).map encI) U a (y8:=.int .i64 (rsT d a (2 ^ d.length - 1 - U))) (y9:=.int .i64 (d.length:Int)) (y10:=Ud) (y11:=Ud) (y12:=Ud) (y13:=Ud)
      rw [wrap_succ (by omega)] at s6
      obtain ⟨T',y8,y9,r,hT'⟩:=ih (a+1) _ (by omega) (hT.put hU hal)
      exact ⟨T',y8,y9,lop (sq (s1) (sq (RunsTo.block_normal (i:=3) (c:=sub [1,1,1,1,0,1,0,0,1,0,0,1,0,0,1,0] B40) (sq (s2) (sq (s3) (sq (sq (s4) (bke (c:=sub [1,1,1,1,0,1,0,0,1,0,0,1,0,0,1,0,0,1,1,0,1] B40) (lpi (e0:=(rbE d (.int .i64 (U:Int)) (.int .i64 (a:Int)) (.int .i64 ls) (.int .i64 ((0:Nat):Int)))) r0 (b:=sub [1,1,1,1,0,1,0,0,1,0,0,1,0,0,1,0,0,1,1,0,1,0,0] B40))) (c:=sub [1,1,1,1,0,1,0,0,1,0,0,1,0,0,1,0,0,1,1,0] B40)) (s5) (c:=sub [1,1,1,1,0,1,0,0,1,0,0,1,0,0,1,0,0,1,1] B40)) (c:=sub [1,1,1,1,0,1,0,0,1,0,0,1,0,0,1,0,0,1] B40)) (c:=sub [1,1,1,1,0,1,0,0,1,0,0,1,0,0,1,0,0] B40)) (by kernel_rfl)) (s6) (c:=sub [1,1,1,1,0,1,0,0,1,0,0,1,0,0,1] B40)) (c:=sub [1,1,1,1,0,1,0,0,1,0,0,1,0,0] B40)) (gc_eq _ rfl) (r),hT'⟩
    by_cases c:U=2 ^ d.length - 1
    · have b1:=hd.at hal (j:=0) (by omega)
      refine go (at2 d a 0) (by rw [show 2 ^ d.length - 1 - U=0 by omega,mnF_none]; rfl) (rbe_j_0 (d.map encR) d.length ((2 ^ d.length - 1:Nat):Int) (2 ^ d.length * d.length) (T.map encI) U a 1099511627776 (y9:=Ud) (y10:=Ud) (y11:=Ud) (y12:=Ud) (y13:=Ud) (by omega) (g22 hal) (g23 hd hal (u:=0) (by omega)))
    · exact go 1099511627776 (mnF_rs hd hal (by omega) (by omega)) (rbe_j_1 (d.map encR) d.length ((2 ^ d.length - 1:Nat):Int) (2 ^ d.length * d.length) (T.map encI) U a 1099511627776 (y9:=Ud) (y10:=Ud) (y11:=Ud) (y12:=Ud) (y13:=Ud) (by omega))
theorem rb_a (hd:okD d):∀ (U:Nat) (T:List Int),U < 2 ^ d.length → TI d T U 0 →
    ∃ T' y7 y8 y9,RT polW 40 (sub [1,1,1,1,0,1,0] B40) (rbE d (.int .i64 (U:Int)) Ud Ud Ud) [bI T] (.exit 0)
      (rbE d (.int .i64 ((0:Nat):Int)) y7 y8 y9) [bI T']∧TI d T' 0 0:=by
  have hdn:=hd.1
  have hpw:=pow_le hdn.2
  intro U
  induction U with
  | zero =>
    intro T _ hT
    have s:=rbe_f_1 (d.map encR) d.length ((2 ^ d.length - 1:Nat):Int) (2 ^ d.length * d.length) (T.map encI) 0 (y7:=Ud) (y8:=Ud) (y9:=Ud) (y10:=Ud) (y11:=Ud) (y12:=Ud) (y13:=Ud) (by omega)
    exact ⟨T,_,_,_,lpo (sqo (s) (c:=sub [1,1,1,1,0,1,0,0] B40) (b:=sub [1,1,1,1,0,1,0,0,1] B40)),hT⟩
  | succ U ih =>
    intro T hU hT
    have s1:=rbe_f_0 (d.map encR) d.length ((2 ^ d.length - 1:Nat):Int) (2 ^ d.length * d.length) (T.map encI) (U+1) (y7:=Ud) (y8:=Ud) (y9:=Ud) (y10:=Ud) (y11:=Ud) (y12:=Ud) (y13:=Ud) (by omega)
    have s2:=rbe_g_0 (d.map encR) d.length ((2 ^ d.length - 1:Nat):Int) (2 ^ d.length * d.length) (T.map encI) (U+1) (y7:=Ud) (y8:=Ud) (y9:=Ud) (y10:=Ud) (y11:=Ud) (y12:=Ud) (y13:=Ud)
    obtain ⟨T1,y8,y9,r0,hT1⟩:=rb_b hd hU d.length 0 T (by omega) hT
    have s3:=rbe_o_0 (d.map encR) d.length ((2 ^ d.length - 1:Nat):Int) (2 ^ d.length * d.length) (T1.map encI) (U+1) (y7:=.int .i64 (d.length:Int)) (y8:=y8) (y9:=y9) (y10:=Ud) (y11:=Ud) (y12:=Ud) (y13:=Ud)
    rw [wrap_pred (by omega) (by omega),Nat.add_sub_cancel] at s3
    obtain ⟨T',y7,z8,z9,r,hT'⟩:=ih T1 (by omega) ⟨hT1.1,fun V hV hV2 b hb=>by
      rcases Nat.lt_or_ge (U+1) V with h | h
      · exact hT1.2.1 V h hV2 b hb
      · have:V=U+1:=by omega
        subst this
        exact hT1.2.2 b hb,fun b hb=>absurd hb (by omega)⟩
    exact ⟨T',y7,z8,z9,lop (sq (s1) (sq (RunsTo.block_normal (i:=1) (c:=sub [1,1,1,1,0,1,0,0,1,0] B40) (sq (s2) (bke (c:=sub [1,1,1,1,0,1,0,0,1,0,0,1] B40) (lpi (e0:=(rbE d (.int .i64 ((U+1:Nat):Int)) (.int .i64 ((0:Nat):Int)) Ud Ud)) r0 (b:=sub [1,1,1,1,0,1,0,0,1,0,0,1,0,0] B40))) (c:=sub [1,1,1,1,0,1,0,0,1,0,0] B40)) (by kernel_rfl)) (s3) (c:=sub [1,1,1,1,0,1,0,0,1] B40)) (c:=sub [1,1,1,1,0,1,0,0] B40)) (gc_eq _ rfl) (r),hT'⟩
end
end Go.Proofs.Ytlendaofkmhgmaa
end
section
open Go Go.HL
namespace Go.Proofs.Ytlendaofkmhgmaa
open Go.Proofs.Try renaming prog → Tp
open Go.HL.HV renaming undef → Ud
section
variable {d:List (List Int)}
abbrev rbF (d:List (List Int)) (v10 v11 v12 v13:HV):Env:=(env40 (.imm .arg 1 (d.map encR)) (.imm .lit 1 []) (.int .i64 (d.length:Int)) Ud (.sl 0 0 (2 ^ d.length * d.length) (some (2 ^ d.length * d.length)) (2 ^ d.length * d.length) 1) Ud Ud Ud Ud v10 v11 v12 v13)
def OI (T o:List Int) (tv:HV) (H:Heap):Prop:=(tv=.sl 1 0 1 (some 1) 1 1∧o=[0]∧H=[bI T,bI [0]]) ∨ (tv=.sl 2 0 o.length none o.length 1∧H=[bI T,bI [0],bI o])
theorem app_cap {H:Heap} (hl:H.length=2) (hb:H[1]?=some (bI [0])) (x:Int):appV H 1 8 (.sl 1 0 1 (some 1) 1 1) [.int .i64 x]=some (.sl 2 0 2 none 2 1,H ++ [bI ([0] ++ [x])]):=by
  simp only [appV,hb,hl]
  simp [roomMax,bnd,bndL,encI]
theorem gc_ln {base r:Nat} {H:Heap} (h:H.length ≤ r):gc base r H=H:=List.take_of_length_le (by omega)
theorem OI.app {T o:List Int} {tv:HV} {H:Heap} (h:OI T o tv H) (ho:o.length ≤ 500) (x:Int):appV H 1 8 tv [.int .i64 x]=some (.sl 2 0 (o.length+1) none (o.length+1) 1,[bI T,bI [0],bI (o ++ [x])]):=by
  rcases h with ⟨h1,h2,h3⟩ | ⟨h1,h3⟩
  · subst h1; subst h2; subst h3
    exact app_cap rfl rfl x
  · subst h1; subst h3
    have ap:=app_ints (H:=[bI T,bI [0],bI o]) (b:=2) (o:=o) (xs:=[x]) rfl (by simp; omega) (by simp)
    rw [show (o ++ [x]).length=o.length+1 by simp] at ap
    exact ap
theorem OI.len {T o:List Int} {tv:HV} {H:Heap} (h:OI T o tv H):lenV Tp H 23 tv=some (.int .i64 (o.length:Int)):=by
  rcases h with ⟨h1,h2,h3⟩ | ⟨h1,h3⟩
  · subst h1; subst h2; kernel_rfl
  · subst h1; kernel_rfl
theorem OI.get {T o:List Int} {tv:HV} {H:Heap} (h:OI T o tv H):H[0]?=some (bI T):=by
  rcases h with ⟨_,_,h3⟩ | ⟨_,h3⟩ <;> rw [h3] <;> rfl
theorem rb_e (hd:okD d) {U a:Nat} (hU:U < 2 ^ d.length) (h1:1 ≤ U) (ha:a < d.length) {T o:List Int} {tv:HV} {H:Heap} (hT:TI d T 0 0) (hO:OI T o tv H) (ho:o.length ≤ 500):∀ k v u,v+k=d.length → pck (okV d a (2 ^ d.length - 1 - U)) k v=some u →
    ∃ y13,RT polW 40 (sub [1,1,1,1,1,1,1,0,0,0,1,0,1,0] B40) (rbF d tv (.int .i64 (U:Int)) (.int .i64 (a:Int)) (.int .i64 (v:Int))) H (.exit 8)
      (rbF d (.sl 2 0 (o.length+1) none (o.length+1) 1) (.int .i64 ((U+2 ^ u:Nat):Int)) (.int .i64 (u:Int)) y13) [bI T,bI [0],bI (o ++ [(u:Int)])]:=by
  have hdn:=hd.1
  have hpw:=pow_le hdn.2
  intro k
  induction k with
  | zero=>intro v u _ h; cases h
  | succ k ih =>
    intro v u hv hq
    rw [pck] at hq
    have hix0:=ix_lt hU ha
    have hval0:=hT.2.1 U (by omega) hU a ha
    have hl0:=ldg (H:=H) (b:=0) (k:=U * d.length+a) (g:=T) hO.get hT.1 hix0
    rw [hval0] at hl0
    by_cases c:U.testBit v=false
    · obtain ⟨a1,a2,a3⟩:=left_add hU (show v < d.length by omega) c
      have b1:=hd.at ha (j:=v) (by omega)
      have b2:=rsT_bnd hd (s:=v) (L:=wo (2 ^ d.length - 1 - U) v) (by omega) (by have:=wo_le (2 ^ d.length - 1 - U) v; omega)
      have h2v:0 < 2 ^ v:=Nat.two_pow_pos v
      have hval:=hT.2.1 (U+2 ^ v) (by omega) a1 v (by omega)
      rw [a2] at hval
      have hix:=ix_lt a1 (show v < d.length by omega)
      have hl:=ldg (H:=H) (b:=0) (k:=(U+2 ^ v) * d.length+v) (g:=T) hO.get hT.1 hix
      rw [hval] at hl
      have w1:IntKind.i64.wrap ((U:Int)+((2 ^ v:Nat):Int))=((U+2 ^ v:Nat):Int):=by
        generalize 2 ^ v=x at a1
        rw [wrap_id (by omega) (by omega)]; omega
      have w2:IntKind.i64.wrap (at2 d a v+rsT d v (wo (2 ^ d.length - 1 - U) v))=at2 d a v+rsT d v (wo (2 ^ d.length - 1 - U) v):=wrap_id (by omega) (by omega)
      by_cases c2:at2 d a v+rsT d v (wo (2 ^ d.length - 1 - U) v)=rsT d a (2 ^ d.length - 1 - U)
      · have hok:okV d a (2 ^ d.length - 1 - U) v=true:=by simp [okV,a3,c2]
        rw [if_pos hok] at hq
        cases hq
        have s:=rbe_t_0 (d.map encR) d.length (2 ^ d.length * d.length) H tv U a v _ (y4:=Ud) (y6:=Ud) (y7:=Ud) (y8:=Ud) (y9:=Ud) (by omega) (bo_shr (by omega)) ((bit_rem U v).2 c) (g22 ha) (g23 hd ha (by omega)) (bo_shl (by omega)) (by rw [w1,wix (by omega) (by omega) (by omega)]; exact ixg hix) hl (by rw [wix (by omega) (by omega) (by omega)]; exact ixg hix0) hl0 (by rw [w2]; exact c2) (hO.app ho (v:Int)) (bo_shl (by omega))
        rw [w1] at s
        exact ⟨_,lpo (s)⟩
      · have hok:¬ okV d a (2 ^ d.length - 1 - U) v=true:=by simp [okV,a3,c2]
        rw [if_neg hok] at hq
        have s:=rbe_t_1 (d.map encR) d.length (2 ^ d.length * d.length) H tv U a v Ud (y4:=Ud) (y6:=Ud) (y7:=Ud) (y8:=Ud) (y9:=Ud) (by omega) (bo_shr (by omega)) ((bit_rem U v).2 c) (g22 ha) (g23 hd ha (by omega)) (bo_shl (by omega)) (by rw [w1,wix (by omega) (by omega) (by omega)]; exact ixg hix) hl (by rw [wix (by omega) (by omega) (by omega)]; exact ixg hix0) hl0 (by rw [w2]; exact c2)
        rw [wrap_succ (by omega)] at s
        obtain ⟨y13,r⟩:=ih (v+1) u (by omega) hq
        exact ⟨y13,lop (s) (gc_eq _ rfl) (r)⟩
    · have h3:(2 ^ d.length - 1 - U).testBit v=false:=by rw [left_bit hU (by omega)]; simpa using c
      have hok:¬ okV d a (2 ^ d.length - 1 - U) v=true:=by simp [okV,h3]
      rw [if_neg hok] at hq
      have s:=rbe_t_2 (d.map encR) d.length (2 ^ d.length * d.length) H tv U a v Ud (y4:=Ud) (y6:=Ud) (y7:=Ud) (y8:=Ud) (y9:=Ud) (by omega) (bo_shr (by omega)) (fun h=>c ((bit_rem U v).1 h))
      rw [wrap_succ (by omega)] at s
      obtain ⟨y13,r⟩:=ih (v+1) u (by omega) hq
      exact ⟨y13,lop (s) (gc_eq _ rfl) (r)⟩
theorem rb_d (hd:okD d) {T:List Int} (hT:TI d T 0 0):∀ (k a U:Nat) (o:List Int) (tv:HV) (H:Heap),2 ^ d.length - 1 - U ≤ k → 1 ≤ U → U < 2 ^ d.length → a < d.length → OI T o tv H → o.length+(grd d k a (2 ^ d.length - 1 - U)).length=d.length →
    ∃ tb cap H' y11 y12 y13,RT polW 40 (sub [1,1,1,1,1,1,1,0,0] B40) (rbF d tv (.int .i64 (U:Int)) (.int .i64 (a:Int)) Ud) H (.exit 6)
      (rbF d (.sl tb 0 (o ++ grd d k a (2 ^ d.length - 1 - U)).length cap (o ++ grd d k a (2 ^ d.length - 1 - U)).length 1) y11 y12 y13) H'∧H'[tb]?=some (bI (o ++ grd d k a (2 ^ d.length - 1 - U))):=by
  have hdn:=hd.1
  have hpw:=pow_le hdn.2
  have h0:∀ (a U:Nat) (o:List Int) (tv:HV) (H:Heap),OI T o tv H → o.length=d.length → ∃ tb cap H' y11 y12 y13,RT polW 40 (sub [1,1,1,1,1,1,1,0,0] B40) (rbF d tv (.int .i64 (U:Int)) (.int .i64 (a:Int)) Ud) H (.exit 6) (rbF d (.sl tb 0 (o ++ []).length cap (o ++ []).length 1) y11 y12 y13) H'∧H'[tb]?=some (bI (o ++ [])):=fun a U o tv H hO hl=>by
    rw [List.append_nil]
    have s:=rbe_r_1 (d.map encR) d.length (2 ^ d.length * d.length) H tv U a (y4:=Ud) (y6:=Ud) (y7:=Ud) (y8:=Ud) (y9:=Ud) (y13:=Ud) hO.len (by omega)
    have t:=lpo (sqo (s) (c:=sub [1,1,1,1,1,1,1,0,0,0] B40) (b:=sub [1,1,1,1,1,1,1,0,0,0,1] B40)) (c:=sub [1,1,1,1,1,1,1,0,0] B40)
    rcases hO with ⟨h1,h2,h3⟩ | ⟨h1,h3⟩
    · subst h1; subst h2; subst h3
      exact ⟨1,some 1,_,_,_,_,t,rfl⟩
    · subst h1; subst h3
      exact ⟨2,none,_,_,_,_,t,rfl⟩
  intro k
  induction k with
  | zero =>
    intro a U o tv H hk _ hU _ hO hl
    have e:grd d 0 a (2 ^ d.length - 1 - U)=[]:=rfl
    rw [e] at hl ⊢
    exact h0 a U o tv H hO (by simpa using hl)
  | succ k ih =>
    intro a U o tv H hk h1 hU ha hO hl
    by_cases cL:2 ^ d.length - 1 - U=0
    · rw [cL,grd,if_pos rfl] at hl ⊢
      exact h0 a U o tv H hO (by simpa using hl)
    · obtain ⟨u,p1,p2,p3,p4⟩:=pck_ok hd ha (by omega) cL
      have eg:grd d (k+1) a (2 ^ d.length - 1 - U)=(u:Int) :: grd d k u (wo (2 ^ d.length - 1 - U) u):=by rw [grd,if_neg cL,p1]
      rw [eg] at hl ⊢
      rw [List.length_cons] at hl
      have hub:U.testBit u=false:=by
        rw [left_bit hU p2] at p3
        simpa using p3
      obtain ⟨a1,a2,_⟩:=left_add hU p2 hub
      have hwl:=wo_lt p3
      rw [← a2] at hl hwl ⊢
      have s1:=rbe_r_0 (d.map encR) d.length (2 ^ d.length * d.length) H tv U a (y4:=Ud) (y6:=Ud) (y7:=Ud) (y8:=Ud) (y9:=Ud) (y13:=Ud) hO.len (by omega)
      have s2:=rbe_s_0 (d.map encR) d.length (2 ^ d.length * d.length) H tv U a (y4:=Ud) (y6:=Ud) (y7:=Ud) (y8:=Ud) (y9:=Ud) (y13:=Ud)
      obtain ⟨y13,r0⟩:=rb_e hd hU h1 ha hT hO (by omega) d.length 0 u (by omega) p1
      obtain ⟨tb,cap,H',y11,y12,z13,r,hr⟩:=ih u (U+2 ^ u) (o ++ [(u:Int)]) (.sl 2 0 (o.length+1) none (o.length+1) 1) [bI T,bI [0],bI (o ++ [(u:Int)])] (by omega) (by omega) a1 p2 (.inr ⟨by simp,rfl⟩) (by rw [List.length_append,List.length_singleton]; omega)
      rw [List.append_assoc] at r hr
      have hg:gc H.length (bndE (rbF d (.sl 2 0 (o.length+1) none (o.length+1) 1) (.int .i64 ((U+2 ^ u:Nat):Int)) (.int .i64 (u:Int)) Ud)) [bI T,bI [0],bI (o ++ [(u:Int)])]=[bI T,bI [0],bI (o ++ [(u:Int)])]:=gc_ln (by
        simp only [bndE,bnd,List.length_cons,List.length_nil]
        omega)
      exact ⟨tb,cap,H',y11,y12,z13,lop (sq (s1) (RunsTo.block_normal (i:=7) (c:=sub [1,1,1,1,1,1,1,0,0,0,1] B40) (sq (s2) (bke (c:=sub [1,1,1,1,1,1,1,0,0,0,1,0,1] B40) (lpi (e0:=(rbF d tv (.int .i64 (U:Int)) (.int .i64 (a:Int)) (.int .i64 ((0:Nat):Int)))) r0 (b:=sub [1,1,1,1,1,1,1,0,0,0,1,0,1,0,0] B40))) (c:=sub [1,1,1,1,1,1,1,0,0,0,1,0] B40)) (by kernel_rfl)) (c:=sub [1,1,1,1,1,1,1,0,0,0] B40)) hg (r),hr⟩
end
theorem rbest_ok:PrimOk Tp 40 best40:=by
  refine primOk_pure (pol:=polW) (fn:=Try.f40) (cd:=B40) follows_mixed soundW (by kernel_rfl) (by kernel_rfl) (fnok polW.prim _ _ (by kernel_rfl)) (by kernel_rfl) ?_
  intro args res h
  obtain ⟨d,rfl,hq⟩:=rwF_inv h
  clear h
  split at hq
  case isFalse=>cases hq
  rename_i hd
  cases hq
  have hdn:=hd.1
  have hpw:=pow_le hdn.2
  have h2:2 ≤ 2 ^ d.length:=by
    have:=Nat.pow_le_pow_right (n:=2) (by omega) hdn.1
    omega
  have a:=rbe_a_0 (d.map encR)
  have b:=rbe_b_0 (d.map encR) (y3:=Ud) (y4:=Ud) (y5:=Ud) (y6:=Ud) (y7:=Ud) (y8:=Ud) (y9:=Ud) (y10:=Ud) (y11:=Ud) (y12:=Ud) (y13:=Ud)
  rw [List.length_map] at b
  have c:=rbe_c_0 (d.map encR) d.length (y4:=Ud) (y5:=Ud) (y6:=Ud) (y7:=Ud) (y8:=Ud) (y9:=Ud) (y10:=Ud) (y11:=Ud) (y12:=Ud) (y13:=Ud) (bo_shl (by omega))
  have w1:IntKind.i64.wrap (((2 ^ d.length:Nat):Int) - 1)=((2 ^ d.length - 1:Nat):Int):=by
    generalize 2 ^ d.length=x at hpw h2
    rw [wrap_id (by omega) (by omega)]; omega
  rw [w1] at c
  have hmn:2 ^ d.length * d.length ≤ 2048 * 11:=Nat.mul_le_mul hpw hdn.2
  have w2:IntKind.i64.wrap (IntKind.i64.wrap (((2 ^ d.length - 1:Nat):Int)+1) * (d.length:Int))=((2 ^ d.length * d.length:Nat):Int):=by
    have e1:IntKind.i64.wrap (((2 ^ d.length - 1:Nat):Int)+1)=((2 ^ d.length:Nat):Int):=by
      generalize 2 ^ d.length=x at hpw h2
      rw [wrap_id (by omega) (by omega)]; omega
    rw [e1,show ((2 ^ d.length:Nat):Int) * (d.length:Int)=((2 ^ d.length * d.length:Nat):Int) by push_cast; rfl]
    generalize 2 ^ d.length * d.length=x at hmn
    rw [wrap_id (by omega) (by omega)]
  have mk:=makeV_ok (P:=Tp) (H:=[]) (t:=23) (e:=3) (k:=1) (bt:=8) (zv:=.int .i64 0) (n:=((2 ^ d.length * d.length:Nat):Int)) u23 (by kernel_rfl) (by simp [cellsOf,cellV]) (by simp [cellsOf]) (by omega) (by omega) (by simp only [roomMax]; omega)
  have dd:=rbe_d_0 (d.map encR) d.length ((2 ^ d.length - 1:Nat):Int) (y5:=Ud) (y6:=Ud) (y7:=Ud) (y8:=Ud) (y9:=Ud) (y10:=Ud) (y11:=Ud) (y12:=Ud) (y13:=Ud) (by rw [w2]; exact mk)
  rw [w2,Int.toNat_natCast] at dd
  have hrep:List.replicate (2 ^ d.length * d.length) (HV.int .i64 0)=(List.replicate (2 ^ d.length * d.length) (0:Int)).map encI:=by simp [encI]
  rw [hrep] at dd
  have e:=rbe_e_0 (d.map encR) d.length ((2 ^ d.length - 1:Nat):Int) (2 ^ d.length * d.length) ((List.replicate (2 ^ d.length * d.length) (0:Int)).map encI) (y6:=Ud) (y7:=Ud) (y8:=Ud) (y9:=Ud) (y10:=Ud) (y11:=Ud) (y12:=Ud) (y13:=Ud)
  obtain ⟨T,y7,y8,y9,r1,hT⟩:=rb_a hd (2 ^ d.length - 1) (List.replicate (2 ^ d.length * d.length) 0) (by omega) ⟨by simp,fun V h1 h2=>by omega,fun b hb=>by omega⟩
  have p:=rbe_p_0 (d.map encR) d.length ((2 ^ d.length - 1:Nat):Int) (2 ^ d.length * d.length) (T.map encI) Ud (y6:=.int .i64 ((0:Nat):Int)) (y7:=y7) (y8:=y8) (y9:=y9) (y10:=Ud) (y11:=Ud) (y12:=Ud) (y13:=Ud)
  have q:=rbe_q_0 (d.map encR) d.length (2 ^ d.length * d.length) [bI T,bI [0]] (.sl 1 0 1 (some 1) 1 1) (y4:=.int .i64 ((2 ^ d.length - 1:Nat):Int)) (y6:=.int .i64 ((0:Nat):Int)) (y7:=y7) (y8:=y8) (y9:=y9) (y11:=Ud) (y12:=Ud) (y13:=Ud)
  have ht:=best_tour hd
  obtain ⟨t1,t2,t3,t4⟩:=trOk_iff.1 ht
  have hbl:(bestT d).length=1+(grd d (2 ^ d.length) 0 (2 ^ d.length - 2)).length:=by simp only [bestT,List.length_cons]; omega
  have e2:2 ^ d.length - 1 - 1=2 ^ d.length - 2:=by omega
  obtain ⟨tb,cap,H',y11,y12,y13,r2,hr⟩:=rb_d hd hT (2 ^ d.length) 0 1 [0] (.sl 1 0 1 (some 1) 1 1) [bI T,bI [0]] (by omega) (Nat.le_refl _) (by omega) (by omega) (.inl ⟨rfl,rfl,rfl⟩) (by rw [e2,List.length_singleton]; omega)
  rw [e2] at r2 hr
  have eb:[0] ++ grd d (2 ^ d.length) 0 (2 ^ d.length - 2)=bestT d:=rfl
  rw [eb] at r2 hr
  have u:=rbe_u_0 (d.map encR) d.length (2 ^ d.length * d.length) H' (.sl tb 0 (bestT d).length cap (bestT d).length 1) (y3:=.int .i64 (d.length:Int)) (y4:=Ud) (y5:=.sl 0 0 (2 ^ d.length * d.length) (some (2 ^ d.length * d.length)) (2 ^ d.length * d.length) 1) (y6:=Ud) (y7:=Ud) (y8:=Ud) (y9:=Ud) (y11:=y11) (y12:=y12) (y13:=y13)
  have t:=sq (a) (sq (b) (sq (c) (sq (dd) (sq (sq (e) (bke (c:=sub [1,1,1,1,0,1] B40) (lpi (e0:=(rbE d (.int .i64 ((2 ^ d.length - 1:Nat):Int)) Ud Ud Ud)) r1 (b:=sub [1,1,1,1,0,1,0,0] B40))) (c:=sub [1,1,1,1,0] B40)) (sq (p) (sq (q) (sq (bke (c:=sub [1,1,1,1,1,1,1,0] B40) (lpi (e0:=((env40 (.imm .arg 1 (d.map encR)) (.imm .lit 1 []) (.int .i64 (d.length:Int)) (.int .i64 ((2 ^ d.length - 1:Nat):Int)) (.sl 0 0 (2 ^ d.length * d.length) (some (2 ^ d.length * d.length)) (2 ^ d.length * d.length) 1) (.int .i64 ((0:Nat):Int)) y7 y8 y9 (.sl 1 0 1 (some 1) 1 1) (.int .i64 ((1:Nat):Int)) (.int .i64 ((0:Nat):Int)) Ud))) r2 (b:=sub [1,1,1,1,1,1,1,0,0,0] B40))) (u) (c:=sub [1,1,1,1,1,1,1] B40)) (c:=sub [1,1,1,1,1,1] B40)) (c:=sub [1,1,1,1,1] B40)) (c:=sub [1,1,1,1] B40)) (c:=sub [1,1,1] B40)) (c:=sub [1,1] B40)) (c:=sub [1] B40)) (c:=B40)
  exact ⟨_,_,_,.sl tb 0 (bestT d).length cap (bestT d).length 1,t,by simp,by simp only [resultsV,res40]; rfl,res_lic hr rfl⟩
end Go.Proofs.Ytlendaofkmhgmaa
end
section
open Go Go.HL
namespace Go.Proofs.Ytlendaofkmhgmaa
open Go.Proofs.Try renaming prog → Tp
open Go.HL.HV renaming undef → Ud
noncomputable def polLo12:Pol:={ pol with prim:=fun g=>if g == 20 then some awakeF else if g == 27 then some modF else if g == 28 then some tame28 else if g == 15 then some table15 else if g == 33 then some tour33 else if g == 16 then some list16 else if g == 29 then some best29 else if g == 35 then some improve35 else if g == 31 then some climb31 else if g == 26 then some ints26 else if g == 40 then some best40 else none,freeze:=fun g r=>!(g == 12 && r == 9) }
theorem primLo12 (g:FuncId) (f:List HV → Option HV) (h:polLo12.prim g=some f):PrimOk Tp g f:=by
  unfold polLo12 at h
  simp only at h
  split at h
  · rename_i hg; cases h; rw [eq_of_beq hg]; exact awake_prim
  split at h
  · rename_i hg; cases h; rw [eq_of_beq hg]; exact mod_ok
  split at h
  · rename_i hg; cases h; rw [eq_of_beq hg]; exact tame_ok
  split at h
  · rename_i hg; cases h; rw [eq_of_beq hg]; exact table_ok
  split at h
  · rename_i hg; cases h; rw [eq_of_beq hg]; exact tour33_ok
  split at h
  · rename_i hg; cases h; rw [eq_of_beq hg]; exact list_ok
  split at h
  · rename_i hg; cases h; rw [eq_of_beq hg]; exact best_ok
  split at h
  · rename_i hg; cases h; rw [eq_of_beq hg]; exact improve_ok
  split at h
  · rename_i hg; cases h; rw [eq_of_beq hg]; exact climb_ok
  split at h
  · rename_i hg; cases h; rw [eq_of_beq hg]; exact ints_ok
  split at h
  · rename_i hg; cases h; rw [eq_of_beq hg]; exact rbest_ok
  · cases h
theorem fnOk_Lo12 (g:FuncId) (fn:Func):fnOk polLo12 g fn=fnOk pol g fn:=rfl
theorem soundLo12 (n:Nat):CallSound Tp (callN Tp polLo12 n) :=
  callN_ok follows_mixed (fun g fn h=>by
    rw [fnOk_Lo12]
    exact List.all_eq_true.1 fns_ok (fn,g) (by
      rw [List.mem_zipIdx_iff_getElem?]
      simpa using h)) primLo12 n
end Go.Proofs.Ytlendaofkmhgmaa
end
section
open Go Go.HL
namespace Go.Proofs.Ytlendaofkmhgmaa
set_option maxRecDepth 100000
open Go.Proofs.Try renaming prog → Tp
open Go.HL.HV renaming undef → Ud
noncomputable def B12:Code:=Try.f12.body.getD .skip
abbrev env12 (v0 v1 v4 v5 v6 v7 v8 v9 v10 v12 v13 v14 v15 v17 v18 v19 v20 v21 v23 v24:HV):Env:=[(0,v0),(1,v1),(4,v4),(5,v5),(6,v6),(7,v7),(8,v8),(9,v9),(10,v10),(12,v12),(13,v13),(14,v14),(15,v15),(17,v17),(18,v18),(19,v19),(20,v20),(21,v21),(23,v23),(24,v24)]
theorem low_a_0 (rw la:List HV) :RT polLo12 12 (sub [0] B12) [(0,.imm .arg 1 rw),(1,.imm .arg 1 la)] [] .normal (env12 (.imm .arg 1 rw) (.imm .arg 1 la) (.bool false) Ud Ud Ud Ud Ud Ud Ud Ud Ud Ud Ud Ud Ud Ud Ud Ud Ud) [] :=
  RunsTo.hin 0 60 [] fun kf hk=>⟨_,by kernel_rfl,.nil⟩
theorem low_b_0 (rw la:List HV)   {y5 y6 y7 y8 y9 y10 y12 y13 y14 y15 y17 y18 y19 y20 y21 y23 y24:HV} {md0:Int} (g0:∀ kf,callN Tp polLo12 (kf+1) 27 [.i (IntKind.i64.wrap ((rw.length:Int) - 1)),.i 8] []=some (.i md0,[])):RT polLo12 12 (sub [1,0] B12) (env12 (.imm .arg 1 rw) (.imm .arg 1 la) (.bool false) y5 y6 y7 y8 y9 y10 y12 y13 y14 y15 y17 y18 y19 y20 y21 y23 y24) [] .normal (env12 (.imm .arg 1 rw) (.imm .arg 1 la) (.bool false) (.i (IntKind.i64.wrap (1+md0))) y6 y7 y8 y9 y10 y12 y13 y14 y15 y17 y18 y19 y20 y21 y23 y24) [] :=
  RunsTo.hin 0 60 [⟨1,3,.i md0,[]⟩] fun kf hk=>⟨_,by kernel_rfl,(oC (g0 kf) .nil)⟩
theorem low_c_0 (rw la:List HV) (nn:Nat)   {y6 y7 y8 y9 y10 y12 y13 y14 y15 y17 y18 y19 y20 y21 y23 y24:HV} {q0:Nat} {o0:List HV} (g0:∀ kf,callN Tp polLo12 (kf+1) 28 [.imm .arg 1 rw,.i (nn:Int),.i 1000] []=some (.sl 0 0 q0 none q0 1,[.arr 1 o0 true 0])):RT polLo12 12 (sub [1,1,0] B12) (env12 (.imm .arg 1 rw) (.imm .arg 1 la) (.bool false) (.i (nn:Int)) y6 y7 y8 y9 y10 y12 y13 y14 y15 y17 y18 y19 y20 y21 y23 y24) [] .normal (env12 (.imm .arg 1 rw) (.imm .arg 1 la) (.bool false) (.i (nn:Int)) (.sl 0 0 q0 none q0 1) y7 y8 y9 y10 y12 y13 y14 y15 y17 y18 y19 y20 y21 y23 y24) [.arr 1 o0 true 0] :=
  RunsTo.hin 0 60 [⟨2,2,.sl 0 0 q0 none q0 1,[.arr 1 o0 true 0]⟩] fun kf hk=>⟨_,by kernel_rfl,(oC (g0 kf) .nil)⟩
theorem low_d_0 (rw la:List HV) (nn:Nat) (q0:Nat) (o0:List HV)  {y7 y8 y9 y10 y12 y13 y14 y15 y17 y18 y19 y20 y21 y23 y24:HV} {q1:Nat} {o1:List HV} (g0:∀ kf,callN Tp polLo12 (kf+1) 15 [.sl 0 0 q0 none q0 1] [.arr 1 o0 true 0]=some (.sl 1 0 q1 none q1 1,[.arr 1 o0 true 0,.arr 1 o1 true 0])):RT polLo12 12 (sub [1,1,1,0] B12) (env12 (.imm .arg 1 rw) (.imm .arg 1 la) (.bool false) (.i (nn:Int)) (.sl 0 0 q0 none q0 1) y7 y8 y9 y10 y12 y13 y14 y15 y17 y18 y19 y20 y21 y23 y24) [.arr 1 o0 true 0] .normal (env12 (.imm .arg 1 rw) (.imm .arg 1 la) (.bool false) (.i (nn:Int)) (.sl 0 0 q0 none q0 1) (.sl 1 0 q1 none q1 1) y8 y9 y10 y12 y13 y14 y15 y17 y18 y19 y20 y21 y23 y24) [.arr 1 o0 true 0,.arr 1 o1 true 0] :=
  RunsTo.hin 0 60 [⟨3,1,.sl 1 0 q1 none q1 1,[.arr 1 o0 true 0,.arr 1 o1 true 0]⟩] fun kf hk=>⟨_,by kernel_rfl,(oC (g0 kf) .nil)⟩
theorem low_e_0 (rw la:List HV) (nn:Nat) (q0:Nat) (o0:List HV) (q1:Nat) (o1:List HV)  {y8 y9 y10 y12 y13 y14 y15 y17 y18 y19 y20 y21 y23 y24:HV} {q2:Nat} {o2:List HV} (g0:∀ kf,callN Tp polLo12 (kf+1) 33 [.imm .arg 1 la,.i (nn:Int)] [.arr 1 o0 true 0,.arr 1 o1 true 0]=some (.sl 2 0 q2 none q2 1,[.arr 1 o0 true 0,.arr 1 o1 true 0,.arr 1 o2 true 0])):RT polLo12 12 (sub [1,1,1,1,0] B12) (env12 (.imm .arg 1 rw) (.imm .arg 1 la) (.bool false) (.i (nn:Int)) (.sl 0 0 q0 none q0 1) (.sl 1 0 q1 none q1 1) y8 y9 y10 y12 y13 y14 y15 y17 y18 y19 y20 y21 y23 y24) [.arr 1 o0 true 0,.arr 1 o1 true 0] .normal (env12 (.imm .arg 1 rw) (.imm .arg 1 la) (.bool false) (.i (nn:Int)) (.sl 0 0 q0 none q0 1) (.sl 1 0 q1 none q1 1) (.sl 2 0 q2 none q2 1) y9 y10 y12 y13 y14 y15 y17 y18 y19 y20 y21 y23 y24) [.arr 1 o0 true 0,.arr 1 o1 true 0,.arr 1 o2 true 0] :=
  RunsTo.hin 0 60 [⟨4,2,.sl 2 0 q2 none q2 1,[.arr 1 o0 true 0,.arr 1 o1 true 0,.arr 1 o2 true 0]⟩] fun kf hk=>⟨_,by kernel_rfl,(oC (g0 kf) .nil)⟩
theorem low_f_0 (rw la:List HV) (nn:Nat) (q0:Nat) (o0:List HV) (q1:Nat) (o1:List HV) (q2:Nat) (o2:List HV)  {y9 y10 y12 y13 y14 y15 y17 y18 y19 y20 y21 y23 y24:HV} {q3:Nat} {o3:List HV} (g0:∀ kf,callN Tp polLo12 (kf+1) 16 [.sl 2 0 q2 none q2 1] [.arr 1 o0 true 0,.arr 1 o1 true 0,.arr 1 o2 true 0]=some (.sl 3 0 q3 none q3 1,[.arr 1 o0 true 0,.arr 1 o1 true 0,.arr 1 o2 true 0,.arr 1 o3 true 0])):RT polLo12 12 (sub [1,1,1,1,1,0] B12) (env12 (.imm .arg 1 rw) (.imm .arg 1 la) (.bool false) (.i (nn:Int)) (.sl 0 0 q0 none q0 1) (.sl 1 0 q1 none q1 1) (.sl 2 0 q2 none q2 1) y9 y10 y12 y13 y14 y15 y17 y18 y19 y20 y21 y23 y24) [.arr 1 o0 true 0,.arr 1 o1 true 0,.arr 1 o2 true 0] .normal (env12 (.imm .arg 1 rw) (.imm .arg 1 la) (.bool false) (.i (nn:Int)) (.sl 0 0 q0 none q0 1) (.sl 1 0 q1 none q1 1) (.sl 2 0 q2 none q2 1) (.sl 3 0 q3 none q3 1) y10 y12 y13 y14 y15 y17 y18 y19 y20 y21 y23 y24) [.arr 1 o0 true 0,.arr 1 o1 true 0,.arr 1 o2 true 0,.arr 1 o3 true 0] :=
  RunsTo.hin 0 60 [⟨5,1,.sl 3 0 q3 none q3 1,[.arr 1 o0 true 0,.arr 1 o1 true 0,.arr 1 o2 true 0,.arr 1 o3 true 0]⟩] fun kf hk=>⟨_,by kernel_rfl,(oC (g0 kf) .nil)⟩
theorem low_g_0 (rw la:List HV) (nn:Nat) (q0:Nat) (o0:List HV) (q1:Nat) (o1:List HV) (q2:Nat) (o2:List HV) (q3:Nat) (o3:List HV)  {y10 y12 y13 y14 y15 y17 y18 y19 y20 y21 y23 y24:HV} {q4:Nat} {o4:List HV} {v4:Int} (g0:∀ kf,callN Tp polLo12 (kf+1) 29 [.sl 0 0 q0 none q0 1] [.arr 1 o0 true 0,.arr 1 o1 true 0,.arr 1 o2 true 0,.arr 1 o3 true 0]=some (.tuple [.sl 4 0 q4 none q4 1,.i v4,.i 0],[.arr 1 o0 true 0,.arr 1 o1 true 0,.arr 1 o2 true 0,.arr 1 o3 true 0,.arr 1 o4 true 0])):RT polLo12 12 (sub [1,1,1,1,1,1,0] B12) (env12 (.imm .arg 1 rw) (.imm .arg 1 la) (.bool false) (.i (nn:Int)) (.sl 0 0 q0 none q0 1) (.sl 1 0 q1 none q1 1) (.sl 2 0 q2 none q2 1) (.sl 3 0 q3 none q3 1) y10 y12 y13 y14 y15 y17 y18 y19 y20 y21 y23 y24) [.arr 1 o0 true 0,.arr 1 o1 true 0,.arr 1 o2 true 0,.arr 1 o3 true 0] .normal (env12 (.imm .arg 1 rw) (.imm .arg 1 la) (.bool false) (.i (nn:Int)) (.sl 0 0 q0 none q0 1) (.sl 1 0 q1 none q1 1) (.sl 2 0 q2 none q2 1) (.sl 3 0 q3 none q3 1) (.sl 4 0 q4 none q4 1) (.i 0) y13 y14 y15 y17 y18 y19 y20 y21 y23 y24) [.arr 1 o0 true 0,.arr 1 o1 true 0,.arr 1 o2 true 0,.arr 1 o3 true 0,.arr 1 o4 true 0] :=
  RunsTo.hin 0 60 [⟨6,1,.tuple [.sl 4 0 q4 none q4 1,.i v4,.i 0],[.arr 1 o0 true 0,.arr 1 o1 true 0,.arr 1 o2 true 0,.arr 1 o3 true 0,.arr 1 o4 true 0]⟩] fun kf hk=>⟨_,by kernel_rfl,(oC (g0 kf) .nil)⟩
theorem low_h_0 (rw la:List HV) (nn:Nat) (q0:Nat) (o0:List HV) (q1:Nat) (o1:List HV) (q2:Nat) (o2:List HV) (q3:Nat) (o3:List HV) (q4:Nat) (o4:List HV)  {y13 y14 y15 y17 y18 y19 y20 y21 y23 y24:HV} {q5:Nat} {o5:List HV} (g0:∀ kf,callN Tp polLo12 (kf+1) 35 [.sl 0 0 q0 none q0 1,.sl 2 0 q2 none q2 1] [.arr 1 o0 true 0,.arr 1 o1 true 0,.arr 1 o2 true 0,.arr 1 o3 true 0,.arr 1 o4 true 0]=some (.tuple [.sl 5 0 q5 none q5 1,.i 0],[.arr 1 o0 true 0,.arr 1 o1 true 0,.arr 1 o2 true 0,.arr 1 o3 true 0,.arr 1 o4 true 0,.arr 1 o5 true 0])):RT polLo12 12 (sub [1,1,1,1,1,1,1,0] B12) (env12 (.imm .arg 1 rw) (.imm .arg 1 la) (.bool false) (.i (nn:Int)) (.sl 0 0 q0 none q0 1) (.sl 1 0 q1 none q1 1) (.sl 2 0 q2 none q2 1) (.sl 3 0 q3 none q3 1) (.sl 4 0 q4 none q4 1) (.i 0) y13 y14 y15 y17 y18 y19 y20 y21 y23 y24) [.arr 1 o0 true 0,.arr 1 o1 true 0,.arr 1 o2 true 0,.arr 1 o3 true 0,.arr 1 o4 true 0] .normal (env12 (.imm .arg 1 rw) (.imm .arg 1 la) (.bool false) (.i (nn:Int)) (.sl 0 0 q0 none q0 1) (.sl 1 0 q1 none q1 1) (.sl 2 0 q2 none q2 1) (.sl 3 0 q3 none q3 1) (.sl 4 0 q4 none q4 1) (.i 0) (.sl 5 0 q5 none q5 1) (.i 0) y15 y17 y18 y19 y20 y21 y23 y24) [.arr 1 o0 true 0,.arr 1 o1 true 0,.arr 1 o2 true 0,.arr 1 o3 true 0,.arr 1 o4 true 0,.arr 1 o5 true 0] :=
  RunsTo.hin 0 60 [⟨7,2,.tuple [.sl 5 0 q5 none q5 1,.i 0],[.arr 1 o0 true 0,.arr 1 o1 true 0,.arr 1 o2 true 0,.arr 1 o3 true 0,.arr 1 o4 true 0,.arr 1 o5 true 0]⟩] fun kf hk=>⟨_,by kernel_rfl,(oC (g0 kf) .nil)⟩
theorem low_i_0 (rw la:List HV) (nn:Nat) (q0:Nat) (o0:List HV) (q1:Nat) (o1:List HV) (q2:Nat) (o2:List HV) (q3:Nat) (o3:List HV) (q4:Nat) (o4:List HV) (q5:Nat) (o5:List HV)  {y15 y17 y18 y19 y20 y21 y23 y24:HV} {q6:Nat} {o6:List HV} {v6:Int} (g0:∀ kf,callN Tp polLo12 (kf+1) 31 [.sl 0 0 q0 none q0 1,.i 5] [.arr 1 o0 true 0,.arr 1 o1 true 0,.arr 1 o2 true 0,.arr 1 o3 true 0,.arr 1 o4 true 0,.arr 1 o5 true 0]=some (.tuple [.sl 6 0 q6 none q6 1,.i v6,.i 0],[.arr 1 o0 true 0,.arr 1 o1 true 0,.arr 1 o2 true 0,.arr 1 o3 true 0,.arr 1 o4 true 0,.arr 1 o5 true 0,.arr 1 o6 true 0])):RT polLo12 12 (sub [1,1,1,1,1,1,1,1,0] B12) (env12 (.imm .arg 1 rw) (.imm .arg 1 la) (.bool false) (.i (nn:Int)) (.sl 0 0 q0 none q0 1) (.sl 1 0 q1 none q1 1) (.sl 2 0 q2 none q2 1) (.sl 3 0 q3 none q3 1) (.sl 4 0 q4 none q4 1) (.i 0) (.sl 5 0 q5 none q5 1) (.i 0) y15 y17 y18 y19 y20 y21 y23 y24) [.arr 1 o0 true 0,.arr 1 o1 true 0,.arr 1 o2 true 0,.arr 1 o3 true 0,.arr 1 o4 true 0,.arr 1 o5 true 0] .normal (env12 (.imm .arg 1 rw) (.imm .arg 1 la) (.bool false) (.i (nn:Int)) (.sl 0 0 q0 none q0 1) (.sl 1 0 q1 none q1 1) (.sl 2 0 q2 none q2 1) (.sl 3 0 q3 none q3 1) (.sl 4 0 q4 none q4 1) (.i 0) (.sl 5 0 q5 none q5 1) (.i 0) (.sl 6 0 q6 none q6 1) (.i 0) y18 y19 y20 y21 y23 y24) [.arr 1 o0 true 0,.arr 1 o1 true 0,.arr 1 o2 true 0,.arr 1 o3 true 0,.arr 1 o4 true 0,.arr 1 o5 true 0,.arr 1 o6 true 0] :=
  RunsTo.hin 0 60 [⟨8,1,.tuple [.sl 6 0 q6 none q6 1,.i v6,.i 0],[.arr 1 o0 true 0,.arr 1 o1 true 0,.arr 1 o2 true 0,.arr 1 o3 true 0,.arr 1 o4 true 0,.arr 1 o5 true 0,.arr 1 o6 true 0]⟩] fun kf hk=>⟨_,by kernel_rfl,(oC (g0 kf) .nil)⟩
theorem lox_j_0 (rw la:List HV) (H:Heap) (nn q0 q1 q2 q3:Nat) (q4 q5 q6 ab:Nat) {y18 y19 y20 y21 y23 y24:HV} {H0:Heap} (g0:litV Tp false true 22 3 [(0,.sl 4 0 q4 none q4 1),(1,.sl 5 0 q5 none q5 1),(2,.sl 6 0 q6 none q6 1)] H=some (.sl ab 0 3 (some 3) 3 1,H0)):RT polLo12 12 (sub [1,1,1,1,1,1,1,1,1,0] B12) (env12 (.imm .arg 1 rw) (.imm .arg 1 la) (.bool false) (.i (nn:Int)) (.sl 0 0 q0 none q0 1) (.sl 1 0 q1 none q1 1) (.sl 2 0 q2 none q2 1) (.sl 3 0 q3 none q3 1) (.sl 4 0 q4 none q4 1) (.i 0) (.sl 5 0 q5 none q5 1) (.i 0) (.sl 6 0 q6 none q6 1) (.i 0) y18 y19 y20 y21 y23 y24) H .normal (env12 (.imm .arg 1 rw) (.imm .arg 1 la) (.bool false) (.i (nn:Int)) (.sl 0 0 q0 none q0 1) (.sl 1 0 q1 none q1 1) (.sl 2 0 q2 none q2 1) (.sl 3 0 q3 none q3 1) (.sl 4 0 q4 none q4 1) (.i 0) (.sl 5 0 q5 none q5 1) (.i 0) (.sl 6 0 q6 none q6 1) (.i 0) (.sl ab 0 3 (some 3) 3 1) y19 y20 y21 y23 y24) H0 :=
  RunsTo.hin 0 60 [⟨9,3,.sl ab 0 3 (some 3) 3 1,H0⟩] fun kf hk=>⟨_,by kernel_rfl,(oC (g0) .nil)⟩
theorem lox_k_0 (rw la:List HV) (H:Heap) (nn q0 q1 q2 q3:Nat) (ab:Nat) {y10 y13 y15 y19 y20 y21 y23 y24:HV}:RT polLo12 12 (sub [1,1,1,1,1,1,1,1,1,1,0,0] B12) (env12 (.imm .arg 1 rw) (.imm .arg 1 la) (.bool false) (.i (nn:Int)) (.sl 0 0 q0 none q0 1) (.sl 1 0 q1 none q1 1) (.sl 2 0 q2 none q2 1) (.sl 3 0 q3 none q3 1) y10 (.i 0) y13 (.i 0) y15 (.i 0) (.sl ab 0 3 (some 3) 3 1) y19 y20 y21 y23 y24) H .normal (env12 (.imm .arg 1 rw) (.imm .arg 1 la) (.bool false) (.i (nn:Int)) (.sl 0 0 q0 none q0 1) (.sl 1 0 q1 none q1 1) (.sl 2 0 q2 none q2 1) (.sl 3 0 q3 none q3 1) y10 (.i 0) y13 (.i 0) y15 (.i 0) (.sl ab 0 3 (some 3) 3 1) (.i 0) y20 y21 y23 y24) H :=
  RunsTo.hin 0 60 [] fun kf hk=>⟨_,by kernel_rfl,.nil⟩
theorem lox_l_0 (rw la:List HV) (H:Heap) (nn q0 q1 q2 q3:Nat) (ab i:Nat) (xb z:Nat) {y10 y13 y15 y20 y21 y23 y24:HV}(g0:(i:Int) < 3):RT polLo12 12 (sub [1,1,1,1,1,1,1,1,1,1,0,1,0,0,0] B12) (env12 (.imm .arg 1 rw) (.imm .arg 1 la) (.bool false) (.i (nn:Int)) (.sl 0 0 q0 none q0 1) (.sl 1 0 q1 none q1 1) (.sl 2 0 q2 none q2 1) (.sl 3 0 q3 none q3 1) y10 (.i 0) y13 (.i 0) y15 (.i 0) (.sl ab 0 3 (some 3) 3 1) (.i (i:Int)) y20 y21 y23 y24) H .normal (env12 (.imm .arg 1 rw) (.imm .arg 1 la) (.bool false) (.i (nn:Int)) (.sl 0 0 q0 none q0 1) (.sl 1 0 q1 none q1 1) (.sl 2 0 q2 none q2 1) (.sl 3 0 q3 none q3 1) y10 (.i 0) y13 (.i 0) y15 (.i 0) (.sl ab 0 3 (some 3) 3 1) (.i (i:Int)) y20 y21 y23 y24) H :=
  RunsTo.hin 0 60 [⟨11,3,.bool true,H⟩] fun kf hk=>⟨_,by kernel_rfl,(oB H (decide_eq_true g0) .nil)⟩
theorem lox_l_1 (rw la:List HV) (H:Heap) (nn q0 q1 q2 q3:Nat) (ab i:Nat) (xb z:Nat) {y10 y13 y15 y20 y21 y23 y24:HV}(g0:¬ ((i:Int) < 3)):RT polLo12 12 (sub [1,1,1,1,1,1,1,1,1,1,0,1,0,0,0] B12) (env12 (.imm .arg 1 rw) (.imm .arg 1 la) (.bool false) (.i (nn:Int)) (.sl 0 0 q0 none q0 1) (.sl 1 0 q1 none q1 1) (.sl 2 0 q2 none q2 1) (.sl 3 0 q3 none q3 1) y10 (.i 0) y13 (.i 0) y15 (.i 0) (.sl ab 0 3 (some 3) 3 1) (.i (i:Int)) y20 y21 y23 y24) H (.exit 0) (env12 (.imm .arg 1 rw) (.imm .arg 1 la) (.bool false) (.i (nn:Int)) (.sl 0 0 q0 none q0 1) (.sl 1 0 q1 none q1 1) (.sl 2 0 q2 none q2 1) (.sl 3 0 q3 none q3 1) y10 (.i 0) y13 (.i 0) y15 (.i 0) (.sl ab 0 3 (some 3) 3 1) (.i (i:Int)) y20 y21 y23 y24) H :=
  RunsTo.hin 0 60 [⟨11,3,.bool false,H⟩] fun kf hk=>⟨_,by kernel_rfl,(oB H (decide_eq_false g0) .nil)⟩
theorem lox_m_0 (rw la:List HV) (H:Heap) (nn q0 q1 q2 q3:Nat) (ab i:Nat) (xb z:Nat) {y10 y13 y15 y20 y21 y23 y24:HV}:RT polLo12 12 (sub [1,1,1,1,1,1,1,1,1,1,0,1,0,0,1,0,0,0] B12) (env12 (.imm .arg 1 rw) (.imm .arg 1 la) (.bool false) (.i (nn:Int)) (.sl 0 0 q0 none q0 1) (.sl 1 0 q1 none q1 1) (.sl 2 0 q2 none q2 1) (.sl 3 0 q3 none q3 1) y10 (.i 0) y13 (.i 0) y15 (.i 0) (.sl ab 0 3 (some 3) 3 1) (.i (i:Int)) y20 y21 y23 y24) H .normal (env12 (.imm .arg 1 rw) (.imm .arg 1 la) (.bool false) (.i (nn:Int)) (.sl 0 0 q0 none q0 1) (.sl 1 0 q1 none q1 1) (.sl 2 0 q2 none q2 1) (.sl 3 0 q3 none q3 1) y10 (.i 0) y13 (.i 0) y15 (.i 0) (.sl ab 0 3 (some 3) 3 1) (.i (i:Int)) (.i 0) y21 y23 y24) H :=
  RunsTo.hin 0 60 [] fun kf hk=>⟨_,by kernel_rfl,.nil⟩
theorem lox_n_0 (rw la:List HV) (H:Heap) (nn q0 q1 q2 q3:Nat) (ab i j:Nat) (xb z:Nat) {y10 y13 y15 y21 y23 y24:HV} {H0:Heap} (g0:idxV Tp 22 (.sl ab 0 3 (some 3) 3 1) (.i (i:Int))=some (.ptr ab i 0 3)) (g1:loadV Tp H 23 (.ptr ab i 0 3)=some (.sl xb 0 z none z 1)) (g2:(j:Int) < (z:Int)) (g3:idxV Tp 22 (.sl ab 0 3 (some 3) 3 1) (.i (i:Int))=some (.ptr ab i 0 3)) (g4:loadV Tp H 23 (.ptr ab i 0 3)=some (.sl xb 0 z none z 1)) (g5:idxV Tp 23 (.sl xb 0 z none z 1) (.i (j:Int))=some (.ptr xb j 0 z)) (g6:storeV Tp H 3 (.ptr xb j 0 z) (.i (-7))=some H0):RT polLo12 12 (sub [1,1,1,1,1,1,1,1,1,1,0,1,0,0,1,0,0,1,0,0] B12) (env12 (.imm .arg 1 rw) (.imm .arg 1 la) (.bool false) (.i (nn:Int)) (.sl 0 0 q0 none q0 1) (.sl 1 0 q1 none q1 1) (.sl 2 0 q2 none q2 1) (.sl 3 0 q3 none q3 1) y10 (.i 0) y13 (.i 0) y15 (.i 0) (.sl ab 0 3 (some 3) 3 1) (.i (i:Int)) (.i (j:Int)) y21 y23 y24) H .normal (env12 (.imm .arg 1 rw) (.imm .arg 1 la) (.bool false) (.i (nn:Int)) (.sl 0 0 q0 none q0 1) (.sl 1 0 q1 none q1 1) (.sl 2 0 q2 none q2 1) (.sl 3 0 q3 none q3 1) y10 (.i 0) y13 (.i 0) y15 (.i 0) (.sl ab 0 3 (some 3) 3 1) (.i (i:Int)) (.i (IntKind.i64.wrap ((j:Int)+1))) y21 y23 y24) H0 :=
  RunsTo.hin 0 60 [⟨14,3,.ptr ab i 0 3,H⟩,⟨14,4,.sl xb 0 z none z 1,H⟩,⟨14,6,.bool true,H⟩,⟨16,2,.ptr ab i 0 3,H⟩,⟨16,3,.sl xb 0 z none z 1,H⟩,⟨16,5,.ptr xb j 0 z,H⟩,⟨16,6,.tuple [],H0⟩] fun kf hk=>⟨_,by kernel_rfl,(oP H g0 (oP H g1 (oB H (decide_eq_true g2) (oP H g3 (oP H g4 (oP H g5 (oS g6 .nil)))))))⟩
theorem lox_n_1 (rw la:List HV) (H:Heap) (nn q0 q1 q2 q3:Nat) (ab i j:Nat) (xb z:Nat) {y10 y13 y15 y21 y23 y24:HV}(g0:idxV Tp 22 (.sl ab 0 3 (some 3) 3 1) (.i (i:Int))=some (.ptr ab i 0 3)) (g1:loadV Tp H 23 (.ptr ab i 0 3)=some (.sl xb 0 z none z 1)) (g2:¬ ((j:Int) < (z:Int))):RT polLo12 12 (sub [1,1,1,1,1,1,1,1,1,1,0,1,0,0,1,0,0,1,0,0] B12) (env12 (.imm .arg 1 rw) (.imm .arg 1 la) (.bool false) (.i (nn:Int)) (.sl 0 0 q0 none q0 1) (.sl 1 0 q1 none q1 1) (.sl 2 0 q2 none q2 1) (.sl 3 0 q3 none q3 1) y10 (.i 0) y13 (.i 0) y15 (.i 0) (.sl ab 0 3 (some 3) 3 1) (.i (i:Int)) (.i (j:Int)) y21 y23 y24) H (.exit 2) (env12 (.imm .arg 1 rw) (.imm .arg 1 la) (.bool false) (.i (nn:Int)) (.sl 0 0 q0 none q0 1) (.sl 1 0 q1 none q1 1) (.sl 2 0 q2 none q2 1) (.sl 3 0 q3 none q3 1) y10 (.i 0) y13 (.i 0) y15 (.i 0) (.sl ab 0 3 (some 3) 3 1) (.i (i:Int)) (.i (j:Int)) y21 y23 y24) H :=
  RunsTo.hin 0 60 [⟨14,3,.ptr ab i 0 3,H⟩,⟨14,4,.sl xb 0 z none z 1,H⟩,⟨14,6,.bool false,H⟩] fun kf hk=>⟨_,by kernel_rfl,(oP H g0 (oP H g1 (oB H (decide_eq_false g2) .nil)))⟩
theorem lox_o_0 (rw la:List HV) (H:Heap) (nn q0 q1 q2 q3:Nat) (ab i:Nat) (xb z:Nat) {y10 y13 y15 y20 y21 y23 y24:HV}:RT polLo12 12 (sub [1,1,1,1,1,1,1,1,1,1,0,1,0,0,1,1] B12) (env12 (.imm .arg 1 rw) (.imm .arg 1 la) (.bool false) (.i (nn:Int)) (.sl 0 0 q0 none q0 1) (.sl 1 0 q1 none q1 1) (.sl 2 0 q2 none q2 1) (.sl 3 0 q3 none q3 1) y10 (.i 0) y13 (.i 0) y15 (.i 0) (.sl ab 0 3 (some 3) 3 1) (.i (i:Int)) y20 y21 y23 y24) H .normal (env12 (.imm .arg 1 rw) (.imm .arg 1 la) (.bool false) (.i (nn:Int)) (.sl 0 0 q0 none q0 1) (.sl 1 0 q1 none q1 1) (.sl 2 0 q2 none q2 1) (.sl 3 0 q3 none q3 1) y10 (.i 0) y13 (.i 0) y15 (.i 0) (.sl ab 0 3 (some 3) 3 1) (.i (IntKind.i64.wrap ((i:Int)+1))) y20 y21 y23 y24) H :=
  RunsTo.hin 0 60 [] fun kf hk=>⟨_,by kernel_rfl,.nil⟩
theorem lox_p_0 (rw la:List HV) (H:Heap) (nn q0 q1 q2 q3:Nat) (eb qe:Nat) {y10 y13 y15 y18 y19 y20 y21 y23 y24:HV} {ve:Int} {H0:Heap} (g0:∀ kf,callN Tp polLo12 (kf+1) 29 [.sl 0 0 q0 none q0 1] H=some (.tuple [.sl eb 0 qe none qe 1,.i ve,.i 0],H0)):RT polLo12 12 (sub [1,1,1,1,1,1,1,1,1,1,1,0] B12) (env12 (.imm .arg 1 rw) (.imm .arg 1 la) (.bool false) (.i (nn:Int)) (.sl 0 0 q0 none q0 1) (.sl 1 0 q1 none q1 1) (.sl 2 0 q2 none q2 1) (.sl 3 0 q3 none q3 1) y10 (.i 0) y13 (.i 0) y15 (.i 0) y18 y19 y20 y21 y23 y24) H .normal (env12 (.imm .arg 1 rw) (.imm .arg 1 la) (.bool false) (.i (nn:Int)) (.sl 0 0 q0 none q0 1) (.sl 1 0 q1 none q1 1) (.sl 2 0 q2 none q2 1) (.sl 3 0 q3 none q3 1) y10 (.i 0) y13 (.i 0) y15 (.i 0) y18 y19 y20 (.sl eb 0 qe none qe 1) (.i 0) y24) H0 :=
  RunsTo.hin 0 60 [⟨17,1,.tuple [.sl eb 0 qe none qe 1,.i ve,.i 0],H0⟩] fun kf hk=>⟨_,by kernel_rfl,(oC (g0 kf) .nil)⟩
theorem lox_q_0 (rw la:List HV) (H:Heap) (nn q0 q1 q2 q3:Nat) (eb qe fb qf:Nat) {y10 y13 y15 y18 y19 y20 y24:HV} {H0:Heap} {H1:Heap} {H2:Heap} (g0:∀ kf,callN Tp polLo12 (kf+1) 26 [.sl 2 0 q2 none q2 1,.sl 3 0 q3 none q3 1] H=some (.bool true,H0)) (g1:∀ kf,callN Tp polLo12 (kf+1) 40 [.sl 1 0 q1 none q1 1] H0=some (.sl fb 0 qf none qf 1,H1)) (g2:∀ kf,callN Tp polLo12 (kf+1) 26 [.sl eb 0 qe none qe 1,.sl fb 0 qf none qf 1] H1=some (.bool true,H2)) (g3:(q0:Int)=(q1:Int)):RT polLo12 12 (sub [1,1,1,1,1,1,1,1,1,1,1,1,0] B12) (env12 (.imm .arg 1 rw) (.imm .arg 1 la) (.bool false) (.i (nn:Int)) (.sl 0 0 q0 none q0 1) (.sl 1 0 q1 none q1 1) (.sl 2 0 q2 none q2 1) (.sl 3 0 q3 none q3 1) y10 (.i 0) y13 (.i 0) y15 (.i 0) y18 y19 y20 (.sl eb 0 qe none qe 1) (.i 0) y24) H .normal (env12 (.imm .arg 1 rw) (.imm .arg 1 la) (.bool false) (.i (nn:Int)) (.sl 0 0 q0 none q0 1) (.sl 1 0 q1 none q1 1) (.sl 2 0 q2 none q2 1) (.sl 3 0 q3 none q3 1) y10 (.i 0) y13 (.i 0) y15 (.i 0) y18 y19 y20 (.sl eb 0 qe none qe 1) (.i 0) y24) H2 :=
  RunsTo.hin 0 60 [⟨18,17,.bool true,H0⟩,⟨18,23,.sl fb 0 qf none qf 1,H1⟩,⟨18,24,.bool true,H2⟩,⟨18,32,.bool false,H2⟩] fun kf hk=>⟨_,by kernel_rfl,(oC (g0 kf) (oC (g1 kf) (oC (g2 kf) (oB H2 (congrArg not (decide_eq_true g3)) .nil))))⟩
theorem lox_r_0 (rw la:List HV) (H:Heap) (nn q0 q1 q2 q3:Nat)  {y10 y13 y15 y18 y19 y20 y21 y23 y24:HV}:RT polLo12 12 (sub [1,1,1,1,1,1,1,1,1,1,1,1,1,0,0] B12) (env12 (.imm .arg 1 rw) (.imm .arg 1 la) (.bool false) (.i (nn:Int)) (.sl 0 0 q0 none q0 1) (.sl 1 0 q1 none q1 1) (.sl 2 0 q2 none q2 1) (.sl 3 0 q3 none q3 1) y10 (.i 0) y13 (.i 0) y15 (.i 0) y18 y19 y20 y21 y23 y24) H .normal (env12 (.imm .arg 1 rw) (.imm .arg 1 la) (.bool false) (.i (nn:Int)) (.sl 0 0 q0 none q0 1) (.sl 1 0 q1 none q1 1) (.sl 2 0 q2 none q2 1) (.sl 3 0 q3 none q3 1) y10 (.i 0) y13 (.i 0) y15 (.i 0) y18 y19 y20 y21 y23 (.i 0)) H :=
  RunsTo.hin 0 60 [] fun kf hk=>⟨_,by kernel_rfl,.nil⟩
theorem lox_s_0 (rw la:List HV) (H:Heap) (nn q0 q1 q2 q3:Nat) (i:Nat) (ra rb:HV) {y8 y9 y10 y12 y13 y14 y15 y17 y18 y19 y20 y21 y23:HV} {H0:Heap} (g0:(i:Int) < (nn:Int)) (g1:idxV Tp 22 (.sl 0 0 q0 none q0 1) (.i (i:Int))=some (.ptr 0 i 0 q0)) (g2:loadV Tp H 23 (.ptr 0 i 0 q0)=some (ra)) (g3:idxV Tp 22 (.sl 1 0 q1 none q1 1) (.i (i:Int))=some (.ptr 1 i 0 q1)) (g4:loadV Tp H 23 (.ptr 1 i 0 q1)=some (rb)) (g5:∀ kf,callN Tp polLo12 (kf+1) 26 [ra,rb] H=some (.bool true,H0)):RT polLo12 12 (sub [1,1,1,1,1,1,1,1,1,1,1,1,1,0,1,0,0] B12) (env12 (.imm .arg 1 rw) (.imm .arg 1 la) (.bool false) (.i (nn:Int)) (.sl 0 0 q0 none q0 1) (.sl 1 0 q1 none q1 1) y8 y9 y10 y12 y13 y14 y15 y17 y18 y19 y20 y21 y23 (.i (i:Int))) H .normal (env12 (.imm .arg 1 rw) (.imm .arg 1 la) (.bool false) (.i (nn:Int)) (.sl 0 0 q0 none q0 1) (.sl 1 0 q1 none q1 1) y8 y9 y10 y12 y13 y14 y15 y17 y18 y19 y20 y21 y23 (.i (IntKind.i64.wrap ((i:Int)+1)))) H0 :=
  RunsTo.hin 0 60 [⟨21,2,.bool true,H⟩,⟨23,2,.ptr 0 i 0 q0,H⟩,⟨23,3,ra,H⟩,⟨23,6,.ptr 1 i 0 q1,H⟩,⟨23,7,rb,H⟩,⟨23,8,.bool true,H0⟩] fun kf hk=>⟨_,by kernel_rfl,(oB H (decide_eq_true g0) (oP H g1 (oP H g2 (oP H g3 (oP H g4 (oC (g5 kf) .nil))))))⟩
theorem lox_s_1 (rw la:List HV) (H:Heap) (nn q0 q1 q2 q3:Nat) (i:Nat) (ra rb:HV) {y8 y9 y10 y12 y13 y14 y15 y17 y18 y19 y20 y21 y23:HV}(g0:¬ ((i:Int) < (nn:Int))):RT polLo12 12 (sub [1,1,1,1,1,1,1,1,1,1,1,1,1,0,1,0,0] B12) (env12 (.imm .arg 1 rw) (.imm .arg 1 la) (.bool false) (.i (nn:Int)) (.sl 0 0 q0 none q0 1) (.sl 1 0 q1 none q1 1) y8 y9 y10 y12 y13 y14 y15 y17 y18 y19 y20 y21 y23 (.i (i:Int))) H (.exit 4) (env12 (.imm .arg 1 rw) (.imm .arg 1 la) (.bool false) (.i (nn:Int)) (.sl 0 0 q0 none q0 1) (.sl 1 0 q1 none q1 1) y8 y9 y10 y12 y13 y14 y15 y17 y18 y19 y20 y21 y23 (.i (i:Int))) H :=
  RunsTo.hin 0 60 [⟨21,2,.bool false,H⟩] fun kf hk=>⟨_,by kernel_rfl,(oB H (decide_eq_false g0) .nil)⟩
theorem lox_t_0 (rw la:List HV) (H:Heap) (nn q0 q1 q2 q3:Nat)  {y8 y9 y10 y12 y13 y14 y15 y17 y18 y19 y20 y21 y23 y24:HV}:RT polLo12 12 (sub [1,1,1,1,1,1,1,1,1,1,1,1,1,1] B12) (env12 (.imm .arg 1 rw) (.imm .arg 1 la) (.bool false) (.i (nn:Int)) (.sl 0 0 q0 none q0 1) (.sl 1 0 q1 none q1 1) y8 y9 y10 y12 y13 y14 y15 y17 y18 y19 y20 y21 y23 y24) H .ret (env12 (.imm .arg 1 rw) (.imm .arg 1 la) (.bool true) (.i (nn:Int)) (.sl 0 0 q0 none q0 1) (.sl 1 0 q1 none q1 1) y8 y9 y10 y12 y13 y14 y15 y17 y18 y19 y20 y21 y23 y24) H :=
  RunsTo.hin 0 60 [] fun kf hk=>⟨_,by kernel_rfl,.nil⟩
end Go.Proofs.Ytlendaofkmhgmaa
end
section
open Go Go.HL
namespace Go.Proofs.Ytlendaofkmhgmaa
open Go.Proofs.Try renaming prog → Tp
open Go.HL.HV renaming undef → Ud
theorem res12:Try.f12.results.toList=[.tmp 4]:=by kernel_rfl
theorem lit3 (a b c:Nat) (H:Heap) (h:H.length=7):litV Tp false true 22 3 [(0,.sl 4 0 a none a 1),(1,.sl 5 0 b none b 1),(2,.sl 6 0 c none c 1)] H=some (.sl 7 0 3 (some 3) 3 1,H ++ [.arr 1 [.sl 4 0 a none a 1,.sl 5 0 b none b 1,.sl 6 0 c none c 1] true 7]):=by
  have:litV Tp false true 22 3 [(0,.sl 4 0 a none a 1),(1,.sl 5 0 b none b 1),(2,.sl 6 0 c none c 1)] H=some (.sl H.length 0 3 (some 3) 3 1,H ++ [.arr 1 [.sl 4 0 a none a 1,.sl 5 0 b none b 1,.sl 6 0 c none c 1] true 7]):=by kernel_rfl
  rw [this,h]
section
variable {R0:List (List Int)} {l0:List Int} {n q0 q1 q2 q3:Nat} {Z:Nat → Nat}
abbrev loE (R0:List (List Int)) (l0:List Int) (n q0 q1 q2 q3:Nat) (v19 v20:HV):Env:=(env12 (.imm .arg 1 (R0.map encR)) (.imm .arg 1 (l0.map encI)) (.bool false) (.int .i64 (n:Int)) (.sl 0 0 q0 none q0 1) (.sl 1 0 q1 none q1 1) (.sl 2 0 q2 none q2 1) (.sl 3 0 q3 none q3 1) Ud (.int .i64 0) Ud (.int .i64 0) Ud (.int .i64 0) (.sl 7 0 3 (some 3) 3 1) v19 v20 Ud Ud Ud)
abbrev rowZ (Z:Nat → Nat) (i:Nat):HV:=.sl (4+i) 0 (Z i) none (Z i) 1
structure OwnH (Z:Nat → Nat) (P:Heap) (H:Heap):Prop where
  len:H.length=8
  low:∀ k,k < 4 → H[k]?=P[k]?
  all:H[7]?=some (.arr 1 [rowZ Z 0,rowZ Z 1,rowZ Z 2] true 7)
  row:∀ i,i < 3 → ∃ x:List Int,x.length=Z i∧H[4+i]?=some (bI x)
theorem ix3 {i:Nat} (hi:i < 3):idxV Tp 22 (.sl 7 0 3 (some 3) 3 1) (.int .i64 (i:Int))=some (.ptr 7 i 0 3):=by
  have:=idx_sl (P:=Tp) (t:=22) (b:=7) (len:=3) (tot:=3) (cap:=some 3) (ik:=.i64) (n:=(i:Int)) u22 z23 (by omega) (by omega)
  rwa [Int.toNat_natCast] at this
theorem OwnH.ld {P H:Heap} (h:OwnH Z P H) {i:Nat} (hi:i < 3):loadV Tp H 23 (.ptr 7 i 0 3)=some (rowZ Z i):=by
  refine load_elem (b:=7) h.all rfl ?_ rfl a23 i23
  match i,hi with
  | 0,_=>rfl
  | 1,_=>rfl
  | 2,_=>rfl
theorem own_in {P:Heap} {i:Nat} (hi:i < 3) (hZ:Z i ≤ 1000):∀ k j (H:Heap),j+k=Z i → OwnH Z P H →
    ∃ H' y20,RT polLo12 12 (sub [1,1,1,1,1,1,1,1,1,1,0,1,0,0,1,0,0,1,0] B12) (loE R0 l0 n q0 q1 q2 q3 (.int .i64 (i:Int)) (.int .i64 (j:Int))) H (.exit 2)
      (loE R0 l0 n q0 q1 q2 q3 (.int .i64 (i:Int)) y20) H'∧OwnH Z P H':=by
  intro k
  induction k with
  | zero =>
    intro j H hj hH
    have s:=lox_n_1 (R0.map encR) (l0.map encI) H n q0 q1 q2 q3 7 i j (4+i) (Z i) (y10:=Ud) (y13:=Ud) (y15:=Ud) (y21:=Ud) (y23:=Ud) (y24:=Ud) (ix3 hi) (hH.ld hi) (by omega)
    exact ⟨H,_,lpo (s),hH⟩
  | succ k ih =>
    intro j H hj hH
    obtain ⟨x,hx,hb⟩:=hH.row i hi
    have hst:=stg (H:=H) (b:=4+i) (k:=j) hb hx (by omega) (-7)
    have s:=lox_n_0 (R0.map encR) (l0.map encI) H n q0 q1 q2 q3 7 i j (4+i) (Z i) (y10:=Ud) (y13:=Ud) (y15:=Ud) (y21:=Ud) (y23:=Ud) (y24:=Ud) (ix3 hi) (hH.ld hi) (by omega) (ix3 hi) (hH.ld hi) (ixg (by omega)) hst
    rw [wrap_succ (by omega)] at s
    have hH2:OwnH Z P (H.set (4+i) (bI (x.set j (-7)))):=by
      refine ⟨by simp [hH.len],fun k hk=>?_,?_,fun i' hi'=>?_⟩
      · rw [List.getElem?_set_ne (by omega)]; exact hH.low k hk
      · rw [List.getElem?_set_ne (by omega)]; exact hH.all
      · by_cases e:i=i'
        · subst e
          exact ⟨x.set j (-7),by simp [hx],List.getElem?_set_self (by rw [hH.len]; omega)⟩
        · rw [List.getElem?_set_ne (by omega)]; exact hH.row i' hi'
    obtain ⟨H',y20,r,hr⟩:=ih (j+1) _ (by omega) hH2
    exact ⟨H',y20,lop (s) (gc_eq _ (by simp)) (r),hr⟩
theorem own_out {P:Heap} (hZ:∀ i,i < 3 → Z i ≤ 1000):∀ (k i:Nat) (H:Heap),i+k=3 → OwnH Z P H →
    ∃ H' y19 y20,RT polLo12 12 (sub [1,1,1,1,1,1,1,1,1,1,0,1,0] B12) (loE R0 l0 n q0 q1 q2 q3 (.int .i64 (i:Int)) Ud) H (.exit 0)
      (loE R0 l0 n q0 q1 q2 q3 y19 y20) H'∧OwnH Z P H':=by
  intro k
  induction k with
  | zero =>
    intro i H hi hH
    have s:=lox_l_1 (R0.map encR) (l0.map encI) H n q0 q1 q2 q3 7 i 0 0 (y10:=Ud) (y13:=Ud) (y15:=Ud) (y20:=Ud) (y21:=Ud) (y23:=Ud) (y24:=Ud) (by omega)
    exact ⟨H,_,_,lpo (sqo (s) (c:=sub [1,1,1,1,1,1,1,1,1,1,0,1,0,0] B12) (b:=sub [1,1,1,1,1,1,1,1,1,1,0,1,0,0,1] B12)),hH⟩
  | succ k ih =>
    intro i H hi hH
    have s1:=lox_l_0 (R0.map encR) (l0.map encI) H n q0 q1 q2 q3 7 i 0 0 (y10:=Ud) (y13:=Ud) (y15:=Ud) (y20:=Ud) (y21:=Ud) (y23:=Ud) (y24:=Ud) (by omega)
    have s2:=lox_m_0 (R0.map encR) (l0.map encI) H n q0 q1 q2 q3 7 i 0 0 (y10:=Ud) (y13:=Ud) (y15:=Ud) (y20:=Ud) (y21:=Ud) (y23:=Ud) (y24:=Ud)
    obtain ⟨H1,z20,r0,hH1⟩:=own_in (R0:=R0) (l0:=l0) (n:=n) (q0:=q0) (q1:=q1) (q2:=q2) (q3:=q3) (i:=i) (by omega) (hZ i (by omega)) (Z i) 0 H (by omega) hH
    have s3:=lox_o_0 (R0.map encR) (l0.map encI) H1 n q0 q1 q2 q3 7 i 0 0 (y10:=Ud) (y13:=Ud) (y15:=Ud) (y21:=Ud) (y23:=Ud) (y24:=Ud) (y20:=z20)
    rw [wrap_succ (by omega)] at s3
    obtain ⟨H',y19,y20,r,hr⟩:=ih (i+1) H1 (by omega) hH1
    exact ⟨H',y19,y20,lop (sq (s1) (sq (RunsTo.block_normal (i:=1) (c:=sub [1,1,1,1,1,1,1,1,1,1,0,1,0,0,1,0] B12) (sq (s2) (bke (c:=sub [1,1,1,1,1,1,1,1,1,1,0,1,0,0,1,0,0,1] B12) (lpi (e0:=(loE R0 l0 n q0 q1 q2 q3 (.int .i64 (i:Int)) (.int .i64 ((0:Nat):Int)))) r0 (b:=sub [1,1,1,1,1,1,1,1,1,1,0,1,0,0,1,0,0,1,0,0] B12))) (c:=sub [1,1,1,1,1,1,1,1,1,1,0,1,0,0,1,0,0] B12)) (by kernel_rfl)) (s3) (c:=sub [1,1,1,1,1,1,1,1,1,1,0,1,0,0,1] B12)) (c:=sub [1,1,1,1,1,1,1,1,1,1,0,1,0,0] B12)) (gc_eq _ (by rw [hH.len,hH1.len])) (r),hr⟩
theorem arg_O (H:Heap) (r:List Int):toArg H 6 (encO r)=some (.imm .arg 1 (r.map encI)):=by
  show argP (.imm .own 1 (r.map encI))=_
  simp only [argP,argP_ints']
abbrev loS (R0:List (List Int)) (l0:List Int) (n q:Nat) (v24:HV):Env:=(env12 (.imm .arg 1 (R0.map encR)) (.imm .arg 1 (l0.map encI)) (.bool false) (.int .i64 (n:Int)) (.sl 0 0 q none q 1) (.sl 1 0 q none q 1) Ud Ud Ud Ud Ud Ud Ud Ud Ud Ud Ud Ud Ud v24)
theorem own_rows {d:List (List Int)} {H:Heap} (hd:okD d) (h0:H[0]?=some (bRw d)) (h1:H[1]?=some (bRw d)):∀ k i,i+k=d.length →
    ∃ y24,RT polLo12 12 (sub [1,1,1,1,1,1,1,1,1,1,1,1,1,0,1,0] B12) (loS R0 l0 d.length d.length (.int .i64 (i:Int))) H (.exit 4) (loS R0 l0 d.length d.length y24) H:=by
  have hdn:=hd.1
  intro k
  induction k with
  | zero =>
    intro i hi
    have s:=lox_s_1 (R0.map encR) (l0.map encI) H d.length d.length d.length 0 0 i Ud Ud (y8:=Ud) (y9:=Ud) (y10:=Ud) (y12:=Ud) (y13:=Ud) (y14:=Ud) (y15:=Ud) (y17:=Ud) (y18:=Ud) (y19:=Ud) (y20:=Ud) (y21:=Ud) (y23:=Ud) (by omega)
    exact ⟨_,lpo (s)⟩
  | succ k ih =>
    intro i hi
    have hil:i < d.length:=by omega
    have ld:∀ b,H[b]?=some (bRw d) → loadV Tp H 23 (.ptr b i 0 d.length)=some (encO (d.getD i [])):=fun b hb=>load_elem (b:=b) hb (by simp) (by rw [List.getElem?_map,List.getElem?_eq_getElem hil]; simp [List.getD,List.getElem?_eq_getElem hil]) rfl a23 i23
    have ix:∀ b,idxV Tp 22 (.sl b 0 d.length none d.length 1) (.int .i64 (i:Int))=some (.ptr b i 0 d.length):=fun b=>by
      have:=idx_sl (P:=Tp) (t:=22) (b:=b) (len:=d.length) (tot:=d.length) (cap:=none) (ik:=.i64) (n:=(i:Int)) u22 z23 (by omega) (by omega)
      rwa [Int.toNat_natCast] at this
    have hrl:(d.getD i []).length=d.length:=hd.2.1 i hil
    have k26:∀ kf,callN Tp polLo12 (kf+1) 26 [encO (d.getD i []),encO (d.getD i [])] H=some (.bool true,H):=fun kf=>by
      rw [prim_call (pol:=polLo12) (g:=26) (F:=ints26) (by kernel_rfl) (rs:=[.imm .arg 1 ((d.getD i []).map encI),.imm .arg 1 ((d.getD i []).map encI)]) (by simp only [mapO,arg_O]) (res:=.bool true) (by simp only [ints26,llF,mapO_map decI_enc]; rw [if_pos (by omega),decide_eq_true trivial])]; rfl
    have s:=lox_s_0 (R0.map encR) (l0.map encI) H d.length d.length d.length 0 0 i _ _ (y8:=Ud) (y9:=Ud) (y10:=Ud) (y12:=Ud) (y13:=Ud) (y14:=Ud) (y15:=Ud) (y17:=Ud) (y18:=Ud) (y19:=Ud) (y20:=Ud) (y21:=Ud) (y23:=Ud) (by omega) (ix 0) (ld 0 h0) (ix 1) (ld 1 h1) k26
    rw [wrap_succ (by omega)] at s
    obtain ⟨y24,r⟩:=ih (i+1) (by omega)
    exact ⟨y24,lop (s) (gc_eq _ rfl) (r)⟩
end
theorem tabL_id {d:List (List Int)} (hd:okD d) (hn:d.length ≤ 8):tabL d=d:=by
  unfold tabL
  rw [List.take_of_length_le (by omega)]
  conv=>rhs; rw [← List.map_id d]
  refine List.map_congr_left fun r hr=>?_
  obtain ⟨i,hi,rfl⟩:=List.getElem_of_mem hr
  have:=hd.2.1 i hi
  rw [List.getD,List.getElem?_eq_getElem hi] at this
  exact List.take_of_length_le (by simp at this; omega)
theorem roundOwn_law (R0:List (List Int)) (l0:List Int):∃ E H,RT polLo12 12 B12 (args0 [.imm .arg 1 (R0.map encR),.imm .arg 1 (l0.map encI)]) [] .ret E H∧E.get 4=.bool true:=by
  obtain ⟨n,hn,hw⟩:=n_of R0 8 (by omega) 1 (by omega)
  have a:=low_a_0 (R0.map encR) (l0.map encI)
  have b:=low_b_0 (R0.map encR) (l0.map encI) (y5:=Ud) (y6:=Ud) (y7:=Ud) (y8:=Ud) (y9:=Ud) (y10:=Ud) (y12:=Ud) (y13:=Ud) (y14:=Ud) (y15:=Ud) (y17:=Ud) (y18:=Ud) (y19:=Ud) (y20:=Ud) (y21:=Ud) (y23:=Ud) (y24:=Ud) (prim_mod (pol':=polLo12) (by kernel_rfl) (by omega) _)
  rw [hw] at b
  have c:=low_c_0 (R0.map encR) (l0.map encI) n (y6:=Ud) (y7:=Ud) (y8:=Ud) (y9:=Ud) (y10:=Ud) (y12:=Ud) (y13:=Ud) (y14:=Ud) (y15:=Ud) (y17:=Ud) (y18:=Ud) (y19:=Ud) (y20:=Ud) (y21:=Ud) (y23:=Ud) (y24:=Ud) (c_tame (pol':=polLo12) (by kernel_rfl) (R:=R0) (n:=n) (mo:=1000) (by omega) (by omega) _)
  have hd:okD (tameL R0 n 1000):=tame_okD (by omega) (by omega)
  have hdl:(tameL R0 n 1000).length=n:=mat_len _ _
  have ht:=tour_trOk l0 (n:=n) (by omega)
  rw [← hdl] at ht
  generalize tameL R0 n 1000=d at c hd hdl ht
  subst hdl
  have hdn:=hd.1
  have hid:=tabL_id hd (by omega)
  have k15:∀ k,callN Tp polLo12 (k+1) 15 [.sl 0 0 d.length none d.length 1] [bRw d]=some (.sl 1 0 d.length none d.length 1,[bRw d,bRw d]):=fun k=>by
    rw [prim_call (pol:=polLo12) (g:=15) (F:=table15) (by kernel_rfl) (rs:=[.imm .arg 1 (d.map encR)]) (by simp only [mapO,arg_rs (H:=[bRw d]) (R:=d) (b:=0) (mx:=0) rfl rfl]) (res:=.own 1 (d.map encO)) (by simp only [table15,rwF,mapO_map decR_enc]; rw [hid]),recv_rows]; rfl
  have dd:=low_d_0 (R0.map encR) (l0.map encI) d.length d.length (d.map encO) (y7:=Ud) (y8:=Ud) (y9:=Ud) (y10:=Ud) (y12:=Ud) (y13:=Ud) (y14:=Ud) (y15:=Ud) (y17:=Ud) (y18:=Ud) (y19:=Ud) (y20:=Ud) (y21:=Ud) (y23:=Ud) (y24:=Ud) k15
  have e:=low_e_0 (R0.map encR) (l0.map encI) d.length d.length (d.map encO) d.length (d.map encO) (y8:=Ud) (y9:=Ud) (y10:=Ud) (y12:=Ud) (y13:=Ud) (y14:=Ud) (y15:=Ud) (y17:=Ud) (y18:=Ud) (y19:=Ud) (y20:=Ud) (y21:=Ud) (y23:=Ud) (y24:=Ud) (c_tour (pol':=polLo12) (by kernel_rfl) (l:=l0) (n:=d.length) (by omega) _)
  generalize tourL l0 d.length=l at e ht
  have hll:=(trOk_iff.1 ht).1
  have k16:∀ k,callN Tp polLo12 (k+1) 16 [.sl 2 0 l.length none l.length 1] [bRw d,bRw d,bI l]=some (.sl 3 0 l.length none l.length 1,[bRw d,bRw d,bI l,bI l]):=fun k=>by
    rw [prim_call (pol:=polLo12) (g:=16) (F:=list16) (by kernel_rfl) (rs:=[.imm .arg 1 (l.map encI)]) (by simp only [mapO,arg_sl (H:=[bRw d,bRw d,bI l]) (l:=l) (b:=2) rfl rfl]) (res:=.own 1 (l.map encI)) (by simp only [list16,liF,mapO_map decI_enc]; rw [List.take_of_length_le (by omega)]),recv_ints]; rfl
  have f:=low_f_0 (R0.map encR) (l0.map encI) d.length d.length (d.map encO) d.length (d.map encO) l.length (l.map encI) (y9:=Ud) (y10:=Ud) (y12:=Ud) (y13:=Ud) (y14:=Ud) (y15:=Ud) (y17:=Ud) (y18:=Ud) (y19:=Ud) (y20:=Ud) (y21:=Ud) (y23:=Ud) (y24:=Ud) k16
  have kb:=c_best (pol':=polLo12) (by kernel_rfl) hd (xb:=0) (H:=[bRw d,bRw d,bI l,bI l]) rfl
  have g:=low_g_0 (R0.map encR) (l0.map encI) d.length d.length (d.map encO) d.length (d.map encO) l.length (l.map encI) l.length (l.map encI) (y10:=Ud) (y12:=Ud) (y13:=Ud) (y14:=Ud) (y15:=Ud) (y17:=Ud) (y18:=Ud) (y19:=Ud) (y20:=Ud) (y21:=Ud) (y23:=Ud) (y24:=Ud) kb
  have ki:=c_imp (pol':=polLo12) (by kernel_rfl) hd ht (xb:=0) (lb:=2) (H:=[bRw d,bRw d,bI l,bI l,bI (bestT d)]) rfl rfl
  have h:=low_h_0 (R0.map encR) (l0.map encI) d.length d.length (d.map encO) d.length (d.map encO) l.length (l.map encI) l.length (l.map encI) (bestT d).length ((bestT d).map encI) (y13:=Ud) (y14:=Ud) (y15:=Ud) (y17:=Ud) (y18:=Ud) (y19:=Ud) (y20:=Ud) (y21:=Ud) (y23:=Ud) (y24:=Ud) ki
  have hr:=rows_len hd
  have kc:=q31 (pol':=polLo12) (by kernel_rfl) (d:=d) (H:=[bRw d,bRw d,bI l,bI l,bI (bestT d),bI (impT d l)]) rfl hr.1 hr.2 (s:=5) (if_pos ⟨hd,by omega,by omega⟩)
  rw [show (5:Int).toNat=5 from rfl] at kc
  have i:=low_i_0 (R0.map encR) (l0.map encI) d.length d.length (d.map encO) d.length (d.map encO) l.length (l.map encI) l.length (l.map encI) (bestT d).length ((bestT d).map encI) (impT d l).length ((impT d l).map encI) (y15:=Ud) (y17:=Ud) (y18:=Ud) (y19:=Ud) (y20:=Ud) (y21:=Ud) (y23:=Ud) (y24:=Ud) kc
  have bl:=(trOk_iff.1 (best_tour hd)).1
  have il:=(trOk_iff.1 (impT_ok hd ht).2.1).1
  have cl:=climT_len d 5
  generalize hw5:climT d 5=w at *
  generalize hs5:impT d l=s at *
  have j:=lox_j_0 (R0.map encR) (l0.map encI) [bRw d,bRw d,bI l,bI l,bI (bestT d),bI s,bI w.1] d.length d.length d.length l.length l.length (bestT d).length s.length w.1.length 7 (y18:=Ud) (y19:=Ud) (y20:=Ud) (y21:=Ud) (y23:=Ud) (y24:=Ud) (lit3 _ _ _ _ rfl)
  let Zf:Nat → Nat:=fun i=>if i=0 then (bestT d).length else if i=1 then s.length else w.1.length
  have k0:=lox_k_0 (R0.map encR) (l0.map encI) [bRw d,bRw d,bI l,bI l,bI (bestT d),bI s,bI w.1,.arr 1 [.sl 4 0 (bestT d).length none (bestT d).length 1,.sl 5 0 s.length none s.length 1,.sl 6 0 w.1.length none w.1.length 1] true 7] d.length d.length d.length l.length l.length 7 (y10:=.sl 4 0 (bestT d).length none (bestT d).length 1) (y13:=.sl 5 0 s.length none s.length 1) (y15:=.sl 6 0 w.1.length none w.1.length 1) (y19:=Ud) (y20:=Ud) (y21:=Ud) (y23:=Ud) (y24:=Ud)
  have hO:OwnH Zf [bRw d,bRw d,bI l,bI l] [bRw d,bRw d,bI l,bI l,bI (bestT d),bI s,bI w.1,.arr 1 [.sl 4 0 (bestT d).length none (bestT d).length 1,.sl 5 0 s.length none s.length 1,.sl 6 0 w.1.length none w.1.length 1] true 7]:=by
    refine ⟨rfl,fun k hk=>?_,rfl,fun i hi=>?_⟩
    · match k,hk with
      | 0,_=>rfl
      | 1,_=>rfl
      | 2,_=>rfl
      | 3,_=>rfl
    · match i,hi with
      | 0,_=>exact ⟨bestT d,rfl,rfl⟩
      | 1,_=>exact ⟨s,rfl,rfl⟩
      | 2,_=>exact ⟨w.1,rfl,rfl⟩
  obtain ⟨H8,y19,y20,r1,hH8⟩:=own_out (R0:=R0) (l0:=l0) (n:=d.length) (q0:=d.length) (q1:=d.length) (q2:=l.length) (q3:=l.length) (Z:=Zf) (fun i hi=>by
    match i,hi with
    | 0,_=>show (bestT d).length ≤ 1000; omega
    | 1,_=>show s.length ≤ 1000; omega
    | 2,_=>show w.1.length ≤ 1000; omega) 3 0 _ (by omega) hO
  have g0:H8[0]?=some (bRw d):=hH8.low 0 (by omega)
  have g1:H8[1]?=some (bRw d):=hH8.low 1 (by omega)
  have g2:H8[2]?=some (bI l):=hH8.low 2 (by omega)
  have g3:H8[3]?=some (bI l):=hH8.low 3 (by omega)
  have kb2:=c_best (pol':=polLo12) (by kernel_rfl) hd (xb:=0) (H:=H8) g0
  have p:=lox_p_0 (R0.map encR) (l0.map encI) H8 d.length d.length d.length l.length l.length H8.length (bestT d).length (y10:=Ud) (y13:=Ud) (y15:=Ud) (y21:=Ud) (y23:=Ud) (y24:=Ud) (y18:=.sl 7 0 3 (some 3) 3 1) (y19:=y19) (y20:=y20) kb2
  have hl8:=hH8.len
  have lk:∀ (B C:Blk) (k:Nat),k < 8 → (H8 ++ [B] ++ [C])[k]?=H8[k]?∧(H8 ++ [B])[k]?=H8[k]?:=fun B C k hk=>⟨by rw [List.append_assoc,List.getElem?_append_left (by omega)],List.getElem?_append_left (by omega)⟩
  have k26a:=c_ints (pol':=polLo12) (by kernel_rfl) (l:=l) (H:=H8 ++ [bI (bestT d)]) (a:=2) (b:=3) (by omega) (by rw [(lk _ (bI l) 2 (by omega)).2]; exact g2) (by rw [(lk _ (bI l) 3 (by omega)).2]; exact g3)
  have k40:∀ k,callN Tp polLo12 (k+1) 40 [.sl 1 0 d.length none d.length 1] (H8 ++ [bI (bestT d)])=some (.sl (H8 ++ [bI (bestT d)]).length 0 (bestT d).length none (bestT d).length 1,H8 ++ [bI (bestT d)] ++ [bI (bestT d)]):=fun k=>by
    rw [prim_call (pol:=polLo12) (g:=40) (F:=best40) (by kernel_rfl) (rs:=[.imm .arg 1 (d.map encR)]) (by simp only [mapO,arg_rs (R:=d) (b:=1) (H:=H8 ++ [bI (bestT d)]) rfl (by rw [(lk _ (bI l) 1 (by omega)).2]; exact g1)]) (res:=.own 1 ((bestT d).map encI)) (by simp only [best40,rwF,mapO_map decR_enc]; rw [if_pos hd]),recv_ints]
  have k26b:=c_ints (pol':=polLo12) (by kernel_rfl) (l:=bestT d) (H:=H8 ++ [bI (bestT d)] ++ [bI (bestT d)]) (a:=H8.length) (b:=(H8 ++ [bI (bestT d)]).length) (by omega) (by rw [List.append_assoc,List.getElem?_append_right (Nat.le_refl _),Nat.sub_self]; rfl) (get_end _ _)
  have q:=lox_q_0 (R0.map encR) (l0.map encI) (H8 ++ [bI (bestT d)]) d.length d.length d.length l.length l.length H8.length (bestT d).length (H8 ++ [bI (bestT d)]).length (bestT d).length (y10:=Ud) (y13:=Ud) (y15:=Ud) (y24:=Ud) (y18:=.sl 7 0 3 (some 3) 3 1) (y19:=y19) (y20:=y20) k26a k40 k26b rfl
  generalize hHz:H8 ++ [bI (bestT d)] ++ [bI (bestT d)]=Hz at q
  have z0:Hz[0]?=some (bRw d):=by rw [← hHz,(lk _ _ 0 (by omega)).1]; exact g0
  have z1:Hz[1]?=some (bRw d):=by rw [← hHz,(lk _ _ 1 (by omega)).1]; exact g1
  have rr:=lox_r_0 (R0.map encR) (l0.map encI) Hz d.length d.length d.length l.length l.length (y10:=Ud) (y13:=Ud) (y15:=Ud) (y24:=Ud) (y18:=.sl 7 0 3 (some 3) 3 1) (y19:=y19) (y20:=y20) (y21:=.sl H8.length 0 (bestT d).length none (bestT d).length 1) (y23:=.int .i64 0)
  obtain ⟨y24,r2⟩:=own_rows (R0:=R0) (l0:=l0) hd z0 z1 d.length 0 (by omega)
  have t:=lox_t_0 (R0.map encR) (l0.map encI) Hz d.length d.length d.length 0 0 (y8:=Ud) (y9:=Ud) (y10:=Ud) (y12:=Ud) (y13:=Ud) (y14:=Ud) (y15:=Ud) (y17:=Ud) (y18:=Ud) (y19:=Ud) (y20:=Ud) (y21:=Ud) (y23:=Ud) (y24:=y24)
  exact ⟨_,_,sq (a) (sq (b) (sq (c) (sq (dd) (sq (e) (sq (f) (sq (g) (sq (h) (sq (i) (sq (j) (sq (sq (k0) (bke (c:=sub [1,1,1,1,1,1,1,1,1,1,0,1] B12) (lpi (e0:=((env12 (.imm .arg 1 (R0.map encR)) (.imm .arg 1 (l0.map encI)) (.bool false) (.int .i64 (d.length:Int)) (.sl 0 0 d.length none d.length 1) (.sl 1 0 d.length none d.length 1) (.sl 2 0 l.length none l.length 1) (.sl 3 0 l.length none l.length 1) (.sl 4 0 (bestT d).length none (bestT d).length 1) (.int .i64 0) (.sl 5 0 s.length none s.length 1) (.int .i64 0) (.sl 6 0 w.1.length none w.1.length 1) (.int .i64 0) (.sl 7 0 3 (some 3) 3 1) (.int .i64 ((0:Nat):Int)) Ud Ud Ud Ud))) r1 (b:=sub [1,1,1,1,1,1,1,1,1,1,0,1,0,0] B12))) (c:=sub [1,1,1,1,1,1,1,1,1,1,0] B12)) (sq (p) (sq (q) (sq (sq (rr) (bke (c:=sub [1,1,1,1,1,1,1,1,1,1,1,1,1,0,1] B12) (lpi (e0:=((env12 (.imm .arg 1 (R0.map encR)) (.imm .arg 1 (l0.map encI)) (.bool false) (.int .i64 (d.length:Int)) (.sl 0 0 d.length none d.length 1) (.sl 1 0 d.length none d.length 1) (.sl 2 0 l.length none l.length 1) (.sl 3 0 l.length none l.length 1) Ud (.int .i64 0) Ud (.int .i64 0) Ud (.int .i64 0) (.sl 7 0 3 (some 3) 3 1) y19 y20 (.sl H8.length 0 (bestT d).length none (bestT d).length 1) (.int .i64 0) (.int .i64 ((0:Nat):Int))))) r2 (b:=sub [1,1,1,1,1,1,1,1,1,1,1,1,1,0,1,0,0] B12))) (c:=sub [1,1,1,1,1,1,1,1,1,1,1,1,1,0] B12)) (t) (c:=sub [1,1,1,1,1,1,1,1,1,1,1,1,1] B12)) (c:=sub [1,1,1,1,1,1,1,1,1,1,1,1] B12)) (c:=sub [1,1,1,1,1,1,1,1,1,1,1] B12)) (c:=sub [1,1,1,1,1,1,1,1,1,1] B12)) (c:=sub [1,1,1,1,1,1,1,1,1] B12)) (c:=sub [1,1,1,1,1,1,1,1] B12)) (c:=sub [1,1,1,1,1,1,1] B12)) (c:=sub [1,1,1,1,1,1] B12)) (c:=sub [1,1,1,1,1] B12)) (c:=sub [1,1,1,1] B12)) (c:=sub [1,1,1] B12)) (c:=sub [1,1] B12)) (c:=sub [1] B12)) (c:=B12),rfl⟩
end Go.Proofs.Ytlendaofkmhgmaa
end
section
namespace Go.HL
open Go.ChangeShapes Go.WideShapes Go.ChangeAt Go.RowKit Go.Deep
theorem okNil (w:World) (r:Nat):okOf Ctx.nil w.heap.size false r:=by
  refine ⟨fun hM=>?_,by simp⟩
  obtain ⟨b,y,h1,_,_⟩:=M_iff.1 hM
  simp [Ctx.nil] at h1
theorem cell_lt {w:World} {a:Addr} {v:Value} (h:w.cell? a=some v):a.block < w.heap.size:=by
  rcases Nat.lt_or_ge a.block w.heap.size with hl | hl
  · exact hl
  · have:w.heap[a.block]?=none:=by simp [hl]
    simp [World.cell?,this] at h
end Go.HL
end
section
namespace Go.HL
open Go.ChangeShapes Go.WideShapes Go.ChangeAt Go.RowKit Go.Deep
theorem arg_ints_ok {H:Type} {enc:TypeId × Value → H} {P:Program} {W:World} {base:Nat} {t q:TypeId} {v:Value} {d:DataW H} {ps:List MemPlace} (ht:P.underlying t=some (.slice q)) (hq:P.underlying q=some (.int .i64)) (cq:P.cellsOf q=1)
    (hval:Value.okWide P W .any base t v) (hd:DataW.Trod enc P W 0 (fun _=>true) true t v d ps):∃ l:List Int,V W (okOf Ctx.nil W.heap.size) Ctx.nil (.imm .arg 1 (l.map encI)) v:=by
  obtain ⟨a,len,cap,rfl⟩:=okWide_slice ht hval
  obtain ⟨fuel,hf⟩:=hd
  rcases open_slice ht hf with ⟨h0,_⟩ | ⟨a',len',cap',m,n,D,Pl,h0,hb,hl,hm,hmm,hx,hel⟩
  · simp [Value.cells] at h0
    obtain ⟨rfl,rfl,rfl⟩:=h0
    exact ⟨[],.imm .arg 1 [] none 0 (fun _=>.bool false) (by simp) (by simp) (by simp) (by simp) (by simp) (by simp)⟩
  · simp [Value.cells] at h0
    obtain ⟨rfl,rfl,rfl⟩:=h0
    have hlm:len ≤ m:=by rw [hmm]; split <;> omega
    have each:∀ i,i < len → ∃ z:Int,W.cell? (a'.add i)=some (.int .i64 z):=by
      intro i hi
      obtain ⟨cs',h1,h2⟩:=hel i (by omega)
      rw [cq] at h1
      obtain ⟨_,hlen,hcell⟩:=World.cells?_some h1
      match cs',hlen with
      | [v0],_ =>
        obtain ⟨z0,e0,_,_⟩:=DataW.trod_int hq h2
        simp at e0
        subst e0
        have c0:=hcell 0 (by omega)
        rw [add_add] at c0
        exact ⟨z0,by simpa using c0⟩
    obtain ⟨f,hf⟩:=choose_lt each
    refine ⟨(List.range len).map f,?_⟩
    have hlen:(((List.range len).map f).map encI).length=len:=by simp
    have key:=V.imm (w:=W) (ok:=okOf Ctx.nil W.heap.size) (c:=Ctx.nil) .arg 1 (((List.range len).map f).map encI) (some a') cap (fun j=>.int .i64 (f j))
      (by rw [hlen]; exact hl) (by simp) ?_ ?_ ?_ ?_
    · rw [hlen] at key; exact key
    · intro hne
      have h0:0 < len:=by
        rcases Nat.eq_zero_or_pos len with h | h
        · subst h; simp at hne
        · exact h
      obtain ⟨b,off,spot⟩:=a'
      have hspot:spot=none:=by simpa [Addr.add] using World.cell?_spot (hf 0 h0)
      subst hspot
      refine ⟨b,off,rfl,by simpa [Addr.add] using cell_lt (hf 0 h0),okNil W b,fun j hj=>?_⟩
      rw [hlen] at hj
      have c0:=hf j (by omega)
      rw [add_plain] at c0
      exact c0
    · intro v hv
      obtain ⟨p,_,rfl⟩:=List.mem_map.1 hv
      rfl
    · intro v hv
      obtain ⟨p,_,rfl⟩:=List.mem_map.1 hv
      rfl
    · intro i v j x hi hj
      have hil:i < len:=by have:=lt_of_get hi; rw [hlen] at this; exact this
      have:v=encI (f i):=by
        rw [List.getElem?_map,List.getElem?_map,List.getElem?_range hil] at hi
        simpa using hi.symm
      subst this
      have hjx:j < 1:=lt_of_get hj
      match j,hjx,hj with
      | 0,_,hj =>
        simp [encI,cellsOf] at hj
        subst hj
        have e1:i * 1+0=i:=by omega
        rw [e1]
        exact V.int _ _
end Go.HL
end
section
namespace Go.HL
open Go.ChangeShapes Go.WideShapes Go.ChangeAt Go.RowKit Go.Deep
theorem ints_cells {H:Type} {enc:TypeId × Value → H} {P:Program} {W:World} {base fuel:Nat} {sp:Nat → Bool} {held:Bool} {t q:TypeId} {cs:List Value} {x:DataW H × List MemPlace} (ht:P.underlying t=some (.slice q)) (hq:P.underlying q=some (.int .i64)) (cq:P.cellsOf q=1)
    (hf:DataW.trod enc P W base sp held fuel t cs=some x):∃ (l:List Int) (v:Value),cs=[v]∧V W (okOf Ctx.nil W.heap.size) Ctx.nil (.imm .arg 1 (l.map encI)) v:=by
  rcases open_slice ht hf with ⟨h0,_⟩ | ⟨a',len,cap,m,n,D,Pl,h0,hb,hl,hm,hmm,hx,hel⟩
  · exact ⟨[],_,h0,.imm .arg 1 [] none 0 (fun _=>.bool false) (by simp) (by simp) (by simp) (by simp) (by simp) (by simp)⟩
  · subst h0
    have hlm:len ≤ m:=by rw [hmm]; split <;> omega
    have each:∀ i,i < len → ∃ z:Int,W.cell? (a'.add i)=some (.int .i64 z):=by
      intro i hi
      obtain ⟨cs',h1,h2⟩:=hel i (by omega)
      rw [cq] at h1
      obtain ⟨_,hlen,hcell⟩:=World.cells?_some h1
      match cs',hlen with
      | [v0],_ =>
        obtain ⟨z0,e0,_,_⟩:=DataW.trod_int hq h2
        simp at e0
        subst e0
        have c0:=hcell 0 (by omega)
        rw [add_add] at c0
        exact ⟨z0,by simpa using c0⟩
    obtain ⟨f,hf⟩:=choose_lt each
    refine ⟨(List.range len).map f,_,rfl,?_⟩
    have hlen:(((List.range len).map f).map encI).length=len:=by simp
    have key:=V.imm (w:=W) (ok:=okOf Ctx.nil W.heap.size) (c:=Ctx.nil) .arg 1 (((List.range len).map f).map encI) (some a') cap (fun j=>.int .i64 (f j))
      (by rw [hlen]; exact hl) (by simp) ?_ ?_ ?_ ?_
    · rw [hlen] at key; exact key
    · intro hne
      have h0:0 < len:=by
        rcases Nat.eq_zero_or_pos len with h | h
        · subst h; simp at hne
        · exact h
      obtain ⟨b,off,spot⟩:=a'
      have hspot:spot=none:=by simpa [Addr.add] using World.cell?_spot (hf 0 h0)
      subst hspot
      refine ⟨b,off,rfl,by simpa [Addr.add] using cell_lt (hf 0 h0),okNil W b,fun j hj=>?_⟩
      rw [hlen] at hj
      have c0:=hf j (by omega)
      rw [add_plain] at c0
      exact c0
    · intro v hv
      obtain ⟨p,_,rfl⟩:=List.mem_map.1 hv
      rfl
    · intro v hv
      obtain ⟨p,_,rfl⟩:=List.mem_map.1 hv
      rfl
    · intro i v j x hi hj
      have hil:i < len:=by have:=lt_of_get hi; rw [hlen] at this; exact this
      have:v=encI (f i):=by
        rw [List.getElem?_map,List.getElem?_map,List.getElem?_range hil] at hi
        simpa using hi.symm
      subst this
      have hjx:j < 1:=lt_of_get hj
      match j,hjx,hj with
      | 0,_,hj =>
        simp [encI,cellsOf] at hj
        subst hj
        have e1:i * 1+0=i:=by omega
        rw [e1]
        exact V.int _ _
def encRH (r:List Int):HV:=.imm .arg 1 (r.map encI)
theorem rows_cells {H:Type} {enc:TypeId × Value → H} {P:Program} {W:World} {base fuel:Nat} {sp:Nat → Bool} {held:Bool} {s t q:TypeId} {cs:List Value} {x:DataW H × List MemPlace} (hs:P.underlying s=some (.slice t)) (ct:P.cellsOf t=1) (ht:P.underlying t=some (.slice q)) (hq:P.underlying q=some (.int .i64)) (cq:P.cellsOf q=1)
    (hf:DataW.trod enc P W base sp held fuel s cs=some x):∃ (R:List (List Int)) (v:Value),cs=[v]∧V W (okOf Ctx.nil W.heap.size) Ctx.nil (.imm .arg 1 (R.map encRH)) v:=by
  rcases open_slice hs hf with ⟨h0,_⟩ | ⟨a',len,cap,m,n,D,Pl,h0,hb,hl,hm,hmm,hx,hel⟩
  · exact ⟨[],_,h0,.imm .arg 1 [] none 0 (fun _=>.bool false) (by simp) (by simp) (by simp) (by simp) (by simp) (by simp)⟩
  · subst h0
    have hlm:len ≤ m:=by rw [hmm]; split <;> omega
    have each:∀ i,i < len → ∃ p:List Int × Value,W.cell? (a'.add i)=some p.2∧V W (okOf Ctx.nil W.heap.size) Ctx.nil (encRH p.1) p.2:=by
      intro i hi
      obtain ⟨cs',h1,h2⟩:=hel i (by omega)
      rw [ct,Nat.mul_one] at h1
      obtain ⟨_,hlen,hcell⟩:=World.cells?_some h1
      obtain ⟨l,v,rfl,hV⟩:=ints_cells ht hq cq h2
      have c0:=hcell 0 (by omega)
      rw [add_add] at c0
      exact ⟨(l,v),by simpa using c0,hV⟩
    obtain ⟨f,hf⟩:=choose_lt each
    refine ⟨(List.range len).map fun i=>(f i).1,_,rfl,?_⟩
    have hlen:(((List.range len).map fun i=>(f i).1).map encRH).length=len:=by simp
    have key:=V.imm (w:=W) (ok:=okOf Ctx.nil W.heap.size) (c:=Ctx.nil) .arg 1 (((List.range len).map fun i=>(f i).1).map encRH) (some a') cap (fun j=>(f j).2)
      (by rw [hlen]; exact hl) (by simp) ?_ ?_ ?_ ?_
    · rw [hlen] at key; exact key
    · intro hne
      have h0:0 < len:=by
        rcases Nat.eq_zero_or_pos len with h | h
        · subst h; simp at hne
        · exact h
      obtain ⟨b,off,spot⟩:=a'
      have hspot:spot=none:=by simpa [Addr.add] using World.cell?_spot (hf 0 h0).1
      subst hspot
      refine ⟨b,off,rfl,by simpa [Addr.add] using cell_lt (hf 0 h0).1,okNil W b,fun j hj=>?_⟩
      rw [hlen,Nat.mul_one] at hj
      have c0:=(hf j hj).1
      rw [add_plain] at c0
      exact c0
    · intro v hv
      obtain ⟨p,_,rfl⟩:=List.mem_map.1 hv
      rfl
    · intro v hv
      obtain ⟨p,_,rfl⟩:=List.mem_map.1 hv
      rfl
    · intro i v j x hi hj
      have hil:i < len:=by have:=lt_of_get hi; rw [hlen] at this; exact this
      have:v=encRH (f i).1:=by
        rw [List.getElem?_map,List.getElem?_map,List.getElem?_range hil] at hi
        simpa using hi.symm
      subst this
      have hjx:j < 1:=lt_of_get hj
      obtain rfl:j=0:=by omega
      simp [encRH,cellsOf] at hj
      subst hj
      have e1:i * 1+0=i:=by omega
      rw [e1]
      exact (hf i hil).2
theorem arg_rows_ok {H:Type} {enc:TypeId × Value → H} {P:Program} {W:World} {base:Nat} {s t q:TypeId} {v:Value} {d:DataW H} {ps:List MemPlace} (hs:P.underlying s=some (.slice t)) (ct:P.cellsOf t=1) (ht:P.underlying t=some (.slice q)) (hq:P.underlying q=some (.int .i64)) (cq:P.cellsOf q=1)
    (hval:Value.okWide P W .any base s v) (hd:DataW.Trod enc P W 0 (fun _=>true) true s v d ps):∃ R:List (List Int),V W (okOf Ctx.nil W.heap.size) Ctx.nil (.imm .arg 1 (R.map encRH)) v:=by
  obtain ⟨a,len,cap,rfl⟩:=okWide_slice hs hval
  obtain ⟨fuel,hf⟩:=hd
  obtain ⟨R,v,hv,h⟩:=rows_cells hs ct ht hq cq hf
  simp [Value.cells] at hv
  subst hv
  exact ⟨R,h⟩
end Go.HL
end
