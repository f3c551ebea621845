/- A part of the proof. -/
import Derived.Test.YtiejmoglooaalaaP9B
set_option linter.unusedVariables false
set_option linter.unusedSimpArgs false
set_option linter.unnecessarySimpa false
section
open Go Go.HL Go.HL.So
namespace Go.Proofs.Ytiejmoglooaalaa
set_option linter.unusedSectionVars false
open Go.Proofs.Try renaming prog → Tp
open Go.HL.HV renaming undef → Ud
section
variable {xb:Nat} {α:Type} [Inhabited α] {enc:α → HV} {lt:α → α → Prop} {dom:α → Prop} {H:Heap} {db n:Nat} {cap:Option Nat}
abbrev swB (s:Int):Blk:=.arr 1 [.int .i64 s] true 0
theorem Mm_last (l:List α) (B:Blk):(Mm enc H db l [B])[H.length]?=some B:=by
  unfold Mm
  rw [List.getElem?_append_right (by simp)]
  simp
theorem Mm_set (l:List α) (B B':Blk):(Mm enc H db l [B]).set H.length B'=Mm enc H db l [B']:=by
  unfold Mm
  rw [List.set_append_right _ _ (by simp)]
  simp
theorem mxM (S:So xb enc lt dom H db n) (l:List α) (B:Blk) (hB:B.mx=0):mxs (Mm enc H db l [B]) ≤ H.length:=by
  have h:=S.mx
  rw [mxs_le] at h ⊢
  intro C hC
  unfold Mm at hC
  rcases List.mem_append.1 hC with hC | hC
  · rcases List.mem_or_eq_of_mem_set hC with hC | rfl
    · exact h C hC
    · exact Nat.zero_le _
  · rw [List.mem_singleton.1 hC]; omega
theorem gcT (S:So xb enc lt dom H db n) (l l':List α) (B:Blk) (hB:B.mx=0):gc (Mm enc H db l []).length 0 (Mm enc H db l' [B])=Mm enc H db l' []:=by
  have h:=mxM S l' B hB
  have e:(Mm enc H db l []).length=H.length:=by simp [Mm]
  unfold gc
  rw [e,show max H.length (max 0 (mxs (Mm enc H db l' [B])))=H.length by omega]
  unfold Mm
  rw [List.take_append_of_le_length (by simp),List.take_of_length_le (by simp),List.append_nil]
theorem gcB (l l':List α) (B B':Blk) (r:Nat):gc (Mm enc H db l [B]).length r (Mm enc H db l' [B'])=Mm enc H db l' [B']:=gcM l l' [B] [B'] r rfl
theorem ld_sw (l:List α) (s:Int):loadV Tp (Mm enc H db l [swB s]) 3 (.ptr H.length 0 0 1)=some (.int .i64 s):=load_elem (b:=H.length) (Mm_last l (swB s)) rfl rfl rfl a3 i3
theorem st_sw (l:List α) (s r:Int):storeV Tp (Mm enc H db l [swB s]) 3 (.ptr H.length 0 0 1) (.int .i64 r)=some (Mm enc H db l [swB r]):=by
  have:=store_elem (P:=Tp) (t:=3) (b:=H.length) (i:=0) (tot:=1) (old:=.int .i64 s) (v:=.int .i64 r) (Mm_last (enc:=enc) (db:=db) l (swB s)) rfl rfl rfl (by intro cs h; cases h) z3 rfl rfl (by simp [bnd])
  rw [this,Mm_set]; rfl
theorem new_sw (l:List α) (k:IntKind) (s:Int):newV (.int k s) (Mm enc H db l [])=(.ptr H.length 0 0 1,Mm enc H db l [.arr 1 [.int k s] true 0]):=by
  simp only [newV,cellsOf,bnd,Mm]
  simp
theorem ord2_ok (S:So xb enc lt dom H db n) {a b:Nat} (ha:a < n) (hb:b < n) {l:List α} (hl:l.length=n) (hD:Dm dom l) (s:Int) :
    ∃ (p q:Nat) (s':Int),ClS 112 [.sl db 0 n cap n 1,.int .i64 (a:Int),.int .i64 (b:Int),.ptr H.length 0 0 1,.func 69 [] [.ptr xb 0 0 1]] (Mm enc H db l [swB s]) (.tuple [.int .i64 (p:Int),.int .i64 (q:Int)]) (Mm enc H db l [swB s'])∧((p=a∧q=b) ∨ (p=b∧q=a)):=by
  have hn:=S.nb
  by_cases c:lt (at_ l b) (at_ l a)
  · obtain ⟨cc,N,hN,hc⟩:=S.ct (T:=[swB s]) hl rfl (hD.at (i:=b) (by omega)) (hD.at (i:=a) (by omega)) c
    have t:=o2_a_0 (xb:=xb) N db n cap (Mm enc H db l [swB s]) H.length a b (ixs (i:=b) rfl hb) (S.ld l _ _ hl hb) (ixs (i:=a) rfl ha) (S.ld l _ _ hl ha) hN hc (ld_sw l s) (st_sw l s _)
    have hc:=CallsTo.shared (P:=Tp) (pol:=polSo) (g:=112) (fn:=Try.f112) (cd:=B112) (args:=[.sl db 0 n cap n 1,.int .i64 (a:Int),.int .i64 (b:Int),.ptr H.length 0 0 1,.func 69 [] [.ptr xb 0 0 1]]) (v:=.tuple [.int .i64 (b:Int),.int .i64 (a:Int)]) (by kernel_rfl) (by kernel_rfl) (by kernel_rfl) (by kernel_rfl) t (by kernel_rfl) (by simp) (by kernel_rfl)
    rw [gcB] at hc
    exact ⟨b,a,_,hc,.inr ⟨rfl,rfl⟩⟩
  · obtain ⟨cc,N,hN,hc⟩:=S.cf (T:=[swB s]) hl rfl (hD.at (i:=b) (by omega)) (hD.at (i:=a) (by omega)) c
    have t:=o2_a_1 (xb:=xb) N db n cap (Mm enc H db l [swB s]) H.length a b (ixs (i:=b) rfl hb) (S.ld l _ _ hl hb) (ixs (i:=a) rfl ha) (S.ld l _ _ hl ha) hN hc
    have hc:=CallsTo.shared (P:=Tp) (pol:=polSo) (g:=112) (fn:=Try.f112) (cd:=B112) (args:=[.sl db 0 n cap n 1,.int .i64 (a:Int),.int .i64 (b:Int),.ptr H.length 0 0 1,.func 69 [] [.ptr xb 0 0 1]]) (v:=.tuple [.int .i64 (a:Int),.int .i64 (b:Int)]) (by kernel_rfl) (by kernel_rfl) (by kernel_rfl) (by kernel_rfl) t (by kernel_rfl) (by simp) (by kernel_rfl)
    rw [gcB] at hc
    exact ⟨a,b,_,hc,.inl ⟨rfl,rfl⟩⟩
theorem med_ok (S:So xb enc lt dom H db n) {a b q:Nat} (ha:a < n) (hb:b < n) (hq:q < n) {l:List α} (hl:l.length=n) (hD:Dm dom l) (s:Int) :
    ∃ (r:Nat) (s':Int),ClS 111 [.sl db 0 n cap n 1,.int .i64 (a:Int),.int .i64 (b:Int),.int .i64 (q:Int),.ptr H.length 0 0 1,.func 69 [] [.ptr xb 0 0 1]] (Mm enc H db l [swB s]) (.int .i64 (r:Int)) (Mm enc H db l [swB s'])∧(r=a ∨ r=b ∨ r=q):=by
  obtain ⟨p1,q1,s1,h1,e1⟩:=ord2_ok S (cap:=cap) ha hb hl hD s
  obtain ⟨p2,q2,s2,h2,e2⟩:=ord2_ok S (cap:=cap) (a:=q1) (b:=q) (by omega) hq hl hD s1
  obtain ⟨p3,q3,s3,h3,e3⟩:=ord2_ok S (cap:=cap) (a:=p1) (b:=p2) (by omega) (by omega) hl hD s2
  obtain ⟨N1,h1⟩:=h1.from
  obtain ⟨N2,h2⟩:=h2.from
  obtain ⟨N3,h3⟩:=h3.from
  have t:=md_a_0 (xb:=xb) (N1+N2+N3) db n cap (Mm enc H db l [swB s]) H.length a b q (fun kf hk=>h1 kf (by omega)) (fun kf hk=>h2 kf (by omega)) (fun kf hk=>h3 kf (by omega))
  have hc:=CallsTo.shared (P:=Tp) (pol:=polSo) (g:=111) (fn:=Try.f111) (cd:=B111) (args:=[.sl db 0 n cap n 1,.int .i64 (a:Int),.int .i64 (b:Int),.int .i64 (q:Int),.ptr H.length 0 0 1,.func 69 [] [.ptr xb 0 0 1]]) (v:=.int .i64 (q3:Int)) (by kernel_rfl) (by kernel_rfl) (by kernel_rfl) (by kernel_rfl) t (by kernel_rfl) (by simp) (by kernel_rfl)
  rw [gcB] at hc
  exact ⟨q3,s3,hc,by omega⟩
theorem madj_ok (S:So xb enc lt dom H db n) {a:Nat} {e:Int} (he:e=(a:Int)) (h1:1 ≤ a) (h2:a+1 < n) {l:List α} (hl:l.length=n) (hD:Dm dom l) (s:Int) :
    ∃ (r:Nat) (s':Int),ClS 110 [.sl db 0 n cap n 1,.int .i64 e,.ptr H.length 0 0 1,.func 69 [] [.ptr xb 0 0 1]] (Mm enc H db l [swB s]) (.int .i64 (r:Int)) (Mm enc H db l [swB s'])∧a - 1 ≤ r∧r ≤ a+1:=by
  subst he
  have hn:=S.nb
  obtain ⟨r,s',h,er⟩:=med_ok S (cap:=cap) (a:=a - 1) (b:=a) (q:=a+1) (by omega) (by omega) (by omega) hl hD s
  obtain ⟨N,h⟩:=h.from
  have t:=ma_a_0 (xb:=xb) N db n cap (Mm enc H db l [swB s]) H.length a (by rw [wrap_pred (by omega) (by omega),wrap_succ (by omega)]; exact h)
  have hc:=CallsTo.shared (P:=Tp) (pol:=polSo) (g:=110) (fn:=Try.f110) (cd:=B110) (args:=[.sl db 0 n cap n 1,.int .i64 (a:Int),.ptr H.length 0 0 1,.func 69 [] [.ptr xb 0 0 1]]) (v:=.int .i64 (r:Int)) (by kernel_rfl) (by kernel_rfl) (by kernel_rfl) (by kernel_rfl) t (by kernel_rfl) (by simp) (by kernel_rfl)
  rw [gcB] at hc
  exact ⟨r,s',hc,by omega⟩
theorem cv_idx {a b m:Nat} (hab:a ≤ b) (hb:b ≤ 60000) (hm:m ≤ 3):IntKind.i64.wrap ((a:Int)+IntKind.i64.wrap (IntKind.i64.wrap ((IntKind.i64.wrap ((b:Int) - (a:Int)):Int).tdiv 4) * (m:Int)))=((a+(b - a) / 4 * m:Nat):Int):=by
  have h1:IntKind.i64.wrap ((b:Int) - (a:Int))=((b - a:Nat):Int):=by rw [wrap_id (by omega) (by omega)]; omega
  have h2:((b - a:Nat):Int).tdiv 4=(((b - a) / 4:Nat):Int):=by rw [Int.tdiv_eq_ediv_of_nonneg (by omega)]; omega
  rw [h1,h2,wrap_id (n:=(((b - a) / 4:Nat):Int)) (by omega) (by omega)]
  have h3:(((b - a) / 4:Nat):Int) * (m:Int)=(((b - a) / 4 * m:Nat):Int):=by push_cast; rfl
  have h4:(b - a) / 4 * m ≤ 60000:=by
    have h6:(b - a) / 4 * m ≤ (b - a) / 4 * 3:=Nat.mul_le_mul_left _ hm
    omega
  rw [h3]
  generalize (b - a) / 4 * m=z at h4
  rw [wrap_id (n:=(z:Int)) (by omega) (by omega),wrap_id (by omega) (by omega)]; omega
theorem piv_ok (S:So xb enc lt dom H db n) {a b:Nat} (hab:a+12 < b) (hb:b ≤ n) {l:List α} (hl:l.length=n) (hD:Dm dom l) :
    ∃ (p:Nat) (h:Int),ClS 102 [.sl db 0 n cap n 1,.int .i64 (a:Int),.int .i64 (b:Int),.func 69 [] [.ptr xb 0 0 1]] (Mm enc H db l []) (.tuple [.int .i64 (p:Int),.int .i64 h]) (Mm enc H db l [])∧a ≤ p∧p < b:=by
  have hn:=S.nb
  have i1:=cv_idx (a:=a) (b:=b) (m:=1) (by omega) (by omega) (by omega)
  have i2:=cv_idx (a:=a) (b:=b) (m:=2) (by omega) (by omega) (by omega)
  have i3:=cv_idx (a:=a) (b:=b) (m:=3) (by omega) (by omega) (by omega)
  have hw:IntKind.i64.wrap ((b:Int) - (a:Int))=((b - a:Nat):Int):=(by rw [wrap_id (by omega) (by omega)]; omega)
  have g0:some (newV (.int .i64 0) (Mm enc H db l []))=some (.ptr H.length 0 0 1,Mm enc H db l [swB 0]):=congrArg some (new_sw l .i64 0)
  have fin:∀ (p:Nat) (h:Int) (E:Env) (s:Int),a ≤ p → p < b → RT polSo 102 B102 (args0 [.sl db 0 n cap n 1,.int .i64 (a:Int),.int .i64 (b:Int),.func 69 [] [.ptr xb 0 0 1]]) (Mm enc H db l []) .ret E (Mm enc H db l [swB s]) → resultsV Tp Try.f102 E (Mm enc H db l [swB s])=some (.tuple [.int .i64 (p:Int),.int .i64 h]) →
      ∃ (p:Nat) (h:Int),ClS 102 [.sl db 0 n cap n 1,.int .i64 (a:Int),.int .i64 (b:Int),.func 69 [] [.ptr xb 0 0 1]] (Mm enc H db l []) (.tuple [.int .i64 (p:Int),.int .i64 h]) (Mm enc H db l [])∧a ≤ p∧p < b:=by
    intro p h E s h1 h2 t hv
    have hc:=CallsTo.shared (P:=Tp) (pol:=polSo) (g:=102) (fn:=Try.f102) (cd:=B102) (args:=[.sl db 0 n cap n 1,.int .i64 (a:Int),.int .i64 (b:Int),.func 69 [] [.ptr xb 0 0 1]]) (by kernel_rfl) (by kernel_rfl) (by kernel_rfl) (by kernel_rfl) t (by kernel_rfl) (by simp) hv
    rw [show bnd (.tuple [.int .i64 (p:Int),.int .i64 h])=0 by simp [bnd,bndL],gcT S l l (swB s) rfl] at hc
    exact ⟨p,h,hc,h1,h2⟩
  by_cases c:50 ≤ b - a
  · obtain ⟨r1,s1,h1,e1⟩:=madj_ok S (cap:=cap) (a:=a+(b - a) / 4 * 1) i1 (by omega) (by omega) hl hD 0
    obtain ⟨r2,s2,h2,e2⟩:=madj_ok S (cap:=cap) (a:=a+(b - a) / 4 * 2) i2 (by omega) (by omega) hl hD s1
    obtain ⟨r3,s3,h3,e3⟩:=madj_ok S (cap:=cap) (a:=a+(b - a) / 4 * 3) i3 (by omega) (by omega) hl hD s2
    obtain ⟨r,s,h4,e4⟩:=med_ok S (cap:=cap) (a:=r1) (b:=r2) (q:=r3) (by omega) (by omega) (by omega) hl hD s3
    obtain ⟨N1,h1⟩:=h1.from
    obtain ⟨N2,h2⟩:=h2.from
    obtain ⟨N3,h3⟩:=h3.from
    obtain ⟨N4,h4⟩:=h4.from
    by_cases d1:s=0
    · have t:=cv_a_0 (xb:=xb) (N1+N2+N3+N4) db n cap (Mm enc H db l []) H.length a b g0 (by rw [hw]; omega) (by rw [hw]; omega) (fun kf hk=>h1 kf (by omega)) (fun kf hk=>h2 kf (by omega)) (fun kf hk=>h3 kf (by omega)) (fun kf hk=>h4 kf (by omega)) (ld_sw l s) d1
      exact fin r 1 _ s (by omega) (by omega) t (by kernel_rfl)
    · by_cases d2:s=12
      · have t:=cv_a_1 (xb:=xb) (N1+N2+N3+N4) db n cap (Mm enc H db l []) H.length a b g0 (by rw [hw]; omega) (by rw [hw]; omega) (fun kf hk=>h1 kf (by omega)) (fun kf hk=>h2 kf (by omega)) (fun kf hk=>h3 kf (by omega)) (fun kf hk=>h4 kf (by omega)) (ld_sw l s) d1 d2
        exact fin r 2 _ s (by omega) (by omega) t (by kernel_rfl)
      · have t:=cv_a_2 (xb:=xb) (N1+N2+N3+N4) db n cap (Mm enc H db l []) H.length a b g0 (by rw [hw]; omega) (by rw [hw]; omega) (fun kf hk=>h1 kf (by omega)) (fun kf hk=>h2 kf (by omega)) (fun kf hk=>h3 kf (by omega)) (fun kf hk=>h4 kf (by omega)) (ld_sw l s) d1 d2
        exact fin r 0 _ s (by omega) (by omega) t (by kernel_rfl)
  · obtain ⟨r,s,h4,e4⟩:=med_ok S (cap:=cap) (a:=a+(b - a) / 4 * 1) (b:=a+(b - a) / 4 * 2) (q:=a+(b - a) / 4 * 3) (by omega) (by omega) (by omega) hl hD 0
    obtain ⟨N4,h4⟩:=h4.from
    rw [← i1,← i2,← i3] at h4
    by_cases d1:s=0
    · have t:=cv_a_3 (xb:=xb) N4 db n cap (Mm enc H db l []) H.length a b g0 (by rw [hw]; omega) (by rw [hw]; omega) h4 (ld_sw l s) d1
      exact fin r 1 _ s (by omega) (by omega) t (by kernel_rfl)
    · by_cases d2:s=12
      · have t:=cv_a_4 (xb:=xb) N4 db n cap (Mm enc H db l []) H.length a b g0 (by rw [hw]; omega) (by rw [hw]; omega) h4 (ld_sw l s) d1 d2
        exact fin r 2 _ s (by omega) (by omega) t (by kernel_rfl)
      · have t:=cv_a_5 (xb:=xb) N4 db n cap (Mm enc H db l []) H.length a b g0 (by rw [hw]; omega) (by rw [hw]; omega) h4 (ld_sw l s) d1 d2
        exact fin r 0 _ s (by omega) (by omega) t (by kernel_rfl)
abbrev uB (s:Int):Blk:=.arr 1 [.int .u64 s] true 0
theorem z128s:tySize Tp 123=some 1:=by kernel_rfl
theorem a128s:tyAgg Tp 123=false:=by kernel_rfl
theorem i128s:(Tp.underlying 123).isSome=true:=by kernel_rfl
theorem ld_u (l:List α) (s:Int):loadV Tp (Mm enc H db l [uB s]) 123 (.ptr H.length 0 0 1)=some (.int .u64 s):=load_elem (b:=H.length) (Mm_last l (uB s)) rfl rfl rfl a128s i128s
theorem st_u (l:List α) (s r:Int):storeV Tp (Mm enc H db l [uB s]) 123 (.ptr H.length 0 0 1) (.int .u64 r)=some (Mm enc H db l [uB r]):=by
  have:=store_elem (P:=Tp) (t:=123) (b:=H.length) (i:=0) (tot:=1) (old:=.int .u64 s) (v:=.int .u64 r) (Mm_last (enc:=enc) (db:=db) l (uB s)) rfl rfl rfl (by intro cs h; cases h) z128s rfl rfl (by simp [bnd])
  rw [this,Mm_set]; rfl
theorem bx (a b:Int):∃ r,binV Tp .xor 123 (.int .u64 a) (.int .u64 b)=some (.int .u64 r):=⟨_,rfl⟩
theorem bs13 (a:Int):∃ r,binV Tp .shl 123 (.int .u64 a) (.int .u64 13)=some (.int .u64 r):=⟨_,rfl⟩
theorem bs17 (a:Int):∃ r,binV Tp .shl 123 (.int .u64 a) (.int .u64 17)=some (.int .u64 r):=⟨_,rfl⟩
theorem br7 (a:Int):∃ r,binV Tp .shr 123 (.int .u64 a) (.int .u64 7)=some (.int .u64 r):=⟨_,rfl⟩
theorem xor_ok (l:List α) (s:Int):∃ r,ClS 96 [.ptr H.length 0 0 1] (Mm enc H db l [uB s]) (.int .u64 r) (Mm enc H db l [uB r]):=by
  obtain ⟨h0,e0⟩:=bs13 s
  obtain ⟨h1,e1⟩:=bx s h0
  obtain ⟨h2,e2⟩:=br7 h1
  obtain ⟨h3,e3⟩:=bx h1 h2
  obtain ⟨h4,e4⟩:=bs17 h3
  obtain ⟨h5,e5⟩:=bx h3 h4
  have t:=xs_a_0 0 0 0 none (Mm enc H db l [uB s]) H.length (ld_u l s) (ld_u l s) e0 e1 (st_u l s h1) (ld_u l h1) (ld_u l h1) e2 e3 (st_u l h1 h3) (ld_u l h3) (ld_u l h3) e4 e5 (st_u l h3 h5) (ld_u l h5)
  have hc:=CallsTo.shared (P:=Tp) (pol:=polSo) (g:=96) (fn:=Try.f96) (cd:=B96) (args:=[.ptr H.length 0 0 1]) (v:=.int .u64 h5) (by kernel_rfl) (by kernel_rfl) (by kernel_rfl) (by kernel_rfl) t (by kernel_rfl) (by simp) (by kernel_rfl)
  rw [gcB] at hc
  exact ⟨_,hc⟩
theorem and_u {u:Int} {m:Nat} (hm:m < 9223372036854775808):∃ h:Nat,binV Tp .and 82 (.int .u64 u) (.int .u64 (m:Int))=some (.int .u64 (h:Int))∧h ≤ m:=by
  have e:binV Tp .and 82 (.int .u64 u) (.int .u64 (m:Int))=some (.int .u64 (IntKind.u64.wrap (BitVec.ofInt IntKind.u64.bits u &&& BitVec.ofInt IntKind.u64.bits (m:Int)).toNat)):=rfl
  have hle:(BitVec.ofInt IntKind.u64.bits u &&& BitVec.ofInt IntKind.u64.bits (m:Int)).toNat ≤ m:=by
    rw [BitVec.toNat_and]
    refine Nat.le_trans Nat.and_le_right ?_
    rw [BitVec.toNat_ofInt]
    show ((m:Int) % ((2 ^ 64:Nat):Int)).toNat ≤ m
    omega
  refine ⟨_,?_,hle⟩
  rw [e]
  congr 2
  rw [wrapU64]
  generalize (BitVec.ofInt IntKind.u64.bits u &&& BitVec.ofInt IntKind.u64.bits (m:Int)).toNat=h at hle
  omega
theorem bk_loop (S:So xb enc lt dom H db n) {a b k m:Nat} (hk:b=a+k) (hk8:8 ≤ k) (hb:b ≤ n) (hm1:1 ≤ m) (hm2:m ≤ 2 * k):∀ (d i:Nat) (l:List α) (s:Int),i+d=a+k / 4 * 2+2 → a+k / 4 * 2 - 1 ≤ i → l.length=n →
    ∃ y5 y6 l' s',RT polSo 101 (sub [1,1,0,1,1,1,0] B101) (env101 (.sl db 0 n cap n 1) (.int .i64 (a:Int)) (.int .i64 (b:Int)) (.int .i64 (k:Int)) (.ptr H.length 0 0 1) (.int .u64 (m:Int)) (.int .i64 (i:Int)) Ud) (Mm enc H db l [uB s]) (.exit 0) (env101 (.sl db 0 n cap n 1) (.int .i64 (a:Int)) (.int .i64 (b:Int)) (.int .i64 (k:Int)) (.ptr H.length 0 0 1) (.int .u64 (m:Int)) y5 y6) (Mm enc H db l' [uB s'])∧Sw a b l l':=by
  have hn:=S.nb
  have e0:IntKind.i64.wrap (((k:Int):Int).tdiv 4)=((k / 4:Nat):Int):=by
    rw [Int.tdiv_eq_ediv_of_nonneg (by omega),wrap_id (by omega) (by omega)]; omega
  have e1:IntKind.i64.wrap ((a:Int)+IntKind.i64.wrap (IntKind.i64.wrap (((k:Int):Int).tdiv 4) * 2))=((a+k / 4 * 2:Nat):Int):=by
    rw [e0,wrap_id (n:=((k / 4:Nat):Int) * 2) (by omega) (by omega),wrap_id (by omega) (by omega)]; omega
  have e2:IntKind.i64.wrap (IntKind.i64.wrap ((a:Int)+IntKind.i64.wrap (IntKind.i64.wrap (((k:Int):Int).tdiv 4) * 2))+1)=((a+k / 4 * 2+1:Nat):Int):=by
    rw [e1,wrap_id (by omega) (by omega)]; omega
  intro d
  induction d with
  | zero =>
    intro i l s hi hi2 hl
    exact ⟨_,_,l,s,lpo (bk_f_2 0 db n cap (Mm enc H db l [uB s]) H.length a b k m i (y12:=Ud) (by rw [e2]; omega)),.refl⟩
  | succ d ih =>
    intro i l s hi hi2 hl
    obtain ⟨u,hx⟩:=xor_ok (enc:=enc) (H:=H) (db:=db) l s
    obtain ⟨N,hN⟩:=hx.from
    have hu:IntKind.u64.wrap ((m:Int) - 1)=((m - 1:Nat):Int):=by rw [wrapU64]; omega
    obtain ⟨h,hand,hh⟩:=and_u (u:=u) (m:=m - 1) (by omega)
    rw [← hu] at hand
    have hwh:IntKind.i64.wrap (h:Int)=(h:Int):=wrap_id (by omega) (by omega)
    have next:∀ o:Nat,o < k → ∀ y,RT polSo 101 (sub [1,1,0,1,1,1,0,0] B101) (env101 (.sl db 0 n cap n 1) (.int .i64 (a:Int)) (.int .i64 (b:Int)) (.int .i64 (k:Int)) (.ptr H.length 0 0 1) (.int .u64 (m:Int)) (.int .i64 (i:Int)) Ud) (Mm enc H db l [uB s]) .normal (env101 (.sl db 0 n cap n 1) (.int .i64 (a:Int)) (.int .i64 (b:Int)) (.int .i64 (k:Int)) (.ptr H.length 0 0 1) (.int .u64 (m:Int)) (.int .i64 (IntKind.i64.wrap ((i:Int)+1))) y) (Mm enc H db (swp l i (a+o)) [uB u]) →
        ∃ y5 y6 l' s',RT polSo 101 (sub [1,1,0,1,1,1,0] B101) (env101 (.sl db 0 n cap n 1) (.int .i64 (a:Int)) (.int .i64 (b:Int)) (.int .i64 (k:Int)) (.ptr H.length 0 0 1) (.int .u64 (m:Int)) (.int .i64 (i:Int)) Ud) (Mm enc H db l [uB s]) (.exit 0) (env101 (.sl db 0 n cap n 1) (.int .i64 (a:Int)) (.int .i64 (b:Int)) (.int .i64 (k:Int)) (.ptr H.length 0 0 1) (.int .u64 (m:Int)) y5 y6) (Mm enc H db l' [uB s'])∧Sw a b l l':=by
      intro o ho y st
      rw [wrap_succ (by omega)] at st
      have sw:Sw a b l (swp l i (a+o)):=Sw.one (by omega) (by omega) (by omega) (by omega)
      obtain ⟨y5,y6,l',s',r,q⟩:=ih (i+1) (swp l i (a+o)) u (by omega) (by omega) (by rw [swp_len]; exact hl)
      exact ⟨y5,y6,l',s',lop (st) (gcM _ _ _ _ _ rfl) (r),sw.trans q⟩
    by_cases c:k ≤ h
    · have e3:IntKind.i64.wrap (IntKind.i64.wrap (h:Int) - (k:Int))=((h - k:Nat):Int):=by rw [hwh,wrap_id (by omega) (by omega)]; omega
      have e4:IntKind.i64.wrap ((a:Int)+IntKind.i64.wrap (IntKind.i64.wrap (h:Int) - (k:Int)))=((a+(h - k):Nat):Int):=by rw [e3,wrap_id (by omega) (by omega)]; omega
      obtain ⟨s1,s2⟩:=S.st2 (T:=[uB u]) hl (i:=i) (j:=a+(h - k)) (by omega) (by omega)
      have st:=bk_f_0 N db n cap (Mm enc H db l [uB s]) H.length a b k m i (y12:=Ud) (by rw [e2]; omega) hN hand (by rw [hwh]; omega) (ixs e4 (by omega)) (S.ld l _ _ hl (by omega)) (ixs (i:=i) rfl (by omega)) (S.ld l _ _ hl (by omega)) (ixs (i:=i) rfl (by omega)) s1 (ixs e4 (by omega)) s2
      exact next (h - k) (by omega) _ st
    · have e4:IntKind.i64.wrap ((a:Int)+IntKind.i64.wrap (h:Int))=((a+h:Nat):Int):=by rw [hwh,wrap_id (by omega) (by omega)]; omega
      obtain ⟨s1,s2⟩:=S.st2 (T:=[uB u]) hl (i:=i) (j:=a+h) (by omega) (by omega)
      have st:=bk_f_1 N db n cap (Mm enc H db l [uB s]) H.length a b k m i (y12:=Ud) (by rw [e2]; omega) hN hand (by rw [hwh]; omega) (ixs e4 (by omega)) (S.ld l _ _ hl (by omega)) (ixs (i:=i) rfl (by omega)) (S.ld l _ _ hl (by omega)) (ixs (i:=i) rfl (by omega)) s1 (ixs e4 (by omega)) s2
      exact next h (by omega) _ st
theorem brk_ok (S:So xb enc lt dom H db n) {a b:Nat} (hab:a+8 ≤ b) (hb:b ≤ n) {l:List α} (hl:l.length=n) :
    ∃ l',ClS 101 [.sl db 0 n cap n 1,.int .i64 (a:Int),.int .i64 (b:Int),.func 69 [] [.ptr xb 0 0 1]] (Mm enc H db l []) (.tuple []) (Mm enc H db l' [])∧Sw a b l l':=by
  have hn:=S.nb
  obtain ⟨k,rfl⟩:∃ k,b=a+k:=⟨b - a,by omega⟩
  have hw:IntKind.i64.wrap (((a+k:Nat):Int) - (a:Int))=(k:Int):=by rw [wrap_id (by omega) (by omega)]; omega
  have t0:=bk_a_0 (xb:=xb) 0 db n cap (Mm enc H db l []) H.length a (a+k)
  rw [hw] at t0
  have t1:=bk_b_0 0 db n cap (Mm enc H db l []) H.length a (a+k) k (y9:=Ud) (y10:=Ud) (y11:=Ud) (y12:=Ud) (by omega)
  have g0:some (newV (.int .u64 0) (Mm enc H db l []))=some (.ptr H.length 0 0 1,Mm enc H db l [uB 0]):=congrArg some (new_sw l .u64 0)
  have t2:=bk_c_0 0 db n cap (Mm enc H db l []) H.length a (a+k) k (y9:=Ud) (y10:=Ud) (y11:=Ud) (y12:=Ud) g0 (st_u l 0 _)
  have hl2:=(lenN_ok (x:=k) (by omega)).1 (by omega)
  have t3:=bk_d_0 0 db n cap (Mm enc H db l [uB (IntKind.u64.wrap (k:Int))]) H.length a (a+k) k (y10:=Ud) (y11:=Ud) (y12:=Ud) (u0:=((2 ^ lenN k:Nat):Int)) (fun kf _=>by
    rw [prim_call (pol:=polSo) (g:=95) (F:=next93) (by kernel_rfl) (rs:=[.int .i64 (k:Int)]) rfl (res:=.int .u64 ((2 ^ lenN k:Nat):Int)) (by simp only [next93]; rw [if_pos (by omega),Int.toNat_natCast])]; rfl)
  generalize 2 ^ lenN k=m at hl2 t3
  have t4:=bk_e_0 0 db n cap (Mm enc H db l [uB (IntKind.u64.wrap (k:Int))]) H.length a (a+k) k (m:Int) (y11:=Ud) (y12:=Ud)
  have e0:IntKind.i64.wrap (((k:Int):Int).tdiv 4)=((k / 4:Nat):Int):=by
    rw [Int.tdiv_eq_ediv_of_nonneg (by omega),wrap_id (by omega) (by omega)]; omega
  have e1:IntKind.i64.wrap (IntKind.i64.wrap ((a:Int)+IntKind.i64.wrap (IntKind.i64.wrap (((k:Int):Int).tdiv 4) * 2)) - 1)=((a+k / 4 * 2 - 1:Nat):Int):=by
    rw [e0,wrap_id (n:=((k / 4:Nat):Int) * 2) (by omega) (by omega),wrap_id (n:=(a:Int)+((k / 4:Nat):Int) * 2) (by omega) (by omega),wrap_id (by omega) (by omega)]; omega
  rw [e1] at t4
  obtain ⟨y5,y6,l',s',r,q⟩:=bk_loop S (cap:=cap) (m:=m) rfl (by omega) hb (by omega) (by omega) 3 (a+k / 4 * 2 - 1) l (IntKind.u64.wrap (k:Int)) (by omega) (Nat.le_refl _) hl
  have t:=sq (t0) (sq (t1) (RunsTo.cond (y:=.tmp 17) (t:=true) (c:=sub [1,1] B101) (a:=sub [1,1,0] B101) (b:=sub [1,1,1] B101) (by kernel_rfl) rfl (sq (t2) (sq (t3) (sq (t4) (bke (c:=sub [1,1,0,1,1,1] B101) (r)) (c:=sub [1,1,0,1,1] B101)) (c:=sub [1,1,0,1] B101)) (c:=sub [1,1,0] B101))) (c:=sub [1] B101)) (c:=B101)
  have hc:=CallsTo.shared (P:=Tp) (pol:=polSo) (g:=101) (fn:=Try.f101) (cd:=B101) (args:=[.sl db 0 n cap n 1,.int .i64 (a:Int),.int .i64 ((a+k:Nat):Int),.func 69 [] [.ptr xb 0 0 1]]) (v:=.tuple []) (by kernel_rfl) (by kernel_rfl) (by kernel_rfl) (by kernel_rfl) t (by kernel_rfl) (by simp) (by kernel_rfl)
  rw [show bnd (.tuple [])=0 by rfl,gcT S l l' (uB s') rfl] at hc
  exact ⟨l',hc,q⟩
end
end Go.Proofs.Ytiejmoglooaalaa
end
section
open Go Go.HL Go.HL.So
namespace Go.Proofs.Ytiejmoglooaalaa
set_option linter.unusedSectionVars false
open Go.Proofs.Try renaming prog → Tp
open Go.HL.HV renaming undef → Ud
section
variable {xb:Nat} {α:Type} [Inhabited α] {enc:α → HV} {lt:α → α → Prop} {dom:α → Prop} {H:Heap} {db n:Nat} {cap:Option Nat}
def PdqOk (xb:Nat) (enc:α → HV) (lt:α → α → Prop) (dom:α → Prop) (H:Heap) (db n:Nat) (cap:Option Nat) (d:Nat):Prop:=∀ (a b:Nat) (lim:Int) (l:List α),b - a < d → a ≤ b → b ≤ n → 0 ≤ lim → lim ≤ 1000 → l.length=n → Dm dom l → Flo lt a b l →
  ∃ l',ClS 88 [.sl db 0 n cap n 1,.int .i64 (a:Int),.int .i64 (b:Int),.int .i64 lim,.func 69 [] [.ptr xb 0 0 1]] (Mm enc H db l []) (.tuple []) (Mm enc H db l' [])∧Sw a b l l'∧Sorted lt a b l'
def Out (xb:Nat) (enc:α → HV) (lt:α → α → Prop) (dom:α → Prop) (H:Heap) (db n:Nat) (cap:Option Nat) (a b:Nat) (l:List α) (x:X) (E:Env) (l':List α):Prop :=
  Sw a b l l'∧((x=.ret∧Sorted lt a b l') ∨ ((x=.normal ∨ x=.exit 1)∧∃ (a' b':Nat) (lim':Int) (bal' par':Bool) (y2 y3 y4 y5 y6 y7 y8 y9 y10:HV),E=(env88 (.sl db 0 n cap n 1) (.int .i64 (a':Int)) (.int .i64 (b':Int)) (.int .i64 lim') (.func 69 [] [.ptr xb 0 0 1]) (.bool bal') (.bool par') y2 y3 y4 y5 y6 y7 y8 y9 y10) ∧
    b' - a' < b - a∧a ≤ a'∧a' ≤ b'∧b' ≤ b∧0 ≤ lim'∧lim' ≤ 1000∧Flo lt a' b' l'∧∀ l'',Sw a' b' l' l'' → Sorted lt a' b' l'' → Sorted lt a b l''))
theorem Out.pre {a b:Nat} {l l1 l':List α} {x:X} {E:Env} (h:Sw a b l l1) (ho:Out xb enc lt dom H db n cap a b l1 x E l'):Out xb enc lt dom H db n cap a b l x E l':=⟨h.trans ho.1,ho.2⟩
theorem Flo.part {a b a' b':Nat} {l:List α} (h:Flo lt a b l) (h1:a'=a) (h2:b' ≤ b):Flo lt a' b' l:=by
  subst h1
  exact fun h0 k h3 h4=>h h0 k h3 (by omega)
theorem join (hL:Lin lt) {a b m:Nat} {l:List α} (h1:Sorted lt a m l) (h2:Sorted lt (m+1) b l) (h3:∀ k,a ≤ k → k < m → lt (at_ l k) (at_ l m)) (h4:∀ k,m < k → k < b → ¬ lt (at_ l k) (at_ l m)):Sorted lt a b l:=by
  intro i j q1 q2 q3
  by_cases c1:j < m
  · exact h1 i j q1 q2 c1
  · by_cases c2:j=m
    · subst c2; exact hL.asy _ _ (h3 i q1 q2)
    · by_cases c3:i < m
      · exact hL.tr _ _ _ (hL.asy _ _ (h3 i q1 c3)) (h4 j (by omega) q3)
      · by_cases c4:i=m
        · subst c4; exact h4 j (by omega) q3
        · exact h2 i j (by omega) q2 q3
theorem pq_S (S:So xb enc lt dom H db n) (hL:Lin lt) {a b k p:Nat} {lim:Int} {bal par:Bool} {h:HV} (hd:PdqOk xb enc lt dom H db n cap (b - a)) (hp1:a ≤ p) (hp2:p < b) (hb:b ≤ n) (hk:k ≤ n) (hl0:0 ≤ lim) (hl1:lim ≤ 1000) {l:List α} (hl:l.length=n) (hD:Dm dom l) (hF:Flo lt a b l) :
    ∃ x E l',RT polSo 88 (sub [1,1,0,0,0,1,1,1,1,1,1,1,1] B88) (env88 (.sl db 0 n cap n 1) (.int .i64 (a:Int)) (.int .i64 (b:Int)) (.int .i64 lim) (.func 69 [] [.ptr xb 0 0 1]) (.bool bal) (.bool par) (.int .i64 (k:Int)) (.int .i64 (p:Int)) h Ud Ud Ud Ud Ud Ud) (Mm enc H db l []) x E (Mm enc H db l' [])∧Out xb enc lt dom H db n cap a b l x E l':=by
  have hn:=S.nb
  obtain ⟨m,bb,l4,hc,w1,w2,w3,w4⟩:=part_ok S (cap:=cap) (T:=[]) rfl hb hp1 hp2 hl hD
  obtain ⟨N,hN⟩:=hc.from
  have t1:=pq_n_0 (xb:=xb) N db n cap (Mm enc H db l []) 0 a b lim p (y10:=.bool bal) (y11:=.bool par) (y12:=.int .i64 (k:Int)) (y14:=h) (y15:=Ud) (y16:=Ud) (y17:=Ud) (y18:=Ud) (y19:=Ud) (y20:=Ud) hN
  have hl4:=sw_len w1 hl
  have hD4:=hD.sw w1 (by omega)
  have hF4:=hF.sw (by omega) w1
  have t2:=pq_o_0 (xb:=xb) 0 db n cap (Mm enc H db l4 []) 0 a b lim (y10:=.bool bal) (y11:=.bool par) (y12:=.int .i64 (k:Int)) (y13:=.int .i64 (p:Int)) (y14:=h) (y15:=Ud) (y16:=.int .i64 (m:Int)) (y17:=.bool bb) (y18:=Ud) (y19:=Ud) (y20:=Ud)
  have t3:=pq_p_0 (xb:=xb) 0 db n cap (Mm enc H db l4 []) 0 a b lim m (y10:=.bool bal) (y11:=.bool bb) (y12:=.int .i64 (k:Int)) (y13:=.int .i64 (p:Int)) (y14:=h) (y15:=Ud) (y17:=.bool bb) (y18:=Ud) (y19:=Ud) (y20:=Ud)
  have e1:IntKind.i64.wrap ((m:Int) - (a:Int))=((m - a:Nat):Int):=(by rw [wrap_id (by omega) (by omega)]; omega)
  have e2:IntKind.i64.wrap ((b:Int) - (m:Int))=((b - m:Nat):Int):=(by rw [wrap_id (by omega) (by omega)]; omega)
  rw [e1,e2] at t3
  have t4:=pq_q_0 (xb:=xb) 0 db n cap (Mm enc H db l4 []) 0 a b lim k (y10:=.bool bal) (y11:=.bool bb) (y13:=.int .i64 (p:Int)) (y14:=h) (y15:=Ud) (y16:=.int .i64 (m:Int)) (y17:=.bool bb) (y18:=.int .i64 ((m - a:Nat):Int)) (y19:=.int .i64 ((b - m:Nat):Int)) (y20:=Ud)
  generalize IntKind.i64.wrap (((k:Int):Int).tdiv 8)=th at t4
  have up:∀ (x:X) (E:Env) (l':List α),RT polSo 88 (sub [1,1,0,0,0,1,1,1,1,1,1,1,1,1,1,1,1] B88) (env88 (.sl db 0 n cap n 1) (.int .i64 (a:Int)) (.int .i64 (b:Int)) (.int .i64 lim) (.func 69 [] [.ptr xb 0 0 1]) (.bool bal) (.bool bb) (.int .i64 (k:Int)) (.int .i64 (p:Int)) h Ud (.int .i64 (m:Int)) (.bool bb) (.int .i64 ((m - a:Nat):Int)) (.int .i64 ((b - m:Nat):Int)) (.int .i64 th)) (Mm enc H db l4 []) .normal E (Mm enc H db l' []) → Out xb enc lt dom H db n cap a b l4 .normal E l' →
      ∃ x E l',RT polSo 88 (sub [1,1,0,0,0,1,1,1,1,1,1,1,1] B88) (env88 (.sl db 0 n cap n 1) (.int .i64 (a:Int)) (.int .i64 (b:Int)) (.int .i64 lim) (.func 69 [] [.ptr xb 0 0 1]) (.bool bal) (.bool par) (.int .i64 (k:Int)) (.int .i64 (p:Int)) h Ud Ud Ud Ud Ud Ud) (Mm enc H db l []) x E (Mm enc H db l' [])∧Out xb enc lt dom H db n cap a b l x E l':=fun x E l' t ho =>
    ⟨_,E,l',sq (t1) (sq (t2) (sq (t3) (sq (t4) (t) (c:=sub [1,1,0,0,0,1,1,1,1,1,1,1,1,1,1,1] B88)) (c:=sub [1,1,0,0,0,1,1,1,1,1,1,1,1,1,1] B88)) (c:=sub [1,1,0,0,0,1,1,1,1,1,1,1,1,1] B88)) (c:=sub [1,1,0,0,0,1,1,1,1,1,1,1,1] B88),Out.pre w1 ho⟩
  by_cases c:((m - a:Nat):Int) < ((b - m:Nat):Int)
  · obtain ⟨l5,hc5,v1,v2⟩:=hd a m lim l4 (by omega) (by omega) (by omega) hl0 hl1 hl4 hD4 (hF4.part rfl (by omega))
    obtain ⟨N5,hN5⟩:=hc5.from
    have hl5:=sw_len v1 hl4
    have e3:IntKind.i64.wrap ((m:Int)+1)=((m+1:Nat):Int):=wrap_succ (by omega)
    have ho:∀ (bl:Bool),Out xb enc lt dom H db n cap a b l4 .normal (env88 (.sl db 0 n cap n 1) (.int .i64 ((m+1:Nat):Int)) (.int .i64 (b:Int)) (.int .i64 lim) (.func 69 [] [.ptr xb 0 0 1]) (.bool bl) (.bool bb) (.int .i64 (k:Int)) (.int .i64 (p:Int)) h Ud (.int .i64 (m:Int)) (.bool bb) (.int .i64 ((m - a:Nat):Int)) (.int .i64 ((b - m:Nat):Int)) (.int .i64 th)) l5:=fun bl=>by
      refine ⟨v1.mono (Nat.le_refl _) (by omega),.inr ⟨.inl rfl,m+1,b,lim,bl,bb,_,_,_,_,_,_,_,_,_,rfl,by omega,by omega,by omega,Nat.le_refl _,hl0,hl1,fun _ k h1 h2=>?_,fun l6 u1 u2=>?_⟩⟩
      · rw [show m+1 - 1=m by omega,v1.out (by omega) (k:=k) (by omega),v1.out (by omega) (k:=m) (by omega)]
        exact w4 k (by omega) h2
      · have em:at_ l6 m=at_ l4 m:=(u1.out (by omega) (k:=m) (by omega)).trans (v1.out (by omega) (k:=m) (by omega))
        refine join hL (m:=m) (fun i j q1 q2 q3=>?_) u2 (fun k q1 q2=>?_) (fun k q1 q2=>?_)
        · rw [u1.out (by omega) (k:=i) (by omega),u1.out (by omega) (k:=j) (by omega)]
          exact v2 i j q1 q2 q3
        · rw [em,u1.out (by omega) (k:=k) (by omega)]
          exact v1.all (by omega) (Q:=fun x=>lt x (at_ l4 m)) (Nat.le_refl _) (Nat.le_refl _) w3 k q1 q2
        · rw [em]
          exact u1.all (by omega) (Q:=fun x=>¬ lt x (at_ l4 m)) (lo:=m+1) (hi:=b) (Nat.le_refl _) (Nat.le_refl _) (fun i h1 h2=>by
            rw [v1.out (by omega) (k:=i) (by omega)]; exact w4 i (by omega) h2) k (by omega) q2
    by_cases c2:th ≤ ((m - a:Nat):Int)
    · have t:=pq_r_0 (xb:=xb) N5 db n cap (Mm enc H db l4 []) 0 a b lim m _ _ th (y10:=.bool bal) (y11:=.bool bb) (y12:=.int .i64 (k:Int)) (y13:=.int .i64 (p:Int)) (y14:=h) (y15:=Ud) (y17:=.bool bb) c c2 hN5
      rw [e3] at t
      exact up .normal _ l5 t (ho true)
    · have t:=pq_r_1 (xb:=xb) N5 db n cap (Mm enc H db l4 []) 0 a b lim m _ _ th (y10:=.bool bal) (y11:=.bool bb) (y12:=.int .i64 (k:Int)) (y13:=.int .i64 (p:Int)) (y14:=h) (y15:=Ud) (y17:=.bool bb) c c2 hN5
      rw [e3] at t
      exact up .normal _ l5 t (ho false)
  · have hF5:Flo lt (m+1) b l4:=fun _ k h1 h2=>by rw [show m+1 - 1=m by omega]; exact w4 k (by omega) h2
    obtain ⟨l5,hc5,v1,v2⟩:=hd (m+1) b lim l4 (by omega) (by omega) hb hl0 hl1 hl4 hD4 hF5
    obtain ⟨N5,hN5⟩:=hc5.from
    have hl5:=sw_len v1 hl4
    have e3:IntKind.i64.wrap ((m:Int)+1)=((m+1:Nat):Int):=wrap_succ (by omega)
    rw [← e3] at hN5
    have ho:∀ (bl:Bool),Out xb enc lt dom H db n cap a b l4 .normal (env88 (.sl db 0 n cap n 1) (.int .i64 (a:Int)) (.int .i64 (m:Int)) (.int .i64 lim) (.func 69 [] [.ptr xb 0 0 1]) (.bool bl) (.bool bb) (.int .i64 (k:Int)) (.int .i64 (p:Int)) h Ud (.int .i64 (m:Int)) (.bool bb) (.int .i64 ((m - a:Nat):Int)) (.int .i64 ((b - m:Nat):Int)) (.int .i64 th)) l5:=fun bl=>by
      have hF6:=(hF4.sw (by omega) (v1.mono (a':=a) (by omega) (Nat.le_refl _))).part (b':=m) rfl (by omega)
      refine ⟨v1.mono (by omega) (Nat.le_refl _),.inr ⟨.inl rfl,a,m,lim,bl,bb,_,_,_,_,_,_,_,_,_,rfl,by omega,Nat.le_refl _,by omega,by omega,hl0,hl1,hF6,fun l6 u1 u2=>?_⟩⟩
      have em:at_ l6 m=at_ l4 m:=(u1.out (by omega) (k:=m) (by omega)).trans (v1.out (by omega) (k:=m) (by omega))
      refine join hL (m:=m) u2 (fun i j q1 q2 q3=>?_) (fun k q1 q2=>?_) (fun k q1 q2=>?_)
      · rw [u1.out (by omega) (k:=i) (by omega),u1.out (by omega) (k:=j) (by omega)]
        exact v2 i j q1 q2 q3
      · rw [em]
        exact u1.all (by omega) (Q:=fun x=>lt x (at_ l4 m)) (lo:=a) (hi:=m) (Nat.le_refl _) (Nat.le_refl _) (fun i h1 h2=>by
            rw [v1.out (by omega) (k:=i) (by omega)]; exact w3 i h1 h2) k q1 q2
      · rw [em,u1.out (by omega) (k:=k) (by omega)]
        exact v1.all (by omega) (Q:=fun x=>¬ lt x (at_ l4 m)) (Nat.le_refl _) (Nat.le_refl _) (fun i h1 h2=>w4 i (by omega) h2) k (by omega) q2
    by_cases c2:th ≤ ((b - m:Nat):Int)
    · have t:=pq_r_2 (xb:=xb) N5 db n cap (Mm enc H db l4 []) 0 a b lim m _ _ th (y10:=.bool bal) (y11:=.bool bb) (y12:=.int .i64 (k:Int)) (y13:=.int .i64 (p:Int)) (y14:=h) (y15:=Ud) (y17:=.bool bb) c c2 hN5
      exact up .normal _ l5 t (ho true)
    · have t:=pq_r_3 (xb:=xb) N5 db n cap (Mm enc H db l4 []) 0 a b lim m _ _ th (y10:=.bool bal) (y11:=.bool bb) (y12:=.int .i64 (k:Int)) (y13:=.int .i64 (p:Int)) (y14:=h) (y15:=Ud) (y17:=.bool bb) c c2 hN5
      exact up .normal _ l5 t (ho false)
theorem pq_T (S:So xb enc lt dom H db n) (hL:Lin lt) {a b k p:Nat} {lim:Int} {bal par:Bool} {h:HV} (hd:PdqOk xb enc lt dom H db n cap (b - a)) (hp1:a ≤ p) (hp2:p < b) (hb:b ≤ n) (hk:k ≤ n) (hl0:0 ≤ lim) (hl1:lim ≤ 1000) {l:List α} (hl:l.length=n) (hD:Dm dom l) (hF:Flo lt a b l) :
    ∃ x E l',RT polSo 88 (sub [1,1,0,0,0,1,1,1,1,1,1,1] B88) (env88 (.sl db 0 n cap n 1) (.int .i64 (a:Int)) (.int .i64 (b:Int)) (.int .i64 lim) (.func 69 [] [.ptr xb 0 0 1]) (.bool bal) (.bool par) (.int .i64 (k:Int)) (.int .i64 (p:Int)) h Ud Ud Ud Ud Ud Ud) (Mm enc H db l []) x E (Mm enc H db l' [])∧Out xb enc lt dom H db n cap a b l x E l':=by
  have hn:=S.nb
  by_cases c0:0 < a
  · have hp:IntKind.i64.wrap ((a:Int) - 1)=((a - 1:Nat):Int):=wrap_pred (by omega) (by omega)
    by_cases c:lt (at_ l (a - 1)) (at_ l p)
    · obtain ⟨cc,N,hN,hc⟩:=S.ct (T:=[]) hl rfl (hD.at (i:=a - 1) (by omega)) (hD.at (i:=p) (by omega)) c
      have t1:=pq_m_0 (xb:=xb) N db n cap (Mm enc H db l []) 0 a b lim p (y10:=.bool bal) (y11:=.bool par) (y12:=.int .i64 (k:Int)) (y14:=h) (y15:=Ud) (y16:=Ud) (y17:=Ud) (y18:=Ud) (y19:=Ud) (y20:=Ud) (by omega) (ixs hp (by omega)) (S.ld l _ _ hl (by omega)) (ixs (i:=p) rfl (by omega)) (S.ld l _ _ hl (by omega)) hN hc
      obtain ⟨x,E,l',t,ho⟩:=pq_S S hL (cap:=cap) (k:=k) (bal:=bal) (par:=par) (h:=h) hd hp1 hp2 hb hk hl0 hl1 hl hD hF
      exact ⟨x,E,l',sq t1 t (c:=sub [1,1,0,0,0,1,1,1,1,1,1,1] B88),ho⟩
    · obtain ⟨cc,N,hN,hc⟩:=S.cf (T:=[]) hl rfl (hD.at (i:=a - 1) (by omega)) (hD.at (i:=p) (by omega)) c
      obtain ⟨m,l4,hc4,w1,w2,w3,w4⟩:=peq_ok S (cap:=cap) (T:=[]) hL rfl hb hp1 hp2 hl hD
      obtain ⟨N4,hN4⟩:=hc4.from
      have t1:=pq_m_1 (xb:=xb) (N+N4) db n cap (Mm enc H db l []) 0 a b lim p (y10:=.bool bal) (y11:=.bool par) (y12:=.int .i64 (k:Int)) (y14:=h) (y15:=Ud) (y16:=Ud) (y17:=Ud) (y18:=Ud) (y19:=Ud) (y20:=Ud) (by omega) (ixs hp (by omega)) (S.ld l _ _ hl (by omega)) (ixs (i:=p) rfl (by omega)) (S.ld l _ _ hl (by omega)) (fun kf hk=>hN kf (by omega)) hc (fun kf hk=>hN4 kf (by omega))
      have hlow:∀ k,a ≤ k → k < b → ¬ lt (at_ l4 k) (at_ l (a - 1)):=w1.all (by omega) (Q:=fun x=>¬ lt x (at_ l (a - 1))) (Nat.le_refl _) (Nat.le_refl _) (hF c0)
      refine ⟨_,_,l4,sqo t1 (c:=sub [1,1,0,0,0,1,1,1,1,1,1,1] B88) (b:=sub [1,1,0,0,0,1,1,1,1,1,1,1,1] B88),w1,.inr ⟨.inr rfl,m,b,lim,bal,par,_,_,_,_,_,_,_,_,_,rfl,by omega,by omega,by omega,Nat.le_refl _,hl0,hl1,fun _ k h1 h2=>?_,fun l5 u1 u2=>?_⟩⟩
      · exact hL.tr _ _ _ (w3 (m - 1) (by omega) (by omega)) (hL.asy _ _ (w4 k h1 h2))
      · have hl4:=sw_len w1 hl
        have hr:∀ k,m ≤ k → k < b → lt (at_ l p) (at_ l5 k):=u1.all (by omega) (Q:=fun x=>lt (at_ l p) x) (Nat.le_refl _) (Nat.le_refl _) w4
        intro i j q1 q2 q3
        by_cases c1:j < m
        · rw [u1.out (by omega) (k:=i) (by omega),u1.out (by omega) (k:=j) (by omega)]
          exact hL.tr _ _ _ (hL.tr _ _ _ (w3 i q1 (by omega)) c) (hlow j (by omega) q3)
        · by_cases c2:i < m
          · rw [u1.out (by omega) (k:=i) (by omega)]
            exact hL.tr _ _ _ (w3 i q1 c2) (hL.asy _ _ (hr j (by omega) q3))
          · exact u2 i j (by omega) q2 q3
  · have t1:=pq_m_2 (xb:=xb) 0 db n cap (Mm enc H db l []) 0 a b lim p (y10:=.bool bal) (y11:=.bool par) (y12:=.int .i64 (k:Int)) (y14:=h) (y15:=Ud) (y16:=Ud) (y17:=Ud) (y18:=Ud) (y19:=Ud) (y20:=Ud) (by omega)
    obtain ⟨x,E,l',t,ho⟩:=pq_S S hL (cap:=cap) (k:=k) (bal:=bal) (par:=par) (h:=h) hd hp1 hp2 hb hk hl0 hl1 hl hD hF
    exact ⟨x,E,l',sq t1 t (c:=sub [1,1,0,0,0,1,1,1,1,1,1,1] B88),ho⟩
theorem pq_U (S:So xb enc lt dom H db n) (hL:Lin lt) {a b k p:Nat} {lim h:Int} {bal par:Bool} (hd:PdqOk xb enc lt dom H db n cap (b - a)) (hp1:a ≤ p) (hp2:p < b) (hb:b ≤ n) (hk:k ≤ n) (hl0:0 ≤ lim) (hl1:lim ≤ 1000) {l:List α} (hl:l.length=n) (hD:Dm dom l) (hF:Flo lt a b l) :
    ∃ x E l',RT polSo 88 (sub [1,1,0,0,0,1,1,1,1,1,1] B88) (env88 (.sl db 0 n cap n 1) (.int .i64 (a:Int)) (.int .i64 (b:Int)) (.int .i64 lim) (.func 69 [] [.ptr xb 0 0 1]) (.bool bal) (.bool par) (.int .i64 (k:Int)) (.int .i64 (p:Int)) (.int .i64 h) Ud Ud Ud Ud Ud Ud) (Mm enc H db l []) x E (Mm enc H db l' [])∧Out xb enc lt dom H db n cap a b l x E l':=by
  have hn:=S.nb
  have on:∀ (l3:List α),Sw a b l l3 → RT polSo 88 (sub [1,1,0,0,0,1,1,1,1,1,1,0] B88) (env88 (.sl db 0 n cap n 1) (.int .i64 (a:Int)) (.int .i64 (b:Int)) (.int .i64 lim) (.func 69 [] [.ptr xb 0 0 1]) (.bool bal) (.bool par) (.int .i64 (k:Int)) (.int .i64 (p:Int)) (.int .i64 h) Ud Ud Ud Ud Ud Ud) (Mm enc H db l []) .normal (env88 (.sl db 0 n cap n 1) (.int .i64 (a:Int)) (.int .i64 (b:Int)) (.int .i64 lim) (.func 69 [] [.ptr xb 0 0 1]) (.bool bal) (.bool par) (.int .i64 (k:Int)) (.int .i64 (p:Int)) (.int .i64 h) Ud Ud Ud Ud Ud Ud) (Mm enc H db l3 []) →
      ∃ x E l',RT polSo 88 (sub [1,1,0,0,0,1,1,1,1,1,1] B88) (env88 (.sl db 0 n cap n 1) (.int .i64 (a:Int)) (.int .i64 (b:Int)) (.int .i64 lim) (.func 69 [] [.ptr xb 0 0 1]) (.bool bal) (.bool par) (.int .i64 (k:Int)) (.int .i64 (p:Int)) (.int .i64 h) Ud Ud Ud Ud Ud Ud) (Mm enc H db l []) x E (Mm enc H db l' [])∧Out xb enc lt dom H db n cap a b l x E l':=fun l3 w t1=>by
    obtain ⟨x,E,l',t,ho⟩:=pq_T S hL (cap:=cap) (k:=k) (bal:=bal) (par:=par) (h:=.int .i64 h) hd hp1 hp2 hb hk hl0 hl1 (sw_len w hl) (hD.sw w (by omega)) (hF.sw (by omega) w)
    exact ⟨x,E,l',sq t1 t (c:=sub [1,1,0,0,0,1,1,1,1,1,1] B88),Out.pre w ho⟩
  cases bal with
  | false=>exact on l .refl (pq_l_0 (xb:=xb) 0 db n cap (Mm enc H db l []) 0 a b lim h)
  | true =>
    cases par with
    | false=>exact on l .refl (pq_k_0 (xb:=xb) 0 db n cap (Mm enc H db l []) 0 a b lim h)
    | true =>
      by_cases c:h=1
      · obtain ⟨bb,l3,hc3,w1,w2⟩:=pin_ok S hL (cap:=cap) (T:=[]) rfl (a:=a) (by omega) hb hl hD hF
        obtain ⟨N3,hN3⟩:=hc3.from
        cases bb with
        | true =>
          have t1:=pq_j_0 (xb:=xb) N3 db n cap (Mm enc H db l []) 0 a b lim h (y12:=.int .i64 (k:Int)) (y13:=.int .i64 (p:Int)) (y15:=Ud) (y16:=Ud) (y17:=Ud) (y18:=Ud) (y19:=Ud) (y20:=Ud) c hN3
          exact ⟨_,_,l3,sqo t1 (c:=sub [1,1,0,0,0,1,1,1,1,1,1] B88) (b:=sub [1,1,0,0,0,1,1,1,1,1,1,1] B88),w1,.inl ⟨rfl,w2 rfl⟩⟩
        | false=>exact on l3 w1 (pq_j_1 (xb:=xb) N3 db n cap (Mm enc H db l []) 0 a b lim h c hN3)
      · exact on l .refl (pq_j_2 (xb:=xb) 0 db n cap (Mm enc H db l []) 0 a b lim h c)
theorem pq_V (S:So xb enc lt dom H db n) (hL:Lin lt) {a b k p:Nat} {lim h:Int} {bal par:Bool} (hd:PdqOk xb enc lt dom H db n cap (b - a)) (hp1:a ≤ p) (hp2:p < b) (hb:b ≤ n) (hk:k ≤ n) (hl0:0 ≤ lim) (hl1:lim ≤ 1000) {l:List α} (hl:l.length=n) (hD:Dm dom l) (hF:Flo lt a b l) :
    ∃ x E l',RT polSo 88 (sub [1,1,0,0,0,1,1,1,1,1] B88) (env88 (.sl db 0 n cap n 1) (.int .i64 (a:Int)) (.int .i64 (b:Int)) (.int .i64 lim) (.func 69 [] [.ptr xb 0 0 1]) (.bool bal) (.bool par) (.int .i64 (k:Int)) (.int .i64 (p:Int)) (.int .i64 h) Ud Ud Ud Ud Ud Ud) (Mm enc H db l []) x E (Mm enc H db l' [])∧Out xb enc lt dom H db n cap a b l x E l':=by
  have hn:=S.nb
  by_cases c:h=2
  · obtain ⟨l2,hc2,w⟩:=rvs_ok S (cap:=cap) (T:=[]) (a:=a) (b:=b) (by omega) hb hl
    obtain ⟨N2,hN2⟩:=hc2.from
    have t1:=pq_i_0 (xb:=xb) N2 db n cap (Mm enc H db l []) 0 a b lim p h (y10:=.bool bal) (y11:=.bool par) (y12:=.int .i64 (k:Int)) (y15:=Ud) (y16:=Ud) (y17:=Ud) (y18:=Ud) (y19:=Ud) (y20:=Ud) c hN2
    have e1:IntKind.i64.wrap ((b:Int) - 1)=((b - 1:Nat):Int):=wrap_pred (by omega) (by omega)
    have e2:IntKind.i64.wrap ((p:Int) - (a:Int))=((p - a:Nat):Int):=(by rw [wrap_id (by omega) (by omega)]; omega)
    have e3:IntKind.i64.wrap (((b - 1:Nat):Int) - ((p - a:Nat):Int))=((b - 1 - (p - a):Nat):Int):=(by rw [wrap_id (by omega) (by omega)]; omega)
    rw [e1,e2,e3] at t1
    obtain ⟨x,E,l',t,ho⟩:=pq_U S hL (cap:=cap) (k:=k) (p:=b - 1 - (p - a)) (bal:=bal) (par:=par) (h:=1) hd (by omega) (by omega) hb hk hl0 hl1 (sw_len w hl) (hD.sw w (by omega)) (hF.sw (by omega) w)
    exact ⟨x,E,l',sq t1 t (c:=sub [1,1,0,0,0,1,1,1,1,1] B88),Out.pre w ho⟩
  · have t1:=pq_i_1 (xb:=xb) 0 db n cap (Mm enc H db l []) 0 a b lim p h (y10:=.bool bal) (y11:=.bool par) (y12:=.int .i64 (k:Int)) (y15:=Ud) (y16:=Ud) (y17:=Ud) (y18:=Ud) (y19:=Ud) (y20:=Ud) c
    obtain ⟨x,E,l',t,ho⟩:=pq_U S hL (cap:=cap) (k:=k) (p:=p) (bal:=bal) (par:=par) (h:=h) hd hp1 hp2 hb hk hl0 hl1 hl hD hF
    exact ⟨x,E,l',sq t1 t (c:=sub [1,1,0,0,0,1,1,1,1,1] B88),ho⟩
theorem pq_B (S:So xb enc lt dom H db n) (hL:Lin lt) {a b:Nat} {lim:Int} {bal par:Bool} (hd:PdqOk xb enc lt dom H db n cap (b - a)) (hab:a ≤ b) (hb:b ≤ n) (hl0:0 ≤ lim) (hl1:lim ≤ 1000) {l:List α} (hl:l.length=n) (hD:Dm dom l) (hF:Flo lt a b l) :
    ∃ x E l',RT polSo 88 (sub [1,1,0,0,0] B88) (env88 (.sl db 0 n cap n 1) (.int .i64 (a:Int)) (.int .i64 (b:Int)) (.int .i64 lim) (.func 69 [] [.ptr xb 0 0 1]) (.bool bal) (.bool par) Ud Ud Ud Ud Ud Ud Ud Ud Ud) (Mm enc H db l []) x E (Mm enc H db l' [])∧Out xb enc lt dom H db n cap a b l x E l':=by
  have hn:=S.nb
  have t0:=pq_c_0 (xb:=xb) 0 db n cap (Mm enc H db l []) 0 a b lim (y10:=.bool bal) (y11:=.bool par) (y12:=Ud) (y13:=Ud) (y14:=Ud) (y15:=Ud) (y16:=Ud) (y17:=Ud) (y18:=Ud) (y19:=Ud) (y20:=Ud)
  have e0:IntKind.i64.wrap ((b:Int) - (a:Int))=((b - a:Nat):Int):=(by rw [wrap_id (by omega) (by omega)]; omega)
  rw [e0] at t0
  by_cases c1:b - a ≤ 12
  · obtain ⟨l',hc,w1,w2⟩:=ins_ok S hL (cap:=cap) (T:=[]) rfl hab hb hl hD
    obtain ⟨N1,hN1⟩:=hc.from
    have t1:=pq_d_0 (xb:=xb) N1 db n cap (Mm enc H db l []) 0 a b lim (b - a) (y10:=.bool bal) (y11:=.bool par) (y13:=Ud) (y14:=Ud) (y15:=Ud) (y16:=Ud) (y17:=Ud) (y18:=Ud) (y19:=Ud) (y20:=Ud) (by omega) hN1
    exact ⟨_,_,l',sq (t0) (sqo (t1) (c:=sub [1,1,0,0,0,1] B88) (b:=sub [1,1,0,0,0,1,1] B88)) (c:=sub [1,1,0,0,0] B88),w1,.inl ⟨rfl,w2⟩⟩
  have t1:=pq_d_1 (xb:=xb) 0 db n cap (Mm enc H db l []) 0 a b lim (b - a) (y10:=.bool bal) (y11:=.bool par) (y13:=Ud) (y14:=Ud) (y15:=Ud) (y16:=Ud) (y17:=Ud) (y18:=Ud) (y19:=Ud) (y20:=Ud) (by omega)
  by_cases c2:lim=0
  · obtain ⟨l',hc,w1,w2⟩:=heap_ok S hL (cap:=cap) (T:=[]) rfl (a:=a) (by omega) hb hl hD
    obtain ⟨N1,hN1⟩:=hc.from
    have t2:=pq_e_0 (xb:=xb) N1 db n cap (Mm enc H db l []) 0 a b lim (y10:=.bool bal) (y11:=.bool par) (y12:=.int .i64 ((b - a:Nat):Int)) (y13:=Ud) (y14:=Ud) (y15:=Ud) (y16:=Ud) (y17:=Ud) (y18:=Ud) (y19:=Ud) (y20:=Ud) c2 hN1
    exact ⟨_,_,l',sq (t0) (sq (t1) (sqo (t2) (c:=sub [1,1,0,0,0,1,1] B88) (b:=sub [1,1,0,0,0,1,1,1] B88)) (c:=sub [1,1,0,0,0,1] B88)) (c:=sub [1,1,0,0,0] B88),w1,.inl ⟨rfl,w2⟩⟩
  have t2:=pq_e_1 (xb:=xb) 0 db n cap (Mm enc H db l []) 0 a b lim (y10:=.bool bal) (y11:=.bool par) (y12:=.int .i64 ((b - a:Nat):Int)) (y13:=Ud) (y14:=Ud) (y15:=Ud) (y16:=Ud) (y17:=Ud) (y18:=Ud) (y19:=Ud) (y20:=Ud) c2
  have on:∀ (lim1:Int) (l1:List α),0 ≤ lim1 → lim1 ≤ 1000 → Sw a b l l1 → RT polSo 88 (sub [1,1,0,0,0,1,1,1,0] B88) (env88 (.sl db 0 n cap n 1) (.int .i64 (a:Int)) (.int .i64 (b:Int)) (.int .i64 lim) (.func 69 [] [.ptr xb 0 0 1]) (.bool bal) (.bool par) (.int .i64 ((b - a:Nat):Int)) Ud Ud Ud Ud Ud Ud Ud Ud) (Mm enc H db l []) .normal (env88 (.sl db 0 n cap n 1) (.int .i64 (a:Int)) (.int .i64 (b:Int)) (.int .i64 lim1) (.func 69 [] [.ptr xb 0 0 1]) (.bool bal) (.bool par) (.int .i64 ((b - a:Nat):Int)) Ud Ud Ud Ud Ud Ud Ud Ud) (Mm enc H db l1 []) →
      ∃ x E l',RT polSo 88 (sub [1,1,0,0,0] B88) (env88 (.sl db 0 n cap n 1) (.int .i64 (a:Int)) (.int .i64 (b:Int)) (.int .i64 lim) (.func 69 [] [.ptr xb 0 0 1]) (.bool bal) (.bool par) Ud Ud Ud Ud Ud Ud Ud Ud Ud) (Mm enc H db l []) x E (Mm enc H db l' [])∧Out xb enc lt dom H db n cap a b l x E l':=fun lim1 l1 hq0 hq1 w t3=>by
    have hl1':=sw_len w hl
    have hD1:=hD.sw w (by omega)
    obtain ⟨p,h,hc,p1,p2⟩:=piv_ok S (cap:=cap) (a:=a) (b:=b) (by omega) hb hl1' hD1
    obtain ⟨N1,hN1⟩:=hc.from
    have t4:=pq_h_0 (xb:=xb) N1 db n cap (Mm enc H db l1 []) 0 a b lim1 (y10:=.bool bal) (y11:=.bool par) (y12:=.int .i64 ((b - a:Nat):Int)) (y13:=Ud) (y14:=Ud) (y15:=Ud) (y16:=Ud) (y17:=Ud) (y18:=Ud) (y19:=Ud) (y20:=Ud) hN1
    obtain ⟨x,E,l',t,ho⟩:=pq_V S hL (cap:=cap) (k:=b - a) (p:=p) (bal:=bal) (par:=par) (h:=h) hd p1 p2 hb (by omega) hq0 hq1 hl1' hD1 (hF.sw (by omega) w)
    have t5:=sq t4 t (c:=sub [1,1,0,0,0,1,1,1,1] B88)
    have t6:=sq t3 t5 (c:=sub [1,1,0,0,0,1,1,1] B88)
    have t7:=sq t2 t6 (c:=sub [1,1,0,0,0,1,1] B88)
    have t8:=sq t1 t7 (c:=sub [1,1,0,0,0,1] B88)
    exact ⟨x,E,l',sq t0 t8 (c:=sub [1,1,0,0,0] B88),Out.pre w ho⟩
  cases bal with
  | true=>exact on lim l hl0 hl1 .refl (pq_f_0 (xb:=xb) 0 db n cap (Mm enc H db l []) 0 a b lim)
  | false =>
    obtain ⟨l1,hc,w⟩:=brk_ok S (cap:=cap) (a:=a) (b:=b) (by omega) hb hl
    obtain ⟨N1,hN1⟩:=hc.from
    have t3:=pq_g_0 (xb:=xb) N1 db n cap (Mm enc H db l []) 0 a b lim (y11:=.bool par) (y12:=.int .i64 ((b - a:Nat):Int)) (y13:=Ud) (y14:=Ud) (y15:=Ud) (y16:=Ud) (y17:=Ud) (y18:=Ud) (y19:=Ud) (y20:=Ud) hN1
    rw [wrap_id (n:=lim - 1) (by omega) (by omega)] at t3
    exact on (lim - 1) l1 (by omega) (by omega) w t3
theorem pq_loop (S:So xb enc lt dom H db n) (hL:Lin lt):∀ (d:Nat) (a b:Nat) (lim:Int) (bal par:Bool) (l:List α),b - a < d → PdqOk xb enc lt dom H db n cap (b - a) → a ≤ b → b ≤ n → 0 ≤ lim → lim ≤ 1000 → l.length=n → Dm dom l → Flo lt a b l →
    ∃ E l',RT polSo 88 (sub [1,1,0] B88) (env88 (.sl db 0 n cap n 1) (.int .i64 (a:Int)) (.int .i64 (b:Int)) (.int .i64 lim) (.func 69 [] [.ptr xb 0 0 1]) (.bool bal) (.bool par) Ud Ud Ud Ud Ud Ud Ud Ud Ud) (Mm enc H db l []) .ret E (Mm enc H db l' [])∧Sw a b l l'∧Sorted lt a b l':=by
  have hn:=S.nb
  intro d
  induction d with
  | zero=>intro a b lim bal par l hd; omega
  | succ d ih =>
    intro a b lim bal par l hd hP hab hb h0 h1 hl hD hF
    obtain ⟨x,E,l1,t,w,ho⟩:=pq_B S hL (cap:=cap) (bal:=bal) (par:=par) hP hab hb h0 h1 hl hD hF
    rcases ho with ⟨rfl,hs⟩ | ⟨hx,a',b',lim',bal',par',y2,y3,y4,y5,y6,y7,y8,y9,y10,rfl,q1,q2,q3,q4,q5,q6,q7,q8⟩
    · exact ⟨_,l1,lpo (RunsTo.block_ret (i:=1) (c:=sub [1,1,0,0] B88) t (by kernel_rfl)),w,hs⟩
    · have st:RT polSo 88 (sub [1,1,0,0] B88) (env88 (.sl db 0 n cap n 1) (.int .i64 (a:Int)) (.int .i64 (b:Int)) (.int .i64 lim) (.func 69 [] [.ptr xb 0 0 1]) (.bool bal) (.bool par) Ud Ud Ud Ud Ud Ud Ud Ud Ud) (Mm enc H db l []) .normal (env88 (.sl db 0 n cap n 1) (.int .i64 (a':Int)) (.int .i64 (b':Int)) (.int .i64 lim') (.func 69 [] [.ptr xb 0 0 1]) (.bool bal') (.bool par') y2 y3 y4 y5 y6 y7 y8 y9 y10) (Mm enc H db l1 []):=by
        rcases hx with rfl | rfl
        · exact RunsTo.block_normal (i:=1) t (by kernel_rfl)
        · exact bke t
      have hl1:=sw_len w hl
      obtain ⟨E,l2,r,v1,v2⟩:=ih a' b' lim' bal' par' l1 (by omega) (fun a2 b2 lim2 l2 g1=>hP a2 b2 lim2 l2 (by omega)) q3 (by omega) q5 q6 hl1 (hD.sw w (by omega)) q7
      exact ⟨E,l2,lop (st) (gcM _ _ _ _ _ rfl) (r),w.trans (v1.mono q2 q4),q8 l2 v1 v2⟩
theorem pdq_of (S:So xb enc lt dom H db n) (hL:Lin lt) {a b:Nat} {lim:Int} {l:List α} (hP:PdqOk xb enc lt dom H db n cap (b - a)) (hab:a ≤ b) (hb:b ≤ n) (h0:0 ≤ lim) (h1:lim ≤ 1000) (hl:l.length=n) (hD:Dm dom l) (hF:Flo lt a b l) :
    ∃ l',ClS 88 [.sl db 0 n cap n 1,.int .i64 (a:Int),.int .i64 (b:Int),.int .i64 lim,.func 69 [] [.ptr xb 0 0 1]] (Mm enc H db l []) (.tuple []) (Mm enc H db l' [])∧Sw a b l l'∧Sorted lt a b l':=by
  obtain ⟨E,l',r,q⟩:=pq_loop S hL (cap:=cap) _ a b lim true true l (Nat.lt_succ_self _) hP hab hb h0 h1 hl hD hF
  have t0:=pq_a_0 (xb:=xb) 0 db n cap (Mm enc H db l []) 0 a b lim
  have t1:=pq_b_0 (xb:=xb) 0 db n cap (Mm enc H db l []) 0 a b lim (y10:=.bool true) (y11:=Ud) (y12:=Ud) (y13:=Ud) (y14:=Ud) (y15:=Ud) (y16:=Ud) (y17:=Ud) (y18:=Ud) (y19:=Ud) (y20:=Ud)
  have t:=sq (t0) (sq (t1) (RunsTo.block_ret (i:=0) (c:=sub [1,1] B88) (r) (by kernel_rfl)) (c:=sub [1] B88)) (c:=B88)
  have hc:=CallsTo.shared (P:=Tp) (pol:=polSo) (g:=88) (fn:=Try.f88) (cd:=B88) (args:=[.sl db 0 n cap n 1,.int .i64 (a:Int),.int .i64 (b:Int),.int .i64 lim,.func 69 [] [.ptr xb 0 0 1]]) (v:=.tuple []) (by kernel_rfl) (by kernel_rfl) (by kernel_rfl) (by kernel_rfl) t (by kernel_rfl) (by simp) (by kernel_rfl)
  rw [gcM _ _ _ _ _ rfl] at hc
  exact ⟨l',hc,q⟩
theorem pdq_all (S:So xb enc lt dom H db n) (hL:Lin lt):∀ d,PdqOk xb enc lt dom H db n cap d
  | 0,_,_,_,_,h=>by omega
  | d+1,a,b,lim,l,h=>fun hab hb h0 h1 hl hD hF=>pdq_of S hL (fun a2 b2 lim2 l2 g=>pdq_all S hL d a2 b2 lim2 l2 (by omega)) hab hb h0 h1 hl hD hF
theorem pdq_ok (S:So xb enc lt dom H db n) (hL:Lin lt) {lim:Int} (h0:0 ≤ lim) (h1:lim ≤ 1000) {l:List α} (hl:l.length=n) (hD:Dm dom l) :
    ∃ l',ClS 88 [.sl db 0 n cap n 1,.int .i64 0,.int .i64 (n:Int),.int .i64 lim,.func 69 [] [.ptr xb 0 0 1]] (Mm enc H db l []) (.tuple []) (Mm enc H db l' [])∧l'.Perm l∧Sorted lt 0 n l':=by
  obtain ⟨l',hc,w,hs⟩:=pdq_all S hL (cap:=cap) (n+1) 0 n lim l (by omega) (Nat.zero_le _) (Nat.le_refl _) h0 h1 hl hD (fun h=>by omega)
  exact ⟨l',hc,w.perm (by omega),hs⟩
end
end Go.Proofs.Ytiejmoglooaalaa
end
section
open Go Go.HL Go.HL.So
namespace Go.Proofs.Ytiejmoglooaalaa
open Go.Proofs.Try renaming prog → Tp
open Go.HL.HV renaming undef → Ud
abbrev bN (n:Int) (l:List St):Blk:=.arr 2 [encN n l] true 0
theorem ld_net {H:Heap} {xb mx:Nat} {n:Int} {l:List St} (hb:H[xb]?=some (.arr 2 [encN n l] true mx)):loadV Tp H 22 (.ptr xb 0 1 1)=some (.imm .arg 3 (l.map encT)) :=
  load_cell (P:=Tp) (t:=22) (b:=xb) (i:=0) (off:=1) (tot:=1) (els:=[encN n l]) (cs:=[.int .i64 n,.imm .arg 3 (l.map encT)]) hb rfl rfl a22 i22 rfl
theorem ld_netN {H:Heap} {xb mx:Nat} {n:Int} {l:List St} (hb:H[xb]?=some (.arr 2 [encN n l] true mx)):loadV Tp H 3 (.ptr xb 0 0 1)=some (.int .i64 n) :=
  load_cell (P:=Tp) (t:=3) (b:=xb) (i:=0) (off:=0) (tot:=1) (els:=[encN n l]) (cs:=[.int .i64 n,.imm .arg 3 (l.map encT)]) hb rfl rfl a3 i3 rfl
theorem fst_cmp (w w2 i j:Int):(fstI (cmpI w w2) (cmpI i j) < 0) ↔ (w < w2 ∨ (w=w2∧i < j)):=by
  unfold fstI cmpI
  by_cases c1:w < w2
  · simp [c1]
  · by_cases c2:w2 < w
    · simp [c1,c2] <;> omega
    · by_cases c3:i < j
      · simp [c1,c2,c3] <;> omega
      · by_cases c4:j < i
        · simp [c1,c2,c3,c4] <;> omega
        · simp [c1,c2,c3,c4] <;> omega
theorem ShL_lit (H:Heap) (l:List Int):Sh kL H (.imm .lit 1 (l.map encI)) l:=by
  show argP (.imm .lit 1 (l.map encI))=_
  simp only [argP,argP_ints']
  rfl
theorem cl_call {H:Heap} {xb mx:Nat} {n:Int} {l:List St} (hb:H[xb]?=some (.arr 2 [encN n l] true mx)) {i j:Int} (hi:0 ≤ i∧i < (l.length:Int)) (hj:0 ≤ j∧j < (l.length:Int)) :
    ClS 69 [encI i,encI j,.ptr xb 0 0 1] H (.int .i64 (fstI (cmpI (wOf l i) (wOf l j)) (cmpI i j))) H:=by
  obtain ⟨a,rfl⟩:∃ a:Nat,i=(a:Int):=⟨i.toNat,by omega⟩
  obtain ⟨b,rfl⟩:∃ b:Nat,j=(b:Int):=⟨j.toNat,by omega⟩
  have g1:=gs (l:=l) (y:=a) (by omega)
  have g2:=gs (l:=l) (y:=b) (by omega)
  have c1:=at2 (pol':=polSo) (g:=71) (c1:=kI) (c2:=kI) (f:=fun x y=>some (.int .i64 (cmpI x y))) (H:=H) (by kernel_rfl) (ShI H (wOf l (a:Int))) (ShI H (wOf l (b:Int))) rfl
  have c2:=at2 (pol':=polSo) (g:=71) (c1:=kI) (c2:=kI) (f:=fun x y=>some (.int .i64 (cmpI x y))) (H:=H) (by kernel_rfl) (ShI H (a:Int)) (ShI H (b:Int)) rfl
  have c3:=at1 (pol':=polSo) (g:=70) (c1:=kL) (f:=fun l=>match l with | [a,b]=>some (.int .i64 (fstI a b)) | _=>none) (H:=H) (by kernel_rfl) (ShL_lit H [cmpI (wOf l (a:Int)) (wOf l (b:Int)),cmpI (a:Int) (b:Int)]) rfl
  have s:=cl_0 a b xb H (l.map encT) (l.getD a (0,0,0)).1 (l.getD a (0,0,0)).2.1 (l.getD a (0,0,0)).2.2 (l.getD b (0,0,0)).1 (l.getD b (0,0,0)).2.1 (l.getD b (0,0,0)).2.2 _ _ _ _ _ _ (ld_net hb) g1 (ld_net hb) g2 c1 c2 c3
  have h:=CallsTo.shared (P:=Tp) (pol:=polSo) (g:=69) (fn:=Try.f69) (cd:=B69) (args:=[.int .i64 (a:Int),.int .i64 (b:Int),.ptr xb 0 0 1]) (v:=.int .i64 (fstI (cmpI (wOf l (a:Int)) (wOf l (b:Int))) (cmpI (a:Int) (b:Int)))) (by kernel_rfl) (by kernel_rfl) (by kernel_rfl) (by kernel_rfl) s (by kernel_rfl) (by simp) (by kernel_rfl)
  rw [gc_eq _ rfl] at h
  exact h
theorem So.sts {n:Int} {l:List St} {H:Heap} {xb db m:Nat} (hm:m ≤ 60000) (hd:db < H.length) (hx:mxs H ≤ H.length) (hb:H[xb]?=some (bN n l)) (hne:xb ≠ db):So xb encI (ltK l) (fun i=>0 ≤ i∧i < (l.length:Int)) H db m:=by
  have hbl:∀ (o:List Int) (T:Heap),(Mm encI H db o T)[db]?=some (bI o):=fun o T=>by
    unfold Mm
    rw [List.getElem?_append_left (by simpa using hd),List.getElem?_set_self hd]
    rfl
  refine ⟨hm,hd,hx,fun o T i hl hi=>?_,fun o T i x hl hi=>?_,fun o T x y hl hT h1 h2=>?_⟩
  · have:=load_out (hbl o T) (y:=i) (by omega)
    rw [hl] at this
    exact this
  · have:=store_out (hbl o T) (y:=i) (by omega) x
    rw [hl] at this
    show storeV Tp _ 3 (.ptr db i 0 m) (.int .i64 x)=_
    rw [this]
    congr 1
    unfold Mm
    rw [List.set_append_left _ _ (by simpa using hd),List.set_set]
    rfl
  · have hbx:(Mm encI H db o T)[xb]?=some (bN n l):=by
      unfold Mm
      rw [List.getElem?_append_left (by
        rcases Nat.lt_or_ge xb H.length with h | h
        · simpa using h
        · rw [List.getElem?_eq_none h] at hb; cases hb),List.getElem?_set_ne (by omega)]
      exact hb
    obtain ⟨N,hN⟩:=(cl_call hbx h1 h2).from
    exact ⟨_,N,hN,by rw [fst_cmp]; rfl⟩
theorem sort_ok {n:Int} {l:List St} {H:Heap} {xb db m:Nat} {cap:Option Nat} {o:List Int} (hm:m ≤ 60000) (ho:o.length=m) (hx:mxs H ≤ H.length) (hb:H[xb]?=some (bN n l)) (hne:xb ≠ db) (hdb:H[db]?=some (bI o)) (hD:∀ x ∈ o,0 ≤ x∧x < (l.length:Int)) :
    ∃ o',ClS 68 [.sl db 0 m cap m 1,.func 69 [] [.ptr xb 0 0 1]] H (.tuple []) (H.set db (bI o'))∧o'.Perm o∧Sorted (ltK l) 0 m o':=by
  have hd:db < H.length:=by
    rcases Nat.lt_or_ge db H.length with h | h
    · exact h
    · rw [List.getElem?_eq_none h] at hdb; cases hdb
  have S:=So.sts (n:=n) (l:=l) (xb:=xb) (m:=m) hm hd hx hb hne
  have hlen:=lenN_ok (x:=m) (by omega)
  have eM:∀ o,Mm encI H db o []=H.set db (bI o):=fun o=>by unfold Mm; rw [List.append_nil]; rfl
  have eH:H.set db (bI o)=H:=by
    apply List.ext_getElem?
    intro i
    by_cases e:db=i
    · subst e; rw [List.getElem?_set_self hd,hdb]
    · rw [List.getElem?_set_ne e]
  obtain ⟨o',hc,h1,h2⟩:=pdq_ok S (ltK_lin l) (cap:=cap) (lim:=(lenN m:Int)) (by omega) (by omega) ho hD
  rw [eM,eM,eH] at hc
  obtain ⟨N,hN⟩:=hc.from
  have hu:IntKind.u64.wrap (m:Int)=(m:Int):=by rw [wrapU64]; omega
  have t:=st_a_0 (xb:=xb) N db m cap H 0 (m0:=(lenN m:Int)) (H0:=H) (fun kf _=>by
    rw [hu,prim_call (pol:=polSo) (g:=63) (F:=len82) (by kernel_rfl) (rs:=[.int .u64 (m:Int)]) rfl (res:=.int .i64 (lenN m:Int)) (by simp only [len82]; rw [if_pos (by omega),Int.toNat_natCast])]; rfl) hN
  have hc2:=CallsTo.shared (P:=Tp) (pol:=polSo) (g:=68) (fn:=Try.f68) (cd:=B68) (args:=[.sl db 0 m cap m 1,.func 69 [] [.ptr xb 0 0 1]]) (v:=.tuple []) (by kernel_rfl) (by kernel_rfl) (by kernel_rfl) (by kernel_rfl) t (by kernel_rfl) (by simp) (by kernel_rfl)
  rw [gc_eq _ (by simp)] at hc2
  exact ⟨o',hc2,h1,h2⟩
def ordered54:List HV → Option HV:=f1 kN fun p=>if p.2.length ≤ 900 then some (.own 1 ((ordT p.2).map encI)) else none
theorem res54:Try.f54.results.toList=[.tmp 2]:=by kernel_rfl
theorem ordered_ok:PrimOk Tp 54 ordered54:=by
  refine primOk_pure (pol:=polSo) (fn:=Try.f54) (cd:=B54) follows_mixed soundSo (by kernel_rfl) (by kernel_rfl) (fnok polSo.prim _ _ (by kernel_rfl)) (by kernel_rfl) ?_
  intro args res h
  obtain ⟨⟨n,l⟩,rfl,hq⟩:=f1_inv h
  split at hq
  case isFalse=>cases hq
  rename_i hl
  simp only at hl
  cases hq
  have a:=od_a_0 0 n (l.map encT)
  have b:=od_b_0 0 n (l.map encT) (y3:=Ud) (y4:=Ud) (y7:=Ud) (y8:=Ud)
  have c:=od_c_0 0 n (l.map encT) 0 [] (y4:=Ud) (y7:=Ud) (y8:=Ud)
  rw [List.length_map] at c
  have r:=count (E:=fun i=>(env54 (encN n l) (.ptr 0 0 0 1) (.imm .lit 1 []) (.sl 1 0 i none i 1) Ud (.int .i64 (l.length:Int)) (.int .i64 (i:Int)))) (Hs:=fun i=>[bN n l,bI (startT i)]) l.length
    (E0:=fun i=>(env54 (encN n l) (.ptr 0 0 0 1) (.imm .lit 1 []) (.sl 1 0 (i+1) none (i+1) 1) (.int .i64 (i:Int)) (.int .i64 (l.length:Int)) (.int .i64 ((i+1:Nat):Int)))) (H1:=fun i=>[bN n l,bI (startT (i+1))])
    (fun i hi=>by
      have ap:=app_in1 (H:=[bN n l,bI (startT i)]) (b:=1) (o:=startT i) rfl (by rw [startT_len]; omega) (i:Int)
      rw [startT_len,← startT_succ] at ap
      have e:(startT i).map encI ++ [.int .i64 (i:Int)]=(startT (i+1)).map encI:=by rw [startT_succ]; simp [encI]
      have s:=od_l_0 0 n (l.map encT) i l.length i ((startT i).map encI) (y4:=Ud) (by omega) (ap.trans (by rw [e]; rfl))
      rw [wrap_succ (by omega),e] at s
      exact s) (fun i _=>by kernel_rfl) (fun i _=>gc_eq _ rfl) (od_l_1 0 n (l.map encT) l.length l.length l.length ((startT l.length).map encI) (y4:=Ud) (by omega)) (by simp) (c:=sub [1,1,0,1,0] B54) (by kernel_rfl) (fun i _=>by kernel_rfl)
  obtain ⟨o',q1,q2,q3⟩:=sort_ok (n:=n) (l:=l) (H:=[bN n l,bI (startT l.length)]) (xb:=0) (db:=1) (m:=l.length) (cap:=none) (o:=startT l.length) (by omega) (startT_len _) (by show max 0 (max 0 0) ≤ 2; decide) rfl (by omega) rfl (fun x hx=>startT_mem.1 hx)
  have ol:o'.length=l.length:=by rw [q2.length_eq,startT_len]
  obtain ⟨N,hN⟩:=q1.from
  have z:=od_z_0 N n (l.map encT) l.length [bN n l,bI (startT l.length)] (y4:=Ud) (y7:=.int .i64 (l.length:Int)) (y8:=.int .i64 (l.length:Int)) hN
  have eo:=ord_unique q2 (by rw [ol]; exact q3)
  refine ⟨_,_,_,.sl 1 0 l.length none l.length 1,sq (a) (sq (b) (sq (sq (c) (bke (c:=sub [1,1,0,1] B54) (r)) (c:=sub [1,1,0] B54)) (z) (c:=sub [1,1] B54)) (c:=sub [1] B54)) (c:=B54),by simp,by simp only [resultsV,res54]; rfl,?_⟩
  rw [← eo]
  exact res_li (b:=1) rfl ol
end Go.Proofs.Ytiejmoglooaalaa
end
section
open Go Go.HL
namespace Go.Proofs.Ytiejmoglooaalaa
open Go.Proofs.Try renaming prog → Tp
open Go.HL.HV renaming undef → Ud
def sA (l:List St) (k:Int):Int:=(l.getD k.toNat (0,0,0)).1
def sB (l:List St) (k:Int):Int:=(l.getD k.toNat (0,0,0)).2.1
def kstep (l:List St) (s:List Int × List Int × List Int) (k:Int):List Int × List Int × List Int :=
  (upJ s.1 s.2.1 (sA l k) (sB l k),joinT s.2.1 (sA l k) (sB l k),if s.2.1.getD (sA l k).toNat 0 ≠ s.2.1.getD (sB l k).toNat 0 then s.2.2 ++ [k] else s.2.2)
def ksT (l:List St) (t:List Int):List Int × List Int × List Int:=t.foldl (kstep l) (startT 16,startT 16,[])
def labT (l:List St) (t:List Int):List Int:=(ksT l t).2.1
def tkT (l:List St) (t:List Int):List Int:=(ksT l t).2.2
def endB (l:List St):Bool:=l.all fun s=>decide ((0 ≤ s.1∧s.1 < 16)∧0 ≤ s.2.1∧s.2.1 < 16)
theorem endB_iff {l:List St}:endB l=true ↔ ∀ s ∈ l,(0 ≤ s.1∧s.1 < 16)∧0 ≤ s.2.1∧s.2.1 < 16:=by simp [endB]
theorem ends {l:List St} (he:endB l=true) {k:Int} (hk:0 ≤ k∧k < (l.length:Int)):(0 ≤ sA l k∧sA l k < 16)∧0 ≤ sB l k∧sB l k < 16:=endB_iff.1 he _ (mem_getD _ (by omega))
theorem ksT_up {l:List St} (he:endB l=true) {t:List Int} (ht:∀ k ∈ t,0 ≤ k∧k < (l.length:Int)):Up (ksT l t).1 (ksT l t).2.1:=by
  have key:∀ (t:List Int) (s:List Int × List Int × List Int),(∀ k ∈ t,0 ≤ k∧k < (l.length:Int)) → Up s.1 s.2.1 → Up (t.foldl (kstep l) s).1 (t.foldl (kstep l) s).2.1:=by
    intro t
    induction t with
    | nil=>intro s _ h; exact h
    | cons k t ih =>
      intro s hk h
      obtain ⟨⟨a1,a2⟩,b1,b2⟩:=ends he (hk k (by simp))
      refine ih _ (fun x hx=>hk x (by simp [hx])) ?_
      have:=h.join (u:=(sA l k).toNat) (v:=(sB l k).toNat) (by omega) (by omega)
      rw [show (((sA l k).toNat:Nat):Int)=sA l k by omega,show (((sB l k).toNat:Nat):Int)=sB l k by omega] at this
      exact this
  exact key t _ ht Up.start
theorem ksT_succ (l:List St) (t:List Int) {i:Nat} (hi:i < t.length):ksT l (t.take (i+1))=kstep l (ksT l (t.take i)) (t.getD i 0):=by
  rw [List.take_add_one,List.getElem?_eq_getElem hi,ksT,List.foldl_append,getD_at hi]; rfl
theorem ksT_len (l:List St) (t:List Int):(ksT l t).2.2.length ≤ t.length:=by
  have key:∀ (t:List Int) (s:List Int × List Int × List Int),(t.foldl (kstep l) s).2.2.length ≤ s.2.2.length+t.length:=by
    intro t
    induction t with
    | nil=>intro s; exact Nat.le_refl _
    | cons k t ih =>
      intro s
      have:=ih (kstep l s k)
      have h2:(kstep l s k).2.2.length ≤ s.2.2.length+1:=by
        unfold kstep; simp only; split <;> simp
      rw [List.foldl_cons,List.length_cons]; omega
  have:=key t (startT 16,startT 16,[])
  simpa [ksT] using this
section
variable {F:FuncId → Option (List HV → Option HV)}
theorem set2 (H:Heap) (A B C:Blk):(H ++ [A,B]).set (H.length+1) C=H ++ [A,C]:=by
  rw [List.set_append_right _ _ (by omega),show H.length+1 - H.length=1 by omega]; rfl
theorem get2a (H:Heap) (A B:Blk):(H ++ [A,B])[H.length]?=some A:=by rw [List.getElem?_append_right (Nat.le_refl _),Nat.sub_self]; rfl
theorem get2b (H:Heap) (A B:Blk):(H ++ [A,B])[H.length+1]?=some B:=by rw [List.getElem?_append_right (by omega),show H.length+1 - H.length=1 by omega]; rfl
theorem get_l {H X:Heap} {k:Nat} {B:Blk} (h:H[k]?=some B):(H ++ X)[k]?=some B:=by
  rcases Nat.lt_or_ge k H.length with c | c
  · rw [List.getElem?_append_left c]; exact h
  · rw [List.getElem?_eq_none c] at h; cases h
theorem joined_sl (h53:F 53=none) (h55:F 55=none) (h56:F 56=none) (h57:F 57=none) {n:Int} {l:List St} (he:endB l=true) {t o:List Int} (ht:∀ k ∈ t,0 ≤ k∧k < (l.length:Int)) (hl:t.length ≤ 1000) {H:Heap} (hm:mxs H ≤ H.length) {lb:Nat} {cap:Option Nat} (hb:H[lb]?=some (bI o)) (ho:∀ i,i < t.length → i < o.length∧o.getD i 0=t.getD i 0) :
    ClF F 57 [encN n l,.sl lb 0 t.length cap o.length 1] H (.tuple [.ptr (H.length+1) 0 0 1,.int .i64 ((ksT l t).2.2.length:Int)]) (H ++ [bN n l,bU (ksT l t).1]):=by
  have ixs:∀ i,i < t.length → idxV Tp 24 (.sl lb 0 t.length cap o.length 1) (.int .i64 (i:Int))=some (.ptr lb i 0 o.length):=fun i hi=>by
    have:=idx_sl (P:=Tp) (t:=24) (b:=lb) (len:=t.length) (tot:=o.length) (cap:=cap) (ik:=.i64) (n:=(i:Int)) u24 z3 (by omega) (by omega)
    rwa [Int.toNat_natCast] at this
  have lds:∀ (X:Heap) i,i < t.length → loadV Tp (H ++ X) 3 (.ptr lb i 0 o.length)=some (.int .i64 ((t.getD i 0).toNat:Int)):=fun X i hi=>by
    rw [load_out (get_l hb) (ho i hi).1,(ho i hi).2]
    have:=ht _ (mem_getD 0 hi)
    rw [show (((t.getD i 0).toNat:Nat):Int)=t.getD i 0 by omega]
  have hN:H[H.length]?=none:=List.getElem?_eq_none (Nat.le_refl _)
  have a:=js_a_0 (F:=F) 0 n (l.map encT) lb t.length o.length cap H (a0:=.ptr H.length 0 0 1) (H0:=H ++ [bN n l]) rfl
  obtain ⟨N0,c53⟩:=CallsTo.from (apart_call (F:=F) h53 (H ++ [bN n l]) (by rw [mxs_app]; simp only [mxs,Blk.mx,List.length_append,List.length_singleton]; omega))
  rw [List.append_assoc,List.length_append,List.length_singleton] at c53
  have b:=js_b_0 (F:=F) N0 n (l.map encT) lb t.length o.length cap (H ++ [bN n l]) H.length (H.length+1) (y4:=Ud) (y6:=Ud) (y7:=Ud) (y9:=Ud) (y11:=Ud) (y12:=Ud) (y13:=Ud) c53
  have c:=js_c_0 (F:=F) 0 n (l.map encT) lb t.length o.length cap (H ++ [bN n l,bU (startT 16)]) H.length (H.length+1) (y4:=Ud) (y7:=Ud) (y9:=Ud) (y11:=Ud) (y12:=Ud) (y13:=Ud)
  have d:=js_d_0 (F:=F) 0 n (l.map encT) lb t.length o.length cap (H ++ [bN n l,bU (startT 16)]) H.length (H.length+1) 0 (y4:=Ud) (y9:=Ud) (y11:=Ud) (y12:=Ud) (y13:=Ud)
  skip
  have r:=count (pol':=plF F) (f:=57) (E:=fun i=>(env57 (encN n l) (.sl lb 0 t.length cap o.length 1) (.ptr H.length 0 0 1) Ud (.int .i64 0) (.ptr (H.length+1) 0 0 1) (.int .i64 (((ksT l (t.take i)).2.2.length:Nat):Int)) Ud (.sl lb 0 t.length cap o.length 1) (.int .i64 (t.length:Int)) (.int .i64 ((i:Nat):Int)))) (Hs:=fun i=>H ++ [bN n l,bU (ksT l (t.take i)).1]) t.length
    (E0:=fun i=>(env57 (encN n l) (.sl lb 0 t.length cap o.length 1) (.ptr H.length 0 0 1) Ud (.int .i64 0) (.ptr (H.length+1) 0 0 1) (.int .i64 (((ksT l (t.take (i+1))).2.2.length:Nat):Int)) (.int .i64 ((t.getD i 0).toNat:Int)) (.sl lb 0 t.length cap o.length 1) (.int .i64 (t.length:Int)) (.int .i64 ((i+1:Nat):Int)))) (H1:=fun i=>H ++ [bN n l,bU (ksT l (t.take (i+1))).1])
    (fun i hi=>by
      have hk:=ht _ (mem_getD 0 hi)
      have hU:=ksT_up he (t:=t.take i) fun k hk=>ht k (List.mem_of_mem_take hk)
      obtain ⟨e1,e2⟩:=ends he hk
      obtain ⟨N1,cj⟩:=CallsTo.from (join_call' (F:=F) h55 h56 (H:=H ++ [bN n l,bU (ksT l (t.take i)).1]) (get2b H _ _) hU e1 e2)
      rw [set2] at cj
      have hs:=ksT_succ l t hi
      have g2:=gs (l:=l) (y:=(t.getD i 0).toNat) (by omega)
      have ln:=ld_net (H:=H ++ [bN n l,bU (ksT l (t.take i)).1]) (get2a H _ _)
      have hlen:=ksT_len l (t.take i)
      rw [List.length_take] at hlen
      have es:(ksT l (t.take (i+1))).1=upJ (ksT l (t.take i)).1 (ksT l (t.take i)).2.1 (sA l (t.getD i 0)) (sB l (t.getD i 0)):=by rw [hs]; rfl
      by_cases cc:(ksT l (t.take i)).2.1.getD (sA l (t.getD i 0)).toNat 0 ≠ (ksT l (t.take i)).2.1.getD (sB l (t.getD i 0)).toNat 0
      · rw [decide_eq_true cc] at cj
        have s:=js_l_0 (F:=F) N1 n (l.map encT) lb t.length o.length cap (H ++ [bN n l,bU (ksT l (t.take i)).1]) H.length (H.length+1) (ksT l (t.take i)).2.2.length t.length i (t.getD i 0).toNat (l.getD (t.getD i 0).toNat (0,0,0)).1 (l.getD (t.getD i 0).toNat (0,0,0)).2.1 (l.getD (t.getD i 0).toNat (0,0,0)).2.2 (y4:=Ud) (y9:=Ud) (by omega) (ixs i hi) (lds _ i hi) ln g2 ln g2 cj
        have el:(ksT l (t.take (i+1))).2.2.length=(ksT l (t.take i)).2.2.length+1:=by rw [hs,kstep]; simp only; rw [if_pos cc]; simp
        rw [wrap_succ (by omega),wrap_succ (by omega),← el,← es] at s
        exact s
      · rw [decide_eq_false cc] at cj
        have s:=js_l_1 (F:=F) N1 n (l.map encT) lb t.length o.length cap (H ++ [bN n l,bU (ksT l (t.take i)).1]) H.length (H.length+1) (ksT l (t.take i)).2.2.length t.length i (t.getD i 0).toNat (l.getD (t.getD i 0).toNat (0,0,0)).1 (l.getD (t.getD i 0).toNat (0,0,0)).2.1 (l.getD (t.getD i 0).toNat (0,0,0)).2.2 (y4:=Ud) (y9:=Ud) (by omega) (ixs i hi) (lds _ i hi) ln g2 ln g2 cj
        have el:(ksT l (t.take (i+1))).2.2.length=(ksT l (t.take i)).2.2.length:=by rw [hs,kstep]; simp only; rw [if_neg cc]
        rw [wrap_succ (by omega),← es] at s
        rw [el]
        exact s) (fun i _=>by kernel_rfl) (fun i _=>gc_eq _ (by simp)) (js_l_2 (F:=F) 0 n (l.map encT) lb t.length o.length cap (H ++ [bN n l,bU (ksT l (t.take t.length)).1]) H.length (H.length+1) (ksT l (t.take t.length)).2.2.length t.length t.length 0 0 0 0 (y4:=Ud) (y9:=Ud) (by omega)) (by simp) (c:=sub [1,1,1,0,1,0] B57) (by kernel_rfl) (fun i _=>by kernel_rfl)
  have z:=js_z_0 (F:=F) 0 n (l.map encT) lb t.length o.length cap (H ++ [bN n l,bU (ksT l (t.take t.length)).1]) H.length (H.length+1) (ksT l (t.take t.length)).2.2.length (y4:=Ud) (y9:=Ud) (y11:=(.sl lb 0 t.length cap o.length 1)) (y12:=.int .i64 (t.length:Int)) (y13:=.int .i64 (t.length:Int))
  have u:=sq (a) (sq (b) (sq (c) (sq (sq (d) (bke (c:=sub [1,1,1,0,1] B57) (r)) (c:=sub [1,1,1,0] B57)) (z) (c:=sub [1,1,1] B57)) (c:=sub [1,1] B57)) (c:=sub [1] B57)) (c:=B57)
  rw [List.take_length] at u
  have h:=CallsTo.shared (P:=Tp) (pol:=plF F) (g:=57) (fn:=Try.f57) (cd:=B57) (args:=[encN n l,(.sl lb 0 t.length cap o.length 1)]) (v:=.tuple [.ptr (H.length+1) 0 0 1,.int .i64 ((ksT l t).2.2.length:Int)]) h57 (by kernel_rfl) (by kernel_rfl) (by kernel_rfl) u (by kernel_rfl) (by simp) (by kernel_rfl)
  have e:gc H.length (bnd (.tuple [.ptr (H.length+1) 0 0 1,.int .i64 ((ksT l t).2.2.length:Int)])) (H ++ [bN n l,bU (ksT l t).1])=H ++ [bN n l,bU (ksT l t).1]:=by
    unfold gc
    rw [List.take_of_length_le]
    simp only [List.length_append,List.length_cons,List.length_nil,bnd,bndL]
    omega
  rw [e] at h
  exact h
end
end Go.Proofs.Ytiejmoglooaalaa
end
section
open Go Go.HL
namespace Go.Proofs.Ytiejmoglooaalaa
open Go.Proofs.Try renaming prog → Tp
open Go.HL.HV renaming undef → Ud
def treeT (l:List St):List Int:=tkT l (ordT l)
def connB (n:Int) (l:List St):Bool:=decide (((treeT l).length:Int)=n - 1)
def netOk (n:Int) (l:List St):Prop:=endB l=true∧l.length ≤ 900∧0 ≤ n∧n ≤ 1000
instance (n:Int) (l:List St):Decidable (netOk n l):=inferInstanceAs (Decidable (_∧_∧_∧_))
def tree40:List HV → Option HV:=f1 kN fun p=>if netOk p.1 p.2 then some (.tuple [.own 1 ((treeT p.2).map encI),.bool (connB p.1 p.2)]) else none
def prTr:FuncId → Option (List HV → Option HV):=fun g=>if g == 54 then some ordered54 else none
theorem soundTr (n:Nat):CallSound Tp (callN Tp (plF prTr) n):=sound_prim _ (fun g f h=>by
  unfold prTr at h
  split at h
  · rename_i hg; cases h; rw [eq_of_beq hg]; exact ordered_ok
  · cases h) n
theorem res40:Try.f40.results.toList=[.tmp 2,.tmp 3]:=by kernel_rfl
theorem recv_tb (l:List Int) (x:Bool) (H:Heap):recv (.tuple [.own 1 (l.map encI),.bool x]) H=(.tuple [.sl H.length 0 l.length none l.length 1,.bool x],H ++ [bI l]):=by
  have h:recvCell (.own 1 (l.map encI)) H=(.sl H.length 0 l.length none l.length 1,H ++ [bI l]):=by
    simp only [recvCell,encI_any,List.length_map]; rfl
  simp only [recv,recvVals,recvVal,h]; rfl
theorem res_lb {H:Heap} {b k:Nat} {o:List Int} (hb:H[b]?=some (bI o)) (hk:o.length=k) (x:Bool):toRes H false (.tuple [.sl b 0 k none k 1,.bool x])=some (.tuple [.own 1 (o.map encI),.bool x]):=by
  have hr:=resCell_sl (H:=H) (no:=[b]) (b:=b) (k:=1) (m:=k) (cap:=none) (els:=o.map encI) hb (by simpa using hk) (mapO_self (fun r=>frz_int 4 r) _)
  have ho:ownedAll H false (.tuple [.sl b 0 k none k 1,.bool x])=[b]:=by simp [ownedAll,cellsOf,owned,hb]
  simp only [toRes,ho,List.nodup_cons,List.not_mem_nil,not_false_eq_true,List.nodup_nil,and_self,if_true,resVal,mapO,hr]
  rfl
theorem tree_ok:PrimOk Tp 40 tree40:=by
  refine primOk_pure (pol:=plF prTr) (fn:=Try.f40) (cd:=B40) follows_mixed soundTr (by kernel_rfl) (by kernel_rfl) (fnok prTr _ _ (by kernel_rfl)) (by kernel_rfl) ?_
  intro args res h
  obtain ⟨⟨n,l⟩,rfl,hq⟩:=f1_inv h
  split at hq
  case isFalse=>cases hq
  rename_i hc
  obtain ⟨he,hl,n0,n1⟩:=hc
  simp only at he hl n0 n1
  cases hq
  have ht:∀ k ∈ ordT l,0 ≤ k∧k < (l.length:Int):=fun k hk=>ordT_mem.1 hk
  have hol:=ordT_len l
  have a:=tr_a_0 (F:=prTr) 0 n (l.map encT)
  obtain ⟨N0,c53⟩:=CallsTo.from (apart_call (F:=prTr) (by kernel_rfl) [bN n l] (by show max 0 0 ≤ 2; decide))
  have b:=tr_b_0 (F:=prTr) N0 n (l.map encT) [bN n l] (y4:=Ud) (y5:=Ud) (y7:=Ud) (y10:=Ud) (y11:=Ud) (y12:=Ud) c53
  have c:=tr_c_0 (F:=prTr) 0 n (l.map encT) ((startT 16).map encI) (y5:=Ud) (y7:=Ud) (y10:=Ud) (y11:=Ud) (y12:=Ud)
  have c54:=at1 (pol':=plF prTr) (g:=54) (c1:=kN) (f:=fun p=>if p.2.length ≤ 900 then some (.own 1 ((ordT p.2).map encI)) else none) (H:=[bN n l,bU (startT 16),bI []]) (by kernel_rfl) (ShN _ n l) (if_pos hl)
  rw [recv_ints,hol] at c54
  have d:=tr_d_0 (F:=prTr) 0 n (l.map encT) [bN n l,bU (startT 16),bI []] 0 l.length (y7:=Ud) (y10:=Ud) (y11:=Ud) (y12:=Ud) (load_agg (P:=Tp) (b:=0) (els:=[encN n l]) (cs:=[.int .i64 n,.imm .arg 3 (l.map encT)]) rfl rfl rfl a66 z66) c54
  have hT:treeT l=(ksT l (ordT l)).2.2:=rfl
  have hCn:connB n l=decide (((ksT l (ordT l)).2.2.length:Int)=n - 1):=rfl
  generalize ordT l=o at *
  have r:=count (pol':=plF prTr) (f:=40) (E:=fun i=>(env40 (encN n l) (.ptr 0 0 0 1) (.imm .lit 1 []) (.bool false) (.ptr 1 0 0 1) (.sl 2 0 (ksT l (o.take i)).2.2.length none (ksT l (o.take i)).2.2.length 1) Ud (.sl 3 0 l.length none l.length 1) (.int .i64 (l.length:Int)) (.int .i64 ((i:Nat):Int)))) (Hs:=fun i=>[bN n l,bU (ksT l (o.take i)).1,bI (ksT l (o.take i)).2.2,bI o]) l.length
    (E0:=fun i=>(env40 (encN n l) (.ptr 0 0 0 1) (.imm .lit 1 []) (.bool false) (.ptr 1 0 0 1) (.sl 2 0 (ksT l (o.take (i+1))).2.2.length none (ksT l (o.take (i+1))).2.2.length 1) (.int .i64 ((o.getD i 0).toNat:Int)) (.sl 3 0 l.length none l.length 1) (.int .i64 (l.length:Int)) (.int .i64 ((i+1:Nat):Int)))) (H1:=fun i=>[bN n l,bU (ksT l (o.take (i+1))).1,bI (ksT l (o.take (i+1))).2.2,bI o])
    (fun i hi=>by
      have hi2:i < o.length:=by omega
      have hk:=ht _ (mem_getD 0 hi2)
      have hU:=ksT_up he (t:=o.take i) fun k hk=>ht k (List.mem_of_mem_take hk)
      obtain ⟨e1,e2⟩:=ends he hk
      obtain ⟨N1,cj⟩:=CallsTo.from (join_call' (F:=prTr) (by kernel_rfl) (by kernel_rfl) (H:=[bN n l,bU (ksT l (o.take i)).1,bI (ksT l (o.take i)).2.2,bI o]) (b:=1) rfl hU e1 e2)
      have hs:=ksT_succ l o hi2
      have g2:=gs (l:=l) (y:=(o.getD i 0).toNat) (by omega)
      have ix:=idx_sl (P:=Tp) (t:=24) (b:=3) (len:=l.length) (tot:=l.length) (cap:=none) (ik:=.i64) (n:=(i:Int)) u24 z3 (by omega) (by omega)
      rw [Int.toNat_natCast] at ix
      have ld:=load_out (H:=[bN n l,bU (ksT l (o.take i)).1,bI (ksT l (o.take i)).2.2,bI o]) (k:=3) (o:=o) rfl hi2
      rw [hol,show o.getD i 0=(((o.getD i 0).toNat:Nat):Int) by omega] at ld
      have ln:=ld_net (H:=[bN n l,bU (ksT l (o.take i)).1,bI (ksT l (o.take i)).2.2,bI o]) (xb:=0) rfl
      have hlen:=ksT_len l (o.take i)
      rw [List.length_take] at hlen
      have es:(ksT l (o.take (i+1))).1=upJ (ksT l (o.take i)).1 (ksT l (o.take i)).2.1 (sA l (o.getD i 0)) (sB l (o.getD i 0)):=by rw [hs]; rfl
      have ek:(((o.getD i 0).toNat:Nat):Int)=o.getD i 0:=by omega
      by_cases cc:(ksT l (o.take i)).2.1.getD (sA l (o.getD i 0)).toNat 0 ≠ (ksT l (o.take i)).2.1.getD (sB l (o.getD i 0)).toNat 0
      · rw [decide_eq_true cc] at cj
        have el:(ksT l (o.take (i+1))).2.2=(ksT l (o.take i)).2.2 ++ [(((o.getD i 0).toNat:Nat):Int)]:=by rw [hs,kstep]; simp only; rw [if_pos cc,ek]
        have ap:=app_in1 (H:=[bN n l,bU (upJ (ksT l (o.take i)).1 (ksT l (o.take i)).2.1 (sA l (o.getD i 0)) (sB l (o.getD i 0))),bI (ksT l (o.take i)).2.2,bI o]) (b:=2) (o:=(ksT l (o.take i)).2.2) rfl (by omega) (((o.getD i 0).toNat:Nat):Int)
        rw [← el,← es] at ap
        have s:=tr_l_0 (F:=prTr) N1 n (l.map encT) [bN n l,bU (ksT l (o.take i)).1,bI (ksT l (o.take i)).2.2,bI o] (ksT l (o.take i)).2.2.length l.length i (o.getD i 0).toNat (l.getD (o.getD i 0).toNat (0,0,0)).1 (l.getD (o.getD i 0).toNat (0,0,0)).2.1 (l.getD (o.getD i 0).toNat (0,0,0)).2.2 (y7:=Ud) (by omega) ix ld ln g2 ln g2 cj (by rw [← es]; exact ap)
        have el2:(ksT l (o.take (i+1))).2.2.length=(ksT l (o.take i)).2.2.length+1:=by rw [el]; simp
        rw [wrap_succ (by omega),← el2] at s
        exact s
      · rw [decide_eq_false cc] at cj
        have el:(ksT l (o.take (i+1))).2.2=(ksT l (o.take i)).2.2:=by rw [hs,kstep]; simp only; rw [if_neg cc]
        have s:=tr_l_1 (F:=prTr) N1 n (l.map encT) [bN n l,bU (ksT l (o.take i)).1,bI (ksT l (o.take i)).2.2,bI o] (ksT l (o.take i)).2.2.length l.length i (o.getD i 0).toNat (l.getD (o.getD i 0).toNat (0,0,0)).1 (l.getD (o.getD i 0).toNat (0,0,0)).2.1 (l.getD (o.getD i 0).toNat (0,0,0)).2.2 (y7:=Ud) (by omega) ix ld ln g2 ln g2 cj
        rw [wrap_succ (by omega),← es] at s
        rw [el]
        exact s) (fun i _=>by kernel_rfl) (fun i _=>gc_eq _ rfl) (tr_l_2 (F:=prTr) 0 n (l.map encT) [bN n l,bU (ksT l (o.take l.length)).1,bI (ksT l (o.take l.length)).2.2,bI o] (ksT l (o.take l.length)).2.2.length l.length l.length 0 0 0 0 (y7:=Ud) (by omega)) (by simp) (c:=sub [1,1,1,0,1,0] B40) (by kernel_rfl) (fun i _=>by kernel_rfl)
  have eo:o.take l.length=o:=List.take_of_length_le (by omega)
  rw [eo] at r
  have hw:IntKind.i64.wrap (n - 1)=n - 1:=wrap_id (by omega) (by omega)
  have hlen:=ksT_len l o
  have fin:∃ E H2,RunsTo Tp (plF prTr) 40 (sub [1,1,1,1] B40) ((env40 (encN n l) (.ptr 0 0 0 1) (.imm .lit 1 []) (.bool false) (.ptr 1 0 0 1) (.sl 2 0 (ksT l o).2.2.length none (ksT l o).2.2.length 1) Ud (.sl 3 0 l.length none l.length 1) (.int .i64 (l.length:Int)) (.int .i64 (l.length:Int)))) [bN n l,bU (ksT l o).1,bI (ksT l o).2.2,bI o] .ret ((plF prTr).keys 40) E H2∧H2=[bN n l,bU (ksT l o).1,bI (ksT l o).2.2,bI o]∧E.get 2=.sl 2 0 (ksT l o).2.2.length none (ksT l o).2.2.length 1∧E.get 3=.bool (decide (((ksT l o).2.2.length:Int)=n - 1)):=by
    by_cases cc:((ksT l o).2.2.length:Int)=n - 1
    · rw [decide_eq_true cc]
      exact ⟨_,_,tr_z_0 (F:=prTr) 0 n (l.map encT) [bN n l,bU (ksT l o).1,bI (ksT l o).2.2,bI o] (ksT l o).2.2.length l.length (y7:=Ud) (y10:=.sl 3 0 l.length none l.length 1) (y11:=.int .i64 (l.length:Int)) (y12:=.int .i64 (l.length:Int)) (ld_netN (xb:=0) rfl) (by rw [hw]; exact cc),rfl,rfl,rfl⟩
    · rw [decide_eq_false cc]
      exact ⟨_,_,tr_z_1 (F:=prTr) 0 n (l.map encT) [bN n l,bU (ksT l o).1,bI (ksT l o).2.2,bI o] (ksT l o).2.2.length l.length (y7:=Ud) (y10:=.sl 3 0 l.length none l.length 1) (y11:=.int .i64 (l.length:Int)) (y12:=.int .i64 (l.length:Int)) (ld_netN (xb:=0) rfl) (by rw [hw]; exact cc),rfl,rfl,rfl⟩
  obtain ⟨E2,H2,z,rfl,z2,z3⟩:=fin
  refine ⟨_,_,_,.tuple [.sl 2 0 (ksT l o).2.2.length none (ksT l o).2.2.length 1,.bool (decide (((ksT l o).2.2.length:Int)=n - 1))],sq (a) (sq (b) (sq (c) (sq (sq (d) (bke (c:=sub [1,1,1,0,1] B40) (r)) (c:=sub [1,1,1,0] B40)) (z) (c:=sub [1,1,1] B40)) (c:=sub [1,1] B40)) (c:=sub [1] B40)) (c:=B40),by simp,by simp only [resultsV,res40,mapO,resultV,z2,z3],?_⟩
  show toRes _ false _=some (.tuple [.own 1 ((treeT l).map encI),.bool (connB n l)])
  rw [hT,hCn]
  exact res_lb (b:=2) rfl rfl _
end Go.Proofs.Ytiejmoglooaalaa
end
section
open Go Go.HL
namespace Go.Proofs.Ytiejmoglooaalaa
set_option maxRecDepth 100000
open Go.Proofs.Try renaming prog → Tp
open Go.HL.HV renaming undef → Ud
section
variable {F:FuncId → Option (List HV → Option HV)}
noncomputable def B60:Code:=Try.f60.body.getD .skip
abbrev env60 (v0 v1 v2 v3:HV):Env:=[(0,v0),(1,v1),(2,v2),(3,v3)]
theorem nn_a_0 (a b w:Int) (nb:Nat) (H:Heap) (v:Int) {a0:HV} {H0:Heap} {a1:HV} {H1:Heap} {a2:HV} {H2:Heap} {a3:HV} {a4:HV} (g0:some (newV (.agg [.i a,.i b,.i w]) H)=some (a0,H0)) (g1:fldAddrV Tp 42 a0 0=some (a1)) (g2:loadV Tp H0 3 (a1)=some (.i a)) (g3:loadV Tp H0 3 (.ptr nb 0 0 1)=some (.i v)) (g4:∀ kf,callN Tp (plF F) (kf+1) 52 [.i a,.i 0,.i (IntKind.i64.wrap (v - 1))] H0=some (.bool true,H1)) (g5:fldAddrV Tp 42 a0 1=some (a2)) (g6:loadV Tp H1 3 (a2)=some (.i b)) (g7:loadV Tp H1 3 (.ptr nb 0 0 1)=some (.i v)) (g8:∀ kf,callN Tp (plF F) (kf+1) 52 [.i b,.i 0,.i (IntKind.i64.wrap (v - 1))] H1=some (.bool true,H2)) (g9:fldAddrV Tp 42 a0 0=some (a3)) (g10:loadV Tp H2 3 (a3)=some (.i a)) (g11:fldAddrV Tp 42 a0 1=some (a4)) (g12:loadV Tp H2 3 (a4)=some (.i b)) (g13:a=b):RunsTo Tp (plF F) 60 (sub [] B60) [(0,.agg [.i a,.i b,.i w]),(1,.ptr nb 0 0 1)] H .ret ((plF F).keys 60) (env60 (.agg [.i a,.i b,.i w]) (.ptr nb 0 0 1) a0 (.bool true)) H2 :=
  RunsTo.hin 0 60 [⟨0,0,a0,H0⟩,⟨1,0,a1,H0⟩,⟨1,1,.i a,H0⟩,⟨1,2,.i v,H0⟩,⟨1,4,.bool true,H1⟩,⟨1,7,a2,H1⟩,⟨1,8,.i b,H1⟩,⟨1,9,.i v,H1⟩,⟨1,11,.bool true,H2⟩,⟨1,15,a3,H2⟩,⟨1,16,.i a,H2⟩,⟨1,17,a4,H2⟩,⟨1,18,.i b,H2⟩,⟨1,19,.bool true,H2⟩] fun kf hk=>⟨_,by kernel_rfl,(oC (g0) (oP H0 g1 (oP H0 g2 (oP H0 g3 (oC (g4 kf) (oP H1 g5 (oP H1 g6 (oP H1 g7 (oC (g8 kf) (oP H2 g9 (oP H2 g10 (oP H2 g11 (oP H2 g12 (oB H2 (decide_eq_true g13) .nil))))))))))))))⟩
theorem nn_a_1 (a b w:Int) (nb:Nat) (H:Heap) (v:Int) {a0:HV} {H0:Heap} {a1:HV} {H1:Heap} {a2:HV} {H2:Heap} {a3:HV} {a4:HV} {a5:HV} {H3:Heap} (g0:some (newV (.agg [.i a,.i b,.i w]) H)=some (a0,H0)) (g1:fldAddrV Tp 42 a0 0=some (a1)) (g2:loadV Tp H0 3 (a1)=some (.i a)) (g3:loadV Tp H0 3 (.ptr nb 0 0 1)=some (.i v)) (g4:∀ kf,callN Tp (plF F) (kf+1) 52 [.i a,.i 0,.i (IntKind.i64.wrap (v - 1))] H0=some (.bool true,H1)) (g5:fldAddrV Tp 42 a0 1=some (a2)) (g6:loadV Tp H1 3 (a2)=some (.i b)) (g7:loadV Tp H1 3 (.ptr nb 0 0 1)=some (.i v)) (g8:∀ kf,callN Tp (plF F) (kf+1) 52 [.i b,.i 0,.i (IntKind.i64.wrap (v - 1))] H1=some (.bool true,H2)) (g9:fldAddrV Tp 42 a0 0=some (a3)) (g10:loadV Tp H2 3 (a3)=some (.i a)) (g11:fldAddrV Tp 42 a0 1=some (a4)) (g12:loadV Tp H2 3 (a4)=some (.i b)) (g13:¬ (a=b)) (g14:fldAddrV Tp 42 a0 2=some (a5)) (g15:loadV Tp H2 3 (a5)=some (.i w)) (g16:∀ kf,callN Tp (plF F) (kf+1) 52 [.i w,.i 0,.i 1000] H2=some (.bool true,H3)):RunsTo Tp (plF F) 60 (sub [] B60) [(0,.agg [.i a,.i b,.i w]),(1,.ptr nb 0 0 1)] H .ret ((plF F).keys 60) (env60 (.agg [.i a,.i b,.i w]) (.ptr nb 0 0 1) a0 (.bool false)) H3 :=
  RunsTo.hin 0 60 [⟨0,0,a0,H0⟩,⟨1,0,a1,H0⟩,⟨1,1,.i a,H0⟩,⟨1,2,.i v,H0⟩,⟨1,4,.bool true,H1⟩,⟨1,7,a2,H1⟩,⟨1,8,.i b,H1⟩,⟨1,9,.i v,H1⟩,⟨1,11,.bool true,H2⟩,⟨1,15,a3,H2⟩,⟨1,16,.i a,H2⟩,⟨1,17,a4,H2⟩,⟨1,18,.i b,H2⟩,⟨1,19,.bool false,H2⟩,⟨1,22,a5,H2⟩,⟨1,23,.i w,H2⟩,⟨1,24,.bool true,H3⟩] fun kf hk=>⟨_,by kernel_rfl,(oC (g0) (oP H0 g1 (oP H0 g2 (oP H0 g3 (oC (g4 kf) (oP H1 g5 (oP H1 g6 (oP H1 g7 (oC (g8 kf) (oP H2 g9 (oP H2 g10 (oP H2 g11 (oP H2 g12 (oB H2 (decide_eq_false g13) (oP H2 g14 (oP H2 g15 (oC (g16 kf) .nil)))))))))))))))))⟩
theorem nn_a_2 (a b w:Int) (nb:Nat) (H:Heap) (v:Int) {a0:HV} {H0:Heap} {a1:HV} {H1:Heap} {a2:HV} {H2:Heap} {a3:HV} {a4:HV} {a5:HV} {H3:Heap} (g0:some (newV (.agg [.i a,.i b,.i w]) H)=some (a0,H0)) (g1:fldAddrV Tp 42 a0 0=some (a1)) (g2:loadV Tp H0 3 (a1)=some (.i a)) (g3:loadV Tp H0 3 (.ptr nb 0 0 1)=some (.i v)) (g4:∀ kf,callN Tp (plF F) (kf+1) 52 [.i a,.i 0,.i (IntKind.i64.wrap (v - 1))] H0=some (.bool true,H1)) (g5:fldAddrV Tp 42 a0 1=some (a2)) (g6:loadV Tp H1 3 (a2)=some (.i b)) (g7:loadV Tp H1 3 (.ptr nb 0 0 1)=some (.i v)) (g8:∀ kf,callN Tp (plF F) (kf+1) 52 [.i b,.i 0,.i (IntKind.i64.wrap (v - 1))] H1=some (.bool true,H2)) (g9:fldAddrV Tp 42 a0 0=some (a3)) (g10:loadV Tp H2 3 (a3)=some (.i a)) (g11:fldAddrV Tp 42 a0 1=some (a4)) (g12:loadV Tp H2 3 (a4)=some (.i b)) (g13:¬ (a=b)) (g14:fldAddrV Tp 42 a0 2=some (a5)) (g15:loadV Tp H2 3 (a5)=some (.i w)) (g16:∀ kf,callN Tp (plF F) (kf+1) 52 [.i w,.i 0,.i 1000] H2=some (.bool false,H3)):RunsTo Tp (plF F) 60 (sub [] B60) [(0,.agg [.i a,.i b,.i w]),(1,.ptr nb 0 0 1)] H .ret ((plF F).keys 60) (env60 (.agg [.i a,.i b,.i w]) (.ptr nb 0 0 1) a0 (.bool true)) H3 :=
  RunsTo.hin 0 60 [⟨0,0,a0,H0⟩,⟨1,0,a1,H0⟩,⟨1,1,.i a,H0⟩,⟨1,2,.i v,H0⟩,⟨1,4,.bool true,H1⟩,⟨1,7,a2,H1⟩,⟨1,8,.i b,H1⟩,⟨1,9,.i v,H1⟩,⟨1,11,.bool true,H2⟩,⟨1,15,a3,H2⟩,⟨1,16,.i a,H2⟩,⟨1,17,a4,H2⟩,⟨1,18,.i b,H2⟩,⟨1,19,.bool false,H2⟩,⟨1,22,a5,H2⟩,⟨1,23,.i w,H2⟩,⟨1,24,.bool false,H3⟩] fun kf hk=>⟨_,by kernel_rfl,(oC (g0) (oP H0 g1 (oP H0 g2 (oP H0 g3 (oC (g4 kf) (oP H1 g5 (oP H1 g6 (oP H1 g7 (oC (g8 kf) (oP H2 g9 (oP H2 g10 (oP H2 g11 (oP H2 g12 (oB H2 (decide_eq_false g13) (oP H2 g14 (oP H2 g15 (oC (g16 kf) .nil)))))))))))))))))⟩
theorem nn_a_3 (a b w:Int) (nb:Nat) (H:Heap) (v:Int) {a0:HV} {H0:Heap} {a1:HV} {H1:Heap} {a2:HV} {H2:Heap} (g0:some (newV (.agg [.i a,.i b,.i w]) H)=some (a0,H0)) (g1:fldAddrV Tp 42 a0 0=some (a1)) (g2:loadV Tp H0 3 (a1)=some (.i a)) (g3:loadV Tp H0 3 (.ptr nb 0 0 1)=some (.i v)) (g4:∀ kf,callN Tp (plF F) (kf+1) 52 [.i a,.i 0,.i (IntKind.i64.wrap (v - 1))] H0=some (.bool true,H1)) (g5:fldAddrV Tp 42 a0 1=some (a2)) (g6:loadV Tp H1 3 (a2)=some (.i b)) (g7:loadV Tp H1 3 (.ptr nb 0 0 1)=some (.i v)) (g8:∀ kf,callN Tp (plF F) (kf+1) 52 [.i b,.i 0,.i (IntKind.i64.wrap (v - 1))] H1=some (.bool false,H2)):RunsTo Tp (plF F) 60 (sub [] B60) [(0,.agg [.i a,.i b,.i w]),(1,.ptr nb 0 0 1)] H .ret ((plF F).keys 60) (env60 (.agg [.i a,.i b,.i w]) (.ptr nb 0 0 1) a0 (.bool true)) H2 :=
  RunsTo.hin 0 60 [⟨0,0,a0,H0⟩,⟨1,0,a1,H0⟩,⟨1,1,.i a,H0⟩,⟨1,2,.i v,H0⟩,⟨1,4,.bool true,H1⟩,⟨1,7,a2,H1⟩,⟨1,8,.i b,H1⟩,⟨1,9,.i v,H1⟩,⟨1,11,.bool false,H2⟩] fun kf hk=>⟨_,by kernel_rfl,(oC (g0) (oP H0 g1 (oP H0 g2 (oP H0 g3 (oC (g4 kf) (oP H1 g5 (oP H1 g6 (oP H1 g7 (oC (g8 kf) .nil)))))))))⟩
theorem nn_a_4 (a b w:Int) (nb:Nat) (H:Heap) (v:Int) {a0:HV} {H0:Heap} {a1:HV} {H1:Heap} (g0:some (newV (.agg [.i a,.i b,.i w]) H)=some (a0,H0)) (g1:fldAddrV Tp 42 a0 0=some (a1)) (g2:loadV Tp H0 3 (a1)=some (.i a)) (g3:loadV Tp H0 3 (.ptr nb 0 0 1)=some (.i v)) (g4:∀ kf,callN Tp (plF F) (kf+1) 52 [.i a,.i 0,.i (IntKind.i64.wrap (v - 1))] H0=some (.bool false,H1)):RunsTo Tp (plF F) 60 (sub [] B60) [(0,.agg [.i a,.i b,.i w]),(1,.ptr nb 0 0 1)] H .ret ((plF F).keys 60) (env60 (.agg [.i a,.i b,.i w]) (.ptr nb 0 0 1) a0 (.bool true)) H1 :=
  RunsTo.hin 0 60 [⟨0,0,a0,H0⟩,⟨1,0,a1,H0⟩,⟨1,1,.i a,H0⟩,⟨1,2,.i v,H0⟩,⟨1,4,.bool false,H1⟩] fun kf hk=>⟨_,by kernel_rfl,(oC (g0) (oP H0 g1 (oP H0 g2 (oP H0 g3 (oC (g4 kf) .nil)))))⟩
noncomputable def B74:Code:=Try.f74.body.getD .skip
abbrev env74 (v0 v1 v4 v5 v7 v8:HV):Env:=[(0,v0),(1,v1),(4,v4),(5,v5),(7,v7),(8,v8)]
theorem ix_a_0 (N:Nat) (ls:List HV) (nb:Nat) (H:Heap):RunsTo Tp (plF F) 74 (sub [0] B74) [(0,.imm .arg 3 ls),(1,.func 60 [] [.ptr nb 0 0 1])] H .normal ((plF F).keys 74) (env74 (.imm .arg 3 ls) (.func 60 [] [.ptr nb 0 0 1]) (.i 0) Ud Ud Ud) H :=
  RunsTo.hin N 60 [] fun kf hk=>⟨_,by kernel_rfl,.nil⟩
theorem ix_b_0 (N:Nat) (ls:List HV) (nb:Nat) (H:Heap) {y5 y7 y8:HV}:RunsTo Tp (plF F) 74 (sub [1,0,0] B74) (env74 (.imm .arg 3 ls) (.func 60 [] [.ptr nb 0 0 1]) (.i 0) y5 y7 y8) H .normal ((plF F).keys 74) (env74 (.imm .arg 3 ls) (.func 60 [] [.ptr nb 0 0 1]) (.i 0) y5 (.i (ls.length:Int)) (.i 0)) H :=
  RunsTo.hin N 60 [] fun kf hk=>⟨_,by kernel_rfl,.nil⟩
theorem ix_l_0 (N:Nat) (ls:List HV) (nb:Nat) (H:Heap) (m j:Nat) (a b w:Int) {y5:HV} {H0:Heap} (g0:(j:Int) < (m:Int)) (g1:idxV Tp 22 (.imm .arg 3 ls) (.i (j:Int))=some (.vptr (.agg [.i a,.i b,.i w]))) (g2:∀ kf,N ≤ kf → callN Tp (plF F) (kf+1) 60 [.agg [.i a,.i b,.i w],.ptr nb 0 0 1] H=some (.bool true,H0)):RunsTo Tp (plF F) 74 (sub [1,0,1,0,0] B74) (env74 (.imm .arg 3 ls) (.func 60 [] [.ptr nb 0 0 1]) (.i 0) y5 (.i (m:Int)) (.i (j:Int))) H .ret ((plF F).keys 74) (env74 (.imm .arg 3 ls) (.func 60 [] [.ptr nb 0 0 1]) (.i (j:Int)) (.i (j:Int)) (.i (m:Int)) (.i (j:Int))) H0 :=
  RunsTo.hin N 60 [⟨2,0,.bool true,H⟩,⟨4,3,.vptr (.agg [.i a,.i b,.i w]),H⟩,⟨4,5,.bool true,H0⟩] fun kf hk=>⟨_,by kernel_rfl,(oB H (decide_eq_true g0) (oP H g1 (oC (g2 kf (by omega)) .nil)))⟩
theorem ix_l_1 (N:Nat) (ls:List HV) (nb:Nat) (H:Heap) (m j:Nat) (a b w:Int) {y5:HV} {H0:Heap} (g0:(j:Int) < (m:Int)) (g1:idxV Tp 22 (.imm .arg 3 ls) (.i (j:Int))=some (.vptr (.agg [.i a,.i b,.i w]))) (g2:∀ kf,N ≤ kf → callN Tp (plF F) (kf+1) 60 [.agg [.i a,.i b,.i w],.ptr nb 0 0 1] H=some (.bool false,H0)):RunsTo Tp (plF F) 74 (sub [1,0,1,0,0] B74) (env74 (.imm .arg 3 ls) (.func 60 [] [.ptr nb 0 0 1]) (.i 0) y5 (.i (m:Int)) (.i (j:Int))) H .normal ((plF F).keys 74) (env74 (.imm .arg 3 ls) (.func 60 [] [.ptr nb 0 0 1]) (.i 0) (.i (j:Int)) (.i (m:Int)) (.i (IntKind.i64.wrap ((j:Int)+1)))) H0 :=
  RunsTo.hin N 60 [⟨2,0,.bool true,H⟩,⟨4,3,.vptr (.agg [.i a,.i b,.i w]),H⟩,⟨4,5,.bool false,H0⟩] fun kf hk=>⟨_,by kernel_rfl,(oB H (decide_eq_true g0) (oP H g1 (oC (g2 kf (by omega)) .nil)))⟩
theorem ix_l_2 (N:Nat) (ls:List HV) (nb:Nat) (H:Heap) (m j:Nat) (a b w:Int) {y5:HV}(g0:¬ ((j:Int) < (m:Int))):RunsTo Tp (plF F) 74 (sub [1,0,1,0,0] B74) (env74 (.imm .arg 3 ls) (.func 60 [] [.ptr nb 0 0 1]) (.i 0) y5 (.i (m:Int)) (.i (j:Int))) H (.exit 0) ((plF F).keys 74) (env74 (.imm .arg 3 ls) (.func 60 [] [.ptr nb 0 0 1]) (.i 0) y5 (.i (m:Int)) (.i (j:Int))) H :=
  RunsTo.hin N 60 [⟨2,0,.bool false,H⟩] fun kf hk=>⟨_,by kernel_rfl,(oB H (decide_eq_false g0) .nil)⟩
theorem ix_z_0 (N:Nat) (ls:List HV) (nb:Nat) (H:Heap) {y5 y7 y8:HV}:RunsTo Tp (plF F) 74 (sub [1,1] B74) (env74 (.imm .arg 3 ls) (.func 60 [] [.ptr nb 0 0 1]) (.i 0) y5 y7 y8) H .ret ((plF F).keys 74) (env74 (.imm .arg 3 ls) (.func 60 [] [.ptr nb 0 0 1]) (.i (-1)) y5 y7 y8) H :=
  RunsTo.hin N 60 [] fun kf hk=>⟨_,by kernel_rfl,.nil⟩
noncomputable def B61:Code:=Try.f61.body.getD .skip
abbrev env61 (v0 v1 v4:HV):Env:=[(0,v0),(1,v1),(4,v4)]
theorem cf_a_0 (N:Nat) (ls:List HV) (nb:Nat) (H:Heap) {r0:Int} {H0:Heap} (g0:∀ kf,N ≤ kf → callN Tp (plF F) (kf+1) 74 [.imm .arg 3 ls,.func 60 [] [.ptr nb 0 0 1]] H=some (.i r0,H0)) (g1:0 ≤ r0):RunsTo Tp (plF F) 61 (sub [] B61) [(0,.imm .arg 3 ls),(1,.func 60 [] [.ptr nb 0 0 1])] H .ret ((plF F).keys 61) (env61 (.imm .arg 3 ls) (.func 60 [] [.ptr nb 0 0 1]) (.bool true)) H0 :=
  RunsTo.hin N 60 [⟨1,2,.i r0,H0⟩,⟨1,3,.bool true,H0⟩] fun kf hk=>⟨_,by kernel_rfl,(oC (g0 kf (by omega)) (oB H0 (decide_eq_true g1) .nil))⟩
theorem cf_a_1 (N:Nat) (ls:List HV) (nb:Nat) (H:Heap) {r0:Int} {H0:Heap} (g0:∀ kf,N ≤ kf → callN Tp (plF F) (kf+1) 74 [.imm .arg 3 ls,.func 60 [] [.ptr nb 0 0 1]] H=some (.i r0,H0)) (g1:¬ (0 ≤ r0)):RunsTo Tp (plF F) 61 (sub [] B61) [(0,.imm .arg 3 ls),(1,.func 60 [] [.ptr nb 0 0 1])] H .ret ((plF F).keys 61) (env61 (.imm .arg 3 ls) (.func 60 [] [.ptr nb 0 0 1]) (.bool false)) H0 :=
  RunsTo.hin N 60 [⟨1,2,.i r0,H0⟩,⟨1,3,.bool false,H0⟩] fun kf hk=>⟨_,by kernel_rfl,(oC (g0 kf (by omega)) (oB H0 (decide_eq_false g1) .nil))⟩
noncomputable def B39:Code:=Try.f39.body.getD .skip
abbrev env39 (v0 v1 v2 v4 v5 v6 v7:HV):Env:=[(0,v0),(1,v1),(2,v2),(4,v4),(5,v5),(6,v6),(7,v7)]
theorem nw_a_0 (N:Nat) (n:Int) (ls:List HV) (H:Heap) {a0:HV} {H0:Heap} {a1:HV} {H1:Heap} {H2:Heap} {H3:Heap} {H4:Heap} (g0:some (newV (.i n) H)=some (a0,H0)) (g1:some (newV (.agg [.i 0,.imm .lit 0 []]) H0)=some (a1,H1)) (g2:loadV Tp H1 3 (a0)=some (.i n)) (g3:∀ kf,callN Tp (plF F) (kf+1) 52 [.i n,.i 1,.i 16] H1=some (.bool true,H2)) (g4:(ls.length:Int) ≤ 60) (g5:∀ kf,N ≤ kf → callN Tp (plF F) (kf+1) 61 [.imm .arg 3 ls,.func 60 [] [a0]] H2=some (.bool true,H3)) (g6:loadV Tp H3 3 (a0)=some (.i n)) (g7:storeV Tp H3 66 (a1) (.agg [.i n,.imm .arg 3 ls])=some H4):RunsTo Tp (plF F) 39 (sub [] B39) [(0,.i n),(1,.imm .arg 3 ls)] H .ret ((plF F).keys 39) (env39 (.i n) (.imm .arg 3 ls) a0 a1 (.bool false) (.func 60 [] [a0]) (.bool false)) H4 :=
  RunsTo.hin N 60 [⟨0,0,a0,H0⟩,⟨0,1,a1,H1⟩,⟨2,0,.i n,H1⟩,⟨2,1,.bool true,H2⟩,⟨2,5,.bool true,H2⟩,⟨2,10,.bool true,H3⟩,⟨3,0,.i n,H3⟩,⟨3,4,.tuple [],H4⟩] fun kf hk=>⟨_,by kernel_rfl,(oC (g0) (oC (g1) (oP H1 g2 (oC (g3 kf) (oB H2 (decide_eq_true g4) (oC (g5 kf (by omega)) (oP H3 g6 (oS g7 .nil))))))))⟩
theorem nw_a_1 (N:Nat) (n:Int) (ls:List HV) (H:Heap) {a0:HV} {H0:Heap} {a1:HV} {H1:Heap} {H2:Heap} {H3:Heap} {H4:Heap} (g0:some (newV (.i n) H)=some (a0,H0)) (g1:some (newV (.agg [.i 0,.imm .lit 0 []]) H0)=some (a1,H1)) (g2:loadV Tp H1 3 (a0)=some (.i n)) (g3:∀ kf,callN Tp (plF F) (kf+1) 52 [.i n,.i 1,.i 16] H1=some (.bool true,H2)) (g4:(ls.length:Int) ≤ 60) (g5:∀ kf,N ≤ kf → callN Tp (plF F) (kf+1) 61 [.imm .arg 3 ls,.func 60 [] [a0]] H2=some (.bool false,H3)) (g6:loadV Tp H3 3 (a0)=some (.i n)) (g7:storeV Tp H3 66 (a1) (.agg [.i n,.imm .arg 3 ls])=some H4):RunsTo Tp (plF F) 39 (sub [] B39) [(0,.i n),(1,.imm .arg 3 ls)] H .ret ((plF F).keys 39) (env39 (.i n) (.imm .arg 3 ls) a0 a1 (.bool true) (.func 60 [] [a0]) (.bool true)) H4 :=
  RunsTo.hin N 60 [⟨0,0,a0,H0⟩,⟨0,1,a1,H1⟩,⟨2,0,.i n,H1⟩,⟨2,1,.bool true,H2⟩,⟨2,5,.bool true,H2⟩,⟨2,10,.bool false,H3⟩,⟨3,0,.i n,H3⟩,⟨3,4,.tuple [],H4⟩] fun kf hk=>⟨_,by kernel_rfl,(oC (g0) (oC (g1) (oP H1 g2 (oC (g3 kf) (oB H2 (decide_eq_true g4) (oC (g5 kf (by omega)) (oP H3 g6 (oS g7 .nil))))))))⟩
theorem nw_a_2 (N:Nat) (n:Int) (ls:List HV) (H:Heap) {a0:HV} {H0:Heap} {a1:HV} {H1:Heap} {H2:Heap} {H3:Heap} (g0:some (newV (.i n) H)=some (a0,H0)) (g1:some (newV (.agg [.i 0,.imm .lit 0 []]) H0)=some (a1,H1)) (g2:loadV Tp H1 3 (a0)=some (.i n)) (g3:∀ kf,callN Tp (plF F) (kf+1) 52 [.i n,.i 1,.i 16] H1=some (.bool true,H2)) (g4:¬ ((ls.length:Int) ≤ 60)) (g5:loadV Tp H2 3 (a0)=some (.i n)) (g6:storeV Tp H2 66 (a1) (.agg [.i n,.imm .arg 3 ls])=some H3):RunsTo Tp (plF F) 39 (sub [] B39) [(0,.i n),(1,.imm .arg 3 ls)] H .ret ((plF F).keys 39) (env39 (.i n) (.imm .arg 3 ls) a0 a1 (.bool false) (.func 60 [] [a0]) (.bool false)) H3 :=
  RunsTo.hin N 60 [⟨0,0,a0,H0⟩,⟨0,1,a1,H1⟩,⟨2,0,.i n,H1⟩,⟨2,1,.bool true,H2⟩,⟨2,5,.bool false,H2⟩,⟨3,0,.i n,H2⟩,⟨3,4,.tuple [],H3⟩] fun kf hk=>⟨_,by kernel_rfl,(oC (g0) (oC (g1) (oP H1 g2 (oC (g3 kf) (oB H2 (decide_eq_false g4) (oP H2 g5 (oS g6 .nil)))))))⟩
theorem nw_a_3 (N:Nat) (n:Int) (ls:List HV) (H:Heap) {a0:HV} {H0:Heap} {a1:HV} {H1:Heap} {H2:Heap} {H3:Heap} (g0:some (newV (.i n) H)=some (a0,H0)) (g1:some (newV (.agg [.i 0,.imm .lit 0 []]) H0)=some (a1,H1)) (g2:loadV Tp H1 3 (a0)=some (.i n)) (g3:∀ kf,callN Tp (plF F) (kf+1) 52 [.i n,.i 1,.i 16] H1=some (.bool false,H2)) (g4:loadV Tp H2 3 (a0)=some (.i n)) (g5:storeV Tp H2 66 (a1) (.agg [.i n,.imm .arg 3 ls])=some H3):RunsTo Tp (plF F) 39 (sub [] B39) [(0,.i n),(1,.imm .arg 3 ls)] H .ret ((plF F).keys 39) (env39 (.i n) (.imm .arg 3 ls) a0 a1 (.bool false) (.func 60 [] [a0]) (.bool false)) H3 :=
  RunsTo.hin N 60 [⟨0,0,a0,H0⟩,⟨0,1,a1,H1⟩,⟨2,0,.i n,H1⟩,⟨2,1,.bool false,H2⟩,⟨3,0,.i n,H2⟩,⟨3,4,.tuple [],H3⟩] fun kf hk=>⟨_,by kernel_rfl,(oC (g0) (oC (g1) (oP H1 g2 (oC (g3 kf) (oP H2 g4 (oS g5 .nil))))))⟩
end
end Go.Proofs.Ytiejmoglooaalaa
end
section
open Go Go.HL
namespace Go.Proofs.Ytiejmoglooaalaa
open Go.Proofs.Try renaming prog → Tp
open Go.HL.HV renaming undef → Ud
section
variable {F:FuncId → Option (List HV → Option HV)}
theorem within_at (h52:F 52=some within52) (n lo hi:Int) (H:Heap):∀ k,callN Tp (plF F) (k+1) 52 [.int .i64 n,.int .i64 lo,.int .i64 hi] H=some (.bool (decide (lo ≤ n∧n ≤ hi)),H) :=
  at3 (pol':=plF F) (g:=52) (c1:=kI) (c2:=kI) (c3:=kI) (f:=fun n lo hi=>some (.bool (decide (lo ≤ n∧n ≤ hi)))) h52 (ShI H n) (ShI H lo) (ShI H hi) rfl
abbrev bT (s:St):Blk:=.arr 3 [encT s] true 0
theorem ldT {H:Heap} {b:Nat} {s:St} (hb:H[b]?=some (bT s)) (off:Nat) (x:Int) (hx:[HV.int .i64 s.1,.int .i64 s.2.1,.int .i64 s.2.2][off]?=some (.int .i64 x)):loadV Tp H 3 (.ptr b 0 off 1)=some (.int .i64 x) :=
  load_cell (P:=Tp) (t:=3) (b:=b) (i:=0) (off:=off) (tot:=1) (els:=[encT s]) (cs:=[.int .i64 s.1,.int .i64 s.2.1,.int .i64 s.2.2]) hb rfl rfl a3 i3 hx
theorem ld1 {H:Heap} {b mx:Nat} {n:Int} (hb:H[b]?=some (.arr 1 [.int .i64 n] true mx)):loadV Tp H 3 (.ptr b 0 0 1)=some (.int .i64 n):=load_elem (b:=b) hb rfl rfl rfl a3 i3
theorem gc_back {H X:Heap} (hm:mxs (H ++ X) ≤ H.length) {r:Nat} (hr:r ≤ H.length):gc H.length r (H ++ X)=H:=by
  unfold gc
  rw [show max H.length (max r (mxs (H ++ X)))=H.length by omega]
  exact List.take_left
theorem bad_call (h52:F 52=some within52) (h60:F 60=none) {H:Heap} {nb:Nat} {n:Int} (hb:H[nb]?=some (.arr 1 [.int .i64 n] true 0)) (hm:mxs H ≤ H.length) (hn:1 ≤ n∧n ≤ 16) (s:St) :
    ClF F 60 [encT s,.ptr nb 0 0 1] H (.bool (!stB n s)) H:=by
  have hw:IntKind.i64.wrap (n - 1)=n - 1:=wrap_id (by omega) (by omega)
  have hx:(H ++ [bT s])[H.length]?=some (bT s):=by rw [List.getElem?_append_right (Nat.le_refl _),Nat.sub_self]; rfl
  have lv:=ld1 (get_l (X:=[bT s]) hb)
  have la:=ldT hx 0 s.1 rfl
  have lb:=ldT hx 1 s.2.1 rfl
  have lw:=ldT hx 2 s.2.2 rfl
  have wi:=fun (x lo hi:Int)=>within_at h52 x lo hi (H ++ [bT s])
  have fin:∀ (v:Bool) (E:Env),RunsTo Tp (plF F) 60 (sub [] B60) [(0,encT s),(1,.ptr nb 0 0 1)] H .ret ((plF F).keys 60) E (H ++ [bT s]) → E.get 3=.bool v → ClF F 60 [encT s,.ptr nb 0 0 1] H (.bool v) H:=fun v E t he=>by
    have hr:Try.f60.results.toList=[.tmp 3]:=by kernel_rfl
    have h:=CallsTo.shared (P:=Tp) (pol:=plF F) (g:=60) (fn:=Try.f60) (cd:=B60) (args:=[encT s,.ptr nb 0 0 1]) (v:=.bool v) h60 (by kernel_rfl) (by kernel_rfl) (by kernel_rfl) t (by kernel_rfl) (by simp) (by simp only [resultsV,hr,mapO,resultV,he])
    rw [gc_back (r:=bnd (.bool v)) (by rw [mxs_app]; show max (mxs H) (max 0 0) ≤ _; omega) (by simp [bnd])] at h
    exact h
  have nv:some (newV (encT s) H)=some (.ptr H.length 0 0 1,H ++ [bT s]):=rfl
  have f0:fldAddrV Tp 42 (.ptr H.length 0 0 1) 0=some (.ptr H.length 0 0 1):=by kernel_rfl
  have f1:fldAddrV Tp 42 (.ptr H.length 0 0 1) 1=some (.ptr H.length 0 1 1):=by kernel_rfl
  have f2:fldAddrV Tp 42 (.ptr H.length 0 0 1) 2=some (.ptr H.length 0 2 1):=by kernel_rfl
  have w1:=wi s.1 0 (IntKind.i64.wrap (n - 1))
  have w2:=wi s.2.1 0 (IntKind.i64.wrap (n - 1))
  have w3:=wi s.2.2 0 1000
  rw [hw] at w1 w2
  by_cases k1:0 ≤ s.1∧s.1 ≤ n - 1
  · rw [decide_eq_true k1] at w1
    by_cases k2:0 ≤ s.2.1∧s.2.1 ≤ n - 1
    · rw [decide_eq_true k2] at w2
      by_cases k3:s.1=s.2.1
      · rw [show stB n s=false from decide_eq_false (fun h=>h.2.2.1 k3)]
        exact fin true _ (nn_a_0 (F:=F) s.1 s.2.1 s.2.2 nb H n nv f0 la lv (by rw [hw]; exact w1) f1 lb lv (by rw [hw]; exact w2) f0 la f1 lb k3) rfl
      · by_cases k4:0 ≤ s.2.2∧s.2.2 ≤ 1000
        · rw [decide_eq_true k4] at w3
          rw [show stB n s=true from decide_eq_true ⟨by omega,by omega,k3,k4⟩]
          exact fin false _ (nn_a_1 (F:=F) s.1 s.2.1 s.2.2 nb H n nv f0 la lv (by rw [hw]; exact w1) f1 lb lv (by rw [hw]; exact w2) f0 la f1 lb k3 f2 lw w3) rfl
        · rw [decide_eq_false k4] at w3
          rw [show stB n s=false from decide_eq_false (fun h=>k4 h.2.2.2)]
          exact fin true _ (nn_a_2 (F:=F) s.1 s.2.1 s.2.2 nb H n nv f0 la lv (by rw [hw]; exact w1) f1 lb lv (by rw [hw]; exact w2) f0 la f1 lb k3 f2 lw w3) rfl
    · rw [decide_eq_false k2] at w2
      rw [show stB n s=false from decide_eq_false (fun h=>k2 (by omega))]
      exact fin true _ (nn_a_3 (F:=F) s.1 s.2.1 s.2.2 nb H n nv f0 la lv (by rw [hw]; exact w1) f1 lb lv (by rw [hw]; exact w2)) rfl
  · rw [decide_eq_false k1] at w1
    rw [show stB n s=false from decide_eq_false (fun h=>k1 (by omega))]
    exact fin true _ (nn_a_4 (F:=F) s.1 s.2.1 s.2.2 nb H n nv f0 la lv (by rw [hw]; exact w1)) rfl
theorem ix_call (h52:F 52=some within52) (h60:F 60=none) (h74:F 74=none) {H:Heap} {nb:Nat} {n:Int} (hb:H[nb]?=some (.arr 1 [.int .i64 n] true 0)) (hm:mxs H ≤ H.length) (hn:1 ≤ n∧n ≤ 16) {l:List St} (hl:l.length ≤ 1000) :
    ∃ r:Int,ClF F 74 [.imm .arg 3 (l.map encT),.func 60 [] [.ptr nb 0 0 1]] H (.int .i64 r) H∧(0 ≤ r ↔ ¬ l.all (stB n)=true):=by
  have go:∀ m,m ≤ l.length → (∀ i,i < m → ¬ stB n (l.getD i (0,0,0))=false) → ∀ i,i < m → RunsTo Tp (plF F) 74 (sub [1,0,1,0,0] B74) ((env74 (.imm .arg 3 (l.map encT)) (.func 60 [] [.ptr nb 0 0 1]) (.int .i64 0) Ud (.int .i64 (l.length:Int)) (.int .i64 (i:Int)))) H .normal ((plF F).keys 74) ((env74 (.imm .arg 3 (l.map encT)) (.func 60 [] [.ptr nb 0 0 1]) (.int .i64 0) (.int .i64 (i:Int)) (.int .i64 (l.length:Int)) (.int .i64 ((i+1:Nat):Int)))) H:=fun m hm' hn' i hi=>by
    have ok:stB n (l.getD i (0,0,0))=true:=by have:=hn' i hi; cases c:stB n (l.getD i (0,0,0)) <;> simp_all
    obtain ⟨N,cN⟩:=CallsTo.from (bad_call h52 h60 hb hm hn (l.getD i (0,0,0)))
    rw [ok] at cN
    have s:=ix_l_1 (F:=F) N (l.map encT) nb H l.length i (l.getD i (0,0,0)).1 (l.getD i (0,0,0)).2.1 (l.getD i (0,0,0)).2.2 (y5:=Ud) (by omega) (gs (by omega)) cN
    rw [wrap_succ (by omega)] at s
    exact s
  have a:=ix_a_0 (F:=F) 0 (l.map encT) nb H
  have b:=ix_b_0 (F:=F) 0 (l.map encT) nb H (y5:=Ud) (y7:=Ud) (y8:=Ud)
  rw [List.length_map] at b
  have hr:Try.f74.results.toList=[.tmp 4]:=by kernel_rfl
  rcases first_at (0,0,0) (fun s=>stB n s=false) l with ⟨m,h1,h2,h3⟩ | hno
  · obtain ⟨N,cN⟩:=CallsTo.from (bad_call h52 h60 hb hm hn (l.getD m (0,0,0)))
    rw [h2] at cN
    have r:=count (pol':=plF F) (f:=74) (E:=fun i=>(env74 (.imm .arg 3 (l.map encT)) (.func 60 [] [.ptr nb 0 0 1]) (.int .i64 0) Ud (.int .i64 (l.length:Int)) (.int .i64 (i:Int)))) (Hs:=fun _=>H) m (go m (by omega) h3) (fun i _=>by kernel_rfl) (fun i _=>gc_eq _ rfl) (ix_l_0 (F:=F) N (l.map encT) nb H l.length m (l.getD m (0,0,0)).1 (l.getD m (0,0,0)).2.1 (l.getD m (0,0,0)).2.2 (y5:=Ud) (by omega) (gs h1) cN) (by simp) (c:=sub [1,0,1,0] B74) (by kernel_rfl) (fun i _=>by kernel_rfl)
    have t:=sq (a) (sqo (sq (b) (RunsTo.block_ret (i:=0) (c:=sub [1,0,1] B74) (r) (by kernel_rfl)) (c:=sub [1,0] B74)) (c:=sub [1] B74) (b:=sub [1,1] B74)) (c:=B74)
    have h:=CallsTo.shared (P:=Tp) (pol:=plF F) (g:=74) (fn:=Try.f74) (cd:=B74) (args:=[.imm .arg 3 (l.map encT),.func 60 [] [.ptr nb 0 0 1]]) (v:=.int .i64 (m:Int)) h74 (by kernel_rfl) (by kernel_rfl) (by kernel_rfl) t (by kernel_rfl) (by simp) (by simp only [resultsV,hr]; rfl)
    rw [gc_eq _ rfl] at h
    refine ⟨_,h,⟨fun _ hall=>?_,fun _=>by omega⟩⟩
    have:=List.all_eq_true.1 hall _ (mem_getD (0,0,0) h1)
    rw [h2] at this; cases this
  · have r:=count (pol':=plF F) (f:=74) (E:=fun i=>(env74 (.imm .arg 3 (l.map encT)) (.func 60 [] [.ptr nb 0 0 1]) (.int .i64 0) Ud (.int .i64 (l.length:Int)) (.int .i64 (i:Int)))) (Hs:=fun _=>H) l.length (go l.length (Nat.le_refl _) fun i hi=>hno _ (mem_getD _ hi)) (fun i _=>by kernel_rfl) (fun i _=>gc_eq _ rfl) (ix_l_2 (F:=F) 0 (l.map encT) nb H l.length l.length 0 0 0 (y5:=Ud) (by omega)) (by simp) (c:=sub [1,0,1,0] B74) (by kernel_rfl) (fun i _=>by kernel_rfl)
    have z:=ix_z_0 (F:=F) 0 (l.map encT) nb H (y5:=Ud) (y7:=.int .i64 (l.length:Int)) (y8:=.int .i64 (l.length:Int))
    have t:=sq (a) (sq (sq (b) (bke (c:=sub [1,0,1] B74) (r)) (c:=sub [1,0] B74)) (z) (c:=sub [1] B74)) (c:=B74)
    have h:=CallsTo.shared (P:=Tp) (pol:=plF F) (g:=74) (fn:=Try.f74) (cd:=B74) (args:=[.imm .arg 3 (l.map encT),.func 60 [] [.ptr nb 0 0 1]]) (v:=.int .i64 (-1)) h74 (by kernel_rfl) (by kernel_rfl) (by kernel_rfl) t (by kernel_rfl) (by simp) (by simp only [resultsV,hr]; rfl)
    rw [gc_eq _ rfl] at h
    refine ⟨_,h,⟨fun h=>by omega,fun hall=>absurd (List.all_eq_true.2 fun s hs=>?_) hall⟩⟩
    have:=hno s hs
    cases c:stB n s <;> simp_all
theorem cf_call (h52:F 52=some within52) (h60:F 60=none) (h61:F 61=none) (h74:F 74=none) {H:Heap} {nb:Nat} {n:Int} (hb:H[nb]?=some (.arr 1 [.int .i64 n] true 0)) (hm:mxs H ≤ H.length) (hn:1 ≤ n∧n ≤ 16) {l:List St} (hl:l.length ≤ 1000) :
    ClF F 61 [.imm .arg 3 (l.map encT),.func 60 [] [.ptr nb 0 0 1]] H (.bool (!l.all (stB n))) H:=by
  obtain ⟨r,hc,hr⟩:=ix_call h52 h60 h74 hb hm hn hl
  obtain ⟨N,cN⟩:=CallsTo.from hc
  have h61r:Try.f61.results.toList=[.tmp 4]:=by kernel_rfl
  by_cases c:0 ≤ r
  · have t:=cf_a_0 (F:=F) N (l.map encT) nb H cN c
    have h:=CallsTo.shared (P:=Tp) (pol:=plF F) (g:=61) (fn:=Try.f61) (cd:=B61) (args:=[.imm .arg 3 (l.map encT),.func 60 [] [.ptr nb 0 0 1]]) (v:=.bool true) h61 (by kernel_rfl) (by kernel_rfl) (by kernel_rfl) t (by kernel_rfl) (by simp) (by simp only [resultsV,h61r]; rfl)
    rw [gc_eq _ rfl] at h
    have:l.all (stB n)=false:=by have:=hr.1 c; cases d:l.all (stB n) <;> simp_all
    rw [this]; exact h
  · have t:=cf_a_1 (F:=F) N (l.map encT) nb H cN c
    have h:=CallsTo.shared (P:=Tp) (pol:=plF F) (g:=61) (fn:=Try.f61) (cd:=B61) (args:=[.imm .arg 3 (l.map encT),.func 60 [] [.ptr nb 0 0 1]]) (v:=.bool false) h61 (by kernel_rfl) (by kernel_rfl) (by kernel_rfl) t (by kernel_rfl) (by simp) (by simp only [resultsV,h61r]; rfl)
    rw [gc_eq _ rfl] at h
    have:l.all (stB n)=true:=by
      cases d:l.all (stB n) with
      | true=>rfl
      | false=>exact absurd (hr.2 (by simp [d])) c
    rw [this]; exact h
structure NwF (F:FuncId → Option (List HV → Option HV)):Prop where
  h39:F 39=none
  h52:F 52=some within52
  h60:F 60=none
  h61:F 61=none
  h74:F 74=none
theorem nw_call (hF:NwF F) {H:Heap} (hm:mxs H ≤ H.length) (n:Int) {l:List St} (hl:l.length ≤ 1000):ClF F 39 [.int .i64 n,.imm .arg 3 (l.map encT)] H (.tuple [encN n l,.bool (netB n l)]) H:=by
  have hr:Try.f39.results.toList=[.cell 4 66,.tmp 5]:=by kernel_rfl
  have g0:∀ (A B:Blk),(H ++ [A] ++ [B])[H.length]?=some A:=fun A B=>by rw [List.append_assoc]; exact get2a H A B
  have g1:∀ (A B:Blk),(H ++ [A] ++ [B])[H.length+1]?=some B:=fun A B=>by rw [List.append_assoc]; exact get2b H A B
  have nv0:some (newV (.int .i64 n) H)=some (.ptr H.length 0 0 1,H ++ [.arr 1 [.int .i64 n] true 0]):=rfl
  have nv1:some (newV (.agg [.int .i64 0,.imm .lit 0 []]) (H ++ [.arr 1 [.int .i64 n] true 0]))=some (.ptr (H.length+1) 0 0 1,H ++ [.arr 1 [.int .i64 n] true 0] ++ [.arr 2 [.agg [.int .i64 0,.imm .lit 0 []]] true 0]):=by
    have:(H ++ [Blk.arr 1 [HV.int .i64 n] true 0]).length=H.length+1:=by simp
    rw [← this]; rfl
  have l0:=ld1 (g0 (.arr 1 [.int .i64 n] true 0) (.arr 2 [.agg [.int .i64 0,.imm .lit 0 []]] true 0))
  have w0:=within_at hF.h52 n 1 16 (H ++ [.arr 1 [.int .i64 n] true 0] ++ [.arr 2 [.agg [.int .i64 0,.imm .lit 0 []]] true 0])
  have st:storeV Tp (H ++ [.arr 1 [.int .i64 n] true 0] ++ [.arr 2 [.agg [.int .i64 0,.imm .lit 0 []]] true 0]) 66 (.ptr (H.length+1) 0 0 1) (encN n l)=some (H ++ [.arr 1 [.int .i64 n] true 0] ++ [bN n l]):=by
    have:=store_agg (P:=Tp) (H:=H ++ [.arr 1 [.int .i64 n] true 0] ++ [.arr 2 [.agg [.int .i64 0,.imm .lit 0 []]] true 0]) (t:=66) (b:=H.length+1) (i:=0) (tot:=1) (k:=2) (mx:=0) (els:=[.agg [.int .i64 0,.imm .lit 0 []]]) (cs:=[.int .i64 0,.imm .lit 0 []]) (new:=[.int .i64 n,.imm .arg 3 (l.map encT)]) (g1 _ _) rfl rfl z66 rfl (by simp) rfl (by simp [bndL,bnd])
    unfold encN
    rw [this]
    congr 1
    rw [List.set_append_right _ _ (by simp)]
    simp only [List.length_append,List.length_singleton,Nat.sub_self]
    rfl
  have hmx:mxs (H ++ [Blk.arr 1 [.int .i64 n] true 0] ++ [Blk.arr 2 [.agg [.int .i64 0,.imm .lit 0 []]] true 0]) ≤ (H ++ [Blk.arr 1 [.int .i64 n] true 0] ++ [Blk.arr 2 [.agg [.int .i64 0,.imm .lit 0 []]] true 0]).length:=by
    rw [mxs_app,mxs_app,List.length_append,List.length_append]; show max (max (mxs H) (max 0 0)) (max 0 0) ≤ _; omega
  have fin:∀ (v:Bool) (E:Env),RunsTo Tp (plF F) 39 (sub [] B39) [(0,.int .i64 n),(1,.imm .arg 3 (l.map encT))] H .ret ((plF F).keys 39) E (H ++ [.arr 1 [.int .i64 n] true 0] ++ [bN n l]) → E.get 4=.ptr (H.length+1) 0 0 1 → E.get 5=.bool v → ClF F 39 [.int .i64 n,.imm .arg 3 (l.map encT)] H (.tuple [encN n l,.bool v]) H:=fun v E t he4 he5=>by
    have ld:loadV Tp (H ++ [.arr 1 [.int .i64 n] true 0] ++ [bN n l]) 66 (.ptr (H.length+1) 0 0 1)=some (encN n l):=load_agg (P:=Tp) (b:=H.length+1) (els:=[encN n l]) (cs:=[.int .i64 n,.imm .arg 3 (l.map encT)]) (g1 _ _) rfl rfl a66 z66
    have h:=CallsTo.shared (P:=Tp) (pol:=plF F) (g:=39) (fn:=Try.f39) (cd:=B39) (args:=[.int .i64 n,.imm .arg 3 (l.map encT)]) (v:=.tuple [encN n l,.bool v]) hF.h39 (by kernel_rfl) (by kernel_rfl) (by kernel_rfl) t (by kernel_rfl) (by simp) (by simp only [resultsV,hr,mapO,resultV,he4,he5,ld])
    rw [List.append_assoc] at h
    rw [gc_back (by rw [mxs_app]; show max (mxs H) (max 0 (max 0 0)) ≤ _; omega) (by simp [bnd,bndL,encN])] at h
    exact h
  by_cases k1:1 ≤ n∧n ≤ 16
  · rw [decide_eq_true k1] at w0
    by_cases k2:l.length ≤ 60
    · have cf:=cf_call hF.h52 hF.h60 hF.h61 hF.h74 (H:=H ++ [.arr 1 [.int .i64 n] true 0] ++ [.arr 2 [.agg [.int .i64 0,.imm .lit 0 []]] true 0]) (g0 _ _) hmx k1 hl
      obtain ⟨N,cN⟩:=CallsTo.from cf
      have e:netB n l=l.all (stB n):=by rw [netB,decide_eq_true ⟨k1,k2⟩,Bool.and_true]
      rw [e]
      cases d:l.all (stB n) with
      | true =>
        rw [d] at cN
        exact fin true _ (nw_a_1 (F:=F) N n (l.map encT) H nv0 nv1 l0 w0 (by rw [List.length_map]; omega) cN l0 st) rfl rfl
      | false =>
        rw [d] at cN
        exact fin false _ (nw_a_0 (F:=F) N n (l.map encT) H nv0 nv1 l0 w0 (by rw [List.length_map]; omega) cN l0 st) rfl rfl
    · rw [show netB n l=false by rw [netB,decide_eq_false (fun h=>k2 h.2),Bool.and_false]]
      exact fin false _ (nw_a_2 (F:=F) 0 n (l.map encT) H nv0 nv1 l0 w0 (by rw [List.length_map]; omega) l0 st) rfl rfl
  · rw [decide_eq_false k1] at w0
    rw [show netB n l=false by rw [netB,decide_eq_false (fun h=>k1 h.1),Bool.and_false]]
    exact fin false _ (nw_a_3 (F:=F) 0 n (l.map encT) H nv0 nv1 l0 w0 l0 st) rfl rfl
end
end Go.Proofs.Ytiejmoglooaalaa
end
section
open Go Go.HL
namespace Go.Proofs.Ytiejmoglooaalaa
open Go.Proofs.Try renaming prog → Tp
open Go.HL.HV renaming undef → Ud
abbrev bB (bs:List Bool):Blk:=.arr 1 (bs.map HV.bool) true 0
theorem ldB {H:Heap} {b:Nat} {bs:List Bool} (hb:H[b]?=some (bB bs)) {i:Nat} (hi:i < bs.length):loadV Tp H 4 (.ptr b i 0 bs.length)=some (.bool (bs.getD i false)) :=
  load_elem (b:=b) hb (by simp) (by rw [List.getElem?_map,List.getElem?_eq_getElem hi]; simp [List.getD,List.getElem?_eq_getElem hi]) rfl a4 i4
theorem stB4 {H:Heap} {b:Nat} {bs:List Bool} (hb:H[b]?=some (bB bs)) {i:Nat} (hi:i < bs.length) (v:Bool):storeV Tp H 4 (.ptr b i 0 bs.length) (.bool v)=some (H.set b (bB (bs.set i v))):=by
  have h1:(bs.map HV.bool)[i]?=some (.bool bs[i]):=by rw [List.getElem?_map,List.getElem?_eq_getElem hi]; rfl
  have:=store_elem (P:=Tp) (t:=4) (b:=b) (tot:=bs.length) (v:=.bool v) hb (by simp) h1 rfl (by intro cs h; cases h) z4 rfl rfl (by simp [bnd])
  rw [this]
  show some (H.set b (.arr 1 ((bs.map HV.bool).set i (.bool v)) true 0))=_
  rw [bB,List.map_set]
def endN (n:Int) (l:List St):Bool:=l.all fun s=>decide ((0 ≤ s.1∧s.1 < n)∧0 ≤ s.2.1∧s.2.1 < n)
theorem endN_iff {n:Int} {l:List St}:endN n l=true ↔ ∀ s ∈ l,(0 ≤ s.1∧s.1 < n)∧0 ≤ s.2.1∧s.2.1 < n:=by simp [endN]
theorem endN_B {n:Int} {l:List St} (h:endN n l=true) (hn:n ≤ 16):endB l=true:=endB_iff.2 fun s hs=>by have:=endN_iff.1 h s hs; omega
theorem endsN {n:Int} {l:List St} (he:endN n l=true) {k:Int} (hk:0 ≤ k∧k < (l.length:Int)):(0 ≤ sA l k∧sA l k < n)∧0 ≤ sB l k∧sB l k < n:=endN_iff.1 he _ (mem_getD _ (by omega))
def grpT (n:Nat) (l:List St) (t:List Int):List Int:=(labT l t).take n
def inT (l:List St) (t:List Int):List Bool:=(List.range l.length).map fun (k:Nat)=>decide ((k:Int) ∈ tkT l t)
def selT (l:List St) (t:List Int):List Int:=(startT l.length).filter fun k=>decide (k ∈ tkT l t)
theorem joinT_take {g:List Int} {n:Nat} {a b:Int} (ha:0 ≤ a∧a < (n:Int)) (hb:0 ≤ b∧b < (n:Int)):(joinT g a b).take n=joinT (g.take n) a b:=by
  have e:∀ c:Int,0 ≤ c∧c < (n:Int) → (g.take n).getD c.toNat 0=g.getD c.toNat 0:=fun c hc=>by
    simp only [List.getD]
    rw [List.getElem?_take_of_lt (by omega)]
  unfold joinT
  rw [e a ha,e b hb,List.map_take]
theorem labT_succ (l:List St) (t:List Int) {i:Nat} (hi:i < t.length):labT l (t.take (i+1))=joinT (labT l (t.take i)) (sA l (t.getD i 0)) (sB l (t.getD i 0)):=by
  rw [labT,ksT_succ l t hi]; rfl
theorem tkT_succ (l:List St) (t:List Int) {i:Nat} (hi:i < t.length):tkT l (t.take (i+1))=if (labT l (t.take i)).getD (sA l (t.getD i 0)).toNat 0 ≠ (labT l (t.take i)).getD (sB l (t.getD i 0)).toNat 0 then tkT l (t.take i) ++ [t.getD i 0] else tkT l (t.take i):=by
  rw [tkT,ksT_succ l t hi]; rfl
theorem take_getD {g:List Int} {n v:Nat} (h:v < n):(g.take n).getD v 0=g.getD v 0:=by
  simp only [List.getD]
  rw [List.getElem?_take_of_lt h]
theorem joinT_eqv {g:List Int} {a b:Int} (h:g.getD a.toNat 0=g.getD b.toNat 0):joinT g a b=g:=by
  unfold joinT
  rw [h]
  conv=>rhs; rw [← List.map_id g]
  refine List.map_congr_left fun x _=>?_
  unfold labS
  split
  · rename_i h; rw [h]; simp
  · rfl
theorem inT_getD {l:List St} {t:List Int} {i:Nat} (hi:i < l.length):(inT l t).getD i false=decide ((i:Int) ∈ tkT l t):=by
  simp [inT,List.getD,hi]
theorem inT_len (l:List St) (t:List Int):(inT l t).length=l.length:=by simp [inT]
theorem inT_set {l:List St} {t t':List Int} {k:Nat} (h:tkT l t'=tkT l t ++ [(k:Int)]):(inT l t).set k true=inT l t':=by
  apply List.ext_getElem
  · simp [inT]
  · intro i h1 h2
    simp only [inT,List.length_set,List.length_map,List.length_range] at h1
    rw [List.getElem_set]
    simp only [inT,List.getElem_map,List.getElem_range,h,List.mem_append,List.mem_singleton]
    split
    · rename_i e; subst e; simp
    · rename_i e
      have:¬ ((i:Int)=(k:Int)):=by omega
      simp [this]
theorem sel_succ (l:List St) (t:List Int) {i:Nat}:((startT (i+1)).filter fun k=>decide (k ∈ tkT l t))=((startT i).filter fun k=>decide (k ∈ tkT l t)) ++ (if (i:Int) ∈ tkT l t then [(i:Int)] else []):=by
  rw [startT_succ,List.filter_append]
  congr 1
  by_cases h:(i:Int) ∈ tkT l t <;> simp [h]
def taken50:List HV → Option HV:=f3 kI kS kL fun n l t=>if (0 ≤ n∧n ≤ 16)∧endN n l=true∧inR l.length t=true∧t.length ≤ 500∧l.length ≤ 500 then some (.tuple [.own 1 ((selT l t).map encI),.own 1 ((grpT n.toNat l t).map encI)]) else none
theorem res50:Try.f50.results.toList=[.tmp 6,.tmp 7]:=by kernel_rfl
theorem res_ll {H:Heap} {b c j k:Nat} {o p:List Int} (hb:H[b]?=some (bI o)) (hk:o.length=k) (hc:H[c]?=some (bI p)) (hj:p.length=j) (hne:b ≠ c):toRes H false (.tuple [.sl b 0 k none k 1,.sl c 0 j none j 1])=some (.tuple [.own 1 (o.map encI),.own 1 (p.map encI)]):=by
  have h1:=resCell_sl (H:=H) (no:=[b,c]) (b:=b) (k:=1) (m:=k) (cap:=none) (els:=o.map encI) hb (by simpa using hk) (mapO_self (fun r=>frz_int 4 r) _)
  have h2:=resCell_sl (H:=H) (no:=[b,c]) (b:=c) (k:=1) (m:=j) (cap:=none) (els:=p.map encI) hc (by simpa using hj) (mapO_self (fun r=>frz_int 4 r) _)
  have ho:ownedAll H false (.tuple [.sl b 0 k none k 1,.sl c 0 j none j 1])=[b,c]:=by simp [ownedAll,cellsOf,owned,hb,hc]
  have hn:[b,c].Nodup:=by simp [hne]
  simp only [toRes,ho,hn,if_true,mapO,resVal,h1,h2]
theorem u99':Tp.underlying 99=some (.slice 4):=by kernel_rfl
theorem idxS {t b len:Nat} {cap:Option Nat} {e:TypeId} (ht:Tp.underlying t=some (.slice e)) (hs:tySize Tp e=some 1) {i:Nat} (h:i < len):idxV Tp t (.sl b 0 len cap len 1) (.int .i64 (i:Int))=some (.ptr b i 0 len):=by
  have:=idx_sl (P:=Tp) (t:=t) (b:=b) (len:=len) (tot:=len) (cap:=cap) (ik:=.i64) (n:=(i:Int)) ht hs (by omega) (by omega)
  rwa [Int.toNat_natCast] at this
def prTk:FuncId → Option (List HV → Option HV):=fun g=>if g == 46 then some start46 else if g == 49 then some join49 else none
theorem soundTk (n:Nat):CallSound Tp (callN Tp (plF prTk) n):=sound_prim _ (fun g f h=>by
  unfold prTk at h
  split at h
  · rename_i hg; cases h; rw [eq_of_beq hg]; exact start_ok
  split at h
  · rename_i hg; cases h; rw [eq_of_beq hg]; exact join_ok
  · cases h) n
theorem startT_take {n m:Nat} (h:n ≤ m):(startT m).take n=startT n:=by
  simp only [startT,← List.map_take,List.take_range,Nat.min_eq_left h]
theorem tk_loop {n:Nat} {l:List St} {t:List Int} (hn:n ≤ 16) (he:endN (n:Int) l=true) (ht:∀ k ∈ t,0 ≤ k∧k < (l.length:Int)) (htl:t.length ≤ 500) :
    ∃ x E' H',RunsTo Tp (plF prTk) 50 (sub [1,1,1,0,1,0] B50) ((env50 (.int .i64 (n:Int)) (.imm .arg 3 (l.map encT)) (.imm .arg 1 (t.map encI)) (.imm .lit 1 []) (.imm .lit 1 []) (.sl 0 0 n none n 1) (.sl 1 0 l.length (some l.length) l.length 1) (.int .i64 ((0:Nat):Int)) Ud Ud Ud)) [bI (startT n),bB (List.replicate l.length false)] x ((plF prTk).keys 50) E' H'∧x=.exit 0 ∧
      ∃ gb,gb ≠ 1∧E'=(env50 (.int .i64 (n:Int)) (.imm .arg 3 (l.map encT)) (.imm .arg 1 (t.map encI)) (.imm .lit 1 []) (.imm .lit 1 []) (.sl gb 0 n none n 1) (.sl 1 0 l.length (some l.length) l.length 1) (.int .i64 (t.length:Int)) Ud Ud Ud)∧H'[gb]?=some (bI (grpT n l t))∧H'[1]?=some (bB (inT l t))∧gb < H'.length∧mxs H'=0:=by
  have heB:=endN_B he (by omega)
  have:=countI (pol':=plF prTk) (f:=50) (b:=sub [1,1,1,0,1,0,0] B50) (c:=sub [1,1,1,0,1,0] B50) (I:=fun i e H=>∃ gb,gb ≠ 1∧e=(env50 (.int .i64 (n:Int)) (.imm .arg 3 (l.map encT)) (.imm .arg 1 (t.map encI)) (.imm .lit 1 []) (.imm .lit 1 []) (.sl gb 0 n none n 1) (.sl 1 0 l.length (some l.length) l.length 1) (.int .i64 (i:Int)) Ud Ud Ud)∧H[gb]?=some (bI (grpT n l (t.take i)))∧H[1]?=some (bB (inT l (t.take i)))∧gb < H.length∧mxs H=0)
    (Q:=fun x E' H'=>x=.exit 0∧∃ gb,gb ≠ 1∧E'=(env50 (.int .i64 (n:Int)) (.imm .arg 3 (l.map encT)) (.imm .arg 1 (t.map encI)) (.imm .lit 1 []) (.imm .lit 1 []) (.sl gb 0 n none n 1) (.sl 1 0 l.length (some l.length) l.length 1) (.int .i64 (t.length:Int)) Ud Ud Ud)∧H'[gb]?=some (bI (grpT n l t))∧H'[1]?=some (bB (inT l t))∧gb < H'.length∧mxs H'=0) t.length
    (by
      rintro i hi e H ⟨gb,g1,rfl,hg,hi1,hgl,hm⟩
      have hk:=ht _ (mem_getD 0 hi)
      obtain ⟨ea,eb⟩:=endsN he hk
      obtain ⟨gk1,gk2⟩:=gk hi (m:=l.length) (fun k hk=>ht k hk)
      have ek:(((t.getD i 0).toNat:Nat):Int)=t.getD i 0:=by omega
      have hU:=ksT_up heB (t:=t.take i) fun k hk=>ht k (List.mem_of_mem_take hk)
      have hgn:(grpT n l (t.take i)).length=n:=by
        show ((labT l (t.take i)).take n).length=n
        rw [List.length_take,show (labT l (t.take i)).length=16 from hU.lg]; omega
      have g2:=gs gk2
      have ht1:H.length ≠ 1 → True:=fun _=>trivial
      have hl1:1 < H.length:=by
        rcases Nat.lt_or_ge 1 H.length with h | h
        · exact h
        · rw [List.getElem?_eq_none h] at hi1; cases hi1
      generalize hs:l.getD (t.getD i 0).toNat (0,0,0)=s at g2
      have sa:sA l (t.getD i 0)=s.1:=by rw [sA,hs]
      have sb:sB l (t.getD i 0)=s.2.1:=by rw [sB,hs]
      rw [sa] at ea
      rw [sb] at eb
      have nv:some (newV (.agg [.int .i64 0,.int .i64 0,.int .i64 0]) H)=some (.ptr H.length 0 0 1,H ++ [.arr 3 [.agg [.int .i64 0,.int .i64 0,.int .i64 0]] true 0]):=rfl
      have st:storeV Tp (H ++ [.arr 3 [.agg [.int .i64 0,.int .i64 0,.int .i64 0]] true 0]) 42 (.ptr H.length 0 0 1) (encT s)=some (H ++ [bT s]):=by
        have:=store_agg (P:=Tp) (H:=H ++ [.arr 3 [.agg [.int .i64 0,.int .i64 0,.int .i64 0]] true 0]) (t:=42) (b:=H.length) (i:=0) (tot:=1) (k:=3) (mx:=0) (els:=[.agg [.int .i64 0,.int .i64 0,.int .i64 0]]) (cs:=[.int .i64 0,.int .i64 0,.int .i64 0]) (new:=[.int .i64 s.1,.int .i64 s.2.1,.int .i64 s.2.2]) (by rw [List.getElem?_append_right (Nat.le_refl _),Nat.sub_self]; rfl) rfl rfl z42 rfl (by simp) rfl (by simp [bndL,bnd])
        unfold encT
        rw [this]
        refine congrArg some ?_
        rw [List.set_append_right _ _ (Nat.le_refl _),Nat.sub_self]
        rfl
      have hx:(H ++ [bT s])[H.length]?=some (bT s):=by rw [List.getElem?_append_right (Nat.le_refl _),Nat.sub_self]; rfl
      have f0:fldAddrV Tp 42 (.ptr H.length 0 0 1) 0=some (.ptr H.length 0 0 1):=by kernel_rfl
      have f1:fldAddrV Tp 42 (.ptr H.length 0 0 1) 1=some (.ptr H.length 0 1 1):=by kernel_rfl
      have la:=ldT hx 0 s.1 rfl
      have lb:=ldT hx 1 s.2.1 rfl
      have hgL:(H ++ [bT s])[gb]?=some (bI (grpT n l (t.take i))):=get_l hg
      have ixa:idxV Tp 24 (.sl gb 0 n none n 1) (.int .i64 s.1)=some (.ptr gb s.1.toNat 0 n):=by
        have:=idxS (b:=gb) (cap:=none) u24 z3 (i:=s.1.toNat) (len:=n) (by omega)
        rwa [show ((s.1.toNat:Nat):Int)=s.1 by omega] at this
      have ixb:idxV Tp 24 (.sl gb 0 n none n 1) (.int .i64 s.2.1)=some (.ptr gb s.2.1.toNat 0 n):=by
        have:=idxS (b:=gb) (cap:=none) u24 z3 (i:=s.2.1.toNat) (len:=n) (by omega)
        rwa [show ((s.2.1.toNat:Nat):Int)=s.2.1 by omega] at this
      have lx:=load_out hgL (y:=s.1.toNat) (by omega)
      have ly:=load_out hgL (y:=s.2.1.toNat) (by omega)
      rw [hgn] at lx ly
      have hlt:(i:Int) < ((t.map encI).length:Int):=by rw [List.length_map]; omega
      have lsucc:=labT_succ l t hi
      have tsucc:=tkT_succ l t hi
      rw [sa,sb] at lsucc tsucc
      have tg1:(grpT n l (t.take i)).getD s.1.toNat 0=(labT l (t.take i)).getD s.1.toNat 0:=take_getD (by omega)
      have tg2:(grpT n l (t.take i)).getD s.2.1.toNat 0=(labT l (t.take i)).getD s.2.1.toNat 0:=take_getD (by omega)
      have gsucc:grpT n l (t.take (i+1))=joinT (grpT n l (t.take i)) s.1 s.2.1:=by
        rw [grpT,lsucc,joinT_take ea eb]; rfl
      by_cases c:(grpT n l (t.take i)).getD s.1.toNat 0=(grpT n l (t.take i)).getD s.2.1.toNat 0
      · have s1:=tk_l_0 (F:=prTk) n (l.map encT) (t.map encI) H gb 1 0 l.length i (t.getD i 0).toNat 0 s.1 s.2.1 s.2.2 ((grpT n l (t.take i)).getD s.1.toNat 0) ((grpT n l (t.take i)).getD s.2.1.toNat 0) (y11:=Ud) (y12:=Ud) (y13:=Ud) hlt gk1 g2 nv st f0 la ixa lx f1 lb ixb ly c
        rw [wrap_succ (by omega)] at s1
        have e1:grpT n l (t.take (i+1))=grpT n l (t.take i):=by rw [gsucc,joinT_eqv c]
        have e2:tkT l (t.take (i+1))=tkT l (t.take i):=by rw [tsucc,if_neg (by rw [← tg1,← tg2]; exact fun h=>h c)]
        have e3:inT l (t.take (i+1))=inT l (t.take i):=by simp only [inT,e2]
        refine ⟨_,_,s1,gb,g1,by kernel_rfl,?_,?_,?_,mxs_gc (by rw [mxs_app,hm]; rfl)⟩
        · rw [gc_low hgl,hgL,e1]
        · rw [gc_low hl1,get_l hi1,e3]
        · unfold gc; rw [List.length_take]; simp; omega
      · have cj:=at3 (pol':=plF prTk) (g:=49) (c1:=kL) (c2:=kI) (c3:=kI) (f:=fun g a b=>if (0 ≤ a∧a < (g.length:Int))∧(0 ≤ b∧b < (g.length:Int))∧g.length ≤ 900 then some (.own 1 ((joinT g a b).map encI)) else none) (H:=H ++ [bT s]) (by kernel_rfl) (ShL_sl hgn hgL) (ShI _ s.1) (ShI _ s.2.1) (if_pos ⟨by rw [hgn]; exact ea,by rw [hgn]; exact eb,by omega⟩)
        rw [recv_ints,joinT_len,hgn,← gsucc] at cj
        have hin:(H ++ [bT s] ++ [bI (grpT n l (t.take (i+1)))])[1]?=some (bB (inT l (t.take i))):=get_l (get_l hi1)
        have sin:=stB4 hin (i:=(t.getD i 0).toNat) (by rw [inT_len]; exact gk2) true
        have hti:tkT l (t.take (i+1))=tkT l (t.take i) ++ [(((t.getD i 0).toNat:Nat):Int)]:=by rw [tsucc,if_pos (by rw [← tg1,← tg2]; exact c),ek]
        rw [inT_len,inT_set hti] at sin
        have ixi:=idxS (t:=99) (b:=1) (cap:=some l.length) u99' z4 (i:=(t.getD i 0).toNat) (len:=l.length) gk2
        have s1:=tk_l_1 (F:=prTk) n (l.map encT) (t.map encI) H gb 1 (H ++ [bT s]).length l.length i (t.getD i 0).toNat 0 s.1 s.2.1 s.2.2 ((grpT n l (t.take i)).getD s.1.toNat 0) ((grpT n l (t.take i)).getD s.2.1.toNat 0) (y11:=Ud) (y12:=Ud) (y13:=Ud) hlt gk1 g2 nv st f0 la ixa lx f1 lb ixb ly c f0 la f1 lb cj gk1 ixi sin
        rw [wrap_succ (by omega)] at s1
        have hlen:(H ++ [bT s]).length=H.length+1:=by simp
        rw [hlen] at s1
        have hbn:lrestr (plF prTk) 50 (sub [1,1,1,0,1,0,0] B50) ((env50 (.int .i64 (n:Int)) (.imm .arg 3 (l.map encT)) (.imm .arg 1 (t.map encI)) (.imm .lit 1 []) (.imm .lit 1 []) (.sl (H.length+1) 0 n none n 1) (.sl 1 0 l.length (some l.length) l.length 1) (.int .i64 ((i+1:Nat):Int)) (.ptr H.length 0 0 1) Ud Ud))=(env50 (.int .i64 (n:Int)) (.imm .arg 3 (l.map encT)) (.imm .arg 1 (t.map encI)) (.imm .lit 1 []) (.imm .lit 1 []) (.sl (H.length+1) 0 n none n 1) (.sl 1 0 l.length (some l.length) l.length 1) (.int .i64 ((i+1:Nat):Int)) Ud Ud Ud):=by kernel_rfl
        have hbd:H.length+2 ≤ bndE ((env50 (.int .i64 (n:Int)) (.imm .arg 3 (l.map encT)) (.imm .arg 1 (t.map encI)) (.imm .lit 1 []) (.imm .lit 1 []) (.sl (H.length+1) 0 n none n 1) (.sl 1 0 l.length (some l.length) l.length 1) (.int .i64 ((i+1:Nat):Int)) Ud Ud Ud)):=by simp only [bndE,bnd,bndL]; omega
        refine ⟨_,_,s1,H.length+1,by omega,hbn,?_,?_,?_,mxs_gc (mxs_set0 (by rw [mxs_app,mxs_app,hm]; rfl) rfl)⟩
        · rw [gc_get (by rw [hbn]; omega),List.getElem?_set_ne (by omega),← hlen,List.getElem?_append_right (Nat.le_refl _),Nat.sub_self]
          rfl
        · rw [gc_low hl1,List.getElem?_set_self (by simp)]
        · rw [hbn]
          revert hbd
          generalize bndE _=r
          intro hbd
          unfold gc; rw [List.length_take]; simp; omega)
    (by
      rintro e H ⟨gb,g1,rfl,hg,hi1,hgl,hm⟩
      rw [List.take_length] at hg hi1
      exact ⟨_,_,_,tk_l_2 (F:=prTk) n (l.map encT) (t.map encI) H gb 1 0 l.length t.length 0 0 0 0 0 0 0 (y11:=Ud) (y12:=Ud) (y13:=Ud) (by rw [List.length_map]; omega),by simp,rfl,gb,g1,rfl,hg,hi1,hgl,hm⟩)
    (by kernel_rfl) (by rintro i e H ⟨gb,_,rfl,_⟩; kernel_rfl) (e:=(env50 (.int .i64 (n:Int)) (.imm .arg 3 (l.map encT)) (.imm .arg 1 (t.map encI)) (.imm .lit 1 []) (.imm .lit 1 []) (.sl 0 0 n none n 1) (.sl 1 0 l.length (some l.length) l.length 1) (.int .i64 ((0:Nat):Int)) Ud Ud Ud)) (H:=[bI (startT n),bB (List.replicate l.length false)])
    ⟨0,by omega,rfl,by
      have:grpT n l (t.take 0)=startT n:=by rw [List.take_zero]; exact startT_take hn
      rw [this]; rfl,by
      have:inT l (t.take 0)=List.replicate l.length false:=by
        apply List.ext_getElem
        · simp [inT]
        · intro i h1 h2; simp [inT,tkT,ksT]
      rw [this]; rfl,by simp,rfl⟩
  exact this
theorem taken_ok:PrimOk Tp 50 taken50:=by
  refine primOk_pure (pol:=plF prTk) (fn:=Try.f50) (cd:=B50) follows_mixed soundTk (by kernel_rfl) (by kernel_rfl) (fnok prTk _ _ (by kernel_rfl)) (by kernel_rfl) ?_
  intro args res h
  obtain ⟨n,l,t,rfl,hq⟩:=f3_inv h
  split at hq
  case isFalse=>cases hq
  rename_i hc
  obtain ⟨⟨n0,n1⟩,he,hr,htl,hll⟩:=hc
  cases hq
  obtain ⟨n,rfl⟩:∃ m:Nat,n=(m:Int):=⟨n.toNat,by omega⟩
  rw [Int.toNat_natCast]
  have ht:=inR_iff.1 hr
  have a:=tk_a_0 (F:=prTk) n (l.map encT) (t.map encI) []
  have c46:=at1 (pol':=plF prTk) (g:=46) (c1:=kI) (f:=fun n=>if n ≤ 900 then some (.own 1 ((startT n.toNat).map encI)) else none) (H:=[]) (by kernel_rfl) (ShI _ (n:Int)) (if_pos (by omega))
  rw [recv_ints,startT_len,Int.toNat_natCast] at c46
  have b:=tk_b_0 (F:=prTk) n (l.map encT) (t.map encI) [] 0 (y8:=Ud) (y9:=Ud) (y10:=Ud) (y11:=Ud) (y12:=Ud) (y13:=Ud) c46
  have mk:=makeV_ok (P:=Tp) (H:=[bI (startT n)]) (t:=99) (e:=4) (k:=1) (bt:=1) (zv:=.bool false) (n:=(l.length:Int)) u99' (by kernel_rfl) rfl rfl (by omega) (by omega) (by simp only [roomMax]; omega)
  rw [Int.toNat_natCast] at mk
  have erep:List.replicate l.length (HV.bool false)=(List.replicate l.length false).map HV.bool:=by simp
  rw [erep] at mk
  have c:=tk_c_0 (F:=prTk) n (l.map encT) (t.map encI) [bI (startT n)] 0 1 l.length (y9:=Ud) (y10:=Ud) (y11:=Ud) (y12:=Ud) (y13:=Ud) (by rw [List.length_map]; exact mk)
  have d:=tk_d_0 (F:=prTk) n (l.map encT) (t.map encI) [bI (startT n),bB (List.replicate l.length false)] 0 1 l.length (y10:=Ud) (y11:=Ud) (y12:=Ud) (y13:=Ud)
  obtain ⟨x,E',H',r,rfl,gb,g1,rfl,hg,hi1,hgl,hm⟩:=tk_loop (by omega) he ht htl
  have e:=tk_e_0 (F:=prTk) n (l.map encT) (t.map encI) H' gb 1 l.length H'.length (y10:=.int .i64 (t.length:Int)) (y11:=Ud) (y12:=Ud) (y13:=Ud) rfl
  have f:=tk_f_0 (F:=prTk) n (l.map encT) (t.map encI) (H' ++ [bI []]) gb 1 l.length H'.length 0 (y10:=.int .i64 (t.length:Int)) (y11:=Ud) (y13:=Ud)
  have hl1:1 < H'.length:=by
    rcases Nat.lt_or_ge 1 H'.length with h | h
    · exact h
    · rw [List.getElem?_eq_none h] at hi1; cases hi1
  have hset:∀ (A B:Blk),(H' ++ [A]).set H'.length B=H' ++ [B]:=fun A B=>by rw [List.set_append_right _ _ (Nat.le_refl _),Nat.sub_self]; rfl
  have hget:∀ (A:Blk),(H' ++ [A])[H'.length]?=some A:=fun A=>by rw [List.getElem?_append_right (Nat.le_refl _),Nat.sub_self]; rfl
  have fl:∀ i,(((startT i).filter fun k=>decide (k ∈ tkT l t))).length ≤ i:=fun i=>by have:=List.length_filter_le (fun k=>decide (k ∈ tkT l t)) (startT i); rwa [startT_len] at this
  have r2:=count (pol':=plF prTk) (f:=50) (E:=fun i=>(env50 (.int .i64 (n:Int)) (.imm .arg 3 (l.map encT)) (.imm .arg 1 (t.map encI)) (.imm .lit 1 []) (.imm .lit 1 []) (.sl gb 0 n none n 1) (.sl 1 0 l.length (some l.length) l.length 1) Ud Ud (.sl H'.length 0 ((startT i).filter fun k=>decide (k ∈ tkT l t)).length none ((startT i).filter fun k=>decide (k ∈ tkT l t)).length 1) (.int .i64 (i:Int)))) (Hs:=fun i=>H' ++ [bI ((startT i).filter fun k=>decide (k ∈ tkT l t))]) l.length
    (E0:=fun i=>(env50 (.int .i64 (n:Int)) (.imm .arg 3 (l.map encT)) (.imm .arg 1 (t.map encI)) (.imm .lit 1 []) (.imm .lit 1 []) (.sl gb 0 n none n 1) (.sl 1 0 l.length (some l.length) l.length 1) Ud Ud (.sl H'.length 0 ((startT (i+1)).filter fun k=>decide (k ∈ tkT l t)).length none ((startT (i+1)).filter fun k=>decide (k ∈ tkT l t)).length 1) (.int .i64 ((i+1:Nat):Int)))) (H1:=fun i=>H' ++ [bI ((startT (i+1)).filter fun k=>decide (k ∈ tkT l t))])
    (fun i hi=>by
      have ix:=idxS (t:=99) (b:=1) (cap:=some l.length) u99' z4 (i:=i) (len:=l.length) hi
      have ld:=ldB (get_l (X:=[bI ((startT i).filter fun k=>decide (k ∈ tkT l t))]) hi1) (i:=i) (by rw [inT_len]; exact hi)
      rw [inT_len,inT_getD hi] at ld
      have hf:=fl i
      by_cases cc:(i:Int) ∈ tkT l t
      · rw [decide_eq_true cc] at ld
        have ap:=app_in1 (H:=H' ++ [bI ((startT i).filter fun k=>decide (k ∈ tkT l t))]) (b:=H'.length) (o:=(startT i).filter fun k=>decide (k ∈ tkT l t)) (hget _) (by omega) (i:Int)
        have es:=sel_succ l t (i:=i)
        rw [if_pos cc] at es
        rw [hset,← es] at ap
        have s:=tk_o_0 (F:=prTk) n (l.map encT) (t.map encI) (H' ++ [bI ((startT i).filter fun k=>decide (k ∈ tkT l t))]) gb 1 l.length H'.length ((startT i).filter fun k=>decide (k ∈ tkT l t)).length i true (y10:=Ud) (y11:=Ud) (by rw [List.length_map]; omega) ix ld ap
        have el:((startT (i+1)).filter fun k=>decide (k ∈ tkT l t)).length=((startT i).filter fun k=>decide (k ∈ tkT l t)).length+1:=by rw [es]; simp
        rw [wrap_succ (by omega),← el] at s
        exact s
      · rw [decide_eq_false cc] at ld
        have es:=sel_succ l t (i:=i)
        rw [if_neg cc,List.append_nil] at es
        have s:=tk_o_1 (F:=prTk) n (l.map encT) (t.map encI) (H' ++ [bI ((startT i).filter fun k=>decide (k ∈ tkT l t))]) gb 1 l.length H'.length ((startT i).filter fun k=>decide (k ∈ tkT l t)).length i true (y10:=Ud) (y11:=Ud) (by rw [List.length_map]; omega) ix ld
        rw [wrap_succ (by omega)] at s
        rw [es]
        exact s) (fun i _=>by kernel_rfl) (fun i _=>gc_eq _ (by simp)) (tk_o_2 (F:=prTk) n (l.map encT) (t.map encI) (H' ++ [bI ((startT l.length).filter fun k=>decide (k ∈ tkT l t))]) gb 1 l.length H'.length ((startT l.length).filter fun k=>decide (k ∈ tkT l t)).length l.length true (y10:=Ud) (y11:=Ud) (by rw [List.length_map]; omega)) (by simp) (c:=sub [1,1,1,1,1,0,1,0] B50) (by kernel_rfl) (fun i _=>by kernel_rfl)
  have z:=tk_z_0 (F:=prTk) n (l.map encT) (t.map encI) (H' ++ [bI (selT l t)]) gb 1 l.length H'.length (selT l t).length (y10:=Ud) (y11:=Ud) (y13:=.int .i64 (l.length:Int))
  have hgn:(grpT n l t).length=n:=by
    have hU:=ksT_up (endN_B he (by omega)) (t:=t) ht
    show ((labT l t).take n).length=n
    rw [List.length_take,show (labT l t).length=16 from hU.lg]; omega
  refine ⟨_,_,_,.tuple [.sl H'.length 0 (selT l t).length none (selT l t).length 1,.sl gb 0 n none n 1],sq (a) (sq (b) (sq (c) (sq (sq (d) (bke (c:=sub [1,1,1,0,1] B50) (r)) (c:=sub [1,1,1,0] B50)) (sq (e) (sq (sq (f) (bke (c:=sub [1,1,1,1,1,0,1] B50) (lpi (e0:=(env50 (.int .i64 (n:Int)) (.imm .arg 3 (l.map encT)) (.imm .arg 1 (t.map encI)) (.imm .lit 1 []) (.imm .lit 1 []) (.sl gb 0 n none n 1) (.sl 1 0 l.length (some l.length) l.length 1) (.int .i64 (t.length:Int)) Ud (.sl H'.length 0 0 none 0 1) (.int .i64 0))) r2 (b:=sub [1,1,1,1,1,0,1,0,0] B50))) (c:=sub [1,1,1,1,1,0] B50)) (z) (c:=sub [1,1,1,1,1] B50)) (c:=sub [1,1,1,1] B50)) (c:=sub [1,1,1] B50)) (c:=sub [1,1] B50)) (c:=sub [1] B50)) (c:=B50),by simp,by simp only [resultsV,res50]; rfl,?_⟩
  exact res_ll (hget _) rfl (get_l hg) hgn (by omega)
end Go.Proofs.Ytiejmoglooaalaa
end
section
open Go Go.HL
namespace Go.Proofs.Ytiejmoglooaalaa
open Go.Proofs.Try renaming prog → Tp
open Go.HL.HV renaming undef → Ud
def fN (p:Nat → Bool):Nat → Nat → Option Nat
  | 0,_=>none
  | k+1,i=>if p i then some i else fN p k (i+1)
theorem fN_some {p:Nat → Bool}:∀ {k i m:Nat},fN p k i=some m → i ≤ m∧m < i+k∧p m=true∧∀ j,i ≤ j → j < m → p j=false
  | 0,i,m,h=>by cases h
  | k+1,i,m,h=>by
    rw [fN] at h
    split at h
    · rename_i hp
      cases h
      exact ⟨Nat.le_refl _,by omega,hp,fun j h1 h2=>by omega⟩
    · rename_i hp
      obtain ⟨h1,h2,h3,h4⟩:=fN_some h
      refine ⟨by omega,by omega,h3,fun j g1 g2=>?_⟩
      by_cases e:j=i
      · subst e; cases c:p j <;> simp_all
      · exact h4 j (by omega) g2
theorem fN_none {p:Nat → Bool}:∀ {k i:Nat},fN p k i=none → ∀ j,i ≤ j → j < i+k → p j=false
  | 0,i,_,j,h1,h2=>by omega
  | k+1,i,h,j,h1,h2=>by
    rw [fN] at h
    split at h
    · cases h
    · rename_i hp
      by_cases e:j=i
      · subst e; cases c:p j <;> simp_all
      · exact fN_none h j (by omega) (by omega)
theorem netB_ends {n:Int} {l:List St} (h:netB n l=true):(1 ≤ n∧n ≤ 16)∧l.length ≤ 60∧endN n l=true∧(∀ s ∈ l,0 ≤ s.2.2∧s.2.2 ≤ 1000):=by
  simp only [netB,Bool.and_eq_true,List.all_eq_true,decide_eq_true_eq,stB] at h
  obtain ⟨h1,h2,h3⟩:=h
  refine ⟨h2,h3,endN_iff.2 fun s hs=>?_,fun s hs=>?_⟩
  · have:=h1 s hs; omega
  · have:=h1 s hs; omega
theorem stN {n:Int} {l:List St}:storeV Tp [.arr 2 [.agg [.int .i64 0,.imm .lit 0 []]] true 0] 66 (.ptr 0 0 0 1) (encN n l)=some [bN n l]:=by
  have:=store_agg (P:=Tp) (H:=[.arr 2 [.agg [.int .i64 0,.imm .lit 0 []]] true 0]) (t:=66) (b:=0) (i:=0) (tot:=1) (k:=2) (mx:=0) (els:=[.agg [.int .i64 0,.imm .lit 0 []]]) (cs:=[.int .i64 0,.imm .lit 0 []]) (new:=[.int .i64 n,.imm .arg 3 (l.map encT)]) rfl rfl rfl z66 rfl (by simp) rfl (by simp [bndL,bnd])
  unfold encN
  rw [this]
  rfl
theorem ld66 {H:Heap} {b:Nat} {n:Int} {l:List St} (hb:H[b]?=some (bN n l)):loadV Tp H 66 (.ptr b 0 0 1)=some (encN n l):=load_agg (P:=Tp) (b:=b) (els:=[encN n l]) (cs:=[.int .i64 n,.imm .arg 3 (l.map encT)]) hb rfl rfl a66 z66
end Go.Proofs.Ytiejmoglooaalaa
end
section
open Go Go.HL
namespace Go.Proofs.Ytiejmoglooaalaa
open Go.Proofs.Try renaming prog → Tp
open Go.HL.HV renaming undef → Ud
theorem box_nv (H:Heap):some (newV (.agg [.int .i64 0,.int .i64 0,.int .i64 0]) H)=some (.ptr H.length 0 0 1,H ++ [.arr 3 [.agg [.int .i64 0,.int .i64 0,.int .i64 0]] true 0]):=rfl
theorem box_st (H:Heap) (s:St):storeV Tp (H ++ [.arr 3 [.agg [.int .i64 0,.int .i64 0,.int .i64 0]] true 0]) 42 (.ptr H.length 0 0 1) (encT s)=some (H ++ [bT s]):=by
  have:=store_agg (P:=Tp) (H:=H ++ [.arr 3 [.agg [.int .i64 0,.int .i64 0,.int .i64 0]] true 0]) (t:=42) (b:=H.length) (i:=0) (tot:=1) (k:=3) (mx:=0) (els:=[.agg [.int .i64 0,.int .i64 0,.int .i64 0]]) (cs:=[.int .i64 0,.int .i64 0,.int .i64 0]) (new:=[.int .i64 s.1,.int .i64 s.2.1,.int .i64 s.2.2]) (by rw [List.getElem?_append_right (Nat.le_refl _),Nat.sub_self]; rfl) rfl rfl z42 rfl (by simp) rfl (by simp [bndL,bnd])
  unfold encT
  rw [this]
  refine congrArg some ?_
  rw [List.set_append_right _ _ (Nat.le_refl _),Nat.sub_self]
  rfl
theorem get_x (H:Heap) (B:Blk):(H ++ [B])[H.length]?=some B:=by rw [List.getElem?_append_right (Nat.le_refl _),Nat.sub_self]; rfl
theorem fld0 (b:Nat):fldAddrV Tp 42 (.ptr b 0 0 1) 0=some (.ptr b 0 0 1):=by kernel_rfl
theorem fld1 (b:Nat):fldAddrV Tp 42 (.ptr b 0 0 1) 1=some (.ptr b 0 1 1):=by kernel_rfl
theorem fld2 (b:Nat):fldAddrV Tp 42 (.ptr b 0 0 1) 2=some (.ptr b 0 2 1):=by kernel_rfl
theorem grpT_len {n:Nat} {l:List St} {t:List Int} (hn:n ≤ 16) (he:endB l=true) (ht:∀ k ∈ t,0 ≤ k∧k < (l.length:Int)):(grpT n l t).length=n:=by
  have hU:=ksT_up he (t:=t) ht
  show ((labT l t).take n).length=n
  rw [List.length_take,show (labT l t).length=16 from hU.lg]; omega
theorem idxU {b n:Nat} {v:Int} (h:0 ≤ v∧v < (n:Int)) {cap:Option Nat}:idxV Tp 24 (.sl b 0 n cap n 1) (.int .i64 v)=some (.ptr b v.toNat 0 n):=by
  have:=idxS (b:=b) (cap:=cap) u24 z3 (i:=v.toNat) (len:=n) (by omega)
  rwa [show ((v.toNat:Nat):Int)=v by omega] at this
end Go.Proofs.Ytiejmoglooaalaa
end
section
open Go Go.HL
namespace Go.Proofs.Ytiejmoglooaalaa
open Go.Proofs.Try renaming prog → Tp
open Go.HL.HV renaming undef → Ud
theorem recv_ll (a b:List Int) (H:Heap):recv (.tuple [.own 1 (a.map encI),.own 1 (b.map encI)]) H=(.tuple [.sl H.length 0 a.length none a.length 1,.sl (H.length+1) 0 b.length none b.length 1],H ++ [bI a] ++ [bI b]):=by
  have h:∀ (l:List Int) (H:Heap),recvCell (.own 1 (l.map encI)) H=(.sl H.length 0 l.length none l.length 1,H ++ [bI l]):=fun l H=>by
    simp only [recvCell,encI_any,List.length_map]; rfl
  simp only [recv,recvVals,recvVal,h,List.length_append,List.length_cons,List.length_nil]
def frT (l:List St):List Int:=selT l (ordT l)
def frOk (n:Int) (l:List St):Bool:=decide (((frT l).length:Int)=n - 1)
def first20:List HV → Option HV:=f2 kI kS fun n l=>if (0 ≤ n∧n ≤ 16)∧endN n l=true∧l.length ≤ 500 then some (.tuple [.own 1 ((frT l).map encI),.bool (frOk n l)]) else none
theorem res20:Try.f20.results.toList=[.tmp 4,.tmp 5]:=by kernel_rfl
def prFi:FuncId → Option (List HV → Option HV):=fun g=>if g == 47 then some rorder47 else if g == 50 then some taken50 else none
theorem soundFi (n:Nat):CallSound Tp (callN Tp (plF prFi) n):=sound_prim _ (fun g f h=>by
  unfold prFi at h
  split at h
  · rename_i hg; cases h; rw [eq_of_beq hg]; exact rorder_ok
  split at h
  · rename_i hg; cases h; rw [eq_of_beq hg]; exact taken_ok
  · cases h) n
theorem frT_le (l:List St):(frT l).length ≤ l.length:=by
  have:=List.length_filter_le (fun k=>decide (k ∈ tkT l (ordT l))) (startT l.length)
  rwa [startT_len] at this
theorem ord_in (l:List St):inR l.length (ordT l)=true:=inR_iff.2 fun _ hk=>ordT_mem.1 hk
theorem first_ok:PrimOk Tp 20 first20:=by
  refine primOk_pure (pol:=plF prFi) (fn:=Try.f20) (cd:=B20) follows_mixed soundFi (by kernel_rfl) (by kernel_rfl) (fnok prFi _ _ (by kernel_rfl)) (by kernel_rfl) ?_
  intro args res h
  obtain ⟨n,l,rfl,hq⟩:=f2_inv h
  split at hq
  case isFalse=>cases hq
  rename_i hc
  obtain ⟨⟨n0,n1⟩,he,hll⟩:=hc
  cases hq
  have c47:=at1 (pol':=plF prFi) (g:=47) (c1:=kS) (f:=fun l=>if l.length ≤ 500 then some (.own 1 ((ordT l).map encI)) else none) (H:=[]) (by kernel_rfl) (ShS_imm _ l) (if_pos (by omega))
  rw [recv_ints,ordT_len] at c47
  have c50:=at3 (pol':=plF prFi) (g:=50) (c1:=kI) (c2:=kS) (c3:=kL) (f:=fun n l t=>if (0 ≤ n∧n ≤ 16)∧endN n l=true∧inR l.length t=true∧t.length ≤ 500∧l.length ≤ 500 then some (.tuple [.own 1 ((selT l t).map encI),.own 1 ((grpT n.toNat l t).map encI)]) else none) (H:=[bI (ordT l)]) (by kernel_rfl) (ShI _ n) (ShS_imm _ l) (ShL_sl (b:=0) (m:=l.length) (ordT_len l) rfl) (if_pos ⟨⟨n0,n1⟩,he,ord_in l,by rw [ordT_len]; omega,hll⟩)
  rw [recv_ll] at c50
  have hle:=frT_le l
  by_cases c:((selT l (ordT l)).length:Int)=IntKind.i64.wrap (n - 1)
  · have a:=fi_a_0 (F:=prFi) n (l.map encT) [] 0 l.length _ _ _ _ c47 c50 c
    refine ⟨_,_,_,.tuple [.sl 1 0 (selT l (ordT l)).length none (selT l (ordT l)).length 1,.bool true],a,by simp,by simp only [resultsV,res20]; rfl,?_⟩
    rw [frOk,decide_eq_true (show ((frT l).length:Int)=n - 1 by rw [wrap_id (by omega) (by omega)] at c; exact c)]
    exact res_lb (b:=1) (o:=frT l) rfl rfl true
  · have a:=fi_a_1 (F:=prFi) n (l.map encT) [] 0 l.length _ _ _ _ c47 c50 c
    refine ⟨_,_,_,.tuple [.sl 1 0 (selT l (ordT l)).length none (selT l (ordT l)).length 1,.bool false],a,by simp,by simp only [resultsV,res20]; rfl,?_⟩
    rw [frOk,decide_eq_false (show ¬ (((frT l).length:Int)=n - 1) by rw [wrap_id (by omega) (by omega)] at c; exact c)]
    exact res_lb (b:=1) (o:=frT l) rfl rfl false
end Go.Proofs.Ytiejmoglooaalaa
end
section
open Go Go.HL
namespace Go.Proofs.Ytiejmoglooaalaa
open Go.Proofs.Try renaming prog → Tp
open Go.HL.HV renaming undef → Ud
theorem take_snoc {g:List Int} {i:Nat} (h:i < g.length):g.take (i+1)=g.take i ++ [g.getD i 0]:=by
  rw [List.take_add_one,List.getElem?_eq_getElem h,getD_at h]; rfl
def mnS (g:List Int) (b:Int) (s:St):Int:=if g.getD s.1.toNat 0 ≠ g.getD s.2.1.toNat 0∧(b < 0 ∨ s.2.2 < b) then s.2.2 else b
def mnT (g:List Int) (l:List St):Int:=l.foldl (mnS g) (-1)
theorem mnT_succ (g:List Int) (l:List St) {i:Nat} (h:i < l.length):mnT g (l.take (i+1))=mnS g (mnT g (l.take i)) (l.getD i (0,0,0)):=by
  rw [mnT,List.take_add_one,List.getElem?_eq_getElem h,getD_at h,List.foldl_append]; rfl
def gpT (n:Int) (l:List St) (kk:Int):List Int:=grpT n.toNat l ((treeT l).take (n - kk).toNat)
def gpE (n:Int) (l:List St) (kk:Int):Int:=if netB n l=true∧1 ≤ kk∧kk ≤ n then (if connB n l=true then 0 else 6) else 2
def gpG (n:Int) (l:List St) (kk:Int):List Int:=if gpE n l kk=0 then gpT n l kk else []
def gpM (n:Int) (l:List St) (kk:Int):Int:=if gpE n l kk=0 then mnT (gpT n l kk) l else 0
def gpO (n:Int) (l:List St) (kk:Int):HV:=.tuple [.own 1 ((gpG n l kk).map encI),.int .i64 (gpM n l kk),.int .i64 (gpE n l kk)]
def groups33:List HV → Option HV:=f3 kI kS kI fun n l kk=>if l.length ≤ 500 then some (gpO n l kk) else none
theorem res33:Try.f33.results.toList=[.tmp 6,.tmp 7,.tmp 8]:=by kernel_rfl
def prGr:FuncId → Option (List HV → Option HV):=fun g=>if g == 52 then some within52 else if g == 40 then some tree40 else none
theorem soundGr (n:Nat):CallSound Tp (callN Tp (plF prGr) n):=sound_prim _ (fun g f h=>by
  unfold prGr at h
  split at h
  · rename_i hg; cases h; rw [eq_of_beq hg]; exact within_ok
  split at h
  · rename_i hg; cases h; rw [eq_of_beq hg]; exact tree_ok
  · cases h) n
theorem nwF_gr:NwF prGr:=⟨by kernel_rfl,by kernel_rfl,by kernel_rfl,by kernel_rfl,by kernel_rfl⟩
theorem nil_res (H:Heap) (m e:Int):toRes H false (.tuple [.imm .lit 1 [],.int .i64 m,.int .i64 e])=some (.tuple [.own 1 [],.int .i64 m,.int .i64 e]):=by
  simp [toRes,ownedAll,cellsOf,owned,resVal,resCell,mapO]; rfl
theorem gpO_bad {n:Int} {l:List St} {kk e:Int} (h:gpE n l kk=e) (he:e ≠ 0):gpO n l kk=.tuple [.own 1 [],.int .i64 0,.int .i64 e]:=by
  subst h; rw [gpO,gpG,gpM,if_neg he,if_neg he]; rfl
theorem gpO_ok {n:Int} {l:List St} {kk:Int} (h:gpE n l kk=0):gpO n l kk=.tuple [.own 1 ((gpT n l kk).map encI),.int .i64 (mnT (gpT n l kk) l),.int .i64 0]:=by
  rw [gpO,gpG,gpM,if_pos h,if_pos h,h]
theorem tk_sub (l:List St) (t:List Int):∀ i,i ≤ t.length → ∀ x ∈ tkT l (t.take i),x ∈ t:=by
  intro i
  induction i with
  | zero=>intro _ x hx; simp [tkT,ksT] at hx
  | succ i ih =>
    intro hi x hx
    rw [tkT_succ l t (by omega)] at hx
    split at hx
    · rcases List.mem_append.1 hx with h | h
      · exact ih (by omega) x h
      · rw [List.mem_singleton.1 h]; exact mem_getD 0 (by omega)
    · exact ih (by omega) x hx
theorem tree_in {l:List St} {x:Int} (h:x ∈ treeT l):0 ≤ x∧x < (l.length:Int):=by
  have:=tk_sub l (ordT l) (ordT l).length (Nat.le_refl _) x (by rw [List.take_length]; exact h)
  exact ordT_mem.1 this
theorem res_lii {H:Heap} {b k:Nat} {o:List Int} (hb:H[b]?=some (bI o)) (hk:o.length=k) (m e:Int):toRes H false (.tuple [.sl b 0 k none k 1,.int .i64 m,.int .i64 e])=some (.tuple [.own 1 (o.map encI),.int .i64 m,.int .i64 e]):=by
  have hr:=resCell_sl (H:=H) (no:=[b]) (b:=b) (k:=1) (m:=k) (cap:=none) (els:=o.map encI) hb (by simpa using hk) (mapO_self (fun r=>frz_int 4 r) _)
  have ho:ownedAll H false (.tuple [.sl b 0 k none k 1,.int .i64 m,.int .i64 e])=[b]:=by simp [ownedAll,cellsOf,owned,hb]
  simp only [toRes,ho,List.nodup_cons,List.not_mem_nil,not_false_eq_true,List.nodup_nil,and_self,if_true,resVal,mapO,hr]
  rfl
theorem groups_ok:PrimOk Tp 33 groups33:=by
  refine primOk_pure (pol:=plF prGr) (fn:=Try.f33) (cd:=B33) follows_mixed soundGr (by kernel_rfl) (by kernel_rfl) (fnok prGr _ _ (by kernel_rfl)) (by kernel_rfl) ?_
  intro args res h
  obtain ⟨n,l,kk,rfl,hq⟩:=f3_inv h
  split at hq
  case isFalse=>cases hq
  rename_i hl
  cases hq
  have a:=gg_a_0 (F:=prGr) 0 n (l.map encT) kk
  obtain ⟨N0,c39⟩:=CallsTo.from (nw_call nwF_gr (H:=[]) (Nat.le_refl _) n (l:=l) (by omega))
  cases hnet:netB n l with
  | false =>
    rw [hnet] at c39
    have b:=gg_b_1 (F:=prGr) N0 n (l.map encT) kk (y9:=Ud) (y10:=Ud) (y11:=Ud) (y12:=Ud) (y14:=Ud) (y15:=Ud) (y16:=Ud) (y18:=Ud) (y50:=Ud) (y51:=Ud) (y61:=Ud) (y62:=Ud) (y63:=Ud) c39 rfl stN
    have ct:=gg_cf_0 (F:=prGr) 0 n (l.map encT) kk [bN n l] (y11:=Ud) (y12:=Ud) (y14:=Ud) (y15:=Ud) (y16:=Ud) (y18:=Ud) (y50:=Ud) (y51:=Ud) (y61:=Ud) (y62:=Ud) (y63:=Ud)
    refine ⟨_,_,_,.tuple [.imm .lit 1 [],.int .i64 0,.int .i64 2],sq (a) (sq (b) (sqo (ct) (c:=sub [1,1] B33) (b:=sub [1,1,1] B33)) (c:=sub [1] B33)) (c:=B33),by simp,by simp only [resultsV,res33]; rfl,?_⟩
    have he:gpE n l kk=2:=by rw [gpE,if_neg (by rw [hnet]; simp)]
    rw [gpO_bad he (by decide)]; exact nil_res _ _ _
  | true =>
    rw [hnet] at c39
    obtain ⟨⟨n1,n2⟩,n3,he,_⟩:=netB_ends hnet
    have heB:=endN_B he (by omega)
    have b:=gg_b_0 (F:=prGr) N0 n (l.map encT) kk (y9:=Ud) (y10:=Ud) (y11:=Ud) (y12:=Ud) (y14:=Ud) (y15:=Ud) (y16:=Ud) (y18:=Ud) (y50:=Ud) (y51:=Ud) (y61:=Ud) (y62:=Ud) (y63:=Ud) c39 rfl stN
    have wk:=within_at (F:=prGr) (by kernel_rfl) kk 1 n [bN n l]
    by_cases ku:1 ≤ kk∧kk ≤ n
    case neg =>
      rw [decide_eq_false ku] at wk
      have ct:=gg_ct_1 (F:=prGr) 0 n (l.map encT) kk [bN n l] (y11:=Ud) (y12:=Ud) (y14:=Ud) (y15:=Ud) (y16:=Ud) (y18:=Ud) (y50:=Ud) (y51:=Ud) (y61:=Ud) (y62:=Ud) (y63:=Ud) wk
      refine ⟨_,_,_,.tuple [.imm .lit 1 [],.int .i64 0,.int .i64 2],sq (a) (sq (b) (sqo (ct) (c:=sub [1,1] B33) (b:=sub [1,1,1] B33)) (c:=sub [1] B33)) (c:=B33),by simp,by simp only [resultsV,res33]; rfl,?_⟩
      have he:gpE n l kk=2:=by rw [gpE,if_neg (fun h=>ku h.2)]
      rw [gpO_bad he (by decide)]; exact nil_res _ _ _
    rw [decide_eq_true ku] at wk
    have ct:=gg_ct_0 (F:=prGr) 0 n (l.map encT) kk [bN n l] (y11:=Ud) (y12:=Ud) (y14:=Ud) (y15:=Ud) (y16:=Ud) (y18:=Ud) (y50:=Ud) (y51:=Ud) (y61:=Ud) (y62:=Ud) (y63:=Ud) wk
    have c40:=at1 (pol':=plF prGr) (g:=40) (c1:=kN) (f:=fun p=>if netOk p.1 p.2 then some (.tuple [.own 1 ((treeT p.2).map encI),.bool (connB p.1 p.2)]) else none) (H:=[bN n l]) (by kernel_rfl) (ShN _ n l) (if_pos ⟨heB,by show l.length ≤ 900; omega,by show 0 ≤ n; omega,by show n ≤ 1000; omega⟩)
    rw [recv_tb] at c40
    have hlT:(treeT l).length ≤ l.length:=by have:=ksT_len l (ordT l); rw [ordT_len] at this; exact this
    by_cases cn:connB n l=true
    case neg =>
      have c40':=c40
      simp only at c40'
      rw [nb_false cn] at c40'
      have d:=gg_d_1 (F:=prGr) 0 n (l.map encT) kk [bN n l] 1 (treeT l).length (y11:=Ud) (y12:=Ud) (y14:=Ud) (y15:=Ud) (y16:=Ud) (y18:=Ud) (y50:=Ud) (y51:=Ud) (y61:=Ud) (y62:=Ud) (y63:=Ud) (ld66 rfl) c40'
      have e:=gg_ef_0 (F:=prGr) 0 n (l.map encT) kk [bN n l,bI (treeT l)] 1 (treeT l).length (y12:=Ud) (y14:=Ud) (y15:=Ud) (y16:=Ud) (y18:=Ud) (y50:=Ud) (y51:=Ud) (y61:=Ud) (y62:=Ud) (y63:=Ud)
      refine ⟨_,_,_,.tuple [.imm .lit 1 [],.int .i64 0,.int .i64 6],sq (a) (sq (b) (sq (ct) (sq (d) (sqo (e) (c:=sub [1,1,1,1] B33) (b:=sub [1,1,1,1,1] B33)) (c:=sub [1,1,1] B33)) (c:=sub [1,1] B33)) (c:=sub [1] B33)) (c:=B33),by simp,by simp only [resultsV,res33]; rfl,?_⟩
      have he:gpE n l kk=6:=by rw [gpE,if_pos ⟨hnet,ku⟩,if_neg cn]
      rw [gpO_bad he (by decide)]; exact nil_res _ _ _
    have c40':=c40
    simp only at c40'
    rw [cn] at c40'
    have d:=gg_d_0 (F:=prGr) 0 n (l.map encT) kk [bN n l] 1 (treeT l).length (y11:=Ud) (y12:=Ud) (y14:=Ud) (y15:=Ud) (y16:=Ud) (y18:=Ud) (y50:=Ud) (y51:=Ud) (y61:=Ud) (y62:=Ud) (y63:=Ud) (ld66 rfl) c40'
    have e:=gg_et_0 (F:=prGr) 0 n (l.map encT) kk [bN n l,bI (treeT l)] 1 (treeT l).length (y12:=Ud) (y14:=Ud) (y15:=Ud) (y16:=Ud) (y18:=Ud) (y50:=Ud) (y51:=Ud) (y61:=Ud) (y62:=Ud) (y63:=Ud)
    have hE:gpE n l kk=0:=by rw [gpE,if_pos ⟨hnet,ku⟩,if_pos cn]
    have hcl:((treeT l).length:Int)=n - 1:=of_decide_eq_true cn
    rw [gpO_ok hE]
    obtain ⟨n,rfl⟩:∃ m:Nat,n=(m:Int):=⟨n.toNat,by omega⟩
    generalize hk:((n:Int) - kk).toNat=k at *
    have hk2:((k:Nat):Int)=(n:Int) - kk:=by omega
    have hw:IntKind.i64.wrap ((n:Int) - kk)=(k:Int):=by rw [wrap_id (by omega) (by omega)]; omega
    have hgp:gpT (n:Int) l kk=grpT n l ((treeT l).take k):=by rw [gpT,hk]; rfl
    rw [hgp]
    have ht0:∀ x ∈ treeT l,0 ≤ x∧x < (l.length:Int):=fun x hx=>tree_in hx
    have htl:((treeT l).take k).length=k:=by rw [List.length_take]; omega
    have hto:∀ i,i < ((treeT l).take k).length → i < (treeT l).length∧(treeT l).getD i 0=((treeT l).take k).getD i 0:=fun i hi=>⟨by omega,(take_getD (by omega)).symm⟩
    have htt:∀ x ∈ (treeT l).take k,0 ≤ x∧x < (l.length:Int):=fun x hx=>ht0 x (List.mem_of_mem_take hx)
    obtain ⟨N1,c57⟩:=CallsTo.from (joined_sl (F:=prGr) (by kernel_rfl) (by kernel_rfl) (by kernel_rfl) (by kernel_rfl) (n:=(n:Int)) heB htt (by omega) (H:=[bN n l,bI (treeT l)]) (by show max 0 (max 0 0) ≤ 2; decide) (lb:=1) (cap:=none) rfl hto)
    rw [htl] at c57
    have f:=gg_f_0 (F:=prGr) N1 n (l.map encT) kk [bN n l,bI (treeT l)] 1 (treeT l).length 3 _ (y12:=Ud) (y14:=Ud) (y15:=Ud) (y16:=Ud) (y18:=Ud) (y50:=Ud) (y51:=Ud) (y61:=Ud) (y62:=Ud) (y63:=Ud) (ld66 rfl) (by rw [hw,Int.toNat_natCast]; exact slice_hi (by omega)) (by rw [hw,Int.toNat_natCast]; exact c57)
    have hU:=ksT_up heB (t:=(treeT l).take k) htt
    have g:=gg_g_0 (F:=prGr) 0 n (l.map encT) kk [bN n l,bI (treeT l),bN n l,bU (ksT l ((treeT l).take k)).1] 3 (y9:=.ptr 0 0 0 1) (y10:=.bool true) (y11:=.sl 1 0 (treeT l).length none (treeT l).length 1) (y14:=Ud) (y15:=Ud) (y16:=Ud) (y18:=Ud) (y50:=Ud) (y51:=Ud) (y61:=Ud) (y62:=Ud) (y63:=Ud) rfl
    have hh:=gg_h_0 (F:=prGr) 0 n (l.map encT) kk [bN n l,bI (treeT l),bN n l,bU (ksT l ((treeT l).take k)).1,bI []] 3 4 0 (y9:=.ptr 0 0 0 1) (y10:=.bool true) (y11:=.sl 1 0 (treeT l).length none (treeT l).length 1) (y15:=Ud) (y16:=Ud) (y18:=Ud) (y50:=Ud) (y51:=Ud) (y61:=Ud) (y62:=Ud) (y63:=Ud)
    have hG:grpT n l ((treeT l).take k)=(labT l ((treeT l).take k)).take n:=rfl
    rw [hG]
    have hlg:(labT l ((treeT l).take k)).length=16:=hU.lg
    have hU2:Up (ksT l ((treeT l).take k)).1 (labT l ((treeT l).take k)):=hU
    generalize hus:(ksT l ((treeT l).take k)).1=us at *
    generalize hlab:labT l ((treeT l).take k)=lab at *
    have lt:∀ i,i ≤ n → (lab.take i).length=i:=fun i hi=>by rw [List.length_take]; omega
    have r:=count (pol':=plF prGr) (f:=33) (E:=fun i=>(env33 (.int .i64 (n:Int)) (.imm .arg 3 (l.map encT)) (.int .i64 kk) (.imm .lit 1 []) (.int .i64 0) (.int .i64 0) Ud Ud Ud (.ptr 3 0 0 1) (.sl 4 0 (lab.take i).length none (lab.take i).length 1) Ud Ud Ud (.int .i64 (n:Int)) (.int .i64 (i:Int)) Ud Ud Ud)) (Hs:=fun i=>[bN n l,bI (treeT l),bN n l,bU us,bI (lab.take i)]) n
      (E0:=fun i=>(env33 (.int .i64 (n:Int)) (.imm .arg 3 (l.map encT)) (.int .i64 kk) (.imm .lit 1 []) (.int .i64 0) (.int .i64 0) Ud Ud Ud (.ptr 3 0 0 1) (.sl 4 0 (lab.take (i+1)).length none (lab.take (i+1)).length 1) (.int .i64 (i:Int)) Ud Ud (.int .i64 (n:Int)) (.int .i64 ((i+1:Nat):Int)) Ud Ud Ud)) (H1:=fun i=>[bN n l,bI (treeT l),bN n l,bU us,bI (lab.take (i+1))])
      (fun i hi=>by
        obtain ⟨N2,c55⟩:=CallsTo.from (of_call (F:=prGr) (by kernel_rfl) (H:=[bN n l,bI (treeT l),bN n l,bU us,bI (lab.take i)]) (b:=3) rfl hU2 (v:=(i:Int)) (by omega) (by omega))
        rw [Int.toNat_natCast] at c55
        have hli:=lt i (by omega)
        have ap:=app_in1 (H:=[bN n l,bI (treeT l),bN n l,bU us,bI (lab.take i)]) (b:=4) (o:=lab.take i) rfl (by omega) (lab.getD i 0)
        have es:=take_snoc (g:=lab) (i:=i) (by omega)
        rw [← es] at ap
        have s:=gg_l_0 (F:=prGr) N2 n (l.map encT) kk [bN n l,bI (treeT l),bN n l,bU us,bI (lab.take i)] 3 4 (lab.take i).length i (y9:=Ud) (y10:=Ud) (y11:=Ud) (y15:=Ud) (y16:=Ud) (y18:=Ud) (y61:=Ud) (y62:=Ud) (y63:=Ud) (by omega) c55 ap
        have el:(lab.take (i+1)).length=(lab.take i).length+1:=by rw [lt _ (by omega),lt _ (by omega)]
        rw [wrap_succ (by omega),← el] at s
        exact s) (fun i _=>by kernel_rfl) (fun i _=>gc_eq _ rfl) (gg_l_1 (F:=prGr) 0 n (l.map encT) kk [bN n l,bI (treeT l),bN n l,bU us,bI (lab.take n)] 3 4 (lab.take n).length n (y9:=Ud) (y10:=Ud) (y11:=Ud) (y15:=Ud) (y16:=Ud) (y18:=Ud) (y61:=Ud) (y62:=Ud) (y63:=Ud) (by omega)) (by simp) (c:=sub [1,1,1,1,1,1,1,0,1,0] B33) (by kernel_rfl) (fun i _=>by kernel_rfl)
    have hln:=lt n (Nat.le_refl _)
    rw [hln] at r
    have ii:=gg_i_0 (F:=prGr) 0 n (l.map encT) kk [bN n l,bI (treeT l),bN n l,bU us,bI (lab.take n)] 4 n (y12:=.ptr 3 0 0 1) (y50:=.int .i64 (n:Int)) (y51:=.int .i64 (n:Int)) (y9:=Ud) (y10:=Ud) (y11:=Ud) (y15:=Ud) (y16:=Ud) (y18:=Ud) (y61:=Ud) (y62:=Ud) (y63:=Ud)
    have jj:=gg_j_0 (F:=prGr) 0 n (l.map encT) kk [bN n l,bI (treeT l),bN n l,bU us,bI (lab.take n)] 4 n (-1) (y12:=.ptr 3 0 0 1) (y50:=.int .i64 (n:Int)) (y51:=.int .i64 (n:Int)) (y9:=Ud) (y10:=Ud) (y11:=Ud) (y15:=Ud) (y18:=Ud) (y61:=Ud) (y62:=Ud) (y63:=Ud)
    generalize hgr:lab.take n=gr at *
    generalize hH:[bN (n:Int) l,bI (treeT l),bN (n:Int) l,bU us,bI gr]=H at *
    have hH4:H[4]?=some (bI gr):=by rw [← hH]; rfl
    have hH5:H.length=5:=by rw [← hH]; rfl
    have r2:=count (pol':=plF prGr) (f:=33) (E:=fun i=>(env33 (.int .i64 (n:Int)) (.imm .arg 3 (l.map encT)) (.int .i64 kk) (.imm .lit 1 []) (.int .i64 0) (.int .i64 0) Ud Ud Ud Ud (.sl 4 0 n none n 1) Ud (.int .i64 (mnT gr (l.take i))) Ud Ud Ud (.imm .arg 3 (l.map encT)) (.int .i64 (l.length:Int)) (.int .i64 (i:Int)))) (Hs:=fun i=>H) l.length
      (E0:=fun i=>(env33 (.int .i64 (n:Int)) (.imm .arg 3 (l.map encT)) (.int .i64 kk) (.imm .lit 1 []) (.int .i64 0) (.int .i64 0) Ud Ud Ud Ud (.sl 4 0 n none n 1) Ud (.int .i64 (mnT gr (l.take (i+1)))) (.ptr H.length 0 0 1) Ud Ud (.imm .arg 3 (l.map encT)) (.int .i64 (l.length:Int)) (.int .i64 ((i+1:Nat):Int)))) (H1:=fun i=>H ++ [bT (l.getD i (0,0,0))])
      (fun i hi=>by
        have g2:=gs (l:=l) (y:=i) hi
        have hm:=mnT_succ gr l hi
        have hse:=endN_iff.1 he _ (mem_getD (0,0,0) hi)
        generalize l.getD i (0,0,0)=s at *
        obtain ⟨⟨sa1,sa2⟩,sb1,sb2⟩:=hse
        have hx:=get_x H (bT s)
        have la:=ldT hx 0 s.1 rfl
        have lb:=ldT hx 1 s.2.1 rfl
        have lc:=ldT hx 2 s.2.2 rfl
        have hg4:(H ++ [bT s])[4]?=some (bI gr):=get_l hH4
        have lx:=load_out hg4 (y:=s.1.toNat) (by omega)
        have ly:=load_out hg4 (y:=s.2.1.toNat) (by omega)
        rw [hln] at lx ly
        rw [hm,mnS]
        by_cases cx:gr.getD s.1.toNat 0=gr.getD s.2.1.toNat 0
        · rw [if_neg (fun h=>h.1 cx)]
          have s1:=gg_k_0 (F:=prGr) 0 n (l.map encT) kk H 4 n l.length i (mnT gr (l.take i)) s.1 s.2.1 s.2.2 _ _ (y9:=Ud) (y10:=Ud) (y11:=Ud) (y12:=Ud) (y15:=Ud) (y18:=Ud) (y50:=Ud) (y51:=Ud) (by omega) g2 (box_nv H) (box_st H s) (fld0 _) la (idxU ⟨sa1,sa2⟩) lx (fld1 _) lb (idxU ⟨sb1,sb2⟩) ly cx
          rw [wrap_succ (by omega)] at s1
          exact s1
        by_cases cg:mnT gr (l.take i) < 0
        · rw [if_pos ⟨cx,.inl cg⟩]
          have s1:=gg_k_1 (F:=prGr) 0 n (l.map encT) kk H 4 n l.length i (mnT gr (l.take i)) s.1 s.2.1 s.2.2 _ _ (y9:=Ud) (y10:=Ud) (y11:=Ud) (y12:=Ud) (y15:=Ud) (y18:=Ud) (y50:=Ud) (y51:=Ud) (by omega) g2 (box_nv H) (box_st H s) (fld0 _) la (idxU ⟨sa1,sa2⟩) lx (fld1 _) lb (idxU ⟨sb1,sb2⟩) ly cx cg (fld2 _) lc
          rw [wrap_succ (by omega)] at s1
          exact s1
        by_cases cw:s.2.2 < mnT gr (l.take i)
        · rw [if_pos ⟨cx,.inr cw⟩]
          have s1:=gg_k_2 (F:=prGr) 0 n (l.map encT) kk H 4 n l.length i (mnT gr (l.take i)) s.1 s.2.1 s.2.2 _ _ (y9:=Ud) (y10:=Ud) (y11:=Ud) (y12:=Ud) (y15:=Ud) (y18:=Ud) (y50:=Ud) (y51:=Ud) (by omega) g2 (box_nv H) (box_st H s) (fld0 _) la (idxU ⟨sa1,sa2⟩) lx (fld1 _) lb (idxU ⟨sb1,sb2⟩) ly cx cg (fld2 _) lc cw (fld2 _) lc
          rw [wrap_succ (by omega)] at s1
          exact s1
        · rw [if_neg (fun h=>h.2.elim cg cw)]
          have s1:=gg_k_3 (F:=prGr) 0 n (l.map encT) kk H 4 n l.length i (mnT gr (l.take i)) s.1 s.2.1 s.2.2 _ _ (y9:=Ud) (y10:=Ud) (y11:=Ud) (y12:=Ud) (y15:=Ud) (y18:=Ud) (y50:=Ud) (y51:=Ud) (by omega) g2 (box_nv H) (box_st H s) (fld0 _) la (idxU ⟨sa1,sa2⟩) lx (fld1 _) lb (idxU ⟨sb1,sb2⟩) ly cx cg (fld2 _) lc cw
          rw [wrap_succ (by omega)] at s1
          exact s1) (fun i _=>by kernel_rfl) (fun i _=>by
            have hb:bndE ((env33 (.int .i64 (n:Int)) (.imm .arg 3 (l.map encT)) (.int .i64 kk) (.imm .lit 1 []) (.int .i64 0) (.int .i64 0) Ud Ud Ud Ud (.sl 4 0 n none n 1) Ud (.int .i64 (mnT gr (l.take (i+1)))) Ud Ud Ud (.imm .arg 3 (l.map encT)) (.int .i64 (l.length:Int)) (.int .i64 ((i+1:Nat):Int))))=5:=by simp only [bndE,bnd,bndL]; rfl
            show gc H.length (bndE ((env33 (.int .i64 (n:Int)) (.imm .arg 3 (l.map encT)) (.int .i64 kk) (.imm .lit 1 []) (.int .i64 0) (.int .i64 0) Ud Ud Ud Ud (.sl 4 0 n none n 1) Ud (.int .i64 (mnT gr (l.take (i+1)))) Ud Ud Ud (.imm .arg 3 (l.map encT)) (.int .i64 (l.length:Int)) (.int .i64 ((i+1:Nat):Int))))) (H ++ [bT (l.getD i (0,0,0))])=H
            rw [hb,← hH5]
            exact gc_back (by rw [mxs_app,← hH]; show max (max 0 (max 0 (max 0 (max 0 (max 0 0))))) (max 0 0) ≤ 5; decide) (Nat.le_refl _)) (gg_k_4 (F:=prGr) 0 n (l.map encT) kk H 4 n l.length l.length (mnT gr (l.take l.length)) 0 0 0 0 0 (y9:=Ud) (y10:=Ud) (y11:=Ud) (y12:=Ud) (y15:=Ud) (y18:=Ud) (y50:=Ud) (y51:=Ud) (by omega)) (by simp) (c:=sub [1,1,1,1,1,1,1,1,1,0,1,0] B33) (by kernel_rfl) (fun i _=>by kernel_rfl)
    rw [List.take_of_length_le (Nat.le_refl _)] at r2
    have z:=gg_z_0 (F:=prGr) 0 n (l.map encT) kk H 4 n (mnT gr l) (y61:=.imm .arg 3 (l.map encT)) (y62:=.int .i64 (l.length:Int)) (y63:=.int .i64 (l.length:Int)) (y9:=Ud) (y10:=Ud) (y11:=Ud) (y12:=Ud) (y15:=Ud) (y18:=Ud) (y50:=Ud) (y51:=Ud)
    have lmap:(l.map encT).length=l.length:=List.length_map _
    rw [lmap] at jj
    refine ⟨_,_,_,.tuple [.sl 4 0 n none n 1,.int .i64 (mnT gr l),.int .i64 0],sq (a) (sq (b) (sq (ct) (sq (d) (sq (e) (sq (f) (sq (g) (sq (sq (hh) (bke (c:=sub [1,1,1,1,1,1,1,0,1] B33) (lpi (e0:=(env33 (.int .i64 (n:Int)) (.imm .arg 3 (l.map encT)) (.int .i64 kk) (.imm .lit 1 []) (.int .i64 0) (.int .i64 0) (.ptr 0 0 0 1) (.bool true) (.sl 1 0 (treeT l).length none (treeT l).length 1) (.ptr 3 0 0 1) (.sl 4 0 0 none 0 1) Ud Ud Ud (.int .i64 (n:Int)) (.int .i64 ((0:Nat):Int)) Ud Ud Ud)) r (b:=sub [1,1,1,1,1,1,1,0,1,0,0] B33))) (c:=sub [1,1,1,1,1,1,1,0] B33)) (sq (ii) (sq (sq (jj) (bke (c:=sub [1,1,1,1,1,1,1,1,1,0,1] B33) (lpi (e0:=(env33 (.int .i64 (n:Int)) (.imm .arg 3 (l.map encT)) (.int .i64 kk) (.imm .lit 1 []) (.int .i64 0) (.int .i64 0) Ud Ud Ud (.ptr 3 0 0 1) (.sl 4 0 n none n 1) Ud (.int .i64 (-1)) Ud (.int .i64 (n:Int)) (.int .i64 (n:Int)) (.imm .arg 3 (l.map encT)) (.int .i64 (l.length:Int)) (.int .i64 ((0:Nat):Int)))) r2 (b:=sub [1,1,1,1,1,1,1,1,1,0,1,0,0] B33))) (c:=sub [1,1,1,1,1,1,1,1,1,0] B33)) (z) (c:=sub [1,1,1,1,1,1,1,1,1] B33)) (c:=sub [1,1,1,1,1,1,1,1] B33)) (c:=sub [1,1,1,1,1,1,1] B33)) (c:=sub [1,1,1,1,1,1] B33)) (c:=sub [1,1,1,1,1] B33)) (c:=sub [1,1,1,1] B33)) (c:=sub [1,1,1] B33)) (c:=sub [1,1] B33)) (c:=sub [1] B33)) (c:=B33),by simp,by simp only [resultsV,res33]; rfl,?_⟩
    exact res_lii hH4 hln _ _
end Go.Proofs.Ytiejmoglooaalaa
end
section
open Go Go.HL
namespace Go.Proofs.Ytiejmoglooaalaa
theorem sub_filter {t s:List Int} (h:s.Sublist t) (hn:t.Nodup):t.filter (fun x=>decide (x ∈ s))=s:=by
  induction h with
  | slnil=>rfl
  | @cons s t a h ih =>
    have hn':=List.nodup_cons.1 hn
    rw [List.filter_cons_of_neg (by simpa using fun c=>hn'.1 (h.subset c))]
    exact ih hn'.2
  | @cons_cons s t a h ih =>
    have hn':=List.nodup_cons.1 hn
    rw [List.filter_cons_of_pos (by simp)]
    refine congrArg (a :: ·) ?_
    rw [← ih hn'.2]
    refine (List.filter_congr fun x hx=>?_)
    have:x ≠ a:=fun c=>hn'.1 (c ▸ hx)
    rw [ih hn'.2]
    simp [this]
theorem tk_sublist (l:List St) (t:List Int):∀ i,i ≤ t.length → (tkT l (t.take i)).Sublist (t.take i):=by
  intro i
  induction i with
  | zero=>intro _; exact List.Sublist.refl _
  | succ i ih =>
    intro hi
    rw [tkT_succ l t (by omega),take_snoc (by omega)]
    split
    · exact (ih (by omega)).append (List.Sublist.refl _)
    · exact (ih (by omega)).trans (List.sublist_append_left _ _)
theorem ordT_nodup (l:List St):(ordT l).Nodup:=(ordN_perm l l.length).nodup_iff.2 (startT_nodup _)
theorem frT_mem {l:List St} {x:Int}:x ∈ frT l ↔ x ∈ treeT l:=by
  rw [frT,selT,List.mem_filter]
  exact ⟨fun h=>of_decide_eq_true h.2,fun h=>⟨startT_mem.2 (tree_in h),decide_eq_true h⟩⟩
theorem tree_filter (l:List St):(ordT l).filter (fun x=>decide (x ∈ treeT l))=treeT l:=by
  have:=tk_sublist l (ordT l) (ordT l).length (Nat.le_refl _)
  rw [List.take_length] at this
  exact sub_filter this (ordT_nodup l)
theorem fr_len (l:List St):(frT l).length=(treeT l).length:=by
  have h:((ordT l).filter fun x=>decide (x ∈ treeT l)).Perm (frT l):=(ordN_perm l l.length).filter _
  rw [← h.length_eq,tree_filter]
theorem frOk_eq (n:Int) (l:List St):frOk n l=connB n l:=by rw [frOk,connB,fr_len]
theorem res_li1 {H:Heap} {b k:Nat} {o:List Int} (hb:H[b]?=some (bI o)) (hk:o.length=k) (m:Int):toRes H false (.tuple [.sl b 0 k none k 1,.int .i64 m])=some (.tuple [.own 1 (o.map encI),.int .i64 m]):=by
  have hr:=resCell_sl (H:=H) (no:=[b]) (b:=b) (k:=1) (m:=k) (cap:=none) (els:=o.map encI) hb (by simpa using hk) (mapO_self (fun r=>frz_int 4 r) _)
  have ho:ownedAll H false (.tuple [.sl b 0 k none k 1,.int .i64 m])=[b]:=by simp [ownedAll,cellsOf,owned,hb]
  simp only [toRes,ho,List.nodup_cons,List.not_mem_nil,not_false_eq_true,List.nodup_nil,and_self,if_true,resVal,mapO,hr]
  rfl
end Go.Proofs.Ytiejmoglooaalaa
end
section
open Go Go.HL
namespace Go.Proofs.Ytiejmoglooaalaa
set_option linter.unusedSectionVars false
inductive Cn (l:List St) (t:List Int):Int → Int → Prop
  | refl (v:Int):Cn l t v v
  | edge {k:Int} (h:k ∈ t):Cn l t (sA l k) (sB l k)
  | symm {u v:Int} (h:Cn l t u v):Cn l t v u
  | trans {u v w:Int} (h:Cn l t u v) (h2:Cn l t v w):Cn l t u w
theorem Cn.mono {l:List St} {t t':List Int} (hs:∀ k ∈ t,k ∈ t') {u v:Int} (h:Cn l t u v):Cn l t' u v:=by
  induction h with
  | refl v=>exact .refl v
  | edge h=>exact .edge (hs _ h)
  | symm _ ih=>exact .symm ih
  | trans _ _ h1 h2=>exact .trans h1 h2
def lb (l:List St) (t:List Int) (v:Int):Int:=(labT l t).getD v.toNat 0
section
variable {l:List St} (he:endB l=true) {t:List Int} (ht:∀ k ∈ t,0 ≤ k∧k < (l.length:Int))
include he ht
theorem lb_lo {v:Int} (hv:0 ≤ v∧v < 16):0 ≤ lb l t v∧lb l t v ≤ v∧lb l t (lb l t v)=lb l t v:=by
  have h:=(ksT_up he ht).lab v.toNat (by omega)
  refine ⟨h.1,?_,h.2.2.2⟩
  have:=h.2.1
  show (ksT l t).2.1.getD v.toNat 0 ≤ v
  omega
theorem lb_rng {v:Int} (hv:0 ≤ v∧v < 16):0 ≤ lb l t v∧lb l t v < 16:=by
  have:=lb_lo he ht hv
  omega
theorem lb_succ {i:Nat} (hi:i < t.length) {v:Int} (hv:0 ≤ v∧v < 16):lb l (t.take (i+1)) v=labS (min (lb l (t.take i) (sA l (t.getD i 0))) (lb l (t.take i) (sB l (t.getD i 0)))) (max (lb l (t.take i) (sA l (t.getD i 0))) (lb l (t.take i) (sB l (t.getD i 0)))) (lb l (t.take i) v):=by
  have hU:=ksT_up he (t:=t.take i) fun k hk=>ht k (List.mem_of_mem_take hk)
  have hl:(labT l (t.take i)).length=16:=hU.lg
  rw [lb,labT_succ l t hi,joinT,getD_map (by rw [hl]; omega)]
  rfl
theorem lb_cn_take:∀ i,i ≤ t.length → ∀ v:Int,0 ≤ v∧v < 16 → Cn l (t.take i) (lb l (t.take i) v) v:=by
  intro i
  induction i with
  | zero =>
    intro _ v hv
    have:lb l (t.take 0) v=v:=by
      show (startT 16).getD v.toNat 0=v
      have:v.toNat < 16:=by omega
      simp [startT,List.getD,this]; omega
    rw [this]; exact .refl v
  | succ i ih =>
    intro hi v hv
    have hk:=ht _ (mem_getD 0 (show i < t.length by omega))
    obtain ⟨ea,eb⟩:=ends he hk
    have ih:=ih (by omega)
    have hm:∀ x ∈ t.take i,x ∈ t.take (i+1):=fun x hx=>by rw [take_snoc (by omega)]; exact List.mem_append_left _ hx
    have hA:=(ih _ ea).mono hm
    have hB:=(ih _ eb).mono hm
    have hE:Cn l (t.take (i+1)) (sA l (t.getD i 0)) (sB l (t.getD i 0)):=.edge (by rw [take_snoc (by omega)]; simp)
    have hAB:Cn l (t.take (i+1)) (lb l (t.take i) (sA l (t.getD i 0))) (lb l (t.take i) (sB l (t.getD i 0))):=.trans hA (.trans hE (.symm hB))
    have hV:=(ih v hv).mono hm
    rw [lb_succ he ht (by omega) hv]
    generalize lb l (t.take i) (sA l (t.getD i 0))=A at *
    generalize lb l (t.take i) (sB l (t.getD i 0))=B at *
    unfold labS
    split
    · rename_i hx
      rw [hx] at hV
      refine .trans ?_ hV
      rcases Int.le_total A B with c | c
      · rw [Int.min_eq_left c,Int.max_eq_right c]; exact hAB
      · rw [Int.min_eq_right c,Int.max_eq_left c]; exact .symm hAB
    · exact hV
theorem lb_cn {v:Int} (hv:0 ≤ v∧v < 16):Cn l t (lb l t v) v:=by
  have:=lb_cn_take he ht t.length (Nat.le_refl _) v hv
  rwa [List.take_length] at this
theorem lb_edge_take {j:Nat} (hj:j < t.length):∀ d,j+1+d ≤ t.length → lb l (t.take (j+1+d)) (sA l (t.getD j 0))=lb l (t.take (j+1+d)) (sB l (t.getD j 0)):=by
  have hk:=ht _ (mem_getD 0 hj)
  obtain ⟨ea,eb⟩:=ends he hk
  intro d
  induction d with
  | zero =>
    intro _
    rw [Nat.add_zero,lb_succ he ht hj ea,lb_succ he ht hj eb]
    unfold labS
    split <;> split <;> omega
  | succ d ih =>
    intro h
    have:=ih (by omega)
    rw [show j+1+(d+1)=(j+1+d)+1 by omega,lb_succ he ht (by omega) ea,lb_succ he ht (by omega) eb,this]
theorem lb_edge {k:Int} (hk:k ∈ t):lb l t (sA l k)=lb l t (sB l k):=by
  obtain ⟨j,hj,rfl⟩:=List.getElem_of_mem hk
  have:=lb_edge_take he ht hj (t.length - (j+1)) (by omega)
  rw [show j+1+(t.length - (j+1))=t.length by omega,List.take_length,getD_at hj] at this
  exact this
theorem cn_lb {u v:Int} (h:Cn l t u v):lb l t u=lb l t v:=by
  induction h with
  | refl v=>rfl
  | edge h=>exact lb_edge he ht h
  | symm _ ih=>exact ih.symm
  | trans _ _ h1 h2=>exact h1.trans h2
theorem lb_le {t':List Int} (ht':∀ k ∈ t',0 ≤ k∧k < (l.length:Int)) (hs:∀ k ∈ t,k ∈ t') {v:Int} (hv:0 ≤ v∧v < 16):lb l t' v ≤ lb l t v:=by
  have h1:=cn_lb he ht' ((lb_cn he ht hv).mono hs)
  have h2:=lb_lo he ht' (lb_rng he ht hv)
  omega
end
theorem lb_same {l:List St} (he:endB l=true) {t t':List Int} (ht:∀ k ∈ t,0 ≤ k∧k < (l.length:Int)) (hs:∀ k,k ∈ t ↔ k ∈ t') {v:Int} (hv:0 ≤ v∧v < 16):lb l t v=lb l t' v:=by
  have ht':∀ k ∈ t',0 ≤ k∧k < (l.length:Int):=fun k hk=>ht k ((hs k).2 hk)
  have h1:=lb_le he ht ht' (fun k hk=>(hs k).1 hk) hv
  have h2:=lb_le he ht' ht (fun k hk=>(hs k).2 hk) hv
  omega
theorem lab_same {l:List St} (he:endB l=true) {t t':List Int} (ht:∀ k ∈ t,0 ≤ k∧k < (l.length:Int)) (hs:∀ k,k ∈ t ↔ k ∈ t'):labT l t=labT l t':=by
  have ht':∀ k ∈ t',0 ≤ k∧k < (l.length:Int):=fun k hk=>ht k ((hs k).2 hk)
  have h1:(labT l t).length=16:=(ksT_up he ht).lg
  have h2:(labT l t').length=16:=(ksT_up he ht').lg
  apply List.ext_getElem (by rw [h1,h2])
  intro i hi hi'
  have:=lb_same he ht hs (v:=(i:Int)) (by omega)
  rw [lb,lb,Int.toNat_natCast,getD_at hi,getD_at hi'] at this
  exact this
end Go.Proofs.Ytiejmoglooaalaa
end
section
open Go Go.HL
namespace Go.Proofs.Ytiejmoglooaalaa
set_option linter.unusedSectionVars false
def rt (g:List Int):Nat:=((List.range 16).filter fun v=>decide (g.getD v 0=(v:Int))).length
theorem filter_drop1 {α:Type} {p q:α → Bool} {x:α}:∀ {s:List α},s.Nodup → x ∈ s → p x=true → (∀ y ∈ s,y ≠ x → q y=p y) → q x=false → (s.filter p).length=(s.filter q).length+1
  | [],_,h,_,_,_=>by cases h
  | y :: s,hn,h,hp,hq,hx=>by
    obtain ⟨h1,h2⟩:=List.nodup_cons.1 hn
    by_cases e:y=x
    · subst e
      rw [List.filter_cons_of_pos hp,List.filter_cons_of_neg (by simp [hx]),List.length_cons]
      refine congrArg (·+1) (congrArg _ (List.filter_congr fun z hz=>?_))
      exact (hq z (List.mem_cons_of_mem _ hz) fun c=>h1 (c ▸ hz)).symm
    · have hm:x ∈ s:=(List.mem_cons.1 h).resolve_left fun c=>e c.symm
      have ih:=filter_drop1 h2 hm hp (fun z hz hne=>hq z (List.mem_cons_of_mem _ hz) hne) hx
      have hy:=hq y (List.mem_cons_self ..) e
      by_cases c:p y=true
      · rw [List.filter_cons_of_pos c,List.filter_cons_of_pos (by rw [hy]; exact c),List.length_cons,List.length_cons,ih]
      · rw [List.filter_cons_of_neg c,List.filter_cons_of_neg (by rw [hy]; exact c),ih]
theorem rt_join {us g:List Int} (h:Up us g) {u v:Nat} (hu:u < 16) (hv:v < 16) (hne:g.getD u 0 ≠ g.getD v 0):rt g=rt (joinT g (u:Int) (v:Int))+1:=by
  obtain ⟨a1,a2,a3,a4⟩:=h.lab u hu
  obtain ⟨b1,b2,b3,b4⟩:=h.lab v hv
  have hget:∀ w:Nat,w < 16 → (joinT g (u:Int) (v:Int)).getD w 0=labS (min (g.getD u 0) (g.getD v 0)) (max (g.getD u 0) (g.getD v 0)) (g.getD w 0):=fun w hw=>by
    rw [joinT,getD_map (by rw [h.lg]; exact hw),Int.toNat_natCast,Int.toNat_natCast]
  generalize hA:g.getD u 0=A at *
  generalize hB:g.getD v 0=B at *
  have hmx:0 ≤ max A B∧max A B < 16:=by omega
  have hmr:g.getD (max A B).toNat 0=max A B:=by
    rcases Int.le_total A B with c | c
    · rw [Int.max_eq_right c]; exact b4
    · rw [Int.max_eq_left c]; exact a4
  have hmn:g.getD (min A B).toNat 0=min A B:=by
    rcases Int.le_total A B with c | c
    · rw [Int.min_eq_left c]; exact a4
    · rw [Int.min_eq_right c]; exact b4
  refine filter_drop1 (x:=(max A B).toNat) List.nodup_range (List.mem_range.2 (by omega)) (decide_eq_true (by rw [hmr]; omega)) (fun y hy hyne=>?_) ?_
  · have hy:=List.mem_range.1 hy
    rw [hget y hy,decide_eq_decide]
    unfold labS
    split
    · rename_i hc
      constructor
      · intro e
        exfalso
        have:(min A B).toNat=y:=by omega
        rw [← this,hmn] at hc
        omega
      · intro e; exfalso; omega
    · exact Iff.rfl
  · rw [hget _ (by omega),hmr]
    unfold labS
    rw [if_pos rfl]
    exact decide_eq_false (by omega)
theorem rt_start:rt (startT 16)=16:=by decide +kernel
theorem tk_rank {l:List St} (he:endB l=true) {t:List Int} (ht:∀ k ∈ t,0 ≤ k∧k < (l.length:Int)):(tkT l t).length+rt (labT l t)=16:=by
  have key:∀ i,i ≤ t.length → (tkT l (t.take i)).length+rt (labT l (t.take i))=16:=by
    intro i
    induction i with
    | zero=>intro _; exact rt_start
    | succ i ih =>
      intro hi
      have ih:=ih (by omega)
      have hk:=ht _ (mem_getD 0 (show i < t.length by omega))
      obtain ⟨ea,eb⟩:=ends he hk
      have hU:=ksT_up he (t:=t.take i) fun k hk=>ht k (List.mem_of_mem_take hk)
      rw [tkT_succ l t (by omega),labT_succ l t (by omega)]
      split
      · rename_i hne
        have:=rt_join hU (u:=(sA l (t.getD i 0)).toNat) (v:=(sB l (t.getD i 0)).toNat) (by omega) (by omega) hne
        rw [show (((sA l (t.getD i 0)).toNat:Nat):Int)=sA l (t.getD i 0) by omega,show (((sB l (t.getD i 0)).toNat:Nat):Int)=sB l (t.getD i 0) by omega] at this
        rw [List.length_append,List.length_singleton]
        show (tkT l (t.take i)).length+1+rt (joinT (ksT l (t.take i)).2.1 _ _)=16
        have e:labT l (t.take i)=(ksT l (t.take i)).2.1:=rfl
        rw [e] at ih
        omega
      · rename_i hne
        have e:joinT (labT l (t.take i)) (sA l (t.getD i 0)) (sB l (t.getD i 0))=labT l (t.take i):=joinT_eqv (Decidable.not_not.1 hne)
        rw [e]; exact ih
  have:=key t.length (Nat.le_refl _)
  rwa [List.take_length] at this
theorem tk_len_same {l:List St} (he:endB l=true) {t t':List Int} (ht:∀ k ∈ t,0 ≤ k∧k < (l.length:Int)) (hs:∀ k,k ∈ t ↔ k ∈ t'):(tkT l t).length=(tkT l t').length:=by
  have h1:=tk_rank he ht
  have h2:=tk_rank he (t:=t') fun k hk=>ht k ((hs k).2 hk)
  rw [lab_same he ht hs] at h1
  omega
end Go.Proofs.Ytiejmoglooaalaa
end
section
open Go Go.HL
namespace Go.Proofs.Ytiejmoglooaalaa
set_option maxRecDepth 100000
open Go.Proofs.Try renaming prog → Tp
open Go.HL.HV renaming undef → Ud
section
variable {F:FuncId → Option (List HV → Option HV)}
noncomputable def B93:Code:=Try.f93.body.getD .skip
abbrev env93 (v0 v1 v4 v5 v7 v8:HV):Env:=[(0,v0),(1,v1),(4,v4),(5,v5),(7,v7),(8,v8)]
theorem ie_a_0 (la:List HV) (x:Int) (H:Heap):RunsTo Tp (plF F) 93 (sub [0] B93) [(0,.a la),(1,.i x)] H .normal ((plF F).keys 93) (env93 (.a la) (.i x) (.i 0) Ud Ud Ud) H :=
  RunsTo.hin 0 60 [] fun kf hk=>⟨_,by kernel_rfl,.nil⟩
theorem ie_b_0 (la:List HV) (x:Int) (H:Heap) {y5 y7 y8:HV}:RunsTo Tp (plF F) 93 (sub [1,0,0] B93) (env93 (.a la) (.i x) (.i 0) y5 y7 y8) H .normal ((plF F).keys 93) (env93 (.a la) (.i x) (.i 0) y5 (.i (la.length:Int)) (.i 0)) H :=
  RunsTo.hin 0 60 [] fun kf hk=>⟨_,by kernel_rfl,.nil⟩
theorem ie_l_0 (la:List HV) (x:Int) (H:Heap) (m i:Nat) (a:Int) {y5:HV}(g0:(i:Int) < (m:Int)) (g1:idxV Tp 24 (.a la) (.i (i:Int))=some (.vptr (.i a))) (g2:x=a):RunsTo Tp (plF F) 93 (sub [1,0,1,0,0] B93) (env93 (.a la) (.i x) (.i 0) y5 (.i (m:Int)) (.i (i:Int))) H .ret ((plF F).keys 93) (env93 (.a la) (.i x) (.i (i:Int)) (.i (i:Int)) (.i (m:Int)) (.i (i:Int))) H :=
  RunsTo.hin 0 60 [⟨2,0,.bool true,H⟩,⟨4,3,.vptr (.i a),H⟩,⟨4,5,.bool true,H⟩] fun kf hk=>⟨_,by kernel_rfl,(oB H (decide_eq_true g0) (oP H g1 (oB H (decide_eq_true g2) .nil)))⟩
theorem ie_l_1 (la:List HV) (x:Int) (H:Heap) (m i:Nat) (a:Int) {y5:HV}(g0:(i:Int) < (m:Int)) (g1:idxV Tp 24 (.a la) (.i (i:Int))=some (.vptr (.i a))) (g2:¬ (x=a)):RunsTo Tp (plF F) 93 (sub [1,0,1,0,0] B93) (env93 (.a la) (.i x) (.i 0) y5 (.i (m:Int)) (.i (i:Int))) H .normal ((plF F).keys 93) (env93 (.a la) (.i x) (.i 0) (.i (i:Int)) (.i (m:Int)) (.i (IntKind.i64.wrap ((i:Int)+1)))) H :=
  RunsTo.hin 0 60 [⟨2,0,.bool true,H⟩,⟨4,3,.vptr (.i a),H⟩,⟨4,5,.bool false,H⟩] fun kf hk=>⟨_,by kernel_rfl,(oB H (decide_eq_true g0) (oP H g1 (oB H (decide_eq_false g2) .nil)))⟩
theorem ie_l_2 (la:List HV) (x:Int) (H:Heap) (m i:Nat) (a:Int) {y5:HV}(g0:¬ ((i:Int) < (m:Int))):RunsTo Tp (plF F) 93 (sub [1,0,1,0,0] B93) (env93 (.a la) (.i x) (.i 0) y5 (.i (m:Int)) (.i (i:Int))) H (.exit 0) ((plF F).keys 93) (env93 (.a la) (.i x) (.i 0) y5 (.i (m:Int)) (.i (i:Int))) H :=
  RunsTo.hin 0 60 [⟨2,0,.bool false,H⟩] fun kf hk=>⟨_,by kernel_rfl,(oB H (decide_eq_false g0) .nil)⟩
theorem ie_z_0 (la:List HV) (x:Int) (H:Heap) {y5 y7 y8:HV}:RunsTo Tp (plF F) 93 (sub [1,1] B93) (env93 (.a la) (.i x) (.i 0) y5 y7 y8) H .ret ((plF F).keys 93) (env93 (.a la) (.i x) (.i (-1)) y5 y7 y8) H :=
  RunsTo.hin 0 60 [] fun kf hk=>⟨_,by kernel_rfl,.nil⟩
noncomputable def B73:Code:=Try.f73.body.getD .skip
abbrev env73 (v0 v1 v4:HV):Env:=[(0,v0),(1,v1),(4,v4)]
theorem ic_a_0 (la:List HV) (x:Int) (H:Heap) (r:Int) {H0:Heap} (g0:∀ kf,callN Tp (plF F) (kf+1) 93 [.a la,.i x] H=some (.i r,H0)) (g1:0 ≤ r):RunsTo Tp (plF F) 73 (sub [] B73) [(0,.a la),(1,.i x)] H .ret ((plF F).keys 73) (env73 (.a la) (.i x) (.bool true)) H0 :=
  RunsTo.hin 0 60 [⟨1,2,.i r,H0⟩,⟨1,3,.bool true,H0⟩] fun kf hk=>⟨_,by kernel_rfl,(oC (g0 kf) (oB H0 (decide_eq_true g1) .nil))⟩
theorem ic_a_1 (la:List HV) (x:Int) (H:Heap) (r:Int) {H0:Heap} (g0:∀ kf,callN Tp (plF F) (kf+1) 93 [.a la,.i x] H=some (.i r,H0)) (g1:¬ (0 ≤ r)):RunsTo Tp (plF F) 73 (sub [] B73) [(0,.a la),(1,.i x)] H .ret ((plF F).keys 73) (env73 (.a la) (.i x) (.bool false)) H0 :=
  RunsTo.hin 0 60 [⟨1,2,.i r,H0⟩,⟨1,3,.bool false,H0⟩] fun kf hk=>⟨_,by kernel_rfl,(oC (g0 kf) (oB H0 (decide_eq_false g1) .nil))⟩
noncomputable def B59:Code:=Try.f59.body.getD .skip
abbrev env59 (v0 v1 v2 v3 v6 v7 v9 v10 v11 v21 v22 v23:HV):Env:=[(0,v0),(1,v1),(2,v2),(3,v3),(6,v6),(7,v7),(9,v9),(10,v10),(11,v11),(21,v21),(22,v22),(23,v23)]
theorem it_a_0 (N:Nat) (n:Int) (ls la:List HV) (kk:Int) :RunsTo Tp (plF F) 59 (sub [0] B59) [(0,.agg [.i n,.imm .arg 3 ls]),(1,.a la),(2,.i kk)] [] .normal ((plF F).keys 59) (env59 (.agg [.i n,.imm .arg 3 ls]) (.a la) (.i kk) (.ptr 0 0 0 1) (.imm .lit 1 []) Ud Ud Ud Ud Ud Ud Ud) [.arr 2 [.agg [.i n,.imm .arg 3 ls]] true 0] :=
  RunsTo.hin N 60 [] fun kf hk=>⟨_,by kernel_rfl,.nil⟩
theorem it_b_0 (N:Nat) (n:Int) (ls la:List HV) (kk:Int) (H:Heap) (wb c pb:Nat) (r:Int) {y7 y9 y10 y11 y21 y22 y23:HV} {H0:Heap} {H1:Heap} (g0:loadV Tp H 66 (.ptr 0 0 0 1)=some (.agg [.i n,.imm .arg 3 ls])) (g1:∀ kf,callN Tp (plF F) (kf+1) 72 [.a la,.i kk] H=some (.s wb c,H0)) (g2:∀ kf,N ≤ kf → callN Tp (plF F) (kf+1) 57 [.agg [.i n,.imm .arg 3 ls],.s wb c] H0=some (.tuple [.ptr pb 0 0 1,.i r],H1)) (gS1:(recL ((loadV Tp H 66 (.ptr 0 0 0 1)).map (fun v=>(v,(H:Heap)))) ((loadV Tp H0 66 (.ptr 0 0 0 1)).map (fun v=>(v,(H0:Heap)))) H H0 && true)=true):RunsTo Tp (plF F) 59 (sub [1,0] B59) (env59 (.agg [.i n,.imm .arg 3 ls]) (.a la) (.i kk) (.ptr 0 0 0 1) (.imm .lit 1 []) y7 y9 y10 y11 y21 y22 y23) H .normal ((plF F).keys 59) (env59 (.agg [.i n,.imm .arg 3 ls]) (.a la) (.i kk) (.ptr 0 0 0 1) (.imm .lit 1 []) (.ptr pb 0 0 1) y9 y10 y11 y21 y22 y23) H1 :=
  RunsTo.hin N 60 [⟨1,0,.agg [.i n,.imm .arg 3 ls],H⟩,⟨1,3,.s wb c,H0⟩,⟨1,4,.tuple [.ptr pb 0 0 1,.i r],H1⟩] fun kf hk=>⟨_,by kernel_rfl,(oC (gS1) (oP H g0 (oC (g1 kf) (oC (g2 kf (by omega)) .nil))))⟩
theorem it_c_0 (N:Nat) (n:Int) (ls la:List HV) (kk:Int) (H:Heap) (pb:Nat) {y9 y10 y11 y21 y22 y23:HV} {v0:HV} {H0:Heap} (g0:some (HV.sl H.length 0 0 none 0 1,H ++ [Blk.b []])=some (v0,H0)):RunsTo Tp (plF F) 59 (sub [1,1,0] B59) (env59 (.agg [.i n,.imm .arg 3 ls]) (.a la) (.i kk) (.ptr 0 0 0 1) (.imm .lit 1 []) (.ptr pb 0 0 1) y9 y10 y11 y21 y22 y23) H .normal ((plF F).keys 59) (env59 (.agg [.i n,.imm .arg 3 ls]) (.a la) (.i kk) (.ptr 0 0 0 1) (.imm .lit 1 []) (.ptr pb 0 0 1) v0 y10 y11 y21 y22 y23) H0 :=
  RunsTo.hin N 60 [⟨2,0,v0,H0⟩] fun kf hk=>⟨_,by kernel_rfl,(oC (g0) .nil)⟩
theorem it_d_0 (N:Nat) (n:Int) (ls la:List HV) (kk:Int) (H:Heap) (pb ob m:Nat) {y10 y11 y21 y22 y23:HV}(g0:loadV Tp H 22 (.ptr 0 0 1 1)=some (.imm .arg 3 ls)):RunsTo Tp (plF F) 59 (sub [1,1,1,0,0] B59) (env59 (.agg [.i n,.imm .arg 3 ls]) (.a la) (.i kk) (.ptr 0 0 0 1) (.imm .lit 1 []) (.ptr pb 0 0 1) (.s ob m) y10 y11 y21 y22 y23) H .normal ((plF F).keys 59) (env59 (.agg [.i n,.imm .arg 3 ls]) (.a la) (.i kk) (.ptr 0 0 0 1) (.imm .lit 1 []) (.ptr pb 0 0 1) (.s ob m) y10 y11 (.imm .arg 3 ls) (.i (ls.length:Int)) (.i 0)) H :=
  RunsTo.hin N 60 [⟨3,1,.imm .arg 3 ls,H⟩] fun kf hk=>⟨_,by kernel_rfl,(oP H g0 .nil)⟩
theorem it_l_0 (N:Nat) (n:Int) (ls la:List HV) (kk:Int) (H:Heap) (pb ob m c i:Nat) (a b w:Int) {y3 y10 y11:HV} {a0:HV} {H0:Heap} {H1:Heap} {H2:Heap} (g0:(i:Int) < (c:Int)) (g1:idxV Tp 22 (.imm .arg 3 ls) (.i (i:Int))=some (.vptr (.agg [.i a,.i b,.i w]))) (g2:some (newV (.agg [.i 0,.i 0,.i 0]) H)=some (a0,H0)) (g3:storeV Tp H0 42 (a0) (.agg [.i a,.i b,.i w])=some H1) (g4:∀ kf,callN Tp (plF F) (kf+1) 73 [.a la,.i (i:Int)] H1=some (.bool true,H2)) (gS6:(true && true)=true):RunsTo Tp (plF F) 59 (sub [1,1,1,0,1,0,0] B59) (env59 (.agg [.i n,.imm .arg 3 ls]) (.a la) (.i kk) y3 (.imm .lit 1 []) (.ptr pb 0 0 1) (.s ob m) y10 y11 (.imm .arg 3 ls) (.i (c:Int)) (.i (i:Int))) H .normal ((plF F).keys 59) (env59 (.agg [.i n,.imm .arg 3 ls]) (.a la) (.i kk) y3 (.imm .lit 1 []) (.ptr pb 0 0 1) (.s ob m) (.i (i:Int)) a0 (.imm .arg 3 ls) (.i (c:Int)) (.i (IntKind.i64.wrap ((i:Int)+1)))) H2 :=
  RunsTo.hin N 60 [⟨4,0,.bool true,H⟩,⟨5,1,.vptr (.agg [.i a,.i b,.i w]),H⟩,⟨5,3,a0,H0⟩,⟨5,5,.tuple [],H1⟩,⟨6,2,.bool true,H2⟩] fun kf hk=>⟨_,by kernel_rfl,(oB H (decide_eq_true g0) (oP H g1 (oC (g2) (oS g3 (oC (gS6) (oC (g4 kf) .nil))))))⟩
theorem it_l_1 (N:Nat) (n:Int) (ls la:List HV) (kk:Int) (H:Heap) (pb ob m c i:Nat) (a b w:Int) {y3 y10 y11:HV} {a0:HV} {H0:Heap} {H1:Heap} {H2:Heap} {a1:HV} {r0:Int} {H3:Heap} {a2:HV} {r1:Int} {H4:Heap} (g0:(i:Int) < (c:Int)) (g1:idxV Tp 22 (.imm .arg 3 ls) (.i (i:Int))=some (.vptr (.agg [.i a,.i b,.i w]))) (g2:some (newV (.agg [.i 0,.i 0,.i 0]) H)=some (a0,H0)) (g3:storeV Tp H0 42 (a0) (.agg [.i a,.i b,.i w])=some H1) (g4:∀ kf,callN Tp (plF F) (kf+1) 73 [.a la,.i (i:Int)] H1=some (.bool false,H2)) (g5:fldAddrV Tp 42 a0 0=some (a1)) (g6:loadV Tp H2 3 (a1)=some (.i a)) (g7:∀ kf,N ≤ kf → callN Tp (plF F) (kf+1) 55 [.ptr pb 0 0 1,.i a] H2=some (.i r0,H3)) (g8:fldAddrV Tp 42 a0 1=some (a2)) (g9:loadV Tp H3 3 (a2)=some (.i b)) (g10:∀ kf,N ≤ kf → callN Tp (plF F) (kf+1) 55 [.ptr pb 0 0 1,.i b] H3=some (.i r1,H4)) (g11:r0=r1) (gS6:(recL ((loadV Tp H3 3 (a2)).map (fun v=>(v,(H3:Heap)))) ((loadV Tp H2 3 (a2)).map (fun v=>(v,(H2:Heap)))) H3 H2 && true)=true):RunsTo Tp (plF F) 59 (sub [1,1,1,0,1,0,0] B59) (env59 (.agg [.i n,.imm .arg 3 ls]) (.a la) (.i kk) y3 (.imm .lit 1 []) (.ptr pb 0 0 1) (.s ob m) y10 y11 (.imm .arg 3 ls) (.i (c:Int)) (.i (i:Int))) H .normal ((plF F).keys 59) (env59 (.agg [.i n,.imm .arg 3 ls]) (.a la) (.i kk) y3 (.imm .lit 1 []) (.ptr pb 0 0 1) (.s ob m) (.i (i:Int)) a0 (.imm .arg 3 ls) (.i (c:Int)) (.i (IntKind.i64.wrap ((i:Int)+1)))) H4 :=
  RunsTo.hin N 60 [⟨4,0,.bool true,H⟩,⟨5,1,.vptr (.agg [.i a,.i b,.i w]),H⟩,⟨5,3,a0,H0⟩,⟨5,5,.tuple [],H1⟩,⟨6,2,.bool false,H2⟩,⟨6,6,a1,H2⟩,⟨6,7,.i a,H2⟩,⟨6,8,.i r0,H3⟩,⟨6,10,a2,H3⟩,⟨6,11,.i b,H3⟩,⟨6,12,.i r1,H4⟩,⟨6,13,.bool false,H4⟩] fun kf hk=>⟨_,by kernel_rfl,(oB H (decide_eq_true g0) (oP H g1 (oC (g2) (oS g3 (oC (gS6) (oC (g4 kf) (oP H2 g5 (oP H2 g6 (oC (g7 kf (by omega)) (oP H3 g8 (oP H3 g9 (oC (g10 kf (by omega)) (oB H4 (congrArg not (decide_eq_true g11)) .nil)))))))))))))⟩
theorem it_l_2 (N:Nat) (n:Int) (ls la:List HV) (kk:Int) (H:Heap) (pb ob m c i:Nat) (a b w:Int) {y3 y10 y11:HV} {a0:HV} {H0:Heap} {H1:Heap} {H2:Heap} {a1:HV} {r0:Int} {H3:Heap} {a2:HV} {r1:Int} {H4:Heap} {H5:Heap} {v0:HV} (g0:(i:Int) < (c:Int)) (g1:idxV Tp 22 (.imm .arg 3 ls) (.i (i:Int))=some (.vptr (.agg [.i a,.i b,.i w]))) (g2:some (newV (.agg [.i 0,.i 0,.i 0]) H)=some (a0,H0)) (g3:storeV Tp H0 42 (a0) (.agg [.i a,.i b,.i w])=some H1) (g4:∀ kf,callN Tp (plF F) (kf+1) 73 [.a la,.i (i:Int)] H1=some (.bool false,H2)) (g5:fldAddrV Tp 42 a0 0=some (a1)) (g6:loadV Tp H2 3 (a1)=some (.i a)) (g7:∀ kf,N ≤ kf → callN Tp (plF F) (kf+1) 55 [.ptr pb 0 0 1,.i a] H2=some (.i r0,H3)) (g8:fldAddrV Tp 42 a0 1=some (a2)) (g9:loadV Tp H3 3 (a2)=some (.i b)) (g10:∀ kf,N ≤ kf → callN Tp (plF F) (kf+1) 55 [.ptr pb 0 0 1,.i b] H3=some (.i r1,H4)) (g11:¬ (r0=r1)) (gS6:(recL ((loadV Tp H3 3 (a2)).map (fun v=>(v,(H3:Heap)))) ((loadV Tp H2 3 (a2)).map (fun v=>(v,(H2:Heap)))) H3 H2 && true)=true) (g13:appV H4 1 8 (.s ob m) [.i (i:Int)]=some (v0,H5)):RunsTo Tp (plF F) 59 (sub [1,1,1,0,1,0,0] B59) (env59 (.agg [.i n,.imm .arg 3 ls]) (.a la) (.i kk) y3 (.imm .lit 1 []) (.ptr pb 0 0 1) (.s ob m) y10 y11 (.imm .arg 3 ls) (.i (c:Int)) (.i (i:Int))) H .normal ((plF F).keys 59) (env59 (.agg [.i n,.imm .arg 3 ls]) (.a la) (.i kk) y3 (.imm .lit 1 []) (.ptr pb 0 0 1) v0 (.i (i:Int)) a0 (.imm .arg 3 ls) (.i (c:Int)) (.i (IntKind.i64.wrap ((i:Int)+1)))) H5 :=
  RunsTo.hin N 60 [⟨4,0,.bool true,H⟩,⟨5,1,.vptr (.agg [.i a,.i b,.i w]),H⟩,⟨5,3,a0,H0⟩,⟨5,5,.tuple [],H1⟩,⟨6,2,.bool false,H2⟩,⟨6,6,a1,H2⟩,⟨6,7,.i a,H2⟩,⟨6,8,.i r0,H3⟩,⟨6,10,a2,H3⟩,⟨6,11,.i b,H3⟩,⟨6,12,.i r1,H4⟩,⟨6,13,.bool true,H4⟩,⟨7,3,v0,H5⟩] fun kf hk=>⟨_,by kernel_rfl,(oB H (decide_eq_true g0) (oP H g1 (oC (g2) (oS g3 (oC (gS6) (oC (g4 kf) (oP H2 g5 (oP H2 g6 (oC (g7 kf (by omega)) (oP H3 g8 (oP H3 g9 (oC (g10 kf (by omega)) (oB H4 (congrArg not (decide_eq_false g11)) (oC (g13) .nil))))))))))))))⟩
theorem it_l_3 (N:Nat) (n:Int) (ls la:List HV) (kk:Int) (H:Heap) (pb ob m c i:Nat) (a b w:Int) {y3 y10 y11:HV}(g0:¬ ((i:Int) < (c:Int))):RunsTo Tp (plF F) 59 (sub [1,1,1,0,1,0,0] B59) (env59 (.agg [.i n,.imm .arg 3 ls]) (.a la) (.i kk) y3 (.imm .lit 1 []) (.ptr pb 0 0 1) (.s ob m) y10 y11 (.imm .arg 3 ls) (.i (c:Int)) (.i (i:Int))) H (.exit 0) ((plF F).keys 59) (env59 (.agg [.i n,.imm .arg 3 ls]) (.a la) (.i kk) y3 (.imm .lit 1 []) (.ptr pb 0 0 1) (.s ob m) y10 y11 (.imm .arg 3 ls) (.i (c:Int)) (.i (i:Int))) H :=
  RunsTo.hin N 60 [⟨4,0,.bool false,H⟩] fun kf hk=>⟨_,by kernel_rfl,(oB H (decide_eq_false g0) .nil)⟩
theorem it_z_0 (N:Nat) (n:Int) (ls la:List HV) (kk:Int) (H:Heap) (pb ob m:Nat) {y3 y10 y11 y21 y22 y23:HV}:RunsTo Tp (plF F) 59 (sub [1,1,1,1] B59) (env59 (.agg [.i n,.imm .arg 3 ls]) (.a la) (.i kk) y3 (.imm .lit 1 []) (.ptr pb 0 0 1) (.s ob m) y10 y11 y21 y22 y23) H .ret ((plF F).keys 59) (env59 (.agg [.i n,.imm .arg 3 ls]) (.a la) (.i kk) y3 (.s ob m) (.ptr pb 0 0 1) (.s ob m) y10 y11 y21 y22 y23) H :=
  RunsTo.hin N 60 [] fun kf hk=>⟨_,by kernel_rfl,.nil⟩
end
end Go.Proofs.Ytiejmoglooaalaa
end
section
open Go Go.HL
namespace Go.Proofs.Ytiejmoglooaalaa
set_option maxRecDepth 100000
open Go.Proofs.Try renaming prog → Tp
open Go.HL.HV renaming undef → Ud
section
variable {F:FuncId → Option (List HV → Option HV)}
noncomputable def B92:Code:=Try.f92.body.getD .skip
abbrev env92 (v0 v1 v3:HV):Env:=[(0,v0),(1,v1),(3,v3)]
theorem ve_a_0 (x:Int) (kb:Nat) (H:Heap) (v:Int)(g0:loadV Tp H 3 (.ptr kb 0 0 1)=some (.i v)) (g1:x=v):RunsTo Tp (plF F) 92 (sub [] B92) [(0,.i x),(1,.ptr kb 0 0 1)] H .ret ((plF F).keys 92) (env92 (.i x) (.ptr kb 0 0 1) (.bool true)) H :=
  RunsTo.hin 0 60 [⟨1,1,.i v,H⟩,⟨1,2,.bool true,H⟩] fun kf hk=>⟨_,by kernel_rfl,(oP H g0 (oB H (decide_eq_true g1) .nil))⟩
theorem ve_a_1 (x:Int) (kb:Nat) (H:Heap) (v:Int)(g0:loadV Tp H 3 (.ptr kb 0 0 1)=some (.i v)) (g1:¬ (x=v)):RunsTo Tp (plF F) 92 (sub [] B92) [(0,.i x),(1,.ptr kb 0 0 1)] H .ret ((plF F).keys 92) (env92 (.i x) (.ptr kb 0 0 1) (.bool false)) H :=
  RunsTo.hin 0 60 [⟨1,1,.i v,H⟩,⟨1,2,.bool false,H⟩] fun kf hk=>⟨_,by kernel_rfl,(oP H g0 (oB H (decide_eq_false g1) .nil))⟩
noncomputable def B107:Code:=Try.f107.body.getD .skip
abbrev env107 (v0 v1 v4 v5 v7 v8:HV):Env:=[(0,v0),(1,v1),(4,v4),(5,v5),(7,v7),(8,v8)]
theorem vi_a_0 (N:Nat) (lb m kb:Nat) (H:Heap):RunsTo Tp (plF F) 107 (sub [0] B107) [(0,.s lb m),(1,.func 92 [] [.ptr kb 0 0 1])] H .normal ((plF F).keys 107) (env107 (.s lb m) (.func 92 [] [.ptr kb 0 0 1]) (.i 0) Ud Ud Ud) H :=
  RunsTo.hin N 60 [] fun kf hk=>⟨_,by kernel_rfl,.nil⟩
theorem vi_b_0 (N:Nat) (lb m kb:Nat) (H:Heap) {y5 y7 y8:HV}:RunsTo Tp (plF F) 107 (sub [1,0,0] B107) (env107 (.s lb m) (.func 92 [] [.ptr kb 0 0 1]) (.i 0) y5 y7 y8) H .normal ((plF F).keys 107) (env107 (.s lb m) (.func 92 [] [.ptr kb 0 0 1]) (.i 0) y5 (.i (m:Int)) (.i 0)) H :=
  RunsTo.hin N 60 [] fun kf hk=>⟨_,by kernel_rfl,.nil⟩
theorem vi_l_0 (N:Nat) (lb m kb:Nat) (H:Heap) (i:Nat) (x:Int) {y5:HV} {H0:Heap} (g0:(i:Int) < (m:Int)) (g1:idxV Tp 24 (.s lb m) (.i (i:Int))=some (.ptr lb i 0 m)) (g2:loadV Tp H 3 (.ptr lb i 0 m)=some (.i x)) (g3:∀ kf,N ≤ kf → callN Tp (plF F) (kf+1) 92 [.i x,.ptr kb 0 0 1] H=some (.bool true,H0)):RunsTo Tp (plF F) 107 (sub [1,0,1,0,0] B107) (env107 (.s lb m) (.func 92 [] [.ptr kb 0 0 1]) (.i 0) y5 (.i (m:Int)) (.i (i:Int))) H .ret ((plF F).keys 107) (env107 (.s lb m) (.func 92 [] [.ptr kb 0 0 1]) (.i (i:Int)) (.i (i:Int)) (.i (m:Int)) (.i (i:Int))) H0 :=
  RunsTo.hin N 60 [⟨2,0,.bool true,H⟩,⟨4,3,.ptr lb i 0 m,H⟩,⟨4,4,.i x,H⟩,⟨4,5,.bool true,H0⟩] fun kf hk=>⟨_,by kernel_rfl,(oB H (decide_eq_true g0) (oP H g1 (oP H g2 (oC (g3 kf (by omega)) .nil))))⟩
theorem vi_l_1 (N:Nat) (lb m kb:Nat) (H:Heap) (i:Nat) (x:Int) {y5:HV} {H0:Heap} (g0:(i:Int) < (m:Int)) (g1:idxV Tp 24 (.s lb m) (.i (i:Int))=some (.ptr lb i 0 m)) (g2:loadV Tp H 3 (.ptr lb i 0 m)=some (.i x)) (g3:∀ kf,N ≤ kf → callN Tp (plF F) (kf+1) 92 [.i x,.ptr kb 0 0 1] H=some (.bool false,H0)):RunsTo Tp (plF F) 107 (sub [1,0,1,0,0] B107) (env107 (.s lb m) (.func 92 [] [.ptr kb 0 0 1]) (.i 0) y5 (.i (m:Int)) (.i (i:Int))) H .normal ((plF F).keys 107) (env107 (.s lb m) (.func 92 [] [.ptr kb 0 0 1]) (.i 0) (.i (i:Int)) (.i (m:Int)) (.i (IntKind.i64.wrap ((i:Int)+1)))) H0 :=
  RunsTo.hin N 60 [⟨2,0,.bool true,H⟩,⟨4,3,.ptr lb i 0 m,H⟩,⟨4,4,.i x,H⟩,⟨4,5,.bool false,H0⟩] fun kf hk=>⟨_,by kernel_rfl,(oB H (decide_eq_true g0) (oP H g1 (oP H g2 (oC (g3 kf (by omega)) .nil))))⟩
theorem vi_l_2 (N:Nat) (lb m kb:Nat) (H:Heap) (i:Nat) (x:Int) {y5:HV}(g0:¬ ((i:Int) < (m:Int))):RunsTo Tp (plF F) 107 (sub [1,0,1,0,0] B107) (env107 (.s lb m) (.func 92 [] [.ptr kb 0 0 1]) (.i 0) y5 (.i (m:Int)) (.i (i:Int))) H (.exit 0) ((plF F).keys 107) (env107 (.s lb m) (.func 92 [] [.ptr kb 0 0 1]) (.i 0) y5 (.i (m:Int)) (.i (i:Int))) H :=
  RunsTo.hin N 60 [⟨2,0,.bool false,H⟩] fun kf hk=>⟨_,by kernel_rfl,(oB H (decide_eq_false g0) .nil)⟩
theorem vi_z_0 (N:Nat) (lb m kb:Nat) (H:Heap) {y5 y7 y8:HV}:RunsTo Tp (plF F) 107 (sub [1,1] B107) (env107 (.s lb m) (.func 92 [] [.ptr kb 0 0 1]) (.i 0) y5 y7 y8) H .ret ((plF F).keys 107) (env107 (.s lb m) (.func 92 [] [.ptr kb 0 0 1]) (.i (-1)) y5 y7 y8) H :=
  RunsTo.hin N 60 [] fun kf hk=>⟨_,by kernel_rfl,.nil⟩
noncomputable def B90:Code:=Try.f90.body.getD .skip
abbrev env90 (v0 v1 v4 v5 v6 v7:HV):Env:=[(0,v0),(1,v1),(4,v4),(5,v5),(6,v6),(7,v7)]
theorem vd_a_0 (N:Nat) (lb m kb:Nat) (H:Heap):RunsTo Tp (plF F) 90 (sub [0] B90) [(0,.s lb m),(1,.func 92 [] [.ptr kb 0 0 1])] H .normal ((plF F).keys 90) (env90 (.s lb m) (.func 92 [] [.ptr kb 0 0 1]) (.imm .lit 1 []) Ud Ud Ud) H :=
  RunsTo.hin N 60 [] fun kf hk=>⟨_,by kernel_rfl,.nil⟩
theorem vd_b_0 (N:Nat) (lb m kb:Nat) (H:Heap) (r:Int) {y5 y6 y7:HV} {H0:Heap} (g0:∀ kf,N ≤ kf → callN Tp (plF F) (kf+1) 107 [.s lb m,.func 92 [] [.ptr kb 0 0 1]] H=some (.i r,H0)):RunsTo Tp (plF F) 90 (sub [1,0] B90) (env90 (.s lb m) (.func 92 [] [.ptr kb 0 0 1]) (.imm .lit 1 []) y5 y6 y7) H .normal ((plF F).keys 90) (env90 (.s lb m) (.func 92 [] [.ptr kb 0 0 1]) (.imm .lit 1 []) (.i r) y6 y7) H0 :=
  RunsTo.hin N 60 [⟨1,2,.i r,H0⟩] fun kf hk=>⟨_,by kernel_rfl,(oC (g0 kf (by omega)) .nil)⟩
theorem vd_c_0 (N:Nat) (lb m kb:Nat) (H:Heap) (r:Int) {y6 y7:HV}(g0:r=(-1)):RunsTo Tp (plF F) 90 (sub [1,1,0] B90) (env90 (.s lb m) (.func 92 [] [.ptr kb 0 0 1]) (.imm .lit 1 []) (.i r) y6 y7) H .ret ((plF F).keys 90) (env90 (.s lb m) (.func 92 [] [.ptr kb 0 0 1]) (.s lb m) (.i r) y6 y7) H :=
  RunsTo.hin N 60 [⟨2,1,.bool true,H⟩] fun kf hk=>⟨_,by kernel_rfl,(oB H (decide_eq_true g0) .nil)⟩
theorem vd_c_1 (N:Nat) (lb m kb:Nat) (H:Heap) (r:Int) {y6 y7:HV}(g0:¬ (r=(-1))):RunsTo Tp (plF F) 90 (sub [1,1,0] B90) (env90 (.s lb m) (.func 92 [] [.ptr kb 0 0 1]) (.imm .lit 1 []) (.i r) y6 y7) H .normal ((plF F).keys 90) (env90 (.s lb m) (.func 92 [] [.ptr kb 0 0 1]) (.imm .lit 1 []) (.i r) y6 y7) H :=
  RunsTo.hin N 60 [⟨2,1,.bool false,H⟩] fun kf hk=>⟨_,by kernel_rfl,(oB H (decide_eq_false g0) .nil)⟩
theorem vd_d_0 (N:Nat) (lb m kb:Nat) (H:Heap) (p:Nat) {y6 y7:HV}:RunsTo Tp (plF F) 90 (sub [1,1,1,0,0] B90) (env90 (.s lb m) (.func 92 [] [.ptr kb 0 0 1]) (.imm .lit 1 []) (.i (p:Int)) y6 y7) H .normal ((plF F).keys 90) (env90 (.s lb m) (.func 92 [] [.ptr kb 0 0 1]) (.imm .lit 1 []) (.i (p:Int)) (.i (IntKind.i64.wrap ((p:Int)+1))) y7) H :=
  RunsTo.hin N 60 [] fun kf hk=>⟨_,by kernel_rfl,.nil⟩
theorem vd_l_0 (N:Nat) (lb m kb:Nat) (H:Heap) (p i:Nat) (x:Int) {y7:HV} {H0:Heap} (g0:(i:Int) < (m:Int)) (g1:idxV Tp 24 (.s lb m) (.i (i:Int))=some (.ptr lb i 0 m)) (g2:loadV Tp H 3 (.ptr lb i 0 m)=some (.i x)) (g3:∀ kf,N ≤ kf → callN Tp (plF F) (kf+1) 92 [.i x,.ptr kb 0 0 1] H=some (.bool true,H0)):RunsTo Tp (plF F) 90 (sub [1,1,1,0,1,0,0] B90) (env90 (.s lb m) (.func 92 [] [.ptr kb 0 0 1]) (.imm .lit 1 []) (.i (p:Int)) (.i (i:Int)) y7) H .normal ((plF F).keys 90) (env90 (.s lb m) (.func 92 [] [.ptr kb 0 0 1]) (.imm .lit 1 []) (.i (p:Int)) (.i (IntKind.i64.wrap ((i:Int)+1))) (.i x)) H0 :=
  RunsTo.hin N 60 [⟨5,3,.bool true,H⟩,⟨7,2,.ptr lb i 0 m,H⟩,⟨7,3,.i x,H⟩,⟨8,2,.bool true,H0⟩] fun kf hk=>⟨_,by kernel_rfl,(oB H (decide_eq_true g0) (oP H g1 (oP H g2 (oC (g3 kf (by omega)) .nil))))⟩
theorem vd_l_1 (N:Nat) (lb m kb:Nat) (H:Heap) (p i:Nat) (x:Int) {y7:HV} {H0:Heap} {H1:Heap} (g0:(i:Int) < (m:Int)) (g1:idxV Tp 24 (.s lb m) (.i (i:Int))=some (.ptr lb i 0 m)) (g2:loadV Tp H 3 (.ptr lb i 0 m)=some (.i x)) (g3:∀ kf,N ≤ kf → callN Tp (plF F) (kf+1) 92 [.i x,.ptr kb 0 0 1] H=some (.bool false,H0)) (g4:idxV Tp 24 (.s lb m) (.i (p:Int))=some (.ptr lb p 0 m)) (g5:storeV Tp H0 3 (.ptr lb p 0 m) (.i x)=some H1):RunsTo Tp (plF F) 90 (sub [1,1,1,0,1,0,0] B90) (env90 (.s lb m) (.func 92 [] [.ptr kb 0 0 1]) (.imm .lit 1 []) (.i (p:Int)) (.i (i:Int)) y7) H .normal ((plF F).keys 90) (env90 (.s lb m) (.func 92 [] [.ptr kb 0 0 1]) (.imm .lit 1 []) (.i (IntKind.i64.wrap ((p:Int)+1))) (.i (IntKind.i64.wrap ((i:Int)+1))) (.i x)) H1 :=
  RunsTo.hin N 60 [⟨5,3,.bool true,H⟩,⟨7,2,.ptr lb i 0 m,H⟩,⟨7,3,.i x,H⟩,⟨8,2,.bool false,H0⟩,⟨9,3,.ptr lb p 0 m,H0⟩,⟨9,4,.tuple [],H1⟩] fun kf hk=>⟨_,by kernel_rfl,(oB H (decide_eq_true g0) (oP H g1 (oP H g2 (oC (g3 kf (by omega)) (oP H0 g4 (oS g5 .nil))))))⟩
theorem vd_l_2 (N:Nat) (lb m kb:Nat) (H:Heap) (p i:Nat) (x:Int) {y7:HV}(g0:¬ ((i:Int) < (m:Int))):RunsTo Tp (plF F) 90 (sub [1,1,1,0,1,0,0] B90) (env90 (.s lb m) (.func 92 [] [.ptr kb 0 0 1]) (.imm .lit 1 []) (.i (p:Int)) (.i (i:Int)) y7) H (.exit 0) ((plF F).keys 90) (env90 (.s lb m) (.func 92 [] [.ptr kb 0 0 1]) (.imm .lit 1 []) (.i (p:Int)) (.i (i:Int)) y7) H :=
  RunsTo.hin N 60 [⟨5,3,.bool false,H⟩] fun kf hk=>⟨_,by kernel_rfl,(oB H (decide_eq_false g0) .nil)⟩
theorem vd_z_0 (N:Nat) (lb m kb:Nat) (H:Heap) (p:Nat) {y6 y7:HV} {H0:Heap} (g0:sliceV Tp 24 (.s lb m) (some (.i (p:Int))) none none=some (.sl lb p (m - p) none m 1)) (g1:clearV Tp H 24 (.sl lb p (m - p) none m 1)=some (.tuple [],H0)) (g2:sliceV Tp 24 (.s lb m) none (some (.i (p:Int))) none=some (.sl lb 0 p none m 1)):RunsTo Tp (plF F) 90 (sub [1,1,1,1] B90) (env90 (.s lb m) (.func 92 [] [.ptr kb 0 0 1]) (.imm .lit 1 []) (.i (p:Int)) y6 y7) H .ret ((plF F).keys 90) (env90 (.s lb m) (.func 92 [] [.ptr kb 0 0 1]) (.sl lb 0 p none m 1) (.i (p:Int)) y6 y7) H0 :=
  RunsTo.hin N 60 [⟨11,2,.sl lb p (m - p) none m 1,H⟩,⟨11,3,.tuple [],H0⟩,⟨12,2,.sl lb 0 p none m 1,H0⟩] fun kf hk=>⟨_,by kernel_rfl,(oP H g0 (oC (g1) (oP H0 g2 .nil)))⟩
noncomputable def B91:Code:=Try.f91.body.getD .skip
abbrev env91 (v0 v2:HV):Env:=[(0,v0),(2,v2)]
theorem vc_a_1 (la:List HV) (H:Heap) {H0:Heap} {v0:HV} (g0:nilTest Tp .eql 24 (.a la)=some (.bool false)) (g1:appV H 1 8 (.imm .lit 1 []) la=some (v0,H0)):RunsTo Tp (plF F) 91 (sub [] B91) [(0,.a la)] H .ret ((plF F).keys 91) (env91 (.a la) v0) H0 :=
  RunsTo.hin 0 60 [⟨1,1,.bool false,H⟩,⟨3,2,v0,H0⟩] fun kf hk=>⟨_,by kernel_rfl,(oP H g0 (oC (g1) .nil))⟩
noncomputable def B72:Code:=Try.f72.body.getD .skip
abbrev env72 (v0 v1 v3 v4:HV):Env:=[(0,v0),(1,v1),(3,v3),(4,v4)]
theorem vo_a_0 (N:Nat) (la:List HV) (v:Int) (cb c p:Nat):RunsTo Tp (plF F) 72 (sub [0] B72) [(0,.a la),(1,.i v)] [] .normal ((plF F).keys 72) (env72 (.a la) (.i v) (.ptr 0 0 0 1) (.imm .lit 1 [])) [.arr 1 [.i v] true 0] :=
  RunsTo.hin N 60 [] fun kf hk=>⟨_,by kernel_rfl,.nil⟩
theorem vo_b_0 (N:Nat) (la:List HV) (v:Int) (H:Heap) (cb c p:Nat) {H0:Heap} {H1:Heap} (g0:∀ kf,callN Tp (plF F) (kf+1) 91 [.a la] H=some (.s cb c,H0)) (g1:∀ kf,N ≤ kf → callN Tp (plF F) (kf+1) 90 [.s cb c,.func 92 [] [.ptr 0 0 0 1]] H0=some (.sl cb 0 p none c 1,H1)):RunsTo Tp (plF F) 72 (sub [1] B72) (env72 (.a la) (.i v) (.ptr 0 0 0 1) (.imm .lit 1 [])) H .ret ((plF F).keys 72) (env72 (.a la) (.i v) (.ptr 0 0 0 1) (.sl cb 0 p none c 1)) H1 :=
  RunsTo.hin N 60 [⟨1,1,.s cb c,H0⟩,⟨1,3,.sl cb 0 p none c 1,H1⟩] fun kf hk=>⟨_,by kernel_rfl,(oC (g0 kf) (oC (g1 kf (by omega)) .nil))⟩
end
end Go.Proofs.Ytiejmoglooaalaa
end
section
open Go Go.HL
namespace Go.Proofs.Ytiejmoglooaalaa
variable {F:FuncId → Option (List HV → Option HV)}
open Go.Proofs.Try renaming prog → Tp
open Go.HL.HV renaming undef → Ud
theorem app_nil {l:List Int} (hne:l ≠ []) (hl:l.length ≤ 1000):appV [] 1 8 (.imm .lit 1 []) (l.map encI)=some (.sl 0 0 (l.map encI).length none (l.map encI).length 1,[.arr 1 (l.map encI) true 0]):=by
  have hne:l.map encI ≠ []:=by simpa using hne
  simp only [appV,if_neg hne]
  rw [if_pos ⟨.inr trivial,by simp only [List.length_nil,List.length_map,roomMax]; omega⟩,ints_bnd]
  simp
theorem nil_false {l:List Int} (hne:l ≠ []):nilTest Tp .eql 24 (.imm .arg 1 (l.map encI))=some (.bool false):=by
  cases l with
  | nil=>exact absurd rfl hne
  | cons v l=>simp only [nilTest,u24,knownNil,List.map_cons,nilOp]
def clone91:List HV → Option HV:=f1 kL fun l=>if l ≠ []∧l.length ≤ 900 then some (.own 1 (l.map encI)) else none
theorem res91:Try.f91.results.toList=[.tmp 2]:=by kernel_rfl
theorem clone_ok:PrimOk Tp 91 clone91:=by
  refine primOk_pure (pol:=plF fun _=>none) (fn:=Try.f91) (cd:=B91) follows_mixed (sound_prim (fun _=>none) (fun g f h=>by cases h)) (by kernel_rfl) (by kernel_rfl) (fnok (fun _=>none) _ _ (by kernel_rfl)) (by kernel_rfl) ?_
  intro args res h
  obtain ⟨l,rfl,hq⟩:=f1_inv h
  split at hq
  case isFalse=>cases hq
  rename_i hc
  cases hq
  have a:=vc_a_1 (F:=fun _=>none) (l.map encI) [] (nil_false hc.1) (app_nil hc.1 (by omega))
  refine ⟨_,_,_,.sl 0 0 (l.map encI).length none (l.map encI).length 1,a,by simp,by simp only [resultsV,res91]; rfl,?_⟩
  exact res_li (b:=0) rfl (by simp)
theorem info3c:(Tp.info? 3).map (fun i=>(i.size,i.bytes,i.zero.map ofConst))=some (1,8,some (.int .i64 0)):=by kernel_rfl
theorem clear_ok {H:Heap} {b n:Nat} {T:List Int} (hb:H[b]?=some (bI T)) (hT:T.length=n) {k:Nat} (hk:k ≤ n):clearV Tp H 24 (.sl b k (n - k) none n 1)=some (.tuple [],H.set b (bI (T.take k ++ List.replicate (n - k) 0))):=by
  by_cases h0:n - k=0
  · have:k=n:=by omega
    subst this
    simp only [clearV,u24,Nat.sub_self,if_true,List.replicate_zero,List.append_nil]
    rw [List.take_of_length_le (by omega),set_same hb]
  · have i3:=info3c
    cases hi:Tp.info? 3 with
    | none=>rw [hi] at i3; cases i3
    | some i =>
      rw [hi] at i3
      simp only [Option.map_some,Option.some.injEq,Prod.mk.injEq] at i3
      obtain ⟨e1,e2,hz⟩:=i3
      cases hz2:i.zero with
      | none=>rw [hz2] at hz; cases hz
      | some z =>
        rw [hz2] at hz
        simp only [Option.map_some,Option.some.injEq] at hz
        simp only [clearV,u24,if_neg h0,hi,hb,hz2]
        rw [hz,if_pos ⟨trivial,e1,by simp [hT],by simp [hT]; omega,rfl,rfl,by omega⟩]
        have e3:splice (T.map encI) k (List.replicate (n - k) (HV.int .i64 0))=(T.take k ++ List.replicate (n - k) 0).map encI:=by
          simp only [splice,List.length_replicate,List.map_append,List.map_take,List.map_replicate]
          rw [List.drop_of_length_le (by simp [hT]; omega),List.append_nil]
          rfl
        rw [e3]
theorem eq_call (h92:F 92=none) {H:Heap} {kb:Nat} {v:Int} (hb:H[kb]?=some (bI [v])) (x:Int):ClF F 92 [.int .i64 x,.ptr kb 0 0 1] H (.bool (decide (x=v))) H:=by
  have hr:Try.f92.results.toList=[.tmp 3]:=by kernel_rfl
  have ld:loadV Tp H 3 (.ptr kb 0 0 1)=some (.int .i64 v):=load_out (o:=[v]) hb (y:=0) (by simp)
  by_cases c:x=v
  · have h:=CallsTo.shared (P:=Tp) (pol:=plF F) (g:=92) (fn:=Try.f92) (cd:=B92) (args:=[.int .i64 x,.ptr kb 0 0 1]) (v:=.bool true) h92 (by kernel_rfl) (by kernel_rfl) (by kernel_rfl) (ve_a_0 (F:=F) x kb H v ld c) (by kernel_rfl) (by simp) (by simp only [resultsV,hr]; rfl)
    rw [gc_eq _ rfl] at h
    rw [decide_eq_true c]; exact h
  · have h:=CallsTo.shared (P:=Tp) (pol:=plF F) (g:=92) (fn:=Try.f92) (cd:=B92) (args:=[.int .i64 x,.ptr kb 0 0 1]) (v:=.bool false) h92 (by kernel_rfl) (by kernel_rfl) (by kernel_rfl) (ve_a_1 (F:=F) x kb H v ld c) (by kernel_rfl) (by simp) (by simp only [resultsV,hr]; rfl)
    rw [gc_eq _ rfl] at h
    rw [decide_eq_false c]; exact h
theorem ixf_call (h92:F 92=none) (h107:F 107=none) (l:List Int) (v:Int) (hl:l.length ≤ 900) :
    ∃ r:Int,ClF F 107 [.sl 1 0 l.length none l.length 1,.func 92 [] [.ptr 0 0 0 1]] [bI [v],bI l] (.int .i64 r) [bI [v],bI l]∧((r=-1∧v ∉ l) ∨ ∃ m:Nat,r=(m:Int)∧m < l.length∧l.getD m 0=v∧∀ i,i < m → l.getD i 0 ≠ v):=by
  have cl:∀ x,∃ N,∀ kf,N ≤ kf → callN Tp (plF F) (kf+1) 92 [.int .i64 x,.ptr 0 0 0 1] [bI [v],bI l]=some (.bool (decide (x=v)),[bI [v],bI l]):=fun x=>CallsTo.from (eq_call h92 (kb:=0) rfl x)
  have ld:∀ i,i < l.length → loadV Tp [bI [v],bI l] 3 (.ptr 1 i 0 l.length)=some (.int .i64 (l.getD i 0)):=fun i hi=>load_out (H:=[bI [v],bI l]) (k:=1) rfl hi
  have go:∀ m,m ≤ l.length → (∀ i,i < m → l.getD i 0 ≠ v) → ∀ i,i < m → RunsTo Tp (plF F) 107 (sub [1,0,1,0,0] B107) ((env107 (.sl 1 0 l.length none l.length 1) (.func 92 [] [.ptr 0 0 0 1]) (.int .i64 0) Ud (.int .i64 (l.length:Int)) (.int .i64 (i:Int)))) [bI [v],bI l] .normal ((plF F).keys 107) ((env107 (.sl 1 0 l.length none l.length 1) (.func 92 [] [.ptr 0 0 0 1]) (.int .i64 0) (.int .i64 (i:Int)) (.int .i64 (l.length:Int)) (.int .i64 ((i+1:Nat):Int)))) [bI [v],bI l]:=fun m hm' hn' i hi=>by
    obtain ⟨N,cN⟩:=cl (l.getD i 0)
    rw [decide_eq_false (hn' i hi)] at cN
    have s:=vi_l_1 (F:=F) N 1 l.length 0 [bI [v],bI l] i (l.getD i 0) (y5:=Ud) (by omega) (idxS u24 z3 (by omega)) (ld i (by omega)) cN
    rw [wrap_succ (by omega)] at s
    exact s
  have a:=vi_a_0 (F:=F) 0 1 l.length 0 [bI [v],bI l]
  have b:=vi_b_0 (F:=F) 0 1 l.length 0 [bI [v],bI l] (y5:=Ud) (y7:=Ud) (y8:=Ud)
  have hr:Try.f107.results.toList=[.tmp 4]:=by kernel_rfl
  rcases first_at 0 (fun x=>x=v) l with ⟨m,h1,h2,h3⟩ | hno
  · obtain ⟨N,cN⟩:=cl (l.getD m 0)
    rw [decide_eq_true h2] at cN
    have r:=count (pol':=plF F) (f:=107) (E:=fun i=>(env107 (.sl 1 0 l.length none l.length 1) (.func 92 [] [.ptr 0 0 0 1]) (.int .i64 0) Ud (.int .i64 (l.length:Int)) (.int .i64 (i:Int)))) (Hs:=fun _=>[bI [v],bI l]) m (go m (by omega) h3) (fun i _=>by kernel_rfl) (fun i _=>gc_eq _ rfl) (vi_l_0 (F:=F) N 1 l.length 0 [bI [v],bI l] m (l.getD m 0) (y5:=Ud) (by omega) (idxS u24 z3 (by omega)) (ld m (by omega)) cN) (by simp) (c:=sub [1,0,1,0] B107) (by kernel_rfl) (fun i _=>by kernel_rfl)
    have t:=sq (a) (sqo (sq (b) (RunsTo.block_ret (i:=0) (c:=sub [1,0,1] B107) (r) (by kernel_rfl)) (c:=sub [1,0] B107)) (c:=sub [1] B107) (b:=sub [1,1] B107)) (c:=B107)
    have h:=CallsTo.shared (P:=Tp) (pol:=plF F) (g:=107) (fn:=Try.f107) (cd:=B107) (args:=[.sl 1 0 l.length none l.length 1,.func 92 [] [.ptr 0 0 0 1]]) (v:=.int .i64 (m:Int)) h107 (by kernel_rfl) (by kernel_rfl) (by kernel_rfl) t (by kernel_rfl) (by simp) (by simp only [resultsV,hr]; rfl)
    rw [gc_eq _ rfl] at h
    exact ⟨_,h,.inr ⟨m,rfl,h1,h2,h3⟩⟩
  · have r:=count (pol':=plF F) (f:=107) (E:=fun i=>(env107 (.sl 1 0 l.length none l.length 1) (.func 92 [] [.ptr 0 0 0 1]) (.int .i64 0) Ud (.int .i64 (l.length:Int)) (.int .i64 (i:Int)))) (Hs:=fun _=>[bI [v],bI l]) l.length (go l.length (Nat.le_refl _) fun i hi=>hno _ (mem_getD _ hi)) (fun i _=>by kernel_rfl) (fun i _=>gc_eq _ rfl) (vi_l_2 (F:=F) 0 1 l.length 0 [bI [v],bI l] l.length 0 (y5:=Ud) (by omega)) (by simp) (c:=sub [1,0,1,0] B107) (by kernel_rfl) (fun i _=>by kernel_rfl)
    have z:=vi_z_0 (F:=F) 0 1 l.length 0 [bI [v],bI l] (y5:=Ud) (y7:=.int .i64 (l.length:Int)) (y8:=.int .i64 (l.length:Int))
    have t:=sq (a) (sq (sq (b) (bke (c:=sub [1,0,1] B107) (r)) (c:=sub [1,0] B107)) (z) (c:=sub [1] B107)) (c:=B107)
    have h:=CallsTo.shared (P:=Tp) (pol:=plF F) (g:=107) (fn:=Try.f107) (cd:=B107) (args:=[.sl 1 0 l.length none l.length 1,.func 92 [] [.ptr 0 0 0 1]]) (v:=.int .i64 (-1)) h107 (by kernel_rfl) (by kernel_rfl) (by kernel_rfl) t (by kernel_rfl) (by simp) (by simp only [resultsV,hr]; rfl)
    rw [gc_eq _ rfl] at h
    exact ⟨_,h,.inl ⟨rfl,fun hv=>hno v hv rfl⟩⟩
def wo (l:List Int) (v:Int):List Int:=l.filter fun x=>decide (x ≠ v)
def dT (l:List Int) (v:Int) (i:Nat):List Int:=wo (l.take i) v ++ l.drop (wo (l.take i) v).length
theorem wo_le (l:List Int) (v:Int):(wo l v).length ≤ l.length:=List.length_filter_le _ _
theorem dT_len (l:List Int) (v:Int) {i:Nat} (hi:i ≤ l.length):(dT l v i).length=l.length:=by
  have:=wo_le (l.take i) v
  rw [List.length_take] at this
  rw [dT,List.length_append,List.length_drop]; omega
theorem dT_get (l:List Int) (v:Int) {i:Nat} (hi:i < l.length):(dT l v i).getD i 0=l.getD i 0:=by
  have:=wo_le (l.take i) v
  rw [List.length_take] at this
  simp only [List.getD,dT]
  rw [List.getElem?_append_right (by omega),List.getElem?_drop,show (wo (l.take i) v).length+(i - (wo (l.take i) v).length)=i by omega]
theorem wo_succ (l:List Int) (v:Int) {i:Nat} (hi:i < l.length):wo (l.take (i+1)) v=if l.getD i 0=v then wo (l.take i) v else wo (l.take i) v ++ [l.getD i 0]:=by
  rw [take_snoc hi,wo,List.filter_append]
  by_cases c:l.getD i 0=v
  · rw [if_pos c,List.filter_cons_of_neg (by simpa using c)]; simp [wo]
  · rw [if_neg c,List.filter_cons_of_pos (by simpa using c)]; rfl
theorem dT_set (l:List Int) (v:Int) {i:Nat} (hi:i < l.length) (c:l.getD i 0 ≠ v):(dT l v i).set (wo (l.take i) v).length (l.getD i 0)=dT l v (i+1):=by
  have:=wo_le (l.take i) v
  rw [List.length_take] at this
  rw [dT,List.set_append_right _ _ (Nat.le_refl _),Nat.sub_self,dT,wo_succ l v hi,if_neg c,List.length_append,List.length_singleton,List.append_assoc]
  refine congrArg _ ?_
  rw [List.drop_eq_getElem_cons (by omega)]
  rfl
theorem del_call (h90:F 90=none) (h92:F 92=none) (h107:F 107=none) (l:List Int) (v:Int) (hl:l.length ≤ 900) :
    ∃ T,ClF F 90 [.sl 1 0 l.length none l.length 1,.func 92 [] [.ptr 0 0 0 1]] [bI [v],bI l] (.sl 1 0 (wo l v).length none l.length 1) [bI [v],bI (wo l v ++ T)]∧(wo l v ++ T).length=l.length:=by
  obtain ⟨r,hc,hr⟩:=ixf_call h92 h107 l v hl
  obtain ⟨N,c107⟩:=CallsTo.from hc
  have a:=vd_a_0 (F:=F) 0 1 l.length 0 [bI [v],bI l]
  have b:=vd_b_0 (F:=F) N 1 l.length 0 [bI [v],bI l] r (y5:=Ud) (y6:=Ud) (y7:=Ud) c107
  have hres:Try.f90.results.toList=[.tmp 4]:=by kernel_rfl
  rcases hr with ⟨rfl,hno⟩ | ⟨m,rfl,hm1,hm2,hm3⟩
  · have c:=vd_c_0 (F:=F) 0 1 l.length 0 [bI [v],bI l] (-1) (y6:=Ud) (y7:=Ud) rfl
    have t:=sq (a) (sq (b) (sqo (c) (c:=sub [1,1] B90) (b:=sub [1,1,1] B90)) (c:=sub [1] B90)) (c:=B90)
    have h:=CallsTo.shared (P:=Tp) (pol:=plF F) (g:=90) (fn:=Try.f90) (cd:=B90) (args:=[.sl 1 0 l.length none l.length 1,.func 92 [] [.ptr 0 0 0 1]]) (v:=.sl 1 0 l.length none l.length 1) h90 (by kernel_rfl) (by kernel_rfl) (by kernel_rfl) t (by kernel_rfl) (by simp) (by simp only [resultsV,hres]; rfl)
    rw [gc_eq _ rfl] at h
    have e:wo l v=l:=List.filter_eq_self.2 fun x hx=>decide_eq_true fun c=>hno (c ▸ hx)
    rw [e]
    exact ⟨[],by rw [List.append_nil]; exact h,by simp⟩
  · have c:=vd_c_1 (F:=F) 0 1 l.length 0 [bI [v],bI l] (m:Int) (y6:=Ud) (y7:=Ud) (by omega)
    have d:=vd_d_0 (F:=F) 0 1 l.length 0 [bI [v],bI l] m (y6:=Ud) (y7:=Ud)
    have ew:∀ i,i ≤ m → wo (l.take i) v=l.take i:=fun i hi=>List.filter_eq_self.2 fun x hx=>decide_eq_true fun c=>by
      obtain ⟨j,hj,rfl⟩:=List.getElem_of_mem hx
      rw [List.length_take] at hj
      have:=hm3 j (by omega)
      rw [getD_at (by omega)] at this
      rw [List.getElem_take] at c
      exact this c
    have em:wo (l.take (m+1)) v=l.take m:=by rw [wo_succ l v hm1,if_pos hm2,ew m (Nat.le_refl _)]
    have eml:(wo (l.take (m+1)) v).length=m:=by rw [em,List.length_take]; omega
    have r:=count (pol':=plF F) (f:=90) (E:=fun i=>(env90 (.sl 1 0 l.length none l.length 1) (.func 92 [] [.ptr 0 0 0 1]) (.imm .lit 1 []) (.int .i64 ((wo (l.take (m+1+i)) v).length:Int)) (.int .i64 (((m+1+i):Nat):Int)) Ud)) (Hs:=fun i=>[bI [v],bI (dT l v (m+1+i))]) (l.length - (m+1)) (E0:=fun i=>(env90 (.sl 1 0 l.length none l.length 1) (.func 92 [] [.ptr 0 0 0 1]) (.imm .lit 1 []) (.int .i64 ((wo (l.take (m+1+(i+1))) v).length:Int)) (.int .i64 (((m+1+(i+1)):Nat):Int)) (.int .i64 (l.getD (m+1+i) 0)))) (H1:=fun i=>[bI [v],bI (dT l v (m+1+(i+1)))])
      (fun i hi=>by
        generalize hj:m+1+i=j
        have hj2:m+1+(i+1)=j+1:=by omega
        rw [hj2]
        have hjl:j < l.length:=by omega
        have hdl:=dT_len l v (i:=j) (by omega)
        have ld:=load_out (H:=[bI [v],bI (dT l v j)]) (k:=1) (o:=dT l v j) rfl (y:=j) (by omega)
        rw [hdl,dT_get l v hjl] at ld
        obtain ⟨N,cN⟩:=CallsTo.from (eq_call (F:=F) h92 (H:=[bI [v],bI (dT l v j)]) (kb:=0) rfl (l.getD j 0))
        have hws:=wo_succ l v hjl
        have hwl:=wo_le (l.take j) v
        rw [List.length_take] at hwl
        by_cases cv:l.getD j 0=v
        · rw [decide_eq_true cv] at cN
          rw [if_pos cv] at hws
          have s:=vd_l_0 (F:=F) N 1 l.length 0 [bI [v],bI (dT l v j)] (wo (l.take j) v).length j (l.getD j 0) (y7:=Ud) (by omega) (idxS u24 z3 (by omega)) ld cN
          rw [wrap_succ (by omega)] at s
          have:dT l v (j+1)=dT l v j:=by rw [dT,hws]; rfl
          rw [this,hws]
          exact s
        · rw [decide_eq_false cv] at cN
          rw [if_neg cv] at hws
          have st:=store_out (H:=[bI [v],bI (dT l v j)]) (k:=1) (o:=dT l v j) rfl (y:=(wo (l.take j) v).length) (by omega) (l.getD j 0)
          rw [hdl,dT_set l v hjl cv] at st
          have s:=vd_l_1 (F:=F) N 1 l.length 0 [bI [v],bI (dT l v j)] (wo (l.take j) v).length j (l.getD j 0) (y7:=Ud) (by omega) (idxS u24 z3 (by omega)) ld cN (idxS u24 z3 (by omega)) st
          rw [wrap_succ (by omega),wrap_succ (by omega)] at s
          have el:(wo (l.take (j+1)) v).length=(wo (l.take j) v).length+1:=by rw [hws]; simp
          rw [← el] at s
          exact s) (fun i _=>by kernel_rfl) (fun i _=>gc_eq _ rfl) (vd_l_2 (F:=F) 0 1 l.length 0 [bI [v],bI (dT l v (m+1+(l.length - (m+1))))] (wo (l.take (m+1+(l.length - (m+1)))) v).length (m+1+(l.length - (m+1))) 0 (y7:=Ud) (by omega)) (by simp) (c:=sub [1,1,1,0,1,0] B90) (by kernel_rfl) (fun i _=>by kernel_rfl)
    have e0:dT l v (m+1+0)=l:=by rw [Nat.add_zero,dT,eml,em,List.take_append_drop]
    have en:m+1+(l.length - (m+1))=l.length:=by omega
    simp only [e0,en,Nat.add_zero,eml,List.take_length] at r
    rw [wrap_succ (by omega)] at d
    have hdl:=dT_len l v (Nat.le_refl l.length)
    have hwl:=wo_le l v
    have hcl:=clear_ok (H:=[bI [v],bI (dT l v l.length)]) (b:=1) rfl hdl hwl
    have hdt:(dT l v l.length).take (wo l v).length=wo l v:=by
      rw [dT,List.take_length,List.take_append_of_le_length (Nat.le_refl _),List.take_of_length_le (Nat.le_refl _)]
    rw [hdt] at hcl
    have z:=vd_z_0 (F:=F) 0 1 l.length 0 [bI [v],bI (dT l v l.length)] (wo l v).length (y6:=.int .i64 (l.length:Int)) (y7:=Ud) (slice_lo hwl) hcl (slice_hi hwl)
    have t:=sq (a) (sq (b) (sq (c) (sq (sq (d) (bke (c:=sub [1,1,1,0,1] B90) (r)) (c:=sub [1,1,1,0] B90)) (z) (c:=sub [1,1,1] B90)) (c:=sub [1,1] B90)) (c:=sub [1] B90)) (c:=B90)
    have h:=CallsTo.shared (P:=Tp) (pol:=plF F) (g:=90) (fn:=Try.f90) (cd:=B90) (args:=[.sl 1 0 l.length none l.length 1,.func 92 [] [.ptr 0 0 0 1]]) (v:=.sl 1 0 (wo l v).length none l.length 1) h90 (by kernel_rfl) (by kernel_rfl) (by kernel_rfl) t (by kernel_rfl) (by simp) (by simp only [resultsV,hres]; rfl)
    rw [gc_eq (H:=[bI [v],bI l]) (H':=([bI [v],bI (dT l v l.length)].set 1 (bI (wo l v ++ List.replicate (l.length - (wo l v).length) 0)))) _ rfl] at h
    exact ⟨_,h,by rw [List.length_append,List.length_replicate]; omega⟩
theorem resCell_cut {H:Heap} {no:List Nat} {b m n mx:Nat} {els:List HV} (hb:H[b]?=some (.arr 1 els true mx)) (hm:els.length=n) (hk:m ≤ n) (hf:mapO (frz H no 4) (els.take m)=some (els.take m)):resCell H no false (.sl b 0 m none n 1)=some (.own 1 (els.take m)):=by
  have hv:view H b 0 m n 1=some (els.take m):=by
    simp only [view,hb]
    rw [if_pos ⟨hm.symm,by omega,trivial⟩]
    simp
  have hr:(resElem H no false)=frz H no 4:=by funext v; rfl
  simp only [resCell,hb,if_true,hv,hr,hf]
def without72:List HV → Option HV:=f2 kL kI fun l v=>if l ≠ []∧l.length ≤ 900 then some (.own 1 ((wo l v).map encI)) else none
theorem res72:Try.f72.results.toList=[.tmp 4]:=by kernel_rfl
def prWo:FuncId → Option (List HV → Option HV):=fun g=>if g == 91 then some clone91 else none
theorem soundWo (n:Nat):CallSound Tp (callN Tp (plF prWo) n):=sound_prim _ (fun g f h=>by
  unfold prWo at h
  split at h
  · rename_i hg; cases h; rw [eq_of_beq hg]; exact clone_ok
  · cases h) n
theorem without_ok:PrimOk Tp 72 without72:=by
  refine primOk_pure (pol:=plF prWo) (fn:=Try.f72) (cd:=B72) follows_mixed soundWo (by kernel_rfl) (by kernel_rfl) (fnok prWo _ _ (by kernel_rfl)) (by kernel_rfl) ?_
  intro args res h
  obtain ⟨l,v,rfl,hq⟩:=f2_inv h
  split at hq
  case isFalse=>cases hq
  rename_i hc
  cases hq
  have a:=vo_a_0 (F:=prWo) 0 (l.map encI) v 0 0 0
  have c91:=at1 (pol':=plF prWo) (g:=91) (c1:=kL) (f:=fun l=>if l ≠ []∧l.length ≤ 900 then some (.own 1 (l.map encI)) else none) (H:=[bI [v]]) (by kernel_rfl) (ShL_imm _ l) (if_pos hc)
  rw [recv_ints] at c91
  obtain ⟨T,c90,hT⟩:=del_call (F:=prWo) (by kernel_rfl) (by kernel_rfl) (by kernel_rfl) l v hc.2
  obtain ⟨N,c90⟩:=CallsTo.from c90
  have b:=vo_b_0 (F:=prWo) N (l.map encI) v [bI [v]] 1 l.length (wo l v).length c91 c90
  refine ⟨_,_,_,.sl 1 0 (wo l v).length none l.length 1,sq (a) (b) (c:=B72),by simp,by simp only [resultsV,res72]; rfl,?_⟩
  have hr:=resCell_cut (H:=[bI [v],bI (wo l v ++ T)]) (no:=[1]) (b:=1) (m:=(wo l v).length) (n:=l.length) (mx:=0) (els:=(wo l v ++ T).map encI) rfl (by rw [List.length_map]; exact hT) (wo_le l v) (by rw [← List.map_take,List.take_append_of_le_length (Nat.le_refl _),List.take_of_length_le (Nat.le_refl _)]; exact mapO_self (fun r=>frz_int 4 r) _)
  rw [← List.map_take,List.take_append_of_le_length (Nat.le_refl _),List.take_of_length_le (Nat.le_refl _)] at hr
  have ho:ownedAll [bI [v],bI (wo l v ++ T)] false (.sl 1 0 (wo l v).length none l.length 1)=[1]:=rfl
  show toRes _ false _=_
  simp only [toRes,ho,List.nodup_cons,List.not_mem_nil,not_false_eq_true,List.nodup_nil,and_self,if_true,resVal,hr]
end Go.Proofs.Ytiejmoglooaalaa
end
