/- A part of the proof. -/
import Derived.Test.YtlendaofkmhgmaaP8B
set_option linter.unusedVariables false
set_option linter.unusedSimpArgs false
section
open Go Go.HL Go.HL.So
namespace Go.Proofs.Ytlendaofkmhgmaa
set_option linter.unusedSectionVars false
open Go.Proofs.Try renaming prog → Tp
open Go.HL.HV renaming undef → Ud
section
variable {α:Type} [Inhabited α] {enc:α → HV} {lt:α → α → Prop} {dom:α → Prop} {H:Heap} {db n:Nat} {cap:Option Nat}
abbrev swB (s:Int):Blk:=.arr 1 [.int .i64 s] true 0
theorem Mm_last (l:List α) (B:Blk):(Mm enc H db l [B])[H.length]?=some B:=by
  unfold Mm
  rw [List.getElem?_append_right (by simp)]
  simp
theorem Mm_set (l:List α) (B B':Blk):(Mm enc H db l [B]).set H.length B'=Mm enc H db l [B']:=by
  unfold Mm
  rw [List.set_append_right _ _ (by simp)]
  simp
theorem mxM (S:So enc lt dom H db n) (l:List α) (B:Blk) (hB:B.mx=0):mxs (Mm enc H db l [B]) ≤ H.length:=by
  have h:=S.mx
  rw [mxs_le] at h ⊢
  intro C hC
  unfold Mm at hC
  rcases List.mem_append.1 hC with hC | hC
  · rcases List.mem_or_eq_of_mem_set hC with hC | rfl
    · exact h C hC
    · exact Nat.zero_le _
  · rw [List.mem_singleton.1 hC]; omega
theorem gcT (S:So enc lt dom H db n) (l l':List α) (B:Blk) (hB:B.mx=0):gc (Mm enc H db l []).length 0 (Mm enc H db l' [B])=Mm enc H db l' []:=by
  have h:=mxM S l' B hB
  have e:(Mm enc H db l []).length=H.length:=by simp [Mm]
  unfold gc
  rw [e,show max H.length (max 0 (mxs (Mm enc H db l' [B])))=H.length by omega]
  unfold Mm
  rw [List.take_append_of_le_length (by simp),List.take_of_length_le (by simp),List.append_nil]
theorem gcB (l l':List α) (B B':Blk) (r:Nat):gc (Mm enc H db l [B]).length r (Mm enc H db l' [B'])=Mm enc H db l' [B']:=gcM l l' [B] [B'] r rfl
theorem ld_sw (l:List α) (s:Int):loadV Tp (Mm enc H db l [swB s]) 3 (.ptr H.length 0 0 1)=some (.int .i64 s):=load_elem (b:=H.length) (Mm_last l (swB s)) rfl rfl rfl a3 i3
theorem st_sw (l:List α) (s r:Int):storeV Tp (Mm enc H db l [swB s]) 3 (.ptr H.length 0 0 1) (.int .i64 r)=some (Mm enc H db l [swB r]):=by
  have:=store_elem (P:=Tp) (t:=3) (b:=H.length) (i:=0) (tot:=1) (old:=.int .i64 s) (v:=.int .i64 r) (Mm_last (enc:=enc) (db:=db) l (swB s)) rfl rfl rfl (by intro cs h; cases h) z3 rfl rfl (by simp [bnd])
  rw [this,Mm_set]; rfl
theorem new_sw (l:List α) (k:IntKind) (s:Int):newV (.int k s) (Mm enc H db l [])=(.ptr H.length 0 0 1,Mm enc H db l [.arr 1 [.int k s] true 0]):=by
  simp only [newV,cellsOf,bnd,Mm]
  simp
theorem ord2_ok (S:So enc lt dom H db n) {a b:Nat} (ha:a < n) (hb:b < n) {l:List α} (hl:l.length=n) (hD:Dm dom l) (s:Int) :
    ∃ (p q:Nat) (s':Int),ClS 113 [.sl db 0 n cap n 3,.int .i64 (a:Int),.int .i64 (b:Int),.ptr H.length 0 0 1,.func 77 [] []] (Mm enc H db l [swB s]) (.tuple [.int .i64 (p:Int),.int .i64 (q:Int)]) (Mm enc H db l [swB s'])∧((p=a∧q=b) ∨ (p=b∧q=a)):=by
  have hn:=S.nb
  by_cases c:lt (at_ l b) (at_ l a)
  · obtain ⟨cc,N,hN,hc⟩:=S.ct (T:=[swB s]) hl rfl (hD.at (i:=b) (by omega)) (hD.at (i:=a) (by omega)) c
    have t:=o2_a_0 N db n cap (Mm enc H db l [swB s]) H.length a b (ixs (i:=b) rfl hb) (S.ld l _ _ hl hb) (ixs (i:=a) rfl ha) (S.ld l _ _ hl ha) hN hc (ld_sw l s) (st_sw l s _)
    have hc:=CallsTo.shared (P:=Tp) (pol:=polSo) (g:=113) (fn:=Try.f113) (cd:=B113) (args:=[.sl db 0 n cap n 3,.int .i64 (a:Int),.int .i64 (b:Int),.ptr H.length 0 0 1,.func 77 [] []]) (v:=.tuple [.int .i64 (b:Int),.int .i64 (a:Int)]) (by kernel_rfl) (by kernel_rfl) (by kernel_rfl) (by kernel_rfl) t (by kernel_rfl) (by simp) (by kernel_rfl)
    rw [gcB] at hc
    exact ⟨b,a,_,hc,.inr ⟨rfl,rfl⟩⟩
  · obtain ⟨cc,N,hN,hc⟩:=S.cf (T:=[swB s]) hl rfl (hD.at (i:=b) (by omega)) (hD.at (i:=a) (by omega)) c
    have t:=o2_a_1 N db n cap (Mm enc H db l [swB s]) H.length a b (ixs (i:=b) rfl hb) (S.ld l _ _ hl hb) (ixs (i:=a) rfl ha) (S.ld l _ _ hl ha) hN hc
    have hc:=CallsTo.shared (P:=Tp) (pol:=polSo) (g:=113) (fn:=Try.f113) (cd:=B113) (args:=[.sl db 0 n cap n 3,.int .i64 (a:Int),.int .i64 (b:Int),.ptr H.length 0 0 1,.func 77 [] []]) (v:=.tuple [.int .i64 (a:Int),.int .i64 (b:Int)]) (by kernel_rfl) (by kernel_rfl) (by kernel_rfl) (by kernel_rfl) t (by kernel_rfl) (by simp) (by kernel_rfl)
    rw [gcB] at hc
    exact ⟨a,b,_,hc,.inl ⟨rfl,rfl⟩⟩
theorem med_ok (S:So enc lt dom H db n) {a b q:Nat} (ha:a < n) (hb:b < n) (hq:q < n) {l:List α} (hl:l.length=n) (hD:Dm dom l) (s:Int) :
    ∃ (r:Nat) (s':Int),ClS 111 [.sl db 0 n cap n 3,.int .i64 (a:Int),.int .i64 (b:Int),.int .i64 (q:Int),.ptr H.length 0 0 1,.func 77 [] []] (Mm enc H db l [swB s]) (.int .i64 (r:Int)) (Mm enc H db l [swB s'])∧(r=a ∨ r=b ∨ r=q):=by
  obtain ⟨p1,q1,s1,h1,e1⟩:=ord2_ok S (cap:=cap) ha hb hl hD s
  obtain ⟨p2,q2,s2,h2,e2⟩:=ord2_ok S (cap:=cap) (a:=q1) (b:=q) (by omega) hq hl hD s1
  obtain ⟨p3,q3,s3,h3,e3⟩:=ord2_ok S (cap:=cap) (a:=p1) (b:=p2) (by omega) (by omega) hl hD s2
  obtain ⟨N1,h1⟩:=h1.from
  obtain ⟨N2,h2⟩:=h2.from
  obtain ⟨N3,h3⟩:=h3.from
  have t:=md_a_0 (N1+N2+N3) db n cap (Mm enc H db l [swB s]) H.length a b q (fun kf hk=>h1 kf (by omega)) (fun kf hk=>h2 kf (by omega)) (fun kf hk=>h3 kf (by omega))
  have hc:=CallsTo.shared (P:=Tp) (pol:=polSo) (g:=111) (fn:=Try.f111) (cd:=B111) (args:=[.sl db 0 n cap n 3,.int .i64 (a:Int),.int .i64 (b:Int),.int .i64 (q:Int),.ptr H.length 0 0 1,.func 77 [] []]) (v:=.int .i64 (q3:Int)) (by kernel_rfl) (by kernel_rfl) (by kernel_rfl) (by kernel_rfl) t (by kernel_rfl) (by simp) (by kernel_rfl)
  rw [gcB] at hc
  exact ⟨q3,s3,hc,by omega⟩
theorem madj_ok (S:So enc lt dom H db n) {a:Nat} {e:Int} (he:e=(a:Int)) (h1:1 ≤ a) (h2:a+1 < n) {l:List α} (hl:l.length=n) (hD:Dm dom l) (s:Int) :
    ∃ (r:Nat) (s':Int),ClS 110 [.sl db 0 n cap n 3,.int .i64 e,.ptr H.length 0 0 1,.func 77 [] []] (Mm enc H db l [swB s]) (.int .i64 (r:Int)) (Mm enc H db l [swB s'])∧a - 1 ≤ r∧r ≤ a+1:=by
  subst he
  have hn:=S.nb
  obtain ⟨r,s',h,er⟩:=med_ok S (cap:=cap) (a:=a - 1) (b:=a) (q:=a+1) (by omega) (by omega) (by omega) hl hD s
  obtain ⟨N,h⟩:=h.from
  have t:=ma_a_0 N db n cap (Mm enc H db l [swB s]) H.length a (by rw [wrap_pred (by omega) (by omega),wrap_succ (by omega)]; exact h)
  have hc:=CallsTo.shared (P:=Tp) (pol:=polSo) (g:=110) (fn:=Try.f110) (cd:=B110) (args:=[.sl db 0 n cap n 3,.int .i64 (a:Int),.ptr H.length 0 0 1,.func 77 [] []]) (v:=.int .i64 (r:Int)) (by kernel_rfl) (by kernel_rfl) (by kernel_rfl) (by kernel_rfl) t (by kernel_rfl) (by simp) (by kernel_rfl)
  rw [gcB] at hc
  exact ⟨r,s',hc,by omega⟩
theorem cv_idx {a b m:Nat} (hab:a ≤ b) (hb:b ≤ 60000) (hm:m ≤ 3):IntKind.i64.wrap ((a:Int)+IntKind.i64.wrap (IntKind.i64.wrap ((IntKind.i64.wrap ((b:Int) - (a:Int)):Int).tdiv 4) * (m:Int)))=((a+(b - a) / 4 * m:Nat):Int):=by
  have h1:IntKind.i64.wrap ((b:Int) - (a:Int))=((b - a:Nat):Int):=by rw [wrap_id (by omega) (by omega)]; omega
  have h2:((b - a:Nat):Int).tdiv 4=(((b - a) / 4:Nat):Int):=by rw [Int.tdiv_eq_ediv_of_nonneg (by omega)]; omega
  rw [h1,h2,wrap_id (n:=(((b - a) / 4:Nat):Int)) (by omega) (by omega)]
  have h3:(((b - a) / 4:Nat):Int) * (m:Int)=(((b - a) / 4 * m:Nat):Int):=by push_cast; rfl
  have h4:(b - a) / 4 * m ≤ 60000:=by
    have h6:(b - a) / 4 * m ≤ (b - a) / 4 * 3:=Nat.mul_le_mul_left _ hm
    omega
  rw [h3]
  generalize (b - a) / 4 * m=z at h4
  rw [wrap_id (n:=(z:Int)) (by omega) (by omega),wrap_id (by omega) (by omega)]; omega
theorem piv_ok (S:So enc lt dom H db n) {a b:Nat} (hab:a+12 < b) (hb:b ≤ n) {l:List α} (hl:l.length=n) (hD:Dm dom l) :
    ∃ (p:Nat) (h:Int),ClS 99 [.sl db 0 n cap n 3,.int .i64 (a:Int),.int .i64 (b:Int),.func 77 [] []] (Mm enc H db l []) (.tuple [.int .i64 (p:Int),.int .i64 h]) (Mm enc H db l [])∧a ≤ p∧p < b:=by
  have hn:=S.nb
  have i1:=cv_idx (a:=a) (b:=b) (m:=1) (by omega) (by omega) (by omega)
  have i2:=cv_idx (a:=a) (b:=b) (m:=2) (by omega) (by omega) (by omega)
  have i3:=cv_idx (a:=a) (b:=b) (m:=3) (by omega) (by omega) (by omega)
  have hw:IntKind.i64.wrap ((b:Int) - (a:Int))=((b - a:Nat):Int):=(by rw [wrap_id (by omega) (by omega)]; omega)
  have g0:some (newV (.int .i64 0) (Mm enc H db l []))=some (.ptr H.length 0 0 1,Mm enc H db l [swB 0]):=congrArg some (new_sw l .i64 0)
  have fin:∀ (p:Nat) (h:Int) (E:Env) (s:Int),a ≤ p → p < b → RT polSo 99 B99 (args0 [.sl db 0 n cap n 3,.int .i64 (a:Int),.int .i64 (b:Int),.func 77 [] []]) (Mm enc H db l []) .ret E (Mm enc H db l [swB s]) → resultsV Tp Try.f99 E (Mm enc H db l [swB s])=some (.tuple [.int .i64 (p:Int),.int .i64 h]) →
      ∃ (p:Nat) (h:Int),ClS 99 [.sl db 0 n cap n 3,.int .i64 (a:Int),.int .i64 (b:Int),.func 77 [] []] (Mm enc H db l []) (.tuple [.int .i64 (p:Int),.int .i64 h]) (Mm enc H db l [])∧a ≤ p∧p < b:=by
    intro p h E s h1 h2 t hv
    have hc:=CallsTo.shared (P:=Tp) (pol:=polSo) (g:=99) (fn:=Try.f99) (cd:=B99) (args:=[.sl db 0 n cap n 3,.int .i64 (a:Int),.int .i64 (b:Int),.func 77 [] []]) (by kernel_rfl) (by kernel_rfl) (by kernel_rfl) (by kernel_rfl) t (by kernel_rfl) (by simp) hv
    rw [show bnd (.tuple [.int .i64 (p:Int),.int .i64 h])=0 by simp [bnd,bndL],gcT S l l (swB s) rfl] at hc
    exact ⟨p,h,hc,h1,h2⟩
  by_cases c:50 ≤ b - a
  · obtain ⟨r1,s1,h1,e1⟩:=madj_ok S (cap:=cap) (a:=a+(b - a) / 4 * 1) i1 (by omega) (by omega) hl hD 0
    obtain ⟨r2,s2,h2,e2⟩:=madj_ok S (cap:=cap) (a:=a+(b - a) / 4 * 2) i2 (by omega) (by omega) hl hD s1
    obtain ⟨r3,s3,h3,e3⟩:=madj_ok S (cap:=cap) (a:=a+(b - a) / 4 * 3) i3 (by omega) (by omega) hl hD s2
    obtain ⟨r,s,h4,e4⟩:=med_ok S (cap:=cap) (a:=r1) (b:=r2) (q:=r3) (by omega) (by omega) (by omega) hl hD s3
    obtain ⟨N1,h1⟩:=h1.from
    obtain ⟨N2,h2⟩:=h2.from
    obtain ⟨N3,h3⟩:=h3.from
    obtain ⟨N4,h4⟩:=h4.from
    by_cases d1:s=0
    · have t:=cv_a_0 (N1+N2+N3+N4) db n cap (Mm enc H db l []) H.length a b g0 (by rw [hw]; omega) (by rw [hw]; omega) (fun kf hk=>h1 kf (by omega)) (fun kf hk=>h2 kf (by omega)) (fun kf hk=>h3 kf (by omega)) (fun kf hk=>h4 kf (by omega)) (ld_sw l s) d1
      exact fin r 1 _ s (by omega) (by omega) t (by kernel_rfl)
    · by_cases d2:s=12
      · have t:=cv_a_1 (N1+N2+N3+N4) db n cap (Mm enc H db l []) H.length a b g0 (by rw [hw]; omega) (by rw [hw]; omega) (fun kf hk=>h1 kf (by omega)) (fun kf hk=>h2 kf (by omega)) (fun kf hk=>h3 kf (by omega)) (fun kf hk=>h4 kf (by omega)) (ld_sw l s) d1 d2
        exact fin r 2 _ s (by omega) (by omega) t (by kernel_rfl)
      · have t:=cv_a_2 (N1+N2+N3+N4) db n cap (Mm enc H db l []) H.length a b g0 (by rw [hw]; omega) (by rw [hw]; omega) (fun kf hk=>h1 kf (by omega)) (fun kf hk=>h2 kf (by omega)) (fun kf hk=>h3 kf (by omega)) (fun kf hk=>h4 kf (by omega)) (ld_sw l s) d1 d2
        exact fin r 0 _ s (by omega) (by omega) t (by kernel_rfl)
  · obtain ⟨r,s,h4,e4⟩:=med_ok S (cap:=cap) (a:=a+(b - a) / 4 * 1) (b:=a+(b - a) / 4 * 2) (q:=a+(b - a) / 4 * 3) (by omega) (by omega) (by omega) hl hD 0
    obtain ⟨N4,h4⟩:=h4.from
    rw [← i1,← i2,← i3] at h4
    by_cases d1:s=0
    · have t:=cv_a_3 N4 db n cap (Mm enc H db l []) H.length a b g0 (by rw [hw]; omega) (by rw [hw]; omega) h4 (ld_sw l s) d1
      exact fin r 1 _ s (by omega) (by omega) t (by kernel_rfl)
    · by_cases d2:s=12
      · have t:=cv_a_4 N4 db n cap (Mm enc H db l []) H.length a b g0 (by rw [hw]; omega) (by rw [hw]; omega) h4 (ld_sw l s) d1 d2
        exact fin r 2 _ s (by omega) (by omega) t (by kernel_rfl)
      · have t:=cv_a_5 N4 db n cap (Mm enc H db l []) H.length a b g0 (by rw [hw]; omega) (by rw [hw]; omega) h4 (ld_sw l s) d1 d2
        exact fin r 0 _ s (by omega) (by omega) t (by kernel_rfl)
abbrev uB (s:Int):Blk:=.arr 1 [.int .u64 s] true 0
theorem z128s:tySize Tp 128=some 1:=by kernel_rfl
theorem a128s:tyAgg Tp 128=false:=by kernel_rfl
theorem i128s:(Tp.underlying 128).isSome=true:=by kernel_rfl
theorem ld_u (l:List α) (s:Int):loadV Tp (Mm enc H db l [uB s]) 128 (.ptr H.length 0 0 1)=some (.int .u64 s):=load_elem (b:=H.length) (Mm_last l (uB s)) rfl rfl rfl a128s i128s
theorem st_u (l:List α) (s r:Int):storeV Tp (Mm enc H db l [uB s]) 128 (.ptr H.length 0 0 1) (.int .u64 r)=some (Mm enc H db l [uB r]):=by
  have:=store_elem (P:=Tp) (t:=128) (b:=H.length) (i:=0) (tot:=1) (old:=.int .u64 s) (v:=.int .u64 r) (Mm_last (enc:=enc) (db:=db) l (uB s)) rfl rfl rfl (by intro cs h; cases h) z128s rfl rfl (by simp [bnd])
  rw [this,Mm_set]; rfl
theorem bx (a b:Int):∃ r,binV Tp .xor 128 (.int .u64 a) (.int .u64 b)=some (.int .u64 r):=⟨_,rfl⟩
theorem bs13 (a:Int):∃ r,binV Tp .shl 128 (.int .u64 a) (.int .u64 13)=some (.int .u64 r):=⟨_,rfl⟩
theorem bs17 (a:Int):∃ r,binV Tp .shl 128 (.int .u64 a) (.int .u64 17)=some (.int .u64 r):=⟨_,rfl⟩
theorem br7 (a:Int):∃ r,binV Tp .shr 128 (.int .u64 a) (.int .u64 7)=some (.int .u64 r):=⟨_,rfl⟩
theorem xor_ok (l:List α) (s:Int):∃ r,ClS 106 [.ptr H.length 0 0 1] (Mm enc H db l [uB s]) (.int .u64 r) (Mm enc H db l [uB r]):=by
  obtain ⟨h0,e0⟩:=bs13 s
  obtain ⟨h1,e1⟩:=bx s h0
  obtain ⟨h2,e2⟩:=br7 h1
  obtain ⟨h3,e3⟩:=bx h1 h2
  obtain ⟨h4,e4⟩:=bs17 h3
  obtain ⟨h5,e5⟩:=bx h3 h4
  have t:=xs_a_0 0 0 0 none (Mm enc H db l [uB s]) H.length (ld_u l s) (ld_u l s) e0 e1 (st_u l s h1) (ld_u l h1) (ld_u l h1) e2 e3 (st_u l h1 h3) (ld_u l h3) (ld_u l h3) e4 e5 (st_u l h3 h5) (ld_u l h5)
  have hc:=CallsTo.shared (P:=Tp) (pol:=polSo) (g:=106) (fn:=Try.f106) (cd:=B106) (args:=[.ptr H.length 0 0 1]) (v:=.int .u64 h5) (by kernel_rfl) (by kernel_rfl) (by kernel_rfl) (by kernel_rfl) t (by kernel_rfl) (by simp) (by kernel_rfl)
  rw [gcB] at hc
  exact ⟨_,hc⟩
theorem and_u {u:Int} {m:Nat} (hm:m < 9223372036854775808):∃ h:Nat,binV Tp .and 81 (.int .u64 u) (.int .u64 (m:Int))=some (.int .u64 (h:Int))∧h ≤ m:=by
  have e:binV Tp .and 81 (.int .u64 u) (.int .u64 (m:Int))=some (.int .u64 (IntKind.u64.wrap (BitVec.ofInt IntKind.u64.bits u &&& BitVec.ofInt IntKind.u64.bits (m:Int)).toNat)):=rfl
  have hle:(BitVec.ofInt IntKind.u64.bits u &&& BitVec.ofInt IntKind.u64.bits (m:Int)).toNat ≤ m:=by
    rw [BitVec.toNat_and]
    refine Nat.le_trans Nat.and_le_right ?_
    rw [BitVec.toNat_ofInt]
    show ((m:Int) % ((2 ^ 64:Nat):Int)).toNat ≤ m
    omega
  refine ⟨_,?_,hle⟩
  rw [e]
  congr 2
  rw [wrapU64]
  generalize (BitVec.ofInt IntKind.u64.bits u &&& BitVec.ofInt IntKind.u64.bits (m:Int)).toNat=h at hle
  omega
theorem bk_loop (S:So enc lt dom H db n) {a b k m:Nat} (hk:b=a+k) (hk8:8 ≤ k) (hb:b ≤ n) (hm1:1 ≤ m) (hm2:m ≤ 2 * k):∀ (d i:Nat) (l:List α) (s:Int),i+d=a+k / 4 * 2+2 → a+k / 4 * 2 - 1 ≤ i → l.length=n →
    ∃ y5 y6 l' s',RT polSo 98 (sub [1,1,0,1,1,1,0] B98) (env98 (.sl db 0 n cap n 3) (.int .i64 (a:Int)) (.int .i64 (b:Int)) (.int .i64 (k:Int)) (.ptr H.length 0 0 1) (.int .u64 (m:Int)) (.int .i64 (i:Int)) Ud) (Mm enc H db l [uB s]) (.exit 0) (env98 (.sl db 0 n cap n 3) (.int .i64 (a:Int)) (.int .i64 (b:Int)) (.int .i64 (k:Int)) (.ptr H.length 0 0 1) (.int .u64 (m:Int)) y5 y6) (Mm enc H db l' [uB s'])∧Sw a b l l':=by
  have hn:=S.nb
  have e0:IntKind.i64.wrap (((k:Int):Int).tdiv 4)=((k / 4:Nat):Int):=by
    rw [Int.tdiv_eq_ediv_of_nonneg (by omega),wrap_id (by omega) (by omega)]; omega
  have e1:IntKind.i64.wrap ((a:Int)+IntKind.i64.wrap (IntKind.i64.wrap (((k:Int):Int).tdiv 4) * 2))=((a+k / 4 * 2:Nat):Int):=by
    rw [e0,wrap_id (n:=((k / 4:Nat):Int) * 2) (by omega) (by omega),wrap_id (by omega) (by omega)]; omega
  have e2:IntKind.i64.wrap (IntKind.i64.wrap ((a:Int)+IntKind.i64.wrap (IntKind.i64.wrap (((k:Int):Int).tdiv 4) * 2))+1)=((a+k / 4 * 2+1:Nat):Int):=by
    rw [e1,wrap_id (by omega) (by omega)]; omega
  intro d
  induction d with
  | zero =>
    intro i l s hi hi2 hl
    exact ⟨_,_,l,s,lpo (bk_f_2 0 db n cap (Mm enc H db l [uB s]) H.length a b k m i (y12:=Ud) (by rw [e2]; omega)),.refl⟩
  | succ d ih =>
    intro i l s hi hi2 hl
    obtain ⟨u,hx⟩:=xor_ok (enc:=enc) (H:=H) (db:=db) l s
    obtain ⟨N,hN⟩:=hx.from
    have hu:IntKind.u64.wrap ((m:Int) - 1)=((m - 1:Nat):Int):=by rw [wrapU64]; omega
    obtain ⟨h,hand,hh⟩:=and_u (u:=u) (m:=m - 1) (by omega)
    rw [← hu] at hand
    have hwh:IntKind.i64.wrap (h:Int)=(h:Int):=wrap_id (by omega) (by omega)
    have next:∀ o:Nat,o < k → ∀ y,RT polSo 98 (sub [1,1,0,1,1,1,0,0] B98) (env98 (.sl db 0 n cap n 3) (.int .i64 (a:Int)) (.int .i64 (b:Int)) (.int .i64 (k:Int)) (.ptr H.length 0 0 1) (.int .u64 (m:Int)) (.int .i64 (i:Int)) Ud) (Mm enc H db l [uB s]) .normal (env98 (.sl db 0 n cap n 3) (.int .i64 (a:Int)) (.int .i64 (b:Int)) (.int .i64 (k:Int)) (.ptr H.length 0 0 1) (.int .u64 (m:Int)) (.int .i64 (IntKind.i64.wrap ((i:Int)+1))) y) (Mm enc H db (swp l i (a+o)) [uB u]) →
        ∃ y5 y6 l' s',RT polSo 98 (sub [1,1,0,1,1,1,0] B98) (env98 (.sl db 0 n cap n 3) (.int .i64 (a:Int)) (.int .i64 (b:Int)) (.int .i64 (k:Int)) (.ptr H.length 0 0 1) (.int .u64 (m:Int)) (.int .i64 (i:Int)) Ud) (Mm enc H db l [uB s]) (.exit 0) (env98 (.sl db 0 n cap n 3) (.int .i64 (a:Int)) (.int .i64 (b:Int)) (.int .i64 (k:Int)) (.ptr H.length 0 0 1) (.int .u64 (m:Int)) y5 y6) (Mm enc H db l' [uB s'])∧Sw a b l l':=by
      intro o ho y st
      rw [wrap_succ (by omega)] at st
      have sw:Sw a b l (swp l i (a+o)):=Sw.one (by omega) (by omega) (by omega) (by omega)
      obtain ⟨y5,y6,l',s',r,q⟩:=ih (i+1) (swp l i (a+o)) u (by omega) (by omega) (by rw [swp_len]; exact hl)
      exact ⟨y5,y6,l',s',lop (st) (gcM _ _ _ _ _ rfl) (r),sw.trans q⟩
    by_cases c:k ≤ h
    · have e3:IntKind.i64.wrap (IntKind.i64.wrap (h:Int) - (k:Int))=((h - k:Nat):Int):=by rw [hwh,wrap_id (by omega) (by omega)]; omega
      have e4:IntKind.i64.wrap ((a:Int)+IntKind.i64.wrap (IntKind.i64.wrap (h:Int) - (k:Int)))=((a+(h - k):Nat):Int):=by rw [e3,wrap_id (by omega) (by omega)]; omega
      obtain ⟨s1,s2⟩:=S.st2 (T:=[uB u]) hl (i:=i) (j:=a+(h - k)) (by omega) (by omega)
      have st:=bk_f_0 N db n cap (Mm enc H db l [uB s]) H.length a b k m i (y12:=Ud) (by rw [e2]; omega) hN hand (by rw [hwh]; omega) (ixs e4 (by omega)) (S.ld l _ _ hl (by omega)) (ixs (i:=i) rfl (by omega)) (S.ld l _ _ hl (by omega)) (ixs (i:=i) rfl (by omega)) s1 (ixs e4 (by omega)) s2
      exact next (h - k) (by omega) _ st
    · have e4:IntKind.i64.wrap ((a:Int)+IntKind.i64.wrap (h:Int))=((a+h:Nat):Int):=by rw [hwh,wrap_id (by omega) (by omega)]; omega
      obtain ⟨s1,s2⟩:=S.st2 (T:=[uB u]) hl (i:=i) (j:=a+h) (by omega) (by omega)
      have st:=bk_f_1 N db n cap (Mm enc H db l [uB s]) H.length a b k m i (y12:=Ud) (by rw [e2]; omega) hN hand (by rw [hwh]; omega) (ixs e4 (by omega)) (S.ld l _ _ hl (by omega)) (ixs (i:=i) rfl (by omega)) (S.ld l _ _ hl (by omega)) (ixs (i:=i) rfl (by omega)) s1 (ixs e4 (by omega)) s2
      exact next h (by omega) _ st
theorem brk_ok (S:So enc lt dom H db n) {a b:Nat} (hab:a+8 ≤ b) (hb:b ≤ n) {l:List α} (hl:l.length=n) :
    ∃ l',ClS 98 [.sl db 0 n cap n 3,.int .i64 (a:Int),.int .i64 (b:Int),.func 77 [] []] (Mm enc H db l []) (.tuple []) (Mm enc H db l' [])∧Sw a b l l':=by
  have hn:=S.nb
  obtain ⟨k,rfl⟩:∃ k,b=a+k:=⟨b - a,by omega⟩
  have hw:IntKind.i64.wrap (((a+k:Nat):Int) - (a:Int))=(k:Int):=by rw [wrap_id (by omega) (by omega)]; omega
  have t0:=bk_a_0 0 db n cap (Mm enc H db l []) H.length a (a+k)
  rw [hw] at t0
  have t1:=bk_b_0 0 db n cap (Mm enc H db l []) H.length a (a+k) k (y9:=Ud) (y10:=Ud) (y11:=Ud) (y12:=Ud) (by omega)
  have g0:some (newV (.int .u64 0) (Mm enc H db l []))=some (.ptr H.length 0 0 1,Mm enc H db l [uB 0]):=congrArg some (new_sw l .u64 0)
  have t2:=bk_c_0 0 db n cap (Mm enc H db l []) H.length a (a+k) k (y9:=Ud) (y10:=Ud) (y11:=Ud) (y12:=Ud) g0 (st_u l 0 _)
  have hl2:=(lenN_ok (x:=k) (by omega)).1 (by omega)
  have t3:=bk_d_0 0 db n cap (Mm enc H db l [uB (IntKind.u64.wrap (k:Int))]) H.length a (a+k) k (y10:=Ud) (y11:=Ud) (y12:=Ud) (u0:=((2 ^ lenN k:Nat):Int)) (fun kf _=>by
    rw [prim_call (pol:=polSo) (g:=105) (F:=next105) (by kernel_rfl) (rs:=[.int .i64 (k:Int)]) rfl (res:=.int .u64 ((2 ^ lenN k:Nat):Int)) (by simp only [next105]; rw [if_pos (by omega),Int.toNat_natCast])]; rfl)
  generalize 2 ^ lenN k=m at hl2 t3
  have t4:=bk_e_0 0 db n cap (Mm enc H db l [uB (IntKind.u64.wrap (k:Int))]) H.length a (a+k) k (m:Int) (y11:=Ud) (y12:=Ud)
  have e0:IntKind.i64.wrap (((k:Int):Int).tdiv 4)=((k / 4:Nat):Int):=by
    rw [Int.tdiv_eq_ediv_of_nonneg (by omega),wrap_id (by omega) (by omega)]; omega
  have e1:IntKind.i64.wrap (IntKind.i64.wrap ((a:Int)+IntKind.i64.wrap (IntKind.i64.wrap (((k:Int):Int).tdiv 4) * 2)) - 1)=((a+k / 4 * 2 - 1:Nat):Int):=by
    rw [e0,wrap_id (n:=((k / 4:Nat):Int) * 2) (by omega) (by omega),wrap_id (n:=(a:Int)+((k / 4:Nat):Int) * 2) (by omega) (by omega),wrap_id (by omega) (by omega)]; omega
  rw [e1] at t4
  obtain ⟨y5,y6,l',s',r,q⟩:=bk_loop S (cap:=cap) (m:=m) rfl (by omega) hb (by omega) (by omega) 3 (a+k / 4 * 2 - 1) l (IntKind.u64.wrap (k:Int)) (by omega) (Nat.le_refl _) hl
  have t:=sq (t0) (sq (t1) (RunsTo.cond (y:=.tmp 17) (t:=true) (c:=sub [1,1] B98) (a:=sub [1,1,0] B98) (b:=sub [1,1,1] B98) (by kernel_rfl) rfl (sq (t2) (sq (t3) (sq (t4) (bke (c:=sub [1,1,0,1,1,1] B98) (r)) (c:=sub [1,1,0,1,1] B98)) (c:=sub [1,1,0,1] B98)) (c:=sub [1,1,0] B98))) (c:=sub [1] B98)) (c:=B98)
  have hc:=CallsTo.shared (P:=Tp) (pol:=polSo) (g:=98) (fn:=Try.f98) (cd:=B98) (args:=[.sl db 0 n cap n 3,.int .i64 (a:Int),.int .i64 ((a+k:Nat):Int),.func 77 [] []]) (v:=.tuple []) (by kernel_rfl) (by kernel_rfl) (by kernel_rfl) (by kernel_rfl) t (by kernel_rfl) (by simp) (by kernel_rfl)
  rw [show bnd (.tuple [])=0 by rfl,gcT S l l' (uB s') rfl] at hc
  exact ⟨l',hc,q⟩
end
end Go.Proofs.Ytlendaofkmhgmaa
end
section
open Go Go.HL Go.HL.So
namespace Go.Proofs.Ytlendaofkmhgmaa
set_option linter.unusedSectionVars false
open Go.Proofs.Try renaming prog → Tp
open Go.HL.HV renaming undef → Ud
section
variable {α:Type} [Inhabited α] {enc:α → HV} {lt:α → α → Prop} {dom:α → Prop} {H:Heap} {db n:Nat} {cap:Option Nat}
def PdqOk (enc:α → HV) (lt:α → α → Prop) (dom:α → Prop) (H:Heap) (db n:Nat) (cap:Option Nat) (d:Nat):Prop:=∀ (a b:Nat) (lim:Int) (l:List α),b - a < d → a ≤ b → b ≤ n → 0 ≤ lim → lim ≤ 1000 → l.length=n → Dm dom l → Flo lt a b l →
  ∃ l',ClS 83 [.sl db 0 n cap n 3,.int .i64 (a:Int),.int .i64 (b:Int),.int .i64 lim,.func 77 [] []] (Mm enc H db l []) (.tuple []) (Mm enc H db l' [])∧Sw a b l l'∧Sorted lt a b l'
def Out (enc:α → HV) (lt:α → α → Prop) (dom:α → Prop) (H:Heap) (db n:Nat) (cap:Option Nat) (a b:Nat) (l:List α) (x:X) (E:Env) (l':List α):Prop :=
  Sw a b l l'∧((x=.ret∧Sorted lt a b l') ∨ ((x=.normal ∨ x=.exit 1)∧∃ (a' b':Nat) (lim':Int) (bal' par':Bool) (y2 y3 y4 y5 y6 y7 y8 y9 y10:HV),E=(env83 (.sl db 0 n cap n 3) (.int .i64 (a':Int)) (.int .i64 (b':Int)) (.int .i64 lim') (.func 77 [] []) (.bool bal') (.bool par') y2 y3 y4 y5 y6 y7 y8 y9 y10) ∧
    b' - a' < b - a∧a ≤ a'∧a' ≤ b'∧b' ≤ b∧0 ≤ lim'∧lim' ≤ 1000∧Flo lt a' b' l'∧∀ l'',Sw a' b' l' l'' → Sorted lt a' b' l'' → Sorted lt a b l''))
theorem Out.pre {a b:Nat} {l l1 l':List α} {x:X} {E:Env} (h:Sw a b l l1) (ho:Out enc lt dom H db n cap a b l1 x E l'):Out enc lt dom H db n cap a b l x E l':=⟨h.trans ho.1,ho.2⟩
theorem Flo.part {a b a' b':Nat} {l:List α} (h:Flo lt a b l) (h1:a'=a) (h2:b' ≤ b):Flo lt a' b' l:=by
  subst h1
  exact fun h0 k h3 h4=>h h0 k h3 (by omega)
theorem join (hL:Lin lt) {a b m:Nat} {l:List α} (h1:Sorted lt a m l) (h2:Sorted lt (m+1) b l) (h3:∀ k,a ≤ k → k < m → lt (at_ l k) (at_ l m)) (h4:∀ k,m < k → k < b → ¬ lt (at_ l k) (at_ l m)):Sorted lt a b l:=by
  intro i j q1 q2 q3
  by_cases c1:j < m
  · exact h1 i j q1 q2 c1
  · by_cases c2:j=m
    · subst c2; exact hL.asy _ _ (h3 i q1 q2)
    · by_cases c3:i < m
      · exact hL.tr _ _ _ (hL.asy _ _ (h3 i q1 c3)) (h4 j (by omega) q3)
      · by_cases c4:i=m
        · subst c4; exact h4 j (by omega) q3
        · exact h2 i j (by omega) q2 q3
theorem pq_S (S:So enc lt dom H db n) (hL:Lin lt) {a b k p:Nat} {lim:Int} {bal par:Bool} {h:HV} (hd:PdqOk enc lt dom H db n cap (b - a)) (hp1:a ≤ p) (hp2:p < b) (hb:b ≤ n) (hk:k ≤ n) (hl0:0 ≤ lim) (hl1:lim ≤ 1000) {l:List α} (hl:l.length=n) (hD:Dm dom l) (hF:Flo lt a b l) :
    ∃ x E l',RT polSo 83 (sub [1,1,0,0,0,1,1,1,1,1,1,1,1] B83) (env83 (.sl db 0 n cap n 3) (.int .i64 (a:Int)) (.int .i64 (b:Int)) (.int .i64 lim) (.func 77 [] []) (.bool bal) (.bool par) (.int .i64 (k:Int)) (.int .i64 (p:Int)) h Ud Ud Ud Ud Ud Ud) (Mm enc H db l []) x E (Mm enc H db l' [])∧Out enc lt dom H db n cap a b l x E l':=by
  have hn:=S.nb
  obtain ⟨m,bb,l4,hc,w1,w2,w3,w4⟩:=part_ok S (cap:=cap) (T:=[]) rfl hb hp1 hp2 hl hD
  obtain ⟨N,hN⟩:=hc.from
  have t1:=pq_n_0 N db n cap (Mm enc H db l []) 0 a b lim p (y10:=.bool bal) (y11:=.bool par) (y12:=.int .i64 (k:Int)) (y14:=h) (y15:=Ud) (y16:=Ud) (y17:=Ud) (y18:=Ud) (y19:=Ud) (y20:=Ud) hN
  have hl4:=sw_len w1 hl
  have hD4:=hD.sw w1 (by omega)
  have hF4:=hF.sw (by omega) w1
  have t2:=pq_o_0 0 db n cap (Mm enc H db l4 []) 0 a b lim (y10:=.bool bal) (y11:=.bool par) (y12:=.int .i64 (k:Int)) (y13:=.int .i64 (p:Int)) (y14:=h) (y15:=Ud) (y16:=.int .i64 (m:Int)) (y17:=.bool bb) (y18:=Ud) (y19:=Ud) (y20:=Ud)
  have t3:=pq_p_0 0 db n cap (Mm enc H db l4 []) 0 a b lim m (y10:=.bool bal) (y11:=.bool bb) (y12:=.int .i64 (k:Int)) (y13:=.int .i64 (p:Int)) (y14:=h) (y15:=Ud) (y17:=.bool bb) (y18:=Ud) (y19:=Ud) (y20:=Ud)
  have e1:IntKind.i64.wrap ((m:Int) - (a:Int))=((m - a:Nat):Int):=(by rw [wrap_id (by omega) (by omega)]; omega)
  have e2:IntKind.i64.wrap ((b:Int) - (m:Int))=((b - m:Nat):Int):=(by rw [wrap_id (by omega) (by omega)]; omega)
  rw [e1,e2] at t3
  have t4:=pq_q_0 0 db n cap (Mm enc H db l4 []) 0 a b lim k (y10:=.bool bal) (y11:=.bool bb) (y13:=.int .i64 (p:Int)) (y14:=h) (y15:=Ud) (y16:=.int .i64 (m:Int)) (y17:=.bool bb) (y18:=.int .i64 ((m - a:Nat):Int)) (y19:=.int .i64 ((b - m:Nat):Int)) (y20:=Ud)
  generalize IntKind.i64.wrap (((k:Int):Int).tdiv 8)=th at t4
  have up:∀ (x:X) (E:Env) (l':List α),RT polSo 83 (sub [1,1,0,0,0,1,1,1,1,1,1,1,1,1,1,1,1] B83) (env83 (.sl db 0 n cap n 3) (.int .i64 (a:Int)) (.int .i64 (b:Int)) (.int .i64 lim) (.func 77 [] []) (.bool bal) (.bool bb) (.int .i64 (k:Int)) (.int .i64 (p:Int)) h Ud (.int .i64 (m:Int)) (.bool bb) (.int .i64 ((m - a:Nat):Int)) (.int .i64 ((b - m:Nat):Int)) (.int .i64 th)) (Mm enc H db l4 []) .normal E (Mm enc H db l' []) → Out enc lt dom H db n cap a b l4 .normal E l' →
      ∃ x E l',RT polSo 83 (sub [1,1,0,0,0,1,1,1,1,1,1,1,1] B83) (env83 (.sl db 0 n cap n 3) (.int .i64 (a:Int)) (.int .i64 (b:Int)) (.int .i64 lim) (.func 77 [] []) (.bool bal) (.bool par) (.int .i64 (k:Int)) (.int .i64 (p:Int)) h Ud Ud Ud Ud Ud Ud) (Mm enc H db l []) x E (Mm enc H db l' [])∧Out enc lt dom H db n cap a b l x E l':=fun x E l' t ho =>
    ⟨_,E,l',sq (t1) (sq (t2) (sq (t3) (sq (t4) (t) (c:=sub [1,1,0,0,0,1,1,1,1,1,1,1,1,1,1,1] B83)) (c:=sub [1,1,0,0,0,1,1,1,1,1,1,1,1,1,1] B83)) (c:=sub [1,1,0,0,0,1,1,1,1,1,1,1,1,1] B83)) (c:=sub [1,1,0,0,0,1,1,1,1,1,1,1,1] B83),Out.pre w1 ho⟩
  by_cases c:((m - a:Nat):Int) < ((b - m:Nat):Int)
  · obtain ⟨l5,hc5,v1,v2⟩:=hd a m lim l4 (by omega) (by omega) (by omega) hl0 hl1 hl4 hD4 (hF4.part rfl (by omega))
    obtain ⟨N5,hN5⟩:=hc5.from
    have hl5:=sw_len v1 hl4
    have e3:IntKind.i64.wrap ((m:Int)+1)=((m+1:Nat):Int):=wrap_succ (by omega)
    have ho:∀ (bl:Bool),Out enc lt dom H db n cap a b l4 .normal (env83 (.sl db 0 n cap n 3) (.int .i64 ((m+1:Nat):Int)) (.int .i64 (b:Int)) (.int .i64 lim) (.func 77 [] []) (.bool bl) (.bool bb) (.int .i64 (k:Int)) (.int .i64 (p:Int)) h Ud (.int .i64 (m:Int)) (.bool bb) (.int .i64 ((m - a:Nat):Int)) (.int .i64 ((b - m:Nat):Int)) (.int .i64 th)) l5:=fun bl=>by
      refine ⟨v1.mono (Nat.le_refl _) (by omega),.inr ⟨.inl rfl,m+1,b,lim,bl,bb,_,_,_,_,_,_,_,_,_,rfl,by omega,by omega,by omega,Nat.le_refl _,hl0,hl1,fun _ k h1 h2=>?_,fun l6 u1 u2=>?_⟩⟩
      · rw [show m+1 - 1=m by omega,v1.out (by omega) (k:=k) (by omega),v1.out (by omega) (k:=m) (by omega)]
        exact w4 k (by omega) h2
      · have em:at_ l6 m=at_ l4 m:=(u1.out (by omega) (k:=m) (by omega)).trans (v1.out (by omega) (k:=m) (by omega))
        refine join hL (m:=m) (fun i j q1 q2 q3=>?_) u2 (fun k q1 q2=>?_) (fun k q1 q2=>?_)
        · rw [u1.out (by omega) (k:=i) (by omega),u1.out (by omega) (k:=j) (by omega)]
          exact v2 i j q1 q2 q3
        · rw [em,u1.out (by omega) (k:=k) (by omega)]
          exact v1.all (by omega) (Q:=fun x=>lt x (at_ l4 m)) (Nat.le_refl _) (Nat.le_refl _) w3 k q1 q2
        · rw [em]
          exact u1.all (by omega) (Q:=fun x=>¬ lt x (at_ l4 m)) (lo:=m+1) (hi:=b) (Nat.le_refl _) (Nat.le_refl _) (fun i h1 h2=>by
            rw [v1.out (by omega) (k:=i) (by omega)]; exact w4 i (by omega) h2) k (by omega) q2
    by_cases c2:th ≤ ((m - a:Nat):Int)
    · have t:=pq_r_0 N5 db n cap (Mm enc H db l4 []) 0 a b lim m _ _ th (y10:=.bool bal) (y11:=.bool bb) (y12:=.int .i64 (k:Int)) (y13:=.int .i64 (p:Int)) (y14:=h) (y15:=Ud) (y17:=.bool bb) c c2 hN5
      rw [e3] at t
      exact up .normal _ l5 t (ho true)
    · have t:=pq_r_1 N5 db n cap (Mm enc H db l4 []) 0 a b lim m _ _ th (y10:=.bool bal) (y11:=.bool bb) (y12:=.int .i64 (k:Int)) (y13:=.int .i64 (p:Int)) (y14:=h) (y15:=Ud) (y17:=.bool bb) c c2 hN5
      rw [e3] at t
      exact up .normal _ l5 t (ho false)
  · have hF5:Flo lt (m+1) b l4:=fun _ k h1 h2=>by rw [show m+1 - 1=m by omega]; exact w4 k (by omega) h2
    obtain ⟨l5,hc5,v1,v2⟩:=hd (m+1) b lim l4 (by omega) (by omega) hb hl0 hl1 hl4 hD4 hF5
    obtain ⟨N5,hN5⟩:=hc5.from
    have hl5:=sw_len v1 hl4
    have e3:IntKind.i64.wrap ((m:Int)+1)=((m+1:Nat):Int):=wrap_succ (by omega)
    rw [← e3] at hN5
    have ho:∀ (bl:Bool),Out enc lt dom H db n cap a b l4 .normal (env83 (.sl db 0 n cap n 3) (.int .i64 (a:Int)) (.int .i64 (m:Int)) (.int .i64 lim) (.func 77 [] []) (.bool bl) (.bool bb) (.int .i64 (k:Int)) (.int .i64 (p:Int)) h Ud (.int .i64 (m:Int)) (.bool bb) (.int .i64 ((m - a:Nat):Int)) (.int .i64 ((b - m:Nat):Int)) (.int .i64 th)) l5:=fun bl=>by
      have hF6:=(hF4.sw (by omega) (v1.mono (a':=a) (by omega) (Nat.le_refl _))).part (b':=m) rfl (by omega)
      refine ⟨v1.mono (by omega) (Nat.le_refl _),.inr ⟨.inl rfl,a,m,lim,bl,bb,_,_,_,_,_,_,_,_,_,rfl,by omega,Nat.le_refl _,by omega,by omega,hl0,hl1,hF6,fun l6 u1 u2=>?_⟩⟩
      have em:at_ l6 m=at_ l4 m:=(u1.out (by omega) (k:=m) (by omega)).trans (v1.out (by omega) (k:=m) (by omega))
      refine join hL (m:=m) u2 (fun i j q1 q2 q3=>?_) (fun k q1 q2=>?_) (fun k q1 q2=>?_)
      · rw [u1.out (by omega) (k:=i) (by omega),u1.out (by omega) (k:=j) (by omega)]
        exact v2 i j q1 q2 q3
      · rw [em]
        exact u1.all (by omega) (Q:=fun x=>lt x (at_ l4 m)) (lo:=a) (hi:=m) (Nat.le_refl _) (Nat.le_refl _) (fun i h1 h2=>by
            rw [v1.out (by omega) (k:=i) (by omega)]; exact w3 i h1 h2) k q1 q2
      · rw [em,u1.out (by omega) (k:=k) (by omega)]
        exact v1.all (by omega) (Q:=fun x=>¬ lt x (at_ l4 m)) (Nat.le_refl _) (Nat.le_refl _) (fun i h1 h2=>w4 i (by omega) h2) k (by omega) q2
    by_cases c2:th ≤ ((b - m:Nat):Int)
    · have t:=pq_r_2 N5 db n cap (Mm enc H db l4 []) 0 a b lim m _ _ th (y10:=.bool bal) (y11:=.bool bb) (y12:=.int .i64 (k:Int)) (y13:=.int .i64 (p:Int)) (y14:=h) (y15:=Ud) (y17:=.bool bb) c c2 hN5
      exact up .normal _ l5 t (ho true)
    · have t:=pq_r_3 N5 db n cap (Mm enc H db l4 []) 0 a b lim m _ _ th (y10:=.bool bal) (y11:=.bool bb) (y12:=.int .i64 (k:Int)) (y13:=.int .i64 (p:Int)) (y14:=h) (y15:=Ud) (y17:=.bool bb) c c2 hN5
      exact up .normal _ l5 t (ho false)
theorem pq_T (S:So enc lt dom H db n) (hL:Lin lt) {a b k p:Nat} {lim:Int} {bal par:Bool} {h:HV} (hd:PdqOk enc lt dom H db n cap (b - a)) (hp1:a ≤ p) (hp2:p < b) (hb:b ≤ n) (hk:k ≤ n) (hl0:0 ≤ lim) (hl1:lim ≤ 1000) {l:List α} (hl:l.length=n) (hD:Dm dom l) (hF:Flo lt a b l) :
    ∃ x E l',RT polSo 83 (sub [1,1,0,0,0,1,1,1,1,1,1,1] B83) (env83 (.sl db 0 n cap n 3) (.int .i64 (a:Int)) (.int .i64 (b:Int)) (.int .i64 lim) (.func 77 [] []) (.bool bal) (.bool par) (.int .i64 (k:Int)) (.int .i64 (p:Int)) h Ud Ud Ud Ud Ud Ud) (Mm enc H db l []) x E (Mm enc H db l' [])∧Out enc lt dom H db n cap a b l x E l':=by
  have hn:=S.nb
  by_cases c0:0 < a
  · have hp:IntKind.i64.wrap ((a:Int) - 1)=((a - 1:Nat):Int):=wrap_pred (by omega) (by omega)
    by_cases c:lt (at_ l (a - 1)) (at_ l p)
    · obtain ⟨cc,N,hN,hc⟩:=S.ct (T:=[]) hl rfl (hD.at (i:=a - 1) (by omega)) (hD.at (i:=p) (by omega)) c
      have t1:=pq_m_0 N db n cap (Mm enc H db l []) 0 a b lim p (y10:=.bool bal) (y11:=.bool par) (y12:=.int .i64 (k:Int)) (y14:=h) (y15:=Ud) (y16:=Ud) (y17:=Ud) (y18:=Ud) (y19:=Ud) (y20:=Ud) (by omega) (ixs hp (by omega)) (S.ld l _ _ hl (by omega)) (ixs (i:=p) rfl (by omega)) (S.ld l _ _ hl (by omega)) hN hc
      obtain ⟨x,E,l',t,ho⟩:=pq_S S hL (cap:=cap) (k:=k) (bal:=bal) (par:=par) (h:=h) hd hp1 hp2 hb hk hl0 hl1 hl hD hF
      exact ⟨x,E,l',sq t1 t (c:=sub [1,1,0,0,0,1,1,1,1,1,1,1] B83),ho⟩
    · obtain ⟨cc,N,hN,hc⟩:=S.cf (T:=[]) hl rfl (hD.at (i:=a - 1) (by omega)) (hD.at (i:=p) (by omega)) c
      obtain ⟨m,l4,hc4,w1,w2,w3,w4⟩:=peq_ok S (cap:=cap) (T:=[]) hL rfl hb hp1 hp2 hl hD
      obtain ⟨N4,hN4⟩:=hc4.from
      have t1:=pq_m_1 (N+N4) db n cap (Mm enc H db l []) 0 a b lim p (y10:=.bool bal) (y11:=.bool par) (y12:=.int .i64 (k:Int)) (y14:=h) (y15:=Ud) (y16:=Ud) (y17:=Ud) (y18:=Ud) (y19:=Ud) (y20:=Ud) (by omega) (ixs hp (by omega)) (S.ld l _ _ hl (by omega)) (ixs (i:=p) rfl (by omega)) (S.ld l _ _ hl (by omega)) (fun kf hk=>hN kf (by omega)) hc (fun kf hk=>hN4 kf (by omega))
      have hlow:∀ k,a ≤ k → k < b → ¬ lt (at_ l4 k) (at_ l (a - 1)):=w1.all (by omega) (Q:=fun x=>¬ lt x (at_ l (a - 1))) (Nat.le_refl _) (Nat.le_refl _) (hF c0)
      refine ⟨_,_,l4,sqo t1 (c:=sub [1,1,0,0,0,1,1,1,1,1,1,1] B83) (b:=sub [1,1,0,0,0,1,1,1,1,1,1,1,1] B83),w1,.inr ⟨.inr rfl,m,b,lim,bal,par,_,_,_,_,_,_,_,_,_,rfl,by omega,by omega,by omega,Nat.le_refl _,hl0,hl1,fun _ k h1 h2=>?_,fun l5 u1 u2=>?_⟩⟩
      · exact hL.tr _ _ _ (w3 (m - 1) (by omega) (by omega)) (hL.asy _ _ (w4 k h1 h2))
      · have hl4:=sw_len w1 hl
        have hr:∀ k,m ≤ k → k < b → lt (at_ l p) (at_ l5 k):=u1.all (by omega) (Q:=fun x=>lt (at_ l p) x) (Nat.le_refl _) (Nat.le_refl _) w4
        intro i j q1 q2 q3
        by_cases c1:j < m
        · rw [u1.out (by omega) (k:=i) (by omega),u1.out (by omega) (k:=j) (by omega)]
          exact hL.tr _ _ _ (hL.tr _ _ _ (w3 i q1 (by omega)) c) (hlow j (by omega) q3)
        · by_cases c2:i < m
          · rw [u1.out (by omega) (k:=i) (by omega)]
            exact hL.tr _ _ _ (w3 i q1 c2) (hL.asy _ _ (hr j (by omega) q3))
          · exact u2 i j (by omega) q2 q3
  · have t1:=pq_m_2 0 db n cap (Mm enc H db l []) 0 a b lim p (y10:=.bool bal) (y11:=.bool par) (y12:=.int .i64 (k:Int)) (y14:=h) (y15:=Ud) (y16:=Ud) (y17:=Ud) (y18:=Ud) (y19:=Ud) (y20:=Ud) (by omega)
    obtain ⟨x,E,l',t,ho⟩:=pq_S S hL (cap:=cap) (k:=k) (bal:=bal) (par:=par) (h:=h) hd hp1 hp2 hb hk hl0 hl1 hl hD hF
    exact ⟨x,E,l',sq t1 t (c:=sub [1,1,0,0,0,1,1,1,1,1,1,1] B83),ho⟩
theorem pq_U (S:So enc lt dom H db n) (hL:Lin lt) {a b k p:Nat} {lim h:Int} {bal par:Bool} (hd:PdqOk enc lt dom H db n cap (b - a)) (hp1:a ≤ p) (hp2:p < b) (hb:b ≤ n) (hk:k ≤ n) (hl0:0 ≤ lim) (hl1:lim ≤ 1000) {l:List α} (hl:l.length=n) (hD:Dm dom l) (hF:Flo lt a b l) :
    ∃ x E l',RT polSo 83 (sub [1,1,0,0,0,1,1,1,1,1,1] B83) (env83 (.sl db 0 n cap n 3) (.int .i64 (a:Int)) (.int .i64 (b:Int)) (.int .i64 lim) (.func 77 [] []) (.bool bal) (.bool par) (.int .i64 (k:Int)) (.int .i64 (p:Int)) (.int .i64 h) Ud Ud Ud Ud Ud Ud) (Mm enc H db l []) x E (Mm enc H db l' [])∧Out enc lt dom H db n cap a b l x E l':=by
  have hn:=S.nb
  have on:∀ (l3:List α),Sw a b l l3 → RT polSo 83 (sub [1,1,0,0,0,1,1,1,1,1,1,0] B83) (env83 (.sl db 0 n cap n 3) (.int .i64 (a:Int)) (.int .i64 (b:Int)) (.int .i64 lim) (.func 77 [] []) (.bool bal) (.bool par) (.int .i64 (k:Int)) (.int .i64 (p:Int)) (.int .i64 h) Ud Ud Ud Ud Ud Ud) (Mm enc H db l []) .normal (env83 (.sl db 0 n cap n 3) (.int .i64 (a:Int)) (.int .i64 (b:Int)) (.int .i64 lim) (.func 77 [] []) (.bool bal) (.bool par) (.int .i64 (k:Int)) (.int .i64 (p:Int)) (.int .i64 h) Ud Ud Ud Ud Ud Ud) (Mm enc H db l3 []) →
      ∃ x E l',RT polSo 83 (sub [1,1,0,0,0,1,1,1,1,1,1] B83) (env83 (.sl db 0 n cap n 3) (.int .i64 (a:Int)) (.int .i64 (b:Int)) (.int .i64 lim) (.func 77 [] []) (.bool bal) (.bool par) (.int .i64 (k:Int)) (.int .i64 (p:Int)) (.int .i64 h) Ud Ud Ud Ud Ud Ud) (Mm enc H db l []) x E (Mm enc H db l' [])∧Out enc lt dom H db n cap a b l x E l':=fun l3 w t1=>by
    obtain ⟨x,E,l',t,ho⟩:=pq_T S hL (cap:=cap) (k:=k) (bal:=bal) (par:=par) (h:=.int .i64 h) hd hp1 hp2 hb hk hl0 hl1 (sw_len w hl) (hD.sw w (by omega)) (hF.sw (by omega) w)
    exact ⟨x,E,l',sq t1 t (c:=sub [1,1,0,0,0,1,1,1,1,1,1] B83),Out.pre w ho⟩
  cases bal with
  | false=>exact on l .refl (pq_l_0 0 db n cap (Mm enc H db l []) 0 a b lim h)
  | true =>
    cases par with
    | false=>exact on l .refl (pq_k_0 0 db n cap (Mm enc H db l []) 0 a b lim h)
    | true =>
      by_cases c:h=1
      · obtain ⟨bb,l3,hc3,w1,w2⟩:=pin_ok S hL (cap:=cap) (T:=[]) rfl (a:=a) (by omega) hb hl hD hF
        obtain ⟨N3,hN3⟩:=hc3.from
        cases bb with
        | true =>
          have t1:=pq_j_0 N3 db n cap (Mm enc H db l []) 0 a b lim h (y12:=.int .i64 (k:Int)) (y13:=.int .i64 (p:Int)) (y15:=Ud) (y16:=Ud) (y17:=Ud) (y18:=Ud) (y19:=Ud) (y20:=Ud) c hN3
          exact ⟨_,_,l3,sqo t1 (c:=sub [1,1,0,0,0,1,1,1,1,1,1] B83) (b:=sub [1,1,0,0,0,1,1,1,1,1,1,1] B83),w1,.inl ⟨rfl,w2 rfl⟩⟩
        | false=>exact on l3 w1 (pq_j_1 N3 db n cap (Mm enc H db l []) 0 a b lim h c hN3)
      · exact on l .refl (pq_j_2 0 db n cap (Mm enc H db l []) 0 a b lim h c)
theorem pq_V (S:So enc lt dom H db n) (hL:Lin lt) {a b k p:Nat} {lim h:Int} {bal par:Bool} (hd:PdqOk enc lt dom H db n cap (b - a)) (hp1:a ≤ p) (hp2:p < b) (hb:b ≤ n) (hk:k ≤ n) (hl0:0 ≤ lim) (hl1:lim ≤ 1000) {l:List α} (hl:l.length=n) (hD:Dm dom l) (hF:Flo lt a b l) :
    ∃ x E l',RT polSo 83 (sub [1,1,0,0,0,1,1,1,1,1] B83) (env83 (.sl db 0 n cap n 3) (.int .i64 (a:Int)) (.int .i64 (b:Int)) (.int .i64 lim) (.func 77 [] []) (.bool bal) (.bool par) (.int .i64 (k:Int)) (.int .i64 (p:Int)) (.int .i64 h) Ud Ud Ud Ud Ud Ud) (Mm enc H db l []) x E (Mm enc H db l' [])∧Out enc lt dom H db n cap a b l x E l':=by
  have hn:=S.nb
  by_cases c:h=2
  · obtain ⟨l2,hc2,w⟩:=rvs_ok S (cap:=cap) (T:=[]) (a:=a) (b:=b) (by omega) hb hl
    obtain ⟨N2,hN2⟩:=hc2.from
    have t1:=pq_i_0 N2 db n cap (Mm enc H db l []) 0 a b lim p h (y10:=.bool bal) (y11:=.bool par) (y12:=.int .i64 (k:Int)) (y15:=Ud) (y16:=Ud) (y17:=Ud) (y18:=Ud) (y19:=Ud) (y20:=Ud) c hN2
    have e1:IntKind.i64.wrap ((b:Int) - 1)=((b - 1:Nat):Int):=wrap_pred (by omega) (by omega)
    have e2:IntKind.i64.wrap ((p:Int) - (a:Int))=((p - a:Nat):Int):=(by rw [wrap_id (by omega) (by omega)]; omega)
    have e3:IntKind.i64.wrap (((b - 1:Nat):Int) - ((p - a:Nat):Int))=((b - 1 - (p - a):Nat):Int):=(by rw [wrap_id (by omega) (by omega)]; omega)
    rw [e1,e2,e3] at t1
    obtain ⟨x,E,l',t,ho⟩:=pq_U S hL (cap:=cap) (k:=k) (p:=b - 1 - (p - a)) (bal:=bal) (par:=par) (h:=1) hd (by omega) (by omega) hb hk hl0 hl1 (sw_len w hl) (hD.sw w (by omega)) (hF.sw (by omega) w)
    exact ⟨x,E,l',sq t1 t (c:=sub [1,1,0,0,0,1,1,1,1,1] B83),Out.pre w ho⟩
  · have t1:=pq_i_1 0 db n cap (Mm enc H db l []) 0 a b lim p h (y10:=.bool bal) (y11:=.bool par) (y12:=.int .i64 (k:Int)) (y15:=Ud) (y16:=Ud) (y17:=Ud) (y18:=Ud) (y19:=Ud) (y20:=Ud) c
    obtain ⟨x,E,l',t,ho⟩:=pq_U S hL (cap:=cap) (k:=k) (p:=p) (bal:=bal) (par:=par) (h:=h) hd hp1 hp2 hb hk hl0 hl1 hl hD hF
    exact ⟨x,E,l',sq t1 t (c:=sub [1,1,0,0,0,1,1,1,1,1] B83),ho⟩
theorem pq_B (S:So enc lt dom H db n) (hL:Lin lt) {a b:Nat} {lim:Int} {bal par:Bool} (hd:PdqOk enc lt dom H db n cap (b - a)) (hab:a ≤ b) (hb:b ≤ n) (hl0:0 ≤ lim) (hl1:lim ≤ 1000) {l:List α} (hl:l.length=n) (hD:Dm dom l) (hF:Flo lt a b l) :
    ∃ x E l',RT polSo 83 (sub [1,1,0,0,0] B83) (env83 (.sl db 0 n cap n 3) (.int .i64 (a:Int)) (.int .i64 (b:Int)) (.int .i64 lim) (.func 77 [] []) (.bool bal) (.bool par) Ud Ud Ud Ud Ud Ud Ud Ud Ud) (Mm enc H db l []) x E (Mm enc H db l' [])∧Out enc lt dom H db n cap a b l x E l':=by
  have hn:=S.nb
  have t0:=pq_c_0 0 db n cap (Mm enc H db l []) 0 a b lim (y10:=.bool bal) (y11:=.bool par) (y12:=Ud) (y13:=Ud) (y14:=Ud) (y15:=Ud) (y16:=Ud) (y17:=Ud) (y18:=Ud) (y19:=Ud) (y20:=Ud)
  have e0:IntKind.i64.wrap ((b:Int) - (a:Int))=((b - a:Nat):Int):=(by rw [wrap_id (by omega) (by omega)]; omega)
  rw [e0] at t0
  by_cases c1:b - a ≤ 12
  · obtain ⟨l',hc,w1,w2⟩:=ins_ok S hL (cap:=cap) (T:=[]) rfl hab hb hl hD
    obtain ⟨N1,hN1⟩:=hc.from
    have t1:=pq_d_0 N1 db n cap (Mm enc H db l []) 0 a b lim (b - a) (y10:=.bool bal) (y11:=.bool par) (y13:=Ud) (y14:=Ud) (y15:=Ud) (y16:=Ud) (y17:=Ud) (y18:=Ud) (y19:=Ud) (y20:=Ud) (by omega) hN1
    exact ⟨_,_,l',sq (t0) (sqo (t1) (c:=sub [1,1,0,0,0,1] B83) (b:=sub [1,1,0,0,0,1,1] B83)) (c:=sub [1,1,0,0,0] B83),w1,.inl ⟨rfl,w2⟩⟩
  have t1:=pq_d_1 0 db n cap (Mm enc H db l []) 0 a b lim (b - a) (y10:=.bool bal) (y11:=.bool par) (y13:=Ud) (y14:=Ud) (y15:=Ud) (y16:=Ud) (y17:=Ud) (y18:=Ud) (y19:=Ud) (y20:=Ud) (by omega)
  by_cases c2:lim=0
  · obtain ⟨l',hc,w1,w2⟩:=heap_ok S hL (cap:=cap) (T:=[]) rfl (a:=a) (by omega) hb hl hD
    obtain ⟨N1,hN1⟩:=hc.from
    have t2:=pq_e_0 N1 db n cap (Mm enc H db l []) 0 a b lim (y10:=.bool bal) (y11:=.bool par) (y12:=.int .i64 ((b - a:Nat):Int)) (y13:=Ud) (y14:=Ud) (y15:=Ud) (y16:=Ud) (y17:=Ud) (y18:=Ud) (y19:=Ud) (y20:=Ud) c2 hN1
    exact ⟨_,_,l',sq (t0) (sq (t1) (sqo (t2) (c:=sub [1,1,0,0,0,1,1] B83) (b:=sub [1,1,0,0,0,1,1,1] B83)) (c:=sub [1,1,0,0,0,1] B83)) (c:=sub [1,1,0,0,0] B83),w1,.inl ⟨rfl,w2⟩⟩
  have t2:=pq_e_1 0 db n cap (Mm enc H db l []) 0 a b lim (y10:=.bool bal) (y11:=.bool par) (y12:=.int .i64 ((b - a:Nat):Int)) (y13:=Ud) (y14:=Ud) (y15:=Ud) (y16:=Ud) (y17:=Ud) (y18:=Ud) (y19:=Ud) (y20:=Ud) c2
  have on:∀ (lim1:Int) (l1:List α),0 ≤ lim1 → lim1 ≤ 1000 → Sw a b l l1 → RT polSo 83 (sub [1,1,0,0,0,1,1,1,0] B83) (env83 (.sl db 0 n cap n 3) (.int .i64 (a:Int)) (.int .i64 (b:Int)) (.int .i64 lim) (.func 77 [] []) (.bool bal) (.bool par) (.int .i64 ((b - a:Nat):Int)) Ud Ud Ud Ud Ud Ud Ud Ud) (Mm enc H db l []) .normal (env83 (.sl db 0 n cap n 3) (.int .i64 (a:Int)) (.int .i64 (b:Int)) (.int .i64 lim1) (.func 77 [] []) (.bool bal) (.bool par) (.int .i64 ((b - a:Nat):Int)) Ud Ud Ud Ud Ud Ud Ud Ud) (Mm enc H db l1 []) →
      ∃ x E l',RT polSo 83 (sub [1,1,0,0,0] B83) (env83 (.sl db 0 n cap n 3) (.int .i64 (a:Int)) (.int .i64 (b:Int)) (.int .i64 lim) (.func 77 [] []) (.bool bal) (.bool par) Ud Ud Ud Ud Ud Ud Ud Ud Ud) (Mm enc H db l []) x E (Mm enc H db l' [])∧Out enc lt dom H db n cap a b l x E l':=fun lim1 l1 hq0 hq1 w t3=>by
    have hl1':=sw_len w hl
    have hD1:=hD.sw w (by omega)
    obtain ⟨p,h,hc,p1,p2⟩:=piv_ok S (cap:=cap) (a:=a) (b:=b) (by omega) hb hl1' hD1
    obtain ⟨N1,hN1⟩:=hc.from
    have t4:=pq_h_0 N1 db n cap (Mm enc H db l1 []) 0 a b lim1 (y10:=.bool bal) (y11:=.bool par) (y12:=.int .i64 ((b - a:Nat):Int)) (y13:=Ud) (y14:=Ud) (y15:=Ud) (y16:=Ud) (y17:=Ud) (y18:=Ud) (y19:=Ud) (y20:=Ud) hN1
    obtain ⟨x,E,l',t,ho⟩:=pq_V S hL (cap:=cap) (k:=b - a) (p:=p) (bal:=bal) (par:=par) (h:=h) hd p1 p2 hb (by omega) hq0 hq1 hl1' hD1 (hF.sw (by omega) w)
    have t5:=sq t4 t (c:=sub [1,1,0,0,0,1,1,1,1] B83)
    have t6:=sq t3 t5 (c:=sub [1,1,0,0,0,1,1,1] B83)
    have t7:=sq t2 t6 (c:=sub [1,1,0,0,0,1,1] B83)
    have t8:=sq t1 t7 (c:=sub [1,1,0,0,0,1] B83)
    exact ⟨x,E,l',sq t0 t8 (c:=sub [1,1,0,0,0] B83),Out.pre w ho⟩
  cases bal with
  | true=>exact on lim l hl0 hl1 .refl (pq_f_0 0 db n cap (Mm enc H db l []) 0 a b lim)
  | false =>
    obtain ⟨l1,hc,w⟩:=brk_ok S (cap:=cap) (a:=a) (b:=b) (by omega) hb hl
    obtain ⟨N1,hN1⟩:=hc.from
    have t3:=pq_g_0 N1 db n cap (Mm enc H db l []) 0 a b lim (y11:=.bool par) (y12:=.int .i64 ((b - a:Nat):Int)) (y13:=Ud) (y14:=Ud) (y15:=Ud) (y16:=Ud) (y17:=Ud) (y18:=Ud) (y19:=Ud) (y20:=Ud) hN1
    rw [wrap_id (n:=lim - 1) (by omega) (by omega)] at t3
    exact on (lim - 1) l1 (by omega) (by omega) w t3
theorem pq_loop (S:So enc lt dom H db n) (hL:Lin lt):∀ (d:Nat) (a b:Nat) (lim:Int) (bal par:Bool) (l:List α),b - a < d → PdqOk enc lt dom H db n cap (b - a) → a ≤ b → b ≤ n → 0 ≤ lim → lim ≤ 1000 → l.length=n → Dm dom l → Flo lt a b l →
    ∃ E l',RT polSo 83 (sub [1,1,0] B83) (env83 (.sl db 0 n cap n 3) (.int .i64 (a:Int)) (.int .i64 (b:Int)) (.int .i64 lim) (.func 77 [] []) (.bool bal) (.bool par) Ud Ud Ud Ud Ud Ud Ud Ud Ud) (Mm enc H db l []) .ret E (Mm enc H db l' [])∧Sw a b l l'∧Sorted lt a b l':=by
  have hn:=S.nb
  intro d
  induction d with
  | zero=>intro a b lim bal par l hd; omega
  | succ d ih =>
    intro a b lim bal par l hd hP hab hb h0 h1 hl hD hF
    obtain ⟨x,E,l1,t,w,ho⟩:=pq_B S hL (cap:=cap) (bal:=bal) (par:=par) hP hab hb h0 h1 hl hD hF
    rcases ho with ⟨rfl,hs⟩ | ⟨hx,a',b',lim',bal',par',y2,y3,y4,y5,y6,y7,y8,y9,y10,rfl,q1,q2,q3,q4,q5,q6,q7,q8⟩
    · exact ⟨_,l1,lpo (RunsTo.block_ret (i:=1) (c:=sub [1,1,0,0] B83) t (by kernel_rfl)),w,hs⟩
    · have st:RT polSo 83 (sub [1,1,0,0] B83) (env83 (.sl db 0 n cap n 3) (.int .i64 (a:Int)) (.int .i64 (b:Int)) (.int .i64 lim) (.func 77 [] []) (.bool bal) (.bool par) Ud Ud Ud Ud Ud Ud Ud Ud Ud) (Mm enc H db l []) .normal (env83 (.sl db 0 n cap n 3) (.int .i64 (a':Int)) (.int .i64 (b':Int)) (.int .i64 lim') (.func 77 [] []) (.bool bal') (.bool par') y2 y3 y4 y5 y6 y7 y8 y9 y10) (Mm enc H db l1 []):=by
        rcases hx with rfl | rfl
        · exact RunsTo.block_normal (i:=1) t (by kernel_rfl)
        · exact bke t
      have hl1:=sw_len w hl
      obtain ⟨E,l2,r,v1,v2⟩:=ih a' b' lim' bal' par' l1 (by omega) (fun a2 b2 lim2 l2 g1=>hP a2 b2 lim2 l2 (by omega)) q3 (by omega) q5 q6 hl1 (hD.sw w (by omega)) q7
      exact ⟨E,l2,lop (st) (gcM _ _ _ _ _ rfl) (r),w.trans (v1.mono q2 q4),q8 l2 v1 v2⟩
theorem pdq_of (S:So enc lt dom H db n) (hL:Lin lt) {a b:Nat} {lim:Int} {l:List α} (hP:PdqOk enc lt dom H db n cap (b - a)) (hab:a ≤ b) (hb:b ≤ n) (h0:0 ≤ lim) (h1:lim ≤ 1000) (hl:l.length=n) (hD:Dm dom l) (hF:Flo lt a b l) :
    ∃ l',ClS 83 [.sl db 0 n cap n 3,.int .i64 (a:Int),.int .i64 (b:Int),.int .i64 lim,.func 77 [] []] (Mm enc H db l []) (.tuple []) (Mm enc H db l' [])∧Sw a b l l'∧Sorted lt a b l':=by
  obtain ⟨E,l',r,q⟩:=pq_loop S hL (cap:=cap) _ a b lim true true l (Nat.lt_succ_self _) hP hab hb h0 h1 hl hD hF
  have t0:=pq_a_0 0 db n cap (Mm enc H db l []) 0 a b lim
  have t1:=pq_b_0 0 db n cap (Mm enc H db l []) 0 a b lim (y10:=.bool true) (y11:=Ud) (y12:=Ud) (y13:=Ud) (y14:=Ud) (y15:=Ud) (y16:=Ud) (y17:=Ud) (y18:=Ud) (y19:=Ud) (y20:=Ud)
  have t:=sq (t0) (sq (t1) (RunsTo.block_ret (i:=0) (c:=sub [1,1] B83) (r) (by kernel_rfl)) (c:=sub [1] B83)) (c:=B83)
  have hc:=CallsTo.shared (P:=Tp) (pol:=polSo) (g:=83) (fn:=Try.f83) (cd:=B83) (args:=[.sl db 0 n cap n 3,.int .i64 (a:Int),.int .i64 (b:Int),.int .i64 lim,.func 77 [] []]) (v:=.tuple []) (by kernel_rfl) (by kernel_rfl) (by kernel_rfl) (by kernel_rfl) t (by kernel_rfl) (by simp) (by kernel_rfl)
  rw [gcM _ _ _ _ _ rfl] at hc
  exact ⟨l',hc,q⟩
theorem pdq_all (S:So enc lt dom H db n) (hL:Lin lt):∀ d,PdqOk enc lt dom H db n cap d
  | 0,_,_,_,_,h=>by omega
  | d+1,a,b,lim,l,h=>fun hab hb h0 h1 hl hD hF=>pdq_of S hL (fun a2 b2 lim2 l2 g=>pdq_all S hL d a2 b2 lim2 l2 (by omega)) hab hb h0 h1 hl hD hF
theorem pdq_ok (S:So enc lt dom H db n) (hL:Lin lt) {lim:Int} (h0:0 ≤ lim) (h1:lim ≤ 1000) {l:List α} (hl:l.length=n) (hD:Dm dom l) :
    ∃ l',ClS 83 [.sl db 0 n cap n 3,.int .i64 0,.int .i64 (n:Int),.int .i64 lim,.func 77 [] []] (Mm enc H db l []) (.tuple []) (Mm enc H db l' [])∧l'.Perm l∧Sorted lt 0 n l':=by
  obtain ⟨l',hc,w,hs⟩:=pdq_all S hL (cap:=cap) (n+1) 0 n lim l (by omega) (Nat.zero_le _) (Nat.le_refl _) h0 h1 hl hD (fun h=>by omega)
  exact ⟨l',hc,w.perm (by omega),hs⟩
end
end Go.Proofs.Ytlendaofkmhgmaa
end
section
open Go Go.HL Go.HL.So
namespace Go.Proofs.Ytlendaofkmhgmaa
abbrev Ed:=Int × Int × Int
def encE (e:Ed):HV:=.agg [.int .i64 e.1,.int .i64 e.2.1,.int .i64 e.2.2]
def encF (e:Ed):HV:=.agg [.int .i64 e.2.1,.int .i64 e.2.2,.int .i64 e.1]
def ltE (x y:Ed):Prop:=x.1 < y.1 ∨ (x.1=y.1∧(x.2.1 < y.2.1 ∨ (x.2.1=y.2.1∧x.2.2 < y.2.2)))
theorem ltE_lin:Lin ltE:=⟨fun x y z h1 h2=>by unfold ltE at *; omega,fun x y h=>by unfold ltE at *; omega⟩
theorem ltE_tri {x y:Ed} (h1:¬ ltE x y) (h2:¬ ltE y x):x=y:=by
  obtain ⟨a,b,c⟩:=x
  obtain ⟨d,e,f⟩:=y
  unfold ltE at h1 h2
  simp only at h1 h2
  have:a=d∧b=e∧c=f:=by omega
  obtain ⟨rfl,rfl,rfl⟩:=this
  rfl
theorem ltE_trans {x y z:Ed} (h1:ltE x y) (h2:ltE y z):ltE x z:=by unfold ltE at *; omega
theorem ltE_cmp (x y:Ed):fstL [cmpI x.1 y.1,cmpI x.2.1 y.2.1,cmpI x.2.2 y.2.2] < 0 ↔ ltE x y:=by
  unfold ltE cmpI fstL fstL fstL fstL
  split <;> rename_i h1 <;> (try split at h1) <;> (try split) <;> (try split) <;> (try split) <;> (try split) <;> omega
theorem strict_eq:∀ {l l':List Ed},l.Pairwise ltE → l'.Pairwise ltE → (∀ e,e ∈ l ↔ e ∈ l') → l=l'
  | [],[],_,_,_=>rfl
  | [],y :: l',_,_,h=>by have:=(h y).2 (by simp); cases this
  | x :: l,[],_,_,h=>by have:=(h x).1 (by simp); cases this
  | x :: l,y :: l',h1,h2,h=>by
    have h1':=List.pairwise_cons.1 h1
    have h2':=List.pairwise_cons.1 h2
    have e:x=y:=by
      rcases List.mem_cons.1 ((h x).1 (by simp)) with e | hx
      · exact e
      · rcases List.mem_cons.1 ((h y).2 (by simp)) with e | hy
        · exact e.symm
        · exact absurd (h1'.1 y hy) (ltE_lin.asy _ _ (h2'.1 x hx))
    subst e
    have irr:¬ ltE x x:=ltE_lin.rf x
    rw [strict_eq h1'.2 h2'.2 fun e=>?_]
    constructor
    · intro he
      rcases List.mem_cons.1 ((h e).1 (by simp [he])) with rfl | h3
      · exact absurd (h1'.1 _ he) irr
      · exact h3
    · intro he
      rcases List.mem_cons.1 ((h e).2 (by simp [he])) with rfl | h3
      · exact absurd (h2'.1 _ he) irr
      · exact h3
theorem strict_of {l:List Ed} (hs:Sorted ltE 0 l.length l) (hn:l.Nodup):l.Pairwise ltE:=by
  rw [List.pairwise_iff_getElem]
  intro i j hi hj hij
  have h1:=hs i j (Nat.zero_le _) hij hj
  have e1:at_ l i=l[i]:=by simp [at_,List.getD,List.getElem?_eq_getElem hi]
  have e2:at_ l j=l[j]:=by simp [at_,List.getD,List.getElem?_eq_getElem hj]
  rw [e1,e2] at h1
  refine Classical.byContradiction fun h2=>?_
  have e:=ltE_tri h2 h1
  have h3:l[i]?=l[j]?:=by rw [List.getElem?_eq_getElem hi,List.getElem?_eq_getElem hj,e]
  have:=(List.getElem?_inj hi hn).1 h3
  omega
def cst (d:List (List Int)) (p:List Int) (a b:Nat):Int:=at2 d a b+p.getD a 0+p.getD b 0
abbrev mkE (d:List (List Int)) (p:List Int) (a b:Nat):Ed:=(cst d p a b,(a:Int),(b:Int))
def edRow (d:List (List Int)) (p:List Int) (b:Nat):Nat → Nat → List Ed
  | 0,_=>[]
  | k+1,a=>mkE d p a b :: edRow d p b k (a+1)
def edAll (d:List (List Int)) (p:List Int) (f:Nat):Nat → Nat → List Ed
  | 0,_=>[]
  | k+1,b=>edRow d p b (b - f) f ++ edAll d p f k (b+1)
def insS (e:Ed):List Ed → List Ed
  | []=>[e]
  | x :: l=>if x.1 ≤ e.1 then x :: insS e l else e :: x :: l
def rfRow (d:List (List Int)) (p:List Int) (a:Nat):Nat → Nat → List Ed → List Ed
  | 0,_,o=>o
  | k+1,b,o=>rfRow d p a k (b+1) (insS (mkE d p a b) o)
def rfAll (d:List (List Int)) (p:List Int):Nat → Nat → List Ed → List Ed
  | 0,_,o=>o
  | k+1,a,o=>rfAll d p k (a+1) (rfRow d p a (d.length - (a+1)) (a+1) o)
def edg (d:List (List Int)) (p:List Int) (f:Nat):List Ed:=rfAll d p (d.length - f) f []
section
variable {d:List (List Int)} {p:List Int}
theorem mem_edRow {b:Nat} {e:Ed}:∀ k a,e ∈ edRow d p b k a ↔ ∃ x,(a ≤ x∧x < a+k)∧e=mkE d p x b
  | 0,a=>by simp only [edRow,List.not_mem_nil,false_iff]; rintro ⟨x,h,_⟩; omega
  | k+1,a=>by
    rw [edRow,List.mem_cons,mem_edRow k (a+1)]
    constructor
    · rintro (h | ⟨x,h,e⟩)
      · exact ⟨a,by omega,h⟩
      · exact ⟨x,by omega,e⟩
    · rintro ⟨x,h,e⟩
      by_cases c:x=a
      · subst c; exact .inl e
      · exact .inr ⟨x,by omega,e⟩
theorem mem_edAll {f:Nat} {e:Ed}:∀ k b,e ∈ edAll d p f k b ↔ ∃ x y,(f ≤ x∧x < y∧b ≤ y∧y < b+k)∧e=mkE d p x y
  | 0,b=>by simp only [edAll,List.not_mem_nil,false_iff]; rintro ⟨x,y,h,_⟩; omega
  | k+1,b=>by
    rw [edAll,List.mem_append,mem_edRow,mem_edAll k (b+1)]
    constructor
    · rintro (⟨x,h,e⟩ | ⟨x,y,h,e⟩)
      · exact ⟨x,b,by omega,e⟩
      · exact ⟨x,y,by omega,e⟩
    · rintro ⟨x,y,h,e⟩
      by_cases c:y=b
      · subst c; exact .inl ⟨x,by omega,e⟩
      · exact .inr ⟨x,y,by omega,e⟩
theorem mkE_inj {a b x y:Nat} (h:mkE d p a b=mkE d p x y):a=x∧b=y:=by
  simp only [mkE,Prod.mk.injEq] at h
  omega
theorem nd_edRow {b:Nat}:∀ k a,(edRow d p b k a).Nodup
  | 0,a=>List.nodup_nil
  | k+1,a=>by
    rw [edRow,List.nodup_cons]
    refine ⟨fun h=>?_,nd_edRow k (a+1)⟩
    obtain ⟨x,h1,h2⟩:=(mem_edRow _ _).1 h
    have:=mkE_inj h2; omega
theorem nd_edAll {f:Nat}:∀ k b,(edAll d p f k b).Nodup
  | 0,b=>List.nodup_nil
  | k+1,b=>by
    rw [edAll,List.nodup_append]
    refine ⟨nd_edRow _ _,nd_edAll k (b+1),fun e h1 e' h2 he=>?_⟩
    subst he
    obtain ⟨x,q1,q2⟩:=(mem_edRow _ _).1 h1
    obtain ⟨x',y',q3,q4⟩:=(mem_edAll _ _).1 h2
    have:=mkE_inj (q2.symm.trans q4); omega
theorem edAll_len {f:Nat}:∀ k b,(edAll d p f k b).length ≤ k * (b+k)
  | 0,b=>by simp [edAll]
  | k+1,b=>by
    have h1:=edAll_len (f:=f) k (b+1)
    have h2:∀ k a,(edRow d p b k a).length=k:=fun k=>by
      induction k with
      | zero=>intro a; rfl
      | succ k ih=>intro a; simp [edRow,ih]
    rw [edAll,List.length_append,h2]
    have e1:(k+1) * (b+(k+1))=k * (b+1+k)+(b+(k+1)):=by
      rw [Nat.add_mul,Nat.one_mul]; congr 1; congr 1; omega
    rw [e1]; omega
theorem mem_insS {e x:Ed}:∀ l,x ∈ insS e l ↔ x=e ∨ x ∈ l
  | []=>by simp [insS]
  | y :: l=>by
    rw [insS]
    split
    · rw [List.mem_cons,mem_insS l,List.mem_cons]
      constructor
      · rintro (h | h | h)
        · exact .inr (.inl h)
        · exact .inl h
        · exact .inr (.inr h)
      · rintro (h | h | h)
        · exact .inr (.inl h)
        · exact .inl h
        · exact .inr (.inr h)
    · simp
theorem insS_strict {e:Ed}:∀ l:List Ed,l.Pairwise ltE → (∀ x ∈ l,x.1 ≤ e.1 → ltE x e) → (insS e l).Pairwise ltE
  | [],_,_=>by simp [insS]
  | y :: l,h,hl=>by
    have h':=List.pairwise_cons.1 h
    rw [insS]
    split
    · rename_i c
      refine List.pairwise_cons.2 ⟨fun z hz=>?_,insS_strict l h'.2 fun x hx=>hl x (by simp [hx])⟩
      rcases (mem_insS l).1 hz with rfl | hz
      · exact hl y (by simp) c
      · exact h'.1 z hz
    · rename_i c
      have hey:ltE e y:=.inl (by omega)
      refine List.pairwise_cons.2 ⟨fun z hz=>?_,h⟩
      rcases List.mem_cons.1 hz with rfl | hz
      · exact hey
      · exact ltE_trans hey (h'.1 z hz)
theorem rfRow_ok {a f:Nat} (hf:f ≤ a):∀ k b o,a < b → (o:List Ed).Pairwise ltE → (∀ e,e ∈ o ↔ ∃ x y,(f ≤ x∧x < y∧((x < a∧y < b+k) ∨ (x=a∧y < b)))∧e=mkE d p x y) →
    (rfRow d p a k b o).Pairwise ltE∧∀ e,e ∈ rfRow d p a k b o ↔ ∃ x y,(f ≤ x∧x < y∧x ≤ a∧y < b+k)∧e=mkE d p x y
  | 0,b,o,_,h1,h2=>by
    refine ⟨h1,fun e=>(h2 e).trans ?_⟩
    constructor
    · rintro ⟨x,y,h,e⟩; exact ⟨x,y,by omega,e⟩
    · rintro ⟨x,y,h,e⟩; exact ⟨x,y,by omega,e⟩
  | k+1,b,o,hb,h1,h2=>by
    rw [rfRow]
    have:=rfRow_ok hf k (b+1) (insS (mkE d p a b) o) (by omega) (insS_strict o h1 fun x hx hc=>?_) (fun e=>?_)
    · refine ⟨this.1,fun e=>(this.2 e).trans ?_⟩
      rw [show b+1+k=b+(k+1) by omega]
    · obtain ⟨u,v,h3,rfl⟩:=(h2 x).1 hx
      simp only [mkE] at hc
      unfold ltE
      simp only [mkE]
      omega
    · rw [mem_insS,h2]
      constructor
      · rintro (h | ⟨x,y,h,e⟩)
        · exact ⟨a,b,by omega,h⟩
        · exact ⟨x,y,by omega,e⟩
      · rintro ⟨x,y,h,e⟩
        by_cases c:x=a∧y=b
        · obtain ⟨rfl,rfl⟩:=c; exact .inl e
        · exact .inr ⟨x,y,by omega,e⟩
theorem rfAll_ok {f:Nat}:∀ k a o,a+k=d.length → f ≤ a → (o:List Ed).Pairwise ltE → (∀ e,e ∈ o ↔ ∃ x y,(f ≤ x∧x < y∧x < a∧y < d.length)∧e=mkE d p x y) →
    (rfAll d p k a o).Pairwise ltE∧∀ e,e ∈ rfAll d p k a o ↔ ∃ x y,(f ≤ x∧x < y∧y < d.length)∧e=mkE d p x y
  | 0,a,o,ha,_,h1,h2=>by
    refine ⟨h1,fun e=>(h2 e).trans ?_⟩
    constructor
    · rintro ⟨x,y,h,e⟩; exact ⟨x,y,by omega,e⟩
    · rintro ⟨x,y,h,e⟩; exact ⟨x,y,by omega,e⟩
  | k+1,a,o,ha,hf,h1,h2=>by
    rw [rfAll]
    obtain ⟨q1,q2⟩:=rfRow_ok (d:=d) (p:=p) hf (d.length - (a+1)) (a+1) o (by omega) h1 (fun e=>(h2 e).trans (by
      constructor
      · rintro ⟨x,y,h,e⟩; exact ⟨x,y,by omega,e⟩
      · rintro ⟨x,y,h,e⟩; exact ⟨x,y,by omega,e⟩))
    refine rfAll_ok k (a+1) _ (by omega) (by omega) q1 fun e=>(q2 e).trans ?_
    constructor
    · rintro ⟨x,y,h,e⟩; exact ⟨x,y,by omega,e⟩
    · rintro ⟨x,y,h,e⟩; exact ⟨x,y,by omega,e⟩
theorem edg_ok {f:Nat} (hf:f ≤ d.length):(edg d p f).Pairwise ltE∧∀ e,e ∈ edg d p f ↔ ∃ x y,(f ≤ x∧x < y∧y < d.length)∧e=mkE d p x y :=
  rfAll_ok _ f [] (by omega) (Nat.le_refl _) List.Pairwise.nil fun e=>by
    simp only [List.not_mem_nil,false_iff]; rintro ⟨x,y,h,_⟩; omega
theorem edg_eq {f:Nat} (hf:f ≤ d.length) {l:List Ed} (hp:l.Perm (edAll d p f d.length 0)) (hs:Sorted ltE 0 l.length l):l=edg d p f:=by
  obtain ⟨h1,h2⟩:=edg_ok (d:=d) (p:=p) hf
  refine strict_eq (strict_of hs (hp.nodup_iff.2 (nd_edAll _ _))) h1 fun e=>?_
  rw [hp.mem_iff,mem_edAll,h2]
  constructor
  · rintro ⟨x,y,h,e⟩; exact ⟨x,y,by omega,e⟩
  · rintro ⟨x,y,h,e⟩; exact ⟨x,y,by omega,e⟩
end
end Go.Proofs.Ytlendaofkmhgmaa
end
section
open Go Go.HL Go.HL.So
namespace Go.Proofs.Ytlendaofkmhgmaa
open Go.Proofs.Try renaming prog → Tp
open Go.HL.HV renaming undef → Ud
theorem a91:tyAgg Tp 91=true:=by kernel_rfl
theorem s91:tySize Tp 91=some 3:=by kernel_rfl
theorem So.edge {H:Heap} {db n:Nat} (hn:n ≤ 60000) (hd:db < H.length) (hx:mxs H ≤ H.length):So encE ltE (fun _=>True) H db n:=by
  have hb:∀ (l:List Ed) (T:Heap),(Mm encE H db l T)[db]?=some (bE encE l):=fun l T=>by
    unfold Mm
    rw [List.getElem?_append_left (by simpa using hd),List.getElem?_set_self hd]
  refine ⟨hn,hd,hx,fun l T i hl hi=>?_,fun l T i x hl hi=>?_,fun l T x y hl hT _ _=>?_⟩
  · have hi':(l.map encE)[i]?=some (encE (at_ l i)):=by rw [List.getElem?_map,List.getElem?_eq_getElem (by omega)]; simp [at_,List.getD,List.getElem?_eq_getElem (show i < l.length by omega)]
    exact load_agg (b:=db) (hb l T) (by simpa using hl.symm) hi' a91 s91
  · have hi':(l.map encE)[i]?=some (encE (at_ l i)):=by rw [List.getElem?_map,List.getElem?_eq_getElem (by omega)]; simp [at_,List.getD,List.getElem?_eq_getElem (show i < l.length by omega)]
    have:=store_agg (P:=Tp) (t:=91) (b:=db) (i:=i) (tot:=n) (new:=[.int .i64 x.1,.int .i64 x.2.1,.int .i64 x.2.2]) (hb l T) (by simpa using hl.symm) hi' s91 rfl (by simp) rfl rfl
    rw [show encE x=.agg [.int .i64 x.1,.int .i64 x.2.1,.int .i64 x.2.2] from rfl,this]
    congr 1
    unfold Mm
    rw [List.set_append_left _ _ (by simpa using hd),List.set_set]
    congr 2
    unfold bE
    congr 1
    rw [List.map_set]; rfl
  · refine ⟨fstL [cmpI x.1 y.1,cmpI x.2.1 y.2.1,cmpI x.2.2 y.2.2],0,fun kf _=>?_,ltE_cmp x y⟩
    rw [prim_call (pol:=polSo) (g:=77) (F:=edge77) (by kernel_rfl) (rs:=[encE x,encE y]) (by simp only [encE]; rfl) (res:=.int .i64 (fstL [cmpI x.1 y.1,cmpI x.2.1 y.2.1,cmpI x.2.2 y.2.2])) rfl]; rfl
theorem Mm_self {H:Heap} {db:Nat} {l:List Ed} (h:H[db]?=some (bE encE l)):Mm encE H db l []=H:=by
  unfold Mm
  rw [List.append_nil]
  apply List.ext_getElem?
  intro i
  rw [List.getElem?_set]
  split
  · rename_i e
    subst e
    rw [if_pos (lt_of_get h),h]
  · rfl
theorem sortE_ok {H:Heap} {db n:Nat} {l:List Ed} (hn:n ≤ 60000) (hl:l.length=n) (hb:H[db]?=some (bE encE l)) (hx:mxs H ≤ H.length) :
    ∃ l',ClS 76 [.sl db 0 n none n 3,.func 77 [] []] H (.tuple []) (H.set db (bE encE l'))∧l'.Perm l∧Sorted ltE 0 l'.length l':=by
  have hd:=lt_of_get hb
  have S:=So.edge (n:=n) hn hd hx
  have hlen:=lenN_ok (x:=n) (by omega)
  obtain ⟨l',hc,h1,h2⟩:=pdq_ok S ltE_lin (cap:=none) (lim:=(lenN n:Int)) (by omega) (by omega) hl (fun _ _=>trivial)
  obtain ⟨N,hN⟩:=hc.from
  rw [Mm_self hb] at hN
  have hu:IntKind.u64.wrap (n:Int)=(n:Int):=by rw [wrapU64]; omega
  have t:=st_a_0 N db n none H 0 (m0:=(lenN n:Int)) (H0:=H) (fun kf _=>by
    rw [hu,prim_call (pol:=polSo) (g:=82) (F:=len95) (by kernel_rfl) (rs:=[.int .u64 (n:Int)]) rfl (res:=.int .i64 (lenN n:Int)) (by simp only [len95]; rw [if_pos (by omega),Int.toNat_natCast])]; rfl) hN
  have hc2:=CallsTo.shared (P:=Tp) (pol:=polSo) (g:=76) (fn:=Try.f76) (cd:=B76) (args:=[.sl db 0 n none n 3,.func 77 [] []]) (v:=.tuple []) (by kernel_rfl) (by kernel_rfl) (by kernel_rfl) (by kernel_rfl) t (by kernel_rfl) (by simp) (by kernel_rfl)
  have e:Mm encE H db l' []=H.set db (bE encE l'):=by unfold Mm; rw [List.append_nil]
  rw [e,gc_eq _ (by simp)] at hc2
  exact ⟨l',hc2,h1,by rw [h1.length_eq,hl]; exact h2⟩
end Go.Proofs.Ytlendaofkmhgmaa
end
section
open Go Go.HL
namespace Go.Proofs.Ytlendaofkmhgmaa
set_option maxRecDepth 100000
open Go.Proofs.Try renaming prog → Tp
open Go.HL.HV renaming undef → Ud
noncomputable def B70:Code:=Try.f70.body.getD .skip
abbrev env70 (v0 v1 v2 v5 v6 v7 v8 v9 v11 v12:HV):Env:=[(0,v0),(1,v1),(2,v2),(5,v5),(6,v6),(7,v7),(8,v8),(9,v9),(11,v11),(12,v12)]
theorem ed_a_0 (N:Nat) (rw ps:List HV) (f:Nat) (g0:(if (cellsOf (.agg ps)).all cellV then some (newV (.agg ps) []) else none)=some (.ptr 0 0 0 1,[.arr 11 [.agg ps] true 0])):RT polSo 70 (sub [0] B70) [(0,.imm .arg 1 rw),(1,.i (f:Int)),(2,.agg ps)] [] .normal (env70 (.imm .arg 1 rw) (.i (f:Int)) (.agg ps) (.ptr 0 0 0 1) (.imm .lit 3 []) Ud Ud Ud Ud Ud) [.arr 11 [.agg ps] true 0] :=
  RunsTo.hin N 60 [⟨0,0,.ptr 0 0 0 1,[.arr 11 [.agg ps] true 0]⟩] fun kf hk=>⟨_,by kernel_rfl,(oC (g0) .nil)⟩
theorem ed_b_0 (N:Nat) (rw ps:List HV) (f:Nat)  {y7 y8 y9 y11 y12:HV}:RT polSo 70 (sub [1,0] B70) (env70 (.imm .arg 1 rw) (.i (f:Int)) (.agg ps) (.ptr 0 0 0 1) (.imm .lit 3 []) y7 y8 y9 y11 y12) [.arr 11 [.agg ps] true 0] .normal (env70 (.imm .arg 1 rw) (.i (f:Int)) (.agg ps) (.ptr 0 0 0 1) (.imm .lit 3 []) (.sl 1 0 0 none 0 3) y8 y9 y11 y12) [.arr 11 [.agg ps] true 0,.arr 3 [] true 0] :=
  RunsTo.hin N 60 [] fun kf hk=>⟨_,by kernel_rfl,.nil⟩
theorem ed_c_0 (N:Nat) (rw ps:List HV) (f:Nat) (m:Nat) (es:List HV) {y8 y9 y11 y12:HV}:RT polSo 70 (sub [1,1,0,0] B70) (env70 (.imm .arg 1 rw) (.i (f:Int)) (.agg ps) (.ptr 0 0 0 1) (.imm .lit 3 []) (.sl 1 0 m none m 3) y8 y9 y11 y12) [.arr 11 [.agg ps] true 0,.arr 3 es true 0] .normal (env70 (.imm .arg 1 rw) (.i (f:Int)) (.agg ps) (.ptr 0 0 0 1) (.imm .lit 3 []) (.sl 1 0 m none m 3) y8 y9 (.i (rw.length:Int)) (.i 0)) [.arr 11 [.agg ps] true 0,.arr 3 es true 0] :=
  RunsTo.hin N 60 [] fun kf hk=>⟨_,by kernel_rfl,.nil⟩
theorem ed_d_0 (N:Nat) (rw ps:List HV) (f:Nat) (m:Nat) (es:List HV) (i:Nat) {y8 y9:HV}(g0:(i:Int) < (rw.length:Int)):RunsTo Tp polSo 70 (sub [1,1,0,1,0,0,0] B70) (env70 (.imm .arg 1 rw) (.i (f:Int)) (.agg ps) (.ptr 0 0 0 1) (.imm .lit 3 []) (.sl 1 0 m none m 3) y8 y9 (.i (rw.length:Int)) (.i (i:Int))) [.arr 11 [.agg ps] true 0,.arr 3 es true 0] .normal [0,1,2,5,6,7,8,9,11,12,13] [(0,.imm .arg 1 rw),(1,.i (f:Int)),(2,.agg ps),(5,.ptr 0 0 0 1),(6,.imm .lit 3 []),(7,.sl 1 0 m none m 3),(8,y8),(9,y9),(11,.i (rw.length:Int)),(12,.i (i:Int)),(13,.bool true)] [.arr 11 [.agg ps] true 0,.arr 3 es true 0] :=
  RunsTo.hin N 60 [⟨3,0,.bool true,[.arr 11 [.agg ps] true 0,.arr 3 es true 0]⟩] fun kf hk=>⟨_,by kernel_rfl,(oB [.arr 11 [.agg ps] true 0,.arr 3 es true 0] (decide_eq_true g0) .nil)⟩
theorem ed_d_1 (N:Nat) (rw ps:List HV) (f:Nat) (m:Nat) (es:List HV) (i:Nat) {y8 y9:HV}(g0:¬ ((i:Int) < (rw.length:Int))):RunsTo Tp polSo 70 (sub [1,1,0,1,0,0,0] B70) (env70 (.imm .arg 1 rw) (.i (f:Int)) (.agg ps) (.ptr 0 0 0 1) (.imm .lit 3 []) (.sl 1 0 m none m 3) y8 y9 (.i (rw.length:Int)) (.i (i:Int))) [.arr 11 [.agg ps] true 0,.arr 3 es true 0] .normal [0,1,2,5,6,7,8,9,11,12,13] [(0,.imm .arg 1 rw),(1,.i (f:Int)),(2,.agg ps),(5,.ptr 0 0 0 1),(6,.imm .lit 3 []),(7,.sl 1 0 m none m 3),(8,y8),(9,y9),(11,.i (rw.length:Int)),(12,.i (i:Int)),(13,.bool false)] [.arr 11 [.agg ps] true 0,.arr 3 es true 0] :=
  RunsTo.hin N 60 [⟨3,0,.bool false,[.arr 11 [.agg ps] true 0,.arr 3 es true 0]⟩] fun kf hk=>⟨_,by kernel_rfl,(oB [.arr 11 [.agg ps] true 0,.arr 3 es true 0] (decide_eq_false g0) .nil)⟩
theorem ed_et_0 (N:Nat) (rw ps:List HV) (f:Nat) (m:Nat) (es:List HV) (i:Nat) {y8 y9:HV}:RT polSo 70 (sub [1,1,0,1,0,0,1,0] B70) [(0,.imm .arg 1 rw),(1,.i (f:Int)),(2,.agg ps),(5,.ptr 0 0 0 1),(6,.imm .lit 3 []),(7,.sl 1 0 m none m 3),(8,y8),(9,y9),(11,.i (rw.length:Int)),(12,.i (i:Int)),(13,.bool true)] [.arr 11 [.agg ps] true 0,.arr 3 es true 0] .normal (env70 (.imm .arg 1 rw) (.i (f:Int)) (.agg ps) (.ptr 0 0 0 1) (.imm .lit 3 []) (.sl 1 0 m none m 3) y8 y9 (.i (rw.length:Int)) (.i (i:Int))) [.arr 11 [.agg ps] true 0,.arr 3 es true 0] :=
  RunsTo.hin N 60 [] fun kf hk=>⟨_,by kernel_rfl,.nil⟩
theorem ed_ef_0 (N:Nat) (rw ps:List HV) (f:Nat) (m:Nat) (es:List HV) (i:Nat) {y8 y9:HV}:RT polSo 70 (sub [1,1,0,1,0,0,1,0] B70) [(0,.imm .arg 1 rw),(1,.i (f:Int)),(2,.agg ps),(5,.ptr 0 0 0 1),(6,.imm .lit 3 []),(7,.sl 1 0 m none m 3),(8,y8),(9,y9),(11,.i (rw.length:Int)),(12,.i (i:Int)),(13,.bool false)] [.arr 11 [.agg ps] true 0,.arr 3 es true 0] (.exit 0) (env70 (.imm .arg 1 rw) (.i (f:Int)) (.agg ps) (.ptr 0 0 0 1) (.imm .lit 3 []) (.sl 1 0 m none m 3) y8 y9 (.i (rw.length:Int)) (.i (i:Int))) [.arr 11 [.agg ps] true 0,.arr 3 es true 0] :=
  RunsTo.hin N 60 [] fun kf hk=>⟨_,by kernel_rfl,.nil⟩
theorem ed_f_0 (N:Nat) (rw ps:List HV) (f:Nat) (m:Nat) (es:List HV) (i:Nat) {y8 y9:HV}:RT polSo 70 (sub [1,1,0,1,0,0,1,1,0,0,0] B70) (env70 (.imm .arg 1 rw) (.i (f:Int)) (.agg ps) (.ptr 0 0 0 1) (.imm .lit 3 []) (.sl 1 0 m none m 3) y8 y9 (.i (rw.length:Int)) (.i (i:Int))) [.arr 11 [.agg ps] true 0,.arr 3 es true 0] .normal (env70 (.imm .arg 1 rw) (.i (f:Int)) (.agg ps) (.ptr 0 0 0 1) (.imm .lit 3 []) (.sl 1 0 m none m 3) (.i (i:Int)) y9 (.i (rw.length:Int)) (.i (i:Int))) [.arr 11 [.agg ps] true 0,.arr 3 es true 0] :=
  RunsTo.hin N 60 [] fun kf hk=>⟨_,by kernel_rfl,.nil⟩
theorem ed_g_0 (N:Nat) (rw ps:List HV) (f:Nat) (m:Nat) (es:List HV) (i:Nat) {y9:HV}:RT polSo 70 (sub [1,1,0,1,0,0,1,1,0,0,1,0] B70) (env70 (.imm .arg 1 rw) (.i (f:Int)) (.agg ps) (.ptr 0 0 0 1) (.imm .lit 3 []) (.sl 1 0 m none m 3) (.i (i:Int)) y9 (.i (rw.length:Int)) (.i (i:Int))) [.arr 11 [.agg ps] true 0,.arr 3 es true 0] .normal (env70 (.imm .arg 1 rw) (.i (f:Int)) (.agg ps) (.ptr 0 0 0 1) (.imm .lit 3 []) (.sl 1 0 m none m 3) (.i (i:Int)) (.i (f:Int)) (.i (rw.length:Int)) (.i (i:Int))) [.arr 11 [.agg ps] true 0,.arr 3 es true 0] :=
  RunsTo.hin N 60 [] fun kf hk=>⟨_,by kernel_rfl,.nil⟩
theorem ed_h_0 (N:Nat) (rw ps:List HV) (f:Nat) (m:Nat) (es:List HV) (i j:Nat) {l0:List HV} {x0:Int} {x1:Int} {x2:Int} (g0:(j:Int) < (i:Int)) (g1:idxV Tp 68 (.imm .arg 1 rw) (.i (j:Int))=some (.vptr (.imm .arg 1 l0))) (g2:idxV Tp 23 (.imm .arg 1 l0) (.i (i:Int))=some (.vptr (.i x0))) (g3:idxV Tp 66 (.ptr 0 0 0 1) (.i (j:Int))=some (.ptr 0 0 j 1)) (g4:loadV Tp [.arr 11 [.agg ps] true 0,.arr 3 es true 0] 3 (.ptr 0 0 j 1)=some (.i x1)) (g5:idxV Tp 66 (.ptr 0 0 0 1) (.i (i:Int))=some (.ptr 0 0 i 1)) (g6:loadV Tp [.arr 11 [.agg ps] true 0,.arr 3 es true 0] 3 (.ptr 0 0 i 1)=some (.i x2)) (g7:appV [.arr 11 [.agg ps] true 0,.arr 3 es true 0] 3 24 (.sl 1 0 m none m 3) [.agg [.i (IntKind.i64.wrap (IntKind.i64.wrap (x0+x1)+x2)),.i (j:Int),.i (i:Int)]]=some (.sl 1 0 (m+1) none (m+1) 3,[.arr 11 [.agg ps] true 0,.arr 3 (es ++ [.agg [.i (IntKind.i64.wrap (IntKind.i64.wrap (x0+x1)+x2)),.i (j:Int),.i (i:Int)]]) true 0])):RT polSo 70 (sub [1,1,0,1,0,0,1,1,0,0,1,1,0,0] B70) (env70 (.imm .arg 1 rw) (.i (f:Int)) (.agg ps) (.ptr 0 0 0 1) (.imm .lit 3 []) (.sl 1 0 m none m 3) (.i (i:Int)) (.i (j:Int)) (.i (rw.length:Int)) (.i (i:Int))) [.arr 11 [.agg ps] true 0,.arr 3 es true 0] .normal (env70 (.imm .arg 1 rw) (.i (f:Int)) (.agg ps) (.ptr 0 0 0 1) (.imm .lit 3 []) (.sl 1 0 (m+1) none (m+1) 3) (.i (i:Int)) (.i (IntKind.i64.wrap ((j:Int)+1))) (.i (rw.length:Int)) (.i (i:Int))) [.arr 11 [.agg ps] true 0,.arr 3 (es ++ [.agg [.i (IntKind.i64.wrap (IntKind.i64.wrap (x0+x1)+x2)),.i (j:Int),.i (i:Int)]]) true 0] :=
  RunsTo.hin N 60 [⟨6,2,.bool true,[.arr 11 [.agg ps] true 0,.arr 3 es true 0]⟩,⟨8,3,.vptr (.imm .arg 1 l0),[.arr 11 [.agg ps] true 0,.arr 3 es true 0]⟩,⟨8,6,.vptr (.i x0),[.arr 11 [.agg ps] true 0,.arr 3 es true 0]⟩,⟨8,9,.ptr 0 0 j 1,[.arr 11 [.agg ps] true 0,.arr 3 es true 0]⟩,⟨8,10,.i x1,[.arr 11 [.agg ps] true 0,.arr 3 es true 0]⟩,⟨8,13,.ptr 0 0 i 1,[.arr 11 [.agg ps] true 0,.arr 3 es true 0]⟩,⟨8,14,.i x2,[.arr 11 [.agg ps] true 0,.arr 3 es true 0]⟩,⟨8,20,.sl 1 0 (m+1) none (m+1) 3,[.arr 11 [.agg ps] true 0,.arr 3 (es ++ [.agg [.i (IntKind.i64.wrap (IntKind.i64.wrap (x0+x1)+x2)),.i (j:Int),.i (i:Int)]]) true 0]⟩] fun kf hk=>⟨_,by kernel_rfl,(oB [.arr 11 [.agg ps] true 0,.arr 3 es true 0] (decide_eq_true g0) (oP [.arr 11 [.agg ps] true 0,.arr 3 es true 0] g1 (oP [.arr 11 [.agg ps] true 0,.arr 3 es true 0] g2 (oP [.arr 11 [.agg ps] true 0,.arr 3 es true 0] g3 (oP [.arr 11 [.agg ps] true 0,.arr 3 es true 0] g4 (oP [.arr 11 [.agg ps] true 0,.arr 3 es true 0] g5 (oP [.arr 11 [.agg ps] true 0,.arr 3 es true 0] g6 (oC (g7) .nil))))))))⟩
theorem ed_h_1 (N:Nat) (rw ps:List HV) (f:Nat) (m:Nat) (es:List HV) (i j:Nat)(g0:¬ ((j:Int) < (i:Int))):RT polSo 70 (sub [1,1,0,1,0,0,1,1,0,0,1,1,0,0] B70) (env70 (.imm .arg 1 rw) (.i (f:Int)) (.agg ps) (.ptr 0 0 0 1) (.imm .lit 3 []) (.sl 1 0 m none m 3) (.i (i:Int)) (.i (j:Int)) (.i (rw.length:Int)) (.i (i:Int))) [.arr 11 [.agg ps] true 0,.arr 3 es true 0] (.exit 2) (env70 (.imm .arg 1 rw) (.i (f:Int)) (.agg ps) (.ptr 0 0 0 1) (.imm .lit 3 []) (.sl 1 0 m none m 3) (.i (i:Int)) (.i (j:Int)) (.i (rw.length:Int)) (.i (i:Int))) [.arr 11 [.agg ps] true 0,.arr 3 es true 0] :=
  RunsTo.hin N 60 [⟨6,2,.bool false,[.arr 11 [.agg ps] true 0,.arr 3 es true 0]⟩] fun kf hk=>⟨_,by kernel_rfl,(oB [.arr 11 [.agg ps] true 0,.arr 3 es true 0] (decide_eq_false g0) .nil)⟩
theorem ed_i_0 (N:Nat) (rw ps:List HV) (f:Nat) (m:Nat) (es:List HV) (i:Nat) {y8 y9:HV}:RT polSo 70 (sub [1,1,0,1,0,0,1,1,1] B70) (env70 (.imm .arg 1 rw) (.i (f:Int)) (.agg ps) (.ptr 0 0 0 1) (.imm .lit 3 []) (.sl 1 0 m none m 3) y8 y9 (.i (rw.length:Int)) (.i (i:Int))) [.arr 11 [.agg ps] true 0,.arr 3 es true 0] .normal (env70 (.imm .arg 1 rw) (.i (f:Int)) (.agg ps) (.ptr 0 0 0 1) (.imm .lit 3 []) (.sl 1 0 m none m 3) y8 y9 (.i (rw.length:Int)) (.i (IntKind.i64.wrap ((i:Int)+1)))) [.arr 11 [.agg ps] true 0,.arr 3 es true 0] :=
  RunsTo.hin N 60 [] fun kf hk=>⟨_,by kernel_rfl,.nil⟩
theorem ed_j_0 (N:Nat) (rw ps:List HV) (f:Nat) (m:Nat) (es:List HV) {y8 y9 y11 y12:HV} {H0:Heap} (g0:∀ kf,N ≤ kf → callN Tp polSo (kf+1) 76 [.sl 1 0 m none m 3,.func 77 [] []] [.arr 11 [.agg ps] true 0,.arr 3 es true 0]=some (.tuple [],H0)):RT polSo 70 (sub [1,1,1] B70) (env70 (.imm .arg 1 rw) (.i (f:Int)) (.agg ps) (.ptr 0 0 0 1) (.imm .lit 3 []) (.sl 1 0 m none m 3) y8 y9 y11 y12) [.arr 11 [.agg ps] true 0,.arr 3 es true 0] .ret (env70 (.imm .arg 1 rw) (.i (f:Int)) (.agg ps) (.ptr 0 0 0 1) (.sl 1 0 m none m 3) (.sl 1 0 m none m 3) y8 y9 y11 y12) H0 :=
  RunsTo.hin N 60 [⟨10,1,.tuple [],H0⟩] fun kf hk=>⟨_,by kernel_rfl,(oC (g0 kf (by omega)) .nil)⟩
end Go.Proofs.Ytlendaofkmhgmaa
end
section
open Go Go.HL
namespace Go.Proofs.Ytlendaofkmhgmaa
open Go.Proofs.Try renaming prog → Tp
open Go.HL.HV renaming undef → Ud
section
variable {d:List (List Int)}
abbrev imE (d:List (List Int)) (v4 v5 v6 v7 v8 v13 v14 v15 v29 v30 v31 v36 v37 v38:HV):Env:=env46 (.imm .arg 1 (d.map encR)) (.bool false) v4 v5 v6 v7 v8 v13 v14 v15 v29 v30 v31 v36 v37 v38
abbrev imA (d:List (List Int)) (i:Nat):Env:=imE d Ud Ud Ud Ud Ud (.imm .arg 1 (d.map encR)) (.int .i64 (d.length:Int)) (.int .i64 (i:Int)) Ud Ud Ud Ud Ud Ud
abbrev imB (d:List (List Int)) (i:Nat):Env:=imE d Ud Ud Ud Ud Ud Ud Ud Ud (.imm .arg 1 (d.map encR)) (.int .i64 (d.length:Int)) (.int .i64 (i:Int)) Ud Ud Ud
abbrev imC (d:List (List Int)) (i:Nat) (l:List Int) (j:Nat):Env:=imE d Ud (.int .i64 (i:Int)) Ud Ud Ud Ud Ud Ud (.imm .arg 1 (d.map encR)) (.int .i64 (d.length:Int)) (.int .i64 (i:Int)) (.imm .arg 1 (l.map encI)) (.int .i64 (l.length:Int)) (.int .i64 (j:Int))
def rowOk (d:List (List Int)) (i:Nat):Prop:=rowLen d i∧∀ v,v ∈ d.getD i [] → mi v
open Classical in
theorem im_rows (hd:d.length ≤ 1000) (hw:∀ r,r ∈ d → r.length ≤ 1000):∀ (k i:Nat),i+k=d.length →
    ∃ x E,RT polM 46 (sub [1,1,0,1,0] B46) (imA d i) [] x E [] ∧
      ((x=.exit 0∧E=imA d d.length∧∀ a,i ≤ a → a < d.length → rowOk d a) ∨ (x=.ret∧E.get 2=.bool false∧¬ ∀ a,a < d.length → rowOk d a)):=by
  intro k
  induction k with
  | zero =>
    intro i hi
    have hi:i=d.length:=by omega
    subst hi
    have s1:=im_l_3 0 (d.map encR) d.length [] [] (by rw [List.length_map]; omega)
    rw [List.length_map] at s1
    exact ⟨_,_,lpo s1,.inl ⟨rfl,rfl,fun a h1 h2=>by omega⟩⟩
  | succ k ih =>
    intro i hi
    have hil:i < d.length:=by omega
    have hg:=gri' hil
    by_cases c:(d.getD i []).length=d.length
    · have hr9:(d.getD i []).length ≤ 1000:=by omega
      have hcf:=cf_call (d.getD i []) [] hr9
      obtain ⟨N,hN⟩:=CallsTo.from hcf
      by_cases c2:∀ v,v ∈ d.getD i [] → mi v
      · rw [decide_eq_false (fun h=>h c2)] at hN
        have s1:=im_l_1 N (d.map encR) i [] [] _ [] (by rw [List.length_map]; omega) hg (by rw [List.length_map,List.length_map]; omega) hN
        rw [wrap_succ (by omega),List.length_map] at s1
        obtain ⟨x,E,h1,h2⟩:=ih (i+1) (by omega)
        refine ⟨x,E,lop s1 rfl h1,?_⟩
        rcases h2 with ⟨k1,k2,k3⟩ | h2
        · exact .inl ⟨k1,k2,fun a h1 h2=>by
            by_cases e:a=i
            · rw [e]; exact ⟨c,c2⟩
            · exact k3 a (by omega) h2⟩
        · exact .inr h2
      · rw [decide_eq_true c2] at hN
        have s1:=im_l_0 N (d.map encR) i [] [] _ [] (by rw [List.length_map]; omega) hg (by rw [List.length_map,List.length_map]; omega) hN
        rw [List.length_map] at s1
        exact ⟨_,_,lpo s1,.inr ⟨rfl,rfl,fun h=>c2 (h i hil).2⟩⟩
    · have s1:=im_l_2 0 (d.map encR) i [] [] _ (by rw [List.length_map]; omega) hg (by rw [List.length_map,List.length_map]; omega)
      rw [List.length_map] at s1
      exact ⟨_,_,lpo s1,.inr ⟨rfl,rfl,fun h=>c (h i hil).1⟩⟩
theorem im_cells (hd:d.length ≤ 1000) (hr:∀ a,a < d.length → rowLen d a) {i:Nat} (hi:i < d.length):∀ (k j:Nat),j+k=d.length →
    ∃ x E,RT polM 46 (sub [1,1,1,0,1,0,0,1,1,0,0,1,1,0] B46) (imC d i (d.getD i []) j) [] x E [] ∧
      ((x=.exit 4∧E=imC d i (d.getD i []) d.length∧∀ a,j ≤ a → a < d.length → symAt d i a) ∨ (x=.ret∧E.get 2=.bool false∧¬ ∀ a,a < d.length → symAt d i a)):=by
  intro k
  have hl:((d.getD i []).map encI).length=d.length:=by rw [List.length_map]; exact hr i hi
  induction k with
  | zero =>
    intro j hj
    have hj:j=d.length:=by omega
    subst hj
    have s1:=im_k_4 0 (d.map encR) i [] ((d.getD i []).map encI) d.length (by rw [hl]; omega)
    rw [List.length_map,List.length_map] at s1
    exact ⟨_,_,lpo s1,.inl ⟨rfl,rfl,fun a h1 h2=>by omega⟩⟩
  | succ k ih =>
    intro j hj
    have hjl:j < d.length:=by omega
    have bad:∀ E,RT polM 46 (sub [1,1,1,0,1,0,0,1,1,0,0,1,1,0,0] B46) (imC d i (d.getD i []) j) [] .ret E [] → E.get 2=.bool false → ¬ symAt d i j → _:=fun E t hE hc =>
      (⟨_,E,lpo t,.inr ⟨rfl,hE,fun h=>hc (h j hjl)⟩⟩:∃ x E,RT polM 46 (sub [1,1,1,0,1,0,0,1,1,0,0,1,1,0] B46) (imC d i (d.getD i []) j) [] x E [] ∧
      ((x=.exit 4∧E=imC d i (d.getD i []) d.length∧∀ a,j ≤ a → a < d.length → symAt d i a) ∨ (x=.ret∧E.get 2=.bool false∧¬ ∀ a,a < d.length → symAt d i a)))
    have good:∀ v7 v8,symAt d i j → RT polM 46 (sub [1,1,1,0,1,0,0,1,1,0,0,1,1,0,0] B46) (imC d i (d.getD i []) j) [] .normal (imE d Ud (.int .i64 (i:Int)) Ud v7 v8 Ud Ud Ud (.imm .arg 1 (d.map encR)) (.int .i64 (d.length:Int)) (.int .i64 (i:Int)) (.imm .arg 1 ((d.getD i []).map encI)) (.int .i64 ((d.getD i []).length:Int)) (.int .i64 (IntKind.i64.wrap ((j:Int)+1)))) [] → _:=fun v7 v8 hc t=>(by
      rw [wrap_succ (by omega)] at t
      obtain ⟨x,E,h1,h2⟩:=ih (j+1) (by omega)
      refine ⟨x,E,lop t rfl h1,?_⟩
      rcases h2 with ⟨k1,k2,k3⟩ | h2
      · exact .inl ⟨k1,k2,fun a h1 h2=>by
          by_cases e:a=j
          · rw [e]; exact hc
          · exact k3 a (by omega) h2⟩
      · exact .inr h2:∃ x E,RT polM 46 (sub [1,1,1,0,1,0,0,1,1,0,0,1,1,0] B46) (imC d i (d.getD i []) j) [] x E [] ∧
      ((x=.exit 4∧E=imC d i (d.getD i []) d.length∧∀ a,j ≤ a → a < d.length → symAt d i a) ∨ (x=.ret∧E.get 2=.bool false∧¬ ∀ a,a < d.length → symAt d i a)))
    have gj:=gri' hjl
    have g1:=gat (hr i hi) hjl
    have g2:=gat (hr j hjl) hi
    have hjm:(j:Int) < ((((d.getD i []).map encI).length:Nat):Int):=by rw [hl]; omega
    by_cases c3:at2 d i j=at2 d j i
    · by_cases c4:i=j
      · by_cases c5:at2 d i j=0
        · have s:=im_k_0 0 (d.map encR) i [] ((d.getD i []).map encI) j _ _ _ hjm g1 gj g2 c3 (by omega) c5
          rw [List.length_map,List.length_map] at s
          exact good _ _ ⟨c3,fun _=>c5⟩ s
        · have s:=im_k_1 0 (d.map encR) i [] ((d.getD i []).map encI) j _ _ _ hjm g1 gj g2 c3 (by omega) c5
          rw [List.length_map,List.length_map] at s
          exact bad _ s rfl fun h=>c5 (h.2 c4)
      · have s:=im_k_2 0 (d.map encR) i [] ((d.getD i []).map encI) j _ _ _ hjm g1 gj g2 c3 (by omega)
        rw [List.length_map,List.length_map] at s
        exact good _ _ ⟨c3,fun h=>absurd h c4⟩ s
    · have s:=im_k_3 0 (d.map encR) i [] ((d.getD i []).map encI) j _ _ _ hjm g1 gj g2 c3
      rw [List.length_map,List.length_map] at s
      exact bad _ s rfl fun h=>c3 h.1
theorem im_outer (hd:d.length ≤ 1000) (hr:∀ a,a < d.length → rowLen d a):∀ (k i:Nat),i+k=d.length →
    ∃ x E,RT polM 46 (sub [1,1,1,0,1,0] B46) (imB d i) [] x E [] ∧
      ((x=.exit 2∧E=imB d d.length∧∀ b,i ≤ b → b < d.length → ∀ a,a < d.length → symAt d b a) ∨ (x=.ret∧E.get 2=.bool false∧¬ ∀ b,b < d.length → ∀ a,a < d.length → symAt d b a)):=by
  intro k
  induction k with
  | zero =>
    intro i hi
    have hi:i=d.length:=by omega
    subst hi
    have s1:=im_e_1 0 (d.map encR) d.length [] (by rw [List.length_map]; omega)
    have s2:=im_ff_0 0 (d.map encR) d.length []
    rw [List.length_map] at s1 s2
    have t1:=sqo s2 (c:=sub [1,1,1,0,1,0,0,1] B46) (b:=sub [1,1,1,0,1,0,0,1,1] B46)
    have t2:=sq s1 t1 (c:=sub [1,1,1,0,1,0,0] B46)
    exact ⟨_,_,lpo t2,.inl ⟨rfl,rfl,fun a h1 h2=>by omega⟩⟩
  | succ k ih =>
    intro i hi
    have hil:i < d.length:=by omega
    have s1:=im_e_0 0 (d.map encR) i [] (by rw [List.length_map]; omega)
    have s2:=im_ft_0 0 (d.map encR) i []
    have g1:=im_g_0 0 (d.map encR) i [] [] _ (gri' hil)
    have g2:=im_h_0 0 (d.map encR) i [] ((d.getD i []).map encI)
    rw [List.length_map] at s1 s2 g1
    rw [List.length_map,List.length_map] at g2
    obtain ⟨x,E,h1,h2⟩:=im_cells hd hr hil d.length 0 (by omega)
    have h1':=lpi (e0:=imE d Ud (.int .i64 (i:Int)) (.imm .arg 1 ((d.getD i []).map encI)) Ud Ud Ud Ud Ud (.imm .arg 1 (d.map encR)) (.int .i64 (d.length:Int)) (.int .i64 (i:Int)) (.imm .arg 1 ((d.getD i []).map encI)) (.int .i64 ((d.getD i []).length:Int)) (.int .i64 0)) h1 (b:=sub [1,1,1,0,1,0,0,1,1,0,0,1,1,0,0] B46)
    rcases h2 with ⟨rfl,rfl,k3⟩ | ⟨rfl,k2,k3⟩
    · have n1:=im_n_0 0 (d.map encR) i [] ((d.getD i []).map encI) d.length
      rw [wrap_succ (by omega),List.length_map,List.length_map] at n1
      have t1:=sq g2 (bke (c:=sub [1,1,1,0,1,0,0,1,1,0,0,1,1] B46) h1') (c:=sub [1,1,1,0,1,0,0,1,1,0,0,1] B46)
      have t2:=RunsTo.block_normal (i:=3) (c:=sub [1,1,1,0,1,0,0,1,1,0] B46) (sq g1 t1 (c:=sub [1,1,1,0,1,0,0,1,1,0,0] B46)) (by kernel_rfl)
      have t3:=sq s2 (sq t2 n1 (c:=sub [1,1,1,0,1,0,0,1,1] B46)) (c:=sub [1,1,1,0,1,0,0,1] B46)
      have t4:=sq s1 t3 (c:=sub [1,1,1,0,1,0,0] B46)
      obtain ⟨x,E,r1,r2⟩:=ih (i+1) (by omega)
      refine ⟨x,E,lop t4 rfl r1,?_⟩
      rcases r2 with ⟨q1,q2,q3⟩ | r2
      · exact .inl ⟨q1,q2,fun b h1 h2=>by
          by_cases e:b=i
          · rw [e]; exact fun a ha=>k3 a (by omega) ha
          · exact q3 b (by omega) h2⟩
      · exact .inr r2
    · have t1:=sq g2 (RunsTo.block_ret (c:=sub [1,1,1,0,1,0,0,1,1,0,0,1,1] B46) (i:=4) h1' (by kernel_rfl)) (c:=sub [1,1,1,0,1,0,0,1,1,0,0,1] B46)
      have t2:=RunsTo.block_ret (i:=3) (c:=sub [1,1,1,0,1,0,0,1,1,0] B46) (sq g1 t1 (c:=sub [1,1,1,0,1,0,0,1,1,0,0] B46)) (by kernel_rfl)
      have t3:=sq s2 (sqo t2 (c:=sub [1,1,1,0,1,0,0,1,1] B46) (b:=sub [1,1,1,0,1,0,0,1,1,1] B46)) (c:=sub [1,1,1,0,1,0,0,1] B46)
      have t4:=sq s1 t3 (c:=sub [1,1,1,0,1,0,0] B46)
      exact ⟨_,E,lpo t4,.inr ⟨rfl,k2,fun h=>k3 (h i hil)⟩⟩
theorem okD_iff2:okD d ↔ (1 ≤ d.length∧d.length ≤ 11)∧(∀ a,a < d.length → rowOk d a)∧∀ b,b < d.length → ∀ a,a < d.length → symAt d b a:=by
  rw [okD_iff]
  constructor
  · rintro ⟨h1,h2,h3⟩
    refine ⟨h1,fun a ha=>⟨h2 a ha,fun v hv=>?_⟩,fun b hb a ha=>(h3 b hb a ha).2⟩
    obtain ⟨j,hj,rfl⟩:=List.getElem_of_mem hv
    have hjd:j < d.length:=by have:=h2 a ha; unfold rowLen at this; omega
    have:=(h3 a ha j hjd).1
    unfold at2 at this
    rw [getD_at hj] at this
    exact this
  · rintro ⟨h1,h2,h3⟩
    refine ⟨h1,fun a ha=>(h2 a ha).1,fun b hb a ha=>⟨?_,h3 b hb a ha⟩⟩
    have hl:a < (d.getD b []).length:=by have:=(h2 b hb).1; unfold rowLen at this; omega
    have:=(h2 b hb).2 _ (List.getElem_mem hl)
    unfold at2
    rw [getD_at hl]
    exact this
end
theorem res46:Try.f46.results.toList=[.tmp 2]:=by kernel_rfl
theorem miles_ok:PrimOk Tp 46 miles46:=by
  refine primOk_pure (pol:=polM) (fn:=Try.f46) (cd:=B46) follows_mixed soundM (by kernel_rfl) (by kernel_rfl) (fnok polM.prim _ _ (by kernel_rfl)) (by kernel_rfl) ?_
  intro args res h
  obtain ⟨d,rfl,hq⟩:=rwF_inv h
  clear h
  split at hq
  · rename_i hc
    cases hq
    have hw:∀ r,r ∈ d → r.length ≤ 1000:=fun r hr=>by simpa using List.all_eq_true.1 hc.2 r hr
    have a1:=im_a_0 0 (d.map encR)
    have fin:∀ b E,RT polM 46 (sub [1] B46) (imE d Ud Ud Ud Ud Ud Ud Ud Ud Ud Ud Ud Ud Ud Ud) [] .ret E [] → E.get 2=.bool b → okB d=b →
        ∃ x E H' v,RT polM 46 B46 (args0 [.imm .arg 1 (d.map encR)]) [] x E H'∧(∀ i,x ≠ .exit i)∧resultsV Tp Try.f46 E H'=some v∧toRes H' (polM.deep 46) v=some (.bool (okB d)):=by
      intro b E t hE hb
      exact ⟨_,E,[],.bool b,sq a1 t (c:=B46),by simp,by simp only [resultsV,res46,mapO,resultV,hE],by rw [hb]; rfl⟩
    by_cases c1:(1:Int) ≤ (((d.map encR).length:Nat):Int)∧(((d.map encR).length:Nat):Int) ≤ 11
    · have b1:=im_b_0 0 (d.map encR) c1
      have cc:=im_c_0 0 (d.map encR)
      rw [List.length_map] at c1 cc
      obtain ⟨x,E,h1,h2⟩:=im_rows hc.1 hw d.length 0 (by omega)
      rcases h2 with ⟨rfl,rfl,k3⟩ | ⟨rfl,k2,k3⟩
      · have hr:∀ a,a < d.length → rowLen d a:=fun a ha=>(k3 a (Nat.zero_le _) ha).1
        have d1:=im_d_0 0 (d.map encR) d.length [] Ud
        rw [List.length_map] at d1
        obtain ⟨x,E,r1,r2⟩:=im_outer hc.1 hr d.length 0 (by omega)
        have r1':=lpi (e0:=imE d Ud Ud Ud Ud Ud (.imm .arg 1 (d.map encR)) (.int .i64 (d.length:Int)) (.int .i64 (d.length:Int)) (.imm .arg 1 (d.map encR)) (.int .i64 (d.length:Int)) (.int .i64 0) Ud Ud Ud) r1 (b:=sub [1,1,1,0,1,0,0] B46)
        have t1:=sq cc (bke (c:=sub [1,1,0,1] B46) h1) (c:=sub [1,1,0] B46)
        rcases r2 with ⟨rfl,rfl,q3⟩ | ⟨rfl,q2,q3⟩
        · have z1:=im_z_0 0 (d.map encR) d.length []
          rw [List.length_map] at z1
          have t2:=sq d1 (bke (c:=sub [1,1,1,0,1] B46) r1') (c:=sub [1,1,1,0] B46)
          have t3:=sq t1 (sq t2 z1 (c:=sub [1,1,1] B46)) (c:=sub [1,1] B46)
          exact fin true _ (sq b1 t3 (c:=sub [1] B46)) rfl (okB_true (okD_iff2.2 ⟨⟨by omega,by omega⟩,fun a ha=>k3 a (Nat.zero_le _) ha,fun b hb=>q3 b (Nat.zero_le _) hb⟩))
        · have t2:=sq d1 (RunsTo.block_ret (c:=sub [1,1,1,0,1] B46) (i:=2) r1' (by kernel_rfl)) (c:=sub [1,1,1,0] B46)
          have t3:=sq t1 (sqo t2 (c:=sub [1,1,1] B46) (b:=sub [1,1,1,1] B46)) (c:=sub [1,1] B46)
          exact fin false _ (sq b1 t3 (c:=sub [1] B46)) q2 (okB_false fun h=>q3 (okD_iff2.1 h).2.2)
      · have t1:=sq cc (RunsTo.block_ret (c:=sub [1,1,0,1] B46) (i:=0) h1 (by kernel_rfl)) (c:=sub [1,1,0] B46)
        have t3:=sq b1 (sqo t1 (c:=sub [1,1] B46) (b:=sub [1,1,1] B46)) (c:=sub [1] B46)
        exact fin false _ t3 k2 (okB_false fun h=>k3 (okD_iff2.1 h).2.1)
    · have b1:=im_b_1 0 (d.map encR) c1
      rw [List.length_map] at c1
      exact fin false _ (sqo b1 (c:=sub [1] B46) (b:=sub [1,1] B46)) rfl (okB_false fun h=>c1 ⟨by have:=h.1.1; omega,by have:=h.1.2; omega⟩)
  · cases hq
end Go.Proofs.Ytlendaofkmhgmaa
end
section
open Go Go.HL
namespace Go.Proofs.Ytlendaofkmhgmaa
set_option maxRecDepth 100000
open Go.Proofs.Try renaming prog → Tp
open Go.HL.HV renaming undef → Ud
noncomputable def B57:Code:=Try.f57.body.getD .skip
abbrev env57 (v0 v1 v4 v5 v6 v18 v19 v20:HV):Env:=[(0,v0),(1,v1),(4,v4),(5,v5),(6,v6),(18,v18),(19,v19),(20,v20)]
theorem it_a_0 (rw la:List HV):RT polT 57 (sub [0] B57) [(0,.imm .arg 1 rw),(1,.imm .arg 1 la)] [] .normal (env57 (.imm .arg 1 rw) (.imm .arg 1 la) (.bool false) Ud Ud Ud Ud Ud) [] :=
  RunsTo.hin 0 60 [] fun kf hk=>⟨_,by kernel_rfl,.nil⟩
theorem it_b_0 (rw la:List HV) (x0:Int) (g0:(la.length:Int)=(rw.length:Int)) (g1:idxV Tp 23 (.imm .arg 1 la) (.i 0)=some (.vptr (.i x0))) (g2:x0=0):RT polT 57 (sub [1,0] B57) (env57 (.imm .arg 1 rw) (.imm .arg 1 la) (.bool false) Ud Ud Ud Ud Ud) [] .normal (env57 (.imm .arg 1 rw) (.imm .arg 1 la) (.bool false) Ud Ud Ud Ud Ud) [] :=
  RunsTo.hin 0 60 [⟨1,4,.bool false,[]⟩,⟨1,7,.vptr (.i x0),[]⟩,⟨1,9,.bool false,[]⟩] fun kf hk=>⟨_,by kernel_rfl,(oB [] (congrArg not (decide_eq_true g0)) (oP [] g1 (oB [] (congrArg not (decide_eq_true g2)) .nil)))⟩
theorem it_b_1 (rw la:List HV) (x0:Int) (g0:(la.length:Int)=(rw.length:Int)) (g1:idxV Tp 23 (.imm .arg 1 la) (.i 0)=some (.vptr (.i x0))) (g2:¬ (x0=0)):RT polT 57 (sub [1,0] B57) (env57 (.imm .arg 1 rw) (.imm .arg 1 la) (.bool false) Ud Ud Ud Ud Ud) [] .ret (env57 (.imm .arg 1 rw) (.imm .arg 1 la) (.bool false) Ud Ud Ud Ud Ud) [] :=
  RunsTo.hin 0 60 [⟨1,4,.bool false,[]⟩,⟨1,7,.vptr (.i x0),[]⟩,⟨1,9,.bool true,[]⟩] fun kf hk=>⟨_,by kernel_rfl,(oB [] (congrArg not (decide_eq_true g0)) (oP [] g1 (oB [] (congrArg not (decide_eq_false g2)) .nil)))⟩
theorem it_b_2 (rw la:List HV)(g0:¬ ((la.length:Int)=(rw.length:Int))):RT polT 57 (sub [1,0] B57) (env57 (.imm .arg 1 rw) (.imm .arg 1 la) (.bool false) Ud Ud Ud Ud Ud) [] .ret (env57 (.imm .arg 1 rw) (.imm .arg 1 la) (.bool false) Ud Ud Ud Ud Ud) [] :=
  RunsTo.hin 0 60 [⟨1,4,.bool true,[]⟩] fun kf hk=>⟨_,by kernel_rfl,(oB [] (congrArg not (decide_eq_false g0)) .nil)⟩
theorem it_c_0 (rw la:List HV):RT polT 57 (sub [1,1,0,0] B57) (env57 (.imm .arg 1 rw) (.imm .arg 1 la) (.bool false) Ud Ud Ud Ud Ud) [] .normal (env57 (.imm .arg 1 rw) (.imm .arg 1 la) (.bool false) Ud Ud (.imm .arg 1 la) (.i (la.length:Int)) (.i 0)) [] :=
  RunsTo.hin 0 60 [] fun kf hk=>⟨_,by kernel_rfl,.nil⟩
theorem it_l_0 (rw la:List HV) (j:Nat) (x0:Int) (g0:(j:Int) < (la.length:Int)) (g1:idxV Tp 23 (.imm .arg 1 la) (.i (j:Int))=some (.vptr (.i x0))) (g2:(0:Int) ≤ x0∧x0 ≤ IntKind.i64.wrap ((rw.length:Int) - 1)) (g3:sliceV Tp 23 (.imm .arg 1 la) none (some (.i (j:Int))) none=some (.imm .arg 1 (la.take j))) (g4:∀ kf,callN Tp polT (kf+1) 60 [.imm .arg 1 (la.take j),.i x0] []=some (.bool true,[])):RT polT 57 (sub [1,1,0,1,0,0] B57) (env57 (.imm .arg 1 rw) (.imm .arg 1 la) (.bool false) Ud Ud (.imm .arg 1 la) (.i (la.length:Int)) (.i (j:Int))) [] .ret (env57 (.imm .arg 1 rw) (.imm .arg 1 la) (.bool false) (.i (j:Int)) (.i x0) (.imm .arg 1 la) (.i (la.length:Int)) (.i (j:Int))) [] :=
  RunsTo.hin 0 60 [⟨4,0,.bool true,[]⟩,⟨5,1,.vptr (.i x0),[]⟩,⟨6,4,.bool true,[]⟩,⟨6,9,.imm .arg 1 (la.take j),[]⟩,⟨6,11,.bool true,[]⟩] fun kf hk=>⟨_,by kernel_rfl,(oB [] (decide_eq_true g0) (oP [] g1 (oB [] (decide_eq_true g2) (oP [] g3 (oC (g4 kf) .nil)))))⟩
theorem it_l_1 (rw la:List HV) (j:Nat) (x0:Int) (g0:(j:Int) < (la.length:Int)) (g1:idxV Tp 23 (.imm .arg 1 la) (.i (j:Int))=some (.vptr (.i x0))) (g2:(0:Int) ≤ x0∧x0 ≤ IntKind.i64.wrap ((rw.length:Int) - 1)) (g3:sliceV Tp 23 (.imm .arg 1 la) none (some (.i (j:Int))) none=some (.imm .arg 1 (la.take j))) (g4:∀ kf,callN Tp polT (kf+1) 60 [.imm .arg 1 (la.take j),.i x0] []=some (.bool false,[])):RT polT 57 (sub [1,1,0,1,0,0] B57) (env57 (.imm .arg 1 rw) (.imm .arg 1 la) (.bool false) Ud Ud (.imm .arg 1 la) (.i (la.length:Int)) (.i (j:Int))) [] .normal (env57 (.imm .arg 1 rw) (.imm .arg 1 la) (.bool false) (.i (j:Int)) (.i x0) (.imm .arg 1 la) (.i (la.length:Int)) (.i (IntKind.i64.wrap ((j:Int)+1)))) [] :=
  RunsTo.hin 0 60 [⟨4,0,.bool true,[]⟩,⟨5,1,.vptr (.i x0),[]⟩,⟨6,4,.bool true,[]⟩,⟨6,9,.imm .arg 1 (la.take j),[]⟩,⟨6,11,.bool false,[]⟩] fun kf hk=>⟨_,by kernel_rfl,(oB [] (decide_eq_true g0) (oP [] g1 (oB [] (decide_eq_true g2) (oP [] g3 (oC (g4 kf) .nil)))))⟩
theorem it_l_2 (rw la:List HV) (j:Nat) (x0:Int) (g0:(j:Int) < (la.length:Int)) (g1:idxV Tp 23 (.imm .arg 1 la) (.i (j:Int))=some (.vptr (.i x0))) (g2:¬ ((0:Int) ≤ x0∧x0 ≤ IntKind.i64.wrap ((rw.length:Int) - 1))):RT polT 57 (sub [1,1,0,1,0,0] B57) (env57 (.imm .arg 1 rw) (.imm .arg 1 la) (.bool false) Ud Ud (.imm .arg 1 la) (.i (la.length:Int)) (.i (j:Int))) [] .ret (env57 (.imm .arg 1 rw) (.imm .arg 1 la) (.bool false) (.i (j:Int)) (.i x0) (.imm .arg 1 la) (.i (la.length:Int)) (.i (j:Int))) [] :=
  RunsTo.hin 0 60 [⟨4,0,.bool true,[]⟩,⟨5,1,.vptr (.i x0),[]⟩,⟨6,4,.bool false,[]⟩] fun kf hk=>⟨_,by kernel_rfl,(oB [] (decide_eq_true g0) (oP [] g1 (oB [] (decide_eq_false g2) .nil)))⟩
theorem it_l_3 (rw la:List HV) (j:Nat)(g0:¬ ((j:Int) < (la.length:Int))):RT polT 57 (sub [1,1,0,1,0,0] B57) (env57 (.imm .arg 1 rw) (.imm .arg 1 la) (.bool false) Ud Ud (.imm .arg 1 la) (.i (la.length:Int)) (.i (j:Int))) [] (.exit 0) (env57 (.imm .arg 1 rw) (.imm .arg 1 la) (.bool false) Ud Ud (.imm .arg 1 la) (.i (la.length:Int)) (.i (j:Int))) [] :=
  RunsTo.hin 0 60 [⟨4,0,.bool false,[]⟩] fun kf hk=>⟨_,by kernel_rfl,(oB [] (decide_eq_false g0) .nil)⟩
theorem it_z_0 (rw la:List HV) (j:Nat):RT polT 57 (sub [1,1,1] B57) (env57 (.imm .arg 1 rw) (.imm .arg 1 la) (.bool false) Ud Ud (.imm .arg 1 la) (.i (la.length:Int)) (.i (j:Int))) [] .ret (env57 (.imm .arg 1 rw) (.imm .arg 1 la) (.bool true) Ud Ud (.imm .arg 1 la) (.i (la.length:Int)) (.i (j:Int))) [] :=
  RunsTo.hin 0 60 [] fun kf hk=>⟨_,by kernel_rfl,.nil⟩
noncomputable def B34:Code:=Try.f34.body.getD .skip
abbrev env34 (v0 v1 v4 v5:HV):Env:=[(0,v0),(1,v1),(4,v4),(5,v5)]
theorem le_0 (rw la:List HV) (sm:Int) (g0:∀ kf,callN Tp polN (kf+1) 46 [.imm .arg 1 rw] []=some (.bool true,[])) (g1:∀ kf,callN Tp polN (kf+1) 57 [.imm .arg 1 rw,.imm .arg 1 la] []=some (.bool true,[])) (g2:∀ kf,callN Tp polN (kf+1) 56 [.imm .arg 1 rw,.imm .arg 1 la] []=some (.i sm,[])):RT polN 34 (sub [] B34) [(0,.imm .arg 1 rw),(1,.imm .arg 1 la)] [] .ret (env34 (.imm .arg 1 rw) (.imm .arg 1 la) (.i sm) (.i 0)) [] :=
  RunsTo.hin 0 60 [⟨1,1,.bool true,[]⟩,⟨1,6,.bool true,[]⟩,⟨3,2,.i sm,[]⟩] fun kf hk=>⟨_,by kernel_rfl,(oC (g0 kf) (oC (g1 kf) (oC (g2 kf) .nil)))⟩
theorem le_1 (rw la:List HV)(g0:∀ kf,callN Tp polN (kf+1) 46 [.imm .arg 1 rw] []=some (.bool true,[])) (g1:∀ kf,callN Tp polN (kf+1) 57 [.imm .arg 1 rw,.imm .arg 1 la] []=some (.bool false,[])):RT polN 34 (sub [] B34) [(0,.imm .arg 1 rw),(1,.imm .arg 1 la)] [] .ret (env34 (.imm .arg 1 rw) (.imm .arg 1 la) (.i 0) (.i 2)) [] :=
  RunsTo.hin 0 60 [⟨1,1,.bool true,[]⟩,⟨1,6,.bool false,[]⟩] fun kf hk=>⟨_,by kernel_rfl,(oC (g0 kf) (oC (g1 kf) .nil))⟩
theorem le_2 (rw la:List HV)(g0:∀ kf,callN Tp polN (kf+1) 46 [.imm .arg 1 rw] []=some (.bool false,[])):RT polN 34 (sub [] B34) [(0,.imm .arg 1 rw),(1,.imm .arg 1 la)] [] .ret (env34 (.imm .arg 1 rw) (.imm .arg 1 la) (.i 0) (.i 2)) [] :=
  RunsTo.hin 0 60 [⟨1,1,.bool false,[]⟩] fun kf hk=>⟨_,by kernel_rfl,(oC (g0 kf) .nil)⟩
end Go.Proofs.Ytlendaofkmhgmaa
end
section
open Go Go.HL
namespace Go.Proofs.Ytlendaofkmhgmaa
open Go.Proofs.Try renaming prog → Tp
open Go.HL.HV renaming undef → Ud
theorem soundT (n:Nat):CallSound Tp (callN Tp polT n):=sound_prim _ (fun g f h=>by
  split at h
  · rename_i hg; cases h; rw [eq_of_beq hg]; exact within_ok
  split at h
  · rename_i hg; cases h; rw [eq_of_beq hg]; exact contains_ok
  · cases h) n
theorem prim_contains {pol':Pol} (hp:pol'.prim 60=some contains60) {l:List Int} (hl:l.length ≤ 1000) (v:Int) (H:Heap) (b:Bool) (hb:decide (v ∈ l)=b):∀ k,callN Tp pol' (k+1) 60 [.imm .arg 1 (l.map encI),.int .i64 v] H=some (.bool b,H):=fun k=>by
  rw [prim_call (pol:=pol') (g:=60) (F:=contains60) hp (rs:=[.imm .arg 1 (l.map encI),.int .i64 v]) (by simp only [mapO,arg_li]; rfl) (res:=.bool b) (by simp only [contains60,lnF,mapO_map decI_enc]; rw [if_pos hl,hb])]; rfl
abbrev itE (d:List (List Int)) (l:List Int) (j:Nat):Env:=env57 (.imm .arg 1 (d.map encR)) (.imm .arg 1 (l.map encI)) (.bool false) Ud Ud (.imm .arg 1 (l.map encI)) (.int .i64 (l.length:Int)) (.int .i64 (j:Int))
theorem it_loop {d:List (List Int)} {l:List Int} (hd:d.length ≤ 1000) (hl:l.length ≤ 1000):∀ (k j:Nat),j+k=l.length → Gd d.length l j →
    ∃ x E,RT polT 57 (sub [1,1,0,1,0] B57) (itE d l j) [] x E [] ∧
      ((x=.exit 0∧E=itE d l l.length∧(inT d.length l∧l.Nodup)) ∨ (x=.ret∧E.get 4=.bool false∧¬ (inT d.length l∧l.Nodup))):=by
  intro k
  induction k with
  | zero =>
    intro j hj hG
    have hj:j=l.length:=by omega
    subst hj
    have s1:=it_l_3 (d.map encR) (l.map encI) l.length (by simp)
    rw [List.length_map] at s1
    exact ⟨_,_,lpo s1,.inl ⟨rfl,rfl,hG.all⟩⟩
  | succ k ih =>
    intro j hj hG
    have hjl:j < l.length:=by omega
    have g:=gx hjl
    rw [getD_at hjl] at g
    have hmem:l[j] ∈ l:=List.getElem_mem hjl
    have hw:IntKind.i64.wrap (((d.map encR).length:Int) - 1)=(d.length:Int) - 1:=by rw [List.length_map,wrapI64]; omega
    by_cases c1:(0:Int) ≤ l[j]∧l[j] ≤ IntKind.i64.wrap (((d.map encR).length:Int) - 1)
    · have c1':=c1
      rw [hw] at c1'
      have gs:sliceV Tp 23 (.imm .arg 1 (l.map encI)) none (some (.int .i64 (j:Int))) none=some (.imm .arg 1 ((l.map encI).take j)):=slice_imm (by rw [List.length_map]; omega)
      have et:(l.map encI).take j=(l.take j).map encI:=List.map_take.symm
      by_cases c2:l[j] ∈ l.take j
      · have s1:=it_l_0 (d.map encR) (l.map encI) j _ (by simp; omega) g c1 gs (by rw [et]; exact prim_contains (by kernel_rfl) (by rw [List.length_take]; omega) _ _ true (decide_eq_true c2))
        rw [List.length_map] at s1
        exact ⟨_,_,lpo s1,.inr ⟨rfl,rfl,fun h=>dup_not hjl c2 h.2⟩⟩
      · have s1:=it_l_1 (d.map encR) (l.map encI) j _ (by simp; omega) g c1 gs (by rw [et]; exact prim_contains (by kernel_rfl) (by rw [List.length_take]; omega) _ _ false (decide_eq_false c2))
        rw [wrap_succ (by omega),List.length_map] at s1
        obtain ⟨x,E,h1,h2⟩:=ih (j+1) (by omega) (hG.succ hjl ⟨c1.1,by omega⟩ c2)
        exact ⟨x,E,lop s1 rfl h1,h2⟩
    · have s1:=it_l_2 (d.map encR) (l.map encI) j _ (by simp; omega) g c1
      rw [List.length_map (f:=encI)] at s1
      rw [hw] at c1
      exact ⟨_,_,lpo s1,.inr ⟨rfl,rfl,fun h=>by have:=h.1 _ hmem; omega⟩⟩
theorem res57:Try.f57.results.toList=[.tmp 4]:=by kernel_rfl
theorem mtour_ok:PrimOk Tp 57 tour57:=by
  refine primOk_pure (pol:=polT) (fn:=Try.f57) (cd:=B57) follows_mixed soundT (by kernel_rfl) (by kernel_rfl) (fnok polT.prim _ _ (by kernel_rfl)) (by kernel_rfl) ?_
  intro args res h
  obtain ⟨d,l,rfl,hq⟩:=rlF_inv h
  clear h
  split at hq
  · rename_i hc
    cases hq
    have a1:=it_a_0 (d.map encR) (l.map encI)
    have fin:∀ b E,RT polT 57 (sub [1] B57) (env57 (.imm .arg 1 (d.map encR)) (.imm .arg 1 (l.map encI)) (.bool false) Ud Ud Ud Ud Ud) [] .ret E [] → E.get 4=.bool b → trOk d.length l=b →
        ∃ x E H' v,RT polT 57 B57 (args0 [.imm .arg 1 (d.map encR),.imm .arg 1 (l.map encI)]) [] x E H'∧(∀ i,x ≠ .exit i)∧resultsV Tp Try.f57 E H'=some v∧toRes H' (polT.deep 57) v=some (.bool (trOk d.length l)):=by
      intro b E t hE hb
      exact ⟨_,E,[],.bool b,sq a1 t (c:=B57),by simp,by simp only [resultsV,res57,mapO,resultV,hE],by rw [hb]; rfl⟩
    by_cases e1:l.length=d.length
    · have g0:=gx (l:=l) (y:=0) (by omega)
      by_cases e2:l.getD 0 0=0
      · have b1:=it_b_0 (d.map encR) (l.map encI) _ (by simp [e1]) g0 e2
        have c1:=it_c_0 (d.map encR) (l.map encI)
        rw [List.length_map (f:=encI)] at c1
        obtain ⟨x,E,h1,h2⟩:=it_loop (d:=d) (by omega) hc.2 l.length 0 (by omega) (Gd.zero _ l)
        rcases h2 with ⟨rfl,rfl,h3⟩ | ⟨rfl,k2,k3⟩
        · have z1:=it_z_0 (d.map encR) (l.map encI) l.length
          rw [List.length_map (f:=encI)] at z1
          have t1:=sq c1 (bke (c:=sub [1,1,0,1] B57) h1) (c:=sub [1,1,0] B57)
          exact fin true _ (sq b1 (sq t1 z1 (c:=sub [1,1] B57)) (c:=sub [1] B57)) rfl (decide_eq_true ⟨e1,e2,h3.1,h3.2⟩)
        · have t1:=sq c1 (RunsTo.block_ret (c:=sub [1,1,0,1] B57) (i:=0) h1 (by kernel_rfl)) (c:=sub [1,1,0] B57)
          exact fin false _ (sq b1 (sqo t1 (c:=sub [1,1] B57) (b:=sub [1,1,1] B57)) (c:=sub [1] B57)) k2 (decide_eq_false fun h=>k3 ⟨h.2.2.1,h.2.2.2⟩)
      · exact fin false _ (sqo (it_b_1 (d.map encR) (l.map encI) _ (by simp [e1]) g0 e2) (c:=sub [1] B57) (b:=sub [1,1] B57)) rfl (decide_eq_false fun h=>e2 h.2.1)
    · exact fin false _ (sqo (it_b_2 (d.map encR) (l.map encI) (by simp; omega)) (c:=sub [1] B57) (b:=sub [1,1] B57)) rfl (decide_eq_false fun h=>e1 h.1)
  · cases hq
theorem trOk_iff {n:Nat} {l:List Int}:trOk n l=true ↔ l.length=n∧l.getD 0 0=0∧inT n l∧l.Nodup:=by
  unfold trOk; rw [decide_eq_true_eq]; exact Iff.rfl
theorem soundN (n:Nat):CallSound Tp (callN Tp polN n):=sound_prim _ (fun g f h=>by
  split at h
  · rename_i hg; cases h; rw [eq_of_beq hg]; exact miles_ok
  split at h
  · rename_i hg; cases h; rw [eq_of_beq hg]; exact mtour_ok
  split at h
  · rename_i hg; cases h; rw [eq_of_beq hg]; exact mlen_ok
  · cases h) n
theorem prim_miles {pol':Pol} (hp:pol'.prim 46=some miles46) {d:List (List Int)} (h1:d.length ≤ 1000) (h2:(d.all fun r=>decide (r.length ≤ 1000))=true) (H:Heap) (b:Bool) (hb:okB d=b):∀ k,callN Tp pol' (k+1) 46 [.imm .arg 1 (d.map encR)] H=some (.bool b,H):=fun k=>by
  rw [prim_call (pol:=pol') (g:=46) (F:=miles46) hp (rs:=[.imm .arg 1 (d.map encR)]) (by simp only [mapO,arg_rw]) (res:=.bool b) (by simp only [miles46,rwF,mapO_map decR_enc]; rw [if_pos ⟨h1,h2⟩,hb])]; rfl
theorem prim_mtour {pol':Pol} (hp:pol'.prim 57=some tour57) {d:List (List Int)} {l:List Int} (h1:1 ≤ d.length) (h2:l.length ≤ 1000) (H:Heap) (b:Bool) (hb:trOk d.length l=b):∀ k,callN Tp pol' (k+1) 57 [.imm .arg 1 (d.map encR),.imm .arg 1 (l.map encI)] H=some (.bool b,H):=fun k=>by
  rw [prim_call (pol:=pol') (g:=57) (F:=tour57) hp (rs:=[.imm .arg 1 (d.map encR),.imm .arg 1 (l.map encI)]) (by simp only [mapO,arg_rw,arg_li]) (res:=.bool b) (by simp only [tour57,rlF,mapO_map decR_enc,mapO_map decI_enc]; rw [if_pos ⟨h1,h2⟩,hb])]; rfl
theorem prim_mlen {pol':Pol} {g:FuncId} (hp:pol'.prim g=some len56) {d:List (List Int)} {l:List Int} (h1:okD d) (h2:inT d.length l) (h3:l.length ≤ 1000) {v:HV} {H:Heap} (hv:toArg H 6 v=some (.imm .arg 1 (l.map encI))):∀ k,callN Tp pol' (k+1) g [.imm .arg 1 (d.map encR),v] H=some (.int .i64 (lenT d l),H):=fun k=>by
  rw [prim_call (pol:=pol') (g:=g) (F:=len56) hp (rs:=[.imm .arg 1 (d.map encR),.imm .arg 1 (l.map encI)]) (by simp only [mapO,arg_rw,hv]) (res:=.int .i64 (lenT d l)) (by simp only [len56,rlF,mapO_map decR_enc,mapO_map decI_enc]; rw [if_pos ⟨h1,h2,h3⟩])]; rfl
theorem res34:Try.f34.results.toList=[.tmp 4,.tmp 5]:=by kernel_rfl
theorem length_ok:PrimOk Tp 34 length34:=by
  refine primOk_pure (pol:=polN) (fn:=Try.f34) (cd:=B34) follows_mixed soundN (by kernel_rfl) (by kernel_rfl) (fnok polN.prim _ _ (by kernel_rfl)) (by kernel_rfl) ?_
  intro args res h
  obtain ⟨d,l,rfl,hq⟩:=rlF_inv h
  clear h
  split at hq
  · rename_i hc
    cases hq
    by_cases c1:okD d
    · have m1:=prim_miles (pol':=polN) (by kernel_rfl) hc.1 hc.2.1 [] true (okB_true c1)
      by_cases c2:trOk d.length l=true
      · rw [if_pos ⟨c1,c2⟩]
        have m2:=prim_mtour (pol':=polN) (by kernel_rfl) c1.1.1 hc.2.2 [] true c2
        have m3:=prim_mlen (pol':=polN) (g:=56) (by kernel_rfl) c1 (trOk_iff.1 c2).2.2.1 hc.2.2 (arg_li [] l)
        exact ⟨_,_,_,_,le_0 (d.map encR) (l.map encI) _ m1 m2 m3,by simp,by simp only [resultsV,res34]; rfl,rfl⟩
      · rw [if_neg (fun h=>c2 h.2)]
        have m2:=prim_mtour (pol':=polN) (by kernel_rfl) c1.1.1 hc.2.2 [] false (nb_false c2)
        exact ⟨_,_,_,_,le_1 (d.map encR) (l.map encI) m1 m2,by simp,by simp only [resultsV,res34]; rfl,rfl⟩
    · rw [if_neg (fun h=>c1 h.1)]
      have m1:=prim_miles (pol':=polN) (by kernel_rfl) hc.1 hc.2.1 [] false (okB_false c1)
      exact ⟨_,_,_,_,le_2 (d.map encR) (l.map encI) m1,by simp,by simp only [resultsV,res34]; rfl,rfl⟩
  · cases hq
theorem revP_len {l:List Int} {i j:Nat} (h:i ≤ j) (hj:j < l.length):(revP l i j).length=l.length:=by
  simp only [revP,List.length_append,List.length_take,List.length_reverse,List.length_drop]
  omega
theorem revP_get {l:List Int} {i j:Nat} (h:i ≤ j) (hj:j < l.length) (k:Nat):(revP l i j)[k]?=if i ≤ k∧k ≤ j then l[i+j - k]? else l[k]?:=by
  unfold revP
  by_cases c1:k < i
  · rw [List.getElem?_append_left (by simp; omega),List.getElem?_take,if_pos c1,if_neg (by omega)]
  · rw [List.getElem?_append_right (by simp; omega),List.length_take,Nat.min_eq_left (by omega)]
    by_cases c2:k ≤ j
    · rw [if_pos ⟨by omega,c2⟩,List.getElem?_append_left (by simp; omega),List.getElem?_reverse (by simp; omega),List.length_take,List.length_drop,Nat.min_eq_left (by omega),List.getElem?_take,if_pos (by omega),List.getElem?_drop]
      congr 1
      omega
    · rw [if_neg (by omega),List.getElem?_append_right (by simp; omega),List.length_reverse,List.length_take,List.length_drop,Nat.min_eq_left (by omega),List.getElem?_drop]
      congr 1
      omega
end Go.Proofs.Ytlendaofkmhgmaa
end
section
open Go Go.HL
namespace Go.Proofs.Ytlendaofkmhgmaa
structure Rv (o:List Int) (lo n i:Nat) (c:List Int):Prop where
  len:c.length=o.length
  get:∀ k,k < o.length → c.getD k 0=if lo ≤ k∧k < lo+n∧(k < lo+i ∨ lo+n ≤ k+i) then o.getD (2 * lo+n - 1 - k) 0 else o.getD k 0
theorem Rv.zero (o:List Int) (lo n:Nat):Rv o lo n 0 o:=⟨rfl,fun k hk=>by rw [if_neg (by omega)]⟩
theorem getD_set (o:List Int) (i k:Nat) (v:Int) (hi:i < o.length):(o.set i v).getD k 0=if i=k then v else o.getD k 0:=by
  simp only [List.getD,List.getElem?_set]
  by_cases e:i=k
  · subst e; simp [hi]
  · simp [e]
theorem Rv.step {o c:List Int} {lo n i:Nat} (h:Rv o lo n i c) (hb:lo+n ≤ o.length) (hi:2 * i+1 < n):Rv o lo n (i+1) ((c.set (lo+i) (c.getD (lo+(n - 1 - i)) 0)).set (lo+(n - 1 - i)) (c.getD (lo+i) 0)):=by
  have hl:=h.len
  refine ⟨by simp [hl],fun k hk=>?_⟩
  rw [getD_set _ _ _ _ (by rw [List.length_set]; omega),getD_set _ _ _ _ (by omega)]
  have e1:=h.get (lo+i) (by omega)
  have e2:=h.get (lo+(n - 1 - i)) (by omega)
  rw [if_neg (by omega)] at e1 e2
  by_cases c1:lo+(n - 1 - i)=k
  · rw [if_pos c1,if_pos (by omega),e1]
    congr 1
    omega
  · rw [if_neg c1]
    by_cases c2:lo+i=k
    · rw [if_pos c2,if_pos (by omega),e2]
      congr 1
      omega
    · rw [if_neg c2,h.get k hk]
      by_cases c3:lo ≤ k∧k < lo+n∧(k < lo+i ∨ lo+n ≤ k+i)
      · rw [if_pos c3,if_pos (by omega)]
      · rw [if_neg c3,if_neg (by omega)]
theorem Rv.done {o c:List Int} {lo n i:Nat} (h:Rv o lo n i c) (hn:1 ≤ n) (hb:lo+n ≤ o.length) (hi:n ≤ 2 * i+1):c=revP o lo (lo+n - 1):=by
  have hr:=revP_len (l:=o) (i:=lo) (j:=lo+n - 1) (by omega) (by omega)
  apply List.ext_getElem (by rw [hr]; exact h.len)
  intro k h1 h2
  have hk:k < o.length:=by rw [← h.len]; exact h1
  have e:=h.get k hk
  have e2:=revP_get (l:=o) (i:=lo) (j:=lo+n - 1) (by omega) (by omega) k
  rw [List.getElem?_eq_getElem h2] at e2
  rw [← getD_at h1,e]
  by_cases c1:lo ≤ k∧k ≤ lo+n - 1
  · rw [if_pos c1,List.getElem?_eq_getElem (by omega)] at e2
    have e3:=Option.some.inj e2
    rw [e3]
    by_cases c2:k < lo+i ∨ lo+n ≤ k+i
    · rw [if_pos ⟨c1.1,by omega,c2⟩,getD_at (by omega)]
      congr 1
      omega
    · rw [if_neg (by omega),getD_at hk]
      congr 1
      omega
  · rw [if_neg c1,List.getElem?_eq_getElem hk] at e2
    rw [if_neg (by omega),getD_at hk]
    exact (Option.some.inj e2).symm
end Go.Proofs.Ytlendaofkmhgmaa
end
section
open Go Go.HL
namespace Go.Proofs.Ytlendaofkmhgmaa
section
variable {d:List (List Int)}
theorem lenGo_nn (h:okD d) {l:List Int} (hl:inT d.length l):∀ (k j:Nat) (s:Int),j+k=l.length → 0 ≤ s → 0 ≤ lenGo d l k j s
  | 0,_,_,_,h=>h
  | k+1,j,s,hj,hs=>by
    rw [lenGo]
    obtain ⟨a,b,ha,hb,⟨a0,a1⟩,⟨b0,b1⟩,hm⟩:=len_args h hl (j:=j) (by omega)
    rw [ha,hb]
    have:=at_bd h a1 b1
    exact lenGo_nn h hl k (j+1) _ (by omega) (by omega)
theorem lenT_nn (h:okD d) {l:List Int} (hl:inT d.length l):0 ≤ lenT d l:=lenGo_nn h hl _ _ _ (by omega) (Int.le_refl _)
end
end Go.Proofs.Ytlendaofkmhgmaa
end
section
open Go Go.HL
namespace Go.Proofs.Ytlendaofkmhgmaa
open Go.Proofs.Try renaming prog → Tp
open Go.HL.HV renaming undef → Ud
set_option maxRecDepth 100000 in
theorem awake_fast:callNF Tp pol 200 20 [] []=some (.bool true,[]):=by kernel_rfl
theorem awake_prim:PrimOk Tp 20 awakeF:=by
  refine primOk_of (pol:=pol) sound (by kernel_rfl) fun args res h=>?_
  match args,h with
  | [],h =>
    cases h
    exact ⟨200,_,_,false,by rw [← callNF_eq]; exact awake_fast,rfl⟩
end Go.Proofs.Ytlendaofkmhgmaa
end
section
open Go Go.HL
namespace Go.Proofs.Ytlendaofkmhgmaa
open Go.Proofs.Try renaming prog → Tp
open Go.HL.HV renaming undef → Ud
section
variable {d:List (List Int)}
theorem g22' {v:Nat} (hv:v < d.length):idxV Tp 22 (.imm .arg 1 (d.map encR)) (.int .i64 (v:Int))=some (.vptr (.imm .arg 1 ((d.getD v []).map encI))):=gr hv
theorem g23' (h:okD d) {v u:Nat} (hv:v < d.length) (hu:u < d.length):idxV Tp 23 (.imm .arg 1 ((d.getD v []).map encI)) (.int .i64 (u:Int))=some (.vptr (.int .i64 (at2 d v u))):=gx (by rw [h.2.1 v hv]; exact hu)
end
end Go.Proofs.Ytlendaofkmhgmaa
end
section
open Go Go.HL Go.HL.So
namespace Go.Proofs.Ytlendaofkmhgmaa
open Go.Proofs.Try renaming prog → Tp
open Go.HL.HV renaming undef → Ud
theorem res70:Try.f70.results.toList=[.tmp 6]:=by kernel_rfl
theorem u66:Tp.underlying 66=some (.array 11 3):=by kernel_rfl
def Small (ps:List Int):Prop:=ps.length=11∧∀ x ∈ ps,-1000000000 ≤ x∧x ≤ 1000000000
def mpF (f:List (List Int) → Int → List Int → Option HV):List HV → Option HV
  | [.imm .arg 1 rw,.int .i64 a,.agg pv]=>(match mapO decR rw,mapO decI pv with | some R,some ps=>f R a ps | _,_=>none)
  | _=>none
theorem mpF_inv {f:List (List Int) → Int → List Int → Option HV} {args:List HV} {res:HV} (h:mpF f args=some res):∃ R a ps,args=[.imm .arg 1 (R.map encR),.int .i64 a,.agg (ps.map encI)]∧f R a ps=some res:=by
  unfold mpF at h
  split at h
  · rename_i rw a pv
    split at h
    · rename_i R ps hR hp
      exact ⟨R,a,ps,by rw [mapO_inv decR_inv hR,mapO_inv decI_inv hp],h⟩
    · cases h
  · cases h
open Classical in
noncomputable def edges70:List HV → Option HV:=mpF fun R a ps=>if okD R∧(0 ≤ a∧a ≤ R.length)∧Small ps then some (.own 3 ((edg R ps a.toNat).map encE)) else none
section
variable {d:List (List Int)} {ps:List Int} {f:Nat}
abbrev pB (ps:List Int):Blk:=.arr 11 [.agg (ps.map encI)] true 0
abbrev edH (ps:List Int) (l:List Ed):Heap:=[pB ps,bE encE l]
theorem Small.at (h:Small ps) {i:Nat} (hi:i < 11):-1000000000 ≤ ps.getD i 0∧ps.getD i 0 ≤ 1000000000:=by
  have hl:=h.1
  have:ps.getD i 0=ps[i]:=by simp [List.getD,List.getElem?_eq_getElem (show i < ps.length by omega)]
  rw [this]; exact h.2 _ (List.getElem_mem _)
theorem gmn {R:List (List Int)} {y:Nat} (hy:y < R.length):idxV Tp 68 (.imm .arg 1 (R.map encR)) (.int .i64 (y:Int))=some (.vptr (.imm .arg 1 ((R.getD y []).map encI))):=by
  have:=gm (R:=R) (y:=(y:Int)) (by omega) (by omega)
  rwa [Int.toNat_natCast] at this
theorem box_p (hp:ps.length=11):(if (cellsOf (.agg (ps.map encI))).all cellV then some (newV (.agg (ps.map encI)) []) else none)=some (.ptr 0 0 0 1,[pB ps]):=by
  have h:(cellsOf (.agg (ps.map encI))).all cellV=true:=by simp [cellsOf,cellV,encI]
  rw [if_pos h]
  simp only [newV,cellsOf,bnd,ints_bnd,List.length_map,hp]; rfl
theorem px {H:Heap} {b tot:Nat} {i:Nat} (hi:i < 11):idxV Tp 66 (.ptr b 0 0 tot) (.int .i64 (i:Int))=some (.ptr b 0 i tot):=by
  have:=idx_arr (P:=Tp) (t:=66) (e:=3) (b:=b) (i:=0) (m:=11) (tot:=tot) (ik:=.i64) (n:=(i:Int)) u66 z3 (by omega) (by omega)
  rwa [Int.toNat_natCast] at this
theorem pl_at {H:Heap} {b i:Nat} (hb:H[b]?=some (pB ps)) (hp:ps.length=11) (hi:i < 11):loadV Tp H 3 (.ptr b 0 i 1)=some (.int .i64 (ps.getD i 0)) :=
  load_cell (b:=b) hb rfl rfl a3 i3 (by rw [List.getElem?_map,List.getElem?_eq_getElem (by omega)]; simp [List.getD,List.getElem?_eq_getElem (show i < ps.length by omega),encI])
theorem encE_bnd:∀ (l:List Ed),bndL (l.map encE)=0
  | []=>rfl
  | a :: l=>by simp only [List.map_cons,bndL,encE_bnd l,encE,bnd]; rfl
theorem app_E {H:Heap} {b:Nat} {o:List Ed} (hb:H[b]?=some (bE encE o)) (hl:o.length ≤ 1000) (e:Ed) :
    appV H 3 24 (.sl b 0 o.length none o.length 3) [encE e]=some (.sl b 0 (o.length+1) none (o.length+1) 3,H.set b (bE encE (o ++ [e]))):=by
  have:=app_sl (H:=H) (k:=3) (bytes:=24) (b:=b) (n:=o.length) (mx:=0) (els:=o.map encE) (xs:=[encE e]) hb (by simp) (by simp) (by simp only [roomMax,List.length_singleton]; omega) (encE_bnd [e])
  rw [this]
  simp only [bE,List.map_append,List.map_cons,List.map_nil,List.length_singleton]
theorem edRow_len {b:Nat}:∀ k a,(edRow d ps b k a).length=k
  | 0,_=>rfl
  | k+1,a=>by simp [edRow,edRow_len k]
abbrev edE (d:List (List Int)) (ps:List Int) (f m:Nat) (v8 v9 v11 v12:HV):Env:=(env70 (.imm .arg 1 (d.map encR)) (.int .i64 (f:Int)) (.agg (ps.map encI)) (.ptr 0 0 0 1) (.imm .lit 3 []) (.sl 1 0 m none m 3) v8 v9 v11 v12)
theorem ed_in (hd:okD d) (hp:Small ps) {i:Nat} (hi:i < d.length):∀ k j (o:List Ed),j+k=i → o.length+k ≤ 500 →
    RT polSo 70 (sub [1,1,0,1,0,0,1,1,0,0,1,1,0] B70) (edE d ps f o.length (.int .i64 (i:Int)) (.int .i64 (j:Int)) (.int .i64 (d.length:Int)) (.int .i64 (i:Int))) (edH ps o) (.exit 2)
      (edE d ps f (o ++ edRow d ps i k j).length (.int .i64 (i:Int)) (.int .i64 (i:Int)) (.int .i64 (d.length:Int)) (.int .i64 (i:Int))) (edH ps (o ++ edRow d ps i k j)):=by
  have hn:=hd.1
  intro k
  induction k with
  | zero =>
    intro j o hj hl
    have:j=i:=by omega
    subst this
    have s:=ed_h_1 0 (d.map encR) (ps.map encI) f o.length (o.map encE) j j (by omega)
    rw [List.length_map] at s
    rw [edRow,List.append_nil]
    exact lpo (s)
  | succ k ih =>
    intro j o hj hl
    have b1:=hd.at (i:=j) (j:=i) (by omega) hi
    have b2:=hp.at (i:=j) (by omega)
    have b3:=hp.at (i:=i) (by omega)
    have e:IntKind.i64.wrap (IntKind.i64.wrap (at2 d j i+ps.getD j 0)+ps.getD i 0)=cst d ps j i:=by
      rw [wrap_id (n:=at2 d j i+ps.getD j 0) (by omega) (by omega),wrap_id (by omega) (by omega)]; rfl
    have ap:=app_E (H:=edH ps o) (b:=1) (o:=o) rfl (by omega) (mkE d ps j i)
    have s:=ed_h_0 0 (d.map encR) (ps.map encI) f o.length (o.map encE) i j (by omega) (gmn (by omega)) (g23' hd (by omega) hi) (px (H:=[]) (by omega)) (pl_at (H:=edH ps o) rfl hp.1 (by omega)) (px (H:=[]) (by omega)) (pl_at (H:=edH ps o) rfl hp.1 (by omega)) (by
      rw [e]
      rw [show [HV.agg [.int .i64 (cst d ps j i),.int .i64 (j:Int),.int .i64 (i:Int)]]=[encE (mkE d ps j i)] from rfl]
      have:=ap
      rw [show edH ps o=[.arr 11 [.agg (ps.map encI)] true 0,.arr 3 (o.map encE) true 0] from rfl] at this
      rw [this]
      simp [bE,edH])
    rw [wrap_succ (by omega),List.length_map] at s
    have hs:o.map encE ++ [HV.agg [.int .i64 (IntKind.i64.wrap (IntKind.i64.wrap (at2 d j i+ps.getD j 0)+ps.getD i 0)),.int .i64 (j:Int),.int .i64 (i:Int)]]=(o ++ [mkE d ps j i]).map encE:=by rw [e]; simp [encE]
    rw [hs] at s
    have r:=ih (j+1) (o ++ [mkE d ps j i]) (by omega) (by simp; omega)
    rw [List.append_assoc,show [mkE d ps j i] ++ edRow d ps i k (j+1)=edRow d ps i (k+1) j from rfl,show (o ++ [mkE d ps j i]).length=o.length+1 by simp] at r
    exact lop (s) (gc_eq _ rfl) (r)
theorem ed_out (hd:okD d) (hp:Small ps) (hf:f ≤ d.length):∀ k i (o:List Ed),i+k=d.length → o.length+k * (i+k) ≤ 200 →
    ∃ y8 y9,RT polSo 70 (sub [1,1,0,1,0] B70) (edE d ps f o.length Ud Ud (.int .i64 (d.length:Int)) (.int .i64 (i:Int))) (edH ps o) (.exit 0)
      (edE d ps f (o ++ edAll d ps f k i).length y8 y9 (.int .i64 (d.length:Int)) (.int .i64 (d.length:Int))) (edH ps (o ++ edAll d ps f k i)):=by
  have hn:=hd.1
  intro k
  induction k with
  | zero =>
    intro i o hi hl
    have:i=d.length:=by omega
    subst this
    have s:=ed_d_1 0 (d.map encR) (ps.map encI) f o.length (o.map encE) d.length (y8:=Ud) (y9:=Ud) (by simp)
    have s2:=ed_ef_0 0 (d.map encR) (ps.map encI) f o.length (o.map encE) d.length (y8:=Ud) (y9:=Ud)
    rw [List.length_map] at s s2
    rw [edAll,List.append_nil]
    exact ⟨_,_,lpo (sq (s) (sqo (s2) (c:=sub [1,1,0,1,0,0,1] B70) (b:=sub [1,1,0,1,0,0,1,1] B70)) (c:=sub [1,1,0,1,0,0] B70))⟩
  | succ k ih =>
    intro i o hi hl
    have hm:o.length+(k+1) * (i+(k+1))=o.length+(i+(k+1))+k * (i+1+k):=by
      rw [Nat.add_mul,Nat.one_mul,show i+(k+1)=i+1+k by omega]; omega
    have s:=ed_d_0 0 (d.map encR) (ps.map encI) f o.length (o.map encE) i (y8:=Ud) (y9:=Ud) (by rw [List.length_map]; omega)
    have s2:=ed_et_0 0 (d.map encR) (ps.map encI) f o.length (o.map encE) i (y8:=Ud) (y9:=Ud)
    have s3:=ed_f_0 0 (d.map encR) (ps.map encI) f o.length (o.map encE) i (y8:=Ud) (y9:=Ud)
    have s4:=ed_g_0 0 (d.map encR) (ps.map encI) f o.length (o.map encE) i (y9:=Ud)
    rw [List.length_map] at s s2 s3 s4
    by_cases hfi:f ≤ i
    · have r:=ed_in (f:=f) hd hp (i:=i) (by omega) (i - f) f o (by omega) (by omega)
      have s5:=ed_i_0 0 (d.map encR) (ps.map encI) f (o ++ edRow d ps i (i - f) f).length ((o ++ edRow d ps i (i - f) f).map encE) i (y8:=.int .i64 (i:Int)) (y9:=.int .i64 (i:Int))
      rw [wrap_succ (by omega),List.length_map] at s5
      have st:=sq (s) (sq (s2) (sq (RunsTo.block_normal (i:=1) (c:=sub [1,1,0,1,0,0,1,1,0] B70) (sq (s3) (sq (s4) (bke (c:=sub [1,1,0,1,0,0,1,1,0,0,1,1] B70) (r)) (c:=sub [1,1,0,1,0,0,1,1,0,0,1] B70)) (c:=sub [1,1,0,1,0,0,1,1,0,0] B70)) (by kernel_rfl)) (s5) (c:=sub [1,1,0,1,0,0,1,1] B70)) (c:=sub [1,1,0,1,0,0,1] B70)) (c:=sub [1,1,0,1,0,0] B70)
      obtain ⟨y8,y9,r2⟩:=ih (i+1) (o ++ edRow d ps i (i - f) f) (by omega) (by rw [List.length_append,edRow_len]; omega)
      rw [List.append_assoc,show edRow d ps i (i - f) f ++ edAll d ps f k (i+1)=edAll d ps f (k+1) i from rfl] at r2
      exact ⟨y8,y9,lop (st) (gc_eq _ rfl) (r2)⟩
    · have sx:=ed_h_1 0 (d.map encR) (ps.map encI) f o.length (o.map encE) i f (by omega)
      have s5:=ed_i_0 0 (d.map encR) (ps.map encI) f o.length (o.map encE) i (y8:=.int .i64 (i:Int)) (y9:=.int .i64 (f:Int))
      rw [List.length_map] at sx s5
      rw [wrap_succ (by omega)] at s5
      have st:=sq (s) (sq (s2) (sq (RunsTo.block_normal (i:=1) (c:=sub [1,1,0,1,0,0,1,1,0] B70) (sq (s3) (sq (s4) (bke (c:=sub [1,1,0,1,0,0,1,1,0,0,1,1] B70) (lpo (sx) (c:=sub [1,1,0,1,0,0,1,1,0,0,1,1,0] B70))) (c:=sub [1,1,0,1,0,0,1,1,0,0,1] B70)) (c:=sub [1,1,0,1,0,0,1,1,0,0] B70)) (by kernel_rfl)) (s5) (c:=sub [1,1,0,1,0,0,1,1] B70)) (c:=sub [1,1,0,1,0,0,1] B70)) (c:=sub [1,1,0,1,0,0] B70)
      obtain ⟨y8,y9,r2⟩:=ih (i+1) o (by omega) (by omega)
      have e:edAll d ps f (k+1) i=edAll d ps f k (i+1):=by
        rw [edAll,show i - f=0 by omega]; rfl
      rw [← e] at r2
      exact ⟨y8,y9,lop (st) (gc_eq _ rfl) (r2)⟩
end
theorem frz_E {H:Heap} {no:List Nat} {n:Nat} (e:Ed):frz H no (n+1) (encE e)=some (encE e):=by
  show (match mapO (frz H no n) [.int .i64 e.1,.int .i64 e.2.1,.int .i64 e.2.2] with | some l=>some (HV.agg l) | none=>none)=_
  have h1:∀ x:Int,frz H no n (.int .i64 x)=some (.int .i64 x):=fun x=>frz_int n x
  simp only [mapO,h1]; rfl
theorem edges_ok:PrimOk Tp 70 edges70:=by
  refine primOk_pure (pol:=polSo) (fn:=Try.f70) (cd:=B70) follows_mixed soundSo (by kernel_rfl) (by kernel_rfl) (fnok polSo.prim _ _ (by kernel_rfl)) (by kernel_rfl) ?_
  intro args res h
  obtain ⟨d,a0,ps,rfl,hq⟩:=mpF_inv h
  clear h
  split at hq
  · rename_i hc
    obtain ⟨hd,ha,hp⟩:=hc
    cases hq
    have hn:=hd.1
    obtain ⟨f,rfl⟩:∃ x:Nat,a0=(x:Int):=⟨a0.toNat,by omega⟩
    rw [Int.toNat_natCast]
    have s0:=ed_a_0 0 (d.map encR) (ps.map encI) f (box_p hp.1)
    have s1:=ed_b_0 0 (d.map encR) (ps.map encI) f (y7:=Ud) (y8:=Ud) (y9:=Ud) (y11:=Ud) (y12:=Ud)
    have s2:=ed_c_0 0 (d.map encR) (ps.map encI) f 0 [] (y8:=Ud) (y9:=Ud) (y11:=Ud) (y12:=Ud)
    rw [List.length_map] at s2
    have hkk:d.length * d.length ≤ 11 * 11:=Nat.mul_le_mul hn.2 hn.2
    obtain ⟨y8,y9,r⟩:=ed_out (f:=f) hd hp (by omega) d.length 0 [] (by omega) (by simp; omega)
    rw [List.nil_append] at r
    have hl:=edAll_len (d:=d) (p:=ps) (f:=f) d.length 0
    rw [Nat.zero_add] at hl
    obtain ⟨l',hc,h1,h2⟩:=sortE_ok (H:=edH ps (edAll d ps f d.length 0)) (db:=1) (l:=edAll d ps f d.length 0) (by omega) rfl rfl (by simp [mxs,Blk.mx,bE])
    have he:=edg_eq (by omega) h1 h2
    subst he
    obtain ⟨N,hN⟩:=hc.from
    have s3:=ed_j_0 N (d.map encR) (ps.map encI) f (edAll d ps f d.length 0).length ((edAll d ps f d.length 0).map encE) (y8:=y8) (y9:=y9) (y11:=.int .i64 (d.length:Int)) (y12:=.int .i64 (d.length:Int)) hN
    have r':=lpi (e0:=edE d ps f 0 Ud Ud (.int .i64 (d.length:Int)) (.int .i64 0)) r (b:=sub [1,1,0,1,0,0] B70)
    have t:=sq (s0) (sq (s1) (sq (sq (s2) (bke (c:=sub [1,1,0,1] B70) (r')) (c:=sub [1,1,0] B70)) (s3) (c:=sub [1,1] B70)) (c:=sub [1] B70)) (c:=B70)
    have hll:(edAll d ps f d.length 0).length=(edg d ps f).length:=h1.length_eq.symm
    rw [hll] at t
    have hr:=resCell_sl (H:=[pB ps,bE encE (edg d ps f)]) (no:=[1]) (b:=1) (k:=3) (m:=(edg d ps f).length) (cap:=none) (els:=(edg d ps f).map encE) rfl (by simp) (mapO_self (fun e=>frz_E (n:=3) e) _)
    have ho:ownedAll [pB ps,bE encE (edg d ps f)] false (.sl 1 0 (edg d ps f).length none (edg d ps f).length 3)=[1]:=by simp [ownedAll,cellsOf,owned,bE]
    refine ⟨_,_,_,.sl 1 0 (edg d ps f).length none (edg d ps f).length 3,t,by simp,by simp only [resultsV,res70]; rfl,?_⟩
    show toRes [pB ps,bE encE (edg d ps f)] false (.sl 1 0 (edg d ps f).length none (edg d ps f).length 3)=_
    simp only [toRes,ho,List.nodup_cons,List.not_mem_nil,not_false_eq_true,List.nodup_nil,and_self,if_true,resVal,hr]
  · cases hq
end Go.Proofs.Ytlendaofkmhgmaa
end
section
open Go Go.HL Go.HL.So
namespace Go.Proofs.Ytlendaofkmhgmaa
open Go.Proofs.Try renaming prog → Tp
open Go.HL.HV renaming undef → Ud
theorem getDs (o:List Int) (i k:Nat) (v:Int) (hi:i < o.length):(o.set i v).getD k 0=if i=k then v else o.getD k 0:=by
  simp only [List.getD,List.getElem?_set,hi]
  split
  · rename_i e; subst e; simp
  · rfl
def rlb (o w:Int):Nat → Nat → List Int → List Int
  | 0,_,g=>g
  | k+1,j,g=>rlb o w k (j+1) (if g.getD j 0=o then g.set j w else g)
def krP:List Ed → List Int → List Ed
  | [],_=>[]
  | e :: l,g=>if g.getD e.2.1.toNat 0=g.getD e.2.2.toNat 0 then krP l g else e :: krP l (rlb (g.getD e.2.1.toNat 0) (g.getD e.2.2.toNat 0) g.length 0 g)
def iota (n:Nat):List Int:=(List.range n).map fun i:Nat=>(i:Int)
def treeL (d:List (List Int)) (ps:List Int) (f:Nat):List Ed:=krP (edg d ps f) (iota d.length)
theorem rlb_len (o w:Int):∀ k j g,(rlb o w k j g).length=g.length
  | 0,_,_=>rfl
  | k+1,j,g=>by
    rw [rlb,rlb_len o w k]
    split
    · simp
    · rfl
theorem rlb_get (o w:Int):∀ k j (g:List Int),j+k=g.length → ∀ x,(rlb o w k j g).getD x 0=if j ≤ x∧x < g.length∧g.getD x 0=o then w else g.getD x 0
  | 0,j,g,h,x=>by rw [rlb,if_neg (by omega)]
  | k+1,j,g,h,x=>by
    rw [rlb]
    by_cases c:g.getD j 0=o
    · rw [if_pos c,rlb_get o w k (j+1) _ (by simp; omega),List.length_set,getDs _ _ _ _ (by omega)]
      by_cases e:j=x
      · subst e
        rw [if_neg (by omega),if_pos rfl,if_pos ⟨Nat.le_refl _,by omega,c⟩]
      · rw [if_neg e]
        by_cases c2:j+1 ≤ x∧x < g.length∧g.getD x 0=o
        · rw [if_pos c2,if_pos ⟨by omega,c2.2⟩]
        · rw [if_neg c2,if_neg (fun h=>c2 ⟨by omega,h.2⟩)]
    · rw [if_neg c,rlb_get o w k (j+1) g (by omega)]
      by_cases c2:j+1 ≤ x∧x < g.length∧g.getD x 0=o
      · rw [if_pos c2,if_pos ⟨by omega,c2.2⟩]
      · rw [if_neg c2,if_neg (fun h=>c2 ⟨by
          rcases Nat.lt_or_ge j x with h1 | h1
          · omega
          · have:x=j:=by omega
            subst this; exact absurd h.2.2 c,h.2⟩)]
theorem rlb_at (o w:Int) (g:List Int) {x:Nat} (hx:x < g.length):(rlb o w g.length 0 g).getD x 0=if g.getD x 0=o then w else g.getD x 0:=by
  rw [rlb_get o w g.length 0 g (by omega)]
  by_cases c:g.getD x 0=o
  · rw [if_pos ⟨Nat.zero_le _,hx,c⟩,if_pos c]
  · rw [if_neg (fun h=>c h.2.2),if_neg c]
def Eqv (n:Nat) (g h:List Int):Prop:=(g.length=n∧h.length=n)∧∀ x y,x < n → y < n → (g.getD x 0=g.getD y 0 ↔ h.getD x 0=h.getD y 0)
def EIn (n:Nat) (l:List Ed):Prop:=∀ e ∈ l,(0 ≤ e.2.1∧e.2.1.toNat < n)∧0 ≤ e.2.2∧e.2.2.toNat < n
theorem Eqv.step {n:Nat} {g h:List Int} (he:Eqv n g h) {a b:Nat} (ha:a < n) (hb:b < n):Eqv n (rlb (g.getD a 0) (g.getD b 0) g.length 0 g) (rlb (h.getD b 0) (h.getD a 0) h.length 0 h):=by
  obtain ⟨⟨h1,h2⟩,h3⟩:=he
  refine ⟨⟨by rw [rlb_len]; exact h1,by rw [rlb_len]; exact h2⟩,fun x y hx hy=>?_⟩
  rw [rlb_at _ _ _ (by omega),rlb_at _ _ _ (by omega),rlb_at _ _ _ (by omega),rlb_at _ _ _ (by omega)]
  have q1:=h3 x a hx ha
  have q2:=h3 y a hy ha
  have q3:=h3 x b hx hb
  have q4:=h3 y b hy hb
  have q5:=h3 x y hx hy
  have q6:=h3 a b ha hb
  generalize g.getD x 0=gx at *
  generalize g.getD y 0=gy at *
  generalize g.getD a 0=ga at *
  generalize g.getD b 0=gb at *
  generalize h.getD x 0=hx' at *
  generalize h.getD y 0=hy' at *
  generalize h.getD a 0=ha' at *
  generalize h.getD b 0=hb' at *
  split <;> split <;> split <;> split <;> (constructor <;> intro q <;> omega)
theorem Eqv.refl {n:Nat} {g:List Int} (h:g.length=n):Eqv n g g:=⟨⟨h,h⟩,fun _ _ _ _=>Iff.rfl⟩
theorem iota_len (n:Nat):(iota n).length=n:=by simp [iota]
theorem iota_at {n x:Nat} (hx:x < n):(iota n).getD x 0=(x:Int):=by simp [iota,List.getD,List.getElem?_map,List.getElem?_range hx]
theorem edg_in {d:List (List Int)} {ps:List Int} {f:Nat} (hf:f ≤ d.length):EIn d.length (edg d ps f):=fun e he=>by
  obtain ⟨x,y,h,rfl⟩:=((edg_ok (d:=d) (p:=ps) hf).2 e).1 he
  refine ⟨⟨?_,?_⟩,?_,?_⟩
  · show (0:Int) ≤ (x:Int); omega
  · show ((x:Int)).toNat < d.length; omega
  · show (0:Int) ≤ (y:Int); omega
  · show ((y:Int)).toNat < d.length; omega
theorem krP_len:∀ (l:List Ed) (g:List Int),(krP l g).length ≤ l.length
  | [],_=>Nat.le_refl _
  | e :: l,g=>by
    rw [krP]
    split
    · have:=krP_len l g; simp; omega
    · have:=krP_len l (rlb (g.getD e.2.1.toNat 0) (g.getD e.2.2.toNat 0) g.length 0 g); rw [List.length_cons,List.length_cons]; omega
theorem krP_mem {e:Ed}:∀ (l:List Ed) (g:List Int),e ∈ krP l g → e ∈ l
  | [],_,h=>h
  | x :: l,g,h=>by
    rw [krP] at h
    split at h
    · exact List.mem_cons_of_mem _ (krP_mem l g h)
    · rcases List.mem_cons.1 h with rfl | h
      · simp
      · exact List.mem_cons_of_mem _ (krP_mem l _ h)
theorem edg_len {d:List (List Int)} {ps:List Int} {f:Nat} (hd:okD d) (hf:f ≤ d.length):(edg d ps f).length ≤ 121:=by
  have hn:=hd.1
  have hkk:d.length * d.length ≤ 11 * 11:=Nat.mul_le_mul hn.2 hn.2
  have hl:=edAll_len (d:=d) (p:=ps) (f:=f) d.length 0
  rw [Nat.zero_add] at hl
  obtain ⟨h1,h2⟩:=edg_ok (d:=d) (p:=ps) hf
  have nd:(edg d ps f).Nodup:=h1.imp (fun {a b} h e=>by subst e; exact ltE_lin.rf _ h)
  have:=nd.length_le_of_subset (l₂:=edAll d ps f d.length 0) (fun e he=>by
    obtain ⟨x,y,h,e'⟩:=(h2 e).1 he
    exact (mem_edAll _ _).2 ⟨x,y,by omega,e'⟩)
  omega
open Classical in
noncomputable def spanning61:List HV → Option HV:=mpF fun R a ps=>if okD R∧(0 ≤ a∧a ≤ R.length)∧Small ps then some (.own 3 ((treeL R ps a.toNat).map encE)) else none
noncomputable def polSp:Pol:={ pol with prim:=fun g=>if g == 70 then some edges70 else none }
theorem soundSp (n:Nat):CallSound Tp (callN Tp polSp n):=sound_prim _ (fun g f h=>by
  split at h
  · rename_i hg; cases h; rw [eq_of_beq hg]; exact edges_ok
  · cases h) n
end Go.Proofs.Ytlendaofkmhgmaa
end
section
open Go Go.HL
namespace Go.Proofs.Ytlendaofkmhgmaa
set_option maxRecDepth 100000
open Go.Proofs.Try renaming prog → Tp
open Go.HL.HV renaming undef → Ud
noncomputable def B61:Code:=Try.f61.body.getD .skip
abbrev env61 (v0 v1 v2 v5 v6 v7 v8 v9 v11 v12 v13 v14 v19 v20 v31 v32 v33 v55 v56:HV):Env:=[(0,v0),(1,v1),(2,v2),(5,v5),(6,v6),(7,v7),(8,v8),(9,v9),(11,v11),(12,v12),(13,v13),(14,v14),(19,v19),(20,v20),(31,v31),(32,v32),(33,v33),(55,v55),(56,v56)]
theorem spn_a_0 (rw ps:List HV) (f:Nat) (g0:(if (cellsOf (.agg ps)).all cellV then some (newV (.agg ps) []) else none)=some (.ptr 0 0 0 1,[.arr 11 [.agg ps] true 0])):RT polSp 61 (sub [0] B61) [(0,.imm .arg 1 rw),(1,.i (f:Int)),(2,.agg ps)] [] .normal (env61 (.imm .arg 1 rw) (.i (f:Int)) (.agg ps) (.ptr 0 0 0 1) (.imm .lit 3 []) Ud Ud Ud Ud Ud Ud Ud Ud Ud Ud Ud Ud Ud Ud) [.arr 11 [.agg ps] true 0] :=
  RunsTo.hin 0 60 [⟨0,0,.ptr 0 0 0 1,[.arr 11 [.agg ps] true 0]⟩] fun kf hk=>⟨_,by kernel_rfl,(oC (g0) .nil)⟩
theorem spn_b_0 (rw ps:List HV) (f:Nat)  {y7 y8 y9 y11 y12 y13 y14 y19 y20 y31 y32 y33 y55 y56:HV}(g0:makeV Tp false 23 (.i (rw.length:Int)) (.i (rw.length:Int)) [.arr 11 [.agg ps] true 0]=some (.sl 1 0 rw.length (some rw.length) rw.length 1,[.arr 11 [.agg ps] true 0,.arr 1 (List.replicate rw.length (.i 0)) true 0])):RT polSp 61 (sub [1,0] B61) (env61 (.imm .arg 1 rw) (.i (f:Int)) (.agg ps) (.ptr 0 0 0 1) (.imm .lit 3 []) y7 y8 y9 y11 y12 y13 y14 y19 y20 y31 y32 y33 y55 y56) [.arr 11 [.agg ps] true 0] .normal (env61 (.imm .arg 1 rw) (.i (f:Int)) (.agg ps) (.ptr 0 0 0 1) (.imm .lit 3 []) (.sl 1 0 rw.length (some rw.length) rw.length 1) y8 y9 y11 y12 y13 y14 y19 y20 y31 y32 y33 y55 y56) [.arr 11 [.agg ps] true 0,.arr 1 (List.replicate rw.length (.i 0)) true 0] :=
  RunsTo.hin 0 60 [⟨1,2,.sl 1 0 rw.length (some rw.length) rw.length 1,[.arr 11 [.agg ps] true 0,.arr 1 (List.replicate rw.length (.i 0)) true 0]⟩] fun kf hk=>⟨_,by kernel_rfl,(oC (g0) .nil)⟩
theorem spn_c_0 (rw ps:List HV) (f:Nat) (n:Nat) (gs:List HV) {y8 y9 y11 y12 y13 y14 y19 y20 y31 y32 y33 y55 y56:HV}:RT polSp 61 (sub [1,1,0,0] B61) (env61 (.imm .arg 1 rw) (.i (f:Int)) (.agg ps) (.ptr 0 0 0 1) (.imm .lit 3 []) (.sl 1 0 n (some n) n 1) y8 y9 y11 y12 y13 y14 y19 y20 y31 y32 y33 y55 y56) [.arr 11 [.agg ps] true 0,.arr 1 gs true 0] .normal (env61 (.imm .arg 1 rw) (.i (f:Int)) (.agg ps) (.ptr 0 0 0 1) (.imm .lit 3 []) (.sl 1 0 n (some n) n 1) y8 y9 y11 y12 y13 y14 (.i (n:Int)) (.i 0) y31 y32 y33 y55 y56) [.arr 11 [.agg ps] true 0,.arr 1 gs true 0] :=
  RunsTo.hin 0 60 [] fun kf hk=>⟨_,by kernel_rfl,.nil⟩
theorem spn_d_0 (rw ps:List HV) (f:Nat) (n:Nat) (gs:List HV) (i:Nat) {y8 y9 y11 y12 y13 y14 y31 y32 y33 y55 y56:HV} {el0:List HV} (g0:(i:Int) < (n:Int)) (g1:idxV Tp 23 (.sl 1 0 n (some n) n 1) (.i (i:Int))=some (.ptr 1 i 0 n)) (g2:storeV Tp [.arr 11 [.agg ps] true 0,.arr 1 gs true 0] 3 (.ptr 1 i 0 n) (.i (i:Int))=some [.arr 11 [.agg ps] true 0,.arr 1 el0 true 0]):RT polSp 61 (sub [1,1,0,1,0,0] B61) (env61 (.imm .arg 1 rw) (.i (f:Int)) (.agg ps) (.ptr 0 0 0 1) (.imm .lit 3 []) (.sl 1 0 n (some n) n 1) y8 y9 y11 y12 y13 y14 (.i (n:Int)) (.i (i:Int)) y31 y32 y33 y55 y56) [.arr 11 [.agg ps] true 0,.arr 1 gs true 0] .normal (env61 (.imm .arg 1 rw) (.i (f:Int)) (.agg ps) (.ptr 0 0 0 1) (.imm .lit 3 []) (.sl 1 0 n (some n) n 1) (.i (i:Int)) y9 y11 y12 y13 y14 (.i (n:Int)) (.i (IntKind.i64.wrap ((i:Int)+1))) y31 y32 y33 y55 y56) [.arr 11 [.agg ps] true 0,.arr 1 el0 true 0] :=
  RunsTo.hin 0 60 [⟨3,0,.bool true,[.arr 11 [.agg ps] true 0,.arr 1 gs true 0]⟩,⟨5,3,.ptr 1 i 0 n,[.arr 11 [.agg ps] true 0,.arr 1 gs true 0]⟩,⟨5,4,.tuple [],[.arr 11 [.agg ps] true 0,.arr 1 el0 true 0]⟩] fun kf hk=>⟨_,by kernel_rfl,(oB [.arr 11 [.agg ps] true 0,.arr 1 gs true 0] (decide_eq_true g0) (oP [.arr 11 [.agg ps] true 0,.arr 1 gs true 0] g1 (oS g2 .nil)))⟩
theorem spn_d_1 (rw ps:List HV) (f:Nat) (n:Nat) (gs:List HV) (i:Nat) {y8 y9 y11 y12 y13 y14 y31 y32 y33 y55 y56:HV}(g0:¬ ((i:Int) < (n:Int))):RT polSp 61 (sub [1,1,0,1,0,0] B61) (env61 (.imm .arg 1 rw) (.i (f:Int)) (.agg ps) (.ptr 0 0 0 1) (.imm .lit 3 []) (.sl 1 0 n (some n) n 1) y8 y9 y11 y12 y13 y14 (.i (n:Int)) (.i (i:Int)) y31 y32 y33 y55 y56) [.arr 11 [.agg ps] true 0,.arr 1 gs true 0] (.exit 0) (env61 (.imm .arg 1 rw) (.i (f:Int)) (.agg ps) (.ptr 0 0 0 1) (.imm .lit 3 []) (.sl 1 0 n (some n) n 1) y8 y9 y11 y12 y13 y14 (.i (n:Int)) (.i (i:Int)) y31 y32 y33 y55 y56) [.arr 11 [.agg ps] true 0,.arr 1 gs true 0] :=
  RunsTo.hin 0 60 [⟨3,0,.bool false,[.arr 11 [.agg ps] true 0,.arr 1 gs true 0]⟩] fun kf hk=>⟨_,by kernel_rfl,(oB [.arr 11 [.agg ps] true 0,.arr 1 gs true 0] (decide_eq_false g0) .nil)⟩
theorem spn_e_0 (rw ps:List HV) (f:Nat) (n:Nat) (gs:List HV) {y8 y9 y11 y12 y13 y14 y19 y20 y31 y32 y33 y55 y56:HV}:RT polSp 61 (sub [1,1,1,0] B61) (env61 (.imm .arg 1 rw) (.i (f:Int)) (.agg ps) (.ptr 0 0 0 1) (.imm .lit 3 []) (.sl 1 0 n (some n) n 1) y8 y9 y11 y12 y13 y14 y19 y20 y31 y32 y33 y55 y56) [.arr 11 [.agg ps] true 0,.arr 1 gs true 0] .normal (env61 (.imm .arg 1 rw) (.i (f:Int)) (.agg ps) (.ptr 0 0 0 1) (.imm .lit 3 []) (.sl 1 0 n (some n) n 1) y8 (.sl 2 0 0 none 0 3) y11 y12 y13 y14 y19 y20 y31 y32 y33 y55 y56) [.arr 11 [.agg ps] true 0,.arr 1 gs true 0,.arr 3 [] true 0] :=
  RunsTo.hin 0 60 [] fun kf hk=>⟨_,by kernel_rfl,.nil⟩
theorem spn_f_0 (rw ps:List HV) (f:Nat) (n:Nat) (gs:List HV) (m:Nat) (os:List HV) {y8 y11 y12 y13 y14 y19 y20 y31 y32 y33 y55 y56:HV} {q:Nat} {es:List HV} (g0:loadV Tp [.arr 11 [.agg ps] true 0,.arr 1 gs true 0,.arr 3 os true 0] 66 (.ptr 0 0 0 1)=some (.agg ps)) (g1:∀ kf,callN Tp polSp (kf+1) 70 [.imm .arg 1 rw,.i (f:Int),.agg ps] [.arr 11 [.agg ps] true 0,.arr 1 gs true 0,.arr 3 os true 0]=some (.sl 3 0 q none q 3,[.arr 11 [.agg ps] true 0,.arr 1 gs true 0,.arr 3 os true 0,.arr 3 es true 0])):RT polSp 61 (sub [1,1,1,1,0,0] B61) (env61 (.imm .arg 1 rw) (.i (f:Int)) (.agg ps) (.ptr 0 0 0 1) (.imm .lit 3 []) (.sl 1 0 n (some n) n 1) y8 (.sl 2 0 m none m 3) y11 y12 y13 y14 y19 y20 y31 y32 y33 y55 y56) [.arr 11 [.agg ps] true 0,.arr 1 gs true 0,.arr 3 os true 0] .normal (env61 (.imm .arg 1 rw) (.i (f:Int)) (.agg ps) (.ptr 0 0 0 1) (.imm .lit 3 []) (.sl 1 0 n (some n) n 1) y8 (.sl 2 0 m none m 3) y11 y12 y13 y14 y19 y20 (.sl 3 0 q none q 3) (.i (q:Int)) (.i 0) y55 y56) [.arr 11 [.agg ps] true 0,.arr 1 gs true 0,.arr 3 os true 0,.arr 3 es true 0] :=
  RunsTo.hin 0 60 [⟨8,2,.agg ps,[.arr 11 [.agg ps] true 0,.arr 1 gs true 0,.arr 3 os true 0]⟩,⟨8,3,.sl 3 0 q none q 3,[.arr 11 [.agg ps] true 0,.arr 1 gs true 0,.arr 3 os true 0,.arr 3 es true 0]⟩] fun kf hk=>⟨_,by kernel_rfl,(oP [.arr 11 [.agg ps] true 0,.arr 1 gs true 0,.arr 3 os true 0] g0 (oC (g1 kf) .nil))⟩
theorem spn_g_0 (rw ps:List HV) (f:Nat) (n:Nat) (gs:List HV) (m:Nat) (os:List HV) (q:Nat) (es:List HV) (i:Nat) {y5 y8 y11 y12 y13 y14 y19 y20 y55 y56:HV}(g0:(i:Int) < (q:Int)):RunsTo Tp polSp 61 (sub [1,1,1,1,0,1,0,0,0] B61) (env61 (.imm .arg 1 rw) (.i (f:Int)) (.agg ps) y5 (.imm .lit 3 []) (.sl 1 0 n (some n) n 1) y8 (.sl 2 0 m none m 3) y11 y12 y13 y14 y19 y20 (.sl 3 0 q none q 3) (.i (q:Int)) (.i (i:Int)) y55 y56) [.arr 11 [.agg ps] true 0,.arr 1 gs true 0,.arr 3 os true 0,.arr 3 es true 0] .normal [0,1,2,5,6,7,8,9,11,12,13,14,19,20,31,32,33,55,56,34] [(0,.imm .arg 1 rw),(1,.i (f:Int)),(2,.agg ps),(5,y5),(6,.imm .lit 3 []),(7,.sl 1 0 n (some n) n 1),(8,y8),(9,.sl 2 0 m none m 3),(11,y11),(12,y12),(13,y13),(14,y14),(19,y19),(20,y20),(31,.sl 3 0 q none q 3),(32,.i (q:Int)),(33,.i (i:Int)),(55,y55),(56,y56),(34,.bool true)] [.arr 11 [.agg ps] true 0,.arr 1 gs true 0,.arr 3 os true 0,.arr 3 es true 0] :=
  RunsTo.hin 0 60 [⟨9,0,.bool true,[.arr 11 [.agg ps] true 0,.arr 1 gs true 0,.arr 3 os true 0,.arr 3 es true 0]⟩] fun kf hk=>⟨_,by kernel_rfl,(oB [.arr 11 [.agg ps] true 0,.arr 1 gs true 0,.arr 3 os true 0,.arr 3 es true 0] (decide_eq_true g0) .nil)⟩
theorem spn_g_1 (rw ps:List HV) (f:Nat) (n:Nat) (gs:List HV) (m:Nat) (os:List HV) (q:Nat) (es:List HV) (i:Nat) {y5 y8 y11 y12 y13 y14 y19 y20 y55 y56:HV}(g0:¬ ((i:Int) < (q:Int))):RunsTo Tp polSp 61 (sub [1,1,1,1,0,1,0,0,0] B61) (env61 (.imm .arg 1 rw) (.i (f:Int)) (.agg ps) y5 (.imm .lit 3 []) (.sl 1 0 n (some n) n 1) y8 (.sl 2 0 m none m 3) y11 y12 y13 y14 y19 y20 (.sl 3 0 q none q 3) (.i (q:Int)) (.i (i:Int)) y55 y56) [.arr 11 [.agg ps] true 0,.arr 1 gs true 0,.arr 3 os true 0,.arr 3 es true 0] .normal [0,1,2,5,6,7,8,9,11,12,13,14,19,20,31,32,33,55,56,34] [(0,.imm .arg 1 rw),(1,.i (f:Int)),(2,.agg ps),(5,y5),(6,.imm .lit 3 []),(7,.sl 1 0 n (some n) n 1),(8,y8),(9,.sl 2 0 m none m 3),(11,y11),(12,y12),(13,y13),(14,y14),(19,y19),(20,y20),(31,.sl 3 0 q none q 3),(32,.i (q:Int)),(33,.i (i:Int)),(55,y55),(56,y56),(34,.bool false)] [.arr 11 [.agg ps] true 0,.arr 1 gs true 0,.arr 3 os true 0,.arr 3 es true 0] :=
  RunsTo.hin 0 60 [⟨9,0,.bool false,[.arr 11 [.agg ps] true 0,.arr 1 gs true 0,.arr 3 os true 0,.arr 3 es true 0]⟩] fun kf hk=>⟨_,by kernel_rfl,(oB [.arr 11 [.agg ps] true 0,.arr 1 gs true 0,.arr 3 os true 0,.arr 3 es true 0] (decide_eq_false g0) .nil)⟩
theorem spn_ht_0 (rw ps:List HV) (f:Nat) (n:Nat) (gs:List HV) (m:Nat) (os:List HV) (q:Nat) (es:List HV) (i:Nat) {y5 y8 y11 y12 y13 y14 y19 y20 y55 y56:HV}:RT polSp 61 (sub [1,1,1,1,0,1,0,0,1,0] B61) [(0,.imm .arg 1 rw),(1,.i (f:Int)),(2,.agg ps),(5,y5),(6,.imm .lit 3 []),(7,.sl 1 0 n (some n) n 1),(8,y8),(9,.sl 2 0 m none m 3),(11,y11),(12,y12),(13,y13),(14,y14),(19,y19),(20,y20),(31,.sl 3 0 q none q 3),(32,.i (q:Int)),(33,.i (i:Int)),(55,y55),(56,y56),(34,.bool true)] [.arr 11 [.agg ps] true 0,.arr 1 gs true 0,.arr 3 os true 0,.arr 3 es true 0] .normal (env61 (.imm .arg 1 rw) (.i (f:Int)) (.agg ps) y5 (.imm .lit 3 []) (.sl 1 0 n (some n) n 1) y8 (.sl 2 0 m none m 3) y11 y12 y13 y14 y19 y20 (.sl 3 0 q none q 3) (.i (q:Int)) (.i (i:Int)) y55 y56) [.arr 11 [.agg ps] true 0,.arr 1 gs true 0,.arr 3 os true 0,.arr 3 es true 0] :=
  RunsTo.hin 0 60 [] fun kf hk=>⟨_,by kernel_rfl,.nil⟩
theorem spn_hf_0 (rw ps:List HV) (f:Nat) (n:Nat) (gs:List HV) (m:Nat) (os:List HV) (q:Nat) (es:List HV) (i:Nat) {y5 y8 y11 y12 y13 y14 y19 y20 y55 y56:HV}:RT polSp 61 (sub [1,1,1,1,0,1,0,0,1,0] B61) [(0,.imm .arg 1 rw),(1,.i (f:Int)),(2,.agg ps),(5,y5),(6,.imm .lit 3 []),(7,.sl 1 0 n (some n) n 1),(8,y8),(9,.sl 2 0 m none m 3),(11,y11),(12,y12),(13,y13),(14,y14),(19,y19),(20,y20),(31,.sl 3 0 q none q 3),(32,.i (q:Int)),(33,.i (i:Int)),(55,y55),(56,y56),(34,.bool false)] [.arr 11 [.agg ps] true 0,.arr 1 gs true 0,.arr 3 os true 0,.arr 3 es true 0] (.exit 2) (env61 (.imm .arg 1 rw) (.i (f:Int)) (.agg ps) y5 (.imm .lit 3 []) (.sl 1 0 n (some n) n 1) y8 (.sl 2 0 m none m 3) y11 y12 y13 y14 y19 y20 (.sl 3 0 q none q 3) (.i (q:Int)) (.i (i:Int)) y55 y56) [.arr 11 [.agg ps] true 0,.arr 1 gs true 0,.arr 3 os true 0,.arr 3 es true 0] :=
  RunsTo.hin 0 60 [] fun kf hk=>⟨_,by kernel_rfl,.nil⟩
theorem spn_i_0 (rw ps:List HV) (f:Nat) (n:Nat) (gs:List HV) (m:Nat) (os:List HV) (q:Nat) (es:List HV) (i:Nat) (ec:Int) (ea eb:Nat) {y5 y8 y11 y12 y13 y14 y19 y20 y55 y56:HV}(g0:idxV Tp 88 (.sl 3 0 q none q 3) (.i (i:Int))=some (.ptr 3 i 0 q)) (g1:loadV Tp [.arr 11 [.agg ps] true 0,.arr 1 gs true 0,.arr 3 os true 0,.arr 3 es true 0] 91 (.ptr 3 i 0 q)=some (.agg [.i ec,.i (ea:Int),.i (eb:Int)])):RT polSp 61 (sub [1,1,1,1,0,1,0,0,1,1,0,0,0] B61) (env61 (.imm .arg 1 rw) (.i (f:Int)) (.agg ps) y5 (.imm .lit 3 []) (.sl 1 0 n (some n) n 1) y8 (.sl 2 0 m none m 3) y11 y12 y13 y14 y19 y20 (.sl 3 0 q none q 3) (.i (q:Int)) (.i (i:Int)) y55 y56) [.arr 11 [.agg ps] true 0,.arr 1 gs true 0,.arr 3 os true 0,.arr 3 es true 0] .normal (env61 (.imm .arg 1 rw) (.i (f:Int)) (.agg ps) y5 (.imm .lit 3 []) (.sl 1 0 n (some n) n 1) y8 (.sl 2 0 m none m 3) (.ptr 4 0 0 1) y12 y13 y14 y19 y20 (.sl 3 0 q none q 3) (.i (q:Int)) (.i (i:Int)) y55 y56) [.arr 11 [.agg ps] true 0,.arr 1 gs true 0,.arr 3 os true 0,.arr 3 es true 0,.arr 3 [.agg [.i ec,.i (ea:Int),.i (eb:Int)]] true 0] :=
  RunsTo.hin 0 60 [⟨10,0,.ptr 3 i 0 q,[.arr 11 [.agg ps] true 0,.arr 1 gs true 0,.arr 3 os true 0,.arr 3 es true 0]⟩,⟨10,1,.agg [.i ec,.i (ea:Int),.i (eb:Int)],[.arr 11 [.agg ps] true 0,.arr 1 gs true 0,.arr 3 os true 0,.arr 3 es true 0]⟩] fun kf hk=>⟨_,by kernel_rfl,(oP [.arr 11 [.agg ps] true 0,.arr 1 gs true 0,.arr 3 os true 0,.arr 3 es true 0] g0 (oP [.arr 11 [.agg ps] true 0,.arr 1 gs true 0,.arr 3 os true 0,.arr 3 es true 0] g1 .nil))⟩
theorem spn_j_0 (rw ps:List HV) (f:Nat) (n:Nat) (gs:List HV) (m:Nat) (os:List HV) (q:Nat) (es:List HV) (i:Nat) (ec:Int) (ea eb:Nat) {y5 y8 y12 y13 y14 y19 y20 y55 y56:HV} {x0:Int} {x1:Int} (g0:idxV Tp 23 (.sl 1 0 n (some n) n 1) (.i (ea:Int))=some (.ptr 1 ea 0 n)) (g1:loadV Tp [.arr 11 [.agg ps] true 0,.arr 1 gs true 0,.arr 3 os true 0,.arr 3 es true 0,.arr 3 [.agg [.i ec,.i (ea:Int),.i (eb:Int)]] true 0] 3 (.ptr 1 ea 0 n)=some (.i x0)) (g2:idxV Tp 23 (.sl 1 0 n (some n) n 1) (.i (eb:Int))=some (.ptr 1 eb 0 n)) (g3:loadV Tp [.arr 11 [.agg ps] true 0,.arr 1 gs true 0,.arr 3 os true 0,.arr 3 es true 0,.arr 3 [.agg [.i ec,.i (ea:Int),.i (eb:Int)]] true 0] 3 (.ptr 1 eb 0 n)=some (.i x1)):RT polSp 61 (sub [1,1,1,1,0,1,0,0,1,1,0,0,1,0] B61) (env61 (.imm .arg 1 rw) (.i (f:Int)) (.agg ps) y5 (.imm .lit 3 []) (.sl 1 0 n (some n) n 1) y8 (.sl 2 0 m none m 3) (.ptr 4 0 0 1) y12 y13 y14 y19 y20 (.sl 3 0 q none q 3) (.i (q:Int)) (.i (i:Int)) y55 y56) [.arr 11 [.agg ps] true 0,.arr 1 gs true 0,.arr 3 os true 0,.arr 3 es true 0,.arr 3 [.agg [.i ec,.i (ea:Int),.i (eb:Int)]] true 0] .normal (env61 (.imm .arg 1 rw) (.i (f:Int)) (.agg ps) y5 (.imm .lit 3 []) (.sl 1 0 n (some n) n 1) y8 (.sl 2 0 m none m 3) (.ptr 4 0 0 1) (.i x0) (.i x1) y14 y19 y20 (.sl 3 0 q none q 3) (.i (q:Int)) (.i (i:Int)) y55 y56) [.arr 11 [.agg ps] true 0,.arr 1 gs true 0,.arr 3 os true 0,.arr 3 es true 0,.arr 3 [.agg [.i ec,.i (ea:Int),.i (eb:Int)]] true 0] :=
  RunsTo.hin 0 60 [⟨11,3,.ptr 1 ea 0 n,[.arr 11 [.agg ps] true 0,.arr 1 gs true 0,.arr 3 os true 0,.arr 3 es true 0,.arr 3 [.agg [.i ec,.i (ea:Int),.i (eb:Int)]] true 0]⟩,⟨11,4,.i x0,[.arr 11 [.agg ps] true 0,.arr 1 gs true 0,.arr 3 os true 0,.arr 3 es true 0,.arr 3 [.agg [.i ec,.i (ea:Int),.i (eb:Int)]] true 0]⟩,⟨11,8,.ptr 1 eb 0 n,[.arr 11 [.agg ps] true 0,.arr 1 gs true 0,.arr 3 os true 0,.arr 3 es true 0,.arr 3 [.agg [.i ec,.i (ea:Int),.i (eb:Int)]] true 0]⟩,⟨11,9,.i x1,[.arr 11 [.agg ps] true 0,.arr 1 gs true 0,.arr 3 os true 0,.arr 3 es true 0,.arr 3 [.agg [.i ec,.i (ea:Int),.i (eb:Int)]] true 0]⟩] fun kf hk=>⟨_,by kernel_rfl,(oP [.arr 11 [.agg ps] true 0,.arr 1 gs true 0,.arr 3 os true 0,.arr 3 es true 0,.arr 3 [.agg [.i ec,.i (ea:Int),.i (eb:Int)]] true 0] g0 (oP [.arr 11 [.agg ps] true 0,.arr 1 gs true 0,.arr 3 os true 0,.arr 3 es true 0,.arr 3 [.agg [.i ec,.i (ea:Int),.i (eb:Int)]] true 0] g1 (oP [.arr 11 [.agg ps] true 0,.arr 1 gs true 0,.arr 3 os true 0,.arr 3 es true 0,.arr 3 [.agg [.i ec,.i (ea:Int),.i (eb:Int)]] true 0] g2 (oP [.arr 11 [.agg ps] true 0,.arr 1 gs true 0,.arr 3 os true 0,.arr 3 es true 0,.arr 3 [.agg [.i ec,.i (ea:Int),.i (eb:Int)]] true 0] g3 .nil))))⟩
theorem spn_k_0 (rw ps:List HV) (f:Nat) (n:Nat) (gs:List HV) (m:Nat) (os:List HV) (q:Nat) (es:List HV) (i:Nat) (ec:Int) (ea eb:Nat) (o w:Int) {y5 y8 y14 y19 y20 y55 y56:HV}(g0:o=w):RT polSp 61 (sub [1,1,1,1,0,1,0,0,1,1,0,0,1,1,0] B61) (env61 (.imm .arg 1 rw) (.i (f:Int)) (.agg ps) y5 (.imm .lit 3 []) (.sl 1 0 n (some n) n 1) y8 (.sl 2 0 m none m 3) (.ptr 4 0 0 1) (.i o) (.i w) y14 y19 y20 (.sl 3 0 q none q 3) (.i (q:Int)) (.i (i:Int)) y55 y56) [.arr 11 [.agg ps] true 0,.arr 1 gs true 0,.arr 3 os true 0,.arr 3 es true 0,.arr 3 [.agg [.i ec,.i (ea:Int),.i (eb:Int)]] true 0] (.exit 3) (env61 (.imm .arg 1 rw) (.i (f:Int)) (.agg ps) y5 (.imm .lit 3 []) (.sl 1 0 n (some n) n 1) y8 (.sl 2 0 m none m 3) (.ptr 4 0 0 1) (.i o) (.i w) y14 y19 y20 (.sl 3 0 q none q 3) (.i (q:Int)) (.i (i:Int)) y55 y56) [.arr 11 [.agg ps] true 0,.arr 1 gs true 0,.arr 3 os true 0,.arr 3 es true 0,.arr 3 [.agg [.i ec,.i (ea:Int),.i (eb:Int)]] true 0] :=
  RunsTo.hin 0 60 [⟨12,2,.bool true,[.arr 11 [.agg ps] true 0,.arr 1 gs true 0,.arr 3 os true 0,.arr 3 es true 0,.arr 3 [.agg [.i ec,.i (ea:Int),.i (eb:Int)]] true 0]⟩] fun kf hk=>⟨_,by kernel_rfl,(oB [.arr 11 [.agg ps] true 0,.arr 1 gs true 0,.arr 3 os true 0,.arr 3 es true 0,.arr 3 [.agg [.i ec,.i (ea:Int),.i (eb:Int)]] true 0] (decide_eq_true g0) .nil)⟩
theorem spn_k_1 (rw ps:List HV) (f:Nat) (n:Nat) (gs:List HV) (m:Nat) (os:List HV) (q:Nat) (es:List HV) (i:Nat) (ec:Int) (ea eb:Nat) (o w:Int) {y5 y8 y14 y19 y20 y55 y56:HV}(g0:¬ (o=w)):RT polSp 61 (sub [1,1,1,1,0,1,0,0,1,1,0,0,1,1,0] B61) (env61 (.imm .arg 1 rw) (.i (f:Int)) (.agg ps) y5 (.imm .lit 3 []) (.sl 1 0 n (some n) n 1) y8 (.sl 2 0 m none m 3) (.ptr 4 0 0 1) (.i o) (.i w) y14 y19 y20 (.sl 3 0 q none q 3) (.i (q:Int)) (.i (i:Int)) y55 y56) [.arr 11 [.agg ps] true 0,.arr 1 gs true 0,.arr 3 os true 0,.arr 3 es true 0,.arr 3 [.agg [.i ec,.i (ea:Int),.i (eb:Int)]] true 0] .normal (env61 (.imm .arg 1 rw) (.i (f:Int)) (.agg ps) y5 (.imm .lit 3 []) (.sl 1 0 n (some n) n 1) y8 (.sl 2 0 m none m 3) (.ptr 4 0 0 1) (.i o) (.i w) y14 y19 y20 (.sl 3 0 q none q 3) (.i (q:Int)) (.i (i:Int)) y55 y56) [.arr 11 [.agg ps] true 0,.arr 1 gs true 0,.arr 3 os true 0,.arr 3 es true 0,.arr 3 [.agg [.i ec,.i (ea:Int),.i (eb:Int)]] true 0] :=
  RunsTo.hin 0 60 [⟨12,2,.bool false,[.arr 11 [.agg ps] true 0,.arr 1 gs true 0,.arr 3 os true 0,.arr 3 es true 0,.arr 3 [.agg [.i ec,.i (ea:Int),.i (eb:Int)]] true 0]⟩] fun kf hk=>⟨_,by kernel_rfl,(oB [.arr 11 [.agg ps] true 0,.arr 1 gs true 0,.arr 3 os true 0,.arr 3 es true 0,.arr 3 [.agg [.i ec,.i (ea:Int),.i (eb:Int)]] true 0] (decide_eq_false g0) .nil)⟩
theorem spn_l_0 (rw ps:List HV) (f:Nat) (n:Nat) (gs:List HV) (m:Nat) (os:List HV) (q:Nat) (es:List HV) (i:Nat) (ec:Int) (ea eb:Nat) (o w:Int) {y5 y8 y14 y19 y20 y55 y56:HV}(g0:appV [.arr 11 [.agg ps] true 0,.arr 1 gs true 0,.arr 3 os true 0,.arr 3 es true 0,.arr 3 [.agg [.i ec,.i (ea:Int),.i (eb:Int)]] true 0] 3 24 (.sl 2 0 m none m 3) [.agg [.i ec,.i (ea:Int),.i (eb:Int)]]=some (.sl 2 0 (m+1) none (m+1) 3,[.arr 11 [.agg ps] true 0,.arr 1 gs true 0,.arr 3 (os ++ [.agg [.i ec,.i (ea:Int),.i (eb:Int)]]) true 0,.arr 3 es true 0,.arr 3 [.agg [.i ec,.i (ea:Int),.i (eb:Int)]] true 0])):RT polSp 61 (sub [1,1,1,1,0,1,0,0,1,1,0,0,1,1,1,0] B61) (env61 (.imm .arg 1 rw) (.i (f:Int)) (.agg ps) y5 (.imm .lit 3 []) (.sl 1 0 n (some n) n 1) y8 (.sl 2 0 m none m 3) (.ptr 4 0 0 1) (.i o) (.i w) y14 y19 y20 (.sl 3 0 q none q 3) (.i (q:Int)) (.i (i:Int)) y55 y56) [.arr 11 [.agg ps] true 0,.arr 1 gs true 0,.arr 3 os true 0,.arr 3 es true 0,.arr 3 [.agg [.i ec,.i (ea:Int),.i (eb:Int)]] true 0] .normal (env61 (.imm .arg 1 rw) (.i (f:Int)) (.agg ps) y5 (.imm .lit 3 []) (.sl 1 0 n (some n) n 1) y8 (.sl 2 0 (m+1) none (m+1) 3) (.ptr 4 0 0 1) (.i o) (.i w) y14 y19 y20 (.sl 3 0 q none q 3) (.i (q:Int)) (.i (i:Int)) y55 y56) [.arr 11 [.agg ps] true 0,.arr 1 gs true 0,.arr 3 (os ++ [.agg [.i ec,.i (ea:Int),.i (eb:Int)]]) true 0,.arr 3 es true 0,.arr 3 [.agg [.i ec,.i (ea:Int),.i (eb:Int)]] true 0] :=
  RunsTo.hin 0 60 [⟨13,3,.sl 2 0 (m+1) none (m+1) 3,[.arr 11 [.agg ps] true 0,.arr 1 gs true 0,.arr 3 (os ++ [.agg [.i ec,.i (ea:Int),.i (eb:Int)]]) true 0,.arr 3 es true 0,.arr 3 [.agg [.i ec,.i (ea:Int),.i (eb:Int)]] true 0]⟩] fun kf hk=>⟨_,by kernel_rfl,(oC (g0) .nil)⟩
theorem spn_m_0 (rw ps:List HV) (f:Nat) (n:Nat) (gs:List HV) (m:Nat) (os:List HV) (q:Nat) (es:List HV) (i:Nat) (ec:Int) (ea eb:Nat) {y5 y8 y12 y13 y14 y19 y20 y55 y56:HV}:RT polSp 61 (sub [1,1,1,1,0,1,0,0,1,1,0,0,1,1,1,1,0] B61) (env61 (.imm .arg 1 rw) (.i (f:Int)) (.agg ps) y5 (.imm .lit 3 []) (.sl 1 0 n (some n) n 1) y8 (.sl 2 0 m none m 3) (.ptr 4 0 0 1) y12 y13 y14 y19 y20 (.sl 3 0 q none q 3) (.i (q:Int)) (.i (i:Int)) y55 y56) [.arr 11 [.agg ps] true 0,.arr 1 gs true 0,.arr 3 os true 0,.arr 3 es true 0,.arr 3 [.agg [.i ec,.i (ea:Int),.i (eb:Int)]] true 0] .normal (env61 (.imm .arg 1 rw) (.i (f:Int)) (.agg ps) y5 (.imm .lit 3 []) (.sl 1 0 n (some n) n 1) y8 (.sl 2 0 m none m 3) (.ptr 4 0 0 1) y12 y13 y14 y19 y20 (.sl 3 0 q none q 3) (.i (q:Int)) (.i (i:Int)) (.i (n:Int)) (.i 0)) [.arr 11 [.agg ps] true 0,.arr 1 gs true 0,.arr 3 os true 0,.arr 3 es true 0,.arr 3 [.agg [.i ec,.i (ea:Int),.i (eb:Int)]] true 0] :=
  RunsTo.hin 0 60 [] fun kf hk=>⟨_,by kernel_rfl,.nil⟩
theorem spn_n_0 (rw ps:List HV) (f:Nat) (n:Nat) (gs:List HV) (m:Nat) (os:List HV) (q:Nat) (es:List HV) (i:Nat) (ec:Int) (ea eb:Nat) (o w:Int) (j:Nat) {y5 y8 y11 y14 y19 y20:HV} {x0:Int} {el0:List HV} (g0:(j:Int) < (n:Int)) (g1:idxV Tp 23 (.sl 1 0 n (some n) n 1) (.i (j:Int))=some (.ptr 1 j 0 n)) (g2:loadV Tp [.arr 11 [.agg ps] true 0,.arr 1 gs true 0,.arr 3 os true 0,.arr 3 es true 0,.arr 3 [.agg [.i ec,.i (ea:Int),.i (eb:Int)]] true 0] 3 (.ptr 1 j 0 n)=some (.i x0)) (g3:x0=o) (g4:idxV Tp 23 (.sl 1 0 n (some n) n 1) (.i (j:Int))=some (.ptr 1 j 0 n)) (g5:storeV Tp [.arr 11 [.agg ps] true 0,.arr 1 gs true 0,.arr 3 os true 0,.arr 3 es true 0,.arr 3 [.agg [.i ec,.i (ea:Int),.i (eb:Int)]] true 0] 3 (.ptr 1 j 0 n) (.i w)=some [.arr 11 [.agg ps] true 0,.arr 1 el0 true 0,.arr 3 os true 0,.arr 3 es true 0,.arr 3 [.agg [.i ec,.i (ea:Int),.i (eb:Int)]] true 0]):RT polSp 61 (sub [1,1,1,1,0,1,0,0,1,1,0,0,1,1,1,1,1,0,0] B61) (env61 (.imm .arg 1 rw) (.i (f:Int)) (.agg ps) y5 (.imm .lit 3 []) (.sl 1 0 n (some n) n 1) y8 (.sl 2 0 m none m 3) y11 (.i o) (.i w) y14 y19 y20 (.sl 3 0 q none q 3) (.i (q:Int)) (.i (i:Int)) (.i (n:Int)) (.i (j:Int))) [.arr 11 [.agg ps] true 0,.arr 1 gs true 0,.arr 3 os true 0,.arr 3 es true 0,.arr 3 [.agg [.i ec,.i (ea:Int),.i (eb:Int)]] true 0] .normal (env61 (.imm .arg 1 rw) (.i (f:Int)) (.agg ps) y5 (.imm .lit 3 []) (.sl 1 0 n (some n) n 1) y8 (.sl 2 0 m none m 3) y11 (.i o) (.i w) (.i (j:Int)) y19 y20 (.sl 3 0 q none q 3) (.i (q:Int)) (.i (i:Int)) (.i (n:Int)) (.i (IntKind.i64.wrap ((j:Int)+1)))) [.arr 11 [.agg ps] true 0,.arr 1 el0 true 0,.arr 3 os true 0,.arr 3 es true 0,.arr 3 [.agg [.i ec,.i (ea:Int),.i (eb:Int)]] true 0] :=
  RunsTo.hin 0 60 [⟨15,0,.bool true,[.arr 11 [.agg ps] true 0,.arr 1 gs true 0,.arr 3 os true 0,.arr 3 es true 0,.arr 3 [.agg [.i ec,.i (ea:Int),.i (eb:Int)]] true 0]⟩,⟨17,2,.ptr 1 j 0 n,[.arr 11 [.agg ps] true 0,.arr 1 gs true 0,.arr 3 os true 0,.arr 3 es true 0,.arr 3 [.agg [.i ec,.i (ea:Int),.i (eb:Int)]] true 0]⟩,⟨17,3,.i x0,[.arr 11 [.agg ps] true 0,.arr 1 gs true 0,.arr 3 os true 0,.arr 3 es true 0,.arr 3 [.agg [.i ec,.i (ea:Int),.i (eb:Int)]] true 0]⟩,⟨17,5,.bool true,[.arr 11 [.agg ps] true 0,.arr 1 gs true 0,.arr 3 os true 0,.arr 3 es true 0,.arr 3 [.agg [.i ec,.i (ea:Int),.i (eb:Int)]] true 0]⟩,⟨18,3,.ptr 1 j 0 n,[.arr 11 [.agg ps] true 0,.arr 1 gs true 0,.arr 3 os true 0,.arr 3 es true 0,.arr 3 [.agg [.i ec,.i (ea:Int),.i (eb:Int)]] true 0]⟩,⟨18,4,.tuple [],[.arr 11 [.agg ps] true 0,.arr 1 el0 true 0,.arr 3 os true 0,.arr 3 es true 0,.arr 3 [.agg [.i ec,.i (ea:Int),.i (eb:Int)]] true 0]⟩] fun kf hk=>⟨_,by kernel_rfl,(oB [.arr 11 [.agg ps] true 0,.arr 1 gs true 0,.arr 3 os true 0,.arr 3 es true 0,.arr 3 [.agg [.i ec,.i (ea:Int),.i (eb:Int)]] true 0] (decide_eq_true g0) (oP [.arr 11 [.agg ps] true 0,.arr 1 gs true 0,.arr 3 os true 0,.arr 3 es true 0,.arr 3 [.agg [.i ec,.i (ea:Int),.i (eb:Int)]] true 0] g1 (oP [.arr 11 [.agg ps] true 0,.arr 1 gs true 0,.arr 3 os true 0,.arr 3 es true 0,.arr 3 [.agg [.i ec,.i (ea:Int),.i (eb:Int)]] true 0] g2 (oB [.arr 11 [.agg ps] true 0,.arr 1 gs true 0,.arr 3 os true 0,.arr 3 es true 0,.arr 3 [.agg [.i ec,.i (ea:Int),.i (eb:Int)]] true 0] (decide_eq_true g3) (oP [.arr 11 [.agg ps] true 0,.arr 1 gs true 0,.arr 3 os true 0,.arr 3 es true 0,.arr 3 [.agg [.i ec,.i (ea:Int),.i (eb:Int)]] true 0] g4 (oS g5 .nil))))))⟩
theorem spn_n_1 (rw ps:List HV) (f:Nat) (n:Nat) (gs:List HV) (m:Nat) (os:List HV) (q:Nat) (es:List HV) (i:Nat) (ec:Int) (ea eb:Nat) (o w:Int) (j:Nat) {y5 y8 y11 y14 y19 y20:HV} {x0:Int} (g0:(j:Int) < (n:Int)) (g1:idxV Tp 23 (.sl 1 0 n (some n) n 1) (.i (j:Int))=some (.ptr 1 j 0 n)) (g2:loadV Tp [.arr 11 [.agg ps] true 0,.arr 1 gs true 0,.arr 3 os true 0,.arr 3 es true 0,.arr 3 [.agg [.i ec,.i (ea:Int),.i (eb:Int)]] true 0] 3 (.ptr 1 j 0 n)=some (.i x0)) (g3:¬ (x0=o)):RT polSp 61 (sub [1,1,1,1,0,1,0,0,1,1,0,0,1,1,1,1,1,0,0] B61) (env61 (.imm .arg 1 rw) (.i (f:Int)) (.agg ps) y5 (.imm .lit 3 []) (.sl 1 0 n (some n) n 1) y8 (.sl 2 0 m none m 3) y11 (.i o) (.i w) y14 y19 y20 (.sl 3 0 q none q 3) (.i (q:Int)) (.i (i:Int)) (.i (n:Int)) (.i (j:Int))) [.arr 11 [.agg ps] true 0,.arr 1 gs true 0,.arr 3 os true 0,.arr 3 es true 0,.arr 3 [.agg [.i ec,.i (ea:Int),.i (eb:Int)]] true 0] .normal (env61 (.imm .arg 1 rw) (.i (f:Int)) (.agg ps) y5 (.imm .lit 3 []) (.sl 1 0 n (some n) n 1) y8 (.sl 2 0 m none m 3) y11 (.i o) (.i w) (.i (j:Int)) y19 y20 (.sl 3 0 q none q 3) (.i (q:Int)) (.i (i:Int)) (.i (n:Int)) (.i (IntKind.i64.wrap ((j:Int)+1)))) [.arr 11 [.agg ps] true 0,.arr 1 gs true 0,.arr 3 os true 0,.arr 3 es true 0,.arr 3 [.agg [.i ec,.i (ea:Int),.i (eb:Int)]] true 0] :=
  RunsTo.hin 0 60 [⟨15,0,.bool true,[.arr 11 [.agg ps] true 0,.arr 1 gs true 0,.arr 3 os true 0,.arr 3 es true 0,.arr 3 [.agg [.i ec,.i (ea:Int),.i (eb:Int)]] true 0]⟩,⟨17,2,.ptr 1 j 0 n,[.arr 11 [.agg ps] true 0,.arr 1 gs true 0,.arr 3 os true 0,.arr 3 es true 0,.arr 3 [.agg [.i ec,.i (ea:Int),.i (eb:Int)]] true 0]⟩,⟨17,3,.i x0,[.arr 11 [.agg ps] true 0,.arr 1 gs true 0,.arr 3 os true 0,.arr 3 es true 0,.arr 3 [.agg [.i ec,.i (ea:Int),.i (eb:Int)]] true 0]⟩,⟨17,5,.bool false,[.arr 11 [.agg ps] true 0,.arr 1 gs true 0,.arr 3 os true 0,.arr 3 es true 0,.arr 3 [.agg [.i ec,.i (ea:Int),.i (eb:Int)]] true 0]⟩] fun kf hk=>⟨_,by kernel_rfl,(oB [.arr 11 [.agg ps] true 0,.arr 1 gs true 0,.arr 3 os true 0,.arr 3 es true 0,.arr 3 [.agg [.i ec,.i (ea:Int),.i (eb:Int)]] true 0] (decide_eq_true g0) (oP [.arr 11 [.agg ps] true 0,.arr 1 gs true 0,.arr 3 os true 0,.arr 3 es true 0,.arr 3 [.agg [.i ec,.i (ea:Int),.i (eb:Int)]] true 0] g1 (oP [.arr 11 [.agg ps] true 0,.arr 1 gs true 0,.arr 3 os true 0,.arr 3 es true 0,.arr 3 [.agg [.i ec,.i (ea:Int),.i (eb:Int)]] true 0] g2 (oB [.arr 11 [.agg ps] true 0,.arr 1 gs true 0,.arr 3 os true 0,.arr 3 es true 0,.arr 3 [.agg [.i ec,.i (ea:Int),.i (eb:Int)]] true 0] (decide_eq_false g3) .nil))))⟩
theorem spn_n_2 (rw ps:List HV) (f:Nat) (n:Nat) (gs:List HV) (m:Nat) (os:List HV) (q:Nat) (es:List HV) (i:Nat) (ec:Int) (ea eb:Nat) (o w:Int) (j:Nat) {y5 y8 y11 y14 y19 y20:HV}(g0:¬ ((j:Int) < (n:Int))):RT polSp 61 (sub [1,1,1,1,0,1,0,0,1,1,0,0,1,1,1,1,1,0,0] B61) (env61 (.imm .arg 1 rw) (.i (f:Int)) (.agg ps) y5 (.imm .lit 3 []) (.sl 1 0 n (some n) n 1) y8 (.sl 2 0 m none m 3) y11 (.i o) (.i w) y14 y19 y20 (.sl 3 0 q none q 3) (.i (q:Int)) (.i (i:Int)) (.i (n:Int)) (.i (j:Int))) [.arr 11 [.agg ps] true 0,.arr 1 gs true 0,.arr 3 os true 0,.arr 3 es true 0,.arr 3 [.agg [.i ec,.i (ea:Int),.i (eb:Int)]] true 0] (.exit 4) (env61 (.imm .arg 1 rw) (.i (f:Int)) (.agg ps) y5 (.imm .lit 3 []) (.sl 1 0 n (some n) n 1) y8 (.sl 2 0 m none m 3) y11 (.i o) (.i w) y14 y19 y20 (.sl 3 0 q none q 3) (.i (q:Int)) (.i (i:Int)) (.i (n:Int)) (.i (j:Int))) [.arr 11 [.agg ps] true 0,.arr 1 gs true 0,.arr 3 os true 0,.arr 3 es true 0,.arr 3 [.agg [.i ec,.i (ea:Int),.i (eb:Int)]] true 0] :=
  RunsTo.hin 0 60 [⟨15,0,.bool false,[.arr 11 [.agg ps] true 0,.arr 1 gs true 0,.arr 3 os true 0,.arr 3 es true 0,.arr 3 [.agg [.i ec,.i (ea:Int),.i (eb:Int)]] true 0]⟩] fun kf hk=>⟨_,by kernel_rfl,(oB [.arr 11 [.agg ps] true 0,.arr 1 gs true 0,.arr 3 os true 0,.arr 3 es true 0,.arr 3 [.agg [.i ec,.i (ea:Int),.i (eb:Int)]] true 0] (decide_eq_false g0) .nil)⟩
theorem spn_o_0 (rw ps:List HV) (f:Nat) (n:Nat) (gs:List HV) (m:Nat) (os:List HV) (q:Nat) (es:List HV) (i:Nat) (ec:Int) (ea eb:Nat) {y5 y8 y11 y12 y13 y14 y19 y20 y55 y56:HV}:RT polSp 61 (sub [1,1,1,1,0,1,0,0,1,1,1] B61) (env61 (.imm .arg 1 rw) (.i (f:Int)) (.agg ps) y5 (.imm .lit 3 []) (.sl 1 0 n (some n) n 1) y8 (.sl 2 0 m none m 3) y11 y12 y13 y14 y19 y20 (.sl 3 0 q none q 3) (.i (q:Int)) (.i (i:Int)) y55 y56) [.arr 11 [.agg ps] true 0,.arr 1 gs true 0,.arr 3 os true 0,.arr 3 es true 0,.arr 3 [.agg [.i ec,.i (ea:Int),.i (eb:Int)]] true 0] .normal (env61 (.imm .arg 1 rw) (.i (f:Int)) (.agg ps) y5 (.imm .lit 3 []) (.sl 1 0 n (some n) n 1) y8 (.sl 2 0 m none m 3) y11 y12 y13 y14 y19 y20 (.sl 3 0 q none q 3) (.i (q:Int)) (.i (IntKind.i64.wrap ((i:Int)+1))) y55 y56) [.arr 11 [.agg ps] true 0,.arr 1 gs true 0,.arr 3 os true 0,.arr 3 es true 0,.arr 3 [.agg [.i ec,.i (ea:Int),.i (eb:Int)]] true 0] :=
  RunsTo.hin 0 60 [] fun kf hk=>⟨_,by kernel_rfl,.nil⟩
theorem spn_p_0 (rw ps:List HV) (f:Nat) (n:Nat) (gs:List HV) (m:Nat) (os:List HV) (q:Nat) (es:List HV) {y5 y7 y8 y11 y12 y13 y14 y19 y20 y31 y32 y33 y55 y56:HV}:RT polSp 61 (sub [1,1,1,1,1] B61) (env61 (.imm .arg 1 rw) (.i (f:Int)) (.agg ps) y5 (.imm .lit 3 []) y7 y8 (.sl 2 0 m none m 3) y11 y12 y13 y14 y19 y20 y31 y32 y33 y55 y56) [.arr 11 [.agg ps] true 0,.arr 1 gs true 0,.arr 3 os true 0,.arr 3 es true 0] .ret (env61 (.imm .arg 1 rw) (.i (f:Int)) (.agg ps) y5 (.sl 2 0 m none m 3) y7 y8 (.sl 2 0 m none m 3) y11 y12 y13 y14 y19 y20 y31 y32 y33 y55 y56) [.arr 11 [.agg ps] true 0,.arr 1 gs true 0,.arr 3 os true 0,.arr 3 es true 0] :=
  RunsTo.hin 0 60 [] fun kf hk=>⟨_,by kernel_rfl,.nil⟩
end Go.Proofs.Ytlendaofkmhgmaa
end
section
open Go Go.HL Go.HL.So
namespace Go.Proofs.Ytlendaofkmhgmaa
open Go.Proofs.Try renaming prog → Tp
open Go.HL.HV renaming undef → Ud
theorem res61:Try.f61.results.toList=[.tmp 6]:=by kernel_rfl
theorem ixg {n b k:Nat} {cap:Option Nat} (hk:k < n):idxV Tp 23 (.sl b 0 n cap n 1) (.int .i64 (k:Int))=some (.ptr b k 0 n):=by
  have:=idx_sl (P:=Tp) (t:=23) (b:=b) (len:=n) (tot:=n) (cap:=cap) (ik:=.i64) (n:=(k:Int)) u23 z3 (by omega) (by omega)
  rwa [Int.toNat_natCast] at this
theorem ixe {n b k:Nat} {cap:Option Nat} (hk:k < n):idxV Tp 88 (.sl b 0 n cap n 3) (.int .i64 (k:Int))=some (.ptr b k 0 n):=ixs (db:=b) (n:=n) (cap:=cap) rfl hk
theorem ldg {H:Heap} {b k n:Nat} {g:List Int} (hb:H[b]?=some (bI g)) (hn:g.length=n) (hk:k < n):loadV Tp H 3 (.ptr b k 0 n)=some (.int .i64 (g.getD k 0)):=by
  subst hn; exact load_out hb hk
theorem stg {H:Heap} {b k n:Nat} {g:List Int} (hb:H[b]?=some (bI g)) (hn:g.length=n) (hk:k < n) (v:Int):storeV Tp H 3 (.ptr b k 0 n) (.int .i64 v)=some (H.set b (bI (g.set k v))):=by
  subst hn; exact store_out hb hk v
theorem lde {H:Heap} {b k n:Nat} {l:List Ed} (hb:H[b]?=some (bE encE l)) (hn:l.length=n) (hk:k < n):loadV Tp H 91 (.ptr b k 0 n)=some (encE (at_ l k)) :=
  load_agg (b:=b) hb (by simpa using hn.symm) (by rw [List.getElem?_map,List.getElem?_eq_getElem (by omega)]; simp [at_,List.getD,List.getElem?_eq_getElem (show k < l.length by omega),encE]) a91 s91
section
variable {d:List (List Int)} {ps:List Int} {f:Nat}
abbrev spH (ps g:List Int) (os es:List Ed):Heap:=[pB ps,bI g,bE encE os,bE encE es]
abbrev spX (ps g:List Int) (os es:List Ed) (e:Ed):Heap:=[pB ps,bI g,bE encE os,bE encE es,.arr 3 [encE e] true 0]
abbrev mkQ (c:Int) (a b:Nat):Ed:=(c,(a:Int),(b:Int))
theorem sp_in (hd:okD d) {i ea eb:Nat} {ec o w:Int} {os es:List Ed}:∀ k j (g:List Int),g.length=d.length → j+k=d.length →
    ∃ y14,RT polSp 61 (sub [1,1,1,1,0,1,0,0,1,1,0,0,1,1,1,1,1,0] B61) (env61 (.imm .arg 1 (d.map encR)) (.int .i64 (f:Int)) (.agg (ps.map encI)) Ud (.imm .lit 3 []) (.sl 1 0 d.length (some d.length) d.length 1) Ud (.sl 2 0 os.length none os.length 3) Ud (.int .i64 o) (.int .i64 w) Ud Ud Ud (.sl 3 0 es.length none es.length 3) (.int .i64 (es.length:Int)) (.int .i64 (i:Int)) (.int .i64 (d.length:Int)) (.int .i64 (j:Int))) (spX ps g os es (mkQ ec ea eb)) (.exit 4)
      (env61 (.imm .arg 1 (d.map encR)) (.int .i64 (f:Int)) (.agg (ps.map encI)) Ud (.imm .lit 3 []) (.sl 1 0 d.length (some d.length) d.length 1) Ud (.sl 2 0 os.length none os.length 3) Ud (.int .i64 o) (.int .i64 w) y14 Ud Ud (.sl 3 0 es.length none es.length 3) (.int .i64 (es.length:Int)) (.int .i64 (i:Int)) (.int .i64 (d.length:Int)) (.int .i64 (d.length:Int))) (spX ps (rlb o w k j g) os es (mkQ ec ea eb)):=by
  have hn:=hd.1
  intro k
  induction k with
  | zero =>
    intro j g hg hj
    have:j=d.length:=by omega
    subst this
    exact ⟨_,lpo (spn_n_2 (d.map encR) (ps.map encI) f d.length (g.map encI) os.length (os.map encE) es.length (es.map encE) i ec ea eb o w d.length (by omega))⟩
  | succ k ih =>
    intro j g hg hj
    by_cases c:g.getD j 0=o
    · have s:=spn_n_0 (d.map encR) (ps.map encI) f d.length (g.map encI) os.length (os.map encE) es.length (es.map encE) i ec ea eb o w j (y5:=Ud) (y8:=Ud) (y11:=Ud) (y14:=Ud) (y19:=Ud) (y20:=Ud) (by omega) (ixg (by omega)) (ldg (H:=spX ps g os es (mkQ ec ea eb)) (g:=g) rfl hg (by omega)) c (ixg (by omega)) (stg (H:=spX ps g os es (mkQ ec ea eb)) (b:=1) (k:=j) rfl hg (by omega) w)
      rw [wrap_succ (by omega)] at s
      obtain ⟨y14,r⟩:=ih (j+1) (g.set j w) (by simpa using hg) (by omega)
      rw [rlb,if_pos c]
      exact ⟨y14,lop (s) (gc_eq _ rfl) (r)⟩
    · have s:=spn_n_1 (d.map encR) (ps.map encI) f d.length (g.map encI) os.length (os.map encE) es.length (es.map encE) i ec ea eb o w j (y5:=Ud) (y8:=Ud) (y11:=Ud) (y14:=Ud) (y19:=Ud) (y20:=Ud) (by omega) (ixg (by omega)) (ldg (H:=spX ps g os es (mkQ ec ea eb)) (g:=g) rfl hg (by omega)) c
      rw [wrap_succ (by omega)] at s
      obtain ⟨y14,r⟩:=ih (j+1) g hg (by omega)
      rw [rlb,if_neg c]
      exact ⟨y14,lop (s) (gc_eq _ rfl) (r)⟩
theorem gcX {ps g g2:List Int} {os os2 es:List Ed} {e:Ed} {r:Nat} (hr:r ≤ 4):gc (spH ps g os es).length r (spX ps g2 os2 es e)=spH ps g2 os2 es:=by
  unfold gc
  have:max (spH ps g os es).length (max r (mxs (spX ps g2 os2 es e)))=4:=by
    have h1:mxs (spX ps g2 os2 es e)=0:=by simp [mxs,Blk.mx,bE]
    rw [h1]; show max 4 (max r 0)=4; omega
  rw [this]; rfl
theorem app_Em {H:Heap} {b:Nat} {o:List Ed} (hb:H[b]?=some (bE encE o)) (hl:o.length ≤ 1000) (e:Ed) :
    appV H 3 24 (.sl b 0 o.length none o.length 3) [encE e]=some (.sl b 0 (o.length+1) none (o.length+1) 3,H.set b (.arr 3 (o.map encE ++ [encE e]) true 0)):=by
  have:=app_sl (H:=H) (k:=3) (bytes:=24) (b:=b) (n:=o.length) (mx:=0) (els:=o.map encE) (xs:=[encE e]) hb (by simp) (by simp) (by simp only [roomMax,List.length_singleton]; omega) (encE_bnd [e])
  rw [this]; rfl
abbrev spO (d:List (List Int)) (ps:List Int) (f m q:Nat) (v33:HV):Env:=(env61 (.imm .arg 1 (d.map encR)) (.int .i64 (f:Int)) (.agg (ps.map encI)) Ud (.imm .lit 3 []) (.sl 1 0 d.length (some d.length) d.length 1) Ud (.sl 2 0 m none m 3) Ud Ud Ud Ud Ud Ud (.sl 3 0 q none q 3) (.int .i64 (q:Int)) v33 Ud Ud)
theorem hgc {g2:List Int} {es:List Ed} {e:Ed} (g:List Int) (os os2:List Ed) (m i:Nat):gc (spH ps g os es).length (bndE (spO d ps f m es.length (.int .i64 (i:Int)))) (spX ps g2 os2 es e)=spH ps g2 os2 es:=gcX (by simp [bndE,bnd,bndL,ints_bnd])
theorem sp_out (hd:okD d) {es:List Ed} (he:EIn d.length es) (hq:es.length ≤ 500):∀ k i (os:List Ed) (g:List Int),i+k=es.length → g.length=d.length → os.length+k ≤ 500 →
    ∃ g' E,RT polSp 61 (sub [1,1,1,1,0,1,0] B61) (spO d ps f os.length es.length (.int .i64 (i:Int))) (spH ps g os es) (.exit 2) E (spH ps g' (os ++ krP (es.drop i) g) es) ∧
      ∃ y5 y8 y11 y12 y13 y14 y19 y20 y33 y55 y56,E=(env61 (.imm .arg 1 (d.map encR)) (.int .i64 (f:Int)) (.agg (ps.map encI)) y5 (.imm .lit 3 []) (.sl 1 0 d.length (some d.length) d.length 1) y8 (.sl 2 0 (os ++ krP (es.drop i) g).length none (os ++ krP (es.drop i) g).length 3) y11 y12 y13 y14 y19 y20 (.sl 3 0 es.length none es.length 3) (.int .i64 (es.length:Int)) y33 y55 y56):=by
  have hn:=hd.1
  intro k
  induction k with
  | zero =>
    intro i os g hi hg ho
    have:i=es.length:=by omega
    subst this
    rw [List.drop_length,krP,List.append_nil]
    have s:=spn_g_1 (d.map encR) (ps.map encI) f d.length (g.map encI) os.length (os.map encE) es.length (es.map encE) es.length (y5:=Ud) (y8:=Ud) (y11:=Ud) (y12:=Ud) (y13:=Ud) (y14:=Ud) (y19:=Ud) (y20:=Ud) (y55:=Ud) (y56:=Ud) (by omega)
    have s2:=spn_hf_0 (d.map encR) (ps.map encI) f d.length (g.map encI) os.length (os.map encE) es.length (es.map encE) es.length (y5:=Ud) (y8:=Ud) (y11:=Ud) (y12:=Ud) (y13:=Ud) (y14:=Ud) (y19:=Ud) (y20:=Ud) (y55:=Ud) (y56:=Ud)
    exact ⟨g,_,lpo (sq (s) (sqo (s2) (c:=sub [1,1,1,1,0,1,0,0,1] B61) (b:=sub [1,1,1,1,0,1,0,0,1,1] B61)) (c:=sub [1,1,1,1,0,1,0,0] B61)),_,_,_,_,_,_,_,_,_,_,_,rfl⟩
  | succ k ih =>
    intro i os g hi hg ho
    have hdrop:es.drop i=at_ es i :: es.drop (i+1):=by
      rw [List.drop_eq_getElem_cons (by omega)]
      simp [at_,List.getD,List.getElem?_eq_getElem (show i < es.length by omega)]
    have hmem:at_ es i ∈ es:=by
      have:at_ es i=es[i]:=by simp [at_,List.getD,List.getElem?_eq_getElem (show i < es.length by omega)]
      rw [this]; exact List.getElem_mem _
    obtain ⟨ec,ea,eb,hae,ha,hb⟩:∃ (ec:Int) (ea eb:Nat),at_ es i=mkQ ec ea eb∧ea < d.length∧eb < d.length:=by
      obtain ⟨⟨h1,h2⟩,h3,h4⟩:=he _ hmem
      refine ⟨(at_ es i).1,(at_ es i).2.1.toNat,(at_ es i).2.2.toNat,?_,h2,h4⟩
      show at_ es i=((at_ es i).1,_,_)
      rw [Int.toNat_of_nonneg h1,Int.toNat_of_nonneg h3]
    rw [hdrop,hae,krP]
    simp only [Int.toNat_natCast]
    have s:=spn_g_0 (d.map encR) (ps.map encI) f d.length (g.map encI) os.length (os.map encE) es.length (es.map encE) i (y5:=Ud) (y8:=Ud) (y11:=Ud) (y12:=Ud) (y13:=Ud) (y14:=Ud) (y19:=Ud) (y20:=Ud) (y55:=Ud) (y56:=Ud) (by omega)
    have s2:=spn_ht_0 (d.map encR) (ps.map encI) f d.length (g.map encI) os.length (os.map encE) es.length (es.map encE) i (y5:=Ud) (y8:=Ud) (y11:=Ud) (y12:=Ud) (y13:=Ud) (y14:=Ud) (y19:=Ud) (y20:=Ud) (y55:=Ud) (y56:=Ud)
    have hl:=lde (H:=spH ps g os es) (b:=3) (k:=i) (l:=es) rfl rfl (by omega)
    rw [hae] at hl
    have s3:=spn_i_0 (d.map encR) (ps.map encI) f d.length (g.map encI) os.length (os.map encE) es.length (es.map encE) i ec ea eb (y5:=Ud) (y8:=Ud) (y11:=Ud) (y12:=Ud) (y13:=Ud) (y14:=Ud) (y19:=Ud) (y20:=Ud) (y55:=Ud) (y56:=Ud) (ixe (by omega)) hl
    have s4:=spn_j_0 (d.map encR) (ps.map encI) f d.length (g.map encI) os.length (os.map encE) es.length (es.map encE) i ec ea eb (y5:=Ud) (y8:=Ud) (y12:=Ud) (y13:=Ud) (y14:=Ud) (y19:=Ud) (y20:=Ud) (y55:=Ud) (y56:=Ud) (ixg ha) (ldg (H:=spX ps g os es (mkQ ec ea eb)) (g:=g) rfl hg ha) (ixg hb) (ldg (H:=spX ps g os es (mkQ ec ea eb)) (g:=g) rfl hg hb)
    by_cases c:g.getD ea 0=g.getD eb 0
    · rw [if_pos c]
      have s5:=spn_k_0 (d.map encR) (ps.map encI) f d.length (g.map encI) os.length (os.map encE) es.length (es.map encE) i ec ea eb (g.getD ea 0) (g.getD eb 0) (y5:=Ud) (y8:=Ud) (y14:=Ud) (y19:=Ud) (y20:=Ud) (y55:=Ud) (y56:=Ud) c
      have s6:=spn_o_0 (d.map encR) (ps.map encI) f d.length (g.map encI) os.length (os.map encE) es.length (es.map encE) i ec ea eb (y5:=Ud) (y8:=Ud) (y14:=Ud) (y19:=Ud) (y20:=Ud) (y55:=Ud) (y56:=Ud) (y11:=.ptr 4 0 0 1) (y12:=.int .i64 (g.getD ea 0)) (y13:=.int .i64 (g.getD eb 0))
      rw [wrap_succ (by omega)] at s6
      have st:=sq (s) (sq (s2) (sq (bke (c:=sub [1,1,1,1,0,1,0,0,1,1,0] B61) (sq (s3) (sq (s4) (sqo (s5) (c:=sub [1,1,1,1,0,1,0,0,1,1,0,0,1,1] B61) (b:=sub [1,1,1,1,0,1,0,0,1,1,0,0,1,1,1] B61)) (c:=sub [1,1,1,1,0,1,0,0,1,1,0,0,1] B61)) (c:=sub [1,1,1,1,0,1,0,0,1,1,0,0] B61))) (s6) (c:=sub [1,1,1,1,0,1,0,0,1,1] B61)) (c:=sub [1,1,1,1,0,1,0,0,1] B61)) (c:=sub [1,1,1,1,0,1,0,0] B61)
      obtain ⟨g',E,r,q⟩:=ih (i+1) os g (by omega) hg (by omega)
      exact ⟨g',E,lop (st) (hgc (ps:=ps) (d:=d) (f:=f) (es:=es) (g2:=g) (e:=mkQ ec ea eb) g os os os.length (i+1)) (r),q⟩
    · rw [if_neg c]
      have s5:=spn_k_1 (d.map encR) (ps.map encI) f d.length (g.map encI) os.length (os.map encE) es.length (es.map encE) i ec ea eb (g.getD ea 0) (g.getD eb 0) (y5:=Ud) (y8:=Ud) (y14:=Ud) (y19:=Ud) (y20:=Ud) (y55:=Ud) (y56:=Ud) c
      have s7:=spn_l_0 (d.map encR) (ps.map encI) f d.length (g.map encI) os.length (os.map encE) es.length (es.map encE) i ec ea eb (g.getD ea 0) (g.getD eb 0) (y5:=Ud) (y8:=Ud) (y14:=Ud) (y19:=Ud) (y20:=Ud) (y55:=Ud) (y56:=Ud) (app_Em (H:=spX ps g os es (mkQ ec ea eb)) (b:=2) (o:=os) rfl (by omega) (mkQ ec ea eb))
      have hs:os.map encE ++ [HV.agg [.int .i64 ec,.int .i64 (ea:Int),.int .i64 (eb:Int)]]=(os ++ [mkQ ec ea eb]).map encE:=by simp [encE]
      rw [hs] at s7
      have s8:=spn_m_0 (d.map encR) (ps.map encI) f d.length (g.map encI) (os.length+1) ((os ++ [mkQ ec ea eb]).map encE) es.length (es.map encE) i ec ea eb (y5:=Ud) (y8:=Ud) (y14:=Ud) (y19:=Ud) (y20:=Ud) (y55:=Ud) (y56:=Ud) (y12:=.int .i64 (g.getD ea 0)) (y13:=.int .i64 (g.getD eb 0))
      obtain ⟨y14,r0⟩:=sp_in (ps:=ps) (f:=f) hd (i:=i) (ea:=ea) (eb:=eb) (ec:=ec) (o:=g.getD ea 0) (w:=g.getD eb 0) (os:=os ++ [mkQ ec ea eb]) (es:=es) d.length 0 g hg (by omega)
      rw [show (os ++ [mkQ ec ea eb]).length=os.length+1 by simp,← hg] at r0
      have r0':=lpi (e0:=(env61 (.imm .arg 1 (d.map encR)) (.int .i64 (f:Int)) (.agg (ps.map encI)) Ud (.imm .lit 3 []) (.sl 1 0 g.length (some g.length) g.length 1) Ud (.sl 2 0 (os.length+1) none (os.length+1) 3) (.ptr 4 0 0 1) (.int .i64 (g.getD ea 0)) (.int .i64 (g.getD eb 0)) Ud Ud Ud (.sl 3 0 es.length none es.length 3) (.int .i64 (es.length:Int)) (.int .i64 (i:Int)) (.int .i64 (g.length:Int)) (.int .i64 0))) r0 (b:=sub [1,1,1,1,0,1,0,0,1,1,0,0,1,1,1,1,1,0,0] B61)
      rw [hg] at r0'
      have hg2:(rlb (g.getD ea 0) (g.getD eb 0) d.length 0 g).length=d.length:=by rw [rlb_len,hg]
      have s6:=spn_o_0 (d.map encR) (ps.map encI) f d.length ((rlb (g.getD ea 0) (g.getD eb 0) d.length 0 g).map encI) (os.length+1) ((os ++ [mkQ ec ea eb]).map encE) es.length (es.map encE) i ec ea eb (y5:=Ud) (y8:=Ud) (y11:=Ud) (y19:=Ud) (y20:=Ud) (y14:=y14) (y12:=.int .i64 (g.getD ea 0)) (y13:=.int .i64 (g.getD eb 0)) (y55:=.int .i64 (d.length:Int)) (y56:=.int .i64 (d.length:Int))
      rw [wrap_succ (by omega)] at s6
      have st:=sq (s) (sq (s2) (sq (RunsTo.block_normal (i:=3) (c:=sub [1,1,1,1,0,1,0,0,1,1,0] B61) (sq (s3) (sq (s4) (sq (s5) (sq (s7) (sq (s8) (bke (c:=sub [1,1,1,1,0,1,0,0,1,1,0,0,1,1,1,1,1] B61) (r0')) (c:=sub [1,1,1,1,0,1,0,0,1,1,0,0,1,1,1,1] B61)) (c:=sub [1,1,1,1,0,1,0,0,1,1,0,0,1,1,1] B61)) (c:=sub [1,1,1,1,0,1,0,0,1,1,0,0,1,1] B61)) (c:=sub [1,1,1,1,0,1,0,0,1,1,0,0,1] B61)) (c:=sub [1,1,1,1,0,1,0,0,1,1,0,0] B61)) (by kernel_rfl)) (s6) (c:=sub [1,1,1,1,0,1,0,0,1,1] B61)) (c:=sub [1,1,1,1,0,1,0,0,1] B61)) (c:=sub [1,1,1,1,0,1,0,0] B61)
      obtain ⟨g',E,r,q⟩:=ih (i+1) (os ++ [mkQ ec ea eb]) _ (by omega) hg2 (by simp; omega)
      rw [List.append_assoc] at r q
      rw [hg]
      rw [show (os ++ [mkQ ec ea eb]).length=os.length+1 by simp] at r
      exact ⟨g',E,lop (st) (hgc (ps:=ps) (d:=d) (f:=f) (es:=es) (g2:=rlb (g.getD ea 0) (g.getD eb 0) d.length 0 g) (e:=mkQ ec ea eb) g os (os ++ [mkQ ec ea eb]) (os.length+1) (i+1)) (r),q⟩
theorem spn_init (hd:okD d):∀ k i (g:List Int),i+k=d.length → g.length=d.length → (∀ x,x < i → g.getD x 0=(x:Int)) →
    ∃ y8,RT polSp 61 (sub [1,1,0,1,0] B61) (env61 (.imm .arg 1 (d.map encR)) (.int .i64 (f:Int)) (.agg (ps.map encI)) (.ptr 0 0 0 1) (.imm .lit 3 []) (.sl 1 0 d.length (some d.length) d.length 1) Ud Ud Ud Ud Ud Ud (.int .i64 (d.length:Int)) (.int .i64 (i:Int)) Ud Ud Ud Ud Ud) [pB ps,bI g] (.exit 0)
      (env61 (.imm .arg 1 (d.map encR)) (.int .i64 (f:Int)) (.agg (ps.map encI)) (.ptr 0 0 0 1) (.imm .lit 3 []) (.sl 1 0 d.length (some d.length) d.length 1) y8 Ud Ud Ud Ud Ud (.int .i64 (d.length:Int)) (.int .i64 (d.length:Int)) Ud Ud Ud Ud Ud) [pB ps,bI (iota d.length)]:=by
  have hn:=hd.1
  intro k
  induction k with
  | zero =>
    intro i g hi hg hx
    have:i=d.length:=by omega
    subst this
    have e:g=iota d.length:=by
      apply List.ext_getElem?
      intro x
      by_cases hxl:x < d.length
      · have h1:=hx x hxl
        have h2:=iota_at hxl
        rw [List.getElem?_eq_getElem (by omega),List.getElem?_eq_getElem (by rw [iota_len]; exact hxl)]
        simp only [List.getD,List.getElem?_eq_getElem (show x < g.length by omega),Option.getD_some] at h1
        simp only [List.getD,List.getElem?_eq_getElem (show x < (iota d.length).length by rw [iota_len]; exact hxl),Option.getD_some] at h2
        rw [h1,h2]
      · rw [List.getElem?_eq_none (by omega),List.getElem?_eq_none (by rw [iota_len]; omega)]
    rw [e]
    exact ⟨_,lpo (spn_d_1 (d.map encR) (ps.map encI) f d.length ((iota d.length).map encI) d.length (by omega))⟩
  | succ k ih =>
    intro i g hi hg hx
    have s:=spn_d_0 (d.map encR) (ps.map encI) f d.length (g.map encI) i (y8:=Ud) (y9:=Ud) (y11:=Ud) (y12:=Ud) (y13:=Ud) (y14:=Ud) (y31:=Ud) (y32:=Ud) (y33:=Ud) (y55:=Ud) (y56:=Ud) (by omega) (ixg (by omega)) (stg (H:=[pB ps,bI g]) (b:=1) (k:=i) rfl hg (by omega) (i:Int))
    rw [wrap_succ (by omega)] at s
    obtain ⟨y8,r⟩:=ih (i+1) (g.set i (i:Int)) (by omega) (by simpa using hg) (fun x hx2=>by
      rw [getDs _ _ _ _ (by omega)]
      split
      · rename_i e; rw [e]
      · exact hx x (by omega))
    exact ⟨y8,lop (s) (gc_eq _ rfl) (r)⟩
end
theorem toRes_E {H:Heap} {b:Nat} {l:List Ed} (hb:H[b]?=some (bE encE l)):toRes H false (.sl b 0 l.length none l.length 3)=some (.own 3 (l.map encE)):=by
  have hr:=resCell_sl (H:=H) (no:=[b]) (b:=b) (k:=3) (m:=l.length) (cap:=none) (els:=l.map encE) hb (by simp) (mapO_self (fun e=>frz_E (n:=3) e) _)
  have ho:ownedAll H false (.sl b 0 l.length none l.length 3)=[b]:=by simp [ownedAll,cellsOf,owned,hb,bE]
  simp only [toRes,ho,List.nodup_cons,List.not_mem_nil,not_false_eq_true,List.nodup_nil,and_self,if_true,resVal,hr]
theorem encE_any (l:List Ed):(l.map encE).any isOwn=false:=by
  rw [List.any_eq_false]
  intro v hv
  obtain ⟨k,_,rfl⟩:=List.mem_map.1 hv
  simp [encE,isOwn]
theorem recv_E (l:List Ed) (H:Heap):recv (.own 3 (l.map encE)) H=(.sl H.length 0 l.length none l.length 3,H ++ [bE encE l]):=by
  simp only [recv,recvVal,recvCell,encE_any,List.length_map]
  rfl
theorem arg_agg (H:Heap) (ps:List Int):toArg H 6 (.agg (ps.map encI))=some (.agg (ps.map encI)):=by
  show (match mapO (toArg H 5) (ps.map encI) with | some l=>some (HV.agg l) | none=>none)=_
  have hm:mapO (toArg H 5) (ps.map encI)=some (ps.map encI):=mapO_self (f:=toArg H 5) (g:=encI) (fun _=>rfl) ps
  rw [hm]
theorem q70 {pol':Pol} (hp:pol'.prim 70=some edges70) {d:List (List Int)} {ps:List Int} {f:Nat} {v:HV} (hd:okD d) (hf:f ≤ d.length) (hs:Small ps) (H:Heap) (hv:toArg H 6 v=some (.imm .arg 1 (d.map encR))) :
    ∀ kf,callN Tp pol' (kf+1) 70 [v,.int .i64 (f:Int),.agg (ps.map encI)] H=some (.sl H.length 0 (edg d ps f).length none (edg d ps f).length 3,H ++ [bE encE (edg d ps f)]):=fun kf=>by
  rw [prim_call (pol:=pol') (g:=70) (F:=edges70) hp (rs:=[.imm .arg 1 (d.map encR),.int .i64 (f:Int),.agg (ps.map encI)]) (by simp only [mapO,hv,arg_agg]; rfl) (res:=.own 3 ((edg d ps f).map encE)) (by simp only [edges70,mpF,mapO_map decR_enc,mapO_map decI_enc]; rw [if_pos ⟨hd,by omega,hs⟩,Int.toNat_natCast]),recv_E]
theorem pl_all {H:Heap} {ps:List Int} {b:Nat} (hb:H[b]?=some (pB ps)) (hp:ps.length=11):loadV Tp H 66 (.ptr b 0 0 1)=some (.agg (ps.map encI)) :=
  load_agg (b:=b) hb rfl rfl (by kernel_rfl) (by rw [show tySize Tp 66=some 11 by kernel_rfl]; simp [hp])
theorem spanning_ok:PrimOk Tp 61 spanning61:=by
  refine primOk_pure (pol:=polSp) (fn:=Try.f61) (cd:=B61) follows_mixed soundSp (by kernel_rfl) (by kernel_rfl) (fnok polSp.prim _ _ (by kernel_rfl)) (by kernel_rfl) ?_
  intro args res h
  obtain ⟨d,a0,ps,rfl,hq⟩:=mpF_inv h
  clear h
  split at hq
  · rename_i hc
    obtain ⟨hd,ha,hp⟩:=hc
    cases hq
    have hn:=hd.1
    obtain ⟨f,rfl⟩:∃ x:Nat,a0=(x:Int):=⟨a0.toNat,by omega⟩
    rw [Int.toNat_natCast]
    have s0:=spn_a_0 (d.map encR) (ps.map encI) f (box_p hp.1)
    have mk:=makeV_ok (P:=Tp) (H:=[pB ps]) (t:=23) (e:=3) (k:=1) (bt:=8) (zv:=.int .i64 0) (n:=(d.length:Int)) u23 (by kernel_rfl) (by simp [cellsOf,cellV]) (by simp [cellsOf]) (by omega) (by omega) (by simp only [roomMax]; omega)
    rw [Int.toNat_natCast] at mk
    have hrep:List.replicate d.length (HV.int .i64 0)=(List.replicate d.length (0:Int)).map encI:=by simp [encI]
    rw [hrep] at mk
    have s1:=spn_b_0 (d.map encR) (ps.map encI) f (y7:=Ud) (y8:=Ud) (y9:=Ud) (y11:=Ud) (y12:=Ud) (y13:=Ud) (y14:=Ud) (y19:=Ud) (y20:=Ud) (y31:=Ud) (y32:=Ud) (y33:=Ud) (y55:=Ud) (y56:=Ud) (by rw [List.length_map,hrep]; exact mk)
    rw [List.length_map,hrep] at s1
    have s2:=spn_c_0 (d.map encR) (ps.map encI) f d.length ((List.replicate d.length (0:Int)).map encI) (y8:=Ud) (y9:=Ud) (y11:=Ud) (y12:=Ud) (y13:=Ud) (y14:=Ud) (y19:=Ud) (y20:=Ud) (y31:=Ud) (y32:=Ud) (y33:=Ud) (y55:=Ud) (y56:=Ud)
    obtain ⟨y8,r1⟩:=spn_init (ps:=ps) (f:=f) hd d.length 0 (List.replicate d.length 0) (by omega) (by simp) (fun x hx=>by omega)
    have s3:=spn_e_0 (d.map encR) (ps.map encI) f d.length ((iota d.length).map encI) (y9:=Ud) (y11:=Ud) (y12:=Ud) (y13:=Ud) (y14:=Ud) (y31:=Ud) (y32:=Ud) (y33:=Ud) (y55:=Ud) (y56:=Ud) (y8:=y8) (y19:=.int .i64 (d.length:Int)) (y20:=.int .i64 (d.length:Int))
    have s4:=spn_f_0 (d.map encR) (ps.map encI) f d.length ((iota d.length).map encI) 0 [] (y11:=Ud) (y12:=Ud) (y13:=Ud) (y14:=Ud) (y31:=Ud) (y32:=Ud) (y33:=Ud) (y55:=Ud) (y56:=Ud) (y8:=y8) (y19:=.int .i64 (d.length:Int)) (y20:=.int .i64 (d.length:Int)) (pl_all (b:=0) rfl hp.1) (q70 (pol':=polSp) (by kernel_rfl) hd (by omega) hp _ (arg_rw _ d))
    have hel:=edg_len (ps:=ps) (f:=f) hd (by omega)
    obtain ⟨g',E,r2,y5,y8',y11,y12,y13,y14,y19,y20,y33,y55,y56,rfl⟩:=sp_out (ps:=ps) (f:=f) hd (edg_in (ps:=ps) (f:=f) (by omega)) (by omega) (edg d ps f).length 0 [] (iota d.length) (by omega) (iota_len _) (by simp; omega)
    rw [List.drop_zero,List.nil_append] at r2
    have et:krP (edg d ps f) (iota d.length)=treeL d ps f:=rfl
    rw [et] at r2
    have r2':=lpi (e0:=(env61 (.imm .arg 1 (d.map encR)) (.int .i64 (f:Int)) (.agg (ps.map encI)) (.ptr 0 0 0 1) (.imm .lit 3 []) (.sl 1 0 d.length (some d.length) d.length 1) y8 (.sl 2 0 0 none 0 3) Ud Ud Ud Ud (.int .i64 (d.length:Int)) (.int .i64 (d.length:Int)) (.sl 3 0 (edg d ps f).length none (edg d ps f).length 3) (.int .i64 ((edg d ps f).length:Int)) (.int .i64 0) Ud Ud)) r2 (b:=sub [1,1,1,1,0,1,0,0] B61)
    have z:=spn_p_0 (d.map encR) (ps.map encI) f d.length (g'.map encI) (treeL d ps f).length ((treeL d ps f).map encE) (edg d ps f).length ((edg d ps f).map encE) (y7:=.sl 1 0 d.length (some d.length) d.length 1) (y8:=y8') (y11:=y11) (y12:=y12) (y13:=y13) (y14:=y14) (y19:=y19) (y20:=y20) (y31:=.sl 3 0 (edg d ps f).length none (edg d ps f).length 3) (y32:=.int .i64 ((edg d ps f).length:Int)) (y33:=y33) (y55:=y55) (y56:=y56) (y5:=y5)
    have t:=sq (s0) (sq (s1) (sq (sq (s2) (bke (c:=sub [1,1,0,1] B61) (r1)) (c:=sub [1,1,0] B61)) (sq (s3) (sq (sq (s4) (bke (c:=sub [1,1,1,1,0,1] B61) (r2')) (c:=sub [1,1,1,1,0] B61)) (z) (c:=sub [1,1,1,1] B61)) (c:=sub [1,1,1] B61)) (c:=sub [1,1] B61)) (c:=sub [1] B61)) (c:=B61)
    exact ⟨_,_,_,.sl 2 0 (treeL d ps f).length none (treeL d ps f).length 3,t,by simp,by simp only [resultsV,res61]; rfl,toRes_E rfl⟩
  · cases hq
end Go.Proofs.Ytlendaofkmhgmaa
end
section
open Go Go.HL Go.HL.So
namespace Go.Proofs.Ytlendaofkmhgmaa
open Go.Proofs.Try renaming prog → Tp
open Go.HL.HV renaming undef → Ud
def two2:Nat → List Ed → List Ed
  | _,[]=>[]
  | w,e :: l=>if e.2.1=0∧w < 2 then e :: two2 (w+1) l else two2 w l
def chosen (d:List (List Int)) (ps:List Int):List Ed:=treeL d ps 1 ++ two2 0 (edg d ps 0)
def dstep (t:List Int) (e:Ed):List Int:=(t.set e.2.1.toNat (t.getD e.2.1.toNat 0+1)).set e.2.2.toNat ((t.set e.2.1.toNat (t.getD e.2.1.toNat 0+1)).getD e.2.2.toNat 0+1)
def degs (l:List Ed):List Int:=l.foldl dstep (List.replicate 11 0)
def sumA (l:List Ed) (s:Int):Int:=l.foldl (fun s e=>s+e.1) s
def sumP (ps:List Int) (s:Int):Int:=ps.foldl (fun s n=>s - 2 * n) s
def boundS (d:List (List Int)) (ps:List Int):Int:=sumP ps (sumA (chosen d ps) 0)
theorem two2_mem {e:Ed}:∀ (l:List Ed) (w:Nat),e ∈ two2 w l → e ∈ l
  | [],_,h=>by cases h
  | x :: l,w,h=>by
    rw [two2] at h
    split at h
    · rcases List.mem_cons.1 h with rfl | h
      · simp
      · exact List.mem_cons_of_mem _ (two2_mem l _ h)
    · exact List.mem_cons_of_mem _ (two2_mem l _ h)
theorem two2_len:∀ (l:List Ed) (w:Nat),(two2 w l).length+w ≤ max w 2
  | [],w=>by simp [two2]; omega
  | e :: l,w=>by
    rw [two2]
    split
    · have:=two2_len l (w+1); rw [List.length_cons]; omega
    · exact two2_len l w
theorem chosen_in {d:List (List Int)} {ps:List Int} (hd:okD d):EIn d.length (chosen d ps):=fun e he=>by
  have hn:=hd.1
  rcases List.mem_append.1 he with h | h
  · exact edg_in (f:=1) (by omega) e (krP_mem _ _ h)
  · exact edg_in (f:=0) (by omega) e (two2_mem _ _ h)
theorem chosen_len {d:List (List Int)} {ps:List Int} (hd:okD d):(chosen d ps).length ≤ 123:=by
  have hn:=hd.1
  unfold chosen
  rw [List.length_append]
  have h1:=edg_len (ps:=ps) (f:=1) hd (by omega)
  have h2:=krP_len (edg d ps 1) (iota d.length)
  have h3:=two2_len (edg d ps 0) 0
  unfold treeL
  omega
def costOk (l:List Ed):Prop:=∀ e ∈ l,-3000000000 ≤ e.1∧e.1 ≤ 3000000000
theorem edg_cost {d:List (List Int)} {ps:List Int} {f:Nat} (hd:okD d) (hp:Small ps) (hf:f ≤ d.length):costOk (edg d ps f):=fun e he=>by
  have hn:=hd.1
  obtain ⟨x,y,h,rfl⟩:=((edg_ok (d:=d) (p:=ps) hf).2 e).1 he
  have b1:=hd.at (i:=x) (j:=y) (by omega) (by omega)
  have b2:=hp.at (i:=x) (by omega)
  have b3:=hp.at (i:=y) (by omega)
  simp only [mkE,cst]
  omega
theorem chosen_cost {d:List (List Int)} {ps:List Int} (hd:okD d) (hp:Small ps):costOk (chosen d ps):=fun e he=>by
  have hn:=hd.1
  rcases List.mem_append.1 he with h | h
  · exact edg_cost (f:=1) hd hp (by omega) e (krP_mem _ _ h)
  · exact edg_cost (f:=0) hd hp (by omega) e (two2_mem _ _ h)
def CtB (t:List Int) (k:Nat):Prop:=t.length=11∧∀ x,x < 11 → 0 ≤ t.getD x 0∧t.getD x 0 ≤ 2 * (k:Int)
theorem CtB.step {t:List Int} {k:Nat} (h:CtB t k) {e:Ed} (ha:e.2.1.toNat < 11) (hb:e.2.2.toNat < 11):CtB (dstep t e) (k+1):=by
  obtain ⟨h1,h2⟩:=h
  refine ⟨by simp [dstep,h1],fun x hx=>?_⟩
  unfold dstep
  rw [getDs _ _ _ _ (by simp [h1,hb]),getDs _ _ _ _ (by rw [h1]; exact ha),getDs _ _ _ _ (by rw [h1]; exact ha)]
  have q1:=h2 x hx
  have q2:=h2 _ ha
  have q3:=h2 _ hb
  split
  · split <;> omega
  · split <;> omega
theorem CtB.zero:CtB (List.replicate 11 0) 0:=⟨rfl,fun x hx=>by
  have:(List.replicate 11 (0:Int)).getD x 0=0:=by rw [List.getD,List.getElem?_replicate,if_pos hx]; rfl
  rw [this]; omega⟩
open Classical in
noncomputable def bound50:List HV → Option HV
  | [.imm .arg 1 rw,.agg pv]=>(match mapO decR rw,mapO decI pv with | some R,some ps=>if okD R∧Small ps then some (.tuple [.int .i64 (boundS R ps),.agg ((degs (chosen R ps)).map encI)]) else none | _,_=>none)
  | _=>none
noncomputable def polBo:Pol:={ pol with prim:=fun g=>if g == 70 then some edges70 else if g == 61 then some spanning61 else none }
theorem soundBo (n:Nat):CallSound Tp (callN Tp polBo n):=sound_prim _ (fun g f h=>by
  split at h
  · rename_i hg; cases h; rw [eq_of_beq hg]; exact edges_ok
  split at h
  · rename_i hg; cases h; rw [eq_of_beq hg]; exact spanning_ok
  · cases h) n
theorem q61 {pol':Pol} (hp:pol'.prim 61=some spanning61) {d:List (List Int)} {ps:List Int} {f:Nat} {v:HV} (hd:okD d) (hf:f ≤ d.length) (hs:Small ps) (H:Heap) (hv:toArg H 6 v=some (.imm .arg 1 (d.map encR))) :
    ∀ kf,callN Tp pol' (kf+1) 61 [v,.int .i64 (f:Int),.agg (ps.map encI)] H=some (.sl H.length 0 (treeL d ps f).length none (treeL d ps f).length 3,H ++ [bE encE (treeL d ps f)]):=fun kf=>by
  rw [prim_call (pol:=pol') (g:=61) (F:=spanning61) hp (rs:=[.imm .arg 1 (d.map encR),.int .i64 (f:Int),.agg (ps.map encI)]) (by simp only [mapO,hv,arg_agg]; rfl) (res:=.own 3 ((treeL d ps f).map encE)) (by simp only [spanning61,mpF,mapO_map decR_enc,mapO_map decI_enc]; rw [if_pos ⟨hd,by omega,hs⟩,Int.toNat_natCast]),recv_E]
end Go.Proofs.Ytlendaofkmhgmaa
end
section
open Go Go.HL
namespace Go.Proofs.Ytlendaofkmhgmaa
set_option maxRecDepth 100000
open Go.Proofs.Try renaming prog → Tp
open Go.HL.HV renaming undef → Ud
noncomputable def B50:Code:=Try.f50.body.getD .skip
abbrev env50 (v0 v1 v3 v4 v5 v6 v7 v9 v10 v11 v13 v15 v21 v22 v23 v41 v42 v43 v64 v65:HV):Env:=[(0,v0),(1,v1),(3,v3),(4,v4),(5,v5),(6,v6),(7,v7),(9,v9),(10,v10),(11,v11),(13,v13),(15,v15),(21,v21),(22,v22),(23,v23),(41,v41),(42,v42),(43,v43),(64,v64),(65,v65)]
theorem bo_a_0 (rw ps:List HV) (g0:(if (cellsOf (.agg ps)).all cellV then some (newV (.agg ps) []) else none)=some (.ptr 0 0 0 1,[.arr 11 [.agg ps] true 0])):RT polBo 50 (sub [0] B50) [(0,.imm .arg 1 rw),(1,.agg ps)] [] .normal (env50 (.imm .arg 1 rw) (.agg ps) (.ptr 0 0 0 1) (.i 0) (.ptr 1 0 0 1) Ud Ud Ud Ud Ud Ud Ud Ud Ud Ud Ud Ud Ud Ud Ud) [.arr 11 [.agg ps] true 0,.arr 11 [.agg [.i 0,.i 0,.i 0,.i 0,.i 0,.i 0,.i 0,.i 0,.i 0,.i 0,.i 0]] true 0] :=
  RunsTo.hin 0 60 [⟨0,0,.ptr 0 0 0 1,[.arr 11 [.agg ps] true 0]⟩] fun kf hk=>⟨_,by kernel_rfl,(oC (g0) .nil)⟩
theorem bo_b_0 (rw ps:List HV)  {y6 y7 y9 y10 y11 y13 y15 y21 y22 y23 y41 y42 y43 y64 y65:HV} {m:Nat} {cs:List HV} (g0:loadV Tp [.arr 11 [.agg ps] true 0,.arr 11 [.agg [.i 0,.i 0,.i 0,.i 0,.i 0,.i 0,.i 0,.i 0,.i 0,.i 0,.i 0]] true 0] 66 (.ptr 0 0 0 1)=some (.agg ps)) (g1:∀ kf,callN Tp polBo (kf+1) 61 [.imm .arg 1 rw,.i 1,.agg ps] [.arr 11 [.agg ps] true 0,.arr 11 [.agg [.i 0,.i 0,.i 0,.i 0,.i 0,.i 0,.i 0,.i 0,.i 0,.i 0,.i 0]] true 0]=some (.sl 2 0 m none m 3,[.arr 11 [.agg ps] true 0,.arr 11 [.agg [.i 0,.i 0,.i 0,.i 0,.i 0,.i 0,.i 0,.i 0,.i 0,.i 0,.i 0]] true 0,.arr 3 cs true 0])):RT polBo 50 (sub [1,0] B50) (env50 (.imm .arg 1 rw) (.agg ps) (.ptr 0 0 0 1) (.i 0) (.ptr 1 0 0 1) y6 y7 y9 y10 y11 y13 y15 y21 y22 y23 y41 y42 y43 y64 y65) [.arr 11 [.agg ps] true 0,.arr 11 [.agg [.i 0,.i 0,.i 0,.i 0,.i 0,.i 0,.i 0,.i 0,.i 0,.i 0,.i 0]] true 0] .normal (env50 (.imm .arg 1 rw) (.agg ps) (.ptr 0 0 0 1) (.i 0) (.ptr 1 0 0 1) (.sl 2 0 m none m 3) y7 y9 y10 y11 y13 y15 y21 y22 y23 y41 y42 y43 y64 y65) [.arr 11 [.agg ps] true 0,.arr 11 [.agg [.i 0,.i 0,.i 0,.i 0,.i 0,.i 0,.i 0,.i 0,.i 0,.i 0,.i 0]] true 0,.arr 3 cs true 0] :=
  RunsTo.hin 0 60 [⟨1,1,.agg ps,[.arr 11 [.agg ps] true 0,.arr 11 [.agg [.i 0,.i 0,.i 0,.i 0,.i 0,.i 0,.i 0,.i 0,.i 0,.i 0,.i 0]] true 0]⟩,⟨1,2,.sl 2 0 m none m 3,[.arr 11 [.agg ps] true 0,.arr 11 [.agg [.i 0,.i 0,.i 0,.i 0,.i 0,.i 0,.i 0,.i 0,.i 0,.i 0,.i 0]] true 0,.arr 3 cs true 0]⟩] fun kf hk=>⟨_,by kernel_rfl,(oP [.arr 11 [.agg ps] true 0,.arr 11 [.agg [.i 0,.i 0,.i 0,.i 0,.i 0,.i 0,.i 0,.i 0,.i 0,.i 0,.i 0]] true 0] g0 (oC (g1 kf) .nil))⟩
theorem bo_c_0 (rw ps:List HV) (m:Nat) (cs:List HV) {y7 y9 y10 y11 y13 y15 y21 y22 y23 y41 y42 y43 y64 y65:HV}:RT polBo 50 (sub [1,1,0] B50) (env50 (.imm .arg 1 rw) (.agg ps) (.ptr 0 0 0 1) (.i 0) (.ptr 1 0 0 1) (.sl 2 0 m none m 3) y7 y9 y10 y11 y13 y15 y21 y22 y23 y41 y42 y43 y64 y65) [.arr 11 [.agg ps] true 0,.arr 11 [.agg [.i 0,.i 0,.i 0,.i 0,.i 0,.i 0,.i 0,.i 0,.i 0,.i 0,.i 0]] true 0,.arr 3 cs true 0] .normal (env50 (.imm .arg 1 rw) (.agg ps) (.ptr 0 0 0 1) (.i 0) (.ptr 1 0 0 1) (.sl 2 0 m none m 3) (.i 0) y9 y10 y11 y13 y15 y21 y22 y23 y41 y42 y43 y64 y65) [.arr 11 [.agg ps] true 0,.arr 11 [.agg [.i 0,.i 0,.i 0,.i 0,.i 0,.i 0,.i 0,.i 0,.i 0,.i 0,.i 0]] true 0,.arr 3 cs true 0] :=
  RunsTo.hin 0 60 [] fun kf hk=>⟨_,by kernel_rfl,.nil⟩
theorem bo_d_0 (rw ps:List HV) (m:Nat) (cs:List HV) {y9 y10 y11 y13 y15 y21 y22 y23 y41 y42 y43 y64 y65:HV} {q:Nat} {es:List HV} (g0:loadV Tp [.arr 11 [.agg ps] true 0,.arr 11 [.agg [.i 0,.i 0,.i 0,.i 0,.i 0,.i 0,.i 0,.i 0,.i 0,.i 0,.i 0]] true 0,.arr 3 cs true 0] 66 (.ptr 0 0 0 1)=some (.agg ps)) (g1:∀ kf,callN Tp polBo (kf+1) 70 [.imm .arg 1 rw,.i 0,.agg ps] [.arr 11 [.agg ps] true 0,.arr 11 [.agg [.i 0,.i 0,.i 0,.i 0,.i 0,.i 0,.i 0,.i 0,.i 0,.i 0,.i 0]] true 0,.arr 3 cs true 0]=some (.sl 3 0 q none q 3,[.arr 11 [.agg ps] true 0,.arr 11 [.agg [.i 0,.i 0,.i 0,.i 0,.i 0,.i 0,.i 0,.i 0,.i 0,.i 0,.i 0]] true 0,.arr 3 cs true 0,.arr 3 es true 0])):RT polBo 50 (sub [1,1,1,0,0] B50) (env50 (.imm .arg 1 rw) (.agg ps) (.ptr 0 0 0 1) (.i 0) (.ptr 1 0 0 1) (.sl 2 0 m none m 3) (.i 0) y9 y10 y11 y13 y15 y21 y22 y23 y41 y42 y43 y64 y65) [.arr 11 [.agg ps] true 0,.arr 11 [.agg [.i 0,.i 0,.i 0,.i 0,.i 0,.i 0,.i 0,.i 0,.i 0,.i 0,.i 0]] true 0,.arr 3 cs true 0] .normal (env50 (.imm .arg 1 rw) (.agg ps) (.ptr 0 0 0 1) (.i 0) (.ptr 1 0 0 1) (.sl 2 0 m none m 3) (.i 0) y9 y10 y11 y13 y15 (.sl 3 0 q none q 3) (.i (q:Int)) (.i 0) y41 y42 y43 y64 y65) [.arr 11 [.agg ps] true 0,.arr 11 [.agg [.i 0,.i 0,.i 0,.i 0,.i 0,.i 0,.i 0,.i 0,.i 0,.i 0,.i 0]] true 0,.arr 3 cs true 0,.arr 3 es true 0] :=
  RunsTo.hin 0 60 [⟨3,1,.agg ps,[.arr 11 [.agg ps] true 0,.arr 11 [.agg [.i 0,.i 0,.i 0,.i 0,.i 0,.i 0,.i 0,.i 0,.i 0,.i 0,.i 0]] true 0,.arr 3 cs true 0]⟩,⟨3,2,.sl 3 0 q none q 3,[.arr 11 [.agg ps] true 0,.arr 11 [.agg [.i 0,.i 0,.i 0,.i 0,.i 0,.i 0,.i 0,.i 0,.i 0,.i 0,.i 0]] true 0,.arr 3 cs true 0,.arr 3 es true 0]⟩] fun kf hk=>⟨_,by kernel_rfl,(oP [.arr 11 [.agg ps] true 0,.arr 11 [.agg [.i 0,.i 0,.i 0,.i 0,.i 0,.i 0,.i 0,.i 0,.i 0,.i 0,.i 0]] true 0,.arr 3 cs true 0] g0 (oC (g1 kf) .nil))⟩
theorem bo_e_0 (rw ps:List HV) (m:Nat) (cs:List HV) (q:Nat) (es:List HV) (w i:Nat) (ec:Int) (ea eb:Nat) {y9 y10 y11 y13 y15 y41 y42 y43 y64 y65:HV}(g0:(i:Int) < (q:Int)) (g1:idxV Tp 88 (.sl 3 0 q none q 3) (.i (i:Int))=some (.ptr 3 i 0 q)) (g2:loadV Tp [.arr 11 [.agg ps] true 0,.arr 11 [.agg [.i 0,.i 0,.i 0,.i 0,.i 0,.i 0,.i 0,.i 0,.i 0,.i 0,.i 0]] true 0,.arr 3 cs true 0,.arr 3 es true 0] 91 (.ptr 3 i 0 q)=some (.agg [.i ec,.i (ea:Int),.i (eb:Int)])) (g3:(ea:Int)=0) (g4:(w:Int) < 2) (g5:appV [.arr 11 [.agg ps] true 0,.arr 11 [.agg [.i 0,.i 0,.i 0,.i 0,.i 0,.i 0,.i 0,.i 0,.i 0,.i 0,.i 0]] true 0,.arr 3 cs true 0,.arr 3 es true 0,.arr 3 [.agg [.i ec,.i (ea:Int),.i (eb:Int)]] true 0] 3 24 (.sl 2 0 m none m 3) [.agg [.i ec,.i (ea:Int),.i (eb:Int)]]=some (.sl 2 0 (m+1) none (m+1) 3,[.arr 11 [.agg ps] true 0,.arr 11 [.agg [.i 0,.i 0,.i 0,.i 0,.i 0,.i 0,.i 0,.i 0,.i 0,.i 0,.i 0]] true 0,.arr 3 (cs ++ [.agg [.i ec,.i (ea:Int),.i (eb:Int)]]) true 0,.arr 3 es true 0,.arr 3 [.agg [.i ec,.i (ea:Int),.i (eb:Int)]] true 0])):RT polBo 50 (sub [1,1,1,0,1,0,0] B50) (env50 (.imm .arg 1 rw) (.agg ps) (.ptr 0 0 0 1) (.i 0) (.ptr 1 0 0 1) (.sl 2 0 m none m 3) (.i (w:Int)) y9 y10 y11 y13 y15 (.sl 3 0 q none q 3) (.i (q:Int)) (.i (i:Int)) y41 y42 y43 y64 y65) [.arr 11 [.agg ps] true 0,.arr 11 [.agg [.i 0,.i 0,.i 0,.i 0,.i 0,.i 0,.i 0,.i 0,.i 0,.i 0,.i 0]] true 0,.arr 3 cs true 0,.arr 3 es true 0] .normal (env50 (.imm .arg 1 rw) (.agg ps) (.ptr 0 0 0 1) (.i 0) (.ptr 1 0 0 1) (.sl 2 0 (m+1) none (m+1) 3) (.i (IntKind.i64.wrap ((w:Int)+1))) (.ptr 4 0 0 1) y10 y11 y13 y15 (.sl 3 0 q none q 3) (.i (q:Int)) (.i (IntKind.i64.wrap ((i:Int)+1))) y41 y42 y43 y64 y65) [.arr 11 [.agg ps] true 0,.arr 11 [.agg [.i 0,.i 0,.i 0,.i 0,.i 0,.i 0,.i 0,.i 0,.i 0,.i 0,.i 0]] true 0,.arr 3 (cs ++ [.agg [.i ec,.i (ea:Int),.i (eb:Int)]]) true 0,.arr 3 es true 0,.arr 3 [.agg [.i ec,.i (ea:Int),.i (eb:Int)]] true 0] :=
  RunsTo.hin 0 60 [⟨4,0,.bool true,[.arr 11 [.agg ps] true 0,.arr 11 [.agg [.i 0,.i 0,.i 0,.i 0,.i 0,.i 0,.i 0,.i 0,.i 0,.i 0,.i 0]] true 0,.arr 3 cs true 0,.arr 3 es true 0]⟩,⟨5,0,.ptr 3 i 0 q,[.arr 11 [.agg ps] true 0,.arr 11 [.agg [.i 0,.i 0,.i 0,.i 0,.i 0,.i 0,.i 0,.i 0,.i 0,.i 0,.i 0]] true 0,.arr 3 cs true 0,.arr 3 es true 0]⟩,⟨5,1,.agg [.i ec,.i (ea:Int),.i (eb:Int)],[.arr 11 [.agg ps] true 0,.arr 11 [.agg [.i 0,.i 0,.i 0,.i 0,.i 0,.i 0,.i 0,.i 0,.i 0,.i 0,.i 0]] true 0,.arr 3 cs true 0,.arr 3 es true 0]⟩,⟨6,2,.bool true,[.arr 11 [.agg ps] true 0,.arr 11 [.agg [.i 0,.i 0,.i 0,.i 0,.i 0,.i 0,.i 0,.i 0,.i 0,.i 0,.i 0]] true 0,.arr 3 cs true 0,.arr 3 es true 0,.arr 3 [.agg [.i ec,.i (ea:Int),.i (eb:Int)]] true 0]⟩,⟨6,5,.bool true,[.arr 11 [.agg ps] true 0,.arr 11 [.agg [.i 0,.i 0,.i 0,.i 0,.i 0,.i 0,.i 0,.i 0,.i 0,.i 0,.i 0]] true 0,.arr 3 cs true 0,.arr 3 es true 0,.arr 3 [.agg [.i ec,.i (ea:Int),.i (eb:Int)]] true 0]⟩,⟨7,3,.sl 2 0 (m+1) none (m+1) 3,[.arr 11 [.agg ps] true 0,.arr 11 [.agg [.i 0,.i 0,.i 0,.i 0,.i 0,.i 0,.i 0,.i 0,.i 0,.i 0,.i 0]] true 0,.arr 3 (cs ++ [.agg [.i ec,.i (ea:Int),.i (eb:Int)]]) true 0,.arr 3 es true 0,.arr 3 [.agg [.i ec,.i (ea:Int),.i (eb:Int)]] true 0]⟩] fun kf hk=>⟨_,by kernel_rfl,(oB [.arr 11 [.agg ps] true 0,.arr 11 [.agg [.i 0,.i 0,.i 0,.i 0,.i 0,.i 0,.i 0,.i 0,.i 0,.i 0,.i 0]] true 0,.arr 3 cs true 0,.arr 3 es true 0] (decide_eq_true g0) (oP [.arr 11 [.agg ps] true 0,.arr 11 [.agg [.i 0,.i 0,.i 0,.i 0,.i 0,.i 0,.i 0,.i 0,.i 0,.i 0,.i 0]] true 0,.arr 3 cs true 0,.arr 3 es true 0] g1 (oP [.arr 11 [.agg ps] true 0,.arr 11 [.agg [.i 0,.i 0,.i 0,.i 0,.i 0,.i 0,.i 0,.i 0,.i 0,.i 0,.i 0]] true 0,.arr 3 cs true 0,.arr 3 es true 0] g2 (oB [.arr 11 [.agg ps] true 0,.arr 11 [.agg [.i 0,.i 0,.i 0,.i 0,.i 0,.i 0,.i 0,.i 0,.i 0,.i 0,.i 0]] true 0,.arr 3 cs true 0,.arr 3 es true 0,.arr 3 [.agg [.i ec,.i (ea:Int),.i (eb:Int)]] true 0] (decide_eq_true g3) (oB [.arr 11 [.agg ps] true 0,.arr 11 [.agg [.i 0,.i 0,.i 0,.i 0,.i 0,.i 0,.i 0,.i 0,.i 0,.i 0,.i 0]] true 0,.arr 3 cs true 0,.arr 3 es true 0,.arr 3 [.agg [.i ec,.i (ea:Int),.i (eb:Int)]] true 0] (decide_eq_true g4) (oC (g5) .nil))))))⟩
theorem bo_e_1 (rw ps:List HV) (m:Nat) (cs:List HV) (q:Nat) (es:List HV) (w i:Nat) (ec:Int) (ea eb:Nat) {y9 y10 y11 y13 y15 y41 y42 y43 y64 y65:HV}(g0:(i:Int) < (q:Int)) (g1:idxV Tp 88 (.sl 3 0 q none q 3) (.i (i:Int))=some (.ptr 3 i 0 q)) (g2:loadV Tp [.arr 11 [.agg ps] true 0,.arr 11 [.agg [.i 0,.i 0,.i 0,.i 0,.i 0,.i 0,.i 0,.i 0,.i 0,.i 0,.i 0]] true 0,.arr 3 cs true 0,.arr 3 es true 0] 91 (.ptr 3 i 0 q)=some (.agg [.i ec,.i (ea:Int),.i (eb:Int)])) (g3:(ea:Int)=0) (g4:¬ ((w:Int) < 2)):RT polBo 50 (sub [1,1,1,0,1,0,0] B50) (env50 (.imm .arg 1 rw) (.agg ps) (.ptr 0 0 0 1) (.i 0) (.ptr 1 0 0 1) (.sl 2 0 m none m 3) (.i (w:Int)) y9 y10 y11 y13 y15 (.sl 3 0 q none q 3) (.i (q:Int)) (.i (i:Int)) y41 y42 y43 y64 y65) [.arr 11 [.agg ps] true 0,.arr 11 [.agg [.i 0,.i 0,.i 0,.i 0,.i 0,.i 0,.i 0,.i 0,.i 0,.i 0,.i 0]] true 0,.arr 3 cs true 0,.arr 3 es true 0] .normal (env50 (.imm .arg 1 rw) (.agg ps) (.ptr 0 0 0 1) (.i 0) (.ptr 1 0 0 1) (.sl 2 0 m none m 3) (.i (w:Int)) (.ptr 4 0 0 1) y10 y11 y13 y15 (.sl 3 0 q none q 3) (.i (q:Int)) (.i (IntKind.i64.wrap ((i:Int)+1))) y41 y42 y43 y64 y65) [.arr 11 [.agg ps] true 0,.arr 11 [.agg [.i 0,.i 0,.i 0,.i 0,.i 0,.i 0,.i 0,.i 0,.i 0,.i 0,.i 0]] true 0,.arr 3 cs true 0,.arr 3 es true 0,.arr 3 [.agg [.i ec,.i (ea:Int),.i (eb:Int)]] true 0] :=
  RunsTo.hin 0 60 [⟨4,0,.bool true,[.arr 11 [.agg ps] true 0,.arr 11 [.agg [.i 0,.i 0,.i 0,.i 0,.i 0,.i 0,.i 0,.i 0,.i 0,.i 0,.i 0]] true 0,.arr 3 cs true 0,.arr 3 es true 0]⟩,⟨5,0,.ptr 3 i 0 q,[.arr 11 [.agg ps] true 0,.arr 11 [.agg [.i 0,.i 0,.i 0,.i 0,.i 0,.i 0,.i 0,.i 0,.i 0,.i 0,.i 0]] true 0,.arr 3 cs true 0,.arr 3 es true 0]⟩,⟨5,1,.agg [.i ec,.i (ea:Int),.i (eb:Int)],[.arr 11 [.agg ps] true 0,.arr 11 [.agg [.i 0,.i 0,.i 0,.i 0,.i 0,.i 0,.i 0,.i 0,.i 0,.i 0,.i 0]] true 0,.arr 3 cs true 0,.arr 3 es true 0]⟩,⟨6,2,.bool true,[.arr 11 [.agg ps] true 0,.arr 11 [.agg [.i 0,.i 0,.i 0,.i 0,.i 0,.i 0,.i 0,.i 0,.i 0,.i 0,.i 0]] true 0,.arr 3 cs true 0,.arr 3 es true 0,.arr 3 [.agg [.i ec,.i (ea:Int),.i (eb:Int)]] true 0]⟩,⟨6,5,.bool false,[.arr 11 [.agg ps] true 0,.arr 11 [.agg [.i 0,.i 0,.i 0,.i 0,.i 0,.i 0,.i 0,.i 0,.i 0,.i 0,.i 0]] true 0,.arr 3 cs true 0,.arr 3 es true 0,.arr 3 [.agg [.i ec,.i (ea:Int),.i (eb:Int)]] true 0]⟩] fun kf hk=>⟨_,by kernel_rfl,(oB [.arr 11 [.agg ps] true 0,.arr 11 [.agg [.i 0,.i 0,.i 0,.i 0,.i 0,.i 0,.i 0,.i 0,.i 0,.i 0,.i 0]] true 0,.arr 3 cs true 0,.arr 3 es true 0] (decide_eq_true g0) (oP [.arr 11 [.agg ps] true 0,.arr 11 [.agg [.i 0,.i 0,.i 0,.i 0,.i 0,.i 0,.i 0,.i 0,.i 0,.i 0,.i 0]] true 0,.arr 3 cs true 0,.arr 3 es true 0] g1 (oP [.arr 11 [.agg ps] true 0,.arr 11 [.agg [.i 0,.i 0,.i 0,.i 0,.i 0,.i 0,.i 0,.i 0,.i 0,.i 0,.i 0]] true 0,.arr 3 cs true 0,.arr 3 es true 0] g2 (oB [.arr 11 [.agg ps] true 0,.arr 11 [.agg [.i 0,.i 0,.i 0,.i 0,.i 0,.i 0,.i 0,.i 0,.i 0,.i 0,.i 0]] true 0,.arr 3 cs true 0,.arr 3 es true 0,.arr 3 [.agg [.i ec,.i (ea:Int),.i (eb:Int)]] true 0] (decide_eq_true g3) (oB [.arr 11 [.agg ps] true 0,.arr 11 [.agg [.i 0,.i 0,.i 0,.i 0,.i 0,.i 0,.i 0,.i 0,.i 0,.i 0,.i 0]] true 0,.arr 3 cs true 0,.arr 3 es true 0,.arr 3 [.agg [.i ec,.i (ea:Int),.i (eb:Int)]] true 0] (decide_eq_false g4) .nil)))))⟩
theorem bo_e_2 (rw ps:List HV) (m:Nat) (cs:List HV) (q:Nat) (es:List HV) (w i:Nat) (ec:Int) (ea eb:Nat) {y9 y10 y11 y13 y15 y41 y42 y43 y64 y65:HV}(g0:(i:Int) < (q:Int)) (g1:idxV Tp 88 (.sl 3 0 q none q 3) (.i (i:Int))=some (.ptr 3 i 0 q)) (g2:loadV Tp [.arr 11 [.agg ps] true 0,.arr 11 [.agg [.i 0,.i 0,.i 0,.i 0,.i 0,.i 0,.i 0,.i 0,.i 0,.i 0,.i 0]] true 0,.arr 3 cs true 0,.arr 3 es true 0] 91 (.ptr 3 i 0 q)=some (.agg [.i ec,.i (ea:Int),.i (eb:Int)])) (g3:¬ ((ea:Int)=0)):RT polBo 50 (sub [1,1,1,0,1,0,0] B50) (env50 (.imm .arg 1 rw) (.agg ps) (.ptr 0 0 0 1) (.i 0) (.ptr 1 0 0 1) (.sl 2 0 m none m 3) (.i (w:Int)) y9 y10 y11 y13 y15 (.sl 3 0 q none q 3) (.i (q:Int)) (.i (i:Int)) y41 y42 y43 y64 y65) [.arr 11 [.agg ps] true 0,.arr 11 [.agg [.i 0,.i 0,.i 0,.i 0,.i 0,.i 0,.i 0,.i 0,.i 0,.i 0,.i 0]] true 0,.arr 3 cs true 0,.arr 3 es true 0] .normal (env50 (.imm .arg 1 rw) (.agg ps) (.ptr 0 0 0 1) (.i 0) (.ptr 1 0 0 1) (.sl 2 0 m none m 3) (.i (w:Int)) (.ptr 4 0 0 1) y10 y11 y13 y15 (.sl 3 0 q none q 3) (.i (q:Int)) (.i (IntKind.i64.wrap ((i:Int)+1))) y41 y42 y43 y64 y65) [.arr 11 [.agg ps] true 0,.arr 11 [.agg [.i 0,.i 0,.i 0,.i 0,.i 0,.i 0,.i 0,.i 0,.i 0,.i 0,.i 0]] true 0,.arr 3 cs true 0,.arr 3 es true 0,.arr 3 [.agg [.i ec,.i (ea:Int),.i (eb:Int)]] true 0] :=
  RunsTo.hin 0 60 [⟨4,0,.bool true,[.arr 11 [.agg ps] true 0,.arr 11 [.agg [.i 0,.i 0,.i 0,.i 0,.i 0,.i 0,.i 0,.i 0,.i 0,.i 0,.i 0]] true 0,.arr 3 cs true 0,.arr 3 es true 0]⟩,⟨5,0,.ptr 3 i 0 q,[.arr 11 [.agg ps] true 0,.arr 11 [.agg [.i 0,.i 0,.i 0,.i 0,.i 0,.i 0,.i 0,.i 0,.i 0,.i 0,.i 0]] true 0,.arr 3 cs true 0,.arr 3 es true 0]⟩,⟨5,1,.agg [.i ec,.i (ea:Int),.i (eb:Int)],[.arr 11 [.agg ps] true 0,.arr 11 [.agg [.i 0,.i 0,.i 0,.i 0,.i 0,.i 0,.i 0,.i 0,.i 0,.i 0,.i 0]] true 0,.arr 3 cs true 0,.arr 3 es true 0]⟩,⟨6,2,.bool false,[.arr 11 [.agg ps] true 0,.arr 11 [.agg [.i 0,.i 0,.i 0,.i 0,.i 0,.i 0,.i 0,.i 0,.i 0,.i 0,.i 0]] true 0,.arr 3 cs true 0,.arr 3 es true 0,.arr 3 [.agg [.i ec,.i (ea:Int),.i (eb:Int)]] true 0]⟩] fun kf hk=>⟨_,by kernel_rfl,(oB [.arr 11 [.agg ps] true 0,.arr 11 [.agg [.i 0,.i 0,.i 0,.i 0,.i 0,.i 0,.i 0,.i 0,.i 0,.i 0,.i 0]] true 0,.arr 3 cs true 0,.arr 3 es true 0] (decide_eq_true g0) (oP [.arr 11 [.agg ps] true 0,.arr 11 [.agg [.i 0,.i 0,.i 0,.i 0,.i 0,.i 0,.i 0,.i 0,.i 0,.i 0,.i 0]] true 0,.arr 3 cs true 0,.arr 3 es true 0] g1 (oP [.arr 11 [.agg ps] true 0,.arr 11 [.agg [.i 0,.i 0,.i 0,.i 0,.i 0,.i 0,.i 0,.i 0,.i 0,.i 0,.i 0]] true 0,.arr 3 cs true 0,.arr 3 es true 0] g2 (oB [.arr 11 [.agg ps] true 0,.arr 11 [.agg [.i 0,.i 0,.i 0,.i 0,.i 0,.i 0,.i 0,.i 0,.i 0,.i 0,.i 0]] true 0,.arr 3 cs true 0,.arr 3 es true 0,.arr 3 [.agg [.i ec,.i (ea:Int),.i (eb:Int)]] true 0] (decide_eq_false g3) .nil))))⟩
theorem bo_e_3 (rw ps:List HV) (m:Nat) (cs:List HV) (q:Nat) (es:List HV) (w i:Nat) (ec:Int) (ea eb:Nat) {y9 y10 y11 y13 y15 y41 y42 y43 y64 y65:HV}(g0:¬ ((i:Int) < (q:Int))):RT polBo 50 (sub [1,1,1,0,1,0,0] B50) (env50 (.imm .arg 1 rw) (.agg ps) (.ptr 0 0 0 1) (.i 0) (.ptr 1 0 0 1) (.sl 2 0 m none m 3) (.i (w:Int)) y9 y10 y11 y13 y15 (.sl 3 0 q none q 3) (.i (q:Int)) (.i (i:Int)) y41 y42 y43 y64 y65) [.arr 11 [.agg ps] true 0,.arr 11 [.agg [.i 0,.i 0,.i 0,.i 0,.i 0,.i 0,.i 0,.i 0,.i 0,.i 0,.i 0]] true 0,.arr 3 cs true 0,.arr 3 es true 0] (.exit 0) (env50 (.imm .arg 1 rw) (.agg ps) (.ptr 0 0 0 1) (.i 0) (.ptr 1 0 0 1) (.sl 2 0 m none m 3) (.i (w:Int)) y9 y10 y11 y13 y15 (.sl 3 0 q none q 3) (.i (q:Int)) (.i (i:Int)) y41 y42 y43 y64 y65) [.arr 11 [.agg ps] true 0,.arr 11 [.agg [.i 0,.i 0,.i 0,.i 0,.i 0,.i 0,.i 0,.i 0,.i 0,.i 0,.i 0]] true 0,.arr 3 cs true 0,.arr 3 es true 0] :=
  RunsTo.hin 0 60 [⟨4,0,.bool false,[.arr 11 [.agg ps] true 0,.arr 11 [.agg [.i 0,.i 0,.i 0,.i 0,.i 0,.i 0,.i 0,.i 0,.i 0,.i 0,.i 0]] true 0,.arr 3 cs true 0,.arr 3 es true 0]⟩] fun kf hk=>⟨_,by kernel_rfl,(oB [.arr 11 [.agg ps] true 0,.arr 11 [.agg [.i 0,.i 0,.i 0,.i 0,.i 0,.i 0,.i 0,.i 0,.i 0,.i 0,.i 0]] true 0,.arr 3 cs true 0,.arr 3 es true 0] (decide_eq_false g0) .nil)⟩
theorem bo_f_0 (rw ps:List HV) (m:Nat) (cs:List HV) (q:Nat) (es:List HV) {y7 y9 y10 y11 y13 y15 y21 y22 y23 y41 y42 y43 y64 y65:HV}:RT polBo 50 (sub [1,1,1,1,0] B50) (env50 (.imm .arg 1 rw) (.agg ps) (.ptr 0 0 0 1) (.i 0) (.ptr 1 0 0 1) (.sl 2 0 m none m 3) y7 y9 y10 y11 y13 y15 y21 y22 y23 y41 y42 y43 y64 y65) [.arr 11 [.agg ps] true 0,.arr 11 [.agg [.i 0,.i 0,.i 0,.i 0,.i 0,.i 0,.i 0,.i 0,.i 0,.i 0,.i 0]] true 0,.arr 3 cs true 0,.arr 3 es true 0] .normal (env50 (.imm .arg 1 rw) (.agg ps) (.ptr 0 0 0 1) (.i 0) (.ptr 1 0 0 1) (.sl 2 0 m none m 3) y7 y9 (.i 0) y11 y13 y15 y21 y22 y23 y41 y42 y43 y64 y65) [.arr 11 [.agg ps] true 0,.arr 11 [.agg [.i 0,.i 0,.i 0,.i 0,.i 0,.i 0,.i 0,.i 0,.i 0,.i 0,.i 0]] true 0,.arr 3 cs true 0,.arr 3 es true 0] :=
  RunsTo.hin 0 60 [] fun kf hk=>⟨_,by kernel_rfl,.nil⟩
theorem bo_g_0 (rw ps:List HV) (m:Nat) (cs:List HV) (q:Nat) (es:List HV) {y7 y9 y11 y13 y15 y21 y22 y23 y41 y42 y43 y64 y65:HV}:RT polBo 50 (sub [1,1,1,1,1,0] B50) (env50 (.imm .arg 1 rw) (.agg ps) (.ptr 0 0 0 1) (.i 0) (.ptr 1 0 0 1) (.sl 2 0 m none m 3) y7 y9 (.i 0) y11 y13 y15 y21 y22 y23 y41 y42 y43 y64 y65) [.arr 11 [.agg ps] true 0,.arr 11 [.agg [.i 0,.i 0,.i 0,.i 0,.i 0,.i 0,.i 0,.i 0,.i 0,.i 0,.i 0]] true 0,.arr 3 cs true 0,.arr 3 es true 0] .normal (env50 (.imm .arg 1 rw) (.agg ps) (.ptr 0 0 0 1) (.i 0) (.ptr 1 0 0 1) (.sl 2 0 m none m 3) y7 y9 (.i 0) (.ptr 4 0 0 1) y13 y15 y21 y22 y23 y41 y42 y43 y64 y65) [.arr 11 [.agg ps] true 0,.arr 11 [.agg [.i 0,.i 0,.i 0,.i 0,.i 0,.i 0,.i 0,.i 0,.i 0,.i 0,.i 0]] true 0,.arr 3 cs true 0,.arr 3 es true 0,.arr 11 [.agg [.i 0,.i 0,.i 0,.i 0,.i 0,.i 0,.i 0,.i 0,.i 0,.i 0,.i 0]] true 0] :=
  RunsTo.hin 0 60 [] fun kf hk=>⟨_,by kernel_rfl,.nil⟩
theorem bo_h_0 (rw ps:List HV) (m:Nat) (cs:List HV) (q:Nat) (es:List HV) (aa:List HV) {y7 y9 y13 y15 y21 y22 y23 y41 y42 y43 y64 y65:HV}:RT polBo 50 (sub [1,1,1,1,1,1,0,0] B50) (env50 (.imm .arg 1 rw) (.agg ps) (.ptr 0 0 0 1) (.i 0) (.ptr 1 0 0 1) (.sl 2 0 m none m 3) y7 y9 (.i 0) (.ptr 4 0 0 1) y13 y15 y21 y22 y23 y41 y42 y43 y64 y65) [.arr 11 [.agg ps] true 0,.arr 11 [.agg [.i 0,.i 0,.i 0,.i 0,.i 0,.i 0,.i 0,.i 0,.i 0,.i 0,.i 0]] true 0,.arr 3 cs true 0,.arr 3 es true 0,.arr 11 [.agg aa] true 0] .normal (env50 (.imm .arg 1 rw) (.agg ps) (.ptr 0 0 0 1) (.i 0) (.ptr 1 0 0 1) (.sl 2 0 m none m 3) y7 y9 (.i 0) (.ptr 4 0 0 1) y13 y15 y21 y22 y23 (.sl 2 0 m none m 3) (.i (m:Int)) (.i 0) y64 y65) [.arr 11 [.agg ps] true 0,.arr 11 [.agg [.i 0,.i 0,.i 0,.i 0,.i 0,.i 0,.i 0,.i 0,.i 0,.i 0,.i 0]] true 0,.arr 3 cs true 0,.arr 3 es true 0,.arr 11 [.agg aa] true 0] :=
  RunsTo.hin 0 60 [] fun kf hk=>⟨_,by kernel_rfl,.nil⟩
theorem bo_i_0 (rw ps:List HV) (m:Nat) (cs:List HV) (q:Nat) (es:List HV) (aa:List HV) (sm:Int) (i:Nat) (ec:Int) (ea eb:Nat) {y6 y7 y9 y13 y15 y21 y22 y23 y64 y65:HV} {x0:Int} {cs0:List HV} {x1:Int} {cs1:List HV} (g0:(i:Int) < (m:Int)) (g1:idxV Tp 88 (.sl 2 0 m none m 3) (.i (i:Int))=some (.ptr 2 i 0 m)) (g2:loadV Tp [.arr 11 [.agg ps] true 0,.arr 11 [.agg [.i 0,.i 0,.i 0,.i 0,.i 0,.i 0,.i 0,.i 0,.i 0,.i 0,.i 0]] true 0,.arr 3 cs true 0,.arr 3 es true 0,.arr 11 [.agg aa] true 0] 91 (.ptr 2 i 0 m)=some (.agg [.i ec,.i (ea:Int),.i (eb:Int)])) (g3:idxV Tp 66 (.ptr 4 0 0 1) (.i (ea:Int))=some (.ptr 4 0 ea 1)) (g4:loadV Tp [.arr 11 [.agg ps] true 0,.arr 11 [.agg [.i 0,.i 0,.i 0,.i 0,.i 0,.i 0,.i 0,.i 0,.i 0,.i 0,.i 0]] true 0,.arr 3 cs true 0,.arr 3 es true 0,.arr 11 [.agg aa] true 0,.arr 3 [.agg [.i ec,.i (ea:Int),.i (eb:Int)]] true 0] 3 (.ptr 4 0 ea 1)=some (.i x0)) (g5:idxV Tp 66 (.ptr 4 0 0 1) (.i (ea:Int))=some (.ptr 4 0 ea 1)) (g6:storeV Tp [.arr 11 [.agg ps] true 0,.arr 11 [.agg [.i 0,.i 0,.i 0,.i 0,.i 0,.i 0,.i 0,.i 0,.i 0,.i 0,.i 0]] true 0,.arr 3 cs true 0,.arr 3 es true 0,.arr 11 [.agg aa] true 0,.arr 3 [.agg [.i ec,.i (ea:Int),.i (eb:Int)]] true 0] 3 (.ptr 4 0 ea 1) (.i (IntKind.i64.wrap (x0+1)))=some [.arr 11 [.agg ps] true 0,.arr 11 [.agg [.i 0,.i 0,.i 0,.i 0,.i 0,.i 0,.i 0,.i 0,.i 0,.i 0,.i 0]] true 0,.arr 3 cs true 0,.arr 3 es true 0,.arr 11 [.agg cs0] true 0,.arr 3 [.agg [.i ec,.i (ea:Int),.i (eb:Int)]] true 0]) (g7:idxV Tp 66 (.ptr 4 0 0 1) (.i (eb:Int))=some (.ptr 4 0 eb 1)) (g8:loadV Tp [.arr 11 [.agg ps] true 0,.arr 11 [.agg [.i 0,.i 0,.i 0,.i 0,.i 0,.i 0,.i 0,.i 0,.i 0,.i 0,.i 0]] true 0,.arr 3 cs true 0,.arr 3 es true 0,.arr 11 [.agg cs0] true 0,.arr 3 [.agg [.i ec,.i (ea:Int),.i (eb:Int)]] true 0] 3 (.ptr 4 0 eb 1)=some (.i x1)) (g9:idxV Tp 66 (.ptr 4 0 0 1) (.i (eb:Int))=some (.ptr 4 0 eb 1)) (g10:storeV Tp [.arr 11 [.agg ps] true 0,.arr 11 [.agg [.i 0,.i 0,.i 0,.i 0,.i 0,.i 0,.i 0,.i 0,.i 0,.i 0,.i 0]] true 0,.arr 3 cs true 0,.arr 3 es true 0,.arr 11 [.agg cs0] true 0,.arr 3 [.agg [.i ec,.i (ea:Int),.i (eb:Int)]] true 0] 3 (.ptr 4 0 eb 1) (.i (IntKind.i64.wrap (x1+1)))=some [.arr 11 [.agg ps] true 0,.arr 11 [.agg [.i 0,.i 0,.i 0,.i 0,.i 0,.i 0,.i 0,.i 0,.i 0,.i 0,.i 0]] true 0,.arr 3 cs true 0,.arr 3 es true 0,.arr 11 [.agg cs1] true 0,.arr 3 [.agg [.i ec,.i (ea:Int),.i (eb:Int)]] true 0]):RT polBo 50 (sub [1,1,1,1,1,1,0,1,0,0] B50) (env50 (.imm .arg 1 rw) (.agg ps) (.ptr 0 0 0 1) (.i 0) (.ptr 1 0 0 1) y6 y7 y9 (.i sm) (.ptr 4 0 0 1) y13 y15 y21 y22 y23 (.sl 2 0 m none m 3) (.i (m:Int)) (.i (i:Int)) y64 y65) [.arr 11 [.agg ps] true 0,.arr 11 [.agg [.i 0,.i 0,.i 0,.i 0,.i 0,.i 0,.i 0,.i 0,.i 0,.i 0,.i 0]] true 0,.arr 3 cs true 0,.arr 3 es true 0,.arr 11 [.agg aa] true 0] .normal (env50 (.imm .arg 1 rw) (.agg ps) (.ptr 0 0 0 1) (.i 0) (.ptr 1 0 0 1) y6 y7 y9 (.i (IntKind.i64.wrap (sm+ec))) (.ptr 4 0 0 1) (.ptr 5 0 0 1) y15 y21 y22 y23 (.sl 2 0 m none m 3) (.i (m:Int)) (.i (IntKind.i64.wrap ((i:Int)+1))) y64 y65) [.arr 11 [.agg ps] true 0,.arr 11 [.agg [.i 0,.i 0,.i 0,.i 0,.i 0,.i 0,.i 0,.i 0,.i 0,.i 0,.i 0]] true 0,.arr 3 cs true 0,.arr 3 es true 0,.arr 11 [.agg cs1] true 0,.arr 3 [.agg [.i ec,.i (ea:Int),.i (eb:Int)]] true 0] :=
  RunsTo.hin 0 60 [⟨13,0,.bool true,[.arr 11 [.agg ps] true 0,.arr 11 [.agg [.i 0,.i 0,.i 0,.i 0,.i 0,.i 0,.i 0,.i 0,.i 0,.i 0,.i 0]] true 0,.arr 3 cs true 0,.arr 3 es true 0,.arr 11 [.agg aa] true 0]⟩,⟨14,0,.ptr 2 i 0 m,[.arr 11 [.agg ps] true 0,.arr 11 [.agg [.i 0,.i 0,.i 0,.i 0,.i 0,.i 0,.i 0,.i 0,.i 0,.i 0,.i 0]] true 0,.arr 3 cs true 0,.arr 3 es true 0,.arr 11 [.agg aa] true 0]⟩,⟨14,1,.agg [.i ec,.i (ea:Int),.i (eb:Int)],[.arr 11 [.agg ps] true 0,.arr 11 [.agg [.i 0,.i 0,.i 0,.i 0,.i 0,.i 0,.i 0,.i 0,.i 0,.i 0,.i 0]] true 0,.arr 3 cs true 0,.arr 3 es true 0,.arr 11 [.agg aa] true 0]⟩,⟨16,2,.ptr 4 0 ea 1,[.arr 11 [.agg ps] true 0,.arr 11 [.agg [.i 0,.i 0,.i 0,.i 0,.i 0,.i 0,.i 0,.i 0,.i 0,.i 0,.i 0]] true 0,.arr 3 cs true 0,.arr 3 es true 0,.arr 11 [.agg aa] true 0,.arr 3 [.agg [.i ec,.i (ea:Int),.i (eb:Int)]] true 0]⟩,⟨16,3,.i x0,[.arr 11 [.agg ps] true 0,.arr 11 [.agg [.i 0,.i 0,.i 0,.i 0,.i 0,.i 0,.i 0,.i 0,.i 0,.i 0,.i 0]] true 0,.arr 3 cs true 0,.arr 3 es true 0,.arr 11 [.agg aa] true 0,.arr 3 [.agg [.i ec,.i (ea:Int),.i (eb:Int)]] true 0]⟩,⟨16,5,.ptr 4 0 ea 1,[.arr 11 [.agg ps] true 0,.arr 11 [.agg [.i 0,.i 0,.i 0,.i 0,.i 0,.i 0,.i 0,.i 0,.i 0,.i 0,.i 0]] true 0,.arr 3 cs true 0,.arr 3 es true 0,.arr 11 [.agg aa] true 0,.arr 3 [.agg [.i ec,.i (ea:Int),.i (eb:Int)]] true 0]⟩,⟨16,6,.tuple [],[.arr 11 [.agg ps] true 0,.arr 11 [.agg [.i 0,.i 0,.i 0,.i 0,.i 0,.i 0,.i 0,.i 0,.i 0,.i 0,.i 0]] true 0,.arr 3 cs true 0,.arr 3 es true 0,.arr 11 [.agg cs0] true 0,.arr 3 [.agg [.i ec,.i (ea:Int),.i (eb:Int)]] true 0]⟩,⟨17,2,.ptr 4 0 eb 1,[.arr 11 [.agg ps] true 0,.arr 11 [.agg [.i 0,.i 0,.i 0,.i 0,.i 0,.i 0,.i 0,.i 0,.i 0,.i 0,.i 0]] true 0,.arr 3 cs true 0,.arr 3 es true 0,.arr 11 [.agg cs0] true 0,.arr 3 [.agg [.i ec,.i (ea:Int),.i (eb:Int)]] true 0]⟩,⟨17,3,.i x1,[.arr 11 [.agg ps] true 0,.arr 11 [.agg [.i 0,.i 0,.i 0,.i 0,.i 0,.i 0,.i 0,.i 0,.i 0,.i 0,.i 0]] true 0,.arr 3 cs true 0,.arr 3 es true 0,.arr 11 [.agg cs0] true 0,.arr 3 [.agg [.i ec,.i (ea:Int),.i (eb:Int)]] true 0]⟩,⟨17,5,.ptr 4 0 eb 1,[.arr 11 [.agg ps] true 0,.arr 11 [.agg [.i 0,.i 0,.i 0,.i 0,.i 0,.i 0,.i 0,.i 0,.i 0,.i 0,.i 0]] true 0,.arr 3 cs true 0,.arr 3 es true 0,.arr 11 [.agg cs0] true 0,.arr 3 [.agg [.i ec,.i (ea:Int),.i (eb:Int)]] true 0]⟩,⟨17,6,.tuple [],[.arr 11 [.agg ps] true 0,.arr 11 [.agg [.i 0,.i 0,.i 0,.i 0,.i 0,.i 0,.i 0,.i 0,.i 0,.i 0,.i 0]] true 0,.arr 3 cs true 0,.arr 3 es true 0,.arr 11 [.agg cs1] true 0,.arr 3 [.agg [.i ec,.i (ea:Int),.i (eb:Int)]] true 0]⟩] fun kf hk=>⟨_,by kernel_rfl,(oB [.arr 11 [.agg ps] true 0,.arr 11 [.agg [.i 0,.i 0,.i 0,.i 0,.i 0,.i 0,.i 0,.i 0,.i 0,.i 0,.i 0]] true 0,.arr 3 cs true 0,.arr 3 es true 0,.arr 11 [.agg aa] true 0] (decide_eq_true g0) (oP [.arr 11 [.agg ps] true 0,.arr 11 [.agg [.i 0,.i 0,.i 0,.i 0,.i 0,.i 0,.i 0,.i 0,.i 0,.i 0,.i 0]] true 0,.arr 3 cs true 0,.arr 3 es true 0,.arr 11 [.agg aa] true 0] g1 (oP [.arr 11 [.agg ps] true 0,.arr 11 [.agg [.i 0,.i 0,.i 0,.i 0,.i 0,.i 0,.i 0,.i 0,.i 0,.i 0,.i 0]] true 0,.arr 3 cs true 0,.arr 3 es true 0,.arr 11 [.agg aa] true 0] g2 (oP [.arr 11 [.agg ps] true 0,.arr 11 [.agg [.i 0,.i 0,.i 0,.i 0,.i 0,.i 0,.i 0,.i 0,.i 0,.i 0,.i 0]] true 0,.arr 3 cs true 0,.arr 3 es true 0,.arr 11 [.agg aa] true 0,.arr 3 [.agg [.i ec,.i (ea:Int),.i (eb:Int)]] true 0] g3 (oP [.arr 11 [.agg ps] true 0,.arr 11 [.agg [.i 0,.i 0,.i 0,.i 0,.i 0,.i 0,.i 0,.i 0,.i 0,.i 0,.i 0]] true 0,.arr 3 cs true 0,.arr 3 es true 0,.arr 11 [.agg aa] true 0,.arr 3 [.agg [.i ec,.i (ea:Int),.i (eb:Int)]] true 0] g4 (oP [.arr 11 [.agg ps] true 0,.arr 11 [.agg [.i 0,.i 0,.i 0,.i 0,.i 0,.i 0,.i 0,.i 0,.i 0,.i 0,.i 0]] true 0,.arr 3 cs true 0,.arr 3 es true 0,.arr 11 [.agg aa] true 0,.arr 3 [.agg [.i ec,.i (ea:Int),.i (eb:Int)]] true 0] g5 (oS g6 (oP [.arr 11 [.agg ps] true 0,.arr 11 [.agg [.i 0,.i 0,.i 0,.i 0,.i 0,.i 0,.i 0,.i 0,.i 0,.i 0,.i 0]] true 0,.arr 3 cs true 0,.arr 3 es true 0,.arr 11 [.agg cs0] true 0,.arr 3 [.agg [.i ec,.i (ea:Int),.i (eb:Int)]] true 0] g7 (oP [.arr 11 [.agg ps] true 0,.arr 11 [.agg [.i 0,.i 0,.i 0,.i 0,.i 0,.i 0,.i 0,.i 0,.i 0,.i 0,.i 0]] true 0,.arr 3 cs true 0,.arr 3 es true 0,.arr 11 [.agg cs0] true 0,.arr 3 [.agg [.i ec,.i (ea:Int),.i (eb:Int)]] true 0] g8 (oP [.arr 11 [.agg ps] true 0,.arr 11 [.agg [.i 0,.i 0,.i 0,.i 0,.i 0,.i 0,.i 0,.i 0,.i 0,.i 0,.i 0]] true 0,.arr 3 cs true 0,.arr 3 es true 0,.arr 11 [.agg cs0] true 0,.arr 3 [.agg [.i ec,.i (ea:Int),.i (eb:Int)]] true 0] g9 (oS g10 .nil)))))))))))⟩
theorem bo_i_1 (rw ps:List HV) (m:Nat) (cs:List HV) (q:Nat) (es:List HV) (aa:List HV) (sm:Int) (i:Nat) (ec:Int) (ea eb:Nat) {y6 y7 y9 y13 y15 y21 y22 y23 y64 y65:HV}(g0:¬ ((i:Int) < (m:Int))):RT polBo 50 (sub [1,1,1,1,1,1,0,1,0,0] B50) (env50 (.imm .arg 1 rw) (.agg ps) (.ptr 0 0 0 1) (.i 0) (.ptr 1 0 0 1) y6 y7 y9 (.i sm) (.ptr 4 0 0 1) y13 y15 y21 y22 y23 (.sl 2 0 m none m 3) (.i (m:Int)) (.i (i:Int)) y64 y65) [.arr 11 [.agg ps] true 0,.arr 11 [.agg [.i 0,.i 0,.i 0,.i 0,.i 0,.i 0,.i 0,.i 0,.i 0,.i 0,.i 0]] true 0,.arr 3 cs true 0,.arr 3 es true 0,.arr 11 [.agg aa] true 0] (.exit 2) (env50 (.imm .arg 1 rw) (.agg ps) (.ptr 0 0 0 1) (.i 0) (.ptr 1 0 0 1) y6 y7 y9 (.i sm) (.ptr 4 0 0 1) y13 y15 y21 y22 y23 (.sl 2 0 m none m 3) (.i (m:Int)) (.i (i:Int)) y64 y65) [.arr 11 [.agg ps] true 0,.arr 11 [.agg [.i 0,.i 0,.i 0,.i 0,.i 0,.i 0,.i 0,.i 0,.i 0,.i 0,.i 0]] true 0,.arr 3 cs true 0,.arr 3 es true 0,.arr 11 [.agg aa] true 0] :=
  RunsTo.hin 0 60 [⟨13,0,.bool false,[.arr 11 [.agg ps] true 0,.arr 11 [.agg [.i 0,.i 0,.i 0,.i 0,.i 0,.i 0,.i 0,.i 0,.i 0,.i 0,.i 0]] true 0,.arr 3 cs true 0,.arr 3 es true 0,.arr 11 [.agg aa] true 0]⟩] fun kf hk=>⟨_,by kernel_rfl,(oB [.arr 11 [.agg ps] true 0,.arr 11 [.agg [.i 0,.i 0,.i 0,.i 0,.i 0,.i 0,.i 0,.i 0,.i 0,.i 0,.i 0]] true 0,.arr 3 cs true 0,.arr 3 es true 0,.arr 11 [.agg aa] true 0] (decide_eq_false g0) .nil)⟩
theorem bo_j_0 (rw ps:List HV) (m:Nat) (cs:List HV) (q:Nat) (es:List HV) (aa:List HV) (sm:Int) {y6 y7 y9 y13 y15 y21 y22 y23 y41 y42 y43 y64 y65:HV}(g0:loadV Tp [.arr 11 [.agg ps] true 0,.arr 11 [.agg [.i 0,.i 0,.i 0,.i 0,.i 0,.i 0,.i 0,.i 0,.i 0,.i 0,.i 0]] true 0,.arr 3 cs true 0,.arr 3 es true 0,.arr 11 [.agg aa] true 0] 66 (.ptr 0 0 0 1)=some (.agg ps)):RT polBo 50 (sub [1,1,1,1,1,1,1,0,0] B50) (env50 (.imm .arg 1 rw) (.agg ps) (.ptr 0 0 0 1) (.i 0) (.ptr 1 0 0 1) y6 y7 y9 (.i sm) (.ptr 4 0 0 1) y13 y15 y21 y22 y23 y41 y42 y43 y64 y65) [.arr 11 [.agg ps] true 0,.arr 11 [.agg [.i 0,.i 0,.i 0,.i 0,.i 0,.i 0,.i 0,.i 0,.i 0,.i 0,.i 0]] true 0,.arr 3 cs true 0,.arr 3 es true 0,.arr 11 [.agg aa] true 0] .normal (env50 (.imm .arg 1 rw) (.agg ps) (.ptr 0 0 0 1) (.i 0) (.ptr 1 0 0 1) y6 y7 y9 (.i sm) (.ptr 4 0 0 1) y13 y15 y21 y22 y23 y41 y42 y43 (.agg ps) (.i 0)) [.arr 11 [.agg ps] true 0,.arr 11 [.agg [.i 0,.i 0,.i 0,.i 0,.i 0,.i 0,.i 0,.i 0,.i 0,.i 0,.i 0]] true 0,.arr 3 cs true 0,.arr 3 es true 0,.arr 11 [.agg aa] true 0] :=
  RunsTo.hin 0 60 [⟨19,0,.agg ps,[.arr 11 [.agg ps] true 0,.arr 11 [.agg [.i 0,.i 0,.i 0,.i 0,.i 0,.i 0,.i 0,.i 0,.i 0,.i 0,.i 0]] true 0,.arr 3 cs true 0,.arr 3 es true 0,.arr 11 [.agg aa] true 0]⟩] fun kf hk=>⟨_,by kernel_rfl,(oP [.arr 11 [.agg ps] true 0,.arr 11 [.agg [.i 0,.i 0,.i 0,.i 0,.i 0,.i 0,.i 0,.i 0,.i 0,.i 0,.i 0]] true 0,.arr 3 cs true 0,.arr 3 es true 0,.arr 11 [.agg aa] true 0] g0 .nil)⟩
theorem bo_k_0 (rw ps:List HV) (m:Nat) (cs:List HV) (q:Nat) (es:List HV) (aa:List HV) (sm:Int) (i:Nat) {y3 y6 y7 y9 y13 y15 y21 y22 y23 y41 y42 y43:HV} {x0:Int} (g0:(i:Int) < 11) (g1:elemV Tp 66 (.agg ps) (.i (i:Int))=some (.i x0)):RT polBo 50 (sub [1,1,1,1,1,1,1,0,1,0,0] B50) (env50 (.imm .arg 1 rw) (.agg ps) y3 (.i 0) (.ptr 1 0 0 1) y6 y7 y9 (.i sm) (.ptr 4 0 0 1) y13 y15 y21 y22 y23 y41 y42 y43 (.agg ps) (.i (i:Int))) [.arr 11 [.agg ps] true 0,.arr 11 [.agg [.i 0,.i 0,.i 0,.i 0,.i 0,.i 0,.i 0,.i 0,.i 0,.i 0,.i 0]] true 0,.arr 3 cs true 0,.arr 3 es true 0,.arr 11 [.agg aa] true 0] .normal (env50 (.imm .arg 1 rw) (.agg ps) y3 (.i 0) (.ptr 1 0 0 1) y6 y7 y9 (.i (IntKind.i64.wrap (sm - IntKind.i64.wrap (2 * x0)))) (.ptr 4 0 0 1) y13 (.i x0) y21 y22 y23 y41 y42 y43 (.agg ps) (.i (IntKind.i64.wrap ((i:Int)+1)))) [.arr 11 [.agg ps] true 0,.arr 11 [.agg [.i 0,.i 0,.i 0,.i 0,.i 0,.i 0,.i 0,.i 0,.i 0,.i 0,.i 0]] true 0,.arr 3 cs true 0,.arr 3 es true 0,.arr 11 [.agg aa] true 0] :=
  RunsTo.hin 0 60 [⟨20,0,.bool true,[.arr 11 [.agg ps] true 0,.arr 11 [.agg [.i 0,.i 0,.i 0,.i 0,.i 0,.i 0,.i 0,.i 0,.i 0,.i 0,.i 0]] true 0,.arr 3 cs true 0,.arr 3 es true 0,.arr 11 [.agg aa] true 0]⟩,⟨21,0,.i x0,[.arr 11 [.agg ps] true 0,.arr 11 [.agg [.i 0,.i 0,.i 0,.i 0,.i 0,.i 0,.i 0,.i 0,.i 0,.i 0,.i 0]] true 0,.arr 3 cs true 0,.arr 3 es true 0,.arr 11 [.agg aa] true 0]⟩] fun kf hk=>⟨_,by kernel_rfl,(oB [.arr 11 [.agg ps] true 0,.arr 11 [.agg [.i 0,.i 0,.i 0,.i 0,.i 0,.i 0,.i 0,.i 0,.i 0,.i 0,.i 0]] true 0,.arr 3 cs true 0,.arr 3 es true 0,.arr 11 [.agg aa] true 0] (decide_eq_true g0) (oP [.arr 11 [.agg ps] true 0,.arr 11 [.agg [.i 0,.i 0,.i 0,.i 0,.i 0,.i 0,.i 0,.i 0,.i 0,.i 0,.i 0]] true 0,.arr 3 cs true 0,.arr 3 es true 0,.arr 11 [.agg aa] true 0] g1 .nil))⟩
theorem bo_k_1 (rw ps:List HV) (m:Nat) (cs:List HV) (q:Nat) (es:List HV) (aa:List HV) (sm:Int) (i:Nat) {y3 y6 y7 y9 y13 y15 y21 y22 y23 y41 y42 y43:HV}(g0:¬ ((i:Int) < 11)):RT polBo 50 (sub [1,1,1,1,1,1,1,0,1,0,0] B50) (env50 (.imm .arg 1 rw) (.agg ps) y3 (.i 0) (.ptr 1 0 0 1) y6 y7 y9 (.i sm) (.ptr 4 0 0 1) y13 y15 y21 y22 y23 y41 y42 y43 (.agg ps) (.i (i:Int))) [.arr 11 [.agg ps] true 0,.arr 11 [.agg [.i 0,.i 0,.i 0,.i 0,.i 0,.i 0,.i 0,.i 0,.i 0,.i 0,.i 0]] true 0,.arr 3 cs true 0,.arr 3 es true 0,.arr 11 [.agg aa] true 0] (.exit 4) (env50 (.imm .arg 1 rw) (.agg ps) y3 (.i 0) (.ptr 1 0 0 1) y6 y7 y9 (.i sm) (.ptr 4 0 0 1) y13 y15 y21 y22 y23 y41 y42 y43 (.agg ps) (.i (i:Int))) [.arr 11 [.agg ps] true 0,.arr 11 [.agg [.i 0,.i 0,.i 0,.i 0,.i 0,.i 0,.i 0,.i 0,.i 0,.i 0,.i 0]] true 0,.arr 3 cs true 0,.arr 3 es true 0,.arr 11 [.agg aa] true 0] :=
  RunsTo.hin 0 60 [⟨20,0,.bool false,[.arr 11 [.agg ps] true 0,.arr 11 [.agg [.i 0,.i 0,.i 0,.i 0,.i 0,.i 0,.i 0,.i 0,.i 0,.i 0,.i 0]] true 0,.arr 3 cs true 0,.arr 3 es true 0,.arr 11 [.agg aa] true 0]⟩] fun kf hk=>⟨_,by kernel_rfl,(oB [.arr 11 [.agg ps] true 0,.arr 11 [.agg [.i 0,.i 0,.i 0,.i 0,.i 0,.i 0,.i 0,.i 0,.i 0,.i 0,.i 0]] true 0,.arr 3 cs true 0,.arr 3 es true 0,.arr 11 [.agg aa] true 0] (decide_eq_false g0) .nil)⟩
theorem bo_l_0 (rw ps:List HV) (m:Nat) (cs:List HV) (q:Nat) (es:List HV) (aa:List HV) (sm:Int) {y3 y6 y7 y9 y13 y15 y21 y22 y23 y41 y42 y43 y64 y65:HV}(g0:loadV Tp [.arr 11 [.agg ps] true 0,.arr 11 [.agg [.i 0,.i 0,.i 0,.i 0,.i 0,.i 0,.i 0,.i 0,.i 0,.i 0,.i 0]] true 0,.arr 3 cs true 0,.arr 3 es true 0,.arr 11 [.agg aa] true 0] 66 (.ptr 4 0 0 1)=some (.agg aa)) (g1:storeV Tp [.arr 11 [.agg ps] true 0,.arr 11 [.agg [.i 0,.i 0,.i 0,.i 0,.i 0,.i 0,.i 0,.i 0,.i 0,.i 0,.i 0]] true 0,.arr 3 cs true 0,.arr 3 es true 0,.arr 11 [.agg aa] true 0] 66 (.ptr 1 0 0 1) (.agg aa)=some [.arr 11 [.agg ps] true 0,.arr 11 [.agg aa] true 0,.arr 3 cs true 0,.arr 3 es true 0,.arr 11 [.agg aa] true 0]):RT polBo 50 (sub [1,1,1,1,1,1,1,1] B50) (env50 (.imm .arg 1 rw) (.agg ps) y3 (.i 0) (.ptr 1 0 0 1) y6 y7 y9 (.i sm) (.ptr 4 0 0 1) y13 y15 y21 y22 y23 y41 y42 y43 y64 y65) [.arr 11 [.agg ps] true 0,.arr 11 [.agg [.i 0,.i 0,.i 0,.i 0,.i 0,.i 0,.i 0,.i 0,.i 0,.i 0,.i 0]] true 0,.arr 3 cs true 0,.arr 3 es true 0,.arr 11 [.agg aa] true 0] .ret (env50 (.imm .arg 1 rw) (.agg ps) y3 (.i sm) (.ptr 1 0 0 1) y6 y7 y9 (.i sm) (.ptr 4 0 0 1) y13 y15 y21 y22 y23 y41 y42 y43 y64 y65) [.arr 11 [.agg ps] true 0,.arr 11 [.agg aa] true 0,.arr 3 cs true 0,.arr 3 es true 0,.arr 11 [.agg aa] true 0] :=
  RunsTo.hin 0 60 [⟨24,1,.agg aa,[.arr 11 [.agg ps] true 0,.arr 11 [.agg [.i 0,.i 0,.i 0,.i 0,.i 0,.i 0,.i 0,.i 0,.i 0,.i 0,.i 0]] true 0,.arr 3 cs true 0,.arr 3 es true 0,.arr 11 [.agg aa] true 0]⟩,⟨24,3,.tuple [],[.arr 11 [.agg ps] true 0,.arr 11 [.agg aa] true 0,.arr 3 cs true 0,.arr 3 es true 0,.arr 11 [.agg aa] true 0]⟩] fun kf hk=>⟨_,by kernel_rfl,(oP [.arr 11 [.agg ps] true 0,.arr 11 [.agg [.i 0,.i 0,.i 0,.i 0,.i 0,.i 0,.i 0,.i 0,.i 0,.i 0,.i 0]] true 0,.arr 3 cs true 0,.arr 3 es true 0,.arr 11 [.agg aa] true 0] g0 (oS g1 .nil))⟩
end Go.Proofs.Ytlendaofkmhgmaa
end
