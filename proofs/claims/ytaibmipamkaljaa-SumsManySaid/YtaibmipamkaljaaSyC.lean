/- A part of the proof. -/
import Derived.Test.YtaibmipamkaljaaSyB
set_option linter.unusedVariables false
set_option linter.unusedSimpArgs false
set_option linter.unnecessarySimpa false
section
open Go Go.HL Go.HL.So Classical
namespace Go.Proofs.Ytaibmipamkaljaa
open Go.Proofs.Try renaming prog → Tp
open Go.HL.HV renaming undef → Ud
theorem ltI_lin:Lin (fun a b:Int=>a < b):=⟨fun x y z (h1:¬ y < x) (h2:¬ z < y)=>show ¬ z < x by omega,fun x y (h:x < y)=>show ¬ y < x by omega⟩
theorem So.int {H:Heap} {db n:Nat} (hn:n ≤ 60000) (hd:db < H.length) (hx:mxs H ≤ H.length):So encI (fun a b:Int=>a < b) (fun _=>True) H db n:=by
  have hb:∀ (l:List Int) (T:Heap),(Mm encI H db l T)[db]?=some (bI l):=fun l T=>by
    unfold Mm
    rw [List.getElem?_append_left (by simpa using hd),List.getElem?_set_self hd]
    rfl
  refine ⟨hn,hd,hx,fun l T i hl hi=>?_,fun l T i x hl hi=>?_,fun l T x y hl hT _ _=>?_⟩
  · have:=load_out (hb l T) (y:=i) (by omega)
    rw [hl] at this
    exact this
  · have:=store_out (hb l T) (y:=i) (by omega) x
    rw [hl] at this
    show storeV Tp (Mm encI H db l T) 3 (.ptr db i 0 n) (.int .i64 x)=_
    rw [this]
    congr 1
    unfold Mm
    rw [List.set_append_left _ _ (by simpa using hd),List.set_set]
    rfl
  · refine ⟨0,fun kf _=>?_⟩
    rw [prim_call (pol:=polSo) (g:=78) (F:=less78) (by kernel_rfl) (rs:=[encI x,encI y]) (by simp only [encI]; rfl) (res:=.bool (decide (x < y))) (by simp only [encI,less78])]
    simp only [recv,recvVal,recvCell]
    by_cases c:x < y
    · simp [c]
    · simp [c]
theorem Mm_self {H:Heap} {db:Nat} {l:List Int} (h:H[db]?=some (bI l)):Mm encI H db l []=H:=by
  unfold Mm
  rw [List.append_nil]
  apply List.ext_getElem?
  intro i
  rw [List.getElem?_set]
  split
  · rename_i e
    subst e
    rw [if_pos (lt_of_get h),h]; rfl
  · rfl
theorem sortI_ok {H:Heap} {db n:Nat} {cap:Option Nat} {l:List Int} (hn:n ≤ 60000) (hl:l.length=n) (hb:H[db]?=some (bI l)) (hx:mxs H ≤ H.length) :
    ∃ l',ClS 53 [.sl db 0 n cap n 1] H (.tuple []) (H.set db (bI l'))∧l'.Perm l∧Sorted (fun a b:Int=>a < b) 0 l'.length l':=by
  have hd:=lt_of_get hb
  have S:=So.int (n:=n) hn hd hx
  have hlen:=lenN_ok (x:=n) (by omega)
  obtain ⟨l',hc,h1,h2⟩:=pdq_ok S ltI_lin (cap:=cap) (lim:=(lenN n:Int)) (by omega) (by omega) hl (fun _ _=>trivial)
  obtain ⟨N,hN⟩:=hc.from
  rw [Mm_self hb] at hN
  have hu:IntKind.u64.wrap (n:Int)=(n:Int):=by rw [wrapU64]; omega
  have t:=st_a_0 N db n cap H 0 (m0:=(lenN n:Int)) (H0:=H) (fun kf _=>by
    rw [hu,prim_call (pol:=polSo) (g:=68) (F:=len82) (by kernel_rfl) (rs:=[.int .u64 (n:Int)]) rfl (res:=.int .i64 (lenN n:Int)) (by simp only [len82]; rw [if_pos (by omega),Int.toNat_natCast])]; rfl) hN
  have hc2:=CallsTo.shared (P:=Tp) (pol:=polSo) (g:=53) (fn:=Try.f53) (cd:=B53) (args:=[.sl db 0 n cap n 1]) (v:=.tuple []) (by kernel_rfl) (by kernel_rfl) (by kernel_rfl) (by kernel_rfl) t (by kernel_rfl) (by simp) (by kernel_rfl)
  have e:Mm encI H db l' []=H.set db (bI l'):=by unfold Mm; rw [List.append_nil]; rfl
  rw [e,gc_eq _ (by simp)] at hc2
  exact ⟨l',hc2,h1,by rw [h1.length_eq,hl]; exact h2⟩
theorem set_self {H:Heap} {b:Nat} {B:Blk} (h:H[b]?=some B):H.set b B=H:=by
  apply List.ext_getElem?
  intro i
  by_cases e:b=i
  · subst e; rw [List.getElem?_set_self (lt_of_get h),h]
  · rw [List.getElem?_set_ne e]
def cT (l:List Int):Nat → List Int
  | 0=>[]
  | i+1=>if i=0 then [l.getD 0 0] else if l.getD i 0=l.getD (i - 1) 0 then cT l i else cT l i ++ [l.getD i 0]
theorem cT_len (l:List Int):∀ i,(cT l i).length ≤ i
  | 0=>Nat.le_refl _
  | i+1=>by
    rw [cT]
    split
    · simp
    · split
      · have:=cT_len l i; omega
      · have:=cT_len l i; simp; omega
section
variable {H:Heap} {b n:Nat} {l:List Int}
abbrev cmE (b n:Nat) (v3 v4 v5:HV):Env:=env54 (.sl b 0 n none n 1) (.imm .lit 1 []) v3 v4 v5
theorem ixm {m r i:Nat} (h:i < r):idxV Tp 22 (.sl b m r none n 1) (.int .i64 (i:Int))=some (.ptr b (m+i) 0 n):=by
  simp only [idxV,u22,z3]
  rw [if_pos ⟨by omega,by omega,trivial⟩]
  simp
theorem ldS {T:List Int} (hT:T.length=n) (hb:H[b]?=some (bI T)) {i:Nat} (h:i < n):loadV Tp H 3 (.ptr b i 0 n)=some (.int .i64 (T.getD i 0)):=by
  subst hT; exact load_out hb h
theorem getSet {B:Blk} (hb:b < H.length):(H.set b B)[b]?=some B:=List.getElem?_set_self hb
theorem cm_second (hb:b < H.length) (hn:n ≤ 60000) (hl:l.length=n) {m:Nat} (hm:1 ≤ m):∀ d j k T,m+j+d=n → 1 ≤ j → k=(cT l (m+j)).length → k ≤ m+j - 1 → T.length=n → T.take k=cT l (m+j) → (∀ p,m+j - 1 ≤ p → p < n → T.getD p 0=l.getD p 0) →
    ∃ (T':List Int) (k':Nat) (y5:HV),RT polSo 54 (sub [1,1,0,1,0,0,1,0,0,1,0,1,0,1,0] B54) (cmE b n (.int .i64 (k:Int)) (.sl b m (n - m) none n 1) (.int .i64 (j:Int))) (H.set b (bI T)) (.exit 2)
      (cmE b n (.int .i64 (k':Int)) (.sl b m (n - m) none n 1) y5) (H.set b (bI T'))∧k'=(cT l n).length∧T'.take k'=cT l n∧T'.length=n:=by
  intro d
  induction d with
  | zero =>
    intro j k T hd hj hk hkm hT hTt hTp
    have s:=cm_h_2 b n (H.set b (bI T)) k m (n - m) j (by omega)
    have e:m+j=n:=by omega
    rw [e] at hk hTt
    exact ⟨T,k,_,lpo (s) (c:=sub [1,1,0,1,0,0,1,0,0,1,0,1,0,1,0] B54),hk,hTt,hT⟩
  | succ d ih =>
    intro j k T hd hj hk hkm hT hTt hTp
    have g1:=ixm (b:=b) (n:=n) (m:=m) (r:=n - m) (i:=j) (by omega)
    have g3:=ixm (b:=b) (n:=n) (m:=m) (r:=n - m) (i:=j - 1) (by omega)
    rw [← wrap_pred (by omega) (by omega)] at g3
    have q1:=ldS (H:=H.set b (bI T)) hT (getSet hb) (i:=m+j) (by omega)
    have q2:=ldS (H:=H.set b (bI T)) hT (getSet hb) (i:=m+(j - 1)) (by omega)
    rw [hTp (m+j) (by omega) (by omega)] at q1
    rw [hTp (m+(j - 1)) (by omega) (by omega)] at q2
    have ec:cT l (m+(j+1))=if l.getD (m+j) 0=l.getD (m+(j - 1)) 0 then cT l (m+j) else cT l (m+j) ++ [l.getD (m+j) 0]:=by
      show cT l (m+j+1)=_
      rw [cT,if_neg (show ¬ m+j=0 by omega),show m+j - 1=m+(j - 1) by omega]
    by_cases c:l.getD (m+j) 0=l.getD (m+(j - 1)) 0
    · rw [if_pos c] at ec
      have s:=cm_h_0 b n (H.set b (bI T)) k m (n - m) j (by omega) g1 q1 g3 q2 c
      rw [wrap_succ (by omega)] at s
      obtain ⟨T',k',y5,r,h⟩:=ih (j+1) k T (by omega) (by omega) (by rw [ec]; exact hk) (by omega) hT (by rw [ec]; exact hTt) (fun p h1 h2=>hTp p (by omega) h2)
      exact ⟨T',k',y5,lop (s) (gc_eq _ rfl) (r),h⟩
    · rw [if_neg c] at ec
      have ix:=ixm (b:=b) (n:=n) (m:=0) (r:=n) (i:=k) (by omega)
      rw [Nat.zero_add] at ix
      have st:=store_out (H:=H.set b (bI T)) (k:=b) (o:=T) (getSet hb) (y:=k) (by omega) (l.getD (m+j) 0)
      rw [hT,List.set_set] at st
      have s:=cm_h_1 b n (H.set b (bI T)) k m (n - m) j (by omega) g1 q1 g3 q2 c g1 q1 ix st
      rw [wrap_succ (by omega),wrap_succ (by omega)] at s
      obtain ⟨T',k',y5,r,h⟩:=ih (j+1) (k+1) (T.set k (l.getD (m+j) 0)) (by omega) (by omega) (by rw [ec,List.length_append,List.length_singleton,← hk]) (by omega) (by rw [List.length_set]; exact hT) (by
        rw [ec,← hTt,List.take_set,List.take_add_one,List.getElem?_eq_getElem (show k < T.length by omega),Option.toList_some,List.set_append_right _ _ (by rw [List.length_take]; omega),List.length_take,show k - min k T.length=0 by omega]; rfl) (fun p h1 h2=>by
        rw [← hTp p (by omega) h2]
        simp only [List.getD,List.getElem?_set]
        rw [if_neg (by omega)])
      exact ⟨T',k',y5,lop (s) (gc_eq _ (by simp)) (r),h⟩
theorem sliceLo {k:Nat} (h:k ≤ n):sliceV Tp 22 (.sl b 0 n none n 1) (some (.int .i64 (k:Int))) none none=some (.sl b k (n - k) none n 1):=by
  simp [sliceV,boundV,u22,z3,h]
theorem sliceHi {k:Nat} (h:k ≤ n):sliceV Tp 22 (.sl b 0 n none n 1) none (some (.int .i64 (k:Int))) none=some (.sl b 0 k none n 1):=by
  simp [sliceV,boundV,u22,z3,h]
theorem clear_ok (hb:b < H.length) {T:List Int} (hT:T.length=n) {k:Nat} (hk:k ≤ n):clearV Tp (H.set b (bI T)) 22 (.sl b k (n - k) none n 1)=some (.tuple [],H.set b (bI (T.take k ++ List.replicate (n - k) 0))):=by
  by_cases h0:n - k=0
  · have:k=n:=by omega
    subst this
    simp only [clearV,u22,Nat.sub_self,if_true,List.replicate_zero,List.append_nil]
    rw [List.take_of_length_le (by omega)]
  · have i3:=info3
    cases hi:Tp.info? 3 with
    | none=>rw [hi] at i3; cases i3
    | some i =>
      rw [hi] at i3
      simp only [Option.map_some,Option.some.injEq,Prod.mk.injEq] at i3
      obtain ⟨e1,e2,hz⟩:=i3
      cases hz2:i.zero with
      | none=>rw [hz2] at hz; cases hz
      | some z =>
        rw [hz2] at hz
        simp only [Option.map_some,Option.some.injEq] at hz
        have hg:(H.set b (bI T))[b]?=some (.arr 1 (T.map encI) true 0):=getSet hb
        simp only [clearV,u22,if_neg h0,hi,hg,hz2]
        rw [hz,if_pos ⟨trivial,e1,by simp [hT],by simp [hT]; omega,rfl,rfl,by omega⟩,List.set_set]
        have e3:splice (T.map encI) k (List.replicate (n - k) (HV.int .i64 0))=(T.take k ++ List.replicate (n - k) 0).map encI:=by
          simp only [splice,List.length_replicate,List.map_append,List.map_take,List.map_replicate]
          rw [List.drop_of_length_le (by simp [hT]; omega),List.append_nil]
          rfl
        rw [e3]
theorem cm_first (hbl:H[b]?=some (bI l)) (hn:n ≤ 60000) (hl:l.length=n) (h2:2 ≤ n):∀ d k,k+d=n → 1 ≤ k → cT l k=l.take k →
    (cT l n=l∧∃ y,RT polSo 54 (sub [1,1,0,1,0] B54) (cmE b n (.int .i64 (k:Int)) Ud Ud) H (.exit 0) (cmE b n y Ud Ud) H∧∃ q:Nat,y=.int .i64 (q:Int)) ∨
    (∃ E T,RT polSo 54 (sub [1,1,0,1,0] B54) (cmE b n (.int .i64 (k:Int)) Ud Ud) H .ret E (H.set b (bI (cT l n ++ T)))∧E.get 2=.sl b 0 (cT l n).length none n 1∧(cT l n ++ T).length=n):=by
  have hb:=lt_of_get hbl
  have hset:H.set b (bI l)=H:=set_self hbl
  intro d
  induction d with
  | zero =>
    intro k hd hk hc
    have s:=cm_d_1 b n H k (y4:=Ud) (y5:=Ud) (by omega)
    have e:k=n:=by omega
    subst e
    exact .inl ⟨by rw [hc,List.take_of_length_le (by omega)],_,lpo (sqo (s) (c:=sub [1,1,0,1,0,0] B54) (b:=sub [1,1,0,1,0,0,1] B54)) (c:=sub [1,1,0,1,0] B54),k,rfl⟩
  | succ d ih =>
    intro k hd hk hc
    have s0:=cm_d_0 b n H k (y4:=Ud) (y5:=Ud) (by omega)
    have g1:=ixm (b:=b) (n:=n) (m:=0) (r:=n) (i:=k) (by omega)
    have g3:=ixm (b:=b) (n:=n) (m:=0) (r:=n) (i:=k - 1) (by omega)
    rw [Nat.zero_add] at g1 g3
    rw [← wrap_pred (by omega) (by omega)] at g3
    have q1:=ldS (H:=H) hl hbl (i:=k) (by omega)
    have q2:=ldS (H:=H) hl hbl (i:=k - 1) (by omega)
    have ec:cT l (k+1)=if l.getD k 0=l.getD (k - 1) 0 then cT l k else cT l k ++ [l.getD k 0]:=by
      rw [cT,if_neg (show ¬ k=0 by omega)]
    by_cases c:l.getD k 0=l.getD (k - 1) 0
    · rw [if_pos c] at ec
      have s1:=cm_e_0 b n H k (y4:=Ud) (y5:=Ud) g1 q1 g3 q2 c
      have s2:=cm_f_0 b n H k (y4:=Ud) (y5:=Ud) (sliceLo (by omega))
      have s3:=cm_g_0 b n H k k (n - k) (y5:=Ud)
      obtain ⟨T',k',y5,r,r1,r2,r3⟩:=cm_second (H:=H) hb hn hl (m:=k) hk (n - k - 1) 1 k l (by omega) (by omega) (by rw [ec,hc,List.length_take]; omega) (by omega) hl (by rw [ec,hc]) (fun p _ _=>rfl)
      rw [hset] at r
      have hk':k' ≤ n:=by have:=cT_len l n; omega
      have s4:=cm_i_0 b n (H.set b (bI T')) k' k (n - k) (y5:=y5) (sliceLo hk') (clear_ok hb r3 hk') (sliceHi hk')
      rw [r2] at s4
      refine .inr ⟨_,List.replicate (n - k') 0,lpo (sq (s0) (sqo (RunsTo.block_ret (i:=1) (c:=sub [1,1,0,1,0,0,1,0] B54) (sq (s1) (RunsTo.cond (y:=.tmp 25) (t:=true) (c:=sub [1,1,0,1,0,0,1,0,0,1] B54) (a:=sub [1,1,0,1,0,0,1,0,0,1,0] B54) (b:=sub [1,1,0,1,0,0,1,0,0,1,1] B54) (by kernel_rfl) rfl (sq (s2) (sq (sq (s3) (bke (c:=sub [1,1,0,1,0,0,1,0,0,1,0,1,0,1] B54) (r)) (c:=sub [1,1,0,1,0,0,1,0,0,1,0,1,0] B54)) (s4) (c:=sub [1,1,0,1,0,0,1,0,0,1,0,1] B54)) (c:=sub [1,1,0,1,0,0,1,0,0,1,0] B54))) (c:=sub [1,1,0,1,0,0,1,0,0] B54)) (by kernel_rfl)) (c:=sub [1,1,0,1,0,0,1] B54) (b:=sub [1,1,0,1,0,0,1,1] B54)) (c:=sub [1,1,0,1,0,0] B54)) (c:=sub [1,1,0,1,0] B54),by rw [← r1]; rfl,by rw [List.length_append,List.length_replicate]; omega⟩
    · rw [if_neg c] at ec
      have s1:=cm_e_1 b n H k (y4:=Ud) (y5:=Ud) g1 q1 g3 q2 c
      have s2:=cm_j_0 b n H k (y4:=Ud) (y5:=Ud)
      rw [wrap_succ (by omega)] at s2
      have et:l.take (k+1)=l.take k ++ [l.getD k 0]:=by rw [List.take_add_one]; simp [List.getD,List.getElem?_eq_getElem (show k < l.length by omega)]
      have bd:RT polSo 54 (sub [1,1,0,1,0,0] B54) (cmE b n (.int .i64 (k:Int)) Ud Ud) H .normal (cmE b n (.int .i64 ((k+1:Nat):Int)) Ud Ud) H:=sq (s0) (sq (RunsTo.block_normal (i:=1) (c:=sub [1,1,0,1,0,0,1,0] B54) (sq (s1) (RunsTo.cond (y:=.tmp 25) (t:=false) (c:=sub [1,1,0,1,0,0,1,0,0,1] B54) (a:=sub [1,1,0,1,0,0,1,0,0,1,0] B54) (b:=sub [1,1,0,1,0,0,1,0,0,1,1] B54) (by kernel_rfl) rfl (RunsTo.skip (E:=(cmE b n (.int .i64 (k:Int)) Ud Ud)) (K:=polSo.keys 54) (by kernel_rfl) (by kernel_rfl))) (c:=sub [1,1,0,1,0,0,1,0,0] B54)) (by kernel_rfl)) (s2) (c:=sub [1,1,0,1,0,0,1] B54)) (c:=sub [1,1,0,1,0,0] B54)
      rcases ih (k+1) (by omega) (by omega) (by rw [ec,hc,et]) with ⟨h,y,r,hq⟩ | ⟨E,T,r,h⟩
      · exact .inl ⟨h,y,lop (bd) (gc_eq _ rfl) (r),hq⟩
      · exact .inr ⟨E,T,lop (bd) (gc_eq _ rfl) (r),h⟩
theorem res54:Try.f54.results.toList=[.tmp 2]:=by kernel_rfl
theorem compact_ok (hbl:H[b]?=some (bI l)) (hn:n ≤ 60000) (hl:l.length=n) (hx:mxs H ≤ H.length):∃ T,ClS 54 [.sl b 0 n none n 1] H (.sl b 0 (cT l n).length none n 1) (H.set b (bI (cT l n ++ T)))∧(cT l n ++ T).length=n:=by
  have hb:=lt_of_get hbl
  have hset:H.set b (bI l)=H:=set_self hbl
  have fin:∀ {E:Env} {T:List Int},RT polSo 54 B54 (args0 [.sl b 0 n none n 1]) H .ret E (H.set b (bI (cT l n ++ T))) → E.get 2=.sl b 0 (cT l n).length none n 1 → ClS 54 [.sl b 0 n none n 1] H (.sl b 0 (cT l n).length none n 1) (H.set b (bI (cT l n ++ T))):=fun {E T} r hE=>by
    have hc:=CallsTo.shared (P:=Tp) (pol:=polSo) (g:=54) (fn:=Try.f54) (cd:=B54) (args:=[.sl b 0 n none n 1]) (v:=.sl b 0 (cT l n).length none n 1) (by kernel_rfl) (by kernel_rfl) (by kernel_rfl) (by kernel_rfl) r (by kernel_rfl) (by simp) (by simp only [resultsV,res54,mapO,resultV,hE])
    rwa [gc_eq _ (by simp)] at hc
  have a:=cm_a_0 b n H
  by_cases h2:n < 2
  · have s:=cm_b_0 b n H (y3:=Ud) (y4:=Ud) (y5:=Ud) (by omega)
    have ecl:cT l n=l:=by
      match l,hl with
      | [],hl=>simp at hl; subst hl; rfl
      | [x],hl=>simp at hl; subst hl; rfl
      | x :: y :: l,hl=>simp at hl; omega
    refine ⟨[],?_,by rw [List.append_nil,ecl,hl]⟩
    have u:=sq (a) (sqo (s) (c:=sub [1] B54) (b:=sub [1,1] B54)) (c:=B54)
    rw [List.append_nil]
    have e1:H.set b (bI (cT l n))=H:=by rw [ecl]; exact hset
    refine (by simpa using fin (T:=[]) (by rw [List.append_nil,e1]; exact u) (by rw [ecl,hl]; rfl))
  · have s1:=cm_b_1 b n H (y3:=Ud) (y4:=Ud) (y5:=Ud) (by omega)
    have s2:=cm_c_0 b n H (y3:=Ud) (y4:=Ud) (y5:=Ud)
    rcases cm_first (H:=H) hbl hn hl (by omega) (n - 1) 1 (by omega) (by omega) (by
      rw [cT,if_pos rfl]
      cases l with
      | nil=>simp at hl; omega
      | cons x l=>rfl) with ⟨h,y,r,q,rfl⟩ | ⟨E,T,r,hE,hT⟩
    · have z:=cm_k_0 b n H q (y4:=Ud) (y5:=Ud)
      have u:=sq (a) (sq (s1) (sq (sq (s2) (bke (c:=sub [1,1,0,1] B54) (r)) (c:=sub [1,1,0] B54)) (z) (c:=sub [1,1] B54)) (c:=sub [1] B54)) (c:=B54)
      refine ⟨[],?_,by rw [List.append_nil,h,hl]⟩
      have e1:H.set b (bI (cT l n))=H:=by rw [h]; exact hset
      refine (by simpa using fin (T:=[]) (by rw [List.append_nil,e1]; exact u) (by rw [h,hl]; rfl))
    · have u:=sq (a) (sq (s1) (sqo (sq (s2) (RunsTo.block_ret (i:=0) (c:=sub [1,1,0,1] B54) (r) (by kernel_rfl)) (c:=sub [1,1,0] B54)) (c:=sub [1,1] B54) (b:=sub [1,1,1] B54)) (c:=sub [1] B54)) (c:=B54)
      exact ⟨T,fin u hE,hT⟩
end
end Go.Proofs.Ytaibmipamkaljaa
end
section
open Go Go.HL Go.HL.So
namespace Go.Proofs.Ytaibmipamkaljaa
def bothS (p:Int) (a b:List Int):List Int:=a.flatMap fun x=>b.map fun y=>(x+y) % p
def bothT (p:Int) (a b:List Int):List Int:=((List.range p.toNat).filter fun (r:Nat)=>decide ((r:Int) ∈ bothS p a b)).map fun (r:Nat)=>(r:Int)
def bothR (p:Int) (a b:List Int):List Int × Int:=if (inB p 2 97 && primeT p && setT p a && setT p b)=true then (bothT p a b,0) else ([],2)
theorem bothS_mem {p:Int} {a b:List Int} {z:Int}:z ∈ bothS p a b ↔ ∃ x ∈ a,∃ y ∈ b,(x+y) % p=z:=by
  simp [bothS,List.mem_flatMap]
theorem bothS_len (p:Int) (a b:List Int):(bothS p a b).length=a.length * b.length:=by
  induction a with
  | nil=>simp [bothS]
  | cons x a ih =>
    have:bothS p (x :: a) b=b.map (fun y=>(x+y) % p) ++ bothS p a b:=rfl
    rw [this,List.length_append,ih,List.length_map,List.length_cons,Nat.add_mul]; omega
theorem strict_ext:∀ {l m:List Int},l.Pairwise (· < ·) → m.Pairwise (· < ·) → (∀ x,x ∈ l ↔ x ∈ m) → l=m
  | [],[],_,_,_=>rfl
  | [],y :: m,_,_,h=>absurd ((h y).2 (by simp)) (by simp)
  | x :: l,[],_,_,h=>absurd ((h x).1 (by simp)) (by simp)
  | x :: l,y :: m,hl,hm,h=>by
    obtain ⟨l1,l2⟩:=List.pairwise_cons.1 hl
    obtain ⟨m1,m2⟩:=List.pairwise_cons.1 hm
    have e:x=y:=by
      rcases List.mem_cons.1 ((h x).1 (by simp)) with e | e
      · exact e
      · have a1:=m1 x e
        rcases List.mem_cons.1 ((h y).2 (by simp)) with e2 | e2
        · exact e2.symm
        · have:=l1 y e2; omega
    subst e
    rw [strict_ext l2 m2 fun z=>?_]
    constructor
    · intro hz
      rcases List.mem_cons.1 ((h z).1 (List.mem_cons_of_mem _ hz)) with e | e
      · have:=l1 z hz; omega
      · exact e
    · intro hz
      rcases List.mem_cons.1 ((h z).2 (List.mem_cons_of_mem _ hz)) with e | e
      · have:=m1 z hz; omega
      · exact e
theorem cT_props {l:List Int} (hs:∀ i j,i < j → j < l.length → l.getD i 0 ≤ l.getD j 0):∀ i,i ≤ l.length → (cT l i).Pairwise (· < ·)∧(∀ x,x ∈ cT l i ↔ x ∈ l.take i)∧(1 ≤ i → ∀ x ∈ cT l i,x ≤ l.getD (i - 1) 0)
  | 0,_=>by simp [cT]
  | i+1,hi=>by
    obtain ⟨h1,h2,h3⟩:=cT_props hs i (by omega)
    have et:l.take (i+1)=l.take i ++ [l.getD i 0]:=by rw [List.take_add_one]; simp [List.getD,List.getElem?_eq_getElem (show i < l.length by omega)]
    rw [cT]
    by_cases h0:i=0
    · subst h0
      rw [if_pos rfl]
      refine ⟨by simp,fun x=>?_,fun _ x hx=>?_⟩
      · rw [et]; simp
      · rw [List.mem_singleton] at hx; rw [hx]; exact Int.le_refl _
    · rw [if_neg h0]
      by_cases c:l.getD i 0=l.getD (i - 1) 0
      · rw [if_pos c]
        refine ⟨h1,fun x=>?_,fun _ x hx=>?_⟩
        · rw [et,h2,List.mem_append,List.mem_singleton]
          constructor
          · exact Or.inl
          · rintro (h | h)
            · exact h
            · rw [h,c]
              have hlt:i - 1 < (l.take i).length:=by rw [List.length_take]; omega
              have:(l.take i)[i - 1]=l.getD (i - 1) 0:=by rw [List.getElem_take]; simp [List.getD,List.getElem?_eq_getElem (show i - 1 < l.length by omega)]
              rw [← this]; exact List.getElem_mem hlt
        · have:=h3 (by omega) x hx
          rw [Nat.add_sub_cancel,c]; exact this
      · rw [if_neg c]
        have hle:=hs (i - 1) i (by omega) (by omega)
        refine ⟨List.pairwise_append.2 ⟨h1,by simp,fun x hx y hy=>?_⟩,fun x=>?_,fun _ x hx=>?_⟩
        · rw [List.mem_singleton] at hy
          have:=h3 (by omega) x hx
          rw [hy]; omega
        · rw [et,List.mem_append,List.mem_append,h2]
        · rw [Nat.add_sub_cancel]
          rcases List.mem_append.1 hx with h | h
          · have:=h3 (by omega) x h; omega
          · rw [List.mem_singleton] at h; omega
theorem filter_strict (n:Nat) (f:Nat → Bool):(((List.range n).filter f).map fun (r:Nat)=>(r:Int)).Pairwise (· < ·):=by
  rw [List.pairwise_map]
  exact (List.Pairwise.filter f List.pairwise_lt_range).imp fun h=>by omega
theorem bothT_mem {p:Int} {a b:List Int} (hp:0 < p) {z:Int}:z ∈ bothT p a b ↔ z ∈ bothS p a b:=by
  simp only [bothT,List.mem_map,List.mem_filter,List.mem_range,decide_eq_true_eq]
  constructor
  · rintro ⟨r,⟨_,h⟩,rfl⟩; exact h
  · intro h
    obtain ⟨x,_,y,_,e⟩:=bothS_mem.1 h
    have b1:=Int.emod_nonneg (x+y) (show p ≠ 0 by omega)
    have b2:=Int.emod_lt_of_pos (x+y) hp
    exact ⟨z.toNat,⟨by omega,by rw [Int.toNat_of_nonneg (by omega)]; exact h⟩,Int.toNat_of_nonneg (by omega)⟩
theorem both_sorted {p:Int} (hp:0 < p) {a b l:List Int} (hl:l.Perm (bothS p a b)) (hs:Sorted (fun a b:Int=>a < b) 0 l.length l):cT l l.length=bothT p a b:=by
  obtain ⟨h1,h2,_⟩:=cT_props (l:=l) (fun i j hij hj=>by
    have:=hs i j (Nat.zero_le _) hij hj
    have e:∀ k,k < l.length → at_ l k=l.getD k 0:=fun k hk=>by simp [at_,List.getD,List.getElem?_eq_getElem hk]
    rw [e i (by omega),e j hj] at this
    omega) l.length (Nat.le_refl _)
  refine strict_ext h1 (filter_strict _ _) fun x=>?_
  rw [h2,List.take_length,hl.mem_iff]
  exact (bothT_mem hp).symm
end Go.Proofs.Ytaibmipamkaljaa
end
section
open Go Go.HL Go.HL.So
namespace Go.Proofs.Ytaibmipamkaljaa
open Go.Proofs.Try renaming prog → Tp
open Go.HL.HV renaming undef → Ud
theorem res19:Try.f19.results.toList=[.tmp 6,.tmp 7]:=by kernel_rfl
def pllF (f:Int → List Int → List Int → Option HV):List HV → Option HV
  | [.int .i64 p,.imm .arg 1 la,.imm .arg 1 lb]=>(match mapO decI la,mapO decI lb with | some a,some b=>f p a b | _,_=>none)
  | _=>none
theorem pllF_inv {f:Int → List Int → List Int → Option HV} {args:List HV} {res:HV} (h:pllF f args=some res):∃ (p:Int) (a b:List Int),args=[.int .i64 p,.imm .arg 1 (a.map encI),.imm .arg 1 (b.map encI)]∧f p a b=some res:=by
  unfold pllF at h
  split at h
  · split at h
    · rename_i a b ha hb
      exact ⟨_,a,b,by rw [mapO_inv decI_inv ha,mapO_inv decI_inv hb],h⟩
    · cases h
  · cases h
def both19:List HV → Option HV:=pllF fun p a b=>if a.length ≤ 200∧b.length ≤ 200 then some (.tuple [.own 1 ((bothR p a b).1.map encI),.int .i64 (bothR p a b).2]) else none
section
variable {p:Int} {a b:List Int}
abbrev btE (p:Int) (a b:List Int) (z:Nat) (v10 v12 v33 v34 v35 v39 v40 v41:HV):Env:=env19 (.int .i64 p) (.imm .arg 1 (a.map encI)) (.imm .arg 1 (b.map encI)) (.imm .lit 1 []) (.int .i64 0) (.sl 0 0 z none z 1) v10 v12 v33 v34 v35 v39 v40 v41
theorem app_big {H:Heap} {bb:Nat} {o:List Int} (hb:H[bb]?=some (bI o)) (hlen:o.length ≤ 60000) (x:Int) :
    appV H 1 8 (.sl bb 0 o.length none o.length 1) [.int .i64 x]=some (.sl bb 0 (o.length+1) none (o.length+1) 1,H.set bb (bI (o ++ [x]))):=by
  have:=app_sl (H:=H) (k:=1) (bytes:=8) (b:=bb) (n:=o.length) (mx:=0) (els:=o.map encI) (xs:=[encI x]) hb (by simp) (by simp) (by simp only [roomMax,List.length_singleton]; omega) (ints_bnd [x])
  show appV H 1 8 (.sl bb 0 o.length none o.length 1) [encI x]=_
  rw [this]
  simp [bI]
theorem bt_in (hp:2 ≤ p∧p ≤ 97) (hb:b.length ≤ 200) {x:Int} (hx:0 ≤ x∧x < p) (hbB:∀ y ∈ b,0 ≤ y∧y < p) {i n1:Nat}:∀ k j (os:List Int),j+k=b.length → os.length ≤ 50000+j →
    ∃ y41,RT polSo 19 (sub [1,1,1,0,1,0,0,1,1,0,0,1,1,0] B19) (btE p a b os.length (.int .i64 x) Ud (.imm .arg 1 (a.map encI)) (.int .i64 (n1:Int)) (.int .i64 (i:Int)) (.imm .arg 1 (b.map encI)) (.int .i64 (b.length:Int)) (.int .i64 (j:Int))) [bI os] (.exit 2)
      (btE p a b (os ++ (b.drop j).map fun y=>(x+y) % p).length (.int .i64 x) Ud (.imm .arg 1 (a.map encI)) (.int .i64 (n1:Int)) (.int .i64 (i:Int)) (.imm .arg 1 (b.map encI)) (.int .i64 (b.length:Int)) y41) [bI (os ++ (b.drop j).map fun y=>(x+y) % p)]:=by
  intro k
  induction k with
  | zero =>
    intro j os hj ho
    have s:=bt_h_1 p (a.map encI) (b.map encI) os.length (os.map encI) n1 i b.length j x (y12:=Ud) (by omega)
    rw [List.drop_of_length_le (by omega),List.map_nil,List.append_nil]
    exact ⟨_,lpo (s) (c:=sub [1,1,1,0,1,0,0,1,1,0,0,1,1,0] B19)⟩
  | succ k ih =>
    intro j os hj ho
    have hlt:j < b.length:=by omega
    have hy:=hbB (b.getD j 0) (by rw [List.getD,List.getElem?_eq_getElem hlt]; exact List.getElem_mem hlt)
    have w:IntKind.i64.wrap (x+b.getD j 0)=x+b.getD j 0:=wrap_id (by omega) (by omega)
    have t:(x+b.getD j 0).tmod p=(x+b.getD j 0) % p:=Int.tmod_eq_emod_of_nonneg (by omega)
    have ap:=app_big (H:=[bI os]) (bb:=0) (o:=os) rfl (by omega) ((x+b.getD j 0) % p)
    have s:=bt_h_0 p (a.map encI) (b.map encI) os.length (os.map encI) n1 i b.length j x (y12:=Ud) (by omega) (gx hlt) (rem3 (by omega)) (by rw [w,t]; exact ap.trans (by simp only [bI,List.map_append]; rfl))
    rw [w,t,wrap_succ (by omega)] at s
    obtain ⟨y41,r⟩:=ih (j+1) (os ++ [(x+b.getD j 0) % p]) (by omega) (by simp; omega)
    have e1:os ++ (b.drop j).map (fun y=>(x+y) % p)=os ++ [(x+b.getD j 0) % p] ++ (b.drop (j+1)).map fun y=>(x+y) % p:=by rw [drop_cons (0:Int) hlt,List.map_cons,List.append_assoc]; rfl
    rw [e1]
    have e2:[Blk.arr 1 (os.map encI ++ [.int .i64 ((x+b.getD j 0) % p)]) true 0]=[bI (os ++ [(x+b.getD j 0) % p])]:=by simp only [bI,List.map_append]; rfl
    rw [e2] at s
    rw [List.length_append,List.length_singleton] at r
    exact ⟨y41,lop (s) (gc_eq _ rfl) (r)⟩
theorem bt_out (hp:2 ≤ p∧p ≤ 97) (ha:a.length ≤ 200) (hb:b.length ≤ 200) (haB:∀ y ∈ a,0 ≤ y∧y < p) (hbB:∀ y ∈ b,0 ≤ y∧y < p):∀ k i (os:List Int),i+k=a.length → os.length ≤ 200 * i →
    ∃ y10 y35 y39 y40 y41,RT polSo 19 (sub [1,1,1,0,1,0] B19) (btE p a b os.length Ud Ud (.imm .arg 1 (a.map encI)) (.int .i64 (a.length:Int)) (.int .i64 (i:Int)) Ud Ud Ud) [bI os] (.exit 0)
      (btE p a b (os ++ (a.drop i).flatMap fun x=>b.map fun y=>(x+y) % p).length y10 Ud (.imm .arg 1 (a.map encI)) (.int .i64 (a.length:Int)) y35 y39 y40 y41) [bI (os ++ (a.drop i).flatMap fun x=>b.map fun y=>(x+y) % p)]:=by
  intro k
  induction k with
  | zero =>
    intro i os hi ho
    have s1:=bt_e_1 p (a.map encI) (b.map encI) os.length (os.map encI) a.length i (y10:=Ud) (y12:=Ud) (y39:=Ud) (y40:=Ud) (y41:=Ud) (by omega)
    have s2:=bt_ef_0 p (a.map encI) (b.map encI) os.length (os.map encI) a.length i (y10:=Ud) (y12:=Ud) (y39:=Ud) (y40:=Ud) (y41:=Ud)
    rw [List.drop_of_length_le (by omega),List.flatMap_nil,List.append_nil]
    exact ⟨_,_,_,_,_,lpo (sq (s1) (sqo (s2) (c:=sub [1,1,1,0,1,0,0,1] B19) (b:=sub [1,1,1,0,1,0,0,1,1] B19)) (c:=sub [1,1,1,0,1,0,0] B19)) (c:=sub [1,1,1,0,1,0] B19)⟩
  | succ k ih =>
    intro i os hi ho
    have hlt:i < a.length:=by omega
    have hx:=haB (a.getD i 0) (by rw [List.getD,List.getElem?_eq_getElem hlt]; exact List.getElem_mem hlt)
    have s1:=bt_e_0 p (a.map encI) (b.map encI) os.length (os.map encI) a.length i (y10:=Ud) (y12:=Ud) (y39:=Ud) (y40:=Ud) (y41:=Ud) (by omega)
    have s2:=bt_et_0 p (a.map encI) (b.map encI) os.length (os.map encI) a.length i (y10:=Ud) (y12:=Ud) (y39:=Ud) (y40:=Ud) (y41:=Ud)
    have s3:=bt_f_0 p (a.map encI) (b.map encI) os.length (os.map encI) a.length i (y10:=Ud) (y12:=Ud) (y39:=Ud) (y40:=Ud) (y41:=Ud) (gx hlt)
    have s4:=bt_g_0 p (a.map encI) (b.map encI) os.length (os.map encI) a.length i (a.getD i 0) (y12:=Ud) (y39:=Ud) (y40:=Ud) (y41:=Ud)
    rw [List.length_map] at s4
    obtain ⟨y41,r0⟩:=bt_in (a:=a) hp hb hx hbB (i:=i) (n1:=a.length) b.length 0 os (by omega) (by omega)
    rw [List.drop_zero] at r0
    have s5:=bt_i_0 p (a.map encI) (b.map encI) (os ++ b.map fun y=>(a.getD i 0+y) % p).length ((os ++ b.map fun y=>(a.getD i 0+y) % p).map encI) a.length i (y10:=.int .i64 (a.getD i 0)) (y12:=Ud) (y39:=.imm .arg 1 (b.map encI)) (y40:=.int .i64 (b.length:Int)) (y41:=y41)
    rw [wrap_succ (by omega)] at s5
    obtain ⟨y10,y35,z39,z40,z41,r⟩:=ih (i+1) (os ++ b.map fun y=>(a.getD i 0+y) % p) (by omega) (by rw [List.length_append,List.length_map]; omega)
    have e1:os ++ (a.drop i).flatMap (fun x=>b.map fun y=>(x+y) % p)=os ++ b.map (fun y=>(a.getD i 0+y) % p) ++ (a.drop (i+1)).flatMap fun x=>b.map fun y=>(x+y) % p:=by rw [drop_cons (0:Int) hlt,List.flatMap_cons,List.append_assoc]
    rw [e1]
    exact ⟨y10,y35,z39,z40,z41,lop (sq (s1) (sq (s2) (sq (RunsTo.block_normal (i:=1) (c:=sub [1,1,1,0,1,0,0,1,1,0] B19) (sq (s3) (sq (s4) (bke (c:=sub [1,1,1,0,1,0,0,1,1,0,0,1,1] B19) (lpi (e0:=(btE p a b os.length (.int .i64 (a.getD i 0)) Ud (.imm .arg 1 (a.map encI)) (.int .i64 (a.length:Int)) (.int .i64 (i:Int)) (.imm .arg 1 (b.map encI)) (.int .i64 (b.length:Int)) (.int .i64 ((0:Nat):Int)))) r0 (b:=sub [1,1,1,0,1,0,0,1,1,0,0,1,1,0,0] B19))) (c:=sub [1,1,1,0,1,0,0,1,1,0,0,1] B19)) (c:=sub [1,1,1,0,1,0,0,1,1,0,0] B19)) (by kernel_rfl)) (s5) (c:=sub [1,1,1,0,1,0,0,1,1] B19)) (c:=sub [1,1,1,0,1,0,0,1] B19)) (c:=sub [1,1,1,0,1,0,0] B19)) (gc_eq _ rfl) (r)⟩
end
theorem rsF_in {p:Int}:∀ (l prev:List Int),rsF p prev l=true → (∀ x ∈ l,0 ≤ x∧x < p)
  | [],_,_=>by simp
  | x :: l,prev,h=>by
    simp only [rsF,Bool.and_eq_true,decide_eq_true_eq] at h
    intro y hy
    rcases List.mem_cons.1 hy with rfl | hy
    · exact h.1.1
    · exact rsF_in l _ h.2 y hy
theorem setT_in {p:Int} {l:List Int} (h:setT p l=true):∀ x ∈ l,0 ≤ x∧x < p:=by
  simp only [setT,Bool.and_eq_true] at h
  exact rsF_in l [] h.1
theorem bool_at {pol':Pol} {g:FuncId} {F:List HV → Option HV} (hp:pol'.prim g=some F) {args rs:List HV} {H:Heap} {b:Bool} (h1:mapO (toArg H 6) args=some rs) (h2:F rs=some (.bool b)):∀ k,callN Tp pol' (k+1) g args H=some (.bool b,H):=fun k=>by
  rw [prim_call (pol:=pol') (g:=g) (F:=F) hp (rs:=rs) h1 (res:=.bool b) h2]; rfl
theorem both_ok:PrimOk Tp 19 both19:=by
  refine primOk_pure (pol:=polSo) (fn:=Try.f19) (cd:=B19) follows_mixed soundSo (by kernel_rfl) (by kernel_rfl) (fnokSo 19 _ (by kernel_rfl)) (by kernel_rfl) ?_
  intro args res h
  obtain ⟨p,a,b,rfl,hq⟩:=pllF_inv h
  clear h
  split at hq
  case isFalse=>cases hq
  rename_i hk
  cases hq
  obtain ⟨ha,hb⟩:=hk
  have s0:=bt_a_0 p (a.map encI) (b.map encI)
  have c47:∀ bb,inB p 2 97=bb → _:=fun bb hbb=>within_at' (pol':=polSo) (by kernel_rfl) p 2 97 [] (b:=bb) hbb
  have c51:p ≤ 1000 → ∀ k,callN Tp polSo (k+1) 51 [.int .i64 p] []=some (.bool (primeT p),[]):=fun hp=>bool_at (pol':=polSo) (g:=51) (F:=isPrime51) (by kernel_rfl) (rs:=[.int .i64 p]) rfl (by simp only [isPrime51]; rw [if_pos hp])
  have c52:∀ l:List Int,l.length ≤ 200 → (0 ≤ p∧p ≤ 1000) → ∀ k,callN Tp polSo (k+1) 52 [.int .i64 p,.imm .arg 1 (l.map encI)] []=some (.bool (setT p l),[]):=fun l hl hp=>by
    have hd:mapO decI (l.map encI)=some l:=mapO_map decI_enc l
    have hN:toArg [] 6 (.int .i64 p)=some (.int .i64 p):=rfl
    exact bool_at (pol':=polSo) (g:=52) (F:=isSet52) (by kernel_rfl) (rs:=[.int .i64 p,.imm .arg 1 (l.map encI)]) (by simp only [mapO,arg_li,hN]) (by simp only [isSet52,plF,hd]; rw [if_pos ⟨hp,by omega⟩])
  have bad:∀ {c:Bool},(inB p 2 97 && primeT p && setT p a && setT p b)=c → c=false → RT polSo 19 (sub [1,0] B19) (env19 (.int .i64 p) (.imm .arg 1 (a.map encI)) (.imm .arg 1 (b.map encI)) (.imm .lit 1 []) (.int .i64 0) Ud Ud Ud Ud Ud Ud Ud Ud Ud) [] .ret (env19 (.int .i64 p) (.imm .arg 1 (a.map encI)) (.imm .arg 1 (b.map encI)) (.imm .lit 1 []) (.int .i64 2) Ud Ud Ud Ud Ud Ud Ud Ud Ud) [] → ∃ E H v,RT polSo 19 B19 (args0 [.int .i64 p,.imm .arg 1 (a.map encI),.imm .arg 1 (b.map encI)]) [] .ret E H∧resultsV Tp Try.f19 E H=some v∧toRes H false v=some (.tuple [.own 1 ((bothR p a b).1.map encI),.int .i64 (bothR p a b).2]):=fun {c} h1 h2 s1=>by
    have u:=sq (s0) (sqo (s1) (c:=sub [1] B19) (b:=sub [1,1] B19)) (c:=B19)
    exact ⟨_,_,.tuple [.imm .lit 1 [],.int .i64 2],u,by simp only [resultsV,res19]; rfl,by rw [bothR,h1,h2]; rfl⟩
  have fin:∃ E H v,RT polSo 19 B19 (args0 [.int .i64 p,.imm .arg 1 (a.map encI),.imm .arg 1 (b.map encI)]) [] .ret E H∧resultsV Tp Try.f19 E H=some v∧toRes H false v=some (.tuple [.own 1 ((bothR p a b).1.map encI),.int .i64 (bothR p a b).2]):=by
    cases h1:inB p 2 97 with
    | false=>exact bad (c:=false) (by rw [h1]; rfl) rfl (bt_b_4 p (a.map encI) (b.map encI) (y8:=Ud) (y10:=Ud) (y12:=Ud) (y33:=Ud) (y34:=Ud) (y35:=Ud) (y39:=Ud) (y40:=Ud) (y41:=Ud) (c47 _ h1))
    | true =>
      have hp:=of_decide_eq_true h1
      cases h2:primeT p with
      | false =>
        have k51:=c51 (by omega)
        rw [h2] at k51
        exact bad (c:=false) (by rw [h1,h2]; rfl) rfl (bt_b_3 p (a.map encI) (b.map encI) (y8:=Ud) (y10:=Ud) (y12:=Ud) (y33:=Ud) (y34:=Ud) (y35:=Ud) (y39:=Ud) (y40:=Ud) (y41:=Ud) (c47 _ h1) k51)
      | true =>
        have k51:=c51 (by omega)
        rw [h2] at k51
        have ka:=c52 a ha (by omega)
        have kb:=c52 b hb (by omega)
        cases h3:setT p a with
        | false =>
          rw [h3] at ka
          exact bad (c:=false) (by rw [h1,h2,h3]; rfl) rfl (bt_b_2 p (a.map encI) (b.map encI) (y8:=Ud) (y10:=Ud) (y12:=Ud) (y33:=Ud) (y34:=Ud) (y35:=Ud) (y39:=Ud) (y40:=Ud) (y41:=Ud) (c47 _ h1) k51 ka)
        | true =>
          rw [h3] at ka
          cases h4:setT p b with
          | false =>
            rw [h4] at kb
            exact bad (c:=false) (by rw [h1,h2,h3,h4]; rfl) rfl (bt_b_1 p (a.map encI) (b.map encI) (y8:=Ud) (y10:=Ud) (y12:=Ud) (y33:=Ud) (y34:=Ud) (y35:=Ud) (y39:=Ud) (y40:=Ud) (y41:=Ud) (c47 _ h1) k51 ka kb)
          | true =>
            rw [h4] at kb
            have s1:=bt_b_0 p (a.map encI) (b.map encI) (y8:=Ud) (y10:=Ud) (y12:=Ud) (y33:=Ud) (y34:=Ud) (y35:=Ud) (y39:=Ud) (y40:=Ud) (y41:=Ud) (c47 _ h1) k51 ka kb
            have s2:=bt_c_0 p (a.map encI) (b.map encI) (y8:=Ud) (y10:=Ud) (y12:=Ud) (y33:=Ud) (y34:=Ud) (y35:=Ud) (y39:=Ud) (y40:=Ud) (y41:=Ud)
            have s3:=bt_d_0 p (a.map encI) (b.map encI) 0 [] (y10:=Ud) (y12:=Ud) (y33:=Ud) (y34:=Ud) (y35:=Ud) (y39:=Ud) (y40:=Ud) (y41:=Ud)
            rw [List.length_map] at s3
            obtain ⟨y10,y35,y39,y40,y41,r⟩:=bt_out hp ha hb (setT_in h3) (setT_in h4) a.length 0 [] (by omega) (by simp)
            rw [List.drop_zero,List.nil_append] at r
            have eS:(a.flatMap fun x=>b.map fun y=>(x+y) % p)=bothS p a b:=rfl
            rw [eS] at r
            have hlen:(bothS p a b).length ≤ 60000:=by
              rw [bothS_len]
              have:=Nat.mul_le_mul ha hb
              omega
            obtain ⟨l',q1,q2,q3⟩:=sortI_ok (H:=[bI (bothS p a b)]) (db:=0) (cap:=none) hlen rfl rfl (Nat.zero_le _)
            have e0:[bI (bothS p a b)].set 0 (bI l')=[bI l']:=rfl
            rw [e0] at q1
            obtain ⟨T,w1,w2⟩:=compact_ok (H:=[bI l']) (b:=0) (l:=l') (n:=(bothS p a b).length) rfl hlen q2.length_eq (Nat.zero_le _)
            have ec:cT l' (bothS p a b).length=bothT p a b:=by rw [← q2.length_eq]; exact both_sorted (by omega) q2 q3
            rw [ec] at w1 w2
            obtain ⟨N1,n1⟩:=q1.from
            obtain ⟨N2,n2⟩:=w1.from
            have s4:=bt_j_0 (max N1 N2) p (a.map encI) (b.map encI) (bothS p a b).length (bothT p a b).length [bI (bothS p a b)] (y10:=y10) (y12:=Ud) (y33:=.imm .arg 1 (a.map encI)) (y34:=.int .i64 (a.length:Int)) (y35:=y35) (y39:=y39) (y40:=y40) (y41:=y41) (fun kf h=>n1 kf (by omega)) (fun kf h=>n2 kf (by omega))
            have u:=sq (s0) (sq (s1) (sq (s2) (sq (sq (s3) (bke (c:=sub [1,1,1,0,1] B19) (lpi (e0:=(btE p a b 0 Ud Ud (.imm .arg 1 (a.map encI)) (.int .i64 (a.length:Int)) (.int .i64 ((0:Nat):Int)) Ud Ud Ud)) r (b:=sub [1,1,1,0,1,0,0] B19))) (c:=sub [1,1,1,0] B19)) (s4) (c:=sub [1,1,1] B19)) (c:=sub [1,1] B19)) (c:=sub [1] B19)) (c:=B19)
            refine ⟨_,_,.tuple [.sl 0 0 (bothT p a b).length none (bothS p a b).length 1,.int .i64 0],u,by simp only [resultsV,res19]; rfl,?_⟩
            have hR:bothR p a b=(bothT p a b,0):=by rw [bothR,h1,h2,h3,h4]; rfl
            rw [hR]
            have hv:view [bI (bothT p a b ++ T)] 0 0 (bothT p a b).length (bothS p a b).length 1=some ((bothT p a b).map encI):=by
              simp only [view,List.getElem?_cons_zero,bI]
              rw [if_pos ⟨by simpa using w2.symm,by simp,trivial⟩]
              simp
            have hr:(resElem [bI (bothT p a b ++ T)] [0] false)=frz [bI (bothT p a b ++ T)] [0] 4:=by funext v; rfl
            have hc:resCell [bI (bothT p a b ++ T)] [0] false (.sl 0 0 (bothT p a b).length none (bothS p a b).length 1)=some (.own 1 ((bothT p a b).map encI)):=by
              simp only [resCell,List.getElem?_cons_zero,bI,if_true] at hv ⊢
              simp only [hv]
              have hr':(resElem [Blk.arr 1 ((bothT p a b ++ T).map encI) true 0] [0] false)=frz [Blk.arr 1 ((bothT p a b ++ T).map encI) true 0] [0] 4:=by funext v; rfl
              rw [hr',mapO_self (fun r=>frz_int 4 r) _]
            have ho:ownedAll [bI (bothT p a b ++ T)] false (.tuple [.sl 0 0 (bothT p a b).length none (bothS p a b).length 1,.int .i64 0])=[0]:=by simp [ownedAll,cellsOf,owned]
            show toRes [bI (bothT p a b ++ T)] false _=_
            simp only [toRes,ho,List.nodup_cons,List.not_mem_nil,not_false_eq_true,List.nodup_nil,and_self,if_true,resVal,mapO,hc]
            rfl
  obtain ⟨E,H,v,u,hv,ht⟩:=fin
  exact ⟨_,_,_,v,u,by simp,hv,ht⟩
end Go.Proofs.Ytaibmipamkaljaa
end
section
open Go Go.HL Go.HL.So
namespace Go.Proofs.Ytaibmipamkaljaa
def BIp (n:Nat) (D:List Int) (T:List Bool):Prop:=T.length=n∧∀ r:Nat,r < n → T.getD r false=decide ((r:Int) ∈ D)
theorem BIp.put {n:Nat} {D:List Int} {T:List Bool} (h:BIp n D T) {v:Int} (h0:0 ≤ v) (h1:v.toNat < n):BIp n (D ++ [v]) (T.set v.toNat true):=by
  refine ⟨by rw [List.length_set]; exact h.1,fun r hr=>?_⟩
  simp only [List.getD,List.getElem?_set]
  by_cases e:v.toNat=r
  · rw [if_pos e,if_pos (by rw [h.1]; omega)]
    have:(r:Int)=v:=by omega
    rw [Option.getD_some,decide_eq_true (by rw [this]; simp)]
  · rw [if_neg e]
    have h2:=h.2 r hr
    simp only [List.getD] at h2
    rw [h2]
    congr 1
    have:¬ (r:Int)=v:=by omega
    simp [this]
end Go.Proofs.Ytaibmipamkaljaa
end
section
open Go Go.HL
namespace Go.Proofs.Ytaibmipamkaljaa
open Go.Proofs.Try renaming prog → Tp
open Go.HL.HV renaming undef → Ud
def prL32:FuncId → Option (List HV → Option HV):=fun g=>if g == 14 then some list14 else if g == 30 then some modF else if g == 21 then some rset21 else none
def polL32:Pol:={ pol with prim:=prL32 }
theorem soundL32 (n:Nat):CallSound Tp (callN Tp polL32 n):=sound_prim prL32 (fun g f h=>by
  unfold prL32 at h
  split at h
  · rename_i hg; cases h; rw [eq_of_beq hg]; exact list_ok
  split at h
  · rename_i hg; cases h; rw [eq_of_beq hg]; exact mod_ok
  split at h
  · rename_i hg; cases h; rw [eq_of_beq hg]; exact rset_ok
  · cases h) n
end Go.Proofs.Ytaibmipamkaljaa
end
section
open Go Go.HL
namespace Go.Proofs.Ytaibmipamkaljaa
set_option maxRecDepth 100000
open Go.Proofs.Try renaming prog → Tp
open Go.HL.HV renaming undef → Ud
noncomputable def B32:Code:=Try.f32.body.getD .skip
abbrev env32 (v0 v1 v4 v5 v6 v7:HV):Env:=[(0,v0),(1,v1),(4,v4),(5,v5),(6,v6),(7,v7)]
theorem sst_a_0 (p:Int) (l:List HV) :RT polL32 32 (sub [0] B32) [(0,.i p),(1,.a l)] [] .normal (env32 (.i p) (.a l) (.imm .lit 1 []) Ud Ud Ud) [] :=
  RunsTo.hin 0 60 [] fun kf hk=>⟨_,by kernel_rfl,.nil⟩
theorem sst_b_0 (p:Int) (l:List HV)  {y5 y6 y7:HV}:RT polL32 32 (sub [1,0] B32) (env32 (.i p) (.a l) (.imm .lit 1 []) y5 y6 y7) [] .normal (env32 (.i p) (.a l) (.imm .lit 1 []) (.s 0 0) y6 y7) [.b []] :=
  RunsTo.hin 0 60 [] fun kf hk=>⟨_,by kernel_rfl,.nil⟩
theorem sst_c_0 (p:Int) (l:List HV)  (H:Heap) (b z:Nat) {y6 y7:HV}:RT polL32 32 (sub [1,1,0,0] B32) (env32 (.i p) (.a l) (.imm .lit 1 []) (.s b z) y6 y7) H .normal (env32 (.i p) (.a l) (.imm .lit 1 []) (.s b z) (.i 0) y7) H :=
  RunsTo.hin 0 60 [] fun kf hk=>⟨_,by kernel_rfl,.nil⟩
theorem sst_d_0 (p:Int) (l:List HV)  (H:Heap) (b c z i:Nat) {y7:HV} {H0:Heap} {x0:Int} {m0:Int} {H1:Heap} (g0:(i:Int) < (l.length:Int)) (g1:(i:Int) < 110) (g2:∀ kf,callN Tp polL32 (kf+1) 14 [.s b z] H=some (.s c z,H0)) (g3:idxV Tp 22 (.a l) (.i (i:Int))=some (.vptr (.i x0))) (g4:∀ kf,callN Tp polL32 (kf+1) 30 [.i x0,.i p] H0=some (.i m0,H0)) (g5:appV H0 1 8 (.s c z) [.i m0]=some (.sl c 0 (z+1) none (z+1) 1,H1)) (gS5:((same (.i x0) (.i x0) && sameH (H0:Heap) H0 && sameH (H:Heap) H) && true)=true) (g7:∀ kf,callN Tp polL32 (kf+1) 21 [.i p,.sl c 0 (z+1) none (z+1) 1] H1=some (.bool true,H1)):RT polL32 32 (sub [1,1,0,1,0,0] B32) (env32 (.i p) (.a l) (.imm .lit 1 []) (.s b z) (.i (i:Int)) y7) H .normal (env32 (.i p) (.a l) (.imm .lit 1 []) (.sl c 0 (z+1) none (z+1) 1) (.i (IntKind.i64.wrap ((i:Int)+1))) (.sl c 0 (z+1) none (z+1) 1)) H1 :=
  RunsTo.hin 0 60 [⟨3,3,.bool true,H⟩,⟨3,6,.bool true,H⟩,⟨5,1,.s c z,H0⟩,⟨5,4,.vptr (.i x0),H0⟩,⟨5,7,.i m0,H0⟩,⟨5,9,.sl c 0 (z+1) none (z+1) 1,H1⟩,⟨6,2,.bool true,H1⟩] fun kf hk=>⟨_,by kernel_rfl,(oB H (decide_eq_true g0) (oB H (decide_eq_true g1) (oC (gS5) (oC (g2 kf) (oP H0 g3 (oC (g4 kf) (oC (g5) (oC (g7 kf) .nil))))))))⟩
theorem sst_d_1 (p:Int) (l:List HV)  (H:Heap) (b c z i:Nat) {y7:HV} {H0:Heap} {x0:Int} {m0:Int} {H1:Heap} (g0:(i:Int) < (l.length:Int)) (g1:(i:Int) < 110) (g2:∀ kf,callN Tp polL32 (kf+1) 14 [.s b z] H=some (.s c z,H0)) (g3:idxV Tp 22 (.a l) (.i (i:Int))=some (.vptr (.i x0))) (g4:∀ kf,callN Tp polL32 (kf+1) 30 [.i x0,.i p] H0=some (.i m0,H0)) (g5:appV H0 1 8 (.s c z) [.i m0]=some (.sl c 0 (z+1) none (z+1) 1,H1)) (gS5:((same (.i x0) (.i x0) && sameH (H0:Heap) H0 && sameH (H:Heap) H) && true)=true) (g7:∀ kf,callN Tp polL32 (kf+1) 21 [.i p,.sl c 0 (z+1) none (z+1) 1] H1=some (.bool false,H1)):RT polL32 32 (sub [1,1,0,1,0,0] B32) (env32 (.i p) (.a l) (.imm .lit 1 []) (.s b z) (.i (i:Int)) y7) H .normal (env32 (.i p) (.a l) (.imm .lit 1 []) (.s b z) (.i (IntKind.i64.wrap ((i:Int)+1))) (.sl c 0 (z+1) none (z+1) 1)) H1 :=
  RunsTo.hin 0 60 [⟨3,3,.bool true,H⟩,⟨3,6,.bool true,H⟩,⟨5,1,.s c z,H0⟩,⟨5,4,.vptr (.i x0),H0⟩,⟨5,7,.i m0,H0⟩,⟨5,9,.sl c 0 (z+1) none (z+1) 1,H1⟩,⟨6,2,.bool false,H1⟩] fun kf hk=>⟨_,by kernel_rfl,(oB H (decide_eq_true g0) (oB H (decide_eq_true g1) (oC (gS5) (oC (g2 kf) (oP H0 g3 (oC (g4 kf) (oC (g5) (oC (g7 kf) .nil))))))))⟩
theorem sst_d_2 (p:Int) (l:List HV)  (H:Heap) (b c z i:Nat) {y7:HV}(g0:(i:Int) < (l.length:Int)) (g1:¬ ((i:Int) < 110)):RT polL32 32 (sub [1,1,0,1,0,0] B32) (env32 (.i p) (.a l) (.imm .lit 1 []) (.s b z) (.i (i:Int)) y7) H (.exit 0) (env32 (.i p) (.a l) (.imm .lit 1 []) (.s b z) (.i (i:Int)) y7) H :=
  RunsTo.hin 0 60 [⟨3,3,.bool true,H⟩,⟨3,6,.bool false,H⟩] fun kf hk=>⟨_,by kernel_rfl,(oB H (decide_eq_true g0) (oB H (decide_eq_false g1) .nil))⟩
theorem sst_d_3 (p:Int) (l:List HV)  (H:Heap) (b c z i:Nat) {y7:HV}(g0:¬ ((i:Int) < (l.length:Int))):RT polL32 32 (sub [1,1,0,1,0,0] B32) (env32 (.i p) (.a l) (.imm .lit 1 []) (.s b z) (.i (i:Int)) y7) H (.exit 0) (env32 (.i p) (.a l) (.imm .lit 1 []) (.s b z) (.i (i:Int)) y7) H :=
  RunsTo.hin 0 60 [⟨3,3,.bool false,H⟩] fun kf hk=>⟨_,by kernel_rfl,(oB H (decide_eq_false g0) .nil)⟩
theorem sst_e_0 (p:Int) (l:List HV)  (H:Heap) (b z:Nat) {y6 y7:HV} {H0:Heap} (g0:(z:Int)=0) (g1:appV H 1 8 (.s b z) [.i 0]=some (.sl b 0 (z+1) none (z+1) 1,H0)):RT polL32 32 (sub [1,1,1,0] B32) (env32 (.i p) (.a l) (.imm .lit 1 []) (.s b z) y6 y7) H .normal (env32 (.i p) (.a l) (.imm .lit 1 []) (.sl b 0 (z+1) none (z+1) 1) y6 y7) H0 :=
  RunsTo.hin 0 60 [⟨8,2,.bool true,H⟩,⟨9,2,.sl b 0 (z+1) none (z+1) 1,H0⟩] fun kf hk=>⟨_,by kernel_rfl,(oB H (decide_eq_true g0) (oC (g1) .nil))⟩
theorem sst_e_1 (p:Int) (l:List HV)  (H:Heap) (b z:Nat) {y6 y7:HV}(g0:¬ ((z:Int)=0)):RT polL32 32 (sub [1,1,1,0] B32) (env32 (.i p) (.a l) (.imm .lit 1 []) (.s b z) y6 y7) H .normal (env32 (.i p) (.a l) (.imm .lit 1 []) (.s b z) y6 y7) H :=
  RunsTo.hin 0 60 [⟨8,2,.bool false,H⟩] fun kf hk=>⟨_,by kernel_rfl,(oB H (decide_eq_false g0) .nil)⟩
theorem sst_f_0 (p:Int) (l:List HV)  (H:Heap) (b z:Nat) {y6 y7:HV}:RT polL32 32 (sub [1,1,1,1] B32) (env32 (.i p) (.a l) (.imm .lit 1 []) (.s b z) y6 y7) H .ret (env32 (.i p) (.a l) (.s b z) (.s b z) y6 y7) H :=
  RunsTo.hin 0 60 [] fun kf hk=>⟨_,by kernel_rfl,.nil⟩
end Go.Proofs.Ytaibmipamkaljaa
end
section
open Go Go.HL
namespace Go.Proofs.Ytaibmipamkaljaa
open Go.Proofs.Try renaming prog → Tp
open Go.HL.HV renaming undef → Ud
theorem res32:Try.f32.results.toList=[.tmp 4]:=by kernel_rfl
def setG (p:Int):List Int → List Int → List Int
  | [],out=>out
  | x :: l,out=>setG p l (if setT p (out ++ [modW x p])=true then out ++ [modW x p] else out)
def setS (p:Int) (l:List Int):List Int:=if setG p (l.take 110) []=[] then [0] else setG p (l.take 110) []
def set32:List HV → Option HV:=plF fun p l=>if 1 ≤ p∧p ≤ 1000 then some (.own 1 ((setS p l).map encI)) else none
theorem rset32_at {pol':Pol} (hp:pol'.prim 21=some rset21) {p:Int} {l:List Int} {v:HV} {H:Heap} (h1:argI H v l) (hl:l.length ≤ 1000):∀ k,callN Tp pol' (k+1) 21 [.int .i64 p,v] H=some (.bool (setT p l),H):=fun k=>by
  have hd:mapO decI (l.map encI)=some l:=mapO_map decI_enc l
  have hN:toArg H 6 (.int .i64 p)=some (.int .i64 p):=rfl
  unfold argI at h1
  rw [prim_call (pol:=pol') (g:=21) (F:=rset21) hp (rs:=[.int .i64 p,.imm .arg 1 (l.map encI)]) (by simp only [mapO,h1,hN]) (res:=.bool (setT p l)) (by simp only [rset21,plF,hd]; rw [if_pos hl])]
  rfl
theorem app_in1 {H:Heap} {b:Nat} {o:List Int} (hb:H[b]?=some (bI o)) (hl:o.length ≤ 1000) (x:Int):appV H 1 8 (.sl b 0 o.length none o.length 1) [.int .i64 x]=some (.sl b 0 (o.length+1) none (o.length+1) 1,H.set b (bI (o ++ [x]))):=by
  have:=app_sl (H:=H) (k:=1) (bytes:=8) (b:=b) (n:=o.length) (mx:=0) (els:=o.map encI) (xs:=[.int .i64 x]) hb (by simp) (by simp) (by simp only [roomMax,List.length_singleton]; omega) rfl
  rw [this]
  simp only [bI,List.map_append,List.map_cons,List.map_nil,List.length_singleton]
  rfl
theorem sameH_ints:∀ Ls:List (List Int),sameH (Ls.map bI) (Ls.map bI)=true
  | []=>rfl
  | l :: Ls=>by
    have h1:sameL (l.map encI) (l.map encI)=true:=by
      induction l with
      | nil=>rfl
      | cons a l ih=>simp only [List.map_cons,sameL,ih,Bool.and_true]; simp [encI,same]
    have h2:=sameH_ints Ls
    rw [List.map_cons]
    simp only [sameH,h1,h2,beq_self_eq_true,Bool.and_self]
theorem gc_ints (r:Nat) (Ls Lt:List (List Int)):∃ Lu:List (List Int),gc (Ls.map bI).length r (Lt.map bI)=Lu.map bI∧∀ i,(i < Ls.length ∨ i < r) → Lu[i]?=Lt[i]? :=
  ⟨Lt.take (max (Ls.map bI).length (max r (mxs (Lt.map bI)))),by unfold gc; exact (List.map_take ..).symm,fun i h=>List.getElem?_take_of_lt (by rw [List.length_map]; omega)⟩
section
variable {p:Int} {l:List Int}
abbrev sstE (p:Int) (l:List Int) (b z:Nat) (v6 v7:HV):Env:=env32 (.int .i64 p) (.imm .arg 1 (l.map encI)) (.imm .lit 1 []) (.sl b 0 z none z 1) v6 v7
theorem sst_loop (hp:1 ≤ p∧p ≤ 1000):∀ k i (Ls:List (List Int)) (b:Nat) (out:List Int),i+k=(l.take 110).length → Ls[b]?=some out → out.length ≤ i →
    ∃ (Lt:List (List Int)) (b':Nat) (y6 y7:HV),RT polL32 32 (sub [1,1,0,1,0] B32) (sstE p l b out.length (.int .i64 (i:Int)) Ud) (Ls.map bI) (.exit 0) (sstE p l b' (setG p ((l.take 110).drop i) out).length y6 y7) (Lt.map bI)∧Lt[b']?=some (setG p ((l.take 110).drop i) out):=by
  intro k
  induction k with
  | zero =>
    intro i Ls b out hi hb ho
    rw [List.drop_of_length_le (by omega)]
    rw [List.length_take] at hi
    by_cases c:i < l.length
    · have s:=sst_d_2 p (l.map encI) (Ls.map bI) b 0 out.length i (y7:=Ud) (by rw [List.length_map]; omega) (by omega)
      exact ⟨Ls,b,_,_,lpo (s) (c:=sub [1,1,0,1,0] B32),hb⟩
    · have s:=sst_d_3 p (l.map encI) (Ls.map bI) b 0 out.length i (y7:=Ud) (by rw [List.length_map]; omega)
      exact ⟨Ls,b,_,_,lpo (s) (c:=sub [1,1,0,1,0] B32),hb⟩
  | succ k ih =>
    intro i Ls b out hi hb ho
    have hi':i < l.length∧i < 110:=by rw [List.length_take] at hi; omega
    have hbl:b < Ls.length:=lt_of_get hb
    have hd:(l.take 110).drop i=l.getD i 0 :: (l.take 110).drop (i+1):=by
      rw [List.drop_eq_getElem_cons (by omega)]
      simp [List.getD,List.getElem?_eq_getElem hi'.1]
    have c14:=list_at (pol':=polL32) (by kernel_rfl) (l:=out) (v:=.sl b 0 out.length none out.length 1) (H:=Ls.map bI) (argI_sl rfl (by rw [List.getElem?_map,hb]; rfl))
    have h0:Ls.map bI ++ [bI (out.take 110)]=(Ls ++ [out]).map bI:=by rw [List.take_of_length_le (by omega),List.map_append]; rfl
    have hl0:(out.take 110).length=out.length:=by rw [List.length_take]; omega
    rw [h0,hl0] at c14
    have c30:=mod_at (pol':=polL32) (by kernel_rfl) (l.getD i 0) (n:=p) (by omega) (by omega) ((Ls ++ [out]).map bI)
    have ap:=app_in1 (H:=(Ls ++ [out]).map bI) (b:=(Ls.map bI).length) (o:=out) (by rw [List.length_map,List.getElem?_map,List.getElem?_concat_length]; rfl) (by omega) (modW (l.getD i 0) p)
    have h1:((Ls ++ [out]).map bI).set (Ls.map bI).length (bI (out ++ [modW (l.getD i 0) p]))=(Ls ++ [out ++ [modW (l.getD i 0) p]]).map bI:=by
      rw [List.length_map,← List.map_set]
      congr 1
      rw [List.set_append_right _ _ (Nat.le_refl _),Nat.sub_self]; rfl
    rw [h1] at ap
    have hz:(Ls ++ [out ++ [modW (l.getD i 0) p]])[Ls.length]?=some (out ++ [modW (l.getD i 0) p]):=List.getElem?_concat_length
    have c21:=rset32_at (pol':=polL32) (by kernel_rfl) (p:=p) (l:=out ++ [modW (l.getD i 0) p]) (v:=.sl (Ls.map bI).length 0 (out.length+1) none (out.length+1) 1) (H:=(Ls ++ [out ++ [modW (l.getD i 0) p]]).map bI) (argI_sl (by simp) (by rw [List.length_map,List.getElem?_map,hz]; rfl)) (by simp; omega)
    have gS:((same (.int .i64 (l.getD i 0)) (.int .i64 (l.getD i 0)) && sameH ((Ls ++ [out]).map bI) ((Ls ++ [out]).map bI) && sameH (Ls.map bI) (Ls.map bI)) && true)=true:=by
      rw [sameH_ints,sameH_ints]; simp [same]
    rw [hd,setG]
    by_cases c:setT p (out ++ [modW (l.getD i 0) p])=true
    · rw [if_pos c]
      rw [c] at c21
      have s:=sst_d_0 p (l.map encI) (Ls.map bI) b (Ls.map bI).length out.length i (y7:=Ud) (by rw [List.length_map]; omega) (by omega) c14 (gx hi'.1) c30 ap gS c21
      rw [wrap_succ (by omega)] at s
      obtain ⟨Lu,u1,u2⟩:=gc_ints (bndE (sstE p l (Ls.map bI).length (out.length+1) (.int .i64 ((i+1:Nat):Int)) Ud)) Ls (Ls ++ [out ++ [modW (l.getD i 0) p]])
      obtain ⟨Lt,b',y6,y7,r,r2⟩:=ih (i+1) Lu (Ls.map bI).length (out ++ [modW (l.getD i 0) p]) (by omega) (by
        rw [u2 _ (.inr (by simp [bndE,bnd,bndL]))]
        rw [List.length_map]; exact hz) (by simp; omega)
      rw [List.length_append,List.length_singleton] at r
      exact ⟨Lt,b',y6,y7,lop (s) u1 (r),r2⟩
    · rw [if_neg c]
      rw [nb_false c] at c21
      have s:=sst_d_1 p (l.map encI) (Ls.map bI) b (Ls.map bI).length out.length i (y7:=Ud) (by rw [List.length_map]; omega) (by omega) c14 (gx hi'.1) c30 ap gS c21
      rw [wrap_succ (by omega)] at s
      obtain ⟨Lu,u1,u2⟩:=gc_ints (bndE (sstE p l b out.length (.int .i64 ((i+1:Nat):Int)) Ud)) Ls (Ls ++ [out ++ [modW (l.getD i 0) p]])
      obtain ⟨Lt,b',y6,y7,r,r2⟩:=ih (i+1) Lu b out (by omega) (by
        rw [u2 _ (.inl hbl),List.getElem?_append_left hbl]; exact hb) (by omega)
      exact ⟨Lt,b',y6,y7,lop (s) u1 (r),r2⟩
end
theorem setG_len (p:Int):∀ (l out:List Int),(setG p l out).length ≤ out.length+l.length
  | [],out=>by simp [setG]
  | x :: l,out=>by
    rw [setG]
    have:=setG_len p l (if setT p (out ++ [modW x p])=true then out ++ [modW x p] else out)
    have h:(if setT p (out ++ [modW x p])=true then out ++ [modW x p] else out).length ≤ out.length+1:=by split <;> simp
    simp only [List.length_cons]; omega
theorem set_ok:PrimOk Tp 32 set32:=by
  refine primOk_pure (pol:=polL32) (fn:=Try.f32) (cd:=B32) follows_mixed soundL32 (by kernel_rfl) (by kernel_rfl) (fnok polL32.prim _ _ (by kernel_rfl)) (by kernel_rfl) ?_
  intro args res h
  obtain ⟨p,l,rfl,hq⟩:=plF_inv h
  clear h
  split at hq
  case isFalse=>cases hq
  rename_i hp
  cases hq
  have s0:=sst_a_0 p (l.map encI)
  have s1:=sst_b_0 p (l.map encI) (y5:=Ud) (y6:=Ud) (y7:=Ud)
  have s2:=sst_c_0 p (l.map encI) [bI []] 0 0 (y6:=Ud) (y7:=Ud)
  obtain ⟨Lt,b',y6,y7,r,r2⟩:=sst_loop (l:=l) hp (l.take 110).length 0 [[]] 0 [] (by omega) rfl (Nat.le_refl _)
  rw [List.drop_zero] at r r2
  have hS:setS p l=if setG p (l.take 110) []=[] then [0] else setG p (l.take 110) []:=rfl
  have hL:=setG_len p (l.take 110) []
  rw [List.length_take,List.length_nil] at hL
  generalize setG p (l.take 110) []=S at *
  have hb:(Lt.map bI)[b']?=some (bI S):=by rw [List.getElem?_map,r2]; rfl
  rw [hS]
  by_cases c:S=[]
  · subst c
    rw [if_pos rfl]
    have ap:=app_in1 (H:=Lt.map bI) (b:=b') (o:=[]) hb (by simp) 0
    have s3:=sst_e_0 p (l.map encI) (Lt.map bI) b' 0 (y6:=y6) (y7:=y7) rfl ap
    have s4:=sst_f_0 p (l.map encI) ((Lt.map bI).set b' (bI ([] ++ [0]))) b' 1 (y6:=y6) (y7:=y7)
    have u:=sq (s0) (sq (s1) (sq (sq (s2) (bke (c:=sub [1,1,0,1] B32) (lpi (e0:=(sstE p l 0 0 (.int .i64 ((0:Nat):Int)) Ud)) r (b:=sub [1,1,0,1,0,0] B32))) (c:=sub [1,1,0] B32)) (sq (s3) (s4) (c:=sub [1,1,1] B32)) (c:=sub [1,1] B32)) (c:=sub [1] B32)) (c:=B32)
    exact ⟨_,_,_,.sl b' 0 1 none 1 1,u,by simp,by simp only [resultsV,res32]; rfl,res_li (o:=[0]) (List.getElem?_set_self (lt_of_get hb)) rfl⟩
  · rw [if_neg c]
    have s3:=sst_e_1 p (l.map encI) (Lt.map bI) b' S.length (y6:=y6) (y7:=y7) (fun h=>c (List.length_eq_zero_iff.1 (by omega)))
    have s4:=sst_f_0 p (l.map encI) (Lt.map bI) b' S.length (y6:=y6) (y7:=y7)
    have u:=sq (s0) (sq (s1) (sq (sq (s2) (bke (c:=sub [1,1,0,1] B32) (lpi (e0:=(sstE p l 0 0 (.int .i64 ((0:Nat):Int)) Ud)) r (b:=sub [1,1,0,1,0,0] B32))) (c:=sub [1,1,0] B32)) (sq (s3) (s4) (c:=sub [1,1,1] B32)) (c:=sub [1,1] B32)) (c:=sub [1] B32)) (c:=B32)
    exact ⟨_,_,_,.sl b' 0 S.length none S.length 1,u,by simp,by simp only [resultsV,res32]; rfl,res_li hb rfl⟩
end Go.Proofs.Ytaibmipamkaljaa
end
section
open Go Go.HL
namespace Go.Proofs.Ytaibmipamkaljaa
open Go.Proofs.Try renaming prog → Tp
open Go.HL.HV renaming undef → Ud
def prL8:FuncId → Option (List HV → Option HV):=fun g=>if g == 16 then some awakeF else if g == 17 then some ints17 else if g == 19 then some both19 else if g == 30 then some modF else if g == 32 then some set32 else none
def polL8:Pol:={ pol with prim:=prL8 }
theorem soundL8 (n:Nat):CallSound Tp (callN Tp polL8 n):=sound_prim prL8 (fun g f h=>by
  unfold prL8 at h
  split at h
  · rename_i hg; cases h; rw [eq_of_beq hg]; exact awake_prim
  split at h
  · rename_i hg; cases h; rw [eq_of_beq hg]; exact ints_ok
  split at h
  · rename_i hg; cases h; rw [eq_of_beq hg]; exact both_ok
  split at h
  · rename_i hg; cases h; rw [eq_of_beq hg]; exact mod_ok
  split at h
  · rename_i hg; cases h; rw [eq_of_beq hg]; exact set_ok
  · cases h) n
end Go.Proofs.Ytaibmipamkaljaa
end
section
open Go Go.HL
namespace Go.Proofs.Ytaibmipamkaljaa
set_option maxRecDepth 100000
open Go.Proofs.Try renaming prog → Tp
open Go.HL.HV renaming undef → Ud
noncomputable def B8:Code:=Try.f8.body.getD .skip
abbrev env8 (v0 v1 v2 v3 v8 v9 v10 v11 v12 v13 v14 v15 v16 v17 v18 v19 v20 v21 v22 v23:HV):Env:=[(0,v0),(1,v1),(2,v2),(3,v3),(8,v8),(9,v9),(10,v10),(11,v11),(12,v12),(13,v13),(14,v14),(15,v15),(16,v16),(17,v17),(18,v18),(19,v19),(20,v20),(21,v21),(22,v22),(23,v23)]
theorem sm_a_0 (a0 bz md:Int) (l1 l2:List HV) :RT polL8 8 (sub [0] B8) [(0,.i a0),(1,.a l1),(2,.a l2),(3,.i bz)] [] .normal (env8 (.i a0) (.a l1) (.a l2) (.i bz) (.bool false) Ud Ud Ud Ud Ud Ud Ud Ud Ud Ud Ud Ud Ud Ud Ud) [] :=
  RunsTo.hin 0 60 [] fun kf hk=>⟨_,by kernel_rfl,.nil⟩
theorem sm_b_0 (a0 bz md:Int) (l1 l2:List HV)  {y9 y10 y11 y12 y13 y14 y15 y16 y17 y18 y19 y20 y21 y22 y23:HV}:RT polL8 8 (sub [1,0] B8) (env8 (.i a0) (.a l1) (.a l2) (.i bz) (.bool false) y9 y10 y11 y12 y13 y14 y15 y16 y17 y18 y19 y20 y21 y22 y23) [] .normal (env8 (.i a0) (.a l1) (.a l2) (.i bz) (.bool false) (.ptr 0 0 0 1) y10 y11 y12 y13 y14 y15 y16 y17 y18 y19 y20 y21 y22 y23) [.arr 10 [.agg [.i 2,.i 3,.i 5,.i 7,.i 11,.i 13,.i 31,.i 53,.i 89,.i 97]] true 0] :=
  RunsTo.hin 0 60 [] fun kf hk=>⟨_,by kernel_rfl,.nil⟩
theorem sm_c_0 (a0 bz md:Int) (l1 l2:List HV)  {y10 y11 y12 y13 y14 y15 y16 y17 y18 y19 y20 y21 y22 y23:HV}(g0:∀ kf,callN Tp polL8 (kf+1) 30 [.i a0,.i 10] [.arr 10 [.agg [.i 2,.i 3,.i 5,.i 7,.i 11,.i 13,.i 31,.i 53,.i 89,.i 97]] true 0]=some (.i 0,[.arr 10 [.agg [.i 2,.i 3,.i 5,.i 7,.i 11,.i 13,.i 31,.i 53,.i 89,.i 97]] true 0])):RT polL8 8 (sub [1,1,0] B8) (env8 (.i a0) (.a l1) (.a l2) (.i bz) (.bool false) (.ptr 0 0 0 1) y10 y11 y12 y13 y14 y15 y16 y17 y18 y19 y20 y21 y22 y23) [.arr 10 [.agg [.i 2,.i 3,.i 5,.i 7,.i 11,.i 13,.i 31,.i 53,.i 89,.i 97]] true 0] .normal (env8 (.i a0) (.a l1) (.a l2) (.i bz) (.bool false) (.ptr 0 0 0 1) (.i 2) y11 y12 y13 y14 y15 y16 y17 y18 y19 y20 y21 y22 y23) [.arr 10 [.agg [.i 2,.i 3,.i 5,.i 7,.i 11,.i 13,.i 31,.i 53,.i 89,.i 97]] true 0] :=
  RunsTo.hin 0 60 [⟨2,1,.i 0,[.arr 10 [.agg [.i 2,.i 3,.i 5,.i 7,.i 11,.i 13,.i 31,.i 53,.i 89,.i 97]] true 0]⟩] fun kf hk=>⟨_,by kernel_rfl,(oC (g0 kf) .nil)⟩
theorem sm_c_1 (a0 bz md:Int) (l1 l2:List HV)  {y10 y11 y12 y13 y14 y15 y16 y17 y18 y19 y20 y21 y22 y23:HV}(g0:∀ kf,callN Tp polL8 (kf+1) 30 [.i a0,.i 10] [.arr 10 [.agg [.i 2,.i 3,.i 5,.i 7,.i 11,.i 13,.i 31,.i 53,.i 89,.i 97]] true 0]=some (.i 1,[.arr 10 [.agg [.i 2,.i 3,.i 5,.i 7,.i 11,.i 13,.i 31,.i 53,.i 89,.i 97]] true 0])):RT polL8 8 (sub [1,1,0] B8) (env8 (.i a0) (.a l1) (.a l2) (.i bz) (.bool false) (.ptr 0 0 0 1) y10 y11 y12 y13 y14 y15 y16 y17 y18 y19 y20 y21 y22 y23) [.arr 10 [.agg [.i 2,.i 3,.i 5,.i 7,.i 11,.i 13,.i 31,.i 53,.i 89,.i 97]] true 0] .normal (env8 (.i a0) (.a l1) (.a l2) (.i bz) (.bool false) (.ptr 0 0 0 1) (.i 3) y11 y12 y13 y14 y15 y16 y17 y18 y19 y20 y21 y22 y23) [.arr 10 [.agg [.i 2,.i 3,.i 5,.i 7,.i 11,.i 13,.i 31,.i 53,.i 89,.i 97]] true 0] :=
  RunsTo.hin 0 60 [⟨2,1,.i 1,[.arr 10 [.agg [.i 2,.i 3,.i 5,.i 7,.i 11,.i 13,.i 31,.i 53,.i 89,.i 97]] true 0]⟩] fun kf hk=>⟨_,by kernel_rfl,(oC (g0 kf) .nil)⟩
theorem sm_c_2 (a0 bz md:Int) (l1 l2:List HV)  {y10 y11 y12 y13 y14 y15 y16 y17 y18 y19 y20 y21 y22 y23:HV}(g0:∀ kf,callN Tp polL8 (kf+1) 30 [.i a0,.i 10] [.arr 10 [.agg [.i 2,.i 3,.i 5,.i 7,.i 11,.i 13,.i 31,.i 53,.i 89,.i 97]] true 0]=some (.i 2,[.arr 10 [.agg [.i 2,.i 3,.i 5,.i 7,.i 11,.i 13,.i 31,.i 53,.i 89,.i 97]] true 0])):RT polL8 8 (sub [1,1,0] B8) (env8 (.i a0) (.a l1) (.a l2) (.i bz) (.bool false) (.ptr 0 0 0 1) y10 y11 y12 y13 y14 y15 y16 y17 y18 y19 y20 y21 y22 y23) [.arr 10 [.agg [.i 2,.i 3,.i 5,.i 7,.i 11,.i 13,.i 31,.i 53,.i 89,.i 97]] true 0] .normal (env8 (.i a0) (.a l1) (.a l2) (.i bz) (.bool false) (.ptr 0 0 0 1) (.i 5) y11 y12 y13 y14 y15 y16 y17 y18 y19 y20 y21 y22 y23) [.arr 10 [.agg [.i 2,.i 3,.i 5,.i 7,.i 11,.i 13,.i 31,.i 53,.i 89,.i 97]] true 0] :=
  RunsTo.hin 0 60 [⟨2,1,.i 2,[.arr 10 [.agg [.i 2,.i 3,.i 5,.i 7,.i 11,.i 13,.i 31,.i 53,.i 89,.i 97]] true 0]⟩] fun kf hk=>⟨_,by kernel_rfl,(oC (g0 kf) .nil)⟩
theorem sm_c_3 (a0 bz md:Int) (l1 l2:List HV)  {y10 y11 y12 y13 y14 y15 y16 y17 y18 y19 y20 y21 y22 y23:HV}(g0:∀ kf,callN Tp polL8 (kf+1) 30 [.i a0,.i 10] [.arr 10 [.agg [.i 2,.i 3,.i 5,.i 7,.i 11,.i 13,.i 31,.i 53,.i 89,.i 97]] true 0]=some (.i 3,[.arr 10 [.agg [.i 2,.i 3,.i 5,.i 7,.i 11,.i 13,.i 31,.i 53,.i 89,.i 97]] true 0])):RT polL8 8 (sub [1,1,0] B8) (env8 (.i a0) (.a l1) (.a l2) (.i bz) (.bool false) (.ptr 0 0 0 1) y10 y11 y12 y13 y14 y15 y16 y17 y18 y19 y20 y21 y22 y23) [.arr 10 [.agg [.i 2,.i 3,.i 5,.i 7,.i 11,.i 13,.i 31,.i 53,.i 89,.i 97]] true 0] .normal (env8 (.i a0) (.a l1) (.a l2) (.i bz) (.bool false) (.ptr 0 0 0 1) (.i 7) y11 y12 y13 y14 y15 y16 y17 y18 y19 y20 y21 y22 y23) [.arr 10 [.agg [.i 2,.i 3,.i 5,.i 7,.i 11,.i 13,.i 31,.i 53,.i 89,.i 97]] true 0] :=
  RunsTo.hin 0 60 [⟨2,1,.i 3,[.arr 10 [.agg [.i 2,.i 3,.i 5,.i 7,.i 11,.i 13,.i 31,.i 53,.i 89,.i 97]] true 0]⟩] fun kf hk=>⟨_,by kernel_rfl,(oC (g0 kf) .nil)⟩
theorem sm_c_4 (a0 bz md:Int) (l1 l2:List HV)  {y10 y11 y12 y13 y14 y15 y16 y17 y18 y19 y20 y21 y22 y23:HV}(g0:∀ kf,callN Tp polL8 (kf+1) 30 [.i a0,.i 10] [.arr 10 [.agg [.i 2,.i 3,.i 5,.i 7,.i 11,.i 13,.i 31,.i 53,.i 89,.i 97]] true 0]=some (.i 4,[.arr 10 [.agg [.i 2,.i 3,.i 5,.i 7,.i 11,.i 13,.i 31,.i 53,.i 89,.i 97]] true 0])):RT polL8 8 (sub [1,1,0] B8) (env8 (.i a0) (.a l1) (.a l2) (.i bz) (.bool false) (.ptr 0 0 0 1) y10 y11 y12 y13 y14 y15 y16 y17 y18 y19 y20 y21 y22 y23) [.arr 10 [.agg [.i 2,.i 3,.i 5,.i 7,.i 11,.i 13,.i 31,.i 53,.i 89,.i 97]] true 0] .normal (env8 (.i a0) (.a l1) (.a l2) (.i bz) (.bool false) (.ptr 0 0 0 1) (.i 11) y11 y12 y13 y14 y15 y16 y17 y18 y19 y20 y21 y22 y23) [.arr 10 [.agg [.i 2,.i 3,.i 5,.i 7,.i 11,.i 13,.i 31,.i 53,.i 89,.i 97]] true 0] :=
  RunsTo.hin 0 60 [⟨2,1,.i 4,[.arr 10 [.agg [.i 2,.i 3,.i 5,.i 7,.i 11,.i 13,.i 31,.i 53,.i 89,.i 97]] true 0]⟩] fun kf hk=>⟨_,by kernel_rfl,(oC (g0 kf) .nil)⟩
theorem sm_c_5 (a0 bz md:Int) (l1 l2:List HV)  {y10 y11 y12 y13 y14 y15 y16 y17 y18 y19 y20 y21 y22 y23:HV}(g0:∀ kf,callN Tp polL8 (kf+1) 30 [.i a0,.i 10] [.arr 10 [.agg [.i 2,.i 3,.i 5,.i 7,.i 11,.i 13,.i 31,.i 53,.i 89,.i 97]] true 0]=some (.i 5,[.arr 10 [.agg [.i 2,.i 3,.i 5,.i 7,.i 11,.i 13,.i 31,.i 53,.i 89,.i 97]] true 0])):RT polL8 8 (sub [1,1,0] B8) (env8 (.i a0) (.a l1) (.a l2) (.i bz) (.bool false) (.ptr 0 0 0 1) y10 y11 y12 y13 y14 y15 y16 y17 y18 y19 y20 y21 y22 y23) [.arr 10 [.agg [.i 2,.i 3,.i 5,.i 7,.i 11,.i 13,.i 31,.i 53,.i 89,.i 97]] true 0] .normal (env8 (.i a0) (.a l1) (.a l2) (.i bz) (.bool false) (.ptr 0 0 0 1) (.i 13) y11 y12 y13 y14 y15 y16 y17 y18 y19 y20 y21 y22 y23) [.arr 10 [.agg [.i 2,.i 3,.i 5,.i 7,.i 11,.i 13,.i 31,.i 53,.i 89,.i 97]] true 0] :=
  RunsTo.hin 0 60 [⟨2,1,.i 5,[.arr 10 [.agg [.i 2,.i 3,.i 5,.i 7,.i 11,.i 13,.i 31,.i 53,.i 89,.i 97]] true 0]⟩] fun kf hk=>⟨_,by kernel_rfl,(oC (g0 kf) .nil)⟩
theorem sm_c_6 (a0 bz md:Int) (l1 l2:List HV)  {y10 y11 y12 y13 y14 y15 y16 y17 y18 y19 y20 y21 y22 y23:HV}(g0:∀ kf,callN Tp polL8 (kf+1) 30 [.i a0,.i 10] [.arr 10 [.agg [.i 2,.i 3,.i 5,.i 7,.i 11,.i 13,.i 31,.i 53,.i 89,.i 97]] true 0]=some (.i 6,[.arr 10 [.agg [.i 2,.i 3,.i 5,.i 7,.i 11,.i 13,.i 31,.i 53,.i 89,.i 97]] true 0])):RT polL8 8 (sub [1,1,0] B8) (env8 (.i a0) (.a l1) (.a l2) (.i bz) (.bool false) (.ptr 0 0 0 1) y10 y11 y12 y13 y14 y15 y16 y17 y18 y19 y20 y21 y22 y23) [.arr 10 [.agg [.i 2,.i 3,.i 5,.i 7,.i 11,.i 13,.i 31,.i 53,.i 89,.i 97]] true 0] .normal (env8 (.i a0) (.a l1) (.a l2) (.i bz) (.bool false) (.ptr 0 0 0 1) (.i 31) y11 y12 y13 y14 y15 y16 y17 y18 y19 y20 y21 y22 y23) [.arr 10 [.agg [.i 2,.i 3,.i 5,.i 7,.i 11,.i 13,.i 31,.i 53,.i 89,.i 97]] true 0] :=
  RunsTo.hin 0 60 [⟨2,1,.i 6,[.arr 10 [.agg [.i 2,.i 3,.i 5,.i 7,.i 11,.i 13,.i 31,.i 53,.i 89,.i 97]] true 0]⟩] fun kf hk=>⟨_,by kernel_rfl,(oC (g0 kf) .nil)⟩
theorem sm_c_7 (a0 bz md:Int) (l1 l2:List HV)  {y10 y11 y12 y13 y14 y15 y16 y17 y18 y19 y20 y21 y22 y23:HV}(g0:∀ kf,callN Tp polL8 (kf+1) 30 [.i a0,.i 10] [.arr 10 [.agg [.i 2,.i 3,.i 5,.i 7,.i 11,.i 13,.i 31,.i 53,.i 89,.i 97]] true 0]=some (.i 7,[.arr 10 [.agg [.i 2,.i 3,.i 5,.i 7,.i 11,.i 13,.i 31,.i 53,.i 89,.i 97]] true 0])):RT polL8 8 (sub [1,1,0] B8) (env8 (.i a0) (.a l1) (.a l2) (.i bz) (.bool false) (.ptr 0 0 0 1) y10 y11 y12 y13 y14 y15 y16 y17 y18 y19 y20 y21 y22 y23) [.arr 10 [.agg [.i 2,.i 3,.i 5,.i 7,.i 11,.i 13,.i 31,.i 53,.i 89,.i 97]] true 0] .normal (env8 (.i a0) (.a l1) (.a l2) (.i bz) (.bool false) (.ptr 0 0 0 1) (.i 53) y11 y12 y13 y14 y15 y16 y17 y18 y19 y20 y21 y22 y23) [.arr 10 [.agg [.i 2,.i 3,.i 5,.i 7,.i 11,.i 13,.i 31,.i 53,.i 89,.i 97]] true 0] :=
  RunsTo.hin 0 60 [⟨2,1,.i 7,[.arr 10 [.agg [.i 2,.i 3,.i 5,.i 7,.i 11,.i 13,.i 31,.i 53,.i 89,.i 97]] true 0]⟩] fun kf hk=>⟨_,by kernel_rfl,(oC (g0 kf) .nil)⟩
theorem sm_c_8 (a0 bz md:Int) (l1 l2:List HV)  {y10 y11 y12 y13 y14 y15 y16 y17 y18 y19 y20 y21 y22 y23:HV}(g0:∀ kf,callN Tp polL8 (kf+1) 30 [.i a0,.i 10] [.arr 10 [.agg [.i 2,.i 3,.i 5,.i 7,.i 11,.i 13,.i 31,.i 53,.i 89,.i 97]] true 0]=some (.i 8,[.arr 10 [.agg [.i 2,.i 3,.i 5,.i 7,.i 11,.i 13,.i 31,.i 53,.i 89,.i 97]] true 0])):RT polL8 8 (sub [1,1,0] B8) (env8 (.i a0) (.a l1) (.a l2) (.i bz) (.bool false) (.ptr 0 0 0 1) y10 y11 y12 y13 y14 y15 y16 y17 y18 y19 y20 y21 y22 y23) [.arr 10 [.agg [.i 2,.i 3,.i 5,.i 7,.i 11,.i 13,.i 31,.i 53,.i 89,.i 97]] true 0] .normal (env8 (.i a0) (.a l1) (.a l2) (.i bz) (.bool false) (.ptr 0 0 0 1) (.i 89) y11 y12 y13 y14 y15 y16 y17 y18 y19 y20 y21 y22 y23) [.arr 10 [.agg [.i 2,.i 3,.i 5,.i 7,.i 11,.i 13,.i 31,.i 53,.i 89,.i 97]] true 0] :=
  RunsTo.hin 0 60 [⟨2,1,.i 8,[.arr 10 [.agg [.i 2,.i 3,.i 5,.i 7,.i 11,.i 13,.i 31,.i 53,.i 89,.i 97]] true 0]⟩] fun kf hk=>⟨_,by kernel_rfl,(oC (g0 kf) .nil)⟩
theorem sm_c_9 (a0 bz md:Int) (l1 l2:List HV)  {y10 y11 y12 y13 y14 y15 y16 y17 y18 y19 y20 y21 y22 y23:HV}(g0:∀ kf,callN Tp polL8 (kf+1) 30 [.i a0,.i 10] [.arr 10 [.agg [.i 2,.i 3,.i 5,.i 7,.i 11,.i 13,.i 31,.i 53,.i 89,.i 97]] true 0]=some (.i 9,[.arr 10 [.agg [.i 2,.i 3,.i 5,.i 7,.i 11,.i 13,.i 31,.i 53,.i 89,.i 97]] true 0])):RT polL8 8 (sub [1,1,0] B8) (env8 (.i a0) (.a l1) (.a l2) (.i bz) (.bool false) (.ptr 0 0 0 1) y10 y11 y12 y13 y14 y15 y16 y17 y18 y19 y20 y21 y22 y23) [.arr 10 [.agg [.i 2,.i 3,.i 5,.i 7,.i 11,.i 13,.i 31,.i 53,.i 89,.i 97]] true 0] .normal (env8 (.i a0) (.a l1) (.a l2) (.i bz) (.bool false) (.ptr 0 0 0 1) (.i 97) y11 y12 y13 y14 y15 y16 y17 y18 y19 y20 y21 y22 y23) [.arr 10 [.agg [.i 2,.i 3,.i 5,.i 7,.i 11,.i 13,.i 31,.i 53,.i 89,.i 97]] true 0] :=
  RunsTo.hin 0 60 [⟨2,1,.i 9,[.arr 10 [.agg [.i 2,.i 3,.i 5,.i 7,.i 11,.i 13,.i 31,.i 53,.i 89,.i 97]] true 0]⟩] fun kf hk=>⟨_,by kernel_rfl,(oC (g0 kf) .nil)⟩
theorem sm_d_0 (a0 bz md:Int) (l1 l2:List HV) (pr:List HV) (p1:Nat) (h1:List HV) (p2:Nat) (h2:List HV) (p3:Nat) (h3:List HV) (p4:Nat) (h4:List HV) (p5:Nat) (h5:List HV) (p6:Nat) (h6:List HV) (p:Int) {y9 y11 y12 y13 y14 y15 y16 y17 y18 y19 y20 y21 y22 y23:HV}(g0:∀ kf,callN Tp polL8 (kf+1) 32 [.i p,.a l1] [.arr 10 pr true 0]=some (.s 1 p1,[.arr 10 pr true 0,.b h1])) (g1:∀ kf,callN Tp polL8 (kf+1) 32 [.i p,.a l2] [.arr 10 pr true 0,.b h1]=some (.s 2 p2,[.arr 10 pr true 0,.b h1,.b h2])):RT polL8 8 (sub [1,1,1,0] B8) (env8 (.i a0) (.a l1) (.a l2) (.i bz) (.bool false) y9 (.i p) y11 y12 y13 y14 y15 y16 y17 y18 y19 y20 y21 y22 y23) [.arr 10 pr true 0] .normal (env8 (.i a0) (.a l1) (.a l2) (.i bz) (.bool false) y9 (.i p) (.s 1 p1) (.s 2 p2) y13 y14 y15 y16 y17 y18 y19 y20 y21 y22 y23) [.arr 10 pr true 0,.b h1,.b h2] :=
  RunsTo.hin 0 60 [⟨3,2,.s 1 p1,[.arr 10 pr true 0,.b h1]⟩,⟨3,5,.s 2 p2,[.arr 10 pr true 0,.b h1,.b h2]⟩] fun kf hk=>⟨_,by kernel_rfl,(oC (g0 kf) (oC (g1 kf) .nil))⟩
theorem sm_e_0 (a0 bz md:Int) (l1 l2:List HV) (pr:List HV) (p1:Nat) (h1:List HV) (p2:Nat) (h2:List HV) (p3:Nat) (h3:List HV) (p4:Nat) (h4:List HV) (p5:Nat) (h5:List HV) (p6:Nat) (h6:List HV) (p:Int) {y9 y13 y14 y15 y16 y17 y18 y19 y20 y21 y22 y23:HV}(g0:∀ kf,callN Tp polL8 (kf+1) 19 [.i p,.s 1 p1,.s 2 p2] [.arr 10 pr true 0,.b h1,.b h2]=some (.tuple [.s 3 p3,.i 0],[.arr 10 pr true 0,.b h1,.b h2,.b h3])):RT polL8 8 (sub [1,1,1,1,0] B8) (env8 (.i a0) (.a l1) (.a l2) (.i bz) (.bool false) y9 (.i p) (.s 1 p1) (.s 2 p2) y13 y14 y15 y16 y17 y18 y19 y20 y21 y22 y23) [.arr 10 pr true 0,.b h1,.b h2] .normal (env8 (.i a0) (.a l1) (.a l2) (.i bz) (.bool false) y9 (.i p) (.s 1 p1) (.s 2 p2) (.s 3 p3) (.i 0) y15 y16 y17 y18 y19 y20 y21 y22 y23) [.arr 10 pr true 0,.b h1,.b h2,.b h3] :=
  RunsTo.hin 0 60 [⟨4,3,.tuple [.s 3 p3,.i 0],[.arr 10 pr true 0,.b h1,.b h2,.b h3]⟩] fun kf hk=>⟨_,by kernel_rfl,(oC (g0 kf) .nil)⟩
theorem sm_f_0 (a0 bz md:Int) (l1 l2:List HV) (pr:List HV) (p1:Nat) (h1:List HV) (p2:Nat) (h2:List HV) (p3:Nat) (h3:List HV) (p4:Nat) (h4:List HV) (p5:Nat) (h5:List HV) (p6:Nat) (h6:List HV) (p:Int) {y9 y15 y16 y17 y18 y19 y20 y21 y22 y23:HV}(g0:∀ kf,callN Tp polL8 (kf+1) 19 [.i p,.s 2 p2,.s 1 p1] [.arr 10 pr true 0,.b h1,.b h2,.b h3]=some (.tuple [.s 4 p4,.i 0],[.arr 10 pr true 0,.b h1,.b h2,.b h3,.b h4])):RT polL8 8 (sub [1,1,1,1,1,0] B8) (env8 (.i a0) (.a l1) (.a l2) (.i bz) (.bool false) y9 (.i p) (.s 1 p1) (.s 2 p2) (.s 3 p3) (.i 0) y15 y16 y17 y18 y19 y20 y21 y22 y23) [.arr 10 pr true 0,.b h1,.b h2,.b h3] .normal (env8 (.i a0) (.a l1) (.a l2) (.i bz) (.bool false) y9 (.i p) (.s 1 p1) (.s 2 p2) (.s 3 p3) (.i 0) (.s 4 p4) (.i 0) y17 y18 y19 y20 y21 y22 y23) [.arr 10 pr true 0,.b h1,.b h2,.b h3,.b h4] :=
  RunsTo.hin 0 60 [⟨5,3,.tuple [.s 4 p4,.i 0],[.arr 10 pr true 0,.b h1,.b h2,.b h3,.b h4]⟩] fun kf hk=>⟨_,by kernel_rfl,(oC (g0 kf) .nil)⟩
theorem sm_g_0 (a0 bz md:Int) (l1 l2:List HV) (pr:List HV) (p1:Nat) (h1:List HV) (p2:Nat) (h2:List HV) (p3:Nat) (h3:List HV) (p4:Nat) (h4:List HV) (p5:Nat) (h5:List HV) (p6:Nat) (h6:List HV) (p:Int) {y9 y17 y18 y19 y20 y21 y22 y23:HV}:RT polL8 8 (sub [1,1,1,1,1,1,0] B8) (env8 (.i a0) (.a l1) (.a l2) (.i bz) (.bool false) y9 (.i p) (.s 1 p1) (.s 2 p2) (.s 3 p3) (.i 0) (.s 4 p4) (.i 0) y17 y18 y19 y20 y21 y22 y23) [.arr 10 pr true 0,.b h1,.b h2,.b h3,.b h4] .normal (env8 (.i a0) (.a l1) (.a l2) (.i bz) (.bool false) y9 (.i p) (.s 1 p1) (.s 2 p2) (.s 3 p3) (.i 0) (.s 4 p4) (.i 0) (.s 5 0) y18 y19 y20 y21 y22 y23) [.arr 10 pr true 0,.b h1,.b h2,.b h3,.b h4,.b []] :=
  RunsTo.hin 0 60 [] fun kf hk=>⟨_,by kernel_rfl,.nil⟩
theorem sm_h_0 (a0 bz md:Int) (l1 l2:List HV) (pr:List HV) (p1:Nat) (h1:List HV) (p2:Nat) (h2:List HV) (p3:Nat) (h3:List HV) (p4:Nat) (h4:List HV) (p5:Nat) (h5:List HV) (p6:Nat) (h6:List HV) (p:Int) {y9 y18 y19 y20 y21 y22 y23:HV}:RT polL8 8 (sub [1,1,1,1,1,1,1,0,0] B8) (env8 (.i a0) (.a l1) (.a l2) (.i bz) (.bool false) y9 (.i p) (.s 1 p1) (.s 2 p2) (.s 3 p3) (.i 0) (.s 4 p4) (.i 0) (.s 5 p5) y18 y19 y20 y21 y22 y23) [.arr 10 pr true 0,.b h1,.b h2,.b h3,.b h4,.b h5] .normal (env8 (.i a0) (.a l1) (.a l2) (.i bz) (.bool false) y9 (.i p) (.s 1 p1) (.s 2 p2) (.s 3 p3) (.i 0) (.s 4 p4) (.i 0) (.s 5 p5) (.i 0) y19 y20 y21 y22 y23) [.arr 10 pr true 0,.b h1,.b h2,.b h3,.b h4,.b h5] :=
  RunsTo.hin 0 60 [] fun kf hk=>⟨_,by kernel_rfl,.nil⟩
theorem sm_i_0 (a0 bz md:Int) (l1 l2:List HV) (pr:List HV) (p1:Nat) (h1:List HV) (p2:Nat) (h2:List HV) (p3:Nat) (h3:List HV) (p4:Nat) (h4:List HV) (p5:Nat) (h5:List HV) (p6:Nat) (h6:List HV) (p:Int) (i:Nat) {y9 y19 y20 y21 y22 y23:HV} {x0:Int} (g0:(i:Int) < (p1:Int)) (g1:idxV Tp 22 (.s 1 p1) (.i (i:Int))=some (.ptr 1 i 0 p1)) (g2:loadV Tp [.arr 10 pr true 0,.b h1,.b h2,.b h3,.b h4,.b h5] 3 (.ptr 1 i 0 p1)=some (.i x0)) (g3:∀ kf,callN Tp polL8 (kf+1) 30 [.i bz,.i p] [.arr 10 pr true 0,.b h1,.b h2,.b h3,.b h4,.b h5]=some (.i md,[.arr 10 pr true 0,.b h1,.b h2,.b h3,.b h4,.b h5])) (g4:binV Tp .rem 3 (.i (IntKind.i64.wrap (x0+md))) (.i p)=some (.i ((IntKind.i64.wrap (x0+md):Int).tmod p))) (g5:appV [.arr 10 pr true 0,.b h1,.b h2,.b h3,.b h4,.b h5] 1 8 (.s 5 p5) [.i ((IntKind.i64.wrap (x0+md):Int).tmod p)]=some (.sl 5 0 (p5+1) none (p5+1) 1,[.arr 10 pr true 0,.b h1,.b h2,.b h3,.b h4,.arr 1 (h5 ++ [.i ((IntKind.i64.wrap (x0+md):Int).tmod p)]) true 0])) (gS10:(recL ((loadV Tp [.arr 10 pr true 0,.b h1,.b h2,.b h3,.b h4,.b h5] 3 (.ptr 1 i 0 p1)).map (fun v=>(v,([.arr 10 pr true 0,.b h1,.b h2,.b h3,.b h4,.b h5]:Heap)))) ((loadV Tp [.arr 10 pr true 0,.b h1,.b h2,.b h3,.b h4,.b h5] 3 (.ptr 1 i 0 p1)).map (fun v=>(v,([.arr 10 pr true 0,.b h1,.b h2,.b h3,.b h4,.b h5]:Heap)))) [.arr 10 pr true 0,.b h1,.b h2,.b h3,.b h4,.b h5] [.arr 10 pr true 0,.b h1,.b h2,.b h3,.b h4,.b h5] && true)=true):RT polL8 8 (sub [1,1,1,1,1,1,1,0,1,0,0] B8) (env8 (.i a0) (.a l1) (.a l2) (.i bz) (.bool false) y9 (.i p) (.s 1 p1) (.s 2 p2) (.s 3 p3) (.i 0) (.s 4 p4) (.i 0) (.s 5 p5) (.i (i:Int)) y19 y20 y21 y22 y23) [.arr 10 pr true 0,.b h1,.b h2,.b h3,.b h4,.b h5] .normal (env8 (.i a0) (.a l1) (.a l2) (.i bz) (.bool false) y9 (.i p) (.s 1 p1) (.s 2 p2) (.s 3 p3) (.i 0) (.s 4 p4) (.i 0) (.sl 5 0 (p5+1) none (p5+1) 1) (.i (IntKind.i64.wrap ((i:Int)+1))) y19 y20 y21 y22 y23) [.arr 10 pr true 0,.b h1,.b h2,.b h3,.b h4,.arr 1 (h5 ++ [.i ((IntKind.i64.wrap (x0+md):Int).tmod p)]) true 0] :=
  RunsTo.hin 0 60 [⟨8,3,.bool true,[.arr 10 pr true 0,.b h1,.b h2,.b h3,.b h4,.b h5]⟩,⟨10,3,.ptr 1 i 0 p1,[.arr 10 pr true 0,.b h1,.b h2,.b h3,.b h4,.b h5]⟩,⟨10,4,.i x0,[.arr 10 pr true 0,.b h1,.b h2,.b h3,.b h4,.b h5]⟩,⟨10,7,.i md,[.arr 10 pr true 0,.b h1,.b h2,.b h3,.b h4,.b h5]⟩,⟨10,10,.i ((IntKind.i64.wrap (x0+md):Int).tmod p),[.arr 10 pr true 0,.b h1,.b h2,.b h3,.b h4,.b h5]⟩,⟨10,12,.sl 5 0 (p5+1) none (p5+1) 1,[.arr 10 pr true 0,.b h1,.b h2,.b h3,.b h4,.arr 1 (h5 ++ [.i ((IntKind.i64.wrap (x0+md):Int).tmod p)]) true 0]⟩] fun kf hk=>⟨_,by kernel_rfl,(oB [.arr 10 pr true 0,.b h1,.b h2,.b h3,.b h4,.b h5] (decide_eq_true g0) (oC (gS10) (oP [.arr 10 pr true 0,.b h1,.b h2,.b h3,.b h4,.b h5] g1 (oP [.arr 10 pr true 0,.b h1,.b h2,.b h3,.b h4,.b h5] g2 (oC (g3 kf) (oP [.arr 10 pr true 0,.b h1,.b h2,.b h3,.b h4,.b h5] g4 (oC (g5) .nil)))))))⟩
theorem sm_i_1 (a0 bz md:Int) (l1 l2:List HV) (pr:List HV) (p1:Nat) (h1:List HV) (p2:Nat) (h2:List HV) (p3:Nat) (h3:List HV) (p4:Nat) (h4:List HV) (p5:Nat) (h5:List HV) (p6:Nat) (h6:List HV) (p:Int) (i:Nat) {y9 y19 y20 y21 y22 y23:HV}(g0:¬ ((i:Int) < (p1:Int))):RT polL8 8 (sub [1,1,1,1,1,1,1,0,1,0,0] B8) (env8 (.i a0) (.a l1) (.a l2) (.i bz) (.bool false) y9 (.i p) (.s 1 p1) (.s 2 p2) (.s 3 p3) (.i 0) (.s 4 p4) (.i 0) (.s 5 p5) (.i (i:Int)) y19 y20 y21 y22 y23) [.arr 10 pr true 0,.b h1,.b h2,.b h3,.b h4,.b h5] (.exit 0) (env8 (.i a0) (.a l1) (.a l2) (.i bz) (.bool false) y9 (.i p) (.s 1 p1) (.s 2 p2) (.s 3 p3) (.i 0) (.s 4 p4) (.i 0) (.s 5 p5) (.i (i:Int)) y19 y20 y21 y22 y23) [.arr 10 pr true 0,.b h1,.b h2,.b h3,.b h4,.b h5] :=
  RunsTo.hin 0 60 [⟨8,3,.bool false,[.arr 10 pr true 0,.b h1,.b h2,.b h3,.b h4,.b h5]⟩] fun kf hk=>⟨_,by kernel_rfl,(oB [.arr 10 pr true 0,.b h1,.b h2,.b h3,.b h4,.b h5] (decide_eq_false g0) .nil)⟩
theorem sm_j_0 (a0 bz md:Int) (l1 l2:List HV) (pr:List HV) (p1:Nat) (h1:List HV) (p2:Nat) (h2:List HV) (p3:Nat) (h3:List HV) (p4:Nat) (h4:List HV) (p5:Nat) (h5:List HV) (p6:Nat) (h6:List HV) (p:Int) {y9 y18 y19 y20 y21 y22 y23:HV}(g0:∀ kf,callN Tp polL8 (kf+1) 19 [.i p,.s 5 p5,.s 2 p2] [.arr 10 pr true 0,.b h1,.b h2,.b h3,.b h4,.b h5]=some (.tuple [.s 6 p6,.i 0],[.arr 10 pr true 0,.b h1,.b h2,.b h3,.b h4,.b h5,.b h6])):RT polL8 8 (sub [1,1,1,1,1,1,1,1,0] B8) (env8 (.i a0) (.a l1) (.a l2) (.i bz) (.bool false) y9 (.i p) (.s 1 p1) (.s 2 p2) (.s 3 p3) (.i 0) (.s 4 p4) (.i 0) (.s 5 p5) y18 y19 y20 y21 y22 y23) [.arr 10 pr true 0,.b h1,.b h2,.b h3,.b h4,.b h5] .normal (env8 (.i a0) (.a l1) (.a l2) (.i bz) (.bool false) y9 (.i p) (.s 1 p1) (.s 2 p2) (.s 3 p3) (.i 0) (.s 4 p4) (.i 0) (.s 5 p5) y18 (.s 6 p6) (.i 0) y21 y22 y23) [.arr 10 pr true 0,.b h1,.b h2,.b h3,.b h4,.b h5,.b h6] :=
  RunsTo.hin 0 60 [⟨11,3,.tuple [.s 6 p6,.i 0],[.arr 10 pr true 0,.b h1,.b h2,.b h3,.b h4,.b h5,.b h6]⟩] fun kf hk=>⟨_,by kernel_rfl,(oC (g0 kf) .nil)⟩
theorem sm_k_2 (a0 bz md:Int) (l1 l2:List HV) (pr:List HV) (p1:Nat) (h1:List HV) (p2:Nat) (h2:List HV) (p3:Nat) (h3:List HV) (p4:Nat) (h4:List HV) (p5:Nat) (h5:List HV) (p6:Nat) (h6:List HV) (p:Int) {y9 y18 y21 y22 y23:HV}(g0:∀ kf,callN Tp polL8 (kf+1) 17 [.s 3 p3,.s 4 p4] [.arr 10 pr true 0,.b h1,.b h2,.b h3,.b h4,.b h5,.b h6]=some (.bool true,[.arr 10 pr true 0,.b h1,.b h2,.b h3,.b h4,.b h5,.b h6])) (g1:¬ ((p3:Int) < min p (IntKind.i64.wrap (IntKind.i64.wrap ((p1:Int)+(p2:Int)) - 1)))) (g2:¬ (IntKind.i64.wrap ((p1:Int) * (p2:Int)) < (p3:Int))) (g3:(p6:Int)=(p3:Int)):RT polL8 8 (sub [1,1,1,1,1,1,1,1,1,0] B8) (env8 (.i a0) (.a l1) (.a l2) (.i bz) (.bool false) y9 (.i p) (.s 1 p1) (.s 2 p2) (.s 3 p3) (.i 0) (.s 4 p4) (.i 0) (.s 5 p5) y18 (.s 6 p6) (.i 0) y21 y22 y23) [.arr 10 pr true 0,.b h1,.b h2,.b h3,.b h4,.b h5,.b h6] .normal (env8 (.i a0) (.a l1) (.a l2) (.i bz) (.bool false) y9 (.i p) (.s 1 p1) (.s 2 p2) (.s 3 p3) (.i 0) (.s 4 p4) (.i 0) (.s 5 p5) y18 (.s 6 p6) (.i 0) y21 y22 y23) [.arr 10 pr true 0,.b h1,.b h2,.b h3,.b h4,.b h5,.b h6] :=
  RunsTo.hin 0 60 [⟨12,13,.bool true,[.arr 10 pr true 0,.b h1,.b h2,.b h3,.b h4,.b h5,.b h6]⟩,⟨12,27,.bool false,[.arr 10 pr true 0,.b h1,.b h2,.b h3,.b h4,.b h5,.b h6]⟩,⟨12,37,.bool false,[.arr 10 pr true 0,.b h1,.b h2,.b h3,.b h4,.b h5,.b h6]⟩,⟨12,44,.bool false,[.arr 10 pr true 0,.b h1,.b h2,.b h3,.b h4,.b h5,.b h6]⟩] fun kf hk=>⟨_,by kernel_rfl,(oC (g0 kf) (oB [.arr 10 pr true 0,.b h1,.b h2,.b h3,.b h4,.b h5,.b h6] (decide_eq_false g1) (oB [.arr 10 pr true 0,.b h1,.b h2,.b h3,.b h4,.b h5,.b h6] (decide_eq_false g2) (oB [.arr 10 pr true 0,.b h1,.b h2,.b h3,.b h4,.b h5,.b h6] (congrArg not (decide_eq_true g3)) .nil))))⟩
theorem sm_l_0 (a0 bz md:Int) (l1 l2:List HV) (pr:List HV) (p1:Nat) (h1:List HV) (p2:Nat) (h2:List HV) (p3:Nat) (h3:List HV) (p4:Nat) (h4:List HV) (p5:Nat) (h5:List HV) (p6:Nat) (h6:List HV) (p:Int) {y9 y11 y12 y14 y15 y16 y17 y18 y20 y21 y22 y23:HV}:RT polL8 8 (sub [1,1,1,1,1,1,1,1,1,1,0,0] B8) (env8 (.i a0) (.a l1) (.a l2) (.i bz) (.bool false) y9 (.i p) y11 y12 (.s 3 p3) y14 y15 y16 y17 y18 (.s 6 p6) y20 y21 y22 y23) [.arr 10 pr true 0,.b h1,.b h2,.b h3,.b h4,.b h5,.b h6] .normal (env8 (.i a0) (.a l1) (.a l2) (.i bz) (.bool false) y9 (.i p) y11 y12 (.s 3 p3) y14 y15 y16 y17 y18 (.s 6 p6) y20 (.i 0) y22 y23) [.arr 10 pr true 0,.b h1,.b h2,.b h3,.b h4,.b h5,.b h6] :=
  RunsTo.hin 0 60 [] fun kf hk=>⟨_,by kernel_rfl,.nil⟩
theorem sm_m_0 (a0 bz md:Int) (l1 l2:List HV) (pr:List HV) (p1:Nat) (h1:List HV) (p2:Nat) (h2:List HV) (p3:Nat) (h3:List HV) (p4:Nat) (h4:List HV) (p5:Nat) (h5:List HV) (p6:Nat) (h6:List HV) (p:Int) (i:Nat) {y9 y11 y12 y14 y15 y16 y17 y18 y20 y22 y23:HV}(g0:(i:Int) < (p3:Int)):RT polL8 8 (sub [1,1,1,1,1,1,1,1,1,1,0,1,0,0,0] B8) (env8 (.i a0) (.a l1) (.a l2) (.i bz) (.bool false) y9 (.i p) y11 y12 (.s 3 p3) y14 y15 y16 y17 y18 (.s 6 p6) y20 (.i (i:Int)) y22 y23) [.arr 10 pr true 0,.b h1,.b h2,.b h3,.b h4,.b h5,.b h6] .normal (env8 (.i a0) (.a l1) (.a l2) (.i bz) (.bool false) y9 (.i p) y11 y12 (.s 3 p3) y14 y15 y16 y17 y18 (.s 6 p6) y20 (.i (i:Int)) y22 y23) [.arr 10 pr true 0,.b h1,.b h2,.b h3,.b h4,.b h5,.b h6] :=
  RunsTo.hin 0 60 [⟨15,3,.bool true,[.arr 10 pr true 0,.b h1,.b h2,.b h3,.b h4,.b h5,.b h6]⟩] fun kf hk=>⟨_,by kernel_rfl,(oB [.arr 10 pr true 0,.b h1,.b h2,.b h3,.b h4,.b h5,.b h6] (decide_eq_true g0) .nil)⟩
theorem sm_m_1 (a0 bz md:Int) (l1 l2:List HV) (pr:List HV) (p1:Nat) (h1:List HV) (p2:Nat) (h2:List HV) (p3:Nat) (h3:List HV) (p4:Nat) (h4:List HV) (p5:Nat) (h5:List HV) (p6:Nat) (h6:List HV) (p:Int) (i:Nat) {y9 y11 y12 y14 y15 y16 y17 y18 y20 y22 y23:HV}(g0:¬ ((i:Int) < (p3:Int))):RT polL8 8 (sub [1,1,1,1,1,1,1,1,1,1,0,1,0,0,0] B8) (env8 (.i a0) (.a l1) (.a l2) (.i bz) (.bool false) y9 (.i p) y11 y12 (.s 3 p3) y14 y15 y16 y17 y18 (.s 6 p6) y20 (.i (i:Int)) y22 y23) [.arr 10 pr true 0,.b h1,.b h2,.b h3,.b h4,.b h5,.b h6] (.exit 2) (env8 (.i a0) (.a l1) (.a l2) (.i bz) (.bool false) y9 (.i p) y11 y12 (.s 3 p3) y14 y15 y16 y17 y18 (.s 6 p6) y20 (.i (i:Int)) y22 y23) [.arr 10 pr true 0,.b h1,.b h2,.b h3,.b h4,.b h5,.b h6] :=
  RunsTo.hin 0 60 [⟨15,3,.bool false,[.arr 10 pr true 0,.b h1,.b h2,.b h3,.b h4,.b h5,.b h6]⟩] fun kf hk=>⟨_,by kernel_rfl,(oB [.arr 10 pr true 0,.b h1,.b h2,.b h3,.b h4,.b h5,.b h6] (decide_eq_false g0) .nil)⟩
theorem sm_o_0 (a0 bz md:Int) (l1 l2:List HV) (pr:List HV) (p1:Nat) (h1:List HV) (p2:Nat) (h2:List HV) (p3:Nat) (h3:List HV) (p4:Nat) (h4:List HV) (p5:Nat) (h5:List HV) (p6:Nat) (h6:List HV) (p:Int) (i:Nat) {y9 y11 y12 y14 y15 y16 y17 y18 y20 y22 y23:HV}:RT polL8 8 (sub [1,1,1,1,1,1,1,1,1,1,0,1,0,0,1,0,0,0] B8) (env8 (.i a0) (.a l1) (.a l2) (.i bz) (.bool false) y9 (.i p) y11 y12 (.s 3 p3) y14 y15 y16 y17 y18 (.s 6 p6) y20 (.i (i:Int)) y22 y23) [.arr 10 pr true 0,.b h1,.b h2,.b h3,.b h4,.b h5,.b h6] .normal (env8 (.i a0) (.a l1) (.a l2) (.i bz) (.bool false) y9 (.i p) y11 y12 (.s 3 p3) y14 y15 y16 y17 y18 (.s 6 p6) y20 (.i (i:Int)) (.bool false) y23) [.arr 10 pr true 0,.b h1,.b h2,.b h3,.b h4,.b h5,.b h6] :=
  RunsTo.hin 0 60 [] fun kf hk=>⟨_,by kernel_rfl,.nil⟩
theorem sm_q_0 (a0 bz md:Int) (l1 l2:List HV) (pr:List HV) (p1:Nat) (h1:List HV) (p2:Nat) (h2:List HV) (p3:Nat) (h3:List HV) (p4:Nat) (h4:List HV) (p5:Nat) (h5:List HV) (p6:Nat) (h6:List HV) (p:Int) (i:Nat) {y9 y11 y12 y14 y15 y16 y17 y18 y20 y23:HV}:RT polL8 8 (sub [1,1,1,1,1,1,1,1,1,1,0,1,0,0,1,0,0,1,0,0] B8) (env8 (.i a0) (.a l1) (.a l2) (.i bz) (.bool false) y9 (.i p) y11 y12 (.s 3 p3) y14 y15 y16 y17 y18 (.s 6 p6) y20 (.i (i:Int)) (.bool false) y23) [.arr 10 pr true 0,.b h1,.b h2,.b h3,.b h4,.b h5,.b h6] .normal (env8 (.i a0) (.a l1) (.a l2) (.i bz) (.bool false) y9 (.i p) y11 y12 (.s 3 p3) y14 y15 y16 y17 y18 (.s 6 p6) y20 (.i (i:Int)) (.bool false) (.i 0)) [.arr 10 pr true 0,.b h1,.b h2,.b h3,.b h4,.b h5,.b h6] :=
  RunsTo.hin 0 60 [] fun kf hk=>⟨_,by kernel_rfl,.nil⟩
theorem sm_r_0 (a0 bz md:Int) (l1 l2:List HV) (pr:List HV) (p1:Nat) (h1:List HV) (p2:Nat) (h2:List HV) (p3:Nat) (h3:List HV) (p4:Nat) (h4:List HV) (p5:Nat) (h5:List HV) (p6:Nat) (h6:List HV) (p:Int) (i:Nat) (j:Nat) {y9 y11 y12 y14 y15 y16 y17 y18 y20:HV}(g0:(j:Int) < (p6:Int)) (gS21:(true && (true && true))=true):RT polL8 8 (sub [1,1,1,1,1,1,1,1,1,1,0,1,0,0,1,0,0,1,0,1,0,0] B8) (env8 (.i a0) (.a l1) (.a l2) (.i bz) (.bool false) y9 (.i p) y11 y12 (.s 3 p3) y14 y15 y16 y17 y18 (.s 6 p6) y20 (.i (i:Int)) (.bool true) (.i (j:Int))) [.arr 10 pr true 0,.b h1,.b h2,.b h3,.b h4,.b h5,.b h6] .normal (env8 (.i a0) (.a l1) (.a l2) (.i bz) (.bool false) y9 (.i p) y11 y12 (.s 3 p3) y14 y15 y16 y17 y18 (.s 6 p6) y20 (.i (i:Int)) (.bool true) (.i (IntKind.i64.wrap ((j:Int)+1)))) [.arr 10 pr true 0,.b h1,.b h2,.b h3,.b h4,.b h5,.b h6] :=
  RunsTo.hin 0 60 [⟨19,3,.bool true,[.arr 10 pr true 0,.b h1,.b h2,.b h3,.b h4,.b h5,.b h6]⟩] fun kf hk=>⟨_,by kernel_rfl,(oB [.arr 10 pr true 0,.b h1,.b h2,.b h3,.b h4,.b h5,.b h6] (decide_eq_true g0) (oC (gS21) .nil))⟩
theorem sm_r_1 (a0 bz md:Int) (l1 l2:List HV) (pr:List HV) (p1:Nat) (h1:List HV) (p2:Nat) (h2:List HV) (p3:Nat) (h3:List HV) (p4:Nat) (h4:List HV) (p5:Nat) (h5:List HV) (p6:Nat) (h6:List HV) (p:Int) (i:Nat) (j:Nat) {y9 y11 y12 y14 y15 y16 y17 y18 y20:HV}(g0:¬ ((j:Int) < (p6:Int))):RT polL8 8 (sub [1,1,1,1,1,1,1,1,1,1,0,1,0,0,1,0,0,1,0,1,0,0] B8) (env8 (.i a0) (.a l1) (.a l2) (.i bz) (.bool false) y9 (.i p) y11 y12 (.s 3 p3) y14 y15 y16 y17 y18 (.s 6 p6) y20 (.i (i:Int)) (.bool true) (.i (j:Int))) [.arr 10 pr true 0,.b h1,.b h2,.b h3,.b h4,.b h5,.b h6] (.exit 4) (env8 (.i a0) (.a l1) (.a l2) (.i bz) (.bool false) y9 (.i p) y11 y12 (.s 3 p3) y14 y15 y16 y17 y18 (.s 6 p6) y20 (.i (i:Int)) (.bool true) (.i (j:Int))) [.arr 10 pr true 0,.b h1,.b h2,.b h3,.b h4,.b h5,.b h6] :=
  RunsTo.hin 0 60 [⟨19,3,.bool false,[.arr 10 pr true 0,.b h1,.b h2,.b h3,.b h4,.b h5,.b h6]⟩] fun kf hk=>⟨_,by kernel_rfl,(oB [.arr 10 pr true 0,.b h1,.b h2,.b h3,.b h4,.b h5,.b h6] (decide_eq_false g0) .nil)⟩
theorem sm_s_0 (a0 bz md:Int) (l1 l2:List HV) (pr:List HV) (p1:Nat) (h1:List HV) (p2:Nat) (h2:List HV) (p3:Nat) (h3:List HV) (p4:Nat) (h4:List HV) (p5:Nat) (h5:List HV) (p6:Nat) (h6:List HV) (p:Int) (i:Nat) (j:Nat) {y9 y11 y12 y14 y15 y16 y17 y18 y20:HV} {x0:Int} {x1:Int} (g0:(j:Int) < (p6:Int)) (g1:idxV Tp 22 (.s 6 p6) (.i (j:Int))=some (.ptr 6 j 0 p6)) (g2:loadV Tp [.arr 10 pr true 0,.b h1,.b h2,.b h3,.b h4,.b h5,.b h6] 3 (.ptr 6 j 0 p6)=some (.i x0)) (g3:idxV Tp 22 (.s 3 p3) (.i (i:Int))=some (.ptr 3 i 0 p3)) (g4:loadV Tp [.arr 10 pr true 0,.b h1,.b h2,.b h3,.b h4,.b h5,.b h6] 3 (.ptr 3 i 0 p3)=some (.i x1)) (g5:∀ kf,callN Tp polL8 (kf+1) 30 [.i bz,.i p] [.arr 10 pr true 0,.b h1,.b h2,.b h3,.b h4,.b h5,.b h6]=some (.i md,[.arr 10 pr true 0,.b h1,.b h2,.b h3,.b h4,.b h5,.b h6])) (g6:binV Tp .rem 3 (.i (IntKind.i64.wrap (x1+md))) (.i p)=some (.i ((IntKind.i64.wrap (x1+md):Int).tmod p))) (g7:x0=(IntKind.i64.wrap (x1+md):Int).tmod p) (gS21:(recL ((loadV Tp [.arr 10 pr true 0,.b h1,.b h2,.b h3,.b h4,.b h5,.b h6] 3 (.ptr 6 j 0 p6)).map (fun v=>(v,([.arr 10 pr true 0,.b h1,.b h2,.b h3,.b h4,.b h5,.b h6]:Heap)))) ((loadV Tp [.arr 10 pr true 0,.b h1,.b h2,.b h3,.b h4,.b h5,.b h6] 3 (.ptr 6 j 0 p6)).map (fun v=>(v,([.arr 10 pr true 0,.b h1,.b h2,.b h3,.b h4,.b h5,.b h6]:Heap)))) [.arr 10 pr true 0,.b h1,.b h2,.b h3,.b h4,.b h5,.b h6] [.arr 10 pr true 0,.b h1,.b h2,.b h3,.b h4,.b h5,.b h6] && (recL ((loadV Tp [.arr 10 pr true 0,.b h1,.b h2,.b h3,.b h4,.b h5,.b h6] 3 (.ptr 3 i 0 p3)).map (fun v=>(v,([.arr 10 pr true 0,.b h1,.b h2,.b h3,.b h4,.b h5,.b h6]:Heap)))) ((loadV Tp [.arr 10 pr true 0,.b h1,.b h2,.b h3,.b h4,.b h5,.b h6] 3 (.ptr 3 i 0 p3)).map (fun v=>(v,([.arr 10 pr true 0,.b h1,.b h2,.b h3,.b h4,.b h5,.b h6]:Heap)))) [.arr 10 pr true 0,.b h1,.b h2,.b h3,.b h4,.b h5,.b h6] [.arr 10 pr true 0,.b h1,.b h2,.b h3,.b h4,.b h5,.b h6] && true))=true):RT polL8 8 (sub [1,1,1,1,1,1,1,1,1,1,0,1,0,0,1,0,0,1,0,1,0,0] B8) (env8 (.i a0) (.a l1) (.a l2) (.i bz) (.bool false) y9 (.i p) y11 y12 (.s 3 p3) y14 y15 y16 y17 y18 (.s 6 p6) y20 (.i (i:Int)) (.bool false) (.i (j:Int))) [.arr 10 pr true 0,.b h1,.b h2,.b h3,.b h4,.b h5,.b h6] .normal (env8 (.i a0) (.a l1) (.a l2) (.i bz) (.bool false) y9 (.i p) y11 y12 (.s 3 p3) y14 y15 y16 y17 y18 (.s 6 p6) y20 (.i (i:Int)) (.bool true) (.i (IntKind.i64.wrap ((j:Int)+1)))) [.arr 10 pr true 0,.b h1,.b h2,.b h3,.b h4,.b h5,.b h6] :=
  RunsTo.hin 0 60 [⟨19,3,.bool true,[.arr 10 pr true 0,.b h1,.b h2,.b h3,.b h4,.b h5,.b h6]⟩,⟨21,4,.ptr 6 j 0 p6,[.arr 10 pr true 0,.b h1,.b h2,.b h3,.b h4,.b h5,.b h6]⟩,⟨21,5,.i x0,[.arr 10 pr true 0,.b h1,.b h2,.b h3,.b h4,.b h5,.b h6]⟩,⟨21,8,.ptr 3 i 0 p3,[.arr 10 pr true 0,.b h1,.b h2,.b h3,.b h4,.b h5,.b h6]⟩,⟨21,9,.i x1,[.arr 10 pr true 0,.b h1,.b h2,.b h3,.b h4,.b h5,.b h6]⟩,⟨21,12,.i md,[.arr 10 pr true 0,.b h1,.b h2,.b h3,.b h4,.b h5,.b h6]⟩,⟨21,15,.i ((IntKind.i64.wrap (x1+md):Int).tmod p),[.arr 10 pr true 0,.b h1,.b h2,.b h3,.b h4,.b h5,.b h6]⟩,⟨21,16,.bool true,[.arr 10 pr true 0,.b h1,.b h2,.b h3,.b h4,.b h5,.b h6]⟩] fun kf hk=>⟨_,by kernel_rfl,(oB [.arr 10 pr true 0,.b h1,.b h2,.b h3,.b h4,.b h5,.b h6] (decide_eq_true g0) (oC (gS21) (oP [.arr 10 pr true 0,.b h1,.b h2,.b h3,.b h4,.b h5,.b h6] g1 (oP [.arr 10 pr true 0,.b h1,.b h2,.b h3,.b h4,.b h5,.b h6] g2 (oP [.arr 10 pr true 0,.b h1,.b h2,.b h3,.b h4,.b h5,.b h6] g3 (oP [.arr 10 pr true 0,.b h1,.b h2,.b h3,.b h4,.b h5,.b h6] g4 (oC (g5 kf) (oP [.arr 10 pr true 0,.b h1,.b h2,.b h3,.b h4,.b h5,.b h6] g6 (oB [.arr 10 pr true 0,.b h1,.b h2,.b h3,.b h4,.b h5,.b h6] (decide_eq_true g7) .nil)))))))))⟩
theorem sm_s_1 (a0 bz md:Int) (l1 l2:List HV) (pr:List HV) (p1:Nat) (h1:List HV) (p2:Nat) (h2:List HV) (p3:Nat) (h3:List HV) (p4:Nat) (h4:List HV) (p5:Nat) (h5:List HV) (p6:Nat) (h6:List HV) (p:Int) (i:Nat) (j:Nat) {y9 y11 y12 y14 y15 y16 y17 y18 y20:HV} {x0:Int} {x1:Int} (g0:(j:Int) < (p6:Int)) (g1:idxV Tp 22 (.s 6 p6) (.i (j:Int))=some (.ptr 6 j 0 p6)) (g2:loadV Tp [.arr 10 pr true 0,.b h1,.b h2,.b h3,.b h4,.b h5,.b h6] 3 (.ptr 6 j 0 p6)=some (.i x0)) (g3:idxV Tp 22 (.s 3 p3) (.i (i:Int))=some (.ptr 3 i 0 p3)) (g4:loadV Tp [.arr 10 pr true 0,.b h1,.b h2,.b h3,.b h4,.b h5,.b h6] 3 (.ptr 3 i 0 p3)=some (.i x1)) (g5:∀ kf,callN Tp polL8 (kf+1) 30 [.i bz,.i p] [.arr 10 pr true 0,.b h1,.b h2,.b h3,.b h4,.b h5,.b h6]=some (.i md,[.arr 10 pr true 0,.b h1,.b h2,.b h3,.b h4,.b h5,.b h6])) (g6:binV Tp .rem 3 (.i (IntKind.i64.wrap (x1+md))) (.i p)=some (.i ((IntKind.i64.wrap (x1+md):Int).tmod p))) (g7:¬ (x0=(IntKind.i64.wrap (x1+md):Int).tmod p)) (gS21:(recL ((loadV Tp [.arr 10 pr true 0,.b h1,.b h2,.b h3,.b h4,.b h5,.b h6] 3 (.ptr 6 j 0 p6)).map (fun v=>(v,([.arr 10 pr true 0,.b h1,.b h2,.b h3,.b h4,.b h5,.b h6]:Heap)))) ((loadV Tp [.arr 10 pr true 0,.b h1,.b h2,.b h3,.b h4,.b h5,.b h6] 3 (.ptr 6 j 0 p6)).map (fun v=>(v,([.arr 10 pr true 0,.b h1,.b h2,.b h3,.b h4,.b h5,.b h6]:Heap)))) [.arr 10 pr true 0,.b h1,.b h2,.b h3,.b h4,.b h5,.b h6] [.arr 10 pr true 0,.b h1,.b h2,.b h3,.b h4,.b h5,.b h6] && (recL ((loadV Tp [.arr 10 pr true 0,.b h1,.b h2,.b h3,.b h4,.b h5,.b h6] 3 (.ptr 3 i 0 p3)).map (fun v=>(v,([.arr 10 pr true 0,.b h1,.b h2,.b h3,.b h4,.b h5,.b h6]:Heap)))) ((loadV Tp [.arr 10 pr true 0,.b h1,.b h2,.b h3,.b h4,.b h5,.b h6] 3 (.ptr 3 i 0 p3)).map (fun v=>(v,([.arr 10 pr true 0,.b h1,.b h2,.b h3,.b h4,.b h5,.b h6]:Heap)))) [.arr 10 pr true 0,.b h1,.b h2,.b h3,.b h4,.b h5,.b h6] [.arr 10 pr true 0,.b h1,.b h2,.b h3,.b h4,.b h5,.b h6] && true))=true):RT polL8 8 (sub [1,1,1,1,1,1,1,1,1,1,0,1,0,0,1,0,0,1,0,1,0,0] B8) (env8 (.i a0) (.a l1) (.a l2) (.i bz) (.bool false) y9 (.i p) y11 y12 (.s 3 p3) y14 y15 y16 y17 y18 (.s 6 p6) y20 (.i (i:Int)) (.bool false) (.i (j:Int))) [.arr 10 pr true 0,.b h1,.b h2,.b h3,.b h4,.b h5,.b h6] .normal (env8 (.i a0) (.a l1) (.a l2) (.i bz) (.bool false) y9 (.i p) y11 y12 (.s 3 p3) y14 y15 y16 y17 y18 (.s 6 p6) y20 (.i (i:Int)) (.bool false) (.i (IntKind.i64.wrap ((j:Int)+1)))) [.arr 10 pr true 0,.b h1,.b h2,.b h3,.b h4,.b h5,.b h6] :=
  RunsTo.hin 0 60 [⟨19,3,.bool true,[.arr 10 pr true 0,.b h1,.b h2,.b h3,.b h4,.b h5,.b h6]⟩,⟨21,4,.ptr 6 j 0 p6,[.arr 10 pr true 0,.b h1,.b h2,.b h3,.b h4,.b h5,.b h6]⟩,⟨21,5,.i x0,[.arr 10 pr true 0,.b h1,.b h2,.b h3,.b h4,.b h5,.b h6]⟩,⟨21,8,.ptr 3 i 0 p3,[.arr 10 pr true 0,.b h1,.b h2,.b h3,.b h4,.b h5,.b h6]⟩,⟨21,9,.i x1,[.arr 10 pr true 0,.b h1,.b h2,.b h3,.b h4,.b h5,.b h6]⟩,⟨21,12,.i md,[.arr 10 pr true 0,.b h1,.b h2,.b h3,.b h4,.b h5,.b h6]⟩,⟨21,15,.i ((IntKind.i64.wrap (x1+md):Int).tmod p),[.arr 10 pr true 0,.b h1,.b h2,.b h3,.b h4,.b h5,.b h6]⟩,⟨21,16,.bool false,[.arr 10 pr true 0,.b h1,.b h2,.b h3,.b h4,.b h5,.b h6]⟩] fun kf hk=>⟨_,by kernel_rfl,(oB [.arr 10 pr true 0,.b h1,.b h2,.b h3,.b h4,.b h5,.b h6] (decide_eq_true g0) (oC (gS21) (oP [.arr 10 pr true 0,.b h1,.b h2,.b h3,.b h4,.b h5,.b h6] g1 (oP [.arr 10 pr true 0,.b h1,.b h2,.b h3,.b h4,.b h5,.b h6] g2 (oP [.arr 10 pr true 0,.b h1,.b h2,.b h3,.b h4,.b h5,.b h6] g3 (oP [.arr 10 pr true 0,.b h1,.b h2,.b h3,.b h4,.b h5,.b h6] g4 (oC (g5 kf) (oP [.arr 10 pr true 0,.b h1,.b h2,.b h3,.b h4,.b h5,.b h6] g6 (oB [.arr 10 pr true 0,.b h1,.b h2,.b h3,.b h4,.b h5,.b h6] (decide_eq_false g7) .nil)))))))))⟩
theorem sm_t_0 (a0 bz md:Int) (l1 l2:List HV) (pr:List HV) (p1:Nat) (h1:List HV) (p2:Nat) (h2:List HV) (p3:Nat) (h3:List HV) (p4:Nat) (h4:List HV) (p5:Nat) (h5:List HV) (p6:Nat) (h6:List HV) (p:Int) (i:Nat) {y9 y11 y12 y14 y15 y16 y17 y18 y20 y23:HV}:RT polL8 8 (sub [1,1,1,1,1,1,1,1,1,1,0,1,0,0,1,0,0,1,1] B8) (env8 (.i a0) (.a l1) (.a l2) (.i bz) (.bool false) y9 (.i p) y11 y12 (.s 3 p3) y14 y15 y16 y17 y18 (.s 6 p6) y20 (.i (i:Int)) (.bool true) y23) [.arr 10 pr true 0,.b h1,.b h2,.b h3,.b h4,.b h5,.b h6] .normal (env8 (.i a0) (.a l1) (.a l2) (.i bz) (.bool false) y9 (.i p) y11 y12 (.s 3 p3) y14 y15 y16 y17 y18 (.s 6 p6) y20 (.i (i:Int)) (.bool true) y23) [.arr 10 pr true 0,.b h1,.b h2,.b h3,.b h4,.b h5,.b h6] :=
  RunsTo.hin 0 60 [] fun kf hk=>⟨_,by kernel_rfl,.nil⟩
theorem sm_u_0 (a0 bz md:Int) (l1 l2:List HV) (pr:List HV) (p1:Nat) (h1:List HV) (p2:Nat) (h2:List HV) (p3:Nat) (h3:List HV) (p4:Nat) (h4:List HV) (p5:Nat) (h5:List HV) (p6:Nat) (h6:List HV) (p:Int) (i:Nat) {y9 y11 y12 y14 y15 y16 y17 y18 y20 y22 y23:HV}:RT polL8 8 (sub [1,1,1,1,1,1,1,1,1,1,0,1,0,0,1,1] B8) (env8 (.i a0) (.a l1) (.a l2) (.i bz) (.bool false) y9 (.i p) y11 y12 (.s 3 p3) y14 y15 y16 y17 y18 (.s 6 p6) y20 (.i (i:Int)) y22 y23) [.arr 10 pr true 0,.b h1,.b h2,.b h3,.b h4,.b h5,.b h6] .normal (env8 (.i a0) (.a l1) (.a l2) (.i bz) (.bool false) y9 (.i p) y11 y12 (.s 3 p3) y14 y15 y16 y17 y18 (.s 6 p6) y20 (.i (IntKind.i64.wrap ((i:Int)+1))) y22 y23) [.arr 10 pr true 0,.b h1,.b h2,.b h3,.b h4,.b h5,.b h6] :=
  RunsTo.hin 0 60 [] fun kf hk=>⟨_,by kernel_rfl,.nil⟩
theorem sm_v_0 (a0 bz md:Int) (l1 l2:List HV) (pr:List HV) (p1:Nat) (h1:List HV) (p2:Nat) (h2:List HV) (p3:Nat) (h3:List HV) (p4:Nat) (h4:List HV) (p5:Nat) (h5:List HV) (p6:Nat) (h6:List HV) (p:Int) {y9 y11 y12 y14 y15 y16 y17 y18 y20 y21 y22 y23:HV}(g0:∀ kf,callN Tp polL8 (kf+1) 16 [] [.arr 10 pr true 0,.b h1,.b h2,.b h3,.b h4,.b h5,.b h6]=some (.bool true,[.arr 10 pr true 0,.b h1,.b h2,.b h3,.b h4,.b h5,.b h6])):RT polL8 8 (sub [1,1,1,1,1,1,1,1,1,1,1] B8) (env8 (.i a0) (.a l1) (.a l2) (.i bz) (.bool false) y9 (.i p) y11 y12 (.s 3 p3) y14 y15 y16 y17 y18 (.s 6 p6) y20 y21 y22 y23) [.arr 10 pr true 0,.b h1,.b h2,.b h3,.b h4,.b h5,.b h6] .ret (env8 (.i a0) (.a l1) (.a l2) (.i bz) (.bool true) y9 (.i p) y11 y12 (.s 3 p3) y14 y15 y16 y17 y18 (.s 6 p6) y20 y21 y22 y23) [.arr 10 pr true 0,.b h1,.b h2,.b h3,.b h4,.b h5,.b h6] :=
  RunsTo.hin 0 60 [⟨24,0,.bool true,[.arr 10 pr true 0,.b h1,.b h2,.b h3,.b h4,.b h5,.b h6]⟩] fun kf hk=>⟨_,by kernel_rfl,(oC (g0 kf) .nil)⟩
end Go.Proofs.Ytaibmipamkaljaa
end
section
namespace Go.Proofs.Ytaibmipamkaljaa.Ez
theorem nodup_map_on {α β:Type} {f:α → β}:∀ {l:List α},(∀ x ∈ l,∀ y ∈ l,f x=f y → x=y) → l.Nodup → (l.map f).Nodup
  | [],_,_=>by simp
  | a :: l,h,hn=>by
    rw [List.nodup_cons] at hn
    rw [List.map_cons,List.nodup_cons]
    refine ⟨fun hm=>?_,nodup_map_on (fun x hx y hy=>h x (by simp [hx]) y (by simp [hy])) hn.2⟩
    obtain ⟨y,hy,e⟩:=List.mem_map.1 hm
    exact hn.1 ((h y (by simp [hy]) a (by simp) e) ▸ hy)
def PrimeZ (p:Nat):Prop:=2 ≤ p∧∀ a,a < p → ∀ b,b < p → (a * b) % p=0 → a=0 ∨ b=0
instance (p:Nat):Decidable (PrimeZ p):=inferInstanceAs (Decidable (_∧_))
theorem shift_new {p:Nat} (hp:PrimeZ p) {A:List Nat} (hA:∀ a ∈ A,a < p) (h0:A ≠ []) (hl:A.length < p) {x y:Nat} (hx:x < p) (hy:y < p) (hxy:x ≠ y) :
    ∃ a ∈ A,(a+y) % p ∉ A.map (fun a=>(a+x) % p):=by
  apply Classical.byContradiction
  intro hne
  have hp0:0 < p:=by have:=hp.1; omega
  have hall:∀ a ∈ A,(a+y) % p ∈ A.map (fun a=>(a+x) % p):=fun a ha=>Classical.byContradiction fun h=>hne ⟨a,ha,h⟩
  have hstep:∀ a ∈ A,(a+(y+p - x)) % p ∈ A:=by
    intro a ha
    obtain ⟨b,hb,e⟩:=List.mem_map.1 (hall a ha)
    have hbp:=hA b hb
    have e1:(a+(y+p - x)) % p=b:=by
      have e2:((b+x)+(p - x)) % p=((a+y)+(p - x)) % p:=by rw [Nat.add_mod,e,← Nat.add_mod]
      rw [show (b+x)+(p - x)=b+p by omega,Nat.add_mod_right,Nat.mod_eq_of_lt hbp] at e2
      rw [e2]; congr 1; omega
    rw [e1]; exact hb
  obtain ⟨a0,ha0⟩:=List.exists_mem_of_ne_nil A h0
  have hit:∀ j:Nat,(a0+j * (y+p - x)) % p ∈ A:=by
    intro j
    induction j with
    | zero=>rw [Nat.zero_mul,Nat.add_zero,Nat.mod_eq_of_lt (hA a0 ha0)]; exact ha0
    | succ j ih =>
      have:=hstep _ ih
      rw [Nat.mod_add_mod] at this
      rw [Nat.add_mul,Nat.one_mul,← Nat.add_assoc]; exact this
  have hnd:((List.range p).map fun j=>(a0+j * (y+p - x)) % p).Nodup:=by
    refine nodup_map_on ?_ List.nodup_range
    intro i hi j hj e
    rw [List.mem_range] at hi hj
    have key:∀ i j,i < p → j < p → i ≤ j → (a0+i * (y+p - x)) % p=(a0+j * (y+p - x)) % p → i=j:=by
      intro i j hi hj hij e
      have hd:((j - i) * ((y+p - x) % p)) % p=0:=by
        rw [Nat.mul_mod_mod]
        have e1:a0+j * (y+p - x)=(a0+i * (y+p - x))+(j - i) * (y+p - x):=by
          rw [Nat.add_assoc,← Nat.add_mul,Nat.add_sub_cancel' hij]
        rw [e1,Nat.add_mod (a0+i * (y+p - x)) ((j - i) * (y+p - x))] at e
        have lt1:=Nat.mod_lt (a0+i * (y+p - x)) hp0
        have lt2:=Nat.mod_lt ((j - i) * (y+p - x)) hp0
        by_cases c:(a0+i * (y+p - x)) % p+((j - i) * (y+p - x)) % p < p
        · rw [Nat.mod_eq_of_lt c] at e; omega
        · have:((a0+i * (y+p - x)) % p+((j - i) * (y+p - x)) % p) % p=(a0+i * (y+p - x)) % p+((j - i) * (y+p - x)) % p - p:=by
            rw [Nat.mod_eq_sub_mod (by omega),Nat.mod_eq_of_lt (by omega)]
          omega
      rcases hp.2 (j - i) (by omega) ((y+p - x) % p) (Nat.mod_lt _ hp0) hd with h | h
      · omega
      · exfalso
        by_cases c:x ≤ y
        · rw [show y+p - x=(y - x)+p by omega,Nat.add_mod_right,Nat.mod_eq_of_lt (by omega)] at h; omega
        · rw [Nat.mod_eq_of_lt (by omega)] at h; omega
    rcases Nat.le_total i j with h | h
    · exact key i j hi hj h e
    · exact (key j i hj hi h e.symm).symm
  have:=hnd.length_le_of_subset (l₂:=A) (fun v hv=>by
    obtain ⟨j,_,rfl⟩:=List.mem_map.1 hv
    exact hit j)
  rw [List.length_map,List.length_range] at this
  omega
end Go.Proofs.Ytaibmipamkaljaa.Ez
end
section
namespace Go.Proofs.Ytaibmipamkaljaa.Cd
open Ez
theorem nodup_lenC {α:Type} [DecidableEq α]:∀ {P S:List α},P.Nodup → (∀ v ∈ P,v ∈ S) → P.length ≤ S.length
  | [],_,_,_=>Nat.zero_le _
  | v :: P,S,hn,h=>by
    obtain ⟨n1,n2⟩:=List.nodup_cons.1 hn
    have hv:v ∈ S:=h v (by simp)
    have:=nodup_lenC (P:=P) (S:=S.erase v) n2 (fun w hw=>(List.mem_erase_of_ne (fun e=>n1 (by rw [← e]; exact hw))).2 (h w (by simp [hw])))
    rw [List.length_erase_of_mem hv] at this
    have:0 < S.length:=List.length_pos_of_mem hv
    simp only [List.length_cons]; omega
theorem md_two {p x:Nat} (h:x < 2 * p):(x < p∧x % p=x) ∨ (p ≤ x∧x % p=x - p):=by
  rcases Nat.lt_or_ge x p with c | c
  · exact .inl ⟨c,Nat.mod_eq_of_lt c⟩
  · refine .inr ⟨c,?_⟩
    rw [Nat.mod_eq_sub_mod c]; exact Nat.mod_eq_of_lt (by omega)
theorem md_inj {p b c e:Nat} (hb:b < p) (hc:c < p) (he:e < p) (h:(b+e) % p=(c+e) % p):b=c:=by
  rcases md_two (p:=p) (x:=b+e) (by omega) with ⟨h1,h2⟩ | ⟨h1,h2⟩ <;> rcases md_two (p:=p) (x:=c+e) (by omega) with ⟨h3,h4⟩ | ⟨h3,h4⟩ <;> omega
theorem map_nodup {α β:Type} {f:α → β}:∀ {l:List α},l.Nodup → (∀ a ∈ l,∀ b ∈ l,f a=f b → a=b) → (l.map f).Nodup
  | [],_,_=>by simp
  | a :: l,hn,h=>by
    obtain ⟨n1,n2⟩:=List.nodup_cons.1 hn
    rw [List.map_cons,List.nodup_cons]
    refine ⟨fun hm=>?_,map_nodup n2 fun b hb c hc=>h b (by simp [hb]) c (by simp [hc])⟩
    obtain ⟨b,hb,e⟩:=List.mem_map.1 hm
    rw [h b (by simp [hb]) a (by simp) e] at hb
    exact n1 hb
theorem filt_two {α:Type} (f:α → Bool):∀ B:List α,(B.filter f).length+(B.filter fun b=>!f b).length=B.length
  | []=>rfl
  | b :: B=>by
    have ih:=filt_two f B
    rw [List.filter_cons,List.filter_cons]
    cases c:f b with
    | true=>rw [if_pos rfl,if_neg (by simp),List.length_cons,List.length_cons]; omega
    | false=>rw [if_neg (by simp),if_pos (by rfl),List.length_cons,List.length_cons]; omega
theorem cauchy_dav {p:Nat} (hp:PrimeZ p):∀ (n:Nat) (A B C:List Nat),B.length=n → A.Nodup → B.Nodup → (∀ a ∈ A,a < p) → (∀ b ∈ B,b < p) → A ≠ [] → B ≠ [] → (∀ a ∈ A,∀ b ∈ B,(a+b) % p ∈ C) → min p (A.length+B.length - 1) ≤ C.length:=by
  intro n
  induction n using Nat.strongRecOn with
  | ind n ih =>
    intro A B C hn hA hB hAp hBp hA0 hB0 hC
    obtain ⟨x,B1,rfl⟩:=List.exists_cons_of_ne_nil hB0
    have hx:x < p:=hBp x (by simp)
    have hAC:A.length ≤ C.length:=by
      have:=nodup_lenC (P:=A.map fun a=>(a+x) % p) (S:=C) (map_nodup hA fun a ha b hb e=>md_inj (hAp a ha) (hAp b hb) hx e) (fun v hv=>by
        obtain ⟨a,ha,rfl⟩:=List.mem_map.1 hv
        exact hC a ha x (by simp))
      rwa [List.length_map] at this
    cases B1 with
    | nil=>simp only [List.length_cons,List.length_nil]; omega
    | cons y B2 =>
      by_cases hl:A.length < p
      · have hy:y < p:=hBp y (by simp)
        have hxy:x ≠ y:=fun e=>(List.nodup_cons.1 hB).1 (by rw [e]; simp)
        obtain ⟨a,ha,hna⟩:=shift_new hp hAp hA0 hl hx hy hxy
        have hap:=hAp a ha
        generalize hBB:x :: y :: B2=B at *
        have hxB:x ∈ B:=by rw [← hBB]; simp
        have hyB:y ∈ B:=by rw [← hBB]; simp
        have he:(a+(p - x)) % p < p:=Nat.mod_lt _ (by omega)
        have ex:((a+(p - x)) % p+x) % p=a:=by
          rw [Nat.mod_add_mod,show a+(p - x)+x=a+p by omega,Nat.add_mod_right]
          exact Nat.mod_eq_of_lt hap
        have ey:((a+(p - x)) % p+y) % p ∉ A:=fun h=>hna (List.mem_map.2 ⟨_,h,by
          rw [Nat.mod_add_mod,Nat.add_assoc,Nat.mod_add_mod,show a+(p - x)+(y+x)=a+y+p by omega,Nat.add_mod_right]⟩)
        generalize (a+(p - x)) % p=e at *
        have hm:∀ b,(e+b) % p=(b+e) % p:=fun b=>by rw [Nat.add_comm]
        rw [hm] at ex ey
        have hB'n:(B.filter fun b=>decide ((b+e) % p ∈ A)).Nodup:=List.Nodup.sublist List.filter_sublist hB
        have hlen:=filt_two (fun b=>decide ((b+e) % p ∈ A)) B
        have hy':1 ≤ (B.filter fun b=>!decide ((b+e) % p ∈ A)).length:=List.length_pos_of_mem (List.mem_filter.2 ⟨hyB,by rw [decide_eq_false ey]; rfl⟩)
        have hx':x ∈ B.filter fun b=>decide ((b+e) % p ∈ A):=List.mem_filter.2 ⟨hxB,by rw [ex]; exact decide_eq_true ha⟩
        have key:=ih (B.filter fun b=>decide ((b+e) % p ∈ A)).length (by omega) (A ++ (B.filter fun b=>!decide ((b+e) % p ∈ A)).map fun b=>(b+e) % p) (B.filter fun b=>decide ((b+e) % p ∈ A)) C rfl
          (by
            rw [List.nodup_append]
            refine ⟨hA,map_nodup (List.Nodup.sublist List.filter_sublist hB) fun b hb c hc h=>md_inj (hBp b (List.mem_filter.1 hb).1) (hBp c (List.mem_filter.1 hc).1) he h,fun u hu v hv h=>?_⟩
            obtain ⟨b,hb,rfl⟩:=List.mem_map.1 hv
            have:=(List.mem_filter.1 hb).2
            rw [← h,decide_eq_true hu] at this
            cases this)
          hB'n
          (fun u hu=>by
            rcases List.mem_append.1 hu with hu | hu
            · exact hAp u hu
            · obtain ⟨b,_,rfl⟩:=List.mem_map.1 hu
              exact Nat.mod_lt _ (by omega))
          (fun b hb=>hBp b (List.mem_filter.1 hb).1)
          (fun h=>hA0 (List.append_eq_nil_iff.1 h).1)
          (List.ne_nil_of_mem hx')
          (fun u hu b hb=>by
            obtain ⟨b1,b2⟩:=List.mem_filter.1 hb
            rcases List.mem_append.1 hu with hu | hu
            · exact hC u hu b b1
            · obtain ⟨c,hc,rfl⟩:=List.mem_map.1 hu
              have:=hC _ (of_decide_eq_true b2) c (List.mem_filter.1 hc).1
              rw [Nat.mod_add_mod] at this ⊢
              rwa [show c+e+b=b+e+c by omega])
        rw [List.length_append,List.length_map] at key
        omega
      · omega
end Go.Proofs.Ytaibmipamkaljaa.Cd
end
section
open Go Go.HL
namespace Go.Proofs.Ytaibmipamkaljaa
theorem rsF_iff {p:Int}:∀ (l acc:List Int),rsF p acc l=true ↔ (∀ x ∈ l,0 ≤ x∧x < p)∧l.Nodup∧∀ x ∈ l,x ∉ acc
  | [],acc=>by simp [rsF]
  | x :: l,acc=>by
    have ih:=rsF_iff (p:=p) l (acc ++ [x])
    rw [rsF,Bool.and_eq_true,Bool.and_eq_true,ih,List.nodup_cons]
    simp only [decide_eq_true_eq,Bool.not_eq_true',decide_eq_false_iff_not,List.mem_cons,List.mem_append,List.not_mem_nil,or_false]
    constructor
    · rintro ⟨⟨h1,h2⟩,h3,h4,h5⟩
      refine ⟨fun y hy=>?_,⟨fun hx=>h5 x hx (.inr rfl),h4⟩,fun y hy=>?_⟩
      · rcases hy with rfl | hy
        · exact h1
        · exact h3 y hy
      · rcases hy with rfl | hy
        · exact h2
        · exact fun h=>h5 y hy (.inl h)
    · rintro ⟨h1,⟨h2,h3⟩,h4⟩
      refine ⟨⟨h1 x (.inl rfl),h4 x (.inl rfl)⟩,fun y hy=>h1 y (.inr hy),h3,fun y hy h=>?_⟩
      rcases h with h | h
      · exact h4 y (.inr hy) h
      · rw [h] at hy; exact h2 hy
theorem setT_iff {p:Int} {l:List Int}:setT p l=true ↔ (∀ x ∈ l,0 ≤ x∧x < p)∧l.Nodup∧l ≠ []:=by
  rw [setT,Bool.and_eq_true,rsF_iff,decide_eq_true_eq]
  constructor
  · rintro ⟨⟨h1,h2,_⟩,h3⟩; exact ⟨h1,h2,fun e=>by rw [e] at h3; simp at h3⟩
  · rintro ⟨h1,h2,h3⟩; exact ⟨⟨h1,h2,by simp⟩,List.length_pos_iff.2 h3⟩
theorem setG_set (p:Int):∀ (l out:List Int),(out=[] ∨ setT p out=true) → (setG p l out=[] ∨ setT p (setG p l out)=true)
  | [],out,h=>h
  | x :: l,out,h=>by
    rw [setG]
    refine setG_set p l _ ?_
    split
    · rename_i c; exact .inr c
    · exact h
theorem setS_set {p:Int} (hp:0 < p) (l:List Int):setT p (setS p l)=true∧(setS p l).length ≤ 110:=by
  have h:=setG_set p (l.take 110) [] (.inl rfl)
  have hL:=setG_len p (l.take 110) []
  rw [List.length_take,List.length_nil] at hL
  unfold setS
  split
  · exact ⟨setT_iff.2 ⟨fun x hx=>by rw [List.mem_singleton.1 hx]; omega,by simp,by simp⟩,by simp⟩
  · rename_i c
    exact ⟨h.resolve_left c,by omega⟩
theorem primeZ_of {p:Nat} (h:primeT (p:Int)=true):Ez.PrimeZ p:=by
  obtain ⟨h1,h2⟩:=(primeT_iff _).1 h
  refine ⟨by omega,fun a ha b hb hab=>?_⟩
  by_cases a0:a=0
  · exact .inl a0
  · right
    have g1:Nat.gcd a p ∣ a:=Nat.gcd_dvd_left a p
    have g2:Nat.gcd a p ∣ p:=Nat.gcd_dvd_right a p
    have g3:Nat.gcd a p ≤ a:=Nat.le_of_dvd (by omega) g1
    have g4:0 < Nat.gcd a p:=Nat.gcd_pos_of_pos_left p (by omega)
    have g5:Nat.gcd a p=1:=by
      apply Classical.byContradiction
      intro hne
      refine h2 (Nat.gcd a p) (by omega) (by omega) ?_
      have:=Nat.mod_eq_zero_of_dvd g2
      omega
    have cop:Nat.Coprime p a:=by rw [Nat.Coprime,Nat.gcd_comm]; exact g5
    have d1:p ∣ a * b:=Nat.dvd_of_mod_eq_zero hab
    have d2:p ∣ b:=Nat.Coprime.dvd_of_dvd_mul_left cop d1
    exact Nat.eq_zero_of_dvd_of_lt d2 hb
theorem bothT_nodup (p:Int) (a b:List Int):(bothT p a b).Nodup:=by
  unfold bothT
  refine Cd.map_nodup (List.Nodup.sublist List.filter_sublist List.nodup_range) fun x _ y _ h=>by omega
theorem bothT_comm (p:Int) (a b:List Int):bothT p a b=bothT p b a:=by
  unfold bothT
  congr 2
  funext r
  congr 1
  rw [bothS_mem,bothS_mem]
  refine propext ⟨?_,?_⟩ <;> · rintro ⟨x,hx,y,hy,e⟩; exact ⟨y,hy,x,hx,by rw [Int.add_comm]; exact e⟩
theorem bothT_few {p:Int} (hp:0 < p) (a b:List Int):(bothT p a b).length ≤ a.length * b.length:=by
  rw [← bothS_len p a b]
  exact Cd.nodup_lenC (bothT_nodup p a b) fun z hz=>(bothT_mem hp).1 hz
theorem bothT_many {p:Int} (hp2:2 ≤ p) (hp:primeT p=true) {a b:List Int} (ha:setT p a=true) (hb:setT p b=true):min p ((a.length:Int)+(b.length:Int) - 1) ≤ ((bothT p a b).length:Int):=by
  obtain ⟨a1,a2,a3⟩:=setT_iff.1 ha
  obtain ⟨b1,b2,b3⟩:=setT_iff.1 hb
  have ep:((p.toNat:Nat):Int)=p:=Int.toNat_of_nonneg (by omega)
  have hz:Ez.PrimeZ p.toNat:=primeZ_of (by rw [ep]; exact hp)
  have inj:∀ (l:List Int),(∀ x ∈ l,0 ≤ x∧x < p) → l.Nodup → (l.map Int.toNat).Nodup:=fun l h hn=>Cd.map_nodup hn fun x hx y hy e=>by
    have:=h x hx; have:=h y hy; omega
  have lt:∀ (l:List Int),(∀ x ∈ l,0 ≤ x∧x < p) → ∀ v ∈ l.map Int.toNat,v < p.toNat:=fun l h v hv=>by
    obtain ⟨x,hx,rfl⟩:=List.mem_map.1 hv
    have:=h x hx; omega
  have:=Cd.cauchy_dav hz _ (a.map Int.toNat) (b.map Int.toNat) ((bothT p a b).map Int.toNat) rfl (inj a a1 a2) (inj b b1 b2) (lt a a1) (lt b b1) (by simpa using a3) (by simpa using b3) (fun x hx y hy=>by
    obtain ⟨u,hu,rfl⟩:=List.mem_map.1 hx
    obtain ⟨v,hv,rfl⟩:=List.mem_map.1 hy
    have u1:=a1 u hu
    have v1:=b1 v hv
    refine List.mem_map.2 ⟨(u+v) % p,(bothT_mem (by omega)).2 (bothS_mem.2 ⟨u,hu,v,hv,rfl⟩),?_⟩
    have e:(((u.toNat+v.toNat) % p.toNat:Nat):Int)=(u+v) % p:=by
      rw [Int.natCast_emod,ep,Int.natCast_add,Int.toNat_of_nonneg u1.1,Int.toNat_of_nonneg v1.1]
    rw [← e,Int.toNat_natCast])
  rw [List.length_map,List.length_map,List.length_map] at this
  have:=List.length_pos_iff.2 a3
  have:=List.length_pos_iff.2 b3
  omega
def movT (p c:Int) (a:List Int):List Int:=a.map fun x=>(x+c) % p
theorem add_inj {p x y c:Int} (hx:0 ≤ x∧x < p) (hy:0 ≤ y∧y < p) (h:(x+c) % p=(y+c) % p):x=y:=by
  have h1:=Int.emod_eq_emod_iff_emod_sub_eq_zero.1 h
  rw [show x+c - (y+c)=x - y by omega] at h1
  have h2:=Int.emod_eq_emod_iff_emod_sub_eq_zero.2 h1
  rwa [Int.emod_eq_of_lt hx.1 hx.2,Int.emod_eq_of_lt hy.1 hy.2] at h2
theorem mov_set {p c:Int} (hp:0 < p) {a:List Int} (ha:setT p a=true):setT p (movT p c a)=true:=by
  obtain ⟨a1,a2,a3⟩:=setT_iff.1 ha
  refine setT_iff.2 ⟨fun x hx=>?_,Cd.map_nodup a2 fun x hx y hy e=>add_inj (a1 x hx) (a1 y hy) e,by simpa [movT] using a3⟩
  obtain ⟨y,_,rfl⟩:=List.mem_map.1 hx
  exact mod_in hp _
theorem mov_mem {p c:Int} (hp:0 < p) {a b:List Int} {z:Int}:z ∈ bothT p (movT p c a) b ↔ ∃ y ∈ bothT p a b,z=(y+c) % p:=by
  rw [bothT_mem hp,bothS_mem]
  have key:∀ x y:Int,((x+c) % p+y) % p=((x+y) % p+c) % p:=fun x y=>by
    rw [Int.emod_add_emod,Int.emod_add_emod]; congr 1; omega
  constructor
  · rintro ⟨x,hx,y,hy,e⟩
    obtain ⟨u,hu,rfl⟩:=List.mem_map.1 hx
    exact ⟨(u+y) % p,(bothT_mem hp).2 (bothS_mem.2 ⟨u,hu,y,hy,rfl⟩),by rw [← e,key]⟩
  · rintro ⟨y,hy,rfl⟩
    obtain ⟨u,hu,v,hv,rfl⟩:=bothS_mem.1 ((bothT_mem hp).1 hy)
    exact ⟨(u+c) % p,List.mem_map.2 ⟨u,hu,rfl⟩,v,hv,key u v⟩
theorem bothT_in {p:Int} (hp:0 < p) {a b:List Int}:∀ z ∈ bothT p a b,0 ≤ z∧z < p:=fun z hz=>by
  obtain ⟨u,_,v,_,rfl⟩:=bothS_mem.1 ((bothT_mem hp).1 hz)
  exact mod_in hp _
theorem mov_len {p c:Int} (hp:0 < p) {a b:List Int}:(bothT p (movT p c a) b).length=(bothT p a b).length:=by
  refine Nat.le_antisymm ?_ ?_
  · have:=Cd.nodup_lenC (P:=bothT p (movT p c a) b) (S:=(bothT p a b).map fun y=>(y+c) % p) (bothT_nodup _ _ _) (fun z hz=>by
      obtain ⟨y,hy,e⟩:=(mov_mem hp).1 hz
      exact List.mem_map.2 ⟨y,hy,e.symm⟩)
    rwa [List.length_map] at this
  · have:=Cd.nodup_lenC (P:=(bothT p a b).map fun y=>(y+c) % p) (S:=bothT p (movT p c a) b) (Cd.map_nodup (bothT_nodup _ _ _) fun x hx y hy e=>add_inj (bothT_in hp x hx) (bothT_in hp y hy) e) (fun z hz=>by
      obtain ⟨y,hy,e⟩:=List.mem_map.1 hz
      exact (mov_mem hp).2 ⟨y,hy,e.symm⟩)
    rwa [List.length_map] at this
end Go.Proofs.Ytaibmipamkaljaa
end
section
open Go Go.HL
namespace Go.Proofs.Ytaibmipamkaljaa
open Go.Proofs.Try renaming prog → Tp
open Go.HL.HV renaming undef → Ud
theorem res8:Try.f8.results.toList=[.tmp 8]:=by kernel_rfl
def prs:List HV:=[.agg [.int .i64 2,.int .i64 3,.int .i64 5,.int .i64 7,.int .i64 11,.int .i64 13,.int .i64 31,.int .i64 53,.int .i64 89,.int .i64 97]]
theorem same_prs:sameL prs prs=true:=by kernel_rfl
abbrev bP:Blk:=.arr 10 prs true 0
theorem set32_at {pol':Pol} (hp:pol'.prim 32=some set32) {p:Int} {l:List Int} (hk:1 ≤ p∧p ≤ 1000) (H:Heap):∀ k,callN Tp pol' (k+1) 32 [.int .i64 p,.imm .arg 1 (l.map encI)] H=some (.sl H.length 0 (setS p l).length none (setS p l).length 1,H ++ [bI (setS p l)]):=fun k=>by
  have hd:mapO decI (l.map encI)=some l:=mapO_map decI_enc l
  have h1:=arg_li H l
  have hN:toArg H 6 (.int .i64 p)=some (.int .i64 p):=rfl
  rw [prim_call (pol:=pol') (g:=32) (F:=set32) hp (rs:=[.int .i64 p,.imm .arg 1 (l.map encI)]) (by simp only [mapO,h1,hN]) (res:=.own 1 ((setS p l).map encI)) (by simp only [set32,plF,hd]; rw [if_pos hk]),recv_ints]
theorem bothR_ok {p:Int} (h1:2 ≤ p) (h2:p ≤ 97) (hp:primeT p=true) {a b:List Int} (ha:setT p a=true) (hb:setT p b=true):bothR p a b=(bothT p a b,0):=by
  have:inB p 2 97=true:=decide_eq_true ⟨h1,h2⟩
  rw [bothR,this,hp,ha,hb]; rfl
theorem both8_at {pol':Pol} (hp:pol'.prim 19=some both19) {p:Int} {a b:List Int} {v1 v2:HV} {H:Heap} (h1:argI H v1 a) (h2:argI H v2 b) (hl:a.length ≤ 200∧b.length ≤ 200) :
    ∀ k,callN Tp pol' (k+1) 19 [.int .i64 p,v1,v2] H=some (.tuple [.sl H.length 0 (bothR p a b).1.length none (bothR p a b).1.length 1,.int .i64 (bothR p a b).2],H ++ [bI (bothR p a b).1]):=fun k=>by
  have hd:mapO decI (a.map encI)=some a:=mapO_map decI_enc a
  have hd2:mapO decI (b.map encI)=some b:=mapO_map decI_enc b
  have hN:toArg H 6 (.int .i64 p)=some (.int .i64 p):=rfl
  unfold argI at h1 h2
  rw [prim_call (pol:=pol') (g:=19) (F:=both19) hp (rs:=[.int .i64 p,.imm .arg 1 (a.map encI),.imm .arg 1 (b.map encI)]) (by simp only [mapO,h1,h2,hN]) (res:=.tuple [.own 1 ((bothR p a b).1.map encI),.int .i64 (bothR p a b).2]) (by simp only [both19,pllF,hd,hd2]; rw [if_pos hl]),recv_li1]
theorem ix8 {b m i:Nat} (h:i < m):idxV Tp 22 (.sl b 0 m none m 1) (.int .i64 (i:Int))=some (.ptr b i 0 m):=by
  have:=idx_sl (P:=Tp) (t:=22) (b:=b) (len:=m) (tot:=m) (cap:=none) (ik:=.i64) (n:=(i:Int)) u22 z3 (by omega) (by omega)
  rwa [Int.toNat_natCast] at this
section
variable {a0 bz p:Int} {l1 l2 X Y L M V N:List Int}
abbrev smA (a0 bz:Int) (l1 l2:List Int) (p:Int) (x y l m v:Nat) (v9 v18 v19 v20 v21 v22 v23:HV):Env:=(env8 (.int .i64 a0) (.imm .arg 1 (l1.map encI)) (.imm .arg 1 (l2.map encI)) (.int .i64 bz) (.bool false) v9 (.int .i64 p) (.sl 1 0 x none x 1) (.sl 2 0 y none y 1) (.sl 3 0 l none l 1) (.int .i64 0) (.sl 4 0 m none m 1) (.int .i64 0) (.sl 5 0 v none v 1) v18 v19 v20 v21 v22 v23)
abbrev smB (a0 bz:Int) (l1 l2:List Int) (p:Int) (l n:Nat) (v21 v22 v23:HV):Env:=(env8 (.int .i64 a0) (.imm .arg 1 (l1.map encI)) (.imm .arg 1 (l2.map encI)) (.int .i64 bz) (.bool false) Ud (.int .i64 p) Ud Ud (.sl 3 0 l none l 1) Ud Ud Ud Ud Ud (.sl 6 0 n none n 1) Ud v21 v22 v23)
theorem sm_loop0 (hp:2 ≤ p∧p ≤ 97) (hX:∀ x ∈ X,0 ≤ x∧x < p) (hXl:X.length ≤ 110):∀ k i (out:List Int),i+k=X.length → out.length=i →
    ∃ y18,RT polL8 8 (sub [1,1,1,1,1,1,1,0,1,0] B8) (smA a0 bz l1 l2 p X.length Y.length L.length M.length out.length Ud (.int .i64 (i:Int)) Ud Ud Ud Ud Ud) [bP,bI X,bI Y,bI L,bI M,bI out] (.exit 0)
      (smA a0 bz l1 l2 p X.length Y.length L.length M.length (out ++ movT p (modW bz p) (X.drop i)).length Ud y18 Ud Ud Ud Ud Ud) [bP,bI X,bI Y,bI L,bI M,bI (out ++ movT p (modW bz p) (X.drop i))]:=by
  intro k
  induction k with
  | zero =>
    intro i out hi ho
    have s:=sm_i_1 a0 bz 0 (l1.map encI) (l2.map encI) prs X.length (X.map encI) Y.length (Y.map encI) L.length (L.map encI) M.length (M.map encI) out.length (out.map encI) 0 [] p i (y9:=Ud) (y19:=Ud) (y20:=Ud) (y21:=Ud) (y22:=Ud) (y23:=Ud) (by omega)
    rw [List.drop_of_length_le (by omega),movT,List.map_nil,List.append_nil]
    exact ⟨_,lpo (s) (c:=sub [1,1,1,1,1,1,1,0,1,0] B8)⟩
  | succ k ih =>
    intro i out hi ho
    have hlt:i < X.length:=by omega
    have hx:=hX (X.getD i 0) (by rw [List.getD,List.getElem?_eq_getElem hlt]; exact List.getElem_mem _)
    have hc:=modW_bounds bz p (by omega) (by omega)
    have w:IntKind.i64.wrap (X.getD i 0+modW bz p)=X.getD i 0+modW bz p:=wrap_id (by omega) (by omega)
    have t:(X.getD i 0+modW bz p).tmod p=(X.getD i 0+modW bz p) % p:=Int.tmod_eq_emod_of_nonneg (by omega)
    have ld:=load_out (H:=[bP,bI X,bI Y,bI L,bI M,bI out]) (k:=1) (o:=X) rfl (y:=i) hlt
    have c30:=mod_at (pol':=polL8) (by kernel_rfl) bz (n:=p) (by omega) (by omega) [bP,bI X,bI Y,bI L,bI M,bI out]
    have ap:=app_in1 (H:=[bP,bI X,bI Y,bI L,bI M,bI out]) (b:=5) (o:=out) rfl (by omega) ((X.getD i 0+modW bz p) % p)
    have gS:(recL ((loadV Tp [bP,bI X,bI Y,bI L,bI M,bI out] 3 (.ptr 1 i 0 X.length)).map (fun v=>(v,([bP,bI X,bI Y,bI L,bI M,bI out]:Heap)))) ((loadV Tp [bP,bI X,bI Y,bI L,bI M,bI out] 3 (.ptr 1 i 0 X.length)).map (fun v=>(v,([bP,bI X,bI Y,bI L,bI M,bI out]:Heap)))) [bP,bI X,bI Y,bI L,bI M,bI out] [bP,bI X,bI Y,bI L,bI M,bI out] && true)=true:=by
      rw [ld]
      simp only [Option.map_some,recL,same,sameH,same_prs,same_intsL,beq_self_eq_true,Bool.and_self]
    have s:=sm_i_0 a0 bz (modW bz p) (l1.map encI) (l2.map encI) prs X.length (X.map encI) Y.length (Y.map encI) L.length (L.map encI) M.length (M.map encI) out.length (out.map encI) 0 [] p i (y9:=Ud) (y19:=Ud) (y20:=Ud) (y21:=Ud) (y22:=Ud) (y23:=Ud) (by omega) (ix8 hlt) ld c30 (rem3 (by omega)) (by rw [w,t]; exact ap.trans (by simp only [bI,List.map_append]; rfl)) gS
    rw [w,t,wrap_succ (by omega)] at s
    have e2:[bP,Blk.arr 1 (X.map encI) true 0,.arr 1 (Y.map encI) true 0,.arr 1 (L.map encI) true 0,.arr 1 (M.map encI) true 0,.arr 1 (out.map encI ++ [.int .i64 ((X.getD i 0+modW bz p) % p)]) true 0]=[bP,bI X,bI Y,bI L,bI M,bI (out ++ [(X.getD i 0+modW bz p) % p])]:=by simp only [bI,List.map_append]; rfl
    rw [e2] at s
    obtain ⟨y18,r⟩:=ih (i+1) (out ++ [(X.getD i 0+modW bz p) % p]) (by omega) (by simp; omega)
    have e1:out ++ movT p (modW bz p) (X.drop i)=out ++ [(X.getD i 0+modW bz p) % p] ++ movT p (modW bz p) (X.drop (i+1)):=by
      rw [drop_cons (0:Int) hlt,movT,List.map_cons,List.append_assoc]; rfl
    rw [e1]
    rw [show (out ++ [(X.getD i 0+modW bz p) % p]).length=out.length+1 by simp] at r
    exact ⟨y18,lop (s) (gc_eq _ rfl) (r)⟩
theorem sm_loop4T (i:Nat):∀ k j,j+k=N.length → N.length ≤ 1000 →
    ∃ y23,RT polL8 8 (sub [1,1,1,1,1,1,1,1,1,1,0,1,0,0,1,0,0,1,0,1,0] B8) (smB a0 bz l1 l2 p L.length N.length (.int .i64 (i:Int)) (.bool true) (.int .i64 (j:Int))) [bP,bI X,bI Y,bI L,bI M,bI V,bI N] (.exit 4)
      (smB a0 bz l1 l2 p L.length N.length (.int .i64 (i:Int)) (.bool true) y23) [bP,bI X,bI Y,bI L,bI M,bI V,bI N]:=by
  intro k
  induction k with
  | zero =>
    intro j hj hN
    have s:=sm_r_1 a0 bz 0 (l1.map encI) (l2.map encI) prs X.length (X.map encI) Y.length (Y.map encI) L.length (L.map encI) M.length (M.map encI) V.length (V.map encI) N.length (N.map encI) p i j (y9:=Ud) (y11:=Ud) (y12:=Ud) (y14:=Ud) (y15:=Ud) (y16:=Ud) (y17:=Ud) (y18:=Ud) (y20:=Ud) (by omega)
    exact ⟨_,lpo (s) (c:=sub [1,1,1,1,1,1,1,1,1,1,0,1,0,0,1,0,0,1,0,1,0] B8)⟩
  | succ k ih =>
    intro j hj hN
    have s:=sm_r_0 a0 bz 0 (l1.map encI) (l2.map encI) prs X.length (X.map encI) Y.length (Y.map encI) L.length (L.map encI) M.length (M.map encI) V.length (V.map encI) N.length (N.map encI) p i j (y9:=Ud) (y11:=Ud) (y12:=Ud) (y14:=Ud) (y15:=Ud) (y16:=Ud) (y17:=Ud) (y18:=Ud) (y20:=Ud) (by omega) rfl
    rw [wrap_succ (by omega)] at s
    obtain ⟨y23,r⟩:=ih (j+1) (by omega) hN
    exact ⟨y23,lop (s) (gc_eq _ rfl) (r)⟩
theorem sm_loop4 (hp:2 ≤ p∧p ≤ 97) (hL:∀ x ∈ L,0 ≤ x∧x < p) {i:Nat} (hi:i < L.length) (hN:N.length ≤ 1000):∀ k j,j+k=N.length → (∃ q,j ≤ q∧q < N.length∧N.getD q 0=(L.getD i 0+modW bz p) % p) →
    ∃ y23,RT polL8 8 (sub [1,1,1,1,1,1,1,1,1,1,0,1,0,0,1,0,0,1,0,1,0] B8) (smB a0 bz l1 l2 p L.length N.length (.int .i64 (i:Int)) (.bool false) (.int .i64 (j:Int))) [bP,bI X,bI Y,bI L,bI M,bI V,bI N] (.exit 4)
      (smB a0 bz l1 l2 p L.length N.length (.int .i64 (i:Int)) (.bool true) y23) [bP,bI X,bI Y,bI L,bI M,bI V,bI N]:=by
  intro k
  induction k with
  | zero=>rintro j hj ⟨q,q1,q2,_⟩; omega
  | succ k ih =>
    rintro j hj ⟨q,q1,q2,q3⟩
    have hlt:j < N.length:=by omega
    have hx:=hL (L.getD i 0) (by rw [List.getD,List.getElem?_eq_getElem hi]; exact List.getElem_mem _)
    have hc:=modW_bounds bz p (by omega) (by omega)
    have w:IntKind.i64.wrap (L.getD i 0+modW bz p)=L.getD i 0+modW bz p:=wrap_id (by omega) (by omega)
    have t:(L.getD i 0+modW bz p).tmod p=(L.getD i 0+modW bz p) % p:=Int.tmod_eq_emod_of_nonneg (by omega)
    have ld:=load_out (H:=[bP,bI X,bI Y,bI L,bI M,bI V,bI N]) (k:=6) (o:=N) rfl (y:=j) hlt
    have ld2:=load_out (H:=[bP,bI X,bI Y,bI L,bI M,bI V,bI N]) (k:=3) (o:=L) rfl (y:=i) hi
    have c30:=mod_at (pol':=polL8) (by kernel_rfl) bz (n:=p) (by omega) (by omega) [bP,bI X,bI Y,bI L,bI M,bI V,bI N]
    have gS:(recL ((loadV Tp [bP,bI X,bI Y,bI L,bI M,bI V,bI N] 3 (.ptr 6 j 0 N.length)).map (fun v=>(v,([bP,bI X,bI Y,bI L,bI M,bI V,bI N]:Heap)))) ((loadV Tp [bP,bI X,bI Y,bI L,bI M,bI V,bI N] 3 (.ptr 6 j 0 N.length)).map (fun v=>(v,([bP,bI X,bI Y,bI L,bI M,bI V,bI N]:Heap)))) [bP,bI X,bI Y,bI L,bI M,bI V,bI N] [bP,bI X,bI Y,bI L,bI M,bI V,bI N] && (recL ((loadV Tp [bP,bI X,bI Y,bI L,bI M,bI V,bI N] 3 (.ptr 3 i 0 L.length)).map (fun v=>(v,([bP,bI X,bI Y,bI L,bI M,bI V,bI N]:Heap)))) ((loadV Tp [bP,bI X,bI Y,bI L,bI M,bI V,bI N] 3 (.ptr 3 i 0 L.length)).map (fun v=>(v,([bP,bI X,bI Y,bI L,bI M,bI V,bI N]:Heap)))) [bP,bI X,bI Y,bI L,bI M,bI V,bI N] [bP,bI X,bI Y,bI L,bI M,bI V,bI N] && true))=true:=by
      rw [ld,ld2]
      simp only [Option.map_some,recL,same,sameH,same_prs,same_intsL,beq_self_eq_true,Bool.and_self]
    by_cases c:N.getD j 0=(L.getD i 0+modW bz p) % p
    · have s:=sm_s_0 a0 bz (modW bz p) (l1.map encI) (l2.map encI) prs X.length (X.map encI) Y.length (Y.map encI) L.length (L.map encI) M.length (M.map encI) V.length (V.map encI) N.length (N.map encI) p i j (y9:=Ud) (y11:=Ud) (y12:=Ud) (y14:=Ud) (y15:=Ud) (y16:=Ud) (y17:=Ud) (y18:=Ud) (y20:=Ud) (by omega) (ix8 hlt) ld (ix8 hi) ld2 c30 (rem3 (by omega)) (by rw [w,t]; exact c) gS
      rw [wrap_succ (by omega)] at s
      obtain ⟨y23,r⟩:=sm_loop4T (a0:=a0) (bz:=bz) (p:=p) (l1:=l1) (l2:=l2) (X:=X) (Y:=Y) (L:=L) (M:=M) (V:=V) (N:=N) i k (j+1) (by omega) hN
      exact ⟨y23,lop (s) (gc_eq _ rfl) (r)⟩
    · have s:=sm_s_1 a0 bz (modW bz p) (l1.map encI) (l2.map encI) prs X.length (X.map encI) Y.length (Y.map encI) L.length (L.map encI) M.length (M.map encI) V.length (V.map encI) N.length (N.map encI) p i j (y9:=Ud) (y11:=Ud) (y12:=Ud) (y14:=Ud) (y15:=Ud) (y16:=Ud) (y17:=Ud) (y18:=Ud) (y20:=Ud) (by omega) (ix8 hlt) ld (ix8 hi) ld2 c30 (rem3 (by omega)) (by rw [w,t]; exact c) gS
      rw [wrap_succ (by omega)] at s
      obtain ⟨y23,r⟩:=ih (j+1) (by omega) ⟨q,by
        rcases Nat.lt_or_ge j q with h | h
        · exact h
        · exact absurd (by rw [show j=q by omega]; exact q3) c,q2,q3⟩
      exact ⟨y23,lop (s) (gc_eq _ rfl) (r)⟩
theorem sm_loop2 (hp:2 ≤ p∧p ≤ 97) (hL:∀ x ∈ L,0 ≤ x∧x < p) (hLl:L.length ≤ 1000) (hN:N.length ≤ 1000) (hall:∀ i,i < L.length → ∃ q,q < N.length∧N.getD q 0=(L.getD i 0+modW bz p) % p):∀ k i,i+k=L.length →
    ∃ y21 y22 y23,RT polL8 8 (sub [1,1,1,1,1,1,1,1,1,1,0,1,0] B8) (smB a0 bz l1 l2 p L.length N.length (.int .i64 (i:Int)) Ud Ud) [bP,bI X,bI Y,bI L,bI M,bI V,bI N] (.exit 2)
      (smB a0 bz l1 l2 p L.length N.length y21 y22 y23) [bP,bI X,bI Y,bI L,bI M,bI V,bI N]:=by
  intro k
  induction k with
  | zero =>
    intro i hi
    have s:=sm_m_1 a0 bz 0 (l1.map encI) (l2.map encI) prs X.length (X.map encI) Y.length (Y.map encI) L.length (L.map encI) M.length (M.map encI) V.length (V.map encI) N.length (N.map encI) p i (y9:=Ud) (y11:=Ud) (y12:=Ud) (y14:=Ud) (y15:=Ud) (y16:=Ud) (y17:=Ud) (y18:=Ud) (y20:=Ud) (y22:=Ud) (y23:=Ud) (by omega)
    exact ⟨_,_,_,lpo (sqo (s) (c:=sub [1,1,1,1,1,1,1,1,1,1,0,1,0,0] B8) (b:=sub [1,1,1,1,1,1,1,1,1,1,0,1,0,0,1] B8)) (c:=sub [1,1,1,1,1,1,1,1,1,1,0,1,0] B8)⟩
  | succ k ih =>
    intro i hi
    have hlt:i < L.length:=by omega
    obtain ⟨q,q1,q2⟩:=hall i hlt
    have s1:=sm_m_0 a0 bz 0 (l1.map encI) (l2.map encI) prs X.length (X.map encI) Y.length (Y.map encI) L.length (L.map encI) M.length (M.map encI) V.length (V.map encI) N.length (N.map encI) p i (y9:=Ud) (y11:=Ud) (y12:=Ud) (y14:=Ud) (y15:=Ud) (y16:=Ud) (y17:=Ud) (y18:=Ud) (y20:=Ud) (y22:=Ud) (y23:=Ud) (by omega)
    have s2:=sm_o_0 a0 bz 0 (l1.map encI) (l2.map encI) prs X.length (X.map encI) Y.length (Y.map encI) L.length (L.map encI) M.length (M.map encI) V.length (V.map encI) N.length (N.map encI) p i (y9:=Ud) (y11:=Ud) (y12:=Ud) (y14:=Ud) (y15:=Ud) (y16:=Ud) (y17:=Ud) (y18:=Ud) (y20:=Ud) (y22:=Ud) (y23:=Ud)
    have s3:=sm_q_0 a0 bz 0 (l1.map encI) (l2.map encI) prs X.length (X.map encI) Y.length (Y.map encI) L.length (L.map encI) M.length (M.map encI) V.length (V.map encI) N.length (N.map encI) p i (y9:=Ud) (y11:=Ud) (y12:=Ud) (y14:=Ud) (y15:=Ud) (y16:=Ud) (y17:=Ud) (y18:=Ud) (y20:=Ud) (y23:=Ud)
    obtain ⟨y23,r1⟩:=sm_loop4 (a0:=a0) (l1:=l1) (l2:=l2) (X:=X) (Y:=Y) (M:=M) (V:=V) hp hL hlt hN N.length 0 (by omega) ⟨q,Nat.zero_le _,q1,q2⟩
    have s4:=sm_t_0 a0 bz 0 (l1.map encI) (l2.map encI) prs X.length (X.map encI) Y.length (Y.map encI) L.length (L.map encI) M.length (M.map encI) V.length (V.map encI) N.length (N.map encI) p i (y23:=y23) (y9:=Ud) (y11:=Ud) (y12:=Ud) (y14:=Ud) (y15:=Ud) (y16:=Ud) (y17:=Ud) (y18:=Ud) (y20:=Ud)
    have s5:=sm_u_0 a0 bz 0 (l1.map encI) (l2.map encI) prs X.length (X.map encI) Y.length (Y.map encI) L.length (L.map encI) M.length (M.map encI) V.length (V.map encI) N.length (N.map encI) p i (y22:=.bool true) (y23:=y23) (y9:=Ud) (y11:=Ud) (y12:=Ud) (y14:=Ud) (y15:=Ud) (y16:=Ud) (y17:=Ud) (y18:=Ud) (y20:=Ud)
    rw [wrap_succ (by omega)] at s5
    obtain ⟨z21,z22,z23,r⟩:=ih (i+1) (by omega)
    exact ⟨z21,z22,z23,lop (sq (s1) (sq (RunsTo.block_normal (i:=3) (c:=sub [1,1,1,1,1,1,1,1,1,1,0,1,0,0,1,0] B8) (sq (s2) (sq (sq (s3) (bke (c:=sub [1,1,1,1,1,1,1,1,1,1,0,1,0,0,1,0,0,1,0,1] B8) (lpi (e0:=(smB a0 bz l1 l2 p L.length N.length (.int .i64 (i:Int)) (.bool false) (.int .i64 ((0:Nat):Int)))) r1 (b:=sub [1,1,1,1,1,1,1,1,1,1,0,1,0,0,1,0,0,1,0,1,0,0] B8))) (c:=sub [1,1,1,1,1,1,1,1,1,1,0,1,0,0,1,0,0,1,0] B8)) (s4) (c:=sub [1,1,1,1,1,1,1,1,1,1,0,1,0,0,1,0,0,1] B8)) (c:=sub [1,1,1,1,1,1,1,1,1,1,0,1,0,0,1,0,0] B8)) (by kernel_rfl)) (s5) (c:=sub [1,1,1,1,1,1,1,1,1,1,0,1,0,0,1] B8)) (c:=sub [1,1,1,1,1,1,1,1,1,1,0,1,0,0] B8)) (gc_eq _ rfl) (r)⟩
end
theorem sm_rest (a0 bz:Int) (l1 l2:List Int) {p:Int} (hp:2 ≤ p∧p ≤ 97) (hpr:primeT p=true) (v9:HV):∃ E H,RT polL8 8 (sub [1,1,1] B8) (env8 (.int .i64 a0) (.imm .arg 1 (l1.map encI)) (.imm .arg 1 (l2.map encI)) (.int .i64 bz) (.bool false) v9 (.int .i64 p) Ud Ud Ud Ud Ud Ud Ud Ud Ud Ud Ud Ud Ud) [bP] .ret E H∧E.get 8=.bool true:=by
  obtain ⟨sX,lX⟩:=setS_set (p:=p) (by omega) l1
  obtain ⟨sY,lY⟩:=setS_set (p:=p) (by omega) l2
  have c32:=set32_at (pol':=polL8) (by kernel_rfl) (p:=p) (l:=l1) ⟨by omega,by omega⟩ [bP]
  have d32:=set32_at (pol':=polL8) (by kernel_rfl) (p:=p) (l:=l2) ⟨by omega,by omega⟩ [bP,bI (setS p l1)]
  generalize setS p l1=X at *
  generalize setS p l2=Y at *
  have hc:=modW_bounds bz p (by omega) (by omega)
  have sV:=mov_set (p:=p) (c:=modW bz p) (by omega) sX
  have lV:(movT p (modW bz p) X).length=X.length:=by simp [movT]
  have e1:=bothR_ok hp.1 hp.2 hpr sX sY
  have e2:=bothR_ok hp.1 hp.2 hpr sY sX
  rw [bothT_comm p Y X] at e2
  have e3:=bothR_ok hp.1 hp.2 hpr sV sY
  have f1:=bothT_few (p:=p) (by omega) X Y
  have f2:=bothT_many hp.1 hpr sX sY
  have f3:=mov_len (p:=p) (c:=modW bz p) (by omega) (a:=X) (b:=Y)
  have f4:=bothT_in (p:=p) (by omega) (a:=X) (b:=Y)
  have f5:=fun z=>mov_mem (p:=p) (c:=modW bz p) (by omega) (a:=X) (b:=Y) (z:=z)
  have f6:(bothT p X Y).length ≤ 97:=by
    have:=List.length_filter_le (fun (r:Nat)=>decide ((r:Int) ∈ bothS p X Y)) (List.range p.toNat)
    rw [List.length_range] at this
    rw [bothT,List.length_map]; omega
  have c19:=both8_at (pol':=polL8) (by kernel_rfl) (p:=p) (a:=X) (b:=Y) (v1:=.sl 1 0 X.length none X.length 1) (v2:=.sl 2 0 Y.length none Y.length 1) (H:=[bP,bI X,bI Y]) (argI_sl rfl rfl) (argI_sl rfl rfl) ⟨by omega,by omega⟩
  rw [e1] at c19
  have d19:=both8_at (pol':=polL8) (by kernel_rfl) (p:=p) (a:=Y) (b:=X) (v1:=.sl 2 0 Y.length none Y.length 1) (v2:=.sl 1 0 X.length none X.length 1) (H:=[bP,bI X,bI Y,bI (bothT p X Y)]) (argI_sl rfl rfl) (argI_sl rfl rfl) ⟨by omega,by omega⟩
  rw [e2] at d19
  have g19:=both8_at (pol':=polL8) (by kernel_rfl) (p:=p) (a:=movT p (modW bz p) X) (b:=Y) (v1:=.sl 5 0 (movT p (modW bz p) X).length none (movT p (modW bz p) X).length 1) (v2:=.sl 2 0 Y.length none Y.length 1) (H:=[bP,bI X,bI Y,bI (bothT p X Y),bI (bothT p X Y),bI (movT p (modW bz p) X)]) (argI_sl rfl rfl) (argI_sl rfl rfl) ⟨by omega,by omega⟩
  rw [e3] at g19
  have lp0:=sm_loop0 (a0:=a0) (bz:=bz) (l1:=l1) (l2:=l2) (X:=X) (Y:=Y) (L:=bothT p X Y) (M:=bothT p X Y) hp (setT_iff.1 sX).1 lX X.length 0 [] (by omega) rfl
  rw [List.drop_zero,List.nil_append] at lp0
  obtain ⟨y18,lp0⟩:=lp0
  generalize bothT p (movT p (modW bz p) X) Y=N at *
  generalize bothT p X Y=L at *
  generalize movT p (modW bz p) X=V at *
  have hall:∀ i,i < L.length → ∃ q,q < N.length∧N.getD q 0=(L.getD i 0+modW bz p) % p:=fun i hi=>by
    have:(L.getD i 0+modW bz p) % p ∈ N:=(f5 _).2 ⟨L.getD i 0,by rw [List.getD,List.getElem?_eq_getElem hi]; exact List.getElem_mem _,rfl⟩
    obtain ⟨q,hq,e⟩:=List.getElem_of_mem this
    exact ⟨q,hq,by rw [List.getD,List.getElem?_eq_getElem hq]; exact e⟩
  obtain ⟨y21,y22,y23,lp2⟩:=sm_loop2 (a0:=a0) (l1:=l1) (l2:=l2) (X:=X) (Y:=Y) (M:=L) (V:=V) hp f4 (by omega) (by omega) hall L.length 0 (by omega)
  have it:=ints_at (pol':=polL8) (by kernel_rfl) (a:=L) (b:=L) (v1:=.sl 3 0 L.length none L.length 1) (v2:=.sl 4 0 L.length none L.length 1) (H:=[bP,bI X,bI Y,bI L,bI L,bI V,bI N]) (argI_sl rfl rfl) (argI_sl rfl rfl) (by omega)
  rw [decide_eq_true rfl] at it
  have hmul:X.length * Y.length ≤ 110 * 110:=Nat.mul_le_mul lX lY
  have hmi:(X.length:Int) * (Y.length:Int)=((X.length * Y.length:Nat):Int):=(Int.natCast_mul ..).symm
  have w1:IntKind.i64.wrap (IntKind.i64.wrap ((X.length:Int)+(Y.length:Int)) - 1)=(X.length:Int)+(Y.length:Int) - 1:=by rw [wrap_id (n:=(X.length:Int)+(Y.length:Int)) (by omega) (by omega)]; exact wrap_id (by omega) (by omega)
  have w2:IntKind.i64.wrap ((X.length:Int) * (Y.length:Int))=(X.length:Int) * (Y.length:Int):=wrap_id (by rw [hmi]; omega) (by rw [hmi]; omega)
  have d:=sm_d_0 a0 bz 0 (l1.map encI) (l2.map encI) prs X.length (X.map encI) Y.length (Y.map encI) 0 [] 0 [] 0 [] 0 [] p (y9:=v9) (y11:=Ud) (y12:=Ud) (y13:=Ud) (y14:=Ud) (y15:=Ud) (y16:=Ud) (y17:=Ud) (y18:=Ud) (y19:=Ud) (y20:=Ud) (y21:=Ud) (y22:=Ud) (y23:=Ud) c32 d32
  have e:=sm_e_0 a0 bz 0 (l1.map encI) (l2.map encI) prs X.length (X.map encI) Y.length (Y.map encI) L.length (L.map encI) 0 [] 0 [] 0 [] p (y9:=v9) (y13:=Ud) (y14:=Ud) (y15:=Ud) (y16:=Ud) (y17:=Ud) (y18:=Ud) (y19:=Ud) (y20:=Ud) (y21:=Ud) (y22:=Ud) (y23:=Ud) c19
  have f:=sm_f_0 a0 bz 0 (l1.map encI) (l2.map encI) prs X.length (X.map encI) Y.length (Y.map encI) L.length (L.map encI) L.length (L.map encI) 0 [] 0 [] p (y9:=v9) (y15:=Ud) (y16:=Ud) (y17:=Ud) (y18:=Ud) (y19:=Ud) (y20:=Ud) (y21:=Ud) (y22:=Ud) (y23:=Ud) d19
  have g:=sm_g_0 a0 bz 0 (l1.map encI) (l2.map encI) prs X.length (X.map encI) Y.length (Y.map encI) L.length (L.map encI) L.length (L.map encI) 0 [] 0 [] p (y9:=v9) (y17:=Ud) (y18:=Ud) (y19:=Ud) (y20:=Ud) (y21:=Ud) (y22:=Ud) (y23:=Ud)
  have h:=sm_h_0 a0 bz 0 (l1.map encI) (l2.map encI) prs X.length (X.map encI) Y.length (Y.map encI) L.length (L.map encI) L.length (L.map encI) 0 [] 0 [] p (y9:=v9) (y18:=Ud) (y19:=Ud) (y20:=Ud) (y21:=Ud) (y22:=Ud) (y23:=Ud)
  have j:=sm_j_0 a0 bz 0 (l1.map encI) (l2.map encI) prs X.length (X.map encI) Y.length (Y.map encI) L.length (L.map encI) L.length (L.map encI) V.length (V.map encI) N.length (N.map encI) p (y18:=y18) (y9:=Ud) (y19:=Ud) (y20:=Ud) (y21:=Ud) (y22:=Ud) (y23:=Ud) g19
  have k:=sm_k_2 a0 bz 0 (l1.map encI) (l2.map encI) prs X.length (X.map encI) Y.length (Y.map encI) L.length (L.map encI) L.length (L.map encI) V.length (V.map encI) N.length (N.map encI) p (y18:=y18) (y9:=Ud) (y21:=Ud) (y22:=Ud) (y23:=Ud) it (by rw [w1]; omega) (by rw [w2,hmi]; omega) (by omega)
  have l:=sm_l_0 a0 bz 0 (l1.map encI) (l2.map encI) prs X.length (X.map encI) Y.length (Y.map encI) L.length (L.map encI) L.length (L.map encI) V.length (V.map encI) N.length (N.map encI) p (y11:=.sl 1 0 X.length none X.length 1) (y12:=.sl 2 0 Y.length none Y.length 1) (y14:=.int .i64 0) (y15:=.sl 4 0 L.length none L.length 1) (y16:=.int .i64 0) (y17:=.sl 5 0 V.length none V.length 1) (y18:=y18) (y20:=.int .i64 0) (y9:=Ud) (y21:=Ud) (y22:=Ud) (y23:=Ud)
  have v:=sm_v_0 a0 bz 0 (l1.map encI) (l2.map encI) prs X.length (X.map encI) Y.length (Y.map encI) L.length (L.map encI) L.length (L.map encI) V.length (V.map encI) N.length (N.map encI) p (y21:=y21) (y22:=y22) (y23:=y23) (y9:=Ud) (y11:=Ud) (y12:=Ud) (y14:=Ud) (y15:=Ud) (y16:=Ud) (y17:=Ud) (y18:=Ud) (y20:=Ud) (awake_at (pol':=polL8) (by kernel_rfl) _)
  have u:=sq (d) (sq (e) (sq (f) (sq (g) (sq (sq (h) (bke (c:=sub [1,1,1,1,1,1,1,0,1] B8) (lpi (e0:=(smA a0 bz l1 l2 p X.length Y.length L.length L.length 0 v9 (.int .i64 ((0:Nat):Int)) Ud Ud Ud Ud Ud)) lp0 (b:=sub [1,1,1,1,1,1,1,0,1,0,0] B8))) (c:=sub [1,1,1,1,1,1,1,0] B8)) (sq (j) (sq (k) (sq (sq (l) (bke (c:=sub [1,1,1,1,1,1,1,1,1,1,0,1] B8) (lpi (e0:=(smA a0 bz l1 l2 p X.length Y.length L.length L.length V.length Ud y18 (.sl 6 0 N.length none N.length 1) (.int .i64 0) (.int .i64 ((0:Nat):Int)) Ud Ud)) lp2 (b:=sub [1,1,1,1,1,1,1,1,1,1,0,1,0,0] B8))) (c:=sub [1,1,1,1,1,1,1,1,1,1,0] B8)) (v) (c:=sub [1,1,1,1,1,1,1,1,1,1] B8)) (c:=sub [1,1,1,1,1,1,1,1,1] B8)) (c:=sub [1,1,1,1,1,1,1,1] B8)) (c:=sub [1,1,1,1,1,1,1] B8)) (c:=sub [1,1,1,1,1,1] B8)) (c:=sub [1,1,1,1,1] B8)) (c:=sub [1,1,1,1] B8)) (c:=sub [1,1,1] B8)
  exact ⟨_,_,u,rfl⟩
theorem sumsMany_law (a0:Int) (l1 l2:List Int) (bz:Int):∃ E H,RT polL8 8 B8 (args0 [.int .i64 a0,.imm .arg 1 (l1.map encI),.imm .arg 1 (l2.map encI),.int .i64 bz]) [] .ret E H∧E.get 8=.bool true:=by
  have a:=sm_a_0 a0 bz 0 (l1.map encI) (l2.map encI)
  have b:=sm_b_0 a0 bz 0 (l1.map encI) (l2.map encI) (y9:=Ud) (y10:=Ud) (y11:=Ud) (y12:=Ud) (y13:=Ud) (y14:=Ud) (y15:=Ud) (y16:=Ud) (y17:=Ud) (y18:=Ud) (y19:=Ud) (y20:=Ud) (y21:=Ud) (y22:=Ud) (y23:=Ud)
  have hm:=modW_bounds a0 10 (by omega) (by omega)
  have c30:=mod_at (pol':=polL8) (by kernel_rfl) a0 (n:=10) (by omega) (by omega) [bP]
  generalize modW a0 10=m at *
  have hm10:m=0 ∨ m=1 ∨ m=2 ∨ m=3 ∨ m=4 ∨ m=5 ∨ m=6 ∨ m=7 ∨ m=8 ∨ m=9:=by omega
  rcases hm10 with rfl | rfl | rfl | rfl | rfl | rfl | rfl | rfl | rfl | rfl
  · have c:=sm_c_0 a0 bz 0 (l1.map encI) (l2.map encI) (y10:=Ud) (y11:=Ud) (y12:=Ud) (y13:=Ud) (y14:=Ud) (y15:=Ud) (y16:=Ud) (y17:=Ud) (y18:=Ud) (y19:=Ud) (y20:=Ud) (y21:=Ud) (y22:=Ud) (y23:=Ud) c30
    obtain ⟨E,H,r,hE⟩:=sm_rest a0 bz l1 l2 (p:=2) (by omega) (by decide) (.ptr 0 0 0 1)
    have u:=sq (a) (sq (b) (sq (c) (r) (c:=sub [1,1] B8)) (c:=sub [1] B8)) (c:=B8)
    exact ⟨E,H,u,hE⟩
  · have c:=sm_c_1 a0 bz 0 (l1.map encI) (l2.map encI) (y10:=Ud) (y11:=Ud) (y12:=Ud) (y13:=Ud) (y14:=Ud) (y15:=Ud) (y16:=Ud) (y17:=Ud) (y18:=Ud) (y19:=Ud) (y20:=Ud) (y21:=Ud) (y22:=Ud) (y23:=Ud) c30
    obtain ⟨E,H,r,hE⟩:=sm_rest a0 bz l1 l2 (p:=3) (by omega) (by decide) (.ptr 0 0 0 1)
    have u:=sq (a) (sq (b) (sq (c) (r) (c:=sub [1,1] B8)) (c:=sub [1] B8)) (c:=B8)
    exact ⟨E,H,u,hE⟩
  · have c:=sm_c_2 a0 bz 0 (l1.map encI) (l2.map encI) (y10:=Ud) (y11:=Ud) (y12:=Ud) (y13:=Ud) (y14:=Ud) (y15:=Ud) (y16:=Ud) (y17:=Ud) (y18:=Ud) (y19:=Ud) (y20:=Ud) (y21:=Ud) (y22:=Ud) (y23:=Ud) c30
    obtain ⟨E,H,r,hE⟩:=sm_rest a0 bz l1 l2 (p:=5) (by omega) (by decide) (.ptr 0 0 0 1)
    have u:=sq (a) (sq (b) (sq (c) (r) (c:=sub [1,1] B8)) (c:=sub [1] B8)) (c:=B8)
    exact ⟨E,H,u,hE⟩
  · have c:=sm_c_3 a0 bz 0 (l1.map encI) (l2.map encI) (y10:=Ud) (y11:=Ud) (y12:=Ud) (y13:=Ud) (y14:=Ud) (y15:=Ud) (y16:=Ud) (y17:=Ud) (y18:=Ud) (y19:=Ud) (y20:=Ud) (y21:=Ud) (y22:=Ud) (y23:=Ud) c30
    obtain ⟨E,H,r,hE⟩:=sm_rest a0 bz l1 l2 (p:=7) (by omega) (by decide) (.ptr 0 0 0 1)
    have u:=sq (a) (sq (b) (sq (c) (r) (c:=sub [1,1] B8)) (c:=sub [1] B8)) (c:=B8)
    exact ⟨E,H,u,hE⟩
  · have c:=sm_c_4 a0 bz 0 (l1.map encI) (l2.map encI) (y10:=Ud) (y11:=Ud) (y12:=Ud) (y13:=Ud) (y14:=Ud) (y15:=Ud) (y16:=Ud) (y17:=Ud) (y18:=Ud) (y19:=Ud) (y20:=Ud) (y21:=Ud) (y22:=Ud) (y23:=Ud) c30
    obtain ⟨E,H,r,hE⟩:=sm_rest a0 bz l1 l2 (p:=11) (by omega) (by decide) (.ptr 0 0 0 1)
    have u:=sq (a) (sq (b) (sq (c) (r) (c:=sub [1,1] B8)) (c:=sub [1] B8)) (c:=B8)
    exact ⟨E,H,u,hE⟩
  · have c:=sm_c_5 a0 bz 0 (l1.map encI) (l2.map encI) (y10:=Ud) (y11:=Ud) (y12:=Ud) (y13:=Ud) (y14:=Ud) (y15:=Ud) (y16:=Ud) (y17:=Ud) (y18:=Ud) (y19:=Ud) (y20:=Ud) (y21:=Ud) (y22:=Ud) (y23:=Ud) c30
    obtain ⟨E,H,r,hE⟩:=sm_rest a0 bz l1 l2 (p:=13) (by omega) (by decide) (.ptr 0 0 0 1)
    have u:=sq (a) (sq (b) (sq (c) (r) (c:=sub [1,1] B8)) (c:=sub [1] B8)) (c:=B8)
    exact ⟨E,H,u,hE⟩
  · have c:=sm_c_6 a0 bz 0 (l1.map encI) (l2.map encI) (y10:=Ud) (y11:=Ud) (y12:=Ud) (y13:=Ud) (y14:=Ud) (y15:=Ud) (y16:=Ud) (y17:=Ud) (y18:=Ud) (y19:=Ud) (y20:=Ud) (y21:=Ud) (y22:=Ud) (y23:=Ud) c30
    obtain ⟨E,H,r,hE⟩:=sm_rest a0 bz l1 l2 (p:=31) (by omega) (by decide) (.ptr 0 0 0 1)
    have u:=sq (a) (sq (b) (sq (c) (r) (c:=sub [1,1] B8)) (c:=sub [1] B8)) (c:=B8)
    exact ⟨E,H,u,hE⟩
  · have c:=sm_c_7 a0 bz 0 (l1.map encI) (l2.map encI) (y10:=Ud) (y11:=Ud) (y12:=Ud) (y13:=Ud) (y14:=Ud) (y15:=Ud) (y16:=Ud) (y17:=Ud) (y18:=Ud) (y19:=Ud) (y20:=Ud) (y21:=Ud) (y22:=Ud) (y23:=Ud) c30
    obtain ⟨E,H,r,hE⟩:=sm_rest a0 bz l1 l2 (p:=53) (by omega) (by decide) (.ptr 0 0 0 1)
    have u:=sq (a) (sq (b) (sq (c) (r) (c:=sub [1,1] B8)) (c:=sub [1] B8)) (c:=B8)
    exact ⟨E,H,u,hE⟩
  · have c:=sm_c_8 a0 bz 0 (l1.map encI) (l2.map encI) (y10:=Ud) (y11:=Ud) (y12:=Ud) (y13:=Ud) (y14:=Ud) (y15:=Ud) (y16:=Ud) (y17:=Ud) (y18:=Ud) (y19:=Ud) (y20:=Ud) (y21:=Ud) (y22:=Ud) (y23:=Ud) c30
    obtain ⟨E,H,r,hE⟩:=sm_rest a0 bz l1 l2 (p:=89) (by omega) (by decide) (.ptr 0 0 0 1)
    have u:=sq (a) (sq (b) (sq (c) (r) (c:=sub [1,1] B8)) (c:=sub [1] B8)) (c:=B8)
    exact ⟨E,H,u,hE⟩
  · have c:=sm_c_9 a0 bz 0 (l1.map encI) (l2.map encI) (y10:=Ud) (y11:=Ud) (y12:=Ud) (y13:=Ud) (y14:=Ud) (y15:=Ud) (y16:=Ud) (y17:=Ud) (y18:=Ud) (y19:=Ud) (y20:=Ud) (y21:=Ud) (y22:=Ud) (y23:=Ud) c30
    obtain ⟨E,H,r,hE⟩:=sm_rest a0 bz l1 l2 (p:=97) (by omega) (by decide) (.ptr 0 0 0 1)
    have u:=sq (a) (sq (b) (sq (c) (r) (c:=sub [1,1] B8)) (c:=sub [1] B8)) (c:=B8)
    exact ⟨E,H,u,hE⟩
end Go.Proofs.Ytaibmipamkaljaa
end
section
namespace Go.HL
open Go.ChangeShapes Go.WideShapes Go.ChangeAt Go.RowKit Go.Deep
theorem okNil (w:World) (r:Nat):okOf Ctx.nil w.heap.size false r:=by
  refine ⟨fun hM=>?_,by simp⟩
  obtain ⟨b,y,h1,_,_⟩:=M_iff.1 hM
  simp [Ctx.nil] at h1
theorem cell_lt {w:World} {a:Addr} {v:Value} (h:w.cell? a=some v):a.block < w.heap.size:=by
  rcases Nat.lt_or_ge a.block w.heap.size with hl | hl
  · exact hl
  · have:w.heap[a.block]?=none:=by simp [hl]
    simp [World.cell?,this] at h
end Go.HL
end
section
namespace Go.HL
open Go.ChangeShapes Go.WideShapes Go.ChangeAt Go.RowKit Go.Deep
theorem arg_ints_ok {H:Type} {enc:TypeId × Value → H} {P:Program} {W:World} {base:Nat} {t q:TypeId} {v:Value} {d:DataW H} {ps:List MemPlace} (ht:P.underlying t=some (.slice q)) (hq:P.underlying q=some (.int .i64)) (cq:P.cellsOf q=1)
    (hval:Value.okWide P W .any base t v) (hd:DataW.Trod enc P W 0 (fun _=>true) true t v d ps):∃ l:List Int,V W (okOf Ctx.nil W.heap.size) Ctx.nil (.imm .arg 1 (l.map encI)) v:=by
  obtain ⟨a,len,cap,rfl⟩:=okWide_slice ht hval
  obtain ⟨fuel,hf⟩:=hd
  rcases open_slice ht hf with ⟨h0,_⟩ | ⟨a',len',cap',m,n,D,Pl,h0,hb,hl,hm,hmm,hx,hel⟩
  · simp [Value.cells] at h0
    obtain ⟨rfl,rfl,rfl⟩:=h0
    exact ⟨[],.imm .arg 1 [] none 0 (fun _=>.bool false) (by simp) (by simp) (by simp) (by simp) (by simp) (by simp)⟩
  · simp [Value.cells] at h0
    obtain ⟨rfl,rfl,rfl⟩:=h0
    have hlm:len ≤ m:=by rw [hmm]; split <;> omega
    have each:∀ i,i < len → ∃ z:Int,W.cell? (a'.add i)=some (.int .i64 z):=by
      intro i hi
      obtain ⟨cs',h1,h2⟩:=hel i (by omega)
      rw [cq] at h1
      obtain ⟨_,hlen,hcell⟩:=World.cells?_some h1
      match cs',hlen with
      | [v0],_ =>
        obtain ⟨z0,e0,_,_⟩:=DataW.trod_int hq h2
        simp at e0
        subst e0
        have c0:=hcell 0 (by omega)
        rw [add_add] at c0
        exact ⟨z0,by simpa using c0⟩
    obtain ⟨f,hf⟩:=choose_lt each
    refine ⟨(List.range len).map f,?_⟩
    have hlen:(((List.range len).map f).map encI).length=len:=by simp
    have key:=V.imm (w:=W) (ok:=okOf Ctx.nil W.heap.size) (c:=Ctx.nil) .arg 1 (((List.range len).map f).map encI) (some a') cap (fun j=>.int .i64 (f j))
      (by rw [hlen]; exact hl) (by simp) ?_ ?_ ?_ ?_
    · rw [hlen] at key; exact key
    · intro hne
      have h0:0 < len:=by
        rcases Nat.eq_zero_or_pos len with h | h
        · subst h; simp at hne
        · exact h
      obtain ⟨b,off,spot⟩:=a'
      have hspot:spot=none:=by simpa [Addr.add] using World.cell?_spot (hf 0 h0)
      subst hspot
      refine ⟨b,off,rfl,by simpa [Addr.add] using cell_lt (hf 0 h0),okNil W b,fun j hj=>?_⟩
      rw [hlen] at hj
      have c0:=hf j (by omega)
      rw [add_plain] at c0
      exact c0
    · intro v hv
      obtain ⟨p,_,rfl⟩:=List.mem_map.1 hv
      rfl
    · intro v hv
      obtain ⟨p,_,rfl⟩:=List.mem_map.1 hv
      rfl
    · intro i v j x hi hj
      have hil:i < len:=by have:=lt_of_get hi; rw [hlen] at this; exact this
      have:v=encI (f i):=by
        rw [List.getElem?_map,List.getElem?_map,List.getElem?_range hil] at hi
        simpa using hi.symm
      subst this
      have hjx:j < 1:=lt_of_get hj
      match j,hjx,hj with
      | 0,_,hj =>
        simp [encI,cellsOf] at hj
        subst hj
        have e1:i * 1+0=i:=by omega
        rw [e1]
        exact V.int _ _
end Go.HL
end
