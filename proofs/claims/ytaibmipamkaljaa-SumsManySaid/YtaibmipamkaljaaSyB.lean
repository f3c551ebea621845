/- A part of the proof. -/
import Derived.Test.YtaibmipamkaljaaSyA
set_option linter.unusedVariables false
set_option linter.unusedSimpArgs false
set_option linter.unnecessarySimpa false
section
open Go Go.HL Go.HL.So Classical
namespace Go.Proofs.Ytaibmipamkaljaa
set_option linter.unusedSectionVars false
open Go.Proofs.Try renaming prog → Tp
open Go.HL.HV renaming undef → Ud
section
variable {α:Type} [Inhabited α] {enc:α → HV} {lt:α → α → Prop} {dom:α → Prop} {H:Heap} {db n:Nat} {cap:Option Nat}
theorem ClS.from {g:FuncId} {args:List HV} {H H':Heap} {r:HV} (h:ClS g args H r H'):∃ N,∀ kf,N ≤ kf → callN Tp polSo (kf+1) g args H=some (r,H'):=CallsTo.from h
set_option maxHeartbeats 4000000 in
theorem sf_loop (S:So enc lt dom H db n) (hL:Lin lt) {T:Heap} (hT:mxs T=0) {lo hi fi:Nat} (hfi:fi+hi ≤ n):∀ (d r:Nat) (l:List α),hi - r ≤ d → lo ≤ r → r < hi+1 → l.length=n → Dm dom l → HpX lt fi lo hi r l →
    ∃ x y1 y2 l',RT polSo 92 (sub [1,0] B92) (env92 (.sl db 0 n cap n 1) (.int .i64 (lo:Int)) (.int .i64 (hi:Int)) (.int .i64 (fi:Int)) (.int .i64 (r:Int)) Ud) (Mm enc H db l T) x (env92 (.sl db 0 n cap n 1) (.int .i64 (lo:Int)) (.int .i64 (hi:Int)) (.int .i64 (fi:Int)) y1 y2) (Mm enc H db l' T)∧(x=.exit 0 ∨ x=.ret)∧Sw fi (fi+hi) l l'∧Hp lt fi lo hi l':=by
  have hn:=S.nb
  intro d
  induction d with
  | zero =>
    intro r l hd hr hr2 hl hD hX
    exact ⟨_,_,_,l,lpo (sf_b_0 0 db n cap (Mm enc H db l T) 0 lo hi fi r (by rw [wrap_id (n:=2 * (r:Int)) (by omega) (by omega),wrap_id (by omega) (by omega)]; omega)),.inl rfl,.refl,hpx_end hL hX (fun c h1 h2=>by omega)⟩
  | succ d ih =>
    intro r l hd hr hr2 hl hD hX
    by_cases c0:hi ≤ 2 * r+1
    · exact ⟨_,_,_,l,lpo (sf_b_0 0 db n cap (Mm enc H db l T) 0 lo hi fi r (by rw [wrap_id (n:=2 * (r:Int)) (by omega) (by omega),wrap_id (by omega) (by omega)]; omega)),.inl rfl,.refl,hpx_end hL hX (fun c h1 h2=>by omega)⟩
    have e0:IntKind.i64.wrap (2 * (r:Int))=((2 * r:Nat):Int):=(by rw [wrap_id (by omega) (by omega)]; omega)
    have e1:IntKind.i64.wrap (IntKind.i64.wrap (2 * (r:Int))+1)=((2 * r+1:Nat):Int):=by rw [e0,wrap_id (by omega) (by omega)]; omega
    have e2:IntKind.i64.wrap (IntKind.i64.wrap (IntKind.i64.wrap (2 * (r:Int))+1)+1)=((2 * r+2:Nat):Int):=by rw [e1,wrap_id (by omega) (by omega)]; omega
    have f0:IntKind.i64.wrap ((fi:Int)+(r:Int))=((fi+r:Nat):Int):=(by rw [wrap_id (by omega) (by omega)]; omega)
    have f1:IntKind.i64.wrap ((fi:Int)+IntKind.i64.wrap (IntKind.i64.wrap (2 * (r:Int))+1))=((fi+(2 * r+1):Nat):Int):=by rw [e1,wrap_id (by omega) (by omega)]; omega
    have f2:IntKind.i64.wrap ((fi:Int)+IntKind.i64.wrap (IntKind.i64.wrap (IntKind.i64.wrap (2 * (r:Int))+1)+1))=((fi+(2 * r+2):Nat):Int):=by rw [e2,wrap_id (by omega) (by omega)]; omega
    have f3:IntKind.i64.wrap (IntKind.i64.wrap ((fi:Int)+IntKind.i64.wrap (IntKind.i64.wrap (2 * (r:Int))+1))+1)=((fi+(2 * r+2):Nat):Int):=by rw [f1,wrap_id (by omega) (by omega)]; omega
    have w1:fi+r < n:=by omega
    have w2:fi+(2 * r+1) < n:=by omega
    have next:∀ c,(c=2 * r+1 ∨ c=2 * r+2) → c < hi → (∀ c',(c'=2 * r+1 ∨ c'=2 * r+2) → c' < hi → ¬ lt (at_ l (fi+c)) (at_ l (fi+c'))) → lt (at_ l (fi+r)) (at_ l (fi+c)) →
        RT polSo 92 (sub [1,0,0] B92) (env92 (.sl db 0 n cap n 1) (.int .i64 (lo:Int)) (.int .i64 (hi:Int)) (.int .i64 (fi:Int)) (.int .i64 (r:Int)) Ud) (Mm enc H db l T) .normal (env92 (.sl db 0 n cap n 1) (.int .i64 (lo:Int)) (.int .i64 (hi:Int)) (.int .i64 (fi:Int)) (.int .i64 (c:Int)) (.int .i64 (c:Int))) (Mm enc H db (swp l (fi+r) (fi+c)) T) →
        ∃ x y1 y2 l',RT polSo 92 (sub [1,0] B92) (env92 (.sl db 0 n cap n 1) (.int .i64 (lo:Int)) (.int .i64 (hi:Int)) (.int .i64 (fi:Int)) (.int .i64 (r:Int)) Ud) (Mm enc H db l T) x (env92 (.sl db 0 n cap n 1) (.int .i64 (lo:Int)) (.int .i64 (hi:Int)) (.int .i64 (fi:Int)) y1 y2) (Mm enc H db l' T)∧(x=.exit 0 ∨ x=.ret)∧Sw fi (fi+hi) l l'∧Hp lt fi lo hi l':=by
      intro c h1 h2 h3 h4 st
      have sw:Sw fi (fi+hi) l (swp l (fi+r) (fi+c)):=Sw.one (by omega) (by omega) (by omega) (by omega)
      obtain ⟨x,y1,y2,l',q,q1,q2,q3⟩:=ih c _ (by omega) (by omega) (by omega) (by rw [swp_len]; exact hl) (hD.sw sw (by omega)) (hpx_step hL (by omega) hX hr h1 h2 h3 h4)
      exact ⟨x,y1,y2,l',lop (st) (gcM _ _ _ _ _ rfl) (q),q1,sw.trans q2,q3⟩
    have ld:=fun k (hk:k < hi)=>S.ld l T (fi+k) hl (by omega)
    by_cases c1:2 * r+2 < hi
    · have w3:fi+(2 * r+2) < n:=by omega
      by_cases c2:lt (at_ l (fi+(2 * r+1))) (at_ l (fi+(2 * r+2)))
      · obtain ⟨N1,hN1⟩:=S.ct (T:=T) hl hT (hD.at (i:=fi+(2 * r+1)) (by omega)) (hD.at (i:=fi+(2 * r+2)) (by omega)) c2
        by_cases c3:lt (at_ l (fi+r)) (at_ l (fi+(2 * r+2)))
        · obtain ⟨N2,hN2⟩:=S.ct (T:=T) hl hT (hD.at (i:=fi+r) (by omega)) (hD.at (i:=fi+(2 * r+2)) (by omega)) c3
          obtain ⟨s1,s2⟩:=S.st2 (T:=T) hl (i:=fi+r) (j:=fi+(2 * r+2)) (by omega) (by omega)
          have st:=sf_b_1 (N1+N2) db n cap (Mm enc H db l T) 0 lo hi fi r (by rw [e1]; omega) (by rw [e2]; omega) (ixs f1 w2) (ld _ (by omega)) (ixs f3 w3) (ld _ (by omega)) (fun kf hk=>hN1 kf (by omega))
            (ixs f0 w1) (ld r (by omega)) (ixs f2 w3) (ld _ (by omega)) (fun kf hk=>hN2 kf (by omega)) (ixs f2 w3) (ld _ (by omega)) (ixs f0 w1) (ld r (by omega)) (ixs f0 w1) s1 (ixs f2 w3) s2 (y9:=Ud)
          rw [e2] at st
          exact next (2 * r+2) (by omega) (by omega) (fun c' h1 h2=>by
            rcases h1 with rfl | rfl
            · exact hL.asy _ _ c2
            · exact hL.rf _) c3 st
        · obtain ⟨N2,hN2⟩:=S.cf (T:=T) hl hT (hD.at (i:=fi+r) (by omega)) (hD.at (i:=fi+(2 * r+2)) (by omega)) c3
          have st:=sf_b_2 (N1+N2) db n cap (Mm enc H db l T) 0 lo hi fi r (by rw [e1]; omega) (by rw [e2]; omega) (ixs f1 w2) (ld _ (by omega)) (ixs f3 w3) (ld _ (by omega)) (fun kf hk=>hN1 kf (by omega))
            (ixs f0 w1) (ld r (by omega)) (ixs f2 w3) (ld _ (by omega)) (fun kf hk=>hN2 kf (by omega)) (y9:=Ud)
          exact ⟨_,_,_,l,lpo (st),.inr rfl,.refl,hpx_end hL hX fun c' h1 h2=>by
            rcases h1 with rfl | rfl
            · exact hL.tr _ _ _ (hL.asy _ _ c2) c3
            · exact c3⟩
      · obtain ⟨N1,hN1⟩:=S.cf (T:=T) hl hT (hD.at (i:=fi+(2 * r+1)) (by omega)) (hD.at (i:=fi+(2 * r+2)) (by omega)) c2
        by_cases c3:lt (at_ l (fi+r)) (at_ l (fi+(2 * r+1)))
        · obtain ⟨N2,hN2⟩:=S.ct (T:=T) hl hT (hD.at (i:=fi+r) (by omega)) (hD.at (i:=fi+(2 * r+1)) (by omega)) c3
          obtain ⟨s1,s2⟩:=S.st2 (T:=T) hl (i:=fi+r) (j:=fi+(2 * r+1)) (by omega) (by omega)
          have st:=sf_b_3 (N1+N2) db n cap (Mm enc H db l T) 0 lo hi fi r (by rw [e1]; omega) (by rw [e2]; omega) (ixs f1 w2) (ld _ (by omega)) (ixs f3 w3) (ld _ (by omega)) (fun kf hk=>hN1 kf (by omega))
            (ixs f0 w1) (ld r (by omega)) (ixs f1 w2) (ld _ (by omega)) (fun kf hk=>hN2 kf (by omega)) (ixs f1 w2) (ld _ (by omega)) (ixs f0 w1) (ld r (by omega)) (ixs f0 w1) s1 (ixs f1 w2) s2 (y9:=Ud)
          rw [e1] at st
          exact next (2 * r+1) (by omega) (by omega) (fun c' h1 h2=>by
            rcases h1 with rfl | rfl
            · exact hL.rf _
            · exact c2) c3 st
        · obtain ⟨N2,hN2⟩:=S.cf (T:=T) hl hT (hD.at (i:=fi+r) (by omega)) (hD.at (i:=fi+(2 * r+1)) (by omega)) c3
          have st:=sf_b_4 (N1+N2) db n cap (Mm enc H db l T) 0 lo hi fi r (by rw [e1]; omega) (by rw [e2]; omega) (ixs f1 w2) (ld _ (by omega)) (ixs f3 w3) (ld _ (by omega)) (fun kf hk=>hN1 kf (by omega))
            (ixs f0 w1) (ld r (by omega)) (ixs f1 w2) (ld _ (by omega)) (fun kf hk=>hN2 kf (by omega)) (y9:=Ud)
          exact ⟨_,_,_,l,lpo (st),.inr rfl,.refl,hpx_end hL hX fun c' h1 h2=>by
            rcases h1 with rfl | rfl
            · exact c3
            · exact hL.tr _ _ _ c2 c3⟩
    · by_cases c3:lt (at_ l (fi+r)) (at_ l (fi+(2 * r+1)))
      · obtain ⟨N2,hN2⟩:=S.ct (T:=T) hl hT (hD.at (i:=fi+r) (by omega)) (hD.at (i:=fi+(2 * r+1)) (by omega)) c3
        obtain ⟨s1,s2⟩:=S.st2 (T:=T) hl (i:=fi+r) (j:=fi+(2 * r+1)) (by omega) (by omega)
        have st:=sf_b_5 N2 db n cap (Mm enc H db l T) 0 lo hi fi r (by rw [e1]; omega) (by rw [e2]; omega)
            (ixs f0 w1) (ld r (by omega)) (ixs f1 w2) (ld _ (by omega)) (fun kf hk=>hN2 kf (by omega)) (ixs f1 w2) (ld _ (by omega)) (ixs f0 w1) (ld r (by omega)) (ixs f0 w1) s1 (ixs f1 w2) s2 (y9:=Ud)
        rw [e1] at st
        exact next (2 * r+1) (by omega) (by omega) (fun c' h1 h2=>by
            have:c'=2 * r+1:=by omega
            subst this
            exact hL.rf _) c3 st
      · obtain ⟨N2,hN2⟩:=S.cf (T:=T) hl hT (hD.at (i:=fi+r) (by omega)) (hD.at (i:=fi+(2 * r+1)) (by omega)) c3
        have st:=sf_b_6 N2 db n cap (Mm enc H db l T) 0 lo hi fi r (by rw [e1]; omega) (by rw [e2]; omega)
            (ixs f0 w1) (ld r (by omega)) (ixs f1 w2) (ld _ (by omega)) (fun kf hk=>hN2 kf (by omega)) (y9:=Ud)
        exact ⟨_,_,_,l,lpo (st),.inr rfl,.refl,hpx_end hL hX fun c' h1 h2=>by
            have:c'=2 * r+1:=by omega
            subst this
            exact c3⟩
theorem sift_ok (S:So enc lt dom H db n) (hL:Lin lt) {T:Heap} (hT:mxs T=0) {lo hi fi:Nat} (hlo:lo ≤ hi) (hfi:fi+hi ≤ n) {l:List α} (hl:l.length=n) (hD:Dm dom l) (hH:Hp lt fi (lo+1) hi l) :
    ∃ l',ClS 92 [.sl db 0 n cap n 1,.int .i64 (lo:Int),.int .i64 (hi:Int),.int .i64 (fi:Int)] (Mm enc H db l T) (.tuple []) (Mm enc H db l' T)∧Sw fi (fi+hi) l l'∧Hp lt fi lo hi l':=by
  obtain ⟨x,y1,y2,l',r,q1,q2⟩:=sf_loop S hL (cap:=cap) hT hfi (hi+1) lo l (by omega) (Nat.le_refl _) (by omega) hl hD (hpx_start hH)
  have s0:=sf_a_0 0 db n cap (Mm enc H db l T) 0 lo hi fi
  rcases q1 with rfl | rfl
  · have t:=sq (s0) (bke (c:=sub [1] B92) (r)) (c:=B92)
    have hc:=CallsTo.shared (P:=Tp) (pol:=polSo) (g:=92) (fn:=Try.f92) (cd:=B92) (args:=[.sl db 0 n cap n 1,.int .i64 (lo:Int),.int .i64 (hi:Int),.int .i64 (fi:Int)]) (v:=.tuple []) (by kernel_rfl) (by kernel_rfl) (by kernel_rfl) (by kernel_rfl) t (by kernel_rfl) (by simp) (by kernel_rfl)
    rw [gcM _ _ _ _ _ rfl] at hc
    exact ⟨l',hc,q2⟩
  · have t:=sq (s0) (RunsTo.block_ret (i:=0) (c:=sub [1] B92) (r) (by kernel_rfl)) (c:=B92)
    have hc:=CallsTo.shared (P:=Tp) (pol:=polSo) (g:=92) (fn:=Try.f92) (cd:=B92) (args:=[.sl db 0 n cap n 1,.int .i64 (lo:Int),.int .i64 (hi:Int),.int .i64 (fi:Int)]) (v:=.tuple []) (by kernel_rfl) (by kernel_rfl) (by kernel_rfl) (by kernel_rfl) t (by kernel_rfl) (by simp) (by kernel_rfl)
    rw [gcM _ _ _ _ _ rfl] at hc
    exact ⟨l',hc,q2⟩
theorem hs_build (S:So enc lt dom H db n) (hL:Lin lt) {T:Heap} (hT:mxs T=0) {a b hi:Nat} (hhi:a+hi ≤ n):∀ (k:Nat) (l:List α),k ≤ hi → l.length=n → Dm dom l → Hp lt a k hi l →
    ∃ l',RT polSo 73 (sub [1,1,1,0,1,0] B73) (env73 (.sl db 0 n cap n 1) (.int .i64 (a:Int)) (.int .i64 (b:Int)) (.int .i64 (a:Int)) (.int .i64 0) (.int .i64 (hi:Int)) (.int .i64 ((k:Int) - 1)) Ud) (Mm enc H db l T) (.exit 0) (env73 (.sl db 0 n cap n 1) (.int .i64 (a:Int)) (.int .i64 (b:Int)) (.int .i64 (a:Int)) (.int .i64 0) (.int .i64 (hi:Int)) (.int .i64 (-1)) Ud) (Mm enc H db l' T)∧Sw a (a+hi) l l'∧Hp lt a 0 hi l':=by
  have hn:=S.nb
  intro k
  induction k with
  | zero =>
    intro l hk hl hD hH
    exact ⟨l,lpo (hs_e_1 0 db n cap (Mm enc H db l T) 0 a b a hi (((0:Nat):Int) - 1) (by omega)),.refl,hH⟩
  | succ k ih =>
    intro l hk hl hD hH
    obtain ⟨l1,hc,q1,q2⟩:=sift_ok S hL (cap:=cap) hT (lo:=k) (by omega) hhi hl hD hH
    obtain ⟨N,hN⟩:=hc.from
    have st:=hs_e_0 N db n cap (Mm enc H db l T) 0 a b a hi (k:Int) (y10:=Ud) (by omega) hN
    rw [show IntKind.i64.wrap ((k:Int) - 1)=(k:Int) - 1 by simp only [wrapI64]; omega] at st
    obtain ⟨l',r,q3,q4⟩:=ih l1 (by omega) (sw_len q1 hl) (hD.sw q1 (by omega)) q2
    rw [show ((k+1:Nat):Int) - 1=(k:Int) by omega]
    exact ⟨l',lop (st) (gcM _ _ _ _ _ rfl) (r),q1.trans q3,q4⟩
theorem hs_take (S:So enc lt dom H db n) (hL:Lin lt) {T:Heap} (hT:mxs T=0) {a b hi:Nat} (hhi:a+hi ≤ n):∀ (k:Nat) (l:List α),k ≤ hi → l.length=n → Dm dom l → HsInv lt a hi k l →
    ∃ l',RT polSo 73 (sub [1,1,1,1,1,0] B73) (env73 (.sl db 0 n cap n 1) (.int .i64 (a:Int)) (.int .i64 (b:Int)) (.int .i64 (a:Int)) (.int .i64 0) Ud Ud (.int .i64 ((k:Int) - 1))) (Mm enc H db l T) (.exit 2) (env73 (.sl db 0 n cap n 1) (.int .i64 (a:Int)) (.int .i64 (b:Int)) (.int .i64 (a:Int)) (.int .i64 0) Ud Ud (.int .i64 (-1))) (Mm enc H db l' T)∧Sw a (a+hi) l l'∧HsInv lt a hi 0 l':=by
  have hn:=S.nb
  intro k
  induction k with
  | zero =>
    intro l hk hl hD hH
    exact ⟨l,lpo (hs_g_1 0 db n cap (Mm enc H db l T) 0 a b a (((0:Nat):Int) - 1) (by omega)),.refl,hH⟩
  | succ k ih =>
    intro l hk hl hD hH
    obtain ⟨p1,p2,p3⟩:=hs_swap hL (by omega) (by omega) hH
    have sw:Sw a (a+hi) l (swp l a (a+k)):=Sw.one (by omega) (by omega) (by omega) (by omega)
    have hl1:=sw_len sw hl
    obtain ⟨l1,hc,q1,q2⟩:=sift_ok S hL (cap:=cap) hT (lo:=0) (hi:=k) (fi:=a) (Nat.zero_le _) (by omega) hl1 (hD.sw sw (by omega)) p1
    obtain ⟨N,hN⟩:=hc.from
    obtain ⟨s1,s2⟩:=S.st2 (T:=T) hl (i:=a) (j:=a+k) (by omega) (by omega)
    have st:=hs_g_0 N db n cap (Mm enc H db l T) 0 a b a (k:Int) (y8:=Ud) (y9:=Ud) (by omega) (ixs (i:=a+k) (by simp only [wrapI64]; omega) (by omega)) (S.ld l T _ hl (by omega)) (ixs (i:=a) rfl (by omega)) (S.ld l T _ hl (by omega)) (ixs (i:=a) rfl (by omega)) s1 (ixs (i:=a+k) (by simp only [wrapI64]; omega) (by omega)) s2 hN
    rw [show IntKind.i64.wrap ((k:Int) - 1)=(k:Int) - 1 by simp only [wrapI64]; omega] at st
    have sw2:Sw a (a+hi) l l1:=sw.trans (q1.mono (Nat.le_refl _) (by omega))
    have hI:HsInv lt a hi k l1:=by
      refine ⟨q2,fun p q h1 h2 h3=>?_,fun p q h1 h2 h3=>?_⟩
      · rw [q1.out (by rw [hl1]; omega) (k:=a+p) (by omega),q1.out (by rw [hl1]; omega) (k:=a+q) (by omega)]
        exact p2 p q h1 h2 h3
      · rw [q1.out (by rw [hl1]; omega) (k:=a+q) (by omega)]
        have:=q1.all (by rw [hl1]; omega) (Q:=fun x=>¬ lt (at_ (swp l a (a+k)) (a+q)) x) (lo:=a) (hi:=a+k) (Nat.le_refl _) (Nat.le_refl _) (fun i h4 h5=>by
          obtain ⟨m,rfl⟩:∃ m,i=a+m:=⟨i - a,by omega⟩
          exact p3 m q (by omega) h2 h3)
        exact this (a+p) (by omega) (by omega)
    obtain ⟨l',r,q3,q4⟩:=ih l1 (by omega) (sw_len sw2 hl) (hD.sw sw2 (by omega)) hI
    rw [show ((k+1:Nat):Int) - 1=(k:Int) by omega]
    exact ⟨l',lop (st) (gcM _ _ _ _ _ rfl) (r),sw2.trans q3,q4⟩
theorem heap_ok (S:So enc lt dom H db n) (hL:Lin lt) {T:Heap} (hT:mxs T=0) {a b:Nat} (hab:a < b) (hb:b ≤ n) {l:List α} (hl:l.length=n) (hD:Dm dom l) :
    ∃ l',ClS 73 [.sl db 0 n cap n 1,.int .i64 (a:Int),.int .i64 (b:Int)] (Mm enc H db l T) (.tuple []) (Mm enc H db l' T)∧Sw a b l l'∧Sorted lt a b l':=by
  have hn:=S.nb
  obtain ⟨hi,rfl⟩:∃ hi,b=a+hi:=⟨b - a,by omega⟩
  have h0:Hp lt a ((hi - 1) / 2+1) hi l:=fun k c h1 h2 h3=>by omega
  obtain ⟨l1,r1,q1,q2⟩:=hs_build S hL (cap:=cap) hT (b:=a+hi) (by omega) ((hi - 1) / 2+1) l (by omega) hl hD h0
  have hl1:=sw_len q1 hl
  obtain ⟨l2,r2,q3,q4⟩:=hs_take S hL (cap:=cap) hT (b:=a+hi) (by omega) hi l1 (Nat.le_refl _) hl1 (hD.sw q1 (by omega)) ⟨q2,fun p q h1 h2 h3=>by omega,fun p q h1 h2 h3=>by omega⟩
  have s0:=hs_a_0 0 db n cap (Mm enc H db l T) 0 a (a+hi)
  have s1:=hs_b_0 0 db n cap (Mm enc H db l T) 0 a (a+hi) a (y7:=Ud) (y8:=Ud) (y9:=Ud) (y10:=Ud)
  have s2:=hs_c_0 0 db n cap (Mm enc H db l T) 0 a (a+hi) a (y8:=Ud) (y9:=Ud) (y10:=Ud)
  rw [show IntKind.i64.wrap (((a+hi:Nat):Int) - (a:Int))=(hi:Int) by simp only [wrapI64]; omega] at s2
  have s3:=hs_d_0 0 db n cap (Mm enc H db l T) 0 a (a+hi) a hi (y9:=Ud) (y10:=Ud)
  rw [show IntKind.i64.wrap ((IntKind.i64.wrap ((hi:Int) - 1):Int).tdiv 2)=(((hi - 1) / 2+1:Nat):Int) - 1 by
    rw [show IntKind.i64.wrap ((hi:Int) - 1)=((hi - 1:Nat):Int) by simp only [wrapI64]; omega,Int.tdiv_eq_ediv_of_nonneg (by omega)]
    simp only [wrapI64]; omega] at s3
  have r1':=lpi (e0:=(env73 (.sl db 0 n cap n 1) (.int .i64 (a:Int)) (.int .i64 ((a+hi:Nat):Int)) (.int .i64 (a:Int)) (.int .i64 0) (.int .i64 (hi:Int)) (.int .i64 ((((hi - 1) / 2+1:Nat):Int) - 1)) Ud)) r1 (b:=sub [1,1,1,0,1,0,0] B73)
  have s4:=hs_f_0 0 db n cap (Mm enc H db l1 T) 0 a (a+hi) a hi (y9:=.int .i64 (-1)) (y10:=Ud)
  rw [show IntKind.i64.wrap ((hi:Int) - 1)=(hi:Int) - 1 by simp only [wrapI64]; omega] at s4
  have r2':=lpi (e0:=(env73 (.sl db 0 n cap n 1) (.int .i64 (a:Int)) (.int .i64 ((a+hi:Nat):Int)) (.int .i64 (a:Int)) (.int .i64 0) (.int .i64 (hi:Int)) (.int .i64 (-1)) (.int .i64 ((hi:Int) - 1)))) r2 (b:=sub [1,1,1,1,1,0,0] B73)
  have t:=sq (s0) (sq (s1) (sq (s2) (sq (sq (s3) (bke (c:=sub [1,1,1,0,1] B73) (r1')) (c:=sub [1,1,1,0] B73)) (sq (s4) (bke (c:=sub [1,1,1,1,1] B73) (r2')) (c:=sub [1,1,1,1] B73)) (c:=sub [1,1,1] B73)) (c:=sub [1,1] B73)) (c:=sub [1] B73)) (c:=B73)
  have hc:=CallsTo.shared (P:=Tp) (pol:=polSo) (g:=73) (fn:=Try.f73) (cd:=B73) (args:=[.sl db 0 n cap n 1,.int .i64 (a:Int),.int .i64 ((a+hi:Nat):Int)]) (v:=.tuple []) (by kernel_rfl) (by kernel_rfl) (by kernel_rfl) (by kernel_rfl) t (by kernel_rfl) (by simp) (by kernel_rfl)
  rw [gcM _ _ _ _ _ rfl] at hc
  refine ⟨l2,hc,q1.trans q3,fun i j h1 h2 h3=>?_⟩
  have:=q4.2.1 (i - a) (j - a) (Nat.zero_le _) (by omega) (by omega)
  rwa [show a+(i - a)=i by omega,show a+(j - a)=j by omega] at this
end
end Go.Proofs.Ytaibmipamkaljaa
end
section
open Go Go.HL
namespace Go.Proofs.Ytaibmipamkaljaa
set_option maxRecDepth 100000
open Go.Proofs.Try renaming prog → Tp
open Go.HL.HV renaming undef → Ud
noncomputable def B80:Code:=Try.f80.body.getD .skip
abbrev env80 (v0 v1 v2 v3 v8 v9 v10 v11:HV):Env:=[(0,v0),(1,v1),(2,v2),(3,v3),(8,v8),(9,v9),(10,v10),(11,v11)]
theorem pz_a_0 (N:Nat) (db n:Nat) (cap:Option Nat) (H:Heap) (x:Nat) (a:Nat) (b:Nat) (p:Nat):RT polSo 80 (sub [0] B80) [(0,.c db n cap),(1,.i (a:Int)),(2,.i (b:Int)),(3,.i (p:Int))] H .normal (env80 (.c db n cap) (.i (a:Int)) (.i (b:Int)) (.i (p:Int)) (.i 0) (.bool false) Ud Ud) H :=
  RunsTo.hin N 60 [] fun kf hk=>⟨_,by kernel_rfl,.nil⟩
theorem pz_b_0 (N:Nat) (db n:Nat) (cap:Option Nat) (H:Heap) (x:Nat) (a:Nat) (b:Nat) (p:Nat) {y10 y11:HV} {a0:HV} {v0:HV} {a1:HV} {v1:HV} {a2:HV} {H0:Heap} {a3:HV} {H1:Heap} (g0:idxV Tp 22 (.c db n cap) (.i (p:Int))=some (a0)) (g1:loadV Tp H 3 (a0)=some (v0)) (g2:idxV Tp 22 (.c db n cap) (.i (a:Int))=some (a1)) (g3:loadV Tp H 3 (a1)=some (v1)) (g4:idxV Tp 22 (.c db n cap) (.i (a:Int))=some (a2)) (g5:storeV Tp H 3 (a2) (v0)=some H0) (g6:idxV Tp 22 (.c db n cap) (.i (p:Int))=some (a3)) (g7:storeV Tp H0 3 (a3) (v1)=some H1):RT polSo 80 (sub [1,0] B80) (env80 (.c db n cap) (.i (a:Int)) (.i (b:Int)) (.i (p:Int)) (.i 0) (.bool false) y10 y11) H .normal (env80 (.c db n cap) (.i (a:Int)) (.i (b:Int)) (.i (p:Int)) (.i 0) (.bool false) y10 y11) H1 :=
  RunsTo.hin N 60 [⟨1,6,a0,H⟩,⟨1,7,v0,H⟩,⟨1,10,a1,H⟩,⟨1,11,v1,H⟩,⟨1,12,a2,H⟩,⟨1,13,.tuple [],H0⟩,⟨1,14,a3,H0⟩,⟨1,15,.tuple [],H1⟩] fun kf hk=>⟨_,by kernel_rfl,(oP H g0 (oP H g1 (oP H g2 (oP H g3 (oP H g4 (oS g5 (oP H0 g6 (oS g7 .nil))))))))⟩
theorem pz_c_0 (N:Nat) (db n:Nat) (cap:Option Nat) (H:Heap) (x:Nat) (a:Nat) (b:Nat) (p:Nat) {y10 y11:HV}:RT polSo 80 (sub [1,1,0] B80) (env80 (.c db n cap) (.i (a:Int)) (.i (b:Int)) (.i (p:Int)) (.i 0) (.bool false) y10 y11) H .normal (env80 (.c db n cap) (.i (a:Int)) (.i (b:Int)) (.i (p:Int)) (.i 0) (.bool false) (.i (IntKind.i64.wrap ((a:Int)+1))) (.i (IntKind.i64.wrap ((b:Int) - 1)))) H :=
  RunsTo.hin N 60 [] fun kf hk=>⟨_,by kernel_rfl,.nil⟩
theorem pz_d_0 (N:Nat) (db n:Nat) (cap:Option Nat) (H:Heap) (x:Nat) (a:Nat) (b:Nat) (p:Nat) (i:Nat) (j:Nat) {a0:HV} {v0:HV} {a1:HV} {v1:HV} {H0:Heap} (g0:(i:Int) ≤ (j:Int)) (g1:idxV Tp 22 (.c db n cap) (.i (i:Int))=some (a0)) (g2:loadV Tp H 3 (a0)=some (v0)) (g3:idxV Tp 22 (.c db n cap) (.i (a:Int))=some (a1)) (g4:loadV Tp H 3 (a1)=some (v1)) (g5:∀ kf,N ≤ kf → callN Tp polSo (kf+1) 78 [v0,v1] H=some (.bool true,H0)):RT polSo 80 (sub [1,1,1,0,0,0] B80) (env80 (.c db n cap) (.i (a:Int)) (.i (b:Int)) (.i (p:Int)) (.i 0) (.bool false) (.i (i:Int)) (.i (j:Int))) H .normal (env80 (.c db n cap) (.i (a:Int)) (.i (b:Int)) (.i (p:Int)) (.i 0) (.bool false) (.i (IntKind.i64.wrap ((i:Int)+1))) (.i (j:Int))) H0 :=
  RunsTo.hin N 60 [⟨3,2,.bool true,H⟩,⟨3,6,a0,H⟩,⟨3,7,v0,H⟩,⟨3,10,a1,H⟩,⟨3,11,v1,H⟩,⟨3,12,.bool true,H0⟩] fun kf hk=>⟨_,by kernel_rfl,(oB H (decide_eq_true g0) (oP H g1 (oP H g2 (oP H g3 (oP H g4 (oC (g5 kf (by omega)) .nil))))))⟩
theorem pz_d_1 (N:Nat) (db n:Nat) (cap:Option Nat) (H:Heap) (x:Nat) (a:Nat) (b:Nat) (p:Nat) (i:Nat) (j:Nat) {a0:HV} {v0:HV} {a1:HV} {v1:HV} {H0:Heap} (g0:(i:Int) ≤ (j:Int)) (g1:idxV Tp 22 (.c db n cap) (.i (i:Int))=some (a0)) (g2:loadV Tp H 3 (a0)=some (v0)) (g3:idxV Tp 22 (.c db n cap) (.i (a:Int))=some (a1)) (g4:loadV Tp H 3 (a1)=some (v1)) (g5:∀ kf,N ≤ kf → callN Tp polSo (kf+1) 78 [v0,v1] H=some (.bool false,H0)):RT polSo 80 (sub [1,1,1,0,0,0] B80) (env80 (.c db n cap) (.i (a:Int)) (.i (b:Int)) (.i (p:Int)) (.i 0) (.bool false) (.i (i:Int)) (.i (j:Int))) H (.exit 0) (env80 (.c db n cap) (.i (a:Int)) (.i (b:Int)) (.i (p:Int)) (.i 0) (.bool false) (.i (i:Int)) (.i (j:Int))) H0 :=
  RunsTo.hin N 60 [⟨3,2,.bool true,H⟩,⟨3,6,a0,H⟩,⟨3,7,v0,H⟩,⟨3,10,a1,H⟩,⟨3,11,v1,H⟩,⟨3,12,.bool false,H0⟩] fun kf hk=>⟨_,by kernel_rfl,(oB H (decide_eq_true g0) (oP H g1 (oP H g2 (oP H g3 (oP H g4 (oC (g5 kf (by omega)) .nil))))))⟩
theorem pz_d_2 (N:Nat) (db n:Nat) (cap:Option Nat) (H:Heap) (x:Nat) (a:Nat) (b:Nat) (p:Nat) (i:Nat) (j:Nat)(g0:¬ ((i:Int) ≤ (j:Int))):RT polSo 80 (sub [1,1,1,0,0,0] B80) (env80 (.c db n cap) (.i (a:Int)) (.i (b:Int)) (.i (p:Int)) (.i 0) (.bool false) (.i (i:Int)) (.i (j:Int))) H (.exit 0) (env80 (.c db n cap) (.i (a:Int)) (.i (b:Int)) (.i (p:Int)) (.i 0) (.bool false) (.i (i:Int)) (.i (j:Int))) H :=
  RunsTo.hin N 60 [⟨3,2,.bool false,H⟩] fun kf hk=>⟨_,by kernel_rfl,(oB H (decide_eq_false g0) .nil)⟩
theorem pz_e_0 (N:Nat) (db n:Nat) (cap:Option Nat) (H:Heap) (x:Nat) (a:Nat) (b:Nat) (p:Nat) (i:Nat) (j:Nat) {a0:HV} {v0:HV} {a1:HV} {v1:HV} {H0:Heap} (g0:(i:Int) ≤ (j:Int)) (g1:idxV Tp 22 (.c db n cap) (.i (j:Int))=some (a0)) (g2:loadV Tp H 3 (a0)=some (v0)) (g3:idxV Tp 22 (.c db n cap) (.i (a:Int))=some (a1)) (g4:loadV Tp H 3 (a1)=some (v1)) (g5:∀ kf,N ≤ kf → callN Tp polSo (kf+1) 78 [v0,v1] H=some (.bool true,H0)):RT polSo 80 (sub [1,1,1,1,0,0,0] B80) (env80 (.c db n cap) (.i (a:Int)) (.i (b:Int)) (.i (p:Int)) (.i 0) (.bool false) (.i (i:Int)) (.i (j:Int))) H (.exit 2) (env80 (.c db n cap) (.i (a:Int)) (.i (b:Int)) (.i (p:Int)) (.i 0) (.bool false) (.i (i:Int)) (.i (j:Int))) H0 :=
  RunsTo.hin N 60 [⟨5,2,.bool true,H⟩,⟨5,6,a0,H⟩,⟨5,7,v0,H⟩,⟨5,10,a1,H⟩,⟨5,11,v1,H⟩,⟨5,12,.bool true,H0⟩] fun kf hk=>⟨_,by kernel_rfl,(oB H (decide_eq_true g0) (oP H g1 (oP H g2 (oP H g3 (oP H g4 (oC (g5 kf (by omega)) .nil))))))⟩
theorem pz_e_1 (N:Nat) (db n:Nat) (cap:Option Nat) (H:Heap) (x:Nat) (a:Nat) (b:Nat) (p:Nat) (i:Nat) (j:Nat) {a0:HV} {v0:HV} {a1:HV} {v1:HV} {H0:Heap} (g0:(i:Int) ≤ (j:Int)) (g1:idxV Tp 22 (.c db n cap) (.i (j:Int))=some (a0)) (g2:loadV Tp H 3 (a0)=some (v0)) (g3:idxV Tp 22 (.c db n cap) (.i (a:Int))=some (a1)) (g4:loadV Tp H 3 (a1)=some (v1)) (g5:∀ kf,N ≤ kf → callN Tp polSo (kf+1) 78 [v0,v1] H=some (.bool false,H0)):RT polSo 80 (sub [1,1,1,1,0,0,0] B80) (env80 (.c db n cap) (.i (a:Int)) (.i (b:Int)) (.i (p:Int)) (.i 0) (.bool false) (.i (i:Int)) (.i (j:Int))) H .normal (env80 (.c db n cap) (.i (a:Int)) (.i (b:Int)) (.i (p:Int)) (.i 0) (.bool false) (.i (i:Int)) (.i (IntKind.i64.wrap ((j:Int) - 1)))) H0 :=
  RunsTo.hin N 60 [⟨5,2,.bool true,H⟩,⟨5,6,a0,H⟩,⟨5,7,v0,H⟩,⟨5,10,a1,H⟩,⟨5,11,v1,H⟩,⟨5,12,.bool false,H0⟩] fun kf hk=>⟨_,by kernel_rfl,(oB H (decide_eq_true g0) (oP H g1 (oP H g2 (oP H g3 (oP H g4 (oC (g5 kf (by omega)) .nil))))))⟩
theorem pz_e_2 (N:Nat) (db n:Nat) (cap:Option Nat) (H:Heap) (x:Nat) (a:Nat) (b:Nat) (p:Nat) (i:Nat) (j:Nat)(g0:¬ ((i:Int) ≤ (j:Int))):RT polSo 80 (sub [1,1,1,1,0,0,0] B80) (env80 (.c db n cap) (.i (a:Int)) (.i (b:Int)) (.i (p:Int)) (.i 0) (.bool false) (.i (i:Int)) (.i (j:Int))) H (.exit 2) (env80 (.c db n cap) (.i (a:Int)) (.i (b:Int)) (.i (p:Int)) (.i 0) (.bool false) (.i (i:Int)) (.i (j:Int))) H :=
  RunsTo.hin N 60 [⟨5,2,.bool false,H⟩] fun kf hk=>⟨_,by kernel_rfl,(oB H (decide_eq_false g0) .nil)⟩
theorem pz_f_0 (N:Nat) (db n:Nat) (cap:Option Nat) (H:Heap) (x:Nat) (a:Nat) (b:Nat) (p:Nat) (i:Nat) (j:Nat) {a0:HV} {v0:HV} {a1:HV} {v1:HV} {a2:HV} {H0:Heap} {a3:HV} {H1:Heap} (g0:(j:Int) < (i:Int)) (g1:idxV Tp 22 (.c db n cap) (.i (a:Int))=some (a0)) (g2:loadV Tp H 3 (a0)=some (v0)) (g3:idxV Tp 22 (.c db n cap) (.i (j:Int))=some (a1)) (g4:loadV Tp H 3 (a1)=some (v1)) (g5:idxV Tp 22 (.c db n cap) (.i (j:Int))=some (a2)) (g6:storeV Tp H 3 (a2) (v0)=some H0) (g7:idxV Tp 22 (.c db n cap) (.i (a:Int))=some (a3)) (g8:storeV Tp H0 3 (a3) (v1)=some H1):RT polSo 80 (sub [1,1,1,1,1,0] B80) (env80 (.c db n cap) (.i (a:Int)) (.i (b:Int)) (.i (p:Int)) (.i 0) (.bool false) (.i (i:Int)) (.i (j:Int))) H .ret (env80 (.c db n cap) (.i (a:Int)) (.i (b:Int)) (.i (p:Int)) (.i (j:Int)) (.bool true) (.i (i:Int)) (.i (j:Int))) H1 :=
  RunsTo.hin N 60 [⟨7,2,.bool true,H⟩,⟨8,6,a0,H⟩,⟨8,7,v0,H⟩,⟨8,10,a1,H⟩,⟨8,11,v1,H⟩,⟨8,12,a2,H⟩,⟨8,13,.tuple [],H0⟩,⟨8,14,a3,H0⟩,⟨8,15,.tuple [],H1⟩] fun kf hk=>⟨_,by kernel_rfl,(oB H (decide_eq_true g0) (oP H g1 (oP H g2 (oP H g3 (oP H g4 (oP H g5 (oS g6 (oP H0 g7 (oS g8 .nil)))))))))⟩
theorem pz_f_1 (N:Nat) (db n:Nat) (cap:Option Nat) (H:Heap) (x:Nat) (a:Nat) (b:Nat) (p:Nat) (i:Nat) (j:Nat)(g0:¬ ((j:Int) < (i:Int))):RT polSo 80 (sub [1,1,1,1,1,0] B80) (env80 (.c db n cap) (.i (a:Int)) (.i (b:Int)) (.i (p:Int)) (.i 0) (.bool false) (.i (i:Int)) (.i (j:Int))) H .normal (env80 (.c db n cap) (.i (a:Int)) (.i (b:Int)) (.i (p:Int)) (.i 0) (.bool false) (.i (i:Int)) (.i (j:Int))) H :=
  RunsTo.hin N 60 [⟨7,2,.bool false,H⟩] fun kf hk=>⟨_,by kernel_rfl,(oB H (decide_eq_false g0) .nil)⟩
theorem pz_g_0 (N:Nat) (db n:Nat) (cap:Option Nat) (H:Heap) (x:Nat) (a:Nat) (b:Nat) (p:Nat) (i:Nat) (j:Nat) {a0:HV} {v0:HV} {a1:HV} {v1:HV} {a2:HV} {H0:Heap} {a3:HV} {H1:Heap} (g0:idxV Tp 22 (.c db n cap) (.i (j:Int))=some (a0)) (g1:loadV Tp H 3 (a0)=some (v0)) (g2:idxV Tp 22 (.c db n cap) (.i (i:Int))=some (a1)) (g3:loadV Tp H 3 (a1)=some (v1)) (g4:idxV Tp 22 (.c db n cap) (.i (i:Int))=some (a2)) (g5:storeV Tp H 3 (a2) (v0)=some H0) (g6:idxV Tp 22 (.c db n cap) (.i (j:Int))=some (a3)) (g7:storeV Tp H0 3 (a3) (v1)=some H1):RT polSo 80 (sub [1,1,1,1,1,1,0] B80) (env80 (.c db n cap) (.i (a:Int)) (.i (b:Int)) (.i (p:Int)) (.i 0) (.bool false) (.i (i:Int)) (.i (j:Int))) H .normal (env80 (.c db n cap) (.i (a:Int)) (.i (b:Int)) (.i (p:Int)) (.i 0) (.bool false) (.i (i:Int)) (.i (j:Int))) H1 :=
  RunsTo.hin N 60 [⟨10,6,a0,H⟩,⟨10,7,v0,H⟩,⟨10,10,a1,H⟩,⟨10,11,v1,H⟩,⟨10,12,a2,H⟩,⟨10,13,.tuple [],H0⟩,⟨10,14,a3,H0⟩,⟨10,15,.tuple [],H1⟩] fun kf hk=>⟨_,by kernel_rfl,(oP H g0 (oP H g1 (oP H g2 (oP H g3 (oP H g4 (oS g5 (oP H0 g6 (oS g7 .nil))))))))⟩
theorem pz_h_0 (N:Nat) (db n:Nat) (cap:Option Nat) (H:Heap) (x:Nat) (a:Nat) (b:Nat) (p:Nat) (i:Nat) (j:Nat):RT polSo 80 (sub [1,1,1,1,1,1,1,0] B80) (env80 (.c db n cap) (.i (a:Int)) (.i (b:Int)) (.i (p:Int)) (.i 0) (.bool false) (.i (i:Int)) (.i (j:Int))) H .normal (env80 (.c db n cap) (.i (a:Int)) (.i (b:Int)) (.i (p:Int)) (.i 0) (.bool false) (.i (IntKind.i64.wrap ((i:Int)+1))) (.i (j:Int))) H :=
  RunsTo.hin N 60 [] fun kf hk=>⟨_,by kernel_rfl,.nil⟩
theorem pz_i_0 (N:Nat) (db n:Nat) (cap:Option Nat) (H:Heap) (x:Nat) (a:Nat) (b:Nat) (p:Nat) (i:Nat) (j:Nat):RT polSo 80 (sub [1,1,1,1,1,1,1,1,0] B80) (env80 (.c db n cap) (.i (a:Int)) (.i (b:Int)) (.i (p:Int)) (.i 0) (.bool false) (.i (i:Int)) (.i (j:Int))) H .normal (env80 (.c db n cap) (.i (a:Int)) (.i (b:Int)) (.i (p:Int)) (.i 0) (.bool false) (.i (i:Int)) (.i (IntKind.i64.wrap ((j:Int) - 1)))) H :=
  RunsTo.hin N 60 [] fun kf hk=>⟨_,by kernel_rfl,.nil⟩
theorem pz_j_0 (N:Nat) (db n:Nat) (cap:Option Nat) (H:Heap) (x:Nat) (a:Nat) (b:Nat) (p:Nat) (i:Nat) (j:Nat) {a0:HV} {v0:HV} {a1:HV} {v1:HV} {H0:Heap} (g0:(i:Int) ≤ (j:Int)) (g1:idxV Tp 22 (.c db n cap) (.i (i:Int))=some (a0)) (g2:loadV Tp H 3 (a0)=some (v0)) (g3:idxV Tp 22 (.c db n cap) (.i (a:Int))=some (a1)) (g4:loadV Tp H 3 (a1)=some (v1)) (g5:∀ kf,N ≤ kf → callN Tp polSo (kf+1) 78 [v0,v1] H=some (.bool true,H0)):RT polSo 80 (sub [1,1,1,1,1,1,1,1,1,0,0,0,0,0,0,0] B80) (env80 (.c db n cap) (.i (a:Int)) (.i (b:Int)) (.i (p:Int)) (.i 0) (.bool false) (.i (i:Int)) (.i (j:Int))) H .normal (env80 (.c db n cap) (.i (a:Int)) (.i (b:Int)) (.i (p:Int)) (.i 0) (.bool false) (.i (IntKind.i64.wrap ((i:Int)+1))) (.i (j:Int))) H0 :=
  RunsTo.hin N 60 [⟨13,2,.bool true,H⟩,⟨13,6,a0,H⟩,⟨13,7,v0,H⟩,⟨13,10,a1,H⟩,⟨13,11,v1,H⟩,⟨13,12,.bool true,H0⟩] fun kf hk=>⟨_,by kernel_rfl,(oB H (decide_eq_true g0) (oP H g1 (oP H g2 (oP H g3 (oP H g4 (oC (g5 kf (by omega)) .nil))))))⟩
theorem pz_j_1 (N:Nat) (db n:Nat) (cap:Option Nat) (H:Heap) (x:Nat) (a:Nat) (b:Nat) (p:Nat) (i:Nat) (j:Nat) {a0:HV} {v0:HV} {a1:HV} {v1:HV} {H0:Heap} (g0:(i:Int) ≤ (j:Int)) (g1:idxV Tp 22 (.c db n cap) (.i (i:Int))=some (a0)) (g2:loadV Tp H 3 (a0)=some (v0)) (g3:idxV Tp 22 (.c db n cap) (.i (a:Int))=some (a1)) (g4:loadV Tp H 3 (a1)=some (v1)) (g5:∀ kf,N ≤ kf → callN Tp polSo (kf+1) 78 [v0,v1] H=some (.bool false,H0)):RT polSo 80 (sub [1,1,1,1,1,1,1,1,1,0,0,0,0,0,0,0] B80) (env80 (.c db n cap) (.i (a:Int)) (.i (b:Int)) (.i (p:Int)) (.i 0) (.bool false) (.i (i:Int)) (.i (j:Int))) H (.exit 6) (env80 (.c db n cap) (.i (a:Int)) (.i (b:Int)) (.i (p:Int)) (.i 0) (.bool false) (.i (i:Int)) (.i (j:Int))) H0 :=
  RunsTo.hin N 60 [⟨13,2,.bool true,H⟩,⟨13,6,a0,H⟩,⟨13,7,v0,H⟩,⟨13,10,a1,H⟩,⟨13,11,v1,H⟩,⟨13,12,.bool false,H0⟩] fun kf hk=>⟨_,by kernel_rfl,(oB H (decide_eq_true g0) (oP H g1 (oP H g2 (oP H g3 (oP H g4 (oC (g5 kf (by omega)) .nil))))))⟩
theorem pz_j_2 (N:Nat) (db n:Nat) (cap:Option Nat) (H:Heap) (x:Nat) (a:Nat) (b:Nat) (p:Nat) (i:Nat) (j:Nat)(g0:¬ ((i:Int) ≤ (j:Int))):RT polSo 80 (sub [1,1,1,1,1,1,1,1,1,0,0,0,0,0,0,0] B80) (env80 (.c db n cap) (.i (a:Int)) (.i (b:Int)) (.i (p:Int)) (.i 0) (.bool false) (.i (i:Int)) (.i (j:Int))) H (.exit 6) (env80 (.c db n cap) (.i (a:Int)) (.i (b:Int)) (.i (p:Int)) (.i 0) (.bool false) (.i (i:Int)) (.i (j:Int))) H :=
  RunsTo.hin N 60 [⟨13,2,.bool false,H⟩] fun kf hk=>⟨_,by kernel_rfl,(oB H (decide_eq_false g0) .nil)⟩
theorem pz_k_0 (N:Nat) (db n:Nat) (cap:Option Nat) (H:Heap) (x:Nat) (a:Nat) (b:Nat) (p:Nat) (i:Nat) (j:Nat) {a0:HV} {v0:HV} {a1:HV} {v1:HV} {H0:Heap} (g0:(i:Int) ≤ (j:Int)) (g1:idxV Tp 22 (.c db n cap) (.i (j:Int))=some (a0)) (g2:loadV Tp H 3 (a0)=some (v0)) (g3:idxV Tp 22 (.c db n cap) (.i (a:Int))=some (a1)) (g4:loadV Tp H 3 (a1)=some (v1)) (g5:∀ kf,N ≤ kf → callN Tp polSo (kf+1) 78 [v0,v1] H=some (.bool true,H0)):RT polSo 80 (sub [1,1,1,1,1,1,1,1,1,0,0,0,0,1,0,0,0] B80) (env80 (.c db n cap) (.i (a:Int)) (.i (b:Int)) (.i (p:Int)) (.i 0) (.bool false) (.i (i:Int)) (.i (j:Int))) H (.exit 8) (env80 (.c db n cap) (.i (a:Int)) (.i (b:Int)) (.i (p:Int)) (.i 0) (.bool false) (.i (i:Int)) (.i (j:Int))) H0 :=
  RunsTo.hin N 60 [⟨15,2,.bool true,H⟩,⟨15,6,a0,H⟩,⟨15,7,v0,H⟩,⟨15,10,a1,H⟩,⟨15,11,v1,H⟩,⟨15,12,.bool true,H0⟩] fun kf hk=>⟨_,by kernel_rfl,(oB H (decide_eq_true g0) (oP H g1 (oP H g2 (oP H g3 (oP H g4 (oC (g5 kf (by omega)) .nil))))))⟩
theorem pz_k_1 (N:Nat) (db n:Nat) (cap:Option Nat) (H:Heap) (x:Nat) (a:Nat) (b:Nat) (p:Nat) (i:Nat) (j:Nat) {a0:HV} {v0:HV} {a1:HV} {v1:HV} {H0:Heap} (g0:(i:Int) ≤ (j:Int)) (g1:idxV Tp 22 (.c db n cap) (.i (j:Int))=some (a0)) (g2:loadV Tp H 3 (a0)=some (v0)) (g3:idxV Tp 22 (.c db n cap) (.i (a:Int))=some (a1)) (g4:loadV Tp H 3 (a1)=some (v1)) (g5:∀ kf,N ≤ kf → callN Tp polSo (kf+1) 78 [v0,v1] H=some (.bool false,H0)):RT polSo 80 (sub [1,1,1,1,1,1,1,1,1,0,0,0,0,1,0,0,0] B80) (env80 (.c db n cap) (.i (a:Int)) (.i (b:Int)) (.i (p:Int)) (.i 0) (.bool false) (.i (i:Int)) (.i (j:Int))) H .normal (env80 (.c db n cap) (.i (a:Int)) (.i (b:Int)) (.i (p:Int)) (.i 0) (.bool false) (.i (i:Int)) (.i (IntKind.i64.wrap ((j:Int) - 1)))) H0 :=
  RunsTo.hin N 60 [⟨15,2,.bool true,H⟩,⟨15,6,a0,H⟩,⟨15,7,v0,H⟩,⟨15,10,a1,H⟩,⟨15,11,v1,H⟩,⟨15,12,.bool false,H0⟩] fun kf hk=>⟨_,by kernel_rfl,(oB H (decide_eq_true g0) (oP H g1 (oP H g2 (oP H g3 (oP H g4 (oC (g5 kf (by omega)) .nil))))))⟩
theorem pz_k_2 (N:Nat) (db n:Nat) (cap:Option Nat) (H:Heap) (x:Nat) (a:Nat) (b:Nat) (p:Nat) (i:Nat) (j:Nat)(g0:¬ ((i:Int) ≤ (j:Int))):RT polSo 80 (sub [1,1,1,1,1,1,1,1,1,0,0,0,0,1,0,0,0] B80) (env80 (.c db n cap) (.i (a:Int)) (.i (b:Int)) (.i (p:Int)) (.i 0) (.bool false) (.i (i:Int)) (.i (j:Int))) H (.exit 8) (env80 (.c db n cap) (.i (a:Int)) (.i (b:Int)) (.i (p:Int)) (.i 0) (.bool false) (.i (i:Int)) (.i (j:Int))) H :=
  RunsTo.hin N 60 [⟨15,2,.bool false,H⟩] fun kf hk=>⟨_,by kernel_rfl,(oB H (decide_eq_false g0) .nil)⟩
theorem pz_l_0 (N:Nat) (db n:Nat) (cap:Option Nat) (H:Heap) (x:Nat) (a:Nat) (b:Nat) (p:Nat) (i:Nat) (j:Nat)(g0:(j:Int) < (i:Int)):RT polSo 80 (sub [1,1,1,1,1,1,1,1,1,0,0,0,0,1,1] B80) (env80 (.c db n cap) (.i (a:Int)) (.i (b:Int)) (.i (p:Int)) (.i 0) (.bool false) (.i (i:Int)) (.i (j:Int))) H (.exit 4) (env80 (.c db n cap) (.i (a:Int)) (.i (b:Int)) (.i (p:Int)) (.i 0) (.bool false) (.i (i:Int)) (.i (j:Int))) H :=
  RunsTo.hin N 60 [⟨17,2,.bool true,H⟩] fun kf hk=>⟨_,by kernel_rfl,(oB H (decide_eq_true g0) .nil)⟩
theorem pz_l_1 (N:Nat) (db n:Nat) (cap:Option Nat) (H:Heap) (x:Nat) (a:Nat) (b:Nat) (p:Nat) (i:Nat) (j:Nat) {a0:HV} {v0:HV} {a1:HV} {v1:HV} {a2:HV} {H0:Heap} {a3:HV} {H1:Heap} (g0:¬ ((j:Int) < (i:Int))) (g1:idxV Tp 22 (.c db n cap) (.i (j:Int))=some (a0)) (g2:loadV Tp H 3 (a0)=some (v0)) (g3:idxV Tp 22 (.c db n cap) (.i (i:Int))=some (a1)) (g4:loadV Tp H 3 (a1)=some (v1)) (g5:idxV Tp 22 (.c db n cap) (.i (i:Int))=some (a2)) (g6:storeV Tp H 3 (a2) (v0)=some H0) (g7:idxV Tp 22 (.c db n cap) (.i (j:Int))=some (a3)) (g8:storeV Tp H0 3 (a3) (v1)=some H1):RT polSo 80 (sub [1,1,1,1,1,1,1,1,1,0,0,0,0,1,1] B80) (env80 (.c db n cap) (.i (a:Int)) (.i (b:Int)) (.i (p:Int)) (.i 0) (.bool false) (.i (i:Int)) (.i (j:Int))) H .normal (env80 (.c db n cap) (.i (a:Int)) (.i (b:Int)) (.i (p:Int)) (.i 0) (.bool false) (.i (IntKind.i64.wrap ((i:Int)+1))) (.i (IntKind.i64.wrap ((j:Int) - 1)))) H1 :=
  RunsTo.hin N 60 [⟨17,2,.bool false,H⟩,⟨18,6,a0,H⟩,⟨18,7,v0,H⟩,⟨18,10,a1,H⟩,⟨18,11,v1,H⟩,⟨18,12,a2,H⟩,⟨18,13,.tuple [],H0⟩,⟨18,14,a3,H0⟩,⟨18,15,.tuple [],H1⟩] fun kf hk=>⟨_,by kernel_rfl,(oB H (decide_eq_false g0) (oP H g1 (oP H g2 (oP H g3 (oP H g4 (oP H g5 (oS g6 (oP H0 g7 (oS g8 .nil)))))))))⟩
theorem pz_m_0 (N:Nat) (db n:Nat) (cap:Option Nat) (H:Heap) (x:Nat) (a:Nat) (b:Nat) (p:Nat) (i:Nat) (j:Nat) {a0:HV} {v0:HV} {a1:HV} {v1:HV} {a2:HV} {H0:Heap} {a3:HV} {H1:Heap} (g0:idxV Tp 22 (.c db n cap) (.i (a:Int))=some (a0)) (g1:loadV Tp H 3 (a0)=some (v0)) (g2:idxV Tp 22 (.c db n cap) (.i (j:Int))=some (a1)) (g3:loadV Tp H 3 (a1)=some (v1)) (g4:idxV Tp 22 (.c db n cap) (.i (j:Int))=some (a2)) (g5:storeV Tp H 3 (a2) (v0)=some H0) (g6:idxV Tp 22 (.c db n cap) (.i (a:Int))=some (a3)) (g7:storeV Tp H0 3 (a3) (v1)=some H1):RT polSo 80 (sub [1,1,1,1,1,1,1,1,1,1] B80) (env80 (.c db n cap) (.i (a:Int)) (.i (b:Int)) (.i (p:Int)) (.i 0) (.bool false) (.i (i:Int)) (.i (j:Int))) H .ret (env80 (.c db n cap) (.i (a:Int)) (.i (b:Int)) (.i (p:Int)) (.i (j:Int)) (.bool false) (.i (i:Int)) (.i (j:Int))) H1 :=
  RunsTo.hin N 60 [⟨21,6,a0,H⟩,⟨21,7,v0,H⟩,⟨21,10,a1,H⟩,⟨21,11,v1,H⟩,⟨21,12,a2,H⟩,⟨21,13,.tuple [],H0⟩,⟨21,14,a3,H0⟩,⟨21,15,.tuple [],H1⟩] fun kf hk=>⟨_,by kernel_rfl,(oP H g0 (oP H g1 (oP H g2 (oP H g3 (oP H g4 (oS g5 (oP H0 g6 (oS g7 .nil))))))))⟩
noncomputable def B79:Code:=Try.f79.body.getD .skip
abbrev env79 (v0 v1 v2 v3 v8 v9 v10:HV):Env:=[(0,v0),(1,v1),(2,v2),(3,v3),(8,v8),(9,v9),(10,v10)]
theorem pe_a_0 (N:Nat) (db n:Nat) (cap:Option Nat) (H:Heap) (x:Nat) (a:Nat) (b:Nat) (p:Nat):RT polSo 79 (sub [0] B79) [(0,.c db n cap),(1,.i (a:Int)),(2,.i (b:Int)),(3,.i (p:Int))] H .normal (env79 (.c db n cap) (.i (a:Int)) (.i (b:Int)) (.i (p:Int)) (.i 0) Ud Ud) H :=
  RunsTo.hin N 60 [] fun kf hk=>⟨_,by kernel_rfl,.nil⟩
theorem pe_b_0 (N:Nat) (db n:Nat) (cap:Option Nat) (H:Heap) (x:Nat) (a:Nat) (b:Nat) (p:Nat) {y9 y10:HV} {a0:HV} {v0:HV} {a1:HV} {v1:HV} {a2:HV} {H0:Heap} {a3:HV} {H1:Heap} (g0:idxV Tp 22 (.c db n cap) (.i (p:Int))=some (a0)) (g1:loadV Tp H 3 (a0)=some (v0)) (g2:idxV Tp 22 (.c db n cap) (.i (a:Int))=some (a1)) (g3:loadV Tp H 3 (a1)=some (v1)) (g4:idxV Tp 22 (.c db n cap) (.i (a:Int))=some (a2)) (g5:storeV Tp H 3 (a2) (v0)=some H0) (g6:idxV Tp 22 (.c db n cap) (.i (p:Int))=some (a3)) (g7:storeV Tp H0 3 (a3) (v1)=some H1):RT polSo 79 (sub [1,0] B79) (env79 (.c db n cap) (.i (a:Int)) (.i (b:Int)) (.i (p:Int)) (.i 0) y9 y10) H .normal (env79 (.c db n cap) (.i (a:Int)) (.i (b:Int)) (.i (p:Int)) (.i 0) y9 y10) H1 :=
  RunsTo.hin N 60 [⟨1,6,a0,H⟩,⟨1,7,v0,H⟩,⟨1,10,a1,H⟩,⟨1,11,v1,H⟩,⟨1,12,a2,H⟩,⟨1,13,.tuple [],H0⟩,⟨1,14,a3,H0⟩,⟨1,15,.tuple [],H1⟩] fun kf hk=>⟨_,by kernel_rfl,(oP H g0 (oP H g1 (oP H g2 (oP H g3 (oP H g4 (oS g5 (oP H0 g6 (oS g7 .nil))))))))⟩
theorem pe_c_0 (N:Nat) (db n:Nat) (cap:Option Nat) (H:Heap) (x:Nat) (a:Nat) (b:Nat) (p:Nat) {y9 y10:HV}:RT polSo 79 (sub [1,1,0] B79) (env79 (.c db n cap) (.i (a:Int)) (.i (b:Int)) (.i (p:Int)) (.i 0) y9 y10) H .normal (env79 (.c db n cap) (.i (a:Int)) (.i (b:Int)) (.i (p:Int)) (.i 0) (.i (IntKind.i64.wrap ((a:Int)+1))) (.i (IntKind.i64.wrap ((b:Int) - 1)))) H :=
  RunsTo.hin N 60 [] fun kf hk=>⟨_,by kernel_rfl,.nil⟩
theorem pe_d_0 (N:Nat) (db n:Nat) (cap:Option Nat) (H:Heap) (x:Nat) (a:Nat) (b:Nat) (p:Nat) (i:Nat) (j:Nat) {a0:HV} {v0:HV} {a1:HV} {v1:HV} {H0:Heap} (g0:(i:Int) ≤ (j:Int)) (g1:idxV Tp 22 (.c db n cap) (.i (a:Int))=some (a0)) (g2:loadV Tp H 3 (a0)=some (v0)) (g3:idxV Tp 22 (.c db n cap) (.i (i:Int))=some (a1)) (g4:loadV Tp H 3 (a1)=some (v1)) (g5:∀ kf,N ≤ kf → callN Tp polSo (kf+1) 78 [v0,v1] H=some (.bool true,H0)):RT polSo 79 (sub [1,1,1,0,0,0,0,0,0,0] B79) (env79 (.c db n cap) (.i (a:Int)) (.i (b:Int)) (.i (p:Int)) (.i 0) (.i (i:Int)) (.i (j:Int))) H (.exit 2) (env79 (.c db n cap) (.i (a:Int)) (.i (b:Int)) (.i (p:Int)) (.i 0) (.i (i:Int)) (.i (j:Int))) H0 :=
  RunsTo.hin N 60 [⟨3,2,.bool true,H⟩,⟨3,6,a0,H⟩,⟨3,7,v0,H⟩,⟨3,10,a1,H⟩,⟨3,11,v1,H⟩,⟨3,12,.bool true,H0⟩] fun kf hk=>⟨_,by kernel_rfl,(oB H (decide_eq_true g0) (oP H g1 (oP H g2 (oP H g3 (oP H g4 (oC (g5 kf (by omega)) .nil))))))⟩
theorem pe_d_1 (N:Nat) (db n:Nat) (cap:Option Nat) (H:Heap) (x:Nat) (a:Nat) (b:Nat) (p:Nat) (i:Nat) (j:Nat) {a0:HV} {v0:HV} {a1:HV} {v1:HV} {H0:Heap} (g0:(i:Int) ≤ (j:Int)) (g1:idxV Tp 22 (.c db n cap) (.i (a:Int))=some (a0)) (g2:loadV Tp H 3 (a0)=some (v0)) (g3:idxV Tp 22 (.c db n cap) (.i (i:Int))=some (a1)) (g4:loadV Tp H 3 (a1)=some (v1)) (g5:∀ kf,N ≤ kf → callN Tp polSo (kf+1) 78 [v0,v1] H=some (.bool false,H0)):RT polSo 79 (sub [1,1,1,0,0,0,0,0,0,0] B79) (env79 (.c db n cap) (.i (a:Int)) (.i (b:Int)) (.i (p:Int)) (.i 0) (.i (i:Int)) (.i (j:Int))) H .normal (env79 (.c db n cap) (.i (a:Int)) (.i (b:Int)) (.i (p:Int)) (.i 0) (.i (IntKind.i64.wrap ((i:Int)+1))) (.i (j:Int))) H0 :=
  RunsTo.hin N 60 [⟨3,2,.bool true,H⟩,⟨3,6,a0,H⟩,⟨3,7,v0,H⟩,⟨3,10,a1,H⟩,⟨3,11,v1,H⟩,⟨3,12,.bool false,H0⟩] fun kf hk=>⟨_,by kernel_rfl,(oB H (decide_eq_true g0) (oP H g1 (oP H g2 (oP H g3 (oP H g4 (oC (g5 kf (by omega)) .nil))))))⟩
theorem pe_d_2 (N:Nat) (db n:Nat) (cap:Option Nat) (H:Heap) (x:Nat) (a:Nat) (b:Nat) (p:Nat) (i:Nat) (j:Nat)(g0:¬ ((i:Int) ≤ (j:Int))):RT polSo 79 (sub [1,1,1,0,0,0,0,0,0,0] B79) (env79 (.c db n cap) (.i (a:Int)) (.i (b:Int)) (.i (p:Int)) (.i 0) (.i (i:Int)) (.i (j:Int))) H (.exit 2) (env79 (.c db n cap) (.i (a:Int)) (.i (b:Int)) (.i (p:Int)) (.i 0) (.i (i:Int)) (.i (j:Int))) H :=
  RunsTo.hin N 60 [⟨3,2,.bool false,H⟩] fun kf hk=>⟨_,by kernel_rfl,(oB H (decide_eq_false g0) .nil)⟩
theorem pe_e_0 (N:Nat) (db n:Nat) (cap:Option Nat) (H:Heap) (x:Nat) (a:Nat) (b:Nat) (p:Nat) (i:Nat) (j:Nat) {a0:HV} {v0:HV} {a1:HV} {v1:HV} {H0:Heap} (g0:(i:Int) ≤ (j:Int)) (g1:idxV Tp 22 (.c db n cap) (.i (a:Int))=some (a0)) (g2:loadV Tp H 3 (a0)=some (v0)) (g3:idxV Tp 22 (.c db n cap) (.i (j:Int))=some (a1)) (g4:loadV Tp H 3 (a1)=some (v1)) (g5:∀ kf,N ≤ kf → callN Tp polSo (kf+1) 78 [v0,v1] H=some (.bool true,H0)):RT polSo 79 (sub [1,1,1,0,0,0,0,1,0,0,0] B79) (env79 (.c db n cap) (.i (a:Int)) (.i (b:Int)) (.i (p:Int)) (.i 0) (.i (i:Int)) (.i (j:Int))) H .normal (env79 (.c db n cap) (.i (a:Int)) (.i (b:Int)) (.i (p:Int)) (.i 0) (.i (i:Int)) (.i (IntKind.i64.wrap ((j:Int) - 1)))) H0 :=
  RunsTo.hin N 60 [⟨5,2,.bool true,H⟩,⟨5,6,a0,H⟩,⟨5,7,v0,H⟩,⟨5,10,a1,H⟩,⟨5,11,v1,H⟩,⟨5,12,.bool true,H0⟩] fun kf hk=>⟨_,by kernel_rfl,(oB H (decide_eq_true g0) (oP H g1 (oP H g2 (oP H g3 (oP H g4 (oC (g5 kf (by omega)) .nil))))))⟩
theorem pe_e_1 (N:Nat) (db n:Nat) (cap:Option Nat) (H:Heap) (x:Nat) (a:Nat) (b:Nat) (p:Nat) (i:Nat) (j:Nat) {a0:HV} {v0:HV} {a1:HV} {v1:HV} {H0:Heap} (g0:(i:Int) ≤ (j:Int)) (g1:idxV Tp 22 (.c db n cap) (.i (a:Int))=some (a0)) (g2:loadV Tp H 3 (a0)=some (v0)) (g3:idxV Tp 22 (.c db n cap) (.i (j:Int))=some (a1)) (g4:loadV Tp H 3 (a1)=some (v1)) (g5:∀ kf,N ≤ kf → callN Tp polSo (kf+1) 78 [v0,v1] H=some (.bool false,H0)):RT polSo 79 (sub [1,1,1,0,0,0,0,1,0,0,0] B79) (env79 (.c db n cap) (.i (a:Int)) (.i (b:Int)) (.i (p:Int)) (.i 0) (.i (i:Int)) (.i (j:Int))) H (.exit 4) (env79 (.c db n cap) (.i (a:Int)) (.i (b:Int)) (.i (p:Int)) (.i 0) (.i (i:Int)) (.i (j:Int))) H0 :=
  RunsTo.hin N 60 [⟨5,2,.bool true,H⟩,⟨5,6,a0,H⟩,⟨5,7,v0,H⟩,⟨5,10,a1,H⟩,⟨5,11,v1,H⟩,⟨5,12,.bool false,H0⟩] fun kf hk=>⟨_,by kernel_rfl,(oB H (decide_eq_true g0) (oP H g1 (oP H g2 (oP H g3 (oP H g4 (oC (g5 kf (by omega)) .nil))))))⟩
theorem pe_e_2 (N:Nat) (db n:Nat) (cap:Option Nat) (H:Heap) (x:Nat) (a:Nat) (b:Nat) (p:Nat) (i:Nat) (j:Nat)(g0:¬ ((i:Int) ≤ (j:Int))):RT polSo 79 (sub [1,1,1,0,0,0,0,1,0,0,0] B79) (env79 (.c db n cap) (.i (a:Int)) (.i (b:Int)) (.i (p:Int)) (.i 0) (.i (i:Int)) (.i (j:Int))) H (.exit 4) (env79 (.c db n cap) (.i (a:Int)) (.i (b:Int)) (.i (p:Int)) (.i 0) (.i (i:Int)) (.i (j:Int))) H :=
  RunsTo.hin N 60 [⟨5,2,.bool false,H⟩] fun kf hk=>⟨_,by kernel_rfl,(oB H (decide_eq_false g0) .nil)⟩
theorem pe_f_0 (N:Nat) (db n:Nat) (cap:Option Nat) (H:Heap) (x:Nat) (a:Nat) (b:Nat) (p:Nat) (i:Nat) (j:Nat)(g0:(j:Int) < (i:Int)):RT polSo 79 (sub [1,1,1,0,0,0,0,1,1] B79) (env79 (.c db n cap) (.i (a:Int)) (.i (b:Int)) (.i (p:Int)) (.i 0) (.i (i:Int)) (.i (j:Int))) H (.exit 0) (env79 (.c db n cap) (.i (a:Int)) (.i (b:Int)) (.i (p:Int)) (.i 0) (.i (i:Int)) (.i (j:Int))) H :=
  RunsTo.hin N 60 [⟨7,2,.bool true,H⟩] fun kf hk=>⟨_,by kernel_rfl,(oB H (decide_eq_true g0) .nil)⟩
theorem pe_f_1 (N:Nat) (db n:Nat) (cap:Option Nat) (H:Heap) (x:Nat) (a:Nat) (b:Nat) (p:Nat) (i:Nat) (j:Nat) {a0:HV} {v0:HV} {a1:HV} {v1:HV} {a2:HV} {H0:Heap} {a3:HV} {H1:Heap} (g0:¬ ((j:Int) < (i:Int))) (g1:idxV Tp 22 (.c db n cap) (.i (j:Int))=some (a0)) (g2:loadV Tp H 3 (a0)=some (v0)) (g3:idxV Tp 22 (.c db n cap) (.i (i:Int))=some (a1)) (g4:loadV Tp H 3 (a1)=some (v1)) (g5:idxV Tp 22 (.c db n cap) (.i (i:Int))=some (a2)) (g6:storeV Tp H 3 (a2) (v0)=some H0) (g7:idxV Tp 22 (.c db n cap) (.i (j:Int))=some (a3)) (g8:storeV Tp H0 3 (a3) (v1)=some H1):RT polSo 79 (sub [1,1,1,0,0,0,0,1,1] B79) (env79 (.c db n cap) (.i (a:Int)) (.i (b:Int)) (.i (p:Int)) (.i 0) (.i (i:Int)) (.i (j:Int))) H .normal (env79 (.c db n cap) (.i (a:Int)) (.i (b:Int)) (.i (p:Int)) (.i 0) (.i (IntKind.i64.wrap ((i:Int)+1))) (.i (IntKind.i64.wrap ((j:Int) - 1)))) H1 :=
  RunsTo.hin N 60 [⟨7,2,.bool false,H⟩,⟨8,6,a0,H⟩,⟨8,7,v0,H⟩,⟨8,10,a1,H⟩,⟨8,11,v1,H⟩,⟨8,12,a2,H⟩,⟨8,13,.tuple [],H0⟩,⟨8,14,a3,H0⟩,⟨8,15,.tuple [],H1⟩] fun kf hk=>⟨_,by kernel_rfl,(oB H (decide_eq_false g0) (oP H g1 (oP H g2 (oP H g3 (oP H g4 (oP H g5 (oS g6 (oP H0 g7 (oS g8 .nil)))))))))⟩
theorem pe_g_0 (N:Nat) (db n:Nat) (cap:Option Nat) (H:Heap) (x:Nat) (a:Nat) (b:Nat) (p:Nat) (i:Nat) (j:Nat):RT polSo 79 (sub [1,1,1,1] B79) (env79 (.c db n cap) (.i (a:Int)) (.i (b:Int)) (.i (p:Int)) (.i 0) (.i (i:Int)) (.i (j:Int))) H .ret (env79 (.c db n cap) (.i (a:Int)) (.i (b:Int)) (.i (p:Int)) (.i (i:Int)) (.i (i:Int)) (.i (j:Int))) H :=
  RunsTo.hin N 60 [] fun kf hk=>⟨_,by kernel_rfl,.nil⟩
noncomputable def B77:Code:=Try.f77.body.getD .skip
abbrev env77 (v0 v1 v2 v6 v7 v8 v9 v10:HV):Env:=[(0,v0),(1,v1),(2,v2),(6,v6),(7,v7),(8,v8),(9,v9),(10,v10)]
theorem pi_a_0 (N:Nat) (db n:Nat) (cap:Option Nat) (H:Heap) (x:Nat) (a:Nat) (b:Nat):RT polSo 77 (sub [0] B77) [(0,.c db n cap),(1,.i (a:Int)),(2,.i (b:Int))] H .normal (env77 (.c db n cap) (.i (a:Int)) (.i (b:Int)) (.bool false) Ud Ud Ud Ud) H :=
  RunsTo.hin N 60 [] fun kf hk=>⟨_,by kernel_rfl,.nil⟩
theorem pi_b_0 (N:Nat) (db n:Nat) (cap:Option Nat) (H:Heap) (x:Nat) (a:Nat) (b:Nat) {y7 y8 y9 y10:HV}:RT polSo 77 (sub [1,0] B77) (env77 (.c db n cap) (.i (a:Int)) (.i (b:Int)) (.bool false) y7 y8 y9 y10) H .normal (env77 (.c db n cap) (.i (a:Int)) (.i (b:Int)) (.bool false) (.i (IntKind.i64.wrap ((a:Int)+1))) y8 y9 y10) H :=
  RunsTo.hin N 60 [] fun kf hk=>⟨_,by kernel_rfl,.nil⟩
theorem pi_c_0 (N:Nat) (db n:Nat) (cap:Option Nat) (H:Heap) (x:Nat) (a:Nat) (b:Nat) (i:Nat) {y8 y9 y10:HV}:RT polSo 77 (sub [1,1,0,0] B77) (env77 (.c db n cap) (.i (a:Int)) (.i (b:Int)) (.bool false) (.i (i:Int)) y8 y9 y10) H .normal (env77 (.c db n cap) (.i (a:Int)) (.i (b:Int)) (.bool false) (.i (i:Int)) (.i 0) y9 y10) H :=
  RunsTo.hin N 60 [] fun kf hk=>⟨_,by kernel_rfl,.nil⟩
theorem pi_d_0 (N:Nat) (db n:Nat) (cap:Option Nat) (H:Heap) (x:Nat) (a:Nat) (b:Nat) (i:Nat) (k:Nat) {y9 y10:HV}(g0:(k:Int) < 5):RT polSo 77 (sub [1,1,0,1,0,0,0] B77) (env77 (.c db n cap) (.i (a:Int)) (.i (b:Int)) (.bool false) (.i (i:Int)) (.i (k:Int)) y9 y10) H .normal (env77 (.c db n cap) (.i (a:Int)) (.i (b:Int)) (.bool false) (.i (i:Int)) (.i (k:Int)) y9 y10) H :=
  RunsTo.hin N 60 [⟨3,1,.bool true,H⟩] fun kf hk=>⟨_,by kernel_rfl,(oB H (decide_eq_true g0) .nil)⟩
theorem pi_d_1 (N:Nat) (db n:Nat) (cap:Option Nat) (H:Heap) (x:Nat) (a:Nat) (b:Nat) (i:Nat) (k:Nat) {y9 y10:HV}(g0:¬ ((k:Int) < 5)):RT polSo 77 (sub [1,1,0,1,0,0,0] B77) (env77 (.c db n cap) (.i (a:Int)) (.i (b:Int)) (.bool false) (.i (i:Int)) (.i (k:Int)) y9 y10) H (.exit 0) (env77 (.c db n cap) (.i (a:Int)) (.i (b:Int)) (.bool false) (.i (i:Int)) (.i (k:Int)) y9 y10) H :=
  RunsTo.hin N 60 [⟨3,1,.bool false,H⟩] fun kf hk=>⟨_,by kernel_rfl,(oB H (decide_eq_false g0) .nil)⟩
theorem pi_e_0 (N:Nat) (db n:Nat) (cap:Option Nat) (H:Heap) (x:Nat) (a:Nat) (b:Nat) (i:Nat) (k:Nat) {y9 y10:HV} {a0:HV} {v0:HV} {a1:HV} {v1:HV} {H0:Heap} (g0:(i:Int) < (b:Int)) (g1:idxV Tp 22 (.c db n cap) (.i (i:Int))=some (a0)) (g2:loadV Tp H 3 (a0)=some (v0)) (g3:idxV Tp 22 (.c db n cap) (.i (IntKind.i64.wrap ((i:Int) - 1)))=some (a1)) (g4:loadV Tp H 3 (a1)=some (v1)) (g5:∀ kf,N ≤ kf → callN Tp polSo (kf+1) 78 [v0,v1] H=some (.bool true,H0)):RT polSo 77 (sub [1,1,0,1,0,0,1,0,0,0,0,0] B77) (env77 (.c db n cap) (.i (a:Int)) (.i (b:Int)) (.bool false) (.i (i:Int)) (.i (k:Int)) y9 y10) H (.exit 2) (env77 (.c db n cap) (.i (a:Int)) (.i (b:Int)) (.bool false) (.i (i:Int)) (.i (k:Int)) y9 y10) H0 :=
  RunsTo.hin N 60 [⟨5,2,.bool true,H⟩,⟨5,6,a0,H⟩,⟨5,7,v0,H⟩,⟨5,11,a1,H⟩,⟨5,12,v1,H⟩,⟨5,13,.bool true,H0⟩] fun kf hk=>⟨_,by kernel_rfl,(oB H (decide_eq_true g0) (oP H g1 (oP H g2 (oP H g3 (oP H g4 (oC (g5 kf (by omega)) .nil))))))⟩
theorem pi_e_1 (N:Nat) (db n:Nat) (cap:Option Nat) (H:Heap) (x:Nat) (a:Nat) (b:Nat) (i:Nat) (k:Nat) {y9 y10:HV} {a0:HV} {v0:HV} {a1:HV} {v1:HV} {H0:Heap} (g0:(i:Int) < (b:Int)) (g1:idxV Tp 22 (.c db n cap) (.i (i:Int))=some (a0)) (g2:loadV Tp H 3 (a0)=some (v0)) (g3:idxV Tp 22 (.c db n cap) (.i (IntKind.i64.wrap ((i:Int) - 1)))=some (a1)) (g4:loadV Tp H 3 (a1)=some (v1)) (g5:∀ kf,N ≤ kf → callN Tp polSo (kf+1) 78 [v0,v1] H=some (.bool false,H0)):RT polSo 77 (sub [1,1,0,1,0,0,1,0,0,0,0,0] B77) (env77 (.c db n cap) (.i (a:Int)) (.i (b:Int)) (.bool false) (.i (i:Int)) (.i (k:Int)) y9 y10) H .normal (env77 (.c db n cap) (.i (a:Int)) (.i (b:Int)) (.bool false) (.i (IntKind.i64.wrap ((i:Int)+1))) (.i (k:Int)) y9 y10) H0 :=
  RunsTo.hin N 60 [⟨5,2,.bool true,H⟩,⟨5,6,a0,H⟩,⟨5,7,v0,H⟩,⟨5,11,a1,H⟩,⟨5,12,v1,H⟩,⟨5,13,.bool false,H0⟩] fun kf hk=>⟨_,by kernel_rfl,(oB H (decide_eq_true g0) (oP H g1 (oP H g2 (oP H g3 (oP H g4 (oC (g5 kf (by omega)) .nil))))))⟩
theorem pi_e_2 (N:Nat) (db n:Nat) (cap:Option Nat) (H:Heap) (x:Nat) (a:Nat) (b:Nat) (i:Nat) (k:Nat) {y9 y10:HV}(g0:¬ ((i:Int) < (b:Int))):RT polSo 77 (sub [1,1,0,1,0,0,1,0,0,0,0,0] B77) (env77 (.c db n cap) (.i (a:Int)) (.i (b:Int)) (.bool false) (.i (i:Int)) (.i (k:Int)) y9 y10) H (.exit 2) (env77 (.c db n cap) (.i (a:Int)) (.i (b:Int)) (.bool false) (.i (i:Int)) (.i (k:Int)) y9 y10) H :=
  RunsTo.hin N 60 [⟨5,2,.bool false,H⟩] fun kf hk=>⟨_,by kernel_rfl,(oB H (decide_eq_false g0) .nil)⟩
theorem pi_f_0 (N:Nat) (db n:Nat) (cap:Option Nat) (H:Heap) (x:Nat) (a:Nat) (b:Nat) (i:Nat) (k:Nat) {y9 y10:HV}(g0:(i:Int)=(b:Int)):RT polSo 77 (sub [1,1,0,1,0,0,1,0,0,1,0] B77) (env77 (.c db n cap) (.i (a:Int)) (.i (b:Int)) (.bool false) (.i (i:Int)) (.i (k:Int)) y9 y10) H .ret (env77 (.c db n cap) (.i (a:Int)) (.i (b:Int)) (.bool true) (.i (i:Int)) (.i (k:Int)) y9 y10) H :=
  RunsTo.hin N 60 [⟨7,2,.bool true,H⟩] fun kf hk=>⟨_,by kernel_rfl,(oB H (decide_eq_true g0) .nil)⟩
theorem pi_f_1 (N:Nat) (db n:Nat) (cap:Option Nat) (H:Heap) (x:Nat) (a:Nat) (b:Nat) (i:Nat) (k:Nat) {y9 y10:HV}(g0:¬ ((i:Int)=(b:Int))):RT polSo 77 (sub [1,1,0,1,0,0,1,0,0,1,0] B77) (env77 (.c db n cap) (.i (a:Int)) (.i (b:Int)) (.bool false) (.i (i:Int)) (.i (k:Int)) y9 y10) H .normal (env77 (.c db n cap) (.i (a:Int)) (.i (b:Int)) (.bool false) (.i (i:Int)) (.i (k:Int)) y9 y10) H :=
  RunsTo.hin N 60 [⟨7,2,.bool false,H⟩] fun kf hk=>⟨_,by kernel_rfl,(oB H (decide_eq_false g0) .nil)⟩
theorem pi_g_0 (N:Nat) (db n:Nat) (cap:Option Nat) (H:Heap) (x:Nat) (a:Nat) (b:Nat) (i:Nat) (k:Nat) {y9 y10:HV}(g0:IntKind.i64.wrap ((b:Int) - (a:Int)) < 50):RT polSo 77 (sub [1,1,0,1,0,0,1,0,0,1,1,0] B77) (env77 (.c db n cap) (.i (a:Int)) (.i (b:Int)) (.bool false) (.i (i:Int)) (.i (k:Int)) y9 y10) H .ret (env77 (.c db n cap) (.i (a:Int)) (.i (b:Int)) (.bool false) (.i (i:Int)) (.i (k:Int)) y9 y10) H :=
  RunsTo.hin N 60 [⟨9,3,.bool true,H⟩] fun kf hk=>⟨_,by kernel_rfl,(oB H (decide_eq_true g0) .nil)⟩
theorem pi_g_1 (N:Nat) (db n:Nat) (cap:Option Nat) (H:Heap) (x:Nat) (a:Nat) (b:Nat) (i:Nat) (k:Nat) {y9 y10:HV}(g0:¬ (IntKind.i64.wrap ((b:Int) - (a:Int)) < 50)):RT polSo 77 (sub [1,1,0,1,0,0,1,0,0,1,1,0] B77) (env77 (.c db n cap) (.i (a:Int)) (.i (b:Int)) (.bool false) (.i (i:Int)) (.i (k:Int)) y9 y10) H .normal (env77 (.c db n cap) (.i (a:Int)) (.i (b:Int)) (.bool false) (.i (i:Int)) (.i (k:Int)) y9 y10) H :=
  RunsTo.hin N 60 [⟨9,3,.bool false,H⟩] fun kf hk=>⟨_,by kernel_rfl,(oB H (decide_eq_false g0) .nil)⟩
theorem pi_h_0 (N:Nat) (db n:Nat) (cap:Option Nat) (H:Heap) (x:Nat) (a:Nat) (b:Nat) (i:Nat) (k:Nat) {y9 y10:HV} {a0:HV} {v0:HV} {a1:HV} {v1:HV} {a2:HV} {H0:Heap} {a3:HV} {H1:Heap} (g0:idxV Tp 22 (.c db n cap) (.i (IntKind.i64.wrap ((i:Int) - 1)))=some (a0)) (g1:loadV Tp H 3 (a0)=some (v0)) (g2:idxV Tp 22 (.c db n cap) (.i (i:Int))=some (a1)) (g3:loadV Tp H 3 (a1)=some (v1)) (g4:idxV Tp 22 (.c db n cap) (.i (i:Int))=some (a2)) (g5:storeV Tp H 3 (a2) (v0)=some H0) (g6:idxV Tp 22 (.c db n cap) (.i (IntKind.i64.wrap ((i:Int) - 1)))=some (a3)) (g7:storeV Tp H0 3 (a3) (v1)=some H1):RT polSo 77 (sub [1,1,0,1,0,0,1,0,0,1,1,1,0] B77) (env77 (.c db n cap) (.i (a:Int)) (.i (b:Int)) (.bool false) (.i (i:Int)) (.i (k:Int)) y9 y10) H .normal (env77 (.c db n cap) (.i (a:Int)) (.i (b:Int)) (.bool false) (.i (i:Int)) (.i (k:Int)) y9 y10) H1 :=
  RunsTo.hin N 60 [⟨11,8,a0,H⟩,⟨11,9,v0,H⟩,⟨11,12,a1,H⟩,⟨11,13,v1,H⟩,⟨11,14,a2,H⟩,⟨11,15,.tuple [],H0⟩,⟨11,16,a3,H0⟩,⟨11,17,.tuple [],H1⟩] fun kf hk=>⟨_,by kernel_rfl,(oP H g0 (oP H g1 (oP H g2 (oP H g3 (oP H g4 (oS g5 (oP H0 g6 (oS g7 .nil))))))))⟩
theorem pi_i_0 (N:Nat) (db n:Nat) (cap:Option Nat) (H:Heap) (x:Nat) (a:Nat) (b:Nat) (i:Nat) (k:Nat) {y9 y10:HV}(g0:2 ≤ IntKind.i64.wrap ((i:Int) - (a:Int))):RunsTo Tp polSo 77 (sub [1,1,0,1,0,0,1,0,0,1,1,1,1,0,0] B77) (env77 (.c db n cap) (.i (a:Int)) (.i (b:Int)) (.bool false) (.i (i:Int)) (.i (k:Int)) y9 y10) H .normal [0,1,2,6,7,8,9,10,61] [(0,.c db n cap),(1,.i (a:Int)),(2,.i (b:Int)),(6,.bool false),(7,.i (i:Int)),(8,.i (k:Int)),(9,y9),(10,y10),(61,.bool true)] H :=
  RunsTo.hin N 60 [⟨12,3,.bool true,H⟩] fun kf hk=>⟨_,by kernel_rfl,(oB H (decide_eq_true g0) .nil)⟩
theorem pi_i_1 (N:Nat) (db n:Nat) (cap:Option Nat) (H:Heap) (x:Nat) (a:Nat) (b:Nat) (i:Nat) (k:Nat) {y9 y10:HV}(g0:¬ (2 ≤ IntKind.i64.wrap ((i:Int) - (a:Int)))):RunsTo Tp polSo 77 (sub [1,1,0,1,0,0,1,0,0,1,1,1,1,0,0] B77) (env77 (.c db n cap) (.i (a:Int)) (.i (b:Int)) (.bool false) (.i (i:Int)) (.i (k:Int)) y9 y10) H .normal [0,1,2,6,7,8,9,10,61] [(0,.c db n cap),(1,.i (a:Int)),(2,.i (b:Int)),(6,.bool false),(7,.i (i:Int)),(8,.i (k:Int)),(9,y9),(10,y10),(61,.bool false)] H :=
  RunsTo.hin N 60 [⟨12,3,.bool false,H⟩] fun kf hk=>⟨_,by kernel_rfl,(oB H (decide_eq_false g0) .nil)⟩
theorem pi_j_0 (N:Nat) (db n:Nat) (cap:Option Nat) (H:Heap) (x:Nat) (a:Nat) (b:Nat) (i:Nat) (k:Nat) {y9 y10:HV}:RT polSo 77 (sub [1,1,0,1,0,0,1,0,0,1,1,1,1,0,1,0,0] B77) (env77 (.c db n cap) (.i (a:Int)) (.i (b:Int)) (.bool false) (.i (i:Int)) (.i (k:Int)) y9 y10) H .normal (env77 (.c db n cap) (.i (a:Int)) (.i (b:Int)) (.bool false) (.i (i:Int)) (.i (k:Int)) (.i (IntKind.i64.wrap ((i:Int) - 1))) y10) H :=
  RunsTo.hin N 60 [] fun kf hk=>⟨_,by kernel_rfl,.nil⟩
theorem pi_k_0 (N:Nat) (db n:Nat) (cap:Option Nat) (H:Heap) (x:Nat) (a:Nat) (b:Nat) (i:Nat) (k:Nat) (j:Nat) {y10:HV} {a0:HV} {v0:HV} {a1:HV} {v1:HV} {H0:Heap} {a2:HV} {v2:HV} {a3:HV} {v3:HV} {a4:HV} {H1:Heap} {a5:HV} {H2:Heap} (g0:1 ≤ (j:Int)) (g1:idxV Tp 22 (.c db n cap) (.i (j:Int))=some (a0)) (g2:loadV Tp H 3 (a0)=some (v0)) (g3:idxV Tp 22 (.c db n cap) (.i (IntKind.i64.wrap ((j:Int) - 1)))=some (a1)) (g4:loadV Tp H 3 (a1)=some (v1)) (g5:∀ kf,N ≤ kf → callN Tp polSo (kf+1) 78 [v0,v1] H=some (.bool true,H0)) (g6:idxV Tp 22 (.c db n cap) (.i (IntKind.i64.wrap ((j:Int) - 1)))=some (a2)) (g7:loadV Tp H0 3 (a2)=some (v2)) (g8:idxV Tp 22 (.c db n cap) (.i (j:Int))=some (a3)) (g9:loadV Tp H0 3 (a3)=some (v3)) (g10:idxV Tp 22 (.c db n cap) (.i (j:Int))=some (a4)) (g11:storeV Tp H0 3 (a4) (v2)=some H1) (g12:idxV Tp 22 (.c db n cap) (.i (IntKind.i64.wrap ((j:Int) - 1)))=some (a5)) (g13:storeV Tp H1 3 (a5) (v3)=some H2):RT polSo 77 (sub [1,1,0,1,0,0,1,0,0,1,1,1,1,0,1,0,1,0,0] B77) (env77 (.c db n cap) (.i (a:Int)) (.i (b:Int)) (.bool false) (.i (i:Int)) (.i (k:Int)) (.i (j:Int)) y10) H .normal (env77 (.c db n cap) (.i (a:Int)) (.i (b:Int)) (.bool false) (.i (i:Int)) (.i (k:Int)) (.i (IntKind.i64.wrap ((j:Int) - 1))) y10) H2 :=
  RunsTo.hin N 60 [⟨14,1,.bool true,H⟩,⟨16,2,a0,H⟩,⟨16,3,v0,H⟩,⟨16,7,a1,H⟩,⟨16,8,v1,H⟩,⟨16,9,.bool true,H0⟩,⟨17,8,a2,H0⟩,⟨17,9,v2,H0⟩,⟨17,12,a3,H0⟩,⟨17,13,v3,H0⟩,⟨17,14,a4,H0⟩,⟨17,15,.tuple [],H1⟩,⟨17,16,a5,H1⟩,⟨17,17,.tuple [],H2⟩] fun kf hk=>⟨_,by kernel_rfl,(oB H (decide_eq_true g0) (oP H g1 (oP H g2 (oP H g3 (oP H g4 (oC (g5 kf (by omega)) (oP H0 g6 (oP H0 g7 (oP H0 g8 (oP H0 g9 (oP H0 g10 (oS g11 (oP H1 g12 (oS g13 .nil))))))))))))))⟩
theorem pi_k_1 (N:Nat) (db n:Nat) (cap:Option Nat) (H:Heap) (x:Nat) (a:Nat) (b:Nat) (i:Nat) (k:Nat) (j:Nat) {y10:HV} {a0:HV} {v0:HV} {a1:HV} {v1:HV} {H0:Heap} (g0:1 ≤ (j:Int)) (g1:idxV Tp 22 (.c db n cap) (.i (j:Int))=some (a0)) (g2:loadV Tp H 3 (a0)=some (v0)) (g3:idxV Tp 22 (.c db n cap) (.i (IntKind.i64.wrap ((j:Int) - 1)))=some (a1)) (g4:loadV Tp H 3 (a1)=some (v1)) (g5:∀ kf,N ≤ kf → callN Tp polSo (kf+1) 78 [v0,v1] H=some (.bool false,H0)):RT polSo 77 (sub [1,1,0,1,0,0,1,0,0,1,1,1,1,0,1,0,1,0,0] B77) (env77 (.c db n cap) (.i (a:Int)) (.i (b:Int)) (.bool false) (.i (i:Int)) (.i (k:Int)) (.i (j:Int)) y10) H (.exit 4) (env77 (.c db n cap) (.i (a:Int)) (.i (b:Int)) (.bool false) (.i (i:Int)) (.i (k:Int)) (.i (j:Int)) y10) H0 :=
  RunsTo.hin N 60 [⟨14,1,.bool true,H⟩,⟨16,2,a0,H⟩,⟨16,3,v0,H⟩,⟨16,7,a1,H⟩,⟨16,8,v1,H⟩,⟨16,9,.bool false,H0⟩] fun kf hk=>⟨_,by kernel_rfl,(oB H (decide_eq_true g0) (oP H g1 (oP H g2 (oP H g3 (oP H g4 (oC (g5 kf (by omega)) .nil))))))⟩
theorem pi_k_2 (N:Nat) (db n:Nat) (cap:Option Nat) (H:Heap) (x:Nat) (a:Nat) (b:Nat) (i:Nat) (k:Nat) (j:Nat) {y10:HV}(g0:¬ (1 ≤ (j:Int))):RT polSo 77 (sub [1,1,0,1,0,0,1,0,0,1,1,1,1,0,1,0,1,0,0] B77) (env77 (.c db n cap) (.i (a:Int)) (.i (b:Int)) (.bool false) (.i (i:Int)) (.i (k:Int)) (.i (j:Int)) y10) H (.exit 4) (env77 (.c db n cap) (.i (a:Int)) (.i (b:Int)) (.bool false) (.i (i:Int)) (.i (k:Int)) (.i (j:Int)) y10) H :=
  RunsTo.hin N 60 [⟨14,1,.bool false,H⟩] fun kf hk=>⟨_,by kernel_rfl,(oB H (decide_eq_false g0) .nil)⟩
theorem pi_l_0 (N:Nat) (db n:Nat) (cap:Option Nat) (H:Heap) (x:Nat) (a:Nat) (b:Nat) (i:Nat) (k:Nat) {y9 y10:HV}(g0:2 ≤ IntKind.i64.wrap ((b:Int) - (i:Int))):RunsTo Tp polSo 77 (sub [1,1,0,1,0,0,1,0,0,1,1,1,1,1,0] B77) (env77 (.c db n cap) (.i (a:Int)) (.i (b:Int)) (.bool false) (.i (i:Int)) (.i (k:Int)) y9 y10) H .normal [0,1,2,6,7,8,9,10,98] [(0,.c db n cap),(1,.i (a:Int)),(2,.i (b:Int)),(6,.bool false),(7,.i (i:Int)),(8,.i (k:Int)),(9,y9),(10,y10),(98,.bool true)] H :=
  RunsTo.hin N 60 [⟨18,3,.bool true,H⟩] fun kf hk=>⟨_,by kernel_rfl,(oB H (decide_eq_true g0) .nil)⟩
theorem pi_l_1 (N:Nat) (db n:Nat) (cap:Option Nat) (H:Heap) (x:Nat) (a:Nat) (b:Nat) (i:Nat) (k:Nat) {y9 y10:HV}(g0:¬ (2 ≤ IntKind.i64.wrap ((b:Int) - (i:Int)))):RunsTo Tp polSo 77 (sub [1,1,0,1,0,0,1,0,0,1,1,1,1,1,0] B77) (env77 (.c db n cap) (.i (a:Int)) (.i (b:Int)) (.bool false) (.i (i:Int)) (.i (k:Int)) y9 y10) H .normal [0,1,2,6,7,8,9,10,98] [(0,.c db n cap),(1,.i (a:Int)),(2,.i (b:Int)),(6,.bool false),(7,.i (i:Int)),(8,.i (k:Int)),(9,y9),(10,y10),(98,.bool false)] H :=
  RunsTo.hin N 60 [⟨18,3,.bool false,H⟩] fun kf hk=>⟨_,by kernel_rfl,(oB H (decide_eq_false g0) .nil)⟩
theorem pi_m_0 (N:Nat) (db n:Nat) (cap:Option Nat) (H:Heap) (x:Nat) (a:Nat) (b:Nat) (i:Nat) (k:Nat) {y9 y10:HV}:RT polSo 77 (sub [1,1,0,1,0,0,1,0,0,1,1,1,1,1,1,0,0] B77) (env77 (.c db n cap) (.i (a:Int)) (.i (b:Int)) (.bool false) (.i (i:Int)) (.i (k:Int)) y9 y10) H .normal (env77 (.c db n cap) (.i (a:Int)) (.i (b:Int)) (.bool false) (.i (i:Int)) (.i (k:Int)) y9 (.i (IntKind.i64.wrap ((i:Int)+1)))) H :=
  RunsTo.hin N 60 [] fun kf hk=>⟨_,by kernel_rfl,.nil⟩
theorem pi_n_0 (N:Nat) (db n:Nat) (cap:Option Nat) (H:Heap) (x:Nat) (a:Nat) (b:Nat) (i:Nat) (k:Nat) (w:Nat) {y9:HV} {a0:HV} {v0:HV} {a1:HV} {v1:HV} {H0:Heap} {a2:HV} {v2:HV} {a3:HV} {v3:HV} {a4:HV} {H1:Heap} {a5:HV} {H2:Heap} (g0:(w:Int) < (b:Int)) (g1:idxV Tp 22 (.c db n cap) (.i (w:Int))=some (a0)) (g2:loadV Tp H 3 (a0)=some (v0)) (g3:idxV Tp 22 (.c db n cap) (.i (IntKind.i64.wrap ((w:Int) - 1)))=some (a1)) (g4:loadV Tp H 3 (a1)=some (v1)) (g5:∀ kf,N ≤ kf → callN Tp polSo (kf+1) 78 [v0,v1] H=some (.bool true,H0)) (g6:idxV Tp 22 (.c db n cap) (.i (IntKind.i64.wrap ((w:Int) - 1)))=some (a2)) (g7:loadV Tp H0 3 (a2)=some (v2)) (g8:idxV Tp 22 (.c db n cap) (.i (w:Int))=some (a3)) (g9:loadV Tp H0 3 (a3)=some (v3)) (g10:idxV Tp 22 (.c db n cap) (.i (w:Int))=some (a4)) (g11:storeV Tp H0 3 (a4) (v2)=some H1) (g12:idxV Tp 22 (.c db n cap) (.i (IntKind.i64.wrap ((w:Int) - 1)))=some (a5)) (g13:storeV Tp H1 3 (a5) (v3)=some H2):RT polSo 77 (sub [1,1,0,1,0,0,1,0,0,1,1,1,1,1,1,0,1,0,0] B77) (env77 (.c db n cap) (.i (a:Int)) (.i (b:Int)) (.bool false) (.i (i:Int)) (.i (k:Int)) y9 (.i (w:Int))) H .normal (env77 (.c db n cap) (.i (a:Int)) (.i (b:Int)) (.bool false) (.i (i:Int)) (.i (k:Int)) y9 (.i (IntKind.i64.wrap ((w:Int)+1)))) H2 :=
  RunsTo.hin N 60 [⟨20,2,.bool true,H⟩,⟨22,2,a0,H⟩,⟨22,3,v0,H⟩,⟨22,7,a1,H⟩,⟨22,8,v1,H⟩,⟨22,9,.bool true,H0⟩,⟨23,8,a2,H0⟩,⟨23,9,v2,H0⟩,⟨23,12,a3,H0⟩,⟨23,13,v3,H0⟩,⟨23,14,a4,H0⟩,⟨23,15,.tuple [],H1⟩,⟨23,16,a5,H1⟩,⟨23,17,.tuple [],H2⟩] fun kf hk=>⟨_,by kernel_rfl,(oB H (decide_eq_true g0) (oP H g1 (oP H g2 (oP H g3 (oP H g4 (oC (g5 kf (by omega)) (oP H0 g6 (oP H0 g7 (oP H0 g8 (oP H0 g9 (oP H0 g10 (oS g11 (oP H1 g12 (oS g13 .nil))))))))))))))⟩
theorem pi_n_1 (N:Nat) (db n:Nat) (cap:Option Nat) (H:Heap) (x:Nat) (a:Nat) (b:Nat) (i:Nat) (k:Nat) (w:Nat) {y9:HV} {a0:HV} {v0:HV} {a1:HV} {v1:HV} {H0:Heap} (g0:(w:Int) < (b:Int)) (g1:idxV Tp 22 (.c db n cap) (.i (w:Int))=some (a0)) (g2:loadV Tp H 3 (a0)=some (v0)) (g3:idxV Tp 22 (.c db n cap) (.i (IntKind.i64.wrap ((w:Int) - 1)))=some (a1)) (g4:loadV Tp H 3 (a1)=some (v1)) (g5:∀ kf,N ≤ kf → callN Tp polSo (kf+1) 78 [v0,v1] H=some (.bool false,H0)):RT polSo 77 (sub [1,1,0,1,0,0,1,0,0,1,1,1,1,1,1,0,1,0,0] B77) (env77 (.c db n cap) (.i (a:Int)) (.i (b:Int)) (.bool false) (.i (i:Int)) (.i (k:Int)) y9 (.i (w:Int))) H (.exit 6) (env77 (.c db n cap) (.i (a:Int)) (.i (b:Int)) (.bool false) (.i (i:Int)) (.i (k:Int)) y9 (.i (w:Int))) H0 :=
  RunsTo.hin N 60 [⟨20,2,.bool true,H⟩,⟨22,2,a0,H⟩,⟨22,3,v0,H⟩,⟨22,7,a1,H⟩,⟨22,8,v1,H⟩,⟨22,9,.bool false,H0⟩] fun kf hk=>⟨_,by kernel_rfl,(oB H (decide_eq_true g0) (oP H g1 (oP H g2 (oP H g3 (oP H g4 (oC (g5 kf (by omega)) .nil))))))⟩
theorem pi_n_2 (N:Nat) (db n:Nat) (cap:Option Nat) (H:Heap) (x:Nat) (a:Nat) (b:Nat) (i:Nat) (k:Nat) (w:Nat) {y9:HV}(g0:¬ ((w:Int) < (b:Int))):RT polSo 77 (sub [1,1,0,1,0,0,1,0,0,1,1,1,1,1,1,0,1,0,0] B77) (env77 (.c db n cap) (.i (a:Int)) (.i (b:Int)) (.bool false) (.i (i:Int)) (.i (k:Int)) y9 (.i (w:Int))) H (.exit 6) (env77 (.c db n cap) (.i (a:Int)) (.i (b:Int)) (.bool false) (.i (i:Int)) (.i (k:Int)) y9 (.i (w:Int))) H :=
  RunsTo.hin N 60 [⟨20,2,.bool false,H⟩] fun kf hk=>⟨_,by kernel_rfl,(oB H (decide_eq_false g0) .nil)⟩
theorem pi_o_0 (N:Nat) (db n:Nat) (cap:Option Nat) (H:Heap) (x:Nat) (a:Nat) (b:Nat) (i:Nat) (k:Nat) {y9 y10:HV}:RT polSo 77 (sub [1,1,0,1,0,0,1,1] B77) (env77 (.c db n cap) (.i (a:Int)) (.i (b:Int)) (.bool false) (.i (i:Int)) (.i (k:Int)) y9 y10) H .normal (env77 (.c db n cap) (.i (a:Int)) (.i (b:Int)) (.bool false) (.i (i:Int)) (.i (IntKind.i64.wrap ((k:Int)+1))) y9 y10) H :=
  RunsTo.hin N 60 [] fun kf hk=>⟨_,by kernel_rfl,.nil⟩
theorem pi_p_0 (N:Nat) (db n:Nat) (cap:Option Nat) (H:Heap) (x:Nat) (a:Nat) (b:Nat) (i:Nat) (k:Nat) {y9 y10:HV}:RT polSo 77 (sub [1,1,1] B77) (env77 (.c db n cap) (.i (a:Int)) (.i (b:Int)) (.bool false) (.i (i:Int)) (.i (k:Int)) y9 y10) H .ret (env77 (.c db n cap) (.i (a:Int)) (.i (b:Int)) (.bool false) (.i (i:Int)) (.i (k:Int)) y9 y10) H :=
  RunsTo.hin N 60 [] fun kf hk=>⟨_,by kernel_rfl,.nil⟩
end Go.Proofs.Ytaibmipamkaljaa
end
section
open Go Go.HL Go.HL.So Classical
namespace Go.Proofs.Ytaibmipamkaljaa
set_option linter.unusedSectionVars false
open Go.Proofs.Try renaming prog → Tp
open Go.HL.HV renaming undef → Ud
section
variable {α:Type} [Inhabited α] {enc:α → HV} {lt:α → α → Prop} {dom:α → Prop} {H:Heap} {db n:Nat} {cap:Option Nat}
theorem pt1 (S:So enc lt dom H db n) {T:Heap} (hT:mxs T=0) {a b p j:Nat} {l:List α} (hl:l.length=n) (hD:Dm dom l):∀ (d i:Nat),j+1 - i ≤ d → a < i → i ≤ j+1 → j < n →
    ∃ i':Nat,RT polSo 80 (sub [1,1,1,0,0] B80) (env80 (.sl db 0 n cap n 1) (.int .i64 (a:Int)) (.int .i64 (b:Int)) (.int .i64 (p:Int)) (.int .i64 0) (.bool false) (.int .i64 (i:Int)) (.int .i64 (j:Int))) (Mm enc H db l T) (.exit 0) (env80 (.sl db 0 n cap n 1) (.int .i64 (a:Int)) (.int .i64 (b:Int)) (.int .i64 (p:Int)) (.int .i64 0) (.bool false) (.int .i64 (i':Int)) (.int .i64 (j:Int))) (Mm enc H db l T)∧i ≤ i'∧i' ≤ j+1∧(∀ k:Nat,i ≤ k → k < i' → lt (at_ l k) (at_ l a))∧(j < i' ∨ ¬ lt (at_ l i') (at_ l a)):=by
  have hn:=S.nb
  intro d
  induction d with
  | zero =>
    intro i hd hi1 hi2 hj
    exact ⟨i,lpo (pz_d_2 0 db n cap (Mm enc H db l T) 0 a b p i j (by omega)),Nat.le_refl _,by omega,fun k h1 h2=>by omega,.inl (by omega)⟩
  | succ d ih =>
    intro i hd hi1 hi2 hj
    by_cases c0:i ≤ j
    · by_cases c:lt (at_ l i) (at_ l a)
      · obtain ⟨N,hN⟩:=S.ct (T:=T) hl hT (hD.at (i:=i) (by omega)) (hD.at (i:=a) (by omega)) c
        have st:=pz_d_0 N db n cap (Mm enc H db l T) 0 a b p i j (by omega) (ixs (i:=i) rfl (by omega)) (S.ld l T i hl (by omega)) (ixs (i:=a) rfl (by omega)) (S.ld l T a hl (by omega)) hN
        rw [wrap_succ (by omega)] at st
        obtain ⟨i',r,q1,q2,q3,q4⟩:=ih (i+1) (by omega) (by omega) (by omega) hj
        exact ⟨i',lop (st) (gcM _ _ _ _ _ rfl) (r),by omega,q2,fun k h1 h2=>by
          by_cases e:k=i
          · subst e; exact c
          · exact q3 k (by omega) h2,q4⟩
      · have c':¬ lt (at_ l i) (at_ l a):=c
        obtain ⟨N,hN⟩:=S.cf (T:=T) hl hT (hD.at (i:=i) (by omega)) (hD.at (i:=a) (by omega)) c'
        have st:=pz_d_1 N db n cap (Mm enc H db l T) 0 a b p i j (by omega) (ixs (i:=i) rfl (by omega)) (S.ld l T i hl (by omega)) (ixs (i:=a) rfl (by omega)) (S.ld l T a hl (by omega)) hN
        exact ⟨i,lpo (st),Nat.le_refl _,by omega,fun k h1 h2=>by omega,Or.inr c'⟩
    · exact ⟨i,lpo (pz_d_2 0 db n cap (Mm enc H db l T) 0 a b p i j (by omega)),Nat.le_refl _,by omega,fun k h1 h2=>by omega,.inl (by omega)⟩
theorem pt2 (S:So enc lt dom H db n) {T:Heap} (hT:mxs T=0) {a b p i:Nat} {l:List α} (hl:l.length=n) (hD:Dm dom l):∀ (d j:Nat),j+1 - i ≤ d → a < i → i ≤ j+1 → j < n →
    ∃ j':Nat,RT polSo 80 (sub [1,1,1,1,0,0] B80) (env80 (.sl db 0 n cap n 1) (.int .i64 (a:Int)) (.int .i64 (b:Int)) (.int .i64 (p:Int)) (.int .i64 0) (.bool false) (.int .i64 (i:Int)) (.int .i64 (j:Int))) (Mm enc H db l T) (.exit 2) (env80 (.sl db 0 n cap n 1) (.int .i64 (a:Int)) (.int .i64 (b:Int)) (.int .i64 (p:Int)) (.int .i64 0) (.bool false) (.int .i64 (i:Int)) (.int .i64 (j':Int))) (Mm enc H db l T)∧j' ≤ j∧i ≤ j'+1∧(∀ k:Nat,j' < k → k ≤ j → ¬ lt (at_ l k) (at_ l a))∧(j' < i ∨ lt (at_ l j') (at_ l a)):=by
  have hn:=S.nb
  intro d
  induction d with
  | zero =>
    intro j hd hi1 hi2 hj
    exact ⟨j,lpo (pz_e_2 0 db n cap (Mm enc H db l T) 0 a b p i j (by omega)),Nat.le_refl _,by omega,fun k h1 h2=>by omega,.inl (by omega)⟩
  | succ d ih =>
    intro j hd hi1 hi2 hj
    by_cases c0:i ≤ j
    · by_cases c:¬ lt (at_ l j) (at_ l a)
      · obtain ⟨N,hN⟩:=S.cf (T:=T) hl hT (hD.at (i:=j) (by omega)) (hD.at (i:=a) (by omega)) c
        have st:=pz_e_1 N db n cap (Mm enc H db l T) 0 a b p i j (by omega) (ixs (i:=j) rfl (by omega)) (S.ld l T j hl (by omega)) (ixs (i:=a) rfl (by omega)) (S.ld l T a hl (by omega)) hN
        rw [wrap_pred (by omega) (by omega)] at st
        obtain ⟨j',r,q1,q2,q3,q4⟩:=ih (j - 1) (by omega) hi1 (by omega) (by omega)
        exact ⟨j',lop (st) (gcM _ _ _ _ _ rfl) (r),by omega,q2,fun k h1 h2=>by
          by_cases e:k=j
          · subst e; exact c
          · exact q3 k h1 (by omega),q4⟩
      · have c':lt (at_ l j) (at_ l a):=Classical.not_not.1 c
        obtain ⟨N,hN⟩:=S.ct (T:=T) hl hT (hD.at (i:=j) (by omega)) (hD.at (i:=a) (by omega)) c'
        have st:=pz_e_0 N db n cap (Mm enc H db l T) 0 a b p i j (by omega) (ixs (i:=j) rfl (by omega)) (S.ld l T j hl (by omega)) (ixs (i:=a) rfl (by omega)) (S.ld l T a hl (by omega)) hN
        exact ⟨j,lpo (st),Nat.le_refl _,by omega,fun k h1 h2=>by omega,Or.inr c'⟩
    · exact ⟨j,lpo (pz_e_2 0 db n cap (Mm enc H db l T) 0 a b p i j (by omega)),Nat.le_refl _,by omega,fun k h1 h2=>by omega,.inl (by omega)⟩
theorem pt3 (S:So enc lt dom H db n) {T:Heap} (hT:mxs T=0) {a b p j:Nat} {l:List α} (hl:l.length=n) (hD:Dm dom l):∀ (d i:Nat),j+1 - i ≤ d → a < i → i ≤ j+1 → j < n →
    ∃ i':Nat,RT polSo 80 (sub [1,1,1,1,1,1,1,1,1,0,0,0,0,0,0] B80) (env80 (.sl db 0 n cap n 1) (.int .i64 (a:Int)) (.int .i64 (b:Int)) (.int .i64 (p:Int)) (.int .i64 0) (.bool false) (.int .i64 (i:Int)) (.int .i64 (j:Int))) (Mm enc H db l T) (.exit 6) (env80 (.sl db 0 n cap n 1) (.int .i64 (a:Int)) (.int .i64 (b:Int)) (.int .i64 (p:Int)) (.int .i64 0) (.bool false) (.int .i64 (i':Int)) (.int .i64 (j:Int))) (Mm enc H db l T)∧i ≤ i'∧i' ≤ j+1∧(∀ k:Nat,i ≤ k → k < i' → lt (at_ l k) (at_ l a))∧(j < i' ∨ ¬ lt (at_ l i') (at_ l a)):=by
  have hn:=S.nb
  intro d
  induction d with
  | zero =>
    intro i hd hi1 hi2 hj
    exact ⟨i,lpo (pz_j_2 0 db n cap (Mm enc H db l T) 0 a b p i j (by omega)),Nat.le_refl _,by omega,fun k h1 h2=>by omega,.inl (by omega)⟩
  | succ d ih =>
    intro i hd hi1 hi2 hj
    by_cases c0:i ≤ j
    · by_cases c:lt (at_ l i) (at_ l a)
      · obtain ⟨N,hN⟩:=S.ct (T:=T) hl hT (hD.at (i:=i) (by omega)) (hD.at (i:=a) (by omega)) c
        have st:=pz_j_0 N db n cap (Mm enc H db l T) 0 a b p i j (by omega) (ixs (i:=i) rfl (by omega)) (S.ld l T i hl (by omega)) (ixs (i:=a) rfl (by omega)) (S.ld l T a hl (by omega)) hN
        rw [wrap_succ (by omega)] at st
        obtain ⟨i',r,q1,q2,q3,q4⟩:=ih (i+1) (by omega) (by omega) (by omega) hj
        exact ⟨i',lop (st) (gcM _ _ _ _ _ rfl) (r),by omega,q2,fun k h1 h2=>by
          by_cases e:k=i
          · subst e; exact c
          · exact q3 k (by omega) h2,q4⟩
      · have c':¬ lt (at_ l i) (at_ l a):=c
        obtain ⟨N,hN⟩:=S.cf (T:=T) hl hT (hD.at (i:=i) (by omega)) (hD.at (i:=a) (by omega)) c'
        have st:=pz_j_1 N db n cap (Mm enc H db l T) 0 a b p i j (by omega) (ixs (i:=i) rfl (by omega)) (S.ld l T i hl (by omega)) (ixs (i:=a) rfl (by omega)) (S.ld l T a hl (by omega)) hN
        exact ⟨i,lpo (st),Nat.le_refl _,by omega,fun k h1 h2=>by omega,Or.inr c'⟩
    · exact ⟨i,lpo (pz_j_2 0 db n cap (Mm enc H db l T) 0 a b p i j (by omega)),Nat.le_refl _,by omega,fun k h1 h2=>by omega,.inl (by omega)⟩
theorem pt4 (S:So enc lt dom H db n) {T:Heap} (hT:mxs T=0) {a b p i:Nat} {l:List α} (hl:l.length=n) (hD:Dm dom l):∀ (d j:Nat),j+1 - i ≤ d → a < i → i ≤ j+1 → j < n →
    ∃ j':Nat,RT polSo 80 (sub [1,1,1,1,1,1,1,1,1,0,0,0,0,1,0,0] B80) (env80 (.sl db 0 n cap n 1) (.int .i64 (a:Int)) (.int .i64 (b:Int)) (.int .i64 (p:Int)) (.int .i64 0) (.bool false) (.int .i64 (i:Int)) (.int .i64 (j:Int))) (Mm enc H db l T) (.exit 8) (env80 (.sl db 0 n cap n 1) (.int .i64 (a:Int)) (.int .i64 (b:Int)) (.int .i64 (p:Int)) (.int .i64 0) (.bool false) (.int .i64 (i:Int)) (.int .i64 (j':Int))) (Mm enc H db l T)∧j' ≤ j∧i ≤ j'+1∧(∀ k:Nat,j' < k → k ≤ j → ¬ lt (at_ l k) (at_ l a))∧(j' < i ∨ lt (at_ l j') (at_ l a)):=by
  have hn:=S.nb
  intro d
  induction d with
  | zero =>
    intro j hd hi1 hi2 hj
    exact ⟨j,lpo (pz_k_2 0 db n cap (Mm enc H db l T) 0 a b p i j (by omega)),Nat.le_refl _,by omega,fun k h1 h2=>by omega,.inl (by omega)⟩
  | succ d ih =>
    intro j hd hi1 hi2 hj
    by_cases c0:i ≤ j
    · by_cases c:¬ lt (at_ l j) (at_ l a)
      · obtain ⟨N,hN⟩:=S.cf (T:=T) hl hT (hD.at (i:=j) (by omega)) (hD.at (i:=a) (by omega)) c
        have st:=pz_k_1 N db n cap (Mm enc H db l T) 0 a b p i j (by omega) (ixs (i:=j) rfl (by omega)) (S.ld l T j hl (by omega)) (ixs (i:=a) rfl (by omega)) (S.ld l T a hl (by omega)) hN
        rw [wrap_pred (by omega) (by omega)] at st
        obtain ⟨j',r,q1,q2,q3,q4⟩:=ih (j - 1) (by omega) hi1 (by omega) (by omega)
        exact ⟨j',lop (st) (gcM _ _ _ _ _ rfl) (r),by omega,q2,fun k h1 h2=>by
          by_cases e:k=j
          · subst e; exact c
          · exact q3 k h1 (by omega),q4⟩
      · have c':lt (at_ l j) (at_ l a):=Classical.not_not.1 c
        obtain ⟨N,hN⟩:=S.ct (T:=T) hl hT (hD.at (i:=j) (by omega)) (hD.at (i:=a) (by omega)) c'
        have st:=pz_k_0 N db n cap (Mm enc H db l T) 0 a b p i j (by omega) (ixs (i:=j) rfl (by omega)) (S.ld l T j hl (by omega)) (ixs (i:=a) rfl (by omega)) (S.ld l T a hl (by omega)) hN
        exact ⟨j,lpo (st),Nat.le_refl _,by omega,fun k h1 h2=>by omega,Or.inr c'⟩
    · exact ⟨j,lpo (pz_k_2 0 db n cap (Mm enc H db l T) 0 a b p i j (by omega)),Nat.le_refl _,by omega,fun k h1 h2=>by omega,.inl (by omega)⟩
theorem pe1 (S:So enc lt dom H db n) {T:Heap} (hT:mxs T=0) {a b p j:Nat} {l:List α} (hl:l.length=n) (hD:Dm dom l):∀ (d i:Nat),j+1 - i ≤ d → a < i → i ≤ j+1 → j < n →
    ∃ i':Nat,RT polSo 79 (sub [1,1,1,0,0,0,0,0,0] B79) (env79 (.sl db 0 n cap n 1) (.int .i64 (a:Int)) (.int .i64 (b:Int)) (.int .i64 (p:Int)) (.int .i64 0) (.int .i64 (i:Int)) (.int .i64 (j:Int))) (Mm enc H db l T) (.exit 2) (env79 (.sl db 0 n cap n 1) (.int .i64 (a:Int)) (.int .i64 (b:Int)) (.int .i64 (p:Int)) (.int .i64 0) (.int .i64 (i':Int)) (.int .i64 (j:Int))) (Mm enc H db l T)∧i ≤ i'∧i' ≤ j+1∧(∀ k:Nat,i ≤ k → k < i' → ¬ lt (at_ l a) (at_ l k))∧(j < i' ∨ lt (at_ l a) (at_ l i')):=by
  have hn:=S.nb
  intro d
  induction d with
  | zero =>
    intro i hd hi1 hi2 hj
    exact ⟨i,lpo (pe_d_2 0 db n cap (Mm enc H db l T) 0 a b p i j (by omega)),Nat.le_refl _,by omega,fun k h1 h2=>by omega,.inl (by omega)⟩
  | succ d ih =>
    intro i hd hi1 hi2 hj
    by_cases c0:i ≤ j
    · by_cases c:¬ lt (at_ l a) (at_ l i)
      · obtain ⟨N,hN⟩:=S.cf (T:=T) hl hT (hD.at (i:=a) (by omega)) (hD.at (i:=i) (by omega)) c
        have st:=pe_d_1 N db n cap (Mm enc H db l T) 0 a b p i j (by omega) (ixs (i:=a) rfl (by omega)) (S.ld l T a hl (by omega)) (ixs (i:=i) rfl (by omega)) (S.ld l T i hl (by omega)) hN
        rw [wrap_succ (by omega)] at st
        obtain ⟨i',r,q1,q2,q3,q4⟩:=ih (i+1) (by omega) (by omega) (by omega) hj
        exact ⟨i',lop (st) (gcM _ _ _ _ _ rfl) (r),by omega,q2,fun k h1 h2=>by
          by_cases e:k=i
          · subst e; exact c
          · exact q3 k (by omega) h2,q4⟩
      · have c':lt (at_ l a) (at_ l i):=Classical.not_not.1 c
        obtain ⟨N,hN⟩:=S.ct (T:=T) hl hT (hD.at (i:=a) (by omega)) (hD.at (i:=i) (by omega)) c'
        have st:=pe_d_0 N db n cap (Mm enc H db l T) 0 a b p i j (by omega) (ixs (i:=a) rfl (by omega)) (S.ld l T a hl (by omega)) (ixs (i:=i) rfl (by omega)) (S.ld l T i hl (by omega)) hN
        exact ⟨i,lpo (st),Nat.le_refl _,by omega,fun k h1 h2=>by omega,Or.inr c'⟩
    · exact ⟨i,lpo (pe_d_2 0 db n cap (Mm enc H db l T) 0 a b p i j (by omega)),Nat.le_refl _,by omega,fun k h1 h2=>by omega,.inl (by omega)⟩
theorem pe2 (S:So enc lt dom H db n) {T:Heap} (hT:mxs T=0) {a b p i:Nat} {l:List α} (hl:l.length=n) (hD:Dm dom l):∀ (d j:Nat),j+1 - i ≤ d → a < i → i ≤ j+1 → j < n →
    ∃ j':Nat,RT polSo 79 (sub [1,1,1,0,0,0,0,1,0,0] B79) (env79 (.sl db 0 n cap n 1) (.int .i64 (a:Int)) (.int .i64 (b:Int)) (.int .i64 (p:Int)) (.int .i64 0) (.int .i64 (i:Int)) (.int .i64 (j:Int))) (Mm enc H db l T) (.exit 4) (env79 (.sl db 0 n cap n 1) (.int .i64 (a:Int)) (.int .i64 (b:Int)) (.int .i64 (p:Int)) (.int .i64 0) (.int .i64 (i:Int)) (.int .i64 (j':Int))) (Mm enc H db l T)∧j' ≤ j∧i ≤ j'+1∧(∀ k:Nat,j' < k → k ≤ j → lt (at_ l a) (at_ l k))∧(j' < i ∨ ¬ lt (at_ l a) (at_ l j')):=by
  have hn:=S.nb
  intro d
  induction d with
  | zero =>
    intro j hd hi1 hi2 hj
    exact ⟨j,lpo (pe_e_2 0 db n cap (Mm enc H db l T) 0 a b p i j (by omega)),Nat.le_refl _,by omega,fun k h1 h2=>by omega,.inl (by omega)⟩
  | succ d ih =>
    intro j hd hi1 hi2 hj
    by_cases c0:i ≤ j
    · by_cases c:lt (at_ l a) (at_ l j)
      · obtain ⟨N,hN⟩:=S.ct (T:=T) hl hT (hD.at (i:=a) (by omega)) (hD.at (i:=j) (by omega)) c
        have st:=pe_e_0 N db n cap (Mm enc H db l T) 0 a b p i j (by omega) (ixs (i:=a) rfl (by omega)) (S.ld l T a hl (by omega)) (ixs (i:=j) rfl (by omega)) (S.ld l T j hl (by omega)) hN
        rw [wrap_pred (by omega) (by omega)] at st
        obtain ⟨j',r,q1,q2,q3,q4⟩:=ih (j - 1) (by omega) hi1 (by omega) (by omega)
        exact ⟨j',lop (st) (gcM _ _ _ _ _ rfl) (r),by omega,q2,fun k h1 h2=>by
          by_cases e:k=j
          · subst e; exact c
          · exact q3 k h1 (by omega),q4⟩
      · have c':¬ lt (at_ l a) (at_ l j):=c
        obtain ⟨N,hN⟩:=S.cf (T:=T) hl hT (hD.at (i:=a) (by omega)) (hD.at (i:=j) (by omega)) c'
        have st:=pe_e_1 N db n cap (Mm enc H db l T) 0 a b p i j (by omega) (ixs (i:=a) rfl (by omega)) (S.ld l T a hl (by omega)) (ixs (i:=j) rfl (by omega)) (S.ld l T j hl (by omega)) hN
        exact ⟨j,lpo (st),Nat.le_refl _,by omega,fun k h1 h2=>by omega,Or.inr c'⟩
    · exact ⟨j,lpo (pe_e_2 0 db n cap (Mm enc H db l T) 0 a b p i j (by omega)),Nat.le_refl _,by omega,fun k h1 h2=>by omega,.inl (by omega)⟩
theorem swp_ne {l:List α} {i j a:Nat} (hi:i < l.length) (hj:j < l.length) (h1:a ≠ i) (h2:a ≠ j):at_ (swp l i j) a=at_ l a:=by rw [swp_at hi hj,if_neg h2,if_neg h1]
def PI (lt:α → α → Prop) (a b i j:Nat) (l:List α):Prop:=(a < i∧i ≤ j+1∧a ≤ j∧j < b)∧(∀ k,a < k → k < i → lt (at_ l k) (at_ l a))∧∀ k,j < k → k < b → ¬ lt (at_ l k) (at_ l a)
theorem PI.scan {a b i j i' j':Nat} {l:List α} (h:PI lt a b i j l) (h1:i ≤ i') (h2:i' ≤ j+1) (h3:∀ k,i ≤ k → k < i' → lt (at_ l k) (at_ l a)) (h4:j' ≤ j) (h5:i' ≤ j'+1) (h6:∀ k,j' < k → k ≤ j → ¬ lt (at_ l k) (at_ l a)):PI lt a b i' j' l:=by
  obtain ⟨p1,p2,p3⟩:=h
  refine ⟨by omega,fun k q1 q2=>?_,fun k q1 q2=>?_⟩
  · by_cases c:k < i
    · exact p2 k q1 c
    · exact h3 k (by omega) q2
  · by_cases c:j < k
    · exact p3 k c q2
    · exact h6 k q1 (by omega)
theorem PI.swap {a b i j:Nat} {l:List α} (hb:b ≤ l.length) (h:PI lt a b i j l) (hij:i ≤ j) (h1:¬ lt (at_ l i) (at_ l a)) (h2:lt (at_ l j) (at_ l a)):PI lt a b (i+1) (j - 1) (swp l i j):=by
  obtain ⟨p1,p2,p3⟩:=h
  have hne:i ≠ j:=fun e=>by subst e; exact h1 h2
  have e0:at_ (swp l i j) a=at_ l a:=swp_ne (by omega) (by omega) (by omega) (by omega)
  refine ⟨by omega,fun k q1 q2=>?_,fun k q1 q2=>?_⟩
  · rw [e0,swp_at (by omega) (by omega),if_neg (by omega)]
    by_cases c:k=i
    · rw [if_pos c]; exact h2
    · rw [if_neg c]; exact p2 k q1 (by omega)
  · rw [e0,swp_at (by omega) (by omega)]
    by_cases c:k=j
    · rw [if_pos c]; exact h1
    · rw [if_neg c,if_neg (by omega)]; exact p3 k (by omega) q2
theorem PI.done {a b i j:Nat} {l:List α} (hb:b ≤ l.length) (h:PI lt a b i j l) (hij:j < i):(∀ k,a ≤ k → k < j → lt (at_ (swp l j a) k) (at_ (swp l j a) j))∧∀ k,j < k → k < b → ¬ lt (at_ (swp l j a) k) (at_ (swp l j a) j):=by
  obtain ⟨p1,p2,p3⟩:=h
  have ej:at_ (swp l j a) j=at_ l a:=by
    rw [swp_at (by omega) (by omega)]
    by_cases c:j=a
    · rw [if_pos c,c]
    · rw [if_neg c,if_pos rfl]
  refine ⟨fun k q1 q2=>?_,fun k q1 q2=>?_⟩
  · rw [ej,swp_at (by omega) (by omega)]
    by_cases c:k=a
    · rw [if_pos c]; exact p2 j (by omega) (by omega)
    · rw [if_neg c,if_neg (by omega)]; exact p2 k (by omega) (by omega)
  · rw [ej,swp_at (by omega) (by omega),if_neg (by omega),if_neg (by omega)]; exact p3 k q1 q2
theorem pz_main (S:So enc lt dom H db n) {T:Heap} (hT:mxs T=0) {a b p:Nat} (hb:b ≤ n):∀ (d i j:Nat) (l:List α),j+1 - i ≤ d → l.length=n → Dm dom l → PI lt a b i j l →
    ∃ (i' j':Nat) (l':List α),RT polSo 80 (sub [1,1,1,1,1,1,1,1,1,0,0] B80) (env80 (.sl db 0 n cap n 1) (.int .i64 (a:Int)) (.int .i64 (b:Int)) (.int .i64 (p:Int)) (.int .i64 0) (.bool false) (.int .i64 (i:Int)) (.int .i64 (j:Int))) (Mm enc H db l T) (.exit 4) (env80 (.sl db 0 n cap n 1) (.int .i64 (a:Int)) (.int .i64 (b:Int)) (.int .i64 (p:Int)) (.int .i64 0) (.bool false) (.int .i64 (i':Int)) (.int .i64 (j':Int))) (Mm enc H db l' T)∧Sw a b l l'∧PI lt a b i' j' l'∧j' < i':=by
  have hn:=S.nb
  intro d
  induction d with
  | zero =>
    intro i j l hd hl hD hI
    obtain ⟨p1,p2,p3⟩:=id hI
    obtain ⟨i',r1,q1,q2,q3,q4⟩:=pt3 S (cap:=cap) (a:=a) (b:=b) (p:=p) (j:=j) hT hl hD _ i (Nat.le_refl _) p1.1 p1.2.1 (by omega)
    obtain ⟨j',r2,q5,q6,q7,q8⟩:=pt4 S (cap:=cap) (a:=a) (b:=b) (p:=p) hT hl hD _ j (Nat.le_refl _) (i:=i') (by omega) (by omega) (by omega)
    have st:=RunsTo.block_other (i:=5) (c:=sub [1,1,1,1,1,1,1,1,1,0,0,0] B80) (sq (bke (c:=sub [1,1,1,1,1,1,1,1,1,0,0,0,0,0] B80) (r1)) (sq (bke (c:=sub [1,1,1,1,1,1,1,1,1,0,0,0,0,1,0] B80) (r2)) (pz_l_0 0 db n cap (Mm enc H db l T) 0 a b p i' j' (by omega)) (c:=sub [1,1,1,1,1,1,1,1,1,0,0,0,0,1] B80)) (c:=sub [1,1,1,1,1,1,1,1,1,0,0,0,0] B80)) (by simp) (by kernel_rfl)
    exact ⟨i',j',l,lpo (st),.refl,hI.scan q1 q2 q3 q5 q6 q7,by omega⟩
  | succ d ih =>
    intro i j l hd hl hD hI
    obtain ⟨p1,p2,p3⟩:=id hI
    obtain ⟨i',r1,q1,q2,q3,q4⟩:=pt3 S (cap:=cap) (a:=a) (b:=b) (p:=p) (j:=j) hT hl hD _ i (Nat.le_refl _) p1.1 p1.2.1 (by omega)
    obtain ⟨j',r2,q5,q6,q7,q8⟩:=pt4 S (cap:=cap) (a:=a) (b:=b) (p:=p) hT hl hD _ j (Nat.le_refl _) (i:=i') (by omega) (by omega) (by omega)
    have hI':=hI.scan q1 q2 q3 q5 q6 q7
    by_cases c:j' < i'
    · have st:=RunsTo.block_other (i:=5) (c:=sub [1,1,1,1,1,1,1,1,1,0,0,0] B80) (sq (bke (c:=sub [1,1,1,1,1,1,1,1,1,0,0,0,0,0] B80) (r1)) (sq (bke (c:=sub [1,1,1,1,1,1,1,1,1,0,0,0,0,1,0] B80) (r2)) (pz_l_0 0 db n cap (Mm enc H db l T) 0 a b p i' j' (by omega)) (c:=sub [1,1,1,1,1,1,1,1,1,0,0,0,0,1] B80)) (c:=sub [1,1,1,1,1,1,1,1,1,0,0,0,0] B80)) (by simp) (by kernel_rfl)
      exact ⟨i',j',l,lpo (st),.refl,hI',c⟩
    · have q4':=q4.resolve_left (by omega)
      have q8':=q8.resolve_left (by omega)
      obtain ⟨s1,s2⟩:=S.st2 (T:=T) hl (i:=i') (j:=j') (by omega) (by omega)
      have sl:=pz_l_1 0 db n cap (Mm enc H db l T) 0 a b p i' j' (by omega) (ixs (i:=j') rfl (by omega)) (S.ld l T _ hl (by omega)) (ixs (i:=i') rfl (by omega)) (S.ld l T _ hl (by omega)) (ixs (i:=i') rfl (by omega)) s1 (ixs (i:=j') rfl (by omega)) s2
      rw [wrap_succ (by omega),wrap_pred (by omega) (by omega)] at sl
      have st:=RunsTo.block_normal (i:=5) (c:=sub [1,1,1,1,1,1,1,1,1,0,0,0] B80) (sq (bke (c:=sub [1,1,1,1,1,1,1,1,1,0,0,0,0,0] B80) (r1)) (sq (bke (c:=sub [1,1,1,1,1,1,1,1,1,0,0,0,0,1,0] B80) (r2)) (sl) (c:=sub [1,1,1,1,1,1,1,1,1,0,0,0,0,1] B80)) (c:=sub [1,1,1,1,1,1,1,1,1,0,0,0,0] B80)) (by kernel_rfl)
      have sw:Sw a b l (swp l i' j'):=Sw.one (by omega) (by omega) (by omega) (by omega)
      obtain ⟨i2,j2,l',r,w1,w2,w3⟩:=ih (i'+1) (j' - 1) (swp l i' j') (by omega) (by rw [swp_len]; exact hl) (hD.sw sw (by omega)) (hI'.swap (by omega) (by omega) q4' q8')
      exact ⟨i2,j2,l',lop (st) (gcM _ _ _ _ _ rfl) (r),sw.trans w1,w2,w3⟩
theorem spart_ok (S:So enc lt dom H db n) {T:Heap} (hT:mxs T=0) {a b p:Nat} (hb:b ≤ n) (hp1:a ≤ p) (hp2:p < b) {l:List α} (hl:l.length=n) (hD:Dm dom l) :
    ∃ m bb l',ClS 80 [.sl db 0 n cap n 1,.int .i64 (a:Int),.int .i64 (b:Int),.int .i64 (p:Int)] (Mm enc H db l T) (.tuple [.int .i64 ((m:Nat):Int),.bool bb]) (Mm enc H db l' T)∧Sw a b l l'∧(a ≤ m∧m < b)∧(∀ k,a ≤ k → k < m → lt (at_ l' k) (at_ l' m))∧∀ k,m < k → k < b → ¬ lt (at_ l' k) (at_ l' m):=by
  have hn:=S.nb
  obtain ⟨s1,s2⟩:=S.st2 (T:=T) hl (i:=a) (j:=p) (by omega) (by omega)
  have t0:=pz_a_0 0 db n cap (Mm enc H db l T) 0 a b p
  have t1:=pz_b_0 0 db n cap (Mm enc H db l T) 0 a b p (y10:=Ud) (y11:=Ud) (ixs (i:=p) rfl (by omega)) (S.ld l T _ hl (by omega)) (ixs (i:=a) rfl (by omega)) (S.ld l T _ hl (by omega)) (ixs (i:=a) rfl (by omega)) s1 (ixs (i:=p) rfl (by omega)) s2
  have sw0:Sw a b l (swp l a p):=Sw.one (by omega) (by omega) (by omega) (by omega)
  have hl0:=sw_len sw0 hl
  have hD0:=hD.sw sw0 (by omega)
  generalize swp l a p=l0 at t1 sw0 hl0 hD0 s2
  clear s2
  have t2:=pz_c_0 0 db n cap (Mm enc H db l0 T) 0 a b p (y10:=Ud) (y11:=Ud)
  rw [wrap_succ (by omega),wrap_pred (by omega) (by omega)] at t2
  have hI0:PI lt a b (a+1) (b - 1) l0:=⟨by omega,fun k h1 h2=>by omega,fun k h1 h2=>by omega⟩
  obtain ⟨i,r1,q1,q2,q3,q4⟩:=pt1 S (cap:=cap) (a:=a) (b:=b) (p:=p) (j:=b - 1) hT hl0 hD0 _ (a+1) (Nat.le_refl _) (by omega) (by omega) (by omega)
  obtain ⟨j,r2,q5,q6,q7,q8⟩:=pt2 S (cap:=cap) (a:=a) (b:=b) (p:=p) hT hl0 hD0 _ (b - 1) (Nat.le_refl _) (i:=i) (by omega) (by omega) (by omega)
  have hI:=hI0.scan q1 q2 q3 q5 q6 q7
  have hI':=hI.1
  have fin:∀ (i j:Nat) (l1:List α) (bb:Bool) (E:Env) (H':Heap),Sw a b l l1 → PI lt a b i j l1 → j < i → H'=Mm enc H db (swp l1 j a) T → RT polSo 80 B80 (args0 [.sl db 0 n cap n 1,.int .i64 (a:Int),.int .i64 (b:Int),.int .i64 (p:Int)]) (Mm enc H db l T) .ret E H' → resultsV Tp Try.f80 E H'=some (.tuple [.int .i64 ((j:Nat):Int),.bool bb]) →
      ∃ m bb l',ClS 80 [.sl db 0 n cap n 1,.int .i64 (a:Int),.int .i64 (b:Int),.int .i64 (p:Int)] (Mm enc H db l T) (.tuple [.int .i64 ((m:Nat):Int),.bool bb]) (Mm enc H db l' T)∧Sw a b l l'∧(a ≤ m∧m < b)∧(∀ k,a ≤ k → k < m → lt (at_ l' k) (at_ l' m))∧∀ k,m < k → k < b → ¬ lt (at_ l' k) (at_ l' m):=by
    intro i j l1 bb E H' hs hI hij he t hv
    subst he
    have hI':=hI.1
    have hll:=sw_len hs hl
    have hc:=CallsTo.shared (P:=Tp) (pol:=polSo) (g:=80) (fn:=Try.f80) (cd:=B80) (args:=[.sl db 0 n cap n 1,.int .i64 (a:Int),.int .i64 (b:Int),.int .i64 (p:Int)]) (by kernel_rfl) (by kernel_rfl) (by kernel_rfl) (by kernel_rfl) t (by kernel_rfl) (by simp) hv
    rw [gcM _ _ _ _ _ rfl] at hc
    obtain ⟨w1,w2⟩:=hI.done (by omega) hij
    exact ⟨j,bb,_,hc,hs.step (by omega) (by omega) (Nat.le_refl _) (by omega),by omega,w1,w2⟩
  by_cases c:j < i
  · obtain ⟨s3,s4⟩:=S.st2 (T:=T) hl0 (i:=j) (j:=a) (by omega) (by omega)
    have t3:=pz_f_0 0 db n cap (Mm enc H db l0 T) 0 a b p i j (by omega) (ixs (i:=a) rfl (by omega)) (S.ld l0 T _ hl0 (by omega)) (ixs (i:=j) rfl (by omega)) (S.ld l0 T _ hl0 (by omega)) (ixs (i:=j) rfl (by omega)) s3 (ixs (i:=a) rfl (by omega)) s4
    have t:=sq (t0) (sq (t1) (sq (t2) (sq (bke (c:=sub [1,1,1,0] B80) (r1)) (sq (bke (c:=sub [1,1,1,1,0] B80) (r2)) (sqo (t3) (c:=sub [1,1,1,1,1] B80) (b:=sub [1,1,1,1,1,1] B80)) (c:=sub [1,1,1,1] B80)) (c:=sub [1,1,1] B80)) (c:=sub [1,1] B80)) (c:=sub [1] B80)) (c:=B80)
    exact fin i j l0 true _ _ sw0 hI c rfl t (by kernel_rfl)
  · have q4':=q4.resolve_left (by omega)
    have q8':=q8.resolve_left (by omega)
    obtain ⟨s3,s4⟩:=S.st2 (T:=T) hl0 (i:=i) (j:=j) (by omega) (by omega)
    have t3:=pz_f_1 0 db n cap (Mm enc H db l0 T) 0 a b p i j (by omega)
    have t4:=pz_g_0 0 db n cap (Mm enc H db l0 T) 0 a b p i j (ixs (i:=j) rfl (by omega)) (S.ld l0 T _ hl0 (by omega)) (ixs (i:=i) rfl (by omega)) (S.ld l0 T _ hl0 (by omega)) (ixs (i:=i) rfl (by omega)) s3 (ixs (i:=j) rfl (by omega)) s4
    have sw1:Sw a b l0 (swp l0 i j):=Sw.one (by omega) (by omega) (by omega) (by omega)
    have hl1:=sw_len sw1 hl0
    have hD1:=hD0.sw sw1 (by omega)
    have hI1:=hI.swap (by omega) (by omega) q4' q8'
    generalize swp l0 i j=l1 at t4 sw1 hl1 hD1 hI1 s4
    clear s4
    have t5:=pz_h_0 0 db n cap (Mm enc H db l1 T) 0 a b p i j
    rw [wrap_succ (by omega)] at t5
    have t6:=pz_i_0 0 db n cap (Mm enc H db l1 T) 0 a b p (i+1) j
    rw [wrap_pred (by omega) (by omega)] at t6
    obtain ⟨i2,j2,l2,r3,w1,w2,w3⟩:=pz_main S (cap:=cap) (p:=p) hT hb _ (i+1) (j - 1) l1 (Nat.le_refl _) hl1 hD1 hI1
    have w2':=w2.1
    have hl2:=sw_len w1 hl1
    obtain ⟨s5,s6⟩:=S.st2 (T:=T) hl2 (i:=j2) (j:=a) (by omega) (by omega)
    have t7:=pz_m_0 0 db n cap (Mm enc H db l2 T) 0 a b p i2 j2 (ixs (i:=a) rfl (by omega)) (S.ld l2 T _ hl2 (by omega)) (ixs (i:=j2) rfl (by omega)) (S.ld l2 T _ hl2 (by omega)) (ixs (i:=j2) rfl (by omega)) s5 (ixs (i:=a) rfl (by omega)) s6
    have t:=sq (t0) (sq (t1) (sq (t2) (sq (bke (c:=sub [1,1,1,0] B80) (r1)) (sq (bke (c:=sub [1,1,1,1,0] B80) (r2)) (sq (t3) (sq (t4) (sq (t5) (sq (t6) (sq (bke (c:=sub [1,1,1,1,1,1,1,1,1,0] B80) (r3)) (t7) (c:=sub [1,1,1,1,1,1,1,1,1] B80)) (c:=sub [1,1,1,1,1,1,1,1] B80)) (c:=sub [1,1,1,1,1,1,1] B80)) (c:=sub [1,1,1,1,1,1] B80)) (c:=sub [1,1,1,1,1] B80)) (c:=sub [1,1,1,1] B80)) (c:=sub [1,1,1] B80)) (c:=sub [1,1] B80)) (c:=sub [1] B80)) (c:=B80)
    exact fin i2 j2 l2 false _ _ (sw0.trans (sw1.trans w1)) w2 w3 rfl t (by kernel_rfl)
def PE (lt:α → α → Prop) (a b i j:Nat) (l:List α):Prop:=(a < i∧i ≤ j+1∧a ≤ j∧j < b)∧(∀ k,a < k → k < i → ¬ lt (at_ l a) (at_ l k))∧∀ k,j < k → k < b → lt (at_ l a) (at_ l k)
theorem PE.scan {a b i j i' j':Nat} {l:List α} (h:PE lt a b i j l) (h1:i ≤ i') (h2:i' ≤ j+1) (h3:∀ k,i ≤ k → k < i' → ¬ lt (at_ l a) (at_ l k)) (h4:j' ≤ j) (h5:i' ≤ j'+1) (h6:∀ k,j' < k → k ≤ j → lt (at_ l a) (at_ l k)):PE lt a b i' j' l:=by
  obtain ⟨p1,p2,p3⟩:=h
  refine ⟨by omega,fun k q1 q2=>?_,fun k q1 q2=>?_⟩
  · by_cases c:k < i
    · exact p2 k q1 c
    · exact h3 k (by omega) q2
  · by_cases c:j < k
    · exact p3 k c q2
    · exact h6 k q1 (by omega)
theorem PE.swap {a b i j:Nat} {l:List α} (hb:b ≤ l.length) (h:PE lt a b i j l) (hij:i ≤ j) (h1:lt (at_ l a) (at_ l i)) (h2:¬ lt (at_ l a) (at_ l j)):PE lt a b (i+1) (j - 1) (swp l i j):=by
  obtain ⟨p1,p2,p3⟩:=h
  have hne:i ≠ j:=fun e=>by subst e; exact h2 h1
  have e0:at_ (swp l i j) a=at_ l a:=swp_ne (by omega) (by omega) (by omega) (by omega)
  refine ⟨by omega,fun k q1 q2=>?_,fun k q1 q2=>?_⟩
  · rw [e0,swp_at (by omega) (by omega),if_neg (by omega)]
    by_cases c:k=i
    · rw [if_pos c]; exact h2
    · rw [if_neg c]; exact p2 k q1 (by omega)
  · rw [e0,swp_at (by omega) (by omega)]
    by_cases c:k=j
    · rw [if_pos c]; exact h1
    · rw [if_neg c,if_neg (by omega)]; exact p3 k (by omega) q2
theorem pe_main (S:So enc lt dom H db n) {T:Heap} (hT:mxs T=0) {a b p:Nat} (hb:b ≤ n):∀ (d i j:Nat) (l:List α),j+1 - i ≤ d → l.length=n → Dm dom l → PE lt a b i j l →
    ∃ (i' j':Nat) (l':List α),RT polSo 79 (sub [1,1,1,0,0] B79) (env79 (.sl db 0 n cap n 1) (.int .i64 (a:Int)) (.int .i64 (b:Int)) (.int .i64 (p:Int)) (.int .i64 0) (.int .i64 (i:Int)) (.int .i64 (j:Int))) (Mm enc H db l T) (.exit 0) (env79 (.sl db 0 n cap n 1) (.int .i64 (a:Int)) (.int .i64 (b:Int)) (.int .i64 (p:Int)) (.int .i64 0) (.int .i64 (i':Int)) (.int .i64 (j':Int))) (Mm enc H db l' T)∧Sw a b l l'∧at_ l' a=at_ l a∧PE lt a b i' j' l'∧j' < i':=by
  have hn:=S.nb
  intro d
  induction d with
  | zero =>
    intro i j l hd hl hD hI
    obtain ⟨p1,p2,p3⟩:=id hI
    obtain ⟨i',r1,q1,q2,q3,q4⟩:=pe1 S (cap:=cap) (a:=a) (b:=b) (p:=p) (j:=j) hT hl hD _ i (Nat.le_refl _) p1.1 p1.2.1 (by omega)
    obtain ⟨j',r2,q5,q6,q7,q8⟩:=pe2 S (cap:=cap) (a:=a) (b:=b) (p:=p) hT hl hD _ j (Nat.le_refl _) (i:=i') (by omega) (by omega) (by omega)
    have st:=RunsTo.block_other (i:=1) (c:=sub [1,1,1,0,0,0] B79) (sq (bke (c:=sub [1,1,1,0,0,0,0,0] B79) (r1)) (sq (bke (c:=sub [1,1,1,0,0,0,0,1,0] B79) (r2)) (pe_f_0 0 db n cap (Mm enc H db l T) 0 a b p i' j' (by omega)) (c:=sub [1,1,1,0,0,0,0,1] B79)) (c:=sub [1,1,1,0,0,0,0] B79)) (by simp) (by kernel_rfl)
    exact ⟨i',j',l,lpo (st),.refl,rfl,hI.scan q1 q2 q3 q5 q6 q7,by omega⟩
  | succ d ih =>
    intro i j l hd hl hD hI
    obtain ⟨p1,p2,p3⟩:=id hI
    obtain ⟨i',r1,q1,q2,q3,q4⟩:=pe1 S (cap:=cap) (a:=a) (b:=b) (p:=p) (j:=j) hT hl hD _ i (Nat.le_refl _) p1.1 p1.2.1 (by omega)
    obtain ⟨j',r2,q5,q6,q7,q8⟩:=pe2 S (cap:=cap) (a:=a) (b:=b) (p:=p) hT hl hD _ j (Nat.le_refl _) (i:=i') (by omega) (by omega) (by omega)
    have hI':=hI.scan q1 q2 q3 q5 q6 q7
    by_cases c:j' < i'
    · have st:=RunsTo.block_other (i:=1) (c:=sub [1,1,1,0,0,0] B79) (sq (bke (c:=sub [1,1,1,0,0,0,0,0] B79) (r1)) (sq (bke (c:=sub [1,1,1,0,0,0,0,1,0] B79) (r2)) (pe_f_0 0 db n cap (Mm enc H db l T) 0 a b p i' j' (by omega)) (c:=sub [1,1,1,0,0,0,0,1] B79)) (c:=sub [1,1,1,0,0,0,0] B79)) (by simp) (by kernel_rfl)
      exact ⟨i',j',l,lpo (st),.refl,rfl,hI',c⟩
    · have q4':=q4.resolve_left (by omega)
      have q8':=q8.resolve_left (by omega)
      obtain ⟨s1,s2⟩:=S.st2 (T:=T) hl (i:=i') (j:=j') (by omega) (by omega)
      have sl:=pe_f_1 0 db n cap (Mm enc H db l T) 0 a b p i' j' (by omega) (ixs (i:=j') rfl (by omega)) (S.ld l T _ hl (by omega)) (ixs (i:=i') rfl (by omega)) (S.ld l T _ hl (by omega)) (ixs (i:=i') rfl (by omega)) s1 (ixs (i:=j') rfl (by omega)) s2
      rw [wrap_succ (by omega),wrap_pred (by omega) (by omega)] at sl
      have st:=RunsTo.block_normal (i:=1) (c:=sub [1,1,1,0,0,0] B79) (sq (bke (c:=sub [1,1,1,0,0,0,0,0] B79) (r1)) (sq (bke (c:=sub [1,1,1,0,0,0,0,1,0] B79) (r2)) (sl) (c:=sub [1,1,1,0,0,0,0,1] B79)) (c:=sub [1,1,1,0,0,0,0] B79)) (by kernel_rfl)
      have sw:Sw a b l (swp l i' j'):=Sw.one (by omega) (by omega) (by omega) (by omega)
      have e0:at_ (swp l i' j') a=at_ l a:=swp_ne (by omega) (by omega) (by omega) (by omega)
      obtain ⟨i2,j2,l',r,w1,w0,w2,w3⟩:=ih (i'+1) (j' - 1) (swp l i' j') (by omega) (by rw [swp_len]; exact hl) (hD.sw sw (by omega)) (hI'.swap (by omega) (by omega) q4' q8')
      exact ⟨i2,j2,l',lop (st) (gcM _ _ _ _ _ rfl) (r),sw.trans w1,w0.trans e0,w2,w3⟩
theorem peq_ok (S:So enc lt dom H db n) (hL:Lin lt) {T:Heap} (hT:mxs T=0) {a b p:Nat} (hb:b ≤ n) (hp1:a ≤ p) (hp2:p < b) {l:List α} (hl:l.length=n) (hD:Dm dom l) :
    ∃ m l',ClS 79 [.sl db 0 n cap n 1,.int .i64 (a:Int),.int .i64 (b:Int),.int .i64 (p:Int)] (Mm enc H db l T) (.int .i64 ((m:Nat):Int)) (Mm enc H db l' T)∧Sw a b l l'∧(a < m∧m ≤ b)∧(∀ k,a ≤ k → k < m → ¬ lt (at_ l p) (at_ l' k))∧∀ k,m ≤ k → k < b → lt (at_ l p) (at_ l' k):=by
  have hn:=S.nb
  obtain ⟨s1,s2⟩:=S.st2 (T:=T) hl (i:=a) (j:=p) (by omega) (by omega)
  have t0:=pe_a_0 0 db n cap (Mm enc H db l T) 0 a b p
  have t1:=pe_b_0 0 db n cap (Mm enc H db l T) 0 a b p (y9:=Ud) (y10:=Ud) (ixs (i:=p) rfl (by omega)) (S.ld l T _ hl (by omega)) (ixs (i:=a) rfl (by omega)) (S.ld l T _ hl (by omega)) (ixs (i:=a) rfl (by omega)) s1 (ixs (i:=p) rfl (by omega)) s2
  have sw0:Sw a b l (swp l a p):=Sw.one (by omega) (by omega) (by omega) (by omega)
  have e0:at_ (swp l a p) a=at_ l p:=by
    rw [swp_at (by omega) (by omega)]
    by_cases c:a=p
    · rw [if_pos c,c]
    · rw [if_neg c,if_pos rfl]
  have hl0:=sw_len sw0 hl
  have hD0:=hD.sw sw0 (by omega)
  generalize swp l a p=l0 at t1 sw0 hl0 hD0 s2 e0
  clear s2
  have t2:=pe_c_0 0 db n cap (Mm enc H db l0 T) 0 a b p (y9:=Ud) (y10:=Ud)
  rw [wrap_succ (by omega),wrap_pred (by omega) (by omega)] at t2
  have hI0:PE lt a b (a+1) (b - 1) l0:=⟨by omega,fun k h1 h2=>by omega,fun k h1 h2=>by omega⟩
  obtain ⟨i,j,l1,r,w1,w0,w2,w3⟩:=pe_main S (cap:=cap) (p:=p) hT hb _ (a+1) (b - 1) l0 (Nat.le_refl _) hl0 hD0 hI0
  obtain ⟨w4,w5,w6⟩:=w2
  have z:=pe_g_0 0 db n cap (Mm enc H db l1 T) 0 a b p i j
  have t:=sq (t0) (sq (t1) (sq (t2) (sq (bke (c:=sub [1,1,1,0] B79) (r)) (z) (c:=sub [1,1,1] B79)) (c:=sub [1,1] B79)) (c:=sub [1] B79)) (c:=B79)
  have hc:=CallsTo.shared (P:=Tp) (pol:=polSo) (g:=79) (fn:=Try.f79) (cd:=B79) (args:=[.sl db 0 n cap n 1,.int .i64 (a:Int),.int .i64 (b:Int),.int .i64 (p:Int)]) (v:=.int .i64 (i:Int)) (by kernel_rfl) (by kernel_rfl) (by kernel_rfl) (by kernel_rfl) t (by kernel_rfl) (by simp) (by kernel_rfl)
  rw [gcM _ _ _ _ _ rfl] at hc
  refine ⟨i,l1,hc,sw0.trans w1,by omega,fun k h1 h2=>?_,fun k h1 h2=>?_⟩
  · rw [← e0,← w0]
    by_cases c:k=a
    · subst c; exact hL.rf _
    · exact w5 k (by omega) h2
  · rw [← e0,← w0]; exact w6 k (by omega) h2
end
end Go.Proofs.Ytaibmipamkaljaa
end
section
open Go Go.HL Go.HL.So Classical
namespace Go.Proofs.Ytaibmipamkaljaa
set_option linter.unusedSectionVars false
open Go.Proofs.Try renaming prog → Tp
open Go.HL.HV renaming undef → Ud
section
variable {α:Type} [Inhabited α] {enc:α → HV} {lt:α → α → Prop} {dom:α → Prop} {H:Heap} {db n:Nat} {cap:Option Nat}
theorem sorted_one {a:Nat} {l:List α}:Sorted lt a (a+1) l:=fun p q h1 h2 h3=>by omega
theorem sorted_more (hL:Lin lt) {a i:Nat} {l:List α} (h:Sorted lt a i l) (hc:¬ lt (at_ l i) (at_ l (i - 1))):Sorted lt a (i+1) l:=fun p q h1 h2 h3=>by
  by_cases e:q=i
  · subst e
    by_cases e2:p=q - 1
    · rw [e2]; exact hc
    · exact hL.tr _ _ _ (h p (q - 1) h1 (by omega) (by omega)) hc
  · exact h p q h1 h2 (by omega)
theorem pi_scan (S:So enc lt dom H db n) (hL:Lin lt) {T:Heap} (hT:mxs T=0) {a b k:Nat} (hb:b ≤ n) {l:List α} (hl:l.length=n) (hD:Dm dom l):∀ (d i:Nat),b - i ≤ d → a < i → i ≤ b → Sorted lt a i l →
    ∃ i':Nat,RT polSo 77 (sub [1,1,0,1,0,0,1,0,0,0,0] B77) (env77 (.sl db 0 n cap n 1) (.int .i64 (a:Int)) (.int .i64 (b:Int)) (.bool false) (.int .i64 (i:Int)) (.int .i64 (k:Int)) Ud Ud) (Mm enc H db l T) (.exit 2) (env77 (.sl db 0 n cap n 1) (.int .i64 (a:Int)) (.int .i64 (b:Int)) (.bool false) (.int .i64 (i':Int)) (.int .i64 (k:Int)) Ud Ud) (Mm enc H db l T)∧(a < i'∧i' ≤ b)∧Sorted lt a i' l∧(i' < b → lt (at_ l i') (at_ l (i' - 1))):=by
  have hn:=S.nb
  intro d
  induction d with
  | zero =>
    intro i hd ha hi hS
    exact ⟨i,lpo (pi_e_2 0 db n cap (Mm enc H db l T) 0 a b i k (by omega)),by omega,hS,fun h=>by omega⟩
  | succ d ih =>
    intro i hd ha hi hS
    by_cases c0:i < b
    · by_cases c:lt (at_ l i) (at_ l (i - 1))
      · obtain ⟨N,hN⟩:=S.ct (T:=T) hl hT (hD.at (i:=i) (by omega)) (hD.at (i:=i - 1) (by omega)) c
        have st:=pi_e_0 N db n cap (Mm enc H db l T) 0 a b i k (y9:=Ud) (y10:=Ud) (by omega) (ixs (i:=i) rfl (by omega)) (S.ld l T _ hl (by omega)) (ixs (i:=i - 1) (wrap_pred (by omega) (by omega)) (by omega)) (S.ld l T _ hl (by omega)) hN
        exact ⟨i,lpo (st),by omega,hS,fun _=>c⟩
      · obtain ⟨N,hN⟩:=S.cf (T:=T) hl hT (hD.at (i:=i) (by omega)) (hD.at (i:=i - 1) (by omega)) c
        have st:=pi_e_1 N db n cap (Mm enc H db l T) 0 a b i k (y9:=Ud) (y10:=Ud) (by omega) (ixs (i:=i) rfl (by omega)) (S.ld l T _ hl (by omega)) (ixs (i:=i - 1) (wrap_pred (by omega) (by omega)) (by omega)) (S.ld l T _ hl (by omega)) hN
        rw [wrap_succ (by omega)] at st
        obtain ⟨i',r,q⟩:=ih (i+1) (by omega) (by omega) (by omega) (sorted_more hL hS c)
        exact ⟨i',lop (st) (gcM _ _ _ _ _ rfl) (r),q⟩
    · exact ⟨i,lpo (pi_e_2 0 db n cap (Mm enc H db l T) 0 a b i k (by omega)),by omega,hS,fun h=>by omega⟩
def Flo (lt:α → α → Prop) (a b:Nat) (l:List α):Prop:=0 < a → ∀ k,a ≤ k → k < b → ¬ lt (at_ l k) (at_ l (a - 1))
theorem Flo.sw {a b:Nat} {l l':List α} (h:Flo lt a b l) (hb:b ≤ l.length) (hs:Sw a b l l'):Flo lt a b l':=fun h0=>by
  rw [hs.out hb (k:=a - 1) (by omega)]
  exact hs.all hb (Q:=fun x=>¬ lt x (at_ l (a - 1))) (Nat.le_refl _) (Nat.le_refl _) (h h0)
theorem pi_left (S:So enc lt dom H db n) (hL:Lin lt) {T:Heap} (hT:mxs T=0) {a b i k:Nat} (hi:i < b) (hb:b ≤ n):∀ (j:Nat) (l:List α),l.length=n → j < i → a ≤ j → Dm dom l → Flo lt a b l → Sink lt a i j l →
    ∃ y l',RT polSo 77 (sub [1,1,0,1,0,0,1,0,0,1,1,1,1,0,1,0,1,0] B77) (env77 (.sl db 0 n cap n 1) (.int .i64 (a:Int)) (.int .i64 (b:Int)) (.bool false) (.int .i64 (i:Int)) (.int .i64 (k:Int)) (.int .i64 (j:Int)) Ud) (Mm enc H db l T) (.exit 4) (env77 (.sl db 0 n cap n 1) (.int .i64 (a:Int)) (.int .i64 (b:Int)) (.bool false) (.int .i64 (i:Int)) (.int .i64 (k:Int)) y Ud) (Mm enc H db l' T)∧Sw a i l l'∧Sorted lt a i l':=by
  have hn:=S.nb
  intro j
  induction j with
  | zero =>
    intro l hl hj ha hD hF hS
    exact ⟨_,l,lpo (pi_k_2 0 db n cap (Mm enc H db l T) 0 a b i k 0 (by omega)),.refl,sink_end hL hS (.inl (Nat.zero_le _))⟩
  | succ j ih =>
    intro l hl hj ha hD hF hS
    have hw:IntKind.i64.wrap (((j+1:Nat):Int) - 1)=((j:Nat):Int):=wrap_pred (j:=j+1) (by omega) (by omega)
    by_cases c2:lt (at_ l (j+1)) (at_ l j)
    · have ha':a < j+1:=by
        rcases Nat.lt_or_ge a (j+1) with h | h
        · exact h
        · exfalso
          have e:a=j+1:=by omega
          have:=hF (by omega) (j+1) (by omega) (by omega)
          rw [show a - 1=j by omega] at this
          exact this c2
      obtain ⟨N,hN⟩:=S.ct (T:=T) hl hT (hD.at (i:=j+1) (by omega)) (hD.at (i:=j) (by omega)) c2
      obtain ⟨s1,s2⟩:=S.st2 (T:=T) hl (i:=j+1) (j:=j) (by omega) (by omega)
      have sw:Sw a i l (swp l (j+1) j):=Sw.one (by omega) (by omega) (by omega) (by omega)
      have st:=pi_k_0 N db n cap (Mm enc H db l T) 0 a b i k (j+1) (y10:=Ud) (by omega) (ixs (i:=j+1) rfl (by omega)) (S.ld l T _ hl (by omega)) (ixs hw (by omega)) (S.ld l T _ hl (by omega)) hN
        (ixs hw (by omega)) (S.ld l T _ hl (by omega)) (ixs (i:=j+1) rfl (by omega)) (S.ld l T _ hl (by omega)) (ixs (i:=j+1) rfl (by omega)) s1 (ixs hw (by omega)) s2
      rw [hw] at st
      obtain ⟨y,l',r,q1,q2⟩:=ih (swp l (j+1) j) (by rw [swp_len]; exact hl) (by omega) (by omega) (hD.sw sw (by omega)) (hF.sw (by omega) (sw.mono (Nat.le_refl _) (by omega))) (sink_step hL (j:=j+1) (by omega) (by omega) ha' hS c2)
      exact ⟨y,l',lop (st) (gcM _ _ _ _ _ rfl) (r),sw.trans q1,q2⟩
    · obtain ⟨N,hN⟩:=S.cf (T:=T) hl hT (hD.at (i:=j+1) (by omega)) (hD.at (i:=j) (by omega)) c2
      have st:=pi_k_1 N db n cap (Mm enc H db l T) 0 a b i k (j+1) (y10:=Ud) (by omega) (ixs (i:=j+1) rfl (by omega)) (S.ld l T _ hl (by omega)) (ixs hw (by omega)) (S.ld l T _ hl (by omega)) hN
      exact ⟨_,l,lpo (st),.refl,sink_end hL hS (.inr c2)⟩
theorem pi_right (S:So enc lt dom H db n) {T:Heap} (hT:mxs T=0) {a b i k:Nat} (hb:b ≤ n):∀ (d w:Nat) (l:List α),b - w ≤ d → l.length=n → i < w → Dm dom l →
    ∃ y l',RT polSo 77 (sub [1,1,0,1,0,0,1,0,0,1,1,1,1,1,1,0,1,0] B77) (env77 (.sl db 0 n cap n 1) (.int .i64 (a:Int)) (.int .i64 (b:Int)) (.bool false) (.int .i64 (i:Int)) (.int .i64 (k:Int)) Ud (.int .i64 (w:Int))) (Mm enc H db l T) (.exit 6) (env77 (.sl db 0 n cap n 1) (.int .i64 (a:Int)) (.int .i64 (b:Int)) (.bool false) (.int .i64 (i:Int)) (.int .i64 (k:Int)) Ud y) (Mm enc H db l' T)∧Sw i b l l':=by
  have hn:=S.nb
  intro d
  induction d with
  | zero =>
    intro w l hd hl hw hD
    exact ⟨_,l,lpo (pi_n_2 0 db n cap (Mm enc H db l T) 0 a b i k w (by omega)),.refl⟩
  | succ d ih =>
    intro w l hd hl hi hD
    by_cases c0:w < b
    · have hw:IntKind.i64.wrap ((w:Int) - 1)=((w - 1:Nat):Int):=wrap_pred (by omega) (by omega)
      by_cases c:lt (at_ l w) (at_ l (w - 1))
      · obtain ⟨N,hN⟩:=S.ct (T:=T) hl hT (hD.at (i:=w) (by omega)) (hD.at (i:=w - 1) (by omega)) c
        obtain ⟨s1,s2⟩:=S.st2 (T:=T) hl (i:=w) (j:=w - 1) (by omega) (by omega)
        have sw:Sw i b l (swp l w (w - 1)):=Sw.one (by omega) (by omega) (by omega) (by omega)
        have st:=pi_n_0 N db n cap (Mm enc H db l T) 0 a b i k w (y9:=Ud) (by omega) (ixs (i:=w) rfl (by omega)) (S.ld l T _ hl (by omega)) (ixs hw (by omega)) (S.ld l T _ hl (by omega)) hN
          (ixs hw (by omega)) (S.ld l T _ hl (by omega)) (ixs (i:=w) rfl (by omega)) (S.ld l T _ hl (by omega)) (ixs (i:=w) rfl (by omega)) s1 (ixs hw (by omega)) s2
        rw [wrap_succ (by omega)] at st
        obtain ⟨y,l',r,q1⟩:=ih (w+1) (swp l w (w - 1)) (by omega) (by rw [swp_len]; exact hl) (by omega) (hD.sw sw (by omega))
        exact ⟨y,l',lop (st) (gcM _ _ _ _ _ rfl) (r),sw.trans q1⟩
      · obtain ⟨N,hN⟩:=S.cf (T:=T) hl hT (hD.at (i:=w) (by omega)) (hD.at (i:=w - 1) (by omega)) c
        have st:=pi_n_1 N db n cap (Mm enc H db l T) 0 a b i k w (y9:=Ud) (by omega) (ixs (i:=w) rfl (by omega)) (S.ld l T _ hl (by omega)) (ixs hw (by omega)) (S.ld l T _ hl (by omega)) hN
        exact ⟨_,l,lpo (st),.refl⟩
    · exact ⟨_,l,lpo (pi_n_2 0 db n cap (Mm enc H db l T) 0 a b i k w (by omega)),.refl⟩
theorem pi_L (S:So enc lt dom H db n) (hL:Lin lt) {T:Heap} (hT:mxs T=0) {a b i k:Nat} (hai:a < i) (hi:i < b) (hb:b ≤ n) {l:List α} (hl:l.length=n) (hD:Dm dom l) (hF:Flo lt a b l) (hS:Sorted lt a (i - 1) l) :
    ∃ y l',RT polSo 77 (sub [1,1,0,1,0,0,1,0,0,1,1,1,1,0] B77) (env77 (.sl db 0 n cap n 1) (.int .i64 (a:Int)) (.int .i64 (b:Int)) (.bool false) (.int .i64 (i:Int)) (.int .i64 (k:Int)) Ud Ud) (Mm enc H db l T) .normal (env77 (.sl db 0 n cap n 1) (.int .i64 (a:Int)) (.int .i64 (b:Int)) (.bool false) (.int .i64 (i:Int)) (.int .i64 (k:Int)) y Ud) (Mm enc H db l' T)∧Sw a i l l'∧Sorted lt a i l':=by
  have hn:=S.nb
  have hw:IntKind.i64.wrap ((i:Int) - (a:Int))=((i - a:Nat):Int):=(by rw [wrap_id (by omega) (by omega)]; omega)
  by_cases c:2 ≤ i - a
  · have t0:=pi_i_0 0 db n cap (Mm enc H db l T) 0 a b i k (y9:=Ud) (y10:=Ud) (by rw [hw]; omega)
    have t1:=pi_j_0 0 db n cap (Mm enc H db l T) 0 a b i k (y9:=Ud) (y10:=Ud)
    rw [wrap_pred (by omega) (by omega)] at t1
    have hk:Sink lt a i (i - 1) l:=by
      have:=sink_start (i:=i - 1) hS
      rwa [show i - 1+1=i by omega] at this
    obtain ⟨y,l',r,q1,q2⟩:=pi_left S hL (cap:=cap) (k:=k) hT hi hb (i - 1) l hl (by omega) (by omega) hD hF hk
    exact ⟨y,l',sq (t0) (RunsTo.cond (y:=.tmp 61) (t:=true) (c:=sub [1,1,0,1,0,0,1,0,0,1,1,1,1,0,1] B77) (a:=sub [1,1,0,1,0,0,1,0,0,1,1,1,1,0,1,0] B77) (b:=sub [1,1,0,1,0,0,1,0,0,1,1,1,1,0,1,1] B77) (by kernel_rfl) rfl (sq (t1) (bke (c:=sub [1,1,0,1,0,0,1,0,0,1,1,1,1,0,1,0,1] B77) (r)) (c:=sub [1,1,0,1,0,0,1,0,0,1,1,1,1,0,1,0] B77))) (c:=sub [1,1,0,1,0,0,1,0,0,1,1,1,1,0] B77),q1,q2⟩
  · have t0:=pi_i_1 0 db n cap (Mm enc H db l T) 0 a b i k (y9:=Ud) (y10:=Ud) (by rw [hw]; omega)
    refine ⟨_,l,sq (t0) (RunsTo.cond (y:=.tmp 61) (t:=false) (c:=sub [1,1,0,1,0,0,1,0,0,1,1,1,1,0,1] B77) (a:=sub [1,1,0,1,0,0,1,0,0,1,1,1,1,0,1,0] B77) (b:=sub [1,1,0,1,0,0,1,0,0,1,1,1,1,0,1,1] B77) (by kernel_rfl) rfl (RunsTo.skip (E:=(env77 (.sl db 0 n cap n 1) (.int .i64 (a:Int)) (.int .i64 (b:Int)) (.bool false) (.int .i64 (i:Int)) (.int .i64 (k:Int)) Ud Ud)) (by kernel_rfl) (by kernel_rfl))) (c:=sub [1,1,0,1,0,0,1,0,0,1,1,1,1,0] B77),.refl,?_⟩
    rw [show i=a+1 by omega]; exact sorted_one
theorem pi_R (S:So enc lt dom H db n) {T:Heap} (hT:mxs T=0) {a b i k:Nat} {y0:HV} (hi:i < b) (hb:b ≤ n) {l:List α} (hl:l.length=n) (hD:Dm dom l) :
    ∃ y y' l',RT polSo 77 (sub [1,1,0,1,0,0,1,0,0,1,1,1,1,1] B77) (env77 (.sl db 0 n cap n 1) (.int .i64 (a:Int)) (.int .i64 (b:Int)) (.bool false) (.int .i64 (i:Int)) (.int .i64 (k:Int)) y0 Ud) (Mm enc H db l T) .normal (env77 (.sl db 0 n cap n 1) (.int .i64 (a:Int)) (.int .i64 (b:Int)) (.bool false) (.int .i64 (i:Int)) (.int .i64 (k:Int)) y y') (Mm enc H db l' T)∧Sw i b l l':=by
  have hn:=S.nb
  have hw:IntKind.i64.wrap ((b:Int) - (i:Int))=((b - i:Nat):Int):=(by rw [wrap_id (by omega) (by omega)]; omega)
  by_cases c:2 ≤ b - i
  · have t0:=pi_l_0 0 db n cap (Mm enc H db l T) 0 a b i k (y9:=y0) (y10:=Ud) (by rw [hw]; omega)
    have t1:=pi_m_0 0 db n cap (Mm enc H db l T) 0 a b i k (y9:=y0) (y10:=Ud)
    rw [wrap_succ (by omega)] at t1
    obtain ⟨y,l',r,q1⟩:=pi_right S (cap:=cap) (a:=a) (i:=i) (k:=k) hT hb _ (i+1) l (Nat.le_refl _) hl (by omega) hD
    have r':=lpi (e0:=(env77 (.sl db 0 n cap n 1) (.int .i64 (a:Int)) (.int .i64 (b:Int)) (.bool false) (.int .i64 (i:Int)) (.int .i64 (k:Int)) y0 (.int .i64 ((i+1:Nat):Int)))) r (b:=sub [1,1,0,1,0,0,1,0,0,1,1,1,1,1,1,0,1,0,0] B77)
    exact ⟨_,y,l',sq (t0) (RunsTo.cond (y:=.tmp 98) (t:=true) (c:=sub [1,1,0,1,0,0,1,0,0,1,1,1,1,1,1] B77) (a:=sub [1,1,0,1,0,0,1,0,0,1,1,1,1,1,1,0] B77) (b:=sub [1,1,0,1,0,0,1,0,0,1,1,1,1,1,1,1] B77) (by kernel_rfl) rfl (sq (t1) (bke (c:=sub [1,1,0,1,0,0,1,0,0,1,1,1,1,1,1,0,1] B77) (r')) (c:=sub [1,1,0,1,0,0,1,0,0,1,1,1,1,1,1,0] B77))) (c:=sub [1,1,0,1,0,0,1,0,0,1,1,1,1,1] B77),q1⟩
  · have t0:=pi_l_1 0 db n cap (Mm enc H db l T) 0 a b i k (y9:=y0) (y10:=Ud) (by rw [hw]; omega)
    exact ⟨_,_,l,sq (t0) (RunsTo.cond (y:=.tmp 98) (t:=false) (c:=sub [1,1,0,1,0,0,1,0,0,1,1,1,1,1,1] B77) (a:=sub [1,1,0,1,0,0,1,0,0,1,1,1,1,1,1,0] B77) (b:=sub [1,1,0,1,0,0,1,0,0,1,1,1,1,1,1,1] B77) (by kernel_rfl) rfl (RunsTo.skip (E:=(env77 (.sl db 0 n cap n 1) (.int .i64 (a:Int)) (.int .i64 (b:Int)) (.bool false) (.int .i64 (i:Int)) (.int .i64 (k:Int)) y0 Ud)) (by kernel_rfl) (by kernel_rfl))) (c:=sub [1,1,0,1,0,0,1,0,0,1,1,1,1,1] B77),.refl⟩
theorem pi_loop (S:So enc lt dom H db n) (hL:Lin lt) {T:Heap} (hT:mxs T=0) {a b:Nat} (hb:b ≤ n):∀ (d k i:Nat) (l:List α),k+d=5 → a < i → i ≤ b → l.length=n → Dm dom l → Flo lt a b l → Sorted lt a i l →
    ∃ x E l',RT polSo 77 (sub [1,1,0,1,0] B77) (env77 (.sl db 0 n cap n 1) (.int .i64 (a:Int)) (.int .i64 (b:Int)) (.bool false) (.int .i64 (i:Int)) (.int .i64 (k:Int)) Ud Ud) (Mm enc H db l T) x E (Mm enc H db l' T)∧Sw a b l l'∧((x=.exit 0∧∃ y5 y6:Nat,E=(env77 (.sl db 0 n cap n 1) (.int .i64 (a:Int)) (.int .i64 (b:Int)) (.bool false) (.int .i64 (y5:Int)) (.int .i64 (y6:Int)) Ud Ud)) ∨ (x=.ret∧∃ bb,resultsV Tp Try.f77 E (Mm enc H db l' T)=some (.bool bb)∧(bb=true → Sorted lt a b l'))):=by
  have hn:=S.nb
  intro d
  induction d with
  | zero =>
    intro k i l hk ha hi hl hD hF hS
    exact ⟨_,_,l,lpo (sqo (pi_d_1 0 db n cap (Mm enc H db l T) 0 a b i k (by omega) (y9:=Ud) (y10:=Ud)) (c:=sub [1,1,0,1,0,0] B77) (b:=sub [1,1,0,1,0,0,1] B77)),.refl,.inl ⟨rfl,_,_,rfl⟩⟩
  | succ d ih =>
    intro k i l hk ha hi hl hD hF hS
    have t0:=pi_d_0 0 db n cap (Mm enc H db l T) 0 a b i k (by omega) (y9:=Ud) (y10:=Ud)
    obtain ⟨i',r,q1,q2,q3⟩:=pi_scan S hL (cap:=cap) (k:=k) hT hb hl hD _ i (Nat.le_refl _) ha hi hS
    by_cases c:i'=b
    · have t1:=pi_f_0 0 db n cap (Mm enc H db l T) 0 a b i' k (by omega) (y9:=Ud) (y10:=Ud)
      have st:=sq (t0) (sqo (RunsTo.block_ret (i:=1) (c:=sub [1,1,0,1,0,0,1,0] B77) (sq (bke (c:=sub [1,1,0,1,0,0,1,0,0,0] B77) (r)) (sqo (t1) (c:=sub [1,1,0,1,0,0,1,0,0,1] B77) (b:=sub [1,1,0,1,0,0,1,0,0,1,1] B77)) (c:=sub [1,1,0,1,0,0,1,0,0] B77)) (by kernel_rfl)) (c:=sub [1,1,0,1,0,0,1] B77) (b:=sub [1,1,0,1,0,0,1,1] B77)) (c:=sub [1,1,0,1,0,0] B77)
      exact ⟨_,_,l,lpo (st),.refl,.inr ⟨rfl,true,by kernel_rfl,fun _=>c ▸ q2⟩⟩
    · have t1:=pi_f_1 0 db n cap (Mm enc H db l T) 0 a b i' k (by omega) (y9:=Ud) (y10:=Ud)
      have hw:IntKind.i64.wrap ((b:Int) - (a:Int))=((b - a:Nat):Int):=(by rw [wrap_id (by omega) (by omega)]; omega)
      by_cases c2:b - a < 50
      · have t2:=pi_g_0 0 db n cap (Mm enc H db l T) 0 a b i' k (by rw [hw]; omega) (y9:=Ud) (y10:=Ud)
        have st:=sq (t0) (sqo (RunsTo.block_ret (i:=1) (c:=sub [1,1,0,1,0,0,1,0] B77) (sq (bke (c:=sub [1,1,0,1,0,0,1,0,0,0] B77) (r)) (sq (t1) (sqo (t2) (c:=sub [1,1,0,1,0,0,1,0,0,1,1] B77) (b:=sub [1,1,0,1,0,0,1,0,0,1,1,1] B77)) (c:=sub [1,1,0,1,0,0,1,0,0,1] B77)) (c:=sub [1,1,0,1,0,0,1,0,0] B77)) (by kernel_rfl)) (c:=sub [1,1,0,1,0,0,1] B77) (b:=sub [1,1,0,1,0,0,1,1] B77)) (c:=sub [1,1,0,1,0,0] B77)
        exact ⟨_,_,l,lpo (st),.refl,.inr ⟨rfl,false,by kernel_rfl,fun h=>by cases h⟩⟩
      · have t2:=pi_g_1 0 db n cap (Mm enc H db l T) 0 a b i' k (by rw [hw]; omega) (y9:=Ud) (y10:=Ud)
        have hp:IntKind.i64.wrap ((i':Int) - 1)=((i' - 1:Nat):Int):=wrap_pred (by omega) (by omega)
        obtain ⟨s1,s2⟩:=S.st2 (T:=T) hl (i:=i') (j:=i' - 1) (by omega) (by omega)
        have t3:=pi_h_0 0 db n cap (Mm enc H db l T) 0 a b i' k (y9:=Ud) (y10:=Ud) (ixs hp (by omega)) (S.ld l T _ hl (by omega)) (ixs (i:=i') rfl (by omega)) (S.ld l T _ hl (by omega)) (ixs (i:=i') rfl (by omega)) s1 (ixs hp (by omega)) s2
        have sw:Sw a b l (swp l i' (i' - 1)):=Sw.one (by omega) (by omega) (by omega) (by omega)
        have hS1:Sorted lt a (i' - 1) (swp l i' (i' - 1)):=fun p q h1 h2 h3=>by
          rw [swp_ne (by omega) (by omega) (by omega) (by omega),swp_ne (by omega) (by omega) (by omega) (by omega)]
          exact q2 p q h1 h2 (by omega)
        have hl1:=sw_len sw hl
        have hD1:=hD.sw sw (by omega)
        have hF1:=hF.sw (by omega) sw
        generalize swp l i' (i' - 1)=l1 at t3 sw hS1 hl1 hD1 hF1 s2
        obtain ⟨y,l2,r2,w1,w2⟩:=pi_L S hL (cap:=cap) (k:=k) hT q1.1 (by omega) hb hl1 hD1 hF1 hS1
        have hl2:=sw_len w1 hl1
        have hD2:=hD1.sw w1 (by omega)
        have hF2:=hF1.sw (by omega) (w1.mono (Nat.le_refl _) (by omega))
        obtain ⟨y',y2,l3,r3,w3⟩:=pi_R S (cap:=cap) (a:=a) (k:=k) (y0:=y) hT (i:=i') (by omega) hb hl2 hD2
        have hl3:=sw_len w3 hl2
        have sw3:Sw a b l2 l3:=w3.mono (by omega) (Nat.le_refl _)
        have hS3:Sorted lt a i' l3:=fun p q h1 h2 h3=>by
          rw [w3.out (by omega) (k:=q) (by omega),w3.out (by omega) (k:=p) (by omega)]
          exact w2 p q h1 h2 h3
        have t6:=pi_o_0 0 db n cap (Mm enc H db l3 T) 0 a b i' k (y9:=y') (y10:=y2)
        rw [wrap_succ (by omega)] at t6
        have st:=sq (t0) (sq (RunsTo.block_normal (i:=1) (c:=sub [1,1,0,1,0,0,1,0] B77) (sq (bke (c:=sub [1,1,0,1,0,0,1,0,0,0] B77) (r)) (sq (t1) (sq (t2) (sq (t3) (sq (r2) (r3) (c:=sub [1,1,0,1,0,0,1,0,0,1,1,1,1] B77)) (c:=sub [1,1,0,1,0,0,1,0,0,1,1,1] B77)) (c:=sub [1,1,0,1,0,0,1,0,0,1,1] B77)) (c:=sub [1,1,0,1,0,0,1,0,0,1] B77)) (c:=sub [1,1,0,1,0,0,1,0,0] B77)) (by kernel_rfl)) (t6) (c:=sub [1,1,0,1,0,0,1] B77)) (c:=sub [1,1,0,1,0,0] B77)
        obtain ⟨x,E,l',rr,z1,z2⟩:=ih (k+1) i' l3 (by omega) q1.1 q1.2 hl3 (hD2.sw w3 (by omega)) (hF2.sw (by omega) sw3) hS3
        exact ⟨x,E,l',lop (st) (gcM _ _ _ _ _ rfl) (rr),sw.trans ((w1.mono (Nat.le_refl _) (by omega)).trans (sw3.trans z1)),z2⟩
theorem pin_ok (S:So enc lt dom H db n) (hL:Lin lt) {T:Heap} (hT:mxs T=0) {a b:Nat} (hab:a < b) (hb:b ≤ n) {l:List α} (hl:l.length=n) (hD:Dm dom l) (hF:Flo lt a b l) :
    ∃ bb l',ClS 77 [.sl db 0 n cap n 1,.int .i64 (a:Int),.int .i64 (b:Int)] (Mm enc H db l T) (.bool bb) (Mm enc H db l' T)∧Sw a b l l'∧(bb=true → Sorted lt a b l'):=by
  have hn:=S.nb
  have t0:=pi_a_0 0 db n cap (Mm enc H db l T) 0 a b
  have t1:=pi_b_0 0 db n cap (Mm enc H db l T) 0 a b (y7:=Ud) (y8:=Ud) (y9:=Ud) (y10:=Ud)
  rw [wrap_succ (by omega)] at t1
  have t2:=pi_c_0 0 db n cap (Mm enc H db l T) 0 a b (a+1) (y8:=Ud) (y9:=Ud) (y10:=Ud)
  obtain ⟨x,E,l',r,q1,q2⟩:=pi_loop S hL (cap:=cap) hT hb 5 0 (a+1) l rfl (by omega) (by omega) hl hD hF sorted_one
  rcases q2 with ⟨rfl,y5,y6,rfl⟩ | ⟨rfl,bb,hv,hs⟩
  · have z:=pi_p_0 0 db n cap (Mm enc H db l' T) 0 a b y5 y6 (y9:=Ud) (y10:=Ud)
    have t:=sq (t0) (sq (t1) (sq (sq (t2) (bke (c:=sub [1,1,0,1] B77) (r)) (c:=sub [1,1,0] B77)) (z) (c:=sub [1,1] B77)) (c:=sub [1] B77)) (c:=B77)
    have hc:=CallsTo.shared (P:=Tp) (pol:=polSo) (g:=77) (fn:=Try.f77) (cd:=B77) (args:=[.sl db 0 n cap n 1,.int .i64 (a:Int),.int .i64 (b:Int)]) (v:=.bool false) (by kernel_rfl) (by kernel_rfl) (by kernel_rfl) (by kernel_rfl) t (by kernel_rfl) (by simp) (by kernel_rfl)
    rw [gcM _ _ _ _ _ rfl] at hc
    exact ⟨false,l',hc,q1,fun h=>by cases h⟩
  · have t:=sq (t0) (sq (t1) (sqo (sq (t2) (RunsTo.block_ret (i:=0) (c:=sub [1,1,0,1] B77) (r) (by kernel_rfl)) (c:=sub [1,1,0] B77)) (c:=sub [1,1] B77) (b:=sub [1,1,1] B77)) (c:=sub [1] B77)) (c:=B77)
    have hc:=CallsTo.shared (P:=Tp) (pol:=polSo) (g:=77) (fn:=Try.f77) (cd:=B77) (args:=[.sl db 0 n cap n 1,.int .i64 (a:Int),.int .i64 (b:Int)]) (by kernel_rfl) (by kernel_rfl) (by kernel_rfl) (by kernel_rfl) t (by kernel_rfl) (by simp) hv
    rw [gcM _ _ _ _ _ rfl] at hc
    exact ⟨bb,l',hc,q1,hs⟩
end
end Go.Proofs.Ytaibmipamkaljaa
end
section
open Go Go.HL
namespace Go.Proofs.Ytaibmipamkaljaa
set_option maxRecDepth 100000
open Go.Proofs.Try renaming prog → Tp
open Go.HL.HV renaming undef → Ud
noncomputable def B100:Code:=Try.f100.body.getD .skip
abbrev env100 (v0 v1 v2 v3 v8 v9:HV):Env:=[(0,v0),(1,v1),(2,v2),(3,v3),(8,v8),(9,v9)]
theorem o2_a_0 (N:Nat) (db n:Nat) (cap:Option Nat) (H:Heap) (x:Nat) (a:Nat) (b:Nat) {a0:HV} {v0:HV} {a1:HV} {v1:HV} {H0:Heap} {x0:Int} {H1:Heap} (g0:idxV Tp 22 (.c db n cap) (.i (b:Int))=some (a0)) (g1:loadV Tp H 3 (a0)=some (v0)) (g2:idxV Tp 22 (.c db n cap) (.i (a:Int))=some (a1)) (g3:loadV Tp H 3 (a1)=some (v1)) (g4:∀ kf,N ≤ kf → callN Tp polSo (kf+1) 78 [v0,v1] H=some (.bool true,H0)) (g5:loadV Tp H0 3 (.ptr x 0 0 1)=some (.i x0)) (g6:storeV Tp H0 3 (.ptr x 0 0 1) (.i (IntKind.i64.wrap (x0+1)))=some H1):RT polSo 100 (sub [] B100) [(0,.c db n cap),(1,.i (a:Int)),(2,.i (b:Int)),(3,.ptr x 0 0 1)] H .ret (env100 (.c db n cap) (.i (a:Int)) (.i (b:Int)) (.ptr x 0 0 1) (.i (b:Int)) (.i (a:Int))) H1 :=
  RunsTo.hin N 60 [⟨1,2,a0,H⟩,⟨1,3,v0,H⟩,⟨1,6,a1,H⟩,⟨1,7,v1,H⟩,⟨1,8,.bool true,H0⟩,⟨2,2,.i x0,H0⟩,⟨2,5,.tuple [],H1⟩] fun kf hk=>⟨_,by kernel_rfl,(oP H g0 (oP H g1 (oP H g2 (oP H g3 (oC (g4 kf (by omega)) (oP H0 g5 (oS g6 .nil)))))))⟩
theorem o2_a_1 (N:Nat) (db n:Nat) (cap:Option Nat) (H:Heap) (x:Nat) (a:Nat) (b:Nat) {a0:HV} {v0:HV} {a1:HV} {v1:HV} {H0:Heap} (g0:idxV Tp 22 (.c db n cap) (.i (b:Int))=some (a0)) (g1:loadV Tp H 3 (a0)=some (v0)) (g2:idxV Tp 22 (.c db n cap) (.i (a:Int))=some (a1)) (g3:loadV Tp H 3 (a1)=some (v1)) (g4:∀ kf,N ≤ kf → callN Tp polSo (kf+1) 78 [v0,v1] H=some (.bool false,H0)):RT polSo 100 (sub [] B100) [(0,.c db n cap),(1,.i (a:Int)),(2,.i (b:Int)),(3,.ptr x 0 0 1)] H .ret (env100 (.c db n cap) (.i (a:Int)) (.i (b:Int)) (.ptr x 0 0 1) (.i (a:Int)) (.i (b:Int))) H0 :=
  RunsTo.hin N 60 [⟨1,2,a0,H⟩,⟨1,3,v0,H⟩,⟨1,6,a1,H⟩,⟨1,7,v1,H⟩,⟨1,8,.bool false,H0⟩] fun kf hk=>⟨_,by kernel_rfl,(oP H g0 (oP H g1 (oP H g2 (oP H g3 (oC (g4 kf (by omega)) .nil)))))⟩
noncomputable def B96:Code:=Try.f96.body.getD .skip
abbrev env96 (v0 v1 v2 v3 v4 v10:HV):Env:=[(0,v0),(1,v1),(2,v2),(3,v3),(4,v4),(10,v10)]
theorem md_a_0 (N:Nat) (db n:Nat) (cap:Option Nat) (H:Heap) (x:Nat) (a:Nat) (b:Nat) (q:Nat) {p0:Int} {p1:Int} {H0:Heap} {p2:Int} {p3:Int} {H1:Heap} {p4:Int} {p5:Int} {H2:Heap} (g0:∀ kf,N ≤ kf → callN Tp polSo (kf+1) 100 [.c db n cap,.i (a:Int),.i (b:Int),.ptr x 0 0 1] H=some (.tuple [.i p0,.i p1],H0)) (g1:∀ kf,N ≤ kf → callN Tp polSo (kf+1) 100 [.c db n cap,.i p1,.i (q:Int),.ptr x 0 0 1] H0=some (.tuple [.i p2,.i p3],H1)) (g2:∀ kf,N ≤ kf → callN Tp polSo (kf+1) 100 [.c db n cap,.i p0,.i p2,.ptr x 0 0 1] H1=some (.tuple [.i p4,.i p5],H2)):RT polSo 96 (sub [] B96) [(0,.c db n cap),(1,.i (a:Int)),(2,.i (b:Int)),(3,.i (q:Int)),(4,.ptr x 0 0 1)] H .ret (env96 (.c db n cap) (.i p4) (.i p5) (.i p3) (.ptr x 0 0 1) (.i p5)) H2 :=
  RunsTo.hin N 60 [⟨1,4,.tuple [.i p0,.i p1],H0⟩,⟨2,4,.tuple [.i p2,.i p3],H1⟩,⟨3,4,.tuple [.i p4,.i p5],H2⟩] fun kf hk=>⟨_,by kernel_rfl,(oC (g0 kf (by omega)) (oC (g1 kf (by omega)) (oC (g2 kf (by omega)) .nil)))⟩
noncomputable def B95:Code:=Try.f95.body.getD .skip
abbrev env95 (v0 v1 v2 v6:HV):Env:=[(0,v0),(1,v1),(2,v2),(6,v6)]
theorem ma_a_0 (N:Nat) (db n:Nat) (cap:Option Nat) (H:Heap) (x:Nat) (a:Nat) {p0:Int} {H0:Heap} (g0:∀ kf,N ≤ kf → callN Tp polSo (kf+1) 96 [.c db n cap,.i (IntKind.i64.wrap ((a:Int) - 1)),.i (a:Int),.i (IntKind.i64.wrap ((a:Int)+1)),.ptr x 0 0 1] H=some (.i p0,H0)):RT polSo 95 (sub [] B95) [(0,.c db n cap),(1,.i (a:Int)),(2,.ptr x 0 0 1)] H .ret (env95 (.c db n cap) (.i (a:Int)) (.ptr x 0 0 1) (.i p0)) H0 :=
  RunsTo.hin N 60 [⟨1,7,.i p0,H0⟩] fun kf hk=>⟨_,by kernel_rfl,(oC (g0 kf (by omega)) .nil)⟩
noncomputable def B75:Code:=Try.f75.body.getD .skip
abbrev env75 (v0 v1 v2 v6 v7 v8 v9 v10 v11 v12 v49:HV):Env:=[(0,v0),(1,v1),(2,v2),(6,v6),(7,v7),(8,v8),(9,v9),(10,v10),(11,v11),(12,v12),(49,v49)]
theorem cv_a_0 (N:Nat) (db n:Nat) (cap:Option Nat) (H:Heap) (x:Nat) (a:Nat) (b:Nat) {H0:Heap} {p0:Int} {H1:Heap} {p1:Int} {H2:Heap} {p2:Int} {H3:Heap} {p3:Int} {H4:Heap} {x0:Int} (g0:some (newV (.i 0) H)=some (.ptr x 0 0 1,H0)) (g1:8 ≤ IntKind.i64.wrap ((b:Int) - (a:Int))) (g2:50 ≤ IntKind.i64.wrap ((b:Int) - (a:Int))) (g3:∀ kf,N ≤ kf → callN Tp polSo (kf+1) 95 [.c db n cap,.i (IntKind.i64.wrap ((a:Int)+IntKind.i64.wrap (IntKind.i64.wrap ((IntKind.i64.wrap ((b:Int) - (a:Int)):Int).tdiv 4) * 1))),.ptr x 0 0 1] H0=some (.i p0,H1)) (g4:∀ kf,N ≤ kf → callN Tp polSo (kf+1) 95 [.c db n cap,.i (IntKind.i64.wrap ((a:Int)+IntKind.i64.wrap (IntKind.i64.wrap ((IntKind.i64.wrap ((b:Int) - (a:Int)):Int).tdiv 4) * 2))),.ptr x 0 0 1] H1=some (.i p1,H2)) (g5:∀ kf,N ≤ kf → callN Tp polSo (kf+1) 95 [.c db n cap,.i (IntKind.i64.wrap ((a:Int)+IntKind.i64.wrap (IntKind.i64.wrap ((IntKind.i64.wrap ((b:Int) - (a:Int)):Int).tdiv 4) * 3))),.ptr x 0 0 1] H2=some (.i p2,H3)) (g6:∀ kf,N ≤ kf → callN Tp polSo (kf+1) 96 [.c db n cap,.i p0,.i p1,.i p2,.ptr x 0 0 1] H3=some (.i p3,H4)) (g7:loadV Tp H4 3 (.ptr x 0 0 1)=some (.i x0)) (g8:x0=0):RT polSo 75 (sub [] B75) [(0,.c db n cap),(1,.i (a:Int)),(2,.i (b:Int))] H .ret (env75 (.c db n cap) (.i (a:Int)) (.i (b:Int)) (.i p3) (.i 1) (.i (IntKind.i64.wrap ((b:Int) - (a:Int)))) (.ptr x 0 0 1) (.i p0) (.i p3) (.i p2) (.i x0)) H4 :=
  RunsTo.hin N 60 [⟨2,0,.ptr x 0 0 1,H0⟩,⟨6,1,.bool true,H0⟩,⟨7,1,.bool true,H0⟩,⟨8,2,.i p0,H1⟩,⟨9,2,.i p1,H2⟩,⟨10,2,.i p2,H3⟩,⟨11,4,.i p3,H4⟩,⟨12,0,.i x0,H4⟩,⟨14,0,.bool true,H4⟩] fun kf hk=>⟨_,by kernel_rfl,(oC (g0) (oB H0 (decide_eq_true g1) (oB H0 (decide_eq_true g2) (oC (g3 kf (by omega)) (oC (g4 kf (by omega)) (oC (g5 kf (by omega)) (oC (g6 kf (by omega)) (oP H4 g7 (oB H4 (decide_eq_true g8) .nil)))))))))⟩
theorem cv_a_1 (N:Nat) (db n:Nat) (cap:Option Nat) (H:Heap) (x:Nat) (a:Nat) (b:Nat) {H0:Heap} {p0:Int} {H1:Heap} {p1:Int} {H2:Heap} {p2:Int} {H3:Heap} {p3:Int} {H4:Heap} {x0:Int} (g0:some (newV (.i 0) H)=some (.ptr x 0 0 1,H0)) (g1:8 ≤ IntKind.i64.wrap ((b:Int) - (a:Int))) (g2:50 ≤ IntKind.i64.wrap ((b:Int) - (a:Int))) (g3:∀ kf,N ≤ kf → callN Tp polSo (kf+1) 95 [.c db n cap,.i (IntKind.i64.wrap ((a:Int)+IntKind.i64.wrap (IntKind.i64.wrap ((IntKind.i64.wrap ((b:Int) - (a:Int)):Int).tdiv 4) * 1))),.ptr x 0 0 1] H0=some (.i p0,H1)) (g4:∀ kf,N ≤ kf → callN Tp polSo (kf+1) 95 [.c db n cap,.i (IntKind.i64.wrap ((a:Int)+IntKind.i64.wrap (IntKind.i64.wrap ((IntKind.i64.wrap ((b:Int) - (a:Int)):Int).tdiv 4) * 2))),.ptr x 0 0 1] H1=some (.i p1,H2)) (g5:∀ kf,N ≤ kf → callN Tp polSo (kf+1) 95 [.c db n cap,.i (IntKind.i64.wrap ((a:Int)+IntKind.i64.wrap (IntKind.i64.wrap ((IntKind.i64.wrap ((b:Int) - (a:Int)):Int).tdiv 4) * 3))),.ptr x 0 0 1] H2=some (.i p2,H3)) (g6:∀ kf,N ≤ kf → callN Tp polSo (kf+1) 96 [.c db n cap,.i p0,.i p1,.i p2,.ptr x 0 0 1] H3=some (.i p3,H4)) (g7:loadV Tp H4 3 (.ptr x 0 0 1)=some (.i x0)) (g8:¬ (x0=0)) (g9:x0=12):RT polSo 75 (sub [] B75) [(0,.c db n cap),(1,.i (a:Int)),(2,.i (b:Int))] H .ret (env75 (.c db n cap) (.i (a:Int)) (.i (b:Int)) (.i p3) (.i 2) (.i (IntKind.i64.wrap ((b:Int) - (a:Int)))) (.ptr x 0 0 1) (.i p0) (.i p3) (.i p2) (.i x0)) H4 :=
  RunsTo.hin N 60 [⟨2,0,.ptr x 0 0 1,H0⟩,⟨6,1,.bool true,H0⟩,⟨7,1,.bool true,H0⟩,⟨8,2,.i p0,H1⟩,⟨9,2,.i p1,H2⟩,⟨10,2,.i p2,H3⟩,⟨11,4,.i p3,H4⟩,⟨12,0,.i x0,H4⟩,⟨14,0,.bool false,H4⟩,⟨16,0,.bool true,H4⟩] fun kf hk=>⟨_,by kernel_rfl,(oC (g0) (oB H0 (decide_eq_true g1) (oB H0 (decide_eq_true g2) (oC (g3 kf (by omega)) (oC (g4 kf (by omega)) (oC (g5 kf (by omega)) (oC (g6 kf (by omega)) (oP H4 g7 (oB H4 (decide_eq_false g8) (oB H4 (decide_eq_true g9) .nil))))))))))⟩
theorem cv_a_2 (N:Nat) (db n:Nat) (cap:Option Nat) (H:Heap) (x:Nat) (a:Nat) (b:Nat) {H0:Heap} {p0:Int} {H1:Heap} {p1:Int} {H2:Heap} {p2:Int} {H3:Heap} {p3:Int} {H4:Heap} {x0:Int} (g0:some (newV (.i 0) H)=some (.ptr x 0 0 1,H0)) (g1:8 ≤ IntKind.i64.wrap ((b:Int) - (a:Int))) (g2:50 ≤ IntKind.i64.wrap ((b:Int) - (a:Int))) (g3:∀ kf,N ≤ kf → callN Tp polSo (kf+1) 95 [.c db n cap,.i (IntKind.i64.wrap ((a:Int)+IntKind.i64.wrap (IntKind.i64.wrap ((IntKind.i64.wrap ((b:Int) - (a:Int)):Int).tdiv 4) * 1))),.ptr x 0 0 1] H0=some (.i p0,H1)) (g4:∀ kf,N ≤ kf → callN Tp polSo (kf+1) 95 [.c db n cap,.i (IntKind.i64.wrap ((a:Int)+IntKind.i64.wrap (IntKind.i64.wrap ((IntKind.i64.wrap ((b:Int) - (a:Int)):Int).tdiv 4) * 2))),.ptr x 0 0 1] H1=some (.i p1,H2)) (g5:∀ kf,N ≤ kf → callN Tp polSo (kf+1) 95 [.c db n cap,.i (IntKind.i64.wrap ((a:Int)+IntKind.i64.wrap (IntKind.i64.wrap ((IntKind.i64.wrap ((b:Int) - (a:Int)):Int).tdiv 4) * 3))),.ptr x 0 0 1] H2=some (.i p2,H3)) (g6:∀ kf,N ≤ kf → callN Tp polSo (kf+1) 96 [.c db n cap,.i p0,.i p1,.i p2,.ptr x 0 0 1] H3=some (.i p3,H4)) (g7:loadV Tp H4 3 (.ptr x 0 0 1)=some (.i x0)) (g8:¬ (x0=0)) (g9:¬ (x0=12)):RT polSo 75 (sub [] B75) [(0,.c db n cap),(1,.i (a:Int)),(2,.i (b:Int))] H .ret (env75 (.c db n cap) (.i (a:Int)) (.i (b:Int)) (.i p3) (.i 0) (.i (IntKind.i64.wrap ((b:Int) - (a:Int)))) (.ptr x 0 0 1) (.i p0) (.i p3) (.i p2) (.i x0)) H4 :=
  RunsTo.hin N 60 [⟨2,0,.ptr x 0 0 1,H0⟩,⟨6,1,.bool true,H0⟩,⟨7,1,.bool true,H0⟩,⟨8,2,.i p0,H1⟩,⟨9,2,.i p1,H2⟩,⟨10,2,.i p2,H3⟩,⟨11,4,.i p3,H4⟩,⟨12,0,.i x0,H4⟩,⟨14,0,.bool false,H4⟩,⟨16,0,.bool false,H4⟩] fun kf hk=>⟨_,by kernel_rfl,(oC (g0) (oB H0 (decide_eq_true g1) (oB H0 (decide_eq_true g2) (oC (g3 kf (by omega)) (oC (g4 kf (by omega)) (oC (g5 kf (by omega)) (oC (g6 kf (by omega)) (oP H4 g7 (oB H4 (decide_eq_false g8) (oB H4 (decide_eq_false g9) .nil))))))))))⟩
theorem cv_a_3 (N:Nat) (db n:Nat) (cap:Option Nat) (H:Heap) (x:Nat) (a:Nat) (b:Nat) {H0:Heap} {p0:Int} {H1:Heap} {x0:Int} (g0:some (newV (.i 0) H)=some (.ptr x 0 0 1,H0)) (g1:8 ≤ IntKind.i64.wrap ((b:Int) - (a:Int))) (g2:¬ (50 ≤ IntKind.i64.wrap ((b:Int) - (a:Int)))) (g3:∀ kf,N ≤ kf → callN Tp polSo (kf+1) 96 [.c db n cap,.i (IntKind.i64.wrap ((a:Int)+IntKind.i64.wrap (IntKind.i64.wrap ((IntKind.i64.wrap ((b:Int) - (a:Int)):Int).tdiv 4) * 1))),.i (IntKind.i64.wrap ((a:Int)+IntKind.i64.wrap (IntKind.i64.wrap ((IntKind.i64.wrap ((b:Int) - (a:Int)):Int).tdiv 4) * 2))),.i (IntKind.i64.wrap ((a:Int)+IntKind.i64.wrap (IntKind.i64.wrap ((IntKind.i64.wrap ((b:Int) - (a:Int)):Int).tdiv 4) * 3))),.ptr x 0 0 1] H0=some (.i p0,H1)) (g4:loadV Tp H1 3 (.ptr x 0 0 1)=some (.i x0)) (g5:x0=0):RT polSo 75 (sub [] B75) [(0,.c db n cap),(1,.i (a:Int)),(2,.i (b:Int))] H .ret (env75 (.c db n cap) (.i (a:Int)) (.i (b:Int)) (.i p0) (.i 1) (.i (IntKind.i64.wrap ((b:Int) - (a:Int)))) (.ptr x 0 0 1) (.i (IntKind.i64.wrap ((a:Int)+IntKind.i64.wrap (IntKind.i64.wrap ((IntKind.i64.wrap ((b:Int) - (a:Int)):Int).tdiv 4) * 1)))) (.i p0) (.i (IntKind.i64.wrap ((a:Int)+IntKind.i64.wrap (IntKind.i64.wrap ((IntKind.i64.wrap ((b:Int) - (a:Int)):Int).tdiv 4) * 3)))) (.i x0)) H1 :=
  RunsTo.hin N 60 [⟨2,0,.ptr x 0 0 1,H0⟩,⟨6,1,.bool true,H0⟩,⟨7,1,.bool false,H0⟩,⟨11,4,.i p0,H1⟩,⟨12,0,.i x0,H1⟩,⟨14,0,.bool true,H1⟩] fun kf hk=>⟨_,by kernel_rfl,(oC (g0) (oB H0 (decide_eq_true g1) (oB H0 (decide_eq_false g2) (oC (g3 kf (by omega)) (oP H1 g4 (oB H1 (decide_eq_true g5) .nil))))))⟩
theorem cv_a_4 (N:Nat) (db n:Nat) (cap:Option Nat) (H:Heap) (x:Nat) (a:Nat) (b:Nat) {H0:Heap} {p0:Int} {H1:Heap} {x0:Int} (g0:some (newV (.i 0) H)=some (.ptr x 0 0 1,H0)) (g1:8 ≤ IntKind.i64.wrap ((b:Int) - (a:Int))) (g2:¬ (50 ≤ IntKind.i64.wrap ((b:Int) - (a:Int)))) (g3:∀ kf,N ≤ kf → callN Tp polSo (kf+1) 96 [.c db n cap,.i (IntKind.i64.wrap ((a:Int)+IntKind.i64.wrap (IntKind.i64.wrap ((IntKind.i64.wrap ((b:Int) - (a:Int)):Int).tdiv 4) * 1))),.i (IntKind.i64.wrap ((a:Int)+IntKind.i64.wrap (IntKind.i64.wrap ((IntKind.i64.wrap ((b:Int) - (a:Int)):Int).tdiv 4) * 2))),.i (IntKind.i64.wrap ((a:Int)+IntKind.i64.wrap (IntKind.i64.wrap ((IntKind.i64.wrap ((b:Int) - (a:Int)):Int).tdiv 4) * 3))),.ptr x 0 0 1] H0=some (.i p0,H1)) (g4:loadV Tp H1 3 (.ptr x 0 0 1)=some (.i x0)) (g5:¬ (x0=0)) (g6:x0=12):RT polSo 75 (sub [] B75) [(0,.c db n cap),(1,.i (a:Int)),(2,.i (b:Int))] H .ret (env75 (.c db n cap) (.i (a:Int)) (.i (b:Int)) (.i p0) (.i 2) (.i (IntKind.i64.wrap ((b:Int) - (a:Int)))) (.ptr x 0 0 1) (.i (IntKind.i64.wrap ((a:Int)+IntKind.i64.wrap (IntKind.i64.wrap ((IntKind.i64.wrap ((b:Int) - (a:Int)):Int).tdiv 4) * 1)))) (.i p0) (.i (IntKind.i64.wrap ((a:Int)+IntKind.i64.wrap (IntKind.i64.wrap ((IntKind.i64.wrap ((b:Int) - (a:Int)):Int).tdiv 4) * 3)))) (.i x0)) H1 :=
  RunsTo.hin N 60 [⟨2,0,.ptr x 0 0 1,H0⟩,⟨6,1,.bool true,H0⟩,⟨7,1,.bool false,H0⟩,⟨11,4,.i p0,H1⟩,⟨12,0,.i x0,H1⟩,⟨14,0,.bool false,H1⟩,⟨16,0,.bool true,H1⟩] fun kf hk=>⟨_,by kernel_rfl,(oC (g0) (oB H0 (decide_eq_true g1) (oB H0 (decide_eq_false g2) (oC (g3 kf (by omega)) (oP H1 g4 (oB H1 (decide_eq_false g5) (oB H1 (decide_eq_true g6) .nil)))))))⟩
theorem cv_a_5 (N:Nat) (db n:Nat) (cap:Option Nat) (H:Heap) (x:Nat) (a:Nat) (b:Nat) {H0:Heap} {p0:Int} {H1:Heap} {x0:Int} (g0:some (newV (.i 0) H)=some (.ptr x 0 0 1,H0)) (g1:8 ≤ IntKind.i64.wrap ((b:Int) - (a:Int))) (g2:¬ (50 ≤ IntKind.i64.wrap ((b:Int) - (a:Int)))) (g3:∀ kf,N ≤ kf → callN Tp polSo (kf+1) 96 [.c db n cap,.i (IntKind.i64.wrap ((a:Int)+IntKind.i64.wrap (IntKind.i64.wrap ((IntKind.i64.wrap ((b:Int) - (a:Int)):Int).tdiv 4) * 1))),.i (IntKind.i64.wrap ((a:Int)+IntKind.i64.wrap (IntKind.i64.wrap ((IntKind.i64.wrap ((b:Int) - (a:Int)):Int).tdiv 4) * 2))),.i (IntKind.i64.wrap ((a:Int)+IntKind.i64.wrap (IntKind.i64.wrap ((IntKind.i64.wrap ((b:Int) - (a:Int)):Int).tdiv 4) * 3))),.ptr x 0 0 1] H0=some (.i p0,H1)) (g4:loadV Tp H1 3 (.ptr x 0 0 1)=some (.i x0)) (g5:¬ (x0=0)) (g6:¬ (x0=12)):RT polSo 75 (sub [] B75) [(0,.c db n cap),(1,.i (a:Int)),(2,.i (b:Int))] H .ret (env75 (.c db n cap) (.i (a:Int)) (.i (b:Int)) (.i p0) (.i 0) (.i (IntKind.i64.wrap ((b:Int) - (a:Int)))) (.ptr x 0 0 1) (.i (IntKind.i64.wrap ((a:Int)+IntKind.i64.wrap (IntKind.i64.wrap ((IntKind.i64.wrap ((b:Int) - (a:Int)):Int).tdiv 4) * 1)))) (.i p0) (.i (IntKind.i64.wrap ((a:Int)+IntKind.i64.wrap (IntKind.i64.wrap ((IntKind.i64.wrap ((b:Int) - (a:Int)):Int).tdiv 4) * 3)))) (.i x0)) H1 :=
  RunsTo.hin N 60 [⟨2,0,.ptr x 0 0 1,H0⟩,⟨6,1,.bool true,H0⟩,⟨7,1,.bool false,H0⟩,⟨11,4,.i p0,H1⟩,⟨12,0,.i x0,H1⟩,⟨14,0,.bool false,H1⟩,⟨16,0,.bool false,H1⟩] fun kf hk=>⟨_,by kernel_rfl,(oC (g0) (oB H0 (decide_eq_true g1) (oB H0 (decide_eq_false g2) (oC (g3 kf (by omega)) (oP H1 g4 (oB H1 (decide_eq_false g5) (oB H1 (decide_eq_false g6) .nil)))))))⟩
noncomputable def B94:Code:=Try.f94.body.getD .skip
abbrev env94 (v0 v2:HV):Env:=[(0,v0),(2,v2)]
theorem xs_a_0 (N:Nat) (db n:Nat) (cap:Option Nat) (H:Heap) (x:Nat)  {x0:Int} {x1:Int} {h0:Int} {h1:Int} {H0:Heap} {x2:Int} {x3:Int} {h2:Int} {h3:Int} {H1:Heap} {x4:Int} {x5:Int} {h4:Int} {h5:Int} {H2:Heap} {x6:Int} (g0:loadV Tp H 114 (.ptr x 0 0 1)=some (.int .u64 x0)) (g1:loadV Tp H 114 (.ptr x 0 0 1)=some (.int .u64 x1)) (g2:binV Tp .shl 114 (.int .u64 x1) (.int .u64 13)=some (.int .u64 h0)) (g3:binV Tp .xor 114 (.int .u64 x0) (.int .u64 h0)=some (.int .u64 h1)) (g4:storeV Tp H 114 (.ptr x 0 0 1) (.int .u64 h1)=some H0) (g5:loadV Tp H0 114 (.ptr x 0 0 1)=some (.int .u64 x2)) (g6:loadV Tp H0 114 (.ptr x 0 0 1)=some (.int .u64 x3)) (g7:binV Tp .shr 114 (.int .u64 x3) (.int .u64 7)=some (.int .u64 h2)) (g8:binV Tp .xor 114 (.int .u64 x2) (.int .u64 h2)=some (.int .u64 h3)) (g9:storeV Tp H0 114 (.ptr x 0 0 1) (.int .u64 h3)=some H1) (g10:loadV Tp H1 114 (.ptr x 0 0 1)=some (.int .u64 x4)) (g11:loadV Tp H1 114 (.ptr x 0 0 1)=some (.int .u64 x5)) (g12:binV Tp .shl 114 (.int .u64 x5) (.int .u64 17)=some (.int .u64 h4)) (g13:binV Tp .xor 114 (.int .u64 x4) (.int .u64 h4)=some (.int .u64 h5)) (g14:storeV Tp H1 114 (.ptr x 0 0 1) (.int .u64 h5)=some H2) (g15:loadV Tp H2 114 (.ptr x 0 0 1)=some (.int .u64 x6)):RT polSo 94 (sub [] B94) [(0,.ptr x 0 0 1)] H .ret (env94 (.ptr x 0 0 1) (.int .u64 x6)) H2 :=
  RunsTo.hin N 60 [⟨1,2,.int .u64 x0,H⟩,⟨1,5,.int .u64 x1,H⟩,⟨1,6,.int .u64 h0,H⟩,⟨1,7,.int .u64 h1,H⟩,⟨1,9,.tuple [],H0⟩,⟨2,2,.int .u64 x2,H0⟩,⟨2,5,.int .u64 x3,H0⟩,⟨2,6,.int .u64 h2,H0⟩,⟨2,7,.int .u64 h3,H0⟩,⟨2,9,.tuple [],H1⟩,⟨3,2,.int .u64 x4,H1⟩,⟨3,5,.int .u64 x5,H1⟩,⟨3,6,.int .u64 h4,H1⟩,⟨3,7,.int .u64 h5,H1⟩,⟨3,9,.tuple [],H2⟩,⟨4,2,.int .u64 x6,H2⟩] fun kf hk=>⟨_,by kernel_rfl,(oP H g0 (oP H g1 (oP H g2 (oP H g3 (oS g4 (oP H0 g5 (oP H0 g6 (oP H0 g7 (oP H0 g8 (oS g9 (oP H1 g10 (oP H1 g11 (oP H1 g12 (oP H1 g13 (oS g14 (oP H2 g15 .nil))))))))))))))))⟩
noncomputable def B74:Code:=Try.f74.body.getD .skip
abbrev env74 (v0 v1 v2 v6 v7 v8 v9 v10:HV):Env:=[(0,v0),(1,v1),(2,v2),(6,v6),(7,v7),(8,v8),(9,v9),(10,v10)]
theorem bk_a_0 (N:Nat) (db n:Nat) (cap:Option Nat) (H:Heap) (x:Nat) (a:Nat) (b:Nat):RT polSo 74 (sub [0] B74) [(0,.c db n cap),(1,.i (a:Int)),(2,.i (b:Int))] H .normal (env74 (.c db n cap) (.i (a:Int)) (.i (b:Int)) (.i (IntKind.i64.wrap ((b:Int) - (a:Int)))) Ud Ud Ud Ud) H :=
  RunsTo.hin N 60 [] fun kf hk=>⟨_,by kernel_rfl,.nil⟩
theorem bk_b_0 (N:Nat) (db n:Nat) (cap:Option Nat) (H:Heap) (x:Nat) (a:Nat) (b:Nat) (k:Nat) {y7 y8 y9 y10:HV}(g0:8 ≤ (k:Int)):RunsTo Tp polSo 74 (sub [1,0] B74) (env74 (.c db n cap) (.i (a:Int)) (.i (b:Int)) (.i (k:Int)) y7 y8 y9 y10) H .normal [0,1,2,6,7,8,9,10,15] [(0,.c db n cap),(1,.i (a:Int)),(2,.i (b:Int)),(6,.i (k:Int)),(7,y7),(8,y8),(9,y9),(10,y10),(15,.bool true)] H :=
  RunsTo.hin N 60 [⟨1,1,.bool true,H⟩] fun kf hk=>⟨_,by kernel_rfl,(oB H (decide_eq_true g0) .nil)⟩
theorem bk_c_0 (N:Nat) (db n:Nat) (cap:Option Nat) (H:Heap) (x:Nat) (a:Nat) (b:Nat) (k:Nat) {y7 y8 y9 y10:HV} {H0:Heap} {H1:Heap} (g0:some (newV (.int .u64 0) H)=some (.ptr x 0 0 1,H0)) (g1:storeV Tp H0 114 (.ptr x 0 0 1) (.int .u64 (IntKind.u64.wrap (k:Int)))=some H1):RT polSo 74 (sub [1,1,0,0] B74) (env74 (.c db n cap) (.i (a:Int)) (.i (b:Int)) (.i (k:Int)) y7 y8 y9 y10) H .normal (env74 (.c db n cap) (.i (a:Int)) (.i (b:Int)) (.i (k:Int)) (.ptr x 0 0 1) y8 y9 y10) H1 :=
  RunsTo.hin N 60 [⟨2,2,.ptr x 0 0 1,H0⟩,⟨2,3,.tuple [],H1⟩] fun kf hk=>⟨_,by kernel_rfl,(oC (g0) (oS g1 .nil))⟩
theorem bk_d_0 (N:Nat) (db n:Nat) (cap:Option Nat) (H:Heap) (x:Nat) (a:Nat) (b:Nat) (k:Nat) {y8 y9 y10:HV} {u0:Int} {H0:Heap} (g0:∀ kf,N ≤ kf → callN Tp polSo (kf+1) 93 [.i (k:Int)] H=some (.int .u64 u0,H0)):RT polSo 74 (sub [1,1,0,1,0] B74) (env74 (.c db n cap) (.i (a:Int)) (.i (b:Int)) (.i (k:Int)) (.ptr x 0 0 1) y8 y9 y10) H .normal (env74 (.c db n cap) (.i (a:Int)) (.i (b:Int)) (.i (k:Int)) (.ptr x 0 0 1) (.int .u64 u0) y9 y10) H0 :=
  RunsTo.hin N 60 [⟨3,1,.int .u64 u0,H0⟩] fun kf hk=>⟨_,by kernel_rfl,(oC (g0 kf (by omega)) .nil)⟩
theorem bk_e_0 (N:Nat) (db n:Nat) (cap:Option Nat) (H:Heap) (x:Nat) (a:Nat) (b:Nat) (k:Nat) (mo:Int) {y9 y10:HV}:RT polSo 74 (sub [1,1,0,1,1,0] B74) (env74 (.c db n cap) (.i (a:Int)) (.i (b:Int)) (.i (k:Int)) (.ptr x 0 0 1) (.int .u64 mo) y9 y10) H .normal (env74 (.c db n cap) (.i (a:Int)) (.i (b:Int)) (.i (k:Int)) (.ptr x 0 0 1) (.int .u64 mo) (.i (IntKind.i64.wrap (IntKind.i64.wrap ((a:Int)+IntKind.i64.wrap (IntKind.i64.wrap (((k:Int):Int).tdiv 4) * 2)) - 1))) y10) H :=
  RunsTo.hin N 60 [] fun kf hk=>⟨_,by kernel_rfl,.nil⟩
theorem bk_f_0 (N:Nat) (db n:Nat) (cap:Option Nat) (H:Heap) (x:Nat) (a:Nat) (b:Nat) (k:Nat) (mo:Int) (i:Nat) {y10:HV} {u0:Int} {H0:Heap} {h0:Int} {a0:HV} {v0:HV} {a1:HV} {v1:HV} {a2:HV} {H1:Heap} {a3:HV} {H2:Heap} (g0:(i:Int) ≤ IntKind.i64.wrap (IntKind.i64.wrap ((a:Int)+IntKind.i64.wrap (IntKind.i64.wrap (((k:Int):Int).tdiv 4) * 2))+1)) (g1:∀ kf,N ≤ kf → callN Tp polSo (kf+1) 94 [.ptr x 0 0 1] H=some (.int .u64 u0,H0)) (g2:binV Tp .and 85 (.int .u64 u0) (.int .u64 (IntKind.u64.wrap (mo - 1)))=some (.int .u64 h0)) (g3:(k:Int) ≤ IntKind.i64.wrap h0) (g4:idxV Tp 22 (.c db n cap) (.i (IntKind.i64.wrap ((a:Int)+IntKind.i64.wrap (IntKind.i64.wrap h0 - (k:Int)))))=some (a0)) (g5:loadV Tp H0 3 (a0)=some (v0)) (g6:idxV Tp 22 (.c db n cap) (.i (i:Int))=some (a1)) (g7:loadV Tp H0 3 (a1)=some (v1)) (g8:idxV Tp 22 (.c db n cap) (.i (i:Int))=some (a2)) (g9:storeV Tp H0 3 (a2) (v0)=some H1) (g10:idxV Tp 22 (.c db n cap) (.i (IntKind.i64.wrap ((a:Int)+IntKind.i64.wrap (IntKind.i64.wrap h0 - (k:Int)))))=some (a3)) (g11:storeV Tp H1 3 (a3) (v1)=some H2):RT polSo 74 (sub [1,1,0,1,1,1,0,0] B74) (env74 (.c db n cap) (.i (a:Int)) (.i (b:Int)) (.i (k:Int)) (.ptr x 0 0 1) (.int .u64 mo) (.i (i:Int)) y10) H .normal (env74 (.c db n cap) (.i (a:Int)) (.i (b:Int)) (.i (k:Int)) (.ptr x 0 0 1) (.int .u64 mo) (.i (IntKind.i64.wrap ((i:Int)+1))) (.i (IntKind.i64.wrap (IntKind.i64.wrap h0 - (k:Int))))) H2 :=
  RunsTo.hin N 60 [⟨5,7,.bool true,H⟩,⟨7,0,.int .u64 u0,H0⟩,⟨7,3,.int .u64 h0,H0⟩,⟨8,2,.bool true,H0⟩,⟨10,10,a0,H0⟩,⟨10,11,v0,H0⟩,⟨10,14,a1,H0⟩,⟨10,15,v1,H0⟩,⟨10,16,a2,H0⟩,⟨10,17,.tuple [],H1⟩,⟨10,18,a3,H1⟩,⟨10,19,.tuple [],H2⟩] fun kf hk=>⟨_,by kernel_rfl,(oB H (decide_eq_true g0) (oC (g1 kf (by omega)) (oP H0 g2 (oB H0 (decide_eq_true g3) (oP H0 g4 (oP H0 g5 (oP H0 g6 (oP H0 g7 (oP H0 g8 (oS g9 (oP H1 g10 (oS g11 .nil))))))))))))⟩
theorem bk_f_1 (N:Nat) (db n:Nat) (cap:Option Nat) (H:Heap) (x:Nat) (a:Nat) (b:Nat) (k:Nat) (mo:Int) (i:Nat) {y10:HV} {u0:Int} {H0:Heap} {h0:Int} {a0:HV} {v0:HV} {a1:HV} {v1:HV} {a2:HV} {H1:Heap} {a3:HV} {H2:Heap} (g0:(i:Int) ≤ IntKind.i64.wrap (IntKind.i64.wrap ((a:Int)+IntKind.i64.wrap (IntKind.i64.wrap (((k:Int):Int).tdiv 4) * 2))+1)) (g1:∀ kf,N ≤ kf → callN Tp polSo (kf+1) 94 [.ptr x 0 0 1] H=some (.int .u64 u0,H0)) (g2:binV Tp .and 85 (.int .u64 u0) (.int .u64 (IntKind.u64.wrap (mo - 1)))=some (.int .u64 h0)) (g3:¬ ((k:Int) ≤ IntKind.i64.wrap h0)) (g4:idxV Tp 22 (.c db n cap) (.i (IntKind.i64.wrap ((a:Int)+IntKind.i64.wrap h0)))=some (a0)) (g5:loadV Tp H0 3 (a0)=some (v0)) (g6:idxV Tp 22 (.c db n cap) (.i (i:Int))=some (a1)) (g7:loadV Tp H0 3 (a1)=some (v1)) (g8:idxV Tp 22 (.c db n cap) (.i (i:Int))=some (a2)) (g9:storeV Tp H0 3 (a2) (v0)=some H1) (g10:idxV Tp 22 (.c db n cap) (.i (IntKind.i64.wrap ((a:Int)+IntKind.i64.wrap h0)))=some (a3)) (g11:storeV Tp H1 3 (a3) (v1)=some H2):RT polSo 74 (sub [1,1,0,1,1,1,0,0] B74) (env74 (.c db n cap) (.i (a:Int)) (.i (b:Int)) (.i (k:Int)) (.ptr x 0 0 1) (.int .u64 mo) (.i (i:Int)) y10) H .normal (env74 (.c db n cap) (.i (a:Int)) (.i (b:Int)) (.i (k:Int)) (.ptr x 0 0 1) (.int .u64 mo) (.i (IntKind.i64.wrap ((i:Int)+1))) (.i (IntKind.i64.wrap h0))) H2 :=
  RunsTo.hin N 60 [⟨5,7,.bool true,H⟩,⟨7,0,.int .u64 u0,H0⟩,⟨7,3,.int .u64 h0,H0⟩,⟨8,2,.bool false,H0⟩,⟨10,10,a0,H0⟩,⟨10,11,v0,H0⟩,⟨10,14,a1,H0⟩,⟨10,15,v1,H0⟩,⟨10,16,a2,H0⟩,⟨10,17,.tuple [],H1⟩,⟨10,18,a3,H1⟩,⟨10,19,.tuple [],H2⟩] fun kf hk=>⟨_,by kernel_rfl,(oB H (decide_eq_true g0) (oC (g1 kf (by omega)) (oP H0 g2 (oB H0 (decide_eq_false g3) (oP H0 g4 (oP H0 g5 (oP H0 g6 (oP H0 g7 (oP H0 g8 (oS g9 (oP H1 g10 (oS g11 .nil))))))))))))⟩
theorem bk_f_2 (N:Nat) (db n:Nat) (cap:Option Nat) (H:Heap) (x:Nat) (a:Nat) (b:Nat) (k:Nat) (mo:Int) (i:Nat) {y10:HV}(g0:¬ ((i:Int) ≤ IntKind.i64.wrap (IntKind.i64.wrap ((a:Int)+IntKind.i64.wrap (IntKind.i64.wrap (((k:Int):Int).tdiv 4) * 2))+1))):RT polSo 74 (sub [1,1,0,1,1,1,0,0] B74) (env74 (.c db n cap) (.i (a:Int)) (.i (b:Int)) (.i (k:Int)) (.ptr x 0 0 1) (.int .u64 mo) (.i (i:Int)) y10) H (.exit 0) (env74 (.c db n cap) (.i (a:Int)) (.i (b:Int)) (.i (k:Int)) (.ptr x 0 0 1) (.int .u64 mo) (.i (i:Int)) y10) H :=
  RunsTo.hin N 60 [⟨5,7,.bool false,H⟩] fun kf hk=>⟨_,by kernel_rfl,(oB H (decide_eq_false g0) .nil)⟩
noncomputable def B67:Code:=Try.f67.body.getD .skip
abbrev env67 (v0 v1 v2 v3 v8 v9 v10 v11 v12 v13 v14 v15 v16 v17 v18:HV):Env:=[(0,v0),(1,v1),(2,v2),(3,v3),(8,v8),(9,v9),(10,v10),(11,v11),(12,v12),(13,v13),(14,v14),(15,v15),(16,v16),(17,v17),(18,v18)]
theorem pq_a_0 (N:Nat) (db n:Nat) (cap:Option Nat) (H:Heap) (x:Nat) (a:Nat) (b:Nat) (lim:Int):RT polSo 67 (sub [0] B67) [(0,.c db n cap),(1,.i (a:Int)),(2,.i (b:Int)),(3,.i lim)] H .normal (env67 (.c db n cap) (.i (a:Int)) (.i (b:Int)) (.i lim) (.bool true) Ud Ud Ud Ud Ud Ud Ud Ud Ud Ud) H :=
  RunsTo.hin N 60 [] fun kf hk=>⟨_,by kernel_rfl,.nil⟩
theorem pq_b_0 (N:Nat) (db n:Nat) (cap:Option Nat) (H:Heap) (x:Nat) (a:Nat) (b:Nat) (lim:Int) {y8 y9 y10 y11 y12 y13 y14 y15 y16 y17 y18:HV}:RT polSo 67 (sub [1,0] B67) (env67 (.c db n cap) (.i (a:Int)) (.i (b:Int)) (.i lim) y8 y9 y10 y11 y12 y13 y14 y15 y16 y17 y18) H .normal (env67 (.c db n cap) (.i (a:Int)) (.i (b:Int)) (.i lim) y8 (.bool true) y10 y11 y12 y13 y14 y15 y16 y17 y18) H :=
  RunsTo.hin N 60 [] fun kf hk=>⟨_,by kernel_rfl,.nil⟩
theorem pq_c_0 (N:Nat) (db n:Nat) (cap:Option Nat) (H:Heap) (x:Nat) (a:Nat) (b:Nat) (lim:Int) {y8 y9 y10 y11 y12 y13 y14 y15 y16 y17 y18:HV}:RT polSo 67 (sub [1,1,0,0,0,0] B67) (env67 (.c db n cap) (.i (a:Int)) (.i (b:Int)) (.i lim) y8 y9 y10 y11 y12 y13 y14 y15 y16 y17 y18) H .normal (env67 (.c db n cap) (.i (a:Int)) (.i (b:Int)) (.i lim) y8 y9 (.i (IntKind.i64.wrap ((b:Int) - (a:Int)))) y11 y12 y13 y14 y15 y16 y17 y18) H :=
  RunsTo.hin N 60 [] fun kf hk=>⟨_,by kernel_rfl,.nil⟩
theorem pq_d_0 (N:Nat) (db n:Nat) (cap:Option Nat) (H:Heap) (x:Nat) (a:Nat) (b:Nat) (lim:Int) (k:Nat) {y8 y9 y11 y12 y13 y14 y15 y16 y17 y18:HV} {H0:Heap} (g0:(k:Int) ≤ 12) (g1:∀ kf,N ≤ kf → callN Tp polSo (kf+1) 72 [.c db n cap,.i (a:Int),.i (b:Int)] H=some (.tuple [],H0)):RT polSo 67 (sub [1,1,0,0,0,1,0] B67) (env67 (.c db n cap) (.i (a:Int)) (.i (b:Int)) (.i lim) y8 y9 (.i (k:Int)) y11 y12 y13 y14 y15 y16 y17 y18) H .ret (env67 (.c db n cap) (.i (a:Int)) (.i (b:Int)) (.i lim) y8 y9 (.i (k:Int)) y11 y12 y13 y14 y15 y16 y17 y18) H0 :=
  RunsTo.hin N 60 [⟨3,1,.bool true,H⟩,⟨4,3,.tuple [],H0⟩] fun kf hk=>⟨_,by kernel_rfl,(oB H (decide_eq_true g0) (oC (g1 kf (by omega)) .nil))⟩
theorem pq_d_1 (N:Nat) (db n:Nat) (cap:Option Nat) (H:Heap) (x:Nat) (a:Nat) (b:Nat) (lim:Int) (k:Nat) {y8 y9 y11 y12 y13 y14 y15 y16 y17 y18:HV}(g0:¬ ((k:Int) ≤ 12)):RT polSo 67 (sub [1,1,0,0,0,1,0] B67) (env67 (.c db n cap) (.i (a:Int)) (.i (b:Int)) (.i lim) y8 y9 (.i (k:Int)) y11 y12 y13 y14 y15 y16 y17 y18) H .normal (env67 (.c db n cap) (.i (a:Int)) (.i (b:Int)) (.i lim) y8 y9 (.i (k:Int)) y11 y12 y13 y14 y15 y16 y17 y18) H :=
  RunsTo.hin N 60 [⟨3,1,.bool false,H⟩] fun kf hk=>⟨_,by kernel_rfl,(oB H (decide_eq_false g0) .nil)⟩
theorem pq_e_0 (N:Nat) (db n:Nat) (cap:Option Nat) (H:Heap) (x:Nat) (a:Nat) (b:Nat) (lim:Int) {y8 y9 y10 y11 y12 y13 y14 y15 y16 y17 y18:HV} {H0:Heap} (g0:lim=0) (g1:∀ kf,N ≤ kf → callN Tp polSo (kf+1) 73 [.c db n cap,.i (a:Int),.i (b:Int)] H=some (.tuple [],H0)):RT polSo 67 (sub [1,1,0,0,0,1,1,0] B67) (env67 (.c db n cap) (.i (a:Int)) (.i (b:Int)) (.i lim) y8 y9 y10 y11 y12 y13 y14 y15 y16 y17 y18) H .ret (env67 (.c db n cap) (.i (a:Int)) (.i (b:Int)) (.i lim) y8 y9 y10 y11 y12 y13 y14 y15 y16 y17 y18) H0 :=
  RunsTo.hin N 60 [⟨5,1,.bool true,H⟩,⟨6,3,.tuple [],H0⟩] fun kf hk=>⟨_,by kernel_rfl,(oB H (decide_eq_true g0) (oC (g1 kf (by omega)) .nil))⟩
theorem pq_e_1 (N:Nat) (db n:Nat) (cap:Option Nat) (H:Heap) (x:Nat) (a:Nat) (b:Nat) (lim:Int) {y8 y9 y10 y11 y12 y13 y14 y15 y16 y17 y18:HV}(g0:¬ (lim=0)):RT polSo 67 (sub [1,1,0,0,0,1,1,0] B67) (env67 (.c db n cap) (.i (a:Int)) (.i (b:Int)) (.i lim) y8 y9 y10 y11 y12 y13 y14 y15 y16 y17 y18) H .normal (env67 (.c db n cap) (.i (a:Int)) (.i (b:Int)) (.i lim) y8 y9 y10 y11 y12 y13 y14 y15 y16 y17 y18) H :=
  RunsTo.hin N 60 [⟨5,1,.bool false,H⟩] fun kf hk=>⟨_,by kernel_rfl,(oB H (decide_eq_false g0) .nil)⟩
theorem pq_f_0 (N:Nat) (db n:Nat) (cap:Option Nat) (H:Heap) (x:Nat) (a:Nat) (b:Nat) (lim:Int) {y9 y10 y11 y12 y13 y14 y15 y16 y17 y18:HV}:RT polSo 67 (sub [1,1,0,0,0,1,1,1,0] B67) (env67 (.c db n cap) (.i (a:Int)) (.i (b:Int)) (.i lim) (.bool true) y9 y10 y11 y12 y13 y14 y15 y16 y17 y18) H .normal (env67 (.c db n cap) (.i (a:Int)) (.i (b:Int)) (.i lim) (.bool true) y9 y10 y11 y12 y13 y14 y15 y16 y17 y18) H :=
  RunsTo.hin N 60 [] fun kf hk=>⟨_,by kernel_rfl,.nil⟩
theorem pq_g_0 (N:Nat) (db n:Nat) (cap:Option Nat) (H:Heap) (x:Nat) (a:Nat) (b:Nat) (lim:Int) {y9 y10 y11 y12 y13 y14 y15 y16 y17 y18:HV} {H0:Heap} (g0:∀ kf,N ≤ kf → callN Tp polSo (kf+1) 74 [.c db n cap,.i (a:Int),.i (b:Int)] H=some (.tuple [],H0)):RT polSo 67 (sub [1,1,0,0,0,1,1,1,0] B67) (env67 (.c db n cap) (.i (a:Int)) (.i (b:Int)) (.i lim) (.bool false) y9 y10 y11 y12 y13 y14 y15 y16 y17 y18) H .normal (env67 (.c db n cap) (.i (a:Int)) (.i (b:Int)) (.i (IntKind.i64.wrap (lim - 1))) (.bool false) y9 y10 y11 y12 y13 y14 y15 y16 y17 y18) H0 :=
  RunsTo.hin N 60 [⟨8,3,.tuple [],H0⟩] fun kf hk=>⟨_,by kernel_rfl,(oC (g0 kf (by omega)) .nil)⟩
theorem pq_h_0 (N:Nat) (db n:Nat) (cap:Option Nat) (H:Heap) (x:Nat) (a:Nat) (b:Nat) (lim:Int) {y8 y9 y10 y11 y12 y13 y14 y15 y16 y17 y18:HV} {p0:Int} {p1:Int} {H0:Heap} (g0:∀ kf,N ≤ kf → callN Tp polSo (kf+1) 75 [.c db n cap,.i (a:Int),.i (b:Int)] H=some (.tuple [.i p0,.i p1],H0)):RT polSo 67 (sub [1,1,0,0,0,1,1,1,1,0] B67) (env67 (.c db n cap) (.i (a:Int)) (.i (b:Int)) (.i lim) y8 y9 y10 y11 y12 y13 y14 y15 y16 y17 y18) H .normal (env67 (.c db n cap) (.i (a:Int)) (.i (b:Int)) (.i lim) y8 y9 y10 (.i p0) (.i p1) y13 y14 y15 y16 y17 y18) H0 :=
  RunsTo.hin N 60 [⟨10,3,.tuple [.i p0,.i p1],H0⟩] fun kf hk=>⟨_,by kernel_rfl,(oC (g0 kf (by omega)) .nil)⟩
theorem pq_i_0 (N:Nat) (db n:Nat) (cap:Option Nat) (H:Heap) (x:Nat) (a:Nat) (b:Nat) (lim:Int) (p:Nat) (h:Int) {y8 y9 y10 y13 y14 y15 y16 y17 y18:HV} {H0:Heap} (g0:h=2) (g1:∀ kf,N ≤ kf → callN Tp polSo (kf+1) 76 [.c db n cap,.i (a:Int),.i (b:Int)] H=some (.tuple [],H0)):RT polSo 67 (sub [1,1,0,0,0,1,1,1,1,1,0] B67) (env67 (.c db n cap) (.i (a:Int)) (.i (b:Int)) (.i lim) y8 y9 y10 (.i (p:Int)) (.i h) y13 y14 y15 y16 y17 y18) H .normal (env67 (.c db n cap) (.i (a:Int)) (.i (b:Int)) (.i lim) y8 y9 y10 (.i (IntKind.i64.wrap (IntKind.i64.wrap ((b:Int) - 1) - IntKind.i64.wrap ((p:Int) - (a:Int))))) (.i 1) y13 y14 y15 y16 y17 y18) H0 :=
  RunsTo.hin N 60 [⟨11,1,.bool true,H⟩,⟨12,3,.tuple [],H0⟩] fun kf hk=>⟨_,by kernel_rfl,(oB H (decide_eq_true g0) (oC (g1 kf (by omega)) .nil))⟩
theorem pq_i_1 (N:Nat) (db n:Nat) (cap:Option Nat) (H:Heap) (x:Nat) (a:Nat) (b:Nat) (lim:Int) (p:Nat) (h:Int) {y8 y9 y10 y13 y14 y15 y16 y17 y18:HV}(g0:¬ (h=2)):RT polSo 67 (sub [1,1,0,0,0,1,1,1,1,1,0] B67) (env67 (.c db n cap) (.i (a:Int)) (.i (b:Int)) (.i lim) y8 y9 y10 (.i (p:Int)) (.i h) y13 y14 y15 y16 y17 y18) H .normal (env67 (.c db n cap) (.i (a:Int)) (.i (b:Int)) (.i lim) y8 y9 y10 (.i (p:Int)) (.i h) y13 y14 y15 y16 y17 y18) H :=
  RunsTo.hin N 60 [⟨11,1,.bool false,H⟩] fun kf hk=>⟨_,by kernel_rfl,(oB H (decide_eq_false g0) .nil)⟩
theorem pq_j_0 (N:Nat) (db n:Nat) (cap:Option Nat) (H:Heap) (x:Nat) (a:Nat) (b:Nat) (lim:Int) (h:Int) {y10 y11 y13 y14 y15 y16 y17 y18:HV} {H0:Heap} (g0:h=1) (g1:∀ kf,N ≤ kf → callN Tp polSo (kf+1) 77 [.c db n cap,.i (a:Int),.i (b:Int)] H=some (.bool true,H0)):RT polSo 67 (sub [1,1,0,0,0,1,1,1,1,1,1,0] B67) (env67 (.c db n cap) (.i (a:Int)) (.i (b:Int)) (.i lim) (.bool true) (.bool true) y10 y11 (.i h) y13 y14 y15 y16 y17 y18) H .ret (env67 (.c db n cap) (.i (a:Int)) (.i (b:Int)) (.i lim) (.bool true) (.bool true) y10 y11 (.i h) y13 y14 y15 y16 y17 y18) H0 :=
  RunsTo.hin N 60 [⟨15,6,.bool true,H⟩,⟨16,3,.bool true,H0⟩] fun kf hk=>⟨_,by kernel_rfl,(oB H (decide_eq_true g0) (oC (g1 kf (by omega)) .nil))⟩
theorem pq_j_1 (N:Nat) (db n:Nat) (cap:Option Nat) (H:Heap) (x:Nat) (a:Nat) (b:Nat) (lim:Int) (h:Int) {y10 y11 y13 y14 y15 y16 y17 y18:HV} {H0:Heap} (g0:h=1) (g1:∀ kf,N ≤ kf → callN Tp polSo (kf+1) 77 [.c db n cap,.i (a:Int),.i (b:Int)] H=some (.bool false,H0)):RT polSo 67 (sub [1,1,0,0,0,1,1,1,1,1,1,0] B67) (env67 (.c db n cap) (.i (a:Int)) (.i (b:Int)) (.i lim) (.bool true) (.bool true) y10 y11 (.i h) y13 y14 y15 y16 y17 y18) H .normal (env67 (.c db n cap) (.i (a:Int)) (.i (b:Int)) (.i lim) (.bool true) (.bool true) y10 y11 (.i h) y13 y14 y15 y16 y17 y18) H0 :=
  RunsTo.hin N 60 [⟨15,6,.bool true,H⟩,⟨16,3,.bool false,H0⟩] fun kf hk=>⟨_,by kernel_rfl,(oB H (decide_eq_true g0) (oC (g1 kf (by omega)) .nil))⟩
theorem pq_j_2 (N:Nat) (db n:Nat) (cap:Option Nat) (H:Heap) (x:Nat) (a:Nat) (b:Nat) (lim:Int) (h:Int) {y10 y11 y13 y14 y15 y16 y17 y18:HV}(g0:¬ (h=1)):RT polSo 67 (sub [1,1,0,0,0,1,1,1,1,1,1,0] B67) (env67 (.c db n cap) (.i (a:Int)) (.i (b:Int)) (.i lim) (.bool true) (.bool true) y10 y11 (.i h) y13 y14 y15 y16 y17 y18) H .normal (env67 (.c db n cap) (.i (a:Int)) (.i (b:Int)) (.i lim) (.bool true) (.bool true) y10 y11 (.i h) y13 y14 y15 y16 y17 y18) H :=
  RunsTo.hin N 60 [⟨15,6,.bool false,H⟩] fun kf hk=>⟨_,by kernel_rfl,(oB H (decide_eq_false g0) .nil)⟩
theorem pq_k_0 (N:Nat) (db n:Nat) (cap:Option Nat) (H:Heap) (x:Nat) (a:Nat) (b:Nat) (lim:Int) (h:Int) {y10 y11 y13 y14 y15 y16 y17 y18:HV}:RT polSo 67 (sub [1,1,0,0,0,1,1,1,1,1,1,0] B67) (env67 (.c db n cap) (.i (a:Int)) (.i (b:Int)) (.i lim) (.bool true) (.bool false) y10 y11 (.i h) y13 y14 y15 y16 y17 y18) H .normal (env67 (.c db n cap) (.i (a:Int)) (.i (b:Int)) (.i lim) (.bool true) (.bool false) y10 y11 (.i h) y13 y14 y15 y16 y17 y18) H :=
  RunsTo.hin N 60 [] fun kf hk=>⟨_,by kernel_rfl,.nil⟩
theorem pq_l_0 (N:Nat) (db n:Nat) (cap:Option Nat) (H:Heap) (x:Nat) (a:Nat) (b:Nat) (lim:Int) (h:Int) {y9 y10 y11 y13 y14 y15 y16 y17 y18:HV}:RT polSo 67 (sub [1,1,0,0,0,1,1,1,1,1,1,0] B67) (env67 (.c db n cap) (.i (a:Int)) (.i (b:Int)) (.i lim) (.bool false) y9 y10 y11 (.i h) y13 y14 y15 y16 y17 y18) H .normal (env67 (.c db n cap) (.i (a:Int)) (.i (b:Int)) (.i lim) (.bool false) y9 y10 y11 (.i h) y13 y14 y15 y16 y17 y18) H :=
  RunsTo.hin N 60 [] fun kf hk=>⟨_,by kernel_rfl,.nil⟩
theorem pq_m_0 (N:Nat) (db n:Nat) (cap:Option Nat) (H:Heap) (x:Nat) (a:Nat) (b:Nat) (lim:Int) (p:Nat) {y8 y9 y10 y12 y13 y14 y15 y16 y17 y18:HV} {a0:HV} {v0:HV} {a1:HV} {v1:HV} {H0:Heap} (g0:0 < (a:Int)) (g1:idxV Tp 22 (.c db n cap) (.i (IntKind.i64.wrap ((a:Int) - 1)))=some (a0)) (g2:loadV Tp H 3 (a0)=some (v0)) (g3:idxV Tp 22 (.c db n cap) (.i (p:Int))=some (a1)) (g4:loadV Tp H 3 (a1)=some (v1)) (g5:∀ kf,N ≤ kf → callN Tp polSo (kf+1) 78 [v0,v1] H=some (.bool true,H0)):RT polSo 67 (sub [1,1,0,0,0,1,1,1,1,1,1,1,0] B67) (env67 (.c db n cap) (.i (a:Int)) (.i (b:Int)) (.i lim) y8 y9 y10 (.i (p:Int)) y12 y13 y14 y15 y16 y17 y18) H .normal (env67 (.c db n cap) (.i (a:Int)) (.i (b:Int)) (.i lim) y8 y9 y10 (.i (p:Int)) y12 y13 y14 y15 y16 y17 y18) H0 :=
  RunsTo.hin N 60 [⟨17,1,.bool true,H⟩,⟨17,6,a0,H⟩,⟨17,7,v0,H⟩,⟨17,10,a1,H⟩,⟨17,11,v1,H⟩,⟨17,12,.bool true,H0⟩] fun kf hk=>⟨_,by kernel_rfl,(oB H (decide_eq_true g0) (oP H g1 (oP H g2 (oP H g3 (oP H g4 (oC (g5 kf (by omega)) .nil))))))⟩
theorem pq_m_1 (N:Nat) (db n:Nat) (cap:Option Nat) (H:Heap) (x:Nat) (a:Nat) (b:Nat) (lim:Int) (p:Nat) {y8 y9 y10 y12 y13 y14 y15 y16 y17 y18:HV} {a0:HV} {v0:HV} {a1:HV} {v1:HV} {H0:Heap} {m0:Int} {H1:Heap} (g0:0 < (a:Int)) (g1:idxV Tp 22 (.c db n cap) (.i (IntKind.i64.wrap ((a:Int) - 1)))=some (a0)) (g2:loadV Tp H 3 (a0)=some (v0)) (g3:idxV Tp 22 (.c db n cap) (.i (p:Int))=some (a1)) (g4:loadV Tp H 3 (a1)=some (v1)) (g5:∀ kf,N ≤ kf → callN Tp polSo (kf+1) 78 [v0,v1] H=some (.bool false,H0)) (g6:∀ kf,N ≤ kf → callN Tp polSo (kf+1) 79 [.c db n cap,.i (a:Int),.i (b:Int),.i (p:Int)] H0=some (.i m0,H1)):RT polSo 67 (sub [1,1,0,0,0,1,1,1,1,1,1,1,0] B67) (env67 (.c db n cap) (.i (a:Int)) (.i (b:Int)) (.i lim) y8 y9 y10 (.i (p:Int)) y12 y13 y14 y15 y16 y17 y18) H (.exit 1) (env67 (.c db n cap) (.i m0) (.i (b:Int)) (.i lim) y8 y9 y10 (.i (p:Int)) y12 (.i m0) y14 y15 y16 y17 y18) H1 :=
  RunsTo.hin N 60 [⟨17,1,.bool true,H⟩,⟨17,6,a0,H⟩,⟨17,7,v0,H⟩,⟨17,10,a1,H⟩,⟨17,11,v1,H⟩,⟨17,12,.bool false,H0⟩,⟨18,4,.i m0,H1⟩] fun kf hk=>⟨_,by kernel_rfl,(oB H (decide_eq_true g0) (oP H g1 (oP H g2 (oP H g3 (oP H g4 (oC (g5 kf (by omega)) (oC (g6 kf (by omega)) .nil)))))))⟩
theorem pq_m_2 (N:Nat) (db n:Nat) (cap:Option Nat) (H:Heap) (x:Nat) (a:Nat) (b:Nat) (lim:Int) (p:Nat) {y8 y9 y10 y12 y13 y14 y15 y16 y17 y18:HV}(g0:¬ (0 < (a:Int))):RT polSo 67 (sub [1,1,0,0,0,1,1,1,1,1,1,1,0] B67) (env67 (.c db n cap) (.i (a:Int)) (.i (b:Int)) (.i lim) y8 y9 y10 (.i (p:Int)) y12 y13 y14 y15 y16 y17 y18) H .normal (env67 (.c db n cap) (.i (a:Int)) (.i (b:Int)) (.i lim) y8 y9 y10 (.i (p:Int)) y12 y13 y14 y15 y16 y17 y18) H :=
  RunsTo.hin N 60 [⟨17,1,.bool false,H⟩] fun kf hk=>⟨_,by kernel_rfl,(oB H (decide_eq_false g0) .nil)⟩
theorem pq_n_0 (N:Nat) (db n:Nat) (cap:Option Nat) (H:Heap) (x:Nat) (a:Nat) (b:Nat) (lim:Int) (p:Nat) {y8 y9 y10 y12 y13 y14 y15 y16 y17 y18:HV} {m0:Int} {bb0:Bool} {H0:Heap} (g0:∀ kf,N ≤ kf → callN Tp polSo (kf+1) 80 [.c db n cap,.i (a:Int),.i (b:Int),.i (p:Int)] H=some (.tuple [.i m0,.bool bb0],H0)):RT polSo 67 (sub [1,1,0,0,0,1,1,1,1,1,1,1,1,0] B67) (env67 (.c db n cap) (.i (a:Int)) (.i (b:Int)) (.i lim) y8 y9 y10 (.i (p:Int)) y12 y13 y14 y15 y16 y17 y18) H .normal (env67 (.c db n cap) (.i (a:Int)) (.i (b:Int)) (.i lim) y8 y9 y10 (.i (p:Int)) y12 y13 (.i m0) (.bool bb0) y16 y17 y18) H0 :=
  RunsTo.hin N 60 [⟨20,4,.tuple [.i m0,.bool bb0],H0⟩] fun kf hk=>⟨_,by kernel_rfl,(oC (g0 kf (by omega)) .nil)⟩
theorem pq_o_0 (N:Nat) (db n:Nat) (cap:Option Nat) (H:Heap) (x:Nat) (a:Nat) (b:Nat) (lim:Int) {y8 y9 y10 y11 y12 y13 y14 y15 y16 y17 y18:HV}:RT polSo 67 (sub [1,1,0,0,0,1,1,1,1,1,1,1,1,1,0] B67) (env67 (.c db n cap) (.i (a:Int)) (.i (b:Int)) (.i lim) y8 y9 y10 y11 y12 y13 y14 y15 y16 y17 y18) H .normal (env67 (.c db n cap) (.i (a:Int)) (.i (b:Int)) (.i lim) y8 y15 y10 y11 y12 y13 y14 y15 y16 y17 y18) H :=
  RunsTo.hin N 60 [] fun kf hk=>⟨_,by kernel_rfl,.nil⟩
theorem pq_p_0 (N:Nat) (db n:Nat) (cap:Option Nat) (H:Heap) (x:Nat) (a:Nat) (b:Nat) (lim:Int) (q:Nat) {y8 y9 y10 y11 y12 y13 y15 y16 y17 y18:HV}:RT polSo 67 (sub [1,1,0,0,0,1,1,1,1,1,1,1,1,1,1,0] B67) (env67 (.c db n cap) (.i (a:Int)) (.i (b:Int)) (.i lim) y8 y9 y10 y11 y12 y13 (.i (q:Int)) y15 y16 y17 y18) H .normal (env67 (.c db n cap) (.i (a:Int)) (.i (b:Int)) (.i lim) y8 y9 y10 y11 y12 y13 (.i (q:Int)) y15 (.i (IntKind.i64.wrap ((q:Int) - (a:Int)))) (.i (IntKind.i64.wrap ((b:Int) - (q:Int)))) y18) H :=
  RunsTo.hin N 60 [] fun kf hk=>⟨_,by kernel_rfl,.nil⟩
theorem pq_q_0 (N:Nat) (db n:Nat) (cap:Option Nat) (H:Heap) (x:Nat) (a:Nat) (b:Nat) (lim:Int) (k:Nat) {y8 y9 y11 y12 y13 y14 y15 y16 y17 y18:HV}:RT polSo 67 (sub [1,1,0,0,0,1,1,1,1,1,1,1,1,1,1,1,0] B67) (env67 (.c db n cap) (.i (a:Int)) (.i (b:Int)) (.i lim) y8 y9 (.i (k:Int)) y11 y12 y13 y14 y15 y16 y17 y18) H .normal (env67 (.c db n cap) (.i (a:Int)) (.i (b:Int)) (.i lim) y8 y9 (.i (k:Int)) y11 y12 y13 y14 y15 y16 y17 (.i (IntKind.i64.wrap (((k:Int):Int).tdiv 8)))) H :=
  RunsTo.hin N 60 [] fun kf hk=>⟨_,by kernel_rfl,.nil⟩
theorem pq_r_0 (N:Nat) (db n:Nat) (cap:Option Nat) (H:Heap) (x:Nat) (a:Nat) (b:Nat) (lim:Int) (q:Nat) (u:Int) (v:Int) (w:Int) {y8 y9 y10 y11 y12 y13 y15:HV} {H0:Heap} (g0:u < v) (g1:w ≤ u) (g2:∀ kf,N ≤ kf → callN Tp polSo (kf+1) 67 [.c db n cap,.i (a:Int),.i (q:Int),.i lim] H=some (.tuple [],H0)):RT polSo 67 (sub [1,1,0,0,0,1,1,1,1,1,1,1,1,1,1,1,1] B67) (env67 (.c db n cap) (.i (a:Int)) (.i (b:Int)) (.i lim) y8 y9 y10 y11 y12 y13 (.i (q:Int)) y15 (.i u) (.i v) (.i w)) H .normal (env67 (.c db n cap) (.i (IntKind.i64.wrap ((q:Int)+1))) (.i (b:Int)) (.i lim) (.bool true) y9 y10 y11 y12 y13 (.i (q:Int)) y15 (.i u) (.i v) (.i w)) H0 :=
  RunsTo.hin N 60 [⟨24,2,.bool true,H⟩,⟨25,2,.bool true,H⟩,⟨26,4,.tuple [],H0⟩] fun kf hk=>⟨_,by kernel_rfl,(oB H (decide_eq_true g0) (oB H (decide_eq_true g1) (oC (g2 kf (by omega)) .nil)))⟩
theorem pq_r_1 (N:Nat) (db n:Nat) (cap:Option Nat) (H:Heap) (x:Nat) (a:Nat) (b:Nat) (lim:Int) (q:Nat) (u:Int) (v:Int) (w:Int) {y8 y9 y10 y11 y12 y13 y15:HV} {H0:Heap} (g0:u < v) (g1:¬ (w ≤ u)) (g2:∀ kf,N ≤ kf → callN Tp polSo (kf+1) 67 [.c db n cap,.i (a:Int),.i (q:Int),.i lim] H=some (.tuple [],H0)):RT polSo 67 (sub [1,1,0,0,0,1,1,1,1,1,1,1,1,1,1,1,1] B67) (env67 (.c db n cap) (.i (a:Int)) (.i (b:Int)) (.i lim) y8 y9 y10 y11 y12 y13 (.i (q:Int)) y15 (.i u) (.i v) (.i w)) H .normal (env67 (.c db n cap) (.i (IntKind.i64.wrap ((q:Int)+1))) (.i (b:Int)) (.i lim) (.bool false) y9 y10 y11 y12 y13 (.i (q:Int)) y15 (.i u) (.i v) (.i w)) H0 :=
  RunsTo.hin N 60 [⟨24,2,.bool true,H⟩,⟨25,2,.bool false,H⟩,⟨26,4,.tuple [],H0⟩] fun kf hk=>⟨_,by kernel_rfl,(oB H (decide_eq_true g0) (oB H (decide_eq_false g1) (oC (g2 kf (by omega)) .nil)))⟩
theorem pq_r_2 (N:Nat) (db n:Nat) (cap:Option Nat) (H:Heap) (x:Nat) (a:Nat) (b:Nat) (lim:Int) (q:Nat) (u:Int) (v:Int) (w:Int) {y8 y9 y10 y11 y12 y13 y15:HV} {H0:Heap} (g0:¬ (u < v)) (g1:w ≤ v) (g2:∀ kf,N ≤ kf → callN Tp polSo (kf+1) 67 [.c db n cap,.i (IntKind.i64.wrap ((q:Int)+1)),.i (b:Int),.i lim] H=some (.tuple [],H0)):RT polSo 67 (sub [1,1,0,0,0,1,1,1,1,1,1,1,1,1,1,1,1] B67) (env67 (.c db n cap) (.i (a:Int)) (.i (b:Int)) (.i lim) y8 y9 y10 y11 y12 y13 (.i (q:Int)) y15 (.i u) (.i v) (.i w)) H .normal (env67 (.c db n cap) (.i (a:Int)) (.i (q:Int)) (.i lim) (.bool true) y9 y10 y11 y12 y13 (.i (q:Int)) y15 (.i u) (.i v) (.i w)) H0 :=
  RunsTo.hin N 60 [⟨24,2,.bool false,H⟩,⟨28,2,.bool true,H⟩,⟨29,5,.tuple [],H0⟩] fun kf hk=>⟨_,by kernel_rfl,(oB H (decide_eq_false g0) (oB H (decide_eq_true g1) (oC (g2 kf (by omega)) .nil)))⟩
theorem pq_r_3 (N:Nat) (db n:Nat) (cap:Option Nat) (H:Heap) (x:Nat) (a:Nat) (b:Nat) (lim:Int) (q:Nat) (u:Int) (v:Int) (w:Int) {y8 y9 y10 y11 y12 y13 y15:HV} {H0:Heap} (g0:¬ (u < v)) (g1:¬ (w ≤ v)) (g2:∀ kf,N ≤ kf → callN Tp polSo (kf+1) 67 [.c db n cap,.i (IntKind.i64.wrap ((q:Int)+1)),.i (b:Int),.i lim] H=some (.tuple [],H0)):RT polSo 67 (sub [1,1,0,0,0,1,1,1,1,1,1,1,1,1,1,1,1] B67) (env67 (.c db n cap) (.i (a:Int)) (.i (b:Int)) (.i lim) y8 y9 y10 y11 y12 y13 (.i (q:Int)) y15 (.i u) (.i v) (.i w)) H .normal (env67 (.c db n cap) (.i (a:Int)) (.i (q:Int)) (.i lim) (.bool false) y9 y10 y11 y12 y13 (.i (q:Int)) y15 (.i u) (.i v) (.i w)) H0 :=
  RunsTo.hin N 60 [⟨24,2,.bool false,H⟩,⟨28,2,.bool false,H⟩,⟨29,5,.tuple [],H0⟩] fun kf hk=>⟨_,by kernel_rfl,(oB H (decide_eq_false g0) (oB H (decide_eq_false g1) (oC (g2 kf (by omega)) .nil)))⟩
noncomputable def B53:Code:=Try.f53.body.getD .skip
abbrev env53 (v0 v2:HV):Env:=[(0,v0),(2,v2)]
theorem st_a_0 (N:Nat) (db n:Nat) (cap:Option Nat) (H:Heap) (x:Nat)  {m0:Int} {H0:Heap} {H1:Heap} (g0:∀ kf,N ≤ kf → callN Tp polSo (kf+1) 68 [.int .u64 (IntKind.u64.wrap (n:Int))] H=some (.i m0,H0)) (g1:∀ kf,N ≤ kf → callN Tp polSo (kf+1) 67 [.c db n cap,.i 0,.i (n:Int),.i m0] H0=some (.tuple [],H1)):RT polSo 53 (sub [] B53) [(0,.c db n cap)] H .normal (env53 (.c db n cap) (.i (n:Int))) H1 :=
  RunsTo.hin N 60 [⟨1,4,.i m0,H0⟩,⟨1,5,.tuple [],H1⟩] fun kf hk=>⟨_,by kernel_rfl,(oC (g0 kf (by omega)) (oC (g1 kf (by omega)) .nil))⟩
end Go.Proofs.Ytaibmipamkaljaa
end
section
open Go Go.HL Go.HL.So Classical
namespace Go.Proofs.Ytaibmipamkaljaa
set_option linter.unusedSectionVars false
open Go.Proofs.Try renaming prog → Tp
open Go.HL.HV renaming undef → Ud
section
variable {α:Type} [Inhabited α] {enc:α → HV} {lt:α → α → Prop} {dom:α → Prop} {H:Heap} {db n:Nat} {cap:Option Nat}
abbrev swB (s:Int):Blk:=.arr 1 [.int .i64 s] true 0
theorem Mm_last (l:List α) (B:Blk):(Mm enc H db l [B])[H.length]?=some B:=by
  unfold Mm
  rw [List.getElem?_append_right (by simp)]
  simp
theorem Mm_set (l:List α) (B B':Blk):(Mm enc H db l [B]).set H.length B'=Mm enc H db l [B']:=by
  unfold Mm
  rw [List.set_append_right _ _ (by simp)]
  simp
theorem mxM (S:So enc lt dom H db n) (l:List α) (B:Blk) (hB:B.mx=0):mxs (Mm enc H db l [B]) ≤ H.length:=by
  have h:=S.mx
  rw [mxs_le] at h ⊢
  intro C hC
  unfold Mm at hC
  rcases List.mem_append.1 hC with hC | hC
  · rcases List.mem_or_eq_of_mem_set hC with hC | rfl
    · exact h C hC
    · exact Nat.zero_le _
  · rw [List.mem_singleton.1 hC]; omega
theorem gcT (S:So enc lt dom H db n) (l l':List α) (B:Blk) (hB:B.mx=0):gc (Mm enc H db l []).length 0 (Mm enc H db l' [B])=Mm enc H db l' []:=by
  have h:=mxM S l' B hB
  have e:(Mm enc H db l []).length=H.length:=by simp [Mm]
  unfold gc
  rw [e,show max H.length (max 0 (mxs (Mm enc H db l' [B])))=H.length by omega]
  unfold Mm
  rw [List.take_append_of_le_length (by simp),List.take_of_length_le (by simp),List.append_nil]
theorem gcB (l l':List α) (B B':Blk) (r:Nat):gc (Mm enc H db l [B]).length r (Mm enc H db l' [B'])=Mm enc H db l' [B']:=gcM l l' [B] [B'] r rfl
theorem ld_sw (l:List α) (s:Int):loadV Tp (Mm enc H db l [swB s]) 3 (.ptr H.length 0 0 1)=some (.int .i64 s):=load_elem (b:=H.length) (Mm_last l (swB s)) rfl rfl rfl a3 i3
theorem st_sw (l:List α) (s r:Int):storeV Tp (Mm enc H db l [swB s]) 3 (.ptr H.length 0 0 1) (.int .i64 r)=some (Mm enc H db l [swB r]):=by
  have:=store_elem (P:=Tp) (t:=3) (b:=H.length) (i:=0) (tot:=1) (old:=.int .i64 s) (v:=.int .i64 r) (Mm_last (enc:=enc) (db:=db) l (swB s)) rfl rfl rfl (by intro cs h; cases h) z3 rfl rfl (by simp [bnd])
  rw [this,Mm_set]; rfl
theorem new_sw (l:List α) (k:IntKind) (s:Int):newV (.int k s) (Mm enc H db l [])=(.ptr H.length 0 0 1,Mm enc H db l [.arr 1 [.int k s] true 0]):=by
  simp only [newV,cellsOf,bnd,Mm]
  simp
theorem ord2_ok (S:So enc lt dom H db n) {a b:Nat} (ha:a < n) (hb:b < n) {l:List α} (hl:l.length=n) (hD:Dm dom l) (s:Int) :
    ∃ (p q:Nat) (s':Int),ClS 100 [.sl db 0 n cap n 1,.int .i64 (a:Int),.int .i64 (b:Int),.ptr H.length 0 0 1] (Mm enc H db l [swB s]) (.tuple [.int .i64 (p:Int),.int .i64 (q:Int)]) (Mm enc H db l [swB s'])∧((p=a∧q=b) ∨ (p=b∧q=a)):=by
  have hn:=S.nb
  by_cases c:lt (at_ l b) (at_ l a)
  · obtain ⟨N,hN⟩:=S.ct (T:=[swB s]) hl rfl (hD.at (i:=b) (by omega)) (hD.at (i:=a) (by omega)) c
    have t:=o2_a_0 N db n cap (Mm enc H db l [swB s]) H.length a b (ixs (i:=b) rfl hb) (S.ld l _ _ hl hb) (ixs (i:=a) rfl ha) (S.ld l _ _ hl ha) hN (ld_sw l s) (st_sw l s _)
    have hc:=CallsTo.shared (P:=Tp) (pol:=polSo) (g:=100) (fn:=Try.f100) (cd:=B100) (args:=[.sl db 0 n cap n 1,.int .i64 (a:Int),.int .i64 (b:Int),.ptr H.length 0 0 1]) (v:=.tuple [.int .i64 (b:Int),.int .i64 (a:Int)]) (by kernel_rfl) (by kernel_rfl) (by kernel_rfl) (by kernel_rfl) t (by kernel_rfl) (by simp) (by kernel_rfl)
    rw [gcB] at hc
    exact ⟨b,a,_,hc,.inr ⟨rfl,rfl⟩⟩
  · obtain ⟨N,hN⟩:=S.cf (T:=[swB s]) hl rfl (hD.at (i:=b) (by omega)) (hD.at (i:=a) (by omega)) c
    have t:=o2_a_1 N db n cap (Mm enc H db l [swB s]) H.length a b (ixs (i:=b) rfl hb) (S.ld l _ _ hl hb) (ixs (i:=a) rfl ha) (S.ld l _ _ hl ha) hN
    have hc:=CallsTo.shared (P:=Tp) (pol:=polSo) (g:=100) (fn:=Try.f100) (cd:=B100) (args:=[.sl db 0 n cap n 1,.int .i64 (a:Int),.int .i64 (b:Int),.ptr H.length 0 0 1]) (v:=.tuple [.int .i64 (a:Int),.int .i64 (b:Int)]) (by kernel_rfl) (by kernel_rfl) (by kernel_rfl) (by kernel_rfl) t (by kernel_rfl) (by simp) (by kernel_rfl)
    rw [gcB] at hc
    exact ⟨a,b,_,hc,.inl ⟨rfl,rfl⟩⟩
theorem med_ok (S:So enc lt dom H db n) {a b q:Nat} (ha:a < n) (hb:b < n) (hq:q < n) {l:List α} (hl:l.length=n) (hD:Dm dom l) (s:Int) :
    ∃ (r:Nat) (s':Int),ClS 96 [.sl db 0 n cap n 1,.int .i64 (a:Int),.int .i64 (b:Int),.int .i64 (q:Int),.ptr H.length 0 0 1] (Mm enc H db l [swB s]) (.int .i64 (r:Int)) (Mm enc H db l [swB s'])∧(r=a ∨ r=b ∨ r=q):=by
  obtain ⟨p1,q1,s1,h1,e1⟩:=ord2_ok S (cap:=cap) ha hb hl hD s
  obtain ⟨p2,q2,s2,h2,e2⟩:=ord2_ok S (cap:=cap) (a:=q1) (b:=q) (by omega) hq hl hD s1
  obtain ⟨p3,q3,s3,h3,e3⟩:=ord2_ok S (cap:=cap) (a:=p1) (b:=p2) (by omega) (by omega) hl hD s2
  obtain ⟨N1,h1⟩:=h1.from
  obtain ⟨N2,h2⟩:=h2.from
  obtain ⟨N3,h3⟩:=h3.from
  have t:=md_a_0 (N1+N2+N3) db n cap (Mm enc H db l [swB s]) H.length a b q (fun kf hk=>h1 kf (by omega)) (fun kf hk=>h2 kf (by omega)) (fun kf hk=>h3 kf (by omega))
  have hc:=CallsTo.shared (P:=Tp) (pol:=polSo) (g:=96) (fn:=Try.f96) (cd:=B96) (args:=[.sl db 0 n cap n 1,.int .i64 (a:Int),.int .i64 (b:Int),.int .i64 (q:Int),.ptr H.length 0 0 1]) (v:=.int .i64 (q3:Int)) (by kernel_rfl) (by kernel_rfl) (by kernel_rfl) (by kernel_rfl) t (by kernel_rfl) (by simp) (by kernel_rfl)
  rw [gcB] at hc
  exact ⟨q3,s3,hc,by omega⟩
theorem madj_ok (S:So enc lt dom H db n) {a:Nat} {e:Int} (he:e=(a:Int)) (h1:1 ≤ a) (h2:a+1 < n) {l:List α} (hl:l.length=n) (hD:Dm dom l) (s:Int) :
    ∃ (r:Nat) (s':Int),ClS 95 [.sl db 0 n cap n 1,.int .i64 e,.ptr H.length 0 0 1] (Mm enc H db l [swB s]) (.int .i64 (r:Int)) (Mm enc H db l [swB s'])∧a - 1 ≤ r∧r ≤ a+1:=by
  subst he
  have hn:=S.nb
  obtain ⟨r,s',h,er⟩:=med_ok S (cap:=cap) (a:=a - 1) (b:=a) (q:=a+1) (by omega) (by omega) (by omega) hl hD s
  obtain ⟨N,h⟩:=h.from
  have t:=ma_a_0 N db n cap (Mm enc H db l [swB s]) H.length a (by rw [wrap_pred (by omega) (by omega),wrap_succ (by omega)]; exact h)
  have hc:=CallsTo.shared (P:=Tp) (pol:=polSo) (g:=95) (fn:=Try.f95) (cd:=B95) (args:=[.sl db 0 n cap n 1,.int .i64 (a:Int),.ptr H.length 0 0 1]) (v:=.int .i64 (r:Int)) (by kernel_rfl) (by kernel_rfl) (by kernel_rfl) (by kernel_rfl) t (by kernel_rfl) (by simp) (by kernel_rfl)
  rw [gcB] at hc
  exact ⟨r,s',hc,by omega⟩
theorem cv_idx {a b m:Nat} (hab:a ≤ b) (hb:b ≤ 60000) (hm:m ≤ 3):IntKind.i64.wrap ((a:Int)+IntKind.i64.wrap (IntKind.i64.wrap ((IntKind.i64.wrap ((b:Int) - (a:Int)):Int).tdiv 4) * (m:Int)))=((a+(b - a) / 4 * m:Nat):Int):=by
  have h1:IntKind.i64.wrap ((b:Int) - (a:Int))=((b - a:Nat):Int):=by rw [wrap_id (by omega) (by omega)]; omega
  have h2:((b - a:Nat):Int).tdiv 4=(((b - a) / 4:Nat):Int):=by rw [Int.tdiv_eq_ediv_of_nonneg (by omega)]; omega
  rw [h1,h2,wrap_id (n:=(((b - a) / 4:Nat):Int)) (by omega) (by omega)]
  have h3:(((b - a) / 4:Nat):Int) * (m:Int)=(((b - a) / 4 * m:Nat):Int):=by push_cast; rfl
  have h4:(b - a) / 4 * m ≤ 60000:=by
    have h6:(b - a) / 4 * m ≤ (b - a) / 4 * 3:=Nat.mul_le_mul_left _ hm
    omega
  rw [h3]
  generalize (b - a) / 4 * m=z at h4
  rw [wrap_id (n:=(z:Int)) (by omega) (by omega),wrap_id (by omega) (by omega)]; omega
theorem piv_ok (S:So enc lt dom H db n) {a b:Nat} (hab:a+12 < b) (hb:b ≤ n) {l:List α} (hl:l.length=n) (hD:Dm dom l) :
    ∃ (p:Nat) (h:Int),ClS 75 [.sl db 0 n cap n 1,.int .i64 (a:Int),.int .i64 (b:Int)] (Mm enc H db l []) (.tuple [.int .i64 (p:Int),.int .i64 h]) (Mm enc H db l [])∧a ≤ p∧p < b:=by
  have hn:=S.nb
  have i1:=cv_idx (a:=a) (b:=b) (m:=1) (by omega) (by omega) (by omega)
  have i2:=cv_idx (a:=a) (b:=b) (m:=2) (by omega) (by omega) (by omega)
  have i3:=cv_idx (a:=a) (b:=b) (m:=3) (by omega) (by omega) (by omega)
  have hw:IntKind.i64.wrap ((b:Int) - (a:Int))=((b - a:Nat):Int):=(by rw [wrap_id (by omega) (by omega)]; omega)
  have g0:some (newV (.int .i64 0) (Mm enc H db l []))=some (.ptr H.length 0 0 1,Mm enc H db l [swB 0]):=congrArg some (new_sw l .i64 0)
  have fin:∀ (p:Nat) (h:Int) (E:Env) (s:Int),a ≤ p → p < b → RT polSo 75 B75 (args0 [.sl db 0 n cap n 1,.int .i64 (a:Int),.int .i64 (b:Int)]) (Mm enc H db l []) .ret E (Mm enc H db l [swB s]) → resultsV Tp Try.f75 E (Mm enc H db l [swB s])=some (.tuple [.int .i64 (p:Int),.int .i64 h]) →
      ∃ (p:Nat) (h:Int),ClS 75 [.sl db 0 n cap n 1,.int .i64 (a:Int),.int .i64 (b:Int)] (Mm enc H db l []) (.tuple [.int .i64 (p:Int),.int .i64 h]) (Mm enc H db l [])∧a ≤ p∧p < b:=by
    intro p h E s h1 h2 t hv
    have hc:=CallsTo.shared (P:=Tp) (pol:=polSo) (g:=75) (fn:=Try.f75) (cd:=B75) (args:=[.sl db 0 n cap n 1,.int .i64 (a:Int),.int .i64 (b:Int)]) (by kernel_rfl) (by kernel_rfl) (by kernel_rfl) (by kernel_rfl) t (by kernel_rfl) (by simp) hv
    rw [show bnd (.tuple [.int .i64 (p:Int),.int .i64 h])=0 by simp [bnd,bndL],gcT S l l (swB s) rfl] at hc
    exact ⟨p,h,hc,h1,h2⟩
  by_cases c:50 ≤ b - a
  · obtain ⟨r1,s1,h1,e1⟩:=madj_ok S (cap:=cap) (a:=a+(b - a) / 4 * 1) i1 (by omega) (by omega) hl hD 0
    obtain ⟨r2,s2,h2,e2⟩:=madj_ok S (cap:=cap) (a:=a+(b - a) / 4 * 2) i2 (by omega) (by omega) hl hD s1
    obtain ⟨r3,s3,h3,e3⟩:=madj_ok S (cap:=cap) (a:=a+(b - a) / 4 * 3) i3 (by omega) (by omega) hl hD s2
    obtain ⟨r,s,h4,e4⟩:=med_ok S (cap:=cap) (a:=r1) (b:=r2) (q:=r3) (by omega) (by omega) (by omega) hl hD s3
    obtain ⟨N1,h1⟩:=h1.from
    obtain ⟨N2,h2⟩:=h2.from
    obtain ⟨N3,h3⟩:=h3.from
    obtain ⟨N4,h4⟩:=h4.from
    by_cases d1:s=0
    · have t:=cv_a_0 (N1+N2+N3+N4) db n cap (Mm enc H db l []) H.length a b g0 (by rw [hw]; omega) (by rw [hw]; omega) (fun kf hk=>h1 kf (by omega)) (fun kf hk=>h2 kf (by omega)) (fun kf hk=>h3 kf (by omega)) (fun kf hk=>h4 kf (by omega)) (ld_sw l s) d1
      exact fin r 1 _ s (by omega) (by omega) t (by kernel_rfl)
    · by_cases d2:s=12
      · have t:=cv_a_1 (N1+N2+N3+N4) db n cap (Mm enc H db l []) H.length a b g0 (by rw [hw]; omega) (by rw [hw]; omega) (fun kf hk=>h1 kf (by omega)) (fun kf hk=>h2 kf (by omega)) (fun kf hk=>h3 kf (by omega)) (fun kf hk=>h4 kf (by omega)) (ld_sw l s) d1 d2
        exact fin r 2 _ s (by omega) (by omega) t (by kernel_rfl)
      · have t:=cv_a_2 (N1+N2+N3+N4) db n cap (Mm enc H db l []) H.length a b g0 (by rw [hw]; omega) (by rw [hw]; omega) (fun kf hk=>h1 kf (by omega)) (fun kf hk=>h2 kf (by omega)) (fun kf hk=>h3 kf (by omega)) (fun kf hk=>h4 kf (by omega)) (ld_sw l s) d1 d2
        exact fin r 0 _ s (by omega) (by omega) t (by kernel_rfl)
  · obtain ⟨r,s,h4,e4⟩:=med_ok S (cap:=cap) (a:=a+(b - a) / 4 * 1) (b:=a+(b - a) / 4 * 2) (q:=a+(b - a) / 4 * 3) (by omega) (by omega) (by omega) hl hD 0
    obtain ⟨N4,h4⟩:=h4.from
    rw [← i1,← i2,← i3] at h4
    by_cases d1:s=0
    · have t:=cv_a_3 N4 db n cap (Mm enc H db l []) H.length a b g0 (by rw [hw]; omega) (by rw [hw]; omega) h4 (ld_sw l s) d1
      exact fin r 1 _ s (by omega) (by omega) t (by kernel_rfl)
    · by_cases d2:s=12
      · have t:=cv_a_4 N4 db n cap (Mm enc H db l []) H.length a b g0 (by rw [hw]; omega) (by rw [hw]; omega) h4 (ld_sw l s) d1 d2
        exact fin r 2 _ s (by omega) (by omega) t (by kernel_rfl)
      · have t:=cv_a_5 N4 db n cap (Mm enc H db l []) H.length a b g0 (by rw [hw]; omega) (by rw [hw]; omega) h4 (ld_sw l s) d1 d2
        exact fin r 0 _ s (by omega) (by omega) t (by kernel_rfl)
abbrev uB (s:Int):Blk:=.arr 1 [.int .u64 s] true 0
theorem z128s:tySize Tp 114=some 1:=by kernel_rfl
theorem a128s:tyAgg Tp 114=false:=by kernel_rfl
theorem i128s:(Tp.underlying 114).isSome=true:=by kernel_rfl
theorem ld_u (l:List α) (s:Int):loadV Tp (Mm enc H db l [uB s]) 114 (.ptr H.length 0 0 1)=some (.int .u64 s):=load_elem (b:=H.length) (Mm_last l (uB s)) rfl rfl rfl a128s i128s
theorem st_u (l:List α) (s r:Int):storeV Tp (Mm enc H db l [uB s]) 114 (.ptr H.length 0 0 1) (.int .u64 r)=some (Mm enc H db l [uB r]):=by
  have:=store_elem (P:=Tp) (t:=114) (b:=H.length) (i:=0) (tot:=1) (old:=.int .u64 s) (v:=.int .u64 r) (Mm_last (enc:=enc) (db:=db) l (uB s)) rfl rfl rfl (by intro cs h; cases h) z128s rfl rfl (by simp [bnd])
  rw [this,Mm_set]; rfl
theorem bx (a b:Int):∃ r,binV Tp .xor 114 (.int .u64 a) (.int .u64 b)=some (.int .u64 r):=⟨_,rfl⟩
theorem bs13 (a:Int):∃ r,binV Tp .shl 114 (.int .u64 a) (.int .u64 13)=some (.int .u64 r):=⟨_,rfl⟩
theorem bs17 (a:Int):∃ r,binV Tp .shl 114 (.int .u64 a) (.int .u64 17)=some (.int .u64 r):=⟨_,rfl⟩
theorem br7 (a:Int):∃ r,binV Tp .shr 114 (.int .u64 a) (.int .u64 7)=some (.int .u64 r):=⟨_,rfl⟩
theorem xor_ok (l:List α) (s:Int):∃ r,ClS 94 [.ptr H.length 0 0 1] (Mm enc H db l [uB s]) (.int .u64 r) (Mm enc H db l [uB r]):=by
  obtain ⟨h0,e0⟩:=bs13 s
  obtain ⟨h1,e1⟩:=bx s h0
  obtain ⟨h2,e2⟩:=br7 h1
  obtain ⟨h3,e3⟩:=bx h1 h2
  obtain ⟨h4,e4⟩:=bs17 h3
  obtain ⟨h5,e5⟩:=bx h3 h4
  have t:=xs_a_0 0 0 0 none (Mm enc H db l [uB s]) H.length (ld_u l s) (ld_u l s) e0 e1 (st_u l s h1) (ld_u l h1) (ld_u l h1) e2 e3 (st_u l h1 h3) (ld_u l h3) (ld_u l h3) e4 e5 (st_u l h3 h5) (ld_u l h5)
  have hc:=CallsTo.shared (P:=Tp) (pol:=polSo) (g:=94) (fn:=Try.f94) (cd:=B94) (args:=[.ptr H.length 0 0 1]) (v:=.int .u64 h5) (by kernel_rfl) (by kernel_rfl) (by kernel_rfl) (by kernel_rfl) t (by kernel_rfl) (by simp) (by kernel_rfl)
  rw [gcB] at hc
  exact ⟨_,hc⟩
theorem and_u {u:Int} {m:Nat} (hm:m < 9223372036854775808):∃ h:Nat,binV Tp .and 85 (.int .u64 u) (.int .u64 (m:Int))=some (.int .u64 (h:Int))∧h ≤ m:=by
  have e:binV Tp .and 85 (.int .u64 u) (.int .u64 (m:Int))=some (.int .u64 (IntKind.u64.wrap (BitVec.ofInt IntKind.u64.bits u &&& BitVec.ofInt IntKind.u64.bits (m:Int)).toNat)):=rfl
  have hle:(BitVec.ofInt IntKind.u64.bits u &&& BitVec.ofInt IntKind.u64.bits (m:Int)).toNat ≤ m:=by
    rw [BitVec.toNat_and]
    refine Nat.le_trans Nat.and_le_right ?_
    rw [BitVec.toNat_ofInt]
    show ((m:Int) % ((2 ^ 64:Nat):Int)).toNat ≤ m
    omega
  refine ⟨_,?_,hle⟩
  rw [e]
  congr 2
  rw [wrapU64]
  generalize (BitVec.ofInt IntKind.u64.bits u &&& BitVec.ofInt IntKind.u64.bits (m:Int)).toNat=h at hle
  omega
theorem bk_loop (S:So enc lt dom H db n) {a b k m:Nat} (hk:b=a+k) (hk8:8 ≤ k) (hb:b ≤ n) (hm1:1 ≤ m) (hm2:m ≤ 2 * k):∀ (d i:Nat) (l:List α) (s:Int),i+d=a+k / 4 * 2+2 → a+k / 4 * 2 - 1 ≤ i → l.length=n →
    ∃ y5 y6 l' s',RT polSo 74 (sub [1,1,0,1,1,1,0] B74) (env74 (.sl db 0 n cap n 1) (.int .i64 (a:Int)) (.int .i64 (b:Int)) (.int .i64 (k:Int)) (.ptr H.length 0 0 1) (.int .u64 (m:Int)) (.int .i64 (i:Int)) Ud) (Mm enc H db l [uB s]) (.exit 0) (env74 (.sl db 0 n cap n 1) (.int .i64 (a:Int)) (.int .i64 (b:Int)) (.int .i64 (k:Int)) (.ptr H.length 0 0 1) (.int .u64 (m:Int)) y5 y6) (Mm enc H db l' [uB s'])∧Sw a b l l':=by
  have hn:=S.nb
  have e0:IntKind.i64.wrap (((k:Int):Int).tdiv 4)=((k / 4:Nat):Int):=by
    rw [Int.tdiv_eq_ediv_of_nonneg (by omega),wrap_id (by omega) (by omega)]; omega
  have e1:IntKind.i64.wrap ((a:Int)+IntKind.i64.wrap (IntKind.i64.wrap (((k:Int):Int).tdiv 4) * 2))=((a+k / 4 * 2:Nat):Int):=by
    rw [e0,wrap_id (n:=((k / 4:Nat):Int) * 2) (by omega) (by omega),wrap_id (by omega) (by omega)]; omega
  have e2:IntKind.i64.wrap (IntKind.i64.wrap ((a:Int)+IntKind.i64.wrap (IntKind.i64.wrap (((k:Int):Int).tdiv 4) * 2))+1)=((a+k / 4 * 2+1:Nat):Int):=by
    rw [e1,wrap_id (by omega) (by omega)]; omega
  intro d
  induction d with
  | zero =>
    intro i l s hi hi2 hl
    exact ⟨_,_,l,s,lpo (bk_f_2 0 db n cap (Mm enc H db l [uB s]) H.length a b k m i (y10:=Ud) (by rw [e2]; omega)),.refl⟩
  | succ d ih =>
    intro i l s hi hi2 hl
    obtain ⟨u,hx⟩:=xor_ok (enc:=enc) (H:=H) (db:=db) l s
    obtain ⟨N,hN⟩:=hx.from
    have hu:IntKind.u64.wrap ((m:Int) - 1)=((m - 1:Nat):Int):=by rw [wrapU64]; omega
    obtain ⟨h,hand,hh⟩:=and_u (u:=u) (m:=m - 1) (by omega)
    rw [← hu] at hand
    have hwh:IntKind.i64.wrap (h:Int)=(h:Int):=wrap_id (by omega) (by omega)
    have next:∀ o:Nat,o < k → ∀ y,RT polSo 74 (sub [1,1,0,1,1,1,0,0] B74) (env74 (.sl db 0 n cap n 1) (.int .i64 (a:Int)) (.int .i64 (b:Int)) (.int .i64 (k:Int)) (.ptr H.length 0 0 1) (.int .u64 (m:Int)) (.int .i64 (i:Int)) Ud) (Mm enc H db l [uB s]) .normal (env74 (.sl db 0 n cap n 1) (.int .i64 (a:Int)) (.int .i64 (b:Int)) (.int .i64 (k:Int)) (.ptr H.length 0 0 1) (.int .u64 (m:Int)) (.int .i64 (IntKind.i64.wrap ((i:Int)+1))) y) (Mm enc H db (swp l i (a+o)) [uB u]) →
        ∃ y5 y6 l' s',RT polSo 74 (sub [1,1,0,1,1,1,0] B74) (env74 (.sl db 0 n cap n 1) (.int .i64 (a:Int)) (.int .i64 (b:Int)) (.int .i64 (k:Int)) (.ptr H.length 0 0 1) (.int .u64 (m:Int)) (.int .i64 (i:Int)) Ud) (Mm enc H db l [uB s]) (.exit 0) (env74 (.sl db 0 n cap n 1) (.int .i64 (a:Int)) (.int .i64 (b:Int)) (.int .i64 (k:Int)) (.ptr H.length 0 0 1) (.int .u64 (m:Int)) y5 y6) (Mm enc H db l' [uB s'])∧Sw a b l l':=by
      intro o ho y st
      rw [wrap_succ (by omega)] at st
      have sw:Sw a b l (swp l i (a+o)):=Sw.one (by omega) (by omega) (by omega) (by omega)
      obtain ⟨y5,y6,l',s',r,q⟩:=ih (i+1) (swp l i (a+o)) u (by omega) (by omega) (by rw [swp_len]; exact hl)
      exact ⟨y5,y6,l',s',lop (st) (gcM _ _ _ _ _ rfl) (r),sw.trans q⟩
    by_cases c:k ≤ h
    · have e3:IntKind.i64.wrap (IntKind.i64.wrap (h:Int) - (k:Int))=((h - k:Nat):Int):=by rw [hwh,wrap_id (by omega) (by omega)]; omega
      have e4:IntKind.i64.wrap ((a:Int)+IntKind.i64.wrap (IntKind.i64.wrap (h:Int) - (k:Int)))=((a+(h - k):Nat):Int):=by rw [e3,wrap_id (by omega) (by omega)]; omega
      obtain ⟨s1,s2⟩:=S.st2 (T:=[uB u]) hl (i:=i) (j:=a+(h - k)) (by omega) (by omega)
      have st:=bk_f_0 N db n cap (Mm enc H db l [uB s]) H.length a b k m i (y10:=Ud) (by rw [e2]; omega) hN hand (by rw [hwh]; omega) (ixs e4 (by omega)) (S.ld l _ _ hl (by omega)) (ixs (i:=i) rfl (by omega)) (S.ld l _ _ hl (by omega)) (ixs (i:=i) rfl (by omega)) s1 (ixs e4 (by omega)) s2
      exact next (h - k) (by omega) _ st
    · have e4:IntKind.i64.wrap ((a:Int)+IntKind.i64.wrap (h:Int))=((a+h:Nat):Int):=by rw [hwh,wrap_id (by omega) (by omega)]; omega
      obtain ⟨s1,s2⟩:=S.st2 (T:=[uB u]) hl (i:=i) (j:=a+h) (by omega) (by omega)
      have st:=bk_f_1 N db n cap (Mm enc H db l [uB s]) H.length a b k m i (y10:=Ud) (by rw [e2]; omega) hN hand (by rw [hwh]; omega) (ixs e4 (by omega)) (S.ld l _ _ hl (by omega)) (ixs (i:=i) rfl (by omega)) (S.ld l _ _ hl (by omega)) (ixs (i:=i) rfl (by omega)) s1 (ixs e4 (by omega)) s2
      exact next h (by omega) _ st
theorem brk_ok (S:So enc lt dom H db n) {a b:Nat} (hab:a+8 ≤ b) (hb:b ≤ n) {l:List α} (hl:l.length=n) :
    ∃ l',ClS 74 [.sl db 0 n cap n 1,.int .i64 (a:Int),.int .i64 (b:Int)] (Mm enc H db l []) (.tuple []) (Mm enc H db l' [])∧Sw a b l l':=by
  have hn:=S.nb
  obtain ⟨k,rfl⟩:∃ k,b=a+k:=⟨b - a,by omega⟩
  have hw:IntKind.i64.wrap (((a+k:Nat):Int) - (a:Int))=(k:Int):=by rw [wrap_id (by omega) (by omega)]; omega
  have t0:=bk_a_0 0 db n cap (Mm enc H db l []) H.length a (a+k)
  rw [hw] at t0
  have t1:=bk_b_0 0 db n cap (Mm enc H db l []) H.length a (a+k) k (y7:=Ud) (y8:=Ud) (y9:=Ud) (y10:=Ud) (by omega)
  have g0:some (newV (.int .u64 0) (Mm enc H db l []))=some (.ptr H.length 0 0 1,Mm enc H db l [uB 0]):=congrArg some (new_sw l .u64 0)
  have t2:=bk_c_0 0 db n cap (Mm enc H db l []) H.length a (a+k) k (y7:=Ud) (y8:=Ud) (y9:=Ud) (y10:=Ud) g0 (st_u l 0 _)
  have hl2:=(lenN_ok (x:=k) (by omega)).1 (by omega)
  have t3:=bk_d_0 0 db n cap (Mm enc H db l [uB (IntKind.u64.wrap (k:Int))]) H.length a (a+k) k (y8:=Ud) (y9:=Ud) (y10:=Ud) (u0:=((2 ^ lenN k:Nat):Int)) (fun kf _=>by
    rw [prim_call (pol:=polSo) (g:=93) (F:=next93) (by kernel_rfl) (rs:=[.int .i64 (k:Int)]) rfl (res:=.int .u64 ((2 ^ lenN k:Nat):Int)) (by simp only [next93]; rw [if_pos (by omega),Int.toNat_natCast])]; rfl)
  generalize 2 ^ lenN k=m at hl2 t3
  have t4:=bk_e_0 0 db n cap (Mm enc H db l [uB (IntKind.u64.wrap (k:Int))]) H.length a (a+k) k (m:Int) (y9:=Ud) (y10:=Ud)
  have e0:IntKind.i64.wrap (((k:Int):Int).tdiv 4)=((k / 4:Nat):Int):=by
    rw [Int.tdiv_eq_ediv_of_nonneg (by omega),wrap_id (by omega) (by omega)]; omega
  have e1:IntKind.i64.wrap (IntKind.i64.wrap ((a:Int)+IntKind.i64.wrap (IntKind.i64.wrap (((k:Int):Int).tdiv 4) * 2)) - 1)=((a+k / 4 * 2 - 1:Nat):Int):=by
    rw [e0,wrap_id (n:=((k / 4:Nat):Int) * 2) (by omega) (by omega),wrap_id (n:=(a:Int)+((k / 4:Nat):Int) * 2) (by omega) (by omega),wrap_id (by omega) (by omega)]; omega
  rw [e1] at t4
  obtain ⟨y5,y6,l',s',r,q⟩:=bk_loop S (cap:=cap) (m:=m) rfl (by omega) hb (by omega) (by omega) 3 (a+k / 4 * 2 - 1) l (IntKind.u64.wrap (k:Int)) (by omega) (Nat.le_refl _) hl
  have t:=sq (t0) (sq (t1) (RunsTo.cond (y:=.tmp 15) (t:=true) (c:=sub [1,1] B74) (a:=sub [1,1,0] B74) (b:=sub [1,1,1] B74) (by kernel_rfl) rfl (sq (t2) (sq (t3) (sq (t4) (bke (c:=sub [1,1,0,1,1,1] B74) (r)) (c:=sub [1,1,0,1,1] B74)) (c:=sub [1,1,0,1] B74)) (c:=sub [1,1,0] B74))) (c:=sub [1] B74)) (c:=B74)
  have hc:=CallsTo.shared (P:=Tp) (pol:=polSo) (g:=74) (fn:=Try.f74) (cd:=B74) (args:=[.sl db 0 n cap n 1,.int .i64 (a:Int),.int .i64 ((a+k:Nat):Int)]) (v:=.tuple []) (by kernel_rfl) (by kernel_rfl) (by kernel_rfl) (by kernel_rfl) t (by kernel_rfl) (by simp) (by kernel_rfl)
  rw [show bnd (.tuple [])=0 by rfl,gcT S l l' (uB s') rfl] at hc
  exact ⟨l',hc,q⟩
end
end Go.Proofs.Ytaibmipamkaljaa
end
section
open Go Go.HL Go.HL.So Classical
namespace Go.Proofs.Ytaibmipamkaljaa
set_option linter.unusedSectionVars false
open Go.Proofs.Try renaming prog → Tp
open Go.HL.HV renaming undef → Ud
section
variable {α:Type} [Inhabited α] {enc:α → HV} {lt:α → α → Prop} {dom:α → Prop} {H:Heap} {db n:Nat} {cap:Option Nat}
def PdqOk (enc:α → HV) (lt:α → α → Prop) (dom:α → Prop) (H:Heap) (db n:Nat) (cap:Option Nat) (d:Nat):Prop:=∀ (a b:Nat) (lim:Int) (l:List α),b - a < d → a ≤ b → b ≤ n → 0 ≤ lim → lim ≤ 1000 → l.length=n → Dm dom l → Flo lt a b l →
  ∃ l',ClS 67 [.sl db 0 n cap n 1,.int .i64 (a:Int),.int .i64 (b:Int),.int .i64 lim] (Mm enc H db l []) (.tuple []) (Mm enc H db l' [])∧Sw a b l l'∧Sorted lt a b l'
def Out (enc:α → HV) (lt:α → α → Prop) (dom:α → Prop) (H:Heap) (db n:Nat) (cap:Option Nat) (a b:Nat) (l:List α) (x:X) (E:Env) (l':List α):Prop :=
  Sw a b l l'∧((x=.ret∧Sorted lt a b l') ∨ ((x=.normal ∨ x=.exit 1)∧∃ (a' b':Nat) (lim':Int) (bal' par':Bool) (y2 y3 y4 y5 y6 y7 y8 y9 y10:HV),E=(env67 (.sl db 0 n cap n 1) (.int .i64 (a':Int)) (.int .i64 (b':Int)) (.int .i64 lim') (.bool bal') (.bool par') y2 y3 y4 y5 y6 y7 y8 y9 y10) ∧
    b' - a' < b - a∧a ≤ a'∧a' ≤ b'∧b' ≤ b∧0 ≤ lim'∧lim' ≤ 1000∧Flo lt a' b' l'∧∀ l'',Sw a' b' l' l'' → Sorted lt a' b' l'' → Sorted lt a b l''))
theorem Out.pre {a b:Nat} {l l1 l':List α} {x:X} {E:Env} (h:Sw a b l l1) (ho:Out enc lt dom H db n cap a b l1 x E l'):Out enc lt dom H db n cap a b l x E l':=⟨h.trans ho.1,ho.2⟩
theorem Flo.part {a b a' b':Nat} {l:List α} (h:Flo lt a b l) (h1:a'=a) (h2:b' ≤ b):Flo lt a' b' l:=by
  subst h1
  exact fun h0 k h3 h4=>h h0 k h3 (by omega)
theorem join (hL:Lin lt) {a b m:Nat} {l:List α} (h1:Sorted lt a m l) (h2:Sorted lt (m+1) b l) (h3:∀ k,a ≤ k → k < m → lt (at_ l k) (at_ l m)) (h4:∀ k,m < k → k < b → ¬ lt (at_ l k) (at_ l m)):Sorted lt a b l:=by
  intro i j q1 q2 q3
  by_cases c1:j < m
  · exact h1 i j q1 q2 c1
  · by_cases c2:j=m
    · subst c2; exact hL.asy _ _ (h3 i q1 q2)
    · by_cases c3:i < m
      · exact hL.tr _ _ _ (hL.asy _ _ (h3 i q1 c3)) (h4 j (by omega) q3)
      · by_cases c4:i=m
        · subst c4; exact h4 j (by omega) q3
        · exact h2 i j (by omega) q2 q3
theorem pq_S (S:So enc lt dom H db n) (hL:Lin lt) {a b k p:Nat} {lim:Int} {bal par:Bool} {h:HV} (hd:PdqOk enc lt dom H db n cap (b - a)) (hp1:a ≤ p) (hp2:p < b) (hb:b ≤ n) (hk:k ≤ n) (hl0:0 ≤ lim) (hl1:lim ≤ 1000) {l:List α} (hl:l.length=n) (hD:Dm dom l) (hF:Flo lt a b l) :
    ∃ x E l',RT polSo 67 (sub [1,1,0,0,0,1,1,1,1,1,1,1,1] B67) (env67 (.sl db 0 n cap n 1) (.int .i64 (a:Int)) (.int .i64 (b:Int)) (.int .i64 lim) (.bool bal) (.bool par) (.int .i64 (k:Int)) (.int .i64 (p:Int)) h Ud Ud Ud Ud Ud Ud) (Mm enc H db l []) x E (Mm enc H db l' [])∧Out enc lt dom H db n cap a b l x E l':=by
  have hn:=S.nb
  obtain ⟨m,bb,l4,hc,w1,w2,w3,w4⟩:=spart_ok S (cap:=cap) (T:=[]) rfl hb hp1 hp2 hl hD
  obtain ⟨N,hN⟩:=hc.from
  have t1:=pq_n_0 N db n cap (Mm enc H db l []) 0 a b lim p (y8:=.bool bal) (y9:=.bool par) (y10:=.int .i64 (k:Int)) (y12:=h) (y13:=Ud) (y14:=Ud) (y15:=Ud) (y16:=Ud) (y17:=Ud) (y18:=Ud) hN
  have hl4:=sw_len w1 hl
  have hD4:=hD.sw w1 (by omega)
  have hF4:=hF.sw (by omega) w1
  have t2:=pq_o_0 0 db n cap (Mm enc H db l4 []) 0 a b lim (y8:=.bool bal) (y9:=.bool par) (y10:=.int .i64 (k:Int)) (y11:=.int .i64 (p:Int)) (y12:=h) (y13:=Ud) (y14:=.int .i64 (m:Int)) (y15:=.bool bb) (y16:=Ud) (y17:=Ud) (y18:=Ud)
  have t3:=pq_p_0 0 db n cap (Mm enc H db l4 []) 0 a b lim m (y8:=.bool bal) (y9:=.bool bb) (y10:=.int .i64 (k:Int)) (y11:=.int .i64 (p:Int)) (y12:=h) (y13:=Ud) (y15:=.bool bb) (y16:=Ud) (y17:=Ud) (y18:=Ud)
  have e1:IntKind.i64.wrap ((m:Int) - (a:Int))=((m - a:Nat):Int):=(by rw [wrap_id (by omega) (by omega)]; omega)
  have e2:IntKind.i64.wrap ((b:Int) - (m:Int))=((b - m:Nat):Int):=(by rw [wrap_id (by omega) (by omega)]; omega)
  rw [e1,e2] at t3
  have t4:=pq_q_0 0 db n cap (Mm enc H db l4 []) 0 a b lim k (y8:=.bool bal) (y9:=.bool bb) (y11:=.int .i64 (p:Int)) (y12:=h) (y13:=Ud) (y14:=.int .i64 (m:Int)) (y15:=.bool bb) (y16:=.int .i64 ((m - a:Nat):Int)) (y17:=.int .i64 ((b - m:Nat):Int)) (y18:=Ud)
  generalize IntKind.i64.wrap (((k:Int):Int).tdiv 8)=th at t4
  have up:∀ (x:X) (E:Env) (l':List α),RT polSo 67 (sub [1,1,0,0,0,1,1,1,1,1,1,1,1,1,1,1,1] B67) (env67 (.sl db 0 n cap n 1) (.int .i64 (a:Int)) (.int .i64 (b:Int)) (.int .i64 lim) (.bool bal) (.bool bb) (.int .i64 (k:Int)) (.int .i64 (p:Int)) h Ud (.int .i64 (m:Int)) (.bool bb) (.int .i64 ((m - a:Nat):Int)) (.int .i64 ((b - m:Nat):Int)) (.int .i64 th)) (Mm enc H db l4 []) .normal E (Mm enc H db l' []) → Out enc lt dom H db n cap a b l4 .normal E l' →
      ∃ x E l',RT polSo 67 (sub [1,1,0,0,0,1,1,1,1,1,1,1,1] B67) (env67 (.sl db 0 n cap n 1) (.int .i64 (a:Int)) (.int .i64 (b:Int)) (.int .i64 lim) (.bool bal) (.bool par) (.int .i64 (k:Int)) (.int .i64 (p:Int)) h Ud Ud Ud Ud Ud Ud) (Mm enc H db l []) x E (Mm enc H db l' [])∧Out enc lt dom H db n cap a b l x E l':=fun x E l' t ho =>
    ⟨_,E,l',sq (t1) (sq (t2) (sq (t3) (sq (t4) (t) (c:=sub [1,1,0,0,0,1,1,1,1,1,1,1,1,1,1,1] B67)) (c:=sub [1,1,0,0,0,1,1,1,1,1,1,1,1,1,1] B67)) (c:=sub [1,1,0,0,0,1,1,1,1,1,1,1,1,1] B67)) (c:=sub [1,1,0,0,0,1,1,1,1,1,1,1,1] B67),Out.pre w1 ho⟩
  by_cases c:((m - a:Nat):Int) < ((b - m:Nat):Int)
  · obtain ⟨l5,hc5,v1,v2⟩:=hd a m lim l4 (by omega) (by omega) (by omega) hl0 hl1 hl4 hD4 (hF4.part rfl (by omega))
    obtain ⟨N5,hN5⟩:=hc5.from
    have hl5:=sw_len v1 hl4
    have e3:IntKind.i64.wrap ((m:Int)+1)=((m+1:Nat):Int):=wrap_succ (by omega)
    have ho:∀ (bl:Bool),Out enc lt dom H db n cap a b l4 .normal (env67 (.sl db 0 n cap n 1) (.int .i64 ((m+1:Nat):Int)) (.int .i64 (b:Int)) (.int .i64 lim) (.bool bl) (.bool bb) (.int .i64 (k:Int)) (.int .i64 (p:Int)) h Ud (.int .i64 (m:Int)) (.bool bb) (.int .i64 ((m - a:Nat):Int)) (.int .i64 ((b - m:Nat):Int)) (.int .i64 th)) l5:=fun bl=>by
      refine ⟨v1.mono (Nat.le_refl _) (by omega),.inr ⟨.inl rfl,m+1,b,lim,bl,bb,_,_,_,_,_,_,_,_,_,rfl,by omega,by omega,by omega,Nat.le_refl _,hl0,hl1,fun _ k h1 h2=>?_,fun l6 u1 u2=>?_⟩⟩
      · rw [show m+1 - 1=m by omega,v1.out (by omega) (k:=k) (by omega),v1.out (by omega) (k:=m) (by omega)]
        exact w4 k (by omega) h2
      · have em:at_ l6 m=at_ l4 m:=(u1.out (by omega) (k:=m) (by omega)).trans (v1.out (by omega) (k:=m) (by omega))
        refine join hL (m:=m) (fun i j q1 q2 q3=>?_) u2 (fun k q1 q2=>?_) (fun k q1 q2=>?_)
        · rw [u1.out (by omega) (k:=i) (by omega),u1.out (by omega) (k:=j) (by omega)]
          exact v2 i j q1 q2 q3
        · rw [em,u1.out (by omega) (k:=k) (by omega)]
          exact v1.all (by omega) (Q:=fun x=>lt x (at_ l4 m)) (Nat.le_refl _) (Nat.le_refl _) w3 k q1 q2
        · rw [em]
          exact u1.all (by omega) (Q:=fun x=>¬ lt x (at_ l4 m)) (lo:=m+1) (hi:=b) (Nat.le_refl _) (Nat.le_refl _) (fun i h1 h2=>by
            rw [v1.out (by omega) (k:=i) (by omega)]; exact w4 i (by omega) h2) k (by omega) q2
    by_cases c2:th ≤ ((m - a:Nat):Int)
    · have t:=pq_r_0 N5 db n cap (Mm enc H db l4 []) 0 a b lim m _ _ th (y8:=.bool bal) (y9:=.bool bb) (y10:=.int .i64 (k:Int)) (y11:=.int .i64 (p:Int)) (y12:=h) (y13:=Ud) (y15:=.bool bb) c c2 hN5
      rw [e3] at t
      exact up .normal _ l5 t (ho true)
    · have t:=pq_r_1 N5 db n cap (Mm enc H db l4 []) 0 a b lim m _ _ th (y8:=.bool bal) (y9:=.bool bb) (y10:=.int .i64 (k:Int)) (y11:=.int .i64 (p:Int)) (y12:=h) (y13:=Ud) (y15:=.bool bb) c c2 hN5
      rw [e3] at t
      exact up .normal _ l5 t (ho false)
  · have hF5:Flo lt (m+1) b l4:=fun _ k h1 h2=>by rw [show m+1 - 1=m by omega]; exact w4 k (by omega) h2
    obtain ⟨l5,hc5,v1,v2⟩:=hd (m+1) b lim l4 (by omega) (by omega) hb hl0 hl1 hl4 hD4 hF5
    obtain ⟨N5,hN5⟩:=hc5.from
    have hl5:=sw_len v1 hl4
    have e3:IntKind.i64.wrap ((m:Int)+1)=((m+1:Nat):Int):=wrap_succ (by omega)
    rw [← e3] at hN5
    have ho:∀ (bl:Bool),Out enc lt dom H db n cap a b l4 .normal (env67 (.sl db 0 n cap n 1) (.int .i64 (a:Int)) (.int .i64 (m:Int)) (.int .i64 lim) (.bool bl) (.bool bb) (.int .i64 (k:Int)) (.int .i64 (p:Int)) h Ud (.int .i64 (m:Int)) (.bool bb) (.int .i64 ((m - a:Nat):Int)) (.int .i64 ((b - m:Nat):Int)) (.int .i64 th)) l5:=fun bl=>by
      have hF6:=(hF4.sw (by omega) (v1.mono (a':=a) (by omega) (Nat.le_refl _))).part (b':=m) rfl (by omega)
      refine ⟨v1.mono (by omega) (Nat.le_refl _),.inr ⟨.inl rfl,a,m,lim,bl,bb,_,_,_,_,_,_,_,_,_,rfl,by omega,Nat.le_refl _,by omega,by omega,hl0,hl1,hF6,fun l6 u1 u2=>?_⟩⟩
      have em:at_ l6 m=at_ l4 m:=(u1.out (by omega) (k:=m) (by omega)).trans (v1.out (by omega) (k:=m) (by omega))
      refine join hL (m:=m) u2 (fun i j q1 q2 q3=>?_) (fun k q1 q2=>?_) (fun k q1 q2=>?_)
      · rw [u1.out (by omega) (k:=i) (by omega),u1.out (by omega) (k:=j) (by omega)]
        exact v2 i j q1 q2 q3
      · rw [em]
        exact u1.all (by omega) (Q:=fun x=>lt x (at_ l4 m)) (lo:=a) (hi:=m) (Nat.le_refl _) (Nat.le_refl _) (fun i h1 h2=>by
            rw [v1.out (by omega) (k:=i) (by omega)]; exact w3 i h1 h2) k q1 q2
      · rw [em,u1.out (by omega) (k:=k) (by omega)]
        exact v1.all (by omega) (Q:=fun x=>¬ lt x (at_ l4 m)) (Nat.le_refl _) (Nat.le_refl _) (fun i h1 h2=>w4 i (by omega) h2) k (by omega) q2
    by_cases c2:th ≤ ((b - m:Nat):Int)
    · have t:=pq_r_2 N5 db n cap (Mm enc H db l4 []) 0 a b lim m _ _ th (y8:=.bool bal) (y9:=.bool bb) (y10:=.int .i64 (k:Int)) (y11:=.int .i64 (p:Int)) (y12:=h) (y13:=Ud) (y15:=.bool bb) c c2 hN5
      exact up .normal _ l5 t (ho true)
    · have t:=pq_r_3 N5 db n cap (Mm enc H db l4 []) 0 a b lim m _ _ th (y8:=.bool bal) (y9:=.bool bb) (y10:=.int .i64 (k:Int)) (y11:=.int .i64 (p:Int)) (y12:=h) (y13:=Ud) (y15:=.bool bb) c c2 hN5
      exact up .normal _ l5 t (ho false)
theorem pq_T (S:So enc lt dom H db n) (hL:Lin lt) {a b k p:Nat} {lim:Int} {bal par:Bool} {h:HV} (hd:PdqOk enc lt dom H db n cap (b - a)) (hp1:a ≤ p) (hp2:p < b) (hb:b ≤ n) (hk:k ≤ n) (hl0:0 ≤ lim) (hl1:lim ≤ 1000) {l:List α} (hl:l.length=n) (hD:Dm dom l) (hF:Flo lt a b l) :
    ∃ x E l',RT polSo 67 (sub [1,1,0,0,0,1,1,1,1,1,1,1] B67) (env67 (.sl db 0 n cap n 1) (.int .i64 (a:Int)) (.int .i64 (b:Int)) (.int .i64 lim) (.bool bal) (.bool par) (.int .i64 (k:Int)) (.int .i64 (p:Int)) h Ud Ud Ud Ud Ud Ud) (Mm enc H db l []) x E (Mm enc H db l' [])∧Out enc lt dom H db n cap a b l x E l':=by
  have hn:=S.nb
  by_cases c0:0 < a
  · have hp:IntKind.i64.wrap ((a:Int) - 1)=((a - 1:Nat):Int):=wrap_pred (by omega) (by omega)
    by_cases c:lt (at_ l (a - 1)) (at_ l p)
    · obtain ⟨N,hN⟩:=S.ct (T:=[]) hl rfl (hD.at (i:=a - 1) (by omega)) (hD.at (i:=p) (by omega)) c
      have t1:=pq_m_0 N db n cap (Mm enc H db l []) 0 a b lim p (y8:=.bool bal) (y9:=.bool par) (y10:=.int .i64 (k:Int)) (y12:=h) (y13:=Ud) (y14:=Ud) (y15:=Ud) (y16:=Ud) (y17:=Ud) (y18:=Ud) (by omega) (ixs hp (by omega)) (S.ld l _ _ hl (by omega)) (ixs (i:=p) rfl (by omega)) (S.ld l _ _ hl (by omega)) hN
      obtain ⟨x,E,l',t,ho⟩:=pq_S S hL (cap:=cap) (k:=k) (bal:=bal) (par:=par) (h:=h) hd hp1 hp2 hb hk hl0 hl1 hl hD hF
      exact ⟨x,E,l',sq t1 t (c:=sub [1,1,0,0,0,1,1,1,1,1,1,1] B67),ho⟩
    · obtain ⟨N,hN⟩:=S.cf (T:=[]) hl rfl (hD.at (i:=a - 1) (by omega)) (hD.at (i:=p) (by omega)) c
      obtain ⟨m,l4,hc4,w1,w2,w3,w4⟩:=peq_ok S (cap:=cap) (T:=[]) hL rfl hb hp1 hp2 hl hD
      obtain ⟨N4,hN4⟩:=hc4.from
      have t1:=pq_m_1 (N+N4) db n cap (Mm enc H db l []) 0 a b lim p (y8:=.bool bal) (y9:=.bool par) (y10:=.int .i64 (k:Int)) (y12:=h) (y13:=Ud) (y14:=Ud) (y15:=Ud) (y16:=Ud) (y17:=Ud) (y18:=Ud) (by omega) (ixs hp (by omega)) (S.ld l _ _ hl (by omega)) (ixs (i:=p) rfl (by omega)) (S.ld l _ _ hl (by omega)) (fun kf hk=>hN kf (by omega))  (fun kf hk=>hN4 kf (by omega))
      have hlow:∀ k,a ≤ k → k < b → ¬ lt (at_ l4 k) (at_ l (a - 1)):=w1.all (by omega) (Q:=fun x=>¬ lt x (at_ l (a - 1))) (Nat.le_refl _) (Nat.le_refl _) (hF c0)
      refine ⟨_,_,l4,sqo t1 (c:=sub [1,1,0,0,0,1,1,1,1,1,1,1] B67) (b:=sub [1,1,0,0,0,1,1,1,1,1,1,1,1] B67),w1,.inr ⟨.inr rfl,m,b,lim,bal,par,_,_,_,_,_,_,_,_,_,rfl,by omega,by omega,by omega,Nat.le_refl _,hl0,hl1,fun _ k h1 h2=>?_,fun l5 u1 u2=>?_⟩⟩
      · exact hL.tr _ _ _ (w3 (m - 1) (by omega) (by omega)) (hL.asy _ _ (w4 k h1 h2))
      · have hl4:=sw_len w1 hl
        have hr:∀ k,m ≤ k → k < b → lt (at_ l p) (at_ l5 k):=u1.all (by omega) (Q:=fun x=>lt (at_ l p) x) (Nat.le_refl _) (Nat.le_refl _) w4
        intro i j q1 q2 q3
        by_cases c1:j < m
        · rw [u1.out (by omega) (k:=i) (by omega),u1.out (by omega) (k:=j) (by omega)]
          exact hL.tr _ _ _ (hL.tr _ _ _ (w3 i q1 (by omega)) c) (hlow j (by omega) q3)
        · by_cases c2:i < m
          · rw [u1.out (by omega) (k:=i) (by omega)]
            exact hL.tr _ _ _ (w3 i q1 c2) (hL.asy _ _ (hr j (by omega) q3))
          · exact u2 i j (by omega) q2 q3
  · have t1:=pq_m_2 0 db n cap (Mm enc H db l []) 0 a b lim p (y8:=.bool bal) (y9:=.bool par) (y10:=.int .i64 (k:Int)) (y12:=h) (y13:=Ud) (y14:=Ud) (y15:=Ud) (y16:=Ud) (y17:=Ud) (y18:=Ud) (by omega)
    obtain ⟨x,E,l',t,ho⟩:=pq_S S hL (cap:=cap) (k:=k) (bal:=bal) (par:=par) (h:=h) hd hp1 hp2 hb hk hl0 hl1 hl hD hF
    exact ⟨x,E,l',sq t1 t (c:=sub [1,1,0,0,0,1,1,1,1,1,1,1] B67),ho⟩
theorem pq_U (S:So enc lt dom H db n) (hL:Lin lt) {a b k p:Nat} {lim h:Int} {bal par:Bool} (hd:PdqOk enc lt dom H db n cap (b - a)) (hp1:a ≤ p) (hp2:p < b) (hb:b ≤ n) (hk:k ≤ n) (hl0:0 ≤ lim) (hl1:lim ≤ 1000) {l:List α} (hl:l.length=n) (hD:Dm dom l) (hF:Flo lt a b l) :
    ∃ x E l',RT polSo 67 (sub [1,1,0,0,0,1,1,1,1,1,1] B67) (env67 (.sl db 0 n cap n 1) (.int .i64 (a:Int)) (.int .i64 (b:Int)) (.int .i64 lim) (.bool bal) (.bool par) (.int .i64 (k:Int)) (.int .i64 (p:Int)) (.int .i64 h) Ud Ud Ud Ud Ud Ud) (Mm enc H db l []) x E (Mm enc H db l' [])∧Out enc lt dom H db n cap a b l x E l':=by
  have hn:=S.nb
  have on:∀ (l3:List α),Sw a b l l3 → RT polSo 67 (sub [1,1,0,0,0,1,1,1,1,1,1,0] B67) (env67 (.sl db 0 n cap n 1) (.int .i64 (a:Int)) (.int .i64 (b:Int)) (.int .i64 lim) (.bool bal) (.bool par) (.int .i64 (k:Int)) (.int .i64 (p:Int)) (.int .i64 h) Ud Ud Ud Ud Ud Ud) (Mm enc H db l []) .normal (env67 (.sl db 0 n cap n 1) (.int .i64 (a:Int)) (.int .i64 (b:Int)) (.int .i64 lim) (.bool bal) (.bool par) (.int .i64 (k:Int)) (.int .i64 (p:Int)) (.int .i64 h) Ud Ud Ud Ud Ud Ud) (Mm enc H db l3 []) →
      ∃ x E l',RT polSo 67 (sub [1,1,0,0,0,1,1,1,1,1,1] B67) (env67 (.sl db 0 n cap n 1) (.int .i64 (a:Int)) (.int .i64 (b:Int)) (.int .i64 lim) (.bool bal) (.bool par) (.int .i64 (k:Int)) (.int .i64 (p:Int)) (.int .i64 h) Ud Ud Ud Ud Ud Ud) (Mm enc H db l []) x E (Mm enc H db l' [])∧Out enc lt dom H db n cap a b l x E l':=fun l3 w t1=>by
    obtain ⟨x,E,l',t,ho⟩:=pq_T S hL (cap:=cap) (k:=k) (bal:=bal) (par:=par) (h:=.int .i64 h) hd hp1 hp2 hb hk hl0 hl1 (sw_len w hl) (hD.sw w (by omega)) (hF.sw (by omega) w)
    exact ⟨x,E,l',sq t1 t (c:=sub [1,1,0,0,0,1,1,1,1,1,1] B67),Out.pre w ho⟩
  cases bal with
  | false=>exact on l .refl (pq_l_0 0 db n cap (Mm enc H db l []) 0 a b lim h)
  | true =>
    cases par with
    | false=>exact on l .refl (pq_k_0 0 db n cap (Mm enc H db l []) 0 a b lim h)
    | true =>
      by_cases c:h=1
      · obtain ⟨bb,l3,hc3,w1,w2⟩:=pin_ok S hL (cap:=cap) (T:=[]) rfl (a:=a) (by omega) hb hl hD hF
        obtain ⟨N3,hN3⟩:=hc3.from
        cases bb with
        | true =>
          have t1:=pq_j_0 N3 db n cap (Mm enc H db l []) 0 a b lim h (y10:=.int .i64 (k:Int)) (y11:=.int .i64 (p:Int)) (y13:=Ud) (y14:=Ud) (y15:=Ud) (y16:=Ud) (y17:=Ud) (y18:=Ud) c hN3
          exact ⟨_,_,l3,sqo t1 (c:=sub [1,1,0,0,0,1,1,1,1,1,1] B67) (b:=sub [1,1,0,0,0,1,1,1,1,1,1,1] B67),w1,.inl ⟨rfl,w2 rfl⟩⟩
        | false=>exact on l3 w1 (pq_j_1 N3 db n cap (Mm enc H db l []) 0 a b lim h c hN3)
      · exact on l .refl (pq_j_2 0 db n cap (Mm enc H db l []) 0 a b lim h c)
theorem pq_V (S:So enc lt dom H db n) (hL:Lin lt) {a b k p:Nat} {lim h:Int} {bal par:Bool} (hd:PdqOk enc lt dom H db n cap (b - a)) (hp1:a ≤ p) (hp2:p < b) (hb:b ≤ n) (hk:k ≤ n) (hl0:0 ≤ lim) (hl1:lim ≤ 1000) {l:List α} (hl:l.length=n) (hD:Dm dom l) (hF:Flo lt a b l) :
    ∃ x E l',RT polSo 67 (sub [1,1,0,0,0,1,1,1,1,1] B67) (env67 (.sl db 0 n cap n 1) (.int .i64 (a:Int)) (.int .i64 (b:Int)) (.int .i64 lim) (.bool bal) (.bool par) (.int .i64 (k:Int)) (.int .i64 (p:Int)) (.int .i64 h) Ud Ud Ud Ud Ud Ud) (Mm enc H db l []) x E (Mm enc H db l' [])∧Out enc lt dom H db n cap a b l x E l':=by
  have hn:=S.nb
  by_cases c:h=2
  · obtain ⟨l2,hc2,w⟩:=rvs_ok S (cap:=cap) (T:=[]) (a:=a) (b:=b) (by omega) hb hl
    obtain ⟨N2,hN2⟩:=hc2.from
    have t1:=pq_i_0 N2 db n cap (Mm enc H db l []) 0 a b lim p h (y8:=.bool bal) (y9:=.bool par) (y10:=.int .i64 (k:Int)) (y13:=Ud) (y14:=Ud) (y15:=Ud) (y16:=Ud) (y17:=Ud) (y18:=Ud) c hN2
    have e1:IntKind.i64.wrap ((b:Int) - 1)=((b - 1:Nat):Int):=wrap_pred (by omega) (by omega)
    have e2:IntKind.i64.wrap ((p:Int) - (a:Int))=((p - a:Nat):Int):=(by rw [wrap_id (by omega) (by omega)]; omega)
    have e3:IntKind.i64.wrap (((b - 1:Nat):Int) - ((p - a:Nat):Int))=((b - 1 - (p - a):Nat):Int):=(by rw [wrap_id (by omega) (by omega)]; omega)
    rw [e1,e2,e3] at t1
    obtain ⟨x,E,l',t,ho⟩:=pq_U S hL (cap:=cap) (k:=k) (p:=b - 1 - (p - a)) (bal:=bal) (par:=par) (h:=1) hd (by omega) (by omega) hb hk hl0 hl1 (sw_len w hl) (hD.sw w (by omega)) (hF.sw (by omega) w)
    exact ⟨x,E,l',sq t1 t (c:=sub [1,1,0,0,0,1,1,1,1,1] B67),Out.pre w ho⟩
  · have t1:=pq_i_1 0 db n cap (Mm enc H db l []) 0 a b lim p h (y8:=.bool bal) (y9:=.bool par) (y10:=.int .i64 (k:Int)) (y13:=Ud) (y14:=Ud) (y15:=Ud) (y16:=Ud) (y17:=Ud) (y18:=Ud) c
    obtain ⟨x,E,l',t,ho⟩:=pq_U S hL (cap:=cap) (k:=k) (p:=p) (bal:=bal) (par:=par) (h:=h) hd hp1 hp2 hb hk hl0 hl1 hl hD hF
    exact ⟨x,E,l',sq t1 t (c:=sub [1,1,0,0,0,1,1,1,1,1] B67),ho⟩
theorem pq_B (S:So enc lt dom H db n) (hL:Lin lt) {a b:Nat} {lim:Int} {bal par:Bool} (hd:PdqOk enc lt dom H db n cap (b - a)) (hab:a ≤ b) (hb:b ≤ n) (hl0:0 ≤ lim) (hl1:lim ≤ 1000) {l:List α} (hl:l.length=n) (hD:Dm dom l) (hF:Flo lt a b l) :
    ∃ x E l',RT polSo 67 (sub [1,1,0,0,0] B67) (env67 (.sl db 0 n cap n 1) (.int .i64 (a:Int)) (.int .i64 (b:Int)) (.int .i64 lim) (.bool bal) (.bool par) Ud Ud Ud Ud Ud Ud Ud Ud Ud) (Mm enc H db l []) x E (Mm enc H db l' [])∧Out enc lt dom H db n cap a b l x E l':=by
  have hn:=S.nb
  have t0:=pq_c_0 0 db n cap (Mm enc H db l []) 0 a b lim (y8:=.bool bal) (y9:=.bool par) (y10:=Ud) (y11:=Ud) (y12:=Ud) (y13:=Ud) (y14:=Ud) (y15:=Ud) (y16:=Ud) (y17:=Ud) (y18:=Ud)
  have e0:IntKind.i64.wrap ((b:Int) - (a:Int))=((b - a:Nat):Int):=(by rw [wrap_id (by omega) (by omega)]; omega)
  rw [e0] at t0
  by_cases c1:b - a ≤ 12
  · obtain ⟨l',hc,w1,w2⟩:=ins_ok S hL (cap:=cap) (T:=[]) rfl hab hb hl hD
    obtain ⟨N1,hN1⟩:=hc.from
    have t1:=pq_d_0 N1 db n cap (Mm enc H db l []) 0 a b lim (b - a) (y8:=.bool bal) (y9:=.bool par) (y11:=Ud) (y12:=Ud) (y13:=Ud) (y14:=Ud) (y15:=Ud) (y16:=Ud) (y17:=Ud) (y18:=Ud) (by omega) hN1
    exact ⟨_,_,l',sq (t0) (sqo (t1) (c:=sub [1,1,0,0,0,1] B67) (b:=sub [1,1,0,0,0,1,1] B67)) (c:=sub [1,1,0,0,0] B67),w1,.inl ⟨rfl,w2⟩⟩
  have t1:=pq_d_1 0 db n cap (Mm enc H db l []) 0 a b lim (b - a) (y8:=.bool bal) (y9:=.bool par) (y11:=Ud) (y12:=Ud) (y13:=Ud) (y14:=Ud) (y15:=Ud) (y16:=Ud) (y17:=Ud) (y18:=Ud) (by omega)
  by_cases c2:lim=0
  · obtain ⟨l',hc,w1,w2⟩:=heap_ok S hL (cap:=cap) (T:=[]) rfl (a:=a) (by omega) hb hl hD
    obtain ⟨N1,hN1⟩:=hc.from
    have t2:=pq_e_0 N1 db n cap (Mm enc H db l []) 0 a b lim (y8:=.bool bal) (y9:=.bool par) (y10:=.int .i64 ((b - a:Nat):Int)) (y11:=Ud) (y12:=Ud) (y13:=Ud) (y14:=Ud) (y15:=Ud) (y16:=Ud) (y17:=Ud) (y18:=Ud) c2 hN1
    exact ⟨_,_,l',sq (t0) (sq (t1) (sqo (t2) (c:=sub [1,1,0,0,0,1,1] B67) (b:=sub [1,1,0,0,0,1,1,1] B67)) (c:=sub [1,1,0,0,0,1] B67)) (c:=sub [1,1,0,0,0] B67),w1,.inl ⟨rfl,w2⟩⟩
  have t2:=pq_e_1 0 db n cap (Mm enc H db l []) 0 a b lim (y8:=.bool bal) (y9:=.bool par) (y10:=.int .i64 ((b - a:Nat):Int)) (y11:=Ud) (y12:=Ud) (y13:=Ud) (y14:=Ud) (y15:=Ud) (y16:=Ud) (y17:=Ud) (y18:=Ud) c2
  have on:∀ (lim1:Int) (l1:List α),0 ≤ lim1 → lim1 ≤ 1000 → Sw a b l l1 → RT polSo 67 (sub [1,1,0,0,0,1,1,1,0] B67) (env67 (.sl db 0 n cap n 1) (.int .i64 (a:Int)) (.int .i64 (b:Int)) (.int .i64 lim) (.bool bal) (.bool par) (.int .i64 ((b - a:Nat):Int)) Ud Ud Ud Ud Ud Ud Ud Ud) (Mm enc H db l []) .normal (env67 (.sl db 0 n cap n 1) (.int .i64 (a:Int)) (.int .i64 (b:Int)) (.int .i64 lim1) (.bool bal) (.bool par) (.int .i64 ((b - a:Nat):Int)) Ud Ud Ud Ud Ud Ud Ud Ud) (Mm enc H db l1 []) →
      ∃ x E l',RT polSo 67 (sub [1,1,0,0,0] B67) (env67 (.sl db 0 n cap n 1) (.int .i64 (a:Int)) (.int .i64 (b:Int)) (.int .i64 lim) (.bool bal) (.bool par) Ud Ud Ud Ud Ud Ud Ud Ud Ud) (Mm enc H db l []) x E (Mm enc H db l' [])∧Out enc lt dom H db n cap a b l x E l':=fun lim1 l1 hq0 hq1 w t3=>by
    have hl1':=sw_len w hl
    have hD1:=hD.sw w (by omega)
    obtain ⟨p,h,hc,p1,p2⟩:=piv_ok S (cap:=cap) (a:=a) (b:=b) (by omega) hb hl1' hD1
    obtain ⟨N1,hN1⟩:=hc.from
    have t4:=pq_h_0 N1 db n cap (Mm enc H db l1 []) 0 a b lim1 (y8:=.bool bal) (y9:=.bool par) (y10:=.int .i64 ((b - a:Nat):Int)) (y11:=Ud) (y12:=Ud) (y13:=Ud) (y14:=Ud) (y15:=Ud) (y16:=Ud) (y17:=Ud) (y18:=Ud) hN1
    obtain ⟨x,E,l',t,ho⟩:=pq_V S hL (cap:=cap) (k:=b - a) (p:=p) (bal:=bal) (par:=par) (h:=h) hd p1 p2 hb (by omega) hq0 hq1 hl1' hD1 (hF.sw (by omega) w)
    have t5:=sq t4 t (c:=sub [1,1,0,0,0,1,1,1,1] B67)
    have t6:=sq t3 t5 (c:=sub [1,1,0,0,0,1,1,1] B67)
    have t7:=sq t2 t6 (c:=sub [1,1,0,0,0,1,1] B67)
    have t8:=sq t1 t7 (c:=sub [1,1,0,0,0,1] B67)
    exact ⟨x,E,l',sq t0 t8 (c:=sub [1,1,0,0,0] B67),Out.pre w ho⟩
  cases bal with
  | true=>exact on lim l hl0 hl1 .refl (pq_f_0 0 db n cap (Mm enc H db l []) 0 a b lim)
  | false =>
    obtain ⟨l1,hc,w⟩:=brk_ok S (cap:=cap) (a:=a) (b:=b) (by omega) hb hl
    obtain ⟨N1,hN1⟩:=hc.from
    have t3:=pq_g_0 N1 db n cap (Mm enc H db l []) 0 a b lim (y9:=.bool par) (y10:=.int .i64 ((b - a:Nat):Int)) (y11:=Ud) (y12:=Ud) (y13:=Ud) (y14:=Ud) (y15:=Ud) (y16:=Ud) (y17:=Ud) (y18:=Ud) hN1
    rw [wrap_id (n:=lim - 1) (by omega) (by omega)] at t3
    exact on (lim - 1) l1 (by omega) (by omega) w t3
theorem pq_loop (S:So enc lt dom H db n) (hL:Lin lt):∀ (d:Nat) (a b:Nat) (lim:Int) (bal par:Bool) (l:List α),b - a < d → PdqOk enc lt dom H db n cap (b - a) → a ≤ b → b ≤ n → 0 ≤ lim → lim ≤ 1000 → l.length=n → Dm dom l → Flo lt a b l →
    ∃ E l',RT polSo 67 (sub [1,1,0] B67) (env67 (.sl db 0 n cap n 1) (.int .i64 (a:Int)) (.int .i64 (b:Int)) (.int .i64 lim) (.bool bal) (.bool par) Ud Ud Ud Ud Ud Ud Ud Ud Ud) (Mm enc H db l []) .ret E (Mm enc H db l' [])∧Sw a b l l'∧Sorted lt a b l':=by
  have hn:=S.nb
  intro d
  induction d with
  | zero=>intro a b lim bal par l hd; omega
  | succ d ih =>
    intro a b lim bal par l hd hP hab hb h0 h1 hl hD hF
    obtain ⟨x,E,l1,t,w,ho⟩:=pq_B S hL (cap:=cap) (bal:=bal) (par:=par) hP hab hb h0 h1 hl hD hF
    rcases ho with ⟨rfl,hs⟩ | ⟨hx,a',b',lim',bal',par',y2,y3,y4,y5,y6,y7,y8,y9,y10,rfl,q1,q2,q3,q4,q5,q6,q7,q8⟩
    · exact ⟨_,l1,lpo (RunsTo.block_ret (i:=1) (c:=sub [1,1,0,0] B67) t (by kernel_rfl)),w,hs⟩
    · have st:RT polSo 67 (sub [1,1,0,0] B67) (env67 (.sl db 0 n cap n 1) (.int .i64 (a:Int)) (.int .i64 (b:Int)) (.int .i64 lim) (.bool bal) (.bool par) Ud Ud Ud Ud Ud Ud Ud Ud Ud) (Mm enc H db l []) .normal (env67 (.sl db 0 n cap n 1) (.int .i64 (a':Int)) (.int .i64 (b':Int)) (.int .i64 lim') (.bool bal') (.bool par') y2 y3 y4 y5 y6 y7 y8 y9 y10) (Mm enc H db l1 []):=by
        rcases hx with rfl | rfl
        · exact RunsTo.block_normal (i:=1) t (by kernel_rfl)
        · exact bke t
      have hl1:=sw_len w hl
      obtain ⟨E,l2,r,v1,v2⟩:=ih a' b' lim' bal' par' l1 (by omega) (fun a2 b2 lim2 l2 g1=>hP a2 b2 lim2 l2 (by omega)) q3 (by omega) q5 q6 hl1 (hD.sw w (by omega)) q7
      exact ⟨E,l2,lop (st) (gcM _ _ _ _ _ rfl) (r),w.trans (v1.mono q2 q4),q8 l2 v1 v2⟩
theorem pdq_of (S:So enc lt dom H db n) (hL:Lin lt) {a b:Nat} {lim:Int} {l:List α} (hP:PdqOk enc lt dom H db n cap (b - a)) (hab:a ≤ b) (hb:b ≤ n) (h0:0 ≤ lim) (h1:lim ≤ 1000) (hl:l.length=n) (hD:Dm dom l) (hF:Flo lt a b l) :
    ∃ l',ClS 67 [.sl db 0 n cap n 1,.int .i64 (a:Int),.int .i64 (b:Int),.int .i64 lim] (Mm enc H db l []) (.tuple []) (Mm enc H db l' [])∧Sw a b l l'∧Sorted lt a b l':=by
  obtain ⟨E,l',r,q⟩:=pq_loop S hL (cap:=cap) _ a b lim true true l (Nat.lt_succ_self _) hP hab hb h0 h1 hl hD hF
  have t0:=pq_a_0 0 db n cap (Mm enc H db l []) 0 a b lim
  have t1:=pq_b_0 0 db n cap (Mm enc H db l []) 0 a b lim (y8:=.bool true) (y9:=Ud) (y10:=Ud) (y11:=Ud) (y12:=Ud) (y13:=Ud) (y14:=Ud) (y15:=Ud) (y16:=Ud) (y17:=Ud) (y18:=Ud)
  have t:=sq (t0) (sq (t1) (RunsTo.block_ret (i:=0) (c:=sub [1,1] B67) (r) (by kernel_rfl)) (c:=sub [1] B67)) (c:=B67)
  have hc:=CallsTo.shared (P:=Tp) (pol:=polSo) (g:=67) (fn:=Try.f67) (cd:=B67) (args:=[.sl db 0 n cap n 1,.int .i64 (a:Int),.int .i64 (b:Int),.int .i64 lim]) (v:=.tuple []) (by kernel_rfl) (by kernel_rfl) (by kernel_rfl) (by kernel_rfl) t (by kernel_rfl) (by simp) (by kernel_rfl)
  rw [gcM _ _ _ _ _ rfl] at hc
  exact ⟨l',hc,q⟩
theorem pdq_all (S:So enc lt dom H db n) (hL:Lin lt):∀ d,PdqOk enc lt dom H db n cap d
  | 0,_,_,_,_,h=>by omega
  | d+1,a,b,lim,l,h=>fun hab hb h0 h1 hl hD hF=>pdq_of S hL (fun a2 b2 lim2 l2 g=>pdq_all S hL d a2 b2 lim2 l2 (by omega)) hab hb h0 h1 hl hD hF
theorem pdq_ok (S:So enc lt dom H db n) (hL:Lin lt) {lim:Int} (h0:0 ≤ lim) (h1:lim ≤ 1000) {l:List α} (hl:l.length=n) (hD:Dm dom l) :
    ∃ l',ClS 67 [.sl db 0 n cap n 1,.int .i64 0,.int .i64 (n:Int),.int .i64 lim] (Mm enc H db l []) (.tuple []) (Mm enc H db l' [])∧l'.Perm l∧Sorted lt 0 n l':=by
  obtain ⟨l',hc,w,hs⟩:=pdq_all S hL (cap:=cap) (n+1) 0 n lim l (by omega) (Nat.zero_le _) (Nat.le_refl _) h0 h1 hl hD (fun h=>by omega)
  exact ⟨l',hc,w.perm (by omega),hs⟩
end
end Go.Proofs.Ytaibmipamkaljaa
end
section
open Go Go.HL
namespace Go.Proofs.Ytaibmipamkaljaa
set_option maxRecDepth 100000
open Go.Proofs.Try renaming prog → Tp
open Go.HL.HV renaming undef → Ud
noncomputable def B54:Code:=Try.f54.body.getD .skip
abbrev env54 (v0 v2 v3 v4 v5:HV):Env:=[(0,v0),(2,v2),(3,v3),(4,v4),(5,v5)]
theorem cm_a_0 (b n:Nat) (H:Heap) :RT polSo 54 (sub [0] B54) [(0,.s b n)] H .normal (env54 (.s b n) (.imm .lit 1 []) Ud Ud Ud) H :=
  RunsTo.hin 0 60 [] fun kf hk=>⟨_,by kernel_rfl,.nil⟩
theorem cm_b_0 (b n:Nat) (H:Heap)  {y3 y4 y5:HV}(g0:(n:Int) < 2):RT polSo 54 (sub [1,0] B54) (env54 (.s b n) (.imm .lit 1 []) y3 y4 y5) H .ret (env54 (.s b n) (.s b n) y3 y4 y5) H :=
  RunsTo.hin 0 60 [⟨1,2,.bool true,H⟩] fun kf hk=>⟨_,by kernel_rfl,(oB H (decide_eq_true g0) .nil)⟩
theorem cm_b_1 (b n:Nat) (H:Heap)  {y3 y4 y5:HV}(g0:¬ ((n:Int) < 2)):RT polSo 54 (sub [1,0] B54) (env54 (.s b n) (.imm .lit 1 []) y3 y4 y5) H .normal (env54 (.s b n) (.imm .lit 1 []) y3 y4 y5) H :=
  RunsTo.hin 0 60 [⟨1,2,.bool false,H⟩] fun kf hk=>⟨_,by kernel_rfl,(oB H (decide_eq_false g0) .nil)⟩
theorem cm_c_0 (b n:Nat) (H:Heap)  {y3 y4 y5:HV}:RT polSo 54 (sub [1,1,0,0] B54) (env54 (.s b n) (.imm .lit 1 []) y3 y4 y5) H .normal (env54 (.s b n) (.imm .lit 1 []) (.i 1) y4 y5) H :=
  RunsTo.hin 0 60 [] fun kf hk=>⟨_,by kernel_rfl,.nil⟩
theorem cm_d_0 (b n:Nat) (H:Heap) (k:Nat) {y4 y5:HV}(g0:(k:Int) < (n:Int)):RT polSo 54 (sub [1,1,0,1,0,0,0] B54) (env54 (.s b n) (.imm .lit 1 []) (.i (k:Int)) y4 y5) H .normal (env54 (.s b n) (.imm .lit 1 []) (.i (k:Int)) y4 y5) H :=
  RunsTo.hin 0 60 [⟨4,3,.bool true,H⟩] fun kf hk=>⟨_,by kernel_rfl,(oB H (decide_eq_true g0) .nil)⟩
theorem cm_d_1 (b n:Nat) (H:Heap) (k:Nat) {y4 y5:HV}(g0:¬ ((k:Int) < (n:Int))):RT polSo 54 (sub [1,1,0,1,0,0,0] B54) (env54 (.s b n) (.imm .lit 1 []) (.i (k:Int)) y4 y5) H (.exit 0) (env54 (.s b n) (.imm .lit 1 []) (.i (k:Int)) y4 y5) H :=
  RunsTo.hin 0 60 [⟨4,3,.bool false,H⟩] fun kf hk=>⟨_,by kernel_rfl,(oB H (decide_eq_false g0) .nil)⟩
theorem cm_e_0 (b n:Nat) (H:Heap) (k:Nat) {y4 y5:HV} {x0:Int} {x1:Int} (g0:idxV Tp 22 (.s b n) (.i (k:Int))=some (.ptr b k 0 n)) (g1:loadV Tp H 3 (.ptr b k 0 n)=some (.i x0)) (g2:idxV Tp 22 (.s b n) (.i (IntKind.i64.wrap ((k:Int) - 1)))=some (.ptr b (k - 1) 0 n)) (g3:loadV Tp H 3 (.ptr b (k - 1) 0 n)=some (.i x1)) (g4:x0=x1):RunsTo Tp polSo 54 (sub [1,1,0,1,0,0,1,0,0,0] B54) (env54 (.s b n) (.imm .lit 1 []) (.i (k:Int)) y4 y5) H .normal [0,2,3,4,5,25] [(0,.s b n),(2,.imm .lit 1 []),(3,.i (k:Int)),(4,y4),(5,y5),(25,.bool true)] H :=
  RunsTo.hin 0 60 [⟨6,2,.ptr b k 0 n,H⟩,⟨6,3,.i x0,H⟩,⟨6,7,.ptr b (k - 1) 0 n,H⟩,⟨6,8,.i x1,H⟩,⟨6,9,.bool true,H⟩] fun kf hk=>⟨_,by kernel_rfl,(oP H g0 (oP H g1 (oP H g2 (oP H g3 (oB H (decide_eq_true g4) .nil)))))⟩
theorem cm_e_1 (b n:Nat) (H:Heap) (k:Nat) {y4 y5:HV} {x0:Int} {x1:Int} (g0:idxV Tp 22 (.s b n) (.i (k:Int))=some (.ptr b k 0 n)) (g1:loadV Tp H 3 (.ptr b k 0 n)=some (.i x0)) (g2:idxV Tp 22 (.s b n) (.i (IntKind.i64.wrap ((k:Int) - 1)))=some (.ptr b (k - 1) 0 n)) (g3:loadV Tp H 3 (.ptr b (k - 1) 0 n)=some (.i x1)) (g4:¬ (x0=x1)):RunsTo Tp polSo 54 (sub [1,1,0,1,0,0,1,0,0,0] B54) (env54 (.s b n) (.imm .lit 1 []) (.i (k:Int)) y4 y5) H .normal [0,2,3,4,5,25] [(0,.s b n),(2,.imm .lit 1 []),(3,.i (k:Int)),(4,y4),(5,y5),(25,.bool false)] H :=
  RunsTo.hin 0 60 [⟨6,2,.ptr b k 0 n,H⟩,⟨6,3,.i x0,H⟩,⟨6,7,.ptr b (k - 1) 0 n,H⟩,⟨6,8,.i x1,H⟩,⟨6,9,.bool false,H⟩] fun kf hk=>⟨_,by kernel_rfl,(oP H g0 (oP H g1 (oP H g2 (oP H g3 (oB H (decide_eq_false g4) .nil)))))⟩
theorem cm_f_0 (b n:Nat) (H:Heap) (k:Nat) {y4 y5:HV}(g0:sliceV Tp 22 (.s b n) (some (.i (k:Int))) none none=some (.sl b k (n - k) none n 1)):RT polSo 54 (sub [1,1,0,1,0,0,1,0,0,1,0,0] B54) (env54 (.s b n) (.imm .lit 1 []) (.i (k:Int)) y4 y5) H .normal (env54 (.s b n) (.imm .lit 1 []) (.i (k:Int)) (.sl b k (n - k) none n 1) y5) H :=
  RunsTo.hin 0 60 [⟨7,2,.sl b k (n - k) none n 1,H⟩] fun kf hk=>⟨_,by kernel_rfl,(oP H g0 .nil)⟩
theorem cm_g_0 (b n:Nat) (H:Heap) (k m r:Nat) {y5:HV}:RT polSo 54 (sub [1,1,0,1,0,0,1,0,0,1,0,1,0,0] B54) (env54 (.s b n) (.imm .lit 1 []) (.i (k:Int)) (.sl b m r none n 1) y5) H .normal (env54 (.s b n) (.imm .lit 1 []) (.i (k:Int)) (.sl b m r none n 1) (.i 1)) H :=
  RunsTo.hin 0 60 [] fun kf hk=>⟨_,by kernel_rfl,.nil⟩
theorem cm_h_0 (b n:Nat) (H:Heap) (k m r j:Nat) {x0:Int} {x1:Int} (g0:(j:Int) < (r:Int)) (g1:idxV Tp 22 (.sl b m r none n 1) (.i (j:Int))=some (.ptr b (m+j) 0 n)) (g2:loadV Tp H 3 (.ptr b (m+j) 0 n)=some (.i x0)) (g3:idxV Tp 22 (.sl b m r none n 1) (.i (IntKind.i64.wrap ((j:Int) - 1)))=some (.ptr b (m+(j - 1)) 0 n)) (g4:loadV Tp H 3 (.ptr b (m+(j - 1)) 0 n)=some (.i x1)) (g5:x0=x1):RT polSo 54 (sub [1,1,0,1,0,0,1,0,0,1,0,1,0,1,0,0] B54) (env54 (.s b n) (.imm .lit 1 []) (.i (k:Int)) (.sl b m r none n 1) (.i (j:Int))) H .normal (env54 (.s b n) (.imm .lit 1 []) (.i (k:Int)) (.sl b m r none n 1) (.i (IntKind.i64.wrap ((j:Int)+1)))) H :=
  RunsTo.hin 0 60 [⟨9,3,.bool true,H⟩,⟨11,2,.ptr b (m+j) 0 n,H⟩,⟨11,3,.i x0,H⟩,⟨11,7,.ptr b (m+(j - 1)) 0 n,H⟩,⟨11,8,.i x1,H⟩,⟨11,9,.bool false,H⟩] fun kf hk=>⟨_,by kernel_rfl,(oB H (decide_eq_true g0) (oP H g1 (oP H g2 (oP H g3 (oP H g4 (oB H (congrArg not (decide_eq_true g5)) .nil))))))⟩
theorem cm_h_1 (b n:Nat) (H:Heap) (k m r j:Nat) {x0:Int} {x1:Int} {x2:Int} {H0:Heap} (g0:(j:Int) < (r:Int)) (g1:idxV Tp 22 (.sl b m r none n 1) (.i (j:Int))=some (.ptr b (m+j) 0 n)) (g2:loadV Tp H 3 (.ptr b (m+j) 0 n)=some (.i x0)) (g3:idxV Tp 22 (.sl b m r none n 1) (.i (IntKind.i64.wrap ((j:Int) - 1)))=some (.ptr b (m+(j - 1)) 0 n)) (g4:loadV Tp H 3 (.ptr b (m+(j - 1)) 0 n)=some (.i x1)) (g5:¬ (x0=x1)) (g6:idxV Tp 22 (.sl b m r none n 1) (.i (j:Int))=some (.ptr b (m+j) 0 n)) (g7:loadV Tp H 3 (.ptr b (m+j) 0 n)=some (.i x2)) (g8:idxV Tp 22 (.s b n) (.i (k:Int))=some (.ptr b k 0 n)) (g9:storeV Tp H 3 (.ptr b k 0 n) (.i x2)=some H0):RT polSo 54 (sub [1,1,0,1,0,0,1,0,0,1,0,1,0,1,0,0] B54) (env54 (.s b n) (.imm .lit 1 []) (.i (k:Int)) (.sl b m r none n 1) (.i (j:Int))) H .normal (env54 (.s b n) (.imm .lit 1 []) (.i (IntKind.i64.wrap ((k:Int)+1))) (.sl b m r none n 1) (.i (IntKind.i64.wrap ((j:Int)+1)))) H0 :=
  RunsTo.hin 0 60 [⟨9,3,.bool true,H⟩,⟨11,2,.ptr b (m+j) 0 n,H⟩,⟨11,3,.i x0,H⟩,⟨11,7,.ptr b (m+(j - 1)) 0 n,H⟩,⟨11,8,.i x1,H⟩,⟨11,9,.bool true,H⟩,⟨12,4,.ptr b (m+j) 0 n,H⟩,⟨12,5,.i x2,H⟩,⟨12,6,.ptr b k 0 n,H⟩,⟨12,7,.tuple [],H0⟩] fun kf hk=>⟨_,by kernel_rfl,(oB H (decide_eq_true g0) (oP H g1 (oP H g2 (oP H g3 (oP H g4 (oB H (congrArg not (decide_eq_false g5)) (oP H g6 (oP H g7 (oP H g8 (oS g9 .nil))))))))))⟩
theorem cm_h_2 (b n:Nat) (H:Heap) (k m r j:Nat)(g0:¬ ((j:Int) < (r:Int))):RT polSo 54 (sub [1,1,0,1,0,0,1,0,0,1,0,1,0,1,0,0] B54) (env54 (.s b n) (.imm .lit 1 []) (.i (k:Int)) (.sl b m r none n 1) (.i (j:Int))) H (.exit 2) (env54 (.s b n) (.imm .lit 1 []) (.i (k:Int)) (.sl b m r none n 1) (.i (j:Int))) H :=
  RunsTo.hin 0 60 [⟨9,3,.bool false,H⟩] fun kf hk=>⟨_,by kernel_rfl,(oB H (decide_eq_false g0) .nil)⟩
theorem cm_i_0 (b n:Nat) (H:Heap) (k m r:Nat) {y5:HV} {H0:Heap} (g0:sliceV Tp 22 (.s b n) (some (.i (k:Int))) none none=some (.sl b k (n - k) none n 1)) (g1:clearV Tp H 22 (.sl b k (n - k) none n 1)=some (.tuple [],H0)) (g2:sliceV Tp 22 (.s b n) none (some (.i (k:Int))) none=some (.sl b 0 k none n 1)):RT polSo 54 (sub [1,1,0,1,0,0,1,0,0,1,0,1,1] B54) (env54 (.s b n) (.imm .lit 1 []) (.i (k:Int)) (.sl b m r none n 1) y5) H .ret (env54 (.s b n) (.sl b 0 k none n 1) (.i (k:Int)) (.sl b m r none n 1) y5) H0 :=
  RunsTo.hin 0 60 [⟨14,2,.sl b k (n - k) none n 1,H⟩,⟨14,3,.tuple [],H0⟩,⟨15,2,.sl b 0 k none n 1,H0⟩] fun kf hk=>⟨_,by kernel_rfl,(oP H g0 (oC (g1) (oP H0 g2 .nil)))⟩
theorem cm_j_0 (b n:Nat) (H:Heap) (k:Nat) {y4 y5:HV}:RT polSo 54 (sub [1,1,0,1,0,0,1,1] B54) (env54 (.s b n) (.imm .lit 1 []) (.i (k:Int)) y4 y5) H .normal (env54 (.s b n) (.imm .lit 1 []) (.i (IntKind.i64.wrap ((k:Int)+1))) y4 y5) H :=
  RunsTo.hin 0 60 [] fun kf hk=>⟨_,by kernel_rfl,.nil⟩
theorem cm_k_0 (b n:Nat) (H:Heap) (k:Nat) {y4 y5:HV}:RT polSo 54 (sub [1,1,1] B54) (env54 (.s b n) (.imm .lit 1 []) (.i (k:Int)) y4 y5) H .ret (env54 (.s b n) (.s b n) (.i (k:Int)) y4 y5) H :=
  RunsTo.hin 0 60 [] fun kf hk=>⟨_,by kernel_rfl,.nil⟩
end Go.Proofs.Ytaibmipamkaljaa
end
