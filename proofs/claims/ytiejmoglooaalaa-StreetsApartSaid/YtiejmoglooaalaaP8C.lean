/- A part of the proof. -/
import Derived.Test.YtiejmoglooaalaaP8B
set_option linter.unusedVariables false
set_option linter.unusedSimpArgs false
set_option linter.unnecessarySimpa false
section
open Go Go.HL Go.HL.So
namespace Go.Proofs.Ytiejmoglooaalaa
set_option linter.unusedSectionVars false
open Go.Proofs.Try renaming prog → Tp
open Go.HL.HV renaming undef → Ud
section
variable {xb:Nat} {α:Type} [Inhabited α] {enc:α → HV} {lt:α → α → Prop} {dom:α → Prop} {H:Heap} {db n:Nat} {cap:Option Nat}
def PdqOk (xb:Nat) (enc:α → HV) (lt:α → α → Prop) (dom:α → Prop) (H:Heap) (db n:Nat) (cap:Option Nat) (d:Nat):Prop:=∀ (a b:Nat) (lim:Int) (l:List α),b - a < d → a ≤ b → b ≤ n → 0 ≤ lim → lim ≤ 1000 → l.length=n → Dm dom l → Flo lt a b l →
  ∃ l',ClS 88 [.sl db 0 n cap n 1,.int .i64 (a:Int),.int .i64 (b:Int),.int .i64 lim,.func 69 [] [.ptr xb 0 0 1]] (Mm enc H db l []) (.tuple []) (Mm enc H db l' [])∧Sw a b l l'∧Sorted lt a b l'
def Out (xb:Nat) (enc:α → HV) (lt:α → α → Prop) (dom:α → Prop) (H:Heap) (db n:Nat) (cap:Option Nat) (a b:Nat) (l:List α) (x:X) (E:Env) (l':List α):Prop :=
  Sw a b l l'∧((x=.ret∧Sorted lt a b l') ∨ ((x=.normal ∨ x=.exit 1)∧∃ (a' b':Nat) (lim':Int) (bal' par':Bool) (y2 y3 y4 y5 y6 y7 y8 y9 y10:HV),E=(env88 (.sl db 0 n cap n 1) (.int .i64 (a':Int)) (.int .i64 (b':Int)) (.int .i64 lim') (.func 69 [] [.ptr xb 0 0 1]) (.bool bal') (.bool par') y2 y3 y4 y5 y6 y7 y8 y9 y10) ∧
    b' - a' < b - a∧a ≤ a'∧a' ≤ b'∧b' ≤ b∧0 ≤ lim'∧lim' ≤ 1000∧Flo lt a' b' l'∧∀ l'',Sw a' b' l' l'' → Sorted lt a' b' l'' → Sorted lt a b l''))
theorem Out.pre {a b:Nat} {l l1 l':List α} {x:X} {E:Env} (h:Sw a b l l1) (ho:Out xb enc lt dom H db n cap a b l1 x E l'):Out xb enc lt dom H db n cap a b l x E l':=⟨h.trans ho.1,ho.2⟩
theorem Flo.part {a b a' b':Nat} {l:List α} (h:Flo lt a b l) (h1:a'=a) (h2:b' ≤ b):Flo lt a' b' l:=by
  subst h1
  exact fun h0 k h3 h4=>h h0 k h3 (by omega)
theorem join (hL:Lin lt) {a b m:Nat} {l:List α} (h1:Sorted lt a m l) (h2:Sorted lt (m+1) b l) (h3:∀ k,a ≤ k → k < m → lt (at_ l k) (at_ l m)) (h4:∀ k,m < k → k < b → ¬ lt (at_ l k) (at_ l m)):Sorted lt a b l:=by
  intro i j q1 q2 q3
  by_cases c1:j < m
  · exact h1 i j q1 q2 c1
  · by_cases c2:j=m
    · subst c2; exact hL.asy _ _ (h3 i q1 q2)
    · by_cases c3:i < m
      · exact hL.tr _ _ _ (hL.asy _ _ (h3 i q1 c3)) (h4 j (by omega) q3)
      · by_cases c4:i=m
        · subst c4; exact h4 j (by omega) q3
        · exact h2 i j (by omega) q2 q3
theorem pq_S (S:So xb enc lt dom H db n) (hL:Lin lt) {a b k p:Nat} {lim:Int} {bal par:Bool} {h:HV} (hd:PdqOk xb enc lt dom H db n cap (b - a)) (hp1:a ≤ p) (hp2:p < b) (hb:b ≤ n) (hk:k ≤ n) (hl0:0 ≤ lim) (hl1:lim ≤ 1000) {l:List α} (hl:l.length=n) (hD:Dm dom l) (hF:Flo lt a b l) :
    ∃ x E l',RT polSo 88 (sub [1,1,0,0,0,1,1,1,1,1,1,1,1] B88) (env88 (.sl db 0 n cap n 1) (.int .i64 (a:Int)) (.int .i64 (b:Int)) (.int .i64 lim) (.func 69 [] [.ptr xb 0 0 1]) (.bool bal) (.bool par) (.int .i64 (k:Int)) (.int .i64 (p:Int)) h Ud Ud Ud Ud Ud Ud) (Mm enc H db l []) x E (Mm enc H db l' [])∧Out xb enc lt dom H db n cap a b l x E l':=by
  have hn:=S.nb
  obtain ⟨m,bb,l4,hc,w1,w2,w3,w4⟩:=part_ok S (cap:=cap) (T:=[]) rfl hb hp1 hp2 hl hD
  obtain ⟨N,hN⟩:=hc.from
  have t1:=pq_n_0 (xb:=xb) N db n cap (Mm enc H db l []) 0 a b lim p (y10:=.bool bal) (y11:=.bool par) (y12:=.int .i64 (k:Int)) (y14:=h) (y15:=Ud) (y16:=Ud) (y17:=Ud) (y18:=Ud) (y19:=Ud) (y20:=Ud) hN
  have hl4:=sw_len w1 hl
  have hD4:=hD.sw w1 (by omega)
  have hF4:=hF.sw (by omega) w1
  have t2:=pq_o_0 (xb:=xb) 0 db n cap (Mm enc H db l4 []) 0 a b lim (y10:=.bool bal) (y11:=.bool par) (y12:=.int .i64 (k:Int)) (y13:=.int .i64 (p:Int)) (y14:=h) (y15:=Ud) (y16:=.int .i64 (m:Int)) (y17:=.bool bb) (y18:=Ud) (y19:=Ud) (y20:=Ud)
  have t3:=pq_p_0 (xb:=xb) 0 db n cap (Mm enc H db l4 []) 0 a b lim m (y10:=.bool bal) (y11:=.bool bb) (y12:=.int .i64 (k:Int)) (y13:=.int .i64 (p:Int)) (y14:=h) (y15:=Ud) (y17:=.bool bb) (y18:=Ud) (y19:=Ud) (y20:=Ud)
  have e1:IntKind.i64.wrap ((m:Int) - (a:Int))=((m - a:Nat):Int):=(by rw [wrap_id (by omega) (by omega)]; omega)
  have e2:IntKind.i64.wrap ((b:Int) - (m:Int))=((b - m:Nat):Int):=(by rw [wrap_id (by omega) (by omega)]; omega)
  rw [e1,e2] at t3
  have t4:=pq_q_0 (xb:=xb) 0 db n cap (Mm enc H db l4 []) 0 a b lim k (y10:=.bool bal) (y11:=.bool bb) (y13:=.int .i64 (p:Int)) (y14:=h) (y15:=Ud) (y16:=.int .i64 (m:Int)) (y17:=.bool bb) (y18:=.int .i64 ((m - a:Nat):Int)) (y19:=.int .i64 ((b - m:Nat):Int)) (y20:=Ud)
  generalize IntKind.i64.wrap (((k:Int):Int).tdiv 8)=th at t4
  have up:∀ (x:X) (E:Env) (l':List α),RT polSo 88 (sub [1,1,0,0,0,1,1,1,1,1,1,1,1,1,1,1,1] B88) (env88 (.sl db 0 n cap n 1) (.int .i64 (a:Int)) (.int .i64 (b:Int)) (.int .i64 lim) (.func 69 [] [.ptr xb 0 0 1]) (.bool bal) (.bool bb) (.int .i64 (k:Int)) (.int .i64 (p:Int)) h Ud (.int .i64 (m:Int)) (.bool bb) (.int .i64 ((m - a:Nat):Int)) (.int .i64 ((b - m:Nat):Int)) (.int .i64 th)) (Mm enc H db l4 []) .normal E (Mm enc H db l' []) → Out xb enc lt dom H db n cap a b l4 .normal E l' →
      ∃ x E l',RT polSo 88 (sub [1,1,0,0,0,1,1,1,1,1,1,1,1] B88) (env88 (.sl db 0 n cap n 1) (.int .i64 (a:Int)) (.int .i64 (b:Int)) (.int .i64 lim) (.func 69 [] [.ptr xb 0 0 1]) (.bool bal) (.bool par) (.int .i64 (k:Int)) (.int .i64 (p:Int)) h Ud Ud Ud Ud Ud Ud) (Mm enc H db l []) x E (Mm enc H db l' [])∧Out xb enc lt dom H db n cap a b l x E l':=fun x E l' t ho =>
    ⟨_,E,l',sq (t1) (sq (t2) (sq (t3) (sq (t4) (t) (c:=sub [1,1,0,0,0,1,1,1,1,1,1,1,1,1,1,1] B88)) (c:=sub [1,1,0,0,0,1,1,1,1,1,1,1,1,1,1] B88)) (c:=sub [1,1,0,0,0,1,1,1,1,1,1,1,1,1] B88)) (c:=sub [1,1,0,0,0,1,1,1,1,1,1,1,1] B88),Out.pre w1 ho⟩
  by_cases c:((m - a:Nat):Int) < ((b - m:Nat):Int)
  · obtain ⟨l5,hc5,v1,v2⟩:=hd a m lim l4 (by omega) (by omega) (by omega) hl0 hl1 hl4 hD4 (hF4.part rfl (by omega))
    obtain ⟨N5,hN5⟩:=hc5.from
    have hl5:=sw_len v1 hl4
    have e3:IntKind.i64.wrap ((m:Int)+1)=((m+1:Nat):Int):=wrap_succ (by omega)
    have ho:∀ (bl:Bool),Out xb enc lt dom H db n cap a b l4 .normal (env88 (.sl db 0 n cap n 1) (.int .i64 ((m+1:Nat):Int)) (.int .i64 (b:Int)) (.int .i64 lim) (.func 69 [] [.ptr xb 0 0 1]) (.bool bl) (.bool bb) (.int .i64 (k:Int)) (.int .i64 (p:Int)) h Ud (.int .i64 (m:Int)) (.bool bb) (.int .i64 ((m - a:Nat):Int)) (.int .i64 ((b - m:Nat):Int)) (.int .i64 th)) l5:=fun bl=>by
      refine ⟨v1.mono (Nat.le_refl _) (by omega),.inr ⟨.inl rfl,m+1,b,lim,bl,bb,_,_,_,_,_,_,_,_,_,rfl,by omega,by omega,by omega,Nat.le_refl _,hl0,hl1,fun _ k h1 h2=>?_,fun l6 u1 u2=>?_⟩⟩
      · rw [show m+1 - 1=m by omega,v1.out (by omega) (k:=k) (by omega),v1.out (by omega) (k:=m) (by omega)]
        exact w4 k (by omega) h2
      · have em:at_ l6 m=at_ l4 m:=(u1.out (by omega) (k:=m) (by omega)).trans (v1.out (by omega) (k:=m) (by omega))
        refine join hL (m:=m) (fun i j q1 q2 q3=>?_) u2 (fun k q1 q2=>?_) (fun k q1 q2=>?_)
        · rw [u1.out (by omega) (k:=i) (by omega),u1.out (by omega) (k:=j) (by omega)]
          exact v2 i j q1 q2 q3
        · rw [em,u1.out (by omega) (k:=k) (by omega)]
          exact v1.all (by omega) (Q:=fun x=>lt x (at_ l4 m)) (Nat.le_refl _) (Nat.le_refl _) w3 k q1 q2
        · rw [em]
          exact u1.all (by omega) (Q:=fun x=>¬ lt x (at_ l4 m)) (lo:=m+1) (hi:=b) (Nat.le_refl _) (Nat.le_refl _) (fun i h1 h2=>by
            rw [v1.out (by omega) (k:=i) (by omega)]; exact w4 i (by omega) h2) k (by omega) q2
    by_cases c2:th ≤ ((m - a:Nat):Int)
    · have t:=pq_r_0 (xb:=xb) N5 db n cap (Mm enc H db l4 []) 0 a b lim m _ _ th (y10:=.bool bal) (y11:=.bool bb) (y12:=.int .i64 (k:Int)) (y13:=.int .i64 (p:Int)) (y14:=h) (y15:=Ud) (y17:=.bool bb) c c2 hN5
      rw [e3] at t
      exact up .normal _ l5 t (ho true)
    · have t:=pq_r_1 (xb:=xb) N5 db n cap (Mm enc H db l4 []) 0 a b lim m _ _ th (y10:=.bool bal) (y11:=.bool bb) (y12:=.int .i64 (k:Int)) (y13:=.int .i64 (p:Int)) (y14:=h) (y15:=Ud) (y17:=.bool bb) c c2 hN5
      rw [e3] at t
      exact up .normal _ l5 t (ho false)
  · have hF5:Flo lt (m+1) b l4:=fun _ k h1 h2=>by rw [show m+1 - 1=m by omega]; exact w4 k (by omega) h2
    obtain ⟨l5,hc5,v1,v2⟩:=hd (m+1) b lim l4 (by omega) (by omega) hb hl0 hl1 hl4 hD4 hF5
    obtain ⟨N5,hN5⟩:=hc5.from
    have hl5:=sw_len v1 hl4
    have e3:IntKind.i64.wrap ((m:Int)+1)=((m+1:Nat):Int):=wrap_succ (by omega)
    rw [← e3] at hN5
    have ho:∀ (bl:Bool),Out xb enc lt dom H db n cap a b l4 .normal (env88 (.sl db 0 n cap n 1) (.int .i64 (a:Int)) (.int .i64 (m:Int)) (.int .i64 lim) (.func 69 [] [.ptr xb 0 0 1]) (.bool bl) (.bool bb) (.int .i64 (k:Int)) (.int .i64 (p:Int)) h Ud (.int .i64 (m:Int)) (.bool bb) (.int .i64 ((m - a:Nat):Int)) (.int .i64 ((b - m:Nat):Int)) (.int .i64 th)) l5:=fun bl=>by
      have hF6:=(hF4.sw (by omega) (v1.mono (a':=a) (by omega) (Nat.le_refl _))).part (b':=m) rfl (by omega)
      refine ⟨v1.mono (by omega) (Nat.le_refl _),.inr ⟨.inl rfl,a,m,lim,bl,bb,_,_,_,_,_,_,_,_,_,rfl,by omega,Nat.le_refl _,by omega,by omega,hl0,hl1,hF6,fun l6 u1 u2=>?_⟩⟩
      have em:at_ l6 m=at_ l4 m:=(u1.out (by omega) (k:=m) (by omega)).trans (v1.out (by omega) (k:=m) (by omega))
      refine join hL (m:=m) u2 (fun i j q1 q2 q3=>?_) (fun k q1 q2=>?_) (fun k q1 q2=>?_)
      · rw [u1.out (by omega) (k:=i) (by omega),u1.out (by omega) (k:=j) (by omega)]
        exact v2 i j q1 q2 q3
      · rw [em]
        exact u1.all (by omega) (Q:=fun x=>lt x (at_ l4 m)) (lo:=a) (hi:=m) (Nat.le_refl _) (Nat.le_refl _) (fun i h1 h2=>by
            rw [v1.out (by omega) (k:=i) (by omega)]; exact w3 i h1 h2) k q1 q2
      · rw [em,u1.out (by omega) (k:=k) (by omega)]
        exact v1.all (by omega) (Q:=fun x=>¬ lt x (at_ l4 m)) (Nat.le_refl _) (Nat.le_refl _) (fun i h1 h2=>w4 i (by omega) h2) k (by omega) q2
    by_cases c2:th ≤ ((b - m:Nat):Int)
    · have t:=pq_r_2 (xb:=xb) N5 db n cap (Mm enc H db l4 []) 0 a b lim m _ _ th (y10:=.bool bal) (y11:=.bool bb) (y12:=.int .i64 (k:Int)) (y13:=.int .i64 (p:Int)) (y14:=h) (y15:=Ud) (y17:=.bool bb) c c2 hN5
      exact up .normal _ l5 t (ho true)
    · have t:=pq_r_3 (xb:=xb) N5 db n cap (Mm enc H db l4 []) 0 a b lim m _ _ th (y10:=.bool bal) (y11:=.bool bb) (y12:=.int .i64 (k:Int)) (y13:=.int .i64 (p:Int)) (y14:=h) (y15:=Ud) (y17:=.bool bb) c c2 hN5
      exact up .normal _ l5 t (ho false)
theorem pq_T (S:So xb enc lt dom H db n) (hL:Lin lt) {a b k p:Nat} {lim:Int} {bal par:Bool} {h:HV} (hd:PdqOk xb enc lt dom H db n cap (b - a)) (hp1:a ≤ p) (hp2:p < b) (hb:b ≤ n) (hk:k ≤ n) (hl0:0 ≤ lim) (hl1:lim ≤ 1000) {l:List α} (hl:l.length=n) (hD:Dm dom l) (hF:Flo lt a b l) :
    ∃ x E l',RT polSo 88 (sub [1,1,0,0,0,1,1,1,1,1,1,1] B88) (env88 (.sl db 0 n cap n 1) (.int .i64 (a:Int)) (.int .i64 (b:Int)) (.int .i64 lim) (.func 69 [] [.ptr xb 0 0 1]) (.bool bal) (.bool par) (.int .i64 (k:Int)) (.int .i64 (p:Int)) h Ud Ud Ud Ud Ud Ud) (Mm enc H db l []) x E (Mm enc H db l' [])∧Out xb enc lt dom H db n cap a b l x E l':=by
  have hn:=S.nb
  by_cases c0:0 < a
  · have hp:IntKind.i64.wrap ((a:Int) - 1)=((a - 1:Nat):Int):=wrap_pred (by omega) (by omega)
    by_cases c:lt (at_ l (a - 1)) (at_ l p)
    · obtain ⟨cc,N,hN,hc⟩:=S.ct (T:=[]) hl rfl (hD.at (i:=a - 1) (by omega)) (hD.at (i:=p) (by omega)) c
      have t1:=pq_m_0 (xb:=xb) N db n cap (Mm enc H db l []) 0 a b lim p (y10:=.bool bal) (y11:=.bool par) (y12:=.int .i64 (k:Int)) (y14:=h) (y15:=Ud) (y16:=Ud) (y17:=Ud) (y18:=Ud) (y19:=Ud) (y20:=Ud) (by omega) (ixs hp (by omega)) (S.ld l _ _ hl (by omega)) (ixs (i:=p) rfl (by omega)) (S.ld l _ _ hl (by omega)) hN hc
      obtain ⟨x,E,l',t,ho⟩:=pq_S S hL (cap:=cap) (k:=k) (bal:=bal) (par:=par) (h:=h) hd hp1 hp2 hb hk hl0 hl1 hl hD hF
      exact ⟨x,E,l',sq t1 t (c:=sub [1,1,0,0,0,1,1,1,1,1,1,1] B88),ho⟩
    · obtain ⟨cc,N,hN,hc⟩:=S.cf (T:=[]) hl rfl (hD.at (i:=a - 1) (by omega)) (hD.at (i:=p) (by omega)) c
      obtain ⟨m,l4,hc4,w1,w2,w3,w4⟩:=peq_ok S (cap:=cap) (T:=[]) hL rfl hb hp1 hp2 hl hD
      obtain ⟨N4,hN4⟩:=hc4.from
      have t1:=pq_m_1 (xb:=xb) (N+N4) db n cap (Mm enc H db l []) 0 a b lim p (y10:=.bool bal) (y11:=.bool par) (y12:=.int .i64 (k:Int)) (y14:=h) (y15:=Ud) (y16:=Ud) (y17:=Ud) (y18:=Ud) (y19:=Ud) (y20:=Ud) (by omega) (ixs hp (by omega)) (S.ld l _ _ hl (by omega)) (ixs (i:=p) rfl (by omega)) (S.ld l _ _ hl (by omega)) (fun kf hk=>hN kf (by omega)) hc (fun kf hk=>hN4 kf (by omega))
      have hlow:∀ k,a ≤ k → k < b → ¬ lt (at_ l4 k) (at_ l (a - 1)):=w1.all (by omega) (Q:=fun x=>¬ lt x (at_ l (a - 1))) (Nat.le_refl _) (Nat.le_refl _) (hF c0)
      refine ⟨_,_,l4,sqo t1 (c:=sub [1,1,0,0,0,1,1,1,1,1,1,1] B88) (b:=sub [1,1,0,0,0,1,1,1,1,1,1,1,1] B88),w1,.inr ⟨.inr rfl,m,b,lim,bal,par,_,_,_,_,_,_,_,_,_,rfl,by omega,by omega,by omega,Nat.le_refl _,hl0,hl1,fun _ k h1 h2=>?_,fun l5 u1 u2=>?_⟩⟩
      · exact hL.tr _ _ _ (w3 (m - 1) (by omega) (by omega)) (hL.asy _ _ (w4 k h1 h2))
      · have hl4:=sw_len w1 hl
        have hr:∀ k,m ≤ k → k < b → lt (at_ l p) (at_ l5 k):=u1.all (by omega) (Q:=fun x=>lt (at_ l p) x) (Nat.le_refl _) (Nat.le_refl _) w4
        intro i j q1 q2 q3
        by_cases c1:j < m
        · rw [u1.out (by omega) (k:=i) (by omega),u1.out (by omega) (k:=j) (by omega)]
          exact hL.tr _ _ _ (hL.tr _ _ _ (w3 i q1 (by omega)) c) (hlow j (by omega) q3)
        · by_cases c2:i < m
          · rw [u1.out (by omega) (k:=i) (by omega)]
            exact hL.tr _ _ _ (w3 i q1 c2) (hL.asy _ _ (hr j (by omega) q3))
          · exact u2 i j (by omega) q2 q3
  · have t1:=pq_m_2 (xb:=xb) 0 db n cap (Mm enc H db l []) 0 a b lim p (y10:=.bool bal) (y11:=.bool par) (y12:=.int .i64 (k:Int)) (y14:=h) (y15:=Ud) (y16:=Ud) (y17:=Ud) (y18:=Ud) (y19:=Ud) (y20:=Ud) (by omega)
    obtain ⟨x,E,l',t,ho⟩:=pq_S S hL (cap:=cap) (k:=k) (bal:=bal) (par:=par) (h:=h) hd hp1 hp2 hb hk hl0 hl1 hl hD hF
    exact ⟨x,E,l',sq t1 t (c:=sub [1,1,0,0,0,1,1,1,1,1,1,1] B88),ho⟩
theorem pq_U (S:So xb enc lt dom H db n) (hL:Lin lt) {a b k p:Nat} {lim h:Int} {bal par:Bool} (hd:PdqOk xb enc lt dom H db n cap (b - a)) (hp1:a ≤ p) (hp2:p < b) (hb:b ≤ n) (hk:k ≤ n) (hl0:0 ≤ lim) (hl1:lim ≤ 1000) {l:List α} (hl:l.length=n) (hD:Dm dom l) (hF:Flo lt a b l) :
    ∃ x E l',RT polSo 88 (sub [1,1,0,0,0,1,1,1,1,1,1] B88) (env88 (.sl db 0 n cap n 1) (.int .i64 (a:Int)) (.int .i64 (b:Int)) (.int .i64 lim) (.func 69 [] [.ptr xb 0 0 1]) (.bool bal) (.bool par) (.int .i64 (k:Int)) (.int .i64 (p:Int)) (.int .i64 h) Ud Ud Ud Ud Ud Ud) (Mm enc H db l []) x E (Mm enc H db l' [])∧Out xb enc lt dom H db n cap a b l x E l':=by
  have hn:=S.nb
  have on:∀ (l3:List α),Sw a b l l3 → RT polSo 88 (sub [1,1,0,0,0,1,1,1,1,1,1,0] B88) (env88 (.sl db 0 n cap n 1) (.int .i64 (a:Int)) (.int .i64 (b:Int)) (.int .i64 lim) (.func 69 [] [.ptr xb 0 0 1]) (.bool bal) (.bool par) (.int .i64 (k:Int)) (.int .i64 (p:Int)) (.int .i64 h) Ud Ud Ud Ud Ud Ud) (Mm enc H db l []) .normal (env88 (.sl db 0 n cap n 1) (.int .i64 (a:Int)) (.int .i64 (b:Int)) (.int .i64 lim) (.func 69 [] [.ptr xb 0 0 1]) (.bool bal) (.bool par) (.int .i64 (k:Int)) (.int .i64 (p:Int)) (.int .i64 h) Ud Ud Ud Ud Ud Ud) (Mm enc H db l3 []) →
      ∃ x E l',RT polSo 88 (sub [1,1,0,0,0,1,1,1,1,1,1] B88) (env88 (.sl db 0 n cap n 1) (.int .i64 (a:Int)) (.int .i64 (b:Int)) (.int .i64 lim) (.func 69 [] [.ptr xb 0 0 1]) (.bool bal) (.bool par) (.int .i64 (k:Int)) (.int .i64 (p:Int)) (.int .i64 h) Ud Ud Ud Ud Ud Ud) (Mm enc H db l []) x E (Mm enc H db l' [])∧Out xb enc lt dom H db n cap a b l x E l':=fun l3 w t1=>by
    obtain ⟨x,E,l',t,ho⟩:=pq_T S hL (cap:=cap) (k:=k) (bal:=bal) (par:=par) (h:=.int .i64 h) hd hp1 hp2 hb hk hl0 hl1 (sw_len w hl) (hD.sw w (by omega)) (hF.sw (by omega) w)
    exact ⟨x,E,l',sq t1 t (c:=sub [1,1,0,0,0,1,1,1,1,1,1] B88),Out.pre w ho⟩
  cases bal with
  | false=>exact on l .refl (pq_l_0 (xb:=xb) 0 db n cap (Mm enc H db l []) 0 a b lim h)
  | true =>
    cases par with
    | false=>exact on l .refl (pq_k_0 (xb:=xb) 0 db n cap (Mm enc H db l []) 0 a b lim h)
    | true =>
      by_cases c:h=1
      · obtain ⟨bb,l3,hc3,w1,w2⟩:=pin_ok S hL (cap:=cap) (T:=[]) rfl (a:=a) (by omega) hb hl hD hF
        obtain ⟨N3,hN3⟩:=hc3.from
        cases bb with
        | true =>
          have t1:=pq_j_0 (xb:=xb) N3 db n cap (Mm enc H db l []) 0 a b lim h (y12:=.int .i64 (k:Int)) (y13:=.int .i64 (p:Int)) (y15:=Ud) (y16:=Ud) (y17:=Ud) (y18:=Ud) (y19:=Ud) (y20:=Ud) c hN3
          exact ⟨_,_,l3,sqo t1 (c:=sub [1,1,0,0,0,1,1,1,1,1,1] B88) (b:=sub [1,1,0,0,0,1,1,1,1,1,1,1] B88),w1,.inl ⟨rfl,w2 rfl⟩⟩
        | false=>exact on l3 w1 (pq_j_1 (xb:=xb) N3 db n cap (Mm enc H db l []) 0 a b lim h c hN3)
      · exact on l .refl (pq_j_2 (xb:=xb) 0 db n cap (Mm enc H db l []) 0 a b lim h c)
theorem pq_V (S:So xb enc lt dom H db n) (hL:Lin lt) {a b k p:Nat} {lim h:Int} {bal par:Bool} (hd:PdqOk xb enc lt dom H db n cap (b - a)) (hp1:a ≤ p) (hp2:p < b) (hb:b ≤ n) (hk:k ≤ n) (hl0:0 ≤ lim) (hl1:lim ≤ 1000) {l:List α} (hl:l.length=n) (hD:Dm dom l) (hF:Flo lt a b l) :
    ∃ x E l',RT polSo 88 (sub [1,1,0,0,0,1,1,1,1,1] B88) (env88 (.sl db 0 n cap n 1) (.int .i64 (a:Int)) (.int .i64 (b:Int)) (.int .i64 lim) (.func 69 [] [.ptr xb 0 0 1]) (.bool bal) (.bool par) (.int .i64 (k:Int)) (.int .i64 (p:Int)) (.int .i64 h) Ud Ud Ud Ud Ud Ud) (Mm enc H db l []) x E (Mm enc H db l' [])∧Out xb enc lt dom H db n cap a b l x E l':=by
  have hn:=S.nb
  by_cases c:h=2
  · obtain ⟨l2,hc2,w⟩:=rvs_ok S (cap:=cap) (T:=[]) (a:=a) (b:=b) (by omega) hb hl
    obtain ⟨N2,hN2⟩:=hc2.from
    have t1:=pq_i_0 (xb:=xb) N2 db n cap (Mm enc H db l []) 0 a b lim p h (y10:=.bool bal) (y11:=.bool par) (y12:=.int .i64 (k:Int)) (y15:=Ud) (y16:=Ud) (y17:=Ud) (y18:=Ud) (y19:=Ud) (y20:=Ud) c hN2
    have e1:IntKind.i64.wrap ((b:Int) - 1)=((b - 1:Nat):Int):=wrap_pred (by omega) (by omega)
    have e2:IntKind.i64.wrap ((p:Int) - (a:Int))=((p - a:Nat):Int):=(by rw [wrap_id (by omega) (by omega)]; omega)
    have e3:IntKind.i64.wrap (((b - 1:Nat):Int) - ((p - a:Nat):Int))=((b - 1 - (p - a):Nat):Int):=(by rw [wrap_id (by omega) (by omega)]; omega)
    rw [e1,e2,e3] at t1
    obtain ⟨x,E,l',t,ho⟩:=pq_U S hL (cap:=cap) (k:=k) (p:=b - 1 - (p - a)) (bal:=bal) (par:=par) (h:=1) hd (by omega) (by omega) hb hk hl0 hl1 (sw_len w hl) (hD.sw w (by omega)) (hF.sw (by omega) w)
    exact ⟨x,E,l',sq t1 t (c:=sub [1,1,0,0,0,1,1,1,1,1] B88),Out.pre w ho⟩
  · have t1:=pq_i_1 (xb:=xb) 0 db n cap (Mm enc H db l []) 0 a b lim p h (y10:=.bool bal) (y11:=.bool par) (y12:=.int .i64 (k:Int)) (y15:=Ud) (y16:=Ud) (y17:=Ud) (y18:=Ud) (y19:=Ud) (y20:=Ud) c
    obtain ⟨x,E,l',t,ho⟩:=pq_U S hL (cap:=cap) (k:=k) (p:=p) (bal:=bal) (par:=par) (h:=h) hd hp1 hp2 hb hk hl0 hl1 hl hD hF
    exact ⟨x,E,l',sq t1 t (c:=sub [1,1,0,0,0,1,1,1,1,1] B88),ho⟩
theorem pq_B (S:So xb enc lt dom H db n) (hL:Lin lt) {a b:Nat} {lim:Int} {bal par:Bool} (hd:PdqOk xb enc lt dom H db n cap (b - a)) (hab:a ≤ b) (hb:b ≤ n) (hl0:0 ≤ lim) (hl1:lim ≤ 1000) {l:List α} (hl:l.length=n) (hD:Dm dom l) (hF:Flo lt a b l) :
    ∃ x E l',RT polSo 88 (sub [1,1,0,0,0] B88) (env88 (.sl db 0 n cap n 1) (.int .i64 (a:Int)) (.int .i64 (b:Int)) (.int .i64 lim) (.func 69 [] [.ptr xb 0 0 1]) (.bool bal) (.bool par) Ud Ud Ud Ud Ud Ud Ud Ud Ud) (Mm enc H db l []) x E (Mm enc H db l' [])∧Out xb enc lt dom H db n cap a b l x E l':=by
  have hn:=S.nb
  have t0:=pq_c_0 (xb:=xb) 0 db n cap (Mm enc H db l []) 0 a b lim (y10:=.bool bal) (y11:=.bool par) (y12:=Ud) (y13:=Ud) (y14:=Ud) (y15:=Ud) (y16:=Ud) (y17:=Ud) (y18:=Ud) (y19:=Ud) (y20:=Ud)
  have e0:IntKind.i64.wrap ((b:Int) - (a:Int))=((b - a:Nat):Int):=(by rw [wrap_id (by omega) (by omega)]; omega)
  rw [e0] at t0
  by_cases c1:b - a ≤ 12
  · obtain ⟨l',hc,w1,w2⟩:=ins_ok S hL (cap:=cap) (T:=[]) rfl hab hb hl hD
    obtain ⟨N1,hN1⟩:=hc.from
    have t1:=pq_d_0 (xb:=xb) N1 db n cap (Mm enc H db l []) 0 a b lim (b - a) (y10:=.bool bal) (y11:=.bool par) (y13:=Ud) (y14:=Ud) (y15:=Ud) (y16:=Ud) (y17:=Ud) (y18:=Ud) (y19:=Ud) (y20:=Ud) (by omega) hN1
    exact ⟨_,_,l',sq (t0) (sqo (t1) (c:=sub [1,1,0,0,0,1] B88) (b:=sub [1,1,0,0,0,1,1] B88)) (c:=sub [1,1,0,0,0] B88),w1,.inl ⟨rfl,w2⟩⟩
  have t1:=pq_d_1 (xb:=xb) 0 db n cap (Mm enc H db l []) 0 a b lim (b - a) (y10:=.bool bal) (y11:=.bool par) (y13:=Ud) (y14:=Ud) (y15:=Ud) (y16:=Ud) (y17:=Ud) (y18:=Ud) (y19:=Ud) (y20:=Ud) (by omega)
  by_cases c2:lim=0
  · obtain ⟨l',hc,w1,w2⟩:=heap_ok S hL (cap:=cap) (T:=[]) rfl (a:=a) (by omega) hb hl hD
    obtain ⟨N1,hN1⟩:=hc.from
    have t2:=pq_e_0 (xb:=xb) N1 db n cap (Mm enc H db l []) 0 a b lim (y10:=.bool bal) (y11:=.bool par) (y12:=.int .i64 ((b - a:Nat):Int)) (y13:=Ud) (y14:=Ud) (y15:=Ud) (y16:=Ud) (y17:=Ud) (y18:=Ud) (y19:=Ud) (y20:=Ud) c2 hN1
    exact ⟨_,_,l',sq (t0) (sq (t1) (sqo (t2) (c:=sub [1,1,0,0,0,1,1] B88) (b:=sub [1,1,0,0,0,1,1,1] B88)) (c:=sub [1,1,0,0,0,1] B88)) (c:=sub [1,1,0,0,0] B88),w1,.inl ⟨rfl,w2⟩⟩
  have t2:=pq_e_1 (xb:=xb) 0 db n cap (Mm enc H db l []) 0 a b lim (y10:=.bool bal) (y11:=.bool par) (y12:=.int .i64 ((b - a:Nat):Int)) (y13:=Ud) (y14:=Ud) (y15:=Ud) (y16:=Ud) (y17:=Ud) (y18:=Ud) (y19:=Ud) (y20:=Ud) c2
  have on:∀ (lim1:Int) (l1:List α),0 ≤ lim1 → lim1 ≤ 1000 → Sw a b l l1 → RT polSo 88 (sub [1,1,0,0,0,1,1,1,0] B88) (env88 (.sl db 0 n cap n 1) (.int .i64 (a:Int)) (.int .i64 (b:Int)) (.int .i64 lim) (.func 69 [] [.ptr xb 0 0 1]) (.bool bal) (.bool par) (.int .i64 ((b - a:Nat):Int)) Ud Ud Ud Ud Ud Ud Ud Ud) (Mm enc H db l []) .normal (env88 (.sl db 0 n cap n 1) (.int .i64 (a:Int)) (.int .i64 (b:Int)) (.int .i64 lim1) (.func 69 [] [.ptr xb 0 0 1]) (.bool bal) (.bool par) (.int .i64 ((b - a:Nat):Int)) Ud Ud Ud Ud Ud Ud Ud Ud) (Mm enc H db l1 []) →
      ∃ x E l',RT polSo 88 (sub [1,1,0,0,0] B88) (env88 (.sl db 0 n cap n 1) (.int .i64 (a:Int)) (.int .i64 (b:Int)) (.int .i64 lim) (.func 69 [] [.ptr xb 0 0 1]) (.bool bal) (.bool par) Ud Ud Ud Ud Ud Ud Ud Ud Ud) (Mm enc H db l []) x E (Mm enc H db l' [])∧Out xb enc lt dom H db n cap a b l x E l':=fun lim1 l1 hq0 hq1 w t3=>by
    have hl1':=sw_len w hl
    have hD1:=hD.sw w (by omega)
    obtain ⟨p,h,hc,p1,p2⟩:=piv_ok S (cap:=cap) (a:=a) (b:=b) (by omega) hb hl1' hD1
    obtain ⟨N1,hN1⟩:=hc.from
    have t4:=pq_h_0 (xb:=xb) N1 db n cap (Mm enc H db l1 []) 0 a b lim1 (y10:=.bool bal) (y11:=.bool par) (y12:=.int .i64 ((b - a:Nat):Int)) (y13:=Ud) (y14:=Ud) (y15:=Ud) (y16:=Ud) (y17:=Ud) (y18:=Ud) (y19:=Ud) (y20:=Ud) hN1
    obtain ⟨x,E,l',t,ho⟩:=pq_V S hL (cap:=cap) (k:=b - a) (p:=p) (bal:=bal) (par:=par) (h:=h) hd p1 p2 hb (by omega) hq0 hq1 hl1' hD1 (hF.sw (by omega) w)
    have t5:=sq t4 t (c:=sub [1,1,0,0,0,1,1,1,1] B88)
    have t6:=sq t3 t5 (c:=sub [1,1,0,0,0,1,1,1] B88)
    have t7:=sq t2 t6 (c:=sub [1,1,0,0,0,1,1] B88)
    have t8:=sq t1 t7 (c:=sub [1,1,0,0,0,1] B88)
    exact ⟨x,E,l',sq t0 t8 (c:=sub [1,1,0,0,0] B88),Out.pre w ho⟩
  cases bal with
  | true=>exact on lim l hl0 hl1 .refl (pq_f_0 (xb:=xb) 0 db n cap (Mm enc H db l []) 0 a b lim)
  | false =>
    obtain ⟨l1,hc,w⟩:=brk_ok S (cap:=cap) (a:=a) (b:=b) (by omega) hb hl
    obtain ⟨N1,hN1⟩:=hc.from
    have t3:=pq_g_0 (xb:=xb) N1 db n cap (Mm enc H db l []) 0 a b lim (y11:=.bool par) (y12:=.int .i64 ((b - a:Nat):Int)) (y13:=Ud) (y14:=Ud) (y15:=Ud) (y16:=Ud) (y17:=Ud) (y18:=Ud) (y19:=Ud) (y20:=Ud) hN1
    rw [wrap_id (n:=lim - 1) (by omega) (by omega)] at t3
    exact on (lim - 1) l1 (by omega) (by omega) w t3
theorem pq_loop (S:So xb enc lt dom H db n) (hL:Lin lt):∀ (d:Nat) (a b:Nat) (lim:Int) (bal par:Bool) (l:List α),b - a < d → PdqOk xb enc lt dom H db n cap (b - a) → a ≤ b → b ≤ n → 0 ≤ lim → lim ≤ 1000 → l.length=n → Dm dom l → Flo lt a b l →
    ∃ E l',RT polSo 88 (sub [1,1,0] B88) (env88 (.sl db 0 n cap n 1) (.int .i64 (a:Int)) (.int .i64 (b:Int)) (.int .i64 lim) (.func 69 [] [.ptr xb 0 0 1]) (.bool bal) (.bool par) Ud Ud Ud Ud Ud Ud Ud Ud Ud) (Mm enc H db l []) .ret E (Mm enc H db l' [])∧Sw a b l l'∧Sorted lt a b l':=by
  have hn:=S.nb
  intro d
  induction d with
  | zero=>intro a b lim bal par l hd; omega
  | succ d ih =>
    intro a b lim bal par l hd hP hab hb h0 h1 hl hD hF
    obtain ⟨x,E,l1,t,w,ho⟩:=pq_B S hL (cap:=cap) (bal:=bal) (par:=par) hP hab hb h0 h1 hl hD hF
    rcases ho with ⟨rfl,hs⟩ | ⟨hx,a',b',lim',bal',par',y2,y3,y4,y5,y6,y7,y8,y9,y10,rfl,q1,q2,q3,q4,q5,q6,q7,q8⟩
    · exact ⟨_,l1,lpo (RunsTo.block_ret (i:=1) (c:=sub [1,1,0,0] B88) t (by kernel_rfl)),w,hs⟩
    · have st:RT polSo 88 (sub [1,1,0,0] B88) (env88 (.sl db 0 n cap n 1) (.int .i64 (a:Int)) (.int .i64 (b:Int)) (.int .i64 lim) (.func 69 [] [.ptr xb 0 0 1]) (.bool bal) (.bool par) Ud Ud Ud Ud Ud Ud Ud Ud Ud) (Mm enc H db l []) .normal (env88 (.sl db 0 n cap n 1) (.int .i64 (a':Int)) (.int .i64 (b':Int)) (.int .i64 lim') (.func 69 [] [.ptr xb 0 0 1]) (.bool bal') (.bool par') y2 y3 y4 y5 y6 y7 y8 y9 y10) (Mm enc H db l1 []):=by
        rcases hx with rfl | rfl
        · exact RunsTo.block_normal (i:=1) t (by kernel_rfl)
        · exact bke t
      have hl1:=sw_len w hl
      obtain ⟨E,l2,r,v1,v2⟩:=ih a' b' lim' bal' par' l1 (by omega) (fun a2 b2 lim2 l2 g1=>hP a2 b2 lim2 l2 (by omega)) q3 (by omega) q5 q6 hl1 (hD.sw w (by omega)) q7
      exact ⟨E,l2,lop (st) (gcM _ _ _ _ _ rfl) (r),w.trans (v1.mono q2 q4),q8 l2 v1 v2⟩
theorem pdq_of (S:So xb enc lt dom H db n) (hL:Lin lt) {a b:Nat} {lim:Int} {l:List α} (hP:PdqOk xb enc lt dom H db n cap (b - a)) (hab:a ≤ b) (hb:b ≤ n) (h0:0 ≤ lim) (h1:lim ≤ 1000) (hl:l.length=n) (hD:Dm dom l) (hF:Flo lt a b l) :
    ∃ l',ClS 88 [.sl db 0 n cap n 1,.int .i64 (a:Int),.int .i64 (b:Int),.int .i64 lim,.func 69 [] [.ptr xb 0 0 1]] (Mm enc H db l []) (.tuple []) (Mm enc H db l' [])∧Sw a b l l'∧Sorted lt a b l':=by
  obtain ⟨E,l',r,q⟩:=pq_loop S hL (cap:=cap) _ a b lim true true l (Nat.lt_succ_self _) hP hab hb h0 h1 hl hD hF
  have t0:=pq_a_0 (xb:=xb) 0 db n cap (Mm enc H db l []) 0 a b lim
  have t1:=pq_b_0 (xb:=xb) 0 db n cap (Mm enc H db l []) 0 a b lim (y10:=.bool true) (y11:=Ud) (y12:=Ud) (y13:=Ud) (y14:=Ud) (y15:=Ud) (y16:=Ud) (y17:=Ud) (y18:=Ud) (y19:=Ud) (y20:=Ud)
  have t:=sq (t0) (sq (t1) (RunsTo.block_ret (i:=0) (c:=sub [1,1] B88) (r) (by kernel_rfl)) (c:=sub [1] B88)) (c:=B88)
  have hc:=CallsTo.shared (P:=Tp) (pol:=polSo) (g:=88) (fn:=Try.f88) (cd:=B88) (args:=[.sl db 0 n cap n 1,.int .i64 (a:Int),.int .i64 (b:Int),.int .i64 lim,.func 69 [] [.ptr xb 0 0 1]]) (v:=.tuple []) (by kernel_rfl) (by kernel_rfl) (by kernel_rfl) (by kernel_rfl) t (by kernel_rfl) (by simp) (by kernel_rfl)
  rw [gcM _ _ _ _ _ rfl] at hc
  exact ⟨l',hc,q⟩
theorem pdq_all (S:So xb enc lt dom H db n) (hL:Lin lt):∀ d,PdqOk xb enc lt dom H db n cap d
  | 0,_,_,_,_,h=>by omega
  | d+1,a,b,lim,l,h=>fun hab hb h0 h1 hl hD hF=>pdq_of S hL (fun a2 b2 lim2 l2 g=>pdq_all S hL d a2 b2 lim2 l2 (by omega)) hab hb h0 h1 hl hD hF
theorem pdq_ok (S:So xb enc lt dom H db n) (hL:Lin lt) {lim:Int} (h0:0 ≤ lim) (h1:lim ≤ 1000) {l:List α} (hl:l.length=n) (hD:Dm dom l) :
    ∃ l',ClS 88 [.sl db 0 n cap n 1,.int .i64 0,.int .i64 (n:Int),.int .i64 lim,.func 69 [] [.ptr xb 0 0 1]] (Mm enc H db l []) (.tuple []) (Mm enc H db l' [])∧l'.Perm l∧Sorted lt 0 n l':=by
  obtain ⟨l',hc,w,hs⟩:=pdq_all S hL (cap:=cap) (n+1) 0 n lim l (by omega) (Nat.zero_le _) (Nat.le_refl _) h0 h1 hl hD (fun h=>by omega)
  exact ⟨l',hc,w.perm (by omega),hs⟩
end
end Go.Proofs.Ytiejmoglooaalaa
end
section
open Go Go.HL Go.HL.So
namespace Go.Proofs.Ytiejmoglooaalaa
open Go.Proofs.Try renaming prog → Tp
open Go.HL.HV renaming undef → Ud
abbrev bN (n:Int) (l:List St):Blk:=.arr 2 [encN n l] true 0
theorem ld_net {H:Heap} {xb mx:Nat} {n:Int} {l:List St} (hb:H[xb]?=some (.arr 2 [encN n l] true mx)):loadV Tp H 22 (.ptr xb 0 1 1)=some (.imm .arg 3 (l.map encT)) :=
  load_cell (P:=Tp) (t:=22) (b:=xb) (i:=0) (off:=1) (tot:=1) (els:=[encN n l]) (cs:=[.int .i64 n,.imm .arg 3 (l.map encT)]) hb rfl rfl a22 i22 rfl
theorem ld_netN {H:Heap} {xb mx:Nat} {n:Int} {l:List St} (hb:H[xb]?=some (.arr 2 [encN n l] true mx)):loadV Tp H 3 (.ptr xb 0 0 1)=some (.int .i64 n) :=
  load_cell (P:=Tp) (t:=3) (b:=xb) (i:=0) (off:=0) (tot:=1) (els:=[encN n l]) (cs:=[.int .i64 n,.imm .arg 3 (l.map encT)]) hb rfl rfl a3 i3 rfl
theorem fst_cmp (w w2 i j:Int):(fstI (cmpI w w2) (cmpI i j) < 0) ↔ (w < w2 ∨ (w=w2∧i < j)):=by
  unfold fstI cmpI
  by_cases c1:w < w2
  · simp [c1]
  · by_cases c2:w2 < w
    · simp [c1,c2] <;> omega
    · by_cases c3:i < j
      · simp [c1,c2,c3] <;> omega
      · by_cases c4:j < i
        · simp [c1,c2,c3,c4] <;> omega
        · simp [c1,c2,c3,c4] <;> omega
theorem ShL_lit (H:Heap) (l:List Int):Sh kL H (.imm .lit 1 (l.map encI)) l:=by
  show argP (.imm .lit 1 (l.map encI))=_
  simp only [argP,argP_ints']
  rfl
theorem cl_call {H:Heap} {xb mx:Nat} {n:Int} {l:List St} (hb:H[xb]?=some (.arr 2 [encN n l] true mx)) {i j:Int} (hi:0 ≤ i∧i < (l.length:Int)) (hj:0 ≤ j∧j < (l.length:Int)) :
    ClS 69 [encI i,encI j,.ptr xb 0 0 1] H (.int .i64 (fstI (cmpI (wOf l i) (wOf l j)) (cmpI i j))) H:=by
  obtain ⟨a,rfl⟩:∃ a:Nat,i=(a:Int):=⟨i.toNat,by omega⟩
  obtain ⟨b,rfl⟩:∃ b:Nat,j=(b:Int):=⟨j.toNat,by omega⟩
  have g1:=gs (l:=l) (y:=a) (by omega)
  have g2:=gs (l:=l) (y:=b) (by omega)
  have c1:=at2 (pol':=polSo) (g:=71) (c1:=kI) (c2:=kI) (f:=fun x y=>some (.int .i64 (cmpI x y))) (H:=H) (by kernel_rfl) (ShI H (wOf l (a:Int))) (ShI H (wOf l (b:Int))) rfl
  have c2:=at2 (pol':=polSo) (g:=71) (c1:=kI) (c2:=kI) (f:=fun x y=>some (.int .i64 (cmpI x y))) (H:=H) (by kernel_rfl) (ShI H (a:Int)) (ShI H (b:Int)) rfl
  have c3:=at1 (pol':=polSo) (g:=70) (c1:=kL) (f:=fun l=>match l with | [a,b]=>some (.int .i64 (fstI a b)) | _=>none) (H:=H) (by kernel_rfl) (ShL_lit H [cmpI (wOf l (a:Int)) (wOf l (b:Int)),cmpI (a:Int) (b:Int)]) rfl
  have s:=cl_0 a b xb H (l.map encT) (l.getD a (0,0,0)).1 (l.getD a (0,0,0)).2.1 (l.getD a (0,0,0)).2.2 (l.getD b (0,0,0)).1 (l.getD b (0,0,0)).2.1 (l.getD b (0,0,0)).2.2 _ _ _ _ _ _ (ld_net hb) g1 (ld_net hb) g2 c1 c2 c3
  have h:=CallsTo.shared (P:=Tp) (pol:=polSo) (g:=69) (fn:=Try.f69) (cd:=B69) (args:=[.int .i64 (a:Int),.int .i64 (b:Int),.ptr xb 0 0 1]) (v:=.int .i64 (fstI (cmpI (wOf l (a:Int)) (wOf l (b:Int))) (cmpI (a:Int) (b:Int)))) (by kernel_rfl) (by kernel_rfl) (by kernel_rfl) (by kernel_rfl) s (by kernel_rfl) (by simp) (by kernel_rfl)
  rw [gc_eq _ rfl] at h
  exact h
theorem So.sts {n:Int} {l:List St} {H:Heap} {xb db m:Nat} (hm:m ≤ 60000) (hd:db < H.length) (hx:mxs H ≤ H.length) (hb:H[xb]?=some (bN n l)) (hne:xb ≠ db):So xb encI (ltK l) (fun i=>0 ≤ i∧i < (l.length:Int)) H db m:=by
  have hbl:∀ (o:List Int) (T:Heap),(Mm encI H db o T)[db]?=some (bI o):=fun o T=>by
    unfold Mm
    rw [List.getElem?_append_left (by simpa using hd),List.getElem?_set_self hd]
    rfl
  refine ⟨hm,hd,hx,fun o T i hl hi=>?_,fun o T i x hl hi=>?_,fun o T x y hl hT h1 h2=>?_⟩
  · have:=load_out (hbl o T) (y:=i) (by omega)
    rw [hl] at this
    exact this
  · have:=store_out (hbl o T) (y:=i) (by omega) x
    rw [hl] at this
    show storeV Tp _ 3 (.ptr db i 0 m) (.int .i64 x)=_
    rw [this]
    congr 1
    unfold Mm
    rw [List.set_append_left _ _ (by simpa using hd),List.set_set]
    rfl
  · have hbx:(Mm encI H db o T)[xb]?=some (bN n l):=by
      unfold Mm
      rw [List.getElem?_append_left (by
        rcases Nat.lt_or_ge xb H.length with h | h
        · simpa using h
        · rw [List.getElem?_eq_none h] at hb; cases hb),List.getElem?_set_ne (by omega)]
      exact hb
    obtain ⟨N,hN⟩:=(cl_call hbx h1 h2).from
    exact ⟨_,N,hN,by rw [fst_cmp]; rfl⟩
theorem sort_ok {n:Int} {l:List St} {H:Heap} {xb db m:Nat} {cap:Option Nat} {o:List Int} (hm:m ≤ 60000) (ho:o.length=m) (hx:mxs H ≤ H.length) (hb:H[xb]?=some (bN n l)) (hne:xb ≠ db) (hdb:H[db]?=some (bI o)) (hD:∀ x ∈ o,0 ≤ x∧x < (l.length:Int)) :
    ∃ o',ClS 68 [.sl db 0 m cap m 1,.func 69 [] [.ptr xb 0 0 1]] H (.tuple []) (H.set db (bI o'))∧o'.Perm o∧Sorted (ltK l) 0 m o':=by
  have hd:db < H.length:=by
    rcases Nat.lt_or_ge db H.length with h | h
    · exact h
    · rw [List.getElem?_eq_none h] at hdb; cases hdb
  have S:=So.sts (n:=n) (l:=l) (xb:=xb) (m:=m) hm hd hx hb hne
  have hlen:=lenN_ok (x:=m) (by omega)
  have eM:∀ o,Mm encI H db o []=H.set db (bI o):=fun o=>by unfold Mm; rw [List.append_nil]; rfl
  have eH:H.set db (bI o)=H:=by
    apply List.ext_getElem?
    intro i
    by_cases e:db=i
    · subst e; rw [List.getElem?_set_self hd,hdb]
    · rw [List.getElem?_set_ne e]
  obtain ⟨o',hc,h1,h2⟩:=pdq_ok S (ltK_lin l) (cap:=cap) (lim:=(lenN m:Int)) (by omega) (by omega) ho hD
  rw [eM,eM,eH] at hc
  obtain ⟨N,hN⟩:=hc.from
  have hu:IntKind.u64.wrap (m:Int)=(m:Int):=by rw [wrapU64]; omega
  have t:=st_a_0 (xb:=xb) N db m cap H 0 (m0:=(lenN m:Int)) (H0:=H) (fun kf _=>by
    rw [hu,prim_call (pol:=polSo) (g:=63) (F:=len82) (by kernel_rfl) (rs:=[.int .u64 (m:Int)]) rfl (res:=.int .i64 (lenN m:Int)) (by simp only [len82]; rw [if_pos (by omega),Int.toNat_natCast])]; rfl) hN
  have hc2:=CallsTo.shared (P:=Tp) (pol:=polSo) (g:=68) (fn:=Try.f68) (cd:=B68) (args:=[.sl db 0 m cap m 1,.func 69 [] [.ptr xb 0 0 1]]) (v:=.tuple []) (by kernel_rfl) (by kernel_rfl) (by kernel_rfl) (by kernel_rfl) t (by kernel_rfl) (by simp) (by kernel_rfl)
  rw [gc_eq _ (by simp)] at hc2
  exact ⟨o',hc2,h1,h2⟩
def ordered54:List HV → Option HV:=f1 kN fun p=>if p.2.length ≤ 900 then some (.own 1 ((ordT p.2).map encI)) else none
theorem res54:Try.f54.results.toList=[.tmp 2]:=by kernel_rfl
theorem ordered_ok:PrimOk Tp 54 ordered54:=by
  refine primOk_pure (pol:=polSo) (fn:=Try.f54) (cd:=B54) follows_mixed soundSo (by kernel_rfl) (by kernel_rfl) (fnok polSo.prim _ _ (by kernel_rfl)) (by kernel_rfl) ?_
  intro args res h
  obtain ⟨⟨n,l⟩,rfl,hq⟩:=f1_inv h
  split at hq
  case isFalse=>cases hq
  rename_i hl
  simp only at hl
  cases hq
  have a:=od_a_0 0 n (l.map encT)
  have b:=od_b_0 0 n (l.map encT) (y3:=Ud) (y4:=Ud) (y7:=Ud) (y8:=Ud)
  have c:=od_c_0 0 n (l.map encT) 0 [] (y4:=Ud) (y7:=Ud) (y8:=Ud)
  rw [List.length_map] at c
  have r:=count (E:=fun i=>(env54 (encN n l) (.ptr 0 0 0 1) (.imm .lit 1 []) (.sl 1 0 i none i 1) Ud (.int .i64 (l.length:Int)) (.int .i64 (i:Int)))) (Hs:=fun i=>[bN n l,bI (startT i)]) l.length
    (E0:=fun i=>(env54 (encN n l) (.ptr 0 0 0 1) (.imm .lit 1 []) (.sl 1 0 (i+1) none (i+1) 1) (.int .i64 (i:Int)) (.int .i64 (l.length:Int)) (.int .i64 ((i+1:Nat):Int)))) (H1:=fun i=>[bN n l,bI (startT (i+1))])
    (fun i hi=>by
      have ap:=app_in1 (H:=[bN n l,bI (startT i)]) (b:=1) (o:=startT i) rfl (by rw [startT_len]; omega) (i:Int)
      rw [startT_len,← startT_succ] at ap
      have e:(startT i).map encI ++ [.int .i64 (i:Int)]=(startT (i+1)).map encI:=by rw [startT_succ]; simp [encI]
      have s:=od_l_0 0 n (l.map encT) i l.length i ((startT i).map encI) (y4:=Ud) (by omega) (ap.trans (by rw [e]; rfl))
      rw [wrap_succ (by omega),e] at s
      exact s) (fun i _=>by kernel_rfl) (fun i _=>gc_eq _ rfl) (od_l_1 0 n (l.map encT) l.length l.length l.length ((startT l.length).map encI) (y4:=Ud) (by omega)) (by simp) (c:=sub [1,1,0,1,0] B54) (by kernel_rfl) (fun i _=>by kernel_rfl)
  obtain ⟨o',q1,q2,q3⟩:=sort_ok (n:=n) (l:=l) (H:=[bN n l,bI (startT l.length)]) (xb:=0) (db:=1) (m:=l.length) (cap:=none) (o:=startT l.length) (by omega) (startT_len _) (by show max 0 (max 0 0) ≤ 2; decide) rfl (by omega) rfl (fun x hx=>startT_mem.1 hx)
  have ol:o'.length=l.length:=by rw [q2.length_eq,startT_len]
  obtain ⟨N,hN⟩:=q1.from
  have z:=od_z_0 N n (l.map encT) l.length [bN n l,bI (startT l.length)] (y4:=Ud) (y7:=.int .i64 (l.length:Int)) (y8:=.int .i64 (l.length:Int)) hN
  have eo:=ord_unique q2 (by rw [ol]; exact q3)
  refine ⟨_,_,_,.sl 1 0 l.length none l.length 1,sq (a) (sq (b) (sq (sq (c) (bke (c:=sub [1,1,0,1] B54) (r)) (c:=sub [1,1,0] B54)) (z) (c:=sub [1,1] B54)) (c:=sub [1] B54)) (c:=B54),by simp,by simp only [resultsV,res54]; rfl,?_⟩
  rw [← eo]
  exact res_li (b:=1) rfl ol
end Go.Proofs.Ytiejmoglooaalaa
end
section
open Go Go.HL
namespace Go.Proofs.Ytiejmoglooaalaa
open Go.Proofs.Try renaming prog → Tp
open Go.HL.HV renaming undef → Ud
def sA (l:List St) (k:Int):Int:=(l.getD k.toNat (0,0,0)).1
def sB (l:List St) (k:Int):Int:=(l.getD k.toNat (0,0,0)).2.1
def kstep (l:List St) (s:List Int × List Int × List Int) (k:Int):List Int × List Int × List Int :=
  (upJ s.1 s.2.1 (sA l k) (sB l k),joinT s.2.1 (sA l k) (sB l k),if s.2.1.getD (sA l k).toNat 0 ≠ s.2.1.getD (sB l k).toNat 0 then s.2.2 ++ [k] else s.2.2)
def ksT (l:List St) (t:List Int):List Int × List Int × List Int:=t.foldl (kstep l) (startT 16,startT 16,[])
def labT (l:List St) (t:List Int):List Int:=(ksT l t).2.1
def tkT (l:List St) (t:List Int):List Int:=(ksT l t).2.2
def endB (l:List St):Bool:=l.all fun s=>decide ((0 ≤ s.1∧s.1 < 16)∧0 ≤ s.2.1∧s.2.1 < 16)
theorem endB_iff {l:List St}:endB l=true ↔ ∀ s ∈ l,(0 ≤ s.1∧s.1 < 16)∧0 ≤ s.2.1∧s.2.1 < 16:=by simp [endB]
theorem ends {l:List St} (he:endB l=true) {k:Int} (hk:0 ≤ k∧k < (l.length:Int)):(0 ≤ sA l k∧sA l k < 16)∧0 ≤ sB l k∧sB l k < 16:=endB_iff.1 he _ (mem_getD _ (by omega))
theorem ksT_up {l:List St} (he:endB l=true) {t:List Int} (ht:∀ k ∈ t,0 ≤ k∧k < (l.length:Int)):Up (ksT l t).1 (ksT l t).2.1:=by
  have key:∀ (t:List Int) (s:List Int × List Int × List Int),(∀ k ∈ t,0 ≤ k∧k < (l.length:Int)) → Up s.1 s.2.1 → Up (t.foldl (kstep l) s).1 (t.foldl (kstep l) s).2.1:=by
    intro t
    induction t with
    | nil=>intro s _ h; exact h
    | cons k t ih =>
      intro s hk h
      obtain ⟨⟨a1,a2⟩,b1,b2⟩:=ends he (hk k (by simp))
      refine ih _ (fun x hx=>hk x (by simp [hx])) ?_
      have:=h.join (u:=(sA l k).toNat) (v:=(sB l k).toNat) (by omega) (by omega)
      rw [show (((sA l k).toNat:Nat):Int)=sA l k by omega,show (((sB l k).toNat:Nat):Int)=sB l k by omega] at this
      exact this
  exact key t _ ht Up.start
theorem ksT_succ (l:List St) (t:List Int) {i:Nat} (hi:i < t.length):ksT l (t.take (i+1))=kstep l (ksT l (t.take i)) (t.getD i 0):=by
  rw [List.take_add_one,List.getElem?_eq_getElem hi,ksT,List.foldl_append,getD_at hi]; rfl
theorem ksT_len (l:List St) (t:List Int):(ksT l t).2.2.length ≤ t.length:=by
  have key:∀ (t:List Int) (s:List Int × List Int × List Int),(t.foldl (kstep l) s).2.2.length ≤ s.2.2.length+t.length:=by
    intro t
    induction t with
    | nil=>intro s; exact Nat.le_refl _
    | cons k t ih =>
      intro s
      have:=ih (kstep l s k)
      have h2:(kstep l s k).2.2.length ≤ s.2.2.length+1:=by
        unfold kstep; simp only; split <;> simp
      rw [List.foldl_cons,List.length_cons]; omega
  have:=key t (startT 16,startT 16,[])
  simpa [ksT] using this
section
variable {F:FuncId → Option (List HV → Option HV)}
theorem set2 (H:Heap) (A B C:Blk):(H ++ [A,B]).set (H.length+1) C=H ++ [A,C]:=by
  rw [List.set_append_right _ _ (by omega),show H.length+1 - H.length=1 by omega]; rfl
theorem get2a (H:Heap) (A B:Blk):(H ++ [A,B])[H.length]?=some A:=by rw [List.getElem?_append_right (Nat.le_refl _),Nat.sub_self]; rfl
theorem get2b (H:Heap) (A B:Blk):(H ++ [A,B])[H.length+1]?=some B:=by rw [List.getElem?_append_right (by omega),show H.length+1 - H.length=1 by omega]; rfl
theorem get_l {H X:Heap} {k:Nat} {B:Blk} (h:H[k]?=some B):(H ++ X)[k]?=some B:=by
  rcases Nat.lt_or_ge k H.length with c | c
  · rw [List.getElem?_append_left c]; exact h
  · rw [List.getElem?_eq_none c] at h; cases h
theorem joined_sl (h53:F 53=none) (h55:F 55=none) (h56:F 56=none) (h57:F 57=none) {n:Int} {l:List St} (he:endB l=true) {t o:List Int} (ht:∀ k ∈ t,0 ≤ k∧k < (l.length:Int)) (hl:t.length ≤ 1000) {H:Heap} (hm:mxs H ≤ H.length) {lb:Nat} {cap:Option Nat} (hb:H[lb]?=some (bI o)) (ho:∀ i,i < t.length → i < o.length∧o.getD i 0=t.getD i 0) :
    ClF F 57 [encN n l,.sl lb 0 t.length cap o.length 1] H (.tuple [.ptr (H.length+1) 0 0 1,.int .i64 ((ksT l t).2.2.length:Int)]) (H ++ [bN n l,bU (ksT l t).1]):=by
  have ixs:∀ i,i < t.length → idxV Tp 24 (.sl lb 0 t.length cap o.length 1) (.int .i64 (i:Int))=some (.ptr lb i 0 o.length):=fun i hi=>by
    have:=idx_sl (P:=Tp) (t:=24) (b:=lb) (len:=t.length) (tot:=o.length) (cap:=cap) (ik:=.i64) (n:=(i:Int)) u24 z3 (by omega) (by omega)
    rwa [Int.toNat_natCast] at this
  have lds:∀ (X:Heap) i,i < t.length → loadV Tp (H ++ X) 3 (.ptr lb i 0 o.length)=some (.int .i64 ((t.getD i 0).toNat:Int)):=fun X i hi=>by
    rw [load_out (get_l hb) (ho i hi).1,(ho i hi).2]
    have:=ht _ (mem_getD 0 hi)
    rw [show (((t.getD i 0).toNat:Nat):Int)=t.getD i 0 by omega]
  have hN:H[H.length]?=none:=List.getElem?_eq_none (Nat.le_refl _)
  have a:=js_a_0 (F:=F) 0 n (l.map encT) lb t.length o.length cap H (a0:=.ptr H.length 0 0 1) (H0:=H ++ [bN n l]) rfl
  obtain ⟨N0,c53⟩:=CallsTo.from (apart_call (F:=F) h53 (H ++ [bN n l]) (by rw [mxs_app]; simp only [mxs,Blk.mx,List.length_append,List.length_singleton]; omega))
  rw [List.append_assoc,List.length_append,List.length_singleton] at c53
  have b:=js_b_0 (F:=F) N0 n (l.map encT) lb t.length o.length cap (H ++ [bN n l]) H.length (H.length+1) (y4:=Ud) (y6:=Ud) (y7:=Ud) (y9:=Ud) (y11:=Ud) (y12:=Ud) (y13:=Ud) c53
  have c:=js_c_0 (F:=F) 0 n (l.map encT) lb t.length o.length cap (H ++ [bN n l,bU (startT 16)]) H.length (H.length+1) (y4:=Ud) (y7:=Ud) (y9:=Ud) (y11:=Ud) (y12:=Ud) (y13:=Ud)
  have d:=js_d_0 (F:=F) 0 n (l.map encT) lb t.length o.length cap (H ++ [bN n l,bU (startT 16)]) H.length (H.length+1) 0 (y4:=Ud) (y9:=Ud) (y11:=Ud) (y12:=Ud) (y13:=Ud)
  skip
  have r:=count (pol':=plF F) (f:=57) (E:=fun i=>(env57 (encN n l) (.sl lb 0 t.length cap o.length 1) (.ptr H.length 0 0 1) Ud (.int .i64 0) (.ptr (H.length+1) 0 0 1) (.int .i64 (((ksT l (t.take i)).2.2.length:Nat):Int)) Ud (.sl lb 0 t.length cap o.length 1) (.int .i64 (t.length:Int)) (.int .i64 ((i:Nat):Int)))) (Hs:=fun i=>H ++ [bN n l,bU (ksT l (t.take i)).1]) t.length
    (E0:=fun i=>(env57 (encN n l) (.sl lb 0 t.length cap o.length 1) (.ptr H.length 0 0 1) Ud (.int .i64 0) (.ptr (H.length+1) 0 0 1) (.int .i64 (((ksT l (t.take (i+1))).2.2.length:Nat):Int)) (.int .i64 ((t.getD i 0).toNat:Int)) (.sl lb 0 t.length cap o.length 1) (.int .i64 (t.length:Int)) (.int .i64 ((i+1:Nat):Int)))) (H1:=fun i=>H ++ [bN n l,bU (ksT l (t.take (i+1))).1])
    (fun i hi=>by
      have hk:=ht _ (mem_getD 0 hi)
      have hU:=ksT_up he (t:=t.take i) fun k hk=>ht k (List.mem_of_mem_take hk)
      obtain ⟨e1,e2⟩:=ends he hk
      obtain ⟨N1,cj⟩:=CallsTo.from (join_call' (F:=F) h55 h56 (H:=H ++ [bN n l,bU (ksT l (t.take i)).1]) (get2b H _ _) hU e1 e2)
      rw [set2] at cj
      have hs:=ksT_succ l t hi
      have g2:=gs (l:=l) (y:=(t.getD i 0).toNat) (by omega)
      have ln:=ld_net (H:=H ++ [bN n l,bU (ksT l (t.take i)).1]) (get2a H _ _)
      have hlen:=ksT_len l (t.take i)
      rw [List.length_take] at hlen
      have es:(ksT l (t.take (i+1))).1=upJ (ksT l (t.take i)).1 (ksT l (t.take i)).2.1 (sA l (t.getD i 0)) (sB l (t.getD i 0)):=by rw [hs]; rfl
      by_cases cc:(ksT l (t.take i)).2.1.getD (sA l (t.getD i 0)).toNat 0 ≠ (ksT l (t.take i)).2.1.getD (sB l (t.getD i 0)).toNat 0
      · rw [decide_eq_true cc] at cj
        have s:=js_l_0 (F:=F) N1 n (l.map encT) lb t.length o.length cap (H ++ [bN n l,bU (ksT l (t.take i)).1]) H.length (H.length+1) (ksT l (t.take i)).2.2.length t.length i (t.getD i 0).toNat (l.getD (t.getD i 0).toNat (0,0,0)).1 (l.getD (t.getD i 0).toNat (0,0,0)).2.1 (l.getD (t.getD i 0).toNat (0,0,0)).2.2 (y4:=Ud) (y9:=Ud) (by omega) (ixs i hi) (lds _ i hi) ln g2 ln g2 cj
        have el:(ksT l (t.take (i+1))).2.2.length=(ksT l (t.take i)).2.2.length+1:=by rw [hs,kstep]; simp only; rw [if_pos cc]; simp
        rw [wrap_succ (by omega),wrap_succ (by omega),← el,← es] at s
        exact s
      · rw [decide_eq_false cc] at cj
        have s:=js_l_1 (F:=F) N1 n (l.map encT) lb t.length o.length cap (H ++ [bN n l,bU (ksT l (t.take i)).1]) H.length (H.length+1) (ksT l (t.take i)).2.2.length t.length i (t.getD i 0).toNat (l.getD (t.getD i 0).toNat (0,0,0)).1 (l.getD (t.getD i 0).toNat (0,0,0)).2.1 (l.getD (t.getD i 0).toNat (0,0,0)).2.2 (y4:=Ud) (y9:=Ud) (by omega) (ixs i hi) (lds _ i hi) ln g2 ln g2 cj
        have el:(ksT l (t.take (i+1))).2.2.length=(ksT l (t.take i)).2.2.length:=by rw [hs,kstep]; simp only; rw [if_neg cc]
        rw [wrap_succ (by omega),← es] at s
        rw [el]
        exact s) (fun i _=>by kernel_rfl) (fun i _=>gc_eq _ (by simp)) (js_l_2 (F:=F) 0 n (l.map encT) lb t.length o.length cap (H ++ [bN n l,bU (ksT l (t.take t.length)).1]) H.length (H.length+1) (ksT l (t.take t.length)).2.2.length t.length t.length 0 0 0 0 (y4:=Ud) (y9:=Ud) (by omega)) (by simp) (c:=sub [1,1,1,0,1,0] B57) (by kernel_rfl) (fun i _=>by kernel_rfl)
  have z:=js_z_0 (F:=F) 0 n (l.map encT) lb t.length o.length cap (H ++ [bN n l,bU (ksT l (t.take t.length)).1]) H.length (H.length+1) (ksT l (t.take t.length)).2.2.length (y4:=Ud) (y9:=Ud) (y11:=(.sl lb 0 t.length cap o.length 1)) (y12:=.int .i64 (t.length:Int)) (y13:=.int .i64 (t.length:Int))
  have u:=sq (a) (sq (b) (sq (c) (sq (sq (d) (bke (c:=sub [1,1,1,0,1] B57) (r)) (c:=sub [1,1,1,0] B57)) (z) (c:=sub [1,1,1] B57)) (c:=sub [1,1] B57)) (c:=sub [1] B57)) (c:=B57)
  rw [List.take_length] at u
  have h:=CallsTo.shared (P:=Tp) (pol:=plF F) (g:=57) (fn:=Try.f57) (cd:=B57) (args:=[encN n l,(.sl lb 0 t.length cap o.length 1)]) (v:=.tuple [.ptr (H.length+1) 0 0 1,.int .i64 ((ksT l t).2.2.length:Int)]) h57 (by kernel_rfl) (by kernel_rfl) (by kernel_rfl) u (by kernel_rfl) (by simp) (by kernel_rfl)
  have e:gc H.length (bnd (.tuple [.ptr (H.length+1) 0 0 1,.int .i64 ((ksT l t).2.2.length:Int)])) (H ++ [bN n l,bU (ksT l t).1])=H ++ [bN n l,bU (ksT l t).1]:=by
    unfold gc
    rw [List.take_of_length_le]
    simp only [List.length_append,List.length_cons,List.length_nil,bnd,bndL]
    omega
  rw [e] at h
  exact h
end
end Go.Proofs.Ytiejmoglooaalaa
end
section
open Go Go.HL
namespace Go.Proofs.Ytiejmoglooaalaa
open Go.Proofs.Try renaming prog → Tp
open Go.HL.HV renaming undef → Ud
def treeT (l:List St):List Int:=tkT l (ordT l)
def connB (n:Int) (l:List St):Bool:=decide (((treeT l).length:Int)=n - 1)
def netOk (n:Int) (l:List St):Prop:=endB l=true∧l.length ≤ 900∧0 ≤ n∧n ≤ 1000
instance (n:Int) (l:List St):Decidable (netOk n l):=inferInstanceAs (Decidable (_∧_∧_∧_))
def tree40:List HV → Option HV:=f1 kN fun p=>if netOk p.1 p.2 then some (.tuple [.own 1 ((treeT p.2).map encI),.bool (connB p.1 p.2)]) else none
def prTr:FuncId → Option (List HV → Option HV):=fun g=>if g == 54 then some ordered54 else none
theorem soundTr (n:Nat):CallSound Tp (callN Tp (plF prTr) n):=sound_prim _ (fun g f h=>by
  unfold prTr at h
  split at h
  · rename_i hg; cases h; rw [eq_of_beq hg]; exact ordered_ok
  · cases h) n
theorem res40:Try.f40.results.toList=[.tmp 2,.tmp 3]:=by kernel_rfl
theorem recv_tb (l:List Int) (x:Bool) (H:Heap):recv (.tuple [.own 1 (l.map encI),.bool x]) H=(.tuple [.sl H.length 0 l.length none l.length 1,.bool x],H ++ [bI l]):=by
  have h:recvCell (.own 1 (l.map encI)) H=(.sl H.length 0 l.length none l.length 1,H ++ [bI l]):=by
    simp only [recvCell,encI_any,List.length_map]; rfl
  simp only [recv,recvVals,recvVal,h]; rfl
theorem res_lb {H:Heap} {b k:Nat} {o:List Int} (hb:H[b]?=some (bI o)) (hk:o.length=k) (x:Bool):toRes H false (.tuple [.sl b 0 k none k 1,.bool x])=some (.tuple [.own 1 (o.map encI),.bool x]):=by
  have hr:=resCell_sl (H:=H) (no:=[b]) (b:=b) (k:=1) (m:=k) (cap:=none) (els:=o.map encI) hb (by simpa using hk) (mapO_self (fun r=>frz_int 4 r) _)
  have ho:ownedAll H false (.tuple [.sl b 0 k none k 1,.bool x])=[b]:=by simp [ownedAll,cellsOf,owned,hb]
  simp only [toRes,ho,List.nodup_cons,List.not_mem_nil,not_false_eq_true,List.nodup_nil,and_self,if_true,resVal,mapO,hr]
  rfl
theorem tree_ok:PrimOk Tp 40 tree40:=by
  refine primOk_pure (pol:=plF prTr) (fn:=Try.f40) (cd:=B40) follows_mixed soundTr (by kernel_rfl) (by kernel_rfl) (fnok prTr _ _ (by kernel_rfl)) (by kernel_rfl) ?_
  intro args res h
  obtain ⟨⟨n,l⟩,rfl,hq⟩:=f1_inv h
  split at hq
  case isFalse=>cases hq
  rename_i hc
  obtain ⟨he,hl,n0,n1⟩:=hc
  simp only at he hl n0 n1
  cases hq
  have ht:∀ k ∈ ordT l,0 ≤ k∧k < (l.length:Int):=fun k hk=>ordT_mem.1 hk
  have hol:=ordT_len l
  have a:=tr_a_0 (F:=prTr) 0 n (l.map encT)
  obtain ⟨N0,c53⟩:=CallsTo.from (apart_call (F:=prTr) (by kernel_rfl) [bN n l] (by show max 0 0 ≤ 2; decide))
  have b:=tr_b_0 (F:=prTr) N0 n (l.map encT) [bN n l] (y4:=Ud) (y5:=Ud) (y7:=Ud) (y10:=Ud) (y11:=Ud) (y12:=Ud) c53
  have c:=tr_c_0 (F:=prTr) 0 n (l.map encT) ((startT 16).map encI) (y5:=Ud) (y7:=Ud) (y10:=Ud) (y11:=Ud) (y12:=Ud)
  have c54:=at1 (pol':=plF prTr) (g:=54) (c1:=kN) (f:=fun p=>if p.2.length ≤ 900 then some (.own 1 ((ordT p.2).map encI)) else none) (H:=[bN n l,bU (startT 16),bI []]) (by kernel_rfl) (ShN _ n l) (if_pos hl)
  rw [recv_ints,hol] at c54
  have d:=tr_d_0 (F:=prTr) 0 n (l.map encT) [bN n l,bU (startT 16),bI []] 0 l.length (y7:=Ud) (y10:=Ud) (y11:=Ud) (y12:=Ud) (load_agg (P:=Tp) (b:=0) (els:=[encN n l]) (cs:=[.int .i64 n,.imm .arg 3 (l.map encT)]) rfl rfl rfl a66 z66) c54
  have hT:treeT l=(ksT l (ordT l)).2.2:=rfl
  have hCn:connB n l=decide (((ksT l (ordT l)).2.2.length:Int)=n - 1):=rfl
  generalize ordT l=o at *
  have r:=count (pol':=plF prTr) (f:=40) (E:=fun i=>(env40 (encN n l) (.ptr 0 0 0 1) (.imm .lit 1 []) (.bool false) (.ptr 1 0 0 1) (.sl 2 0 (ksT l (o.take i)).2.2.length none (ksT l (o.take i)).2.2.length 1) Ud (.sl 3 0 l.length none l.length 1) (.int .i64 (l.length:Int)) (.int .i64 ((i:Nat):Int)))) (Hs:=fun i=>[bN n l,bU (ksT l (o.take i)).1,bI (ksT l (o.take i)).2.2,bI o]) l.length
    (E0:=fun i=>(env40 (encN n l) (.ptr 0 0 0 1) (.imm .lit 1 []) (.bool false) (.ptr 1 0 0 1) (.sl 2 0 (ksT l (o.take (i+1))).2.2.length none (ksT l (o.take (i+1))).2.2.length 1) (.int .i64 ((o.getD i 0).toNat:Int)) (.sl 3 0 l.length none l.length 1) (.int .i64 (l.length:Int)) (.int .i64 ((i+1:Nat):Int)))) (H1:=fun i=>[bN n l,bU (ksT l (o.take (i+1))).1,bI (ksT l (o.take (i+1))).2.2,bI o])
    (fun i hi=>by
      have hi2:i < o.length:=by omega
      have hk:=ht _ (mem_getD 0 hi2)
      have hU:=ksT_up he (t:=o.take i) fun k hk=>ht k (List.mem_of_mem_take hk)
      obtain ⟨e1,e2⟩:=ends he hk
      obtain ⟨N1,cj⟩:=CallsTo.from (join_call' (F:=prTr) (by kernel_rfl) (by kernel_rfl) (H:=[bN n l,bU (ksT l (o.take i)).1,bI (ksT l (o.take i)).2.2,bI o]) (b:=1) rfl hU e1 e2)
      have hs:=ksT_succ l o hi2
      have g2:=gs (l:=l) (y:=(o.getD i 0).toNat) (by omega)
      have ix:=idx_sl (P:=Tp) (t:=24) (b:=3) (len:=l.length) (tot:=l.length) (cap:=none) (ik:=.i64) (n:=(i:Int)) u24 z3 (by omega) (by omega)
      rw [Int.toNat_natCast] at ix
      have ld:=load_out (H:=[bN n l,bU (ksT l (o.take i)).1,bI (ksT l (o.take i)).2.2,bI o]) (k:=3) (o:=o) rfl hi2
      rw [hol,show o.getD i 0=(((o.getD i 0).toNat:Nat):Int) by omega] at ld
      have ln:=ld_net (H:=[bN n l,bU (ksT l (o.take i)).1,bI (ksT l (o.take i)).2.2,bI o]) (xb:=0) rfl
      have hlen:=ksT_len l (o.take i)
      rw [List.length_take] at hlen
      have es:(ksT l (o.take (i+1))).1=upJ (ksT l (o.take i)).1 (ksT l (o.take i)).2.1 (sA l (o.getD i 0)) (sB l (o.getD i 0)):=by rw [hs]; rfl
      have ek:(((o.getD i 0).toNat:Nat):Int)=o.getD i 0:=by omega
      by_cases cc:(ksT l (o.take i)).2.1.getD (sA l (o.getD i 0)).toNat 0 ≠ (ksT l (o.take i)).2.1.getD (sB l (o.getD i 0)).toNat 0
      · rw [decide_eq_true cc] at cj
        have el:(ksT l (o.take (i+1))).2.2=(ksT l (o.take i)).2.2 ++ [(((o.getD i 0).toNat:Nat):Int)]:=by rw [hs,kstep]; simp only; rw [if_pos cc,ek]
        have ap:=app_in1 (H:=[bN n l,bU (upJ (ksT l (o.take i)).1 (ksT l (o.take i)).2.1 (sA l (o.getD i 0)) (sB l (o.getD i 0))),bI (ksT l (o.take i)).2.2,bI o]) (b:=2) (o:=(ksT l (o.take i)).2.2) rfl (by omega) (((o.getD i 0).toNat:Nat):Int)
        rw [← el,← es] at ap
        have s:=tr_l_0 (F:=prTr) N1 n (l.map encT) [bN n l,bU (ksT l (o.take i)).1,bI (ksT l (o.take i)).2.2,bI o] (ksT l (o.take i)).2.2.length l.length i (o.getD i 0).toNat (l.getD (o.getD i 0).toNat (0,0,0)).1 (l.getD (o.getD i 0).toNat (0,0,0)).2.1 (l.getD (o.getD i 0).toNat (0,0,0)).2.2 (y7:=Ud) (by omega) ix ld ln g2 ln g2 cj (by rw [← es]; exact ap)
        have el2:(ksT l (o.take (i+1))).2.2.length=(ksT l (o.take i)).2.2.length+1:=by rw [el]; simp
        rw [wrap_succ (by omega),← el2] at s
        exact s
      · rw [decide_eq_false cc] at cj
        have el:(ksT l (o.take (i+1))).2.2=(ksT l (o.take i)).2.2:=by rw [hs,kstep]; simp only; rw [if_neg cc]
        have s:=tr_l_1 (F:=prTr) N1 n (l.map encT) [bN n l,bU (ksT l (o.take i)).1,bI (ksT l (o.take i)).2.2,bI o] (ksT l (o.take i)).2.2.length l.length i (o.getD i 0).toNat (l.getD (o.getD i 0).toNat (0,0,0)).1 (l.getD (o.getD i 0).toNat (0,0,0)).2.1 (l.getD (o.getD i 0).toNat (0,0,0)).2.2 (y7:=Ud) (by omega) ix ld ln g2 ln g2 cj
        rw [wrap_succ (by omega),← es] at s
        rw [el]
        exact s) (fun i _=>by kernel_rfl) (fun i _=>gc_eq _ rfl) (tr_l_2 (F:=prTr) 0 n (l.map encT) [bN n l,bU (ksT l (o.take l.length)).1,bI (ksT l (o.take l.length)).2.2,bI o] (ksT l (o.take l.length)).2.2.length l.length l.length 0 0 0 0 (y7:=Ud) (by omega)) (by simp) (c:=sub [1,1,1,0,1,0] B40) (by kernel_rfl) (fun i _=>by kernel_rfl)
  have eo:o.take l.length=o:=List.take_of_length_le (by omega)
  rw [eo] at r
  have hw:IntKind.i64.wrap (n - 1)=n - 1:=wrap_id (by omega) (by omega)
  have hlen:=ksT_len l o
  have fin:∃ E H2,RunsTo Tp (plF prTr) 40 (sub [1,1,1,1] B40) ((env40 (encN n l) (.ptr 0 0 0 1) (.imm .lit 1 []) (.bool false) (.ptr 1 0 0 1) (.sl 2 0 (ksT l o).2.2.length none (ksT l o).2.2.length 1) Ud (.sl 3 0 l.length none l.length 1) (.int .i64 (l.length:Int)) (.int .i64 (l.length:Int)))) [bN n l,bU (ksT l o).1,bI (ksT l o).2.2,bI o] .ret ((plF prTr).keys 40) E H2∧H2=[bN n l,bU (ksT l o).1,bI (ksT l o).2.2,bI o]∧E.get 2=.sl 2 0 (ksT l o).2.2.length none (ksT l o).2.2.length 1∧E.get 3=.bool (decide (((ksT l o).2.2.length:Int)=n - 1)):=by
    by_cases cc:((ksT l o).2.2.length:Int)=n - 1
    · rw [decide_eq_true cc]
      exact ⟨_,_,tr_z_0 (F:=prTr) 0 n (l.map encT) [bN n l,bU (ksT l o).1,bI (ksT l o).2.2,bI o] (ksT l o).2.2.length l.length (y7:=Ud) (y10:=.sl 3 0 l.length none l.length 1) (y11:=.int .i64 (l.length:Int)) (y12:=.int .i64 (l.length:Int)) (ld_netN (xb:=0) rfl) (by rw [hw]; exact cc),rfl,rfl,rfl⟩
    · rw [decide_eq_false cc]
      exact ⟨_,_,tr_z_1 (F:=prTr) 0 n (l.map encT) [bN n l,bU (ksT l o).1,bI (ksT l o).2.2,bI o] (ksT l o).2.2.length l.length (y7:=Ud) (y10:=.sl 3 0 l.length none l.length 1) (y11:=.int .i64 (l.length:Int)) (y12:=.int .i64 (l.length:Int)) (ld_netN (xb:=0) rfl) (by rw [hw]; exact cc),rfl,rfl,rfl⟩
  obtain ⟨E2,H2,z,rfl,z2,z3⟩:=fin
  refine ⟨_,_,_,.tuple [.sl 2 0 (ksT l o).2.2.length none (ksT l o).2.2.length 1,.bool (decide (((ksT l o).2.2.length:Int)=n - 1))],sq (a) (sq (b) (sq (c) (sq (sq (d) (bke (c:=sub [1,1,1,0,1] B40) (r)) (c:=sub [1,1,1,0] B40)) (z) (c:=sub [1,1,1] B40)) (c:=sub [1,1] B40)) (c:=sub [1] B40)) (c:=B40),by simp,by simp only [resultsV,res40,mapO,resultV,z2,z3],?_⟩
  show toRes _ false _=some (.tuple [.own 1 ((treeT l).map encI),.bool (connB n l)])
  rw [hT,hCn]
  exact res_lb (b:=2) rfl rfl _
end Go.Proofs.Ytiejmoglooaalaa
end
section
open Go Go.HL
namespace Go.Proofs.Ytiejmoglooaalaa
set_option maxRecDepth 100000
open Go.Proofs.Try renaming prog → Tp
open Go.HL.HV renaming undef → Ud
section
variable {F:FuncId → Option (List HV → Option HV)}
noncomputable def B60:Code:=Try.f60.body.getD .skip
abbrev env60 (v0 v1 v2 v3:HV):Env:=[(0,v0),(1,v1),(2,v2),(3,v3)]
theorem nn_a_0 (a b w:Int) (nb:Nat) (H:Heap) (v:Int) {a0:HV} {H0:Heap} {a1:HV} {H1:Heap} {a2:HV} {H2:Heap} {a3:HV} {a4:HV} (g0:some (newV (.agg [.i a,.i b,.i w]) H)=some (a0,H0)) (g1:fldAddrV Tp 42 a0 0=some (a1)) (g2:loadV Tp H0 3 (a1)=some (.i a)) (g3:loadV Tp H0 3 (.ptr nb 0 0 1)=some (.i v)) (g4:∀ kf,callN Tp (plF F) (kf+1) 52 [.i a,.i 0,.i (IntKind.i64.wrap (v - 1))] H0=some (.bool true,H1)) (g5:fldAddrV Tp 42 a0 1=some (a2)) (g6:loadV Tp H1 3 (a2)=some (.i b)) (g7:loadV Tp H1 3 (.ptr nb 0 0 1)=some (.i v)) (g8:∀ kf,callN Tp (plF F) (kf+1) 52 [.i b,.i 0,.i (IntKind.i64.wrap (v - 1))] H1=some (.bool true,H2)) (g9:fldAddrV Tp 42 a0 0=some (a3)) (g10:loadV Tp H2 3 (a3)=some (.i a)) (g11:fldAddrV Tp 42 a0 1=some (a4)) (g12:loadV Tp H2 3 (a4)=some (.i b)) (g13:a=b):RunsTo Tp (plF F) 60 (sub [] B60) [(0,.agg [.i a,.i b,.i w]),(1,.ptr nb 0 0 1)] H .ret ((plF F).keys 60) (env60 (.agg [.i a,.i b,.i w]) (.ptr nb 0 0 1) a0 (.bool true)) H2 :=
  RunsTo.hin 0 60 [⟨0,0,a0,H0⟩,⟨1,0,a1,H0⟩,⟨1,1,.i a,H0⟩,⟨1,2,.i v,H0⟩,⟨1,4,.bool true,H1⟩,⟨1,7,a2,H1⟩,⟨1,8,.i b,H1⟩,⟨1,9,.i v,H1⟩,⟨1,11,.bool true,H2⟩,⟨1,15,a3,H2⟩,⟨1,16,.i a,H2⟩,⟨1,17,a4,H2⟩,⟨1,18,.i b,H2⟩,⟨1,19,.bool true,H2⟩] fun kf hk=>⟨_,by kernel_rfl,(oC (g0) (oP H0 g1 (oP H0 g2 (oP H0 g3 (oC (g4 kf) (oP H1 g5 (oP H1 g6 (oP H1 g7 (oC (g8 kf) (oP H2 g9 (oP H2 g10 (oP H2 g11 (oP H2 g12 (oB H2 (decide_eq_true g13) .nil))))))))))))))⟩
theorem nn_a_1 (a b w:Int) (nb:Nat) (H:Heap) (v:Int) {a0:HV} {H0:Heap} {a1:HV} {H1:Heap} {a2:HV} {H2:Heap} {a3:HV} {a4:HV} {a5:HV} {H3:Heap} (g0:some (newV (.agg [.i a,.i b,.i w]) H)=some (a0,H0)) (g1:fldAddrV Tp 42 a0 0=some (a1)) (g2:loadV Tp H0 3 (a1)=some (.i a)) (g3:loadV Tp H0 3 (.ptr nb 0 0 1)=some (.i v)) (g4:∀ kf,callN Tp (plF F) (kf+1) 52 [.i a,.i 0,.i (IntKind.i64.wrap (v - 1))] H0=some (.bool true,H1)) (g5:fldAddrV Tp 42 a0 1=some (a2)) (g6:loadV Tp H1 3 (a2)=some (.i b)) (g7:loadV Tp H1 3 (.ptr nb 0 0 1)=some (.i v)) (g8:∀ kf,callN Tp (plF F) (kf+1) 52 [.i b,.i 0,.i (IntKind.i64.wrap (v - 1))] H1=some (.bool true,H2)) (g9:fldAddrV Tp 42 a0 0=some (a3)) (g10:loadV Tp H2 3 (a3)=some (.i a)) (g11:fldAddrV Tp 42 a0 1=some (a4)) (g12:loadV Tp H2 3 (a4)=some (.i b)) (g13:¬ (a=b)) (g14:fldAddrV Tp 42 a0 2=some (a5)) (g15:loadV Tp H2 3 (a5)=some (.i w)) (g16:∀ kf,callN Tp (plF F) (kf+1) 52 [.i w,.i 0,.i 1000] H2=some (.bool true,H3)):RunsTo Tp (plF F) 60 (sub [] B60) [(0,.agg [.i a,.i b,.i w]),(1,.ptr nb 0 0 1)] H .ret ((plF F).keys 60) (env60 (.agg [.i a,.i b,.i w]) (.ptr nb 0 0 1) a0 (.bool false)) H3 :=
  RunsTo.hin 0 60 [⟨0,0,a0,H0⟩,⟨1,0,a1,H0⟩,⟨1,1,.i a,H0⟩,⟨1,2,.i v,H0⟩,⟨1,4,.bool true,H1⟩,⟨1,7,a2,H1⟩,⟨1,8,.i b,H1⟩,⟨1,9,.i v,H1⟩,⟨1,11,.bool true,H2⟩,⟨1,15,a3,H2⟩,⟨1,16,.i a,H2⟩,⟨1,17,a4,H2⟩,⟨1,18,.i b,H2⟩,⟨1,19,.bool false,H2⟩,⟨1,22,a5,H2⟩,⟨1,23,.i w,H2⟩,⟨1,24,.bool true,H3⟩] fun kf hk=>⟨_,by kernel_rfl,(oC (g0) (oP H0 g1 (oP H0 g2 (oP H0 g3 (oC (g4 kf) (oP H1 g5 (oP H1 g6 (oP H1 g7 (oC (g8 kf) (oP H2 g9 (oP H2 g10 (oP H2 g11 (oP H2 g12 (oB H2 (decide_eq_false g13) (oP H2 g14 (oP H2 g15 (oC (g16 kf) .nil)))))))))))))))))⟩
theorem nn_a_2 (a b w:Int) (nb:Nat) (H:Heap) (v:Int) {a0:HV} {H0:Heap} {a1:HV} {H1:Heap} {a2:HV} {H2:Heap} {a3:HV} {a4:HV} {a5:HV} {H3:Heap} (g0:some (newV (.agg [.i a,.i b,.i w]) H)=some (a0,H0)) (g1:fldAddrV Tp 42 a0 0=some (a1)) (g2:loadV Tp H0 3 (a1)=some (.i a)) (g3:loadV Tp H0 3 (.ptr nb 0 0 1)=some (.i v)) (g4:∀ kf,callN Tp (plF F) (kf+1) 52 [.i a,.i 0,.i (IntKind.i64.wrap (v - 1))] H0=some (.bool true,H1)) (g5:fldAddrV Tp 42 a0 1=some (a2)) (g6:loadV Tp H1 3 (a2)=some (.i b)) (g7:loadV Tp H1 3 (.ptr nb 0 0 1)=some (.i v)) (g8:∀ kf,callN Tp (plF F) (kf+1) 52 [.i b,.i 0,.i (IntKind.i64.wrap (v - 1))] H1=some (.bool true,H2)) (g9:fldAddrV Tp 42 a0 0=some (a3)) (g10:loadV Tp H2 3 (a3)=some (.i a)) (g11:fldAddrV Tp 42 a0 1=some (a4)) (g12:loadV Tp H2 3 (a4)=some (.i b)) (g13:¬ (a=b)) (g14:fldAddrV Tp 42 a0 2=some (a5)) (g15:loadV Tp H2 3 (a5)=some (.i w)) (g16:∀ kf,callN Tp (plF F) (kf+1) 52 [.i w,.i 0,.i 1000] H2=some (.bool false,H3)):RunsTo Tp (plF F) 60 (sub [] B60) [(0,.agg [.i a,.i b,.i w]),(1,.ptr nb 0 0 1)] H .ret ((plF F).keys 60) (env60 (.agg [.i a,.i b,.i w]) (.ptr nb 0 0 1) a0 (.bool true)) H3 :=
  RunsTo.hin 0 60 [⟨0,0,a0,H0⟩,⟨1,0,a1,H0⟩,⟨1,1,.i a,H0⟩,⟨1,2,.i v,H0⟩,⟨1,4,.bool true,H1⟩,⟨1,7,a2,H1⟩,⟨1,8,.i b,H1⟩,⟨1,9,.i v,H1⟩,⟨1,11,.bool true,H2⟩,⟨1,15,a3,H2⟩,⟨1,16,.i a,H2⟩,⟨1,17,a4,H2⟩,⟨1,18,.i b,H2⟩,⟨1,19,.bool false,H2⟩,⟨1,22,a5,H2⟩,⟨1,23,.i w,H2⟩,⟨1,24,.bool false,H3⟩] fun kf hk=>⟨_,by kernel_rfl,(oC (g0) (oP H0 g1 (oP H0 g2 (oP H0 g3 (oC (g4 kf) (oP H1 g5 (oP H1 g6 (oP H1 g7 (oC (g8 kf) (oP H2 g9 (oP H2 g10 (oP H2 g11 (oP H2 g12 (oB H2 (decide_eq_false g13) (oP H2 g14 (oP H2 g15 (oC (g16 kf) .nil)))))))))))))))))⟩
theorem nn_a_3 (a b w:Int) (nb:Nat) (H:Heap) (v:Int) {a0:HV} {H0:Heap} {a1:HV} {H1:Heap} {a2:HV} {H2:Heap} (g0:some (newV (.agg [.i a,.i b,.i w]) H)=some (a0,H0)) (g1:fldAddrV Tp 42 a0 0=some (a1)) (g2:loadV Tp H0 3 (a1)=some (.i a)) (g3:loadV Tp H0 3 (.ptr nb 0 0 1)=some (.i v)) (g4:∀ kf,callN Tp (plF F) (kf+1) 52 [.i a,.i 0,.i (IntKind.i64.wrap (v - 1))] H0=some (.bool true,H1)) (g5:fldAddrV Tp 42 a0 1=some (a2)) (g6:loadV Tp H1 3 (a2)=some (.i b)) (g7:loadV Tp H1 3 (.ptr nb 0 0 1)=some (.i v)) (g8:∀ kf,callN Tp (plF F) (kf+1) 52 [.i b,.i 0,.i (IntKind.i64.wrap (v - 1))] H1=some (.bool false,H2)):RunsTo Tp (plF F) 60 (sub [] B60) [(0,.agg [.i a,.i b,.i w]),(1,.ptr nb 0 0 1)] H .ret ((plF F).keys 60) (env60 (.agg [.i a,.i b,.i w]) (.ptr nb 0 0 1) a0 (.bool true)) H2 :=
  RunsTo.hin 0 60 [⟨0,0,a0,H0⟩,⟨1,0,a1,H0⟩,⟨1,1,.i a,H0⟩,⟨1,2,.i v,H0⟩,⟨1,4,.bool true,H1⟩,⟨1,7,a2,H1⟩,⟨1,8,.i b,H1⟩,⟨1,9,.i v,H1⟩,⟨1,11,.bool false,H2⟩] fun kf hk=>⟨_,by kernel_rfl,(oC (g0) (oP H0 g1 (oP H0 g2 (oP H0 g3 (oC (g4 kf) (oP H1 g5 (oP H1 g6 (oP H1 g7 (oC (g8 kf) .nil)))))))))⟩
theorem nn_a_4 (a b w:Int) (nb:Nat) (H:Heap) (v:Int) {a0:HV} {H0:Heap} {a1:HV} {H1:Heap} (g0:some (newV (.agg [.i a,.i b,.i w]) H)=some (a0,H0)) (g1:fldAddrV Tp 42 a0 0=some (a1)) (g2:loadV Tp H0 3 (a1)=some (.i a)) (g3:loadV Tp H0 3 (.ptr nb 0 0 1)=some (.i v)) (g4:∀ kf,callN Tp (plF F) (kf+1) 52 [.i a,.i 0,.i (IntKind.i64.wrap (v - 1))] H0=some (.bool false,H1)):RunsTo Tp (plF F) 60 (sub [] B60) [(0,.agg [.i a,.i b,.i w]),(1,.ptr nb 0 0 1)] H .ret ((plF F).keys 60) (env60 (.agg [.i a,.i b,.i w]) (.ptr nb 0 0 1) a0 (.bool true)) H1 :=
  RunsTo.hin 0 60 [⟨0,0,a0,H0⟩,⟨1,0,a1,H0⟩,⟨1,1,.i a,H0⟩,⟨1,2,.i v,H0⟩,⟨1,4,.bool false,H1⟩] fun kf hk=>⟨_,by kernel_rfl,(oC (g0) (oP H0 g1 (oP H0 g2 (oP H0 g3 (oC (g4 kf) .nil)))))⟩
noncomputable def B74:Code:=Try.f74.body.getD .skip
abbrev env74 (v0 v1 v4 v5 v7 v8:HV):Env:=[(0,v0),(1,v1),(4,v4),(5,v5),(7,v7),(8,v8)]
theorem ix_a_0 (N:Nat) (ls:List HV) (nb:Nat) (H:Heap):RunsTo Tp (plF F) 74 (sub [0] B74) [(0,.imm .arg 3 ls),(1,.func 60 [] [.ptr nb 0 0 1])] H .normal ((plF F).keys 74) (env74 (.imm .arg 3 ls) (.func 60 [] [.ptr nb 0 0 1]) (.i 0) Ud Ud Ud) H :=
  RunsTo.hin N 60 [] fun kf hk=>⟨_,by kernel_rfl,.nil⟩
theorem ix_b_0 (N:Nat) (ls:List HV) (nb:Nat) (H:Heap) {y5 y7 y8:HV}:RunsTo Tp (plF F) 74 (sub [1,0,0] B74) (env74 (.imm .arg 3 ls) (.func 60 [] [.ptr nb 0 0 1]) (.i 0) y5 y7 y8) H .normal ((plF F).keys 74) (env74 (.imm .arg 3 ls) (.func 60 [] [.ptr nb 0 0 1]) (.i 0) y5 (.i (ls.length:Int)) (.i 0)) H :=
  RunsTo.hin N 60 [] fun kf hk=>⟨_,by kernel_rfl,.nil⟩
theorem ix_l_0 (N:Nat) (ls:List HV) (nb:Nat) (H:Heap) (m j:Nat) (a b w:Int) {y5:HV} {H0:Heap} (g0:(j:Int) < (m:Int)) (g1:idxV Tp 22 (.imm .arg 3 ls) (.i (j:Int))=some (.vptr (.agg [.i a,.i b,.i w]))) (g2:∀ kf,N ≤ kf → callN Tp (plF F) (kf+1) 60 [.agg [.i a,.i b,.i w],.ptr nb 0 0 1] H=some (.bool true,H0)):RunsTo Tp (plF F) 74 (sub [1,0,1,0,0] B74) (env74 (.imm .arg 3 ls) (.func 60 [] [.ptr nb 0 0 1]) (.i 0) y5 (.i (m:Int)) (.i (j:Int))) H .ret ((plF F).keys 74) (env74 (.imm .arg 3 ls) (.func 60 [] [.ptr nb 0 0 1]) (.i (j:Int)) (.i (j:Int)) (.i (m:Int)) (.i (j:Int))) H0 :=
  RunsTo.hin N 60 [⟨2,0,.bool true,H⟩,⟨4,3,.vptr (.agg [.i a,.i b,.i w]),H⟩,⟨4,5,.bool true,H0⟩] fun kf hk=>⟨_,by kernel_rfl,(oB H (decide_eq_true g0) (oP H g1 (oC (g2 kf (by omega)) .nil)))⟩
theorem ix_l_1 (N:Nat) (ls:List HV) (nb:Nat) (H:Heap) (m j:Nat) (a b w:Int) {y5:HV} {H0:Heap} (g0:(j:Int) < (m:Int)) (g1:idxV Tp 22 (.imm .arg 3 ls) (.i (j:Int))=some (.vptr (.agg [.i a,.i b,.i w]))) (g2:∀ kf,N ≤ kf → callN Tp (plF F) (kf+1) 60 [.agg [.i a,.i b,.i w],.ptr nb 0 0 1] H=some (.bool false,H0)):RunsTo Tp (plF F) 74 (sub [1,0,1,0,0] B74) (env74 (.imm .arg 3 ls) (.func 60 [] [.ptr nb 0 0 1]) (.i 0) y5 (.i (m:Int)) (.i (j:Int))) H .normal ((plF F).keys 74) (env74 (.imm .arg 3 ls) (.func 60 [] [.ptr nb 0 0 1]) (.i 0) (.i (j:Int)) (.i (m:Int)) (.i (IntKind.i64.wrap ((j:Int)+1)))) H0 :=
  RunsTo.hin N 60 [⟨2,0,.bool true,H⟩,⟨4,3,.vptr (.agg [.i a,.i b,.i w]),H⟩,⟨4,5,.bool false,H0⟩] fun kf hk=>⟨_,by kernel_rfl,(oB H (decide_eq_true g0) (oP H g1 (oC (g2 kf (by omega)) .nil)))⟩
theorem ix_l_2 (N:Nat) (ls:List HV) (nb:Nat) (H:Heap) (m j:Nat) (a b w:Int) {y5:HV}(g0:¬ ((j:Int) < (m:Int))):RunsTo Tp (plF F) 74 (sub [1,0,1,0,0] B74) (env74 (.imm .arg 3 ls) (.func 60 [] [.ptr nb 0 0 1]) (.i 0) y5 (.i (m:Int)) (.i (j:Int))) H (.exit 0) ((plF F).keys 74) (env74 (.imm .arg 3 ls) (.func 60 [] [.ptr nb 0 0 1]) (.i 0) y5 (.i (m:Int)) (.i (j:Int))) H :=
  RunsTo.hin N 60 [⟨2,0,.bool false,H⟩] fun kf hk=>⟨_,by kernel_rfl,(oB H (decide_eq_false g0) .nil)⟩
theorem ix_z_0 (N:Nat) (ls:List HV) (nb:Nat) (H:Heap) {y5 y7 y8:HV}:RunsTo Tp (plF F) 74 (sub [1,1] B74) (env74 (.imm .arg 3 ls) (.func 60 [] [.ptr nb 0 0 1]) (.i 0) y5 y7 y8) H .ret ((plF F).keys 74) (env74 (.imm .arg 3 ls) (.func 60 [] [.ptr nb 0 0 1]) (.i (-1)) y5 y7 y8) H :=
  RunsTo.hin N 60 [] fun kf hk=>⟨_,by kernel_rfl,.nil⟩
noncomputable def B61:Code:=Try.f61.body.getD .skip
abbrev env61 (v0 v1 v4:HV):Env:=[(0,v0),(1,v1),(4,v4)]
theorem cf_a_0 (N:Nat) (ls:List HV) (nb:Nat) (H:Heap) {r0:Int} {H0:Heap} (g0:∀ kf,N ≤ kf → callN Tp (plF F) (kf+1) 74 [.imm .arg 3 ls,.func 60 [] [.ptr nb 0 0 1]] H=some (.i r0,H0)) (g1:0 ≤ r0):RunsTo Tp (plF F) 61 (sub [] B61) [(0,.imm .arg 3 ls),(1,.func 60 [] [.ptr nb 0 0 1])] H .ret ((plF F).keys 61) (env61 (.imm .arg 3 ls) (.func 60 [] [.ptr nb 0 0 1]) (.bool true)) H0 :=
  RunsTo.hin N 60 [⟨1,2,.i r0,H0⟩,⟨1,3,.bool true,H0⟩] fun kf hk=>⟨_,by kernel_rfl,(oC (g0 kf (by omega)) (oB H0 (decide_eq_true g1) .nil))⟩
theorem cf_a_1 (N:Nat) (ls:List HV) (nb:Nat) (H:Heap) {r0:Int} {H0:Heap} (g0:∀ kf,N ≤ kf → callN Tp (plF F) (kf+1) 74 [.imm .arg 3 ls,.func 60 [] [.ptr nb 0 0 1]] H=some (.i r0,H0)) (g1:¬ (0 ≤ r0)):RunsTo Tp (plF F) 61 (sub [] B61) [(0,.imm .arg 3 ls),(1,.func 60 [] [.ptr nb 0 0 1])] H .ret ((plF F).keys 61) (env61 (.imm .arg 3 ls) (.func 60 [] [.ptr nb 0 0 1]) (.bool false)) H0 :=
  RunsTo.hin N 60 [⟨1,2,.i r0,H0⟩,⟨1,3,.bool false,H0⟩] fun kf hk=>⟨_,by kernel_rfl,(oC (g0 kf (by omega)) (oB H0 (decide_eq_false g1) .nil))⟩
noncomputable def B39:Code:=Try.f39.body.getD .skip
abbrev env39 (v0 v1 v2 v4 v5 v6 v7:HV):Env:=[(0,v0),(1,v1),(2,v2),(4,v4),(5,v5),(6,v6),(7,v7)]
theorem nw_a_0 (N:Nat) (n:Int) (ls:List HV) (H:Heap) {a0:HV} {H0:Heap} {a1:HV} {H1:Heap} {H2:Heap} {H3:Heap} {H4:Heap} (g0:some (newV (.i n) H)=some (a0,H0)) (g1:some (newV (.agg [.i 0,.imm .lit 0 []]) H0)=some (a1,H1)) (g2:loadV Tp H1 3 (a0)=some (.i n)) (g3:∀ kf,callN Tp (plF F) (kf+1) 52 [.i n,.i 1,.i 16] H1=some (.bool true,H2)) (g4:(ls.length:Int) ≤ 60) (g5:∀ kf,N ≤ kf → callN Tp (plF F) (kf+1) 61 [.imm .arg 3 ls,.func 60 [] [a0]] H2=some (.bool true,H3)) (g6:loadV Tp H3 3 (a0)=some (.i n)) (g7:storeV Tp H3 66 (a1) (.agg [.i n,.imm .arg 3 ls])=some H4):RunsTo Tp (plF F) 39 (sub [] B39) [(0,.i n),(1,.imm .arg 3 ls)] H .ret ((plF F).keys 39) (env39 (.i n) (.imm .arg 3 ls) a0 a1 (.bool false) (.func 60 [] [a0]) (.bool false)) H4 :=
  RunsTo.hin N 60 [⟨0,0,a0,H0⟩,⟨0,1,a1,H1⟩,⟨2,0,.i n,H1⟩,⟨2,1,.bool true,H2⟩,⟨2,5,.bool true,H2⟩,⟨2,10,.bool true,H3⟩,⟨3,0,.i n,H3⟩,⟨3,4,.tuple [],H4⟩] fun kf hk=>⟨_,by kernel_rfl,(oC (g0) (oC (g1) (oP H1 g2 (oC (g3 kf) (oB H2 (decide_eq_true g4) (oC (g5 kf (by omega)) (oP H3 g6 (oS g7 .nil))))))))⟩
theorem nw_a_1 (N:Nat) (n:Int) (ls:List HV) (H:Heap) {a0:HV} {H0:Heap} {a1:HV} {H1:Heap} {H2:Heap} {H3:Heap} {H4:Heap} (g0:some (newV (.i n) H)=some (a0,H0)) (g1:some (newV (.agg [.i 0,.imm .lit 0 []]) H0)=some (a1,H1)) (g2:loadV Tp H1 3 (a0)=some (.i n)) (g3:∀ kf,callN Tp (plF F) (kf+1) 52 [.i n,.i 1,.i 16] H1=some (.bool true,H2)) (g4:(ls.length:Int) ≤ 60) (g5:∀ kf,N ≤ kf → callN Tp (plF F) (kf+1) 61 [.imm .arg 3 ls,.func 60 [] [a0]] H2=some (.bool false,H3)) (g6:loadV Tp H3 3 (a0)=some (.i n)) (g7:storeV Tp H3 66 (a1) (.agg [.i n,.imm .arg 3 ls])=some H4):RunsTo Tp (plF F) 39 (sub [] B39) [(0,.i n),(1,.imm .arg 3 ls)] H .ret ((plF F).keys 39) (env39 (.i n) (.imm .arg 3 ls) a0 a1 (.bool true) (.func 60 [] [a0]) (.bool true)) H4 :=
  RunsTo.hin N 60 [⟨0,0,a0,H0⟩,⟨0,1,a1,H1⟩,⟨2,0,.i n,H1⟩,⟨2,1,.bool true,H2⟩,⟨2,5,.bool true,H2⟩,⟨2,10,.bool false,H3⟩,⟨3,0,.i n,H3⟩,⟨3,4,.tuple [],H4⟩] fun kf hk=>⟨_,by kernel_rfl,(oC (g0) (oC (g1) (oP H1 g2 (oC (g3 kf) (oB H2 (decide_eq_true g4) (oC (g5 kf (by omega)) (oP H3 g6 (oS g7 .nil))))))))⟩
theorem nw_a_2 (N:Nat) (n:Int) (ls:List HV) (H:Heap) {a0:HV} {H0:Heap} {a1:HV} {H1:Heap} {H2:Heap} {H3:Heap} (g0:some (newV (.i n) H)=some (a0,H0)) (g1:some (newV (.agg [.i 0,.imm .lit 0 []]) H0)=some (a1,H1)) (g2:loadV Tp H1 3 (a0)=some (.i n)) (g3:∀ kf,callN Tp (plF F) (kf+1) 52 [.i n,.i 1,.i 16] H1=some (.bool true,H2)) (g4:¬ ((ls.length:Int) ≤ 60)) (g5:loadV Tp H2 3 (a0)=some (.i n)) (g6:storeV Tp H2 66 (a1) (.agg [.i n,.imm .arg 3 ls])=some H3):RunsTo Tp (plF F) 39 (sub [] B39) [(0,.i n),(1,.imm .arg 3 ls)] H .ret ((plF F).keys 39) (env39 (.i n) (.imm .arg 3 ls) a0 a1 (.bool false) (.func 60 [] [a0]) (.bool false)) H3 :=
  RunsTo.hin N 60 [⟨0,0,a0,H0⟩,⟨0,1,a1,H1⟩,⟨2,0,.i n,H1⟩,⟨2,1,.bool true,H2⟩,⟨2,5,.bool false,H2⟩,⟨3,0,.i n,H2⟩,⟨3,4,.tuple [],H3⟩] fun kf hk=>⟨_,by kernel_rfl,(oC (g0) (oC (g1) (oP H1 g2 (oC (g3 kf) (oB H2 (decide_eq_false g4) (oP H2 g5 (oS g6 .nil)))))))⟩
theorem nw_a_3 (N:Nat) (n:Int) (ls:List HV) (H:Heap) {a0:HV} {H0:Heap} {a1:HV} {H1:Heap} {H2:Heap} {H3:Heap} (g0:some (newV (.i n) H)=some (a0,H0)) (g1:some (newV (.agg [.i 0,.imm .lit 0 []]) H0)=some (a1,H1)) (g2:loadV Tp H1 3 (a0)=some (.i n)) (g3:∀ kf,callN Tp (plF F) (kf+1) 52 [.i n,.i 1,.i 16] H1=some (.bool false,H2)) (g4:loadV Tp H2 3 (a0)=some (.i n)) (g5:storeV Tp H2 66 (a1) (.agg [.i n,.imm .arg 3 ls])=some H3):RunsTo Tp (plF F) 39 (sub [] B39) [(0,.i n),(1,.imm .arg 3 ls)] H .ret ((plF F).keys 39) (env39 (.i n) (.imm .arg 3 ls) a0 a1 (.bool false) (.func 60 [] [a0]) (.bool false)) H3 :=
  RunsTo.hin N 60 [⟨0,0,a0,H0⟩,⟨0,1,a1,H1⟩,⟨2,0,.i n,H1⟩,⟨2,1,.bool false,H2⟩,⟨3,0,.i n,H2⟩,⟨3,4,.tuple [],H3⟩] fun kf hk=>⟨_,by kernel_rfl,(oC (g0) (oC (g1) (oP H1 g2 (oC (g3 kf) (oP H2 g4 (oS g5 .nil))))))⟩
end
end Go.Proofs.Ytiejmoglooaalaa
end
section
open Go Go.HL
namespace Go.Proofs.Ytiejmoglooaalaa
open Go.Proofs.Try renaming prog → Tp
open Go.HL.HV renaming undef → Ud
section
variable {F:FuncId → Option (List HV → Option HV)}
theorem within_at (h52:F 52=some within52) (n lo hi:Int) (H:Heap):∀ k,callN Tp (plF F) (k+1) 52 [.int .i64 n,.int .i64 lo,.int .i64 hi] H=some (.bool (decide (lo ≤ n∧n ≤ hi)),H) :=
  at3 (pol':=plF F) (g:=52) (c1:=kI) (c2:=kI) (c3:=kI) (f:=fun n lo hi=>some (.bool (decide (lo ≤ n∧n ≤ hi)))) h52 (ShI H n) (ShI H lo) (ShI H hi) rfl
abbrev bT (s:St):Blk:=.arr 3 [encT s] true 0
theorem ldT {H:Heap} {b:Nat} {s:St} (hb:H[b]?=some (bT s)) (off:Nat) (x:Int) (hx:[HV.int .i64 s.1,.int .i64 s.2.1,.int .i64 s.2.2][off]?=some (.int .i64 x)):loadV Tp H 3 (.ptr b 0 off 1)=some (.int .i64 x) :=
  load_cell (P:=Tp) (t:=3) (b:=b) (i:=0) (off:=off) (tot:=1) (els:=[encT s]) (cs:=[.int .i64 s.1,.int .i64 s.2.1,.int .i64 s.2.2]) hb rfl rfl a3 i3 hx
theorem ld1 {H:Heap} {b mx:Nat} {n:Int} (hb:H[b]?=some (.arr 1 [.int .i64 n] true mx)):loadV Tp H 3 (.ptr b 0 0 1)=some (.int .i64 n):=load_elem (b:=b) hb rfl rfl rfl a3 i3
theorem gc_back {H X:Heap} (hm:mxs (H ++ X) ≤ H.length) {r:Nat} (hr:r ≤ H.length):gc H.length r (H ++ X)=H:=by
  unfold gc
  rw [show max H.length (max r (mxs (H ++ X)))=H.length by omega]
  exact List.take_left
theorem bad_call (h52:F 52=some within52) (h60:F 60=none) {H:Heap} {nb:Nat} {n:Int} (hb:H[nb]?=some (.arr 1 [.int .i64 n] true 0)) (hm:mxs H ≤ H.length) (hn:1 ≤ n∧n ≤ 16) (s:St) :
    ClF F 60 [encT s,.ptr nb 0 0 1] H (.bool (!stB n s)) H:=by
  have hw:IntKind.i64.wrap (n - 1)=n - 1:=wrap_id (by omega) (by omega)
  have hx:(H ++ [bT s])[H.length]?=some (bT s):=by rw [List.getElem?_append_right (Nat.le_refl _),Nat.sub_self]; rfl
  have lv:=ld1 (get_l (X:=[bT s]) hb)
  have la:=ldT hx 0 s.1 rfl
  have lb:=ldT hx 1 s.2.1 rfl
  have lw:=ldT hx 2 s.2.2 rfl
  have wi:=fun (x lo hi:Int)=>within_at h52 x lo hi (H ++ [bT s])
  have fin:∀ (v:Bool) (E:Env),RunsTo Tp (plF F) 60 (sub [] B60) [(0,encT s),(1,.ptr nb 0 0 1)] H .ret ((plF F).keys 60) E (H ++ [bT s]) → E.get 3=.bool v → ClF F 60 [encT s,.ptr nb 0 0 1] H (.bool v) H:=fun v E t he=>by
    have hr:Try.f60.results.toList=[.tmp 3]:=by kernel_rfl
    have h:=CallsTo.shared (P:=Tp) (pol:=plF F) (g:=60) (fn:=Try.f60) (cd:=B60) (args:=[encT s,.ptr nb 0 0 1]) (v:=.bool v) h60 (by kernel_rfl) (by kernel_rfl) (by kernel_rfl) t (by kernel_rfl) (by simp) (by simp only [resultsV,hr,mapO,resultV,he])
    rw [gc_back (r:=bnd (.bool v)) (by rw [mxs_app]; show max (mxs H) (max 0 0) ≤ _; omega) (by simp [bnd])] at h
    exact h
  have nv:some (newV (encT s) H)=some (.ptr H.length 0 0 1,H ++ [bT s]):=rfl
  have f0:fldAddrV Tp 42 (.ptr H.length 0 0 1) 0=some (.ptr H.length 0 0 1):=by kernel_rfl
  have f1:fldAddrV Tp 42 (.ptr H.length 0 0 1) 1=some (.ptr H.length 0 1 1):=by kernel_rfl
  have f2:fldAddrV Tp 42 (.ptr H.length 0 0 1) 2=some (.ptr H.length 0 2 1):=by kernel_rfl
  have w1:=wi s.1 0 (IntKind.i64.wrap (n - 1))
  have w2:=wi s.2.1 0 (IntKind.i64.wrap (n - 1))
  have w3:=wi s.2.2 0 1000
  rw [hw] at w1 w2
  by_cases k1:0 ≤ s.1∧s.1 ≤ n - 1
  · rw [decide_eq_true k1] at w1
    by_cases k2:0 ≤ s.2.1∧s.2.1 ≤ n - 1
    · rw [decide_eq_true k2] at w2
      by_cases k3:s.1=s.2.1
      · rw [show stB n s=false from decide_eq_false (fun h=>h.2.2.1 k3)]
        exact fin true _ (nn_a_0 (F:=F) s.1 s.2.1 s.2.2 nb H n nv f0 la lv (by rw [hw]; exact w1) f1 lb lv (by rw [hw]; exact w2) f0 la f1 lb k3) rfl
      · by_cases k4:0 ≤ s.2.2∧s.2.2 ≤ 1000
        · rw [decide_eq_true k4] at w3
          rw [show stB n s=true from decide_eq_true ⟨by omega,by omega,k3,k4⟩]
          exact fin false _ (nn_a_1 (F:=F) s.1 s.2.1 s.2.2 nb H n nv f0 la lv (by rw [hw]; exact w1) f1 lb lv (by rw [hw]; exact w2) f0 la f1 lb k3 f2 lw w3) rfl
        · rw [decide_eq_false k4] at w3
          rw [show stB n s=false from decide_eq_false (fun h=>k4 h.2.2.2)]
          exact fin true _ (nn_a_2 (F:=F) s.1 s.2.1 s.2.2 nb H n nv f0 la lv (by rw [hw]; exact w1) f1 lb lv (by rw [hw]; exact w2) f0 la f1 lb k3 f2 lw w3) rfl
    · rw [decide_eq_false k2] at w2
      rw [show stB n s=false from decide_eq_false (fun h=>k2 (by omega))]
      exact fin true _ (nn_a_3 (F:=F) s.1 s.2.1 s.2.2 nb H n nv f0 la lv (by rw [hw]; exact w1) f1 lb lv (by rw [hw]; exact w2)) rfl
  · rw [decide_eq_false k1] at w1
    rw [show stB n s=false from decide_eq_false (fun h=>k1 (by omega))]
    exact fin true _ (nn_a_4 (F:=F) s.1 s.2.1 s.2.2 nb H n nv f0 la lv (by rw [hw]; exact w1)) rfl
theorem ix_call (h52:F 52=some within52) (h60:F 60=none) (h74:F 74=none) {H:Heap} {nb:Nat} {n:Int} (hb:H[nb]?=some (.arr 1 [.int .i64 n] true 0)) (hm:mxs H ≤ H.length) (hn:1 ≤ n∧n ≤ 16) {l:List St} (hl:l.length ≤ 1000) :
    ∃ r:Int,ClF F 74 [.imm .arg 3 (l.map encT),.func 60 [] [.ptr nb 0 0 1]] H (.int .i64 r) H∧(0 ≤ r ↔ ¬ l.all (stB n)=true):=by
  have go:∀ m,m ≤ l.length → (∀ i,i < m → ¬ stB n (l.getD i (0,0,0))=false) → ∀ i,i < m → RunsTo Tp (plF F) 74 (sub [1,0,1,0,0] B74) ((env74 (.imm .arg 3 (l.map encT)) (.func 60 [] [.ptr nb 0 0 1]) (.int .i64 0) Ud (.int .i64 (l.length:Int)) (.int .i64 (i:Int)))) H .normal ((plF F).keys 74) ((env74 (.imm .arg 3 (l.map encT)) (.func 60 [] [.ptr nb 0 0 1]) (.int .i64 0) (.int .i64 (i:Int)) (.int .i64 (l.length:Int)) (.int .i64 ((i+1:Nat):Int)))) H:=fun m hm' hn' i hi=>by
    have ok:stB n (l.getD i (0,0,0))=true:=by have:=hn' i hi; cases c:stB n (l.getD i (0,0,0)) <;> simp_all
    obtain ⟨N,cN⟩:=CallsTo.from (bad_call h52 h60 hb hm hn (l.getD i (0,0,0)))
    rw [ok] at cN
    have s:=ix_l_1 (F:=F) N (l.map encT) nb H l.length i (l.getD i (0,0,0)).1 (l.getD i (0,0,0)).2.1 (l.getD i (0,0,0)).2.2 (y5:=Ud) (by omega) (gs (by omega)) cN
    rw [wrap_succ (by omega)] at s
    exact s
  have a:=ix_a_0 (F:=F) 0 (l.map encT) nb H
  have b:=ix_b_0 (F:=F) 0 (l.map encT) nb H (y5:=Ud) (y7:=Ud) (y8:=Ud)
  rw [List.length_map] at b
  have hr:Try.f74.results.toList=[.tmp 4]:=by kernel_rfl
  rcases first_at (0,0,0) (fun s=>stB n s=false) l with ⟨m,h1,h2,h3⟩ | hno
  · obtain ⟨N,cN⟩:=CallsTo.from (bad_call h52 h60 hb hm hn (l.getD m (0,0,0)))
    rw [h2] at cN
    have r:=count (pol':=plF F) (f:=74) (E:=fun i=>(env74 (.imm .arg 3 (l.map encT)) (.func 60 [] [.ptr nb 0 0 1]) (.int .i64 0) Ud (.int .i64 (l.length:Int)) (.int .i64 (i:Int)))) (Hs:=fun _=>H) m (go m (by omega) h3) (fun i _=>by kernel_rfl) (fun i _=>gc_eq _ rfl) (ix_l_0 (F:=F) N (l.map encT) nb H l.length m (l.getD m (0,0,0)).1 (l.getD m (0,0,0)).2.1 (l.getD m (0,0,0)).2.2 (y5:=Ud) (by omega) (gs h1) cN) (by simp) (c:=sub [1,0,1,0] B74) (by kernel_rfl) (fun i _=>by kernel_rfl)
    have t:=sq (a) (sqo (sq (b) (RunsTo.block_ret (i:=0) (c:=sub [1,0,1] B74) (r) (by kernel_rfl)) (c:=sub [1,0] B74)) (c:=sub [1] B74) (b:=sub [1,1] B74)) (c:=B74)
    have h:=CallsTo.shared (P:=Tp) (pol:=plF F) (g:=74) (fn:=Try.f74) (cd:=B74) (args:=[.imm .arg 3 (l.map encT),.func 60 [] [.ptr nb 0 0 1]]) (v:=.int .i64 (m:Int)) h74 (by kernel_rfl) (by kernel_rfl) (by kernel_rfl) t (by kernel_rfl) (by simp) (by simp only [resultsV,hr]; rfl)
    rw [gc_eq _ rfl] at h
    refine ⟨_,h,⟨fun _ hall=>?_,fun _=>by omega⟩⟩
    have:=List.all_eq_true.1 hall _ (mem_getD (0,0,0) h1)
    rw [h2] at this; cases this
  · have r:=count (pol':=plF F) (f:=74) (E:=fun i=>(env74 (.imm .arg 3 (l.map encT)) (.func 60 [] [.ptr nb 0 0 1]) (.int .i64 0) Ud (.int .i64 (l.length:Int)) (.int .i64 (i:Int)))) (Hs:=fun _=>H) l.length (go l.length (Nat.le_refl _) fun i hi=>hno _ (mem_getD _ hi)) (fun i _=>by kernel_rfl) (fun i _=>gc_eq _ rfl) (ix_l_2 (F:=F) 0 (l.map encT) nb H l.length l.length 0 0 0 (y5:=Ud) (by omega)) (by simp) (c:=sub [1,0,1,0] B74) (by kernel_rfl) (fun i _=>by kernel_rfl)
    have z:=ix_z_0 (F:=F) 0 (l.map encT) nb H (y5:=Ud) (y7:=.int .i64 (l.length:Int)) (y8:=.int .i64 (l.length:Int))
    have t:=sq (a) (sq (sq (b) (bke (c:=sub [1,0,1] B74) (r)) (c:=sub [1,0] B74)) (z) (c:=sub [1] B74)) (c:=B74)
    have h:=CallsTo.shared (P:=Tp) (pol:=plF F) (g:=74) (fn:=Try.f74) (cd:=B74) (args:=[.imm .arg 3 (l.map encT),.func 60 [] [.ptr nb 0 0 1]]) (v:=.int .i64 (-1)) h74 (by kernel_rfl) (by kernel_rfl) (by kernel_rfl) t (by kernel_rfl) (by simp) (by simp only [resultsV,hr]; rfl)
    rw [gc_eq _ rfl] at h
    refine ⟨_,h,⟨fun h=>by omega,fun hall=>absurd (List.all_eq_true.2 fun s hs=>?_) hall⟩⟩
    have:=hno s hs
    cases c:stB n s <;> simp_all
theorem cf_call (h52:F 52=some within52) (h60:F 60=none) (h61:F 61=none) (h74:F 74=none) {H:Heap} {nb:Nat} {n:Int} (hb:H[nb]?=some (.arr 1 [.int .i64 n] true 0)) (hm:mxs H ≤ H.length) (hn:1 ≤ n∧n ≤ 16) {l:List St} (hl:l.length ≤ 1000) :
    ClF F 61 [.imm .arg 3 (l.map encT),.func 60 [] [.ptr nb 0 0 1]] H (.bool (!l.all (stB n))) H:=by
  obtain ⟨r,hc,hr⟩:=ix_call h52 h60 h74 hb hm hn hl
  obtain ⟨N,cN⟩:=CallsTo.from hc
  have h61r:Try.f61.results.toList=[.tmp 4]:=by kernel_rfl
  by_cases c:0 ≤ r
  · have t:=cf_a_0 (F:=F) N (l.map encT) nb H cN c
    have h:=CallsTo.shared (P:=Tp) (pol:=plF F) (g:=61) (fn:=Try.f61) (cd:=B61) (args:=[.imm .arg 3 (l.map encT),.func 60 [] [.ptr nb 0 0 1]]) (v:=.bool true) h61 (by kernel_rfl) (by kernel_rfl) (by kernel_rfl) t (by kernel_rfl) (by simp) (by simp only [resultsV,h61r]; rfl)
    rw [gc_eq _ rfl] at h
    have:l.all (stB n)=false:=by have:=hr.1 c; cases d:l.all (stB n) <;> simp_all
    rw [this]; exact h
  · have t:=cf_a_1 (F:=F) N (l.map encT) nb H cN c
    have h:=CallsTo.shared (P:=Tp) (pol:=plF F) (g:=61) (fn:=Try.f61) (cd:=B61) (args:=[.imm .arg 3 (l.map encT),.func 60 [] [.ptr nb 0 0 1]]) (v:=.bool false) h61 (by kernel_rfl) (by kernel_rfl) (by kernel_rfl) t (by kernel_rfl) (by simp) (by simp only [resultsV,h61r]; rfl)
    rw [gc_eq _ rfl] at h
    have:l.all (stB n)=true:=by
      cases d:l.all (stB n) with
      | true=>rfl
      | false=>exact absurd (hr.2 (by simp [d])) c
    rw [this]; exact h
structure NwF (F:FuncId → Option (List HV → Option HV)):Prop where
  h39:F 39=none
  h52:F 52=some within52
  h60:F 60=none
  h61:F 61=none
  h74:F 74=none
theorem nw_call (hF:NwF F) {H:Heap} (hm:mxs H ≤ H.length) (n:Int) {l:List St} (hl:l.length ≤ 1000):ClF F 39 [.int .i64 n,.imm .arg 3 (l.map encT)] H (.tuple [encN n l,.bool (netB n l)]) H:=by
  have hr:Try.f39.results.toList=[.cell 4 66,.tmp 5]:=by kernel_rfl
  have g0:∀ (A B:Blk),(H ++ [A] ++ [B])[H.length]?=some A:=fun A B=>by rw [List.append_assoc]; exact get2a H A B
  have g1:∀ (A B:Blk),(H ++ [A] ++ [B])[H.length+1]?=some B:=fun A B=>by rw [List.append_assoc]; exact get2b H A B
  have nv0:some (newV (.int .i64 n) H)=some (.ptr H.length 0 0 1,H ++ [.arr 1 [.int .i64 n] true 0]):=rfl
  have nv1:some (newV (.agg [.int .i64 0,.imm .lit 0 []]) (H ++ [.arr 1 [.int .i64 n] true 0]))=some (.ptr (H.length+1) 0 0 1,H ++ [.arr 1 [.int .i64 n] true 0] ++ [.arr 2 [.agg [.int .i64 0,.imm .lit 0 []]] true 0]):=by
    have:(H ++ [Blk.arr 1 [HV.int .i64 n] true 0]).length=H.length+1:=by simp
    rw [← this]; rfl
  have l0:=ld1 (g0 (.arr 1 [.int .i64 n] true 0) (.arr 2 [.agg [.int .i64 0,.imm .lit 0 []]] true 0))
  have w0:=within_at hF.h52 n 1 16 (H ++ [.arr 1 [.int .i64 n] true 0] ++ [.arr 2 [.agg [.int .i64 0,.imm .lit 0 []]] true 0])
  have st:storeV Tp (H ++ [.arr 1 [.int .i64 n] true 0] ++ [.arr 2 [.agg [.int .i64 0,.imm .lit 0 []]] true 0]) 66 (.ptr (H.length+1) 0 0 1) (encN n l)=some (H ++ [.arr 1 [.int .i64 n] true 0] ++ [bN n l]):=by
    have:=store_agg (P:=Tp) (H:=H ++ [.arr 1 [.int .i64 n] true 0] ++ [.arr 2 [.agg [.int .i64 0,.imm .lit 0 []]] true 0]) (t:=66) (b:=H.length+1) (i:=0) (tot:=1) (k:=2) (mx:=0) (els:=[.agg [.int .i64 0,.imm .lit 0 []]]) (cs:=[.int .i64 0,.imm .lit 0 []]) (new:=[.int .i64 n,.imm .arg 3 (l.map encT)]) (g1 _ _) rfl rfl z66 rfl (by simp) rfl (by simp [bndL,bnd])
    unfold encN
    rw [this]
    congr 1
    rw [List.set_append_right _ _ (by simp)]
    simp only [List.length_append,List.length_singleton,Nat.sub_self]
    rfl
  have hmx:mxs (H ++ [Blk.arr 1 [.int .i64 n] true 0] ++ [Blk.arr 2 [.agg [.int .i64 0,.imm .lit 0 []]] true 0]) ≤ (H ++ [Blk.arr 1 [.int .i64 n] true 0] ++ [Blk.arr 2 [.agg [.int .i64 0,.imm .lit 0 []]] true 0]).length:=by
    rw [mxs_app,mxs_app,List.length_append,List.length_append]; show max (max (mxs H) (max 0 0)) (max 0 0) ≤ _; omega
  have fin:∀ (v:Bool) (E:Env),RunsTo Tp (plF F) 39 (sub [] B39) [(0,.int .i64 n),(1,.imm .arg 3 (l.map encT))] H .ret ((plF F).keys 39) E (H ++ [.arr 1 [.int .i64 n] true 0] ++ [bN n l]) → E.get 4=.ptr (H.length+1) 0 0 1 → E.get 5=.bool v → ClF F 39 [.int .i64 n,.imm .arg 3 (l.map encT)] H (.tuple [encN n l,.bool v]) H:=fun v E t he4 he5=>by
    have ld:loadV Tp (H ++ [.arr 1 [.int .i64 n] true 0] ++ [bN n l]) 66 (.ptr (H.length+1) 0 0 1)=some (encN n l):=load_agg (P:=Tp) (b:=H.length+1) (els:=[encN n l]) (cs:=[.int .i64 n,.imm .arg 3 (l.map encT)]) (g1 _ _) rfl rfl a66 z66
    have h:=CallsTo.shared (P:=Tp) (pol:=plF F) (g:=39) (fn:=Try.f39) (cd:=B39) (args:=[.int .i64 n,.imm .arg 3 (l.map encT)]) (v:=.tuple [encN n l,.bool v]) hF.h39 (by kernel_rfl) (by kernel_rfl) (by kernel_rfl) t (by kernel_rfl) (by simp) (by simp only [resultsV,hr,mapO,resultV,he4,he5,ld])
    rw [List.append_assoc] at h
    rw [gc_back (by rw [mxs_app]; show max (mxs H) (max 0 (max 0 0)) ≤ _; omega) (by simp [bnd,bndL,encN])] at h
    exact h
  by_cases k1:1 ≤ n∧n ≤ 16
  · rw [decide_eq_true k1] at w0
    by_cases k2:l.length ≤ 60
    · have cf:=cf_call hF.h52 hF.h60 hF.h61 hF.h74 (H:=H ++ [.arr 1 [.int .i64 n] true 0] ++ [.arr 2 [.agg [.int .i64 0,.imm .lit 0 []]] true 0]) (g0 _ _) hmx k1 hl
      obtain ⟨N,cN⟩:=CallsTo.from cf
      have e:netB n l=l.all (stB n):=by rw [netB,decide_eq_true ⟨k1,k2⟩,Bool.and_true]
      rw [e]
      cases d:l.all (stB n) with
      | true =>
        rw [d] at cN
        exact fin true _ (nw_a_1 (F:=F) N n (l.map encT) H nv0 nv1 l0 w0 (by rw [List.length_map]; omega) cN l0 st) rfl rfl
      | false =>
        rw [d] at cN
        exact fin false _ (nw_a_0 (F:=F) N n (l.map encT) H nv0 nv1 l0 w0 (by rw [List.length_map]; omega) cN l0 st) rfl rfl
    · rw [show netB n l=false by rw [netB,decide_eq_false (fun h=>k2 h.2),Bool.and_false]]
      exact fin false _ (nw_a_2 (F:=F) 0 n (l.map encT) H nv0 nv1 l0 w0 (by rw [List.length_map]; omega) l0 st) rfl rfl
  · rw [decide_eq_false k1] at w0
    rw [show netB n l=false by rw [netB,decide_eq_false (fun h=>k1 h.1),Bool.and_false]]
    exact fin false _ (nw_a_3 (F:=F) 0 n (l.map encT) H nv0 nv1 l0 w0 l0 st) rfl rfl
end
end Go.Proofs.Ytiejmoglooaalaa
end
section
open Go Go.HL
namespace Go.Proofs.Ytiejmoglooaalaa
open Go.Proofs.Try renaming prog → Tp
open Go.HL.HV renaming undef → Ud
def endN (n:Int) (l:List St):Bool:=l.all fun s=>decide ((0 ≤ s.1∧s.1 < n)∧0 ≤ s.2.1∧s.2.1 < n)
theorem endN_iff {n:Int} {l:List St}:endN n l=true ↔ ∀ s ∈ l,(0 ≤ s.1∧s.1 < n)∧0 ≤ s.2.1∧s.2.1 < n:=by simp [endN]
theorem endN_B {n:Int} {l:List St} (h:endN n l=true) (hn:n ≤ 16):endB l=true:=endB_iff.2 fun s hs=>by have:=endN_iff.1 h s hs; omega
def grpT (n:Nat) (l:List St) (t:List Int):List Int:=(labT l t).take n
def selT (l:List St) (t:List Int):List Int:=(startT l.length).filter fun k=>decide (k ∈ tkT l t)
theorem labT_succ (l:List St) (t:List Int) {i:Nat} (hi:i < t.length):labT l (t.take (i+1))=joinT (labT l (t.take i)) (sA l (t.getD i 0)) (sB l (t.getD i 0)):=by
  rw [labT,ksT_succ l t hi]; rfl
theorem tkT_succ (l:List St) (t:List Int) {i:Nat} (hi:i < t.length):tkT l (t.take (i+1))=if (labT l (t.take i)).getD (sA l (t.getD i 0)).toNat 0 ≠ (labT l (t.take i)).getD (sB l (t.getD i 0)).toNat 0 then tkT l (t.take i) ++ [t.getD i 0] else tkT l (t.take i):=by
  rw [tkT,ksT_succ l t hi]; rfl
theorem take_getD {g:List Int} {n v:Nat} (h:v < n):(g.take n).getD v 0=g.getD v 0:=by
  simp only [List.getD]
  rw [List.getElem?_take_of_lt h]
theorem joinT_eqv {g:List Int} {a b:Int} (h:g.getD a.toNat 0=g.getD b.toNat 0):joinT g a b=g:=by
  unfold joinT
  rw [h]
  conv=>rhs; rw [← List.map_id g]
  refine List.map_congr_left fun x _=>?_
  unfold labS
  split
  · rename_i h; rw [h]; simp
  · rfl
theorem idxS {t b len:Nat} {cap:Option Nat} {e:TypeId} (ht:Tp.underlying t=some (.slice e)) (hs:tySize Tp e=some 1) {i:Nat} (h:i < len):idxV Tp t (.sl b 0 len cap len 1) (.int .i64 (i:Int))=some (.ptr b i 0 len):=by
  have:=idx_sl (P:=Tp) (t:=t) (b:=b) (len:=len) (tot:=len) (cap:=cap) (ik:=.i64) (n:=(i:Int)) ht hs (by omega) (by omega)
  rwa [Int.toNat_natCast] at this
end Go.Proofs.Ytiejmoglooaalaa
end
section
open Go Go.HL
namespace Go.Proofs.Ytiejmoglooaalaa
open Go.Proofs.Try renaming prog → Tp
open Go.HL.HV renaming undef → Ud
theorem netB_ends {n:Int} {l:List St} (h:netB n l=true):(1 ≤ n∧n ≤ 16)∧l.length ≤ 60∧endN n l=true∧(∀ s ∈ l,0 ≤ s.2.2∧s.2.2 ≤ 1000):=by
  simp only [netB,Bool.and_eq_true,List.all_eq_true,decide_eq_true_eq,stB] at h
  obtain ⟨h1,h2,h3⟩:=h
  refine ⟨h2,h3,endN_iff.2 fun s hs=>?_,fun s hs=>?_⟩
  · have:=h1 s hs; omega
  · have:=h1 s hs; omega
theorem stN {n:Int} {l:List St}:storeV Tp [.arr 2 [.agg [.int .i64 0,.imm .lit 0 []]] true 0] 66 (.ptr 0 0 0 1) (encN n l)=some [bN n l]:=by
  have:=store_agg (P:=Tp) (H:=[.arr 2 [.agg [.int .i64 0,.imm .lit 0 []]] true 0]) (t:=66) (b:=0) (i:=0) (tot:=1) (k:=2) (mx:=0) (els:=[.agg [.int .i64 0,.imm .lit 0 []]]) (cs:=[.int .i64 0,.imm .lit 0 []]) (new:=[.int .i64 n,.imm .arg 3 (l.map encT)]) rfl rfl rfl z66 rfl (by simp) rfl (by simp [bndL,bnd])
  unfold encN
  rw [this]
  rfl
theorem ld66 {H:Heap} {b:Nat} {n:Int} {l:List St} (hb:H[b]?=some (bN n l)):loadV Tp H 66 (.ptr b 0 0 1)=some (encN n l):=load_agg (P:=Tp) (b:=b) (els:=[encN n l]) (cs:=[.int .i64 n,.imm .arg 3 (l.map encT)]) hb rfl rfl a66 z66
end Go.Proofs.Ytiejmoglooaalaa
end
section
open Go Go.HL
namespace Go.Proofs.Ytiejmoglooaalaa
open Go.Proofs.Try renaming prog → Tp
open Go.HL.HV renaming undef → Ud
theorem box_nv (H:Heap):some (newV (.agg [.int .i64 0,.int .i64 0,.int .i64 0]) H)=some (.ptr H.length 0 0 1,H ++ [.arr 3 [.agg [.int .i64 0,.int .i64 0,.int .i64 0]] true 0]):=rfl
theorem box_st (H:Heap) (s:St):storeV Tp (H ++ [.arr 3 [.agg [.int .i64 0,.int .i64 0,.int .i64 0]] true 0]) 42 (.ptr H.length 0 0 1) (encT s)=some (H ++ [bT s]):=by
  have:=store_agg (P:=Tp) (H:=H ++ [.arr 3 [.agg [.int .i64 0,.int .i64 0,.int .i64 0]] true 0]) (t:=42) (b:=H.length) (i:=0) (tot:=1) (k:=3) (mx:=0) (els:=[.agg [.int .i64 0,.int .i64 0,.int .i64 0]]) (cs:=[.int .i64 0,.int .i64 0,.int .i64 0]) (new:=[.int .i64 s.1,.int .i64 s.2.1,.int .i64 s.2.2]) (by rw [List.getElem?_append_right (Nat.le_refl _),Nat.sub_self]; rfl) rfl rfl z42 rfl (by simp) rfl (by simp [bndL,bnd])
  unfold encT
  rw [this]
  refine congrArg some ?_
  rw [List.set_append_right _ _ (Nat.le_refl _),Nat.sub_self]
  rfl
theorem get_x (H:Heap) (B:Blk):(H ++ [B])[H.length]?=some B:=by rw [List.getElem?_append_right (Nat.le_refl _),Nat.sub_self]; rfl
theorem fld0 (b:Nat):fldAddrV Tp 42 (.ptr b 0 0 1) 0=some (.ptr b 0 0 1):=by kernel_rfl
theorem fld1 (b:Nat):fldAddrV Tp 42 (.ptr b 0 0 1) 1=some (.ptr b 0 1 1):=by kernel_rfl
theorem fld2 (b:Nat):fldAddrV Tp 42 (.ptr b 0 0 1) 2=some (.ptr b 0 2 1):=by kernel_rfl
theorem grpT_len {n:Nat} {l:List St} {t:List Int} (hn:n ≤ 16) (he:endB l=true) (ht:∀ k ∈ t,0 ≤ k∧k < (l.length:Int)):(grpT n l t).length=n:=by
  have hU:=ksT_up he (t:=t) ht
  show ((labT l t).take n).length=n
  rw [List.length_take,show (labT l t).length=16 from hU.lg]; omega
theorem idxU {b n:Nat} {v:Int} (h:0 ≤ v∧v < (n:Int)) {cap:Option Nat}:idxV Tp 24 (.sl b 0 n cap n 1) (.int .i64 v)=some (.ptr b v.toNat 0 n):=by
  have:=idxS (b:=b) (cap:=cap) u24 z3 (i:=v.toNat) (len:=n) (by omega)
  rwa [show ((v.toNat:Nat):Int)=v by omega] at this
end Go.Proofs.Ytiejmoglooaalaa
end
section
open Go Go.HL
namespace Go.Proofs.Ytiejmoglooaalaa
def frT (l:List St):List Int:=selT l (ordT l)
end Go.Proofs.Ytiejmoglooaalaa
end
section
open Go Go.HL
namespace Go.Proofs.Ytiejmoglooaalaa
open Go.Proofs.Try renaming prog → Tp
open Go.HL.HV renaming undef → Ud
theorem take_snoc {g:List Int} {i:Nat} (h:i < g.length):g.take (i+1)=g.take i ++ [g.getD i 0]:=by
  rw [List.take_add_one,List.getElem?_eq_getElem h,getD_at h]; rfl
def mnS (g:List Int) (b:Int) (s:St):Int:=if g.getD s.1.toNat 0 ≠ g.getD s.2.1.toNat 0∧(b < 0 ∨ s.2.2 < b) then s.2.2 else b
def mnT (g:List Int) (l:List St):Int:=l.foldl (mnS g) (-1)
theorem mnT_succ (g:List Int) (l:List St) {i:Nat} (h:i < l.length):mnT g (l.take (i+1))=mnS g (mnT g (l.take i)) (l.getD i (0,0,0)):=by
  rw [mnT,List.take_add_one,List.getElem?_eq_getElem h,getD_at h,List.foldl_append]; rfl
def gpT (n:Int) (l:List St) (kk:Int):List Int:=grpT n.toNat l ((treeT l).take (n - kk).toNat)
def gpE (n:Int) (l:List St) (kk:Int):Int:=if netB n l=true∧1 ≤ kk∧kk ≤ n then (if connB n l=true then 0 else 6) else 2
def gpG (n:Int) (l:List St) (kk:Int):List Int:=if gpE n l kk=0 then gpT n l kk else []
def gpM (n:Int) (l:List St) (kk:Int):Int:=if gpE n l kk=0 then mnT (gpT n l kk) l else 0
def gpO (n:Int) (l:List St) (kk:Int):HV:=.tuple [.own 1 ((gpG n l kk).map encI),.int .i64 (gpM n l kk),.int .i64 (gpE n l kk)]
def groups33:List HV → Option HV:=f3 kI kS kI fun n l kk=>if l.length ≤ 500 then some (gpO n l kk) else none
theorem res33:Try.f33.results.toList=[.tmp 6,.tmp 7,.tmp 8]:=by kernel_rfl
def prGr:FuncId → Option (List HV → Option HV):=fun g=>if g == 52 then some within52 else if g == 40 then some tree40 else none
theorem soundGr (n:Nat):CallSound Tp (callN Tp (plF prGr) n):=sound_prim _ (fun g f h=>by
  unfold prGr at h
  split at h
  · rename_i hg; cases h; rw [eq_of_beq hg]; exact within_ok
  split at h
  · rename_i hg; cases h; rw [eq_of_beq hg]; exact tree_ok
  · cases h) n
theorem nwF_gr:NwF prGr:=⟨by kernel_rfl,by kernel_rfl,by kernel_rfl,by kernel_rfl,by kernel_rfl⟩
theorem nil_res (H:Heap) (m e:Int):toRes H false (.tuple [.imm .lit 1 [],.int .i64 m,.int .i64 e])=some (.tuple [.own 1 [],.int .i64 m,.int .i64 e]):=by
  simp [toRes,ownedAll,cellsOf,owned,resVal,resCell,mapO]; rfl
theorem gpO_bad {n:Int} {l:List St} {kk e:Int} (h:gpE n l kk=e) (he:e ≠ 0):gpO n l kk=.tuple [.own 1 [],.int .i64 0,.int .i64 e]:=by
  subst h; rw [gpO,gpG,gpM,if_neg he,if_neg he]; rfl
theorem gpO_ok {n:Int} {l:List St} {kk:Int} (h:gpE n l kk=0):gpO n l kk=.tuple [.own 1 ((gpT n l kk).map encI),.int .i64 (mnT (gpT n l kk) l),.int .i64 0]:=by
  rw [gpO,gpG,gpM,if_pos h,if_pos h,h]
theorem tk_sub (l:List St) (t:List Int):∀ i,i ≤ t.length → ∀ x ∈ tkT l (t.take i),x ∈ t:=by
  intro i
  induction i with
  | zero=>intro _ x hx; simp [tkT,ksT] at hx
  | succ i ih =>
    intro hi x hx
    rw [tkT_succ l t (by omega)] at hx
    split at hx
    · rcases List.mem_append.1 hx with h | h
      · exact ih (by omega) x h
      · rw [List.mem_singleton.1 h]; exact mem_getD 0 (by omega)
    · exact ih (by omega) x hx
theorem tree_in {l:List St} {x:Int} (h:x ∈ treeT l):0 ≤ x∧x < (l.length:Int):=by
  have:=tk_sub l (ordT l) (ordT l).length (Nat.le_refl _) x (by rw [List.take_length]; exact h)
  exact ordT_mem.1 this
theorem res_lii {H:Heap} {b k:Nat} {o:List Int} (hb:H[b]?=some (bI o)) (hk:o.length=k) (m e:Int):toRes H false (.tuple [.sl b 0 k none k 1,.int .i64 m,.int .i64 e])=some (.tuple [.own 1 (o.map encI),.int .i64 m,.int .i64 e]):=by
  have hr:=resCell_sl (H:=H) (no:=[b]) (b:=b) (k:=1) (m:=k) (cap:=none) (els:=o.map encI) hb (by simpa using hk) (mapO_self (fun r=>frz_int 4 r) _)
  have ho:ownedAll H false (.tuple [.sl b 0 k none k 1,.int .i64 m,.int .i64 e])=[b]:=by simp [ownedAll,cellsOf,owned,hb]
  simp only [toRes,ho,List.nodup_cons,List.not_mem_nil,not_false_eq_true,List.nodup_nil,and_self,if_true,resVal,mapO,hr]
  rfl
theorem groups_ok:PrimOk Tp 33 groups33:=by
  refine primOk_pure (pol:=plF prGr) (fn:=Try.f33) (cd:=B33) follows_mixed soundGr (by kernel_rfl) (by kernel_rfl) (fnok prGr _ _ (by kernel_rfl)) (by kernel_rfl) ?_
  intro args res h
  obtain ⟨n,l,kk,rfl,hq⟩:=f3_inv h
  split at hq
  case isFalse=>cases hq
  rename_i hl
  cases hq
  have a:=gg_a_0 (F:=prGr) 0 n (l.map encT) kk
  obtain ⟨N0,c39⟩:=CallsTo.from (nw_call nwF_gr (H:=[]) (Nat.le_refl _) n (l:=l) (by omega))
  cases hnet:netB n l with
  | false =>
    rw [hnet] at c39
    have b:=gg_b_1 (F:=prGr) N0 n (l.map encT) kk (y9:=Ud) (y10:=Ud) (y11:=Ud) (y12:=Ud) (y14:=Ud) (y15:=Ud) (y16:=Ud) (y18:=Ud) (y50:=Ud) (y51:=Ud) (y61:=Ud) (y62:=Ud) (y63:=Ud) c39 rfl stN
    have ct:=gg_cf_0 (F:=prGr) 0 n (l.map encT) kk [bN n l] (y11:=Ud) (y12:=Ud) (y14:=Ud) (y15:=Ud) (y16:=Ud) (y18:=Ud) (y50:=Ud) (y51:=Ud) (y61:=Ud) (y62:=Ud) (y63:=Ud)
    refine ⟨_,_,_,.tuple [.imm .lit 1 [],.int .i64 0,.int .i64 2],sq (a) (sq (b) (sqo (ct) (c:=sub [1,1] B33) (b:=sub [1,1,1] B33)) (c:=sub [1] B33)) (c:=B33),by simp,by simp only [resultsV,res33]; rfl,?_⟩
    have he:gpE n l kk=2:=by rw [gpE,if_neg (by rw [hnet]; simp)]
    rw [gpO_bad he (by decide)]; exact nil_res _ _ _
  | true =>
    rw [hnet] at c39
    obtain ⟨⟨n1,n2⟩,n3,he,_⟩:=netB_ends hnet
    have heB:=endN_B he (by omega)
    have b:=gg_b_0 (F:=prGr) N0 n (l.map encT) kk (y9:=Ud) (y10:=Ud) (y11:=Ud) (y12:=Ud) (y14:=Ud) (y15:=Ud) (y16:=Ud) (y18:=Ud) (y50:=Ud) (y51:=Ud) (y61:=Ud) (y62:=Ud) (y63:=Ud) c39 rfl stN
    have wk:=within_at (F:=prGr) (by kernel_rfl) kk 1 n [bN n l]
    by_cases ku:1 ≤ kk∧kk ≤ n
    case neg =>
      rw [decide_eq_false ku] at wk
      have ct:=gg_ct_1 (F:=prGr) 0 n (l.map encT) kk [bN n l] (y11:=Ud) (y12:=Ud) (y14:=Ud) (y15:=Ud) (y16:=Ud) (y18:=Ud) (y50:=Ud) (y51:=Ud) (y61:=Ud) (y62:=Ud) (y63:=Ud) wk
      refine ⟨_,_,_,.tuple [.imm .lit 1 [],.int .i64 0,.int .i64 2],sq (a) (sq (b) (sqo (ct) (c:=sub [1,1] B33) (b:=sub [1,1,1] B33)) (c:=sub [1] B33)) (c:=B33),by simp,by simp only [resultsV,res33]; rfl,?_⟩
      have he:gpE n l kk=2:=by rw [gpE,if_neg (fun h=>ku h.2)]
      rw [gpO_bad he (by decide)]; exact nil_res _ _ _
    rw [decide_eq_true ku] at wk
    have ct:=gg_ct_0 (F:=prGr) 0 n (l.map encT) kk [bN n l] (y11:=Ud) (y12:=Ud) (y14:=Ud) (y15:=Ud) (y16:=Ud) (y18:=Ud) (y50:=Ud) (y51:=Ud) (y61:=Ud) (y62:=Ud) (y63:=Ud) wk
    have c40:=at1 (pol':=plF prGr) (g:=40) (c1:=kN) (f:=fun p=>if netOk p.1 p.2 then some (.tuple [.own 1 ((treeT p.2).map encI),.bool (connB p.1 p.2)]) else none) (H:=[bN n l]) (by kernel_rfl) (ShN _ n l) (if_pos ⟨heB,by show l.length ≤ 900; omega,by show 0 ≤ n; omega,by show n ≤ 1000; omega⟩)
    rw [recv_tb] at c40
    have hlT:(treeT l).length ≤ l.length:=by have:=ksT_len l (ordT l); rw [ordT_len] at this; exact this
    by_cases cn:connB n l=true
    case neg =>
      have c40':=c40
      simp only at c40'
      rw [nb_false cn] at c40'
      have d:=gg_d_1 (F:=prGr) 0 n (l.map encT) kk [bN n l] 1 (treeT l).length (y11:=Ud) (y12:=Ud) (y14:=Ud) (y15:=Ud) (y16:=Ud) (y18:=Ud) (y50:=Ud) (y51:=Ud) (y61:=Ud) (y62:=Ud) (y63:=Ud) (ld66 rfl) c40'
      have e:=gg_ef_0 (F:=prGr) 0 n (l.map encT) kk [bN n l,bI (treeT l)] 1 (treeT l).length (y12:=Ud) (y14:=Ud) (y15:=Ud) (y16:=Ud) (y18:=Ud) (y50:=Ud) (y51:=Ud) (y61:=Ud) (y62:=Ud) (y63:=Ud)
      refine ⟨_,_,_,.tuple [.imm .lit 1 [],.int .i64 0,.int .i64 6],sq (a) (sq (b) (sq (ct) (sq (d) (sqo (e) (c:=sub [1,1,1,1] B33) (b:=sub [1,1,1,1,1] B33)) (c:=sub [1,1,1] B33)) (c:=sub [1,1] B33)) (c:=sub [1] B33)) (c:=B33),by simp,by simp only [resultsV,res33]; rfl,?_⟩
      have he:gpE n l kk=6:=by rw [gpE,if_pos ⟨hnet,ku⟩,if_neg cn]
      rw [gpO_bad he (by decide)]; exact nil_res _ _ _
    have c40':=c40
    simp only at c40'
    rw [cn] at c40'
    have d:=gg_d_0 (F:=prGr) 0 n (l.map encT) kk [bN n l] 1 (treeT l).length (y11:=Ud) (y12:=Ud) (y14:=Ud) (y15:=Ud) (y16:=Ud) (y18:=Ud) (y50:=Ud) (y51:=Ud) (y61:=Ud) (y62:=Ud) (y63:=Ud) (ld66 rfl) c40'
    have e:=gg_et_0 (F:=prGr) 0 n (l.map encT) kk [bN n l,bI (treeT l)] 1 (treeT l).length (y12:=Ud) (y14:=Ud) (y15:=Ud) (y16:=Ud) (y18:=Ud) (y50:=Ud) (y51:=Ud) (y61:=Ud) (y62:=Ud) (y63:=Ud)
    have hE:gpE n l kk=0:=by rw [gpE,if_pos ⟨hnet,ku⟩,if_pos cn]
    have hcl:((treeT l).length:Int)=n - 1:=of_decide_eq_true cn
    rw [gpO_ok hE]
    obtain ⟨n,rfl⟩:∃ m:Nat,n=(m:Int):=⟨n.toNat,by omega⟩
    generalize hk:((n:Int) - kk).toNat=k at *
    have hk2:((k:Nat):Int)=(n:Int) - kk:=by omega
    have hw:IntKind.i64.wrap ((n:Int) - kk)=(k:Int):=by rw [wrap_id (by omega) (by omega)]; omega
    have hgp:gpT (n:Int) l kk=grpT n l ((treeT l).take k):=by rw [gpT,hk]; rfl
    rw [hgp]
    have ht0:∀ x ∈ treeT l,0 ≤ x∧x < (l.length:Int):=fun x hx=>tree_in hx
    have htl:((treeT l).take k).length=k:=by rw [List.length_take]; omega
    have hto:∀ i,i < ((treeT l).take k).length → i < (treeT l).length∧(treeT l).getD i 0=((treeT l).take k).getD i 0:=fun i hi=>⟨by omega,(take_getD (by omega)).symm⟩
    have htt:∀ x ∈ (treeT l).take k,0 ≤ x∧x < (l.length:Int):=fun x hx=>ht0 x (List.mem_of_mem_take hx)
    obtain ⟨N1,c57⟩:=CallsTo.from (joined_sl (F:=prGr) (by kernel_rfl) (by kernel_rfl) (by kernel_rfl) (by kernel_rfl) (n:=(n:Int)) heB htt (by omega) (H:=[bN n l,bI (treeT l)]) (by show max 0 (max 0 0) ≤ 2; decide) (lb:=1) (cap:=none) rfl hto)
    rw [htl] at c57
    have f:=gg_f_0 (F:=prGr) N1 n (l.map encT) kk [bN n l,bI (treeT l)] 1 (treeT l).length 3 _ (y12:=Ud) (y14:=Ud) (y15:=Ud) (y16:=Ud) (y18:=Ud) (y50:=Ud) (y51:=Ud) (y61:=Ud) (y62:=Ud) (y63:=Ud) (ld66 rfl) (by rw [hw,Int.toNat_natCast]; exact slice_hi (by omega)) (by rw [hw,Int.toNat_natCast]; exact c57)
    have hU:=ksT_up heB (t:=(treeT l).take k) htt
    have g:=gg_g_0 (F:=prGr) 0 n (l.map encT) kk [bN n l,bI (treeT l),bN n l,bU (ksT l ((treeT l).take k)).1] 3 (y9:=.ptr 0 0 0 1) (y10:=.bool true) (y11:=.sl 1 0 (treeT l).length none (treeT l).length 1) (y14:=Ud) (y15:=Ud) (y16:=Ud) (y18:=Ud) (y50:=Ud) (y51:=Ud) (y61:=Ud) (y62:=Ud) (y63:=Ud) rfl
    have hh:=gg_h_0 (F:=prGr) 0 n (l.map encT) kk [bN n l,bI (treeT l),bN n l,bU (ksT l ((treeT l).take k)).1,bI []] 3 4 0 (y9:=.ptr 0 0 0 1) (y10:=.bool true) (y11:=.sl 1 0 (treeT l).length none (treeT l).length 1) (y15:=Ud) (y16:=Ud) (y18:=Ud) (y50:=Ud) (y51:=Ud) (y61:=Ud) (y62:=Ud) (y63:=Ud)
    have hG:grpT n l ((treeT l).take k)=(labT l ((treeT l).take k)).take n:=rfl
    rw [hG]
    have hlg:(labT l ((treeT l).take k)).length=16:=hU.lg
    have hU2:Up (ksT l ((treeT l).take k)).1 (labT l ((treeT l).take k)):=hU
    generalize hus:(ksT l ((treeT l).take k)).1=us at *
    generalize hlab:labT l ((treeT l).take k)=lab at *
    have lt:∀ i,i ≤ n → (lab.take i).length=i:=fun i hi=>by rw [List.length_take]; omega
    have r:=count (pol':=plF prGr) (f:=33) (E:=fun i=>(env33 (.int .i64 (n:Int)) (.imm .arg 3 (l.map encT)) (.int .i64 kk) (.imm .lit 1 []) (.int .i64 0) (.int .i64 0) Ud Ud Ud (.ptr 3 0 0 1) (.sl 4 0 (lab.take i).length none (lab.take i).length 1) Ud Ud Ud (.int .i64 (n:Int)) (.int .i64 (i:Int)) Ud Ud Ud)) (Hs:=fun i=>[bN n l,bI (treeT l),bN n l,bU us,bI (lab.take i)]) n
      (E0:=fun i=>(env33 (.int .i64 (n:Int)) (.imm .arg 3 (l.map encT)) (.int .i64 kk) (.imm .lit 1 []) (.int .i64 0) (.int .i64 0) Ud Ud Ud (.ptr 3 0 0 1) (.sl 4 0 (lab.take (i+1)).length none (lab.take (i+1)).length 1) (.int .i64 (i:Int)) Ud Ud (.int .i64 (n:Int)) (.int .i64 ((i+1:Nat):Int)) Ud Ud Ud)) (H1:=fun i=>[bN n l,bI (treeT l),bN n l,bU us,bI (lab.take (i+1))])
      (fun i hi=>by
        obtain ⟨N2,c55⟩:=CallsTo.from (of_call (F:=prGr) (by kernel_rfl) (H:=[bN n l,bI (treeT l),bN n l,bU us,bI (lab.take i)]) (b:=3) rfl hU2 (v:=(i:Int)) (by omega) (by omega))
        rw [Int.toNat_natCast] at c55
        have hli:=lt i (by omega)
        have ap:=app_in1 (H:=[bN n l,bI (treeT l),bN n l,bU us,bI (lab.take i)]) (b:=4) (o:=lab.take i) rfl (by omega) (lab.getD i 0)
        have es:=take_snoc (g:=lab) (i:=i) (by omega)
        rw [← es] at ap
        have s:=gg_l_0 (F:=prGr) N2 n (l.map encT) kk [bN n l,bI (treeT l),bN n l,bU us,bI (lab.take i)] 3 4 (lab.take i).length i (y9:=Ud) (y10:=Ud) (y11:=Ud) (y15:=Ud) (y16:=Ud) (y18:=Ud) (y61:=Ud) (y62:=Ud) (y63:=Ud) (by omega) c55 ap
        have el:(lab.take (i+1)).length=(lab.take i).length+1:=by rw [lt _ (by omega),lt _ (by omega)]
        rw [wrap_succ (by omega),← el] at s
        exact s) (fun i _=>by kernel_rfl) (fun i _=>gc_eq _ rfl) (gg_l_1 (F:=prGr) 0 n (l.map encT) kk [bN n l,bI (treeT l),bN n l,bU us,bI (lab.take n)] 3 4 (lab.take n).length n (y9:=Ud) (y10:=Ud) (y11:=Ud) (y15:=Ud) (y16:=Ud) (y18:=Ud) (y61:=Ud) (y62:=Ud) (y63:=Ud) (by omega)) (by simp) (c:=sub [1,1,1,1,1,1,1,0,1,0] B33) (by kernel_rfl) (fun i _=>by kernel_rfl)
    have hln:=lt n (Nat.le_refl _)
    rw [hln] at r
    have ii:=gg_i_0 (F:=prGr) 0 n (l.map encT) kk [bN n l,bI (treeT l),bN n l,bU us,bI (lab.take n)] 4 n (y12:=.ptr 3 0 0 1) (y50:=.int .i64 (n:Int)) (y51:=.int .i64 (n:Int)) (y9:=Ud) (y10:=Ud) (y11:=Ud) (y15:=Ud) (y16:=Ud) (y18:=Ud) (y61:=Ud) (y62:=Ud) (y63:=Ud)
    have jj:=gg_j_0 (F:=prGr) 0 n (l.map encT) kk [bN n l,bI (treeT l),bN n l,bU us,bI (lab.take n)] 4 n (-1) (y12:=.ptr 3 0 0 1) (y50:=.int .i64 (n:Int)) (y51:=.int .i64 (n:Int)) (y9:=Ud) (y10:=Ud) (y11:=Ud) (y15:=Ud) (y18:=Ud) (y61:=Ud) (y62:=Ud) (y63:=Ud)
    generalize hgr:lab.take n=gr at *
    generalize hH:[bN (n:Int) l,bI (treeT l),bN (n:Int) l,bU us,bI gr]=H at *
    have hH4:H[4]?=some (bI gr):=by rw [← hH]; rfl
    have hH5:H.length=5:=by rw [← hH]; rfl
    have r2:=count (pol':=plF prGr) (f:=33) (E:=fun i=>(env33 (.int .i64 (n:Int)) (.imm .arg 3 (l.map encT)) (.int .i64 kk) (.imm .lit 1 []) (.int .i64 0) (.int .i64 0) Ud Ud Ud Ud (.sl 4 0 n none n 1) Ud (.int .i64 (mnT gr (l.take i))) Ud Ud Ud (.imm .arg 3 (l.map encT)) (.int .i64 (l.length:Int)) (.int .i64 (i:Int)))) (Hs:=fun i=>H) l.length
      (E0:=fun i=>(env33 (.int .i64 (n:Int)) (.imm .arg 3 (l.map encT)) (.int .i64 kk) (.imm .lit 1 []) (.int .i64 0) (.int .i64 0) Ud Ud Ud Ud (.sl 4 0 n none n 1) Ud (.int .i64 (mnT gr (l.take (i+1)))) (.ptr H.length 0 0 1) Ud Ud (.imm .arg 3 (l.map encT)) (.int .i64 (l.length:Int)) (.int .i64 ((i+1:Nat):Int)))) (H1:=fun i=>H ++ [bT (l.getD i (0,0,0))])
      (fun i hi=>by
        have g2:=gs (l:=l) (y:=i) hi
        have hm:=mnT_succ gr l hi
        have hse:=endN_iff.1 he _ (mem_getD (0,0,0) hi)
        generalize l.getD i (0,0,0)=s at *
        obtain ⟨⟨sa1,sa2⟩,sb1,sb2⟩:=hse
        have hx:=get_x H (bT s)
        have la:=ldT hx 0 s.1 rfl
        have lb:=ldT hx 1 s.2.1 rfl
        have lc:=ldT hx 2 s.2.2 rfl
        have hg4:(H ++ [bT s])[4]?=some (bI gr):=get_l hH4
        have lx:=load_out hg4 (y:=s.1.toNat) (by omega)
        have ly:=load_out hg4 (y:=s.2.1.toNat) (by omega)
        rw [hln] at lx ly
        rw [hm,mnS]
        by_cases cx:gr.getD s.1.toNat 0=gr.getD s.2.1.toNat 0
        · rw [if_neg (fun h=>h.1 cx)]
          have s1:=gg_k_0 (F:=prGr) 0 n (l.map encT) kk H 4 n l.length i (mnT gr (l.take i)) s.1 s.2.1 s.2.2 _ _ (y9:=Ud) (y10:=Ud) (y11:=Ud) (y12:=Ud) (y15:=Ud) (y18:=Ud) (y50:=Ud) (y51:=Ud) (by omega) g2 (box_nv H) (box_st H s) (fld0 _) la (idxU ⟨sa1,sa2⟩) lx (fld1 _) lb (idxU ⟨sb1,sb2⟩) ly cx
          rw [wrap_succ (by omega)] at s1
          exact s1
        by_cases cg:mnT gr (l.take i) < 0
        · rw [if_pos ⟨cx,.inl cg⟩]
          have s1:=gg_k_1 (F:=prGr) 0 n (l.map encT) kk H 4 n l.length i (mnT gr (l.take i)) s.1 s.2.1 s.2.2 _ _ (y9:=Ud) (y10:=Ud) (y11:=Ud) (y12:=Ud) (y15:=Ud) (y18:=Ud) (y50:=Ud) (y51:=Ud) (by omega) g2 (box_nv H) (box_st H s) (fld0 _) la (idxU ⟨sa1,sa2⟩) lx (fld1 _) lb (idxU ⟨sb1,sb2⟩) ly cx cg (fld2 _) lc
          rw [wrap_succ (by omega)] at s1
          exact s1
        by_cases cw:s.2.2 < mnT gr (l.take i)
        · rw [if_pos ⟨cx,.inr cw⟩]
          have s1:=gg_k_2 (F:=prGr) 0 n (l.map encT) kk H 4 n l.length i (mnT gr (l.take i)) s.1 s.2.1 s.2.2 _ _ (y9:=Ud) (y10:=Ud) (y11:=Ud) (y12:=Ud) (y15:=Ud) (y18:=Ud) (y50:=Ud) (y51:=Ud) (by omega) g2 (box_nv H) (box_st H s) (fld0 _) la (idxU ⟨sa1,sa2⟩) lx (fld1 _) lb (idxU ⟨sb1,sb2⟩) ly cx cg (fld2 _) lc cw (fld2 _) lc
          rw [wrap_succ (by omega)] at s1
          exact s1
        · rw [if_neg (fun h=>h.2.elim cg cw)]
          have s1:=gg_k_3 (F:=prGr) 0 n (l.map encT) kk H 4 n l.length i (mnT gr (l.take i)) s.1 s.2.1 s.2.2 _ _ (y9:=Ud) (y10:=Ud) (y11:=Ud) (y12:=Ud) (y15:=Ud) (y18:=Ud) (y50:=Ud) (y51:=Ud) (by omega) g2 (box_nv H) (box_st H s) (fld0 _) la (idxU ⟨sa1,sa2⟩) lx (fld1 _) lb (idxU ⟨sb1,sb2⟩) ly cx cg (fld2 _) lc cw
          rw [wrap_succ (by omega)] at s1
          exact s1) (fun i _=>by kernel_rfl) (fun i _=>by
            have hb:bndE ((env33 (.int .i64 (n:Int)) (.imm .arg 3 (l.map encT)) (.int .i64 kk) (.imm .lit 1 []) (.int .i64 0) (.int .i64 0) Ud Ud Ud Ud (.sl 4 0 n none n 1) Ud (.int .i64 (mnT gr (l.take (i+1)))) Ud Ud Ud (.imm .arg 3 (l.map encT)) (.int .i64 (l.length:Int)) (.int .i64 ((i+1:Nat):Int))))=5:=by simp only [bndE,bnd,bndL]; rfl
            show gc H.length (bndE ((env33 (.int .i64 (n:Int)) (.imm .arg 3 (l.map encT)) (.int .i64 kk) (.imm .lit 1 []) (.int .i64 0) (.int .i64 0) Ud Ud Ud Ud (.sl 4 0 n none n 1) Ud (.int .i64 (mnT gr (l.take (i+1)))) Ud Ud Ud (.imm .arg 3 (l.map encT)) (.int .i64 (l.length:Int)) (.int .i64 ((i+1:Nat):Int))))) (H ++ [bT (l.getD i (0,0,0))])=H
            rw [hb,← hH5]
            exact gc_back (by rw [mxs_app,← hH]; show max (max 0 (max 0 (max 0 (max 0 (max 0 0))))) (max 0 0) ≤ 5; decide) (Nat.le_refl _)) (gg_k_4 (F:=prGr) 0 n (l.map encT) kk H 4 n l.length l.length (mnT gr (l.take l.length)) 0 0 0 0 0 (y9:=Ud) (y10:=Ud) (y11:=Ud) (y12:=Ud) (y15:=Ud) (y18:=Ud) (y50:=Ud) (y51:=Ud) (by omega)) (by simp) (c:=sub [1,1,1,1,1,1,1,1,1,0,1,0] B33) (by kernel_rfl) (fun i _=>by kernel_rfl)
    rw [List.take_of_length_le (Nat.le_refl _)] at r2
    have z:=gg_z_0 (F:=prGr) 0 n (l.map encT) kk H 4 n (mnT gr l) (y61:=.imm .arg 3 (l.map encT)) (y62:=.int .i64 (l.length:Int)) (y63:=.int .i64 (l.length:Int)) (y9:=Ud) (y10:=Ud) (y11:=Ud) (y12:=Ud) (y15:=Ud) (y18:=Ud) (y50:=Ud) (y51:=Ud)
    have lmap:(l.map encT).length=l.length:=List.length_map _
    rw [lmap] at jj
    refine ⟨_,_,_,.tuple [.sl 4 0 n none n 1,.int .i64 (mnT gr l),.int .i64 0],sq (a) (sq (b) (sq (ct) (sq (d) (sq (e) (sq (f) (sq (g) (sq (sq (hh) (bke (c:=sub [1,1,1,1,1,1,1,0,1] B33) (lpi (e0:=(env33 (.int .i64 (n:Int)) (.imm .arg 3 (l.map encT)) (.int .i64 kk) (.imm .lit 1 []) (.int .i64 0) (.int .i64 0) (.ptr 0 0 0 1) (.bool true) (.sl 1 0 (treeT l).length none (treeT l).length 1) (.ptr 3 0 0 1) (.sl 4 0 0 none 0 1) Ud Ud Ud (.int .i64 (n:Int)) (.int .i64 ((0:Nat):Int)) Ud Ud Ud)) r (b:=sub [1,1,1,1,1,1,1,0,1,0,0] B33))) (c:=sub [1,1,1,1,1,1,1,0] B33)) (sq (ii) (sq (sq (jj) (bke (c:=sub [1,1,1,1,1,1,1,1,1,0,1] B33) (lpi (e0:=(env33 (.int .i64 (n:Int)) (.imm .arg 3 (l.map encT)) (.int .i64 kk) (.imm .lit 1 []) (.int .i64 0) (.int .i64 0) Ud Ud Ud (.ptr 3 0 0 1) (.sl 4 0 n none n 1) Ud (.int .i64 (-1)) Ud (.int .i64 (n:Int)) (.int .i64 (n:Int)) (.imm .arg 3 (l.map encT)) (.int .i64 (l.length:Int)) (.int .i64 ((0:Nat):Int)))) r2 (b:=sub [1,1,1,1,1,1,1,1,1,0,1,0,0] B33))) (c:=sub [1,1,1,1,1,1,1,1,1,0] B33)) (z) (c:=sub [1,1,1,1,1,1,1,1,1] B33)) (c:=sub [1,1,1,1,1,1,1,1] B33)) (c:=sub [1,1,1,1,1,1,1] B33)) (c:=sub [1,1,1,1,1,1] B33)) (c:=sub [1,1,1,1,1] B33)) (c:=sub [1,1,1,1] B33)) (c:=sub [1,1,1] B33)) (c:=sub [1,1] B33)) (c:=sub [1] B33)) (c:=B33),by simp,by simp only [resultsV,res33]; rfl,?_⟩
    exact res_lii hH4 hln _ _
end Go.Proofs.Ytiejmoglooaalaa
end
section
open Go Go.HL
namespace Go.Proofs.Ytiejmoglooaalaa
theorem sub_filter {t s:List Int} (h:s.Sublist t) (hn:t.Nodup):t.filter (fun x=>decide (x ∈ s))=s:=by
  induction h with
  | slnil=>rfl
  | @cons s t a h ih =>
    have hn':=List.nodup_cons.1 hn
    rw [List.filter_cons_of_neg (by simpa using fun c=>hn'.1 (h.subset c))]
    exact ih hn'.2
  | @cons_cons s t a h ih =>
    have hn':=List.nodup_cons.1 hn
    rw [List.filter_cons_of_pos (by simp)]
    refine congrArg (a :: ·) ?_
    rw [← ih hn'.2]
    refine (List.filter_congr fun x hx=>?_)
    have:x ≠ a:=fun c=>hn'.1 (c ▸ hx)
    rw [ih hn'.2]
    simp [this]
theorem tk_sublist (l:List St) (t:List Int):∀ i,i ≤ t.length → (tkT l (t.take i)).Sublist (t.take i):=by
  intro i
  induction i with
  | zero=>intro _; exact List.Sublist.refl _
  | succ i ih =>
    intro hi
    rw [tkT_succ l t (by omega),take_snoc (by omega)]
    split
    · exact (ih (by omega)).append (List.Sublist.refl _)
    · exact (ih (by omega)).trans (List.sublist_append_left _ _)
theorem ordT_nodup (l:List St):(ordT l).Nodup:=(ordN_perm l l.length).nodup_iff.2 (startT_nodup _)
theorem frT_mem {l:List St} {x:Int}:x ∈ frT l ↔ x ∈ treeT l:=by
  rw [frT,selT,List.mem_filter]
  exact ⟨fun h=>of_decide_eq_true h.2,fun h=>⟨startT_mem.2 (tree_in h),decide_eq_true h⟩⟩
theorem tree_filter (l:List St):(ordT l).filter (fun x=>decide (x ∈ treeT l))=treeT l:=by
  have:=tk_sublist l (ordT l) (ordT l).length (Nat.le_refl _)
  rw [List.take_length] at this
  exact sub_filter this (ordT_nodup l)
theorem fr_len (l:List St):(frT l).length=(treeT l).length:=by
  have h:((ordT l).filter fun x=>decide (x ∈ treeT l)).Perm (frT l):=(ordN_perm l l.length).filter _
  rw [← h.length_eq,tree_filter]
end Go.Proofs.Ytiejmoglooaalaa
end
section
open Go Go.HL
namespace Go.Proofs.Ytiejmoglooaalaa
set_option linter.unusedSectionVars false
inductive Cn (l:List St) (t:List Int):Int → Int → Prop
  | refl (v:Int):Cn l t v v
  | edge {k:Int} (h:k ∈ t):Cn l t (sA l k) (sB l k)
  | symm {u v:Int} (h:Cn l t u v):Cn l t v u
  | trans {u v w:Int} (h:Cn l t u v) (h2:Cn l t v w):Cn l t u w
theorem Cn.mono {l:List St} {t t':List Int} (hs:∀ k ∈ t,k ∈ t') {u v:Int} (h:Cn l t u v):Cn l t' u v:=by
  induction h with
  | refl v=>exact .refl v
  | edge h=>exact .edge (hs _ h)
  | symm _ ih=>exact .symm ih
  | trans _ _ h1 h2=>exact .trans h1 h2
def lb (l:List St) (t:List Int) (v:Int):Int:=(labT l t).getD v.toNat 0
section
variable {l:List St} (he:endB l=true) {t:List Int} (ht:∀ k ∈ t,0 ≤ k∧k < (l.length:Int))
include he ht
theorem lb_lo {v:Int} (hv:0 ≤ v∧v < 16):0 ≤ lb l t v∧lb l t v ≤ v∧lb l t (lb l t v)=lb l t v:=by
  have h:=(ksT_up he ht).lab v.toNat (by omega)
  refine ⟨h.1,?_,h.2.2.2⟩
  have:=h.2.1
  show (ksT l t).2.1.getD v.toNat 0 ≤ v
  omega
theorem lb_rng {v:Int} (hv:0 ≤ v∧v < 16):0 ≤ lb l t v∧lb l t v < 16:=by
  have:=lb_lo he ht hv
  omega
theorem lb_succ {i:Nat} (hi:i < t.length) {v:Int} (hv:0 ≤ v∧v < 16):lb l (t.take (i+1)) v=labS (min (lb l (t.take i) (sA l (t.getD i 0))) (lb l (t.take i) (sB l (t.getD i 0)))) (max (lb l (t.take i) (sA l (t.getD i 0))) (lb l (t.take i) (sB l (t.getD i 0)))) (lb l (t.take i) v):=by
  have hU:=ksT_up he (t:=t.take i) fun k hk=>ht k (List.mem_of_mem_take hk)
  have hl:(labT l (t.take i)).length=16:=hU.lg
  rw [lb,labT_succ l t hi,joinT,getD_map (by rw [hl]; omega)]
  rfl
theorem lb_cn_take:∀ i,i ≤ t.length → ∀ v:Int,0 ≤ v∧v < 16 → Cn l (t.take i) (lb l (t.take i) v) v:=by
  intro i
  induction i with
  | zero =>
    intro _ v hv
    have:lb l (t.take 0) v=v:=by
      show (startT 16).getD v.toNat 0=v
      have:v.toNat < 16:=by omega
      simp [startT,List.getD,this]; omega
    rw [this]; exact .refl v
  | succ i ih =>
    intro hi v hv
    have hk:=ht _ (mem_getD 0 (show i < t.length by omega))
    obtain ⟨ea,eb⟩:=ends he hk
    have ih:=ih (by omega)
    have hm:∀ x ∈ t.take i,x ∈ t.take (i+1):=fun x hx=>by rw [take_snoc (by omega)]; exact List.mem_append_left _ hx
    have hA:=(ih _ ea).mono hm
    have hB:=(ih _ eb).mono hm
    have hE:Cn l (t.take (i+1)) (sA l (t.getD i 0)) (sB l (t.getD i 0)):=.edge (by rw [take_snoc (by omega)]; simp)
    have hAB:Cn l (t.take (i+1)) (lb l (t.take i) (sA l (t.getD i 0))) (lb l (t.take i) (sB l (t.getD i 0))):=.trans hA (.trans hE (.symm hB))
    have hV:=(ih v hv).mono hm
    rw [lb_succ he ht (by omega) hv]
    generalize lb l (t.take i) (sA l (t.getD i 0))=A at *
    generalize lb l (t.take i) (sB l (t.getD i 0))=B at *
    unfold labS
    split
    · rename_i hx
      rw [hx] at hV
      refine .trans ?_ hV
      rcases Int.le_total A B with c | c
      · rw [Int.min_eq_left c,Int.max_eq_right c]; exact hAB
      · rw [Int.min_eq_right c,Int.max_eq_left c]; exact .symm hAB
    · exact hV
theorem lb_cn {v:Int} (hv:0 ≤ v∧v < 16):Cn l t (lb l t v) v:=by
  have:=lb_cn_take he ht t.length (Nat.le_refl _) v hv
  rwa [List.take_length] at this
theorem lb_edge_take {j:Nat} (hj:j < t.length):∀ d,j+1+d ≤ t.length → lb l (t.take (j+1+d)) (sA l (t.getD j 0))=lb l (t.take (j+1+d)) (sB l (t.getD j 0)):=by
  have hk:=ht _ (mem_getD 0 hj)
  obtain ⟨ea,eb⟩:=ends he hk
  intro d
  induction d with
  | zero =>
    intro _
    rw [Nat.add_zero,lb_succ he ht hj ea,lb_succ he ht hj eb]
    unfold labS
    split <;> split <;> omega
  | succ d ih =>
    intro h
    have:=ih (by omega)
    rw [show j+1+(d+1)=(j+1+d)+1 by omega,lb_succ he ht (by omega) ea,lb_succ he ht (by omega) eb,this]
theorem lb_edge {k:Int} (hk:k ∈ t):lb l t (sA l k)=lb l t (sB l k):=by
  obtain ⟨j,hj,rfl⟩:=List.getElem_of_mem hk
  have:=lb_edge_take he ht hj (t.length - (j+1)) (by omega)
  rw [show j+1+(t.length - (j+1))=t.length by omega,List.take_length,getD_at hj] at this
  exact this
theorem cn_lb {u v:Int} (h:Cn l t u v):lb l t u=lb l t v:=by
  induction h with
  | refl v=>rfl
  | edge h=>exact lb_edge he ht h
  | symm _ ih=>exact ih.symm
  | trans _ _ h1 h2=>exact h1.trans h2
theorem lb_iff {u v:Int} (hu:0 ≤ u∧u < 16) (hv:0 ≤ v∧v < 16):lb l t u=lb l t v ↔ Cn l t u v :=
  ⟨fun h=>.trans (.symm (lb_cn he ht hu)) (h ▸ lb_cn he ht hv),cn_lb he ht⟩
theorem lb_le {t':List Int} (ht':∀ k ∈ t',0 ≤ k∧k < (l.length:Int)) (hs:∀ k ∈ t,k ∈ t') {v:Int} (hv:0 ≤ v∧v < 16):lb l t' v ≤ lb l t v:=by
  have h1:=cn_lb he ht' ((lb_cn he ht hv).mono hs)
  have h2:=lb_lo he ht' (lb_rng he ht hv)
  omega
end
theorem lb_same {l:List St} (he:endB l=true) {t t':List Int} (ht:∀ k ∈ t,0 ≤ k∧k < (l.length:Int)) (hs:∀ k,k ∈ t ↔ k ∈ t') {v:Int} (hv:0 ≤ v∧v < 16):lb l t v=lb l t' v:=by
  have ht':∀ k ∈ t',0 ≤ k∧k < (l.length:Int):=fun k hk=>ht k ((hs k).2 hk)
  have h1:=lb_le he ht ht' (fun k hk=>(hs k).1 hk) hv
  have h2:=lb_le he ht' ht (fun k hk=>(hs k).2 hk) hv
  omega
theorem lab_same {l:List St} (he:endB l=true) {t t':List Int} (ht:∀ k ∈ t,0 ≤ k∧k < (l.length:Int)) (hs:∀ k,k ∈ t ↔ k ∈ t'):labT l t=labT l t':=by
  have ht':∀ k ∈ t',0 ≤ k∧k < (l.length:Int):=fun k hk=>ht k ((hs k).2 hk)
  have h1:(labT l t).length=16:=(ksT_up he ht).lg
  have h2:(labT l t').length=16:=(ksT_up he ht').lg
  apply List.ext_getElem (by rw [h1,h2])
  intro i hi hi'
  have:=lb_same he ht hs (v:=(i:Int)) (by omega)
  rw [lb,lb,Int.toNat_natCast,getD_at hi,getD_at hi'] at this
  exact this
end Go.Proofs.Ytiejmoglooaalaa
end
section
open Go Go.HL
namespace Go.Proofs.Ytiejmoglooaalaa
set_option linter.unusedSectionVars false
def rt (g:List Int):Nat:=((List.range 16).filter fun v=>decide (g.getD v 0=(v:Int))).length
theorem filter_drop1 {α:Type} {p q:α → Bool} {x:α}:∀ {s:List α},s.Nodup → x ∈ s → p x=true → (∀ y ∈ s,y ≠ x → q y=p y) → q x=false → (s.filter p).length=(s.filter q).length+1
  | [],_,h,_,_,_=>by cases h
  | y :: s,hn,h,hp,hq,hx=>by
    obtain ⟨h1,h2⟩:=List.nodup_cons.1 hn
    by_cases e:y=x
    · subst e
      rw [List.filter_cons_of_pos hp,List.filter_cons_of_neg (by simp [hx]),List.length_cons]
      refine congrArg (·+1) (congrArg _ (List.filter_congr fun z hz=>?_))
      exact (hq z (List.mem_cons_of_mem _ hz) fun c=>h1 (c ▸ hz)).symm
    · have hm:x ∈ s:=(List.mem_cons.1 h).resolve_left fun c=>e c.symm
      have ih:=filter_drop1 h2 hm hp (fun z hz hne=>hq z (List.mem_cons_of_mem _ hz) hne) hx
      have hy:=hq y (List.mem_cons_self ..) e
      by_cases c:p y=true
      · rw [List.filter_cons_of_pos c,List.filter_cons_of_pos (by rw [hy]; exact c),List.length_cons,List.length_cons,ih]
      · rw [List.filter_cons_of_neg c,List.filter_cons_of_neg (by rw [hy]; exact c),ih]
theorem rt_join {us g:List Int} (h:Up us g) {u v:Nat} (hu:u < 16) (hv:v < 16) (hne:g.getD u 0 ≠ g.getD v 0):rt g=rt (joinT g (u:Int) (v:Int))+1:=by
  obtain ⟨a1,a2,a3,a4⟩:=h.lab u hu
  obtain ⟨b1,b2,b3,b4⟩:=h.lab v hv
  have hget:∀ w:Nat,w < 16 → (joinT g (u:Int) (v:Int)).getD w 0=labS (min (g.getD u 0) (g.getD v 0)) (max (g.getD u 0) (g.getD v 0)) (g.getD w 0):=fun w hw=>by
    rw [joinT,getD_map (by rw [h.lg]; exact hw),Int.toNat_natCast,Int.toNat_natCast]
  generalize hA:g.getD u 0=A at *
  generalize hB:g.getD v 0=B at *
  have hmx:0 ≤ max A B∧max A B < 16:=by omega
  have hmr:g.getD (max A B).toNat 0=max A B:=by
    rcases Int.le_total A B with c | c
    · rw [Int.max_eq_right c]; exact b4
    · rw [Int.max_eq_left c]; exact a4
  have hmn:g.getD (min A B).toNat 0=min A B:=by
    rcases Int.le_total A B with c | c
    · rw [Int.min_eq_left c]; exact a4
    · rw [Int.min_eq_right c]; exact b4
  refine filter_drop1 (x:=(max A B).toNat) List.nodup_range (List.mem_range.2 (by omega)) (decide_eq_true (by rw [hmr]; omega)) (fun y hy hyne=>?_) ?_
  · have hy:=List.mem_range.1 hy
    rw [hget y hy,decide_eq_decide]
    unfold labS
    split
    · rename_i hc
      constructor
      · intro e
        exfalso
        have:(min A B).toNat=y:=by omega
        rw [← this,hmn] at hc
        omega
      · intro e; exfalso; omega
    · exact Iff.rfl
  · rw [hget _ (by omega),hmr]
    unfold labS
    rw [if_pos rfl]
    exact decide_eq_false (by omega)
theorem rt_start:rt (startT 16)=16:=by decide +kernel
theorem tk_rank {l:List St} (he:endB l=true) {t:List Int} (ht:∀ k ∈ t,0 ≤ k∧k < (l.length:Int)):(tkT l t).length+rt (labT l t)=16:=by
  have key:∀ i,i ≤ t.length → (tkT l (t.take i)).length+rt (labT l (t.take i))=16:=by
    intro i
    induction i with
    | zero=>intro _; exact rt_start
    | succ i ih =>
      intro hi
      have ih:=ih (by omega)
      have hk:=ht _ (mem_getD 0 (show i < t.length by omega))
      obtain ⟨ea,eb⟩:=ends he hk
      have hU:=ksT_up he (t:=t.take i) fun k hk=>ht k (List.mem_of_mem_take hk)
      rw [tkT_succ l t (by omega),labT_succ l t (by omega)]
      split
      · rename_i hne
        have:=rt_join hU (u:=(sA l (t.getD i 0)).toNat) (v:=(sB l (t.getD i 0)).toNat) (by omega) (by omega) hne
        rw [show (((sA l (t.getD i 0)).toNat:Nat):Int)=sA l (t.getD i 0) by omega,show (((sB l (t.getD i 0)).toNat:Nat):Int)=sB l (t.getD i 0) by omega] at this
        rw [List.length_append,List.length_singleton]
        show (tkT l (t.take i)).length+1+rt (joinT (ksT l (t.take i)).2.1 _ _)=16
        have e:labT l (t.take i)=(ksT l (t.take i)).2.1:=rfl
        rw [e] at ih
        omega
      · rename_i hne
        have e:joinT (labT l (t.take i)) (sA l (t.getD i 0)) (sB l (t.getD i 0))=labT l (t.take i):=joinT_eqv (Decidable.not_not.1 hne)
        rw [e]; exact ih
  have:=key t.length (Nat.le_refl _)
  rwa [List.take_length] at this
theorem tk_len_same {l:List St} (he:endB l=true) {t t':List Int} (ht:∀ k ∈ t,0 ≤ k∧k < (l.length:Int)) (hs:∀ k,k ∈ t ↔ k ∈ t'):(tkT l t).length=(tkT l t').length:=by
  have h1:=tk_rank he ht
  have h2:=tk_rank he (t:=t') fun k hk=>ht k ((hs k).2 hk)
  rw [lab_same he ht hs] at h1
  omega
theorem ks_tk {l:List St} {t:List Int}:∀ i,i ≤ t.length → labT l (tkT l (t.take i))=labT l (t.take i)∧tkT l (tkT l (t.take i))=tkT l (t.take i):=by
  intro i
  induction i with
  | zero=>intro _; exact ⟨rfl,rfl⟩
  | succ i ih =>
    intro hi
    obtain ⟨h1,h2⟩:=ih (by omega)
    have hts:=tkT_succ l t (i:=i) (by omega)
    have hls:=labT_succ l t (i:=i) (by omega)
    by_cases c:(labT l (t.take i)).getD (sA l (t.getD i 0)).toNat 0 ≠ (labT l (t.take i)).getD (sB l (t.getD i 0)).toNat 0
    · rw [if_pos c] at hts
      rw [hts,hls]
      have hn:=fun s:List Int=>take_snoc (g:=s ++ [t.getD i 0]) (i:=s.length) (by simp)
      have a1:=labT_succ l (tkT l (t.take i) ++ [t.getD i 0]) (i:=(tkT l (t.take i)).length) (by simp)
      have a2:=tkT_succ l (tkT l (t.take i) ++ [t.getD i 0]) (i:=(tkT l (t.take i)).length) (by simp)
      have g0:(tkT l (t.take i) ++ [t.getD i 0]).getD (tkT l (t.take i)).length 0=t.getD i 0:=by simp [List.getD]
      rw [List.take_of_length_le (by simp),g0,List.take_left,h1] at a1 a2
      rw [a1,a2,h2,if_pos c]
      exact ⟨rfl,rfl⟩
    · rw [if_neg c] at hts
      rw [hts,hls,h1,h2,joinT_eqv (Decidable.not_not.1 c)]
      exact ⟨rfl,rfl⟩
theorem lab_tree (l:List St):labT l (treeT l)=labT l (ordT l)∧tkT l (treeT l)=treeT l:=by
  have:=ks_tk (l:=l) (t:=ordT l) (ordT l).length (Nat.le_refl _)
  rwa [List.take_length] at this
end Go.Proofs.Ytiejmoglooaalaa
end
section
open Go Go.HL
namespace Go.Proofs.Ytiejmoglooaalaa
variable {F:FuncId → Option (List HV → Option HV)}
def wo (l:List Int) (v:Int):List Int:=l.filter fun x=>decide (x ≠ v)
end Go.Proofs.Ytiejmoglooaalaa
end
section
open Go Go.HL
namespace Go.Proofs.Ytiejmoglooaalaa
def joinsT (l:List St) (t:List Int) (o:Int) (k:Int):Prop:=(labT l (wo t o)).getD (sA l k).toNat 0 ≠ (labT l (wo t o)).getD (sB l k).toNat 0
end Go.Proofs.Ytiejmoglooaalaa
end
section
open Go Go.HL
namespace Go.Proofs.Ytiejmoglooaalaa
def sw1 (p:Int) (s:List Int × Bool) (x:Int):List Int × Bool:=if s.2=false∧p < x then (s.1 ++ [p],true) else s
def swS (o p:Int) (s:List Int × Bool) (x:Int):List Int × Bool:=if x=o then sw1 p s x else ((sw1 p s x).1 ++ [x],(sw1 p s x).2)
def swF (o p:Int) (t:List Int):List Int × Bool:=t.foldl (swS o p) ([],false)
theorem swF_succ (o p:Int) (t:List Int) {i:Nat} (h:i < t.length):swF o p (t.take (i+1))=swS o p (swF o p (t.take i)) (t.getD i 0):=by
  rw [swF,take_snoc h,List.foldl_append]; rfl
theorem swp_len (o p:Int) (t:List Int):∀ i,i ≤ t.length → (swF o p (t.take i)).1.length ≤ 2 * i:=by
  intro i
  induction i with
  | zero=>intro _; simp [swF]
  | succ i ih =>
    intro hi
    have h:=ih (by omega)
    rw [swF_succ o p t (by omega),swS,sw1]
    split <;> split <;> simp <;> omega
end Go.Proofs.Ytiejmoglooaalaa
end
section
open Go Go.HL
namespace Go.Proofs.Ytiejmoglooaalaa
set_option linter.unusedSectionVars false
theorem tk_snoc (l:List St) (t:List Int) (k:Int):tkT l (t ++ [k])=if (labT l t).getD (sA l k).toNat 0 ≠ (labT l t).getD (sB l k).toNat 0 then tkT l t ++ [k] else tkT l t:=by
  have a:=tkT_succ l (t ++ [k]) (i:=t.length) (by simp)
  have g0:(t ++ [k]).getD t.length 0=k:=by simp [List.getD]
  rw [List.take_of_length_le (by simp),g0,List.take_left] at a
  exact a
theorem tk_le (l:List St) (t:List Int):(tkT l t).length ≤ t.length:=ksT_len l t
theorem mem_wo {t:List Int} {v x:Int}:x ∈ wo t v ↔ x ∈ t∧x ≠ v:=by simp [wo,List.mem_filter]
theorem wo_len {t:List Int} (hn:t.Nodup) {k:Int} (hk:k ∈ t):t.length=(wo t k).length+1:=by
  have:=filter_drop1 (p:=fun _=>true) (q:=fun x=>decide (x ≠ k)) hn hk rfl (fun y _ hy=>decide_eq_true hy) (by simp)
  rw [List.filter_eq_self.2 fun _ _=>rfl] at this
  exact this
section
variable {l:List St} (he:endB l=true) {t:List Int} (ht:∀ k ∈ t,0 ≤ k∧k < (l.length:Int)) (hn:t.Nodup) (hf:(tkT l t).length=t.length)
include he ht hn hf
theorem forest_sep {k:Int} (hk:k ∈ t):(tkT l (wo t k)).length+1=t.length∧joinsT l t k k:=by
  have hm:∀ x,x ∈ t ↔ x ∈ wo t k ++ [k]:=fun x=>by
    rw [List.mem_append,mem_wo,List.mem_singleton]
    by_cases c:x=k
    · subst c; simp [hk]
    · simp [c]
  have h1:=tk_len_same he ht hm
  rw [hf,tk_snoc] at h1
  have h2:=wo_len hn hk
  have h3:=tk_le l (wo t k)
  split at h1
  · rename_i c
    rw [List.length_append,List.length_singleton] at h1
    exact ⟨h1.symm,c⟩
  · omega
end
end Go.Proofs.Ytiejmoglooaalaa
end
section
open Go Go.HL
namespace Go.Proofs.Ytiejmoglooaalaa
set_option linter.unusedSectionVars false
theorem tree_nodup' (l:List St):(treeT l).Nodup:=by
  have:=tk_sublist l (ordT l) (ordT l).length (Nat.le_refl _)
  rw [List.take_length] at this
  exact this.nodup (ordT_nodup l)
theorem getD_notin' {l:List Int} (h:l.Nodup) {i:Nat} (hi:i < l.length):l.getD i 0 ∉ l.take i:=by
  intro c
  have h2:(l.take (i+1)).Nodup:=(List.take_sublist _ _).nodup h
  rw [take_snoc hi] at h2
  exact (List.nodup_append.1 h2).2.2 _ c _ (List.mem_singleton_self _) rfl
theorem tk_mono (l:List St) (t:List Int) {i:Nat}:∀ d,i+d ≤ t.length → ∀ x ∈ tkT l (t.take i),x ∈ tkT l (t.take (i+d)):=by
  intro d
  induction d with
  | zero=>intro _ x hx; exact hx
  | succ d ih =>
    intro h x hx
    have:=ih (by omega) x hx
    rw [show i+(d+1)=(i+d)+1 by omega,tkT_succ l t (by omega)]
    split
    · exact List.mem_append_left _ this
    · exact this
theorem tk_mono_all (l:List St) (t:List Int) {i:Nat} (hi:i ≤ t.length):∀ x ∈ tkT l (t.take i),x ∈ tkT l t:=fun x hx=>by
  have:=tk_mono l t (i:=i) (t.length - i) (by omega) x hx
  rwa [show i+(t.length - i)=t.length by omega,List.take_length] at this
theorem nodup_len:∀ {a b:List Int},a.Nodup → b.Nodup → (∀ x,x ∈ a ↔ x ∈ b) → a.length=b.length
  | [],b,_,_,h=>by
    have:b=[]:=List.eq_nil_iff_forall_not_mem.2 fun x hx=>by cases (h x).2 hx
    rw [this]
  | x :: a,b,ha,hb,h=>by
    obtain ⟨h1,h2⟩:=List.nodup_cons.1 ha
    have hx:x ∈ b:=(h x).1 (List.mem_cons_self ..)
    rw [wo_len hb hx,List.length_cons]
    refine congrArg (·+1) (nodup_len h2 (hb.sublist List.filter_sublist) fun y=>?_)
    rw [mem_wo]
    constructor
    · intro hy
      exact ⟨(h y).1 (List.mem_cons_of_mem _ hy),fun c=>h1 (c ▸ hy)⟩
    · intro ⟨hy,hne⟩
      exact (List.mem_cons.1 ((h y).2 hy)).resolve_left hne
theorem startT_asc (m:Nat):(startT m).Pairwise (· < ·):=List.pairwise_map.2 (List.Pairwise.imp (fun {a b} h=>by omega) (List.pairwise_lt_range (n:=m)))
theorem frT_asc (l:List St):(frT l).Pairwise (· < ·):=(startT_asc _).sublist List.filter_sublist
theorem asc_nodup {t:List Int} (h:t.Pairwise (· < ·)):t.Nodup:=List.Pairwise.imp (fun {a b} h c=>by omega) h
section
variable {n:Int} {l:List St} (hnet:netB n l=true) (hc:connB n l=true)
include hnet
theorem endB_net:endB l=true:=endN_B (netB_ends hnet).2.2.1 (by have:=(netB_ends hnet).1; omega)
theorem late {j:Int} (hj:0 ≤ j∧j < (l.length:Int)) (hjT:j ∉ treeT l) {p:Nat} (hp:p < (ordT l).length) (hpj:(ordT l).getD p 0=j):Cn l (tkT l ((ordT l).take p)) (sA l j) (sB l j):=by
  have he:=endB_net hnet
  have ho:∀ k ∈ ordT l,0 ≤ k∧k < (l.length:Int):=fun k hk=>ordT_mem.1 hk
  obtain ⟨ea,eb⟩:=ends he hj
  have hin:∀ k ∈ tkT l ((ordT l).take p),0 ≤ k∧k < (l.length:Int):=fun k hk=>tree_in (tk_mono_all l (ordT l) (by omega) k hk)
  refine (lb_iff he hin ea eb).1 ?_
  rw [lb,lb,(ks_tk (l:=l) (t:=ordT l) p (by omega)).1]
  by_cases c:(labT l ((ordT l).take p)).getD (sA l j).toNat 0=(labT l ((ordT l).take p)).getD (sB l j).toNat 0
  · exact c
  · exfalso
    refine hjT (tk_mono_all l (ordT l) (i:=p+1) (by omega) j ?_)
    rw [tkT_succ l (ordT l) hp,hpj,if_pos c]
    exact List.mem_append_right _ (List.mem_singleton_self _)
theorem pos_of {j:Int} (hj:0 ≤ j∧j < (l.length:Int)):∃ p,p < (ordT l).length∧(ordT l).getD p 0=j:=by
  obtain ⟨p,hp,he⟩:=List.getElem_of_mem (ordT_mem.2 hj)
  exact ⟨p,hp,by rw [getD_at hp]; exact he⟩
theorem exch_le {k j:Int} (hk:k ∈ treeT l) (hj:0 ≤ j∧j < (l.length:Int)) (hjT:j ∉ treeT l) (hJ:joinsT l (treeT l) k j):wOf l k ≤ wOf l j:=by
  have he:=endB_net hnet
  have hkr:=tree_in hk
  obtain ⟨p,hp,hpj⟩:=pos_of hnet hj
  obtain ⟨q,hq,hqk⟩:=pos_of hnet hkr
  have hs:=ordN_sorted l l.length
  have hs:(ordT l).Pairwise (ltK l):=hs
  have hne:p ≠ q:=fun c=>hjT (by rw [← hpj,c,hqk]; exact hk)
  rcases Nat.lt_or_gt_of_ne hne with c | c
  · exfalso
    have h1:=late hnet hj hjT hp hpj
    have hwin:∀ x ∈ wo (treeT l) k,0 ≤ x∧x < (l.length:Int):=fun x hx=>tree_in (mem_wo.1 hx).1
    refine hJ (cn_lb he hwin (h1.mono fun x hx=>mem_wo.2 ⟨tk_mono_all l (ordT l) (by omega) x hx,fun e=>?_⟩))
    have h2:x ∈ (ordT l).take p:=(by have:=tk_sublist l (ordT l) p (by omega); exact this.subset hx)
    obtain ⟨r,hr,hre⟩:=List.getElem_of_mem h2
    rw [List.length_take] at hr
    rw [List.getElem_take,e,← hqk,getD_at hq] at hre
    have:=(ordT_nodup l)
    have h3:=List.pairwise_iff_getElem.1 this r q (by omega) hq (by omega)
    exact h3 hre
  · have:=List.pairwise_iff_getElem.1 hs q p (by omega) (by omega) c
    rw [← getD_at (d:=0) hq,← getD_at (d:=0) hp,hqk,hpj] at this
    unfold ltK at this
    omega
end
section
variable {n:Int} {l:List St} (hnet:netB n l=true) (hc:connB n l=true)
include hnet
include hc
theorem tree_len:((treeT l).length:Int)=n - 1:=of_decide_eq_true hc
theorem tree_forest:(tkT l (treeT l)).length=(treeT l).length:=by rw [(lab_tree l).2]
end
end Go.Proofs.Ytiejmoglooaalaa
end
section
open Go Go.HL
namespace Go.Proofs.Ytiejmoglooaalaa
set_option linter.unusedSectionVars false
theorem tk_app_le (l:List St) (s:List Int):∀ r:List Int,(tkT l (s ++ r)).length ≤ (tkT l s).length+r.length:=by
  have key:∀ (m:Nat) (r:List Int),r.length=m → (tkT l (s ++ r)).length ≤ (tkT l s).length+m:=by
    intro m
    induction m with
    | zero=>intro r h; rw [List.length_eq_zero_iff.1 h,List.append_nil]; omega
    | succ m ih =>
      intro r h
      rcases List.eq_nil_or_concat r with e | ⟨r',x,e⟩
      · rw [e] at h; simp at h
      · subst e
        rw [List.concat_eq_append] at h ⊢
        rw [List.length_append,List.length_singleton] at h
        have:=ih r' (by omega)
        rw [← List.append_assoc,tk_snoc]
        split
        · rw [List.length_append,List.length_singleton]; omega
        · omega
  exact fun r=>key r.length r rfl
def loW (l:List St) (x:Int) (t:List Int):List Int:=t.filter fun k=>decide (wOf l k ≤ x)
def hiW (l:List St) (x:Int) (t:List Int):List Int:=t.filter fun k=>!decide (wOf l k ≤ x)
theorem lohi_mem {l:List St} {x:Int} {t:List Int} (y:Int):y ∈ t ↔ y ∈ loW l x t ++ hiW l x t:=by
  rw [List.mem_append,loW,hiW,List.mem_filter,List.mem_filter]
  cases decide (wOf l y ≤ x) <;> simp
theorem lohi_len (l:List St) (x:Int):∀ t:List Int,(loW l x t).length+(hiW l x t).length=t.length
  | []=>rfl
  | y :: t=>by
    have:=lohi_len l x t
    unfold loW hiW at *
    rw [List.filter_cons,List.filter_cons]
    cases decide (wOf l y ≤ x) <;> simp <;> omega
theorem lo_mem {l:List St} {x:Int} {t:List Int} {y:Int}:y ∈ loW l x t ↔ y ∈ t∧wOf l y ≤ x:=by rw [loW,List.mem_filter,decide_eq_true_eq]
section
variable {l:List St} (he:endB l=true)
include he
theorem rt_le {t t':List Int} (ht:∀ k ∈ t,0 ≤ k∧k < (l.length:Int)) (ht':∀ k ∈ t',0 ≤ k∧k < (l.length:Int)) (hs:∀ u v:Int,Cn l t u v → Cn l t' u v):rt (labT l t') ≤ rt (labT l t):=by
  unfold rt
  rw [← List.countP_eq_length_filter,← List.countP_eq_length_filter]
  refine List.countP_mono_left fun v hv h=>?_
  have hv:=List.mem_range.1 hv
  have h:lb l t' (v:Int)=(v:Int):=of_decide_eq_true h
  have hr:0 ≤ (v:Int)∧(v:Int) < 16:=by omega
  refine decide_eq_true (show lb l t (v:Int)=(v:Int) from ?_)
  have h1:=cn_lb he ht' (hs _ _ (lb_cn he ht hr))
  have h2:=lb_lo he ht' (lb_rng he ht hr)
  have h3:=lb_lo he ht hr
  omega
theorem rank_le {t t':List Int} (ht:∀ k ∈ t,0 ≤ k∧k < (l.length:Int)) (ht':∀ k ∈ t',0 ≤ k∧k < (l.length:Int)) (hs:∀ u v:Int,Cn l t u v → Cn l t' u v):(tkT l t).length ≤ (tkT l t').length:=by
  have:=rt_le he ht ht' hs
  have h1:=tk_rank he ht
  have h2:=tk_rank he ht'
  omega
theorem sub_forest {t s r:List Int} (ht:∀ k ∈ t,0 ≤ k∧k < (l.length:Int)) (hf:(tkT l t).length=t.length) (hm:∀ x,x ∈ t ↔ x ∈ s ++ r) (hl:s.length+r.length=t.length):(tkT l s).length=s.length:=by
  have h1:=tk_len_same he ht hm
  have h2:=tk_app_le l s r
  have h3:=tk_le l s
  omega
theorem first_way {t:List Int} (ht:∀ k ∈ t,0 ≤ k∧k < (l.length:Int)) (hn:t.Nodup) (hf:(tkT l t).length=t.length) {j:Int} (hj:0 ≤ j∧j < (l.length:Int)) (hab:sA l j ≠ sB l j) (h2:Cn l t (sA l j) (sB l j)) :
    ∃ m,m < t.length∧joinsT l t (t.getD m 0) j∧Cn l (t.take (m+1)) (sA l j) (sB l j):=by
  obtain ⟨ea,eb⟩:=ends he hj
  have htk:∀ i,∀ x ∈ t.take i,0 ≤ x∧x < (l.length:Int):=fun i x hx=>ht x (List.mem_of_mem_take hx)
  have key:∀ i,i ≤ t.length → lb l (t.take i) (sA l j)=lb l (t.take i) (sB l j) → ∃ m,m < i∧lb l (t.take m) (sA l j) ≠ lb l (t.take m) (sB l j)∧lb l (t.take (m+1)) (sA l j)=lb l (t.take (m+1)) (sB l j):=by
    intro i
    induction i with
    | zero =>
      intro _ h
      exfalso
      have e:∀ v:Int,0 ≤ v∧v < 16 → lb l (t.take 0) v=v:=fun v hv=>by
        show (startT 16).getD v.toNat 0=v
        have:v.toNat < 16:=by omega
        simp [startT,List.getD,this]; omega
      rw [e _ ea,e _ eb] at h
      exact hab h
    | succ i ih =>
      intro hi h
      by_cases c:lb l (t.take i) (sA l j)=lb l (t.take i) (sB l j)
      · obtain ⟨m,h1,h2,h3⟩:=ih (by omega) c
        exact ⟨m,by omega,h2,h3⟩
      · exact ⟨i,by omega,c,h⟩
  obtain ⟨m,hm,hne,heq⟩:=key t.length (Nat.le_refl _) (by rw [List.take_length]; exact cn_lb he ht h2)
  have hk:=mem_getD (l:=t) 0 hm
  refine ⟨m,hm,fun hsame=>?_,(lb_iff he (htk _) ea eb).1 heq⟩
  have hsame:lb l (wo t (t.getD m 0)) (sA l j)=lb l (wo t (t.getD m 0)) (sB l j):=hsame
  have hwin:∀ x ∈ wo t (t.getD m 0),0 ≤ x∧x < (l.length:Int):=fun x hx=>ht x (mem_wo.1 hx).1
  obtain ⟨ka,kb⟩:=ends he (ht _ hk)
  have hmono:∀ x ∈ t.take m,x ∈ wo t (t.getD m 0):=fun x hx=>mem_wo.2 ⟨List.mem_of_mem_take hx,fun c=>getD_notin' hn hm (c ▸ hx)⟩
  have cA:=(lb_cn he (htk m) ka).mono hmono
  have cB:=(lb_cn he (htk m) kb).mono hmono
  have ca:=(lb_cn he (htk m) ea).mono hmono
  have cb:=(lb_cn he (htk m) eb).mono hmono
  have cab:=(lb_iff he hwin ea eb).1 hsame
  rw [lb_succ he ht hm ea,lb_succ he ht hm eb] at heq
  have hK:Cn l (wo t (t.getD m 0)) (sA l (t.getD m 0)) (sB l (t.getD m 0)):=by
    generalize lb l (t.take m) (sA l j)=x at *
    generalize lb l (t.take m) (sB l j)=y at *
    generalize lb l (t.take m) (sA l (t.getD m 0))=A at *
    generalize lb l (t.take m) (sB l (t.getD m 0))=B at *
    have hxy:Cn l (wo t (t.getD m 0)) x y:=.trans ca (.trans cab (.symm cb))
    have hc:(x=A∧y=B) ∨ (x=B∧y=A):=by
      unfold labS at heq
      split at heq <;> split at heq <;> omega
    rcases hc with ⟨e1,e2⟩ | ⟨e1,e2⟩
    · rw [e1,e2] at hxy; exact .trans (.symm cA) (.trans hxy cB)
    · rw [e1,e2] at hxy; exact .trans (.symm cA) (.trans (.symm hxy) cB)
  exact (forest_sep he ht hn hf hk).2 (cn_lb he hwin hK)
end
structure Tr (n:Int) (l:List St) (t:List Int):Prop where
  rg:∀ k ∈ t,0 ≤ k∧k < (l.length:Int)
  nd:t.Nodup
  ln:(t.length:Int)=n - 1
  fo:(tkT l t).length=t.length
theorem cn_out {n:Int} {l:List St} (hE:∀ k,0 ≤ k∧k < (l.length:Int) → sA l k < n∧sB l k < n) {t:List Int} (ht:∀ k ∈ t,0 ≤ k∧k < (l.length:Int)) {u v:Int} (h:Cn l t u v):u=v ∨ (u < n∧v < n):=by
  induction h with
  | refl v=>exact .inl rfl
  | edge h=>exact .inr (hE _ (ht _ h))
  | symm _ ih=>omega
  | trans _ _ h1 h2=>omega
section
variable {n:Int} {l:List St} (hnet:netB n l=true)
include hnet
theorem ends_net {k:Int} (hk:0 ≤ k∧k < (l.length:Int)):(0 ≤ sA l k∧sA l k < n)∧(0 ≤ sB l k∧sB l k < n)∧sA l k ≠ sB l k:=by
  have h:=hnet
  simp only [netB,Bool.and_eq_true,List.all_eq_true,decide_eq_true_eq,stB] at h
  have:=h.1 _ (mem_getD (l:=l) (0,0,0) (show k.toNat < l.length by omega))
  exact ⟨by have:=this.1; exact this,by have:=this.2.1; exact this,this.2.2.1⟩
theorem rt_ge {t:List Int} (ht:∀ k ∈ t,0 ≤ k∧k < (l.length:Int)):17 - n ≤ (rt (labT l t):Int):=by
  have he:=endB_net hnet
  obtain ⟨⟨n1,n2⟩,_⟩:=netB_ends hnet
  have hE:∀ k,0 ≤ k∧k < (l.length:Int) → sA l k < n∧sB l k < n:=fun k hk=>by have:=ends_net hnet hk; omega
  have h1:((List.range 16).filter fun (v:Nat)=>decide (v=0 ∨ n ≤ (v:Int))).length ≤ rt (labT l t):=by
    unfold rt
    rw [← List.countP_eq_length_filter,← List.countP_eq_length_filter]
    refine List.countP_mono_left fun v hv h=>?_
    have hv:=List.mem_range.1 hv
    have h:=of_decide_eq_true h
    have hr:0 ≤ (v:Int)∧(v:Int) < 16:=by omega
    refine decide_eq_true (show lb l t (v:Int)=(v:Int) from ?_)
    have h2:=lb_lo he ht hr
    have h3:=cn_out hE ht (lb_cn he ht hr)
    omega
  have h2:∀ m:Nat,1 ≤ m∧m ≤ 16 → ((List.range 16).filter fun (v:Nat)=>decide (v=0 ∨ (m:Int) ≤ (v:Int))).length=17 - m:=by
    have:∀ m:Fin 17,1 ≤ m.val → ((List.range 16).filter fun (v:Nat)=>decide (v=0 ∨ (m.val:Int) ≤ (v:Int))).length=17 - m.val:=by decide +kernel
    exact fun m hm=>this ⟨m,by omega⟩ hm.1
  have h3:=h2 n.toNat (by omega)
  rw [show ((n.toNat:Nat):Int)=n by omega] at h3
  omega
theorem rank_lt {t:List Int} (ht:∀ k ∈ t,0 ≤ k∧k < (l.length:Int)):((tkT l t).length:Int) ≤ n - 1:=by
  have:=rt_ge hnet ht
  have:=tk_rank (endB_net hnet) ht
  omega
theorem Tr.con {t:List Int} (h:Tr n l t) {j:Int} (hj:0 ≤ j∧j < (l.length:Int)):Cn l t (sA l j) (sB l j):=by
  have he:=endB_net hnet
  obtain ⟨ea,eb⟩:=ends he hj
  refine (lb_iff he h.rg ea eb).1 ?_
  have h1:=tk_snoc l t j
  by_cases c:(labT l t).getD (sA l j).toNat 0=(labT l t).getD (sB l j).toNat 0
  · exact c
  · exfalso
    rw [if_pos c] at h1
    have h2:=rank_lt hnet (t:=t ++ [j]) (fun k hk=>(List.mem_append.1 hk).elim (h.rg k) fun e=>(List.mem_singleton.1 e) ▸ hj)
    rw [h1,List.length_append,List.length_singleton,h.fo] at h2
    have:=h.ln
    omega
def Loc (l:List St) (t:List Int):Prop:=∀ k ∈ t,∀ j,0 ≤ j∧j < (l.length:Int) → j ∉ t → joinsT l t k j → wOf l k ≤ wOf l j
theorem loc_way {t:List Int} (h:Tr n l t) (hL:Loc l t) {j:Int} (hj:0 ≤ j∧j < (l.length:Int)):Cn l (loW l (wOf l j) t) (sA l j) (sB l j):=by
  have he:=endB_net hnet
  by_cases hjt:j ∈ t
  · exact .edge (lo_mem.2 ⟨hjt,Int.le_refl _⟩)
  have hab:=(ends_net hnet hj).2.2
  have hm:=fun y=>lohi_mem (l:=l) (x:=wOf l j) (t:=t) y
  have hlen:=lohi_len l (wOf l j) t
  have hrg:∀ k ∈ loW l (wOf l j) t ++ hiW l (wOf l j) t,0 ≤ k∧k < (l.length:Int):=fun k hk=>h.rg k ((hm k).2 hk)
  have hf:(tkT l (loW l (wOf l j) t ++ hiW l (wOf l j) t)).length=(loW l (wOf l j) t ++ hiW l (wOf l j) t).length:=by
    rw [← tk_len_same he h.rg hm,h.fo,List.length_append,hlen]
  have hn:(loW l (wOf l j) t ++ hiW l (wOf l j) t).Nodup:=by
    refine List.nodup_append.2 ⟨h.nd.sublist List.filter_sublist,h.nd.sublist List.filter_sublist,fun a ha b hb e=>?_⟩
    subst e
    have h1:=(List.mem_filter.1 ha).2
    have h2:=(List.mem_filter.1 hb).2
    rw [h1] at h2
    cases h2
  obtain ⟨m,hm1,hm2,hm3⟩:=first_way he hrg hn hf hj hab ((Tr.con hnet h hj).mono fun k hk=>(hm k).1 hk)
  have hk:=mem_getD (l:=loW l (wOf l j) t ++ hiW l (wOf l j) t) 0 hm1
  have hkt:=(hm _).2 hk
  have hJ:joinsT l t ((loW l (wOf l j) t ++ hiW l (wOf l j) t).getD m 0) j:=by
    have:labT l (wo t ((loW l (wOf l j) t ++ hiW l (wOf l j) t).getD m 0))=labT l (wo (loW l (wOf l j) t ++ hiW l (wOf l j) t) ((loW l (wOf l j) t ++ hiW l (wOf l j) t).getD m 0)):=lab_same he (fun x hx=>h.rg x (mem_wo.1 hx).1) (fun x=>by rw [mem_wo,mem_wo,← hm])
    unfold joinsT
    rw [this]
    exact hm2
  have hw:=hL _ hkt j hj hjt hJ
  have hml:m < (loW l (wOf l j) t).length:=by
    rcases Nat.lt_or_ge m (loW l (wOf l j) t).length with c | c
    · exact c
    · exfalso
      rw [getD_at hm1,List.getElem_append_right c] at hw
      rw [List.length_append] at hm1
      have:((hiW l (wOf l j) t)[m - (loW l (wOf l j) t).length]'(by omega)) ∈ hiW l (wOf l j) t:=List.getElem_mem _
      have:=(List.mem_filter.1 this).2
      simp only [Bool.not_eq_true',decide_eq_false_iff_not] at this
      exact this hw
  refine hm3.mono fun k hk=>?_
  rw [List.take_append_of_le_length (by omega)] at hk
  exact List.mem_of_mem_take hk
theorem lo_rank {t:List Int} (h:Tr n l t) (x:Int):(loW l x t).length ≤ (tkT l (loW l x (startT l.length))).length:=by
  have he:=endB_net hnet
  have h1:=sub_forest he h.rg h.fo (fun y=>lohi_mem (l:=l) (x:=x) y) (lohi_len l x t)
  have h2:=rank_le he (t:=loW l x t) (t':=loW l x (startT l.length)) (fun k hk=>h.rg k (lo_mem.1 hk).1) (fun k hk=>startT_mem.1 (lo_mem.1 hk).1) (fun u v huv=>huv.mono fun k hk=>lo_mem.2 ⟨startT_mem.2 (h.rg k (lo_mem.1 hk).1),(lo_mem.1 hk).2⟩)
  omega
theorem lo_rank_loc {t:List Int} (h:Tr n l t) (hL:Loc l t) (x:Int):(loW l x t).length=(tkT l (loW l x (startT l.length))).length:=by
  have he:=endB_net hnet
  have h1:=sub_forest he h.rg h.fo (fun y=>lohi_mem (l:=l) (x:=x) y) (lohi_len l x t)
  have h2:=rank_le he (t:=loW l x (startT l.length)) (t':=loW l x t) (fun k hk=>startT_mem.1 (lo_mem.1 hk).1) (fun k hk=>h.rg k (lo_mem.1 hk).1) (fun u v huv=>by
    induction huv with
    | refl v=>exact .refl v
    | edge hk =>
      obtain ⟨h3,h4⟩:=lo_mem.1 hk
      refine (loc_way hnet h hL (startT_mem.1 h3)).mono fun y hy=>?_
      obtain ⟨h5,h6⟩:=lo_mem.1 hy
      exact lo_mem.2 ⟨h5,by omega⟩
    | symm _ ih=>exact .symm ih
    | trans _ _ a b=>exact .trans a b)
  have h3:=lo_rank hnet h x
  omega
end
def layS (l:List St) (t:List Int):Nat → Nat
  | 0=>0
  | m+1=>layS l t m+(hiW l (m:Int) t).length
theorem layS_nil (l:List St):∀ m,layS l [] m=0
  | 0=>rfl
  | m+1=>by rw [layS,layS_nil l m]; rfl
theorem layS_cons (l:List St) (k:Int) (t:List Int) (hk:0 ≤ wOf l k):∀ m:Nat,(layS l (k :: t) m:Int)=layS l t m+min (wOf l k) m
  | 0=>by rw [layS,layS]; omega
  | m+1=>by
    have:=layS_cons l k t hk m
    rw [layS,layS,hiW,List.filter_cons]
    by_cases c:wOf l k ≤ (m:Int)
    · rw [decide_eq_true c]
      simp only [Bool.not_true,Bool.false_eq_true,if_false]
      show ((layS l (k :: t) m+(hiW l (m:Int) t).length:Nat):Int)=_
      omega
    · rw [decide_eq_false c]
      simp only [Bool.not_false,if_true,List.length_cons]
      show ((layS l (k :: t) m+((hiW l (m:Int) t).length+1):Nat):Int)=_
      omega
theorem wgt_lay (l:List St) {M:Nat}:∀ t:List Int,(∀ k ∈ t,0 ≤ wOf l k∧wOf l k ≤ (M:Int)) → wgt l t=(layS l t M:Int)
  | [],_=>by rw [layS_nil]; rfl
  | k :: t,h=>by
    have h1:=h k (List.mem_cons_self ..)
    rw [layS_cons l k t h1.1,← wgt_lay l t fun y hy=>h y (List.mem_cons_of_mem _ hy)]
    show (((k :: t).map (wOf l)).sum)=(t.map (wOf l)).sum+_
    rw [List.map_cons,List.sum_cons]
    omega
theorem layS_mono {l:List St} {t s:List Int} (h:∀ m:Nat,(hiW l (m:Int) t).length ≤ (hiW l (m:Int) s).length):∀ m,layS l t m ≤ layS l s m
  | 0=>Nat.le_refl _
  | m+1=>Nat.add_le_add (layS_mono h m) (h m)
section
variable {n:Int} {l:List St} (hnet:netB n l=true)
include hnet
theorem w_rng {k:Int} (hk:0 ≤ k∧k < (l.length:Int)):0 ≤ wOf l k∧wOf l k ≤ 1000:=(netB_ends hnet).2.2.2 _ (mem_getD _ (by omega))
theorem loc_min {t s:List Int} (ht:Tr n l t) (hL:Loc l t) (hs:Tr n l s):wgt l t ≤ wgt l s:=by
  rw [wgt_lay l (M:=1000) t fun k hk=>w_rng hnet (ht.rg k hk),wgt_lay l (M:=1000) s fun k hk=>w_rng hnet (hs.rg k hk)]
  have:=layS_mono (l:=l) (t:=t) (s:=s) (fun m=>by
    have h1:=lo_rank_loc hnet ht hL (m:Int)
    have h2:=lo_rank hnet hs (m:Int)
    have h3:=lohi_len l (m:Int) t
    have h4:=lohi_len l (m:Int) s
    have:=ht.ln
    have:=hs.ln
    omega) 1000
  omega
theorem first_tr (hc:connB n l=true):Tr n l (treeT l):=⟨fun k hk=>tree_in hk,tree_nodup' l,tree_len hnet hc,tree_forest hnet hc⟩
theorem first_loc:Loc l (treeT l):=fun _ hk _ hj hjt hJ=>exch_le hnet hk hj hjt hJ
theorem conn_of {t:List Int} (h:Tr n l t):connB n l=true:=by
  have he:=endB_net hnet
  have h1:=rank_le he (t:=t) (t':=ordT l) h.rg (fun k hk=>ordT_mem.1 hk) (fun u v huv=>huv.mono fun k hk=>ordT_mem.2 (h.rg k hk))
  have h2:=rank_lt hnet (t:=ordT l) fun k hk=>ordT_mem.1 hk
  have:=h.fo
  have:=h.ln
  exact decide_eq_true (show ((tkT l (ordT l)).length:Int)=n - 1 by omega)
theorem first_min {s:List Int} (hs:Tr n l s):wgt l (treeT l) ≤ wgt l s:=loc_min hnet (first_tr hnet (conn_of hnet hs)) (first_loc hnet) hs
end
end Go.Proofs.Ytiejmoglooaalaa
end
section
open Go Go.HL
namespace Go.Proofs.Ytiejmoglooaalaa
set_option maxRecDepth 100000
open Go.Proofs.Try renaming prog → Tp
open Go.HL.HV renaming undef → Ud
section
variable {F:FuncId → Option (List HV → Option HV)}
noncomputable def B25:Code:=Try.f25.body.getD .skip
abbrev env25 (v0 v1 v2 v6 v7 v8 v9 v10:HV):Env:=[(0,v0),(1,v1),(2,v2),(6,v6),(7,v7),(8,v8),(9,v9),(10,v10)]
theorem ta_a_0 (ls:List HV) (n most:Int) :RunsTo Tp (plF F) 25 (sub [0] B25) [(0,.imm .arg 3 ls),(1,.i n),(2,.i most)] [] .normal ((plF F).keys 25) (env25 (.imm .arg 3 ls) (.i n) (.i most) (.imm .lit 3 []) Ud Ud Ud Ud) [] :=
  RunsTo.hin 0 60 [] fun kf hk=>⟨_,by kernel_rfl,.nil⟩
theorem ta_b_0 (ls:List HV) (n most:Int)  {y7 y8 y9 y10:HV}:RunsTo Tp (plF F) 25 (sub [1,0] B25) (env25 (.imm .arg 3 ls) (.i n) (.i most) (.imm .lit 3 []) y7 y8 y9 y10) [] .normal ((plF F).keys 25) (env25 (.imm .arg 3 ls) (.i n) (.i most) (.imm .lit 3 []) (.sl 0 0 0 none 0 3) y8 y9 y10) [.arr 3 [] true 0] :=
  RunsTo.hin 0 60 [] fun kf hk=>⟨_,by kernel_rfl,.nil⟩
theorem ta_c_0 (ls:List HV) (n most:Int)  (q:Nat) (os:List HV) {y8 y9 y10:HV}:RunsTo Tp (plF F) 25 (sub [1,1,0,0] B25) (env25 (.imm .arg 3 ls) (.i n) (.i most) (.imm .lit 3 []) (.sl 0 0 q none q 3) y8 y9 y10) [.arr 3 os true 0] .normal ((plF F).keys 25) (env25 (.imm .arg 3 ls) (.i n) (.i most) (.imm .lit 3 []) (.sl 0 0 q none q 3) (.i 0) y9 y10) [.arr 3 os true 0] :=
  RunsTo.hin 0 60 [] fun kf hk=>⟨_,by kernel_rfl,.nil⟩
theorem ta_l_0 (ls:List HV) (n most:Int)  (q:Nat) (os:List HV) (i:Nat) (a b w x y v:Int) {y9 y10:HV}(g0:(i:Int) < (ls.length:Int)) (g1:(i:Int) < most) (g2:idxV Tp 22 (.imm .arg 3 ls) (.i (i:Int))=some (.vptr (.agg [.i a,.i b,.i w]))) (g3:∀ kf,callN Tp (plF F) (kf+1) 24 [.i a,.i n] [.arr 3 os true 0]=some (.i x,[.arr 3 os true 0])) (g4:idxV Tp 22 (.imm .arg 3 ls) (.i (i:Int))=some (.vptr (.agg [.i a,.i b,.i w]))) (g5:∀ kf,callN Tp (plF F) (kf+1) 24 [.i b,.i n] [.arr 3 os true 0]=some (.i y,[.arr 3 os true 0])) (g6:idxV Tp 22 (.imm .arg 3 ls) (.i (i:Int))=some (.vptr (.agg [.i a,.i b,.i w]))) (gS5:∀ kf,((same (.i a) (.i a) && sameH ([.arr 3 os true 0]:Heap) [.arr 3 os true 0] && sameH ([.arr 3 os true 0,.arr 3 [.agg [.i 0,.i 0,.i 0]] true 0]:Heap) [.arr 3 os true 0,.arr 3 [.agg [.i 0,.i 0,.i 0]] true 0]) && (recL (callN Tp (plF F) (kf+1) 24 [.i a,.i n] [.arr 3 os true 0]) (callN Tp (plF F) (kf+1) 24 [.i a,.i n] [.arr 3 os true 0]) [.arr 3 os true 0] [.arr 3 os true 0] && (recL (callN Tp (plF F) (kf+1) 24 [.i a,.i n] [.arr 3 os true 0]) (callN Tp (plF F) (kf+1) 24 [.i a,.i n] [.arr 3 os true 0,.arr 3 [.agg [.i 0,.i 0,.i 0]] true 0]) [.arr 3 os true 0] [.arr 3 os true 0,.arr 3 [.agg [.i 0,.i 0,.i 0]] true 0] && ((same (.i b) (.i b) && sameH ([.arr 3 os true 0]:Heap) [.arr 3 os true 0] && sameH ([.arr 3 os true 0,.arr 3 [.agg [.i 0,.i 0,.i 0]] true 0]:Heap) [.arr 3 os true 0,.arr 3 [.agg [.i 0,.i 0,.i 0]] true 0]) && (recL (callN Tp (plF F) (kf+1) 24 [.i b,.i n] [.arr 3 os true 0]) (callN Tp (plF F) (kf+1) 24 [.i b,.i n] [.arr 3 os true 0]) [.arr 3 os true 0] [.arr 3 os true 0] && (recL (callN Tp (plF F) (kf+1) 24 [.i b,.i n] [.arr 3 os true 0]) (callN Tp (plF F) (kf+1) 24 [.i b,.i n] [.arr 3 os true 0,.arr 3 [.agg [.i 0,.i 0,.i 0]] true 0]) [.arr 3 os true 0] [.arr 3 os true 0,.arr 3 [.agg [.i 0,.i 0,.i 0]] true 0] && ((same (.i w) (.i w) && sameH ([.arr 3 os true 0]:Heap) [.arr 3 os true 0] && sameH ([.arr 3 os true 0,.arr 3 [.agg [.i 0,.i 0,.i 0]] true 0]:Heap) [.arr 3 os true 0,.arr 3 [.agg [.i 0,.i 0,.i 0]] true 0]) && true)))))))=true) (g8:w < 0) (g9:∀ kf,callN Tp (plF F) (kf+1) 24 [.i w,.i 1001] [.arr 3 os true 0,.arr 3 [.agg [.i x,.i y,.i w]] true 0]=some (.i v,[.arr 3 os true 0,.arr 3 [.agg [.i x,.i y,.i w]] true 0])) (g10:x=y):RunsTo Tp (plF F) 25 (sub [1,1,0,1,0,0] B25) (env25 (.imm .arg 3 ls) (.i n) (.i most) (.imm .lit 3 []) (.sl 0 0 q none q 3) (.i (i:Int)) y9 y10) [.arr 3 os true 0] .normal ((plF F).keys 25) (env25 (.imm .arg 3 ls) (.i n) (.i most) (.imm .lit 3 []) (.sl 0 0 q none q 3) (.i (IntKind.i64.wrap ((i:Int)+1))) (.ptr 1 0 0 1) y10) [.arr 3 os true 0,.arr 3 [.agg [.i x,.i y,.i v]] true 0] :=
  RunsTo.hin 0 60 [⟨3,3,.bool true,[.arr 3 os true 0]⟩,⟨3,7,.bool true,[.arr 3 os true 0]⟩,⟨5,2,.vptr (.agg [.i a,.i b,.i w]),[.arr 3 os true 0]⟩,⟨5,6,.i x,[.arr 3 os true 0]⟩,⟨5,9,.vptr (.agg [.i a,.i b,.i w]),[.arr 3 os true 0]⟩,⟨5,13,.i y,[.arr 3 os true 0]⟩,⟨5,16,.vptr (.agg [.i a,.i b,.i w]),[.arr 3 os true 0]⟩,⟨6,2,.bool true,[.arr 3 os true 0,.arr 3 [.agg [.i x,.i y,.i w]] true 0]⟩,⟨7,2,.i v,[.arr 3 os true 0,.arr 3 [.agg [.i x,.i y,.i w]] true 0]⟩,⟨8,4,.bool false,[.arr 3 os true 0,.arr 3 [.agg [.i x,.i y,.i v]] true 0]⟩] fun kf hk=>⟨_,by kernel_rfl,(oB [.arr 3 os true 0] (decide_eq_true g0) (oB [.arr 3 os true 0] (decide_eq_true g1) (oC (gS5 kf) (oP [.arr 3 os true 0] g2 (oC (g3 kf) (oP [.arr 3 os true 0] g4 (oC (g5 kf) (oP [.arr 3 os true 0] g6 (oB [.arr 3 os true 0,.arr 3 [.agg [.i x,.i y,.i w]] true 0] (decide_eq_true g8) (oC (g9 kf) (oB [.arr 3 os true 0,.arr 3 [.agg [.i x,.i y,.i v]] true 0] (congrArg not (decide_eq_true g10)) .nil)))))))))))⟩
theorem ta_l_1 (ls:List HV) (n most:Int)  (q:Nat) (os:List HV) (i:Nat) (a b w x y v:Int) {y9 y10:HV}(g0:(i:Int) < (ls.length:Int)) (g1:(i:Int) < most) (g2:idxV Tp 22 (.imm .arg 3 ls) (.i (i:Int))=some (.vptr (.agg [.i a,.i b,.i w]))) (g3:∀ kf,callN Tp (plF F) (kf+1) 24 [.i a,.i n] [.arr 3 os true 0]=some (.i x,[.arr 3 os true 0])) (g4:idxV Tp 22 (.imm .arg 3 ls) (.i (i:Int))=some (.vptr (.agg [.i a,.i b,.i w]))) (g5:∀ kf,callN Tp (plF F) (kf+1) 24 [.i b,.i n] [.arr 3 os true 0]=some (.i y,[.arr 3 os true 0])) (g6:idxV Tp 22 (.imm .arg 3 ls) (.i (i:Int))=some (.vptr (.agg [.i a,.i b,.i w]))) (gS5:∀ kf,((same (.i a) (.i a) && sameH ([.arr 3 os true 0]:Heap) [.arr 3 os true 0] && sameH ([.arr 3 os true 0,.arr 3 [.agg [.i 0,.i 0,.i 0]] true 0]:Heap) [.arr 3 os true 0,.arr 3 [.agg [.i 0,.i 0,.i 0]] true 0]) && (recL (callN Tp (plF F) (kf+1) 24 [.i a,.i n] [.arr 3 os true 0]) (callN Tp (plF F) (kf+1) 24 [.i a,.i n] [.arr 3 os true 0]) [.arr 3 os true 0] [.arr 3 os true 0] && (recL (callN Tp (plF F) (kf+1) 24 [.i a,.i n] [.arr 3 os true 0]) (callN Tp (plF F) (kf+1) 24 [.i a,.i n] [.arr 3 os true 0,.arr 3 [.agg [.i 0,.i 0,.i 0]] true 0]) [.arr 3 os true 0] [.arr 3 os true 0,.arr 3 [.agg [.i 0,.i 0,.i 0]] true 0] && ((same (.i b) (.i b) && sameH ([.arr 3 os true 0]:Heap) [.arr 3 os true 0] && sameH ([.arr 3 os true 0,.arr 3 [.agg [.i 0,.i 0,.i 0]] true 0]:Heap) [.arr 3 os true 0,.arr 3 [.agg [.i 0,.i 0,.i 0]] true 0]) && (recL (callN Tp (plF F) (kf+1) 24 [.i b,.i n] [.arr 3 os true 0]) (callN Tp (plF F) (kf+1) 24 [.i b,.i n] [.arr 3 os true 0]) [.arr 3 os true 0] [.arr 3 os true 0] && (recL (callN Tp (plF F) (kf+1) 24 [.i b,.i n] [.arr 3 os true 0]) (callN Tp (plF F) (kf+1) 24 [.i b,.i n] [.arr 3 os true 0,.arr 3 [.agg [.i 0,.i 0,.i 0]] true 0]) [.arr 3 os true 0] [.arr 3 os true 0,.arr 3 [.agg [.i 0,.i 0,.i 0]] true 0] && ((same (.i w) (.i w) && sameH ([.arr 3 os true 0]:Heap) [.arr 3 os true 0] && sameH ([.arr 3 os true 0,.arr 3 [.agg [.i 0,.i 0,.i 0]] true 0]:Heap) [.arr 3 os true 0,.arr 3 [.agg [.i 0,.i 0,.i 0]] true 0]) && true)))))))=true) (g8:w < 0) (g9:∀ kf,callN Tp (plF F) (kf+1) 24 [.i w,.i 1001] [.arr 3 os true 0,.arr 3 [.agg [.i x,.i y,.i w]] true 0]=some (.i v,[.arr 3 os true 0,.arr 3 [.agg [.i x,.i y,.i w]] true 0])) (g10:¬ (x=y)) (g11:appV [.arr 3 os true 0,.arr 3 [.agg [.i x,.i y,.i v]] true 0] 3 24 (.sl 0 0 q none q 3) [.agg [.i x,.i y,.i v]]=some (.sl 0 0 (q+1) none (q+1) 3,[.arr 3 (os ++ [.agg [.i x,.i y,.i v]]) true 0,.arr 3 [.agg [.i x,.i y,.i v]] true 0])):RunsTo Tp (plF F) 25 (sub [1,1,0,1,0,0] B25) (env25 (.imm .arg 3 ls) (.i n) (.i most) (.imm .lit 3 []) (.sl 0 0 q none q 3) (.i (i:Int)) y9 y10) [.arr 3 os true 0] .normal ((plF F).keys 25) (env25 (.imm .arg 3 ls) (.i n) (.i most) (.imm .lit 3 []) (.sl 0 0 (q+1) none (q+1) 3) (.i (IntKind.i64.wrap ((i:Int)+1))) (.ptr 1 0 0 1) y10) [.arr 3 (os ++ [.agg [.i x,.i y,.i v]]) true 0,.arr 3 [.agg [.i x,.i y,.i v]] true 0] :=
  RunsTo.hin 0 60 [⟨3,3,.bool true,[.arr 3 os true 0]⟩,⟨3,7,.bool true,[.arr 3 os true 0]⟩,⟨5,2,.vptr (.agg [.i a,.i b,.i w]),[.arr 3 os true 0]⟩,⟨5,6,.i x,[.arr 3 os true 0]⟩,⟨5,9,.vptr (.agg [.i a,.i b,.i w]),[.arr 3 os true 0]⟩,⟨5,13,.i y,[.arr 3 os true 0]⟩,⟨5,16,.vptr (.agg [.i a,.i b,.i w]),[.arr 3 os true 0]⟩,⟨6,2,.bool true,[.arr 3 os true 0,.arr 3 [.agg [.i x,.i y,.i w]] true 0]⟩,⟨7,2,.i v,[.arr 3 os true 0,.arr 3 [.agg [.i x,.i y,.i w]] true 0]⟩,⟨8,4,.bool true,[.arr 3 os true 0,.arr 3 [.agg [.i x,.i y,.i v]] true 0]⟩,⟨9,3,.sl 0 0 (q+1) none (q+1) 3,[.arr 3 (os ++ [.agg [.i x,.i y,.i v]]) true 0,.arr 3 [.agg [.i x,.i y,.i v]] true 0]⟩] fun kf hk=>⟨_,by kernel_rfl,(oB [.arr 3 os true 0] (decide_eq_true g0) (oB [.arr 3 os true 0] (decide_eq_true g1) (oC (gS5 kf) (oP [.arr 3 os true 0] g2 (oC (g3 kf) (oP [.arr 3 os true 0] g4 (oC (g5 kf) (oP [.arr 3 os true 0] g6 (oB [.arr 3 os true 0,.arr 3 [.agg [.i x,.i y,.i w]] true 0] (decide_eq_true g8) (oC (g9 kf) (oB [.arr 3 os true 0,.arr 3 [.agg [.i x,.i y,.i v]] true 0] (congrArg not (decide_eq_false g10)) (oC (g11) .nil))))))))))))⟩
theorem ta_l_2 (ls:List HV) (n most:Int)  (q:Nat) (os:List HV) (i:Nat) (a b w x y v:Int) {y9 y10:HV}(g0:(i:Int) < (ls.length:Int)) (g1:(i:Int) < most) (g2:idxV Tp 22 (.imm .arg 3 ls) (.i (i:Int))=some (.vptr (.agg [.i a,.i b,.i w]))) (g3:∀ kf,callN Tp (plF F) (kf+1) 24 [.i a,.i n] [.arr 3 os true 0]=some (.i x,[.arr 3 os true 0])) (g4:idxV Tp 22 (.imm .arg 3 ls) (.i (i:Int))=some (.vptr (.agg [.i a,.i b,.i w]))) (g5:∀ kf,callN Tp (plF F) (kf+1) 24 [.i b,.i n] [.arr 3 os true 0]=some (.i y,[.arr 3 os true 0])) (g6:idxV Tp 22 (.imm .arg 3 ls) (.i (i:Int))=some (.vptr (.agg [.i a,.i b,.i w]))) (gS5:∀ kf,((same (.i a) (.i a) && sameH ([.arr 3 os true 0]:Heap) [.arr 3 os true 0] && sameH ([.arr 3 os true 0,.arr 3 [.agg [.i 0,.i 0,.i 0]] true 0]:Heap) [.arr 3 os true 0,.arr 3 [.agg [.i 0,.i 0,.i 0]] true 0]) && (recL (callN Tp (plF F) (kf+1) 24 [.i a,.i n] [.arr 3 os true 0]) (callN Tp (plF F) (kf+1) 24 [.i a,.i n] [.arr 3 os true 0]) [.arr 3 os true 0] [.arr 3 os true 0] && (recL (callN Tp (plF F) (kf+1) 24 [.i a,.i n] [.arr 3 os true 0]) (callN Tp (plF F) (kf+1) 24 [.i a,.i n] [.arr 3 os true 0,.arr 3 [.agg [.i 0,.i 0,.i 0]] true 0]) [.arr 3 os true 0] [.arr 3 os true 0,.arr 3 [.agg [.i 0,.i 0,.i 0]] true 0] && ((same (.i b) (.i b) && sameH ([.arr 3 os true 0]:Heap) [.arr 3 os true 0] && sameH ([.arr 3 os true 0,.arr 3 [.agg [.i 0,.i 0,.i 0]] true 0]:Heap) [.arr 3 os true 0,.arr 3 [.agg [.i 0,.i 0,.i 0]] true 0]) && (recL (callN Tp (plF F) (kf+1) 24 [.i b,.i n] [.arr 3 os true 0]) (callN Tp (plF F) (kf+1) 24 [.i b,.i n] [.arr 3 os true 0]) [.arr 3 os true 0] [.arr 3 os true 0] && (recL (callN Tp (plF F) (kf+1) 24 [.i b,.i n] [.arr 3 os true 0]) (callN Tp (plF F) (kf+1) 24 [.i b,.i n] [.arr 3 os true 0,.arr 3 [.agg [.i 0,.i 0,.i 0]] true 0]) [.arr 3 os true 0] [.arr 3 os true 0,.arr 3 [.agg [.i 0,.i 0,.i 0]] true 0] && ((same (.i w) (.i w) && sameH ([.arr 3 os true 0]:Heap) [.arr 3 os true 0] && sameH ([.arr 3 os true 0,.arr 3 [.agg [.i 0,.i 0,.i 0]] true 0]:Heap) [.arr 3 os true 0,.arr 3 [.agg [.i 0,.i 0,.i 0]] true 0]) && true)))))))=true) (g8:¬ (w < 0)) (g9:1000 < w) (g10:∀ kf,callN Tp (plF F) (kf+1) 24 [.i w,.i 1001] [.arr 3 os true 0,.arr 3 [.agg [.i x,.i y,.i w]] true 0]=some (.i v,[.arr 3 os true 0,.arr 3 [.agg [.i x,.i y,.i w]] true 0])) (g11:x=y):RunsTo Tp (plF F) 25 (sub [1,1,0,1,0,0] B25) (env25 (.imm .arg 3 ls) (.i n) (.i most) (.imm .lit 3 []) (.sl 0 0 q none q 3) (.i (i:Int)) y9 y10) [.arr 3 os true 0] .normal ((plF F).keys 25) (env25 (.imm .arg 3 ls) (.i n) (.i most) (.imm .lit 3 []) (.sl 0 0 q none q 3) (.i (IntKind.i64.wrap ((i:Int)+1))) (.ptr 1 0 0 1) y10) [.arr 3 os true 0,.arr 3 [.agg [.i x,.i y,.i v]] true 0] :=
  RunsTo.hin 0 60 [⟨3,3,.bool true,[.arr 3 os true 0]⟩,⟨3,7,.bool true,[.arr 3 os true 0]⟩,⟨5,2,.vptr (.agg [.i a,.i b,.i w]),[.arr 3 os true 0]⟩,⟨5,6,.i x,[.arr 3 os true 0]⟩,⟨5,9,.vptr (.agg [.i a,.i b,.i w]),[.arr 3 os true 0]⟩,⟨5,13,.i y,[.arr 3 os true 0]⟩,⟨5,16,.vptr (.agg [.i a,.i b,.i w]),[.arr 3 os true 0]⟩,⟨6,2,.bool false,[.arr 3 os true 0,.arr 3 [.agg [.i x,.i y,.i w]] true 0]⟩,⟨6,6,.bool true,[.arr 3 os true 0,.arr 3 [.agg [.i x,.i y,.i w]] true 0]⟩,⟨7,2,.i v,[.arr 3 os true 0,.arr 3 [.agg [.i x,.i y,.i w]] true 0]⟩,⟨8,4,.bool false,[.arr 3 os true 0,.arr 3 [.agg [.i x,.i y,.i v]] true 0]⟩] fun kf hk=>⟨_,by kernel_rfl,(oB [.arr 3 os true 0] (decide_eq_true g0) (oB [.arr 3 os true 0] (decide_eq_true g1) (oC (gS5 kf) (oP [.arr 3 os true 0] g2 (oC (g3 kf) (oP [.arr 3 os true 0] g4 (oC (g5 kf) (oP [.arr 3 os true 0] g6 (oB [.arr 3 os true 0,.arr 3 [.agg [.i x,.i y,.i w]] true 0] (decide_eq_false g8) (oB [.arr 3 os true 0,.arr 3 [.agg [.i x,.i y,.i w]] true 0] (decide_eq_true g9) (oC (g10 kf) (oB [.arr 3 os true 0,.arr 3 [.agg [.i x,.i y,.i v]] true 0] (congrArg not (decide_eq_true g11)) .nil))))))))))))⟩
theorem ta_l_3 (ls:List HV) (n most:Int)  (q:Nat) (os:List HV) (i:Nat) (a b w x y v:Int) {y9 y10:HV}(g0:(i:Int) < (ls.length:Int)) (g1:(i:Int) < most) (g2:idxV Tp 22 (.imm .arg 3 ls) (.i (i:Int))=some (.vptr (.agg [.i a,.i b,.i w]))) (g3:∀ kf,callN Tp (plF F) (kf+1) 24 [.i a,.i n] [.arr 3 os true 0]=some (.i x,[.arr 3 os true 0])) (g4:idxV Tp 22 (.imm .arg 3 ls) (.i (i:Int))=some (.vptr (.agg [.i a,.i b,.i w]))) (g5:∀ kf,callN Tp (plF F) (kf+1) 24 [.i b,.i n] [.arr 3 os true 0]=some (.i y,[.arr 3 os true 0])) (g6:idxV Tp 22 (.imm .arg 3 ls) (.i (i:Int))=some (.vptr (.agg [.i a,.i b,.i w]))) (gS5:∀ kf,((same (.i a) (.i a) && sameH ([.arr 3 os true 0]:Heap) [.arr 3 os true 0] && sameH ([.arr 3 os true 0,.arr 3 [.agg [.i 0,.i 0,.i 0]] true 0]:Heap) [.arr 3 os true 0,.arr 3 [.agg [.i 0,.i 0,.i 0]] true 0]) && (recL (callN Tp (plF F) (kf+1) 24 [.i a,.i n] [.arr 3 os true 0]) (callN Tp (plF F) (kf+1) 24 [.i a,.i n] [.arr 3 os true 0]) [.arr 3 os true 0] [.arr 3 os true 0] && (recL (callN Tp (plF F) (kf+1) 24 [.i a,.i n] [.arr 3 os true 0]) (callN Tp (plF F) (kf+1) 24 [.i a,.i n] [.arr 3 os true 0,.arr 3 [.agg [.i 0,.i 0,.i 0]] true 0]) [.arr 3 os true 0] [.arr 3 os true 0,.arr 3 [.agg [.i 0,.i 0,.i 0]] true 0] && ((same (.i b) (.i b) && sameH ([.arr 3 os true 0]:Heap) [.arr 3 os true 0] && sameH ([.arr 3 os true 0,.arr 3 [.agg [.i 0,.i 0,.i 0]] true 0]:Heap) [.arr 3 os true 0,.arr 3 [.agg [.i 0,.i 0,.i 0]] true 0]) && (recL (callN Tp (plF F) (kf+1) 24 [.i b,.i n] [.arr 3 os true 0]) (callN Tp (plF F) (kf+1) 24 [.i b,.i n] [.arr 3 os true 0]) [.arr 3 os true 0] [.arr 3 os true 0] && (recL (callN Tp (plF F) (kf+1) 24 [.i b,.i n] [.arr 3 os true 0]) (callN Tp (plF F) (kf+1) 24 [.i b,.i n] [.arr 3 os true 0,.arr 3 [.agg [.i 0,.i 0,.i 0]] true 0]) [.arr 3 os true 0] [.arr 3 os true 0,.arr 3 [.agg [.i 0,.i 0,.i 0]] true 0] && ((same (.i w) (.i w) && sameH ([.arr 3 os true 0]:Heap) [.arr 3 os true 0] && sameH ([.arr 3 os true 0,.arr 3 [.agg [.i 0,.i 0,.i 0]] true 0]:Heap) [.arr 3 os true 0,.arr 3 [.agg [.i 0,.i 0,.i 0]] true 0]) && true)))))))=true) (g8:¬ (w < 0)) (g9:1000 < w) (g10:∀ kf,callN Tp (plF F) (kf+1) 24 [.i w,.i 1001] [.arr 3 os true 0,.arr 3 [.agg [.i x,.i y,.i w]] true 0]=some (.i v,[.arr 3 os true 0,.arr 3 [.agg [.i x,.i y,.i w]] true 0])) (g11:¬ (x=y)) (g12:appV [.arr 3 os true 0,.arr 3 [.agg [.i x,.i y,.i v]] true 0] 3 24 (.sl 0 0 q none q 3) [.agg [.i x,.i y,.i v]]=some (.sl 0 0 (q+1) none (q+1) 3,[.arr 3 (os ++ [.agg [.i x,.i y,.i v]]) true 0,.arr 3 [.agg [.i x,.i y,.i v]] true 0])):RunsTo Tp (plF F) 25 (sub [1,1,0,1,0,0] B25) (env25 (.imm .arg 3 ls) (.i n) (.i most) (.imm .lit 3 []) (.sl 0 0 q none q 3) (.i (i:Int)) y9 y10) [.arr 3 os true 0] .normal ((plF F).keys 25) (env25 (.imm .arg 3 ls) (.i n) (.i most) (.imm .lit 3 []) (.sl 0 0 (q+1) none (q+1) 3) (.i (IntKind.i64.wrap ((i:Int)+1))) (.ptr 1 0 0 1) y10) [.arr 3 (os ++ [.agg [.i x,.i y,.i v]]) true 0,.arr 3 [.agg [.i x,.i y,.i v]] true 0] :=
  RunsTo.hin 0 60 [⟨3,3,.bool true,[.arr 3 os true 0]⟩,⟨3,7,.bool true,[.arr 3 os true 0]⟩,⟨5,2,.vptr (.agg [.i a,.i b,.i w]),[.arr 3 os true 0]⟩,⟨5,6,.i x,[.arr 3 os true 0]⟩,⟨5,9,.vptr (.agg [.i a,.i b,.i w]),[.arr 3 os true 0]⟩,⟨5,13,.i y,[.arr 3 os true 0]⟩,⟨5,16,.vptr (.agg [.i a,.i b,.i w]),[.arr 3 os true 0]⟩,⟨6,2,.bool false,[.arr 3 os true 0,.arr 3 [.agg [.i x,.i y,.i w]] true 0]⟩,⟨6,6,.bool true,[.arr 3 os true 0,.arr 3 [.agg [.i x,.i y,.i w]] true 0]⟩,⟨7,2,.i v,[.arr 3 os true 0,.arr 3 [.agg [.i x,.i y,.i w]] true 0]⟩,⟨8,4,.bool true,[.arr 3 os true 0,.arr 3 [.agg [.i x,.i y,.i v]] true 0]⟩,⟨9,3,.sl 0 0 (q+1) none (q+1) 3,[.arr 3 (os ++ [.agg [.i x,.i y,.i v]]) true 0,.arr 3 [.agg [.i x,.i y,.i v]] true 0]⟩] fun kf hk=>⟨_,by kernel_rfl,(oB [.arr 3 os true 0] (decide_eq_true g0) (oB [.arr 3 os true 0] (decide_eq_true g1) (oC (gS5 kf) (oP [.arr 3 os true 0] g2 (oC (g3 kf) (oP [.arr 3 os true 0] g4 (oC (g5 kf) (oP [.arr 3 os true 0] g6 (oB [.arr 3 os true 0,.arr 3 [.agg [.i x,.i y,.i w]] true 0] (decide_eq_false g8) (oB [.arr 3 os true 0,.arr 3 [.agg [.i x,.i y,.i w]] true 0] (decide_eq_true g9) (oC (g10 kf) (oB [.arr 3 os true 0,.arr 3 [.agg [.i x,.i y,.i v]] true 0] (congrArg not (decide_eq_false g11)) (oC (g12) .nil)))))))))))))⟩
theorem ta_l_4 (ls:List HV) (n most:Int)  (q:Nat) (os:List HV) (i:Nat) (a b w x y v:Int) {y9 y10:HV}(g0:(i:Int) < (ls.length:Int)) (g1:(i:Int) < most) (g2:idxV Tp 22 (.imm .arg 3 ls) (.i (i:Int))=some (.vptr (.agg [.i a,.i b,.i w]))) (g3:∀ kf,callN Tp (plF F) (kf+1) 24 [.i a,.i n] [.arr 3 os true 0]=some (.i x,[.arr 3 os true 0])) (g4:idxV Tp 22 (.imm .arg 3 ls) (.i (i:Int))=some (.vptr (.agg [.i a,.i b,.i w]))) (g5:∀ kf,callN Tp (plF F) (kf+1) 24 [.i b,.i n] [.arr 3 os true 0]=some (.i y,[.arr 3 os true 0])) (g6:idxV Tp 22 (.imm .arg 3 ls) (.i (i:Int))=some (.vptr (.agg [.i a,.i b,.i w]))) (gS5:∀ kf,((same (.i a) (.i a) && sameH ([.arr 3 os true 0]:Heap) [.arr 3 os true 0] && sameH ([.arr 3 os true 0,.arr 3 [.agg [.i 0,.i 0,.i 0]] true 0]:Heap) [.arr 3 os true 0,.arr 3 [.agg [.i 0,.i 0,.i 0]] true 0]) && (recL (callN Tp (plF F) (kf+1) 24 [.i a,.i n] [.arr 3 os true 0]) (callN Tp (plF F) (kf+1) 24 [.i a,.i n] [.arr 3 os true 0]) [.arr 3 os true 0] [.arr 3 os true 0] && (recL (callN Tp (plF F) (kf+1) 24 [.i a,.i n] [.arr 3 os true 0]) (callN Tp (plF F) (kf+1) 24 [.i a,.i n] [.arr 3 os true 0,.arr 3 [.agg [.i 0,.i 0,.i 0]] true 0]) [.arr 3 os true 0] [.arr 3 os true 0,.arr 3 [.agg [.i 0,.i 0,.i 0]] true 0] && ((same (.i b) (.i b) && sameH ([.arr 3 os true 0]:Heap) [.arr 3 os true 0] && sameH ([.arr 3 os true 0,.arr 3 [.agg [.i 0,.i 0,.i 0]] true 0]:Heap) [.arr 3 os true 0,.arr 3 [.agg [.i 0,.i 0,.i 0]] true 0]) && (recL (callN Tp (plF F) (kf+1) 24 [.i b,.i n] [.arr 3 os true 0]) (callN Tp (plF F) (kf+1) 24 [.i b,.i n] [.arr 3 os true 0]) [.arr 3 os true 0] [.arr 3 os true 0] && (recL (callN Tp (plF F) (kf+1) 24 [.i b,.i n] [.arr 3 os true 0]) (callN Tp (plF F) (kf+1) 24 [.i b,.i n] [.arr 3 os true 0,.arr 3 [.agg [.i 0,.i 0,.i 0]] true 0]) [.arr 3 os true 0] [.arr 3 os true 0,.arr 3 [.agg [.i 0,.i 0,.i 0]] true 0] && ((same (.i w) (.i w) && sameH ([.arr 3 os true 0]:Heap) [.arr 3 os true 0] && sameH ([.arr 3 os true 0,.arr 3 [.agg [.i 0,.i 0,.i 0]] true 0]:Heap) [.arr 3 os true 0,.arr 3 [.agg [.i 0,.i 0,.i 0]] true 0]) && true)))))))=true) (g8:¬ (w < 0)) (g9:¬ (1000 < w)) (g10:x=y):RunsTo Tp (plF F) 25 (sub [1,1,0,1,0,0] B25) (env25 (.imm .arg 3 ls) (.i n) (.i most) (.imm .lit 3 []) (.sl 0 0 q none q 3) (.i (i:Int)) y9 y10) [.arr 3 os true 0] .normal ((plF F).keys 25) (env25 (.imm .arg 3 ls) (.i n) (.i most) (.imm .lit 3 []) (.sl 0 0 q none q 3) (.i (IntKind.i64.wrap ((i:Int)+1))) (.ptr 1 0 0 1) y10) [.arr 3 os true 0,.arr 3 [.agg [.i x,.i y,.i w]] true 0] :=
  RunsTo.hin 0 60 [⟨3,3,.bool true,[.arr 3 os true 0]⟩,⟨3,7,.bool true,[.arr 3 os true 0]⟩,⟨5,2,.vptr (.agg [.i a,.i b,.i w]),[.arr 3 os true 0]⟩,⟨5,6,.i x,[.arr 3 os true 0]⟩,⟨5,9,.vptr (.agg [.i a,.i b,.i w]),[.arr 3 os true 0]⟩,⟨5,13,.i y,[.arr 3 os true 0]⟩,⟨5,16,.vptr (.agg [.i a,.i b,.i w]),[.arr 3 os true 0]⟩,⟨6,2,.bool false,[.arr 3 os true 0,.arr 3 [.agg [.i x,.i y,.i w]] true 0]⟩,⟨6,6,.bool false,[.arr 3 os true 0,.arr 3 [.agg [.i x,.i y,.i w]] true 0]⟩,⟨8,4,.bool false,[.arr 3 os true 0,.arr 3 [.agg [.i x,.i y,.i w]] true 0]⟩] fun kf hk=>⟨_,by kernel_rfl,(oB [.arr 3 os true 0] (decide_eq_true g0) (oB [.arr 3 os true 0] (decide_eq_true g1) (oC (gS5 kf) (oP [.arr 3 os true 0] g2 (oC (g3 kf) (oP [.arr 3 os true 0] g4 (oC (g5 kf) (oP [.arr 3 os true 0] g6 (oB [.arr 3 os true 0,.arr 3 [.agg [.i x,.i y,.i w]] true 0] (decide_eq_false g8) (oB [.arr 3 os true 0,.arr 3 [.agg [.i x,.i y,.i w]] true 0] (decide_eq_false g9) (oB [.arr 3 os true 0,.arr 3 [.agg [.i x,.i y,.i w]] true 0] (congrArg not (decide_eq_true g10)) .nil)))))))))))⟩
theorem ta_l_5 (ls:List HV) (n most:Int)  (q:Nat) (os:List HV) (i:Nat) (a b w x y v:Int) {y9 y10:HV}(g0:(i:Int) < (ls.length:Int)) (g1:(i:Int) < most) (g2:idxV Tp 22 (.imm .arg 3 ls) (.i (i:Int))=some (.vptr (.agg [.i a,.i b,.i w]))) (g3:∀ kf,callN Tp (plF F) (kf+1) 24 [.i a,.i n] [.arr 3 os true 0]=some (.i x,[.arr 3 os true 0])) (g4:idxV Tp 22 (.imm .arg 3 ls) (.i (i:Int))=some (.vptr (.agg [.i a,.i b,.i w]))) (g5:∀ kf,callN Tp (plF F) (kf+1) 24 [.i b,.i n] [.arr 3 os true 0]=some (.i y,[.arr 3 os true 0])) (g6:idxV Tp 22 (.imm .arg 3 ls) (.i (i:Int))=some (.vptr (.agg [.i a,.i b,.i w]))) (gS5:∀ kf,((same (.i a) (.i a) && sameH ([.arr 3 os true 0]:Heap) [.arr 3 os true 0] && sameH ([.arr 3 os true 0,.arr 3 [.agg [.i 0,.i 0,.i 0]] true 0]:Heap) [.arr 3 os true 0,.arr 3 [.agg [.i 0,.i 0,.i 0]] true 0]) && (recL (callN Tp (plF F) (kf+1) 24 [.i a,.i n] [.arr 3 os true 0]) (callN Tp (plF F) (kf+1) 24 [.i a,.i n] [.arr 3 os true 0]) [.arr 3 os true 0] [.arr 3 os true 0] && (recL (callN Tp (plF F) (kf+1) 24 [.i a,.i n] [.arr 3 os true 0]) (callN Tp (plF F) (kf+1) 24 [.i a,.i n] [.arr 3 os true 0,.arr 3 [.agg [.i 0,.i 0,.i 0]] true 0]) [.arr 3 os true 0] [.arr 3 os true 0,.arr 3 [.agg [.i 0,.i 0,.i 0]] true 0] && ((same (.i b) (.i b) && sameH ([.arr 3 os true 0]:Heap) [.arr 3 os true 0] && sameH ([.arr 3 os true 0,.arr 3 [.agg [.i 0,.i 0,.i 0]] true 0]:Heap) [.arr 3 os true 0,.arr 3 [.agg [.i 0,.i 0,.i 0]] true 0]) && (recL (callN Tp (plF F) (kf+1) 24 [.i b,.i n] [.arr 3 os true 0]) (callN Tp (plF F) (kf+1) 24 [.i b,.i n] [.arr 3 os true 0]) [.arr 3 os true 0] [.arr 3 os true 0] && (recL (callN Tp (plF F) (kf+1) 24 [.i b,.i n] [.arr 3 os true 0]) (callN Tp (plF F) (kf+1) 24 [.i b,.i n] [.arr 3 os true 0,.arr 3 [.agg [.i 0,.i 0,.i 0]] true 0]) [.arr 3 os true 0] [.arr 3 os true 0,.arr 3 [.agg [.i 0,.i 0,.i 0]] true 0] && ((same (.i w) (.i w) && sameH ([.arr 3 os true 0]:Heap) [.arr 3 os true 0] && sameH ([.arr 3 os true 0,.arr 3 [.agg [.i 0,.i 0,.i 0]] true 0]:Heap) [.arr 3 os true 0,.arr 3 [.agg [.i 0,.i 0,.i 0]] true 0]) && true)))))))=true) (g8:¬ (w < 0)) (g9:¬ (1000 < w)) (g10:¬ (x=y)) (g11:appV [.arr 3 os true 0,.arr 3 [.agg [.i x,.i y,.i w]] true 0] 3 24 (.sl 0 0 q none q 3) [.agg [.i x,.i y,.i w]]=some (.sl 0 0 (q+1) none (q+1) 3,[.arr 3 (os ++ [.agg [.i x,.i y,.i w]]) true 0,.arr 3 [.agg [.i x,.i y,.i w]] true 0])):RunsTo Tp (plF F) 25 (sub [1,1,0,1,0,0] B25) (env25 (.imm .arg 3 ls) (.i n) (.i most) (.imm .lit 3 []) (.sl 0 0 q none q 3) (.i (i:Int)) y9 y10) [.arr 3 os true 0] .normal ((plF F).keys 25) (env25 (.imm .arg 3 ls) (.i n) (.i most) (.imm .lit 3 []) (.sl 0 0 (q+1) none (q+1) 3) (.i (IntKind.i64.wrap ((i:Int)+1))) (.ptr 1 0 0 1) y10) [.arr 3 (os ++ [.agg [.i x,.i y,.i w]]) true 0,.arr 3 [.agg [.i x,.i y,.i w]] true 0] :=
  RunsTo.hin 0 60 [⟨3,3,.bool true,[.arr 3 os true 0]⟩,⟨3,7,.bool true,[.arr 3 os true 0]⟩,⟨5,2,.vptr (.agg [.i a,.i b,.i w]),[.arr 3 os true 0]⟩,⟨5,6,.i x,[.arr 3 os true 0]⟩,⟨5,9,.vptr (.agg [.i a,.i b,.i w]),[.arr 3 os true 0]⟩,⟨5,13,.i y,[.arr 3 os true 0]⟩,⟨5,16,.vptr (.agg [.i a,.i b,.i w]),[.arr 3 os true 0]⟩,⟨6,2,.bool false,[.arr 3 os true 0,.arr 3 [.agg [.i x,.i y,.i w]] true 0]⟩,⟨6,6,.bool false,[.arr 3 os true 0,.arr 3 [.agg [.i x,.i y,.i w]] true 0]⟩,⟨8,4,.bool true,[.arr 3 os true 0,.arr 3 [.agg [.i x,.i y,.i w]] true 0]⟩,⟨9,3,.sl 0 0 (q+1) none (q+1) 3,[.arr 3 (os ++ [.agg [.i x,.i y,.i w]]) true 0,.arr 3 [.agg [.i x,.i y,.i w]] true 0]⟩] fun kf hk=>⟨_,by kernel_rfl,(oB [.arr 3 os true 0] (decide_eq_true g0) (oB [.arr 3 os true 0] (decide_eq_true g1) (oC (gS5 kf) (oP [.arr 3 os true 0] g2 (oC (g3 kf) (oP [.arr 3 os true 0] g4 (oC (g5 kf) (oP [.arr 3 os true 0] g6 (oB [.arr 3 os true 0,.arr 3 [.agg [.i x,.i y,.i w]] true 0] (decide_eq_false g8) (oB [.arr 3 os true 0,.arr 3 [.agg [.i x,.i y,.i w]] true 0] (decide_eq_false g9) (oB [.arr 3 os true 0,.arr 3 [.agg [.i x,.i y,.i w]] true 0] (congrArg not (decide_eq_false g10)) (oC (g11) .nil))))))))))))⟩
theorem ta_l_6 (ls:List HV) (n most:Int)  (q:Nat) (os:List HV) (i:Nat) (a b w x y v:Int) {y9 y10:HV}(g0:(i:Int) < (ls.length:Int)) (g1:¬ ((i:Int) < most)):RunsTo Tp (plF F) 25 (sub [1,1,0,1,0,0] B25) (env25 (.imm .arg 3 ls) (.i n) (.i most) (.imm .lit 3 []) (.sl 0 0 q none q 3) (.i (i:Int)) y9 y10) [.arr 3 os true 0] (.exit 0) ((plF F).keys 25) (env25 (.imm .arg 3 ls) (.i n) (.i most) (.imm .lit 3 []) (.sl 0 0 q none q 3) (.i (i:Int)) y9 y10) [.arr 3 os true 0] :=
  RunsTo.hin 0 60 [⟨3,3,.bool true,[.arr 3 os true 0]⟩,⟨3,7,.bool false,[.arr 3 os true 0]⟩] fun kf hk=>⟨_,by kernel_rfl,(oB [.arr 3 os true 0] (decide_eq_true g0) (oB [.arr 3 os true 0] (decide_eq_false g1) .nil))⟩
theorem ta_l_7 (ls:List HV) (n most:Int)  (q:Nat) (os:List HV) (i:Nat) (a b w x y v:Int) {y9 y10:HV}(g0:¬ ((i:Int) < (ls.length:Int))):RunsTo Tp (plF F) 25 (sub [1,1,0,1,0,0] B25) (env25 (.imm .arg 3 ls) (.i n) (.i most) (.imm .lit 3 []) (.sl 0 0 q none q 3) (.i (i:Int)) y9 y10) [.arr 3 os true 0] (.exit 0) ((plF F).keys 25) (env25 (.imm .arg 3 ls) (.i n) (.i most) (.imm .lit 3 []) (.sl 0 0 q none q 3) (.i (i:Int)) y9 y10) [.arr 3 os true 0] :=
  RunsTo.hin 0 60 [⟨3,3,.bool false,[.arr 3 os true 0]⟩] fun kf hk=>⟨_,by kernel_rfl,(oB [.arr 3 os true 0] (decide_eq_false g0) .nil)⟩
theorem ta_d_0 (ls:List HV) (n most:Int)  (q:Nat) (os:List HV) {y8 y9 y10:HV}:RunsTo Tp (plF F) 25 (sub [1,1,1,0,0] B25) (env25 (.imm .arg 3 ls) (.i n) (.i most) (.imm .lit 3 []) (.sl 0 0 q none q 3) y8 y9 y10) [.arr 3 os true 0] .normal ((plF F).keys 25) (env25 (.imm .arg 3 ls) (.i n) (.i most) (.imm .lit 3 []) (.sl 0 0 q none q 3) y8 y9 (.i 1)) [.arr 3 os true 0] :=
  RunsTo.hin 0 60 [] fun kf hk=>⟨_,by kernel_rfl,.nil⟩
theorem ta_m_0 (ls:List HV) (n most:Int)  (q:Nat) (os:List HV) (i:Nat) (v:Int) {y8 y9:HV}(g0:(i:Int) < n) (g1:∀ kf,callN Tp (plF F) (kf+1) 24 [.i (IntKind.i64.wrap (7 * (i:Int))),.i 12] [.arr 3 os true 0]=some (.i v,[.arr 3 os true 0])) (g2:appV [.arr 3 os true 0] 3 24 (.sl 0 0 q none q 3) [.agg [.i (IntKind.i64.wrap ((i:Int) - 1)),.i (i:Int),.i v]]=some (.sl 0 0 (q+1) none (q+1) 3,[.arr 3 (os ++ [.agg [.i (IntKind.i64.wrap ((i:Int) - 1)),.i (i:Int),.i v]]) true 0])):RunsTo Tp (plF F) 25 (sub [1,1,1,0,1,0,0] B25) (env25 (.imm .arg 3 ls) (.i n) (.i most) (.imm .lit 3 []) (.sl 0 0 q none q 3) y8 y9 (.i (i:Int))) [.arr 3 os true 0] .normal ((plF F).keys 25) (env25 (.imm .arg 3 ls) (.i n) (.i most) (.imm .lit 3 []) (.sl 0 0 (q+1) none (q+1) 3) y8 y9 (.i (IntKind.i64.wrap ((i:Int)+1)))) [.arr 3 (os ++ [.agg [.i (IntKind.i64.wrap ((i:Int) - 1)),.i (i:Int),.i v]]) true 0] :=
  RunsTo.hin 0 60 [⟨11,2,.bool true,[.arr 3 os true 0]⟩,⟨13,6,.i v,[.arr 3 os true 0]⟩,⟨13,9,.sl 0 0 (q+1) none (q+1) 3,[.arr 3 (os ++ [.agg [.i (IntKind.i64.wrap ((i:Int) - 1)),.i (i:Int),.i v]]) true 0]⟩] fun kf hk=>⟨_,by kernel_rfl,(oB [.arr 3 os true 0] (decide_eq_true g0) (oC (g1 kf) (oC (g2) .nil)))⟩
theorem ta_m_1 (ls:List HV) (n most:Int)  (q:Nat) (os:List HV) (i:Nat) (v:Int) {y8 y9:HV}(g0:¬ ((i:Int) < n)):RunsTo Tp (plF F) 25 (sub [1,1,1,0,1,0,0] B25) (env25 (.imm .arg 3 ls) (.i n) (.i most) (.imm .lit 3 []) (.sl 0 0 q none q 3) y8 y9 (.i (i:Int))) [.arr 3 os true 0] (.exit 2) ((plF F).keys 25) (env25 (.imm .arg 3 ls) (.i n) (.i most) (.imm .lit 3 []) (.sl 0 0 q none q 3) y8 y9 (.i (i:Int))) [.arr 3 os true 0] :=
  RunsTo.hin 0 60 [⟨11,2,.bool false,[.arr 3 os true 0]⟩] fun kf hk=>⟨_,by kernel_rfl,(oB [.arr 3 os true 0] (decide_eq_false g0) .nil)⟩
theorem ta_z_0 (ls:List HV) (n most:Int)  (q:Nat) (os:List HV) {y8 y9 y10:HV}:RunsTo Tp (plF F) 25 (sub [1,1,1,1] B25) (env25 (.imm .arg 3 ls) (.i n) (.i most) (.imm .lit 3 []) (.sl 0 0 q none q 3) y8 y9 y10) [.arr 3 os true 0] .ret ((plF F).keys 25) (env25 (.imm .arg 3 ls) (.i n) (.i most) (.sl 0 0 q none q 3) (.sl 0 0 q none q 3) y8 y9 y10) [.arr 3 os true 0] :=
  RunsTo.hin 0 60 [] fun kf hk=>⟨_,by kernel_rfl,.nil⟩
end
end Go.Proofs.Ytiejmoglooaalaa
end
section
open Go Go.HL
namespace Go.Proofs.Ytiejmoglooaalaa
set_option linter.unusedSectionVars false
open Go.Proofs.Try renaming prog → Tp
open Go.HL.HV renaming undef → Ud
def tamW (w:Int):Int:=if w < 0 ∨ 1000 < w then modW w 1001 else w
def tam1 (n:Int) (s:St):St:=(modW s.1 n,modW s.2.1 n,tamW s.2.2)
def tamL (n:Int) (l:List St):List St:=(l.map (tam1 n)).filter fun s=>decide (s.1 ≠ s.2.1)
def pathL (i:Nat):List St:=(List.range i).map fun (k:Nat)=>((k:Int),(k:Int)+1,modW (7 * ((k:Int)+1)) 12)
def tamT (n:Int) (l:List St) (most:Int):List St:=tamL n (l.take most.toNat) ++ pathL (n.toNat - 1)
def tame25:List HV → Option HV:=f3 kS kI kI fun l n most=>if (1 ≤ n∧n ≤ 100)∧0 ≤ most∧most ≤ 100 then some (.own 3 ((tamT n l most).map encT)) else none
theorem tamL_snoc (n:Int) {l:List St} {i:Nat} (hi:i < l.length):tamL n (l.take (i+1))=tamL n (l.take i) ++ if (tam1 n (l.getD i (0,0,0))).1 ≠ (tam1 n (l.getD i (0,0,0))).2.1 then [tam1 n (l.getD i (0,0,0))] else []:=by
  have e:l.take (i+1)=l.take i ++ [l.getD i (0,0,0)]:=by
    rw [List.take_succ_eq_append_getElem hi,getD_at hi]
  rw [e,tamL,List.map_append,List.filter_append,tamL]
  congr 1
  by_cases c:(tam1 n (l.getD i (0,0,0))).1 ≠ (tam1 n (l.getD i (0,0,0))).2.1
  · rw [if_pos c]
    exact List.filter_cons_of_pos (decide_eq_true c)
  · rw [if_neg c]
    exact List.filter_cons_of_neg (by simpa using c)
theorem tamL_len (n:Int) (l:List St):(tamL n l).length ≤ l.length:=by
  have:=List.length_filter_le (fun s:St=>decide (s.1 ≠ s.2.1)) (l.map (tam1 n))
  rw [List.length_map] at this
  exact this
theorem pathL_snoc (i:Nat):pathL (i+1)=pathL i ++ [((i:Int),(i:Int)+1,modW (7 * ((i:Int)+1)) 12)]:=by rw [pathL,List.range_succ,List.map_append]; rfl
theorem pathL_len (i:Nat):(pathL i).length=i:=by rw [pathL,List.length_map,List.length_range]
def prTa:FuncId → Option (List HV → Option HV):=fun g=>if g == 24 then some mod24 else none
theorem soundTa (n:Nat):CallSound Tp (callN Tp (plF prTa) n):=sound_prim _ (fun g f h=>by
  unfold prTa at h
  split at h
  · rename_i hg; cases h; rw [eq_of_beq hg]; exact mod_ok
  · cases h) n
theorem mod_at {F:FuncId → Option (List HV → Option HV)} (h24:F 24=some mod24) (a:Int) {n:Int} (hn:0 < n∧n < 9223372036854775808) (H:Heap):∀ k,callN Tp (plF F) (k+1) 24 [.int .i64 a,.int .i64 n] H=some (.int .i64 (modW a n),H) :=
  at2 (pol':=plF F) (g:=24) (c1:=kI) (c2:=kI) (f:=fun a n=>if 0 < n∧n < 9223372036854775808 then some (.int .i64 (modW a n)) else none) h24 (ShI _ a) (ShI _ n) (if_pos hn)
theorem res25:Try.f25.results.toList=[.tmp 6]:=by kernel_rfl
theorem app_one {H X:Heap} {o:List St} (hl:o.length ≤ 900) (s:St):appV ([bS o] ++ X) 3 24 (.sl 0 0 o.length none o.length 3) [encT s]=some (.sl 0 0 (o.length+1) none (o.length+1) 3,[bS (o ++ [s])] ++ X):=by
  have:=app_sts (H:=[bS o] ++ X) (b:=0) (o:=o) (xs:=[s]) rfl (by simp; omega) (by simp)
  rw [List.length_append,List.length_singleton] at this
  exact this
theorem tam_rec {F:FuncId → Option (List HV → Option HV)} (O:List St) {a b n x y:Int} {kf:Nat} (e1:∀ H,callN Tp (plF F) (kf+1) 24 [.int .i64 a,.int .i64 n] H=some (.int .i64 x,H)) (e2:∀ H,callN Tp (plF F) (kf+1) 24 [.int .i64 b,.int .i64 n] H=some (.int .i64 y,H)) (w:Int) :
    ((same (.int .i64 a) (.int .i64 a) && sameH ([.arr 3 (O.map encT) true 0]:Heap) [.arr 3 (O.map encT) true 0] && sameH ([.arr 3 (O.map encT) true 0,.arr 3 [.agg [.int .i64 0,.int .i64 0,.int .i64 0]] true 0]:Heap) [.arr 3 (O.map encT) true 0,.arr 3 [.agg [.int .i64 0,.int .i64 0,.int .i64 0]] true 0]) && (recL (callN Tp (plF F) (kf+1) 24 [.int .i64 a,.int .i64 n] [.arr 3 (O.map encT) true 0]) (callN Tp (plF F) (kf+1) 24 [.int .i64 a,.int .i64 n] [.arr 3 (O.map encT) true 0]) [.arr 3 (O.map encT) true 0] [.arr 3 (O.map encT) true 0] && (recL (callN Tp (plF F) (kf+1) 24 [.int .i64 a,.int .i64 n] [.arr 3 (O.map encT) true 0]) (callN Tp (plF F) (kf+1) 24 [.int .i64 a,.int .i64 n] [.arr 3 (O.map encT) true 0,.arr 3 [.agg [.int .i64 0,.int .i64 0,.int .i64 0]] true 0]) [.arr 3 (O.map encT) true 0] [.arr 3 (O.map encT) true 0,.arr 3 [.agg [.int .i64 0,.int .i64 0,.int .i64 0]] true 0] && ((same (.int .i64 b) (.int .i64 b) && sameH ([.arr 3 (O.map encT) true 0]:Heap) [.arr 3 (O.map encT) true 0] && sameH ([.arr 3 (O.map encT) true 0,.arr 3 [.agg [.int .i64 0,.int .i64 0,.int .i64 0]] true 0]:Heap) [.arr 3 (O.map encT) true 0,.arr 3 [.agg [.int .i64 0,.int .i64 0,.int .i64 0]] true 0]) && (recL (callN Tp (plF F) (kf+1) 24 [.int .i64 b,.int .i64 n] [.arr 3 (O.map encT) true 0]) (callN Tp (plF F) (kf+1) 24 [.int .i64 b,.int .i64 n] [.arr 3 (O.map encT) true 0]) [.arr 3 (O.map encT) true 0] [.arr 3 (O.map encT) true 0] && (recL (callN Tp (plF F) (kf+1) 24 [.int .i64 b,.int .i64 n] [.arr 3 (O.map encT) true 0]) (callN Tp (plF F) (kf+1) 24 [.int .i64 b,.int .i64 n] [.arr 3 (O.map encT) true 0,.arr 3 [.agg [.int .i64 0,.int .i64 0,.int .i64 0]] true 0]) [.arr 3 (O.map encT) true 0] [.arr 3 (O.map encT) true 0,.arr 3 [.agg [.int .i64 0,.int .i64 0,.int .i64 0]] true 0] && ((same (.int .i64 w) (.int .i64 w) && sameH ([.arr 3 (O.map encT) true 0]:Heap) [.arr 3 (O.map encT) true 0] && sameH ([.arr 3 (O.map encT) true 0,.arr 3 [.agg [.int .i64 0,.int .i64 0,.int .i64 0]] true 0]:Heap) [.arr 3 (O.map encT) true 0,.arr 3 [.agg [.int .i64 0,.int .i64 0,.int .i64 0]] true 0]) && true)))))))=true:=by
  simp only [e1,e2,recL]
  simp [same,sameH,sameL,same_mapL same_st]
theorem tame_round {l:List St} {n most:Int} (hn:1 ≤ n∧n ≤ 100) (hm:most ≤ 100) {i:Nat} (hi:i < l.length) (hi2:(i:Int) < most) :
    ∃ B s,RunsTo Tp (plF prTa) 25 (sub [1,1,0,1,0,0] B25) ((env25 (.imm .arg 3 (l.map encT)) (.int .i64 n) (.int .i64 most) (.imm .lit 3 []) (.sl 0 0 (tamL n (l.take (i))).length none (tamL n (l.take (i))).length 3) (.int .i64 ((i:Nat):Int)) Ud Ud)) [bS (tamL n (l.take (i)))] .normal ((plF prTa).keys 25) ((env25 (.imm .arg 3 (l.map encT)) (.int .i64 n) (.int .i64 most) (.imm .lit 3 []) (.sl 0 0 (tamL n (l.take (i+1))).length none (tamL n (l.take (i+1))).length 3) (.int .i64 ((i+1:Nat):Int)) (.ptr 1 0 0 1) Ud)) ([bS (tamL n (l.take (i+1)))] ++ [B])∧B=bT s:=by
  have hgs:=gs hi
  have hlen:=tamL_len n (l.take i)
  rw [List.length_take] at hlen
  have hsn:=tamL_snoc n hi
  generalize l.getD i (0,0,0)=s at *
  obtain ⟨a,b,w⟩:=s
  have lm:((l.map encT).length:Int)=(l.length:Int):=by rw [List.length_map]
  have m1:=fun H=>mod_at (F:=prTa) (by kernel_rfl) a (n:=n) (by omega) H
  have m2:=fun H=>mod_at (F:=prTa) (by kernel_rfl) b (n:=n) (by omega) H
  have m3:=fun H=>mod_at (F:=prTa) (by kernel_rfl) w (n:=1001) (by omega) H
  generalize hO:tamL n (l.take i)=O at *
  have hw:IntKind.i64.wrap ((i:Int)+1)=((i+1:Nat):Int):=wrap_succ (by omega)
  refine ⟨bT (tam1 n (a,b,w)),tam1 n (a,b,w),?_,rfl⟩
  rw [hsn]
  by_cases c:modW a n=modW b n
  · rw [if_neg (by show ¬ (modW a n ≠ modW b n); simpa using c),List.append_nil]
    by_cases c1:w < 0
    · have s:=ta_l_0 (F:=prTa) (l.map encT) n most O.length (O.map encT) i a b w (modW a n) (modW b n) (modW w 1001) (y9:=Ud) (y10:=Ud) (by omega) hi2 hgs (m1 _) hgs (m2 _) hgs (fun kf=>tam_rec O (fun H=>m1 H kf) (fun H=>m2 H kf) w) c1 (m3 _) c
      rw [hw] at s
      rw [tam1,tamW,if_pos (.inl c1)]
      exact s
    · by_cases c2:1000 < w
      · have s:=ta_l_2 (F:=prTa) (l.map encT) n most O.length (O.map encT) i a b w (modW a n) (modW b n) (modW w 1001) (y9:=Ud) (y10:=Ud) (by omega) hi2 hgs (m1 _) hgs (m2 _) hgs (fun kf=>tam_rec O (fun H=>m1 H kf) (fun H=>m2 H kf) w) c1 c2 (m3 _) c
        rw [hw] at s
        rw [tam1,tamW,if_pos (.inr c2)]
        exact s
      · have s:=ta_l_4 (F:=prTa) (l.map encT) n most O.length (O.map encT) i a b w (modW a n) (modW b n) 0 (y9:=Ud) (y10:=Ud) (by omega) hi2 hgs (m1 _) hgs (m2 _) hgs (fun kf=>tam_rec O (fun H=>m1 H kf) (fun H=>m2 H kf) w) c1 c2 c
        rw [hw] at s
        rw [tam1,tamW,if_neg (fun h=>h.elim c1 c2)]
        exact s
  · rw [if_pos (by show modW a n ≠ modW b n; exact c)]
    have hl2:(O ++ [tam1 n (a,b,w)]).length=O.length+1:=by simp
    have eB:∀ s,bS (O ++ [s])=.arr 3 (O.map encT ++ [encT s]) true 0:=fun s=>by rw [bS,List.map_append]; rfl
    rw [hl2]
    by_cases c1:w < 0
    · have ap:=app_one (H:=[]) (X:=[bT (modW a n,modW b n,modW w 1001)]) (o:=O) (by omega) (modW a n,modW b n,modW w 1001)
      have e:tam1 n (a,b,w)=(modW a n,modW b n,modW w 1001):=by rw [tam1,tamW,if_pos (.inl c1)]
      rw [e]
      rw [eB] at ap ⊢
      have s:=ta_l_1 (F:=prTa) (l.map encT) n most O.length (O.map encT) i a b w (modW a n) (modW b n) (modW w 1001) (y9:=Ud) (y10:=Ud) (by omega) hi2 hgs (m1 _) hgs (m2 _) hgs (fun kf=>tam_rec O (fun H=>m1 H kf) (fun H=>m2 H kf) w) c1 (m3 _) c ap
      rw [hw] at s
      exact s
    · by_cases c2:1000 < w
      · have ap:=app_one (H:=[]) (X:=[bT (modW a n,modW b n,modW w 1001)]) (o:=O) (by omega) (modW a n,modW b n,modW w 1001)
        have e:tam1 n (a,b,w)=(modW a n,modW b n,modW w 1001):=by rw [tam1,tamW,if_pos (.inr c2)]
        rw [e]
        rw [eB] at ap ⊢
        have s:=ta_l_3 (F:=prTa) (l.map encT) n most O.length (O.map encT) i a b w (modW a n) (modW b n) (modW w 1001) (y9:=Ud) (y10:=Ud) (by omega) hi2 hgs (m1 _) hgs (m2 _) hgs (fun kf=>tam_rec O (fun H=>m1 H kf) (fun H=>m2 H kf) w) c1 c2 (m3 _) c ap
        rw [hw] at s
        exact s
      · have ap:=app_one (H:=[]) (X:=[bT (modW a n,modW b n,w)]) (o:=O) (by omega) (modW a n,modW b n,w)
        have e:tam1 n (a,b,w)=(modW a n,modW b n,w):=by rw [tam1,tamW,if_neg (fun h=>h.elim c1 c2)]
        rw [e]
        rw [eB] at ap ⊢
        have s:=ta_l_5 (F:=prTa) (l.map encT) n most O.length (O.map encT) i a b w (modW a n) (modW b n) 0 (y9:=Ud) (y10:=Ud) (by omega) hi2 hgs (m1 _) hgs (m2 _) hgs (fun kf=>tam_rec O (fun H=>m1 H kf) (fun H=>m2 H kf) w) c1 c2 c ap
        rw [hw] at s
        exact s
theorem tame_ok:PrimOk Tp 25 tame25:=by
  refine primOk_pure (pol:=plF prTa) (fn:=Try.f25) (cd:=B25) follows_mixed soundTa (by kernel_rfl) (by kernel_rfl) (fnok prTa _ _ (by kernel_rfl)) (by kernel_rfl) ?_
  intro args res h
  obtain ⟨l,n,most,rfl,hq⟩:=f3_inv h
  split at hq
  case isFalse=>cases hq
  rename_i hc
  obtain ⟨hn,hm0,hm⟩:=hc
  cases hq
  have lm:((l.map encT).length:Int)=(l.length:Int):=by rw [List.length_map]
  have a:=ta_a_0 (F:=prTa) (l.map encT) n most
  have b:=ta_b_0 (F:=prTa) (l.map encT) n most (y7:=Ud) (y8:=Ud) (y9:=Ud) (y10:=Ud)
  have c:=ta_c_0 (F:=prTa) (l.map encT) n most 0 [] (y8:=Ud) (y9:=Ud) (y10:=Ud)
  have hg:∀ i,i ≤ min l.length most.toNat → (tamL n (l.take i)).length ≤ 100:=fun i hi=>by
    have:=tamL_len n (l.take i)
    rw [List.length_take] at this
    omega
  have out:∀ i,i=min l.length most.toNat → RunsTo Tp (plF prTa) 25 (sub [1,1,0,1,0,0] B25) ((env25 (.imm .arg 3 (l.map encT)) (.int .i64 n) (.int .i64 most) (.imm .lit 3 []) (.sl 0 0 (tamL n (l.take (i))).length none (tamL n (l.take (i))).length 3) (.int .i64 ((i:Nat):Int)) Ud Ud)) [bS (tamL n (l.take (i)))] (.exit 0) ((plF prTa).keys 25) ((env25 (.imm .arg 3 (l.map encT)) (.int .i64 n) (.int .i64 most) (.imm .lit 3 []) (.sl 0 0 (tamL n (l.take (i))).length none (tamL n (l.take (i))).length 3) (.int .i64 ((i:Nat):Int)) Ud Ud)) [bS (tamL n (l.take (i)))]:=fun i hi=>by
    by_cases c1:(i:Int) < (l.length:Int)
    · exact ta_l_6 (F:=prTa) (l.map encT) n most (tamL n (l.take i)).length ((tamL n (l.take i)).map encT) i 0 0 0 0 0 0 (y9:=Ud) (y10:=Ud) (by omega) (by omega)
    · exact ta_l_7 (F:=prTa) (l.map encT) n most (tamL n (l.take i)).length ((tamL n (l.take i)).map encT) i 0 0 0 0 0 0 (y9:=Ud) (y10:=Ud) (by omega)
  obtain ⟨x,E',H',r,rfl,rfl,rfl⟩:=countI (pol':=plF prTa) (f:=25) (b:=sub [1,1,0,1,0,0] B25) (c:=sub [1,1,0,1,0] B25) (I:=fun i e H=>e=(env25 (.imm .arg 3 (l.map encT)) (.int .i64 n) (.int .i64 most) (.imm .lit 3 []) (.sl 0 0 (tamL n (l.take (i))).length none (tamL n (l.take (i))).length 3) (.int .i64 ((i:Nat):Int)) Ud Ud)∧H=[bS (tamL n (l.take (i)))])
    (Q:=fun x E' H'=>x=.exit 0∧E'=(env25 (.imm .arg 3 (l.map encT)) (.int .i64 n) (.int .i64 most) (.imm .lit 3 []) (.sl 0 0 (tamL n (l.take (min l.length most.toNat))).length none (tamL n (l.take (min l.length most.toNat))).length 3) (.int .i64 ((min l.length most.toNat:Nat):Int)) Ud Ud)∧H'=[bS (tamL n (l.take (min l.length most.toNat)))]) (min l.length most.toNat)
    (by
      rintro i hi e H ⟨rfl,rfl⟩
      obtain ⟨B,s,h1,rfl⟩:=tame_round (l:=l) (n:=n) (most:=most) hn hm (i:=i) (by omega) (by omega)
      refine ⟨_,_,h1,by kernel_rfl,?_⟩
      exact gc_back (H:=[bS (tamL n (l.take (i+1)))]) (X:=[bT s]) (by show max 0 (max 0 0) ≤ 1; decide) (by show max 0 (max 0 (max 0 (max 0 (max 1 (max 0 (max 0 (max 0 0))))))) ≤ 1; decide))
    (by
      rintro e H ⟨rfl,rfl⟩
      exact ⟨_,_,_,out _ rfl,by simp,rfl,rfl,rfl⟩)
    (by kernel_rfl) (by rintro i e H ⟨rfl,_⟩; kernel_rfl) (e:=(env25 (.imm .arg 3 (l.map encT)) (.int .i64 n) (.int .i64 most) (.imm .lit 3 []) (.sl 0 0 (tamL n (l.take (0))).length none (tamL n (l.take (0))).length 3) (.int .i64 ((0:Nat):Int)) Ud Ud)) (H:=[bS (tamL n (l.take (0)))]) ⟨rfl,rfl⟩
  have hO:=hg _ (Nat.le_refl _)
  have eO:tamL n (l.take (min l.length most.toNat))=tamL n (l.take most.toNat):=by
    congr 1
    rw [List.take_eq_take_iff]; omega
  rw [eO] at r hO
  have d:=ta_d_0 (F:=prTa) (l.map encT) n most (tamL n (l.take most.toNat)).length ((tamL n (l.take most.toNat)).map encT) (y8:=.int .i64 ((min l.length most.toNat:Nat):Int)) (y9:=Ud) (y10:=Ud)
  unfold tamT
  generalize tamL n (l.take most.toNat)=O at *
  have hPl:∀ i,(O ++ pathL i).length=O.length+i:=fun i=>by rw [List.length_append,pathL_len]
  have m12:=fun a H=>mod_at (F:=prTa) (by kernel_rfl) a (n:=12) (by omega) H
  have r2:=count (pol':=plF prTa) (f:=25) (E:=fun i=>(env25 (.imm .arg 3 (l.map encT)) (.int .i64 n) (.int .i64 most) (.imm .lit 3 []) (.sl 0 0 (O ++ pathL (i)).length none (O ++ pathL (i)).length 3) Ud Ud (.int .i64 ((i+1:Nat):Int)))) (Hs:=fun i=>[bS (O ++ pathL (i))]) (n.toNat - 1) (E0:=fun i=>(env25 (.imm .arg 3 (l.map encT)) (.int .i64 n) (.int .i64 most) (.imm .lit 3 []) (.sl 0 0 (O ++ pathL (i+1)).length none (O ++ pathL (i+1)).length 3) Ud Ud (.int .i64 ((i+1+1:Nat):Int)))) (H1:=fun i=>[bS (O ++ pathL (i+1))])
    (fun i hi=>by
      have ap:=app_one (H:=[]) (X:=[]) (o:=O ++ pathL i) (by rw [hPl]; omega) ((i:Int),(i:Int)+1,modW (7 * ((i:Int)+1)) 12)
      rw [List.append_nil,List.append_nil,List.append_assoc,← pathL_snoc] at ap
      have w1:IntKind.i64.wrap (7 * ((i+1:Nat):Int))=7 * ((i:Int)+1):=by rw [wrap_id (by omega) (by omega)]; omega
      have w2:IntKind.i64.wrap (((i+1:Nat):Int) - 1)=(i:Int):=by rw [wrap_id (by omega) (by omega)]; omega
      have w3:(((i+1:Nat):Int))=(i:Int)+1:=by omega
      have s:=ta_m_0 (F:=prTa) (l.map encT) n most (O ++ pathL i).length ((O ++ pathL i).map encT) (i+1) (modW (7 * ((i:Int)+1)) 12) (y8:=Ud) (y9:=Ud) (by omega) (by rw [w1]; exact m12 _ _) (by
        rw [w2,w3]
        have e:(O ++ pathL i).map encT ++ [.agg [.int .i64 (i:Int),.int .i64 ((i:Int)+1),.int .i64 (modW (7 * ((i:Int)+1)) 12)]]=(O ++ pathL (i+1)).map encT:=by
          rw [pathL_snoc,← List.append_assoc,List.map_append (l₁:=O ++ pathL i)]; rfl
        rw [e]
        exact ap)
      rw [wrap_succ (by omega),w2] at s
      have e:(O ++ pathL i).map encT ++ [.agg [.int .i64 (i:Int),.int .i64 ((i+1:Nat):Int),.int .i64 (modW (7 * ((i:Int)+1)) 12)]]=(O ++ pathL (i+1)).map encT:=by
        rw [pathL_snoc,← List.append_assoc,List.map_append (l₁:=O ++ pathL i)]; rfl
      rw [e] at s
      have e2:(O ++ pathL (i+1)).length=(O ++ pathL i).length+1:=by rw [hPl,hPl]; rfl
      rw [e2]
      exact s) (fun i _=>by kernel_rfl) (fun i _=>gc_eq _ rfl) (ta_m_1 (F:=prTa) (l.map encT) n most (O ++ pathL (n.toNat - 1)).length ((O ++ pathL (n.toNat - 1)).map encT) (n.toNat - 1+1) 0 (y8:=Ud) (y9:=Ud) (by omega)) (by simp) (c:=sub [1,1,1,0,1,0] B25) (by kernel_rfl) (fun i _=>by kernel_rfl)
  have e0:O ++ pathL 0=O:=List.append_nil _
  simp only [e0] at r2
  have z:=ta_z_0 (F:=prTa) (l.map encT) n most (O ++ pathL (n.toNat - 1)).length ((O ++ pathL (n.toNat - 1)).map encT) (y10:=.int .i64 ((n.toNat - 1+1:Nat):Int)) (y8:=Ud) (y9:=Ud)
  refine ⟨_,_,_,.sl 0 0 (O ++ pathL (n.toNat - 1)).length none (O ++ pathL (n.toNat - 1)).length 3,sq (a) (sq (b) (sq (sq (c) (bke (c:=sub [1,1,0,1] B25) (lpi (e0:=(env25 (.imm .arg 3 (l.map encT)) (.int .i64 n) (.int .i64 most) (.imm .lit 3 []) (.sl 0 0 (tamL n (l.take (0))).length none (tamL n (l.take (0))).length 3) (.int .i64 ((0:Nat):Int)) Ud Ud)) r (b:=sub [1,1,0,1,0,0] B25))) (c:=sub [1,1,0] B25)) (sq (sq (d) (bke (c:=sub [1,1,1,0,1] B25) (lpi (e0:=(env25 (.imm .arg 3 (l.map encT)) (.int .i64 n) (.int .i64 most) (.imm .lit 3 []) (.sl 0 0 (O).length none (O).length 3) (.int .i64 ((min l.length most.toNat:Nat):Int)) Ud (.int .i64 ((0+1:Nat):Int)))) r2 (b:=sub [1,1,1,0,1,0,0] B25))) (c:=sub [1,1,1,0] B25)) (z) (c:=sub [1,1,1] B25)) (c:=sub [1,1] B25)) (c:=sub [1] B25)) (c:=B25),by simp,by simp only [resultsV,res25]; rfl,?_⟩
  exact res_sts (b:=0) rfl rfl
end Go.Proofs.Ytiejmoglooaalaa
end
section
open Go Go.HL
namespace Go.Proofs.Ytiejmoglooaalaa
set_option linter.unusedSectionVars false
theorem modW_rng (a:Int) {n:Int} (h:0 < n) (h2:n < 4611686018427387904):0 ≤ modW a n∧modW a n < n:=by
  exact modW_bounds a n h (by omega)
theorem cnt16:∀ m:Nat,1 ≤ m∧m ≤ 16 → ((List.range 16).filter fun (v:Nat)=>decide (v=0 ∨ (m:Int) ≤ (v:Int))).length=17 - m:=by
  have:∀ m:Fin 17,1 ≤ m.val → ((List.range 16).filter fun (v:Nat)=>decide (v=0 ∨ (m.val:Int) ≤ (v:Int))).length=17 - m.val:=by decide +kernel
  exact fun m hm=>this ⟨m,by omega⟩ hm.1
theorem cnt16r:∀ m r:Nat,(1 ≤ m∧m ≤ 16) → (1 ≤ r∧r < m) → ((List.range 16).filter fun (v:Nat)=>decide (v=0 ∨ (m:Int) ≤ (v:Int) ∨ v=r)).length=18 - m:=by
  have:∀ m r:Fin 17,1 ≤ m.val → 1 ≤ r.val → r.val < m.val → ((List.range 16).filter fun (v:Nat)=>decide (v=0 ∨ (m.val:Int) ≤ (v:Int) ∨ v=r.val)).length=18 - m.val:=by decide +kernel
  exact fun m r hm hr=>this ⟨m,by omega⟩ ⟨r,by omega⟩ hm.1 hr.1 hr.2
section
variable {n:Int} {l:List St} (hnet:netB n l=true)
include hnet
theorem lb_zero {t:List Int} (ht:∀ k ∈ t,0 ≤ k∧k < (l.length:Int)):lb l t 0=0:=by
  have:=lb_lo (endB_net hnet) ht (v:=0) (by omega)
  omega
theorem rank_all {t:List Int} (ht:∀ k ∈ t,0 ≤ k∧k < (l.length:Int)) (h:∀ v,0 ≤ v → v < n → Cn l t 0 v):((tkT l t).length:Int)=n - 1:=by
  have he:=endB_net hnet
  obtain ⟨⟨n1,n2⟩,_⟩:=netB_ends hnet
  have h1:rt (labT l t) ≤ ((List.range 16).filter fun (v:Nat)=>decide (v=0 ∨ n ≤ (v:Int))).length:=by
    unfold rt
    rw [← List.countP_eq_length_filter,← List.countP_eq_length_filter]
    refine List.countP_mono_left fun v hv h3=>?_
    have hv:=List.mem_range.1 hv
    have h3:lb l t (v:Int)=(v:Int):=of_decide_eq_true h3
    refine decide_eq_true ?_
    by_cases c:n ≤ (v:Int)
    · exact .inr c
    · left
      have h4:=cn_lb he ht (h (v:Int) (by omega) (by omega))
      rw [lb_zero hnet ht] at h4
      omega
  have h2:=cnt16 n.toNat (by omega)
  rw [show ((n.toNat:Nat):Int)=n by omega] at h2
  have h3:=tk_rank he ht
  have h4:=rank_lt hnet ht
  omega
theorem conn_all (h:∀ v,0 ≤ v → v < n → Cn l (startT l.length) 0 v):connB n l=true:=by
  have h1:=rank_all hnet (t:=ordT l) (fun k hk=>ordT_mem.1 hk) fun v h0 h1=>(h v h0 h1).mono fun k hk=>ordT_mem.2 (startT_mem.1 hk)
  exact decide_eq_true h1
theorem all_zero {t:List Int} (ht:∀ k ∈ t,0 ≤ k∧k < (l.length:Int)) (h:((tkT l t).length:Int)=n - 1) {v:Int} (h0:0 ≤ v) (h1:v < n):lb l t v=0:=by
  have he:=endB_net hnet
  obtain ⟨⟨n1,n2⟩,_⟩:=netB_ends hnet
  have hE:∀ k,0 ≤ k∧k < (l.length:Int) → sA l k < n∧sB l k < n:=fun k hk=>by have:=ends_net hnet hk; omega
  have hv:=lb_lo he ht (v:=v) (by omega)
  by_cases c:lb l t v=0
  · exact c
  · exfalso
    generalize hr:lb l t v=r at *
    have h2:((List.range 16).filter fun (v:Nat)=>decide (v=0 ∨ n ≤ (v:Int) ∨ v=r.toNat)).length ≤ rt (labT l t):=by
      unfold rt
      rw [← List.countP_eq_length_filter,← List.countP_eq_length_filter]
      refine List.countP_mono_left fun w hw h3=>?_
      have hw:=List.mem_range.1 hw
      have h3:=of_decide_eq_true h3
      have hwr:0 ≤ (w:Int)∧(w:Int) < 16:=by omega
      refine decide_eq_true (show lb l t (w:Int)=(w:Int) from ?_)
      rcases h3 with e | e | e
      · subst e; exact lb_zero hnet ht
      · have h4:=lb_lo he ht hwr
        have h5:=cn_out hE ht (lb_cn he ht hwr)
        omega
      · have:(w:Int)=r:=by omega
        rw [this]; exact hv.2.2
    have h3:=cnt16r n.toNat r.toNat (by omega) (by omega)
    rw [show ((n.toNat:Nat):Int)=n by omega] at h3
    have h4:=tk_rank he ht
    omega
theorem conn_cn (hc:connB n l=true) {u v:Int} (hu:0 ≤ u∧u < n) (hv:0 ≤ v∧v < n):Cn l (treeT l) u v:=by
  have he:=endB_net hnet
  obtain ⟨⟨n1,n2⟩,_⟩:=netB_ends hnet
  have hT:=first_tr hnet hc
  have h0:((tkT l (treeT l)).length:Int)=n - 1:=by rw [hT.fo]; exact hT.ln
  exact (lb_iff he hT.rg (by omega) (by omega)).1 (by rw [all_zero hnet hT.rg h0 hu.1 hu.2,all_zero hnet hT.rg h0 hv.1 hv.2])
theorem ord_le {i j:Nat} (hij:i ≤ j) (hj:j < (ordT l).length):wOf l ((ordT l).getD i 0) ≤ wOf l ((ordT l).getD j 0):=by
  rcases Nat.lt_or_eq_of_le hij with c | c
  · have hs:(ordT l).Pairwise (ltK l):=ordN_sorted l l.length
    have:=List.pairwise_iff_getElem.1 hs i j (by omega) hj c
    rw [getD_at (by omega),getD_at hj]
    unfold ltK at this
    omega
  · rw [c]; exact Int.le_refl _
end
theorem tam_mem {n:Int} {l:List St} {s:St} (h:s ∈ tamL n l) (hn:0 < n) (hn2:n ≤ 100):(0 ≤ s.1∧s.1 < n)∧(0 ≤ s.2.1∧s.2.1 < n)∧s.1 ≠ s.2.1∧0 ≤ s.2.2∧s.2.2 ≤ 1000:=by
  obtain ⟨h1,h2⟩:=List.mem_filter.1 h
  obtain ⟨r,_,rfl⟩:=List.mem_map.1 h1
  have h2:=of_decide_eq_true h2
  have a:=modW_rng r.1 hn (by omega)
  have b:=modW_rng r.2.1 hn (by omega)
  have c:=modW_rng r.2.2 (n:=1001) (by omega) (by omega)
  refine ⟨a,b,h2,?_⟩
  show 0 ≤ tamW r.2.2∧tamW r.2.2 ≤ 1000
  unfold tamW
  split <;> omega
theorem path_mem {m:Nat} {s:St} (h:s ∈ pathL m):∃ k:Nat,k < m∧s=((k:Int),(k:Int)+1,modW (7 * ((k:Int)+1)) 12):=by
  obtain ⟨k,hk,rfl⟩:=List.mem_map.1 h
  exact ⟨k,List.mem_range.1 hk,rfl⟩
theorem tam_len (n:Int) (l:List St) (most:Int):(tamT n l most).length ≤ most.toNat+(n.toNat - 1):=by
  have:=tamL_len n (l.take most.toNat)
  rw [List.length_take] at this
  rw [tamT,List.length_append,pathL_len]
  omega
theorem tam_net {n:Int} (hn:1 ≤ n∧n ≤ 16) (l:List St) {most:Int} (hm:0 ≤ most∧most ≤ 44):netB n (tamT n l most)=true:=by
  have hl:=tam_len n l most
  simp only [netB,Bool.and_eq_true,List.all_eq_true,decide_eq_true_eq,stB]
  refine ⟨fun s hs=>?_,hn,by omega⟩
  rcases List.mem_append.1 hs with h | h
  · have:=tam_mem h (by omega) (by omega)
    omega
  · obtain ⟨k,hk,rfl⟩:=path_mem h
    have:=modW_rng (7 * ((k:Int)+1)) (n:=12) (by omega) (by omega)
    simp only
    omega
theorem tam_path {n:Int} {l:List St} {most:Int} {v:Nat} (hv:v < n.toNat - 1):(tamT n l most).getD ((tamL n (l.take most.toNat)).length+v) (0,0,0)=((v:Int),(v:Int)+1,modW (7 * ((v:Int)+1)) 12):=by
  rw [tamT,List.getD,List.getElem?_append_right (by omega),show (tamL n (l.take most.toNat)).length+v - (tamL n (l.take most.toNat)).length=v by omega]
  simp [pathL,hv]
theorem tam_conn {n:Int} (hn:1 ≤ n∧n ≤ 16) (l:List St) {most:Int} (hm:0 ≤ most∧most ≤ 44):connB n (tamT n l most)=true:=by
  have hnet:=tam_net hn l hm
  refine conn_all hnet fun v h0 h1=>?_
  have key:∀ k:Nat,(k:Int) < n → Cn (tamT n l most) (startT (tamT n l most).length) 0 (k:Int):=by
    intro k
    induction k with
    | zero=>intro _; exact .refl _
    | succ k ih =>
      intro hk
      refine .trans (ih (by omega)) ?_
      have hp:=tam_path (n:=n) (l:=l) (most:=most) (v:=k) (by omega)
      have hlen:(tamT n l most).length=(tamL n (l.take most.toNat)).length+(n.toNat - 1):=by rw [tamT,List.length_append,pathL_len]
      have e:=Cn.edge (l:=tamT n l most) (t:=startT (tamT n l most).length) (k:=(((tamL n (l.take most.toNat)).length+k:Nat):Int)) (startT_mem.2 (by omega))
      rw [sA,sB,Int.toNat_natCast,hp] at e
      exact e
  have:=key v.toNat (by omega)
  rwa [show ((v.toNat:Nat):Int)=v by omega] at this
end Go.Proofs.Ytiejmoglooaalaa
end
section
open Go Go.HL
namespace Go.Proofs.Ytiejmoglooaalaa
set_option linter.unusedSectionVars false
theorem wgt_cons (l:List St) (k:Int) (t:List Int):wgt l (k :: t)=wOf l k+wgt l t:=by rw [wgt,List.map_cons,List.sum_cons]; rfl
theorem wgt_wo (l:List St) {k:Int}:∀ {t:List Int},t.Nodup → k ∈ t → wgt l t=wOf l k+wgt l (wo t k)
  | [],_,h=>by cases h
  | x :: t,hn,h=>by
    obtain ⟨h1,h2⟩:=List.nodup_cons.1 hn
    by_cases e:x=k
    · subst e
      have:wo (x :: t) x=t:=by
        rw [wo,List.filter_cons_of_neg (by simp)]
        exact List.filter_eq_self.2 fun y hy=>decide_eq_true fun (c:y=x)=>h1 (c ▸ hy)
      rw [this,wgt_cons]
    · have hm:=(List.mem_cons.1 h).resolve_left fun c=>e c.symm
      have:wo (x :: t) k=x :: wo t k:=by rw [wo,List.filter_cons_of_pos (by simpa using e)]; rfl
      rw [this,wgt_cons,wgt_cons,wgt_wo l h2 hm]
      omega
theorem wgt_same (l:List St):∀ {a b:List Int},a.Nodup → b.Nodup → (∀ x,x ∈ a ↔ x ∈ b) → wgt l a=wgt l b
  | [],b,_,_,h=>by
    have:b=[]:=List.eq_nil_iff_forall_not_mem.2 fun x hx=>by cases (h x).2 hx
    rw [this]
  | x :: a,b,ha,hb,h=>by
    obtain ⟨h1,h2⟩:=List.nodup_cons.1 ha
    have hx:x ∈ b:=(h x).1 (List.mem_cons_self ..)
    rw [wgt_wo l hb hx,wgt_cons]
    refine congrArg (wOf l x+·) (wgt_same l h2 (hb.sublist List.filter_sublist) fun y=>?_)
    rw [mem_wo]
    constructor
    · intro hy
      exact ⟨(h y).1 (List.mem_cons_of_mem _ hy),fun c=>h1 (c ▸ hy)⟩
    · intro ⟨hy,hne⟩
      exact (List.mem_cons.1 ((h y).2 hy)).resolve_left hne
theorem Tr.perm {n:Int} {l:List St} (hnet:netB n l=true) {t s:List Int} (h:Tr n l t) (hs:s.Nodup) (hm:∀ x,x ∈ t ↔ x ∈ s):Tr n l s:=by
  have hl:=nodup_len h.nd hs hm
  refine ⟨fun k hk=>h.rg k ((hm k).2 hk),hs,by have:=h.ln; omega,?_⟩
  rw [← tk_len_same (endB_net hnet) h.rg hm,h.fo,hl]
section
variable {n:Int} {l:List St} (hnet:netB n l=true)
include hnet
theorem fr_tr (hc:connB n l=true):Tr n l (frT l):=Tr.perm hnet (first_tr hnet hc) (asc_nodup (frT_asc l)) fun _=>frT_mem.symm
omit hnet in
theorem fr_wgt:wgt l (frT l)=wgt l (treeT l):=wgt_same l (asc_nodup (frT_asc l)) (tree_nodup' l) fun _=>frT_mem
theorem fr_min {s:List Int} (hs:Tr n l s):wgt l (frT l) ≤ wgt l s:=by rw [fr_wgt]; exact first_min hnet hs
end
end Go.Proofs.Ytiejmoglooaalaa
end
