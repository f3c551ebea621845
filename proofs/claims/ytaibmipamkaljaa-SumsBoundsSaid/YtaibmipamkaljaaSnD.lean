/- A part of the proof. -/
import Derived.Test.YtaibmipamkaljaaSnC
set_option linter.unusedVariables false
set_option linter.unusedSimpArgs false
set_option linter.unnecessarySimpa false
section
open Go Go.HL Go.HL.So
namespace Go.Proofs.Ytaibmipamkaljaa
set_option linter.unusedSectionVars false
open Go.Proofs.Try renaming prog → Tp
open Go.HL.HV renaming undef → Ud
section
variable {α:Type} [Inhabited α] {enc:α → HV} {lt:α → α → Prop} {dom:α → Prop} {H:Heap} {db n:Nat} {cap:Option Nat}
def PdqOk (enc:α → HV) (lt:α → α → Prop) (dom:α → Prop) (H:Heap) (db n:Nat) (cap:Option Nat) (d:Nat):Prop:=∀ (a b:Nat) (lim:Int) (l:List α),b - a < d → a ≤ b → b ≤ n → 0 ≤ lim → lim ≤ 1000 → l.length=n → Dm dom l → Flo lt a b l →
  ∃ l',ClL 70 [.sl db 0 n cap n 1,.int .i64 (a:Int),.int .i64 (b:Int),.int .i64 lim,.func 64 [] []] (Mm enc H db l []) (.tuple []) (Mm enc H db l' [])∧Sw a b l l'∧Sorted lt a b l'
def Out (enc:α → HV) (lt:α → α → Prop) (dom:α → Prop) (H:Heap) (db n:Nat) (cap:Option Nat) (a b:Nat) (l:List α) (x:X) (E:Env) (l':List α):Prop :=
  Sw a b l l'∧((x=.ret∧Sorted lt a b l') ∨ ((x=.normal ∨ x=.exit 1)∧∃ (a' b':Nat) (lim':Int) (bal' par':Bool) (y2 y3 y4 y5 y6 y7 y8 y9 y10:HV),E=(env70 (.sl db 0 n cap n 1) (.int .i64 (a':Int)) (.int .i64 (b':Int)) (.int .i64 lim') (.func 64 [] []) (.bool bal') (.bool par') y2 y3 y4 y5 y6 y7 y8 y9 y10) ∧
    b' - a' < b - a∧a ≤ a'∧a' ≤ b'∧b' ≤ b∧0 ≤ lim'∧lim' ≤ 1000∧Flo lt a' b' l'∧∀ l'',Sw a' b' l' l'' → Sorted lt a' b' l'' → Sorted lt a b l''))
theorem Out.pre {a b:Nat} {l l1 l':List α} {x:X} {E:Env} (h:Sw a b l l1) (ho:Out enc lt dom H db n cap a b l1 x E l'):Out enc lt dom H db n cap a b l x E l':=⟨h.trans ho.1,ho.2⟩
theorem Flo.part {a b a' b':Nat} {l:List α} (h:Flo lt a b l) (h1:a'=a) (h2:b' ≤ b):Flo lt a' b' l:=by
  subst h1
  exact fun h0 k h3 h4=>h h0 k h3 (by omega)
theorem join (hL:Lin lt) {a b m:Nat} {l:List α} (h1:Sorted lt a m l) (h2:Sorted lt (m+1) b l) (h3:∀ k,a ≤ k → k < m → lt (at_ l k) (at_ l m)) (h4:∀ k,m < k → k < b → ¬ lt (at_ l k) (at_ l m)):Sorted lt a b l:=by
  intro i j q1 q2 q3
  by_cases c1:j < m
  · exact h1 i j q1 q2 c1
  · by_cases c2:j=m
    · subst c2; exact hL.asy _ _ (h3 i q1 q2)
    · by_cases c3:i < m
      · exact hL.tr _ _ _ (hL.asy _ _ (h3 i q1 c3)) (h4 j (by omega) q3)
      · by_cases c4:i=m
        · subst c4; exact h4 j (by omega) q3
        · exact h2 i j (by omega) q2 q3
theorem pq_S (S:So enc lt dom H db n) (hL:Lin lt) {a b k p:Nat} {lim:Int} {bal par:Bool} {h:HV} (hd:PdqOk enc lt dom H db n cap (b - a)) (hp1:a ≤ p) (hp2:p < b) (hb:b ≤ n) (hk:k ≤ n) (hl0:0 ≤ lim) (hl1:lim ≤ 1000) {l:List α} (hl:l.length=n) (hD:Dm dom l) (hF:Flo lt a b l) :
    ∃ x E l',RT polSl 70 (sub [1,1,0,0,0,1,1,1,1,1,1,1,1] B70) (env70 (.sl db 0 n cap n 1) (.int .i64 (a:Int)) (.int .i64 (b:Int)) (.int .i64 lim) (.func 64 [] []) (.bool bal) (.bool par) (.int .i64 (k:Int)) (.int .i64 (p:Int)) h Ud Ud Ud Ud Ud Ud) (Mm enc H db l []) x E (Mm enc H db l' [])∧Out enc lt dom H db n cap a b l x E l':=by
  have hn:=S.nb
  obtain ⟨m,bb,l4,hc,w1,w2,w3,w4⟩:=spart_ok S (cap:=cap) (T:=[]) rfl hb hp1 hp2 hl hD
  obtain ⟨N,hN⟩:=hc.from
  have t1:=pq_n_0 N db n cap (Mm enc H db l []) 0 a b lim p (y10:=.bool bal) (y11:=.bool par) (y12:=.int .i64 (k:Int)) (y14:=h) (y15:=Ud) (y16:=Ud) (y17:=Ud) (y18:=Ud) (y19:=Ud) (y20:=Ud) hN
  have hl4:=sw_len w1 hl
  have hD4:=hD.sw w1 (by omega)
  have hF4:=hF.sw (by omega) w1
  have t2:=pq_o_0 0 db n cap (Mm enc H db l4 []) 0 a b lim (y10:=.bool bal) (y11:=.bool par) (y12:=.int .i64 (k:Int)) (y13:=.int .i64 (p:Int)) (y14:=h) (y15:=Ud) (y16:=.int .i64 (m:Int)) (y17:=.bool bb) (y18:=Ud) (y19:=Ud) (y20:=Ud)
  have t3:=pq_p_0 0 db n cap (Mm enc H db l4 []) 0 a b lim m (y10:=.bool bal) (y11:=.bool bb) (y12:=.int .i64 (k:Int)) (y13:=.int .i64 (p:Int)) (y14:=h) (y15:=Ud) (y17:=.bool bb) (y18:=Ud) (y19:=Ud) (y20:=Ud)
  have e1:IntKind.i64.wrap ((m:Int) - (a:Int))=((m - a:Nat):Int):=(by rw [wrap_id (by omega) (by omega)]; omega)
  have e2:IntKind.i64.wrap ((b:Int) - (m:Int))=((b - m:Nat):Int):=(by rw [wrap_id (by omega) (by omega)]; omega)
  rw [e1,e2] at t3
  have t4:=pq_q_0 0 db n cap (Mm enc H db l4 []) 0 a b lim k (y10:=.bool bal) (y11:=.bool bb) (y13:=.int .i64 (p:Int)) (y14:=h) (y15:=Ud) (y16:=.int .i64 (m:Int)) (y17:=.bool bb) (y18:=.int .i64 ((m - a:Nat):Int)) (y19:=.int .i64 ((b - m:Nat):Int)) (y20:=Ud)
  generalize IntKind.i64.wrap (((k:Int):Int).tdiv 8)=th at t4
  have up:∀ (x:X) (E:Env) (l':List α),RT polSl 70 (sub [1,1,0,0,0,1,1,1,1,1,1,1,1,1,1,1,1] B70) (env70 (.sl db 0 n cap n 1) (.int .i64 (a:Int)) (.int .i64 (b:Int)) (.int .i64 lim) (.func 64 [] []) (.bool bal) (.bool bb) (.int .i64 (k:Int)) (.int .i64 (p:Int)) h Ud (.int .i64 (m:Int)) (.bool bb) (.int .i64 ((m - a:Nat):Int)) (.int .i64 ((b - m:Nat):Int)) (.int .i64 th)) (Mm enc H db l4 []) .normal E (Mm enc H db l' []) → Out enc lt dom H db n cap a b l4 .normal E l' →
      ∃ x E l',RT polSl 70 (sub [1,1,0,0,0,1,1,1,1,1,1,1,1] B70) (env70 (.sl db 0 n cap n 1) (.int .i64 (a:Int)) (.int .i64 (b:Int)) (.int .i64 lim) (.func 64 [] []) (.bool bal) (.bool par) (.int .i64 (k:Int)) (.int .i64 (p:Int)) h Ud Ud Ud Ud Ud Ud) (Mm enc H db l []) x E (Mm enc H db l' [])∧Out enc lt dom H db n cap a b l x E l':=fun x E l' t ho =>
    ⟨_,E,l',sq (t1) (sq (t2) (sq (t3) (sq (t4) (t) (c:=sub [1,1,0,0,0,1,1,1,1,1,1,1,1,1,1,1] B70)) (c:=sub [1,1,0,0,0,1,1,1,1,1,1,1,1,1,1] B70)) (c:=sub [1,1,0,0,0,1,1,1,1,1,1,1,1,1] B70)) (c:=sub [1,1,0,0,0,1,1,1,1,1,1,1,1] B70),Out.pre w1 ho⟩
  by_cases c:((m - a:Nat):Int) < ((b - m:Nat):Int)
  · obtain ⟨l5,hc5,v1,v2⟩:=hd a m lim l4 (by omega) (by omega) (by omega) hl0 hl1 hl4 hD4 (hF4.part rfl (by omega))
    obtain ⟨N5,hN5⟩:=hc5.from
    have hl5:=sw_len v1 hl4
    have e3:IntKind.i64.wrap ((m:Int)+1)=((m+1:Nat):Int):=wrap_succ (by omega)
    have ho:∀ (bl:Bool),Out enc lt dom H db n cap a b l4 .normal (env70 (.sl db 0 n cap n 1) (.int .i64 ((m+1:Nat):Int)) (.int .i64 (b:Int)) (.int .i64 lim) (.func 64 [] []) (.bool bl) (.bool bb) (.int .i64 (k:Int)) (.int .i64 (p:Int)) h Ud (.int .i64 (m:Int)) (.bool bb) (.int .i64 ((m - a:Nat):Int)) (.int .i64 ((b - m:Nat):Int)) (.int .i64 th)) l5:=fun bl=>by
      refine ⟨v1.mono (Nat.le_refl _) (by omega),.inr ⟨.inl rfl,m+1,b,lim,bl,bb,_,_,_,_,_,_,_,_,_,rfl,by omega,by omega,by omega,Nat.le_refl _,hl0,hl1,fun _ k h1 h2=>?_,fun l6 u1 u2=>?_⟩⟩
      · rw [show m+1 - 1=m by omega,v1.out (by omega) (k:=k) (by omega),v1.out (by omega) (k:=m) (by omega)]
        exact w4 k (by omega) h2
      · have em:at_ l6 m=at_ l4 m:=(u1.out (by omega) (k:=m) (by omega)).trans (v1.out (by omega) (k:=m) (by omega))
        refine join hL (m:=m) (fun i j q1 q2 q3=>?_) u2 (fun k q1 q2=>?_) (fun k q1 q2=>?_)
        · rw [u1.out (by omega) (k:=i) (by omega),u1.out (by omega) (k:=j) (by omega)]
          exact v2 i j q1 q2 q3
        · rw [em,u1.out (by omega) (k:=k) (by omega)]
          exact v1.all (by omega) (Q:=fun x=>lt x (at_ l4 m)) (Nat.le_refl _) (Nat.le_refl _) w3 k q1 q2
        · rw [em]
          exact u1.all (by omega) (Q:=fun x=>¬ lt x (at_ l4 m)) (lo:=m+1) (hi:=b) (Nat.le_refl _) (Nat.le_refl _) (fun i h1 h2=>by
            rw [v1.out (by omega) (k:=i) (by omega)]; exact w4 i (by omega) h2) k (by omega) q2
    by_cases c2:th ≤ ((m - a:Nat):Int)
    · have t:=pq_r_0 N5 db n cap (Mm enc H db l4 []) 0 a b lim m _ _ th (y10:=.bool bal) (y11:=.bool bb) (y12:=.int .i64 (k:Int)) (y13:=.int .i64 (p:Int)) (y14:=h) (y15:=Ud) (y17:=.bool bb) c c2 hN5
      rw [e3] at t
      exact up .normal _ l5 t (ho true)
    · have t:=pq_r_1 N5 db n cap (Mm enc H db l4 []) 0 a b lim m _ _ th (y10:=.bool bal) (y11:=.bool bb) (y12:=.int .i64 (k:Int)) (y13:=.int .i64 (p:Int)) (y14:=h) (y15:=Ud) (y17:=.bool bb) c c2 hN5
      rw [e3] at t
      exact up .normal _ l5 t (ho false)
  · have hF5:Flo lt (m+1) b l4:=fun _ k h1 h2=>by rw [show m+1 - 1=m by omega]; exact w4 k (by omega) h2
    obtain ⟨l5,hc5,v1,v2⟩:=hd (m+1) b lim l4 (by omega) (by omega) hb hl0 hl1 hl4 hD4 hF5
    obtain ⟨N5,hN5⟩:=hc5.from
    have hl5:=sw_len v1 hl4
    have e3:IntKind.i64.wrap ((m:Int)+1)=((m+1:Nat):Int):=wrap_succ (by omega)
    rw [← e3] at hN5
    have ho:∀ (bl:Bool),Out enc lt dom H db n cap a b l4 .normal (env70 (.sl db 0 n cap n 1) (.int .i64 (a:Int)) (.int .i64 (m:Int)) (.int .i64 lim) (.func 64 [] []) (.bool bl) (.bool bb) (.int .i64 (k:Int)) (.int .i64 (p:Int)) h Ud (.int .i64 (m:Int)) (.bool bb) (.int .i64 ((m - a:Nat):Int)) (.int .i64 ((b - m:Nat):Int)) (.int .i64 th)) l5:=fun bl=>by
      have hF6:=(hF4.sw (by omega) (v1.mono (a':=a) (by omega) (Nat.le_refl _))).part (b':=m) rfl (by omega)
      refine ⟨v1.mono (by omega) (Nat.le_refl _),.inr ⟨.inl rfl,a,m,lim,bl,bb,_,_,_,_,_,_,_,_,_,rfl,by omega,Nat.le_refl _,by omega,by omega,hl0,hl1,hF6,fun l6 u1 u2=>?_⟩⟩
      have em:at_ l6 m=at_ l4 m:=(u1.out (by omega) (k:=m) (by omega)).trans (v1.out (by omega) (k:=m) (by omega))
      refine join hL (m:=m) u2 (fun i j q1 q2 q3=>?_) (fun k q1 q2=>?_) (fun k q1 q2=>?_)
      · rw [u1.out (by omega) (k:=i) (by omega),u1.out (by omega) (k:=j) (by omega)]
        exact v2 i j q1 q2 q3
      · rw [em]
        exact u1.all (by omega) (Q:=fun x=>lt x (at_ l4 m)) (lo:=a) (hi:=m) (Nat.le_refl _) (Nat.le_refl _) (fun i h1 h2=>by
            rw [v1.out (by omega) (k:=i) (by omega)]; exact w3 i h1 h2) k q1 q2
      · rw [em,u1.out (by omega) (k:=k) (by omega)]
        exact v1.all (by omega) (Q:=fun x=>¬ lt x (at_ l4 m)) (Nat.le_refl _) (Nat.le_refl _) (fun i h1 h2=>w4 i (by omega) h2) k (by omega) q2
    by_cases c2:th ≤ ((b - m:Nat):Int)
    · have t:=pq_r_2 N5 db n cap (Mm enc H db l4 []) 0 a b lim m _ _ th (y10:=.bool bal) (y11:=.bool bb) (y12:=.int .i64 (k:Int)) (y13:=.int .i64 (p:Int)) (y14:=h) (y15:=Ud) (y17:=.bool bb) c c2 hN5
      exact up .normal _ l5 t (ho true)
    · have t:=pq_r_3 N5 db n cap (Mm enc H db l4 []) 0 a b lim m _ _ th (y10:=.bool bal) (y11:=.bool bb) (y12:=.int .i64 (k:Int)) (y13:=.int .i64 (p:Int)) (y14:=h) (y15:=Ud) (y17:=.bool bb) c c2 hN5
      exact up .normal _ l5 t (ho false)
theorem pq_T (S:So enc lt dom H db n) (hL:Lin lt) {a b k p:Nat} {lim:Int} {bal par:Bool} {h:HV} (hd:PdqOk enc lt dom H db n cap (b - a)) (hp1:a ≤ p) (hp2:p < b) (hb:b ≤ n) (hk:k ≤ n) (hl0:0 ≤ lim) (hl1:lim ≤ 1000) {l:List α} (hl:l.length=n) (hD:Dm dom l) (hF:Flo lt a b l) :
    ∃ x E l',RT polSl 70 (sub [1,1,0,0,0,1,1,1,1,1,1,1] B70) (env70 (.sl db 0 n cap n 1) (.int .i64 (a:Int)) (.int .i64 (b:Int)) (.int .i64 lim) (.func 64 [] []) (.bool bal) (.bool par) (.int .i64 (k:Int)) (.int .i64 (p:Int)) h Ud Ud Ud Ud Ud Ud) (Mm enc H db l []) x E (Mm enc H db l' [])∧Out enc lt dom H db n cap a b l x E l':=by
  have hn:=S.nb
  by_cases c0:0 < a
  · have hp:IntKind.i64.wrap ((a:Int) - 1)=((a - 1:Nat):Int):=wrap_pred (by omega) (by omega)
    by_cases c:lt (at_ l (a - 1)) (at_ l p)
    · obtain ⟨cc,N,hN,hc⟩:=S.ct (T:=[]) hl rfl (hD.at (i:=a - 1) (by omega)) (hD.at (i:=p) (by omega)) c
      have t1:=pq_m_0 N db n cap (Mm enc H db l []) 0 a b lim p (y10:=.bool bal) (y11:=.bool par) (y12:=.int .i64 (k:Int)) (y14:=h) (y15:=Ud) (y16:=Ud) (y17:=Ud) (y18:=Ud) (y19:=Ud) (y20:=Ud) (by omega) (ixs hp (by omega)) (S.ld l _ _ hl (by omega)) (ixs (i:=p) rfl (by omega)) (S.ld l _ _ hl (by omega)) hN hc
      obtain ⟨x,E,l',t,ho⟩:=pq_S S hL (cap:=cap) (k:=k) (bal:=bal) (par:=par) (h:=h) hd hp1 hp2 hb hk hl0 hl1 hl hD hF
      exact ⟨x,E,l',sq t1 t (c:=sub [1,1,0,0,0,1,1,1,1,1,1,1] B70),ho⟩
    · obtain ⟨cc,N,hN,hc⟩:=S.cf (T:=[]) hl rfl (hD.at (i:=a - 1) (by omega)) (hD.at (i:=p) (by omega)) c
      obtain ⟨m,l4,hc4,w1,w2,w3,w4⟩:=peq_ok S (cap:=cap) (T:=[]) hL rfl hb hp1 hp2 hl hD
      obtain ⟨N4,hN4⟩:=hc4.from
      have t1:=pq_m_1 (N+N4) db n cap (Mm enc H db l []) 0 a b lim p (y10:=.bool bal) (y11:=.bool par) (y12:=.int .i64 (k:Int)) (y14:=h) (y15:=Ud) (y16:=Ud) (y17:=Ud) (y18:=Ud) (y19:=Ud) (y20:=Ud) (by omega) (ixs hp (by omega)) (S.ld l _ _ hl (by omega)) (ixs (i:=p) rfl (by omega)) (S.ld l _ _ hl (by omega)) (fun kf hk=>hN kf (by omega)) hc (fun kf hk=>hN4 kf (by omega))
      have hlow:∀ k,a ≤ k → k < b → ¬ lt (at_ l4 k) (at_ l (a - 1)):=w1.all (by omega) (Q:=fun x=>¬ lt x (at_ l (a - 1))) (Nat.le_refl _) (Nat.le_refl _) (hF c0)
      refine ⟨_,_,l4,sqo t1 (c:=sub [1,1,0,0,0,1,1,1,1,1,1,1] B70) (b:=sub [1,1,0,0,0,1,1,1,1,1,1,1,1] B70),w1,.inr ⟨.inr rfl,m,b,lim,bal,par,_,_,_,_,_,_,_,_,_,rfl,by omega,by omega,by omega,Nat.le_refl _,hl0,hl1,fun _ k h1 h2=>?_,fun l5 u1 u2=>?_⟩⟩
      · exact hL.tr _ _ _ (w3 (m - 1) (by omega) (by omega)) (hL.asy _ _ (w4 k h1 h2))
      · have hl4:=sw_len w1 hl
        have hr:∀ k,m ≤ k → k < b → lt (at_ l p) (at_ l5 k):=u1.all (by omega) (Q:=fun x=>lt (at_ l p) x) (Nat.le_refl _) (Nat.le_refl _) w4
        intro i j q1 q2 q3
        by_cases c1:j < m
        · rw [u1.out (by omega) (k:=i) (by omega),u1.out (by omega) (k:=j) (by omega)]
          exact hL.tr _ _ _ (hL.tr _ _ _ (w3 i q1 (by omega)) c) (hlow j (by omega) q3)
        · by_cases c2:i < m
          · rw [u1.out (by omega) (k:=i) (by omega)]
            exact hL.tr _ _ _ (w3 i q1 c2) (hL.asy _ _ (hr j (by omega) q3))
          · exact u2 i j (by omega) q2 q3
  · have t1:=pq_m_2 0 db n cap (Mm enc H db l []) 0 a b lim p (y10:=.bool bal) (y11:=.bool par) (y12:=.int .i64 (k:Int)) (y14:=h) (y15:=Ud) (y16:=Ud) (y17:=Ud) (y18:=Ud) (y19:=Ud) (y20:=Ud) (by omega)
    obtain ⟨x,E,l',t,ho⟩:=pq_S S hL (cap:=cap) (k:=k) (bal:=bal) (par:=par) (h:=h) hd hp1 hp2 hb hk hl0 hl1 hl hD hF
    exact ⟨x,E,l',sq t1 t (c:=sub [1,1,0,0,0,1,1,1,1,1,1,1] B70),ho⟩
theorem pq_U (S:So enc lt dom H db n) (hL:Lin lt) {a b k p:Nat} {lim h:Int} {bal par:Bool} (hd:PdqOk enc lt dom H db n cap (b - a)) (hp1:a ≤ p) (hp2:p < b) (hb:b ≤ n) (hk:k ≤ n) (hl0:0 ≤ lim) (hl1:lim ≤ 1000) {l:List α} (hl:l.length=n) (hD:Dm dom l) (hF:Flo lt a b l) :
    ∃ x E l',RT polSl 70 (sub [1,1,0,0,0,1,1,1,1,1,1] B70) (env70 (.sl db 0 n cap n 1) (.int .i64 (a:Int)) (.int .i64 (b:Int)) (.int .i64 lim) (.func 64 [] []) (.bool bal) (.bool par) (.int .i64 (k:Int)) (.int .i64 (p:Int)) (.int .i64 h) Ud Ud Ud Ud Ud Ud) (Mm enc H db l []) x E (Mm enc H db l' [])∧Out enc lt dom H db n cap a b l x E l':=by
  have hn:=S.nb
  have on:∀ (l3:List α),Sw a b l l3 → RT polSl 70 (sub [1,1,0,0,0,1,1,1,1,1,1,0] B70) (env70 (.sl db 0 n cap n 1) (.int .i64 (a:Int)) (.int .i64 (b:Int)) (.int .i64 lim) (.func 64 [] []) (.bool bal) (.bool par) (.int .i64 (k:Int)) (.int .i64 (p:Int)) (.int .i64 h) Ud Ud Ud Ud Ud Ud) (Mm enc H db l []) .normal (env70 (.sl db 0 n cap n 1) (.int .i64 (a:Int)) (.int .i64 (b:Int)) (.int .i64 lim) (.func 64 [] []) (.bool bal) (.bool par) (.int .i64 (k:Int)) (.int .i64 (p:Int)) (.int .i64 h) Ud Ud Ud Ud Ud Ud) (Mm enc H db l3 []) →
      ∃ x E l',RT polSl 70 (sub [1,1,0,0,0,1,1,1,1,1,1] B70) (env70 (.sl db 0 n cap n 1) (.int .i64 (a:Int)) (.int .i64 (b:Int)) (.int .i64 lim) (.func 64 [] []) (.bool bal) (.bool par) (.int .i64 (k:Int)) (.int .i64 (p:Int)) (.int .i64 h) Ud Ud Ud Ud Ud Ud) (Mm enc H db l []) x E (Mm enc H db l' [])∧Out enc lt dom H db n cap a b l x E l':=fun l3 w t1=>by
    obtain ⟨x,E,l',t,ho⟩:=pq_T S hL (cap:=cap) (k:=k) (bal:=bal) (par:=par) (h:=.int .i64 h) hd hp1 hp2 hb hk hl0 hl1 (sw_len w hl) (hD.sw w (by omega)) (hF.sw (by omega) w)
    exact ⟨x,E,l',sq t1 t (c:=sub [1,1,0,0,0,1,1,1,1,1,1] B70),Out.pre w ho⟩
  cases bal with
  | false=>exact on l .refl (pq_l_0 0 db n cap (Mm enc H db l []) 0 a b lim h)
  | true =>
    cases par with
    | false=>exact on l .refl (pq_k_0 0 db n cap (Mm enc H db l []) 0 a b lim h)
    | true =>
      by_cases c:h=1
      · obtain ⟨bb,l3,hc3,w1,w2⟩:=pin_ok S hL (cap:=cap) (T:=[]) rfl (a:=a) (by omega) hb hl hD hF
        obtain ⟨N3,hN3⟩:=hc3.from
        cases bb with
        | true =>
          have t1:=pq_j_0 N3 db n cap (Mm enc H db l []) 0 a b lim h (y12:=.int .i64 (k:Int)) (y13:=.int .i64 (p:Int)) (y15:=Ud) (y16:=Ud) (y17:=Ud) (y18:=Ud) (y19:=Ud) (y20:=Ud) c hN3
          exact ⟨_,_,l3,sqo t1 (c:=sub [1,1,0,0,0,1,1,1,1,1,1] B70) (b:=sub [1,1,0,0,0,1,1,1,1,1,1,1] B70),w1,.inl ⟨rfl,w2 rfl⟩⟩
        | false=>exact on l3 w1 (pq_j_1 N3 db n cap (Mm enc H db l []) 0 a b lim h c hN3)
      · exact on l .refl (pq_j_2 0 db n cap (Mm enc H db l []) 0 a b lim h c)
theorem pq_V (S:So enc lt dom H db n) (hL:Lin lt) {a b k p:Nat} {lim h:Int} {bal par:Bool} (hd:PdqOk enc lt dom H db n cap (b - a)) (hp1:a ≤ p) (hp2:p < b) (hb:b ≤ n) (hk:k ≤ n) (hl0:0 ≤ lim) (hl1:lim ≤ 1000) {l:List α} (hl:l.length=n) (hD:Dm dom l) (hF:Flo lt a b l) :
    ∃ x E l',RT polSl 70 (sub [1,1,0,0,0,1,1,1,1,1] B70) (env70 (.sl db 0 n cap n 1) (.int .i64 (a:Int)) (.int .i64 (b:Int)) (.int .i64 lim) (.func 64 [] []) (.bool bal) (.bool par) (.int .i64 (k:Int)) (.int .i64 (p:Int)) (.int .i64 h) Ud Ud Ud Ud Ud Ud) (Mm enc H db l []) x E (Mm enc H db l' [])∧Out enc lt dom H db n cap a b l x E l':=by
  have hn:=S.nb
  by_cases c:h=2
  · obtain ⟨l2,hc2,w⟩:=rvs_ok S (cap:=cap) (T:=[]) (a:=a) (b:=b) (by omega) hb hl
    obtain ⟨N2,hN2⟩:=hc2.from
    have t1:=pq_i_0 N2 db n cap (Mm enc H db l []) 0 a b lim p h (y10:=.bool bal) (y11:=.bool par) (y12:=.int .i64 (k:Int)) (y15:=Ud) (y16:=Ud) (y17:=Ud) (y18:=Ud) (y19:=Ud) (y20:=Ud) c hN2
    have e1:IntKind.i64.wrap ((b:Int) - 1)=((b - 1:Nat):Int):=wrap_pred (by omega) (by omega)
    have e2:IntKind.i64.wrap ((p:Int) - (a:Int))=((p - a:Nat):Int):=(by rw [wrap_id (by omega) (by omega)]; omega)
    have e3:IntKind.i64.wrap (((b - 1:Nat):Int) - ((p - a:Nat):Int))=((b - 1 - (p - a):Nat):Int):=(by rw [wrap_id (by omega) (by omega)]; omega)
    rw [e1,e2,e3] at t1
    obtain ⟨x,E,l',t,ho⟩:=pq_U S hL (cap:=cap) (k:=k) (p:=b - 1 - (p - a)) (bal:=bal) (par:=par) (h:=1) hd (by omega) (by omega) hb hk hl0 hl1 (sw_len w hl) (hD.sw w (by omega)) (hF.sw (by omega) w)
    exact ⟨x,E,l',sq t1 t (c:=sub [1,1,0,0,0,1,1,1,1,1] B70),Out.pre w ho⟩
  · have t1:=pq_i_1 0 db n cap (Mm enc H db l []) 0 a b lim p h (y10:=.bool bal) (y11:=.bool par) (y12:=.int .i64 (k:Int)) (y15:=Ud) (y16:=Ud) (y17:=Ud) (y18:=Ud) (y19:=Ud) (y20:=Ud) c
    obtain ⟨x,E,l',t,ho⟩:=pq_U S hL (cap:=cap) (k:=k) (p:=p) (bal:=bal) (par:=par) (h:=h) hd hp1 hp2 hb hk hl0 hl1 hl hD hF
    exact ⟨x,E,l',sq t1 t (c:=sub [1,1,0,0,0,1,1,1,1,1] B70),ho⟩
theorem pq_B (S:So enc lt dom H db n) (hL:Lin lt) {a b:Nat} {lim:Int} {bal par:Bool} (hd:PdqOk enc lt dom H db n cap (b - a)) (hab:a ≤ b) (hb:b ≤ n) (hl0:0 ≤ lim) (hl1:lim ≤ 1000) {l:List α} (hl:l.length=n) (hD:Dm dom l) (hF:Flo lt a b l) :
    ∃ x E l',RT polSl 70 (sub [1,1,0,0,0] B70) (env70 (.sl db 0 n cap n 1) (.int .i64 (a:Int)) (.int .i64 (b:Int)) (.int .i64 lim) (.func 64 [] []) (.bool bal) (.bool par) Ud Ud Ud Ud Ud Ud Ud Ud Ud) (Mm enc H db l []) x E (Mm enc H db l' [])∧Out enc lt dom H db n cap a b l x E l':=by
  have hn:=S.nb
  have t0:=pq_c_0 0 db n cap (Mm enc H db l []) 0 a b lim (y10:=.bool bal) (y11:=.bool par) (y12:=Ud) (y13:=Ud) (y14:=Ud) (y15:=Ud) (y16:=Ud) (y17:=Ud) (y18:=Ud) (y19:=Ud) (y20:=Ud)
  have e0:IntKind.i64.wrap ((b:Int) - (a:Int))=((b - a:Nat):Int):=(by rw [wrap_id (by omega) (by omega)]; omega)
  rw [e0] at t0
  by_cases c1:b - a ≤ 12
  · obtain ⟨l',hc,w1,w2⟩:=ins_ok S hL (cap:=cap) (T:=[]) rfl hab hb hl hD
    obtain ⟨N1,hN1⟩:=hc.from
    have t1:=pq_d_0 N1 db n cap (Mm enc H db l []) 0 a b lim (b - a) (y10:=.bool bal) (y11:=.bool par) (y13:=Ud) (y14:=Ud) (y15:=Ud) (y16:=Ud) (y17:=Ud) (y18:=Ud) (y19:=Ud) (y20:=Ud) (by omega) hN1
    exact ⟨_,_,l',sq (t0) (sqo (t1) (c:=sub [1,1,0,0,0,1] B70) (b:=sub [1,1,0,0,0,1,1] B70)) (c:=sub [1,1,0,0,0] B70),w1,.inl ⟨rfl,w2⟩⟩
  have t1:=pq_d_1 0 db n cap (Mm enc H db l []) 0 a b lim (b - a) (y10:=.bool bal) (y11:=.bool par) (y13:=Ud) (y14:=Ud) (y15:=Ud) (y16:=Ud) (y17:=Ud) (y18:=Ud) (y19:=Ud) (y20:=Ud) (by omega)
  by_cases c2:lim=0
  · obtain ⟨l',hc,w1,w2⟩:=heap_ok S hL (cap:=cap) (T:=[]) rfl (a:=a) (by omega) hb hl hD
    obtain ⟨N1,hN1⟩:=hc.from
    have t2:=pq_e_0 N1 db n cap (Mm enc H db l []) 0 a b lim (y10:=.bool bal) (y11:=.bool par) (y12:=.int .i64 ((b - a:Nat):Int)) (y13:=Ud) (y14:=Ud) (y15:=Ud) (y16:=Ud) (y17:=Ud) (y18:=Ud) (y19:=Ud) (y20:=Ud) c2 hN1
    exact ⟨_,_,l',sq (t0) (sq (t1) (sqo (t2) (c:=sub [1,1,0,0,0,1,1] B70) (b:=sub [1,1,0,0,0,1,1,1] B70)) (c:=sub [1,1,0,0,0,1] B70)) (c:=sub [1,1,0,0,0] B70),w1,.inl ⟨rfl,w2⟩⟩
  have t2:=pq_e_1 0 db n cap (Mm enc H db l []) 0 a b lim (y10:=.bool bal) (y11:=.bool par) (y12:=.int .i64 ((b - a:Nat):Int)) (y13:=Ud) (y14:=Ud) (y15:=Ud) (y16:=Ud) (y17:=Ud) (y18:=Ud) (y19:=Ud) (y20:=Ud) c2
  have on:∀ (lim1:Int) (l1:List α),0 ≤ lim1 → lim1 ≤ 1000 → Sw a b l l1 → RT polSl 70 (sub [1,1,0,0,0,1,1,1,0] B70) (env70 (.sl db 0 n cap n 1) (.int .i64 (a:Int)) (.int .i64 (b:Int)) (.int .i64 lim) (.func 64 [] []) (.bool bal) (.bool par) (.int .i64 ((b - a:Nat):Int)) Ud Ud Ud Ud Ud Ud Ud Ud) (Mm enc H db l []) .normal (env70 (.sl db 0 n cap n 1) (.int .i64 (a:Int)) (.int .i64 (b:Int)) (.int .i64 lim1) (.func 64 [] []) (.bool bal) (.bool par) (.int .i64 ((b - a:Nat):Int)) Ud Ud Ud Ud Ud Ud Ud Ud) (Mm enc H db l1 []) →
      ∃ x E l',RT polSl 70 (sub [1,1,0,0,0] B70) (env70 (.sl db 0 n cap n 1) (.int .i64 (a:Int)) (.int .i64 (b:Int)) (.int .i64 lim) (.func 64 [] []) (.bool bal) (.bool par) Ud Ud Ud Ud Ud Ud Ud Ud Ud) (Mm enc H db l []) x E (Mm enc H db l' [])∧Out enc lt dom H db n cap a b l x E l':=fun lim1 l1 hq0 hq1 w t3=>by
    have hl1':=sw_len w hl
    have hD1:=hD.sw w (by omega)
    obtain ⟨p,h,hc,p1,p2⟩:=piv_ok S (cap:=cap) (a:=a) (b:=b) (by omega) hb hl1' hD1
    obtain ⟨N1,hN1⟩:=hc.from
    have t4:=pq_h_0 N1 db n cap (Mm enc H db l1 []) 0 a b lim1 (y10:=.bool bal) (y11:=.bool par) (y12:=.int .i64 ((b - a:Nat):Int)) (y13:=Ud) (y14:=Ud) (y15:=Ud) (y16:=Ud) (y17:=Ud) (y18:=Ud) (y19:=Ud) (y20:=Ud) hN1
    obtain ⟨x,E,l',t,ho⟩:=pq_V S hL (cap:=cap) (k:=b - a) (p:=p) (bal:=bal) (par:=par) (h:=h) hd p1 p2 hb (by omega) hq0 hq1 hl1' hD1 (hF.sw (by omega) w)
    have t5:=sq t4 t (c:=sub [1,1,0,0,0,1,1,1,1] B70)
    have t6:=sq t3 t5 (c:=sub [1,1,0,0,0,1,1,1] B70)
    have t7:=sq t2 t6 (c:=sub [1,1,0,0,0,1,1] B70)
    have t8:=sq t1 t7 (c:=sub [1,1,0,0,0,1] B70)
    exact ⟨x,E,l',sq t0 t8 (c:=sub [1,1,0,0,0] B70),Out.pre w ho⟩
  cases bal with
  | true=>exact on lim l hl0 hl1 .refl (pq_f_0 0 db n cap (Mm enc H db l []) 0 a b lim)
  | false =>
    obtain ⟨l1,hc,w⟩:=brk_ok S (cap:=cap) (a:=a) (b:=b) (by omega) hb hl
    obtain ⟨N1,hN1⟩:=hc.from
    have t3:=pq_g_0 N1 db n cap (Mm enc H db l []) 0 a b lim (y11:=.bool par) (y12:=.int .i64 ((b - a:Nat):Int)) (y13:=Ud) (y14:=Ud) (y15:=Ud) (y16:=Ud) (y17:=Ud) (y18:=Ud) (y19:=Ud) (y20:=Ud) hN1
    rw [wrap_id (n:=lim - 1) (by omega) (by omega)] at t3
    exact on (lim - 1) l1 (by omega) (by omega) w t3
theorem pq_loop (S:So enc lt dom H db n) (hL:Lin lt):∀ (d:Nat) (a b:Nat) (lim:Int) (bal par:Bool) (l:List α),b - a < d → PdqOk enc lt dom H db n cap (b - a) → a ≤ b → b ≤ n → 0 ≤ lim → lim ≤ 1000 → l.length=n → Dm dom l → Flo lt a b l →
    ∃ E l',RT polSl 70 (sub [1,1,0] B70) (env70 (.sl db 0 n cap n 1) (.int .i64 (a:Int)) (.int .i64 (b:Int)) (.int .i64 lim) (.func 64 [] []) (.bool bal) (.bool par) Ud Ud Ud Ud Ud Ud Ud Ud Ud) (Mm enc H db l []) .ret E (Mm enc H db l' [])∧Sw a b l l'∧Sorted lt a b l':=by
  have hn:=S.nb
  intro d
  induction d with
  | zero=>intro a b lim bal par l hd; omega
  | succ d ih =>
    intro a b lim bal par l hd hP hab hb h0 h1 hl hD hF
    obtain ⟨x,E,l1,t,w,ho⟩:=pq_B S hL (cap:=cap) (bal:=bal) (par:=par) hP hab hb h0 h1 hl hD hF
    rcases ho with ⟨rfl,hs⟩ | ⟨hx,a',b',lim',bal',par',y2,y3,y4,y5,y6,y7,y8,y9,y10,rfl,q1,q2,q3,q4,q5,q6,q7,q8⟩
    · exact ⟨_,l1,lpo (RunsTo.block_ret (i:=1) (c:=sub [1,1,0,0] B70) t (by kernel_rfl)),w,hs⟩
    · have st:RT polSl 70 (sub [1,1,0,0] B70) (env70 (.sl db 0 n cap n 1) (.int .i64 (a:Int)) (.int .i64 (b:Int)) (.int .i64 lim) (.func 64 [] []) (.bool bal) (.bool par) Ud Ud Ud Ud Ud Ud Ud Ud Ud) (Mm enc H db l []) .normal (env70 (.sl db 0 n cap n 1) (.int .i64 (a':Int)) (.int .i64 (b':Int)) (.int .i64 lim') (.func 64 [] []) (.bool bal') (.bool par') y2 y3 y4 y5 y6 y7 y8 y9 y10) (Mm enc H db l1 []):=by
        rcases hx with rfl | rfl
        · exact RunsTo.block_normal (i:=1) t (by kernel_rfl)
        · exact bke t
      have hl1:=sw_len w hl
      obtain ⟨E,l2,r,v1,v2⟩:=ih a' b' lim' bal' par' l1 (by omega) (fun a2 b2 lim2 l2 g1=>hP a2 b2 lim2 l2 (by omega)) q3 (by omega) q5 q6 hl1 (hD.sw w (by omega)) q7
      exact ⟨E,l2,lop (st) (gcM _ _ _ _ _ rfl) (r),w.trans (v1.mono q2 q4),q8 l2 v1 v2⟩
theorem pdq_of (S:So enc lt dom H db n) (hL:Lin lt) {a b:Nat} {lim:Int} {l:List α} (hP:PdqOk enc lt dom H db n cap (b - a)) (hab:a ≤ b) (hb:b ≤ n) (h0:0 ≤ lim) (h1:lim ≤ 1000) (hl:l.length=n) (hD:Dm dom l) (hF:Flo lt a b l) :
    ∃ l',ClL 70 [.sl db 0 n cap n 1,.int .i64 (a:Int),.int .i64 (b:Int),.int .i64 lim,.func 64 [] []] (Mm enc H db l []) (.tuple []) (Mm enc H db l' [])∧Sw a b l l'∧Sorted lt a b l':=by
  obtain ⟨E,l',r,q⟩:=pq_loop S hL (cap:=cap) _ a b lim true true l (Nat.lt_succ_self _) hP hab hb h0 h1 hl hD hF
  have t0:=pq_a_0 0 db n cap (Mm enc H db l []) 0 a b lim
  have t1:=pq_b_0 0 db n cap (Mm enc H db l []) 0 a b lim (y10:=.bool true) (y11:=Ud) (y12:=Ud) (y13:=Ud) (y14:=Ud) (y15:=Ud) (y16:=Ud) (y17:=Ud) (y18:=Ud) (y19:=Ud) (y20:=Ud)
  have t:=sq (t0) (sq (t1) (RunsTo.block_ret (i:=0) (c:=sub [1,1] B70) (r) (by kernel_rfl)) (c:=sub [1] B70)) (c:=B70)
  have hc:=CallsTo.shared (P:=Tp) (pol:=polSl) (g:=70) (fn:=Try.f70) (cd:=B70) (args:=[.sl db 0 n cap n 1,.int .i64 (a:Int),.int .i64 (b:Int),.int .i64 lim,.func 64 [] []]) (v:=.tuple []) (by kernel_rfl) (by kernel_rfl) (by kernel_rfl) (by kernel_rfl) t (by kernel_rfl) (by simp) (by kernel_rfl)
  rw [gcM _ _ _ _ _ rfl] at hc
  exact ⟨l',hc,q⟩
theorem pdq_all (S:So enc lt dom H db n) (hL:Lin lt):∀ d,PdqOk enc lt dom H db n cap d
  | 0,_,_,_,_,h=>by omega
  | d+1,a,b,lim,l,h=>fun hab hb h0 h1 hl hD hF=>pdq_of S hL (fun a2 b2 lim2 l2 g=>pdq_all S hL d a2 b2 lim2 l2 (by omega)) hab hb h0 h1 hl hD hF
theorem pdq_ok (S:So enc lt dom H db n) (hL:Lin lt) {lim:Int} (h0:0 ≤ lim) (h1:lim ≤ 1000) {l:List α} (hl:l.length=n) (hD:Dm dom l) :
    ∃ l',ClL 70 [.sl db 0 n cap n 1,.int .i64 0,.int .i64 (n:Int),.int .i64 lim,.func 64 [] []] (Mm enc H db l []) (.tuple []) (Mm enc H db l' [])∧l'.Perm l∧Sorted lt 0 n l':=by
  obtain ⟨l',hc,w,hs⟩:=pdq_all S hL (cap:=cap) (n+1) 0 n lim l (by omega) (Nat.zero_le _) (Nat.le_refl _) h0 h1 hl hD (fun h=>by omega)
  exact ⟨l',hc,w.perm (by omega),hs⟩
end
end Go.Proofs.Ytaibmipamkaljaa
end
section
open Go Go.HL Go.HL.So
namespace Go.Proofs.Ytaibmipamkaljaa
open Go.Proofs.Try renaming prog → Tp
open Go.HL.HV renaming undef → Ud
def ltL (a b:List Int):Prop:=a.getD 0 0 < b.getD 0 0 ∨ (a.getD 0 0=b.getD 0 0∧a.getD 1 0 < b.getD 1 0)
theorem ltL_lin:Lin ltL:=by
  refine ⟨fun x y z h1 h2=>?_,fun x y h=>?_⟩
  · unfold ltL at *; omega
  · unfold ltL at *; omega
theorem cmpL_lt {s:Nat} (hs:s=1 ∨ s=2) {a b:List Int} (ha:a.length=s) (hb:b.length=s):∃ c,cmpL a b=some c∧(c < 0 ↔ ltL a b):=by
  rcases hs with rfl | rfl
  · match a,b,ha,hb with
    | [x],[y],_,_ =>
      refine ⟨_,rfl,?_⟩
      simp only [cmpI,ltL,List.getD_cons_zero]
      have:([x]:List Int).getD 1 0=0:=rfl
      have:([y]:List Int).getD 1 0=0:=rfl
      split
      · simp; omega
      · split <;> simp <;> omega
  · match a,b,ha,hb with
    | [x,x'],[y,y'],_,_ =>
      refine ⟨_,rfl,?_⟩
      have e1:([x,x']:List Int).getD 1 0=x':=rfl
      have e2:([y,y']:List Int).getD 1 0=y':=rfl
      simp only [cmpI,ltL,List.getD_cons_zero,e1,e2]
      by_cases c1:x < y
      · simp [c1]
      · by_cases c2:y < x
        · simp [c1,c2]; omega
        · have e:x=y:=by omega
          subst e
          by_cases c3:x' < y'
          · simp [c3]
          · by_cases c4:y' < x' <;> simp [c3,c4]
theorem So.list {s:Nat} (hs:s=1 ∨ s=2) {H:Heap} {db n:Nat} (hn:n ≤ 60000) (hd:db < H.length) (hx:mxs H ≤ H.length):So encO ltL (fun x=>x.length=s) H db n:=by
  have hb:∀ (l:List (List Int)) (T:Heap),(Mm encO H db l T)[db]?=some (.arr 1 (l.map encO) true 0):=fun l T=>by
    unfold Mm
    rw [List.getElem?_append_left (by simpa using hd),List.getElem?_set_self hd]
    rfl
  refine ⟨hn,hd,hx,fun l T i hl hi=>?_,fun l T i x hl hi=>?_,fun l T x y hl hT h1 h2=>?_⟩
  · exact load_elem (b:=db) (hb l T) (by simp [hl]) (by rw [List.getElem?_map,List.getElem?_eq_getElem (by omega)]; simp [at_,List.getD,List.getElem?_eq_getElem (show i < l.length by omega)]) rfl a22 i22
  · have hi':(l.map encO)[i]?=some (encO (at_ l i)):=by rw [List.getElem?_map,List.getElem?_eq_getElem (by omega)]; simp [at_,List.getD,List.getElem?_eq_getElem (show i < l.length by omega)]
    have:=store_elem (P:=Tp) (t:=22) (b:=db) (tot:=n) (v:=encO x) (hb l T) (by simp [hl]) hi' rfl (by intro cs h; cases h) z22 rfl rfl rfl
    rw [this]
    congr 1
    unfold Mm
    rw [List.set_append_left _ _ (by simpa using hd),List.set_set]
    congr 2
    unfold bE
    congr 1
    rw [List.map_set]
  · obtain ⟨c,c1,c2⟩:=cmpL_lt hs h1 h2
    refine ⟨c,0,fun kf _=>?_,c2⟩
    have hx:=argI_own (Mm encO H db l T) x
    have hy:=argI_own (Mm encO H db l T) y
    unfold argI at hx hy
    have hd:mapO decI (x.map encI)=some x:=mapO_map decI_enc x
    have hd2:mapO decI (y.map encI)=some y:=mapO_map decI_enc y
    rw [prim_call (pol:=polSl) (g:=64) (F:=compare64) (by kernel_rfl) (rs:=[.imm .arg 1 (x.map encI),.imm .arg 1 (y.map encI)]) (by simp only [mapO,encO,hx,hy]) (res:=.int .i64 c) (by simp only [compare64,hd,hd2,c1]; rfl)]
    rfl
theorem MmO_self {H:Heap} {db:Nat} {l:List (List Int)} (h:H[db]?=some (.arr 1 (l.map encO) true 0)):Mm encO H db l []=H:=by
  unfold Mm
  rw [List.append_nil]
  apply List.ext_getElem?
  intro i
  by_cases e:db=i
  · subst e; rw [List.getElem?_set_self (lt_of_get h),h]; rfl
  · rw [List.getElem?_set_ne e]
theorem sortL_ok {s:Nat} (hs:s=1 ∨ s=2) {H:Heap} {db n:Nat} {cap:Option Nat} {l:List (List Int)} (hn:n ≤ 60000) (hl:l.length=n) (hb:H[db]?=some (.arr 1 (l.map encO) true 0)) (hx:mxs H ≤ H.length) (hD:∀ x ∈ l,x.length=s) :
    ∃ l',ClL 63 [.sl db 0 n cap n 1,.func 64 [] []] H (.tuple []) (H.set db (.arr 1 (l'.map encO) true 0))∧l'.Perm l∧Sorted ltL 0 l'.length l':=by
  have hd:=lt_of_get hb
  have S:=So.list hs (n:=n) hn hd hx
  have hlen:=lenN_ok (x:=n) (by omega)
  obtain ⟨l',hc,h1,h2⟩:=pdq_ok S ltL_lin (cap:=cap) (lim:=(lenN n:Int)) (by omega) (by omega) hl hD
  obtain ⟨N,hN⟩:=hc.from
  rw [MmO_self hb] at hN
  have hu:IntKind.u64.wrap (n:Int)=(n:Int):=by rw [wrapU64]; omega
  have t:=st_a_0 N db n cap H 0 (m0:=(lenN n:Int)) (H0:=H) (fun kf _=>by
    rw [hu,prim_call (pol:=polSl) (g:=68) (F:=len82) (by kernel_rfl) (rs:=[.int .u64 (n:Int)]) rfl (res:=.int .i64 (lenN n:Int)) (by simp only [len82]; rw [if_pos (by omega),Int.toNat_natCast])]; rfl) hN
  have hc2:=CallsTo.shared (P:=Tp) (pol:=polSl) (g:=63) (fn:=Try.f63) (cd:=B63) (args:=[.sl db 0 n cap n 1,.func 64 [] []]) (v:=.tuple []) (by kernel_rfl) (by kernel_rfl) (by kernel_rfl) (by kernel_rfl) t (by kernel_rfl) (by simp) (by kernel_rfl)
  have e:Mm encO H db l' []=H.set db (.arr 1 (l'.map encO) true 0):=by unfold Mm; rw [List.append_nil]; rfl
  rw [e,gc_eq _ (by simp)] at hc2
  exact ⟨l',hc2,h1,by rw [h1.length_eq,hl]; exact h2⟩
end Go.Proofs.Ytaibmipamkaljaa
end
section
open Go Go.HL
namespace Go.Proofs.Ytaibmipamkaljaa
set_option maxRecDepth 100000
open Go.Proofs.Try renaming prog → Tp
open Go.HL.HV renaming undef → Ud
noncomputable def B39:Code:=Try.f39.body.getD .skip
abbrev env39 (v0 v1 v4 v5 v6 v7 v8 v9 v11 v12 v13 v14 v15 v32 v33 v34 v42 v57:HV):Env:=[(0,v0),(1,v1),(4,v4),(5,v5),(6,v6),(7,v7),(8,v8),(9,v9),(11,v11),(12,v12),(13,v13),(14,v14),(15,v15),(32,v32),(33,v33),(34,v34),(42,v42),(57,v57)]
theorem su_a_0 (l rw:List HV) :RT polSl 39 (sub [0] B39) [(0,.a l),(1,.a rw)] [] .normal (env39 (.a l) (.a rw) (.imm .lit 1 []) (.i 0) Ud Ud Ud Ud Ud Ud Ud Ud Ud Ud Ud Ud Ud Ud) [] :=
  RunsTo.hin 0 60 [] fun kf hk=>⟨_,by kernel_rfl,.nil⟩
theorem su_b_0 (l rw:List HV)  {y6 y7 y8 y9 y11 y12 y13 y14 y15 y32 y33 y34 y42 y57:HV} {m0:Int} {m1:Int} {sz:Int} (g0:∀ kf,callN Tp polSl (kf+1) 55 [.a l] []=some (.tuple [.agg [.i m0,.i m1,.i sz],.bool true],[])):RT polSl 39 (sub [1,0] B39) (env39 (.a l) (.a rw) (.imm .lit 1 []) (.i 0) y6 y7 y8 y9 y11 y12 y13 y14 y15 y32 y33 y34 y42 y57) [] .normal (env39 (.a l) (.a rw) (.imm .lit 1 []) (.i 0) (.ptr 0 0 0 1) (.bool true) y8 y9 y11 y12 y13 y14 y15 y32 y33 y34 y42 y57) [.arr 3 [.agg [.i m0,.i m1,.i sz]] true 0] :=
  RunsTo.hin 0 60 [⟨1,1,.tuple [.agg [.i m0,.i m1,.i sz],.bool true],[]⟩] fun kf hk=>⟨_,by kernel_rfl,(oC (g0 kf) .nil)⟩
theorem su_b_1 (l rw:List HV)  {y6 y7 y8 y9 y11 y12 y13 y14 y15 y32 y33 y34 y42 y57:HV} {m0:Int} {m1:Int} {sz:Int} (g0:∀ kf,callN Tp polSl (kf+1) 55 [.a l] []=some (.tuple [.agg [.i m0,.i m1,.i sz],.bool false],[])):RT polSl 39 (sub [1,0] B39) (env39 (.a l) (.a rw) (.imm .lit 1 []) (.i 0) y6 y7 y8 y9 y11 y12 y13 y14 y15 y32 y33 y34 y42 y57) [] .normal (env39 (.a l) (.a rw) (.imm .lit 1 []) (.i 0) (.ptr 0 0 0 1) (.bool false) y8 y9 y11 y12 y13 y14 y15 y32 y33 y34 y42 y57) [.arr 3 [.agg [.i m0,.i m1,.i sz]] true 0] :=
  RunsTo.hin 0 60 [⟨1,1,.tuple [.agg [.i m0,.i m1,.i sz],.bool false],[]⟩] fun kf hk=>⟨_,by kernel_rfl,(oC (g0 kf) .nil)⟩
theorem su_ct_0 (l rw:List HV) (m0 m1 sz:Int) {y8 y9 y11 y12 y13 y14 y15 y32 y33 y34 y42 y57:HV}:RT polSl 39 (sub [1,1,0] B39) (env39 (.a l) (.a rw) (.imm .lit 1 []) (.i 0) (.ptr 0 0 0 1) (.bool true) y8 y9 y11 y12 y13 y14 y15 y32 y33 y34 y42 y57) [.arr 3 [.agg [.i m0,.i m1,.i sz]] true 0] .normal (env39 (.a l) (.a rw) (.imm .lit 1 []) (.i 0) (.ptr 0 0 0 1) (.bool true) y8 y9 y11 y12 y13 y14 y15 y32 y33 y34 y42 y57) [.arr 3 [.agg [.i m0,.i m1,.i sz]] true 0] :=
  RunsTo.hin 0 60 [] fun kf hk=>⟨_,by kernel_rfl,.nil⟩
theorem su_cf_0 (l rw:List HV) (m0 m1 sz:Int) {y8 y9 y11 y12 y13 y14 y15 y32 y33 y34 y42 y57:HV}:RT polSl 39 (sub [1,1,0] B39) (env39 (.a l) (.a rw) (.imm .lit 1 []) (.i 0) (.ptr 0 0 0 1) (.bool false) y8 y9 y11 y12 y13 y14 y15 y32 y33 y34 y42 y57) [.arr 3 [.agg [.i m0,.i m1,.i sz]] true 0] .ret (env39 (.a l) (.a rw) (.imm .lit 1 []) (.i 2) (.ptr 0 0 0 1) (.bool false) y8 y9 y11 y12 y13 y14 y15 y32 y33 y34 y42 y57) [.arr 3 [.agg [.i m0,.i m1,.i sz]] true 0] :=
  RunsTo.hin 0 60 [] fun kf hk=>⟨_,by kernel_rfl,.nil⟩
theorem su_d_0 (l rw:List HV) (m0 m1 sz:Int) {y8 y9 y11 y12 y13 y14 y15 y32 y33 y34 y42 y57:HV} {q:Nat} {es:List HV} (g0:∀ kf,callN Tp polSl (kf+1) 56 [.agg [.i m0,.i m1,.i sz],.a rw] [.arr 3 [.agg [.i m0,.i m1,.i sz]] true 0]=some (.tuple [.sl 1 0 q none q 2,.bool true],[.arr 3 [.agg [.i m0,.i m1,.i sz]] true 0,.arr 2 es true 0])):RT polSl 39 (sub [1,1,1,0] B39) (env39 (.a l) (.a rw) (.imm .lit 1 []) (.i 0) (.ptr 0 0 0 1) (.bool true) y8 y9 y11 y12 y13 y14 y15 y32 y33 y34 y42 y57) [.arr 3 [.agg [.i m0,.i m1,.i sz]] true 0] .normal (env39 (.a l) (.a rw) (.imm .lit 1 []) (.i 0) (.ptr 0 0 0 1) (.bool true) (.sl 1 0 q none q 2) y9 y11 y12 y13 y14 y15 y32 y33 y34 y42 y57) [.arr 3 [.agg [.i m0,.i m1,.i sz]] true 0,.arr 2 es true 0] :=
  RunsTo.hin 0 60 [⟨4,2,.tuple [.sl 1 0 q none q 2,.bool true],[.arr 3 [.agg [.i m0,.i m1,.i sz]] true 0,.arr 2 es true 0]⟩] fun kf hk=>⟨_,by kernel_rfl,(oC (g0 kf) .nil)⟩
theorem su_d_1 (l rw:List HV) (m0 m1 sz:Int) {y8 y9 y11 y12 y13 y14 y15 y32 y33 y34 y42 y57:HV} {q:Nat} {es:List HV} (g0:∀ kf,callN Tp polSl (kf+1) 56 [.agg [.i m0,.i m1,.i sz],.a rw] [.arr 3 [.agg [.i m0,.i m1,.i sz]] true 0]=some (.tuple [.sl 1 0 q none q 2,.bool false],[.arr 3 [.agg [.i m0,.i m1,.i sz]] true 0,.arr 2 es true 0])):RT polSl 39 (sub [1,1,1,0] B39) (env39 (.a l) (.a rw) (.imm .lit 1 []) (.i 0) (.ptr 0 0 0 1) (.bool true) y8 y9 y11 y12 y13 y14 y15 y32 y33 y34 y42 y57) [.arr 3 [.agg [.i m0,.i m1,.i sz]] true 0] .normal (env39 (.a l) (.a rw) (.imm .lit 1 []) (.i 0) (.ptr 0 0 0 1) (.bool false) (.sl 1 0 q none q 2) y9 y11 y12 y13 y14 y15 y32 y33 y34 y42 y57) [.arr 3 [.agg [.i m0,.i m1,.i sz]] true 0,.arr 2 es true 0] :=
  RunsTo.hin 0 60 [⟨4,2,.tuple [.sl 1 0 q none q 2,.bool false],[.arr 3 [.agg [.i m0,.i m1,.i sz]] true 0,.arr 2 es true 0]⟩] fun kf hk=>⟨_,by kernel_rfl,(oC (g0 kf) .nil)⟩
theorem su_et_0 (l rw:List HV) (m0 m1 sz:Int) (q:Nat) (es:List HV) {y9 y11 y12 y13 y14 y15 y32 y33 y34 y42 y57:HV}:RT polSl 39 (sub [1,1,1,1,0] B39) (env39 (.a l) (.a rw) (.imm .lit 1 []) (.i 0) (.ptr 0 0 0 1) (.bool true) (.sl 1 0 q none q 2) y9 y11 y12 y13 y14 y15 y32 y33 y34 y42 y57) [.arr 3 [.agg [.i m0,.i m1,.i sz]] true 0,.arr 2 es true 0] .normal (env39 (.a l) (.a rw) (.imm .lit 1 []) (.i 0) (.ptr 0 0 0 1) (.bool true) (.sl 1 0 q none q 2) y9 y11 y12 y13 y14 y15 y32 y33 y34 y42 y57) [.arr 3 [.agg [.i m0,.i m1,.i sz]] true 0,.arr 2 es true 0] :=
  RunsTo.hin 0 60 [] fun kf hk=>⟨_,by kernel_rfl,.nil⟩
theorem su_ef_0 (l rw:List HV) (m0 m1 sz:Int) (q:Nat) (es:List HV) {y9 y11 y12 y13 y14 y15 y32 y33 y34 y42 y57:HV}:RT polSl 39 (sub [1,1,1,1,0] B39) (env39 (.a l) (.a rw) (.imm .lit 1 []) (.i 0) (.ptr 0 0 0 1) (.bool false) (.sl 1 0 q none q 2) y9 y11 y12 y13 y14 y15 y32 y33 y34 y42 y57) [.arr 3 [.agg [.i m0,.i m1,.i sz]] true 0,.arr 2 es true 0] .ret (env39 (.a l) (.a rw) (.imm .lit 1 []) (.i 2) (.ptr 0 0 0 1) (.bool false) (.sl 1 0 q none q 2) y9 y11 y12 y13 y14 y15 y32 y33 y34 y42 y57) [.arr 3 [.agg [.i m0,.i m1,.i sz]] true 0,.arr 2 es true 0] :=
  RunsTo.hin 0 60 [] fun kf hk=>⟨_,by kernel_rfl,.nil⟩
theorem su_f_0 (l rw:List HV)  (H:Heap) (q:Nat) {y7 y9 y11 y12 y13 y14 y15 y32 y33 y34 y42 y57:HV} {H0:Heap} (g0:some (HV.map H.length,H ++ [Blk.map [] [] 0])=some (.map 2,H0)):RT polSl 39 (sub [1,1,1,1,1,0] B39) (env39 (.a l) (.a rw) (.imm .lit 1 []) (.i 0) (.ptr 0 0 0 1) y7 (.sl 1 0 q none q 2) y9 y11 y12 y13 y14 y15 y32 y33 y34 y42 y57) H .normal (env39 (.a l) (.a rw) (.imm .lit 1 []) (.i 0) (.ptr 0 0 0 1) y7 (.sl 1 0 q none q 2) (.map 2) y11 y12 y13 y14 y15 y32 y33 y34 y42 y57) H0 :=
  RunsTo.hin 0 60 [⟨7,0,.map 2,H0⟩] fun kf hk=>⟨_,by kernel_rfl,(oC (g0) .nil)⟩
theorem su_g_0 (l rw:List HV)  (H:Heap) (q:Nat) (m9:HV) {y7 y11 y12 y13 y14 y15 y32 y33 y34 y42 y57:HV}:RT polSl 39 (sub [1,1,1,1,1,1,0,0] B39) (env39 (.a l) (.a rw) (.imm .lit 1 []) (.i 0) (.ptr 0 0 0 1) y7 (.sl 1 0 q none q 2) m9 y11 y12 y13 y14 y15 y32 y33 y34 y42 y57) H .normal (env39 (.a l) (.a rw) (.imm .lit 1 []) (.i 0) (.ptr 0 0 0 1) y7 (.sl 1 0 q none q 2) m9 y11 y12 y13 y14 y15 (.sl 1 0 q none q 2) (.i (q:Int)) (.i 0) y42 y57) H :=
  RunsTo.hin 0 60 [] fun kf hk=>⟨_,by kernel_rfl,.nil⟩
theorem su_h_0 (l rw:List HV)  (H:Heap) (m9:HV) (q i:Nat) {y7 y8 y11 y12 y13 y14 y15 y42 y57:HV}(g0:(i:Int) < (q:Int)):RunsTo Tp polSl 39 (sub [1,1,1,1,1,1,0,1,0,0,0] B39) (env39 (.a l) (.a rw) (.imm .lit 1 []) (.i 0) (.ptr 0 0 0 1) y7 y8 m9 y11 y12 y13 y14 y15 (.sl 1 0 q none q 2) (.i (q:Int)) (.i (i:Int)) y42 y57) H .normal [0,1,4,5,6,7,8,9,11,12,13,14,15,32,33,34,42,57,35] [(0,.a l),(1,.a rw),(4,.imm .lit 1 []),(5,.i 0),(6,.ptr 0 0 0 1),(7,y7),(8,y8),(9,m9),(11,y11),(12,y12),(13,y13),(14,y14),(15,y15),(32,.sl 1 0 q none q 2),(33,.i (q:Int)),(34,.i (i:Int)),(42,y42),(57,y57),(35,.bool true)] H :=
  RunsTo.hin 0 60 [⟨9,0,.bool true,H⟩] fun kf hk=>⟨_,by kernel_rfl,(oB H (decide_eq_true g0) .nil)⟩
theorem su_h_1 (l rw:List HV)  (H:Heap) (m9:HV) (q i:Nat) {y7 y8 y11 y12 y13 y14 y15 y42 y57:HV}(g0:¬ ((i:Int) < (q:Int))):RunsTo Tp polSl 39 (sub [1,1,1,1,1,1,0,1,0,0,0] B39) (env39 (.a l) (.a rw) (.imm .lit 1 []) (.i 0) (.ptr 0 0 0 1) y7 y8 m9 y11 y12 y13 y14 y15 (.sl 1 0 q none q 2) (.i (q:Int)) (.i (i:Int)) y42 y57) H .normal [0,1,4,5,6,7,8,9,11,12,13,14,15,32,33,34,42,57,35] [(0,.a l),(1,.a rw),(4,.imm .lit 1 []),(5,.i 0),(6,.ptr 0 0 0 1),(7,y7),(8,y8),(9,m9),(11,y11),(12,y12),(13,y13),(14,y14),(15,y15),(32,.sl 1 0 q none q 2),(33,.i (q:Int)),(34,.i (i:Int)),(42,y42),(57,y57),(35,.bool false)] H :=
  RunsTo.hin 0 60 [⟨9,0,.bool false,H⟩] fun kf hk=>⟨_,by kernel_rfl,(oB H (decide_eq_false g0) .nil)⟩
theorem su_ht_0 (l rw:List HV)  (H:Heap) (m9:HV) (q i:Nat) {y7 y8 y11 y12 y13 y14 y15 y42 y57:HV}:RT polSl 39 (sub [1,1,1,1,1,1,0,1,0,0,1,0] B39) [(0,.a l),(1,.a rw),(4,.imm .lit 1 []),(5,.i 0),(6,.ptr 0 0 0 1),(7,y7),(8,y8),(9,m9),(11,y11),(12,y12),(13,y13),(14,y14),(15,y15),(32,.sl 1 0 q none q 2),(33,.i (q:Int)),(34,.i (i:Int)),(42,y42),(57,y57),(35,.bool true)] H .normal (env39 (.a l) (.a rw) (.imm .lit 1 []) (.i 0) (.ptr 0 0 0 1) y7 y8 m9 y11 y12 y13 y14 y15 (.sl 1 0 q none q 2) (.i (q:Int)) (.i (i:Int)) y42 y57) H :=
  RunsTo.hin 0 60 [] fun kf hk=>⟨_,by kernel_rfl,.nil⟩
theorem su_hf_0 (l rw:List HV)  (H:Heap) (m9:HV) (q i:Nat) {y7 y8 y11 y12 y13 y14 y15 y42 y57:HV}:RT polSl 39 (sub [1,1,1,1,1,1,0,1,0,0,1,0] B39) [(0,.a l),(1,.a rw),(4,.imm .lit 1 []),(5,.i 0),(6,.ptr 0 0 0 1),(7,y7),(8,y8),(9,m9),(11,y11),(12,y12),(13,y13),(14,y14),(15,y15),(32,.sl 1 0 q none q 2),(33,.i (q:Int)),(34,.i (i:Int)),(42,y42),(57,y57),(35,.bool false)] H (.exit 0) (env39 (.a l) (.a rw) (.imm .lit 1 []) (.i 0) (.ptr 0 0 0 1) y7 y8 m9 y11 y12 y13 y14 y15 (.sl 1 0 q none q 2) (.i (q:Int)) (.i (i:Int)) y42 y57) H :=
  RunsTo.hin 0 60 [] fun kf hk=>⟨_,by kernel_rfl,.nil⟩
theorem su_i_0 (l rw:List HV) (m0 m1 sz:Int) (es:List HV) (x0 x1:Int) (m9:HV) (q i:Nat) {y7 y8 y11 y12 y13 y14 y15 y42 y57:HV}(g0:idxV Tp 67 (.sl 1 0 q none q 2) (.i (i:Int))=some (.ptr 1 i 0 q)) (g1:loadV Tp [.arr 3 [.agg [.i m0,.i m1,.i sz]] true 0,.arr 2 es true 0] 64 (.ptr 1 i 0 q)=some (.agg [.i x0,.i x1])):RT polSl 39 (sub [1,1,1,1,1,1,0,1,0,0,1,1,0,0,0] B39) (env39 (.a l) (.a rw) (.imm .lit 1 []) (.i 0) (.ptr 0 0 0 1) y7 y8 m9 y11 y12 y13 y14 y15 (.sl 1 0 q none q 2) (.i (q:Int)) (.i (i:Int)) y42 y57) [.arr 3 [.agg [.i m0,.i m1,.i sz]] true 0,.arr 2 es true 0] .normal (env39 (.a l) (.a rw) (.imm .lit 1 []) (.i 0) (.ptr 0 0 0 1) y7 y8 m9 (.ptr 2 0 0 1) y12 y13 y14 y15 (.sl 1 0 q none q 2) (.i (q:Int)) (.i (i:Int)) y42 y57) [.arr 3 [.agg [.i m0,.i m1,.i sz]] true 0,.arr 2 es true 0,.arr 2 [.agg [.i x0,.i x1]] true 0] :=
  RunsTo.hin 0 60 [⟨10,0,.ptr 1 i 0 q,[.arr 3 [.agg [.i m0,.i m1,.i sz]] true 0,.arr 2 es true 0]⟩,⟨10,1,.agg [.i x0,.i x1],[.arr 3 [.agg [.i m0,.i m1,.i sz]] true 0,.arr 2 es true 0]⟩] fun kf hk=>⟨_,by kernel_rfl,(oP [.arr 3 [.agg [.i m0,.i m1,.i sz]] true 0,.arr 2 es true 0] g0 (oP [.arr 3 [.agg [.i m0,.i m1,.i sz]] true 0,.arr 2 es true 0] g1 .nil))⟩
theorem su_j_0 (l rw:List HV)  (H:Heap) (x0 x1:Int) (m9:HV) (q i:Nat) {y7 y8 y12 y13 y14 y15 y42 y57:HV} {H0:Heap} {H1:Heap} (g0:some (HV.map H.length,H ++ [Blk.map [] [] 0])=some (.map 3,H0)) (g1:loadV Tp H0 64 (.ptr 2 0 0 1)=some (.agg [.i x0,.i x1])) (g2:updV Tp false 87 (.map 3) (.agg [.i x0,.i x1]) (.bool true) H0=some H1):RT polSl 39 (sub [1,1,1,1,1,1,0,1,0,0,1,1,0,0,1,0] B39) (env39 (.a l) (.a rw) (.imm .lit 1 []) (.i 0) (.ptr 0 0 0 1) y7 y8 m9 (.ptr 2 0 0 1) y12 y13 y14 y15 (.sl 1 0 q none q 2) (.i (q:Int)) (.i (i:Int)) y42 y57) H .normal (env39 (.a l) (.a rw) (.imm .lit 1 []) (.i 0) (.ptr 0 0 0 1) y7 y8 m9 (.ptr 2 0 0 1) (.map 3) y13 y14 y15 (.sl 1 0 q none q 2) (.i (q:Int)) (.i (i:Int)) y42 y57) H1 :=
  RunsTo.hin 0 60 [⟨11,0,.map 3,H0⟩,⟨11,1,.agg [.i x0,.i x1],H0⟩,⟨11,2,.tuple [],H1⟩] fun kf hk=>⟨_,by kernel_rfl,(oC (g0) (oP H0 g1 (oS g2 .nil)))⟩
theorem su_k_0 (l rw:List HV)  (H:Heap) (kb:Nat) (w0 w1:Int) (m9:HV) (q i:Nat) {y7 y8 y14 y15 y42 y57:HV} {H0:Heap} (g0:loadV Tp H 64 (.ptr kb 0 0 1)=some (.agg [.i w0,.i w1])) (g1:updV Tp false 87 (.map 3) (.agg [.i w0,.i w1]) (.bool true) H=some H0):RT polSl 39 (sub [1,1,1,1,1,1,0,1,0,0,1,1,0,0,1,1,0,1,0,0,1,1,0,1,0] B39) (env39 (.a l) (.a rw) (.imm .lit 1 []) (.i 0) (.ptr 0 0 0 1) y7 y8 m9 (.ptr 2 0 0 1) (.map 3) (.ptr kb 0 0 1) y14 y15 (.sl 1 0 q none q 2) (.i (q:Int)) (.i (i:Int)) y42 y57) H .normal (env39 (.a l) (.a rw) (.imm .lit 1 []) (.i 0) (.ptr 0 0 0 1) y7 y8 m9 (.ptr 2 0 0 1) (.map 3) (.ptr kb 0 0 1) y14 y15 (.sl 1 0 q none q 2) (.i (q:Int)) (.i (i:Int)) y42 y57) H0 :=
  RunsTo.hin 0 60 [⟨15,1,.agg [.i w0,.i w1],H⟩,⟨15,2,.tuple [],H0⟩] fun kf hk=>⟨_,by kernel_rfl,(oP H g0 (oS g1 .nil))⟩
theorem su_l_0 (l rw:List HV)  (H:Heap) (kb:Nat) (x0 x1 w0 w1 z0 z1 m0 m1 sz:Int) (m9:HV) (q i:Nat) {y7 y8 y14 y15 y42 y57:HV} {H0:Heap} (g0:loadV Tp H 66 (.ptr 0 0 0 1)=some (.agg [.i m0,.i m1,.i sz])) (g1:loadV Tp H 64 (.ptr 2 0 0 1)=some (.agg [.i x0,.i x1])) (g2:loadV Tp H 64 (.ptr kb 0 0 1)=some (.agg [.i w0,.i w1])) (g3:∀ kf,callN Tp polSl (kf+1) 59 [.agg [.i m0,.i m1,.i sz],.agg [.i x0,.i x1],.agg [.i w0,.i w1]] H=some (.agg [.i z0,.i z1],H)) (g4:updV Tp false 87 (.map 3) (.agg [.i z0,.i z1]) (.bool true) H=some H0):RT polSl 39 (sub [1,1,1,1,1,1,0,1,0,0,1,1,0,0,1,1,0,1,0,0,1,1,0,1,1] B39) (env39 (.a l) (.a rw) (.imm .lit 1 []) (.i 0) (.ptr 0 0 0 1) y7 y8 m9 (.ptr 2 0 0 1) (.map 3) (.ptr kb 0 0 1) y14 y15 (.sl 1 0 q none q 2) (.i (q:Int)) (.i (i:Int)) y42 y57) H .normal (env39 (.a l) (.a rw) (.imm .lit 1 []) (.i 0) (.ptr 0 0 0 1) y7 y8 m9 (.ptr 2 0 0 1) (.map 3) (.ptr kb 0 0 1) y14 y15 (.sl 1 0 q none q 2) (.i (q:Int)) (.i (i:Int)) y42 y57) H0 :=
  RunsTo.hin 0 60 [⟨16,1,.agg [.i m0,.i m1,.i sz],H⟩,⟨16,2,.agg [.i x0,.i x1],H⟩,⟨16,3,.agg [.i w0,.i w1],H⟩,⟨16,4,.agg [.i z0,.i z1],H⟩,⟨16,5,.tuple [],H0⟩] fun kf hk=>⟨_,by kernel_rfl,(oP H g0 (oP H g1 (oP H g2 (oC (g3 kf) (oS g4 .nil)))))⟩
theorem su_m_0 (l rw:List HV)  (H:Heap) (m9:HV) (q i:Nat) {y7 y8 y11 y13 y14 y15 y42 y57:HV}:RT polSl 39 (sub [1,1,1,1,1,1,0,1,0,0,1,1,0,0,1,1,1] B39) (env39 (.a l) (.a rw) (.imm .lit 1 []) (.i 0) (.ptr 0 0 0 1) y7 y8 m9 y11 (.map 3) y13 y14 y15 (.sl 1 0 q none q 2) (.i (q:Int)) (.i (i:Int)) y42 y57) H .normal (env39 (.a l) (.a rw) (.imm .lit 1 []) (.i 0) (.ptr 0 0 0 1) y7 y8 (.map 3) y11 (.map 3) y13 y14 y15 (.sl 1 0 q none q 2) (.i (q:Int)) (.i (i:Int)) y42 y57) H :=
  RunsTo.hin 0 60 [] fun kf hk=>⟨_,by kernel_rfl,.nil⟩
theorem su_n_0 (l rw:List HV)  (H:Heap) (m9:HV) (q i:Nat) {y7 y8 y11 y12 y13 y14 y15 y42 y57:HV}:RT polSl 39 (sub [1,1,1,1,1,1,0,1,0,0,1,1,1] B39) (env39 (.a l) (.a rw) (.imm .lit 1 []) (.i 0) (.ptr 0 0 0 1) y7 y8 m9 y11 y12 y13 y14 y15 (.sl 1 0 q none q 2) (.i (q:Int)) (.i (i:Int)) y42 y57) H .normal (env39 (.a l) (.a rw) (.imm .lit 1 []) (.i 0) (.ptr 0 0 0 1) y7 y8 m9 y11 y12 y13 y14 y15 (.sl 1 0 q none q 2) (.i (q:Int)) (.i (IntKind.i64.wrap ((i:Int)+1))) y42 y57) H :=
  RunsTo.hin 0 60 [] fun kf hk=>⟨_,by kernel_rfl,.nil⟩
theorem su_o_0 (l rw:List HV) (m0 m1 sz:Int) (es:List HV) (m9:HV) {y7 y8 y11 y12 y13 y14 y15 y32 y33 y34 y42 y57:HV}:RT polSl 39 (sub [1,1,1,1,1,1,1,0] B39) (env39 (.a l) (.a rw) (.imm .lit 1 []) (.i 0) (.ptr 0 0 0 1) y7 y8 m9 y11 y12 y13 y14 y15 y32 y33 y34 y42 y57) [.arr 3 [.agg [.i m0,.i m1,.i sz]] true 0,.arr 2 es true 0] .normal (env39 (.a l) (.a rw) (.imm .lit 1 []) (.i 0) (.ptr 0 0 0 1) y7 y8 m9 y11 y12 y13 (.s 2 0) y15 y32 y33 y34 y42 y57) [.arr 3 [.agg [.i m0,.i m1,.i sz]] true 0,.arr 2 es true 0,.b []] :=
  RunsTo.hin 0 60 [] fun kf hk=>⟨_,by kernel_rfl,.nil⟩
theorem su_q_0 (l rw:List HV)  (H:Heap) (kb nb n z:Nat) (m0 m1 sz w0 w1:Int) (lo:List HV) {y7 y8 y9 y11 y12 y13 y32 y33 y34 y42 y57:HV} {H0:Heap} {H1:Heap} {H2:Heap} (g0:loadV Tp H 66 (.ptr 0 0 0 1)=some (.agg [.i m0,.i m1,.i sz])) (g1:loadV Tp H 64 (.ptr kb 0 0 1)=some (.agg [.i w0,.i w1])) (g2:∀ kf,callN Tp polSl (kf+1) 62 [.agg [.i m0,.i m1,.i sz],.agg [.i w0,.i w1]] H=some (.s nb z,H0)) (g3:litV Tp true false 35 1 [(0,.s nb z)] H0=some (.imm .lit 1 [.imm .own 1 lo],H1)) (g4:appV H1 1 24 (.s 2 n) [.imm .own 1 lo]=some (.sl 2 0 (n+1) none (n+1) 1,H2)):RT polSl 39 (sub [1,1,1,1,1,1,1,1,0,1,0,0,1,1,0,1] B39) (env39 (.a l) (.a rw) (.imm .lit 1 []) (.i 0) (.ptr 0 0 0 1) y7 y8 y9 y11 y12 y13 (.s 2 n) (.ptr kb 0 0 1) y32 y33 y34 y42 y57) H .normal (env39 (.a l) (.a rw) (.imm .lit 1 []) (.i 0) (.ptr 0 0 0 1) y7 y8 y9 y11 y12 y13 (.sl 2 0 (n+1) none (n+1) 1) (.ptr kb 0 0 1) y32 y33 y34 y42 y57) H2 :=
  RunsTo.hin 0 60 [⟨23,1,.agg [.i m0,.i m1,.i sz],H⟩,⟨23,2,.agg [.i w0,.i w1],H⟩,⟨23,3,.s nb z,H0⟩,⟨23,4,.imm .lit 1 [.imm .own 1 lo],H1⟩,⟨23,5,.sl 2 0 (n+1) none (n+1) 1,H2⟩] fun kf hk=>⟨_,by kernel_rfl,(oP H g0 (oP H g1 (oC (g2 kf) (oC (g3) (oC (g4) .nil)))))⟩
theorem su_z_0 (N:Nat) (n:Nat) (H:Heap) {y0 y1 y6 y7 y8 y9 y11 y12 y13 y15 y32 y33 y34 y42 y57:HV} {H0:Heap} (g0:∀ kf,N ≤ kf → callN Tp polSl (kf+1) 63 [.s 2 n,.func 64 [] []] H=some (.tuple [],H0)):RT polSl 39 (sub [1,1,1,1,1,1,1,1,1] B39) (env39 y0 y1 (.imm .lit 1 []) (.i 0) y6 y7 y8 y9 y11 y12 y13 (.s 2 n) y15 y32 y33 y34 y42 y57) H .ret (env39 y0 y1 (.s 2 n) (.i 0) y6 y7 y8 y9 y11 y12 y13 (.s 2 n) y15 y32 y33 y34 y42 y57) H0 :=
  RunsTo.hin N 60 [⟨24,1,.tuple [],H0⟩] fun kf hk=>⟨_,by kernel_rfl,(oC (g0 kf (by omega)) .nil)⟩
end Go.Proofs.Ytaibmipamkaljaa
end
section
open Go Go.HL
namespace Go.Proofs.Ytaibmipamkaljaa
open Go.Proofs.Try renaming prog → Tp
open Go.HL.HV renaming undef → Ud
def sStep (g:Gr) (x:El) (F:List El):List El:=F.foldl (fun A y=>ins (addT g x y) (ins y A)) [x]
def sumS (g:Gr) (l:List El):List El:=l.foldl (fun F x=>sStep g x F) []
def encS (F:List El):HV:=.imap .own (F.map encX) (F.map fun _=>.bool true)
theorem sfold_mem {g:Gr} {x:El}:∀ (L A:List El) (w:El),w ∈ L.foldl (fun A y=>ins (addT g x y) (ins y A)) A ↔ w ∈ A ∨ ∃ u ∈ L,w=u ∨ w=addT g x u
  | [],A,w=>by simp
  | u :: L,A,w=>by
    rw [List.foldl_cons,sfold_mem L _ w,mem_ins,mem_ins]
    constructor
    · rintro ((h | h | h) | ⟨v,h1,h2⟩)
      · exact .inr ⟨u,by simp,.inr h⟩
      · exact .inr ⟨u,by simp,.inl h⟩
      · exact .inl h
      · exact .inr ⟨v,by simp [h1],h2⟩
    · rintro (h | ⟨v,h1,h2⟩)
      · exact .inl (.inr (.inr h))
      · rcases List.mem_cons.1 h1 with rfl | h1
        · rcases h2 with h2 | h2
          · exact .inl (.inr (.inl h2))
          · exact .inl (.inl h2)
        · exact .inr ⟨v,h1,h2⟩
theorem sfold_nodup {g:Gr} {x:El}:∀ (L A:List El),A.Nodup → (L.foldl (fun A y=>ins (addT g x y) (ins y A)) A).Nodup
  | [],A,h=>h
  | u :: L,A,h=>by
    rw [List.foldl_cons]
    exact sfold_nodup L _ (nodup_ins (nodup_ins h))
theorem mem_sStep {g:Gr} {x:El} {F:List El} {w:El}:w ∈ sStep g x F ↔ w=x ∨ ∃ u ∈ F,w=u ∨ w=addT g x u:=by
  unfold sStep
  rw [sfold_mem]
  simp
theorem nodup_sStep {g:Gr} {x:El} {F:List El}:(sStep g x F).Nodup:=sfold_nodup F [x] (by simp)
theorem sStep_perm {g:Gr} {x:El} {K L:List El} (h:∀ w,w ∈ L ↔ w ∈ K):(sStep g x L).Perm (sStep g x K):=by
  rw [List.perm_ext_iff_of_nodup nodup_sStep nodup_sStep]
  intro a
  rw [mem_sStep,mem_sStep]
  constructor
  · rintro (h1 | ⟨u,h1,h2⟩)
    · exact .inl h1
    · exact .inr ⟨u,(h u).1 h1,h2⟩
  · rintro (h1 | ⟨u,h1,h2⟩)
    · exact .inl h1
    · exact .inr ⟨u,(h u).2 h1,h2⟩
theorem sumS_app (g:Gr) (l:List El) (x:El):sumS g (l ++ [x])=sStep g x (sumS g l):=by simp [sumS]
theorem snocInd {α:Type} {P:List α → Prop} (h0:P []) (h1:∀ l x,P l → P (l ++ [x])):∀ l,P l:=by
  intro l
  rw [← List.reverse_reverse l]
  induction l.reverse with
  | nil=>exact h0
  | cons x m ih=>rw [List.reverse_cons]; exact h1 _ _ ih
theorem sumS_nodup (g:Gr) (l:List El):(sumS g l).Nodup:=by
  refine snocInd (P:=fun l=>(sumS g l).Nodup) (by simp [sumS]) (fun l x _=>?_) l
  show (sumS g (l ++ [x])).Nodup
  rw [sumS_app]; exact nodup_sStep
theorem sumS_ok {g:Gr} (hg:grOk g):∀ (l:List El),(∀ x ∈ l,elOk g x) → ∀ y ∈ sumS g l,elOk g y:=by
  refine snocInd (by simp [sumS]) (fun l x ih hl y hy=>?_)
  rw [sumS_app,mem_sStep] at hy
  have h1:=ih fun z hz=>hl z (by simp [hz])
  rcases hy with rfl | ⟨u,hu,rfl | rfl⟩
  · exact hl _ (by simp)
  · exact h1 _ hu
  · exact addT_ok hg
theorem bG_get {g:Gr} {T:Heap}:loadV Tp (bG g :: T) 66 (.ptr 0 0 0 1)=some (encG g):=load_agg (b:=0) rfl rfl rfl a66 z66
theorem ld64 {H:Heap} {b:Nat} {x:El} (h:H[b]?=some (.arr 2 [encX x] true 0)):loadV Tp H 64 (.ptr b 0 0 1)=some (encX x):=load_agg (b:=b) h rfl rfl a64 z64
section
variable {gl:List Int} {R:List (List Int)} {g:Gr} {l:List El}
abbrev suX (gl:List Int) (R:List (List Int)) (q i:Nat) (v9 v11 v12 v13 v42:HV):Env:=(env39 (.imm .arg 1 (gl.map encI)) (.imm .arg 1 (R.map encR)) (.imm .lit 1 []) (.int .i64 0) (.ptr 0 0 0 1) Ud Ud v9 v11 v12 v13 Ud Ud (.sl 1 0 q none q 2) (.int .i64 (q:Int)) (.int .i64 (i:Int)) v42 Ud)
def ksS:List Nat:=[0,1,4,5,6,11,12,32,33,34,42]
abbrev suI (gl:List Int) (R:List (List Int)) (q i:Nat) (v42:HV):Env:=[(0,.imm .arg 1 (gl.map encI)),(1,.imm .arg 1 (R.map encR)),(4,.imm .lit 1 []),(5,.int .i64 0),(6,.ptr 0 0 0 1),(11,.ptr 2 0 0 1),(12,.map 3),(32,.sl 1 0 q none q 2),(33,.int .i64 (q:Int)),(34,.int .i64 (i:Int)),(42,v42)]
noncomputable def D12:Code:=sub [1,1,1,1,1,1,0,1,0,0,1,1,0,0,1,1,0,0] B39
noncomputable def D13:Code:=sub [1,1,1,1,1,1,0,1,0,0,1,1,0,0,1,1,0,1,0,0,0] B39
noncomputable def D14:Code:=sub [1,1,1,1,1,1,0,1,0,0,1,1,0,0,1,1,0,1,0,0,1,1,0,0] B39
theorem st_box2 (H:Heap) (x:El):storeV Tp (H ++ [.arr 2 [.agg [.int .i64 0,.int .i64 0]] true 0]) 64 (.ptr H.length 0 0 1) (encX x)=some (H ++ [.arr 2 [encX x] true 0]):=by
  have:=store_agg (P:=Tp) (H:=H ++ [.arr 2 [.agg [.int .i64 0,.int .i64 0]] true 0]) (t:=64) (b:=H.length) (i:=0) (tot:=1) (k:=2) (mx:=0) (els:=[.agg [.int .i64 0,.int .i64 0]]) (cs:=[.int .i64 0,.int .i64 0]) (new:=[.int .i64 x.1,.int .i64 x.2])
    (by rw [List.getElem?_append_right (Nat.le_refl _),Nat.sub_self]; rfl) rfl rfl z64 rfl (by simp) rfl rfl
  rw [show encX x=.agg [.int .i64 x.1,.int .i64 x.2] from rfl,this]
  simp
theorem box_in14 (e:Env) (H:Heap) (x:El):evOps Tp polSl 39 14 (regOps D14) [] (callN Tp polSl 1) ((regOps D14).toList.drop 1) (e.put (some 45) (.tuple [encX x,.bool true])) H=some ([(13,.ptr H.length 0 0 1),(46,encX x),(45,.tuple [encX x,.bool true])] ++ e,H ++ [.arr 2 [encX x] true 0]) :=
  evOpsH_ok Tp polSl ((regOps D14).toList.drop 1) 1 _ _ [⟨14,3,.tuple [],H ++ [.arr 2 [encX x] true 0]⟩] (hs':=[])
    (ob:=[(storeV Tp (H ++ [.arr 2 [.agg [.int .i64 0,.int .i64 0]] true 0]) 64 (.ptr H.length 0 0 1) (encX x)).map (fun H=>(HV.tuple [],H))=some (.tuple [],H ++ [.arr 2 [encX x] true 0])]) (by kernel_rfl) (Obls.cons (hintSt (st_box2 H x)) Obls.nil)
theorem pre_in12 {H:Heap} {q i:Nat} (m9 v11 v12 v13 v42:HV) :
    evOps Tp polSl 39 12 (regOps D12) [] (callN Tp polSl 1) ((regOps D12).toList.take 1) (suX gl R q i m9 v11 v12 v13 v42) H=some ((41,m9) :: suX gl R q i m9 v11 v12 v13 v42,H) :=
  evOpsH_ok Tp polSl ((regOps D12).toList.take 1) 0 _ _ [] (hs':=[]) (ob:=[]) (by kernel_rfl) Obls.nil
abbrev bx1 (x:El):Blk:=.arr 2 [encX x] true 0
theorem su_round (hg:grOk g) {q i:Nat} {x y:El} (hx:elOk g x) (hy:elOk g y) {A:List El} {Bk:Blk} (m9 v42:HV) :
    RT polSl 39 (sub [1,1,1,1,1,1,0,1,0,0,1,1,0,0,1,1,0,1,0,0,1,1,0,1] B39) (suX gl R q i m9 (.ptr 2 0 0 1) (.map 3) (.ptr 5 0 0 1) v42) [bG g,bX l,bx1 x,mapK encX A,Bk,bx1 y] .normal (suX gl R q i m9 (.ptr 2 0 0 1) (.map 3) (.ptr 5 0 0 1) v42)
      [bG g,bX l,bx1 x,mapK encX (ins (addT g x y) (ins y A)),Bk,bx1 y]:=by
  have u1:=map_upd keyX (H:=[bG g,bX l,bx1 x,mapK encX A,Bk,bx1 y]) (b:=3) rfl y
  have u2:=map_upd keyX (H:=[bG g,bX l,bx1 x,mapK encX (ins y A),Bk,bx1 y]) (b:=3) rfl (addT g x y)
  have s1:=su_k_0 (gl.map encI) (R.map encR) [bG g,bX l,bx1 x,mapK encX A,Bk,bx1 y] 5 y.1 y.2 m9 q i (y7:=Ud) (y8:=Ud) (y14:=Ud) (y15:=Ud) (y42:=v42) (y57:=Ud) (ld64 rfl) u1
  have s2:=su_l_0 (gl.map encI) (R.map encR) [bG g,bX l,bx1 x,mapK encX (ins y A),Bk,bx1 y] 5 x.1 x.2 y.1 y.2 (addT g x y).1 (addT g x y).2 g.1 g.2.1 g.2.2 m9 q i (y7:=Ud) (y8:=Ud) (y14:=Ud) (y15:=Ud) (y42:=v42) (y57:=Ud) bG_get (ld64 rfl) (ld64 rfl) (add_at (pol':=polSl) (by kernel_rfl) hg hx hy _) u2
  exact sq s1 s2
end
end Go.Proofs.Ytaibmipamkaljaa
end
section
open Go Go.HL
namespace Go.Proofs.Ytaibmipamkaljaa
open Go.Proofs.Try renaming prog → Tp
open Go.HL.HV renaming undef → Ud
section
variable {gl:List Int} {R:List (List Int)} {g:Gr} {l:List El}
theorem bndSI (q i:Nat):bndE (suI gl R q i (.ptr 4 0 0 0)) ≤ 5:=by simp [suI,bndE,bnd,bndL]
theorem gc5 {x y:El} {A:List El} {B':Blk} (hB:B'.mx=0):gc 5 5 [bG g,bX l,bx1 x,mapK encX A,B',bx1 y]=[bG g,bX l,bx1 x,mapK encX A,B']:=by
  unfold gc
  have:mxs [bG g,bX l,bx1 x,mapK encX A,B',bx1 y]=0:=by
    show max 0 (max 0 (max 0 (max 0 (max B'.mx (max 0 0)))))=0
    rw [hB]; rfl
  rw [this]; rfl
theorem su_inner (hg:grOk g) {q i:Nat} {x:El} (hx:elOk g x) {F:List El} (hF:∀ y ∈ F,elOk g y) :
    Trip Tp Try.f39.ntmps (sub [1,1,1,1,1,1,0,1,0,0,1,1,0,0,1,1,0] B39) (suX gl R q i (encS F) (.ptr 2 0 0 1) (.map 3) Ud Ud) [bG g,bX l,bx1 x,mapK encX [x]]
      (fun X e H=>X=.normal∧∃ A Bk,A.Perm (sStep g x F)∧Bk.mx=0∧restr (polSl.keys 39) e=suX gl R q i Ud (.ptr 2 0 0 1) (.map 3) Ud (.ptr 4 0 0 0)∧H=[bG g,bX l,bx1 x,mapK encX A,Bk]):=by
  have hc:sub [1,1,1,1,1,1,0,1,0,0,1,1,0,0,1,1,0] B39=.seq (.region 12 (regOps D12) false) (.block 2 (.loop (.seq (.region 13 (regOps D13) false) (.seq (.cond (.tmp 44) .skip (.exit 2)) (.block 3 (.seq (.region 14 (regOps D14) false) (sub [1,1,1,1,1,1,0,1,0,0,1,1,0,0,1,1,0,1,0,0,1,1,0,1] B39))))))):=by kernel_rfl
  rw [hc]
  refine Trip.range (pol:=polSl) (f:=39) (k:=1) (it:=42) (tm:=41) (tn:=43) (tb:=44) (te:=45) (T:=87) (kt:=64) (et:=4) (oR:=opAt (regOps D12) 1) (oN:=opAt (regOps D13) 0) (oX:=opAt (regOps D13) 1) (oE:=opAt (regOps D14) 0) (pre:=(regOps D12).toList.take 1) (os:=(regOps D14).toList.drop 1)
    (g:=.own) (kl:=F.map encX) (vl:=F.map fun _=>.bool true) (asgA:=[]) (asg2:=[]) ksS
    (I:=fun S Bk e H=>e=suI gl R q i (.ptr 4 0 0 0)∧H=[bG g,bX l,bx1 x,mapK encX (sStep g x (S.map fun j=>F.getD j (0,0))),Bk]∧Bk.mx=0∧sameH [Bk] [Bk]=true)
    soundSl (by kernel_rfl) (by kernel_rfl) (by kernel_rfl) (by kernel_rfl) (by kernel_rfl) (by kernel_rfl) (by kernel_rfl) (by kernel_rfl) (by kernel_rfl) (by kernel_rfl) (by kernel_rfl) (by kernel_rfl) (by kernel_rfl) (by kernel_rfl) (by kernel_rfl) (by kernel_rfl) (by decide)
    (by kernel_rfl) (by kernel_rfl) (by kernel_rfl) (pre_in12 (encS F) _ _ _ _) rfl ?_ ?_ ?_ ?_
  · intro Bk hB hS
    exact ⟨rfl,rfl,hB,hS⟩
  · rintro S Bk e H' ⟨rfl,rfl,_,_⟩
    exact ⟨rfl,rfl⟩
  · rintro S Bk e H' j kv vv ⟨rfl,rfl,hB,hS⟩ hj hjS hnd hkv hvv B' hB' hS'
    rw [List.length_map] at hj
    have hw:F[j]=F.getD j (0,0):=by simp [List.getD,List.getElem?_eq_getElem hj]
    have ekv:kv=encX (F.getD j (0,0)):=by
      rw [List.getElem?_map,List.getElem?_eq_getElem hj] at hkv
      rw [← hw]; exact (Option.some.inj hkv).symm
    have evv:vv=.bool true:=by
      rw [List.getElem?_map,List.getElem?_eq_getElem hj] at hvv
      exact (Option.some.inj hvv).symm
    subst ekv; subst evv
    have hKw:=hF _ (List.getElem_mem hj)
    rw [hw] at hKw
    generalize hww:F.getD j (0,0)=y at *
    refine ⟨_,_,box_in14 _ _ y,?_⟩
    have hround:=su_round (gl:=gl) (R:=R) (l:=l) hg (q:=q) (i:=i) hx hKw (A:=sStep g x (S.map fun j=>F.getD j (0,0))) (Bk:=B') Ud (.ptr 4 0 0 0)
    refine Trip.restrict (polSl.keys 39) ?_
    have hrun:=Trip.run (nt:=Try.f39.ntmps) follows_mixed soundSl (by kernel_rfl) hround
    refine Trip.mono hrun ?_
    rintro X e2 H2 ⟨rfl,rfl,rfl⟩
    refine ⟨rfl,ksS,5,bndSI (gl:=gl) (R:=R) q i,?_⟩
    refine ⟨rfl,?_,hB',hS'⟩
    show gc 5 5 [bG g,bX l,bx1 x,mapK encX _,B',bx1 y]=_
    rw [gc5 hB',List.map_append]
    simp only [List.map_cons,List.map_nil,hww,sStep,List.foldl_append,List.foldl_cons,List.foldl_nil]
  · rintro S Bk e H' ⟨rfl,rfl,hB,hS⟩ hall hlt hnd
    refine ⟨rfl,_,Bk,?_,hB,rfl,rfl⟩
    refine sStep_perm fun w=>?_
    constructor
    · intro hw
      obtain ⟨j,hj,rfl⟩:=List.mem_map.1 hw
      have c:j < F.length:=by simpa using hlt j hj
      have:F.getD j (0,0)=F[j]:=by simp [List.getD,List.getElem?_eq_getElem c]
      rw [this]; exact List.getElem_mem c
    · intro hw
      obtain ⟨j,hj,rfl⟩:=List.getElem_of_mem hw
      refine List.mem_map.2 ⟨j,hall j (by simpa using hj),by simp [List.getD,List.getElem?_eq_getElem hj]⟩
def ksO:List Nat:=[0,1,4,5,6,9,32,33,34]
abbrev suJ (gl:List Int) (R:List (List Int)) (q i:Nat) (v9:HV):Env:=[(0,.imm .arg 1 (gl.map encI)),(1,.imm .arg 1 (R.map encR)),(4,.imm .lit 1 []),(5,.int .i64 0),(6,.ptr 0 0 0 1),(9,v9),(32,.sl 1 0 q none q 2),(33,.int .i64 (q:Int)),(34,.int .i64 (i:Int))]
theorem zipX (X:List El):(X.map encX).zip (X.map fun _=>HV.bool true)=X.map fun w=>(encX w,HV.bool true):=by
  induction X with
  | nil=>rfl
  | cons x X ih=>simp [ih]
theorem conv_map {q i:Nat} {A F:List El} {x:El} {Bk:Blk} (hA:A.Perm F) (hB:Bk.mx=0) :
    Conv Tp 2 (suX gl R q i (.map 3) Ud (.map 3) Ud (.ptr 4 0 0 0)) [bG g,bX l,bx1 x,mapK encX A,Bk] (suJ gl R q i (encS F)) [bG g,bX l]:=by
  have e1:restr ksO (suX gl R q i (.map 3) Ud (.map 3) Ud (.ptr 4 0 0 0))=suJ gl R q i (.map 3):=rfl
  have c1:Conv Tp 2 (suX gl R q i (.map 3) Ud (.map 3) Ud (.ptr 4 0 0 0)) [bG g,bX l,bx1 x,mapK encX A,Bk] (suJ gl R q i (.map 3)) [bG g,bX l,bx1 x,mapK encX A,Bk]:=by
    rw [← e1]; exact Conv.restr ksO
  have e2:gc 2 4 [bG g,bX l,bx1 x,mapK encX A,Bk]=[bG g,bX l,bx1 x] ++ [.map (A.map encX) (A.map fun _=>.bool true) 0]:=by
    unfold gc
    have:mxs [bG g,bX l,bx1 x,mapK encX A,Bk]=0:=by
      show max 0 (max 0 (max 0 (max 0 (max Bk.mx 0))))=0
      rw [hB]; rfl
    rw [this]; rfl
  have c2:=Conv.gc (P:=Tp) (n:=2) (e:=suJ gl R q i (.map 3)) (H:=[bG g,bX l,bx1 x,mapK encX A,Bk]) 4 (by simp [suJ,bndE,bnd,bndL])
  rw [e2] at c2
  have hlen:A.length=F.length:=hA.length_eq
  have c3:=Conv.sealM (P:=Tp) (n:=2) (e:=suJ gl R q i (.map 3)) (H0:=[bG g,bX l,bx1 x]) (ks:=A.map encX) (vs:=A.map fun _=>.bool true) (mx:=0) (mb:=3) (ks':=F.map encX) (vs':=F.map fun _=>.bool true)
    rfl (by omega) (fun v hv=>by obtain ⟨_,_,rfl⟩:=List.mem_map.1 hv; rfl) (by rw [zipX,zipX]; exact (hA.symm).map _) (by simp [hlen]) (by simp [hlen])
    (fun p hp=>by
      simp only [suJ,List.mem_cons,List.not_mem_nil,or_false] at hp
      rcases hp with rfl | rfl | rfl | rfl | rfl | rfl | rfl | rfl | rfl
      · exact .inr (by simp [bnd])
      · exact .inr (by simp [bnd])
      · exact .inr (by simp [bnd])
      · exact .inr (by simp [bnd])
      · exact .inr (by simp [bnd])
      · exact .inl rfl
      · exact .inr (by simp [bnd])
      · exact .inr (by simp [bnd])
      · exact .inr (by simp [bnd]))
    (fun b y hy=>by
      match b,hy with
      | 0,hy=>cases hy; intro v hv; rw [List.mem_singleton] at hv; subst hv; exact .inr (by simp [encG,bnd,bndL])
      | 1,hy =>
        cases hy
        intro v hv
        obtain ⟨z,_,rfl⟩:=List.mem_map.1 hv
        exact .inr (by simp [encX,bnd,bndL])
      | 2,hy=>cases hy; intro v hv; rw [List.mem_singleton] at hv; subst hv; exact .inr (by simp [encX,bnd,bndL])
      | b+3,hy=>simp at hy)
  have e3:([bG g,bX l,bx1 x].map (sealB 3 (.imap .own (F.map encX) (F.map fun _=>.bool true))))=[bG g,bX l,bx1 x]:=by
    have hX:(l.map encX).map (sealV 3 (.imap .own (F.map encX) (F.map fun _=>.bool true)))=l.map encX:=by
      rw [List.map_map]; rfl
    have hb:bndL (l.map encX)=0:=encX_bnd l
    simp only [List.map_cons,List.map_nil,sealB,bX,hX,hb]
    rfl
  rw [e3] at c3
  have e4:sealE 3 (.imap .own (F.map encX) (F.map fun _=>.bool true)) (suJ gl R q i (.map 3))=suJ gl R q i (encS F):=rfl
  rw [e4] at c3
  have c5:=Conv.gc (P:=Tp) (n:=2) (e:=suJ gl R q i (encS F)) (H:=[bG g,bX l,bx1 x]) 2 (by simp [suJ,bndE,bnd,bndL,encS])
  have e5:gc 2 2 [bG g,bX l,bx1 x]=[bG g,bX l]:=rfl
  rw [e5] at c5
  exact ((c1.trans c2).trans c3).trans c5
theorem ix67s {q i:Nat} (hi:i < q):idxV Tp 67 (.sl 1 0 q none q 2) (.int .i64 (i:Int))=some (.ptr 1 i 0 q):=by
  have:=idx_sl (P:=Tp) (t:=67) (b:=1) (len:=q) (tot:=q) (cap:=none) (ik:=.i64) (n:=(i:Int)) u67 z64 (by omega) (by omega)
  rwa [Int.toNat_natCast] at this
theorem ld67 {q i:Nat} (hq:l.length=q) (hi:i < q) {T:Heap}:loadV Tp (bG g :: bX l :: T) 64 (.ptr 1 i 0 q)=some (encX (l.getD i (0,0))) :=
  load_agg (b:=1) (els:=l.map encX) (cs:=[.int .i64 (l.getD i (0,0)).1,.int .i64 (l.getD i (0,0)).2]) rfl (by simp [hq]) (by rw [List.getElem?_map,List.getElem?_eq_getElem (by omega)]; simp [List.getD,List.getElem?_eq_getElem (show i < l.length by omega),encX]) a64 z64
theorem su_body (hg:grOk g) (hl:∀ x ∈ l,elOk g x) {q i:Nat} (hq:l.length=q) (hi:i < q) (hq2:q ≤ 1000) {F:List El} (hF:∀ y ∈ F,elOk g y) :
    Trip Tp Try.f39.ntmps (sub [1,1,1,1,1,1,0,1,0,0] B39) (suJ gl R q i (encS F)) [bG g,bX l] (fun X e H=>X=.normal∧e=suJ gl R q (i+1) (encS (sStep g (l.getD i (0,0)) F))∧H=[bG g,bX l]):=by
  have hx:elOk g (l.getD i (0,0)):=hl _ (by rw [List.getD,List.getElem?_eq_getElem (show i < l.length by omega)]; exact List.getElem_mem _)
  refine Trip.conv (Q:=fun X e H=>X=.normal∧∃ A Bk,A.Perm (sStep g (l.getD i (0,0)) F)∧Bk.mx=0∧e=suX gl R q (i+1) (.map 3) Ud (.map 3) Ud (.ptr 4 0 0 0)∧H=[bG g,bX l,bx1 (l.getD i (0,0)),mapK encX A,Bk]) ?_ (by
    rintro X e' H' ⟨rfl,A,Bk,hA,hB,rfl,rfl⟩
    exact ⟨_,_,conv_map hA hB,rfl,rfl,rfl⟩)
  refine Trip.restrict (polSl.keys 39) ?_
  have s1:=su_h_0 (gl.map encI) (R.map encR) [bG g,bX l] (encS F) q i (y7:=Ud) (y8:=Ud) (y11:=Ud) (y12:=Ud) (y13:=Ud) (y14:=Ud) (y15:=Ud) (y42:=Ud) (y57:=Ud) (by omega)
  refine Trip.seqR (cd:=sub [1,1,1,1,1,1,0,1,0,0] B39) (ca:=sub [1,1,1,1,1,1,0,1,0,0,0] B39) (cb:=sub [1,1,1,1,1,1,0,1,0,0,1] B39) s1 follows_mixed soundSl (by kernel_rfl) (by kernel_rfl) ?_
  have hc:sub [1,1,1,1,1,1,0,1,0,0,1] B39=.seq (sub [1,1,1,1,1,1,0,1,0,0,1,0] B39) (.seq (.block 1 (.seq (sub [1,1,1,1,1,1,0,1,0,0,1,1,0,0,0] B39) (.seq (sub [1,1,1,1,1,1,0,1,0,0,1,1,0,0,1,0] B39) (.seq (sub [1,1,1,1,1,1,0,1,0,0,1,1,0,0,1,1,0] B39) (sub [1,1,1,1,1,1,0,1,0,0,1,1,0,0,1,1,1] B39))))) (sub [1,1,1,1,1,1,0,1,0,0,1,1,1] B39)):=by kernel_rfl
  rw [hc]
  have s2:=su_ht_0 (gl.map encI) (R.map encR) [bG g,bX l] (encS F) q i (y7:=Ud) (y8:=Ud) (y11:=Ud) (y12:=Ud) (y13:=Ud) (y14:=Ud) (y15:=Ud) (y42:=Ud) (y57:=Ud)
  refine Trip.seqR s2 follows_mixed soundSl (by kernel_rfl) rfl ?_
  refine Trip.seq (Q1:=fun X e H=>X=.normal∧∃ A Bk,A.Perm (sStep g (l.getD i (0,0)) F)∧Bk.mx=0∧e=suX gl R q i (.map 3) (.ptr 2 0 0 1) (.map 3) Ud (.ptr 4 0 0 0)∧H=[bG g,bX l,bx1 (l.getD i (0,0)),mapK encX A,Bk]) ?_ ?_ (fun X e1 H1 hx q=>absurd q.1 hx)
  · refine Trip.block ?_
    have s3:=su_i_0 (gl.map encI) (R.map encR) g.1 g.2.1 g.2.2 (l.map encX) (l.getD i (0,0)).1 (l.getD i (0,0)).2 (encS F) q i (y7:=Ud) (y8:=Ud) (y11:=Ud) (y12:=Ud) (y13:=Ud) (y14:=Ud) (y15:=Ud) (y42:=Ud) (y57:=Ud) (ix67s hi) (ld67 hq hi)
    refine Trip.seqR s3 follows_mixed soundSl (by kernel_rfl) rfl ?_
    have up:=map_upd keyX (H:=[bG g,bX l,bx1 (l.getD i (0,0)),mapK encX []]) (b:=3) rfl (l.getD i (0,0))
    have s4:=su_j_0 (gl.map encI) (R.map encR) [bG g,bX l,bx1 (l.getD i (0,0))] (l.getD i (0,0)).1 (l.getD i (0,0)).2 (encS F) q i (y7:=Ud) (y8:=Ud) (y12:=Ud) (y13:=Ud) (y14:=Ud) (y15:=Ud) (y42:=Ud) (y57:=Ud) (H0:=[bG g,bX l,bx1 (l.getD i (0,0)),mapK encX []]) rfl (ld64 rfl) up
    refine Trip.seqR s4 follows_mixed soundSl (by kernel_rfl) rfl ?_
    refine Trip.seq (su_inner hg (q:=q) (i:=i) hx hF) ?_ ?_
    · rintro e1 H1 ⟨_,A,Bk,hA,hB,he,rfl⟩
      refine Trip.restrict (polSl.keys 39) ?_
      rw [he]
      have s5:=su_m_0 (gl.map encI) (R.map encR) [bG g,bX l,bx1 (l.getD i (0,0)),mapK encX A,Bk] Ud q i (y7:=Ud) (y8:=Ud) (y11:=.ptr 2 0 0 1) (y13:=Ud) (y14:=Ud) (y15:=Ud) (y42:=.ptr 4 0 0 0) (y57:=Ud)
      refine (Trip.run follows_mixed soundSl (by kernel_rfl) s5).mono ?_
      rintro X e H ⟨rfl,rfl,rfl⟩
      exact ⟨rfl,A,Bk,hA,hB,rfl,rfl⟩
    · rintro X e1 H1 hX ⟨h,_⟩
      exact absurd h hX
  · rintro e1 H1 ⟨_,A,Bk,hA,hB,rfl,rfl⟩
    have s6:=su_n_0 (gl.map encI) (R.map encR) [bG g,bX l,bx1 (l.getD i (0,0)),mapK encX A,Bk] (.map 3) q i (y7:=Ud) (y8:=Ud) (y11:=.ptr 2 0 0 1) (y12:=.map 3) (y13:=Ud) (y14:=Ud) (y15:=Ud) (y42:=.ptr 4 0 0 0) (y57:=Ud)
    rw [wrap_succ (by omega)] at s6
    refine Trip.mono (Trip.restrict [0,1,4,5,6,9,12,32,33,34,42] (Trip.restrict (polSl.keys 39) (Trip.run follows_mixed soundSl (by kernel_rfl) (su_n_0 (gl.map encI) (R.map encR) [bG g,bX l,bx1 (l.getD i (0,0)),mapK encX A,Bk] (.map 3) q i (y7:=Ud) (y8:=Ud) (y11:=Ud) (y12:=.map 3) (y13:=Ud) (y14:=Ud) (y15:=Ud) (y42:=.ptr 4 0 0 0) (y57:=Ud))))) ?_
    rintro X e H ⟨rfl,rfl,rfl⟩
    exact ⟨rfl,A,Bk,hA,hB,by rw [wrap_succ (by omega)],rfl⟩
end
end Go.Proofs.Ytaibmipamkaljaa
end
section
open Go Go.HL Go.HL.So
namespace Go.Proofs.Ytaibmipamkaljaa
open Go.Proofs.Try renaming prog → Tp
open Go.HL.HV renaming undef → Ud
theorem res39:Try.f39.results.toList=[.tmp 4,.tmp 5]:=by kernel_rfl
def sumsL (gl:List Int) (F:List El):List (List Int):=((List.range (sizeT gl).toNat).filter fun (c:Nat)=>decide (tE gl (c:Int) ∈ F)).map fun (c:Nat)=>decT gl (c:Int)
theorem strict_extR {α:Type} {lt:α → α → Prop} (asy:∀ x y,lt x y → ¬ lt y x):∀ {l m:List α},l.Pairwise lt → m.Pairwise lt → (∀ x,x ∈ l ↔ x ∈ m) → l=m
  | [],[],_,_,_=>rfl
  | [],y :: m,_,_,h=>absurd ((h y).2 (by simp)) (by simp)
  | x :: l,[],_,_,h=>absurd ((h x).1 (by simp)) (by simp)
  | x :: l,y :: m,hl,hm,h=>by
    obtain ⟨l1,l2⟩:=List.pairwise_cons.1 hl
    obtain ⟨m1,m2⟩:=List.pairwise_cons.1 hm
    have e:x=y:=by
      rcases List.mem_cons.1 ((h x).1 (by simp)) with e | e
      · exact e
      · have a1:=m1 x e
        rcases List.mem_cons.1 ((h y).2 (by simp)) with e2 | e2
        · exact e2.symm
        · exact absurd (l1 y e2) (asy _ _ a1)
    subst e
    rw [strict_extR asy l2 m2 fun z=>?_]
    constructor
    · intro hz
      rcases List.mem_cons.1 ((h z).1 (List.mem_cons_of_mem _ hz)) with e | e
      · subst e; exact absurd (l1 z hz) (asy _ _ (l1 z hz))
      · exact e
    · intro hz
      rcases List.mem_cons.1 ((h z).2 (List.mem_cons_of_mem _ hz)) with e | e
      · subst e; exact absurd (m1 z hz) (asy _ _ (m1 z hz))
      · exact e
theorem ltL_tot {s:Nat} (hs:s=1 ∨ s=2) {a b:List Int} (ha:a.length=s) (hb:b.length=s) (hn:a ≠ b) (h:¬ ltL b a):ltL a b:=by
  unfold ltL at *
  rcases hs with rfl | rfl
  · match a,b,ha,hb with
    | [x],[y],_,_ =>
      have:x ≠ y:=fun e=>hn (by rw [e])
      simp only [List.getD_cons_zero] at h ⊢
      omega
  · match a,b,ha,hb with
    | [x,x'],[y,y'],_,_ =>
      have e1:([x,x']:List Int).getD 1 0=x':=rfl
      have e2:([y,y']:List Int).getD 1 0=y':=rfl
      simp only [List.getD_cons_zero,e1,e2] at h ⊢
      have:¬ (x=y∧x'=y'):=fun e=>hn (by rw [e.1,e.2])
      omega
section
variable {gl:List Int} (hg:(newGroupT gl).2=true)
include hg
theorem grp_s:gl.length=1 ∨ gl.length=2:=by
  have:=grp_len hg; omega
theorem lst_tE {c:Int}:lstT (grG gl) (tE gl c)=decT gl c:=by
  rcases grp_cases hg with ⟨a,rfl,h1,h2⟩ | ⟨a,b,rfl,h1,h2,h3,h4,h5,h6⟩
  · simp only [grG,new_one h1 h2]; rfl
  · simp only [grG,new_two h1 h2 h3 h4 h5 h6]; rfl
theorem lst_len (y:El):(lstT (grG gl) y).length=gl.length:=by
  rcases grp_cases hg with ⟨a,rfl,h1,h2⟩ | ⟨a,b,rfl,h1,h2,h3,h4,h5,h6⟩
  · simp only [grG,new_one h1 h2]; rfl
  · simp only [grG,new_two h1 h2 h3 h4 h5 h6]; rfl
theorem el_code {y:El} (hy:elOk (grG gl) y):∃ c:Int,(0 ≤ c∧c < sizeT gl)∧tE gl c=y:=by
  rcases grp_cases hg with ⟨a,rfl,h1,h2⟩ | ⟨a,b,rfl,h1,h2,h3,h4,h5,h6⟩
  · simp only [grG,new_one h1 h2] at hy
    obtain ⟨⟨y1,y2⟩,y3,y4⟩:=hy
    simp only at y1 y2 y3 y4
    refine ⟨y.1,⟨y1,y2⟩,?_⟩
    show (y.1,(0:Int))=y
    exact Prod.ext rfl (by show (0:Int)=y.2; omega)
  · simp only [grG,new_two h1 h2 h3 h4 h5 h6] at hy
    obtain ⟨hy1,hy2⟩:=hy
    have cb:=cod_b h1 h3 h5 hy1 hy2
    refine ⟨y.1 * b+y.2,⟨by omega,cb.2.1⟩,tE_two hy2⟩
theorem lst_inj {x y:El} (hx:elOk (grG gl) x) (hy:elOk (grG gl) y) (h:lstT (grG gl) x=lstT (grG gl) y):x=y:=by
  rcases grp_cases hg with ⟨a,rfl,h1,h2⟩ | ⟨a,b,rfl,h1,h2,h3,h4,h5,h6⟩
  · simp only [grG,new_one h1 h2] at hx hy h
    obtain ⟨_,x3,x4⟩:=hx
    obtain ⟨_,y3,y4⟩:=hy
    simp only at x3 x4 y3 y4
    simp only [lstT,if_true,List.cons.injEq,and_true] at h
    exact Prod.ext h (by omega)
  · simp only [grG,new_two h1 h2 h3 h4 h5 h6] at h
    simp only [lstT,show ¬ (2:Int)=1 by omega,if_false,List.cons.injEq,and_true] at h
    exact Prod.ext h.1 h.2
theorem decT_lt {c d:Int} (h0:0 ≤ c) (h:c < d):ltL (decT gl c) (decT gl d):=by
  rcases grp_cases hg with ⟨a,rfl,h1,h2⟩ | ⟨a,b,rfl,h1,h2,h3,h4,h5,h6⟩
  · exact .inl h
  · have e1:=Int.mul_ediv_add_emod c b
    have e2:=Int.mul_ediv_add_emod d b
    have f1:=Int.emod_nonneg c (show b ≠ 0 by omega)
    have f2:=Int.emod_lt_of_pos c (show 0 < b by omega)
    have f3:=Int.emod_nonneg d (show b ≠ 0 by omega)
    have f4:=Int.emod_lt_of_pos d (show 0 < b by omega)
    have hle:c / b ≤ d / b:=Int.ediv_le_ediv (by omega) (by omega)
    show c / b < d / b ∨ (c / b=d / b∧c % b < d % b)
    by_cases e:c / b=d / b
    · refine .inr ⟨e,?_⟩
      rw [e] at e1; omega
    · exact .inl (by omega)
theorem sums_sorted {F:List El} (hF:∀ y ∈ F,elOk (grG gl) y) (hnd:F.Nodup) {l:List (List Int)} (hl:l.Perm (F.map (lstT (grG gl)))) (hs:Sorted ltL 0 l.length l):l=sumsL gl F:=by
  have hlen:∀ x ∈ l,x.length=gl.length:=fun x hx=>by
    obtain ⟨y,_,rfl⟩:=List.mem_map.1 (hl.mem_iff.1 hx)
    exact lst_len hg y
  have hnl:l.Nodup:=hl.nodup_iff.2 (by
    clear hl hs hlen
    induction F with
    | nil=>simp
    | cons y F ih =>
      obtain ⟨n1,n2⟩:=List.nodup_cons.1 hnd
      rw [List.map_cons,List.nodup_cons]
      refine ⟨fun h=>?_,ih (fun z hz=>hF z (by simp [hz])) n2⟩
      obtain ⟨z,hz,e⟩:=List.mem_map.1 h
      rw [lst_inj hg (hF z (by simp [hz])) (hF y (by simp)) e] at hz
      exact n1 hz)
  have e:∀ k,(hk:k < l.length) → at_ l k=l[k]:=fun k hk=>by simp [at_,List.getD,List.getElem?_eq_getElem hk]
  have h1:l.Pairwise ltL:=by
    rw [List.pairwise_iff_getElem]
    intro i j hi hj hij
    have:=hs i j (Nat.zero_le _) hij hj
    rw [e i hi,e j hj] at this
    exact ltL_tot (grp_s hg) (hlen _ (List.getElem_mem hi)) (hlen _ (List.getElem_mem hj)) (List.pairwise_iff_getElem.1 hnl i j hi hj hij) this
  have h2:(sumsL gl F).Pairwise ltL:=by
    rw [sumsL,List.pairwise_map]
    exact (List.Pairwise.filter _ List.pairwise_lt_range).imp fun {a b} h=>decT_lt hg (by omega) (by omega)
  refine strict_extR (fun x y h=>ltL_lin.asy x y h) h1 h2 fun x=>?_
  rw [hl.mem_iff]
  simp only [sumsL,List.mem_map,List.mem_filter,List.mem_range,decide_eq_true_eq]
  constructor
  · rintro ⟨y,hy,rfl⟩
    obtain ⟨c,⟨c0,c1⟩,rfl⟩:=el_code hg (hF y hy)
    exact ⟨c.toNat,⟨by omega,by rw [Int.toNat_of_nonneg c0]; exact hy⟩,by rw [Int.toNat_of_nonneg c0,lst_tE hg]⟩
  · rintro ⟨c,⟨_,h⟩,rfl⟩
    exact ⟨_,h,lst_tE hg⟩
end
def sumsT (gl:List Int) (R:List (List Int)):List (List Int) × Int :=
  if (newGroupT gl).2=true then (match elemsT (newGroupT gl).1 R with
    | some els=>(sumsL gl (sumS (newGroupT gl).1 els),0)
    | none=>([],2)) else ([],2)
def sums39:List HV → Option HV
  | [.imm .arg 1 la,.imm .arg 1 rw]=>(match mapO decI la,mapO decR rw with | some l,some R=>if R.length ≤ 1000 then some (.tuple [.own 1 ((sumsT l R).1.map encO),.int .i64 (sumsT l R).2]) else none | _,_=>none)
  | _=>none
theorem sums_inv {args:List HV} {res:HV} (h:sums39 args=some res):∃ (l:List Int) (R:List (List Int)),args=[.imm .arg 1 (l.map encI),.imm .arg 1 (R.map encR)]∧R.length ≤ 1000∧res=.tuple [.own 1 ((sumsT l R).1.map encO),.int .i64 (sumsT l R).2]:=by
  unfold sums39 at h
  split at h
  · split at h
    · rename_i l R hl hR
      split at h
      · rename_i hk
        cases h
        exact ⟨l,R,by rw [mapO_inv decI_inv hl,mapO_inv decR_inv hR],hk,rfl⟩
      · cases h
    · cases h
  · cases h
section
variable {gl:List Int} {R:List (List Int)} {g:Gr} {l:List El}
theorem nodup_lt:∀ (n:Nat) (S:List Nat),S.Nodup → (∀ q ∈ S,q < n) → S.length ≤ n
  | 0,[],_,_=>Nat.le_refl _
  | 0,q :: S,_,h=>absurd (h q (by simp)) (Nat.not_lt_zero _)
  | n+1,S,hn,h=>by
    have h1:=nodup_lt n (S.erase n) (hn.erase n) (fun q hq=>by
      have a:=h q (List.mem_of_mem_erase hq)
      have b:q ≠ n:=fun e=>by
        rw [e,hn.mem_erase_iff] at hq
        exact hq.1 rfl
      omega)
    rw [List.length_erase] at h1
    split at h1 <;> omega
noncomputable def D20:Code:=sub [1,1,1,1,1,1,1,1,0,0] B39
noncomputable def D21:Code:=sub [1,1,1,1,1,1,1,1,0,1,0,0,0] B39
noncomputable def D22:Code:=sub [1,1,1,1,1,1,1,1,0,1,0,0,1,1,0,0] B39
abbrev suY (gl:List Int) (R:List (List Int)) (n:Nat) (v9 v15 v32 v33 v34 v57:HV):Env:=(env39 (.imm .arg 1 (gl.map encI)) (.imm .arg 1 (R.map encR)) (.imm .lit 1 []) (.int .i64 0) (.ptr 0 0 0 1) Ud Ud v9 Ud Ud Ud (.sl 2 0 n none n 1) v15 v32 v33 v34 Ud v57)
def ksF:List Nat:=[0,1,4,5,6,14,57]
abbrev suF (gl:List Int) (R:List (List Int)) (n:Nat):Env:=[(0,.imm .arg 1 (gl.map encI)),(1,.imm .arg 1 (R.map encR)),(4,.imm .lit 1 []),(5,.int .i64 0),(6,.ptr 0 0 0 1),(14,.sl 2 0 n none n 1),(57,.ptr 3 0 0 0)]
theorem box_in22 (e:Env) (H:Heap) (x:El):evOps Tp polSl 39 22 (regOps D22) [] (callN Tp polSl 1) ((regOps D22).toList.drop 1) (e.put (some 60) (.tuple [encX x,.bool true])) H=some ([(15,.ptr H.length 0 0 1),(61,encX x),(60,.tuple [encX x,.bool true])] ++ e,H ++ [.arr 2 [encX x] true 0]) :=
  evOpsH_ok Tp polSl ((regOps D22).toList.drop 1) 1 _ _ [⟨22,3,.tuple [],H ++ [.arr 2 [encX x] true 0]⟩] (hs':=[])
    (ob:=[(storeV Tp (H ++ [.arr 2 [.agg [.int .i64 0,.int .i64 0]] true 0]) 64 (.ptr H.length 0 0 1) (encX x)).map (fun H=>(HV.tuple [],H))=some (.tuple [],H ++ [.arr 2 [encX x] true 0])]) (by kernel_rfl) (Obls.cons (hintSt (st_box2 H x)) Obls.nil)
theorem pre_in20 {H:Heap} {n:Nat} (m9 v32 v33 v34:HV) :
    evOps Tp polSl 39 20 (regOps D20) [] (callN Tp polSl 1) ((regOps D20).toList.take 1) (suY gl R n m9 Ud v32 v33 v34 Ud) H=some ((56,m9) :: suY gl R n m9 Ud v32 v33 v34 Ud,H) :=
  evOpsH_ok Tp polSl ((regOps D20).toList.take 1) 0 _ _ [] (hs':=[]) (ob:=[]) (by kernel_rfl) Obls.nil
theorem list62_at {pol':Pol} (hp:pol'.prim 62=some list62) {g:Gr} (hs:g.2.2=1 ∨ g.2.2=2) (y:El) (H:Heap):∀ k,callN Tp pol' (k+1) 62 [encG g,encX y] H=some (.sl H.length 0 (lstT g y).length none (lstT g y).length 1,H ++ [bI (lstT g y)]):=fun k=>by
  rw [prim_call (pol:=pol') (g:=62) (F:=list62) hp (rs:=[encG g,encX y]) rfl (res:=.own 1 ((lstT g y).map encI)) (by simp only [list62,decG_enc,decX_enc]; rw [if_pos hs]),recv_ints]
theorem su_add (hs:g.2.2=1 ∨ g.2.2=2) {out:List (List Int)} {y:El} {Bk:Blk} (ho:out.length ≤ 1000) :
    ∃ w,RT polSl 39 (sub [1,1,1,1,1,1,1,1,0,1,0,0,1,1,0,1] B39) ((env39 (.imm .arg 1 (gl.map encI)) (.imm .arg 1 (R.map encR)) (.imm .lit 1 []) (.int .i64 0) (.ptr 0 0 0 1) Ud Ud Ud Ud Ud Ud (.sl 2 0 out.length none out.length 1) (.ptr 4 0 0 1) Ud Ud Ud Ud (.ptr 3 0 0 0))) [bG g,bX l,bO out,Bk,bx1 y] .normal
      ((env39 (.imm .arg 1 (gl.map encI)) (.imm .arg 1 (R.map encR)) (.imm .lit 1 []) (.int .i64 0) (.ptr 0 0 0 1) Ud Ud Ud Ud Ud Ud (.sl 2 0 (out.length+1) none (out.length+1) 1) (.ptr 4 0 0 1) Ud Ud Ud Ud (.ptr 3 0 0 0))) [bG g,bX l,bO (out ++ [lstT g y]),Bk,bx1 y,.arr 1 ((lstT g y).map encI) w 0]:=by
  have cl:=list62_at (pol':=polSl) (by kernel_rfl) hs y [bG g,bX l,bO out,Bk,bx1 y]
  obtain ⟨w,lt⟩:=lit_seal' (P:=Tp) (H:=[bG g,bX l,bO out,Bk,bx1 y,bI (lstT g y)]) (t:=35) (e:=22) (k:=1) (b:=5) (p:=(lstT g y).length) (mx:=0) (bt:=24) (zv:=.imm .lit 0 []) (els:=(lstT g y).map encI) u35 (by kernel_rfl) (by kernel_rfl) (by kernel_rfl) rfl (by simp) (ints_res _)
  have ap:=app_O (H:=[bG g,bX l,bO out,Bk,bx1 y,.arr 1 ((lstT g y).map encI) w 0]) (b:=2) (R:=out) rfl ho (lstT g y)
  exact ⟨w,su_q_0 (gl.map encI) (R.map encR) [bG g,bX l,bO out,Bk,bx1 y] 4 5 out.length (lstT g y).length g.1 g.2.1 g.2.2 y.1 y.2 ((lstT g y).map encI) (y7:=Ud) (y8:=Ud) (y9:=Ud) (y11:=Ud) (y12:=Ud) (y13:=Ud) (y32:=Ud) (y33:=Ud) (y34:=Ud) (y42:=Ud) (y57:=.ptr 3 0 0 0) bG_get (ld64 rfl) cl lt ap⟩
theorem gc4f {out:List (List Int)} {y:El} {B':Blk} {els:List HV} {w:Bool} (hB:B'.mx=0):gc 4 4 [bG g,bX l,bO out,B',bx1 y,.arr 1 els w 0]=[bG g,bX l,bO out,B']:=by
  unfold gc
  have:mxs [bG g,bX l,bO out,B',bx1 y,.arr 1 els w 0]=0:=by
    show max 0 (max 0 (max 0 (max B'.mx (max 0 (max 0 0)))))=0
    rw [hB]; rfl
  rw [this]; rfl
theorem su_last (hs:g.2.2=1 ∨ g.2.2=2) {F:List El} (hF:F.length ≤ 900) (v32 v33 v34:HV) :
    Trip Tp Try.f39.ntmps (sub [1,1,1,1,1,1,1,1,0] B39) (suY gl R 0 (encS F) Ud v32 v33 v34 Ud) [bG g,bX l,bO []]
      (fun X e H=>X=.normal∧∃ O Bk,O.Perm (F.map (lstT g))∧Bk.mx=0∧restr (polSl.keys 39) e=suY gl R O.length Ud Ud Ud Ud Ud (.ptr 3 0 0 0)∧H=[bG g,bX l,bO O,Bk]):=by
  have hc:sub [1,1,1,1,1,1,1,1,0] B39=.seq (.region 20 (regOps D20) false) (.block 4 (.loop (.seq (.region 21 (regOps D21) false) (.seq (.cond (.tmp 59) .skip (.exit 4)) (.block 5 (.seq (.region 22 (regOps D22) false) (sub [1,1,1,1,1,1,1,1,0,1,0,0,1,1,0,1] B39))))))):=by kernel_rfl
  rw [hc]
  refine Trip.range (pol:=polSl) (f:=39) (k:=1) (it:=57) (tm:=56) (tn:=58) (tb:=59) (te:=60) (T:=87) (kt:=64) (et:=4) (oR:=opAt (regOps D20) 1) (oN:=opAt (regOps D21) 0) (oX:=opAt (regOps D21) 1) (oE:=opAt (regOps D22) 0) (pre:=(regOps D20).toList.take 1) (os:=(regOps D22).toList.drop 1)
    (g:=.own) (kl:=F.map encX) (vl:=F.map fun _=>.bool true) (asgA:=[]) (asg2:=[]) ksF
    (I:=fun S Bk e H=>e=suF gl R S.length∧H=[bG g,bX l,bO (S.map fun j=>lstT g (F.getD j (0,0))),Bk]∧Bk.mx=0∧∀ q ∈ S,q < F.length)
    soundSl (by kernel_rfl) (by kernel_rfl) (by kernel_rfl) (by kernel_rfl) (by kernel_rfl) (by kernel_rfl) (by kernel_rfl) (by kernel_rfl) (by kernel_rfl) (by kernel_rfl) (by kernel_rfl) (by kernel_rfl) (by kernel_rfl) (by kernel_rfl) (by kernel_rfl) (by kernel_rfl) (by decide)
    (by kernel_rfl) (by kernel_rfl) (by kernel_rfl) (pre_in20 (encS F) _ _ _) rfl ?_ ?_ ?_ ?_
  · intro Bk hB hS
    exact ⟨rfl,rfl,hB,by simp⟩
  · rintro S Bk e H' ⟨rfl,rfl,_,_⟩
    exact ⟨rfl,rfl⟩
  · rintro S Bk e H' j kv vv ⟨rfl,rfl,hB,hS⟩ hj hjS hnd hkv hvv B' hB' hS'
    rw [List.length_map] at hj
    have hw:F[j]=F.getD j (0,0):=by simp [List.getD,List.getElem?_eq_getElem hj]
    have ekv:kv=encX (F.getD j (0,0)):=by
      rw [List.getElem?_map,List.getElem?_eq_getElem hj] at hkv
      rw [← hw]; exact (Option.some.inj hkv).symm
    have evv:vv=.bool true:=by
      rw [List.getElem?_map,List.getElem?_eq_getElem hj] at hvv
      exact (Option.some.inj hvv).symm
    subst ekv; subst evv
    refine ⟨_,_,box_in22 _ _ (F.getD j (0,0)),?_⟩
    obtain ⟨w,hround⟩:=su_add (gl:=gl) (R:=R) (l:=l) (g:=g) hs (out:=S.map fun j=>lstT g (F.getD j (0,0))) (y:=F.getD j (0,0)) (Bk:=B') (by rw [List.length_map]; have:=nodup_lt F.length S hnd hS; omega)
    rw [List.length_map] at hround
    refine Trip.restrict (polSl.keys 39) ?_
    have hrun:=Trip.run (nt:=Try.f39.ntmps) follows_mixed soundSl (by kernel_rfl) hround
    refine Trip.mono hrun ?_
    rintro X e2 H2 ⟨rfl,rfl,rfl⟩
    refine ⟨rfl,ksF,4,by simp [ksF,HL.restr,bndE,bnd,bndL,Env.get],?_⟩
    refine ⟨by rw [List.length_append,List.length_singleton]; rfl,?_,hB',?_⟩
    · show gc 4 4 [bG g,bX l,bO _,B',bx1 _,.arr 1 _ w 0]=_
      rw [gc4f hB',List.map_append,List.map_cons,List.map_nil]
    · intro q hq
      rcases List.mem_append.1 hq with h | h
      · exact hS q h
      · rw [List.mem_singleton] at h; omega
  · rintro S Bk e H' ⟨rfl,rfl,hB,hS⟩ hall hlt hnd
    refine ⟨rfl,_,Bk,?_,hB,?_,rfl⟩
    · have hp:S.Perm (List.range F.length):=by
        rw [List.perm_ext_iff_of_nodup hnd List.nodup_range]
        intro j
        rw [List.mem_range]
        exact ⟨fun h=>by simpa using hlt j h,fun h=>hall j (by simpa using h)⟩
      have e1:(List.range F.length).map (fun j=>lstT g (F.getD j (0,0)))=F.map (lstT g):=by
        apply List.ext_getElem
        · simp
        · intro i h1 h2
          simp at h1
          simp [List.getD,List.getElem?_eq_getElem h1]
      rw [← e1]
      exact hp.map _
    · rw [List.length_map]; rfl
end
end Go.Proofs.Ytaibmipamkaljaa
end
section
open Go Go.HL Go.HL.So
namespace Go.Proofs.Ytaibmipamkaljaa
open Go.Proofs.Try renaming prog → Tp
open Go.HL.HV renaming undef → Ud
section
variable {gl:List Int} (hg:(newGroupT gl).2=true)
include hg
theorem code_dec {c:Int} (hc:0 ≤ c∧c < sizeT gl):codeT gl (decT gl c)=c∧elB gl (decT gl c)=true:=by
  rcases grp_cases hg with ⟨a,rfl,h1,h2⟩ | ⟨a,b,rfl,h1,h2,h3,h4,h5,h6⟩
  · exact ⟨rfl,el_mk1 hc⟩
  · have c1:c < a * b:=hc.2
    have e1:=Int.mul_ediv_add_emod c b
    refine ⟨?_,el_mk2 ⟨Int.ediv_nonneg hc.1 (by omega),Int.ediv_lt_of_lt_mul (by omega) c1⟩ ⟨Int.emod_nonneg _ (by omega),Int.emod_lt_of_pos _ (by omega)⟩⟩
    show c / b * b+c % b=c
    rw [Int.mul_comm]; exact e1
theorem lst_el {y:El} (hy:elOk (grG gl) y):elB gl (lstT (grG gl) y)=true∧eE gl (lstT (grG gl) y)=y:=by
  obtain ⟨c,hc,rfl⟩:=el_code hg hy
  obtain ⟨d1,d2⟩:=code_dec hg hc
  rw [lst_tE hg]
  exact ⟨d2,by rw [eE,d1]⟩
theorem els_few {F:List El} (hF:∀ y ∈ F,elOk (grG gl) y) (hn:F.Nodup):F.length ≤ 144:=by
  have hs:=size_bnd hg
  have key:∀ (F:List El),(∀ y ∈ F,elOk (grG gl) y) → F.Nodup → (F.map fun y=>(codeT gl (lstT (grG gl) y)).toNat).Nodup:=by
    intro F
    induction F with
    | nil=>intro _ _; simp
    | cons y F ih =>
      intro hF hn
      obtain ⟨n1,n2⟩:=List.nodup_cons.1 hn
      rw [List.map_cons,List.nodup_cons]
      refine ⟨fun h=>?_,ih (fun z hz=>hF z (by simp [hz])) n2⟩
      obtain ⟨z,hz,e⟩:=List.mem_map.1 h
      obtain ⟨a1,a2⟩:=lst_el hg (hF z (by simp [hz]))
      obtain ⟨b1,b2⟩:=lst_el hg (hF y (by simp))
      have c1:=code_bnd hg a1
      have c2:=code_bnd hg b1
      have e':codeT gl (lstT (grG gl) z)=codeT gl (lstT (grG gl) y):=by omega
      rw [eE,e'] at a2
      rw [eE] at b2
      rw [a2] at b2
      rw [b2] at hz
      exact n1 hz
  have h:=nodup_lt (sizeT gl).toNat _ (key F hF hn) (fun q hq=>by
    obtain ⟨y,hy,rfl⟩:=List.mem_map.1 hq
    have:=code_bnd hg (lst_el hg (hF y hy)).1
    omega)
  rw [List.length_map] at h
  omega
end
theorem toRes_rs1 {H:Heap} {b k:Nat} {R:List (List Int)} (hb:H[b]?=some (.arr 1 (R.map encO) true 0)) (hk:R.length=k) (x:Int):toRes H false (.tuple [.sl b 0 k none k 1,.int .i64 x])=some (.tuple [.own 1 (R.map encO),.int .i64 x]):=by
  have hr:=resCell_sl (H:=H) (no:=[b]) (b:=b) (k:=1) (m:=k) (cap:=none) (els:=R.map encO) hb (by simpa using hk) (mapO_self (fun r=>frz_O r) _)
  have ho:ownedAll H false (.tuple [.sl b 0 k none k 1,.int .i64 x])=[b]:=by simp [ownedAll,cellsOf,owned,hb]
  simp only [toRes,ho,List.nodup_cons,List.not_mem_nil,not_false_eq_true,List.nodup_nil,and_self,if_true,resVal,mapO,hr]
  rfl
theorem sums_ok:PrimOk Tp 39 sums39:=by
  refine primOk_trip (fn:=Try.f39) (cd:=B39) (deep:=false) (by kernel_rfl) (by kernel_rfl) ?_
  intro args res h
  obtain ⟨gl,R,rfl,hR,rfl⟩:=sums_inv h
  clear h
  have a:=su_a_0 (gl.map encI) (R.map encR)
  have h5:=newGroup_at (pol':=polSl) (by kernel_rfl) gl []
  cases c:(newGroupT gl).2 with
  | false =>
    rw [c] at h5
    have b:=su_b_1 (gl.map encI) (R.map encR) (y6:=Ud) (y7:=Ud) (y8:=Ud) (y9:=Ud) (y11:=Ud) (y12:=Ud) (y13:=Ud) (y14:=Ud) (y15:=Ud) (y32:=Ud) (y33:=Ud) (y34:=Ud) (y42:=Ud) (y57:=Ud) h5
    have s:=su_cf_0 (gl.map encI) (R.map encR) (newGroupT gl).1.1 (newGroupT gl).1.2.1 (newGroupT gl).1.2.2 (y8:=Ud) (y9:=Ud) (y11:=Ud) (y12:=Ud) (y13:=Ud) (y14:=Ud) (y15:=Ud) (y32:=Ud) (y33:=Ud) (y34:=Ud) (y42:=Ud) (y57:=Ud)
    have u:=sq (a) (sq (b) (sqo (s) (c:=sub [1,1] B39) (b:=sub [1,1,1] B39)) (c:=sub [1] B39)) (c:=B39)
    refine (Trip.run follows_mixed soundSl (by kernel_rfl) u).mono ?_
    rintro X e H ⟨rfl,rfl,rfl⟩
    exact ⟨by simp,.tuple [.imm .lit 1 [],.int .i64 2],by simp only [resultsV,res39]; rfl,by rw [sumsT,c]; rfl⟩
  | true =>
    obtain ⟨hgo,hr⟩:=newGroup_gr c
    rw [c] at h5
    have b:=su_b_0 (gl.map encI) (R.map encR) (y6:=Ud) (y7:=Ud) (y8:=Ud) (y9:=Ud) (y11:=Ud) (y12:=Ud) (y13:=Ud) (y14:=Ud) (y15:=Ud) (y32:=Ud) (y33:=Ud) (y34:=Ud) (y42:=Ud) (y57:=Ud) h5
    have ct:=su_ct_0 (gl.map encI) (R.map encR) (newGroupT gl).1.1 (newGroupT gl).1.2.1 (newGroupT gl).1.2.2 (y8:=Ud) (y9:=Ud) (y11:=Ud) (y12:=Ud) (y13:=Ud) (y14:=Ud) (y15:=Ud) (y32:=Ud) (y33:=Ud) (y34:=Ud) (y42:=Ud) (y57:=Ud)
    have h6:=elements_at (pol':=polSl) (by kernel_rfl) hgo hr hR [bGr (newGroupT gl).1]
    cases he:elemsT (newGroupT gl).1 R with
    | none =>
      rw [he] at h6
      have d:=su_d_1 (gl.map encI) (R.map encR) (newGroupT gl).1.1 (newGroupT gl).1.2.1 (newGroupT gl).1.2.2 (y8:=Ud) (y9:=Ud) (y11:=Ud) (y12:=Ud) (y13:=Ud) (y14:=Ud) (y15:=Ud) (y32:=Ud) (y33:=Ud) (y34:=Ud) (y42:=Ud) (y57:=Ud) h6
      have s:=su_ef_0 (gl.map encI) (R.map encR) (newGroupT gl).1.1 (newGroupT gl).1.2.1 (newGroupT gl).1.2.2 0 [] (y9:=Ud) (y11:=Ud) (y12:=Ud) (y13:=Ud) (y14:=Ud) (y15:=Ud) (y32:=Ud) (y33:=Ud) (y34:=Ud) (y42:=Ud) (y57:=Ud)
      have u:=sq (a) (sq (b) (sq (ct) (sq (d) (sqo (s) (c:=sub [1,1,1,1] B39) (b:=sub [1,1,1,1,1] B39)) (c:=sub [1,1,1] B39)) (c:=sub [1,1] B39)) (c:=sub [1] B39)) (c:=B39)
      refine (Trip.run follows_mixed soundSl (by kernel_rfl) u).mono ?_
      rintro X e H ⟨rfl,rfl,rfl⟩
      exact ⟨by simp,.tuple [.imm .lit 1 [],.int .i64 2],by simp only [resultsV,res39]; rfl,by rw [sumsT,c,if_pos rfl,he]; rfl⟩
    | some l =>
      rw [he] at h6
      obtain ⟨k1,k2,k3⟩:=elems_el hgo he
      rw [allEl_iff] at k1
      have d:=su_d_0 (gl.map encI) (R.map encR) (newGroupT gl).1.1 (newGroupT gl).1.2.1 (newGroupT gl).1.2.2 (y8:=Ud) (y9:=Ud) (y11:=Ud) (y12:=Ud) (y13:=Ud) (y14:=Ud) (y15:=Ud) (y32:=Ud) (y33:=Ud) (y34:=Ud) (y42:=Ud) (y57:=Ud) h6
      have et:=su_et_0 (gl.map encI) (R.map encR) (newGroupT gl).1.1 (newGroupT gl).1.2.1 (newGroupT gl).1.2.2 l.length (l.map encX) (y9:=Ud) (y11:=Ud) (y12:=Ud) (y13:=Ud) (y14:=Ud) (y15:=Ud) (y32:=Ud) (y33:=Ud) (y34:=Ud) (y42:=Ud) (y57:=Ud)
      have eG:grG gl=(newGroupT gl).1:=rfl
      have hFo:=sumS_ok hgo l k1
      have hFn:=sumS_nodup (newGroupT gl).1 l
      have hFl:=els_few c hFo hFn
      have hT:sumsT gl R=(sumsL gl (sumS (newGroupT gl).1 l),0):=by rw [sumsT,c,if_pos rfl,he]
      rw [hT]
      have f:=su_f_0 (gl.map encI) (R.map encR) [bG (newGroupT gl).1,bX l] l.length (y7:=.bool true) (y9:=Ud) (y11:=Ud) (y12:=Ud) (y13:=Ud) (y14:=Ud) (y15:=Ud) (y32:=Ud) (y33:=Ud) (y34:=Ud) (y42:=Ud) (y57:=Ud) (H0:=[bG (newGroupT gl).1,bX l,.map [] [] 0]) rfl
      refine Trip.seqR (cd:=B39) (ca:=sub [0] B39) (cb:=sub [1] B39) a follows_mixed soundSl (by kernel_rfl) (by kernel_rfl) ?_
      refine Trip.seqR (cd:=sub [1] B39) (ca:=sub [1,0] B39) (cb:=sub [1,1] B39) b follows_mixed soundSl (by kernel_rfl) (by kernel_rfl) ?_
      refine Trip.seqR (cd:=sub [1,1] B39) (ca:=sub [1,1,0] B39) (cb:=sub [1,1,1] B39) ct follows_mixed soundSl (by kernel_rfl) (by kernel_rfl) ?_
      refine Trip.seqR (cd:=sub [1,1,1] B39) (ca:=sub [1,1,1,0] B39) (cb:=sub [1,1,1,1] B39) d follows_mixed soundSl (by kernel_rfl) (by kernel_rfl) ?_
      refine Trip.seqR (cd:=sub [1,1,1,1] B39) (ca:=sub [1,1,1,1,0] B39) (cb:=sub [1,1,1,1,1] B39) et follows_mixed soundSl (by kernel_rfl) (by kernel_rfl) ?_
      have hc:sub [1,1,1,1,1] B39=.seq (sub [1,1,1,1,1,0] B39) (.seq (.seq (sub [1,1,1,1,1,1,0,0] B39) (.block 0 (.loop (sub [1,1,1,1,1,1,0,1,0,0] B39)))) (.seq (sub [1,1,1,1,1,1,1,0] B39) (.seq (sub [1,1,1,1,1,1,1,1,0] B39) (sub [1,1,1,1,1,1,1,1,1] B39)))):=by kernel_rfl
      rw [hc]
      generalize hgg:(newGroupT gl).1=g at *
      have hc2:Trip Tp Try.f39.ntmps (sub [1,1,1,1,1,0] B39) ((env39 (.imm .arg 1 (gl.map encI)) (.imm .arg 1 (R.map encR)) (.imm .lit 1 []) (.int .i64 0) (.ptr 0 0 0 1) (.bool true) (.sl 1 0 l.length none l.length 2) Ud Ud Ud Ud Ud Ud Ud Ud Ud Ud Ud)) [bG g,bX l] (fun x e H=>x=.normal∧e=(env39 (.imm .arg 1 (gl.map encI)) (.imm .arg 1 (R.map encR)) (.imm .lit 1 []) (.int .i64 0) (.ptr 0 0 0 1) (.bool true) (.sl 1 0 l.length none l.length 2) (encS []) Ud Ud Ud Ud Ud Ud Ud Ud Ud Ud)∧H=[bG g,bX l]):=by
        refine Trip.conv (Trip.run follows_mixed soundSl (by kernel_rfl) f) ?_
        rintro x e H ⟨rfl,rfl,rfl⟩
        refine ⟨_,_,Conv.sealM (P:=Tp) (n:=2) (H0:=[bG g,bX l]) (ks:=[]) (vs:=[]) (ks':=[]) (vs':=[]) (mx:=0) (mb:=2) rfl (Nat.le_refl _) (fun v hv=>by simp at hv) (.refl _) rfl rfl ?_ ?_,rfl,rfl,?_⟩
        · intro q hq
          simp only [List.mem_cons,List.not_mem_nil,or_false] at hq
          rcases hq with rfl | rfl | rfl | rfl | rfl | rfl | rfl | rfl | rfl | rfl | rfl | rfl | rfl | rfl | rfl | rfl | rfl | rfl <;> first | exact .inl rfl | exact .inr (by simp [bnd,bndL])
        · intro b x hx
          match b,hx with
          | 0,hx=>cases hx; intro v hv; rw [List.mem_singleton] at hv; subst hv; exact .inr (by simp [encG,bnd,bndL])
          | 1,hx =>
            cases hx
            intro v hv
            obtain ⟨z,_,rfl⟩:=List.mem_map.1 hv
            exact .inr (by simp [encX,bnd,bndL])
          | b+2,hx=>simp at hx
        · have hX:(l.map encX).map (sealV 2 (.imap .own [] []))=l.map encX:=by rw [List.map_map]; rfl
          have hb:bndL (l.map encX)=0:=encX_bnd l
          simp only [List.map_cons,List.map_nil,sealB,bX,hX,hb]
          rfl
      refine Trip.seq hc2 ?_ (fun x e1 H1 hx q=>absurd q.1 hx)
      rintro e1 H1 ⟨_,rfl,rfl⟩
      have gg:=su_g_0 (gl.map encI) (R.map encR) [bG g,bX l] l.length (encS []) (y7:=.bool true) (y11:=Ud) (y12:=Ud) (y13:=Ud) (y14:=Ud) (y15:=Ud) (y32:=Ud) (y33:=Ud) (y34:=Ud) (y42:=Ud) (y57:=Ud)
      refine Trip.seq (Q1:=fun x e H=>x=.normal∧restr ksO e=suJ gl R l.length l.length (encS (sumS g l))∧H=[bG g,bX l]) ?_ ?_ (fun x e1 H1 hx q=>absurd q.1 hx)
      · refine Trip.seqR gg follows_mixed soundSl (by kernel_rfl) rfl ?_
        refine Trip.block ?_
        refine Trip.restrict ksO ?_
        refine Trip.loop (I:=fun k e H=>k ≤ l.length∧e=suJ gl R l.length (l.length - k) (encS (sumS g (l.take (l.length - k))))∧H=[bG g,bX l]) ?_ (n:=l.length) ⟨Nat.le_refl _,by rw [Nat.sub_self]; rfl,rfl⟩
        rintro k e H ⟨hk,rfl,rfl⟩
        cases k with
        | zero =>
          rw [Nat.sub_zero]
          have s1:=su_h_1 (gl.map encI) (R.map encR) [bG g,bX l] (encS (sumS g (l.take l.length))) l.length l.length (y7:=Ud) (y8:=Ud) (y11:=Ud) (y12:=Ud) (y13:=Ud) (y14:=Ud) (y15:=Ud) (y42:=Ud) (y57:=Ud) (by omega)
          have s2:=su_hf_0 (gl.map encI) (R.map encR) [bG g,bX l] (encS (sumS g (l.take l.length))) l.length l.length (y7:=Ud) (y8:=Ud) (y11:=Ud) (y12:=Ud) (y13:=Ud) (y14:=Ud) (y15:=Ud) (y42:=Ud) (y57:=Ud)
          have hcb:sub [1,1,1,1,1,1,0,1,0,0] B39=.seq (sub [1,1,1,1,1,1,0,1,0,0,0] B39) (.seq (sub [1,1,1,1,1,1,0,1,0,0,1,0] B39) (sub [1,1,1,1,1,1,0,1,0,0,1,1] B39)):=by kernel_rfl
          rw [hcb]
          refine Trip.restrict (polSl.keys 39) ?_
          refine Trip.seqR s1 follows_mixed soundSl (by kernel_rfl) rfl ?_
          refine Trip.seq (Trip.run follows_mixed soundSl (by kernel_rfl) s2) (fun e1 H1 q=>absurd q.1 (by simp)) ?_
          rintro x e1 H1 _ ⟨rfl,rfl,rfl⟩
          exact ⟨rfl,by rw [List.take_length]; rfl,rfl⟩
        | succ p =>
          have hlt:l.length - (p+1) < l.length:=by omega
          have hF2:∀ y ∈ sumS g (l.take (l.length - (p+1))),elOk g y:=sumS_ok hgo _ fun x hx=>k1 x (List.mem_of_mem_take hx)
          have hb:=su_body (gl:=gl) (R:=R) hgo k1 (q:=l.length) (i:=l.length - (p+1)) rfl hlt (by omega) hF2
          refine hb.mono ?_
          rintro x e H ⟨rfl,rfl,rfl⟩
          refine ⟨p,ksO,2,by omega,by simp [suJ,ksO,HL.restr,bndE,bnd,bndL,Env.get,encS],⟨by omega,?_,?_⟩⟩
          · have e1:l.length - (p+1)+1=l.length - p:=by omega
            have e2:l.take (l.length - p)=l.take (l.length - (p+1)) ++ [l.getD (l.length - (p+1)) (0,0)]:=by
              rw [← e1,List.take_add_one]; simp [List.getD,List.getElem?_eq_getElem hlt]
            rw [e1,e2,sumS_app]; rfl
          · unfold gc
            exact List.take_of_length_le (by simp only [List.length_cons,List.length_nil]; omega)
      · rintro e1 H1 ⟨_,he1,rfl⟩
        refine Trip.restrict ksO ?_
        rw [he1]
        refine Trip.restrict (polSl.keys 39) ?_
        have o:=su_o_0 (gl.map encI) (R.map encR) g.1 g.2.1 g.2.2 (l.map encX) (encS (sumS g l)) (y7:=Ud) (y8:=Ud) (y11:=Ud) (y12:=Ud) (y13:=Ud) (y14:=Ud) (y15:=Ud) (y32:=.sl 1 0 l.length none l.length 2) (y33:=.int .i64 (l.length:Int)) (y34:=.int .i64 (l.length:Int)) (y42:=Ud) (y57:=Ud)
        refine Trip.seqR o follows_mixed soundSl (by kernel_rfl) rfl ?_
        refine Trip.seq (su_last (gl:=gl) (R:=R) (l:=l) (g:=g) hr (F:=sumS g l) (by omega) (.sl 1 0 l.length none l.length 2) (.int .i64 (l.length:Int)) (.int .i64 (l.length:Int))) ?_ ?_
        · rintro e2 H2 ⟨_,O,Bk,hO,hB,he2,rfl⟩
          refine Trip.restrict (polSl.keys 39) ?_
          rw [he2]
          have hOl:O.length ≤ 60000:=by rw [hO.length_eq,List.length_map]; omega
          obtain ⟨l',q1,q2,q3⟩:=sortL_ok (grp_s c) (H:=[bG g,bX l,bO O,Bk]) (db:=2) (cap:=none) (l:=O) hOl rfl rfl (by
            show max 0 (max 0 (max 0 (max Bk.mx 0))) ≤ 4
            rw [hB]; decide) (fun x hx=>by
              obtain ⟨y,_,rfl⟩:=List.mem_map.1 (hO.mem_iff.1 hx)
              have:=lst_len c y
              rw [show grG gl=g from hgg] at this
              exact this)
          obtain ⟨N,hN⟩:=q1.from
          have z:=su_z_0 N O.length [bG g,bX l,bO O,Bk] (y0:=.imm .arg 1 (gl.map encI)) (y1:=.imm .arg 1 (R.map encR)) (y6:=.ptr 0 0 0 1) (y7:=Ud) (y8:=Ud) (y9:=Ud) (y11:=Ud) (y12:=Ud) (y13:=Ud) (y15:=Ud) (y32:=Ud) (y33:=Ud) (y34:=Ud) (y42:=Ud) (y57:=.ptr 3 0 0 0) hN
          refine (Trip.run follows_mixed soundSl (by kernel_rfl) z).mono ?_
          rintro X e H ⟨rfl,rfl,rfl⟩
          have hl':l'=sumsL gl (sumS g l):=sums_sorted c (F:=sumS g l) (by rw [show grG gl=g from hgg]; exact hFo) hFn (q2.trans (by rw [show grG gl=g from hgg]; exact hO)) q3
          refine ⟨by simp,.tuple [.sl 2 0 O.length none O.length 1,.int .i64 0],by simp only [resultsV,res39]; rfl,?_⟩
          have:=toRes_rs1 (H:=[bG g,bX l,bO O,Bk].set 2 (.arr 1 (l'.map encO) true 0)) (b:=2) (k:=O.length) (R:=l') rfl q2.length_eq 0
          rw [this,hl']
        · rintro X e1 H1 hX ⟨h,_⟩
          exact absurd h hX
end Go.Proofs.Ytaibmipamkaljaa
end
section
namespace Go.Proofs.Ytaibmipamkaljaa
namespace Ol
abbrev V:=Int × Int × Int
def vadd (a b:V):V:=(a.1+b.1,a.2.1+b.2.1,a.2.2+b.2.2)
theorem vadd_rc (x a d:V):vadd (vadd x d) a=vadd (vadd x a) d:=by
  simp only [vadd]; refine Prod.ext (by show x.1+d.1+a.1=x.1+a.1+d.1; omega) (Prod.ext (by show x.2.1+d.2.1+a.2.1=x.2.1+a.2.1+d.2.1; omega) (by show x.2.2+d.2.2+a.2.2=x.2.2+a.2.2+d.2.2; omega))
theorem vadd_assoc (a b c:V):vadd (vadd a b) c=vadd a (vadd b c):=by
  simp only [vadd]; refine Prod.ext (by show a.1+b.1+c.1=a.1+(b.1+c.1); omega) (Prod.ext (by show a.2.1+b.2.1+c.2.1=a.2.1+(b.2.1+c.2.1); omega) (by show a.2.2+b.2.2+c.2.2=a.2.2+(b.2.2+c.2.2); omega))
theorem vadd_zero (a:V):vadd a (0,0,0)=a:=by simp [vadd]
theorem zero_vadd (a:V):vadd (0,0,0) a=a:=by simp [vadd]
def Dg:Nat → (V → Int) → Prop
  | 0,f=>∀ x,f x=0
  | k+1,f=>∀ h,Dg k (fun x=>f (vadd x h) - f x)
theorem Dg.congr {k:Nat} {f g:V → Int} (hf:Dg k f) (h:∀ x,f x=g x):Dg k g:=by
  have:f=g:=funext h
  exact this ▸ hf
theorem Dg.succ:∀ {k:Nat} {f:V → Int},Dg k f → Dg (k+1) f
  | 0,f,h=>fun d x=>by show f _ - f x=0; rw [h,h]; rfl
  | _+1,_,h=>fun d=>Dg.succ (h d)
theorem Dg.le {k m:Nat} {f:V → Int} (h:Dg k f) (hk:k ≤ m):Dg m f:=by
  induction hk with
  | refl=>exact h
  | step _ ih=>exact ih.succ
theorem Dg.add:∀ {k:Nat} {f g:V → Int},Dg k f → Dg k g → Dg k (fun x=>f x+g x)
  | 0,f,g,h1,h2=>fun x=>by show f x+g x=0; rw [h1,h2]; rfl
  | k+1,f,g,h1,h2=>fun d=>((h1 d).add (h2 d)).congr fun x=>by
    show f _ - f x+(g _ - g x)=f _+g _ - (f x+g x); omega
theorem Dg.shift:∀ {k:Nat} {f:V → Int} (a:V),Dg k f → Dg k (fun x=>f (vadd x a))
  | 0,f,a,h=>fun x=>h _
  | k+1,f,a,h=>fun d=>(Dg.shift a (h d)).congr fun x=>by
    show f (vadd (vadd x a) d) - f (vadd x a)=f (vadd (vadd x d) a) - f (vadd x a)
    rw [vadd_rc]
theorem Dg.mulA:∀ (n:Nat) {a b:Nat} {f g:V → Int},a+b ≤ n → Dg a f → Dg b g → Dg (a+b - 1) (fun x=>f x * g x)
  | n,0,b,f,g,_,h1,_=>Dg.le (k:=0) (fun x=>by show f x * g x=0; rw [h1 x,Int.zero_mul]) (Nat.zero_le _)
  | n,a+1,0,f,g,_,_,h2=>Dg.le (k:=0) (fun x=>by show f x * g x=0; rw [h2 x,Int.mul_zero]) (Nat.zero_le _)
  | 0,a+1,b+1,f,g,hn,_,_=>by omega
  | n+1,a+1,b+1,f,g,hn,h1,h2=>by
    rw [show a+1+(b+1) - 1=(a+b)+1 by omega]
    intro d
    have p:=Dg.mulA n (a:=a+1) (b:=b) (by omega) (h1.shift d) (h2 d)
    have q:=Dg.mulA n (a:=a) (b:=b+1) (by omega) (h1 d) h2
    rw [show a+1+b - 1=a+b by omega] at p
    rw [show a+(b+1) - 1=a+b by omega] at q
    exact (p.add q).congr fun x=>by
      show f (vadd x d) * (g (vadd x d) - g x)+(f (vadd x d) - f x) * g x=f (vadd x d) * g (vadd x d) - f x * g x
      rw [Int.mul_sub,Int.sub_mul]; omega
theorem Dg.mul {a b:Nat} {f g:V → Int} (h1:Dg a f) (h2:Dg b g):Dg (a+b - 1) (fun x=>f x * g x):=Dg.mulA _ (Nat.le_refl _) h1 h2
theorem Dg.const (c:Int):Dg 1 (fun _=>c):=fun d x=>by show c - c=0; omega
theorem Dg.co (f:V → Int) (h:∀ x d,f (vadd x d)=f x+f d):Dg 2 f:=fun d e x=>by
  show f (vadd (vadd x e) d) - f (vadd x e) - (f (vadd x d) - f x)=0
  rw [h,h,h]; omega
theorem Dg.pow {f:V → Int} (h:Dg 2 f):∀ n:Nat,Dg (n+1) (fun x=>f x ^ n)
  | 0=>(Dg.const 1).congr fun x=>(Int.pow_zero _).symm
  | n+1=>by
    have:=(Dg.pow h n).mul h
    rw [show n+1+2 - 1=n+1+1 by omega] at this
    exact this.congr fun x=>(Int.pow_succ _ _).symm
theorem Dg.neg {k:Nat} {f:V → Int} (h:Dg k f):Dg k (fun x=>- f x):=by
  have:=(Dg.const (-1)).mul h
  rw [show 1+k - 1=k by omega] at this
  exact this.congr fun x=>by omega
def fa (f:V → Int) (p:Nat) (x:V):Int:=1 - f x ^ (p - 1)
theorem Dg.fa {f:V → Int} (h:Dg 2 f) {p:Nat} (hp:1 ≤ p):Dg p (fa f p):=by
  have h1:=(h.pow (p - 1)).neg
  rw [show p - 1+1=p by omega] at h1
  exact (((Dg.const 1).le hp).add h1).congr fun x=>by show 1+- (f x ^ (p - 1))=1 - f x ^ (p - 1); omega
def altS (f:V → Int):List V → V → Int
  | [],a=>f a
  | x :: l,a=>altS f l a - altS f l (vadd a x)
theorem altS_sub (f:V → Int) (d:V):∀ (l:List V) (a:V),altS (fun x=>f (vadd x d) - f x) l a=altS f l (vadd a d) - altS f l a
  | [],a=>rfl
  | x :: l,a=>by
    rw [altS,altS_sub f d l a,altS_sub f d l (vadd a x),altS,altS,vadd_rc a d x]; omega
theorem altS_zero:∀ (l:List V) (f:V → Int),Dg l.length f → ∀ a,altS f l a=0
  | [],f,h,a=>h a
  | x :: l,f,h,a=>by
    have:=altS_zero l _ (h x) a
    rw [altS_sub] at this
    rw [altS]; omega
def vsum:List V → V
  | []=>(0,0,0)
  | x :: l=>vadd x (vsum l)
theorem altS_none {f:V → Int} {p:Int} {Z:V → Prop} (hf:∀ y,¬ Z y → f y % p=0):∀ (l:List V) (a:V),(∀ s,s.Sublist l → ¬ Z (vadd a (vsum s))) → altS f l a % p=0
  | [],a,h=>by
    have:=h [] (List.Sublist.refl _)
    rw [vsum,vadd_zero] at this
    exact hf a this
  | x :: l,a,h=>by
    have h1:=altS_none hf l a (fun s hs=>h s (hs.cons x))
    have h2:=altS_none hf l (vadd a x) (fun s hs=>by
      have:=h (x :: s) (hs.cons_cons x)
      rwa [vsum,← vadd_assoc] at this)
    rw [altS,Int.sub_emod,h1,h2]; rfl
theorem altS_one {f:V → Int} {p:Int} {Z:V → Prop} (hf:∀ y,¬ Z y → f y % p=0) (h0:f (0,0,0) % p=1):∀ (l:List V),(∀ s,s.Sublist l → s ≠ [] → ¬ Z (vsum s)) → altS f l (0,0,0) % p=1 % p
  | [],h=>by rw [altS,← h0,Int.emod_emod]
  | x :: l,h=>by
    have h1:=altS_one hf h0 l (fun s hs=>h s (hs.cons x))
    have h2:=altS_none hf l (vadd (0,0,0) x) (fun s hs=>by
      have:=h (x :: s) (hs.cons_cons x) (by simp)
      rwa [zero_vadd])
    rw [altS,Int.sub_emod,h1,h2,Int.sub_zero,Int.emod_emod]
theorem some_zero {f:V → Int} {p:Int} {Z:V → Prop} (hf:∀ y,¬ Z y → f y % p=0) (h0:f (0,0,0) % p=1) (hp:2 ≤ p) {k:Nat} (hd:Dg k f) {l:List V} (hl:k ≤ l.length):∃ s,s.Sublist l∧s ≠ []∧Z (vsum s):=by
  refine Classical.byContradiction fun hn=>?_
  have h1:=altS_one hf h0 l (fun s hs h=>fun hz=>hn ⟨s,hs,h,hz⟩)
  rw [altS_zero l f (hd.le hl)] at h1
  rw [Int.emod_eq_of_lt (show (0:Int) ≤ 1 by omega) (by omega)] at h1
  simp at h1
def PL:List Nat:=[2,3,5,7,11,13,17,19,23]
theorem fermB:(PL.all fun p=>(List.range p).all fun r=>decide ((1 - ((r:Nat):Int) ^ (p - 1)) % (p:Int)=if r=0 then 1 else 0))=true:=by decide +kernel
theorem pow_mod (y p:Int):∀ n:Nat,(y ^ n) % p=((y % p) ^ n) % p
  | 0=>by rw [Int.pow_zero,Int.pow_zero]
  | n+1=>by
    have h:((y % p) ^ n * (y % p)) % p=(((y % p) ^ n % p) * (y % p)) % p:=by rw [Int.mul_emod,Int.emod_emod,Int.mul_emod ((y % p) ^ n % p),Int.emod_emod,Int.emod_emod]
    rw [Int.pow_succ,Int.pow_succ,Int.mul_emod,pow_mod y p n,h]
theorem PL_two {p:Nat} (hp:p ∈ PL):2 ≤ p:=by
  simp only [PL,List.mem_cons,List.mem_nil_iff,or_false] at hp; omega
theorem ferm {p:Nat} (hp:p ∈ PL) (y:Int):(1 - y ^ (p - 1)) % (p:Int)=if y % (p:Int)=0 then 1 else 0:=by
  have h2:=PL_two hp
  have b0:=Int.emod_nonneg y (show (p:Int) ≠ 0 by omega)
  have b1:=Int.emod_lt_of_pos y (show (0:Int) < p by omega)
  have h:=List.all_eq_true.1 (List.all_eq_true.1 fermB p hp) (y % (p:Int)).toNat (by rw [List.mem_range]; omega)
  have h:=of_decide_eq_true h
  rw [Int.toNat_of_nonneg b0] at h
  rw [Int.sub_emod,pow_mod,← Int.sub_emod,h]
  by_cases c:y % (p:Int)=0
  · rw [if_pos c,if_pos (by omega)]
  · rw [if_neg c,if_neg (by omega)]
theorem fa_mod {p:Nat} (hp:p ∈ PL) (f:V → Int) (x:V):fa f p x % (p:Int)=if f x % (p:Int)=0 then 1 else 0:=ferm hp (f x)
theorem mul_mod0 {a b p:Int} (h:a % p=0 ∨ b % p=0):(a * b) % p=0:=by
  rw [Int.mul_emod]
  rcases h with h | h <;> rw [h] <;> simp
theorem mul_mod1 {a b p:Int} (hp:2 ≤ p) (h1:a % p=1) (h2:b % p=1):(a * b) % p=1:=by
  rw [Int.mul_emod,h1,h2]; exact Int.emod_eq_of_lt (by omega) (by omega)
abbrev c1:V → Int:=fun x=>x.1
abbrev c2:V → Int:=fun x=>x.2.1
abbrev c3:V → Int:=fun x=>x.2.2
theorem Dc1:Dg 2 c1:=Dg.co _ fun _ _=>rfl
theorem Dc2:Dg 2 c2:=Dg.co _ fun _ _=>rfl
theorem Dc3:Dg 2 c3:=Dg.co _ fun _ _=>rfl
def s1 (L:List (Int × Int)):Int:=(L.map Prod.fst).sum
def s2 (L:List (Int × Int)):Int:=(L.map Prod.snd).sum
def emb (q:Int × Int):V:=(q.1,q.2,1)
theorem vsum_emb:∀ L:List (Int × Int),vsum (L.map emb)=(s1 L,s2 L,(L.length:Int))
  | []=>rfl
  | q :: L=>by
    rw [List.map_cons,vsum,vsum_emb L]
    simp only [vadd,emb,s1,s2,List.map_cons,List.sum_cons,List.length_cons]
    refine Prod.ext rfl (Prod.ext rfl ?_)
    show 1+(L.length:Int)=((L.length+1:Nat):Int)
    omega
theorem of_emb {L:List (Int × Int)} {Z:V → Prop} (h:∃ s,s.Sublist (L.map emb)∧s ≠ []∧Z (vsum s)):∃ s,s.Sublist L∧s ≠ []∧Z (s1 s,s2 s,(s.length:Int)):=by
  obtain ⟨s,h1,h2,h3⟩:=h
  obtain ⟨t,t1,rfl⟩:=List.sublist_map_iff.1 h1
  exact ⟨t,t1,fun e=>h2 (by rw [e]; rfl),by rwa [vsum_emb] at h3⟩
section
variable {p:Nat} (hp:p ∈ PL)
include hp
theorem two_D {L:List (Int × Int)} (hl:2 * p - 1 ≤ L.length):∃ s,s.Sublist L∧s ≠ []∧s1 s % p=0∧s2 s % p=0:=by
  have h2:=PL_two hp
  have z1:fa c1 p (0,0,0) % (p:Int)=1:=by rw [fa_mod hp]; exact if_pos (Int.zero_emod _)
  have z2:fa c2 p (0,0,0) % (p:Int)=1:=by rw [fa_mod hp]; exact if_pos (Int.zero_emod _)
  refine of_emb (Z:=fun v=>v.1 % p=0∧v.2.1 % p=0) (some_zero (Z:=fun v=>v.1 % p=0∧v.2.1 % p=0) (f:=fun x=>fa c1 p x * fa c2 p x) (p:=p) (fun y hy=>?_) (mul_mod1 (by omega) z1 z2) (by omega) (((Dc1.fa (by omega)).mul (Dc2.fa (p:=p) (by omega))).le (m:=2 * p - 1) (by omega)) (l:=L.map emb) (by rw [List.length_map]; exact hl))
  refine mul_mod0 ?_
  rw [fa_mod hp,fa_mod hp]
  by_cases a:y.1 % (p:Int)=0
  · exact .inr (by rw [if_neg (fun b=>hy ⟨a,b⟩)])
  · exact .inl (by rw [if_neg a])
theorem three_D {L:List (Int × Int)} (hl:3 * p - 2 ≤ L.length):∃ s,s.Sublist L∧s ≠ []∧s1 s % p=0∧s2 s % p=0∧(s.length:Int) % p=0:=by
  have h2:=PL_two hp
  have z1:fa c1 p (0,0,0) % (p:Int)=1:=by rw [fa_mod hp]; exact if_pos (Int.zero_emod _)
  have z2:fa c2 p (0,0,0) % (p:Int)=1:=by rw [fa_mod hp]; exact if_pos (Int.zero_emod _)
  have z3:fa c3 p (0,0,0) % (p:Int)=1:=by rw [fa_mod hp]; exact if_pos (Int.zero_emod _)
  refine of_emb (Z:=fun v=>v.1 % p=0∧v.2.1 % p=0∧v.2.2 % p=0) (some_zero (Z:=fun v=>v.1 % p=0∧v.2.1 % p=0∧v.2.2 % p=0) (f:=fun x=>fa c1 p x * fa c2 p x * fa c3 p x) (p:=p) (fun y hy=>?_) (mul_mod1 (by omega) (mul_mod1 (by omega) z1 z2) z3) (by omega) ((((Dc1.fa (by omega)).mul (Dc2.fa (p:=p) (by omega))).mul (Dc3.fa (p:=p) (by omega))).le (m:=3 * p - 2) (by omega)) (l:=L.map emb) (by rw [List.length_map]; exact hl))
  by_cases a:y.1 % (p:Int)=0
  · by_cases b:y.2.1 % (p:Int)=0
    · exact mul_mod0 (.inr (by rw [fa_mod hp,if_neg (fun c=>hy ⟨a,b,c⟩)]))
    · exact mul_mod0 (.inl (mul_mod0 (.inr (by rw [fa_mod hp,if_neg b]))))
  · exact mul_mod0 (.inl (mul_mod0 (.inl (by rw [fa_mod hp,if_neg a]))))
end
theorem sub_compl {α:Type}:∀ {s l:List α},s.Sublist l → ∃ t,t.Sublist l∧(s ++ t).Perm l:=by
  intro s l h
  induction h with
  | slnil=>exact ⟨[],List.Sublist.refl _,List.Perm.refl _⟩
  | cons a _ ih =>
    obtain ⟨t,h1,h2⟩:=ih
    exact ⟨a :: t,h1.cons_cons a,(List.perm_middle).trans (h2.cons a)⟩
  | cons_cons a _ ih =>
    obtain ⟨t,h1,h2⟩:=ih
    exact ⟨t,h1.cons a,h2.cons a⟩
theorem psum {l m:List Int} (h:l.Perm m):l.sum=m.sum:=by
  induction h with
  | nil=>rfl
  | cons x _ ih=>rw [List.sum_cons,List.sum_cons,ih]
  | swap x y l=>simp only [List.sum_cons]; omega
  | trans _ _ h1 h2=>rw [h1,h2]
theorem s1_perm {l m:List (Int × Int)} (h:l.Perm m):s1 l=s1 m:=psum (h.map _)
theorem s2_perm {l m:List (Int × Int)} (h:l.Perm m):s2 l=s2 m:=psum (h.map _)
theorem s1_app (l m:List (Int × Int)):s1 (l ++ m)=s1 l+s1 m:=by simp [s1]
theorem s2_app (l m:List (Int × Int)):s2 (l ++ m)=s2 l+s2 m:=by simp [s2]
theorem mod_diff {a b p:Int} (h:(a+b) % p=0) (h1:a % p=0):b % p=0:=by
  rw [Int.add_emod,h1,Int.zero_add,Int.emod_emod] at h; exact h
theorem eta {p:Nat} (hp:p ∈ PL) {L:List (Int × Int)} (hl:3 * p - 2 ≤ L.length):∃ s,s.Sublist L∧s ≠ []∧s.length ≤ p∧s1 s % p=0∧s2 s % p=0:=by
  have h2:=PL_two hp
  obtain ⟨s,a1,a2,a3,a4,a5⟩:=three_D hp (L:=L.take (3 * p - 2)) (by rw [List.length_take]; omega)
  have sl:=a1.length_le
  rw [List.length_take] at sl
  have sL:s.Sublist L:=a1.trans (List.take_sublist _ _)
  have s0:s.length ≠ 0:=fun e=>a2 (List.length_eq_zero_iff.1 e)
  by_cases c:s.length ≤ p
  · exact ⟨s,sL,a2,c,a3,a4⟩
  · have e2:s.length=2 * p:=by
      obtain ⟨k,hk⟩:=Int.dvd_of_emod_eq_zero a5
      have k1:1 < k:=by
        refine Int.lt_of_mul_lt_mul_left (a:=(p:Int)) ?_ (by omega)
        omega
      have k2:k < 3:=by
        refine Int.lt_of_mul_lt_mul_left (a:=(p:Int)) ?_ (by omega)
        omega
      have:k=2:=by omega
      subst this
      omega
    obtain ⟨t,b1,b2,b3,b4⟩:=two_D hp (L:=s.take (2 * p - 1)) (by rw [List.length_take]; omega)
    have tl:=b1.length_le
    rw [List.length_take] at tl
    have ts:t.Sublist s:=b1.trans (List.take_sublist _ _)
    by_cases d:t.length ≤ p
    · exact ⟨t,ts.trans sL,b2,d,b3,b4⟩
    · obtain ⟨r,r1,r2⟩:=sub_compl ts
      have rl:=r2.length_eq
      rw [List.length_append] at rl
      have q1:=s1_perm r2
      have q2:=s2_perm r2
      rw [s1_app] at q1
      rw [s2_app] at q2
      exact ⟨r,r1.trans sL,fun e=>by rw [e] at rl; simp at rl; omega,by omega,mod_diff (by rw [q1]; exact a3) b3,mod_diff (by rw [q2]; exact a4) b4⟩
theorem blocks {p E F:Nat} {Z:Int → Int → Prop} (hE:∀ L:List (Int × Int),E ≤ L.length → ∃ s,s.Sublist L∧s ≠ []∧s.length ≤ p∧Z (s1 s) (s2 s))
    (hF:∀ L:List (Int × Int),F ≤ L.length → ∃ s,s.Sublist L∧s ≠ []∧Z (s1 s) (s2 s)) (hEF:E ≤ p+F):∀ (K:Nat) (L:List (Int × Int)),p * K+F ≤ L.length →
    ∃ B:List (List (Int × Int)),B.length=K+1∧(∀ b ∈ B,b ≠ []∧Z (s1 b) (s2 b))∧∃ r,(B.flatten ++ r).Perm L
  | 0,L,hl=>by
    obtain ⟨s,h1,h2,h3⟩:=hF L (by omega)
    obtain ⟨t,t1,t2⟩:=sub_compl h1
    exact ⟨[s],rfl,fun b hb=>by rw [List.mem_singleton] at hb; rw [hb]; exact ⟨h2,h3⟩,t,by simpa using t2⟩
  | K+1,L,hl=>by
    rw [Nat.mul_succ] at hl
    obtain ⟨s,h1,h2,h3,h4⟩:=hE L (by omega)
    obtain ⟨t,t1,t2⟩:=sub_compl h1
    have tl:=t2.length_eq
    rw [List.length_append] at tl
    obtain ⟨B,b1,b2,r,b3⟩:=blocks hE hF hEF K t (by omega)
    refine ⟨s :: B,by simp [b1],fun b hb=>?_,r,?_⟩
    · rcases List.mem_cons.1 hb with rfl | hb
      · exact ⟨h2,h4⟩
      · exact b2 b hb
    · rw [List.flatten_cons,List.append_assoc]
      exact (List.Perm.append_left s b3).trans t2
theorem sub_of_perm' {α:Type}:∀ {l m:List α},l.Perm m → ∀ {s:List α},s.Sublist m → ∃ t:List α,t.Perm s∧t.Sublist l:=by
  intro l m h
  induction h with
  | nil=>intro s hs; exact ⟨s,.refl _,hs⟩
  | cons x _ ih =>
    intro s hs
    cases hs with
    | cons _ h=>obtain ⟨t,h1,h2⟩:=ih h; exact ⟨t,h1,h2.cons x⟩
    | cons_cons _ h=>obtain ⟨t,h1,h2⟩:=ih h; exact ⟨x :: t,h1.cons x,h2.cons_cons x⟩
  | swap x y l =>
    intro s hs
    cases hs with
    | cons _ h =>
      cases h with
      | cons _ h=>exact ⟨s,.refl _,(h.cons x).cons y⟩
      | cons_cons _ h=>exact ⟨_,.refl _,(h.cons x).cons_cons y⟩
    | cons_cons _ h =>
      cases h with
      | cons _ h=>exact ⟨_,.refl _,(h.cons_cons x).cons y⟩
      | cons_cons _ h=>exact ⟨_,.swap _ _ _,(h.cons_cons x).cons_cons y⟩
  | trans _ _ h1 h2 =>
    intro s hs
    obtain ⟨t,t1,t2⟩:=h2 hs
    obtain ⟨u,u1,u2⟩:=h1 t2
    exact ⟨u,u1.trans t1,u2⟩
theorem sub_flat {α:Type} {C B:List (List α)} (h:C.Sublist B):C.flatten.Sublist B.flatten:=by
  induction h with
  | slnil=>exact List.Sublist.refl _
  | cons a _ ih=>rw [List.flatten_cons]; exact ih.trans (List.sublist_append_right _ _)
  | cons_cons a _ ih=>rw [List.flatten_cons,List.flatten_cons]; exact List.Sublist.append (List.Sublist.refl _) ih
def Dav (m n:Nat):Prop:=∀ L:List (Int × Int),m+n - 1 ≤ L.length → ∃ s,s.Sublist L∧s ≠ []∧s1 s % m=0∧s2 s % n=0
theorem s_flat {p:Int} (f:Int × Int → Int):∀ (B:List (List (Int × Int))),(∀ b ∈ B,((b.map f).sum) % p=0) → ((B.flatten).map f).sum=p * (B.map fun b=>(b.map f).sum / p).sum
  | [],_=>by simp
  | b :: B,h=>by
    have h1:=h b (by simp)
    have h2:=s_flat f B (fun c hc=>h c (by simp [hc]))
    rw [List.flatten_cons,List.map_append,List.sum_append,h2,List.map_cons,List.sum_cons,Int.mul_add]
    have:=Int.mul_ediv_add_emod ((b.map f).sum) p
    rw [h1] at this
    omega
theorem Dav.step {p m n:Nat} (hp:p ∈ PL) (hm:1 ≤ m) (hn:1 ≤ n) (h:Dav m n):Dav (p * m) (p * n):=by
  have h2:=PL_two hp
  intro L hl
  have hmn:p * m+p * n=p * (m+n - 2)+2 * p:=by
    have e:m+n=(m+n - 2)+2:=by omega
    generalize m+n - 2=k at *
    rw [← Nat.mul_add,e,Nat.mul_add]; omega
  obtain ⟨B,b1,b2,r,b3⟩:=blocks (p:=p) (E:=3 * p - 2) (F:=2 * p - 1) (Z:=fun a b=>a % p=0∧b % p=0) (fun L h=>eta hp h) (fun L h=>two_D hp h) (by omega) (m+n - 2) L (by omega)
  obtain ⟨s,q1,q2,q3,q4⟩:=h (B.map fun b=>(s1 b / p,s2 b / p)) (by rw [List.length_map]; omega)
  obtain ⟨C,e1,rfl⟩:=List.sublist_map_iff.1 q1
  have hC:∀ b ∈ C,b ≠ []∧s1 b % p=0∧s2 b % p=0:=fun b hb=>b2 b (e1.subset hb)
  have u:C.flatten.Sublist (B.flatten ++ r):=(sub_flat e1).trans (List.sublist_append_left _ _)
  obtain ⟨t,t1,t2⟩:=sub_of_perm' b3.symm u
  have f1:=s_flat (p:=(p:Int)) Prod.fst C (fun b hb=>(hC b hb).2.1)
  have f2:=s_flat (p:=(p:Int)) Prod.snd C (fun b hb=>(hC b hb).2.2)
  have g1:s1 t=p * s1 (C.map fun b=>(s1 b / p,s2 b / p)):=by
    rw [s1_perm t1]; show (C.flatten.map Prod.fst).sum=_
    rw [f1]; simp only [s1,List.map_map]; rfl
  have g2:s2 t=p * s2 (C.map fun b=>(s1 b / p,s2 b / p)):=by
    rw [s2_perm t1]; show (C.flatten.map Prod.snd).sum=_
    rw [f2]; simp only [s2,List.map_map]; rfl
  refine ⟨t,t2,fun e=>?_,?_,?_⟩
  · rw [e] at t1
    have hf:C.flatten=[]:=List.Perm.nil_eq t1 |>.symm
    cases C with
    | nil=>exact q2 rfl
    | cons b C =>
      rw [List.flatten_cons,List.append_eq_nil_iff] at hf
      exact (hC b (by simp)).1 hf.1
  · rw [g1]
    obtain ⟨k,hk⟩:=Int.dvd_of_emod_eq_zero q3
    rw [hk]; push_cast; rw [← Int.mul_assoc]; exact Int.mul_emod_right _ _
  · rw [g2]
    obtain ⟨k,hk⟩:=Int.dvd_of_emod_eq_zero q4
    rw [hk]; push_cast; rw [← Int.mul_assoc]; exact Int.mul_emod_right _ _
end Ol
end Go.Proofs.Ytaibmipamkaljaa
end
section
open Go Go.HL
namespace Go.Proofs.Ytaibmipamkaljaa
set_option maxRecDepth 100000
open Go.Proofs.Try renaming prog → Tp
open Go.HL.HV renaming undef → Ud
noncomputable def B25:Code:=Try.f25.body.getD .skip
abbrev env25 (v0 v2 v3 v4 v5:HV):Env:=[(0,v0),(2,v2),(3,v3),(4,v4),(5,v5)]
theorem bo_0 (l:List HV) (m0:Int) (m1:Int) (sz:Int) (g0:∀ kf,callN Tp polZ (kf+1) 55 [.a l] []=some (.tuple [.agg [.i m0,.i m1,.i sz],.bool true],[])):RT polZ 25 (sub [] B25) [(0,.a l)] [] .ret (env25 (.a l) (.i (IntKind.i64.wrap (IntKind.i64.wrap (m0+m1) - 1))) (.i 0) (.ptr 0 0 0 1) (.bool true)) [.arr 3 [.agg [.i m0,.i m1,.i sz]] true 0] :=
  RunsTo.hin 0 60 [⟨1,1,.tuple [.agg [.i m0,.i m1,.i sz],.bool true],[]⟩] fun kf hk=>⟨_,by kernel_rfl,(oC (g0 kf) .nil)⟩
theorem bo_1 (l:List HV) (m0:Int) (m1:Int) (sz:Int) (g0:∀ kf,callN Tp polZ (kf+1) 55 [.a l] []=some (.tuple [.agg [.i m0,.i m1,.i sz],.bool false],[])):RT polZ 25 (sub [] B25) [(0,.a l)] [] .ret (env25 (.a l) (.i 0) (.i 2) (.ptr 0 0 0 1) (.bool false)) [.arr 3 [.agg [.i m0,.i m1,.i sz]] true 0] :=
  RunsTo.hin 0 60 [⟨1,1,.tuple [.agg [.i m0,.i m1,.i sz],.bool false],[]⟩] fun kf hk=>⟨_,by kernel_rfl,(oC (g0 kf) .nil)⟩
noncomputable def B43:Code:=Try.f43.body.getD .skip
abbrev env43 (v0 v2:HV):Env:=[(0,v0),(2,v2)]
theorem rb_a_0 (a:Int):RT pol 43 (sub [] B43) [(0,.a [.i a])] [] .ret (env43 (.a [.i a]) (.i a)) [] :=
  RunsTo.hin 0 60 [] fun kf hk=>⟨_,by kernel_rfl,.nil⟩
theorem rb_b_0 (a b:Int):RT pol 43 (sub [] B43) [(0,.a [.i a,.i b])] [] .ret (env43 (.a [.i a,.i b]) (.i (IntKind.i64.wrap (IntKind.i64.wrap (a+b) - 1)))) [] :=
  RunsTo.hin 0 60 [] fun kf hk=>⟨_,by kernel_rfl,.nil⟩
end Go.Proofs.Ytaibmipamkaljaa
end
section
open Go Go.HL
namespace Go.Proofs.Ytaibmipamkaljaa
open Go.Proofs.Try renaming prog → Tp
open Go.HL.HV renaming undef → Ud
theorem res25:Try.f25.results.toList=[.tmp 2,.tmp 3]:=by kernel_rfl
def bound25:List HV → Option HV:=liF fun l=>some (if (newGroupT l).2=true then .tuple [.int .i64 ((newGroupT l).1.1+(newGroupT l).1.2.1 - 1),.int .i64 0] else .tuple [.int .i64 0,.int .i64 2])
theorem bound_ok:PrimOk Tp 25 bound25:=by
  refine primOk_pure (pol:=polZ) (fn:=Try.f25) (cd:=B25) follows_mixed soundZ (by kernel_rfl) (by kernel_rfl) (fnok polZ.prim _ _ (by kernel_rfl)) (by kernel_rfl) ?_
  intro args res h
  obtain ⟨l,rfl,hq⟩:=liF_inv h
  clear h
  cases hq
  have h5:=newGroup_at (pol':=polZ) (by kernel_rfl) l []
  by_cases c:(newGroupT l).2=true
  · obtain ⟨hg,hr⟩:=newGroup_gr c
    rw [c] at h5
    have s:=bo_0 (l.map encI) _ _ _ h5
    obtain ⟨⟨g1,g2⟩,g3,g4⟩:=hg
    rw [wrap_id (n:=(newGroupT l).1.1+(newGroupT l).1.2.1) (by omega) (by omega),wrap_id (by omega) (by omega)] at s
    exact ⟨_,_,_,.tuple [.int .i64 ((newGroupT l).1.1+(newGroupT l).1.2.1 - 1),.int .i64 0],s,by simp,by simp only [resultsV,res25]; rfl,by rw [if_pos c]; rfl⟩
  · rw [nb_false c] at h5
    have s:=bo_1 (l.map encI) _ _ _ h5
    exact ⟨_,_,_,.tuple [.int .i64 0,.int .i64 2],s,by simp,by simp only [resultsV,res25]; rfl,by rw [if_neg c]; rfl⟩
theorem res43:Try.f43.results.toList=[.tmp 2]:=by kernel_rfl
def bndT:List Int → Int | [a]=>a | [a,b]=>a+b - 1 | _=>0
def rbound43:List HV → Option HV:=liF fun l=>if (newGroupT l).2=true then some (.int .i64 (bndT l)) else none
theorem rbound_ok:PrimOk Tp 43 rbound43:=by
  refine primOk_pure (pol:=pol) (fn:=Try.f43) (cd:=B43) follows_mixed sound (by kernel_rfl) (by kernel_rfl) (fnok pol.prim _ _ (by kernel_rfl)) (by kernel_rfl) ?_
  intro args res h
  obtain ⟨l,rfl,hq⟩:=liF_inv h
  clear h
  split at hq
  case isFalse=>cases hq
  rename_i hg
  cases hq
  rcases grp_cases hg with ⟨a,rfl,h1,h2⟩ | ⟨a,b,rfl,h1,h2,h3,h4,h5,h6⟩
  · exact ⟨_,_,_,.int .i64 a,rb_a_0 a,by simp,by simp only [resultsV,res43]; rfl,rfl⟩
  · have s:=rb_b_0 a b
    rw [wrap_id (n:=a+b) (by omega) (by omega),wrap_id (by omega) (by omega)] at s
    exact ⟨_,_,_,.int .i64 (a+b - 1),s,by simp,by simp only [resultsV,res43]; rfl,rfl⟩
end Go.Proofs.Ytaibmipamkaljaa
end
section
open Go Go.HL
namespace Go.Proofs.Ytaibmipamkaljaa
def sumG (g:Gr) (l:List El):El:=((l.map Prod.fst).sum % g.1,(l.map Prod.snd).sum % g.2.1)
theorem sumG_cons {g:Gr} (x:El) (l:List El):sumG g (x :: l)=addT g (sumG g l) x:=by
  simp only [sumG,addT,List.map_cons,List.sum_cons]
  rw [Int.emod_add_emod,Int.emod_add_emod,Int.add_comm x.1,Int.add_comm x.2]
theorem sumG_nil (g:Gr):sumG g []=(0,0):=by simp [sumG]
theorem rch_gen {g:Gr}:∀ (l:List El) (k:Int) (t:El),(k,t) ∈ (rchT g l).headD [] ↔ ∃ s:List El,s.Sublist l∧k=(s.length:Int)∧t=sumG g s
  | [],k,t=>by
    simp only [rchT,List.headD_cons,List.mem_singleton,List.sublist_nil]
    constructor
    · intro h
      exact ⟨[],rfl,congrArg Prod.fst h,(congrArg Prod.snd h).trans (sumG_nil g).symm⟩
    · rintro ⟨s,rfl,rfl,rfl⟩
      rw [sumG_nil]; rfl
  | x :: l,k,t=>by
    show (k,t) ∈ rchStep g x ((rchT g l).headD []) ↔ _
    rw [mem_step]
    constructor
    · rintro ⟨u,h1,h2⟩
      obtain ⟨s,hs,e1,e2⟩:=(rch_gen l u.1 u.2).1 h1
      rcases h2 with h2 | h2
      · subst h2; exact ⟨s,hs.cons x,e1,e2⟩
      · have a1:k=u.1+1:=congrArg Prod.fst h2
        have a2:t=addT g u.2 x:=congrArg Prod.snd h2
        exact ⟨x :: s,hs.cons_cons x,by rw [a1,e1]; simp,by rw [a2,e2,sumG_cons]⟩
    · rintro ⟨s,hs,e1,e2⟩
      cases hs with
      | cons _ h=>exact ⟨(k,t),(rch_gen l k t).2 ⟨s,h,e1,e2⟩,.inl rfl⟩
      | cons_cons _ h =>
        rename_i s'
        refine ⟨((s'.length:Int),sumG g s'),(rch_gen l _ _).2 ⟨s',h,rfl,rfl⟩,.inr ?_⟩
        rw [e1,e2,sumG_cons]
        simp only [rchW,List.length_cons]
        refine Prod.ext ?_ rfl
        show ((s'.length+1:Nat):Int)=(s'.length:Int)+1
        omega
theorem sumG_zero_iff {g:Gr} {l:List El}:sumG g l=(0,0) ↔ (l.map Prod.fst).sum % g.1=0∧(l.map Prod.snd).sum % g.2.1=0:=by simp [sumG,Prod.ext_iff]
end Go.Proofs.Ytaibmipamkaljaa
end
section
open Go Go.HL
namespace Go.Proofs.Ytaibmipamkaljaa
open Go.Proofs.Try renaming prog → Tp
open Go.HL.HV renaming undef → Ud
theorem shT_inv {g:Gr} {l:List El} {t:El}:∀ (f j:Nat),(shT g l t f j=none∧∀ k:Nat,j ≤ k → k < j+f → ((k:Int),t) ∉ (rchT g l).headD []) ∨
    ∃ o,j ≤ o∧o < j+f∧((o:Int),t) ∈ (rchT g l).headD []∧(∀ k:Nat,j ≤ k → k < o → ((k:Int),t) ∉ (rchT g l).headD [])∧shT g l t f j=some (partI g l ((o:Int),t))
  | 0,j=>.inl ⟨rfl,fun k h1 h2=>by omega⟩
  | f+1,j=>by
    by_cases c:((j:Int),t) ∈ (rchT g l).headD []
    · exact .inr ⟨j,Nat.le_refl _,by omega,c,fun k h1 h2=>by omega,by rw [shT,if_pos c]⟩
    · rcases shT_inv (g:=g) (l:=l) (t:=t) f (j+1) with ⟨h1,h2⟩ | ⟨o,h1,h2,h3,h4,h5⟩
      · refine .inl ⟨by rw [shT,if_neg c]; exact h1,fun k a b=>?_⟩
        by_cases e:k=j
        · rw [e]; exact c
        · exact h2 k (by omega) (by omega)
      · refine .inr ⟨o,by omega,by omega,h3,fun k a b=>?_,by rw [shT,if_neg c]; exact h5⟩
        by_cases e:k=j
        · rw [e]; exact c
        · exact h4 k (by omega) b
theorem zero_cases {gl:List Int} (hg:(newGroupT gl).2=true) {R:List (List Int)} (hR:∀ x ∈ R,elB gl x=true) (hl:R.length ≤ 60) :
    (zeroT gl R=([],6)∧∀ s:List El,s.Sublist (els gl R) → s ≠ [] → sumG (grG gl) s ≠ (0,0)) ∨
    ∃ o:Nat,1 ≤ o∧o ≤ R.length∧((o:Int),(0,0)) ∈ (rchT (grG gl) (els gl R)).headD []∧(∀ s:List El,s.Sublist (els gl R) → s ≠ [] → sumG (grG gl) s=(0,0) → o ≤ s.length)∧zeroT gl R=(partI (grG gl) (els gl R) ((o:Int),(0,0)),0):=by
  have e:=elems_B hg (listB_iff.2 ⟨hR,hl⟩)
  have ez:zeroT gl R=shP (shT (grG gl) (els gl R) (0,0) R.length 1):=by
    unfold zeroT
    rw [if_pos hg]
    unfold grG at e ⊢
    rw [e]
    simp only [els,List.length_map]
  have sl:∀ s:List El,s.Sublist (els gl R) → s ≠ [] → 1 ≤ s.length∧s.length ≤ R.length:=fun s hs h0=>by
    have:=hs.length_le
    simp only [els,List.length_map] at this
    exact ⟨by rcases s with _ | _; exact absurd rfl h0; simp,this⟩
  rcases shT_inv (g:=grG gl) (l:=els gl R) (t:=(0,0)) R.length 1 with ⟨h1,h2⟩ | ⟨o,h1,h2,h3,h4,h5⟩
  · refine .inl ⟨by rw [ez,h1]; rfl,fun s hs h0 hz=>?_⟩
    have:=sl s hs h0
    exact h2 s.length (by omega) (by omega) ((rch_gen _ _ _).2 ⟨s,hs,rfl,hz.symm⟩)
  · refine .inr ⟨o,h1,by omega,h3,fun s hs h0 hz=>?_,by rw [ez,h5]; rfl⟩
    have:=sl s hs h0
    rcases Nat.lt_or_ge s.length o with c | c
    · exact absurd ((rch_gen _ _ _).2 ⟨s,hs,rfl,hz.symm⟩) (h4 s.length (by omega) c)
    · exact c
theorem bound_at {pol':Pol} (hp:pol'.prim 25=some bound25) {l:List Int} {v:HV} {H:Heap} (h1:argI H v l) :
    ∀ k,callN Tp pol' (k+1) 25 [v] H=some (if (newGroupT l).2=true then .tuple [.int .i64 ((newGroupT l).1.1+(newGroupT l).1.2.1 - 1),.int .i64 0] else .tuple [.int .i64 0,.int .i64 2],H):=fun k=>by
  have hd:mapO decI (l.map encI)=some l:=mapO_map decI_enc l
  unfold argI at h1
  rw [prim_call (pol:=pol') (g:=25) (F:=bound25) hp (rs:=[.imm .arg 1 (l.map encI)]) (by simp only [mapO,h1]) (res:=if (newGroupT l).2=true then .tuple [.int .i64 ((newGroupT l).1.1+(newGroupT l).1.2.1 - 1),.int .i64 0] else .tuple [.int .i64 0,.int .i64 2]) (by simp only [bound25,liF,hd])]
  split <;> rfl
end Go.Proofs.Ytaibmipamkaljaa
end
section
open Go Go.HL
namespace Go.Proofs.Ytaibmipamkaljaa
open Go.Proofs.Try renaming prog → Tp
open Go.HL.HV renaming undef → Ud
theorem addT_comm (g:Gr) (x y:El):addT g x y=addT g y x:=by
  simp only [addT]; rw [Int.add_comm x.1,Int.add_comm x.2]
theorem recvRs {H:Heap} (R:List (List Int)) (x:Int):recv (.tuple [.own 1 (R.map encO),.int .i64 x]) H=(.tuple [.sl H.length 0 R.length none R.length 1,.int .i64 x],H ++ [bR R]):=by
  have h:recvCell (.own 1 (R.map encO)) H=(.sl H.length 0 R.length none R.length 1,H ++ [bR R]):=by
    simp only [recvCell,encO_any,List.length_map]; rfl
  simp only [recv,recvVals,recvVal,h]; rfl
theorem sums_at {pol':Pol} (hp:pol'.prim 39=some sums39) {l:List Int} {R:List (List Int)} {v1 v2:HV} {H:Heap} (h1:argI H v1 l) (h2:argR H v2 R) (hR:R.length ≤ 1000) :
    ∀ k,callN Tp pol' (k+1) 39 [v1,v2] H=some (.tuple [.sl H.length 0 (sumsT l R).1.length none (sumsT l R).1.length 1,.int .i64 (sumsT l R).2],H ++ [bR (sumsT l R).1]):=fun k=>by
  have hd:mapO decI (l.map encI)=some l:=mapO_map decI_enc l
  have hd2:mapO decR (R.map encR)=some R:=mapO_map decR_enc R
  unfold argI at h1
  unfold argR at h2
  rw [prim_call (pol:=pol') (g:=39) (F:=sums39) hp (rs:=[.imm .arg 1 (l.map encI),.imm .arg 1 (R.map encR)]) (by simp only [mapO,h1,h2]) (res:=.tuple [.own 1 ((sumsT l R).1.map encO),.int .i64 (sumsT l R).2]) (by simp only [sums39,hd,hd2]; rw [if_pos hR]),recvRs]
theorem sumsT_B {gl:List Int} (hg:(newGroupT gl).2=true) {R:List (List Int)} (h:listB gl R=true):sumsT gl R=(sumsL gl (sumS (grG gl) (els gl R)),0):=by
  have e:=elems_B hg h
  unfold sumsT
  rw [if_pos hg]
  unfold grG at e ⊢
  rw [e]
theorem sizeA_at {pol':Pol} (hp:pol'.prim 40=some size40) {l:List Int} {v:HV} {H:Heap} (h1:argI H v l) (hg:(newGroupT l).2=true):∀ k,callN Tp pol' (k+1) 40 [v] H=some (.int .i64 (sizeT l),H):=fun k=>by
  have hd:mapO decI (l.map encI)=some l:=mapO_map decI_enc l
  unfold argI at h1
  rw [prim_call (pol:=pol') (g:=40) (F:=size40) hp (rs:=[.imm .arg 1 (l.map encI)]) (by simp only [mapO,h1]) (res:=.int .i64 (sizeT l)) (by simp only [size40,liF,hd]; rw [if_pos hg])]
  rfl
end Go.Proofs.Ytaibmipamkaljaa
end
section
open Go Go.HL
namespace Go.Proofs.Ytaibmipamkaljaa
set_option maxRecDepth 100000
open Go.Proofs.Try renaming prog → Tp
open Go.HL.HV renaming undef → Ud
noncomputable def B42:Code:=Try.f42.body.getD .skip
abbrev env42 (v0 v2 v3 v4 v5 v6 v7 v8 v17 v18 v25 v26:HV):Env:=[(0,v0),(2,v2),(3,v3),(4,v4),(5,v5),(6,v6),(7,v7),(8,v8),(17,v17),(18,v18),(25,v25),(26,v26)]
theorem fe_a_0 (l:List HV) :RT polSl 42 (sub [0] B42) [(0,.a l)] [] .normal (env42 (.a l) (.imm .lit 1 []) (.i 0) Ud Ud Ud Ud Ud Ud Ud Ud Ud) [] :=
  RunsTo.hin 0 60 [] fun kf hk=>⟨_,by kernel_rfl,.nil⟩
theorem fe_b_1 (l:List HV)  {y4 y5 y6 y7 y8 y17 y18 y25 y26:HV} {m0:Int} {m1:Int} {sz:Int} (g0:∀ kf,callN Tp polSl (kf+1) 55 [.a l] []=some (.tuple [.agg [.i m0,.i m1,.i sz],.bool false],[])):RT polSl 42 (sub [1,0] B42) (env42 (.a l) (.imm .lit 1 []) (.i 0) y4 y5 y6 y7 y8 y17 y18 y25 y26) [] .normal (env42 (.a l) (.imm .lit 1 []) (.i 0) (.ptr 0 0 0 1) (.bool false) y6 y7 y8 y17 y18 y25 y26) [.arr 3 [.agg [.i m0,.i m1,.i sz]] true 0] :=
  RunsTo.hin 0 60 [⟨1,1,.tuple [.agg [.i m0,.i m1,.i sz],.bool false],[]⟩] fun kf hk=>⟨_,by kernel_rfl,(oC (g0 kf) .nil)⟩
theorem fe_cf_0 (l:List HV) (m0 m1 sz:Int) {y6 y7 y8 y17 y18 y25 y26:HV}:RT polSl 42 (sub [1,1,0] B42) (env42 (.a l) (.imm .lit 1 []) (.i 0) (.ptr 0 0 0 1) (.bool false) y6 y7 y8 y17 y18 y25 y26) [.arr 3 [.agg [.i m0,.i m1,.i sz]] true 0] .ret (env42 (.a l) (.imm .lit 1 []) (.i 2) (.ptr 0 0 0 1) (.bool false) y6 y7 y8 y17 y18 y25 y26) [.arr 3 [.agg [.i m0,.i m1,.i sz]] true 0] :=
  RunsTo.hin 0 60 [] fun kf hk=>⟨_,by kernel_rfl,.nil⟩
end Go.Proofs.Ytaibmipamkaljaa
end
section
open Go Go.HL
namespace Go.Proofs.Ytaibmipamkaljaa
open Go.Proofs.Try renaming prog → Tp
open Go.HL.HV renaming undef → Ud
theorem res42:Try.f42.results.toList=[.tmp 2,.tmp 3]:=by kernel_rfl
def freeL:List Int → List (List Int)
  | [m]=>List.replicate (m.toNat - 1) [1]
  | [a,b]=>List.replicate (a.toNat - 1) [1,0] ++ List.replicate (b.toNat - 1) [0,1]
  | _=>[]
def freeT (l:List Int):List (List Int) × Int:=if (newGroupT l).2=true then (freeL l,0) else ([],2)
def free42:List HV → Option HV:=liF fun l=>some (.tuple [.own 1 ((freeT l).1.map encO),.int .i64 (freeT l).2])
noncomputable def freeQ (l:List Int):Option HV:=(callN Tp polSl 5000 42 [.imm .arg 1 (l.map encI)] []).bind fun p=>toRes p.2 false p.1
abbrev FQ (l:List Int):Prop:=freeQ l=some (.tuple [.own 1 ((freeL l).map encO),.int .i64 0])
theorem fa2:freeQ [2]=some (.tuple [.own 1 ((freeL [2]).map encO),.int .i64 0]):=by kernel_rfl
theorem fb2_2:freeQ [2,2]=some (.tuple [.own 1 ((freeL [2,2]).map encO),.int .i64 0]):=by kernel_rfl
theorem fb2_4:freeQ [2,4]=some (.tuple [.own 1 ((freeL [2,4]).map encO),.int .i64 0]):=by kernel_rfl
theorem fb2_6:freeQ [2,6]=some (.tuple [.own 1 ((freeL [2,6]).map encO),.int .i64 0]):=by kernel_rfl
theorem fb2_8:freeQ [2,8]=some (.tuple [.own 1 ((freeL [2,8]).map encO),.int .i64 0]):=by kernel_rfl
theorem fb2_10:freeQ [2,10]=some (.tuple [.own 1 ((freeL [2,10]).map encO),.int .i64 0]):=by kernel_rfl
theorem fb2_12:freeQ [2,12]=some (.tuple [.own 1 ((freeL [2,12]).map encO),.int .i64 0]):=by kernel_rfl
theorem fb2_14:freeQ [2,14]=some (.tuple [.own 1 ((freeL [2,14]).map encO),.int .i64 0]):=by kernel_rfl
theorem fb2_16:freeQ [2,16]=some (.tuple [.own 1 ((freeL [2,16]).map encO),.int .i64 0]):=by kernel_rfl
theorem fb2_18:freeQ [2,18]=some (.tuple [.own 1 ((freeL [2,18]).map encO),.int .i64 0]):=by kernel_rfl
theorem fb2_20:freeQ [2,20]=some (.tuple [.own 1 ((freeL [2,20]).map encO),.int .i64 0]):=by kernel_rfl
theorem fb2_22:freeQ [2,22]=some (.tuple [.own 1 ((freeL [2,22]).map encO),.int .i64 0]):=by kernel_rfl
theorem fb2_24:freeQ [2,24]=some (.tuple [.own 1 ((freeL [2,24]).map encO),.int .i64 0]):=by kernel_rfl
theorem fa3:freeQ [3]=some (.tuple [.own 1 ((freeL [3]).map encO),.int .i64 0]):=by kernel_rfl
theorem fb3_3:freeQ [3,3]=some (.tuple [.own 1 ((freeL [3,3]).map encO),.int .i64 0]):=by kernel_rfl
theorem fb3_6:freeQ [3,6]=some (.tuple [.own 1 ((freeL [3,6]).map encO),.int .i64 0]):=by kernel_rfl
theorem fb3_9:freeQ [3,9]=some (.tuple [.own 1 ((freeL [3,9]).map encO),.int .i64 0]):=by kernel_rfl
theorem fb3_12:freeQ [3,12]=some (.tuple [.own 1 ((freeL [3,12]).map encO),.int .i64 0]):=by kernel_rfl
theorem fb3_15:freeQ [3,15]=some (.tuple [.own 1 ((freeL [3,15]).map encO),.int .i64 0]):=by kernel_rfl
theorem fb3_18:freeQ [3,18]=some (.tuple [.own 1 ((freeL [3,18]).map encO),.int .i64 0]):=by kernel_rfl
theorem fb3_21:freeQ [3,21]=some (.tuple [.own 1 ((freeL [3,21]).map encO),.int .i64 0]):=by kernel_rfl
theorem fb3_24:freeQ [3,24]=some (.tuple [.own 1 ((freeL [3,24]).map encO),.int .i64 0]):=by kernel_rfl
theorem fa4:freeQ [4]=some (.tuple [.own 1 ((freeL [4]).map encO),.int .i64 0]):=by kernel_rfl
theorem fb4_4:freeQ [4,4]=some (.tuple [.own 1 ((freeL [4,4]).map encO),.int .i64 0]):=by kernel_rfl
theorem fb4_8:freeQ [4,8]=some (.tuple [.own 1 ((freeL [4,8]).map encO),.int .i64 0]):=by kernel_rfl
theorem fb4_12:freeQ [4,12]=some (.tuple [.own 1 ((freeL [4,12]).map encO),.int .i64 0]):=by kernel_rfl
theorem fb4_16:freeQ [4,16]=some (.tuple [.own 1 ((freeL [4,16]).map encO),.int .i64 0]):=by kernel_rfl
theorem fb4_20:freeQ [4,20]=some (.tuple [.own 1 ((freeL [4,20]).map encO),.int .i64 0]):=by kernel_rfl
theorem fb4_24:freeQ [4,24]=some (.tuple [.own 1 ((freeL [4,24]).map encO),.int .i64 0]):=by kernel_rfl
theorem fa5:freeQ [5]=some (.tuple [.own 1 ((freeL [5]).map encO),.int .i64 0]):=by kernel_rfl
theorem fb5_5:freeQ [5,5]=some (.tuple [.own 1 ((freeL [5,5]).map encO),.int .i64 0]):=by kernel_rfl
theorem fb5_10:freeQ [5,10]=some (.tuple [.own 1 ((freeL [5,10]).map encO),.int .i64 0]):=by kernel_rfl
theorem fb5_15:freeQ [5,15]=some (.tuple [.own 1 ((freeL [5,15]).map encO),.int .i64 0]):=by kernel_rfl
theorem fb5_20:freeQ [5,20]=some (.tuple [.own 1 ((freeL [5,20]).map encO),.int .i64 0]):=by kernel_rfl
theorem fa6:freeQ [6]=some (.tuple [.own 1 ((freeL [6]).map encO),.int .i64 0]):=by kernel_rfl
theorem fb6_6:freeQ [6,6]=some (.tuple [.own 1 ((freeL [6,6]).map encO),.int .i64 0]):=by kernel_rfl
theorem fb6_12:freeQ [6,12]=some (.tuple [.own 1 ((freeL [6,12]).map encO),.int .i64 0]):=by kernel_rfl
theorem fb6_18:freeQ [6,18]=some (.tuple [.own 1 ((freeL [6,18]).map encO),.int .i64 0]):=by kernel_rfl
theorem fb6_24:freeQ [6,24]=some (.tuple [.own 1 ((freeL [6,24]).map encO),.int .i64 0]):=by kernel_rfl
theorem fa7:freeQ [7]=some (.tuple [.own 1 ((freeL [7]).map encO),.int .i64 0]):=by kernel_rfl
theorem fb7_7:freeQ [7,7]=some (.tuple [.own 1 ((freeL [7,7]).map encO),.int .i64 0]):=by kernel_rfl
theorem fb7_14:freeQ [7,14]=some (.tuple [.own 1 ((freeL [7,14]).map encO),.int .i64 0]):=by kernel_rfl
theorem fa8:freeQ [8]=some (.tuple [.own 1 ((freeL [8]).map encO),.int .i64 0]):=by kernel_rfl
theorem fb8_8:freeQ [8,8]=some (.tuple [.own 1 ((freeL [8,8]).map encO),.int .i64 0]):=by kernel_rfl
theorem fb8_16:freeQ [8,16]=some (.tuple [.own 1 ((freeL [8,16]).map encO),.int .i64 0]):=by kernel_rfl
theorem fa9:freeQ [9]=some (.tuple [.own 1 ((freeL [9]).map encO),.int .i64 0]):=by kernel_rfl
theorem fb9_9:freeQ [9,9]=some (.tuple [.own 1 ((freeL [9,9]).map encO),.int .i64 0]):=by kernel_rfl
theorem fa10:freeQ [10]=some (.tuple [.own 1 ((freeL [10]).map encO),.int .i64 0]):=by kernel_rfl
theorem fb10_10:freeQ [10,10]=some (.tuple [.own 1 ((freeL [10,10]).map encO),.int .i64 0]):=by kernel_rfl
theorem fa11:freeQ [11]=some (.tuple [.own 1 ((freeL [11]).map encO),.int .i64 0]):=by kernel_rfl
theorem fb11_11:freeQ [11,11]=some (.tuple [.own 1 ((freeL [11,11]).map encO),.int .i64 0]):=by kernel_rfl
theorem fa12:freeQ [12]=some (.tuple [.own 1 ((freeL [12]).map encO),.int .i64 0]):=by kernel_rfl
theorem fb12_12:freeQ [12,12]=some (.tuple [.own 1 ((freeL [12,12]).map encO),.int .i64 0]):=by kernel_rfl
theorem fa13:freeQ [13]=some (.tuple [.own 1 ((freeL [13]).map encO),.int .i64 0]):=by kernel_rfl
theorem fa14:freeQ [14]=some (.tuple [.own 1 ((freeL [14]).map encO),.int .i64 0]):=by kernel_rfl
theorem fa15:freeQ [15]=some (.tuple [.own 1 ((freeL [15]).map encO),.int .i64 0]):=by kernel_rfl
theorem fa16:freeQ [16]=some (.tuple [.own 1 ((freeL [16]).map encO),.int .i64 0]):=by kernel_rfl
theorem fa17:freeQ [17]=some (.tuple [.own 1 ((freeL [17]).map encO),.int .i64 0]):=by kernel_rfl
theorem fa18:freeQ [18]=some (.tuple [.own 1 ((freeL [18]).map encO),.int .i64 0]):=by kernel_rfl
theorem fa19:freeQ [19]=some (.tuple [.own 1 ((freeL [19]).map encO),.int .i64 0]):=by kernel_rfl
theorem fa20:freeQ [20]=some (.tuple [.own 1 ((freeL [20]).map encO),.int .i64 0]):=by kernel_rfl
theorem fa21:freeQ [21]=some (.tuple [.own 1 ((freeL [21]).map encO),.int .i64 0]):=by kernel_rfl
theorem fa22:freeQ [22]=some (.tuple [.own 1 ((freeL [22]).map encO),.int .i64 0]):=by kernel_rfl
theorem fa23:freeQ [23]=some (.tuple [.own 1 ((freeL [23]).map encO),.int .i64 0]):=by kernel_rfl
theorem fa24:freeQ [24]=some (.tuple [.own 1 ((freeL [24]).map encO),.int .i64 0]):=by kernel_rfl
theorem fq1 {a:Int} (h1:2 ≤ a) (h2:a ≤ 24):freeQ [a]=some (.tuple [.own 1 ((freeL [a]).map encO),.int .i64 0]):=by
  have:a=2 ∨ a=3 ∨ a=4 ∨ a=5 ∨ a=6 ∨ a=7 ∨ a=8 ∨ a=9 ∨ a=10 ∨ a=11 ∨ a=12 ∨ a=13 ∨ a=14 ∨ a=15 ∨ a=16 ∨ a=17 ∨ a=18 ∨ a=19 ∨ a=20 ∨ a=21 ∨ a=22 ∨ a=23 ∨ a=24:=by omega
  rcases this with rfl | rfl | rfl | rfl | rfl | rfl | rfl | rfl | rfl | rfl | rfl | rfl | rfl | rfl | rfl | rfl | rfl | rfl | rfl | rfl | rfl | rfl | rfl
  · exact fa2
  · exact fa3
  · exact fa4
  · exact fa5
  · exact fa6
  · exact fa7
  · exact fa8
  · exact fa9
  · exact fa10
  · exact fa11
  · exact fa12
  · exact fa13
  · exact fa14
  · exact fa15
  · exact fa16
  · exact fa17
  · exact fa18
  · exact fa19
  · exact fa20
  · exact fa21
  · exact fa22
  · exact fa23
  · exact fa24
theorem fq2 {a b:Int} (h1:2 ≤ a) (h2:a ≤ 24) (h3:2 ≤ b) (h4:b ≤ 24) (h5:a * b ≤ 144) (h6:b % a=0):freeQ [a,b]=some (.tuple [.own 1 ((freeL [a,b]).map encO),.int .i64 0]):=by
  have:a=2 ∨ a=3 ∨ a=4 ∨ a=5 ∨ a=6 ∨ a=7 ∨ a=8 ∨ a=9 ∨ a=10 ∨ a=11 ∨ a=12 ∨ a=13 ∨ a=14 ∨ a=15 ∨ a=16 ∨ a=17 ∨ a=18 ∨ a=19 ∨ a=20 ∨ a=21 ∨ a=22 ∨ a=23 ∨ a=24:=by omega
  rcases this with rfl | rfl | rfl | rfl | rfl | rfl | rfl | rfl | rfl | rfl | rfl | rfl | rfl | rfl | rfl | rfl | rfl | rfl | rfl | rfl | rfl | rfl | rfl
  · have:b=2 ∨ b=4 ∨ b=6 ∨ b=8 ∨ b=10 ∨ b=12 ∨ b=14 ∨ b=16 ∨ b=18 ∨ b=20 ∨ b=22 ∨ b=24:=by omega
    rcases this with rfl | rfl | rfl | rfl | rfl | rfl | rfl | rfl | rfl | rfl | rfl | rfl
    · exact fb2_2
    · exact fb2_4
    · exact fb2_6
    · exact fb2_8
    · exact fb2_10
    · exact fb2_12
    · exact fb2_14
    · exact fb2_16
    · exact fb2_18
    · exact fb2_20
    · exact fb2_22
    · exact fb2_24
  · have:b=3 ∨ b=6 ∨ b=9 ∨ b=12 ∨ b=15 ∨ b=18 ∨ b=21 ∨ b=24:=by omega
    rcases this with rfl | rfl | rfl | rfl | rfl | rfl | rfl | rfl
    · exact fb3_3
    · exact fb3_6
    · exact fb3_9
    · exact fb3_12
    · exact fb3_15
    · exact fb3_18
    · exact fb3_21
    · exact fb3_24
  · have:b=4 ∨ b=8 ∨ b=12 ∨ b=16 ∨ b=20 ∨ b=24:=by omega
    rcases this with rfl | rfl | rfl | rfl | rfl | rfl
    · exact fb4_4
    · exact fb4_8
    · exact fb4_12
    · exact fb4_16
    · exact fb4_20
    · exact fb4_24
  · have:b=5 ∨ b=10 ∨ b=15 ∨ b=20:=by omega
    rcases this with rfl | rfl | rfl | rfl
    · exact fb5_5
    · exact fb5_10
    · exact fb5_15
    · exact fb5_20
  · have:b=6 ∨ b=12 ∨ b=18 ∨ b=24:=by omega
    rcases this with rfl | rfl | rfl | rfl
    · exact fb6_6
    · exact fb6_12
    · exact fb6_18
    · exact fb6_24
  · have:b=7 ∨ b=14:=by omega
    rcases this with rfl | rfl
    · exact fb7_7
    · exact fb7_14
  · have:b=8 ∨ b=16:=by omega
    rcases this with rfl | rfl
    · exact fb8_8
    · exact fb8_16
  · have:b=9:=by omega
    subst this; exact fb9_9
  · have:b=10:=by omega
    subst this; exact fb10_10
  · have:b=11:=by omega
    subst this; exact fb11_11
  · have:b=12:=by omega
    subst this; exact fb12_12
  · omega
  · omega
  · omega
  · omega
  · omega
  · omega
  · omega
  · omega
  · omega
  · omega
  · omega
  · omega
theorem free_ok:PrimOk Tp 42 free42:=by
  have h2:PrimOk Tp 42 (liF fun l=>if (newGroupT l).2=true then some (.tuple [.own 1 ((freeL l).map encO),.int .i64 0]) else none):=by
    refine primOk_of (pol:=polSl) soundSl (by kernel_rfl) ?_
    intro args res h
    obtain ⟨l,rfl,hq⟩:=liF_inv h
    clear h
    split at hq
    case isFalse=>cases hq
    rename_i hg
    cases hq
    have fq:FQ l:=by
      rcases grp_cases hg with ⟨a,rfl,h1,h2⟩ | ⟨a,b,rfl,h1,h2,h3,h4,h5,h6⟩
      · exact fq1 h1 h2
      · exact fq2 h1 h2 h3 h4 h5 h6
    unfold FQ freeQ at fq
    cases hc:callN Tp polSl 5000 42 [.imm .arg 1 (l.map encI)] [] with
    | none=>rw [hc] at fq; cases fq
    | some p=>rw [hc] at fq; exact ⟨5000,p.1,p.2,false,hc,fq⟩
  have h1:PrimOk Tp 42 (liF fun l=>if (newGroupT l).2=true then none else some (.tuple [.own 1 [],.int .i64 2])):=by
    refine primOk_trip (fn:=Try.f42) (cd:=B42) (deep:=false) (by kernel_rfl) (by kernel_rfl) ?_
    intro args res h
    obtain ⟨l,rfl,hq⟩:=liF_inv h
    clear h
    split at hq
    case isTrue=>cases hq
    rename_i hg
    cases hq
    have h5:=newGroup_at (pol':=polSl) (by kernel_rfl) l []
    rw [nb_false hg] at h5
    have a:=fe_a_0 (l.map encI)
    have b:=fe_b_1 (l.map encI) (y4:=Ud) (y5:=Ud) (y6:=Ud) (y7:=Ud) (y8:=Ud) (y17:=Ud) (y18:=Ud) (y25:=Ud) (y26:=Ud) h5
    have s:=fe_cf_0 (l.map encI) (newGroupT l).1.1 (newGroupT l).1.2.1 (newGroupT l).1.2.2 (y6:=Ud) (y7:=Ud) (y8:=Ud) (y17:=Ud) (y18:=Ud) (y25:=Ud) (y26:=Ud)
    have u:=sq (a) (sq (b) (sqo (s) (c:=sub [1,1] B42) (b:=sub [1,1,1] B42)) (c:=sub [1] B42)) (c:=B42)
    refine (Trip.run follows_mixed soundSl (by kernel_rfl) u).mono ?_
    rintro X e H ⟨rfl,rfl,rfl⟩
    exact ⟨by simp,.tuple [.imm .lit 1 [],.int .i64 2],by simp only [resultsV,res42]; rfl,rfl⟩
  intro args res h
  obtain ⟨l,rfl,hq⟩:=liF_inv h
  have hd:mapO decI (l.map encI)=some l:=mapO_map decI_enc l
  cases c:(newGroupT l).2 with
  | true =>
    refine h2 _ _ ?_
    simp only [liF,hd,c,if_true]
    rw [← hq,freeT,c]; rfl
  | false =>
    refine h1 _ _ ?_
    simp only [liF,hd,c]
    rw [← hq,freeT,c]; rfl
end Go.Proofs.Ytaibmipamkaljaa
end
section
open Go Go.HL
namespace Go.Proofs.Ytaibmipamkaljaa
set_option maxRecDepth 100000
open Go.Proofs.Try renaming prog → Tp
open Go.HL.HV renaming undef → Ud
noncomputable def B44:Code:=Try.f44.body.getD .skip
abbrev env44 (v0 v1 v4 v5 v6 v7 v8:HV):Env:=[(0,v0),(1,v1),(4,v4),(5,v5),(6,v6),(7,v7),(8,v8)]
theorem roa_a_0 (a u:Int):RT polLs 44 (sub [0] B44) [(0,.a [.i a]),(1,.a [.i u])] [] .normal (env44 (.a [.i a]) (.a [.i u]) (.i 0) Ud Ud Ud Ud) [] :=
  RunsTo.hin 0 60 [] fun kf hk=>⟨_,by kernel_rfl,.nil⟩
theorem roa_b_0 (a u:Int) {y5 y6 y7 y8:HV}:RT polLs 44 (sub [1,0] B44) (env44 (.a [.i a]) (.a [.i u]) (.i 0) y5 y6 y7 y8) [] .normal (env44 (.a [.i a]) (.a [.i u]) (.i 0) (.i 1) y6 y7 y8) [] :=
  RunsTo.hin 0 60 [] fun kf hk=>⟨_,by kernel_rfl,.nil⟩
theorem roa_c_0 (a u:Int) {y6 y7 y8:HV} (cd0:Int) (g0:∀ kf,callN Tp polLs (kf+1) 61 [.a [.i a],.a [.i u]] []=some (.i cd0,[])):RT polLs 44 (sub [1,1,0] B44) (env44 (.a [.i a]) (.a [.i u]) (.i 0) (.i 1) y6 y7 y8) [] .normal (env44 (.a [.i a]) (.a [.i u]) (.i 0) (.i 1) (.i cd0) y7 y8) [] :=
  RunsTo.hin 0 60 [⟨2,2,.i cd0,[]⟩] fun kf hk=>⟨_,by kernel_rfl,(oC (g0 kf) .nil)⟩
theorem roa_d_0 (a u:Int) (n c:Int) {y7 y8:HV}(g0:c=0):RT polLs 44 (sub [1,1,1,0,0,0] B44) (env44 (.a [.i a]) (.a [.i u]) (.i 0) (.i n) (.i c) y7 y8) [] (.exit 0) (env44 (.a [.i a]) (.a [.i u]) (.i 0) (.i n) (.i c) y7 y8) [] :=
  RunsTo.hin 0 60 [⟨3,1,.bool false,[]⟩] fun kf hk=>⟨_,by kernel_rfl,(oB [] (congrArg not (decide_eq_true g0)) .nil)⟩
theorem roa_d_1 (a u:Int) (n c:Int) {y7 y8:HV} (d0:Int) (cd0:Int) (g0:¬ (c=0)) (g1:∀ kf,callN Tp polLs (kf+1) 41 [.a [.i a],.i c] []=some (.s 0 1,[.arr 1 [.i d0] true 0])) (g2:binV Tp .rem 3 (.i (IntKind.i64.wrap (d0+u))) (.i a)=some (.i ((IntKind.i64.wrap (d0+u):Int).tmod a))) (g3:∀ kf,callN Tp polLs (kf+1) 61 [.a [.i a],.s 0 1] [.arr 1 [.i ((IntKind.i64.wrap (d0+u):Int).tmod a)] true 0]=some (.i cd0,[.arr 1 [.i ((IntKind.i64.wrap (d0+u):Int).tmod a)] true 0])):RT polLs 44 (sub [1,1,1,0,0,0] B44) (env44 (.a [.i a]) (.a [.i u]) (.i 0) (.i n) (.i c) y7 y8) [] .normal (env44 (.a [.i a]) (.a [.i u]) (.i 0) (.i (IntKind.i64.wrap (n+1))) (.i cd0) (.s 0 1) (.i 1)) [.arr 1 [.i ((IntKind.i64.wrap (d0+u):Int).tmod a)] true 0] :=
  RunsTo.hin 0 60 [⟨3,1,.bool true,[]⟩,⟨5,2,.s 0 1,[.arr 1 [.i d0] true 0]⟩,⟨9,15,.i ((IntKind.i64.wrap (d0+u):Int).tmod a),[.arr 1 [.i d0] true 0]⟩,⟨10,2,.i cd0,[.arr 1 [.i ((IntKind.i64.wrap (d0+u):Int).tmod a)] true 0]⟩] fun kf hk=>⟨_,by kernel_rfl,(oB [] (congrArg not (decide_eq_false g0)) (oC (g1 kf) (oP [.arr 1 [.i d0] true 0] g2 (oC (g3 kf) .nil))))⟩
theorem roa_e_0 (a u:Int) (n c:Int) {y7 y8:HV}:RT polLs 44 (sub [1,1,1,1] B44) (env44 (.a [.i a]) (.a [.i u]) (.i 0) (.i n) (.i c) y7 y8) [] .ret (env44 (.a [.i a]) (.a [.i u]) (.i n) (.i n) (.i c) y7 y8) [] :=
  RunsTo.hin 0 60 [] fun kf hk=>⟨_,by kernel_rfl,.nil⟩
theorem rob_a_0 (a b u w:Int):RT polLs 44 (sub [0] B44) [(0,.a [.i a,.i b]),(1,.a [.i u,.i w])] [] .normal (env44 (.a [.i a,.i b]) (.a [.i u,.i w]) (.i 0) Ud Ud Ud Ud) [] :=
  RunsTo.hin 0 60 [] fun kf hk=>⟨_,by kernel_rfl,.nil⟩
theorem rob_b_0 (a b u w:Int) {y5 y6 y7 y8:HV}:RT polLs 44 (sub [1,0] B44) (env44 (.a [.i a,.i b]) (.a [.i u,.i w]) (.i 0) y5 y6 y7 y8) [] .normal (env44 (.a [.i a,.i b]) (.a [.i u,.i w]) (.i 0) (.i 1) y6 y7 y8) [] :=
  RunsTo.hin 0 60 [] fun kf hk=>⟨_,by kernel_rfl,.nil⟩
theorem rob_c_0 (a b u w:Int) {y6 y7 y8:HV} (cd0:Int) (g0:∀ kf,callN Tp polLs (kf+1) 61 [.a [.i a,.i b],.a [.i u,.i w]] []=some (.i cd0,[])):RT polLs 44 (sub [1,1,0] B44) (env44 (.a [.i a,.i b]) (.a [.i u,.i w]) (.i 0) (.i 1) y6 y7 y8) [] .normal (env44 (.a [.i a,.i b]) (.a [.i u,.i w]) (.i 0) (.i 1) (.i cd0) y7 y8) [] :=
  RunsTo.hin 0 60 [⟨2,2,.i cd0,[]⟩] fun kf hk=>⟨_,by kernel_rfl,(oC (g0 kf) .nil)⟩
theorem rob_d_0 (a b u w:Int) (n c:Int) {y7 y8:HV}(g0:c=0):RT polLs 44 (sub [1,1,1,0,0,0] B44) (env44 (.a [.i a,.i b]) (.a [.i u,.i w]) (.i 0) (.i n) (.i c) y7 y8) [] (.exit 0) (env44 (.a [.i a,.i b]) (.a [.i u,.i w]) (.i 0) (.i n) (.i c) y7 y8) [] :=
  RunsTo.hin 0 60 [⟨3,1,.bool false,[]⟩] fun kf hk=>⟨_,by kernel_rfl,(oB [] (congrArg not (decide_eq_true g0)) .nil)⟩
theorem rob_d_1 (a b u w:Int) (n c:Int) {y7 y8:HV} (d0:Int) (d1:Int) (cd0:Int) (g0:¬ (c=0)) (g1:∀ kf,callN Tp polLs (kf+1) 41 [.a [.i a,.i b],.i c] []=some (.s 0 2,[.arr 1 [.i d0,.i d1] true 0])) (g2:binV Tp .rem 3 (.i (IntKind.i64.wrap (d0+u))) (.i a)=some (.i ((IntKind.i64.wrap (d0+u):Int).tmod a))) (g3:binV Tp .rem 3 (.i (IntKind.i64.wrap (d1+w))) (.i b)=some (.i ((IntKind.i64.wrap (d1+w):Int).tmod b))) (g4:∀ kf,callN Tp polLs (kf+1) 61 [.a [.i a,.i b],.s 0 2] [.arr 1 [.i ((IntKind.i64.wrap (d0+u):Int).tmod a),.i ((IntKind.i64.wrap (d1+w):Int).tmod b)] true 0]=some (.i cd0,[.arr 1 [.i ((IntKind.i64.wrap (d0+u):Int).tmod a),.i ((IntKind.i64.wrap (d1+w):Int).tmod b)] true 0])):RT polLs 44 (sub [1,1,1,0,0,0] B44) (env44 (.a [.i a,.i b]) (.a [.i u,.i w]) (.i 0) (.i n) (.i c) y7 y8) [] .normal (env44 (.a [.i a,.i b]) (.a [.i u,.i w]) (.i 0) (.i (IntKind.i64.wrap (n+1))) (.i cd0) (.s 0 2) (.i 2)) [.arr 1 [.i ((IntKind.i64.wrap (d0+u):Int).tmod a),.i ((IntKind.i64.wrap (d1+w):Int).tmod b)] true 0] :=
  RunsTo.hin 0 60 [⟨3,1,.bool true,[]⟩,⟨5,2,.s 0 2,[.arr 1 [.i d0,.i d1] true 0]⟩,⟨9,15,.i ((IntKind.i64.wrap (d0+u):Int).tmod a),[.arr 1 [.i d0,.i d1] true 0]⟩,⟨9,15,.i ((IntKind.i64.wrap (d1+w):Int).tmod b),[.arr 1 [.i ((IntKind.i64.wrap (d0+u):Int).tmod a),.i d1] true 0]⟩,⟨10,2,.i cd0,[.arr 1 [.i ((IntKind.i64.wrap (d0+u):Int).tmod a),.i ((IntKind.i64.wrap (d1+w):Int).tmod b)] true 0]⟩] fun kf hk=>⟨_,by kernel_rfl,(oB [] (congrArg not (decide_eq_false g0)) (oC (g1 kf) (oP [.arr 1 [.i d0,.i d1] true 0] g2 (oP [.arr 1 [.i ((IntKind.i64.wrap (d0+u):Int).tmod a),.i d1] true 0] g3 (oC (g4 kf) .nil)))))⟩
theorem rob_e_0 (a b u w:Int) (n c:Int) {y7 y8:HV}:RT polLs 44 (sub [1,1,1,1] B44) (env44 (.a [.i a,.i b]) (.a [.i u,.i w]) (.i 0) (.i n) (.i c) y7 y8) [] .ret (env44 (.a [.i a,.i b]) (.a [.i u,.i w]) (.i n) (.i n) (.i c) y7 y8) [] :=
  RunsTo.hin 0 60 [] fun kf hk=>⟨_,by kernel_rfl,.nil⟩
end Go.Proofs.Ytaibmipamkaljaa
end
section
open Go Go.HL
namespace Go.Proofs.Ytaibmipamkaljaa
open Go.Proofs.Try renaming prog → Tp
open Go.HL.HV renaming undef → Ud
theorem res44:Try.f44.results.toList=[.tmp 4]:=by kernel_rfl
def rorder44:List HV → Option HV:=llF fun gl x=>if (newGroupT gl).2=true∧elB gl x=true then (orderT gl x).map fun r=>.int .i64 r.1 else none
theorem grL_of {gl:List Int} (hg:(newGroupT gl).2=true):∃ e,GrL gl (newGroupT gl).1 e:=by
  rcases grp_cases hg with ⟨a,rfl,h1,h2⟩ | ⟨a,b,rfl,h1,h2,h3,h4,h5,h6⟩
  · exact ⟨a,.inl ⟨a,rfl,by rw [new_one h1 h2],rfl,h1,h2⟩⟩
  · have hab:a ≤ b:=Int.le_of_dvd (by omega) (Int.dvd_of_emod_eq_zero h6)
    have ha:a ≤ 12:=by
      apply Classical.byContradiction
      intro c
      have:13 * 13 ≤ a * b:=Int.mul_le_mul (by omega) (by omega) (by omega) (by omega)
      omega
    exact ⟨b,.inr ⟨a,b,rfl,by rw [new_two h1 h2 h3 h4 h5 h6],rfl,h1,ha,h3,h4,h5,h6⟩⟩
theorem rowOk_of {gl x:List Int} (hg:(newGroupT gl).2=true) (hx:elB gl x=true):rowOk gl x:=by
  rcases grp_cases hg with ⟨a,rfl,h1,h2⟩ | ⟨a,b,rfl,h1,h2,h3,h4,h5,h6⟩
  · obtain ⟨u,rfl,u1,u2⟩:=el_one hx
    refine ⟨rfl,fun j hj=>?_⟩
    have:j=0:=by simpa using hj
    subst this; exact ⟨u1,u2⟩
  · obtain ⟨u,v,rfl,hu,hv⟩:=el_two hx
    refine ⟨rfl,fun j hj=>?_⟩
    match j,hj with
    | 0,_=>exact hu
    | 1,_=>exact hv
    | j+2,hj=>simp only [List.length_cons,List.length_nil] at hj; omega
theorem mul_next (n:Nat) (u a:Int):((n:Int) * u % a+u) % a=((n+1:Nat):Int) * u % a:=by
  rw [Int.emod_add_emod]; congr 1
  rw [show ((n+1:Nat):Int)=(n:Int)+1 by omega,Int.add_mul]; omega
abbrev roA (a u n c:Int) (v7 v8:HV):Env:=(env44 (.imm .arg 1 [.int .i64 a]) (.imm .arg 1 [.int .i64 u]) (.int .i64 0) (.int .i64 n) (.int .i64 c) v7 v8)
abbrev roB (a b u w n c:Int) (v7 v8:HV):Env:=(env44 (.imm .arg 1 [.int .i64 a,.int .i64 b]) (.imm .arg 1 [.int .i64 u,.int .i64 w]) (.int .i64 0) (.int .i64 n) (.int .i64 c) v7 v8)
theorem roA_loop {a u:Int} (h1:2 ≤ a) (h2:a ≤ 24) (u1:0 ≤ u) (u2:u < a) {o:Nat} (ho:isOrd (a,1,1) (u,0) o) (hoe:o ≤ 24):∀ k n:Nat,n+k=o → 1 ≤ n →
    ∃ y7 y8,RT polLs 44 (sub [1,1,1,0,0] B44) (roA a u n ((n:Int) * u % a) Ud Ud) [] (.exit 0) (roA a u o 0 y7 y8) []:=by
  have hg:(newGroupT [a]).2=true:=by rw [new_one h1 h2]
  intro k
  induction k with
  | zero =>
    intro n hn hn1
    have:n=o:=by omega
    subst this
    have hz:(n:Int) * u % a=0:=ho.2.1.1
    rw [hz]
    have s:=roa_d_0 a u n 0 (y7:=Ud) (y8:=Ud) rfl
    exact ⟨_,_,lpo (s) (c:=sub [1,1,1,0,0] B44)⟩
  | succ k ih =>
    intro n hn hn1
    have hc:¬ (n:Int) * u % a=0:=fun h=>ho.2.2 n hn1 (by omega) ⟨h,by show (n:Int) * 0 % 1=0; omega⟩
    have hb:=mod_in (m:=a) (by omega) ((n:Int) * u)
    obtain ⟨y7,y8,r⟩:=ih (n+1) (by omega) (by omega)
    rw [← mul_next] at r
    generalize (n:Int) * u % a=c at *
    have dc:=decoded_at (pol':=polLs) (by kernel_rfl) (l:=[a]) (c:=c) ⟨hg,hb.1,by omega⟩ []
    have w:IntKind.i64.wrap (c+u)=c+u:=wrap_id (by omega) (by omega)
    have t:(c+u).tmod a=(c+u) % a:=Int.tmod_eq_emod_of_nonneg (by omega)
    have cc:=code_at (pol':=polLs) (by kernel_rfl) (l:=[a]) (x:=[(c+u) % a]) (v:=.sl 0 0 1 none 1 1) (H:=[bI [(c+u) % a]]) (arg_sl rfl rfl) ⟨hg,el_mk1 (mod_in (by omega) _)⟩
    have s:=roa_d_1 a u n c (y7:=Ud) (y8:=Ud) c ((c+u) % a) hc dc (rem3 (by omega)) (by rw [w,t]; exact cc)
    rw [w,t,wrap_succ (by omega)] at s
    exact ⟨y7,y8,lop (s) (by kernel_rfl) (r)⟩
theorem roB_loop {a b u v:Int} (h1:2 ≤ a) (h2:a ≤ 24) (h3:2 ≤ b) (h4:b ≤ 24) (h5:a * b ≤ 144) (h6:b % a=0) (hu:0 ≤ u∧u < a) (hv:0 ≤ v∧v < b) {o:Nat} (ho:isOrd (a,b,2) (u,v) o) (hoe:o ≤ 24):∀ k n:Nat,n+k=o → 1 ≤ n →
    ∃ y7 y8,RT polLs 44 (sub [1,1,1,0,0] B44) (roB a b u v n ((n:Int) * u % a * b+(n:Int) * v % b) Ud Ud) [] (.exit 0) (roB a b u v o 0 y7 y8) []:=by
  have hg:(newGroupT [a,b]).2=true:=by rw [new_two h1 h2 h3 h4 h5 h6]
  intro k
  induction k with
  | zero =>
    intro n hn hn1
    have:n=o:=by omega
    subst this
    have hz:(n:Int) * u % a=0:=ho.2.1.1
    have hz2:(n:Int) * v % b=0:=ho.2.1.2
    rw [hz,hz2,Int.zero_mul,Int.add_zero]
    have s:=rob_d_0 a b u v n 0 (y7:=Ud) (y8:=Ud) rfl
    exact ⟨_,_,lpo (s) (c:=sub [1,1,1,0,0] B44)⟩
  | succ k ih =>
    intro n hn hn1
    have hb:=mod_in (m:=a) (by omega) ((n:Int) * u)
    have hb2:=mod_in (m:=b) (by omega) ((n:Int) * v)
    have hz:¬ ((n:Int) * u % a=0∧(n:Int) * v % b=0):=fun h=>ho.2.2 n hn1 (by omega) h
    obtain ⟨y7,y8,r⟩:=ih (n+1) (by omega) (by omega)
    rw [← mul_next,← mul_next] at r
    generalize (n:Int) * u % a=c at *
    generalize (n:Int) * v % b=d at *
    obtain ⟨q0,q1,q2⟩:=cod_b h1 h3 h5 hb hb2
    have e1:(c * b+d) / b=c:=by
      rw [Int.add_comm,Int.add_mul_ediv_right _ _ (by omega),Int.ediv_eq_zero_of_lt hb2.1 hb2.2]; omega
    have e2:(c * b+d) % b=d:=by rw [Int.add_comm,Int.add_mul_emod_self_right]; exact Int.emod_eq_of_lt hb2.1 hb2.2
    have hc:¬ c * b+d=0:=fun h=>hz (by
      have d0:d=0:=by omega
      have c0:c * b=0:=by omega
      rcases Int.mul_eq_zero.1 c0 with c0 | c0
      · exact ⟨c0,d0⟩
      · omega)
    have dc:=decoded_at (pol':=polLs) (by kernel_rfl) (l:=[a,b]) (c:=c * b+d) ⟨hg,by omega,by omega⟩ []
    have ed:decT [a,b] (c * b+d)=[c,d]:=by show [(c * b+d) / b,(c * b+d) % b]=_; rw [e1,e2]
    rw [ed] at dc
    have w:IntKind.i64.wrap (c+u)=c+u:=wrap_id (by omega) (by omega)
    have w2:IntKind.i64.wrap (d+v)=d+v:=wrap_id (by omega) (by omega)
    have t:(c+u).tmod a=(c+u) % a:=Int.tmod_eq_emod_of_nonneg (by omega)
    have t2:(d+v).tmod b=(d+v) % b:=Int.tmod_eq_emod_of_nonneg (by omega)
    have cc:=code_at (pol':=polLs) (by kernel_rfl) (l:=[a,b]) (x:=[(c+u) % a,(d+v) % b]) (v:=.sl 0 0 2 none 2 1) (H:=[bI [(c+u) % a,(d+v) % b]]) (arg_sl rfl rfl) ⟨hg,el_mk2 (mod_in (by omega) _) (mod_in (by omega) _)⟩
    have s:=rob_d_1 a b u v n (c * b+d) (y7:=Ud) (y8:=Ud) c d ((c+u) % a * b+(d+v) % b) hc dc (rem3 (by omega)) (rem3 (by omega)) (by rw [w,t,w2,t2]; exact cc)
    rw [w,t,w2,t2,wrap_succ (by omega)] at s
    exact ⟨y7,y8,lop (s) (by kernel_rfl) (r)⟩
theorem rorder_ok:PrimOk Tp 44 rorder44:=by
  refine primOk_pure (pol:=polLs) (fn:=Try.f44) (cd:=B44) follows_mixed soundLs (by kernel_rfl) (by kernel_rfl) (fnok polLs.prim _ _ (by kernel_rfl)) (by kernel_rfl) ?_
  intro args res h
  obtain ⟨gl,x,rfl,hq⟩:=llF_inv h
  clear h
  split at hq
  case isFalse=>cases hq
  rename_i hk
  obtain ⟨hg,hx⟩:=hk
  obtain ⟨e,hG⟩:=grL_of hg
  obtain ⟨o,ho,hoe,_,hot⟩:=hG.order (rowOk_of hg hx)
  have hpos:=hG.pos
  rw [hot] at hq
  cases hq
  rcases grp_cases hg with ⟨a,rfl,h1,h2⟩ | ⟨a,b,rfl,h1,h2,h3,h4,h5,h6⟩
  · obtain ⟨u,rfl,u1,u2⟩:=el_one hx
    rw [new_one h1 h2] at ho
    have A:=roa_a_0 a u
    have B:=roa_b_0 a u (y5:=Ud) (y6:=Ud) (y7:=Ud) (y8:=Ud)
    have c61:=code_at (pol':=polLs) (by kernel_rfl) (l:=[a]) (x:=[u]) (v:=.imm .arg 1 [.int .i64 u]) (H:=[]) (arg_li [] [u]) ⟨hg,hx⟩
    have C:=roa_c_0 a u u (y6:=Ud) (y7:=Ud) (y8:=Ud) c61
    obtain ⟨y7,y8,lp⟩:=roA_loop h1 h2 u1 u2 ho (by omega) (o - 1) 1 (by have:=ho.1; omega) (Nat.le_refl _)
    rw [show (((1:Nat):Int) * u % a)=u by rw [show ((1:Nat):Int) * u=u by omega]; exact Int.emod_eq_of_lt u1 u2] at lp
    have z:=roa_e_0 a u o 0 (y7:=y7) (y8:=y8)
    have U:=sq (A) (sq (B) (sq (C) (sq (bke (c:=sub [1,1,1,0] B44) (lp)) (z) (c:=sub [1,1,1] B44)) (c:=sub [1,1] B44)) (c:=sub [1] B44)) (c:=B44)
    exact ⟨_,_,_,.int .i64 (o:Int),U,by simp,by simp only [resultsV,res44]; rfl,rfl⟩
  · obtain ⟨u,v,rfl,hu,hv⟩:=el_two hx
    rw [new_two h1 h2 h3 h4 h5 h6] at ho
    have A:=rob_a_0 a b u v
    have B:=rob_b_0 a b u v (y5:=Ud) (y6:=Ud) (y7:=Ud) (y8:=Ud)
    have c61:=code_at (pol':=polLs) (by kernel_rfl) (l:=[a,b]) (x:=[u,v]) (v:=.imm .arg 1 [.int .i64 u,.int .i64 v]) (H:=[]) (arg_li [] [u,v]) ⟨hg,hx⟩
    have C:=rob_c_0 a b u v (u * b+v) (y6:=Ud) (y7:=Ud) (y8:=Ud) c61
    obtain ⟨y7,y8,lp⟩:=roB_loop h1 h2 h3 h4 h5 h6 hu hv ho (by omega) (o - 1) 1 (by have:=ho.1; omega) (Nat.le_refl _)
    rw [show (((1:Nat):Int) * u % a)=u by rw [show ((1:Nat):Int) * u=u by omega]; exact Int.emod_eq_of_lt hu.1 hu.2,show (((1:Nat):Int) * v % b)=v by rw [show ((1:Nat):Int) * v=v by omega]; exact Int.emod_eq_of_lt hv.1 hv.2] at lp
    have z:=rob_e_0 a b u v o 0 (y7:=y7) (y8:=y8)
    have U:=sq (A) (sq (B) (sq (C) (sq (bke (c:=sub [1,1,1,0] B44) (lp)) (z) (c:=sub [1,1,1] B44)) (c:=sub [1,1] B44)) (c:=sub [1] B44)) (c:=B44)
    exact ⟨_,_,_,.int .i64 (o:Int),U,by simp,by simp only [resultsV,res44]; rfl,rfl⟩
end Go.Proofs.Ytaibmipamkaljaa
end
section
open Go Go.HL
namespace Go.Proofs.Ytaibmipamkaljaa
open Go.Proofs.Try renaming prog → Tp
open Go.HL.HV renaming undef → Ud
def prL45:FuncId → Option (List HV → Option HV):=fun g=>if g == 17 then some ints17 else none
def polL45:Pol:={ pol with prim:=prL45 }
theorem soundL45 (n:Nat):CallSound Tp (callN Tp polL45 n):=sound_prim prL45 (fun g f h=>by
  unfold prL45 at h
  split at h
  · rename_i hg; cases h; rw [eq_of_beq hg]; exact ints_ok
  · cases h) n
end Go.Proofs.Ytaibmipamkaljaa
end
section
open Go Go.HL
namespace Go.Proofs.Ytaibmipamkaljaa
set_option maxRecDepth 100000
open Go.Proofs.Try renaming prog → Tp
open Go.HL.HV renaming undef → Ud
noncomputable def B45:Code:=Try.f45.body.getD .skip
abbrev env45 (v0 v1 v4 v5:HV):Env:=[(0,v0),(1,v1),(4,v4),(5,v5)]
theorem tbs_a_0 (ra rb:List HV) :RT polL45 45 (sub [0] B45) [(0,.a ra),(1,.a rb)] [] .normal (env45 (.a ra) (.a rb) (.bool false) Ud) [] :=
  RunsTo.hin 0 60 [] fun kf hk=>⟨_,by kernel_rfl,.nil⟩
theorem tbs_b_0 (ra rb:List HV)  {y5:HV}(g0:(ra.length:Int)=(rb.length:Int)):RT polL45 45 (sub [1,0] B45) (env45 (.a ra) (.a rb) (.bool false) y5) [] .normal (env45 (.a ra) (.a rb) (.bool false) y5) [] :=
  RunsTo.hin 0 60 [⟨1,4,.bool false,[]⟩] fun kf hk=>⟨_,by kernel_rfl,(oB [] (congrArg not (decide_eq_true g0)) .nil)⟩
theorem tbs_b_1 (ra rb:List HV)  {y5:HV}(g0:¬ ((ra.length:Int)=(rb.length:Int))):RT polL45 45 (sub [1,0] B45) (env45 (.a ra) (.a rb) (.bool false) y5) [] .ret (env45 (.a ra) (.a rb) (.bool false) y5) [] :=
  RunsTo.hin 0 60 [⟨1,4,.bool true,[]⟩] fun kf hk=>⟨_,by kernel_rfl,(oB [] (congrArg not (decide_eq_false g0)) .nil)⟩
theorem tbs_c_0 (ra rb:List HV)  {y5:HV}:RT polL45 45 (sub [1,1,0,0] B45) (env45 (.a ra) (.a rb) (.bool false) y5) [] .normal (env45 (.a ra) (.a rb) (.bool false) (.i 0)) [] :=
  RunsTo.hin 0 60 [] fun kf hk=>⟨_,by kernel_rfl,.nil⟩
theorem tbs_d_0 (ra rb:List HV) (j:Nat) {l0:List HV} {l1:List HV} (g0:(j:Int) < (ra.length:Int)) (g1:idxV Tp 35 (.a ra) (.i (j:Int))=some (.vptr (.a l0))) (g2:idxV Tp 35 (.a rb) (.i (j:Int))=some (.vptr (.a l1))) (g3:∀ kf,callN Tp polL45 (kf+1) 17 [.a l0,.a l1] []=some (.bool true,[])):RT polL45 45 (sub [1,1,0,1,0,0] B45) (env45 (.a ra) (.a rb) (.bool false) (.i (j:Int))) [] .normal (env45 (.a ra) (.a rb) (.bool false) (.i (IntKind.i64.wrap ((j:Int)+1)))) [] :=
  RunsTo.hin 0 60 [⟨4,3,.bool true,[]⟩,⟨6,2,.vptr (.a l0),[]⟩,⟨6,6,.vptr (.a l1),[]⟩,⟨6,8,.bool true,[]⟩] fun kf hk=>⟨_,by kernel_rfl,(oB [] (decide_eq_true g0) (oP [] g1 (oP [] g2 (oC (g3 kf) .nil))))⟩
theorem tbs_d_1 (ra rb:List HV) (j:Nat) {l0:List HV} {l1:List HV} (g0:(j:Int) < (ra.length:Int)) (g1:idxV Tp 35 (.a ra) (.i (j:Int))=some (.vptr (.a l0))) (g2:idxV Tp 35 (.a rb) (.i (j:Int))=some (.vptr (.a l1))) (g3:∀ kf,callN Tp polL45 (kf+1) 17 [.a l0,.a l1] []=some (.bool false,[])):RT polL45 45 (sub [1,1,0,1,0,0] B45) (env45 (.a ra) (.a rb) (.bool false) (.i (j:Int))) [] .ret (env45 (.a ra) (.a rb) (.bool false) (.i (j:Int))) [] :=
  RunsTo.hin 0 60 [⟨4,3,.bool true,[]⟩,⟨6,2,.vptr (.a l0),[]⟩,⟨6,6,.vptr (.a l1),[]⟩,⟨6,8,.bool false,[]⟩] fun kf hk=>⟨_,by kernel_rfl,(oB [] (decide_eq_true g0) (oP [] g1 (oP [] g2 (oC (g3 kf) .nil))))⟩
theorem tbs_d_2 (ra rb:List HV) (j:Nat)(g0:¬ ((j:Int) < (ra.length:Int))):RT polL45 45 (sub [1,1,0,1,0,0] B45) (env45 (.a ra) (.a rb) (.bool false) (.i (j:Int))) [] (.exit 0) (env45 (.a ra) (.a rb) (.bool false) (.i (j:Int))) [] :=
  RunsTo.hin 0 60 [⟨4,3,.bool false,[]⟩] fun kf hk=>⟨_,by kernel_rfl,(oB [] (decide_eq_false g0) .nil)⟩
theorem tbs_e_0 (ra rb:List HV)  {y5:HV}:RT polL45 45 (sub [1,1,1] B45) (env45 (.a ra) (.a rb) (.bool false) y5) [] .ret (env45 (.a ra) (.a rb) (.bool true) y5) [] :=
  RunsTo.hin 0 60 [] fun kf hk=>⟨_,by kernel_rfl,.nil⟩
end Go.Proofs.Ytaibmipamkaljaa
end
section
open Go Go.HL
namespace Go.Proofs.Ytaibmipamkaljaa
open Go.Proofs.Try renaming prog → Tp
open Go.HL.HV renaming undef → Ud
theorem res45:Try.f45.results.toList=[.tmp 4]:=by kernel_rfl
def rrF (f:List (List Int) → List (List Int) → Option HV):List HV → Option HV
  | [.imm .arg 1 ra,.imm .arg 1 rb]=>(match mapO decR ra,mapO decR rb with | some A,some B=>f A B | _,_=>none)
  | _=>none
theorem rrF_inv {f:List (List Int) → List (List Int) → Option HV} {args:List HV} {res:HV} (h:rrF f args=some res):∃ A B,args=[.imm .arg 1 (A.map encR),.imm .arg 1 (B.map encR)]∧f A B=some res:=by
  unfold rrF at h
  split at h
  · split at h
    · rename_i A B hA hB
      exact ⟨A,B,by rw [mapO_inv decR_inv hA,mapO_inv decR_inv hB],h⟩
    · cases h
  · cases h
def tables45:List HV → Option HV:=rrF fun A B=>if A.length ≤ 1000∧∀ r ∈ A,r.length ≤ 1000 then some (.bool (decide (A=B))) else none
abbrev tbsE (A B:List (List Int)) (j:Nat):Env:=(env45 (.imm .arg 1 (A.map encR)) (.imm .arg 1 (B.map encR)) (.bool false) (.int .i64 (j:Int)))
theorem tbs_loop {A B:List (List Int)} (hl:A.length ≤ 1000) (hr:∀ r ∈ A,r.length ≤ 1000) (hB:A.length=B.length):∀ k j,j+k=A.length →
    ∃ y E,RT polL45 45 (sub [1,1,0,1,0] B45) (tbsE A B j) [] y E [] ∧
      ((A.drop j=B.drop j∧y=.exit 0∧E=tbsE A B A.length) ∨ (A.drop j ≠ B.drop j∧y=.ret∧E.get 4=.bool false)):=by
  intro k
  induction k with
  | zero =>
    intro j hj
    have:j=A.length:=by omega
    subst this
    have s:=tbs_d_2 (A.map encR) (B.map encR) A.length (by rw [List.length_map]; omega)
    exact ⟨_,_,lpo (s) (c:=sub [1,1,0,1,0] B45),.inl ⟨by rw [List.drop_length,hB,List.drop_length],rfl,rfl⟩⟩
  | succ k ih =>
    intro j hj
    have hjl:j < A.length:=by omega
    have hjb:j < B.length:=by omega
    have hd:A.drop j=A.getD j [] :: A.drop (j+1):=by
      rw [List.drop_eq_getElem_cons hjl]; simp [List.getD,List.getElem?_eq_getElem hjl]
    have hdb:B.drop j=B.getD j [] :: B.drop (j+1):=by
      rw [List.drop_eq_getElem_cons hjb]; simp [List.getD,List.getElem?_eq_getElem hjb]
    have hlt:(j:Int) < ((A.map encR).length:Int):=by rw [List.length_map]; omega
    have g1:=gr hjl
    have g2:=gr hjb
    have cl:=ints_at (pol':=polL45) (by kernel_rfl) (a:=A.getD j []) (b:=B.getD j []) (v1:=.imm .arg 1 ((A.getD j []).map encI)) (v2:=.imm .arg 1 ((B.getD j []).map encI)) (H:=[]) (arg_li _ _) (arg_li _ _) (hr _ (by rw [List.getD,List.getElem?_eq_getElem hjl]; exact List.getElem_mem _))
    rw [hd,hdb]
    by_cases c:A.getD j []=B.getD j []
    · rw [decide_eq_true c] at cl
      have s:=tbs_d_0 (A.map encR) (B.map encR) j hlt g1 g2 cl
      rw [wrap_succ (by omega)] at s
      obtain ⟨y,E,h1,h2⟩:=ih (j+1) (by omega)
      refine ⟨y,E,lop (s) (gc_eq _ rfl) (h1),?_⟩
      rw [c]
      simp only [List.cons.injEq,true_and,ne_eq]
      exact h2
    · rw [decide_eq_false c] at cl
      have s:=tbs_d_1 (A.map encR) (B.map encR) j hlt g1 g2 cl
      exact ⟨_,_,lpo (s) (c:=sub [1,1,0,1,0] B45),.inr ⟨fun e=>c (List.cons.inj e).1,rfl,rfl⟩⟩
theorem tables_ok:PrimOk Tp 45 tables45:=by
  refine primOk_pure (pol:=polL45) (fn:=Try.f45) (cd:=B45) follows_mixed soundL45 (by kernel_rfl) (by kernel_rfl) (fnok polL45.prim _ _ (by kernel_rfl)) (by kernel_rfl) ?_
  intro args res h
  obtain ⟨A,B,rfl,hq⟩:=rrF_inv h
  clear h
  split at hq
  case isFalse=>cases hq
  rename_i hk
  cases hq
  have a:=tbs_a_0 (A.map encR) (B.map encR)
  by_cases hB:A.length=B.length
  · have b:=tbs_b_0 (A.map encR) (B.map encR) (y5:=Ud) (by simp only [List.length_map]; omega)
    have c:=tbs_c_0 (A.map encR) (B.map encR) (y5:=Ud)
    obtain ⟨y,E,lp,h2⟩:=tbs_loop hk.1 hk.2 hB A.length 0 (by omega)
    rw [List.drop_zero,List.drop_zero] at h2
    rcases h2 with ⟨k1,rfl,rfl⟩ | ⟨k1,rfl,k2⟩
    · have z:=tbs_e_0 (A.map encR) (B.map encR) (y5:=.int .i64 (A.length:Int))
      have u:=sq (a) (sq (b) (sq (sq (c) (bke (c:=sub [1,1,0,1] B45) (lp)) (c:=sub [1,1,0] B45)) (z) (c:=sub [1,1] B45)) (c:=sub [1] B45)) (c:=B45)
      exact ⟨_,_,_,.bool true,u,by simp,by simp only [resultsV,res45]; rfl,by rw [decide_eq_true k1]; rfl⟩
    · have u:=sq (a) (sq (b) (sqo (sq (c) (RunsTo.block_ret (i:=0) (c:=sub [1,1,0,1] B45) (lp) (by kernel_rfl)) (c:=sub [1,1,0] B45)) (c:=sub [1,1] B45) (b:=sub [1,1,1] B45)) (c:=sub [1] B45)) (c:=B45)
      exact ⟨_,_,_,.bool false,u,by simp,by simp only [resultsV,res45,mapO,resultV,k2],by rw [decide_eq_false k1]; rfl⟩
  · have b:=tbs_b_1 (A.map encR) (B.map encR) (y5:=Ud) (by simp only [List.length_map]; omega)
    have u:=sq (a) (sqo (b) (c:=sub [1] B45) (b:=sub [1,1] B45)) (c:=B45)
    exact ⟨_,_,_,.bool false,u,by simp,by simp only [resultsV,res45]; rfl,by rw [decide_eq_false (fun e=>hB (by rw [e]))]; rfl⟩
end Go.Proofs.Ytaibmipamkaljaa
end
section
open Go Go.HL
namespace Go.Proofs.Ytaibmipamkaljaa
open Go.Proofs.Try renaming prog → Tp
open Go.HL.HV renaming undef → Ud
def prL46:FuncId → Option (List HV → Option HV):=fun g=>if g == 40 then some size40 else if g == 41 then some decoded41 else if g == 60 then some less60 else if g == 61 then some code61 else none
def polL46:Pol:={ pol with prim:=prL46 }
theorem soundL46 (n:Nat):CallSound Tp (callN Tp polL46 n):=sound_prim prL46 (fun g f h=>by
  unfold prL46 at h
  split at h
  · rename_i hg; cases h; rw [eq_of_beq hg]; exact size_ok
  split at h
  · rename_i hg; cases h; rw [eq_of_beq hg]; exact decoded_ok
  split at h
  · rename_i hg; cases h; rw [eq_of_beq hg]; exact less_ok
  split at h
  · rename_i hg; cases h; rw [eq_of_beq hg]; exact code_ok
  · cases h) n
end Go.Proofs.Ytaibmipamkaljaa
end
section
open Go Go.HL
namespace Go.Proofs.Ytaibmipamkaljaa
set_option maxRecDepth 100000
open Go.Proofs.Try renaming prog → Tp
open Go.HL.HV renaming undef → Ud
noncomputable def B46:Code:=Try.f46.body.getD .skip
abbrev env46 (v0 v1 v4 v5 v6 v7 v8 v9 v10:HV):Env:=[(0,v0),(1,v1),(4,v4),(5,v5),(6,v6),(7,v7),(8,v8),(9,v9),(10,v10)]
theorem ru_a_0 (l rw:List HV) :RT polL46 46 (sub [0] B46) [(0,.a l),(1,.a rw)] [] .normal (env46 (.a l) (.a rw) (.imm .lit 1 []) Ud Ud Ud Ud Ud Ud) [] :=
  RunsTo.hin 0 60 [] fun kf hk=>⟨_,by kernel_rfl,.nil⟩
theorem ru_b_0 (l rw:List HV)  (n:Nat) {y5 y6 y7 y8 y9 y10:HV} {sz0:Int} (g0:∀ kf,callN Tp polL46 (kf+1) 40 [.a l] []=some (.i sz0,[])) (g1:makeV Tp false 74 (.i sz0) (.i sz0) []=some (.o 0 n,[.arr 1 (List.replicate n (.bool false)) true 0])):RT polL46 46 (sub [1,0] B46) (env46 (.a l) (.a rw) (.imm .lit 1 []) y5 y6 y7 y8 y9 y10) [] .normal (env46 (.a l) (.a rw) (.imm .lit 1 []) (.o 0 n) y6 y7 y8 y9 y10) [.arr 1 (List.replicate n (.bool false)) true 0] :=
  RunsTo.hin 0 60 [⟨1,1,.i sz0,[]⟩,⟨1,2,.o 0 n,[.arr 1 (List.replicate n (.bool false)) true 0]⟩] fun kf hk=>⟨_,by kernel_rfl,(oC (g0 kf) (oC (g1) .nil))⟩
theorem ru_c_0 (l rw:List HV)  (H:Heap) (b n:Nat) {y6 y7 y8 y9 y10:HV}:RT polL46 46 (sub [1,1,0,0] B46) (env46 (.a l) (.a rw) (.imm .lit 1 []) (.o b n) y6 y7 y8 y9 y10) H .normal (env46 (.a l) (.a rw) (.imm .lit 1 []) (.o b n) (.i 0) y7 y8 y9 y10) H :=
  RunsTo.hin 0 60 [] fun kf hk=>⟨_,by kernel_rfl,.nil⟩
theorem ru_d_0 (l rw:List HV)  (H:Heap) (b n:Nat) (i:Nat) {y7 y8 y9 y10:HV}(g0:(i:Int) < (rw.length:Int)):RT polL46 46 (sub [1,1,0,1,0,0,0] B46) (env46 (.a l) (.a rw) (.imm .lit 1 []) (.o b n) (.i (i:Int)) y7 y8 y9 y10) H .normal (env46 (.a l) (.a rw) (.imm .lit 1 []) (.o b n) (.i (i:Int)) y7 y8 y9 y10) H :=
  RunsTo.hin 0 60 [⟨3,3,.bool true,H⟩] fun kf hk=>⟨_,by kernel_rfl,(oB H (decide_eq_true g0) .nil)⟩
theorem ru_d_1 (l rw:List HV)  (H:Heap) (b n:Nat) (i:Nat) {y7 y8 y9 y10:HV}(g0:¬ ((i:Int) < (rw.length:Int))):RT polL46 46 (sub [1,1,0,1,0,0,0] B46) (env46 (.a l) (.a rw) (.imm .lit 1 []) (.o b n) (.i (i:Int)) y7 y8 y9 y10) H (.exit 0) (env46 (.a l) (.a rw) (.imm .lit 1 []) (.o b n) (.i (i:Int)) y7 y8 y9 y10) H :=
  RunsTo.hin 0 60 [⟨3,3,.bool false,H⟩] fun kf hk=>⟨_,by kernel_rfl,(oB H (decide_eq_false g0) .nil)⟩
theorem ru_e_0 (l rw:List HV)  (H:Heap) (b c n i:Nat) {y7 y8 y9 y10:HV} {H0:Heap} (g0:makeV Tp false 74 (.i (n:Int)) (.i (n:Int)) H=some (.o c n,H0)):RT polL46 46 (sub [1,1,0,1,0,0,1,0,0,0] B46) (env46 (.a l) (.a rw) (.imm .lit 1 []) (.o b n) (.i (i:Int)) y7 y8 y9 y10) H .normal (env46 (.a l) (.a rw) (.imm .lit 1 []) (.o b n) (.i (i:Int)) (.o c n) y8 y9 y10) H0 :=
  RunsTo.hin 0 60 [⟨5,2,.o c n,H0⟩] fun kf hk=>⟨_,by kernel_rfl,(oC (g0) .nil)⟩
theorem ru_f_0 (l rw:List HV)  (H:Heap) (b c n i:Nat) {y8 y9 y10:HV}:RT polL46 46 (sub [1,1,0,1,0,0,1,0,0,1,0,0] B46) (env46 (.a l) (.a rw) (.imm .lit 1 []) (.o b n) (.i (i:Int)) (.o c n) y8 y9 y10) H .normal (env46 (.a l) (.a rw) (.imm .lit 1 []) (.o b n) (.i (i:Int)) (.o c n) (.i 0) y9 y10) H :=
  RunsTo.hin 0 60 [] fun kf hk=>⟨_,by kernel_rfl,.nil⟩
theorem ru_g_0 (l rw:List HV)  (H:Heap) (b c n i j:Nat) {y9 y10:HV} {H0:Heap} (g0:(j:Int) < (n:Int)) (g1:idxV Tp 74 (.o b n) (.i (j:Int))=some (.ptr b j 0 n)) (g2:loadV Tp H 4 (.ptr b j 0 n)=some (.bool true)) (g3:idxV Tp 74 (.o c n) (.i (j:Int))=some (.ptr c j 0 n)) (g4:storeV Tp H 4 (.ptr c j 0 n) (.bool true)=some H0):RT polL46 46 (sub [1,1,0,1,0,0,1,0,0,1,0,1,0,0] B46) (env46 (.a l) (.a rw) (.imm .lit 1 []) (.o b n) (.i (i:Int)) (.o c n) (.i (j:Int)) y9 y10) H .normal (env46 (.a l) (.a rw) (.imm .lit 1 []) (.o b n) (.i (i:Int)) (.o c n) (.i (IntKind.i64.wrap ((j:Int)+1))) y9 y10) H0 :=
  RunsTo.hin 0 60 [⟨7,3,.bool true,H⟩,⟨9,4,.ptr b j 0 n,H⟩,⟨9,5,.bool true,H⟩,⟨9,28,.ptr c j 0 n,H⟩,⟨9,29,.tuple [],H0⟩] fun kf hk=>⟨_,by kernel_rfl,(oB H (decide_eq_true g0) (oP H g1 (oP H g2 (oP H g3 (oS g4 .nil)))))⟩
theorem ru_g_1 (l rw:List HV)  (H:Heap) (b c n i j:Nat) {y9 y10:HV} {l0:List HV} {ls0:Int} {H0:Heap} (g0:(j:Int) < (n:Int)) (g1:idxV Tp 74 (.o b n) (.i (j:Int))=some (.ptr b j 0 n)) (g2:loadV Tp H 4 (.ptr b j 0 n)=some (.bool false)) (g3:idxV Tp 35 (.a rw) (.i (i:Int))=some (.vptr (.a l0))) (g4:∀ kf,callN Tp polL46 (kf+1) 60 [.a l,.i (j:Int),.a l0] H=some (.i ls0,H)) (g5:idxV Tp 74 (.o b n) (.i ls0)=some (.ptr b ((ls0).toNat) 0 n)) (g6:loadV Tp H 4 (.ptr b ((ls0).toNat) 0 n)=some (.bool true)) (g7:idxV Tp 74 (.o c n) (.i (j:Int))=some (.ptr c j 0 n)) (g8:storeV Tp H 4 (.ptr c j 0 n) (.bool true)=some H0):RT polL46 46 (sub [1,1,0,1,0,0,1,0,0,1,0,1,0,0] B46) (env46 (.a l) (.a rw) (.imm .lit 1 []) (.o b n) (.i (i:Int)) (.o c n) (.i (j:Int)) y9 y10) H .normal (env46 (.a l) (.a rw) (.imm .lit 1 []) (.o b n) (.i (i:Int)) (.o c n) (.i (IntKind.i64.wrap ((j:Int)+1))) y9 y10) H0 :=
  RunsTo.hin 0 60 [⟨7,3,.bool true,H⟩,⟨9,4,.ptr b j 0 n,H⟩,⟨9,5,.bool false,H⟩,⟨9,12,.vptr (.a l0),H⟩,⟨9,14,.i ls0,H⟩,⟨9,15,.ptr b ((ls0).toNat) 0 n,H⟩,⟨9,16,.bool true,H⟩,⟨9,28,.ptr c j 0 n,H⟩,⟨9,29,.tuple [],H0⟩] fun kf hk=>⟨_,by kernel_rfl,(oB H (decide_eq_true g0) (oP H g1 (oP H g2 (oP H g3 (oC (g4 kf) (oP H g5 (oP H g6 (oP H g7 (oS g8 .nil)))))))))⟩
theorem ru_g_2 (l rw:List HV)  (H:Heap) (b c n i j:Nat) {y9 y10:HV} {l0:List HV} {ls0:Int} {l1:List HV} {cd0:Int} {H0:Heap} (g0:(j:Int) < (n:Int)) (g1:idxV Tp 74 (.o b n) (.i (j:Int))=some (.ptr b j 0 n)) (g2:loadV Tp H 4 (.ptr b j 0 n)=some (.bool false)) (g3:idxV Tp 35 (.a rw) (.i (i:Int))=some (.vptr (.a l0))) (g4:∀ kf,callN Tp polL46 (kf+1) 60 [.a l,.i (j:Int),.a l0] H=some (.i ls0,H)) (g5:idxV Tp 74 (.o b n) (.i ls0)=some (.ptr b ((ls0).toNat) 0 n)) (g6:loadV Tp H 4 (.ptr b ((ls0).toNat) 0 n)=some (.bool false)) (g7:idxV Tp 35 (.a rw) (.i (i:Int))=some (.vptr (.a l1))) (g8:∀ kf,callN Tp polL46 (kf+1) 61 [.a l,.a l1] H=some (.i cd0,H)) (g9:cd0=(j:Int)) (g10:idxV Tp 74 (.o c n) (.i (j:Int))=some (.ptr c j 0 n)) (g11:storeV Tp H 4 (.ptr c j 0 n) (.bool true)=some H0):RT polL46 46 (sub [1,1,0,1,0,0,1,0,0,1,0,1,0,0] B46) (env46 (.a l) (.a rw) (.imm .lit 1 []) (.o b n) (.i (i:Int)) (.o c n) (.i (j:Int)) y9 y10) H .normal (env46 (.a l) (.a rw) (.imm .lit 1 []) (.o b n) (.i (i:Int)) (.o c n) (.i (IntKind.i64.wrap ((j:Int)+1))) y9 y10) H0 :=
  RunsTo.hin 0 60 [⟨7,3,.bool true,H⟩,⟨9,4,.ptr b j 0 n,H⟩,⟨9,5,.bool false,H⟩,⟨9,12,.vptr (.a l0),H⟩,⟨9,14,.i ls0,H⟩,⟨9,15,.ptr b ((ls0).toNat) 0 n,H⟩,⟨9,16,.bool false,H⟩,⟨9,22,.vptr (.a l1),H⟩,⟨9,24,.i cd0,H⟩,⟨9,26,.bool true,H⟩,⟨9,28,.ptr c j 0 n,H⟩,⟨9,29,.tuple [],H0⟩] fun kf hk=>⟨_,by kernel_rfl,(oB H (decide_eq_true g0) (oP H g1 (oP H g2 (oP H g3 (oC (g4 kf) (oP H g5 (oP H g6 (oP H g7 (oC (g8 kf) (oB H (decide_eq_true g9) (oP H g10 (oS g11 .nil))))))))))))⟩
theorem ru_g_3 (l rw:List HV)  (H:Heap) (b c n i j:Nat) {y9 y10:HV} {l0:List HV} {ls0:Int} {l1:List HV} {cd0:Int} {H0:Heap} (g0:(j:Int) < (n:Int)) (g1:idxV Tp 74 (.o b n) (.i (j:Int))=some (.ptr b j 0 n)) (g2:loadV Tp H 4 (.ptr b j 0 n)=some (.bool false)) (g3:idxV Tp 35 (.a rw) (.i (i:Int))=some (.vptr (.a l0))) (g4:∀ kf,callN Tp polL46 (kf+1) 60 [.a l,.i (j:Int),.a l0] H=some (.i ls0,H)) (g5:idxV Tp 74 (.o b n) (.i ls0)=some (.ptr b ((ls0).toNat) 0 n)) (g6:loadV Tp H 4 (.ptr b ((ls0).toNat) 0 n)=some (.bool false)) (g7:idxV Tp 35 (.a rw) (.i (i:Int))=some (.vptr (.a l1))) (g8:∀ kf,callN Tp polL46 (kf+1) 61 [.a l,.a l1] H=some (.i cd0,H)) (g9:¬ (cd0=(j:Int))) (g10:idxV Tp 74 (.o c n) (.i (j:Int))=some (.ptr c j 0 n)) (g11:storeV Tp H 4 (.ptr c j 0 n) (.bool false)=some H0):RT polL46 46 (sub [1,1,0,1,0,0,1,0,0,1,0,1,0,0] B46) (env46 (.a l) (.a rw) (.imm .lit 1 []) (.o b n) (.i (i:Int)) (.o c n) (.i (j:Int)) y9 y10) H .normal (env46 (.a l) (.a rw) (.imm .lit 1 []) (.o b n) (.i (i:Int)) (.o c n) (.i (IntKind.i64.wrap ((j:Int)+1))) y9 y10) H0 :=
  RunsTo.hin 0 60 [⟨7,3,.bool true,H⟩,⟨9,4,.ptr b j 0 n,H⟩,⟨9,5,.bool false,H⟩,⟨9,12,.vptr (.a l0),H⟩,⟨9,14,.i ls0,H⟩,⟨9,15,.ptr b ((ls0).toNat) 0 n,H⟩,⟨9,16,.bool false,H⟩,⟨9,22,.vptr (.a l1),H⟩,⟨9,24,.i cd0,H⟩,⟨9,26,.bool false,H⟩,⟨9,28,.ptr c j 0 n,H⟩,⟨9,29,.tuple [],H0⟩] fun kf hk=>⟨_,by kernel_rfl,(oB H (decide_eq_true g0) (oP H g1 (oP H g2 (oP H g3 (oC (g4 kf) (oP H g5 (oP H g6 (oP H g7 (oC (g8 kf) (oB H (decide_eq_false g9) (oP H g10 (oS g11 .nil))))))))))))⟩
theorem ru_g_4 (l rw:List HV)  (H:Heap) (b c n i j:Nat) {y9 y10:HV}(g0:¬ ((j:Int) < (n:Int))):RT polL46 46 (sub [1,1,0,1,0,0,1,0,0,1,0,1,0,0] B46) (env46 (.a l) (.a rw) (.imm .lit 1 []) (.o b n) (.i (i:Int)) (.o c n) (.i (j:Int)) y9 y10) H (.exit 2) (env46 (.a l) (.a rw) (.imm .lit 1 []) (.o b n) (.i (i:Int)) (.o c n) (.i (j:Int)) y9 y10) H :=
  RunsTo.hin 0 60 [⟨7,3,.bool false,H⟩] fun kf hk=>⟨_,by kernel_rfl,(oB H (decide_eq_false g0) .nil)⟩
theorem ru_h_0 (l rw:List HV)  (H:Heap) (b c n i:Nat) {y8 y9 y10:HV}:RT polL46 46 (sub [1,1,0,1,0,0,1,0,0,1,1] B46) (env46 (.a l) (.a rw) (.imm .lit 1 []) (.o b n) (.i (i:Int)) (.o c n) y8 y9 y10) H .normal (env46 (.a l) (.a rw) (.imm .lit 1 []) (.o c n) (.i (i:Int)) (.o c n) y8 y9 y10) H :=
  RunsTo.hin 0 60 [] fun kf hk=>⟨_,by kernel_rfl,.nil⟩
theorem ru_i_0 (l rw:List HV)  (H:Heap) (b n:Nat) (i:Nat) {y7 y8 y9 y10:HV}:RT polL46 46 (sub [1,1,0,1,0,0,1,1] B46) (env46 (.a l) (.a rw) (.imm .lit 1 []) (.o b n) (.i (i:Int)) y7 y8 y9 y10) H .normal (env46 (.a l) (.a rw) (.imm .lit 1 []) (.o b n) (.i (IntKind.i64.wrap ((i:Int)+1))) y7 y8 y9 y10) H :=
  RunsTo.hin 0 60 [] fun kf hk=>⟨_,by kernel_rfl,.nil⟩
theorem ru_j_0 (l rw:List HV)  (H:Heap) (b c n:Nat) {y6 y7 y8 y9 y10:HV} {H0:Heap} (g0:some (HV.sl H.length 0 0 none 0 1,H ++ [Blk.b []])=some (.s c 0,H0)):RT polL46 46 (sub [1,1,1,0] B46) (env46 (.a l) (.a rw) (.imm .lit 1 []) (.o b n) y6 y7 y8 y9 y10) H .normal (env46 (.a l) (.a rw) (.imm .lit 1 []) (.o b n) y6 y7 y8 (.s c 0) y10) H0 :=
  RunsTo.hin 0 60 [⟨11,0,.s c 0,H0⟩] fun kf hk=>⟨_,by kernel_rfl,(oC (g0) .nil)⟩
theorem ru_k_0 (l rw:List HV)  (H:Heap) (b c n z:Nat) {y6 y7 y8 y10:HV}:RT polL46 46 (sub [1,1,1,1,0,0] B46) (env46 (.a l) (.a rw) (.imm .lit 1 []) (.o b n) y6 y7 y8 (.s c z) y10) H .normal (env46 (.a l) (.a rw) (.imm .lit 1 []) (.o b n) y6 y7 y8 (.s c z) (.i 0)) H :=
  RunsTo.hin 0 60 [] fun kf hk=>⟨_,by kernel_rfl,.nil⟩
theorem ru_l_0 (l rw:List HV)  (H:Heap) (b c n z:Nat) (j nb z2:Nat) (lo:List HV) {y6 y7 y8:HV} {H0:Heap} {H1:Heap} {H2:Heap} (g0:(j:Int) < (n:Int)) (g1:idxV Tp 74 (.o b n) (.i (j:Int))=some (.ptr b j 0 n)) (g2:loadV Tp H 4 (.ptr b j 0 n)=some (.bool true)) (g3:∀ kf,callN Tp polL46 (kf+1) 41 [.a l,.i (j:Int)] H=some (.s nb z2,H0)) (g4:litV Tp true false 35 1 [(0,.s nb z2)] H0=some (.imm .lit 1 [.imm .own 1 lo],H1)) (g5:appV H1 1 24 (.s c z) [.imm .own 1 lo]=some (.sl c 0 (z+1) none (z+1) 1,H2)):RT polL46 46 (sub [1,1,1,1,0,1,0,0] B46) (env46 (.a l) (.a rw) (.imm .lit 1 []) (.o b n) y6 y7 y8 (.s c z) (.i (j:Int))) H .normal (env46 (.a l) (.a rw) (.imm .lit 1 []) (.o b n) y6 y7 y8 (.sl c 0 (z+1) none (z+1) 1) (.i (IntKind.i64.wrap ((j:Int)+1)))) H2 :=
  RunsTo.hin 0 60 [⟨13,3,.bool true,H⟩,⟨15,2,.ptr b j 0 n,H⟩,⟨15,3,.bool true,H⟩,⟨16,3,.s nb z2,H0⟩,⟨16,4,.imm .lit 1 [.imm .own 1 lo],H1⟩,⟨16,5,.sl c 0 (z+1) none (z+1) 1,H2⟩] fun kf hk=>⟨_,by kernel_rfl,(oB H (decide_eq_true g0) (oP H g1 (oP H g2 (oC (g3 kf) (oC (g4) (oC (g5) .nil))))))⟩
theorem ru_l_1 (l rw:List HV)  (H:Heap) (b c n z:Nat) (j nb z2:Nat) (lo:List HV) {y6 y7 y8:HV}(g0:(j:Int) < (n:Int)) (g1:idxV Tp 74 (.o b n) (.i (j:Int))=some (.ptr b j 0 n)) (g2:loadV Tp H 4 (.ptr b j 0 n)=some (.bool false)):RT polL46 46 (sub [1,1,1,1,0,1,0,0] B46) (env46 (.a l) (.a rw) (.imm .lit 1 []) (.o b n) y6 y7 y8 (.s c z) (.i (j:Int))) H .normal (env46 (.a l) (.a rw) (.imm .lit 1 []) (.o b n) y6 y7 y8 (.s c z) (.i (IntKind.i64.wrap ((j:Int)+1)))) H :=
  RunsTo.hin 0 60 [⟨13,3,.bool true,H⟩,⟨15,2,.ptr b j 0 n,H⟩,⟨15,3,.bool false,H⟩] fun kf hk=>⟨_,by kernel_rfl,(oB H (decide_eq_true g0) (oP H g1 (oP H g2 .nil)))⟩
theorem ru_l_2 (l rw:List HV)  (H:Heap) (b c n z:Nat) (j nb z2:Nat) (lo:List HV) {y6 y7 y8:HV}(g0:¬ ((j:Int) < (n:Int))):RT polL46 46 (sub [1,1,1,1,0,1,0,0] B46) (env46 (.a l) (.a rw) (.imm .lit 1 []) (.o b n) y6 y7 y8 (.s c z) (.i (j:Int))) H (.exit 4) (env46 (.a l) (.a rw) (.imm .lit 1 []) (.o b n) y6 y7 y8 (.s c z) (.i (j:Int))) H :=
  RunsTo.hin 0 60 [⟨13,3,.bool false,H⟩] fun kf hk=>⟨_,by kernel_rfl,(oB H (decide_eq_false g0) .nil)⟩
theorem ru_m_0 (l rw:List HV)  (H:Heap) (b c n z:Nat) {y6 y7 y8 y10:HV}:RT polL46 46 (sub [1,1,1,1,1] B46) (env46 (.a l) (.a rw) (.imm .lit 1 []) (.o b n) y6 y7 y8 (.s c z) y10) H .ret (env46 (.a l) (.a rw) (.s c z) (.o b n) y6 y7 y8 (.s c z) y10) H :=
  RunsTo.hin 0 60 [] fun kf hk=>⟨_,by kernel_rfl,.nil⟩
end Go.Proofs.Ytaibmipamkaljaa
end
section
open Go Go.HL
namespace Go.Proofs.Ytaibmipamkaljaa
open Go.Proofs.Try renaming prog → Tp
open Go.HL.HV renaming undef → Ud
theorem res46:Try.f46.results.toList=[.tmp 4]:=by kernel_rfl
def rsums46:List HV → Option HV:=lrF fun gl R=>if (newGroupT gl).2=true∧listB gl R=true then some (.own 1 ((sumsL gl (sumS (grG gl) (els gl R))).map encO)) else none
theorem gc_get {base r i:Nat} {H:Heap} (h:i < base ∨ i < r):(gc base r H)[i]?=H[i]?:=by
  unfold gc
  rw [List.getElem?_take_of_lt (by omega)]
def BG (gl:List Int) (F:List El) (T:List Bool):Prop:=T.length=(sizeT gl).toNat∧∀ c:Nat,c < (sizeT gl).toNat → T.getD c false=decide (tE gl (c:Int) ∈ F)
section
variable {gl:List Int} (hg:(newGroupT gl).2=true)
include hg
theorem tE_injC {c d:Int} (hc:0 ≤ c∧c < sizeT gl) (hd:0 ≤ d∧d < sizeT gl) (h:tE gl c=tE gl d):c=d:=by
  have e1:=(code_dec hg hc).1
  have e2:=(code_dec hg hd).1
  rw [← lst_tE hg] at e1 e2
  rw [h] at e1
  omega
theorem next_iff {x:List Int} (hx:elB gl x=true) {F:List El} (hF:∀ y ∈ F,elOk (grG gl) y) {c:Int} (hc:0 ≤ c∧c < sizeT gl):tE gl c ∈ sStep (grG gl) (eE gl x) F ↔ tE gl c ∈ F ∨ tE gl (lessC gl c x) ∈ F ∨ codeT gl x=c:=by
  have hk:=grG_ok hg
  have hxe:=eE_ok hg hx
  rw [mem_sStep,tE_less hg hx]
  constructor
  · rintro (h | ⟨u,hu,h⟩)
    · exact .inr (.inr (tE_injC hg (code_bnd hg hx) hc h.symm))
    · rcases h with h | h
      · exact .inl (by rw [h]; exact hu)
      · refine .inr (.inl ?_)
        rw [h,addT_comm,sub_add hk hxe (hF u hu)]; exact hu
  · rintro (h | h | h)
    · exact .inr ⟨_,h,.inl rfl⟩
    · exact .inr ⟨_,h,.inr (by rw [addT_comm,add_subT hk (tE_ok hg hc)])⟩
    · exact .inl (by rw [eE,h])
end
section
variable {gl:List Int} {R:List (List Int)}
abbrev ruE (gl:List Int) (R:List (List Int)) (b n:Nat) (v6 v7 v8 v9 v10:HV):Env:=env46 (.imm .arg 1 (gl.map encI)) (.imm .arg 1 (R.map encR)) (.imm .lit 1 []) (.sl b 0 n (some n) n 1) v6 v7 v8 v9 v10
theorem stTb {H:Heap} {T:List Bool} {q c b:Nat} (hb:H[b]?=some (bT T)) (hq:T.length=q) (hc:c < q) (v:Bool):storeV Tp H 4 (.ptr b c 0 q) (.bool v)=some (H.set b (bT (T.set c v))):=by
  have hi:(T.map HV.bool)[c]?=some (.bool T[c]):=by rw [List.getElem?_map,List.getElem?_eq_getElem (by omega)]; rfl
  have:=store_elem (P:=Tp) (t:=4) (b:=b) (tot:=q) (v:=.bool v) (H:=H) hb (by simp [hq]) hi rfl (by intro cs h; cases h) z4 rfl rfl rfl
  rw [this,← List.map_set]
theorem ldTb {H:Heap} {T:List Bool} {q c b:Nat} (hb:H[b]?=some (bT T)) (hq:T.length=q) (hc:c < q):loadV Tp H 4 (.ptr b c 0 q)=some (.bool (T.getD c false)) :=
  load_elem (b:=b) (els:=T.map .bool) hb (by simp [hq]) (by rw [List.getElem?_map,List.getElem?_eq_getElem (by omega)]; simp [List.getD,List.getElem?_eq_getElem (show c < T.length by omega)]) rfl a4 i4
theorem ixTb {b m i:Nat} (h:i < m):idxV Tp 74 (.sl b 0 m (some m) m 1) (.int .i64 (i:Int))=some (.ptr b i 0 m):=by
  have:=idx_sl (P:=Tp) (t:=74) (b:=b) (len:=m) (tot:=m) (cap:=some m) (ik:=.i64) (n:=(i:Int)) u74 z4 (by omega) (by omega)
  rwa [Int.toNat_natCast] at this
theorem ru_in (hg:(newGroupT gl).2=true) {F:List El} (hF:∀ y ∈ F,elOk (grG gl) y) {T:List Bool} (hT:BG gl F T) {i:Nat} (hi:i < R.length) (hx:elB gl (R.getD i [])=true) {b c:Nat} (hbc:b ≠ c):∀ k j (T7:List Bool) (H:Heap),j+k=(sizeT gl).toNat → H[b]?=some (bT T) → H[c]?=some (bT T7) → T7.length=(sizeT gl).toNat → (∀ q,q < j → T7.getD q false=decide (tE gl (q:Int) ∈ sStep (grG gl) (eE gl (R.getD i [])) F)) →
    ∃ H' T' y8,RT polL46 46 (sub [1,1,0,1,0,0,1,0,0,1,0,1,0] B46) (ruE gl R b (sizeT gl).toNat (.int .i64 (i:Int)) (.sl c 0 (sizeT gl).toNat (some (sizeT gl).toNat) (sizeT gl).toNat 1) (.int .i64 (j:Int)) Ud Ud) H (.exit 2)
      (ruE gl R b (sizeT gl).toNat (.int .i64 (i:Int)) (.sl c 0 (sizeT gl).toNat (some (sizeT gl).toNat) (sizeT gl).toNat 1) y8 Ud Ud) H'∧H'[c]?=some (bT T')∧BG gl (sStep (grG gl) (eE gl (R.getD i [])) F) T':=by
  have hs:=size_bnd hg
  intro k
  induction k with
  | zero =>
    intro j T7 H hj hb hc hl hq
    have s:=ru_g_4 (gl.map encI) (R.map encR) H b c (sizeT gl).toNat i j (y9:=Ud) (y10:=Ud) (by omega)
    exact ⟨H,T7,_,lpo (s) (c:=sub [1,1,0,1,0,0,1,0,0,1,0,1,0] B46),hc,hl,fun q h=>hq q (by omega)⟩
  | succ k ih =>
    intro j T7 H hj hb hc hl hq
    have hjn:j < (sizeT gl).toNat:=by omega
    have hjb:0 ≤ (j:Int)∧(j:Int) < sizeT gl:=⟨by omega,by omega⟩
    have hcl:c < H.length:=lt_of_get hc
    have ni:=next_iff hg hx hF hjb
    have lb:0 ≤ lessC gl (j:Int) (R.getD i [])∧lessC gl (j:Int) (R.getD i []) < sizeT gl:=code_bnd hg (less_el hg hx)
    have gR:=gr hi
    have cl:=less_at (pol':=polL46) (by kernel_rfl) (l:=gl) (x:=R.getD i []) (c:=(j:Int)) hg hjb hx H
    have cc:=code_at (pol':=polL46) (by kernel_rfl) (l:=gl) (x:=R.getD i []) (v:=.imm .arg 1 ((R.getD i []).map encI)) (H:=H) (arg_li _ _) ⟨hg,hx⟩
    have ld:=ldTb (q:=(sizeT gl).toNat) (c:=j) hb hT.1 hjn
    rw [hT.2 j hjn] at ld
    have hT2:=hT.2 (lessC gl (j:Int) (R.getD i [])).toNat (by omega)
    rw [Int.toNat_of_nonneg lb.1] at hT2
    have ld2:=ldTb (q:=(sizeT gl).toNat) (c:=(lessC gl (j:Int) (R.getD i [])).toNat) hb hT.1 (by omega)
    rw [hT2] at ld2
    have ix2:=ixTb (b:=b) (m:=(sizeT gl).toNat) (i:=(lessC gl (j:Int) (R.getD i [])).toNat) (by omega)
    rw [Int.toNat_of_nonneg lb.1] at ix2
    have ixb:=ixTb (b:=b) (m:=(sizeT gl).toNat) (i:=j) hjn
    have ixc:=ixTb (b:=c) (m:=(sizeT gl).toNat) (i:=j) hjn
    have fin:∀ v:Bool,v=decide (tE gl (j:Int) ∈ sStep (grG gl) (eE gl (R.getD i [])) F) →
        RT polL46 46 (sub [1,1,0,1,0,0,1,0,0,1,0,1,0,0] B46) (ruE gl R b (sizeT gl).toNat (.int .i64 (i:Int)) (.sl c 0 (sizeT gl).toNat (some (sizeT gl).toNat) (sizeT gl).toNat 1) (.int .i64 (j:Int)) Ud Ud) H .normal (ruE gl R b (sizeT gl).toNat (.int .i64 (i:Int)) (.sl c 0 (sizeT gl).toNat (some (sizeT gl).toNat) (sizeT gl).toNat 1) (.int .i64 (IntKind.i64.wrap ((j:Int)+1))) Ud Ud) (H.set c (bT (T7.set j v))) →
        ∃ H' T' y8,RT polL46 46 (sub [1,1,0,1,0,0,1,0,0,1,0,1,0] B46) (ruE gl R b (sizeT gl).toNat (.int .i64 (i:Int)) (.sl c 0 (sizeT gl).toNat (some (sizeT gl).toNat) (sizeT gl).toNat 1) (.int .i64 (j:Int)) Ud Ud) H (.exit 2)
        (ruE gl R b (sizeT gl).toNat (.int .i64 (i:Int)) (.sl c 0 (sizeT gl).toNat (some (sizeT gl).toNat) (sizeT gl).toNat 1) y8 Ud Ud) H'∧H'[c]?=some (bT T')∧BG gl (sStep (grG gl) (eE gl (R.getD i [])) F) T':=fun v hv s=>by
      rw [wrap_succ (by omega)] at s
      obtain ⟨H',T',y8,r,r2,r3⟩:=ih (j+1) (T7.set j v) (H.set c (bT (T7.set j v))) (by omega) (by rw [List.getElem?_set_ne (by omega)]; exact hb) (by rw [List.getElem?_set_self hcl]) (by rw [List.length_set]; exact hl) (fun q h=>by
        simp only [List.getD,List.getElem?_set]
        by_cases e:j=q
        · subst e; rw [if_pos rfl,if_pos (by omega),Option.getD_some,hv]; rfl
        · rw [if_neg e]
          have:=hq q (by omega)
          simpa only [List.getD] using this)
      exact ⟨H',T',y8,lop (s) (gc_eq _ (List.length_set ..)) (r),r2,r3⟩
    by_cases d1:tE gl (j:Int) ∈ F
    · rw [decide_eq_true d1] at ld
      exact fin true (decide_eq_true (ni.2 (.inl d1))).symm (ru_g_0 (gl.map encI) (R.map encR) H b c (sizeT gl).toNat i j (y9:=Ud) (y10:=Ud) (by omega) ixb ld ixc (stTb hc hl hjn true))
    · rw [decide_eq_false d1] at ld
      by_cases d2:tE gl (lessC gl (j:Int) (R.getD i [])) ∈ F
      · rw [decide_eq_true d2] at ld2
        exact fin true (decide_eq_true (ni.2 (.inr (.inl d2)))).symm (ru_g_1 (gl.map encI) (R.map encR) H b c (sizeT gl).toNat i j (y9:=Ud) (y10:=Ud) (by omega) ixb ld gR cl ix2 ld2 ixc (stTb hc hl hjn true))
      · rw [decide_eq_false d2] at ld2
        by_cases d3:codeT gl (R.getD i [])=(j:Int)
        · exact fin true (decide_eq_true (ni.2 (.inr (.inr d3)))).symm (ru_g_2 (gl.map encI) (R.map encR) H b c (sizeT gl).toNat i j (y9:=Ud) (y10:=Ud) (by omega) ixb ld gR cl ix2 ld2 gR cc d3 ixc (stTb hc hl hjn true))
        · refine fin false (decide_eq_false fun h=>?_).symm (ru_g_3 (gl.map encI) (R.map encR) H b c (sizeT gl).toNat i j (y9:=Ud) (y10:=Ud) (by omega) ixb ld gR cl ix2 ld2 gR cc d3 ixc (stTb hc hl hjn false))
          rcases ni.1 h with h | h | h
          · exact d1 h
          · exact d2 h
          · exact d3 h
theorem ru_out (hg:(newGroupT gl).2=true) (hR:∀ x ∈ R,elB gl x=true) (hRl:R.length ≤ 60):∀ k i (H:Heap) (b:Nat) (T:List Bool),i+k=R.length → H[b]?=some (bT T) → BG gl (sumS (grG gl) ((els gl R).take i)) T →
    ∃ H' b' T' y6 y7 y8,RT polL46 46 (sub [1,1,0,1,0] B46) (ruE gl R b (sizeT gl).toNat (.int .i64 (i:Int)) Ud Ud Ud Ud) H (.exit 0)
      (ruE gl R b' (sizeT gl).toNat y6 y7 y8 Ud Ud) H'∧H'[b']?=some (bT T')∧BG gl (sumS (grG gl) (els gl R)) T':=by
  have hs:=size_bnd hg
  have hl:(els gl R).length=R.length:=by simp only [els,List.length_map]
  intro k
  induction k with
  | zero =>
    intro i H b T hi hb hT
    have s:=ru_d_1 (gl.map encI) (R.map encR) H b (sizeT gl).toNat i (y7:=Ud) (y8:=Ud) (y9:=Ud) (y10:=Ud) (by rw [List.length_map]; omega)
    rw [List.take_of_length_le (by omega)] at hT
    exact ⟨H,b,T,_,_,_,lpo (sqo (s) (c:=sub [1,1,0,1,0,0] B46) (b:=sub [1,1,0,1,0,0,1] B46)) (c:=sub [1,1,0,1,0] B46),hb,hT⟩
  | succ k ih =>
    intro i H b T hi hb hT
    have hlt:i < R.length:=by omega
    have hx:elB gl (R.getD i [])=true:=hR _ (by rw [List.getD,List.getElem?_eq_getElem hlt]; exact List.getElem_mem _)
    have hall:∀ y ∈ (els gl R).take i,elOk (grG gl) y:=fun y hy=>by
      obtain ⟨z,hz,rfl⟩:=List.mem_map.1 (List.mem_of_mem_take hy)
      exact eE_ok hg (hR z hz)
    have hF:=sumS_ok (grG_ok hg) _ hall
    have e2:sumS (grG gl) ((els gl R).take (i+1))=sStep (grG gl) (eE gl (R.getD i [])) (sumS (grG gl) ((els gl R).take i)):=by
      have:(els gl R).take (i+1)=(els gl R).take i ++ [eE gl (R.getD i [])]:=by
        rw [List.take_add_one]
        simp [els,List.getD,List.getElem?_eq_getElem hlt]
      rw [this,sumS_app]
    have hbl:b < H.length:=lt_of_get hb
    have s1:=ru_d_0 (gl.map encI) (R.map encR) H b (sizeT gl).toNat i (y7:=Ud) (y8:=Ud) (y9:=Ud) (y10:=Ud) (by rw [List.length_map]; omega)
    have mk:=makeV_ok (P:=Tp) (H:=H) (t:=74) (n:=((sizeT gl).toNat:Int)) u74 info4 rfl rfl (by omega) (by omega) (by simp only [roomMax]; omega)
    rw [Int.toNat_natCast] at mk
    have e0:H ++ [.arr 1 (List.replicate (sizeT gl).toNat (.bool false)) true 0]=H ++ [bT (List.replicate (sizeT gl).toNat false)]:=by simp [bT]
    rw [e0] at mk
    have s2:=ru_e_0 (gl.map encI) (R.map encR) H b H.length (sizeT gl).toNat i (y7:=Ud) (y8:=Ud) (y9:=Ud) (y10:=Ud) mk
    have s3:=ru_f_0 (gl.map encI) (R.map encR) (H ++ [bT (List.replicate (sizeT gl).toNat false)]) b H.length (sizeT gl).toNat i (y8:=Ud) (y9:=Ud) (y10:=Ud)
    obtain ⟨H1,T1,y8,r1,h1,hT1⟩:=ru_in (R:=R) hg hF hT hlt hx (b:=b) (c:=H.length) (by omega) (sizeT gl).toNat 0 (List.replicate (sizeT gl).toNat false) (H ++ [bT (List.replicate (sizeT gl).toNat false)]) (by omega) (by rw [List.getElem?_append_left hbl]; exact hb) (by simp) (by simp) (fun q h=>absurd h (Nat.not_lt_zero q))
    have s4:=ru_h_0 (gl.map encI) (R.map encR) H1 b H.length (sizeT gl).toNat i (y8:=y8) (y9:=Ud) (y10:=Ud)
    have s5:=ru_i_0 (gl.map encI) (R.map encR) H1 H.length (sizeT gl).toNat i (y7:=.sl H.length 0 (sizeT gl).toNat (some (sizeT gl).toNat) (sizeT gl).toNat 1) (y8:=y8) (y9:=Ud) (y10:=Ud)
    rw [wrap_succ (by omega)] at s5
    obtain ⟨H',b',T',y6',y7',y8',r,hb',hT'⟩:=ih (i+1) (gc H.length (bndE (ruE gl R H.length (sizeT gl).toNat (.int .i64 ((i+1:Nat):Int)) Ud Ud Ud Ud)) H1) H.length T1 (by omega) (by
      rw [gc_get (.inr (by simp [bndE,bnd,bndL]))]; exact h1) (by rw [e2]; exact hT1)
    exact ⟨H',b',T',y6',y7',y8',lop (sq (s1) (sq (RunsTo.block_normal (i:=1) (c:=sub [1,1,0,1,0,0,1,0] B46) (sq (s2) (sq (sq (s3) (bke (c:=sub [1,1,0,1,0,0,1,0,0,1,0,1] B46) (lpi (e0:=(ruE gl R b (sizeT gl).toNat (.int .i64 (i:Int)) (.sl H.length 0 (sizeT gl).toNat (some (sizeT gl).toNat) (sizeT gl).toNat 1) (.int .i64 ((0:Nat):Int)) Ud Ud)) r1 (b:=sub [1,1,0,1,0,0,1,0,0,1,0,1,0,0] B46))) (c:=sub [1,1,0,1,0,0,1,0,0,1,0] B46)) (s4) (c:=sub [1,1,0,1,0,0,1,0,0,1] B46)) (c:=sub [1,1,0,1,0,0,1,0,0] B46)) (by kernel_rfl)) (s5) (c:=sub [1,1,0,1,0,0,1] B46)) (c:=sub [1,1,0,1,0,0] B46)) rfl (r),hb',hT'⟩
theorem ru_fin (hg:(newGroupT gl).2=true) {F:List El} {T:List Bool} (hT:BG gl F T) {b c:Nat} (hbc:b ≠ c):∀ k j (os:List (List Int)) (H:Heap),j+k=(sizeT gl).toNat → H[b]?=some (bT T) → H[c]?=some (bO os) → os.length ≤ j →
    ∃ H' y10,RT polL46 46 (sub [1,1,1,1,0,1,0] B46) (ruE gl R b (sizeT gl).toNat Ud Ud Ud (.sl c 0 os.length none os.length 1) (.int .i64 (j:Int))) H (.exit 4)
      (ruE gl R b (sizeT gl).toNat Ud Ud Ud (.sl c 0 (os ++ ((List.range' j k).filter fun (r:Nat)=>decide (tE gl (r:Int) ∈ F)).map fun (r:Nat)=>decT gl (r:Int)).length none (os ++ ((List.range' j k).filter fun (r:Nat)=>decide (tE gl (r:Int) ∈ F)).map fun (r:Nat)=>decT gl (r:Int)).length 1) y10) H' ∧
      H'[c]?=some (bO (os ++ ((List.range' j k).filter fun (r:Nat)=>decide (tE gl (r:Int) ∈ F)).map fun (r:Nat)=>decT gl (r:Int))):=by
  have hs:=size_bnd hg
  intro k
  induction k with
  | zero =>
    intro j os H hj hb hc ho
    have s:=ru_l_2 (gl.map encI) (R.map encR) H b c (sizeT gl).toNat os.length j 0 0 [] (y6:=Ud) (y7:=Ud) (y8:=Ud) (by omega)
    exact ⟨H,_,by simpa using lpo (s) (c:=sub [1,1,1,1,0,1,0] B46),by simpa using hc⟩
  | succ k ih =>
    intro j os H hj hb hc ho
    have hjn:j < (sizeT gl).toNat:=by omega
    have hbl:b < H.length:=lt_of_get hb
    have hcl:c < H.length:=lt_of_get hc
    have ld:=ldTb (q:=(sizeT gl).toNat) (c:=j) hb hT.1 hjn
    rw [hT.2 j hjn] at ld
    have ixb:=ixTb (b:=b) (m:=(sizeT gl).toNat) (i:=j) hjn
    rw [List.range'_succ]
    by_cases d:tE gl (j:Int) ∈ F
    · rw [decide_eq_true d] at ld
      have dc:=decoded_at (pol':=polL46) (by kernel_rfl) (l:=gl) (c:=(j:Int)) ⟨hg,by omega,by omega⟩ H
      obtain ⟨w,lt⟩:=lit_seal' (P:=Tp) (H:=H ++ [bI (decT gl (j:Int))]) (t:=35) (e:=22) (k:=1) (b:=H.length) (p:=(decT gl (j:Int)).length) (mx:=0) (bt:=24) (zv:=.imm .lit 0 []) (els:=(decT gl (j:Int)).map encI) u35 (by kernel_rfl) rfl rfl (by simp) (by simp) (ints_res _)
      have ap:=app_O (H:=(H ++ [bI (decT gl (j:Int))]).set H.length (.arr 1 ((decT gl (j:Int)).map encI) w 0)) (b:=c) (R:=os) (by rw [List.getElem?_set_ne (by omega),List.getElem?_append_left hcl]; exact hc) (by omega) (decT gl (j:Int))
      have s:=ru_l_0 (gl.map encI) (R.map encR) H b c (sizeT gl).toNat os.length j H.length (decT gl (j:Int)).length ((decT gl (j:Int)).map encI) (y6:=Ud) (y7:=Ud) (y8:=Ud) (by omega) ixb ld dc lt ap
      rw [wrap_succ (by omega)] at s
      obtain ⟨H',y10,r,r2⟩:=ih (j+1) (os ++ [decT gl (j:Int)]) (gc H.length (bndE (ruE gl R b (sizeT gl).toNat Ud Ud Ud (.sl c 0 (os.length+1) none (os.length+1) 1) (.int .i64 ((j+1:Nat):Int)))) (((H ++ [bI (decT gl (j:Int))]).set H.length (.arr 1 ((decT gl (j:Int)).map encI) w 0)).set c (.arr 1 ((os ++ [decT gl (j:Int)]).map encO) true 0))) (by omega)
        (by rw [gc_get (.inl hbl),List.getElem?_set_ne (by omega),List.getElem?_set_ne (by omega),List.getElem?_append_left hbl]; exact hb)
        (by rw [gc_get (.inl hcl),List.getElem?_set_self (by simp; omega)]) (by simp; omega)
      have e1:os ++ ((j :: List.range' (j+1) k).filter fun (r:Nat)=>decide (tE gl (r:Int) ∈ F)).map (fun (r:Nat)=>decT gl (r:Int))=os ++ [decT gl (j:Int)] ++ ((List.range' (j+1) k).filter fun (r:Nat)=>decide (tE gl (r:Int) ∈ F)).map fun (r:Nat)=>decT gl (r:Int):=by
        rw [List.filter_cons,if_pos (decide_eq_true d),List.map_cons,List.append_assoc]; rfl
      rw [e1]
      rw [List.length_append,List.length_singleton] at r
      exact ⟨H',y10,lop (s) rfl (r),r2⟩
    · rw [decide_eq_false d] at ld
      have s:=ru_l_1 (gl.map encI) (R.map encR) H b c (sizeT gl).toNat os.length j 0 0 [] (y6:=Ud) (y7:=Ud) (y8:=Ud) (by omega) ixb ld
      rw [wrap_succ (by omega)] at s
      obtain ⟨H',y10,r,r2⟩:=ih (j+1) os H (by omega) hb hc (by omega)
      have e1:((j :: List.range' (j+1) k).filter fun (r:Nat)=>decide (tE gl (r:Int) ∈ F))=(List.range' (j+1) k).filter fun (r:Nat)=>decide (tE gl (r:Int) ∈ F):=by
        rw [List.filter_cons,if_neg (by simp [d])]
      rw [e1]
      exact ⟨H',y10,lop (s) (gc_eq _ rfl) (r),r2⟩
end
theorem rsums_ok:PrimOk Tp 46 rsums46:=by
  refine primOk_pure (pol:=polL46) (fn:=Try.f46) (cd:=B46) follows_mixed soundL46 (by kernel_rfl) (by kernel_rfl) (fnok polL46.prim _ _ (by kernel_rfl)) (by kernel_rfl) ?_
  intro args res h
  obtain ⟨gl,R,rfl,hq⟩:=lrF_inv h
  clear h
  split at hq
  case isFalse=>cases hq
  rename_i hk
  cases hq
  obtain ⟨hg,hlB⟩:=hk
  obtain ⟨hR,hRl⟩:=listB_iff.1 hlB
  have hs:=size_bnd hg
  have s0:=ru_a_0 (gl.map encI) (R.map encR)
  have c40:=sizeA_at (pol':=polL46) (by kernel_rfl) (v:=.imm .arg 1 (gl.map encI)) (H:=[]) (arg_li _ _) hg
  have mk:=makeV_ok (P:=Tp) (H:=[]) (t:=74) (n:=sizeT gl) u74 info4 rfl rfl (by omega) (by omega) (by simp only [roomMax]; omega)
  have s1:=ru_b_0 (gl.map encI) (R.map encR) (sizeT gl).toNat (y5:=Ud) (y6:=Ud) (y7:=Ud) (y8:=Ud) (y9:=Ud) (y10:=Ud) c40 mk
  have e0:([.arr 1 (List.replicate (sizeT gl).toNat (.bool false)) true 0]:Heap)=[bT (List.replicate (sizeT gl).toNat false)]:=by simp [bT]
  rw [e0] at s1
  have s2:=ru_c_0 (gl.map encI) (R.map encR) [bT (List.replicate (sizeT gl).toNat false)] 0 (sizeT gl).toNat (y6:=Ud) (y7:=Ud) (y8:=Ud) (y9:=Ud) (y10:=Ud)
  obtain ⟨H,b,T,y6,y7,y8,r,hb,hT⟩:=ru_out hg hR hRl R.length 0 [bT (List.replicate (sizeT gl).toNat false)] 0 (List.replicate (sizeT gl).toNat false) (by omega) rfl ⟨by simp,fun q h=>by simp [List.getD,List.getElem?_replicate,h,sumS]⟩
  have hbl:b < H.length:=lt_of_get hb
  have s3:=ru_j_0 (gl.map encI) (R.map encR) H b H.length (sizeT gl).toNat (y6:=y6) (y7:=y7) (y8:=y8) (y9:=Ud) (y10:=Ud) (H0:=H ++ [bO []]) rfl
  have s4:=ru_k_0 (gl.map encI) (R.map encR) (H ++ [bO []]) b H.length (sizeT gl).toNat 0 (y6:=y6) (y7:=y7) (y8:=y8) (y10:=Ud)
  obtain ⟨H',y10,r2,h2⟩:=ru_fin (R:=R) hg hT (b:=b) (c:=H.length) (by omega) (sizeT gl).toNat 0 [] (H ++ [bO []]) (by omega) (by rw [List.getElem?_append_left hbl]; exact hb) (by simp) (by simp)
  rw [List.nil_append,← List.range_eq_range'] at r2 h2
  have eT:((List.range (sizeT gl).toNat).filter fun (r:Nat)=>decide (tE gl (r:Int) ∈ sumS (grG gl) (els gl R))).map (fun (r:Nat)=>decT gl (r:Int))=sumsL gl (sumS (grG gl) (els gl R)):=rfl
  rw [eT] at r2 h2
  generalize sumsL gl (sumS (grG gl) (els gl R))=S at *
  have s5:=ru_m_0 (gl.map encI) (R.map encR) H' b H.length (sizeT gl).toNat S.length (y10:=y10) (y6:=Ud) (y7:=Ud) (y8:=Ud)
  have u:=sq (s0) (sq (s1) (sq (sq (s2) (bke (c:=sub [1,1,0,1] B46) (lpi (e0:=(ruE gl R 0 (sizeT gl).toNat (.int .i64 ((0:Nat):Int)) Ud Ud Ud Ud)) r (b:=sub [1,1,0,1,0,0] B46))) (c:=sub [1,1,0] B46)) (sq (s3) (sq (sq (s4) (bke (c:=sub [1,1,1,1,0,1] B46) (lpi (e0:=(ruE gl R b (sizeT gl).toNat y6 y7 y8 (.sl H.length 0 0 none 0 1) (.int .i64 ((0:Nat):Int)))) r2 (b:=sub [1,1,1,1,0,1,0,0] B46))) (c:=sub [1,1,1,1,0] B46)) (s5) (c:=sub [1,1,1,1] B46)) (c:=sub [1,1,1] B46)) (c:=sub [1,1] B46)) (c:=sub [1] B46)) (c:=B46)
  exact ⟨_,_,_,.sl H.length 0 S.length none S.length 1,u,by simp,by simp only [resultsV,res46]; rfl,res_rs h2 rfl⟩
end Go.Proofs.Ytaibmipamkaljaa
end
section
open Go Go.HL
namespace Go.Proofs.Ytaibmipamkaljaa
open Go.Proofs.Try renaming prog → Tp
open Go.HL.HV renaming undef → Ud
def prL11:FuncId → Option (List HV → Option HV):=fun g=>if g == 14 then some list14 else if g == 33 then some table33 else if g == 25 then some bound25 else if g == 42 then some free42 else if g == 39 then some sums39 else if g == 29 then some order29 else if g == 35 then some group35 else if g == 43 then some rbound43 else if g == 36 then some list36 else if g == 28 then some zero28 else if g == 37 then some first37 else if g == 38 then some element38 else if g == 44 then some rorder44 else if g == 46 then some rsums46 else if g == 45 then some tables45 else if g == 16 then some awakeF else none
def polL11:Pol:={ pol with prim:=prL11 }
theorem soundL11 (n:Nat):CallSound Tp (callN Tp polL11 n):=sound_prim prL11 (fun g f h=>by
  unfold prL11 at h
  by_cases e14:(g == 14)=true
  · rw [if_pos e14] at h; cases h; rw [eq_of_beq e14]; exact list_ok
  rw [if_neg e14] at h
  by_cases e33:(g == 33)=true
  · rw [if_pos e33] at h; cases h; rw [eq_of_beq e33]; exact table_ok
  rw [if_neg e33] at h
  by_cases e25:(g == 25)=true
  · rw [if_pos e25] at h; cases h; rw [eq_of_beq e25]; exact bound_ok
  rw [if_neg e25] at h
  by_cases e42:(g == 42)=true
  · rw [if_pos e42] at h; cases h; rw [eq_of_beq e42]; exact free_ok
  rw [if_neg e42] at h
  by_cases e39:(g == 39)=true
  · rw [if_pos e39] at h; cases h; rw [eq_of_beq e39]; exact sums_ok
  rw [if_neg e39] at h
  by_cases e29:(g == 29)=true
  · rw [if_pos e29] at h; cases h; rw [eq_of_beq e29]; exact order_ok
  rw [if_neg e29] at h
  by_cases e35:(g == 35)=true
  · rw [if_pos e35] at h; cases h; rw [eq_of_beq e35]; exact group35_ok
  rw [if_neg e35] at h
  by_cases e43:(g == 43)=true
  · rw [if_pos e43] at h; cases h; rw [eq_of_beq e43]; exact rbound_ok
  rw [if_neg e43] at h
  by_cases e36:(g == 36)=true
  · rw [if_pos e36] at h; cases h; rw [eq_of_beq e36]; exact list36_ok
  rw [if_neg e36] at h
  by_cases e28:(g == 28)=true
  · rw [if_pos e28] at h; cases h; rw [eq_of_beq e28]; exact zero28_ok
  rw [if_neg e28] at h
  by_cases e37:(g == 37)=true
  · rw [if_pos e37] at h; cases h; rw [eq_of_beq e37]; exact first_ok
  rw [if_neg e37] at h
  by_cases e38:(g == 38)=true
  · rw [if_pos e38] at h; cases h; rw [eq_of_beq e38]; exact element38_ok
  rw [if_neg e38] at h
  by_cases e44:(g == 44)=true
  · rw [if_pos e44] at h; cases h; rw [eq_of_beq e44]; exact rorder_ok
  rw [if_neg e44] at h
  by_cases e46:(g == 46)=true
  · rw [if_pos e46] at h; cases h; rw [eq_of_beq e46]; exact rsums_ok
  rw [if_neg e46] at h
  by_cases e45:(g == 45)=true
  · rw [if_pos e45] at h; cases h; rw [eq_of_beq e45]; exact tables_ok
  rw [if_neg e45] at h
  by_cases e16:(g == 16)=true
  · rw [if_pos e16] at h; cases h; rw [eq_of_beq e16]; exact awake_prim
  rw [if_neg e16] at h
  cases h) n
end Go.Proofs.Ytaibmipamkaljaa
end
