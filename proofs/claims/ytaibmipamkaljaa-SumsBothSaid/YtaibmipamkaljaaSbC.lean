/- A part of the proof. -/
import Derived.Test.YtaibmipamkaljaaSbB
set_option linter.unusedVariables false
set_option linter.unusedSimpArgs false
set_option linter.unnecessarySimpa false
section
open Go Go.HL Go.HL.So Classical
namespace Go.Proofs.Ytaibmipamkaljaa
set_option linter.unusedSectionVars false
open Go.Proofs.Try renaming prog → Tp
open Go.HL.HV renaming undef → Ud
section
variable {α:Type} [Inhabited α] {enc:α → HV} {lt:α → α → Prop} {dom:α → Prop} {H:Heap} {db n:Nat} {cap:Option Nat}
def PdqOk (enc:α → HV) (lt:α → α → Prop) (dom:α → Prop) (H:Heap) (db n:Nat) (cap:Option Nat) (d:Nat):Prop:=∀ (a b:Nat) (lim:Int) (l:List α),b - a < d → a ≤ b → b ≤ n → 0 ≤ lim → lim ≤ 1000 → l.length=n → Dm dom l → Flo lt a b l →
  ∃ l',ClS 67 [.sl db 0 n cap n 1,.int .i64 (a:Int),.int .i64 (b:Int),.int .i64 lim] (Mm enc H db l []) (.tuple []) (Mm enc H db l' [])∧Sw a b l l'∧Sorted lt a b l'
def Out (enc:α → HV) (lt:α → α → Prop) (dom:α → Prop) (H:Heap) (db n:Nat) (cap:Option Nat) (a b:Nat) (l:List α) (x:X) (E:Env) (l':List α):Prop :=
  Sw a b l l'∧((x=.ret∧Sorted lt a b l') ∨ ((x=.normal ∨ x=.exit 1)∧∃ (a' b':Nat) (lim':Int) (bal' par':Bool) (y2 y3 y4 y5 y6 y7 y8 y9 y10:HV),E=(env67 (.sl db 0 n cap n 1) (.int .i64 (a':Int)) (.int .i64 (b':Int)) (.int .i64 lim') (.bool bal') (.bool par') y2 y3 y4 y5 y6 y7 y8 y9 y10) ∧
    b' - a' < b - a∧a ≤ a'∧a' ≤ b'∧b' ≤ b∧0 ≤ lim'∧lim' ≤ 1000∧Flo lt a' b' l'∧∀ l'',Sw a' b' l' l'' → Sorted lt a' b' l'' → Sorted lt a b l''))
theorem Out.pre {a b:Nat} {l l1 l':List α} {x:X} {E:Env} (h:Sw a b l l1) (ho:Out enc lt dom H db n cap a b l1 x E l'):Out enc lt dom H db n cap a b l x E l':=⟨h.trans ho.1,ho.2⟩
theorem Flo.part {a b a' b':Nat} {l:List α} (h:Flo lt a b l) (h1:a'=a) (h2:b' ≤ b):Flo lt a' b' l:=by
  subst h1
  exact fun h0 k h3 h4=>h h0 k h3 (by omega)
theorem join (hL:Lin lt) {a b m:Nat} {l:List α} (h1:Sorted lt a m l) (h2:Sorted lt (m+1) b l) (h3:∀ k,a ≤ k → k < m → lt (at_ l k) (at_ l m)) (h4:∀ k,m < k → k < b → ¬ lt (at_ l k) (at_ l m)):Sorted lt a b l:=by
  intro i j q1 q2 q3
  by_cases c1:j < m
  · exact h1 i j q1 q2 c1
  · by_cases c2:j=m
    · subst c2; exact hL.asy _ _ (h3 i q1 q2)
    · by_cases c3:i < m
      · exact hL.tr _ _ _ (hL.asy _ _ (h3 i q1 c3)) (h4 j (by omega) q3)
      · by_cases c4:i=m
        · subst c4; exact h4 j (by omega) q3
        · exact h2 i j (by omega) q2 q3
theorem pq_S (S:So enc lt dom H db n) (hL:Lin lt) {a b k p:Nat} {lim:Int} {bal par:Bool} {h:HV} (hd:PdqOk enc lt dom H db n cap (b - a)) (hp1:a ≤ p) (hp2:p < b) (hb:b ≤ n) (hk:k ≤ n) (hl0:0 ≤ lim) (hl1:lim ≤ 1000) {l:List α} (hl:l.length=n) (hD:Dm dom l) (hF:Flo lt a b l) :
    ∃ x E l',RT polSo 67 (sub [1,1,0,0,0,1,1,1,1,1,1,1,1] B67) (env67 (.sl db 0 n cap n 1) (.int .i64 (a:Int)) (.int .i64 (b:Int)) (.int .i64 lim) (.bool bal) (.bool par) (.int .i64 (k:Int)) (.int .i64 (p:Int)) h Ud Ud Ud Ud Ud Ud) (Mm enc H db l []) x E (Mm enc H db l' [])∧Out enc lt dom H db n cap a b l x E l':=by
  have hn:=S.nb
  obtain ⟨m,bb,l4,hc,w1,w2,w3,w4⟩:=spart_ok S (cap:=cap) (T:=[]) rfl hb hp1 hp2 hl hD
  obtain ⟨N,hN⟩:=hc.from
  have t1:=pq_n_0 N db n cap (Mm enc H db l []) 0 a b lim p (y8:=.bool bal) (y9:=.bool par) (y10:=.int .i64 (k:Int)) (y12:=h) (y13:=Ud) (y14:=Ud) (y15:=Ud) (y16:=Ud) (y17:=Ud) (y18:=Ud) hN
  have hl4:=sw_len w1 hl
  have hD4:=hD.sw w1 (by omega)
  have hF4:=hF.sw (by omega) w1
  have t2:=pq_o_0 0 db n cap (Mm enc H db l4 []) 0 a b lim (y8:=.bool bal) (y9:=.bool par) (y10:=.int .i64 (k:Int)) (y11:=.int .i64 (p:Int)) (y12:=h) (y13:=Ud) (y14:=.int .i64 (m:Int)) (y15:=.bool bb) (y16:=Ud) (y17:=Ud) (y18:=Ud)
  have t3:=pq_p_0 0 db n cap (Mm enc H db l4 []) 0 a b lim m (y8:=.bool bal) (y9:=.bool bb) (y10:=.int .i64 (k:Int)) (y11:=.int .i64 (p:Int)) (y12:=h) (y13:=Ud) (y15:=.bool bb) (y16:=Ud) (y17:=Ud) (y18:=Ud)
  have e1:IntKind.i64.wrap ((m:Int) - (a:Int))=((m - a:Nat):Int):=(by rw [wrap_id (by omega) (by omega)]; omega)
  have e2:IntKind.i64.wrap ((b:Int) - (m:Int))=((b - m:Nat):Int):=(by rw [wrap_id (by omega) (by omega)]; omega)
  rw [e1,e2] at t3
  have t4:=pq_q_0 0 db n cap (Mm enc H db l4 []) 0 a b lim k (y8:=.bool bal) (y9:=.bool bb) (y11:=.int .i64 (p:Int)) (y12:=h) (y13:=Ud) (y14:=.int .i64 (m:Int)) (y15:=.bool bb) (y16:=.int .i64 ((m - a:Nat):Int)) (y17:=.int .i64 ((b - m:Nat):Int)) (y18:=Ud)
  generalize IntKind.i64.wrap (((k:Int):Int).tdiv 8)=th at t4
  have up:∀ (x:X) (E:Env) (l':List α),RT polSo 67 (sub [1,1,0,0,0,1,1,1,1,1,1,1,1,1,1,1,1] B67) (env67 (.sl db 0 n cap n 1) (.int .i64 (a:Int)) (.int .i64 (b:Int)) (.int .i64 lim) (.bool bal) (.bool bb) (.int .i64 (k:Int)) (.int .i64 (p:Int)) h Ud (.int .i64 (m:Int)) (.bool bb) (.int .i64 ((m - a:Nat):Int)) (.int .i64 ((b - m:Nat):Int)) (.int .i64 th)) (Mm enc H db l4 []) .normal E (Mm enc H db l' []) → Out enc lt dom H db n cap a b l4 .normal E l' →
      ∃ x E l',RT polSo 67 (sub [1,1,0,0,0,1,1,1,1,1,1,1,1] B67) (env67 (.sl db 0 n cap n 1) (.int .i64 (a:Int)) (.int .i64 (b:Int)) (.int .i64 lim) (.bool bal) (.bool par) (.int .i64 (k:Int)) (.int .i64 (p:Int)) h Ud Ud Ud Ud Ud Ud) (Mm enc H db l []) x E (Mm enc H db l' [])∧Out enc lt dom H db n cap a b l x E l':=fun x E l' t ho =>
    ⟨_,E,l',sq (t1) (sq (t2) (sq (t3) (sq (t4) (t) (c:=sub [1,1,0,0,0,1,1,1,1,1,1,1,1,1,1,1] B67)) (c:=sub [1,1,0,0,0,1,1,1,1,1,1,1,1,1,1] B67)) (c:=sub [1,1,0,0,0,1,1,1,1,1,1,1,1,1] B67)) (c:=sub [1,1,0,0,0,1,1,1,1,1,1,1,1] B67),Out.pre w1 ho⟩
  by_cases c:((m - a:Nat):Int) < ((b - m:Nat):Int)
  · obtain ⟨l5,hc5,v1,v2⟩:=hd a m lim l4 (by omega) (by omega) (by omega) hl0 hl1 hl4 hD4 (hF4.part rfl (by omega))
    obtain ⟨N5,hN5⟩:=hc5.from
    have hl5:=sw_len v1 hl4
    have e3:IntKind.i64.wrap ((m:Int)+1)=((m+1:Nat):Int):=wrap_succ (by omega)
    have ho:∀ (bl:Bool),Out enc lt dom H db n cap a b l4 .normal (env67 (.sl db 0 n cap n 1) (.int .i64 ((m+1:Nat):Int)) (.int .i64 (b:Int)) (.int .i64 lim) (.bool bl) (.bool bb) (.int .i64 (k:Int)) (.int .i64 (p:Int)) h Ud (.int .i64 (m:Int)) (.bool bb) (.int .i64 ((m - a:Nat):Int)) (.int .i64 ((b - m:Nat):Int)) (.int .i64 th)) l5:=fun bl=>by
      refine ⟨v1.mono (Nat.le_refl _) (by omega),.inr ⟨.inl rfl,m+1,b,lim,bl,bb,_,_,_,_,_,_,_,_,_,rfl,by omega,by omega,by omega,Nat.le_refl _,hl0,hl1,fun _ k h1 h2=>?_,fun l6 u1 u2=>?_⟩⟩
      · rw [show m+1 - 1=m by omega,v1.out (by omega) (k:=k) (by omega),v1.out (by omega) (k:=m) (by omega)]
        exact w4 k (by omega) h2
      · have em:at_ l6 m=at_ l4 m:=(u1.out (by omega) (k:=m) (by omega)).trans (v1.out (by omega) (k:=m) (by omega))
        refine join hL (m:=m) (fun i j q1 q2 q3=>?_) u2 (fun k q1 q2=>?_) (fun k q1 q2=>?_)
        · rw [u1.out (by omega) (k:=i) (by omega),u1.out (by omega) (k:=j) (by omega)]
          exact v2 i j q1 q2 q3
        · rw [em,u1.out (by omega) (k:=k) (by omega)]
          exact v1.all (by omega) (Q:=fun x=>lt x (at_ l4 m)) (Nat.le_refl _) (Nat.le_refl _) w3 k q1 q2
        · rw [em]
          exact u1.all (by omega) (Q:=fun x=>¬ lt x (at_ l4 m)) (lo:=m+1) (hi:=b) (Nat.le_refl _) (Nat.le_refl _) (fun i h1 h2=>by
            rw [v1.out (by omega) (k:=i) (by omega)]; exact w4 i (by omega) h2) k (by omega) q2
    by_cases c2:th ≤ ((m - a:Nat):Int)
    · have t:=pq_r_0 N5 db n cap (Mm enc H db l4 []) 0 a b lim m _ _ th (y8:=.bool bal) (y9:=.bool bb) (y10:=.int .i64 (k:Int)) (y11:=.int .i64 (p:Int)) (y12:=h) (y13:=Ud) (y15:=.bool bb) c c2 hN5
      rw [e3] at t
      exact up .normal _ l5 t (ho true)
    · have t:=pq_r_1 N5 db n cap (Mm enc H db l4 []) 0 a b lim m _ _ th (y8:=.bool bal) (y9:=.bool bb) (y10:=.int .i64 (k:Int)) (y11:=.int .i64 (p:Int)) (y12:=h) (y13:=Ud) (y15:=.bool bb) c c2 hN5
      rw [e3] at t
      exact up .normal _ l5 t (ho false)
  · have hF5:Flo lt (m+1) b l4:=fun _ k h1 h2=>by rw [show m+1 - 1=m by omega]; exact w4 k (by omega) h2
    obtain ⟨l5,hc5,v1,v2⟩:=hd (m+1) b lim l4 (by omega) (by omega) hb hl0 hl1 hl4 hD4 hF5
    obtain ⟨N5,hN5⟩:=hc5.from
    have hl5:=sw_len v1 hl4
    have e3:IntKind.i64.wrap ((m:Int)+1)=((m+1:Nat):Int):=wrap_succ (by omega)
    rw [← e3] at hN5
    have ho:∀ (bl:Bool),Out enc lt dom H db n cap a b l4 .normal (env67 (.sl db 0 n cap n 1) (.int .i64 (a:Int)) (.int .i64 (m:Int)) (.int .i64 lim) (.bool bl) (.bool bb) (.int .i64 (k:Int)) (.int .i64 (p:Int)) h Ud (.int .i64 (m:Int)) (.bool bb) (.int .i64 ((m - a:Nat):Int)) (.int .i64 ((b - m:Nat):Int)) (.int .i64 th)) l5:=fun bl=>by
      have hF6:=(hF4.sw (by omega) (v1.mono (a':=a) (by omega) (Nat.le_refl _))).part (b':=m) rfl (by omega)
      refine ⟨v1.mono (by omega) (Nat.le_refl _),.inr ⟨.inl rfl,a,m,lim,bl,bb,_,_,_,_,_,_,_,_,_,rfl,by omega,Nat.le_refl _,by omega,by omega,hl0,hl1,hF6,fun l6 u1 u2=>?_⟩⟩
      have em:at_ l6 m=at_ l4 m:=(u1.out (by omega) (k:=m) (by omega)).trans (v1.out (by omega) (k:=m) (by omega))
      refine join hL (m:=m) u2 (fun i j q1 q2 q3=>?_) (fun k q1 q2=>?_) (fun k q1 q2=>?_)
      · rw [u1.out (by omega) (k:=i) (by omega),u1.out (by omega) (k:=j) (by omega)]
        exact v2 i j q1 q2 q3
      · rw [em]
        exact u1.all (by omega) (Q:=fun x=>lt x (at_ l4 m)) (lo:=a) (hi:=m) (Nat.le_refl _) (Nat.le_refl _) (fun i h1 h2=>by
            rw [v1.out (by omega) (k:=i) (by omega)]; exact w3 i h1 h2) k q1 q2
      · rw [em,u1.out (by omega) (k:=k) (by omega)]
        exact v1.all (by omega) (Q:=fun x=>¬ lt x (at_ l4 m)) (Nat.le_refl _) (Nat.le_refl _) (fun i h1 h2=>w4 i (by omega) h2) k (by omega) q2
    by_cases c2:th ≤ ((b - m:Nat):Int)
    · have t:=pq_r_2 N5 db n cap (Mm enc H db l4 []) 0 a b lim m _ _ th (y8:=.bool bal) (y9:=.bool bb) (y10:=.int .i64 (k:Int)) (y11:=.int .i64 (p:Int)) (y12:=h) (y13:=Ud) (y15:=.bool bb) c c2 hN5
      exact up .normal _ l5 t (ho true)
    · have t:=pq_r_3 N5 db n cap (Mm enc H db l4 []) 0 a b lim m _ _ th (y8:=.bool bal) (y9:=.bool bb) (y10:=.int .i64 (k:Int)) (y11:=.int .i64 (p:Int)) (y12:=h) (y13:=Ud) (y15:=.bool bb) c c2 hN5
      exact up .normal _ l5 t (ho false)
theorem pq_T (S:So enc lt dom H db n) (hL:Lin lt) {a b k p:Nat} {lim:Int} {bal par:Bool} {h:HV} (hd:PdqOk enc lt dom H db n cap (b - a)) (hp1:a ≤ p) (hp2:p < b) (hb:b ≤ n) (hk:k ≤ n) (hl0:0 ≤ lim) (hl1:lim ≤ 1000) {l:List α} (hl:l.length=n) (hD:Dm dom l) (hF:Flo lt a b l) :
    ∃ x E l',RT polSo 67 (sub [1,1,0,0,0,1,1,1,1,1,1,1] B67) (env67 (.sl db 0 n cap n 1) (.int .i64 (a:Int)) (.int .i64 (b:Int)) (.int .i64 lim) (.bool bal) (.bool par) (.int .i64 (k:Int)) (.int .i64 (p:Int)) h Ud Ud Ud Ud Ud Ud) (Mm enc H db l []) x E (Mm enc H db l' [])∧Out enc lt dom H db n cap a b l x E l':=by
  have hn:=S.nb
  by_cases c0:0 < a
  · have hp:IntKind.i64.wrap ((a:Int) - 1)=((a - 1:Nat):Int):=wrap_pred (by omega) (by omega)
    by_cases c:lt (at_ l (a - 1)) (at_ l p)
    · obtain ⟨N,hN⟩:=S.ct (T:=[]) hl rfl (hD.at (i:=a - 1) (by omega)) (hD.at (i:=p) (by omega)) c
      have t1:=pq_m_0 N db n cap (Mm enc H db l []) 0 a b lim p (y8:=.bool bal) (y9:=.bool par) (y10:=.int .i64 (k:Int)) (y12:=h) (y13:=Ud) (y14:=Ud) (y15:=Ud) (y16:=Ud) (y17:=Ud) (y18:=Ud) (by omega) (ixs hp (by omega)) (S.ld l _ _ hl (by omega)) (ixs (i:=p) rfl (by omega)) (S.ld l _ _ hl (by omega)) hN
      obtain ⟨x,E,l',t,ho⟩:=pq_S S hL (cap:=cap) (k:=k) (bal:=bal) (par:=par) (h:=h) hd hp1 hp2 hb hk hl0 hl1 hl hD hF
      exact ⟨x,E,l',sq t1 t (c:=sub [1,1,0,0,0,1,1,1,1,1,1,1] B67),ho⟩
    · obtain ⟨N,hN⟩:=S.cf (T:=[]) hl rfl (hD.at (i:=a - 1) (by omega)) (hD.at (i:=p) (by omega)) c
      obtain ⟨m,l4,hc4,w1,w2,w3,w4⟩:=peq_ok S (cap:=cap) (T:=[]) hL rfl hb hp1 hp2 hl hD
      obtain ⟨N4,hN4⟩:=hc4.from
      have t1:=pq_m_1 (N+N4) db n cap (Mm enc H db l []) 0 a b lim p (y8:=.bool bal) (y9:=.bool par) (y10:=.int .i64 (k:Int)) (y12:=h) (y13:=Ud) (y14:=Ud) (y15:=Ud) (y16:=Ud) (y17:=Ud) (y18:=Ud) (by omega) (ixs hp (by omega)) (S.ld l _ _ hl (by omega)) (ixs (i:=p) rfl (by omega)) (S.ld l _ _ hl (by omega)) (fun kf hk=>hN kf (by omega))  (fun kf hk=>hN4 kf (by omega))
      have hlow:∀ k,a ≤ k → k < b → ¬ lt (at_ l4 k) (at_ l (a - 1)):=w1.all (by omega) (Q:=fun x=>¬ lt x (at_ l (a - 1))) (Nat.le_refl _) (Nat.le_refl _) (hF c0)
      refine ⟨_,_,l4,sqo t1 (c:=sub [1,1,0,0,0,1,1,1,1,1,1,1] B67) (b:=sub [1,1,0,0,0,1,1,1,1,1,1,1,1] B67),w1,.inr ⟨.inr rfl,m,b,lim,bal,par,_,_,_,_,_,_,_,_,_,rfl,by omega,by omega,by omega,Nat.le_refl _,hl0,hl1,fun _ k h1 h2=>?_,fun l5 u1 u2=>?_⟩⟩
      · exact hL.tr _ _ _ (w3 (m - 1) (by omega) (by omega)) (hL.asy _ _ (w4 k h1 h2))
      · have hl4:=sw_len w1 hl
        have hr:∀ k,m ≤ k → k < b → lt (at_ l p) (at_ l5 k):=u1.all (by omega) (Q:=fun x=>lt (at_ l p) x) (Nat.le_refl _) (Nat.le_refl _) w4
        intro i j q1 q2 q3
        by_cases c1:j < m
        · rw [u1.out (by omega) (k:=i) (by omega),u1.out (by omega) (k:=j) (by omega)]
          exact hL.tr _ _ _ (hL.tr _ _ _ (w3 i q1 (by omega)) c) (hlow j (by omega) q3)
        · by_cases c2:i < m
          · rw [u1.out (by omega) (k:=i) (by omega)]
            exact hL.tr _ _ _ (w3 i q1 c2) (hL.asy _ _ (hr j (by omega) q3))
          · exact u2 i j (by omega) q2 q3
  · have t1:=pq_m_2 0 db n cap (Mm enc H db l []) 0 a b lim p (y8:=.bool bal) (y9:=.bool par) (y10:=.int .i64 (k:Int)) (y12:=h) (y13:=Ud) (y14:=Ud) (y15:=Ud) (y16:=Ud) (y17:=Ud) (y18:=Ud) (by omega)
    obtain ⟨x,E,l',t,ho⟩:=pq_S S hL (cap:=cap) (k:=k) (bal:=bal) (par:=par) (h:=h) hd hp1 hp2 hb hk hl0 hl1 hl hD hF
    exact ⟨x,E,l',sq t1 t (c:=sub [1,1,0,0,0,1,1,1,1,1,1,1] B67),ho⟩
theorem pq_U (S:So enc lt dom H db n) (hL:Lin lt) {a b k p:Nat} {lim h:Int} {bal par:Bool} (hd:PdqOk enc lt dom H db n cap (b - a)) (hp1:a ≤ p) (hp2:p < b) (hb:b ≤ n) (hk:k ≤ n) (hl0:0 ≤ lim) (hl1:lim ≤ 1000) {l:List α} (hl:l.length=n) (hD:Dm dom l) (hF:Flo lt a b l) :
    ∃ x E l',RT polSo 67 (sub [1,1,0,0,0,1,1,1,1,1,1] B67) (env67 (.sl db 0 n cap n 1) (.int .i64 (a:Int)) (.int .i64 (b:Int)) (.int .i64 lim) (.bool bal) (.bool par) (.int .i64 (k:Int)) (.int .i64 (p:Int)) (.int .i64 h) Ud Ud Ud Ud Ud Ud) (Mm enc H db l []) x E (Mm enc H db l' [])∧Out enc lt dom H db n cap a b l x E l':=by
  have hn:=S.nb
  have on:∀ (l3:List α),Sw a b l l3 → RT polSo 67 (sub [1,1,0,0,0,1,1,1,1,1,1,0] B67) (env67 (.sl db 0 n cap n 1) (.int .i64 (a:Int)) (.int .i64 (b:Int)) (.int .i64 lim) (.bool bal) (.bool par) (.int .i64 (k:Int)) (.int .i64 (p:Int)) (.int .i64 h) Ud Ud Ud Ud Ud Ud) (Mm enc H db l []) .normal (env67 (.sl db 0 n cap n 1) (.int .i64 (a:Int)) (.int .i64 (b:Int)) (.int .i64 lim) (.bool bal) (.bool par) (.int .i64 (k:Int)) (.int .i64 (p:Int)) (.int .i64 h) Ud Ud Ud Ud Ud Ud) (Mm enc H db l3 []) →
      ∃ x E l',RT polSo 67 (sub [1,1,0,0,0,1,1,1,1,1,1] B67) (env67 (.sl db 0 n cap n 1) (.int .i64 (a:Int)) (.int .i64 (b:Int)) (.int .i64 lim) (.bool bal) (.bool par) (.int .i64 (k:Int)) (.int .i64 (p:Int)) (.int .i64 h) Ud Ud Ud Ud Ud Ud) (Mm enc H db l []) x E (Mm enc H db l' [])∧Out enc lt dom H db n cap a b l x E l':=fun l3 w t1=>by
    obtain ⟨x,E,l',t,ho⟩:=pq_T S hL (cap:=cap) (k:=k) (bal:=bal) (par:=par) (h:=.int .i64 h) hd hp1 hp2 hb hk hl0 hl1 (sw_len w hl) (hD.sw w (by omega)) (hF.sw (by omega) w)
    exact ⟨x,E,l',sq t1 t (c:=sub [1,1,0,0,0,1,1,1,1,1,1] B67),Out.pre w ho⟩
  cases bal with
  | false=>exact on l .refl (pq_l_0 0 db n cap (Mm enc H db l []) 0 a b lim h)
  | true =>
    cases par with
    | false=>exact on l .refl (pq_k_0 0 db n cap (Mm enc H db l []) 0 a b lim h)
    | true =>
      by_cases c:h=1
      · obtain ⟨bb,l3,hc3,w1,w2⟩:=pin_ok S hL (cap:=cap) (T:=[]) rfl (a:=a) (by omega) hb hl hD hF
        obtain ⟨N3,hN3⟩:=hc3.from
        cases bb with
        | true =>
          have t1:=pq_j_0 N3 db n cap (Mm enc H db l []) 0 a b lim h (y10:=.int .i64 (k:Int)) (y11:=.int .i64 (p:Int)) (y13:=Ud) (y14:=Ud) (y15:=Ud) (y16:=Ud) (y17:=Ud) (y18:=Ud) c hN3
          exact ⟨_,_,l3,sqo t1 (c:=sub [1,1,0,0,0,1,1,1,1,1,1] B67) (b:=sub [1,1,0,0,0,1,1,1,1,1,1,1] B67),w1,.inl ⟨rfl,w2 rfl⟩⟩
        | false=>exact on l3 w1 (pq_j_1 N3 db n cap (Mm enc H db l []) 0 a b lim h c hN3)
      · exact on l .refl (pq_j_2 0 db n cap (Mm enc H db l []) 0 a b lim h c)
theorem pq_V (S:So enc lt dom H db n) (hL:Lin lt) {a b k p:Nat} {lim h:Int} {bal par:Bool} (hd:PdqOk enc lt dom H db n cap (b - a)) (hp1:a ≤ p) (hp2:p < b) (hb:b ≤ n) (hk:k ≤ n) (hl0:0 ≤ lim) (hl1:lim ≤ 1000) {l:List α} (hl:l.length=n) (hD:Dm dom l) (hF:Flo lt a b l) :
    ∃ x E l',RT polSo 67 (sub [1,1,0,0,0,1,1,1,1,1] B67) (env67 (.sl db 0 n cap n 1) (.int .i64 (a:Int)) (.int .i64 (b:Int)) (.int .i64 lim) (.bool bal) (.bool par) (.int .i64 (k:Int)) (.int .i64 (p:Int)) (.int .i64 h) Ud Ud Ud Ud Ud Ud) (Mm enc H db l []) x E (Mm enc H db l' [])∧Out enc lt dom H db n cap a b l x E l':=by
  have hn:=S.nb
  by_cases c:h=2
  · obtain ⟨l2,hc2,w⟩:=rvs_ok S (cap:=cap) (T:=[]) (a:=a) (b:=b) (by omega) hb hl
    obtain ⟨N2,hN2⟩:=hc2.from
    have t1:=pq_i_0 N2 db n cap (Mm enc H db l []) 0 a b lim p h (y8:=.bool bal) (y9:=.bool par) (y10:=.int .i64 (k:Int)) (y13:=Ud) (y14:=Ud) (y15:=Ud) (y16:=Ud) (y17:=Ud) (y18:=Ud) c hN2
    have e1:IntKind.i64.wrap ((b:Int) - 1)=((b - 1:Nat):Int):=wrap_pred (by omega) (by omega)
    have e2:IntKind.i64.wrap ((p:Int) - (a:Int))=((p - a:Nat):Int):=(by rw [wrap_id (by omega) (by omega)]; omega)
    have e3:IntKind.i64.wrap (((b - 1:Nat):Int) - ((p - a:Nat):Int))=((b - 1 - (p - a):Nat):Int):=(by rw [wrap_id (by omega) (by omega)]; omega)
    rw [e1,e2,e3] at t1
    obtain ⟨x,E,l',t,ho⟩:=pq_U S hL (cap:=cap) (k:=k) (p:=b - 1 - (p - a)) (bal:=bal) (par:=par) (h:=1) hd (by omega) (by omega) hb hk hl0 hl1 (sw_len w hl) (hD.sw w (by omega)) (hF.sw (by omega) w)
    exact ⟨x,E,l',sq t1 t (c:=sub [1,1,0,0,0,1,1,1,1,1] B67),Out.pre w ho⟩
  · have t1:=pq_i_1 0 db n cap (Mm enc H db l []) 0 a b lim p h (y8:=.bool bal) (y9:=.bool par) (y10:=.int .i64 (k:Int)) (y13:=Ud) (y14:=Ud) (y15:=Ud) (y16:=Ud) (y17:=Ud) (y18:=Ud) c
    obtain ⟨x,E,l',t,ho⟩:=pq_U S hL (cap:=cap) (k:=k) (p:=p) (bal:=bal) (par:=par) (h:=h) hd hp1 hp2 hb hk hl0 hl1 hl hD hF
    exact ⟨x,E,l',sq t1 t (c:=sub [1,1,0,0,0,1,1,1,1,1] B67),ho⟩
theorem pq_B (S:So enc lt dom H db n) (hL:Lin lt) {a b:Nat} {lim:Int} {bal par:Bool} (hd:PdqOk enc lt dom H db n cap (b - a)) (hab:a ≤ b) (hb:b ≤ n) (hl0:0 ≤ lim) (hl1:lim ≤ 1000) {l:List α} (hl:l.length=n) (hD:Dm dom l) (hF:Flo lt a b l) :
    ∃ x E l',RT polSo 67 (sub [1,1,0,0,0] B67) (env67 (.sl db 0 n cap n 1) (.int .i64 (a:Int)) (.int .i64 (b:Int)) (.int .i64 lim) (.bool bal) (.bool par) Ud Ud Ud Ud Ud Ud Ud Ud Ud) (Mm enc H db l []) x E (Mm enc H db l' [])∧Out enc lt dom H db n cap a b l x E l':=by
  have hn:=S.nb
  have t0:=pq_c_0 0 db n cap (Mm enc H db l []) 0 a b lim (y8:=.bool bal) (y9:=.bool par) (y10:=Ud) (y11:=Ud) (y12:=Ud) (y13:=Ud) (y14:=Ud) (y15:=Ud) (y16:=Ud) (y17:=Ud) (y18:=Ud)
  have e0:IntKind.i64.wrap ((b:Int) - (a:Int))=((b - a:Nat):Int):=(by rw [wrap_id (by omega) (by omega)]; omega)
  rw [e0] at t0
  by_cases c1:b - a ≤ 12
  · obtain ⟨l',hc,w1,w2⟩:=ins_ok S hL (cap:=cap) (T:=[]) rfl hab hb hl hD
    obtain ⟨N1,hN1⟩:=hc.from
    have t1:=pq_d_0 N1 db n cap (Mm enc H db l []) 0 a b lim (b - a) (y8:=.bool bal) (y9:=.bool par) (y11:=Ud) (y12:=Ud) (y13:=Ud) (y14:=Ud) (y15:=Ud) (y16:=Ud) (y17:=Ud) (y18:=Ud) (by omega) hN1
    exact ⟨_,_,l',sq (t0) (sqo (t1) (c:=sub [1,1,0,0,0,1] B67) (b:=sub [1,1,0,0,0,1,1] B67)) (c:=sub [1,1,0,0,0] B67),w1,.inl ⟨rfl,w2⟩⟩
  have t1:=pq_d_1 0 db n cap (Mm enc H db l []) 0 a b lim (b - a) (y8:=.bool bal) (y9:=.bool par) (y11:=Ud) (y12:=Ud) (y13:=Ud) (y14:=Ud) (y15:=Ud) (y16:=Ud) (y17:=Ud) (y18:=Ud) (by omega)
  by_cases c2:lim=0
  · obtain ⟨l',hc,w1,w2⟩:=heap_ok S hL (cap:=cap) (T:=[]) rfl (a:=a) (by omega) hb hl hD
    obtain ⟨N1,hN1⟩:=hc.from
    have t2:=pq_e_0 N1 db n cap (Mm enc H db l []) 0 a b lim (y8:=.bool bal) (y9:=.bool par) (y10:=.int .i64 ((b - a:Nat):Int)) (y11:=Ud) (y12:=Ud) (y13:=Ud) (y14:=Ud) (y15:=Ud) (y16:=Ud) (y17:=Ud) (y18:=Ud) c2 hN1
    exact ⟨_,_,l',sq (t0) (sq (t1) (sqo (t2) (c:=sub [1,1,0,0,0,1,1] B67) (b:=sub [1,1,0,0,0,1,1,1] B67)) (c:=sub [1,1,0,0,0,1] B67)) (c:=sub [1,1,0,0,0] B67),w1,.inl ⟨rfl,w2⟩⟩
  have t2:=pq_e_1 0 db n cap (Mm enc H db l []) 0 a b lim (y8:=.bool bal) (y9:=.bool par) (y10:=.int .i64 ((b - a:Nat):Int)) (y11:=Ud) (y12:=Ud) (y13:=Ud) (y14:=Ud) (y15:=Ud) (y16:=Ud) (y17:=Ud) (y18:=Ud) c2
  have on:∀ (lim1:Int) (l1:List α),0 ≤ lim1 → lim1 ≤ 1000 → Sw a b l l1 → RT polSo 67 (sub [1,1,0,0,0,1,1,1,0] B67) (env67 (.sl db 0 n cap n 1) (.int .i64 (a:Int)) (.int .i64 (b:Int)) (.int .i64 lim) (.bool bal) (.bool par) (.int .i64 ((b - a:Nat):Int)) Ud Ud Ud Ud Ud Ud Ud Ud) (Mm enc H db l []) .normal (env67 (.sl db 0 n cap n 1) (.int .i64 (a:Int)) (.int .i64 (b:Int)) (.int .i64 lim1) (.bool bal) (.bool par) (.int .i64 ((b - a:Nat):Int)) Ud Ud Ud Ud Ud Ud Ud Ud) (Mm enc H db l1 []) →
      ∃ x E l',RT polSo 67 (sub [1,1,0,0,0] B67) (env67 (.sl db 0 n cap n 1) (.int .i64 (a:Int)) (.int .i64 (b:Int)) (.int .i64 lim) (.bool bal) (.bool par) Ud Ud Ud Ud Ud Ud Ud Ud Ud) (Mm enc H db l []) x E (Mm enc H db l' [])∧Out enc lt dom H db n cap a b l x E l':=fun lim1 l1 hq0 hq1 w t3=>by
    have hl1':=sw_len w hl
    have hD1:=hD.sw w (by omega)
    obtain ⟨p,h,hc,p1,p2⟩:=piv_ok S (cap:=cap) (a:=a) (b:=b) (by omega) hb hl1' hD1
    obtain ⟨N1,hN1⟩:=hc.from
    have t4:=pq_h_0 N1 db n cap (Mm enc H db l1 []) 0 a b lim1 (y8:=.bool bal) (y9:=.bool par) (y10:=.int .i64 ((b - a:Nat):Int)) (y11:=Ud) (y12:=Ud) (y13:=Ud) (y14:=Ud) (y15:=Ud) (y16:=Ud) (y17:=Ud) (y18:=Ud) hN1
    obtain ⟨x,E,l',t,ho⟩:=pq_V S hL (cap:=cap) (k:=b - a) (p:=p) (bal:=bal) (par:=par) (h:=h) hd p1 p2 hb (by omega) hq0 hq1 hl1' hD1 (hF.sw (by omega) w)
    have t5:=sq t4 t (c:=sub [1,1,0,0,0,1,1,1,1] B67)
    have t6:=sq t3 t5 (c:=sub [1,1,0,0,0,1,1,1] B67)
    have t7:=sq t2 t6 (c:=sub [1,1,0,0,0,1,1] B67)
    have t8:=sq t1 t7 (c:=sub [1,1,0,0,0,1] B67)
    exact ⟨x,E,l',sq t0 t8 (c:=sub [1,1,0,0,0] B67),Out.pre w ho⟩
  cases bal with
  | true=>exact on lim l hl0 hl1 .refl (pq_f_0 0 db n cap (Mm enc H db l []) 0 a b lim)
  | false =>
    obtain ⟨l1,hc,w⟩:=brk_ok S (cap:=cap) (a:=a) (b:=b) (by omega) hb hl
    obtain ⟨N1,hN1⟩:=hc.from
    have t3:=pq_g_0 N1 db n cap (Mm enc H db l []) 0 a b lim (y9:=.bool par) (y10:=.int .i64 ((b - a:Nat):Int)) (y11:=Ud) (y12:=Ud) (y13:=Ud) (y14:=Ud) (y15:=Ud) (y16:=Ud) (y17:=Ud) (y18:=Ud) hN1
    rw [wrap_id (n:=lim - 1) (by omega) (by omega)] at t3
    exact on (lim - 1) l1 (by omega) (by omega) w t3
theorem pq_loop (S:So enc lt dom H db n) (hL:Lin lt):∀ (d:Nat) (a b:Nat) (lim:Int) (bal par:Bool) (l:List α),b - a < d → PdqOk enc lt dom H db n cap (b - a) → a ≤ b → b ≤ n → 0 ≤ lim → lim ≤ 1000 → l.length=n → Dm dom l → Flo lt a b l →
    ∃ E l',RT polSo 67 (sub [1,1,0] B67) (env67 (.sl db 0 n cap n 1) (.int .i64 (a:Int)) (.int .i64 (b:Int)) (.int .i64 lim) (.bool bal) (.bool par) Ud Ud Ud Ud Ud Ud Ud Ud Ud) (Mm enc H db l []) .ret E (Mm enc H db l' [])∧Sw a b l l'∧Sorted lt a b l':=by
  have hn:=S.nb
  intro d
  induction d with
  | zero=>intro a b lim bal par l hd; omega
  | succ d ih =>
    intro a b lim bal par l hd hP hab hb h0 h1 hl hD hF
    obtain ⟨x,E,l1,t,w,ho⟩:=pq_B S hL (cap:=cap) (bal:=bal) (par:=par) hP hab hb h0 h1 hl hD hF
    rcases ho with ⟨rfl,hs⟩ | ⟨hx,a',b',lim',bal',par',y2,y3,y4,y5,y6,y7,y8,y9,y10,rfl,q1,q2,q3,q4,q5,q6,q7,q8⟩
    · exact ⟨_,l1,lpo (RunsTo.block_ret (i:=1) (c:=sub [1,1,0,0] B67) t (by kernel_rfl)),w,hs⟩
    · have st:RT polSo 67 (sub [1,1,0,0] B67) (env67 (.sl db 0 n cap n 1) (.int .i64 (a:Int)) (.int .i64 (b:Int)) (.int .i64 lim) (.bool bal) (.bool par) Ud Ud Ud Ud Ud Ud Ud Ud Ud) (Mm enc H db l []) .normal (env67 (.sl db 0 n cap n 1) (.int .i64 (a':Int)) (.int .i64 (b':Int)) (.int .i64 lim') (.bool bal') (.bool par') y2 y3 y4 y5 y6 y7 y8 y9 y10) (Mm enc H db l1 []):=by
        rcases hx with rfl | rfl
        · exact RunsTo.block_normal (i:=1) t (by kernel_rfl)
        · exact bke t
      have hl1:=sw_len w hl
      obtain ⟨E,l2,r,v1,v2⟩:=ih a' b' lim' bal' par' l1 (by omega) (fun a2 b2 lim2 l2 g1=>hP a2 b2 lim2 l2 (by omega)) q3 (by omega) q5 q6 hl1 (hD.sw w (by omega)) q7
      exact ⟨E,l2,lop (st) (gcM _ _ _ _ _ rfl) (r),w.trans (v1.mono q2 q4),q8 l2 v1 v2⟩
theorem pdq_of (S:So enc lt dom H db n) (hL:Lin lt) {a b:Nat} {lim:Int} {l:List α} (hP:PdqOk enc lt dom H db n cap (b - a)) (hab:a ≤ b) (hb:b ≤ n) (h0:0 ≤ lim) (h1:lim ≤ 1000) (hl:l.length=n) (hD:Dm dom l) (hF:Flo lt a b l) :
    ∃ l',ClS 67 [.sl db 0 n cap n 1,.int .i64 (a:Int),.int .i64 (b:Int),.int .i64 lim] (Mm enc H db l []) (.tuple []) (Mm enc H db l' [])∧Sw a b l l'∧Sorted lt a b l':=by
  obtain ⟨E,l',r,q⟩:=pq_loop S hL (cap:=cap) _ a b lim true true l (Nat.lt_succ_self _) hP hab hb h0 h1 hl hD hF
  have t0:=pq_a_0 0 db n cap (Mm enc H db l []) 0 a b lim
  have t1:=pq_b_0 0 db n cap (Mm enc H db l []) 0 a b lim (y8:=.bool true) (y9:=Ud) (y10:=Ud) (y11:=Ud) (y12:=Ud) (y13:=Ud) (y14:=Ud) (y15:=Ud) (y16:=Ud) (y17:=Ud) (y18:=Ud)
  have t:=sq (t0) (sq (t1) (RunsTo.block_ret (i:=0) (c:=sub [1,1] B67) (r) (by kernel_rfl)) (c:=sub [1] B67)) (c:=B67)
  have hc:=CallsTo.shared (P:=Tp) (pol:=polSo) (g:=67) (fn:=Try.f67) (cd:=B67) (args:=[.sl db 0 n cap n 1,.int .i64 (a:Int),.int .i64 (b:Int),.int .i64 lim]) (v:=.tuple []) (by kernel_rfl) (by kernel_rfl) (by kernel_rfl) (by kernel_rfl) t (by kernel_rfl) (by simp) (by kernel_rfl)
  rw [gcM _ _ _ _ _ rfl] at hc
  exact ⟨l',hc,q⟩
theorem pdq_all (S:So enc lt dom H db n) (hL:Lin lt):∀ d,PdqOk enc lt dom H db n cap d
  | 0,_,_,_,_,h=>by omega
  | d+1,a,b,lim,l,h=>fun hab hb h0 h1 hl hD hF=>pdq_of S hL (fun a2 b2 lim2 l2 g=>pdq_all S hL d a2 b2 lim2 l2 (by omega)) hab hb h0 h1 hl hD hF
theorem pdq_ok (S:So enc lt dom H db n) (hL:Lin lt) {lim:Int} (h0:0 ≤ lim) (h1:lim ≤ 1000) {l:List α} (hl:l.length=n) (hD:Dm dom l) :
    ∃ l',ClS 67 [.sl db 0 n cap n 1,.int .i64 0,.int .i64 (n:Int),.int .i64 lim] (Mm enc H db l []) (.tuple []) (Mm enc H db l' [])∧l'.Perm l∧Sorted lt 0 n l':=by
  obtain ⟨l',hc,w,hs⟩:=pdq_all S hL (cap:=cap) (n+1) 0 n lim l (by omega) (Nat.zero_le _) (Nat.le_refl _) h0 h1 hl hD (fun h=>by omega)
  exact ⟨l',hc,w.perm (by omega),hs⟩
end
end Go.Proofs.Ytaibmipamkaljaa
end
section
open Go Go.HL
namespace Go.Proofs.Ytaibmipamkaljaa
set_option maxRecDepth 100000
open Go.Proofs.Try renaming prog → Tp
open Go.HL.HV renaming undef → Ud
noncomputable def B54:Code:=Try.f54.body.getD .skip
abbrev env54 (v0 v2 v3 v4 v5:HV):Env:=[(0,v0),(2,v2),(3,v3),(4,v4),(5,v5)]
theorem cm_a_0 (b n:Nat) (H:Heap) :RT polSo 54 (sub [0] B54) [(0,.sl b 0 n none n 1)] H .normal (env54 (.sl b 0 n none n 1) (.imm .lit 1 []) Ud Ud Ud) H :=
  RunsTo.hin 0 60 [] fun kf hk=>⟨_,by kernel_rfl,.nil⟩
theorem cm_b_0 (b n:Nat) (H:Heap)  {y3 y4 y5:HV}(g0:(n:Int) < 2):RT polSo 54 (sub [1,0] B54) (env54 (.sl b 0 n none n 1) (.imm .lit 1 []) y3 y4 y5) H .ret (env54 (.sl b 0 n none n 1) (.sl b 0 n none n 1) y3 y4 y5) H :=
  RunsTo.hin 0 60 [⟨1,2,.bool true,H⟩] fun kf hk=>⟨_,by kernel_rfl,(oB H (decide_eq_true g0) .nil)⟩
theorem cm_b_1 (b n:Nat) (H:Heap)  {y3 y4 y5:HV}(g0:¬ ((n:Int) < 2)):RT polSo 54 (sub [1,0] B54) (env54 (.sl b 0 n none n 1) (.imm .lit 1 []) y3 y4 y5) H .normal (env54 (.sl b 0 n none n 1) (.imm .lit 1 []) y3 y4 y5) H :=
  RunsTo.hin 0 60 [⟨1,2,.bool false,H⟩] fun kf hk=>⟨_,by kernel_rfl,(oB H (decide_eq_false g0) .nil)⟩
theorem cm_c_0 (b n:Nat) (H:Heap)  {y3 y4 y5:HV}:RT polSo 54 (sub [1,1,0,0] B54) (env54 (.sl b 0 n none n 1) (.imm .lit 1 []) y3 y4 y5) H .normal (env54 (.sl b 0 n none n 1) (.imm .lit 1 []) (.i 1) y4 y5) H :=
  RunsTo.hin 0 60 [] fun kf hk=>⟨_,by kernel_rfl,.nil⟩
theorem cm_d_0 (b n:Nat) (H:Heap) (k:Nat) {y4 y5:HV}(g0:(k:Int) < (n:Int)):RT polSo 54 (sub [1,1,0,1,0,0,0] B54) (env54 (.sl b 0 n none n 1) (.imm .lit 1 []) (.i (k:Int)) y4 y5) H .normal (env54 (.sl b 0 n none n 1) (.imm .lit 1 []) (.i (k:Int)) y4 y5) H :=
  RunsTo.hin 0 60 [⟨4,3,.bool true,H⟩] fun kf hk=>⟨_,by kernel_rfl,(oB H (decide_eq_true g0) .nil)⟩
theorem cm_d_1 (b n:Nat) (H:Heap) (k:Nat) {y4 y5:HV}(g0:¬ ((k:Int) < (n:Int))):RT polSo 54 (sub [1,1,0,1,0,0,0] B54) (env54 (.sl b 0 n none n 1) (.imm .lit 1 []) (.i (k:Int)) y4 y5) H (.exit 0) (env54 (.sl b 0 n none n 1) (.imm .lit 1 []) (.i (k:Int)) y4 y5) H :=
  RunsTo.hin 0 60 [⟨4,3,.bool false,H⟩] fun kf hk=>⟨_,by kernel_rfl,(oB H (decide_eq_false g0) .nil)⟩
theorem cm_e_0 (b n:Nat) (H:Heap) (k:Nat) {y4 y5:HV} {x0:Int} {x1:Int} (g0:idxV Tp 22 (.sl b 0 n none n 1) (.i (k:Int))=some (.ptr b k 0 n)) (g1:loadV Tp H 3 (.ptr b k 0 n)=some (.i x0)) (g2:idxV Tp 22 (.sl b 0 n none n 1) (.i (IntKind.i64.wrap ((k:Int) - 1)))=some (.ptr b (k - 1) 0 n)) (g3:loadV Tp H 3 (.ptr b (k - 1) 0 n)=some (.i x1)) (g4:x0=x1):RunsTo Tp polSo 54 (sub [1,1,0,1,0,0,1,0,0,0] B54) (env54 (.sl b 0 n none n 1) (.imm .lit 1 []) (.i (k:Int)) y4 y5) H .normal [0,2,3,4,5,25] [(0,.sl b 0 n none n 1),(2,.imm .lit 1 []),(3,.i (k:Int)),(4,y4),(5,y5),(25,.bool true)] H :=
  RunsTo.hin 0 60 [⟨6,2,.ptr b k 0 n,H⟩,⟨6,3,.i x0,H⟩,⟨6,7,.ptr b (k - 1) 0 n,H⟩,⟨6,8,.i x1,H⟩,⟨6,9,.bool true,H⟩] fun kf hk=>⟨_,by kernel_rfl,(oP H g0 (oP H g1 (oP H g2 (oP H g3 (oB H (decide_eq_true g4) .nil)))))⟩
theorem cm_e_1 (b n:Nat) (H:Heap) (k:Nat) {y4 y5:HV} {x0:Int} {x1:Int} (g0:idxV Tp 22 (.sl b 0 n none n 1) (.i (k:Int))=some (.ptr b k 0 n)) (g1:loadV Tp H 3 (.ptr b k 0 n)=some (.i x0)) (g2:idxV Tp 22 (.sl b 0 n none n 1) (.i (IntKind.i64.wrap ((k:Int) - 1)))=some (.ptr b (k - 1) 0 n)) (g3:loadV Tp H 3 (.ptr b (k - 1) 0 n)=some (.i x1)) (g4:¬ (x0=x1)):RunsTo Tp polSo 54 (sub [1,1,0,1,0,0,1,0,0,0] B54) (env54 (.sl b 0 n none n 1) (.imm .lit 1 []) (.i (k:Int)) y4 y5) H .normal [0,2,3,4,5,25] [(0,.sl b 0 n none n 1),(2,.imm .lit 1 []),(3,.i (k:Int)),(4,y4),(5,y5),(25,.bool false)] H :=
  RunsTo.hin 0 60 [⟨6,2,.ptr b k 0 n,H⟩,⟨6,3,.i x0,H⟩,⟨6,7,.ptr b (k - 1) 0 n,H⟩,⟨6,8,.i x1,H⟩,⟨6,9,.bool false,H⟩] fun kf hk=>⟨_,by kernel_rfl,(oP H g0 (oP H g1 (oP H g2 (oP H g3 (oB H (decide_eq_false g4) .nil)))))⟩
theorem cm_f_0 (b n:Nat) (H:Heap) (k:Nat) {y4 y5:HV}(g0:sliceV Tp 22 (.sl b 0 n none n 1) (some (.i (k:Int))) none none=some (.sl b k (n - k) none n 1)):RT polSo 54 (sub [1,1,0,1,0,0,1,0,0,1,0,0] B54) (env54 (.sl b 0 n none n 1) (.imm .lit 1 []) (.i (k:Int)) y4 y5) H .normal (env54 (.sl b 0 n none n 1) (.imm .lit 1 []) (.i (k:Int)) (.sl b k (n - k) none n 1) y5) H :=
  RunsTo.hin 0 60 [⟨7,2,.sl b k (n - k) none n 1,H⟩] fun kf hk=>⟨_,by kernel_rfl,(oP H g0 .nil)⟩
theorem cm_g_0 (b n:Nat) (H:Heap) (k m r:Nat) {y5:HV}:RT polSo 54 (sub [1,1,0,1,0,0,1,0,0,1,0,1,0,0] B54) (env54 (.sl b 0 n none n 1) (.imm .lit 1 []) (.i (k:Int)) (.sl b m r none n 1) y5) H .normal (env54 (.sl b 0 n none n 1) (.imm .lit 1 []) (.i (k:Int)) (.sl b m r none n 1) (.i 1)) H :=
  RunsTo.hin 0 60 [] fun kf hk=>⟨_,by kernel_rfl,.nil⟩
theorem cm_h_0 (b n:Nat) (H:Heap) (k m r j:Nat) {x0:Int} {x1:Int} (g0:(j:Int) < (r:Int)) (g1:idxV Tp 22 (.sl b m r none n 1) (.i (j:Int))=some (.ptr b (m+j) 0 n)) (g2:loadV Tp H 3 (.ptr b (m+j) 0 n)=some (.i x0)) (g3:idxV Tp 22 (.sl b m r none n 1) (.i (IntKind.i64.wrap ((j:Int) - 1)))=some (.ptr b (m+(j - 1)) 0 n)) (g4:loadV Tp H 3 (.ptr b (m+(j - 1)) 0 n)=some (.i x1)) (g5:x0=x1):RT polSo 54 (sub [1,1,0,1,0,0,1,0,0,1,0,1,0,1,0,0] B54) (env54 (.sl b 0 n none n 1) (.imm .lit 1 []) (.i (k:Int)) (.sl b m r none n 1) (.i (j:Int))) H .normal (env54 (.sl b 0 n none n 1) (.imm .lit 1 []) (.i (k:Int)) (.sl b m r none n 1) (.i (IntKind.i64.wrap ((j:Int)+1)))) H :=
  RunsTo.hin 0 60 [⟨9,3,.bool true,H⟩,⟨11,2,.ptr b (m+j) 0 n,H⟩,⟨11,3,.i x0,H⟩,⟨11,7,.ptr b (m+(j - 1)) 0 n,H⟩,⟨11,8,.i x1,H⟩,⟨11,9,.bool false,H⟩] fun kf hk=>⟨_,by kernel_rfl,(oB H (decide_eq_true g0) (oP H g1 (oP H g2 (oP H g3 (oP H g4 (oB H (congrArg not (decide_eq_true g5)) .nil))))))⟩
theorem cm_h_1 (b n:Nat) (H:Heap) (k m r j:Nat) {x0:Int} {x1:Int} {x2:Int} {H0:Heap} (g0:(j:Int) < (r:Int)) (g1:idxV Tp 22 (.sl b m r none n 1) (.i (j:Int))=some (.ptr b (m+j) 0 n)) (g2:loadV Tp H 3 (.ptr b (m+j) 0 n)=some (.i x0)) (g3:idxV Tp 22 (.sl b m r none n 1) (.i (IntKind.i64.wrap ((j:Int) - 1)))=some (.ptr b (m+(j - 1)) 0 n)) (g4:loadV Tp H 3 (.ptr b (m+(j - 1)) 0 n)=some (.i x1)) (g5:¬ (x0=x1)) (g6:idxV Tp 22 (.sl b m r none n 1) (.i (j:Int))=some (.ptr b (m+j) 0 n)) (g7:loadV Tp H 3 (.ptr b (m+j) 0 n)=some (.i x2)) (g8:idxV Tp 22 (.sl b 0 n none n 1) (.i (k:Int))=some (.ptr b k 0 n)) (g9:storeV Tp H 3 (.ptr b k 0 n) (.i x2)=some H0):RT polSo 54 (sub [1,1,0,1,0,0,1,0,0,1,0,1,0,1,0,0] B54) (env54 (.sl b 0 n none n 1) (.imm .lit 1 []) (.i (k:Int)) (.sl b m r none n 1) (.i (j:Int))) H .normal (env54 (.sl b 0 n none n 1) (.imm .lit 1 []) (.i (IntKind.i64.wrap ((k:Int)+1))) (.sl b m r none n 1) (.i (IntKind.i64.wrap ((j:Int)+1)))) H0 :=
  RunsTo.hin 0 60 [⟨9,3,.bool true,H⟩,⟨11,2,.ptr b (m+j) 0 n,H⟩,⟨11,3,.i x0,H⟩,⟨11,7,.ptr b (m+(j - 1)) 0 n,H⟩,⟨11,8,.i x1,H⟩,⟨11,9,.bool true,H⟩,⟨12,4,.ptr b (m+j) 0 n,H⟩,⟨12,5,.i x2,H⟩,⟨12,6,.ptr b k 0 n,H⟩,⟨12,7,.tuple [],H0⟩] fun kf hk=>⟨_,by kernel_rfl,(oB H (decide_eq_true g0) (oP H g1 (oP H g2 (oP H g3 (oP H g4 (oB H (congrArg not (decide_eq_false g5)) (oP H g6 (oP H g7 (oP H g8 (oS g9 .nil))))))))))⟩
theorem cm_h_2 (b n:Nat) (H:Heap) (k m r j:Nat)(g0:¬ ((j:Int) < (r:Int))):RT polSo 54 (sub [1,1,0,1,0,0,1,0,0,1,0,1,0,1,0,0] B54) (env54 (.sl b 0 n none n 1) (.imm .lit 1 []) (.i (k:Int)) (.sl b m r none n 1) (.i (j:Int))) H (.exit 2) (env54 (.sl b 0 n none n 1) (.imm .lit 1 []) (.i (k:Int)) (.sl b m r none n 1) (.i (j:Int))) H :=
  RunsTo.hin 0 60 [⟨9,3,.bool false,H⟩] fun kf hk=>⟨_,by kernel_rfl,(oB H (decide_eq_false g0) .nil)⟩
theorem cm_i_0 (b n:Nat) (H:Heap) (k m r:Nat) {y5:HV} {H0:Heap} (g0:sliceV Tp 22 (.sl b 0 n none n 1) (some (.i (k:Int))) none none=some (.sl b k (n - k) none n 1)) (g1:clearV Tp H 22 (.sl b k (n - k) none n 1)=some (.tuple [],H0)) (g2:sliceV Tp 22 (.sl b 0 n none n 1) none (some (.i (k:Int))) none=some (.sl b 0 k none n 1)):RT polSo 54 (sub [1,1,0,1,0,0,1,0,0,1,0,1,1] B54) (env54 (.sl b 0 n none n 1) (.imm .lit 1 []) (.i (k:Int)) (.sl b m r none n 1) y5) H .ret (env54 (.sl b 0 n none n 1) (.sl b 0 k none n 1) (.i (k:Int)) (.sl b m r none n 1) y5) H0 :=
  RunsTo.hin 0 60 [⟨14,2,.sl b k (n - k) none n 1,H⟩,⟨14,3,.tuple [],H0⟩,⟨15,2,.sl b 0 k none n 1,H0⟩] fun kf hk=>⟨_,by kernel_rfl,(oP H g0 (oC (g1) (oP H0 g2 .nil)))⟩
theorem cm_j_0 (b n:Nat) (H:Heap) (k:Nat) {y4 y5:HV}:RT polSo 54 (sub [1,1,0,1,0,0,1,1] B54) (env54 (.sl b 0 n none n 1) (.imm .lit 1 []) (.i (k:Int)) y4 y5) H .normal (env54 (.sl b 0 n none n 1) (.imm .lit 1 []) (.i (IntKind.i64.wrap ((k:Int)+1))) y4 y5) H :=
  RunsTo.hin 0 60 [] fun kf hk=>⟨_,by kernel_rfl,.nil⟩
theorem cm_k_0 (b n:Nat) (H:Heap) (k:Nat) {y4 y5:HV}:RT polSo 54 (sub [1,1,1] B54) (env54 (.sl b 0 n none n 1) (.imm .lit 1 []) (.i (k:Int)) y4 y5) H .ret (env54 (.sl b 0 n none n 1) (.sl b 0 n none n 1) (.i (k:Int)) y4 y5) H :=
  RunsTo.hin 0 60 [] fun kf hk=>⟨_,by kernel_rfl,.nil⟩
end Go.Proofs.Ytaibmipamkaljaa
end
section
open Go Go.HL Go.HL.So Classical
namespace Go.Proofs.Ytaibmipamkaljaa
open Go.Proofs.Try renaming prog → Tp
open Go.HL.HV renaming undef → Ud
theorem ltI_lin:Lin (fun a b:Int=>a < b):=⟨fun x y z (h1:¬ y < x) (h2:¬ z < y)=>show ¬ z < x by omega,fun x y (h:x < y)=>show ¬ y < x by omega⟩
theorem So.int {H:Heap} {db n:Nat} (hn:n ≤ 60000) (hd:db < H.length) (hx:mxs H ≤ H.length):So encI (fun a b:Int=>a < b) (fun _=>True) H db n:=by
  have hb:∀ (l:List Int) (T:Heap),(Mm encI H db l T)[db]?=some (bI l):=fun l T=>by
    unfold Mm
    rw [List.getElem?_append_left (by simpa using hd),List.getElem?_set_self hd]
    rfl
  refine ⟨hn,hd,hx,fun l T i hl hi=>?_,fun l T i x hl hi=>?_,fun l T x y hl hT _ _=>?_⟩
  · have:=load_out (hb l T) (y:=i) (by omega)
    rw [hl] at this
    exact this
  · have:=store_out (hb l T) (y:=i) (by omega) x
    rw [hl] at this
    show storeV Tp (Mm encI H db l T) 3 (.ptr db i 0 n) (.int .i64 x)=_
    rw [this]
    congr 1
    unfold Mm
    rw [List.set_append_left _ _ (by simpa using hd),List.set_set]
    rfl
  · refine ⟨0,fun kf _=>?_⟩
    rw [prim_call (pol:=polSo) (g:=78) (F:=less78) (by kernel_rfl) (rs:=[encI x,encI y]) (by simp only [encI]; rfl) (res:=.bool (decide (x < y))) (by simp only [encI,less78])]
    simp only [recv,recvVal,recvCell]
    by_cases c:x < y
    · simp [c]
    · simp [c]
theorem Mm_self {H:Heap} {db:Nat} {l:List Int} (h:H[db]?=some (bI l)):Mm encI H db l []=H:=by
  unfold Mm
  rw [List.append_nil]
  apply List.ext_getElem?
  intro i
  rw [List.getElem?_set]
  split
  · rename_i e
    subst e
    rw [if_pos (lt_of_get h),h]; rfl
  · rfl
theorem sortI_ok {H:Heap} {db n:Nat} {cap:Option Nat} {l:List Int} (hn:n ≤ 60000) (hl:l.length=n) (hb:H[db]?=some (bI l)) (hx:mxs H ≤ H.length) :
    ∃ l',ClS 53 [.sl db 0 n cap n 1] H (.tuple []) (H.set db (bI l'))∧l'.Perm l∧Sorted (fun a b:Int=>a < b) 0 l'.length l':=by
  have hd:=lt_of_get hb
  have S:=So.int (n:=n) hn hd hx
  have hlen:=lenN_ok (x:=n) (by omega)
  obtain ⟨l',hc,h1,h2⟩:=pdq_ok S ltI_lin (cap:=cap) (lim:=(lenN n:Int)) (by omega) (by omega) hl (fun _ _=>trivial)
  obtain ⟨N,hN⟩:=hc.from
  rw [Mm_self hb] at hN
  have hu:IntKind.u64.wrap (n:Int)=(n:Int):=by rw [wrapU64]; omega
  have t:=st_a_0 N db n cap H 0 (m0:=(lenN n:Int)) (H0:=H) (fun kf _=>by
    rw [hu,prim_call (pol:=polSo) (g:=68) (F:=len82) (by kernel_rfl) (rs:=[.int .u64 (n:Int)]) rfl (res:=.int .i64 (lenN n:Int)) (by simp only [len82]; rw [if_pos (by omega),Int.toNat_natCast])]; rfl) hN
  have hc2:=CallsTo.shared (P:=Tp) (pol:=polSo) (g:=53) (fn:=Try.f53) (cd:=B53) (args:=[.sl db 0 n cap n 1]) (v:=.tuple []) (by kernel_rfl) (by kernel_rfl) (by kernel_rfl) (by kernel_rfl) t (by kernel_rfl) (by simp) (by kernel_rfl)
  have e:Mm encI H db l' []=H.set db (bI l'):=by unfold Mm; rw [List.append_nil]; rfl
  rw [e,gc_eq _ (by simp)] at hc2
  exact ⟨l',hc2,h1,by rw [h1.length_eq,hl]; exact h2⟩
theorem set_self {H:Heap} {b:Nat} {B:Blk} (h:H[b]?=some B):H.set b B=H:=by
  apply List.ext_getElem?
  intro i
  by_cases e:b=i
  · subst e; rw [List.getElem?_set_self (lt_of_get h),h]
  · rw [List.getElem?_set_ne e]
def cT (l:List Int):Nat → List Int
  | 0=>[]
  | i+1=>if i=0 then [l.getD 0 0] else if l.getD i 0=l.getD (i - 1) 0 then cT l i else cT l i ++ [l.getD i 0]
theorem cT_len (l:List Int):∀ i,(cT l i).length ≤ i
  | 0=>Nat.le_refl _
  | i+1=>by
    rw [cT]
    split
    · simp
    · split
      · have:=cT_len l i; omega
      · have:=cT_len l i; simp; omega
section
variable {H:Heap} {b n:Nat} {l:List Int}
abbrev cmE (b n:Nat) (v3 v4 v5:HV):Env:=env54 (.sl b 0 n none n 1) (.imm .lit 1 []) v3 v4 v5
theorem ixm {m r i:Nat} (h:i < r):idxV Tp 22 (.sl b m r none n 1) (.int .i64 (i:Int))=some (.ptr b (m+i) 0 n):=by
  simp only [idxV,u22,z3]
  rw [if_pos ⟨by omega,by omega,trivial⟩]
  simp
theorem ldS {T:List Int} (hT:T.length=n) (hb:H[b]?=some (bI T)) {i:Nat} (h:i < n):loadV Tp H 3 (.ptr b i 0 n)=some (.int .i64 (T.getD i 0)):=by
  subst hT; exact load_out hb h
theorem getSet {B:Blk} (hb:b < H.length):(H.set b B)[b]?=some B:=List.getElem?_set_self hb
theorem cm_second (hb:b < H.length) (hn:n ≤ 60000) (hl:l.length=n) {m:Nat} (hm:1 ≤ m):∀ d j k T,m+j+d=n → 1 ≤ j → k=(cT l (m+j)).length → k ≤ m+j - 1 → T.length=n → T.take k=cT l (m+j) → (∀ p,m+j - 1 ≤ p → p < n → T.getD p 0=l.getD p 0) →
    ∃ (T':List Int) (k':Nat) (y5:HV),RT polSo 54 (sub [1,1,0,1,0,0,1,0,0,1,0,1,0,1,0] B54) (cmE b n (.int .i64 (k:Int)) (.sl b m (n - m) none n 1) (.int .i64 (j:Int))) (H.set b (bI T)) (.exit 2)
      (cmE b n (.int .i64 (k':Int)) (.sl b m (n - m) none n 1) y5) (H.set b (bI T'))∧k'=(cT l n).length∧T'.take k'=cT l n∧T'.length=n:=by
  intro d
  induction d with
  | zero =>
    intro j k T hd hj hk hkm hT hTt hTp
    have s:=cm_h_2 b n (H.set b (bI T)) k m (n - m) j (by omega)
    have e:m+j=n:=by omega
    rw [e] at hk hTt
    exact ⟨T,k,_,lpo (s) (c:=sub [1,1,0,1,0,0,1,0,0,1,0,1,0,1,0] B54),hk,hTt,hT⟩
  | succ d ih =>
    intro j k T hd hj hk hkm hT hTt hTp
    have g1:=ixm (b:=b) (n:=n) (m:=m) (r:=n - m) (i:=j) (by omega)
    have g3:=ixm (b:=b) (n:=n) (m:=m) (r:=n - m) (i:=j - 1) (by omega)
    rw [← wrap_pred (by omega) (by omega)] at g3
    have q1:=ldS (H:=H.set b (bI T)) hT (getSet hb) (i:=m+j) (by omega)
    have q2:=ldS (H:=H.set b (bI T)) hT (getSet hb) (i:=m+(j - 1)) (by omega)
    rw [hTp (m+j) (by omega) (by omega)] at q1
    rw [hTp (m+(j - 1)) (by omega) (by omega)] at q2
    have ec:cT l (m+(j+1))=if l.getD (m+j) 0=l.getD (m+(j - 1)) 0 then cT l (m+j) else cT l (m+j) ++ [l.getD (m+j) 0]:=by
      show cT l (m+j+1)=_
      rw [cT,if_neg (show ¬ m+j=0 by omega),show m+j - 1=m+(j - 1) by omega]
    by_cases c:l.getD (m+j) 0=l.getD (m+(j - 1)) 0
    · rw [if_pos c] at ec
      have s:=cm_h_0 b n (H.set b (bI T)) k m (n - m) j (by omega) g1 q1 g3 q2 c
      rw [wrap_succ (by omega)] at s
      obtain ⟨T',k',y5,r,h⟩:=ih (j+1) k T (by omega) (by omega) (by rw [ec]; exact hk) (by omega) hT (by rw [ec]; exact hTt) (fun p h1 h2=>hTp p (by omega) h2)
      exact ⟨T',k',y5,lop (s) (gc_eq _ rfl) (r),h⟩
    · rw [if_neg c] at ec
      have ix:=ixm (b:=b) (n:=n) (m:=0) (r:=n) (i:=k) (by omega)
      rw [Nat.zero_add] at ix
      have st:=store_out (H:=H.set b (bI T)) (k:=b) (o:=T) (getSet hb) (y:=k) (by omega) (l.getD (m+j) 0)
      rw [hT,List.set_set] at st
      have s:=cm_h_1 b n (H.set b (bI T)) k m (n - m) j (by omega) g1 q1 g3 q2 c g1 q1 ix st
      rw [wrap_succ (by omega),wrap_succ (by omega)] at s
      obtain ⟨T',k',y5,r,h⟩:=ih (j+1) (k+1) (T.set k (l.getD (m+j) 0)) (by omega) (by omega) (by rw [ec,List.length_append,List.length_singleton,← hk]) (by omega) (by rw [List.length_set]; exact hT) (by
        rw [ec,← hTt,List.take_set,List.take_add_one,List.getElem?_eq_getElem (show k < T.length by omega),Option.toList_some,List.set_append_right _ _ (by rw [List.length_take]; omega),List.length_take,show k - min k T.length=0 by omega]; rfl) (fun p h1 h2=>by
        rw [← hTp p (by omega) h2]
        simp only [List.getD,List.getElem?_set]
        rw [if_neg (by omega)])
      exact ⟨T',k',y5,lop (s) (gc_eq _ (by simp)) (r),h⟩
theorem sliceLo {k:Nat} (h:k ≤ n):sliceV Tp 22 (.sl b 0 n none n 1) (some (.int .i64 (k:Int))) none none=some (.sl b k (n - k) none n 1):=by
  simp [sliceV,boundV,u22,z3,h]
theorem sliceHi {k:Nat} (h:k ≤ n):sliceV Tp 22 (.sl b 0 n none n 1) none (some (.int .i64 (k:Int))) none=some (.sl b 0 k none n 1):=by
  simp [sliceV,boundV,u22,z3,h]
theorem clear_ok (hb:b < H.length) {T:List Int} (hT:T.length=n) {k:Nat} (hk:k ≤ n):clearV Tp (H.set b (bI T)) 22 (.sl b k (n - k) none n 1)=some (.tuple [],H.set b (bI (T.take k ++ List.replicate (n - k) 0))):=by
  by_cases h0:n - k=0
  · have:k=n:=by omega
    subst this
    simp only [clearV,u22,Nat.sub_self,if_true,List.replicate_zero,List.append_nil]
    rw [List.take_of_length_le (by omega)]
  · have i3:=info3
    cases hi:Tp.info? 3 with
    | none=>rw [hi] at i3; cases i3
    | some i =>
      rw [hi] at i3
      simp only [Option.map_some,Option.some.injEq,Prod.mk.injEq] at i3
      obtain ⟨e1,e2,hz⟩:=i3
      cases hz2:i.zero with
      | none=>rw [hz2] at hz; cases hz
      | some z =>
        rw [hz2] at hz
        simp only [Option.map_some,Option.some.injEq] at hz
        have hg:(H.set b (bI T))[b]?=some (.arr 1 (T.map encI) true 0):=getSet hb
        simp only [clearV,u22,if_neg h0,hi,hg,hz2]
        rw [hz,if_pos ⟨trivial,e1,by simp [hT],by simp [hT]; omega,rfl,rfl,by omega⟩,List.set_set]
        have e3:splice (T.map encI) k (List.replicate (n - k) (HV.int .i64 0))=(T.take k ++ List.replicate (n - k) 0).map encI:=by
          simp only [splice,List.length_replicate,List.map_append,List.map_take,List.map_replicate]
          rw [List.drop_of_length_le (by simp [hT]; omega),List.append_nil]
          rfl
        rw [e3]
theorem cm_first (hbl:H[b]?=some (bI l)) (hn:n ≤ 60000) (hl:l.length=n) (h2:2 ≤ n):∀ d k,k+d=n → 1 ≤ k → cT l k=l.take k →
    (cT l n=l∧∃ y,RT polSo 54 (sub [1,1,0,1,0] B54) (cmE b n (.int .i64 (k:Int)) Ud Ud) H (.exit 0) (cmE b n y Ud Ud) H∧∃ q:Nat,y=.int .i64 (q:Int)) ∨
    (∃ E T,RT polSo 54 (sub [1,1,0,1,0] B54) (cmE b n (.int .i64 (k:Int)) Ud Ud) H .ret E (H.set b (bI (cT l n ++ T)))∧E.get 2=.sl b 0 (cT l n).length none n 1∧(cT l n ++ T).length=n):=by
  have hb:=lt_of_get hbl
  have hset:H.set b (bI l)=H:=set_self hbl
  intro d
  induction d with
  | zero =>
    intro k hd hk hc
    have s:=cm_d_1 b n H k (y4:=Ud) (y5:=Ud) (by omega)
    have e:k=n:=by omega
    subst e
    exact .inl ⟨by rw [hc,List.take_of_length_le (by omega)],_,lpo (sqo (s) (c:=sub [1,1,0,1,0,0] B54) (b:=sub [1,1,0,1,0,0,1] B54)) (c:=sub [1,1,0,1,0] B54),k,rfl⟩
  | succ d ih =>
    intro k hd hk hc
    have s0:=cm_d_0 b n H k (y4:=Ud) (y5:=Ud) (by omega)
    have g1:=ixm (b:=b) (n:=n) (m:=0) (r:=n) (i:=k) (by omega)
    have g3:=ixm (b:=b) (n:=n) (m:=0) (r:=n) (i:=k - 1) (by omega)
    rw [Nat.zero_add] at g1 g3
    rw [← wrap_pred (by omega) (by omega)] at g3
    have q1:=ldS (H:=H) hl hbl (i:=k) (by omega)
    have q2:=ldS (H:=H) hl hbl (i:=k - 1) (by omega)
    have ec:cT l (k+1)=if l.getD k 0=l.getD (k - 1) 0 then cT l k else cT l k ++ [l.getD k 0]:=by
      rw [cT,if_neg (show ¬ k=0 by omega)]
    by_cases c:l.getD k 0=l.getD (k - 1) 0
    · rw [if_pos c] at ec
      have s1:=cm_e_0 b n H k (y4:=Ud) (y5:=Ud) g1 q1 g3 q2 c
      have s2:=cm_f_0 b n H k (y4:=Ud) (y5:=Ud) (sliceLo (by omega))
      have s3:=cm_g_0 b n H k k (n - k) (y5:=Ud)
      obtain ⟨T',k',y5,r,r1,r2,r3⟩:=cm_second (H:=H) hb hn hl (m:=k) hk (n - k - 1) 1 k l (by omega) (by omega) (by rw [ec,hc,List.length_take]; omega) (by omega) hl (by rw [ec,hc]) (fun p _ _=>rfl)
      rw [hset] at r
      have hk':k' ≤ n:=by have:=cT_len l n; omega
      have s4:=cm_i_0 b n (H.set b (bI T')) k' k (n - k) (y5:=y5) (sliceLo hk') (clear_ok hb r3 hk') (sliceHi hk')
      rw [r2] at s4
      refine .inr ⟨_,List.replicate (n - k') 0,lpo (sq (s0) (sqo (RunsTo.block_ret (i:=1) (c:=sub [1,1,0,1,0,0,1,0] B54) (sq (s1) (RunsTo.cond (y:=.tmp 25) (t:=true) (c:=sub [1,1,0,1,0,0,1,0,0,1] B54) (a:=sub [1,1,0,1,0,0,1,0,0,1,0] B54) (b:=sub [1,1,0,1,0,0,1,0,0,1,1] B54) (by kernel_rfl) rfl (sq (s2) (sq (sq (s3) (bke (c:=sub [1,1,0,1,0,0,1,0,0,1,0,1,0,1] B54) (r)) (c:=sub [1,1,0,1,0,0,1,0,0,1,0,1,0] B54)) (s4) (c:=sub [1,1,0,1,0,0,1,0,0,1,0,1] B54)) (c:=sub [1,1,0,1,0,0,1,0,0,1,0] B54))) (c:=sub [1,1,0,1,0,0,1,0,0] B54)) (by kernel_rfl)) (c:=sub [1,1,0,1,0,0,1] B54) (b:=sub [1,1,0,1,0,0,1,1] B54)) (c:=sub [1,1,0,1,0,0] B54)) (c:=sub [1,1,0,1,0] B54),by rw [← r1]; rfl,by rw [List.length_append,List.length_replicate]; omega⟩
    · rw [if_neg c] at ec
      have s1:=cm_e_1 b n H k (y4:=Ud) (y5:=Ud) g1 q1 g3 q2 c
      have s2:=cm_j_0 b n H k (y4:=Ud) (y5:=Ud)
      rw [wrap_succ (by omega)] at s2
      have et:l.take (k+1)=l.take k ++ [l.getD k 0]:=by rw [List.take_add_one]; simp [List.getD,List.getElem?_eq_getElem (show k < l.length by omega)]
      have bd:RT polSo 54 (sub [1,1,0,1,0,0] B54) (cmE b n (.int .i64 (k:Int)) Ud Ud) H .normal (cmE b n (.int .i64 ((k+1:Nat):Int)) Ud Ud) H:=sq (s0) (sq (RunsTo.block_normal (i:=1) (c:=sub [1,1,0,1,0,0,1,0] B54) (sq (s1) (RunsTo.cond (y:=.tmp 25) (t:=false) (c:=sub [1,1,0,1,0,0,1,0,0,1] B54) (a:=sub [1,1,0,1,0,0,1,0,0,1,0] B54) (b:=sub [1,1,0,1,0,0,1,0,0,1,1] B54) (by kernel_rfl) rfl (RunsTo.skip (E:=(cmE b n (.int .i64 (k:Int)) Ud Ud)) (K:=polSo.keys 54) (by kernel_rfl) (by kernel_rfl))) (c:=sub [1,1,0,1,0,0,1,0,0] B54)) (by kernel_rfl)) (s2) (c:=sub [1,1,0,1,0,0,1] B54)) (c:=sub [1,1,0,1,0,0] B54)
      rcases ih (k+1) (by omega) (by omega) (by rw [ec,hc,et]) with ⟨h,y,r,hq⟩ | ⟨E,T,r,h⟩
      · exact .inl ⟨h,y,lop (bd) (gc_eq _ rfl) (r),hq⟩
      · exact .inr ⟨E,T,lop (bd) (gc_eq _ rfl) (r),h⟩
theorem res54:Try.f54.results.toList=[.tmp 2]:=by kernel_rfl
theorem compact_ok (hbl:H[b]?=some (bI l)) (hn:n ≤ 60000) (hl:l.length=n) (hx:mxs H ≤ H.length):∃ T,ClS 54 [.sl b 0 n none n 1] H (.sl b 0 (cT l n).length none n 1) (H.set b (bI (cT l n ++ T)))∧(cT l n ++ T).length=n:=by
  have hb:=lt_of_get hbl
  have hset:H.set b (bI l)=H:=set_self hbl
  have fin:∀ {E:Env} {T:List Int},RT polSo 54 B54 (args0 [.sl b 0 n none n 1]) H .ret E (H.set b (bI (cT l n ++ T))) → E.get 2=.sl b 0 (cT l n).length none n 1 → ClS 54 [.sl b 0 n none n 1] H (.sl b 0 (cT l n).length none n 1) (H.set b (bI (cT l n ++ T))):=fun {E T} r hE=>by
    have hc:=CallsTo.shared (P:=Tp) (pol:=polSo) (g:=54) (fn:=Try.f54) (cd:=B54) (args:=[.sl b 0 n none n 1]) (v:=.sl b 0 (cT l n).length none n 1) (by kernel_rfl) (by kernel_rfl) (by kernel_rfl) (by kernel_rfl) r (by kernel_rfl) (by simp) (by simp only [resultsV,res54,mapO,resultV,hE])
    rwa [gc_eq _ (by simp)] at hc
  have a:=cm_a_0 b n H
  by_cases h2:n < 2
  · have s:=cm_b_0 b n H (y3:=Ud) (y4:=Ud) (y5:=Ud) (by omega)
    have ecl:cT l n=l:=by
      match l,hl with
      | [],hl=>simp at hl; subst hl; rfl
      | [x],hl=>simp at hl; subst hl; rfl
      | x :: y :: l,hl=>simp at hl; omega
    refine ⟨[],?_,by rw [List.append_nil,ecl,hl]⟩
    have u:=sq (a) (sqo (s) (c:=sub [1] B54) (b:=sub [1,1] B54)) (c:=B54)
    rw [List.append_nil]
    have e1:H.set b (bI (cT l n))=H:=by rw [ecl]; exact hset
    refine (by simpa using fin (T:=[]) (by rw [List.append_nil,e1]; exact u) (by rw [ecl,hl]; rfl))
  · have s1:=cm_b_1 b n H (y3:=Ud) (y4:=Ud) (y5:=Ud) (by omega)
    have s2:=cm_c_0 b n H (y3:=Ud) (y4:=Ud) (y5:=Ud)
    rcases cm_first (H:=H) hbl hn hl (by omega) (n - 1) 1 (by omega) (by omega) (by
      rw [cT,if_pos rfl]
      cases l with
      | nil=>simp at hl; omega
      | cons x l=>rfl) with ⟨h,y,r,q,rfl⟩ | ⟨E,T,r,hE,hT⟩
    · have z:=cm_k_0 b n H q (y4:=Ud) (y5:=Ud)
      have u:=sq (a) (sq (s1) (sq (sq (s2) (bke (c:=sub [1,1,0,1] B54) (r)) (c:=sub [1,1,0] B54)) (z) (c:=sub [1,1] B54)) (c:=sub [1] B54)) (c:=B54)
      refine ⟨[],?_,by rw [List.append_nil,h,hl]⟩
      have e1:H.set b (bI (cT l n))=H:=by rw [h]; exact hset
      refine (by simpa using fin (T:=[]) (by rw [List.append_nil,e1]; exact u) (by rw [h,hl]; rfl))
    · have u:=sq (a) (sq (s1) (sqo (sq (s2) (RunsTo.block_ret (i:=0) (c:=sub [1,1,0,1] B54) (r) (by kernel_rfl)) (c:=sub [1,1,0] B54)) (c:=sub [1,1] B54) (b:=sub [1,1,1] B54)) (c:=sub [1] B54)) (c:=B54)
      exact ⟨T,fin u hE,hT⟩
end
end Go.Proofs.Ytaibmipamkaljaa
end
section
open Go Go.HL Go.HL.So
namespace Go.Proofs.Ytaibmipamkaljaa
def bothS (p:Int) (a b:List Int):List Int:=a.flatMap fun x=>b.map fun y=>(x+y) % p
def bothT (p:Int) (a b:List Int):List Int:=((List.range p.toNat).filter fun (r:Nat)=>decide ((r:Int) ∈ bothS p a b)).map fun (r:Nat)=>(r:Int)
def bothR (p:Int) (a b:List Int):List Int × Int:=if (inB p 2 97 && primeT p && setT p a && setT p b)=true then (bothT p a b,0) else ([],2)
theorem bothS_mem {p:Int} {a b:List Int} {z:Int}:z ∈ bothS p a b ↔ ∃ x ∈ a,∃ y ∈ b,(x+y) % p=z:=by
  simp [bothS,List.mem_flatMap]
theorem bothS_len (p:Int) (a b:List Int):(bothS p a b).length=a.length * b.length:=by
  induction a with
  | nil=>simp [bothS]
  | cons x a ih =>
    have:bothS p (x :: a) b=b.map (fun y=>(x+y) % p) ++ bothS p a b:=rfl
    rw [this,List.length_append,ih,List.length_map,List.length_cons,Nat.add_mul]; omega
theorem strict_ext:∀ {l m:List Int},l.Pairwise (· < ·) → m.Pairwise (· < ·) → (∀ x,x ∈ l ↔ x ∈ m) → l=m
  | [],[],_,_,_=>rfl
  | [],y :: m,_,_,h=>absurd ((h y).2 (by simp)) (by simp)
  | x :: l,[],_,_,h=>absurd ((h x).1 (by simp)) (by simp)
  | x :: l,y :: m,hl,hm,h=>by
    obtain ⟨l1,l2⟩:=List.pairwise_cons.1 hl
    obtain ⟨m1,m2⟩:=List.pairwise_cons.1 hm
    have e:x=y:=by
      rcases List.mem_cons.1 ((h x).1 (by simp)) with e | e
      · exact e
      · have a1:=m1 x e
        rcases List.mem_cons.1 ((h y).2 (by simp)) with e2 | e2
        · exact e2.symm
        · have:=l1 y e2; omega
    subst e
    rw [strict_ext l2 m2 fun z=>?_]
    constructor
    · intro hz
      rcases List.mem_cons.1 ((h z).1 (List.mem_cons_of_mem _ hz)) with e | e
      · have:=l1 z hz; omega
      · exact e
    · intro hz
      rcases List.mem_cons.1 ((h z).2 (List.mem_cons_of_mem _ hz)) with e | e
      · have:=m1 z hz; omega
      · exact e
theorem cT_props {l:List Int} (hs:∀ i j,i < j → j < l.length → l.getD i 0 ≤ l.getD j 0):∀ i,i ≤ l.length → (cT l i).Pairwise (· < ·)∧(∀ x,x ∈ cT l i ↔ x ∈ l.take i)∧(1 ≤ i → ∀ x ∈ cT l i,x ≤ l.getD (i - 1) 0)
  | 0,_=>by simp [cT]
  | i+1,hi=>by
    obtain ⟨h1,h2,h3⟩:=cT_props hs i (by omega)
    have et:l.take (i+1)=l.take i ++ [l.getD i 0]:=by rw [List.take_add_one]; simp [List.getD,List.getElem?_eq_getElem (show i < l.length by omega)]
    rw [cT]
    by_cases h0:i=0
    · subst h0
      rw [if_pos rfl]
      refine ⟨by simp,fun x=>?_,fun _ x hx=>?_⟩
      · rw [et]; simp
      · rw [List.mem_singleton] at hx; rw [hx]; exact Int.le_refl _
    · rw [if_neg h0]
      by_cases c:l.getD i 0=l.getD (i - 1) 0
      · rw [if_pos c]
        refine ⟨h1,fun x=>?_,fun _ x hx=>?_⟩
        · rw [et,h2,List.mem_append,List.mem_singleton]
          constructor
          · exact Or.inl
          · rintro (h | h)
            · exact h
            · rw [h,c]
              have hlt:i - 1 < (l.take i).length:=by rw [List.length_take]; omega
              have:(l.take i)[i - 1]=l.getD (i - 1) 0:=by rw [List.getElem_take]; simp [List.getD,List.getElem?_eq_getElem (show i - 1 < l.length by omega)]
              rw [← this]; exact List.getElem_mem hlt
        · have:=h3 (by omega) x hx
          rw [Nat.add_sub_cancel,c]; exact this
      · rw [if_neg c]
        have hle:=hs (i - 1) i (by omega) (by omega)
        refine ⟨List.pairwise_append.2 ⟨h1,by simp,fun x hx y hy=>?_⟩,fun x=>?_,fun _ x hx=>?_⟩
        · rw [List.mem_singleton] at hy
          have:=h3 (by omega) x hx
          rw [hy]; omega
        · rw [et,List.mem_append,List.mem_append,h2]
        · rw [Nat.add_sub_cancel]
          rcases List.mem_append.1 hx with h | h
          · have:=h3 (by omega) x h; omega
          · rw [List.mem_singleton] at h; omega
theorem filter_strict (n:Nat) (f:Nat → Bool):(((List.range n).filter f).map fun (r:Nat)=>(r:Int)).Pairwise (· < ·):=by
  rw [List.pairwise_map]
  exact (List.Pairwise.filter f List.pairwise_lt_range).imp fun h=>by omega
theorem bothT_mem {p:Int} {a b:List Int} (hp:0 < p) {z:Int}:z ∈ bothT p a b ↔ z ∈ bothS p a b:=by
  simp only [bothT,List.mem_map,List.mem_filter,List.mem_range,decide_eq_true_eq]
  constructor
  · rintro ⟨r,⟨_,h⟩,rfl⟩; exact h
  · intro h
    obtain ⟨x,_,y,_,e⟩:=bothS_mem.1 h
    have b1:=Int.emod_nonneg (x+y) (show p ≠ 0 by omega)
    have b2:=Int.emod_lt_of_pos (x+y) hp
    exact ⟨z.toNat,⟨by omega,by rw [Int.toNat_of_nonneg (by omega)]; exact h⟩,Int.toNat_of_nonneg (by omega)⟩
theorem both_sorted {p:Int} (hp:0 < p) {a b l:List Int} (hl:l.Perm (bothS p a b)) (hs:Sorted (fun a b:Int=>a < b) 0 l.length l):cT l l.length=bothT p a b:=by
  obtain ⟨h1,h2,_⟩:=cT_props (l:=l) (fun i j hij hj=>by
    have:=hs i j (Nat.zero_le _) hij hj
    have e:∀ k,k < l.length → at_ l k=l.getD k 0:=fun k hk=>by simp [at_,List.getD,List.getElem?_eq_getElem hk]
    rw [e i (by omega),e j hj] at this
    omega) l.length (Nat.le_refl _)
  refine strict_ext h1 (filter_strict _ _) fun x=>?_
  rw [h2,List.take_length,hl.mem_iff]
  exact (bothT_mem hp).symm
end Go.Proofs.Ytaibmipamkaljaa
end
section
open Go Go.HL Go.HL.So
namespace Go.Proofs.Ytaibmipamkaljaa
open Go.Proofs.Try renaming prog → Tp
open Go.HL.HV renaming undef → Ud
theorem res19:Try.f19.results.toList=[.tmp 6,.tmp 7]:=by kernel_rfl
def pllF (f:Int → List Int → List Int → Option HV):List HV → Option HV
  | [.int .i64 p,.imm .arg 1 la,.imm .arg 1 lb]=>(match mapO decI la,mapO decI lb with | some a,some b=>f p a b | _,_=>none)
  | _=>none
theorem pllF_inv {f:Int → List Int → List Int → Option HV} {args:List HV} {res:HV} (h:pllF f args=some res):∃ (p:Int) (a b:List Int),args=[.int .i64 p,.imm .arg 1 (a.map encI),.imm .arg 1 (b.map encI)]∧f p a b=some res:=by
  unfold pllF at h
  split at h
  · split at h
    · rename_i a b ha hb
      exact ⟨_,a,b,by rw [mapO_inv decI_inv ha,mapO_inv decI_inv hb],h⟩
    · cases h
  · cases h
def both19:List HV → Option HV:=pllF fun p a b=>if a.length ≤ 200∧b.length ≤ 200 then some (.tuple [.own 1 ((bothR p a b).1.map encI),.int .i64 (bothR p a b).2]) else none
section
variable {p:Int} {a b:List Int}
abbrev btE (p:Int) (a b:List Int) (z:Nat) (v10 v12 v33 v34 v35 v39 v40 v41:HV):Env:=env19 (.int .i64 p) (.imm .arg 1 (a.map encI)) (.imm .arg 1 (b.map encI)) (.imm .lit 1 []) (.int .i64 0) (.sl 0 0 z none z 1) v10 v12 v33 v34 v35 v39 v40 v41
theorem app_big {H:Heap} {bb:Nat} {o:List Int} (hb:H[bb]?=some (bI o)) (hlen:o.length ≤ 60000) (x:Int) :
    appV H 1 8 (.sl bb 0 o.length none o.length 1) [.int .i64 x]=some (.sl bb 0 (o.length+1) none (o.length+1) 1,H.set bb (bI (o ++ [x]))):=by
  have:=app_sl (H:=H) (k:=1) (bytes:=8) (b:=bb) (n:=o.length) (mx:=0) (els:=o.map encI) (xs:=[encI x]) hb (by simp) (by simp) (by simp only [roomMax,List.length_singleton]; omega) (ints_bnd [x])
  show appV H 1 8 (.sl bb 0 o.length none o.length 1) [encI x]=_
  rw [this]
  simp [bI]
theorem bt_in (hp:2 ≤ p∧p ≤ 97) (hb:b.length ≤ 200) {x:Int} (hx:0 ≤ x∧x < p) (hbB:∀ y ∈ b,0 ≤ y∧y < p) {i n1:Nat}:∀ k j (os:List Int),j+k=b.length → os.length ≤ 50000+j →
    ∃ y41,RT polSo 19 (sub [1,1,1,0,1,0,0,1,1,0,0,1,1,0] B19) (btE p a b os.length (.int .i64 x) Ud (.imm .arg 1 (a.map encI)) (.int .i64 (n1:Int)) (.int .i64 (i:Int)) (.imm .arg 1 (b.map encI)) (.int .i64 (b.length:Int)) (.int .i64 (j:Int))) [bI os] (.exit 2)
      (btE p a b (os ++ (b.drop j).map fun y=>(x+y) % p).length (.int .i64 x) Ud (.imm .arg 1 (a.map encI)) (.int .i64 (n1:Int)) (.int .i64 (i:Int)) (.imm .arg 1 (b.map encI)) (.int .i64 (b.length:Int)) y41) [bI (os ++ (b.drop j).map fun y=>(x+y) % p)]:=by
  intro k
  induction k with
  | zero =>
    intro j os hj ho
    have s:=bt_h_1 p (a.map encI) (b.map encI) os.length (os.map encI) n1 i b.length j x (y12:=Ud) (by omega)
    rw [List.drop_of_length_le (by omega),List.map_nil,List.append_nil]
    exact ⟨_,lpo (s) (c:=sub [1,1,1,0,1,0,0,1,1,0,0,1,1,0] B19)⟩
  | succ k ih =>
    intro j os hj ho
    have hlt:j < b.length:=by omega
    have hy:=hbB (b.getD j 0) (by rw [List.getD,List.getElem?_eq_getElem hlt]; exact List.getElem_mem hlt)
    have w:IntKind.i64.wrap (x+b.getD j 0)=x+b.getD j 0:=wrap_id (by omega) (by omega)
    have t:(x+b.getD j 0).tmod p=(x+b.getD j 0) % p:=Int.tmod_eq_emod_of_nonneg (by omega)
    have ap:=app_big (H:=[bI os]) (bb:=0) (o:=os) rfl (by omega) ((x+b.getD j 0) % p)
    have s:=bt_h_0 p (a.map encI) (b.map encI) os.length (os.map encI) n1 i b.length j x (y12:=Ud) (by omega) (gx hlt) (rem3 (by omega)) (by rw [w,t]; exact ap.trans (by simp only [bI,List.map_append]; rfl))
    rw [w,t,wrap_succ (by omega)] at s
    obtain ⟨y41,r⟩:=ih (j+1) (os ++ [(x+b.getD j 0) % p]) (by omega) (by simp; omega)
    have e1:os ++ (b.drop j).map (fun y=>(x+y) % p)=os ++ [(x+b.getD j 0) % p] ++ (b.drop (j+1)).map fun y=>(x+y) % p:=by rw [drop_cons (0:Int) hlt,List.map_cons,List.append_assoc]; rfl
    rw [e1]
    have e2:[Blk.arr 1 (os.map encI ++ [.int .i64 ((x+b.getD j 0) % p)]) true 0]=[bI (os ++ [(x+b.getD j 0) % p])]:=by simp only [bI,List.map_append]; rfl
    rw [e2] at s
    rw [List.length_append,List.length_singleton] at r
    exact ⟨y41,lop (s) (gc_eq _ rfl) (r)⟩
theorem bt_out (hp:2 ≤ p∧p ≤ 97) (ha:a.length ≤ 200) (hb:b.length ≤ 200) (haB:∀ y ∈ a,0 ≤ y∧y < p) (hbB:∀ y ∈ b,0 ≤ y∧y < p):∀ k i (os:List Int),i+k=a.length → os.length ≤ 200 * i →
    ∃ y10 y35 y39 y40 y41,RT polSo 19 (sub [1,1,1,0,1,0] B19) (btE p a b os.length Ud Ud (.imm .arg 1 (a.map encI)) (.int .i64 (a.length:Int)) (.int .i64 (i:Int)) Ud Ud Ud) [bI os] (.exit 0)
      (btE p a b (os ++ (a.drop i).flatMap fun x=>b.map fun y=>(x+y) % p).length y10 Ud (.imm .arg 1 (a.map encI)) (.int .i64 (a.length:Int)) y35 y39 y40 y41) [bI (os ++ (a.drop i).flatMap fun x=>b.map fun y=>(x+y) % p)]:=by
  intro k
  induction k with
  | zero =>
    intro i os hi ho
    have s1:=bt_e_1 p (a.map encI) (b.map encI) os.length (os.map encI) a.length i (y10:=Ud) (y12:=Ud) (y39:=Ud) (y40:=Ud) (y41:=Ud) (by omega)
    have s2:=bt_ef_0 p (a.map encI) (b.map encI) os.length (os.map encI) a.length i (y10:=Ud) (y12:=Ud) (y39:=Ud) (y40:=Ud) (y41:=Ud)
    rw [List.drop_of_length_le (by omega),List.flatMap_nil,List.append_nil]
    exact ⟨_,_,_,_,_,lpo (sq (s1) (sqo (s2) (c:=sub [1,1,1,0,1,0,0,1] B19) (b:=sub [1,1,1,0,1,0,0,1,1] B19)) (c:=sub [1,1,1,0,1,0,0] B19)) (c:=sub [1,1,1,0,1,0] B19)⟩
  | succ k ih =>
    intro i os hi ho
    have hlt:i < a.length:=by omega
    have hx:=haB (a.getD i 0) (by rw [List.getD,List.getElem?_eq_getElem hlt]; exact List.getElem_mem hlt)
    have s1:=bt_e_0 p (a.map encI) (b.map encI) os.length (os.map encI) a.length i (y10:=Ud) (y12:=Ud) (y39:=Ud) (y40:=Ud) (y41:=Ud) (by omega)
    have s2:=bt_et_0 p (a.map encI) (b.map encI) os.length (os.map encI) a.length i (y10:=Ud) (y12:=Ud) (y39:=Ud) (y40:=Ud) (y41:=Ud)
    have s3:=bt_f_0 p (a.map encI) (b.map encI) os.length (os.map encI) a.length i (y10:=Ud) (y12:=Ud) (y39:=Ud) (y40:=Ud) (y41:=Ud) (gx hlt)
    have s4:=bt_g_0 p (a.map encI) (b.map encI) os.length (os.map encI) a.length i (a.getD i 0) (y12:=Ud) (y39:=Ud) (y40:=Ud) (y41:=Ud)
    rw [List.length_map] at s4
    obtain ⟨y41,r0⟩:=bt_in (a:=a) hp hb hx hbB (i:=i) (n1:=a.length) b.length 0 os (by omega) (by omega)
    rw [List.drop_zero] at r0
    have s5:=bt_i_0 p (a.map encI) (b.map encI) (os ++ b.map fun y=>(a.getD i 0+y) % p).length ((os ++ b.map fun y=>(a.getD i 0+y) % p).map encI) a.length i (y10:=.int .i64 (a.getD i 0)) (y12:=Ud) (y39:=.imm .arg 1 (b.map encI)) (y40:=.int .i64 (b.length:Int)) (y41:=y41)
    rw [wrap_succ (by omega)] at s5
    obtain ⟨y10,y35,z39,z40,z41,r⟩:=ih (i+1) (os ++ b.map fun y=>(a.getD i 0+y) % p) (by omega) (by rw [List.length_append,List.length_map]; omega)
    have e1:os ++ (a.drop i).flatMap (fun x=>b.map fun y=>(x+y) % p)=os ++ b.map (fun y=>(a.getD i 0+y) % p) ++ (a.drop (i+1)).flatMap fun x=>b.map fun y=>(x+y) % p:=by rw [drop_cons (0:Int) hlt,List.flatMap_cons,List.append_assoc]
    rw [e1]
    exact ⟨y10,y35,z39,z40,z41,lop (sq (s1) (sq (s2) (sq (RunsTo.block_normal (i:=1) (c:=sub [1,1,1,0,1,0,0,1,1,0] B19) (sq (s3) (sq (s4) (bke (c:=sub [1,1,1,0,1,0,0,1,1,0,0,1,1] B19) (lpi (e0:=(btE p a b os.length (.int .i64 (a.getD i 0)) Ud (.imm .arg 1 (a.map encI)) (.int .i64 (a.length:Int)) (.int .i64 (i:Int)) (.imm .arg 1 (b.map encI)) (.int .i64 (b.length:Int)) (.int .i64 ((0:Nat):Int)))) r0 (b:=sub [1,1,1,0,1,0,0,1,1,0,0,1,1,0,0] B19))) (c:=sub [1,1,1,0,1,0,0,1,1,0,0,1] B19)) (c:=sub [1,1,1,0,1,0,0,1,1,0,0] B19)) (by kernel_rfl)) (s5) (c:=sub [1,1,1,0,1,0,0,1,1] B19)) (c:=sub [1,1,1,0,1,0,0,1] B19)) (c:=sub [1,1,1,0,1,0,0] B19)) (gc_eq _ rfl) (r)⟩
end
theorem rsF_in {p:Int}:∀ (l prev:List Int),rsF p prev l=true → (∀ x ∈ l,0 ≤ x∧x < p)
  | [],_,_=>by simp
  | x :: l,prev,h=>by
    simp only [rsF,Bool.and_eq_true,decide_eq_true_eq] at h
    intro y hy
    rcases List.mem_cons.1 hy with rfl | hy
    · exact h.1.1
    · exact rsF_in l _ h.2 y hy
theorem setT_in {p:Int} {l:List Int} (h:setT p l=true):∀ x ∈ l,0 ≤ x∧x < p:=by
  simp only [setT,Bool.and_eq_true] at h
  exact rsF_in l [] h.1
theorem bool_at {pol':Pol} {g:FuncId} {F:List HV → Option HV} (hp:pol'.prim g=some F) {args rs:List HV} {H:Heap} {b:Bool} (h1:mapO (toArg H 6) args=some rs) (h2:F rs=some (.bool b)):∀ k,callN Tp pol' (k+1) g args H=some (.bool b,H):=fun k=>by
  rw [prim_call (pol:=pol') (g:=g) (F:=F) hp (rs:=rs) h1 (res:=.bool b) h2]; rfl
theorem both_ok:PrimOk Tp 19 both19:=by
  refine primOk_pure (pol:=polSo) (fn:=Try.f19) (cd:=B19) follows_mixed soundSo (by kernel_rfl) (by kernel_rfl) (fnokSo 19 _ (by kernel_rfl)) (by kernel_rfl) ?_
  intro args res h
  obtain ⟨p,a,b,rfl,hq⟩:=pllF_inv h
  clear h
  split at hq
  case isFalse=>cases hq
  rename_i hk
  cases hq
  obtain ⟨ha,hb⟩:=hk
  have s0:=bt_a_0 p (a.map encI) (b.map encI)
  have c47:∀ bb,inB p 2 97=bb → _:=fun bb hbb=>within_at' (pol':=polSo) (by kernel_rfl) p 2 97 [] (b:=bb) hbb
  have c51:p ≤ 1000 → ∀ k,callN Tp polSo (k+1) 51 [.int .i64 p] []=some (.bool (primeT p),[]):=fun hp=>bool_at (pol':=polSo) (g:=51) (F:=isPrime51) (by kernel_rfl) (rs:=[.int .i64 p]) rfl (by simp only [isPrime51]; rw [if_pos hp])
  have c52:∀ l:List Int,l.length ≤ 200 → (0 ≤ p∧p ≤ 1000) → ∀ k,callN Tp polSo (k+1) 52 [.int .i64 p,.imm .arg 1 (l.map encI)] []=some (.bool (setT p l),[]):=fun l hl hp=>by
    have hd:mapO decI (l.map encI)=some l:=mapO_map decI_enc l
    have hN:toArg [] 6 (.int .i64 p)=some (.int .i64 p):=rfl
    exact bool_at (pol':=polSo) (g:=52) (F:=isSet52) (by kernel_rfl) (rs:=[.int .i64 p,.imm .arg 1 (l.map encI)]) (by simp only [mapO,arg_li,hN]) (by simp only [isSet52,plF,hd]; rw [if_pos ⟨hp,by omega⟩])
  have bad:∀ {c:Bool},(inB p 2 97 && primeT p && setT p a && setT p b)=c → c=false → RT polSo 19 (sub [1,0] B19) (env19 (.int .i64 p) (.imm .arg 1 (a.map encI)) (.imm .arg 1 (b.map encI)) (.imm .lit 1 []) (.int .i64 0) Ud Ud Ud Ud Ud Ud Ud Ud Ud) [] .ret (env19 (.int .i64 p) (.imm .arg 1 (a.map encI)) (.imm .arg 1 (b.map encI)) (.imm .lit 1 []) (.int .i64 2) Ud Ud Ud Ud Ud Ud Ud Ud Ud) [] → ∃ E H v,RT polSo 19 B19 (args0 [.int .i64 p,.imm .arg 1 (a.map encI),.imm .arg 1 (b.map encI)]) [] .ret E H∧resultsV Tp Try.f19 E H=some v∧toRes H false v=some (.tuple [.own 1 ((bothR p a b).1.map encI),.int .i64 (bothR p a b).2]):=fun {c} h1 h2 s1=>by
    have u:=sq (s0) (sqo (s1) (c:=sub [1] B19) (b:=sub [1,1] B19)) (c:=B19)
    exact ⟨_,_,.tuple [.imm .lit 1 [],.int .i64 2],u,by simp only [resultsV,res19]; rfl,by rw [bothR,h1,h2]; rfl⟩
  have fin:∃ E H v,RT polSo 19 B19 (args0 [.int .i64 p,.imm .arg 1 (a.map encI),.imm .arg 1 (b.map encI)]) [] .ret E H∧resultsV Tp Try.f19 E H=some v∧toRes H false v=some (.tuple [.own 1 ((bothR p a b).1.map encI),.int .i64 (bothR p a b).2]):=by
    cases h1:inB p 2 97 with
    | false=>exact bad (c:=false) (by rw [h1]; rfl) rfl (bt_b_4 p (a.map encI) (b.map encI) (y8:=Ud) (y10:=Ud) (y12:=Ud) (y33:=Ud) (y34:=Ud) (y35:=Ud) (y39:=Ud) (y40:=Ud) (y41:=Ud) (c47 _ h1))
    | true =>
      have hp:=of_decide_eq_true h1
      cases h2:primeT p with
      | false =>
        have k51:=c51 (by omega)
        rw [h2] at k51
        exact bad (c:=false) (by rw [h1,h2]; rfl) rfl (bt_b_3 p (a.map encI) (b.map encI) (y8:=Ud) (y10:=Ud) (y12:=Ud) (y33:=Ud) (y34:=Ud) (y35:=Ud) (y39:=Ud) (y40:=Ud) (y41:=Ud) (c47 _ h1) k51)
      | true =>
        have k51:=c51 (by omega)
        rw [h2] at k51
        have ka:=c52 a ha (by omega)
        have kb:=c52 b hb (by omega)
        cases h3:setT p a with
        | false =>
          rw [h3] at ka
          exact bad (c:=false) (by rw [h1,h2,h3]; rfl) rfl (bt_b_2 p (a.map encI) (b.map encI) (y8:=Ud) (y10:=Ud) (y12:=Ud) (y33:=Ud) (y34:=Ud) (y35:=Ud) (y39:=Ud) (y40:=Ud) (y41:=Ud) (c47 _ h1) k51 ka)
        | true =>
          rw [h3] at ka
          cases h4:setT p b with
          | false =>
            rw [h4] at kb
            exact bad (c:=false) (by rw [h1,h2,h3,h4]; rfl) rfl (bt_b_1 p (a.map encI) (b.map encI) (y8:=Ud) (y10:=Ud) (y12:=Ud) (y33:=Ud) (y34:=Ud) (y35:=Ud) (y39:=Ud) (y40:=Ud) (y41:=Ud) (c47 _ h1) k51 ka kb)
          | true =>
            rw [h4] at kb
            have s1:=bt_b_0 p (a.map encI) (b.map encI) (y8:=Ud) (y10:=Ud) (y12:=Ud) (y33:=Ud) (y34:=Ud) (y35:=Ud) (y39:=Ud) (y40:=Ud) (y41:=Ud) (c47 _ h1) k51 ka kb
            have s2:=bt_c_0 p (a.map encI) (b.map encI) (y8:=Ud) (y10:=Ud) (y12:=Ud) (y33:=Ud) (y34:=Ud) (y35:=Ud) (y39:=Ud) (y40:=Ud) (y41:=Ud)
            have s3:=bt_d_0 p (a.map encI) (b.map encI) 0 [] (y10:=Ud) (y12:=Ud) (y33:=Ud) (y34:=Ud) (y35:=Ud) (y39:=Ud) (y40:=Ud) (y41:=Ud)
            rw [List.length_map] at s3
            obtain ⟨y10,y35,y39,y40,y41,r⟩:=bt_out hp ha hb (setT_in h3) (setT_in h4) a.length 0 [] (by omega) (by simp)
            rw [List.drop_zero,List.nil_append] at r
            have eS:(a.flatMap fun x=>b.map fun y=>(x+y) % p)=bothS p a b:=rfl
            rw [eS] at r
            have hlen:(bothS p a b).length ≤ 60000:=by
              rw [bothS_len]
              have:=Nat.mul_le_mul ha hb
              omega
            obtain ⟨l',q1,q2,q3⟩:=sortI_ok (H:=[bI (bothS p a b)]) (db:=0) (cap:=none) hlen rfl rfl (Nat.zero_le _)
            have e0:[bI (bothS p a b)].set 0 (bI l')=[bI l']:=rfl
            rw [e0] at q1
            obtain ⟨T,w1,w2⟩:=compact_ok (H:=[bI l']) (b:=0) (l:=l') (n:=(bothS p a b).length) rfl hlen q2.length_eq (Nat.zero_le _)
            have ec:cT l' (bothS p a b).length=bothT p a b:=by rw [← q2.length_eq]; exact both_sorted (by omega) q2 q3
            rw [ec] at w1 w2
            obtain ⟨N1,n1⟩:=q1.from
            obtain ⟨N2,n2⟩:=w1.from
            have s4:=bt_j_0 (max N1 N2) p (a.map encI) (b.map encI) (bothS p a b).length (bothT p a b).length [bI (bothS p a b)] (y10:=y10) (y12:=Ud) (y33:=.imm .arg 1 (a.map encI)) (y34:=.int .i64 (a.length:Int)) (y35:=y35) (y39:=y39) (y40:=y40) (y41:=y41) (fun kf h=>n1 kf (by omega)) (fun kf h=>n2 kf (by omega))
            have u:=sq (s0) (sq (s1) (sq (s2) (sq (sq (s3) (bke (c:=sub [1,1,1,0,1] B19) (lpi (e0:=(btE p a b 0 Ud Ud (.imm .arg 1 (a.map encI)) (.int .i64 (a.length:Int)) (.int .i64 ((0:Nat):Int)) Ud Ud Ud)) r (b:=sub [1,1,1,0,1,0,0] B19))) (c:=sub [1,1,1,0] B19)) (s4) (c:=sub [1,1,1] B19)) (c:=sub [1,1] B19)) (c:=sub [1] B19)) (c:=B19)
            refine ⟨_,_,.tuple [.sl 0 0 (bothT p a b).length none (bothS p a b).length 1,.int .i64 0],u,by simp only [resultsV,res19]; rfl,?_⟩
            have hR:bothR p a b=(bothT p a b,0):=by rw [bothR,h1,h2,h3,h4]; rfl
            rw [hR]
            have hv:view [bI (bothT p a b ++ T)] 0 0 (bothT p a b).length (bothS p a b).length 1=some ((bothT p a b).map encI):=by
              simp only [view,List.getElem?_cons_zero,bI]
              rw [if_pos ⟨by simpa using w2.symm,by simp,trivial⟩]
              simp
            have hr:(resElem [bI (bothT p a b ++ T)] [0] false)=frz [bI (bothT p a b ++ T)] [0] 4:=by funext v; rfl
            have hc:resCell [bI (bothT p a b ++ T)] [0] false (.sl 0 0 (bothT p a b).length none (bothS p a b).length 1)=some (.own 1 ((bothT p a b).map encI)):=by
              simp only [resCell,List.getElem?_cons_zero,bI,if_true] at hv ⊢
              simp only [hv]
              have hr':(resElem [Blk.arr 1 ((bothT p a b ++ T).map encI) true 0] [0] false)=frz [Blk.arr 1 ((bothT p a b ++ T).map encI) true 0] [0] 4:=by funext v; rfl
              rw [hr',mapO_self (fun r=>frz_int 4 r) _]
            have ho:ownedAll [bI (bothT p a b ++ T)] false (.tuple [.sl 0 0 (bothT p a b).length none (bothS p a b).length 1,.int .i64 0])=[0]:=by simp [ownedAll,cellsOf,owned]
            show toRes [bI (bothT p a b ++ T)] false _=_
            simp only [toRes,ho,List.nodup_cons,List.not_mem_nil,not_false_eq_true,List.nodup_nil,and_self,if_true,resVal,mapO,hc]
            rfl
  obtain ⟨E,H,v,u,hv,ht⟩:=fin
  exact ⟨_,_,_,v,u,by simp,hv,ht⟩
end Go.Proofs.Ytaibmipamkaljaa
end
section
open Go Go.HL Go.HL.So
namespace Go.Proofs.Ytaibmipamkaljaa
open Go.Proofs.Try renaming prog → Tp
open Go.HL.HV renaming undef → Ud
theorem res22:Try.f22.results.toList=[.tmp 6]:=by kernel_rfl
def rboth22:List HV → Option HV:=pllF fun p a b=>if (1 ≤ p∧p ≤ 1000)∧(a.length ≤ 200∧b.length ≤ 200)∧(a.all fun x=>decide (0 ≤ x∧x < p))=true∧(b.all fun x=>decide (0 ≤ x∧x < p))=true then some (.own 1 ((bothT p a b).map encI)) else none
def BIp (n:Nat) (D:List Int) (T:List Bool):Prop:=T.length=n∧∀ r:Nat,r < n → T.getD r false=decide ((r:Int) ∈ D)
theorem BIp.put {n:Nat} {D:List Int} {T:List Bool} (h:BIp n D T) {v:Int} (h0:0 ≤ v) (h1:v.toNat < n):BIp n (D ++ [v]) (T.set v.toNat true):=by
  refine ⟨by rw [List.length_set]; exact h.1,fun r hr=>?_⟩
  simp only [List.getD,List.getElem?_set]
  by_cases e:v.toNat=r
  · rw [if_pos e,if_pos (by rw [h.1]; omega)]
    have:(r:Int)=v:=by omega
    rw [Option.getD_some,decide_eq_true (by rw [this]; simp)]
  · rw [if_neg e]
    have h2:=h.2 r hr
    simp only [List.getD] at h2
    rw [h2]
    congr 1
    have:¬ (r:Int)=v:=by omega
    simp [this]
section
variable {p:Int} {a b:List Int}
abbrev rhE (p:Int) (a b:List Int) (v8 v9 v10 v11:HV):Env:=env22 (.int .i64 p) (.imm .arg 1 (a.map encI)) (.imm .arg 1 (b.map encI)) (.imm .lit 1 []) (.sl 0 0 p.toNat (some p.toNat) p.toNat 1) v8 v9 v10 v11
theorem stT0 {T:List Bool} {q c:Nat} {R:Heap} (hq:T.length=q) (hc:c < q) (v:Bool):storeV Tp (bT T :: R) 4 (.ptr 0 c 0 q) (.bool v)=some (bT (T.set c v) :: R):=by
  have hi:(T.map HV.bool)[c]?=some (.bool T[c]):=by rw [List.getElem?_map,List.getElem?_eq_getElem (by omega)]; rfl
  have:=store_elem (P:=Tp) (t:=4) (b:=0) (tot:=q) (v:=.bool v) (H:=bT T :: R) rfl (by simp [hq]) hi rfl (by intro cs h; cases h) z4 rfl rfl rfl
  rw [this,← List.map_set]; rfl
theorem ldT0 {T:List Bool} {q c:Nat} {R:Heap} (hq:T.length=q) (hc:c < q):loadV Tp (bT T :: R) 4 (.ptr 0 c 0 q)=some (.bool (T.getD c false)) :=
  load_elem (b:=0) (els:=T.map .bool) rfl (by simp [hq]) (by rw [List.getElem?_map,List.getElem?_eq_getElem (by omega)]; simp [List.getD,List.getElem?_eq_getElem (show c < T.length by omega)]) rfl a4 i4
theorem ixT0 {m i:Nat} (h:i < m):idxV Tp 74 (.sl 0 0 m (some m) m 1) (.int .i64 (i:Int))=some (.ptr 0 i 0 m):=by
  have:=idx_sl (P:=Tp) (t:=74) (b:=0) (len:=m) (tot:=m) (cap:=some m) (ik:=.i64) (n:=(i:Int)) u74 z4 (by omega) (by omega)
  rwa [Int.toNat_natCast] at this
theorem rh_in (hp:1 ≤ p∧p ≤ 1000) (hb:b.length ≤ 200) (haB:∀ y ∈ a,0 ≤ y∧y < p) (hbB:∀ y ∈ b,0 ≤ y∧y < p) {i:Nat} (hi:i < a.length):∀ k j (D:List Int) (T:List Bool),j+k=b.length → BIp p.toNat D T →
    ∃ T' y9,RT pol 22 (sub [1,1,0,1,0,0,1,0,0,1,0] B22) (rhE p a b (.int .i64 (i:Int)) (.int .i64 (j:Int)) Ud Ud) [bT T] (.exit 2)
      (rhE p a b (.int .i64 (i:Int)) y9 Ud Ud) [bT T']∧BIp p.toNat (D ++ (b.drop j).map fun y=>(a.getD i 0+y) % p) T':=by
  intro k
  induction k with
  | zero =>
    intro j D T hj hT
    have s:=rh_f_1 p (a.map encI) (b.map encI) p.toNat (T.map .bool) i j (y10:=Ud) (y11:=Ud) (by rw [List.length_map]; omega)
    exact ⟨T,_,lpo (s) (c:=sub [1,1,0,1,0,0,1,0,0,1,0] B22),by rw [List.drop_of_length_le (by omega)]; simpa using hT⟩
  | succ k ih =>
    intro j D T hj hT
    have hlt:j < b.length:=by omega
    have hy:=hbB (b.getD j 0) (by rw [List.getD,List.getElem?_eq_getElem hlt]; exact List.getElem_mem hlt)
    have hx:=haB (a.getD i 0) (by rw [List.getD,List.getElem?_eq_getElem hi]; exact List.getElem_mem hi)
    have w:IntKind.i64.wrap (a.getD i 0+b.getD j 0)=a.getD i 0+b.getD j 0:=wrap_id (by omega) (by omega)
    have t:(a.getD i 0+b.getD j 0).tmod p=(a.getD i 0+b.getD j 0) % p:=Int.tmod_eq_emod_of_nonneg (by omega)
    have m:=mod_in (m:=p) (by omega) (a.getD i 0+b.getD j 0)
    have ix:=ixT0 (m:=p.toNat) (i:=((a.getD i 0+b.getD j 0) % p).toNat) (by omega)
    rw [Int.toNat_of_nonneg m.1] at ix
    have s:=rh_f_0 p (a.map encI) (b.map encI) p.toNat (T.map .bool) i j (y10:=Ud) (y11:=Ud) (el0:=(T.set ((a.getD i 0+b.getD j 0) % p).toNat true).map .bool) (by rw [List.length_map]; omega) (gx hi) (gx hlt) (rem3 (by omega)) (by rw [w,t]; exact ix) (by rw [w,t]; exact stT0 (R:=[]) hT.1 (by omega) true)
    rw [wrap_succ (by omega)] at s
    obtain ⟨T',y9,r,hT'⟩:=ih (j+1) (D ++ [(a.getD i 0+b.getD j 0) % p]) _ (by omega) (hT.put m.1 (by omega))
    exact ⟨T',y9,lop (s) (gc_eq _ rfl) (r),by rw [drop_cons (0:Int) hlt,List.map_cons,List.append_cons]; exact hT'⟩
theorem rh_out (hp:1 ≤ p∧p ≤ 1000) (ha:a.length ≤ 200) (hb:b.length ≤ 200) (haB:∀ y ∈ a,0 ≤ y∧y < p) (hbB:∀ y ∈ b,0 ≤ y∧y < p):∀ k i (D:List Int) (T:List Bool),i+k=a.length → BIp p.toNat D T →
    ∃ T' y8 y9,RT pol 22 (sub [1,1,0,1,0] B22) (rhE p a b (.int .i64 (i:Int)) Ud Ud Ud) [bT T] (.exit 0)
      (rhE p a b y8 y9 Ud Ud) [bT T']∧BIp p.toNat (D ++ bothS p (a.drop i) b) T':=by
  intro k
  induction k with
  | zero =>
    intro i D T hi hT
    have s:=rh_d_1 p (a.map encI) (b.map encI) p.toNat (T.map .bool) i (y9:=Ud) (y10:=Ud) (y11:=Ud) (by rw [List.length_map]; omega)
    exact ⟨T,_,_,lpo (sqo (s) (c:=sub [1,1,0,1,0,0] B22) (b:=sub [1,1,0,1,0,0,1] B22)) (c:=sub [1,1,0,1,0] B22),by rw [List.drop_of_length_le (by omega)]; simpa [bothS] using hT⟩
  | succ k ih =>
    intro i D T hi hT
    have hlt:i < a.length:=by omega
    have s1:=rh_d_0 p (a.map encI) (b.map encI) p.toNat (T.map .bool) i (y9:=Ud) (y10:=Ud) (y11:=Ud) (by rw [List.length_map]; omega)
    have s2:=rh_e_0 p (a.map encI) (b.map encI) p.toNat (T.map .bool) i (y9:=Ud) (y10:=Ud) (y11:=Ud)
    obtain ⟨T1,y9,r1,hT1⟩:=rh_in hp hb haB hbB hlt b.length 0 D T (by omega) hT
    rw [List.drop_zero] at hT1
    have s3:=rh_g_0 p (a.map encI) (b.map encI) p.toNat (T1.map .bool) i (y9:=y9) (y10:=Ud) (y11:=Ud)
    rw [wrap_succ (by omega)] at s3
    obtain ⟨T',y8,z9,r,hT'⟩:=ih (i+1) _ T1 (by omega) hT1
    refine ⟨T',y8,z9,lop (sq (s1) (sq (RunsTo.block_normal (i:=1) (c:=sub [1,1,0,1,0,0,1,0] B22) (sq (s2) (bke (c:=sub [1,1,0,1,0,0,1,0,0,1] B22) (lpi (e0:=(rhE p a b (.int .i64 (i:Int)) (.int .i64 ((0:Nat):Int)) Ud Ud)) r1 (b:=sub [1,1,0,1,0,0,1,0,0,1,0,0] B22))) (c:=sub [1,1,0,1,0,0,1,0,0] B22)) (by kernel_rfl)) (s3) (c:=sub [1,1,0,1,0,0,1] B22)) (c:=sub [1,1,0,1,0,0] B22)) (gc_eq _ rfl) (r),?_⟩
    have:bothS p (a.drop i) b=b.map (fun y=>(a.getD i 0+y) % p) ++ bothS p (a.drop (i+1)) b:=by rw [drop_cons (0:Int) hlt]; rfl
    rw [this,← List.append_assoc]
    exact hT'
theorem rh_fin (hp:1 ≤ p∧p ≤ 1000) {D:List Int} {T:List Bool} (hT:BIp p.toNat D T):∀ k r (os:List Int),r+k=p.toNat → os.length ≤ r →
    ∃ y11,RT pol 22 (sub [1,1,1,1,0,1,0] B22) (rhE p a b Ud Ud (.sl 1 0 os.length none os.length 1) (.int .i64 (r:Int))) [bT T,bI os] (.exit 4)
      (rhE p a b Ud Ud (.sl 1 0 (os ++ ((List.range' r k).filter fun (r:Nat)=>decide ((r:Int) ∈ D)).map fun (r:Nat)=>(r:Int)).length none (os ++ ((List.range' r k).filter fun (r:Nat)=>decide ((r:Int) ∈ D)).map fun (r:Nat)=>(r:Int)).length 1) y11) [bT T,bI (os ++ ((List.range' r k).filter fun (r:Nat)=>decide ((r:Int) ∈ D)).map fun (r:Nat)=>(r:Int))]:=by
  intro k
  induction k with
  | zero =>
    intro r os hr ho
    have s:=rh_j_2 p (a.map encI) (b.map encI) p.toNat (T.map .bool) os.length (os.map encI) r (y8:=Ud) (y9:=Ud) (by omega)
    exact ⟨_,by simpa using lpo (s) (c:=sub [1,1,1,1,0,1,0] B22)⟩
  | succ k ih =>
    intro r os hr ho
    have hT2:=hT.2 r (by omega)
    have ix:=ixT0 (m:=p.toNat) (i:=r) (by omega)
    have ld:=ldT0 (T:=T) (q:=p.toNat) (c:=r) (R:=[bI os]) hT.1 (by omega)
    rw [hT2] at ld
    rw [List.range'_succ]
    by_cases c:(r:Int) ∈ D
    · rw [decide_eq_true c] at ld
      have ap:=app_big (H:=[bT T,bI os]) (bb:=1) (o:=os) rfl (by omega) (r:Int)
      have s:=rh_j_0 p (a.map encI) (b.map encI) p.toNat (T.map .bool) os.length (os.map encI) r (y8:=Ud) (y9:=Ud) (by omega) ix ld (ap.trans (by simp only [bI,List.map_append]; rfl))
      rw [wrap_succ (by omega)] at s
      obtain ⟨y11,n⟩:=ih (r+1) (os ++ [(r:Int)]) (by omega) (by simp; omega)
      have e1:os ++ ((r :: List.range' (r+1) k).filter fun (r:Nat)=>decide ((r:Int) ∈ D)).map (fun (r:Nat)=>(r:Int))=os ++ [(r:Int)] ++ ((List.range' (r+1) k).filter fun (r:Nat)=>decide ((r:Int) ∈ D)).map fun (r:Nat)=>(r:Int):=by
        rw [List.filter_cons,if_pos (decide_eq_true c),List.map_cons,List.append_assoc]; rfl
      rw [e1]
      have e2:[Blk.arr 1 (T.map .bool) true 0,Blk.arr 1 (os.map encI ++ [.int .i64 (r:Int)]) true 0]=[bT T,bI (os ++ [(r:Int)])]:=by simp only [bI,bT,List.map_append]; rfl
      rw [e2] at s
      rw [List.length_append,List.length_singleton] at n
      exact ⟨y11,lop (s) (gc_eq _ rfl) (n)⟩
    · rw [decide_eq_false c] at ld
      have s:=rh_j_1 p (a.map encI) (b.map encI) p.toNat (T.map .bool) os.length (os.map encI) r (y8:=Ud) (y9:=Ud) (by omega) ix ld
      rw [wrap_succ (by omega)] at s
      obtain ⟨y11,n⟩:=ih (r+1) os (by omega) (by omega)
      have e1:((r :: List.range' (r+1) k).filter fun (r:Nat)=>decide ((r:Int) ∈ D))=(List.range' (r+1) k).filter fun (r:Nat)=>decide ((r:Int) ∈ D):=by
        rw [List.filter_cons,if_neg (by simp [c])]
      rw [e1]
      exact ⟨y11,lop (s) (gc_eq _ rfl) (n)⟩
end
theorem rboth_ok:PrimOk Tp 22 rboth22:=by
  refine primOk_pure (pol:=pol) (fn:=Try.f22) (cd:=B22) follows_mixed sound (by kernel_rfl) (by kernel_rfl) (fnok pol.prim _ _ (by kernel_rfl)) (by kernel_rfl) ?_
  intro args res h
  obtain ⟨p,a,b,rfl,hq⟩:=pllF_inv h
  clear h
  split at hq
  case isFalse=>cases hq
  rename_i hk
  cases hq
  obtain ⟨hp,⟨ha,hb⟩,haB,hbB⟩:=hk
  simp only [List.all_eq_true,decide_eq_true_eq] at haB hbB
  have s0:=rh_a_0 p (a.map encI) (b.map encI)
  have mk:=makeV_ok (P:=Tp) (H:=[]) (t:=74) (n:=p) u74 info4 rfl rfl (by omega) (by omega) (by simp only [roomMax]; omega)
  have s1:=rh_b_0 p (a.map encI) (b.map encI) p.toNat (y7:=Ud) (y8:=Ud) (y9:=Ud) (y10:=Ud) (y11:=Ud) mk
  have s2:=rh_c_0 p (a.map encI) (b.map encI) p.toNat (List.replicate p.toNat (.bool false)) (y8:=Ud) (y9:=Ud) (y10:=Ud) (y11:=Ud)
  have e0:([.arr 1 (List.replicate p.toNat (.bool false)) true 0]:Heap)=[bT (List.replicate p.toNat false)]:=by simp [bT]
  rw [e0] at s1 s2
  obtain ⟨T,y8,y9,r,hT⟩:=rh_out hp ha hb haB hbB a.length 0 [] (List.replicate p.toNat false) (by omega) ⟨by simp,fun r hr=>by simp [List.getD,List.getElem?_replicate,hr]⟩
  rw [List.drop_zero,List.nil_append] at hT
  have s3:=rh_h_0 p (a.map encI) (b.map encI) p.toNat (T.map .bool) (y8:=y8) (y9:=y9) (y10:=Ud) (y11:=Ud)
  have s4:=rh_i_0 p (a.map encI) (b.map encI) p.toNat (T.map .bool) 0 [] (y8:=y8) (y9:=y9) (y11:=Ud)
  obtain ⟨y11,r2⟩:=rh_fin (a:=a) (b:=b) hp hT p.toNat 0 [] (by omega) (by simp)
  rw [List.nil_append,← List.range_eq_range'] at r2
  have eT:((List.range p.toNat).filter fun (r:Nat)=>decide ((r:Int) ∈ bothS p a b)).map (fun (r:Nat)=>(r:Int))=bothT p a b:=rfl
  rw [eT] at r2
  have s5:=rh_k_0 p (a.map encI) (b.map encI) p.toNat (T.map .bool) (bothT p a b).length ((bothT p a b).map encI) (y11:=y11) (y8:=Ud) (y9:=Ud)
  have u:=sq (s0) (sq (s1) (sq (sq (s2) (bke (c:=sub [1,1,0,1] B22) (lpi (e0:=(rhE p a b (.int .i64 ((0:Nat):Int)) Ud Ud Ud)) r (b:=sub [1,1,0,1,0,0] B22))) (c:=sub [1,1,0] B22)) (sq (s3) (sq (sq (s4) (bke (c:=sub [1,1,1,1,0,1] B22) (lpi (e0:=(rhE p a b y8 y9 (.sl 1 0 0 none 0 1) (.int .i64 ((0:Nat):Int)))) r2 (b:=sub [1,1,1,1,0,1,0,0] B22))) (c:=sub [1,1,1,1,0] B22)) (s5) (c:=sub [1,1,1,1] B22)) (c:=sub [1,1,1] B22)) (c:=sub [1,1] B22)) (c:=sub [1] B22)) (c:=B22)
  exact ⟨_,_,_,.sl 1 0 (bothT p a b).length none (bothT p a b).length 1,u,by simp,by simp only [resultsV,res22]; rfl,res_li rfl rfl⟩
end Go.Proofs.Ytaibmipamkaljaa
end
section
open Go Go.HL
namespace Go.Proofs.Ytaibmipamkaljaa
open Go.Proofs.Try renaming prog → Tp
open Go.HL.HV renaming undef → Ud
def prL4:FuncId → Option (List HV → Option HV):=fun g=>if g == 16 then some awakeF else if g == 14 then some list14 else if g == 19 then some both19 else if g == 20 then some rprime20 else if g == 21 then some rset21 else if g == 22 then some rboth22 else if g == 17 then some ints17 else none
def polL4:Pol:={ pol with prim:=prL4 }
theorem soundL4 (n:Nat):CallSound Tp (callN Tp polL4 n):=sound_prim prL4 (fun g f h=>by
  unfold prL4 at h
  split at h
  · rename_i hg; cases h; rw [eq_of_beq hg]; exact awake_prim
  split at h
  · rename_i hg; cases h; rw [eq_of_beq hg]; exact list_ok
  split at h
  · rename_i hg; cases h; rw [eq_of_beq hg]; exact both_ok
  split at h
  · rename_i hg; cases h; rw [eq_of_beq hg]; exact rprime_ok
  split at h
  · rename_i hg; cases h; rw [eq_of_beq hg]; exact rset_ok
  split at h
  · rename_i hg; cases h; rw [eq_of_beq hg]; exact rboth_ok
  split at h
  · rename_i hg; cases h; rw [eq_of_beq hg]; exact ints_ok
  · cases h) n
end Go.Proofs.Ytaibmipamkaljaa
end
section
open Go Go.HL
namespace Go.Proofs.Ytaibmipamkaljaa
set_option maxRecDepth 100000
open Go.Proofs.Try renaming prog → Tp
open Go.HL.HV renaming undef → Ud
noncomputable def B4:Code:=Try.f4.body.getD .skip
abbrev env4 (v0 v1 v2 v6 v7 v8 v9 v10:HV):Env:=[(0,v0),(1,v1),(2,v2),(6,v6),(7,v7),(8,v8),(9,v9),(10,v10)]
theorem sb_0 (p:Int) (a b:List HV) (er:Int) (p0:Nat) (h0:List HV) (p1:Nat) (h1:List HV) (p2:Nat) (h2:List HV) (p3:Nat) (h3:List HV)(g0:∀ kf,callN Tp polL4 (kf+1) 14 [.imm .arg 1 a] []=some (.sl 0 0 p0 none p0 1,[.arr 1 h0 true 0])) (g1:∀ kf,callN Tp polL4 (kf+1) 14 [.imm .arg 1 b] [.arr 1 h0 true 0]=some (.sl 1 0 p1 none p1 1,[.arr 1 h0 true 0,.arr 1 h1 true 0])) (g2:∀ kf,callN Tp polL4 (kf+1) 19 [.i p,.sl 0 0 p0 none p0 1,.sl 1 0 p1 none p1 1] [.arr 1 h0 true 0,.arr 1 h1 true 0]=some (.tuple [.sl 2 0 p2 none p2 1,.i er],[.arr 1 h0 true 0,.arr 1 h1 true 0,.arr 1 h2 true 0])) (g3:∀ kf,callN Tp polL4 (kf+1) 20 [.i p] [.arr 1 h0 true 0,.arr 1 h1 true 0,.arr 1 h2 true 0]=some (.bool true,[.arr 1 h0 true 0,.arr 1 h1 true 0,.arr 1 h2 true 0])) (g4:∀ kf,callN Tp polL4 (kf+1) 21 [.i p,.sl 0 0 p0 none p0 1] [.arr 1 h0 true 0,.arr 1 h1 true 0,.arr 1 h2 true 0]=some (.bool true,[.arr 1 h0 true 0,.arr 1 h1 true 0,.arr 1 h2 true 0])) (g5:∀ kf,callN Tp polL4 (kf+1) 21 [.i p,.sl 1 0 p1 none p1 1] [.arr 1 h0 true 0,.arr 1 h1 true 0,.arr 1 h2 true 0]=some (.bool true,[.arr 1 h0 true 0,.arr 1 h1 true 0,.arr 1 h2 true 0])) (g6:∀ kf,callN Tp polL4 (kf+1) 22 [.i p,.sl 0 0 p0 none p0 1,.sl 1 0 p1 none p1 1] [.arr 1 h0 true 0,.arr 1 h1 true 0,.arr 1 h2 true 0]=some (.sl 3 0 p3 none p3 1,[.arr 1 h0 true 0,.arr 1 h1 true 0,.arr 1 h2 true 0,.arr 1 h3 true 0])) (g7:∀ kf,callN Tp polL4 (kf+1) 17 [.sl 2 0 p2 none p2 1,.sl 3 0 p3 none p3 1] [.arr 1 h0 true 0,.arr 1 h1 true 0,.arr 1 h2 true 0,.arr 1 h3 true 0]=some (.bool true,[.arr 1 h0 true 0,.arr 1 h1 true 0,.arr 1 h2 true 0,.arr 1 h3 true 0])) (g8:er=0) (g9:∀ kf,callN Tp polL4 (kf+1) 16 [] [.arr 1 h0 true 0,.arr 1 h1 true 0,.arr 1 h2 true 0,.arr 1 h3 true 0]=some (.bool true,[.arr 1 h0 true 0,.arr 1 h1 true 0,.arr 1 h2 true 0,.arr 1 h3 true 0])):RT polL4 4 (sub [] B4) [(0,.i p),(1,.imm .arg 1 a),(2,.imm .arg 1 b)] [] .ret (env4 (.i p) (.imm .arg 1 a) (.imm .arg 1 b) (.bool true) (.sl 0 0 p0 none p0 1) (.sl 1 0 p1 none p1 1) (.sl 2 0 p2 none p2 1) (.i er)) [.arr 1 h0 true 0,.arr 1 h1 true 0,.arr 1 h2 true 0,.arr 1 h3 true 0] :=
  RunsTo.hin 0 60 [⟨1,1,.sl 0 0 p0 none p0 1,[.arr 1 h0 true 0]⟩,⟨1,3,.sl 1 0 p1 none p1 1,[.arr 1 h0 true 0,.arr 1 h1 true 0]⟩,⟨2,3,.tuple [.sl 2 0 p2 none p2 1,.i er],[.arr 1 h0 true 0,.arr 1 h1 true 0,.arr 1 h2 true 0]⟩,⟨3,1,.bool true,[.arr 1 h0 true 0,.arr 1 h1 true 0,.arr 1 h2 true 0]⟩,⟨3,6,.bool true,[.arr 1 h0 true 0,.arr 1 h1 true 0,.arr 1 h2 true 0]⟩,⟨3,12,.bool true,[.arr 1 h0 true 0,.arr 1 h1 true 0,.arr 1 h2 true 0]⟩,⟨5,4,.sl 3 0 p3 none p3 1,[.arr 1 h0 true 0,.arr 1 h1 true 0,.arr 1 h2 true 0,.arr 1 h3 true 0]⟩,⟨5,5,.bool true,[.arr 1 h0 true 0,.arr 1 h1 true 0,.arr 1 h2 true 0,.arr 1 h3 true 0]⟩,⟨5,8,.bool true,[.arr 1 h0 true 0,.arr 1 h1 true 0,.arr 1 h2 true 0,.arr 1 h3 true 0]⟩,⟨5,11,.bool true,[.arr 1 h0 true 0,.arr 1 h1 true 0,.arr 1 h2 true 0,.arr 1 h3 true 0]⟩] fun kf hk=>⟨_,by kernel_rfl,(oC (g0 kf) (oC (g1 kf) (oC (g2 kf) (oC (g3 kf) (oC (g4 kf) (oC (g5 kf) (oC (g6 kf) (oC (g7 kf) (oB [.arr 1 h0 true 0,.arr 1 h1 true 0,.arr 1 h2 true 0,.arr 1 h3 true 0] (decide_eq_true g8) (oC (g9 kf) .nil))))))))))⟩
theorem sb_2 (p:Int) (a b:List HV) (er:Int) (p0:Nat) (h0:List HV) (p1:Nat) (h1:List HV) (p2:Nat) (h2:List HV) (p3:Nat) (h3:List HV)(g0:∀ kf,callN Tp polL4 (kf+1) 14 [.imm .arg 1 a] []=some (.sl 0 0 p0 none p0 1,[.arr 1 h0 true 0])) (g1:∀ kf,callN Tp polL4 (kf+1) 14 [.imm .arg 1 b] [.arr 1 h0 true 0]=some (.sl 1 0 p1 none p1 1,[.arr 1 h0 true 0,.arr 1 h1 true 0])) (g2:∀ kf,callN Tp polL4 (kf+1) 19 [.i p,.sl 0 0 p0 none p0 1,.sl 1 0 p1 none p1 1] [.arr 1 h0 true 0,.arr 1 h1 true 0]=some (.tuple [.sl 2 0 p2 none p2 1,.i er],[.arr 1 h0 true 0,.arr 1 h1 true 0,.arr 1 h2 true 0])) (g3:∀ kf,callN Tp polL4 (kf+1) 20 [.i p] [.arr 1 h0 true 0,.arr 1 h1 true 0,.arr 1 h2 true 0]=some (.bool true,[.arr 1 h0 true 0,.arr 1 h1 true 0,.arr 1 h2 true 0])) (g4:∀ kf,callN Tp polL4 (kf+1) 21 [.i p,.sl 0 0 p0 none p0 1] [.arr 1 h0 true 0,.arr 1 h1 true 0,.arr 1 h2 true 0]=some (.bool true,[.arr 1 h0 true 0,.arr 1 h1 true 0,.arr 1 h2 true 0])) (g5:∀ kf,callN Tp polL4 (kf+1) 21 [.i p,.sl 1 0 p1 none p1 1] [.arr 1 h0 true 0,.arr 1 h1 true 0,.arr 1 h2 true 0]=some (.bool false,[.arr 1 h0 true 0,.arr 1 h1 true 0,.arr 1 h2 true 0])) (g6:(p2:Int)=0) (g7:er=2) (g8:∀ kf,callN Tp polL4 (kf+1) 16 [] [.arr 1 h0 true 0,.arr 1 h1 true 0,.arr 1 h2 true 0]=some (.bool true,[.arr 1 h0 true 0,.arr 1 h1 true 0,.arr 1 h2 true 0])):RT polL4 4 (sub [] B4) [(0,.i p),(1,.imm .arg 1 a),(2,.imm .arg 1 b)] [] .ret (env4 (.i p) (.imm .arg 1 a) (.imm .arg 1 b) (.bool true) (.sl 0 0 p0 none p0 1) (.sl 1 0 p1 none p1 1) (.sl 2 0 p2 none p2 1) (.i er)) [.arr 1 h0 true 0,.arr 1 h1 true 0,.arr 1 h2 true 0] :=
  RunsTo.hin 0 60 [⟨1,1,.sl 0 0 p0 none p0 1,[.arr 1 h0 true 0]⟩,⟨1,3,.sl 1 0 p1 none p1 1,[.arr 1 h0 true 0,.arr 1 h1 true 0]⟩,⟨2,3,.tuple [.sl 2 0 p2 none p2 1,.i er],[.arr 1 h0 true 0,.arr 1 h1 true 0,.arr 1 h2 true 0]⟩,⟨3,1,.bool true,[.arr 1 h0 true 0,.arr 1 h1 true 0,.arr 1 h2 true 0]⟩,⟨3,6,.bool true,[.arr 1 h0 true 0,.arr 1 h1 true 0,.arr 1 h2 true 0]⟩,⟨3,12,.bool false,[.arr 1 h0 true 0,.arr 1 h1 true 0,.arr 1 h2 true 0]⟩,⟨4,2,.bool true,[.arr 1 h0 true 0,.arr 1 h1 true 0,.arr 1 h2 true 0]⟩,⟨4,5,.bool true,[.arr 1 h0 true 0,.arr 1 h1 true 0,.arr 1 h2 true 0]⟩,⟨4,8,.bool true,[.arr 1 h0 true 0,.arr 1 h1 true 0,.arr 1 h2 true 0]⟩] fun kf hk=>⟨_,by kernel_rfl,(oC (g0 kf) (oC (g1 kf) (oC (g2 kf) (oC (g3 kf) (oC (g4 kf) (oC (g5 kf) (oB [.arr 1 h0 true 0,.arr 1 h1 true 0,.arr 1 h2 true 0] (decide_eq_true g6) (oB [.arr 1 h0 true 0,.arr 1 h1 true 0,.arr 1 h2 true 0] (decide_eq_true g7) (oC (g8 kf) .nil)))))))))⟩
theorem sb_5 (p:Int) (a b:List HV) (er:Int) (p0:Nat) (h0:List HV) (p1:Nat) (h1:List HV) (p2:Nat) (h2:List HV) (p3:Nat) (h3:List HV)(g0:∀ kf,callN Tp polL4 (kf+1) 14 [.imm .arg 1 a] []=some (.sl 0 0 p0 none p0 1,[.arr 1 h0 true 0])) (g1:∀ kf,callN Tp polL4 (kf+1) 14 [.imm .arg 1 b] [.arr 1 h0 true 0]=some (.sl 1 0 p1 none p1 1,[.arr 1 h0 true 0,.arr 1 h1 true 0])) (g2:∀ kf,callN Tp polL4 (kf+1) 19 [.i p,.sl 0 0 p0 none p0 1,.sl 1 0 p1 none p1 1] [.arr 1 h0 true 0,.arr 1 h1 true 0]=some (.tuple [.sl 2 0 p2 none p2 1,.i er],[.arr 1 h0 true 0,.arr 1 h1 true 0,.arr 1 h2 true 0])) (g3:∀ kf,callN Tp polL4 (kf+1) 20 [.i p] [.arr 1 h0 true 0,.arr 1 h1 true 0,.arr 1 h2 true 0]=some (.bool true,[.arr 1 h0 true 0,.arr 1 h1 true 0,.arr 1 h2 true 0])) (g4:∀ kf,callN Tp polL4 (kf+1) 21 [.i p,.sl 0 0 p0 none p0 1] [.arr 1 h0 true 0,.arr 1 h1 true 0,.arr 1 h2 true 0]=some (.bool false,[.arr 1 h0 true 0,.arr 1 h1 true 0,.arr 1 h2 true 0])) (g5:(p2:Int)=0) (g6:er=2) (g7:∀ kf,callN Tp polL4 (kf+1) 16 [] [.arr 1 h0 true 0,.arr 1 h1 true 0,.arr 1 h2 true 0]=some (.bool true,[.arr 1 h0 true 0,.arr 1 h1 true 0,.arr 1 h2 true 0])):RT polL4 4 (sub [] B4) [(0,.i p),(1,.imm .arg 1 a),(2,.imm .arg 1 b)] [] .ret (env4 (.i p) (.imm .arg 1 a) (.imm .arg 1 b) (.bool true) (.sl 0 0 p0 none p0 1) (.sl 1 0 p1 none p1 1) (.sl 2 0 p2 none p2 1) (.i er)) [.arr 1 h0 true 0,.arr 1 h1 true 0,.arr 1 h2 true 0] :=
  RunsTo.hin 0 60 [⟨1,1,.sl 0 0 p0 none p0 1,[.arr 1 h0 true 0]⟩,⟨1,3,.sl 1 0 p1 none p1 1,[.arr 1 h0 true 0,.arr 1 h1 true 0]⟩,⟨2,3,.tuple [.sl 2 0 p2 none p2 1,.i er],[.arr 1 h0 true 0,.arr 1 h1 true 0,.arr 1 h2 true 0]⟩,⟨3,1,.bool true,[.arr 1 h0 true 0,.arr 1 h1 true 0,.arr 1 h2 true 0]⟩,⟨3,6,.bool false,[.arr 1 h0 true 0,.arr 1 h1 true 0,.arr 1 h2 true 0]⟩,⟨4,2,.bool true,[.arr 1 h0 true 0,.arr 1 h1 true 0,.arr 1 h2 true 0]⟩,⟨4,5,.bool true,[.arr 1 h0 true 0,.arr 1 h1 true 0,.arr 1 h2 true 0]⟩,⟨4,8,.bool true,[.arr 1 h0 true 0,.arr 1 h1 true 0,.arr 1 h2 true 0]⟩] fun kf hk=>⟨_,by kernel_rfl,(oC (g0 kf) (oC (g1 kf) (oC (g2 kf) (oC (g3 kf) (oC (g4 kf) (oB [.arr 1 h0 true 0,.arr 1 h1 true 0,.arr 1 h2 true 0] (decide_eq_true g5) (oB [.arr 1 h0 true 0,.arr 1 h1 true 0,.arr 1 h2 true 0] (decide_eq_true g6) (oC (g7 kf) .nil))))))))⟩
theorem sb_8 (p:Int) (a b:List HV) (er:Int) (p0:Nat) (h0:List HV) (p1:Nat) (h1:List HV) (p2:Nat) (h2:List HV) (p3:Nat) (h3:List HV)(g0:∀ kf,callN Tp polL4 (kf+1) 14 [.imm .arg 1 a] []=some (.sl 0 0 p0 none p0 1,[.arr 1 h0 true 0])) (g1:∀ kf,callN Tp polL4 (kf+1) 14 [.imm .arg 1 b] [.arr 1 h0 true 0]=some (.sl 1 0 p1 none p1 1,[.arr 1 h0 true 0,.arr 1 h1 true 0])) (g2:∀ kf,callN Tp polL4 (kf+1) 19 [.i p,.sl 0 0 p0 none p0 1,.sl 1 0 p1 none p1 1] [.arr 1 h0 true 0,.arr 1 h1 true 0]=some (.tuple [.sl 2 0 p2 none p2 1,.i er],[.arr 1 h0 true 0,.arr 1 h1 true 0,.arr 1 h2 true 0])) (g3:∀ kf,callN Tp polL4 (kf+1) 20 [.i p] [.arr 1 h0 true 0,.arr 1 h1 true 0,.arr 1 h2 true 0]=some (.bool false,[.arr 1 h0 true 0,.arr 1 h1 true 0,.arr 1 h2 true 0])) (g4:(p2:Int)=0) (g5:er=2) (g6:∀ kf,callN Tp polL4 (kf+1) 16 [] [.arr 1 h0 true 0,.arr 1 h1 true 0,.arr 1 h2 true 0]=some (.bool true,[.arr 1 h0 true 0,.arr 1 h1 true 0,.arr 1 h2 true 0])):RT polL4 4 (sub [] B4) [(0,.i p),(1,.imm .arg 1 a),(2,.imm .arg 1 b)] [] .ret (env4 (.i p) (.imm .arg 1 a) (.imm .arg 1 b) (.bool true) (.sl 0 0 p0 none p0 1) (.sl 1 0 p1 none p1 1) (.sl 2 0 p2 none p2 1) (.i er)) [.arr 1 h0 true 0,.arr 1 h1 true 0,.arr 1 h2 true 0] :=
  RunsTo.hin 0 60 [⟨1,1,.sl 0 0 p0 none p0 1,[.arr 1 h0 true 0]⟩,⟨1,3,.sl 1 0 p1 none p1 1,[.arr 1 h0 true 0,.arr 1 h1 true 0]⟩,⟨2,3,.tuple [.sl 2 0 p2 none p2 1,.i er],[.arr 1 h0 true 0,.arr 1 h1 true 0,.arr 1 h2 true 0]⟩,⟨3,1,.bool false,[.arr 1 h0 true 0,.arr 1 h1 true 0,.arr 1 h2 true 0]⟩,⟨4,2,.bool true,[.arr 1 h0 true 0,.arr 1 h1 true 0,.arr 1 h2 true 0]⟩,⟨4,5,.bool true,[.arr 1 h0 true 0,.arr 1 h1 true 0,.arr 1 h2 true 0]⟩,⟨4,8,.bool true,[.arr 1 h0 true 0,.arr 1 h1 true 0,.arr 1 h2 true 0]⟩] fun kf hk=>⟨_,by kernel_rfl,(oC (g0 kf) (oC (g1 kf) (oC (g2 kf) (oC (g3 kf) (oB [.arr 1 h0 true 0,.arr 1 h1 true 0,.arr 1 h2 true 0] (decide_eq_true g4) (oB [.arr 1 h0 true 0,.arr 1 h1 true 0,.arr 1 h2 true 0] (decide_eq_true g5) (oC (g6 kf) .nil)))))))⟩
end Go.Proofs.Ytaibmipamkaljaa
end
section
open Go Go.HL
namespace Go.Proofs.Ytaibmipamkaljaa
open Go.Proofs.Try renaming prog → Tp
open Go.HL.HV renaming undef → Ud
theorem res4:Try.f4.results.toList=[.tmp 6]:=by kernel_rfl
theorem both_at {pol':Pol} (hp:pol'.prim 19=some both19) {p:Int} {a b:List Int} {v1 v2:HV} {H:Heap} (h1:argI H v1 a) (h2:argI H v2 b) (hl:a.length ≤ 200∧b.length ≤ 200) :
    ∀ k,callN Tp pol' (k+1) 19 [.int .i64 p,v1,v2] H=some (.tuple [.sl H.length 0 (bothR p a b).1.length none (bothR p a b).1.length 1,.int .i64 (bothR p a b).2],H ++ [bI (bothR p a b).1]):=fun k=>by
  have hd:mapO decI (a.map encI)=some a:=mapO_map decI_enc a
  have hd2:mapO decI (b.map encI)=some b:=mapO_map decI_enc b
  have hN:toArg H 6 (.int .i64 p)=some (.int .i64 p):=rfl
  unfold argI at h1 h2
  rw [prim_call (pol:=pol') (g:=19) (F:=both19) hp (rs:=[.int .i64 p,.imm .arg 1 (a.map encI),.imm .arg 1 (b.map encI)]) (by simp only [mapO,h1,h2,hN]) (res:=.tuple [.own 1 ((bothR p a b).1.map encI),.int .i64 (bothR p a b).2]) (by simp only [both19,pllF,hd,hd2]; rw [if_pos hl]),recv_li1]
theorem rprime_at {pol':Pol} (hp:pol'.prim 20=some rprime20) (p:Int) (H:Heap):∀ k,callN Tp pol' (k+1) 20 [.int .i64 p] H=some (.bool (rprimeT p),H) :=
  bool_at (g:=20) (F:=rprime20) hp (rs:=[.int .i64 p]) rfl rfl
theorem rset_at {pol':Pol} (hp:pol'.prim 21=some rset21) {p:Int} {l:List Int} {v:HV} {H:Heap} (h1:argI H v l) (hl:l.length ≤ 1000):∀ k,callN Tp pol' (k+1) 21 [.int .i64 p,v] H=some (.bool (setT p l),H):=by
  have hd:mapO decI (l.map encI)=some l:=mapO_map decI_enc l
  have hN:toArg H 6 (.int .i64 p)=some (.int .i64 p):=rfl
  unfold argI at h1
  exact bool_at (g:=21) (F:=rset21) hp (rs:=[.int .i64 p,.imm .arg 1 (l.map encI)]) (by simp only [mapO,h1,hN]) (by simp only [rset21,plF,hd]; rw [if_pos hl])
theorem rboth_at {pol':Pol} (hp:pol'.prim 22=some rboth22) {p:Int} {a b:List Int} {v1 v2:HV} {H:Heap} (h1:argI H v1 a) (h2:argI H v2 b) (hk:1 ≤ p∧p ≤ 1000) (hl:a.length ≤ 200∧b.length ≤ 200) (ha:setT p a=true) (hb:setT p b=true) :
    ∀ k,callN Tp pol' (k+1) 22 [.int .i64 p,v1,v2] H=some (.sl H.length 0 (bothT p a b).length none (bothT p a b).length 1,H ++ [bI (bothT p a b)]):=fun k=>by
  have hd:mapO decI (a.map encI)=some a:=mapO_map decI_enc a
  have hd2:mapO decI (b.map encI)=some b:=mapO_map decI_enc b
  have hN:toArg H 6 (.int .i64 p)=some (.int .i64 p):=rfl
  have qa:(a.all fun x=>decide (0 ≤ x∧x < p))=true:=by simp only [List.all_eq_true,decide_eq_true_eq]; exact setT_in ha
  have qb:(b.all fun x=>decide (0 ≤ x∧x < p))=true:=by simp only [List.all_eq_true,decide_eq_true_eq]; exact setT_in hb
  unfold argI at h1 h2
  rw [prim_call (pol:=pol') (g:=22) (F:=rboth22) hp (rs:=[.int .i64 p,.imm .arg 1 (a.map encI),.imm .arg 1 (b.map encI)]) (by simp only [mapO,h1,h2,hN]) (res:=.own 1 ((bothT p a b).map encI)) (by simp only [rboth22,pllF,hd,hd2]; rw [if_pos ⟨hk,hl,qa,qb⟩]),recv_ints]
theorem bothT_len (p:Int) (a b:List Int):(bothT p a b).length ≤ p.toNat:=by
  rw [bothT,List.length_map]
  exact Nat.le_trans (List.length_filter_le _ _) (by simp)
theorem sumsBoth_law (a0:Int) (l1 l2:List Int):∃ E H,RT polL4 4 B4 (args0 [.int .i64 a0,.imm .arg 1 (l1.map encI),.imm .arg 1 (l2.map encI)]) [] .ret E H∧E.get 6=.bool true:=by
  have c0:=list_at (pol':=polL4) (by kernel_rfl) (H:=[]) (argI_imm _ l1)
  have hXl:(l1.take 110).length ≤ 110:=by rw [List.length_take]; omega
  generalize l1.take 110=X at *
  have c1:=list_at (pol':=polL4) (by kernel_rfl) (H:=[bI X]) (argI_imm _ l2)
  have hYl:(l2.take 110).length ≤ 110:=by rw [List.length_take]; omega
  generalize l2.take 110=Y at *
  have c2:=both_at (pol':=polL4) (by kernel_rfl) (p:=a0) (a:=X) (b:=Y) (v1:=.sl 0 0 X.length none X.length 1) (v2:=.sl 1 0 Y.length none Y.length 1) (H:=[bI X,bI Y]) (argI_sl rfl rfl) (argI_sl rfl rfl) ⟨by omega,by omega⟩
  have aw:∀ H:Heap,_:=fun H=>awake_at (pol':=polL4) (by kernel_rfl) H
  have c20:∀ H:Heap,_:=fun H=>rprime_at (pol':=polL4) (by kernel_rfl) a0 H
  have cX:∀ R:Heap,_:=fun R=>rset_at (pol':=polL4) (by kernel_rfl) (p:=a0) (l:=X) (v:=.sl 0 0 X.length none X.length 1) (H:=bI X :: R) (argI_sl rfl rfl) (by omega)
  have cY:∀ R:Heap,_:=fun R=>rset_at (pol':=polL4) (by kernel_rfl) (p:=a0) (l:=Y) (v:=.sl 1 0 Y.length none Y.length 1) (H:=bI X :: bI Y :: R) (argI_sl rfl rfl) (by omega)
  have eq1:(inB a0 2 97 && primeT a0)=rprimeT a0:=by
    rw [rprimeT]
    cases h:primeT a0 with
    | false=>rw [Bool.and_false,Bool.and_false]
    | true =>
      have:=((primeT_iff a0).1 h).1
      rw [Bool.and_true,Bool.and_true,inB]
      congr 1
      simp; omega
  cases h1:rprimeT a0 with
  | false =>
    have e:bothR a0 X Y=([],2):=by rw [bothR,eq1,h1]; rfl
    rw [e] at c2
    have k20:=c20 [bI X,bI Y,bI []]
    rw [h1] at k20
    exact ⟨_,_,sb_8 a0 (l1.map encI) (l2.map encI) 2 X.length (X.map encI) Y.length (Y.map encI) 0 [] 0 [] c0 c1 c2 k20 rfl rfl (aw _),rfl⟩
  | true =>
    have hp:2 ≤ a0∧a0 ≤ 97:=by
      rw [← eq1,Bool.and_eq_true] at h1
      exact of_decide_eq_true h1.1
    cases h2:setT a0 X with
    | false =>
      have e:bothR a0 X Y=([],2):=by rw [bothR,eq1,h1,h2]; rfl
      rw [e] at c2
      have k20:=c20 [bI X,bI Y,bI []]
      rw [h1] at k20
      have kX:=cX [bI Y,bI []]
      rw [h2] at kX
      exact ⟨_,_,sb_5 a0 (l1.map encI) (l2.map encI) 2 X.length (X.map encI) Y.length (Y.map encI) 0 [] 0 [] c0 c1 c2 k20 kX rfl rfl (aw _),rfl⟩
    | true =>
      cases h3:setT a0 Y with
      | false =>
        have e:bothR a0 X Y=([],2):=by rw [bothR,eq1,h1,h2,h3]; rfl
        rw [e] at c2
        have k20:=c20 [bI X,bI Y,bI []]
        rw [h1] at k20
        have kX:=cX [bI Y,bI []]
        rw [h2] at kX
        have kY:=cY [bI []]
        rw [h3] at kY
        exact ⟨_,_,sb_2 a0 (l1.map encI) (l2.map encI) 2 X.length (X.map encI) Y.length (Y.map encI) 0 [] 0 [] c0 c1 c2 k20 kX kY rfl rfl (aw _),rfl⟩
      | true =>
        have e:bothR a0 X Y=(bothT a0 X Y,0):=by rw [bothR,eq1,h1,h2,h3]; rfl
        rw [e] at c2
        have hB:=bothT_len a0 X Y
        have c22:=rboth_at (pol':=polL4) (by kernel_rfl) (p:=a0) (a:=X) (b:=Y) (v1:=.sl 0 0 X.length none X.length 1) (v2:=.sl 1 0 Y.length none Y.length 1) (H:=[bI X,bI Y,bI (bothT a0 X Y)]) (argI_sl rfl rfl) (argI_sl rfl rfl) ⟨by omega,by omega⟩ ⟨by omega,by omega⟩ h2 h3
        generalize bothT a0 X Y=Q at *
        have k20:=c20 [bI X,bI Y,bI Q]
        rw [h1] at k20
        have kX:=cX [bI Y,bI Q]
        rw [h2] at kX
        have kY:=cY [bI Q]
        rw [h3] at kY
        have it:=ints_at (pol':=polL4) (by kernel_rfl) (a:=Q) (b:=Q) (v1:=.sl 2 0 Q.length none Q.length 1) (v2:=.sl 3 0 Q.length none Q.length 1) (H:=[bI X,bI Y,bI Q,bI Q]) (argI_sl rfl rfl) (argI_sl rfl rfl) (by omega)
        rw [decide_eq_true rfl] at it
        exact ⟨_,_,sb_0 a0 (l1.map encI) (l2.map encI) 0 X.length (X.map encI) Y.length (Y.map encI) Q.length (Q.map encI) Q.length (Q.map encI) c0 c1 c2 k20 kX kY c22 it rfl (aw _),rfl⟩
end Go.Proofs.Ytaibmipamkaljaa
end
section
namespace Go.HL
open Go.ChangeShapes Go.WideShapes Go.ChangeAt Go.RowKit Go.Deep
theorem okNil (w:World) (r:Nat):okOf Ctx.nil w.heap.size false r:=by
  refine ⟨fun hM=>?_,by simp⟩
  obtain ⟨b,y,h1,_,_⟩:=M_iff.1 hM
  simp [Ctx.nil] at h1
theorem cell_lt {w:World} {a:Addr} {v:Value} (h:w.cell? a=some v):a.block < w.heap.size:=by
  rcases Nat.lt_or_ge a.block w.heap.size with hl | hl
  · exact hl
  · have:w.heap[a.block]?=none:=by simp [hl]
    simp [World.cell?,this] at h
end Go.HL
end
section
namespace Go.HL
open Go.ChangeShapes Go.WideShapes Go.ChangeAt Go.RowKit Go.Deep
theorem arg_ints_ok {H:Type} {enc:TypeId × Value → H} {P:Program} {W:World} {base:Nat} {t q:TypeId} {v:Value} {d:DataW H} {ps:List MemPlace} (ht:P.underlying t=some (.slice q)) (hq:P.underlying q=some (.int .i64)) (cq:P.cellsOf q=1)
    (hval:Value.okWide P W .any base t v) (hd:DataW.Trod enc P W 0 (fun _=>true) true t v d ps):∃ l:List Int,V W (okOf Ctx.nil W.heap.size) Ctx.nil (.imm .arg 1 (l.map encI)) v:=by
  obtain ⟨a,len,cap,rfl⟩:=okWide_slice ht hval
  obtain ⟨fuel,hf⟩:=hd
  rcases open_slice ht hf with ⟨h0,_⟩ | ⟨a',len',cap',m,n,D,Pl,h0,hb,hl,hm,hmm,hx,hel⟩
  · simp [Value.cells] at h0
    obtain ⟨rfl,rfl,rfl⟩:=h0
    exact ⟨[],.imm .arg 1 [] none 0 (fun _=>.bool false) (by simp) (by simp) (by simp) (by simp) (by simp) (by simp)⟩
  · simp [Value.cells] at h0
    obtain ⟨rfl,rfl,rfl⟩:=h0
    have hlm:len ≤ m:=by rw [hmm]; split <;> omega
    have each:∀ i,i < len → ∃ z:Int,W.cell? (a'.add i)=some (.int .i64 z):=by
      intro i hi
      obtain ⟨cs',h1,h2⟩:=hel i (by omega)
      rw [cq] at h1
      obtain ⟨_,hlen,hcell⟩:=World.cells?_some h1
      match cs',hlen with
      | [v0],_ =>
        obtain ⟨z0,e0,_,_⟩:=DataW.trod_int hq h2
        simp at e0
        subst e0
        have c0:=hcell 0 (by omega)
        rw [add_add] at c0
        exact ⟨z0,by simpa using c0⟩
    obtain ⟨f,hf⟩:=choose_lt each
    refine ⟨(List.range len).map f,?_⟩
    have hlen:(((List.range len).map f).map encI).length=len:=by simp
    have key:=V.imm (w:=W) (ok:=okOf Ctx.nil W.heap.size) (c:=Ctx.nil) .arg 1 (((List.range len).map f).map encI) (some a') cap (fun j=>.int .i64 (f j))
      (by rw [hlen]; exact hl) (by simp) ?_ ?_ ?_ ?_
    · rw [hlen] at key; exact key
    · intro hne
      have h0:0 < len:=by
        rcases Nat.eq_zero_or_pos len with h | h
        · subst h; simp at hne
        · exact h
      obtain ⟨b,off,spot⟩:=a'
      have hspot:spot=none:=by simpa [Addr.add] using World.cell?_spot (hf 0 h0)
      subst hspot
      refine ⟨b,off,rfl,by simpa [Addr.add] using cell_lt (hf 0 h0),okNil W b,fun j hj=>?_⟩
      rw [hlen] at hj
      have c0:=hf j (by omega)
      rw [add_plain] at c0
      exact c0
    · intro v hv
      obtain ⟨p,_,rfl⟩:=List.mem_map.1 hv
      rfl
    · intro v hv
      obtain ⟨p,_,rfl⟩:=List.mem_map.1 hv
      rfl
    · intro i v j x hi hj
      have hil:i < len:=by have:=lt_of_get hi; rw [hlen] at this; exact this
      have:v=encI (f i):=by
        rw [List.getElem?_map,List.getElem?_map,List.getElem?_range hil] at hi
        simpa using hi.symm
      subst this
      have hjx:j < 1:=lt_of_get hj
      match j,hjx,hj with
      | 0,_,hj =>
        simp [encI,cellsOf] at hj
        subst hj
        have e1:i * 1+0=i:=by omega
        rw [e1]
        exact V.int _ _
end Go.HL
end
