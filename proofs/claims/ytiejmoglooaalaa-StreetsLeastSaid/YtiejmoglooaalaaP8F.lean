/- A part of the proof. -/
import Derived.Test.YtiejmoglooaalaaP8E
set_option linter.unusedVariables false
set_option linter.unusedSimpArgs false
set_option linter.unnecessarySimpa false
open List renaming range → qA, getElem?_map → qB
section
open Go Go.HL
namespace Go.Proofs.Ytiejmoglooaalaa
set_option linter.unusedSectionVars false
open Go.Proofs.Try renaming prog → Tp
open Go.HL.HV renaming undef → Ud
def ZO:FuncId→Option (List HV→Option HV):=fun g=>if g==18 then some C1 else if g==24 then some SK else if g==25 then some Qfe else if g==14 then some Qf2 else if g==37 then some Qal else if g==28 then some QbY else if g==22 then some Gy else if g==21 then some QaK else if g==15 then some Qaj else if g==16 then some Qcp else if g==35 then some S5 else if g==36 then some GE else none
theorem Qgh (n:Nat):Qn Tp (Qc Tp (plF ZO) n):=Qy _ (fun g f h=>by
 unfold ZO at h
 by_cases e18:(g==18)=true
 ·rw [if_pos e18] at h;cases h;rw [eq_of_beq e18];exact Qbh
 rw [if_neg e18] at h
 by_cases e24:(g==24)=true
 ·rw [if_pos e24] at h;cases h;rw [eq_of_beq e24];exact QaJ
 rw [if_neg e24] at h
 by_cases e25:(g==25)=true
 ·rw [if_pos e25] at h;cases h;rw [eq_of_beq e25];exact Qhr
 rw [if_neg e25] at h
 by_cases e14:(g==14)=true
 ·rw [if_pos e14] at h;cases h;rw [eq_of_beq e14];exact Qf4
 rw [if_neg e14] at h
 by_cases e37:(g==37)=true
 ·rw [if_pos e37] at h;cases h;rw [eq_of_beq e37];exact Qdo
 rw [if_neg e37] at h
 by_cases e28:(g==28)=true
 ·rw [if_pos e28] at h;cases h;rw [eq_of_beq e28];exact Qe9
 rw [if_neg e28] at h
 by_cases e22:(g==22)=true
 ·rw [if_pos e22] at h;cases h;rw [eq_of_beq e22];exact QaL
 rw [if_neg e22] at h
 by_cases e21:(g==21)=true
 ·rw [if_pos e21] at h;cases h;rw [eq_of_beq e21];exact QbI
 rw [if_neg e21] at h
 by_cases e15:(g==15)=true
 ·rw [if_pos e15] at h;cases h;rw [eq_of_beq e15];exact Qdn
 rw [if_neg e15] at h
 by_cases e16:(g==16)=true
 ·rw [if_pos e16] at h;cases h;rw [eq_of_beq e16];exact Qf6
 rw [if_neg e16] at h
 by_cases e35:(g==35)=true
 ·rw [if_pos e35] at h;cases h;rw [eq_of_beq e35];exact Qc9
 rw [if_neg e35] at h
 by_cases e36:(g==36)=true
 ·rw [if_pos e36] at h;cases h;rw [eq_of_beq e36];exact Qa0
 rw [if_neg e36] at h
 cases h) n
theorem Qtc:Try.f11.results.toList=[.tmp 6]:=by kernel_rfl
abbrev Zh:Pol:=plF ZO
section
variable {n:Int} {ls la:List HV} {l:List St} {H:Heap}
theorem QcA {x:List Int} {b:Nat} (hnet:Ww n l=true) (h0:H[0]?=some (bS l)) (hb:H[b]?=some (bI x)) (hx:isT n l x=true):∀k,Qc Tp Zh (k+1) 28 [.int .i64 n,.sl 0 0 l.length none l.length 3,.sl b 0 x.length none x.length 1] H=some (.bool true,H):=by
 obtain ⟨⟨n1,n2⟩,n3,he,hw⟩:=QE hnet
 have hl:=(Ju hx).1.ln
 have h:=at3 (pol':=Zh) (g:=28) (c1:=kI) (c2:=kS) (c3:=kL) (f:=fun n l t=>if (0≤n∧n≤16)∧YE n l=true∧t.length≤500∧l.length≤500 then some (.bool (isT n l t)) else none) (H:=H) (by kernel_rfl) (ShI _ n) (XI (b:=0) (l:=l) rfl h0) (JV (b:=b) (l:=x) rfl hb) (if_pos ⟨by omega,he,by omega,by omega⟩)
 rw [hx] at h
 exact h
theorem Yr {x:List Int} {b:Nat} (hnet:Ww n l=true) (h0:H[0]?=some (bS l)) (hb:H[b]?=some (bI x)) (hx:isT n l x=true):∀k,Qc Tp Zh (k+1) 22 [.sl 0 0 l.length none l.length 3,.sl b 0 x.length none x.length 1] H=some (.int .i64 (wgt l x),H):=by
 obtain ⟨⟨n1,n2⟩,n3,he,hw⟩:=QE hnet
 have hl:=(Ju hx).1.ln
 have hwB:wB l=true:=wB_iff.2 fun s hs=>by have:=hw s hs;omega
 exact at2 (pol':=Zh) (g:=22) (c1:=kS) (c2:=kL) (f:=fun l t=>if inR l.length t=true∧wB l=true∧t.length≤1000 then some (.int .i64 (wgt l t)) else none) (H:=H) (by kernel_rfl) (XI (b:=0) (l:=l) rfl h0) (JV (b:=b) (l:=x) rfl hb) (if_pos ⟨inR_iff.2 (Ju hx).1.rg,hwB,by omega⟩)
theorem D6 (hnet:Ww n l=true):∀(k i:Nat) (x:List Int) (H:Heap) (xb:Nat),i+k=1000→H.length=xb+1→H[0]?=some (bS l)→H[xb]?=some (bI x)→mxs H≤0→isT n l x=true→xb≠0 →
  ∃y E' H',RT Zh 11 (sn 2042 B11) ((Jw (.i n) (.g (ls)) (.a (la)) (.bool false) (.sl 0 0 l.length none l.length 3) Ud (.i (wgt l (frT l))) Ud (.sl (xb) 0 (x).length none (x).length 1) Ud Ud Ud Ud (.i (i:Int)) Ud Ud Ud Ud)) H y E' H'∧((y=.ret∧E'.get 6=.bool true)∨(y=.exit 0∧∃xb' x',E'=(Jw (.i n) (.g (ls)) (.a (la)) (.bool false) (.sl 0 0 l.length none l.length 3) Ud (.i (wgt l (frT l))) Ud (.sl (xb') 0 (x').length none (x').length 1) Ud Ud Ud Ud (.i (1000:Int)) Ud Ud Ud Ud)∧H'[0]?=some (bS l)∧H'[xb']?=some (bI x')∧isT n l x'=true))
 | 0,i,x,H,xb,hk,hlen,h0,hb,hm,hx,hx0=>by
  have:i=1000:=by omega
  subst this
  have s1:=Qjx (F:=ZO) n ls la H l.length (wgt l (frT l)) xb x.length 1000 (by omega)
  exact ⟨_,_,_,lpo (sqo (s1) (c:=sn 4084 B11) (b:=sn 8169 B11)),.inr ⟨rfl,xb,x,rfl,h0,hb,hx⟩⟩
 | k+1,i,x,H,xb,hk,hlen,h0,hb,hm,hx,hx0=>by
  obtain ⟨⟨n1,n2⟩,n3,he,hw⟩:=QE hnet
  have hxl:=(Ju hx).1.ln
  obtain ⟨hc,hb1,hb2⟩:=Qa4 hnet hx
  have s1:=Qjw (F:=ZO) n ls la H l.length (wgt l (frT l)) xb x.length i (by omega)
  have c35:=at3 (pol':=Zh) (g:=35) (c1:=kI) (c2:=kS) (c3:=kL) (f:=fun n l t=>if l.length≤500∧t.length≤500 then some (beT n l t) else none) (H:=H) (by kernel_rfl) (ShI _ n) (XI (b:=0) (l:=l) rfl h0) (JV (b:=xb) (l:=x) rfl hb) (if_pos ⟨by omega,by omega⟩)
  have eo:Qc8 n l x=true:=by rw [Qc8,hnet,QhC,hx];rfl
  rw [beT,if_pos eo] at c35
  have wx:=Yr hnet h0 hb hx
  by_cases e:wgt l x=wgt l (frT l)
  ·rw [hb1 e] at c35
   have s2:=Qjy (F:=ZO) n ls la H l.length (wgt l (frT l)) xb x.length i 0 0 (wgt l x) 0 0 0 c35 wx e (Qam (by kernel_rfl) H)
   exact ⟨_,_,_,lpo (sq (s1) (sqo (s2) (c:=sn 8169 B11) (b:=sn 16339 B11)) (c:=sn 4084 B11)),.inl ⟨rfl,rfl⟩⟩
  ·obtain ⟨g1,g2,g3,g4,g5⟩:=hb2 e
   have hg1:=(Ju hx).1.rg _ g1
   generalize (beO l x).1=a at *
   generalize (beO l x).2=b at *
   have c36:=at3 (pol':=Zh) (g:=36) (c1:=kL) (c2:=kI) (c3:=kI) (f:=fun t o p=>if t.length≤400 then some (.own 1 ((swT o p t).map Qb)) else none) (H:=H) (by kernel_rfl) (JV (b:=xb) (l:=x) rfl hb) (ShI _ a) (ShI _ b) (if_pos (by omega))
   rw [W1] at c36
   have h0':(H++[bI (swT a b x)])[0]?=some (bS l):=WJ h0
   have hb':(H++[bI (swT a b x)])[xb]?=some (bI x):=WJ hb
   have hn':(H++[bI (swT a b x)])[H.length]?=some (bI (swT a b x)):=QiQ H _
   have t1:=QcA hnet h0' hn' g4
   have w1:=Yr hnet h0' hn' g4
   have w2:=Yr hnet h0' hb' hx
   have s2:=Qjz (F:=ZO) n ls la H l.length (wgt l (frT l)) xb x.length i a b (wgt l x) (wgt l (swT a b x)) H.length (swT a b x).length c35 (by omega) c36 t1 w1 w2 (by omega)
   have s3:=QjA (F:=ZO) n ls la (H++[bI (swT a b x)]) l.length (wgt l (frT l)) H.length (swT a b x).length i (y17:=.i a) (y18:=.i b) (y19:=.i 0) (y20:=.sl H.length 0 (swT a b x).length none (swT a b x).length 1)
   rw [show IntKind.i64.wrap ((i:Int)+1)=((i+1:Nat):Int) by rw [Q7 (by omega) (by omega)];omega] at s3
   have hl1:(H++[bI (swT a b x)]).length=H.length+1:=by simp
   obtain ⟨y,E',H',r,hr⟩:=D6 hnet k (i+1) (swT a b x) (H++[bI (swT a b x)]) H.length (by omega) hl1 h0' hn' (by rw [WI];show max _ (max 0 0)≤0;omega) g4 (by omega)
   have hg:gc H.length (WF ((Jw (.i n) (.g (ls)) (.a (la)) (.bool false) (.sl 0 0 l.length none l.length 3) Ud (.i (wgt l (frT l))) Ud (.sl (H.length) 0 (swT a b x).length none (swT a b x).length 1) Ud Ud Ud Ud (.i ((i+1:Nat):Int)) Ud Ud Ud Ud))) (H++[bI (swT a b x)])=H++[bI (swT a b x)]:=by
    refine Qbf ?_
    have hbd:H.length+1≤WF ((Jw (.i n) (.g (ls)) (.a (la)) (.bool false) (.sl 0 0 l.length none l.length 3) Ud (.i (wgt l (frT l))) Ud (.sl (H.length) 0 (swT a b x).length none (swT a b x).length 1) Ud Ud Ud Ud (.i ((i+1:Nat):Int)) Ud Ud Ud Ud)):=by simp only [WF,bnd,bndL];omega
    omega
   exact ⟨y,E',H',lop (sq (s1) (sq (s2) (s3) (c:=sn 8169 B11)) (c:=sn 4084 B11)) hg r,hr⟩
end
abbrev E11 (m:Int) (ls la:List HV) (own:List St) (f k:Nat) (y12 y13 y14 y15:HV):Env:=(Jw (.i m) (.g ls) (.a la) (.bool false) (.sl 0 0 own.length none own.length 3) (.s 1 f) (.i (wgt own (frT own))) (.i 0) (.s 2 k) y12 y13 y14 y15 Ud Ud Ud Ud Ud)
theorem YT (n:Int) (l:List St) (y:List Int):∃E H,RT Zh 11 B11 (KA [.int .i64 n,.imm .arg 3 (l.map Qa),.imm .arg 1 (y.map Qb)]) [] .ret E H∧E.get 6=.bool true:=by
 have a:=Qjm (F:=ZO) n (l.map Qa) (y.map Qb)
 have hp:=J1 n (n:=12) (by omega) (by omega)
 have b:=Qjn (F:=ZO) n (l.map Qa) (y.map Qb) [] (QS n 12) (YM (F:=ZO) (by kernel_rfl) n (n:=12) (by omega) [])
 have hw:IntKind.i64.wrap (2+QS n 12)=2+QS n 12:=Qr (by omega) (by omega)
 rw [hw] at b
 generalize hm:2+QS n 12=m at *
 have hm1:2≤m∧m≤13:=by omega
 have c25:=at3 (pol':=Zh) (g:=25) (c1:=kS) (c2:=kI) (c3:=kI) (f:=fun l n most=>if (1≤n∧n≤100)∧0≤most∧most≤100 then some (.own 3 ((Xi n l most).map Qa)) else none) (H:=[]) (by kernel_rfl) (Ck _ l) (ShI _ m) (ShI _ 30) (if_pos ⟨by omega,by omega,by omega⟩)
 rw [QdZ] at c25
 have hnet:=Qb5 (n:=m) (by omega) l (most:=30) (by omega)
 have hc:=Qfj (n:=m) (by omega) l (most:=30) (by omega)
 have hol:=Qb4 m l 30
 generalize Xi m l 30=own at *
 have hol:own.length≤42:=by omega
 obtain ⟨⟨n1,n2⟩,n3,he,hwr⟩:=QE hnet
 have c:=Qjo (F:=ZO) m (l.map Qa) (y.map Qb) [] own.length c25
 have ee:slE m own=0:=by rw [slE,if_pos hnet,if_pos hc]
 have c14:=at2 (pol':=Zh) (g:=14) (c1:=kI) (c2:=kS) (f:=fun n l=>if l.length≤500∧n≤13 then some (.tuple [.own 1 ((trG n l).map Qb),.int .i64 (trW n l),.int .i64 (slE n l)]) else none) (H:=[bS own]) (v2:=.sl 0 0 own.length none own.length 3) (by kernel_rfl) (ShI _ m) (XI rfl rfl) (if_pos ⟨by omega,by omega⟩)
 rw [Qgg,trG,trW,ee,if_pos rfl,if_pos rfl] at c14
 have d:=Qjp (F:=ZO) m (l.map Qa) (y.map Qb) [bS own] own.length (frT own).length (wgt own (frT own)) c14
 have hx:=Qgf hnet hc (D5 y own.length)
 have c37:=at3 (pol':=Zh) (g:=37) (c1:=kI) (c2:=kS) (c3:=kL) (f:=fun n l y=>if (0≤n∧n≤16)∧YE n l=true∧l.length≤400 then some (.own 1 ((ZB l (chO y l.length)).map Qb)) else none) (H:=[bS own]++[bI (frT own)]) (v2:=.sl 0 0 own.length none own.length 3) (by kernel_rfl) (ShI _ m) (XI rfl rfl) (Kg _ y) (if_pos ⟨by omega,he,by omega⟩)
 rw [W1] at c37
 generalize ZB own (chO y own.length)=x at *
 have e:=Qjq (F:=ZO) m (l.map Qa) (y.map Qb) ([bS own]++[bI (frT own)]) own.length (frT own).length (wgt own (frT own)) 2 x.length c37
 obtain ⟨K,hK⟩:∃K:Heap,K=[bS own,bI (frT own),bI x]:=⟨_,rfl⟩
 have eK:[bS own]++[bI (frT own)]++[bI x]=K:=hK.symm
 rw [eK] at e
 have k0:K[0]?=some (bS own):=by rw [hK];rfl
 have k1:K[1]?=some (bI (frT own)):=by rw [hK];rfl
 have k2:K[2]?=some (bI x):=by rw [hK];rfl
 have hmin:=CE hnet (Ju hx).1
 have t1:=QcA hnet k0 k2 hx
 have w1:=Yr hnet k0 k2 hx
 have f:=Qjr (F:=ZO) m (l.map Qa) (y.map Qb) K own.length (frT own).length (wgt own (frT own)) 2 x.length (wgt own x) t1 w1 (by omega)
 have hxl:=(Ju hx).1.ln
 have c21:=at2 (pol':=Zh) (g:=21) (c1:=kL) (c2:=kL) (f:=fun a b=>if a.length≤1000 then some (.bool (decide (a=b))) else none) (H:=K) (v1:=.sl 2 0 x.length none x.length 1) (v2:=.sl 1 0 (frT own).length none (frT own).length 1) (x:=x) (y:=frT own) (by kernel_rfl) (JV rfl k2) (JV rfl k1) (if_pos (by omega))
 obtain ⟨yy,E',H',r,hr⟩:=D6 (n:=m) (ls:=l.map Qa) (la:=y.map Qb) hnet 1000 0 x K 2 rfl (by rw [hK];rfl) k0 k2 (by rw [hK];show max 0 (max 0 (max 0 0))≤0;decide) hx (by decide)
 obtain ⟨y12,y13,y14,y15,g⟩:∃y12 y13 y14 y15:HV,RT Zh 11 (sn 254 B11) (E11 m (l.map Qa) (y.map Qb) own (frT own).length x.length Ud Ud Ud Ud) K .normal (E11 m (l.map Qa) (y.map Qb) own (frT own).length x.length y12 y13 y14 y15) K:=by
  by_cases cx:x=frT own
  ·rw [decide_eq_true cx] at c21
   exact ⟨_,_,_,_,Qjs (F:=ZO) m (l.map Qa) (y.map Qb) K own.length (frT own).length (wgt own (frT own)) 2 x.length 0 0 0 c21⟩
  ·rw [decide_eq_false cx] at c21
   obtain ⟨q1,q2,q3,q4,q5⟩:=Qbg hnet hc hx cx
   have c15:=at2 (pol':=Zh) (g:=15) (c1:=kI) (c2:=kS) (f:=fun n l=>if l.length≤500 then some (.tuple [.int .i64 (seT n l),.int .i64 (seE n l)]) else none) (H:=K) (v2:=.sl 0 0 own.length none own.length 3) (by kernel_rfl) (ShI _ m) (XI rfl k0) (if_pos (by omega))
   rw [q1] at c15
   have c16:=at2 (pol':=Zh) (g:=16) (c1:=kI) (c2:=kS) (f:=fun n l=>if l.length≤500 then some (.tuple [.int .i64 (ctT n l),.int .i64 (ctE n l)]) else none) (H:=K) (v2:=.sl 0 0 own.length none own.length 3) (by kernel_rfl) (ShI _ m) (XI rfl k0) (if_pos (by omega))
   have ectE:ctE m own=0:=if_pos hnet
   rw [Qry hnet hc,ectE] at c16
   by_cases c1:seT m own=wgt own (frT own)
   ·have c2:=q5.1 c1
    exact ⟨_,_,_,_,Qjt (F:=ZO) m (l.map Qa) (y.map Qb) K own.length (frT own).length (wgt own (frT own)) 2 x.length (wgt own x) (seT m own) (cN own 1001:Int) c21 c15 c16 w1 (by omega) (by omega) c1 (by omega)⟩
   ·have c2:¬1<cN own 1001:=fun h=>c1 (q5.2 h)
    exact ⟨_,_,_,_,Qju (F:=ZO) m (l.map Qa) (y.map Qb) K own.length (frT own).length (wgt own (frT own)) 2 x.length (wgt own x) (seT m own) (cN own 1001:Int) c21 c15 c16 w1 (by omega) (by omega) c1 (by omega)⟩
 have h:=Qjv (F:=ZO) m (l.map Qa) (y.map Qb) K own.length (frT own).length (wgt own (frT own)) 2 x.length (y12:=y12) (y13:=y13) (y14:=y14) (y15:=y15)



 rcases hr with ⟨rfl,h6⟩ | ⟨rfl,xb',x',rfl,j0,j1,j2⟩
 ·exact ⟨E',H',sq (a) (sq (b) (sq (c) (sq (d) (sq (e) (sq (f) (sq (g) (sqo (sq (h) (RunsTo.block_ret (i:=0) (c:=sn 1021 B11) (lpi (e0:=(Jw (.i m) (.g (l.map Qa)) (.a (y.map Qb)) (.bool false) (.sl 0 0 own.length none own.length 3) (.sl 1 0 (frT own).length none (frT own).length 1) (.i (wgt own (frT own))) (.i 0) (.s 2 x.length) y12 y13 y14 y15 (.i (0:Int)) Ud Ud Ud Ud)) r (b:=sn 4084 B11)) (by kernel_rfl)) (c:=sn 510 B11)) (c:=sn 255 B11) (b:=sn 511 B11)) (c:=sn 127 B11)) (c:=sn 63 B11)) (c:=sn 31 B11)) (c:=sn 15 B11)) (c:=sn 7 B11)) (c:=sn 3 B11)) (c:=B11),h6⟩
 ·have hmin':=CE hnet (Ju j2).1
  have w2:=Yr hnet j0 j1 j2
  have z:=QjB (F:=ZO) m (l.map Qa) (y.map Qb) H' own.length (wgt own (frT own)) xb' x'.length 1000 (wgt own x') w2 hmin' (Qam (by kernel_rfl) H')
  exact ⟨_,_,sq (a) (sq (b) (sq (c) (sq (d) (sq (e) (sq (f) (sq (g) (sq (sq (h) (bke (c:=sn 1021 B11) (lpi (e0:=(Jw (.i m) (.g (l.map Qa)) (.a (y.map Qb)) (.bool false) (.sl 0 0 own.length none own.length 3) (.sl 1 0 (frT own).length none (frT own).length 1) (.i (wgt own (frT own))) (.i 0) (.s 2 x.length) y12 y13 y14 y15 (.i (0:Int)) Ud Ud Ud Ud)) r (b:=sn 4084 B11))) (c:=sn 510 B11)) (z) (c:=sn 255 B11)) (c:=sn 127 B11)) (c:=sn 63 B11)) (c:=sn 31 B11)) (c:=sn 15 B11)) (c:=sn 7 B11)) (c:=sn 3 B11)) (c:=B11),rfl⟩
end Go.Proofs.Ytiejmoglooaalaa
end
section
namespace Go.HL
open Go.ChangeShapes Go.WideShapes Go.ChangeAt Go.RowKit Go.Deep
set_option linter.unusedSectionVars false
open Go.Proofs.Try renaming prog → Tp
open Go.HL.HV renaming undef → Ud
theorem Qi7 (w:World) (r:Nat):Ql Ctx.nil w.heap.size false r:=by
 refine ⟨fun hM=>?_,by simp⟩
 obtain ⟨b,y,h1,_,_⟩:=M_iff.1 hM
 simp [Ctx.nil] at h1
theorem QcB {w:World} {a:Addr} {v:Value} (h:w.cell? a=some v):a.block<w.heap.size:=by
 rcases Nat.lt_or_ge a.block w.heap.size with hl | hl
 ·exact hl
 ·have:w.heap[a.block]?=none:=by simp [hl]
  simp [World.cell?,this] at h
theorem Qan {H:Type} {enc:TypeId×Value→H} {P:Program} {W:World} {base:Nat} {t q:TypeId} {v:Value} {d:DataW H} {ps:List MemPlace} (ht:P.underlying t=some (.slice q)) (hq:P.underlying q=some (.int .i64)) (cq:P.cellsOf q=1)
  (hval:Value.okWide P W .any base t v) (hd:DataW.Trod enc P W 0 (fun _=>true) true t v d ps):∃l:List Int,V W (Ql Ctx.nil W.heap.size) Ctx.nil (.imm .arg 1 (l.map Qb)) v:=by
 obtain ⟨a,len,cap,rfl⟩:=okWide_slice ht hval
 obtain ⟨fuel,hf⟩:=hd
 rcases open_slice ht hf with ⟨h0,_⟩ | ⟨a',len',cap',m,n,D,Pl,h0,hb,hl,hm,hmm,hx,hel⟩
 ·simp [Value.cells] at h0
  obtain ⟨rfl,rfl,rfl⟩:=h0
  exact ⟨[],.imm .arg 1 [] none 0 (fun _=>.bool false) (by simp) (by simp) (by simp) (by simp) (by simp) (by simp)⟩
 ·simp [Value.cells] at h0
  obtain ⟨rfl,rfl,rfl⟩:=h0
  have hlm:len≤m:=by rw [hmm];split <;> omega
  have each:∀i,i<len→∃z:Int,W.cell? (a'.add i)=some (.int .i64 z):=by
   intro i hi
   obtain ⟨cs',h1,h2⟩:=hel i (by omega)
   rw [cq] at h1
   obtain ⟨_,hlen,hcell⟩:=World.cells?_some h1
   match cs',hlen with
   | [v0],_ =>
    obtain ⟨z0,e0,_,_⟩:=DataW.trod_int hq h2
    simp at e0
    subst e0
    have c0:=hcell 0 (by omega)
    rw [add_add] at c0
    exact ⟨z0,by simpa using c0⟩
  obtain ⟨f,hf⟩:=choose_lt each
  refine ⟨(qA len).map f,?_⟩
  have hlen:(((qA len).map f).map Qb).length=len:=by simp
  have key:=V.imm (w:=W) (ok:=Ql Ctx.nil W.heap.size) (c:=Ctx.nil) .arg 1 (((qA len).map f).map Qb) (some a') cap (fun j=>.int .i64 (f j))
   (by rw [hlen];exact hl) (by simp) ?_ ?_ ?_ ?_
  ·rw [hlen] at key;exact key
  ·intro hne
   have h0:0<len:=by
    rcases Nat.eq_zero_or_pos len with h | h
    ·subst h;simp at hne
    ·exact h
   obtain ⟨b,off,spot⟩:=a'
   have hspot:spot=none:=by simpa [Addr.add] using World.cell?_spot (hf 0 h0)
   subst hspot
   refine ⟨b,off,rfl,by simpa [Addr.add] using QcB (hf 0 h0),Qi7 W b,fun j hj=>?_⟩
   rw [hlen] at hj
   have c0:=hf j (by omega)
   rw [add_plain] at c0
   exact c0
  ·intro v hv
   obtain ⟨p,_,rfl⟩:=List.mem_map.1 hv
   rfl
  ·intro v hv
   obtain ⟨p,_,rfl⟩:=List.mem_map.1 hv
   rfl
  ·intro i v j x hi hj
   have hil:i<len:=by have:=Qj hi;rw [hlen] at this;exact this
   have:v=Qb (f i):=by
    rw [qB,qB,List.getElem?_range hil] at hi
    simpa using hi.symm
   subst this
   have hjx:j<1:=Qj hj
   match j,hjx,hj with
   | 0,_,hj =>
    simp [Qb,cellsOf] at hj
    subst hj
    have e1:i*1+0=i:=by omega
    rw [e1]
    exact V.int _ _
abbrev D7 (s:Int×Int×Int):HV:=.agg [.int .i64 s.1,.int .i64 s.2.1,.int .i64 s.2.2]
theorem C2 {H:Type} {enc:TypeId×Value→H} {P:Program} {W:World} {base:Nat} {t e q:TypeId} {v:Value} {d:DataW H} {ps:List MemPlace} {f0 f1 f2:Field} (ht:P.underlying t=some (.slice e)) (he:P.underlying e=some (.struct #[f0,f1,f2])) (t0:f0.type=q) (t1:f1.type=q) (t2:f2.type=q) (o0:f0.offset=0) (o1:f1.offset=1) (o2:f2.offset=2) (hq:P.underlying q=some (.int .i64)) (ce:P.cellsOf e=3) (cq:P.cellsOf q=1)
  (hval:Value.okWide P W .any base t v) (hd:DataW.Trod enc P W 0 (fun _=>true) true t v d ps):∃l:List (Int×Int×Int),V W (Ql Ctx.nil W.heap.size) Ctx.nil (.imm .arg 3 (l.map D7)) v:=by
 obtain ⟨a,len,cap,rfl⟩:=okWide_slice ht hval
 obtain ⟨fuel,hf⟩:=hd
 rcases open_slice ht hf with ⟨h0,_⟩ | ⟨a',len',cap',m,n,D,Pl,h0,hb,hl,hm,hmm,hx,hel⟩
 ·simp [Value.cells] at h0
  obtain ⟨rfl,rfl,rfl⟩:=h0
  exact ⟨[],.imm .arg 3 [] none 0 (fun _=>.bool false) (by simp) (by simp) (by simp) (by simp) (by simp) (by simp)⟩
 ·simp [Value.cells] at h0
  obtain ⟨rfl,rfl,rfl⟩:=h0
  have hlm:len≤m:=by rw [hmm];split <;> omega
  have each:∀i,i<len→∃p:Int×Int×Int,W.cell? (a'.add (i*3))=some (.int .i64 p.1)∧W.cell? (a'.add (i*3+1))=some (.int .i64 p.2.1)∧W.cell? (a'.add (i*3+2))=some (.int .i64 p.2.2):=by
   intro i hi
   obtain ⟨cs',h1,h2⟩:=hel i (by omega)
   rw [ce] at h1
   obtain ⟨_,hlen,hcell⟩:=World.cells?_some h1
   obtain ⟨y0,y1,y2,k,_,_,g0,g1,g2⟩:=trod_struct3 he h2
   rw [t0,o0,cq] at g0
   rw [t1,o1,cq] at g1
   rw [t2,o2,cq] at g2
   match cs',hlen with
   | [v0,v1,v2],_ =>
    simp at g0 g1 g2
    obtain ⟨z0,e0,_,_⟩:=DataW.trod_int hq g0
    obtain ⟨z1,e1,_,_⟩:=DataW.trod_int hq g1
    obtain ⟨z2,e2,_,_⟩:=DataW.trod_int hq g2
    simp at e0 e1 e2
    subst e0;subst e1;subst e2
    have c0:=hcell 0 (by omega)
    have c1:=hcell 1 (by omega)
    have c2:=hcell 2 (by omega)
    rw [add_add] at c0 c1 c2
    exact ⟨(z0,z1,z2),by simpa using c0,by simpa using c1,by simpa using c2⟩
  obtain ⟨f,hf⟩:=choose_lt each
  refine ⟨(qA len).map f,?_⟩
  have hlen:(((qA len).map f).map D7).length=len:=by simp
  have key:=V.imm (w:=W) (ok:=Ql Ctx.nil W.heap.size) (c:=Ctx.nil) .arg 3 (((qA len).map f).map D7) (some a') cap (fun j=>if j%3=0 then .int .i64 (f (j/3)).1 else if j%3=1 then .int .i64 (f (j/3)).2.1 else .int .i64 (f (j/3)).2.2)
   (by rw [hlen];exact hl) (by simp) ?_ ?_ ?_ ?_
  ·rw [hlen] at key;exact key
  ·intro hne
   have h0:0<len:=by
    rcases Nat.eq_zero_or_pos len with h | h
    ·subst h;simp at hne
    ·exact h
   obtain ⟨b,off,spot⟩:=a'
   have hspot:spot=none:=by simpa [Addr.add] using World.cell?_spot (hf 0 h0).1
   subst hspot
   refine ⟨b,off,rfl,by simpa [Addr.add] using QcB (hf 0 h0).1,Qi7 W b,fun j hj=>?_⟩
   rw [hlen] at hj
   have hj2:j/3<len:=by omega
   obtain ⟨c0,c1,c2⟩:=hf (j/3) hj2
   by_cases hp:j%3=0
   ·rw [if_pos hp]
    have:j/3*3=j:=by omega
    rw [this,add_plain] at c0
    exact c0
   by_cases hp1:j%3=1
   ·rw [if_neg hp,if_pos hp1]
    have:j/3*3+1=j:=by omega
    rw [this,add_plain] at c1
    exact c1
   ·rw [if_neg hp,if_neg hp1]
    have:j/3*3+2=j:=by omega
    rw [this,add_plain] at c2
    exact c2
  ·intro v hv
   obtain ⟨p,_,rfl⟩:=List.mem_map.1 hv
   rfl
  ·intro v hv
   obtain ⟨p,_,rfl⟩:=List.mem_map.1 hv
   rfl
  ·intro i v j x hi hj
   have hil:i<len:=by have:=Qj hi;rw [hlen] at this;exact this
   have:v=D7 (f i):=by
    rw [qB,qB,List.getElem?_range hil] at hi
    simpa using hi.symm
   subst this
   have hjx:j<3:=Qj hj
   match j,hjx,hj with
   | 0,_,hj =>
    simp [D7,cellsOf] at hj
    subst hj
    have e1:(i*3+0)%3=0:=by omega
    have e2:(i*3+0)/3=i:=by omega
    rw [if_pos e1,e2]
    exact V.int _ _
   | 1,_,hj =>
    simp [D7,cellsOf] at hj
    subst hj
    have e0:¬(i*3+1)%3=0:=by omega
    have e1:(i*3+1)%3=1:=by omega
    have e2:(i*3+1)/3=i:=by omega
    rw [if_neg e0,if_pos e1,e2]
    exact V.int _ _
   | 2,_,hj =>
    simp [D7,cellsOf] at hj
    subst hj
    have e0:¬(i*3+2)%3=0:=by omega
    have e1:¬(i*3+2)%3=1:=by omega
    have e2:(i*3+2)/3=i:=by omega
    rw [if_neg e0,if_neg e1,e2]
    exact V.int _ _
end Go.HL
end
