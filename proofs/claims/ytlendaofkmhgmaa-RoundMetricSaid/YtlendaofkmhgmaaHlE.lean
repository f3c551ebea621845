/- The ghost's calls are the model's. -/
import Derived.Test.YtlendaofkmhgmaaHlD
import Derived.ProofKit
set_option linter.unusedVariables false
set_option linter.unusedSimpArgs false
set_option linter.unnecessarySimpa false
/- Many new blocks at once; what a caller is handed. -/
open List renaming mem_of_getElem? → qA, getElem?_append_right → qB, filterMap_append → qE, getElem?_append_left → qG, length_take → qH, flatMap_cons → qJ, drop_zero → qK, getElem?_take → qL, getElem?_zip_eq_some → qM, getElem?_eq_getElem → qN
open Nat renaming le_refl → qC, le_trans → qD, add_zero → qF
open Array renaming getElem?_toList → qI
namespace Go.HL
section
variable {w:World} {c:Ctx} {P:Program} {lo:Nat} {rv:Value}

def Ctx.app (c:Ctx) (L:List (Blk×Option Nat)):Ctx:=⟨c.H++L.map (·.1),fun b=>if b<c.H.length then c.σ b else ((L[b-c.H.length]?).bind (·.2))⟩

theorem Jv {L:List (Blk×Option Nat)} {b:Nat} (h:b<c.H.length):(c.app L).H[b]?=c.H[b]?∧(c.app L).σ b=c.σ b:=by
 constructor
 ·exact qG h
 ·simp [Ctx.app,h]

theorem Qea {L:List (Blk×Option Nat)} {i:Nat} {x:Blk} {s:Option Nat} (h:L[i]?=some (x,s)):(c.app L).H[c.H.length+i]?=some x∧(c.app L).σ (c.H.length+i)=s:=by
 constructor
 ·simp only [Ctx.app]
  rw [qB (by omega)]
  simp [h]
 ·simp only [Ctx.app,if_neg (show ¬c.H.length+i<c.H.length by omega),Nat.add_sub_cancel_left,h]
  rfl

theorem QaZ {L:List (Blk×Option Nat)} {b:Nat} {x:Blk} (h:(c.app L).H[b]?=some x):(b<c.H.length∧c.H[b]?=some x)∨∃i s,b=c.H.length+i∧L[i]?=some (x,s):=by
 rcases Nat.lt_or_ge b c.H.length with hb | hb
 ·rw [(Jv hb).1] at h;exact .inl ⟨hb,h⟩
 ·refine .inr ⟨b-c.H.length,?_⟩
  simp only [Ctx.app] at h
  rw [qB hb,List.getElem?_map] at h
  cases hq:L[b-c.H.length]? with
  | none=>rw [hq] at h;cases h
  | some p =>
   rw [hq] at h
   obtain ⟨y,s⟩:=p
   simp at h
   subst h
   exact ⟨s,by omega,rfl⟩

theorem SS {L:List (Blk×Option Nat)} {b r:Nat} (h:(c.app L).σ b=some r):(b<c.H.length∧c.σ b=some r)∨∃i x,b=c.H.length+i∧L[i]?=some (x,some r):=by
 rcases Nat.lt_or_ge b c.H.length with hb | hb
 ·rw [(Jv hb).2] at h;exact .inl ⟨hb,h⟩
 ·refine .inr ⟨b-c.H.length,?_⟩
  simp only [Ctx.app,if_neg (show ¬b<c.H.length by omega)] at h
  cases hq:L[b-c.H.length]? with
  | none=>rw [hq] at h;cases h
  | some p =>
   rw [hq] at h
   obtain ⟨y,s⟩:=p
   simp at h
   subst h
   exact ⟨y,by omega,rfl⟩

theorem QgC {L:List (Blk×Option Nat)} {r:Nat} (h:(c.app L).M r):c.M r∨∃(i:Nat) (x:Blk),L[i]?=some (x,some r):=by
 obtain ⟨b,y,h1,h2,h3⟩:=M_iff.1 h
 rcases SS h3 with ⟨hb,hs⟩ | ⟨i,x,_,hi⟩
 ·rw [(Jv hb).1] at h1
  exact .inl (M_iff.2 ⟨b,y,h1,h2,hs⟩)
 ·exact .inr ⟨i,x,hi⟩

theorem Qhb {L:List (Blk×Option Nat)} {w':World} (hR:Rel lo c w) (g:WChg w w' none) (hs:∀(i:Nat) (x:Blk) (r:Nat),L[i]?=some (x,some r)→w.heap.size≤r∧r<w'.heap.size)
  (hd:∀(i j:Nat) (x y:Blk) (r:Nat),L[i]?=some (x,some r)→L[j]?=some (y,some r)→i=j)
  (hx:∀(i:Nat) (x:Blk) (s:Option Nat),L[i]?=some (x,s)→BlkOk w' (c.app L) lo (c.H.length+i) x):Rel lo (c.app L) w'∧Evo lo c w (c.app L) w':=by
 have hE:Evo lo c w (c.app L) w':=by
  refine Evo.of g.os g.tape g.output g.size (fun r hr hm=>⟨fun hm'=>?_,g.keep r hr (by simp)⟩) g.csize ⟨by simp [Ctx.app],?_,?_,?_,?_⟩
  ·rcases QgC hm' with h | ⟨i,x,hi⟩
   ·exact hm h
   ·have:=(hs i x r hi).1;omega
  ·intro b k els wr mx hb
   have hlt:=QE hb
   exact .inl ⟨k,els,wr,mx,(Jv hlt).1.trans hb,qC _,fun _=>⟨rfl,(Jv hlt).2⟩⟩
  ·intro b ks vs mx hb
   have hlt:=QE hb
   exact ⟨⟨ks,vs,mx,(Jv hlt).1.trans hb⟩,(Jv hlt).2⟩
  ·intro b hb
   exact (Jv (QE hb)).1.trans hb
  ·intro b m s0 sn c0 hb
   have hlt:=QE hb
   exact ⟨⟨m,s0,sn,c0,(Jv hlt).1.trans hb⟩,(Jv hlt).2⟩
 refine ⟨⟨?_,?_,?_,qD hR.low g.size⟩,hE⟩
 ·intro b y hb
  rcases QaZ hb with ⟨hlt,hb'⟩ | ⟨i,s,rfl,hi⟩
  ·exact (hR.blk b y hb').evo hE (Jv hlt).2 (fun r hr=>g.keep r (hR.dom b r hr).2 (by simp))
  ·exact hx i y s hi
 ·intro b b' r h1 h2
  rcases SS h1 with ⟨hb,k1⟩ | ⟨i,x,hi,k1⟩ <;> rcases SS h2 with ⟨hb',k2⟩ | ⟨j,y,hj,k2⟩
  ·exact hR.inj b b' r k1 k2
  ·have:=(hs j y r k2).1;have:=(hR.dom b r k1).2;omega
  ·have:=(hs i x r k1).1;have:=(hR.dom b' r k2).2;omega
  ·rw [hi,hj,hd i j x y r k1 k2]
 ·intro b r h1
  rcases SS h1 with ⟨hb,k1⟩ | ⟨i,x,hi,k1⟩
  ·have:=hR.dom b r k1
   exact ⟨by simp [Ctx.app];omega,Nat.lt_of_lt_of_le this.2 g.size⟩
  ·have:=Qd k1
   exact ⟨by simp [Ctx.app];omega,(hs i x r k1).2⟩

/-! ### The handing over, in closed form -/

def rcV (v:HV) (n:Nat):HV :=
 match v with
 | .own k l=>.sl n 0 l.length none l.length k
 | .omap _ _=>.map n
 | v=>v

def rcB (v:HV) (n:Nat):Heap :=
 match v with
 | .own k l=>if l.any Jd then .arr k (QK l (n+1)).1 true (n+1+l.length)::(QK l (n+1)).2 else [.arr k l true 0]
 | .omap ks vs=>[.map ks vs 0]
 | _=>[]

theorem Yp (v:HV) (H:Heap):WK v H=(rcV v H.length,H++rcB v H.length):=by
 cases v <;> simp only [WK,rcV,rcB,List.append_nil]
 case own k l=>split <;> simp

def GW:List HV→Nat→List HV
 | [],_=>[]
 | v::l,n=>rcV v n::GW l (n+(rcB v n).length)

def Qa0:List HV→Nat→Heap
 | [],_=>[]
 | v::l,n=>rcB v n++Qa0 l (n+(rcB v n).length)

theorem Xo:∀(l:List HV) (H:Heap),JQ l H=(GW l H.length,H++Qa0 l H.length)
 | [],H=>by simp [JQ,GW,Qa0]
 | v::l,H=>by
  simp only [JQ,Yp,Xo l,List.length_append,GW,Qa0,List.append_assoc]

def rvV (v:HV) (n:Nat):HV :=
 match v with
 | .agg cs=>.agg (GW cs n)
 | v=>rcV v n

def rvB (v:HV) (n:Nat):Heap :=
 match v with
 | .agg cs=>Qa0 cs n
 | v=>rcB v n

theorem Ug (v:HV) (H:Heap):Zr v H=(rvV v H.length,H++rvB v H.length):=by
 cases v <;> simp only [Zr,rvV,rvB,Yp,Xo]

def Qa1:List HV→Nat→List HV
 | [],_=>[]
 | v::l,n=>rvV v n::Qa1 l (n+(rvB v n).length)

def Qa2:List HV→Nat→Heap
 | [],_=>[]
 | v::l,n=>rvB v n++Qa2 l (n+(rvB v n).length)

theorem Yq:∀(l:List HV) (H:Heap),Z7 l H=(Qa1 l H.length,H++Qa2 l H.length)
 | [],H=>by simp [Z7,Qa1,Qa2]
 | v::l,H=>by
  simp only [Z7,Ug,Yq l,List.length_append,Qa1,Qa2,List.append_assoc]

def rV (v:HV) (n:Nat):HV :=
 match v with
 | .tuple vs=>.tuple (Qa1 vs n)
 | v=>rvV v n

def rB (v:HV) (n:Nat):Heap :=
 match v with
 | .tuple vs=>Qa2 vs n
 | v=>rvB v n

theorem SU (v:HV) (H:Heap):ZT v H=(rV v H.length,H++rB v H.length):=by
 cases v <;> simp only [ZT,rV,rB,Ug,Yq]

end
end Go.HL


/- One cell of a result. -/
namespace Go.HL
section
variable {w:World} {c:Ctx} {P:Program} {lo hi:Nat} {rv:Value}

def Good (w:World) (lo:Nat) (ok2:Nat→Prop) (F:Nat→HV) (B:Nat→Heap) (ss:List (Option Nat)) (rv:Value):Prop :=
 (∀n,(B n).length=ss.length)∧∀(n:Nat) (cF:Ctx),(∀r t,ok2 r→Qg cF lo t r) →
  (∀(i:Nat) (x:Blk) (s:Option Nat),(B n)[i]?=some x→ss[i]?=some s→cF.H[n+i]?=some x∧cF.σ (n+i)=s) →
  V w (Qg cF lo) cF (F n) rv∧∀(i:Nat) (x:Blk),(B n)[i]?=some x→BlkOk w cF lo (n+i) x

theorem slV {cF:Ctx} {ok:Bool→Nat→Prop} {b len tot k m mx mx':Nat} {cap:Option Nat} {els l':List HV} {wr:Bool} (h:V w (Qg c hi) c (.sl b 0 len cap tot k) rv) (hb:c.H[b]?=some (.arr k els wr mx)) (ht:tot=els.length)
  (hH:cF.H[m]?=some (.arr k l' true mx')) (hs:cF.σ m=c.σ b) (hl:l'.length=len):V w ok cF (.sl m 0 l'.length none l'.length k) rv:=by
 cases h with
 | sl _ _ _ _ _ _ a cap' hs' =>
  obtain ⟨h1,h2,h3,blk,hb',h4⟩:=hs'
  rw [hb] at hb';cases hb'
  rw [hl]
  refine .sl m 0 len none len k a cap' ⟨h1,by simp,h3,_,hH,Nat.le_of_eq hl.symm,fun _=>⟨rfl,?_⟩⟩
  rw [hs]
  exact (h4.2 ht).2

theorem slB {cF:Ctx} {b len k m mx mx':Nat} {els l':List HV} {wr:Bool} (hR:Rel hi c w) (hlo:lo≤hi) (hb:c.H[b]?=some (.arr k els wr mx)) (hs:cF.σ m=c.σ b) (hl:l'.length=(els.take len).length)
  (hrel:∀(i:Nat) (v v':HV),els[i]?=some v→l'[i]?=some v'→(cellsOf v').length=(cellsOf v).length∧((cellsOf v).all Ql=true→(cellsOf v').all Ql=true)∧bnd v'≤mx' ∧
   ∀(j:Nat) (x x':HV) (y:Value),(cellsOf v)[j]?=some x→(cellsOf v')[j]?=some x'→V w (Qg c hi) c x y→V w (Qg cF lo) cF x' y):BlkOk w cF lo m (.arr k l' true mx'):=by
 obtain ⟨h1,h2⟩:=hR.blk b _ hb
 have hpre:∀(i:Nat) (v':HV),l'[i]?=some v'→∃v,els[i]?=some v∧v∈els:=by
  intro i v' hi
  have:=Qd hi
  simp only [hl,qH] at this
  have hx:els[i]?=some els[i]:=by simp [show i<els.length by omega]
  exact ⟨_,hx,qA hx⟩
 refine ⟨fun v' hv'=>?_,?_⟩
 ·obtain ⟨i,hi⟩:=List.mem_iff_getElem?.1 hv'
  obtain ⟨v,q1,q2⟩:=hpre i v' hi
  obtain ⟨r1,r2,r3,_⟩:=hrel i v v' q1 hi
  exact ⟨r1.trans (h1 v q2).1,r2 (h1 v q2).2.1,r3⟩
 ·rw [hs]
  revert h2
  cases c.σ b with
  | none=>intro h2;simp only at h2;subst h2;simpa using hl
  | some r =>
   rintro ⟨g1,cs,T,g2,g3,g4⟩
   refine ⟨qD hlo g1,cs,T,g2,?_,fun i v' j x' hv' hx'=>?_⟩
   ·have:l'.length≤els.length:=by rw [hl,qH];omega
    exact qD (Nat.mul_le_mul_right k this) g3
   ·obtain ⟨v,q1,q2⟩:=hpre i v' hv'
    obtain ⟨r1,r2,r3,r4⟩:=hrel i v v' q1 hv'
    have hlt:=Qd hx'
    have hx:(cellsOf v)[j]?=some (cellsOf v)[j]:=by simp [show j<(cellsOf v).length by omega]
    obtain ⟨y,y1,y2⟩:=g4 i v j _ q1 hx
    exact ⟨y,y1,r4 j _ x' y hx hx' y2⟩

theorem DR {H:Heap} {no:List Nat}:∀{d:Nat} {v v':HV},frz H no d v=some v'→Jd v'=false
 | 0,v,v',h=>by
  simp only [frz] at h
  split at h
  ·rename_i hp
   cases h
   cases v <;> first | rfl | cases hp
  ·cases h
 | d+1,v,v',h=>by
  cases v <;> simp only [frz] at h
  case sl b off len cap tot k =>
   split at h
   ·cases h;rfl
   ·split at h
    ·cases h
    ·split at h
     ·split at h
      ·cases h;rfl
      ·cases h
     ·cases h
  case map b =>
   split at h
   ·cases h
   ·split at h
    ·split at h
     ·cases h;rfl
     ·cases h
    ·cases h
  case agg cs =>
   split at h
   ·cases h;rfl
   ·cases h
  all_goals
   split at h
   ·rename_i hp;cases h;first | rfl | cases hp
   ·cases h

theorem Zp {H:Heap} {no:List Nat} {deep:Bool} {v v':HV} (h:Zq H no deep v=some v') :
  (frz H no 4 v=some v'∧Jd v'=false)∨(deep=true∧∃b len cap tot k l k' els mx,v=.sl b 0 len cap tot k∧H[b]?=some (.arr k' els true mx)∧Wh H b 0 len tot k=some l∧resPL l=true∧v'=.own k l):=by
 unfold Zq at h
 split at h
 ·rename_i hd
  split at h
  ·split at h
   ·rename_i hb
    split at h
    ·rename_i hoff
     subst hoff
     split at h
     ·rename_i l hl
      split at h
      ·rename_i hp
       cases h
       exact .inr ⟨hd,_,_,_,_,_,_,_,_,_,rfl,hb,hl,hp,rfl⟩
      ·cases h
     ·cases h
    ·cases h
   ·exact .inl ⟨h,DR h⟩
  ·exact .inl ⟨h,DR h⟩
 ·exact .inl ⟨h,DR h⟩

theorem DS {H:Heap} {b off len tot k k' mx:Nat} {els l:List HV} {wr:Bool} (hb:H[b]?=some (.arr k' els wr mx)) (h:Wh H b off len tot k=some l):tot=els.length∧off+len≤els.length∧k'=k∧l=(els.drop off).take len:=by
 unfold Wh at h
 rw [hb] at h
 simp only at h
 split at h
 ·rename_i hq
  exact ⟨hq.1,hq.2.1,hq.2.2,by simpa using h.symm⟩
 ·cases h

def C9 (c:Ctx) (v v':HV):Option Nat :=
 match v' with
 | .own _ _=>(match v with | .sl b _ _ _ _ _=>c.σ b | _=>none)
 | _=>none

def Yr (c:Ctx) (l l':List HV):List (Option Nat):=(l.zip l').map fun p=>C9 c p.1 p.2

theorem Qa3 {l l':List HV} (h:l.length=l'.length):(Yr c l l').length=l'.length:=by simp [Yr,h]

theorem Zg:∀(l:List HV) (n:Nat),(QK l n).1.length=l.length∧(QK l n).2.length=l.length
 | [],n=>⟨rfl,rfl⟩
 | v::l,n=>by
  have:=Zg l (n+1)
  cases v <;> simp [QK,this]

def Qeb (v:HV) (n:Nat):HV:=match v with | .own k l=>.sl n 0 l.length none l.length k | v=>v
def Qec (v:HV):Blk:=match v with | .own k l=>.arr k l true 0 | _=>.dead

theorem Ji:∀(l:List HV) (n i:Nat) (v:HV),l[i]?=some v→(QK l n).1[i]?=some (Qeb v (n+i))∧(QK l n).2[i]?=some (Qec v)
 | x::l,n,0,v,h=>by simp at h;subst h;cases x <;> exact ⟨rfl,rfl⟩
 | x::l,n,i+1,v,h=>by
  have:=Ji l (n+1) i v (by simpa using h)
  rw [show n+1+i=n+(i+1) by omega] at this
  cases x <;> simpa [QK] using this

theorem Qa4 {l l':List HV} {i:Nat} {v v':HV} (h:l[i]?=some v) (h':l'[i]?=some v'):(Yr c l l')[i]?=some (C9 c v v'):=by
 simp [Yr,List.getElem?_map,qM,h,h',List.zip,List.getElem?_zipWith]

end
end Go.HL


/- One cell of a result is handed over. -/
namespace Go.HL
section
variable {w:World} {c:Ctx} {P:Program} {lo hi:Nat} {rv:Value}

def Uh (c:Ctx) (hi:Nat) (no:List Nat) (r:Nat):Prop:=hi≤r∧∀b,b∈no→c.σ b≠some r

def GX (c:Ctx) (no:List Nat):Prop:=∀b r,b∈no→c.σ b=some r→c.M r

theorem QbW {cF:Ctx} {no:List Nat} {d:Nat} {x x':HV} {y:Value} (hR:Rel hi c w) (hno:GX c no) (hF:∀r t,Uh c hi no r→Qg cF lo t r) (hv:V w (Qg c hi) c x y) (h:frz c.H no d x=some x') :
  V w (Qg cF lo) cF x' y∧bnd x'=0:=by
 have h1:=C8 (ok':=fun _ r=>Uh c hi no r) hR (fun r hr=>⟨hr.2 rfl,fun b hb hs=>hr.1 (hno b r hb hs)⟩) (fun b r hs hr hb=>⟨hr,fun b' hb' hs'=>hb (by rw [hR.inj b b' r hs hs'];exact hb')⟩) d Ctx.nil hv h
 exact ⟨h1.evo ⟨rfl,rfl,rfl,qC _,fun t r _ hr=>⟨hF r t hr,rfl⟩,fun r cs T fz h=>⟨cs,T,fz,h,rfl⟩⟩ (CEvo.of_nil cF),h1.pure_bnd rfl⟩

theorem V.rc {ok:Bool→Nat→Prop} {d:Ctx} {v:HV} (h:V w ok d v rv) (n:Nat):rcV v n=v∧rcB v n=[]:=by cases h <;> exact ⟨rfl,rfl⟩

theorem Ui {cF:Ctx} {no:List Nat} {d b k mx i:Nat} {els:List HV} {wr:Bool} {v v':HV} (hR:Rel hi c w) (hno:GX c no) (hF:∀r t,Uh c hi no r→Qg cF lo t r) (hb:c.H[b]?=some (.arr k els wr mx)) (hv:els[i]?=some v)
  (h:frz c.H no d v=some v'):(cellsOf v').length=(cellsOf v).length∧((cellsOf v).all Ql=true→(cellsOf v').all Ql=true)∧bnd v'=0 ∧
   ∀(j:Nat) (x x':HV) (y:Value),(cellsOf v)[j]?=some x→(cellsOf v')[j]?=some x'→V w (Qg c hi) c x y→V w (Qg cF lo) cF x' y:=by
 obtain ⟨c1,c2,c3⟩:=Vl h
 obtain ⟨b1,b2⟩:=hR.blk b _ hb
 have hcv:=c2 (b1 v (qA hv)).2.1
 refine ⟨c1,c2,?_,fun j x x' y g1 g2 g3=>?_⟩
 ·rw [← VQ hcv]
  refine Ze fun x' hx'=>?_
  obtain ⟨j,hj⟩:=List.mem_iff_getElem?.1 hx'
  have hlt:=Qd hj
  have hx:(cellsOf v)[j]?=some (cellsOf v)[j]:=by simp [show j<(cellsOf v).length by omega]
  revert b2
  cases hs:c.σ b with
  | none=>intro b2;simp only at b2;subst b2;simp at hv
  | some r =>
   rintro ⟨g1,cs,T,g2,g3,g4⟩
   obtain ⟨y,y1,y2⟩:=g4 i v j _ hv hx
   obtain ⟨d',hd',hh⟩:=c3 j _ x' hx hj
   exact (QbW (cF:=cF) hR hno hF y2 hh).2
 ·obtain ⟨d',hd',hh⟩:=c3 j x x' g1 g2
  exact (QbW (cF:=cF) hR hno hF g3 hh).1

theorem GY {no:List Nat} {deep:Bool}:∀{l l':List HV},mapO (Zq c.H no deep) l=some l'→((Yr c l l').filterMap id).Sublist ((l.flatMap (Ka c.H)).filterMap c.σ)
 | [],l',h=>by cases h;exact List.Sublist.refl _
 | v::l,l',h=>by
  unfold mapO at h
  split at h
  ·cases h
  rename_i v' hv'
  split at h
  ·cases h
  rename_i l1 hl1
  cases h
  have ih:=GY hl1
  rw [qJ,qE]
  have hcons:Yr c (v::l) (v'::l1)=C9 c v v'::Yr c l l1:=rfl
  rw [hcons,List.filterMap_cons]
  rcases Zp hv' with ⟨_,ho⟩ | ⟨_,b,len,cap,tot,k,l2,k',els,mx,rfl,hb,_,_,rfl⟩
  ·have:C9 c v v'=none:=by cases v' <;> first | rfl | cases ho
   rw [this]
   exact ih.trans (List.sublist_append_right _ _)
  ·have h1:C9 c (.sl b 0 len cap tot k) (.own k l2)=c.σ b:=rfl
   have h2:Ka c.H (.sl b 0 len cap tot k)=[b]:=by simp only [Ka,hb]
   rw [h1,h2]
   cases hs:c.σ b with
   | none=>simpa [hs] using ih
   | some r=>simpa [hs] using ih

theorem Qa5 {H:Heap} {no:List Nat} {v:HV} (h:resP v=true):frz H no 0 v=some v:=by simp [frz,h]

theorem QbX {H:Heap} {no:List Nat} {d:Nat} {x x':HV} (h:(Jf x x).isSome=true) (hf:frz H no d x=some x'):x'=x:=by
 cases x <;> simp only [Jf] at h <;> first
  | (cases h;done)
  | (cases d <;> simp only [frz,resP,if_true] at hf <;> cases hf <;> rfl)

theorem U8:∀{l:List HV},(Wn l l).isSome=true→∀x,x∈l→(Jf x x).isSome=true
 | y::l,h,x,hx=>by
  simp only [Wn] at h
  cases h1:Jf y y with
  | none=>rw [h1] at h;cases h
  | some a =>
   cases h2:Wn l l with
   | none=>rw [h1,h2] at h;cases h
   | some b =>
    cases hx with
    | head=>rw [h1];rfl
    | tail _ hx=>exact U8 (l:=l) (by rw [h2];rfl) x hx

theorem Qed {H:Heap} {no:List Nat} {d:Nat} {k k':HV} (h:(Wn (cellsOf k) (cellsOf k)).isSome=true) (hf:frz H no d k=some k'):cellsOf k'=cellsOf k:=by
 obtain ⟨c1,c2,c3⟩:=Vl hf
 refine List.ext_getElem c1 fun j h1 h2=>?_
 obtain ⟨d',_,hh⟩:=c3 j _ _ (qN h2) (qN h1)
 exact QbX (U8 h _ (List.getElem_mem h2)) hh

theorem Uj {no:List Nat} {deep:Bool} {v v':HV} (hR:Rel hi c w) (hlo:lo≤hi) (hno:GX c no) (hv:V w (Qg c hi) c v rv) (h:Wr c.H no deep v=some v') :
  ∃ss,(ss.filterMap id).Sublist ((WQ c.H deep v).filterMap c.σ)∧Good w lo (Uh c hi no) (rcV v') (rcB v') ss rv:=by
 have plain:∀{u:HV},frz c.H no 4 u=some v'→V w (Qg c hi) c u rv→∃ss,(ss.filterMap id).Sublist ((WQ c.H deep v).filterMap c.σ)∧Good w lo (Uh c hi no) (rcV v') (rcB v') ss rv:=by
  intro u hu huv
  have hrc:∀n,rcV v' n=v'∧rcB v' n=[]:=fun n=>by
   have h1:=C8 (ok':=fun _ _=>True) hR (fun _ _=>trivial) (fun _ _ _ _ _=>trivial) 4 Ctx.nil huv hu
   exact h1.rc n
  refine ⟨[],by simp,fun n=>by rw [(hrc n).2];rfl,fun n cF hF hB=>⟨?_,fun i x hx=>?_⟩⟩
  ·rw [(hrc n).1];exact (QbW hR hno hF huv hu).1
  ·rw [(hrc n).2] at hx;simp at hx
 unfold Wr at h
 split at h
 ·rename_i b off len cap tot k
  split at h
  ·rename_i k1 els mx hb
   split at h
   rotate_left
   ·cases h
   rename_i hoff
   subst hoff
   split at h
   rotate_left
   ·cases h
   rename_i l hl
   split at h
   rotate_left
   ·cases h
   rename_i l' hl'
   cases h
   obtain ⟨q1,q2,q3,q4⟩:=DS hb hl
   subst q3
   simp only [qK] at q4
   obtain ⟨m1,m2⟩:=Q6 hl'
   have hll:l.length=len:=by rw [q4,qH];omega
   have hget:∀(i:Nat) (e e':HV),els[i]?=some e→l'[i]?=some e'→Zq c.H no deep e=some e':=by
    intro i e e' h1 h2
    refine m2 i e e' ?_ h2
    have:=Qd h2
    rw [q4,qL,if_pos (by omega)]
    exact h1
   by_cases hown:l'.any Jd=true
   ·have hdeep:deep=true:=by
     obtain ⟨e',he',ho⟩:=List.any_eq_true.1 hown
     obtain ⟨i,hi'⟩:=List.mem_iff_getElem?.1 he'
     have:=Qd hi'
     have hx:l[i]?=some l[i]:=by simp [show i<l.length by omega]
     rcases Zp (m2 i _ e' hx hi') with ⟨_,h2⟩ | ⟨h2,_⟩
     ·rw [h2] at ho;cases ho
     ·exact h2
    refine ⟨c.σ b::Yr c l l',?_,fun n=>?_,fun n cF hF hB=>?_⟩
    ·have howned:WQ c.H deep (.sl b 0 len cap tot k1)=b::l.flatMap (Ka c.H):=by simp only [WQ,hb,hdeep,hl,if_true]
     rw [howned]
     have:=GY hl'
     cases hs:c.σ b with
     | none=>simpa [hs] using this
     | some r=>simpa [hs] using this
    ·simp only [rcB,hown,if_true,List.length_cons,(Zg l' (n+1)).2,Qa3 m1.symm]
    ·have hBe:rcB (.own k1 l') n=.arr k1 (QK l' (n+1)).1 true (n+1+l'.length)::(QK l' (n+1)).2:=by simp only [rcB,hown,if_true]
     rw [hBe] at hB
     obtain ⟨h0,s0⟩:=hB 0 _ _ rfl rfl
     simp only [qF] at h0 s0
     have hrow:∀(i:Nat) (e e':HV),l[i]?=some e→l'[i]?=some e'→cF.H[n+1+i]?=some (Qec e')∧cF.σ (n+1+i)=C9 c e e':=by
      intro i e e' h1 h2
      have:=hB (i+1) (Qec e') (C9 c e e') (by simpa using (Ji l' (n+1) i e' h2).2) (by simpa using Qa4 (c:=c) h1 h2)
      rwa [show n+(i+1)=n+1+i by omega] at this
     have hle:∀(i:Nat) (e':HV),l'[i]?=some e'→∃e,els[i]?=some e∧l[i]?=some e∧Zq c.H no deep e=some e':=by
      intro i e' h2
      have:=Qd h2
      have hx:els[i]?=some els[i]:=by simp [show i<els.length by omega]
      generalize els[i]=E at hx
      refine ⟨E,hx,?_,hget i _ e' hx h2⟩
      rw [q4,qL,if_pos (by omega)]
      exact hx
     refine ⟨?_,fun i x hx=>?_⟩
     ·have hlen:=(Zg l' (n+1)).1
      have:=slV (ok:=Qg cF lo) (m:=n) hv hb q1 h0 s0 (by rw [hlen,m1,hll])
      rw [hlen] at this
      exact this
     ·rw [hBe] at hx
      cases i with
      | zero =>
       simp at hx
       subst hx
       refine slB hR hlo hb s0 (by rw [(Zg l' (n+1)).1,m1,q4]) fun i e e'' he he''=>?_
       have hlt:i<l'.length:=by have:=Qd he'';rw [(Zg l' (n+1)).1] at this;exact this
       have hi':l'[i]?=some l'[i]:=by simp [hlt]
       generalize l'[i]=e' at hi'
       rw [(Ji l' (n+1) i e' hi').1] at he''
       cases he''
       obtain ⟨e0,g1,g2,g3⟩:=hle i e' hi'
       rw [he] at g1;cases g1
       rcases Zp g3 with ⟨hf,ho⟩ | ⟨_,b2,len2,cap2,tot2,k2,l2,k2',els2,mx2,rfl,hb2,hl2,hp2,rfl⟩
       ·have hrv:Qeb e' (n+1+i)=e':=by cases e' <;> first | rfl | cases ho
        rw [hrv]
        obtain ⟨f1,f2,f3,f4⟩:=Ui hR hno hF hb he hf
        exact ⟨f1,f2,by omega,f4⟩
       ·obtain ⟨t1,t2,t3,t4⟩:=DS hb2 hl2
        subst t3
        simp only [qK] at t4
        obtain ⟨r1,r2⟩:=hrow i _ _ g2 hi'
        refine ⟨rfl,fun _=>rfl,?_,fun j x x' y hx hx' hxy=>?_⟩
        ·simp only [Qeb,bnd];omega
        ·cases j with
         | zero =>
          simp [cellsOf,Qeb] at hx hx'
          subst hx;subst hx'
          exact slV (ok:=Qg cF lo) hxy hb2 t1 r1 r2 (by rw [t4,qH];omega)
         | succ j=>simp [cellsOf] at hx
      | succ i =>
       have hx':(QK l' (n+1)).2[i]?=some x:=by simpa using hx
       have hlt:i<l'.length:=by have:=Qd hx';rw [(Zg l' (n+1)).2] at this;exact this
       have hi':l'[i]?=some l'[i]:=by simp [hlt]
       generalize l'[i]=e' at hi'
       rw [(Ji l' (n+1) i e' hi').2] at hx'
       cases hx'
       obtain ⟨e0,g1,g2,g3⟩:=hle i e' hi'
       rw [show n+(i+1)=n+1+i by omega]
       rcases Zp g3 with ⟨hf,ho⟩ | ⟨_,b2,len2,cap2,tot2,k2,l2,k2',els2,mx2,rfl,hb2,hl2,hp2,rfl⟩
       ·have hrb:Qec e'=.dead:=by cases e' <;> first | rfl | cases ho
        rw [hrb];trivial
       ·obtain ⟨t1,t2,t3,t4⟩:=DS hb2 hl2
        subst t3
        simp only [qK] at t4
        obtain ⟨r1,r2⟩:=hrow i _ _ g2 hi'
        refine slB hR hlo hb2 r2 (by rw [t4]) fun j u u' hu hu'=>?_
        have huu:u'=u∧resP u=true:=by
         have hu'':=hu'
         rw [t4,qL] at hu''
         split at hu''
         ·rw [hu] at hu'';cases hu'';exact ⟨rfl,WA hp2 _ (qA hu')⟩
         ·cases hu''
        obtain ⟨rfl,hpu⟩:=huu
        obtain ⟨f1,f2,f3,f4⟩:=Ui hR hno hF hb2 hu (Qa5 hpu)
        exact ⟨f1,f2,by omega,f4⟩
   ·refine ⟨[c.σ b],?_,fun n=>?_,fun n cF hF hB=>?_⟩
    ·have howned:∃X,WQ c.H deep (.sl b 0 len cap tot k1)=b::X:=by simp only [WQ,hb];exact ⟨_,rfl⟩
     obtain ⟨X,hX⟩:=howned
     rw [hX]
     cases hs:c.σ b with
     | none=>simp
     | some r=>simp [hs]
    ·simp only [rcB,hown,if_false];rfl
    ·have hBe:rcB (.own k1 l') n=[.arr k1 l' true 0]:=by simp only [rcB,hown];rfl
     rw [hBe] at hB
     obtain ⟨h0,s0⟩:=hB 0 _ _ rfl rfl
     simp only [qF] at h0 s0
     refine ⟨slV (ok:=Qg cF lo) (m:=n) hv hb q1 h0 s0 (by rw [m1,hll]),fun i x hx=>?_⟩
     rw [hBe] at hx
     cases i with
     | succ i=>simp at hx
     | zero =>
      simp at hx
      subst hx
      refine slB hR hlo hb s0 (by rw [m1,q4]) fun i e e' he he'=>?_
      have hne:Jd e'=false:=by
       cases hq:Jd e' with
       | false=>rfl
       | true=>exact absurd (List.any_eq_true.2 ⟨e',qA he',hq⟩) hown
      rcases Zp (hget i e e' he he') with ⟨hf,_⟩ | ⟨_,_,_,_,_,_,_,_,_,_,_,_,_,_,rfl⟩
      ·obtain ⟨f1,f2,f3,f4⟩:=Ui hR hno hF hb he hf
       exact ⟨f1,f2,by omega,f4⟩
      ·cases hne
  ·exact plain h hv
 ·rename_i k
  cases h
  cases hv with
  | imm _ _ _ a cap f hcap hlit haddr hk hc hvv =>
   have hcap0:=hlit rfl
   simp at hcap0
   subst hcap0
   refine ⟨[none],by simp,fun n=>rfl,fun n cF hF hB=>?_⟩
   have hBe:rcB (.own k []) n=[.arr k [] true 0]:=rfl
   obtain ⟨h0,s0⟩:=hB 0 _ _ rfl rfl
   simp only [qF] at h0 s0
   refine ⟨.sl n 0 0 none 0 k a 0 ⟨qC _,by simp,by simp,_,h0,by simp [s0]⟩,fun i x hx=>?_⟩
   rw [hBe] at hx
   cases i with
   | zero=>simp at hx;subst hx;exact ⟨by simp,by simp only [qF,s0]⟩
   | succ i=>simp at hx
 ·rename_i b
  split at h
  rotate_left
  ·cases h
  rename_i ks vs mx hb
  split at h
  rotate_left
  ·cases h
  rename_i ks' vs' hks hvs
  cases h
  cases hv with
  | map _ r ks1 vs1 mx1 hH hs =>
   obtain ⟨g0,g00,r',hs',hlo',es,clock,hw,hl,hl',hk,hvv⟩:=hR.blk b _ hb
   have:r'=r:=by rw [hs] at hs';cases hs';rfl
   subst this
   obtain ⟨m1,m2⟩:=Q6 hks
   obtain ⟨n1,n2⟩:=Q6 hvs
   refine ⟨[c.σ b],?_,fun n=>rfl,fun n cF hF hB=>?_⟩
   ·simp [WQ,hb,hs]
   obtain ⟨h0,s0⟩:=hB 0 _ _ rfl rfl
   simp only [qF] at h0 s0
   have pk:∀(i:Nat) (x:HV),ks'[i]?=some x→∃v,ks[i]?=some v∧frz c.H no 4 v=some x:=fun i x hi=>by
    have:=Qd hi
    have hx:ks[i]?=some ks[i]:=by simp [show i<ks.length by omega]
    exact ⟨_,hx,m2 i _ x hx hi⟩
   have pv:∀(i:Nat) (x:HV),vs'[i]?=some x→∃v,vs[i]?=some v∧frz c.H no 4 v=some x:=fun i x hi=>by
    have:=Qd hi
    have hx:vs[i]?=some vs[i]:=by simp [show i<vs.length by omega]
    exact ⟨_,hx,n2 i _ x hx hi⟩
   refine ⟨.map n r' ks' vs' 0 h0 (s0.trans hs),fun i x hx=>?_⟩
   cases i with
   | succ i=>simp [rcB] at hx
   | zero =>
    simp [rcB] at hx
    subst hx
    refine ⟨fun x hx=>?_,⟨fun x hx=>?_,g00.2.mapO (fun a a'=>QbQ) (by omega) pk⟩,r',s0.trans hs,qD hlo hlo',es,clock,hw,by omega,by omega,fun i x m h1 h2=>?_,fun i x m h1 h2=>?_⟩
    ·obtain ⟨i,hi'⟩:=List.mem_iff_getElem?.1 hx
     obtain ⟨v,q1,q2⟩:=pv i x hi'
     have:=Qd hi'
     have he:es[i]?=some es[i]:=by simp [show i<es.size by omega]
     exact Nat.le_of_eq (QbW (cF:=cF) hR hno hF (hvv i v _ q1 he) q2).2
    ·obtain ⟨i,hi'⟩:=List.mem_iff_getElem?.1 hx
     obtain ⟨v,q1,q2⟩:=pk i x hi'
     obtain ⟨z1,z2⟩:=g00.1 v (qA q1)
     rw [Qed z2 q2]
     exact ⟨z1,z2⟩
    ·obtain ⟨v,q1,q2⟩:=pk i x h1
     have hkv:=(hk i v m q1 h2).evo (d:=c) (WEvo.refl _ _) (CEvo.of_nil c)
     have h1':=C8 (ok':=fun _ r=>Uh c hi no r) hR (fun r hr=>⟨hr.2 rfl,fun b hb hs=>hr.1 (hno b r hb hs)⟩) (fun b r hs hr hb=>⟨hr,fun b' hb' hs'=>hb (by rw [hR.inj b b' r hs hs'];exact hb')⟩) 4 Ctx.nil hkv q2
     exact h1'.evo ⟨rfl,rfl,rfl,qC _,fun t r _ hr=>⟨hF r t hr,rfl⟩,fun r cs T fz h=>⟨cs,T,fz,h,rfl⟩⟩ (CEvo.refl _)
    ·obtain ⟨v,q1,q2⟩:=pv i x h1
     exact (QbW hR hno hF (hvv i v m q1 h2) q2).1
 ·exact plain h hv

end
end Go.HL


/- Whole results are handed over. -/
namespace Go.HL
section
variable {w:World} {c:Ctx} {P:Program} {lo hi:Nat} {rv:Value}

theorem Qee {n:Nat} {B1 B2:Heap} {s1 s2:List (Option Nat)} {Q:Nat→Blk→Option Nat→Prop} (hl:B1.length=s1.length)
  (h:∀(i:Nat) (x:Blk) (s:Option Nat),(B1++B2)[i]?=some x→(s1++s2)[i]?=some s→Q (n+i) x s) :
  (∀(i:Nat) (x:Blk) (s:Option Nat),B1[i]?=some x→s1[i]?=some s→Q (n+i) x s)∧∀(i:Nat) (x:Blk) (s:Option Nat),B2[i]?=some x→s2[i]?=some s→Q (n+B1.length+i) x s:=by
 refine ⟨fun i x s h1 h2=>h i x s ?_ ?_,fun i x s h1 h2=>?_⟩
 ·rw [qG (Qd h1)];exact h1
 ·rw [qG (Qd h2)];exact h2
 ·have:=h (B1.length+i) x s (by rw [qB (by omega)];simpa using h1) (by rw [qB (by omega),hl];simpa using h2)
  rwa [← Nat.add_assoc] at this

theorem Qhc {n:Nat} {B1 B2:Heap} {Q:Nat→Blk→Prop} (h1:∀(i:Nat) (x:Blk),B1[i]?=some x→Q (n+i) x) (h2:∀(i:Nat) (x:Blk),B2[i]?=some x→Q (n+B1.length+i) x) :
  ∀(i:Nat) (x:Blk),(B1++B2)[i]?=some x→Q (n+i) x:=by
 intro i x h
 rcases Nat.lt_or_ge i B1.length with hi | hi
 ·rw [qG hi] at h;exact h1 i x h
 ·rw [qB hi] at h
  have:=h2 (i-B1.length) x h
  rwa [show n+B1.length+(i-B1.length)=n+i by omega] at this

def GoodL (w:World) (lo:Nat) (ok2:Nat→Prop) (F:Nat→List HV) (B:Nat→Heap) (ss:List (Option Nat)) (rs:List Value):Prop :=
 (∀n,(B n).length=ss.length)∧∀(n:Nat) (cF:Ctx),(∀r t,ok2 r→Qg cF lo t r) →
  (∀(i:Nat) (x:Blk) (s:Option Nat),(B n)[i]?=some x→ss[i]?=some s→cF.H[n+i]?=some x∧cF.σ (n+i)=s) →
  ((F n).length=rs.length∧∀(i:Nat) (v:HV) (r:Value),(F n)[i]?=some v→rs[i]?=some r→V w (Qg cF lo) cF v r)∧∀(i:Nat) (x:Blk),(B n)[i]?=some x→BlkOk w cF lo (n+i) x

theorem GoodL.nil {ok2:Nat→Prop}:GoodL w lo ok2 (fun _=>[]) (fun _=>[]) [] []:=⟨fun _=>rfl,fun n cF hF hB=>⟨⟨rfl,by simp⟩,by simp⟩⟩

theorem GoodL.cons {ok2:Nat→Prop} {F:Nat→HV} {B:Nat→Heap} {ss:List (Option Nat)} {r:Value} {F':Nat→List HV} {B':Nat→Heap} {ss':List (Option Nat)} {rs:List Value}
  (h:Good w lo ok2 F B ss r) (h':GoodL w lo ok2 F' B' ss' rs):GoodL w lo ok2 (fun n=>F n::F' (n+(B n).length)) (fun n=>B n++B' (n+(B n).length)) (ss++ss') (r::rs):=by
 refine ⟨fun n=>by simp [h.1,h'.1],fun n cF hF hB=>?_⟩
 obtain ⟨b1,b2⟩:=Qee (Q:=fun i x s=>cF.H[i]?=some x∧cF.σ i=s) (h.1 n) hB
 obtain ⟨v1,v2⟩:=h.2 n cF hF b1
 obtain ⟨⟨l1,l2⟩,l3⟩:=h'.2 (n+(B n).length) cF hF b2
 refine ⟨⟨by simp [l1],fun i v x g1 g2=>?_⟩,Qhc v2 l3⟩
 cases i with
 | zero=>simp at g1 g2;subst g1;subst g2;exact v1
 | succ i=>exact l2 i v x (by simpa using g1) (by simpa using g2)

theorem GZ {no:List Nat} {deep:Bool} (hR:Rel hi c w) (hlo:lo≤hi) (hno:GX c no):∀{l l':List HV} {rs:List Value},l.length=rs.length →
  (∀(i:Nat) (v:HV) (r:Value),l[i]?=some v→rs[i]?=some r→V w (Qg c hi) c v r)→mapO (Wr c.H no deep) l=some l' →
  ∃ss,(ss.filterMap id).Sublist ((l.flatMap (WQ c.H deep)).filterMap c.σ)∧GoodL w lo (Uh c hi no) (GW l') (Qa0 l') ss rs
 | [],l',[],_,_,h=>by cases h;exact ⟨[],by simp,GoodL.nil⟩
 | v::l,l',r::rs,hl,hV,h=>by
  unfold mapO at h
  split at h
  ·cases h
  rename_i v' hv'
  split at h
  ·cases h
  rename_i l1 hl1
  cases h
  obtain ⟨s1,t1,g1⟩:=Uj hR hlo hno (hV 0 v r rfl rfl) hv'
  obtain ⟨s2,t2,g2⟩:=GZ hR hlo hno (l:=l) (rs:=rs) (by simpa using hl) (fun i v r h1 h2=>hV (i+1) v r (by simpa using h1) (by simpa using h2)) hl1
  refine ⟨s1++s2,?_,GoodL.cons g1 g2⟩
  rw [qE,qJ,qE]
  exact t1.append t2
 | _::_,_,[],hl,_,_=>by simp at hl
 | [],_,_::_,hl,_,_=>by simp at hl

theorem DT {H:Heap} {no:List Nat} {deep:Bool} {v v':HV} (h:Wr H no deep v=some v') (hc:Ql v=true) (n:Nat):Ql (rcV v' n)=true:=by
 have plain:∀{u:HV},frz H no 4 u=some v'→Ql u=true→Ql (rcV v' n)=true:=by
  intro u hu hcu
  have:=(JY hu).2 hcu
  cases v' <;> first | exact this | rfl
 unfold Wr at h
 split at h
 ·split at h
  ·split at h
   ·split at h
    ·split at h
     ·cases h;rfl
     ·cases h
    ·cases h
   ·cases h
  ·exact plain h hc
 ·cases h;rfl
 ·split at h
  ·split at h
   ·cases h;rfl
   ·cases h
  ·cases h
 ·exact plain h hc

theorem U9:∀{l l':List HV} {H:Heap} {no:List Nat} {deep:Bool},mapO (Wr H no deep) l=some l'→(∀v,v∈l→Ql v=true)→∀(n:Nat) (v:HV),v∈GW l' n→Ql v=true
 | [],l',H,no,deep,h,hc,n,v,hv=>by cases h;cases hv
 | x::l,l',H,no,deep,h,hc,n,v,hv=>by
  unfold mapO at h
  split at h
  ·cases h
  rename_i v' hv'
  split at h
  ·cases h
  rename_i l1 hl1
  cases h
  simp only [GW] at hv
  cases hv with
  | head=>exact DT hv' (hc x (by simp)) n
  | tail _ hv=>exact U9 hl1 (fun y hy=>hc y (by simp [hy])) _ v hv

theorem QbY {no:List Nat} {deep:Bool} {v v':HV} (hR:Rel hi c w) (hlo:lo≤hi) (hno:GX c no) (hv:V w (Qg c hi) c v rv) (h:WO c.H no deep v=some v') :
  ∃ss,(ss.filterMap id).Sublist (((cellsOf v).flatMap (WQ c.H deep)).filterMap c.σ)∧Good w lo (Uh c hi no) (rvV v') (rvB v') ss rv:=by
 cases hv':QZ v with
 | true =>
  cases v with
  | agg cs =>
   simp only [WO] at h
   split at h
   rotate_left
   ·cases h
   rename_i l hl
   cases h
   cases hv with
   | agg _ rs hlen hc hh =>
    obtain ⟨ss,t,g⟩:=GZ (lo:=lo) hR hlo hno (rs:=rs.toList) (by simpa using hlen) (fun i v r h1 h2=>hh i v r h1 (by rw [← qI];exact h2)) hl
    refine ⟨ss,t,g.1,fun n cF hF hB=>?_⟩
    obtain ⟨⟨l1,l2⟩,l3⟩:=g.2 n cF hF hB
    exact ⟨.agg _ rs (by simpa using l1) (U9 hl hc n) fun i v r h1 h2=>l2 i v r h1 (by rw [qI];exact h2),l3⟩
  | _=>cases hv'
 | false =>
  have hr:WO c.H no deep v=Wr c.H no deep v:=by cases v <;> first | rfl | cases hv'
  rw [hr] at h
  obtain ⟨ss,t,g⟩:=Uj (lo:=lo) hR hlo hno hv h
  have hne:QZ v'=false:=by
   unfold Wr at h
   split at h
   ·split at h
    ·split at h
     ·split at h
      ·split at h
       ·cases h;rfl
       ·cases h
      ·cases h
     ·cases h
    ·exact (JY h).1.trans hv'
   ·cases h;rfl
   ·split at h
    ·split at h
     ·cases h;rfl
     ·cases h
    ·cases h
   ·exact (JY h).1.trans hv'
  have hV':rvV v'=rcV v':=by funext n;cases v' <;> first | rfl | cases hne
  have hB':rvB v'=rcB v':=by funext n;cases v' <;> first | rfl | cases hne
  rw [hV',hB',ZL hv']
  exact ⟨ss,by simpa using t,g⟩

theorem SV {no:List Nat} {deep:Bool} (hR:Rel hi c w) (hlo:lo≤hi) (hno:GX c no):∀{l l':List HV} {rs:List Value},l.length=rs.length →
  (∀(i:Nat) (v:HV) (r:Value),l[i]?=some v→rs[i]?=some r→V w (Qg c hi) c v r)→mapO (WO c.H no deep) l=some l' →
  ∃ss,(ss.filterMap id).Sublist ((l.flatMap fun v=>(cellsOf v).flatMap (WQ c.H deep)).filterMap c.σ)∧GoodL w lo (Uh c hi no) (Qa1 l') (Qa2 l') ss rs
 | [],l',[],_,_,h=>by cases h;exact ⟨[],by simp,GoodL.nil⟩
 | v::l,l',r::rs,hl,hV,h=>by
  unfold mapO at h
  split at h
  ·cases h
  rename_i v' hv'
  split at h
  ·cases h
  rename_i l1 hl1
  cases h
  obtain ⟨s1,t1,g1⟩:=QbY hR hlo hno (hV 0 v r rfl rfl) hv'
  obtain ⟨s2,t2,g2⟩:=SV hR hlo hno (l:=l) (rs:=rs) (by simpa using hl) (fun i v r h1 h2=>hV (i+1) v r (by simpa using h1) (by simpa using h2)) hl1
  refine ⟨s1++s2,?_,GoodL.cons g1 g2⟩
  rw [qE,qJ,qE]
  exact t1.append t2
 | _::_,_,[],hl,_,_=>by simp at hl
 | [],_,_::_,hl,_,_=>by simp at hl

def Uk:HV→Bool
 | .tuple _=>true
 | _=>false

theorem SX {H:Heap} {no:List Nat}:∀{d:Nat} {v v':HV},frz H no d v=some v'→Uk v'=Uk v
 | 0,v,v',h=>by
  simp only [frz] at h
  split at h
  ·cases h;rfl
  ·cases h
 | d+1,v,v',h=>by
  cases v <;> simp only [frz] at h
  case sl b off len cap tot k =>
   split at h
   ·cases h;rfl
   ·split at h
    ·cases h
    ·split at h
     ·split at h
      ·cases h;rfl
      ·cases h
     ·cases h
  case map b =>
   split at h
   ·cases h
   ·split at h
    ·split at h
     ·cases h;rfl
     ·cases h
    ·cases h
  case agg cs =>
   split at h
   ·cases h;rfl
   ·cases h
  all_goals
   split at h
   ·cases h;rfl
   ·cases h

theorem G0 {H:Heap} {no:List Nat} {deep:Bool} {v v':HV} (h:Wr H no deep v=some v'):Uk v'=Uk v:=by
 unfold Wr at h
 split at h
 ·split at h
  ·split at h
   ·split at h
    ·split at h
     ·cases h;rfl
     ·cases h
    ·cases h
   ·cases h
  ·exact SX h
 ·cases h;rfl
 ·split at h
  ·split at h
   ·cases h;rfl
   ·cases h
  ·cases h
 ·exact SX h

theorem Sa {H:Heap} {no:List Nat} {deep:Bool} {v v':HV} (h:WO H no deep v=some v'):Uk v'=Uk v:=by
 unfold WO at h
 split at h
 ·split at h
  ·cases h;rfl
  ·cases h
 ·exact G0 h

theorem Qhd {deep:Bool} {v res:HV} (hR:Rel hi c w) (hlo:lo≤hi) (hno:GX c (Qu c.H deep v)) (hv:V w (Qg c hi) c v rv) (h:We c.H deep v=some res) :
  (Qu c.H deep v).Nodup∧∃ss,(ss.filterMap id).Sublist ((Qu c.H deep v).filterMap c.σ)∧Good w lo (Uh c hi (Qu c.H deep v)) (rV res) (rB res) ss rv:=by
 unfold We at h
 simp only at h
 split at h
 rotate_left
 ·cases h
 rename_i hnd
 refine ⟨hnd,?_⟩
 by_cases ht:∃vs,v=.tuple vs
 ·obtain ⟨vs,rfl⟩:=ht
  simp only at h
  split at h
  rotate_left
  ·cases h
  rename_i l hl
  cases h
  cases hv with
  | tuple _ rs hlen hh =>
   obtain ⟨ss,t,g⟩:=SV (lo:=lo) hR hlo hno (rs:=rs.toList) (by simpa using hlen) (fun i v r h1 h2=>hh i v r h1 (by rw [← qI];exact h2)) hl
   refine ⟨ss,t,g.1,fun n cF hF hB=>?_⟩
   obtain ⟨⟨l1,l2⟩,l3⟩:=g.2 n cF hF hB
   exact ⟨.tuple _ rs (by simpa using l1) fun i v r h1 h2=>l2 i v r h1 (by rw [qI];exact h2),l3⟩
 ·have h1:WO c.H (Qu c.H deep v) deep v=some res:=by
   cases v <;> first | exact h | exact absurd ⟨_,rfl⟩ ht
  have h2:Qu c.H deep v=(cellsOf v).flatMap (WQ c.H deep):=by
   cases v <;> first | rfl | exact absurd ⟨_,rfl⟩ ht
  obtain ⟨ss,t,g⟩:=QbY (lo:=lo) hR hlo hno hv h1
  have h3:∀n,rV res n=rvV res n∧rB res n=rvB res n:=by
   intro n
   have hnt:∀vs,res≠.tuple vs:=by
    intro vs hq
    have h5:=Sa h1
    rw [hq] at h5
    have:Uk v=false:=by cases v <;> first | rfl | exact absurd ⟨_,rfl⟩ ht
    rw [this] at h5;cases h5
   cases res <;> first | exact ⟨rfl,rfl⟩ | exact absurd rfl (hnt _)
  refine ⟨ss,by rw [h2];exact t,?_⟩
  have hV':rV res=rvV res:=funext fun n=>(h3 n).1
  have hB':rB res=rvB res:=funext fun n=>(h3 n).2
  rw [hV',hB']
  exact g

end
end Go.HL


/- Calls of functions that change nothing of the caller's; every call. -/
namespace Go.HL
section
variable {w:World} {c:Ctx} {P:Program} {lo hi:Nat} {rv:Value}

def isM (H:Heap) (b:Nat):Prop:=(∃k els mx,H[b]?=some (Blk.arr k els true mx))∨(∃ks vs mx,H[b]?=some (Blk.map ks vs mx))

theorem QbZ {H:Heap} {v:HV} {b:Nat} (h:b∈Ka H v):isM H b:=by
 unfold Ka at h
 split at h
 ·split at h
  ·rename_i hb;simp at h;subst h;exact .inl ⟨_,_,_,hb⟩
  ·cases h
 ·split at h
  ·rename_i hb;simp at h;subst h;exact .inr ⟨_,_,_,hb⟩
  ·cases h
 ·cases h

theorem SY {H:Heap} {deep:Bool} {v:HV} {b:Nat} (h:b∈WQ H deep v):isM H b:=by
 unfold WQ at h
 split at h
 ·split at h
  ·rename_i hb
   cases h with
   | head=>exact .inl ⟨_,_,_,hb⟩
   | tail _ h =>
    split at h
    ·split at h
     ·obtain ⟨u,hu,hbu⟩:=List.mem_flatMap.1 h
      exact QbZ hbu
     ·cases h
    ·cases h
  ·cases h
 ·split at h
  ·rename_i hb;simp at h;subst h;exact .inr ⟨_,_,_,hb⟩
  ·cases h
 ·cases h

theorem Ul {H:Heap} {deep:Bool} {v:HV} {b:Nat} (h:b∈Qu H deep v):isM H b:=by
 unfold Qu at h
 split at h
 ·obtain ⟨u,_,hu⟩:=List.mem_flatMap.1 h
  obtain ⟨x,_,hx⟩:=List.mem_flatMap.1 hu
  exact SY hx
 ·obtain ⟨x,_,hx⟩:=List.mem_flatMap.1 h
  exact SY hx

theorem Qb0 {deep:Bool} {v:HV}:GX c (Qu c.H deep v):=by
 intro b r hb hs
 rcases Ul hb with ⟨k,els,mx,h⟩ | ⟨ks,vs,mx,h⟩
 ·exact .inl ⟨b,k,els,mx,h,hs⟩
 ·exact .inr (.inl ⟨b,ks,vs,mx,h,hs⟩)

theorem SZ:∀{ss:List (Option Nat)},(ss.filterMap id).Nodup→∀(i j:Nat) (r:Nat),ss[i]?=some (some r)→ss[j]?=some (some r)→i=j
 | s::ss,hn,i,j,r,hi,hj=>by
  have hmem:∀(k:Nat),ss[k]?=some (some r)→r∈ss.filterMap id:=fun k hk=>List.mem_filterMap.2 ⟨some r,qA hk,rfl⟩
  have hn':(ss.filterMap id).Nodup∧∀q,s=some q→q∉ss.filterMap id:=by
   cases s with
   | none=>exact ⟨by simpa using hn,by simp⟩
   | some q =>
    rw [List.filterMap_cons] at hn
    simp only [id] at hn
    rw [List.nodup_cons] at hn
    exact ⟨hn.2,fun q' hq=>by cases hq;exact hn.1⟩
  cases i with
  | zero =>
   cases j with
   | zero=>rfl
   | succ j =>
    simp at hi hj
    exact absurd (hmem j hj) (hn'.2 r hi)
  | succ i =>
   cases j with
   | zero =>
    simp at hi hj
    exact absurd (hmem i hi) (hn'.2 r hj)
   | succ j =>
    simp at hi hj
    rw [SZ hn'.1 i j r hi hj]

theorem DU {c2:Ctx} {w2:World} {deep:Bool} {v res:HV} (hR:Rel lo c w) (g:WChg w w2 none) (hR2:Rel w.heap.size c2 w2) (hv:V w2 (Qg c2 w.heap.size) c2 v rv) (h:We c2.H deep v=some res) :
  ∃c',c'.H=(ZT res c.H).2∧Rel lo c' w2∧V w2 (Qg c' lo) c' (ZT res c.H).1 rv∧Evo lo c w c' w2:=by
 obtain ⟨hnd,ss,hsub,hlen,hgood⟩:=Qhd (lo:=lo) hR2 hR.low Qb0 hv h
 have hmem:∀r,r∈ss.filterMap id→∃b,b∈Qu c2.H deep v∧c2.σ b=some r:=fun r hr=>by
  obtain ⟨b,h1,h2⟩:=List.mem_filterMap.1 (hsub.subset hr)
  exact ⟨b,h1,h2⟩
 have hndr:(ss.filterMap id).Nodup:=by
  refine hsub.nodup ?_
  rw [List.Nodup,List.pairwise_filterMap]
  refine hnd.imp fun {a b} hab r hr r' hr' he=>hab ?_
  subst he
  exact hR2.inj a b r hr hr'
 have hLlen:(rB res c.H.length).length=ss.length:=hlen _
 have hL:∀(i:Nat) (x:Blk) (s:Option Nat),((rB res c.H.length).zip ss)[i]?=some (x,s)↔(rB res c.H.length)[i]?=some x∧ss[i]?=some s:=by
  intro i x s
  exact qM
 have hssr:∀(i r:Nat),ss[i]?=some (some r)→r∈ss.filterMap id:=fun i r h=>List.mem_filterMap.2 ⟨some r,qA h,rfl⟩
 have hlow:∀b r,b∈Qu c2.H deep v→c2.σ b=some r→w.heap.size≤r∧r<w2.heap.size:=by
  intro b r hb hs
  refine ⟨?_,(hR2.dom b r hs).2⟩
  rcases Ul hb with ⟨k,els,mx,h⟩ | ⟨ks,vs,mx,h⟩
  ·have h1:=(hR2.blk b _ h).2
   rw [hs] at h1
   exact h1.1
  ·obtain ⟨_,_,r',hs',hlo',_⟩:=hR2.blk b _ h
   rw [hs] at hs';cases hs'
   exact hlo'
 have hF:∀r t,Uh c2 w.heap.size (Qu c2.H deep v) r→Qg (c.app ((rB res c.H.length).zip ss)) lo t r:=by
  rintro r t ⟨h1,h2⟩
  refine ⟨fun hM=>?_,fun _=>qD hR.low h1⟩
  rcases QgC hM with hM | ⟨i,x,hi⟩
  ·obtain ⟨b,y,_,_,hs⟩:=M_iff.1 hM
   have:=(hR.dom b r hs).2
   omega
  ·obtain ⟨b,hb,hs⟩:=hmem r (hssr i r ((hL i x _).1 hi).2)
   exact h2 b hb hs
 have hB:∀(i:Nat) (x:Blk) (s:Option Nat),(rB res c.H.length)[i]?=some x→ss[i]?=some s →
   (c.app ((rB res c.H.length).zip ss)).H[c.H.length+i]?=some x∧(c.app ((rB res c.H.length).zip ss)).σ (c.H.length+i)=s :=
  fun i x s h1 h2=>Qea ((hL i x s).2 ⟨h1,h2⟩)
 obtain ⟨g1,g2⟩:=hgood c.H.length _ hF hB
 obtain ⟨r1,r2⟩:=Qhb (L:=(rB res c.H.length).zip ss) hR g
  (fun i x r hi=>by
   obtain ⟨b,hb,hs⟩:=hmem r (hssr i r ((hL i x _).1 hi).2)
   exact hlow b r hb hs)
  (fun i j x y r hi hj=>SZ hndr i j r ((hL i x _).1 hi).2 ((hL j y _).1 hj).2)
  (fun i x s hi=>g2 i x ((hL i x s).1 hi).1)
 refine ⟨_,?_,r1,?_,r2⟩
 ·rw [SU]
  simp only [Ctx.app]
  rw [List.map_fst_zip (by omega)]
 ·rw [SU];exact g1

theorem Rel.nil (w:World):Rel w.heap.size Ctx.nil w:=⟨by intro b x h;simp [Ctx.nil] at h,by intro b b' r h;simp [Ctx.nil] at h,by intro b r h;simp [Ctx.nil] at h,qC _⟩

theorem WChg.of_nil {hi:Nat} {c2:Ctx} {w2:World} (h:Evo hi Ctx.nil w c2 w2):WChg w w2 none:=by
 refine ⟨h.W.os,h.W.tape,h.W.output,h.W.size,fun r hr _=>h.out r hr ?_,h.W.csize⟩
 intro hM
 obtain ⟨b,y,h1,_,_⟩:=M_iff.1 hM
 simp [Ctx.nil] at h1

def Xp (lo:Nat) (c:Ctx) (w:World) (res:HV) (ex:Ending) (w2:World):Prop :=
 ∃rv c',ex=.returned rv∧c'.H=(ZT res c.H).2∧Rel lo c' w2∧V w2 (Qg c' lo) c' (ZT res c.H).1 rv∧Evo lo c w c' w2

theorem Jw {pol:Pol} {call:QB} {g:FuncId} {fn:Func} {cd:Code} {n:Nat} {args:List HV} {rargs:Array Value} {res:HV} (hm:P.follows .mixedOrders=true) (hC:Qo P call)
  (hf:P.funcs[g]?=some fn) (hb:fn.body=some cd) (hok:JL pol g fn=true) (hR:Rel lo c w) (hl:args.length=rargs.size)
  (hV:∀(i:Nat) (v:HV) (x:Value),args[i]?=some v→rargs[i]?=some x→V w (Qg Ctx.nil w.heap.size) Ctx.nil v x)
  (h:ZI P pol (evC P pol call n) g fn cd args=some res):Calls P g rargs w (Xp lo c w res):=by
 unfold ZI at h
 split at h
 ·cases h
 ·rename_i x e H1 hne hrun
  split at h
  rotate_left
  ·cases h
  rename_i v hres
  refine Calls.mono (SR hm hC hf hb hok (Rel.nil w) hl hV hrun (fun i hi=>?_) hres) ?_
  ·subst hi;exact hne i rfl
  ·rintro ex w2 ⟨rv,c2,rfl,k1,k2,k3,k4⟩
   subst k1
   obtain ⟨c',j1,j2,j3,j4⟩:=DU hR (WChg.of_nil k4) k2 k3 h
   exact ⟨rv,c',rfl,j1,j2,j3,j4⟩
 ·cases h

theorem G1 {pol:Pol} {call:QB} {g:FuncId} {fn:Func} {cd:Code} {n:Nat} {args:List HV} {rargs:Array Value} {res:HV} (hm:P.follows .mixedOrders=true) (hC:Qo P call)
  (hf:P.funcs[g]?=some fn) (hb:fn.body=some cd) (hok:JL pol g fn=true) (hR:Rel lo c w) (hl:args.length=rargs.size)
  (hV:∀(i:Nat) (v:HV) (x:Value),args[i]?=some v→rargs[i]?=some x→V w (Qg Ctx.nil w.heap.size) Ctx.nil v x)
  (h:JS P pol (evC P pol call n) g fn cd args=some res):Calls P g rargs w (Xp lo c w res):=by
 unfold JS at h
 split at h
 ·split at h
  ·rename_i gg k
   split at h
   ·rename_i r r' h1 h2
    split at h
    ·rename_i hs
     cases h
     have hsz:rargs.size=1:=by simpa using hl.symm
     have hx:=hV 0 _ rargs[0] rfl (by simp [hsz])
     generalize hy:rargs[0]=y at hx
     have hget:∀(i:Nat) (x:Value),rargs[i]?=some x→i=0∧x=y:=fun i x hi=>by
      have:=Qq hi
      have hi0:i=0:=by omega
      subst hi0
      rw [Array.getElem?_eq_getElem (by omega),hy] at hi
      exact ⟨rfl,by cases hi;rfl⟩
     cases hx with
     | imm _ _ _ a cap f hcap hlit haddr hk hc hv =>
      cases a with
      | none =>
       refine Jw hm hC hf hb hok hR (by simp [hsz]) (fun i v x g1 g2=>?_) h1
       obtain ⟨rfl,rfl⟩:=hget i x g2
       simp at g1;subst g1
       exact .nilS k cap
      | some a =>
       rw [same_eq _ _ hs]
       refine Jw hm hC hf hb hok hR (by simp [hsz]) (fun i v x g1 g2=>?_) h2
       obtain ⟨rfl,rfl⟩:=hget i x g2
       simp at g1;subst g1
       exact .empS k a cap
    ·cases h
   ·cases h
  ·exact Jw hm hC hf hb hok hR hl hV h
 ·exact Jw hm hC hf hb hok hR hl hV h

def QN (P:Program) (g:FuncId) (F:List HV→Option HV):Prop :=
 ∀(args:List HV) (res:HV),F args=some res→∀(c:Ctx) (w:World) (lo:Nat) (rargs:Array Value),Rel lo c w→args.length=rargs.size →
  (∀(i:Nat) (v:HV) (x:Value),args[i]?=some v→rargs[i]?=some x→V w (Qg Ctx.nil w.heap.size) Ctx.nil v x)→Calls P g rargs w (Xp lo c w res)

theorem S0 {args as:List HV} {rargs:Array Value} (hR:Rel lo c w) (hV:∀(i:Nat) (v:HV) (x:Value),args[i]?=some v→rargs[i]?=some x→V w (Qg c lo) c v x)
  (h:mapO (Qx c.H 6) args=some as):as.length=args.length∧∀(i:Nat) (v:HV) (x:Value),as[i]?=some v→rargs[i]?=some x→V w (Qg Ctx.nil w.heap.size) Ctx.nil v x:=by
 obtain ⟨m1,m2⟩:=Q6 h
 refine ⟨m1,fun i v x h1 h2=>?_⟩
 have:=Qd h1
 have hx:args[i]?=some args[i]:=by simp [show i<args.length by omega]
 refine QbV (fun r=>⟨fun hM=>?_,by simp⟩) hR 6 Ctx.nil (hV i _ x hx h2) (m2 i _ v hx h1)
 obtain ⟨b,y,h1,_,_⟩:=M_iff.1 hM
 simp [Ctx.nil] at h1

def Sb (P:Program) (g:FuncId) (F:List HV→Heap→Option (HV×Heap)):Prop :=
 ∀(args:List HV) (c:Ctx) (r:HV) (H':Heap),F args c.H=some (r,H')→∀(w:World) (lo:Nat) (rargs:Array Value),Rel lo c w→args.length=rargs.size →
  (∀(i:Nat) (v:HV) (x:Value),args[i]?=some v→rargs[i]?=some x→V w (Qg c lo) c v x) →
  Calls P g rargs w fun e w'=>∃rv c',e=.returned rv∧c'.H=H'∧Rel lo c' w'∧V w' (Qg c' lo) c' r rv∧Evo lo c w c' w'

theorem Da {pol:Pol} (hm:P.follows .mixedOrders=true) (hok:∀g fn,P.funcs[g]?=some fn→JL pol g fn=true) (hp:∀g F,pol.prim g=some F→QN P g F) (hh:∀g F,pol.heapP g=some F→Sb P g F):∀n,Qo P (Qa P pol n)
 | 0=>by intro g args H r H' h;cases h
 | n+1=>by
  have ih:=Da hm hok hp hh n
  intro g args H r H' h hcl c w lo rargs hH hR hl hV
  subst hH
  unfold Qa at h
  unfold KM at h
  split at h
  ·rename_i F hF
   unfold YW at h
   split at h
   rotate_left
   ·cases h
   rename_i as has
   split at h
   rotate_left
   ·cases h
   rename_i res hres
   have h1:ZT res c.H=(r,H'):=Option.some.inj h
   obtain ⟨a1,a2⟩:=S0 hR hV has
   have h2:=hp g F hF as res hres c w lo rargs hR (a1.trans hl) a2
   unfold Xp at h2
   rw [h1] at h2
   exact h2
  split at h
  ·rename_i F hF
   exact hh g F hF args c r H' h w lo rargs hR hl hV
  ·split at h
   rotate_left
   ·cases h
   rename_i fn hf
   split at h
   rotate_left
   ·cases h
   rename_i cd hb
   split at h
   ·exact QaY hm ih hf hb (hok g fn hf) hR hl hV h
   ·split at h
    rotate_left
    ·cases h
    rename_i as has
    split at h
    rotate_left
    ·cases h
    rename_i res hres
    have h1:ZT res c.H=(r,H'):=Option.some.inj h
    obtain ⟨a1,a2⟩:=S0 hR hV has
    have h2:=G1 hm ih hf hb (hok g fn hf) hR (a1.trans hl) a2 hres
    unfold Xp at h2
    rw [h1] at h2
    exact h2

theorem KZ {pol:Pol} (hm:P.follows .mixedOrders=true) (hok:∀g fn,P.funcs[g]?=some fn→JL pol g fn=true) (hp:∀g F,pol.prim g=some F→QN P g F) (n:Nat)
  (hh:∀g F,pol.heapP g=some F→Sb P g F:=by intro g F h;cases h):Qo P (Qa P pol n):=Da hm hok hp hh n

end
end Go.HL


/- What a call that changes nothing of the caller's leaves for a row's last word. -/
namespace Go.HL
open Go.ChangeShapes Go.WideShapes Go.ChangeAt Go.RowKit
section
variable {H:Type} {enc:TypeId×Value→H} {P:Program}

theorem UT {f:Func} {s:ChangeSpec} {apart fresh handsOn again:Bool} {W W':World} {args:Array Value} {v:Value} {ds gs:List (DataW H)} {before pa pv:List MemPlace}
  (hW:DataW.Whole enc P f.params.toList s.vars apart W args.toList ds gs before)
  (hres:∀(b:Nat) (sp:Nat→Bool) (hd:Bool),DataW.TrodAll enc P W' b sp hd f.resultTypes.toList (v.resultList f.resultTypes.size) (s.fn H (ds++gs)).results [])
  (hargs:∀sp:Nat→Bool,(∀p∈before,sp p.block=true)→DataW.TrodAll enc P W' 0 sp true f.params.toList args.toList (s.fn H (ds++gs)).args pa)
  (hvars:∀sp:Nat→Bool,(∀p∈before,sp p.block=true)→DataW.TrodVars enc P W' sp s.vars (s.fn H (ds++gs)).vars pv)
  (hps:before=pa++pv) (hB:Below W.heap.size W W')
  (hok:∀(j:Nat) (t:TypeId) (r:Value),f.resultTypes[j]?=some t→(v.resultList f.resultTypes.size)[j]?=some r→Value.okWide P W' .any 0 t r) :
  s.post enc P f apart fresh handsOn again W args v W':=by
 have hold:∀p∈before,(fun b=>decide (b<W.heap.size)) p.block=true:=fun p hp=>by simpa using hW.lt p hp
 have hlt:=hW.lt
 refine ⟨ds,gs,before,[],pa,pv,hW,hres _ _ _,hargs _ hold,hvars _ hold,World.keptBut_mono (fun p hp=>⟨hp,?_⟩) (hB.frame (·∈before)),fun _=>?_⟩
 ·rw [hps,List.mem_append] at hp
  exact Or.inr hp
 ·obtain ⟨_,_,_,_,_,hz,hn⟩:=hW
  refine ⟨hok,_,_,([]++pa)++pv,⟨[]++pa,pv,trodAll_append (hargs _ (fun _ _=>rfl)) (hres _ _ _),hvars _ (fun _ _=>rfl),rfl,?_,?_⟩,?_⟩
  ·intro b off hp
   have hp':MemPlace.cell b off∈before:=by rw [hps];simpa using hp
   rw [hB.frozen (hlt _ hp')]
   exact hz b off hp'
  ·intro ha
   have:=hn ha
   rw [hps] at this
   simpa using this
  ·intro p hp _
   rw [hps]
   simpa using hp

theorem DV {hi:Nat} {c2:Ctx} {w w2:World} (h:Evo hi Ctx.nil w c2 w2):Below w.heap.size w w2 :=
 have g:=WChg.of_nil h
 ⟨g.os,g.tape,g.output,g.size,fun k hk=>g.keep k hk (by simp)⟩

theorem Qa6 {pol:Pol} {n:Nat} {g:FuncId} {args:List HV} {rargs:Array Value} {W:World} (hS:Qo P (Qa P pol n)) (hc:Jr P g=true) (hl:args.length=rargs.size)
  (hV:∀(i:Nat) (v:HV) (x:Value),args[i]?=some v→rargs[i]?=some x→V W (Qg Ctx.nil W.heap.size) Ctx.nil v x) (h:∃H',Qa P pol n g args []=some (.bool true,H')) :
  Calls P g rargs W fun e W'=>e=.returned (.bool true)∧Below W.heap.size W W':=by
 obtain ⟨H',h⟩:=h
 refine Calls.mono (hS g args [] _ _ h hc Ctx.nil W W.heap.size rargs rfl (Rel.nil W) hl hV) ?_
 rintro e w' ⟨rv,c',rfl,_,_,hv,hE⟩
 exact ⟨by rw [hv.bool_inv],DV hE⟩

end
end Go.HL


/- How a run of the ghost's is put together out of its parts. -/
namespace Go.HL
section
variable {P:Program} {pol:Pol}

theorem Qa7 {n:Nat} {g:FuncId} {fn:Func} {cd:Code} {args rs:List HV} {H H':Heap} {x:X} {e:Env} {v r:HV} (hp:pol.prim g=none) (hf:P.funcs[g]?=some fn) (hb:fn.body=some cd) (hs:pol.shared g=false) (hn:pol.nilf g=false)
  (ha:mapO (Qx H 6) args=some rs) (hrun:evC P pol (Qa P pol n) n g cd (ZS rs) []=some (x,e,H')) (hx:∀i,x≠.exit i) (hv:Qf P fn e H'=some v) (hr:We H' (pol.deep g) v=some r) (hh:pol.heapP g=none:=by rfl) :
  Qa P pol (n+1) g args H=some (ZT r H):=by
 have h1:ZI P pol (evC P pol (Qa P pol n) n) g fn cd rs=some r:=by
  unfold ZI
  rw [hrun]
  cases x with
  | exit i=>exact absurd rfl (hx i)
  | normal=>simp only [hv,hr]
  | ret=>simp only [hv,hr]
 simp only [Qa,KM,hp,hh,hf,hb,hs,Bool.false_eq_true,if_false,ha,JS,hn,h1]

theorem Db {g:FuncId} {F:List HV→Option HV} (hS:∀n,Qo P (Qa P pol n)) (hc:Jr P g=true)
  (h:∀(args:List HV) (res:HV),F args=some res→∃n r H' deep,Qa P pol n g args []=some (r,H')∧We H' deep r=some res):QN P g F:=by
 intro args res hF c w lo rargs hR hl hV
 obtain ⟨n,r,H',deep,h1,h2⟩:=h args res hF
 refine Calls.mono (hS n g args [] r H' h1 hc Ctx.nil w w.heap.size rargs rfl (Rel.nil w) hl hV) ?_
 rintro ex w2 ⟨rv,c2,rfl,k1,k2,k3,k4⟩
 subst k1
 obtain ⟨c',j1,j2,j3,j4⟩:=DU hR (WChg.of_nil k4) k2 k3 h2
 exact ⟨rv,c',rfl,j1,j2,j3,j4⟩

theorem Dc (F:FuncId→Option (List HV→Option HV)) (g:FuncId) (fn:Func):JL { pol with prim:=F } g fn=JL pol g fn:=rfl

end
end Go.HL


