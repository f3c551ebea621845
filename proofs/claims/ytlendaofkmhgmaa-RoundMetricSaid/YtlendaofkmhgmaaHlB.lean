/- The ghost's operations are the model's: loads, stores, literals, slices. -/
import Derived.Test.YtlendaofkmhgmaaHlA
set_option linter.unusedVariables false
set_option linter.unusedSimpArgs false
set_option linter.unnecessarySimpa false
/- Operations that make blocks. -/
open Nat renaming add_mul → qA, mul_le_mul_right → qC, le_refl → qD, lt_or_ge → qF, one_mul → qI, add_zero → qP, eq_zero_or_pos → qU, add_assoc → qX
open List renaming mem_of_getElem? → qB, getElem?_eq_getElem → qE, getElem?_take → qG, getElem?_drop → qH, length_append → qJ, getElem?_eq_none → qK, getElem?_map → qL, mem_of_mem_drop → qM, mem_of_mem_take → qN, length_take → qO, getElem?_append_left → qR, getElem?_append_right → qS, length_drop → qT, replicate → qV, getElem?_range → qY, length_nil → qZ, size_toArray → jA, length_set → jE, mem_or_eq_of_mem_set → jG, length_cons → jH
open Bool renaming and_eq_true → qQ
open Array renaming getElem?_eq_getElem → qW, toList_map → jI, getElem?_toList → jJ, getElem?_setIfInBounds_ne → jN
namespace Go.HL
section
variable {w:World} {c:Ctx} {rv:Value} {P:Program} {lo:Nat}

def RowOk (w:World) (ok:Bool→Nat→Prop) (c:Ctx) (k:Nat) (els:List HV) (rs:List Value):Prop :=
 els.length*k≤rs.length∧(∀v,v∈els→(cellsOf v).length=k)∧∀(i:Nat) (v:HV) (j:Nat) (x:HV),els[i]?=some v→(cellsOf v)[j]?=some x→∃y,rs[i*k+j]?=some y∧V w ok c x y

theorem RowOk.evo {w w':World} {ok ok':Bool→Nat→Prop} {c d:Ctx} {k:Nat} {els:List HV} {rs:List Value} (hw:WEvo w ok w' ok') (hd:CEvo c d)
  (h:RowOk w ok c k els rs):RowOk w' ok' d k els rs :=
 ⟨h.1,h.2.1,fun i v j x hv hx=>by obtain ⟨y,h1,h2⟩:=h.2.2 i v j x hv hx;exact ⟨y,h1,h2.evo hw hd⟩⟩

theorem RowOk.one {ok:Bool→Nat→Prop} {v:HV} (hv:V w ok c v rv) (hc:(cellsOf v).all Ql=true):RowOk w ok c (cellsOf v).length [v] rv.cells.toList:=by
 obtain ⟨h1,h2,_⟩:=hv.cells hc
 refine ⟨by simp [h1],by intro u hu;simp at hu;rw [hu],fun i u j x hu hx=>?_⟩
 cases i with
 | succ i=>simp at hu
 | zero =>
  simp at hu;subst hu
  have hj:j<rv.cells.size:=by
   rw [← h1]
   rcases qF j (cellsOf v).length with h' | h'
   ·exact h'
   ·rw [qK h'] at hx;cases hx
  refine ⟨rv.cells[j],by simp [hj],h2 j x _ hx (qW hj)⟩

def Xe (k mx:Nat) (els:List HV):Prop:=∀v,v∈els→(cellsOf v).length=k∧(cellsOf v).all Ql=true∧bnd v≤mx

theorem ZU {k:Nat} {els:List HV} {wr:Bool} {mx b r:Nat} {T:TypeId} {rs:Array Value} (hs:c.σ b=some r) (hl:lo≤r) (hw:w.heap[r]?=some (Obj.cells rs T (0,0)))
  (he:Xe k mx els) (hr:RowOk w (Qg c lo) c k els rs.toList):BlkOk w c lo b (.arr k els wr mx):=by
 refine ⟨he,?_⟩
 rw [hs]
 refine ⟨hl,rs,T,hw,by simpa using hr.1,fun i v j x hv hx=>?_⟩
 obtain ⟨y,h1,h2⟩:=hr.2.2 i v j x hv hx
 exact ⟨y,by simpa using h1,h2⟩

theorem ZV {k mx:Nat} {els:List HV} {wr:Bool} {T:TypeId} {rs:Array Value} (hR:Rel lo c w) {w1:World} (hw1:WChg w w1 none) (hsz:w1.heap.size=w.heap.size)
  (he:Xe k mx els) (hr:RowOk w (Qg c lo) c k els rs.toList) :
  Rel lo (c.push (.arr k els wr mx) (some w.heap.size)) (w1.alloc (.cells rs T))∧Evo lo c w (c.push (.arr k els wr mx) (some w.heap.size)) (w1.alloc (.cells rs T)):=by
 refine Vh hR (hw1.trans (WChg.alloc w1 _ none)) (fun r hr=>by cases hr;simp [hsz]) (fun hE=>?_)
 refine ZU (r:=w.heap.size) (T:=T) push_new.2 hR.low ?_ he (hr.evo hE.W hE.C)
 rw [← hsz];exact QG w1 _

theorem GC {t:TypeId} {v:HV} (hR:Rel lo c w) (hv:V w (Qg c lo) c v rv) (hc:(cellsOf v).all Ql=true) :
  StepOk P lo c w (Instr.box t rv) (Wm v c.H).1 (Wm v c.H).2:=by
 obtain ⟨h1,h2⟩:=ZV (k:=(cellsOf v).length) (mx:=bnd v) (els:=[v]) (wr:=true) (T:=t) (rs:=rv.cells) hR (WChg.refl w none) rfl
  (by intro u hu;simp at hu;subst hu;exact ⟨rfl,hc,qD _⟩) (RowOk.one hv hc)
 refine ⟨_,_,.pointer (some ⟨w.heap.size,0,none⟩),?_,rfl,h1,?_,h2⟩
 ·simp [Instr.box,newVar,newRow]
 ·refine .ptr _ _ _ _ _ ⟨_,push_new.1,qD _,fun _=>⟨_,push_new.2,by simp⟩⟩

theorem Js {t:TypeId} {i:TypeInfo} {z:Value} (hi:P.info? t=some i) (hz:i.zero=some z):(zeroValue t).run P w=.ok z w:=by
 simp [zeroValue,typeInfo,hi,hz]

theorem Kk {k:Nat} (hR:Rel lo c w):Rel lo (c.push (.arr k [] true 0) none) w∧Evo lo c w (c.push (.arr k [] true 0) none) w :=
 Vh hR (WChg.refl w none) (fun r h=>by cases h) (fun _=>⟨by simp,by rw [push_new.2]⟩)

theorem DH {k:Nat} {a:Option Addr}:V w (Qg (c.push (.arr k [] true 0) none) lo) (c.push (.arr k [] true 0) none) (.sl c.H.length 0 0 none 0 k) (.slice a 0 0) :=
 .sl _ _ _ _ _ _ _ _ ⟨qD _,by simp,by simp,_,push_new.1,by simp [push_new.2]⟩

theorem GD {t:TypeId} (hR:Rel lo c w):StepOk P lo c w (Instr.makeMap t none) (.map c.H.length) (c.H++[.map [] [] 0]):=by
 obtain ⟨h1,h2⟩:=Vh (x:=.map [] [] 0) (s:=some w.heap.size) (w':=w.alloc (.map #[] 0)) hR (WChg.alloc w _ none) (fun r hr=>by cases hr;simp)
  (fun _=>⟨by simp,⟨by simp,.nil⟩,w.heap.size,push_new.2,hR.low,#[],0,⟨#[],QG w _,.refl _,by simp,by simp⟩,rfl,rfl,by simp,by simp⟩)
 refine ⟨_,_,.map (some w.heap.size),?_,rfl,h1,.map _ _ _ _ _ push_new.1 push_new.2,h2⟩
 simp [Instr.makeMap]

theorem RowOk.nil {ok:Bool→Nat→Prop} {k:Nat} {rs:List Value}:RowOk w ok c k [] rs:=⟨by simp,by simp,by simp⟩

theorem RowOk.app {ok:Bool→Nat→Prop} {k:Nat} {as bs:List HV} {ra rb:List Value} (ha:RowOk w ok c k as ra) (hl:ra.length=as.length*k) (hb:RowOk w ok c k bs rb) :
  RowOk w ok c k (as++bs) (ra++rb):=by
 refine ⟨by have:=hb.1;simp [qA,hl];omega,fun v hv=>(List.mem_append.1 hv).elim (ha.2.1 v) (hb.2.1 v),fun i v j x hv hx=>?_⟩
 by_cases hi:i<as.length
 ·rw [qR hi] at hv
  obtain ⟨y,h1,h2⟩:=ha.2.2 i v j x hv hx
  have hlt:i*k+j<ra.length:=by
   rcases qF (i*k+j) ra.length with h' | h'
   ·exact h'
   ·rw [qK h'] at h1;cases h1
  exact ⟨y,by rw [qR hlt];exact h1,h2⟩
 ·rw [qS (by omega)] at hv
  obtain ⟨y,h1,h2⟩:=hb.2.2 (i-as.length) v j x hv hx
  refine ⟨y,?_,h2⟩
  have e:i*k+j-ra.length=(i-as.length)*k+j:=by
   have:as.length*k≤i*k:=qC k (by omega)
   rw [hl,Nat.sub_mul];omega
  rw [qS (by have:as.length*k≤i*k:=qC k (by omega);omega),e]
  exact h1

theorem RowOk.cut {ok:Bool→Nat→Prop} {k:Nat} {els:List HV} {rs:List Value} (h:RowOk w ok c k els rs) (i n:Nat) (hin:i+n≤els.length) :
  RowOk w ok c k ((els.drop i).take n) ((rs.drop (i*k)).take (n*k)):=by
 have h1:=h.1
 have h2:(i+n)*k≤els.length*k:=qC k hin
 rw [qA] at h2
 refine ⟨?_,fun v hv=>h.2.1 v (qM (qN hv)),fun q v j x hv hx=>?_⟩
 ·simp only [qO,qT]
  have:min n (els.length-i)=n:=by omega
  rw [this];omega
 ·have hq:q<n:=by
   rcases qF q n with h' | h'
   ·exact h'
   ·rw [qG,if_neg (by omega)] at hv;cases hv
  rw [qG,if_pos hq,qH] at hv
  obtain ⟨y,h3,h4⟩:=h.2.2 (i+q) v j x hv hx
  have hk:=h.2.1 v (qB hv)
  have hj:j<k:=by
   rw [← hk]
   rcases qF j (cellsOf v).length with h' | h'
   ·exact h'
   ·rw [qK h'] at hx;cases hx
  have hqn:(q+1)*k≤n*k:=qC k hq
  rw [qA,qI] at hqn
  refine ⟨y,?_,h4⟩
  rw [qG,if_pos (by omega),qH,← qX,← qA]
  exact h3

end
end Go.HL


/- append. -/
namespace Go.HL
section
variable {w:World} {c:Ctx} {rv:Value} {P:Program} {lo:Nat}

structure Shows (w:World) (c:Ctx) (lo:Nat) (k:Nat) (xs:List HV) (a:Option Addr) (news:List Value):Prop where
 row:RowOk w (Qg c lo) c k xs news
 len:news.length=xs.length*k
 at_:xs≠[]→∃ad,a=some ad∧∀j u,news[j]?=some u→w.cell? (ad.add j)=some u
 one:∀u,u∈news→u.oneCell'=true
 els:∀v,v∈xs→(cellsOf v).all Ql=true

theorem Shows.nil {k:Nat} {a:Option Addr}:Shows w c lo k [] a []:=⟨.nil,by simp,by simp,by simp,by simp⟩

theorem YZ {ok:Bool→Nat→Prop} {k:Nat} {xs:List HV} {news:List Value} (h:RowOk w ok c k xs news) (hl:news.length=xs.length*k)
  (he:∀v,v∈xs→(cellsOf v).all Ql=true):∀u,u∈news→u.oneCell'=true:=by
 intro u hu
 obtain ⟨p,hp,rfl⟩:=List.mem_iff_getElem.1 hu
 have hk:0<k:=by
  rcases qU k with h0 | h0
  ·subst h0;simp at hl;subst hl;simp at hp
  ·exact h0
 have hi:p/k<xs.length:=Nat.div_lt_of_lt_mul (by rw [Nat.mul_comm];omega)
 have hx:=qE hi
 have hck:=h.2.1 _ (qB hx)
 have hj:p%k<(cellsOf xs[p/k]).length:=by rw [hck];exact Nat.mod_lt _ hk
 obtain ⟨y,h1,h2⟩:=h.2.2 (p/k) _ (p%k) _ hx (qE hj)
 rw [Nat.mul_comm,Nat.div_add_mod,qE hp] at h1
 cases h1
 exact h2.oneCell (List.all_eq_true.1 (he _ (qB hx)) _ (List.getElem_mem hj))

theorem Shows.mk' {k:Nat} {xs:List HV} {a:Option Addr} {news:List Value} (row:RowOk w (Qg c lo) c k xs news) (len:news.length=xs.length*k)
  (at_:xs≠[]→∃ad,a=some ad∧∀j u,news[j]?=some u→w.cell? (ad.add j)=some u) (els:∀v,v∈xs→(cellsOf v).all Ql=true):Shows w c lo k xs a news :=
 ⟨row,len,at_,YZ row len els,els⟩

theorem UZ {g:G} {k:Nat} {l:List HV} {a:Option Addr} {cap:Nat} (h:V w (Qg c lo) c (.imm g k l) (.slice a l.length cap)):∃news,Shows w c lo k l a news:=by
 cases h with
 | imm g k l a cap f hcap hlit haddr hk hc hv =>
  refine ⟨(List.range (l.length*k)).map f,.mk' ⟨by simp,hk,fun i v j x hv' hx=>?_⟩ (by simp) (fun hne=>?_) hc⟩
  ·have hi:i<l.length:=by
    rcases qF i l.length with h' | h'
    ·exact h'
    ·rw [qK h'] at hv';cases hv'
   have hj:j<k:=by
    rw [← hk v (qB hv')]
    rcases qF j (cellsOf v).length with h' | h'
    ·exact h'
    ·rw [qK h'] at hx;cases hx
   have:(i+1)*k≤l.length*k:=qC k hi
   rw [qA,qI] at this
   refine ⟨f (i*k+j),?_,(hv i v j x hv' hx).evo (.refl _ _) (.of_nil c)⟩
   rw [qL,qY (by omega)];rfl
  ·obtain ⟨r,off,rfl,hr,hok,hcell⟩:=haddr hne
   refine ⟨_,rfl,fun j u hu=>?_⟩
   have hj:j<l.length*k:=by
    rcases qF j (l.length*k) with h' | h'
    ·exact h'
    ·rw [qK (by simpa using h')] at hu;cases hu
   rw [qL,qY hj] at hu
   cases hu
   rw [Q4];exact hcell j hj

theorem WZ {b k:Nat} {els:List HV} {wr:Bool} {mx:Nat} (hR:Rel lo c w) (hb:c.H[b]?=some (.arr k els wr mx)) :
  Xe k mx els∧((c.σ b=none∧els=[])∨∃r cs T,c.σ b=some r∧lo≤r∧w.heap[r]?=some (Obj.cells cs T (0,0))∧RowOk w (Qg c lo) c k els cs.toList):=by
 obtain ⟨h1,h2⟩:=hR.blk b _ hb
 refine ⟨h1,?_⟩
 revert h2
 cases hs:c.σ b with
 | none=>intro h;exact .inl ⟨rfl,h⟩
 | some r =>
  rintro ⟨h3,cs,T,h4,h5,h6⟩
  refine .inr ⟨r,cs,T,rfl,h3,h4,by simpa using h5,fun v hv=>(h1 v hv).1,fun i v j x hv hx=>?_⟩
  obtain ⟨y,h7,h8⟩:=h6 i v j x hv hx
  exact ⟨y,by simpa using h7,h8⟩

theorem KP {r:Nat} {cs:Array Value} {T:TypeId} {fz:Nat×Nat} {o j:Nat} {u:Value} (h:w.heap[r]?=some (Obj.cells cs T fz)) (hu:cs[o+j]?=some u) :
  w.cell? ((⟨r,o,none⟩:Addr).add j)=some u:=by
 rw [Q4];simp [World.cell?,h,hu]

theorem Kl {b off len tot k:Nat} {cap:Option Nat} {l:List HV} {a:Option Addr} {n cap':Nat} (hR:Rel lo c w) (h:V w (Qg c lo) c (.sl b off len cap tot k) (.slice a n cap'))
  (hl:Wh c.H b off len tot k=some l):n=l.length∧∃news,Shows w c lo k l a news:=by
 cases h with
 | sl b off len cap tot k a cap' hs =>
  obtain ⟨h1,h2,h3,blk,hb,h4⟩:=hs
  unfold Wh at hl
  rw [hb] at hl
  split at hl
  rotate_left
  ·cases hl
  rename_i k' els wr mx heq
  cases heq
  split at hl
  rotate_left
  ·cases hl
  rename_i hq
  obtain ⟨q1,q2,q3⟩:=hq
  subst q3
  cases hl
  have hlen:((els.drop off).take len).length=len:=by simp;omega
  refine ⟨hlen.symm,?_⟩
  obtain ⟨he,hrow⟩:=WZ hR hb
  have hels:∀v,v∈(els.drop off).take len→(cellsOf v).all Ql=true:=fun v hv=>(he v (qM (qN hv))).2.1
  rcases hrow with ⟨_,rfl⟩ | ⟨r,cs,T,hs,hlo,hw,hrow⟩
  ·simp at q2
   obtain ⟨rfl,rfl⟩:=q2
   exact ⟨[],.nil⟩
  ·have hcut:=hrow.cut off len q2
   have hmul:(off+len)*k'≤els.length*k':=qC k' q2
   rw [qA] at hmul
   have h0:=hrow.1
   refine ⟨(cs.toList.drop (off*k')).take (len*k'),.mk' hcut ?_ (fun hne=>?_) hels⟩
   ·rw [hlen];simp only [qO,qT];omega
   ·have hlen0:0<len:=by
     rcases qU len with h' | h'
     ·subst h';simp at hne
     ·exact h'
    obtain ⟨_,h5⟩:=h4.2 q1
    rw [hs] at h5
    refine ⟨_,h5.1 (by omega),fun j u hu=>?_⟩
    rw [qG] at hu
    split at hu
    ·rw [qH] at hu
     exact KP hw (by simpa using hu)
    ·cases hu

theorem JV {cs:List HV}:cellsOf (.agg cs)=cs:=rfl

theorem Z3 {v:HV} (h:Ql v=true):cellsOf v=[v]:=by cases v <;> first | rfl | simp [Ql] at h

theorem GE {b i off len:Nat} {els:List HV} {k:Nat} {wr:Bool} {mx:Nat} {cs:List HV} {a:Option Addr} {n cap':Nat} (hR:Rel lo c w)
  (h:V w (Qg c lo) c (.aview b i off len) (.slice a n cap')) (hb:c.H[b]?=some (.arr k els wr mx)) (hi:els[i]?=some (.agg cs)) (h1:els.length=1) (hl:off+len≤cs.length) :
  n=((cs.drop off).take len).length∧∃news,Shows w c lo 1 ((cs.drop off).take len) a news:=by
 cases h with
 | aview b i off len a cap' hs =>
  have hlen:((cs.drop off).take len).length=len:=by simp;omega
  refine ⟨hlen.symm,?_⟩
  obtain ⟨h2,blk,hb',h4⟩:=hs
  rw [hb] at hb';cases hb'
  obtain ⟨he,hrow⟩:=WZ hR hb
  have hmem:=qB hi
  obtain ⟨hk,hcc,_⟩:=he _ hmem
  rw [JV] at hk hcc
  have hcell:∀v,v∈(cs.drop off).take len→Ql v=true:=fun v hv=>List.all_eq_true.1 hcc v (qM (qN hv))
  have hels:∀v,v∈(cs.drop off).take len→(cellsOf v).all Ql=true:=fun v hv=>by rw [Z3 (hcell v hv)];simp [hcell v hv]
  rcases hrow with ⟨_,rfl⟩ | ⟨r,ws,T,hs,hlo,hw,hrow⟩
  ·simp at hi
  ·obtain ⟨r',hs',h5⟩:=h4.2 h1
   rw [hs] at hs';cases hs'
   have hi0:i=0:=by
    rcases qU i with h' | h'
    ·exact h'
    ·rw [qK (by omega)] at hi;cases hi
   subst hi0
   have h0:=hrow.1
   rw [h1,qI] at h0
   refine ⟨(ws.toList.drop off).take len,.mk' ⟨?_,fun v hv=>by rw [Z3 (hcell v hv)];rfl,fun q v j x hv hx=>?_⟩ ?_ (fun hne=>?_) hels⟩
   ·rw [hlen];simp only [qO,qT];simp at h0 ⊢;omega
   ·have hq:q<len:=by
     rcases qF q len with h' | h'
     ·exact h'
     ·rw [qG,if_neg (by omega)] at hv;cases hv
    have hcv:=hcell v (qB hv)
    rw [Z3 hcv] at hx
    cases j with
    | succ j=>simp at hx
    | zero =>
     simp at hx;subst hx
     rw [qG,if_pos hq,qH] at hv
     obtain ⟨y,h6,h7⟩:=hrow.2.2 0 _ (off+q) v hi hv
     refine ⟨y,?_,h7⟩
     simp only [Nat.mul_one,qP]
     rw [qG,if_pos hq,qH]
     simpa using h6
   ·rw [hlen];simp only [qO,qT];simp at h0 ⊢;omega
   ·have hlen0:0<len:=by
     rcases qU len with h' | h'
     ·subst h';simp at hne
     ·exact h'
    refine ⟨_,h5 (by omega),fun j u hu=>?_⟩
    rw [qG] at hu
    split at hu
    ·rw [qH] at hu
     refine KP hw ?_
     simpa using hu
    ·cases hu

theorem DI {x:HV} {xs:List HV} {k:Nat} (hR:Rel lo c w) (hx:V w (Qg c lo) c x rv) (h:Je c.H x=some (xs,k)) :
  ∃a cap news,rv=.slice a xs.length cap∧Shows w c lo k xs a news:=by
 unfold Je at h
 split at h
 ·cases h;cases hx;exact ⟨none,_,[],rfl,.nil⟩
 ·cases h;cases hx;exact ⟨_,_,[],rfl,.nil⟩
 ·cases h
  have hx':=hx
  cases hx with
  | imm g k l a cap f hcap hlit haddr hk hc hv =>
   obtain ⟨news,hn⟩:=UZ hx'
   exact ⟨a,cap,news,rfl,hn⟩
 ·rename_i b off len cap tot k'
  split at h
  ·rename_i h0
   cases h
   cases hx with
   | sl b off len cap tot k a cap' hs=>exact ⟨a,cap',[],by rw [h0];rfl,.nil⟩
  ·cases hv:Wh c.H b off len tot k' with
   | none=>simp [hv] at h
   | some l =>
    simp [hv] at h
    obtain ⟨rfl,rfl⟩:=h
    have hx':=hx
    cases hx with
    | sl b off len cap tot k a cap' hs =>
     obtain ⟨hn,news,hsh⟩:=Kl hR hx' hv
     exact ⟨a,cap',news,by rw [← hn],hsh⟩
 ·rename_i b i off len
  split at h
  rotate_left
  ·cases h
  rename_i kk els wr mx hb
  split at h
  rotate_left
  ·cases h
  rename_i cs hi
  split at h
  rotate_left
  ·cases h
  rename_i hq
  cases h
  have hx':=hx
  cases hx with
  | aview b i off len a cap' hs =>
   obtain ⟨hn,news,hsh⟩:=GE hR hx' hb hi hq.1 hq.2
   exact ⟨a,cap',news,by rw [← hn],hsh⟩
 ·cases h

theorem ZJ {size n cap:Nat} {a:Option Addr} {l:List Value} (hl:l.length=n*size) (ha:l≠[]→∃ad,a=some ad∧∀j u,l[j]?=some u→w.cell? (ad.add j)=some u) (n':Nat) :
  (Builtin.firstCells size n (.slice a n' cap)).run P w=.ok l.toArray w:=by
 cases a with
 | none =>
  have:l=[]:=by
   cases l with
   | nil=>rfl
   | cons x l=>obtain ⟨ad,h,_⟩:=ha (by simp);cases h
  subst this
  simp [Builtin.firstCells]
 | some ad =>
  simp only [Builtin.firstCells,← hl]
  refine run_loadCells_list w ad l (fun j u hu=>?_)
  obtain ⟨ad',h1,h2⟩:=ha (by rintro rfl;simp at hu)
  cases h1
  exact h2 j u hu

end
end Go.HL


/- append, the ghost's and the model's. -/
namespace Go.HL
section
variable {w:World} {c:Ctx} {rv rx:Value} {P:Program} {lo:Nat}

theorem Wt {v:HV}:∀{l:List HV},v∈l→bnd v≤bndL l
 | [],h=>by simp at h
 | x::l,h=>by
  simp only [bndL]
  rcases List.mem_cons.1 h with rfl | h
  ·omega
  ·have:=Wt h;omega

theorem Ze:∀{l:List HV},(∀v,v∈l→bnd v=0)→bndL l=0
 | [],_=>rfl
 | v::l,h=>by
  simp only [bndL]
  rw [h v (by simp),Ze fun u hu=>h u (by simp [hu])]
  rfl

theorem Z4 {l:List HV} {rs:Array Value} {p:HV→Prop} (hl:l.length=rs.size) (h:∀(i:Nat) (v:HV) (r:Value),l[i]?=some v→rs[i]?=some r→p v):∀v,v∈l→p v:=by
 intro v hv
 obtain ⟨i,hi,rfl⟩:=List.mem_iff_getElem.1 hv
 exact h i _ rs[i] (qE hi) (qW (by omega))

theorem V.pure_bnd {ok:Bool→Nat→Prop} {d:Ctx} {v:HV} (h:V w ok d v rv):d=Ctx.nil→bnd v=0:=by
 induction h with
 | agg cs rs hl hc h ih=>intro hd;simp only [bnd];exact Ze (Z4 hl fun i v r h1 h2=>ih i v r h1 h2 hd)
 | tuple cs rs hl h ih=>intro hd;simp only [bnd];exact Ze (Z4 hl fun i v r h1 h2=>ih i v r h1 h2 hd)
 | sl b off len cap tot k a cap' h=>rintro rfl;obtain ⟨_,_,_,blk,hb,_⟩:=h;simp [Ctx.nil] at hb
 | aview b i off len a cap' h=>rintro rfl;obtain ⟨_,blk,hb,_⟩:=h;simp [Ctx.nil] at hb
 | ptr b i off tot a h=>rintro rfl;obtain ⟨blk,hb,_⟩:=h;simp [Ctx.nil] at hb
 | map b r ks vs mx hH hs=>rintro rfl;simp [Ctx.nil] at hH
 | func f fa ca ra rc hl hl' h h' ih ih' =>
  intro hd
  simp only [bnd]
  rw [Ze (Z4 hl fun i v r h1 h2=>ih i v r h1 h2 hd),Ze (Z4 hl' fun i v r h1 h2=>ih' i v r h1 h2 hd)]
  rfl
 | _=>intros;simp [bnd]

theorem DJ (v:HV):bnd v≤bndL (cellsOf v):=by
 cases v with
 | agg cs=>simp only [bnd,cellsOf];exact qD _
 | _=>simp [cellsOf,bndL]

theorem Qd6 {ok:Bool→Nat→Prop} {d:Ctx} {g:G} {k:Nat} {l:List HV} (h:V w ok d (.imm g k l) rv):∀v,v∈l→bnd v=0:=by
 cases h with
 | imm g k l a cap f hcap hlit haddr hk hc hv =>
  intro v hvl
  obtain ⟨i,hi,rfl⟩:=List.mem_iff_getElem.1 hvl
  have h0:bndL (cellsOf l[i])=0:=Ze fun x hx=>by
   obtain ⟨j,hj,rfl⟩:=List.mem_iff_getElem.1 hx
   exact (hv i _ j _ (qE hi) (qE hj)).pure_bnd rfl
  have:=DJ l[i]
  omega

theorem RowOk.take {ok:Bool→Nat→Prop} {k:Nat} {els:List HV} {rs:List Value} (h:RowOk w ok c k els rs) (n:Nat) (hn:n≤els.length) :
  RowOk w ok c k (els.take n) (rs.take (n*k))∧(rs.take (n*k)).length=(els.take n).length*k:=by
 have:=h.cut 0 n (by omega)
 have h1:n*k≤els.length*k:=qC k hn
 have h2:=h.1
 refine ⟨by simpa using this,?_⟩
 simp only [qO]
 rw [Nat.min_eq_left (by omega),Nat.min_eq_left hn]

theorem RowOk.drop {ok:Bool→Nat→Prop} {k:Nat} {els:List HV} {rs:List Value} (h:RowOk w ok c k els rs) (n:Nat) (hn:n≤els.length) :
  RowOk w ok c k (els.drop n) (rs.drop (n*k)):=by
 have h1:n*k≤els.length*k:=qC k hn
 have h2:=h.1
 refine ⟨by simp [Nat.sub_mul];omega,fun v hv=>h.2.1 v (qM hv),fun i v j x hv hx=>?_⟩
 rw [qH] at hv
 obtain ⟨y,h3,h4⟩:=h.2.2 (n+i) v j x hv hx
 exact ⟨y,by rw [qH,← qX,← qA];exact h3,h4⟩

theorem RowOk.splice {ok:Bool→Nat→Prop} {k p:Nat} {els xs:List HV} {rs news:List Value} (h:RowOk w ok c k els rs) (hx:RowOk w ok c k xs news) (hl:news.length=xs.length*k)
  (hp:p+xs.length≤els.length):RowOk w ok c k (splice els p xs) (rs.take (p*k)++news++rs.drop (p*k+news.length)):=by
 obtain ⟨h1,h2⟩:=h.take p (by omega)
 have h3:=h.drop (p+xs.length) hp
 have:=(h1.app h2 hx).app (by simp only [qJ,h2,hl,qA]) h3
 rw [qA] at this
 rw [hl]
 exact this

theorem Wf {α:Type} {l x:List α} {p:Nat} (h:p+x.length≤l.length):(l.take p++x++l.drop (p+x.length)).length=l.length:=by
 simp;omega

theorem Wg {l x:List HV} {p:Nat} (h:p+x.length≤l.length):(splice l p x).length=l.length:=Wf h

theorem Zw {l x:List HV} {p:Nat} {v:HV} (h:v∈splice l p x):v∈l∨v∈x:=by
 simp only [splice,List.mem_append] at h
 rcases h with (h | h) | h
 ·exact .inl (qN h)
 ·exact .inr h
 ·exact .inl (qM h)

structure DK (P:Program) (tys:Array TypeId) (args:Array Value) (e:TypeId) (i:TypeInfo) (z:Value) (rs rx:Value):Prop where
 ht:∃t:TypeId,tys[0]?=some t∧P.underlying t=some (.slice e)
 ht2:∃t2 e2:TypeId,tys[1]?=some t2∧P.underlying t2=some (.slice e2)
 hs:args[0]?=some rs
 hx:args[1]?=some rx
 hi:P.info? e=some i
 hz:i.zero=some z
 zs:z.cells.size=i.size
 pos:i.size≠0

theorem KQ {tys:Array TypeId} {ty:TypeId} {args:Array Value} {e:TypeId} {i:TypeInfo} {z:Value} {a ax:Option Addr} {len cap n capx:Nat} {news:List Value}
  (h:DK P tys args e i z (.slice a len cap) (.slice ax n capx)) (hl:news.length=n*i.size) (hx:news≠[]→∃ad,ax=some ad∧∀j u,news[j]?=some u→w.cell? (ad.add j)=some u)
  (hroom:len+n≤cap):(Builtin.append_ tys ty args).run P w =
   (match a with | some a=>(storeCells (a.add (len*i.size)) news).run P w | none=>.ok () w).andThen fun _ w'=>.ok (.slice a (len+n) cap) w':=by
 obtain ⟨⟨t,h1,h2⟩,⟨t2,e2,h3,h4⟩,h5,h6,h7,h8,h9,h10⟩:=h
 have hf:=ZJ (P:=P) (w:=w) (cap:=capx) hl hx n
 cases a <;> simp [Builtin.append_,h1,h3,h5,h6,Qr h2,Qr h4,sizeOf,typeInfo,h7,Builtin.lenOf,hroom,hf]

theorem KR {tys:Array TypeId} {ty:TypeId} {args:Array Value} {e:TypeId} {i:TypeInfo} {z:Value} {a ax:Option Addr} {len cap n capx:Nat} {olds news:List Value}
  (h:DK P tys args e i z (.slice a len cap) (.slice ax n capx)) (hl:news.length=n*i.size) (hx:news≠[]→∃ad,ax=some ad∧∀j u,news[j]?=some u→w.cell? (ad.add j)=some u)
  (hlo:olds.length=len*i.size) (ho:olds≠[]→∃ad,a=some ad∧∀j u,olds[j]?=some u→w.cell? (ad.add j)=some u)
  (hroom:cap<len+n) (hb:(len+n)*(i.bytes+1)≤Q0) :
  ∃cap' rest,len+n≤cap'∧(olds++news++rest).length=cap'*i.size∧(Builtin.append_ tys ty args).run P w =
   .ok (.slice (some ⟨w.heap.size,0,none⟩) (len+n) cap') (w.drew.alloc (.cells (olds++news++rest).toArray e)):=by
 obtain ⟨⟨t,h1,h2⟩,⟨t2,e2,h3,h4⟩,h5,h6,h7,h8,h9,h10⟩:=h
 have hf:=ZJ (P:=P) (w:=w.drew) (cap:=capx) hl (by simpa using hx) n
 have hfo:=ZJ (P:=P) (w:=w.drew) (cap:=cap) hlo (by simpa using ho) len
 have hn:¬(len+n≤cap):=by omega
 have hb1:(len+n)*i.bytes+(len+n)≤70368744177664:=by rw [Nat.mul_add,Nat.mul_one] at hb;exact hb
 have hnc:=nextslicecap_le hroom
 have hmul:Builtin.nextslicecap (len+n) cap*i.bytes≤2*(len+n)*i.bytes:=qC _ hnc
 rw [Nat.mul_assoc] at hmul
 have h48:¬(281474976710656<Builtin.nextslicecap (len+n) cap*i.bytes):=by omega
 have h63:¬(9223372036854775807<((len:Int)+(n:Int))):=by omega
 refine ⟨grownCap w (len+n) cap e,(Builtin.zeroCells z.cells (grownCap w (len+n) cap e-(len+n))).toList,grownCap_ge w _ _ _,?_,?_⟩
 ·have:=grownCap_ge w (len+n) cap e
  simp only [qJ,Array.length_toList,size_zeroCells,hlo,hl,h9]
  rw [← qA,← qA]
  congr 1;omega
 ·simp [Builtin.append_,h1,h3,h5,h6,Qr h2,Qr h4,sizeOf,typeInfo,zeroValue,h7,h8,Builtin.lenOf,hn,h63,h48,Question.forced,hf,hfo,newRow,grownCap]
  congr 2
  apply Array.ext'
  simp

theorem GF {k mx:Nat} {els:List HV} {T:TypeId} {rs:List Value} {need cap':Nat} (hR:Rel lo c w) (he:Xe k mx els) (hr:RowOk w (Qg c lo) c k els rs)
  (hn:els.length=need) (hc:need≤cap') (hl:rs.length=cap'*k) :
  let c':=c.push (.arr k els true mx) (some w.heap.size)
  Rel lo c' (w.drew.alloc (.cells rs.toArray T)) ∧
  V (w.drew.alloc (.cells rs.toArray T)) (Qg c' lo) c' (.sl c.H.length 0 need none need k) (.slice (some ⟨w.heap.size,0,none⟩) need cap') ∧
  Evo lo c w c' (w.drew.alloc (.cells rs.toArray T)):=by
 have hg:WChg w w.drew none:=⟨rfl,rfl,rfl,qD _,fun _ _ _=>rfl,fun _ cs T fz h=>⟨cs,T,fz,h,rfl⟩⟩
 obtain ⟨h1,h2⟩:=ZV (wr:=true) (T:=T) (rs:=rs.toArray) hR hg rfl he (by simpa using hr)
 refine ⟨h1,.sl _ _ _ _ _ _ _ _ ⟨hc,by simp,by simp,_,push_new.1,by simp [hn],fun _=>⟨rfl,?_⟩⟩,h2⟩
 rw [push_new.2]
 refine ⟨fun _=>by simp,_,T,(0,0),QG w.drew _,?_⟩
 simp [hl]

theorem JJ {w:World} {r:Nat} {cur:Array Value} {T:TypeId} {fz:Nat×Nat} (h:w.heap[r]?=some (Obj.cells cur T fz)) (row:Array Value) :
  (w.setRow r row).heap[r]?=some (Obj.cells row T fz):=setRow_heap w r cur row T fz h

theorem ZW {b k mx mx' r:Nat} {els els':List HV} {T:TypeId} {cs:Array Value} {row:List Value} (hR:Rel lo c w) (hb:c.H[b]?=some (.arr k els true mx)) (hs:c.σ b=some r)
  (hw:w.heap[r]?=some (Obj.cells cs T (0,0))) (he:Xe k mx' els') (hr:RowOk w (Qg c lo) c k els' row) (hl:row.length=cs.size) (hle:els.length≤els'.length) :
  let c':=c.upd b (.arr k els' true mx') (some r)
  Rel lo c' (w.setRow r row.toArray)∧Evo lo c w c' (w.setRow r row.toArray):=by
 have hblk:=WZ hR hb
 have hlo:lo≤r:=by
  rcases hblk.2 with ⟨h,_⟩ | ⟨r',cs',T',h1,h2,_⟩
  ·rw [hs] at h;cases h
  ·rw [hs] at h1;cases h1;exact h2
 refine KO hR hb (WChg.setRow hw (by simp [hl])) (fun q hq=>by cases hq;exact ⟨hs,rfl⟩) (fun _=>rfl) (.inl hs.symm) ⟨hle,fun _=>⟨rfl,hs.symm⟩⟩ (fun hE=>?_)
 refine ZU (r:=r) (T:=T) (Qy (QE hb)).2 hlo (JJ hw _) he (by simpa using hr.evo hE.W hE.C)

theorem QbJ {tys:Array TypeId} {ty:TypeId} {args:Array Value} {e:TypeId} {i:TypeInfo} {z:Value} {s x v:HV} {xs:List HV} {kx:Nat} {H':Heap}
  (hA:DK P tys args e i z rv rx) (hR:Rel lo c w) (hs:V w (Qg c lo) c s rv) (hx:V w (Qg c lo) c x rx) (hsrc:Je c.H x=some (xs,kx)) (hk:kx=i.size∨xs=[])
  (h:WV c.H i.size i.bytes s xs=some (v,H')):StepOk P lo c w (Builtin.append_ tys ty args) v H':=by
 obtain ⟨ax,capx,news,rfl,hsh⟩:=DI hR hx hsrc
 have hnl:news.length=xs.length*i.size:=by
  rcases hk with rfl | rfl
  ·exact hsh.len
  ·have:=hsh.len;simp at this;subst this;simp
 have hxr:RowOk w (Qg c lo) c i.size xs news:=by
  rcases hk with rfl | rfl
  ·exact hsh.row
  ·exact .nil
 have hne:news≠[]→xs≠[]:=by rintro hn1 rfl;simp at hnl;exact hn1 hnl
 have hxa:news≠[]→∃ad,ax=some ad∧∀j u,news[j]?=some u→w.cell? (ad.add j)=some u:=fun hn=>hsh.at_ (hne hn)
 have hxE:Xe i.size (bndL xs) xs:=fun u hu=>⟨hxr.2.1 u hu,hsh.els u hu,Wt hu⟩
 have h0:xs=[]→∀a len cap,rv=.slice a len cap→len≤cap→StepOk P lo c w (Builtin.append_ tys ty args) s c.H:=by
  rintro rfl a len cap rfl hle
  have hn0:news=[]:=by simpa using hnl
  subst hn0
  refine .pure hR (rv:=.slice a len cap) ?_ hs
  rw [KQ hA hnl hxa (by simpa using hle)]
  cases a <;> simp [storeCells]
 unfold WV at h
 split at h
 ·rename_i g k' l
  have hs':=hs
  cases hs with
  | imm g k' l a cap f hcap hlit haddr hku hcu hvu =>
   split at h
   ·rename_i hx0
    cases h
    exact h0 hx0 _ _ _ rfl hcap
   rename_i hx0
   split at h
   rotate_left
   ·cases h
   split at h
   rotate_left
   ·cases h
   rename_i hq
   obtain ⟨q1,q2⟩:=hq
   cases h
   obtain ⟨olds,hso⟩:=UZ hs'
   have hol:olds.length=l.length*i.size:=by
    rcases q1 with rfl | rfl
    ·exact hso.len
    ·have:=hso.len;simp at this;subst this;simp
   have hor:RowOk w (Qg c lo) c i.size l olds:=by
    rcases q1 with rfl | rfl
    ·exact hso.row
    ·exact .nil
   have hpos:0<xs.length:=List.length_pos_iff.2 hx0
   obtain ⟨cap',rest,g1,g2,g3⟩:=KR (ty:=ty) hA hnl hxa hol (fun hn=>hso.at_ (by rintro rfl;simp at hol;exact hn hol)) (by have:=hlit rfl;omega) q2
   obtain ⟨r1,r2,r3⟩:=GF (T:=e) (need:=l.length+xs.length) (els:=l++xs) (mx:=bndL xs) hR
    (fun u hu=>by
     rcases List.mem_append.1 hu with hu | hu
     ·exact ⟨hor.2.1 u hu,hso.els u hu,by rw [Qd6 hs' u hu];omega⟩
     ·exact hxE u hu)
    (rs:=olds++news++rest) (by
     have:=((hor.app hol hxr).app (by simp [hol,hnl,qA]) (RowOk.nil (rs:=rest)))
     simpa using this) (by simp) g1 g2
   exact ⟨_,_,_,g3,by simp [Ctx.push],r1,r2,r3⟩
 ·rename_i b off len cap tot k'
  have hs':=hs
  cases hs with
  | sl b off len cap tot k' a cap' hsl =>
   obtain ⟨h1,h2,h3,blk,hb,h4⟩:=hsl
   split at h
   ·rename_i hx0
    cases h
    exact h0 hx0 _ _ _ rfl h1
   rename_i hx0
   have hpos:0<xs.length:=List.length_pos_iff.2 hx0
   split at h
   rotate_left
   ·cases h
   rename_i k'' els wr mx hb'
   rw [hb] at hb';cases hb'
   obtain ⟨h5,h6⟩:=h4
   split at h
   rotate_left
   ·cases h
   rename_i hq
   obtain ⟨q1,q2,q3,q4⟩:=hq
   subst q2;subst q3
   obtain ⟨_,h6⟩:=h6 q1
   obtain ⟨he,hrow⟩:=WZ hR hb
   have fork:∀(n:Nat),len≤els.length-off→off≤els.length→n=len+xs.length→cap'<n →
     StepOk P lo c w (Builtin.append_ tys ty args) (.sl c.H.length 0 n none n i.size) (c.H++[.arr i.size ((els.drop off).take len++xs) true (max mx (bndL xs))]):=by
    rintro n hle hoff rfl hgrow
    have VH:Wh c.H b off len tot i.size=some ((els.drop off).take len):=by
     simp only [Wh,hb];rw [if_pos ⟨q1,by omega,trivial⟩]
    obtain ⟨hvl,olds,hso⟩:=Kl hR hs' VH
    have hol:olds.length=len*i.size:=by rw [hso.len,← hvl]
    obtain ⟨cap2,rest,g1,g2,g3⟩:=KR (ty:=ty) hA hnl hxa hol (fun hn=>hso.at_ (by rintro hn1;have:=hso.len;rw [hn1] at this;simp at this;exact hn this)) hgrow q4
    obtain ⟨r1,r2,r3⟩:=GF (T:=e) (need:=len+xs.length) (els:=(els.drop off).take len++xs) (mx:=max mx (bndL xs)) hR
     (fun u hu=>by
      rcases List.mem_append.1 hu with hu | hu
      ·have:=he u (qM (qN hu));exact ⟨this.1,this.2.1,by omega⟩
      ·have:=hxE u hu;exact ⟨this.1,this.2.1,by omega⟩)
     (rs:=olds++news++rest) (by
      have:=((hso.row.app hso.len hxr).app (by rw [qJ,qJ,hso.len,hnl,qA]) (RowOk.nil (rs:=rest)))
      simpa using this) (by rw [qJ,← hvl]) g1 g2
    exact ⟨_,_,_,g3,by simp [Ctx.push],r1,r2,r3⟩
   split at h
   ·rename_i cp
    have hcp:=h2 cp rfl
    subst hcp
    split at h
    ·rename_i hfit
     split at h
     rotate_left
     ·cases h
     rename_i hq
     obtain ⟨hwr,hin⟩:=hq
     cases h
     subst hwr
     rcases hrow with ⟨hn,rfl⟩ | ⟨r,cs,T,hσ,hlo,hw,hrow⟩
     ·simp only [qZ] at hin;omega
     ·rw [hσ] at h6
      obtain ⟨ha,cs',T',fz',hw',hsz⟩:=h6
      rw [hw] at hw';cases hw'
      have ha:=ha (by omega)
      subst ha
      have hm1:(off+(len+xs.length))*i.size≤els.length*i.size:=qC _ hin
      have hm2:=hrow.1
      have hnews:(off+len)*i.size+news.length≤cs.size:=by
       rw [hnl,← qA,qX];simp at hm2;omega
      have hspl:=hrow.splice (p:=off+len) hxr hnl (by omega)
      have hlen1:(cs.toList.take ((off+len)*i.size)++news++cs.toList.drop ((off+len)*i.size+news.length)).length=cs.size:=by
       rw [Wf (by simpa using hnews)];simp
      obtain ⟨r1,r2⟩:=ZW (els':=splice els (off+len) xs) (mx':=max mx (bndL xs)) hR hb hσ hw
       (fun u hu=>by
        rcases Zw hu with hu | hu
        ·have:=he u hu;exact ⟨this.1,this.2.1,by omega⟩
        ·have:=hxE u hu;exact ⟨this.1,this.2.1,by omega⟩)
       hspl hlen1 (by rw [Wg (by omega)];exact qD _)
      refine ⟨_,_,.slice (some ⟨r,off*i.size,none⟩) (len+xs.length) cap',?_,by simp [Ctx.upd],r1,?_,r2⟩
      ·rw [KQ hA hnl hxa hfit]
       have hst:=run_storeCells_at P r ((off+len)*i.size) T news 0 cs w hw (by omega) hsh.one
       simp only [qP] at hst
       simp only [Q4,← qA,hst,Result.andThen_ok]
      ·refine .sl _ _ _ _ _ _ _ _ ⟨hfit,h2,by simp,_,(Qy (QE hb)).1,?_,fun _=>⟨rfl,?_⟩⟩
       ·rw [Wg (by omega)];exact h5
       ·rw [(Qy (QE hb)).2]
        exact ⟨fun _=>rfl,_,T,(0,0),JJ hw _,by simp only [jA];rw [hlen1];exact hsz⟩
    ·rename_i hfit
     split at h
     rotate_left
     ·cases h
     rename_i hq
     cases h
     exact fork _ (by omega) (by omega) rfl (by omega)
   ·split at h
    rotate_left
    ·cases h
    rename_i hq
    obtain ⟨hwr,rfl,hlen⟩:=hq
    cases h
    subst hwr
    subst hlen
    have hlE:Xe i.size (max mx (bndL xs)) (els++xs):=fun u hu=>by
     rcases List.mem_append.1 hu with hu | hu
     ·have:=he u hu;exact ⟨this.1,this.2.1,by omega⟩
     ·have:=hxE u hu;exact ⟨this.1,this.2.1,by omega⟩
    by_cases hroom:els.length+xs.length≤cap'
    ·-- in place
     rcases hrow with ⟨hn,rfl⟩ | ⟨r,cs,T,hσ,hlo,hw,hrow⟩
     ·rw [hn] at h6;simp at hroom;omega
     ·rw [hσ] at h6
      obtain ⟨ha,cs',T',fz',hw',hsz⟩:=h6
      rw [hw] at hw';cases hw'
      have ha:=ha (by omega)
      subst ha
      simp only [Nat.zero_mul,Nat.zero_add] at hsz
      have hm1:(els.length+xs.length)*i.size≤cap'*i.size:=qC _ hroom
      have hnews:els.length*i.size+news.length≤cs.size:=by rw [hnl,← qA];omega
      obtain ⟨t1,t2⟩:=hrow.take els.length (qD _)
      rw [List.take_length] at t1 t2
      have hlen1:(cs.toList.take (els.length*i.size)++news++cs.toList.drop (els.length*i.size+news.length)).length=cs.size:=by
       rw [Wf (by simpa using hnews)];simp
      have hrow':RowOk w (Qg c lo) c i.size (els++xs) (cs.toList.take (els.length*i.size)++news++cs.toList.drop (els.length*i.size+news.length)):=by
       have:=((t1.app t2 hxr).app (by rw [qJ,qJ,t2,hnl,qA]) (RowOk.nil (rs:=cs.toList.drop (els.length*i.size+news.length))))
       simpa using this
      obtain ⟨r1,r2⟩:=ZW (els':=els++xs) (mx':=max mx (bndL xs)) hR hb hσ hw hlE hrow' hlen1 (by simp)
      refine ⟨_,_,.slice (some ⟨r,0*i.size,none⟩) (els.length+xs.length) cap',?_,by simp [Ctx.upd],r1,?_,r2⟩
      ·rw [KQ hA hnl hxa hroom]
       have hst:=run_storeCells_at P r (els.length*i.size) T news 0 cs w hw (by omega) hsh.one
       simp only [qP] at hst
       simp only [Q4,Nat.zero_mul,Nat.zero_add,hst,Result.andThen_ok]
      ·refine .sl _ _ _ _ _ _ _ _ ⟨hroom,by simp,by simp,_,(Qy (QE hb)).1,by simp,fun _=>⟨rfl,?_⟩⟩
       rw [(Qy (QE hb)).2]
       exact ⟨fun _=>by simp,_,T,(0,0),JJ hw _,by simp only [jA];rw [hlen1];simpa using hsz⟩
    ·-- a new row takes its place
     have VH:Wh c.H b 0 els.length tot i.size=some els:=by
      simp only [Wh,hb];rw [if_pos ⟨q1,by omega,trivial⟩];simp
     obtain ⟨_,olds,hso⟩:=Kl hR hs' VH
     obtain ⟨cap2,rest,g1,g2,g3⟩:=KR (ty:=ty) hA hnl hxa hso.len (fun hn=>hso.at_ (by rintro hn1;have:=hso.len;rw [hn1] at this;simp at this;exact hn this)) (by omega) q4
     have hrow':RowOk w (Qg c lo) c i.size (els++xs) (olds++news++rest):=by
      have:=((hso.row.app hso.len hxr).app (by rw [qJ,qJ,hso.len,hnl,qA]) (RowOk.nil (rs:=rest)))
      simpa using this
     have hg:WChg w (w.drew.alloc (.cells (olds++news++rest).toArray e)) none:=WChg.drew_alloc w _ none
     obtain ⟨r1,r2⟩:=KO (x':=.arr i.size (els++xs) true (max mx (bndL xs))) (s:=some w.heap.size) hR hb hg (fun r hr=>by cases hr) (fun _=>rfl)
      (.inr fun r hr=>by cases hr;simp) ⟨by simp,fun hl=>by simp at hl;exact absurd hl hx0⟩ (fun hE =>
       ZU (r:=w.heap.size) (T:=e) (Qy (QE hb)).2 hR.low (QG w.drew _) hlE (by simpa using hrow'.evo hE.W hE.C))
     refine ⟨_,_,_,g3,by simp [Ctx.upd],r1,?_,r2⟩
     refine .sl _ _ _ _ _ _ _ _ ⟨g1,by simp,by simp,_,(Qy (QE hb)).1,by simp,fun _=>⟨rfl,?_⟩⟩
     rw [(Qy (QE hb)).2]
     exact ⟨fun _=>by simp,_,e,(0,0),QG w.drew _,by simp only [jA,g2];simp⟩
 ·cases h

end
end Go.HL


/- Stores, and what is made read-only. -/
namespace Go.HL
section
variable {w:World} {c:Ctx} {rv rx:Value} {P:Program} {lo:Nat}

theorem VP {α:Type} {l x:List α} {p q:Nat} (h:p+x.length≤l.length) :
  (l.take p++x++l.drop (p+x.length))[q]?=if q<p then l[q]? else if q<p+x.length then x[q-p]? else l[q]?:=by
 split
 ·rename_i h1
  rw [List.append_assoc,qR (by simp;omega),qG,if_pos h1]
 ·rename_i h1
  split
  ·rename_i h2
   rw [List.append_assoc,qS (by simp;omega),qR (by simp;omega)]
   congr 1;simp;omega
  ·rename_i h2
   rw [qS (by simp;omega),qH]
   congr 1;simp;omega

theorem Yf {l x:List HV} {p q:Nat} (h:p+x.length≤l.length) :
  (splice l p x)[q]?=if q<p then l[q]? else if q<p+x.length then x[q-p]? else l[q]?:=VP h

theorem Qd {α:Type} {l:List α} {i:Nat} {x:α} (h:l[i]?=some x):i<l.length:=by
 rcases qF i l.length with h' | h'
 ·exact h'
 ·rw [qK h'] at h;cases h

theorem RowOk.setPart {ok:Bool→Nat→Prop} {k i off:Nat} {els:List HV} {rs vs:List Value} {old new:HV} {xs:List HV} (h:RowOk w ok c k els rs) (hi:els[i]?=some old)
  (hn:cellsOf new=HL.splice (cellsOf old) off xs) (hx:xs.length=vs.length) (hxv:∀(j:Nat) (x:HV) (y:Value),xs[j]?=some x→vs[j]?=some y→V w ok c x y)
  (hle:off+xs.length≤(cellsOf old).length) :
  RowOk w ok c k (els.set i new) (rs.take (i*k+off)++vs++rs.drop (i*k+off+vs.length)):=by
 have hk:=h.2.1 old (qB hi)
 have hil:=Qd hi
 have hm:(i+1)*k≤els.length*k:=qC k hil
 rw [qA,qI] at hm
 have h0:=h.1
 have hfit:i*k+off+vs.length≤rs.length:=by omega
 have hnk:(cellsOf new).length=k:=by rw [hn,Wg hle,hk]
 refine ⟨by rw [jE,Wf hfit];exact h0,fun v hv=>?_,fun p v j x hv hxj=>?_⟩
 ·rcases jG hv with hv | rfl
  ·exact h.2.1 v hv
  ·exact hnk
 ·rw [VP hfit]
  by_cases hp:p=i
  ·subst hp
   rw [List.getElem?_set_self hil] at hv
   cases hv
   have hj:j<k:=by rw [← hnk];exact Qd hxj
   rw [hn,Yf hle] at hxj
   by_cases h1:j<off
   ·rw [if_pos h1] at hxj
    rw [if_pos (by omega)]
    exact h.2.2 p old j x hi hxj
   ·rw [if_neg h1] at hxj
    rw [if_neg (by omega)]
    by_cases h2:j<off+xs.length
    ·rw [if_pos h2] at hxj
     rw [if_pos (by omega)]
     have hlt:j-off<vs.length:=by omega
     refine ⟨vs[j-off],?_,hxv _ x _ hxj (qE hlt)⟩
     rw [← qE hlt];congr 1;omega
    ·rw [if_neg h2] at hxj
     rw [if_neg (by omega)]
     exact h.2.2 p old j x hi hxj
  ·rw [List.getElem?_set_ne (by omega)] at hv
   have hj:j<k:=by rw [← h.2.1 v (qB hv)];exact Qd hxj
   obtain ⟨y,h3,h4⟩:=h.2.2 p v j x hv hxj
   refine ⟨y,?_,h4⟩
   rcases Nat.lt_or_gt_of_ne hp with h5 | h5
   ·have:(p+1)*k≤i*k:=qC k h5
    rw [qA,qI] at this
    rw [if_pos (by omega)];exact h3
   ·have:(i+1)*k≤p*k:=qC k h5
    rw [qA,qI] at this
    rw [if_neg (by omega),if_neg (by omega)];exact h3

theorem Yg {l x:List HV} {p:Nat}:bndL (splice l p x)≤max (bndL l) (bndL x):=by
 have key:∀{l:List HV} {m:Nat},(∀v,v∈l→bnd v≤m)→bndL l≤m:=by
  intro l
  induction l with
  | nil=>intro m _;simp [bndL]
  | cons v l ih=>intro m h;simp only [bndL];have h1:=h v (by simp);have h2:=ih fun u hu=>h u (by simp [hu]);omega
 refine key fun v hv=>?_
 rcases Zw hv with h | h
 ·have:=Wt h;omega
 ·have:=Wt h;omega

theorem VQ {v:HV} (h:(cellsOf v).all Ql=true):bndL (cellsOf v)=bnd v:=by
 cases v <;> simp [cellsOf,bnd,bndL]

theorem CY {t:TypeId} {a v:HV} {H':Heap} (hR:Rel lo c w) (ha:V w (Qg c lo) c a rx) (hv:V w (Qg c lo) c v rv) (h:QM P c.H t a v=some H') :
  ∃c' w',(Instr.storeAt t rx rv).run P w=.ok () w'∧c'.H=H'∧Rel lo c' w'∧Evo lo c w c' w':=by
 unfold QM at h
 split at h
 rotate_left
 ·cases h
 rename_i b i off tot
 split at h
 rotate_left
 ·cases h
 rename_i k els mx hb
 split at h
 rotate_left
 ·cases h
 rename_i hq
 obtain ⟨q1,q2⟩:=hq
 split at h
 rotate_left
 ·cases h
 rename_i old hi
 split at h
 rotate_left
 ·cases h
 rename_i hq
 obtain ⟨q3,q4,q5⟩:=hq
 simp only [Option.some.injEq] at h
 cases ha with
 | ptr b i off tot ad hp =>
  obtain ⟨blk,hb',hp⟩:=hp
  rw [hb] at hb';cases hb'
  obtain ⟨r,hσ,rfl⟩:=hp.2 q1
  obtain ⟨he,hrow⟩:=WZ hR hb
  rcases hrow with ⟨hn,_⟩ | ⟨r',cs,T,hσ',hlo,hw,hrow⟩
  ·rw [hσ] at hn;cases hn
  rw [hσ] at hσ';cases hσ'
  obtain ⟨hl,hcv,hone⟩:=hv.cells q4
  obtain ⟨hok,hoc,hob⟩:=he old (qB hi)
  have hnew:∃new,H'=c.H.set b (.arr k (els.set i new) true (max mx (bnd v)))∧cellsOf new=splice (cellsOf old) off (cellsOf v)∧bnd new≤max mx (bnd v):=by
   by_cases hagg:∃os,old=.agg os
   ·obtain ⟨os,rfl⟩:=hagg
    refine ⟨.agg (splice os off (cellsOf v)),h.symm,rfl,?_⟩
    have h1:=Yg (l:=os) (x:=cellsOf v) (p:=off)
    rw [VQ q4] at h1
    simp only [bnd] at hob ⊢
    omega
   ·have hold:cellsOf old=[old]:=by cases old <;> first | rfl | exact absurd ⟨_,rfl⟩ hagg
    refine ⟨v,?_,?_,by omega⟩
    ·rw [← h];cases old <;> first | rfl | exact absurd ⟨_,rfl⟩ hagg
    ·rw [hold] at q3 ⊢
     simp only [jH,qZ] at q3
     have h1:(cellsOf v).length=1:=by omega
     have h2:off=0:=by omega
     subst h2
     simp [splice,h1]
  obtain ⟨new,rfl,hnc,hnb⟩:=hnew
  have hvl:(cellsOf v).length=rv.cells.toList.length:=by simpa using hl
  have hset:=hrow.setPart (new:=new) (xs:=cellsOf v) (vs:=rv.cells.toList) hi hnc hvl (fun j x y hx hy=>hcv j x y hx (by simpa using hy)) q3
  have hil:=Qd hi
  have hm:(i+1)*k≤els.length*k:=qC k hil
  rw [qA,qI] at hm
  have h0:=hrow.1
  have hfit:i*k+off+rv.cells.toList.length≤cs.toList.length:=by omega
  obtain ⟨r1,r2⟩:=ZW (els':=els.set i new) (mx':=max mx (bnd v)) hR hb hσ hw
   (fun u hu=>by
    rcases jG hu with hu | rfl
    ·have:=he u hu;exact ⟨this.1,this.2.1,by omega⟩
    ·refine ⟨by rw [hnc,Wg q3,hok],?_,hnb⟩
     rw [hnc]
     refine List.all_eq_true.2 fun x hx=>?_
     rcases Zw hx with hx | hx
     ·exact List.all_eq_true.1 hoc x hx
     ·exact List.all_eq_true.1 q4 x hx)
   hset (by rw [Wf hfit];simp) (by simp)
  refine ⟨_,_,?_,rfl,r1,r2⟩
  have hst:=run_storeCells_at P r (i*k+off) T rv.cells.toList 0 cs w hw (by simpa using hfit) hone
  simp only [qP] at hst
  have hsz:rv.cells.size=(cellsOf v).length:=hl.symm
  simp only [Instr.storeAt,Instr.sureAddr,storeVar,Sem.run_bind,Sem.run_pure,Result.andThen_ok,Wj q2,hsz,ne_eq,not_true_eq_false,if_false]
  exact hst

end
end Go.HL


/- Literals: of arrays, structs, slices; new slices. -/
namespace Go.HL
section
variable {w:World} {c:Ctx} {rv rx:Value} {P:Program} {lo:Nat} {ok:Bool→Nat→Prop}

theorem QgA (off:Nat):∀(l:List Value) (n:Nat) (cs:Array Value),off+n+l.length≤cs.size →
  ((l.zipIdx n).foldl (fun (cs:Array Value) (x:Value×Nat)=>cs.setIfInBounds (off+x.2) x.1) cs).size=cs.size ∧
  ∀q:Nat,((l.zipIdx n).foldl (fun (cs:Array Value) (x:Value×Nat)=>cs.setIfInBounds (off+x.2) x.1) cs)[q]? =
   if q<off+n then cs[q]? else if q<off+n+l.length then l[q-(off+n)]? else cs[q]?
 | [],n,cs,_=>by
  refine ⟨rfl,fun q=>?_⟩
  simp only [List.zipIdx_nil,List.foldl_nil,qZ,qP]
  split
  ·rfl
  ·rfl
 | v::l,n,cs,h=>by
  simp only [jH] at h
  obtain ⟨h1,h2⟩:=QgA off l (n+1) (cs.setIfInBounds (off+n) v) (by simp;omega)
  simp only [List.zipIdx_cons,List.foldl_cons]
  refine ⟨by rw [h1];simp,fun q=>?_⟩
  rw [h2 q]
  simp only [jH]
  by_cases q1:q<off+n
  ·rw [if_pos (by omega),if_pos q1,jN (by omega)]
  ·by_cases q2:q=off+n
   ·subst q2
    rw [if_pos (by omega),if_neg (by omega),if_pos (by omega)]
    simp [show off+n<cs.size by omega]
   ·rw [if_neg (by omega),if_neg q1]
    by_cases q3:q<off+(n+1)+l.length
    ·rw [if_pos q3,if_pos (by omega)]
     have:q-(off+n)=(q-(off+(n+1)))+1:=by omega
     rw [this,List.getElem?_cons_succ]
    ·rw [if_neg q3,if_neg (by omega),jN (by omega)]

theorem GG (off:Nat) (v cs:Array Value) (h:off+v.size≤cs.size) :
  (v.zipIdx.foldl (fun (cs:Array Value) (x:Value×Nat)=>cs.setIfInBounds (off+x.2) x.1) cs).size=cs.size ∧
  ∀q:Nat,(v.zipIdx.foldl (fun (cs:Array Value) (x:Value×Nat)=>cs.setIfInBounds (off+x.2) x.1) cs)[q]? =
   if q<off then cs[q]? else if q<off+v.size then v[q-off]? else cs[q]?:=by
 have:=QgA off v.toList 0 cs (by simpa using h)
 rw [← Array.foldl_toList,Array.toList_zipIdx]
 simpa using this

def CellsV (w:World) (ok:Bool→Nat→Prop) (c:Ctx) (cs:List HV) (rs:Array Value):Prop :=
 cs.length=rs.size∧∀(i:Nat) (v:HV) (r:Value),cs[i]?=some v→rs[i]?=some r→V w ok c v r

theorem CellsV.of {v:HV} (h:V w ok c v rv) (hc:(cellsOf v).all Ql=true):CellsV w ok c (cellsOf v) rv.cells:=⟨(h.cells hc).1,(h.cells hc).2.1⟩

theorem CellsV.splice {cs xs:List HV} {rs vs:Array Value} {off:Nat} (h:CellsV w ok c cs rs) (hx:CellsV w ok c xs vs) (hle:off+xs.length≤cs.length) :
  CellsV w ok c (HL.splice cs off xs) (vs.zipIdx.foldl (fun (cs:Array Value) (x:Value×Nat)=>cs.setIfInBounds (off+x.2) x.1) rs):=by
 have hxl:=hx.1
 have hl:=h.1
 obtain ⟨h1,h2⟩:=GG off vs rs (by omega)
 refine ⟨by rw [Wg hle,h1];exact hl,fun i v r hv hr=>?_⟩
 rw [Yf hle] at hv
 rw [h2] at hr
 by_cases q1:i<off
 ·rw [if_pos q1] at hv hr;exact h.2 i v r hv hr
 ·rw [if_neg q1] at hv hr
  by_cases q2:i<off+xs.length
  ·rw [if_pos q2] at hv;rw [if_pos (by omega)] at hr;exact hx.2 _ v r hv hr
  ·rw [if_neg q2] at hv;rw [if_neg (by omega)] at hr;exact h.2 i v r hv hr

theorem XP {place place':Nat→Option (Nat×Nat)} (hp:place=place'):∀{parts:List (Nat×HV)} {rp:List (Nat×Value)} {cs cs':List HV} {rs:Array Value},
  CellsV w ok c cs rs→parts.length=rp.length →
  (∀(q:Nat) (p:Nat×HV) (r:Nat×Value),parts[q]?=some p→rp[q]?=some r→p.1=r.1∧V w ok c p.2 r.2) →
  cs.all Ql=true→Ya place cs parts=some cs'→∃rs',Instr.fill place' rs rp=some rs'∧CellsV w ok c cs' rs'∧cs'.all Ql=true
 | [],rp,cs,cs',rs,h,hl,_,hc,hf=>by
  cases rp with
  | cons _ _=>simp at hl
  | nil=>simp only [Ya,Option.some.injEq] at hf;subst hf;exact ⟨rs,rfl,h,hc⟩
 | (i,v)::parts,rp,cs,cs',rs,h,hl,hh,hc,hf=>by
  subst hp
  cases rp with
  | nil=>simp at hl
  | cons r rp =>
   obtain ⟨hi,hv⟩:=hh 0 (i,v) r rfl rfl
   obtain ⟨ri,rv⟩:=r
   simp only at hi hv
   subst hi
   simp only [Ya] at hf
   cases hpl:place i with
   | none=>simp [hpl] at hf
   | some os =>
    obtain ⟨off,size⟩:=os
    simp only [hpl] at hf
    split at hf
    rotate_left
    ·cases hf
    rename_i hq
    obtain ⟨q1,q2,q3⟩:=hq
    have hcv:=CellsV.of hv q3
    have hsz:=hcv.1
    have hcs:=h.1
    have:=XP (place:=place) rfl (h.splice hcv q2) (by simpa using hl) (fun q p r h1 h2=>hh (q+1) p r h1 h2)
     (List.all_eq_true.2 fun x hx=>by
      rcases Zw hx with hx | hx
      ·exact List.all_eq_true.1 hc x hx
      ·exact List.all_eq_true.1 q3 x hx) hf
    obtain ⟨rs',h1,h2,h3⟩:=this
    refine ⟨rs',?_,h2,h3⟩
    simp only [Instr.fill,hpl]
    rw [if_neg]
    ·exact h1
    ·simp;omega

theorem CellsV.agg {cs:List HV} {rs:Array Value} (h:CellsV w ok c cs rs) (hc:cs.all Ql=true):V w ok c (.agg cs) (.agg rs) :=
 .agg cs rs h.1 (fun v hv=>List.all_eq_true.1 hc v hv) h.2

theorem Yh:∀{l:List Field},(∀f,f∈l→(Qm P f.type).isSome=true) →
  (l.mapM fun f=>do pure (f.offset,← sizeOf f.type):Sem (List (Nat×Nat))).run P w=.ok (l.map fun f=>(f.offset,(Qm P f.type).getD 0)) w
 | [],_=>by simp
 | f::l,h=>by
  obtain ⟨s,hs⟩:=Option.isSome_iff_exists.1 (h f (by simp))
  have ih:=Yh (l:=l) fun g hg=>h g (by simp [hg])
  simp only [List.mapM_cons,Sem.run_bind,Wj hs,Result.andThen_ok,Sem.run_pure,List.map_cons,hs,Option.getD_some]
  rw [ih]
  rfl

theorem U0 {parts:Array (Nat×Operand)} {e:Env} {a:Act} (he:RelE w c lo e a.tmps) :
  (parts.toList.map fun p=>(p.1,Qk e p.2)).length=(parts.map fun (i,x)=>(i,a.eval x)).toList.length ∧
  ∀(q:Nat) (p:Nat×HV) (r:Nat×Value),(parts.toList.map fun p=>(p.1,Qk e p.2))[q]?=some p→(parts.map fun (i,x)=>(i,a.eval x)).toList[q]?=some r →
   p.1=r.1∧V w (Qg c lo) c p.2 r.2:=by
 refine ⟨by simp,fun q p r h1 h2=>?_⟩
 simp only [qL,jI,jJ] at h1 h2
 cases hq:parts[q]? with
 | none=>simp [hq] at h1
 | some x =>
  obtain ⟨i,x⟩:=x
  simp [hq] at h1 h2
  subst h1;subst h2
  exact ⟨rfl,Jg he x⟩

theorem CZ {t:TypeId} {parts:Array (Nat×Operand)} {e:Env} {a:Act} {v:HV} (he:RelE w c lo e a.tmps)
  (h:CU P t (parts.toList.map fun p=>(p.1,Qk e p.2))=some v) :
  ∃r,(Instr.build t (parts.map fun (i,x)=>(i,a.eval x))).run P w=.ok r w∧V w (Qg c lo) c v r:=by
 unfold CU at h
 split at h
 rotate_left
 ·cases h
 rename_i i hi
 split at h
 rotate_left
 ·cases h
 rename_i z hz
 split at h
 rotate_left
 ·cases h
 rename_i hzc
 have hz0:CellsV w (Qg c lo) c (cellsOf (QC z)) z.cells:=CellsV.of (Zd z) hzc
 obtain ⟨pl,ph⟩:=U0 (parts:=parts) he
 split at h
 ·rename_i fs hu
  split at h
  rotate_left
  ·cases h
  rename_i hall
  cases hf:Ya (JE P fs) (cellsOf (QC z)) (parts.toList.map fun p=>(p.1,Qk e p.2)) with
  | none=>rw [hf] at h;cases h
  | some cs =>
   rw [hf] at h;simp at h;subst h
   have hall':∀f,f∈fs.toList→(Qm P f.type).isSome=true:=fun f hf=>List.all_eq_true.1 hall f hf
   have hm:=Yh (P:=P) (w:=w) hall'
   have hplace:(JE P fs) =
     ((fs.toList.map fun f=>(f.offset,(Qm P f.type).getD 0)).toArray[·]?):=by
    funext j
    simp only [JE,List.getElem?_toArray,qL,jJ]
    cases hj:fs[j]? with
    | none=>rfl
    | some f =>
     obtain ⟨s,hs⟩:=Option.isSome_iff_exists.1 (hall' f (by simpa using Array.mem_of_getElem? hj))
     simp [hs]
   obtain ⟨rs,h1,h2,h3⟩:=XP hplace hz0 pl ph hzc hf
   refine ⟨_,?_,h2.agg h3⟩
   simp only [Instr.build,Sem.run_bind,Js hi hz,Result.andThen_ok,Qr hu]
   rw [show (fs.mapM fun f=>do pure (f.offset,← sizeOf f.type):Sem (Array (Nat×Nat)))=Functor.map List.toArray (fs.toList.mapM fun f=>do pure (f.offset,← sizeOf f.type)) from Array.mapM_eq_mapM_toList]
   simp only [Sem.run_map,hm,Result.andThen_ok]
   rw [h1]
   rfl
 ·rename_i n et hu
  split at h
  rotate_left
  ·cases h
  rename_i s hs
  cases hf:Ya (fun i=>some (i*s,s)) (cellsOf (QC z)) (parts.toList.map fun p=>(p.1,Qk e p.2)) with
  | none=>rw [hf] at h;cases h
  | some cs =>
   rw [hf] at h;simp at h;subst h
   obtain ⟨rs,h1,h2,h3⟩:=XP rfl hz0 pl ph hzc hf
   refine ⟨_,?_,h2.agg h3⟩
   simp only [Instr.build,Sem.run_bind,Js hi hz,Result.andThen_ok,Qr hu,Wj hs]
   rw [h1]
   rfl
 ·cases h

theorem Y0 {k n:Nat} {z:Value} (hk:z.cells.size=k) (hzc:(cellsOf (QC z)).all Ql=true) (hk0:k≠0) :
  RowOk w ok c k (qV n (QC z)) ((Array.range (n*k)).map (z.cells[· % z.cells.size]!)).toList:=by
 have hz:=CellsV.of (w:=w) (ok:=ok) (c:=c) (Zd z) hzc
 have hlen:(cellsOf (QC z)).length=k:=by rw [hz.1,hk]
 refine ⟨by simp,fun v hv=>by rw [(List.mem_replicate.1 hv).2,hlen],fun i v j x hv hx=>?_⟩
 have hi:i<n:=by have:=Qd hv;simpa using this
 have hv':v=QC z:=(List.mem_replicate.1 (qB hv)).2
 subst hv'
 have hj:j<k:=by rw [← hlen];exact Qd hx
 have hm:(i+1)*k≤n*k:=qC k hi
 rw [qA,qI] at hm
 have hmod:(i*k+j)%k=j:=by rw [Nat.mul_comm,Nat.mul_add_mod,Nat.mod_eq_of_lt hj]
 have hjz:j<z.cells.size:=by omega
 refine ⟨z.cells[j],?_,hz.2 j x _ hx (qW hjz)⟩
 simp only [jI,Array.toList_range,qL]
 rw [qY (by omega)]
 simp only [Option.map_some,hk,hmod]
 rw [getElem!_pos z.cells j hjz]

end
end Go.HL


/- Values that are made read-only; literals of slices; new slices and variables. -/
namespace Go.HL
section
variable {w:World} {c:Ctx} {rv rx:Value} {P:Program} {lo:Nat} {ok:Bool→Nat→Prop}

theorem WA:∀{l:List HV},resPL l=true→∀v,v∈l→resP v=true
 | [],_,v,h=>by simp at h
 | x::l,h,v,hv=>by
  simp only [resPL,qQ] at h
  rcases List.mem_cons.1 hv with rfl | hv
  ·exact h.1
  ·exact WA h.2 v hv

theorem C0 {v:HV} (h:resP v=true):∀x,x∈cellsOf v→resP x=true:=by
 cases v with
 | agg cs=>exact fun x hx=>WA (l:=cs) (by simpa [resP] using h) x hx
 | _=>intro x hx;simp [cellsOf] at hx;subst hx;exact h

theorem GH {v x:HV} (h:x∈cellsOf v):bnd x≤bnd v:=by
 cases v with
 | agg cs=>simp only [bnd];exact Wt h
 | _=>simp [cellsOf] at h;subst h;exact qD _

theorem V.free0 {v:HV} (h:V w ok c v rv):∀(d:Ctx),bnd v=0→V w ok d v rv:=by
 have le0:∀{l:List HV} {v:HV},bndL l=0→v∈l→bnd v=0:=fun h hv=>by have:=Wt hv;omega
 induction h with
 | undef v=>exact fun _ _=>.undef v
 | int k n=>exact fun _ _=>.int k n
 | bool b=>exact fun _ _=>.bool b
 | str s=>exact fun _ _=>.str s
 | nilmap=>exact fun _ _=>.nilmap
 | nilFunc=>exact fun _ _=>.nilFunc
 | nilS k cap=>exact fun _ _=>.nilS k cap
 | empS k a cap=>exact fun _ _=>.empS k a cap
 | agg cs rs hl hc h ih=>exact fun d hp=>.agg cs rs hl hc fun i v r h1 h2=>ih i v r h1 h2 d (le0 (by simpa [bnd] using hp) (qB h1))
 | tuple cs rs hl h ih=>exact fun d hp=>.tuple cs rs hl fun i v r h1 h2=>ih i v r h1 h2 d (le0 (by simpa [bnd] using hp) (qB h1))
 | imm g k l a cap f hcap hlit haddr hk hc hv ih=>exact fun d _=>.imm g k l a cap f hcap hlit haddr hk hc hv
 | imap g ks vs r es clock hr hok hw hl hl' hkp hk hv ihk ihv=>exact fun d _=>.imap g ks vs r es clock hr hok hw hl hl' hkp hk hv
 | vptr v r o f hr hok hc h1 h ih=>exact fun d _=>.vptr v r o f hr hok hc h1 h
 | func f fa ca ra rc hl hl' h h' ih ih' =>
  intro d hp
  simp only [bnd] at hp
  exact .func f fa ca ra rc hl hl' (fun i v r h1 h2=>ih i v r h1 h2 d (le0 (by omega) (qB h1))) (fun i v r h1 h2=>ih' i v r h1 h2 d (le0 (by omega) (qB h1)))
 | _=>intro d hp;simp [bnd] at hp

mutual
 theorem resP_bnd0:∀(v:HV),resP v=true→bnd v=0
  | .agg cs,h=>by simp only [bnd];exact resPL_bnd0 cs (by simpa [resP] using h)
  | .tuple cs,h=>by simp only [bnd];exact resPL_bnd0 cs (by simpa [resP] using h)
  | .func f a c,h=>by
   simp only [resP,qQ] at h
   simp only [bnd]
   rw [resPL_bnd0 a h.1,resPL_bnd0 c h.2];rfl
  | .sl ..,h=>by simp [resP] at h
  | .aview ..,h=>by simp [resP] at h
  | .ptr ..,h=>by simp [resP] at h
  | .map ..,h=>by simp [resP] at h
  | .undef,_ | .nilS _,_ | .empS _,_ | .int ..,_ | .bool _,_ | .str _,_ | .imm ..,_ | .own ..,_ | .vptr _,_ | .nilmap,_ | .imap ..,_ | .omap ..,_ | .nilFunc,_=>by simp [bnd]
 theorem resPL_bnd0:∀(l:List HV),resPL l=true→bndL l=0
  | [],_=>rfl
  | v::l,h=>by
   simp only [resPL,qQ] at h
   simp only [bndL]
   rw [resP_bnd0 v h.1,resPL_bnd0 l h.2];rfl
end

theorem KS {g:G} {k:Nat} {l:List HV} {a:Option Addr} {cap:Nat} {news:List Value} (h:Shows w c lo k l a news) (hcap:l.length≤cap) (hlit:g=.lit→cap=l.length)
  (hat:l≠[]→∃r off,a=some ⟨r,off,none⟩∧r<w.heap.size∧Qg c lo (g != .arg) r)
  (hp:∀v,v∈l→bnd v=0) (d:Ctx):V w (Qg c lo) d (.imm g k l) (.slice a l.length cap):=by
 refine .imm g k l a cap (fun j=>news.getD j undef) hcap hlit (fun hne=>?_) h.row.2.1 h.els (fun i v j x hv hx=>?_)
 ·obtain ⟨r,off,rfl,hr,hok⟩:=hat hne
  refine ⟨r,off,rfl,hr,hok,fun j hj=>?_⟩
  obtain ⟨ad,h1,h2⟩:=h.at_ hne
  cases h1
  have hj':j<news.length:=by rw [h.len];exact hj
  rw [← Q4]
  rw [h2 j _ (qE hj')]
  simp [hj']
 ·obtain ⟨y,h1,h2⟩:=h.row.2.2 i v j x hv hx
  simp only [List.getD,h1,Option.getD_some]
  exact h2.free0 _ (by have:=GH (qB hx);rw [hp v (qB hv)] at this;omega)

theorem Y1 {v v':HV} {H':Heap} (hR:Rel lo c w) (hv:V w (Qg c lo) c v rv) (h:Xb c.H v=some (v',H')) :
  ∃c',c'.H=H'∧Rel lo c' w∧Evo lo c w c' w∧V w (Qg c' lo) c' v' rv:=by
 unfold Xb at h
 split at h
 ·rename_i b off len cap tot k
  have hv':=hv
  cases hv with
  | sl b off len cap tot k a cap' hsl =>
   split at h
   ·rename_i h0
    cases h
    exact ⟨c,rfl,hR,.refl _ _ _,by rw [h0];exact .imm .own k [] a cap' (fun _=>undef) (by simp) (by simp) (by simp) (by simp) (by simp) (by simp)⟩
   rename_i h0
   split at h
   rotate_left
   ·cases h
   rename_i k' els wr mx hb
   split at h
   rotate_left
   ·cases h
   rename_i hq
   obtain ⟨q1,q2,q3,q4⟩:=hq
   subst q3
   cases h
   have VH:Wh c.H b off len tot k'=some ((els.drop off).take len):=by
    simp only [Wh,hb];rw [if_pos ⟨q1,q2,trivial⟩]
   obtain ⟨hn,news,hsh⟩:=Kl hR hv' VH
   obtain ⟨he,hrow⟩:=WZ hR hb
   rcases hrow with ⟨hs,rfl⟩ | ⟨r,cs,T,hs,hlo,hw,hrow⟩
   ·simp at q2;omega
   obtain ⟨r1,r2⟩:=KO (w':=w) (x':=.arr k' els false mx) (s:=c.σ b) hR hb (WChg.refl w none) (fun r hr=>by cases hr) (fun h=>by cases h) (.inl rfl) ⟨qD _,fun _=>⟨rfl,rfl⟩⟩
    (fun hE=>by
     rw [hs]
     have hE':=hE
     rw [hs] at hE'
     exact ZU (r:=r) (T:=T) (Qy (QE hb)).2 hlo hw he (hrow.evo hE'.W hE'.C))
   refine ⟨_,rfl,r1,r2,?_⟩
   obtain ⟨h1,h2,h3,blk,hb',h4⟩:=hsl
   rw [hb] at hb';cases hb'
   obtain ⟨_,h5⟩:=h4.2 q1
   rw [hs] at h5
   have hsh':Shows w (c.upd b (.arr k' els false mx) (c.σ b)) lo k' ((els.drop off).take len) a news :=
    ⟨hsh.row.evo r2.W r2.C,hsh.len,hsh.at_,hsh.one,hsh.els⟩
   have:=KS (g:=.own) (cap:=cap') hsh' (by omega) (by simp) (fun _=>⟨r,off*k',h5.1 (by omega),Zv hw,fun hM=>?_,fun _=>hlo⟩) (fun v hv=>resP_bnd0 v (WA q4 v hv)) (c.upd b (.arr k' els false mx) (c.σ b))
   ·rw [← hn] at this;exact this
   ·obtain ⟨q,y,g1,g2,g3⟩:=M_iff.1 hM
    by_cases hq:q=b
    ·subst hq
     rw [(Qy (QE hb)).1] at g1;cases g1;cases g2
    ·rw [(WY hq).2] at g3
     exact hq (hR.inj q b r g3 hs)
 ·cases h
  exact ⟨c,rfl,hR,.refl _ _ _,hv⟩

theorem GI:∀{l l':List HV} {rs:List Value} {c:Ctx} {H':Heap},Rel lo c w→l.length=rs.length →
  (∀(i:Nat) (v:HV) (r:Value),l[i]?=some v→rs[i]?=some r→V w (Qg c lo) c v r)→YS l c.H=some (l',H') →
  ∃c',c'.H=H'∧Rel lo c' w∧Evo lo c w c' w∧l'.length=rs.length∧∀(i:Nat) (v:HV) (r:Value),l'[i]?=some v→rs[i]?=some r→V w (Qg c' lo) c' v r
 | [],l',rs,c,H',hR,hl,_,h=>by
  simp only [YS,Option.some.injEq,Prod.mk.injEq] at h
  obtain ⟨rfl,rfl⟩:=h
  exact ⟨c,rfl,hR,.refl _ _ _,hl,by simp⟩
 | v::l,l',rs,c,H',hR,hl,hh,h=>by
  cases rs with
  | nil=>simp at hl
  | cons r rs =>
   simp only [YS] at h
   cases h1:Xb c.H v with
   | none=>simp [h1] at h
   | some p =>
    obtain ⟨u,H1⟩:=p
    simp only [h1] at h
    obtain ⟨c1,rfl,hR1,hE1,hV1⟩:=Y1 hR (hh 0 v r rfl rfl) h1
    cases h2:YS l c1.H with
    | none=>simp [h2] at h
    | some p =>
     obtain ⟨l2,H2⟩:=p
     simp only [h2,Option.some.injEq,Prod.mk.injEq] at h
     obtain ⟨rfl,rfl⟩:=h
     obtain ⟨c2,rfl,hR2,hE2,hl2,hV2⟩:=GI hR1 (by simpa using hl) (fun i v r g1 g2=>hE1.val (hh (i+1) v r g1 g2)) h2
     refine ⟨c2,rfl,hR2,hE1.trans hE2,by simp [hl2],fun i x y g1 g2=>?_⟩
     cases i with
     | zero=>simp at g1 g2;subst g1;subst g2;exact hE2.val hV1
     | succ i=>exact hV2 i x y (by simpa using g1) (by simpa using g2)

theorem SM {k len:Nat}:∀{is:List Nat} {vs:List HV} {rp:List (Nat×Value)} {els:List HV} {rs:Array Value},RowOk w ok c k els rs.toList→rs.size=els.length*k→els.length=len →
  is.length=rp.length→vs.length=rp.length→(∀(q:Nat) (i:Nat) (r:Nat×Value),is[q]?=some i→rp[q]?=some r→i=r.1∧i<len) →
  (∀(q:Nat) (v:HV) (r:Nat×Value),vs[q]?=some v→rp[q]?=some r→V w ok c v r.2∧(cellsOf v).length=k∧(cellsOf v).all Ql=true) →
  ∃rs',Instr.fill (fun i=>some (i*k,k)) rs rp=some rs'∧RowOk w ok c k ((is.zip vs).foldl (fun (l:List HV) (p:Nat×HV)=>l.set p.1 p.2) els) rs'.toList∧rs'.size=len*k ∧
   ((is.zip vs).foldl (fun (l:List HV) (p:Nat×HV)=>l.set p.1 p.2) els).length=len
 | [],vs,rp,els,rs,h,hs,hl,hi,hv,_,_=>by
  cases rp with
  | cons _ _=>simp at hi
  | nil=>exact ⟨rs,rfl,by simpa using h,by rw [hs,hl],by simpa using hl⟩
 | i::is,vs,rp,els,rs,h,hs,hl,hi,hv,hh,hh'=>by
  cases rp with
  | nil=>simp at hi
  | cons r rp =>
   cases vs with
   | nil=>simp at hv
   | cons v vs =>
    obtain ⟨ri,rv⟩:=r
    obtain ⟨h1,h2⟩:=hh 0 i (ri,rv) rfl rfl
    obtain ⟨h3,h4,h5⟩:=hh' 0 v (ri,rv) rfl rfl
    simp only at h1 h3
    subst h1
    obtain ⟨g1,g2,_⟩:=h3.cells h5
    have hm:(i+1)*k≤len*k:=qC k h2
    rw [qA,qI] at hm
    have hfit:i*k+rv.cells.size≤rs.size:=by rw [hs,hl];omega
    obtain ⟨f1,f2⟩:=GG (i*k) rv.cells rs hfit
    have hlt:i<els.length:=by omega
    have hold:=qE hlt
    have hset:=h.setPart (new:=v) (off:=0) (xs:=cellsOf v) (vs:=rv.cells.toList) hold
     (by have:=h.2.1 _ (qB hold);simp [splice];omega) (by simpa using g1) (fun j x y a b=>g2 j x y a (by simpa using b)) (by have:=h.2.1 _ (qB hold);omega)
    have heq:(rv.cells.zipIdx.foldl (fun (cs:Array Value) (x:Value×Nat)=>cs.setIfInBounds (i*k+x.2) x.1) rs).toList =
      rs.toList.take (i*k+0)++rv.cells.toList++rs.toList.drop (i*k+0+rv.cells.toList.length):=by
     apply List.ext_getElem?
     intro q
     rw [jJ,f2 q,VP (by simpa using hfit)]
     simp
    rw [← heq] at hset
    obtain ⟨rs',e1,e2,e3,e4⟩:=SM hset (by rw [f1,jE];exact hs) (by rw [jE];exact hl) (by simpa using hi) (by simpa using hv)
     (fun q i r a b=>hh (q+1) i r a b) (fun q v r a b=>hh' (q+1) v r a b)
    refine ⟨rs',?_,e2,e3,e4⟩
    simp only [Instr.fill]
    rw [if_neg]
    ·exact e1
    ·simp;omega

end
end Go.HL


/- Literals of slices, new slices, new variables, clear and copy. -/
namespace Go.HL
section
variable {w:World} {c:Ctx} {rv rx:Value} {P:Program} {lo:Nat} {ok:Bool→Nat→Prop}

theorem VE {p:HV→Prop}:∀{l:List (Nat×HV)} {els:List HV},(∀v,v∈els→p v)→(∀q,q∈l→p q.2)→∀v,v∈l.foldl (fun (l:List HV) (p:Nat×HV)=>l.set p.1 p.2) els→p v
 | [],els,h,_,v,hv=>h v (by simpa using hv)
 | x::l,els,h,hl,v,hv=>by
  simp only [List.foldl_cons] at hv
  refine VE (l:=l) (els:=els.set x.1 x.2) (fun u hu=>?_) (fun q hq=>hl q (by simp [hq])) v hv
  rcases jG hu with hu | rfl
  ·exact h u hu
  ·exact hl x (by simp)

theorem KT {z:Value}:bnd (QC z)=0:=(Zd (w:=default) (ok:=fun _ _=>True) (c:=Ctx.nil) z).pure_bnd rfl

theorem QbK {t:TypeId} {n:Nat} {frz keep:Bool} {parts:Array (Nat×Operand)} {e:Env} {a:Act} {v:HV} {H':Heap} (hR:Rel lo c w) (he:RelE w c lo e a.tmps)
  (h:YU P frz keep t n (parts.toList.map fun p=>(p.1,Qk e p.2)) c.H=some (v,H')) :
  StepOk P lo c w (Instr.buildSlice t n (parts.map fun (i,x)=>(i,a.eval x))) v H':=by
 unfold YU at h
 split at h
 rotate_left
 ·cases h
 rename_i et hu
 split at h
 rotate_left
 ·cases h
 rename_i i hi
 split at h
 rotate_left
 ·cases h
 rename_i z hz
 obtain ⟨pl,ph⟩:=U0 (parts:=parts) he
 have hrp:(parts.map fun (i,x)=>(i,a.eval x)).toList=parts.toList.map fun p=>(p.1,a.eval p.2):=by
  rw [jI]
 rw [hrp] at pl ph
 have hseal:∀vs H1,(if frz=true then YS ((parts.toList.map fun p=>(p.1,Qk e p.2)).map (·.2)) c.H else some ((parts.toList.map fun p=>(p.1,Qk e p.2)).map (·.2),c.H))=some (vs,H1) →
   ∃c',c'.H=H1∧Rel lo c' w∧Evo lo c w c' w∧vs.length=(parts.toList.map fun p=>a.eval p.2).length ∧
    ∀(i:Nat) (v:HV) (r:Value),vs[i]?=some v→(parts.toList.map fun p=>a.eval p.2)[i]?=some r→V w (Qg c' lo) c' v r:=by
  intro vs H1 hq
  have hV:∀(i:Nat) (v:HV) (r:Value),((parts.toList.map fun p=>(p.1,Qk e p.2)).map (·.2))[i]?=some v→(parts.toList.map fun p=>a.eval p.2)[i]?=some r→V w (Qg c lo) c v r:=by
   intro i v r h1 h2
   simp only [qL] at h1 h2
   cases hq:parts.toList[i]? with
   | none=>simp [hq] at h1
   | some x=>simp [hq] at h1 h2;subst h1;subst h2;exact Jg he x.2
  split at hq
  ·exact GI hR (by simp) hV hq
  ·cases hq
   exact ⟨c,rfl,hR,.refl _ _ _,by simp,hV⟩
 split at h
 ·cases h
 rename_i vs H1 hs
 obtain ⟨c1,rfl,hR1,hE1,hvl,hvV⟩:=hseal vs H1 hs
 split at h
 rotate_left
 ·cases h
 rename_i hq
 obtain ⟨q1,q2,q3,q4,q5,q6⟩:=hq
 have hzs:z.cells.size=i.size:=by rw [← q2];exact ((CellsV.of (w:=w) (ok:=Qg c1 lo) (c:=c1) (Zd z) q3).1).symm
 have hzr:=Y0 (w:=w) (ok:=Qg c1 lo) (c:=c1) (n:=n) hzs q3 q4
 obtain ⟨rs,e1,e2,e3,e4⟩:=SM (len:=n) (is:=(parts.toList.map fun p=>(p.1,Qk e p.2)).map (·.1)) (vs:=vs) (rp:=parts.toList.map fun p=>(p.1,a.eval p.2)) hzr (by simp) (by simp) (by simp) (by simp [hvl])
  (fun q i r h1 h2=>by
   simp only [qL] at h1 h2
   cases hq:parts.toList[q]? with
   | none=>simp [hq] at h1
   | some x =>
    simp [hq] at h1 h2;subst h1;subst h2
    refine ⟨rfl,?_⟩
    have:=List.all_eq_true.1 q6 (x.1,Qk e x.2) (List.mem_map.2 ⟨x,qB hq,rfl⟩)
    simpa using this)
  (fun q v r h1 h2=>by
   simp only [qL] at h2
   cases hq:parts.toList[q]? with
   | none=>simp [hq] at h2
   | some x =>
    simp [hq] at h2;subst h2
    have h5:=List.all_eq_true.1 q5 v (qB h1)
    simp only [qQ,beq_iff_eq] at h5
    exact ⟨hvV q v _ h1 (by simp [hq]),h5.1,h5.2⟩)
 have helE:Xe i.size (bndL vs) ((((parts.toList.map fun p=>(p.1,Qk e p.2)).map (·.1)).zip vs).foldl (fun (l:List HV) (p:Nat×HV)=>l.set p.1 p.2) (qV n (QC z))):=by
  intro u hu
  refine VE (p:=fun v=>(cellsOf v).length=i.size∧(cellsOf v).all Ql=true∧bnd v≤bndL vs) ?_ ?_ u hu
  ·intro v hv
   rw [(List.mem_replicate.1 hv).2]
   exact ⟨q2,q3,by rw [KT];omega⟩
  ·intro q hq
   have hq2:=(List.of_mem_zip hq).2
   have h5:=List.all_eq_true.1 q5 q.2 hq2
   simp only [qQ,beq_iff_eq] at h5
   exact ⟨h5.1,h5.2,Wt hq2⟩
 obtain ⟨r1,r2⟩:=ZV (wr:=true) (T:=et) (rs:=rs) hR1 (WChg.refl w none) rfl helE e2
 have hrun:(Instr.buildSlice t n (parts.map fun (i,x)=>(i,a.eval x))).run P w=.ok (.slice (some ⟨w.heap.size,0,none⟩) n n) (w.alloc (.cells rs et)):=by
  have hnz:¬(16777216<n*i.size):=by have:(2:Nat) ^ 24=16777216:=rfl;omega
  simp only [Instr.buildSlice,Sem.run_bind,Qr hu,Result.andThen_ok]
  simp only [sizeOf,Sem.run_bind,QbC hi,Result.andThen_ok,Sem.run_pure]
  by_cases hn0:n*i.size=0
  ·have hn:n=0:=by rcases Nat.mul_eq_zero.1 hn0 with h | h;exact h;exact absurd h q4
   subst hn
   have hp0:parts.toList=[]:=by
    cases hp:parts.toList with
    | nil=>rfl
    | cons x l=>rw [hp] at q6;simp at q6
   have hp1:parts = #[]:=by
    apply Array.ext'
    simpa using hp0
   subst hp1
   simp [Instr.fill] at e1
   subst e1
   have h0:∀f:Nat→Value,(Array.range 0).map f = #[]:=fun f=>by apply Array.ext';simp
   simp [Instr.fill,newRow,h0]
  ·simp only [hn0,if_false,Sem.run_bind,Js hi hz,Result.andThen_ok,Sem.run_pure,Sem.run_ite]
   have:¬(n*i.size>2 ^ 24):=by omega
   simp only [this,if_false,Result.andThen_ok,hrp,Sem.run_pure]
   rw [e1]
   simp [newRow]
 have hkeep:(keep||bndL vs != 0)=true→StepOk P lo c w (Instr.buildSlice t n (parts.map fun (i,x)=>(i,a.eval x))) (.sl c1.H.length 0 n (some n) n i.size)
   (c1.H++[.arr i.size ((((parts.toList.map fun p=>(p.1,Qk e p.2)).map (·.1)).zip vs).foldl (fun (l:List HV) (p:Nat×HV)=>l.set p.1 p.2) (qV n (QC z))) true (bndL vs)]):=by
  intro _
  refine ⟨_,_,_,hrun,rfl,r1,?_,hE1.trans r2⟩
  refine .sl _ _ _ _ _ _ _ _ ⟨qD _,by simp,by simp,_,push_new.1,by omega,fun _=>⟨rfl,?_⟩⟩
  rw [push_new.2]
  exact ⟨fun _=>by simp,_,et,(0,0),QG w _,by simp [e3]⟩
 split at h
 ·rename_i hk
  cases h
  exact hkeep hk
 ·rename_i hk
  cases h
  have hk':bndL vs=0:=by
   cases hb:bndL vs with
   | zero=>rfl
   | succ m=>rw [hb] at hk;simp at hk
  obtain ⟨w1,w2⟩:=Xd hR1 (WChg.alloc w (.cells rs et) none)
  refine ⟨c1,_,_,hrun,rfl,w1,?_,hE1.trans w2⟩
  have hsh:Shows (w.alloc (.cells rs et)) c1 lo i.size ((((parts.toList.map fun p=>(p.1,Qk e p.2)).map (·.1)).zip vs).foldl (fun (l:List HV) (p:Nat×HV)=>l.set p.1 p.2) (qV n (QC z)))
    (some ⟨w.heap.size,0,none⟩) rs.toList:=by
   refine .mk' (e2.evo w2.W w2.C) (by rw [e4];simpa using e3) (fun _=>⟨_,rfl,fun j u hu=>?_⟩) (fun v hv=>(helE v hv).2.1)
   exact KP (QG w _) (by simpa using hu)
  have:=KS (g:=.lit) (cap:=n) hsh (by rw [e4];omega) (fun _=>e4.symm) (fun _=>⟨_,_,rfl,by simp,fun hM=>?_,fun _=>hR1.low⟩) (fun v hv=>by have:=(helE v hv).2.2;omega) c1
  ·rw [e4] at this;exact this
  ·obtain ⟨q,y,g1,g2,g3⟩:=M_iff.1 hM
   have:=(hR1.dom q _ g3).2
   omega

theorem QaS {t:TypeId} {v:HV} {z:HV} (hR:Rel lo c w) (hz:VN P t=some z) (hc:(cellsOf z).all Ql=true) :
  StepOk P lo c w (Instr.alloc t true (.tuple #[])) (Wm z c.H).1 (Wm z c.H).2:=by
 unfold VN at hz
 cases hi:P.info? t with
 | none=>simp [hi] at hz
 | some i =>
  cases hz':i.zero with
  | none=>simp [hi,hz'] at hz
  | some zv =>
   simp [hi,hz'] at hz
   subst hz
   obtain ⟨c',w',r,h1,h2⟩:=GC (P:=P) (t:=t) hR (Zd (w:=w) (ok:=Qg c lo) (c:=c) zv) hc
   refine ⟨c',w',r,?_,h2⟩
   rw [← h1]
   simp [Instr.alloc,Js hi hz',Instr.box]

theorem Y2 {t et:TypeId} {k:Nat} {i:TypeInfo} (hR:Rel lo c w) (hi:P.info? t=some i) (hz:Vf i=true) :
  StepOk P lo c w (Instr.alloc t true (.tuple #[])) (.ptr c.H.length 0 0 1) (c.H++[.arr 1 [.sl (c.H.length+1) 0 0 none 0 k] true (c.H.length+2),.arr k [] true 0]):=by
 have hz':i.zero=some (.slice none 0 0):=by
  unfold Vf at hz
  split at hz
  ·assumption
  ·cases hz
 have hrun:(Instr.alloc t true (.tuple #[])).run P w=.ok (.pointer (some ⟨w.heap.size,0,none⟩)) (w.alloc (.cells #[.slice none 0 0] t)):=by
  simp [Instr.alloc,Js hi hz',newVar,newRow,Value.cells]
 obtain ⟨r1,r2⟩:=ZV (k:=1) (mx:=0) (els:=[.imm .lit k []]) (wr:=true) (T:=t) (rs:=#[.slice none 0 0]) hR (WChg.refl w none) rfl
  (by intro u hu;simp at hu;subst hu;simp [cellsOf,Ql,bnd]) (RowOk.one (v:=.imm .lit k []) (JU k none) (by simp [cellsOf,Ql]))
 obtain ⟨s1,s2⟩:=Kk (k:=k) r1
 have hlen:(c.push (.arr 1 [.imm .lit k []] true 0) (some w.heap.size)).H.length=c.H.length+1:=by simp [Ctx.push]
 have hb0:((c.push (.arr 1 [.imm .lit k []] true 0) (some w.heap.size)).push (.arr k [] true 0) none).H[c.H.length]?=some (.arr 1 [.imm .lit k []] true 0):=by
  rw [(WR (by rw [hlen];omega)).1];exact push_new.1
 have hσ0:((c.push (.arr 1 [.imm .lit k []] true 0) (some w.heap.size)).push (.arr k [] true 0) none).σ c.H.length=some w.heap.size:=by
  rw [(WR (by rw [hlen];omega)).2];exact push_new.2
 have hnil:=DH (w:=w.alloc (.cells #[.slice none 0 0] t)) (c:=c.push (.arr 1 [.imm .lit k []] true 0) (some w.heap.size)) (lo:=lo) (k:=k) (a:=none)
 rw [hlen] at hnil
 obtain ⟨t1,t2⟩:=KO (w':=w.alloc (.cells #[.slice none 0 0] t)) (x':=.arr 1 [.sl (c.H.length+1) 0 0 none 0 k] true (c.H.length+2)) (s:=some w.heap.size) s1 hb0 (WChg.refl _ none) (fun r hr=>by cases hr) (fun _=>rfl)
  (.inl hσ0.symm) ⟨by simp,fun _=>⟨rfl,hσ0.symm⟩⟩ (fun hE=>by
   refine ZU (r:=w.heap.size) (T:=t) (rs:=#[.slice none 0 0]) (Qy (QE hb0)).2 hR.low (QG w _) (by intro u hu;simp at hu;subst hu;simp [cellsOf,Ql,bnd]) ?_
   exact RowOk.one (hE.val hnil) (by simp [cellsOf,Ql]))
 refine ⟨_,_,_,hrun,?_,t1,?_,r2.trans (s2.trans t2)⟩
 ·simp [Ctx.upd,Ctx.push,List.set_append]
 ·exact .ptr _ _ _ _ _ ⟨_,(Qy (QE hb0)).1,by simp,fun _=>⟨_,(Qy (QE hb0)).2,by simp⟩⟩

end
end Go.HL


