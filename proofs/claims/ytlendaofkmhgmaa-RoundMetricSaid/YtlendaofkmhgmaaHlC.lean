/- The ghost's operations are the model's: appends, maps, calls, regions in order. -/
import Derived.Test.YtlendaofkmhgmaaHlB
import Derived.Laws.MakeOwn
import Derived.Laws.StructEq
set_option linter.unusedVariables false
set_option linter.unusedSimpArgs false
set_option linter.unnecessarySimpa false
/- make, clear, copy. -/
open Bool renaming and_eq_true → qA, false_eq_true → qD, not_true → qY, or_self → jG
open Array renaming getElem?_eq_getElem → qB, getElem?_toList → qC, length_toList → qK, range → qQ, toList_modify → jH, toList_push → jI, getElem?_setIfInBounds_ne → jQ, getElem?_modify → jU, getElem?_push_lt → jV, getD_eq_getD_getElem? → jW
open List renaming mem_of_mem_take → qE, replicate → qF, getElem?_append_left → qG, getElem?_append_right → qH, getElem?_eq_getElem → qI, mem_of_getElem? → qL, getElem?_map → qM, foldl_cons → qO, range' → qS, mem_of_mem_drop → qT, drop_drop → qU, getElem?_range → qV, take_append_drop → qW, forIn_cons → qX, length_drop → qZ, map_cons → jA, all_cons → jE, mem_or_eq_of_mem_set → jJ, getElem?_cons_succ → jN, getElem?_zip_eq_some → jP
open Nat renaming add_zero → qJ, add_mul → qN, le_refl → qP, mul_le_mul_right → qR
namespace Go.HL
section
variable {w:World} {c:Ctx} {rv rx:Value} {P:Program} {lo:Nat} {ok:Bool→Nat→Prop}

theorem GJ:∀(m:Nat) {c:Ctx} {k:Nat},Rel lo c w→∃c',Rel lo c' w∧Evo lo c w c' w∧c'.H=c.H++qF m (.arr k [] true 0) ∧
  (∀b,b<c.H.length→c'.σ b=c.σ b)∧∀j,j<m→c'.σ (c.H.length+j)=none
 | 0,c,k,h=>⟨c,h,.refl _ _ _,by simp,fun _ _=>rfl,fun _ h=>by omega⟩
 | m+1,c,k,h=>by
  obtain ⟨h1,h2⟩:=Kk (k:=k) h
  obtain ⟨c',g1,g2,g3,g4,g5⟩:=GJ m (k:=k) h1
  have hl:(c.push (.arr k [] true 0) none).H.length=c.H.length+1:=by simp [Ctx.push]
  refine ⟨c',g1,h2.trans g2,?_,fun b hb=>?_,fun j hj=>?_⟩
  ·rw [g3,List.replicate_succ];simp [Ctx.push]
  ·rw [g4 b (by omega)];exact (WR hb).2
  ·cases j with
   | zero=>rw [qJ,g4 _ (by omega)];exact push_new.2
   | succ j=>have:=g5 j (by omega);rw [hl] at this;rw [← this];congr 1;omega

theorem QaT {t:TypeId} {rows:Bool} {l cp v:HV} {rl rc:Value} {H':Heap} (hR:Rel lo c w) (hl:V w (Qg c lo) c l rl) (hc:V w (Qg c lo) c cp rc)
    (h:VB P rows t l cp c.H=some (v,H')):StepOk P lo c w (Instr.makeSlice t rl rc) v H':=by
  unfold VB at h
  split at h
  rotate_left
  · cases h
  rename_i e kl n kc m hu
  have:=hl.int_inv;subst this
  have:=hc.int_inv;subst this
  split at h
  rotate_left
  · cases h
  rename_i i hi
  split at h
  rotate_left
  · cases h
  rename_i hq
  obtain ⟨q1,q2,q3⟩:=hq
  have hroom:(Q0:Int)=70368744177664:=rfl
  rw [hroom,Int.add_mul,Int.one_mul] at q3
  have hbm:0≤(i.bytes:Int)*m:=Int.mul_nonneg (by omega) (by omega)
  have hrun:∀z,i.zero=some z→(Instr.makeSlice t (.int kl n) (.int kc m)).run P w=.ok (.slice (some ⟨w.heap.size,0,none⟩) n.toNat m.toNat) (w.alloc (.cells (madeCells z.cells (m.toNat*i.size)) e)) :=
    fun z hz=>run_make w t e i z hu hi hz kl kc n m q1 q2 (by omega) (by omega)
  have plain:(match i.zero with
        | some z=>if (cellsOf (QC z)).all Ql∧(cellsOf (QC z)).length=i.size∧i.size≠0 then
            some (HV.sl c.H.length 0 n.toNat (some m.toNat) m.toNat i.size,c.H++[Blk.arr i.size (qF m.toNat (QC z)) true 0]) else none
        | none=>none)=some (v,H')→StepOk P lo c w (Instr.makeSlice t (.int kl n) (.int kc m)) v H':=by
    intro h
    split at h
    rotate_left
    · cases h
    rename_i z hz
    split at h
    rotate_left
    · cases h
    rename_i hq
    obtain ⟨g1,g2,g3⟩:=hq
    cases h
    have hzs:z.cells.size=i.size:=by rw [← g2];exact ((CellsV.of (w:=w) (ok:=Qg c lo) (c:=c) (Zd z) g1).1).symm
    obtain ⟨r1,r2⟩:=ZV (wr:=true) (mx:=0) (T:=e) (rs:=madeCells z.cells (m.toNat*i.size)) hR (WChg.refl w none) rfl
      (fun u hu=>by rw [(List.mem_replicate.1 hu).2];exact ⟨g2,g1,by rw [KT];omega⟩) (Y0 (n:=m.toNat) hzs g1 g3)
    refine ⟨_,_,_,hrun z hz,rfl,r1,.sl _ _ _ _ _ _ _ _ ⟨by omega,by simp,by simp,_,push_new.1,by simp,fun _=>⟨rfl,?_⟩⟩,r2⟩
    rw [push_new.2]
    exact ⟨fun _=>by simp,_,e,(0,0),QG w _,by simp [madeCells]⟩
  split at h
  · rename_i e' hue
    split at h
    rotate_left
    · cases h
    rename_i k' hk'
    split at h
    rotate_left
    · cases h
    rename_i hq
    obtain ⟨g1,g2⟩:=hq
    cases h
    have hz:i.zero=some (.slice none 0 0):=by
      unfold Vf at g2
      split at g2
      · assumption
      · cases g2
    have hzr:RowOk w (Qg c lo) c 1 (qF m.toNat (.imm .lit k' [])) (madeCells (Value.slice none 0 0).cells (m.toNat*i.size)).toList:=by
      rw [g1,Nat.mul_one]
      refine ⟨by simp [madeCells],fun v hv=>by rw [(List.mem_replicate.1 hv).2];rfl,fun q v j x hv hx=>?_⟩
      have hq:q<m.toNat:=by have:=Qd hv;rwa [List.length_replicate] at this
      have:=(List.mem_replicate.1 (qL hv)).2
      subst this
      cases j with
      | succ j=>simp [cellsOf] at hx
      | zero =>
        simp [cellsOf] at hx;subst hx
        refine ⟨.slice none 0 0,?_,JU k' none⟩
        simp [madeCells,Value.cells,Nat.mod_one,qV hq]
    obtain ⟨r1,r2⟩:=ZV (wr:=true) (mx:=0) (T:=e) (rs:=madeCells (Value.slice none 0 0).cells (m.toNat*i.size)) hR (WChg.refl w none) rfl
      (fun u hu=>by rw [(List.mem_replicate.1 hu).2];simp [cellsOf,Ql,bnd]) hzr
    have hlen:(c.push (.arr 1 (qF m.toNat (.imm .lit k' [])) true 0) (some w.heap.size)).H.length=c.H.length+1:=by simp [Ctx.push]
    obtain ⟨c2,s1,s2,s3,s4,s5⟩:=GJ m.toNat (k:=k') r1
    have hb0:c2.H[c.H.length]?=some (.arr 1 (qF m.toNat (.imm .lit k' [])) true 0):=by
      rw [s3,qG (by rw [hlen];omega)];exact push_new.1
    have hσ0:c2.σ c.H.length=some w.heap.size:=by rw [s4 _ (by rw [hlen];omega)];exact push_new.2
    obtain ⟨t1,t2⟩:=KO (w':=w.alloc (.cells (madeCells (Value.slice none 0 0).cells (m.toNat*i.size)) e)) (x':=.arr 1 ((List.range m.toNat).map fun j=>.sl (c.H.length+1+j) 0 0 none 0 k') true (c.H.length+1+m.toNat)) (s:=some w.heap.size)
      s1 hb0 (WChg.refl _ none) (fun r hr=>by cases hr) (fun _=>rfl) (.inl hσ0.symm) ⟨by simp,fun _=>⟨rfl,hσ0.symm⟩⟩ (fun hE=>by
        refine ZU (r:=w.heap.size) (T:=e) (Qy (QE hb0)).2 hR.low (QG w _) (fun u hu=>?_) ?_
        · obtain ⟨j,hj,rfl⟩:=List.mem_map.1 hu
          have:=List.mem_range.1 hj
          refine ⟨rfl,rfl,?_⟩
          simp only [bnd];omega
        · refine ⟨by simp [madeCells,g1],fun v hv=>by obtain ⟨j,_,rfl⟩:=List.mem_map.1 hv;rfl,fun q v j x hv hx=>?_⟩
          have hq:q<m.toNat:=by have:=Qd hv;rwa [List.length_map,List.length_range] at this
          rw [qM,qV hq] at hv
          cases hv
          cases j with
          | succ j=>simp [cellsOf] at hx
          | zero =>
            simp [cellsOf] at hx;subst hx
            refine ⟨.slice none 0 0,by simp [madeCells,Value.cells,Nat.mod_one,qV hq,g1],?_⟩
            refine hE.val (.sl _ _ _ _ _ _ _ _ ⟨qP _,by simp,by simp,.arr k' [] true 0,?_,by simp,fun _=>⟨rfl,?_⟩⟩)
            · rw [s3,qH (by rw [hlen];omega),hlen,List.getElem?_replicate,if_pos (by omega)]
            · have:=s5 q hq
              rw [hlen] at this
              rw [this]
              exact ⟨rfl,rfl⟩)
    refine ⟨_,_,_,hrun _ hz,?_,t1,.sl _ _ _ _ _ _ _ _ ⟨by omega,by simp,by simp,_,(Qy (QE hb0)).1,by simp,fun _=>⟨rfl,?_⟩⟩,r2.trans (s2.trans t2)⟩
    · simp only [Ctx.upd,s3,Ctx.push]
      rw [List.append_assoc,List.set_append_right _ _ (by omega)]
      simp
    · rw [(Qy (QE hb0)).2]
      exact ⟨fun _=>by simp,_,e,(0,0),QG w _,by simp [madeCells,g1]⟩
  · exact plain h

theorem C1 {t:TypeId} {tys:Array TypeId} {ty:TypeId} {args:Array Value} {x v:HV} {H':Heap} (hR:Rel lo c w) (hx:V w (Qg c lo) c x rv) (ht:tys[0]?=some t) (ha:args[0]?=some rv)
  (h:CV P c.H t x=some (v,H')):StepOk P lo c w (Builtin.clear_ tys ty args) v H':=by
 unfold CV at h
 split at h
 rotate_left
 ·cases h
 rename_i e b off len cap tot k hu
 cases hx with
 | sl b off len cap tot k a cap' hsl =>
  split at h
  ·rename_i h0
   cases h
   subst h0
   exact .pure hR (rv:=.tuple #[]) (by cases a <;> simp [Builtin.clear_,ht,ha,Qr hu]) (.tuple [] #[] rfl (by simp))
  rename_i h0
  split at h
  rotate_left
  ·cases h
  rename_i i k' els mx hi hb
  split at h
  rotate_left
  ·cases h
  rename_i z hz
  split at h
  rotate_left
  ·cases h
  rename_i hq
  obtain ⟨q1,q2,q3,q4,q5,q6,q7⟩:=hq
  subst q1
  cases h
  obtain ⟨h1,h2,h3,blk,hb',h4⟩:=hsl
  rw [hb] at hb';cases hb'
  obtain ⟨_,h5⟩:=h4.2 q3
  obtain ⟨he,hrow⟩:=WZ hR hb
  rcases hrow with ⟨hs,rfl⟩ | ⟨r,cs,T,hs,hlo,hw,hrow⟩
  ·simp at q4;omega
  rw [hs] at h5
  have ha':=h5.1 (by omega)
  subst ha'
  have hzs:z.cells.size=k':=by rw [← q5];exact ((CellsV.of (w:=w) (ok:=Qg c lo) (c:=c) (Zd z) q6).1).symm
  have hzr:=Y0 (w:=w) (ok:=Qg c lo) (c:=c) (n:=len) hzs q6 q7
  have hzc:(Builtin.zeroCells z.cells len)=(qQ (len*k')).map (z.cells[· % z.cells.size]!):=by simp [Builtin.zeroCells,hzs]
  have hzl:((qQ (len*k')).map (z.cells[· % z.cells.size]!)).toList.length=(qF len (QC z)).length*k':=by simp
  have hspl:=hrow.splice (p:=off) hzr hzl (by simpa using q4)
  have hm:=qR k' q4
  rw [qN] at hm
  have h0r:=hrow.1
  have hfit:off*k'+((qQ (len*k')).map (z.cells[· % z.cells.size]!)).toList.length≤cs.toList.length:=by simp at h0r ⊢;omega
  obtain ⟨r1,r2⟩:=ZW (els':=splice els off (qF len (QC z))) (mx':=mx) hR hb hs hw
   (fun u hu=>by
    rcases Zw hu with hu | hu
    ·exact he u hu
    ·rw [(List.mem_replicate.1 hu).2];exact ⟨q5,q6,by rw [KT];omega⟩)
   hspl (by rw [Wf hfit];simp) (by rw [Wg (by simpa using q4)];exact qP _)
  refine ⟨_,_,.tuple #[],?_,rfl,r1,.tuple [] #[] rfl (by simp),r2⟩
  have hst:=run_storeCells_at P r (off*k') T ((qQ (len*k')).map (z.cells[· % z.cells.size]!)).toList 0 cs w hw (by simpa using hfit)
   (YZ hzr hzl (fun v hv=>by rw [(List.mem_replicate.1 hv).2];exact q6))
  simp only [qJ] at hst
  have hne:∀(l:Nat),len=l+1→(Builtin.clear_ tys ty args).run P w=_:=fun l hl=>by
   simp only [Builtin.clear_,ht,ha,Sem.run_bind,Qr hu,Result.andThen_ok,hl,Js hi hz]
   rw [← hl,hzc,hst]
  exact hne (len-1) (by omega)

theorem QaU {e:TypeId} {t:TypeId} {tys:Array TypeId} {ty:TypeId} {args:Array Value} {d s v:HV} {xs:List HV} {k:Nat} {H':Heap} (hR:Rel lo c w) (hd:V w (Qg c lo) c d rv) (hs:V w (Qg c lo) c s rx)
  (ht:tys[0]?=some t) (hu:P.underlying t=some (.slice e)) (hk:Qm P e=some k) (ha:args[0]?=some rv) (hb:args[1]?=some rx) (hsrc:Je c.H s=some (xs,k))
  (h:QbB c.H d s=some (v,H')):StepOk P lo c w (Builtin.copy_ tys ty args) v H':=by
 obtain ⟨ax,capx,news,rfl,hsh⟩:=DI hR hs hsrc
 have hfirst:∀len:Nat,Shows w c lo k (xs.take len) ax (news.take (min xs.length len*k)):=by
  intro len
  have hle:min xs.length len≤xs.length:=Nat.min_le_left _ _
  obtain ⟨t1,t2⟩:=hsh.row.take (min xs.length len) hle
  have htk:xs.take (min xs.length len)=xs.take len:=by
   rw [Nat.min_comm,← List.take_take,List.take_length]
  rw [htk] at t1 t2
  refine .mk' t1 t2 (fun hne=>?_) (fun v hv=>hsh.els v (qE hv))
  obtain ⟨ad,h1,h2⟩:=hsh.at_ (by rintro rfl;simp at hne)
  refine ⟨ad,h1,fun j u hu=>h2 j u ?_⟩
  rw [List.getElem?_take] at hu
  split at hu
  ·exact hu
  ·cases hu
 have htl:∀len:Nat,(xs.take len).length=min xs.length len:=fun len=>by rw [List.length_take,Nat.min_comm]
 have hrun:∀(a:Option Addr) (len cap':Nat),rv=.slice a len cap'→(Builtin.copy_ tys ty args).run P w =
   (match a with | some a=>(storeCells a (news.take (min xs.length len*k))).run P w | none=>.ok () w).andThen fun _ w'=>.ok (.int .i64 (min xs.length len:Nat)) w':=by
  rintro a len cap' rfl
  have hf:=ZJ (P:=P) (w:=w) (size:=k) (n:=min xs.length len) (cap:=capx) (a:=ax) (l:=news.take (min xs.length len*k)) (by rw [(hfirst len).len,htl])
   (fun hn=>(hfirst len).at_ (by rintro h0;have:=(hfirst len).len;rw [h0] at this;simp only [List.length_nil,Nat.zero_mul] at this;exact hn (List.length_eq_zero_iff.1 this))) xs.length
  have hmin:Nat.min xs.length len=min xs.length len:=rfl
  cases a <;> simp [Builtin.copy_,ht,ha,hb,Qr hu,Builtin.lenOf,hmin,Wj hk,hf,goInt]
 unfold QbB at h
 rw [hsrc] at h
 split at h
 ·rename_i xs' kk b i off len heq
  cases heq
  split at h
  rotate_left
  ·cases h
  rename_i hk1
  subst hk1
  split at h
  rotate_left
  ·cases h
  rename_i kk els mx hbb
  split at h
  rotate_left
  ·cases h
  rename_i cs hi
  split at h
  rotate_left
  ·cases h
  rename_i hq
  obtain ⟨q1,q2,q3,q4⟩:=hq
  cases h
  cases hd with
  | aview b i off len a cap' hav =>
   obtain ⟨h1,blk,hb',h4⟩:=hav
   rw [hbb] at hb';cases hb'
   obtain ⟨r,hσ,hadr⟩:=h4.2 q1
   obtain ⟨he,hrow⟩:=WZ hR hbb
   rcases hrow with ⟨hs',rfl⟩ | ⟨r',ws,T,hs',hlo,hw,hrow⟩
   ·simp at hi
   rw [hσ] at hs';cases hs'
   obtain ⟨hok,hoc,hob⟩:=he _ (qL hi)
   rw [JV] at hok hoc
   have hF:=hfirst len
   have hxc:∀v,v∈xs.take len→Ql v=true:=fun v hv=>List.all_eq_true.1 q4 v (qE hv)
   have hle:off+(xs.take len).length≤cs.length:=by rw [htl];omega
   have hvl:(xs.take len).length=(news.take (min xs.length len*1)).length:=by rw [hF.len];simp
   have hset:=hrow.setPart (new:=.agg (splice cs off (xs.take len))) (xs:=xs.take len) (vs:=news.take (min xs.length len*1)) hi rfl hvl
    (fun j x y hx hy=>by
     have hcv:=hxc x (qL hx)
     obtain ⟨z,g1,g2⟩:=hF.row.2.2 j x 0 x hx (by rw [Z3 hcv];rfl)
     simp only [Nat.mul_one,qJ] at g1 hy
     rw [hy] at g1
     cases g1;exact g2) hle
   have hil:=Qd hi
   have hm:(i+1)*kk≤els.length*kk:=qR kk hil
   rw [qN,Nat.one_mul] at hm
   have h0:=hrow.1
   have hfit:i*kk+off+(news.take (min xs.length len*1)).length≤ws.toList.length:=by omega
   obtain ⟨r1,r2⟩:=ZW (els':=els.set i (.agg (splice cs off (xs.take len)))) (mx':=mx) hR hbb hσ hw
    (fun u hu=>by
     rcases jJ hu with hu | rfl
     ·exact he u hu
     ·refine ⟨by rw [JV,Wg hle,hok],?_,?_⟩
      ·rw [JV]
       refine List.all_eq_true.2 fun x hx=>?_
       rcases Zw hx with hx | hx
       ·exact List.all_eq_true.1 hoc x hx
       ·exact hxc x hx
      ·have h1:=Yg (l:=cs) (x:=xs.take len) (p:=off)
       have h2:bndL (xs.take len)=0:=Ze fun v hv=>by have:=Wt (qE hv);omega
       simp only [bnd] at hob ⊢
       omega)
    hset (by rw [Wf hfit];simp) (by simp)
   by_cases hlen0:(min xs.length len)=0
   ·-- nothing is copied
    refine ⟨_,_,.int .i64 (min xs.length len:Nat),?_,rfl,r1,.int _ _,r2⟩
    rw [hrun a len cap' rfl]
    have hn:news.take (min xs.length len*1)=[]:=by rw [hlen0];simp
    rw [hn]
    have hself:w.setRow r (ws.toList.take (i*kk+off)++[]++ws.toList.drop (i*kk+off+([]:List Value).length)).toArray=w:=by
     simp only [List.append_nil,List.length_nil,qJ,qW]
     exact setRow_self w r ws T (0,0) hw
    rw [hself]
    cases a <;> simp [storeCells]
   ·have hadr:=hadr (by omega)
    subst hadr
    refine ⟨_,_,.int .i64 (min xs.length len:Nat),?_,rfl,r1,.int _ _,r2⟩
    rw [hrun _ len cap' rfl]
    have hst:=run_storeCells_at P r (i*kk+off) T (news.take (min xs.length len*1)) 0 ws w hw (by simpa using hfit) hF.one
    simp only [qJ] at hst
    simp only [hst,Result.andThen_ok]
 ·rename_i xs' kk b off len cap tot k' heq
  cases heq
  split at h
  rotate_left
  ·cases h
  rename_i hk1
  subst hk1
  split at h
  rotate_left
  ·cases h
  rename_i kk els mx hbb
  split at h
  rotate_left
  ·cases h
  rename_i hq
  obtain ⟨q1,q2,q3⟩:=hq
  subst q1
  cases h
  cases hd with
  | sl b off len cap tot k' a cap' hsl =>
   obtain ⟨h1,h2,h3,blk,hb',h4⟩:=hsl
   rw [hbb] at hb';cases hb'
   obtain ⟨_,h5⟩:=h4.2 q2
   obtain ⟨he,hrow⟩:=WZ hR hbb
   have hF:=hfirst len
   by_cases hlen0:(min xs.length len)=0
   ·have hn:xs.take len=[]:=by rw [← List.length_eq_zero_iff,htl];exact hlen0
    have hH:c.H.set b (.arr kk (splice els off (xs.take len)) true (max mx (bndL xs)))=c.H.set b (.arr kk els true (max mx (bndL xs))):=by
     rw [hn];simp [splice]
    obtain ⟨r1,r2⟩:=KO (w':=w) (x':=.arr kk els true (max mx (bndL xs))) (s:=c.σ b) hR hbb (WChg.refl w none) (fun r hr=>by cases hr) (fun _=>rfl) (.inl rfl) ⟨qP _,fun _=>⟨rfl,rfl⟩⟩
     (fun hE=>by
      have hB:=(hR.blk b _ hbb).evo hE (Qy (QE hbb)).2 (fun _ _=>rfl)
      exact ⟨fun v hv=>by have:=hB.1 v hv;exact ⟨this.1,this.2.1,by omega⟩,hB.2⟩)
    refine ⟨_,_,.int .i64 (min xs.length len:Nat),?_,by rw [hH];rfl,r1,.int _ _,r2⟩
    rw [hrun a len cap' rfl]
    have hn:news.take (min xs.length len*kk)=[]:=by rw [hlen0];simp
    rw [hn]
    cases a <;> simp [storeCells]
   ·rcases hrow with ⟨hs',rfl⟩ | ⟨r,ws,T,hs',hlo,hw,hrow⟩
    ·simp at q3;omega
    rw [hs'] at h5
    have hadr:=h5.1 (by omega)
    subst hadr
    have hle:off+(xs.take len).length≤els.length:=by rw [htl];omega
    have hspl:=hrow.splice (p:=off) hF.row hF.len hle
    have hm:=qR kk hle
    rw [qN,← hF.len] at hm
    have h0:=hrow.1
    have hfit:off*kk+(news.take (min xs.length len*kk)).length≤ws.toList.length:=by omega
    obtain ⟨r1,r2⟩:=ZW (els':=splice els off (xs.take len)) (mx':=max mx (bndL xs)) hR hbb hs' hw
     (fun u hu=>by
      rcases Zw hu with hu | hu
      ·have:=he u hu;exact ⟨this.1,this.2.1,by omega⟩
      ·have h9:=Wt (qE hu)
       exact ⟨hF.row.2.1 u hu,hF.els u hu,by omega⟩)
     hspl (by rw [Wf hfit];simp) (by rw [Wg hle];exact qP _)
    refine ⟨_,_,.int .i64 (min xs.length len:Nat),?_,rfl,r1,.int _ _,r2⟩
    rw [hrun _ len cap' rfl]
    have hst:=run_storeCells_at P r (off*kk) T (news.take (min xs.length len*kk)) 0 ws w hw (by simpa using hfit) hF.one
    simp only [qJ] at hst
    simp only [hst,Result.andThen_ok]
 ·cases h

end
end Go.HL


/- Equality of aggregates of numbers and bools; maps. -/
namespace Go.HL
section
variable {w:World} {c:Ctx} {rv rx:Value} {P:Program} {lo:Nat} {ok:Bool→Nat→Prop}

def VF:Value→Value→Option Bool
 | .int k a,.int k' b=>if k=k' then some (a==b) else none
 | .bool a,.bool b=>some (a==b)
 | _,_=>none

def rEq:List Value→List Value→Option Bool
 | [],[]=>some true
 | a::as,b::bs =>
  match VF a b,rEq as bs with
  | some x,some y=>some (x&&y)
  | _,_=>none
 | _,_=>none

theorem Qg8 {d:Ctx} {a b:HV} {ra rb:Value} {r:Bool} (ha:V w ok c a ra) (hb:V w ok d b rb) (h:Jf a b=some r):VF ra rb=some r:=by
 unfold Jf at h
 split at h
 ·have:=ha.int_inv;subst this;have:=hb.int_inv;subst this;exact h
 ·have:=ha.bool_inv;subst this;have:=hb.bool_inv;subst this;exact h
 ·cases h

theorem YG {d:Ctx}:∀{as bs:List HV} {ra rb:List Value} {r:Bool},as.length=ra.length→bs.length=rb.length →
  (∀(i:Nat) (v:HV) (x:Value),as[i]?=some v→ra[i]?=some x→V w ok c v x)→(∀(i:Nat) (v:HV) (x:Value),bs[i]?=some v→rb[i]?=some x→V w ok d v x) →
  Wn as bs=some r→rEq ra rb=some r
 | [],[],ra,rb,r,h1,h2,_,_,h=>by
  cases ra <;> cases rb <;> simp_all [Wn,rEq]
 | a::as,b::bs,ra,rb,r,h1,h2,ha,hb,h=>by
  cases ra with
  | nil=>simp at h1
  | cons x ra =>
   cases rb with
   | nil=>simp at h2
   | cons y rb =>
    simp only [Wn] at h
    split at h
    ·rename_i p q hp hq
     cases h
     have e1:=Qg8 (ha 0 a x rfl rfl) (hb 0 b y rfl rfl) hp
     have e2:=YG (by simpa using h1) (by simpa using h2) (fun i v x g1 g2=>ha (i+1) v x g1 g2) (fun i v x g1 g2=>hb (i+1) v x g1 g2) hq
     simp [rEq,e1,e2]
    ·cases h
 | [],b::bs,_,_,_,_,_,_,_,h=>by simp [Wn] at h
 | a::as,[],_,_,_,_,_,_,_,h=>by simp [Wn] at h

theorem Zx:∀{a b:List Value} {r:Bool},rEq a b=some r→a.length=b.length
 | [],[],_,_=>rfl
 | x::a,y::b,r,h=>by
  simp only [rEq] at h
  split at h
  ·rename_i hq;simp [Zx hq]
  ·cases h
 | [],_::_,_,h=>by simp [rEq] at h
 | _::_,[],_,h=>by simp [rEq] at h

theorem Y3:∀{a b a' b':List Value} {r:Bool},a.length=b.length→rEq (a++a') (b++b')=some r→∃x y,rEq a b=some x∧rEq a' b'=some y∧r=(x&&y)
 | [],[],a',b',r,_,h=>⟨true,r,rfl,h,by simp⟩
 | x::a,y::b,a',b',r,hl,h=>by
  simp only [List.cons_append,rEq] at h
  split at h
  ·rename_i p q hp hq
   cases h
   obtain ⟨u,v,h1,h2,h3⟩:=Y3 (by simpa using hl) hq
   exact ⟨p&&u,v,by simp [rEq,hp,h1],h2,by rw [h3,Bool.and_assoc]⟩
  ·cases h
 | [],_::_,_,_,_,hl,_=>by simp at hl
 | _::_,[],_,_,_,hl,_=>by simp at hl

theorem U1 {a b:List Value} {r:Bool} (h:rEq a b=some r) (n:Nat):∃x y,rEq (a.take n) (b.take n)=some x∧rEq (a.drop n) (b.drop n)=some y∧r=(x&&y):=by
 have hl:=Zx h
 refine Y3 (by simp [hl]) ?_
 rw [qW,qW];exact h

def mkV (P:Program) (t:TypeId) (l:List Value):Value:=if Qw P t then .agg l.toArray else l.getD 0 undef

theorem Vi {t:TypeId} {rs:Array Value} {off s:Nat} (hs:Qm P t=some s) (hu:(P.underlying t).isSome=true) (h1:Qw P t=false→s=1) (hle:off+s≤rs.size) :
  (part t rs off).run P w=.ok (mkV P t ((rs.toList.drop off).take s)) w:=by
 unfold mkV
 cases ha:Qw P t with
 | true =>
  simp only [part,Sem.run_bind,VO ha,Result.andThen_ok,if_true,Wj hs,Sem.run_pure]
  congr 2
  apply Array.ext'
  simp [Array.toList_extract,List.extract]
 | false =>
  obtain ⟨d,hd⟩:=Option.isSome_iff_exists.1 hu
  have:=h1 ha
  subst this
  have hlt:off<rs.size:=by omega
  simp [part,Kj hd ha,hlt,List.getD]

def Vj (d:Nat) (e:TypeId) (n:Nat) (xs ys:Array Value):List Nat→Sem Bool
 | []=>pure true
 | i::l=>do
  let a←part e xs (i*n)
  let b←part e ys (i*n)
  let r←Op.equalIn d e a b
  if (!r)=true then pure false else Vj d e n xs ys l

theorem Xf (d:Nat) {t e:TypeId} {len n:Nat} (xs ys:Array Value) (ht:P.underlying t=some (.array len e)) (hn:Qm P e=some n) :
  (Op.equalIn (d+1) t (.agg xs) (.agg ys)).run P w=(Vj d e n xs ys (qS 0 len)).run P w:=by
 simp only [Op.equalIn,Sem.run_bind,Qr ht,Result.andThen_ok,Wj hn]
 rw [Std.Legacy.Range.forIn_eq_forIn_range']
 have hr:Std.Legacy.Range.size [0:len]=len:=by simp [Std.Legacy.Range.size]
 simp only [hr]
 generalize qS 0 len=l
 induction l generalizing w with
 | nil=>simp [Vj]
 | cons i l ih =>
  simp only [qX,Vj,Sem.run_bind,Sem.run_ite]
  generalize (part e xs (i*n)).run P w=r1
  cases r1 with
  | ok a w1 =>
   simp only [Result.andThen_ok]
   generalize (part e ys (i*n)).run P w1=r2
   cases r2 with
   | ok b w2 =>
    simp only [Result.andThen_ok]
    generalize (Op.equalIn d e a b).run P w2=r3
    cases r3 with
    | ok r w3 =>
     cases r
     ·simp only [Result.andThen_ok,Bool.not_false,if_true,Sem.run_pure]
     ·simp only [Result.andThen_ok,qY,qD,if_false,Sem.run_pure]
      exact ih (w:=w3)
    | halt x w3=>simp [Result.andThen]
   | halt x w2=>simp [Result.andThen]
  | halt x w1=>simp [Result.andThen]

def KU (num:Bool):Value→Prop
 | .int _ _=>num=true
 | .bool _=>num=false
 | _=>False

theorem JW {num:Bool} {d:Nat} {t:TypeId} (h:Q7 P num d t=true):(P.underlying t).isSome=true∧(Qw P t=false→Qm P t=some 1):=by
 cases d with
 | zero=>simp [Q7] at h
 | succ d =>
  unfold Q7 at h
  split at h
  ·rename_i hu;simp at h;simp [hu,Qw,h.2]
  ·rename_i hu;simp at h;simp [hu,Qw,h.2]
  ·rename_i hu;simp [hu,Qw]
  ·rename_i hu;simp [hu,Qw]
  ·cases h

def DL (P:Program) (num:Bool) (d:Nat):Prop :=
 ∀(t:TypeId),Q7 P num d t=true→∀(s:Nat),Qm P t=some s→∀(D:Nat),d≤D→∀(ra rb:List Value) (r:Bool) (w:World),
  ra.length=s→(∀x,x∈ra→KU num x)→rEq ra rb=some r→(Op.equalIn D t (mkV P t ra) (mkV P t rb)).run P w=.ok r w

theorem Yi {num:Bool} {d D:Nat} (IH:DL P num d) (hD:d≤D) {e:TypeId} {n:Nat} (hp:Q7 P num d e=true) (hn:Qm P e=some n) {ra rb:List Value} (hk:∀x,x∈ra→KU num x) :
  ∀(m i:Nat) (r:Bool),(ra.drop (i*n)).length=m*n→rEq (ra.drop (i*n)) (rb.drop (i*n))=some r→(Vj D e n ra.toArray rb.toArray (qS i m)).run P w=.ok r w
 | 0,i,r,hl,h=>by
  have:ra.drop (i*n)=[]:=List.length_eq_zero_iff.1 (by simpa using hl)
  rw [this] at h
  have h2:=Zx h
  have:rb.drop (i*n)=[]:=List.length_eq_zero_iff.1 (by simpa using h2.symm)
  rw [this] at h
  cases h
  rfl
 | m+1,i,r,hl,h=>by
  have hlb:=Zx h
  obtain ⟨x,y,h1,h2,h3⟩:=U1 h n
  obtain ⟨hu,h1'⟩:=JW hp
  have hs1:Qw P e=false→n=1:=fun ha=>by have:=h1' ha;rw [hn] at this;simpa using this
  rw [qN,Nat.one_mul] at hl
  rw [qZ] at hl hlb
  rw [qZ] at hlb
  have hla:i*n+n≤ra.length∧i*n+n≤rb.length:=by
   rcases Nat.eq_zero_or_pos n with h0 | h0
   ·subst h0;simp
   ·omega
  obtain ⟨hla,hlb'⟩:=hla
  rw [List.range'_succ]
  simp only [Vj,Sem.run_bind,Vi (P:=P) (w:=w) (rs:=ra.toArray) hn hu hs1 (by simpa using hla),Vi (P:=P) (w:=w) (rs:=rb.toArray) hn hu hs1 (by simpa using hlb'),Result.andThen_ok]
  rw [IH e hp n hn D hD _ _ x w (by simp;omega) (fun z hz=>hk z (qT (qE hz))) h1]
  simp only [Result.andThen_ok,Sem.run_ite]
  cases x with
  | false=>rw [h3];rfl
  | true =>
   simp only [qY,qD,if_false]
   rw [qU,qU,← Nat.succ_mul] at h2
   rw [Yi IH hD hp hn hk m (i+1) y (by rw [Nat.succ_mul,qZ];omega) h2,h3]
   rfl

theorem Zf:∀(fs:List Field),fs.foldl (KF P) none=none
 | []=>rfl
 | f::fs=>by simp only [qO];exact Zf fs

theorem Xg {num:Bool} {d D:Nat} (IH:DL P num d) (hD:d≤D) {ra rb:List Value} (hk:∀x,x∈ra→KU num x) (hlen:ra.length=rb.length) :
    ∀ (fs : List Field) (a : Nat) (r : Bool), (∀ f, f ∈ fs → f.name ≠ "_" ∧ Q7 P num d f.type = true) → fs.foldl (KF P) (some a) = some ra.length → rEq (ra.drop a) (rb.drop a) = some r →
      (Op.eqFields D ra.toArray rb.toArray fs).run P w=.ok r w
  | [],a,r,_,hf,h=>by
    simp at hf
    subst hf
    rw [List.drop_length,hlen,List.drop_length] at h
    cases h
    rfl
  | f::fs,a,r,hall,hf,h=>by
    obtain ⟨hname,hp⟩:=hall f (by simp)
    simp only [qO] at hf
    cases hn:Qm P f.type with
    | none=>simp [KF,hn,Zf] at hf
    | some n =>
      by_cases ho:f.offset=a
      · simp only [KF,hn,ho,beq_self_eq_true,if_true] at hf
        obtain ⟨hu,h1'⟩:=JW hp
        have hs1:Qw P f.type=false→n=1:=fun ha=>by have:=h1' ha;rw [hn] at this;simpa using this
        have hge:∀(fs:List Field) (b e:Nat),fs.foldl (KF P) (some b)=some e→b≤e:=by
          intro fs
          induction fs with
          | nil=>intro b e h;simp at h;omega
          | cons g fs ih =>
            intro b e h
            simp only [qO] at h
            cases hg:Qm P g.type with
            | none=>simp [KF,hg,Zf] at h
            | some q =>
              by_cases hgo:g.offset=b
              · simp only [KF,hg,hgo,beq_self_eq_true,if_true] at h
                have:=ih _ _ h;omega
              · have:(g.offset==b)=false:=by simpa using hgo
                simp [KF,hg,this,Zf] at h
        have hle:=hge fs _ _ hf
        obtain ⟨x,y,h1,h2,h3⟩:=U1 h n
        simp only [Op.eqFields,hname,ne_eq,not_false_eq_true,if_true,Sem.run_bind,ho,Vi (P:=P) (w:=w) (rs:=ra.toArray) hn hu hs1 (by simpa using hle),Vi (P:=P) (w:=w) (rs:=rb.toArray) hn hu hs1 (by simpa [← hlen] using hle),Result.andThen_ok]
        rw [IH f.type hp n hn D hD _ _ x w (by simp;omega) (fun z hz=>hk z (qT (qE hz))) h1]
        simp only [Result.andThen_ok,Sem.run_ite]
        cases x with
        | false=>rw [h3];rfl
        | true =>
          simp only [qY,qD,if_false]
          rw [qU,qU] at h2
          rw [Xg IH hD hk hlen fs (a+n) y (fun g hg=>hall g (by simp [hg])) hf h2,h3]
          rfl
      · have:(f.offset==a)=false:=by simpa using ho
        simp [KF,hn,this,Zf] at hf

theorem JK (num:Bool):∀d,DL P num d
 | 0=>fun t h=>by simp [Q7] at h
 | d+1=>by
  intro t h s hs D hD ra rb r w hl hk hr
  have IH:=JK num d
  obtain ⟨D,rfl⟩:∃D',D=D'+1:=⟨D-1,by omega⟩
  have hD':d≤D:=by omega
  unfold Q7 at h
  split at h
  ·rename_i hu
   simp at h
   rw [hs] at h
   have hs1:s=1:=by simpa using h.2
   subst hs1
   have hta:Qw P t=false:=by simp [Qw,hu]
   match ra,rb,hl,hr with
   | [x],[y],_,hr =>
    have hx:=hk x (by simp)
    simp only [mkV,hta,qD,if_false,List.getD_cons_zero]
    cases x with
    | bool a =>
     cases y with
     | bool b =>
      simp [rEq,VF] at hr
      rw [← hr];exact JT D hu
     | _=>simp [rEq,VF] at hr
    | int k n=>simp [KU,h.1] at hx
    | _=>simp [KU] at hx
   | [x],[],_,hr=>simp [rEq] at hr
   | [x],_::_::_,_,hr=>have:=Zx hr;simp at this
  ·rename_i q hu
   simp at h
   rw [hs] at h
   have hs1:s=1:=by simpa using h.2
   subst hs1
   have hta:Qw P t=false:=by simp [Qw,hu]
   match ra,rb,hl,hr with
   | [x],[y],_,hr =>
    have hx:=hk x (by simp)
    simp only [mkV,hta,qD,if_false,List.getD_cons_zero]
    cases x with
    | int k a =>
     cases y with
     | int k' b =>
      by_cases hkk:k=k'
      ·subst hkk
       simp [rEq,VF] at hr
       rw [← hr];exact HL.run_equalIn_int D hu
      ·simp [rEq,VF,hkk] at hr
     | _=>simp [rEq,VF] at hr
    | bool n=>simp [KU,h.1] at hx
    | _=>simp [KU] at hx
   | [x],[],_,hr=>simp [rEq] at hr
   | [x],_::_::_,_,hr=>have:=Zx hr;simp at this
  ·rename_i n e hu
   simp only [qA] at h
   obtain ⟨h1,h2⟩:=h
   split at h2
   rotate_left
   ·cases h2
   rename_i z hz
   simp [hs] at h2
   have hta:Qw P t=true:=by simp [Qw,hu]
   simp only [mkV,hta,if_true]
   rw [Xf D ra.toArray rb.toArray hu hz]
   exact Yi IH hD' h1 hz hk n 0 r (by simp;omega) (by simpa using hr)
  ·rename_i fs hu
   simp only [qA,beq_iff_eq] at h
   obtain ⟨⟨h1,h2⟩,h3⟩:=h
   have hta:Qw P t=true:=by simp [Qw,hu]
   simp only [mkV,hta,if_true]
   have hfo:P.fieldsOf t=fs:=by simp [Program.fieldsOf,hu]
   rw [run_equalIn_struct w D t ra.toArray rb.toArray (by rw [hfo];exact hu) (by simpa using h1),hfo]
   refine Xg IH hD' hk (Zx hr) fs.toList 0 r (fun f hf=>?_) ?_ (by simpa using hr)
   ·have:=List.all_eq_true.1 h2 f hf
    simpa using this
   ·rw [hs] at h3;rw [hl];exact h3
  ·cases h

end
end Go.HL


/- Equality of aggregates, in use: '==' and maps. -/
namespace Go.HL
section
variable {w:World} {c:Ctx} {rv rx:Value} {P:Program} {lo:Nat} {ok:Bool→Nat→Prop}

theorem GK {num:Bool} {l:List HV} {rl:List Value} (hl:l.length=rl.length) (hV:∀(i:Nat) (v:HV) (x:Value),l[i]?=some v→rl[i]?=some x→V w ok c v x)
  (h:(num=true∧l.all Q9=true)∨(num=false∧l.all QT=true)):∀x,x∈rl→KU num x:=by
 intro x hx
 obtain ⟨i,hi,rfl⟩:=List.mem_iff_getElem.1 hx
 have hv:=hV i l[i] rl[i] (qI (by omega)) (qI hi)
 rcases h with ⟨rfl,h⟩ | ⟨rfl,h⟩
 ·have:=List.all_eq_true.1 h l[i] (List.getElem_mem _)
  cases hq:l[i] <;> rw [hq] at this hv <;> simp [Q9] at this
  rw [hv.int_inv];rfl
 ·have:=List.all_eq_true.1 h l[i] (List.getElem_mem _)
  cases hq:l[i] <;> rw [hq] at this hv <;> simp [QT] at this
  rw [hv.bool_inv];rfl

theorem Zo {t:TypeId} {cs:List HV} (h:Kc P t cs=true):Qm P t=some cs.length∧∃num,Q7 P num 20 t=true∧((num=true∧cs.all Q9=true)∨(num=false∧cs.all QT=true)):=by
 unfold Kc at h
 simp only [qA,Bool.or_eq_true,beq_iff_eq] at h
 obtain ⟨h1,h2⟩:=h
 refine ⟨h1,?_⟩
 rcases h2 with ⟨h2,h3⟩ | ⟨h2,h3⟩
 ·exact ⟨true,h2,.inl ⟨rfl,h3⟩⟩
 ·exact ⟨false,h2,.inr ⟨rfl,h3⟩⟩

theorem DM {op:BinOp} {as bs:List HV} {v:HV} {t:TypeId} {ox oy:Operand} (hx:V w ok c (.agg as) rx) (hy:V w ok c (.agg bs) rv) (h:ZF P op t (.agg as) (.agg bs)=some v) :
  ∃r,(do eqGuard op t ox oy rx rv;binOp op t rx rv:Sem Value).run P w=.ok r w∧V w ok c v r:=by
 cases hx with
 | agg as ra hla hca hha =>
  cases hy with
  | agg bs rb hlb hcb hhb =>
   simp only [ZF] at h
   split at h
   rotate_left
   ·cases h
   rename_i hq
   simp only [qA,Bool.not_eq_true'] at hq
   obtain ⟨⟨hq1,hq2⟩,hq3⟩:=hq
   obtain ⟨hs,num,hp,hk⟩:=Zo hq1
   have hA:∀(i:Nat) (v:HV) (x:Value),as[i]?=some v→ra.toList[i]?=some x→V w ok c v x:=fun i v x h1 h2=>hha i v x h1 (by simpa using h2)
   have hB:∀(i:Nat) (v:HV) (x:Value),bs[i]?=some v→rb.toList[i]?=some x→V w ok c v x:=fun i v x h1 h2=>hhb i v x h1 (by simpa using h2)
   have heq:∀r,Wn as bs=some r→(Op.equalIn 10000 t (.agg ra) (.agg rb)).run P w=.ok r w:=by
    intro r hr
    have h1:=YG (by simpa using hla) (by simpa using hlb) hA hB hr
    have:=JK num 20 t hp _ hs 10000 (by omega) ra.toList rb.toList r w (by simpa using hla.symm) (GK (by simpa using hla) hA hk) h1
    simpa [mkV,hq3] using this
   simp only [Sem.run_bind,run_eqGuard_agg w op t ox oy ra rb hq2,Result.andThen_ok]
   split at h
   ·rename_i r hr
    cases h
    exact ⟨.bool r,by rw [run_eql_struct,heq r hr];rfl,.bool r⟩
   ·rename_i r hr
    cases h
    exact ⟨.bool !r,by rw [run_neq_struct,heq r hr];rfl,.bool _⟩
   ·cases h

theorem QbL {op:BinOp} {x y v:HV} {t:TypeId} {ox oy:Operand} (hx:V w ok c x rx) (hy:V w ok c y rv) (h:ZF P op t x y=some v) :
  ∃r,(do eqGuard op t ox oy rx rv;binOp op t rx rv:Sem Value).run P w=.ok r w∧V w ok c v r:=by
 have h':=h
 unfold ZF at h
 split at h
 ·have:=hx.int_inv;subst this;have:=hy.int_inv;subst this;exact DE h'
 ·have:=hx.bool_inv;subst this;have:=hy.bool_inv;subst this;exact UQ h'
 ·exact DM hx hy h'
 ·cases h

def QbM (P:Program) (num:Bool) (d:Nat):Prop :=
 ∀(t:TypeId),Q7 P num d t=true→∀(s:Nat),Qm P t=some s→∀(D:Nat),d≤D→∀(b:Bool) (l:List Value) (w:World),
  l.length=s→(∀x,x∈l→KU num x)→(Instr.checkKey b D t (mkV P t l)).run P w=.ok () w

theorem Y4 {b:Bool} {D:Nat} {e:TypeId} {n:Nat} {xs:Array Value} (hn:Qm P e=some n):∀{l:List Nat},(∀i,i∈l→∃v,(part e xs (i*n)).run P w=.ok v w∧(Instr.checkKey b D e v).run P w=.ok () w) →
  (forIn l PUnit.unit (fun i _=>do let s←sizeOf e;let v←part e xs (i*s);Instr.checkKey b D e v;pure (ForInStep.yield PUnit.unit)):Sem PUnit).run P w=.ok PUnit.unit w
 | [],_=>rfl
 | i::l,h=>by
  obtain ⟨v,h1,h2⟩:=h i (by simp)
  simp only [qX,Sem.run_bind,Wj hn,h1,Result.andThen_ok,h2,Sem.run_pure]
  exact Y4 hn fun j hj=>h j (by simp [hj])

theorem Yj {b : Bool} {D : Nat} {xs : Array Value} : ∀ {l : List Field}, (∀ f, f ∈ l → f.name ≠ "_" ∧ ∃ v, (part f.type xs f.offset).run P w = .ok v w ∧ (Instr.checkKey b D f.type v).run P w = .ok () w) →
    (forIn l PUnit.unit (fun f _ => if f.name ≠ "_" then do let v ← part f.type xs f.offset; Instr.checkKey b D f.type v; pure (ForInStep.yield PUnit.unit) else pure (ForInStep.yield PUnit.unit)) : Sem PUnit).run P w = .ok PUnit.unit w
  | [],_=>rfl
  | f::l,h=>by
    obtain ⟨hn,v,h1,h2⟩:=h f (by simp)
    simp only [qX,hn,ne_eq,not_false_eq_true,if_true,Sem.run_bind,h1,Result.andThen_ok,h2,Sem.run_pure]
    exact Yj fun g hg=>h g (by simp [hg])

theorem KV (num:Bool):∀d,QbM P num d
 | 0=>fun t h=>by simp [Q7] at h
 | d+1=>by
  intro t h s hs D hD b l w hl hk
  have IH:=KV num d
  obtain ⟨D,rfl⟩:∃D',D=D'+1:=⟨D-1,by omega⟩
  have hD':d≤D:=by omega
  have hpl:=h
  unfold Q7 at h
  split at h
  ·rename_i hu
   have hta:Qw P t=false:=by simp [Qw,hu]
   cases hq:mkV P t l <;> simp [Instr.checkKey,Qr hu]
  ·rename_i q hu
   have hta:Qw P t=false:=by simp [Qw,hu]
   cases hq:mkV P t l <;> simp [Instr.checkKey,Qr hu]
  ·rename_i n e hu
   simp only [qA] at h
   obtain ⟨h1,h2⟩:=h
   split at h2
   rotate_left
   ·cases h2
   rename_i z hz
   simp [hs] at h2
   have hta:Qw P t=true:=by simp [Qw,hu]
   obtain ⟨hue,hse⟩:=JW h1
   have hs1:Qw P e=false→z=1:=fun ha=>by have:=hse ha;rw [hz] at this;simpa using this
   simp only [mkV,hta,if_true]
   simp only [Instr.checkKey,Sem.run_bind,Qr hu,Result.andThen_ok]
   rw [Std.Legacy.Range.forIn_eq_forIn_range']
   have hr:Std.Legacy.Range.size [0:n]=n:=by simp [Std.Legacy.Range.size]
   simp only [hr]
   rw [Y4 (xs:=l.toArray) hz (fun i hi=>?_)]
   ·rfl
   ·have hi:i<n:=by have:=List.mem_range'_1.1 hi;omega
    have hm:(i+1)*z≤n*z:=qR z hi
    rw [qN,Nat.one_mul] at hm
    exact ⟨_,Vi hz hue hs1 (by simp;omega),IH e h1 z hz D hD' b _ w (by simp;omega) (fun x hx=>hk x (qT (qE hx)))⟩
  ·rename_i fs hu
   have hta:Qw P t=true:=by simp [Qw,hu]
   simp only [mkV,hta,if_true]
   simp only [Instr.checkKey,Sem.run_bind,Qr hu,Result.andThen_ok]
   rw [← Array.forIn_toList]
   simp only [qA,beq_iff_eq] at h
   obtain ⟨⟨h1,h2⟩,h3⟩:=h
   rw [hs] at h3
   have hoff:∀(fs:List Field) (a:Nat),fs.foldl (KF P) (some a)=some s→∀f,f∈fs→∃n,Qm P f.type=some n∧f.offset+n≤s:=by
    have hge:∀(fs:List Field) (b e:Nat),fs.foldl (KF P) (some b)=some e→b≤e:=by
     intro fs
     induction fs with
     | nil=>intro b e h;simp at h;omega
     | cons g fs ih =>
      intro b e h
      simp only [qO] at h
      cases hg:Qm P g.type with
      | none=>simp [KF,hg,Zf] at h
      | some q =>
       by_cases hgo:g.offset=b
       ·simp only [KF,hg,hgo,beq_self_eq_true,if_true] at h
        have:=ih _ _ h;omega
       ·have:(g.offset==b)=false:=by simpa using hgo
        simp [KF,hg,this,Zf] at h
    intro fs
    induction fs with
    | nil=>intro a _ f hf;simp at hf
    | cons g fs ih =>
     intro a h f hf
     simp only [qO] at h
     cases hg:Qm P g.type with
     | none=>simp [KF,hg,Zf] at h
     | some q =>
      by_cases hgo:g.offset=a
      ·simp only [KF,hg,hgo,beq_self_eq_true,if_true] at h
       rcases List.mem_cons.1 hf with rfl | hf
       ·exact ⟨q,hg,by have:=hge _ _ _ h;omega⟩
       ·exact ih _ h f hf
      ·have:(g.offset==a)=false:=by simpa using hgo
       simp [KF,hg,this,Zf] at h
   rw [Yj (xs:=l.toArray) (fun f hf=>?_)]
   ·rfl
   ·have hff:=List.all_eq_true.1 h2 f hf
    simp only [qA,bne_iff_ne] at hff
    obtain ⟨n,hn,hle⟩:=hoff fs.toList 0 h3 f hf
    obtain ⟨hue,hse⟩:=JW hff.2
    have hs1:Qw P f.type=false→n=1:=fun ha=>by have:=hse ha;rw [hn] at this;simpa using this
    exact ⟨hff.1,_,Vi hn hue hs1 (by simp;omega),IH f.type hff.2 n hn D hD' b _ w (by simp;omega) (fun x hx=>hk x (qT (qE hx)))⟩
  ·cases h

theorem C2 {t:TypeId} {k:HV} (hk:V w ok c k rv) (h:KK P t k=true):∃num,Q7 P num 20 t=true∧Qm P t=some rv.cells.size∧rv=mkV P t rv.cells.toList∧(∀x,x∈rv.cells.toList→KU num x) ∧
  CellsV w ok c (cellsOf k) rv.cells∧(P.underlying t).isSome=true∧(Qw P t=false→rv.cells = #[rv]):=by
 unfold KK at h
 simp only [qA,beq_iff_eq] at h
 obtain ⟨h1,h2⟩:=h
 obtain ⟨hs,num,hp,hkk⟩:=Zo h1
 have hcell:(cellsOf k).all Ql=true:=by
  refine List.all_eq_true.2 fun x hx=>?_
  rcases hkk with ⟨_,h⟩ | ⟨_,h⟩
  ·have:=List.all_eq_true.1 h x hx;cases x <;> simp [Q9] at this;rfl
  ·have:=List.all_eq_true.1 h x hx;cases x <;> simp [QT] at this;rfl
 have hC:=CellsV.of hk hcell
 have hmk:rv=mkV P t rv.cells.toList∧(Qw P t=false→rv.cells = #[rv]):=by
  cases hag:Qw P t with
  | true =>
   rw [hag] at h2
   cases k with
   | agg cs=>cases hk;simp [mkV,hag,Value.cells]
   | _=>simp [QZ] at h2
  | false =>
   rw [hag] at h2
   have hcv:Ql k=true∧cellsOf k=[k]:=by
    cases k with
    | agg cs=>simp [QZ] at h2
    | _=>simp_all [cellsOf]
   have h1:=hk.oneCell hcv.1
   have:rv.cells = #[rv]:=by cases rv <;> first | rfl | simp [Value.oneCell'] at h1
   rw [this]
   simp [mkV,hag]
 exact ⟨num,hp,by rw [hs,hC.1],hmk.1,GK (by simpa using hC.1) (fun i v x g1 g2=>hC.2 i v x g1 (by simpa using g2)) hkk,hC,(JW hp).1,hmk.2⟩

theorem Yk {k x:HV} {b:Bool} (h:Wz k x=some b):Wn (cellsOf k) (cellsOf x)=some b:=by
 cases k <;> cases x <;> simp_all [Wz,Jf,cellsOf,Wn]

theorem QbN {a b:List Value} (h:rEq a b=some true):a=b:=by
 induction a generalizing b with
 | nil=>cases b <;> simp_all [rEq]
 | cons x a ih =>
  cases b with
  | nil=>simp [rEq] at h
  | cons y b =>
   simp only [rEq] at h
   split at h
   ·rename_i p q hp hq
    simp only [Option.some.injEq,qA] at h
    obtain ⟨rfl,rfl⟩:=h
    have hxy:x=y:=by
     cases x <;> cases y <;> simp [VF] at hp
     ·subst hp;rfl
     ·obtain ⟨h1,h2⟩:=hp;subst h1;subst h2;rfl
    rw [hxy,ih hq]
   ·cases h

theorem Jt {k:HV}:∀{ks:List HV} {i:Nat} {r:Option Nat},Ws k ks i=some r→∀j,r=some j→i≤j∧j<i+ks.length
 | [],i,r,h,j,hj=>by simp [Ws] at h;subst h;cases hj
 | x::ks,i,r,h,j,hj=>by
  simp only [Ws] at h
  split at h
  ·cases h;cases hj;simp
  ·have:=Jt h j hj;simp;omega
  ·cases h

def ZK (es:List MapEntry) (i:Nat):Option Nat→Option (Nat×Value)
 | none=>none
 | some j=>(es[j-i]?).map fun e=>(j,e.val)

theorem Xh {e:MapEntry} {es:List MapEntry} {i:Nat} {r:Option Nat} (h:∀j,r=some j→i+1≤j):ZK (e::es) i r=ZK es (i+1) r:=by
 cases r with
 | none=>rfl
 | some j =>
  have:=h j rfl
  simp only [ZK]
  rw [show j-i=(j-(i+1))+1 by omega,jN]

theorem Yl {d:TypeDesc} {t:TypeId} {k:HV} {d':Ctx} {num:Bool} (hd:P.underlying t=some d) (ht:Qw P t=false) (hp:Q7 P num 20 t=true) (hk:V w ok c k rv)
  (hkk:(num=true∧Q9 k=true)∨(num=false∧QT k=true)) :
  ∀{ks:List HV} {es:List MapEntry} {i:Nat} {r:Option Nat},ks.length=es.length→(∀(q:Nat) (v:HV) (m:MapEntry),ks[q]?=some v→es[q]?=some m→V w ok d' v m.key) →
   Ws k ks i=some r→Instr.findNow d rv es i=some (ZK es i r)
 | [],[],i,r,_,_,h=>by simp [Ws] at h;subst h;rfl
 | [],_::_,_,_,hl,_,_=>by simp at hl
 | _::_,[],_,_,hl,_,_=>by simp at hl
 | x::ks,e::es,i,r,hl,hV,h=>by
  have hx:=hV 0 x e rfl rfl
  have hnow:∀b,Wz k x=some b→Instr.sameNow d rv e.key=some b:=by
   intro b hb
   unfold Q7 at hp
   rw [hd] at hp
   rcases hkk with ⟨rfl,hkk⟩ | ⟨rfl,hkk⟩
   ·cases k <;> simp [Q9] at hkk
    cases x <;> simp [Wz,Jf] at hb
    have:=hk.int_inv;subst this;have:=hx.int_inv;rw [this]
    obtain ⟨h1,h2⟩:=hb
    subst h1
    cases d <;> simp [Qw,hd] at hp ht
    simp [Instr.sameNow,← h2];rfl
   ·cases k <;> simp [QT] at hkk
    cases x <;> simp [Wz,Jf] at hb
    have:=hk.bool_inv;subst this;have:=hx.bool_inv;rw [this]
    cases d <;> simp [Qw,hd] at hp ht
    simp [Instr.sameNow,← hb]
  simp only [Ws] at h
  simp only [Instr.findNow]
  split at h
  ·rename_i hb
   cases h
   rw [hnow true hb]
   simp [ZK]
  ·rename_i hb
   rw [hnow false hb]
   rw [Xh (fun j hj=>(Jt h j hj).1)]
   exact Yl hd ht hp hk hkk (by simpa using hl) (fun q v m h1 h2=>hV (q+1) v m h1 h2) h
  ·cases h

theorem KW {t:TypeId} {k:HV} {d':Ctx} {num:Bool} (ht:Qw P t=true) (hp:Q7 P num 20 t=true) (hs:Qm P t=some rv.cells.size) (hmk:rv=mkV P t rv.cells.toList)
  (hkk:∀x,x∈rv.cells.toList→KU num x) (hC:CellsV w ok c (cellsOf k) rv.cells) (hka:QZ k=true) :
  ∀{ks:List HV} {es:List MapEntry} {i:Nat} {r:Option Nat},ks.length=es.length→(∀(q:Nat) (v:HV) (m:MapEntry),ks[q]?=some v→es[q]?=some m→V w ok d' v m.key) →
   Ws k ks i=some r→(Instr.findAsking t rv es i).run P w=.ok (ZK es i r) w
 | [],[],i,r,_,_,h=>by simp [Ws] at h;subst h;rfl
 | [],_::_,_,_,hl,_,_=>by simp at hl
 | _::_,[],_,_,hl,_,_=>by simp at hl
 | x::ks,e::es,i,r,hl,hV,h=>by
  have hx:=hV 0 x e rfl rfl
  have heq:∀b,Wz k x=some b→(Op.equal t rv e.key).run P w=.ok b w:=by
   intro b hb
   have hxa:∃cs,x=.agg cs:=by cases k <;> simp [QZ] at hka;cases x <;> simp [Wz,Jf] at hb;exact ⟨_,rfl⟩
   obtain ⟨cs,rfl⟩:=hxa
   have hkey:∃rs,e.key=.agg rs∧cs.length=rs.size∧∀(i:Nat) (v:HV) (r:Value),cs[i]?=some v→rs[i]?=some r→V w ok d' v r:=by
    generalize e.key=ek at hx
    cases hx with
    | agg cs rs hl hc hh=>exact ⟨rs,rfl,hl,hh⟩
   obtain ⟨rs,he,hrl,hrV⟩:=hkey
   have hce:=Yk hb
   rw [JV] at hce
   have h1:rEq rv.cells.toList rs.toList=some b:=by
    exact YG (by simpa using hC.1) (by simpa using hrl) (fun i v x g1 g2=>hC.2 i v x g1 (by simpa using g2)) (fun i v x g1 g2=>hrV i v x g1 (by simpa using g2)) hce
   have:=JK num 20 t hp _ hs 10000 (by omega) rv.cells.toList rs.toList b w (by simp) hkk h1
   rw [← hmk] at this
   have hm:mkV P t rs.toList=.agg rs:=by simp [mkV,ht]
   rw [hm] at this
   rw [he]
   exact this
  simp only [Ws] at h
  simp only [Instr.findAsking,Sem.run_bind]
  split at h
  ·rename_i hb
   cases h
   rw [heq true hb]
   simp [ZK]
  ·rename_i hb
   rw [heq false hb]
   simp only [Result.andThen_ok,qD,if_false]
   rw [Xh (fun j hj=>(Jt h j hj).1)]
   exact KW ht hp hs hmk hkk hC hka (by simpa using hl) (fun q v m h1 h2=>hV (q+1) v m h1 h2) h
  ·cases h

theorem Ym {t:TypeId} {k:HV} {d':Ctx} (hk:V w ok c k rv) (hkt:KK P t k=true) {ks:List HV} {es:List MapEntry} {r:Option Nat} (hl:ks.length=es.length)
  (hV:∀(q:Nat) (v:HV) (m:MapEntry),ks[q]?=some v→es[q]?=some m→V w ok d' v m.key) (h:Ws k ks 0=some r):(Instr.findKey t rv es).run P w=.ok (ZK es 0 r) w:=by
 obtain ⟨num,hp,hs,hmk,hkk,hC,hu,hsc⟩:=C2 hk hkt
 obtain ⟨d,hd⟩:=Option.isSome_iff_exists.1 hu
 have hkt':=hkt
 unfold KK at hkt
 simp only [qA,beq_iff_eq] at hkt
 cases hag:Qw P t with
 | false =>
  have hka:QZ k=false:=by rw [← hkt.2,hag]
  have hcs:cellsOf k=[k]:=by cases k <;> first | rfl | simp [QZ] at hka
  obtain ⟨_,num',hp',hor⟩:=Zo hkt.1
  rw [hcs] at hor
  have hn:=Yl hd hag hp' hk (by simpa using hor) hl hV h
  simp [Instr.findKey,Qr hd,hn]
 | true =>
  have hka:QZ k=true:=by rw [← hkt.2,hag]
  have ha:=KW hag hp hs hmk hkk hC hka hl hV h
  cases es with
  | nil =>
   cases ks with
   | cons _ _=>simp at hl
   | nil=>simp [Ws] at h;subst h;simp [Instr.findKey,Qr hd,Instr.findNow,ZK]
  | cons e es =>
   have hn:Instr.findNow d rv (e::es) 0=none:=by
    simp only [Instr.findNow]
    have:Instr.sameNow d rv e.key=none:=by
     unfold Qw at hag
     rw [hd] at hag
     cases d <;> simp at hag <;> rfl
    rw [this]
   simp only [Instr.findKey,Sem.run_bind,Qr hd,Result.andThen_ok,hn]
   exact ha

theorem Xi {t:TypeId} {k:HV} {b:Bool} (hk:V w ok c k rv) (hkt:KK P t k=true):(Instr.checkKey b 10000 t rv).run P w=.ok () w:=by
 obtain ⟨num,hp,hs,hmk,hkk,hC,hu,hsc⟩:=C2 hk hkt
 have:=KV num 20 t hp _ hs 10000 (by omega) b rv.cells.toList w (by simp) hkk
 rwa [← hmk] at this

end
end Go.HL


/- Maps: looked up and written. -/
namespace Go.HL
section
variable {w:World} {c:Ctx} {rv rx rk:Value} {P:Program} {lo:Nat} {ok:Bool→Nat→Prop}

theorem Km {r:Nat} {es:Array MapEntry} {clock:Nat} (h:w.heap[r]?=some (.map es clock)):(getObj r).run P w=.ok (.map es clock) w:=by
 simp [getObj,Sem.run,h]

theorem KX {k:HV}:∀{ks:List HV} {i j:Nat},Ws k ks i=some (some j)→∃x,ks[j-i]?=some x∧Wz k x=some true
 | [],i,j,h=>by simp [Ws] at h
 | x::ks,i,j,h=>by
  simp only [Ws] at h
  split at h
  ·rename_i hb;cases h;exact ⟨x,by simp,hb⟩
  ·obtain ⟨y,h1,h2⟩:=KX h
   have:=(Jt h j rfl).1
   exact ⟨y,by rw [show j-i=(j-(i+1))+1 by omega,jN];exact h1,h2⟩
  ·cases h

theorem QbO {α β:Type} {f:α→β} {l m:List β} (h:l.Perm m):∀(L:List α),L.map f=m→∃L0:List α,L0.Perm L∧L0.map f=l:=by
 induction h with
 | nil=>intro L hL;exact ⟨L,.refl _,hL⟩
 | cons x h ih =>
  intro L hL
  cases L with
  | nil=>cases hL
  | cons a L =>
   simp only [jA,List.cons.injEq] at hL
   obtain ⟨L0,h1,h2⟩:=ih L hL.2
   exact ⟨a::L0,h1.cons a,by rw [jA,h2,hL.1]⟩
 | swap x y l =>
  intro L hL
  match L,hL with
  | a::b::L,hL =>
   simp only [jA,List.cons.injEq] at hL
   exact ⟨b::a::L,.swap _ _ _,by simp [hL]⟩
 | trans h1 h2 ih1 ih2 =>
  intro L hL
  obtain ⟨L1,g1,g2⟩:=ih2 L hL
  obtain ⟨L0,g3,g4⟩:=ih1 L1 g2
  exact ⟨L0,g3.trans g1,g4⟩

theorem U2 {a b:HV} (h:Jf a b=some true):a=b:=by
 cases a <;> cases b <;> simp_all [Jf]
theorem Y5:∀{a b:List HV},Wn a b=some true→a=b
 | [],[],_=>rfl
 | [],_::_,h=>by cases h
 | _::_,[],h=>by cases h
 | x::a,y::b,h=>by
  simp only [Wn] at h
  split at h
  ·rename_i p q hp hq
   simp only [Option.some.injEq,qA] at h
   obtain ⟨rfl,rfl⟩:=h
   rw [U2 hp,Y5 hq]
  ·cases h
theorem C3 {a b:HV} (h:Wz a b=some true):a=b:=by
 unfold Wz at h
 split at h
 ·rw [Y5 h]
 ·exact U2 h

theorem findK_none {k:HV}:∀{ks:List HV} {i:Nat},Ws k ks i=some none↔∀x∈ks,Wz k x=some false
 | [],i=>by simp [Ws]
 | x::ks,i=>by
  simp only [Ws]
  constructor
  ·intro h
   split at h
   ·cases h
   ·rename_i hx
    intro y hy
    cases hy with
    | head=>exact hx
    | tail _ hy=>exact findK_none.1 h y hy
   ·cases h
  ·intro h
   rw [h x (by simp)]
   exact findK_none.2 fun y hy=>h y (by simp [hy])

theorem GL {k:HV}:∀{ks:List HV} {i j:Nat} {x:HV},ks[j]?=some x→Wz k x=some true→(∀q y,q<j→ks[q]?=some y→Wz k y=some false)→Ws k ks i=some (some (i+j))
 | [],i,j,x,h,_,_=>by simp at h
 | y::ks,i,0,x,h,hx,_=>by
  simp at h;subst h
  simp [Ws,hx]
 | y::ks,i,j+1,x,h,hx,hq=>by
  simp only [Ws,hq 0 y (by omega) rfl]
  rw [GL (j:=j) (by simpa using h) hx fun q z hql hz=>hq (q+1) z (by omega) (by simpa using hz)]
  congr 2
  omega

theorem Diff.at {ks:List HV} (h:Diff ks) {i j:Nat} {x y:HV} (hi:ks[i]?=some x) (hj:ks[j]?=some y) (hne:i≠j):Wz x y=some false:=by
 have hil:=Qd hi
 have hjl:=Qd hj
 have h2:=List.pairwise_iff_getElem.1 h
 rw [qI hil] at hi
 rw [qI hjl] at hj
 cases hi;cases hj
 rcases Nat.lt_or_gt_of_ne hne with hlt | hlt
 ·exact (h2 i j hil hjl hlt).1
 ·exact (h2 j i hjl hil hlt).2

theorem Jh {t:TypeId} {k:HV} {d':Ctx} (hk:V w ok c k rv) (hkt:KK P t k=true) {ks:List HV} {es es0:List MapEntry} {o:Option Nat} (hp:es0.Perm es) (hl:ks.length=es.length) (hdf:Diff ks)
  (hV:∀(q:Nat) (v:HV) (m:MapEntry),ks[q]?=some v→es[q]?=some m→V w ok d' v m.key) (h:Ws k ks 0=some o) :
  match o with
  | none=>(Instr.findKey t rv es0).run P w=.ok none w
  | some i=>∃i0 m,es[i]?=some m∧es0[i0]?=some m∧(Instr.findKey t rv es0).run P w=.ok (some (i0,m.val)) w:=by
 have hz:(ks.zip es).map Prod.snd=es:=List.map_snd_zip (by omega)
 have hz1:(ks.zip es).map Prod.fst=ks:=List.map_fst_zip (by omega)
 obtain ⟨L0,g1,g2⟩:=QbO hp (ks.zip es) hz
 have hk0:(L0.map Prod.fst).Perm ks:=by have:=g1.map Prod.fst;rwa [hz1] at this
 have hd0:Diff (L0.map Prod.fst):=(List.Perm.pairwise_iff (fun h=>⟨h.2,h.1⟩) hk0).2 hdf
 have hV0:∀(q:Nat) (v:HV) (m:MapEntry),(L0.map Prod.fst)[q]?=some v→es0[q]?=some m→V w ok d' v m.key:=by
  intro q v m h1 h2
  rw [← g2] at h2
  rw [qM] at h1 h2
  cases hq:L0[q]? with
  | none=>rw [hq] at h1;cases h1
  | some p =>
   rw [hq] at h1 h2
   simp at h1 h2
   have hm:p∈ks.zip es:=g1.subset (qL hq)
   obtain ⟨j,hj⟩:=List.mem_iff_getElem?.1 hm
   rw [jP] at hj
   rw [← h1,← h2]
   exact hV j _ _ hj.1 hj.2
 have hl0:(L0.map Prod.fst).length=es0.length:=by rw [← g2];simp
 cases o with
 | none =>
  have hn:Ws k (L0.map Prod.fst) 0=some none:=findK_none.2 fun x hx=>findK_none.1 h x (hk0.subset hx)
  exact Ym hk hkt hl0 hV0 hn
 | some i =>
  obtain ⟨x,hx,hkx⟩:=KX h
  rw [Nat.sub_zero] at hx
  have hil:=Qd hx
  have hm:es[i]?=some es[i]:=qI (by omega)
  have hmem:(x,es[i])∈L0:=g1.symm.subset (List.mem_iff_getElem?.2 ⟨i,by rw [jP];exact ⟨hx,hm⟩⟩)
  obtain ⟨i0,hi0⟩:=List.mem_iff_getElem?.1 hmem
  have he0:es0[i0]?=some es[i]:=by rw [← g2,qM,hi0];rfl
  have hx0:(L0.map Prod.fst)[i0]?=some x:=by rw [qM,hi0];rfl
  have hkk:=C3 hkx
  have hf0:Ws k (L0.map Prod.fst) 0=some (some (0+i0)):=GL hx0 hkx fun q y hq hy=>by
   rw [hkk]
   exact hd0.at hx0 hy (by omega)
  rw [Nat.zero_add] at hf0
  have:=Ym hk hkt hl0 hV0 hf0
  refine ⟨i0,es[i],hm,he0,?_⟩
  rw [this]
  simp [ZK,he0]

theorem XQ {T:TypeId} {ks vs:List HV} {k v:HV} {cok:Bool} {es:Array MapEntry} {d':Ctx} (hm:rx=.map none∧es = #[]∨∃r clock,rx=.map (some r)∧MapAt w r es clock) (hdf:Diff ks)
  (hk:V w ok c k rk) (hl:ks.length=es.size) (hl':vs.length=es.size)
  (hK:∀(q:Nat) (v:HV) (m:MapEntry),ks[q]?=some v→es[q]?=some m→V w ok Ctx.nil v m.key)
  (hV:∀(q:Nat) (v:HV) (m:MapEntry),vs[q]?=some v→es[q]?=some m→V w ok d' v m.val) (hd:CEvo d' c)
  (h:JR P T ks vs k cok=some v):∃r,(Instr.lookup T rx rk cok).run P w=.ok r w∧V w ok c v r:=by
 unfold JR at h
 split at h
 rotate_left
 ·cases h
 rename_i kt et hu
 split at h
 rotate_left
 ·cases h
 rename_i hkt
 have hck:=fun b=>Xi (P:=P) (b:=b) hk hkt
 obtain ⟨es0,hp,hm⟩:∃es0:Array MapEntry,es0.toList.Perm es.toList∧(rx=.map none∧es0 = #[]∨∃r clock,rx=.map (some r)∧w.heap[r]?=some (.map es0 clock)):=by
  rcases hm with ⟨h1,h2⟩ | ⟨r,clock,h1,es0,h2,h3,_⟩
  ·exact ⟨es,.refl _,.inl ⟨h1,h2⟩⟩
  ·exact ⟨es0,h3,.inr ⟨r,clock,h1,h2⟩⟩
 have hrun:∀(o:Option (Nat×Value)) (q:Value) (b:Bool),(Instr.findKey kt rk es0.toList).run P w=.ok o w →
   ((∃i,o=some (i,q)∧b=true)∨(o=none∧b=false∧(zeroValue et).run P w=.ok q w))→(Instr.lookup T rx rk cok).run P w=.ok (if cok then .tuple #[q,.bool b] else q) w:=by
  intro o q b hf ho
  rcases hm with ⟨rfl,rfl⟩ | ⟨r,clock,rfl,hw⟩
  ·rcases ho with ⟨i,rfl,rfl⟩ | ⟨rfl,rfl,hz⟩
   ·simp [Instr.lookup,Qr hu,hck,hf]
   ·simp [Instr.lookup,Qr hu,hck,hf,hz]
  ·rcases ho with ⟨i,rfl,rfl⟩ | ⟨rfl,rfl,hz⟩
   ·simp [Instr.lookup,Qr hu,Km hw,hck,hf]
   ·simp [Instr.lookup,Qr hu,Km hw,hck,hf,hz]
 have fin:∀(y:HV) (ry:Value) (b:Bool),V w ok c y ry→V w ok c (if cok then .tuple [y,.bool b] else y) (if cok then .tuple #[ry,.bool b] else ry):=by
  intro y ry b hy
  cases cok with
  | false=>exact hy
  | true =>
   refine .tuple _ _ rfl fun i v r h1 h2=>?_
   match i,h1,h2 with
   | 0,h1,h2=>simp at h1 h2;subst h1;subst h2;exact hy
   | 1,h1,h2=>simp at h1 h2;subst h1;subst h2;exact .bool b
   | i+2,h1,h2=>simp at h1
 split at h
 ·rename_i i hf
  split at h
  rotate_left
  ·cases h
  rename_i y hy
  cases h
  have hi:i<es.size:=by rw [← hl'];exact Qd hy
  obtain ⟨i0,m,hm1,_,hfk⟩:=Jh (P:=P) hk hkt (es:=es.toList) hp (by simpa using hl) hdf (fun q v m h1 h2=>hK q v m h1 (by simpa using h2)) hf
  have:m=es[i]:=by simp [hi] at hm1;exact hm1.symm
  subst this
  exact ⟨_,hrun _ _ true hfk (.inl ⟨i0,rfl,rfl⟩),fin y es[i].val true ((hV i y es[i] hy (qB hi)).evo (.refl _ _) hd)⟩
 ·rename_i hf
  split at h
  rotate_left
  ·cases h
  rename_i z hz
  split at h
  rotate_left
  ·cases h
  cases h
  have hfk:=Jh (P:=P) hk hkt (es:=es.toList) hp (by simpa using hl) hdf (fun q v m h1 h2=>hK q v m h1 (by simpa using h2)) hf
  simp only at hfk
  unfold VN at hz
  cases hi:P.info? et with
  | none=>simp [hi] at hz
  | some i =>
   cases hz':i.zero with
   | none=>simp [hi,hz'] at hz
   | some zv =>
    simp [hi,hz'] at hz
    subst hz
    exact ⟨_,hrun _ _ false hfk (.inr ⟨rfl,rfl,Js hi hz'⟩),fin _ zv false (Zd zv)⟩
 ·cases h

theorem GM {a b:List Value} (h:rEq a b=some true) (n:Nat):(a.zip b).all (fun p=>Instr.sameBits n p.1 p.2)=true:=by
 induction a generalizing b with
 | nil=>simp
 | cons x a ih =>
  cases b with
  | nil=>simp [rEq] at h
  | cons y b =>
   simp only [rEq] at h
   split at h
   ·rename_i p q hp hq
    simp only [Option.some.injEq,qA] at h
    obtain ⟨rfl,rfl⟩:=h
    simp only [List.zip_cons_cons,jE,ih hq,Bool.and_true]
    cases x <;> cases y <;> simp [VF] at hp
    ·subst hp;simp [Instr.sameBits]
    ·obtain ⟨h1,h2⟩:=hp;subst h1;subst h2;simp [Instr.sameBits]
   ·cases h

theorem QbP {d d':Ctx} {k x:HV} {ra rb:Value} (hk:V w ok d k ra) (hx:V w ok d' x rb) (hc:(cellsOf k).all Ql=true) (hc':(cellsOf x).all Ql=true) (h:Wz k x=some true) :
  ra=rb∧rEq ra.cells.toList ra.cells.toList=some true:=by
 have hA:=CellsV.of hk hc
 have hB:=CellsV.of hx hc'
 have h1:=YG (ra:=ra.cells.toList) (rb:=rb.cells.toList) (by rw [qK];exact hA.1) (by rw [qK];exact hB.1) (fun i v x g1 g2=>hA.2 i v x g1 (by simpa using g2)) (fun i v x g1 g2=>hB.2 i v x g1 (by simpa using g2)) (Yk h)
 have h2:=QbN h1
 have hagg:(∃as bs,k=.agg as∧x=.agg bs)∨(QZ k=false∧QZ x=false):=by
  cases k <;> cases x <;> simp [Wz,Jf,QZ] at h ⊢
 refine ⟨?_,by rw [← h2] at h1;exact h1⟩
 rcases hagg with ⟨as,bs,rfl,rfl⟩ | ⟨h3,h4⟩
 ·cases hk;cases hx
  simp only [Value.cells] at h2
  rw [Array.toList_inj.1 h2]
 ·obtain ⟨h5,h6⟩:=hk.cellsEq hc h3
  obtain ⟨h7,h8⟩:=hx.cellsEq hc' h4
  have e1:ra.cells = #[ra]:=by have:=hk.oneCell h6;cases ra <;> first | rfl | simp [Value.oneCell'] at this
  have e2:rb.cells = #[rb]:=by have:=hx.oneCell h8;cases rb <;> first | rfl | simp [Value.oneCell'] at this
  rw [e1,e2] at h2
  simpa using h2

theorem UR {d:Ctx} {k:HV} {ra:Value} (hk:V w ok d k ra) (hc:(cellsOf k).all Ql=true) (h:rEq ra.cells.toList ra.cells.toList=some true) (n:Nat):Instr.sameBits (n+1) ra ra=true:=by
 by_cases hagg:QZ k=true
 ·cases k <;> simp [QZ] at hagg
  cases hk with
  | agg cs rs hl hcc hh =>
   simp only [Value.cells] at h
   simp only [Instr.sameBits,beq_self_eq_true,Bool.true_and]
   exact GM h n
 ·obtain ⟨h5,h6⟩:=hk.cellsEq hc (by simpa using hagg)
  have e1:ra.cells = #[ra]:=by have:=hk.oneCell h6;cases ra <;> first | rfl | simp [Value.oneCell'] at this
  rw [e1] at h
  cases ra <;> simp [rEq,VF] at h <;> simp [Instr.sameBits]

theorem Y6 {r:Nat} {es es':Array MapEntry} {clock clock':Nat} (h:w.heap[r]?=some (.map es clock)) :
  (setObj r (.map es' clock')).run P w=.ok () { w with heap:=w.heap.setIfInBounds r (.map es' clock') }:=by
 simp [setObj,Sem.run,h]

theorem WChg.setMap {r:Nat} {es es':Array MapEntry} {clock clock':Nat} (h:w.heap[r]?=some (.map es clock)) :
  WChg w { w with heap:=w.heap.setIfInBounds r (.map es' clock') } (some r):=by
 refine ⟨rfl,rfl,rfl,by simp,fun q hq hn=>?_,fun q cs T fz hq=>?_⟩
 ·show (w.heap.setIfInBounds r _)[q]?=_
  rw [jQ (by rintro rfl;exact hn rfl)]
 ·refine ⟨cs,T,fz,?_,rfl⟩
  show (w.heap.setIfInBounds r _)[q]?=_
  rw [jQ (by rintro rfl;rw [h] at hq;cases hq)]
  exact hq

theorem GN {α:Type} {f:α→α}:∀{l m:List α} {i j:Nat} {a:α},l.Perm m→l[i]?=some a→m[j]?=some a→(l.modify i f).Perm (m.modify j f):=by
 have h:∀(l:List α) (i:Nat) (a:α),l[i]?=some a→(l.modify i f).Perm (f a::l.eraseIdx i)∧l.Perm (a::l.eraseIdx i):=by
  intro l
  induction l with
  | nil=>intro i a h;simp at h
  | cons x l ih =>
   intro i a h
   cases i with
   | zero=>simp at h;subst h;simp
   | succ i =>
    obtain ⟨h1,h2⟩:=ih i a (by simpa using h)
    simp only [List.modify_succ_cons,List.eraseIdx_cons_succ]
    exact ⟨(h1.cons x).trans (.swap _ _ _),(h2.cons x).trans (.swap _ _ _)⟩
 intro l m i j a hp hi hj
 obtain ⟨h1,h2⟩:=h l i a hi
 obtain ⟨h3,h4⟩:=h m j a hj
 refine h1.trans (List.Perm.trans ?_ h3.symm)
 exact (((h2.symm.trans hp).trans h4).cons_inv).cons _

theorem Yn {f:MapEntry→MapEntry}:∀(l:List MapEntry) (i:Nat),(∀x,(f x).born=x.born)→(l.modify i f).map (·.born)=l.map (·.born)
 | [],_,_=>by simp
 | x::l,0,h=>by simp [h x]
 | x::l,i+1,h=>by simp [Yn l i h]

theorem U3 {a b:HV} {t:Bool} (h:Jf a b=some t):Jf b a=some t:=by
 cases a <;> cases b <;> simp only [Jf] at h ⊢ <;> try (cases h;done)
 case int.int k n k' n' =>
  split at h
  ·rename_i hk
   rw [if_pos hk.symm,← h]
   congr 1
   exact decide_eq_decide.2 eq_comm
  ·cases h
 case bool.bool x y=>rw [← h];cases x <;> cases y <;> rfl
theorem Y7:∀{a b:List HV} {t:Bool},Wn a b=some t→Wn b a=some t
 | [],[],_,h=>h
 | [],_::_,_,h=>by cases h
 | _::_,[],_,h=>by cases h
 | x::a,y::b,t,h=>by
  simp only [Wn] at h ⊢
  split at h
  ·rename_i p q hp hq
   rw [U3 hp,Y7 hq];exact h
  ·cases h
theorem C4 {a b:HV} {t:Bool} (h:Wz a b=some t):Wz b a=some t:=by
 cases a <;> cases b <;> simp only [Wz] at h ⊢ <;> first | exact Y7 h | exact U3 h
theorem Diff.add {ks:List HV} {k:HV} (h:Diff ks) (hk:∀x∈ks,Wz k x=some false):Diff (ks++[k]):=by
 unfold Diff at *
 rw [List.pairwise_append]
 refine ⟨h,by simp,fun a ha b hb=>?_⟩
 rw [List.mem_singleton] at hb
 subst hb
 exact ⟨C4 (hk a ha),hk a ha⟩

def GO:HV→Bool
 | .agg cs=>cs.all fun v=>Q9 v||QT v
 | v=>Q9 v||QT v
theorem Qd7 {a b:HV} {t:Bool} (h:Jf a b=some t):(Q9 a||QT a)=true:=by
 cases a <;> cases b <;> simp [Jf,Q9,QT] at h ⊢
theorem GP:∀{a b:List HV} {t:Bool},Wn a b=some t→(a.all fun v=>Q9 v||QT v)=true
 | [],_,_,_=>rfl
 | _::_,[],_,h=>by cases h
 | x::a,y::b,t,h=>by
  simp only [Wn] at h
  split at h
  ·rename_i p q hp hq
   rw [jE,Qd7 hp,GP hq];rfl
  ·cases h
theorem GQ {a b:HV} {t:Bool} (h:Wz a b=some t):GO a=true:=by
 cases a <;> cases b <;> simp only [Wz,Jf] at h <;> first | rfl | exact GP h | (cases h;done)
theorem YH {g:HV→Option HV} (hg:∀a a',(Q9 a||QT a)=true→g a=some a'→a'=a):∀{cs cs':List HV},(cs.all fun v=>Q9 v||QT v)=true→mapO g cs=some cs'→cs'=cs
 | [],_,_,h=>by cases h;rfl
 | x::cs,cs',ha,h=>by
  rw [jE,qA] at ha
  unfold mapO at h
  split at h
  ·cases h
  rename_i y hy
  split at h
  ·cases h
  rename_i ys hys
  cases h
  rw [hg x y ha.1 hy,YH hg ha.2 hys]
theorem QbQ {H:Heap} {no:List Nat} {d:Nat} {a a':HV} (h:GO a=true) (hf:frz H no d a=some a'):a'=a:=by
 have one:∀{d:Nat} {a a':HV},(Q9 a||QT a)=true→frz H no d a=some a'→a'=a:=by
  intro d a a' h hf
  cases a <;> simp [Q9,QT] at h <;> cases d <;> simp only [frz,resP,if_true] at hf <;> cases hf <;> rfl
 cases a <;> simp only [GO,Q9,QT,jG,qD] at h
 case int=>exact one (by rfl) hf
 case bool=>exact one (by rfl) hf
 case agg cs =>
  cases d with
  | zero =>
   simp only [frz] at hf
   split at hf
   ·cases hf;rfl
   ·cases hf
  | succ d =>
   simp only [frz] at hf
   split at hf
   ·rename_i l hl
    cases hf
    rw [YH (fun a a' h hf=>one h hf) h hl]
   ·cases hf
theorem Y8:∀{l l':List HV},argPL l=some l'→mapO argP l=some l'
 | [],_,h=>by cases h;rfl
 | v::l,l',h=>by
  simp only [argPL] at h
  split at h
  ·rename_i a b ha hb
   cases h
   simp only [mapO,ha,Y8 hb]
  ·cases h
theorem SN {a a':HV} (h:GO a=true) (hf:argP a=some a'):a'=a:=by
 have one:∀{a a':HV},(Q9 a||QT a)=true→argP a=some a'→a'=a:=by
  intro a a' h hf
  cases a <;> simp [Q9,QT] at h <;> simp only [argP] at hf <;> cases hf <;> rfl
 cases a <;> simp only [GO,Q9,QT,jG,qD] at h
 case int=>exact one (by rfl) hf
 case bool=>exact one (by rfl) hf
 case agg cs =>
  simp only [argP] at hf
  split at hf
  ·rename_i l hl
   cases hf
   rw [YH (fun a a' h hf=>one h hf) h (Y8 hl)]
  ·cases hf
theorem QbR {H:Heap} {d:Nat} {a a':HV} (h:GO a=true) (hf:Qx H d a=some a'):a'=a:=by
 have one:∀{d:Nat} {a a':HV},(Q9 a||QT a)=true→Qx H d a=some a'→a'=a:=by
  intro d a a' h hf
  cases a <;> simp [Q9,QT] at h <;> cases d <;> simp only [Qx,argP] at hf <;> cases hf <;> rfl
 cases d with
 | zero=>exact SN h hf
 | succ d =>
  cases a <;> simp only [GO,Q9,QT,jG,qD] at h
  case int=>exact one (by rfl) hf
  case bool=>exact one (by rfl) hf
  case agg cs =>
   simp only [Qx] at hf
   split at hf
   ·rename_i l hl
    cases hf
    rw [YH (fun a a' h hf=>one h hf) h hl]
   ·cases hf
theorem Diff.mapO {g:HV→Option HV} (hg:∀a a',GO a=true→g a=some a'→a'=a) {ks ks':List HV} (h:Diff ks) (hl:ks'.length=ks.length) (hm:∀(i:Nat) (x:HV),ks'[i]?=some x→∃v,ks[i]?=some v∧g v=some x):Diff ks':=by
 unfold Diff
 rw [List.pairwise_iff_getElem]
 intro i j hi hj hij
 obtain ⟨a,a1,a2⟩:=hm i _ (qI hi)
 obtain ⟨b,b1,b2⟩:=hm j _ (qI hj)
 have h1:=h.at a1 b1 (by omega)
 have h2:=h.at b1 a1 (by omega)
 rw [hg a _ (GQ h1) a2,hg b _ (GQ h2) b2]
 exact ⟨h1,h2⟩

theorem GR {T:TypeId} {frz:Bool} {m k v:HV} {rm:Value} {H':Heap} (hR:Rel lo c w) (hm:V w (Qg c lo) c m rm) (hk:V w (Qg c lo) c k rk) (hv:V w (Qg c lo) c v rv)
  (h:VA P frz T m k v c.H=some H'):∃c' w',(Instr.mapUpdate T rm rk rv).run P w=.ok () w'∧c'.H=H'∧Rel lo c' w'∧Evo lo c w c' w':=by
 unfold VA at h
 split at h
 rotate_left
 ·cases h
 rename_i kt et b hu
 split at h
 rotate_left
 ·cases h
 rename_i hkt
 have hseal:∀v1 H1,(if frz=true then Xb c.H v else some (v,c.H))=some (v1,H1)→∃c1,c1.H=H1∧Rel lo c1 w∧Evo lo c w c1 w∧V w (Qg c1 lo) c1 v1 rv:=by
  intro v1 H1 hq
  split at hq
  ·exact Y1 hR hv hq
  ·cases hq;exact ⟨c,rfl,hR,.refl _ _ _,hv⟩
 split at h
 rotate_left
 ·cases h
 rename_i v1 H1 hs
 obtain ⟨c1,rfl,hR1,hE1,hv1⟩:=hseal v1 H1 hs
 have hk1:=hE1.val hk
 have hm1:=hE1.val hm
 split at h
 rotate_left
 ·cases h
 rename_i ks vs mx hb
 obtain ⟨num,hp,hsz,hmk,hkk,hC,hund,hsc⟩:=C2 (P:=P) hk1 hkt
 cases hm1 with
 | map b r ks' vs' mx' hH hσ =>
  have hB:=hR1.blk b _ hb
  obtain ⟨hb1,⟨hb2,hdf⟩,r',hσ',hlo,es,clock,⟨es0,hw,hp,hbn,hbd⟩,hl,hl',hK,hVV⟩:=hB
  rw [hσ] at hσ';cases hσ'
  have hck:=Xi (P:=P) (b:=false) hk1 hkt
  have hkcell:(cellsOf k).all Ql=true:=by
   unfold KK at hkt
   simp only [qA] at hkt
   obtain ⟨_,num',_,hor⟩:=Zo hkt.1
   refine List.all_eq_true.2 fun x hx=>?_
   rcases hor with ⟨_,h⟩ | ⟨_,h⟩
   ·have:=List.all_eq_true.1 h x hx;cases x <;> simp [Q9] at this;rfl
   ·have:=List.all_eq_true.1 h x hx;cases x <;> simp [QT] at this;rfl
  have hkb:bnd k=0:=by
   unfold KK at hkt
   simp only [qA] at hkt
   obtain ⟨_,num',_,hor⟩:=Zo hkt.1
   rw [← VQ hkcell]
   refine Ze fun x hx=>?_
   rcases hor with ⟨_,h⟩ | ⟨_,h⟩
   ·have:=List.all_eq_true.1 h x hx;cases x <;> simp [Q9] at this;rfl
   ·have:=List.all_eq_true.1 h x hx;cases x <;> simp [QT] at this;rfl
  have hmap:∀(es0' es':Array MapEntry) (clock':Nat) (ks2 vs2:List HV),es0'.toList.Perm es'.toList→((∀x∈es0'.toList,x.born<clock')∧(es0'.toList.map (·.born)).Nodup)→Diff ks2→(∀v,v∈vs2→bnd v≤max mx (bnd v1))→(∀v,v∈ks2→(cellsOf v).all Ql=true∧(Wn (cellsOf v) (cellsOf v)).isSome=true) →
    ks2.length=es'.size→vs2.length=es'.size →
    (∀(i:Nat) (v:HV) (m:MapEntry),ks2[i]?=some v→es'[i]?=some m→V w (Qg c1 lo) Ctx.nil v m.key)→(∀(i:Nat) (v:HV) (m:MapEntry),vs2[i]?=some v→es'[i]?=some m→V w (Qg c1 lo) c1 v m.val) →
    let c':=c1.upd b (.map ks2 vs2 (max mx (bnd v1))) (some r)
    let w':World:={ w with heap:=w.heap.setIfInBounds r (.map es0' clock') }
    Rel lo c' w'∧Evo lo c w c' w':=by
   intro es0' es' clock' ks2 vs2 gp gbn gd g1 g2 g3 g4 g5 g6
   obtain ⟨r1,r2⟩:=KO (x':=.map ks2 vs2 (max mx (bnd v1))) (s:=some r) hR1 hb (WChg.setMap (es':=es0') (clock':=clock') hw) (fun q hq=>by cases hq;exact ⟨hσ,rfl⟩) (fun _=>rfl) (.inl hσ.symm) hσ.symm
    (fun hE=>⟨g1,⟨g2,gd⟩,r,(Qy (QE hb)).2,hlo,es',clock',⟨es0',by
     show (w.heap.setIfInBounds r _)[r]?=_
     rw [Array.getElem?_setIfInBounds_self_of_lt (Zv hw)],gp,gbn⟩,g3,g4,fun i v m h1 h2=>(g5 i v m h1 h2).evo hE.W (.refl _),fun i v m h1 h2=>hE.val (g6 i v m h1 h2)⟩)
   exact ⟨r1,hE1.trans r2⟩
  split at h
  ·rename_i i hf
   cases h
   have hi:i<es.size:=by have:=(Jt hf i rfl).2;omega
   obtain ⟨i0,mm,hm1,hm0,hfk⟩:=Jh (P:=P) hk1 hkt (es:=es.toList) hp (by simpa using hl) hdf (fun q v m h1 h2=>hK q v m h1 (by simpa using h2)) hf
   have hmm:mm=es[i]:=by simp [hi] at hm1;exact hm1.symm
   subst hmm
   have hi0:i0<es0.size:=by have:=Qd hm0;simpa using this
   have hm0':es0[i0]?=some es[i]:=by simpa using hm0
   obtain ⟨x,hx,hkx⟩:=KX hf
   rw [Nat.sub_zero] at hx
   have hxK:=hK i x es[i] hx (qB hi)
   obtain ⟨hsame,hself⟩:=QbP hk1 hxK hkcell (hb2 x (qL hx)).1 hkx
   have hbits:=UR hk1 hkcell hself 9999
   obtain ⟨r1,r2⟩:=hmap (es0.modify i0 fun e=>{ e with key:=rk,val:=rv }) (es.modify i fun e=>{ e with key:=rk,val:=rv }) clock ks (vs.set i v1)
    (by rw [jH,jH];exact GN hp hm0 (by simpa using hm1))
    (by
     have e:(es0.modify i0 fun e=>{ e with key:=rk,val:=rv }).toList.map (·.born)=es0.toList.map (·.born):=by
      rw [jH]
      exact Yn _ _ (fun _=>rfl)
     refine ⟨fun x hx=>?_,by rw [e];exact hbd⟩
     have:x.born∈es0.toList.map (·.born):=by rw [← e];exact List.mem_map.2 ⟨x,hx,rfl⟩
     obtain ⟨y,hy,hxy⟩:=List.mem_map.1 this
     rw [← hxy];exact hbn y hy) hdf
    (fun v hv=>by
     rcases jJ hv with hv | rfl
     ·have:=hb1 v hv;omega
     ·omega)
    hb2 (by simp [hl]) (by simp [hl'])
    (fun q v m h1 h2=>by
     rw [jU] at h2
     by_cases hq:i=q
     ·subst hq
      rw [if_pos rfl,qB hi] at h2
      cases h2
      have:=hK i v es[i] h1 (qB hi)
      rw [hsame];exact this
     ·rw [if_neg hq] at h2
      exact hK q v m h1 h2)
    (fun q v m h1 h2=>by
     rw [jU] at h2
     by_cases hq:i=q
     ·subst hq
      rw [if_pos rfl,qB hi] at h2
      cases h2
      rw [List.getElem?_set_self (by omega)] at h1
      cases h1
      exact hv1
     ·rw [if_neg hq] at h2
      rw [List.getElem?_set_ne hq] at h1
      exact hVV q v m h1 h2)
   refine ⟨_,_,?_,rfl,r1,r2⟩
   have hold:((es0[i0]?).map (·.key)).getD rk=rk:=by rw [hm0'];simp [← hsame]
   simp only [Instr.mapUpdate,Sem.run_bind,Qr hu,Result.andThen_ok,Km hw,hck,hfk,hold,Instr.keyThatStays,hbits,if_true,Sem.run_pure]
   exact Y6 hw
  ·rename_i hf
   split at h
   rotate_left
   ·cases h
   rename_i hself
   cases h
   have hfk:=Jh (P:=P) hk1 hkt (es:=es.toList) hp (by simpa using hl) hdf (fun q v m h1 h2=>hK q v m h1 (by simpa using h2)) hf
   simp only at hfk
   obtain ⟨r1,r2⟩:=hmap (es0.push { key:=rk,val:=rv,born:=clock }) (es.push { key:=rk,val:=rv,born:=clock }) (clock+1) (ks++[k]) (vs++[v1])
    (by rw [jI,jI];exact hp.append_right _)
    (by
     rw [jI]
     refine ⟨fun x hx=>?_,?_⟩
     ·rcases List.mem_append.1 hx with hx | hx
      ·have:=hbn x hx;omega
      ·rw [List.mem_singleton] at hx;subst hx;simp
     ·rw [List.map_append,List.nodup_append]
      refine ⟨hbd,by simp,fun a ha b hb=>?_⟩
      obtain ⟨y,hy,rfl⟩:=List.mem_map.1 ha
      have:=hbn y hy
      simp at hb
      omega)
    (Diff.add hdf (findK_none.1 hf))
    (fun v hv=>by
     rcases List.mem_append.1 hv with hv | hv
     ·have:=hb1 v hv;omega
     ·simp at hv;subst hv;omega)
    (fun v hv=>by
     rcases List.mem_append.1 hv with hv | hv
     ·exact hb2 v hv
     ·simp at hv;subst hv;exact ⟨hkcell,hself⟩)
    (by simp [hl]) (by simp [hl'])
    (fun i v m h1 h2=>by
     by_cases hi:i<es.size
     ·rw [qG (by omega)] at h1
      rw [jV hi] at h2
      cases h2
      exact hK i v _ h1 (qB hi)
     ·have h3:=Qd h1
      simp at h3
      have:i=es.size:=by omega
      subst this
      rw [qH (by omega)] at h1
      simp [hl] at h1 h2
      subst h1;subst h2
      exact hk1.free0 _ hkb)
    (fun i v m h1 h2=>by
     by_cases hi:i<es.size
     ·rw [qG (by omega)] at h1
      rw [jV hi] at h2
      cases h2
      exact hVV i v _ h1 (qB hi)
     ·have h3:=Qd h1
      simp at h3
      have:i=es.size:=by omega
      subst this
      rw [qH (by omega)] at h1
      simp [hl'] at h1 h2
      subst h1;subst h2
      exact hv1)
   refine ⟨_,_,?_,rfl,r1,r2⟩
   simp only [Instr.mapUpdate,Sem.run_bind,Qr hu,Result.andThen_ok,Km hw,hck,hfk,ZK]
   exact Y6 hw
  ·cases h

end
end Go.HL


/- Every operation of the ghost's is the model's. -/
namespace Go.HL
section
variable {w:World} {c:Ctx} {P:Program} {lo:Nat}

def Qo (P:Program) (call:QB):Prop :=
 ∀(g:FuncId) (args:List HV) (H:Heap) (r:HV) (H':Heap),call g args H=some (r,H')→Jr P g=true →
  ∀(c:Ctx) (w:World) (lo:Nat) (rargs:Array Value),c.H=H→Rel lo c w→args.length=rargs.size →
   (∀(i:Nat) (v:HV) (x:Value),args[i]?=some v→rargs[i]?=some x→V w (Qg c lo) c v x) →
   Calls P g rargs w fun e w'=>∃rv c',e=.returned rv∧c'.H=H'∧Rel lo c' w'∧V w' (Qg c' lo) c' r rv∧Evo lo c w c' w'

def Y9 (lo:Nat) (c:Ctx) (w:World) (a:Act) (o:Oper) (v:HV) (H':Heap) (next:Act→World→Prop):Prop :=
 ∀(c':Ctx) (w':World) (rv:Value),c'.H=H'→Rel lo c' w'→V w' (Qg c' lo) c' v rv→Evo lo c w c' w'→next (a.put o.dst rv) w'

theorem Wk {a:Act} {o:Oper} {s:Sem Value} {v:HV} {H':Heap} {next:Act→World→Prop} {Q:Exit→Act→World→Prop} (hx:(execOp a.eval o).run P w=(do pure (.value (← s)):Sem Next).run P w)
  (hs:StepOk P lo c w s v H') (hn:Y9 lo c w a o v H' next):o.wp P a w next Q:=by
 obtain ⟨c',w',rv,h1,h2,h3,h4,h5⟩:=hs
 unfold Oper.wp
 rw [hx]
 simp only [Sem.run_bind,h1,Result.andThen_ok,Sem.run_pure]
 exact hn c' w' rv h2 h3 h4 h5

theorem QP {a:Act} {o:Oper} {s:Sem Value} {v:HV} {next:Act→World→Prop} {Q:Exit→Act→World→Prop} (hx:(execOp a.eval o).run P w=(do pure (.value (← s)):Sem Next).run P w)
  (hR:Rel lo c w) (hs:∃r,s.run P w=.ok r w∧V w (Qg c lo) c v r) (hn:Y9 lo c w a o v c.H next):o.wp P a w next Q:=by
 obtain ⟨r,h1,h2⟩:=hs
 exact Wk hx (.pure hR h1 h2) hn

theorem Ua {a:Act} {o:Oper} {s:Sem Unit} {H':Heap} {next:Act→World→Prop} {Q:Exit→Act→World→Prop} (hx:(execOp a.eval o).run P w=(do s;pure .skip:Sem Next).run P w)
  (hs:∃c' w',s.run P w=.ok () w'∧c'.H=H'∧Rel lo c' w'∧Evo lo c w c' w') (hn:Y9 lo c w a o (.tuple []) H' next):o.wp P a w next Q:=by
 obtain ⟨c',w',h1,h2,h3,h4⟩:=hs
 unfold Oper.wp
 rw [hx]
 simp only [Sem.run_bind,h1,Result.andThen_ok,Sem.run_pure]
 exact hn c' w' undef h2 h3 (.tuple [] #[] rfl (by simp)) h4

theorem map_some {α β:Type} {f:α→β} {x:Option α} {y:β} (h:x.map f=some y):∃z,x=some z∧f z=y:=by
 cases x with
 | none=>cases h
 | some z=>exact ⟨z,rfl,by simpa using h⟩

theorem Qg9 {e:Env} {a:Act} (he:RelE w c lo e a.tmps) (x:Option Operand):(x.map (Qk e)=none→x.map a.eval=none)∧∀v,x.map (Qk e)=some v→∃r,x.map a.eval=some r∧V w (Qg c lo) c v r:=by
 cases x with
 | none=>simp
 | some x=>exact ⟨by simp,fun v hv=>by simp at hv;subst hv;exact ⟨_,rfl,Jg he x⟩⟩

theorem U4 {e:Env} {a:Act} (he:RelE w c lo e a.tmps) (xs:Array Operand):(xs.toList.map (Qk e)).length=(xs.map a.eval).size ∧
  ∀(i:Nat) (v:HV) (x:Value),(xs.toList.map (Qk e))[i]?=some v→(xs.map a.eval)[i]?=some x→V w (Qg c lo) c v x:=by
 refine ⟨by simp,fun i v x h1 h2=>?_⟩
 simp only [qM,qC,Array.getElem?_map] at h1 h2
 cases hq:xs[i]? with
 | none=>simp [hq] at h1
 | some y=>simp [hq] at h1 h2;subst h1;subst h2;exact Jg he y

theorem DN {g:FuncId} {args:Array Value} (h:Jr P g=true):(callFunc g args).run P w=.ok (.enter g args) w:=by
 unfold Jr at h
 split at h
 ·rename_i fn hf
  simp only [qA,bne_iff_ne,ne_eq] at h
  obtain ⟨b,hb⟩:=Option.isSome_iff_exists.1 h.1
  simp [callFunc,hf,h.2,hb]
 ·cases h

theorem DO {b:Builtin} {cl:Call} {a:Act} {o:Oper} {e:Env} {v:HV} {H':Heap} {next:Act→World→Prop} {Q:Exit→Act→World→Prop} (ho:o.op=.call cl) (hb:cl.callee=.builtin b)
  (hR:Rel lo c w) (he:RelE w c lo e a.tmps) (h:WX P b cl.argTypes.toList (cl.args.toList.map (Qk e)) c.H=some (v,H')) (hn:Y9 lo c w a o v H' next):o.wp P a w next Q:=by
 obtain ⟨hl,hV⟩:=U4 he cl.args
 have hx:∀(s:Sem Value),(builtin b cl.argTypes o.type (cl.args.map fun | .const _=>true | _=>false) (cl.args.map a.eval))=(do pure (.value (← s)):Sem Next) →
   (execOp a.eval o).run P w=(do pure (.value (← s)):Sem Next).run P w:=by
  intro s hs
  rw [← hs]
  simp only [execOp,ho,resolve,hb]
  rfl
 unfold WX at h
 split at h
 ·-- append
  rename_i t t2 ts s x xs htys hargs
  have ht0:cl.argTypes[0]?=some t:=by rw [← qC,htys];rfl
  have ht1:cl.argTypes[1]?=some t2:=by rw [← qC,htys];rfl
  have ha0:(cl.args.toList.map (Qk e))[0]?=some s:=by rw [hargs];rfl
  have ha1:(cl.args.toList.map (Qk e))[1]?=some x:=by rw [hargs];rfl
  have hr0:∃r,(cl.args.map a.eval)[0]?=some r:=by
   have:=Qd ha0;exact ⟨_,qB (by omega)⟩
  have hr1:∃r,(cl.args.map a.eval)[1]?=some r:=by
   have:=Qd ha1;exact ⟨_,qB (by omega)⟩
  obtain ⟨rs,hr0⟩:=hr0
  obtain ⟨rx,hr1⟩:=hr1
  split at h
  rotate_left
  ·cases h
  rename_i et e2 hu hu2
  split at h
  rotate_left
  ·cases h
  rename_i i ys k hi hsrc
  split at h
  rotate_left
  ·cases h
  rename_i hq
  obtain ⟨q1,q2,q3⟩:=hq
  unfold YV at q3
  split at q3
  rotate_left
  ·cases q3
  rename_i z hz
  exact Wk (hx _ rfl) (QbJ (z:=z) ⟨⟨t,ht0,hu⟩,⟨t2,e2,ht1,hu2⟩,hr0,hr1,hi,hz,by simpa using q3,q2⟩ hR (hV 0 _ _ ha0 hr0) (hV 1 _ _ ha1 hr1) hsrc q1 h) hn
 ·rename_i t ts x xs htys hargs
  have ht0:cl.argTypes[0]?=some t:=by rw [← qC,htys];rfl
  have ha0:(cl.args.toList.map (Qk e))[0]?=some x:=by rw [hargs];rfl
  obtain ⟨rs,hr0⟩:∃r,(cl.args.map a.eval)[0]?=some r:=by
   have:=Qd ha0;exact ⟨_,qB (by omega)⟩
  obtain ⟨u,hu,hq⟩:=map_some h
  cases hq
  exact QP (hx _ rfl) hR (QbI hR (hV 0 _ _ ha0 hr0) ht0 hr0 hu) hn
 ·rename_i x l hargs
  obtain ⟨u,hu,hq⟩:=map_some h
  cases hq
  cases hrl:(cl.args.map a.eval).toList with
  | nil=>rw [← qK,hrl,hargs] at hl;simp at hl
  | cons rx rl =>
   have hg:∀i,(cl.args.map a.eval)[i]?=(rx::rl)[i]?:=fun i=>by rw [← qC,hrl]
   have hfm:=YY (P:=P) (mx:=false) (hV 0 x rx (by rw [hargs];rfl) (by rw [hg];rfl)) (rl:=rl) (by rw [← qK,hrl,hargs] at hl;simpa using hl)
    (fun i y r h1 h2=>hV (i+1) y r (by rw [hargs];exact h1) (by rw [hg];exact h2)) hu
   refine QP (s:=Builtin.min_ cl.argTypes o.type (cl.args.map a.eval)) (hx _ rfl) hR ?_ hn
   obtain ⟨r,g1,g2⟩:=hfm
   exact ⟨r,by simp only [Builtin.min_,hrl];simpa using g1,g2⟩
 ·rename_i x l hargs
  obtain ⟨u,hu,hq⟩:=map_some h
  cases hq
  cases hrl:(cl.args.map a.eval).toList with
  | nil=>rw [← qK,hrl,hargs] at hl;simp at hl
  | cons rx rl =>
   have hg:∀i,(cl.args.map a.eval)[i]?=(rx::rl)[i]?:=fun i=>by rw [← qC,hrl]
   have hfm:=YY (P:=P) (mx:=true) (hV 0 x rx (by rw [hargs];rfl) (by rw [hg];rfl)) (rl:=rl) (by rw [← qK,hrl,hargs] at hl;simpa using hl)
    (fun i y r h1 h2=>hV (i+1) y r (by rw [hargs];exact h1) (by rw [hg];exact h2)) hu
   refine QP (s:=Builtin.max_ cl.argTypes o.type (cl.args.map a.eval)) (hx _ rfl) hR ?_ hn
   obtain ⟨r,g1,g2⟩:=hfm
   exact ⟨r,by simp only [Builtin.max_,hrl];simpa using g1,g2⟩
 ·-- copy
  rename_i t ts d s xs htys hargs
  have ht0:cl.argTypes[0]?=some t:=by rw [← qC,htys];rfl
  have ha0:(cl.args.toList.map (Qk e))[0]?=some d:=by rw [hargs];rfl
  have ha1:(cl.args.toList.map (Qk e))[1]?=some s:=by rw [hargs];rfl
  obtain ⟨rs,hr0⟩:∃r,(cl.args.map a.eval)[0]?=some r:=by
   have:=Qd ha0;exact ⟨_,qB (by omega)⟩
  obtain ⟨rx,hr1⟩:∃r,(cl.args.map a.eval)[1]?=some r:=by
   have:=Qd ha1;exact ⟨_,qB (by omega)⟩
  split at h
  rotate_left
  ·cases h
  rename_i et hu
  split at h
  rotate_left
  ·cases h
  rename_i ys k hsrc
  split at h
  rotate_left
  ·cases h
  rename_i hk
  exact Wk (hx _ rfl) (QaU hR (hV 0 _ _ ha0 hr0) (hV 1 _ _ ha1 hr1) ht0 hu hk hr0 hr1 hsrc h) hn
 ·rename_i t ts x xs htys hargs
  have ht0:cl.argTypes[0]?=some t:=by rw [← qC,htys];rfl
  have ha0:(cl.args.toList.map (Qk e))[0]?=some x:=by rw [hargs];rfl
  obtain ⟨rs,hr0⟩:∃r,(cl.args.map a.eval)[0]?=some r:=by
   have:=Qd ha0;exact ⟨_,qB (by omega)⟩
  exact Wk (hx _ rfl) (C1 hR (hV 0 _ _ ha0 hr0) ht0 hr0 h) hn
 ·cases h

end
end Go.HL


/- Every operation of the ghost's is the model's: all together. -/
namespace Go.HL
section
variable {w:World} {c:Ctx} {P:Program} {lo:Nat}

theorem Vk {pol:Pol} {f:FuncId} {rg:Nat} {asg:List Nat} {call:QB} {a:Act} {o:Oper} {e:Env} {v:HV} {H':Heap} {next:Act→World→Prop} {Q:Exit→Act→World→Prop}
  (hC:Qo P call) (hR:Rel lo c w) (he:RelE w c lo e a.tmps) (h:WG P pol f rg asg call o e c.H=some (v,H')) (hn:Y9 lo c w a o v H' next):o.wp P a w next Q:=by
 have hV:∀x,V w (Qg c lo) c (Qk e x) (a.eval x):=fun x=>Jg he x
 unfold WG at h
 split at h
 ·-- move
  rename_i x ho
  cases h
  exact QP (s:=pure (a.eval x)) (by simp [execOp,ho]) hR ⟨_,rfl,hV x⟩ hn
 ·-- assign
  rename_i x ho
  split at h
  ·-- nil slice
   split at h
   ·rename_i t hu
    split at h
    ·rename_i k hk
     have hb:∃bb:Bool,(if bb=true then some (HV.sl (List.length c.H) 0 0 none 0 k,c.H++[Blk.arr k [] true 0]) else some (HV.imm G.lit k [],c.H))=some (v,H'):=by
      cases hd:o.dst with
      | none=>rw [hd] at h;exact ⟨false,h⟩
      | some d=>rw [hd] at h;exact ⟨_,h⟩
     obtain ⟨bb,h⟩:=hb
     cases bb
     ·cases h
      exact QP (s:=pure (.slice none 0 0)) (by simp [execOp,ho,Act.eval]) hR ⟨_,rfl,JU k none⟩ hn
     ·cases h
      exact Wk (s:=pure (.slice none 0 0)) (by simp [execOp,ho,Act.eval]) ⟨_,_,_,rfl,rfl,(Kk hR).1,DH,(Kk hR).2⟩ hn
    ·cases h
   ·cases h
    exact QP (s:=pure (a.eval _)) (by simp [execOp,ho]) hR ⟨_,rfl,hV _⟩ hn
  ·cases h
   exact QP (s:=pure (a.eval x)) (by simp [execOp,ho]) hR ⟨_,rfl,hV x⟩ hn
 ·-- pick
  rename_i cc x y ho
  split at h
  ·rename_i t hc
   cases h
   have h1:=hV cc
   rw [hc] at h1
   have h1:=h1.bool_inv
   refine QP (s:=pure (if t then a.eval x else a.eval y)) (by simp [execOp,ho,h1,asBool]) hR ⟨_,rfl,?_⟩ hn
   cases t
   ·exact hV y
   ·exact hV x
  ·cases h
 ·-- alloc
  rename_i t ho
  split at h
  ·split at h
   ·split at h
    ·rename_i k i hk hi hz
     cases h
     exact Wk (by simp only [execOp,ho]) (Y2 (et:=t) hR hi hz) hn
    ·cases h
   ·cases h
  ·split at h
   ·rename_i z hz
    split at h
    ·rename_i hc
     cases h
     exact Wk (by simp only [execOp,ho]) (QaS (v:=.undef) hR hz hc) hn
    ·cases h
   ·cases h
 ·-- box
  rename_i t x ho
  split at h
  ·rename_i hc
   cases h
   exact Wk (by simp only [execOp,ho]) (GC (t:=t) hR (hV x) hc) hn
  ·cases h
 ·-- build
  rename_i t parts ho
  obtain ⟨u,hu,hq⟩:=map_some h
  cases hq
  exact QP (by simp only [execOp,ho]) hR (CZ he hu) hn
 ·-- buildSlice
  rename_i t n parts ho
  exact Wk (by simp only [execOp,ho]) (QbK hR he h) hn
 ·-- load
  rename_i t x ho
  obtain ⟨u,hu,hq⟩:=map_some h
  cases hq
  exact QP (by simp only [execOp,ho]) hR (UW hR (hV x) hu) hn
 ·-- store
  rename_i t x y ho
  split at h
  rotate_left
  ·cases h
  rename_i v1 H1 hs
  obtain ⟨u,hu,hq⟩:=map_some h
  cases hq
  have hse:∃c1,c1.H=H1∧Rel lo c1 w∧Evo lo c w c1 w∧V w (Qg c1 lo) c1 v1 (a.eval y):=by
   split at hs
   ·exact Y1 hR (hV y) hs
   ·cases hs;exact ⟨c,rfl,hR,Evo.refl _ _ _,hV y⟩
  obtain ⟨c1,hc1,hR1,hE1,hv1⟩:=hse
  subst hc1
  obtain ⟨c2,w2,g1,g2,g3,g4⟩:=CY hR1 (hE1.val (hV x)) hv1 hu
  exact Ua (by simp only [execOp,ho]) ⟨c2,w2,g1,g2,g3,hE1.trans g4⟩ hn
 ·-- nilCheck
  rename_i x ho
  have h1:=hV x
  split at h
  ·rename_i b i off tot hx
   cases h
   rw [hx] at h1
   generalize hy:a.eval x=y at h1
   cases h1 with
   | ptr _ _ _ _ ad hp=>exact QP (s:=pure (.pointer (some ad))) (by simp [execOp,ho,hy]) hR ⟨_,rfl,.ptr _ _ _ _ ad hp⟩ hn
  ·rename_i x' hx
   cases h
   rw [hx] at h1
   generalize hy:a.eval x=y at h1
   cases h1 with
   | vptr _ r o f hr hok hc h2 h3=>exact QP (s:=pure (.pointer (some ⟨r,o,none⟩))) (by simp [execOp,ho,hy]) hR ⟨_,rfl,.vptr _ r o f hr hok hc h2 h3⟩ hn
  ·rename_i g fa ca hx
   cases h
   rw [hx] at h1
   generalize hy:a.eval x=y at h1
   cases h1 with
   | func _ _ _ ra rc hl hl' h2 h3=>exact QP (s:=pure (.func (.func g) ra rc)) (by simp [execOp,ho,hy]) hR ⟨_,rfl,.func _ _ _ ra rc hl hl' h2 h3⟩ hn
  ·cases h
 ·-- binOp
  rename_i op t x y b ho
  obtain ⟨u,hu,hq⟩:=map_some h
  cases hq
  refine QP (s:=do eqGuard op t x y (a.eval x) (a.eval y);binOp op t (a.eval x) (a.eval y)) (by simp only [execOp,ho]) hR ?_ hn
  split at hu
  ·exact GA (hV x) hu
  ·exact QbL (hV x) (hV y) hu
 ·-- unOp
  rename_i op t x ho
  obtain ⟨u,hu,hq⟩:=map_some h
  cases hq
  exact QP (by simp only [execOp,ho]) hR (Qd5 (hV x) hu) hn
 ·-- convert
  rename_i s t x ho
  split at h
  ·rename_i k n d k' hx hs ht
   cases h
   have h1:=hV x
   rw [hx] at h1
   have h1:=h1.int_inv
   refine QP (s:=convert s t (a.eval x)) (by simp only [execOp,ho]) hR ⟨_,?_,.int _ _⟩ hn
   rw [h1]
   simp [convert,Qr hs,Qr ht,Conv.intToInt]
  ·cases h
 ·-- makeFunc
  rename_i g first captured ho
  cases h
  refine QP (s:=Instr.makeFunc (.func g) (first.map a.eval) (captured.map a.eval)) (by simp only [execOp,ho]) hR ⟨_,rfl,?_⟩ hn
  exact .func _ _ _ _ _ (U4 he first).1 (U4 he captured).1 (U4 he first).2 (U4 he captured).2
 ·-- makeMap
  rename_i t ho
  cases h
  exact Wk (by simp only [execOp,ho];rfl) (GD (t:=t) hR) hn
 ·-- makeSlice
  rename_i t l cp ho
  exact Wk (by simp only [execOp,ho]) (QaT hR (hV l) (hV cp) h) hn
 ·-- slice
  rename_i t x l hi mx ho
  split at h
  ·cases h
  rename_i hmh
  obtain ⟨u,hu,hq⟩:=map_some h
  cases hq
  refine QP (by simp only [execOp,ho]) hR (CX (hV x) (Qg9 he l) (Qg9 he hi) (Qg9 he mx) (fun hm=>?_) hu) hn
  cases hi <;> cases mx <;> simp_all
 ·-- fieldAddr
  rename_i s x fl ho
  obtain ⟨u,hu,hq⟩:=map_some h
  cases hq
  exact QP (by simp only [execOp,ho]) hR (DF (hV x) hu) hn
 ·-- field
  rename_i t x fl ho
  obtain ⟨u,hu,hq⟩:=map_some h
  cases hq
  exact QP (by simp only [execOp,ho]) hR (QbG (hV x) hu) hn
 ·-- indexAddr
  rename_i t x i ho
  obtain ⟨u,hu,hq⟩:=map_some h
  cases hq
  exact QP (by simp only [execOp,ho]) hR (QbF (hV x) (hV i) hu) hn
 ·-- index
  rename_i t x i ho
  obtain ⟨u,hu,hq⟩:=map_some h
  cases hq
  exact QP (by simp only [execOp,ho]) hR (QaR (hV x) (hV i) hu) hn
 ·-- lookup
  rename_i T m k cok ho
  have hm:=hV m
  split at h
  ·rename_i g ks vs hx
   obtain ⟨u,hu,hq⟩:=map_some h
   cases hq
   rw [hx] at hm
   generalize hy:a.eval m=y at hm
   cases hm with
   | imap _ _ _ r es clock hr hok hwr hl hl' hkp hk hv =>
    refine QP (s:=Instr.lookup T (.map (some r)) (a.eval k) cok) (by simp only [execOp,ho,hy]) hR ?_ hn
    exact XQ (.inr ⟨r,clock,rfl,hwr⟩) hkp.2 (hV k) hl hl' hk hv (CEvo.of_nil c) hu
  ·rename_i hx
   obtain ⟨u,hu,hq⟩:=map_some h
   cases hq
   rw [hx] at hm
   have hy:=hm.nilmap_inv
   refine QP (s:=Instr.lookup T (.map none) (a.eval k) cok) (by simp only [execOp,ho,hy]) hR ?_ hn
   exact XQ (es:=#[]) (d':=c) (.inl ⟨rfl,rfl⟩) .nil (hV k) rfl rfl (by intro q v m h1 h2;simp at h2) (by intro q v m h1 h2;simp at h2) (CEvo.refl c) hu
  ·rename_i b hx
   split at h
   ·rename_i ks vs mx hb
    obtain ⟨u,hu,hq⟩:=map_some h
    cases hq
    rw [hx] at hm
    generalize hy:a.eval m=y at hm
    cases hm with
    | map _ r ks' vs' mx' hH hs =>
     obtain ⟨_,hdf,r',hs',_,es,clock,hw,hl,hl',hk,hv⟩:=hR.blk b _ hb
     have:r'=r:=by rw [hs] at hs';cases hs';rfl
     subst this
     refine QP (s:=Instr.lookup T (.map (some r')) (a.eval k) cok) (by simp only [execOp,ho,hy]) hR ?_ hn
     exact XQ (d':=c) (.inr ⟨r',clock,rfl,hw⟩) hdf.2 (hV k) hl hl' hk hv (CEvo.refl c) hu
   ·cases h
  ·cases h
 ·-- mapUpdate
  rename_i T m k x ho
  obtain ⟨u,hu,hq⟩:=map_some h
  cases hq
  exact Ua (by simp only [execOp,ho]) (GR hR (hV m) (hV k) (hV x) hu) hn
 ·-- insert
  rename_i T m k x ho
  obtain ⟨u,hu,hq⟩:=map_some h
  cases hq
  exact Ua (by simp only [execOp,ho]) (GR hR (hV m) (hV k) (hV x) hu) hn
 ·-- extract
  rename_i t i ho
  split at h
  ·rename_i vs hx
   obtain ⟨u,hu,hq⟩:=map_some h
   cases hq
   have h1:=hV t
   rw [hx] at h1
   generalize hy:a.eval t=y at h1
   cases h1 with
   | tuple _ rs hl hh =>
    have:i<rs.size:=by have:=Qd hu;omega
    refine QP (s:=Instr.extract (.tuple rs) i) (by simp only [execOp,ho,hy]) hR ⟨rs[i],by simp [Instr.extract,this],hh i _ _ hu (by simp [this])⟩ hn
  ·cases h
 ·-- call
  rename_i cl ho
  split at h
  ·rename_i b hb
   exact DO ho hb hR he h hn
  ·rename_i g hg
   split at h
   rotate_left
   ·cases h
   rename_i g' args ht
   split at h
   rotate_left
   ·cases h
   rename_i hcall
   unfold YF at ht
   split at ht
   rotate_left
   ·cases ht
   rename_i g'' fa ca hx
   cases ht
   have h1:=hV g
   rw [hx] at h1
   generalize hy:a.eval g=y at h1
   cases h1 with
   | func _ _ _ ra rc hl hl' h2 h3 =>
    have ha:=U4 he cl.args
    unfold Oper.wp
    have hrun:(execOp a.eval o).run P w=.ok (.enter g' (ra++cl.args.map a.eval++rc)) w:=by
     simp only [execOp,ho,resolve,hg,hy,Deferred.ofValue]
     simp only [Sem.run_bind,Sem.run_pure,Result.andThen_ok,invoke]
     exact DN hcall
    rw [hrun,Oper.upon_enter]
    refine Calls.mono (hC g' _ c.H v H' h hcall c w lo _ rfl hR ?_ ?_) ?_
    ·simp only [List.length_append,Array.size_append,hl,hl',ha.1]
    ·intro i q x g1 g2
     have hfa:ra.toList.length=fa.length:=by simp [hl]
     have haa:(cl.args.map a.eval).toList.length=(cl.args.toList.map (Qk e)).length:=by simp
     rw [← qC] at g2
     simp only [Array.toList_append] at g2
     rw [List.append_assoc] at g1 g2
     rcases Nat.lt_or_ge i fa.length with hi | hi
     ·rw [qG hi] at g1
      rw [qG (by omega)] at g2
      exact h2 i q x g1 (by rw [← qC];exact g2)
     ·rw [qH hi] at g1
      rw [qH (by omega),hfa] at g2
      rcases Nat.lt_or_ge (i-fa.length) (cl.args.toList.map (Qk e)).length with hj | hj
      ·rw [qG hj] at g1
       rw [qG (by rw [haa];exact hj)] at g2
       exact ha.2 _ q x g1 (by rw [← qC];exact g2)
      ·rw [qH hj] at g1
       rw [qH (by rw [haa];exact hj),haa] at g2
       exact h3 _ q x g1 (by rw [← qC];exact g2)
    ·rintro ex w' ⟨rv,c',rfl,k1,k2,k3,k4⟩
     exact hn c' w' rv k1 k2 k3 k4
  ·cases h
 ·cases h

end
end Go.HL


/- Regions in the order of the text. -/
namespace Go.HL
section
variable {w:World} {c:Ctx} {P:Program} {lo:Nat}

theorem QY (a:Act) (d:Option Tmp) (v:Value):(a.put d v).defers=a.defers:=by cases d <;> rfl
theorem QR (a:Act) (d:Option Tmp) (v:Value):(a.put d v).tmps.size=a.tmps.size:=by cases d <;> simp [Act.put]

theorem W4 {ops:Array Oper} {o:Oper} {e:Env} {a:Act} {b:Bool} (h:Q2 ops o e=some b)
  (he:RelE w c lo e a.tmps):Region.wanted o (yielded ops a.tmps)=b:=by
 unfold Q2 at h
 unfold Region.wanted
 split at h
 ·rename_i hg;rw [hg];simpa using h
 ·rename_i j want hg
  rw [hg]
  simp only
  split at h
  ·rename_i hd
   unfold yielded
   rw [hd]
   cases h
   simp
  ·rename_i d hd
   unfold yielded
   rw [hd]
   simp only [Option.bind_some]
   have h1:=he d
   split at h
   ·rename_i x hx
    rw [hx] at h1
    have h2:=h1.bool_inv
    have h3:a.tmps[d]?=some (.bool x):=by
     rw [jW] at h2
     cases hq:a.tmps[d]? with
     | none=>rw [hq] at h2;cases h2
     | some y=>rw [hq] at h2;simp at h2;rw [h2]
    rw [h3]
    cases h
    cases x <;> cases want <;> rfl
   ·rename_i hx
    rw [hx] at h1
    generalize hy:a.tmps.getD d undef=y at h1
    cases h1 with
    | tuple _ rs hl hh =>
     cases h
     rw [jW] at hy
     cases hq:a.tmps[d]? with
     | none=>rfl
     | some z=>rw [hq] at hy;simp at hy;subst hy;rfl
   ·cases h

def Zj (nt:Nat) (ops:Array Oper):Bool:=ops.toList.all fun o=>match o.dst with | some d=>decide (d<nt) | none=>true

theorem Wp {nt:Nat} {ops:Array Oper} (h:Zj nt ops=true) {i:Nat} {o:Oper} (hi:ops[i]?=some o):∀t,o.dst=some t→t<nt:=by
 intro t ht
 have:=List.all_eq_true.1 h o (by rw [Array.mem_toList_iff];exact Array.mem_of_getElem? hi)
 rw [ht] at this
 simpa using this

def After (lo:Nat) (c:Ctx) (w:World) (a:Act) (e':Env) (H':Heap) (K:Act→World→Prop):Prop :=
 ∀(c':Ctx) (w':World) (a':Act),c'.H=H'→Rel lo c' w'→RelE w' c' lo e' a'.tmps→Evo lo c w c' w'→a'.defers=a.defers→a'.tmps.size=a.tmps.size→K a' w'

theorem Ub {pol:Pol} {f:FuncId} {rg:Nat} {ops:Array Oper} {asg:List Nat} {call:QB} {Q:Exit→Act→World→Prop} {e':Env} {H':Heap} (hC:Qo P call) :
  ∀(n i:Nat) {c:Ctx} {w:World} {a:Act} {e:Env},i+n=ops.size→Rel lo c w→RelE w c lo e a.tmps→Zj a.tmps.size ops=true →
   ZH P pol f rg ops asg call (ops.toList.drop i) e c.H=some (e',H')→After lo c w a e' H' (Q .normal)→wpOps P ops Q (qS i n) a w
 | 0,i,c,w,a,e,hn,hR,he,hd,h,hK=>by
  rw [List.drop_eq_nil_of_le (by simp;omega)] at h
  cases h
  exact hK c w a rfl hR he (Evo.refl _ _ _) rfl rfl
 | n+1,i,c,w,a,e,hn,hR,he,hd,h,hK=>by
  have hi:i<ops.size:=by omega
  have hio:ops[i]?=some ops[i]:=by simp [hi]
  rw [List.range'_succ]
  simp only [wpOps,hio]
  rw [List.drop_eq_getElem_cons (by simpa using hi)] at h
  simp only [Array.getElem_toList] at h
  generalize hoo:ops[i]=o at h hio ⊢
  unfold ZH at h
  split at h
  ·rename_i hw
   rw [W4 hw he]
   simp only [if_true]
   split at h
   ·rename_i v H1 hev
    refine .inl (Vk hC hR he hev fun c1 w1 rv k1 k2 k3 k4=>?_)
    subst k1
    refine Ub hC n (i+1) (by omega) k2 ((he.evo k4).put k3 (Wp hd hio)) (by rw [QR];exact hd) h ?_
    intro c' w' a' g1 g2 g3 g4 g5 g6
    exact hK c' w' a' g1 g2 g3 (k4.trans g4) (g5.trans (QY _ _ _)) (g6.trans (QR _ _ _))
   ·cases h
  ·rename_i hw
   rw [W4 hw he]
   simp only [qD,if_false]
   refine Ub hC n (i+1) (by omega) hR (he.put (.tuple [] #[] rfl (by simp)) (Wp hd hio)) (by rw [QR];exact hd) h ?_
   intro c' w' a' g1 g2 g3 g4 g5 g6
   exact hK c' w' a' g1 g2 g3 g4 (g5.trans (QY _ _ _)) (g6.trans (QR _ _ _))
  ·cases h

theorem QaV {pol:Pol} {f:FuncId} {rg:Nat} {ops:Array Oper} {asg:List Nat} {call:QB} {Q:Exit→Act→World→Prop} {a:Act} {e e':Env} {H':Heap} (hC:Qo P call)
  (hR:Rel lo c w) (he:RelE w c lo e a.tmps) (hd:Zj a.tmps.size ops=true) (h:ZH P pol f rg ops asg call ops.toList e c.H=some (e',H')) (hK:After lo c w a e' H' (Q .normal)) :
  (Code.region rg ops false).wp P Q a w:=by
 apply wp_region
 rw [List.range_eq_range']
 exact Ub hC ops.size 0 (by omega) hR he hd h hK

/-! ### Which blocks and slots an operation looks at -/

theorem GS {e e':Env} {x:Operand} (h:∀t,x=.tmp t→e.get t=e'.get t):Qk e x=Qk e' x:=by
 cases x with
 | tmp t=>exact h t rfl
 | _=>rfl

theorem VR {e e':Env} {xs:Array Operand} (h:∀x,x∈xs→Qk e x=Qk e' x):xs.toList.map (Qk e)=xs.toList.map (Qk e') :=
 List.map_congr_left fun x hx=>h x (Array.mem_toList_iff.1 hx)

theorem Xj {e e':Env} {ps:Array (Nat×Operand)} (h:∀x,x∈ps.map (·.2)→Qk e x=Qk e' x):(ps.toList.map fun p=>(p.1,Qk e p.2))=ps.toList.map fun p=>(p.1,Qk e' p.2) :=
 List.map_congr_left fun p hp=>by rw [h p.2 (Array.mem_map.2 ⟨p,Array.mem_toList_iff.1 hp,rfl⟩)]

theorem C5 {pol:Pol} {f:FuncId} {rg:Nat} {asg:List Nat} {call:QB} {o:Oper} {e e':Env} {H:Heap} (h:∀x,x∈o.op.operands→Qk e x=Qk e' x) :
  WG P pol f rg asg call o e H=WG P pol f rg asg call o e' H:=by
 obtain ⟨dst,op,type,pos,after,guard⟩:=o
 unfold WG
 cases op <;> simp only [Op.operands] at h <;> try rfl
 case move x=>simp only [h x (by simp)]
 case assign x =>
  have:=h x (by simp)
  simp only
  split
  ·rw [this]
  ·rw [this]
 case pick cc x y=>simp only [h cc (by simp),h x (by simp),h y (by simp)]
 case box t x=>simp only [h x (by simp)]
 case build t ps=>simp only [Xj (ps:=ps) fun x hx=>h x (by simpa using hx)]
 case buildSlice t n ps=>simp only [Xj (ps:=ps) fun x hx=>h x (by simpa using hx)]
 case load t x=>simp only [h x (by simp)]
 case store t x y=>simp only [h x (by simp),h y (by simp)]
 case nilCheck x=>simp only [h x (by simp)]
 case binOp op t x y b =>
  have h1:=h x (by simp)
  have h2:=h y (by simp)
  simp only [h1,h2]
 case unOp op t x=>simp only [h x (by simp)]
 case convert s t x=>simp only [h x (by simp)]
 case makeFunc g first captured =>
  have h1:=VR (xs:=first) fun x hx=>h x (by simp [hx])
  have h2:=VR (xs:=captured) fun x hx=>h x (by simp [hx])
  cases g <;> simp only [h1,h2]
 case makeMap t r=>cases r <;> rfl
 case makeSlice t l cp=>simp only [h l (by simp),h cp (by simp)]
 case slice t x l hi mx =>
  have h0:=h x (by simp)
  have h1:l.map (Qk e)=l.map (Qk e'):=by cases l <;> simp_all
  have h2:hi.map (Qk e)=hi.map (Qk e'):=by cases hi <;> simp_all
  have h3:mx.map (Qk e)=mx.map (Qk e'):=by cases mx <;> simp_all
  simp only [h0,h1,h2,h3]
 case fieldAddr s x fl=>simp only [h x (by simp)]
 case field s x fl=>simp only [h x (by simp)]
 case indexAddr s x i=>simp only [h x (by simp),h i (by simp)]
 case index s x i=>simp only [h x (by simp),h i (by simp)]
 case lookup T m k cok=>simp only [h m (by simp),h k (by simp)]
 case mapUpdate T m k x=>simp only [h m (by simp),h k (by simp),h x (by simp)]
 case insert T m k x=>simp only [h m (by simp),h k (by simp),h x (by simp)]
 case extract x i=>simp only [h x (by simp)]
 case call cl =>
  have h1:=VR (xs:=cl.args) fun x hx=>h x (by simp [Call.operands,hx])
  obtain ⟨callee,args,tys⟩:=cl
  cases callee with
  | builtin b=>simp only [h1]
  | value g =>
   have h2:=h g (by simp [Call.operands])
   simp only at h1
   simp only [h1,h2]
  | invoke r m=>rfl

end
end Go.HL


