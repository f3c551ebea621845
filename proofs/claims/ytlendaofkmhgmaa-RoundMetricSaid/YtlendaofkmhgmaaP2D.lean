/- A part of the proof. -/
import Derived.Test.YtlendaofkmhgmaaP2C
set_option linter.unusedVariables false
set_option linter.unusedSimpArgs false
set_option linter.unnecessarySimpa false
open Go.IntKind renaming i64 → qA
open List renaming range → qB, getElem?_set_ne → qC, length_map → qD, getElem?_append_left → qF, length_append → qH, length_singleton → qJ, getElem?_eq_getElem → qK, length_cons → qL, getD → qM, getElem?_append_right → qN, getElem?_set_self → qP, take_of_length_le → qQ, cons_append → qR, nodup_nil → qS, foldl_cons → qT, append_assoc → qV, mem_cons_of_mem → qX, nil_append → qY, map_cons → qZ, mem_singleton → jE, countP_cons → jG, range' → jH, replicate → jI, length_take → jJ, getElem?_take → jN, countP_mono_left → jP, length_range → jQ, mem_filter → jU, ext_getElem → jV, size_toArray → jW, length_nil → jX, push_toArray → zC, append_toArray → zD, set_append_right → zE, not_mem_nil → zG, nodup_range → zI, getElem?_replicate → zK, range_succ → zL, drop_zero → zM, getElem?_map → zN, any_eq_true → zP, range'_succ → zQ, singleton_append → zR, range_eq_range' → zS, nodup_cons → zT, getElem?_take_of_lt → zU, getElem_mem → zV, eq_nil_of_length_eq_zero → zW, take_succ_eq_append_getElem → zX, take_length → zY, length_set → zZ, take_append_of_le_length → wA, length_erase_of_mem → wB, length_pos_of_mem → wC, mem_zipIdx_iff_getElem? → wD, eq_of_mem_replicate → wE
open Nat renaming le_refl → qE, zero_le → qI, le_trans → qW, reduceAdd → jY, reduceSub → jZ, two_pow_pos → zF, mul_one → zO
open Int renaming toNat_natCast → qG, le_refl → qO, add_mul → zJ
open Bool renaming and_eq_true → qU, or_eq_true → zH
open Option renaming getD_some → jA
open Array renaming replicate_succ → zA, replicate_zero → zB
section
open Go Go.HL
namespace Go.Proofs.Ytlendaofkmhgmaa
set_option linter.unusedSectionVars false
open Go.Proofs.Try renaming prog → Tp
open Go.HL.HV renaming undef → Ud
theorem Qmx (n:Nat):Qo Tp (Qa Tp polK n):=QW _ (fun g f h=>by
 split at h
 ·rename_i hg;cases h;rw [eq_of_beq hg];exact Xz
 split at h
 ·rename_i hg;cases h;rw [eq_of_beq hg];exact Vp
 split at h
 ·rename_i hg;cases h;rw [eq_of_beq hg];exact QcH
 ·cases h) n
theorem QgZ:Try.f23.results.toList=[.tmp 6,.tmp 7,.tmp 8]:=by kernel_rfl
def okW (d:List (List Int)) (fa:List Int) (to v L u:Nat):Bool:=L.testBit u&&KD d fa v u&&ldT d fa to u (wo L u)
def wyF (d:List (List Int)) (fa:List Int) (to:Nat):Nat→Nat→Nat→List Int
 | 0,_,_=>[]
 | k+1,v,L=>if v=to then [] else match pck (okW d fa to v L) d.length 0 with | some u=>(u:Int)::wyF d fa to k u (wo L u) | none=>[]
def WP (d:List (List Int)) (fr to:Nat):List Int:=(fr:Int)::wyF d (Zl d to) to (2 ^ d.length) fr (wo (2 ^ d.length-1) fr)
def QfW (f:List (List Int)→Int→Int→Option HV):List HV→Option HV
 | [.imm .arg 1 rw,.int .i64 a,.int .i64 b]=>(match mapO G9 rw with | some R=>f R a b | none=>none)
 | _=>none
theorem Qdy {f:List (List Int)→Int→Int→Option HV} {args:List HV} {res:HV} (h:QfW f args=some res):∃R a b,args=[.imm .arg 1 (R.map Qb),.int .i64 a,.int .i64 b]∧f R a b=some res:=by
 unfold QfW at h
 split at h
 ·rename_i rw a b
  split at h
  ·rename_i R hR
   exact ⟨R,a,b,by rw [W7 K2 hR],h⟩
  ·cases h
 ·cases h
open Classical in
noncomputable def Qax:List HV→Option HV:=QfW fun R a b=>if R.length≤1000∧(R.all fun r=>decide (r.length≤1000))=true then
 (if okD R∧(0≤a∧a<R.length)∧0≤b∧b<R.length then (if ldT R (Zl R b.toNat) b.toNat a.toNat (wo (2 ^ R.length-1) a.toNat)=true∧(WP R a.toNat b.toNat).length≤500 then some (.tuple [.own 1 ((WP R a.toNat b.toNat).map hvI),.int .i64 ((Zl R b.toNat).getD a.toNat 0),.int .i64 0]) else none)
  else some (.tuple [.own 1 [],.int .i64 0,.int .i64 2])) else none
section
variable {d:List (List Int)} {fa:List Int} {to:Nat}
abbrev Qo3 (d:List (List Int)) (a b:Int):Env:=UK (.imm .arg 1 (d.map Qb)) (.int .i64 a) (.int .i64 b) (.ptr 0 0 0 1) (.ptr 1 0 0 1) (.imm .lit 1 []) (.int .i64 0) (.int .i64 0) Ud Ud Ud Ud Ud Ud Ud Ud Ud Ud Ud Ud Ud Ud Ud Ud Ud
theorem Good.mono {ks:List (Int×Int)} {g:Int×Int→Bool} {B B':Nat} (h:Good d fa to ks g B) (hB:B'≤B):Good d fa to ks g B':=fun q hq hq2=>h q hq (by omega)
theorem Good.step {ks ks':List (Int×Int)} {g g':Int×Int→Bool} {B w:Nat} (h:Good d fa to ks g B) (h':Good d fa to ks' g' (w+1)) (hk:Kept ks ks' g g' w):Good d fa to ks' g' B:=fun q hq hq2=>by
 by_cases c:q.2<((w+1:Nat):Int)
 ·exact h' q hq c
 ·have:=hk q (by omega)
  rw [this.2]
  exact h q (this.1.1 hq) hq2
abbrev waE (d:List (List Int)) (fr:Int) (to:Nat) (v9 v10 v11 v12 v13 v14 v15 v16 v17 v43 v44 v47 v48 v52 v53 v97 v98:HV):Env:=UK (.imm .arg 1 (d.map Qb)) (.int .i64 fr) (.int .i64 (to:Int)) (.ptr 0 0 0 1) (.ptr 1 0 0 1) (.imm .lit 1 []) (.int .i64 0) (.int .i64 0) v9 v10 v11 v12 v13 v14 v15 v16 v17 v43 v44 v47 v48 v52 v53 v97 v98
abbrev WH (d:List (List Int)) (to:Nat) (A:List Int):Heap:=[.arr 1 [.imm .arg 1 (d.map Qb)] true 0,.arr 1 [.int .i64 (to:Int)] true 0,bI A,.arr 1 [.sl 2 0 d.length none d.length 1] true 5,.arr 1 [] true 0]
theorem wh0 (A:List Int):Qh Tp (WH d to A) 22 (.ptr 0 0 0 1)=some (.imm .arg 1 (d.map Qb)):=Qv (b:=0) rfl rfl rfl rfl a22 i22
theorem wh3 (A:List Int):Qh Tp (WH d to A) 23 (.ptr 3 0 0 1)=some (.sl 2 0 d.length none d.length 1):=Qv (b:=3) rfl rfl rfl rfl a23 i23
theorem wh2 {A:List Int} (hA:A.length=d.length) {v:Nat} (hv:v<d.length):Qh Tp (WH d to A) 3 (.ptr 2 v 0 d.length)=some (.int .i64 (A.getD v 0)):=by
 rw [← hA]
 exact Xt (k:=2) rfl (by omega)
theorem whs {A:List Int} (hA:A.length=d.length) {v:Nat} (hv:v<d.length) (x:Int):QM Tp (WH d to A) 3 (.ptr 2 v 0 d.length) (.int .i64 x)=some (WH d to (A.set v x)):=by
 have:=J4 (k:=2) (H:=WH d to A) (o:=A) rfl (y:=v) (by omega) x
 rw [hA] at this
 exact this
theorem Qo4 (h:okD d) {fr:Int} {i j:Nat} (hj:j<d.length):∀m k (A:List Int),k+m=d.length→BdA d.length A →
  RT polK 23 (sn 4010598 B23) (waE d fr to (.ptr 3 0 0 1) (.int .i64 (j:Int)) Ud Ud Ud Ud Ud Ud Ud (.int .i64 (d.length:Int)) (.int .i64 (i:Int)) (.int .i64 (d.length:Int)) (.int .i64 (j:Int)) (.int .i64 (d.length:Int)) (.int .i64 (k:Int)) Ud Ud) (WH d to A) (.exit 4)
   (waE d fr to (.ptr 3 0 0 1) (.int .i64 (j:Int)) Ud Ud Ud Ud Ud Ud Ud (.int .i64 (d.length:Int)) (.int .i64 (i:Int)) (.int .i64 (d.length:Int)) (.int .i64 (j:Int)) (.int .i64 (d.length:Int)) (.int .i64 (d.length:Int)) Ud Ud) (WH d to ((UI j m k).foldl (rl d) A)):=by
 intro m
 induction m with
 | zero =>
  intro k A hk hA
  have:k=d.length:=by omega
  subst this
  exact lpo (Ql2 0 (d.map Qb) [] d.length fr to (WH d to A) i j d.length (by omega))
 | succ m ih =>
  intro k A hk hA
  have b1:=hA.2 k (by omega)
  have b2:=h.at hj (j:=k) (by omega)
  have hw:qA.wrap (at2 d j k+A.getD k 0)=at2 d j k+A.getD k 0:=Qn (by omega) (by omega)
  have s:=Ql1 0 (d.map Qb) [] d.length fr to (WH d to A) i j k _ _ _ _ _ (by omega) (wh3 A) (wh3 A) (ixF hj) (wh2 hA.1 hj) (wh0 A) (XE hj) (XF h hj (by omega)) (wh3 A) (ixF (by omega)) (wh2 hA.1 (by omega)) (ixF hj) (whs hA.1 hj _)
  rw [Qc (by have:=h.1;omega),hw] at s
  have e:A.set j (min (A.getD j 0) (at2 d j k+A.getD k 0))=rl d A (k,j):=by
   unfold rl
   show _=A.set j (min (A.getD j 0) (A.getD k 0+at2 d k j))
   rw [(h.2.2 j hj k (by omega)).2.1,Int.add_comm]
  rw [e] at s
  rw [UI,qT]
  exact lop s rfl (ih (k+1) _ (by omega) (hA.rl h (by show k<d.length;omega) hj))
theorem Qo5 (h:okD d) {fr:Int} {i:Nat}:∀m j (A:List Int),j+m=d.length→BdA d.length A →
  RT polK 23 (sn 15666 B23) (waE d fr to (.ptr 3 0 0 1) Ud Ud Ud Ud Ud Ud Ud Ud (.int .i64 (d.length:Int)) (.int .i64 (i:Int)) (.int .i64 (d.length:Int)) (.int .i64 (j:Int)) Ud Ud Ud Ud) (WH d to A) (.exit 2)
   (waE d fr to (.ptr 3 0 0 1) Ud Ud Ud Ud Ud Ud Ud Ud (.int .i64 (d.length:Int)) (.int .i64 (i:Int)) (.int .i64 (d.length:Int)) (.int .i64 (d.length:Int)) Ud Ud Ud Ud) (WH d to ((V6 d.length m j).foldl (rl d) A)):=by
 intro m
 induction m with
 | zero =>
  intro j A hj hA
  have:j=d.length:=by omega
  subst this
  have s:=QlY 0 (d.map Qb) [] d.length fr to (WH d to A) i d.length (by omega)
  have s2:=QfQ 0 (d.map Qb) [] d.length fr to (WH d to A) i d.length
  exact lpo (sq s (sqo s2 (c:=sn 62665 B23) (b:=sn 125331 B23)) (c:=sn 31332 B23))
 | succ m ih =>
  intro j A hj hA
  have s:=QlX 0 (d.map Qb) [] d.length fr to (WH d to A) i j (by omega)
  have s2:=QfP 0 (d.map Qb) [] d.length fr to (WH d to A) i j
  have s3:=QlZ 0 (d.map Qb) [] d.length fr to (WH d to A) i j
  have s4:=Ql0 0 (d.map Qb) [] d.length fr to (WH d to A) i j (wh0 A)
  rw [qD] at s4
  have r:=Qo4 (to:=to) h (fr:=fr) (i:=i) (j:=j) (by omega) d.length 0 A (by omega) hA
  have r':=lpi (e0:=waE d fr to (.ptr 3 0 0 1) (.int .i64 (j:Int)) Ud Ud Ud Ud Ud Ud Ud (.int .i64 (d.length:Int)) (.int .i64 (i:Int)) (.int .i64 (d.length:Int)) (.int .i64 (j:Int)) (.int .i64 (d.length:Int)) (.int .i64 0) Ud Ud) r (b:=sn 8021196 B23)
  have n1:=Ql3 0 (d.map Qb) [] d.length fr to (WH d to ((UI j d.length 0).foldl (rl d) A)) i j d.length
  rw [Qc (by have:=h.1;omega)] at n1
  have t1:=sq s4 (bke (c:=sn 2005299 B23) r') (c:=sn 1002649 B23)
  have t2:=sq s3 t1 (c:=sn 501324 B23)
  have t3:=RunsTo.block_normal (i:=3) (c:=sn 250662 B23) t2 (by kernel_rfl)
  have t4:=sq t3 n1 (c:=sn 125331 B23)
  have t5:=sq s2 t4 (c:=sn 62665 B23)
  have t6:=sq s t5 (c:=sn 31332 B23)
  rw [V6,List.foldl_append]
  exact lop t6 rfl (ih (j+1) _ (by omega) (BdA.fold h _ _ hA (Gs (by omega) d.length 0 (by omega))))
theorem Qo6 (h:okD d) {fr:Int}:∀m i (A:List Int),i+m=d.length→BdA d.length A →
  RT polK 23 (sn 122 B23) (waE d fr to (.ptr 3 0 0 1) Ud Ud Ud Ud Ud Ud Ud Ud (.int .i64 (d.length:Int)) (.int .i64 (i:Int)) Ud Ud Ud Ud Ud Ud) (WH d to A) (.exit 0)
   (waE d fr to (.ptr 3 0 0 1) Ud Ud Ud Ud Ud Ud Ud Ud (.int .i64 (d.length:Int)) (.int .i64 (d.length:Int)) Ud Ud Ud Ud Ud Ud) (WH d to (rnds d (V6 d.length d.length 0) m A)):=by
 intro m
 induction m with
 | zero =>
  intro i A hi hA
  have:i=d.length:=by omega
  subst this
  have s:=QlV 0 (d.map Qb) [] d.length fr to (WH d to A) d.length (by omega)
  have s2:=QfO 0 (d.map Qb) [] d.length fr to (WH d to A) d.length
  exact lpo (sq s (sqo s2 (c:=sn 489 B23) (b:=sn 979 B23)) (c:=sn 244 B23))
 | succ m ih =>
  intro i A hi hA
  have s:=QlU 0 (d.map Qb) [] d.length fr to (WH d to A) i (by omega)
  have s2:=QfN 0 (d.map Qb) [] d.length fr to (WH d to A) i
  have s3:=QlW 0 (d.map Qb) [] d.length fr to (WH d to A) i (wh0 A)
  rw [qD] at s3
  have r:=Qo5 (to:=to) h (fr:=fr) (i:=i) d.length 0 A (by omega) hA
  have n1:=Ql4 0 (d.map Qb) [] d.length fr to (WH d to ((V6 d.length d.length 0).foldl (rl d) A)) i d.length
  rw [Qc (by have:=h.1;omega)] at n1
  have t1:=sq s3 (bke (c:=sn 7833 B23) r) (c:=sn 3916 B23)
  have t3:=RunsTo.block_normal (i:=1) (c:=sn 1958 B23) t1 (by kernel_rfl)
  have t4:=sq t3 n1 (c:=sn 979 B23)
  have t5:=sq s2 t4 (c:=sn 489 B23)
  have t6:=sq s t5 (c:=sn 244 B23)
  rw [rnds]
  exact lop t6 rfl (ih (i+1) _ (by omega) (BdA.fold h _ _ hA (Vy d.length 0 (by omega))))
abbrev tvW (m:Nat):HV:=.sl 11 0 m none m 1
structure BW (d:List (List Int)) (fa:List Int) (to v w:Nat) (o:List Int) (tv:HV) (H:Heap):Prop where
 mem:∃ks g,WM d fa to ks g H∧Good d fa to ks g (w+1)
 box:H[8]?=some (Qz v w)
 st:(tv=.sl 9 0 1 (some 1) 1 1∧o.length=1∧H.length=10∧H[9]?=some (bI o))∨(tv=tvW o.length∧H.length=12∧H[11]?=some (bI o))
theorem BW.len {v w:Nat} {o:List Int} {tv:HV} {H:Heap} (h:BW d fa to v w o tv H):10≤H.length∧H.length≤12∧bnd tv≤H.length:=by
 rcases h.st with ⟨h1,_,h3,_⟩ | ⟨h1,h3,_⟩ <;> rw [h1,h3] <;> simp [bnd]
theorem BW.app {v w:Nat} {o:List Int} {tv:HV} {H H3:Heap} {ks:List (Int×Int)} {g:Int×Int→Bool} (h:BW d fa to v w o tv H) (hM:WM d fa to ks g H3) (hl:H3.length=H.length+1) (hs:∀k,9≤k→k<H.length→H3[k]?=H[k]?) (ho:o.length≤500) (x:Int) :
  ∃H4,WV H3 1 8 tv [.int .i64 x]=some (tvW (o.length+1),H4)∧WM d fa to ks g H4∧H4[8]?=H3[8]?∧H4[11]?=some (bI (o++[x]))∧12≤H4.length:=by
 rcases h.st with ⟨h1,h2,h3,h4⟩ | ⟨h1,h3,h4⟩
 ·have e:=hs 9 (by omega) (by omega)
  rw [h4] at e
  obtain ⟨y,rfl⟩:∃y,o=[y]:=by
   match o,h2 with
   | [y],_=>exact ⟨y,rfl⟩
  subst h1
  refine ⟨H3++[bI ([y]++[x])],?_,hM.app (ZN _) (qI _),qF (by omega),?_,by simp;omega⟩
  ·have e4:H3.length=11:=by omega
   simp only [WV,e,e4]
   simp [Q0,bnd,bndL,hvI]
  ·rw [qN (by omega)];simp [hl,h3]
 ·have e:=hs 11 (by omega) (by omega)
  rw [h4] at e
  subst h1
  have ap:=Z9 (xs:=[x]) e (by simp;omega) (by simp)
  rw [show (o++[x]).length=o.length+1 by simp] at ap
  exact ⟨_,ap,hM.set (by omega) (ZN _) (qI _),qC (by omega),qP (by omega),by simp;omega⟩
abbrev wvE (d:List (List Int)) (fr:Int) (to:Nat) (tv y16 y17 y97 y98:HV):Env:=waE d fr to (.ptr 3 0 0 1) Ud Ud Ud (.ptr 7 0 0 1) (.ptr 8 0 0 1) tv y16 y17 Ud Ud Ud Ud Ud Ud y97 y98
theorem Qoo (hd:okD d) (hf:BdA d.length fa) {fr:Int} {v w:Nat} {o:List Int} {tv:HV} (hv:v<d.length) (hw:w<2 ^ d.length) (ho:o.length≤500):∀k i H u,i+k=d.length→BW d fa to v w o tv H→pck (okW d fa to v w) k i=some u →
  ∃y16 y17 y97 y98 H',RunsTo Tp polK 23 (sn 130954 B23) (wvE d fr to tv Ud Ud (.int .i64 (d.length:Int)) (.int .i64 (i:Int))) H
   (.exit 8) (polK.keys 23) (wvE d fr to (tvW (o.length+1)) y16 y17 y97 y98) H'∧(∃ks g,WM d fa to ks g H'∧Good d fa to ks g (w+1))∧H'[8]?=some (Qz u (wo w u:Nat))∧H'[11]?=some (bI (o++[(u:Int)]))∧12≤H'.length:=by
 have hp:=ZZ hd.1.2
 have hn:=hd.1.2
 intro k
 induction k with
 | zero=>intro i H u _ _ h;cases h
 | succ k ih =>
  intro i H u hi hB hq
  rw [pck] at hq
  obtain ⟨ks,g,hM,hG⟩:=hB.mem
  have bl:=V3 (v:=i) (by omega)
  have bn:=Xy (L:=w) (v:=i) (by omega) (by omega)
  have hl:=hB.len
  have g4:some (Wm (.agg [.int .i64 0,.int .i64 0]) H)=some (.ptr H.length 0 0 1,H++[Qz 0 0]):=by
   rw [show (HV.agg [.int .i64 0,.int .i64 0])=Q5 ((0:Int),(0:Int)) from rfl,Dk]
  have gn0:(H++[Qz 0 0])[H.length]?=some (Qz 0 0):=by rw [qN (qE _)];simp
  have g5:QM Tp (H++[Qz 0 0]) 77 (.ptr H.length 0 0 1) (.agg [.int .i64 (i:Int),.int .i64 ((wo w i:Nat):Int)])=some (H++[Qz i (wo w i:Nat)]):=by
   have:=Qbf (x:=(i:Int)) (y:=((wo w i:Nat):Int)) gn0
   rw [zE _ _ (qE _),Nat.sub_self] at this
   exact this
  have hM0:WM d fa to ks g (H++[Qz 0 0]):=hM.app (Za _ _) (qI _)
  have l0:Qh Tp (H++[Qz 0 0]) 3 (.ptr 8 0 1 1)=some (.int .i64 (w:Int)):=QU (by rw [qF (by omega)];exact hB.box)
  have gS:(WI ((Qh Tp H 3 (.ptr 8 0 1 1)).map (fun v=>(v,(H:Heap)))) ((Qh Tp (H++[Qz 0 0]) 3 (.ptr 8 0 1 1)).map (fun v=>(v,((H++[Qz 0 0]):Heap)))) H (H++[Qz 0 0])&&true)=true:=by
   rw [QU hB.box,l0]
   simp only [Option.map,WI,hM.rf,hM0.rf]
   simp [same]
  have hM1:WM d fa to ks g (H++[Qz i (wo w i:Nat)]):=hM.app (Za _ _) (qI _)
  have low:∀k,k<H.length→(H++[Qz (i:Int) (wo w i:Nat)])[k]?=H[k]?:=fun k hk=>qF hk
  have x1:(H++[Qz i (wo w i:Nat)])[8]?=some (Qz v w):=by rw [low 8 (by omega)];exact hB.box
  have x3:(H++[Qz (i:Int) (wo w i:Nat)])[H.length]?=some (Qz i (wo w i:Nat)):=by rw [qN (qE _)];simp
  have ll:(H++[Qz (i:Int) (wo w i:Nat)]).length=H.length+1:=by simp
  have cut:∀(H':Heap) ks' g',WM d fa to ks' g' H'→gc H.length (Zm (wvE d fr to tv Ud Ud (.int .i64 (d.length:Int)) (.int .i64 ((i+1:Nat):Int)))) H'=H'.take H.length:=fun H' ks' g' hM'=>by
   rw [hM'.gc (by omega)]
   congr 1
   simp only [Zm,bnd,bndL]
   omega
  by_cases c:w.testBit i=true
  ·have hne:¬((w:Int)=((wo w i:Nat):Int)):=by have:=ZC c;omega
   have hwl:=ZC c
   have b1:=hd.at hv (j:=i) (by omega)
   have b2:=hf.2 i (by omega)
   have hwr:qA.wrap (at2 d v i+fa.getD i 0)=at2 d v i+fa.getD i 0:=Qn (by omega) (by omega)
   by_cases c2:at2 d v i+fa.getD i 0=fa.getD v 0
   ·have hti:KD d fa v i=true:=decide_eq_true c2
    obtain ⟨ks2,g2,H2,hcl,hM2,hG2,hK2,hF⟩:=QfV hd hf w i (wo w i) (Xv _ _) (by omega) (by omega) ks g _ hM1 (hG.mono (by omega))
    obtain ⟨N,hN⟩:=CallsTo.from hcl
    have hG3:=hG.step hG2 hK2
    have y1:H2[8]?=some (Qz v w):=by rw [hF.same _ (by omega)];exact x1
    have y3:H2[H.length]?=some (Qz i (wo w i:Nat)):=by rw [hF.same _ (by omega)];exact x3
    have l2:=Qd y1
    cases hb:ldT d fa to i (wo w i) with
    | true =>
     rw [hb] at hN
     have hok:okW d fa to v w i=true:=by rw [okW,c,hti,hb];rfl
     rw [if_pos hok] at hq
     cases hq
     have s3:=Qbf (x:=(i:Int)) (y:=((wo w i:Nat):Int)) y1
     obtain ⟨H4,ap,hM4,z1,z4,z5⟩:=hB.app (H3:=H2.set 8 (Qz i (wo w i:Nat))) (hM2.set (by omega) (Za _ _) (qI _)) (by simp [hF.len]) (fun k h2 hk=>by rw [qC (by omega),hF.same _ (by omega),low _ hk]) ho (i:Int)
     have s:=Qme N (d.map Qb) [] d.length fr to H tv v w i H.length ((wo w i:Nat):Int) _ _ _ _ _ _ _ _ H2 _ _ _ (by omega) (QU hB.box) bl bn g4 g5 gS (QU x1) (QU x3) hne hM1.l0 (Zb x1) (XE hv) (XF hd hv (by omega)) hM1.l3 (ixF (by omega)) (hM1.l2 hf.1 (by omega)) hM1.l3 (Zb x1) (ixF hv) (hM1.l2 hf.1 hv) (by rw [hwr];exact c2) hM1.l6 (Kt x3) hN (Kt y3) s3 ap
     refine ⟨_,_,_,_,_,lpo s,⟨ks2,g2,hM4,hG3⟩,?_,z4,z5⟩
     rw [z1,qP (by omega)]
    | false =>
     rw [hb] at hN
     have hok:¬okW d fa to v w i=true:=by rw [okW,hb];simp
     rw [if_neg hok] at hq
     have s:=Qmf N (d.map Qb) [] d.length fr to H tv v w i H.length ((wo w i:Nat):Int) _ _ _ _ _ _ _ _ H2 (by omega) (QU hB.box) bl bn g4 g5 gS (QU x1) (QU x3) hne hM1.l0 (Zb x1) (XE hv) (XF hd hv (by omega)) hM1.l3 (ixF (by omega)) (hM1.l2 hf.1 (by omega)) hM1.l3 (Zb x1) (ixF hv) (hM1.l2 hf.1 hv) (by rw [hwr];exact c2) hM1.l6 (Kt x3) hN
     rw [Qc (by omega)] at s
     have tl:(H2.take H.length).length=H.length:=by rw [jJ,hF.len,ll];omega
     have tk:∀k,k≠5→k<H.length→(H2.take H.length)[k]?=H[k]?:=fun k h0 hk=>by rw [jN,if_pos hk,hF.same _ h0,low _ hk]
     have hB2:BW d fa to v w o tv (H2.take H.length):=by
      refine ⟨⟨ks2,g2,hM2.take (by omega),hG3⟩,by rw [tk 8 (by omega) (by omega)];exact hB.box,?_⟩
      rcases hB.st with ⟨h1,h2,h3,h4⟩ | ⟨h1,h3,h4⟩
      ·exact .inl ⟨h1,h2,tl.trans h3,by rw [tk 9 (by omega) (by omega)];exact h4⟩
      ·exact .inr ⟨h1,tl.trans h3,by rw [tk 11 (by omega) (by omega)];exact h4⟩
     obtain ⟨y16,y17,y97,y98,H',r,r2⟩:=ih (i+1) _ u (by omega) hB2 hq
     exact ⟨y16,y17,y97,y98,H',lop s (cut _ _ _ hM2) r,r2⟩
   ·have hti:KD d fa v i=false:=decide_eq_false c2
    have hok:¬okW d fa to v w i=true:=by rw [okW,hti];simp
    rw [if_neg hok] at hq
    have s:=Qmg 0 (d.map Qb) [] d.length fr to H tv v w i H.length ((wo w i:Nat):Int) _ _ _ _ _ _ _ _ (by omega) (QU hB.box) bl bn g4 g5 gS (QU x1) (QU x3) hne hM1.l0 (Zb x1) (XE hv) (XF hd hv (by omega)) hM1.l3 (ixF (by omega)) (hM1.l2 hf.1 (by omega)) hM1.l3 (Zb x1) (ixF hv) (hM1.l2 hf.1 hv) (by rw [hwr];exact c2)
    rw [Qc (by omega)] at s
    have ec:=cut _ _ _ hM1
    have et:(H++[Qz (i:Int) (wo w i:Nat)]).take H.length=H:=by rw [wA (qE _),qQ (qE _)]
    rw [et] at ec
    obtain ⟨y16,y17,y97,y98,H',r,r2⟩:=ih (i+1) _ u (by omega) hB hq
    exact ⟨y16,y17,y97,y98,H',lop s ec r,r2⟩
  ·have hok:¬okW d fa to v w i=true:=by rw [okW,Jy c];simp
   rw [if_neg hok] at hq
   have e:wo w i=w:=by unfold wo;rw [if_neg c]
   rw [e] at bn g5 hM1 x1 x3
   have s:=Qmd 0 (d.map Qb) [] d.length fr to H tv v w i H.length (w:Int) _ _ _ _ (by omega) (QU hB.box) bl bn g4 g5 gS (QU x1) (QU x3) rfl
   rw [Qc (by omega)] at s
   have ec:=cut _ _ _ hM1
   have et:(H++[Qz (i:Int) (w:Int)]).take H.length=H:=by rw [wA (qE _),qQ (qE _)]
   rw [et] at ec
   obtain ⟨y16,y17,y97,y98,H',r,r2⟩:=ih (i+1) _ u (by omega) hB hq
   exact ⟨y16,y17,y97,y98,H',lop s ec r,r2⟩
theorem QfX {v w:Nat} (hvt:v≠to) (hl:ldT d fa to v w=true):∃u,pck (okW d fa to v w) d.length 0=some u∧u<d.length∧w.testBit u=true∧KD d fa v u=true∧ldT d fa to u (wo w u)=true:=by
 rw [J6,decide_eq_false hvt,Bool.false_or,UJ] at hl
 obtain ⟨u,h1,h2⟩:=hl
 cases hp:pck (okW d fa to v w) d.length 0 with
 | none =>
  have:=Cc _ _ hp u h1.1 h1.2
  rw [okW] at this
  rw [this] at h2
  cases h2
 | some x =>
  obtain ⟨h3,h4,_⟩:=Xw _ _ hp
  simp only [okW,qU] at h4
  exact ⟨x,rfl,by omega,h4.1.1,h4.1.2,h4.2⟩
theorem QfY (hd:okD d) (hf:BdA d.length fa) {fr:Int}:∀(k v w:Nat) (o:List Int) (tv:HV) (H:Heap),w≤k→v<d.length→w<2 ^ d.length→ldT d fa to v w=true→BW d fa to v w o tv H→o.length+(wyF d fa to (k+1) v w).length≤500 →
  ∃tb cap H',RT polK 23 (sn 4092 B23) (wvE d fr to tv Ud Ud Ud Ud) H (.exit 6) (wvE d fr to (.sl tb 0 (o++wyF d fa to (k+1) v w).length cap (o++wyF d fa to (k+1) v w).length 1) Ud Ud Ud Ud) H'∧H'[tb]?=some (bI (o++wyF d fa to (k+1) v w))∧∃ks g,WM d fa to ks g H':=by
 have h0:∀(w:Nat) (o:List Int) (tv:HV) (H:Heap),BW d fa to to w o tv H→∃tb cap H',RT polK 23 (sn 4092 B23) (wvE d fr to tv Ud Ud Ud Ud) H (.exit 6) (wvE d fr to (.sl tb 0 (o++[]).length cap (o++[]).length 1) Ud Ud Ud Ud) H'∧H'[tb]?=some (bI (o++[]))∧∃ks g,WM d fa to ks g H':=fun w o tv H hB=>by
  rw [List.append_nil]
  obtain ⟨ks,g,hM,hG⟩:=hB.mem
  have f:=Qma 0 (d.map Qb) [] d.length fr to H tv to w (Zb hB.box) hM.l1 rfl
  have r:=lpo (sqo f (c:=sn 8184 B23) (b:=sn 16369 B23)) (c:=sn 4092 B23)
  rcases hB.st with ⟨h1,h2,h3,h4⟩ | ⟨h1,h3,h4⟩
  ·subst h1
   rw [h2]
   exact ⟨9,some 1,H,r,h4,ks,g,hM⟩
  ·subst h1
   exact ⟨11,none,H,r,h4,ks,g,hM⟩
 intro k
 induction k with
 | zero =>
  intro v w o tv H hk hv _ hl hB _
  have:w=0:=by omega
  subst this
  have hvt:v=to:=by
   unfold ldT ldF at hl
   exact of_decide_eq_true hl
  subst hvt
  rw [wyF,if_pos rfl]
  exact h0 0 o tv H hB
 | succ k ih =>
  intro v w o tv H hk hv hw hl hB hlen
  by_cases cv:v=to
  ·subst cv
   rw [wyF,if_pos rfl]
   exact h0 w o tv H hB
  ·obtain ⟨u,p1,p2,p3,p4,p5⟩:=QfX cv hl
   have eg:wyF d fa to (k+1+1) v w=(u:Int)::wyF d fa to (k+1) u (wo w u):=by rw [wyF,if_neg cv,p1]
   rw [eg] at hlen ⊢
   rw [qL] at hlen
   obtain ⟨ks,g,hM,hG⟩:=hB.mem
   have f:=Qmb 0 (d.map Qb) [] d.length fr to H tv v w (Zb hB.box) hM.l1 (by omega)
   have gu:=Qmc 0 (d.map Qb) [] d.length fr to H tv v w hM.l0
   rw [qD] at gu
   obtain ⟨y16,y17,y97,y98,H2,r,⟨ks1,g1,r1,r1'⟩,r2,r3,r4⟩:=Qoo (fr:=fr) hd hf hv hw (by omega) d.length 0 H u (by omega) hB p1
   have t1:=sq gu (bke (c:=sn 65477 B23) r) (c:=sn 32738 B23)
   have t3:=RunsTo.block_normal (i:=7) (c:=sn 16369 B23) t1 (by kernel_rfl)
   have t4:=sq f t3 (c:=sn 8184 B23)
   have hwl:=ZC p3
   have hB2:BW d fa to u (wo w u) (o++[(u:Int)]) (tvW (o.length+1)) (H2.take 12):=by
    refine ⟨⟨ks1,g1,r1.take (by omega),r1'.mono (by omega)⟩,?_,.inr ⟨by simp,by rw [jJ];omega,?_⟩⟩
    ·rw [jN,if_pos (by omega)];exact r2
    ·rw [jN,if_pos (by omega)];exact r3
   have ec:gc H.length (Zm (wvE d fr to (tvW (o.length+1)) Ud Ud Ud Ud)) H2=H2.take 12:=by
    have:=hB.len
    rw [r1.gc (by omega)]
    congr 1
    simp only [Zm,bnd,bndL]
    omega
   obtain ⟨tb,cap,H',q1,q2,q3⟩:=ih u (wo w u) (o++[(u:Int)]) _ (H2.take 12) (by omega) p2 (by omega) p5 hB2 (by simp;omega)
   rw [qV] at q1 q2
   exact ⟨tb,cap,H',lop t4 ec q1,q2,q3⟩
theorem QfZ (x:Int) (H:Heap):YU Tp true true 23 1 [(0,.int .i64 x)] H=some (.sl H.length 0 1 (some 1) 1 1,H++[bI [x]]):=by kernel_rfl
theorem Qay {n:Nat}:2 ^ n-1<2 ^ n:=by
 have:=zF n
 omega
end
theorem Qmy:QN Tp 23 Qax:=by
 refine Qp (pol:=polK) (fn:=Try.f23) (cd:=B23) Qi Qmx (by kernel_rfl) (by kernel_rfl) (Jj polK.prim _ _ (by kernel_rfl)) (by kernel_rfl) ?_
 intro args res h
 obtain ⟨d,a0,b0,rfl,hq⟩:=Qdy h
 clear h
 split at hq
 ·rename_i hc
  have wa:=QlN 0 (d.map Qb) a0 b0 [] [.arr 1 [.imm .arg 1 (d.map Qb)] true 0] [.arr 1 [.imm .arg 1 (d.map Qb)] true 0,.arr 1 [.int .i64 b0] true 0] rfl rfl
  have l0:Qh Tp [.arr 1 [.imm .arg 1 (d.map Qb)] true 0,.arr 1 [.int .i64 b0] true 0] 22 (.ptr 0 0 0 1)=some (.imm .arg 1 (d.map Qb)):=Qv (b:=0) rfl rfl rfl rfl a22 i22
  have l1:Qh Tp [.arr 1 [.imm .arg 1 (d.map Qb)] true 0,.arr 1 [.int .i64 b0] true 0] 3 (.ptr 1 0 0 1)=some (.int .i64 b0):=Qv (b:=1) rfl rfl rfl rfl a3 i3
  have wl:qA.wrap (((d.map Qb).length:Int)-1)=(d.length:Int)-1:=by rw [qD,Wc];omega
  split at hq
  ·rename_i hin
   obtain ⟨hd,ha,hb⟩:=hin
   have hn:=hd.1
   have hp:=ZZ hd.1.2
   obtain ⟨fr,rfl⟩:∃x:Nat,a0=(x:Int):=⟨a0.toNat,by omega⟩
   obtain ⟨to,rfl⟩:∃x:Nat,b0=(x:Int):=⟨b0.toNat,by omega⟩
   simp only [qG] at hq
   have hfr:fr<d.length:=by omega
   have hto:to<d.length:=by omega
   split at hq
   ·rename_i hld
    obtain ⟨hld,hlen⟩:=hld
    cases hq
    have m1:=Wl (pol':=polK) (by kernel_rfl) hc.1 hc.2 [.arr 1 [.imm .arg 1 (d.map Qb)] true 0,.arr 1 [.int .i64 (to:Int)] true 0] true (Jz hd)
    have b:=QlO 0 (d.map Qb) fr to _ _ l0 (fun kf _=>m1 kf) l0 (by rw [wl];omega) l1 l0 (by rw [wl];omega)
    have hrow:=Gt hd hto
    have c52:∀kf,0≤kf→Qa Tp polK (kf+1) 52 [.imm .arg 1 ((d.getD to []).map hvI)] [.arr 1 [.imm .arg 1 (d.map Qb)] true 0,.arr 1 [.int .i64 (to:Int)] true 0]=some (.sl 2 0 d.length none d.length 1,[.arr 1 [.imm .arg 1 (d.map Qb)] true 0,.arr 1 [.int .i64 (to:Int)] true 0,bI (d.getD to [])]):=fun kf _=>by
     rw [Qt (pol:=polK) (g:=52) (F:=YM) (by kernel_rfl) (rs:=[.imm .arg 1 ((d.getD to []).map hvI)]) (by simp only [mapO,X1]) (res:=.own 1 ((d.getD to []).map hvI)) (by simp only [YM,liF,QH WL];rw [if_pos (by rw [hrow.1];omega)]),Df,hrow.1]
     rfl
    have st3:QM Tp [.arr 1 [.imm .arg 1 (d.map Qb)] true 0,.arr 1 [.int .i64 (to:Int)] true 0,bI (d.getD to []),.arr 1 [.sl 4 0 0 none 0 1] true 5,.arr 1 [] true 0] 23 (.ptr 3 0 0 1) (.sl 2 0 d.length none d.length 1)=some (WH d to (d.getD to [])):=by kernel_rfl
    have c:=QlS 0 (d.map Qb) [] d.length fr to _ _ _ _ _ l0 l1 (XE hto) c52 rfl st3
    have dd:=QlT 0 (d.map Qb) [] d.length fr to (WH d to (d.getD to [])) (wh0 _)
    rw [qD] at dd
    have r0:=Qo6 (to:=to) hd (fr:=(fr:Int)) d.length 0 (d.getD to []) (by omega) hrow
    have r0':=lpi (e0:=waE d fr to (.ptr 3 0 0 1) Ud Ud Ud Ud Ud Ud Ud Ud (.int .i64 (d.length:Int)) (.int .i64 0) Ud Ud Ud Ud Ud Ud) r0 (b:=sn 244 B23)
    have hfb:BdA d.length (Zl d to):=BdA.rnds hd (Vy d.length 0 (by omega)) d.length _ hrow
    have hfe:rnds d (V6 d.length d.length 0) d.length (d.getD to [])=Zl d to:=rfl
    rw [hfe] at r0'
    have o:=Ql5 0 (d.map Qb) [] d.length fr to (WH d to (Zl d to)) d.length _ _ (WH d to (Zl d to)++[.map [] [] 0,.arr 1 [.map 5] true 6]) rfl rfl (by show QM _ _ _ _ _=_;kernel_rfl)
    have p:=Ql6 0 (d.map Qb) [] d.length fr to (WH d to (Zl d to)++[.map [] [] 0,.arr 1 [.map 5] true 6]) d.length _ rfl
    have q:=Ql7 0 (d.map Qb) [] d.length fr to (WH d to (Zl d to)++[.map [] [] 0,.arr 1 [.map 5] true 6]++[.arr 1 [.nilFunc] true 0]) d.length (WH d to (Zl d to)++[.map [] [] 0,.arr 1 [.map 5] true 6,.arr 1 [fnK] true 8]) (by show QM _ _ _ _ _=_;kernel_rfl)
    have hW:WM d (Zl d to) to [] (fun _=>false) (WH d to (Zl d to)++[.map [] [] 0,.arr 1 [.map 5] true 6,.arr 1 [fnK] true 8]):=by
     refine ⟨rfl,rfl,rfl,rfl,rfl,rfl,rfl,qS,?_,by simp [mxs,Blk.mx]⟩
     have e1:sameL (d.map Qb) (d.map Qb)=true:=Zh fun v hv=>by
      obtain ⟨k,_,rfl⟩:=List.mem_map.1 hv
      exact Xx k
     refine Kx (WC fun v hv=>by rw [jE] at hv;subst hv;simp [same,e1]) (Kx (WC fun v hv=>by rw [jE] at hv;subst hv;simp [same]) (Kx (ZN _) (Kx (WC fun v hv=>by rw [jE] at hv;subst hv;simp [same]) ?_)))
     rfl
    have h2:1≤2 ^ d.length:=zF _
    have ew:qA.wrap (((2 ^ d.length:Nat):Int)-1)=((2 ^ d.length-1:Nat):Int):=by
     generalize 2 ^ d.length=x at hp h2
     rw [Qn (by omega) (by omega)];omega
    have bl:=V3 (v:=d.length) (by omega)
    have bl2:=V3 (v:=fr) (by omega)
    have bn:=Xy (L:=2 ^ d.length-1) (v:=fr) (by omega) (by omega)
    generalize hHq:WH d to (Zl d to)++[.map [] [] 0,.arr 1 [.map 5] true 6,.arr 1 [fnK] true 8]=Hq at q hW
    have hql:Hq.length=8:=by rw [← hHq];rfl
    have hWb:WM d (Zl d to) to [] (fun _=>false) (Hq++[Qz 0 0]):=hW.app (Za _ _) (qI _)
    have gn0:(Hq++[Qz 0 0])[8]?=some (Qz 0 0):=by rw [qN (by omega),hql];rfl
    have st8:=Qbf (x:=(fr:Int)) (y:=((wo (2 ^ d.length-1) fr:Nat):Int)) gn0
    have e8:(Hq++[Qz 0 0]).set 8 (Qz fr (wo (2 ^ d.length-1) fr:Nat))=Hq++[Qz fr (wo (2 ^ d.length-1) fr:Nat)]:=by
     rw [zE _ _ (by omega),hql];rfl
    rw [e8] at st8
    have rr:=Ql8 0 (d.map Qb) [] d.length fr to Hq d.length _ _ _ _ _ hW.l0 (by rw [qD];exact bl) bl2 (by rw [ew];exact bn) (by rw [show (HV.agg [.int .i64 0,.int .i64 0])=Q5 ((0:Int),(0:Int)) from rfl,Dk,hql]) st8 (by
     rw [hW.l0,hWb.l0]
     have e1:same (.imm .arg 1 (d.map Qb)) (.imm .arg 1 (d.map Qb))=true:=by
      have e1:sameL (d.map Qb) (d.map Qb)=true:=Zh fun v hv=>by
       obtain ⟨k,_,rfl⟩:=List.mem_map.1 hv
       exact Xx k
      simp [same,e1]
     simp only [Option.map,WI,hW.rf,hWb.rf,e1]
     simp [same])
    have hWc:WM d (Zl d to) to [] (fun _=>false) (Hq++[Qz fr (wo (2 ^ d.length-1) fr:Nat)]):=hW.app (Za _ _) (qI _)
    have s:=Ql9 0 (d.map Qb) [] d.length fr to (Hq++[Qz fr (wo (2 ^ d.length-1) fr:Nat)]) d.length _ _ (QfZ _ _)
    have hcl:(Hq++[Qz (fr:Int) (wo (2 ^ d.length-1) fr:Nat)]).length=9:=by simp [hql]
    rw [hcl] at s
    have hB:BW d (Zl d to) to fr (wo (2 ^ d.length-1) fr) [(fr:Int)] (.sl 9 0 1 (some 1) 1 1) (Hq++[Qz (fr:Int) (wo (2 ^ d.length-1) fr:Nat)]++[bI [(fr:Int)]]):=by
     refine ⟨⟨[],fun _=>false,hWc.app (ZN _) (qI _),fun q hq=>by cases hq⟩,?_,.inl ⟨rfl,rfl,by simp [hql],?_⟩⟩
     ·rw [qF (by omega),qN (by omega),hql];rfl
     ·rw [qN (by omega),hcl];rfl
    obtain ⟨Kp,hKp⟩:∃Kp,2 ^ d.length=Kp+1:=⟨2 ^ d.length-1,by omega⟩
    have hwl:=Xv (2 ^ d.length-1) fr
    have ewy:WP d fr to=[(fr:Int)]++wyF d (Zl d to) to (Kp+1) fr (wo (2 ^ d.length-1) fr):=by rw [← hKp];rfl
    obtain ⟨tb,cap,H',q1,q2,ks,g,hWf⟩:=QfY (to:=to) hd hfb (fr:=(fr:Int)) Kp fr (wo (2 ^ d.length-1) fr) [(fr:Int)] _ _ (by omega) hfr (by omega) hld hB (by rw [ewy,qH] at hlen;exact hlen)
    rw [← ewy] at q1 q2
    have q1':=lpi (e0:=waE d fr to (.ptr 3 0 0 1) Ud Ud (.ptr 6 0 0 1) (.ptr 7 0 0 1) (.ptr 8 0 0 1) (.sl 9 0 1 (some 1) 1 1) Ud Ud (.int .i64 (d.length:Int)) (.int .i64 (d.length:Int)) Ud Ud Ud Ud Ud Ud) q1 (b:=sn 8184 B23)
    have z:=Qmh 0 (d.map Qb) [] d.length fr to H' (.sl tb 0 (WP d fr to).length cap (WP d fr to).length 1) 0 0 Ud Ud Ud Ud _ hWf.l3 (ixF hfr) (hWf.l2 hfb.1 hfr)
    have t1:=sq (bke (c:=sn 2046 B23) q1') z (c:=sn 1023 B23)
    have t2:=sq s t1 (c:=sn 511 B23)
    have t3:=sq rr t2 (c:=sn 255 B23)
    have t4:=sq q t3 (c:=sn 127 B23)
    have t5:=sq p t4 (c:=sn 63 B23)
    have t6:=sq o t5 (c:=sn 31 B23)
    have t7:=sq dd (bke (c:=sn 61 B23) r0') (c:=sn 30 B23)
    have t8:=sq t7 t6 (c:=sn 15 B23)
    have t9:=sq c t8 (c:=sn 7 B23)
    have t10:=sq wa (sq b t9 (c:=sn 3 B23)) (c:=B23)
    exact ⟨_,_,_,.tuple [.sl tb 0 (WP d fr to).length cap (WP d fr to).length 1,.int .i64 ((Zl d to).getD fr 0),.int .i64 0],t10,by simp,by simp only [Qf,QgZ];rfl,Dl q2 rfl _ 0⟩
   ·cases hq
  ·rename_i hin
   cases hq
   have out:∀E Hd,RT polK 23 (sn 6 B23) (Qo3 d a0 b0) [.arr 1 [.imm .arg 1 (d.map Qb)] true 0,.arr 1 [.int .i64 b0] true 0] .ret E Hd→E.get 6=.imm .lit 1 []→E.get 7=.int .i64 0→E.get 8=.int .i64 2 →
     ∃x E H' v,RT polK 23 B23 (ZS [.imm .arg 1 (d.map Qb),.int .i64 a0,.int .i64 b0]) [] x E H'∧(∀i,x≠.exit i)∧Qf Tp Try.f23 E H'=some v∧We H' (polK.deep 23) v=some (.tuple [.own 1 [],.int .i64 0,.int .i64 2]):=by
    intro E Hd t h6 h7 h8
    exact ⟨_,_,_,.tuple [.imm .lit 1 [],.int .i64 0,.int .i64 2],sq wa (sqo t (c:=sn 3 B23) (b:=sn 7 B23)) (c:=B23),by simp,by simp only [Qf,QgZ,mapO,Q3,h6,h7,h8],rfl⟩
   by_cases c1:okD d
   ·have m1:=Wl (pol':=polK) (by kernel_rfl) hc.1 hc.2 [.arr 1 [.imm .arg 1 (d.map Qb)] true 0,.arr 1 [.int .i64 b0] true 0] true (Jz c1)
    by_cases c2:(0:Int)≤a0∧a0≤(d.length:Int)-1
    ·have c3:¬((0:Int)≤b0∧b0≤(d.length:Int)-1):=fun h=>hin ⟨c1,by omega,by omega⟩
     exact out _ _ (QlP 0 (d.map Qb) a0 b0 _ _ l0 (fun kf _=>m1 kf) l0 (by rw [wl];exact c2) l1 l0 (by rw [wl];exact c3)) rfl rfl rfl
    ·exact out _ _ (QlQ 0 (d.map Qb) a0 b0 _ _ l0 (fun kf _=>m1 kf) l0 (by rw [wl];exact c2)) rfl rfl rfl
   ·have m1:=Wl (pol':=polK) (by kernel_rfl) hc.1 hc.2 [.arr 1 [.imm .arg 1 (d.map Qb)] true 0,.arr 1 [.int .i64 b0] true 0] false (ZD c1)
    exact out _ _ (QlR 0 (d.map Qb) a0 b0 _ _ l0 (fun kf _=>m1 kf)) rfl rfl rfl
 ·cases hq
def Ch (R:Nat→Nat→Prop):Nat→List Int→Prop
 | _,[]=>True
 | s,v::p=>R s v.toNat∧Ch R v.toNat p
theorem Ch.mono {R R':Nat→Nat→Prop} (h:∀a b,R a b→R' a b):∀(p:List Int) (s:Nat),Ch R s p→Ch R' s p
 | [],_,_=>trivial
 | v::p,s,hp=>⟨h _ _ hp.1,Ch.mono h p _ hp.2⟩
theorem Ch.split {R:Nat→Nat→Prop}:∀(p q:List Int) (s:Nat),Ch R s (p++q)↔Ch R s p∧Ch R (QV s p) q
 | [],q,s=>by simp [Ch,QV]
 | v::p,q,s=>by rw [qR,Ch,Ch,QV,Ch.split p q,and_assoc]
theorem Cv (d:List (List Int)):∀(p q:List Int) (s:Nat),pc d s (p++q)=pc d s p+pc d (QV s p) q
 | [],q,s=>by simp [pc,QV]
 | v::p,q,s=>by rw [qR,pc,pc,QV,Cv d p q];omega
theorem Vb:∀(p q:List Int) (s:Nat),QV s (p++q)=QV (QV s p) q
 | [],q,s=>rfl
 | v::p,q,s=>by rw [qR,QV,QV,Vb p q]
theorem inT.tail {n:Nat} {v:Int} {p:List Int} (h:inT n (v::p)):inT n p:=fun w hw=>h w (by simp [hw])
theorem inT.hd {n:Nat} {v:Int} {p:List Int} (h:inT n (v::p)):v.toNat<n∧((v.toNat:Nat):Int)=v:=by
 have:=h v (by simp);omega
theorem inT.app {n:Nat} {p q:List Int}:inT n (p++q)↔inT n p∧inT n q :=
 ⟨fun h=>⟨fun v hv=>h v (by simp [hv]),fun v hv=>h v (by simp [hv])⟩,fun h v hv=>(List.mem_append.1 hv).elim (h.1 v) (h.2 v)⟩
theorem Ky {n:Nat} {p:List Int} (h:p.Nodup) (hp:inT n p):p.length≤n:=by
 have h2:=h.length_le_of_subset (l₂:=(qB n).map fun i:Nat=>(i:Int)) fun x hx=>by
  have:=hp x hx
  exact List.mem_map.2 ⟨x.toNat,List.mem_range.2 (by omega),by omega⟩
 simpa using h2
section
variable {d:List (List Int)}
theorem Dv (h:okD d):∀(p:List Int) (s:Nat),s<d.length→inT d.length p→0≤pc d s p
 | [],_,_,_=>by simp [pc]
 | v::p,s,hs,hp=>by
  have:=hp.hd.1
  have h1:=h.at hs this
  have h2:=Dv h p v.toNat this hp.tail
  rw [pc];omega
theorem Qbt (h:okD d):∀(k:Nat) (p:List Int) (s:Nat),p.length≤k→s<d.length→inT d.length p →
  ∃p',p'.Nodup∧(s:Int)∉p'∧(∀v∈p',v∈p)∧QV s p'=QV s p∧pc d s p'≤pc d s p:=by
 intro k
 induction k with
 | zero =>
  intro p s hk hs hp
  have:p=[]:=List.length_eq_zero_iff.1 (by omega)
  subst this
  exact ⟨[],qS,by simp,by simp,rfl,qO _⟩
 | succ k ih =>
  intro p s hk hs hp
  by_cases c:(s:Int)∈p
  ·obtain ⟨p1,p2,rfl⟩:=List.append_of_mem c
   rw [qH,qL] at hk
   have hp1:=(inT.app.1 hp).1
   have hp2:=(inT.app.1 hp).2
   obtain ⟨p',q1,q2,q3,q4,q5⟩:=ih p2 s (by omega) hs hp2.tail
   refine ⟨p',q1,q2,fun v hv=>by simp [q3 v hv],?_,?_⟩
   ·rw [q4,Vb,QV,qG]
   ·rw [Cv,pc,qG]
    have h1:=Dv h p1 s hs hp1
    have h2:=h.at (UH p1 s hs hp1) hs
    omega
  ·cases p with
   | nil=>exact ⟨[],qS,by simp,by simp,rfl,qO _⟩
   | cons v p =>
    have hv:=hp.hd
    obtain ⟨p',q1,q2,q3,q4,q5⟩:=ih p v.toNat (by simpa using hk) hv.1 hp.tail
    rw [hv.2] at q2
    refine ⟨v::p',List.nodup_cons.2 ⟨q2,q1⟩,fun hm=>?_,fun w hw=>?_,?_,?_⟩
    ·rcases List.mem_cons.1 hm with e | hm
     ·exact c (by simp [e])
     ·exact c (by simp [q3 _ hm])
    ·rcases List.mem_cons.1 hw with e | hm
     ·simp [e]
     ·simp [q3 _ hm]
    ·rw [QV,QV,q4]
    ·rw [pc,pc];omega
theorem Qg0 {A:List Int} {p:Nat×Nat} (h2:p.2<A.length) (v:Nat):(rl d A p).getD v 0≤A.getD v 0:=by
 unfold rl
 rw [Vx _ _ _ _ h2]
 split
 ·rename_i e;subst e;omega
 ·omega
theorem Gu {A:List Int} {p:Nat×Nat}:(rl d A p).length=A.length:=by simp [rl]
theorem XI:∀(ps:List (Nat×Nat)) (A:List Int),(ps.foldl (rl d) A).length=A.length
 | [],A=>rfl
 | p::ps,A=>by rw [qT,XI ps,Gu]
theorem Gv:∀(ps:List (Nat×Nat)) (A:List Int),(∀p∈ps,p.2<A.length)→∀v,(ps.foldl (rl d) A).getD v 0≤A.getD v 0
 | [],A,_,v=>qO _
 | p::ps,A,h,v=>by
  rw [qT]
  have h1:=Gv ps (rl d A p) (fun q hq=>by rw [Gu];exact h q (by simp [hq])) v
  have h2:=Qg0 (d:=d) (h p (by simp)) v
  omega
theorem Cw:∀(ps:List (Nat×Nat)) (A:List Int),(∀p∈ps,p.2<A.length)→∀p∈ps,(ps.foldl (rl d) A).getD p.2 0≤A.getD p.1 0+at2 d p.1 p.2
 | q::ps,A,h,p,hp=>by
  rw [qT]
  have hq:∀q'∈ps,q'.2<(rl d A q).length:=fun q' hq'=>by rw [Gu];exact h q' (by simp [hq'])
  rcases List.mem_cons.1 hp with e | hp
  ·subst e
   have h1:=Gv (d:=d) ps (rl d A p) hq p.2
   have h2:(rl d A p).getD p.2 0≤A.getD p.1 0+at2 d p.1 p.2:=by
    unfold rl
    rw [Vx _ _ _ _ (h p (by simp)),if_pos rfl]
    omega
   omega
  ·have h1:=Cw ps (rl d A q) hq p hp
   have h2:=Qg0 (d:=d) (h q (by simp)) p.1
   omega
theorem Dw {ps:List (Nat×Nat)} {n:Nat} (hps:∀p∈ps,p.2<n):∀(k:Nat) (A:List Int) (s:Nat) (p:List Int),A.length=n→Ch (fun a b=>(a,b)∈ps) s p→p.length≤k→(rnds d ps k A).getD (QV s p) 0≤A.getD s 0+pc d s p:=by
 intro k
 induction k with
 | zero =>
  intro A s p hA hc hk
  have:p=[]:=List.length_eq_zero_iff.1 (by omega)
  subst this
  simp [rnds,QV,pc]
 | succ k ih =>
  intro A s p hA hc hk
  rw [rnds]
  have hp':∀p∈ps,p.2<A.length:=fun p hp=>by rw [hA];exact hps p hp
  cases p with
  | nil =>
   have h1:=ih (ps.foldl (rl d) A) s [] (by rw [XI];exact hA) trivial (by simp)
   have h2:=Gv (d:=d) ps A hp' s
   simp only [QV,pc] at h1 ⊢
   omega
  | cons v p =>
   have h1:=ih (ps.foldl (rl d) A) v.toNat p (by rw [XI];exact hA) hc.2 (by simpa using hk)
   have h2:=Cw (d:=d) ps A hp' _ hc.1
   rw [QV,pc]
   simp only at h2
   omega
theorem Cx {n:Nat} {Q:Nat→Int→Prop}:∀(ps:List (Nat×Nat)) (A:List Int),(∀p∈ps,p.1<n∧p.2<n)→(∀p∈ps,∀a,Q p.1 a→Q p.2 (a+at2 d p.1 p.2))→A.length=n→(∀v,v<n→Q v (A.getD v 0))→∀v,v<n→Q v ((ps.foldl (rl d) A).getD v 0)
 | [],A,_,_,_,h=>h
 | p::ps,A,hp,hQ,hA,h=>by
  rw [qT]
  refine Cx ps _ (fun q hq=>hp q (by simp [hq])) (fun q hq=>hQ q (by simp [hq])) (by rw [Gu];exact hA) fun v hv=>?_
  have h1:=(hp p (by simp))
  unfold rl
  rw [Vx _ _ _ _ (by rw [hA];exact h1.2)]
  split
  ·rename_i e
   subst e
   have q1:=h p.2 hv
   have q2:=hQ p (by simp) _ (h p.1 h1.1)
   by_cases c:A.getD p.2 0≤A.getD p.1 0+at2 d p.1 p.2
   ·rwa [Int.min_eq_left c]
   ·rwa [Int.min_eq_right (by omega)]
  ·exact h v hv
theorem Cy {n:Nat} {Q:Nat→Int→Prop} {ps:List (Nat×Nat)} (hp:∀p∈ps,p.1<n∧p.2<n) (hQ:∀p∈ps,∀a,Q p.1 a→Q p.2 (a+at2 d p.1 p.2)):∀(k:Nat) (A:List Int),A.length=n→(∀v,v<n→Q v (A.getD v 0))→∀v,v<n→Q v ((rnds d ps k A).getD v 0)
 | 0,A,_,h=>h
 | k+1,A,hA,h=>by
  rw [rnds]
  exact Cy hp hQ k _ (by rw [XI];exact hA) (Cx ps A hp hQ hA h)
theorem Cz {u x y:Nat}:∀k v,(x,y)∈UI u k v↔y=u∧v≤x∧x<v+k
 | 0,v=>by simp only [UI,zG,false_iff];omega
 | k+1,v=>by
  rw [UI,List.mem_cons,Cz k (v+1),Prod.mk.injEq];omega
theorem CA {n x y:Nat}:∀k u,(x,y)∈V6 n k u↔x<n∧u≤y∧y<u+k
 | 0,v=>by simp only [V6,zG,false_iff];omega
 | k+1,v=>by
  rw [V6,List.mem_append,CA k (v+1),Cz];omega
end
section
variable {d:List (List Int)}
variable {to:Nat}
theorem CB (h:okD d) (ht:to<d.length) {v:Nat} (hv:v<d.length):∃p,inT d.length p∧QV to p=v∧(Zl d to).getD v 0=pc d to p:=by
 refine Cy (d:=d) (Q:=fun v a=>∃p,inT d.length p∧QV to p=v∧a=pc d to p) (Vy d.length 0 (by omega)) ?_ d.length (d.getD to []) (Gt h ht).1 ?_ v hv
 ·rintro ⟨x,y⟩ hp a ⟨p,h1,h2,h3⟩
  have:=Vy d.length 0 (by omega) _ hp
  refine ⟨p++[(y:Int)],inT.app.2 ⟨h1,fun v hv=>by rw [jE] at hv;subst hv;omega⟩,J5 p y to,?_⟩
  simp only
  rw [Gr,h2,h3]
 ·intro v hv
  exact ⟨[(v:Int)],fun w hw=>by rw [jE] at hw;subst hw;omega,by simp [QV],by simp [pc,at2]⟩
theorem Qdz {n:Nat}:∀(p:List Int) (s:Nat),s<n→inT n p→Ch (fun a b=>(a,b)∈V6 n n 0) s p
 | [],_,_,_=>trivial
 | v::p,s,hs,hp=>by
  have:=hp.hd
  exact ⟨(CA n 0).2 (by omega),Qdz p _ this.1 hp.tail⟩
theorem Qmz (h:okD d) (ht:to<d.length):∀(p:List Int),inT d.length p→p.length≤d.length→(Zl d to).getD (QV to p) 0≤pc d to p:=by
 have hps:∀p∈V6 d.length d.length 0,p.2<d.length:=fun p hp=>(Vy d.length 0 (by omega) p hp).2
 intro p hp hk
 cases p with
 | nil =>
  have:=Dw (d:=d) hps d.length (d.getD to []) to [] (Gt h ht).1 trivial (by simp)
  have h0:=(h.2.2 to ht to ht).2.2 rfl
  unfold at2 at h0
  simp only [pc,h0] at this ⊢
  exact this
 | cons v p =>
  have hv:=hp.hd
  have:=Dw (d:=d) hps d.length (d.getD to []) v.toNat p (Gt h ht).1 (Qdz p _ hv.1 hp.tail) (by simp at hk;omega)
  rw [QV,pc]
  exact this
theorem Qaz (h:okD d) (ht:to<d.length) (p:List Int) (hp:inT d.length p):(Zl d to).getD (QV to p) 0≤pc d to p:=by
 obtain ⟨p',q1,q2,q3,q4,q5⟩:=Qbt h p.length p to (qE _) ht hp
 have hp':inT d.length p':=fun v hv=>hp v (q3 v hv)
 have:=Qmz h ht p' hp' (Ky q1 hp')
 rw [q4] at this
 omega
theorem Qf0 (h:okD d) (ht:to<d.length) {u v:Nat} (hu:u<d.length) (hv:v<d.length):(Zl d to).getD v 0≤at2 d v u+(Zl d to).getD u 0:=by
 obtain ⟨p,h1,h2,h3⟩:=CB h ht hu
 have:=Qaz h ht (p++[(v:Int)]) (inT.app.2 ⟨h1,fun w hw=>by rw [jE] at hw;subst hw;omega⟩)
 rw [J5,Gr,h2,← h3] at this
 have hs:=(h.2.2 u hu v hv).2.1
 omega
theorem QdA (h:okD d) (ht:to<d.length):∀(k:Nat) (p:List Int),p.length≤k→inT d.length p→(Zl d to).getD (QV to p) 0=pc d to p→∃q,inT d.length q∧Ch (fun a b=>KD d (Zl d to) a b=true) (QV to p) q∧QV (QV to p) q=to:=by
 intro k
 induction k with
 | zero =>
  intro p hk hp he
  have:p=[]:=List.length_eq_zero_iff.1 (by omega)
  subst this
  exact ⟨[],hp,trivial,rfl⟩
 | succ k ih =>
  intro p hk hp he
  rcases List.eq_nil_or_concat p with rfl | ⟨p,v,rfl⟩
  ·exact ⟨[],hp,trivial,rfl⟩
  ·rw [List.concat_eq_append] at hp he hk ⊢
   have hp1:=(inT.app.1 hp).1
   have hv:=(inT.app.1 hp).2.hd
   obtain ⟨v,rfl⟩:∃x:Nat,v=(x:Int):=⟨v.toNat,by omega⟩
   rw [qG] at hv
   rw [J5,Gr] at he
   rw [J5]
   have hl:=UH p to ht hp1
   have h1:=Qaz h ht p hp1
   have h2:=Qf0 h ht hl hv.1
   have hs:=(h.2.2 _ hl v hv.1).2.1
   obtain ⟨q,q1,q2,q3⟩:=ih p (by simp at hk;omega) hp1 (by omega)
   refine ⟨((QV to p:Nat):Int)::q,fun w hw=>?_,⟨?_,?_⟩,?_⟩
   ·rcases List.mem_cons.1 hw with rfl | hw
    ·omega
    ·exact q1 w hw
   ·rw [qG]
    exact decide_eq_true (by omega)
   ·rw [qG];exact q2
   ·rw [QV,qG];exact q3
theorem Qop (h:okD d) {fa:List Int}:∀(k:Nat) (p:List Int) (f L:Nat),p.length≤k→L<2 ^ d.length→f<d.length→inT d.length p→Ch (fun a b=>KD d fa a b=true) f p→QV f p=to→(∀u∈p,u≠(f:Int)→L.testBit u.toNat=true)→ldT d fa to f (wo L f)=true:=by
 have h11:=h.1.2
 have h2048:=ZZ h.1.2
 intro k
 induction k with
 | zero =>
  intro p f L hk hL hf hp hc hl hb
  have:p=[]:=List.length_eq_zero_iff.1 (by omega)
  subst this
  rw [J6,show f=to from hl];simp
 | succ k ih =>
  intro p f L hk hL hf hp hc hl hb
  by_cases c:(f:Int)∈p
  ·obtain ⟨p1,p2,rfl⟩:=List.append_of_mem c
   rw [Ch.split] at hc
   rw [Vb,QV,qG] at hl
   rw [qH,qL] at hk
   have hc2:=hc.2.2
   rw [qG] at hc2
   exact ih p2 f L (by omega) hL hf (inT.app.1 hp).2.tail hc2 hl fun u hu=>hb u (by simp [hu])
  ·cases p with
   | nil=>rw [J6,show f=to from hl];simp
   | cons u p =>
    have hu:=hp.hd
    have hwb:=fun x=>X2 (L:=L) (v:=f) (by omega) (by omega) x
    have hne:∀w∈u::p,(wo L f).testBit w.toNat=true:=fun w hw=>by
     have h1:w≠(f:Int):=fun e=>c (e▸hw)
     have h2:=hp w hw
     rw [hwb,hb w hw h1,Bool.true_and]
     exact decide_eq_true (by omega)
    have hw:=Xv L f
    have:=ih p u.toNat (wo L f) (by simpa using hk) (by omega) hu.1 hp.tail hc.2 hl fun w hw _=>hne w (by simp [hw])
    rw [J6,zH]
    refine .inr ((UJ _ _).2 ⟨u.toNat,by omega,?_⟩)
    rw [hne u (by simp),hc.1,this];rfl
theorem QdB {n u:Nat}:(2 ^ n-1).testBit u=decide (u<n):=Nat.testBit_two_pow_sub_one n u
theorem QdC (h:okD d) (ht:to<d.length) {f:Nat} (hf:f<d.length):ldT d (Zl d to) to f (wo (2 ^ d.length-1) f)=true:=by
 obtain ⟨p,h1,h2,h3⟩:=CB h ht hf
 obtain ⟨q,q1,q2,q3⟩:=QdA h ht p.length p (qE _) h1 (by rw [h2];exact h3)
 rw [h2] at q2 q3
 refine Qop h q.length q f _ (qE _) Qay hf q1 q2 q3 fun u hu _=>?_
 have:=q1 u hu
 rw [QdB,decide_eq_true_eq];omega
theorem Qg1 (h:okD d) {fa:List Int}:∀(k v w:Nat),w<2 ^ d.length→inT d.length (wyF d fa to k v w)∧(wyF d fa to k v w).Nodup∧∀u∈wyF d fa to k v w,w.testBit u.toNat=true:=by
 have h11:=h.1.2
 have h2048:=ZZ h.1.2
 intro k
 induction k with
 | zero=>intro v w _;exact ⟨fun u hu=>(by cases hu),qS,fun u hu=>(by cases hu)⟩
 | succ k ih =>
  intro v w hw
  rw [wyF]
  split
  ·exact ⟨fun u hu=>(by cases hu),qS,fun u hu=>(by cases hu)⟩
  ·split
   ·rename_i u hp
    obtain ⟨h3,h4,_⟩:=Xw _ _ hp
    simp only [okW,qU] at h4
    have hlt:=ZC h4.1.1
    obtain ⟨q1,q2,q3⟩:=ih u (wo w u) (by omega)
    have hwb:=fun x=>X2 (L:=w) (v:=u) (by omega) (by omega) x
    refine ⟨fun x hx=>?_,List.nodup_cons.2 ⟨fun hm=>?_,q2⟩,fun x hx=>?_⟩
    ·rcases List.mem_cons.1 hx with rfl | hx
     ·omega
     ·exact q1 x hx
    ·have:=q3 _ hm
     rw [qG,hwb] at this
     simp at this
    ·rcases List.mem_cons.1 hx with rfl | hx
     ·rw [qG];exact h4.1.1
     ·have:=q3 _ hx
      rw [hwb,qU] at this
      exact this.1
   ·exact ⟨fun u hu=>(by cases hu),qS,fun u hu=>(by cases hu)⟩
theorem QaA (h:okD d) {fr:Nat}:(WP d fr to).length≤12:=by
 have hw:=Xv (2 ^ d.length-1) fr
 have:=Qay (n:=d.length)
 obtain ⟨q1,q2,_⟩:=Qg1 (to:=to) h (fa:=Zl d to) (2 ^ d.length) fr (wo (2 ^ d.length-1) fr) (by omega)
 have:=Ky q2 q1
 have:=h.1.2
 unfold WP
 rw [qL]
 omega
end
end Go.Proofs.Ytlendaofkmhgmaa
end
section
open Go Go.HL Go.HL.So
namespace Go.Proofs.Ytlendaofkmhgmaa
set_option linter.unusedSectionVars false
open Go.Proofs.Try renaming prog → Tp
open Go.HL.HV renaming undef → Ud
theorem V8 {p q:Nat→Bool}:∀{l:List Nat} {a:Nat},(∀x∈l,q x=true→p x=true)→a∈l→p a=true→q a=false→l.countP q+1≤l.countP p
 | [],a,_,h,_,_=>by cases h
 | x::l,a,hm,ha,h1,h2=>by
  have mono:l.countP q≤l.countP p:=jP fun y hy=>hm y (by simp [hy])
  rw [jG,jG]
  rcases List.mem_cons.1 ha with rfl | ha'
  ·rw [h1,h2];simp;omega
  ·have ih:=V8 (fun y hy=>hm y (by simp [hy])) ha' h1 h2
   have hx:=hm x (by simp)
   cases hq:q x
   ·cases hp:p x <;> simp <;> omega
   ·rw [hx hq];simp;omega
def UL (g:List Int) (x:Nat):Bool:=decide (0≤x∧g.getD x 0=(x:Int))
def J7 (n:Nat) (g:List Int):Nat:=(qB n).countP (UL g)
def KInvz (n:Nat) (g:List Int):Prop:=g.length=n∧∀x,x<n→(∃y:Nat,y<n∧g.getD x 0=(y:Int)∧g.getD y 0=(y:Int))∧(0≤x→0≤g.getD x 0)
theorem KInvz.iota (n:Nat):KInvz n (iota n):=⟨Ja n,fun x hx=>⟨⟨x,hx,Z6 hx,Z6 hx⟩,fun h=>by rw [Z6 hx];omega⟩⟩
theorem KInvz.step {n:Nat} {g:List Int} (h:KInvz n g) {a b:Nat} (ha:a<n) (hb:b<n) (h1a:0≤a) (h1b:0≤b) (hne:g.getD a 0≠g.getD b 0) :
  KInvz n (rlb (g.getD a 0) (g.getD b 0) g.length 0 g)∧J7 n (rlb (g.getD a 0) (g.getD b 0) g.length 0 g)+1≤J7 n g:=by
 obtain ⟨hl,h⟩:=h
 obtain ⟨⟨ya,hya,ea,eya⟩,pa⟩:=h a ha
 obtain ⟨⟨yb,hyb,eb,eyb⟩,pb⟩:=h b hb
 have hat:∀x,x<n→(rlb (g.getD a 0) (g.getD b 0) g.length 0 g).getD x 0=if g.getD x 0=g.getD a 0 then g.getD b 0 else g.getD x 0:=fun x hx=>Kv _ _ _ (by omega)
 have hgl:=Ku (g.getD a 0) (g.getD b 0) g.length 0 g
 generalize rlb (g.getD a 0) (g.getD b 0) g.length 0 g=g' at hat hgl ⊢
 have pa:=pa h1a
 have pb:=pb h1b
 rw [ea] at hne pa hat
 rw [eb] at hne pb hat
 refine ⟨⟨?_,fun x hx=>?_⟩,?_⟩
 ·rw [hgl,hl]
 ·obtain ⟨⟨y,hy,e1,e2⟩,p⟩:=h x hx
  rw [hat x hx]
  by_cases c:g.getD x 0=(ya:Int)
  ·rw [if_pos c]
   refine ⟨⟨yb,hyb,rfl,?_⟩,fun _=>pb⟩
   rw [hat yb hyb,eyb,if_neg (fun h=>hne h.symm)]
  ·rw [if_neg c]
   refine ⟨⟨y,hy,e1,?_⟩,p⟩
   rw [hat y hy,e2,if_neg (by rw [← e1];exact c)]
 ·refine V8 (a:=ya) (fun x hx hq=>?_) (List.mem_range.2 hya) (decide_eq_true ⟨by omega,eya⟩) (decide_eq_false fun h=>?_)
  ·have hx:=List.mem_range.1 hx
   obtain ⟨h1,h2⟩:=of_decide_eq_true hq
   rw [hat x hx] at h2
   refine decide_eq_true ⟨h1,?_⟩
   by_cases c:g.getD x 0=(ya:Int)
   ·rw [if_pos c] at h2
    have:yb=x:=by omega
    subst this
    rw [eyb] at c
    exact absurd c.symm hne
   ·rwa [if_neg c] at h2
  ·have h2:=h.2
   rw [hat ya hya,if_pos eya] at h2
   exact hne h2.symm
theorem QdD {n:Nat} {g:List Int} (h:KInvz n g) (hn:2≤n):1≤J7 n g:=by
 obtain ⟨⟨y,hy,e1,e2⟩,p⟩:=h.2 1 (by omega)
 have:=V8 (p:=UL g) (q:=fun _=>false) (l:=qB n) (a:=y) (fun x _ h=>by cases h) (List.mem_range.2 hy) (decide_eq_true ⟨by have:=p (qI 1);omega,e2⟩) rfl
 exact qW (Nat.le_add_left 1 _) this
theorem Vc (A:Nat→Bool) (c:Nat):∀(l:List Nat),l.Nodup→l.countP (fun y=>A y||decide (y=c))≤l.countP A+1
 | [],_=>qI _
 | x::l,h=>by
  have hx:=List.nodup_cons.1 h
  rw [jG,jG]
  by_cases e:x=c
  ·subst e
   have:l.countP (fun y=>A y||decide (y=x))=l.countP A:=List.countP_congr fun y hy=>by
    have:y≠x:=fun e=>hx.1 (e▸hy)
    simp [this]
   rw [this]
   cases A x <;> simp <;> omega
  ·have ih:=Vc A c l hx.2
   have:(A x||decide (x=c))=A x:=by simp [e]
   rw [this]
   omega
theorem YB {p q:Nat→Bool} {a:Nat}:∀{l:List Nat},l.Nodup→a∈l→p a=true→q a=false→(∀x∈l,x≠a→q x=p x)→l.countP q+1=l.countP p
 | [],_,h,_,_,_=>by cases h
 | x::l,hn,ha,h1,h2,h=>by
  have hx:=List.nodup_cons.1 hn
  rw [jG,jG]
  by_cases e:x=a
  ·subst e
   have:l.countP q=l.countP p:=List.countP_congr fun y hy=>by
    rw [h y (by simp [hy]) (fun e=>hx.1 (e▸hy))]
   rw [this,h1,h2]
   simp
  ·have ih:=YB hx.2 ((List.mem_cons.1 ha).resolve_left fun e'=>e e'.symm) h1 h2 (fun y hy=>h y (by simp [hy]))
   rw [h x (by simp) e]
   omega
theorem KInvz.one {n:Nat} {g:List Int} (h:KInvz n g) {a b:Nat} (ha:a<n) (hb:b<n) (h1a:0≤a) (h1b:0≤b) (hne:g.getD a 0≠g.getD b 0):J7 n (rlb (g.getD a 0) (g.getD b 0) g.length 0 g)+1=J7 n g:=by
 obtain ⟨hl,h⟩:=h
 obtain ⟨⟨ya,hya,ea,eya⟩,pa⟩:=h a ha
 have hat:∀x,x<n→(rlb (g.getD a 0) (g.getD b 0) g.length 0 g).getD x 0=if g.getD x 0=g.getD a 0 then g.getD b 0 else g.getD x 0:=fun x hx=>Kv _ _ _ (by omega)
 have pa:=pa h1a
 obtain ⟨⟨yb,hyb,eb,eyb⟩,_⟩:=h b hb
 generalize rlb (g.getD a 0) (g.getD b 0) g.length 0 g=g' at hat ⊢
 rw [ea] at hne pa hat
 refine YB (a:=ya) zI (List.mem_range.2 hya) (decide_eq_true ⟨by omega,eya⟩) (decide_eq_false fun h=>?_) fun x hx hxa=>?_
 ·have h2:=h.2
  rw [hat ya hya,if_pos eya] at h2
  exact hne h2.symm
 ·have hx:=List.mem_range.1 hx
  unfold UL
  rw [hat x hx]
  by_cases c:g.getD x 0=(ya:Int)
  ·rw [if_pos c]
   have e1:¬(g.getD b 0=(x:Int)):=fun e=>by
    rw [eb] at e
    have:yb=x:=by omega
    subst this
    rw [eyb] at c
    rw [eb] at hne
    exact hne c.symm
   have e2:¬(g.getD x 0=(x:Int)):=fun e=>by rw [c] at e;exact hxa (by omega)
   rw [decide_eq_false (fun h=>e1 h.2),decide_eq_false (fun h=>e2 h.2)]
  ·rw [if_neg c]
def QD (f:Int→Int→Int):List Int→Int
 | a::b::t=>f a b+QD f (b::t)
 | _=>0
theorem ZR {f h:Int→Int→Int}:∀(q:List Int),q.Nodup→(∀a∈q,∀b∈q,a≠b→f a b≤h a b)→QD f q≤QD h q
 | [],_,_=>qO _
 | [a],_,_=>qO _
 | a::b::t,hn,hq=>by
  have hn':=List.nodup_cons.1 hn
  have ih:=ZR (b::t) hn'.2 (fun x hx y hy=>hq x (qX _ hx) y (qX _ hy))
  have h1:=hq a (by simp) b (by simp) (fun e=>hn'.1 (by rw [e];simp))
  rw [QD,QD]
  omega
theorem X8 (f h:Int→Int→Int):∀(q:List Int),QD (fun a b=>f a b+h a b) q=QD f q+QD h q
 | []=>rfl
 | [_]=>rfl
 | a::b::t=>by
  rw [QD,QD,QD,X8 f h (b::t)]
  omega
theorem J8 (f:Int→Int→Int) (c:Int):∀(q:List Int),QD (fun a b=>f a b*c) q=QD f q*c
 | []=>by simp [QD]
 | [_]=>by simp [QD]
 | a::b::t=>by
  rw [QD,QD,J8 f c (b::t),zJ]
theorem Qbu (q:List Int):QD (fun _ _=>1) q+1≤max (q.length:Int) 1:=by
 induction q with
 | nil=>show (0:Int)+1≤max ((0:Nat):Int) 1;omega
 | cons a t ih =>
  cases t with
  | nil=>show (0:Int)+1≤max ((1:Nat):Int) 1;omega
  | cons b t =>
   rw [QD]
   simp only [qL] at ih ⊢
   omega
section
variable {d:List (List Int)} {p:List Int}
def Wd (d:List (List Int)) (p:List Int) (a b:Int):Ed:=if a<b then mkE d p a.toNat b.toNat else mkE d p b.toNat a.toNat
def KI (g:List Int) (a:Int):Int:=g.getD a.toNat 0
def QdE (g:List Int) (q:List Int):Int:=QD (fun a b=>if KI g a=KI g b then 0 else 1) q
open Classical in
noncomputable def J9 (d:List (List Int)) (p:List Int) (es:List Ed) (a b:Int):Int:=if Wd d p a b∈es then 1 else 0
open Classical in
noncomputable def X9 (d:List (List Int)) (p:List Int) (es:List Ed) (a b:Int):Int:=if Wd d p a b∈es then (Wd d p a b).1 else 0
def KE (g:List Int) (q:List Int) (y:Nat):Bool:=UL g y&&decide (∃v∈q,KI g v=(y:Int))
theorem CC {g:List Int} {n:Nat}:∀(q:List Int),q≠[]→((qB n).countP (KE g q):Int)≤1+QdE g q
 | [],h=>absurd rfl h
 | [a],_=>by
  have h1:=Vc (fun _=>false) (KI g a).toNat (qB n) zI
  have h2:(qB n).countP (KE g [a])≤(qB n).countP (fun y=>false||decide (y=(KI g a).toNat)):=jP fun y _ hy=>by
   simp only [KE,qU,decide_eq_true_eq] at hy
   obtain ⟨_,v,hv,e⟩:=hy
   have:v=a:=by simpa using hv
   subst this
   simp [e]
  have h3:(qB n).countP (fun _:Nat=>false)=0:=by simp
  rw [h3] at h1
  show _≤1+0
  omega
 | a::b::t,_=>by
  have ih:=CC (n:=n) (g:=g) (b::t) (by simp)
  show _≤1+((if KI g a=KI g b then 0 else 1)+QdE g (b::t))
  by_cases c:KI g a=KI g b
  ·have:(qB n).countP (KE g (a::b::t))≤(qB n).countP (KE g (b::t)):=jP fun y _ hy=>by
    simp only [KE,qU,decide_eq_true_eq] at hy ⊢
    obtain ⟨h1,v,hv,e⟩:=hy
    refine ⟨h1,?_⟩
    rcases List.mem_cons.1 hv with rfl | hv
    ·exact ⟨b,by simp,by rw [← c];exact e⟩
    ·exact ⟨v,hv,e⟩
   rw [if_pos c]
   omega
  ·have h1:=Vc (KE g (b::t)) (KI g a).toNat (qB n) zI
   have h2:(qB n).countP (KE g (a::b::t))≤(qB n).countP (fun y=>KE g (b::t) y||decide (y=(KI g a).toNat)):=jP fun y _ hy=>by
    simp only [KE,qU,zH,decide_eq_true_eq] at hy ⊢
    obtain ⟨h1,v,hv,e⟩:=hy
    rcases List.mem_cons.1 hv with rfl | hv
    ·exact .inr (by rw [e];simp)
    ·exact .inl ⟨h1,v,hv,e⟩
   rw [if_neg c]
   omega
structure Gw (n:Nat) (q:List Int):Prop where
 nd:q.Nodup
 mem:∀v:Int,v∈q↔0≤v∧v<n
theorem CD {n:Nat} {g:List Int} {q:List Int} (hq:Gw n q) (hn:2≤n):(J7 n g:Int)≤1+QdE g q:=by
 have hne:q≠[]:=fun e=>by have:=(hq.mem 1).2 ⟨by omega,by omega⟩;rw [e] at this;cases this
 have h1:J7 n g≤(qB n).countP (KE g q):=jP fun y hy h=>by
  have hy:=List.mem_range.1 hy
  obtain ⟨a1,a2⟩:=of_decide_eq_true h
  simp only [KE,qU,decide_eq_true_eq]
  refine ⟨h,(y:Int),(hq.mem _).2 (by omega),?_⟩
  unfold KI
  rw [qG];exact a2
 have h2:=CC (n:=n) (g:=g) q hne
 omega
theorem Vz:∀(l:List Ed) (s:Int),XH l s=s+XH l 0
 | [],s=>by simp [XH]
 | e::l,s=>by
  have h1:=Vz l (s+e.1)
  have h2:=Vz l (0+e.1)
  show XH l (s+e.1)=s+XH l (0+e.1)
  omega
theorem Dx {g:List Int} {e:Ed} {a b:Int} (h:Wd d p a b=e) (hl:g.getD e.2.1.toNat 0=g.getD e.2.2.toNat 0):KI g a=KI g b:=by
 subst h
 unfold Wd at hl
 unfold KI
 split at hl
 ·simp only [mkE,qG] at hl;exact hl
 ·simp only [mkE,qG] at hl;exact hl.symm
theorem QdF {n:Nat} {q:List Int} (hq:Gw n q) (hn:2≤n):∀(es:List Ed) (g:List Int) (x:Int),KInvz n g→(∀e∈es,(0≤e.2.1.toNat∧e.2.1.toNat<n)∧0≤e.2.2.toNat∧e.2.2.toNat<n)→es.Pairwise ltE →
  (∀a∈q,∀b∈q,a≠b→KI g a=KI g b∨Wd d p a b∈es)→(∀e∈es,x≤e.1) →
  XH (krP es g) 0+(QD (J9 d p es) q-((J7 n g:Int)-1))*x≤QD (X9 d p es) q∧0≤QD (J9 d p es) q-((J7 n g:Int)-1):=by
 intro es
 induction es with
 | nil =>
  intro g x hg he hs hc hx
  have h1:=QdD hg hn
  have h2:=CD (g:=g) hq hn
  have h3:QdE g q≤QD (fun _ _=>0*0) q:=ZR q hq.nd fun a ha b hb hab=>by
   have:=(hc a ha b hb hab).resolve_right (by simp)
   rw [if_pos this];omega
  rw [J8 (fun _ _=>0) 0 q,Int.mul_zero] at h3
  have h4:QD (J9 d p []) q=0:=by
   have a1:QD (J9 d p []) q≤QD (fun _ _=>0*0) q:=ZR q hq.nd fun a ha b hb hab=>by simp [J9]
   have a2:QD (fun _ _=>0*0) q≤QD (J9 d p []) q:=ZR q hq.nd fun a ha b hb hab=>by simp [J9]
   rw [J8 (fun _ _=>0) 0 q,Int.mul_zero] at a1 a2
   omega
  have h5:QD (X9 d p []) q=0:=by
   have a1:QD (X9 d p []) q≤QD (fun _ _=>0*0) q:=ZR q hq.nd fun a ha b hb hab=>by simp [X9]
   have a2:QD (fun _ _=>0*0) q≤QD (X9 d p []) q:=ZR q hq.nd fun a ha b hb hab=>by simp [X9]
   rw [J8 (fun _ _=>0) 0 q,Int.mul_zero] at a1 a2
   omega
  have h6:J7 n g=1:=by omega
  rw [h4,h5,h6]
  simp [krP,XH]
 | cons e es ih =>
  intro g x hg he hs hc hx
  have hs':=List.pairwise_cons.1 hs
  obtain ⟨⟨b1,b2⟩,b3,b4⟩:=he e (by simp)
  have he':=fun x hx=>he x (qX e hx)
  have hxe:=hx e (by simp)
  have hnot:e∉es:=fun h=>ltE_lin.rf e (hs'.1 e h)
  have hle:∀f∈es,e.1≤f.1:=fun f hf=>by have:=hs'.1 f hf;unfold ltE at this;omega
  classical
  have f1:J9 d p (e::es)=fun a b=>(if Wd d p a b=e then 1 else 0)+J9 d p es a b:=by
   funext a b
   unfold J9
   by_cases c:Wd d p a b=e
   ·rw [c,if_pos (by simp),if_pos rfl,if_neg hnot];rfl
   ·rw [if_neg c]
    by_cases c2:Wd d p a b∈es
    ·rw [if_pos (by simp [c2]),if_pos c2];rfl
    ·rw [if_neg (by simp [c,c2]),if_neg c2];rfl
  have f2:X9 d p (e::es)=fun a b=>(if Wd d p a b=e then 1 else 0)*e.1+X9 d p es a b:=by
   funext a b
   unfold X9
   by_cases c:Wd d p a b=e
   ·rw [c,if_pos (by simp),if_pos rfl,if_neg hnot];omega
   ·rw [if_neg c]
    by_cases c2:Wd d p a b∈es
    ·rw [if_pos (by simp [c2]),if_pos c2];omega
    ·rw [if_neg (by simp [c,c2]),if_neg c2];omega
  have g1:QD (J9 d p (e::es)) q=QD (fun a b=>if Wd d p a b=e then (1:Int) else 0) q+QD (J9 d p es) q:=by rw [f1,X8]
  have g2:QD (X9 d p (e::es)) q=QD (fun a b=>if Wd d p a b=e then (1:Int) else 0) q*e.1+QD (X9 d p es) q:=by
   rw [f2,X8 (fun a b=>(if Wd d p a b=e then (1:Int) else 0)*e.1),J8]
  have hpos:0≤QD (J9 d p (e::es)) q-((J7 n g:Int)-1):=by
   have h2:=CD (g:=g) hq hn
   have h3:QdE g q≤QD (J9 d p (e::es)) q:=ZR q hq.nd fun a ha b hb hab=>by
    unfold J9
    rcases hc a ha b hb hab with h | h
    ·rw [if_pos h];split <;> omega
    ·rw [if_pos h];split <;> omega
   omega
  refine ⟨?_,hpos⟩
  have hmul:∀A:Int,0≤A→A*x≤A*e.1:=fun A hA=>Int.mul_le_mul_of_nonneg_left hxe hA
  have hm:=hmul _ hpos
  rw [g1,g2] at *
  generalize QD (fun a b=>if Wd d p a b=e then (1:Int) else 0) q=M at *
  rw [krP]
  by_cases c:g.getD e.2.1.toNat 0=g.getD e.2.2.toNat 0
  ·rw [if_pos c]
   obtain ⟨i1,_⟩:=ih g e.1 hg he' hs'.2 (fun a ha b hb hab=>by
    rcases hc a ha b hb hab with h | h
    ·exact .inl h
    ·rcases List.mem_cons.1 h with h | h
     ·exact .inl (Dx h c)
     ·exact .inr h) hle
   generalize QD (J9 d p es) q=A at *
   have e1:(M+A-((J7 n g:Int)-1))*e.1=M*e.1+(A-((J7 n g:Int)-1))*e.1:=by rw [← zJ];congr 1;omega
   omega
  ·rw [if_neg c]
   obtain ⟨k1,_⟩:=hg.step b2 b4 b1 b3 c
   have k2:=hg.one b2 b4 b1 b3 c
   have hat:∀x,x<n→(rlb (g.getD e.2.1.toNat 0) (g.getD e.2.2.toNat 0) g.length 0 g).getD x 0=if g.getD x 0=g.getD e.2.1.toNat 0 then g.getD e.2.2.toNat 0 else g.getD x 0:=fun x hx=>Kv _ _ _ (by rw [hg.1];exact hx)
   generalize rlb (g.getD e.2.1.toNat 0) (g.getD e.2.2.toNat 0) g.length 0 g=g' at *
   obtain ⟨i1,_⟩:=ih g' e.1 k1 he' hs'.2 (fun a ha b hb hab=>by
    have ha':=(hq.mem a).1 ha
    have hb':=(hq.mem b).1 hb
    rcases hc a ha b hb hab with h | h
    ·refine .inl ?_
     unfold KI at h ⊢
     rw [hat _ (by omega),hat _ (by omega),h]
    ·rcases List.mem_cons.1 h with h | h
     ·refine .inl (Dx h ?_)
      rw [hat _ b2,hat _ b4,if_pos rfl]
      split <;> rfl
     ·exact .inr h) hle
   generalize QD (J9 d p es) q=A at *
   have e1:(M+A-((J7 n g:Int)-1))*e.1+e.1=M*e.1+(A-((J7 n g':Int)-1))*e.1:=by
    rw [← zJ]
    have:(M+A-((J7 n g:Int)-1))*e.1+e.1=((M+A-((J7 n g:Int)-1))+1)*e.1:=by rw [zJ,Int.one_mul]
    rw [this];congr 1;omega
   have e2:XH (e::krP es g') 0=e.1+XH (krP es g') 0:=by
    show XH (krP es g') (0+e.1)=_
    rw [Vz,Int.zero_add]
   rw [e2]
   omega
end
section
variable {d:List (List Int)}
theorem Qbv (n:Nat):J7 n (iota n)=n:=by
 have:(qB n).countP (UL (iota n))=(qB n).length:=List.countP_eq_length.2 fun x hx=>decide_eq_true ⟨qI _,Z6 (List.mem_range.1 hx)⟩
 rw [J7,this,jQ]
theorem CE:∀(es:List Ed),∃x:Int,∀e∈es,x≤e.1
 | []=>⟨0,fun _ h=>by cases h⟩
 | e::es=>by
  obtain ⟨x,h⟩:=CE es
  refine ⟨min x e.1,fun f hf=>?_⟩
  rcases List.mem_cons.1 hf with rfl | hf
  ·omega
  ·have:=h f hf;omega
theorem QmA (d:List (List Int)) (n x y:Nat):(mkE d (zer n) x y).1=at2 d x y:=by
 have h:∀k:Nat,(zer n).getD k 0=0:=fun k=>by
  rw [zer,qM,zK]
  split <;> rfl
 show at2 d x y+(zer n).getD x 0+(zer n).getD y 0=_
 rw [h,h];omega
theorem SF (hd:okD d) (h2:2≤d.length) {q:List Int} (hq:Gw d.length q):XH (WD d (zer d.length) 0) 0≤QD (fun a b=>at2 d a.toNat b.toNat) q:=by
 have es0:=JP (d:=d) (p:=zer d.length) (f:=0) (by omega)
 have hin:∀a∈q,∀b∈q,a≠b→Wd d (zer d.length) a b∈edg d (zer d.length) 0:=fun a ha b hb hab=>by
  have ha:=(hq.mem a).1 ha
  have hb:=(hq.mem b).1 hb
  unfold Wd
  split
  ·exact (es0.2 _).2 ⟨_,_,by omega,rfl⟩
  ·exact (es0.2 _).2 ⟨_,_,by omega,rfl⟩
 obtain ⟨x,hx⟩:=CE (edg d (zer d.length) 0)
 obtain ⟨m1,m2⟩:=QdF hq h2 (edg d (zer d.length) 0) (iota d.length) x (KInvz.iota _) (fun e he=>by
  obtain ⟨x,y,h,rfl⟩:=(es0.2 e).1 he
  simp only [mkE,qG]
  omega) es0.1 (fun a ha b hb hab=>.inr (hin a ha b hb hab)) hx
 have hr:=Qbv d.length
 have hw:QD (J9 d (zer d.length) (edg d (zer d.length) 0)) q≤QD (fun _ _=>1) q:=ZR _ hq.nd fun a _ b _ _=>by unfold J9;split <;> omega
 have hs:=Qbu q
 have hlen:q.length≤d.length:=Ky hq.nd fun v hv=>(hq.mem v).1 hv
 have hz:QD (J9 d (zer d.length) (edg d (zer d.length) 0)) q-((J7 d.length (iota d.length):Int)-1)=0:=by omega
 rw [hz,Int.zero_mul] at m1
 have hwt:QD (X9 d (zer d.length) (edg d (zer d.length) 0)) q≤QD (fun a b=>at2 d a.toNat b.toNat) q:=ZR _ hq.nd fun a ha b hb hab=>by
  have ha':=(hq.mem a).1 ha
  have hb':=(hq.mem b).1 hb
  unfold X9
  rw [if_pos (hin a ha b hb hab)]
  unfold Wd
  split
  ·rw [QmA];exact qO _
  ·rw [QmA,(hd.2.2 b.toNat (by omega) a.toNat (by omega)).2.1];exact qO _
 unfold WD
 omega
end
def wIn (o:List Int):List Ed→Int
 | []=>0
 | e::l=>(if e.2.1∈o∧e.2.2∈o then e.1 else 0)+wIn o l
theorem QdG (o:List Int):∀l:List Ed,(∀e∈l,0≤e.1)→0≤wIn o l
 | [],_=>qO _
 | e::l,h=>by
  have:=QdG o l fun x hx=>h x (by simp [hx])
  have:=h e (by simp)
  rw [wIn]
  split <;> omega
theorem CF {o o':List Int} (ho:∀x∈o,x∈o'):∀l:List Ed,(∀e∈l,0≤e.1)→wIn o l≤wIn o' l
 | [],_=>qO _
 | e::l,h=>by
  have:=CF ho l fun x hx=>h x (by simp [hx])
  have:=h e (by simp)
  rw [wIn,wIn]
  by_cases c:e.2.1∈o∧e.2.2∈o
  ·rw [if_pos c,if_pos ⟨ho _ c.1,ho _ c.2⟩];omega
  ·rw [if_neg c];split <;> omega
theorem QdH (o:List Int):∀l:List Ed,(∀e∈l,0≤e.1)→wIn o l≤XH l 0
 | [],_=>qO _
 | e::l,h=>by
  have:=QdH o l fun x hx=>h x (by simp [hx])
  have:=h e (by simp)
  rw [wIn,show XH (e::l) 0=XH l (0+e.1) from rfl,Vz]
  split <;> omega
theorem QaB {o:List Int} {u:Int} (hu:u∉o) {e0:Ed} (he:(e0.2.1∈o∧e0.2.2=u)∨(e0.2.2∈o∧e0.2.1=u)):∀l:List Ed,(∀e∈l,0≤e.1)→e0∈l→wIn o l+e0.1≤wIn (o++[u]) l
 | [],_,h=>by cases h
 | e::l,h,hm=>by
  have hl:=fun x hx=>h x (qX e hx)
  have h0:=h e (by simp)
  have hs:∀x∈o,x∈o++[u]:=fun x hx=>by simp [hx]
  rw [wIn,wIn]
  by_cases c:e=e0
  ·subst c
   have:=CF hs l hl
   have c1:¬(e.2.1∈o∧e.2.2∈o):=by
    rcases he with ⟨_,b⟩ | ⟨_,b⟩
    ·rw [b];exact fun h=>hu h.2
    ·rw [b];exact fun h=>hu h.1
   have c2:e.2.1∈o++[u]∧e.2.2∈o++[u]:=by
    rcases he with ⟨a,b⟩ | ⟨a,b⟩
    ·exact ⟨hs _ a,by rw [b];simp⟩
    ·exact ⟨by rw [b];simp,hs _ a⟩
   rw [if_neg c1,if_pos c2];omega
  ·have ih:=QaB hu he l hl ((List.mem_cons.1 hm).resolve_left fun h=>c h.symm)
   by_cases c1:e.2.1∈o∧e.2.2∈o
   ·rw [if_pos c1,if_pos ⟨hs _ c1.1,hs _ c1.2⟩];omega
   ·rw [if_neg c1];split <;> omega
theorem QdI:∀(l l':List Int),l.Nodup→(∀x∈l,x∈l')→l.length≤l'.length
 | [],_,_,_=>qI _
 | a::l,l',h,hs=>by
  have h':=List.nodup_cons.1 h
  have ha:=hs a (by simp)
  have:=QdI l (l'.erase a) h'.2 fun x hx=>(List.mem_erase_of_ne (fun e:x=a=>h'.1 (by rw [← e];exact hx))).2 (hs x (by simp [hx]))
  rw [wB ha] at this
  have:=wC ha
  rw [qL];omega
section
variable {d:List (List Int)} {n:Nat}
abbrev Dz (d:List (List Int)) (a b:Int):Int:=at2 d a.toNat b.toNat
def cw (d:List (List Int)) (r:Int):Int→List Int→Int
 | s,[]=>Dz d s r
 | s,v::t=>Dz d s v+cw d r v t
structure Mt (d:List (List Int)):Prop where
 ok:okD d
 tr:∀a b c:Nat,a<d.length→b<d.length→c<d.length→at2 d a c≤at2 d a b+at2 d b c
abbrev Rg (d:List (List Int)) (a:Int):Prop:=0≤a∧a<(d.length:Int)
theorem Mt.tri (h:Mt d) {a b c:Int} (ha:Rg d a) (hb:Rg d b) (hc:Rg d c):Dz d a c≤Dz d a b+Dz d b c:=h.tr _ _ _ (by omega) (by omega) (by omega)
theorem Mt.sym (h:Mt d) {a b:Int} (ha:Rg d a) (hb:Rg d b):Dz d a b=Dz d b a:=(h.ok.2.2 _ (by omega) _ (by omega)).2.1
theorem Mt.nn (h:Mt d) {a b:Int} (ha:Rg d a) (hb:Rg d b):0≤Dz d a b:=(h.ok.2.2 _ (by omega) _ (by omega)).1.1
theorem Mt.self (h:Mt d) {a:Int} (ha:Rg d a):Dz d a a=0:=(h.ok.2.2 _ (by omega) _ (by omega)).2.2 rfl
theorem QdJ (h:Mt d) {r u:Int} (hr:Rg d r) (hu:Rg d u):∀(t:List Int) (s:Int),Rg d s→(∀x∈t,Rg d x)→cw d r s t≤cw d u s t+Dz d u r
 | [],s,hs,_=>h.tri hs hu hr
 | v::t,s,hs,ht=>by
  have:=QdJ h hr hu t v (ht v (by simp)) fun x hx=>ht x (by simp [hx])
  rw [cw,cw];omega
theorem QdK (h:Mt d) {r u:Int} (hr:Rg d r) (hu:Rg d u) {t':List Int} (ht':∀x∈t',Rg d x):∀(t:List Int) (s:Int),Rg d s→(∀x∈t,Rg d x)→cw d r s (t++u::t')≤cw d r s t+Dz d r u+cw d u u t'+Dz d u r
 | [],s,hs,_=>by
  have h1:=h.tri hs hr hu
  have h2:=QdJ h hr hu t' u hu ht'
  rw [qY,cw,cw];omega
 | v::t,s,hs,ht=>by
  have:=QdK h hr hu ht' t v (ht v (by simp)) fun x hx=>ht x (by simp [hx])
  rw [qR,cw,cw];omega
theorem Qf1 (h:Mt d) {r x:Int} (hr:Rg d r) (hx:Rg d x):∀(t:List Int) (s:Int),Rg d s→(∀x∈t,Rg d x)→cw d r s t≤Dz d s x+cw d r x t
 | [],s,hs,_=>h.tri hs hx hr
 | v::t,s,hs,ht=>by
  have:=h.tri hs hx (ht v (by simp))
  rw [cw,cw];omega
theorem CG (h:Mt d) {r x:Int} (hr:Rg d r) (hx:Rg d x):∀(t:List Int) (s:Int),Rg d s→(∀x∈t,Rg d x)→cw d r s (t.erase x)≤cw d r s t
 | [],s,hs,_=>qO _
 | v::t,s,hs,ht=>by
  have hv:=ht v (by simp)
  have ht':∀x∈t,Rg d x:=fun x hx=>ht x (by simp [hx])
  by_cases c:v=x
  ·subst c
   rw [List.erase_cons_head,cw]
   exact Qf1 h hr hv t s hs ht'
  ·rw [List.erase_cons_tail (by simpa using c),cw,cw]
   have:=CG h hr hx t v hv ht'
   omega
theorem CH:∀(t:List Int) (s:Int),pl d s.toNat t=cw d 0 s t
 | [],s=>rfl
 | v::t,s=>by rw [pl,cw,CH t v]
theorem CI (h:Mt d) {es:List Ed} (hE:∀e∈es,(0≤e.2.1∧e.2.1<e.2.2∧e.2.2<(d.length:Int))∧e.1=Dz d e.2.1 e.2.2):∀(k:Nat) (v:Int) (o:List Int),Rg d v→∃t,Jl (nbL es d.length) k v o=o++v::t∧(∀x∈t,Rg d x)∧cw d v v t≤2*(wIn (o++v::t) es-wIn (o++[v]) es)
 | 0,v,o,hv=>⟨[],rfl,(fun x hx=>by cases hx),by
  show Dz d v v≤_
  rw [h.self hv];omega⟩
 | k+1,v,o,hv=>by
  have hp:∀e∈es,0≤e.1:=fun e he=>by
   obtain ⟨h1,h2⟩:=hE e he
   rw [h2];exact h.nn (by omega) (by omega)
  have key:∀(L:List Int),(∀u∈L,Rg d u∧Gl es v u=true)→∀t:List Int,(∀x∈t,Rg d x)→cw d v v t≤2*(wIn (o++v::t) es-wIn (o++[v]) es) →
    ∃t',L.foldl (fun o u=>if u∈o then o else Jl (nbL es d.length) k u o) (o++v::t)=o++v::t'∧(∀x∈t',Rg d x)∧cw d v v t'≤2*(wIn (o++v::t') es-wIn (o++[v]) es):=by
   intro L
   induction L with
   | nil=>intro _ t ht hc;exact ⟨t,rfl,ht,hc⟩
   | cons u L ih =>
    intro hL t ht hc
    have hL':=fun x hx=>hL x (qX u hx)
    obtain ⟨hu,ha⟩:=hL u (by simp)
    rw [qT]
    by_cases c:u∈o++v::t
    ·rw [if_pos c];exact ih hL' t ht hc
    ·rw [if_neg c]
     obtain ⟨s,e1,e2,e3⟩:=CI h hE k u (o++v::t) hu
     rw [e1,qV,qR]
     refine ih hL' (t++u::s) (fun x hx=>?_) ?_
     ·rcases List.mem_append.1 hx with q | q
      ·exact ht x q
      ·rcases List.mem_cons.1 q with rfl | q
       ·exact hu
       ·exact e2 x q
     ·have h1:=QdK h hv hu e2 t v hv ht
      have h2:=h.sym hv hu
      rw [Gl,zP] at ha
      obtain ⟨e0,m1,m2⟩:=ha
      simp only [zH,qU,decide_eq_true_eq] at m2
      obtain ⟨q1,q2⟩:=hE e0 m1
      have h3:=QaB (e0:=e0) c (by
       rcases m2 with ⟨a,b⟩ | ⟨a,b⟩
       ·exact .inl ⟨by rw [a];simp,b⟩
       ·exact .inr ⟨by rw [b];simp,a⟩) es hp m1
      have h4:e0.1=Dz d v u:=by
       rw [q2]
       rcases m2 with ⟨a,b⟩ | ⟨a,b⟩
       ·rw [a,b]
       ·rw [a,b,h2]
      have e:o++v::(t++u::s)=(o++v::t)++u::s:=by simp
      rw [e]
      omega
  rw [Jl]
  exact key (nbL es d.length v) (fun u hu=>by
   rw [nbL,jU,mem_iota] at hu
   exact hu) [] (fun x hx=>by cases hx) (by
    show Dz d v v≤_
    rw [h.self hv];omega)
theorem Qf2 {es:List Ed}:∀(k:Nat) (v:Nat) (o:List Int),v<n→(v:Int)∉o→o.Nodup→inT n o→n≤o.length+k→∀w∈Jl (nbL es n) k v o,w∈o∨∀u∈nbL es n w,u∈Jl (nbL es n) k v o:=by
 intro k
 induction k with
 | zero =>
  intro v o hv ho h2 h3 h4
  have hK:=VK.add (n:=n) hv ho
  have:=Ky (hK.2.1 h2) (hK.2.2 h3)
  rw [qH,qJ] at this
  omega
 | succ k ih =>
  intro v o hv ho h2 h3 h4
  have hK:=VK.add (n:=n) hv ho
  have key:∀(L:List Int),(∀u∈L,0≤u∧u<(n:Int))→∀oi:List Int,VK n (o++[(v:Int)]) oi→(∀w∈oi,w∈o∨w=v∨∀u∈nbL es n w,u∈oi) →
    ∃o',L.foldl (fun o u=>if u∈o then o else Jl (nbL es n) k u o) oi=o'∧(∀x∈oi,x∈o')∧(∀u∈L,u∈o')∧∀w∈o',w∈o∨w=v∨∀u∈nbL es n w,u∈o':=by
   intro L
   induction L with
   | nil=>intro _ oi _ hc;exact ⟨oi,rfl,fun x hx=>hx,(fun u hu=>by cases hu),hc⟩
   | cons u L ihL =>
    intro hL oi hV hc
    have hL':=fun x hx=>hL x (qX u hx)
    obtain ⟨u0,u1⟩:=hL u (by simp)
    rw [qT]
    by_cases c:u∈oi
    ·rw [if_pos c]
     obtain ⟨o',e1,e2,e3,e4⟩:=ihL hL' oi hV hc
     refine ⟨o',e1,e2,fun x hx=>?_,e4⟩
     rcases List.mem_cons.1 hx with rfl | q
     ·exact e2 _ c
     ·exact e3 x q
    ·rw [if_neg c]
     obtain ⟨un,rfl⟩:∃m:Nat,u=(m:Int):=⟨u.toNat,by omega⟩
     obtain ⟨⟨tt,ht⟩,hn,hi⟩:=id hV
     have hlo:o.length+1≤oi.length:=by rw [ht,qH,qH,qJ];omega
     have hq:=ih un oi (by omega) c (hn (hK.2.1 h2)) (hi (hK.2.2 h3)) (by omega)
     have hVu:VK n (oi++[(un:Int)]) (Jl (nbL es n) k (un:Int) oi):=by rw [Vw];exact Vv es n k _
     obtain ⟨t2,ht2⟩:=hVu.1
     have hsub:∀x∈oi,x∈Jl (nbL es n) k (un:Int) oi:=fun x hx=>by rw [ht2];simp [hx]
     have hun:(un:Int)∈Jl (nbL es n) k (un:Int) oi:=by rw [ht2];simp
     obtain ⟨o',e1,e2,e3,e4⟩:=ihL hL' (Jl (nbL es n) k (un:Int) oi) (hV.trans ((VK.add (by omega) c).trans hVu)) (fun w hw=>by
      rcases hq w hw with h | h
      ·rcases hc w h with h | h | h
       ·exact .inl h
       ·exact .inr (.inl h)
       ·exact .inr (.inr fun x hx=>hsub x (h x hx))
      ·exact .inr (.inr h))
     refine ⟨o',e1,fun x hx=>e2 x (hsub x hx),fun x hx=>?_,e4⟩
     rcases List.mem_cons.1 hx with rfl | q
     ·exact e2 _ hun
     ·exact e3 x q
  obtain ⟨o',e1,e2,e3,e4⟩:=key (nbL es n v) (fun u hu=>by
   rw [nbL,jU,mem_iota] at hu
   exact hu.1) (o++[(v:Int)]) (VK.refl n _) (fun w hw=>by
    rcases List.mem_append.1 hw with h | h
    ·exact .inl h
    ·exact .inr (.inl (List.mem_singleton.1 h)))
  rw [Jl,e1]
  intro w hw
  rcases e4 w hw with h | rfl | h
  ·exact .inl h
  ·exact .inr e3
  ·exact .inr h
theorem Gx {S:Int→Prop}:∀(l:List Ed) (g:List Int),g.length=n→(∀e∈l,(0≤e.2.1∧e.2.1<(n:Int))∧0≤e.2.2∧e.2.2<(n:Int))→(∀a b:Nat,a<n→b<n→g.getD a 0=g.getD b 0→(S a↔S b))→(∀e∈krP l g,S e.2.1↔S e.2.2)→∀e∈l,S e.2.1↔S e.2.2
 | [],_,_,_,_,_=>fun e he=>by cases he
 | f::l,g,hg,hl,hS,hk=>by
  obtain ⟨⟨a0,a1⟩,b0,b1⟩:=hl f (by simp)
  have hl':=fun e he=>hl e (qX f he)
  obtain ⟨a,ha⟩:∃a:Nat,f.2.1=(a:Int):=⟨f.2.1.toNat,by omega⟩
  obtain ⟨b,hb⟩:∃b:Nat,f.2.2=(b:Int):=⟨f.2.2.toNat,by omega⟩
  rw [krP] at hk
  by_cases c:g.getD f.2.1.toNat 0=g.getD f.2.2.toNat 0
  ·rw [if_pos c] at hk
   have ih:=Gx l g hg hl' hS hk
   intro e he
   rcases List.mem_cons.1 he with rfl | he
   ·rw [ha,hb]
    rw [ha,hb,qG,qG] at c
    exact hS a b (by omega) (by omega) c
   ·exact ih e he
  ·rw [if_neg c] at hk
   have hf:=hk f (by simp)
   have hat:∀x,x<n→(rlb (g.getD f.2.1.toNat 0) (g.getD f.2.2.toNat 0) g.length 0 g).getD x 0=if g.getD x 0=g.getD f.2.1.toNat 0 then g.getD f.2.2.toNat 0 else g.getD x 0:=fun x hx=>Kv _ _ _ (by rw [hg];exact hx)
   rw [ha,hb] at hf
   rw [ha,hb,qG,qG] at hat hk
   have ih:=Gx l _ (by rw [Ku];exact hg) hl' (fun x y hx hy hxy=>by
    rw [hat x hx,hat y hy] at hxy
    have ka:=hS x a hx (by omega)
    have kb:=hS y a hy (by omega)
    split at hxy <;> rename_i c1 <;> split at hxy <;> rename_i c2
    ·exact (ka c1).trans (kb c2).symm
    ·exact (ka c1).trans (hf.trans (hS b y (by omega) hy hxy))
    ·exact ((hS x b hx (by omega) hxy).trans hf.symm).trans (kb c2).symm
    ·exact hS x y hx hy hxy) (fun e he=>hk e (qX _ he))
   intro e he
   rcases List.mem_cons.1 he with rfl | he
   ·rw [ha,hb];exact hf
   ·exact ih e he
theorem QaC (hd:okD d):KH d.length (WJ d)=true∧∃t,WJ d=0::t:=by
 have hdn:=hd.1
 have hpos:0<d.length:=by omega
 have ev:WJ d=Jl (nbL (WD d (zer d.length) 0) d.length) d.length ((0:Nat):Int) []:=by rw [Vw];rfl
 obtain ⟨⟨t,ht⟩,h2,h3⟩:=Vv (WD d (zer d.length) 0) d.length d.length [0]
 rw [show SD (WD d (zer d.length) 0) d.length d.length [0]=WJ d from rfl] at ht h2 h3
 have hnd:=h2 (by simp)
 have hin:=h3 fun v hv=>by rw [List.mem_singleton.1 hv];omega
 have hclo:=Qf2 (es:=WD d (zer d.length) 0) d.length 0 [] hpos (by simp) qS (fun v hv=>by cases hv) (by simp)
 rw [← ev] at hclo
 have hE:=Gm d (zer d.length)
 obtain ⟨_,es0⟩:=JP (d:=d) (p:=zer d.length) (f:=0) (by omega)
 have hconn:=Gx (n:=d.length) (S:=fun v=>v∈WJ d) (edg d (zer d.length) 0) (iota d.length) (Ja _) (fun e he=>by
  obtain ⟨x,y,q,rfl⟩:=(es0 e).1 he
  simp only [mkE];omega) (fun a b ha hb hab=>by
   rw [Z6 ha,Z6 hb] at hab
   rw [show a=b by omega]) (fun e he=>by
   have hb:=hE.1 e he
   constructor
   ·intro h
    rcases hclo _ h with h | h
    ·cases h
    ·refine h _ ?_
     rw [nbL,jU,mem_iota,Gl,zP]
     exact ⟨by omega,e,he,by simp⟩
   ·intro h
    rcases hclo _ h with h | h
    ·cases h
    ·refine h _ ?_
     rw [nbL,jU,mem_iota,Gl,zP]
     exact ⟨by omega,e,he,by simp⟩)
 have h0:(0:Int)∈WJ d:=by rw [ht];simp
 have hall:∀v:Nat,v<d.length→(v:Int)∈WJ d:=fun v hv=>by
  by_cases c:v=0
  ·subst c;exact h0
  ·have:=hconn (mkE d (zer d.length) 0 v) ((es0 _).2 ⟨0,v,by omega,rfl⟩)
   simp only [mkE] at this
   exact this.1 h0
 refine ⟨trOk_iff.2 ⟨?_,by rw [ht];rfl,hin,hnd⟩,t,by rw [ht];rfl⟩
 have h5:=Ky hnd hin
 have hi:(iota d.length).length≤(WJ d).length:=QdI _ _ ((Qas d.length).imp fun h=>by omega) fun x hx=>by
   obtain ⟨x0,x1⟩:=mem_iota.1 hx
   obtain ⟨m,rfl⟩:∃m:Nat,x=(m:Int):=⟨x.toNat,by omega⟩
   exact hall m (by omega)
 rw [Ja] at hi
 omega
theorem Qf3 (h:Mt d) (h2:2≤d.length) {l:List Int} (hl:KH d.length l=true):Wa d (WJ d)≤2*Wa d l:=by
 have hd:=h.ok
 obtain ⟨_,t,ht⟩:=QaC hd
 have ev:WJ d=Jl (nbL (WD d (zer d.length) 0) d.length) d.length ((0:Nat):Int) []:=by rw [Vw];rfl
 obtain ⟨es,hes⟩:∃es,es=WD d (zer d.length) 0:=⟨_,rfl⟩
 rw [← hes] at ev
 have hE0:=Gm d (zer d.length)
 have hE:∀e∈es,(0≤e.2.1∧e.2.1<e.2.2∧e.2.2<(d.length:Int))∧e.1=Dz d e.2.1 e.2.2:=fun e he=>by
  rw [hes] at he
  refine ⟨hE0.1 e he,?_⟩
  obtain ⟨x,y,q,rfl⟩:=((JP (d:=d) (p:=zer d.length) (f:=0) (by omega)).2 e).1 ((YQ _ _).subset he)
  rw [QmA];rfl
 have hp:∀e∈es,0≤e.1:=fun e he=>by
  obtain ⟨h1,h2⟩:=hE e he
  rw [h2];exact h.nn (by omega) (by omega)
 obtain ⟨t',e1,e2,e3⟩:=CI h hE d.length 0 [] (by omega)
 have e1:WJ d=0::t':=ev.trans e1
 have w1:=QdH ([]++0::t') es hp
 have w2:=QdG ([]++[0]) es hp
 have hlen:Wa d (WJ d)=cw d 0 0 t':=by rw [e1,Ks];exact CH t' 0
 obtain ⟨p1,p2,p3,p4⟩:=trOk_iff.1 hl
 obtain ⟨p,rfl,hc⟩:=YO hd.1.1 hl
 have hq:Gw d.length (0::p):=⟨p4,fun v=>by
  rw [List.mem_cons,hc.2,YN hd.1.1,decide_eq_true_eq]
  omega⟩
 have hm:=SF hd h2 hq
 rw [← hes] at hm
 have hs:∀(q:List Int) (s:Int),Rg d s→(∀x∈q,Rg d x)→QD (fun a b=>at2 d a.toNat b.toNat) (s::q)≤cw d 0 s q:=by
  intro q
  induction q with
  | nil=>intro s hs _;rw [cw];exact h.nn hs (by omega)
  | cons v q ih =>
   intro s hs hq
   have:=ih v (hq v (by simp)) fun x hx=>hq x (by simp [hx])
   rw [cw,QD]
   have e:Dz d s v=at2 d s.toNat v.toNat:=rfl
   omega
 have hs:=hs p 0 (by omega) fun x hx=>(p3 x (by simp [hx]))
 have hl2:Wa d (0::p)=cw d 0 0 p:=by rw [Ks];exact CH p 0
 omega
end
end Go.Proofs.Ytlendaofkmhgmaa
end
section
open Go Go.HL
namespace Go.Proofs.Ytlendaofkmhgmaa
set_option linter.unusedSectionVars false
open Go.Proofs.Try renaming prog → Tp
open Go.HL.HV renaming undef → Ud
noncomputable def JI:Pol:={ pol with prim:=fun g=>if g==16 then some D0 else none,freeze:=fun g _=>!(g==15) }
theorem Qf4 (n:Nat):Qo Tp (Qa Tp JI n) :=
 KZ Qi (fun g fn h=>by
  have e:JL JI g fn=JL pol g fn:=rfl
  rw [e]
  exact List.all_eq_true.1 XZ (fn,g) (by
   rw [wD]
   simpa using h)) (fun g f h=>by
 simp only [JI] at h
 split at h
 ·rename_i hg;cases h;rw [eq_of_beq hg];exact Qej
 ·cases h) n
end Go.Proofs.Ytlendaofkmhgmaa
end
section
open Go Go.HL
namespace Go.Proofs.Ytlendaofkmhgmaa
set_option maxRecDepth 100000
set_option linter.unusedSectionVars false
open Go.Proofs.Try renaming prog → Tp
open Go.HL.HV renaming undef → Ud
abbrev e15 (rw:List HV) (u2 u3:HV):Env:=Qco (.a rw) (.imm .lit 1 []) u2 u3
section
variable (rw:List HV)
include rw
theorem QmB:RT JI 15 (sn 2 B15) [(0,.a rw)] [] .normal (e15 rw Ud Ud) [] :=
 hx 0 60 []
end
section
variable (rw:List HV)
include rw
theorem QmC:RT JI 15 (sn 6 B15) (e15 rw Ud Ud) [] .normal (e15 rw (.s 0 0) Ud) [.b []] :=
 hx 0 60 []
theorem QmD (H:Heap): RT JI 15 (sn 28 B15) (e15 rw (.s 0 0) Ud) H .normal (e15 rw (.s 0 0) (.i 0)) H :=
 hx 0 60 []
theorem QmE (i rb q lb:Nat) (H:Heap) (l0:List HV) (H0:Heap) (H1:Heap) (H2:Heap) (g0:(i:Int)<(rw.length:Int)) (g1:(i:Int)≤11) (g2:IX 22 (.a rw) (.n i) (.vptr (.a l0))) (g3:∀kf,Qa Tp JI (kf+1) 16 [.a l0] H=some (.s rb q,H0)) (g4:YU Tp false false 22 1 [(0,.s rb q)] H0=some (.o lb 1,H1)) (g5:WX Tp .append [22,22] [.s 0 i,.o lb 1] H1=some (.sl 0 0 (i+1) none (i+1) 1,H2)): RT JI 15 (sn 116 B15) (e15 rw (.s 0 i) (.n i)) H .normal (e15 rw (.sl 0 0 (i+1) none (i+1) 1) (.i (qA.wrap ((i:Int)+1)))) H2 :=
 hx 0 60 [jT 3 3 H g0,jT 3 6 H g1,jO 5 3 H g2,jD 5 5 g3,jR 5 6 g4,jR 5 7 g5]
theorem QmF (i rb q lb:Nat) (H:Heap) (g0:(i:Int)<(rw.length:Int)) (g1:¬((i:Int)≤11)): RT JI 15 (sn 116 B15) (e15 rw (.s 0 i) (.n i)) H (.exit 0) (e15 rw (.s 0 i) (.n i)) H :=
 hx 0 60 [jT 3 3 H g0,jF 3 6 H g1]
theorem QmG (i rb q lb:Nat) (H:Heap) (g0:¬((i:Int)<(rw.length:Int))): RT JI 15 (sn 116 B15) (e15 rw (.s 0 i) (.n i)) H (.exit 0) (e15 rw (.s 0 i) (.n i)) H :=
 hx 0 60 [jF 3 3 H g0]
theorem QmH (i:Nat) (H:Heap): RT JI 15 (sn 15 B15) (e15 rw (.s 0 i) (.n i)) H .ret (Qco (.a rw) (.s 0 i) (.s 0 i) (.n i)) H :=
 hx 0 60 []
end
end Go.Proofs.Ytlendaofkmhgmaa
end
section
open Go Go.HL
namespace Go.Proofs.Ytlendaofkmhgmaa
set_option linter.unusedSectionVars false
open Go.Proofs.Try renaming prog → Tp
open Go.HL.HV renaming undef → Ud
abbrev slD (m:Nat) (r:Nat→List Int) (a:Nat):HV:=.sl (m+1+a) 0 (r a).length none (r a).length 1
theorem Qf5 (b q:Nat) (H:Heap):YU Tp false false 22 1 [(0,.sl b 0 q none q 1)] H=some (.sl H.length 0 1 (some 1) 1 1,H++[.arr 1 [.sl b 0 q none q 1] true (b+1)]):=by kernel_rfl
structure TD (m:Nat) (r:Nat→List Int) (i:Nat) (H:Heap):Prop where
 len:H.length=m+i+1
 out:H[m]?=some (.arr 1 ((qB i).map (slD m r)) true (if i=0 then 0 else m+i+1))
 row:∀a,a<i→H[m+1+a]?=some (bI (r a))
section
variable {R:List (List Int)}
abbrev tdE (R:List (List Int)) (v3 v4:HV):Env:=Qco (.imm .arg 1 (R.map Qb)) (.imm .lit 1 []) v3 v4
abbrev rT (R:List (List Int)) (a:Nat):List Int:=(R.getD a []).take 13
theorem Qf6:∀k i H,i+k=min R.length 12→TD 0 (rT R) i H →
  ∃H',RT JI 15 (sn 58 B15) (tdE R (.sl 0 0 i none i 1) (.int .i64 (i:Int))) H (.exit 0) (tdE R (.sl 0 0 (min R.length 12) none (min R.length 12) 1) (.int .i64 ((min R.length 12:Nat):Int))) H'∧TD 0 (rT R) (min R.length 12) H':=by
 intro k
 induction k with
 | zero =>
  intro i H hi hT
  have:i=min R.length 12:=by omega
  subst this
  by_cases c:R.length≤12
  ·exact ⟨H,lpo (QmG (R.map Qb) (min R.length 12) 0 0 0 H (by rw [qD];omega)),hT⟩
  ·exact ⟨H,lpo (QmF (R.map Qb) (min R.length 12) 0 0 0 H (by rw [qD];omega) (by omega)),hT⟩
 | succ k ih =>
  intro i H hi hT
  have hl:=hT.len
  have hil:i<R.length:=by omega
  have hg:=gr hil
  have hc:∀kf,Qa Tp JI (kf+1) 16 [.imm .arg 1 ((R.getD i []).map hvI)] H=some (.sl (i+1) 0 (rT R i).length none (rT R i).length 1,H++[bI (rT R i)]):=fun kf=>by
   rw [Qt (pol:=JI) (g:=16) (F:=D0) (by kernel_rfl) (rs:=[.imm .arg 1 ((R.getD i []).map hvI)]) (by simp only [mapO,X1]) (res:=.own 1 ((rT R i).map hvI)) (by simp only [D0,liF,QH WL]),Df,hl]
   simp only [Nat.zero_add]
  have m2:=Qf5 (i+1) (rT R i).length (H++[bI (rT R i)])
  have hl2:(H++[bI (rT R i)]).length=i+2:=by simp [hl]
  rw [hl2] at m2
  have m3:=Qau (H:=H++[bI (rT R i)]++[.arr 1 [slD 0 (rT R) i] true (i+2)]) (n:=0) (i:=i) (lb:=i+2) (m2:=i+2) (v:=slD 0 (rT R) i) (els:=(qB i).map (slD 0 (rT R))) (by simp) (by rw [qF (by omega),qF (by omega)];exact hT.out) (by rw [qN (by omega),hl2];simp) (by omega) (by simp only [bndL,bnd];omega)
  have e1:slD 0 (rT R) i=.sl (i+1) 0 (rT R i).length none (rT R i).length 1:=by simp only [slD];rw [show 0+1+i=i+1 by omega]
  rw [e1] at m3
  have s:=QmE (R.map Qb) i (i+1) (rT R i).length (i+2) H _ _ _ _ (by rw [qD];omega) (by omega) hg hc m2 m3
  rw [Qc (by omega)] at s
  rw [← e1] at s
  generalize hH2:(H++[bI (rT R i)]++[Blk.arr 1 [slD 0 (rT R) i] true (i+2)]).set 0 (.arr 1 ((qB i).map (slD 0 (rT R))++[slD 0 (rT R) i]) true (max (if i=0 then 0 else 0+i+1) (i+2)))=H2 at s
  have hlen:H2.length=i+3:=by rw [← hH2];simp [hl]
  have g0:H2[0]?=some (.arr 1 ((qB (i+1)).map (slD 0 (rT R))) true (i+2)):=by
   rw [← hH2,qP (by simp),zL,List.map_append]
   have:max (if i=0 then 0 else 0+i+1) (i+2)=i+2:=by split <;> omega
   rw [this];rfl
  have g1:∀a,a<i+1→H2[0+1+a]?=some (bI (rT R a)):=fun a ha=>by
   rw [← hH2,qC (by omega),qF (by omega)]
   by_cases e:a=i
   ·subst e
    rw [qN (by omega),show 0+1+a-H.length=0 by omega]
    rfl
   ·rw [qF (by omega)]
    exact hT.row a (by omega)
  have hmx:mxs H2=i+2:=by
   have h1:i+2≤mxs H2:=Qds g0
   have h2:mxs H2≤i+2:=by
    rw [mxs_le]
    intro B hB
    obtain ⟨j,hj⟩:=List.mem_iff_getElem?.1 hB
    have hjl:=Qd hj
    by_cases e0:j=0
    ·rw [e0,g0] at hj
     rw [← Option.some.inj hj];exact qE _
    ·by_cases e1:j≤i+1
     ·rw [show j=0+1+(j-1) by omega,g1 (j-1) (by omega)] at hj
      rw [← Option.some.inj hj];exact qI _
     ·have ej:j=i+2:=by omega
      rw [ej,← hH2,qC (by omega),qN (by omega),hl2] at hj
      simp at hj
      rw [← hj];exact qE _
   omega
  have ec:gc H.length (Zm (tdE R (.sl 0 0 (i+1) none (i+1) 1) (.int .i64 ((i+1:Nat):Int)))) H2=H2.take (i+2):=by
   unfold gc
   rw [hmx,hl]
   have e:max (0+i+1) (max (Zm (tdE R (.sl 0 0 (i+1) none (i+1) 1) (.int .i64 ((i+1:Nat):Int)))) (i+2))=i+2:=by
    simp only [Zm,bnd,bndL]
    omega
   rw [e]
  have hT2:TD 0 (rT R) (i+1) (H2.take (i+2)):=by
   refine ⟨by rw [jJ];omega,?_,fun a ha=>?_⟩
   ·rw [jN,if_pos (by omega),g0,if_neg (by omega)]
    rw [show 0+(i+1)+1=i+2 by omega]
   ·rw [jN,if_pos (by omega),g1 a ha]
  obtain ⟨H',r,hT'⟩:=ih (i+1) _ (by omega) hT2
  exact ⟨H',lop s ec r,hT'⟩
end
def XJ (r:List Int):HV:=.own 1 (r.map hvI)
def XK:List HV→Option HV:=rwF fun R=>some (.own 1 ((Qbe R).map XJ))
theorem QmI (R:List (List Int)):(qB (min R.length 12)).map (rT R)=Qbe R:=by
 refine jV (by simp [Qbe];omega) fun i h1 h2=>?_
 simp [Qbe,rT] at h1 ⊢
 rw [qK (by omega)]
 rfl
theorem Qf7 {m i a:Nat} {r:Nat→List Int} {H:Heap} (h:TD m r i H) (ha:a<i):Wh H (m+1+a) 0 (r a).length (r a).length 1=some ((r a).map hvI):=by
 simp only [Wh,h.row a ha,qD]
 rw [if_pos ⟨trivial,by omega,trivial⟩,zM,qQ (by simp)]
theorem Qf8 {m i a:Nat} {r:Nat→List Int} {H:Heap} {no:List Nat} (h:TD m r i H) (ha:a<i):Zq H no true (slD m r a)=some (XJ (r a)):=by
 have hv:=Qf7 h ha
 have hr:=h.row a ha
 simp only [Zq,slD,if_true,hr,hv,Ca]
 rfl
theorem CJ {m i:Nat} {r:Nat→List Int} {H:Heap} {no:List Nat} (h:TD m r i H):∀(j k:Nat),k+j≤i→mapO (Zq H no true) ((jH k j).map (slD m r))=some ((jH k j).map fun a=>XJ (r a))
 | 0,k,_=>rfl
 | j+1,k,hk=>by
  rw [zQ,qZ,qZ,mapO,Qf8 h (by omega),CJ h j (k+1) (by omega)]
theorem CK {m i:Nat} {r:Nat→List Int} {H:Heap} (h:TD m r i H):∀(j k:Nat),k+j≤i→((jH k j).map (slD m r)).flatMap (Ka H)=(jH k j).map fun a=>m+1+a
 | 0,k,_=>rfl
 | j+1,k,hk=>by
  have hr:=h.row k (by omega)
  rw [zQ,qZ,qZ,List.flatMap_cons,CK h j (k+1) (by omega)]
  simp only [Ka,slD,hr,zR]
theorem QmJ {i:Nat} {r:Nat→List Int} {H:Heap} (h:TD 0 r i H):We H true (.sl 0 0 i none i 1)=some (.own 1 ((qB i).map fun a=>XJ (r a))):=by
 have ho:=h.out
 have hv:Wh H 0 0 i i 1=some ((qB i).map (slD 0 r)):=by
  simp only [Wh,ho,qD,jQ]
  rw [if_pos ⟨trivial,by omega,trivial⟩,zM,qQ (by simp)]
 have hw:Qu H true (.sl 0 0 i none i 1)=0::(qB i).map fun a=>0+1+a:=by
  have e:Qu H true (.sl 0 0 i none i 1)=WQ H true (.sl 0 0 i none i 1):=by simp [Qu,cellsOf]
  rw [e]
  simp only [WQ,ho,if_true,hv]
  rw [zS,CK h i 0 (by omega)]
 have hn:(Qu H true (.sl 0 0 i none i 1)).Nodup:=by
  rw [hw,zT]
  refine ⟨fun hm=>?_,?_⟩
  ·obtain ⟨a,_,h2⟩:=List.mem_map.1 hm
   omega
  ·exact List.Pairwise.map _ (fun a b hab=>by simp only [ne_eq] at *;omega) zI
 simp only [We,hn,if_true,WO,Wr,ho,hv]
 have:=CJ (no:=Qu H true (.sl 0 0 i none i 1)) h i 0 (by omega)
 rw [← zS] at this
 rw [this]
theorem Qbw:QN Tp 15 XK:=by
 refine G7 (fn:=Try.f15) (cd:=B15) (deep:=true) (by kernel_rfl) (by kernel_rfl) ?_
 intro args res h
 obtain ⟨R,rfl,hq⟩:=Vq h
 clear h
 cases hq
 have a1:=QmB (R.map Qb)
 have b1:=QmC (R.map Qb)
 have c1:=QmD (R.map Qb) [.arr 1 [] true 0]
 obtain ⟨H',l1,hT⟩:=Qf6 (R:=R) (min R.length 12) 0 [.arr 1 [] true 0] (by omega) ⟨rfl,rfl,fun a ha=>by omega⟩
 have z1:=QmH (R.map Qb) (min R.length 12) H'
 have t:=sq (a1) (sq (b1) (sq (sq (c1) (bke (c:=sn 29 B15) (l1)) (c:=sn 14 B15)) (z1) (c:=sn 7 B15)) (c:=sn 3 B15)) (c:=B15)
 refine (Trip.run Qi Qf4 (by kernel_rfl) t).mono ?_
 rintro x e H1 ⟨rfl,rfl,rfl⟩
 refine ⟨by simp,.sl 0 0 (min R.length 12) none (min R.length 12) 1,by simp only [Qf,QnB];rfl,?_⟩
 rw [QmJ hT,← QmI,List.map_map]
 rfl
theorem UM:∀(l:List (List Int)) (n:Nat),QK (l.map XJ) n=((l.zipIdx n).map (fun p=>.sl p.2 0 p.1.length none p.1.length 1),l.map bI)
 | [],n=>rfl
 | r::l,n=>by
  have ih:=UM l (n+1)
  show QK (HV.own 1 (r.map hvI)::l.map XJ) n=_
  simp only [QK,ih,List.zipIdx_cons,qZ,qD]
theorem QmK (l:List (List Int)) (h1:l≠[]) (H:Heap):∃H',ZT (.own 1 (l.map XJ)) H=(.sl H.length 0 l.length none l.length 1,H++H')∧TD H.length (fun a=>l.getD a []) l.length (H++H'):=by
 have hany:(l.map XJ).any Jd=true:=by
  cases l with
  | nil=>exact absurd rfl h1
  | cons r l=>rfl
 have e:ZT (.own 1 (l.map XJ)) H=(.sl H.length 0 l.length none l.length 1,H++[.arr 1 (QK (l.map XJ) (H.length+1)).1 true (H.length+1+l.length)]++(QK (l.map XJ) (H.length+1)).2):=by
  simp only [ZT,Zr,WK,hany,if_true,qD]
 refine ⟨[.arr 1 (QK (l.map XJ) (H.length+1)).1 true (H.length+1+l.length)]++(QK (l.map XJ) (H.length+1)).2,by rw [e,qV],?_⟩
 rw [UM]
 have hpos:0<l.length:=List.length_pos_iff.2 h1
 refine ⟨by simp;omega,?_,fun a ha=>?_⟩
 ·rw [qN (by omega),Nat.sub_self,if_neg (by omega)]
  simp only [zR,List.getElem?_cons_zero]
  congr 2
  ·refine jV (by simp) fun i h2 h3=>?_
   simp at h2
   simp [qM,slD,qK h2]
  ·omega
 ·rw [qN (by omega),show H.length+1+a-H.length=a+1 by omega]
  simp only [zR,List.getElem?_cons_succ]
  simp [qM,qK ha]
noncomputable def polFw:Pol:={ pol with prim:=fun g=>if g==15 then some XK else none }
theorem Qf9 (n:Nat):Qo Tp (Qa Tp polFw n):=QW _ (fun g f h=>by
 split at h
 ·rename_i hg;cases h;rw [eq_of_beq hg];exact Qbw
 ·cases h) n
end Go.Proofs.Ytlendaofkmhgmaa
end
section
open Go Go.HL
namespace Go.Proofs.Ytlendaofkmhgmaa
set_option maxRecDepth 100000
set_option linter.unusedSectionVars false
open Go.Proofs.Try renaming prog → Tp
open Go.HL.HV renaming undef → Ud
noncomputable def B45:Code:=Try.f45.body.getD .skip
abbrev Wy (v0 v2 v3 v4 v5 v6 v7 v8:HV):Env:=[(0,v0),(2,v2),(3,v3),(4,v4),(5,v5),(6,v6),(7,v7),(8,v8)]
abbrev e45 (rw:List HV) (tb:Nat) (n:Nat) (u4 u5 u6 u7:HV):Env:=Wy (.a rw) (.imm .lit 1 []) (.s tb n) (.n n) u4 u5 u6 u7
section
variable (N:Nat) (rw:List HV) (H:Heap)
include N rw H
theorem QmL:RT polFw 45 (sn 2 B45) [(0,.a rw)] H .normal (Wy (.a rw) (.imm .lit 1 []) Ud Ud Ud Ud Ud Ud) H :=
 hx N 60 []
end
section
variable (N:Nat) (rw:List HV) (H:Heap)
include N rw H
theorem QmM (n tb:Nat) {H0:Heap} (g0:∀kf,Qa Tp polFw (kf+1) 15 [.a rw] H=some (.s tb n,H0)) (y3 y4 y5 y6 y7 y8:HV:=Ud): RT polFw 45 (sn 6 B45) (Wy (.a rw) (.imm .lit 1 []) y3 y4 y5 y6 y7 y8) H .normal (Wy (.a rw) (.imm .lit 1 []) (.s tb n) y4 y5 y6 y7 y8) H0 :=
 hx N 60 [jD 1 1 g0]
theorem QmN (n tb:Nat) (y4 y5 y6 y7 y8:HV:=Ud): RT polFw 45 (sn 14 B45) (Wy (.a rw) (.imm .lit 1 []) (.s tb n) y4 y5 y6 y7 y8) H .normal (Wy (.a rw) (.imm .lit 1 []) (.s tb n) (.i (rw.length:Int)) y5 y6 y7 y8) H :=
 hx N 60 []
theorem QmO (n tb:Nat) (y5 y6 y7 y8:HV:=Ud): RT polFw 45 (sn 60 B45) (e45 rw tb n y5 y6 y7 y8) H .normal (e45 rw tb n (.i 0) y6 y7 y8) H :=
 hx N 60 []
theorem QmP (n tb:Nat) (k:Nat) (g0:(k:Int)<(n:Int)) (y6 y7 y8:HV:=Ud): RT polFw 45 (sn 488 B45) (e45 rw tb n (.n k) y6 y7 y8) H .normal (e45 rw tb n (.n k) y6 y7 y8) H :=
 hx N 60 [jT 4 2 H g0]
theorem QmQ (n tb:Nat) (k:Nat) (g0:¬((k:Int)<(n:Int))) (y6 y7 y8:HV:=Ud): RT polFw 45 (sn 488 B45) (e45 rw tb n (.n k) y6 y7 y8) H (.exit 0) (e45 rw tb n (.n k) y6 y7 y8) H :=
 hx N 60 [jF 4 2 H g0]
theorem QmR (n tb:Nat) (k:Nat) (y6 y7 y8:HV:=Ud): RT polFw 45 (sn 3912 B45) (e45 rw tb n (.n k) y6 y7 y8) H .normal (e45 rw tb n (.n k) (.i 0) y7 y8) H :=
 hx N 60 []
theorem QmS (n tb:Nat) (k i:Nat) (g0:(i:Int)<(n:Int)) (y7 y8:HV:=Ud): RT polFw 45 (sn 31304 B45) (e45 rw tb n (.n k) (.n i) y7 y8) H .normal (e45 rw tb n (.n k) (.n i) y7 y8) H :=
 hx N 60 [jT 7 2 H g0]
theorem QmT (n tb:Nat) (k i:Nat) (g0:¬((i:Int)<(n:Int))) (y7 y8:HV:=Ud): RT polFw 45 (sn 31304 B45) (e45 rw tb n (.n k) (.n i) y7 y8) H (.exit 2) (e45 rw tb n (.n k) (.n i) y7 y8) H :=
 hx N 60 [jF 7 2 H g0]
theorem QmU (n tb:Nat) (k i:Nat) (y7 y8:HV:=Ud): RT polFw 45 (sn 250440 B45) (e45 rw tb n (.n k) (.n i) y7 y8) H .normal (e45 rw tb n (.n k) (.n i) (.i 0) y8) H :=
 hx N 60 []
theorem QmV (n tb:Nat) (k i j ib kb:Nat) (xa xb xc:Int) {H0:Heap} (g0:(j:Int)<(n:Int)) (g1:IS 22 tb n i) (g2:LD H 23 (.ptr tb i 0 n) (.s ib n)) (g3:IS 23 ib n j) (g4:LD H 3 (.ptr ib j 0 n) (.i xa)) (g5:IS 22 tb n i) (g6:LD H 23 (.ptr tb i 0 n) (.s ib n)) (g7:IS 23 ib n k) (g8:LD H 3 (.ptr ib k 0 n) (.i xb)) (g9:IS 22 tb n k) (g10:LD H 23 (.ptr tb k 0 n) (.s kb n)) (g11:IS 23 kb n j) (g12:LD H 3 (.ptr kb j 0 n) (.i xc)) (g13:IS 23 ib n j) (g14:ST H 3 (.ptr ib j 0 n) (.i (min xa (qA.wrap (xb+xc)))) H0) (y8:HV:=Ud): RT polFw 45 (sn 1001764 B45) (e45 rw tb n (.n k) (.n i) (.n j) y8) H .normal (e45 rw tb n (.n k) (.n i) (.i (qA.wrap ((j:Int)+1))) (.s ib n)) H0 :=
 hx N 60 [jT 10 2 H g0,jO 12 2 H g1,jO 12 3 H g2,jO 13 4 H g3,jO 13 5 H g4,jO 13 8 H g5,jO 13 9 H g6,jO 13 11 H g7,jO 13 12 H g8,jO 13 15 H g9,jO 13 16 H g10,jO 13 18 H g11,jO 13 19 H g12,jO 13 22 H g13,jS 13 23 g14]
theorem QmW (n tb:Nat) (k i j ib kb:Nat) (xa xb xc:Int) (g0:¬((j:Int)<(n:Int))) (y8:HV:=Ud): RT polFw 45 (sn 1001764 B45) (e45 rw tb n (.n k) (.n i) (.n j) y8) H (.exit 4) (e45 rw tb n (.n k) (.n i) (.n j) y8) H :=
 hx N 60 [jF 10 2 H g0]
theorem QmX (n tb:Nat) (k i:Nat) (y7 y8:HV:=Ud): RT polFw 45 (sn 62611 B45) (e45 rw tb n (.n k) (.n i) y7 y8) H .normal (e45 rw tb n (.n k) (.i (qA.wrap ((i:Int)+1))) y7 y8) H :=
 hx N 60 []
theorem QmY (n tb:Nat) (k:Nat) (y6 y7 y8:HV:=Ud): RT polFw 45 (sn 979 B45) (e45 rw tb n (.n k) y6 y7 y8) H .normal (e45 rw tb n (.i (qA.wrap ((k:Int)+1))) y6 y7 y8) H :=
 hx N 60 []
theorem QmZ (n tb:Nat) (y5 y6 y7 y8:HV:=Ud): RT polFw 45 (sn 31 B45) (e45 rw tb n y5 y6 y7 y8) H .ret (Wy (.a rw) (.s tb n) (.s tb n) (.n n) y5 y6 y7 y8) H :=
 hx N 60 []
end
end Go.Proofs.Ytlendaofkmhgmaa
end
section
open Go Go.HL
namespace Go.Proofs.Ytlendaofkmhgmaa
set_option linter.unusedSectionVars false
open Go.Proofs.Try renaming prog → Tp
open Go.HL.HV renaming undef → Ud
theorem V9 {pol':Pol} {f:FuncId} {b c:Code} {I:Nat→Env→Heap→Prop} {Q:X→Env→Heap→Prop} (n:Nat)
  (step:∀i,i<n→∀e H,I i e H→∃E0 H1,RunsTo Tp pol' f b e H .normal (pol'.keys f) E0 H1∧I (i+1) (QQ pol' f b E0) (gc H.length (Zm (QQ pol' f b E0)) H1))
  (out:∀e H,I n e H→∃x E' H',RunsTo Tp pol' f b e H x (pol'.keys f) E' H'∧x≠.normal∧Q x E' H') (hc:c=.loop b) (he:∀i e H,I i e H→QQ pol' f b e=e) {e:Env} {H:Heap} (h0:I 0 e H) :
  ∃x E' H',RunsTo Tp pol' f c e H x (pol'.keys f) E' H'∧Q x E' H':=by
 have key:∀k i e H,i+k=n→I i e H→∃x E' H',RunsTo Tp pol' f c e H x (pol'.keys f) E' H'∧Q x E' H':=by
  intro k
  induction k with
  | zero =>
   intro i e H hi hI
   have:i=n:=by omega
   subst this
   obtain ⟨x,E',H',h1,h2,h3⟩:=out e H hI
   exact ⟨x,E',H',RunsTo.loop_out h1 h2 hc (he _ _ _ hI),h3⟩
  | succ k ih =>
   intro i e H hi hI
   obtain ⟨E0,H1,h1,h2⟩:=step i (by omega) e H hI
   obtain ⟨x,E',H',h3,h4⟩:=ih (i+1) _ _ (by omega) h2
   exact ⟨x,E',H',RunsTo.loop h1 rfl rfl h3 rfl hc (he _ _ _ hI),h4⟩
 exact key n 0 e H (Nat.zero_add n) h0
theorem QdL {base r k:Nat} {H:Heap} (h:k<r):(gc base r H)[k]?=H[k]?:=by
 unfold gc
 exact zU (by omega)
def fwC (D:Nat→Nat→Int) (k i j:Nat):Nat→Nat→Int:=fun a b=>if a=i∧b=j then min (D i j) (D i k+D k j) else D a b
def fwR (k i m:Nat) (D:Nat→Nat→Int):Nat→Nat→Int:=(qB m).foldl (fun D j=>fwC D k i j) D
def fwK (n k m:Nat) (D:Nat→Nat→Int):Nat→Nat→Int:=(qB m).foldl (fun D i=>fwR k i n D) D
def fwA (n m:Nat) (D:Nat→Nat→Int):Nat→Nat→Int:=(qB m).foldl (fun D k=>fwK n k n D) D
theorem CL (k i m:Nat) (D:Nat→Nat→Int):fwR k i (m+1) D=fwC (fwR k i m D) k i m:=by simp [fwR,zL]
theorem CM (n k m:Nat) (D:Nat→Nat→Int):fwK n k (m+1) D=fwR k m n (fwK n k m D):=by simp [fwK,zL]
theorem CN (n m:Nat) (D:Nat→Nat→Int):fwA n (m+1) D=fwK n m n (fwA n m D):=by simp [fwA,zL]
def Bd (n:Nat) (D:Nat→Nat→Int):Prop:=∀a b,a<n→b<n→0≤D a b∧D a b≤1000000
theorem Bd.cell {n k i j:Nat} {D:Nat→Nat→Int} (h:Bd n D) (hk:k<n) (hi:i<n) (hj:j<n):Bd n (fwC D k i j):=fun a b ha hb=>by
 have h1:=h i j hi hj
 have h2:=h i k hi hk
 have h3:=h k j hk hj
 unfold fwC
 split
 ·omega
 ·exact h a b ha hb
open Classical in
noncomputable def XL:List HV→Option HV:=rwF fun R=>if okD R then some (.own 1 ((mat R.length (fwA R.length R.length (at2 R))).map Zk)) else none
theorem Qoq:Try.f45.results.toList=[.tmp 2]:=by kernel_rfl
section
variable {n:Nat}
abbrev FM (n:Nat) (D:Nat→Nat→Int) (H:Heap):Prop:=TD 0 (fun a=>(qB n).map (D a)) n H
theorem FM.ld {D:Nat→Nat→Int} {H:Heap} (h:FM n D H) {i:Nat} (hi:i<n):Qh Tp H 23 (.ptr 0 i 0 n)=some (.sl (0+1+i) 0 n none n 1):=by
 refine Qv (b:=0) h.out (by simp) ?_ rfl a23 i23
 rw [zN,List.getElem?_range hi]
 simp [slD]
theorem FM.cell {D:Nat→Nat→Int} {H:Heap} (h:FM n D H) {i k:Nat} (hi:i<n) (hk:k<n):Qh Tp H 3 (.ptr (0+1+i) k 0 n)=some (.int .i64 (D i k)):=by
 have:=Xt (h.row i hi) (y:=k) (by simpa using hk)
 rw [show ((qB n).map (D i)).length=n by simp,Qdp hk] at this
 exact this
theorem FM.st {D:Nat→Nat→Int} {H:Heap} (h:FM n D H) {i k:Nat} (hi:i<n) (hk:k<n) (x:Int):∃H',QM Tp H 3 (.ptr (0+1+i) k 0 n) (.int .i64 x)=some H'∧FM n (fun a b=>if a=i∧b=k then x else D a b) H':=by
 have hl:=h.len
 have:=J4 (h.row i hi) (y:=k) (by simpa using hk) x
 rw [show ((qB n).map (D i)).length=n by simp] at this
 refine ⟨_,this,by simp [hl],?_,fun a ha=>?_⟩
 ·rw [qC (by omega),h.out]
  congr 2
  refine List.map_congr_left fun a _=>?_
  simp [slD]
 ·by_cases e:a=i
  ·subst e
   rw [qP (by omega),Gq]
   congr 2
   refine Jp fun b hb=>?_
   show _=if a=a∧b=k then x else D a b
   by_cases e:b=k
   ·rw [if_pos e,if_pos ⟨rfl,e⟩]
   ·rw [if_neg e,if_neg fun h=>e h.2]
  ·rw [qC (by omega),h.row a ha]
   congr 2
   refine Jp fun b hb=>?_
   show _=if a=i∧b=k then x else D a b
   rw [if_neg fun h=>e h.1]
theorem FM.fz {D:Nat→Nat→Int} {H:Heap} (hn:1≤n) (h:FM n D H):∀(j i:Nat),i+j=n→mapO (frz H [0] 4) ((jH i j).map (slD 0 (fun a=>(qB n).map (D a))))=some ((jH i j).map fun a=>Zk ((qB n).map (D a)))
 | 0,i,_=>rfl
 | j+1,i,hi=>by
  rw [zQ,qZ,qZ,mapO]
  have hr:=h.row i (by omega)
  have hv:Wh H (0+1+i) 0 n n 1=some (((qB n).map (D i)).map hvI):=by
   simp only [Wh,hr,qD,jQ]
   rw [if_pos ⟨trivial,by omega,trivial⟩,zM,qQ (by simp)]
  have hm:mapO (frz H [0] 3) (((qB n).map (D i)).map hvI)=some (((qB n).map (D i)).map hvI):=WB (f:=frz H [0] 3) (g:=hvI) (fun r=>Kr 3 r) _
  have:frz H [0] 4 (slD 0 (fun a=>(qB n).map (D a)) i)=some (Zk ((qB n).map (D i))):=by
   have e:frz H [0] 4 (.sl (0+1+i) 0 n none n 1)=if n=0 then some (.imm .own 1 []) else if [0].contains (0+1+i) then none else match Wh H (0+1+i) 0 n n 1 with | some l=>(match mapO (frz H [0] 3) l with | some l=>some (.imm .own 1 l) | none=>none) | none=>none:=rfl
   have es:slD 0 (fun a=>(qB n).map (D a)) i=.sl (0+1+i) 0 n none n 1:=by simp [slD]
   rw [es,e,if_neg (by omega),if_neg (by simp),hv]
   simp only [hm]
   rfl
  rw [this,FM.fz hn h j (i+1) (by omega)]
theorem FM.res {D:Nat→Nat→Int} {H:Heap} (hn:1≤n) (h:FM n D H):We H false (.sl 0 0 n none n 1)=some (.own 1 ((mat n D).map Zk)):=by
 have ho:=h.out
 have hw:Qu H false (.sl 0 0 n none n 1)=[0]:=by simp [Qu,cellsOf,WQ,ho]
 have hv:Wh H 0 0 n n 1=some ((qB n).map (slD 0 (fun a=>(qB n).map (D a)))):=by
  simp only [Wh,ho,qD,jQ]
  rw [if_pos ⟨trivial,by omega,trivial⟩,zM,qQ (by simp)]
 have hf:=h.fz hn n 0 (by omega)
 rw [← zS] at hf
 have hr:(Zq H [0] false)=frz H [0] 4:=by funext v;rfl
 simp only [We,hw,zT,zG,not_false_eq_true,qS,and_self,if_true,WO,Wr,ho,hv,hr,hf]
 rw [mat,List.map_map];rfl
theorem FM.cut {D:Nat→Nat→Int} {H:Heap} (h:FM n D H) {base r:Nat} (hb:base=0+n+1):FM n D (gc base r H):=by
 have hl:=h.len
 have e:gc base r H=H:=by unfold gc;exact qQ (by omega)
 rw [e];exact h
end
section
variable {n:Nat} {rw:List HV}
theorem Qor (hn:n≤12) {k i:Nat} (hk:k<n) (hi:i<n) {D:Nat→Nat→Int} {H:Heap} (hD:Bd n D) (h:FM n D H):∃H',RT polFw 45 (sn 500882 B45) (Wy (.a rw) (.imm .lit 1 []) (.s 0 n) (.i (n:Int)) (.i (k:Int)) (.i (i:Int)) (.i (0:Int)) Ud) H (.exit 4) (Wy (.a rw) (.imm .lit 1 []) (.s 0 n) (.i (n:Int)) (.i (k:Int)) (.i (i:Int)) (.i (n:Int)) Ud) H'∧FM n (fwR k i n D) H'∧Bd n (fwR k i n D):=by
 obtain ⟨x,E',H',r,rfl,rfl,h1,h2⟩:=V9 (pol':=polFw) (f:=45) (b:=sn 1001764 B45) (c:=sn 500882 B45) (I:=fun j e X=>e=(Wy (.a rw) (.imm .lit 1 []) (.s 0 n) (.i (n:Int)) (.i (k:Int)) (.i (i:Int)) (.i (j:Int)) Ud)∧FM n (fwR k i j D) X∧Bd n (fwR k i j D))
  (Q:=fun x E' X=>x=.exit 4∧E'=(Wy (.a rw) (.imm .lit 1 []) (.s 0 n) (.i (n:Int)) (.i (k:Int)) (.i (i:Int)) (.i (n:Int)) Ud)∧FM n (fwR k i n D) X∧Bd n (fwR k i n D)) n
  (by
   rintro j hj e X ⟨rfl,hX,hB⟩
   rw [CL]
   generalize fwR k i j D=C at *
   obtain ⟨H0,st,hF⟩:=hX.st hi hj (min (C i j) (C i k+C k j))
   have b2:=hB i k hi hk
   have b3:=hB k j hk hj
   have s:=QmV 0 rw X n 0 k i j (0+1+i) (0+1+k) (C i j) (C i k) (C k j) (by omega) (ixo hi) (hX.ld hi) (ixg hj) (hX.cell hi hj) (ixo hi) (hX.ld hi) (ixg hk) (hX.cell hi hk) (ixo hk) (hX.ld hk) (ixg hj) (hX.cell hk hj) (ixg hj) (by rw [Qn (by omega) (by omega)];exact st)
   rw [Qc (by omega)] at s
   have er:QQ polFw 45 (sn 1001764 B45) (Wy (.a rw) (.imm .lit 1 []) (.s 0 n) (.i (n:Int)) (.i (k:Int)) (.i (i:Int)) (.i ((j+1:Nat):Int)) (.s (0+1+i) n))=(Wy (.a rw) (.imm .lit 1 []) (.s 0 n) (.i (n:Int)) (.i (k:Int)) (.i (i:Int)) (.i ((j+1:Nat):Int)) Ud):=by kernel_rfl
   refine ⟨_,H0,s,er,?_,hB.cell hk hi hj⟩
   rw [er]
   exact FM.cut hF hX.len)
  (by
   rintro e X ⟨rfl,hX,hB⟩
   exact ⟨_,_,_,QmW 0 rw X n 0 k i n 0 0 0 0 0 (by omega),by simp,rfl,rfl,hX,hB⟩)
  (by kernel_rfl) (by rintro i e X ⟨rfl,_⟩;kernel_rfl) (e:=(Wy (.a rw) (.imm .lit 1 []) (.s 0 n) (.i (n:Int)) (.i (k:Int)) (.i (i:Int)) (.i (0:Int)) Ud)) (H:=H) ⟨rfl,h,hD⟩
 exact ⟨H',r,h1,h2⟩
theorem Qm0 (hn:n≤12) {k:Nat} (hk:k<n) {D:Nat→Nat→Int} {H:Heap} (hD:Bd n D) (h:FM n D H):∃H',RT polFw 45 (sn 7826 B45) (Wy (.a rw) (.imm .lit 1 []) (.s 0 n) (.i (n:Int)) (.i (k:Int)) (.i (0:Int)) Ud Ud) H (.exit 2) (Wy (.a rw) (.imm .lit 1 []) (.s 0 n) (.i (n:Int)) (.i (k:Int)) (.i (n:Int)) Ud Ud) H'∧FM n (fwK n k n D) H'∧Bd n (fwK n k n D):=by
 obtain ⟨x,E',H',r,rfl,rfl,h1,h2⟩:=V9 (pol':=polFw) (f:=45) (b:=sn 15652 B45) (c:=sn 7826 B45) (I:=fun i e X=>e=(Wy (.a rw) (.imm .lit 1 []) (.s 0 n) (.i (n:Int)) (.i (k:Int)) (.i (i:Int)) Ud Ud)∧FM n (fwK n k i D) X∧Bd n (fwK n k i D))
  (Q:=fun x E' X=>x=.exit 2∧E'=(Wy (.a rw) (.imm .lit 1 []) (.s 0 n) (.i (n:Int)) (.i (k:Int)) (.i (n:Int)) Ud Ud)∧FM n (fwK n k n D) X∧Bd n (fwK n k n D)) n
  (by
   rintro i hi e X ⟨rfl,hX,hB⟩
   rw [CM]
   have s1:=QmS 0 rw X n 0 k i (by omega)
   have s2:=QmU 0 rw X n 0 k i
   obtain ⟨X',r,hF,hB'⟩:=Qor (rw:=rw) hn hk hi hB hX
   have s3:=QmX 0 rw X' n 0 k i (y7:=.i (n:Int))
   rw [Qc (by omega)] at s3
   have er:QQ polFw 45 (sn 15652 B45) (Wy (.a rw) (.imm .lit 1 []) (.s 0 n) (.i (n:Int)) (.i (k:Int)) (.i ((i+1:Nat):Int)) (.i (n:Int)) Ud)=(Wy (.a rw) (.imm .lit 1 []) (.s 0 n) (.i (n:Int)) (.i (k:Int)) (.i ((i+1:Nat):Int)) Ud Ud):=by kernel_rfl
   refine ⟨_,X',sq (s1) (sq (RunsTo.block_normal (i:=3) (c:=sn 62610 B45) (sq (s2) (bke (c:=sn 250441 B45) (r)) (c:=sn 125220 B45)) (by kernel_rfl)) (s3) (c:=sn 31305 B45)) (c:=sn 15652 B45),er,?_,hB'⟩
   rw [er]
   exact FM.cut hF hX.len)
  (by
   rintro e X ⟨rfl,hX,hB⟩
   have s1:=QmT 0 rw X n 0 k n (by omega)
   exact ⟨_,_,_,sqo (s1) (c:=sn 15652 B45) (b:=sn 31305 B45),by simp,rfl,rfl,hX,hB⟩)
  (by kernel_rfl) (by rintro i e X ⟨rfl,_⟩;kernel_rfl) (e:=(Wy (.a rw) (.imm .lit 1 []) (.s 0 n) (.i (n:Int)) (.i (k:Int)) (.i (0:Int)) Ud Ud)) (H:=H) ⟨rfl,h,hD⟩
 exact ⟨H',r,h1,h2⟩
theorem Qm1 (hn:n≤12) {D:Nat→Nat→Int} {H:Heap} (hD:Bd n D) (h:FM n D H):∃H',RT polFw 45 (sn 122 B45) (Wy (.a rw) (.imm .lit 1 []) (.s 0 n) (.i (n:Int)) (.i (0:Int)) Ud Ud Ud) H (.exit 0) (Wy (.a rw) (.imm .lit 1 []) (.s 0 n) (.i (n:Int)) (.i (n:Int)) Ud Ud Ud) H'∧FM n (fwA n n D) H':=by
 obtain ⟨x,E',H',r,rfl,rfl,h1⟩:=V9 (pol':=polFw) (f:=45) (b:=sn 244 B45) (c:=sn 122 B45) (I:=fun k e X=>e=(Wy (.a rw) (.imm .lit 1 []) (.s 0 n) (.i (n:Int)) (.i (k:Int)) Ud Ud Ud)∧FM n (fwA n k D) X∧Bd n (fwA n k D))
  (Q:=fun x E' X=>x=.exit 0∧E'=(Wy (.a rw) (.imm .lit 1 []) (.s 0 n) (.i (n:Int)) (.i (n:Int)) Ud Ud Ud)∧FM n (fwA n n D) X) n
  (by
   rintro k hk e X ⟨rfl,hX,hB⟩
   rw [CN]
   have s1:=QmP 0 rw X n 0 k (by omega)
   have s2:=QmR 0 rw X n 0 k
   obtain ⟨X',r,hF,hB'⟩:=Qm0 (rw:=rw) hn hk hB hX
   have s3:=QmY 0 rw X' n 0 k (y6:=.i (n:Int))
   rw [Qc (by omega)] at s3
   have er:QQ polFw 45 (sn 244 B45) (Wy (.a rw) (.imm .lit 1 []) (.s 0 n) (.i (n:Int)) (.i ((k+1:Nat):Int)) (.i (n:Int)) Ud Ud)=(Wy (.a rw) (.imm .lit 1 []) (.s 0 n) (.i (n:Int)) (.i ((k+1:Nat):Int)) Ud Ud Ud):=by kernel_rfl
   refine ⟨_,X',sq (s1) (sq (RunsTo.block_normal (i:=1) (c:=sn 978 B45) (sq (s2) (bke (c:=sn 3913 B45) (r)) (c:=sn 1956 B45)) (by kernel_rfl)) (s3) (c:=sn 489 B45)) (c:=sn 244 B45),er,?_,hB'⟩
   rw [er]
   exact FM.cut hF hX.len)
  (by
   rintro e X ⟨rfl,hX,hB⟩
   have s1:=QmQ 0 rw X n 0 n (by omega)
   exact ⟨_,_,_,sqo (s1) (c:=sn 244 B45) (b:=sn 489 B45),by simp,rfl,rfl,hX⟩)
  (by kernel_rfl) (by rintro i e X ⟨rfl,_⟩;kernel_rfl) (e:=(Wy (.a rw) (.imm .lit 1 []) (.s 0 n) (.i (n:Int)) (.i (0:Int)) Ud Ud Ud)) (H:=H) ⟨rfl,h,hD⟩
 exact ⟨H',r,h1⟩
end
theorem Qga {R:List (List Int)} (h:okD R):Qbe R=R:=by
 have hn:=h.1
 unfold Qbe
 rw [qQ (by omega)]
 refine jV (by simp) fun i h1 h2=>?_
 rw [List.getElem_map]
 have:=h.2.1 i h2
 rw [qM,qK h2,jA] at this
 exact qQ (by omega)
theorem QdM {R:List (List Int)} (h:okD R) {a:Nat} (ha:a<R.length):R.getD a []=(qB R.length).map (at2 R a):=by
 have hl:=h.2.1 a ha
 refine jV (by rw [hl,qD,jQ]) fun i h1 h2=>?_
 rw [List.getElem_map,List.getElem_range]
 exact (Zt h1).symm
theorem CO:QN Tp 45 XL:=by
 refine Qp (pol:=polFw) (fn:=Try.f45) (cd:=B45) Qi Qf9 (by kernel_rfl) (by kernel_rfl) (Jj polFw.prim _ _ (by kernel_rfl)) (by kernel_rfl) ?_
 intro args res h
 obtain ⟨d,rfl,hq⟩:=Vq h
 clear h
 split at hq
 case isFalse=>cases hq
 rename_i hd
 cases hq
 have hdn:=hd.1
 have hne:d≠[]:=fun e=>by rw [e] at hdn;simp at hdn
 obtain ⟨H',e1,hT⟩:=QmK d hne []
 rw [qY] at e1 hT
 replace hT:TD 0 (fun a=>d.getD a []) d.length H':=hT
 have k15:∀kf,Qa Tp polFw (kf+1) 15 [.imm .arg 1 (d.map Qb)] []=some (.sl 0 0 d.length none d.length 1,H'):=fun kf=>by
  rw [Qt (pol:=polFw) (g:=15) (F:=XK) (by kernel_rfl) (rs:=[.imm .arg 1 (d.map Qb)]) (by simp only [mapO,JN]) (res:=.own 1 (d.map XJ)) (by simp only [XK,rwF,QH Wv,Qga hd]),e1];rfl
 have hF:FM d.length (at2 d) H':=by
  refine ⟨hT.len,?_,fun a ha=>?_⟩
  ·rw [hT.out]
   congr 2
   refine List.map_congr_left fun a ha=>?_
   have:=QdM hd (List.mem_range.1 ha)
   simp only [slD,this]
  ·rw [← QdM hd ha];exact hT.row a ha
 have a:=QmL 0 (d.map Qb) []
 have b:=QmM 0 (d.map Qb) [] d.length 0 k15
 have c:=QmN 0 (d.map Qb) H' d.length 0
 rw [qD] at c
 have dd:=QmO 0 (d.map Qb) H' d.length 0
 obtain ⟨X,r,hX⟩:=Qm1 (rw:=d.map Qb) (n:=d.length) (by omega) (fun a b ha hb=>by have:=(hd.2.2 a ha b hb).1;omega) hF
 have z:=QmZ 0 (d.map Qb) X d.length 0 (y5:=.i (d.length:Int))
 have t:=sq (a) (sq (b) (sq (c) (sq (sq (dd) (bke (c:=sn 61 B45) (r)) (c:=sn 30 B45)) (z) (c:=sn 15 B45)) (c:=sn 7 B45)) (c:=sn 3 B45)) (c:=B45)
 exact ⟨_,_,_,.sl 0 0 d.length none d.length 1,t,by simp,by simp only [Qf,Qoq];rfl,hX.res (by omega)⟩
end Go.Proofs.Ytlendaofkmhgmaa
end
section
open Go Go.HL Go.HL.So
namespace Go.Proofs.Ytlendaofkmhgmaa
set_option linter.unusedSectionVars false
open Go.Proofs.Try renaming prog → Tp
open Go.HL.HV renaming undef → Ud
structure Ds (n:Nat) (D:Nat→Nat→Int):Prop where
 bd:∀a b,a<n→b<n→0≤D a b∧D a b≤1000
 sy:∀a b,a<n→b<n→D a b=D b a
 dg:∀a,a<n→D a a=0
def Tg (n k:Nat) (D:Nat→Nat→Int):Prop:=∀m,m<k→∀a b,a<n→b<n→D a b≤D a m+D m b
theorem QdN {k i:Nat} {D:Nat→Nat→Int} (h0:D k k=0):∀m,fwR k i m D=fun a b=>if a=i∧b<m then min (D i b) (D i k+D k b) else D a b
 | 0=>by
  funext a b
  rw [if_neg (by omega)];rfl
 | m+1=>by
  rw [CL,QdN h0 m]
  funext a b
  have e1:(if i=i∧m<m then min (D i m) (D i k+D k m) else D i m)=D i m:=if_neg (by omega)
  have e2:(if i=i∧k<m then min (D i k) (D i k+D k k) else D i k)=D i k:=by split <;> omega
  have e3:(if k=i∧m<m then min (D i m) (D i k+D k m) else D k m)=D k m:=if_neg (by omega)
  show (if a=i∧b=m then min (if i=i∧m<m then min (D i m) (D i k+D k m) else D i m) ((if i=i∧k<m then min (D i k) (D i k+D k k) else D i k)+(if k=i∧m<m then min (D i m) (D i k+D k m) else D k m)) else (if a=i∧b<m then min (D i b) (D i k+D k b) else D a b))=_
  rw [e1,e2,e3]
  by_cases c:a=i∧b=m
  ·rw [if_pos c,if_pos ⟨c.1,by omega⟩,c.2]
  ·rw [if_neg c]
   by_cases c2:a=i∧b<m
   ·rw [if_pos c2,if_pos ⟨c2.1,by omega⟩]
   ·rw [if_neg c2,if_neg fun h=>by
     have h1:=h.1
     have h2:=h.2
     exact c ⟨h1,by
      have:¬b<m:=fun h=>c2 ⟨h1,h⟩
      omega⟩]
theorem QdO {n k:Nat} {D:Nat→Nat→Int} (h0:D k k=0):∀m,fwK n k m D=fun a b=>if a<m∧b<n then min (D a b) (D a k+D k b) else D a b
 | 0=>by
  funext a b
  rw [if_neg (by omega)];rfl
 | m+1=>by
  rw [CM,QdO h0 m,QdN (by
   show (if k<m∧k<n then min (D k k) (D k k+D k k) else D k k)=0
   split <;> omega)]
  funext a b
  have e1:∀b,(if m<m∧b<n then min (D m b) (D m k+D k b) else D m b)=D m b:=fun b=>if_neg (by omega)
  have e3:∀b,(if k<m∧b<n then min (D k b) (D k k+D k b) else D k b)=D k b:=fun b=>by split <;> omega
  simp only [e1,e3]
  by_cases c:a=m∧b<n
  ·rw [if_pos c,if_pos ⟨by omega,c.2⟩,c.1]
  ·rw [if_neg c]
   by_cases c2:a<m∧b<n
   ·rw [if_pos c2,if_pos ⟨by omega,c2.2⟩]
   ·rw [if_neg c2,if_neg fun h=>by
     have h1:=h.1
     have h2:=h.2
     exact c ⟨by
      have:¬a<m:=fun h=>c2 ⟨h,h2⟩
      omega,h2⟩]
theorem Qos {n k:Nat} {D:Nat→Nat→Int} (hk:k<n) (h:Ds n D) (ht:Tg n k D):Ds n (fwK n k n D)∧Tg n (k+1) (fwK n k n D):=by
 have e:∀a b,a<n→b<n→fwK n k n D a b=min (D a b) (D a k+D k b):=fun a b ha hb=>by
  rw [QdO (h.dg k hk)]
  exact if_pos ⟨ha,hb⟩
 refine ⟨⟨fun a b ha hb=>?_,fun a b ha hb=>?_,fun a ha=>?_⟩,fun m hm a b ha hb=>?_⟩
 ·rw [e a b ha hb]
  have h1:=h.bd a b ha hb
  have h2:=h.bd a k ha hk
  have h3:=h.bd k b hk hb
  omega
 ·rw [e a b ha hb,e b a hb ha,h.sy a b ha hb,h.sy a k ha hk,h.sy k b hk hb]
  omega
 ·rw [e a a ha ha,h.dg a ha]
  have h2:=h.bd a k ha hk
  have h3:=h.bd k a hk ha
  omega
 ·have hmn:m<n:=by omega
  rw [e a b ha hb,e a m ha hmn,e m b hmn hb]
  have p1:=h.bd a k ha hk
  have p2:=h.bd k b hk hb
  have p3:=h.bd k m hk hmn
  have p4:=h.bd m k hmn hk
  by_cases c:m=k
  ·subst c
   have:=h.dg m hk
   omega
  ·have q1:=ht m (by omega) a b ha hb
   have q2:=ht m (by omega) k b hk hb
   have q3:=ht m (by omega) a k ha hk
   omega
theorem QdP {n:Nat} {D:Nat→Nat→Int} (h:Ds n D):∀k,k≤n→Ds n (fwA n k D)∧Tg n k (fwA n k D)
 | 0,_=>⟨h,fun m hm=>by omega⟩
 | k+1,hk=>by
  obtain ⟨h1,h2⟩:=QdP h k (by omega)
  rw [CN]
  exact Qos (by omega) h1 h2
theorem Ds.of {d:List (List Int)} (h:okD d):Ds d.length (at2 d):=⟨fun a b ha hb=>(h.2.2 a ha b hb).1,fun a b ha hb=>(h.2.2 a ha b hb).2.1,fun a ha=>(h.2.2 a ha a ha).2.2 rfl⟩
theorem Ds.mat {n:Nat} {D:Nat→Nat→Int} (h:Ds n D) (hn:1≤n∧n≤11):okD (mat n D):=by
 have hl:=ZQ n D
 refine ⟨by rw [hl];exact hn,fun i hi=>?_,fun i hi j hj=>?_⟩
 ·rw [hl] at hi ⊢
  rw [Gp hi];simp
 ·rw [hl] at hi hj
  rw [JB hi hj,JB hj hi]
  refine ⟨h.bd i j hi hj,h.sy i j hi hj,fun e=>?_⟩
  subst e;exact h.dg i hi
theorem Qm2 {n:Nat} {D:Nat→Nat→Int} (h:Ds n D) (ht:Tg n n D) (hn:1≤n∧n≤11):Mt (mat n D):=⟨h.mat hn,fun a b c ha hb hc=>by
 rw [ZQ] at ha hb hc
 rw [JB ha hc,JB ha hb,JB hb hc]
 exact ht b hb a c ha hc⟩
section
variable {d:List (List Int)}
theorem Dy (h:Mt d) {i j:Nat} (hi:i<d.length) (hj:j<d.length):∀m k,k+m≤d.length→Sz d i j m k=none
 | 0,_,_=>rfl
 | m+1,k,hk=>by
  have:=h.tr i j k hi hj (by omega)
  rw [Sz,if_neg (by omega),Dy h hi hj m (k+1) (by omega)]
theorem DA (h:Mt d) {i:Nat} (hi:i<d.length):∀m j,j+m≤d.length→SA d i m j=none
 | 0,_,_=>rfl
 | m+1,j,hj=>by
  rw [SA,Dy h hi (by omega) _ 0 (by omega)]
  exact DA h hi m (j+1) (by omega)
theorem DB (h:Mt d):∀m i,i+m≤d.length→SB d m i=none
 | 0,_,_=>rfl
 | m+1,i,hi=>by
  rw [SB,DA h (by omega) _ 0 (by omega)]
  exact DB h m (i+1) (by omega)
theorem QdQ (h:Mt d):vio d=none:=DB h _ 0 (by omega)
theorem QaD (h:Mt d) {t:Nat} (ht:t<d.length):∀(ps:List (Nat×Nat)),(∀p∈ps,p.1<d.length∧p.2<d.length)→ps.foldl (rl d) (d.getD t [])=d.getD t []
 | [],_=>rfl
 | p::ps,hp=>by
  obtain ⟨h1,h2⟩:=hp p (by simp)
  have hl:=h.ok.2.1 t ht
  have e:rl d (d.getD t []) p=d.getD t []:=by
   unfold rl
   have h3:=h.tr t p.1 p.2 ht h1 h2
   have e1:(d.getD t []).getD p.2 0=at2 d t p.2:=rfl
   have e2:(d.getD t []).getD p.1 0=at2 d t p.1:=rfl
   rw [e1,e2,show min (at2 d t p.2) (at2 d t p.1+at2 d p.1 p.2)=at2 d t p.2 by omega]
   refine jV (by simp) fun i q1 q2=>?_
   rw [List.getElem_set]
   split
   ·rename_i e;subst e
    exact Zt q2
   ·rfl
  rw [qT,e]
  exact QaD h ht ps fun q hq=>hp q (by simp [hq])
theorem QaE {n u:Nat} (hu:u<n):∀k v,v+k≤n→∀p∈UI u k v,p.1<n∧p.2<n
 | 0,_,_,_,h=>by cases h
 | k+1,v,hv,p,h=>by
  rcases List.mem_cons.1 h with rfl | h
  ·exact ⟨by show v<n;omega,hu⟩
  ·exact QaE hu k (v+1) (by omega) p h
theorem QaF {n:Nat}:∀k u,u+k≤n→∀p∈V6 n k u,p.1<n∧p.2<n
 | 0,_,_,_,h=>by cases h
 | k+1,u,hu,p,h=>by
  rcases List.mem_append.1 h with h | h
  ·exact QaE (by omega) n 0 (by omega) p h
  ·exact QaF k (u+1) (by omega) p h
theorem QaG (h:Mt d) {t:Nat} (ht:t<d.length) {ps:List (Nat×Nat)} (hp:∀p∈ps,p.1<d.length∧p.2<d.length):∀k,rnds d ps k (d.getD t [])=d.getD t []
 | 0=>rfl
 | k+1=>by rw [rnds,QaD h ht ps hp,QaG h ht hp k]
theorem QaH (h:Mt d) {t:Nat} (ht:t<d.length):Zl d t=d.getD t []:=QaG h ht (QaF d.length 0 (by omega)) _
theorem QaI {f:Nat→Bool}:∀k i,Va f k i=true→∃u,pck f k i=some u
 | 0,_,h=>by cases h
 | k+1,i,h=>by
  rw [pck]
  by_cases c:f i=true
  ·exact ⟨i,if_pos c⟩
  ·rw [if_neg c]
   rw [Va,zH] at h
   exact QaI k (i+1) (h.resolve_left c)
theorem VM (a:Int) (l:List Int) (x:Int):(a::l).getLastD x=l.getLastD a:=by cases l <;> rfl
theorem QaJ {fa:List Int} {to:Nat}:∀(k v L:Nat),L<k→ldT d fa to v L=true→QD (Dz d) ((v:Int)::wyF d fa to k v L)=fa.getD v 0-fa.getD to 0∧(wyF d fa to k v L).getLastD (v:Int)=(to:Int)
 | 0,_,_,h,_=>by omega
 | k+1,v,L,h,hl=>by
  rw [wyF]
  by_cases c:v=to
  ·subst c
   rw [if_pos rfl]
   exact ⟨by show (0:Int)=_;omega,rfl⟩
  ·rw [if_neg c]
   rw [J6,decide_eq_false c,Bool.false_or] at hl
   obtain ⟨u,hu⟩:=QaI _ _ hl
   have hu':pck (okW d fa to v L) d.length 0=some u:=hu
   rw [hu']
   obtain ⟨_,h4,_⟩:=Xw _ _ hu'
   simp only [okW,qU] at h4
   have hlt:=ZC h4.1.1
   obtain ⟨i1,i2⟩:=QaJ k u (wo L u) (by omega) h4.2
   have ht:=h4.1.2
   rw [KD,decide_eq_true_eq] at ht
   refine ⟨?_,?_⟩
   ·rw [QD,i1]
    show at2 d v u+_=_
    omega
   ·rw [VM];exact i2
theorem CP (h:Mt d) {fr to:Nat} (hf:fr<d.length) (ht:to<d.length):QD (Dz d) (WP d fr to)=at2 d fr to∧(WP d fr to).getLastD 0=(to:Int)∧(Zl d to).getD fr 0=at2 d fr to:=by
 have hw:=Xv (2 ^ d.length-1) fr
 have hpos:=zF d.length
 obtain ⟨h1,h2⟩:=QaJ (d:=d) (fa:=Zl d to) (to:=to) (2 ^ d.length) fr (wo (2 ^ d.length-1) fr) (by omega) (QdC h.ok ht hf)
 have e:(Zl d to).getD fr 0=at2 d fr to:=by
  rw [QaH h ht]
  exact (h.ok.2.2 to ht fr hf).2.1
 have e0:(Zl d to).getD to 0=0:=by
  rw [QaH h ht]
  exact (h.ok.2.2 to ht to ht).2.2 rfl
 refine ⟨?_,?_,e⟩
 ·rw [WP,h1,e,e0];omega
 ·rw [WP,VM];exact h2
theorem Qm3 (h:okD d) {fr to:Nat} (hf:fr<d.length):inT d.length (WP d fr to):=by
 have hw:=Xv (2 ^ d.length-1) fr
 have hpos:=zF d.length
 obtain ⟨q1,_⟩:=Qg1 (to:=to) h (fa:=Zl d to) (2 ^ d.length) fr (wo (2 ^ d.length-1) fr) (by omega)
 intro v hv
 rcases List.mem_cons.1 hv with rfl | hv
 ·omega
 ·exact q1 v hv
def pS (d:List (List Int)) (w:List Int):Nat→Int
 | 0=>0
 | j+1=>pS d w j+at2 d (w.getD j 0).toNat (w.getD (j+1) 0).toNat
theorem QaK (a b:Int) (w:List Int):∀j,pS d (a::b::w) (j+1)=Dz d a b+pS d (b::w) j
 | 0=>by show (0:Int)+Dz d a b=_+0;omega
 | j+1=>by
  rw [pS,QaK a b w j,pS]
  show _+at2 d (((b::w).getD j 0)).toNat ((b::w).getD (j+1) 0).toNat=_
  omega
theorem QdR:∀(w:List Int),pS d w (w.length-1)=QD (Dz d) w
 | []=>rfl
 | [_]=>rfl
 | a::b::w=>by
  have e:(a::b::w).length-1=((b::w).length-1)+1:=by simp
  rw [e,QaK,QdR (b::w),QD]
theorem Qg2 (h:okD d) {w:List Int} (hw:inT d.length w):∀j,j<w.length→0≤pS d w j∧pS d w j≤1000*(j:Int)
 | 0,_=>⟨qO _,by show (0:Int)≤_;omega⟩
 | j+1,hj=>by
  have ih:=Qg2 h hw j (by omega)
  have g:∀i,i<w.length→(w.getD i 0).toNat<d.length:=fun i hi=>by
   have:=hw _ (by rw [qM,qK hi,jA];exact zV _:w.getD i 0∈w)
   omega
  have:=(h.2.2 _ (g j (by omega)) _ (g (j+1) hj)).1
  rw [pS]
  omega
end
theorem QdS {n:Nat} {D:Nat→Nat→Int} (h:Mt (mat n D)) (hs:okD (mat (n-1) D)) (hn:2≤n):Wa (mat (n-1) D) (QI (mat (n-1) D))≤Wa (mat n D) (QI (mat n D)):=by
 have hl:=ZQ n D
 have hl1:=ZQ (n-1) D
 have ht:=X3 h.ok
 rw [hl] at ht
 obtain ⟨p1,p2,p3,p4⟩:=trOk_iff.1 ht
 obtain ⟨p,hp,hc⟩:=YO (n:=n) (by omega) ht
 rw [hp] at p1 p3 p4 ⊢
 have hm:∀v:Int,v∈p↔1≤v∧v<n:=fun v=>by rw [hc.2,YN (by omega),decide_eq_true_eq];omega
 have hx:((n:Int)-1)∈p:=(hm _).2 (by omega)
 have nd:=(List.nodup_cons.1 p4)
 have hmem:∀v∈p.erase ((n:Int)-1),1≤v∧v<(n:Int)-1:=fun v hv=>by
  obtain ⟨h1,h2⟩:=(nd.2.mem_erase_iff).1 hv
  have:=(hm v).1 h2
  omega
 have htr:KH (n-1) (0::p.erase ((n:Int)-1))=true:=by
  refine trOk_iff.2 ⟨?_,rfl,fun v hv=>?_,List.nodup_cons.2 ⟨fun h0=>by have:=hmem 0 h0;omega,nd.2.erase _⟩⟩
  ·rw [qL,wB hx]
   rw [qL] at p1
   have:=wC hx
   omega
  ·rcases List.mem_cons.1 hv with rfl | hv
   ·omega
   ·have:=hmem v hv;omega
 have low:=Qcm hs (l:=0::p.erase ((n:Int)-1)) (by rw [hl1];exact htr)
 refine Int.le_trans low ?_
 have hcg:∀(q:List Int) (s:Nat),s<n-1→(∀v∈q,0≤v∧v<(n:Int)-1)→pl (mat (n-1) D) s q=pl (mat n D) s q:=by
  intro q
  induction q with
  | nil=>intro s hs _;rw [pl,pl,JB hs (by omega),JB (by omega) (by omega)]
  | cons v q ih =>
   intro s hs hq
   have hv:=hq v (by simp)
   rw [pl,pl,JB hs (by omega),JB (by omega) (by omega),ih v.toNat (by omega) fun x hx=>hq x (by simp [hx])]
 rw [Ks,Ks,hcg _ 0 (by omega) fun v hv=>by have:=hmem v hv;omega]
 have e1:∀q,pl (mat n D) 0 q=cw (mat n D) 0 0 q:=fun q=>CH q 0
 rw [e1,e1]
 exact CG h ⟨by omega,by rw [hl];omega⟩ ⟨by omega,by rw [hl];omega⟩ p 0 ⟨by omega,by rw [hl];omega⟩ fun v hv=>by
  have:=(hm v).1 hv
  exact ⟨by omega,by rw [hl];omega⟩
end Go.Proofs.Ytlendaofkmhgmaa
end
section
namespace Go.Proofs.Ytlendaofkmhgmaa
open Go.RowKit Go.Maps Go.Sort Go.Shelf
variable {P:Program} {ρ:Ren}
set_option linter.unusedSectionVars false
def SG (F:Fence) (n:Nat) (P:Program) (g:Nat) (lb:Array Value) (zs:List Int) (w:World):Prop :=
 ∀(l:Nat) (J:List Int→World→Prop) (W:World),Below w.heap.size w W→(∀s W1,J s W1→Below w.heap.size w W1) →
  (∀pre x W1,J pre W1→pre.length<zs.length→YieldAt F (n-1) P l #[encZ x] W1 fun e W'=>e=.returned (.bool true)∧J (pre++[x]) W'∧KeepsWalks W1 W') →
  J [] W→CallsIn F n P g (#[.func (.yield l) #[] #[]]++lb) W fun e W'=>(∃v,e=.returned v)∧J zs W'
set_option maxRecDepth 100000 in
set_option maxHeartbeats 2000000 in
theorem SH (L:SlLaysZI.n11 P ρ) (F:Fence) (n:Nat) (h11:F.fn (ρ.f 11)) (hro:F.round=none) (hn:2≤n) (g:Nat) (lb:Array Value) (hFg:F.fn g) (eg:∀args w,(callFunc g args).run P w=.ok (.enter g args) w)
    (ss:List Int) (hN:ss.length≤maxLen) (hNb:ss.length*8≤140737488355328) (w:World) (hseq:SG F (n-1) P g lb ss w) :
    CallsIn F n P (ρ.f 11) #[.slice none 0 0,.func (.func g) #[] lb] w fun e w'=>∃(v:Value),e=.returned v∧w'.ownsRow w.heap.size (ρ.t 26) 1 v ss.length (ss.map encZ)∧(v=.slice none 0 0↔ss=[])∧Below w.heap.size w w':=by
  have h1:1≤n:=by omega
  have mixed:=L.mixed;have t0:=L.t0;have a0:=L.a0;have z0:=L.z0;have v0:=L.v0;have t24:=L.t24;have a24:=L.a24;have z24:=L.z24;have v24:=L.v24;have t26:=L.t26;have a26:=L.a26;have z26:=L.z26;have v26:=L.v26;have t28:=L.t28;have a28:=L.a28;have z28:=L.z28;have v28:=L.v28
  have hne:ρ.t 24≠ρ.t 26:=fun e=>by have h:=L.t24;rw [e,L.t26] at h;cases h
  have u0:=run_underlying L.t0;have u24:=run_underlying L.t24;have u26:=run_underlying L.t26;have u28:=run_underlying L.t28
  obtain ⟨_,_,FG⟩:=L.f11
  refine callsIn_of_wp_marks FG rfl h11 ?_ hro
  simp only [SlBodyZ.n11_ntmps ρ,jW,qL,jX,jY,jZ,zA,zB,zC,zD,qY,qR]
  gi_wp2
  refine wpIn_rangeFunc ?_
  intro fn hfn
  rw [hro]
  obtain ⟨W0,hW0⟩:∃W0,w.alloc (.cells #[.slice none 0 0] (ρ.t 24))=W0:=⟨_,rfl⟩
  have hs0:W0.heap.size=w.heap.size+1:=by rw [← hW0];simp
  have hv0:W0.heap[w.heap.size]?=some (.cells #[.slice none 0 0] (ρ.t 24) (0,0)):=by rw [← hW0];exact World.alloc_heap_new w _
  have hb0:Below w.heap.size w W0:=by rw [← hW0];exact (Below.refl _ w).alloc (qE _) _
  rw [hW0]
  obtain ⟨W1,hW1⟩:∃W1,(W0.alloc (.deferred (some []))).alloc (.loop (AnyZI.apRec ρ fn (.func (.func g) #[] lb) w.heap.size W0.heap.size .ready none))=W1:=⟨_,rfl⟩
  have hold:∀k,k<W0.heap.size→W1.heap[k]?=W0.heap[k]?:=fun k hk=>by
    rw [← hW1];exact (Below.heap_alloc _ _ k (by simp;omega)).trans (Below.heap_alloc _ _ k hk)
  have hb1:Below w.heap.size w W1:=by rw [← hW1];exact (hb0.alloc hb0.size _).alloc (by have:=hb0.size;simp;omega) _
  have hs1:W1.heap.size=W0.heap.size+2:=by rw [← hW1];simp
  have hM:AnyZI.ApAt ρ w fn (.func (.func g) #[] lb) w.heap.size (W0.heap.size+1) W0.heap.size [] W1 :=
    ⟨⟨_,(hold w.heap.size (by omega)).trans hv0,⟨rfl,.inl ⟨rfl,rfl⟩⟩,by simp⟩,
     by rw [← hW1];have:=World.alloc_heap_new (W0.alloc (.deferred (some []))) (.loop (AnyZI.apRec ρ fn (.func (.func g) #[] lb) w.heap.size W0.heap.size .ready none));rwa [World.size_alloc] at this,
     by rw [← hW1];exact (Below.heap_alloc _ _ _ (by simp)).trans (World.alloc_heap_new W0 _),hb1⟩
  refine ⟨W0.heap.size+1,[{ target:=.collected W0.heap.size,args:=#[] }],W1,{ target:=.fn (.func g) lb,args:=#[.func (.yield (W0.heap.size+1)) #[] #[]] },W1,g,
    #[.func (.yield (W0.heap.size+1)) #[] #[]]++lb,W1,?_,?_,?_,?_,fun _=>h1,?_⟩
  · rw [← hW1];exact run_enterLoop_outer _ _ _ _ _
  · simp [resolve,go_sem]
  · intro f' hf';simp [Target.leads] at hf';subst hf';exact hFg
  · simp [invoke,go_sem,eg]
  · refine (hseq (W0.heap.size+1) (AnyZI.ApAt ρ w fn (.func (.func g) #[] lb) w.heap.size (W0.heap.size+1) W0.heap.size) W1 hb1 (fun s W h=>h.below)
      (fun pre x W hJ hl=>AnyZI.apYield { L with } F (n-1-1) w fn hfn _ w.heap.size (W0.heap.size+1) W0.heap.size (by omega) (by omega) (by omega) (qE _) (by omega) ss.length hN hNb pre x W hJ hl) hM).mono ?_
    rintro e W2 ⟨⟨v0,rfl⟩,h2⟩
    obtain ⟨v,hv,hrow,hnil⟩:=h2.box
    have hend:=run_endLoop (P:=P) h2.L (by simp [AnyZI.apRec])
    obtain ⟨W3,hW3⟩:∃W3,W2.putObj (W0.heap.size+1) (.loop { AnyZI.apRec ρ fn (.func (.func g) #[] lb) w.heap.size W0.heap.size .ready none with state:=.exhausted })=W3:=⟨_,rfl⟩
    rw [hW3] at hend
    have hg3:W2.grownBy W3 (some (W0.heap.size+1)):=by rw [← hW3];exact grownBy_putObj_a _ _ _
    have hv3:W3.heap[w.heap.size]?=some (.cells #[v] (ρ.t 24) (0,0)):=by rw [← hW3];exact (World.putObj_heap_other (by omega)).trans hv
    have hK3:W3.heap[W0.heap.size]?=some (.deferred (some [])):=by rw [← hW3];exact (World.putObj_heap_other (by omega)).trans h2.K
    have hrow3:=hrow.kept hg3 (ownsRow_ne_a hrow h2.L (fun cur e=>by first | cases e | exact hne (Obj.cells.inj e).2.1))
    have hb3:Below w.heap.size w W3:=h2.below.grown hg3 h2.below.size (fun k e=>by cases e;omega)
    obtain ⟨hc3,hf3⟩:=cell_of_box_a hv3
    clear hW3
    refine ⟨none,W3,hend,?_⟩
    gi_wp2
    rw [← hs0]
    refine ⟨by simp,.inl ⟨_,_,rfl,run_takeDeferred hK3,?_⟩⟩
    exact ⟨_,results_tmp rfl _ _ _,v,rfl,hrow3.kept (grownBy_putObj_a _ _ _) (ownsRow_ne_a hrow3 hK3 (fun cur e=>by first | cases e | exact hne (Obj.cells.inj e).2.1)),hnil,hb3.grown (grownBy_putObj_a _ _ _) hb3.size (fun k e=>by cases e;omega)⟩
set_option maxHeartbeats 1000000 in
theorem QdT (L:SlLaysZI.n8 P ρ) (F:Fence) (n:Nat) (h8:F.fn (ρ.f 8)) (h11:F.fn (ρ.f 11)) (hro:F.round=none) (hn:3≤n) (g:Nat) (lb:Array Value) (hFg:F.fn g) (eg:∀args w,(callFunc g args).run P w=.ok (.enter g args) w)
  (ss:List Int) (hN:ss.length≤maxLen) (hNb:ss.length*8≤140737488355328) (w:World) (hseq:SG F (n-1-1) P g lb ss w) :
  CallsIn F n P (ρ.f 8) #[.func (.func g) #[] lb] w fun e w'=>∃(v:Value),e=.returned v∧w'.ownsRow w.heap.size (ρ.t 26) 1 v ss.length (ss.map encZ)∧(v=.slice none 0 0↔ss=[])∧Below w.heap.size w w':=by
 have h1:1≤n:=by omega
 have e11:∀args w,(callFunc (ρ.f 11) args).run P w=.ok (.enter (ρ.f 11) args) w:=L.f11.enters rfl
 have mixed:=L.mixed;have t0:=L.t0;have a0:=L.a0;have z0:=L.z0;have v0:=L.v0;have t24:=L.t24;have a24:=L.a24;have z24:=L.z24;have v24:=L.v24;have t26:=L.t26;have a26:=L.a26;have z26:=L.z26;have v26:=L.v26;have t28:=L.t28;have a28:=L.a28;have z28:=L.z28;have v28:=L.v28
 have u0:=run_underlying L.t0;have u24:=run_underlying L.t24;have u26:=run_underlying L.t26;have u28:=run_underlying L.t28
 obtain ⟨_,_,FG⟩:=L.f8
 refine callsIn_of_wp FG rfl h8 ?_ hro
 simp only [SlBodyZ.n8_ntmps ρ,jW,qL,jX,jY,jZ,zA,zB,zC,zD,qY,qR]
 gi_wp2_with (gi_at_fn (ρ.f 11);refine (SH { L with } F (n-1) h11 hro (by omega) g lb hFg eg ss hN hNb _ hseq).mono ?_;rintro e w' ⟨v,rfl,hrow,hnil,hb⟩)
 go_ret
 exact ⟨v,rfl,hrow,hnil,hb⟩
set_option maxRecDepth 100000 in
set_option maxHeartbeats 2000000 in
theorem Qgb (L:SlLaysZI.n6 P ρ) (F:Fence) (n:Nat) (h6:F.fn (ρ.f 6)) (h8:F.fn (ρ.f 8)) (h9:F.fn (ρ.f 9)) (h11:F.fn (ρ.f 11)) (hro:F.round=none) (hn:4≤n) (hsort:AnyZI.SortsIn P ρ F (n-1)) (e9:∀args w,(callFunc (ρ.f 9) args).run P w=.ok (.enter (ρ.f 9) args) w) (g:Nat) (lb:Array Value) (hFg:F.fn g) (eg:∀args w,(callFunc g args).run P w=.ok (.enter g args) w)
  (ss:List Int) (hN:ss.length≤maxLen) (hNb:ss.length*8≤140737488355328) (hsz:ss.length<4611686018427387904) (w:World) (hseq:SG F (n-1-1-1) P g lb ss w) :
  CallsIn F n P (ρ.f 6) #[.func (.func g) #[] lb] w fun e w'=>∃(v:Value),e=.returned v ∧
   w'.ownsRow w.heap.size (ρ.t 26) 1 v ss.length ((ss.mergeSort (fun x y=>decide (x≤y))).map encZ)∧(v=.slice none 0 0↔ss=[])∧Below w.heap.size w w':=by
 have h1:1≤n:=by omega
 have e8:∀args w,(callFunc (ρ.f 8) args).run P w=.ok (.enter (ρ.f 8) args) w:=L.f8.enters rfl
 have mixed:=L.mixed;have t0:=L.t0;have a0:=L.a0;have z0:=L.z0;have v0:=L.v0;have t24:=L.t24;have a24:=L.a24;have z24:=L.z24;have v24:=L.v24;have t26:=L.t26;have a26:=L.a26;have z26:=L.z26;have v26:=L.v26;have t28:=L.t28;have a28:=L.a28;have z28:=L.z28;have v28:=L.v28
 have u0:=run_underlying L.t0;have u24:=run_underlying L.t24;have u26:=run_underlying L.t26;have u28:=run_underlying L.t28
 obtain ⟨_,_,FG⟩:=L.f6
 refine callsIn_of_wp FG rfl h6 ?_ hro
 simp only [SlBodyZ.n6_ntmps ρ,jW,qL,jX,jY,jZ,zA,zB,zC,zD,qY,qR]
 gi_wp2_with (gi_at_fn (ρ.f 8);refine (QdT { L with } F (n-1) h8 h11 hro (by omega) g lb hFg eg ss hN hNb _ hseq).mono ?_;rintro e W ⟨v,rfl,hrow,hnil,hb⟩)
 rcases hrow.2 with ⟨rfl,hz⟩ | ⟨gb,cap,cur,rfl,hbase,hgb,r1,r2,r3,r4⟩
 ·have hss:ss=[]:=zW hz
  subst hss
  gi_wp2_with (gi_at_fn (ρ.f 9);refine (hsort.2 none 0 W).mono ?_;rintro e w' ⟨rfl,rfl⟩)
  go_ret
  exact ⟨.slice none 0 0,rfl,by simpa using hrow,by simp,hb⟩
 ·have hH:Holds encZ W gb 0 ss.toArray:=holds_of_block_i hgb (by simpa using r4)
  have hgl:gb<W.heap.size:=(Array.getElem?_eq_some_iff.1 hgb).1
  have cS:=hsort.1 gb 0 cap ss W hH hgl hsz
  gi_wp2_with (gi_at_fn (ρ.f 9);refine cS.mono ?_;rintro e w' ⟨rfl,nn,os,rfl⟩)
  go_ret
  exact ⟨_,rfl,ownsRow_sorted_i (by simp) hbase hgb r1 r2 r3,hnil,hb.grown (grownBy_sorted_i _) hb.size (fun j hj=>by cases hj;exact hbase)⟩
end Go.Proofs.Ytlendaofkmhgmaa
end
section
namespace Go.Proofs.Ytlendaofkmhgmaa
open Go.RowKit Go.Shelf
set_option linter.unusedSectionVars false
def Qot:Value→Int | .int _ q=>q | _=>0
set_option maxRecDepth 100000 in
set_option maxHeartbeats 2000000 in
theorem Qou (F:Fence) (n:Nat) (h75:F.fn 75) (hro:F.round=none) (hn:1≤n) (w:World) (Bs b off len cap:Nat) (zs:List Int) (hlen:zs.length=len) (hreach:len*8≤140737488351232) (hb:b<w.heap.size) (hBs':Bs<w.heap.size)
  (hBs:w.cell? ⟨Bs,0,none⟩=some (.slice (some ⟨b,off,none⟩) len cap)) (hc:∀j,j<len→w.cell? ⟨b,off+j,none⟩=some (.int .i64 (zs[j]?.getD 0))) :
  SG F n Try.prog 75 #[.pointer (some ⟨Bs,0,none⟩)] zs w:=fun l J W hW hJ hY h0=>by
 have hBsW:W.cell? ⟨Bs,0,none⟩=some (.slice (some ⟨b,off,none⟩) len cap):=(hW.cell (p:=⟨Bs,0,none⟩) hBs').trans hBs
 show CallsIn F n Try.prog 75 #[.func (.yield l) #[] #[],.pointer (some ⟨Bs,0,none⟩)] W _
 refine callsIn_of_wp Try.func75 rfl h75 ?_ hro
 simp only [Try.ntmps75,jW,qL,jX,jY,jZ,zA,zB,zC,zD,qY,qR]
 gi_wp2
 gi_loopw [7] (fun i wr=>∃k:Nat,k≤len∧i=.int .i64 k∧J (zs.take k) wr)
  (fun i _=>len-(Qot i).toNat)
 case atStart=>exact ⟨0,qI _,rfl,h0⟩
 case round =>
  obtain ⟨k,hk,rfl,hJs⟩:=hrel
  have hnx:=hJ _ _ hJs
  have hcx:k<len→wr.cell? ⟨b,off+k,none⟩=some (.int .i64 (zs[k]?.getD 0)):=fun h=>(hnx.cell (p:=⟨b,off+k,none⟩) hb).trans (hc k h)
  by_cases hlt:k<len
  ·obtain ⟨z,hz⟩:∃z,zs[k]?=some z:=⟨zs[k]'(by omega),qK (by omega)⟩
   obtain ⟨fn,tmps,assign,body,hy,hR⟩:=hY _ z wr hJs (by rw [jJ];omega)
   have hcx':=hcx hlt
   rw [hz,jA] at hcx'
   clear hcx
   have hy:(Instr.yield l #[.int .i64 z]).run Try.prog wr=.ok (.round l fn tmps assign body) wr:=hy
   gi_wp2
   refine hR.mono ?_
   rintro e W3 ⟨rfl,hJ3,hk3⟩
   gi_wp2
   go_roundw
   case rel =>
    refine ⟨k+1,by omega,by simp,?_⟩
    have e:zs.take (k+1)=zs.take k++[z]:=by
     rw [zX (by omega)]
     rw [qK (by omega),Option.some.injEq] at hz
     rw [hz]
    rw [e];exact hJ3
   case measure=>simp [Qot];omega
  ·obtain rfl:k=len:=by omega
   gi_wp2
   go_end0
   refine ⟨⟨_,rfl⟩,?_⟩
   rw [← hlen,zY] at hJs
   exact hJs
set_option maxRecDepth 100000 in
set_option maxHeartbeats 1000000 in
theorem Qm4 (F:Fence) (n:Nat) (h75:F.fn 75) (hro:F.round=none) (w:World) (Bs cap:Nat) (a:Option Addr) (hBs':Bs<w.heap.size)
  (hBs:w.cell? ⟨Bs,0,none⟩=some (.slice a 0 cap)) :
  SG F n Try.prog 75 #[.pointer (some ⟨Bs,0,none⟩)] [] w:=fun l J W hW hJ hY h0=>by
 have hBsW:W.cell? ⟨Bs,0,none⟩=some (.slice a 0 cap):=(hW.cell (p:=⟨Bs,0,none⟩) hBs').trans hBs
 show CallsIn F n Try.prog 75 #[.func (.yield l) #[] #[],.pointer (some ⟨Bs,0,none⟩)] W _
 refine callsIn_of_wp Try.func75 rfl h75 ?_ hro
 simp only [Try.ntmps75,jW,qL,jX,jY,jZ,zA,zB,zC,zD,qY,qR]
 gi_wp2
 gi_loopw [7] (fun i wr=>i=.int .i64 0∧J [] wr) (fun _ _=>0)
 case atStart=>exact ⟨rfl,h0⟩
 case round =>
  obtain ⟨rfl,hJs⟩:=hrel
  gi_wp2
  go_end0
  exact ⟨⟨_,rfl⟩,hJs⟩
end Go.Proofs.Ytlendaofkmhgmaa
end
section
namespace Go.Proofs.Ytlendaofkmhgmaa
open Go.Shelf Go.RowKit
set_option linter.unusedSectionVars false
def DC:Go.Shelf.Ren:=⟨fun | 6=>63 | 8=>73 | 9=>74 | 11=>80 | 13=>82 | 12=>81 | 23=>94 | 24=>95 | 14=>85 | 15=>86 | 16=>87 | 17=>88 | 18=>89 | 19=>90 | 20=>91 | 21=>92 | 22=>93 | 25=>104 | 26=>105 | 27=>106 | 28=>107 | 29=>108 | 30=>84 | 31=>112 | n=>n,fun | 26=>3 | 28=>95 | 24=>23 | 0=>0 | 3=>3 | 37=>81 | 48=>120 | 50=>122 | 4=>4 | 40=>113 | 39=>112 | 45=>101 | 5=>5 | 9=>9 | 51=>128 | 55=>132 | 57=>136 | 58=>137 | 33=>64 | n=>n,fun | n=>n⟩
theorem Qov:Go.Proofs.SlLaysZI.n6 Try.prog DC:={
 mixed:=by kernel_rfl
 f6:=⟨Try.f63.name,by decide,Try.func63.trans (congrArg some (by kernel_rfl))⟩
 f8:=⟨Try.f73.name,by decide,Try.func73.trans (congrArg some (by kernel_rfl))⟩
 f11:=⟨Try.f80.name,by decide,Try.func80.trans (congrArg some (by kernel_rfl))⟩
 t0:=Try.underlying0
 a0:=Try.isAgg0
 z0:=Try.sizeOf0
 v0:=Try.zeroValue0
 t24:=Try.underlying23
 a24:=Try.isAgg23
 z24:=Try.sizeOf23
 v24:=Try.zeroValue23
 t26:=Try.underlying3
 a26:=Try.isAgg3
 z26:=Try.sizeOf3
 v26:=Try.zeroValue3
 t28:=Try.underlying95
 a28:=Try.isAgg95
 z28:=Try.sizeOf95
 v28:=Try.zeroValue95
 i26:=by kernel_rfl }
def Qbx:Go.Shelf.Ren:=⟨fun | 189=>74 | 125=>82 | 257=>81 | 128=>94 | 129=>95 | 294=>85 | 295=>86 | 296=>87 | 297=>88 | 298=>89 | 299=>90 | 216=>91 | 300=>92 | 301=>93 | 328=>104 | 329=>105 | 330=>106 | 331=>107 | 332=>108 | 215=>84 | 343=>112 | n=>n,fun | 28=>23 | 3=>3 | 46=>81 | 0=>0 | 51=>120 | 53=>122 | 4=>4 | 183=>113 | 182=>112 | 131=>101 | 5=>5 | 9=>9 | 218=>128 | 222=>132 | 228=>136 | 229=>137 | n=>n,fun | n=>n⟩
theorem Qg3:Go.Proofs.Lays.n189 Try.prog Qbx:={
 mixed:=by kernel_rfl
 f125:=Try.func82.trans (congrArg some (by kernel_rfl))
 f128:=Try.func94.trans (congrArg some (by kernel_rfl))
 f129:=Try.func95.trans (congrArg some (by kernel_rfl))
 f189:=Try.func74.trans (congrArg some (by kernel_rfl))
 f215:=Try.func84.trans (congrArg some (by kernel_rfl))
 f216:=Try.func91.trans (congrArg some (by kernel_rfl))
 f257:=Try.func81.trans (congrArg some (by kernel_rfl))
 f294:=Try.func85.trans (congrArg some (by kernel_rfl))
 f295:=Try.func86.trans (congrArg some (by kernel_rfl))
 f296:=Try.func87.trans (congrArg some (by kernel_rfl))
 f297:=Try.func88.trans (congrArg some (by kernel_rfl))
 f298:=Try.func89.trans (congrArg some (by kernel_rfl))
 f299:=Try.func90.trans (congrArg some (by kernel_rfl))
 f300:=Try.func92.trans (congrArg some (by kernel_rfl))
 f301:=Try.func93.trans (congrArg some (by kernel_rfl))
 f328:=Try.func104.trans (congrArg some (by kernel_rfl))
 f329:=Try.func105.trans (congrArg some (by kernel_rfl))
 f330:=Try.func106.trans (congrArg some (by kernel_rfl))
 f331:=Try.func107.trans (congrArg some (by kernel_rfl))
 f332:=Try.func108.trans (congrArg some (by kernel_rfl))
 f343:=Try.func112.trans (congrArg some (by kernel_rfl))
 t0:=Try.underlying0
 a0:=Try.isAgg0
 z0:=Try.sizeOf0
 v0:=Try.zeroValue0
 t3:=Try.underlying3
 a3:=Try.isAgg3
 z3:=Try.sizeOf3
 v3:=Try.zeroValue3
 t4:=Try.underlying4
 a4:=Try.isAgg4
 z4:=Try.sizeOf4
 v4:=Try.zeroValue4
 t5:=Try.underlying5
 a5:=Try.isAgg5
 z5:=Try.sizeOf5
 v5:=Try.zeroValue5
 t9:=Try.underlying9
 a9:=Try.isAgg9
 z9:=Try.sizeOf9
 v9:=Try.zeroValue9
 t28:=Try.underlying23
 a28:=Try.isAgg23
 z28:=Try.sizeOf23
 v28:=Try.zeroValue23
 t46:=Try.underlying81
 a46:=Try.isAgg81
 z46:=Try.sizeOf81
 v46:=Try.zeroValue81
 t51:=Try.underlying120
 a51:=Try.isAgg120
 z51:=Try.sizeOf120
 v51:=Try.zeroValue120
 t53:=Try.underlying122
 a53:=Try.isAgg122
 z53:=Try.sizeOf122
 v53:=Try.zeroValue122
 t131:=Try.underlying101
 a131:=Try.isAgg101
 z131:=Try.sizeOf101
 v131:=Try.zeroValue101
 t182:=Try.underlying112
 a182:=Try.isAgg112
 z182:=Try.sizeOf112
 v182:=Try.zeroValue112
 t183:=Try.underlying113
 a183:=Try.isAgg113
 z183:=Try.sizeOf113
 v183:=Try.zeroValue113
 t218:=Try.underlying128
 a218:=Try.isAgg128
 z218:=Try.sizeOf128
 v218:=Try.zeroValue128
 t222:=Try.underlying132
 a222:=Try.isAgg132
 z222:=Try.sizeOf132
 v222:=Try.zeroValue132
 t228:=Try.underlying136
 a228:=Try.isAgg136
 z228:=Try.sizeOf136
 v228:=Try.zeroValue136
 t229:=Try.underlying137
 a229:=Try.isAgg137
 z229:=Try.sizeOf137
 v229:=Try.zeroValue137 }
theorem Qm5 (m:Nat):AnyZI.SortsIn Try.prog DC Fence.wide m :=
 ⟨fun blk off cap ss W hH hblk hsz=>callsIn_wide.2 (Any.slices_Sort_int Qg3 blk off cap ss W hH hblk hsz),fun p cap W=>callsIn_wide.2 (Any.slices_Sort_int_none Qg3 p cap W)⟩
theorem QdU (w:World) (Bs:Nat) (zs:List Int) (hz:zs.length≤1000) (hseq:SG Fence.wide 3 Try.prog 75 #[.pointer (some ⟨Bs,0,none⟩)] zs w) :
  Calls Try.prog 63 #[.func (.func 75) #[] #[.pointer (some ⟨Bs,0,none⟩)]] w fun e w'=>∃(v:Value),e=.returned v ∧
   w'.ownsRow w.heap.size 3 1 v zs.length ((zs.mergeSort (fun x y=>decide (x≤y))).map encZ)∧(v=.slice none 0 0↔zs=[])∧Below w.heap.size w w' :=
 (callsIn_wide (n:=6)).1 (Qgb Qov Fence.wide 6 trivial trivial trivial trivial rfl (by omega) (Qm5 _) (enters_of Try.func74 (by kernel_rfl) rfl) 75 #[.pointer (some ⟨Bs,0,none⟩)] trivial (enters_of Try.func75 (by kernel_rfl) rfl) zs (qW hz (by decide)) (by omega) (by omega) w hseq)
end Go.Proofs.Ytlendaofkmhgmaa
end
section
open Go Go.HL
namespace Go.Proofs.Ytlendaofkmhgmaa
set_option linter.unusedSectionVars false
open Go.Proofs.Try renaming prog → Tp
open Go.HL.HV renaming undef → Ud
def CQ:List HV→Heap→Option (HV×Heap)
 | [.func 75 [] [.ptr xb 0 0 1]],H =>
  match H[xb]? with
  | some (.arr 1 [.sl nb 0 n _ tot 1] true _) =>
   match H[nb]? with
   | some (.arr 1 els true _) =>
    match V1 els with
    | some l=>if l.length=n∧tot=n∧n≤1000 then some (.sl H.length 0 n none n 1,H++[.arr 1 ((srt l).map (HV.int .i64)) true 0]) else none
    | none=>none
   | _=>none
  | _=>none
 | _,_=>none
theorem QdV:Sb Tp 63 CQ:=by
 intro args c r H' h w lo rargs hR hl hV
 unfold CQ at h
 split at h
 case h_2=>cases h
 rename_i xb
 split at h
 case h_2=>cases h
 rename_i nb n cap tot mx hx
 split at h
 case h_2=>cases h
 rename_i els mx2 hb
 split at h
 case h_2=>cases h
 rename_i l hi
 split at h
 case isFalse=>cases h
 rename_i hc
 obtain ⟨hc1,rfl,hc2⟩:=hc
 simp only [Option.some.injEq,Prod.mk.injEq] at h
 obtain ⟨rfl,rfl⟩:=h
 have hels:=Yt hi
 have hlen:els.length=l.length:=by rw [hels,qD]
 obtain ⟨x,rfl⟩:∃x,rargs=#[x]:=by
  match rargs,hl with
  | ⟨[x]⟩,_=>exact ⟨x,rfl⟩
 have hx1:=hV 0 _ x rfl rfl
 cases hx1 with
 | func _ _ _ ra rc hl1 hl2 h1 h2 =>
 obtain rfl:ra=#[]:=Array.eq_empty_of_size_eq_zero (by simpa using hl1.symm)
 obtain ⟨pv,rfl⟩:∃x,rc=#[x]:=by
  match rc,hl2 with
  | ⟨[x]⟩,_=>exact ⟨x,rfl⟩
 have hpv:=h2 0 _ pv rfl rfl
 cases hpv with
 | ptr _ _ _ _ a2 hq =>
 obtain ⟨blk,hb2,hq2⟩:=hq
 rw [hx] at hb2;cases hb2
 obtain ⟨r2,hσ2,rfl⟩:=hq2.2 rfl
 obtain ⟨_,hrow2⟩:=WZ hR hx
 rcases hrow2 with ⟨hn1,hn2⟩ | ⟨r2',cs2,T2,hσ2',hlo2,hw2,hrow2⟩
 ·cases hn2
 rw [hσ2] at hσ2';cases hσ2'
 obtain ⟨sv,e0,v0⟩:=hrow2.2.2 0 _ 0 _ rfl rfl
 rw [Array.getElem?_toList] at e0
 have hlt2:r2<w.heap.size:=(hR.dom xb r2 hσ2).2
 cases v0 with
 | sl _ _ _ _ _ _ a cap' hs =>
 have hbox:w.cell? ⟨r2,0,none⟩=some (.slice a tot cap'):=by
  unfold World.cell?
  simp only [hw2,Option.isSome_none,Bool.false_eq_true,if_false]
  simpa using e0
 obtain ⟨s1,s2,s3,blk,hb',s4⟩:=hs
 rw [hb] at hb';cases hb'
 obtain ⟨s5,s6⟩:=s4
 obtain ⟨_,s6⟩:=s6 (by omega)
 obtain ⟨_,hrow⟩:=WZ hR hb
 have hseq:SG Fence.wide 3 Tp 75 #[.pointer (some ⟨r2,0,none⟩)] l w:=by
  by_cases hn:tot=0
  ·subst hn
   have hl0:l=[]:=zW hc1
   subst hl0
   exact Qm4 Fence.wide 3 trivial rfl w r2 cap' a hlt2 hbox
  ·rcases hrow with ⟨hn1,hn2⟩ | ⟨r,cs,T,hσ,hlo,hw,hrow⟩
   ·rw [hn2] at hlen;exact absurd (hc1.symm.trans hlen.symm) hn
   rw [hσ] at s6
   have ha:=s6.1 (by omega)
   subst ha
   have hcell:∀j:Nat,j<l.length→cs[j]?=some (.int .i64 (l.getD j 0)):=fun j hj=>by
    have hj2:els[j]?=some (.int .i64 (l.getD j 0)):=by
     rw [hels,zN,qK hj]
     simp [qM,qK hj]
    obtain ⟨y,y1,y2⟩:=hrow.2.2 j _ 0 (.int .i64 (l.getD j 0)) hj2 rfl
    cases y2
    simpa using y1
   refine Qou Fence.wide 3 trivial rfl (by omega) w r2 r (0*1) tot cap' l hc1 (by omega) (hR.dom nb r hσ).2 hlt2 hbox fun j hj=>?_
   unfold World.cell?
   simp only [hw,Option.isSome_none,Bool.false_eq_true,if_false,Nat.zero_mul,Nat.zero_add]
   rw [hcell j (by omega),qM]
 have hcall:=QdU w r2 l (by omega) hseq
 refine Calls.mono (P:=Tp) hcall ?_
 rintro e w' ⟨v,rfl,hown,hnil,hbel⟩
 have hch:WChg w w' none:=⟨hbel.os,hbel.tape,hbel.output,hbel.size,fun r hr _=>hbel.block r hr,fun r cs T fz h=>⟨cs,T,fz,(hbel.block r (Zv h)).trans h,rfl⟩⟩
 have hsl:(srt l).length=tot:=by rw [YK,hc1]
 rcases hown.2 with ⟨rfl,hz⟩ | ⟨gb,cap2,cur,rfl,hbase,hgb,t1,t2,t3,t4⟩
 ·have hl0:l=[]:=zW hz
  subst hl0
  have h0:tot=0:=hc1.symm
  subst h0
  obtain ⟨g1,g2⟩:=Vh (x:=.arr 1 [] true 0) (s:=none) hR hch (fun r h=>by cases h) (fun _=>⟨by simp,by rw [push_new.2]⟩)
  exact ⟨_,_,rfl,rfl,g1,DH,g2⟩
 ·have hgl:gb<w'.heap.size:=Zv hgb
  have hel:Xe 1 0 ((srt l).map (HV.int .i64)):=fun v hv=>by
   obtain ⟨x,_,rfl⟩:=List.mem_map.1 hv
   exact ⟨rfl,rfl,by simp [bnd]⟩
  rw [Ur,zO] at t4
  rw [zO] at t3
  have hsz:(srt l).length≤cur.size:=by rw [YK];omega
  obtain ⟨g1,g2⟩:=Vh (x:=.arr 1 ((srt l).map (HV.int .i64)) true 0) (s:=some gb) hR hch (fun r h=>by cases h;exact ⟨hbase,hgl⟩) (fun hE=>ZU (r:=gb) (T:=3) (rs:=cur) push_new.2 (qW hR.low hbase) hgb hel
   ⟨by rw [qD,zO];simpa using hsz,fun v hv=>by
     obtain ⟨x,_,rfl⟩:=List.mem_map.1 hv
     rfl,fun i v j x hi hj=>by
     rw [zN] at hi
     cases hz:(srt l)[i]? with
     | none=>rw [hz] at hi;cases hi
     | some z =>
      rw [hz] at hi
      cases hi
      obtain ⟨rfl,rfl⟩:j=0∧x=.int .i64 z:=by
       match j,hj with
       | 0,hj=>exact ⟨rfl,(Option.some.inj hj).symm⟩
      refine ⟨.int .i64 z,?_,.int _ _⟩
      have hil:i<(srt l).length:=Qd hz
      have e1:(cur.toList.take l.length)[i]?=some (.int .i64 z):=by rw [t4,zN,hz];rfl
      rw [zU (by rw [YK] at hil;exact hil)] at e1
      rw [zO,Nat.add_zero];exact e1⟩)
  refine ⟨_,_,rfl,rfl,g1,?_,g2⟩
  rw [hc1]
  refine .sl _ _ _ _ _ _ _ _ ⟨by omega,by simp,by simp,_,push_new.1,by rw [qD,hsl];exact qE _,fun _=>⟨rfl,?_⟩⟩
  rw [push_new.2]
  exact ⟨fun _=>by simp,cur,3,(0,0),hgb,by omega⟩
noncomputable def Qm6:FuncId→Option (List HV→Option HV):=fun g=>if g==46 then some JH else if g==60 then some W8 else if g==61 then some JA else none
def Qm7:FuncId→Option (List HV→Heap→Option (HV×Heap)):=fun g=>if g==63 then some CQ else none
noncomputable def QS:Pol:={ pol with shared:=fun g=>g==64||sharedT.contains g,prim:=Qm6,heapP:=Qm7 }
theorem QdW:(Tp.funcs.toList.zipIdx.all fun p=>JL QS p.2 p.1)=true:=by kernel_rfl
theorem QdX (g:FuncId) (fn:Func) (h:Tp.funcs[g]?=some fn):JL QS g fn=true:=List.all_eq_true.1 QdW (fn,g) (by
 rw [wD]
 simpa using h)
theorem Qgc (n:Nat):Qo Tp (Qa Tp QS n) :=
 KZ Qi QdX (fun g f h=>by
  have h:Qm6 g=some f:=h
  unfold Qm6 at h
  split at h
  ·rename_i hg;cases h;rw [eq_of_beq hg];exact Xz
  split at h
  ·rename_i hg;cases h;rw [eq_of_beq hg];exact Yv
  split at h
  ·rename_i hg;cases h;rw [eq_of_beq hg];exact Cs
  ·cases h) n (fun g F h=>by
  have h:Qm7 g=some F:=h
  unfold Qm7 at h
  split at h
  ·rename_i hg;cases h;rw [eq_of_beq hg];exact QdV
  ·cases h)
end Go.Proofs.Ytlendaofkmhgmaa
end
section
open Go Go.HL
namespace Go.Proofs.Ytlendaofkmhgmaa
set_option maxRecDepth 100000
set_option linter.unusedSectionVars false
open Go.Proofs.Try renaming prog → Tp
open Go.HL.HV renaming undef → Ud
noncomputable def B42:Code:=Try.f42.body.getD .skip
abbrev CR (v0 v2 v3 v4 v6 v7 v8 v17 v18 v19:HV):Env:=[(0,v0),(2,v2),(3,v3),(4,v4),(6,v6),(7,v7),(8,v8),(17,v17),(18,v18),(19,v19)]
abbrev e42 (rw:List HV) (u3 u4 u5 u6 u7 u8 u9:HV):Env:=CR (.a rw) (.imm .lit 1 []) (.i 0) u3 u4 u5 u6 u7 u8 u9
section
variable (N:Nat) (rw:List HV) (H:Heap)
include N rw H
theorem Qm8:RT QS 42 (sn 2 B42) [(0,.a rw)] H .normal (e42 rw Ud Ud Ud Ud Ud Ud Ud) H :=
 hx N 60 []
end
section
variable (N:Nat) (rw:List HV) (H:Heap)
include N rw H
theorem Qm9 {H0:Heap} (g0:∀kf,Qa Tp QS (kf+1) 46 [.a rw] H=some (.bool true,H0)) (y4 y6 y7 y8 y17 y18 y19:HV:=Ud): RT QS 42 (sn 6 B42) (e42 rw y4 y6 y7 y8 y17 y18 y19) H .normal (e42 rw y4 y6 y7 y8 y17 y18 y19) H0 :=
 hx N 60 [jD 1 1 g0]
theorem Qna {H0:Heap} (g0:∀kf,Qa Tp QS (kf+1) 46 [.a rw] H=some (.bool false,H0)) (y4 y6 y7 y8 y17 y18 y19:HV:=Ud): RT QS 42 (sn 6 B42) (e42 rw y4 y6 y7 y8 y17 y18 y19) H .ret (CR (.a rw) (.imm .lit 1 []) (.i 2) y4 y6 y7 y8 y17 y18 y19) H0 :=
 hx N 60 [jD 1 1 g0]
theorem Qnb (n nb rb:Nat) {H0:Heap} {H1:Heap} {H2:Heap} (g0:VB Tp true 22 (.i (rw.length:Int)) (.i (rw.length:Int)) H=some (.o rb n,H0)) (g1:some (HV.ptr H0.length 0 0 1,H0++[Blk.arr 1 [HV.sl (H0.length+1) 0 0 none 0 1] true (H0.length+2),Blk.b []])=some (.q nb,H1)) (g2:ST H1 22 (.q nb) (.o rb n) H2) (y4 y6 y7 y8 y17 y18 y19:HV:=Ud): RT QS 42 (sn 14 B42) (e42 rw y4 y6 y7 y8 y17 y18 y19) H .normal (e42 rw (.q nb) y6 y7 y8 y17 y18 y19) H2 :=
 hx N 60 [jR 3 2 g0,jR 3 3 g1,jS 3 4 g2]
theorem Qnc (nb eb q:Nat) (zz:HV) {H0:Heap} (g0:∀kf,Qa Tp QS (kf+1) 61 [.a rw,.i 0,.agg [.i 0,.i 0,.i 0,.i 0,.i 0,.i 0,.i 0,.i 0,.i 0,.i 0,.i 0]] H=some (.sl eb 0 q none q 3,H0)) (y6 y7 y8 y17 y18 y19:HV:=Ud): RT QS 42 (sn 60 B42) (e42 rw (.q nb) y6 y7 y8 y17 y18 y19) H .normal (e42 rw (.q nb) y6 y7 y8 (.sl eb 0 q none q 3) (.n q) (.i 0)) H0 :=
 hx N 60 [jD 4 2 g0]
theorem Qnd (nb eb q i n rb xb:Nat) (ec:Int) (ea ed ra p p1 rc s s1:Nat) {H0:Heap} {H1:Heap} {H2:Heap} {H3:Heap} {H4:Heap} {H5:Heap} (g0:(i:Int)<(q:Int)) (g1:IX 88 (.sl eb 0 q none q 3) (.n i) (.ptr eb i 0 q)) (g2:LD H 91 (.ptr eb i 0 q) (.agg [.i ec,.n ea,.n ed])) (g3:some (Wm (.agg [.i 0,.i 0,.i 0]) H)=some (.q xb,H0)) (g4:ST H0 91 (.q xb) (.agg [.i ec,.n ea,.n ed]) H1) (g5:LD H1 22 (.q nb) (.o rb n)) (g6:LD H1 3 (.ptr xb 0 1 1) (.n ea)) (g7:LD H1 22 (.q nb) (.o rb n)) (g8:LD H1 3 (.ptr xb 0 1 1) (.n ea)) (g9:IO 22 rb n ea) (g10:LD H1 23 (.ptr rb ea 0 n) (.s ra p)) (g11:LD H1 3 (.ptr xb 0 2 1) (.n ed)) (g12:WV H1 1 8 (.s ra p) [.n ed]=some (.s ra p1,H2)) (g13:IO 22 rb n ea) (g14:ST H2 23 (.ptr rb ea 0 n) (.s ra p1) H3) (gS7:(WI ((Qh Tp H1 22 (.q nb)).map (fun v=>(v,(H1:Heap)))) ((Qh Tp H1 22 (.q nb)).map (fun v=>(v,(H1:Heap)))) H1 H1&&(WI ((Qh Tp H1 22 (.q nb)).map (fun v=>(v,(H1:Heap)))) ((Qh Tp H2 22 (.q nb)).map (fun v=>(v,(H2:Heap)))) H1 H2&&(WI ((Qh Tp H1 3 (.ptr xb 0 1 1)).map (fun v=>(v,(H1:Heap)))) ((Qh Tp H1 3 (.ptr xb 0 1 1)).map (fun v=>(v,(H1:Heap)))) H1 H1&&(WI ((Qh Tp H1 3 (.ptr xb 0 1 1)).map (fun v=>(v,(H1:Heap)))) ((Qh Tp H2 3 (.ptr xb 0 1 1)).map (fun v=>(v,(H2:Heap)))) H1 H2&&(WI ((Qh Tp H1 22 (.q nb)).map (fun v=>(v,(H1:Heap)))) ((Qh Tp H1 22 (.q nb)).map (fun v=>(v,(H1:Heap)))) H1 H1&&(WI ((Qh Tp H1 3 (.ptr xb 0 1 1)).map (fun v=>(v,(H1:Heap)))) ((Qh Tp H1 3 (.ptr xb 0 1 1)).map (fun v=>(v,(H1:Heap)))) H1 H1&&(WI ((Qh Tp H1 23 (.ptr rb ea 0 n)).map (fun v=>(v,(H1:Heap)))) ((Qh Tp H1 23 (.ptr rb ea 0 n)).map (fun v=>(v,(H1:Heap)))) H1 H1&&true)))))))=true) (g16:LD H3 22 (.q nb) (.o rb n)) (g17:LD H3 3 (.ptr xb 0 2 1) (.n ed)) (g18:LD H3 22 (.q nb) (.o rb n)) (g19:LD H3 3 (.ptr xb 0 2 1) (.n ed)) (g20:IO 22 rb n ed) (g21:LD H3 23 (.ptr rb ed 0 n) (.s rc s)) (g22:LD H3 3 (.ptr xb 0 1 1) (.n ea)) (g23:WV H3 1 8 (.s rc s) [.n ea]=some (.s rc s1,H4)) (g24:IO 22 rb n ed) (g25:ST H4 23 (.ptr rb ed 0 n) (.s rc s1) H5) (gS8:(WI ((Qh Tp H3 22 (.q nb)).map (fun v=>(v,(H3:Heap)))) ((Qh Tp H3 22 (.q nb)).map (fun v=>(v,(H3:Heap)))) H3 H3&&(WI ((Qh Tp H3 22 (.q nb)).map (fun v=>(v,(H3:Heap)))) ((Qh Tp H4 22 (.q nb)).map (fun v=>(v,(H4:Heap)))) H3 H4&&(WI ((Qh Tp H3 3 (.ptr xb 0 2 1)).map (fun v=>(v,(H3:Heap)))) ((Qh Tp H3 3 (.ptr xb 0 2 1)).map (fun v=>(v,(H3:Heap)))) H3 H3&&(WI ((Qh Tp H3 3 (.ptr xb 0 2 1)).map (fun v=>(v,(H3:Heap)))) ((Qh Tp H4 3 (.ptr xb 0 2 1)).map (fun v=>(v,(H4:Heap)))) H3 H4&&(WI ((Qh Tp H3 22 (.q nb)).map (fun v=>(v,(H3:Heap)))) ((Qh Tp H3 22 (.q nb)).map (fun v=>(v,(H3:Heap)))) H3 H3&&(WI ((Qh Tp H3 3 (.ptr xb 0 2 1)).map (fun v=>(v,(H3:Heap)))) ((Qh Tp H3 3 (.ptr xb 0 2 1)).map (fun v=>(v,(H3:Heap)))) H3 H3&&(WI ((Qh Tp H3 23 (.ptr rb ed 0 n)).map (fun v=>(v,(H3:Heap)))) ((Qh Tp H3 23 (.ptr rb ed 0 n)).map (fun v=>(v,(H3:Heap)))) H3 H3&&true)))))))=true) (y6 y7 y8:HV:=Ud): RT QS 42 (sn 244 B42) (e42 rw (.q nb) y6 y7 y8 (.sl eb 0 q none q 3) (.n q) (.n i)) H .normal (e42 rw (.q nb) (.q xb) y7 y8 (.sl eb 0 q none q 3) (.n q) (.i (qA.wrap ((i:Int)+1)))) H5 :=
 hx N 60 [jT 5 0 H g0,jO 6 0 H g1,jO 6 1 H g2,jR 6 2 g3,jS 6 3 g4,jK gS7,jO 7 0 H1 g5,jO 7 2 H1 g6,jO 7 3 H1 g7,jO 7 5 H1 g8,jO 7 6 H1 g9,jO 7 7 H1 g10,jO 7 9 H1 g11,jR 7 11 g12,jO 7 12 H2 g13,jS 7 13 g14,jK gS8,jO 8 0 H3 g16,jO 8 2 H3 g17,jO 8 3 H3 g18,jO 8 5 H3 g19,jO 8 6 H3 g20,jO 8 7 H3 g21,jO 8 9 H3 g22,jR 8 11 g23,jO 8 12 H4 g24,jS 8 13 g25]
theorem Qne (nb eb q i n rb xb:Nat) (ec:Int) (ea ed ra p p1 rc s s1:Nat) (g0:¬((i:Int)<(q:Int))) (y6 y7 y8:HV:=Ud): RT QS 42 (sn 244 B42) (e42 rw (.q nb) y6 y7 y8 (.sl eb 0 q none q 3) (.n q) (.n i)) H (.exit 0) (e42 rw (.q nb) y6 y7 y8 (.sl eb 0 q none q 3) (.n q) (.n i)) H :=
 hx N 60 [jF 5 0 H g0]
theorem Qnf (nb tb vb:Nat) (tz:HV) {H0:Heap} {H1:Heap} {H2:Heap} {H3:Heap} (g0:some (HV.ptr H.length 0 0 1,H++[Blk.arr 1 [HV.sl (H.length+1) 0 0 none 0 1] true (H.length+2),Blk.b []])=some (.q tb,H0)) (g1:some (Wm (.nilFunc) H0)=some (.q vb,H1)) (g2:ST H1 92 (.q vb) (.func 62 [] [.q tb,.q nb,.q vb]) H2) (g3:LD H2 92 (.q vb) (.func 62 [] [.q tb,.q nb,.q vb])) (g4:∀kf,N≤kf→Qa Tp QS (kf+1) 62 [.i 0,.q tb,.q nb,.q vb] H2=some (.tuple [],H3)) (g5:LD H3 23 (.q tb) (tz)) (y6 y7 y8 y17 y18 y19:HV:=Ud): RT QS 42 (sn 31 B42) (e42 rw (.q nb) y6 y7 y8 y17 y18 y19) H .ret (CR (.a rw) tz (.i 0) (.q nb) y6 (.q tb) (.q vb) y17 y18 y19) H3 :=
 hx N 60 [jR 10 0 g0,jR 11 0 g1,jS 12 1 g2,jO 13 0 H2 g3,jC 13 1 g4,jO 14 0 H3 g5]
end
noncomputable def B62:Code:=Try.f62.body.getD .skip
abbrev DD (v0 v1 v2 v3 v6 v16 v17 v18:HV):Env:=[(0,v0),(1,v1),(2,v2),(3,v3),(6,v6),(16,v16),(17,v17),(18,v18)]
abbrev e62 (v:Nat) (tb:Nat) (nb:Nat) (vb:Nat) (u4 u5 u6 u7:HV):Env:=DD (.n v) (.q tb) (.q nb) (.q vb) u4 u5 u6 u7
section
variable (N:Nat) (v tb nb vb:Nat) (H:Heap)
include N v tb nb vb H
theorem Qng (tv tw:HV) {H0:Heap} {H1:Heap} (g0:LD H 23 (.q tb) (tv)) (g1:WV H 1 8 (tv) [.n v]=some (tw,H0)) (g2:ST H0 23 (.q tb) (tw) H1): RT QS 62 (sn 2 B62) [(0,.n v),(1,.q tb),(2,.q nb),(3,.q vb)] H .normal (e62 v tb nb vb Ud Ud Ud Ud) H1 :=
 hx N 60 [jO 0 0 H g0,jR 0 3 g1,jS 0 4 g2]
end
section
variable (N:Nat) (v tb nb vb:Nat) (H:Heap)
include N v tb nb vb H
theorem Qnh (n rb nk m xb sb:Nat) {H0:Heap} {H1:Heap} (g0:LD H 22 (.q nb) (.o rb n)) (g1:IO 22 rb n v) (g2:LD H 23 (.ptr rb v 0 n) (.s nk m)) (g3:∀kf,N≤kf→Qa Tp QS (kf+1) 64 [.s nk m] H=some (.func 75 [] [.q xb],H0)) (g4:∀kf,N≤kf→Qa Tp QS (kf+1) 63 [.func 75 [] [.q xb]] H0=some (.s sb m,H1)) (y6 y16 y17 y18:HV:=Ud): RT QS 62 (sn 6 B62) (e62 v tb nb vb y6 y16 y17 y18) H .normal (e62 v tb nb vb y6 (.s sb m) (.n m) (.i 0)) H1 :=
 hx N 60 [jO 1 0 H g0,jO 1 2 H g1,jO 1 3 H g2,jC 1 4 g3,jC 1 5 g4]
theorem Qni (m sb i u:Nat) (tz:HV) {H0:Heap} (g0:(i:Int)<(m:Int)) (g1:IS 23 sb m i) (g2:LD H 3 (.ptr sb i 0 m) (.n u)) (g3:LD H 23 (.q tb) (tz)) (g4:∀kf,Qa Tp QS (kf+1) 60 [tz,.n u] H=some (.bool true,H0)) (y6:HV:=Ud): RT QS 62 (sn 28 B62) (e62 v tb nb vb y6 (.s sb m) (.n m) (.n i)) H .normal (e62 v tb nb vb (.n u) (.s sb m) (.n m) (.i (qA.wrap ((i:Int)+1)))) H0 :=
 hx N 60 [jT 2 0 H g0,jO 3 0 H g1,jO 3 1 H g2,jO 4 0 H g3,jD 4 2 g4]
theorem Qnj (m sb i u:Nat) (tz:HV) {H0:Heap} {H1:Heap} (g0:(i:Int)<(m:Int)) (g1:IS 23 sb m i) (g2:LD H 3 (.ptr sb i 0 m) (.n u)) (g3:LD H 23 (.q tb) (tz)) (g4:∀kf,Qa Tp QS (kf+1) 60 [tz,.n u] H=some (.bool false,H0)) (g5:LD H0 92 (.q vb) (.func 62 [] [.q tb,.q nb,.q vb])) (g6:∀kf,N≤kf→Qa Tp QS (kf+1) 62 [.n u,.q tb,.q nb,.q vb] H0=some (.tuple [],H1)) (y6:HV:=Ud): RT QS 62 (sn 28 B62) (e62 v tb nb vb y6 (.s sb m) (.n m) (.n i)) H .normal (e62 v tb nb vb (.n u) (.s sb m) (.n m) (.i (qA.wrap ((i:Int)+1)))) H1 :=
 hx N 60 [jT 2 0 H g0,jO 3 0 H g1,jO 3 1 H g2,jO 4 0 H g3,jD 4 2 g4,jO 5 0 H0 g5,jC 5 2 g6]
theorem Qnk (m sb i u:Nat) (tz:HV) (g0:¬((i:Int)<(m:Int))) (y6:HV:=Ud): RT QS 62 (sn 28 B62) (e62 v tb nb vb y6 (.s sb m) (.n m) (.n i)) H (.exit 0) (e62 v tb nb vb y6 (.s sb m) (.n m) (.n i)) H :=
 hx N 60 [jF 2 0 H g0]
end
noncomputable def B64:Code:=Try.f64.body.getD .skip
abbrev Qow (v0 v1 v2:HV):Env:=[(0,v0),(1,v1),(2,v2)]
theorem Qnl (N:Nat) (nk m:Nat) (H:Heap) (xb:Nat) {H0:Heap} (g0:some (Wm (.s nk m) H)=some (.q xb,H0)): RT QS 64 (sub [] B64) [(0,.s nk m)] H .ret (Qow (.s nk m) (.q xb) (.func 75 [] [.q xb])) H0 :=
 hx N 60 [jR 0 0 g0]
end Go.Proofs.Ytlendaofkmhgmaa
end
section
open Go Go.HL Go.HL.So
namespace Go.Proofs.Ytlendaofkmhgmaa
set_option linter.unusedSectionVars false
open Go.Proofs.Try renaming prog → Tp
open Go.HL.HV renaming undef → Ud
section
variable {es:List Ed} {tb n a v:Nat} {tv:HV} {H:Heap}
def SlO (H:Heap) (tv:HV) (o:List Int):Prop:=(∃b cap,tv=.sl b 0 o.length cap o.length 1∧H[b]?=some (bI o))∨tv=.imm .lit 1 (o.map hvI)
theorem SlO.len {o:List Int} (h:SlO H tv o):QaO Tp H 23 tv=some (.int .i64 (o.length:Int)):=by
 rcases h with ⟨b,cap,h1,_⟩ | h1
 ·rw [h1]
  kernel_rfl
 ·rw [h1,show (o.length:Int)=((o.map hvI).length:Int) by rw [qD]]
  kernel_rfl
end
section
variable {tb:Nat} {es:List Ed}
def SlV (tb:Nat) (es:List Ed) (H:Heap) (tv:HV) (o:List Int):Prop:=((∃b cap,tv=.sl b 0 o.length cap o.length 1∧H[b]?=some (bI o)∧(cap=none∨cap=some o.length)∧b≠tb∧2≤o.length)∨(tv=.imm .lit 1 (o.map hvI)∧o.length<2))∧H[tb]?=some (bF es)
theorem SlV.tr {H:Heap} {tv:HV} {o:List Int} (h:SlV tb es H tv o):H[tb]?=some (bF es):=h.2
theorem QL {H:Heap} {b:Nat} {B:Blk} (h:H[b]?=some B):b<H.length:=by
 rcases Nat.lt_or_ge b H.length with c | c
 ·exact c
 ·rw [List.getElem?_eq_none c] at h;cases h
theorem SlV.app {H:Heap} {tv:HV} {o:List Int} (h:SlV tb es H tv o) (h1:o≠[]) (hl:o.length≤500) (v:Int):∃tw H',WV H 1 8 tv [.int .i64 v]=some (tw,H')∧SlV tb es H' tw (o++[v]):=by
 obtain ⟨h,ht⟩:=h
 have hp:2≤(o++[v]).length:=by
  have:=List.length_pos_iff.2 h1
  rw [qH,qJ];omega
 have lt:=QL ht
 have e1:(o.length+1)*(8+1)≤Q0:=by simp only [Q0];omega
 rcases h with ⟨b,cap,rfl,hb,hc,hne,_⟩ | ⟨rfl,_⟩
 ·have lb:=QL hb
  rcases hc with rfl | rfl
  ·have:=Z9 (xs:=[v]) hb (by simp;omega) (by simp)
   rw [qH,qJ] at this
   exact ⟨_,_,this,.inl ⟨b,none,by rw [qH,qJ],qP lb,.inl rfl,hne,hp⟩,by rw [qC hne];exact ht⟩
  ·refine ⟨.sl H.length 0 (o.length+1) none (o.length+1) 1,H++[bI (o++[v])],?_,.inl ⟨H.length,none,by rw [qH,qJ],by simp,.inl rfl,by omega,hp⟩,by rw [qF lt];exact ht⟩
   have e2:¬(o.length+1≤o.length):=by omega
   simp [WV,hb,e1,bndL,bnd]
   rw [if_neg e2,qQ (by simp)]
   simp [hvI]
 ·refine ⟨.sl H.length 0 (o.length+1) none (o.length+1) 1,H++[bI (o++[v])],?_,.inl ⟨H.length,none,by rw [qH,qJ],by simp,.inl rfl,by omega,hp⟩,by rw [qF lt];exact ht⟩
  simp [WV,e1,bndL,bnd,hvI]
theorem Vd {base r k:Nat} {H:Heap} (h:k<base):(gc base r H)[k]?=H[k]?:=by
 unfold gc
 exact zU (by omega)
theorem SlV.gc {H:Heap} {tv:HV} {o:List Int} (h:SlV tb es H tv o) {base r:Nat} (hb:bnd tv≤r) (ht:tb<base∨tb<r):SlV tb es (gc base r H) tv o:=by
 refine ⟨?_,by rcases ht with c | c;rw [Vd c];exact h.2;rw [QdL c];exact h.2⟩
 rcases h.1 with ⟨b,cap,rfl,h2,h3,h4,h5⟩ | h1
 ·refine .inl ⟨b,cap,rfl,?_,h3,h4,h5⟩
  simp only [bnd] at hb
  rw [QdL (by omega)];exact h2
 ·exact .inr h1
end
theorem QaL:∀l:List Int,V1 (l.map hvI)=some l
 | []=>rfl
 | x::l=>by
  show (V1 (l.map hvI)).map (x::·)=_
  rw [QaL l];rfl
theorem ixR {n b k:Nat} {cap:Option Nat} (hk:k<n):WW Tp 22 (.sl b 0 n cap n 1) (.int .i64 (k:Int))=some (.ptr b k 0 n):=by
 have hs:Qm Tp 23=some 1:=by kernel_rfl
 have:=VY (P:=Tp) (t:=22) (b:=b) (len:=n) (tot:=n) (cap:=cap) (ik:=.i64) (n:=(k:Int)) u22 hs (by omega) (by omega)
 rwa [qG] at this
theorem v64 {H:Heap} (nk m:Nat):CallsTo (P:=Tp) (pol:=QS) 64 [.sl nk 0 m none m 1] H (.func 75 [] [.ptr H.length 0 0 1]) (H++[.arr 1 [.sl nk 0 m none m 1] true (nk+1)]):=by
 have t:=Qnl 0 nk m H H.length (H0:=H++[.arr 1 [.sl nk 0 m none m 1] true (nk+1)]) rfl
 have h:=CallsTo.shared (P:=Tp) (pol:=QS) (g:=64) (fn:=Try.f64) (cd:=B64) (args:=[.sl nk 0 m none m 1]) (v:=.func 75 [] [.ptr H.length 0 0 1]) (by kernel_rfl) (by kernel_rfl) (by kernel_rfl) (by kernel_rfl) t (by kernel_rfl) (by simp) (by kernel_rfl)
 have e:gc H.length (bnd (.func 75 [] [.ptr H.length 0 0 1])) (H++[.arr 1 [.sl nk 0 m none m 1] true (nk+1)])=H++[.arr 1 [.sl nk 0 m none m 1] true (nk+1)]:=by
  unfold gc
  refine qQ ?_
  rw [qH,qJ]
  simp only [bnd,bndL]
  omega
 rw [e] at h
 exact h
theorem v63 {H:Heap} {xb nk mx:Nat} {l:List Int} (hx:H[xb]?=some (.arr 1 [.sl nk 0 l.length none l.length 1] true mx)) (hk:H[nk]?=some (bI l)) (hl:l.length≤1000):∀kf,Qa Tp QS (kf+1) 63 [.func 75 [] [.ptr xb 0 0 1]] H=some (.sl H.length 0 l.length none l.length 1,H++[bI (srt l)]):=fun kf=>by
 rw [Qba (pol:=QS) (g:=63) (F:=CQ) rfl rfl]
 unfold CQ
 simp only [hx,hk,QaL]
 rw [if_pos ⟨trivial,trivial,hl⟩];rfl
structure Kp (tb ob:Nat) (H H':Heap):Prop where
 ln:H.length≤H'.length
 eq:∀b,b<H.length→b≠tb→b≠ob→H'[b]?=H[b]?
theorem Kp.refl (tb ob:Nat) (H:Heap):Kp tb ob H H:=⟨qE _,fun _ _ _ _=>rfl⟩
theorem Kp.trans {tb ob:Nat} {A B C:Heap} (h:Kp tb ob A B) (k:Kp tb ob B C):Kp tb ob A C:=⟨qW h.ln k.ln,fun b hb h1 h2=>(k.eq b (Nat.lt_of_lt_of_le hb h.ln) h1 h2).trans (h.eq b hb h1 h2)⟩
theorem Kp.app (tb ob:Nat) (H T:Heap):Kp tb ob H (H++T):=⟨by simp,fun b hb _ _=>qF hb⟩
theorem QaM {base r:Nat} {H:Heap} (h:base≤H.length):base≤(gc base r H).length:=by
 unfold gc
 rw [jJ];omega
theorem Kp.gc {tb ob:Nat} {A H:Heap} (h:Kp tb ob A H) {base:Nat} (hb:A.length≤base) (hl:base≤H.length) (r:Nat):Kp tb ob A (gc base r H) :=
 ⟨qW hb (QaM hl),fun b hb' h1 h2=>by rw [Vd (by omega)];exact h.eq b hb' h1 h2⟩
theorem Kp.get {tb ob b:Nat} {A H:Heap} {B:Blk} (h:Kp tb ob A H) (hb:A[b]?=some B) (h1:b≠tb) (h2:b≠ob):H[b]?=some B:=(h.eq b (QL hb) h1 h2).trans hb
def To (tb ob:Nat) (H:Heap) (o:List Int):Prop:=(∃mx,H[tb]?=some (.arr 1 [.sl ob 0 o.length none o.length 1] true mx))∧H[ob]?=some (bI o)
theorem To.gc {tb ob:Nat} {H:Heap} {o:List Int} (h:To tb ob H o) {base r:Nat} (h1:tb<base) (h2:ob<base):To tb ob (gc base r H) o:=by
 obtain ⟨⟨mx,a⟩,b⟩:=h
 exact ⟨⟨mx,by rw [Vd h1];exact a⟩,by rw [Vd h2];exact b⟩
structure Nr (tb ob nb vb rb n:Nat) (es:List Ed) (H:Heap):Prop where
 near:∃mx,H[nb]?=some (.arr 1 [.sl rb 0 n (some n) n 1] true mx)
 rows:∃rs mx,H[rb]?=some (.arr 1 rs true mx)∧rs.length=n∧∀i:Nat,i<n→rs[i]?=some (.sl (rb+1+i) 0 (QX es i).length none (QX es i).length 1)
 row:∀i:Nat,i<n→H[rb+1+i]?=some (bI (QX es i))
 self:∃mx,H[vb]?=some (.arr 1 [.func 62 [] [.ptr tb 0 0 1,.ptr nb 0 0 1,.ptr vb 0 0 1]] true mx)
 ne:nb≠tb∧nb≠ob∧vb≠tb∧vb≠ob∧rb≠tb∧rb≠ob∧tb≠ob∧∀i:Nat,i<n→rb+1+i≠tb∧rb+1+i≠ob
theorem Nr.kp {tb ob nb vb rb n:Nat} {es:List Ed} {H H':Heap} (h:Nr tb ob nb vb rb n es H) (k:Kp tb ob H H'):Nr tb ob nb vb rb n es H':=by
 obtain ⟨n1,n2,n3,n4,n5,n6,n7,n8⟩:=h.ne
 obtain ⟨mx,h1⟩:=h.near
 obtain ⟨rs,mx2,h2,h3,h4⟩:=h.rows
 obtain ⟨mx3,h5⟩:=h.self
 exact ⟨⟨mx,k.get h1 n1 n2⟩,⟨rs,mx2,k.get h2 n5 n6,h3,h4⟩,fun i hi=>k.get (h.row i hi) (n8 i hi).1 (n8 i hi).2,⟨mx3,k.get h5 n3 n4⟩,h.ne⟩
section
variable {tb ob nb vb rb n:Nat} {es:List Ed}
theorem Qgd (h:EP n es) {v:Int} {x:Int} (hx:x∈QX es v):0≤x∧x<(n:Int):=by
 obtain ⟨e,h1,h2⟩:=mem_nearL.1 hx
 have:=h.1 e h1
 rcases h2 with ⟨a,b⟩ | ⟨a,b⟩ <;> omega
theorem UN (h:EP n es) (v:Int):(QX es v).length≤n:=Ky (K9 h) fun x hx=>Qgd h hx
theorem QdY (hE:EP n es) (hn:n≤100):∀(k:Nat) (v:Nat) (o:List Int) (H:Heap),Nr tb ob nb vb rb n es H→To tb ob H o→v<n→(v:Int)∉o→o.Nodup→inT n o→n≤o.length+k →
  ∃H',CallsTo (P:=Tp) (pol:=QS) 62 [.int .i64 (v:Int),.ptr tb 0 0 1,.ptr nb 0 0 1,.ptr vb 0 0 1] H (.tuple []) H'∧Kp tb ob H H'∧To tb ob H' (Jl (nbL es n) k v o):=by
 intro k
 induction k with
 | zero =>
  intro v o H _ _ hv ho h2 h3 h4
  have:=Ky (p:=o++[(v:Int)]) ((VK.add (n:=n) hv ho).2.1 h2) ((VK.add hv ho).2.2 h3)
  rw [qH,qJ] at this
  omega
 | succ k ih =>
  intro v o H hN hT hv ho h2 h3 h4
  have hK0:=VK.add (n:=n) hv ho
  have hol:=Ky (hK0.2.1 h2) (hK0.2.2 h3)
  rw [qH,qJ] at hol
  obtain ⟨n1,n2,n3,n4,n5,n6,n7,n8⟩:=hN.ne
  obtain ⟨⟨mx,t1⟩,t2⟩:=hT
  have ap:=Z9 (xs:=[(v:Int)]) t2 (by simp;omega) (by simp)
  have ltb:=QL t1
  have lob:=QL t2
  have t1':(H.set ob (bI (o++[(v:Int)])))[tb]?=some (.arr 1 [.sl ob 0 o.length none o.length 1] true mx):=by rw [qC (Ne.symm n7)];exact t1
  have st:QM Tp (H.set ob (bI (o++[(v:Int)]))) 23 (.ptr tb 0 0 1) (.sl ob 0 (o++[(v:Int)]).length none (o++[(v:Int)]).length 1)=some ((H.set ob (bI (o++[(v:Int)]))).set tb (.arr 1 [.sl ob 0 (o++[(v:Int)]).length none (o++[(v:Int)]).length 1] true (max mx (ob+1)))):=by
   have hs:Qm Tp 23=some 1:=by kernel_rfl
   simp [QM,t1',hs,cellsOf,Ql,bnd]
  have s1:=Qng 0 v tb nb vb H (.sl ob 0 o.length none o.length 1) _ (Qv t1 rfl rfl rfl (by kernel_rfl) (by kernel_rfl)) ap st
  have hT1:To tb ob ((H.set ob (bI (o++[(v:Int)]))).set tb (.arr 1 [.sl ob 0 (o++[(v:Int)]).length none (o++[(v:Int)]).length 1] true (max mx (ob+1)))) (o++[(v:Int)]) :=
   ⟨⟨_,qP (by rw [zZ];exact ltb)⟩,by rw [qC n7];exact qP lob⟩
  have hK1:Kp tb ob H ((H.set ob (bI (o++[(v:Int)]))).set tb (.arr 1 [.sl ob 0 (o++[(v:Int)]).length none (o++[(v:Int)]).length 1] true (max mx (ob+1)))) :=
   ⟨by simp,fun b _ h1 h2=>by rw [qC (Ne.symm h1),qC (Ne.symm h2)]⟩
  generalize (H.set ob (bI (o++[(v:Int)]))).set tb (.arr 1 [.sl ob 0 (o++[(v:Int)]).length none (o++[(v:Int)]).length 1] true (max mx (ob+1)))=H1 at *
  have hN1:=hN.kp hK1
  obtain ⟨mx2,q1⟩:=hN1.near
  obtain ⟨rs,mx3,q2,q3,q4⟩:=hN1.rows
  have q5:=hN1.row v hv
  have hLs:srt (QX es (v:Int))=nbL es n (v:Int):=Qbr hE (Qca _) (Qcb _)
  have hLl:(nbL es n (v:Int)).length=(QX es (v:Int)).length:=by rw [← hLs,YK]
  have hnl:=UN hE (v:Int)
  obtain ⟨L,hL⟩:∃L,L=nbL es n (v:Int):=⟨_,rfl⟩
  obtain ⟨N1,c64⟩:=CallsTo.from (v64 (H:=H1) (rb+1+v) (QX es (v:Int)).length)
  have q6:(H1++[Blk.arr 1 [.sl (rb+1+v) 0 (QX es (v:Int)).length none (QX es (v:Int)).length 1] true (rb+1+v+1)])[H1.length]?=some (Blk.arr 1 [.sl (rb+1+v) 0 (QX es (v:Int)).length none (QX es (v:Int)).length 1] true (rb+1+v+1)):=by simp
  have q7:(H1++[Blk.arr 1 [.sl (rb+1+v) 0 (QX es (v:Int)).length none (QX es (v:Int)).length 1] true (rb+1+v+1)])[rb+1+v]?=some (bI (QX es (v:Int))):=by rw [qF (QL q5)];exact q5
  have c63:=v63 (l:=QX es (v:Int)) q6 q7 (by omega)
  rw [hLs,← hL,qH,qJ] at c63
  have hll:(QX es (v:Int)).length=L.length:=by rw [hL,hLl]
  have s2:=Qnh N1 v tb nb vb H1 n rb (rb+1+v) (QX es (v:Int)).length H1.length (H1.length+1) (Qv q1 rfl rfl rfl (by kernel_rfl) (by kernel_rfl)) (ixR hv) (Qv q2 q3.symm (q4 v hv) rfl (by kernel_rfl) (by kernel_rfl)) c64 (fun kf _=>c63 kf)
  rw [hll] at s2 c63 q6
  have hK2:=Kp.app tb ob H1 ([Blk.arr 1 [.sl (rb+1+v) 0 L.length none L.length 1] true (rb+1+v+1)]++[bI L])
  rw [← qV] at hK2
  have hT2:To tb ob (H1++[Blk.arr 1 [.sl (rb+1+v) 0 L.length none L.length 1] true (rb+1+v+1)]++[bI L]) (o++[(v:Int)]):=by
   obtain ⟨⟨mx,a⟩,b⟩:=hT1
   have l1:=QL a
   have l2:=QL b
   exact ⟨⟨mx,by rw [qV,qF l1];exact a⟩,by rw [qV,qF l2];exact b⟩
  have hsb:(H1++[Blk.arr 1 [.sl (rb+1+v) 0 L.length none L.length 1] true (rb+1+v+1)]++[bI L])[H1.length+1]?=some (bI L):=by simp
  have lt1:tb<H1.length:=by obtain ⟨⟨_,a⟩,_⟩:=hT1;exact QL a
  have lo1:ob<H1.length:=QL hT1.2
  generalize hX0:H1++[Blk.arr 1 [.sl (rb+1+v) 0 L.length none L.length 1] true (rb+1+v+1)]++[bI L]=X0 at *
  have hN2:=hN1.kp hK2
  have hLm:∀x∈L,0≤x∧x<(n:Int):=fun x hx=>by
   rw [hL,nbL,jU,mem_iota] at hx
   exact hx.1
  obtain ⟨f,hf⟩:∃f:List Int→Int→List Int,f=fun o u=>if u∈o then o else Jl (nbL es n) k u o:=⟨_,rfl⟩
  obtain ⟨x,E',H',r,rfl,rfl,hK3,hT3⟩:=V9 (pol':=QS) (f:=62) (b:=sn 28 B62) (c:=sn 14 B62) (I:=fun i e X=>e=(DD (.i (v:Int)) (.q tb) (.q nb) (.q vb) Ud (.s (H1.length+1) L.length) (.i (L.length:Int)) (.i (i:Int)))∧Kp tb ob X0 X∧To tb ob X ((L.take i).foldl f (o++[(v:Int)]))∧VK n (o++[(v:Int)]) ((L.take i).foldl f (o++[(v:Int)])))
   (Q:=fun x E' X=>x=.exit 0∧E'=(DD (.i (v:Int)) (.q tb) (.q nb) (.q vb) Ud (.s (H1.length+1) L.length) (.i (L.length:Int)) (.i ((L.length:Nat):Int)))∧Kp tb ob X0 X∧To tb ob X (L.foldl f (o++[(v:Int)]))) L.length
   (by
    rintro i hi e X ⟨rfl,hK,hT,hV⟩
    obtain ⟨u,hu,hun⟩:∃u:Nat,L.getD i 0=(u:Int)∧u<n:=by
     have:=hLm (L.getD i 0) (by rw [qM,qK hi,jA];exact zV _)
     exact ⟨(L.getD i 0).toNat,by omega,by omega⟩
    have es1:(L.take (i+1)).foldl f (o++[(v:Int)])=f ((L.take i).foldl f (o++[(v:Int)])) (u:Int):=by
     rw [zX hi,List.foldl_append,qT,List.foldl_nil,← hu,qM,qK hi,jA]
    generalize (L.take i).foldl f (o++[(v:Int)])=oi at *
    have hbX:=hK.get hsb (by omega) (by omega)
    have hix:=ixg (b:=H1.length+1) (cap:=none) hi
    have hld:=ldg hbX rfl hi
    rw [hu] at hld
    obtain ⟨⟨mx4,w1⟩,w2⟩:=id hT
    have hle:=Ky (hV.2.1 (hK0.2.1 h2)) (hV.2.2 (hK0.2.2 h3))
    have hlz:=Qv (P:=Tp) (t:=23) w1 rfl (i:=0) rfl rfl (by kernel_rfl) (by kernel_rfl)
    have c60:∀b:Bool,decide ((u:Int)∈oi)=b→∀kf,Qa Tp QS (kf+1) 60 [.sl ob 0 oi.length none oi.length 1,.int .i64 (u:Int)] X=some (.bool b,X):=fun b hb kf=>by
     rw [Qt (pol:=QS) (g:=60) (F:=W8) rfl (rs:=[.imm .arg 1 (oi.map hvI),.int .i64 (u:Int)]) (by simp only [mapO,Sh rfl w2];rfl) (res:=.bool b) (by simp only [W8,lnF,QH WL];rw [if_pos (by omega),hb])];rfl
    have er:QQ QS 62 (sn 28 B62) ((DD (.i (v:Int)) (.q tb) (.q nb) (.q vb) (.i (u:Int)) (.s (H1.length+1) L.length) (.i (L.length:Int)) (.i ((i+1:Nat):Int))))=(DD (.i (v:Int)) (.q tb) (.q nb) (.q vb) Ud (.s (H1.length+1) L.length) (.i (L.length:Int)) (.i ((i+1:Nat):Int))):=by kernel_rfl
    by_cases c:(u:Int)∈oi
    ·have s:=Qni 0 v tb nb vb X L.length (H1.length+1) i u _ (by omega) hix hld hlz (c60 true (decide_eq_true c))
     rw [Qc (by omega)] at s
     have ef:f oi (u:Int)=oi:=by rw [hf];exact if_pos c
     refine ⟨_,X,s,er,?_,?_,?_⟩
     ·rw [er,WN _ rfl];exact hK
     ·rw [es1,ef,er,WN _ rfl];exact hT
     ·rw [es1,ef];exact hV
    ·have ef:f oi (u:Int)=Jl (nbL es n) k (u:Int) oi:=by rw [hf];exact if_neg c
     have hNX:=hN2.kp hK
     obtain ⟨⟨tt,ht⟩,_⟩:=id hV
     have hlo:o.length+1≤oi.length:=by rw [ht,qH,qH,qJ];omega
     obtain ⟨X',hc,hK4,hT4⟩:=ih u oi X hNX hT hun c (hV.2.1 (hK0.2.1 h2)) (hV.2.2 (hK0.2.2 h3)) (by omega)
     obtain ⟨N,hN'⟩:=CallsTo.from hc
     obtain ⟨mx5,w3⟩:=hNX.self
     have s:=Qnj N v tb nb vb X L.length (H1.length+1) i u _ (by omega) hix hld hlz (c60 false (decide_eq_false c)) (Qv w3 rfl rfl rfl (by kernel_rfl) (by kernel_rfl)) hN'
     rw [Qc (by omega)] at s
     have hVu:VK n (o++[(v:Int)]) (Jl (nbL es n) k (u:Int) oi):=by
      rw [Vw]
      exact hV.trans ((VK.add hun c).trans (Vv es n k _))
     refine ⟨_,X',s,er,?_,?_,?_⟩
     ·exact hK.trans (hK4.gc (qE _) hK4.ln _)
     ·rw [es1,ef]
      exact hT4.gc (Nat.lt_of_lt_of_le (QL w1) (qE _)) (QL w2)
     ·rw [es1,ef];exact hVu)
   (by
    rintro e X ⟨rfl,hK,hT,hV⟩
    rw [zY] at hT
    exact ⟨_,_,_,Qnk 0 v tb nb vb X L.length (H1.length+1) L.length 0 Ud (by omega),by simp,rfl,rfl,hK,hT⟩)
   (by kernel_rfl) (by rintro i e X ⟨rfl,_⟩;kernel_rfl) (e:=(DD (.i (v:Int)) (.q tb) (.q nb) (.q vb) Ud (.s (H1.length+1) L.length) (.i (L.length:Int)) (.i (0:Int)))) (H:=X0) ⟨rfl,Kp.refl tb ob X0,hT2,VK.refl n _⟩
  have h:=CallsTo.shared (P:=Tp) (pol:=QS) (g:=62) (fn:=Try.f62) (cd:=B62) (args:=[.int .i64 (v:Int),.ptr tb 0 0 1,.ptr nb 0 0 1,.ptr vb 0 0 1]) (v:=.tuple []) (by kernel_rfl) (by kernel_rfl) (by kernel_rfl) (by kernel_rfl) (sq (s1) (sq (s2) (bke (c:=sn 7 B62) (r)) (c:=sn 3 B62)) (c:=B62)) (by kernel_rfl) (by simp) (by kernel_rfl)
  have hKK:=hK1.trans (hK2.trans hK3)
  refine ⟨_,h,hKK.gc (qE _) hKK.ln _,?_⟩
  have e:Jl (nbL es n) (k+1) (v:Int) o=L.foldl f (o++[(v:Int)]):=by rw [Jl,hL,hf]
  rw [e]
  exact hT3.gc ltb lob
end
end Go.Proofs.Ytlendaofkmhgmaa
end
section
open Go Go.HL
namespace Go.Proofs.Ytlendaofkmhgmaa
set_option linter.unusedSectionVars false
open Go.Proofs.Try renaming prog → Tp
open Go.HL.HV renaming undef → Ud
theorem Qby {H:Heap} {b k:Nat} {cap:Option Nat} {o:List Int} (hb:H[b]?=some (bI o)) (hk:o.length=k) (e:Int):We H false (.tuple [.sl b 0 k cap k 1,.int .i64 e])=some (.tuple [.own 1 (o.map hvI),.int .i64 e]):=by
 have hr:=ZX (H:=H) (no:=[b]) (b:=b) (k:=1) (m:=k) (cap:=cap) (els:=o.map hvI) hb (by simpa using hk) (WB (fun r=>Kr 4 r) _)
 have ho:Qu H false (.tuple [.sl b 0 k cap k 1,.int .i64 e])=[b]:=by simp [Qu,cellsOf,WQ,hb]
 simp only [We,ho,zT,zG,not_false_eq_true,qS,and_self,if_true,mapO,WO,hr]
 rfl
end Go.Proofs.Ytlendaofkmhgmaa
end
section
open Go Go.HL Go.HL.So
namespace Go.Proofs.Ytlendaofkmhgmaa
set_option linter.unusedSectionVars false
open Go.Proofs.Try renaming prog → Tp
open Go.HL.HV renaming undef → Ud
theorem Gy (l l':List Ed) (v:Int):QX (l++l') v=QX l v++QX l' v:=by
 induction l with
 | nil=>rfl
 | cons e l ih=>rw [qR,QX,QX,ih,qV,qV]
theorem UO {H:Heap} {t b i tot k mx:Nat} {els:List HV} {v old:HV} (hb:H[b]?=some (.arr k els true mx)) (ht:tot=els.length) (hi:els[i]?=some old) (ho:cellsOf old=[old]) (hna:∀cs,old≠.agg cs) (hs:Qm Tp t=some 1) (hc:cellsOf v=[v]) (hcv:Ql v=true) :
  QM Tp H t (.ptr b i 0 tot) v=some (H.set b (.arr k (els.set i v) true (max mx (bnd v)))):=by
 simp only [ST,QM,hb,hi,ht,hs,hc,ho,qJ]
 rw [if_pos ⟨trivial,trivial⟩,if_pos ⟨by omega,by simp [hcv],by omega⟩]
theorem rcl {x x':Option HV} {H H':Heap} {v:HV} {b:Bool} (h:x=some v) (h':x'=some v) (hv:same v v=true) (hH:Qj H H=true) (hH':Qj H' H'=true) (hb:b=true):(WI (x.map fun v=>(v,H)) (x'.map fun v=>(v,H')) H H'&&b)=true:=by
 subst h h' hb
 simp only [WI,Option.map,hv,hH,hH',Bool.and_self]
theorem Zu (b n k:Nat) (cap:Option Nat):same (.sl b 0 n cap n k) (.sl b 0 n cap n k)=true:=by simp [same]
theorem Xa (v:Int):same (.int .i64 v) (.int .i64 v)=true:=by simp [same]
theorem Qo7:Qm Tp 23=some 1:=by kernel_rfl
theorem QdZ:Qw Tp 23=false:=by kernel_rfl
theorem Qd0:(Tp.underlying 23).isSome=true:=by kernel_rfl
theorem Qnm:Qw Tp 22=false:=by kernel_rfl
theorem Qnn:(Tp.underlying 22).isSome=true:=by kernel_rfl
theorem Qo8:Qm Tp 22=some 1:=by kernel_rfl
theorem Qox:Qw Tp 3=false:=by kernel_rfl
theorem Qoy:(Tp.underlying 3).isSome=true:=by kernel_rfl
structure Rw (nb rb n eb:Nat) (es:List Ed) (R:Nat→List Int) (H:Heap):Prop where
 near:∃mx,H[nb]?=some (.arr 1 [.sl rb 0 n (some n) n 1] true mx)
 rows:∃rs mx,H[rb]?=some (.arr 1 rs true mx)∧rs.length=n∧∀i:Nat,i<n→rs[i]?=some (.sl (rb+1+i) 0 (R i).length none (R i).length 1)
 row:∀i:Nat,i<n→H[rb+1+i]?=some (bI (R i))
 edg:H[eb]?=some (bE Qs es)
 sm:Qj H H=true
 ne:nb≠rb∧eb≠rb∧∀i:Nat,i<n→nb≠rb+1+i∧eb≠rb+1+i
theorem Rw.low {nb rb n eb:Nat} {es:List Ed} {R:Nat→List Int} {H H':Heap} (h:Rw nb rb n eb es R H) (hs:Qj H' H'=true) (k:∀b,b<H.length→H'[b]?=H[b]?):Rw nb rb n eb es R H':=by
 obtain ⟨mx,h1⟩:=h.near
 obtain ⟨rs,mx2,h2,h3,h4⟩:=h.rows
 exact ⟨⟨mx,(k _ (QL h1)).trans h1⟩,⟨rs,mx2,(k _ (QL h2)).trans h2,h3,h4⟩,fun i hi=>(k _ (QL (h.row i hi))).trans (h.row i hi),(k _ (QL h.edg)).trans h.edg,hs,h.ne⟩
section
variable {nb rb n eb:Nat} {es:List Ed} {R:Nat→List Int} {H:Heap}
theorem Rw.ld22 (h:Rw nb rb n eb es R H):Qh Tp H 22 (.ptr nb 0 0 1)=some (.sl rb 0 n (some n) n 1):=by
 obtain ⟨mx,h1⟩:=h.near
 exact Qv h1 rfl rfl rfl Qnm Qnn
theorem Rw.ld23 (h:Rw nb rb n eb es R H) {a:Nat} (ha:a<n):Qh Tp H 23 (.ptr rb a 0 n)=some (.sl (rb+1+a) 0 (R a).length none (R a).length 1):=by
 obtain ⟨rs,mx2,h2,h3,h4⟩:=h.rows
 exact Qv h2 h3.symm (h4 a ha) rfl QdZ Qd0
def YD (R:Nat→List Int) (a:Nat) (x:Int):Nat→List Int:=fun v=>if v=a then R v++[x] else R v
theorem Rw.put (h:Rw nb rb n eb es R H) {a:Nat} (ha:a<n) (hl:(R a).length≤500) (x:Int):∃H2 H3,
  WV H 1 8 (.sl (rb+1+a) 0 (R a).length none (R a).length 1) [.int .i64 x]=some (.sl (rb+1+a) 0 ((R a).length+1) none ((R a).length+1) 1,H2) ∧
  QM Tp H2 23 (.ptr rb a 0 n) (.sl (rb+1+a) 0 ((R a).length+1) none ((R a).length+1) 1)=some H3 ∧
  Qj H2 H2=true∧(∀b,b≠rb+1+a→H2[b]?=H[b]?)∧(∀b,b≠rb→b≠rb+1+a→H3[b]?=H[b]?)∧H3.length=H.length∧Rw nb rb n eb es (YD R a x) H3:=by
 obtain ⟨n1,n2,n3⟩:=h.ne
 obtain ⟨mx,h1⟩:=h.near
 obtain ⟨rs,mx2,h2,h3,h4⟩:=h.rows
 have h5:=h.row a ha
 have ap:=Z9 (xs:=[x]) h5 (by simp;omega) (by simp)
 rw [qH,qJ] at ap
 have hq:(H.set (rb+1+a) (bI (R a++[x])))[rb]?=some (.arr 1 rs true mx2):=by rw [qC (by omega)];exact h2
 have st:=UO (t:=23) (v:=.sl (rb+1+a) 0 ((R a).length+1) none ((R a).length+1) 1) hq h3.symm (h4 a ha) rfl (fun cs e=>by cases e) Qo7 rfl rfl
 have s2:Qj (H.set (rb+1+a) (bI (R a++[x]))) (H.set (rb+1+a) (bI (R a++[x])))=true:=Z0 h.sm (ZN _)
 refine ⟨_,_,ap,st,s2,fun b hb=>qC (Ne.symm hb),fun b hb hb'=>by rw [qC (Ne.symm hb),qC (Ne.symm hb')],by simp,?_⟩
 have l1:=QL h2
 have l2:=QL h5
 have e4:∀i:Nat,i<n→(rs.set a (.sl (rb+1+a) 0 ((R a).length+1) none ((R a).length+1) 1))[i]?=some (.sl (rb+1+i) 0 (YD R a x i).length none (YD R a x i).length 1):=fun i hi=>by
  by_cases c:i=a
  ·subst c
   rw [qP (by omega),YD,if_pos rfl,qH,qJ]
  ·rw [qC (Ne.symm c),YD,if_neg c];exact h4 i hi
 refine ⟨⟨mx,?_⟩,⟨_,_,qP (by rw [zZ];exact l1),by simpa using h3,e4⟩,fun i hi=>?_,?_,?_,h.ne⟩
 ·rw [qC (Ne.symm n1),qC (Ne.symm (n3 a ha).1)];exact h1
 ·rw [qC (by omega)]
  by_cases c:i=a
  ·subst c
   rw [qP l2,YD,if_pos rfl]
  ·rw [qC (by omega),YD,if_neg c];exact h.row i hi
 ·rw [qC (Ne.symm n2),qC (Ne.symm (n3 a ha).2)];exact h.edg
 ·refine Z0 s2 (WC fun v hv=>?_)
  obtain ⟨i,hi,rfl⟩:=List.getElem_of_mem hv
  have hi':i<n:=by rw [zZ,h3] at hi;exact hi
  have:=e4 i hi'
  rw [qK hi] at this
  rw [Option.some.inj this]
  exact Zu _ _ _ _
theorem Qoz (H:Heap) (ec ea ed:Int):∃H1,QM Tp (H++[.arr 3 [.agg [.int .i64 0,.int .i64 0,.int .i64 0]] true 0]) 91 (.ptr H.length 0 0 1) (.agg [.int .i64 ec,.int .i64 ea,.int .i64 ed])=some H1∧H1=H++[.arr 3 [.agg [.int .i64 ec,.int .i64 ea,.int .i64 ed]] true 0]:=by
 refine ⟨_,Vm (P:=Tp) (t:=91) (b:=H.length) (i:=0) (tot:=1) (k:=3) (mx:=0) (els:=[.agg [.int .i64 0,.int .i64 0,.int .i64 0]]) (cs:=[.int .i64 0,.int .i64 0,.int .i64 0]) (new:=[.int .i64 ec,.int .i64 ea,.int .i64 ed]) (by simp) rfl rfl (by kernel_rfl) rfl (by simp) rfl rfl,?_⟩
 rw [zE _ _ (qE _),Nat.sub_self];rfl
theorem Qd1 {H:Heap} {xb off:Nat} {cs:List HV} {v:HV} (hb:H[xb]?=some (.arr 3 [.agg cs] true 0)) (hv:cs[off]?=some v):Qh Tp H 3 (.ptr xb 0 off 1)=some v :=
 J3 hb rfl rfl Qox Qoy hv
end
section
variable {d:List (List Int)} {nb rb n eb:Nat} {es:List Ed}
abbrev dE (rw:List HV) (nb eb q i:Nat):Env:=CR (.imm .arg 1 rw) (.imm .lit 1 []) (.int .i64 0) (.ptr nb 0 0 1) Ud Ud Ud (.sl eb 0 q none q 3) (.int .i64 (q:Int)) (.int .i64 (i:Int))
theorem Qge (hE:EP n es) (hq:es.length≤200) (hn:n≤100) (rw:List HV) {X0:Heap} (h0:Rw nb rb n eb es (fun _=>[]) X0) :
  ∃H',RT QS 42 (sn 122 B42) (dE rw nb eb es.length 0) X0 (.exit 0) (dE rw nb eb es.length es.length) H'∧Rw nb rb n eb es (fun v:Nat=>QX es (v:Int)) H'∧X0.length≤H'.length:=by
 obtain ⟨x,E',H',r,rfl,rfl,h1,h2⟩:=V9 (pol':=QS) (f:=42) (b:=sn 244 B42) (c:=sn 122 B42) (I:=fun i e X=>e=dE rw nb eb es.length i∧Rw nb rb n eb es (fun v:Nat=>QX (es.take i) (v:Int)) X∧X0.length≤X.length)
  (Q:=fun x E' X=>x=.exit 0∧E'=dE rw nb eb es.length es.length∧Rw nb rb n eb es (fun v:Nat=>QX es (v:Int)) X∧X0.length≤X.length) es.length
  (by
   rintro i hi e X ⟨rfl,hR,hX⟩
   obtain ⟨ec,e2,e3,hed⟩:∃ec e2 e3,at_ es i=(ec,e2,e3):=⟨_,_,_,rfl⟩
   have hm:(ec,e2,e3)∈es:=by
    rw [← hed,at_,qM,qK hi,jA];exact zV _
   have hb:=hE.1 _ hm
   obtain ⟨ea,rfl⟩:∃a:Nat,e2=(a:Int):=⟨e2.toNat,by have:=hb.1;simp only at this;omega⟩
   obtain ⟨ed,rfl⟩:∃a:Nat,e3=(a:Int):=⟨e3.toNat,by have:=hb.1;have:=hb.2.1;simp only at *;omega⟩
   simp only at hb
   have hEi:EP n (es.take i):=⟨fun e he=>hE.1 e (List.mem_of_mem_take he),hE.2.sublist (List.take_sublist _ _)⟩
   have hts:es.take (i+1)=es.take i++[(ec,((ea:Nat):Int),((ed:Nat):Int))]:=by
    rw [zX hi]
    congr 2
    rw [← hed,at_,qM,qK hi,jA]
   have hld:=lde hR.edg rfl hi
   rw [hed] at hld
   obtain ⟨H1,b1,b2⟩:=Qoz X ec ea ed
   have s1:Qj H1 H1=true:=by
    rw [b2];exact Jo hR.sm (WC fun v hv=>by rw [List.mem_singleton.1 hv];simp [same,sameL])
   have hR1:Rw nb rb n eb es (fun v:Nat=>QX (es.take i) (v:Int)) H1:=hR.low s1 fun b hb=>by rw [b2,qF hb]
   have hx1:H1[X.length]?=some (.arr 3 [.agg [.int .i64 ec,.int .i64 (ea:Int),.int .i64 (ed:Int)]] true 0):=by rw [b2];simp
   have hl1:H1.length=X.length+1:=by rw [b2];simp
   have lr:rb<X.length:=by obtain ⟨_,_,h,_⟩:=hR.rows;exact QL h
   have la:rb+1+ea<X.length:=QL (hR.row ea (by omega))
   have ld:rb+1+ed<X.length:=QL (hR.row ed (by omega))
   obtain ⟨H2,H3,a1,a2,a3,a4,a5,a6,hR3⟩:=hR1.put (a:=ea) (by omega) (qW (UN hEi _) (by omega)) (ed:Int)
   have hx2:=(a4 X.length (by omega)).trans hx1
   have hx3:=(a5 X.length (by omega) (by omega)).trans hx1
   have hnb:=hR1.ne
   have l2:Qh Tp H2 22 (.ptr nb 0 0 1)=some (.sl rb 0 n (some n) n 1):=by
    obtain ⟨mx,q⟩:=hR1.near
    exact Qv ((a4 nb (hnb.2.2 ea (by omega)).1).trans q) rfl rfl rfl Qnm Qnn
   have eR:YD (fun v:Nat=>QX (es.take i) (v:Int)) ea (ed:Int) ed=QX (es.take i) (ed:Int):=by rw [YD,if_neg (by omega)]
   obtain ⟨H4,H5,c1,c2,c3,c4,c5,c6,hR5⟩:=hR3.put (a:=ed) (by omega) (by rw [eR];exact qW (UN hEi _) (by omega)) (ea:Int)
   have hx4:=(c4 X.length (by omega)).trans hx3
   have l4:Qh Tp H4 22 (.ptr nb 0 0 1)=some (.sl rb 0 n (some n) n 1):=by
    obtain ⟨mx,q⟩:=hR3.near
    exact Qv ((c4 nb (hnb.2.2 ed (by omega)).1).trans q) rfl rfl rfl Qnm Qnn
   have f1:∀{Y:Heap},Y[X.length]?=some (.arr 3 [.agg [.int .i64 ec,.int .i64 (ea:Int),.int .i64 (ed:Int)]] true 0)→Qh Tp Y 3 (.ptr X.length 0 1 1)=some (.int .i64 (ea:Int)):=fun h=>Qd1 h rfl
   have f2:∀{Y:Heap},Y[X.length]?=some (.arr 3 [.agg [.int .i64 ec,.int .i64 (ea:Int),.int .i64 (ed:Int)]] true 0)→Qh Tp Y 3 (.ptr X.length 0 2 1)=some (.int .i64 (ed:Int)):=fun h=>Qd1 h rfl
   have ea23:=hR1.ld23 (a:=ea) (by omega)
   have ed23:=hR3.ld23 (a:=ed) (by omega)
   have hS7:=rcl hR1.ld22 hR1.ld22 (Zu _ _ _ _) s1 s1 (rcl hR1.ld22 l2 (Zu _ _ _ _) s1 a3 (rcl (f1 hx1) (f1 hx1) (Xa _) s1 s1 (rcl (f1 hx1) (f1 hx2) (Xa _) s1 a3 (rcl hR1.ld22 hR1.ld22 (Zu _ _ _ _) s1 s1 (rcl (f1 hx1) (f1 hx1) (Xa _) s1 s1 (rcl ea23 ea23 (Zu _ _ _ _) s1 s1 rfl))))))
   have s3:=hR3.sm
   have hS8:=rcl hR3.ld22 hR3.ld22 (Zu _ _ _ _) s3 s3 (rcl hR3.ld22 l4 (Zu _ _ _ _) s3 c3 (rcl (f2 hx3) (f2 hx3) (Xa _) s3 s3 (rcl (f2 hx3) (f2 hx4) (Xa _) s3 c3 (rcl hR3.ld22 hR3.ld22 (Zu _ _ _ _) s3 s3 (rcl (f2 hx3) (f2 hx3) (Xa _) s3 s3 (rcl ed23 ed23 (Zu _ _ _ _) s3 s3 rfl))))))
   have s:=Qnd 0 rw X nb eb es.length i n rb X.length ec ea ed (rb+1+ea) _ _ (rb+1+ed) _ _ (by omega) (ixe hi) hld rfl b1 hR1.ld22 (f1 hx1) hR1.ld22 (f1 hx1) (ixR (by omega)) ea23 (f2 hx1) a1 (ixR (by omega)) a2 hS7 hR3.ld22 (f2 hx3) hR3.ld22 (f2 hx3) (ixR (by omega)) ed23 (f1 hx3) c1 (ixR (by omega)) c2 hS8
   rw [Qc (by omega)] at s
   have er:QQ QS 42 (sn 244 B42) (CR (.a rw) (.imm .lit 1 []) (.i 0) (.q nb) (.ptr X.length 0 0 1) Ud Ud (.sl eb 0 es.length none es.length 3) (.i (es.length:Int)) (.i ((i+1:Nat):Int)))=dE rw nb eb es.length (i+1):=by kernel_rfl
   refine ⟨_,H5,s,er,?_,?_⟩
   ·have e:(fun v:Nat=>QX (es.take (i+1)) (v:Int))=YD (YD (fun v:Nat=>QX (es.take i) (v:Int)) ea (ed:Int)) ed (ea:Int):=by
     funext v
     rw [hts,Gy,QX,QX]
     unfold YD
     simp only
     by_cases v1:v=ea
     ·subst v1
      rw [if_pos rfl,if_neg (by omega),if_neg (by omega),if_pos rfl];simp
     ·by_cases v2:v=ed
      ·subst v2
       rw [if_neg (by omega),if_pos rfl,if_pos rfl,if_neg v1];simp
      ·rw [if_neg (by omega),if_neg (by omega),if_neg v2,if_neg v1];simp
    rw [e]
    refine ⟨?_,?_,?_,?_,V2 hR5.sm,hR5.ne⟩
    ·obtain ⟨mx,q⟩:=hR5.near
     have:=QL hR.near.choose_spec
     exact ⟨mx,by rw [Vd this];exact q⟩
    ·obtain ⟨rs,mx,q⟩:=hR5.rows
     exact ⟨rs,mx,by rw [Vd lr];exact q⟩
    ·intro j hj
     rw [Vd (QL (hR.row j hj))];exact hR5.row j hj
    ·rw [Vd (QL hR.edg)];exact hR5.edg
   ·exact qW hX (QaM (by omega)))
  (by
   rintro e X ⟨rfl,hR,hX⟩
   rw [zY] at hR
   exact ⟨_,_,_,Qne 0 rw X nb eb es.length es.length n rb 0 0 0 0 0 0 0 0 0 0 (by omega),by simp,rfl,rfl,hR,hX⟩)
  (by kernel_rfl) (by rintro i e X ⟨rfl,_⟩;kernel_rfl) (e:=dE rw nb eb es.length 0) (H:=X0) ⟨rfl,by rw [List.take_zero];exact h0,qE _⟩
 exact ⟨H',r,h1,h2⟩
end
open Classical in
noncomputable def XM:List HV→Option HV:=rwF fun R=>if R.length≤1000∧(R.all fun r=>decide (r.length≤1000))=true then some (if okD R then .tuple [.own 1 ((WJ R).map hvI),.int .i64 0] else .tuple [.own 1 [],.int .i64 2]) else none
theorem Qg4:Try.f42.results.toList=[.tmp 2,.tmp 3]:=by kernel_rfl
theorem Qo9 {n:Nat} (hn:n≤100):VB Tp true 22 (.int .i64 (n:Int)) (.int .i64 (n:Int)) []=some (.sl 0 0 n (some n) n 1,[.arr 1 ((qB n).map fun j=>.sl (0+1+j) 0 0 none 0 1) true (0+1+n)]++jI n (.arr 1 [] true 0)):=by
 have h1:Tp.underlying 22=some (.slice 23):=u22
 have h2:Tp.underlying 23=some (.slice 3):=u23
 have h3:Qm Tp 3=some 1:=by kernel_rfl
 have h4:(Tp.info? 23).map (fun i=>(i.size,i.bytes,Vf i))=some (1,24,true):=by kernel_rfl
 simp only [VB,h1,h2,h3]
 cases hi:Tp.info? 23 with
 | none=>rw [hi] at h4;cases h4
 | some i =>
  rw [hi] at h4
  simp only [Option.map_some,Option.some.injEq,Prod.mk.injEq] at h4
  simp only [h4.1,h4.2.1,h4.2.2]
  rw [if_pos ⟨by omega,by omega,by simp only [Q0];omega⟩]
  simp
theorem rw0 {n:Nat} (es:List Ed):Qj ([.arr 1 ((qB n).map fun j=>.sl (0+1+j) 0 0 none 0 1) true (0+1+n)]++jI n (.arr 1 [] true 0)) ([.arr 1 ((qB n).map fun j=>.sl (0+1+j) 0 0 none 0 1) true (0+1+n)]++jI n (.arr 1 [] true 0))=true:=by
 refine sameH_iff.2 fun B hB=>?_
 rcases List.mem_append.1 hB with h | h
 ·rw [List.mem_singleton.1 h]
  refine WC fun v hv=>?_
  obtain ⟨j,_,rfl⟩:=List.mem_map.1 hv
  exact Zu _ _ _ _
 ·rw [wE h];rfl
section
variable {d:List (List Int)}
theorem Qno (d:List (List Int)) (h:d.length≤11):WD d (jI 11 0) 0=WD d (zer d.length) 0:=by
 unfold WD
 rw [Qdl (f:=0) (qI _) fun a ha=>?_]
 rw [zer,qM,qM,zK,zK,if_pos ha,if_pos (by omega)]
theorem Qbz:QN Tp 42 XM:=by
 refine Qp (pol:=QS) (fn:=Try.f42) (cd:=B42) Qi Qgc (by kernel_rfl) (by kernel_rfl) (QdX _ _ (by kernel_rfl)) (by kernel_rfl) ?_
 intro args res h
 obtain ⟨d,rfl,hq⟩:=Vq h
 clear h
 split at hq
 case isFalse=>cases hq
 rename_i hc
 cases hq
 have a:=Qm8 0 (d.map Qb) []
 by_cases hd:okD d
 ·rw [if_pos hd]
  have hdn:=hd.1
  have hpos:0<d.length:=by omega
  have b:=Qm9 0 (d.map Qb) [] (Wl (pol':=QS) (by kernel_rfl) hc.1 hc.2 [] true (Jz hd))
  have mk:=Qo9 (n:=d.length) (by omega)
  obtain ⟨M0,hM0⟩:∃M:Heap,M=[Blk.arr 1 ((qB d.length).map fun j=>.sl (0+1+j) 0 0 none 0 1) true (0+1+d.length)]++jI d.length (.arr 1 [] true 0):=⟨_,rfl⟩
  have hs0:=rw0 (n:=d.length) []
  rw [← hM0] at mk hs0
  have hl0:M0.length=d.length+1:=by rw [hM0];simp
  have hr0:M0[0]?=some (Blk.arr 1 ((qB d.length).map fun j=>.sl (0+1+j) 0 0 none 0 1) true (0+1+d.length)):=by rw [hM0];rfl
  have hr1:∀i:Nat,i<d.length→M0[0+1+i]?=some (bI []):=fun i hi=>by
   rw [hM0,qN (by simp)]
   rw [zK,if_pos (by simp;omega)];rfl
  have st:=UO (H:=M0++[Blk.arr 1 [HV.sl (M0.length+1) 0 0 none 0 1] true (M0.length+2),Blk.arr 1 [] true 0]) (t:=22) (b:=M0.length) (i:=0) (tot:=1) (k:=1) (mx:=M0.length+2) (els:=[HV.sl (M0.length+1) 0 0 none 0 1]) (old:=HV.sl (M0.length+1) 0 0 none 0 1) (v:=.sl 0 0 d.length (some d.length) d.length 1) (by simp) rfl rfl rfl (fun cs e=>by cases e) Qo8 rfl rfl
  obtain ⟨M1,hM1⟩:∃M:Heap,M=(M0++[Blk.arr 1 [HV.sl (M0.length+1) 0 0 none 0 1] true (M0.length+2),Blk.arr 1 [] true 0]).set M0.length (Blk.arr 1 [.sl 0 0 d.length (some d.length) d.length 1] true (max (M0.length+2) (bnd (.sl 0 0 d.length (some d.length) d.length 1)))):=⟨_,rfl⟩
  have st':QM Tp (M0++[Blk.arr 1 [HV.sl (M0.length+1) 0 0 none 0 1] true (M0.length+2),Blk.arr 1 [] true 0]) 22 (.ptr M0.length 0 0 1) (.sl 0 0 d.length (some d.length) d.length 1)=some M1:=by rw [hM1];exact st
  have hl1:M1.length=M0.length+2:=by rw [hM1];simp
  have hnb:M1[M0.length]?=some (Blk.arr 1 [.sl 0 0 d.length (some d.length) d.length 1] true (max (M0.length+2) (bnd (.sl 0 0 d.length (some d.length) d.length 1)))):=by
   rw [hM1];exact qP (by simp)
  have hlow:∀b,b<M0.length→M1[b]?=M0[b]?:=fun b hb=>by rw [hM1,qC (by omega),qF hb]
  have hs1:Qj M1 M1=true:=by
   rw [hM1]
   refine Z0 ?_ (WC fun v hv=>by rw [List.mem_singleton.1 hv];exact Zu _ _ _ _)
   rw [show M0++[Blk.arr 1 [HV.sl (M0.length+1) 0 0 none 0 1] true (M0.length+2),Blk.arr 1 [] true 0]=(M0++[Blk.arr 1 [HV.sl (M0.length+1) 0 0 none 0 1] true (M0.length+2)])++[Blk.arr 1 [] true 0] by simp]
   exact Jo (Jo hs0 (WC fun v hv=>by rw [List.mem_singleton.1 hv];exact Zu _ _ _ _)) rfl
  have c:=Qnb 0 (d.map Qb) [] d.length M0.length 0 (by rw [qD];exact mk) rfl st'
  have c61:=q61 (pol':=QS) (by kernel_rfl) (d:=d) (ps:=jI 11 0) (f:=0) hd (qI _) ⟨rfl,fun x hx=>by have:=wE hx;omega⟩ M1 (JN M1 d)
  rw [Qno d (by omega)] at c61
  obtain ⟨es,hes⟩:∃es,es=WD d (zer d.length) 0:=⟨_,rfl⟩
  rw [← hes] at c61
  have hE:EP d.length es:=by rw [hes];exact Gm _ _
  have hel:es.length≤200:=by
   have h0:=Qan (ps:=zer d.length) (f:=0) hd (by omega)
   have hlen:=Gi (edg d (zer d.length) 0) (iota d.length)
   rw [hes,WD];omega
  have e4:=Qnc 0 (d.map Qb) M1 M0.length M1.length es.length Ud c61
  have hR0:Rw M0.length 0 d.length M1.length es (fun _=>[]) (M1++[bE Qs es]):=by
   refine ⟨⟨_,by rw [qF (by omega)];exact hnb⟩,⟨_,_,by rw [qF (by omega),hlow 0 (by omega)];exact hr0,by simp,fun i hi=>by simp [hi]⟩,fun i hi=>by rw [qF (by omega),hlow _ (by omega)];exact hr1 i hi,by simp,Jo hs1 ?_,by omega,by omega,fun i hi=>by omega⟩
   refine WC fun v hv=>?_
   obtain ⟨e,_,rfl⟩:=List.mem_map.1 hv
   simp [Qs,same,sameL]
  obtain ⟨H',r,hR,hle⟩:=Qge hE hel (by omega) (d.map Qb) hR0
  rw [qH,qJ] at hle
  obtain ⟨mxn,hn1⟩:=hR.near
  have ln:=QL hn1
  have h2:∃H2,QM Tp (H'++[Blk.arr 1 [HV.sl (H'.length+1) 0 0 none 0 1] true (H'.length+2),Blk.arr 1 [] true 0]++[Blk.arr 1 [HV.nilFunc] true 0]) 92 (.ptr (H'.length+2) 0 0 1) (.func 62 [] [.ptr H'.length 0 0 1,.ptr M0.length 0 0 1,.ptr (H'.length+2) 0 0 1])=some H2∧H2=H'++[Blk.arr 1 [HV.sl (H'.length+1) 0 0 none 0 1] true (H'.length+2),Blk.arr 1 [] true 0]++[Blk.arr 1 [.func 62 [] [.ptr H'.length 0 0 1,.ptr M0.length 0 0 1,.ptr (H'.length+2) 0 0 1]] true (max 0 (bnd (.func 62 [] [.ptr H'.length 0 0 1,.ptr M0.length 0 0 1,.ptr (H'.length+2) 0 0 1])))]:=by
   refine ⟨_,UO (t:=92) (b:=H'.length+2) (i:=0) (tot:=1) (k:=1) (mx:=0) (els:=[.nilFunc]) (old:=.nilFunc) (v:=.func 62 [] [.ptr H'.length 0 0 1,.ptr M0.length 0 0 1,.ptr (H'.length+2) 0 0 1]) (by simp) rfl rfl rfl (fun cs e=>by cases e) (by kernel_rfl) rfl rfl,?_⟩
   rw [zE _ _ (by simp)];simp
  obtain ⟨H2,st2,hH2⟩:=h2
  have k2:∀b,b<H'.length→H2[b]?=H'[b]?:=fun b hb=>by rw [hH2,qV,qF hb]
  have hR2:H2[H'.length]?=some (Blk.arr 1 [HV.sl (H'.length+1) 0 0 none 0 1] true (H'.length+2)):=by rw [hH2];simp
  have hR3:H2[H'.length+1]?=some (bI []):=by rw [hH2];simp [bI]
  have hR4:H2[H'.length+2]?=some (Blk.arr 1 [.func 62 [] [.ptr H'.length 0 0 1,.ptr M0.length 0 0 1,.ptr (H'.length+2) 0 0 1]] true (max 0 (bnd (.func 62 [] [.ptr H'.length 0 0 1,.ptr M0.length 0 0 1,.ptr (H'.length+2) 0 0 1])))):=by rw [hH2];simp
  have hT:To H'.length (H'.length+1) H2 []:=⟨⟨_,hR2⟩,hR3⟩
  have hN:Nr H'.length (H'.length+1) M0.length (H'.length+2) 0 d.length es H2:=by
   obtain ⟨rs,mx2,q2,q3,q4⟩:=hR.rows
   have l0:=QL q2
   refine ⟨⟨mxn,(k2 _ ln).trans hn1⟩,⟨rs,mx2,(k2 _ l0).trans q2,q3,q4⟩,fun i hi=>(k2 _ (QL (hR.row i hi))).trans (hR.row i hi),⟨_,hR4⟩,by omega,by omega,by omega,by omega,by omega,by omega,by omega,fun i hi=>?_⟩
   have:=QL (hR.row i hi)
   omega
  obtain ⟨H3,hv,hK,hT3⟩:=QdY hE (by omega) d.length 0 [] H2 hN hT hpos (by simp) qS (fun v hv=>by cases hv) (by simp)
  obtain ⟨N,hv⟩:=CallsTo.from hv
  obtain ⟨⟨mx3,t1⟩,t2⟩:=hT3
  have ez:Jl (nbL es d.length) d.length ((0:Nat):Int) []=WJ d:=by rw [Vw,hes];rfl
  rw [ez] at t1 t2
  have z:=Qnf N (d.map Qb) H' M0.length H'.length (H'.length+2) _ (y17:=.sl M1.length 0 es.length none es.length 3) (y18:=.i (es.length:Int)) (y19:=.i (es.length:Int)) rfl (by simp [Wm,cellsOf,bnd]) st2 (Qv hR4 rfl rfl rfl (by kernel_rfl) (by kernel_rfl)) hv (Qv t1 rfl rfl rfl QdZ Qd0)
  have t:=sq (a) (sq (b) (sq (c) (sq (sq (e4) (bke (c:=sn 61 B42) (r)) (c:=sn 30 B42)) (z) (c:=sn 15 B42)) (c:=sn 7 B42)) (c:=sn 3 B42)) (c:=B42)
  exact ⟨_,_,_,.tuple [.sl (H'.length+1) 0 (WJ d).length none (WJ d).length 1,.int .i64 0],t,by simp,by simp only [Qf,Qg4];rfl,Qby t2 rfl 0⟩
 ·rw [if_neg hd]
  have b:=Qna 0 (d.map Qb) [] (Wl (pol':=QS) (by kernel_rfl) hc.1 hc.2 [] false (ZD hd))
  have t:=sq (a) (sqo (b) (c:=sn 3 B42) (b:=sn 7 B42)) (c:=B42)
  exact ⟨_,_,_,.tuple [.imm .lit 1 [],.int .i64 2],t,by simp,by simp only [Qf,Qg4];rfl,rfl⟩
end
end Go.Proofs.Ytlendaofkmhgmaa
end
section
open Go Go.HL
namespace Go.Proofs.Ytlendaofkmhgmaa
set_option linter.unusedSectionVars false
open Go.Proofs.Try renaming prog → Tp
open Go.HL.HV renaming undef → Ud
noncomputable def QF:Pol:={ pol with prim:=fun g=>if g==20 then some Qcf else if g==27 then some DZ else if g==28 then some Gn else if g==45 then some XL else if g==22 then some XD else if g==29 then some D7 else if g==42 then some XM else if g==34 then some Xu else if g==23 then some Qax else none }
theorem Qgf (n:Nat):Qo Tp (Qa Tp QF n):=QW _ (fun g f h=>by
 split at h
 ·rename_i hg;cases h;rw [eq_of_beq hg];exact Sy
 split at h
 ·rename_i hg;cases h;rw [eq_of_beq hg];exact Qcq
 split at h
 ·rename_i hg;cases h;rw [eq_of_beq hg];exact QfM
 split at h
 ·rename_i hg;cases h;rw [eq_of_beq hg];exact CO
 split at h
 ·rename_i hg;cases h;rw [eq_of_beq hg];exact Qbm
 split at h
 ·rename_i hg;cases h;rw [eq_of_beq hg];exact QeD
 split at h
 ·rename_i hg;cases h;rw [eq_of_beq hg];exact Qbz
 split at h
 ·rename_i hg;cases h;rw [eq_of_beq hg];exact Qbh
 split at h
 ·rename_i hg;cases h;rw [eq_of_beq hg];exact Qmy
 ·cases h) n
end Go.Proofs.Ytlendaofkmhgmaa
end
