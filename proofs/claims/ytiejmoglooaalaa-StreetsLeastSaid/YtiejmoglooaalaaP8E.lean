/- A part of the proof. -/
import Derived.Test.YtiejmoglooaalaaP8D
set_option linter.unusedVariables false
set_option linter.unusedSimpArgs false
set_option linter.unnecessarySimpa false
open Go.IntKind renaming i64 → qA
open List renaming replicate → qB, append_assoc → qE, length_map → qF, length_append → qG, map_cons → qH, append_nil → qI, length_cons → qJ, mem_cons_self → qM, take_length → qN, getElem?_append_right → qP, length_take → qQ, mem_cons_of_mem → qR, getD → qT, foldl_cons → qV, map_append → qW, set_append_right → qX, range → qY, map_nil → qZ, mem_of_mem_take → jA, dropLast → jE, filter_sublist → jG, foldl_append → jH, length_replicate → jI, length_nil → jJ, map_map → jU, mem_filter → jV, length_set → jW, mem_append → jX, eq_of_mem_replicate → jY, getElem_take → jZ, mem_singleton_self → zA, mem_singleton → zC, replicate_zero → zD, getElem?_eq_getElem → zE, range_succ → zF, length_singleton → zG, getElem_mem → zH, take_of_length_le → zJ, getElem?_set_self → zL, mem_append_left → zO, length_drop → zP, getElem?_eq_none → zQ, getElem?_append_left → zS, take_succ_eq_append_getElem → zT, getElem?_take_of_lt → zU, mem_append_right → zV
open Nat renaming le_refl → qC, sub_self → qO, zero_add → jN, lt_or_ge → jP, zero_le → jQ
open Int renaming toNat_natCast → qD, emod_nonneg → qK, emod_lt_of_pos → qL, add_zero → qU, tmod_eq_emod_of_nonneg → zI, eq_ofNat_of_zero_le → zN
open Bool renaming and_self → qS
section
open Go Go.HL
namespace Go.Proofs.Ytiejmoglooaalaa
set_option linter.unusedSectionVars false
open Go.Proofs.Try renaming prog → Tp
open Go.HL.HV renaming undef → Ud
def lwT (O:List Int) (k d:Int):List Int:=if O.getD k.toNat 0<0∨d<O.getD k.toNat 0 then O.set k.toNat d else O
theorem CR (O:List Int) (k d:Int):(lwT O k d).length=O.length:=by unfold lwT;split <;> simp
theorem u72:Tp.underlying 72=some (.map 3 4):=by kernel_rfl
theorem Qid (x:Int):Vn Tp 3 (.int .i64 x)=true:=by kernel_rfl
theorem J6 (x:Int):∀(ks:List Int) (i:Nat),x∉ks→Wg (.int .i64 x) (ks.map Qb) i=some none
 | [],_,_=>rfl
 | y::ks,i,h=>by
  have h1:x≠y:=fun c=>h (c▸qM ..)
  simp only [qH,Wg,Qb,WB,Jn,if_true,decide_eq_false h1]
  exact J6 x ks (i+1) fun c=>h (qR _ c)
section
variable {F:FuncId→Option (List HV→Option HV)}
theorem Qcf (h64:F 64=none) {H:Heap} {sb ob m mx:Nat} {O:List Int} (hs:H[sb]?=some (.arr 1 [.sl ob 0 m (some m) m 1] true mx)) (ho:H[ob]?=some (bI O)) (hm:O.length=m) {k:Int} (hk:0≤k∧k<(m:Int)) (d:Int):ClF F 64 [.int .i64 k,.int .i64 d,.ptr sb 0 0 1] H (.tuple []) (H.set ob (bI (lwT O k d))):=by
 have hr:Try.f64.results.toList=[]:=by kernel_rfl
 have l0:QK Tp H 24 (.ptr sb 0 0 1)=some (.sl ob 0 m (some m) m 1):=WD (b:=sb) hs rfl rfl rfl a24 i24
 have ix:=Qtp (b:=ob) (n:=m) (v:=k) hk (cap:=some m)
 have ld:=Q6 ho (y:=k.toNat) (by omega)
 have st:=ZI ho (y:=k.toNat) (by omega) d
 rw [hm] at ld st
 by_cases c1:O.getD k.toNat 0<0
 ·have h:=CallsTo.shared (P:=Tp) (pol:=plF F) (g:=64) (fn:=Try.f64) (cd:=B64) (args:=[.int .i64 k,.int .i64 d,.ptr sb 0 0 1]) (v:=.tuple []) h64 (by kernel_rfl) (by kernel_rfl) (by kernel_rfl) (QqM (F:=F) k d sb ob m _ H l0 ix ld c1 l0 ix st) (by kernel_rfl) (by simp) (by simp only [Qd,hr];rfl)
  rw [QH _ (by simp)] at h
  rw [lwT,if_pos (.inl c1)];exact h
 by_cases c2:d<O.getD k.toNat 0
 ·have h:=CallsTo.shared (P:=Tp) (pol:=plF F) (g:=64) (fn:=Try.f64) (cd:=B64) (args:=[.int .i64 k,.int .i64 d,.ptr sb 0 0 1]) (v:=.tuple []) h64 (by kernel_rfl) (by kernel_rfl) (by kernel_rfl) (QqN (F:=F) k d sb ob m _ H l0 ix ld c1 l0 ix ld c2 l0 ix st) (by kernel_rfl) (by simp) (by simp only [Qd,hr];rfl)
  rw [QH _ (by simp)] at h
  rw [lwT,if_pos (.inr c2)];exact h
 ·have h:=CallsTo.shared (P:=Tp) (pol:=plF F) (g:=64) (fn:=Try.f64) (cd:=B64) (args:=[.int .i64 k,.int .i64 d,.ptr sb 0 0 1]) (v:=.tuple []) h64 (by kernel_rfl) (by kernel_rfl) (by kernel_rfl) (QqO (F:=F) k d sb ob m _ H l0 ix ld c1 l0 ix ld c2) (by kernel_rfl) (by simp) (by simp only [Qd,hr];rfl)
  rw [QH _ rfl] at h
  rw [lwT,if_neg (fun h=>h.elim c1 c2),Dp ho];exact h
end
def inS (l:List St) (x:Int) (O:List Int) (y:Int):List Int:=lwT (lwT O x (wOf l y-wOf l x)) y (wOf l y-wOf l x)
theorem Qcg (l:List St) (x:Int) (O:List Int) (y:Int):(inS l x O y).length=O.length:=by rw [inS,CR,CR]
def inF (l:List St) (x:Int) (O ys:List Int):List Int:=ys.foldl (inS l x) O
theorem UC (l:List St) (x:Int):∀(ys O:List Int),(inF l x O ys).length=O.length
 | [],_=>rfl
 | y::ys,O=>by rw [inF,qV];exact (UC l x ys _).trans (Qcg ..)
theorem QfQ (l:List St) (x:Int) (O ys:List Int) {j:Nat} (h:j<ys.length):inF l x O (ys.take (j+1))=inS l x (inF l x O (ys.take j)) (ys.getD j 0):=by
 rw [inF,Ws h,jH];rfl
def ouF (l:List St) (t O ks:List Int):List Int:=ks.foldl (fun O k=>inF l k O (Q8 l t k l.length)) O
theorem CS (l:List St) (t:List Int):∀(ks O:List Int),(ouF l t O ks).length=O.length
 | [],_=>rfl
 | k::ks,O=>by rw [ouF,qV];exact (CS l t ks _).trans (UC ..)
theorem QfR (l:List St) (t O ks:List Int) {j:Nat} (h:j<ks.length):ouF l t O (ks.take (j+1))=inF l (ks.getD j 0) (ouF l t O (ks.take j)) (Q8 l t (ks.getD j 0) l.length):=by
 rw [ouF,Ws h,jH];rfl
def slT (l:List St):List Int:=ouF l (Qf l) (qB l.length (-1)) (Qf l)
def bM (M:List Int):Blk:=.map (M.map Qb) (M.map fun _=>HV.bool true) 0
abbrev bL (m:Nat):Blk:=.arr 1 [.sl 3 0 m (some m) m 1] true 6
abbrev hS (n:Int) (l:List St) (T M O:List Int):Heap:=[bN n l,bI T,bM M,bI O,bL l.length,bI []]
def Qch:List HV→Option HV:=f1 kN fun p=>if Ww p.1 p.2=true then some (if Wl p.1 p.2=true then .tuple [.own 1 ((slT p.2).map Qb),.omap ((Qf p.2).map Qb) ((Qf p.2).map fun _=>HV.bool true),.bool true] else .tuple [.own 1 [],.nilmap,.bool false]) else none
theorem Qi2:Try.f43.results.toList=[.tmp 2,.tmp 3,.tmp 4]:=by kernel_rfl
def W9:FuncId→Option (List HV→Option HV):=fun g=>if g==40 then some YC else if g==59 then some YI else none
theorem Qie (n:Nat):Qn Tp (Qc Tp (plF W9) n):=Qy _ (fun g f h=>by
 unfold W9 at h
 split at h
 ·rename_i hg;cases h;rw [eq_of_beq hg];exact Yi
 split at h
 ·rename_i hg;cases h;rw [eq_of_beq hg];exact DF
 ·cases h) n
theorem Qbb (l:List St):(Qf l).Nodup:=by
 have:=Jb l (Qh l) (Qh l).length (qC _)
 rw [qN] at this
 exact this.nodup (K7 l)
theorem Qbc {l:List Int} (h:l.Nodup) {i:Nat} (hi:i<l.length):l.getD i 0∉l.take i:=by
 intro c
 have h2:(l.take (i+1)).Nodup:=(List.take_sublist _ _).nodup h
 rw [Ws hi] at h2
 exact (List.nodup_append.1 h2).2.2 _ c _ (zA _) rfl
theorem QfS {n:Int} {l:List St} (hnet:Ww n l=true) {T O:List Int} (hT:T=Qf l) (hO:O.length=l.length) {i:Nat} (hi:i<T.length) :
  ∃E0 H1,RT (plF W9) 43 (sn 4084 B43) ((Z5 (Qv n l) (.q 0) (.imm .lit 1 []) .nilmap (.bool false) (.s 1 T.length) Ud (.map 2) (.q 4) Ud (.func 64 [] [.q 4]) Ud Ud Ud Ud Ud (.s 1 T.length) (.i (T.length:Int)) (.i (i:Int)) Ud Ud Ud)) (hS n l T (T.take i) O) .normal E0 H1∧QO (plF W9) 43 (sn 4084 B43) E0=(Z5 (Qv n l) (.q 0) (.imm .lit 1 []) .nilmap (.bool false) (.s 1 T.length) Ud (.map 2) (.q 4) Ud (.func 64 [] [.q 4]) Ud Ud Ud Ud Ud (.s 1 T.length) (.i (T.length:Int)) (.i ((i+1:Nat):Int)) Ud Ud Ud)∧gc 6 (WF ((Z5 (Qv n l) (.q 0) (.imm .lit 1 []) .nilmap (.bool false) (.s 1 T.length) Ud (.map 2) (.q 4) Ud (.func 64 [] [.q 4]) Ud Ud Ud Ud Ud (.s 1 T.length) (.i (T.length:Int)) (.i ((i+1:Nat):Int)) Ud Ud Ud))) H1=hS n l T (T.take (i+1)) (inF l (T.getD i 0) O (Q8 l T (T.getD i 0) l.length)):=by
 obtain ⟨⟨n1,n2⟩,n3,he,hw⟩:=QE hnet
 have heB:=K6 he (by omega)
 have hTin:∀x∈T,0≤x∧x<(l.length:Int):=fun x hx=>Zo (by rw [← hT];exact hx)
 have hTn:T.Nodup:=by rw [hT];exact Qbb l
 have hTl:T.length≤l.length:=by rw [hT,← QaW];exact QeM l
 have hx:=hTin _ (Qu 0 hi)
 have hwt:∀k:Int,0≤k∧k<(l.length:Int)→0≤wOf l k∧wOf l k≤1000:=fun k hk=>hw _ (Qu _ (by omega))
 have s1:=QqZ (F:=W9) 0 n (l.map Qa) (hS n l T (T.take i) O) 1 T.length 2 4 i (by omega)
 have s2:=Qib (F:=W9) 0 n (l.map Qa) (hS n l T (T.take i) O) 1 T.length 2 4 i
 have s3:=Qq1 (F:=W9) 0 n (l.map Qa) (hS n l T (T.take i) O) 1 T.length 2 4 i (T.getD i 0) (JX u24 z3 hi) (Q6 (H:=hS n l T (T.take i) O) (k:=1) rfl hi)
 have s4u:GY Tp false 72 (.map 2) (.int .i64 (T.getD i 0)) (.bool true) (hS n l T (T.take i) O)=some (hS n l T (T.take (i+1)) O):=by
  have hk:=Qid (T.getD i 0)
  have hf:=J6 (T.getD i 0) (T.take i) 0 (Qbc hTn hi)
  have hg:(hS n l T (T.take i) O)[2]?=some (.map ((T.take i).map Qb) ((T.take i).map fun _=>HV.bool true) 0):=rfl
  have ha:(WQ (cellsOf (HV.int .i64 (T.getD i 0))) (cellsOf (HV.int .i64 (T.getD i 0)))).isSome=true:=rfl
  simp only [GY,u72,hk,if_true,Bool.false_eq_true,if_false,hg,hf,ha]
  rw [Ws hi]
  simp only [hS,bM,qW]
  rfl
 have s4:=Qq2 (F:=W9) 0 n (l.map Qa) (hS n l T (T.take i) O) 1 T.length 2 4 i (T.getD i 0) s4u
 have c59:=at3 (pol':=plF W9) (g:=59) (c1:=kN) (c2:=kL) (c3:=kI) (f:=fun p t o=>if (ZY p.2=true∧p.2.length≤500)∧inR p.2.length t=true∧t≠[]∧t.length≤500 then some (.own 1 ((Q8 p.2 t o p.2.length).map Qb)) else none) (H:=hS n l T (T.take (i+1)) O) (by kernel_rfl) (ShN _ n l) (JV (b:=1) (l:=T) rfl rfl) (ShI _ (T.getD i 0)) (if_pos ⟨⟨heB,by show l.length≤500;omega⟩,inR_iff.2 hTin,fun h=>by rw [h] at hi;simp at hi,by omega⟩)
 rw [W1] at c59
 have s5:=Qq3 (F:=W9) 0 n (l.map Qa) (hS n l T (T.take (i+1)) O) 1 T.length 2 4 i 6 (Q8 l T (T.getD i 0) l.length).length (T.getD i 0) (JE rfl) c59
 have hYin:∀y∈Q8 l T (T.getD i 0) l.length,0≤y∧y<(l.length:Int):=fun y hy=>startT_mem.1 (List.mem_filter.1 hy).1
 have hYl:=Uw l T (T.getD i 0) l.length
 generalize Q8 l T (T.getD i 0) l.length=Y at *
 have hfl:∀j,(inF l (T.getD i 0) O (Y.take j)).length=l.length:=fun j=>(UC ..).trans hO
 have r:=Wk (pol':=plF W9) (f:=43) (E:=fun j=>(Z5 (Qv n l) (.q 0) (.imm .lit 1 []) .nilmap (.bool false) (.s 1 T.length) Ud (.map 2) (.q 4) Ud (.func 64 [] [.q 4]) (.i (T.getD i 0)) Ud Ud Ud Ud (.s 1 T.length) (.i (T.length:Int)) (.i (i:Int)) (.s 6 Y.length) (.i (Y.length:Int)) (.i (j:Int)))) (Hs:=fun j=>hS n l T (T.take (i+1)) (inF l (T.getD i 0) O (Y.take j))++[bI Y]) Y.length
  (E0:=fun j=>(Z5 (Qv n l) (.q 0) (.imm .lit 1 []) .nilmap (.bool false) (.s 1 T.length) Ud (.map 2) (.q 4) Ud (.func 64 [] [.q 4]) (.i (T.getD i 0)) (.i (Y.getD j 0)) (.i (wOf l (Y.getD j 0)-wOf l (T.getD i 0))) Ud Ud (.s 1 T.length) (.i (T.length:Int)) (.i (i:Int)) (.s 6 Y.length) (.i (Y.length:Int)) (.i ((j+1:Nat):Int)))) (H1:=fun j=>hS n l T (T.take (i+1)) (inF l (T.getD i 0) O (Y.take (j+1)))++[bI Y])
  (fun j hj=>by
   have hy:=hYin _ (Qu 0 hj)
   have w1:=hwt _ hx
   have w2:=hwt _ hy
   have gy:=gs (l:=l) (y:=(Y.getD j 0).toNat) (by omega)
   have gxx:=gs (l:=l) (y:=(T.getD i 0).toNat) (by omega)
   rw [show (((Y.getD j 0).toNat:Nat):Int)=Y.getD j 0 by omega] at gy
   rw [show (((T.getD i 0).toNat:Nat):Int)=T.getD i 0 by omega] at gxx
   have hsucc:=QfQ l (T.getD i 0) O Y hj
   have hOl:=hfl j
   generalize inF l (T.getD i 0) O (Y.take j)=Oj at *
   have hwr:qA.wrap ((l.getD (Y.getD j 0).toNat (0,0,0)).2.2-(l.getD (T.getD i 0).toNat (0,0,0)).2.2)=wOf l (Y.getD j 0)-wOf l (T.getD i 0):=Qr (by show _≤wOf l (Y.getD j 0)-wOf l (T.getD i 0);omega) (by show wOf l (Y.getD j 0)-wOf l (T.getD i 0)<_;omega)
   obtain ⟨N1,k1⟩:=CallsTo.from (Qcf (F:=W9) (by kernel_rfl) (H:=hS n l T (T.take (i+1)) Oj++[bI Y]) (sb:=4) (ob:=3) (mx:=6) rfl rfl hOl hx (wOf l (Y.getD j 0)-wOf l (T.getD i 0)))
   obtain ⟨N2,k2⟩:=CallsTo.from (Qcf (F:=W9) (by kernel_rfl) (H:=hS n l T (T.take (i+1)) (lwT Oj (T.getD i 0) (wOf l (Y.getD j 0)-wOf l (T.getD i 0)))++[bI Y]) (sb:=4) (ob:=3) (mx:=6) rfl rfl (by rw [CR];exact hOl) hy (wOf l (Y.getD j 0)-wOf l (T.getD i 0)))
   have s:=Qq4 (F:=W9) (max N1 N2) n (l.map Qa) (hS n l T (T.take (i+1)) Oj++[bI Y]) 1 T.length 2 4 i 6 Y.length j (T.getD i 0) (Y.getD j 0) _ _ _ _ _ _ (by omega) (JX u24 z3 hj) (Q6 (H:=hS n l T (T.take (i+1)) Oj++[bI Y]) (k:=6) rfl hj) (ZX (xb:=0) rfl) gy (ZX (xb:=0) rfl) gxx (fun kf hk=>by rw [hwr];exact k1 kf (by omega)) (fun kf hk=>by rw [hwr];exact k2 kf (by omega))
   rw [hwr,Qi (by omega)] at s
   rw [hsucc]
   exact s) (fun j _=>by kernel_rfl) (fun j _=>QH _ rfl) (Qq5 (F:=W9) 0 n (l.map Qa) (hS n l T (T.take (i+1)) (inF l (T.getD i 0) O (Y.take Y.length))++[bI Y]) 1 T.length 2 4 i 6 Y.length Y.length (T.getD i 0) 0 0 0 0 0 0 0 (by omega)) (by simp) (c:=sn 1045710 B43) (by kernel_rfl) (fun j _=>by kernel_rfl)
 rw [qN] at r
 have s7:=Qq6 (F:=W9) 0 n (l.map Qa) (hS n l T (T.take (i+1)) (inF l (T.getD i 0) O Y)++[bI Y]) 1 T.length 2 4 i (y12:=.i (T.getD i 0)) (y49:=.s 6 Y.length) (y50:=.i (Y.length:Int)) (y51:=.i (Y.length:Int))
 rw [Qi (by omega)] at s7
 refine ⟨_,_,sq (s1) (sq (s2) (sq (RunsTo.block_normal (i:=3) (c:=sn 32678 B43) (sq (s3) (sq (s4) (sq (s5) (bke (c:=sn 522855 B43) (r)) (c:=sn 261427 B43)) (c:=sn 130713 B43)) (c:=sn 65356 B43)) (by kernel_rfl)) (s7) (c:=sn 16339 B43)) (c:=sn 8169 B43)) (c:=sn 4084 B43),by kernel_rfl,?_⟩
 have hb:WF ((Z5 (Qv n l) (.q 0) (.imm .lit 1 []) .nilmap (.bool false) (.s 1 T.length) Ud (.map 2) (.q 4) Ud (.func 64 [] [.q 4]) Ud Ud Ud Ud Ud (.s 1 T.length) (.i (T.length:Int)) (.i ((i+1:Nat):Int)) Ud Ud Ud))=5:=by simp only [WF,bnd,bndL,Qv];rfl
 rw [hb]
 exact K5 (H:=hS n l T (T.take (i+1)) (inF l (T.getD i 0) O Y)) (by show max 0 (max 0 (max 0 (max 0 (max 6 (max 0 (max 0 0))))))≤6;decide) (by show 5≤6;decide)
theorem Qbd (H:Heap):WP H false (.tuple [.imm .lit 1 [],.nilmap,.bool false])=some (.tuple [.own 1 [],.nilmap,.bool false]):=by
 simp [WP,QM,cellsOf,Zq,W4,We,mapO];rfl
def Vj (m j:Nat):List Int:=qB j (-1)++qB (m-j) 0
theorem Qif {m j:Nat} (h:j≤m):(Vj m j).length=m:=by rw [Vj,qG,jI,jI];omega
theorem Qig {m j:Nat} (h:j<m):(Vj m j).set j (-1)=Vj m (j+1):=by
 rw [Vj,qX _ _ (by simp),jI,qO,Vj,show m-j=(m-(j+1))+1 by omega,List.replicate_succ (n:=m-(j+1)),List.set_cons_zero,List.replicate_succ',qE];rfl
theorem Qih {n:Int} {l:List St} {T O:List Int} (hO:O.length=l.length):WP (hS n l T T O) false (.tuple [.sl 3 0 l.length (some l.length) l.length 1,.map 2,.bool true])=some (.tuple [.own 1 (O.map Qb),.omap (T.map Qb) (T.map fun _=>HV.bool true),.bool true]):=by
 have hr:=ZE (H:=hS n l T T O) (no:=[3,2]) (b:=3) (k:=1) (m:=l.length) (cap:=some l.length) (els:=O.map Qb) rfl (by simpa using hO) (WE (fun r=>Ke 4 r) _)
 have hks:mapO (frz (hS n l T T O) [3,2] 4) (T.map Qb)=some (T.map Qb):=WE (fun r=>Ke 4 r) _
 have hvs:∀l2:List Int,mapO (frz (hS n l T T O) [3,2] 4) (l2.map fun _=>HV.bool true)=some (l2.map fun _=>HV.bool true):=by
  intro l2
  induction l2 with
  | nil=>rfl
  | cons y l2 ih=>simp only [qH,mapO,ih];rfl
 have hm:We (hS n l T T O) [3,2] false (.map 2)=some (.omap (T.map Qb) (T.map fun _=>HV.bool true)):=by
  have hg:(hS n l T T O)[2]?=some (.map (T.map Qb) (T.map fun _=>HV.bool true) 0):=rfl
  simp only [We,hg,hks,hvs T]
 have ho:QM (hS n l T T O) false (.tuple [.sl 3 0 l.length (some l.length) l.length 1,.map 2,.bool true])=[3,2]:=rfl
 simp only [WP,ho,List.nodup_cons,zC,List.not_mem_nil,not_false_eq_true,List.nodup_nil,and_self,and_true,if_true,W4,mapO,hr,hm]
 rfl
theorem QfT:QP Tp 43 Qch:=by
 refine Qp (pol:=plF W9) (fn:=Try.f43) (cd:=B43) Qk Qie (by kernel_rfl) (by kernel_rfl) (Zm W9 _ _ (by kernel_rfl)) (by kernel_rfl) ?_
 intro args res h
 obtain ⟨⟨n,l⟩,rfl,hq⟩:=XH h
 simp only at hq
 split at hq
 case isFalse=>cases hq
 rename_i hnet
 cases hq
 obtain ⟨⟨n1,n2⟩,n3,he,hw⟩:=QE hnet
 have heB:=K6 he (by omega)
 have a:=QqP (F:=W9) 0 n (l.map Qa)
 have c40:=at1 (pol':=plF W9) (g:=40) (c1:=kN) (f:=fun p=>if GB p.1 p.2 then some (.tuple [.own 1 ((Qf p.2).map Qb),.bool (Wl p.1 p.2)]) else none) (H:=[bN n l]) (by kernel_rfl) (ShN _ n l) (if_pos ⟨heB,by show l.length≤900;omega,by show 0≤n;omega,by show n≤1000;omega⟩)
 rw [Us] at c40
 simp only at c40
 by_cases cn:Wl n l=true
 case neg =>
  rw [VD cn] at c40
  have b:=QqR (F:=W9) 0 n (l.map Qa) [bN n l] 1 (Qf l).length (JE rfl) c40
  have c:=Qia (F:=W9) 0 n (l.map Qa) [bN n l,bI (Qf l)] 1 (Qf l).length
  refine ⟨_,_,_,.tuple [.imm .lit 1 [],.nilmap,.bool false],sq (a) (sq (b) (sqo (c) (c:=sn 7 B43) (b:=sn 15 B43)) (c:=sn 3 B43)) (c:=B43),by simp,by simp only [Qd,Qi2];rfl,?_⟩
  rw [if_neg cn]
  exact Qbd _
 rw [cn] at c40
 rw [if_pos cn]
 have b:=QqQ (F:=W9) 0 n (l.map Qa) [bN n l] 1 (Qf l).length (JE rfl) c40
 have c:=Qh9 (F:=W9) 0 n (l.map Qa) [bN n l,bI (Qf l)] 1 (Qf l).length
 have d:=QqS (F:=W9) 0 n (l.map Qa) [bN n l,bI (Qf l)] 1 (Qf l).length (y6:=.bool true) rfl
 have mk:=Yc (P:=Tp) (H:=[bN n l,bI (Qf l),bM []]) (t:=24) (e:=3) (k:=1) (bt:=8) (zv:=.int .i64 0) (n:=(l.length:Int)) u24 (by kernel_rfl) (by simp [cellsOf,Qo]) (by simp [cellsOf]) (by omega) (by omega) (by simp only [W6];omega)
 rw [qD] at mk
 have erep:qB l.length (HV.int .i64 0)=(Vj l.length 0).map Qb:=by simp [Vj,Qb]
 rw [erep] at mk
 have e:=QqT (F:=W9) 0 n (l.map Qa) [bN n l,bI (Qf l),bM []] 1 (Qf l).length 2 3 l.length (y6:=.bool true) (H2:=hS n l (Qf l) [] (Vj l.length 0)) (ZX (xb:=0) rfl) (by rw [qF];exact mk) rfl (by show Q3 _ _ _ _ _=_;kernel_rfl)
 have hsl:∀T M O,QK Tp (hS n l T M O) 24 (.ptr 4 0 0 1)=some (.sl 3 0 l.length (some l.length) l.length 1):=fun T M O=>WD (b:=4) (H:=hS n l T M O) rfl rfl rfl rfl a24 i24
 have f:=QqU (F:=W9) 0 n (l.map Qa) (hS n l (Qf l) [] (Vj l.length 0)) 1 (Qf l).length 2 4 3 l.length (y6:=.bool true) (hsl _ _ _)
 have hTe:ouF l (Qf l) (qB l.length (-1)) (Qf l)=slT l:=rfl
 have hout:=@QfS n l hnet (Qf l)
 generalize hT:Qf l=T at *
 have r1:=Wk (pol':=plF W9) (f:=43) (E:=fun i=>(Z5 (Qv n l) (.q 0) (.imm .lit 1 []) .nilmap (.bool false) (.s 1 T.length) Ud (.map 2) (.q 4) Ud Ud Ud Ud Ud (.i (l.length:Int)) (.i (i:Int)) Ud Ud Ud Ud Ud Ud)) (Hs:=fun i=>hS n l T [] (Vj l.length i)) l.length (E0:=fun i=>(Z5 (Qv n l) (.q 0) (.imm .lit 1 []) .nilmap (.bool false) (.s 1 T.length) Ud (.map 2) (.q 4) (.i (i:Int)) Ud Ud Ud Ud (.i (l.length:Int)) (.i ((i+1:Nat):Int)) Ud Ud Ud Ud Ud Ud)) (H1:=fun i=>hS n l T [] (Vj l.length (i+1)))
  (fun i hi=>by
   have hil:=Qif (m:=l.length) (j:=i) (by omega)
   have st:=ZI (H:=hS n l T [] (Vj l.length i)) (k:=3) (o:=Vj l.length i) rfl (y:=i) (by omega) (-1)
   rw [hil,Qig hi] at st
   have s:=QqV (F:=W9) 0 n (l.map Qa) (hS n l T [] (Vj l.length i)) 1 T.length 2 4 3 l.length i (by omega) (hsl _ _ _) (JX u24 z3 hi) st
   rw [Qi (by omega)] at s
   exact s) (fun i _=>by kernel_rfl) (fun i _=>QH _ rfl) (QqW (F:=W9) 0 n (l.map Qa) (hS n l T [] (Vj l.length l.length)) 1 T.length 2 4 3 l.length l.length (by omega)) (by simp) (c:=sn 506 B43) (by kernel_rfl) (fun i _=>by kernel_rfl)
 have eini:Vj l.length l.length=qB l.length (-1):=by rw [Vj,qO,zD,qI]
 rw [eini] at r1
 have hh:=QqX (F:=W9) 0 n (l.map Qa) (hS n l T [] (qB l.length (-1))) 1 T.length 2 4 (y29:=.i (l.length:Int)) (y30:=.i (l.length:Int))
 have ii:=QqY (F:=W9) 0 n (l.map Qa) (hS n l T [] (qB l.length (-1))) 1 T.length 2 4 (y29:=.i (l.length:Int)) (y30:=.i (l.length:Int))
 have hol:∀i,(ouF l T (qB l.length (-1)) (T.take i)).length=l.length:=fun i=>(CS ..).trans (by simp)
 obtain ⟨x,E',H',r2,rfl,rfl,rfl⟩:=Kq (pol':=plF W9) (f:=43) (b:=sn 4084 B43) (c:=sn 2042 B43) (I:=fun i e H=>e=(Z5 (Qv n l) (.q 0) (.imm .lit 1 []) .nilmap (.bool false) (.s 1 T.length) Ud (.map 2) (.q 4) Ud (.func 64 [] [.q 4]) Ud Ud Ud Ud Ud (.s 1 T.length) (.i (T.length:Int)) (.i (i:Int)) Ud Ud Ud)∧H=hS n l T (T.take i) (ouF l T (qB l.length (-1)) (T.take i)))
  (Q:=fun x E' H'=>x=.exit 2∧E'=(Z5 (Qv n l) (.q 0) (.imm .lit 1 []) .nilmap (.bool false) (.s 1 T.length) Ud (.map 2) (.q 4) Ud (.func 64 [] [.q 4]) Ud Ud Ud Ud Ud (.s 1 T.length) (.i (T.length:Int)) (.i ((T.length:Nat):Int)) Ud Ud Ud)∧H'=hS n l T T (ouF l T (qB l.length (-1)) T)) T.length
  (by
   rintro i hi e H ⟨rfl,rfl⟩
   obtain ⟨E0,H1,s,q1,q2⟩:=hout (O:=ouF l T (qB l.length (-1)) (T.take i)) rfl (hol i) hi
   refine ⟨E0,H1,s,q1,?_⟩
   rw [q1]
   show gc 6 _ H1=_
   rw [q2,QfR l T _ T hi])
  (by
   rintro e H ⟨rfl,rfl⟩
   rw [qN]
   have s1:=Qq0 (F:=W9) 0 n (l.map Qa) (hS n l T T (ouF l T (qB l.length (-1)) T)) 1 T.length 2 4 T.length (by omega)
   have s2:=Qic (F:=W9) 0 n (l.map Qa) (hS n l T T (ouF l T (qB l.length (-1)) T)) 1 T.length 2 4 T.length
   exact ⟨_,_,_,sq (s1) (sqo (s2) (c:=sn 8169 B43) (b:=sn 16339 B43)) (c:=sn 4084 B43),by simp,rfl,rfl,rfl⟩)
  (by kernel_rfl) (by rintro i e H ⟨rfl,_⟩;kernel_rfl) (e:=(Z5 (Qv n l) (.q 0) (.imm .lit 1 []) .nilmap (.bool false) (.s 1 T.length) Ud (.map 2) (.q 4) Ud (.func 64 [] [.q 4]) Ud Ud Ud Ud Ud (.s 1 T.length) (.i (T.length:Int)) (.i (0:Int)) Ud Ud Ud)) (H:=hS n l T [] (qB l.length (-1))) ⟨rfl,rfl⟩
 have z:=Qq7 (F:=W9) 0 n (l.map Qa) (hS n l T T (ouF l T (qB l.length (-1)) T)) 1 T.length 2 4 3 l.length (y38:=.s 1 T.length) (y39:=.i (T.length:Int)) (y40:=.i (T.length:Int)) (hsl _ _ _)
 refine ⟨_,_,_,.tuple [.sl 3 0 l.length (some l.length) l.length 1,.map 2,.bool true],sq (a) (sq (b) (sq (c) (sq (d) (sq (e) (sq (sq (f) (bke (c:=sn 253 B43) (lpi (e0:=(Z5 (Qv n l) (.q 0) (.imm .lit 1 []) .nilmap (.bool false) (.s 1 T.length) (.bool true) (.map 2) (.q 4) Ud Ud Ud Ud Ud (.i (l.length:Int)) (.i (0:Int)) Ud Ud Ud Ud Ud Ud)) r1 (b:=sn 1012 B43))) (c:=sn 126 B43)) (sq (hh) (sq (sq (ii) (bke (c:=sn 1021 B43) (lpi (e0:=(Z5 (Qv n l) (.q 0) (.imm .lit 1 []) .nilmap (.bool false) (.s 1 T.length) Ud (.map 2) (.q 4) Ud (.func 64 [] [.q 4]) Ud Ud Ud (.i (l.length:Int)) (.i (l.length:Int)) (.s 1 T.length) (.i (T.length:Int)) (.i (0:Int)) Ud Ud Ud)) r2 (b:=sn 4084 B43))) (c:=sn 510 B43)) (z) (c:=sn 255 B43)) (c:=sn 127 B43)) (c:=sn 63 B43)) (c:=sn 31 B43)) (c:=sn 15 B43)) (c:=sn 7 B43)) (c:=sn 3 B43)) (c:=B43),by simp,by simp only [Qd,Qi2];rfl,?_⟩
 rw [← hTe]
 have:=hol T.length
 rw [qN] at this
 exact Qih this
def slE (n:Int) (l:List St):Int:=if Ww n l=true then (if Wl n l=true then 0 else 6) else 2
theorem QfU (O T:List Int) (H:Heap):ZP (.tuple [.own 1 (O.map Qb),.omap (T.map Qb) (T.map fun _=>HV.bool true),.bool true]) H=(.tuple [.sl H.length 0 O.length none O.length 1,.map (H.length+1),.bool true],H++[bI O]++[bM T]):=by
 have h:Wi (.own 1 (O.map Qb)) H=(.sl H.length 0 O.length none O.length 1,H++[bI O]):=by
  simp only [Wi,VC,qF];rfl
 have h2:Wi (.omap (T.map Qb) (T.map fun _=>HV.bool true)) (H++[bI O])=(.map (H.length+1),H++[bI O]++[bM T]):=by
  simp only [Wi,qG,qJ,jJ];rfl
 simp only [ZP,ZQ,Jf,h,h2];rfl
theorem QfV (H:Heap):ZP (.tuple [.own 1 [],.nilmap,.bool false]) H=(.tuple [.sl H.length 0 0 none 0 1,.nilmap,.bool false],H++[bI []]):=rfl
theorem Qii (l:List St):(slT l).length=l.length:=(CS ..).trans (by simp)
def bst (b d:Int):Int:=if b<0∨d<b then d else b
theorem Qae (x:Int):∀(ks:List Int) (i:Nat),x∈ks→∃j,j<ks.length∧Wg (.int .i64 x) (ks.map Qb) i=some (some (i+j))
 | [],_,h=>by cases h
 | y::ks,i,h=>by
  by_cases e:x=y
  ·subst e
   refine ⟨0,by simp,?_⟩
   simp only [qH,Wg,Qb,WB,Jn,if_true,decide_true];rfl
  ·rcases List.mem_cons.1 h with h | h
   ·exact absurd h e
   ·obtain ⟨j,h1,h2⟩:=Qae x ks (i+1) h
    refine ⟨j+1,by simp;omega,?_⟩
    simp only [qH,Wg,Qb,WB,Jn,if_true,decide_eq_false e]
    rw [show i+(j+1)=i+1+j by omega]
    exact h2
theorem z4z:Xv Tp 4=some (.bool false):=by kernel_rfl
theorem Qq8 {H:Heap} {b:Nat} {ks:List Int} (h:H[b]?=some (bM ks)) (x:Int):lkH Tp 72 H b (.int .i64 x)=some (.bool (decide (x∈ks)),H):=by
 have hk:=Qid x
 have hz:=z4z
 rw [bM] at h
 by_cases c:x∈ks
 ·obtain ⟨j,h1,h2⟩:=Qae x ks 0 c
  rw [decide_eq_true c]
  have:(ks.map fun _=>HV.bool true)[0+j]?=some (.bool true):=by rw [jN,List.getElem?_map,zE h1];rfl
  simp only [lkH,h,Vo,u72,hk,if_true,h2,this]
  rfl
 ·have h2:=J6 x ks 0 c
  rw [decide_eq_false c]
  simp only [lkH,h,Vo,u72,hk,if_true,h2,hz]
  rfl
end Go.Proofs.Ytiejmoglooaalaa
end
section
open Go Go.HL Go.HL.Dt
namespace Go.Proofs.Ytiejmoglooaalaa
set_option linter.unusedSectionVars false
open Go.Proofs.Try renaming prog → Tp
open Go.HL.HV renaming undef → Ud
def vtG (g1 g2:List Int) (n:Nat) (top:Int):List Int:=((qY n).filter fun (v:Nat)=>decide (g1.getD v 0=(v:Int)∧g2.getD v 0=top)).map fun (v:Nat)=>(v:Int)
theorem QfW (g1 g2:List Int) (k:Nat) (top:Int):vtG g1 g2 (k+1) top=vtG g1 g2 k top++if g1.getD k 0=(k:Int)∧g2.getD k 0=top then [(k:Int)] else []:=by
 unfold vtG
 rw [zF,List.filter_append,qW]
 congr 1
 by_cases c:g1.getD k 0=(k:Int)∧g2.getD k 0=top
 ·rw [if_pos c]
  have:(List.filter (fun (v:Nat)=>decide (g1.getD v 0=(v:Int)∧g2.getD v 0=top)) [k])=[k]:=List.filter_eq_self.2 fun v hv=>by
   rw [List.mem_singleton.1 hv]
   exact decide_eq_true c
  rw [this];rfl
 ·rw [if_neg c]
  have:(List.filter (fun (v:Nat)=>decide (g1.getD v 0=(v:Int)∧g2.getD v 0=top)) [k])=[]:=List.filter_eq_nil_iff.2 fun v hv h=>by
   rw [List.mem_singleton.1 hv] at h
   exact c (of_decide_eq_true h)
  rw [this];rfl
theorem Qq9 {g1 g2:List Int} {n:Nat} {top x:Int} (h:x∈vtG g1 g2 n top):0≤x∧x<(n:Int):=by
 obtain ⟨v,hv,rfl⟩:=List.mem_map.1 h
 have:=List.mem_range.1 (List.mem_filter.1 hv).1
 omega
theorem Qij (g1 g2:List Int) (n:Nat) (top:Int):(vtG g1 g2 n top).length≤n:=by
 rw [vtG,qF]
 have:=List.length_filter_le (fun (v:Nat)=>decide (g1.getD v 0=(v:Int)∧g2.getD v 0=top)) (qY n)
 rwa [List.length_range] at this
def Wy:List Int→Int→Nat
 | [],_=>0
 | y::V,x=>if x=y then 0 else if x∈V then Wy V x+1 else 0
theorem Qci:∀{V:List Int} {x:Int},x∈V→Wy V x<V.length
 | y::V,x,h=>by
  rw [Wy,qJ]
  split
  ·omega
  ·split
   ·rename_i c;have:=Qci c;omega
   ·omega
theorem Qcj:∀{V:List Int} {x:Int},x∉V→Wy V x=0
 | [],_,_=>rfl
 | y::V,x,h=>by rw [Wy,if_neg (fun e:x=y=>h (by rw [e];exact qM ..)),if_neg fun c=>h (qR _ c)]
theorem Qaf:∀{V:List Int} {x:Int},x∈V→V.getD (Wy V x) 0=x
 | y::V,x,h=>by
  rw [Wy]
  split
  ·rename_i e;rw [e];rfl
  ·rename_i e
   have hm:=(List.mem_cons.1 h).resolve_left e
   rw [if_pos hm,List.getD_cons_succ]
   exact Qaf hm
def bMI (V:List Int):Blk:=.map (V.map Qb) ((qY V.length).map fun (i:Nat)=>HV.int .i64 (i:Int)) 0
theorem Qik:Tp.underlying 117=some (.map 3 3):=by kernel_rfl
theorem z3t:Xv Tp 3=some (.int .i64 0):=by kernel_rfl
theorem GU (x:Int):∀(V:List Int) (i:Nat),x∈V→Wg (.int .i64 x) (V.map Qb) i=some (some (i+Wy V x))
 | [],_,h=>by cases h
 | y::V,i,h=>by
  by_cases e:x=y
  ·subst e
   simp only [qH,Wg,Qb,WB,Jn,if_true,decide_true,Wy];rfl
  ·have hm:=(List.mem_cons.1 h).resolve_left e
   have ih:=GU x V (i+1) hm
   simp only [qH,Wg,Qb,WB,Jn,if_true,decide_eq_false e]
   rw [Wy,if_neg e,if_pos hm,show i+(Wy V x+1)=i+1+Wy V x by omega]
   exact ih
theorem Qck {H:Heap} {b:Nat} {V:List Int} (h:H[b]?=some (bMI V)) (x:Int):lkG Tp 117 H b (.int .i64 x) true=some (.tuple [.int .i64 (Wy V x:Int),.bool (decide (x∈V))],H)∧lkG Tp 117 H b (.int .i64 x) false=some (.int .i64 (Wy V x:Int),H):=by
 have hk:=Qid x
 have hz:=z3t
 rw [bMI] at h
 by_cases c:x∈V
 ·have h2:=GU x V 0 c
  rw [jN] at h2
  have h3:=Qci c
  have:((qY V.length).map fun (i:Nat)=>HV.int .i64 (i:Int))[Wy V x]?=some (.int .i64 (Wy V x:Int)):=by simp [h3]
  rw [decide_eq_true c]
  constructor <;> · simp only [lkG,h,Vo,Qik,hk,if_true,h2,this];rfl
 ·have h2:=J6 x V 0 c
  rw [decide_eq_false c,Qcj c]
  constructor <;> · simp only [lkG,h,Vo,Qik,hk,if_true,h2,hz];rfl
theorem Qcl {H:Heap} {b:Nat} {V:List Int} (h:H[b]?=some (bMI V)):UM Tp H 117 (.map b)=some (.int .i64 (V.length:Int)):=by
 rw [bMI] at h
 simp only [UM,Qik,h,qF]
theorem Qil {H:Heap} {b:Nat} {V:List Int} (h:H[b]?=some (bMI V)) {x:Int} (hx:x∉V):GY Tp false 117 (.map b) (.int .i64 x) (.int .i64 (V.length:Int)) H=some (H.set b (bMI (V++[x]))):=by
 have hk:=Qid x
 have hf:=J6 x V 0 hx
 have ha:(WQ (cellsOf (HV.int .i64 x)) (cellsOf (HV.int .i64 x))).isSome=true:=rfl
 rw [bMI] at h
 simp only [GY,Qik,hk,if_true,Bool.false_eq_true,if_false,h,hf,ha]
 simp only [bMI,qW,qG,zG,zF,qH,qZ]
 rfl
abbrev b1 (x:Int):Blk:=.arr 1 [.int .i64 x] true 0
def D0 (p d y:Int):Int:=(y+d+p)%p
def adM (p:Int) (N:Nat) (i j:Nat) (d:Int) (M:List (List Int)):List (List Int):=if i<N∧j<N then M.set i ((M.getD i []).set j (D0 p d ((M.getD i []).getD j 0))) else M
def adH (p:Int) (N:Nat) (R:Nat→Nat) (M:List (List Int)) (i j:Nat) (d:Int) (H:Heap):Heap:=if i<N∧j<N then H.set (R i) (bI ((M.getD i []).set j (D0 p d ((M.getD i []).getD j 0)))) else H
theorem UD {p:Int} {N:Nat} {R:Nat→Nat} {M:List (List Int)} {i j:Nat} {d:Int} {H X:Heap} (h:∀i,i<N→R i<H.length):adH p N R M i j d (H++X)=adH p N R M i j d H++X:=by
 unfold adH
 split
 ·rename_i c;exact List.set_append_left _ _ (h i c.1)
 ·rfl
theorem Je (p:Int) (N:Nat) (R:Nat→Nat) (M:List (List Int)) (i j:Nat) (d:Int) (H:Heap):Fx H (adH p N R M i j d H) (rowS R N):=by
 unfold adH
 split
 ·rename_i c;exact Fx.set (S:=rowS R N) ⟨i,c.1,rfl⟩ _
 ·exact Fx.refl ..
theorem Kv {p:Int} (hp:0<p) {N:Nat} {M:List (List Int)} (h:WN p N M) (i j:Nat) (d:Int):WN p N (adM p N i j d M):=by
 unfold adM
 split
 ·rename_i c
  obtain ⟨h1,h2⟩:=h
  have hi:i<M.length:=by omega
  have hri:=h2 _ (by rw [Jv hi];exact zH _:M.getD i []∈M)
  refine ⟨by rw [jW];exact h1,fun r hr=>?_⟩
  rcases List.mem_or_eq_of_mem_set hr with e | e
  ·exact h2 r e
  ·subst e
   refine ⟨by rw [jW];exact hri.1,fun k hk=>?_⟩
   rw [YS (by rw [hri.1];exact c.2)]
   split
   ·exact ⟨qK _ (by omega),qL _ hp⟩
   ·exact hri.2 k hk
 ·exact h
section
variable {F:FuncId→Option (List HV→Option HV)} {H:Heap} {mb N:Nat} {R:Nat→Nat} {M:List (List Int)} {p:Int}
theorem Mat.ad (hM:Mat H mb N R M) (i j:Nat) (d:Int):Mat (adH p N R M i j d H) mb N R (adM p N i j d M):=by
 unfold adH adM
 split
 ·rename_i c;exact (hM.put c.1 c.2 _).2
 ·exact hM
theorem Qs3 {p y d:Int} (hp:1<p∧p≤2147483647) (hy:0≤y∧y<p) (hd:d=1∨d=-1):(qA.wrap (qA.wrap (y+d)+p)).tmod p=D0 p d y:=by
 rw [Qr (n:=y+d) (by omega) (by omega),Q7 (by omega) (by omega),zI (by omega)];rfl
theorem a57:QF Tp 57=false:=by kernel_rfl
theorem i57:(Tp.underlying 57).isSome=true:=by kernel_rfl
theorem UE (h86:F 86=none) (hp:1<p∧p≤2147483647) (hM:Mat H mb N R M) (hok:WN p N M) {zb xb pb mx:Nat} (hz:H[zb]?=some (b1 (N:Int))) (hx:H[xb]?=some (.arr 1 [slR mb N] true mx)) (hpb:H[pb]?=some (b1 p)) (i j:Nat) {d:Int} (hd:d=1∨d=-1) :
  ClF F 86 [.int .i64 (i:Int),.int .i64 (j:Int),.int .i64 d,.ptr zb 0 0 1,.ptr xb 0 0 1,.ptr pb 0 0 1] H (.tuple []) (adH p N R M i j d H):=by
 have hr:Try.f86.results.toList=[]:=by kernel_rfl
 have lz:=ld1 hz
 have lp:=ld1 hpb
 have lx:QK Tp H 57 (.ptr xb 0 0 1)=some (slR mb N):=WD (b:=xb) hx rfl rfl rfl a57 i57
 have go:∀{H':Heap} (hl:H'.length=H.length),RT (plF F) 86 (sub [] B86) (QfF (.i (i:Int)) (.i (j:Int)) (.i d) (.q zb) (.q xb) (.q pb)) H .normal (QfF (.i (i:Int)) (.i (j:Int)) (.i d) (.q zb) (.q xb) (.q pb)) H' →
   ClF F 86 [.int .i64 (i:Int),.int .i64 (j:Int),.int .i64 d,.ptr zb 0 0 1,.ptr xb 0 0 1,.ptr pb 0 0 1] H (.tuple []) H':=fun hl s=>by
  have h:=CallsTo.shared (P:=Tp) (pol:=plF F) (g:=86) (fn:=Try.f86) (cd:=B86) (args:=[.int .i64 (i:Int),.int .i64 (j:Int),.int .i64 d,.ptr zb 0 0 1,.ptr xb 0 0 1,.ptr pb 0 0 1]) (v:=.tuple []) h86 (by kernel_rfl) (by kernel_rfl) (by kernel_rfl) s (by kernel_rfl) (by simp) (by simp only [Qd,hr];rfl)
  rw [QH _ hl] at h
  exact h
 by_cases c1:i<N
 ·by_cases c2:j<N
  ·have hy:=DZ hok c1 c2
   obtain ⟨g1,g2⟩:=hM.put c1 c2 (D0 p d ((M.getD i []).getD j 0))
   have e:adH p N R M i j d H=H.set (R i) (bI ((M.getD i []).set j (D0 p d ((M.getD i []).getD j 0)))):=if_pos ⟨c1,c2⟩
   rw [e]
   have s:=Qpz (F:=F) (i:Int) (j:Int) d zb xb pb H mb N (R i) ((M.getD i []).getD j 0) p (H0:=H.set (R i) (bI ((M.getD i []).set j (D0 p d ((M.getD i []).getD j 0))))) lz (by omega) lz (by omega) lx (XS c1) (hM.ld c1) lx (XS c1) (hM.ld c1) (Gd c2) (hM.get c1 c2) lp lp (CP (by omega)) (Gd c2) (by rw [Qs3 hp hy hd];exact g1)
   exact go (by simp) s
  ·have e:adH p N R M i j d H=H:=if_neg fun h=>c2 h.2
   rw [e]
   exact go rfl (QpA (F:=F) (i:Int) (j:Int) d zb xb pb H mb N 0 0 p lz (by omega) lz (by omega))
 ·have e:adH p N R M i j d H=H:=if_neg fun h=>c1 h.1
  rw [e]
  exact go rfl (QpB (F:=F) (i:Int) (j:Int) d zb xb pb H mb N 0 0 p lz (by omega))
end
section
variable {F:FuncId→Option (List HV→Option HV)} {n:Int} {l:List St} {bb ab nb pb:Nat} {w p:Int} {H:Heap} {us1 g1 us2 g2:List Int}
theorem Qra (h55:F 55=none) (hn:0≤n∧n≤16) (hb1:H[bb]?=some (bU us1)) (hU1:Up us1 g1) (hb2:H[ab]?=some (bU us2)) (hU2:Up us2 g2) (u:Int) (top:Nat) :
  RT (plF F) 65 (sn 59802 B65) ((QY (Qv n l) (.q bb) (.q ab) (.i w) (.i p) (.q nb) (.q pb) (.i 0) (.i (u)) (.i (top:Int)) (.map H.length) Ud Ud Ud Ud Ud Ud Ud Ud Ud (.i n) (.i (top:Int)) (.i n) (.i (0:Int)) Ud Ud Ud Ud Ud)) (H++[bMI []]) (.exit 2) ((QY (Qv n l) (.q bb) (.q ab) (.i w) (.i p) (.q nb) (.q pb) (.i 0) (.i (u)) (.i (top:Int)) (.map H.length) Ud Ud Ud Ud Ud Ud Ud Ud Ud (.i n) (.i (top:Int)) (.i n) (.i ((n.toNat:Nat):Int)) Ud Ud Ud Ud Ud)) (H++[bMI (vtG g1 g2 n.toNat (top:Int))]):=by
 have h:=Wk (pol':=plF F) (f:=65) (b:=sn 119604 B65) (c:=sn 59802 B65) (E:=fun v=>(QY (Qv n l) (.q bb) (.q ab) (.i w) (.i p) (.q nb) (.q pb) (.i 0) (.i (u)) (.i (top:Int)) (.map H.length) Ud Ud Ud Ud Ud Ud Ud Ud Ud (.i n) (.i (top:Int)) (.i n) (.i (v:Int)) Ud Ud Ud Ud Ud)) (Hs:=fun v=>H++[bMI (vtG g1 g2 v (top:Int))]) n.toNat (E0:=fun v=>(QY (Qv n l) (.q bb) (.q ab) (.i w) (.i p) (.q nb) (.q pb) (.i 0) (.i (u)) (.i (top:Int)) (.map H.length) (.i (v:Int)) Ud Ud Ud Ud Ud Ud Ud Ud (.i n) (.i (top:Int)) (.i n) (.i ((v+1:Nat):Int)) Ud Ud Ud Ud Ud)) (H1:=fun v=>H++[bMI (vtG g1 g2 (v+1) (top:Int))]) (x:=.exit 2) (E':=(QY (Qv n l) (.q bb) (.q ab) (.i w) (.i p) (.q nb) (.q pb) (.i 0) (.i (u)) (.i (top:Int)) (.map H.length) Ud Ud Ud Ud Ud Ud Ud Ud Ud (.i n) (.i (top:Int)) (.i n) (.i ((n.toNat:Nat):Int)) Ud Ud Ud Ud Ud)) (H':=H++[bMI (vtG g1 g2 n.toNat (top:Int))])
  (fun v hv=>by
   have hv16:v<16:=by omega
   have s1:=QpK (F:=F) 0 n (l.map Qa) bb ab w p (H++[bMI (vtG g1 g2 v (top:Int))]) nb pb u top H.length v (by omega)
   have s2:=QhR (F:=F) 0 n (l.map Qa) bb ab w p (H++[bMI (vtG g1 g2 v (top:Int))]) nb pb u top H.length v
   have s4:=QpP (F:=F) 0 n (l.map Qa) bb ab w p (H++[bMI (vtG g1 g2 (v+1) (top:Int))]) nb pb u top H.length v (y14:=.i (v:Int))
   rw [show qA.wrap ((v:Int)+1)=((v+1:Nat):Int) by rw [Q7 (by omega) (by omega)];omega] at s4
   have s3:RT (plF F) 65 (sn 956838 B65) ((QY (Qv n l) (.q bb) (.q ab) (.i w) (.i p) (.q nb) (.q pb) (.i 0) (.i (u)) (.i (top:Int)) (.map H.length) Ud Ud Ud Ud Ud Ud Ud Ud Ud (.i n) (.i (top:Int)) (.i n) (.i (v:Int)) Ud Ud Ud Ud Ud)) (H++[bMI (vtG g1 g2 v (top:Int))]) .normal ((QY (Qv n l) (.q bb) (.q ab) (.i w) (.i p) (.q nb) (.q pb) (.i 0) (.i (u)) (.i (top:Int)) (.map H.length) (.i (v:Int)) Ud Ud Ud Ud Ud Ud Ud Ud (.i n) (.i (top:Int)) (.i n) (.i (v:Int)) Ud Ud Ud Ud Ud)) (H++[bMI (vtG g1 g2 (v+1) (top:Int))]):=by
    have b1':=WJ (X:=[bMI (vtG g1 g2 v (top:Int))]) hb1
    have b2':=WJ (X:=[bMI (vtG g1 g2 v (top:Int))]) hb2
    obtain ⟨N1,c1⟩:=CallsTo.from (Kh (F:=F) h55 b1' hU1 (v:=(v:Int)) (by omega) (by omega))
    obtain ⟨N2,c2⟩:=CallsTo.from (Kh (F:=F) h55 b2' hU2 (v:=(v:Int)) (by omega) (by omega))
    rw [qD] at c1 c2
    have k1:=fun kf (hk:max N1 N2≤kf)=>c1 kf (by omega)
    have k2:=fun kf (hk:max N1 N2≤kf)=>c2 kf (by omega)
    rw [QfW]
    by_cases e1:g1.getD v 0=(v:Int)
    ·by_cases e2:g2.getD v 0=(top:Int)
     ·rw [if_pos ⟨e1,e2⟩]
      have hm:(H++[bMI (vtG g1 g2 v (top:Int))])[H.length]?=some (bMI (vtG g1 g2 v (top:Int))):=by simp
      have hx:(v:Int)∉vtG g1 g2 v (top:Int):=fun c=>by have:=Qq9 c;omega
      have mp:=Qil hm hx
      have es:(H++[bMI (vtG g1 g2 v (top:Int))]).set H.length (bMI (vtG g1 g2 v (top:Int)++[(v:Int)]))=H++[bMI (vtG g1 g2 v (top:Int)++[(v:Int)])]:=by rw [qX _ _ (qC _),qO];rfl
      rw [es] at mp
      exact QpM (F:=F) (max N1 N2) n (l.map Qa) bb ab w p (H++[bMI (vtG g1 g2 v (top:Int))]) nb pb u top H.length v k1 e1 k2 e2 (Qcl hm) mp
     ·rw [if_neg fun h=>e2 h.2,qI]
      exact QpN (F:=F) (max N1 N2) n (l.map Qa) bb ab w p (H++[bMI (vtG g1 g2 v (top:Int))]) nb pb u top H.length v k1 e1 k2 e2
    ·rw [if_neg fun h=>e1 h.1,qI]
     exact QpO (F:=F) (max N1 N2) n (l.map Qa) bb ab w p (H++[bMI (vtG g1 g2 v (top:Int))]) nb pb u top H.length v k1 e1
   exact sq (s1) (sq (s2) (sq (s3) (s4) (c:=sn 478419 B65)) (c:=sn 239209 B65)) (c:=sn 119604 B65)) (fun v _=>by kernel_rfl) (fun v _=>QH _ (by simp)) (by
   have s1:=QpL (F:=F) 0 n (l.map Qa) bb ab w p (H++[bMI (vtG g1 g2 n.toNat (top:Int))]) nb pb u top H.length n.toNat (by omega)
   have s2:=QhS (F:=F) 0 n (l.map Qa) bb ab w p (H++[bMI (vtG g1 g2 n.toNat (top:Int))]) nb pb u top H.length n.toNat
   exact sq (s1) (sqo (s2) (c:=sn 239209 B65) (b:=sn 478419 B65)) (c:=sn 119604 B65)) (by simp) (by kernel_rfl) (fun v _=>by kernel_rfl)
 exact h
def Zs (L q i:Nat):List HV:=(qY q).map fun k=>if k<i then slR (L+5+k) q else .imm .lit 0 []
theorem Xg (L q i:Nat):(Zs L q i).length=q:=by simp [Zs]
theorem Qdi {L q i:Nat}:(Zs L q i).set i (slR (L+5+i) q)=Zs L q (i+1):=by
 refine List.ext_getElem? fun j=>?_
 rcases jP j q with h | h
 ·have a:∀x,(Zs L q x)[j]?=some (if j<x then slR (L+5+j) q else .imm .lit 0 []):=fun x=>by simp [Zs,h]
  rw [a,List.getElem?_set]
  by_cases c:i=j
  ·subst c;rw [if_pos rfl,if_pos (by rw [Xg];exact h),if_pos (by omega)]
  ·rw [if_neg c,a]
   by_cases c2:j<i
   ·rw [if_pos c2,if_pos (by omega)]
   ·rw [if_neg c2,if_neg (by omega)]
 ·rw [zQ (by rw [jW,Xg];exact h),zQ (by rw [Xg];exact h)]
theorem GV (L q:Nat):Zs L q q=Yp (fun k=>L+5+k) q:=List.map_congr_left fun k hk=>if_pos (List.mem_range.1 hk)
theorem Qbe (L q:Nat):Zs L q 0=qB q (.imm .lit 0 []):=by
 refine List.ext_getElem (by simp [Zs]) fun j h1 h2=>?_
 simp [Zs]
def rmx (L i:Nat):Nat:=if i=0 then 0 else L+5+i
abbrev zR (q:Nat):Blk:=bI (qB q 0)
abbrev hC (H:Heap) (V:List Int) (q i:Nat):Heap:=H++[bMI V,b1 (q:Int),.arr 1 (Zs H.length q i) true (rmx H.length i),.arr 1 [slR (H.length+2) q] true (H.length+5),.arr 1 [] true 0]++qB i (zR q)
theorem D1 (H:Heap) (V:List Int) (q i:Nat):(hC H V q i).length=H.length+5+i:=by simp only [hC,qG,qJ,jJ,jI]
theorem GW (H:Heap) (V:List Int) (q i:Nat) {j:Nat} (hj:j<5):(hC H V q i)[H.length+j]?=[bMI V,b1 (q:Int),.arr 1 (Zs H.length q i) true (rmx H.length i),.arr 1 [slR (H.length+2) q] true (H.length+5),.arr 1 [] true 0][j]?:=by
 rw [hC,qE,qP (by omega),show H.length+j-H.length=j by omega,zS (by simpa using hj)]
theorem Qbf {H:Heap} {base r:Nat} (h:H.length≤max base (max r (mxs H))):gc base r H=H:=by
 unfold gc
 exact zJ h
theorem Qim (u:Int) (top:Nat) {V:List Int} {q:Nat} (hq:q≤16) (hs:Qm (hC H V q 0) (hC H V q 0)=true) :
  RT (plF F) 65 (sn 956922 B65) ((QY (Qv n l) (.q bb) (.q ab) (.i w) (.i p) (.q nb) (.q pb) (.i 0) (.i (u)) Ud (.map H.length) Ud (.q (H.length+1)) (.q (H.length+3)) Ud Ud Ud Ud Ud Ud (.i n) (.i (top:Int)) Ud Ud (.i (q:Int)) (.i (0:Int)) Ud Ud Ud)) (hC H V q 0) (.exit 4) ((QY (Qv n l) (.q bb) (.q ab) (.i w) (.i p) (.q nb) (.q pb) (.i 0) (.i (u)) Ud (.map H.length) Ud (.q (H.length+1)) (.q (H.length+3)) Ud Ud Ud Ud Ud Ud (.i n) (.i (top:Int)) Ud Ud (.i (q:Int)) (.i (q:Int)) Ud Ud Ud)) (hC H V q q):=by
 have sI:∀i,Qm (hC H V q i) (hC H V q i)=true:=fun i=>by
  refine sameH_all.2 fun B hB=>?_
  rw [hC,qE,jX,jX] at hB
  rcases hB with h | h | h
  ·exact sameH_all.1 hs B (by rw [hC];simp [h])
  ·simp only [List.mem_cons,List.not_mem_nil,or_false] at h
   rcases h with rfl | rfl | rfl | rfl | rfl
   ·exact sameH_all.1 hs _ (by rw [hC];simp)
   ·exact WX [(q:Int)]
   ·simp only [Qm,Zs,WU (f:=fun k=>if k<i then slR (H.length+5+k) q else .imm .lit 0 []) (fun k=>by split <;> simp [same,sameL]),beq_self_eq_true,qS]
   ·exact sameH_all.1 hs _ (by rw [hC];simp)
   ·rfl
  ·rw [jY h];exact WX _
 have h:=Wk (pol':=plF F) (f:=65) (b:=sn 1913844 B65) (c:=sn 956922 B65) (E:=fun i=>(QY (Qv n l) (.q bb) (.q ab) (.i w) (.i p) (.q nb) (.q pb) (.i 0) (.i (u)) Ud (.map H.length) Ud (.q (H.length+1)) (.q (H.length+3)) Ud Ud Ud Ud Ud Ud (.i n) (.i (top:Int)) Ud Ud (.i (q:Int)) (.i (i:Int)) Ud Ud Ud)) (Hs:=fun i=>hC H V q i) q (E0:=fun i=>(QY (Qv n l) (.q bb) (.q ab) (.i w) (.i p) (.q nb) (.q pb) (.i 0) (.i (u)) Ud (.map H.length) Ud (.q (H.length+1)) (.q (H.length+3)) (.i (i:Int)) Ud Ud Ud Ud Ud (.i n) (.i (top:Int)) Ud Ud (.i (q:Int)) (.i ((i+1:Nat):Int)) Ud Ud Ud)) (H1:=fun i=>hC H V q (i+1)) (x:=.exit 4) (E':=(QY (Qv n l) (.q bb) (.q ab) (.i w) (.i p) (.q nb) (.q pb) (.i 0) (.i (u)) Ud (.map H.length) Ud (.q (H.length+1)) (.q (H.length+3)) Ud Ud Ud Ud Ud Ud (.i n) (.i (top:Int)) Ud Ud (.i (q:Int)) (.i (q:Int)) Ud Ud Ud)) (H':=hC H V q q)
  (fun i hi=>by
   have s1:=QpV (F:=F) 0 n (l.map Qa) bb ab w p (hC H V q i) nb pb u top H.length (H.length+1) (H.length+3) q i (by omega)
   have s2:=QhT (F:=F) 0 n (l.map Qa) bb ab w p (hC H V q i) nb pb u top H.length (H.length+1) (H.length+3) q i
   have s4:=QpY (F:=F) 0 n (l.map Qa) bb ab w p (hC H V q (i+1)) nb pb u top H.length (H.length+1) (H.length+3) q i (y17:=.i (i:Int))
   rw [show qA.wrap ((i:Int)+1)=((i+1:Nat):Int) by rw [Q7 (by omega) (by omega)];omega] at s4
   have mk:=Yc (P:=Tp) (H:=hC H V q i) (t:=24) (e:=3) (k:=1) (bt:=8) (zv:=.int .i64 0) (n:=(q:Int)) u24 (by kernel_rfl) (by simp [cellsOf,Qo]) (by simp [cellsOf]) (by omega) (by omega) (by simp only [W6];omega)
   rw [qD,D1] at mk
   have erep:Blk.arr 1 (qB q (HV.int .i64 0)) true 0=zR q:=by simp [zR,bI,Qb]
   rw [erep] at mk
   have gx:(hC H V q i)[H.length+3]?=some (.arr 1 [slR (H.length+2) q] true (H.length+5)):=GW H V q i (j:=3) (by omega)
   have gz:(hC H V q i)[H.length+1]?=some (b1 (q:Int)):=GW H V q i (j:=1) (by omega)
   have gm:(hC H V q i)[H.length+2]?=some (.arr 1 (Zs H.length q i) true (rmx H.length i)):=GW H V q i (j:=2) (by omega)
   have lx:QK Tp (hC H V q i) 57 (.ptr (H.length+3) 0 0 1)=some (slR (H.length+2) q):=WD (b:=H.length+3) gx rfl rfl rfl a57 i57
   have lx':QK Tp (hC H V q i++[zR q]) 57 (.ptr (H.length+3) 0 0 1)=some (slR (H.length+2) q):=WD (b:=H.length+3) (WJ gx) rfl rfl rfl a57 i57
   have old:(Zs H.length q i)[i]?=some (.imm .lit 0 []):=by simp [Zs,hi]
   have st:=YQ (i:=i) (b:=H.length+5+i) (N:=q) (WJ (X:=[zR q]) gm) (Xg ..).symm old rfl (by intro cs h;cases h)
   have emx:max (rmx H.length i) (H.length+5+i+1)=rmx H.length (i+1):=by
    unfold rmx
    split <;> (rw [if_neg (by omega)];omega)
   rw [Qdi,emx] at st
   have eH:(hC H V q i++[zR q]).set (H.length+2) (.arr 1 (Zs H.length q (i+1)) true (rmx H.length (i+1)))=hC H V q (i+1):=by
    rw [hC,hC,qE,qE,qX _ _ (by omega),show H.length+2-H.length=2 by omega,List.replicate_succ',qE]
    rfl
   rw [eH] at st
   have s3:=QpX (F:=F) 0 n (l.map Qa) bb ab w p (hC H V q i) nb pb u top H.length (H.length+1) (H.length+3) q i (H.length+2) (H.length+5+i) lx (ld1 gz) mk (XS hi) st (Yy lx lx' (by simp [same]) (sI i) (V9 (sI i) (WX _)))
   exact sq (s1) (sq (s2) (sq (s3) (s4) (c:=sn 7655379 B65)) (c:=sn 3827689 B65)) (c:=sn 1913844 B65)) (fun i _=>by kernel_rfl) (fun i _=>Qbf (by
    have:rmx H.length (i+1)≤mxs (hC H V q (i+1)):=by
     rw [hC,WI,WI]
     have:rmx H.length (i+1)≤mxs [bMI V,b1 (q:Int),.arr 1 (Zs H.length q (i+1)) true (rmx H.length (i+1)),.arr 1 [slR (H.length+2) q] true (H.length+5),.arr 1 [] true 0]:=mxs_all.1 (qC _) (.arr 1 (Zs H.length q (i+1)) true (rmx H.length (i+1))) (by simp)
     omega
    rw [D1]
    rw [rmx,if_neg (by omega)] at this
    omega)) (by
   have s1:=QpW (F:=F) 0 n (l.map Qa) bb ab w p (hC H V q q) nb pb u top H.length (H.length+1) (H.length+3) q q (by omega)
   have s2:=QhU (F:=F) 0 n (l.map Qa) bb ab w p (hC H V q q) nb pb u top H.length (H.length+1) (H.length+3) q q
   exact sq (s1) (sqo (s2) (c:=sn 3827689 B65) (b:=sn 7655379 B65)) (c:=sn 1913844 B65)) (by simp) (by kernel_rfl) (fun i _=>by kernel_rfl)
 exact h
end
def adS (p:Int) (V g1:List Int) (w:Int) (M:List (List Int)) (s:St):List (List Int) :=
 if g1.getD s.1.toNat 0∈V∧s.2.2=w∧Wy V (g1.getD s.1.toNat 0)≠Wy V (g1.getD s.2.1.toNat 0) then
  adM p (V.length-1) (Wy V (g1.getD s.2.1.toNat 0)) (Wy V (g1.getD s.1.toNat 0)) (-1) (adM p (V.length-1) (Wy V (g1.getD s.1.toNat 0)) (Wy V (g1.getD s.2.1.toNat 0)) (-1)
   (adM p (V.length-1) (Wy V (g1.getD s.2.1.toNat 0)) (Wy V (g1.getD s.2.1.toNat 0)) 1 (adM p (V.length-1) (Wy V (g1.getD s.1.toNat 0)) (Wy V (g1.getD s.1.toNat 0)) 1 M)))
 else M
def zM (N:Nat):List (List Int):=qB N (qB N 0)
def mxT (p:Int) (V g1:List Int) (w:Int) (l:List St):List (List Int):=l.foldl (adS p V g1 w) (zM (V.length-1))
theorem Qrb {p:Int} (hp:0<p) {V g1:List Int} {w:Int} {M:List (List Int)} (h:WN p (V.length-1) M) (s:St):WN p (V.length-1) (adS p V g1 w M s):=by
 unfold adS
 split
 ·exact Kv hp (Kv hp (Kv hp (Kv hp h _ _ _) _ _ _) _ _ _) _ _ _
 ·exact h
theorem Qcm {p:Int} (hp:0<p) (N:Nat):WN p N (zM N):=⟨by simp [zM],fun r hr=>by
 rw [jY hr]
 exact ⟨by simp,fun j hj=>by rw [show (qB N (0:Int)).getD j 0=0 by simp [qT,hj]];omega⟩⟩
theorem D2 {p:Int} (hp:0<p) {V g1:List Int} {w:Int}:∀(l:List St) {M:List (List Int)},WN p (V.length-1) M→WN p (V.length-1) (l.foldl (adS p V g1 w) M)
 | [],_,h=>h
 | s::l,_,h=>D2 hp l (Qrb hp h s)
section
variable {F:FuncId→Option (List HV→Option HV)} {n:Int} {l:List St} {bb ab nb pb:Nat} {w p:Int} {H:Heap} {us1 g1:List Int}
theorem Qin (h55:F 55=none) (h86:F 86=none) (hp:1<p∧p≤2147483647) (hl:l.length≤1000) (he:ZY l=true) (hb1:H[bb]?=some (bU us1)) (hU1:Up us1 g1) (hpb:H[pb]?=some (b1 p)) (hnb:nb<H.length) (hab:ab<H.length)
  (u:Int) (top:Nat) {V:List Int} {q:Nat} (hq:q=V.length-1) {HH:Heap} (hHH:HH=hC H V q q) (hM:Mat HH (H.length+2) q (fun k=>H.length+5+k) (zM q)) :
  ∃H',RT (plF F) 65 (sn 3827706 B65) ((QY (Qv n l) (.q bb) (.q ab) (.i w) (.i p) (.q nb) (.q pb) (.i 0) (.i (u)) Ud (.map H.length) Ud Ud (.q (H.length+3)) Ud (.func 86 [] [.q (H.length+1),.q (H.length+3),.q pb]) Ud Ud Ud Ud (.i n) (.i (top:Int)) Ud Ud Ud Ud (.g (l.map Qa)) (.i ((l.length:Nat):Int)) (.i (0:Int)))) HH (.exit 6) ((QY (Qv n l) (.q bb) (.q ab) (.i w) (.i p) (.q nb) (.q pb) (.i 0) (.i (u)) Ud (.map H.length) Ud Ud (.q (H.length+3)) Ud (.func 86 [] [.q (H.length+1),.q (H.length+3),.q pb]) Ud Ud Ud Ud (.i n) (.i (top:Int)) Ud Ud Ud Ud (.g (l.map Qa)) (.i ((l.length:Nat):Int)) (.i ((l.length:Nat):Int)))) H'∧Mat H' (H.length+2) q (fun k=>H.length+5+k) (mxT p V g1 w l)∧Fx HH H' (rowS (fun k=>H.length+5+k) q):=by
 have hp0:0<p:=by omega
 have hok:∀k,WN p q ((l.take k).foldl (adS p V g1 w) (zM q)):=fun k=>by rw [hq];exact D2 hp0 _ (Qcm hp0 _)
 have hlenHH:HH.length=H.length+5+q:=by rw [hHH];exact D1 ..
 have hbl:∀{b:Nat},b<H.length+5→¬rowS (fun k=>H.length+5+k) q b:=fun hb ⟨k,_,e⟩=>by
  have e:_=H.length+5+k:=e
  omega
 have hpre:∀{b:Nat} {B:Blk},H[b]?=some B→HH[b]?=some B:=fun h=>by rw [hHH,hC,qE];exact WJ h
 obtain ⟨x,E',H',r,hx,hE,h1,h2⟩:=Kq (pol':=plF F) (f:=65) (b:=sn 7655412 B65) (c:=sn 3827706 B65)
  (I:=fun k e H'=>e=(QY (Qv n l) (.q bb) (.q ab) (.i w) (.i p) (.q nb) (.q pb) (.i 0) (.i (u)) Ud (.map H.length) Ud Ud (.q (H.length+3)) Ud (.func 86 [] [.q (H.length+1),.q (H.length+3),.q pb]) Ud Ud Ud Ud (.i n) (.i (top:Int)) Ud Ud Ud Ud (.g (l.map Qa)) (.i ((l.length:Nat):Int)) (.i (k:Int)))∧Mat H' (H.length+2) q (fun k=>H.length+5+k) ((l.take k).foldl (adS p V g1 w) (zM q))∧Fx HH H' (rowS (fun k=>H.length+5+k) q))
  (Q:=fun x E' H'=>x=.exit 6∧E'=(QY (Qv n l) (.q bb) (.q ab) (.i w) (.i p) (.q nb) (.q pb) (.i 0) (.i (u)) Ud (.map H.length) Ud Ud (.q (H.length+3)) Ud (.func 86 [] [.q (H.length+1),.q (H.length+3),.q pb]) Ud Ud Ud Ud (.i n) (.i (top:Int)) Ud Ud Ud Ud (.g (l.map Qa)) (.i ((l.length:Nat):Int)) (.i ((l.length:Nat):Int)))∧Mat H' (H.length+2) q (fun k=>H.length+5+k) (mxT p V g1 w l)∧Fx HH H' (rowS (fun k=>H.length+5+k) q)) l.length
  (by
   rintro k hk e H' ⟨rfl,hM',hF⟩
   have hok':=hok k
   have hsucc:(l.take (k+1)).foldl (adS p V g1 w) (zM q)=adS p V g1 w ((l.take k).foldl (adS p V g1 w) (zM q)) (l.getD k (0,0,0)):=by
    rw [zT hk,jH,qT,zE hk];rfl
   have hend:=endB_iff.1 he _ (Qu (0,0,0) hk)
   rw [hsucc]
   generalize (l.take k).foldl (adS p V g1 w) (zM q)=M0 at *
   have hgs:=gs hk
   generalize hs:l.getD k (0,0,0)=s at *
   obtain ⟨a2,b2,w2⟩:=s
   simp only at hend
   obtain ⟨ea,eb⟩:=hend
   have hHB:∀{b:Nat} {B:Blk},H[b]?=some B→H'[b]?=some B:=fun h=>by
    have hb:=VT h
    rw [hF.eq _ (hbl (by omega))];exact hpre h
   have hCat:∀{j:Nat} (hj:j<5),H'[H.length+j]?=[bMI V,b1 (q:Int),.arr 1 (Zs H.length q q) true (rmx H.length q),.arr 1 [slR (H.length+2) q] true (H.length+5),.arr 1 [] true 0][j]?:=fun hj=>by
    rw [hF.eq _ (hbl (by omega)),hHH];exact GW H V q q hj
   have kB:H'[H.length]?=some (bMI V):=hCat (j:=0) (by omega)
   have zB:H'[H.length+1]?=some (b1 (q:Int)):=hCat (j:=1) (by omega)
   have xB:H'[H.length+3]?=some (.arr 1 [slR (H.length+2) q] true (H.length+5)):=hCat (j:=3) (by omega)
   have pB:=hHB hpb
   have bB1:=hHB hb1
   have s1:=Qp1 (F:=F) 0 n (l.map Qa) bb ab w p H' nb pb u top H.length (H.length+1) (H.length+3) l.length k (by omega)
   have s2:=QhV (F:=F) 0 n (l.map Qa) bb ab w p H' nb pb u top H.length (H.length+1) (H.length+3) l.length k
   have hT:=QiQ H' (bT (a2,b2,w2))
   have l0:=ldT hT 0 a2 rfl
   have l1:=ldT hT 1 b2 rfl
   have l2:=ldT hT 2 w2 rfl
   obtain ⟨N1,c1⟩:=CallsTo.from (Kh (F:=F) h55 (WJ (X:=[bT (a2,b2,w2)]) bB1) hU1 (v:=a2) ea.1 ea.2)
   obtain ⟨N2,c2⟩:=CallsTo.from (Kh (F:=F) h55 (WJ (X:=[bT (a2,b2,w2)]) bB1) hU1 (v:=b2) eb.1 eb.2)
   have m1:=(Qck (WJ (X:=[bT (a2,b2,w2)]) kB) (g1.getD a2.toNat 0)).1
   have m2:=(Qck (WJ (X:=[bT (a2,b2,w2)]) kB) (g1.getD b2.toNat 0)).2
   have hRl:∀{G:Heap},G.length=H'.length→∀i,i<q→(fun k=>H.length+5+k) i<G.length:=fun hG i hi=>by
    rw [hG,hF.ln,hlenHH];show H.length+5+i<_;omega
   have fin:∀{H4:Heap} {E0:Env} {X0:HV} {i0:Int} {ok:Bool} {j0:Int},Mat H4 (H.length+2) q (fun k=>H.length+5+k) (adS p V g1 w M0 (a2,b2,w2))→Fx H' H4 (rowS (fun k=>H.length+5+k) q) →
     RT (plF F) 65 (sn 61243302 B65) ((QY (Qv n l) (.q bb) (.q ab) (.i w) (.i p) (.q nb) (.q pb) (.i 0) (.i (u)) Ud (.map H.length) Ud Ud (.q (H.length+3)) Ud (.func 86 [] [.q (H.length+1),.q (H.length+3),.q pb]) Ud Ud Ud Ud (.i n) (.i (top:Int)) Ud Ud Ud Ud (.g (l.map Qa)) (.i ((l.length:Nat):Int)) (.i (k:Int)))) H' .normal ((QY (Qv n l) (.q bb) (.q ab) (.i w) (.i p) (.q nb) (.q pb) (.i 0) (.i (u)) Ud (.map H.length) Ud Ud (.q (H.length+3)) Ud (.func 86 [] [.q (H.length+1),.q (H.length+3),.q pb]) X0 (.i i0) (.bool ok) (.i j0) (.i n) (.i (top:Int)) Ud Ud Ud Ud (.g (l.map Qa)) (.i ((l.length:Nat):Int)) (.i (k:Int)))) (H4++[bT (a2,b2,w2)]) →
     ∃E0 H1,RT (plF F) 65 (sn 7655412 B65) ((QY (Qv n l) (.q bb) (.q ab) (.i w) (.i p) (.q nb) (.q pb) (.i 0) (.i (u)) Ud (.map H.length) Ud Ud (.q (H.length+3)) Ud (.func 86 [] [.q (H.length+1),.q (H.length+3),.q pb]) Ud Ud Ud Ud (.i n) (.i (top:Int)) Ud Ud Ud Ud (.g (l.map Qa)) (.i ((l.length:Nat):Int)) (.i (k:Int)))) H' .normal E0 H1∧QO (plF F) 65 (sn 7655412 B65) E0=(QY (Qv n l) (.q bb) (.q ab) (.i w) (.i p) (.q nb) (.q pb) (.i 0) (.i (u)) Ud (.map H.length) Ud Ud (.q (H.length+3)) Ud (.func 86 [] [.q (H.length+1),.q (H.length+3),.q pb]) Ud Ud Ud Ud (.i n) (.i (top:Int)) Ud Ud Ud Ud (.g (l.map Qa)) (.i ((l.length:Nat):Int)) (.i ((k+1:Nat):Int)))∧Mat (gc H'.length (WF (QO (plF F) 65 (sn 7655412 B65) E0)) H1) (H.length+2) q (fun k=>H.length+5+k) (adS p V g1 w M0 (a2,b2,w2))∧Fx HH (gc H'.length (WF (QO (plF F) 65 (sn 7655412 B65) E0)) H1) (rowS (fun k=>H.length+5+k) q):=by
    intro H4 E0 X0 i0 ok j0 g1' g2' s3
    have s4:=Qp7 (F:=F) 0 n (l.map Qa) bb ab w p (H4++[bT (a2,b2,w2)]) nb pb u top H.length (H.length+1) (H.length+3) l.length k (y20:=X0) (y21:=.i i0) (y22:=.bool ok) (y23:=.i j0)
    rw [show qA.wrap ((k:Int)+1)=((k+1:Nat):Int) by rw [Q7 (by omega) (by omega)];omega] at s4
    have e1:QO (plF F) 65 (sn 7655412 B65) ((QY (Qv n l) (.q bb) (.q ab) (.i w) (.i p) (.q nb) (.q pb) (.i 0) (.i (u)) Ud (.map H.length) Ud Ud (.q (H.length+3)) Ud (.func 86 [] [.q (H.length+1),.q (H.length+3),.q pb]) X0 (.i i0) (.bool ok) (.i j0) (.i n) (.i (top:Int)) Ud Ud Ud Ud (.g (l.map Qa)) (.i ((l.length:Nat):Int)) (.i ((k+1:Nat):Int))))=(QY (Qv n l) (.q bb) (.q ab) (.i w) (.i p) (.q nb) (.q pb) (.i 0) (.i (u)) Ud (.map H.length) Ud Ud (.q (H.length+3)) Ud (.func 86 [] [.q (H.length+1),.q (H.length+3),.q pb]) Ud Ud Ud Ud (.i n) (.i (top:Int)) Ud Ud Ud Ud (.g (l.map Qa)) (.i ((l.length:Nat):Int)) (.i ((k+1:Nat):Int))):=by kernel_rfl
    have key:∀E1,E1=(QY (Qv n l) (.q bb) (.q ab) (.i w) (.i p) (.q nb) (.q pb) (.i 0) (.i (u)) Ud (.map H.length) Ud Ud (.q (H.length+3)) Ud (.func 86 [] [.q (H.length+1),.q (H.length+3),.q pb]) Ud Ud Ud Ud (.i n) (.i (top:Int)) Ud Ud Ud Ud (.g (l.map Qa)) (.i ((l.length:Nat):Int)) (.i ((k+1:Nat):Int)))→Mat (gc H'.length (WF E1) (H4++[bT (a2,b2,w2)])) (H.length+2) q (fun k=>H.length+5+k) (adS p V g1 w M0 (a2,b2,w2))∧Fx HH (gc H'.length (WF E1) (H4++[bT (a2,b2,w2)])) (rowS (fun k=>H.length+5+k) q):=by
     rintro _ rfl
     have hb:WF ((QY (Qv n l) (.q bb) (.q ab) (.i w) (.i p) (.q nb) (.q pb) (.i 0) (.i (u)) Ud (.map H.length) Ud Ud (.q (H.length+3)) Ud (.func 86 [] [.q (H.length+1),.q (H.length+3),.q pb]) Ud Ud Ud Ud (.i n) (.i (top:Int)) Ud Ud Ud Ud (.g (l.map Qa)) (.i ((l.length:Nat):Int)) (.i ((k+1:Nat):Int))))≤H4.length:=by
      have:=VT hpb
      have:=VT hb1
      rw [g2'.ln,hF.ln,hlenHH]
      simp only [WF,bnd,bndL,Qv]
      omega
     have hm:mxs (H4++[bT (a2,b2,w2)])≤H4.length:=by
      rw [WI]
      have:=g1'.mm.mx
      show max _ (max 0 0)≤_
      omega
     rw [← g2'.ln,K5 hm hb]
     exact ⟨g1',hF.trans g2'⟩
    exact ⟨_,_,sq (s1) (sq (s2) (sq (s3) (s4) (c:=sn 30621651 B65)) (c:=sn 15310825 B65)) (c:=sn 7655412 B65),e1,key _ e1⟩
   by_cases d1:g1.getD a2.toNat 0∈V
   ·rw [decide_eq_true d1] at m1
    by_cases d2:w2=w
    ·by_cases d3:Wy V (g1.getD a2.toNat 0)=Wy V (g1.getD b2.toNat 0)
     ·have s3:=Qp3 (F:=F) (max N1 N2) n (l.map Qa) bb ab w p H' nb pb u top H.length (H.length+1) (H.length+3) l.length k a2 b2 w2 hgs (Dz _) (DA H' (a2,b2,w2)) (Qc3 _) l0 (fun kf hk=>c1 kf (by omega)) m1 (Qc4 _) l1 (fun kf hk=>c2 kf (by omega)) m2 (QnB _) l2 d2 (by rw [d3])
      have ea:adS p V g1 w M0 (a2,b2,w2)=M0:=if_neg fun h=>h.2.2 d3
      rw [ea] at fin ⊢
      exact fin (E0:=[]) hM' (Fx.refl ..) s3
     ·have h0:Mat (H'++[bT (a2,b2,w2)]) (H.length+2) q (fun k=>H.length+5+k) M0:=by
       obtain ⟨mx,y1,y2⟩:=hM'.blk
       exact ⟨hM'.ml,hM'.rl,hM'.ne,hM'.inj,⟨mx,by rw [qG];omega,WJ y2⟩,fun i hi=>WJ (hM'.row i hi),hM'.mm.app (by show max 0 0≤_;omega) (by have h:=Uq (a2,b2,w2);simp only [Qm,sameL,h,beq_self_eq_true,qS])⟩
      have hbl2:∀{G G':Heap} {b:Nat} {B:Blk},Fx G G' (rowS (fun k=>H.length+5+k) q)→b<H.length+5→G[b]?=some B→G'[b]?=some B:=fun hf hb h=>by rw [hf.eq _ (hbl hb)];exact h
      have pl:=VT hpb
      have z0:=WJ (X:=[bT (a2,b2,w2)]) zB
      have x0:=WJ (X:=[bT (a2,b2,w2)]) xB
      have p0:=WJ (X:=[bT (a2,b2,w2)]) pB
      generalize hi:Wy V (g1.getD a2.toNat 0)=i at *
      generalize hj:Wy V (g1.getD b2.toNat 0)=j at *
      have k1:=UE (F:=F) h86 hp h0 hok' z0 x0 p0 i i (d:=1) (.inl rfl)
      have f1:=Je p q (fun k=>H.length+5+k) M0 i i 1 (H'++[bT (a2,b2,w2)])
      have h1:=h0.ad (p:=p) i i 1
      have o1:=Kv hp0 hok' i i 1
      have k2:=UE (F:=F) h86 hp h1 o1 (hbl2 f1 (by omega) z0) (hbl2 f1 (by omega) x0) (hbl2 f1 (by omega) p0) j j (d:=1) (.inl rfl)
      have f2:=f1.trans (Je p q (fun k=>H.length+5+k) (adM p q i i 1 M0) j j 1 _)
      have h2:=h1.ad (p:=p) j j 1
      have o2:=Kv hp0 o1 j j 1
      have k3:=UE (F:=F) h86 hp h2 o2 (hbl2 f2 (by omega) z0) (hbl2 f2 (by omega) x0) (hbl2 f2 (by omega) p0) i j (d:=-1) (.inr rfl)
      have f3:=f2.trans (Je p q (fun k=>H.length+5+k) (adM p q j j 1 (adM p q i i 1 M0)) i j (-1) _)
      have h3:=h2.ad (p:=p) i j (-1)
      have o3:=Kv hp0 o2 i j (-1)
      have k4:=UE (F:=F) h86 hp h3 o3 (hbl2 f3 (by omega) z0) (hbl2 f3 (by omega) x0) (hbl2 f3 (by omega) p0) j i (d:=-1) (.inr rfl)
      have e1:=UD (p:=p) (M:=M0) (i:=i) (j:=i) (d:=1) (X:=[bT (a2,b2,w2)]) (hRl (G:=H') rfl)
      have n1:=(Je p q (fun k=>H.length+5+k) M0 i i 1 H').ln
      rw [e1] at k1 k2 k3 k4
      have e2:=UD (p:=p) (M:=adM p q i i 1 M0) (i:=j) (j:=j) (d:=1) (X:=[bT (a2,b2,w2)]) (hRl n1)
      have n2:=((Je p q (fun k=>H.length+5+k) M0 i i 1 H').trans (Je p q (fun k=>H.length+5+k) (adM p q i i 1 M0) j j 1 _)).ln
      rw [e2] at k2 k3 k4
      have e3:=UD (p:=p) (M:=adM p q j j 1 (adM p q i i 1 M0)) (i:=i) (j:=j) (d:=-1) (X:=[bT (a2,b2,w2)]) (hRl n2)
      have n3:=(((Je p q (fun k=>H.length+5+k) M0 i i 1 H').trans (Je p q (fun k=>H.length+5+k) (adM p q i i 1 M0) j j 1 _)).trans (Je p q (fun k=>H.length+5+k) (adM p q j j 1 (adM p q i i 1 M0)) i j (-1) _)).ln
      rw [e3] at k3 k4
      have e4:=UD (p:=p) (M:=adM p q i j (-1) (adM p q j j 1 (adM p q i i 1 M0))) (i:=j) (j:=i) (d:=-1) (X:=[bT (a2,b2,w2)]) (hRl n3)
      rw [e4] at k4
      obtain ⟨M1,k1⟩:=CallsTo.from k1
      obtain ⟨M2,k2⟩:=CallsTo.from k2
      obtain ⟨M3,k3⟩:=CallsTo.from k3
      obtain ⟨M4,k4⟩:=CallsTo.from k4
      have s3:=Qp4 (F:=F) (max (max N1 N2) (max (max M1 M2) (max M3 M4))) n (l.map Qa) bb ab w p H' nb pb u top H.length (H.length+1) (H.length+3) l.length k a2 b2 w2 hgs (Dz _) (DA H' (a2,b2,w2)) (Qc3 _) l0 (fun kf hk=>c1 kf (by omega)) m1 (Qc4 _) l1 (fun kf hk=>c2 kf (by omega)) m2 (QnB _) l2 d2 (by omega) (fun kf hk=>k1 kf (by omega)) (fun kf hk=>k2 kf (by omega)) (fun kf hk=>k3 kf (by omega)) (fun kf hk=>k4 kf (by omega))
      have ea:adS p V g1 w M0 (a2,b2,w2)=adM p q j i (-1) (adM p q i j (-1) (adM p q j j 1 (adM p q i i 1 M0))):=by
       unfold adS
       rw [if_pos ⟨d1,d2,by show Wy V (g1.getD a2.toNat 0)≠Wy V (g1.getD b2.toNat 0);rw [hi,hj];exact d3⟩,← hq]
       show adM p q (Wy V (g1.getD b2.toNat 0)) (Wy V (g1.getD a2.toNat 0)) (-1) (adM p q (Wy V (g1.getD a2.toNat 0)) (Wy V (g1.getD b2.toNat 0)) (-1) (adM p q (Wy V (g1.getD b2.toNat 0)) (Wy V (g1.getD b2.toNat 0)) 1 (adM p q (Wy V (g1.getD a2.toNat 0)) (Wy V (g1.getD a2.toNat 0)) 1 M0)))=_
       rw [hi,hj]
      rw [ea] at fin ⊢
      exact fin (E0:=[]) ((((hM'.ad (p:=p) i i 1).ad (p:=p) j j 1).ad (p:=p) i j (-1)).ad (p:=p) j i (-1)) ((((Je ..).trans (Je ..)).trans (Je ..)).trans (Je ..)) s3
    ·have s3:=Qp5 (F:=F) (max N1 N2) n (l.map Qa) bb ab w p H' nb pb u top H.length (H.length+1) (H.length+3) l.length k a2 b2 w2 hgs (Dz _) (DA H' (a2,b2,w2)) (Qc3 _) l0 (fun kf hk=>c1 kf (by omega)) m1 (Qc4 _) l1 (fun kf hk=>c2 kf (by omega)) m2 (QnB _) l2 d2
     have ea:adS p V g1 w M0 (a2,b2,w2)=M0:=if_neg fun h=>d2 h.2.1
     rw [ea] at fin ⊢
     exact fin (E0:=[]) hM' (Fx.refl ..) s3
   ·rw [decide_eq_false d1,Qcj d1] at m1
    have s3:=Qp6 (F:=F) (max N1 N2) n (l.map Qa) bb ab w p H' nb pb u top H.length (H.length+1) (H.length+3) l.length k a2 b2 w2 hgs (Dz _) (DA H' (a2,b2,w2)) (Qc3 _) l0 (fun kf hk=>c1 kf (by omega)) m1 (Qc4 _) l1 (fun kf hk=>c2 kf (by omega)) m2
    have ea:adS p V g1 w M0 (a2,b2,w2)=M0:=if_neg fun h=>d1 h.1
    rw [ea] at fin ⊢
    exact fin (E0:=[]) hM' (Fx.refl ..) s3)
  (by
   rintro e H' ⟨rfl,hM',hF⟩
   rw [qN] at hM'
   have s1:=Qp2 (F:=F) 0 n (l.map Qa) bb ab w p H' nb pb u top H.length (H.length+1) (H.length+3) l.length l.length (by omega)
   have s2:=QhW (F:=F) 0 n (l.map Qa) bb ab w p H' nb pb u top H.length (H.length+1) (H.length+3) l.length l.length
   exact ⟨_,_,_,sq (s1) (sqo (s2) (c:=sn 15310825 B65) (b:=sn 30621651 B65)) (c:=sn 7655412 B65),by simp,rfl,rfl,by rw [mxT,← hq];exact hM',hF⟩)
  (by kernel_rfl) (by rintro k e H' ⟨rfl,_⟩;kernel_rfl) (e:=(QY (Qv n l) (.q bb) (.q ab) (.i w) (.i p) (.q nb) (.q pb) (.i 0) (.i (u)) Ud (.map H.length) Ud Ud (.q (H.length+3)) Ud (.func 86 [] [.q (H.length+1),.q (H.length+3),.q pb]) Ud Ud Ud Ud (.i n) (.i (top:Int)) Ud Ud Ud Ud (.g (l.map Qa)) (.i ((l.length:Nat):Int)) (.i (0:Int)))) (H:=HH) ⟨rfl,hM,Fx.refl ..⟩
 subst hx hE
 exact ⟨H',r,h1,h2⟩
end
def spK (p:Int) (g1 g2:List Int) (w:Int) (l:List St) (n:Nat):Nat→Int
 | 0=>1
 | k+1=>if (vtG g1 g2 n (k:Int)).length<2 then spK p g1 g2 w l n k else
   spK p g1 g2 w l n k*gz p (VV p) ((vtG g1 g2 n (k:Int)).length-1) ((vtG g1 g2 n (k:Int)).length-1) 0 1 (mxT p (vtG g1 g2 n (k:Int)) g1 w l)%p
theorem CT {p:Int} (hp:1<p) (g1 g2:List Int) (w:Int) (l:List St) (n:Nat):∀k,0≤spK p g1 g2 w l n k∧spK p g1 g2 w l n k<p
 | 0=>by rw [spK];omega
 | k+1=>by
  rw [spK]
  split
  ·exact CT hp g1 g2 w l n k
  ·exact ⟨qK _ (by omega),qL _ (by omega)⟩
section
variable {F:FuncId→Option (List HV→Option HV)} {n:Int} {l:List St} {bb ab nb pb:Nat} {w p:Int} {H:Heap} {us1 g1 us2 g2:List Int}
theorem D3 (V:List Int):Qm [bMI V] [bMI V]=true:=by
 simp only [bMI,Qm,WU VF,WU (f:=fun (i:Nat)=>HV.int .i64 (i:Int)) (fun i=>by simp [same]),beq_self_eq_true,qS]
theorem Ok.hC (h:Ok H) (V:List Int) (q:Nat):Ok (hC H V q 0):=by
 rw [Go.Proofs.Ytiejmoglooaalaa.hC,zD,qI]
 refine h.app ?_ (QG (D3 V) (QG (WX [(q:Int)]) (QG ?_ (QG ?_ rfl))))
 ·show max 0 (max 0 (max (rmx H.length 0) (max (H.length+5) (max 0 0))))≤H.length+5
  rw [rmx,if_pos rfl];omega
 ·simp only [Qm,Zs,WU (f:=fun k=>if k<0 then slR (H.length+5+k) q else .imm .lit 0 []) (fun k=>by split <;> simp [same,sameL]),beq_self_eq_true,qS]
 ·simp [Qm,sameL,same]
theorem Mat.hC (h:Ok H) (V:List Int) (q:Nat):Mat (hC H V q q) (H.length+2) q (fun k=>H.length+5+k) (zM q):=by
 have ho:Ok (Go.Proofs.Ytiejmoglooaalaa.hC H V q q):=by
  have e:Go.Proofs.Ytiejmoglooaalaa.hC H V q q=H++([bMI V,b1 (q:Int),.arr 1 (Zs H.length q q) true (rmx H.length q),.arr 1 [slR (H.length+2) q] true (H.length+5),.arr 1 [] true 0]++qB q (zR q)):=by rw [Go.Proofs.Ytiejmoglooaalaa.hC,qE]
  rw [e]
  refine h.app ?_ (V9 (QG (D3 V) (QG (WX [(q:Int)]) (QG ?_ (QG ?_ rfl)))) (sameH_all.2 fun B hB=>by rw [jY hB];exact WX _))
  ·rw [WI]
   have:mxs (qB q (zR q))≤0:=mxs_all.2 fun B hB=>by rw [jY hB];exact qC 0
   show max (max 0 (max 0 (max (rmx H.length q) (max (H.length+5) (max 0 0))))) _≤_
   simp only [qG,qJ,jJ,jI]
   rw [rmx]
   split <;> omega
  ·rw [GV];exact Qce _ _ _
  ·simp [Qm,sameL,same]
 have hz:∀i,i<q→(zM q).getD i []=qB q 0:=fun i hi=>by simp [zM,qT,hi]
 refine ⟨by simp [zM],fun i hi=>by rw [hz i hi];simp,fun i _=>by show H.length+5+i≠_;omega,fun i j _ _ e=>by have e:H.length+5+i=H.length+5+j:=e;omega,⟨rmx H.length q,?_,?_⟩,fun i hi=>?_,ho⟩
 ·rw [D1,rmx];split <;> omega
 ·have:=GW H V q q (j:=2) (by omega)
  rw [this,GV];rfl
 ·rw [hz i hi]
  show (Go.Proofs.Ytiejmoglooaalaa.hC H V q q)[H.length+5+i]?=_
  rw [Go.Proofs.Ytiejmoglooaalaa.hC,qP (by simp only [qG,qJ,jJ];omega)]
  simp only [qG,qJ,jJ]
  rw [show H.length+5+i-(H.length+(0+1+1+1+1+1))=i by omega,List.getElem?_replicate,if_pos hi]
theorem QfX (h55:F 55=none) (h86:F 86=none) (h87:F 87=none) (h45:F 45=some Qab) (hp:1<p∧p≤2147483647) (hn:0≤n∧n≤16) (hl:l.length≤1000) (he:ZY l=true)
  (hb1:H[bb]?=some (bU us1)) (hU1:Up us1 g1) (hb2:H[ab]?=some (bU us2)) (hU2:Up us2 g2) (hnb:H[nb]?=some (bN n l)) (hpb:H[pb]?=some (b1 p)) (hok:Ok H) {top:Nat} (ht:(top:Int)<n) :
  ∃E0 H1,RT (plF F) 65 (sn 116 B65) ((QY (Qv n l) (.q bb) (.q ab) (.i w) (.i p) (.q nb) (.q pb) (.i 0) (.i (spK p g1 g2 w l n.toNat top)) Ud Ud Ud Ud Ud Ud Ud Ud Ud Ud Ud (.i n) (.i (top:Int)) Ud Ud Ud Ud Ud Ud Ud)) H .normal E0 H1∧QO (plF F) 65 (sn 116 B65) E0=(QY (Qv n l) (.q bb) (.q ab) (.i w) (.i p) (.q nb) (.q pb) (.i 0) (.i (spK p g1 g2 w l n.toNat (top+1))) Ud Ud Ud Ud Ud Ud Ud Ud Ud Ud Ud (.i n) (.i ((top+1:Nat):Int)) Ud Ud Ud Ud Ud Ud Ud)∧Pre H H1∧Ok H1:=by
 have hsp:=CT hp.1 g1 g2 w l n.toNat top
 have hV:=Qij g1 g2 n.toNat (top:Int)
 have hdef:spK p g1 g2 w l n.toNat (top+1)=if (vtG g1 g2 n.toNat (top:Int)).length<2 then spK p g1 g2 w l n.toNat top else
   spK p g1 g2 w l n.toNat top*gz p (VV p) ((vtG g1 g2 n.toNat (top:Int)).length-1) ((vtG g1 g2 n.toNat (top:Int)).length-1) 0 1 (mxT p (vtG g1 g2 n.toNat (top:Int)) g1 w l)%p:=rfl
 rw [hdef]
 generalize spK p g1 g2 w l n.toNat top=u at *
 have s1:=QpF (F:=F) 0 n (l.map Qa) bb ab w p H nb pb u top ht
 have s2:=QhP (F:=F) 0 n (l.map Qa) bb ab w p H nb pb u top
 have s3:=QpH (F:=F) 0 n (l.map Qa) bb ab w p H nb pb u top
 have s4:=QpI (F:=F) 0 n (l.map Qa) bb ab w p H nb pb u top H.length (H0:=H++[bMI []]) rfl
 have s5:=QpJ (F:=F) 0 n (l.map Qa) bb ab w p (H++[bMI []]) nb pb u top H.length (Yg (WJ hnb))
 have s6:=Qra (F:=F) (w:=w) (p:=p) (nb:=nb) (pb:=pb) (l:=l) h55 hn hb1 hU1 hb2 hU2 u top
 generalize hVd:vtG g1 g2 n.toNat (top:Int)=V at *
 have hkb:(H++[bMI V])[H.length]?=some (bMI V):=by simp
 have hwr:qA.wrap ((V.length:Int)-1)=(V.length:Int)-1:=Qr (by omega) (by omega)
 have al:some (Q4 (.int .i64 0) (H++[bMI V]))=some (.ptr (H.length+1) 0 0 1,H++[bMI V,b1 0]):=by
  have:(H++[bMI V]).length=H.length+1:=by simp
  simp only [Q4,this,qE];rfl
 have st:=ZI (H:=H++[bMI V,b1 0]) (k:=H.length+1) (o:=[0]) (by simp;rfl) (y:=0) (by decide) ((V.length:Int)-1)
 have est:(H++[bMI V,b1 0]).set (H.length+1) (bI ([(0:Int)].set 0 ((V.length:Int)-1)))=H++[bMI V,b1 ((V.length:Int)-1)]:=by
  rw [qX _ _ (by omega),show H.length+1-H.length=1 by omega];rfl
 rw [est] at st
 have s7:=QpQ (F:=F) 0 n (l.map Qa) bb ab w p (H++[bMI V]) nb pb u top H.length (H.length+1) 0 (n0:=(V.length:Int)) (H0:=H++[bMI V,b1 0]) (H1:=H++[bMI V,b1 ((V.length:Int)-1)]) (y31:=.i n) (y32:=.i (n.toNat:Int)) (Qcl hkb) al (by rw [hwr];exact st)
 have hzb:(H++[bMI V,b1 ((V.length:Int)-1)])[H.length+1]?=some (b1 ((V.length:Int)-1)):=by
  rw [qP (by omega),show H.length+1-H.length=1 by omega];rfl
 have wr2:qA.wrap ((top:Int)+1)=((top+1:Nat):Int):=by rw [Q7 (by omega) (by omega)];omega
 by_cases c:V.length<2
 ·rw [if_pos c]
  have s8:=QpR (F:=F) 0 n (l.map Qa) bb ab w p (H++[bMI V,b1 ((V.length:Int)-1)]) nb pb u top H.length (H.length+1) ((V.length:Int)-1) (y31:=.i n) (y32:=.i (n.toNat:Int)) (ld1 hzb) (by omega)
  have s9:=QfG (F:=F) 0 n (l.map Qa) bb ab w p (H++[bMI V,b1 ((V.length:Int)-1)]) nb pb u top (y12:=.i (top:Int)) (y13:=.map H.length) (y15:=.q (H.length+1)) (y31:=.i n) (y32:=.i (n.toNat:Int))
  rw [wr2] at s9
  exact ⟨_,_,sq (s1) (sq (s2) (sq (bke (c:=sn 934 B65) (sq (s3) (sq (s4) (sq (sq (s5) (bke (c:=sn 29901 B65) (s6)) (c:=sn 14950 B65)) (sq (s7) (sqo (s8) (c:=sn 29903 B65) (b:=sn 59807 B65)) (c:=sn 14951 B65)) (c:=sn 7475 B65)) (c:=sn 3737 B65)) (c:=sn 1868 B65))) (s9) (c:=sn 467 B65)) (c:=sn 233 B65)) (c:=sn 116 B65),by kernel_rfl,Pre.app ..,hok.app (by show max 0 (max 0 0)≤_;omega) (QG (D3 V) (WX [_]))⟩
 rw [if_neg c]
 obtain ⟨q,hq⟩:∃q:Nat,q=V.length-1:=⟨_,rfl⟩
 have eq:(V.length:Int)-1=(q:Int):=by omega
 rw [eq] at s7 hzb
 have s8:=QpS (F:=F) 0 n (l.map Qa) bb ab w p (H++[bMI V,b1 (q:Int)]) nb pb u top H.length (H.length+1) (q:Int) (y31:=.i n) (y32:=.i (n.toNat:Int)) (ld1 hzb) (by omega)
 have mk:=Yc (P:=Tp) (H:=H++[bMI V,b1 (q:Int)]) (t:=57) (e:=24) (k:=1) (bt:=24) (zv:=.imm .lit 0 []) (n:=(q:Int)) u57 (by kernel_rfl) (by simp [cellsOf,Qo]) (by simp [cellsOf]) (by omega) (by omega) (by simp only [W6];omega)
 rw [qD] at mk
 have len2:(H++[bMI V,b1 (q:Int)]).length=H.length+2:=by simp
 rw [len2] at mk
 have s9:RT (plF F) 65 (sn 119614 B65) ((QY (Qv n l) (.q bb) (.q ab) (.i w) (.i p) (.q nb) (.q pb) (.i 0) (.i (u)) (.i (top:Int)) (.map H.length) Ud (.q (H.length+1)) Ud Ud Ud Ud Ud Ud Ud (.i n) (.i (top:Int)) (.i n) (.i ((n.toNat:Nat):Int)) Ud Ud Ud Ud Ud)) (H++[bMI V,b1 (q:Int)]) .normal ((QY (Qv n l) (.q bb) (.q ab) (.i w) (.i p) (.q nb) (.q pb) (.i 0) (.i (u)) (.i (top:Int)) (.map H.length) Ud (.q (H.length+1)) (.q (H.length+3)) Ud Ud Ud Ud Ud Ud (.i n) (.i (top:Int)) (.i n) (.i ((n.toNat:Nat):Int)) Ud Ud Ud Ud Ud)) (hC H V q 0):=by
  have al2:some (HV.ptr (H++[bMI V,b1 (q:Int)]++[Blk.arr 1 (qB q (.imm .lit 0 [])) true 0]).length 0 0 1,H++[bMI V,b1 (q:Int)]++[Blk.arr 1 (qB q (.imm .lit 0 [])) true 0]++[Blk.arr 1 [HV.sl ((H++[bMI V,b1 (q:Int)]++[Blk.arr 1 (qB q (.imm .lit 0 [])) true 0]).length+1) 0 0 none 0 1] true ((H++[bMI V,b1 (q:Int)]++[Blk.arr 1 (qB q (.imm .lit 0 [])) true 0]).length+2),Blk.arr 1 [] true 0])
    = some (HV.ptr (H.length+3) 0 0 1,H++[bMI V,b1 (q:Int),Blk.arr 1 (qB q (.imm .lit 0 [])) true 0,Blk.arr 1 [HV.sl (H.length+4) 0 0 none 0 1] true (H.length+5),Blk.arr 1 [] true 0]):=by
   have:(H++[bMI V,b1 (q:Int)]++[Blk.arr 1 (qB q (.imm .lit 0 [])) true 0]).length=H.length+3:=by simp
   rw [this,qE,qE];rfl
  have g3:(H++[bMI V,b1 (q:Int),Blk.arr 1 (qB q (.imm .lit 0 [])) true 0,Blk.arr 1 [HV.sl (H.length+4) 0 0 none 0 1] true (H.length+5),Blk.arr 1 [] true 0])[H.length+3]?=some (Blk.arr 1 [HV.sl (H.length+4) 0 0 none 0 1] true (H.length+5)):=by
   rw [qP (by omega),show H.length+3-H.length=3 by omega];rfl
  have st3:Q3 Tp (H++[bMI V,b1 (q:Int),Blk.arr 1 (qB q (.imm .lit 0 [])) true 0,Blk.arr 1 [HV.sl (H.length+4) 0 0 none 0 1] true (H.length+5),Blk.arr 1 [] true 0]) 57 (.ptr (H.length+3) 0 0 1) (slR (H.length+2) q)=some (hC H V q 0):=by
   have hz:Qs Tp 57=some 1:=by kernel_rfl
   simp only [ST,Q3,g3,hz]
   rw [if_pos ⟨rfl,rfl⟩]
   show (if _ then _ else _)=_
   rw [if_pos ⟨by simp [cellsOf],by simp [cellsOf,Qo],by simp [cellsOf]⟩]
   have em:max (H.length+5) (H.length+2+1)=H.length+5:=by omega
   show some (List.set _ (H.length+3) (Blk.arr 1 [slR (H.length+2) q] true (max (H.length+5) (H.length+2+1))))=_
   rw [em,hC,zD,qI,qX _ _ (by omega),show H.length+3-H.length=3 by omega,Qbe]
   rfl
  exact QpT (F:=F) 0 n (l.map Qa) bb ab w p (H++[bMI V,b1 (q:Int)]) nb pb u top H.length (H.length+1) (H.length+3) (H.length+2) q (y31:=.i n) (y32:=.i (n.toNat:Int)) (ld1 hzb) mk al2 st3
 have gx:∀i,(hC H V q i)[H.length+3]?=some (.arr 1 [slR (H.length+2) q] true (H.length+5)):=fun i=>GW H V q i (j:=3) (by omega)
 have lx:∀{G:Heap},G[H.length+3]?=some (.arr 1 [slR (H.length+2) q] true (H.length+5))→QK Tp G 57 (.ptr (H.length+3) 0 0 1)=some (slR (H.length+2) q):=fun h=>WD (b:=H.length+3) h rfl rfl rfl a57 i57
 have s10:=QpU (F:=F) 0 n (l.map Qa) bb ab w p (hC H V q 0) nb pb u top H.length (H.length+1) (H.length+3) (H.length+2) q (y31:=.i n) (y32:=.i (n.toNat:Int)) (lx (gx 0))
 have s11:=Qim (F:=F) (H:=H) (n:=n) (l:=l) (bb:=bb) (ab:=ab) (nb:=nb) (pb:=pb) (w:=w) (p:=p) u top (V:=V) (q:=q) (by omega) (hok.hC V q).sm
 have s12:=QpZ (F:=F) 0 n (l.map Qa) bb ab w p (hC H V q q) nb pb u top H.length (H.length+1) (H.length+3) (y60:=.i (q:Int)) (y61:=.i (q:Int))
 have gl:∀{b:Nat} {B:Blk},H[b]?=some B→(hC H V q q)[b]?=some B:=fun h=>by rw [hC,qE];exact WJ h
 have s13:=Qp0 (F:=F) 0 n (l.map Qa) bb ab w p (hC H V q q) nb pb u top H.length (H.length+1) (H.length+3) (y60:=.i (q:Int)) (y61:=.i (q:Int)) (ZX (gl hnb))
 rw [qF] at s13
 have hM:=Mat.hC hok V q
 obtain ⟨H2,s14,hM2,hF2⟩:=Qin (F:=F) (n:=n) (ab:=ab) (nb:=nb) h55 h86 hp hl he hb1 hU1 hpb (VT hnb) (VT hb2) u top hq rfl hM (w:=w)
 have hbl:∀{b:Nat},b<H.length+5→¬rowS (fun k=>H.length+5+k) q b:=fun hb ⟨k,_,e⟩=>by
  have e:_=H.length+5+k:=e
  omega
 have hokM:WN p q (mxT p V g1 w l):=by rw [hq];exact D2 (by omega) _ (Qcm (by omega) _)
 obtain ⟨H3,d1,d2,d3⟩:=QfP (F:=F) h87 h45 hp (by omega) hM2 hokM
 have hdr:=QfM (p:=p) hp.1 (inv:=VV p) (N:=q) q 0 1 (mxT p V g1 w l) (by omega) (by omega)
 generalize gz p (VV p) q q 0 1 (mxT p V g1 w l)=dv at *
 have pl:=VT hpb
 have lp2:=ld1 (show H2[pb]?=some (b1 p) by rw [hF2.eq _ (hbl (by omega))];exact gl hpb)
 have hS3:∀{b:Nat},b<H.length→¬(b=H.length+2∨rowS (fun k=>H.length+5+k) q b):=fun hb h=>h.elim (by omega) (hbl (by omega))
 have lp3:=ld1 (show H3[pb]?=some (b1 p) by rw [d3.eq _ (hS3 pl),hF2.eq _ (hbl (by omega))];exact gl hpb)
 obtain ⟨N1,k1⟩:=CallsTo.from d1
 have s15:=Qp8 (F:=F) N1 n (l.map Qa) bb ab w p H2 nb pb u top H.length (H.length+1) (H.length+3) (H.length+2) q (y72:=.g (l.map Qa)) (y73:=.i (l.length:Int)) (y74:=.i (l.length:Int)) (lx (by rw [hF2.eq _ (hbl (by omega))];exact gx q)) lp2 k1 lp3 (CP (by omega)) (Yy lp3 lp2 (by simp [same]) d2.sm hM2.mm.sm)
 rw [Qdf (by omega) hsp.1 hsp.2 hdr.1 hdr.2 hp.2] at s15
 have s16:=QfG (F:=F) 0 n (l.map Qa) bb ab w p H3 nb pb (u*dv%p) top (y13:=.map H.length) (y16:=.q (H.length+3)) (y18:=(.func 86 [] [.q (H.length+1),.q (H.length+3),.q pb])) (y72:=.g (l.map Qa)) (y73:=.i (l.length:Int)) (y74:=.i (l.length:Int))
 rw [wr2] at s16
 have hpre:Pre H H3:=⟨by rw [d3.ln,hF2.ln,D1];omega,fun b hb=>by rw [d3.eq _ (hS3 hb),hF2.eq _ (hbl (by omega)),hC,qE,zS hb]⟩
 rw [← hq]
 exact ⟨_,_,sq (s1) (sq (s2) (sq (RunsTo.block_normal (i:=1) (c:=sn 934 B65) (sq (s3) (sq (s4) (sq (sq (s5) (bke (c:=sn 29901 B65) (s6)) (c:=sn 14950 B65)) (sq (s7) (sq (s8) (sq (s9) (sq (sq (s10) (bke (c:=sn 478461 B65) (lpi (e0:=(QY (Qv n l) (.q bb) (.q ab) (.i w) (.i p) (.q nb) (.q pb) (.i 0) (.i (u)) (.i (top:Int)) (.map H.length) Ud (.q (H.length+1)) (.q (H.length+3)) Ud Ud Ud Ud Ud Ud (.i n) (.i (top:Int)) (.i n) (.i ((n.toNat:Nat):Int)) (.i (q:Int)) (.i (0:Int)) Ud Ud Ud)) s11 (b:=sn 1913844 B65))) (c:=sn 239230 B65)) (sq (s12) (sq (sq (s13) (bke (c:=sn 1913853 B65) (lpi (e0:=(QY (Qv n l) (.q bb) (.q ab) (.i w) (.i p) (.q nb) (.q pb) (.i 0) (.i (u)) Ud (.map H.length) Ud (.q (H.length+1)) (.q (H.length+3)) Ud (.func 86 [] [.q (H.length+1),.q (H.length+3),.q pb]) Ud Ud Ud Ud (.i n) (.i (top:Int)) Ud Ud (.i (q:Int)) (.i (q:Int)) (.g (l.map Qa)) (.i ((l.length:Nat):Int)) (.i (0:Int)))) s14 (b:=sn 7655412 B65))) (c:=sn 956926 B65)) (s15) (c:=sn 478463 B65)) (c:=sn 239231 B65)) (c:=sn 119615 B65)) (c:=sn 59807 B65)) (c:=sn 29903 B65)) (c:=sn 14951 B65)) (c:=sn 7475 B65)) (c:=sn 3737 B65)) (c:=sn 1868 B65)) (by kernel_rfl)) (s16) (c:=sn 467 B65)) (c:=sn 233 B65)) (c:=sn 116 B65),by kernel_rfl,hpre,d2⟩
end
section
variable {F:FuncId→Option (List HV→Option HV)} {n:Int} {l:List St} {bb ab:Nat} {w p:Int} {H:Heap} {us1 g1 us2 g2:List Int}
theorem Qs4:Try.f65.results.toList=[.tmp 10]:=by kernel_rfl
structure SgF (F:FuncId→Option (List HV→Option HV)):Prop where
 h55:F 55=none
 h65:F 65=none
 h86:F 86=none
 h87:F 87=none
 h45:F 45=some Qab
theorem Qio (hF:SgF F) (hp:1<p∧p≤2147483647) (hn:0≤n∧n≤16) (hl:l.length≤1000) (he:ZY l=true)
  (hb1:H[bb]?=some (bU us1)) (hU1:Up us1 g1) (hb2:H[ab]?=some (bU us2)) (hU2:Up us2 g2) (hok:Ok H) :
  ∃H',ClF F 65 [Qv n l,.ptr bb 0 0 1,.ptr ab 0 0 1,.int .i64 w,.int .i64 p] H (.int .i64 (spK p g1 g2 w l n.toNat n.toNat)) H'∧Pre H H'∧Ok H':=by
 have nv:some (Q4 (.agg [.int .i64 n,.imm .arg 3 (l.map Qa)]) H)=some (.ptr H.length 0 0 1,H++[bN n l]):=rfl
 have nv2:some (Q4 (.int .i64 p) (H++[bN n l]))=some (.ptr (H.length+1) 0 0 1,H++[bN n l,b1 p]):=by
  have:(H++[bN n l]).length=H.length+1:=by simp
  simp only [Q4,this,qE];rfl
 have s1:=QpC (F:=F) 0 n (l.map Qa) bb ab w p H 0 0 nv nv2
 generalize hG:H++[bN n l,b1 p]=G at *
 have hnb:G[H.length]?=some (bN n l):=by rw [← hG,qP (by omega),qO];rfl
 have hpb:G[H.length+1]?=some (b1 p):=by rw [← hG,qP (by omega),show H.length+1-H.length=1 by omega];rfl
 have hpre:Pre H G:=by rw [← hG];exact Pre.app ..
 have hokG:Ok G:=by
  rw [← hG]
  refine hok.app (by show max 0 (max 0 0)≤_;omega) (QG ?_ (WX [p]))
  have:=VG n l
  simp only [Qm,sameL,this,beq_self_eq_true,qS]
 have s2:=QpD (F:=F) 0 n (l.map Qa) bb ab w p G H.length (H.length+1)
 have s3:=QpE (F:=F) 0 n (l.map Qa) bb ab w p G H.length (H.length+1) 1 (Yg hnb)
 obtain ⟨x,E',H',s4,rfl,rfl,hp2,hok2⟩:=Kq (pol':=plF F) (f:=65) (b:=sn 116 B65) (c:=sn 58 B65)
  (I:=fun k e H'=>e=(QY (Qv n l) (.q bb) (.q ab) (.i w) (.i p) (.ptr H.length 0 0 1) (.q (H.length+1)) (.i 0) (.i (spK p g1 g2 w l n.toNat k)) Ud Ud Ud Ud Ud Ud Ud Ud Ud Ud Ud (.i n) (.i (k:Int)) Ud Ud Ud Ud Ud Ud Ud)∧Pre G H'∧Ok H')
  (Q:=fun x E' H'=>x=.exit 0∧E'=(QY (Qv n l) (.q bb) (.q ab) (.i w) (.i p) (.ptr H.length 0 0 1) (.q (H.length+1)) (.i 0) (.i (spK p g1 g2 w l n.toNat n.toNat)) Ud Ud Ud Ud Ud Ud Ud Ud Ud Ud Ud (.i n) (.i ((n.toNat:Nat):Int)) Ud Ud Ud Ud Ud Ud Ud)∧Pre G H'∧Ok H') n.toNat
  (by
   rintro k hk e H' ⟨rfl,hP,hO⟩
   obtain ⟨E0,H1,r,e1,g1',g2'⟩:=QfX (F:=F) (H:=H') (w:=w) hF.h55 hF.h86 hF.h87 hF.h45 hp hn hl he (hP.get (hpre.get hb1)) hU1 (hP.get (hpre.get hb2)) hU2 (hP.get hnb) (hP.get hpb) hO (top:=k) (by omega)
   refine ⟨E0,H1,r,e1,?_,g2'.gc _ _⟩
   exact (hP.trans g1').gc hP.ln _)
  (by
   rintro e H' ⟨rfl,hP,hO⟩
   have t1:=QpG (F:=F) 0 n (l.map Qa) bb ab w p H' H.length (H.length+1) (spK p g1 g2 w l n.toNat n.toNat) n.toNat (by omega)
   have t2:=QhQ (F:=F) 0 n (l.map Qa) bb ab w p H' H.length (H.length+1) (spK p g1 g2 w l n.toNat n.toNat) n.toNat
   exact ⟨_,_,_,sq (t1) (sqo (t2) (c:=sn 233 B65) (b:=sn 467 B65)) (c:=sn 116 B65),by simp,rfl,rfl,hP,hO⟩)
  (by kernel_rfl) (by rintro k e H' ⟨rfl,_⟩;kernel_rfl) (e:=(QY (Qv n l) (.q bb) (.q ab) (.i w) (.i p) (.ptr H.length 0 0 1) (.q (H.length+1)) (.i 0) (.i (1)) Ud Ud Ud Ud Ud Ud Ud Ud Ud Ud Ud (.i n) (.i (0:Int)) Ud Ud Ud Ud Ud Ud Ud)) (H:=G) ⟨rfl,Pre.refl G,hokG⟩
 have s5:=Qp9 (F:=F) 0 n (l.map Qa) bb ab w p H' H.length (H.length+1) (spK p g1 g2 w l n.toNat n.toNat) (y25:=.i n) (y26:=.i (n.toNat:Int))
 have h:=CallsTo.shared (P:=Tp) (pol:=plF F) (g:=65) (fn:=Try.f65) (cd:=B65) (args:=[Qv n l,.ptr bb 0 0 1,.ptr ab 0 0 1,.int .i64 w,.int .i64 p]) (v:=.int .i64 (spK p g1 g2 w l n.toNat n.toNat)) hF.h65 (by kernel_rfl) (by kernel_rfl) (by kernel_rfl) (sq (s1) (sq (s2) (sq (sq (s3) (bke (c:=sn 29 B65) (s4)) (c:=sn 14 B65)) (s5) (c:=sn 7 B65)) (c:=sn 3 B65)) (c:=B65)) (by kernel_rfl) (by simp) (by simp only [Qd,Qs4];rfl)
 exact ⟨_,h,(hpre.trans hp2).gc (qC _) _,hok2.gc _ _⟩
end
def smF (p:Int) (n:Nat) (l:List St):Nat→Int×Nat
 | 0=>(1,0)
 | i+1=>if i+1<(Qh l).length∧wOf l ((Qh l).getD (i+1) 0)=wOf l ((Qh l).getD i 0) then smF p n l i
  else ((smF p n l i).1*spK p (Qz l ((Qh l).take (smF p n l i).2)) (Qz l ((Qh l).take (i+1))) (wOf l ((Qh l).getD i 0)) l n n%p,i+1)
theorem CU {p:Int} (hp:1<p) (n:Nat) (l:List St):∀i,0≤(smF p n l i).1∧(smF p n l i).1<p
 | 0=>by rw [smF];exact ⟨by omega,hp⟩
 | i+1=>by
  rw [smF]
  split
  ·exact CU hp n l i
  ·exact ⟨qK _ (by omega),qL _ (by omega)⟩
def smT (p:Int) (n:Int) (l:List St):Int:=(smF p n.toNat l (Qh l).length).1
def smP (n:Int) (l:List St) (p:Int):Prop:=(0≤n∧n≤16)∧ZY l=true∧l.length≤900∧1<p∧p≤2147483647
instance (n:Int) (l:List St) (p:Int):Decidable (smP n l p):=by unfold smP;infer_instance
def D4:List HV→Option HV:=f2 kN kI fun q p=>if smP q.1 q.2 p then some (.int .i64 (smT p q.1 q.2)) else none
def ZH:FuncId→Option (List HV→Option HV):=fun g=>if g==54 then some Xa else if g==45 then some Qab else none
theorem Qip (n:Nat):Qn Tp (Qc Tp (plF ZH) n):=Qy _ (fun g f h=>by
 unfold ZH at h
 split at h
 ·rename_i hg;cases h;rw [eq_of_beq hg];exact XO
 split at h
 ·rename_i hg;cases h;rw [eq_of_beq hg];exact Qi0
 ·cases h) n
theorem Qrc:SgF ZH:=⟨by kernel_rfl,by kernel_rfl,by kernel_rfl,by kernel_rfl,by kernel_rfl⟩
theorem Qs5:Try.f44.results.toList=[.tmp 4]:=by kernel_rfl
theorem Qiq {H:Heap} {b base r:Nat} {B:Blk} (hb:b<max base r) (h:H[b]?=some B):(gc base r H)[b]?=some B:=by
 unfold gc
 rw [zU (by omega)];exact h
theorem Qcn (us:List Int):Qm [bU us] [bU us]=true:=by
 simp only [bU,Qm,sameL,same,WU VF,beq_self_eq_true,qS]
theorem UF (n:Int) (l:List St):Qm [bN n l] [bN n l]=true:=by
 have:=VG n l
 simp only [bN,Qm,sameL,this,beq_self_eq_true,qS]
theorem Qag:QP Tp 44 D4:=by
 refine Qp (pol:=plF ZH) (fn:=Try.f44) (cd:=B44) Qk Qip (by kernel_rfl) (by kernel_rfl) (Zm ZH _ _ (by kernel_rfl)) (by kernel_rfl) ?_
 intro args res h
 obtain ⟨⟨n,l⟩,p,rfl,hq⟩:=Z9 h
 simp only at hq
 split at hq
 case isFalse=>cases hq
 rename_i hc
 obtain ⟨hn,he,hl,hp⟩:=hc
 cases hq
 have hol:=SP l
 have hoi:∀k∈Qh l,0≤k∧k<(l.length:Int):=fun k hk=>ordT_mem.1 hk
 have a:=Qpk (F:=ZH) 0 n (l.map Qa) p
 have b:=Qpl (F:=ZH) 0 n (l.map Qa) p [bN n l]
 obtain ⟨N0,c53⟩:=CallsTo.from (K0 (F:=ZH) (by kernel_rfl) [bN n l] (by show max 0 0≤2;decide))
 have c:=Qpm (F:=ZH) N0 n (l.map Qa) p [bN n l] 1 c53
 have c54:=at1 (pol':=plF ZH) (g:=54) (c1:=kN) (f:=fun p=>if p.2.length≤900 then some (.own 1 ((Qh p.2).map Qb)) else none) (H:=[bN n l,bU (Qg 16)]) (by kernel_rfl) (ShN _ n l) (if_pos hl)
 rw [W1] at c54
 have d:=Qpn (F:=ZH) 0 n (l.map Qa) p [bN n l,bU (Qg 16)] 1 2 (Qh l).length (JE rfl) c54
 obtain ⟨G,hG⟩:∃G:Heap,G=[bN n l,bU (Qg 16),bI (Qh l)]:=⟨_,rfl⟩
 have e:=Qpo (F:=ZH) 0 n (l.map Qa) p G 1 1 2 (Qh l).length
 have hokG:Ok G:=by rw [hG];exact ⟨by show max 0 (max 0 (max 0 0))≤3;decide,QG (UF n l) (QG (Qcn _) (WX _))⟩
 have hlab0:Qz l []=Qg 16:=rfl
 obtain ⟨x,E',H',r,rfl,⟨vb,rfl⟩,hok'⟩:=Kq (pol':=plF ZH) (f:=44) (b:=sn 500 B44) (c:=sn 250 B44)
  (I:=fun i e H'=>∃vb us,e=(VR (Qv n l) (.i p) (.q 0) (.i 0) (.i ((smF p n.toNat l i).1)) (.q vb) (.sl 2 0 (Qh l).length none (Qh l).length 1) Ud Ud Ud Ud (.sl 2 0 (Qh l).length none (Qh l).length 1) (.i (((Qh l).length:Nat):Int)) (.i (i:Int)))∧Pre G H'∧Ok H'∧H'[vb]?=some (bU us)∧Up us (Qz l ((Qh l).take (smF p n.toNat l i).2)))
  (Q:=fun x E' H'=>x=.exit 0∧(∃vb,E'=(VR (Qv n l) (.i p) (.q 0) (.i 0) (.i ((smF p n.toNat l (Qh l).length).1)) (.q vb) (.sl 2 0 (Qh l).length none (Qh l).length 1) Ud Ud Ud Ud (.sl 2 0 (Qh l).length none (Qh l).length 1) (.i (((Qh l).length:Nat):Int)) (.i (((Qh l).length:Nat):Int))))∧Ok H') (Qh l).length
  (by
   rintro i hi e H' ⟨vb,us,rfl,hP,hO,hvb,hU⟩
   have hrg:=CU hp.1 n.toNat l i
   have hki:=hoi _ (Qu 0 hi)
   have bn:H'[0]?=some (bN n l):=hP.get (by rw [hG];rfl)
   have bo:H'[2]?=some (bI (Qh l)):=hP.get (by rw [hG];rfl)
   have wi:qA.wrap ((i:Int)+1)=((i+1:Nat):Int):=by rw [Q7 (by omega) (by omega)];omega
   have gk:∀{k:Int},0≤k∧k<(l.length:Int)→Z4 Tp 22 (.imm .arg 3 (l.map Qa)) (.int .i64 k)=some (.vptr (Qa (l.getD k.toNat (0,0,0)))):=fun {k} hk=>by
    have:=gs (l:=l) (y:=k.toNat) (by omega)
    rwa [show ((k.toNat:Nat):Int)=k by omega] at this
   have s1:=Qpp (F:=ZH) 0 n (l.map Qa) p H' (smF p n.toNat l i).1 vb 2 (Qh l).length i (by omega)
   have s2:=QhN (F:=ZH) 0 n (l.map Qa) p H' (smF p n.toNat l i).1 vb 2 (Qh l).length i
   have s3:=Qpr (F:=ZH) 0 n (l.map Qa) p H' (smF p n.toNat l i).1 vb 2 (Qh l).length i ((Qh l).getD i 0) (JX u24 z3 hi) (Q6 bo hi)
   have s4:=Qps (F:=ZH) 0 n (l.map Qa) p H' (smF p n.toNat l i).1 vb 2 (Qh l).length i ((Qh l).getD i 0) _ _ _ (ZX bn) (gk hki)
   by_cases c:i+1<(Qh l).length∧wOf l ((Qh l).getD (i+1) 0)=wOf l ((Qh l).getD i 0)
   ·have hk2:=hoi _ (Qu 0 c.1)
    have s5:=Qpt (F:=ZH) 0 n (l.map Qa) p H' (smF p n.toNat l i).1 vb 2 (Qh l).length i ((Qh l).getD i 0) (wOf l ((Qh l).getD i 0)) ((Qh l).getD (i+1) 0) _ _ _ (by rw [wi];omega) (ZX bn) (by rw [wi,qD];exact JX u24 z3 c.1) (by rw [wi,qD];exact Q6 bo c.1) (gk hk2) c.2
    have s6:=QfE (F:=ZH) 0 n (l.map Qa) p H' (smF p n.toNat l i).1 vb 2 (Qh l).length i (y8:=.i (i:Int)) (y9:=.i ((Qh l).getD i 0)) (y10:=.i (wOf l ((Qh l).getD i 0)))
    rw [wi] at s6
    have e1:smF p n.toNat l (i+1)=smF p n.toNat l i:=by rw [smF,if_pos c]
    refine ⟨_,_,sq (s1) (sq (s2) (sq (bke (c:=sn 4006 B44) (sq (s3) (sq (s4) (sqo (s5) (c:=sn 32051 B44) (b:=sn 64103 B44)) (c:=sn 16025 B44)) (c:=sn 8012 B44))) (s6) (c:=sn 2003 B44)) (c:=sn 1001 B44)) (c:=sn 500 B44),vb,us,?_,?_⟩
    ·rw [e1];kernel_rfl
    ·rw [e1,QH _ rfl];exact ⟨hP,hO,hvb,hU⟩
   ·have hti:∀k∈(Qh l).take (i+1),0≤k∧k<(l.length:Int):=fun k hk=>hoi k (jA hk)
    have htl:((Qh l).take (i+1)).length=i+1:=by rw [qQ];omega
    have s5:RT (plF ZH) 44 (sn 64102 B44) ((VR (Qv n l) (.i p) (.q 0) (.i 0) (.i ((smF p n.toNat l i).1)) (.q vb) (.sl 2 0 (Qh l).length none (Qh l).length 1) (.i (i:Int)) (.i ((Qh l).getD i 0)) (.i (wOf l ((Qh l).getD i 0))) Ud (.sl 2 0 (Qh l).length none (Qh l).length 1) (.i (((Qh l).length:Nat):Int)) (.i (i:Int)))) H' .normal ((VR (Qv n l) (.i p) (.q 0) (.i 0) (.i ((smF p n.toNat l i).1)) (.q vb) (.sl 2 0 (Qh l).length none (Qh l).length 1) (.i (i:Int)) (.i ((Qh l).getD i 0)) (.i (wOf l ((Qh l).getD i 0))) Ud (.sl 2 0 (Qh l).length none (Qh l).length 1) (.i (((Qh l).length:Nat):Int)) (.i (i:Int)))) H':=by
     by_cases c1:i+1<(Qh l).length
     ·have hk2:=hoi _ (Qu 0 c1)
      exact Qpu (F:=ZH) 0 n (l.map Qa) p H' (smF p n.toNat l i).1 vb 2 (Qh l).length i ((Qh l).getD i 0) (wOf l ((Qh l).getD i 0)) ((Qh l).getD (i+1) 0) _ _ _ (by rw [wi];omega) (ZX bn) (by rw [wi,qD];exact JX u24 z3 c1) (by rw [wi,qD];exact Q6 bo c1) (gk hk2) (fun h=>c ⟨c1,h⟩)
     ·exact Qpv (F:=ZH) 0 n (l.map Qa) p H' (smF p n.toNat l i).1 vb 2 (Qh l).length i ((Qh l).getD i 0) (wOf l ((Qh l).getD i 0)) 0 0 0 0 (by rw [wi];omega)
    have jc:=GA (F:=ZH) (by kernel_rfl) (by kernel_rfl) (by kernel_rfl) (by kernel_rfl) (n:=n) he hti (by omega) hO.mx (cap:=none) bo (o:=Qh l) (fun j hj=>by
     rw [htl] at hj
     exact ⟨by omega,(YF (by omega)).symm⟩)
    rw [htl] at jc
    obtain ⟨N1,k1⟩:=CallsTo.from jc
    have sl:W5 Tp 24 (.sl 2 0 (Qh l).length none (Qh l).length 1) none (some (.int .i64 ((i+1:Nat):Int))) none=some (.sl 2 0 (i+1) none (Qh l).length 1):=by
     simp only [W5,Js,u24,z3]
     rw [if_pos (by omega:(0:Int)≤((i+1:Nat):Int))]
     simp only [qD]
     simp
     omega
    have s6:=Qpw (F:=ZH) N1 n (l.map Qa) p H' (smF p n.toNat l i).1 vb 2 (Qh l).length i ((Qh l).getD i 0) (wOf l ((Qh l).getD i 0)) _ (H'.length+1) (JE bn) (by rw [wi,qD];exact sl) (by rw [wi,qD];exact k1)
    have hUp:=Jt he hti
    have hO2:Ok (H'++[bN n l,bU (ksT l ((Qh l).take (i+1))).1]):=hO.app (by show max 0 (max 0 0)≤_;omega) (QG (UF n l) (Qcn _))
    have hab:(H'++[bN n l,bU (ksT l ((Qh l).take (i+1))).1])[H'.length+1]?=some (bU (ksT l ((Qh l).take (i+1))).1):=QbR ..
    obtain ⟨H2,k2,hP2,hO3⟩:=Qio (F:=ZH) (w:=wOf l ((Qh l).getD i 0)) Qrc hp hn (by omega) he (WJ hvb) hU hab hUp hO2
    obtain ⟨N2,k2⟩:=CallsTo.from k2
    have hlab:(ksT l ((Qh l).take (i+1))).2.1=Qz l ((Qh l).take (i+1)):=rfl
    rw [hlab] at k2
    have hx:=CT hp.1 (Qz l ((Qh l).take (smF p n.toNat l i).2)) (Qz l ((Qh l).take (i+1))) (wOf l ((Qh l).getD i 0)) l n.toNat n.toNat
    have s7:=Qpx (F:=ZH) N2 n (l.map Qa) p (H'++[bN n l,bU (ksT l ((Qh l).take (i+1))).1]) (smF p n.toNat l i).1 vb 2 (Qh l).length i ((Qh l).getD i 0) (wOf l ((Qh l).getD i 0)) _ (H'.length+1) (JE (WJ bn)) k2 (CP (by omega))
    rw [Qdf (by omega) hrg.1 hrg.2 hx.1 hx.2 hp.2] at s7
    have e1:smF p n.toNat l (i+1)=((smF p n.toNat l i).1*spK p (Qz l ((Qh l).take (smF p n.toNat l i).2)) (Qz l ((Qh l).take (i+1))) (wOf l ((Qh l).getD i 0)) l n.toNat n.toNat%p,i+1):=by rw [smF,if_neg c]
    generalize (smF p n.toNat l i).1*spK p (Qz l ((Qh l).take (smF p n.toNat l i).2)) (Qz l ((Qh l).take (i+1))) (wOf l ((Qh l).getD i 0)) l n.toNat n.toNat%p=u' at *
    have s8:=QfE (F:=ZH) 0 n (l.map Qa) p H2 u' (H'.length+1) 2 (Qh l).length i (y8:=.i (i:Int)) (y9:=.i ((Qh l).getD i 0)) (y10:=.i (wOf l ((Qh l).getD i 0))) (y11:=.q (H'.length+1))
    rw [wi] at s8
    have hP3:Pre H' H2:=(Pre.app ..).trans hP2
    have key:∀E1,E1=(VR (Qv n l) (.i p) (.q 0) (.i 0) (.i (u')) (.q (H'.length+1)) (.sl 2 0 (Qh l).length none (Qh l).length 1) Ud Ud Ud Ud (.sl 2 0 (Qh l).length none (Qh l).length 1) (.i (((Qh l).length:Nat):Int)) (.i ((i+1:Nat):Int)))→Pre G (gc H'.length (WF E1) H2)∧Ok (gc H'.length (WF E1) H2)∧(gc H'.length (WF E1) H2)[H'.length+1]?=some (bU (ksT l ((Qh l).take (i+1))).1):=by
     rintro _ rfl
     refine ⟨(hP.trans hP3).gc hP.ln _,hO3.gc _ _,Qiq ?_ (hP2.get hab)⟩
     have:H'.length+1<WF ((VR (Qv n l) (.i p) (.q 0) (.i 0) (.i (u')) (.q (H'.length+1)) (.sl 2 0 (Qh l).length none (Qh l).length 1) Ud Ud Ud Ud (.sl 2 0 (Qh l).length none (Qh l).length 1) (.i (((Qh l).length:Nat):Int)) (.i ((i+1:Nat):Int)))):=by
      simp only [WF,bnd,bndL,Qv]
      omega
     omega
    have el:QO (plF ZH) 44 (sn 500 B44) ((VR (Qv n l) (.i p) (.q 0) (.i 0) (.i (u')) (.q (H'.length+1)) (.sl 2 0 (Qh l).length none (Qh l).length 1) (.i (i:Int)) (.i ((Qh l).getD i 0)) (.i (wOf l ((Qh l).getD i 0))) (.q (H'.length+1)) (.sl 2 0 (Qh l).length none (Qh l).length 1) (.i (((Qh l).length:Nat):Int)) (.i ((i+1:Nat):Int))))=(VR (Qv n l) (.i p) (.q 0) (.i 0) (.i (u')) (.q (H'.length+1)) (.sl 2 0 (Qh l).length none (Qh l).length 1) Ud Ud Ud Ud (.sl 2 0 (Qh l).length none (Qh l).length 1) (.i (((Qh l).length:Nat):Int)) (.i ((i+1:Nat):Int))):=by kernel_rfl
    obtain ⟨q1,q2,q3⟩:=key _ el
    refine ⟨_,_,sq (s1) (sq (s2) (sq (RunsTo.block_normal (i:=1) (c:=sn 4006 B44) (sq (s3) (sq (s4) (sq (s5) (sq (s6) (s7) (c:=sn 64103 B44)) (c:=sn 32051 B44)) (c:=sn 16025 B44)) (c:=sn 8012 B44)) (by kernel_rfl)) (s8) (c:=sn 2003 B44)) (c:=sn 1001 B44)) (c:=sn 500 B44),H'.length+1,_,?_,q1,q2,q3,?_⟩
    ·rw [e1];exact el
    ·rw [e1];exact hUp)
  (by
   rintro e H' ⟨vb,us,rfl,hP,hO,hvb,hU⟩
   have t1:=Qpq (F:=ZH) 0 n (l.map Qa) p H' (smF p n.toNat l (Qh l).length).1 vb 2 (Qh l).length (Qh l).length (by omega)
   have t2:=QhO (F:=ZH) 0 n (l.map Qa) p H' (smF p n.toNat l (Qh l).length).1 vb 2 (Qh l).length (Qh l).length
   exact ⟨_,_,_,sq (t1) (sqo (t2) (c:=sn 1001 B44) (b:=sn 2003 B44)) (c:=sn 500 B44),by simp,rfl,⟨vb,rfl⟩,hO⟩)
  (by kernel_rfl) (by rintro k e H' ⟨vb,us,rfl,_⟩;kernel_rfl) (e:=(VR (Qv n l) (.i p) (.q 0) (.i 0) (.i (1)) (.q 1) (.sl 2 0 (Qh l).length none (Qh l).length 1) Ud Ud Ud Ud (.sl 2 0 (Qh l).length none (Qh l).length 1) (.i (((Qh l).length:Nat):Int)) (.i (0:Int)))) (H:=G) ⟨1,Qg 16,rfl,Pre.refl G,hokG,by rw [hG];rfl,by rw [smF];exact Up.start⟩
 have z:=Qpy (F:=ZH) 0 n (l.map Qa) p H' (smF p n.toNat l (Qh l).length).1 vb 2 (Qh l).length (y16:=(.sl 2 0 (Qh l).length none (Qh l).length 1)) (y17:=.i ((Qh l).length:Int)) (y18:=.i ((Qh l).length:Int))
 rw [hG] at e r
 refine ⟨_,_,_,.int .i64 (smF p n.toNat l (Qh l).length).1,sq (a) (sq (b) (sq (c) (sq (d) (sq (sq (e) (bke (c:=sn 125 B44) (r)) (c:=sn 62 B44)) (z) (c:=sn 31 B44)) (c:=sn 15 B44)) (c:=sn 7 B44)) (c:=sn 3 B44)) (c:=B44),by simp,by simp only [Qd,Qs5];rfl,?_⟩
 rfl
end Go.Proofs.Ytiejmoglooaalaa
end
section
open Go Go.HL
namespace Go.Proofs.Ytiejmoglooaalaa
set_option maxRecDepth 100000
set_option linter.unusedSectionVars false
open Go.Proofs.Try renaming prog → Tp
open Go.HL.HV renaming undef → Ud
section
variable {F:FuncId→Option (List HV→Option HV)}
noncomputable def B81:Code:=Try.f81.body.getD .skip
abbrev Qi3 (v0 v1 v4:HV):Env:=[(0,v0),(1,v1),(4,v4)]
theorem Qrd (x y:Int) (H:Heap) {H0:Heap} (g0:CM F 89 [.i x] H (.bool false) H0) (g1:x<y): RU F 81 1 B81 [(0,.i x),(1,.i y)] H .ret (Qi3 (.i x) (.i y) (.bool true)) H0 :=
 hx 0 60 [jD 1 1 g0,jT 1 10 H0 g1]
theorem Qre (x y:Int) (H:Heap) {H0:Heap} (g0:CM F 89 [.i x] H (.bool false) H0) (g1:¬(x<y)): RU F 81 1 B81 [(0,.i x),(1,.i y)] H .ret (Qi3 (.i x) (.i y) (.bool false)) H0 :=
 hx 0 60 [jD 1 1 g0,jF 1 10 H0 g1]
noncomputable def B75:Code:=Try.f75.body.getD .skip
abbrev Xt (v0 v1 v2 v6 v7:HV):Env:=[(0,v0),(1,v1),(2,v2),(6,v6),(7,v7)]
end
abbrev e75 (db:Nat) (n:Nat) (i:Nat) (u4:HV):Env:=Xt (.s db n) (.i 0) (.n n) (.n i) u4
section
variable {F:FuncId→Option (List HV→Option HV)}
variable (db n:Nat) (H:Heap)
include db n H
theorem Qrf:RU F 75 2 B75 [(0,.s db n),(1,.i 0),(2,.n n)] H .normal (Xt (.s db n) (.i 0) (.n n) (.i 1) Ud) H :=
 hx 0 60 []
end
section
variable {F:FuncId→Option (List HV→Option HV)}
variable (db n:Nat) (H:Heap)
include db n H
theorem Qrg (i:Nat) (g0:(i:Int)<(n:Int)) (y7:HV:=Ud): RU F 75 24 B75 (e75 db n i y7) H .normal (e75 db n i y7) H :=
 hx 0 60 [jT 1 2 H g0]
theorem QfY (i:Nat) (g0:¬((i:Int)<(n:Int))) (y7:HV:=Ud): RU F 75 24 B75 (e75 db n i y7) H (.exit 0) (e75 db n i y7) H :=
 hx 0 60 [jF 1 2 H g0]
theorem Qrh (i:Nat) (y7:HV:=Ud): RU F 75 200 B75 (e75 db n i y7) H .normal (e75 db n i (.n i)) H :=
 hx 0 60 []
theorem Qri (i j:Nat) (x y:Int) {H0:Heap} {H1:Heap} {H2:Heap} (g0:0<(j:Int)) (g1:IS 24 db n j) (g2:LD H 3 (.ptr db j 0 n) (.i x)) (g3:IX 24 (.s db n) (.i (qA.wrap ((j:Int)-1))) (.ptr db ((qA.wrap ((j:Int)-1)).toNat) 0 n)) (g4:LD H 3 (.ptr db ((qA.wrap ((j:Int)-1)).toNat) 0 n) (.i y)) (g5:CM F 81 [.i x,.i y] H (.bool true) H0) (g6:IX 24 (.s db n) (.i (qA.wrap ((j:Int)-1))) (.ptr db ((qA.wrap ((j:Int)-1)).toNat) 0 n)) (g7:LD H0 3 (.ptr db ((qA.wrap ((j:Int)-1)).toNat) 0 n) (.i y)) (g8:IS 24 db n j) (g9:LD H0 3 (.ptr db j 0 n) (.i x)) (g10:IS 24 db n j) (g11:ST H0 3 (.ptr db j 0 n) (.i y) H1) (g12:IX 24 (.s db n) (.i (qA.wrap ((j:Int)-1))) (.ptr db ((qA.wrap ((j:Int)-1)).toNat) 0 n)) (g13:ST H1 3 (.ptr db ((qA.wrap ((j:Int)-1)).toNat) 0 n) (.i x) H2): RU F 75 804 B75 (e75 db n i (.n j)) H .normal (e75 db n i (.i (qA.wrap ((j:Int)-1)))) H2 :=
 hx 0 60 [jT 4 2 H g0,jO 4 6 H g1,jO 4 7 H g2,jO 4 11 H g3,jO 4 12 H g4,jD 4 13 g5,jO 6 8 H0 g6,jO 6 9 H0 g7,jO 6 12 H0 g8,jO 6 13 H0 g9,jO 6 14 H0 g10,jS 6 15 g11,jO 6 16 H1 g12,jS 6 17 g13]
theorem Qrj (i j:Nat) (x y:Int) {H0:Heap} (g0:0<(j:Int)) (g1:IS 24 db n j) (g2:LD H 3 (.ptr db j 0 n) (.i x)) (g3:IX 24 (.s db n) (.i (qA.wrap ((j:Int)-1))) (.ptr db ((qA.wrap ((j:Int)-1)).toNat) 0 n)) (g4:LD H 3 (.ptr db ((qA.wrap ((j:Int)-1)).toNat) 0 n) (.i y)) (g5:CM F 81 [.i x,.i y] H (.bool false) H0): RU F 75 804 B75 (e75 db n i (.n j)) H (.exit 2) (e75 db n i (.n j)) H0 :=
 hx 0 60 [jT 4 2 H g0,jO 4 6 H g1,jO 4 7 H g2,jO 4 11 H g3,jO 4 12 H g4,jD 4 13 g5]
theorem Qrk (i j:Nat) (x y:Int) (g0:¬(0<(j:Int))): RU F 75 804 B75 (e75 db n i (.n j)) H (.exit 2) (e75 db n i (.n j)) H :=
 hx 0 60 [jF 4 2 H g0]
theorem Qrl (i:Nat) (y7:HV:=Ud): RU F 75 51 B75 (e75 db n i y7) H .normal (Xt (.s db n) (.i 0) (.n n) (.i (qA.wrap ((i:Int)+1))) y7) H :=
 hx 0 60 []
end
section
variable {F:FuncId→Option (List HV→Option HV)}
noncomputable def B62:Code:=Try.f62.body.getD .skip
abbrev Qs6 (v0 v1 v2 v3 v8 v9 v10 v11 v12 v13 v14 v15 v16 v17 v18:HV):Env:=[(0,v0),(1,v1),(2,v2),(3,v3),(8,v8),(9,v9),(10,v10),(11,v11),(12,v12),(13,v13),(14,v14),(15,v15),(16,v16),(17,v17),(18,v18)]
end
abbrev e62 (db:Nat) (n:Nat) (m:Int) (u5 u6 u7 u8 u9 u10 u11 u12 u13 u14:HV):Env:=Qs6 (.s db n) (.i 0) (.n n) (.i m) (.bool true) u5 u6 u7 u8 u9 u10 u11 u12 u13 u14
section
variable {F:FuncId→Option (List HV→Option HV)}
variable (N:Nat) (db n:Nat) (m:Int) (H:Heap)
include N db n m H
theorem Qrm:RU F 62 2 B62 [(0,.s db n),(1,.i 0),(2,.n n),(3,.i m)] H .normal (e62 db n m Ud Ud Ud Ud Ud Ud Ud Ud Ud Ud) H :=
 hx N 60 []
end
section
variable {F:FuncId→Option (List HV→Option HV)}
variable (N:Nat) (db n:Nat) (m:Int) (H:Heap)
include N db n m H
theorem Qrn (y9 y10 y11 y12 y13 y14 y15 y16 y17 y18:HV:=Ud): RU F 62 6 B62 (e62 db n m y9 y10 y11 y12 y13 y14 y15 y16 y17 y18) H .normal (e62 db n m (.bool true) y10 y11 y12 y13 y14 y15 y16 y17 y18) H :=
 hx N 60 []
theorem Qro (y10 y11 y12 y13 y14 y15 y16 y17 y18:HV:=Ud): RU F 62 112 B62 (e62 db n m (.bool true) y10 y11 y12 y13 y14 y15 y16 y17 y18) H .normal (e62 db n m (.bool true) (.i (qA.wrap ((n:Int)-0))) y11 y12 y13 y14 y15 y16 y17 y18) H :=
 hx N 60 []
theorem Qrp {H0:Heap} (g0:(n:Int)≤12) (g1:CN F N 75 [.s db n,.i 0,.n n] H (.tuple []) H0) (y11 y12 y13 y14 y15 y16 y17 y18:HV:=Ud): RU F 62 226 B62 (e62 db n m (.bool true) (.n n) y11 y12 y13 y14 y15 y16 y17 y18) H .ret (e62 db n m (.bool true) (.n n) y11 y12 y13 y14 y15 y16 y17 y18) H0 :=
 hx N 60 [jT 3 1 H g0,jC 4 3 g1]
end
section
variable {F:FuncId→Option (List HV→Option HV)}
noncomputable def B41:Code:=Try.f41.body.getD .skip
abbrev Qs7 (v0 v2:HV):Env:=[(0,v0),(2,v2)]
theorem Qrq (N:Nat) (db n:Nat) (m:Int) (H:Heap) {H0:Heap} {H1:Heap} (g0:CM F 63 [.int .u64 (IntKind.u64.wrap (n:Int))] H (.i m) H0) (g1:CN F N 62 [.s db n,.i 0,.n n,.i m] H0 (.tuple []) H1): RU F 41 1 B41 [(0,.s db n)] H .normal (Qs7 (.s db n) (.n n)) H1 :=
 hx N 60 [jD 1 4 g0,jC 1 5 g1]
end
end Go.Proofs.Ytiejmoglooaalaa
end
section
open Go Go.HL Go.HL.So
namespace Go.Proofs.Ytiejmoglooaalaa
set_option linter.unusedSectionVars false
open Go.Proofs.Try renaming prog → Tp
open Go.HL.HV renaming undef → Ud
def Kw:List HV→Option HV | [.int .i64 x,.int .i64 y]=>some (.bool (decide (x<y))) | _=>none
theorem Qi4:Try.f81.results.toList=[.tmp 4]:=by kernel_rfl
def Qdj:FuncId→Option (List HV→Option HV):=fun g=>if g==89 then some QbM else none
theorem Qir (n:Nat):Qn Tp (Qc Tp (plF Qdj) n):=Qy _ (fun g f h=>by
 unfold Qdj at h
 split at h
 ·rename_i hg;cases h;rw [eq_of_beq hg];exact Qek
 ·cases h) n
theorem Qis:QP Tp 81 Kw:=by
 refine Qp (pol:=plF Qdj) (fn:=Try.f81) (cd:=B81) Qk Qir (by kernel_rfl) (by kernel_rfl) (Zm Qdj _ _ (by kernel_rfl)) (by kernel_rfl) ?_
 intro args res h
 unfold Kw at h
 split at h
 ·rename_i x y
  cases h
  have q:∀kf,Qc Tp (plF Qdj) (kf+1) 89 [.int .i64 x] []=some (.bool false,[]):=fun kf=>by
   rw [WS (pol:=plF Qdj) (g:=89) (F:=QbM) (by kernel_rfl) (rs:=[.int .i64 x]) rfl (res:=.bool false) rfl];rfl
  by_cases c:x<y
  ·rw [decide_eq_true c]
   exact ⟨_,_,_,.bool true,Qrd x y [] q c,by simp,by simp only [Qd,Qi4];rfl,rfl⟩
  ·rw [decide_eq_false c]
   exact ⟨_,_,_,.bool false,Qre x y [] q c,by simp,by simp only [Qd,Qi4];rfl,rfl⟩
 ·cases h
theorem CV:Lin (fun a b:Int=>a<b):=⟨fun x y z (h1:¬y<x) (h2:¬z<y)=>show ¬z<x by omega,fun x y (h:x<y)=>show ¬y<x by omega⟩
abbrev ltI:Int→Int→Prop:=fun a b=>a<b
section
variable {F:FuncId→Option (List HV→Option HV)} {H:Heap} {db n:Nat} (hd:db<H.length)
include hd
theorem Qco (h81:F 81=some Kw) (x y:Int) (H:Heap):∀kf,Qc Tp (plF F) (kf+1) 81 [.int .i64 x,.int .i64 y] H=some (.bool (decide (x<y)),H):=fun kf=>by
 rw [WS (pol:=plF F) (g:=81) (F:=Kw) h81 (rs:=[.int .i64 x,.int .i64 y]) rfl (res:=.bool (decide (x<y))) rfl];rfl
theorem Qs8 (h81:F 81=some Kw) {i:Nat} (hi:i<n) (hn:n≤1000):∀(j:Nat) (l:List Int),l.length=n→j≤i→SN ltI 0 (i+1) j l →
  ∃y l',RT (plF F) 75 (sn 402 B75) (Xt (.s db n) (.i 0) (.i (n:Int)) (.i (i:Int)) (.i (j:Int))) (H.set db (bI l)) (.exit 2) (Xt (.s db n) (.i 0) (.i (n:Int)) (.i (i:Int)) y) (H.set db (bI l'))∧Sw 0 (i+1) l l'∧QQ ltI 0 (i+1) l':=by
 intro j
 induction j with
 | zero =>
  intro l hl hj hS
  exact ⟨_,l,lpo (Qrk (F:=F) db n (H.set db (bI l)) i 0 0 0 (by omega)),.refl,JW CV hS (.inl (jQ _))⟩
 | succ j ih =>
  intro l hl hj hS
  have hb:(H.set db (bI l))[db]?=some (bI l):=zL hd
  have e1:qA.wrap (((j+1:Nat):Int)-1)=(j:Int):=by simp only [WA];omega
  have e2:(qA.wrap (((j+1:Nat):Int)-1)).toNat=j:=by rw [e1];omega
  have i1:=JX (b:=db) (cap:=none) u24 z3 (show j+1<n by omega)
  have i2:=JX (b:=db) (cap:=none) u24 z3 (show j<n by omega)
  have l1:=Q6 hb (y:=j+1) (by omega)
  have l2:=Q6 hb (y:=j) (by omega)
  rw [hl] at l1 l2
  rw [← e1] at i2
  by_cases c:l.getD (j+1) 0<l.getD j 0
  ·have s1:=ZI hb (y:=j+1) (by omega) (l.getD j 0)
   rw [hl,List.set_set] at s1
   have hb2:(H.set db (bI (l.set (j+1) (l.getD j 0))))[db]?=some (bI (l.set (j+1) (l.getD j 0))):=zL hd
   have s2:=ZI hb2 (y:=j) (by simp;omega) (l.getD (j+1) 0)
   rw [jW,hl,List.set_set] at s2
   have lt:=Qco hd h81 (l.getD (j+1) 0) (l.getD j 0) (H.set db (bI l))
   rw [decide_eq_true c] at lt
   have st:=Qri (F:=F) db n (H.set db (bI l)) i (j+1) (l.getD (j+1) 0) (l.getD j 0) (by omega) i1 l1 (by rw [e2];exact i2) (by rw [e2];exact l2) lt (by rw [e2];exact i2) (by rw [e2];exact l2) i1 l1 i1 s1 (by rw [e2];exact i2) (by rw [e2];exact s2)
   rw [e1] at st
   have sw:Sw 0 (i+1) l (swp l (j+1) j):=Sw.one (by omega) (by omega) (by omega) (by omega)
   obtain ⟨y,l',r,q1,q2⟩:=ih (swp l (j+1) j) (by rw [Go.HL.So.swp_len];exact hl) (by omega) (Yz CV (j:=j+1) (by omega) (by omega) (by omega) hS c)
   exact ⟨y,l',lop (st) (QH _ (by simp)) (r),sw.trans q1,q2⟩
  ·have lt:=Qco hd h81 (l.getD (j+1) 0) (l.getD j 0) (H.set db (bI l))
   rw [decide_eq_false c] at lt
   have st:=Qrj (F:=F) db n (H.set db (bI l)) i (j+1) (l.getD (j+1) 0) (l.getD j 0) (by omega) i1 l1 (by rw [e2];exact i2) (by rw [e2];exact l2) lt
   exact ⟨_,l,lpo (st),.refl,JW CV hS (.inr c)⟩
theorem Qrr (h81:F 81=some Kw) (hn:n≤1000):∀(d i:Nat) (l:List Int),i+d=n→l.length=n→QQ ltI 0 i l →
  ∃l',RT (plF F) 75 (sn 6 B75) (Xt (.s db n) (.i 0) (.i (n:Int)) (.i (i:Int)) Ud) (H.set db (bI l)) (.exit 0) (Xt (.s db n) (.i 0) (.i (n:Int)) (.i (n:Int)) Ud) (H.set db (bI l'))∧Sw 0 n l l'∧QQ ltI 0 n l':=by
 intro d
 induction d with
 | zero =>
  intro i l hi hl hS
  have:i=n:=by omega
  subst this
  exact ⟨l,lpo (sqo (QfY (F:=F) db i (H.set db (bI l)) i (by omega)) (c:=sn 12 B75) (b:=sn 25 B75)),.refl,hS⟩
 | succ d ih =>
  intro i l hi hl hS
  obtain ⟨y,l1,r1,q1,q2⟩:=Qs8 hd h81 (i:=i) (by omega) hn i l hl (qC _) (XK hS)
  have r1':=lpi (e0:=(Xt (.s db n) (.i 0) (.i (n:Int)) (.i (i:Int)) (.i (i:Int)))) r1 (b:=sn 804 B75)
  have st:=sq (Qrg (F:=F) db n (H.set db (bI l)) i (by omega)) (sq (RunsTo.block_normal (i:=1) (c:=sn 50 B75) (sq (Qrh (F:=F) db n (H.set db (bI l)) i) (bke (c:=sn 201 B75) (r1')) (c:=sn 100 B75)) (by kernel_rfl)) (Qrl (F:=F) db n (H.set db (bI l1)) i (y7:=y)) (c:=sn 25 B75)) (c:=sn 12 B75)
  rw [Qi (by omega)] at st
  obtain ⟨l',r,q3,q4⟩:=ih (i+1) l1 (by omega) (q1.len.trans hl) q2
  exact ⟨l',lop (st) (QH _ (by simp)) (r),(q1.mono (qC _) (by omega)).trans q3,q4⟩
theorem QfZ (h81:F 81=some Kw) (h75:F 75=none) (hn:n≤1000) {l:List Int} (hl:l.length=n) :
  ∃l',ClF F 75 [.sl db 0 n none n 1,.int .i64 0,.int .i64 (n:Int)] (H.set db (bI l)) (.tuple []) (H.set db (bI l'))∧l'.Perm l∧QQ ltI 0 n l':=by
 have key:∃z l',RT (plF F) 75 (sn 6 B75) (Xt (.s db n) (.i 0) (.i (n:Int)) (.i (1:Int)) Ud) (H.set db (bI l)) (.exit 0) (Xt (.s db n) (.i 0) (.i (n:Int)) z Ud) (H.set db (bI l'))∧Sw 0 n l l'∧QQ ltI 0 n l':=by
  by_cases c:1≤n
  ·obtain ⟨l',r,q⟩:=Qrr hd h81 hn (n-1) 1 l (by omega) hl (fun p q h1 h2 h3=>by omega)
   exact ⟨_,l',r,q⟩
  ·exact ⟨_,l,lpo (sqo (QfY (F:=F) db n (H.set db (bI l)) 1 (by omega)) (c:=sn 12 B75) (b:=sn 25 B75)),.refl,fun p q h1 h2 h3=>by omega⟩
 obtain ⟨z,l',r,q1,q2⟩:=key
 have a:=Qrf (F:=F) db n (H.set db (bI l))
 have hc:=CallsTo.shared (P:=Tp) (pol:=plF F) (g:=75) (fn:=Try.f75) (cd:=B75) (args:=[.sl db 0 n none n 1,.int .i64 0,.int .i64 (n:Int)]) (v:=.tuple []) h75 (by kernel_rfl) (by kernel_rfl) (by kernel_rfl) (sq (a) (bke (c:=sn 3 B75) (r)) (c:=B75)) (by kernel_rfl) (by simp) (by kernel_rfl)
 rw [QH _ (by simp)] at hc
 exact ⟨l',hc,q1.perm (by omega),q2⟩
theorem Qf0 (h81:F 81=some Kw) (h75:F 75=none) (h62:F 62=none) (hn:n≤12) {l:List Int} (hl:l.length=n) (m:Int) :
  ∃l',ClF F 62 [.sl db 0 n none n 1,.int .i64 0,.int .i64 (n:Int),.int .i64 m] (H.set db (bI l)) (.tuple []) (H.set db (bI l'))∧l'.Perm l∧QQ ltI 0 n l':=by
 obtain ⟨l',hc,q⟩:=QfZ hd h81 h75 (by omega) hl
 obtain ⟨N,hN⟩:=CallsTo.from hc
 have a:=Qrm (F:=F) 0 db n m (H.set db (bI l))
 have b:=Qrn (F:=F) 0 db n m (H.set db (bI l))
 have c:=Qro (F:=F) 0 db n m (H.set db (bI l))
 have d:=Qrp (F:=F) N db n m (H.set db (bI l)) (by omega) hN
 have hw:qA.wrap ((n:Int)-0)=(n:Int):=Qr (by omega) (by omega)
 first | rw [hw] at c | skip
 have lp:=lpo (RunsTo.block_ret (i:=1) (c:=sn 28 B62) (sq (c) (sqo (d) (c:=sn 113 B62) (b:=sn 227 B62)) (c:=sn 56 B62)) (by kernel_rfl)) (c:=sn 14 B62)
 have hc2:=CallsTo.shared (P:=Tp) (pol:=plF F) (g:=62) (fn:=Try.f62) (cd:=B62) (args:=[.sl db 0 n none n 1,.int .i64 0,.int .i64 (n:Int),.int .i64 m]) (v:=.tuple []) h62 (by kernel_rfl) (by kernel_rfl) (by kernel_rfl) (sq (a) (sq (b) (RunsTo.block_ret (i:=0) (c:=sn 7 B62) (lp) (by kernel_rfl)) (c:=sn 3 B62)) (c:=B62)) (by kernel_rfl) (by simp) (by kernel_rfl)
 rw [QH _ (by simp)] at hc2
 exact ⟨l',hc2,q⟩
end
structure StF (F:FuncId→Option (List HV→Option HV)):Prop where
 h81:F 81=some Kw
 h63:F 63=some Jx
 h75:F 75=none
 h62:F 62=none
 h41:F 41=none
theorem Qdk {H:Heap} {b:Nat} {B:Blk} (h:H[b]?=some B):H.set b B=H:=by
 apply List.ext_getElem?
 intro i
 by_cases e:b=i
 ·subst e;rw [zL (Qj h),h]
 ·rw [List.getElem?_set_ne e]
theorem Qdl {F:FuncId→Option (List HV→Option HV)} (hF:StF F) {H:Heap} {db:Nat} {l:List Int} (hb:H[db]?=some (bI l)) (hn:l.length≤12) :
  ∃l',ClF F 41 [.sl db 0 l.length none l.length 1] H (.tuple []) (H.set db (bI l'))∧l'.Perm l∧∀i j,i<j→j<l'.length→l'.getD i 0≤l'.getD j 0:=by
 obtain ⟨h81,h63,h75,h62,h41⟩:=hF
 have hd:=Qj hb
 obtain ⟨l',hc,q1,q2⟩:=Qf0 (F:=F) hd h81 h75 h62 hn (l:=l) rfl (ZA l.length:Int)
 rw [Qdk hb] at hc
 obtain ⟨N,hN⟩:=CallsTo.from hc
 have hu:IntKind.u64.wrap (l.length:Int)=(l.length:Int):=by rw [JC];omega
 have t:=Qrq (F:=F) N db l.length (ZA l.length:Int) H (H0:=H) (fun kf=>by
  rw [hu,WS (pol:=plF F) (g:=63) (F:=Jx) h63 (rs:=[.int .u64 (l.length:Int)]) rfl (res:=.int .i64 (ZA l.length:Int)) (by simp only [Jx];rw [if_pos (by omega),qD])];rfl) hN
 have hc2:=CallsTo.shared (P:=Tp) (pol:=plF F) (g:=41) (fn:=Try.f41) (cd:=B41) (args:=[.sl db 0 l.length none l.length 1]) (v:=.tuple []) h41 (by kernel_rfl) (by kernel_rfl) (by kernel_rfl) t (by kernel_rfl) (by simp) (by kernel_rfl)
 rw [QH _ (by simp)] at hc2
 refine ⟨l',hc2,q1,fun i j hij hj=>?_⟩
 have:=q2 i j (jQ _) hij (by rw [← q1.length_eq];exact hj)
 exact Int.not_lt.1 this
theorem Yq:∀{a b:List Int},a.Pairwise (· < ·)→b.Pairwise (· < ·)→(∀x,x∈a↔x∈b)→a=b
 | [],b,_,_,h=>by
  have:b=[]:=List.eq_nil_iff_forall_not_mem.2 fun x hx=>by cases (h x).2 hx
  rw [this]
 | x::a,[],_,_,h=>by cases (h x).1 (qM ..)
 | x::a,y::b,ha,hb,h=>by
  obtain ⟨a1,a2⟩:=List.pairwise_cons.1 ha
  obtain ⟨b1,b2⟩:=List.pairwise_cons.1 hb
  have e:x=y:=by
   rcases List.mem_cons.1 ((h x).1 (qM ..)) with c | c
   ·exact c
   ·rcases List.mem_cons.1 ((h y).2 (qM ..)) with d | d
    ·exact d.symm
    ·have:=a1 _ d
     have:=b1 _ c
     omega
  subst e
  refine congrArg (x::·) (Yq a2 b2 fun z=>?_)
  constructor
  ·intro hz
   rcases List.mem_cons.1 ((h z).1 (qR _ hz)) with c | c
   ·have:=a1 _ hz;omega
   ·exact c
  ·intro hz
   rcases List.mem_cons.1 ((h z).2 (qR _ hz)) with c | c
   ·have:=b1 _ hz;omega
   ·exact c
theorem Qf1 {l l':List Int} (hn:l.Nodup) (hp:l'.Perm l) (hs:∀i j,i<j→j<l'.length→l'.getD i 0≤l'.getD j 0):l'.Pairwise (· < ·):=by
 have hn':l'.Nodup:=hp.nodup_iff.2 hn
 refine List.pairwise_iff_getElem.2 fun i j hi hj hij=>?_
 have h1:=hs i j hij hj
 rw [QB hi,QB hj] at h1
 have h2:=List.pairwise_iff_getElem.1 hn' i j hi hj hij
 omega
end Go.Proofs.Ytiejmoglooaalaa
end
section
open Go Go.HL
namespace Go.Proofs.Ytiejmoglooaalaa
set_option linter.unusedSectionVars false
open Go.Proofs.Try renaming prog → Tp
open Go.HL.HV renaming undef → Ud
def trG (n:Int) (l:List St):List Int:=if slE n l=0 then frT l else []
def trW (n:Int) (l:List St):Int:=if slE n l=0 then wgt l (frT l) else 0
def Qf2:List HV→Option HV:=f2 kI kS fun n l=>if l.length≤500∧n≤13 then some (.tuple [.own 1 ((trG n l).map Qb),.int .i64 (trW n l),.int .i64 (slE n l)]) else none
theorem Qf3:Try.f14.results.toList=[.tmp 4,.tmp 5,.tmp 6]:=by kernel_rfl
def Vk:FuncId→Option (List HV→Option HV):=fun g=>if g==52 then some WZ else if g==40 then some YC else if g==42 then some Do else if g==81 then some Kw else if g==63 then some Jx else none
theorem Qit (n:Nat):Qn Tp (Qc Tp (plF Vk) n):=Qy _ (fun g f h=>by
 unfold Vk at h
 split at h
 ·rename_i hg;cases h;rw [eq_of_beq hg];exact JJ
 split at h
 ·rename_i hg;cases h;rw [eq_of_beq hg];exact Yi
 split at h
 ·rename_i hg;cases h;rw [eq_of_beq hg];exact Gx
 split at h
 ·rename_i hg;cases h;rw [eq_of_beq hg];exact Qis
 split at h
 ·rename_i hg;cases h;rw [eq_of_beq hg];exact Ds
 ·cases h) n
theorem Qrs:NwF Vk:=⟨by kernel_rfl,by kernel_rfl,by kernel_rfl,by kernel_rfl,by kernel_rfl⟩
theorem Qrt:StF Vk:=⟨by kernel_rfl,by kernel_rfl,by kernel_rfl,by kernel_rfl,by kernel_rfl⟩
theorem Qah (H:Heap) (w e:Int):WP H false (.tuple [.imm .lit 1 [],.int .i64 w,.int .i64 e])=some (.tuple [.own 1 [],.int .i64 w,.int .i64 e]):=by
 simp [WP,QM,cellsOf,Zq,W4,We,mapO];rfl
theorem Qf4:QP Tp 14 Qf2:=by
 refine Qp (pol:=plF Vk) (fn:=Try.f14) (cd:=B14) Qk Qit (by kernel_rfl) (by kernel_rfl) (Zm Vk _ _ (by kernel_rfl)) (by kernel_rfl) ?_
 intro args res h
 obtain ⟨n,l,rfl,hq⟩:=Z9 h
 split at hq
 case isFalse=>cases hq
 rename_i hl
 obtain ⟨hl,hn⟩:=hl
 cases hq
 have a:=QqF (F:=Vk) 0 n (l.map Qa)
 obtain ⟨N0,c39⟩:=CallsTo.from (Ut Qrs (H:=[]) (qC _) n (l:=l) (by omega))
 cases hnet:Ww n l with
 | false =>
  rw [hnet] at c39
  have b:=QqH (F:=Vk) N0 n (l.map Qa) c39 rfl stN
  have c:=Qh0 (F:=Vk) 0 n (l.map Qa) [bN n l]
  refine ⟨_,_,_,.tuple [.imm .lit 1 [],.int .i64 0,.int .i64 2],sq (a) (sq (b) (sqo (c) (c:=sn 7 B14) (b:=sn 15 B14)) (c:=sn 3 B14)) (c:=B14),by simp,by simp only [Qd,Qf3];rfl,?_⟩
  have e:slE n l=2:=by rw [slE,if_neg (by rw [hnet];simp)]
  rw [trG,trW,e,if_neg (by decide),if_neg (by decide)];exact Qah _ _ _
 | true =>
  rw [hnet] at c39
  obtain ⟨⟨n1,n2⟩,n3,he,hw⟩:=QE hnet
  have heB:=K6 he (by omega)
  have hwB:wB l=true:=wB_iff.2 fun s hs=>by have:=hw s hs;omega
  have b:=QqG (F:=Vk) N0 n (l.map Qa) c39 rfl stN
  have c:=QhZ (F:=Vk) 0 n (l.map Qa) [bN n l]
  have c40:=at1 (pol':=plF Vk) (g:=40) (c1:=kN) (f:=fun p=>if GB p.1 p.2 then some (.tuple [.own 1 ((Qf p.2).map Qb),.bool (Wl p.1 p.2)]) else none) (H:=[bN n l]) (by kernel_rfl) (ShN _ n l) (if_pos ⟨heB,by show l.length≤900;omega,by show 0≤n;omega,by show n≤1000;omega⟩)
  rw [Us] at c40
  simp only at c40
  by_cases cn:Wl n l=true
  ·rw [cn] at c40
   have d:=QqI (F:=Vk) 0 n (l.map Qa) [bN n l] 1 (Qf l).length (JE rfl) c40
   have e:=Qh1 (F:=Vk) 0 n (l.map Qa) ([bN n l]++[bI (Qf l)]) 1 (Qf l).length
   have hlen:=DI hnet cn
   obtain ⟨l',cs,hp,hs⟩:=Qdl Qrt (H:=[bN n l]++[bI (Qf l)]) (db:=1) (l:=Qf l) rfl (by omega)
   have e1:l'=frT l:=Yq (Qf1 (ZK l) hp hs) (Kl l) fun x=>by rw [hp.mem_iff];exact frT_mem.symm
   subst e1
   obtain ⟨N1,c41⟩:=CallsTo.from cs
   have hfl:(frT l).length=(Qf l).length:=QaW l
   have c42:=at2 (pol':=plF Vk) (g:=42) (c1:=kN) (c2:=kL) (f:=fun p t=>if inR p.2.length t=true∧wB p.2=true∧t.length≤1000 then some (.int .i64 (wgt p.2 t)) else none) (H:=[bN n l,bI (frT l)]) (v2:=.sl 1 0 (Qf l).length none (Qf l).length 1) (by kernel_rfl) (ShN _ n l) (JV (l:=frT l) hfl rfl) (if_pos ⟨inR_iff.2 fun k hk=>Zo (frT_mem.1 hk),hwB,by show (frT l).length≤1000;omega⟩)
   have z:=QqK (F:=Vk) N1 n (l.map Qa) ([bN n l]++[bI (Qf l)]) 1 (Qf l).length (wgt l (frT l)) c41 (JE rfl) c42
   refine ⟨_,_,_,.tuple [.sl 1 0 (Qf l).length none (Qf l).length 1,.int .i64 (wgt l (frT l)),.int .i64 0],sq (a) (sq (b) (sq (c) (sq (d) (sq (e) (z) (c:=sn 31 B14)) (c:=sn 15 B14)) (c:=sn 7 B14)) (c:=sn 3 B14)) (c:=B14),by simp,by simp only [Qd,Qf3];rfl,?_⟩
   have ee:slE n l=0:=by rw [slE,if_pos hnet,if_pos cn]
   rw [trG,trW,ee,if_pos rfl,if_pos rfl]
   exact Qg9 (b:=1) rfl hfl _ _
  ·rw [VD cn] at c40
   have d:=QqJ (F:=Vk) 0 n (l.map Qa) [bN n l] 1 (Qf l).length (JE rfl) c40
   have e:=Qh2 (F:=Vk) 0 n (l.map Qa) ([bN n l]++[bI (Qf l)]) 1 (Qf l).length
   refine ⟨_,_,_,.tuple [.imm .lit 1 [],.int .i64 0,.int .i64 6],sq (a) (sq (b) (sq (c) (sq (d) (sqo (e) (c:=sn 31 B14) (b:=sn 63 B14)) (c:=sn 15 B14)) (c:=sn 7 B14)) (c:=sn 3 B14)) (c:=B14),by simp,by simp only [Qd,Qf3];rfl,?_⟩
   have ee:slE n l=6:=by rw [slE,if_pos hnet,if_neg cn]
   rw [trG,trW,ee,if_neg (by decide),if_neg (by decide)];exact Qah _ _ _
end Go.Proofs.Ytiejmoglooaalaa
end
section
open Go Go.HL Go.HL.Dt
namespace Go.Proofs.Ytiejmoglooaalaa
set_option linter.unusedSectionVars false
open Go.Proofs.Try renaming prog → Tp
open Go.HL.HV renaming undef → Ud
def crt (a b:Int):Int:=a+2147483647*((b-a%2147483629+2147483629)%2147483629*pw 18 2147483627 2147483629%2147483629)
theorem Qs9 {a b:Int} (ha:0≤a∧a<2147483647) (hb:0≤b∧b<2147483629) :
  qA.wrap (a+qA.wrap (2147483647*((qA.wrap ((qA.wrap (qA.wrap (b-a.tmod 2147483629)+2147483629):Int).tmod 2147483629*pw 18 2147483627 2147483629):Int).tmod 2147483629)))=crt a b∧0≤crt a b∧crt a b<2147483647*2147483629:=by
 have e1:a.tmod 2147483629=a%2147483629:=zI ha.1
 rw [e1]
 have r1:0≤a%2147483629∧a%2147483629<2147483629:=⟨qK _ (by omega),qL _ (by omega)⟩
 unfold crt
 generalize a%2147483629=c at *
 rw [Qr (n:=b-c) (by omega) (by omega),Q7 (x:=b-c+2147483629) (by omega) (by omega),zI (by omega:0≤b-c+2147483629)]
 have r2:0≤(b-c+2147483629)%2147483629∧(b-c+2147483629)%2147483629<2147483629:=⟨qK _ (by omega),qL _ (by omega)⟩
 generalize (b-c+2147483629)%2147483629=d at *
 have r3:0≤pw 18 2147483627 2147483629∧pw 18 2147483627 2147483629<2147483629:=⟨qK _ (by omega),qL _ (by omega)⟩
 generalize pw 18 2147483627 2147483629=z at *
 rw [Qdf (by omega) r2.1 r2.2 r3.1 r3.2 (by omega)]
 have r4:0≤d*z%2147483629∧d*z%2147483629<2147483629:=⟨qK _ (by omega),qL _ (by omega)⟩
 generalize d*z%2147483629=e at *
 rw [Q7 (x:=2147483647*e) (by omega) (by omega),Q7 (by omega) (by omega)]
 omega
theorem CW {p:Int} (hp:1<p) (n:Int) (l:List St):0≤smT p n l∧smT p n l<p:=CU hp _ _ _
def ctT (n:Int) (l:List St):Int:=if Ww n l=true then (if Wl n l=true then crt (smT 2147483647 n l) (smT 2147483629 n l) else 0) else 0
def ctE (n:Int) (l:List St):Int:=if Ww n l=true then 0 else 2
def Qcp:List HV→Option HV:=f2 kI kS fun n l=>if l.length≤500 then some (.tuple [.int .i64 (ctT n l),.int .i64 (ctE n l)]) else none
theorem Qf5:Try.f16.results.toList=[.tmp 4,.tmp 5]:=by kernel_rfl
def Kx:FuncId→Option (List HV→Option HV):=fun g=>if g==52 then some WZ else if g==40 then some YC else if g==44 then some D4 else if g==45 then some Qab else none
theorem Qiu (n:Nat):Qn Tp (Qc Tp (plF Kx) n):=Qy _ (fun g f h=>by
 unfold Kx at h
 split at h
 ·rename_i hg;cases h;rw [eq_of_beq hg];exact JJ
 split at h
 ·rename_i hg;cases h;rw [eq_of_beq hg];exact Yi
 split at h
 ·rename_i hg;cases h;rw [eq_of_beq hg];exact Qag
 split at h
 ·rename_i hg;cases h;rw [eq_of_beq hg];exact Qi0
 ·cases h) n
theorem Qru:NwF Kx:=⟨by kernel_rfl,by kernel_rfl,by kernel_rfl,by kernel_rfl,by kernel_rfl⟩
theorem Qf6:QP Tp 16 Qcp:=by
 refine Qp (pol:=plF Kx) (fn:=Try.f16) (cd:=B16) Qk Qiu (by kernel_rfl) (by kernel_rfl) (Zm Kx _ _ (by kernel_rfl)) (by kernel_rfl) ?_
 intro args res h
 obtain ⟨n,l,rfl,hq⟩:=Z9 h
 split at hq
 case isFalse=>cases hq
 rename_i hl
 cases hq
 have a:=Qpc (F:=Kx) 0 n (l.map Qa)
 obtain ⟨N0,c39⟩:=CallsTo.from (Ut Qru (H:=[]) (qC _) n (l:=l) (by omega))
 cases hnet:Ww n l with
 | false =>
  rw [hnet] at c39
  have b:=Qpe (F:=Kx) N0 n (l.map Qa) c39 rfl stN
  have c:=QhK (F:=Kx) 0 n (l.map Qa) [bN n l]
  refine ⟨_,_,_,.tuple [.int .i64 0,.int .i64 2],sq (a) (sq (b) (sqo (c) (c:=sn 7 B16) (b:=sn 15 B16)) (c:=sn 3 B16)) (c:=B16),by simp,by simp only [Qd,Qf5];rfl,?_⟩
  rw [ctT,ctE,if_neg (by rw [hnet];simp),if_neg (by rw [hnet];simp)];rfl
 | true =>
  rw [hnet] at c39
  obtain ⟨⟨n1,n2⟩,n3,he,hw⟩:=QE hnet
  have heB:=K6 he (by omega)
  have b:=Qpd (F:=Kx) N0 n (l.map Qa) c39 rfl stN
  have c:=QhJ (F:=Kx) 0 n (l.map Qa) [bN n l]
  have c40:=at1 (pol':=plF Kx) (g:=40) (c1:=kN) (f:=fun p=>if GB p.1 p.2 then some (.tuple [.own 1 ((Qf p.2).map Qb),.bool (Wl p.1 p.2)]) else none) (H:=[bN n l]) (by kernel_rfl) (ShN _ n l) (if_pos ⟨heB,by show l.length≤900;omega,by show 0≤n;omega,by show n≤1000;omega⟩)
  rw [Us] at c40
  simp only at c40
  by_cases cn:Wl n l=true
  ·rw [cn] at c40
   have d:=Qpf (F:=Kx) 0 n (l.map Qa) [bN n l] 1 (Qf l).length (JE rfl) c40
   have e:=QhL (F:=Kx) 0 n (l.map Qa) ([bN n l]++[bI (Qf l)]) 1 (Qf l).length
   have k1:=at2 (pol':=plF Kx) (g:=44) (c1:=kN) (c2:=kI) (f:=fun q p=>if smP q.1 q.2 p then some (.int .i64 (smT p q.1 q.2)) else none) (H:=[bN n l]++[bI (Qf l)]) (by kernel_rfl) (ShN _ n l) (ShI _ 2147483647) (if_pos ⟨by show 0≤n∧n≤16;omega,heB,by show l.length≤900;omega,by omega⟩)
   have k2:=at2 (pol':=plF Kx) (g:=44) (c1:=kN) (c2:=kI) (f:=fun q p=>if smP q.1 q.2 p then some (.int .i64 (smT p q.1 q.2)) else none) (H:=[bN n l]++[bI (Qf l)]) (by kernel_rfl) (ShN _ n l) (ShI _ 2147483629) (if_pos ⟨by show 0≤n∧n≤16;omega,heB,by show l.length≤900;omega,by omega⟩)
   have s1:=CW (p:=2147483647) (by omega) n l
   have s2:=CW (p:=2147483629) (by omega) n l
   have ld0:QK Tp ([bN n l]++[bI (Qf l)]) 66 (.ptr 0 0 0 1)=some (Qv n l):=JE rfl
   have f:=Qph (F:=Kx) 0 n (l.map Qa) ([bN n l]++[bI (Qf l)]) 1 (Qf l).length (smT 2147483647 n l) (smT 2147483629 n l) ld0 k1 ld0 k2 (Yy ld0 ld0 (VG n l) (QG (UF n l) (WX _)) (QG (UF n l) (WX _)))
   have k3:=at3 (pol':=plF Kx) (g:=45) (c1:=kI) (c2:=kI) (c3:=kI) (f:=fun a n p=>if QfI a n p then some (.int .i64 (pw a n.toNat p)) else none) (H:=[bN n l]++[bI (Qf l)]) (by kernel_rfl) (ShI _ 18) (ShI _ 2147483627) (ShI _ 2147483629) (if_pos ⟨by omega,by omega,by omega,by omega⟩)
   have cw:=Qs9 s1 s2
   have g:=Qpi (F:=Kx) 0 n (l.map Qa) ([bN n l]++[bI (Qf l)]) (smT 2147483647 n l) (smT 2147483629 n l) (pw 18 2147483627 2147483629) (y9:=.bool true) k3
   have ee:ctT n l=crt (smT 2147483647 n l) (smT 2147483629 n l)∧ctE n l=0:=by rw [ctT,ctE,if_pos hnet,if_pos cn,if_pos hnet];exact ⟨rfl,rfl⟩
   generalize smT 2147483647 n l=x at *
   generalize smT 2147483629 n l=y at *
   have z:=Qpj (F:=Kx) 0 n (l.map Qa) ([bN n l]++[bI (Qf l)]) x ((qA.wrap ((qA.wrap (qA.wrap (y-(x:Int).tmod 2147483629)+2147483629):Int).tmod 2147483629*pw 18 2147483627 2147483629):Int).tmod 2147483629) (y9:=.bool true) (y11:=.i y)
   rw [cw.1] at z
   refine ⟨_,_,_,.tuple [.int .i64 (crt x y),.int .i64 0],sq (a) (sq (b) (sq (c) (sq (sq (d) (e) (c:=sn 30 B16)) (sq (f) (sq (g) (z) (c:=sn 63 B16)) (c:=sn 31 B16)) (c:=sn 15 B16)) (c:=sn 7 B16)) (c:=sn 3 B16)) (c:=B16),by simp,by simp only [Qd,Qf5];rfl,?_⟩
   rw [ee.1,ee.2];rfl
  ·rw [VD cn] at c40
   have d:=Qpg (F:=Kx) 0 n (l.map Qa) [bN n l] 1 (Qf l).length (JE rfl) c40
   have e:=QhM (F:=Kx) 0 n (l.map Qa) ([bN n l]++[bI (Qf l)]) 1 (Qf l).length
   refine ⟨_,_,_,.tuple [.int .i64 0,.int .i64 0],sq (a) (sq (b) (sq (c) (sqo (sq (d) (e) (c:=sn 30 B16)) (c:=sn 15 B16) (b:=sn 31 B16)) (c:=sn 7 B16)) (c:=sn 3 B16)) (c:=B16),by simp,by simp only [Qd,Qf5];rfl,?_⟩
   rw [ctT,ctE,if_pos hnet,if_neg cn,if_pos hnet];rfl
theorem cgT {p a b c:Int} (h:p∣a-b) (k:p∣b-c):p∣a-c:=by
 have:=Int.dvd_add h k
 rwa [show a-b+(b-c)=a-c by omega] at this
theorem cgA {p a b c d:Int} (h:p∣a-b) (k:p∣c-d):p∣(a+c)-(b+d):=by
 have:=Int.dvd_add h k
 rwa [show a-b+(c-d)=(a+c)-(b+d) by omega] at this
theorem cgR (p a:Int):p∣a-a:=by rw [Int.sub_self];exact Int.dvd_zero p
theorem cgS {p a b:Int} (h:p∣a-b):p∣b-a:=by
 have:=Int.dvd_neg.2 h
 rwa [show -(a-b)=b-a by omega] at this
theorem Qf7 {d d':List Row→Int} {φ:Int→Int} {c:Int} (hd:∀R,d R=d' (R.map fun r z=>r (φ z))):∀(R P:List Row) (s:Int),ex d (φ c) P R s=ex d' c (P.map fun r z=>r (φ z)) (R.map fun r z=>r (φ z)) s
 | [],P,s=>rfl
 | r::R,P,s=>by
  rw [ex,qH,ex,hd,Qf7 hd R,qW,qW];rfl
theorem Qcq {φ:Int→Int}:∀(cs:List Int) (R:List Row),det (cs.map φ) R=det cs (R.map fun r z=>r (φ z))
 | [],[]=>rfl
 | [],_::_=>rfl
 | c::cs,R=>by
  rw [qH,det,det]
  exact Qf7 (φ:=φ) (c:=c) (fun R=>Qcq cs R) R [] 1
theorem CX:∀k c:Nat,J2 c k=(qY k).map fun i=>((c+i:Nat):Int)
 | 0,_=>rfl
 | k+1,c=>by
  rw [J2,CX k (c+1),List.range_succ_eq_map,qH,jU]
  refine congrArg (List.cons (c:Int)) (List.map_congr_left fun i _=>?_)
  show ((c+1+i:Nat):Int)=((c+(i+1):Nat):Int)
  omega
def en (M:List (List Int)) (i j:Nat):Int:=(M.getD i []).getD j 0
theorem Qcr (P Q:Prop) [Decidable P] [Decidable Q]:(if P∧Q then (1:Int) else 0)=(if P then 1 else 0)*if Q then 1 else 0:=by
 by_cases a:P <;> by_cases b:Q <;> simp [a,b]
theorem Qcs (P Q:Prop) [Decidable P] [Decidable Q]:(if P∧Q then (-1:Int) else 0)=-((if P then 1 else 0)*if Q then 1 else 0):=by
 by_cases a:P <;> by_cases b:Q <;> simp [a,b]
theorem Qct {p:Int} {N:Nat} {M:List (List Int)} (h:WN p N M) {i j:Nat} (hi:i<N) (hj:j<N) (i0 j0:Nat) (d:Int):p∣en (adM p N i0 j0 d M) i j-(en M i j+if i0=i∧j0=j then d else 0):=by
 unfold adM en
 have hml:=h.1
 by_cases c:i0<N∧j0<N
 ·have hri:=h.2 _ (by rw [Jv (by omega)];exact zH _:M.getD i0 []∈M)
  rw [if_pos c,W3 (by omega)]
  by_cases e1:i0=i
  ·subst e1
   rw [if_pos rfl,YS (by rw [hri.1];exact c.2)]
   by_cases e2:j0=j
   ·subst e2
    rw [if_pos rfl,if_pos ⟨rfl,rfl⟩,D0]
    refine cgT (WK _ p) ?_
    rw [show (M.getD i0 []).getD j0 0+d+p-((M.getD i0 []).getD j0 0+d)=p by omega]
    exact Int.dvd_refl p
   ·rw [if_neg e2,if_neg fun h=>e2 h.2,qU];exact cgR ..
  ·rw [if_neg e1,if_neg fun h=>e1 h.1,qU];exact cgR ..
 ·rw [if_neg c,if_neg fun h=>c ⟨by omega,by omega⟩,qU];exact cgR ..
theorem Qcu:∀{V:List Int} {i:Nat},V.Nodup→i<V.length→Wy V (V.getD i 0)=i
 | [],_,_,h=>by simp at h
 | y::V,0,_,_=>by rw [Wy];exact if_pos rfl
 | y::V,i+1,hn,h=>by
  obtain ⟨h1,h2⟩:=List.nodup_cons.1 hn
  have hi:i<V.length:=by simpa using h
  have hm:V.getD i 0∈V:=Qu 0 hi
  rw [List.getD_cons_succ,Wy,if_neg (fun e=>h1 (by rw [← e];exact hm)),if_pos hm,Qcu h2 hi]
theorem CY {V:List Int} (hn:V.Nodup) {x:Int} (hx:x∈V) {i:Nat} (hi:i<V.length):dl x (V.getD i 0)=if Wy V x=i then 1 else 0:=by
 unfold dl
 by_cases c:Wy V x=i
 ·rw [if_pos c,if_pos (by rw [← c];exact (Qaf hx).symm)]
 ·rw [if_neg c,if_neg fun e=>c (by rw [e];exact Qcu hn hi)]
theorem Qf8 {V:List Int} {x:Int} (hx:x∉V) {i:Nat} (hi:i<V.length):dl x (V.getD i 0)=0:=if_neg fun e=>hx (by rw [e];exact Qu 0 hi)
theorem Qrv {p:Int} (hp:0<p) {V g1:List Int} {w:Int} {M:List (List Int)} (h:WN p (V.length-1) M) (hn:V.Nodup) (s:St) (hxy:s.2.2=w→(g1.getD s.1.toNat 0∈V↔g1.getD s.2.1.toNat 0∈V)) {i j:Nat} (hi:i<V.length-1) (hj:j<V.length-1) :
  p∣en (adS p V g1 w M s) i j-(en M i j+if s.2.2=w then (dl (g1.getD s.1.toNat 0) (V.getD i 0)-dl (g1.getD s.2.1.toNat 0) (V.getD i 0))*(dl (g1.getD s.1.toNat 0) (V.getD j 0)-dl (g1.getD s.2.1.toNat 0) (V.getD j 0)) else 0):=by
 unfold adS
 by_cases cw:s.2.2=w
 ·have hm:=hxy cw
  rw [if_pos cw]
  generalize g1.getD s.1.toNat 0=x at *
  generalize g1.getD s.2.1.toNat 0=y at *
  by_cases cx:x∈V
  ·have cy:=hm.1 cx
   rw [CY hn cx (by omega),CY hn cx (by omega),CY hn cy (by omega),CY hn cy (by omega)]
   generalize Wy V x=a at *
   generalize Wy V y=b at *
   by_cases e:a=b
   ·rw [if_neg fun h=>h.2.2 e,e,Int.sub_self,Int.zero_mul,qU];exact cgR ..
   ·rw [if_pos ⟨cx,cw,e⟩]
    have o1:=Kv hp h a a 1
    have o2:=Kv hp o1 b b 1
    have o3:=Kv hp o2 a b (-1)
    have e1:=Qct h hi hj a a 1
    have e2:=Qct o1 hi hj b b 1
    have e3:=Qct o2 hi hj a b (-1)
    have e4:=Qct o3 hi hj b a (-1)
    refine cgT e4 ?_
    have k3:=cgA e3 (cgR p (if b=i∧a=j then -1 else 0))
    refine cgT k3 ?_
    have k2:=cgA (cgA e2 (cgR p (if a=i∧b=j then -1 else 0))) (cgR p (if b=i∧a=j then -1 else 0))
    refine cgT k2 ?_
    have k1:=cgA (cgA (cgA e1 (cgR p (if b=i∧b=j then 1 else 0))) (cgR p (if a=i∧b=j then -1 else 0))) (cgR p (if b=i∧a=j then -1 else 0))
    refine cgT k1 ?_
    have:en M i j+(if a=i∧a=j then 1 else 0)+(if b=i∧b=j then 1 else 0)+(if a=i∧b=j then -1 else 0)+(if b=i∧a=j then -1 else 0)=en M i j+((if a=i then 1 else 0)-if b=i then 1 else 0)*((if a=j then 1 else 0)-if b=j then 1 else 0):=by
     rw [Qcr,Qcr,Qcs,Qcs,Int.sub_mul,Int.mul_sub,Int.mul_sub];omega
    rw [this];exact cgR ..
  ·have cy:y∉V:=fun c=>cx (hm.2 c)
   rw [if_neg fun h=>cx h.1,Qf8 cx (by omega),Qf8 cy (by omega),Int.sub_self,Int.zero_mul,qU];exact cgR ..
 ·rw [if_neg cw,if_neg fun h=>cw h.2.1,qU];exact cgR ..
section
variable {n:Int} {l:List St} (hnet:Ww n l=true) {P:List Int} (hP:InR l P) {w:Int}
include hnet hP
theorem Qf9 (k:Nat):ofW l w (Qg (k+1))=ofW l w (Qg k)++if wOf l (k:Int)=w then [(k:Int)] else []:=by
 unfold ofW Qg
 rw [zF,qW,List.filter_append]
 congr 1
 by_cases c:wOf l (k:Int)=w
 ·rw [if_pos c]
  exact List.filter_eq_self.2 fun x hx=>by
   rw [qH,qZ,zC] at hx
   rw [hx];exact decide_eq_true c
 ·rw [if_neg c]
  exact List.filter_eq_nil_iff.2 fun x hx h=>by
   rw [qH,qZ,zC] at hx
   rw [hx] at h
   exact c (of_decide_eq_true h)
theorem Qi5 {p:Int} (hp:0<p) {V:List Int} (hn:V.Nodup) (hV:∀e∈ofW l w (alS l),(lb l P (sA l e)∈V↔lb l P (sB l e)∈V)) {i j:Nat} (hi:i<V.length-1) (hj:j<V.length-1) :
  ∀k,k≤l.length→p∣en ((l.take k).foldl (adS p V (Qz l P) w) (zM (V.length-1))) i j-Lp l P (ofW l w (Qg k)) (V.getD i 0) (V.getD j 0)
 | 0,_=>by
  have e1:en (zM (V.length-1)) i j=0:=by simp [en,zM,qT,hi,hj]
  have e2:Lp l P (ofW l w (Qg 0)) (V.getD i 0) (V.getD j 0)=0:=rfl
  rw [List.take_zero,List.foldl_nil,e1,e2];exact cgR ..
 | k+1,hk=>by
  have ih:=Qi5 hp hn hV hi hj k (by omega)
  have hkl:k<l.length:=by omega
  have hok:WN p (V.length-1) ((l.take k).foldl (adS p V (Qz l P) w) (zM (V.length-1))):=D2 hp _ (Qcm hp _)
  rw [zT hkl,jH,Qf9 hnet hP]
  have hs:l[k]=l.getD ((k:Int)).toNat (0,0,0):=by rw [qD,qT,zE hkl];rfl
  rw [hs]
  have a:=Qrv hp hok hn (l.getD ((k:Int)).toNat (0,0,0)) (g1:=Qz l P) (w:=w) (fun hw=>hV (k:Int) (of_mem.2 ⟨startT_mem.2 ⟨by omega,by omega⟩,hw⟩)) hi hj
  refine cgT a ?_
  by_cases c:wOf l (k:Int)=w
  ·rw [if_pos c,if_pos (show (l.getD ((k:Int)).toNat (0,0,0)).2.2=w from c),CH,qI,Int.add_comm (ed l P _ _ _)]
   exact cgA ih (cgR ..)
  ·rw [if_neg c,if_neg (show ¬(l.getD ((k:Int)).toNat (0,0,0)).2.2=w from c),qI,qU]
   exact ih
theorem Qiv {p:Nat} (hpr:Pr p) (hp2:2<p) {top:Nat} :
  (p:Int)∣gz (p:Int) (VV p) ((vtG (Qz l P) (Qz l (P++ofW l w (alS l))) n.toNat (top:Int)).length-1) ((vtG (Qz l P) (Qz l (P++ofW l w (alS l))) n.toNat (top:Int)).length-1) 0 1 (mxT p (vtG (Qz l P) (Qz l (P++ofW l w (alS l))) n.toNat (top:Int)) (Qz l P) w l)
   - det (vt l P (ofW l w (alS l)) n.toNat (top:Int)).dropLast ((vt l P (ofW l w (alS l)) n.toNat (top:Int)).dropLast.map (Lp l P (ofW l w (alS l)))):=by
 have hE:=GP l w
 have he:=QA hnet
 have hVe:vtG (Qz l P) (Qz l (P++ofW l w (alS l))) n.toNat (top:Int)=vt l P (ofW l w (alS l)) n.toNat (top:Int):=rfl
 rw [hVe]
 have hmem:=fun x=>vt_mem (l:=l) (P:=P) (E:=ofW l w (alS l)) (n:=n.toNat) (top:=(top:Int)) (x:=x)
 have hn:=DU l P (ofW l w (alS l)) n.toNat (top:Int)
 have hV:∀e∈ofW l w (alS l),(lb l P (sA l e)∈vt l P (ofW l w (alS l)) n.toNat (top:Int)↔lb l P (sB l e)∈vt l P (ofW l w (alS l)) n.toNat (top:Int)):=fun e hm=>by
  obtain ⟨⟨n1,n2⟩,_⟩:=QE hnet
  obtain ⟨ea,eb⟩:=Kt he (hE e hm)
  have na:=JZ hnet (hE e hm)
  have la:=Zf he hP ea
  have lb':=Zf he hP eb
  rw [hmem,hmem,GN hnet hP hE ea,GN hnet hP hE eb,Qfz hnet hP hE hm]
  constructor
  ·rintro ⟨_,_,c⟩;exact ⟨by omega,lb'.2.2,c⟩
  ·rintro ⟨_,_,c⟩;exact ⟨by omega,la.2.2,c⟩
 generalize vt l P (ofW l w (alS l)) n.toNat (top:Int)=V at *
 have hp0:(0:Int)<(p:Int):=by omega
 have hinv:∀a:Int,0<a→a<(p:Int)→(a*VV p a)%(p:Int)=1:=fun a h0 h1=>by
  have:=hpr.invI h0 h1
  have e:((p:Int)-2).toNat=p-2:=by omega
  rw [VV,e];exact this
 have hok:WN (p:Int) (V.length-1) (mxT p V (Qz l P) w l):=D2 hp0 _ (Qcm hp0 _)
 have g:=QfL (p:=(p:Int)) (by omega) hinv (N:=V.length-1) (V.length-1) 0 1 (mxT p V (Qz l P) w l) (jN _) hok
 rw [List.drop_zero,Int.one_mul] at g
 refine cgT g ?_
 have hlen:V.dropLast.length=V.length-1:=List.length_dropLast
 have e1:V.dropLast=(J2 0 (V.length-1)).map fun z=>V.getD z.toNat 0:=by
  rw [CX,jU]
  refine J5 (d:=0) (by simp) fun j hj=>?_
  rw [hlen] at hj
  rw [YR (d:=0) hj]
  show V.dropLast.getD j 0=V.getD ((0+j:Nat):Int).toNat 0
  rw [jN,qD]
  simp only [qT]
  rw [List.dropLast_eq_take,zU (by omega)]
 have e2:(V.dropLast.map (Lp l P (ofW l w (alS l)))).map (fun (r:Row) (z:Int)=>r (V.getD z.toNat 0))=(J2 0 (V.length-1)).map fun (z:Int)=>(fun (z':Int)=>Lp l P (ofW l w (alS l)) (V.getD z.toNat 0) (V.getD z'.toNat 0)):=by
  rw [jU]
  conv=>lhs;rw [e1]
  rw [jU];rfl
 have e3:det V.dropLast (V.dropLast.map (Lp l P (ofW l w (alS l))))=det (J2 0 (V.length-1)) ((V.dropLast.map (Lp l P (ofW l w (alS l)))).map (fun (r:Row) (z:Int)=>r (V.getD z.toNat 0))):=by
  have:=Qcq (φ:=fun z=>V.getD z.toNat 0) (J2 0 (V.length-1)) (V.dropLast.map (Lp l P (ofW l w (alS l))))
  rw [← this,← e1]
 rw [e3,e2]
 have e4:(mxT p V (Qz l P) w l).map rw=(J2 0 (V.length-1)).map fun (z:Int)=>rw ((mxT p V (Qz l P) w l).getD z.toNat []):=by
  rw [CX,jU]
  refine List.ext_getElem (by simp [hok.1]) fun j h1 h2=>?_
  have hj:j<(mxT p V (Qz l P) w l).length:=by simpa using h1
  simp only [List.getElem_map,List.getElem_range,Function.comp,jN,qD]
  rw [Jv hj]
 rw [e4]
 refine CF _ _ _ (cgm fun z hz z' hz'=>?_)
 have h1:=cols_mem.1 hz
 have h2:=cols_mem.1 hz'
 have k:=Qi5 (w:=w) hnet hP hp0 hn hV (i:=z.toNat) (j:=z'.toNat) (by omega) (by omega) l.length (qC _)
 rw [qN] at k
 exact k
theorem Qcv {p:Nat} (hpr:Pr p) (hp2:2<p):∀k:Nat,(p:Int)∣spK p (Qz l P) (Qz l (P++ofW l w (alS l))) w l n.toNat k-Uk jE l P (ofW l w (alS l)) n.toNat k
 | 0=>cgR ..
 | k+1=>by
  have ih:=Qcv hpr hp2 k
  have t:=Qiv hnet hP (w:=w) hpr hp2 (top:=k)
  have hVe:vtG (Qz l P) (Qz l (P++ofW l w (alS l))) n.toNat (k:Int)=vt l P (ofW l w (alS l)) n.toNat (k:Int):=rfl
  rw [spK,Uk]
  by_cases c:(vtG (Qz l P) (Qz l (P++ofW l w (alS l))) n.toNat (k:Int)).length<2
  ·rw [if_pos c]
   rw [hVe] at c
   have:(vt l P (ofW l w (alS l)) n.toNat (k:Int)).dropLast=[]:=List.eq_nil_of_length_eq_zero (by rw [List.length_dropLast];omega)
   rw [this,qZ,det,Int.mul_one];exact ih
  ·rw [if_neg c]
   exact cgT (WK _ _) (Zg ih t)
end
section
variable {n:Int} {l:List St} (hnet:Ww n l=true)
include hnet
theorem Qiw {w:Nat} (h:ofW l w (alS l)=[]):cN l (w+1)=cN l w:=by
 have e:rk l (loW l w (alS l))=rk l (loW l ((w:Int)-1) (alS l)):=QX (QA hnet) (Ui l _) fun k=>by
  have:=(Yl l (w:Int) (alS l)).mem_iff (a:=k)
  rw [h,qI] at this
  exact this
 rw [cN,h,e,qO,cnt]
 have:fo l (loW l ((w:Int)-1) (alS l)) 0 []=true:=by unfold fo;rw [qI];exact decide_eq_true ⟨rfl,rfl⟩
 rw [Wt,if_pos this,Nat.mul_one]
theorem CZ {a:Nat}:∀b,a≤b→(∀k,0≤k∧k<(l.length:Int)→¬((a:Int)≤wOf l k∧wOf l k<(b:Int)))→cN l b=cN l a
 | 0,h,_=>by
  have:a=0:=by omega
  rw [this]
 | b+1,h,hk=>by
  by_cases c:a=b+1
  ·rw [c]
  ·have he:ofW l (b:Int) (alS l)=[]:=List.eq_nil_iff_forall_not_mem.2 fun k hm=>by
    have:=of_mem.1 hm
    exact hk k (GO l k this.1) (by omega)
   rw [Qiw hnet he,CZ (a:=a) b (by omega) fun k hkr hc=>hk k hkr (by omega)]
theorem Qrw {p:Nat} (hpr:Pr p) (hp2:2<p):∀i,i≤(Qh l).length →
  ∀W:Nat,(∀a,a<(Qh l).length→((a<(smF p n.toNat l i).2→wOf l ((Qh l).getD a 0)<(W:Int))∧((smF p n.toNat l i).2≤a→(W:Int)≤wOf l ((Qh l).getD a 0))))→(smF p n.toNat l i).2≤i∧(p:Int)∣(smF p n.toNat l i).1-(cN l W:Int):=by
 intro i
 have he:=QA hnet
 have hO:∀k∈Qh l,0≤k∧k<(l.length:Int):=fun k hk=>ordT_mem.1 hk
 have pos:∀k,0≤k∧k<(l.length:Int)→∃a,a<(Qh l).length∧(Qh l).getD a 0=k:=fun k hk=>Cx hnet hk
 induction i with
 | zero =>
  intro _ W h
  refine ⟨qC _,?_⟩
  have:cN l W=cN l 0:=CZ hnet W (jQ _) fun k hk hc=>by
   obtain ⟨a,ha,e⟩:=pos k hk
   have:=(h a ha).2 (jQ _)
   rw [e] at this;omega
  rw [this];exact cgR ..
 | succ i ih =>
  intro hi W h
  have hil:i<(Qh l).length:=by omega
  by_cases c:i+1<(Qh l).length∧wOf l ((Qh l).getD (i+1) 0)=wOf l ((Qh l).getD i 0)
  ·have e1:smF (p:Int) n.toNat l (i+1)=smF p n.toNat l i:=by rw [smF,if_pos c]
   rw [e1] at h ⊢
   obtain ⟨a,b⟩:=ih (by omega) W h
   exact ⟨by omega,b⟩
  ·have e1:smF (p:Int) n.toNat l (i+1)=((smF (p:Int) n.toNat l i).1*spK p (Qz l ((Qh l).take (smF (p:Int) n.toNat l i).2)) (Qz l ((Qh l).take (i+1))) (wOf l ((Qh l).getD i 0)) l n.toNat n.toNat%p,i+1):=by rw [smF,if_neg c]
   rw [e1] at h ⊢
   simp only at h ⊢
   refine ⟨qC _,?_⟩
   have hki:=hO _ (Qu 0 hil)
   have hwi:=Yj hnet hki
   obtain ⟨w,hw⟩:=zN hwi.1
   have key:∀i,i<(Qh l).length→∀a,a<(Qh l).length→(a<(smF (p:Int) n.toNat l i).2↔wOf l ((Qh l).getD a 0)<wOf l ((Qh l).getD i 0)):=by
    intro i
    induction i with
    | zero =>
     intro h0 a ha
     have:=VO hnet (jQ a) ha
     rw [smF]
     constructor
     ·intro h;simp at h
     ·intro h;omega
    | succ i ih2 =>
     intro hi2 a ha
     by_cases c2:i+1<(Qh l).length∧wOf l ((Qh l).getD (i+1) 0)=wOf l ((Qh l).getD i 0)
     ·rw [smF,if_pos c2,ih2 (by omega) a ha,c2.2]
     ·rw [smF,if_neg c2]
      have o1:=VO hnet (i:=i) (j:=i+1) (by omega) hi2
      have hne:wOf l ((Qh l).getD (i+1) 0)≠wOf l ((Qh l).getD i 0):=fun h=>c2 ⟨hi2,h⟩
      show a<i+1↔_
      constructor
      ·intro h
       have:=VO hnet (i:=a) (j:=i) (by omega) (by omega)
       omega
      ·intro h
       rcases jP a (i+1) with d | d
       ·exact d
       ·exfalso
        have:=VO hnet d ha
        omega
   have kI:=key i hil
   have hih:(p:Int)∣(smF (p:Int) n.toNat l i).1-(cN l w:Int):=(ih (by omega) w fun a ha=>by
    have:=kI a ha
    rw [hw] at this
    constructor
    ·intro h;exact this.1 h
    ·intro h
     rcases Int.lt_or_le (wOf l ((Qh l).getD a 0)) (w:Int) with d | d
     ·have:=this.2 d;omega
     ·exact d).2
   have hPm:∀k,k∈(Qh l).take (smF (p:Int) n.toNat l i).2↔k∈loW l ((w:Int)-1) (alS l):=fun k=>by
    rw [lo_mem,startT_mem]
    constructor
    ·intro hk
     have hk0:=hO k (jA hk)
     obtain ⟨a,ha,e⟩:=List.getElem_of_mem hk
     rw [qQ] at ha
     rw [jZ] at e
     have:=(kI a (by omega)).1 (by omega)
     rw [QB (by omega),e,hw] at this
     exact ⟨hk0,by omega⟩
    ·rintro ⟨hk0,hkw⟩
     obtain ⟨a,ha,e⟩:=pos k hk0
     have:=(kI a ha).2 (by rw [e,hw];omega)
     rw [List.mem_iff_getElem]
     refine ⟨a,by rw [qQ];omega,?_⟩
     rw [jZ,← QB (d:=0) ha];exact e
   have hEm:∀k,k∈(Qh l).take (i+1)↔k∈(Qh l).take (smF (p:Int) n.toNat l i).2++ofW l w (alS l):=fun k=>by
    rw [jX,hPm,lo_mem,of_mem,startT_mem]
    constructor
    ·intro hk
     have hk0:=hO k (jA hk)
     obtain ⟨a,ha,e⟩:=List.getElem_of_mem hk
     rw [qQ] at ha
     rw [jZ] at e
     have o1:=VO hnet (i:=a) (j:=i) (by omega) hil
     rw [QB (y:=a) (by omega),e,hw] at o1
     rcases Int.lt_or_eq_of_le o1 with d | d
     ·exact .inl ⟨hk0,by omega⟩
     ·exact .inr ⟨hk0,d⟩
    ·intro hk
     have hk0:0≤k∧k<(l.length:Int):=hk.elim (·.1) (·.1)
     have hkw:wOf l k≤(w:Int):=hk.elim (fun h=>by have:=h.2;omega) fun h=>by have:=h.2;omega
     obtain ⟨a,ha,e⟩:=pos k hk0
     have hai:a<i+1:=by
      rcases jP a (i+1) with d | d
      ·exact d
      ·exfalso
       have o1:=VO hnet (i:=i) (j:=i+1) (by omega) (by omega)
       have o2:=VO hnet (i:=i+1) (j:=a) d ha
       rw [e] at o2
       exact c ⟨by omega,by omega⟩
     rw [List.mem_iff_getElem]
     refine ⟨a,by rw [qQ];omega,?_⟩
     rw [jZ,← QB (d:=0) ha];exact e
   have hPi:InR l ((Qh l).take (smF (p:Int) n.toNat l i).2):=fun k hk=>hO k (jA hk)
   have hl2:Qz l ((Qh l).take (i+1))=Qz l ((Qh l).take (smF (p:Int) n.toNat l i).2++ofW l w (alS l)):=VM he (fun k hk=>hO k (jA hk)) hEm
   rw [hl2,hw]
   have sp:=Qcv hnet hPi (w:=(w:Int)) hpr hp2 n.toNat
   have hd:Uk jE l ((Qh l).take (smF (p:Int) n.toNat l i).2) (ofW l w (alS l)) n.toNat n.toNat=Uk jE l (loW l ((w:Int)-1) (alS l)) (ofW l w (alS l)) n.toNat n.toNat:=QfA hnet Yk Yk hPi (GP l w) hPm (List.Perm.refl _)
   rw [hd] at sp
   have hcw:cW jE n l (w+1)=cW jE n l w*Uk jE l (loW l ((w:Int)-1) (alS l)) (ofW l w (alS l)) n.toNat n.toNat:=rfl
   rw [QfC hnet Yk,QfC hnet Yk] at hcw
   have hW:cN l W=cN l (w+1):=by
    have hwW:w+1≤W:=by
     have:=(h i hil).1 (by omega)
     rw [hw] at this;omega
    refine CZ hnet W hwW fun k hk hc=>?_
    obtain ⟨a,ha,e⟩:=pos k hk
    rcases jP a (i+1) with d | d
    ·have o1:=VO hnet (i:=a) (j:=i) (by omega) hil
     rw [e,hw] at o1;omega
    ·have:=(h a ha).2 d
     rw [e] at this;omega
   rw [hW,hcw]
   exact cgT (WK _ _) (Zg hih sp)
theorem Qga {p:Nat} (hpr:Pr p) (hp2:2<p):smT (p:Int) n l=(cN l 1001:Int)%(p:Int):=by
 have hO:∀k∈Qh l,0≤k∧k<(l.length:Int):=fun k hk=>ordT_mem.1 hk
 have hj:∀i,i≤(Qh l).length→(i=(Qh l).length→(smF (p:Int) n.toNat l i).2=i):=by
  intro i hi e
  cases i with
  | zero=>rfl
  | succ i=>rw [smF,if_neg (fun h=>by omega)]
 have:=(Qrw hnet hpr hp2 (Qh l).length (qC _) 1001 fun a ha=>by
  rw [hj _ (qC _) rfl]
  have:=Yj hnet (hO _ (Qu 0 ha))
  exact ⟨fun _=>by omega,fun h=>by omega⟩).2
 have r:=CW (p:=(p:Int)) (by omega) n l
 have e:smT (p:Int) n l%(p:Int)=(cN l 1001:Int)%(p:Int):=Int.emod_eq_emod_iff_emod_sub_eq_zero.2 (Int.emod_eq_zero_of_dvd this)
 rw [← e,Int.emod_eq_of_lt r.1 r.2]
end
theorem Qrx {N:Int} (h0:0≤N) (h:N<2147483647*2147483629):crt (N%2147483647) (N%2147483629)=N:=by
 have hc:=Qs9 (a:=N%2147483647) (b:=N%2147483629) ⟨qK _ (by omega),qL _ (by omega)⟩ ⟨qK _ (by omega),qL _ (by omega)⟩
 have hz:(18*pw 18 2147483627 2147483629)%2147483629=1:=pr2.invI (a:=18) (by omega) (by omega)
 have d1:(2147483647:Int)∣crt (N%2147483647) (N%2147483629)-N:=by
  refine cgT (b:=N%2147483647) ?_ (WK _ _)
  unfold crt
  rw [Int.add_comm,Int.add_sub_cancel]
  exact Int.dvd_mul_right _ _
 have d2:(2147483629:Int)∣crt (N%2147483647) (N%2147483629)-N:=by
  unfold crt
  have hb:(2147483629:Int)∣N%2147483629-N:=WK _ _
  generalize N%2147483647=a at *
  generalize N%2147483629=b at *
  generalize pw 18 2147483627 2147483629=z at *
  have t1:(2147483629:Int)∣(b-a%2147483629+2147483629)%2147483629-(b-a):=by
   refine cgT (WK _ _) ?_
   have h1:(2147483629:Int)∣a%2147483629-a:=WK _ _
   have h2:=Int.dvd_sub (Int.dvd_refl (2147483629:Int)) h1
   rwa [show (2147483629:Int)-(a%2147483629-a)=b-a%2147483629+2147483629-(b-a) by omega] at h2
  have t2:(2147483629:Int)∣(b-a%2147483629+2147483629)%2147483629*z%2147483629-(b-a)*z:=cgT (WK _ _) (Zg t1 (cgR _ z))
  have t3:(2147483629:Int)∣2147483647-18:=⟨1,by omega⟩
  have t4:=Zg t3 t2
  have t5:(2147483629:Int)∣18*z-1:=by
   have:=WK (18*z) 2147483629
   rw [hz] at this
   exact cgS this
  have t6:(2147483629:Int)∣18*((b-a)*z)-(b-a):=by
   have:=Zg (cgR 2147483629 (b-a)) t5
   rwa [Int.mul_one,show (b-a)*(18*z)=18*((b-a)*z) by rw [Int.mul_left_comm]] at this
  have t7:=cgT t4 t6
  have t8:=cgA (cgR 2147483629 a) t7
  rw [show a+(b-a)=b by omega] at t8
  exact cgT t8 hb
 generalize crt (N%2147483647) (N%2147483629)=X at *
 obtain ⟨s,hs⟩:=d1
 obtain ⟨t,ht⟩:=d2
 have h1:X-N=2147483647*2147483629*(119304647*s-119304646*t):=by omega
 obtain ⟨_,hc1,hc2⟩:=hc
 have:119304647*s-119304646*t=0:=by omega
 omega
theorem Qry {n:Int} {l:List St} (hnet:Ww n l=true) (hc:Wl n l=true):ctT n l=(cN l 1001:Int):=by
 have hb:=QsZ hnet 1001
 have hb2:((cN l 1001:Nat):Int)≤1152921504606846976:=by
  have:(2:Nat) ^ 60=1152921504606846976:=by decide
  omega
 rw [ctT,if_pos hnet,if_pos hc]
 have e1:smT 2147483647 n l=(cN l 1001:Int)%2147483647:=Qga hnet pr1 (by decide)
 have e2:smT 2147483629 n l=(cN l 1001:Int)%2147483629:=Qga hnet pr2 (by decide)
 rw [e1,e2]
 exact Qrx (by omega) (by omega)
end Go.Proofs.Ytiejmoglooaalaa
end
section
open Go Go.HL
namespace Go.Proofs.Ytiejmoglooaalaa
set_option linter.unusedSectionVars false
open Go.Proofs.Try renaming prog → Tp
open Go.HL.HV renaming undef → Ud
theorem Qgb {O:List Int} {k:Int} (d:Int) {x:Nat} (hx:x<O.length) (hk:0≤k):(lwT O k d).getD x 0=if k=(x:Int) then bst (O.getD x 0) d else O.getD x 0:=by
 unfold lwT
 by_cases e:k=(x:Int)
 ·subst e
  rw [if_pos rfl,qD,bst]
  by_cases c:O.getD x 0<0∨d<O.getD x 0
  ·rw [if_pos c,if_pos c,SL hx,if_pos rfl]
  ·rw [if_neg c,if_neg c]
 ·rw [if_neg e]
  by_cases c:O.getD k.toNat 0<0∨d<O.getD k.toNat 0
  ·rw [if_pos c]
   simp only [qT,List.getElem?_set]
   rw [if_neg (by omega)]
  ·rw [if_neg c]
theorem Qrz {l:List St} {O:List Int} {k y:Int} {x:Nat} (hx:x<O.length) (hk:0≤k) (hy:0≤y) (hne:k≠y):(inS l k O y).getD x 0=if k=(x:Int)∨y=(x:Int) then bst (O.getD x 0) (wOf l y-wOf l k) else O.getD x 0:=by
 rw [inS,Qgb _ (by rw [CR];exact hx) hy,Qgb _ hx hk]
 by_cases c1:y=(x:Int)
 ·rw [if_pos c1,if_neg (by omega),if_pos (.inr c1)]
 ·rw [if_neg c1]
  by_cases c2:k=(x:Int)
  ·rw [if_pos c2,if_pos (.inl c2)]
  ·rw [if_neg c2,if_neg (by omega)]
theorem GX {l:List St} {k:Int} {x:Nat} (hk:0≤k) (hkx:k≠(x:Int)):∀(ys O:List Int),x<O.length→ys.Nodup→(∀y∈ys,0≤y∧y≠k)→(inF l k O ys).getD x 0=if (x:Int)∈ys then bst (O.getD x 0) (wOf l x-wOf l k) else O.getD x 0
 | [],_,_,_,_=>by rw [if_neg (by simp)];rfl
 | y::ys,O,h,hn,hy=>by
  obtain ⟨h1,h2⟩:=hy y (qM ..)
  obtain ⟨n1,n2⟩:=List.nodup_cons.1 hn
  have:=GX (l:=l) hk hkx ys (inS l k O y) (by rw [Qcg];exact h) n2 fun z hz=>hy z (qR _ hz)
  rw [inF,qV]
  refine this.trans ?_
  rw [Qrz h hk h1 (fun c=>h2 c.symm)]
  by_cases c:y=(x:Int)
  ·subst c
   rw [if_neg n1,if_pos (.inr rfl),if_pos (qM ..)]
  ·have hor:¬(k=(x:Int)∨y=(x:Int)):=fun h=>h.elim hkx c
   by_cases c2:(x:Int)∈ys
   ·rw [if_pos c2,if_neg hor,if_pos (qR _ c2)]
   ·rw [if_neg c2,if_neg hor,if_neg (fun h=>(List.mem_cons.1 h).elim (fun e=>c e.symm) c2)]
theorem ins_mem {l:List St} {t:List Int} {k:Int} {y:Int}:y∈Q8 l t k l.length↔(0≤y∧y<(l.length:Int))∧y∉t∧Q5 l t k y:=by
 rw [Q8,jV,startT_mem,decide_eq_true_eq]
theorem Qdm (l:List St) (t:List Int) (k:Int):(Q8 l t k l.length).Nodup:=(Zn _).sublist jG
theorem Qgc {l:List St} {t:List Int} {x:Nat} (hx:x<l.length) (hxt:(x:Int)∉t):∀(ks O:List Int),O.length=l.length→(∀k∈ks,k∈t∧0≤k)→(ouF l t O ks).getD x 0=ks.foldl (fun b k=>if Q5 l t k x then bst b (wOf l x-wOf l k) else b) (O.getD x 0)
 | [],_,_,_=>rfl
 | k::ks,O,hO,hk=>by
  obtain ⟨h1,h2⟩:=hk k (qM ..)
  have:=Qgc hx hxt ks (inF l k O (Q8 l t k l.length)) ((UC ..).trans hO) fun z hz=>hk z (qR _ hz)
  rw [ouF,qV,qV]
  refine this.trans ?_
  rw [GX h2 (fun c=>hxt (c▸h1)) _ _ (by omega) (Qdm ..) (fun y hy=>⟨(ins_mem.1 hy).1.1,fun c=>(ins_mem.1 hy).2.1 (c▸h1)⟩)]
  refine congrArg (fun b=>ks.foldl _ b) ?_
  by_cases c:Q5 l t k x
  ·rw [if_pos c,if_pos (ins_mem.2 ⟨by omega,hxt,c⟩)]
  ·rw [if_neg c,if_neg (fun h=>c (ins_mem.1 h).2.2)]
theorem Qgd {α:Type} (p:α→Prop) [DecidablePred p] (d:α→Int):∀(s:List α),(∀x∈s,p x→0≤d x) →
  (s.foldl (fun b x=>if p x then bst b (d x) else b) (-1)=-1∧∀x∈s,¬p x)∨(0≤s.foldl (fun b x=>if p x then bst b (d x) else b) (-1)∧(∃x∈s,p x∧s.foldl (fun b x=>if p x then bst b (d x) else b) (-1)=d x)∧∀x∈s,p x→s.foldl (fun b x=>if p x then bst b (d x) else b) (-1)≤d x):=by
 have key:∀(m:Nat) (s:List α),s.length=m→(∀x∈s,p x→0≤d x) →
   (s.foldl (fun b x=>if p x then bst b (d x) else b) (-1)=-1∧∀x∈s,¬p x)∨(0≤s.foldl (fun b x=>if p x then bst b (d x) else b) (-1)∧(∃x∈s,p x∧s.foldl (fun b x=>if p x then bst b (d x) else b) (-1)=d x)∧∀x∈s,p x→s.foldl (fun b x=>if p x then bst b (d x) else b) (-1)≤d x):=by
  intro m
  induction m with
  | zero=>intro s h _;rw [List.length_eq_zero_iff.1 h];exact .inl ⟨rfl,fun x hx=>by cases hx⟩
  | succ m ih =>
   intro s h hd
   rcases List.eq_nil_or_concat s with e | ⟨s',x,e⟩
   ·rw [e] at h;simp at h
   ·subst e
    rw [List.concat_eq_append] at h hd ⊢
    rw [qG,zG] at h
    have ih:=ih s' (by omega) fun y hy=>hd y (zO _ hy)
    rw [jH,qV,List.foldl_nil]
    generalize s'.foldl (fun b x=>if p x then bst b (d x) else b) (-1)=b at *
    by_cases c:p x
    ·have hx:=hd x (by simp) c
     rw [if_pos c]
     right
     unfold bst
     by_cases q:b<0∨d x<b
     ·rw [if_pos q]
      refine ⟨hx,⟨x,by simp,c,rfl⟩,fun y hy hp=>?_⟩
      rcases List.mem_append.1 hy with r | r
      ·rcases ih with ⟨_,i2⟩ | ⟨i1,_,i3⟩
       ·exact absurd hp (i2 y r)
       ·have:=i3 y r hp;omega
      ·rw [List.mem_singleton.1 r];exact Int.le_refl _
     ·rw [if_neg q]
      rcases ih with ⟨i1,_⟩ | ⟨i1,⟨y,y1,y2,y3⟩,i3⟩
      ·exact absurd (.inl (by omega)) q
      ·refine ⟨i1,⟨y,zO _ y1,y2,y3⟩,fun z hz hp=>?_⟩
       rcases List.mem_append.1 hz with r | r
       ·exact i3 z r hp
       ·rw [List.mem_singleton.1 r];omega
    ·rw [if_neg c]
     rcases ih with ⟨i1,i2⟩ | ⟨i1,⟨y,y1,y2,y3⟩,i3⟩
     ·refine .inl ⟨i1,fun z hz=>?_⟩
      rcases List.mem_append.1 hz with r | r
      ·exact i2 z r
      ·rw [List.mem_singleton.1 r];exact c
     ·refine .inr ⟨i1,⟨y,zO _ y1,y2,y3⟩,fun z hz hp=>?_⟩
      rcases List.mem_append.1 hz with r | r
      ·exact i3 z r hp
      ·rw [List.mem_singleton.1 r] at hp;exact absurd hp c
 exact fun s=>key s.length s rfl
section
variable {n:Int} {l:List St} (hnet:Ww n l=true) (hc:Wl n l=true)
include hnet hc
theorem Xh {k:Nat} (hkl:k<l.length) (hk:(k:Int)∉Qf l) :
  0≤(slT l).getD k 0∧(∃x∈Qf l,Q5 l (Qf l) x k∧(slT l).getD k 0=wOf l k-wOf l x)∧∀x∈Qf l,Q5 l (Qf l) x k→(slT l).getD k 0≤wOf l k-wOf l x:=by
 have hTin:∀x∈Qf l,x∈Qf l∧0≤x:=fun x hx=>⟨hx,(Zo hx).1⟩
 have hin0:(qB l.length (-1:Int)).getD k 0=-1:=by rw [QB (by simpa using hkl)];simp
 have e:(slT l).getD k 0=(Qf l).foldl (fun b x=>if Q5 l (Qf l) x k then bst b (wOf l k-wOf l x) else b) (-1):=by
  rw [slT,Qgc hkl hk _ _ (by simp) hTin,hin0]
 rw [e]
 have h:=Qgd (fun x:Int=>Q5 l (Qf l) x k) (fun x=>wOf l k-wOf l x) (Qf l) fun x hx hJ=>by
  have:=Qb1 hnet hx (j:=(k:Int)) (by omega) hk hJ
  omega
 rcases h with ⟨_,h2⟩ | h
 ·exfalso
  obtain ⟨x,hx,hJ⟩:=Qho hnet hc (j:=(k:Int)) (by omega) hk
  exact h2 x hx hJ
 ·exact h
end
end Go.Proofs.Ytiejmoglooaalaa
end
section
open Go Go.HL Go.HL.Dt
namespace Go.Proofs.Ytiejmoglooaalaa
set_option linter.unusedSectionVars false
open Go.Proofs.Try renaming prog → Tp
open Go.HL.HV renaming undef → Ud
section
variable {n:Int} {l:List St} (hnet:Ww n l=true)
include hnet
theorem Qge {T F:List Int} (hT:Tr n l T) (hF:Tr n l F) {i:Int} (hi:i∈F) (hiT:i∉T):∃k,k∈T∧k∉F∧Q5 l T k i∧Q5 l F i k:=by
 have he:=QA hnet
 have hir:=hF.rg i hi
 have hab:=(JZ hnet hir).2.2
 have hw:∀x∈wo F i,0≤x∧x<(l.length:Int):=fun x hx=>hF.rg x (mem_wo.1 hx).1
 have hsep:=(Va he hF.rg hF.nd hF.fo hi).2
 have hsep:lb l (wo F i) (sA l i)≠lb l (wo F i) (sB l i):=hsep
 obtain ⟨A,hA⟩:∃A,A=T.filter fun k=>decide (lb l (wo F i) (sA l k)=lb l (wo F i) (sB l k)):=⟨_,rfl⟩
 obtain ⟨B,hB⟩:∃B,B=T.filter fun k=>!decide (lb l (wo F i) (sA l k)=lb l (wo F i) (sB l k)):=⟨_,rfl⟩
 have hm:∀y,y∈T↔y∈A++B:=fun y=>by
  rw [jX,hA,hB,jV,jV]
  by_cases c:lb l (wo F i) (sA l y)=lb l (wo F i) (sB l y)
  ·simp [c]
  ·simp [c]
 have hn:(A++B).Nodup:=by
  rw [hA,hB]
  refine List.nodup_append.2 ⟨hT.nd.sublist jG,hT.nd.sublist jG,fun a ha b hb e=>?_⟩
  subst e
  have h1:=(List.mem_filter.1 ha).2
  have h2:=(List.mem_filter.1 hb).2
  rw [h1] at h2
  cases h2
 have hlen:=Xc hT.nd hn hm
 have hrg:∀k∈A++B,0≤k∧k<(l.length:Int):=fun k hk=>hT.rg k ((hm k).2 hk)
 have hf:(tkT l (A++B)).length=(A++B).length:=by rw [← QX he hT.rg hm,hT.fo,hlen]
 obtain ⟨m,hm1,hm2,hm3⟩:=GF he hrg hn hf hir hab ((Tr.con hnet hT hir).mono fun k hk=>(hm k).1 hk)
 have hmA:A.length≤m:=by
  rcases jP m A.length with c | c
  ·exfalso
   have hs:∀k∈(A++B).take (m+1),lb l (wo F i) (sA l k)=lb l (wo F i) (sB l k):=fun k hk=>by
    rw [List.take_append_of_le_length (by omega)] at hk
    have:=jA hk
    rw [hA] at this
    exact of_decide_eq_true (List.mem_filter.1 this).2
   refine hsep ?_
   clear hm2
   revert hm3
   generalize sA l i=u
   generalize sB l i=v
   intro h
   induction h with
   | refl v=>rfl
   | edge hk=>exact hs _ hk
   | symm _ ih=>exact ih.symm
   | trans _ _ a b=>exact a.trans b
  ·exact c
 have hk:=Qu (l:=A++B) 0 hm1
 have hkB:(A++B).getD m 0∈B:=by
  rw [QB hm1,List.getElem_append_right hmA]
  exact zH _
 have hkT:=(hm _).2 hk
 generalize (A++B).getD m 0=k at *
 have hcr:lb l (wo F i) (sA l k)≠lb l (wo F i) (sB l k):=by
  rw [hB] at hkB
  have:=(List.mem_filter.1 hkB).2
  intro c
  rw [decide_eq_true c] at this
  cases this
 refine ⟨k,hkT,fun hkF=>?_,?_,hcr⟩
 ·have:k≠i:=fun e=>hiT (e▸hkT)
  exact hcr (Uv he hw (mem_wo.2 ⟨hkF,this⟩))
 ·have e:Qz l (wo T k)=Qz l (wo (A++B) k):=VM he (fun x hx=>hT.rg x (mem_wo.1 hx).1) fun x=>by rw [mem_wo,mem_wo,← hm]
  unfold Q5 at hm2 ⊢
  rw [e];exact hm2
def Sm (n:Int) (l:List St) (F:List Int):Prop:=Tr n l F∧wgt l F=wgt l (Qf l)
theorem Qai (hc:Wl n l=true) {F:List Int} (hF:Tr n l F) {i:Nat} (hi:(i:Int)∈F) (hiT:(i:Int)∉Qf l):(slT l).getD i 0≤wgt l F-wgt l (Qf l):=by
 have hT:=J0 hnet hc
 have hir:=hF.rg _ hi
 obtain ⟨k,k1,k2,k3,k4⟩:=Qge hnet hT hF hi hiT
 have s:=(Xh hnet hc (k:=i) (by omega) hiT).2.2 k k1 k3
 have hF2:=hF.exch hnet hi (hT.rg k k1) k2 k4
 have w2:=DO (l:=l) hF.nd hi (j:=k)
 have m2:=GI hnet hF2
 omega
theorem QrA (hc:Wl n l=true) {i:Nat} (hil:i<l.length) (hiT:(i:Int)∉Qf l):(slT l).getD i 0≠0↔∀F,Sm n l F→(i:Int)∉F:=by
 have hT:=J0 hnet hc
 obtain ⟨s1,⟨x,x1,x2,x3⟩,_⟩:=Xh hnet hc hil hiT
 constructor
 ·intro h F hF hi
  have:=Qai hnet hc hF.1 hi hiT
  have:=hF.2
  omega
 ·intro h e
  have hF2:=hT.exch hnet x1 (j:=(i:Int)) (by omega) hiT x2
  have w2:=DO (l:=l) hT.nd x1 (j:=(i:Int))
  exact h _ ⟨hF2,by omega⟩ (zV _ (zA _))
theorem Qcw {m:Nat} {t:List Int} (ha:t.Pairwise (· < ·)) (ht:∀k∈t,0≤k∧k<(m:Int)):t.Sublist (Qg m):=by
 have:t=(Qg m).filter fun k=>decide (k∈t):=Yq ha ((Vb m).sublist jG) fun x=>by
  rw [jV,decide_eq_true_eq,startT_mem]
  exact ⟨fun h=>⟨ht x h,h⟩,fun h=>h.2⟩
 rw [this];exact jG
theorem Qcx {m:Nat} {t:List Int} (h:t.Sublist (Qg m)):t.Pairwise (· < ·)∧∀k∈t,0≤k∧k<(m:Int):=⟨(Vb m).sublist h,fun k hk=>startT_mem.1 (h.subset hk)⟩
theorem UG (hc:Wl n l=true) {F:List Int} (h:F.Sublist (alS l)):XR l 1001 F=true↔Sm n l F:=by
 obtain ⟨h1,h2⟩:=Qcx hnet h
 exact Qde hnet hc h2 (W2 h1)
theorem C0:(frT l).Sublist (alS l):=Qcw hnet (Kl l) fun k hk=>Zo (frT_mem.1 hk)
theorem Qi6 (hc:Wl n l=true):Sm n l (frT l):=⟨S6 hnet hc,CD⟩
theorem Qix (hc:Wl n l=true):(∃i:Nat,i<l.length∧(i:Int)∉Qf l∧(slT l).getD i 0=0)↔1<cN l 1001:=by
 rw [Qpb hnet]
 constructor
 ·rintro ⟨i,hil,hiT,h0⟩
  have hT:=J0 hnet hc
  obtain ⟨s1,⟨x,x1,x2,x3⟩,_⟩:=Xh hnet hc hil hiT
  have hx:x∈frT l:=frT_mem.2 x1
  have hiF:(i:Int)∉frT l:=fun h=>hiT (frT_mem.1 h)
  have hJ:Q5 l (frT l) x i:=(Qfd hnet x i).2 x2
  obtain ⟨g1,g2⟩:=QiV hnet (S6 hnet hc) (Kl l) hx (j:=(i:Int)) (by omega) hiF hJ
  obtain ⟨t1,t2⟩:=Ju g1
  have hs:=Qcw hnet t2 t1.rg
  have hw:=CD (l:=l)
  have gs:XR l 1001 (swT x i (frT l))=true:=(UG hnet hc hs).2 ⟨t1,by omega⟩
  have gf:XR l 1001 (frT l)=true:=(UG hnet hc (C0 hnet)).2 (Qi6 hnet hc)
  refine DR (C0 hnet) hs gf gs fun e=>?_
  have:(i:Int)∈swT x i (frT l):=(Qb0 (Kl l) hiF i).2 (zV _ (zA _))
  rw [← e] at this
  exact hiF this
 ·intro h
  rcases Classical.em (∃i:Nat,i<l.length∧(i:Int)∉Qf l∧(slT l).getD i 0=0) with c | c
  ·exact c
  ·exfalso
   have gf:XR l 1001 (frT l)=true:=(UG hnet hc (C0 hnet)).2 (Qi6 hnet hc)
   have this:Wt (XR l 1001) (alS l)=1:=DS (Zn l.length) (C0 hnet) gf fun G hG hg=>by
    have hs:=(UG hnet hc hG).1 hg
    obtain ⟨a1,a2⟩:=Qcx hnet hG
    have hsub:∀x∈G,x∈frT l:=fun x hx=>by
     have hxr:=a2 x hx
     obtain ⟨k,rfl⟩:=zN hxr.1
     rcases Classical.em ((k:Int)∈Qf l) with d | d
     ·exact frT_mem.2 d
     ·exact absurd hx ((QrA hnet hc (by omega) d).1 (fun e=>c ⟨k,by omega,d,e⟩) G hs)
    have hl:G.length=(frT l).length:=by have:=hs.1.ln;have:=(S6 hnet hc).ln;omega
    refine Yq a1 (Kl l) fun x=>⟨hsub x,fun hx=>?_⟩
    rcases Classical.em (x∈G) with d | d
    ·exact d
    ·exfalso
     have:=Jd (a:=x::G) (b:=frT l) (List.nodup_cons.2 ⟨d,W2 a1⟩) fun z hz=>by
      rcases List.mem_cons.1 hz with e | e
      ·exact e▸hx
      ·exact hsub z e
     rw [qJ] at this
     omega
   omega
end
end Go.Proofs.Ytiejmoglooaalaa
end
section
open Go Go.HL
namespace Go.Proofs.Ytiejmoglooaalaa
set_option maxRecDepth 100000
set_option linter.unusedSectionVars false
open Go.Proofs.Try renaming prog → Tp
open Go.HL.HV renaming undef → Ud
section
variable {F:FuncId→Option (List HV→Option HV)}
noncomputable def B15:Code:=Try.f15.body.getD .skip
abbrev Z6 (v0 v1 v4 v5 v6 v7 v8 v9 v10 v11 v12 v13 v38 v39 v40:HV):Env:=[(0,v0),(1,v1),(4,v4),(5,v5),(6,v6),(7,v7),(8,v8),(9,v9),(10,v10),(11,v11),(12,v12),(13,v13),(38,v38),(39,v39),(40,v40)]
end
abbrev e15 (n:Int) (ls:List HV) (u5 u6 u7 u8 u9 u10 u11 u12 u13 u14:HV):Env:=Z6 (.i n) (.g ls) (.i 0) (.i 0) (.q 0) u5 u6 u7 u8 u9 u10 u11 u12 u13 u14
section
variable {F:FuncId→Option (List HV→Option HV)}
variable (N:Nat) (n:Int) (ls:List HV)
include N n ls
theorem QrB:RU F 15 2 B15 [(0,.i n),(1,.g ls)] [] .normal (Z6 (.i n) (.g ls) (.i 0) (.i 0) Ud Ud Ud Ud Ud Ud Ud Ud Ud Ud Ud) [] :=
 hx N 60 []
end
section
variable {F:FuncId→Option (List HV→Option HV)}
variable (N:Nat) (n:Int) (ls:List HV)
include N n ls
theorem QrC {H0:Heap} {a0:HV} {H1:Heap} {H2:Heap} (g0:CN F N 39 [.i n,.g ls] [] (.tuple [.N n ls,.bool true]) H0) (g1:some (Q4 (.agg [.i 0,.imm .lit 0 []]) H0)=some (a0,H1)) (g2:ST H1 66 (a0) (.N n ls) H2) (y6 y7 y8 y9 y10 y11 y12 y13 y38 y39 y40:HV:=Ud): RU F 15 6 B15 (Z6 (.i n) (.g ls) (.i 0) (.i 0) y6 y7 y8 y9 y10 y11 y12 y13 y38 y39 y40) [] .normal (Z6 (.i n) (.g ls) (.i 0) (.i 0) a0 (.bool true) y8 y9 y10 y11 y12 y13 y38 y39 y40) H2 :=
 hx N 60 [jC 1 2 g0,jR 1 6 g1,jS 1 7 g2]
theorem QrD {H0:Heap} {a0:HV} {H1:Heap} {H2:Heap} (g0:CN F N 39 [.i n,.g ls] [] (.tuple [.N n ls,.bool false]) H0) (g1:some (Q4 (.agg [.i 0,.imm .lit 0 []]) H0)=some (a0,H1)) (g2:ST H1 66 (a0) (.N n ls) H2) (y6 y7 y8 y9 y10 y11 y12 y13 y38 y39 y40:HV:=Ud): RU F 15 6 B15 (Z6 (.i n) (.g ls) (.i 0) (.i 0) y6 y7 y8 y9 y10 y11 y12 y13 y38 y39 y40) [] .normal (Z6 (.i n) (.g ls) (.i 0) (.i 0) a0 (.bool false) y8 y9 y10 y11 y12 y13 y38 y39 y40) H2 :=
 hx N 60 [jC 1 2 g0,jR 1 6 g1,jS 1 7 g2]
theorem Qiy (H:Heap) (y8 y9 y10 y11 y12 y13 y38 y39 y40:HV:=Ud): RU F 15 14 B15 (e15 n ls (.bool true) y8 y9 y10 y11 y12 y13 y38 y39 y40) H .normal (e15 n ls (.bool true) y8 y9 y10 y11 y12 y13 y38 y39 y40) H :=
 hx N 60 []
theorem Qiz (H:Heap) (y8 y9 y10 y11 y12 y13 y38 y39 y40:HV:=Ud): RU F 15 14 B15 (e15 n ls (.bool false) y8 y9 y10 y11 y12 y13 y38 y39 y40) H .ret (Z6 (.i n) (.g ls) (.i 0) (.i 2) (.q 0) (.bool false) y8 y9 y10 y11 y12 y13 y38 y39 y40) H :=
 hx N 60 []
theorem QrE (H:Heap) (ob m mb:Nat) {H0:Heap} (g0:LD H 66 (.q 0) (.N n ls)) (g1:CM F 43 [.N n ls] H (.tuple [.s ob m,.map mb,.bool true]) H0) (y8 y9 y10 y11 y12 y13 y38 y39 y40:HV:=Ud): RU F 15 30 B15 (e15 n ls (.bool true) y8 y9 y10 y11 y12 y13 y38 y39 y40) H .normal (e15 n ls (.bool true) (.s ob m) (.map mb) y10 y11 y12 y13 y38 y39 y40) H0 :=
 hx N 60 [jO 4 0 H g0,jD 4 1 g1]
theorem QrF (H:Heap) (ob m mb:Nat) {H0:Heap} (g0:LD H 66 (.q 0) (.N n ls)) (g1:CM F 43 [.N n ls] H (.tuple [.s ob m,.nilmap,.bool false]) H0) (y8 y9 y10 y11 y12 y13 y38 y39 y40:HV:=Ud): RU F 15 30 B15 (e15 n ls (.bool true) y8 y9 y10 y11 y12 y13 y38 y39 y40) H .normal (e15 n ls (.bool false) (.s ob m) .nilmap y10 y11 y12 y13 y38 y39 y40) H0 :=
 hx N 60 [jO 4 0 H g0,jD 4 1 g1]
theorem QiA (H:Heap) (ob m mb:Nat) {n0:Int} (g0:UM Tp H 72 (.map mb)=some (.i n0)) (g1:n0=(ls.length:Int)) (y10 y11 y12 y13 y38 y39 y40:HV:=Ud): RU F 15 62 B15 (e15 n ls (.bool true) (.s ob m) (.map mb) y10 y11 y12 y13 y38 y39 y40) H .ret (Z6 (.i n) (.g ls) (.i 0) (.i 6) (.q 0) (.bool true) (.s ob m) (.map mb) y10 y11 y12 y13 y38 y39 y40) H :=
 hx N 60 [jO 5 4 H g0,jT 5 7 H g1]
theorem QiB (H:Heap) (ob m mb:Nat) {n0:Int} (g0:UM Tp H 72 (.map mb)=some (.i n0)) (g1:¬(n0=(ls.length:Int))) (y10 y11 y12 y13 y38 y39 y40:HV:=Ud): RU F 15 62 B15 (e15 n ls (.bool true) (.s ob m) (.map mb) y10 y11 y12 y13 y38 y39 y40) H .normal (e15 n ls (.bool true) (.s ob m) (.map mb) y10 y11 y12 y13 y38 y39 y40) H :=
 hx N 60 [jO 5 4 H g0,jF 5 7 H g1]
theorem QiC (H:Heap) (ob m mb:Nat) (y10 y11 y12 y13 y38 y39 y40:HV:=Ud): RU F 15 62 B15 (e15 n ls (.bool false) (.s ob m) .nilmap y10 y11 y12 y13 y38 y39 y40) H .ret (Z6 (.i n) (.g ls) (.i 0) (.i 6) (.q 0) (.bool false) (.s ob m) .nilmap y10 y11 y12 y13 y38 y39 y40) H :=
 hx N 60 []
theorem QrG (H:Heap) (ob m mb:Nat) (y10 y11 y12 y13 y38 y39 y40:HV:=Ud): RU F 15 126 B15 (e15 n ls (.bool true) (.s ob m) (.map mb) y10 y11 y12 y13 y38 y39 y40) H .normal (e15 n ls (.bool true) (.s ob m) (.map mb) (.i (-1)) y11 y12 y13 y38 y39 y40) H :=
 hx N 60 []
theorem QrH (H:Heap) (ob m mb:Nat) (x:Int) (y11 y12 y13 y38 y39 y40:HV:=Ud): RU F 15 508 B15 (e15 n ls (.bool true) (.s ob m) (.map mb) (.i x) y11 y12 y13 y38 y39 y40) H .normal (e15 n ls (.bool true) (.s ob m) (.map mb) (.i x) y11 y12 y13 (.s ob m) (.n m) (.i 0)) H :=
 hx N 60 []
theorem QrI (H:Heap) (ob m mb:Nat) (x:Int) (i:Nat) (y:Int) (g0:(i:Int)<(m:Int)) (g1:IS 24 ob m i) (g2:LD H 3 (.ptr ob i 0 m) (.i y)) (g3:lkH Tp 72 H mb (.n i)=some (.bool true,H)) (y7 y8 y11 y12 y13:HV:=Ud): RU F 15 2036 B15 (e15 n ls y7 y8 (.map mb) (.i x) y11 y12 y13 (.s ob m) (.n m) (.n i)) H .normal (e15 n ls y7 y8 (.map mb) (.i x) (.n i) (.i y) y13 (.s ob m) (.n m) (.i (qA.wrap ((i:Int)+1)))) H :=
 hx N 60 [jT 9 0 H g0,jO 10 1 H g1,jO 10 2 H g2,jR 11 2 g3]
theorem QrJ (H:Heap) (ob m mb:Nat) (x:Int) (i:Nat) (y:Int) (g0:(i:Int)<(m:Int)) (g1:IS 24 ob m i) (g2:LD H 3 (.ptr ob i 0 m) (.i y)) (g3:lkH Tp 72 H mb (.n i)=some (.bool false,H)) (g4:x<0) (y7 y8 y11 y12 y13:HV:=Ud): RU F 15 2036 B15 (e15 n ls y7 y8 (.map mb) (.i x) y11 y12 y13 (.s ob m) (.n m) (.n i)) H .normal (e15 n ls y7 y8 (.map mb) (.i y) (.n i) (.i y) y13 (.s ob m) (.n m) (.i (qA.wrap ((i:Int)+1)))) H :=
 hx N 60 [jT 9 0 H g0,jO 10 1 H g1,jO 10 2 H g2,jR 11 2 g3,jT 11 6 H g4]
theorem QrK (H:Heap) (ob m mb:Nat) (x:Int) (i:Nat) (y:Int) (g0:(i:Int)<(m:Int)) (g1:IS 24 ob m i) (g2:LD H 3 (.ptr ob i 0 m) (.i y)) (g3:lkH Tp 72 H mb (.n i)=some (.bool false,H)) (g4:¬(x<0)) (g5:y<x) (y7 y8 y11 y12 y13:HV:=Ud): RU F 15 2036 B15 (e15 n ls y7 y8 (.map mb) (.i x) y11 y12 y13 (.s ob m) (.n m) (.n i)) H .normal (e15 n ls y7 y8 (.map mb) (.i y) (.n i) (.i y) y13 (.s ob m) (.n m) (.i (qA.wrap ((i:Int)+1)))) H :=
 hx N 60 [jT 9 0 H g0,jO 10 1 H g1,jO 10 2 H g2,jR 11 2 g3,jF 11 6 H g4,jT 11 10 H g5]
theorem QrL (H:Heap) (ob m mb:Nat) (x:Int) (i:Nat) (y:Int) (g0:(i:Int)<(m:Int)) (g1:IS 24 ob m i) (g2:LD H 3 (.ptr ob i 0 m) (.i y)) (g3:lkH Tp 72 H mb (.n i)=some (.bool false,H)) (g4:¬(x<0)) (g5:¬(y<x)) (y7 y8 y11 y12 y13:HV:=Ud): RU F 15 2036 B15 (e15 n ls y7 y8 (.map mb) (.i x) y11 y12 y13 (.s ob m) (.n m) (.n i)) H .normal (e15 n ls y7 y8 (.map mb) (.i x) (.n i) (.i y) y13 (.s ob m) (.n m) (.i (qA.wrap ((i:Int)+1)))) H :=
 hx N 60 [jT 9 0 H g0,jO 10 1 H g1,jO 10 2 H g2,jR 11 2 g3,jF 11 6 H g4,jF 11 10 H g5]
theorem QrM (H:Heap) (ob m mb:Nat) (x:Int) (i:Nat) (y:Int) (g0:¬((i:Int)<(m:Int))) (y7 y8 y11 y12 y13:HV:=Ud): RU F 15 2036 B15 (e15 n ls y7 y8 (.map mb) (.i x) y11 y12 y13 (.s ob m) (.n m) (.n i)) H (.exit 0) (e15 n ls y7 y8 (.map mb) (.i x) y11 y12 y13 (.s ob m) (.n m) (.n i)) H :=
 hx N 60 [jF 9 0 H g0]
theorem QrN (H:Heap) (ob m mb:Nat) (x:Int) (tb k:Nat) {H0:Heap} (g0:LD H 66 (.q 0) (.N n ls)) (g1:CM F 40 [.N n ls] H (.tuple [.s tb k,.bool true]) H0) (y7 y8 y11 y12 y13 y38 y39 y40:HV:=Ud): RU F 15 510 B15 (e15 n ls y7 y8 (.map mb) (.i x) y11 y12 y13 y38 y39 y40) H .normal (e15 n ls y7 y8 (.map mb) (.i x) y11 y12 (.s tb k) y38 y39 y40) H0 :=
 hx N 60 [jO 14 0 H g0,jD 14 1 g1]
theorem QrO (H:Heap) (ob m mb:Nat) (x:Int) (tb k:Nat) (z:Int) {H0:Heap} (g0:LD H 66 (.q 0) (.N n ls)) (g1:CM F 42 [.N n ls,.s tb k] H (.i z) H0) (y7 y8 y11 y12 y38 y39 y40:HV:=Ud): RU F 15 511 B15 (e15 n ls y7 y8 (.map mb) (.i x) y11 y12 (.s tb k) y38 y39 y40) H .ret (Z6 (.i n) (.g ls) (.i (qA.wrap (z+x))) (.i 0) (.q 0) y7 y8 (.map mb) (.i x) y11 y12 (.s tb k) y38 y39 y40) H0 :=
 hx N 60 [jO 15 0 H g0,jD 15 2 g1]
end
end Go.Proofs.Ytiejmoglooaalaa
end
section
open Go Go.HL
namespace Go.Proofs.Ytiejmoglooaalaa
set_option linter.unusedSectionVars false
open Go.Proofs.Try renaming prog → Tp
open Go.HL.HV renaming undef → Ud
def mrT (l:List St):Nat→Int
 | 0=>-1
 | k+1=>if (k:Int)∉Qf l∧(mrT l k<0∨(slT l).getD k 0<mrT l k) then (slT l).getD k 0 else mrT l k
def seE (n:Int) (l:List St):Int:=if Ww n l=true then (if Wl n l=true∧(Qf l).length≠l.length then 0 else 6) else 2
def seT (n:Int) (l:List St):Int:=if seE n l=0 then qA.wrap (wgt l (Qf l)+mrT l l.length) else 0
def Qaj:List HV→Option HV:=f2 kI kS fun n l=>if l.length≤500 then some (.tuple [.int .i64 (seT n l),.int .i64 (seE n l)]) else none
theorem Qcy:Try.f15.results.toList=[.tmp 4,.tmp 5]:=by kernel_rfl
def Zw:FuncId→Option (List HV→Option HV):=fun g=>if g==52 then some WZ else if g==43 then some Qch else if g==40 then some YC else if g==42 then some Do else none
theorem QiD (n:Nat):Qn Tp (Qc Tp (plF Zw) n):=Qy _ (fun g f h=>by
 unfold Zw at h
 split at h
 ·rename_i hg;cases h;rw [eq_of_beq hg];exact JJ
 split at h
 ·rename_i hg;cases h;rw [eq_of_beq hg];exact QfT
 split at h
 ·rename_i hg;cases h;rw [eq_of_beq hg];exact Yi
 split at h
 ·rename_i hg;cases h;rw [eq_of_beq hg];exact Gx
 ·cases h) n
theorem QrP:NwF Zw:=⟨by kernel_rfl,by kernel_rfl,by kernel_rfl,by kernel_rfl,by kernel_rfl⟩
theorem Qta {H:Heap} {b:Nat} {ks:List Int} (h:H[b]?=some (bM ks)):UM Tp H 72 (.map b)=some (.int .i64 (ks.length:Int)):=by
 rw [bM] at h
 simp only [UM,u72,h,qF]
theorem Qdn:QP Tp 15 Qaj:=by
 refine Qp (pol:=plF Zw) (fn:=Try.f15) (cd:=B15) Qk QiD (by kernel_rfl) (by kernel_rfl) (Zm Zw _ _ (by kernel_rfl)) (by kernel_rfl) ?_
 intro args res h
 obtain ⟨n,l,rfl,hq⟩:=Z9 h
 split at hq
 case isFalse=>cases hq
 rename_i hl
 cases hq
 have a:=QrB (F:=Zw) 0 n (l.map Qa)
 obtain ⟨N0,c39⟩:=CallsTo.from (Ut QrP (H:=[]) (qC _) n (l:=l) (by omega))
 have six:seE n l≠0→seT n l=0:=fun h=>if_neg h
 cases hnet:Ww n l with
 | false =>
  rw [hnet] at c39
  have b:=QrD (F:=Zw) N0 n (l.map Qa) c39 rfl stN
  have c:=Qiz (F:=Zw) 0 n (l.map Qa) [bN n l]
  refine ⟨_,_,_,.tuple [.int .i64 0,.int .i64 2],sq (a) (sq (b) (sqo (c) (c:=sn 7 B15) (b:=sn 15 B15)) (c:=sn 3 B15)) (c:=B15),by simp,by simp only [Qd,Qcy];rfl,?_⟩
  have e:seE n l=2:=if_neg (by rw [hnet];simp)
  rw [six (by omega),e];rfl
 | true =>
  rw [hnet] at c39
  obtain ⟨⟨n1,n2⟩,n3,he,hw⟩:=QE hnet
  have heB:=K6 he (by omega)
  have hwB:wB l=true:=wB_iff.2 fun s hs=>by have:=hw s hs;omega
  have b:=QrC (F:=Zw) N0 n (l.map Qa) c39 rfl stN
  have c:=Qiy (F:=Zw) 0 n (l.map Qa) [bN n l]
  have c43:=at1 (pol':=plF Zw) (g:=43) (c1:=kN) (f:=fun p=>if Ww p.1 p.2=true then some (if Wl p.1 p.2=true then .tuple [.own 1 ((slT p.2).map Qb),.omap ((Qf p.2).map Qb) ((Qf p.2).map fun _=>HV.bool true),.bool true] else .tuple [.own 1 [],.nilmap,.bool false]) else none) (H:=[bN n l]) (by kernel_rfl) (ShN _ n l) (if_pos hnet)
  simp only at c43
  have hsl:=Qii l
  by_cases cn:Wl n l=true
  ·rw [if_pos cn,QfU,hsl] at c43
   have d:=QrE (F:=Zw) 0 n (l.map Qa) [bN n l] 1 l.length 2 (JE rfl) c43
   by_cases ce:(Qf l).length=l.length
   ·have e:=QiA (F:=Zw) 0 n (l.map Qa) [bN n l,bI (slT l),bM (Qf l)] 1 l.length 2 (Qta rfl) (by rw [qF];omega)
    refine ⟨_,_,_,.tuple [.int .i64 0,.int .i64 6],sq (a) (sq (b) (sq (c) (sq (d) (sqo (e) (c:=sn 31 B15) (b:=sn 63 B15)) (c:=sn 15 B15)) (c:=sn 7 B15)) (c:=sn 3 B15)) (c:=B15),by simp,by simp only [Qd,Qcy];rfl,?_⟩
    have e6:seE n l=6:=by rw [seE,if_pos hnet,if_neg fun h=>h.2 ce]
    rw [six (by omega),e6];rfl
   ·have e:=QiB (F:=Zw) 0 n (l.map Qa) [bN n l,bI (slT l),bM (Qf l)] 1 l.length 2 (Qta rfl) (by rw [qF];omega)
    have e0:seE n l=0:=by rw [seE,if_pos hnet,if_pos ⟨cn,ce⟩]
    obtain ⟨H2,hH2⟩:∃H2,H2=[bN n l,bI (slT l),bM (Qf l)]:=⟨_,rfl⟩
    have f:=QrG (F:=Zw) 0 n (l.map Qa) H2 1 l.length 2
    have g:=QrH (F:=Zw) 0 n (l.map Qa) H2 1 l.length 2 (-1)
    obtain ⟨x,E',H',r,rfl,rfl,rfl⟩:=Kq (pol':=plF Zw) (f:=15) (b:=sn 2036 B15) (c:=sn 1018 B15)
     (I:=fun k e H=>e=(Z6 (.i n) (.g (l.map Qa)) (.i 0) (.i 0) (.q 0) Ud Ud (.map 2) (.i (mrT l k)) Ud Ud Ud (.s 1 l.length) (.i (l.length:Int)) (.i (k:Int)))∧H=H2) (Q:=fun x E' H'=>x=.exit 0∧E'=(Z6 (.i n) (.g (l.map Qa)) (.i 0) (.i 0) (.q 0) Ud Ud (.map 2) (.i (mrT l l.length)) Ud Ud Ud (.s 1 l.length) (.i (l.length:Int)) (.i ((l.length:Nat):Int)))∧H'=H2) l.length
     (by
      rintro k hk e H ⟨rfl,rfl⟩
      have ix:=JX (b:=1) (cap:=none) u24 z3 hk
      have ld:=Q6 (H:=H) (k:=1) (o:=slT l) (by rw [hH2];rfl) (y:=k) (by omega)
      rw [hsl] at ld
      have lk:=Qq8 (H:=H) (b:=2) (ks:=Qf l) (by rw [hH2];rfl) (k:Int)
      have ew:qA.wrap ((k:Int)+1)=((k+1:Nat):Int):=by rw [Q7 (by omega) (by omega)];omega
      have es:mrT l (k+1)=if (k:Int)∉Qf l∧(mrT l k<0∨(slT l).getD k 0<mrT l k) then (slT l).getD k 0 else mrT l k:=rfl
      rw [es]
      have fin:∀{E0:Env} {v:Int},RT (plF Zw) 15 (sn 2036 B15) ((Z6 (.i n) (.g (l.map Qa)) (.i 0) (.i 0) (.q 0) Ud Ud (.map 2) (.i (mrT l k)) Ud Ud Ud (.s 1 l.length) (.i (l.length:Int)) (.i (k:Int)))) H .normal E0 H→QO (plF Zw) 15 (sn 2036 B15) E0=(Z6 (.i n) (.g (l.map Qa)) (.i 0) (.i 0) (.q 0) Ud Ud (.map 2) (.i (v)) Ud Ud Ud (.s 1 l.length) (.i (l.length:Int)) (.i ((k+1:Nat):Int)))→∃E0 H1,RT (plF Zw) 15 (sn 2036 B15) ((Z6 (.i n) (.g (l.map Qa)) (.i 0) (.i 0) (.q 0) Ud Ud (.map 2) (.i (mrT l k)) Ud Ud Ud (.s 1 l.length) (.i (l.length:Int)) (.i (k:Int)))) H .normal E0 H1∧QO (plF Zw) 15 (sn 2036 B15) E0=(Z6 (.i n) (.g (l.map Qa)) (.i 0) (.i 0) (.q 0) Ud Ud (.map 2) (.i (v)) Ud Ud Ud (.s 1 l.length) (.i (l.length:Int)) (.i ((k+1:Nat):Int)))∧gc H.length (WF (QO (plF Zw) 15 (sn 2036 B15) E0)) H1=H:=fun s e=>⟨_,_,s,e,QH _ rfl⟩
      by_cases cT:(k:Int)∈Qf l
      ·rw [decide_eq_true cT] at lk
       rw [if_neg fun h=>h.1 cT]
       have s:=QrI (F:=Zw) 0 n (l.map Qa) H 1 l.length 2 (mrT l k) k _ (by omega) ix ld lk
       rw [ew] at s
       exact fin s (by kernel_rfl)
      ·rw [decide_eq_false cT] at lk
       by_cases c0:mrT l k<0
       ·rw [if_pos ⟨cT,.inl c0⟩]
        have s:=QrJ (F:=Zw) 0 n (l.map Qa) H 1 l.length 2 (mrT l k) k _ (by omega) ix ld lk c0
        rw [ew] at s
        exact fin s (by kernel_rfl)
       ·by_cases c1:(slT l).getD k 0<mrT l k
        ·rw [if_pos ⟨cT,.inr c1⟩]
         have s:=QrK (F:=Zw) 0 n (l.map Qa) H 1 l.length 2 (mrT l k) k _ (by omega) ix ld lk c0 c1
         rw [ew] at s
         exact fin s (by kernel_rfl)
        ·rw [if_neg fun h=>h.2.elim c0 c1]
         have s:=QrL (F:=Zw) 0 n (l.map Qa) H 1 l.length 2 (mrT l k) k _ (by omega) ix ld lk c0 c1
         rw [ew] at s
         exact fin s (by kernel_rfl))
     (by
      rintro e H ⟨rfl,rfl⟩
      have s:=QrM (F:=Zw) 0 n (l.map Qa) H 1 l.length 2 (mrT l l.length) l.length 0 (by omega)
      exact ⟨_,_,_,s,by simp,rfl,rfl,rfl⟩)
     (by kernel_rfl) (by rintro k e H ⟨rfl,_⟩;kernel_rfl) (e:=(Z6 (.i n) (.g (l.map Qa)) (.i 0) (.i 0) (.q 0) Ud Ud (.map 2) (.i (-1)) Ud Ud Ud (.s 1 l.length) (.i (l.length:Int)) (.i (0:Int)))) (H:=H2) ⟨rfl,rfl⟩
    rw [hH2] at f g r
    have c40:=at1 (pol':=plF Zw) (g:=40) (c1:=kN) (f:=fun p=>if GB p.1 p.2 then some (.tuple [.own 1 ((Qf p.2).map Qb),.bool (Wl p.1 p.2)]) else none) (H:=[bN n l,bI (slT l),bM (Qf l)]) (by kernel_rfl) (ShN _ n l) (if_pos ⟨heB,by show l.length≤900;omega,by show 0≤n;omega,by show n≤1000;omega⟩)
    rw [Us] at c40
    simp only at c40
    rw [cn] at c40
    have hh:=QrN (F:=Zw) 0 n (l.map Qa) [bN n l,bI (slT l),bM (Qf l)] 1 l.length 2 (mrT l l.length) 3 (Qf l).length (y38:=.s 1 l.length) (y39:=.i (l.length:Int)) (y40:=.i (l.length:Int)) (JE rfl) c40
    have htl:=(Qf l).length
    have hfl:=QaW l
    have hfle:=QeM l
    have c42:=at2 (pol':=plF Zw) (g:=42) (c1:=kN) (c2:=kL) (f:=fun p t=>if inR p.2.length t=true∧wB p.2=true∧t.length≤1000 then some (.int .i64 (wgt p.2 t)) else none) (H:=[bN n l,bI (slT l),bM (Qf l)]++[bI (Qf l)]) (v2:=.sl 3 0 (Qf l).length none (Qf l).length 1) (by kernel_rfl) (ShN _ n l) (JV (l:=Qf l) rfl rfl) (if_pos ⟨inR_iff.2 fun k hk=>Zo hk,hwB,by show (Qf l).length≤1000;omega⟩)
    have z:=QrO (F:=Zw) 0 n (l.map Qa) ([bN n l,bI (slT l),bM (Qf l)]++[bI (Qf l)]) 1 l.length 2 (mrT l l.length) 3 (Qf l).length (wgt l (Qf l)) (y38:=.s 1 l.length) (y39:=.i (l.length:Int)) (y40:=.i (l.length:Int)) (JE rfl) c42
    refine ⟨_,_,_,.tuple [.int .i64 (qA.wrap (wgt l (Qf l)+mrT l l.length)),.int .i64 0],sq (a) (sq (b) (sq (c) (sq (d) (sq (e) (sq (f) (sq (sq (g) (bke (c:=sn 509 B15) (lpi (e0:=(Z6 (.i n) (.g (l.map Qa)) (.i 0) (.i 0) (.q 0) (.bool true) (.s 1 l.length) (.map 2) (.i (-1)) Ud Ud Ud (.s 1 l.length) (.i (l.length:Int)) (.i (0:Int)))) r (b:=sn 2036 B15))) (c:=sn 254 B15)) (sq (hh) (z) (c:=sn 255 B15)) (c:=sn 127 B15)) (c:=sn 63 B15)) (c:=sn 31 B15)) (c:=sn 15 B15)) (c:=sn 7 B15)) (c:=sn 3 B15)) (c:=B15),by simp,by simp only [Qd,Qcy];rfl,?_⟩
    rw [seT,e0,if_pos rfl];rfl
  ·rw [if_neg cn,QfV] at c43
   have d:=QrF (F:=Zw) 0 n (l.map Qa) [bN n l] 1 0 0 (JE rfl) c43
   have e:=QiC (F:=Zw) 0 n (l.map Qa) ([bN n l]++[bI []]) 1 0 0
   refine ⟨_,_,_,.tuple [.int .i64 0,.int .i64 6],sq (a) (sq (b) (sq (c) (sq (d) (sqo (e) (c:=sn 31 B15) (b:=sn 63 B15)) (c:=sn 15 B15)) (c:=sn 7 B15)) (c:=sn 3 B15)) (c:=B15),by simp,by simp only [Qd,Qcy];rfl,?_⟩
   have e6:seE n l=6:=by rw [seE,if_pos hnet,if_neg fun h=>cn h.1]
   rw [six (by omega),e6];rfl
end Go.Proofs.Ytiejmoglooaalaa
end
section
open Go Go.HL
namespace Go.Proofs.Ytiejmoglooaalaa
set_option maxRecDepth 100000
set_option linter.unusedSectionVars false
open Go.Proofs.Try renaming prog → Tp
open Go.HL.HV renaming undef → Ud
section
variable {F:FuncId→Option (List HV→Option HV)}
noncomputable def B37:Code:=Try.f37.body.getD .skip
abbrev VW (v0 v1 v2 v6 v7 v8 v9 v10 v11:HV):Env:=[(0,v0),(1,v1),(2,v2),(6,v6),(7,v7),(8,v8),(9,v9),(10,v10),(11,v11)]
end
abbrev e37 (n:Int) (ls:List HV) (la:List HV) (u4 u5 u6 u7 u8:HV):Env:=VW (.i n) (.g ls) (.a la) (.imm .lit 1 []) u4 u5 u6 u7 u8
section
variable {F:FuncId→Option (List HV→Option HV)}
variable (N:Nat) (n:Int) (ls la:List HV)
include N n ls la
theorem QrQ:RU F 37 2 B37 [(0,.i n),(1,.g ls),(2,.a la)] [] .normal (e37 n ls la Ud Ud Ud Ud Ud) [] :=
 hx N 60 []
end
section
variable {F:FuncId→Option (List HV→Option HV)}
variable (N:Nat) (n:Int) (ls la:List HV)
include N n ls la
theorem QrR (H:Heap) (ob:Nat) {v0:HV} {H0:Heap} (g0:some (HV.sl H.length 0 0 none 0 1,H++[Blk.b []])=some (v0,H0)) (y7 y8 y9 y10 y11:HV:=Ud): RU F 37 6 B37 (e37 n ls la y7 y8 y9 y10 y11) H .normal (e37 n ls la v0 y8 y9 y10 y11) H0 :=
 hx N 60 [jR 1 0 g0]
theorem QrS (H:Heap) (ob i:Nat) (y8 y9 y10 y11:HV:=Ud): RU F 37 28 B37 (e37 n ls la (.s ob i) y8 y9 y10 y11) H .normal (e37 n ls la (.s ob i) (.i 0) y9 y10 y11) H :=
 hx N 60 []
theorem QrT (H:Heap) (ob i:Nat) (g0:(i:Int)<(ls.length:Int)) (y9 y10 y11:HV:=Ud): RU F 37 232 B37 (e37 n ls la (.s ob i) (.n i) y9 y10 y11) H .normal (e37 n ls la (.s ob i) (.n i) y9 y10 y11) H :=
 hx N 60 [jT 3 3 H g0]
theorem QrU (H:Heap) (ob i:Nat) (g0:¬((i:Int)<(ls.length:Int))) (y9 y10 y11:HV:=Ud): RU F 37 232 B37 (e37 n ls la (.s ob i) (.n i) y9 y10 y11) H (.exit 0) (e37 n ls la (.s ob i) (.n i) y9 y10 y11) H :=
 hx N 60 [jF 3 3 H g0]
theorem QrV (H:Heap) (ob i:Nat) (y9 y10 y11:HV:=Ud): RU F 37 1864 B37 (e37 n ls la (.s ob i) (.n i) y9 y10 y11) H .normal (e37 n ls la (.s ob i) (.n i) (.n i) y10 y11) H :=
 hx N 60 []
theorem QrW (H:Heap) (ob i:Nat) (x y:Int) {H0:Heap} (g0:(i:Int)<(la.length:Int)) (g1:IX 24 (.a la) (.n i) (.vptr (.i x))) (g2:CM F 24 [.i x,.i (qA.wrap ((i:Int)+1))] H (.i y) H0) (y10 y11:HV:=Ud): RU F 37 3730 B37 (e37 n ls la (.s ob i) (.n i) (.n i) y10 y11) H .normal (e37 n ls la (.s ob i) (.n i) (.i y) y10 y11) H0 :=
 hx N 60 [jT 6 3 H g0,jO 7 2 H g1,jD 7 6 g2]
theorem QrX (H:Heap) (ob i:Nat) (x y:Int) (g0:¬((i:Int)<(la.length:Int))) (y10 y11:HV:=Ud): RU F 37 3730 B37 (e37 n ls la (.s ob i) (.n i) (.n i) y10 y11) H .normal (e37 n ls la (.s ob i) (.n i) (.n i) y10 y11) H :=
 hx N 60 [jF 6 3 H g0]
theorem QrY (H:Heap) (ob i k:Nat) {v0:HV} {H0:Heap} (g0:some (HV.sl H.length 0 0 none 0 1,H++[Blk.b []])=some (v0,H0)) (y10 y11:HV:=Ud): RU F 37 7462 B37 (e37 n ls la (.s ob i) (.n i) (.n k) y10 y11) H .normal (e37 n ls la (.s ob i) (.n i) (.n k) v0 y11) H0 :=
 hx N 60 [jR 8 0 g0]
theorem QrZ (H:Heap) (ob i k nb m:Nat) {H0:Heap} {v0:HV} (g0:W5 Tp 24 (.s ob i) none (some (.n k)) none=some (.sl ob 0 k none i 1)) (g1:Zx Tp .append [24,24] [.s nb 0,.sl ob 0 k none i 1] H=some (v0,H0)) (y11:HV:=Ud): RU F 37 14926 B37 (e37 n ls la (.s ob i) (.n i) (.n k) (.s nb 0) y11) H .normal (e37 n ls la (.s ob i) (.n i) (.n k) v0 y11) H0 :=
 hx N 60 [jO 9 3 H g0,jR 9 4 g1]
theorem Qr0 (H:Heap) (ob i k nb m:Nat) {H0:Heap} {v0:HV} {H1:Heap} {v1:HV} (g0:Zu H 1 8 (.s nb m) [.n i]=some (v0,H0)) (g1:W5 Tp 24 (.s ob i) (some (.n k)) none none=some (.sl ob k (i-k) none i 1)) (g2:Zx Tp .append [24,24] [v0,.sl ob k (i-k) none i 1] H0=some (v1,H1)) (y11:HV:=Ud): RU F 37 14927 B37 (e37 n ls la (.s ob i) (.n i) (.n k) (.s nb m) y11) H .normal (e37 n ls la v1 (.n i) (.n k) v0 y11) H1 :=
 hx N 60 [jR 10 3 g0,jO 11 3 H0 g1,jR 11 4 g2]
theorem Qr1 (H:Heap) (i:Nat) (y7 y9 y10 y11:HV:=Ud): RU F 37 467 B37 (e37 n ls la y7 (.n i) y9 y10 y11) H .normal (e37 n ls la y7 (.i (qA.wrap ((i:Int)+1))) y9 y10 y11) H :=
 hx N 60 []
theorem Qr2 (H:Heap) (ob i nb m xb k:Nat) {H0:Heap} (g0:CM F 50 [.i n,.g ls,.s ob i] H (.tuple [.s nb m,.s xb k]) H0) (y8 y9 y10 y11:HV:=Ud): RU F 37 30 B37 (e37 n ls la (.s ob i) y8 y9 y10 y11) H .normal (e37 n ls la (.s ob i) y8 y9 y10 (.s nb m)) H0 :=
 hx N 60 [jD 12 3 g0]
theorem Qr3 (H:Heap) (ob i nb m:Nat) (y8 y9 y10:HV:=Ud): RU F 37 31 B37 (e37 n ls la (.s ob i) y8 y9 y10 (.s nb m)) H .ret (VW (.i n) (.g ls) (.a la) (.s nb m) (.s ob i) y8 y9 y10 (.s nb m)) H :=
 hx N 60 []
end
end Go.Proofs.Ytiejmoglooaalaa
end
section
open Go Go.HL
namespace Go.Proofs.Ytiejmoglooaalaa
set_option linter.unusedSectionVars false
open Go.Proofs.Try renaming prog → Tp
open Go.HL.HV renaming undef → Ud
theorem Qak {H:Heap} {nb ob:Nat} {o s:List Int} (hb:H[nb]?=some (bI o)) (hs:H[ob]?=some (bI s)) {off len:Nat} (hl:off+len≤s.length) (hr:o.length+len≤900) :
  Zx Tp .append [24,24] [.sl nb 0 o.length none o.length 1,.sl ob off len none s.length 1] H=some (.sl nb 0 (o++(s.drop off).take len).length none (o++(s.drop off).take len).length 1,H.set nb (bI (o++(s.drop off).take len))):=by
 have hi:=Qsf
 have hxl:((s.drop off).take len).length=len:=by rw [qQ,zP];omega
 have hsrc:Jo H (.sl ob off len none s.length 1)=some (((s.drop off).take len).map Qb,1):=by
  by_cases c:len=0
  ·subst c
   simp only [Jo,if_true,List.take_zero,qZ]
  ·simp only [Jo,if_neg c,Zt,hs]
   rw [if_pos ⟨by simp,by simpa using hl,trivial⟩,← List.map_drop,← List.map_take];rfl
 cases hinf:Tp.info? 3 with
 | none=>rw [hinf] at hi;cases hi
 | some inf =>
  rw [hinf] at hi
  simp only [Option.map,Option.some.injEq,Prod.mk.injEq] at hi
  obtain ⟨e1,e2,e3⟩:=hi
  simp only [Zx,u24,hinf,hsrc,e1,e2,e3]
  rw [if_pos ⟨.inl trivial,by omega,trivial⟩]
  by_cases c:(s.drop off).take len=[]
  ·rw [c,qZ,qI]
   simp only [Zu,if_true]
   rw [Dp hb]
  ·exact SH hb (by omega) c
def chA (y:List Int) (i:Nat):Nat:=if i<y.length then (QS (y.getD i 0) ((i:Int)+1)).toNat else i
def chO (y:List Int):Nat→List Int
 | 0=>[]
 | i+1=>(chO y i).take (chA y i)++[(i:Int)]++(chO y i).drop (chA y i)
theorem UH (y:List Int):∀i,(chO y i).length=i
 | 0=>rfl
 | i+1=>by
  have:=UH y i
  rw [chO,qG,qG,qQ,zP,zG];omega
theorem D5 (y:List Int):∀i,(chO y i).Perm (Qg i)
 | 0=>.refl _
 | i+1=>by
  have ih:=D5 y i
  rw [chO,Wr]
  have h:((chO y i).take (chA y i)++[(i:Int)]++(chO y i).drop (chA y i)).Perm (chO y i++[(i:Int)]):=by
   rw [qE]
   refine ((List.perm_append_comm (l₁:=[(i:Int)])).append_left _).trans ?_
   rw [← qE,List.take_append_drop]
  exact h.trans (ih.append_right _)
theorem Qr4 (y:List Int) {i:Nat} (hi:i<4000):chA y i≤i:=by
 unfold chA
 split
 ·have:=J1 (y.getD i 0) (n:=(i:Int)+1) (by omega) (by omega)
  omega
 ·exact qC _
def Qal:List HV→Option HV:=f3 kI kS kL fun n l y=>if (0≤n∧n≤16)∧YE n l=true∧l.length≤400 then some (.own 1 ((ZB l (chO y l.length)).map Qb)) else none
theorem Qtb:Try.f37.results.toList=[.tmp 6]:=by kernel_rfl
def J7:FuncId→Option (List HV→Option HV):=fun g=>if g==24 then some SK else if g==50 then some Cs else none
theorem QiE (n:Nat):Qn Tp (Qc Tp (plF J7) n):=Qy _ (fun g f h=>by
 unfold J7 at h
 split at h
 ·rename_i hg;cases h;rw [eq_of_beq hg];exact QaJ
 split at h
 ·rename_i hg;cases h;rw [eq_of_beq hg];exact SW
 ·cases h) n
theorem Qdo:QP Tp 37 Qal:=by
 refine Qp (pol:=plF J7) (fn:=Try.f37) (cd:=B37) Qk QiE (by kernel_rfl) (by kernel_rfl) (Zm J7 _ _ (by kernel_rfl)) (by kernel_rfl) ?_
 intro args res h
 obtain ⟨n,l,y,rfl,hq⟩:=Kp h
 split at hq
 case isFalse=>cases hq
 rename_i hc
 obtain ⟨hn,he,hl⟩:=hc
 cases hq
 have a:=QrQ (F:=J7) 0 n (l.map Qa) (y.map Qb)
 have b:=QrR (F:=J7) 0 n (l.map Qa) (y.map Qb) [] 0 (v0:=.sl 0 0 0 none 0 1) (H0:=[bI []]) rfl
 have c:=QrS (F:=J7) 0 n (l.map Qa) (y.map Qb) [bI []] 0 0
 obtain ⟨x,E',H',r,rfl,rfl,hlen,hb,hmx⟩:=Kq (pol':=plF J7) (f:=37) (b:=sn 116 B37) (c:=sn 58 B37)
  (I:=fun i e H=>e=(VW (.i n) (.g (l.map Qa)) (.a (y.map Qb)) (.imm .lit 1 []) (.s (i) (i)) (.i (i:Int)) Ud Ud Ud)∧H.length=i+1∧H[i]?=some (bI (chO y i))∧mxs H≤0)
  (Q:=fun x E' H=>x=.exit 0∧E'=(VW (.i n) (.g (l.map Qa)) (.a (y.map Qb)) (.imm .lit 1 []) (.s (l.length) (l.length)) (.i ((l.length:Nat):Int)) Ud Ud Ud)∧H.length=l.length+1∧H[l.length]?=some (bI (chO y l.length))∧mxs H≤0) l.length
  (by
   rintro i hi e H ⟨rfl,hlen,hb,hmx⟩
   have hol:=UH y i
   have ew:qA.wrap ((i:Int)+1)=(i:Int)+1:=Q7 (by omega) (by omega)
   have s1:=QrT (F:=J7) 0 n (l.map Qa) (y.map Qb) H i i (by rw [qF];omega)
   have s2:=QrV (F:=J7) 0 n (l.map Qa) (y.map Qb) H i i
   have hka:=Qr4 y (i:=i) (by omega)
   have s3:RT (plF J7) 37 (sn 3730 B37) ((VW (.i n) (.g (l.map Qa)) (.a (y.map Qb)) (.imm .lit 1 []) (.s (i) (i)) (.i (i:Int)) (.i (i:Int)) Ud Ud)) H .normal ((VW (.i n) (.g (l.map Qa)) (.a (y.map Qb)) (.imm .lit 1 []) (.s (i) (i)) (.i (i:Int)) (.i ((chA y i:Nat):Int)) Ud Ud)) H:=by
    by_cases c1:i<y.length
    ·have e1:chA y i=(QS (y.getD i 0) ((i:Int)+1)).toNat:=if_pos c1
     have hr:=J1 (y.getD i 0) (n:=(i:Int)+1) (by omega) (by omega)
     have s:=QrW (F:=J7) 0 n (l.map Qa) (y.map Qb) H i i (y.getD i 0) (QS (y.getD i 0) ((i:Int)+1)) (by rw [qF];omega) (gx c1) (by rw [ew];exact YM (F:=J7) (by kernel_rfl) (y.getD i 0) (n:=(i:Int)+1) (by omega) H)
     rw [e1,show (((QS (y.getD i 0) ((i:Int)+1)).toNat:Nat):Int)=QS (y.getD i 0) ((i:Int)+1) by omega]
     exact s
    ·have e1:chA y i=i:=if_neg c1
     rw [e1]
     exact QrX (F:=J7) 0 n (l.map Qa) (y.map Qb) H i i 0 0 (by rw [qF];omega)
   have eO:chO y (i+1)=(chO y i).take (chA y i)++[(i:Int)]++(chO y i).drop (chA y i):=rfl
   generalize chA y i=k at *
   have s4:=QrY (F:=J7) 0 n (l.map Qa) (y.map Qb) H i i k (v0:=.sl H.length 0 0 none 0 1) (H0:=H++[bI []]) rfl
   rw [hlen] at s4
   have gn:∀o,(H++[bI o])[i+1]?=some (bI o):=fun o=>by rw [← hlen,qP (qC _),qO];rfl
   have go:∀o,(H++[bI o])[i]?=some (bI (chO y i)):=fun o=>WJ hb
   have sN:∀o o',(H++[bI o]).set (i+1) (bI o')=H++[bI o']:=fun o o'=>by rw [← hlen,qX _ _ (qC _),qO];rfl
   have p1:=Qak (gn []) (go []) (off:=0) (len:=k) (by omega) (by simp;omega)
   rw [sN,List.nil_append,List.drop_zero,hol] at p1
   have tl:((chO y i).take k).length=k:=by rw [qQ];omega
   rw [tl] at p1
   have sl1:W5 Tp 24 (.sl i 0 i none i 1) none (some (.int .i64 (k:Int))) none=some (.sl i 0 k none i 1):=by
    simp only [W5,Js,u24,z3]
    rw [if_pos (by omega:(0:Int)≤(k:Int))]
    simp only [qD]
    simp
    omega
   have s5:=QrZ (F:=J7) 0 n (l.map Qa) (y.map Qb) (H++[bI []]) i i k (i+1) 0 (v0:=.sl (i+1) 0 k none k 1) (H0:=H++[bI ((chO y i).take k)]) sl1 p1
   have p2:=JD (gn ((chO y i).take k)) (by omega) (i:Int)
   rw [tl,sN] at p2
   have l2:((chO y i).take k++[(i:Int)]).length=k+1:=by rw [qG,tl];rfl
   have p3:=Qak (gn ((chO y i).take k++[(i:Int)])) (go _) (off:=k) (len:=i-k) (by omega) (by omega)
   have tk:((chO y i).drop k).take (i-k)=(chO y i).drop k:=zJ (by rw [zP];omega)
   rw [sN,hol,l2,tk,← eO,UH] at p3
   have sl2:W5 Tp 24 (.sl i 0 i none i 1) (some (.int .i64 (k:Int))) none none=some (.sl i k (i-k) none i 1):=by
    simp only [W5,Js,u24,z3]
    rw [if_pos (by omega:(0:Int)≤(k:Int))]
    simp only [qD]
    simp
    omega
   have s6:=Qr0 (F:=J7) 0 n (l.map Qa) (y.map Qb) (H++[bI ((chO y i).take k)]) i i k (i+1) k (v0:=.sl (i+1) 0 (k+1) none (k+1) 1) (H0:=H++[bI ((chO y i).take k++[(i:Int)])]) (v1:=.sl (i+1) 0 (i+1) none (i+1) 1) (H1:=H++[bI (chO y (i+1))]) p2 sl2 p3
   have s7:=Qr1 (F:=J7) 0 n (l.map Qa) (y.map Qb) (H++[bI (chO y (i+1))]) i (y7:=.s (i+1) (i+1)) (y9:=.i (k:Int)) (y10:=.s (i+1) (k+1))
   rw [show qA.wrap ((i:Int)+1)=((i+1:Nat):Int) by rw [ew];omega] at s7
   refine ⟨_,_,sq (s1) (sq (RunsTo.block_normal (i:=1) (c:=sn 466 B37) (sq (s2) (sq (s3) (sq (s4) (sq (s5) (s6) (c:=sn 7463 B37)) (c:=sn 3731 B37)) (c:=sn 1865 B37)) (c:=sn 932 B37)) (by kernel_rfl)) (s7) (c:=sn 233 B37)) (c:=sn 116 B37),by kernel_rfl,?_⟩
   have hl1:(H++[bI (chO y (i+1))]).length=i+2:=by rw [qG,hlen];rfl
   have hm1:mxs (H++[bI (chO y (i+1))])≤0:=by rw [WI];show max _ (max 0 0)≤0;omega
   have key:∀E1,E1=(VW (.i n) (.g (l.map Qa)) (.a (y.map Qb)) (.imm .lit 1 []) (.s (i+1) (i+1)) (.i ((i+1:Nat):Int)) Ud Ud Ud)→gc H.length (WF E1) (H++[bI (chO y (i+1))])=H++[bI (chO y (i+1))]:=by
    rintro _ rfl
    refine Qbf ?_
    have hbd:i+2≤WF ((VW (.i n) (.g (l.map Qa)) (.a (y.map Qb)) (.imm .lit 1 []) (.s (i+1) (i+1)) (.i ((i+1:Nat):Int)) Ud Ud Ud)):=by simp only [WF,bnd,bndL];omega
    omega
   have el:QO (plF J7) 37 (sn 116 B37) ((VW (.i n) (.g (l.map Qa)) (.a (y.map Qb)) (.imm .lit 1 []) (.s (i+1) (i+1)) (.i ((i+1:Nat):Int)) (.i (k:Int)) (.s (i+1) (k+1)) Ud))=(VW (.i n) (.g (l.map Qa)) (.a (y.map Qb)) (.imm .lit 1 []) (.s (i+1) (i+1)) (.i ((i+1:Nat):Int)) Ud Ud Ud):=by kernel_rfl
   have kk:=key _ el
   refine ⟨?_,?_,?_⟩
   ·exact (congrArg List.length kk).trans hl1
   ·exact (congrArg (fun G:Heap=>G[i+1]?) kk).trans (gn _)
   ·exact Nat.le_trans (Nat.le_of_eq (congrArg mxs kk)) hm1)
  (by
   rintro e H ⟨rfl,hlen,hb,hmx⟩
   have s1:=QrU (F:=J7) 0 n (l.map Qa) (y.map Qb) H l.length l.length (by rw [qF];omega)
   exact ⟨_,_,_,sqo (s1) (c:=sn 116 B37) (b:=sn 233 B37),by simp,rfl,rfl,hlen,hb,hmx⟩)
  (by kernel_rfl) (by rintro k e H ⟨rfl,_⟩;kernel_rfl) (e:=(VW (.i n) (.g (l.map Qa)) (.a (y.map Qb)) (.imm .lit 1 []) (.s (0) (0)) (.i (0:Int)) Ud Ud Ud)) (H:=[bI []]) ⟨rfl,rfl,rfl,qC _⟩
 have hol:=UH y l.length
 have hin:∀k∈chO y l.length,0≤k∧k<(l.length:Int):=fun k hk=>startT_mem.1 ((D5 y l.length).mem_iff.1 hk)
 have c50:=at3 (pol':=plF J7) (g:=50) (c1:=kI) (c2:=kS) (c3:=kL) (f:=fun n l t=>if (0≤n∧n≤16)∧YE n l=true∧inR l.length t=true∧t.length≤500∧l.length≤500 then some (.tuple [.own 1 ((ZB l t).map Qb),.own 1 ((ZZ n.toNat l t).map Qb)]) else none) (H:=H') (by kernel_rfl) (ShI _ n) (Ck _ l) (JV (b:=l.length) hol hb) (if_pos ⟨hn,he,inR_iff.2 hin,by omega,by omega⟩)
 rw [QbT] at c50
 have y1:=Qr2 (F:=J7) 0 n (l.map Qa) (y.map Qb) H' l.length l.length H'.length (ZB l (chO y l.length)).length (H'.length+1) (ZZ n.toNat l (chO y l.length)).length (y8:=.i (l.length:Int)) c50
 have z:=Qr3 (F:=J7) 0 n (l.map Qa) (y.map Qb) (H'++[bI (ZB l (chO y l.length))]++[bI (ZZ n.toNat l (chO y l.length))]) l.length l.length H'.length (ZB l (chO y l.length)).length (y8:=.i (l.length:Int))
 refine ⟨_,_,_,.sl H'.length 0 (ZB l (chO y l.length)).length none (ZB l (chO y l.length)).length 1,sq (a) (sq (b) (sq (sq (c) (bke (c:=sn 29 B37) (r)) (c:=sn 14 B37)) (sq (y1) (z) (c:=sn 15 B37)) (c:=sn 7 B37)) (c:=sn 3 B37)) (c:=B37),by simp,by simp only [Qd,Qtb];rfl,?_⟩
 exact VE (b:=H'.length) (by rw [qE,qP (qC _),qO];rfl) rfl
end Go.Proofs.Ytiejmoglooaalaa
end
section
open Go Go.HL Go.HL.Dt
namespace Go.Proofs.Ytiejmoglooaalaa
set_option linter.unusedSectionVars false
open Go.Proofs.Try renaming prog → Tp
open Go.HL.HV renaming undef → Ud
section
variable {n:Int} {l:List St} (hnet:Ww n l=true) (hc:Wl n l=true)
include hnet hc
theorem Qgf {O:List Int} (hO:O.Perm (Qg l.length)):isT n l (ZB l O)=true:=by
 have he:=QA hnet
 have hOi:∀k∈O,0≤k∧k<(l.length:Int):=fun k hk=>startT_mem.1 (hO.mem_iff.1 hk)
 have hOn:O.Nodup:=hO.nodup_iff.2 (Zn _)
 have hsub:(tkT l O).Sublist O:=by have:=Jb l O O.length (qC _);rwa [qN] at this
 have hti:∀k∈tkT l O,0≤k∧k<(l.length:Int):=fun k hk=>hOi k (hsub.subset hk)
 have hlen:((tkT l O).length:Int)=n-1:=by
  have h1:(tkT l O).length=(tkT l (Qh l)).length:=QX he hOi fun k=>by rw [hO.mem_iff,startT_mem,ordT_mem]
  have h2:=DI hnet hc
  rw [h1];exact h2
 have hfo:(tkT l (tkT l O)).length=(tkT l O).length:=by
  have:=(QeO (l:=l) (t:=O) O.length (qC _)).2
  rw [qN] at this
  rw [this]
 have hT:Tr n l (tkT l O):=⟨hti,hOn.sublist hsub,hlen,hfo⟩
 have hm:∀x,x∈tkT l O↔x∈ZB l O:=fun x=>by
  rw [ZB,jV,decide_eq_true_eq,startT_mem]
  exact ⟨fun h=>⟨hti x h,h⟩,fun h=>h.2⟩
 have ha:(ZB l O).Pairwise (· < ·):=(Vb _).sublist jG
 exact Qfo (hT.perm hnet (W2 ha) hm) ha
theorem Qcz:∀k,k≤l.length→(mrT l k=-1∧∀i:Nat,i<k→(i:Int)∈Qf l)∨(0≤mrT l k∧(∃i:Nat,i<k∧(i:Int)∉Qf l∧mrT l k=(slT l).getD i 0)∧∀i:Nat,i<k→(i:Int)∉Qf l→mrT l k≤(slT l).getD i 0)
 | 0,_=>.inl ⟨rfl,fun i h=>by omega⟩
 | k+1,hk=>by
  have ih:=Qcz k (by omega)
  rw [mrT]
  by_cases cT:(k:Int)∈Qf l
  ·rw [if_neg fun h=>h.1 cT]
   rcases ih with ⟨a,b⟩ | ⟨a,⟨i,i1,i2,i3⟩,b⟩
   ·exact .inl ⟨a,fun i hi=>by
     by_cases e:i=k
     ·rw [e];exact cT
     ·exact b i (by omega)⟩
   ·exact .inr ⟨a,⟨i,by omega,i2,i3⟩,fun j hj hjT=>by
     by_cases e:j=k
     ·rw [e] at hjT;exact absurd cT hjT
     ·exact b j (by omega) hjT⟩
  ·have s0:=(Xh hnet hc (k:=k) (by omega) cT).1
   rcases ih with ⟨a,b⟩ | ⟨a,⟨i,i1,i2,i3⟩,b⟩
   ·rw [if_pos ⟨cT,.inl (by omega)⟩]
    exact .inr ⟨s0,⟨k,by omega,cT,rfl⟩,fun j hj hjT=>by
     by_cases e:j=k
     ·rw [e];exact Int.le_refl _
     ·exact absurd (b j (by omega)) hjT⟩
   ·by_cases c:(slT l).getD k 0<mrT l k
    ·rw [if_pos ⟨cT,.inr c⟩]
     exact .inr ⟨s0,⟨k,by omega,cT,rfl⟩,fun j hj hjT=>by
      by_cases e:j=k
      ·rw [e];exact Int.le_refl _
      ·have:=b j (by omega) hjT;omega⟩
    ·rw [if_neg fun h=>h.2.elim (fun h=>by omega) c]
     exact .inr ⟨a,⟨i,by omega,i2,i3⟩,fun j hj hjT=>by
      by_cases e:j=k
      ·rw [e];omega
      ·exact b j (by omega) hjT⟩
theorem Qbg {x:List Int} (hx:isT n l x=true) (hne:x≠frT l) :
  seE n l=0∧seT n l=wgt l (frT l)+mrT l l.length∧seT n l≤wgt l x∧wgt l (frT l)≤seT n l∧(seT n l=wgt l (frT l)↔1<cN l 1001):=by
 obtain ⟨hT,ha⟩:=Ju hx
 have hw:=CD (l:=l)
 have hF:=S6 hnet hc
 have hex:∃i∈x,i∉Qf l:=by
  rcases Classical.em (∃i∈x,i∉Qf l) with c | c
  ·exact c
  ·exfalso
   have hsub:∀z∈x,z∈frT l:=fun z hz=>frT_mem.2 (Classical.byContradiction fun h=>c ⟨z,hz,h⟩)
   have hl:x.length=(frT l).length:=by have:=hT.ln;have:=hF.ln;omega
   refine hne (Yq ha (Kl l) fun z=>⟨hsub z,fun hz=>?_⟩)
   rcases Classical.em (z∈x) with d | d
   ·exact d
   ·exfalso
    have:=Jd (a:=z::x) (b:=frT l) (List.nodup_cons.2 ⟨d,hT.nd⟩) fun y hy=>by
     rcases List.mem_cons.1 hy with e | e
     ·exact e▸hz
     ·exact hsub y e
    rw [qJ] at this
    omega
 obtain ⟨i,i1,i2⟩:=hex
 have hir:=hT.rg i i1
 obtain ⟨k,rfl⟩:=zN hir.1
 have hkl:k<l.length:=by omega
 have hlen:(Qf l).length≠l.length:=fun e=>by
  have:=Jd (a:=(k:Int)::Qf l) (b:=Qg l.length) (List.nodup_cons.2 ⟨i2,ZK l⟩) fun y hy=>by
   rcases List.mem_cons.1 hy with e | e
   ·rw [e,startT_mem];omega
   ·exact startT_mem.2 (Zo e)
  rw [qJ,QU] at this
  omega
 have e0:seE n l=0:=by rw [seE,if_pos hnet,if_pos ⟨hc,hlen⟩]
 have oc:=Qai hnet hc hT i1 i2
 rcases Qcz hnet hc l.length (qC _) with ⟨_,b⟩ | ⟨a,⟨j,j1,j2,j3⟩,b⟩
 ·exact absurd (b k hkl) i2
 have bk:=b k hkl i2
 have hb1:0≤wgt l (Qf l)∧wgt l x≤1000000000:=by
  have wr:∀{t:List Int},Tr n l t→0≤wgt l t∧wgt l t≤1000000000:=fun {t} ht=>by
   have hl2:=(QE hnet).2.1
   have h1:=Dn (l:=l) (fun s hs=>by have:=(QE hnet).2.2.2 s hs;omega) (t:=t) (by have:=ht.ln;have:=(QE hnet).1;omega) t.length
   rw [zJ (by rw [qF];exact qC _)] at h1
   exact h1
  exact ⟨(wr (J0 hnet hc)).1,(wr hT).2⟩
 have es:seT n l=wgt l (Qf l)+mrT l l.length:=by
  rw [seT,if_pos e0,Qr (by omega) (by omega)]
 refine ⟨e0,by rw [es,hw],by omega,by omega,?_⟩
 rw [← Qix hnet hc,es,hw]
 constructor
 ·intro h
  exact ⟨j,j1,j2,by omega⟩
 ·rintro ⟨z,z1,z2,z3⟩
  have:=b z z1 z2
  omega
end
end Go.Proofs.Ytiejmoglooaalaa
end
section
open Go Go.HL
namespace Go.Proofs.Ytiejmoglooaalaa
set_option linter.unusedSectionVars false
open Go.Proofs.Try renaming prog → Tp
open Go.HL.HV renaming undef → Ud
def QiF:FuncId→Option (List HV→Option HV):=fun g=>if g==21 then some QaK else if g==52 then some WZ else if g==54 then some Xa else if g==40 then some YC else if g==71 then some Qeg else if g==70 then some Qeh else none
theorem QiG (n:Nat):Qn Tp (Qc Tp (plF QiF) n):=Qy _ (fun g f h=>by
 unfold QiF at h
 split at h
 ·rename_i hg;cases h;rw [eq_of_beq hg];exact QbI
 split at h
 ·rename_i hg;cases h;rw [eq_of_beq hg];exact JJ
 split at h
 ·rename_i hg;cases h;rw [eq_of_beq hg];exact XO
 split at h
 ·rename_i hg;cases h;rw [eq_of_beq hg];exact Yi
 split at h
 ·rename_i hg;cases h;rw [eq_of_beq hg];exact Qem
 split at h
 ·rename_i hg;cases h;rw [eq_of_beq hg];exact Qeo
 ·cases h) n
set_option maxRecDepth 100000 in
theorem Qdp:Qc Tp (plF QiF) 400 18 [] []=some (.bool true,[]):=by kernel_rfl
def C1:List HV→Option HV | []=>some (.bool true) | _=>none
theorem Qbh:QP Tp 18 C1:=by
 refine QcV (pol:=plF QiF) QiG (by kernel_rfl) fun args res h=>?_
 match args,h with
 | [],h =>
  cases h
  exact ⟨400,_,_,false,Qdp,rfl⟩
theorem Qam {pol':Pol} (hp:pol'.prim 18=some C1) (H:Heap):∀k,Qc Tp pol' (k+1) 18 [] H=some (.bool true,H):=fun k=>by
 rw [WS (pol:=pol') (g:=18) (F:=C1) hp (rs:=[]) rfl (res:=.bool true) rfl];rfl
theorem Qgg (l:List Int) (m e:Int) (H:Heap):ZP (.tuple [.own 1 (l.map Qb),.int .i64 m,.int .i64 e]) H=(.tuple [.sl H.length 0 l.length none l.length 1,.int .i64 m,.int .i64 e],H++[bI l]):=by
 have h:Wi (.own 1 (l.map Qb)) H=(.sl H.length 0 l.length none l.length 1,H++[bI l]):=by
  simp only [Wi,VC,qF];rfl
 simp only [ZP,ZQ,Jf,h];rfl
end Go.Proofs.Ytiejmoglooaalaa
end
