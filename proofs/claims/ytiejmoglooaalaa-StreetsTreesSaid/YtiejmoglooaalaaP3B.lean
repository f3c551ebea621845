/- A part of the proof. -/
import Derived.Test.YtiejmoglooaalaaP3A
set_option linter.unusedVariables false
set_option linter.unusedSimpArgs false
set_option linter.unnecessarySimpa false
open Go.IntKind renaming i64 → qA
open List renaming length_append → qB, length_map → qD, length_cons → qE, append_assoc → qF, length_singleton → qG, mem_cons_of_mem → qH, cons_append → qI, range → qJ, take_length → qK, mem_cons_self → qL, mem_append → qM, nil_append → qO, foldr_cons → qP, length_take → qQ, append_nil → qR, mem_append_left → qS, filter_sublist → qT, getD → qV, replicate → qW, filter_cons_of_neg → qX, filter_cons_of_pos → qY, mem_filter → qZ, filter_append → jA, getElem?_append_right → jG, length_nil → jH, take_of_length_le → jJ, mem_cons → jN, mem_append_right → jP, getElem_of_mem → jQ, map_cons → jU, map_append → jV, set_append_right → jY, map_take → jZ, mem_of_mem_take → zA, length_filter_le → zC, filter_congr → zD, take_left → zI, getElem?_eq_getElem → zJ, append_of_mem → zP, ext_getElem → zS, mem_singleton → zT, all_eq_true → zU, not_mem_nil → zV, nodup_nil → zW, take_append_of_le_length → wC, mem_singleton_self → wE, mem_map → wF, mem_range → wG, filter_cons → wH, getElem?_take_of_lt → wJ, getElem?_eq_none → wK, length_replicate → wL, countP_eq_length_filter → wM, exists_mem_of_ne_nil → wN
open Nat renaming le_refl → qC, sub_self → qN, zero_le → jE, add_zero → zE
open Int renaming toNat_natCast → qU, neg_mul → jI, pow_succ → jW, mul_neg → jX, mul_add → zG, mul_left_comm → zH, le_total → zN, mul_assoc → zQ, min_eq_left → zX, max_eq_right → zY, min_eq_right → zZ, max_eq_left → wA
open Bool renaming and_self → zF, and_eq_true → zL, true_and → wD, false_eq_true → wI
open Option renaming map_some → zO
section
open Go Go.HL
namespace Go.Proofs.Ytiejmoglooaalaa
set_option linter.unusedSectionVars false
open Go.Proofs.Try renaming prog → Tp
open Go.HL.HV renaming undef → Ud
section
variable {F:FuncId→Option (List HV→Option HV)}
theorem Gl (h52:F 52=some Zv) (n lo hi:Int) (H:Heap):∀k,Qs Tp (plF F) (k+1) 52 [.int .i64 n,.int .i64 lo,.int .i64 hi] H=some (.bool (decide (lo≤n∧n≤hi)),H) :=
 at3 (pol':=plF F) (g:=52) (c1:=kI) (c2:=kI) (c3:=kI) (f:=fun n lo hi=>some (.bool (decide (lo≤n∧n≤hi)))) h52 (ShI H n) (ShI H lo) (ShI H hi) rfl
abbrev bT (s:St):Blk:=.arr 3 [Qa s] true 0
theorem ldT {H:Heap} {b:Nat} {s:St} (hb:H[b]?=some (bT s)) (off:Nat) (x:Int) (hx:[HV.int .i64 s.1,.int .i64 s.2.1,.int .i64 s.2.2][off]?=some (.int .i64 x)):QK Tp H 3 (.ptr b 0 off 1)=some (.int .i64 x) :=
 VP (P:=Tp) (t:=3) (b:=b) (i:=0) (off:=off) (tot:=1) (els:=[Qa s]) (cs:=[.int .i64 s.1,.int .i64 s.2.1,.int .i64 s.2.2]) hb rfl rfl a3 i3 hx
theorem ld1 {H:Heap} {b mx:Nat} {n:Int} (hb:H[b]?=some (.arr 1 [.int .i64 n] true mx)):QK Tp H 3 (.ptr b 0 0 1)=some (.int .i64 n):=WV (b:=b) hb rfl rfl rfl a3 i3
theorem VX {H X:Heap} (hm:mxs (H++X)≤H.length) {r:Nat} (hr:r≤H.length):gc H.length r (H++X)=H:=by
 unfold gc
 rw [show max H.length (max r (mxs (H++X)))=H.length by omega]
 exact zI
theorem SH (h52:F 52=some Zv) (h60:F 60=none) {H:Heap} {nb:Nat} {n:Int} (hb:H[nb]?=some (.arr 1 [.int .i64 n] true 0)) (hm:mxs H≤H.length) (hn:1≤n∧n≤16) (s:St) :
  ClF F 60 [Qa s,.ptr nb 0 0 1] H (.bool (!stB n s)) H:=by
 have hw:qA.wrap (n-1)=n-1:=WN (by omega) (by omega)
 have hx:(H++[bT s])[H.length]?=some (bT s):=by rw [jG (qC _),qN];rfl
 have lv:=ld1 (Wb (X:=[bT s]) hb)
 have la:=ldT hx 0 s.1 rfl
 have lb:=ldT hx 1 s.2.1 rfl
 have lw:=ldT hx 2 s.2.2 rfl
 have wi:=fun (x lo hi:Int)=>Gl h52 x lo hi (H++[bT s])
 have fin:∀(v:Bool) (E:Env),RT (plF F) 60 (sub [] B60) [(0,Qa s),(1,.ptr nb 0 0 1)] H .ret E (H++[bT s])→E.get 3=.bool v→ClF F 60 [Qa s,.ptr nb 0 0 1] H (.bool v) H:=fun v E t he=>by
  have hr:Try.f60.results.toList=[.tmp 3]:=by kernel_rfl
  have h:=CallsTo.shared (P:=Tp) (pol:=plF F) (g:=60) (fn:=Try.f60) (cd:=B60) (args:=[Qa s,.ptr nb 0 0 1]) (v:=.bool v) h60 (by kernel_rfl) (by kernel_rfl) (by kernel_rfl) t (by kernel_rfl) (by simp) (by simp only [Qc,hr,mapO,Wv,he])
  rw [VX (r:=bnd (.bool v)) (by rw [Wn];show max (mxs H) (max 0 0)≤_;omega) (by simp [bnd])] at h
  exact h
 have nv:some (Wt (Qa s) H)=some (.ptr H.length 0 0 1,H++[bT s]):=rfl
 have f0:Qq Tp 42 (.ptr H.length 0 0 1) 0=some (.ptr H.length 0 0 1):=by kernel_rfl
 have f1:Qq Tp 42 (.ptr H.length 0 0 1) 1=some (.ptr H.length 0 1 1):=by kernel_rfl
 have f2:Qq Tp 42 (.ptr H.length 0 0 1) 2=some (.ptr H.length 0 2 1):=by kernel_rfl
 have w1:=wi s.1 0 (qA.wrap (n-1))
 have w2:=wi s.2.1 0 (qA.wrap (n-1))
 have w3:=wi s.2.2 0 1000
 rw [hw] at w1 w2
 by_cases k1:0≤s.1∧s.1≤n-1
 ·rw [decide_eq_true k1] at w1
  by_cases k2:0≤s.2.1∧s.2.1≤n-1
  ·rw [decide_eq_true k2] at w2
   by_cases k3:s.1=s.2.1
   ·rw [show stB n s=false from decide_eq_false (fun h=>h.2.2.1 k3)]
    exact fin true _ (Qlj (F:=F) s.1 s.2.1 s.2.2 nb H n nv f0 la lv (by rw [hw];exact w1) f1 lb lv (by rw [hw];exact w2) f0 la f1 lb k3) rfl
   ·by_cases k4:0≤s.2.2∧s.2.2≤1000
    ·rw [decide_eq_true k4] at w3
     rw [show stB n s=true from decide_eq_true ⟨by omega,by omega,k3,k4⟩]
     exact fin false _ (Qlk (F:=F) s.1 s.2.1 s.2.2 nb H n nv f0 la lv (by rw [hw];exact w1) f1 lb lv (by rw [hw];exact w2) f0 la f1 lb k3 f2 lw w3) rfl
    ·rw [decide_eq_false k4] at w3
     rw [show stB n s=false from decide_eq_false (fun h=>k4 h.2.2.2)]
     exact fin true _ (Qll (F:=F) s.1 s.2.1 s.2.2 nb H n nv f0 la lv (by rw [hw];exact w1) f1 lb lv (by rw [hw];exact w2) f0 la f1 lb k3 f2 lw w3) rfl
  ·rw [decide_eq_false k2] at w2
   rw [show stB n s=false from decide_eq_false (fun h=>k2 (by omega))]
   exact fin true _ (Qlm (F:=F) s.1 s.2.1 s.2.2 nb H n nv f0 la lv (by rw [hw];exact w1) f1 lb lv (by rw [hw];exact w2)) rfl
 ·rw [decide_eq_false k1] at w1
  rw [show stB n s=false from decide_eq_false (fun h=>k1 (by omega))]
  exact fin true _ (Qln (F:=F) s.1 s.2.1 s.2.2 nb H n nv f0 la lv (by rw [hw];exact w1)) rfl
theorem Qgs (h52:F 52=some Zv) (h60:F 60=none) (h74:F 74=none) {H:Heap} {nb:Nat} {n:Int} (hb:H[nb]?=some (.arr 1 [.int .i64 n] true 0)) (hm:mxs H≤H.length) (hn:1≤n∧n≤16) {l:List St} (hl:l.length≤1000) :
  ∃r:Int,ClF F 74 [.imm .arg 3 (l.map Qa),.func 60 [] [.ptr nb 0 0 1]] H (.int .i64 r) H∧(0≤r↔¬l.all (stB n)=true):=by
 have go:∀m,m≤l.length→(∀i,i<m→¬stB n (l.getD i (0,0,0))=false)→∀i,i<m→RT (plF F) 74 (sn 52 B74) ((U8 (.g (l.map Qa)) (.func 60 [] [.q nb]) (.i 0) Ud (.i (l.length:Int)) (.i (i:Int)))) H .normal ((U8 (.g (l.map Qa)) (.func 60 [] [.q nb]) (.i 0) (.i (i:Int)) (.i (l.length:Int)) (.i ((i+1:Nat):Int)))) H:=fun m hm' hn' i hi=>by
  have ok:stB n (l.getD i (0,0,0))=true:=by have:=hn' i hi;cases c:stB n (l.getD i (0,0,0)) <;> simp_all
  obtain ⟨N,cN⟩:=CallsTo.from (SH h52 h60 hb hm hn (l.getD i (0,0,0)))
  rw [ok] at cN
  have s:=Qlr (F:=F) N (l.map Qa) nb H l.length i (l.getD i (0,0,0)).1 (l.getD i (0,0,0)).2.1 (l.getD i (0,0,0)).2.2 (by omega) (gs (by omega)) cN
  rw [Qj (by omega)] at s
  exact s
 have a:=Qlo (F:=F) 0 (l.map Qa) nb H
 have b:=Qlp (F:=F) 0 (l.map Qa) nb H
 rw [qD] at b
 have hr:Try.f74.results.toList=[.tmp 4]:=by kernel_rfl
 rcases Kp (0,0,0) (fun s=>stB n s=false) l with ⟨m,h1,h2,h3⟩ | hno
 ·obtain ⟨N,cN⟩:=CallsTo.from (SH h52 h60 hb hm hn (l.getD m (0,0,0)))
  rw [h2] at cN
  have r:=Q7 (pol':=plF F) (f:=74) (E:=fun i=>(U8 (.g (l.map Qa)) (.func 60 [] [.q nb]) (.i 0) Ud (.i (l.length:Int)) (.i (i:Int)))) (Hs:=fun _=>H) m (go m (by omega) h3) (fun i _=>by kernel_rfl) (fun i _=>QC _ rfl) (Qlq (F:=F) N (l.map Qa) nb H l.length m (l.getD m (0,0,0)).1 (l.getD m (0,0,0)).2.1 (l.getD m (0,0,0)).2.2 (by omega) (gs h1) cN) (by simp) (c:=sn 26 B74) (by kernel_rfl) (fun i _=>by kernel_rfl)
  have t:=sq (a) (sqo (sq (b) (RunsTo.block_ret (i:=0) (c:=sn 13 B74) (r) (by kernel_rfl)) (c:=sn 6 B74)) (c:=sn 3 B74) (b:=sn 7 B74)) (c:=B74)
  have h:=CallsTo.shared (P:=Tp) (pol:=plF F) (g:=74) (fn:=Try.f74) (cd:=B74) (args:=[.imm .arg 3 (l.map Qa),.func 60 [] [.ptr nb 0 0 1]]) (v:=.int .i64 (m:Int)) h74 (by kernel_rfl) (by kernel_rfl) (by kernel_rfl) t (by kernel_rfl) (by simp) (by simp only [Qc,hr];rfl)
  rw [QC _ rfl] at h
  refine ⟨_,h,⟨fun _ hall=>?_,fun _=>by omega⟩⟩
  have:=List.all_eq_true.1 hall _ (Qo (0,0,0) h1)
  rw [h2] at this;cases this
 ·have r:=Q7 (pol':=plF F) (f:=74) (E:=fun i=>(U8 (.g (l.map Qa)) (.func 60 [] [.q nb]) (.i 0) Ud (.i (l.length:Int)) (.i (i:Int)))) (Hs:=fun _=>H) l.length (go l.length (qC _) fun i hi=>hno _ (Qo _ hi)) (fun i _=>by kernel_rfl) (fun i _=>QC _ rfl) (Qls (F:=F) 0 (l.map Qa) nb H l.length l.length 0 0 0 (by omega)) (by simp) (c:=sn 26 B74) (by kernel_rfl) (fun i _=>by kernel_rfl)
  have z:=Qlt (F:=F) 0 (l.map Qa) nb H (y7:=.i (l.length:Int)) (y8:=.i (l.length:Int))
  have t:=sq (a) (sq (sq (b) (bke (c:=sn 13 B74) (r)) (c:=sn 6 B74)) (z) (c:=sn 3 B74)) (c:=B74)
  have h:=CallsTo.shared (P:=Tp) (pol:=plF F) (g:=74) (fn:=Try.f74) (cd:=B74) (args:=[.imm .arg 3 (l.map Qa),.func 60 [] [.ptr nb 0 0 1]]) (v:=.int .i64 (-1)) h74 (by kernel_rfl) (by kernel_rfl) (by kernel_rfl) t (by kernel_rfl) (by simp) (by simp only [Qc,hr];rfl)
  rw [QC _ rfl] at h
  refine ⟨_,h,⟨fun h=>by omega,fun hall=>absurd (List.all_eq_true.2 fun s hs=>?_) hall⟩⟩
  have:=hno s hs
  cases c:stB n s <;> simp_all
theorem Qgt (h52:F 52=some Zv) (h60:F 60=none) (h61:F 61=none) (h74:F 74=none) {H:Heap} {nb:Nat} {n:Int} (hb:H[nb]?=some (.arr 1 [.int .i64 n] true 0)) (hm:mxs H≤H.length) (hn:1≤n∧n≤16) {l:List St} (hl:l.length≤1000) :
  ClF F 61 [.imm .arg 3 (l.map Qa),.func 60 [] [.ptr nb 0 0 1]] H (.bool (!l.all (stB n))) H:=by
 obtain ⟨r,hc,hr⟩:=Qgs h52 h60 h74 hb hm hn hl
 obtain ⟨N,cN⟩:=CallsTo.from hc
 have h61r:Try.f61.results.toList=[.tmp 4]:=by kernel_rfl
 by_cases c:0≤r
 ·have t:=Qlu (F:=F) N (l.map Qa) nb H cN c
  have h:=CallsTo.shared (P:=Tp) (pol:=plF F) (g:=61) (fn:=Try.f61) (cd:=B61) (args:=[.imm .arg 3 (l.map Qa),.func 60 [] [.ptr nb 0 0 1]]) (v:=.bool true) h61 (by kernel_rfl) (by kernel_rfl) (by kernel_rfl) t (by kernel_rfl) (by simp) (by simp only [Qc,h61r];rfl)
  rw [QC _ rfl] at h
  have:l.all (stB n)=false:=by have:=hr.1 c;cases d:l.all (stB n) <;> simp_all
  rw [this];exact h
 ·have t:=Qlv (F:=F) N (l.map Qa) nb H cN c
  have h:=CallsTo.shared (P:=Tp) (pol:=plF F) (g:=61) (fn:=Try.f61) (cd:=B61) (args:=[.imm .arg 3 (l.map Qa),.func 60 [] [.ptr nb 0 0 1]]) (v:=.bool false) h61 (by kernel_rfl) (by kernel_rfl) (by kernel_rfl) t (by kernel_rfl) (by simp) (by simp only [Qc,h61r];rfl)
  rw [QC _ rfl] at h
  have:l.all (stB n)=true:=by
   cases d:l.all (stB n) with
   | true=>rfl
   | false=>exact absurd (hr.2 (by simp [d])) c
  rw [this];exact h
structure NwF (F:FuncId→Option (List HV→Option HV)):Prop where
 h39:F 39=none
 h52:F 52=some Zv
 h60:F 60=none
 h61:F 61=none
 h74:F 74=none
theorem Cf (hF:NwF F) {H:Heap} (hm:mxs H≤H.length) (n:Int) {l:List St} (hl:l.length≤1000):ClF F 39 [.int .i64 n,.imm .arg 3 (l.map Qa)] H (.tuple [Qt n l,.bool (Wh n l)]) H:=by
 have hr:Try.f39.results.toList=[.cell 4 66,.tmp 5]:=by kernel_rfl
 have g0:∀(A B:Blk),(H++[A]++[B])[H.length]?=some A:=fun A B=>by rw [qF];exact Qit H A B
 have g1:∀(A B:Blk),(H++[A]++[B])[H.length+1]?=some B:=fun A B=>by rw [qF];exact Qej H A B
 have nv0:some (Wt (.int .i64 n) H)=some (.ptr H.length 0 0 1,H++[.arr 1 [.int .i64 n] true 0]):=rfl
 have nv1:some (Wt (.agg [.int .i64 0,.imm .lit 0 []]) (H++[.arr 1 [.int .i64 n] true 0]))=some (.ptr (H.length+1) 0 0 1,H++[.arr 1 [.int .i64 n] true 0]++[.arr 2 [.agg [.int .i64 0,.imm .lit 0 []]] true 0]):=by
  have:(H++[Blk.arr 1 [HV.int .i64 n] true 0]).length=H.length+1:=by simp
  rw [← this];rfl
 have l0:=ld1 (g0 (.arr 1 [.int .i64 n] true 0) (.arr 2 [.agg [.int .i64 0,.imm .lit 0 []]] true 0))
 have w0:=Gl hF.h52 n 1 16 (H++[.arr 1 [.int .i64 n] true 0]++[.arr 2 [.agg [.int .i64 0,.imm .lit 0 []]] true 0])
 have st:Wf Tp (H++[.arr 1 [.int .i64 n] true 0]++[.arr 2 [.agg [.int .i64 0,.imm .lit 0 []]] true 0]) 66 (.ptr (H.length+1) 0 0 1) (Qt n l)=some (H++[.arr 1 [.int .i64 n] true 0]++[bN n l]):=by
  have:=VQ (P:=Tp) (H:=H++[.arr 1 [.int .i64 n] true 0]++[.arr 2 [.agg [.int .i64 0,.imm .lit 0 []]] true 0]) (t:=66) (b:=H.length+1) (i:=0) (tot:=1) (k:=2) (mx:=0) (els:=[.agg [.int .i64 0,.imm .lit 0 []]]) (cs:=[.int .i64 0,.imm .lit 0 []]) (new:=[.int .i64 n,.imm .arg 3 (l.map Qa)]) (g1 _ _) rfl rfl z66 rfl (by simp) rfl (by simp [bndL,bnd])
  unfold Qt
  rw [this]
  congr 1
  rw [jY _ _ (by simp)]
  simp only [qB,qG,qN]
  rfl
 have hmx:mxs (H++[Blk.arr 1 [.int .i64 n] true 0]++[Blk.arr 2 [.agg [.int .i64 0,.imm .lit 0 []]] true 0])≤(H++[Blk.arr 1 [.int .i64 n] true 0]++[Blk.arr 2 [.agg [.int .i64 0,.imm .lit 0 []]] true 0]).length:=by
  rw [Wn,Wn,qB,qB];show max (max (mxs H) (max 0 0)) (max 0 0)≤_;omega
 have fin:∀(v:Bool) (E:Env),RT (plF F) 39 (sub [] B39) [(0,.int .i64 n),(1,.imm .arg 3 (l.map Qa))] H .ret E (H++[.arr 1 [.int .i64 n] true 0]++[bN n l])→E.get 4=.ptr (H.length+1) 0 0 1→E.get 5=.bool v→ClF F 39 [.int .i64 n,.imm .arg 3 (l.map Qa)] H (.tuple [Qt n l,.bool v]) H:=fun v E t he4 he5=>by
  have ld:QK Tp (H++[.arr 1 [.int .i64 n] true 0]++[bN n l]) 66 (.ptr (H.length+1) 0 0 1)=some (Qt n l):=UU (P:=Tp) (b:=H.length+1) (els:=[Qt n l]) (cs:=[.int .i64 n,.imm .arg 3 (l.map Qa)]) (g1 _ _) rfl rfl a66 z66
  have h:=CallsTo.shared (P:=Tp) (pol:=plF F) (g:=39) (fn:=Try.f39) (cd:=B39) (args:=[.int .i64 n,.imm .arg 3 (l.map Qa)]) (v:=.tuple [Qt n l,.bool v]) hF.h39 (by kernel_rfl) (by kernel_rfl) (by kernel_rfl) t (by kernel_rfl) (by simp) (by simp only [Qc,hr,mapO,Wv,he4,he5,ld])
  rw [qF] at h
  rw [VX (by rw [Wn];show max (mxs H) (max 0 (max 0 0))≤_;omega) (by simp [bnd,bndL,Qt])] at h
  exact h
 by_cases k1:1≤n∧n≤16
 ·rw [decide_eq_true k1] at w0
  by_cases k2:l.length≤60
  ·have cf:=Qgt hF.h52 hF.h60 hF.h61 hF.h74 (H:=H++[.arr 1 [.int .i64 n] true 0]++[.arr 2 [.agg [.int .i64 0,.imm .lit 0 []]] true 0]) (g0 _ _) hmx k1 hl
   obtain ⟨N,cN⟩:=CallsTo.from cf
   have e:Wh n l=l.all (stB n):=by rw [Wh,decide_eq_true ⟨k1,k2⟩,Bool.and_true]
   rw [e]
   cases d:l.all (stB n) with
   | true =>
    rw [d] at cN
    exact fin true _ (Qlx (F:=F) N n (l.map Qa) H nv0 nv1 l0 w0 (by rw [qD];omega) cN l0 st) rfl rfl
   | false =>
    rw [d] at cN
    exact fin false _ (Qlw (F:=F) N n (l.map Qa) H nv0 nv1 l0 w0 (by rw [qD];omega) cN l0 st) rfl rfl
  ·rw [show Wh n l=false by rw [Wh,decide_eq_false (fun h=>k2 h.2),Bool.and_false]]
   exact fin false _ (Qly (F:=F) 0 n (l.map Qa) H nv0 nv1 l0 w0 (by rw [qD];omega) l0 st) rfl rfl
 ·rw [decide_eq_false k1] at w0
  rw [show Wh n l=false by rw [Wh,decide_eq_false (fun h=>k1 h.1),Bool.and_false]]
  exact fin false _ (Qlz (F:=F) 0 n (l.map Qa) H nv0 nv1 l0 w0 l0 st) rfl rfl
end
abbrev bB (bs:List Bool):Blk:=.arr 1 (bs.map HV.bool) true 0
theorem ldB {H:Heap} {b:Nat} {bs:List Bool} (hb:H[b]?=some (bB bs)) {i:Nat} (hi:i<bs.length):QK Tp H 4 (.ptr b i 0 bs.length)=some (.bool (bs.getD i false)) :=
 WV (b:=b) hb (by simp) (by rw [List.getElem?_map,zJ hi];simp [qV,zJ hi]) rfl a4 i4
theorem QrO {H:Heap} {b:Nat} {bs:List Bool} (hb:H[b]?=some (bB bs)) {i:Nat} (hi:i<bs.length) (v:Bool):Wf Tp H 4 (.ptr b i 0 bs.length) (.bool v)=some (H.set b (bB (bs.set i v))):=by
 have h1:(bs.map HV.bool)[i]?=some (.bool bs[i]):=by rw [List.getElem?_map,zJ hi];rfl
 have:=UV (P:=Tp) (t:=4) (b:=b) (tot:=bs.length) (v:=.bool v) hb (by simp) h1 rfl (by intro cs h;cases h) z4 rfl rfl (by simp [bnd])
 rw [this]
 show some (H.set b (.arr 1 ((bs.map HV.bool).set i (.bool v)) true 0))=_
 rw [bB,List.map_set]
def Ju (n:Int) (l:List St):Bool:=l.all fun s=>decide ((0≤s.1∧s.1<n)∧0≤s.2.1∧s.2.1<n)
theorem endN_iff {n:Int} {l:List St}:Ju n l=true↔∀s∈l,(0≤s.1∧s.1<n)∧0≤s.2.1∧s.2.1<n:=by simp [Ju]
theorem Vy {n:Int} {l:List St} (h:Ju n l=true) (hn:n≤16):Jm l=true:=endB_iff.2 fun s hs=>by have:=endN_iff.1 h s hs;omega
theorem SI {n:Int} {l:List St} (he:Ju n l=true) {k:Int} (hk:0≤k∧k<(l.length:Int)):(0≤sA l k∧sA l k<n)∧0≤sB l k∧sB l k<n:=endN_iff.1 he _ (Qo _ (by omega))
def QT (n:Nat) (l:List St) (t:List Int):List Int:=(QB l t).take n
def inT (l:List St) (t:List Int):List Bool:=(qJ l.length).map fun (k:Nat)=>decide ((k:Int)∈tkT l t)
def ZZ (l:List St) (t:List Int):List Int:=(Qf l.length).filter fun k=>decide (k∈tkT l t)
theorem U9 {g:List Int} {n:Nat} {a b:Int} (ha:0≤a∧a<(n:Int)) (hb:0≤b∧b<(n:Int)):(Wa g a b).take n=Wa (g.take n) a b:=by
 have e:∀c:Int,0≤c∧c<(n:Int)→(g.take n).getD c.toNat 0=g.getD c.toNat 0:=fun c hc=>by
  simp only [qV]
  rw [wJ (by omega)]
 unfold Wa
 rw [e a ha,e b hb,jZ]
theorem JE (l:List St) (t:List Int) {i:Nat} (hi:i<t.length):QB l (t.take (i+1))=Wa (QB l (t.take i)) (sA l (t.getD i 0)) (sB l (t.getD i 0)):=by
 rw [QB,XR l t hi];rfl
theorem ZP (l:List St) (t:List Int) {i:Nat} (hi:i<t.length):tkT l (t.take (i+1))=if (QB l (t.take i)).getD (sA l (t.getD i 0)).toNat 0≠(QB l (t.take i)).getD (sB l (t.getD i 0)).toNat 0 then tkT l (t.take i)++[t.getD i 0] else tkT l (t.take i):=by
 rw [tkT,XR l t hi];rfl
theorem VY {g:List Int} {n v:Nat} (h:v<n):(g.take n).getD v 0=g.getD v 0:=by
 simp only [qV]
 rw [wJ h]
theorem VZ {g:List Int} {a b:Int} (h:g.getD a.toNat 0=g.getD b.toNat 0):Wa g a b=g:=by
 unfold Wa
 rw [h]
 conv=>rhs;rw [← List.map_id g]
 refine List.map_congr_left fun x _=>?_
 unfold WP
 split
 ·rename_i h;rw [h];simp
 ·rfl
theorem Qek {l:List St} {t:List Int} {i:Nat} (hi:i<l.length):(inT l t).getD i false=decide ((i:Int)∈tkT l t):=by
 simp [inT,qV,hi]
theorem Y3 (l:List St) (t:List Int):(inT l t).length=l.length:=by simp [inT]
theorem Qgu {l:List St} {t t':List Int} {k:Nat} (h:tkT l t'=tkT l t++[(k:Int)]):(inT l t).set k true=inT l t':=by
 apply zS
 ·simp [inT]
 ·intro i h1 h2
  simp only [inT,List.length_set,qD,List.length_range] at h1
  rw [List.getElem_set]
  simp only [inT,List.getElem_map,List.getElem_range,h,qM,zT]
  split
  ·rename_i e;subst e;simp
  ·rename_i e
   have:¬((i:Int)=(k:Int)):=by omega
   simp [this]
theorem SJ (l:List St) (t:List Int) {i:Nat}:((Qf (i+1)).filter fun k=>decide (k∈tkT l t))=((Qf i).filter fun k=>decide (k∈tkT l t))++(if (i:Int)∈tkT l t then [(i:Int)] else []):=by
 rw [WO,jA]
 congr 1
 by_cases h:(i:Int)∈tkT l t <;> simp [h]
def Ch:List HV→Option HV:=f3 kI kS kL fun n l t=>if (0≤n∧n≤16)∧Ju n l=true∧inR l.length t=true∧t.length≤500∧l.length≤500 then some (.tuple [.own 1 ((ZZ l t).map Qb),.own 1 ((QT n.toNat l t).map Qb)]) else none
theorem Qrj:Try.f50.results.toList=[.tmp 6,.tmp 7]:=by kernel_rfl
theorem QlA {H:Heap} {b c j k:Nat} {o p:List Int} (hb:H[b]?=some (bI o)) (hk:o.length=k) (hc:H[c]?=some (bI p)) (hj:p.length=j) (hne:b≠c):WS H false (.tuple [.sl b 0 k none k 1,.sl c 0 j none j 1])=some (.tuple [.own 1 (o.map Qb),.own 1 (p.map Qb)]):=by
 have h1:=ZD (H:=H) (no:=[b,c]) (b:=b) (k:=1) (m:=k) (cap:=none) (els:=o.map Qb) hb (by simpa using hk) (Wy (fun r=>JV 4 r) _)
 have h2:=ZD (H:=H) (no:=[b,c]) (b:=c) (k:=1) (m:=j) (cap:=none) (els:=p.map Qb) hc (by simpa using hj) (Wy (fun r=>JV 4 r) _)
 have ho:QO H false (.tuple [.sl b 0 k none k 1,.sl c 0 j none j 1])=[b,c]:=by simp [QO,cellsOf,Zl,hb,hc]
 have hn:[b,c].Nodup:=by simp [hne]
 simp only [WS,ho,hn,if_true,mapO,W1,h1,h2]
theorem QlB:Tp.underlying 99=some (.slice 4):=by kernel_rfl
theorem ZT {t b len:Nat} {cap:Option Nat} {e:TypeId} (ht:Tp.underlying t=some (.slice e)) (hs:Qr Tp e=some 1) {i:Nat} (h:i<len):ZI Tp t (.sl b 0 len cap len 1) (.int .i64 (i:Int))=some (.ptr b i 0 len):=by
 have:=G4 (P:=Tp) (t:=t) (b:=b) (len:=len) (tot:=len) (cap:=cap) (ik:=.i64) (n:=(i:Int)) ht hs (by omega) (by omega)
 rwa [qU] at this
def JQ:FuncId→Option (List HV→Option HV):=fun g=>if g==46 then some Ca else if g==49 then some Xr else none
theorem Qgv (n:Nat):Ql Tp (Qs Tp (plF JQ) n):=Qz _ (fun g f h=>by
 unfold JQ at h
 split at h
 ·rename_i hg;cases h;rw [eq_of_beq hg];exact Sy
 split at h
 ·rename_i hg;cases h;rw [eq_of_beq hg];exact Cb
 ·cases h) n
theorem YO {n m:Nat} (h:n≤m):(Qf m).take n=Qf n:=by
 simp only [Qf,← jZ,List.take_range,Nat.min_eq_left h]
theorem Qgw {n:Nat} {l:List St} {t:List Int} (hn:n≤16) (he:Ju (n:Int) l=true) (ht:∀k∈t,0≤k∧k<(l.length:Int)) (htl:t.length≤500) :
  ∃x E' H',RT (plF JQ) 50 (sn 122 B50) ((Ko (.i (n:Int)) (.g (l.map Qa)) (.a (t.map Qb)) (.imm .lit 1 []) (.imm .lit 1 []) (.s 0 n) (.o 1 l.length) (.i (0:Int)) Ud Ud Ud)) [bI (Qf n),bB (qW l.length false)] x E' H'∧x=.exit 0 ∧
   ∃gb,gb≠1∧E'=(Ko (.i (n:Int)) (.g (l.map Qa)) (.a (t.map Qb)) (.imm .lit 1 []) (.imm .lit 1 []) (.s gb n) (.o 1 l.length) (.i (t.length:Int)) Ud Ud Ud)∧H'[gb]?=some (bI (QT n l t))∧H'[1]?=some (bB (inT l t))∧gb<H'.length∧mxs H'=0:=by
 have heB:=Vy he (by omega)
 have:=W2 (pol':=plF JQ) (f:=50) (b:=sn 244 B50) (c:=sn 122 B50) (I:=fun i e H=>∃gb,gb≠1∧e=(Ko (.i (n:Int)) (.g (l.map Qa)) (.a (t.map Qb)) (.imm .lit 1 []) (.imm .lit 1 []) (.s gb n) (.o 1 l.length) (.i (i:Int)) Ud Ud Ud)∧H[gb]?=some (bI (QT n l (t.take i)))∧H[1]?=some (bB (inT l (t.take i)))∧gb<H.length∧mxs H=0)
  (Q:=fun x E' H'=>x=.exit 0∧∃gb,gb≠1∧E'=(Ko (.i (n:Int)) (.g (l.map Qa)) (.a (t.map Qb)) (.imm .lit 1 []) (.imm .lit 1 []) (.s gb n) (.o 1 l.length) (.i (t.length:Int)) Ud Ud Ud)∧H'[gb]?=some (bI (QT n l t))∧H'[1]?=some (bB (inT l t))∧gb<H'.length∧mxs H'=0) t.length
  (by
   rintro i hi e H ⟨gb,g1,rfl,hg,hi1,hgl,hm⟩
   have hk:=ht _ (Qo 0 hi)
   obtain ⟨ea,eb⟩:=SI he hk
   obtain ⟨gk1,gk2⟩:=gk hi (m:=l.length) (fun k hk=>ht k hk)
   have ek:(((t.getD i 0).toNat:Nat):Int)=t.getD i 0:=by omega
   have hU:=Jt heB (t:=t.take i) fun k hk=>ht k (zA hk)
   have hgn:(QT n l (t.take i)).length=n:=by
    show ((QB l (t.take i)).take n).length=n
    rw [qQ,show (QB l (t.take i)).length=16 from hU.lg];omega
   have g2:=gs gk2
   have ht1:H.length≠1→True:=fun _=>trivial
   have hl1:1<H.length:=by
    rcases Nat.lt_or_ge 1 H.length with h | h
    ·exact h
    ·rw [wK h] at hi1;cases hi1
   generalize hs:l.getD (t.getD i 0).toNat (0,0,0)=s at g2
   have sa:sA l (t.getD i 0)=s.1:=by rw [sA,hs]
   have sb:sB l (t.getD i 0)=s.2.1:=by rw [sB,hs]
   rw [sa] at ea
   rw [sb] at eb
   have nv:some (Wt (.agg [.int .i64 0,.int .i64 0,.int .i64 0]) H)=some (.ptr H.length 0 0 1,H++[.arr 3 [.agg [.int .i64 0,.int .i64 0,.int .i64 0]] true 0]):=rfl
   have st:Wf Tp (H++[.arr 3 [.agg [.int .i64 0,.int .i64 0,.int .i64 0]] true 0]) 42 (.ptr H.length 0 0 1) (Qa s)=some (H++[bT s]):=by
    have:=VQ (P:=Tp) (H:=H++[.arr 3 [.agg [.int .i64 0,.int .i64 0,.int .i64 0]] true 0]) (t:=42) (b:=H.length) (i:=0) (tot:=1) (k:=3) (mx:=0) (els:=[.agg [.int .i64 0,.int .i64 0,.int .i64 0]]) (cs:=[.int .i64 0,.int .i64 0,.int .i64 0]) (new:=[.int .i64 s.1,.int .i64 s.2.1,.int .i64 s.2.2]) (by rw [jG (qC _),qN];rfl) rfl rfl z42 rfl (by simp) rfl (by simp [bndL,bnd])
    unfold Qa
    rw [this]
    refine congrArg some ?_
    rw [jY _ _ (qC _),qN]
    rfl
   have hx:(H++[bT s])[H.length]?=some (bT s):=by rw [jG (qC _),qN];rfl
   have f0:Qq Tp 42 (.ptr H.length 0 0 1) 0=some (.ptr H.length 0 0 1):=by kernel_rfl
   have f1:Qq Tp 42 (.ptr H.length 0 0 1) 1=some (.ptr H.length 0 1 1):=by kernel_rfl
   have la:=ldT hx 0 s.1 rfl
   have lb:=ldT hx 1 s.2.1 rfl
   have hgL:(H++[bT s])[gb]?=some (bI (QT n l (t.take i))):=Wb hg
   have ixa:ZI Tp 24 (.sl gb 0 n none n 1) (.int .i64 s.1)=some (.ptr gb s.1.toNat 0 n):=by
    have:=ZT (b:=gb) (cap:=none) u24 z3 (i:=s.1.toNat) (len:=n) (by omega)
    rwa [show ((s.1.toNat:Nat):Int)=s.1 by omega] at this
   have ixb:ZI Tp 24 (.sl gb 0 n none n 1) (.int .i64 s.2.1)=some (.ptr gb s.2.1.toNat 0 n):=by
    have:=ZT (b:=gb) (cap:=none) u24 z3 (i:=s.2.1.toNat) (len:=n) (by omega)
    rwa [show ((s.2.1.toNat:Nat):Int)=s.2.1 by omega] at this
   have lx:=QR hgL (y:=s.1.toNat) (by omega)
   have ly:=QR hgL (y:=s.2.1.toNat) (by omega)
   rw [hgn] at lx ly
   have hlt:(i:Int)<((t.map Qb).length:Int):=by rw [qD];omega
   have lsucc:=JE l t hi
   have tsucc:=ZP l t hi
   rw [sa,sb] at lsucc tsucc
   have tg1:(QT n l (t.take i)).getD s.1.toNat 0=(QB l (t.take i)).getD s.1.toNat 0:=VY (by omega)
   have tg2:(QT n l (t.take i)).getD s.2.1.toNat 0=(QB l (t.take i)).getD s.2.1.toNat 0:=VY (by omega)
   have gsucc:QT n l (t.take (i+1))=Wa (QT n l (t.take i)) s.1 s.2.1:=by
    rw [QT,lsucc,U9 ea eb];rfl
   by_cases c:(QT n l (t.take i)).getD s.1.toNat 0=(QT n l (t.take i)).getD s.2.1.toNat 0
   ·have s1:=Qjs (F:=JQ) n (l.map Qa) (t.map Qb) H gb 1 0 l.length i (t.getD i 0).toNat 0 s.1 s.2.1 s.2.2 ((QT n l (t.take i)).getD s.1.toNat 0) ((QT n l (t.take i)).getD s.2.1.toNat 0) hlt gk1 g2 nv st f0 la ixa lx f1 lb ixb ly c
    rw [Qj (by omega)] at s1
    have e1:QT n l (t.take (i+1))=QT n l (t.take i):=by rw [gsucc,VZ c]
    have e2:tkT l (t.take (i+1))=tkT l (t.take i):=by rw [tsucc,if_neg (by rw [← tg1,← tg2];exact fun h=>h c)]
    have e3:inT l (t.take (i+1))=inT l (t.take i):=by simp only [inT,e2]
    refine ⟨_,_,s1,gb,g1,by kernel_rfl,?_,?_,?_,QaN (by rw [Wn,hm];rfl)⟩
    ·rw [QaM hgl,hgL,e1]
    ·rw [QaM hl1,Wb hi1,e3]
    ·unfold gc;rw [qQ];simp;omega
   ·have cj:=at3 (pol':=plF JQ) (g:=49) (c1:=kL) (c2:=kI) (c3:=kI) (f:=fun g a b=>if (0≤a∧a<(g.length:Int))∧(0≤b∧b<(g.length:Int))∧g.length≤900 then some (.own 1 ((Wa g a b).map Qb)) else none) (H:=H++[bT s]) (by kernel_rfl) (Zo hgn hgL) (ShI _ s.1) (ShI _ s.2.1) (if_pos ⟨by rw [hgn];exact ea,by rw [hgn];exact eb,by omega⟩)
    rw [Wz,Kq,hgn,← gsucc] at cj
    have hin:(H++[bT s]++[bI (QT n l (t.take (i+1)))])[1]?=some (bB (inT l (t.take i))):=Wb (Wb hi1)
    have sin:=QrO hin (i:=(t.getD i 0).toNat) (by rw [Y3];exact gk2) true
    have hti:tkT l (t.take (i+1))=tkT l (t.take i)++[(((t.getD i 0).toNat:Nat):Int)]:=by rw [tsucc,if_pos (by rw [← tg1,← tg2];exact c),ek]
    rw [Y3,Qgu hti] at sin
    have ixi:=ZT (t:=99) (b:=1) (cap:=some l.length) QlB z4 (i:=(t.getD i 0).toNat) (len:=l.length) gk2
    have s1:=Qjt (F:=JQ) n (l.map Qa) (t.map Qb) H gb 1 (H++[bT s]).length l.length i (t.getD i 0).toNat 0 s.1 s.2.1 s.2.2 ((QT n l (t.take i)).getD s.1.toNat 0) ((QT n l (t.take i)).getD s.2.1.toNat 0) hlt gk1 g2 nv st f0 la ixa lx f1 lb ixb ly c f0 la f1 lb cj gk1 ixi sin
    rw [Qj (by omega)] at s1
    have hlen:(H++[bT s]).length=H.length+1:=by simp
    rw [hlen] at s1
    have hbn:Qy (plF JQ) 50 (sn 244 B50) ((Ko (.i (n:Int)) (.g (l.map Qa)) (.a (t.map Qb)) (.imm .lit 1 []) (.imm .lit 1 []) (.s (H.length+1) n) (.o 1 l.length) (.i ((i+1:Nat):Int)) (.ptr H.length 0 0 1) Ud Ud))=(Ko (.i (n:Int)) (.g (l.map Qa)) (.a (t.map Qb)) (.imm .lit 1 []) (.imm .lit 1 []) (.s (H.length+1) n) (.o 1 l.length) (.i ((i+1:Nat):Int)) Ud Ud Ud):=by kernel_rfl
    have hbd:H.length+2≤Wc ((Ko (.i (n:Int)) (.g (l.map Qa)) (.a (t.map Qb)) (.imm .lit 1 []) (.imm .lit 1 []) (.s (H.length+1) n) (.o 1 l.length) (.i ((i+1:Nat):Int)) Ud Ud Ud)):=by simp only [Wc,bnd,bndL];omega
    refine ⟨_,_,s1,H.length+1,by omega,hbn,?_,?_,?_,QaN (SC (by rw [Wn,Wn,hm];rfl) rfl)⟩
    ·rw [QaL (by rw [hbn];omega),List.getElem?_set_ne (by omega),← hlen,jG (qC _),qN]
     rfl
    ·rw [QaM hl1,List.getElem?_set_self (by simp)]
    ·rw [hbn]
     revert hbd
     generalize Wc _=r
     intro hbd
     unfold gc;rw [qQ];simp;omega)
  (by
   rintro e H ⟨gb,g1,rfl,hg,hi1,hgl,hm⟩
   rw [qK] at hg hi1
   exact ⟨_,_,_,Qju (F:=JQ) n (l.map Qa) (t.map Qb) H gb 1 0 l.length t.length 0 0 0 0 0 0 0 (by rw [qD];omega),by simp,rfl,gb,g1,rfl,hg,hi1,hgl,hm⟩)
  (by kernel_rfl) (by rintro i e H ⟨gb,_,rfl,_⟩;kernel_rfl) (e:=(Ko (.i (n:Int)) (.g (l.map Qa)) (.a (t.map Qb)) (.imm .lit 1 []) (.imm .lit 1 []) (.s 0 n) (.o 1 l.length) (.i (0:Int)) Ud Ud Ud)) (H:=[bI (Qf n),bB (qW l.length false)])
  ⟨0,by omega,rfl,by
   have:QT n l (t.take 0)=Qf n:=by rw [List.take_zero];exact YO hn
   rw [this];rfl,by
   have:inT l (t.take 0)=qW l.length false:=by
    apply zS
    ·simp [inT]
    ·intro i h1 h2;simp [inT,tkT,ksT]
   rw [this];rfl,by simp,rfl⟩
 exact this
theorem SK:QP Tp 50 Ch:=by
 refine Qn (pol:=plF JQ) (fn:=Try.f50) (cd:=B50) Qh Qgv (by kernel_rfl) (by kernel_rfl) (Zh JQ _ _ (by kernel_rfl)) (by kernel_rfl) ?_
 intro args res h
 obtain ⟨n,l,t,rfl,hq⟩:=Vu h
 split at hq
 case isFalse=>cases hq
 rename_i hc
 obtain ⟨⟨n0,n1⟩,he,hr,htl,hll⟩:=hc
 cases hq
 obtain ⟨n,rfl⟩:∃m:Nat,n=(m:Int):=⟨n.toNat,by omega⟩
 rw [qU]
 have ht:=inR_iff.1 hr
 have a:=Qjo (F:=JQ) n (l.map Qa) (t.map Qb) []
 have c46:=at1 (pol':=plF JQ) (g:=46) (c1:=kI) (f:=fun n=>if n≤900 then some (.own 1 ((Qf n.toNat).map Qb)) else none) (H:=[]) (by kernel_rfl) (ShI _ (n:Int)) (if_pos (by omega))
 rw [Wz,QL,qU] at c46
 have b:=Qjp (F:=JQ) n (l.map Qa) (t.map Qb) [] 0 c46
 have mk:=Km (P:=Tp) (H:=[bI (Qf n)]) (t:=99) (e:=4) (k:=1) (bt:=1) (zv:=.bool false) (n:=(l.length:Int)) QlB (by kernel_rfl) rfl rfl (by omega) (by omega) (by simp only [WF];omega)
 rw [qU] at mk
 have erep:qW l.length (HV.bool false)=(qW l.length false).map HV.bool:=by simp
 rw [erep] at mk
 have c:=Qjq (F:=JQ) n (l.map Qa) (t.map Qb) [bI (Qf n)] 0 1 l.length (by rw [qD];exact mk)
 have d:=Qjr (F:=JQ) n (l.map Qa) (t.map Qb) [bI (Qf n),bB (qW l.length false)] 0 1 l.length
 obtain ⟨x,E',H',r,rfl,gb,g1,rfl,hg,hi1,hgl,hm⟩:=Qgw (by omega) he ht htl
 have e:=Qjv (F:=JQ) n (l.map Qa) (t.map Qb) H' gb 1 l.length H'.length (y10:=.i (t.length:Int)) rfl
 have f:=Qjw (F:=JQ) n (l.map Qa) (t.map Qb) (H'++[bI []]) gb 1 l.length H'.length 0 (y10:=.i (t.length:Int))
 have hl1:1<H'.length:=by
  rcases Nat.lt_or_ge 1 H'.length with h | h
  ·exact h
  ·rw [wK h] at hi1;cases hi1
 have hset:∀(A B:Blk),(H'++[A]).set H'.length B=H'++[B]:=fun A B=>by rw [jY _ _ (qC _),qN];rfl
 have hget:∀(A:Blk),(H'++[A])[H'.length]?=some A:=fun A=>by rw [jG (qC _),qN];rfl
 have fl:∀i,(((Qf i).filter fun k=>decide (k∈tkT l t))).length≤i:=fun i=>by have:=zC (fun k=>decide (k∈tkT l t)) (Qf i);rwa [QL] at this
 have r2:=Q7 (pol':=plF JQ) (f:=50) (E:=fun i=>(Ko (.i (n:Int)) (.g (l.map Qa)) (.a (t.map Qb)) (.imm .lit 1 []) (.imm .lit 1 []) (.s gb n) (.o 1 l.length) Ud Ud (.sl H'.length 0 ((Qf i).filter fun k=>decide (k∈tkT l t)).length none ((Qf i).filter fun k=>decide (k∈tkT l t)).length 1) (.i (i:Int)))) (Hs:=fun i=>H'++[bI ((Qf i).filter fun k=>decide (k∈tkT l t))]) l.length
  (E0:=fun i=>(Ko (.i (n:Int)) (.g (l.map Qa)) (.a (t.map Qb)) (.imm .lit 1 []) (.imm .lit 1 []) (.s gb n) (.o 1 l.length) Ud Ud (.sl H'.length 0 ((Qf (i+1)).filter fun k=>decide (k∈tkT l t)).length none ((Qf (i+1)).filter fun k=>decide (k∈tkT l t)).length 1) (.i ((i+1:Nat):Int)))) (H1:=fun i=>H'++[bI ((Qf (i+1)).filter fun k=>decide (k∈tkT l t))])
  (fun i hi=>by
   have ix:=ZT (t:=99) (b:=1) (cap:=some l.length) QlB z4 (i:=i) (len:=l.length) hi
   have ld:=ldB (Wb (X:=[bI ((Qf i).filter fun k=>decide (k∈tkT l t))]) hi1) (i:=i) (by rw [Y3];exact hi)
   rw [Y3,Qek hi] at ld
   have hf:=fl i
   by_cases cc:(i:Int)∈tkT l t
   ·rw [decide_eq_true cc] at ld
    have ap:=Zz (H:=H'++[bI ((Qf i).filter fun k=>decide (k∈tkT l t))]) (b:=H'.length) (o:=(Qf i).filter fun k=>decide (k∈tkT l t)) (hget _) (by omega) (i:Int)
    have es:=SJ l t (i:=i)
    rw [if_pos cc] at es
    rw [hset,← es] at ap
    have s:=Qjx (F:=JQ) n (l.map Qa) (t.map Qb) (H'++[bI ((Qf i).filter fun k=>decide (k∈tkT l t))]) gb 1 l.length H'.length ((Qf i).filter fun k=>decide (k∈tkT l t)).length i true (by rw [qD];omega) ix ld ap
    have el:((Qf (i+1)).filter fun k=>decide (k∈tkT l t)).length=((Qf i).filter fun k=>decide (k∈tkT l t)).length+1:=by rw [es];simp
    rw [Qj (by omega),← el] at s
    exact s
   ·rw [decide_eq_false cc] at ld
    have es:=SJ l t (i:=i)
    rw [if_neg cc,qR] at es
    have s:=Qjy (F:=JQ) n (l.map Qa) (t.map Qb) (H'++[bI ((Qf i).filter fun k=>decide (k∈tkT l t))]) gb 1 l.length H'.length ((Qf i).filter fun k=>decide (k∈tkT l t)).length i true (by rw [qD];omega) ix ld
    rw [Qj (by omega)] at s
    rw [es]
    exact s) (fun i _=>by kernel_rfl) (fun i _=>QC _ (by simp)) (Qjz (F:=JQ) n (l.map Qa) (t.map Qb) (H'++[bI ((Qf l.length).filter fun k=>decide (k∈tkT l t))]) gb 1 l.length H'.length ((Qf l.length).filter fun k=>decide (k∈tkT l t)).length l.length true (by rw [qD];omega)) (by simp) (c:=sn 506 B50) (by kernel_rfl) (fun i _=>by kernel_rfl)
 have z:=QjA (F:=JQ) n (l.map Qa) (t.map Qb) (H'++[bI (ZZ l t)]) gb 1 l.length H'.length (ZZ l t).length (y13:=.i (l.length:Int))
 have hgn:(QT n l t).length=n:=by
  have hU:=Jt (Vy he (by omega)) (t:=t) ht
  show ((QB l t).take n).length=n
  rw [qQ,show (QB l t).length=16 from hU.lg];omega
 refine ⟨_,_,_,.tuple [.sl H'.length 0 (ZZ l t).length none (ZZ l t).length 1,.sl gb 0 n none n 1],sq (a) (sq (b) (sq (c) (sq (sq (d) (bke (c:=sn 61 B50) (r)) (c:=sn 30 B50)) (sq (e) (sq (sq (f) (bke (c:=sn 253 B50) (lpi (e0:=(Ko (.i (n:Int)) (.g (l.map Qa)) (.a (t.map Qb)) (.imm .lit 1 []) (.imm .lit 1 []) (.s gb n) (.o 1 l.length) (.i (t.length:Int)) Ud (.sl H'.length 0 0 none 0 1) (.i 0))) r2 (b:=sn 1012 B50))) (c:=sn 126 B50)) (z) (c:=sn 63 B50)) (c:=sn 31 B50)) (c:=sn 15 B50)) (c:=sn 7 B50)) (c:=sn 3 B50)) (c:=B50),by simp,by simp only [Qc,Qrj];rfl,?_⟩
 exact QlA (hget _) rfl (Wb hg) hgn (by omega)
def fN (p:Nat→Bool):Nat→Nat→Option Nat
 | 0,_=>none
 | k+1,i=>if p i then some i else fN p k (i+1)
theorem XT {p:Nat→Bool}:∀{k i m:Nat},fN p k i=some m→i≤m∧m<i+k∧p m=true∧∀j,i≤j→j<m→p j=false
 | 0,i,m,h=>by cases h
 | k+1,i,m,h=>by
  rw [fN] at h
  split at h
  ·rename_i hp
   cases h
   exact ⟨qC _,by omega,hp,fun j h1 h2=>by omega⟩
  ·rename_i hp
   obtain ⟨h1,h2,h3,h4⟩:=XT h
   refine ⟨by omega,by omega,h3,fun j g1 g2=>?_⟩
   by_cases e:j=i
   ·subst e;cases c:p j <;> simp_all
   ·exact h4 j (by omega) g2
theorem V0 {p:Nat→Bool}:∀{k i:Nat},fN p k i=none→∀j,i≤j→j<i+k→p j=false
 | 0,i,_,j,h1,h2=>by omega
 | k+1,i,h,j,h1,h2=>by
  rw [fN] at h
  split at h
  ·cases h
  ·rename_i hp
   by_cases e:j=i
   ·subst e;cases c:p j <;> simp_all
   ·exact V0 h j (by omega) (by omega)
theorem Qx {n:Int} {l:List St} (h:Wh n l=true):(1≤n∧n≤16)∧l.length≤60∧Ju n l=true∧(∀s∈l,0≤s.2.2∧s.2.2≤1000):=by
 simp only [Wh,zL,zU,decide_eq_true_eq,stB] at h
 obtain ⟨h1,h2,h3⟩:=h
 refine ⟨h2,h3,endN_iff.2 fun s hs=>?_,fun s hs=>?_⟩
 ·have:=h1 s hs;omega
 ·have:=h1 s hs;omega
theorem stN {n:Int} {l:List St}:Wf Tp [.arr 2 [.agg [.int .i64 0,.imm .lit 0 []]] true 0] 66 (.ptr 0 0 0 1) (Qt n l)=some [bN n l]:=by
 have:=VQ (P:=Tp) (H:=[.arr 2 [.agg [.int .i64 0,.imm .lit 0 []]] true 0]) (t:=66) (b:=0) (i:=0) (tot:=1) (k:=2) (mx:=0) (els:=[.agg [.int .i64 0,.imm .lit 0 []]]) (cs:=[.int .i64 0,.imm .lit 0 []]) (new:=[.int .i64 n,.imm .arg 3 (l.map Qa)]) rfl rfl rfl z66 rfl (by simp) rfl (by simp [bndL,bnd])
 unfold Qt
 rw [this]
 rfl
theorem KL {H:Heap} {b:Nat} {n:Int} {l:List St} (hb:H[b]?=some (bN n l)):QK Tp H 66 (.ptr b 0 0 1)=some (Qt n l):=UU (P:=Tp) (b:=b) (els:=[Qt n l]) (cs:=[.int .i64 n,.imm .arg 3 (l.map Qa)]) hb rfl rfl a66 z66
theorem Da (H:Heap):some (Wt (.agg [.int .i64 0,.int .i64 0,.int .i64 0]) H)=some (.ptr H.length 0 0 1,H++[.arr 3 [.agg [.int .i64 0,.int .i64 0,.int .i64 0]] true 0]):=rfl
theorem Db (H:Heap) (s:St):Wf Tp (H++[.arr 3 [.agg [.int .i64 0,.int .i64 0,.int .i64 0]] true 0]) 42 (.ptr H.length 0 0 1) (Qa s)=some (H++[bT s]):=by
 have:=VQ (P:=Tp) (H:=H++[.arr 3 [.agg [.int .i64 0,.int .i64 0,.int .i64 0]] true 0]) (t:=42) (b:=H.length) (i:=0) (tot:=1) (k:=3) (mx:=0) (els:=[.agg [.int .i64 0,.int .i64 0,.int .i64 0]]) (cs:=[.int .i64 0,.int .i64 0,.int .i64 0]) (new:=[.int .i64 s.1,.int .i64 s.2.1,.int .i64 s.2.2]) (by rw [jG (qC _),qN];rfl) rfl rfl z42 rfl (by simp) rfl (by simp [bndL,bnd])
 unfold Qa
 rw [this]
 refine congrArg some ?_
 rw [jY _ _ (qC _),qN]
 rfl
theorem Qrk (H:Heap) (B:Blk):(H++[B])[H.length]?=some B:=by rw [jG (qC _),qN];rfl
theorem QcW (b:Nat):Qq Tp 42 (.ptr b 0 0 1) 0=some (.ptr b 0 0 1):=by kernel_rfl
theorem QcX (b:Nat):Qq Tp 42 (.ptr b 0 0 1) 1=some (.ptr b 0 1 1):=by kernel_rfl
theorem QlC (b:Nat):Qq Tp 42 (.ptr b 0 0 1) 2=some (.ptr b 0 2 1):=by kernel_rfl
theorem Qel {n:Nat} {l:List St} {t:List Int} (hn:n≤16) (he:Jm l=true) (ht:∀k∈t,0≤k∧k<(l.length:Int)):(QT n l t).length=n:=by
 have hU:=Jt he (t:=t) ht
 show ((QB l t).take n).length=n
 rw [qQ,show (QB l t).length=16 from hU.lg];omega
theorem Z0 {n:Nat} {l:List St} {t:List Int} {v:Int} (h:0≤v∧v<(n:Int)):(QT n l t).getD v.toNat 0=(QB l t).getD v.toNat 0:=VY (by omega)
theorem QcY {n:Nat} {l:List St} (he:Ju (n:Int) l=true) {t:List Int} {i:Nat} (hi:i<t.length) (hk:0≤t.getD i 0∧t.getD i 0<(l.length:Int)):QT n l (t.take (i+1))=Wa (QT n l (t.take i)) (sA l (t.getD i 0)) (sB l (t.getD i 0)):=by
 obtain ⟨ea,eb⟩:=SI he hk
 rw [QT,JE l t hi,U9 ea eb];rfl
theorem QrP {b n:Nat} {v:Int} (h:0≤v∧v<(n:Int)) {cap:Option Nat}:ZI Tp 24 (.sl b 0 n cap n 1) (.int .i64 v)=some (.ptr b v.toNat 0 n):=by
 have:=ZT (b:=b) (cap:=cap) u24 z3 (i:=v.toNat) (len:=n) (by omega)
 rwa [show ((v.toNat:Nat):Int)=v by omega] at this
theorem QbL (a b:List Int) (H:Heap):ZA (.tuple [.own 1 (a.map Qb),.own 1 (b.map Qb)]) H=(.tuple [.sl H.length 0 a.length none a.length 1,.sl (H.length+1) 0 b.length none b.length 1],H++[bI a]++[bI b]):=by
 have h:∀(l:List Int) (H:Heap),Wp (.own 1 (l.map Qb)) H=(.sl H.length 0 l.length none l.length 1,H++[bI l]):=fun l H=>by
  simp only [Wp,Vs,qD];rfl
 simp only [ZA,ZJ,Z9,h,qB,qE,jH]
def frT (l:List St):List Int:=ZZ l (Qg l)
def YU (n:Int) (l:List St):Bool:=decide (((frT l).length:Int)=n-1)
def Y4:List HV→Option HV:=f2 kI kS fun n l=>if (0≤n∧n≤16)∧Ju n l=true∧l.length≤500 then some (.tuple [.own 1 ((frT l).map Qb),.bool (YU n l)]) else none
theorem Qiw:Try.f20.results.toList=[.tmp 4,.tmp 5]:=by kernel_rfl
def SL:FuncId→Option (List HV→Option HV):=fun g=>if g==47 then some U7 else if g==50 then some Ch else none
theorem Qgx (n:Nat):Ql Tp (Qs Tp (plF SL) n):=Qz _ (fun g f h=>by
 unfold SL at h
 split at h
 ·rename_i hg;cases h;rw [eq_of_beq hg];exact Gf
 split at h
 ·rename_i hg;cases h;rw [eq_of_beq hg];exact SK
 ·cases h) n
theorem Ym (l:List St):(frT l).length≤l.length:=by
 have:=zC (fun k=>decide (k∈tkT l (Qg l))) (Qf l.length)
 rwa [QL] at this
theorem QlD (l:List St):inR l.length (Qg l)=true:=inR_iff.2 fun _ hk=>ordT_mem.1 hk
theorem Dc:QP Tp 20 Y4:=by
 refine Qn (pol:=plF SL) (fn:=Try.f20) (cd:=B20) Qh Qgx (by kernel_rfl) (by kernel_rfl) (Zh SL _ _ (by kernel_rfl)) (by kernel_rfl) ?_
 intro args res h
 obtain ⟨n,l,rfl,hq⟩:=Zc h
 split at hq
 case isFalse=>cases hq
 rename_i hc
 obtain ⟨⟨n0,n1⟩,he,hll⟩:=hc
 cases hq
 have c47:=at1 (pol':=plF SL) (g:=47) (c1:=kS) (f:=fun l=>if l.length≤500 then some (.own 1 ((Qg l).map Qb)) else none) (H:=[]) (by kernel_rfl) (Jf _ l) (if_pos (by omega))
 rw [Wz,Zw] at c47
 have c50:=at3 (pol':=plF SL) (g:=50) (c1:=kI) (c2:=kS) (c3:=kL) (f:=fun n l t=>if (0≤n∧n≤16)∧Ju n l=true∧inR l.length t=true∧t.length≤500∧l.length≤500 then some (.tuple [.own 1 ((ZZ l t).map Qb),.own 1 ((QT n.toNat l t).map Qb)]) else none) (H:=[bI (Qg l)]) (by kernel_rfl) (ShI _ n) (Jf _ l) (Zo (b:=0) (m:=l.length) (Zw l) rfl) (if_pos ⟨⟨n0,n1⟩,he,QlD l,by rw [Zw];omega,hll⟩)
 rw [QbL] at c50
 have hle:=Ym l
 by_cases c:((ZZ l (Qg l)).length:Int)=qA.wrap (n-1)
 ·have a:=Qjm (F:=SL) n (l.map Qa) [] 0 l.length _ _ _ _ c47 c50 c
  refine ⟨_,_,_,.tuple [.sl 1 0 (ZZ l (Qg l)).length none (ZZ l (Qg l)).length 1,.bool true],a,by simp,by simp only [Qc,Qiw];rfl,?_⟩
  rw [YU,decide_eq_true (show ((frT l).length:Int)=n-1 by rw [WN (by omega) (by omega)] at c;exact c)]
  exact QaR (b:=1) (o:=frT l) rfl rfl true
 ·have a:=Qjn (F:=SL) n (l.map Qa) [] 0 l.length _ _ _ _ c47 c50 c
  refine ⟨_,_,_,.tuple [.sl 1 0 (ZZ l (Qg l)).length none (ZZ l (Qg l)).length 1,.bool false],a,by simp,by simp only [Qc,Qiw];rfl,?_⟩
  rw [YU,decide_eq_false (show ¬(((frT l).length:Int)=n-1) by rw [WN (by omega) (by omega)] at c;exact c)]
  exact QaR (b:=1) (o:=frT l) rfl rfl false
theorem Q5 {g:List Int} {i:Nat} (h:i<g.length):g.take (i+1)=g.take i++[g.getD i 0]:=by
 rw [List.take_add_one,zJ h,QD h];rfl
theorem QlE (l:List St) (t:List Int):∀i,i≤t.length→∀x∈tkT l (t.take i),x∈t:=by
 intro i
 induction i with
 | zero=>intro _ x hx;simp [tkT,ksT] at hx
 | succ i ih =>
  intro hi x hx
  rw [ZP l t (by omega)] at hx
  split at hx
  ·rcases List.mem_append.1 hx with h | h
   ·exact ih (by omega) x h
   ·rw [List.mem_singleton.1 h];exact Qo 0 (by omega)
  ·exact ih (by omega) x hx
theorem WG {l:List St} {x:Int} (h:x∈Qd l):0≤x∧x<(l.length:Int):=by
 have:=QlE l (Qg l) (Qg l).length (qC _) x (by rw [qK];exact h)
 exact ordT_mem.1 this
theorem Qgy {H:Heap} {b k:Nat} {o:List Int} (hb:H[b]?=some (bI o)) (hk:o.length=k) (m e:Int):WS H false (.tuple [.sl b 0 k none k 1,.int .i64 m,.int .i64 e])=some (.tuple [.own 1 (o.map Qb),.int .i64 m,.int .i64 e]):=by
 have hr:=ZD (H:=H) (no:=[b]) (b:=b) (k:=1) (m:=k) (cap:=none) (els:=o.map Qb) hb (by simpa using hk) (Wy (fun r=>JV 4 r) _)
 have ho:QO H false (.tuple [.sl b 0 k none k 1,.int .i64 m,.int .i64 e])=[b]:=by simp [QO,cellsOf,Zl,hb]
 simp only [WS,ho,List.nodup_cons,zV,not_false_eq_true,zW,and_self,if_true,W1,mapO,hr]
 rfl
theorem QaS {t s:List Int} (h:s.Sublist t) (hn:t.Nodup):t.filter (fun x=>decide (x∈s))=s:=by
 induction h with
 | slnil=>rfl
 | @cons s t a h ih =>
  have hn':=List.nodup_cons.1 hn
  rw [qX (by simpa using fun c=>hn'.1 (h.subset c))]
  exact ih hn'.2
 | @cons_cons s t a h ih =>
  have hn':=List.nodup_cons.1 hn
  rw [qY (by simp)]
  refine congrArg (a::·) ?_
  rw [← ih hn'.2]
  refine (zD fun x hx=>?_)
  have:x≠a:=fun c=>hn'.1 (c▸hx)
  rw [ih hn'.2]
  simp [this]
theorem Z1 (l:List St) (t:List Int):∀i,i≤t.length→(tkT l (t.take i)).Sublist (t.take i):=by
 intro i
 induction i with
 | zero=>intro _;exact List.Sublist.refl _
 | succ i ih =>
  intro hi
  rw [ZP l t (by omega),Q5 (by omega)]
  split
  ·exact (ih (by omega)).append (List.Sublist.refl _)
  ·exact (ih (by omega)).trans (List.sublist_append_left _ _)
theorem KM (l:List St):(Qg l).Nodup:=(ZY l l.length).nodup_iff.2 (Zi _)
theorem frT_mem {l:List St} {x:Int}:x∈frT l↔x∈Qd l:=by
 rw [frT,ZZ,qZ]
 exact ⟨fun h=>of_decide_eq_true h.2,fun h=>⟨startT_mem.2 (WG h),decide_eq_true h⟩⟩
theorem YP (l:List St):(Qg l).filter (fun x=>decide (x∈Qd l))=Qd l:=by
 have:=Z1 l (Qg l) (Qg l).length (qC _)
 rw [qK] at this
 exact QaS this (KM l)
theorem Yn (l:List St):(frT l).length=(Qd l).length:=by
 have h:((Qg l).filter fun x=>decide (x∈Qd l)).Perm (frT l):=(ZY l l.length).filter _
 rw [← h.length_eq,YP]
theorem QbM (n:Int) (l:List St):YU n l=WJ n l:=by rw [YU,WJ,Yn]
inductive Cn (l:List St) (t:List Int):Int→Int→Prop
 | refl (v:Int):Cn l t v v
 | edge {k:Int} (h:k∈t):Cn l t (sA l k) (sB l k)
 | symm {u v:Int} (h:Cn l t u v):Cn l t v u
 | trans {u v w:Int} (h:Cn l t u v) (h2:Cn l t v w):Cn l t u w
theorem Cn.mono {l:List St} {t t':List Int} (hs:∀k∈t,k∈t') {u v:Int} (h:Cn l t u v):Cn l t' u v:=by
 induction h with
 | refl v=>exact .refl v
 | edge h=>exact .edge (hs _ h)
 | symm _ ih=>exact .symm ih
 | trans _ _ h1 h2=>exact .trans h1 h2
def lb (l:List St) (t:List Int) (v:Int):Int:=(QB l t).getD v.toNat 0
section
variable {l:List St} (he:Jm l=true) {t:List Int} (ht:∀k∈t,0≤k∧k<(l.length:Int))
include he ht
theorem WY {v:Int} (hv:0≤v∧v<16):0≤lb l t v∧lb l t v≤v∧lb l t (lb l t v)=lb l t v:=by
 have h:=(Jt he ht).lab v.toNat (by omega)
 refine ⟨h.1,?_,h.2.2.2⟩
 have:=h.2.1
 show (ksT l t).2.1.getD v.toNat 0≤v
 omega
theorem Ci {v:Int} (hv:0≤v∧v<16):0≤lb l t v∧lb l t v<16:=by
 have:=WY he ht hv
 omega
theorem J1 {i:Nat} (hi:i<t.length) {v:Int} (hv:0≤v∧v<16):lb l (t.take (i+1)) v=WP (min (lb l (t.take i) (sA l (t.getD i 0))) (lb l (t.take i) (sB l (t.getD i 0)))) (max (lb l (t.take i) (sA l (t.getD i 0))) (lb l (t.take i) (sB l (t.getD i 0)))) (lb l (t.take i) v):=by
 have hU:=Jt he (t:=t.take i) fun k hk=>ht k (zA hk)
 have hl:(QB l (t.take i)).length=16:=hU.lg
 rw [lb,JE l t hi,Wa,Vx (by rw [hl];omega)]
 rfl
theorem QaT:∀i,i≤t.length→∀v:Int,0≤v∧v<16→Cn l (t.take i) (lb l (t.take i) v) v:=by
 intro i
 induction i with
 | zero =>
  intro _ v hv
  have:lb l (t.take 0) v=v:=by
   show (Qf 16).getD v.toNat 0=v
   have:v.toNat<16:=by omega
   simp [Qf,qV,this];omega
  rw [this];exact .refl v
 | succ i ih =>
  intro hi v hv
  have hk:=ht _ (Qo 0 (show i<t.length by omega))
  obtain ⟨ea,eb⟩:=Ks he hk
  have ih:=ih (by omega)
  have hm:∀x∈t.take i,x∈t.take (i+1):=fun x hx=>by rw [Q5 (by omega)];exact qS _ hx
  have hA:=(ih _ ea).mono hm
  have hB:=(ih _ eb).mono hm
  have hE:Cn l (t.take (i+1)) (sA l (t.getD i 0)) (sB l (t.getD i 0)):=.edge (by rw [Q5 (by omega)];simp)
  have hAB:Cn l (t.take (i+1)) (lb l (t.take i) (sA l (t.getD i 0))) (lb l (t.take i) (sB l (t.getD i 0))):=.trans hA (.trans hE (.symm hB))
  have hV:=(ih v hv).mono hm
  rw [J1 he ht (by omega) hv]
  generalize lb l (t.take i) (sA l (t.getD i 0))=A at *
  generalize lb l (t.take i) (sB l (t.getD i 0))=B at *
  unfold WP
  split
  ·rename_i hx
   rw [hx] at hV
   refine .trans ?_ hV
   rcases zN A B with c | c
   ·rw [zX c,zY c];exact hAB
   ·rw [zZ c,wA c];exact .symm hAB
  ·exact hV
theorem Jn {v:Int} (hv:0≤v∧v<16):Cn l t (lb l t v) v:=by
 have:=QaT he ht t.length (qC _) v hv
 rwa [qK] at this
theorem Cj {j:Nat} (hj:j<t.length):∀d,j+1+d≤t.length→lb l (t.take (j+1+d)) (sA l (t.getD j 0))=lb l (t.take (j+1+d)) (sB l (t.getD j 0)):=by
 have hk:=ht _ (Qo 0 hj)
 obtain ⟨ea,eb⟩:=Ks he hk
 intro d
 induction d with
 | zero =>
  intro _
  rw [zE,J1 he ht hj ea,J1 he ht hj eb]
  unfold WP
  split <;> split <;> omega
 | succ d ih =>
  intro h
  have:=ih (by omega)
  rw [show j+1+(d+1)=(j+1+d)+1 by omega,J1 he ht (by omega) ea,J1 he ht (by omega) eb,this]
theorem Ck {k:Int} (hk:k∈t):lb l t (sA l k)=lb l t (sB l k):=by
 obtain ⟨j,hj,rfl⟩:=jQ hk
 have:=Cj he ht hj (t.length-(j+1)) (by omega)
 rw [show j+1+(t.length-(j+1))=t.length by omega,qK,QD hj] at this
 exact this
theorem YQ {u v:Int} (h:Cn l t u v):lb l t u=lb l t v:=by
 induction h with
 | refl v=>rfl
 | edge h=>exact Ck he ht h
 | symm _ ih=>exact ih.symm
 | trans _ _ h1 h2=>exact h1.trans h2
theorem QaU {u v:Int} (hu:0≤u∧u<16) (hv:0≤v∧v<16):lb l t u=lb l t v↔Cn l t u v :=
 ⟨fun h=>.trans (.symm (Jn he ht hu)) (h▸Jn he ht hv),YQ he ht⟩
theorem Gm {t':List Int} (ht':∀k∈t',0≤k∧k<(l.length:Int)) (hs:∀k∈t,k∈t') {v:Int} (hv:0≤v∧v<16):lb l t' v≤lb l t v:=by
 have h1:=YQ he ht' ((Jn he ht hv).mono hs)
 have h2:=WY he ht' (Ci he ht hv)
 omega
end
theorem Qgz {l:List St} (he:Jm l=true) {t t':List Int} (ht:∀k∈t,0≤k∧k<(l.length:Int)) (hs:∀k,k∈t↔k∈t') {v:Int} (hv:0≤v∧v<16):lb l t v=lb l t' v:=by
 have ht':∀k∈t',0≤k∧k<(l.length:Int):=fun k hk=>ht k ((hs k).2 hk)
 have h1:=Gm he ht ht' (fun k hk=>(hs k).1 hk) hv
 have h2:=Gm he ht' ht (fun k hk=>(hs k).2 hk) hv
 omega
theorem XU {l:List St} (he:Jm l=true) {t t':List Int} (ht:∀k∈t,0≤k∧k<(l.length:Int)) (hs:∀k,k∈t↔k∈t'):QB l t=QB l t':=by
 have ht':∀k∈t',0≤k∧k<(l.length:Int):=fun k hk=>ht k ((hs k).2 hk)
 have h1:(QB l t).length=16:=(Jt he ht).lg
 have h2:(QB l t').length=16:=(Jt he ht').lg
 apply zS (by rw [h1,h2])
 intro i hi hi'
 have:=Qgz he ht hs (v:=(i:Int)) (by omega)
 rw [lb,lb,qU,QD hi,QD hi'] at this
 exact this
def rt (g:List Int):Nat:=((qJ 16).filter fun v=>decide (g.getD v 0=(v:Int))).length
theorem KN {α:Type} {p q:α→Bool} {x:α}:∀{s:List α},s.Nodup→x∈s→p x=true→(∀y∈s,y≠x→q y=p y)→q x=false→(s.filter p).length=(s.filter q).length+1
 | [],_,h,_,_,_=>by cases h
 | y::s,hn,h,hp,hq,hx=>by
  obtain ⟨h1,h2⟩:=List.nodup_cons.1 hn
  by_cases e:y=x
  ·subst e
   rw [qY hp,qX (by simp [hx]),qE]
   refine congrArg (·+1) (congrArg _ (zD fun z hz=>?_))
   exact (hq z (qH _ hz) fun c=>h1 (c▸hz)).symm
  ·have hm:x∈s:=(List.mem_cons.1 h).resolve_left fun c=>e c.symm
   have ih:=KN h2 hm hp (fun z hz hne=>hq z (qH _ hz) hne) hx
   have hy:=hq y (qL ..) e
   by_cases c:p y=true
   ·rw [qY c,qY (by rw [hy];exact c),qE,qE,ih]
   ·rw [qX c,qX (by rw [hy];exact c),ih]
theorem QgA {us g:List Int} (h:Up us g) {u v:Nat} (hu:u<16) (hv:v<16) (hne:g.getD u 0≠g.getD v 0):rt g=rt (Wa g (u:Int) (v:Int))+1:=by
 obtain ⟨a1,a2,a3,a4⟩:=h.lab u hu
 obtain ⟨b1,b2,b3,b4⟩:=h.lab v hv
 have hget:∀w:Nat,w<16→(Wa g (u:Int) (v:Int)).getD w 0=WP (min (g.getD u 0) (g.getD v 0)) (max (g.getD u 0) (g.getD v 0)) (g.getD w 0):=fun w hw=>by
  rw [Wa,Vx (by rw [h.lg];exact hw),qU,qU]
 generalize hA:g.getD u 0=A at *
 generalize hB:g.getD v 0=B at *
 have hmx:0≤max A B∧max A B<16:=by omega
 have hmr:g.getD (max A B).toNat 0=max A B:=by
  rcases zN A B with c | c
  ·rw [zY c];exact b4
  ·rw [wA c];exact a4
 have hmn:g.getD (min A B).toNat 0=min A B:=by
  rcases zN A B with c | c
  ·rw [zX c];exact a4
  ·rw [zZ c];exact b4
 refine KN (x:=(max A B).toNat) List.nodup_range (List.mem_range.2 (by omega)) (decide_eq_true (by rw [hmr];omega)) (fun y hy hyne=>?_) ?_
 ·have hy:=List.mem_range.1 hy
  rw [hget y hy,decide_eq_decide]
  unfold WP
  split
  ·rename_i hc
   constructor
   ·intro e
    exfalso
    have:(min A B).toNat=y:=by omega
    rw [← this,hmn] at hc
    omega
   ·intro e;exfalso;omega
  ·exact Iff.rfl
 ·rw [hget _ (by omega),hmr]
  unfold WP
  rw [if_pos rfl]
  exact decide_eq_false (by omega)
theorem Qem:rt (Qf 16)=16:=by decide +kernel
theorem KO {l:List St} (he:Jm l=true) {t:List Int} (ht:∀k∈t,0≤k∧k<(l.length:Int)):(tkT l t).length+rt (QB l t)=16:=by
 have key:∀i,i≤t.length→(tkT l (t.take i)).length+rt (QB l (t.take i))=16:=by
  intro i
  induction i with
  | zero=>intro _;exact Qem
  | succ i ih =>
   intro hi
   have ih:=ih (by omega)
   have hk:=ht _ (Qo 0 (show i<t.length by omega))
   obtain ⟨ea,eb⟩:=Ks he hk
   have hU:=Jt he (t:=t.take i) fun k hk=>ht k (zA hk)
   rw [ZP l t (by omega),JE l t (by omega)]
   split
   ·rename_i hne
    have:=QgA hU (u:=(sA l (t.getD i 0)).toNat) (v:=(sB l (t.getD i 0)).toNat) (by omega) (by omega) hne
    rw [show (((sA l (t.getD i 0)).toNat:Nat):Int)=sA l (t.getD i 0) by omega,show (((sB l (t.getD i 0)).toNat:Nat):Int)=sB l (t.getD i 0) by omega] at this
    rw [qB,qG]
    show (tkT l (t.take i)).length+1+rt (Wa (ksT l (t.take i)).2.1 _ _)=16
    have e:QB l (t.take i)=(ksT l (t.take i)).2.1:=rfl
    rw [e] at ih
    omega
   ·rename_i hne
    have e:Wa (QB l (t.take i)) (sA l (t.getD i 0)) (sB l (t.getD i 0))=QB l (t.take i):=VZ (Decidable.not_not.1 hne)
    rw [e];exact ih
 have:=key t.length (qC _)
 rwa [qK] at this
theorem Wi {l:List St} (he:Jm l=true) {t t':List Int} (ht:∀k∈t,0≤k∧k<(l.length:Int)) (hs:∀k,k∈t↔k∈t'):(tkT l t).length=(tkT l t').length:=by
 have h1:=KO he ht
 have h2:=KO he (t:=t') fun k hk=>ht k ((hs k).2 hk)
 rw [XU he ht hs] at h1
 omega
theorem Qix {l:List St} {t:List Int}:∀i,i≤t.length→QB l (tkT l (t.take i))=QB l (t.take i)∧tkT l (tkT l (t.take i))=tkT l (t.take i):=by
 intro i
 induction i with
 | zero=>intro _;exact ⟨rfl,rfl⟩
 | succ i ih =>
  intro hi
  obtain ⟨h1,h2⟩:=ih (by omega)
  have hts:=ZP l t (i:=i) (by omega)
  have hls:=JE l t (i:=i) (by omega)
  by_cases c:(QB l (t.take i)).getD (sA l (t.getD i 0)).toNat 0≠(QB l (t.take i)).getD (sB l (t.getD i 0)).toNat 0
  ·rw [if_pos c] at hts
   rw [hts,hls]
   have hn:=fun s:List Int=>Q5 (g:=s++[t.getD i 0]) (i:=s.length) (by simp)
   have a1:=JE l (tkT l (t.take i)++[t.getD i 0]) (i:=(tkT l (t.take i)).length) (by simp)
   have a2:=ZP l (tkT l (t.take i)++[t.getD i 0]) (i:=(tkT l (t.take i)).length) (by simp)
   have g0:(tkT l (t.take i)++[t.getD i 0]).getD (tkT l (t.take i)).length 0=t.getD i 0:=by simp [qV]
   rw [jJ (by simp),g0,zI,h1] at a1 a2
   rw [a1,a2,h2,if_pos c]
   exact ⟨rfl,rfl⟩
  ·rw [if_neg c] at hts
   rw [hts,hls,h1,h2,VZ (Decidable.not_not.1 c)]
   exact ⟨rfl,rfl⟩
theorem SM (l:List St):QB l (Qd l)=QB l (Qg l)∧tkT l (Qd l)=Qd l:=by
 have:=Qix (l:=l) (t:=Qg l) (Qg l).length (qC _)
 rwa [qK] at this
end Go.Proofs.Ytiejmoglooaalaa
end
section
open Go Go.HL
namespace Go.Proofs.Ytiejmoglooaalaa
set_option maxRecDepth 100000
set_option linter.unusedSectionVars false
open Go.Proofs.Try renaming prog → Tp
open Go.HL.HV renaming undef → Ud
section
variable {F:FuncId→Option (List HV→Option HV)}
noncomputable def B93:Code:=Try.f93.body.getD .skip
abbrev Dd (v0 v1 v4 v5 v7 v8:HV):Env:=[(0,v0),(1,v1),(4,v4),(5,v5),(7,v7),(8,v8)]
end
abbrev e93 (la:List HV) (x:Int) (u3 u4 u5:HV):Env:=Dd (.a la) (.i x) (.i 0) u3 u4 u5
section
variable {F:FuncId→Option (List HV→Option HV)}
variable (la:List HV) (x:Int) (H:Heap)
include la x H
theorem QlF:RU F 93 2 B93 [(0,.a la),(1,.i x)] H .normal (e93 la x Ud Ud Ud) H :=
 hx 0 60 []
end
section
variable {F:FuncId→Option (List HV→Option HV)}
variable (la:List HV) (x:Int) (H:Heap)
include la x H
theorem QlG (y5 y7 y8:HV:=Ud): RU F 93 12 B93 (e93 la x y5 y7 y8) H .normal (e93 la x y5 (.i (la.length:Int)) (.i 0)) H :=
 hx 0 60 []
theorem QlH (m i:Nat) (a:Int) (g0:(i:Int)<(m:Int)) (g1:IX 24 (.a la) (.n i) (.vptr (.i a))) (g2:x=a) (y5:HV:=Ud): RU F 93 52 B93 (e93 la x y5 (.n m) (.n i)) H .ret (Dd (.a la) (.i x) (.n i) (.n i) (.n m) (.n i)) H :=
 hx 0 60 [jT 2 0 H g0,jO 4 3 H g1,jT 4 5 H g2]
theorem QlI (m i:Nat) (a:Int) (g0:(i:Int)<(m:Int)) (g1:IX 24 (.a la) (.n i) (.vptr (.i a))) (g2:¬(x=a)) (y5:HV:=Ud): RU F 93 52 B93 (e93 la x y5 (.n m) (.n i)) H .normal (e93 la x (.n i) (.n m) (.i (qA.wrap ((i:Int)+1)))) H :=
 hx 0 60 [jT 2 0 H g0,jO 4 3 H g1,jF 4 5 H g2]
theorem QlJ (m i:Nat) (a:Int) (g0:¬((i:Int)<(m:Int))) (y5:HV:=Ud): RU F 93 52 B93 (e93 la x y5 (.n m) (.n i)) H (.exit 0) (e93 la x y5 (.n m) (.n i)) H :=
 hx 0 60 [jF 2 0 H g0]
theorem QlK (y5 y7 y8:HV:=Ud): RU F 93 7 B93 (e93 la x y5 y7 y8) H .ret (Dd (.a la) (.i x) (.i (-1)) y5 y7 y8) H :=
 hx 0 60 []
end
section
variable {F:FuncId→Option (List HV→Option HV)}
noncomputable def B73:Code:=Try.f73.body.getD .skip
abbrev Qiy (v0 v1 v4:HV):Env:=[(0,v0),(1,v1),(4,v4)]
theorem QlL (la:List HV) (x:Int) (H:Heap) (r:Int) {H0:Heap} (g0:CM F 93 [.a la,.i x] H (.i r) H0) (g1:0≤r): RU F 73 1 B73 [(0,.a la),(1,.i x)] H .ret (Qiy (.a la) (.i x) (.bool true)) H0 :=
 hx 0 60 [jD 1 2 g0,jT 1 3 H0 g1]
theorem QlM (la:List HV) (x:Int) (H:Heap) (r:Int) {H0:Heap} (g0:CM F 93 [.a la,.i x] H (.i r) H0) (g1:¬(0≤r)): RU F 73 1 B73 [(0,.a la),(1,.i x)] H .ret (Qiy (.a la) (.i x) (.bool false)) H0 :=
 hx 0 60 [jD 1 2 g0,jF 1 3 H0 g1]
noncomputable def B59:Code:=Try.f59.body.getD .skip
abbrev De (v0 v1 v2 v3 v6 v7 v9 v10 v11 v21 v22 v23:HV):Env:=[(0,v0),(1,v1),(2,v2),(3,v3),(6,v6),(7,v7),(9,v9),(10,v10),(11,v11),(21,v21),(22,v22),(23,v23)]
end
abbrev e59 (n:Int) (ls:List HV) (la:List HV) (kk:Int) (u3 u5 u6 u7 u8 u9 u10 u11:HV):Env:=De (.N n ls) (.a la) (.i kk) u3 (.imm .lit 1 []) u5 u6 u7 u8 u9 u10 u11
section
variable {F:FuncId→Option (List HV→Option HV)}
variable (N:Nat) (n:Int) (ls la:List HV) (kk:Int)
include N n ls la kk
theorem QlN:RU F 59 2 B59 [(0,.N n ls),(1,.a la),(2,.i kk)] [] .normal (e59 n ls la kk (.q 0) Ud Ud Ud Ud Ud Ud Ud) [.arr 2 [.N n ls] true 0] :=
 hx N 60 []
end
section
variable {F:FuncId→Option (List HV→Option HV)}
variable (N:Nat) (n:Int) (ls la:List HV) (kk:Int)
include N n ls la kk
theorem QlO (H:Heap) (wb c pb:Nat) (r:Int) {H0:Heap} {H1:Heap} (g0:LD H 66 (.q 0) (.N n ls)) (g1:CM F 72 [.a la,.i kk] H (.s wb c) H0) (g2:CN F N 57 [.N n ls,.s wb c] H0 (.tuple [.q pb,.i r]) H1) (gS1:(YT ((QK Tp H 66 (.q 0)).map (fun v=>(v,(H:Heap)))) ((QK Tp H0 66 (.q 0)).map (fun v=>(v,(H0:Heap)))) H H0&&true)=true) (y7 y9 y10 y11 y21 y22 y23:HV:=Ud): RU F 59 6 B59 (e59 n ls la kk (.q 0) y7 y9 y10 y11 y21 y22 y23) H .normal (e59 n ls la kk (.q 0) (.q pb) y9 y10 y11 y21 y22 y23) H1 :=
 hx N 60 [jK gS1,jO 1 0 H g0,jD 1 3 g1,jC 1 4 g2]
theorem QlP (H:Heap) (pb:Nat) {v0:HV} {H0:Heap} (g0:some (HV.sl H.length 0 0 none 0 1,H++[Blk.b []])=some (v0,H0)) (y9 y10 y11 y21 y22 y23:HV:=Ud): RU F 59 14 B59 (e59 n ls la kk (.q 0) (.q pb) y9 y10 y11 y21 y22 y23) H .normal (e59 n ls la kk (.q 0) (.q pb) v0 y10 y11 y21 y22 y23) H0 :=
 hx N 60 [jR 2 0 g0]
theorem QlQ (H:Heap) (pb ob m:Nat) (g0:LD H 22 (.ptr 0 0 1 1) (.g ls)) (y10 y11 y21 y22 y23:HV:=Ud): RU F 59 60 B59 (e59 n ls la kk (.q 0) (.q pb) (.s ob m) y10 y11 y21 y22 y23) H .normal (e59 n ls la kk (.q 0) (.q pb) (.s ob m) y10 y11 (.g ls) (.i (ls.length:Int)) (.i 0)) H :=
 hx N 60 [jO 3 1 H g0]
theorem QlR (H:Heap) (pb ob m c i:Nat) (a b w:Int) {a0:HV} {H0:Heap} {H1:Heap} {H2:Heap} (g0:(i:Int)<(c:Int)) (g1:IX 22 (.g ls) (.n i) (.vptr (.agg [.i a,.i b,.i w]))) (g2:some (Wt (.agg [.i 0,.i 0,.i 0]) H)=some (a0,H0)) (g3:ST H0 42 (a0) (.agg [.i a,.i b,.i w]) H1) (g4:CM F 73 [.a la,.n i] H1 (.bool true) H2) (gS6:(true&&true)=true) (y3 y10 y11:HV:=Ud): RU F 59 244 B59 (e59 n ls la kk y3 (.q pb) (.s ob m) y10 y11 (.g ls) (.n c) (.n i)) H .normal (e59 n ls la kk y3 (.q pb) (.s ob m) (.n i) a0 (.g ls) (.n c) (.i (qA.wrap ((i:Int)+1)))) H2 :=
 hx N 60 [jT 4 0 H g0,jO 5 1 H g1,jR 5 3 g2,jS 5 5 g3,jK gS6,jD 6 2 g4]
theorem QlS (H:Heap) (pb ob m c i:Nat) (a b w:Int) {a0:HV} {H0:Heap} {H1:Heap} {H2:Heap} {a1:HV} {r0:Int} {H3:Heap} {a2:HV} {r1:Int} {H4:Heap} (g0:(i:Int)<(c:Int)) (g1:IX 22 (.g ls) (.n i) (.vptr (.agg [.i a,.i b,.i w]))) (g2:some (Wt (.agg [.i 0,.i 0,.i 0]) H)=some (a0,H0)) (g3:ST H0 42 (a0) (.agg [.i a,.i b,.i w]) H1) (g4:CM F 73 [.a la,.n i] H1 (.bool false) H2) (g5:Qq Tp 42 a0 0=some (a1)) (g6:LD H2 3 (a1) (.i a)) (g7:CN F N 55 [.q pb,.i a] H2 (.i r0) H3) (g8:Qq Tp 42 a0 1=some (a2)) (g9:LD H3 3 (a2) (.i b)) (g10:CN F N 55 [.q pb,.i b] H3 (.i r1) H4) (g11:r0=r1) (gS6:(YT ((QK Tp H3 3 (a2)).map (fun v=>(v,(H3:Heap)))) ((QK Tp H2 3 (a2)).map (fun v=>(v,(H2:Heap)))) H3 H2&&true)=true) (y3 y10 y11:HV:=Ud): RU F 59 244 B59 (e59 n ls la kk y3 (.q pb) (.s ob m) y10 y11 (.g ls) (.n c) (.n i)) H .normal (e59 n ls la kk y3 (.q pb) (.s ob m) (.n i) a0 (.g ls) (.n c) (.i (qA.wrap ((i:Int)+1)))) H4 :=
 hx N 60 [jT 4 0 H g0,jO 5 1 H g1,jR 5 3 g2,jS 5 5 g3,jK gS6,jD 6 2 g4,jO 6 6 H2 g5,jO 6 7 H2 g6,jC 6 8 g7,jO 6 10 H3 g8,jO 6 11 H3 g9,jC 6 12 g10,jB 6 13 H4 (congrArg not (decide_eq_true g11))]
theorem QlT (H:Heap) (pb ob m c i:Nat) (a b w:Int) {a0:HV} {H0:Heap} {H1:Heap} {H2:Heap} {a1:HV} {r0:Int} {H3:Heap} {a2:HV} {r1:Int} {H4:Heap} {H5:Heap} {v0:HV} (g0:(i:Int)<(c:Int)) (g1:IX 22 (.g ls) (.n i) (.vptr (.agg [.i a,.i b,.i w]))) (g2:some (Wt (.agg [.i 0,.i 0,.i 0]) H)=some (a0,H0)) (g3:ST H0 42 (a0) (.agg [.i a,.i b,.i w]) H1) (g4:CM F 73 [.a la,.n i] H1 (.bool false) H2) (g5:Qq Tp 42 a0 0=some (a1)) (g6:LD H2 3 (a1) (.i a)) (g7:CN F N 55 [.q pb,.i a] H2 (.i r0) H3) (g8:Qq Tp 42 a0 1=some (a2)) (g9:LD H3 3 (a2) (.i b)) (g10:CN F N 55 [.q pb,.i b] H3 (.i r1) H4) (g11:¬(r0=r1)) (gS6:(YT ((QK Tp H3 3 (a2)).map (fun v=>(v,(H3:Heap)))) ((QK Tp H2 3 (a2)).map (fun v=>(v,(H2:Heap)))) H3 H2&&true)=true) (g13:W5 H4 1 8 (.s ob m) [.n i]=some (v0,H5)) (y3 y10 y11:HV:=Ud): RU F 59 244 B59 (e59 n ls la kk y3 (.q pb) (.s ob m) y10 y11 (.g ls) (.n c) (.n i)) H .normal (e59 n ls la kk y3 (.q pb) v0 (.n i) a0 (.g ls) (.n c) (.i (qA.wrap ((i:Int)+1)))) H5 :=
 hx N 60 [jT 4 0 H g0,jO 5 1 H g1,jR 5 3 g2,jS 5 5 g3,jK gS6,jD 6 2 g4,jO 6 6 H2 g5,jO 6 7 H2 g6,jC 6 8 g7,jO 6 10 H3 g8,jO 6 11 H3 g9,jC 6 12 g10,jB 6 13 H4 (congrArg not (decide_eq_false g11)),jR 7 3 g13]
theorem QlU (H:Heap) (pb ob m c i:Nat) (a b w:Int) (g0:¬((i:Int)<(c:Int))) (y3 y10 y11:HV:=Ud): RU F 59 244 B59 (e59 n ls la kk y3 (.q pb) (.s ob m) y10 y11 (.g ls) (.n c) (.n i)) H (.exit 0) (e59 n ls la kk y3 (.q pb) (.s ob m) y10 y11 (.g ls) (.n c) (.n i)) H :=
 hx N 60 [jF 4 0 H g0]
theorem QlV (H:Heap) (pb ob m:Nat) (y3 y10 y11 y21 y22 y23:HV:=Ud): RU F 59 31 B59 (e59 n ls la kk y3 (.q pb) (.s ob m) y10 y11 y21 y22 y23) H .ret (De (.N n ls) (.a la) (.i kk) y3 (.s ob m) (.q pb) (.s ob m) y10 y11 y21 y22 y23) H :=
 hx N 60 []
end
section
variable {F:FuncId→Option (List HV→Option HV)}
noncomputable def B92:Code:=Try.f92.body.getD .skip
abbrev Qiz (v0 v1 v3:HV):Env:=[(0,v0),(1,v1),(3,v3)]
theorem QlW (x:Int) (kb:Nat) (H:Heap) (v:Int) (g0:LD H 3 (.q kb) (.i v)) (g1:x=v): RU F 92 1 B92 [(0,.i x),(1,.q kb)] H .ret (Qiz (.i x) (.q kb) (.bool true)) H :=
 hx 0 60 [jO 1 1 H g0,jT 1 2 H g1]
theorem QlX (x:Int) (kb:Nat) (H:Heap) (v:Int) (g0:LD H 3 (.q kb) (.i v)) (g1:¬(x=v)): RU F 92 1 B92 [(0,.i x),(1,.q kb)] H .ret (Qiz (.i x) (.q kb) (.bool false)) H :=
 hx 0 60 [jO 1 1 H g0,jF 1 2 H g1]
noncomputable def Kt:Code:=Try.f107.body.getD .skip
abbrev Xu (v0 v1 v4 v5 v7 v8:HV):Env:=[(0,v0),(1,v1),(4,v4),(5,v5),(7,v7),(8,v8)]
end
abbrev Cl (lb:Nat) (m:Nat) (kb:Nat) (u3 u4 u5:HV):Env:=Xu (.s lb m) (.func 92 [] [.q kb]) (.i 0) u3 u4 u5
section
variable {F:FuncId→Option (List HV→Option HV)}
variable (N:Nat) (lb m kb:Nat) (H:Heap)
include N lb m kb H
theorem QlY:RU F 107 2 Kt [(0,.s lb m),(1,.func 92 [] [.q kb])] H .normal (Cl lb m kb Ud Ud Ud) H :=
 hx N 60 []
end
section
variable {F:FuncId→Option (List HV→Option HV)}
variable (N:Nat) (lb m kb:Nat) (H:Heap)
include N lb m kb H
theorem QlZ (y5 y7 y8:HV:=Ud): RU F 107 12 Kt (Cl lb m kb y5 y7 y8) H .normal (Cl lb m kb y5 (.n m) (.i 0)) H :=
 hx N 60 []
theorem Ql0 (i:Nat) (x:Int) {H0:Heap} (g0:(i:Int)<(m:Int)) (g1:IS 24 lb m i) (g2:LD H 3 (.ptr lb i 0 m) (.i x)) (g3:CN F N 92 [.i x,.q kb] H (.bool true) H0) (y5:HV:=Ud): RU F 107 52 Kt (Cl lb m kb y5 (.n m) (.n i)) H .ret (Xu (.s lb m) (.func 92 [] [.q kb]) (.n i) (.n i) (.n m) (.n i)) H0 :=
 hx N 60 [jT 2 0 H g0,jO 4 3 H g1,jO 4 4 H g2,jC 4 5 g3]
theorem Ql1 (i:Nat) (x:Int) {H0:Heap} (g0:(i:Int)<(m:Int)) (g1:IS 24 lb m i) (g2:LD H 3 (.ptr lb i 0 m) (.i x)) (g3:CN F N 92 [.i x,.q kb] H (.bool false) H0) (y5:HV:=Ud): RU F 107 52 Kt (Cl lb m kb y5 (.n m) (.n i)) H .normal (Cl lb m kb (.n i) (.n m) (.i (qA.wrap ((i:Int)+1)))) H0 :=
 hx N 60 [jT 2 0 H g0,jO 4 3 H g1,jO 4 4 H g2,jC 4 5 g3]
theorem Ql2 (i:Nat) (x:Int) (g0:¬((i:Int)<(m:Int))) (y5:HV:=Ud): RU F 107 52 Kt (Cl lb m kb y5 (.n m) (.n i)) H (.exit 0) (Cl lb m kb y5 (.n m) (.n i)) H :=
 hx N 60 [jF 2 0 H g0]
theorem Ql3 (y5 y7 y8:HV:=Ud): RU F 107 7 Kt (Cl lb m kb y5 y7 y8) H .ret (Xu (.s lb m) (.func 92 [] [.q kb]) (.i (-1)) y5 y7 y8) H :=
 hx N 60 []
end
section
variable {F:FuncId→Option (List HV→Option HV)}
noncomputable def B90:Code:=Try.f90.body.getD .skip
abbrev SN (v0 v1 v4 v5 v6 v7:HV):Env:=[(0,v0),(1,v1),(4,v4),(5,v5),(6,v6),(7,v7)]
end
abbrev e90 (lb:Nat) (m:Nat) (kb:Nat) (u3 u4 u5:HV):Env:=SN (.s lb m) (.func 92 [] [.q kb]) (.imm .lit 1 []) u3 u4 u5
section
variable {F:FuncId→Option (List HV→Option HV)}
variable (N:Nat) (lb m kb:Nat) (H:Heap)
include N lb m kb H
theorem Ql4:RU F 90 2 B90 [(0,.s lb m),(1,.func 92 [] [.q kb])] H .normal (e90 lb m kb Ud Ud Ud) H :=
 hx N 60 []
end
section
variable {F:FuncId→Option (List HV→Option HV)}
variable (N:Nat) (lb m kb:Nat) (H:Heap)
include N lb m kb H
theorem Ql5 (r:Int) {H0:Heap} (g0:CN F N 107 [.s lb m,.func 92 [] [.q kb]] H (.i r) H0) (y5 y6 y7:HV:=Ud): RU F 90 6 B90 (e90 lb m kb y5 y6 y7) H .normal (e90 lb m kb (.i r) y6 y7) H0 :=
 hx N 60 [jC 1 2 g0]
theorem Ql6 (r:Int) (g0:r=(-1)) (y6 y7:HV:=Ud): RU F 90 14 B90 (e90 lb m kb (.i r) y6 y7) H .ret (SN (.s lb m) (.func 92 [] [.q kb]) (.s lb m) (.i r) y6 y7) H :=
 hx N 60 [jT 2 1 H g0]
theorem Ql7 (r:Int) (g0:¬(r=(-1))) (y6 y7:HV:=Ud): RU F 90 14 B90 (e90 lb m kb (.i r) y6 y7) H .normal (e90 lb m kb (.i r) y6 y7) H :=
 hx N 60 [jF 2 1 H g0]
theorem Ql8 (p:Nat) (y6 y7:HV:=Ud): RU F 90 60 B90 (e90 lb m kb (.n p) y6 y7) H .normal (e90 lb m kb (.n p) (.i (qA.wrap ((p:Int)+1))) y7) H :=
 hx N 60 []
theorem Ql9 (p i:Nat) (x:Int) {H0:Heap} (g0:(i:Int)<(m:Int)) (g1:IS 24 lb m i) (g2:LD H 3 (.ptr lb i 0 m) (.i x)) (g3:CN F N 92 [.i x,.q kb] H (.bool true) H0) (y7:HV:=Ud): RU F 90 244 B90 (e90 lb m kb (.n p) (.n i) y7) H .normal (e90 lb m kb (.n p) (.i (qA.wrap ((i:Int)+1))) (.i x)) H0 :=
 hx N 60 [jT 5 3 H g0,jO 7 2 H g1,jO 7 3 H g2,jC 8 2 g3]
theorem Qma (p i:Nat) (x:Int) {H0:Heap} {H1:Heap} (g0:(i:Int)<(m:Int)) (g1:IS 24 lb m i) (g2:LD H 3 (.ptr lb i 0 m) (.i x)) (g3:CN F N 92 [.i x,.q kb] H (.bool false) H0) (g4:IS 24 lb m p) (g5:ST H0 3 (.ptr lb p 0 m) (.i x) H1) (y7:HV:=Ud): RU F 90 244 B90 (e90 lb m kb (.n p) (.n i) y7) H .normal (e90 lb m kb (.i (qA.wrap ((p:Int)+1))) (.i (qA.wrap ((i:Int)+1))) (.i x)) H1 :=
 hx N 60 [jT 5 3 H g0,jO 7 2 H g1,jO 7 3 H g2,jC 8 2 g3,jO 9 3 H0 g4,jS 9 4 g5]
theorem Qmb (p i:Nat) (x:Int) (g0:¬((i:Int)<(m:Int))) (y7:HV:=Ud): RU F 90 244 B90 (e90 lb m kb (.n p) (.n i) y7) H (.exit 0) (e90 lb m kb (.n p) (.n i) y7) H :=
 hx N 60 [jF 5 3 H g0]
theorem Qmc (p:Nat) {H0:Heap} (g0:W6 Tp 24 (.s lb m) (some (.n p)) none none=some (.sl lb p (m-p) none m 1)) (g1:Xg Tp H 24 (.sl lb p (m-p) none m 1)=some (.tuple [],H0)) (g2:W6 Tp 24 (.s lb m) none (some (.n p)) none=some (.sl lb 0 p none m 1)) (y6 y7:HV:=Ud): RU F 90 31 B90 (e90 lb m kb (.n p) y6 y7) H .ret (SN (.s lb m) (.func 92 [] [.q kb]) (.sl lb 0 p none m 1) (.n p) y6 y7) H0 :=
 hx N 60 [jO 11 2 H g0,jR 11 3 g1,jO 12 2 H0 g2]
end
section
variable {F:FuncId→Option (List HV→Option HV)}
noncomputable def B91:Code:=Try.f91.body.getD .skip
abbrev Qrl (v0 v2:HV):Env:=[(0,v0),(2,v2)]
theorem Qmd (la:List HV) (H:Heap) {H0:Heap} {v0:HV} (g0:VH Tp .eql 24 (.a la)=some (.bool false)) (g1:W5 H 1 8 (.imm .lit 1 []) la=some (v0,H0)): RU F 91 1 B91 [(0,.a la)] H .ret (Qrl (.a la) v0) H0 :=
 hx 0 60 [jO 1 1 H g0,jR 3 2 g1]
noncomputable def B72:Code:=Try.f72.body.getD .skip
abbrev Qen (v0 v1 v3 v4:HV):Env:=[(0,v0),(1,v1),(3,v3),(4,v4)]
theorem Qme (N:Nat) (la:List HV) (v:Int) (cb c p:Nat): RU F 72 2 B72 [(0,.a la),(1,.i v)] [] .normal (Qen (.a la) (.i v) (.q 0) (.imm .lit 1 [])) [.arr 1 [.i v] true 0] :=
 hx N 60 []
theorem Qmf (N:Nat) (la:List HV) (v:Int) (H:Heap) (cb c p:Nat) {H0:Heap} {H1:Heap} (g0:CM F 91 [.a la] H (.s cb c) H0) (g1:CN F N 90 [.s cb c,.func 92 [] [.q 0]] H0 (.sl cb 0 p none c 1) H1): RU F 72 3 B72 (Qen (.a la) (.i v) (.q 0) (.imm .lit 1 [])) H .ret (Qen (.a la) (.i v) (.q 0) (.sl cb 0 p none c 1)) H1 :=
 hx N 60 [jD 1 1 g0,jC 1 3 g1]
end
end Go.Proofs.Ytiejmoglooaalaa
end
section
open Go Go.HL
namespace Go.Proofs.Ytiejmoglooaalaa
variable {F:FuncId→Option (List HV→Option HV)}
set_option linter.unusedSectionVars false
open Go.Proofs.Try renaming prog → Tp
open Go.HL.HV renaming undef → Ud
theorem QgB {l:List Int} (hne:l≠[]) (hl:l.length≤1000):W5 [] 1 8 (.imm .lit 1 []) (l.map Qb)=some (.sl 0 0 (l.map Qb).length none (l.map Qb).length 1,[.arr 1 (l.map Qb) true 0]):=by
 have hne:l.map Qb≠[]:=by simpa using hne
 simp only [W5,if_neg hne]
 rw [if_pos ⟨.inr trivial,by simp only [jH,qD,WF];omega⟩,UZ]
 simp
theorem QcZ {l:List Int} (hne:l≠[]):VH Tp .eql 24 (.imm .arg 1 (l.map Qb))=some (.bool false):=by
 cases l with
 | nil=>exact absurd rfl hne
 | cons v l=>simp only [VH,u24,K7,jU,Qbh]
def QbN:List HV→Option HV:=f1 kL fun l=>if l≠[]∧l.length≤900 then some (.own 1 (l.map Qb)) else none
theorem Qrm:Try.f91.results.toList=[.tmp 2]:=by kernel_rfl
theorem Qeo:QP Tp 91 QbN:=by
 refine Qn (pol:=plF fun _=>none) (fn:=Try.f91) (cd:=B91) Qh (Qz (fun _=>none) (fun g f h=>by cases h)) (by kernel_rfl) (by kernel_rfl) (Zh (fun _=>none) _ _ (by kernel_rfl)) (by kernel_rfl) ?_
 intro args res h
 obtain ⟨l,rfl,hq⟩:=KJ h
 split at hq
 case isFalse=>cases hq
 rename_i hc
 cases hq
 have a:=Qmd (F:=fun _=>none) (l.map Qb) [] (QcZ hc.1) (QgB hc.1 (by omega))
 refine ⟨_,_,_,.sl 0 0 (l.map Qb).length none (l.map Qb).length 1,a,by simp,by simp only [Qc,Qrm];rfl,?_⟩
 exact Vt (b:=0) rfl (by simp)
theorem Qmg:(Tp.info? 3).map (fun i=>(i.size,i.bytes,i.zero.map QM))=some (1,8,some (.int .i64 0)):=by kernel_rfl
theorem Qep {H:Heap} {b n:Nat} {T:List Int} (hb:H[b]?=some (bI T)) (hT:T.length=n) {k:Nat} (hk:k≤n):Xg Tp H 24 (.sl b k (n-k) none n 1)=some (.tuple [],H.set b (bI (T.take k++qW (n-k) 0))):=by
 by_cases h0:n-k=0
 ·have:k=n:=by omega
  subst this
  simp only [Xg,u24,qN,if_true,List.replicate_zero,qR]
  rw [jJ (by omega),U5 hb]
 ·have i3:=Qmg
  cases hi:Tp.info? 3 with
  | none=>rw [hi] at i3;cases i3
  | some i =>
   rw [hi] at i3
   simp only [zO,Option.some.injEq,Prod.mk.injEq] at i3
   obtain ⟨e1,e2,hz⟩:=i3
   cases hz2:i.zero with
   | none=>rw [hz2] at hz;cases hz
   | some z =>
    rw [hz2] at hz
    simp only [zO,Option.some.injEq] at hz
    simp only [Xg,u24,if_neg h0,hi,hb,hz2]
    rw [hz,if_pos ⟨trivial,e1,by simp [hT],by simp [hT];omega,rfl,rfl,by omega⟩]
    have e3:splice (T.map Qb) k (qW (n-k) (HV.int .i64 0))=(T.take k++qW (n-k) 0).map Qb:=by
     simp only [splice,wL,jV,jZ,List.map_replicate]
     rw [List.drop_of_length_le (by simp [hT];omega),qR]
     rfl
    rw [e3]
theorem QbO (h92:F 92=none) {H:Heap} {kb:Nat} {v:Int} (hb:H[kb]?=some (bI [v])) (x:Int):ClF F 92 [.int .i64 x,.ptr kb 0 0 1] H (.bool (decide (x=v))) H:=by
 have hr:Try.f92.results.toList=[.tmp 3]:=by kernel_rfl
 have ld:QK Tp H 3 (.ptr kb 0 0 1)=some (.int .i64 v):=QR (o:=[v]) hb (y:=0) (by simp)
 by_cases c:x=v
 ·have h:=CallsTo.shared (P:=Tp) (pol:=plF F) (g:=92) (fn:=Try.f92) (cd:=B92) (args:=[.int .i64 x,.ptr kb 0 0 1]) (v:=.bool true) h92 (by kernel_rfl) (by kernel_rfl) (by kernel_rfl) (QlW (F:=F) x kb H v ld c) (by kernel_rfl) (by simp) (by simp only [Qc,hr];rfl)
  rw [QC _ rfl] at h
  rw [decide_eq_true c];exact h
 ·have h:=CallsTo.shared (P:=Tp) (pol:=plF F) (g:=92) (fn:=Try.f92) (cd:=B92) (args:=[.int .i64 x,.ptr kb 0 0 1]) (v:=.bool false) h92 (by kernel_rfl) (by kernel_rfl) (by kernel_rfl) (QlX (F:=F) x kb H v ld c) (by kernel_rfl) (by simp) (by simp only [Qc,hr];rfl)
  rw [QC _ rfl] at h
  rw [decide_eq_false c];exact h
theorem Qeq (h92:F 92=none) (h107:F 107=none) (l:List Int) (v:Int) (hl:l.length≤900) :
  ∃r:Int,ClF F 107 [.sl 1 0 l.length none l.length 1,.func 92 [] [.ptr 0 0 0 1]] [bI [v],bI l] (.int .i64 r) [bI [v],bI l]∧((r=-1∧v∉l)∨∃m:Nat,r=(m:Int)∧m<l.length∧l.getD m 0=v∧∀i,i<m→l.getD i 0≠v):=by
 have cl:∀x,∃N,∀kf,N≤kf→Qs Tp (plF F) (kf+1) 92 [.int .i64 x,.ptr 0 0 0 1] [bI [v],bI l]=some (.bool (decide (x=v)),[bI [v],bI l]):=fun x=>CallsTo.from (QbO h92 (kb:=0) rfl x)
 have ld:∀i,i<l.length→QK Tp [bI [v],bI l] 3 (.ptr 1 i 0 l.length)=some (.int .i64 (l.getD i 0)):=fun i hi=>QR (H:=[bI [v],bI l]) (k:=1) rfl hi
 have go:∀m,m≤l.length→(∀i,i<m→l.getD i 0≠v)→∀i,i<m→RT (plF F) 107 (sn 52 Kt) ((Xu (.s 1 l.length) (.func 92 [] [.q 0]) (.i 0) Ud (.i (l.length:Int)) (.i (i:Int)))) [bI [v],bI l] .normal ((Xu (.s 1 l.length) (.func 92 [] [.q 0]) (.i 0) (.i (i:Int)) (.i (l.length:Int)) (.i ((i+1:Nat):Int)))) [bI [v],bI l]:=fun m hm' hn' i hi=>by
  obtain ⟨N,cN⟩:=cl (l.getD i 0)
  rw [decide_eq_false (hn' i hi)] at cN
  have s:=Ql1 (F:=F) N 1 l.length 0 [bI [v],bI l] i (l.getD i 0) (by omega) (ZT u24 z3 (by omega)) (ld i (by omega)) cN
  rw [Qj (by omega)] at s
  exact s
 have a:=QlY (F:=F) 0 1 l.length 0 [bI [v],bI l]
 have b:=QlZ (F:=F) 0 1 l.length 0 [bI [v],bI l]
 have hr:Try.f107.results.toList=[.tmp 4]:=by kernel_rfl
 rcases Kp 0 (fun x=>x=v) l with ⟨m,h1,h2,h3⟩ | hno
 ·obtain ⟨N,cN⟩:=cl (l.getD m 0)
  rw [decide_eq_true h2] at cN
  have r:=Q7 (pol':=plF F) (f:=107) (E:=fun i=>(Xu (.s 1 l.length) (.func 92 [] [.q 0]) (.i 0) Ud (.i (l.length:Int)) (.i (i:Int)))) (Hs:=fun _=>[bI [v],bI l]) m (go m (by omega) h3) (fun i _=>by kernel_rfl) (fun i _=>QC _ rfl) (Ql0 (F:=F) N 1 l.length 0 [bI [v],bI l] m (l.getD m 0) (by omega) (ZT u24 z3 (by omega)) (ld m (by omega)) cN) (by simp) (c:=sn 26 Kt) (by kernel_rfl) (fun i _=>by kernel_rfl)
  have t:=sq (a) (sqo (sq (b) (RunsTo.block_ret (i:=0) (c:=sn 13 Kt) (r) (by kernel_rfl)) (c:=sn 6 Kt)) (c:=sn 3 Kt) (b:=sn 7 Kt)) (c:=Kt)
  have h:=CallsTo.shared (P:=Tp) (pol:=plF F) (g:=107) (fn:=Try.f107) (cd:=Kt) (args:=[.sl 1 0 l.length none l.length 1,.func 92 [] [.ptr 0 0 0 1]]) (v:=.int .i64 (m:Int)) h107 (by kernel_rfl) (by kernel_rfl) (by kernel_rfl) t (by kernel_rfl) (by simp) (by simp only [Qc,hr];rfl)
  rw [QC _ rfl] at h
  exact ⟨_,h,.inr ⟨m,rfl,h1,h2,h3⟩⟩
 ·have r:=Q7 (pol':=plF F) (f:=107) (E:=fun i=>(Xu (.s 1 l.length) (.func 92 [] [.q 0]) (.i 0) Ud (.i (l.length:Int)) (.i (i:Int)))) (Hs:=fun _=>[bI [v],bI l]) l.length (go l.length (qC _) fun i hi=>hno _ (Qo _ hi)) (fun i _=>by kernel_rfl) (fun i _=>QC _ rfl) (Ql2 (F:=F) 0 1 l.length 0 [bI [v],bI l] l.length 0 (by omega)) (by simp) (c:=sn 26 Kt) (by kernel_rfl) (fun i _=>by kernel_rfl)
  have z:=Ql3 (F:=F) 0 1 l.length 0 [bI [v],bI l] (y7:=.i (l.length:Int)) (y8:=.i (l.length:Int))
  have t:=sq (a) (sq (sq (b) (bke (c:=sn 13 Kt) (r)) (c:=sn 6 Kt)) (z) (c:=sn 3 Kt)) (c:=Kt)
  have h:=CallsTo.shared (P:=Tp) (pol:=plF F) (g:=107) (fn:=Try.f107) (cd:=Kt) (args:=[.sl 1 0 l.length none l.length 1,.func 92 [] [.ptr 0 0 0 1]]) (v:=.int .i64 (-1)) h107 (by kernel_rfl) (by kernel_rfl) (by kernel_rfl) t (by kernel_rfl) (by simp) (by simp only [Qc,hr];rfl)
  rw [QC _ rfl] at h
  exact ⟨_,h,.inl ⟨rfl,fun hv=>hno v hv rfl⟩⟩
def wo (l:List Int) (v:Int):List Int:=l.filter fun x=>decide (x≠v)
def dT (l:List Int) (v:Int) (i:Nat):List Int:=wo (l.take i) v++l.drop (wo (l.take i) v).length
theorem Df (l:List Int) (v:Int):(wo l v).length≤l.length:=zC _ _
theorem Qer (l:List Int) (v:Int) {i:Nat} (hi:i≤l.length):(dT l v i).length=l.length:=by
 have:=Df (l.take i) v
 rw [qQ] at this
 rw [dT,qB,List.length_drop];omega
theorem Qmh (l:List Int) (v:Int) {i:Nat} (hi:i<l.length):(dT l v i).getD i 0=l.getD i 0:=by
 have:=Df (l.take i) v
 rw [qQ] at this
 simp only [qV,dT]
 rw [jG (by omega),List.getElem?_drop,show (wo (l.take i) v).length+(i-(wo (l.take i) v).length)=i by omega]
theorem Cm (l:List Int) (v:Int) {i:Nat} (hi:i<l.length):wo (l.take (i+1)) v=if l.getD i 0=v then wo (l.take i) v else wo (l.take i) v++[l.getD i 0]:=by
 rw [Q5 hi,wo,jA]
 by_cases c:l.getD i 0=v
 ·rw [if_pos c,qX (by simpa using c)];simp [wo]
 ·rw [if_neg c,qY (by simpa using c)];rfl
theorem Qmi (l:List Int) (v:Int) {i:Nat} (hi:i<l.length) (c:l.getD i 0≠v):(dT l v i).set (wo (l.take i) v).length (l.getD i 0)=dT l v (i+1):=by
 have:=Df (l.take i) v
 rw [qQ] at this
 rw [dT,jY _ _ (qC _),qN,dT,Cm l v hi,if_neg c,qB,qG,qF]
 refine congrArg _ ?_
 rw [List.drop_eq_getElem_cons (by omega)]
 rfl
theorem Qes (h90:F 90=none) (h92:F 92=none) (h107:F 107=none) (l:List Int) (v:Int) (hl:l.length≤900) :
  ∃T,ClF F 90 [.sl 1 0 l.length none l.length 1,.func 92 [] [.ptr 0 0 0 1]] [bI [v],bI l] (.sl 1 0 (wo l v).length none l.length 1) [bI [v],bI (wo l v++T)]∧(wo l v++T).length=l.length:=by
 obtain ⟨r,hc,hr⟩:=Qeq h92 h107 l v hl
 obtain ⟨N,c107⟩:=CallsTo.from hc
 have a:=Ql4 (F:=F) 0 1 l.length 0 [bI [v],bI l]
 have b:=Ql5 (F:=F) N 1 l.length 0 [bI [v],bI l] r c107
 have hres:Try.f90.results.toList=[.tmp 4]:=by kernel_rfl
 rcases hr with ⟨rfl,hno⟩ | ⟨m,rfl,hm1,hm2,hm3⟩
 ·have c:=Ql6 (F:=F) 0 1 l.length 0 [bI [v],bI l] (-1) rfl
  have t:=sq (a) (sq (b) (sqo (c) (c:=sn 7 B90) (b:=sn 15 B90)) (c:=sn 3 B90)) (c:=B90)
  have h:=CallsTo.shared (P:=Tp) (pol:=plF F) (g:=90) (fn:=Try.f90) (cd:=B90) (args:=[.sl 1 0 l.length none l.length 1,.func 92 [] [.ptr 0 0 0 1]]) (v:=.sl 1 0 l.length none l.length 1) h90 (by kernel_rfl) (by kernel_rfl) (by kernel_rfl) t (by kernel_rfl) (by simp) (by simp only [Qc,hres];rfl)
  rw [QC _ rfl] at h
  have e:wo l v=l:=List.filter_eq_self.2 fun x hx=>decide_eq_true fun c=>hno (c▸hx)
  rw [e]
  exact ⟨[],by rw [qR];exact h,by simp⟩
 ·have c:=Ql7 (F:=F) 0 1 l.length 0 [bI [v],bI l] (m:Int) (by omega)
  have d:=Ql8 (F:=F) 0 1 l.length 0 [bI [v],bI l] m
  have ew:∀i,i≤m→wo (l.take i) v=l.take i:=fun i hi=>List.filter_eq_self.2 fun x hx=>decide_eq_true fun c=>by
   obtain ⟨j,hj,rfl⟩:=jQ hx
   rw [qQ] at hj
   have:=hm3 j (by omega)
   rw [QD (by omega)] at this
   rw [List.getElem_take] at c
   exact this c
  have em:wo (l.take (m+1)) v=l.take m:=by rw [Cm l v hm1,if_pos hm2,ew m (qC _)]
  have eml:(wo (l.take (m+1)) v).length=m:=by rw [em,qQ];omega
  have r:=Q7 (pol':=plF F) (f:=90) (E:=fun i=>(SN (.s 1 l.length) (.func 92 [] [.q 0]) (.imm .lit 1 []) (.i ((wo (l.take (m+1+i)) v).length:Int)) (.i (((m+1+i):Nat):Int)) Ud)) (Hs:=fun i=>[bI [v],bI (dT l v (m+1+i))]) (l.length-(m+1)) (E0:=fun i=>(SN (.s 1 l.length) (.func 92 [] [.q 0]) (.imm .lit 1 []) (.i ((wo (l.take (m+1+(i+1))) v).length:Int)) (.i (((m+1+(i+1)):Nat):Int)) (.i (l.getD (m+1+i) 0)))) (H1:=fun i=>[bI [v],bI (dT l v (m+1+(i+1)))])
   (fun i hi=>by
    generalize hj:m+1+i=j
    have hj2:m+1+(i+1)=j+1:=by omega
    rw [hj2]
    have hjl:j<l.length:=by omega
    have hdl:=Qer l v (i:=j) (by omega)
    have ld:=QR (H:=[bI [v],bI (dT l v j)]) (k:=1) (o:=dT l v j) rfl (y:=j) (by omega)
    rw [hdl,Qmh l v hjl] at ld
    obtain ⟨N,cN⟩:=CallsTo.from (QbO (F:=F) h92 (H:=[bI [v],bI (dT l v j)]) (kb:=0) rfl (l.getD j 0))
    have hws:=Cm l v hjl
    have hwl:=Df (l.take j) v
    rw [qQ] at hwl
    by_cases cv:l.getD j 0=v
    ·rw [decide_eq_true cv] at cN
     rw [if_pos cv] at hws
     have s:=Ql9 (F:=F) N 1 l.length 0 [bI [v],bI (dT l v j)] (wo (l.take j) v).length j (l.getD j 0) (by omega) (ZT u24 z3 (by omega)) ld cN
     rw [Qj (by omega)] at s
     have:dT l v (j+1)=dT l v j:=by rw [dT,hws];rfl
     rw [this,hws]
     exact s
    ·rw [decide_eq_false cv] at cN
     rw [if_neg cv] at hws
     have st:=Kn (H:=[bI [v],bI (dT l v j)]) (k:=1) (o:=dT l v j) rfl (y:=(wo (l.take j) v).length) (by omega) (l.getD j 0)
     rw [hdl,Qmi l v hjl cv] at st
     have s:=Qma (F:=F) N 1 l.length 0 [bI [v],bI (dT l v j)] (wo (l.take j) v).length j (l.getD j 0) (by omega) (ZT u24 z3 (by omega)) ld cN (ZT u24 z3 (by omega)) st
     rw [Qj (by omega),Qj (by omega)] at s
     have el:(wo (l.take (j+1)) v).length=(wo (l.take j) v).length+1:=by rw [hws];simp
     rw [← el] at s
     exact s) (fun i _=>by kernel_rfl) (fun i _=>QC _ rfl) (Qmb (F:=F) 0 1 l.length 0 [bI [v],bI (dT l v (m+1+(l.length-(m+1))))] (wo (l.take (m+1+(l.length-(m+1)))) v).length (m+1+(l.length-(m+1))) 0 (by omega)) (by simp) (c:=sn 122 B90) (by kernel_rfl) (fun i _=>by kernel_rfl)
  have e0:dT l v (m+1+0)=l:=by rw [zE,dT,eml,em,List.take_append_drop]
  have en:m+1+(l.length-(m+1))=l.length:=by omega
  simp only [e0,en,zE,eml,qK] at r
  rw [Qj (by omega)] at d
  have hdl:=Qer l v (qC l.length)
  have hwl:=Df l v
  have hcl:=Qep (H:=[bI [v],bI (dT l v l.length)]) (b:=1) rfl hdl hwl
  have hdt:(dT l v l.length).take (wo l v).length=wo l v:=by
   rw [dT,qK,wC (qC _),jJ (qC _)]
  rw [hdt] at hcl
  have z:=Qmc (F:=F) 0 1 l.length 0 [bI [v],bI (dT l v l.length)] (wo l v).length (y6:=.i (l.length:Int)) (SB hwl) hcl (SA hwl)
  have t:=sq (a) (sq (b) (sq (c) (sq (sq (d) (bke (c:=sn 61 B90) (r)) (c:=sn 30 B90)) (z) (c:=sn 15 B90)) (c:=sn 7 B90)) (c:=sn 3 B90)) (c:=B90)
  have h:=CallsTo.shared (P:=Tp) (pol:=plF F) (g:=90) (fn:=Try.f90) (cd:=B90) (args:=[.sl 1 0 l.length none l.length 1,.func 92 [] [.ptr 0 0 0 1]]) (v:=.sl 1 0 (wo l v).length none l.length 1) h90 (by kernel_rfl) (by kernel_rfl) (by kernel_rfl) t (by kernel_rfl) (by simp) (by simp only [Qc,hres];rfl)
  rw [QC (H:=[bI [v],bI l]) (H':=([bI [v],bI (dT l v l.length)].set 1 (bI (wo l v++qW (l.length-(wo l v).length) 0)))) _ rfl] at h
  exact ⟨_,h,by rw [qB,wL];omega⟩
theorem SO {H:Heap} {no:List Nat} {b m n mx:Nat} {els:List HV} (hb:H[b]?=some (.arr 1 els true mx)) (hm:els.length=n) (hk:m≤n) (hf:mapO (frz H no 4) (els.take m)=some (els.take m)):Wk H no false (.sl b 0 m none n 1)=some (.own 1 (els.take m)):=by
 have hv:WR H b 0 m n 1=some (els.take m):=by
  simp only [WR,hb]
  rw [if_pos ⟨hm.symm,by omega,trivial⟩]
  simp
 have hr:(JT H no false)=frz H no 4:=by funext v;rfl
 simp only [Wk,hb,if_true,hv,hr,hf]
def Gn:List HV→Option HV:=f2 kL kI fun l v=>if l≠[]∧l.length≤900 then some (.own 1 ((wo l v).map Qb)) else none
theorem Qrn:Try.f72.results.toList=[.tmp 4]:=by kernel_rfl
def SP:FuncId→Option (List HV→Option HV):=fun g=>if g==91 then some QbN else none
theorem QgC (n:Nat):Ql Tp (Qs Tp (plF SP) n):=Qz _ (fun g f h=>by
 unfold SP at h
 split at h
 ·rename_i hg;cases h;rw [eq_of_beq hg];exact Qeo
 ·cases h) n
theorem QaV:QP Tp 72 Gn:=by
 refine Qn (pol:=plF SP) (fn:=Try.f72) (cd:=B72) Qh QgC (by kernel_rfl) (by kernel_rfl) (Zh SP _ _ (by kernel_rfl)) (by kernel_rfl) ?_
 intro args res h
 obtain ⟨l,v,rfl,hq⟩:=Zc h
 split at hq
 case isFalse=>cases hq
 rename_i hc
 cases hq
 have a:=Qme (F:=SP) 0 (l.map Qb) v 0 0 0
 have c91:=at1 (pol':=plF SP) (g:=91) (c1:=kL) (f:=fun l=>if l≠[]∧l.length≤900 then some (.own 1 (l.map Qb)) else none) (H:=[bI [v]]) (by kernel_rfl) (VT _ l) (if_pos hc)
 rw [Wz] at c91
 obtain ⟨T,c90,hT⟩:=Qes (F:=SP) (by kernel_rfl) (by kernel_rfl) (by kernel_rfl) l v hc.2
 obtain ⟨N,c90⟩:=CallsTo.from c90
 have b:=Qmf (F:=SP) N (l.map Qb) v [bI [v]] 1 l.length (wo l v).length c91 c90
 refine ⟨_,_,_,.sl 1 0 (wo l v).length none l.length 1,sq (a) (b) (c:=B72),by simp,by simp only [Qc,Qrn];rfl,?_⟩
 have hr:=SO (H:=[bI [v],bI (wo l v++T)]) (no:=[1]) (b:=1) (m:=(wo l v).length) (n:=l.length) (mx:=0) (els:=(wo l v++T).map Qb) rfl (by rw [qD];exact hT) (Df l v) (by rw [← jZ,wC (qC _),jJ (qC _)];exact Wy (fun r=>JV 4 r) _)
 rw [← jZ,wC (qC _),jJ (qC _)] at hr
 have ho:QO [bI [v],bI (wo l v++T)] false (.sl 1 0 (wo l v).length none l.length 1)=[1]:=rfl
 show WS _ false _=_
 simp only [WS,ho,List.nodup_cons,zV,not_false_eq_true,zW,and_self,if_true,W1,hr]
end Go.Proofs.Ytiejmoglooaalaa
end
section
open Go Go.HL
namespace Go.Proofs.Ytiejmoglooaalaa
set_option linter.unusedSectionVars false
open Go.Proofs.Try renaming prog → Tp
open Go.HL.HV renaming undef → Ud
def ixI (l:List Int) (v:Int):Int:=match fN (fun i=>decide (l.getD i 0=v)) l.length 0 with | some m=>(m:Int) | none=>-1
theorem QbP (l:List Int) (v:Int):0≤ixI l v↔v∈l:=by
 rw [ixI]
 cases h:fN (fun i=>decide (l.getD i 0=v)) l.length 0 with
 | some m =>
  obtain ⟨_,h2,h3,_⟩:=XT h
  refine ⟨fun _=>?_,fun _=>by simp⟩
  have:=of_decide_eq_true h3
  rw [← this]
  exact Qo 0 (by omega)
 | none =>
  refine ⟨fun h=>absurd h (by decide),fun hv=>?_⟩
  obtain ⟨j,hj,rfl⟩:=jQ hv
  have:=V0 h j (jE _) (by omega)
  simp only [decide_eq_false_iff_not] at this
  exact absurd (QD hj) this
def QbQ:List HV→Option HV:=f2 kL kI fun l v=>if l.length≤900 then some (.int .i64 (ixI l v)) else none
theorem Qet:Try.f93.results.toList=[.tmp 4]:=by kernel_rfl
theorem Qeu:QP Tp 93 QbQ:=by
 refine Qn (pol:=plF fun _=>none) (fn:=Try.f93) (cd:=B93) Qh (Qz (fun _=>none) (fun g f h=>by cases h)) (by kernel_rfl) (by kernel_rfl) (Zh (fun _=>none) _ _ (by kernel_rfl)) (by kernel_rfl) ?_
 intro args res h
 obtain ⟨l,v,rfl,hq⟩:=Zc h
 split at hq
 case isFalse=>cases hq
 rename_i hl
 cases hq
 have go:∀m,m≤l.length→(∀i,i<m→l.getD i 0≠v)→∀i,i<m→RunsTo Tp (plF fun _=>none) 93 (sn 52 B93) ((Dd (.a (l.map Qb)) (.i v) (.i 0) Ud (.i (l.length:Int)) (.i (i:Int)))) [] .normal ((plF fun _=>none).keys 93) ((Dd (.a (l.map Qb)) (.i v) (.i 0) (.i (i:Int)) (.i (l.length:Int)) (.i ((i+1:Nat):Int)))) []:=fun m hm' hn' i hi=>by
  have s:=QlI (F:=fun _=>none) (l.map Qb) v [] l.length i (l.getD i 0) (by omega) (gx (by omega)) (fun h=>hn' i hi h.symm)
  rw [Qj (by omega)] at s
  exact s
 have a:=QlF (F:=fun _=>none) (l.map Qb) v []
 have b:=QlG (F:=fun _=>none) (l.map Qb) v []
 rw [qD] at b
 rw [ixI]
 cases hf:fN (fun i=>decide (l.getD i 0=v)) l.length 0 with
 | some m =>
  obtain ⟨_,h1,h2,h3⟩:=XT hf
  have r:=Q7 (pol':=plF fun _=>none) (f:=93) (E:=fun i=>(Dd (.a (l.map Qb)) (.i v) (.i 0) Ud (.i (l.length:Int)) (.i (i:Int)))) (Hs:=fun _=>[]) m (go m (by omega) fun i hi=>by have:=h3 i (jE _) hi;simpa using this) (fun i _=>by kernel_rfl) (fun i _=>QC _ rfl) (QlH (F:=fun _=>none) (l.map Qb) v [] l.length m (l.getD m 0) (by omega) (gx (by omega)) (of_decide_eq_true h2).symm) (by simp) (c:=sn 26 B93) (by kernel_rfl) (fun i _=>by kernel_rfl)
  exact ⟨_,_,_,.int .i64 (m:Int),sq (a) (sqo (sq (b) (RunsTo.block_ret (i:=0) (c:=sn 13 B93) (r) (by kernel_rfl)) (c:=sn 6 B93)) (c:=sn 3 B93) (b:=sn 7 B93)) (c:=B93),by simp,by simp only [Qc,Qet];rfl,rfl⟩
 | none =>
  have h3:=V0 hf
  have r:=Q7 (pol':=plF fun _=>none) (f:=93) (E:=fun i=>(Dd (.a (l.map Qb)) (.i v) (.i 0) Ud (.i (l.length:Int)) (.i (i:Int)))) (Hs:=fun _=>[]) l.length (go l.length (qC _) fun i hi=>by have:=h3 i (jE _) (by omega);simpa using this) (fun i _=>by kernel_rfl) (fun i _=>QC _ rfl) (QlJ (F:=fun _=>none) (l.map Qb) v [] l.length l.length 0 (by omega)) (by simp) (c:=sn 26 B93) (by kernel_rfl) (fun i _=>by kernel_rfl)
  have z:=QlK (F:=fun _=>none) (l.map Qb) v [] (y7:=.i (l.length:Int)) (y8:=.i (l.length:Int))
  exact ⟨_,_,_,.int .i64 (-1),sq (a) (sq (sq (b) (bke (c:=sn 13 B93) (r)) (c:=sn 6 B93)) (z) (c:=sn 3 B93)) (c:=B93),by simp,by simp only [Qc,Qet];rfl,rfl⟩
def Dg:List HV→Option HV:=f2 kL kI fun l v=>if l.length≤900 then some (.bool (decide (v∈l))) else none
theorem QiA:Try.f73.results.toList=[.tmp 4]:=by kernel_rfl
def QaW:FuncId→Option (List HV→Option HV):=fun g=>if g==93 then some QbQ else none
theorem QgD (n:Nat):Ql Tp (Qs Tp (plF QaW) n):=Qz _ (fun g f h=>by
 unfold QaW at h
 split at h
 ·rename_i hg;cases h;rw [eq_of_beq hg];exact Qeu
 ·cases h) n
theorem SQ:QP Tp 73 Dg:=by
 refine Qn (pol:=plF QaW) (fn:=Try.f73) (cd:=B73) Qh QgD (by kernel_rfl) (by kernel_rfl) (Zh QaW _ _ (by kernel_rfl)) (by kernel_rfl) ?_
 intro args res h
 obtain ⟨l,v,rfl,hq⟩:=Zc h
 split at hq
 case isFalse=>cases hq
 rename_i hl
 cases hq
 have c:=at2 (pol':=plF QaW) (g:=93) (c1:=kL) (c2:=kI) (f:=fun l v=>if l.length≤900 then some (.int .i64 (ixI l v)) else none) (H:=[]) (by kernel_rfl) (VT _ l) (ShI _ v) (if_pos hl)
 by_cases k:0≤ixI l v
 ·rw [decide_eq_true ((QbP l v).1 k)]
  exact ⟨_,_,_,.bool true,QlL (F:=QaW) (l.map Qb) v [] (ixI l v) c k,by simp,by simp only [Qc,QiA];rfl,rfl⟩
 ·rw [decide_eq_false fun h=>k ((QbP l v).2 h)]
  exact ⟨_,_,_,.bool false,QlM (F:=QaW) (l.map Qb) v [] (ixI l v) c k,by simp,by simp only [Qc,QiA];rfl,rfl⟩
def Q4 (l:List St) (t:List Int) (o:Int) (k:Int):Prop:=(QB l (wo t o)).getD (sA l k).toNat 0≠(QB l (wo t o)).getD (sB l k).toNat 0
instance (l:List St) (t:List Int) (o k:Int):Decidable (Q4 l t o k):=inferInstanceAs (Decidable (_≠_))
def Q0 (l:List St) (t:List Int) (o:Int) (n:Nat):List Int:=(Qf n).filter fun k=>decide (k∉t∧Q4 l t o k)
theorem Qev (l:List St) (t:List Int) (o:Int) (i:Nat):Q0 l t o (i+1)=Q0 l t o i++(if (i:Int)∉t∧Q4 l t o i then [(i:Int)] else []):=by
 rw [Q0,WO,jA,Q0]
 refine congrArg _ ?_
 by_cases c:(i:Int)∉t∧Q4 l t o i
 ·rw [if_pos c,qY (by simpa using c)];rfl
 ·rw [if_neg c,qX (by simpa using c)];rfl
theorem QbR (l:List St) (t:List Int) (o:Int) (n:Nat):(Q0 l t o n).length≤n:=by
 have:=zC (fun k=>decide (k∉t∧Q4 l t o k)) (Qf n)
 rwa [QL] at this
def Gp:List HV→Option HV:=f3 kN kL kI fun p t o=>if (Jm p.2=true∧p.2.length≤500)∧inR p.2.length t=true∧t≠[]∧t.length≤500 then some (.own 1 ((Q0 p.2 t o p.2.length).map Qb)) else none
theorem Qro:Try.f59.results.toList=[.tmp 6]:=by kernel_rfl
def KP:FuncId→Option (List HV→Option HV):=fun g=>if g==72 then some Gn else if g==73 then some Dg else none
theorem QgE (n:Nat):Ql Tp (Qs Tp (plF KP) n):=Qz _ (fun g f h=>by
 unfold KP at h
 split at h
 ·rename_i hg;cases h;rw [eq_of_beq hg];exact QaV
 split at h
 ·rename_i hg;cases h;rw [eq_of_beq hg];exact SQ
 ·cases h) n
theorem QaX:QP Tp 59 Gp:=by
 refine Qn (pol:=plF KP) (fn:=Try.f59) (cd:=B59) Qh QgE (by kernel_rfl) (by kernel_rfl) (Zh KP _ _ (by kernel_rfl)) (by kernel_rfl) ?_
 intro args res h
 obtain ⟨⟨n,l⟩,t,o,rfl,hq⟩:=Vu h
 simp only at hq
 split at hq
 case isFalse=>cases hq
 rename_i hc
 obtain ⟨⟨he,hl⟩,hr,hne,htl⟩:=hc
 cases hq
 have ht:=inR_iff.1 hr
 have hwl:=Df t o
 have htw:∀k∈wo t o,0≤k∧k<(l.length:Int):=fun k hk=>ht k (List.mem_filter.1 hk).1
 have a:=QlN (F:=KP) 0 n (l.map Qa) (t.map Qb) o
 have c72:=at2 (pol':=plF KP) (g:=72) (c1:=kL) (c2:=kI) (f:=fun l v=>if l≠[]∧l.length≤900 then some (.own 1 ((wo l v).map Qb)) else none) (H:=[bN n l]) (by kernel_rfl) (VT _ t) (ShI _ o) (if_pos ⟨hne,by omega⟩)
 rw [Wz] at c72
 obtain ⟨N1,c57⟩:=CallsTo.from (Gj (F:=KP) (by kernel_rfl) (by kernel_rfl) (by kernel_rfl) (by kernel_rfl) (n:=n) he htw (by omega) (H:=[bN n l,bI (wo t o)]) (by show max 0 (max 0 0)≤2;decide) (lb:=1) (cap:=none) (o:=wo t o) rfl (fun i hi=>⟨hi,rfl⟩))
 have sN:Qw [bN n l] [bN n l]=true:=by simp only [Qw,sameL,Vw,beq_self_eq_true,zF]
 have hs1:(YT ((QK Tp [bN n l] 66 (.ptr 0 0 0 1)).map (fun v=>(v,([bN n l]:Heap)))) ((QK Tp [bN n l,bI (wo t o)] 66 (.ptr 0 0 0 1)).map (fun v=>(v,([bN n l,bI (wo t o)]:Heap)))) [bN n l] [bN n l,bI (wo t o)]&&true)=true:=by
  rw [KL (n:=n) (l:=l) rfl,KL (n:=n) (l:=l) rfl]
  simp only [zO,YT,Vw,sN,QA sN (Q3 (wo t o)),zF]
 have b:=QlO (F:=KP) N1 n (l.map Qa) (t.map Qb) o [bN n l] 1 (wo t o).length 3 _ (KL rfl) c72 c57 hs1
 have hU:=Jt he (t:=wo t o) htw
 have hlabE:(ksT l (wo t o)).2.1=QB l (wo t o):=rfl
 rw [hlabE] at hU
 generalize hus:(ksT l (wo t o)).1=us at *
 have c:=QlP (F:=KP) 0 n (l.map Qa) (t.map Qb) o [bN n l,bI (wo t o),bN n l,bU us] 3 rfl
 have d:=QlQ (F:=KP) 0 n (l.map Qa) (t.map Qb) o [bN n l,bI (wo t o),bN n l,bU us,bI []] 3 4 0 (J6 (xb:=0) rfl)
 rw [qD] at d
 have r:=Q7 (pol':=plF KP) (f:=59) (E:=fun i=>(De (Qt n l) (.a (t.map Qb)) (.i o) Ud (.imm .lit 1 []) (.q 3) (.sl 4 0 (Q0 l t o i).length none (Q0 l t o i).length 1) Ud Ud (.g (l.map Qa)) (.i (l.length:Int)) (.i (i:Int)))) (Hs:=fun i=>[bN n l,bI (wo t o),bN n l,bU us,bI (Q0 l t o i)]) l.length
  (E0:=fun i=>(De (Qt n l) (.a (t.map Qb)) (.i o) Ud (.imm .lit 1 []) (.q 3) (.sl 4 0 (Q0 l t o (i+1)).length none (Q0 l t o (i+1)).length 1) (.i (i:Int)) (.q 5) (.g (l.map Qa)) (.i (l.length:Int)) (.i ((i+1:Nat):Int)))) (H1:=fun i=>[bN n l,bI (wo t o),bN n l,bU us,bI (Q0 l t o (i+1)),bT (l.getD i (0,0,0))])
  (fun i hi=>by
   have g2:=gs (l:=l) (y:=i) hi
   obtain ⟨e1,e2⟩:=Ks he (k:=(i:Int)) (by omega)
   have hJ:Q4 l t o (i:Int)↔(QB l (wo t o)).getD (sA l i).toNat 0≠(QB l (wo t o)).getD (sB l i).toNat 0:=Iff.rfl
   have hsA:sA l (i:Int)=(l.getD i (0,0,0)).1:=rfl
   have hsB:sB l (i:Int)=(l.getD i (0,0,0)).2.1:=rfl
   rw [hsA] at e1 hJ
   rw [hsB] at e2 hJ
   have his:=Qev l t o i
   have hil:=QbR l t o i
   generalize l.getD i (0,0,0)=s at *
   have hx:([bN n l,bI (wo t o),bN n l,bU us,bI (Q0 l t o i),bT s]:Heap)[5]?=some (bT s):=rfl
   have la:=ldT hx 0 s.1 rfl
   have lb:=ldT hx 1 s.2.1 rfl
   have nv:=Da [bN n l,bI (wo t o),bN n l,bU us,bI (Q0 l t o i)]
   have st:=Db [bN n l,bI (wo t o),bN n l,bU us,bI (Q0 l t o i)] s
   have c73:=at2 (pol':=plF KP) (g:=73) (c1:=kL) (c2:=kI) (f:=fun l v=>if l.length≤900 then some (.bool (decide (v∈l))) else none) (H:=[bN n l,bI (wo t o),bN n l,bU us,bI (Q0 l t o i),bT s]) (by kernel_rfl) (VT _ t) (ShI _ (i:Int)) (if_pos (by omega))
   obtain ⟨N2,o1⟩:=CallsTo.from (JY (F:=KP) (by kernel_rfl) (H:=[bN n l,bI (wo t o),bN n l,bU us,bI (Q0 l t o i),bT s]) (b:=3) rfl hU e1.1 e1.2)
   obtain ⟨N3,o2⟩:=CallsTo.from (JY (F:=KP) (by kernel_rfl) (H:=[bN n l,bI (wo t o),bN n l,bU us,bI (Q0 l t o i),bT s]) (b:=3) rfl hU e2.1 e2.2)
   have o1':∀kf,max N2 N3≤kf→_:=fun kf hk=>o1 kf (by omega)
   have o2':∀kf,max N2 N3≤kf→_:=fun kf hk=>o2 kf (by omega)
   have sT:Qw [bT s] [bT s]=true:=by simp only [Qw,sameL,G8,beq_self_eq_true,zF]
   have sU:Qw [bU us] [bU us]=true:=by simp only [Qw,sameL,same,WW Vv,beq_self_eq_true,zF]
   have sH:Qw [bN n l,bI (wo t o),bN n l,bU us,bI (Q0 l t o i),bT s] [bN n l,bI (wo t o),bN n l,bU us,bI (Q0 l t o i),bT s]=true:=QA sN (QA (Q3 _) (QA sN (QA sU (QA (Q3 _) sT))))
   have hs2:(YT ((QK Tp [bN n l,bI (wo t o),bN n l,bU us,bI (Q0 l t o i),bT s] 3 (.ptr 5 0 1 1)).map (fun v=>(v,([bN n l,bI (wo t o),bN n l,bU us,bI (Q0 l t o i),bT s]:Heap)))) ((QK Tp [bN n l,bI (wo t o),bN n l,bU us,bI (Q0 l t o i),bT s] 3 (.ptr 5 0 1 1)).map (fun v=>(v,([bN n l,bI (wo t o),bN n l,bU us,bI (Q0 l t o i),bT s]:Heap)))) [bN n l,bI (wo t o),bN n l,bU us,bI (Q0 l t o i),bT s] [bN n l,bI (wo t o),bN n l,bU us,bI (Q0 l t o i),bT s]&&true)=true:=by
    rw [lb]
    have:same (.int .i64 s.2.1) (.int .i64 s.2.1)=true:=Vv s.2.1
    simp only [zO,YT,this,sH,zF]
   by_cases cm:(i:Int)∈t
   ·rw [decide_eq_true cm] at c73
    rw [if_neg (fun h=>h.1 cm),qR] at his
    have s1:=QlR (F:=KP) 0 n (l.map Qa) (t.map Qb) o [bN n l,bI (wo t o),bN n l,bU us,bI (Q0 l t o i)] 3 4 (Q0 l t o i).length l.length i s.1 s.2.1 s.2.2 (by omega) g2 nv st c73 rfl
    rw [Qj (by omega)] at s1
    rw [his]
    exact s1
   rw [decide_eq_false cm] at c73
   by_cases cj:(QB l (wo t o)).getD s.1.toNat 0=(QB l (wo t o)).getD s.2.1.toNat 0
   ·rw [if_neg (fun h=>(hJ.1 h.2) cj),qR] at his
    have s1:=QlS (F:=KP) (max N2 N3) n (l.map Qa) (t.map Qb) o [bN n l,bI (wo t o),bN n l,bU us,bI (Q0 l t o i)] 3 4 (Q0 l t o i).length l.length i s.1 s.2.1 s.2.2 (by omega) g2 nv st c73 (QcW _) la o1' (QcX _) lb o2' cj hs2
    rw [Qj (by omega)] at s1
    rw [his]
    exact s1
   ·rw [if_pos ⟨cm,hJ.2 cj⟩] at his
    have ap:=Zz (H:=[bN n l,bI (wo t o),bN n l,bU us,bI (Q0 l t o i),bT s]) (b:=4) (o:=Q0 l t o i) rfl (by omega) (i:Int)
    rw [← his] at ap
    have s1:=QlT (F:=KP) (max N2 N3) n (l.map Qa) (t.map Qb) o [bN n l,bI (wo t o),bN n l,bU us,bI (Q0 l t o i)] 3 4 (Q0 l t o i).length l.length i s.1 s.2.1 s.2.2 (by omega) g2 nv st c73 (QcW _) la o1' (QcX _) lb o2' cj hs2 ap
    have el:(Q0 l t o (i+1)).length=(Q0 l t o i).length+1:=by rw [his];simp
    rw [Qj (by omega),← el] at s1
    exact s1) (fun i _=>by kernel_rfl) (fun i _=>by
     have hb:Wc ((De (Qt n l) (.a (t.map Qb)) (.i o) Ud (.imm .lit 1 []) (.q 3) (.sl 4 0 (Q0 l t o (i+1)).length none (Q0 l t o (i+1)).length 1) Ud Ud (.g (l.map Qa)) (.i (l.length:Int)) (.i ((i+1:Nat):Int))))=5:=by simp only [Wc,bnd,bndL,Qt];rfl
     show gc 5 (Wc ((De (Qt n l) (.a (t.map Qb)) (.i o) Ud (.imm .lit 1 []) (.q 3) (.sl 4 0 (Q0 l t o (i+1)).length none (Q0 l t o (i+1)).length 1) Ud Ud (.g (l.map Qa)) (.i (l.length:Int)) (.i ((i+1:Nat):Int))))) ([bN n l,bI (wo t o),bN n l,bU us,bI (Q0 l t o (i+1))]++[bT (l.getD i (0,0,0))])=_
     rw [hb]
     exact VX (H:=[bN n l,bI (wo t o),bN n l,bU us,bI (Q0 l t o (i+1))]) (by show max 0 (max 0 (max 0 (max 0 (max 0 (max 0 0)))))≤5;decide) (qC _)) (QlU (F:=KP) 0 n (l.map Qa) (t.map Qb) o [bN n l,bI (wo t o),bN n l,bU us,bI (Q0 l t o l.length)] 3 4 (Q0 l t o l.length).length l.length l.length 0 0 0 (by omega)) (by simp) (c:=sn 122 B59) (by kernel_rfl) (fun i _=>by kernel_rfl)
 have z:=QlV (F:=KP) 0 n (l.map Qa) (t.map Qb) o [bN n l,bI (wo t o),bN n l,bU us,bI (Q0 l t o l.length)] 3 4 (Q0 l t o l.length).length (y21:=.g (l.map Qa)) (y22:=.i (l.length:Int)) (y23:=.i (l.length:Int))
 refine ⟨_,_,_,.sl 4 0 (Q0 l t o l.length).length none (Q0 l t o l.length).length 1,sq (a) (sq (b) (sq (c) (sq (sq (d) (bke (c:=sn 61 B59) (lpi (e0:=(De (Qt n l) (.a (t.map Qb)) (.i o) (.q 0) (.imm .lit 1 []) (.q 3) (.s 4 0) Ud Ud (.g (l.map Qa)) (.i (l.length:Int)) (.i (0:Int)))) r (b:=sn 244 B59))) (c:=sn 30 B59)) (z) (c:=sn 15 B59)) (c:=sn 7 B59)) (c:=sn 3 B59)) (c:=B59),by simp,by simp only [Qc,Qro];rfl,?_⟩
 exact Vt (b:=4) rfl rfl
end Go.Proofs.Ytiejmoglooaalaa
end
section
open Go Go.HL
namespace Go.Proofs.Ytiejmoglooaalaa
set_option maxRecDepth 100000
set_option linter.unusedSectionVars false
open Go.Proofs.Try renaming prog → Tp
open Go.HL.HV renaming undef → Ud
section
variable {F:FuncId→Option (List HV→Option HV)}
noncomputable def B28:Code:=Try.f28.body.getD .skip
abbrev Dh (v0 v1 v2 v6 v7 v8:HV):Env:=[(0,v0),(1,v1),(2,v2),(6,v6),(7,v7),(8,v8)]
end
abbrev e28 (n:Int) (ls:List HV) (la:List HV) (u4 u5:HV):Env:=Dh (.i n) (.g ls) (.a la) (.bool false) u4 u5
section
variable {F:FuncId→Option (List HV→Option HV)}
variable (n:Int) (ls la:List HV)
include n ls la
theorem Qmj:RU F 28 2 B28 [(0,.i n),(1,.g ls),(2,.a la)] [] .normal (e28 n ls la Ud Ud) [] :=
 hx 0 60 []
end
section
variable {F:FuncId→Option (List HV→Option HV)}
variable (n:Int) (ls la:List HV)
include n ls la
theorem Qmk (H:Heap) (y7 y8:HV:=Ud): RU F 28 12 B28 (e28 n ls la y7 y8) H .normal (e28 n ls la (.i 0) y8) H :=
 hx 0 60 []
theorem Qml (H:Heap) (i:Nat) (x z:Int) (g0:(i:Int)<(la.length:Int)) (g1:IX 24 (.a la) (.n i) (.vptr (.i x))) (g2:x<0) (y8:HV:=Ud): RU F 28 52 B28 (e28 n ls la (.n i) y8) H .ret (e28 n ls la (.n i) y8) H :=
 hx 0 60 [jT 2 3 H g0,jO 4 2 H g1,jT 4 4 H g2]
theorem Qmm (H:Heap) (i:Nat) (x z:Int) (g0:(i:Int)<(la.length:Int)) (g1:IX 24 (.a la) (.n i) (.vptr (.i x))) (g2:¬(x<0)) (g3:IX 24 (.a la) (.n i) (.vptr (.i x))) (g4:(ls.length:Int)≤x) (y8:HV:=Ud): RU F 28 52 B28 (e28 n ls la (.n i) y8) H .ret (e28 n ls la (.n i) y8) H :=
 hx 0 60 [jT 2 3 H g0,jO 4 2 H g1,jF 4 4 H g2,jO 4 8 H g3,jT 4 12 H g4]
theorem Qmn (H:Heap) (i:Nat) (x z:Int) (g0:(i:Int)<(la.length:Int)) (g1:IX 24 (.a la) (.n i) (.vptr (.i x))) (g2:¬(x<0)) (g3:IX 24 (.a la) (.n i) (.vptr (.i x))) (g4:¬((ls.length:Int)≤x)) (g5:0<(i:Int)) (g6:IX 24 (.a la) (.i (qA.wrap ((i:Int)-1))) (.vptr (.i z))) (g7:IX 24 (.a la) (.n i) (.vptr (.i x))) (g8:x≤z) (y8:HV:=Ud): RU F 28 52 B28 (e28 n ls la (.n i) y8) H .ret (e28 n ls la (.n i) y8) H :=
 hx 0 60 [jT 2 3 H g0,jO 4 2 H g1,jF 4 4 H g2,jO 4 8 H g3,jF 4 12 H g4,jT 4 16 H g5,jO 4 21 H g6,jO 4 25 H g7,jT 4 27 H g8]
theorem Qmo (H:Heap) (i:Nat) (x z:Int) (g0:(i:Int)<(la.length:Int)) (g1:IX 24 (.a la) (.n i) (.vptr (.i x))) (g2:¬(x<0)) (g3:IX 24 (.a la) (.n i) (.vptr (.i x))) (g4:¬((ls.length:Int)≤x)) (g5:0<(i:Int)) (g6:IX 24 (.a la) (.i (qA.wrap ((i:Int)-1))) (.vptr (.i z))) (g7:IX 24 (.a la) (.n i) (.vptr (.i x))) (g8:¬(x≤z)) (y8:HV:=Ud): RU F 28 52 B28 (e28 n ls la (.n i) y8) H .normal (e28 n ls la (.i (qA.wrap ((i:Int)+1))) y8) H :=
 hx 0 60 [jT 2 3 H g0,jO 4 2 H g1,jF 4 4 H g2,jO 4 8 H g3,jF 4 12 H g4,jT 4 16 H g5,jO 4 21 H g6,jO 4 25 H g7,jF 4 27 H g8]
theorem Qmp (H:Heap) (i:Nat) (x z:Int) (g0:(i:Int)<(la.length:Int)) (g1:IX 24 (.a la) (.n i) (.vptr (.i x))) (g2:¬(x<0)) (g3:IX 24 (.a la) (.n i) (.vptr (.i x))) (g4:¬((ls.length:Int)≤x)) (g5:¬(0<(i:Int))) (y8:HV:=Ud): RU F 28 52 B28 (e28 n ls la (.n i) y8) H .normal (e28 n ls la (.i (qA.wrap ((i:Int)+1))) y8) H :=
 hx 0 60 [jT 2 3 H g0,jO 4 2 H g1,jF 4 4 H g2,jO 4 8 H g3,jF 4 12 H g4,jF 4 16 H g5]
theorem Qmq (H:Heap) (i:Nat) (x z:Int) (g0:¬((i:Int)<(la.length:Int))) (y8:HV:=Ud): RU F 28 52 B28 (e28 n ls la (.n i) y8) H (.exit 0) (e28 n ls la (.n i) y8) H :=
 hx 0 60 [jF 2 3 H g0]
theorem Qmr (H:Heap) (sb k gb c:Nat) {H0:Heap} (g0:CM F 50 [.i n,.g ls,.a la] H (.tuple [.s sb k,.s gb c]) H0) (y7 y8:HV:=Ud): RU F 28 14 B28 (e28 n ls la y7 y8) H .normal (e28 n ls la y7 (.s sb k)) H0 :=
 hx 0 60 [jD 6 3 g0]
theorem Qms (H:Heap) (sb k:Nat) (g0:(la.length:Int)=qA.wrap (n-1)) (g1:(k:Int)=qA.wrap (n-1)) (y7:HV:=Ud): RU F 28 15 B28 (e28 n ls la y7 (.s sb k)) H .ret (Dh (.i n) (.g ls) (.a la) (.bool true) y7 (.s sb k)) H :=
 hx 0 60 [jT 7 4 H g0,jT 7 10 H g1]
theorem Qmt (H:Heap) (sb k:Nat) (g0:(la.length:Int)=qA.wrap (n-1)) (g1:¬((k:Int)=qA.wrap (n-1))) (y7:HV:=Ud): RU F 28 15 B28 (e28 n ls la y7 (.s sb k)) H .ret (e28 n ls la y7 (.s sb k)) H :=
 hx 0 60 [jT 7 4 H g0,jF 7 10 H g1]
theorem Qmu (H:Heap) (sb k:Nat) (g0:¬((la.length:Int)=qA.wrap (n-1))) (y7:HV:=Ud): RU F 28 15 B28 (e28 n ls la y7 (.s sb k)) H .ret (e28 n ls la y7 (.s sb k)) H :=
 hx 0 60 [jF 7 4 H g0]
end
section
variable {F:FuncId→Option (List HV→Option HV)}
noncomputable def B36:Code:=Try.f36.body.getD .skip
abbrev Gq (v0 v1 v2 v6 v7 v8 v9:HV):Env:=[(0,v0),(1,v1),(2,v2),(6,v6),(7,v7),(8,v8),(9,v9)]
end
abbrev e36 (la:List HV) (o:Int) (p:Int) (u4 u5 u6:HV):Env:=Gq (.a la) (.i o) (.i p) (.imm .lit 1 []) u4 u5 u6
section
variable {F:FuncId→Option (List HV→Option HV)}
variable (la:List HV) (o p:Int)
include la o p
theorem QgF:RU F 36 2 B36 [(0,.a la),(1,.i o),(2,.i p)] [] .normal (e36 la o p Ud Ud Ud) [] :=
 hx 0 60 []
end
section
variable {F:FuncId→Option (List HV→Option HV)}
variable (la:List HV) (o p:Int)
include la o p
theorem QgG (H:Heap) {v0:HV} {H0:Heap} (g0:some (HV.sl H.length 0 0 none 0 1,H++[Blk.b []])=some (v0,H0)) (y7 y8 y9:HV:=Ud): RU F 36 6 B36 (e36 la o p y7 y8 y9) H .normal (e36 la o p v0 y8 y9) H0 :=
 hx 0 60 [jR 1 0 g0]
theorem QgH (H:Heap) (ob m:Nat) (y8 y9:HV:=Ud): RU F 36 14 B36 (e36 la o p (.s ob m) y8 y9) H .normal (e36 la o p (.s ob m) (.bool false) y9) H :=
 hx 0 60 []
theorem QgI (H:Heap) (ob m:Nat) (y9:HV:=Ud): RU F 36 60 B36 (e36 la o p (.s ob m) (.bool false) y9) H .normal (e36 la o p (.s ob m) (.bool false) (.i 0)) H :=
 hx 0 60 []
theorem Qew (H:Heap) (ob m i:Nat) (x:Int) {H0:Heap} {v0:HV} (g0:(i:Int)<(la.length:Int)) (g1:IX 24 (.a la) (.n i) (.vptr (.i x))) (g2:p<x) (g3:W5 H 1 8 (.s ob m) [.i p]=some (v0,H0)) (g4:IX 24 (.a la) (.n i) (.vptr (.i x))) (g5:x=o): RU F 36 244 B36 (e36 la o p (.s ob m) (.bool false) (.n i)) H .normal (e36 la o p v0 (.bool true) (.i (qA.wrap ((i:Int)+1)))) H0 :=
 hx 0 60 [jT 4 3 H g0,jO 6 5 H g1,jT 6 8 H g2,jR 7 3 g3,jO 9 2 H0 g4,jB 9 5 H0 (congrArg not (decide_eq_true g5))]
theorem Qex (H:Heap) (ob m i:Nat) (x:Int) {H0:Heap} {v0:HV} {H1:Heap} {v1:HV} (g0:(i:Int)<(la.length:Int)) (g1:IX 24 (.a la) (.n i) (.vptr (.i x))) (g2:p<x) (g3:W5 H 1 8 (.s ob m) [.i p]=some (v0,H0)) (g4:IX 24 (.a la) (.n i) (.vptr (.i x))) (g5:¬(x=o)) (g6:IX 24 (.a la) (.n i) (.vptr (.i x))) (g7:W5 H0 1 8 (v0) [.i x]=some (v1,H1)): RU F 36 244 B36 (e36 la o p (.s ob m) (.bool false) (.n i)) H .normal (e36 la o p v1 (.bool true) (.i (qA.wrap ((i:Int)+1)))) H1 :=
 hx 0 60 [jT 4 3 H g0,jO 6 5 H g1,jT 6 8 H g2,jR 7 3 g3,jO 9 2 H0 g4,jB 9 5 H0 (congrArg not (decide_eq_false g5)),jO 10 3 H0 g6,jR 10 6 g7]
theorem Qey (H:Heap) (ob m i:Nat) (x:Int) (g0:(i:Int)<(la.length:Int)) (g1:IX 24 (.a la) (.n i) (.vptr (.i x))) (g2:¬(p<x)) (g3:IX 24 (.a la) (.n i) (.vptr (.i x))) (g4:x=o): RU F 36 244 B36 (e36 la o p (.s ob m) (.bool false) (.n i)) H .normal (e36 la o p (.s ob m) (.bool false) (.i (qA.wrap ((i:Int)+1)))) H :=
 hx 0 60 [jT 4 3 H g0,jO 6 5 H g1,jF 6 8 H g2,jO 9 2 H g3,jB 9 5 H (congrArg not (decide_eq_true g4))]
theorem Qez (H:Heap) (ob m i:Nat) (x:Int) {H0:Heap} {v0:HV} (g0:(i:Int)<(la.length:Int)) (g1:IX 24 (.a la) (.n i) (.vptr (.i x))) (g2:¬(p<x)) (g3:IX 24 (.a la) (.n i) (.vptr (.i x))) (g4:¬(x=o)) (g5:IX 24 (.a la) (.n i) (.vptr (.i x))) (g6:W5 H 1 8 (.s ob m) [.i x]=some (v0,H0)): RU F 36 244 B36 (e36 la o p (.s ob m) (.bool false) (.n i)) H .normal (e36 la o p v0 (.bool false) (.i (qA.wrap ((i:Int)+1)))) H0 :=
 hx 0 60 [jT 4 3 H g0,jO 6 5 H g1,jF 6 8 H g2,jO 9 2 H g3,jB 9 5 H (congrArg not (decide_eq_false g4)),jO 10 3 H g5,jR 10 6 g6]
theorem QeA (H:Heap) (ob m i:Nat) (x:Int) (g0:¬((i:Int)<(la.length:Int))): RU F 36 244 B36 (e36 la o p (.s ob m) (.bool false) (.n i)) H (.exit 0) (e36 la o p (.s ob m) (.bool false) (.n i)) H :=
 hx 0 60 [jF 4 3 H g0]
theorem QeB (H:Heap) (ob m i:Nat) (x:Int) (g0:(i:Int)<(la.length:Int)) (g1:IX 24 (.a la) (.n i) (.vptr (.i x))) (g2:x=o): RU F 36 244 B36 (e36 la o p (.s ob m) (.bool true) (.n i)) H .normal (e36 la o p (.s ob m) (.bool true) (.i (qA.wrap ((i:Int)+1)))) H :=
 hx 0 60 [jT 4 3 H g0,jO 9 2 H g1,jB 9 5 H (congrArg not (decide_eq_true g2))]
theorem QeC (H:Heap) (ob m i:Nat) (x:Int) {H0:Heap} {v0:HV} (g0:(i:Int)<(la.length:Int)) (g1:IX 24 (.a la) (.n i) (.vptr (.i x))) (g2:¬(x=o)) (g3:IX 24 (.a la) (.n i) (.vptr (.i x))) (g4:W5 H 1 8 (.s ob m) [.i x]=some (v0,H0)): RU F 36 244 B36 (e36 la o p (.s ob m) (.bool true) (.n i)) H .normal (e36 la o p v0 (.bool true) (.i (qA.wrap ((i:Int)+1)))) H0 :=
 hx 0 60 [jT 4 3 H g0,jO 9 2 H g1,jB 9 5 H (congrArg not (decide_eq_false g2)),jO 10 3 H g3,jR 10 6 g4]
theorem QeD (H:Heap) (ob m i:Nat) (x:Int) (g0:¬((i:Int)<(la.length:Int))): RU F 36 244 B36 (e36 la o p (.s ob m) (.bool true) (.n i)) H (.exit 0) (e36 la o p (.s ob m) (.bool true) (.n i)) H :=
 hx 0 60 [jF 4 3 H g0]
theorem QeE (H:Heap) (ob m:Nat) {H0:Heap} {v0:HV} (g0:W5 H 1 8 (.s ob m) [.i p]=some (v0,H0)) (y9:HV:=Ud): RU F 36 31 B36 (e36 la o p (.s ob m) (.bool false) y9) H .ret (Gq (.a la) (.i o) (.i p) v0 v0 (.bool false) y9) H0 :=
 hx 0 60 [jR 12 3 g0]
theorem QeF (H:Heap) (ob m:Nat) (y9:HV:=Ud): RU F 36 31 B36 (e36 la o p (.s ob m) (.bool true) y9) H .ret (Gq (.a la) (.i o) (.i p) (.s ob m) (.s ob m) (.bool true) y9) H :=
 hx 0 60 []
end
end Go.Proofs.Ytiejmoglooaalaa
end
section
open Go Go.HL
namespace Go.Proofs.Ytiejmoglooaalaa
set_option linter.unusedSectionVars false
open Go.Proofs.Try renaming prog → Tp
open Go.HL.HV renaming undef → Ud
def okA (m:Nat) (t:List Int) (i:Nat):Bool:=decide ((0≤t.getD i 0∧t.getD i 0<(m:Int))∧(i=0∨t.getD (i-1) 0<t.getD i 0))
def Di (m:Nat) (t:List Int):Bool:=(fN (fun i=>!okA m t i) t.length 0).isNone
def isT (n:Int) (l:List St) (t:List Int):Bool:=Di l.length t&&(decide ((t.length:Int)=n-1)&&decide (((ZZ l t).length:Int)=n-1))
def QbS:List HV→Option HV:=f3 kI kS kL fun n l t=>if (0≤n∧n≤16)∧Ju n l=true∧t.length≤500∧l.length≤500 then some (.bool (isT n l t)) else none
theorem QbT:Try.f28.results.toList=[.tmp 6]:=by kernel_rfl
def J7:FuncId→Option (List HV→Option HV):=fun g=>if g==50 then some Ch else none
theorem QgJ (n:Nat):Ql Tp (Qs Tp (plF J7) n):=Qz _ (fun g f h=>by
 unfold J7 at h
 split at h
 ·rename_i hg;cases h;rw [eq_of_beq hg];exact SK
 ·cases h) n
theorem QbU {m:Nat} {t:List Int} (h:Di m t=true):inR m t=true:=by
 refine inR_iff.2 fun k hk=>?_
 obtain ⟨j,hj,rfl⟩:=jQ hk
 have hn:fN (fun i=>!okA m t i) t.length 0=none:=by
  unfold Di at h
  cases hf:fN (fun i=>!okA m t i) t.length 0 with
  | none=>rfl
  | some _=>rw [hf] at h;cases h
 have:=V0 hn j (jE _) (by omega)
 simp only [Bool.not_eq_false'] at this
 have h2:=(of_decide_eq_true this).1
 rwa [QD hj] at h2
theorem QeG:QP Tp 28 QbS:=by
 refine Qn (pol:=plF J7) (fn:=Try.f28) (cd:=B28) Qh QgJ (by kernel_rfl) (by kernel_rfl) (Zh J7 _ _ (by kernel_rfl)) (by kernel_rfl) ?_
 intro args res h
 obtain ⟨n,l,t,rfl,hq⟩:=Vu h
 split at hq
 case isFalse=>cases hq
 rename_i hc
 obtain ⟨⟨n0,n1⟩,he,htl,hll⟩:=hc
 cases hq
 have a:=Qmj (F:=J7) n (l.map Qa) (t.map Qb)
 have b:=Qmk (F:=J7) n (l.map Qa) (t.map Qb) []
 have lm:((t.map Qb).length:Int)=(t.length:Int):=by rw [qD]
 have ll:((l.map Qa).length:Int)=(l.length:Int):=by rw [qD]
 have pass:∀i,i<t.length→okA l.length t i=true→RT (plF J7) 28 (sn 52 B28) ((Dh (.i n) (.g (l.map Qa)) (.a (t.map Qb)) (.bool false) (.i (i:Int)) Ud)) [] .normal ((Dh (.i n) (.g (l.map Qa)) (.a (t.map Qb)) (.bool false) (.i ((i+1:Nat):Int)) Ud)) []:=fun i hi ho=>by
  obtain ⟨⟨h1,h2⟩,h3⟩:=of_decide_eq_true ho
  by_cases hz:i=0
  ·have s:=Qmp (F:=J7) n (l.map Qa) (t.map Qb) [] i (t.getD i 0) 0 (by omega) (gx hi) (by omega) (gx hi) (by omega) (by omega)
   rw [Qj (by omega)] at s
   exact s
  ·have h3:=h3.resolve_left hz
   have g:=gx (l:=t) (y:=i-1) (by omega)
   rw [← Gb (j:=i) (by omega) (by omega)] at g
   have s:=Qmo (F:=J7) n (l.map Qa) (t.map Qb) [] i (t.getD i 0) (t.getD (i-1) 0) (by omega) (gx hi) (by omega) (gx hi) (by omega) (by omega) g (gx hi) (by omega)
   rw [Qj (by omega)] at s
   exact s
 cases hf:fN (fun i=>!okA l.length t i) t.length 0 with
 | some m =>
  obtain ⟨_,h1,h2,h3⟩:=XT hf
  have hm:m<t.length:=by omega
  have hA:Di l.length t=false:=by rw [Di,hf];rfl
  have ho:¬((0≤t.getD m 0∧t.getD m 0<(l.length:Int))∧(m=0∨t.getD (m-1) 0<t.getD m 0)):=by
   have:okA l.length t m=false:=by simpa using h2
   exact of_decide_eq_false this
  have out:∃E',RT (plF J7) 28 (sn 52 B28) ((Dh (.i n) (.g (l.map Qa)) (.a (t.map Qb)) (.bool false) (.i (m:Int)) Ud)) [] .ret E' []∧E'.get 6=.bool false:=by
   by_cases k1:t.getD m 0<0
   ·exact ⟨_,Qml (F:=J7) n (l.map Qa) (t.map Qb) [] m (t.getD m 0) 0 (by omega) (gx hm) k1,rfl⟩
   by_cases k2:(l.length:Int)≤t.getD m 0
   ·exact ⟨_,Qmm (F:=J7) n (l.map Qa) (t.map Qb) [] m (t.getD m 0) 0 (by omega) (gx hm) k1 (gx hm) (by omega),rfl⟩
   have hm0:m≠0:=fun c=>ho ⟨by omega,.inl c⟩
   have hm1:¬t.getD (m-1) 0<t.getD m 0:=fun c=>ho ⟨by omega,.inr c⟩
   have g:=gx (l:=t) (y:=m-1) (by omega)
   rw [← Gb (j:=m) (by omega) (by omega)] at g
   exact ⟨_,Qmn (F:=J7) n (l.map Qa) (t.map Qb) [] m (t.getD m 0) (t.getD (m-1) 0) (by omega) (gx hm) k1 (gx hm) (by omega) (by omega) g (gx hm) (by omega),rfl⟩
  obtain ⟨E',o1,o2⟩:=out
  have r:=Q7 (pol':=plF J7) (f:=28) (E:=fun i=>(Dh (.i n) (.g (l.map Qa)) (.a (t.map Qb)) (.bool false) (.i (i:Int)) Ud)) (Hs:=fun _=>[]) m (fun i hi=>pass i (by omega) (by have:=h3 i (jE _) hi;simpa using this)) (fun i _=>by kernel_rfl) (fun i _=>QC _ rfl) o1 (by simp) (c:=sn 26 B28) (by kernel_rfl) (fun i _=>by kernel_rfl)
  refine ⟨_,_,_,.bool false,sq (a) (sqo (sq (b) (RunsTo.block_ret (i:=0) (c:=sn 13 B28) (r) (by kernel_rfl)) (c:=sn 6 B28)) (c:=sn 3 B28) (b:=sn 7 B28)) (c:=B28),by simp,by simp only [Qc,QbT,mapO,Wv,o2],?_⟩
  rw [isT,hA];rfl
 | none =>
  have h3:=V0 hf
  have hA:Di l.length t=true:=by rw [Di,hf];rfl
  have hin:=QbU hA
  have r:=Q7 (pol':=plF J7) (f:=28) (E:=fun i=>(Dh (.i n) (.g (l.map Qa)) (.a (t.map Qb)) (.bool false) (.i (i:Int)) Ud)) (Hs:=fun _=>[]) t.length (fun i hi=>pass i hi (by have:=h3 i (jE _) (by omega);simpa using this)) (fun i _=>by kernel_rfl) (fun i _=>QC _ rfl) (Qmq (F:=J7) n (l.map Qa) (t.map Qb) [] t.length 0 0 (by omega)) (by simp) (c:=sn 26 B28) (by kernel_rfl) (fun i _=>by kernel_rfl)
  have c50:=at3 (pol':=plF J7) (g:=50) (c1:=kI) (c2:=kS) (c3:=kL) (f:=fun n l t=>if (0≤n∧n≤16)∧Ju n l=true∧inR l.length t=true∧t.length≤500∧l.length≤500 then some (.tuple [.own 1 ((ZZ l t).map Qb),.own 1 ((QT n.toNat l t).map Qb)]) else none) (H:=[]) (by kernel_rfl) (ShI _ n) (Jf _ l) (VT _ t) (if_pos ⟨⟨n0,n1⟩,he,hin,htl,hll⟩)
  rw [QbL] at c50
  have d:=Qmr (F:=J7) n (l.map Qa) (t.map Qb) [] 0 (ZZ l t).length _ _ (y7:=.i (t.length:Int)) c50
  have hw:qA.wrap (n-1)=n-1:=WN (by omega) (by omega)
  rw [isT,hA,wD]
  by_cases k1:(t.length:Int)=n-1
  ·by_cases k2:((ZZ l t).length:Int)=n-1
   ·have z:=Qms (F:=J7) n (l.map Qa) (t.map Qb) ([]++[bI (ZZ l t)]++[bI (QT n.toNat l t)]) 0 (ZZ l t).length (y7:=.i (t.length:Int)) (by rw [hw];omega) (by rw [hw];exact k2)
    rw [decide_eq_true k1,decide_eq_true k2]
    exact ⟨_,_,_,.bool true,sq (a) (sq (sq (b) (bke (c:=sn 13 B28) (r)) (c:=sn 6 B28)) (sq (d) (z) (c:=sn 7 B28)) (c:=sn 3 B28)) (c:=B28),by simp,by simp only [Qc,QbT];rfl,rfl⟩
   ·have z:=Qmt (F:=J7) n (l.map Qa) (t.map Qb) ([]++[bI (ZZ l t)]++[bI (QT n.toNat l t)]) 0 (ZZ l t).length (y7:=.i (t.length:Int)) (by rw [hw];omega) (by rw [hw];exact k2)
    rw [decide_eq_true k1,decide_eq_false k2]
    exact ⟨_,_,_,.bool false,sq (a) (sq (sq (b) (bke (c:=sn 13 B28) (r)) (c:=sn 6 B28)) (sq (d) (z) (c:=sn 7 B28)) (c:=sn 3 B28)) (c:=B28),by simp,by simp only [Qc,QbT];rfl,rfl⟩
  ·have z:=Qmu (F:=J7) n (l.map Qa) (t.map Qb) ([]++[bI (ZZ l t)]++[bI (QT n.toNat l t)]) 0 (ZZ l t).length (y7:=.i (t.length:Int)) (by rw [hw];omega)
   rw [decide_eq_false k1]
   exact ⟨_,_,_,.bool false,sq (a) (sq (sq (b) (bke (c:=sn 13 B28) (r)) (c:=sn 6 B28)) (sq (d) (z) (c:=sn 7 B28)) (c:=sn 3 B28)) (c:=B28),by simp,by simp only [Qc,QbT];rfl,rfl⟩
def sw1 (p:Int) (s:List Int×Bool) (x:Int):List Int×Bool:=if s.2=false∧p<x then (s.1++[p],true) else s
def swS (o p:Int) (s:List Int×Bool) (x:Int):List Int×Bool:=if x=o then sw1 p s x else ((sw1 p s x).1++[x],(sw1 p s x).2)
def swF (o p:Int) (t:List Int):List Int×Bool:=t.foldl (swS o p) ([],false)
def swT (o p:Int) (t:List Int):List Int:=if (swF o p t).2=true then (swF o p t).1 else (swF o p t).1++[p]
theorem Dj (o p:Int) (t:List Int) {i:Nat} (h:i<t.length):swF o p (t.take (i+1))=swS o p (swF o p (t.take i)) (t.getD i 0):=by
 rw [swF,Q5 h,List.foldl_append];rfl
theorem swp_len (o p:Int) (t:List Int):∀i,i≤t.length→(swF o p (t.take i)).1.length≤2*i:=by
 intro i
 induction i with
 | zero=>intro _;simp [swF]
 | succ i ih =>
  intro hi
  have h:=ih (by omega)
  rw [Dj o p t (by omega),swS,sw1]
  split <;> split <;> simp <;> omega
def Gr:List HV→Option HV:=f3 kL kI kI fun t o p=>if t.length≤400 then some (.own 1 ((swT o p t).map Qb)) else none
theorem QiB:Try.f36.results.toList=[.tmp 6]:=by kernel_rfl
theorem QaY:QP Tp 36 Gr:=by
 refine Qn (pol:=plF fun _=>none) (fn:=Try.f36) (cd:=B36) Qh (Qz (fun _=>none) (fun g f h=>by cases h)) (by kernel_rfl) (by kernel_rfl) (Zh (fun _=>none) _ _ (by kernel_rfl)) (by kernel_rfl) ?_
 intro args res h
 obtain ⟨t,o,p,rfl,hq⟩:=Vu h
 split at hq
 case isFalse=>cases hq
 rename_i hl
 cases hq
 have lm:((t.map Qb).length:Int)=(t.length:Int):=by rw [qD]
 have a:=QgF (F:=fun _=>none) (t.map Qb) o p
 have b:=QgG (F:=fun _=>none) (t.map Qb) o p [] rfl
 have c:=QgH (F:=fun _=>none) (t.map Qb) o p [bI []] 0 0
 have d:=QgI (F:=fun _=>none) (t.map Qb) o p [bI []] 0 0
 have r:=Q7 (pol':=plF fun _=>none) (f:=36) (E:=fun i=>(Gq (.a (t.map Qb)) (.i o) (.i p) (.imm .lit 1 []) (.sl 0 0 (swF o p (t.take i)).1.length none (swF o p (t.take i)).1.length 1) (.bool (swF o p (t.take i)).2) (.i (i:Int)))) (Hs:=fun i=>[bI (swF o p (t.take i)).1]) t.length (E0:=fun i=>(Gq (.a (t.map Qb)) (.i o) (.i p) (.imm .lit 1 []) (.sl 0 0 (swF o p (t.take (i+1))).1.length none (swF o p (t.take (i+1))).1.length 1) (.bool (swF o p (t.take (i+1))).2) (.i ((i+1:Nat):Int)))) (H1:=fun i=>[bI (swF o p (t.take (i+1))).1]) (x:=.exit 0)
  (E':=(Gq (.a (t.map Qb)) (.i o) (.i p) (.imm .lit 1 []) (.sl 0 0 (swF o p (t.take t.length)).1.length none (swF o p (t.take t.length)).1.length 1) (.bool (swF o p (t.take t.length)).2) (.i ((t.length:Nat):Int)))) (H':=[bI (swF o p (t.take t.length)).1])
  (fun i hi=>by
   have hs:=Dj o p t hi
   have hn:=swp_len o p t i (by omega)
   have g:=gx (l:=t) hi
   have app:∀(A:List Int) (x:Int),A.length≤990→W5 [bI A] 1 8 (.sl 0 0 A.length none A.length 1) [.int .i64 x]=some (.sl 0 0 (A.length+1) none (A.length+1) 1,[bI (A++[x])]):=fun A x hA=>Zz (H:=[bI A]) (b:=0) rfl hA x
   generalize t.getD i 0=x at *
   generalize hF:swF o p (t.take i)=s at *
   obtain ⟨A,D⟩:=s
   rw [hs]
   have hA:A.length≤900:=by have:A.length≤2*i:=hn;omega
   have w:=Qj (j:=i) (by omega)
   cases D with
   | true =>
    have e1:sw1 p (A,true) x=(A,true):=if_neg (fun h=>by cases h.1)
    by_cases c1:x=o
    ·have e2:swS o p (A,true) x=(A,true):=by rw [swS,if_pos c1,e1]
     have s:=QeB (F:=fun _=>none) (t.map Qb) o p [bI A] 0 A.length i x (by omega) g c1
     rw [w] at s;rw [e2];exact s
    ·have e2:swS o p (A,true) x=(A++[x],true):=by rw [swS,if_neg c1,e1]
     have s:=QeC (F:=fun _=>none) (t.map Qb) o p [bI A] 0 A.length i x (by omega) g c1 g (app A x (by omega))
     rw [w] at s;rw [e2];simp only [qB,qG];exact s
   | false =>
    by_cases c0:p<x
    ·have e1:sw1 p (A,false) x=(A++[p],true):=if_pos ⟨rfl,c0⟩
     by_cases c1:x=o
     ·have e2:swS o p (A,false) x=(A++[p],true):=by rw [swS,if_pos c1,e1]
      have s:=Qew (F:=fun _=>none) (t.map Qb) o p [bI A] 0 A.length i x (by omega) g c0 (app A p (by omega)) g c1
      rw [w] at s;rw [e2];simp only [qB,qG];exact s
     ·have e2:swS o p (A,false) x=(A++[p]++[x],true):=by rw [swS,if_neg c1,e1]
      have ap2:=app (A++[p]) x (by rw [qB,qG];omega)
      rw [qB,qG] at ap2
      have s:=Qex (F:=fun _=>none) (t.map Qb) o p [bI A] 0 A.length i x (by omega) g c0 (app A p (by omega)) g c1 g ap2
      rw [w] at s;rw [e2];simp only [qB,qG];exact s
    ·have e1:sw1 p (A,false) x=(A,false):=if_neg (fun h=>c0 h.2)
     by_cases c1:x=o
     ·have e2:swS o p (A,false) x=(A,false):=by rw [swS,if_pos c1,e1]
      have s:=Qey (F:=fun _=>none) (t.map Qb) o p [bI A] 0 A.length i x (by omega) g c0 g c1
      rw [w] at s;rw [e2];exact s
     ·have e2:swS o p (A,false) x=(A++[x],false):=by rw [swS,if_neg c1,e1]
      have s:=Qez (F:=fun _=>none) (t.map Qb) o p [bI A] 0 A.length i x (by omega) g c0 g c1 g (app A x (by omega))
      rw [w] at s;rw [e2];simp only [qB,qG];exact s) (fun i _=>by kernel_rfl) (fun i _=>QC _ rfl)
  (by
   generalize swF o p (t.take t.length)=s
   obtain ⟨A,D⟩:=s
   cases D with
   | true=>exact QeD (F:=fun _=>none) (t.map Qb) o p [bI A] 0 A.length t.length 0 (by omega)
   | false=>exact QeA (F:=fun _=>none) (t.map Qb) o p [bI A] 0 A.length t.length 0 (by omega)) (by simp) (c:=sn 122 B36) (by kernel_rfl) (fun i _=>by kernel_rfl)
 have hn:=swp_len o p t t.length (qC _)
 rw [qK] at r hn
 rw [swT]
 generalize swF o p t=s at *
 obtain ⟨A,D⟩:=s
 have hA:A.length≤900:=by have:A.length≤2*t.length:=hn;omega
 cases D with
 | true =>
  have z:=QeF (F:=fun _=>none) (t.map Qb) o p [bI A] 0 A.length (y9:=.i (t.length:Int))
  refine ⟨_,_,_,.sl 0 0 A.length none A.length 1,sq (a) (sq (b) (sq (c) (sq (sq (d) (bke (c:=sn 61 B36) (r)) (c:=sn 30 B36)) (z) (c:=sn 15 B36)) (c:=sn 7 B36)) (c:=sn 3 B36)) (c:=B36),by simp,by simp only [Qc,QiB];rfl,?_⟩
  exact Vt (b:=0) rfl rfl
 | false =>
  have z:=QeE (F:=fun _=>none) (t.map Qb) o p [bI A] 0 A.length (y9:=.i (t.length:Int)) (Zz (H:=[bI A]) (b:=0) rfl (by omega) p)
  refine ⟨_,_,_,.sl 0 0 (A.length+1) none (A.length+1) 1,sq (a) (sq (b) (sq (c) (sq (sq (d) (bke (c:=sn 61 B36) (r)) (c:=sn 30 B36)) (z) (c:=sn 15 B36)) (c:=sn 7 B36)) (c:=sn 3 B36)) (c:=B36),by simp,by simp only [Qc,QiB];rfl,?_⟩
  exact Vt (b:=0) (o:=A++[p]) rfl (by simp)
theorem XV (l:List St) (t:List Int) (k:Int):tkT l (t++[k])=if (QB l t).getD (sA l k).toNat 0≠(QB l t).getD (sB l k).toNat 0 then tkT l t++[k] else tkT l t:=by
 have a:=ZP l (t++[k]) (i:=t.length) (by simp)
 have g0:(t++[k]).getD t.length 0=k:=by simp [qV]
 rw [jJ (by simp),g0,zI] at a
 exact a
theorem QiC (l:List St) (t:List Int):(tkT l t).length≤t.length:=Y2 l t
theorem mem_wo {t:List Int} {v x:Int}:x∈wo t v↔x∈t∧x≠v:=by simp [wo,qZ]
theorem Co {t:List Int} (hn:t.Nodup) {k:Int} (hk:k∈t):t.length=(wo t k).length+1:=by
 have:=KN (p:=fun _=>true) (q:=fun x=>decide (x≠k)) hn hk rfl (fun y _ hy=>decide_eq_true hy) (by simp)
 rw [List.filter_eq_self.2 fun _ _=>rfl] at this
 exact this
section
variable {l:List St} (he:Jm l=true) {t:List Int} (ht:∀k∈t,0≤k∧k<(l.length:Int)) (hn:t.Nodup) (hf:(tkT l t).length=t.length)
include he ht hn hf
theorem Dk {k:Int} (hk:k∈t):(tkT l (wo t k)).length+1=t.length∧Q4 l t k k:=by
 have hm:∀x,x∈t↔x∈wo t k++[k]:=fun x=>by
  rw [qM,mem_wo,zT]
  by_cases c:x=k
  ·subst c;simp [hk]
  ·simp [c]
 have h1:=Wi he ht hm
 rw [hf,XV] at h1
 have h2:=Co hn hk
 have h3:=QiC l (wo t k)
 split at h1
 ·rename_i c
  rw [qB,qG] at h1
  exact ⟨h1.symm,c⟩
 ·omega
theorem SR {k j:Int} (hk:k∈t) (hj:0≤j∧j<(l.length:Int)) {s:List Int} (hs:∀x,x∈s↔x∈wo t k++[j]):(tkT l s).length=t.length↔Q4 l t k j:=by
 have hin:∀x∈wo t k++[j],0≤x∧x<(l.length:Int):=fun x hx=>by
  rcases List.mem_append.1 hx with h | h
  ·exact ht x (mem_wo.1 h).1
  ·rw [List.mem_singleton.1 h];exact hj
 have h1:=Wi he (t:=s) (t':=wo t k++[j]) (fun x hx=>hin x ((hs x).1 hx)) hs
 have h2:=(Dk he ht hn hf hk).1
 rw [h1,XV]
 split
 ·rename_i c
  rw [qB,qG]
  exact ⟨fun _=>c,fun _=>by omega⟩
 ·rename_i c
  exact ⟨fun h=>by omega,fun h=>absurd h c⟩
end
theorem Qmv {t:List Int} {o p:Int} (ha:t.Pairwise (· < ·)) (hp:p∉t):∀i,i≤t.length →
  swF o p (t.take i)=(wo ((t.take i).filter fun x=>decide (x<p)) o++(if (t.take i).any (fun x=>decide (p<x))=true then p::wo ((t.take i).filter fun x=>decide (p<x)) o else []),(t.take i).any fun x=>decide (p<x)):=by
 intro i
 induction i with
 | zero=>intro _;rfl
 | succ i ih =>
  intro hi
  have ih:=ih (by omega)
  have hlt:∀y∈t.take i,y<t.getD i 0:=fun y hy=>by
   have h2:(t.take (i+1)).Pairwise (· < ·):=ha.sublist (List.take_sublist _ _)
   rw [Q5 (by omega)] at h2
   exact (List.pairwise_append.1 h2).2.2 y hy _ (wE _)
  have hne:t.getD i 0≠p:=fun c=>hp (c▸Qo 0 (show i<t.length by omega))
  rw [Dj o p t (by omega),ih,Q5 (by omega)]
  generalize t.take i=s at *
  generalize t.getD i 0=x at *
  have wo1:∀A:List Int,wo (A++[x]) o=wo A o++(if x=o then [] else [x]):=fun A=>by
   rw [wo,jA,wo]
   by_cases c:x=o
   ·rw [if_pos c,qX (by simp [c])];rfl
   ·rw [if_neg c,qY (by simp [c])];rfl
  rw [jA,jA,List.any_append]
  by_cases cx:p<x
  ·have f1:([x].filter fun x=>decide (x<p))=[]:=by rw [qX (by simp;omega)];rfl
   have f2:([x].filter fun x=>decide (p<x))=[x]:=by rw [qY (by simpa using cx)];rfl
   have f3:([x].any fun x=>decide (p<x))=true:=by simp [cx]
   rw [f1,f2,f3,qR,Bool.or_true,wo1]
   by_cases cd:(s.any fun x=>decide (p<x))=true
   ·rw [cd]
    by_cases co:x=o
    ·simp [swS,sw1,co]
    ·simp [swS,sw1,co]
   ·rw [Jl cd]
    have e:(s.filter fun x=>decide (p<x))=[]:=List.filter_eq_nil_iff.2 fun y hy hc=>cd (List.any_eq_true.2 ⟨y,hy,hc⟩)
    rw [e]
    by_cases co:x=o
    ·subst co;simp [swS,sw1,cx,wo]
    ·simp [swS,sw1,co,cx,wo]
  ·have f1:([x].filter fun x=>decide (x<p))=[x]:=by rw [qY (by simp;omega)];rfl
   have f2:([x].filter fun x=>decide (p<x))=[]:=by rw [qX (by simpa using cx)];rfl
   have f3:([x].any fun x=>decide (p<x))=false:=by simp [cx]
   have cd:(s.any fun x=>decide (p<x))=false:=by
    cases c:(s.any fun x=>decide (p<x)) with
    | false=>rfl
    | true =>
     obtain ⟨y,hy,hc⟩:=List.any_eq_true.1 c
     have:=hlt y hy
     have:=of_decide_eq_true hc
     omega
   rw [f1,f2,f3,qR,Bool.or_false,wo1,cd]
   by_cases co:x=o
   ·simp [swS,sw1,co];omega
   ·simp [swS,sw1,co,cx]
theorem QeH {t:List Int} {o p:Int} (ha:t.Pairwise (· < ·)) (hp:p∉t):swT o p t=wo (t.filter fun x=>decide (x<p)) o++p::wo (t.filter fun x=>decide (p<x)) o:=by
 have h:=Qmv (o:=o) ha hp t.length (qC _)
 rw [qK] at h
 rw [swT,h]
 by_cases c:(t.any fun x=>decide (p<x))=true
 ·simp only [c,if_true]
 ·have e:(t.filter fun x=>decide (p<x))=[]:=List.filter_eq_nil_iff.2 fun y hy hc=>c (List.any_eq_true.2 ⟨y,hy,hc⟩)
  simp [Jl c,e,wo]
theorem QbV {t:List Int} {o p:Int} (ha:t.Pairwise (· < ·)) (hp:p∉t) (x:Int):x∈swT o p t↔x∈wo t o++[p]:=by
 rw [QeH ha hp]
 simp only [qM,jN,mem_wo,qZ,decide_eq_true_eq,zT,zV,or_false]
 have:x∈t→x≠p:=fun h c=>hp (c▸h)
 by_cases c:x=p
 ·subst c;simp
 ·constructor
  ·rintro (⟨⟨h1,_⟩,h2⟩ | h | ⟨⟨h1,_⟩,h2⟩)
   ·exact .inl ⟨h1,h2⟩
   ·exact .inr h
   ·exact .inl ⟨h1,h2⟩
  ·rintro (⟨h1,h2⟩ | h)
   ·rcases Int.lt_or_gt_of_ne c with h3 | h3
    ·exact .inl ⟨⟨h1,h3⟩,h2⟩
    ·exact .inr (.inr ⟨⟨h1,h3⟩,h2⟩)
   ·exact .inr (.inl h)
theorem QbW {t:List Int} {o p:Int} (ha:t.Pairwise (· < ·)) (hp:p∉t):(swT o p t).Pairwise (· < ·):=by
 rw [QeH ha hp]
 have h1:∀q:Int→Bool,(wo (t.filter q) o).Pairwise (· < ·):=fun q=>(ha.sublist qT).sublist qT
 refine List.pairwise_append.2 ⟨h1 _,List.pairwise_cons.2 ⟨fun y hy=>?_,h1 _⟩,fun x hx y hy=>?_⟩
 ·exact of_decide_eq_true (List.mem_filter.1 (mem_wo.1 hy).1).2
 ·have hxp:x<p:=of_decide_eq_true (List.mem_filter.1 (mem_wo.1 hx).1).2
  rcases List.mem_cons.1 hy with h | h
  ·omega
  ·have:p<y:=of_decide_eq_true (List.mem_filter.1 (mem_wo.1 h).1).2
   omega
theorem WZ (l:List St):(Qd l).Nodup:=by
 have:=Z1 l (Qg l) (Qg l).length (qC _)
 rw [qK] at this
 exact this.nodup (KM l)
theorem SS {l:List Int} (h:l.Nodup) {i:Nat} (hi:i<l.length):l.getD i 0∉l.take i:=by
 intro c
 have h2:(l.take (i+1)).Nodup:=(List.take_sublist _ _).nodup h
 rw [Q5 hi] at h2
 exact (List.nodup_append.1 h2).2.2 _ c _ (wE _) rfl
theorem QgK (l:List St) (t:List Int) {i:Nat}:∀d,i+d≤t.length→∀x∈tkT l (t.take i),x∈tkT l (t.take (i+d)):=by
 intro d
 induction d with
 | zero=>intro _ x hx;exact hx
 | succ d ih =>
  intro h x hx
  have:=ih (by omega) x hx
  rw [show i+(d+1)=(i+d)+1 by omega,ZP l t (by omega)]
  split
  ·exact qS _ this
  ·exact this
theorem J2 (l:List St) (t:List Int) {i:Nat} (hi:i≤t.length):∀x∈tkT l (t.take i),x∈tkT l t:=fun x hx=>by
 have:=QgK l t (i:=i) (t.length-i) (by omega) x hx
 rwa [show i+(t.length-i)=t.length by omega,qK] at this
theorem Ku:∀{a b:List Int},a.Nodup→b.Nodup→(∀x,x∈a↔x∈b)→a.length=b.length
 | [],b,_,_,h=>by
  have:b=[]:=List.eq_nil_iff_forall_not_mem.2 fun x hx=>by cases (h x).2 hx
  rw [this]
 | x::a,b,ha,hb,h=>by
  obtain ⟨h1,h2⟩:=List.nodup_cons.1 ha
  have hx:x∈b:=(h x).1 (qL ..)
  rw [Co hb hx,qE]
  refine congrArg (·+1) (Ku h2 (hb.sublist qT) fun y=>?_)
  rw [mem_wo]
  constructor
  ·intro hy
   exact ⟨(h y).1 (qH _ hy),fun c=>h1 (c▸hy)⟩
  ·intro ⟨hy,hne⟩
   exact (List.mem_cons.1 ((h y).2 hy)).resolve_left hne
theorem QaZ (m:Nat):(Qf m).Pairwise (· < ·):=List.pairwise_map.2 (List.Pairwise.imp (fun {a b} h=>by omega) (List.pairwise_lt_range (n:=m)))
theorem KQ (l:List St):(frT l).Pairwise (· < ·):=(QaZ _).sublist qT
theorem Zj {t:List Int} (h:t.Pairwise (· < ·)):t.Nodup:=List.Pairwise.imp (fun {a b} h c=>by omega) h
theorem QbX {m:Nat} {t:List Int} (ha:t.Pairwise (· < ·)) (ht:∀k∈t,0≤k∧k<(m:Int)):Di m t=true:=by
 rw [Di]
 cases hf:fN (fun i=>!okA m t i) t.length 0 with
 | none=>rfl
 | some i =>
  exfalso
  obtain ⟨_,h2,h3,_⟩:=XT hf
  have:okA m t i=false:=by simpa using h3
  refine of_decide_eq_false this ⟨ht _ (Qo 0 (by omega)),?_⟩
  rcases Nat.eq_zero_or_pos i with c | c
  ·exact .inl c
  ·right
   have:=List.pairwise_iff_getElem.1 ha (i-1) i (by omega) (by omega) (by omega)
   rw [QD (by omega),QD (by omega)]
   exact this
section
variable {n:Int} {l:List St} (hnet:Wh n l=true) (hc:WJ n l=true)
include hnet
theorem QG:Jm l=true:=Vy (Qx hnet).2.2.1 (by have:=(Qx hnet).1;omega)
theorem Qrp {j:Int} (hj:0≤j∧j<(l.length:Int)) (hjT:j∉Qd l) {p:Nat} (hp:p<(Qg l).length) (hpj:(Qg l).getD p 0=j):Cn l (tkT l ((Qg l).take p)) (sA l j) (sB l j):=by
 have he:=QG hnet
 have ho:∀k∈Qg l,0≤k∧k<(l.length:Int):=fun k hk=>ordT_mem.1 hk
 obtain ⟨ea,eb⟩:=Ks he hj
 have hin:∀k∈tkT l ((Qg l).take p),0≤k∧k<(l.length:Int):=fun k hk=>WG (J2 l (Qg l) (by omega) k hk)
 refine (QaU he hin ea eb).1 ?_
 rw [lb,lb,(Qix (l:=l) (t:=Qg l) p (by omega)).1]
 by_cases c:(QB l ((Qg l).take p)).getD (sA l j).toNat 0=(QB l ((Qg l).take p)).getD (sB l j).toNat 0
 ·exact c
 ·exfalso
  refine hjT (J2 l (Qg l) (i:=p+1) (by omega) j ?_)
  rw [ZP l (Qg l) hp,hpj,if_pos c]
  exact jP _ (wE _)
theorem Yo {j:Int} (hj:0≤j∧j<(l.length:Int)):∃p,p<(Qg l).length∧(Qg l).getD p 0=j:=by
 obtain ⟨p,hp,he⟩:=jQ (ordT_mem.2 hj)
 exact ⟨p,hp,by rw [QD hp];exact he⟩
theorem XW {k j:Int} (hk:k∈Qd l) (hj:0≤j∧j<(l.length:Int)) (hjT:j∉Qd l) (hJ:Q4 l (Qd l) k j):wOf l k≤wOf l j:=by
 have he:=QG hnet
 have hkr:=WG hk
 obtain ⟨p,hp,hpj⟩:=Yo hnet hj
 obtain ⟨q,hq,hqk⟩:=Yo hnet hkr
 have hs:=JZ l l.length
 have hs:(Qg l).Pairwise (ltK l):=hs
 have hne:p≠q:=fun c=>hjT (by rw [← hpj,c,hqk];exact hk)
 rcases Nat.lt_or_gt_of_ne hne with c | c
 ·exfalso
  have h1:=Qrp hnet hj hjT hp hpj
  have hwin:∀x∈wo (Qd l) k,0≤x∧x<(l.length:Int):=fun x hx=>WG (mem_wo.1 hx).1
  refine hJ (YQ he hwin (h1.mono fun x hx=>mem_wo.2 ⟨J2 l (Qg l) (by omega) x hx,fun e=>?_⟩))
  have h2:x∈(Qg l).take p:=(by have:=Z1 l (Qg l) p (by omega);exact this.subset hx)
  obtain ⟨r,hr,hre⟩:=jQ h2
  rw [qQ] at hr
  rw [List.getElem_take,e,← hqk,QD hq] at hre
  have:=(KM l)
  have h3:=List.pairwise_iff_getElem.1 this r q (by omega) hq (by omega)
  exact h3 hre
 ·have:=List.pairwise_iff_getElem.1 hs q p (by omega) (by omega) c
  rw [← QD (d:=0) hq,← QD (d:=0) hp,hqk,hpj] at this
  unfold ltK at this
  omega
end
section
variable {n:Int} {l:List St} (hnet:Wh n l=true) (hc:WJ n l=true)
include hnet
include hc
theorem Dl:((Qd l).length:Int)=n-1:=of_decide_eq_true hc
theorem Qrq:(tkT l (frT l)).length=(frT l).length:=by
 rw [Yn,Wi (QG hnet) (t:=frT l) (t':=Qd l) (fun k hk=>WG (frT_mem.1 hk)) (fun _=>frT_mem),(SM l).2]
omit hc in
theorem SU (k j:Int):Q4 l (frT l) k j↔Q4 l (Qd l) k j:=by
 have:QB l (wo (frT l) k)=QB l (wo (Qd l) k):=XU (QG hnet) (fun x hx=>WG (frT_mem.1 (mem_wo.1 hx).1)) (fun x=>by rw [mem_wo,mem_wo,frT_mem])
 unfold Q4
 rw [this]
theorem Cp {k j:Int} (hk:k∈Qd l) (hj:0≤j∧j<(l.length:Int)) (hjT:j∉Qd l):isT n l (swT k j (frT l))=true↔Q4 l (Qd l) k j:=by
 have he:=QG hnet
 have hjF:j∉frT l:=fun h=>hjT (frT_mem.1 h)
 have hkF:k∈frT l:=frT_mem.2 hk
 have hFin:∀x∈frT l,0≤x∧x<(l.length:Int):=fun x hx=>WG (frT_mem.1 hx)
 have hA:=QbW (o:=k) (KQ l) hjF
 have hM:=QbV (o:=k) (KQ l) hjF
 have hFn:=Zj (KQ l)
 have hSin:∀x∈swT k j (frT l),0≤x∧x<(l.length:Int):=fun x hx=>by
  rcases List.mem_append.1 ((hM x).1 hx) with h | h
  ·exact hFin x (mem_wo.1 h).1
  ·rw [List.mem_singleton.1 h];exact hj
 have hwn:(wo (frT l) k++[j]).Nodup:=List.nodup_append.2 ⟨hFn.sublist qT,by simp,fun a ha b hb=>by rw [List.mem_singleton.1 hb];exact fun c=>hjF (c▸(mem_wo.1 ha).1)⟩
 have h1:(swT k j (frT l)).length=(frT l).length:=by
  rw [Ku (Zj hA) hwn hM,qB,qG,Co hFn hkF]
 have h2:=SR he hFin hFn (Qrq hnet hc) hkF hj hM
 have h3:(ZZ l (swT k j (frT l))).length=(tkT l (swT k j (frT l))).length:=by
  have hs:=Z1 l (swT k j (frT l)) _ (qC _)
  rw [qK] at hs
  refine Ku ((Zi _).sublist qT) (hs.nodup (Zj hA)) fun x=>?_
  rw [ZZ,qZ,decide_eq_true_eq]
  exact ⟨fun h=>h.2,fun h=>⟨startT_mem.2 (hSin x (hs.subset h)),h⟩⟩
 have h4:=Dl hnet hc
 rw [← Yn] at h4
 rw [isT,QbX hA hSin,wD,h1,decide_eq_true h4,wD,decide_eq_true_eq,h3,← SU hnet,← h2]
 omega
theorem YR:(tkT l (Qd l)).length=(Qd l).length:=by rw [(SM l).2]
theorem QbY {j:Int} (hj:0≤j∧j<(l.length:Int)) (hjT:j∉Qd l):∃k∈Qd l,Q4 l (Qd l) k j:=by
 have he:=QG hnet
 obtain ⟨ea,eb⟩:=Ks he hj
 have hTin:∀x∈Qd l,0≤x∧x<(l.length:Int):=fun x hx=>WG hx
 have hab:sA l j≠sB l j:=by
  have h:=hnet
  simp only [Wh,zL,zU,decide_eq_true_eq,stB] at h
  have:=(h.1 _ (Qo (l:=l) (0,0,0) (show j.toNat<l.length by omega))).2.2.1
  exact this
 obtain ⟨p,hp,hpj⟩:=Yo hnet hj
 have h1:=(Qrp hnet hj hjT hp hpj).mono (t':=Qd l) fun x hx=>J2 l (Qg l) (by omega) x hx
 have h2:=YQ he hTin h1
 have htk:∀i,∀x∈(Qd l).take i,0≤x∧x<(l.length:Int):=fun i x hx=>hTin x (zA hx)
 have key:∀i,i≤(Qd l).length→lb l ((Qd l).take i) (sA l j)=lb l ((Qd l).take i) (sB l j)→∃m,m<i∧lb l ((Qd l).take m) (sA l j)≠lb l ((Qd l).take m) (sB l j)∧lb l ((Qd l).take (m+1)) (sA l j)=lb l ((Qd l).take (m+1)) (sB l j):=by
  intro i
  induction i with
  | zero =>
   intro _ h
   exfalso
   have e:∀v:Int,0≤v∧v<16→lb l ((Qd l).take 0) v=v:=fun v hv=>by
    show (Qf 16).getD v.toNat 0=v
    have:v.toNat<16:=by omega
    simp [Qf,qV,this];omega
   rw [e _ ea,e _ eb] at h
   exact hab h
  | succ i ih =>
   intro hi h
   by_cases c:lb l ((Qd l).take i) (sA l j)=lb l ((Qd l).take i) (sB l j)
   ·obtain ⟨m,h1,h2,h3⟩:=ih (by omega) c
    exact ⟨m,by omega,h2,h3⟩
   ·exact ⟨i,by omega,c,h⟩
 obtain ⟨m,hm,hne,heq⟩:=key (Qd l).length (qC _) (by rw [qK];exact h2)
 have hk:=Qo (l:=Qd l) 0 hm
 refine ⟨(Qd l).getD m 0,hk,fun hsame=>?_⟩
 have hsame:lb l (wo (Qd l) ((Qd l).getD m 0)) (sA l j)=lb l (wo (Qd l) ((Qd l).getD m 0)) (sB l j):=hsame
 have hwin:∀x∈wo (Qd l) ((Qd l).getD m 0),0≤x∧x<(l.length:Int):=fun x hx=>hTin x (mem_wo.1 hx).1
 obtain ⟨ka,kb⟩:=Ks he (hTin _ hk)
 have hmono:∀x∈(Qd l).take m,x∈wo (Qd l) ((Qd l).getD m 0):=fun x hx=>mem_wo.2 ⟨zA hx,fun c=>SS (WZ l) hm (c▸hx)⟩
 have cA:=(Jn he (htk m) ka).mono hmono
 have cB:=(Jn he (htk m) kb).mono hmono
 have ca:=(Jn he (htk m) ea).mono hmono
 have cb:=(Jn he (htk m) eb).mono hmono
 have cab:=(QaU he hwin ea eb).1 hsame
 rw [J1 he hTin hm ea,J1 he hTin hm eb] at heq
 have hK:Cn l (wo (Qd l) ((Qd l).getD m 0)) (sA l ((Qd l).getD m 0)) (sB l ((Qd l).getD m 0)):=by
  generalize lb l ((Qd l).take m) (sA l j)=x at *
  generalize lb l ((Qd l).take m) (sB l j)=y at *
  generalize lb l ((Qd l).take m) (sA l ((Qd l).getD m 0))=A at *
  generalize lb l ((Qd l).take m) (sB l ((Qd l).getD m 0))=B at *
  have hxy:Cn l (wo (Qd l) ((Qd l).getD m 0)) x y:=.trans ca (.trans cab (.symm cb))
  have hc:(x=A∧y=B)∨(x=B∧y=A):=by
   unfold WP at heq
   split at heq <;> split at heq <;> omega
  rcases hc with ⟨e1,e2⟩ | ⟨e1,e2⟩
  ·rw [e1,e2] at hxy;exact .trans (.symm cA) (.trans hxy cB)
  ·rw [e1,e2] at hxy;exact .trans (.symm cA) (.trans (.symm hxy) cB)
 exact (Dk he hTin (WZ l) (YR hnet hc) hk).2 (YQ he hwin hK)
end
theorem Gs (l:List St) (s:List Int):∀r:List Int,(tkT l (s++r)).length≤(tkT l s).length+r.length:=by
 have key:∀(m:Nat) (r:List Int),r.length=m→(tkT l (s++r)).length≤(tkT l s).length+m:=by
  intro m
  induction m with
  | zero=>intro r h;rw [List.length_eq_zero_iff.1 h,qR];omega
  | succ m ih =>
   intro r h
   rcases List.eq_nil_or_concat r with e | ⟨r',x,e⟩
   ·rw [e] at h;simp at h
   ·subst e
    rw [List.concat_eq_append] at h ⊢
    rw [qB,qG] at h
    have:=ih r' (by omega)
    rw [← qF,XV]
    split
    ·rw [qB,qG];omega
    ·omega
 exact fun r=>key r.length r rfl
def loW (l:List St) (x:Int) (t:List Int):List Int:=t.filter fun k=>decide (wOf l k≤x)
theorem lo_mem {l:List St} {x:Int} {t:List Int} {y:Int}:y∈loW l x t↔y∈t∧wOf l y≤x:=by rw [loW,qZ,decide_eq_true_eq]
section
variable {l:List St} (he:Jm l=true)
include he
theorem Qrr {t t':List Int} (ht:∀k∈t,0≤k∧k<(l.length:Int)) (ht':∀k∈t',0≤k∧k<(l.length:Int)) (hs:∀u v:Int,Cn l t u v→Cn l t' u v):rt (QB l t')≤rt (QB l t):=by
 unfold rt
 rw [← wM,← wM]
 refine List.countP_mono_left fun v hv h=>?_
 have hv:=List.mem_range.1 hv
 have h:lb l t' (v:Int)=(v:Int):=of_decide_eq_true h
 have hr:0≤(v:Int)∧(v:Int)<16:=by omega
 refine decide_eq_true (show lb l t (v:Int)=(v:Int) from ?_)
 have h1:=YQ he ht' (hs _ _ (Jn he ht hr))
 have h2:=WY he ht' (Ci he ht hr)
 have h3:=WY he ht hr
 omega
theorem Cq {t t':List Int} (ht:∀k∈t,0≤k∧k<(l.length:Int)) (ht':∀k∈t',0≤k∧k<(l.length:Int)) (hs:∀u v:Int,Cn l t u v→Cn l t' u v):(tkT l t).length≤(tkT l t').length:=by
 have:=Qrr he ht ht' hs
 have h1:=KO he ht
 have h2:=KO he ht'
 omega
end
structure Tr (n:Int) (l:List St) (t:List Int):Prop where
 rg:∀k∈t,0≤k∧k<(l.length:Int)
 nd:t.Nodup
 ln:(t.length:Int)=n-1
 fo:(tkT l t).length=t.length
theorem Dm {n:Int} {l:List St} (hE:∀k,0≤k∧k<(l.length:Int)→sA l k<n∧sB l k<n) {t:List Int} (ht:∀k∈t,0≤k∧k<(l.length:Int)) {u v:Int} (h:Cn l t u v):u=v∨(u<n∧v<n):=by
 induction h with
 | refl v=>exact .inl rfl
 | edge h=>exact .inr (hE _ (ht _ h))
 | symm _ ih=>omega
 | trans _ _ h1 h2=>omega
section
variable {n:Int} {l:List St} (hnet:Wh n l=true)
include hnet
theorem Kv {k:Int} (hk:0≤k∧k<(l.length:Int)):(0≤sA l k∧sA l k<n)∧(0≤sB l k∧sB l k<n)∧sA l k≠sB l k:=by
 have h:=hnet
 simp only [Wh,zL,zU,decide_eq_true_eq,stB] at h
 have:=h.1 _ (Qo (l:=l) (0,0,0) (show k.toNat<l.length by omega))
 exact ⟨by have:=this.1;exact this,by have:=this.2.1;exact this,this.2.2.1⟩
theorem XX {k:Int} (hk:0≤k∧k<(l.length:Int)):0≤wOf l k∧wOf l k≤1000:=(Qx hnet).2.2.2 _ (Qo _ (by omega))
theorem QeI (hc:WJ n l=true):Tr n l (Qd l):=⟨fun k hk=>WG hk,WZ l,Dl hnet hc,YR hnet hc⟩
end
section
variable {n:Int} {l:List St} (hnet:Wh n l=true)
include hnet
theorem Z2 {i j:Nat} (hij:i≤j) (hj:j<(Qg l).length):wOf l ((Qg l).getD i 0)≤wOf l ((Qg l).getD j 0):=by
 rcases Nat.lt_or_eq_of_le hij with c | c
 ·have hs:(Qg l).Pairwise (ltK l):=JZ l l.length
  have:=List.pairwise_iff_getElem.1 hs i j (by omega) hj c
  rw [QD (by omega),QD hj]
  unfold ltK at this
  omega
 ·rw [c];exact Int.le_refl _
end
theorem QgL (l:List St):wgt l []=0:=rfl
theorem Vz (l:List St) (k:Int) (t:List Int):wgt l (k::t)=wOf l k+wgt l t:=by rw [wgt,jU,List.sum_cons];rfl
theorem QgM (l:List St) (s t:List Int):wgt l (s++t)=wgt l s+wgt l t:=by rw [wgt,jV,List.sum_append];rfl
theorem Qa0 (l:List St) {k:Int}:∀{t:List Int},t.Nodup→k∈t→wgt l t=wOf l k+wgt l (wo t k)
 | [],_,h=>by cases h
 | x::t,hn,h=>by
  obtain ⟨h1,h2⟩:=List.nodup_cons.1 hn
  by_cases e:x=k
  ·subst e
   have:wo (x::t) x=t:=by
    rw [wo,qX (by simp)]
    exact List.filter_eq_self.2 fun y hy=>decide_eq_true fun (c:y=x)=>h1 (c▸hy)
   rw [this,Vz]
  ·have hm:=(List.mem_cons.1 h).resolve_left fun c=>e c.symm
   have:wo (x::t) k=x::wo t k:=by rw [wo,qY (by simpa using e)];rfl
   rw [this,Vz,Vz,Qa0 l h2 hm]
   omega
theorem Dn (l:List St):∀{a b:List Int},a.Nodup→b.Nodup→(∀x,x∈a↔x∈b)→wgt l a=wgt l b
 | [],b,_,_,h=>by
  have:b=[]:=List.eq_nil_iff_forall_not_mem.2 fun x hx=>by cases (h x).2 hx
  rw [this]
 | x::a,b,ha,hb,h=>by
  obtain ⟨h1,h2⟩:=List.nodup_cons.1 ha
  have hx:x∈b:=(h x).1 (qL ..)
  rw [Qa0 l hb hx,Vz]
  refine congrArg (wOf l x+·) (Dn l h2 (hb.sublist qT) fun y=>?_)
  rw [mem_wo]
  constructor
  ·intro hy
   exact ⟨(h y).1 (qH _ hy),fun c=>h1 (c▸hy)⟩
  ·intro ⟨hy,hne⟩
   exact (List.mem_cons.1 ((h y).2 hy)).resolve_left hne
theorem Qmw {m:Nat} {t:List Int} (h:Di m t=true):t.Pairwise (· < ·)∧∀k∈t,0≤k∧k<(m:Int):=by
 have hin:=inR_iff.1 (QbU h)
 refine ⟨?_,hin⟩
 rw [Di] at h
 cases hf:fN (fun i=>!okA m t i) t.length 0 with
 | some i=>rw [hf] at h;cases h
 | none =>
  have h3:=V0 hf
  have step:∀i,0<i→i<t.length→t.getD (i-1) 0<t.getD i 0:=fun i h0 hi=>by
   have:=h3 i (jE _) (by omega)
   have:okA m t i=true:=by simpa using this
   have:=of_decide_eq_true this
   rcases this.2 with c | c
   ·omega
   ·exact c
  have far:∀d i,i+d+1<t.length→t.getD i 0<t.getD (i+d+1) 0:=by
   intro d
   induction d with
   | zero=>intro i hi;exact step (i+1) (by omega) hi
   | succ d ih =>
    intro i hi
    have h1:=ih i (by omega)
    have h2:=step (i+d+2) (by omega) hi
    rw [show i+d+2-1=i+d+1 by omega] at h2
    show t.getD i 0<t.getD (i+d+2) 0
    omega
  refine List.pairwise_iff_getElem.2 fun i j hi hj hij=>?_
  have:=far (j-i-1) i (by omega)
  rw [show i+(j-i-1)+1=j by omega,QD hi,QD hj] at this
  exact this
theorem QbZ {l:List St} {t:List Int} (hn:t.Nodup) (ht:∀k∈t,0≤k∧k<(l.length:Int)):(ZZ l t).length=(tkT l t).length:=by
 have hs:=Z1 l t _ (qC _)
 rw [qK] at hs
 refine Ku ((Zi _).sublist qT) (hs.nodup hn) fun x=>?_
 rw [ZZ,qZ,decide_eq_true_eq]
 exact ⟨fun h=>h.2,fun h=>⟨startT_mem.2 (ht x (hs.subset h)),h⟩⟩
theorem Qmx {n:Int} {l:List St} {t:List Int} (h:isT n l t=true):Tr n l t∧t.Pairwise (· < ·):=by
 simp only [isT,zL,decide_eq_true_eq] at h
 obtain ⟨h1,h2,h3⟩:=h
 obtain ⟨h4,h5⟩:=Qmw h1
 rw [QbZ (Zj h4) h5] at h3
 exact ⟨⟨h5,Zj h4,h2,by omega⟩,h4⟩
theorem Qmy {n:Int} {l:List St} {t:List Int} (h:Tr n l t) (ha:t.Pairwise (· < ·)):isT n l t=true:=by
 have:=h.ln
 have h2:=h.fo
 rw [isT,QbX ha h.rg,QbZ h.nd h.rg,h2,decide_eq_true h.ln];rfl
theorem Tr.perm {n:Int} {l:List St} (hnet:Wh n l=true) {t s:List Int} (h:Tr n l t) (hs:s.Nodup) (hm:∀x,x∈t↔x∈s):Tr n l s:=by
 have hl:=Ku h.nd hs hm
 refine ⟨fun k hk=>h.rg k ((hm k).2 hk),hs,by have:=h.ln;omega,?_⟩
 rw [← Wi (QG hnet) h.rg hm,h.fo,hl]
section
variable {n:Int} {l:List St} (hnet:Wh n l=true)
include hnet
theorem Tr.exch {t:List Int} (h:Tr n l t) {k j:Int} (hk:k∈t) (hj:0≤j∧j<(l.length:Int)) (hjt:j∉t) (hJ:Q4 l t k j):Tr n l (wo t k++[j]):=by
 have hn:(wo t k++[j]).Nodup:=List.nodup_append.2 ⟨h.nd.sublist qT,by simp,fun a ha b hb=>by rw [List.mem_singleton.1 hb];exact fun c=>hjt (c▸(mem_wo.1 ha).1)⟩
 have hlen:(wo t k++[j]).length=t.length:=by rw [qB,qG,Co h.nd hk]
 refine ⟨fun x hx=>?_,hn,by rw [hlen];exact h.ln,?_⟩
 ·rcases List.mem_append.1 hx with e | e
  ·exact h.rg x (mem_wo.1 e).1
  ·rw [List.mem_singleton.1 e];exact hj
 ·rw [hlen]
  exact (SR (QG hnet) h.rg h.nd h.fo hk hj (fun _=>Iff.rfl)).2 hJ
omit hnet in
theorem QeJ {t:List Int} (hn:t.Nodup) {k j:Int} (hk:k∈t):wgt l (wo t k++[j])=wgt l t-wOf l k+wOf l j:=by
 rw [QgM,Vz,QgL,Qa0 l hn hk];omega
theorem Qrs {t:List Int} (h:Tr n l t) (ha:t.Pairwise (· < ·)) {k j:Int} (hk:k∈t) (hj:0≤j∧j<(l.length:Int)) (hjt:j∉t) (hJ:Q4 l t k j):isT n l (swT k j t)=true∧wgt l (swT k j t)=wgt l t-wOf l k+wOf l j:=by
 have hA:=QbW (o:=k) ha hjt
 have hM:=QbV (o:=k) ha hjt
 have h1:=Tr.exch hnet h hk hj hjt hJ
 refine ⟨Qmy (Tr.perm hnet h1 (Zj hA) fun x=>(hM x).symm) hA,?_⟩
 rw [Dn l (Zj hA) h1.nd hM,QeJ h.nd hk]
theorem QiD (hc:WJ n l=true):Tr n l (frT l):=Tr.perm hnet (QeI hnet hc) (Zj (KQ l)) fun _=>frT_mem.symm
omit hnet in
theorem Qmz:wgt l (frT l)=wgt l (Qd l):=Dn l (Zj (KQ l)) (WZ l) fun _=>frT_mem
end
def rts (l:List St) (t:List Int) (n:Nat):List Nat:=(qJ n).filter fun (v:Nat)=>decide (lb l t (v:Int)=(v:Int))
theorem Z3:∀{a b:List Int},a.Nodup→(∀x∈a,x∈b)→a.length≤b.length
 | [],b,_,_=>jE _
 | x::a,b,ha,h=>by
  obtain ⟨h1,h2⟩:=List.nodup_cons.1 ha
  have hx:=h x (qL ..)
  obtain ⟨p,q,rfl⟩:=zP hx
  have:=Z3 (a:=a) (b:=p++q) h2 fun y hy=>by
   have h3:=h y (qH _ hy)
   have hne:y≠x:=fun c=>h1 (c▸hy)
   simp only [qM,jN] at h3 ⊢
   rcases h3 with c | c | c
   ·exact .inl c
   ·exact absurd c hne
   ·exact .inr c
  simp only [qB,qE] at this ⊢
  omega
section
variable {n:Int} {l:List St} (hnet:Wh n l=true)
include hnet
theorem Qb0 {t:List Int} (ht:∀k∈t,0≤k∧k<(l.length:Int)):((rts l t n.toNat).length:Int)+(tkT l t).length=n:=by
 have he:=QG hnet
 obtain ⟨⟨n1,n2⟩,_⟩:=Qx hnet
 have hE:∀k,0≤k∧k<(l.length:Int)→sA l k<n∧sB l k<n:=fun k hk=>by have:=Kv hnet hk;omega
 have h1:=KO he ht
 have h2:rt (QB l t)=(rts l t n.toNat).length+(16-n.toNat):=by
  unfold rt rts
  have e:qJ 16=qJ n.toNat++(qJ (16-n.toNat)).map (n.toNat+·):=by
   rw [← List.range_add]
   congr 1
   omega
  rw [e,jA,qB]
  have e1:((qJ n.toNat).filter fun (v:Nat)=>decide ((QB l t).getD v 0=(v:Int)))=(qJ n.toNat).filter fun (v:Nat)=>decide (lb l t (v:Int)=(v:Int)) :=
   zD fun v _=>by rw [lb,qU]
  rw [e1]
  congr 1
  have e2:((qJ (16-n.toNat)).map (n.toNat+·)).filter (fun (v:Nat)=>decide ((QB l t).getD v 0=(v:Int)))=(qJ (16-n.toNat)).map (n.toNat+·):=List.filter_eq_self.2 fun v hv=>by
   obtain ⟨x,hx,rfl⟩:=List.mem_map.1 hv
   have hx:=List.mem_range.1 hx
   have hr:0≤((n.toNat+x:Nat):Int)∧((n.toNat+x:Nat):Int)<16:=by omega
   have h4:=WY he ht hr
   have h5:=Dm hE ht (Jn he ht hr)
   have h6:lb l t ((n.toNat+x:Nat):Int)=((n.toNat+x:Nat):Int):=by omega
   unfold lb at h6
   rw [qU] at h6
   exact decide_eq_true h6
  rw [e2,qD,List.length_range]
 omega
end
end Go.Proofs.Ytiejmoglooaalaa
end
section
namespace Go.HL.Dt
set_option linter.unusedSectionVars false
open Go.Proofs.Try renaming prog → Tp
open Go.HL.HV renaming undef → Ud
abbrev Row:=Int→Int
def ex (d:List Row→Int) (c:Int):List Row→List Row→Int→Int
 | _,[],_=>0
 | p,r::R,s=>s*r c*d (p++R)+ex d c (p++[r]) R (-s)
def det:List Int→List Row→Int
 | [],[]=>1
 | [],_::_=>0
 | c::cs,R=>ex (det cs) c [] R 1
def ax (x:Row) (t:Int) (y:Row):Row:=fun z=>x z+t*y z
def Lin (d:List Row→Int):Prop:=∀A x y t B,d (A++ax x t y::B)=d (A++x::B)+t*d (A++y::B)
def Alt (d:List Row→Int):Prop:=∀A x B,d (A++x::x::B)=0
theorem QmA {d:List Row→Int} (h:Lin d) (c:Int) (P Q:List Row) (x y:Row) (t:Int):∀(R:List Row) (P' Q':List Row) (s:Int),P'=P→Q'=Q→ex d c (P'++ax x t y::Q') R s=ex d c (P'++x::Q') R s+t*ex d c (P'++y::Q') R s:=by
 intro R
 have key:∀(R Q:List Row) (s:Int),ex d c (P++ax x t y::Q) R s=ex d c (P++x::Q) R s+t*ex d c (P++y::Q) R s:=by
  intro R
  induction R with
  | nil=>intro Q s;simp [ex]
  | cons r R ih =>
   intro Q s
   have h1:=h P x y t (Q++R)
   have h2:=ih (Q++[r]) (-s)
   simp only [ex,qF,qI] at h1 h2 ⊢
   rw [h1,h2]
   simp only [zG,zQ,zH t]
   omega
 intro P' Q' s e1 e2
 subst e1;subst e2
 exact key R Q' s
theorem QeK {d:List Row→Int} (h:Lin d) (c:Int) (x y:Row) (t:Int) (B:List Row):∀(A p:List Row) (s:Int),ex d c p (A++ax x t y::B) s=ex d c p (A++x::B) s+t*ex d c p (A++y::B) s
 | [],p,s=>by
  have h2:=QmA h c p [] x y t B p [] (-s) rfl rfl
  simp only [qO,ex,h2,ax]
  simp only [zG,Int.add_mul,zQ,zH t]
  omega
 | a::A,p,s=>by
  have h1:=h (p++A) x y t B
  have h2:=QeK h c x y t B A (p++[a]) (-s)
  simp only [qF] at h1
  simp only [qI,ex,h2,h1]
  simp only [zG,zQ,zH t]
  omega
theorem KR:∀cs,Lin (det cs)
 | []=>fun A x y t B=>by cases A <;> simp [det]
 | c::cs=>fun A x y t B=>QeK (KR cs) c x y t B A [] 1
theorem Do {d:List Row→Int} (h:Alt d) (c:Int) (P:List Row) (x:Row):∀(R Q:List Row) (s:Int),ex d c (P++x::x::Q) R s=0
 | [],_,_=>rfl
 | r::R,Q,s=>by
  have h1:=h P x (Q++R)
  have h2:=Do h c P x R (Q++[r]) (-s)
  simp only [ex,qF,qI] at h1 h2 ⊢
  rw [h1,h2];simp
theorem QeL {d:List Row→Int} (h:Alt d) (c:Int) (x:Row) (B:List Row):∀(A p:List Row) (s:Int),ex d c p (A++x::x::B) s=0
 | [],p,s=>by
  have h2:=Do h c p x B [] s
  have e:p++[x]++B=p++x::B:=by simp
  simp only [qO,ex,qF,qI,Int.neg_neg] at h2 ⊢
  rw [h2,jI,jI]
  omega
 | a::A,p,s=>by
  have h1:=h (p++A) x B
  simp only [qF] at h1
  simp only [qI,ex,QeL h c x B A,h1];simp
theorem Y5:∀cs,Alt (det cs)
 | []=>fun A x B=>by cases A <;> simp [det]
 | c::cs=>fun A x B=>QeL (Y5 cs) c x B A [] 1
section
variable {d:List Row→Int} (hl:Lin d) (ha:Alt d)
include hl ha
theorem QeM (A:List Row) (x y:Row) (B:List Row):d (A++x::y::B)=- d (A++y::x::B):=by
 have h:=ha A (ax x 1 y) B
 have h1:=hl A x y 1 (ax x 1 y::B)
 have h2:=hl (A++[x]) x y 1 B
 have h3:=hl (A++[y]) x y 1 B
 have h4:=ha A x B
 have h5:=ha A y B
 simp only [qF,qI,qO] at h2 h3
 rw [h1,h2,h3,h4,h5] at h
 omega
theorem move (x:Row) (B:List Row):∀(M A:List Row),d (A++x::(M++B))=(-1) ^ M.length*d (A++M++x::B)
 | [],A=>by simp
 | m::M,A=>by
  have h:=move x B M (A++[m])
  have h1:=QeM hl ha A x m (M++B)
  simp only [qF,qI,qO] at h h1 ⊢
  rw [h1,h,qE,jW]
  simp [jI,jX]
theorem two (A:List Row) (x:Row) (M B:List Row):d (A++x::(M++x::B))=0:=by
 rw [move hl ha x (x::B) M A,ha];simp
theorem Qc0 (x:Row) {R:List Row} (h:x∈R):d (x::R)=0:=by
 obtain ⟨M,B,rfl⟩:=zP h
 exact two hl ha [] x M B
theorem QrQ (A:List Row) (x y:Row) (t:Int) (M B:List Row):d (A++x::(M++ax y t x::B))=d (A++x::(M++y::B)):=by
 have h:=hl (A++x::M) y x t B
 have h2:=two hl ha A x M B
 simp only [qF,qI] at h
 rw [h,h2];omega
theorem elim (x:Row) (f:Row→Int):∀(R A:List Row),d (x::(A++R.map fun r=>ax r (f r) x))=d (x::(A++R))
 | [],A=>rfl
 | r::R,A=>by
  have h:=elim x f R (A++[ax r (f r) x])
  have h2:=QrQ hl ha [] x r (f r) A R
  simp only [qF,qI,qO,jU] at h h2 ⊢
  rw [h,h2]
theorem QmB (x y:Row) (M B:List Row):d (x::(M++y::B))=- d (y::(M++x::B)):=by
 have h1:=move hl ha x (y::B) M []
 have h2:=move hl ha y (x::B) M []
 have h3:=QeM hl ha M x y B
 simp only [qO] at h1 h2
 rw [h1,h2,h3,jX]
theorem Gt (x:Row):∀(S R:List Row),(∀r∈S,r∈R)→d (S.foldr (fun r y=>ax y 1 r) x::R)=d (x::R)
 | [],R,_=>rfl
 | r::S,R,h=>by
  have h1:=hl [] (S.foldr (fun r y=>ax y 1 r) x) r 1 R
  have h2:=Qc0 hl ha r (h r (qL ..))
  have h3:=Gt x S R fun q hq=>h q (qH _ hq)
  simp only [qO] at h1
  rw [qP,h1,h2,h3];omega
omit ha in
theorem zero_row (A B:List Row):d (A++(fun _=>0)::B)=0:=by
 have h:=hl A (fun _=>0) (fun _=>0) 1 B
 have e:ax (fun _=>0) 1 (fun _=>0)=(fun _=>0:Row):=by funext z;simp [ax]
 rw [e] at h
 omega
end
def Cg (p:Int) (cs:List Int):List Row→List Row→Prop
 | [],[]=>True
 | r::R,r'::R'=>(∀z∈cs,p∣r z-r' z)∧Cg p cs R R'
 | _,_=>False
theorem Cg.refl (p:Int) (cs:List Int):∀R,Cg p cs R R
 | []=>trivial
 | r::R=>⟨fun z _=>by rw [Int.sub_self];exact Int.dvd_zero p,Cg.refl p cs R⟩
theorem Cg.app {p:Int} {cs:List Int}:∀{A A' B B':List Row},Cg p cs A A'→Cg p cs B B'→Cg p cs (A++B) (A'++B')
 | [],[],_,_,_,h=>h
 | _::_,_::_,_,_,h,h2=>⟨h.1,Cg.app h.2 h2⟩
 | [],_::_,_,_,h,_=>h.elim
 | _::_,[],_,_,h,_=>h.elim
theorem Cg.mono {p:Int} {cs cs':List Int} (hs:∀z∈cs',z∈cs):∀{A A':List Row},Cg p cs A A'→Cg p cs' A A'
 | [],[],_=>trivial
 | _::_,_::_,h=>⟨fun z hz=>h.1 z (hs z hz),Cg.mono hs h.2⟩
 | [],_::_,h=>h.elim
 | _::_,[],h=>h.elim
theorem Q8 {p a a' b b':Int} (h1:p∣a-a') (h2:p∣b-b'):p∣a*b-a'*b':=by
 have e:a*b-a'*b'=(a-a')*b+a'*(b-b'):=by rw [Int.sub_mul,Int.mul_sub];omega
 rw [e]
 exact Int.dvd_add (Int.dvd_mul_of_dvd_left h1) (Int.dvd_mul_of_dvd_right h2)
theorem QiE {p:Int} {cs:List Int} {d:List Row→Int} (hd:∀R R',Cg p cs R R'→p∣d R-d R') {c:Int}:∀(R R' P P':List Row) (s:Int),Cg p (c::cs) P P'→Cg p (c::cs) R R'→p∣ex d c P R s-ex d c P' R' s
 | [],[],_,_,_,_,_=>by simp [ex]
 | r::R,r'::R',P,P',s,hP,hR=>by
  have m:=fun z (hz:z∈cs)=>qH c hz
  have h1:=hd _ _ (Cg.app (Cg.mono (cs':=cs) m hP) (Cg.mono (cs':=cs) m hR.2))
  have h2:=QiE hd R R' (P++[r]) (P'++[r']) (-s) (Cg.app hP ⟨hR.1,trivial⟩) hR.2
  have h3:=Q8 (Q8 (show p∣s-s by rw [Int.sub_self];exact Int.dvd_zero p) (hR.1 c (qL ..))) h1
  simp only [ex]
  have:=Int.dvd_add h3 h2
  have e:∀a b a' b':Int,a+b-(a'+b')=(a-a')+(b-b'):=fun a b a' b'=>by omega
  rw [e]
  exact this
 | [],_::_,_,_,_,_,h=>h.elim
 | _::_,[],_,_,_,_,h=>h.elim
theorem Dp {p:Int}:∀(cs:List Int) (R R':List Row),Cg p cs R R'→p∣det cs R-det cs R'
 | [],[],[],_=>by simp [det]
 | [],_::_,_::_,_=>by simp [det]
 | c::cs,R,R',h=>QiE (fun A B=>Dp cs A B) R R' [] [] 1 trivial h
theorem Dq {cs:List Int} {R R':List Row} (h:Cg 0 cs R R'):det cs R=det cs R':=by
 have:=Dp cs R R' h
 rw [Int.zero_dvd] at this
 omega
theorem Y6 {d:List Row→Int} {c:Int}:∀(R P:List Row) (s:Int),(∀r∈R,r c=0)→ex d c P R s=0
 | [],_,_,_=>rfl
 | r::R,P,s,h=>by
  rw [ex,h r (qL ..),Y6 R _ _ fun q hq=>h q (qH _ hq)];simp
theorem QeN {c:Int} {cs:List Int} {R:List Row} (h:∀r∈R,r c=0):det (c::cs) R=0:=Y6 R [] 1 h
theorem QgN {c:Int} {cs:List Int} {x:Row} {R:List Row} (h:∀r∈R,r c=0):det (c::cs) (x::R)=x c*det cs R:=by
 show 1*x c*det cs ([]++R)+ex (det cs) c ([]++[x]) R (-1)=_
 rw [Y6 R _ _ h];simp
def un (a:Int):Row:=fun z=>if z=a then 1 else 0
theorem QeO:∀n:Nat,((-1:Int) ^ n)*(-1) ^ n=1
 | 0=>rfl
 | n+1=>by
  rw [jW]
  have:=QeO n
  simp only [jX,Int.mul_one,jI,Int.neg_neg]
  exact this
theorem QgO {d d':List Row→Int} {c:Int} {u:Row} (hu:u c=0) {q:Nat}
  (hd:∀A B:List Row,d (A++u::B)=(-1) ^ (A.length+q)*d' (A++B)) :
  (∀(R P1 P2:List Row) (s:Int),ex d c (P1++u::P2) R s=(-1) ^ (P1.length+q)*ex d' c (P1++P2) R s) ∧
  (∀(A B P:List Row) (s:Int),ex d c P (A++u::B) s=(-1) ^ (P.length+A.length+q+1)*ex d' c P (A++B) s):=by
 have h1:∀(R P1 P2:List Row) (s:Int),ex d c (P1++u::P2) R s=(-1) ^ (P1.length+q)*ex d' c (P1++P2) R s:=by
  intro R
  induction R with
  | nil=>intro P1 P2 s;simp [ex]
  | cons r R ih =>
   intro P1 P2 s
   have e1:=hd P1 (P2++R)
   have e2:=ih P1 (P2++[r]) (-s)
   simp only [ex,qF,qI] at e1 e2 ⊢
   rw [e1,e2,zG,zH]
 refine ⟨h1,?_⟩
 intro A
 induction A with
 | nil =>
  intro B P s
  have e:=h1 B P [] (-s)
  have en:∀(R P:List Row) (s:Int),ex d' c P R (-s)=- ex d' c P R s:=by
   intro R
   induction R with
   | nil=>intro P s;simp [ex]
   | cons r R ih=>intro P s;simp only [ex,ih,jI,Int.neg_add]
  simp only [qO,ex,hu,qR] at e ⊢
  rw [e,en,jH,zE,jW]
  simp [jI,jX]
 | cons a A ih =>
  intro B P s
  have e1:=hd (P++A) B
  have e2:=ih B (P++[a]) (-s)
  simp only [qF,qB,qE,jH] at e1 e2
  simp only [qI,ex,qF]
  rw [e1,e2,zG,qE]
  have k1:P.length+(A.length+1)+q+1=(P.length+A.length+q)+1+1:=by omega
  have k2:P.length+(0+1)+A.length+q+1=(P.length+A.length+q)+1+1:=by omega
  rw [k1,k2,jW,jW]
  simp only [jX,Int.mul_one,jI,Int.neg_neg,zH]
theorem SV {a:Int} (Y:List Int):∀(X:List Int),a∉X→a∉Y→∀A B:List Row,det (X++a::Y) (A++un a::B)=(-1) ^ (A.length+X.length)*det (X++Y) (A++B)
 | [],_,hY,A,B=>by
  have hz:∀A B:List Row,det Y (A++un a::B)=0:=fun A B=>by
   have:det Y (A++un a::B)=det Y (A++(fun _=>0)::B):=Dq (Cg.app (Cg.refl ..) ⟨fun z hz=>by
    have:z≠a:=fun e=>hY (e▸hz)
    simp [un,this],Cg.refl ..⟩)
   rw [this,zero_row (KR Y)]
  have h1:∀(R P1 P2:List Row) (s:Int),ex (det Y) a (P1++un a::P2) R s=0:=by
   intro R
   induction R with
   | nil=>intro P1 P2 s;rfl
   | cons r R ih =>
    intro P1 P2 s
    have e1:=hz P1 (P2++R)
    have e2:=ih P1 (P2++[r]) (-s)
    simp only [ex,qF,qI] at e1 e2 ⊢
    rw [e1,e2];simp
  have key:∀(A P:List Row) (s:Int),ex (det Y) a P (A++un a::B) s=s*(-1) ^ A.length*det Y (P++A++B):=by
   intro A
   induction A with
   | nil =>
    intro P s
    have e:=h1 B P [] (-s)
    simp only [qO,ex,qR] at e ⊢
    rw [e]
    simp [un]
   | cons r A ih =>
    intro P s
    have e1:=hz (P++A) B
    have e2:=ih (P++[r]) (-s)
    simp only [qF,qI,qO] at e1 e2
    simp only [qI,ex,qF]
    rw [e1,e2,qE,jW]
    simp [jI,jX]
  have:=key A [] 1
  simp only [qO,jH,zE]
  show ex (det Y) a [] (A++un a::B) 1=_
  rw [this];simp
 | c::X,hX,hY,A,B=>by
  have hc:a≠c:=fun e=>hX (e▸qL ..)
  have ih:=SV Y X (fun h=>hX (qH _ h)) hY
  have h:=(QgO (c:=c) (u:=un a) (by simp [un,Ne.symm hc]) (q:=X.length) ih).2 A B [] 1
  show ex (det (X++a::Y)) c [] (A++un a::B) 1=_*ex (det (X++Y)) c [] (A++B) 1
  rw [h,jH,qE,Nat.zero_add]
  rfl
def WQ (p:List Int→Bool):List Int→Nat
 | []=>if p []=true then 1 else 0
 | x::L=>WQ p L+WQ (fun F=>p (x::F)) L
theorem ZE:∀{L:List Int} {p q:List Int→Bool},(∀F,F.Sublist L→p F=q F)→WQ p L=WQ q L
 | [],p,q,h=>by rw [WQ,WQ,h [] (List.Sublist.refl _)]
 | x::L,p,q,h=>by
  rw [WQ,WQ,ZE (L:=L) (p:=p) (q:=q) fun F hF=>h F (hF.cons x),ZE (L:=L) (p:=fun F=>p (x::F)) (q:=fun F=>q (x::F)) fun F hF=>h _ (hF.cons_cons x)]
theorem Z4:∀{L:List Int} {p:List Int→Bool},(∀F,F.Sublist L→p F=false)→WQ p L=0
 | [],p,h=>by rw [WQ,h [] (List.Sublist.refl _)];rfl
 | x::L,p,h=>by
  rw [WQ,Z4 (L:=L) (p:=p) fun F hF=>h F (hF.cons x),Z4 (L:=L) (p:=fun F=>p (x::F)) fun F hF=>h _ (hF.cons_cons x)]
theorem Gu {L L':List Int} (hP:L.Perm L'):∀{p:List Int→Bool},(∀F F',(∀x∈F,x∈L)→F.Perm F'→p F=p F')→WQ p L=WQ p L':=by
 induction hP with
 | nil=>intro p _;rfl
 | cons x h ih =>
  intro p hp
  rw [WQ,WQ,ih fun F F' hF hFF=>hp F F' (fun y hy=>qH _ (hF y hy)) hFF]
  congr 1
  exact ih fun F F' hF hFF=>hp _ _ (fun y hy=>(List.mem_cons.1 hy).elim (fun e=>e▸qL ..) fun h=>qH _ (hF y h)) (hFF.cons x)
 | swap x y L =>
  intro p hp
  simp only [WQ]
  have:WQ (fun F=>p (y::x::F)) L=WQ (fun F=>p (x::y::F)) L:=ZE fun F hF=>hp _ _ (fun z hz=>by
   simp only [jN] at hz ⊢
   rcases hz with h | h | h
   ·exact .inl h
   ·exact .inr (.inl h)
   ·exact .inr (.inr (hF.subset h))) (List.Perm.swap x y F)
  rw [this]
  omega
 | trans h1 h2 ih1 ih2 =>
  intro p hp
  rw [ih1 hp]
  exact ih2 fun F F' hF hFF=>hp F F' (fun x hx=>h1.mem_iff.2 (hF x hx)) hFF
theorem Dr {B:List Int} {q:List Int→Bool}:∀{A:List Int} {p r:List Int→Bool},(∀F G,F.Sublist A→G.Sublist B→p (F++G)=(r F&&q G))→WQ p (A++B)=WQ r A*WQ q B
 | [],p,r,h=>by
  have e:WQ p B=WQ (fun G=>r []&&q G) B:=ZE fun G hG=>by have:=h [] G (List.Sublist.refl _) hG;simpa using this
  rw [qO,e,WQ]
  cases hr:r [] with
  | true=>rw [if_pos rfl,Nat.one_mul];exact ZE fun G _=>by simp
  | false=>rw [if_neg (by simp),Nat.zero_mul];exact Z4 fun G _=>by simp
 | x::A,p,r,h=>by
  rw [qI,WQ,WQ,Nat.add_mul,Dr (A:=A) (p:=p) (r:=r) fun F G hF hG=>h F G (hF.cons x) hG,
   Dr (A:=A) (p:=fun F=>p (x::F)) (r:=fun F=>r (x::F)) fun F G hF hG=>h _ _ (hF.cons_cons x) hG]
theorem SX (L:List Int):∀{p:List Int→Bool},WQ p L≤2 ^ L.length:=by
 induction L with
 | nil=>intro p;rw [WQ];split <;> simp
 | cons x L ih =>
  intro p
  have h1:=ih (p:=p)
  have h2:=ih (p:=fun F=>p (x::F))
  rw [WQ,qE,Nat.pow_succ]
  omega
theorem Ds:∀(L:List Int) {p:List Int→Bool} {r:Nat},(∀F,p F=true→F.length=r)→2*WQ p L≤2 ^ L.length∨L=[]
 | [],_,_,_=>.inr rfl
 | [x],p,r,h=>by
  left
  simp only [WQ]
  have h1:=h []
  have h2:=h [x]
  by_cases c:p []=true
  ·by_cases d:p [x]=true
   ·have:=h1 c;have:=h2 d;simp at *;omega
   ·simp [c,d]
  ·by_cases d:p [x]=true
   ·simp [c,d]
   ·simp [c,d]
 | x::y::L,p,r,h=>by
  left
  have h1:=Ds (y::L) h
  have h2:2*WQ (fun F=>p (x::F)) (y::L)≤2 ^ (y::L).length∨(y::L)=[]:=by
   rcases Nat.eq_zero_or_pos r with e | e
   ·left
    rw [Z4 fun F _=>by
     cases c:p (x::F) with
     | false=>rfl
     | true=>have:=h _ c;simp at this;omega]
    exact jE _
   ·exact Ds (y::L) (r:=r-1) fun F hF=>by have:=h _ hF;simp at this;omega
  rcases h1 with h1 | h1
  ·rcases h2 with h2 | h2
   ·rw [WQ,qE,Nat.pow_succ];omega
   ·cases h2
  ·cases h1
theorem Gv {p:List Int→Bool} (h0:p []=true):∀(L:List Int),(∀F,F≠[]→p F=false)→WQ p L=1
 | [],_=>by rw [WQ,if_pos h0]
 | x::L,h=>by rw [WQ,Gv h0 L h,Z4 fun F _=>h _ (by simp)]
end Go.HL.Dt
end
section
open Go Go.HL Go.HL.Dt
namespace Go.Proofs.Ytiejmoglooaalaa
set_option linter.unusedSectionVars false
open Go.Proofs.Try renaming prog → Tp
open Go.HL.HV renaming undef → Ud
def dl (a x:Int):Int:=if a=x then 1 else 0
def ed (l:List St) (t:List Int) (e x y:Int):Int:=(dl (lb l t (sA l e)) x-dl (lb l t (sB l e)) x)*(dl (lb l t (sA l e)) y-dl (lb l t (sB l e)) y)
def Lp (l:List St) (t E:List Int) (x:Int):Row:=fun y=>E.foldr (fun e s=>ed l t e x y+s) 0
theorem Yp (l:List St) (t:List Int) (e:Int) (E2:List Int) (x y:Int):∀E1:List Int,Lp l t (E1++e::E2) x y=ed l t e x y+Lp l t (E1++E2) x y
 | []=>rfl
 | f::E1=>by
  have:=Yp l t e E2 x y E1
  simp only [Lp,qI,qP] at this ⊢
  rw [this];omega
def fo (l:List St) (t:List Int) (r:Nat) (F:List Int):Bool:=decide ((tkT l (t++F)).length=(tkT l t).length+F.length∧F.length=r)
def cnt (l:List St) (t E:List Int) (r:Nat):Nat:=WQ (fo l t r) E
def InR (l:List St) (t:List Int):Prop:=∀k∈t,0≤k∧k<(l.length:Int)
theorem InR.app {l:List St} {s t:List Int} (h:InR l s) (h2:InR l t):InR l (s++t):=fun k hk=>(List.mem_append.1 hk).elim (h k) (h2 k)
theorem InR.one {l:List St} {k:Int} (h:0≤k∧k<(l.length:Int)):InR l [k]:=fun x hx=>by rw [List.mem_singleton.1 hx];exact h
section
variable {l:List St} (he:Jm l=true)
include he
theorem QgP {t:List Int} (ht:InR l t) {e:Int} (h:0≤e∧e<(l.length:Int)) {v:Int} (hv:0≤v∧v<16):lb l (t++[e]) v=WP (min (lb l t (sA l e)) (lb l t (sB l e))) (max (lb l t (sA l e)) (lb l t (sB l e))) (lb l t v):=by
 have g0:(t++[e]).getD t.length 0=e:=by simp [qV]
 have:=J1 he (ht.app (.one h)) (i:=t.length) (by simp) hv
 rw [g0,zI,jJ (by simp)] at this
 exact this
theorem QgQ {t:List Int} (ht:InR l t) {r:Nat} {F F':List Int} (hF:InR l F) (h:F.Perm F'):fo l t r F=fo l t r F':=by
 unfold fo
 rw [h.length_eq,Wi he (ht.app hF) (t':=t++F') fun x=>by rw [qM,qM,h.mem_iff]]
theorem SY {t E E':List Int} (ht:InR l t) (hE:InR l E) (h:E.Perm E') (r:Nat):cnt l t E r=cnt l t E' r :=
 Gu h fun F F' hF hFF=>QgQ he ht (fun x hx=>hE x (hF x hx)) hFF
theorem QeP {t E:List Int} {e:Int} (r:Nat):cnt l t (e::E) (r+1)=cnt l t E (r+1)+if (QB l t).getD (sA l e).toNat 0≠(QB l t).getD (sB l e).toNat 0 then cnt l (t++[e]) E r else 0:=by
 unfold cnt
 rw [WQ]
 congr 1
 have ha:=fun F:List Int=>Gs l (t++[e]) F
 have hs:=XV l t e
 split
 ·rename_i c
  rw [if_pos c] at hs
  refine ZE fun F _=>?_
  have:=ha F
  unfold fo
  rw [List.append_cons]
  rw [decide_eq_decide,qE,hs,qB,qG]
  omega
 ·rename_i c
  rw [if_neg c] at hs
  refine Z4 fun F _=>?_
  have:=ha F
  unfold fo
  rw [List.append_cons]
  rw [hs] at this
  refine decide_eq_false fun h=>?_
  rw [qE] at h
  omega
end
theorem cgm {p:Int} {cs:List Int} {f g:Int→Row}:∀{R:List Int},(∀r∈R,∀z∈cs,p∣f r z-g r z)→Cg p cs (R.map f) (R.map g)
 | [],_=>trivial
 | r::R,h=>⟨h r (qL ..),cgm fun q hq=>h q (qH _ hq)⟩
theorem QmC (m:Nat):(-1:Int) ^ (m+m)=1:=by rw [Int.pow_add];exact QeO m
theorem Du {l:List St} {t:List Int} (K:List Int) (y:Int):∀E:List Int,(∀e∈E,(K.foldr (fun x s=>(dl (lb l t (sA l e)) x-dl (lb l t (sB l e)) x)+s) 0)=0)→K.foldr (fun x s=>Lp l t E x y+s) 0=0
 | [],_=>by induction K with
  | nil=>rfl
  | cons k K ih=>rw [qP,ih (fun e he=>by cases he)];rfl
 | e::E,h=>by
  have h1:=Du K y E fun f hf=>h f (qH _ hf)
  have h2:=h e (qL ..)
  have key:∀K:List Int,K.foldr (fun x s=>Lp l t (e::E) x y+s) 0=(K.foldr (fun x s=>(dl (lb l t (sA l e)) x-dl (lb l t (sB l e)) x)+s) 0)*(dl (lb l t (sA l e)) y-dl (lb l t (sB l e)) y)+K.foldr (fun x s=>Lp l t E x y+s) 0:=by
   intro K
   induction K with
   | nil=>simp
   | cons k K ih =>
    rw [qP,qP,qP,ih,Int.add_mul]
    have:Lp l t (e::E) k y=ed l t e k y+Lp l t E k y:=rfl
    rw [this,ed];omega
  rw [key,h1,h2];simp
theorem QeQ {K:List Int} (hn:K.Nodup) (a:Int):K.foldr (fun x s=>dl a x+s) 0=if a∈K then 1 else 0:=by
 induction K with
 | nil=>rfl
 | cons k K ih =>
  obtain ⟨n1,n2⟩:=List.nodup_cons.1 hn
  rw [qP,ih n2,dl]
  by_cases c:a=k
  ·subst c;rw [if_pos rfl,if_neg n1,if_pos (qL ..)];rfl
  ·rw [if_neg c]
   by_cases d:a∈K
   ·rw [if_pos d,if_pos (qH _ d)];rfl
   ·rw [if_neg d,if_neg (fun h=>(List.mem_cons.1 h).elim c d)];rfl
theorem QmD {K:List Int} (a b:Int):K.foldr (fun x s=>(dl a x-dl b x)+s) 0=K.foldr (fun x s=>dl a x+s) 0-K.foldr (fun x s=>dl b x+s) 0:=by
 induction K with
 | nil=>rfl
 | cons k K ih=>rw [qP,qP,qP,ih];omega
theorem QeR (S:List Row) (x:Row) (y:Int):S.foldr (fun r y=>ax y 1 r) x y=x y+S.foldr (fun r s=>r y+s) 0:=by
 induction S with
 | nil=>simp
 | cons r S ih=>rw [qP,qP,ax,ih];omega
theorem Qa1 {l:List St} (he:Jm l=true) {t K F:List Int} (ht:InR l t) (hF:InR l F) (hn:K.Nodup) (hK:∀x∈K,(0≤x∧x<16)∧lb l t x=x) (h0:K≠[])
  (hc:∀e∈F,(lb l t (sA l e)∈K∧lb l t (sB l e)∈K)∨lb l t (sA l e)=lb l t (sB l e)):fo l t K.length F=false:=by
 refine decide_eq_false fun ⟨h1,h2⟩=>?_
 have htF:=ht.app hF
 have r1:=KO he ht
 have r2:=KO he htF
 let κ:Int→Int:=fun v=>if lb l t v∈K then -1 else lb l t v
 have hκ:∀u v:Int,Cn l (t++F) u v→κ u=κ v:=fun u v h=>by
  induction h with
  | refl v=>rfl
  | edge hk =>
   rcases List.mem_append.1 hk with c | c
   ·have e:=Ck he ht c
    show (if _ then _ else _)=(if _ then _ else _)
    rw [e]
   ·rcases hc _ c with ⟨d1,d2⟩ | d
    ·show (if _ then _ else _)=(if _ then _ else _)
     rw [if_pos d1,if_pos d2]
    ·show (if _ then _ else _)=(if _ then _ else _)
     rw [d]
  | symm _ ih=>exact ih.symm
  | trans _ _ a b=>exact a.trans b
 have mono:∀{v:Int},0≤v∧v<16→lb l (t++F) v≤lb l t v:=fun hv=>Gm he ht htF (fun k hk=>qS _ hk) hv
 have st:∀v:Nat,v<16→lb l t (v:Int)=(v:Int)→(v:Int)∉K→lb l (t++F) (v:Int)=(v:Int):=fun v hv h hvK=>by
  have hr:0≤(v:Int)∧(v:Int)<16:=by omega
  have a1:=WY he htF hr
  have a2:=hκ _ _ (Jn he htF hr)
  have a3:=WY he ht (v:=lb l (t++F) (v:Int)) (by omega)
  have e:κ (v:Int)=(v:Int):=by show (if _ then _ else _)=_;rw [h,if_neg hvK]
  rw [e] at a2
  have a2:(if lb l t (lb l (t++F) (v:Int))∈K then (-1:Int) else lb l t (lb l (t++F) (v:Int)))=(v:Int):=a2
  split at a2 <;> omega
 obtain ⟨k0,hk0⟩:=wN K h0
 obtain ⟨k1,k2⟩:=hK k0 hk0
 have b1:=WY he htF k1
 have b2:=hκ _ _ (Jn he htF k1)
 generalize hr:lb l (t++F) k0=r at *
 have hrr:0≤r∧r<16:=by omega
 have b3:=WY he ht hrr
 have e0:κ k0=-1:=by show (if _ then _ else _)=_;rw [k2,if_pos hk0]
 rw [e0] at b2
 have b2:(if lb l t r∈K then (-1:Int) else lb l t r)=-1:=b2
 have hrK:lb l t r∈K:=by
  by_cases c:lb l t r∈K
  ·exact c
  ·rw [if_neg c] at b2;omega
 have b4:=YQ he htF ((Jn he ht hrr).mono fun k hk=>qS _ hk)
 rw [b1.2.2] at b4
 have b5:=WY he htF (v:=lb l t r) (by omega)
 have hrt:lb l t r=r:=by omega
 rw [hrt] at hrK
 let R:List Int:=((qJ 16).filter fun (v:Nat)=>decide ((QB l t).getD v 0=(v:Int))).map fun (v:Nat)=>(v:Int)
 let R':List Int:=((qJ 16).filter fun (v:Nat)=>decide ((QB l (t++F)).getD v 0=(v:Int))).map fun (v:Nat)=>(v:Int)
 have hRl:R.length=rt (QB l t):=by simp only [R,qD];rfl
 have hRl':R'.length=rt (QB l (t++F)):=by simp only [R',qD];rfl
 have hRm:∀x,x∈R↔(0≤x∧x<16)∧lb l t x=x:=fun x=>by
  simp only [R,wF,qZ,wG,decide_eq_true_eq]
  constructor
  ·rintro ⟨v,⟨v1,v2⟩,rfl⟩
   exact ⟨by omega,by rw [lb,qU];exact v2⟩
  ·rintro ⟨h1,h2⟩
   exact ⟨x.toNat,⟨by omega,by rw [lb] at h2;omega⟩,by omega⟩
 have hRm':∀x,x∈R'↔(0≤x∧x<16)∧lb l (t++F) x=x:=fun x=>by
  simp only [R',wF,qZ,wG,decide_eq_true_eq]
  constructor
  ·rintro ⟨v,⟨v1,v2⟩,rfl⟩
   exact ⟨by omega,by rw [lb,qU];exact v2⟩
  ·rintro ⟨h1,h2⟩
   exact ⟨x.toNat,⟨by omega,by rw [lb] at h2;omega⟩,by omega⟩
 have hRn:R.Nodup:=by
  simp only [R]
  rw [List.Nodup,List.pairwise_map]
  exact (List.nodup_range.sublist qT).imp fun {a b} h c=>h (by omega)
 let R0:=R.filter fun x=>decide (x∉K)
 have c1:=Z3 (a:=R) (b:=R0++K) hRn fun x hx=>by
  by_cases c:x∈K
  ·exact jP _ c
  ·exact qS _ (List.mem_filter.2 ⟨hx,decide_eq_true c⟩)
 have c2:=Z3 (a:=r::R0) (b:=R') (List.nodup_cons.2 ⟨fun h=>of_decide_eq_true (List.mem_filter.1 h).2 hrK,hRn.sublist qT⟩) fun x hx=>by
  rcases List.mem_cons.1 hx with e | e
  ·subst e;exact (hRm' _).2 ⟨hrr,b1.2.2⟩
  ·obtain ⟨g1,g2⟩:=List.mem_filter.1 e
   obtain ⟨g3,g4⟩:=(hRm x).1 g1
   have:=st x.toNat (by omega) (by rw [show ((x.toNat:Nat):Int)=x by omega];exact g4) (by rw [show ((x.toNat:Nat):Int)=x by omega];exact of_decide_eq_true g2)
   rw [show ((x.toNat:Nat):Int)=x by omega] at this
   exact (hRm' x).2 ⟨g3,this⟩
 rw [qB] at c1
 rw [qE] at c2
 omega
theorem mt {l:List St} (he:Jm l=true) {χ:Int→Int}:∀(N:Nat) (t K E:List Int),K.length+E.length≤N→InR l t→InR l E→K.Nodup→(∀x∈K,(0≤x∧x<16)∧lb l t x=x) →
  (∀e∈E,χ (lb l t (sA l e))=χ (lb l t (sB l e)))→(∀x y,(0≤x∧x<16)∧lb l t x=x→(0≤y∧y<16)∧lb l t y=y→x∉K→y∉K→χ x=χ y→x=y) →
  det K (K.map (Lp l t E))=(cnt l t E K.length:Int):=by
 intro N
 induction N with
 | zero =>
  intro t K E h _ _ _ _ _ _
  have e1:K=[]:=List.length_eq_zero_iff.1 (by omega)
  have e2:E=[]:=List.length_eq_zero_iff.1 (by omega)
  subst e1;subst e2
  simp [det,cnt,WQ,fo]
 | succ N ih =>
  intro t K E hlen ht hE hn hK hC1 hC2
  have lbr:∀e∈E,((0≤lb l t (sA l e)∧lb l t (sA l e)<16)∧lb l t (lb l t (sA l e))=lb l t (sA l e))∧((0≤lb l t (sB l e)∧lb l t (sB l e)<16)∧lb l t (lb l t (sB l e))=lb l t (sB l e)):=fun e hm=>by
   obtain ⟨ea,eb⟩:=Ks he (hE e hm)
   exact ⟨⟨Ci he ht ea,(WY he ht ea).2.2⟩,Ci he ht eb,(WY he ht eb).2.2⟩
  by_cases hx:∃e∈E,(lb l t (sA l e)∈K∧lb l t (sB l e)∉K)∨(lb l t (sA l e)∉K∧lb l t (sB l e)∈K)
  ·obtain ⟨e,heE,hcase⟩:=hx
   obtain ⟨⟨ra,la⟩,rb,lbb⟩:=lbr e heE
   have hCe:=hC1 e heE
   have her:=hE e heE
   obtain ⟨a,b,haK,hbK,hab,hra,hrb,hla,hlb,hχ,hsym,hed⟩:∃a b,a∈K∧b∉K∧a≠b∧(0≤a∧a<16)∧(0≤b∧b<16)∧lb l t a=a∧lb l t b=b∧χ a=χ b ∧
     ((lb l t (sA l e)=a∧lb l t (sB l e)=b)∨(lb l t (sA l e)=b∧lb l t (sB l e)=a))∧∀x∈K,∀y∈K,ed l t e x y=dl a x*dl a y:=by
    rcases hcase with ⟨c1,c2⟩ | ⟨c1,c2⟩
    ·refine ⟨_,_,c1,c2,fun c=>c2 (c▸c1),ra,rb,la,lbb,hCe,.inl ⟨rfl,rfl⟩,fun x hx y hy=>?_⟩
     have n1:lb l t (sB l e)≠x:=fun c=>c2 (c▸hx)
     have n2:lb l t (sB l e)≠y:=fun c=>c2 (c▸hy)
     simp only [ed,dl,if_neg n1,if_neg n2,Int.sub_zero]
    ·refine ⟨_,_,c2,c1,fun c=>c1 (c▸c2),rb,ra,lbb,la,hCe.symm,.inr ⟨rfl,rfl⟩,fun x hx y hy=>?_⟩
     have n1:lb l t (sA l e)≠x:=fun c=>c1 (c▸hx)
     have n2:lb l t (sA l e)≠y:=fun c=>c1 (c▸hy)
     simp only [ed,dl,if_neg n1,if_neg n2,Int.zero_sub,Int.neg_mul_neg]
   obtain ⟨E1,E2,rfl⟩:=zP heE
   have hE':InR l (E1++E2):=fun x hx=>hE x (by simp only [qM,jN] at hx ⊢;rcases hx with h | h;exact .inl h;exact .inr (.inr h))
   have hin:∀x∈E1++E2,x∈E1++e::E2:=fun x hx=>by simp only [qM,jN] at hx ⊢;rcases hx with h | h;exact .inl h;exact .inr (.inr h)
   obtain ⟨X,Y,rfl⟩:=zP haK
   have hne:∀x∈X++Y,x≠a:=fun x hx c=>by
    subst c
    have h:=hn
    rw [List.nodup_append] at h
    obtain ⟨_,h2,h3⟩:=h
    rcases List.mem_append.1 hx with q | q
    ·exact h3 x q x (qL ..) rfl
    ·exact (List.nodup_cons.1 h2).1 q
   have hnX:a∉X:=fun h=>hne a (qS _ h) rfl
   have hnY:a∉Y:=fun h=>hne a (jP _ h) rfl
   have hsub:∀x∈X++Y,x∈X++a::Y:=fun x hx=>by simp only [qM,jN] at hx ⊢;rcases hx with h | h;exact .inl h;exact .inr (.inr h)
   have hnXY:(X++Y).Nodup:=hn.sublist ((List.Sublist.refl X).append (List.sublist_cons_self a Y))
   have hrow:∀x∈X++Y,∀y∈X++a::Y,(0:Int)∣Lp l t (E1++e::E2) x y-Lp l t (E1++E2) x y:=fun x hx y hy=>by
    rw [Yp,hed x (hsub x hx) y hy,dl,if_neg (fun c=>hne x hx c.symm),Int.zero_mul]
    simp
   have hR:Cg 0 (X++a::Y) ((X++a::Y).map (Lp l t (E1++e::E2))) (X.map (Lp l t (E1++E2))++ax (Lp l t (E1++E2) a) 1 (un a)::Y.map (Lp l t (E1++E2))):=by
    rw [jV,jU]
    refine Cg.app (cgm fun x hx y hy=>hrow x (qS _ hx) y hy) ⟨fun y hy=>?_,cgm fun x hx y hy=>hrow x (jP _ hx) y hy⟩
    rw [Yp,hed a haK y hy,ax,un,dl,dl,if_pos rfl]
    by_cases c:a=y
    ·rw [if_pos c,if_pos c.symm];simp;omega
    ·rw [if_neg c,if_neg (fun d=>c d.symm)];simp
   rw [Dq hR,KR (X++a::Y),Int.one_mul,SV Y X hnX hnY,qD,QmC,Int.one_mul]
   have i1:=ih t (X++a::Y) (E1++E2) (by simp only [qB,qE] at hlen ⊢;omega) ht hE' hn hK (fun f hf=>hC1 f (hin f hf)) hC2
   rw [jV,jU] at i1
   rw [i1]
   have htt:=ht.app (.one her)
   have hS:∀v,0≤v∧v<16→lb l (t++[e]) v=WP (min a b) (max a b) (lb l t v):=fun v hv=>by
    rw [QgP he ht her hv]
    rcases hsym with ⟨s1,s2⟩ | ⟨s1,s2⟩
    ·rw [s1,s2]
    ·rw [s1,s2,Int.min_comm,Int.max_comm]
   have hroot:∀x∈X++Y,lb l (t++[e]) x=x:=fun x hx=>by
    obtain ⟨k1,k2⟩:=hK x (hsub x hx)
    rw [hS x k1,k2,WP]
    have h1:=hne x hx
    have h2:x≠b:=fun c=>hbK (c▸hsub x hx)
    rw [if_neg (by omega)]
   have hdl:∀v,0≤v∧v<16→∀x∈X++Y,dl (lb l (t++[e]) v) x=dl (lb l t v) x:=fun v hv x hx=>by
    have h1:=hne x hx
    have h2:x≠b:=fun c=>hbK (c▸hsub x hx)
    rw [hS v hv,WP,dl,dl]
    split
    ·rename_i c
     rw [if_neg (by omega),if_neg (by omega)]
    ·rfl
   have hR2:Cg 0 (X++Y) (X.map (Lp l t (E1++E2))++Y.map (Lp l t (E1++E2))) ((X++Y).map (Lp l (t++[e]) (E1++E2))):=by
    rw [← jV]
    refine cgm fun x hx y hy=>?_
    have:Lp l t (E1++E2) x y=Lp l (t++[e]) (E1++E2) x y:=by
     have key:∀E:List Int,InR l E→Lp l t E x y=Lp l (t++[e]) E x y:=by
      intro E
      induction E with
      | nil=>intro _;rfl
      | cons f E ihE =>
       intro hEr
       have h1:=ihE fun z hz=>hEr z (qH _ hz)
       obtain ⟨fa,fb⟩:=Ks he (hEr f (qL ..))
       show ed l t f x y+Lp l t E x y=ed l (t++[e]) f x y+Lp l (t++[e]) E x y
       rw [h1,ed,ed,hdl _ fa x hx,hdl _ fb x hx,hdl _ fa y hy,hdl _ fb y hy]
     exact key _ hE'
    rw [this];simp
   rw [Dq hR2]
   have hch:∀v,0≤v∧v<16→χ (lb l (t++[e]) v)=χ (lb l t v):=fun v hv=>by
    rw [hS v hv,WP]
    split
    ·rename_i c
     rw [c]
     rcases zN a b with q | q
     ·rw [zX q,zY q];exact hχ
     ·rw [zZ q,wA q];exact hχ.symm
    ·rfl
   have i2:=ih (t++[e]) (X++Y) (E1++E2) (by simp only [qB,qE] at hlen ⊢;omega) htt hE' hnXY (fun x hx=>⟨(hK x (hsub x hx)).1,hroot x hx⟩)
    (fun f hf=>by
     obtain ⟨fa,fb⟩:=Ks he (hE' f hf)
     rw [hch _ fa,hch _ fb]
     exact hC1 f (hin f hf))
    (fun x y ⟨x1,x2⟩ ⟨y1,y2⟩ xK yK hxy=>by
     have rt0:∀z,(0≤z∧z<16)→lb l (t++[e]) z=z→z∉X++Y→lb l t z=z∧z≠max a b∧(z=a∨z∉X++a::Y):=fun z z1 z2 zK=>by
      have h1:=Gm he ht htt (fun k hk=>qS _ hk) z1
      have h2:=WY he ht z1
      have h3:lb l t z=z:=by omega
      refine ⟨h3,fun c=>?_,?_⟩
      ·rw [hS z z1,h3,WP,if_pos c] at z2
       omega
      ·by_cases c:z=a
       ·exact .inl c
       ·right
        intro h
        simp only [qM,jN] at h zK
        rcases h with h | h | h
        ·exact zK (.inl h)
        ·exact c h
        ·exact zK (.inr h)
     obtain ⟨p1,p2,p3⟩:=rt0 x x1 x2 xK
     obtain ⟨q1,q2,q3⟩:=rt0 y y1 y2 yK
     rcases p3 with p3 | p3
     ·rcases q3 with q3 | q3
      ·rw [p3,q3]
      ·-- y has the part of b
       exfalso
       have:y=b:=hC2 y b ⟨y1,q1⟩ ⟨hrb,hlb⟩ q3 hbK (by rw [← hxy,p3];exact hχ)
       omega
     ·rcases q3 with q3 | q3
      ·exfalso
       have:x=b:=hC2 x b ⟨x1,p1⟩ ⟨hrb,hlb⟩ p3 hbK (by rw [hxy,q3];exact hχ)
       omega
      ·exact hC2 x y ⟨x1,p1⟩ ⟨y1,q1⟩ p3 q3 hxy)
   rw [i2]
   have hj:(QB l t).getD (sA l e).toNat 0≠(QB l t).getD (sB l e).toNat 0:=by
    show lb l t (sA l e)≠lb l t (sB l e)
    rcases hsym with ⟨s1,s2⟩ | ⟨s1,s2⟩
    ·rw [s1,s2];exact hab
    ·rw [s1,s2];exact hab.symm
   have hl:(X++a::Y).length=(X++Y).length+1:=by simp only [qB,qE];omega
   rw [SY he ht hE (List.perm_middle (l₁:=E1) (l₂:=E2) (a:=e)),hl,QeP he (t:=t) (E:=E1++E2) (e:=e) (X++Y).length,if_pos hj]
   omega
  ·-- no street leads out of K
   have hno:∀e∈E,(lb l t (sA l e)∈K∧lb l t (sB l e)∈K)∨(lb l t (sA l e)∉K∧lb l t (sB l e)∉K∧lb l t (sA l e)=lb l t (sB l e)):=fun e hm=>by
    by_cases c1:lb l t (sA l e)∈K
    ·by_cases c2:lb l t (sB l e)∈K
     ·exact .inl ⟨c1,c2⟩
     ·exact absurd ⟨e,hm,.inl ⟨c1,c2⟩⟩ hx
    ·by_cases c2:lb l t (sB l e)∈K
     ·exact absurd ⟨e,hm,.inr ⟨c1,c2⟩⟩ hx
     ·obtain ⟨h1,h2⟩:=lbr e hm
      exact .inr ⟨c1,c2,hC2 _ _ h1 h2 c1 c2 (hC1 e hm)⟩
   match K,hn,hK,hno with
   | [],_,_,_ =>
    have:cnt l t E 0=1:=Gv (by simp [fo]) E fun F hF=>decide_eq_false fun h=>hF (List.length_eq_zero_iff.1 h.2)
    rw [jH,this];rfl
   | k::K,hn,hK,hno =>
    have h0:cnt l t E (k::K).length=0:=Z4 fun F hF=>Qa1 he ht (fun x hx=>hE x (hF.subset hx)) hn hK (by simp) fun e hm=>by
     rcases hno e (hF.subset hm) with h | h
     ·exact .inl h
     ·exact .inr h.2.2
    rw [h0]
    have hz:∀y,(k::K).foldr (fun x s=>Lp l t E x y+s) 0=0:=fun y=>Du (k::K) y E fun e hm=>by
     rw [QmD,QeQ hn,QeQ hn]
     rcases hno e hm with ⟨h1,h2⟩ | ⟨h1,h2,_⟩
     ·rw [if_pos h1,if_pos h2];rfl
     ·rw [if_neg h1,if_neg h2];rfl
    have h1:=Gt (KR (k::K)) (Y5 (k::K)) (Lp l t E k) (K.map (Lp l t E)) (K.map (Lp l t E)) fun r hr=>hr
    rw [jU,← h1]
    have h2:det (k::K) ((K.map (Lp l t E)).foldr (fun r y=>ax y 1 r) (Lp l t E k)::K.map (Lp l t E))=det (k::K) ([]++(fun _=>0)::K.map (Lp l t E)):=Dq ⟨fun y _=>by
     rw [QeR,List.foldr_map]
     have:=hz y
     rw [qP] at this
     rw [this];simp,Cg.refl ..⟩
    rw [h2,zero_row (KR (k::K))];rfl
theorem Gw {K2:List Int} {R2:List Row}:∀{K1:List Int} {R1:List Row},R1.length=K1.length→(∀r∈R2,∀c∈K1,r c=0)→det (K1++K2) (R1++R2)=det K1 R1*det K2 R2
 | [],R1,h,_=>by rw [List.length_eq_zero_iff.1 h];simp [det]
 | c::K1,R1,h,hz=>by
  have key:∀(R P:List Row) (s:Int),P.length+R.length=K1.length+1→ex (det (K1++K2)) c P (R++R2) s=ex (det K1) c P R s*det K2 R2:=by
   intro R
   induction R with
   | nil =>
    intro P s _
    rw [qO,Y6 R2 P s fun r hr=>hz r hr c (qL ..)]
    simp [ex]
   | cons r R ih =>
    intro P s hl
    rw [qE] at hl
    have h1:=Gw (K2:=K2) (R2:=R2) (K1:=K1) (R1:=P++R) (by rw [qB];omega) fun r hr c hc=>hz r hr c (qH _ hc)
    have h2:=ih (P++[r]) (-s) (by rw [qB,qG];omega)
    rw [qF] at h1
    rw [qI,ex,ex,h1,h2,Int.add_mul];simp only [zQ]
  exact key R1 [] 1 (by rw [h,qE,jH];omega)
def vt (l:List St) (P E:List Int) (n:Nat) (top:Int):List Int:=((qJ n).filter fun (v:Nat)=>decide (lb l P (v:Int)=(v:Int)∧lb l (P++E) (v:Int)=top)).map fun (v:Nat)=>(v:Int)
theorem vt_mem {l:List St} {P E:List Int} {n:Nat} {top x:Int}:x∈vt l P E n top↔(0≤x∧x<(n:Int))∧lb l P x=x∧lb l (P++E) x=top:=by
 simp only [vt,wF,qZ,wG,decide_eq_true_eq]
 constructor
 ·rintro ⟨v,⟨v1,v2,v3⟩,rfl⟩
  exact ⟨by omega,v2,v3⟩
 ·rintro ⟨h1,h2,h3⟩
  have e:((x.toNat:Nat):Int)=x:=by omega
  exact ⟨x.toNat,⟨by omega,by rw [e];exact h2,by rw [e];exact h3⟩,e⟩
theorem XY (l:List St) (P E:List Int) (n:Nat) (top:Int):(vt l P E n top).Nodup:=by
 rw [vt,List.Nodup,List.pairwise_map]
 exact (List.nodup_range.sublist qT).imp fun {a b} h c=>h (by omega)
structure Cut (cut:List Int→List Int):Prop where
 sub:∀V,(cut V).Sublist V
 len:∀V,(cut V).length=V.length-1
theorem Cut.one {cut:List Int→List Int} (h:Cut cut) {V:List Int} (hn:V.Nodup) {x y:Int} (hx:x∈V) (hy:y∈V) (hx':x∉cut V) (hy':y∉cut V):x=y:=by
 by_cases e:x=y
 ·exact e
 ·exfalso
  have:=Z3 (a:=x::y::cut V) (b:=V) (List.nodup_cons.2 ⟨fun c=>(List.mem_cons.1 c).elim e hx',List.nodup_cons.2 ⟨hy',hn.sublist (h.sub V)⟩⟩) fun z hz=>by
   rcases List.mem_cons.1 hz with c | c
   ·exact c▸hx
   ·rcases List.mem_cons.1 c with c | c
    ·exact c▸hy
    ·exact (h.sub V).subset c
  have:=h.len V
  simp only [qE] at *
  omega
theorem XZ:Cut List.dropLast:=⟨fun V=>List.dropLast_sublist V,fun V=>List.length_dropLast⟩
theorem cut_first:Cut List.tail:=⟨fun V=>List.tail_sublist V,fun V=>List.length_tail⟩
def VA (cut:List Int→List Int) (l:List St) (P E:List Int) (n:Nat):Nat→List Int
 | 0=>[]
 | m+1=>VA cut l P E n m++cut (vt l P E n (m:Int))
def Xv (cut:List Int→List Int) (l:List St) (P E:List Int) (n:Nat):Nat→Int
 | 0=>1
 | m+1=>Xv cut l P E n m*det (cut (vt l P E n (m:Int))) ((cut (vt l P E n (m:Int))).map (Lp l P E))
theorem kall_mem {cut:List Int→List Int} {l:List St} {P E:List Int} {n:Nat} {x:Int}:∀{m:Nat},x∈VA cut l P E n m↔∃top:Nat,top<m∧x∈cut (vt l P E n (top:Int))
 | 0=>by simp [VA]
 | m+1=>by
  rw [VA,qM,kall_mem]
  constructor
  ·rintro (⟨t,h1,h2⟩ | h)
   ·exact ⟨t,by omega,h2⟩
   ·exact ⟨m,by omega,h⟩
  ·rintro ⟨t,h1,h2⟩
   rcases Nat.lt_or_eq_of_le (Nat.le_of_lt_succ h1) with c | c
   ·exact .inl ⟨t,c,h2⟩
   ·subst c;exact .inr h2
section
variable {n:Int} {l:List St} (hnet:Wh n l=true) {P E:List Int} (hP:InR l P) (hE:InR l E) {cut:List Int→List Int} (hcut:Cut cut)
include hnet hP hE
theorem KW {v:Int} (hv:0≤v∧v<16):lb l (P++E) (lb l P v)=lb l (P++E) v :=
 YQ (QG hnet) (hP.app hE) ((Jn (QG hnet) hP hv).mono fun k hk=>qS _ hk)
theorem SZ {e:Int} (h:e∈E):lb l (P++E) (sA l e)=lb l (P++E) (sB l e):=Ck (QG hnet) (hP.app hE) (jP _ h)
theorem QgR {x y:Int} (hx:(0≤x∧x<16)∧lb l P x=x) (hy:(0≤y∧y<16)∧lb l P y=y) (hne:lb l (P++E) x≠lb l (P++E) y):Lp l P E x y=0:=by
 have he:=QG hnet
 have key:∀F:List Int,(∀e∈F,e∈E)→Lp l P F x y=0:=by
  intro F
  induction F with
  | nil=>intro _;rfl
  | cons e F ih =>
   intro hF
   have heE:=hF e (qL ..)
   obtain ⟨ea,eb⟩:=Ks he (hE e heE)
   have a1:=KW hnet hP hE ea
   have b1:=KW hnet hP hE eb
   have c1:=SZ hnet hP hE heE
   show ed l P e x y+Lp l P F x y=0
   rw [ih fun z hz=>hF z (qH _ hz),ed,dl,dl,dl,dl]
   have q1:lb l P (sA l e)=x→lb l (P++E) (sA l e)=lb l (P++E) x:=fun c=>by rw [← a1,c]
   have q2:lb l P (sB l e)=x→lb l (P++E) (sA l e)=lb l (P++E) x:=fun c=>by rw [c1,← b1,c]
   have q3:lb l P (sA l e)=y→lb l (P++E) (sA l e)=lb l (P++E) y:=fun c=>by rw [← a1,c]
   have q4:lb l P (sB l e)=y→lb l (P++E) (sA l e)=lb l (P++E) y:=fun c=>by rw [c1,← b1,c]
   by_cases d1:lb l P (sA l e)=x∨lb l P (sB l e)=x
   ·have d2:¬lb l P (sA l e)=y:=fun c=>hne (by rcases d1 with d | d;rw [← q1 d,q3 c];rw [← q2 d,q3 c])
    have d3:¬lb l P (sB l e)=y:=fun c=>hne (by rcases d1 with d | d;rw [← q1 d,q4 c];rw [← q2 d,q4 c])
    rw [if_neg d2,if_neg d3];simp
   ·rw [if_neg fun c=>d1 (.inl c),if_neg fun c=>d1 (.inr c)];simp
 exact key E fun e h=>h
end
section
variable {n:Int} {l:List St} (hnet:Wh n l=true) {P E:List Int} (hP:InR l P) (hE:InR l E) {cut:List Int→List Int} (hcut:Cut cut)
include hnet hP hE
include hcut
theorem Qc1 {m:Nat} {x:Int} (h:x∈VA cut l P E n.toNat m):(0≤x∧x<16)∧lb l P x=x:=by
 obtain ⟨⟨n1,n2⟩,_⟩:=Qx hnet
 obtain ⟨t,_,h2⟩:=kall_mem.1 h
 have:=vt_mem.1 ((hcut.sub _).subset h2)
 exact ⟨by omega,this.2.1⟩
theorem Dv:∀m,(VA cut l P E n.toNat m).Nodup
 | 0=>zW
 | m+1=>by
  rw [VA]
  refine List.nodup_append.2 ⟨Dv m,(XY ..).sublist (hcut.sub _),fun a ha b hb c=>?_⟩
  subst c
  obtain ⟨t,h1,h2⟩:=kall_mem.1 ha
  have e1:=(vt_mem.1 ((hcut.sub _).subset h2)).2.2
  have e2:=(vt_mem.1 ((hcut.sub _).subset hb)).2.2
  omega
theorem S0:∀m,Xv cut l P E n.toNat m=det (VA cut l P E n.toNat m) ((VA cut l P E n.toNat m).map (Lp l P E))
 | 0=>rfl
 | m+1=>by
  obtain ⟨⟨n1,n2⟩,_⟩:=Qx hnet
  rw [Xv,S0 m,VA,jV,Gw (by rw [qD])]
  intro r hr c hc
  obtain ⟨x,hx,rfl⟩:=List.mem_map.1 hr
  have hx':=vt_mem.1 ((hcut.sub _).subset hx)
  obtain ⟨t,h1,h2⟩:=kall_mem.1 hc
  have hc':=vt_mem.1 ((hcut.sub _).subset h2)
  exact QgR hnet hP hE ⟨by omega,hx'.2.1⟩ ⟨by omega,hc'.2.1⟩ (by rw [hx'.2.2,hc'.2.2];omega)
theorem Dw:Xv cut l P E n.toNat n.toNat=(cnt l P E (VA cut l P E n.toNat n.toNat).length:Int):=by
 have he:=QG hnet
 obtain ⟨⟨n1,n2⟩,_⟩:=Qx hnet
 have hE':∀k,0≤k∧k<(l.length:Int)→sA l k<n∧sB l k<n:=fun k hk=>by have:=Kv hnet hk;omega
 rw [S0 hnet hP hE hcut]
 refine mt he (χ:=fun v=>lb l (P++E) v) _ P _ E (qC _) hP hE (Dv hnet hP hE hcut _) (fun x hx=>Qc1 hnet hP hE hcut hx) (fun e hm=>?_) fun x y hx hy hxK hyK hxy=>?_
 ·obtain ⟨ea,eb⟩:=Ks he (hE e hm)
  show lb l (P++E) (lb l P (sA l e))=lb l (P++E) (lb l P (sB l e))
  rw [KW hnet hP hE ea,KW hnet hP hE eb,SZ hnet hP hE hm]
 ·have hxy:lb l (P++E) x=lb l (P++E) y:=hxy
  have o1:=Dm hE' (hP.app hE) (Jn he (hP.app hE) hx.1)
  have o2:=Dm hE' (hP.app hE) (Jn he (hP.app hE) hy.1)
  have r1:=WY he (hP.app hE) hx.1
  have r2:=WY he (hP.app hE) hy.1
  by_cases cx:x<n
  ·have hyn:y<n:=by omega
   have htop:lb l (P++E) x<n:=by omega
   have v1:x∈vt l P E n.toNat (((lb l (P++E) x).toNat:Nat):Int):=vt_mem.2 ⟨by omega,hx.2,by omega⟩
   have v2:y∈vt l P E n.toNat (((lb l (P++E) x).toNat:Nat):Int):=vt_mem.2 ⟨by omega,hy.2,by omega⟩
   exact hcut.one (XY ..) v1 v2 (fun c=>hxK (kall_mem.2 ⟨_,by omega,c⟩)) (fun c=>hyK (kall_mem.2 ⟨_,by omega,c⟩))
  ·omega
theorem Dx:(VA cut l P E n.toNat n.toNat).length+(tkT l P).length=(tkT l (P++E)).length:=by
 have he:=QG hnet
 obtain ⟨⟨n1,n2⟩,_⟩:=Qx hnet
 have r1:=Qb0 hnet hP
 have r2:=Qb0 hnet (hP.app hE)
 have hE':∀k,0≤k∧k<(l.length:Int)→sA l k<n∧sB l k<n:=fun k hk=>by have:=Kv hnet hk;omega
 have key:∀m:Nat,(VA cut l P E n.toNat m).length+((qJ m).filter fun (t:Nat)=>decide (vt l P E n.toNat (t:Int)≠[])).length=((rts l P n.toNat).filter fun (v:Nat)=>decide (lb l (P++E) (v:Int)<(m:Int))).length:=by
  intro m
  induction m with
  | zero =>
   have:((rts l P n.toNat).filter fun (v:Nat)=>decide (lb l (P++E) (v:Int)<((0:Nat):Int)))=[]:=List.filter_eq_nil_iff.2 fun v hv h=>by
    have hv:=List.mem_range.1 (List.mem_filter.1 hv).1
    have:=WY he (hP.app hE) (v:=(v:Int)) (by omega)
    have:=of_decide_eq_true h
    omega
   rw [this];rfl
  | succ m ih =>
   have h1:((rts l P n.toNat).filter fun (v:Nat)=>decide (lb l (P++E) (v:Int)<((m+1:Nat):Int))).length=((rts l P n.toNat).filter fun (v:Nat)=>decide (lb l (P++E) (v:Int)<(m:Int))).length+(vt l P E n.toNat (m:Int)).length:=by
    have e:(vt l P E n.toNat (m:Int)).length=((rts l P n.toNat).filter fun (v:Nat)=>decide (lb l (P++E) (v:Int)=(m:Int))).length:=by
     rw [vt,qD,rts,List.filter_filter]
     refine congrArg _ (zD fun v _=>?_)
     rw [← Bool.decide_and,decide_eq_decide]
     exact ⟨fun h=>⟨h.2,h.1⟩,fun h=>⟨h.2,h.1⟩⟩
    rw [e]
    have gen:∀s:List Nat,(s.filter fun (v:Nat)=>decide (lb l (P++E) (v:Int)<((m+1:Nat):Int))).length=(s.filter fun (v:Nat)=>decide (lb l (P++E) (v:Int)<(m:Int))).length+(s.filter fun (v:Nat)=>decide (lb l (P++E) (v:Int)=(m:Int))).length:=by
     intro s
     induction s with
     | nil=>rfl
     | cons v s ihs =>
      simp only [wH]
      by_cases c1:lb l (P++E) (v:Int)<(m:Int)
      ·have c2:lb l (P++E) (v:Int)<((m+1:Nat):Int):=by omega
       have c3:¬lb l (P++E) (v:Int)=(m:Int):=by omega
       simp only [c1,c2,c3,decide_true,decide_false,if_true,wI,if_false,qE];omega
      ·by_cases c3:lb l (P++E) (v:Int)=(m:Int)
       ·have c2:lb l (P++E) (v:Int)<((m+1:Nat):Int):=by omega
        simp only [decide_eq_false c1,decide_eq_true c2,decide_eq_true c3,if_true,wI,if_false,qE]
        omega
       ·have c2:¬lb l (P++E) (v:Int)<((m+1:Nat):Int):=by omega
        simp only [c1,c2,c3,decide_false,wI,if_false];omega
    exact gen _
   rw [h1,← ih,VA,qB,hcut.len,List.range_succ,jA,qB]
   by_cases c:vt l P E n.toNat (m:Int)=[]
   ·rw [c]
    simp [c]
   ·have:1≤(vt l P E n.toNat (m:Int)).length:=List.length_pos_iff.2 c
    simp only [wH,List.filter_nil,ne_eq,c,not_false_eq_true,decide_true,if_true,qG]
    revert this
    generalize (vt l P E n.toNat (m:Int)).length=z
    generalize (List.filter _ (qJ m)).length=y
    generalize (VA cut l P E n.toNat m).length=x
    intro this
    omega
 have k:=key n.toNat
 have e1:((rts l P n.toNat).filter fun (v:Nat)=>decide (lb l (P++E) (v:Int)<((n.toNat:Nat):Int)))=rts l P n.toNat:=List.filter_eq_self.2 fun v hv=>by
  have hv:=List.mem_range.1 (List.mem_filter.1 hv).1
  have:=WY he (hP.app hE) (v:=(v:Int)) (by omega)
  exact decide_eq_true (by omega)
 have e2:((qJ n.toNat).filter fun (t:Nat)=>decide (vt l P E n.toNat (t:Int)≠[]))=rts l (P++E) n.toNat:=zD fun v hv=>by
  have hv:=List.mem_range.1 hv
  have hr:0≤(v:Int)∧(v:Int)<16:=by omega
  rw [decide_eq_decide]
  constructor
  ·intro h
   obtain ⟨x,hx⟩:=wN _ h
   obtain ⟨x1,x2,x3⟩:=vt_mem.1 hx
   have:=WY he (hP.app hE) (v:=x) (by omega)
   rw [x3] at this
   exact this.2.2
  ·intro h c
   have h1:=Gm he hP (hP.app hE) (fun k hk=>qS _ hk) hr
   have h2:=WY he hP hr
   have:(v:Int)∈vt l P E n.toNat (v:Int):=vt_mem.2 ⟨by omega,by omega,h⟩
   rw [c] at this
   cases this
 rw [e1,e2] at k
 omega
end
def ofW (l:List St) (x:Int) (t:List Int):List Int:=t.filter fun k=>decide (wOf l k=x)
theorem of_mem {l:List St} {x:Int} {t:List Int} {y:Int}:y∈ofW l x t↔y∈t∧wOf l y=x:=by rw [ofW,qZ,decide_eq_true_eq]
abbrev rk (l:List St) (t:List Int):Nat:=(tkT l t).length
abbrev alS (l:List St):List Int:=Qf l.length
theorem Dy (l:List St):InR l (alS l):=fun k hk=>startT_mem.1 hk
theorem X2 (l:List St) (x:Int):InR l (loW l x (alS l)):=fun k hk=>Dy l k (lo_mem.1 hk).1
theorem VB (l:List St) (x:Int):InR l (ofW l x (alS l)):=fun k hk=>Dy l k (of_mem.1 hk).1
section
variable {n:Int} {l:List St} (hnet:Wh n l=true)
include hnet
theorem QeS {cut cut':List Int→List Int} (hc:Cut cut) (hc':Cut cut') {P P' E E':List Int} (hP:InR l P) (hE:InR l E) (hs:∀k,k∈P↔k∈P') (hp:E.Perm E') :
  Xv cut l P E n.toNat n.toNat=Xv cut' l P' E' n.toNat n.toNat:=by
 have he:=QG hnet
 have hP':InR l P':=fun k hk=>hP k ((hs k).2 hk)
 have hE':InR l E':=fun k hk=>hE k (hp.mem_iff.2 hk)
 rw [Dw hnet hP hE hc,Dw hnet hP' hE' hc']
 have k1:=Dx hnet hP hE hc
 have k2:=Dx hnet hP' hE' hc'
 have e1:=Wi he hP hs
 have e2:rk l (P++E)=rk l (P'++E'):=Wi he (hP.app hE) fun k=>by rw [qM,qM,hs,hp.mem_iff]
 unfold rk at e2
 have e3:(VA cut l P E n.toNat n.toNat).length=(VA cut' l P' E' n.toNat n.toNat).length:=by omega
 rw [e3,SY he hP hE hp]
 refine congrArg _ (ZE fun F hF=>?_)
 unfold fo
 rw [e1,Wi he (hP.app fun x hx=>hE' x (hF.subset hx)) (t':=P'++F) fun k=>by rw [qM,qM,hs]]
theorem Qc2 {F P:List Int} (hP:InR l P) (hF:∀k∈F,k∈P) (hr:rk l F=rk l P) {u v:Int} (h:Cn l P u v):Cn l F u v:=by
 have he:=QG hnet
 have hFi:InR l F:=fun k hk=>hP k (hF k hk)
 induction h with
 | refl v=>exact .refl v
 | symm _ ih=>exact .symm ih
 | trans _ _ a b=>exact .trans a b
 | @edge k hk =>
  obtain ⟨ea,eb⟩:=Ks he (hP k hk)
  refine (QaU he hFi ea eb).1 ?_
  have h1:=XV l F k
  by_cases c:(QB l F).getD (sA l k).toNat 0=(QB l F).getD (sB l k).toNat 0
  ·exact c
  ·exfalso
   rw [if_pos c] at h1
   have h2:=Cq he (t:=F++[k]) (t':=P) (hFi.app (.one (hP k hk))) hP fun u v huv=>huv.mono fun x hx=>(List.mem_append.1 hx).elim (hF x) fun e=>(List.mem_singleton.1 e)▸hk
   rw [h1,qB,qG] at h2
   unfold rk at hr
   omega
theorem QeT {F P:List Int} (hP:InR l P) (hF:∀k∈F,k∈P):rk l F≤rk l P :=
 Cq (QG hnet) (fun k hk=>hP k (hF k hk)) hP fun _ _ huv=>huv.mono hF
theorem QmE {F P G:List Int} (hP:InR l P) (hG:InR l G) (hF:∀k∈F,k∈P) (hr:rk l F=rk l P):rk l (F++G)=rk l (P++G):=by
 have hFi:InR l F:=fun k hk=>hP k (hF k hk)
 refine Nat.le_antisymm (QeT hnet (hP.app hG) fun k hk=>(List.mem_append.1 hk).elim (fun h=>qS _ (hF k h)) (jP _)) ?_
 refine Cq (QG hnet) (hP.app hG) (hFi.app hG) fun u v huv=>?_
 induction huv with
 | refl v=>exact .refl v
 | symm _ ih=>exact .symm ih
 | trans _ _ a b=>exact .trans a b
 | @edge k hk =>
  rcases List.mem_append.1 hk with c | c
  ·exact (Qc2 hnet hP hF hr (.edge c)).mono fun x hx=>qS _ hx
  ·exact .edge (jP _ c)
end
def cN (l:List St):Nat→Nat
 | 0=>1
 | w+1=>cN l w*cnt l (loW l ((w:Int)-1) (alS l)) (ofW l w (alS l)) (rk l (loW l w (alS l))-rk l (loW l ((w:Int)-1) (alS l)))
def cW (cut:List Int→List Int) (n:Int) (l:List St):Nat→Int
 | 0=>1
 | w+1=>cW cut n l w*Xv cut l (loW l ((w:Int)-1) (alS l)) (ofW l w (alS l)) n.toNat n.toNat
def Qa2 (l:List St) (w:Nat) (F:List Int):Bool:=decide (rk l F=F.length∧∀x:Nat,x<w→(loW l x F).length=rk l (loW l x (alS l)))
theorem VC (l:List St) (w:Int):∀t:List Int,(loW l w t).Perm (loW l (w-1) t++ofW l w t)
 | []=>.refl _
 | k::t=>by
  have ih:=VC l w t
  unfold loW ofW at *
  simp only [wH]
  by_cases c:wOf l k≤w-1
  ·rw [decide_eq_true c,decide_eq_true (by omega),decide_eq_false (by omega)]
   exact ih.cons k
  ·by_cases c2:wOf l k=w
   ·rw [decide_eq_false c,decide_eq_true (by omega),decide_eq_true c2]
    exact (ih.cons k).trans List.perm_middle.symm
   ·rw [decide_eq_false c,decide_eq_false (by omega),decide_eq_false c2]
    exact ih
theorem QeU {l:List St} {x:Int} {t:List Int} (h:∀k∈t,wOf l k≤x):loW l x t=t:=List.filter_eq_self.2 fun k hk=>decide_eq_true (h k hk)
theorem Y7 {l:List St} {x:Int} {t:List Int} (h:∀k∈t,x<wOf l k):loW l x t=[]:=List.filter_eq_nil_iff.2 fun k hk c=>by have:=h k hk;have:=of_decide_eq_true c;omega
theorem QmF (l:List St) (x:Int) (s t:List Int):loW l x (s++t)=loW l x s++loW l x t:=jA ..
theorem Qc3 {l:List St} (he:Jm l=true) {w:Nat} {F F':List Int} (hF:InR l F) (h:F.Perm F'):Qa2 l w F=Qa2 l w F':=by
 unfold Qa2
 have e:rk l F=rk l F':=Wi he hF fun x=>h.mem_iff
 have e2:∀x:Int,(loW l x F).length=(loW l x F').length:=fun x=>(h.filter _).length_eq
 simp only [e,e2,h.length_eq]
section
variable {n:Int} {l:List St} (hnet:Wh n l=true)
include hnet
theorem QiF {w:Nat}:rk l (loW l ((w:Int)-1) (alS l))+(rk l (loW l w (alS l))-rk l (loW l ((w:Int)-1) (alS l)))=rk l (loW l w (alS l)):=by
 have:=QeT hnet (X2 l w) (F:=loW l ((w:Int)-1) (alS l)) fun k hk=>lo_mem.2 ⟨(lo_mem.1 hk).1,by have:=(lo_mem.1 hk).2;omega⟩
 omega
theorem Qb1:∀w:Nat,cN l w=WQ (Qa2 l w) (loW l ((w:Int)-1) (alS l))
 | 0=>by
  have:loW l (((0:Nat):Int)-1) (alS l)=[]:=Y7 fun k hk=>by have:=(XX hnet (Dy l k hk)).1;omega
  rw [this,cN,WQ,if_pos]
  exact decide_eq_true ⟨rfl,fun x h=>by omega⟩
 | w+1=>by
  have he:=QG hnet
  have e1:(((w+1:Nat):Int))-1=(w:Int):=by omega
  rw [e1,Gu (VC l (w:Int) (alS l)) fun F F' hF hFF=>Qc3 he (fun x hx=>X2 l w x (hF x hx)) hFF,cN,Qb1 w,cnt]
  refine (Dr fun F G hF hG=>?_).symm
  have hF1:∀k∈F,k∈loW l ((w:Int)-1) (alS l):=fun k hk=>hF.subset hk
  have hG1:∀k∈G,k∈ofW l w (alS l):=fun k hk=>hG.subset hk
  have hFi:InR l F:=fun k hk=>X2 l _ k (hF1 k hk)
  have hGi:InR l G:=fun k hk=>VB l _ k (hG1 k hk)
  have f1:∀x:Nat,x<w→loW l x (F++G)=loW l x F:=fun x hx=>by
   rw [QmF,Y7 (t:=G) fun k hk=>by have:=(of_mem.1 (hG1 k hk)).2;omega,qR]
  have f2:loW l (w:Int) (F++G)=F++G:=QeU fun k hk=>(List.mem_append.1 hk).elim (fun h=>by have:=(lo_mem.1 (hF1 k h)).2;omega) fun h=>by have:=(of_mem.1 (hG1 k h)).2;omega
  have f3:(∀x:Nat,x<w→(loW l x F).length=rk l (loW l x (alS l)))→F.length=rk l (loW l ((w:Int)-1) (alS l)):=fun h=>by
   cases w with
   | zero =>
    have:loW l (((0:Nat):Int)-1) (alS l)=[]:=Y7 fun k hk=>by have:=(XX hnet (Dy l k hk)).1;omega
    rw [this] at hF1 ⊢
    have:F=[]:=List.eq_nil_iff_forall_not_mem.2 fun k hk=>by cases hF1 k hk
    rw [this];rfl
   | succ w =>
    have e2:(((w+1:Nat):Int))-1=(w:Int):=by omega
    rw [e2] at hF1 ⊢
    rw [← h w (by omega),QeU fun k hk=>(lo_mem.1 (hF1 k hk)).2]
  have hr:=QiF hnet (w:=w)
  have key:rk l F=F.length→F.length=rk l (loW l ((w:Int)-1) (alS l))→rk l (F++G)=rk l (loW l ((w:Int)-1) (alS l)++G):=fun a b=>QmE hnet (X2 l _) hGi hF1 (by omega)
  show Qa2 l (w+1) (F++G)=(Qa2 l w F&&fo l (loW l ((w:Int)-1) (alS l)) (rk l (loW l w (alS l))-rk l (loW l ((w:Int)-1) (alS l))) G)
  unfold Qa2 fo
  rw [← Bool.decide_and,decide_eq_decide]
  constructor
  ·rintro ⟨a,b⟩
   have b1:∀x:Nat,x<w→(loW l x F).length=rk l (loW l x (alS l)):=fun x hx=>by rw [← f1 x hx];exact b x (by omega)
   have b2:=b w (by omega)
   rw [f2,qB] at b2
   have b3:=f3 b1
   rw [qB] at a
   have b4:=Gs l F G
   have b5:=QiC l F
   have b6:rk l F=F.length:=by unfold rk at *;omega
   have b7:=key b6 b3
   refine ⟨⟨b6,b1⟩,?_,by omega⟩
   unfold rk at *;omega
  ·rintro ⟨⟨a,b⟩,c,d⟩
   have b3:=f3 b
   have b7:=key a b3
   have b8:rk l (F++G)=(F++G).length:=by rw [qB];unfold rk at *;omega
   refine ⟨b8,fun x hx=>?_⟩
   by_cases cx:x<w
   ·rw [f1 x cx];exact b x cx
   ·have:x=w:=by omega
    subst this
    rw [f2,qB];omega
theorem S1 {cut:List Int→List Int} (hc:Cut cut):∀w,cW cut n l w=(cN l w:Int)
 | 0=>rfl
 | w+1=>by
  have k1:=Dx hnet (X2 l ((w:Int)-1)) (VB l w) hc
  have k2:=QiF hnet (w:=w)
  have e2:rk l (loW l ((w:Int)-1) (alS l)++ofW l w (alS l))=rk l (loW l w (alS l)):=Wi (QG hnet) ((X2 l _).app (VB l _)) fun k=>(VC l (w:Int) (alS l)).mem_iff.symm
  unfold rk at k2 e2
  rw [cW,S1 hc w,Dw hnet (X2 l _) (VB l _) hc,cN,Int.natCast_mul]
  congr 3
  unfold rk
  omega
theorem QiG (w:Nat):cN l w≤2 ^ 60:=by
 rw [Qb1 hnet w]
 refine Nat.le_trans (SX _) (Nat.pow_le_pow_right (by omega) ?_)
 have h1:(loW l ((w:Int)-1) (alS l)).length≤(alS l).length:=zC ..
 rw [QL] at h1
 have:=(Qx hnet).2.1
 omega
end
end Go.Proofs.Ytiejmoglooaalaa
end
