/- A part of the proof. -/
import Derived.Test.YtlendaofkmhgmaaP2B
set_option linter.unusedVariables false
set_option linter.unusedSimpArgs false
set_option linter.unnecessarySimpa false
open Go.IntKind renaming i64 → qA
open List renaming length_map → qB, range → qC, getD → qD, replicate → qE, getElem?_map → qG, getElem?_eq_getElem → qH, getElem?_set_ne → qI, getElem?_range → qK, map_cons → qL, getElem?_eq_none → qM, length_cons → qN, getElem?_append_right → qO, getElem?_append_left → qP, nil_append → qQ, nodup_cons → qR, mem_cons_of_mem → qT, mem_append → qU, map_append → qV, append_assoc → qW, nodup_nil → qY, getElem?_set → qZ, ext_getElem? → jA, getElem?_set_self → jE, getElem?_take → jG, mem_singleton → jH, getElem_mem → jI, length_singleton → jJ, map_nil → jN, append_nil → jP, not_mem_nil → jQ, drop_zero → jU, getElem?_replicate → jV, length_range → jW, singleton_append → jZ, mem_zipIdx_iff_getElem? → zA, take_of_length_le → zB, mem_or_eq_of_mem_set → zC
open Int renaming toNat_natCast → qF, lt_irrefl → jY
open Nat renaming le_refl → qJ, zero_le → qS, zero_add → qX
open Bool renaming false_eq_true → jX
section
open Go Go.HL
namespace Go.Proofs.Ytlendaofkmhgmaa
set_option maxRecDepth 100000
set_option linter.unusedSectionVars false
open Go.Proofs.Try renaming prog → Tp
open Go.HL.HV renaming undef → Ud
noncomputable def B22:Code:=Try.f22.body.getD .skip
abbrev Qal (v0 v2 v3 v4 v5 v6 v7 v13 v14 v18 v19 v23 v24:HV):Env:=[(0,v0),(2,v2),(3,v3),(4,v4),(5,v5),(6,v6),(7,v7),(13,v13),(14,v14),(18,v18),(19,v19),(23,v23),(24,v24)]
abbrev e22 (rw:List HV) (u4 u5 u6 u7 u8 u9 u10 u11 u12:HV):Env:=Qal (.a rw) (.q 0) (.bool false) (.i 0) u4 u5 u6 u7 u8 u9 u10 u11 u12
section
variable (rw:List HV)
include rw
theorem Qk2:RT polN 22 (sn 2 B22) [(0,.a rw)] [] .normal (e22 rw Ud Ud Ud Ud Ud Ud Ud Ud Ud) [.arr 3 [.agg [.i 0,.i 0,.i 0]] true 0] :=
 hx 0 60 []
end
section
variable (rw:List HV)
include rw
theorem Qk3 (g0:∀kf,Qa Tp polN (kf+1) 46 [.a rw] [.arr 3 [.agg [.i 0,.i 0,.i 0]] true 0]=some (.bool true,[.arr 3 [.agg [.i 0,.i 0,.i 0]] true 0])): RT polN 22 (sn 6 B22) (e22 rw Ud Ud Ud Ud Ud Ud Ud Ud Ud) [.arr 3 [.agg [.i 0,.i 0,.i 0]] true 0] .normal (e22 rw Ud Ud Ud Ud Ud Ud Ud Ud Ud) [.arr 3 [.agg [.i 0,.i 0,.i 0]] true 0] :=
 hx 0 60 [jD 1 1 g0]
theorem Qk4 (g0:∀kf,Qa Tp polN (kf+1) 46 [.a rw] [.arr 3 [.agg [.i 0,.i 0,.i 0]] true 0]=some (.bool false,[.arr 3 [.agg [.i 0,.i 0,.i 0]] true 0])): RT polN 22 (sn 6 B22) (e22 rw Ud Ud Ud Ud Ud Ud Ud Ud Ud) [.arr 3 [.agg [.i 0,.i 0,.i 0]] true 0] .ret (Qal (.a rw) (.q 0) (.bool false) (.i 2) Ud Ud Ud Ud Ud Ud Ud Ud Ud) [.arr 3 [.agg [.i 0,.i 0,.i 0]] true 0] :=
 hx 0 60 [jD 1 1 g0]
theorem Qk5:RT polN 22 (sn 28 B22) (e22 rw Ud Ud Ud Ud Ud Ud Ud Ud Ud) [.arr 3 [.agg [.i 0,.i 0,.i 0]] true 0] .normal (e22 rw Ud Ud Ud (.i (rw.length:Int)) (.i 0) Ud Ud Ud Ud) [.arr 3 [.agg [.i 0,.i 0,.i 0]] true 0] :=
 hx 0 60 []
theorem Qk6 (i:Nat) (g0:(i:Int)<(rw.length:Int)): RunsTo Tp polN 22 (sn 232 B22) (e22 rw Ud Ud Ud (.i (rw.length:Int)) (.n i) Ud Ud Ud Ud) [.arr 3 [.agg [.i 0,.i 0,.i 0]] true 0] .normal [0,2,3,4,5,6,7,13,14,18,19,23,24,15] [(0,.a rw),(2,.q 0),(3,.bool false),(4,.i 0),(5,Ud),(6,Ud),(7,Ud),(13,.i (rw.length:Int)),(14,.n i),(18,Ud),(19,Ud),(23,Ud),(24,Ud),(15,.bool true)] [.arr 3 [.agg [.i 0,.i 0,.i 0]] true 0] :=
 hx 0 60 [jT 4 0 [.arr 3 [.agg [.i 0,.i 0,.i 0]] true 0] g0]
theorem Qk7 (i:Nat) (g0:¬((i:Int)<(rw.length:Int))): RunsTo Tp polN 22 (sn 232 B22) (e22 rw Ud Ud Ud (.i (rw.length:Int)) (.n i) Ud Ud Ud Ud) [.arr 3 [.agg [.i 0,.i 0,.i 0]] true 0] .normal [0,2,3,4,5,6,7,13,14,18,19,23,24,15] [(0,.a rw),(2,.q 0),(3,.bool false),(4,.i 0),(5,Ud),(6,Ud),(7,Ud),(13,.i (rw.length:Int)),(14,.n i),(18,Ud),(19,Ud),(23,Ud),(24,Ud),(15,.bool false)] [.arr 3 [.agg [.i 0,.i 0,.i 0]] true 0] :=
 hx 0 60 [jF 4 0 [.arr 3 [.agg [.i 0,.i 0,.i 0]] true 0] g0]
theorem Qff (i:Nat): RT polN 22 (sn 466 B22) [(0,.a rw),(2,.q 0),(3,.bool false),(4,.i 0),(5,Ud),(6,Ud),(7,Ud),(13,.i (rw.length:Int)),(14,.n i),(18,Ud),(19,Ud),(23,Ud),(24,Ud),(15,.bool true)] [.arr 3 [.agg [.i 0,.i 0,.i 0]] true 0] .normal (e22 rw Ud Ud Ud (.i (rw.length:Int)) (.n i) Ud Ud Ud Ud) [.arr 3 [.agg [.i 0,.i 0,.i 0]] true 0] :=
 hx 0 60 []
theorem Qfg (i:Nat): RT polN 22 (sn 466 B22) [(0,.a rw),(2,.q 0),(3,.bool false),(4,.i 0),(5,Ud),(6,Ud),(7,Ud),(13,.i (rw.length:Int)),(14,.n i),(18,Ud),(19,Ud),(23,Ud),(24,Ud),(15,.bool false)] [.arr 3 [.agg [.i 0,.i 0,.i 0]] true 0] (.exit 0) (e22 rw Ud Ud Ud (.i (rw.length:Int)) (.n i) Ud Ud Ud Ud) [.arr 3 [.agg [.i 0,.i 0,.i 0]] true 0] :=
 hx 0 60 []
theorem Qk8 (i:Nat): RT polN 22 (sn 3736 B22) (e22 rw Ud Ud Ud (.i (rw.length:Int)) (.n i) Ud Ud Ud Ud) [.arr 3 [.agg [.i 0,.i 0,.i 0]] true 0] .normal (e22 rw (.n i) Ud Ud (.i (rw.length:Int)) (.n i) Ud Ud Ud Ud) [.arr 3 [.agg [.i 0,.i 0,.i 0]] true 0] :=
 hx 0 60 []
theorem Qk9 (i:Nat): RT polN 22 (sn 7474 B22) (e22 rw (.n i) Ud Ud (.i (rw.length:Int)) (.n i) Ud Ud Ud Ud) [.arr 3 [.agg [.i 0,.i 0,.i 0]] true 0] .normal (e22 rw (.n i) Ud Ud (.i (rw.length:Int)) (.n i) (.i (rw.length:Int)) (.i 0) Ud Ud) [.arr 3 [.agg [.i 0,.i 0,.i 0]] true 0] :=
 hx 0 60 []
theorem Qla (i:Nat) (j:Nat) (g0:(j:Int)<(rw.length:Int)): RunsTo Tp polN 22 (sn 59800 B22) (e22 rw (.n i) Ud Ud (.i (rw.length:Int)) (.n i) (.i (rw.length:Int)) (.n j) Ud Ud) [.arr 3 [.agg [.i 0,.i 0,.i 0]] true 0] .normal [0,2,3,4,5,6,7,13,14,18,19,23,24,20] [(0,.a rw),(2,.q 0),(3,.bool false),(4,.i 0),(5,.n i),(6,Ud),(7,Ud),(13,.i (rw.length:Int)),(14,.n i),(18,.i (rw.length:Int)),(19,.n j),(23,Ud),(24,Ud),(20,.bool true)] [.arr 3 [.agg [.i 0,.i 0,.i 0]] true 0] :=
 hx 0 60 [jT 7 0 [.arr 3 [.agg [.i 0,.i 0,.i 0]] true 0] g0]
theorem Qlb (i:Nat) (j:Nat) (g0:¬((j:Int)<(rw.length:Int))): RunsTo Tp polN 22 (sn 59800 B22) (e22 rw (.n i) Ud Ud (.i (rw.length:Int)) (.n i) (.i (rw.length:Int)) (.n j) Ud Ud) [.arr 3 [.agg [.i 0,.i 0,.i 0]] true 0] .normal [0,2,3,4,5,6,7,13,14,18,19,23,24,20] [(0,.a rw),(2,.q 0),(3,.bool false),(4,.i 0),(5,.n i),(6,Ud),(7,Ud),(13,.i (rw.length:Int)),(14,.n i),(18,.i (rw.length:Int)),(19,.n j),(23,Ud),(24,Ud),(20,.bool false)] [.arr 3 [.agg [.i 0,.i 0,.i 0]] true 0] :=
 hx 0 60 [jF 7 0 [.arr 3 [.agg [.i 0,.i 0,.i 0]] true 0] g0]
theorem Qfh (i:Nat) (j:Nat): RT polN 22 (sn 119602 B22) [(0,.a rw),(2,.q 0),(3,.bool false),(4,.i 0),(5,.n i),(6,Ud),(7,Ud),(13,.i (rw.length:Int)),(14,.n i),(18,.i (rw.length:Int)),(19,.n j),(23,Ud),(24,Ud),(20,.bool true)] [.arr 3 [.agg [.i 0,.i 0,.i 0]] true 0] .normal (e22 rw (.n i) Ud Ud (.i (rw.length:Int)) (.n i) (.i (rw.length:Int)) (.n j) Ud Ud) [.arr 3 [.agg [.i 0,.i 0,.i 0]] true 0] :=
 hx 0 60 []
theorem Qfi (i:Nat) (j:Nat): RT polN 22 (sn 119602 B22) [(0,.a rw),(2,.q 0),(3,.bool false),(4,.i 0),(5,.n i),(6,Ud),(7,Ud),(13,.i (rw.length:Int)),(14,.n i),(18,.i (rw.length:Int)),(19,.n j),(23,Ud),(24,Ud),(20,.bool false)] [.arr 3 [.agg [.i 0,.i 0,.i 0]] true 0] (.exit 2) (e22 rw (.n i) Ud Ud (.i (rw.length:Int)) (.n i) (.i (rw.length:Int)) (.n j) Ud Ud) [.arr 3 [.agg [.i 0,.i 0,.i 0]] true 0] :=
 hx 0 60 []
theorem Qlc (i:Nat) (j:Nat): RT polN 22 (sn 956824 B22) (e22 rw (.n i) Ud Ud (.i (rw.length:Int)) (.n i) (.i (rw.length:Int)) (.n j) Ud Ud) [.arr 3 [.agg [.i 0,.i 0,.i 0]] true 0] .normal (e22 rw (.n i) (.n j) Ud (.i (rw.length:Int)) (.n i) (.i (rw.length:Int)) (.n j) Ud Ud) [.arr 3 [.agg [.i 0,.i 0,.i 0]] true 0] :=
 hx 0 60 []
theorem Qld (i:Nat) (j:Nat): RT polN 22 (sn 1913650 B22) (e22 rw (.n i) (.n j) Ud (.i (rw.length:Int)) (.n i) (.i (rw.length:Int)) (.n j) Ud Ud) [.arr 3 [.agg [.i 0,.i 0,.i 0]] true 0] .normal (e22 rw (.n i) (.n j) Ud (.i (rw.length:Int)) (.n i) (.i (rw.length:Int)) (.n j) (.i (rw.length:Int)) (.i 0)) [.arr 3 [.agg [.i 0,.i 0,.i 0]] true 0] :=
 hx 0 60 []
theorem Qle (i:Nat) (j:Nat) (k:Nat) (l0:List HV) (x0:Int) (l1:List HV) (x1:Int) (l2:List HV) (x2:Int) (g0:(k:Int)<(rw.length:Int)) (g1:IX 22 (.a rw) (.n i) (.vptr (.a l0))) (g2:IX 23 (.a l0) (.n k) (.vptr (.i x0))) (g3:IX 22 (.a rw) (.n i) (.vptr (.a l1))) (g4:IX 23 (.a l1) (.n j) (.vptr (.i x1))) (g5:IX 22 (.a rw) (.n j) (.vptr (.a l2))) (g6:IX 23 (.a l2) (.n k) (.vptr (.i x2))) (g7:qA.wrap (x1+x2)<x0): RT polN 22 (sn 7654604 B22) (e22 rw (.n i) (.n j) Ud (.i (rw.length:Int)) (.n i) (.i (rw.length:Int)) (.n j) (.i (rw.length:Int)) (.n k)) [.arr 3 [.agg [.i 0,.i 0,.i 0]] true 0] .ret (e22 rw (.n i) (.n j) (.n k) (.i (rw.length:Int)) (.n i) (.i (rw.length:Int)) (.n j) (.i (rw.length:Int)) (.n k)) [.arr 3 [.agg [.n i,.n j,.n k]] true 0] :=
 hx 0 60 [jT 10 0 [.arr 3 [.agg [.i 0,.i 0,.i 0]] true 0] g0,jO 12 2 [.arr 3 [.agg [.i 0,.i 0,.i 0]] true 0] g1,jO 12 5 [.arr 3 [.agg [.i 0,.i 0,.i 0]] true 0] g2,jO 12 9 [.arr 3 [.agg [.i 0,.i 0,.i 0]] true 0] g3,jO 12 12 [.arr 3 [.agg [.i 0,.i 0,.i 0]] true 0] g4,jO 12 16 [.arr 3 [.agg [.i 0,.i 0,.i 0]] true 0] g5,jO 12 19 [.arr 3 [.agg [.i 0,.i 0,.i 0]] true 0] g6,jT 12 22 [.arr 3 [.agg [.i 0,.i 0,.i 0]] true 0] g7]
theorem Qlf (i:Nat) (j:Nat) (k:Nat) (l0:List HV) (x0:Int) (l1:List HV) (x1:Int) (l2:List HV) (x2:Int) (g0:(k:Int)<(rw.length:Int)) (g1:IX 22 (.a rw) (.n i) (.vptr (.a l0))) (g2:IX 23 (.a l0) (.n k) (.vptr (.i x0))) (g3:IX 22 (.a rw) (.n i) (.vptr (.a l1))) (g4:IX 23 (.a l1) (.n j) (.vptr (.i x1))) (g5:IX 22 (.a rw) (.n j) (.vptr (.a l2))) (g6:IX 23 (.a l2) (.n k) (.vptr (.i x2))) (g7:¬(qA.wrap (x1+x2)<x0)): RT polN 22 (sn 7654604 B22) (e22 rw (.n i) (.n j) Ud (.i (rw.length:Int)) (.n i) (.i (rw.length:Int)) (.n j) (.i (rw.length:Int)) (.n k)) [.arr 3 [.agg [.i 0,.i 0,.i 0]] true 0] .normal (e22 rw (.n i) (.n j) (.n k) (.i (rw.length:Int)) (.n i) (.i (rw.length:Int)) (.n j) (.i (rw.length:Int)) (.i (qA.wrap ((k:Int)+1)))) [.arr 3 [.agg [.i 0,.i 0,.i 0]] true 0] :=
 hx 0 60 [jT 10 0 [.arr 3 [.agg [.i 0,.i 0,.i 0]] true 0] g0,jO 12 2 [.arr 3 [.agg [.i 0,.i 0,.i 0]] true 0] g1,jO 12 5 [.arr 3 [.agg [.i 0,.i 0,.i 0]] true 0] g2,jO 12 9 [.arr 3 [.agg [.i 0,.i 0,.i 0]] true 0] g3,jO 12 12 [.arr 3 [.agg [.i 0,.i 0,.i 0]] true 0] g4,jO 12 16 [.arr 3 [.agg [.i 0,.i 0,.i 0]] true 0] g5,jO 12 19 [.arr 3 [.agg [.i 0,.i 0,.i 0]] true 0] g6,jF 12 22 [.arr 3 [.agg [.i 0,.i 0,.i 0]] true 0] g7]
theorem Qlg (i:Nat) (j:Nat) (k:Nat) (g0:¬((k:Int)<(rw.length:Int))): RT polN 22 (sn 7654604 B22) (e22 rw (.n i) (.n j) Ud (.i (rw.length:Int)) (.n i) (.i (rw.length:Int)) (.n j) (.i (rw.length:Int)) (.n k)) [.arr 3 [.agg [.i 0,.i 0,.i 0]] true 0] (.exit 4) (e22 rw (.n i) (.n j) Ud (.i (rw.length:Int)) (.n i) (.i (rw.length:Int)) (.n j) (.i (rw.length:Int)) (.n k)) [.arr 3 [.agg [.i 0,.i 0,.i 0]] true 0] :=
 hx 0 60 [jF 10 0 [.arr 3 [.agg [.i 0,.i 0,.i 0]] true 0] g0]
theorem Qlh (i:Nat) (j:Nat) (k:Nat): RT polN 22 (sn 239207 B22) (e22 rw (.n i) (.n j) Ud (.i (rw.length:Int)) (.n i) (.i (rw.length:Int)) (.n j) (.i (rw.length:Int)) (.n k)) [.arr 3 [.agg [.i 0,.i 0,.i 0]] true 0] .normal (e22 rw (.n i) (.n j) Ud (.i (rw.length:Int)) (.n i) (.i (rw.length:Int)) (.i (qA.wrap ((j:Int)+1))) (.i (rw.length:Int)) (.n k)) [.arr 3 [.agg [.i 0,.i 0,.i 0]] true 0] :=
 hx 0 60 []
theorem Qli (i:Nat) (j:Nat): RT polN 22 (sn 935 B22) (e22 rw (.n i) Ud Ud (.i (rw.length:Int)) (.n i) (.i (rw.length:Int)) (.n j) Ud Ud) [.arr 3 [.agg [.i 0,.i 0,.i 0]] true 0] .normal (e22 rw (.n i) Ud Ud (.i (rw.length:Int)) (.i (qA.wrap ((i:Int)+1))) (.i (rw.length:Int)) (.n j) Ud Ud) [.arr 3 [.agg [.i 0,.i 0,.i 0]] true 0] :=
 hx 0 60 []
theorem Qlj (i:Nat): RT polN 22 (sn 15 B22) (e22 rw Ud Ud Ud (.i (rw.length:Int)) (.n i) Ud Ud Ud Ud) [.arr 3 [.agg [.i 0,.i 0,.i 0]] true 0] .ret (Qal (.a rw) (.q 0) (.bool true) (.i 0) Ud Ud Ud (.i (rw.length:Int)) (.n i) Ud Ud Ud Ud) [.arr 3 [.agg [.i 0,.i 0,.i 0]] true 0] :=
 hx 0 60 []
end
end Go.Proofs.Ytlendaofkmhgmaa
end
section
open Go Go.HL
namespace Go.Proofs.Ytlendaofkmhgmaa
set_option linter.unusedSectionVars false
open Go.Proofs.Try renaming prog → Tp
open Go.HL.HV renaming undef → Ud
set_option maxRecDepth 100000 in
theorem Sx:Uo Tp pol 200 20 [] []=some (.bool true,[]):=by kernel_rfl
theorem Sy:QN Tp 20 Qcf:=by
 refine Db (pol:=pol) VI (by kernel_rfl) fun args res h=>?_
 match args,h with
 | [],h =>
  cases h
  exact ⟨200,_,_,false,by rw [← De];exact Sx,rfl⟩
def Sz (d:List (List Int)) (i j:Nat):Nat→Nat→Option (Nat×Nat×Nat)
 | 0,_=>none
 | m+1,k=>if at2 d i j+at2 d j k<at2 d i k then some (i,j,k) else Sz d i j m (k+1)
def SA (d:List (List Int)) (i:Nat):Nat→Nat→Option (Nat×Nat×Nat)
 | 0,_=>none
 | m+1,j=>match Sz d i j d.length 0 with | some r=>some r | none=>SA d i m (j+1)
def SB (d:List (List Int)):Nat→Nat→Option (Nat×Nat×Nat)
 | 0,_=>none
 | m+1,i=>match SA d i d.length 0 with | some r=>some r | none=>SB d m (i+1)
def vio (d:List (List Int)):Option (Nat×Nat×Nat):=SB d d.length 0
abbrev tri (r:Nat×Nat×Nat):HV:=.agg [.int .i64 (r.1:Int),.int .i64 (r.2.1:Int),.int .i64 (r.2.2:Int)]
def QoZ (o:Option (Nat×Nat×Nat)):HV:=match o with | some r=>tri r | none=>.agg [.int .i64 0,.int .i64 0,.int .i64 0]
open Classical in
noncomputable def XD:List HV→Option HV:=rwF fun R=>if R.length≤1000∧(R.all fun r=>decide (r.length≤1000))=true then some (if okD R then .tuple [QoZ (vio R),.bool (vio R).isNone,.int .i64 0] else .tuple [.agg [.int .i64 0,.int .i64 0,.int .i64 0],.bool false,.int .i64 2]) else none
theorem Qdd:Try.f22.results.toList=[.cell 2 35,.tmp 3,.tmp 4]:=by kernel_rfl
abbrev z3H:Heap:=[.arr 3 [.agg [.int .i64 0,.int .i64 0,.int .i64 0]] true 0]
abbrev t3H (r:Nat×Nat×Nat):Heap:=[.arr 3 [tri r] true 0]
section
variable {d:List (List Int)}
theorem XE {v:Nat} (hv:v<d.length):WW Tp 22 (.imm .arg 1 (d.map Qb)) (.int .i64 (v:Int))=some (.vptr (.imm .arg 1 ((d.getD v []).map hvI))):=gr hv
theorem XF (h:okD d) {v u:Nat} (hv:v<d.length) (hu:u<d.length):WW Tp 23 (.imm .arg 1 ((d.getD v []).map hvI)) (.int .i64 (u:Int))=some (.vptr (.int .i64 (at2 d v u))):=gx (by rw [h.2.1 v hv];exact hu)
theorem Qoe (h:okD d) {i j k:Nat} (hi:i<d.length) (hj:j<d.length) (hk:k<d.length):qA.wrap (at2 d i j+at2 d j k)=at2 d i j+at2 d j k:=by
 have h1:=(h.2.2 i hi j hj).1
 have h2:=(h.2.2 j hj k hk).1
 exact Qn (by omega) (by omega)
abbrev meE (d:List (List Int)) (v5 v6 v7 v14 v18 v19 v23 v24:HV):Env:=Qal (.imm .arg 1 (d.map Qb)) (.ptr 0 0 0 1) (.bool false) (.int .i64 0) v5 v6 v7 (.int .i64 (d.length:Int)) v14 v18 v19 v23 v24
theorem Qo0 (h:okD d) {i j:Nat} (hi:i<d.length) (hj:j<d.length):∀m k,k+m=d.length →
    ∃x E H',RT polN 22 (sn 3827302 B22) (meE d (.int .i64 (i:Int)) (.int .i64 (j:Int)) Ud (.int .i64 (i:Int)) (.int .i64 (d.length:Int)) (.int .i64 (j:Int)) (.int .i64 (d.length:Int)) (.int .i64 (k:Int))) z3H x E H' ∧
      ((x=.exit 4∧E=meE d (.int .i64 (i:Int)) (.int .i64 (j:Int)) Ud (.int .i64 (i:Int)) (.int .i64 (d.length:Int)) (.int .i64 (j:Int)) (.int .i64 (d.length:Int)) (.int .i64 (d.length:Int))∧H'=z3H∧Sz d i j m k=none) ∨
       (x=.ret∧∃r,Sz d i j m k=some r∧Qf Tp Try.f22 E H'=some (.tuple [tri r,.bool false,.int .i64 0])∧H'=t3H r)):=by
  intro m
  induction m with
  | zero =>
    intro k hk
    have:k=d.length:=by omega
    subst this
    have s:=Qlg (d.map Qb) i j d.length (by rw [qB];omega)
    rw [qB] at s
    exact ⟨_,_,_,lpo s,.inl ⟨rfl,rfl,rfl,rfl⟩⟩
  | succ m ih =>
    intro k hk
    rw [Sz]
    by_cases c:at2 d i j+at2 d j k<at2 d i k
    · rw [if_pos c]
      have s:=Qle (d.map Qb) i j k _ _ _ _ _ _ (by rw [qB];omega) (XE hi) (XF h hi (by omega)) (XE hi) (XF h hi hj) (XE hj) (XF h hj (by omega)) (by rw [Qoe h hi hj (by omega)];exact c)
      rw [qB] at s
      exact ⟨_,_,_,lpo s,.inr ⟨rfl,_,rfl,by simp only [Qf,Qdd];kernel_rfl,rfl⟩⟩
    · rw [if_neg c]
      have s:=Qlf (d.map Qb) i j k _ _ _ _ _ _ (by rw [qB];omega) (XE hi) (XF h hi (by omega)) (XE hi) (XF h hi hj) (XE hj) (XF h hj (by omega)) (by rw [Qoe h hi hj (by omega)];exact c)
      rw [Qc (by have:=h.1;omega),qB] at s
      obtain ⟨x,E,H',r,q⟩:=ih (k+1) (by omega)
      exact ⟨x,E,H',lop s rfl r,q⟩
theorem Qo1 (h:okD d) {i:Nat} (hi:i<d.length):∀m j,j+m=d.length →
    ∃x E H',RT polN 22 (sn 14950 B22) (meE d (.int .i64 (i:Int)) Ud Ud (.int .i64 (i:Int)) (.int .i64 (d.length:Int)) (.int .i64 (j:Int)) Ud Ud) z3H x E H' ∧
      ((x=.exit 2∧E=meE d (.int .i64 (i:Int)) Ud Ud (.int .i64 (i:Int)) (.int .i64 (d.length:Int)) (.int .i64 (d.length:Int)) Ud Ud∧H'=z3H∧SA d i m j=none) ∨
       (x=.ret∧∃r,SA d i m j=some r∧Qf Tp Try.f22 E H'=some (.tuple [tri r,.bool false,.int .i64 0])∧H'=t3H r)):=by
  intro m
  induction m with
  | zero =>
    intro j hj
    have:j=d.length:=by omega
    subst this
    have s:=Qlb (d.map Qb) i d.length (by rw [qB];omega)
    have s2:=Qfi (d.map Qb) i d.length
    rw [qB] at s s2
    have t:=sq s (sqo s2 (c:=sn 59801 B22) (b:=sn 119603 B22)) (c:=sn 29900 B22)
    exact ⟨_,_,_,lpo t,.inl ⟨rfl,rfl,rfl,rfl⟩⟩
  | succ m ih =>
    intro j hj
    have s:=Qla (d.map Qb) i j (by rw [qB];omega)
    have s2:=Qfh (d.map Qb) i j
    have s3:=Qlc (d.map Qb) i j
    have s4:=Qld (d.map Qb) i j
    rw [qB] at s s2 s3 s4
    obtain ⟨x,E,H',r,q⟩:=Qo0 h hi (j:=j) (by omega) d.length 0 (by omega)
    rw [SA]
    have r':=lpi (e0:=meE d (.int .i64 (i:Int)) (.int .i64 (j:Int)) Ud (.int .i64 (i:Int)) (.int .i64 (d.length:Int)) (.int .i64 (j:Int)) (.int .i64 (d.length:Int)) (.int .i64 0)) r (b:=sn 7654604 B22)
    rcases q with ⟨rfl,rfl,rfl,q⟩ | ⟨rfl,rr,q1,q2,q3⟩
    · rw [q]
      have n1:=Qlh (d.map Qb) i j d.length
      rw [Qc (by have:=h.1;omega),qB] at n1
      have t1:=sq s4 (bke (c:=sn 1913651 B22) r') (c:=sn 956825 B22)
      have t2:=sq s3 t1 (c:=sn 478412 B22)
      have t3:=RunsTo.block_normal (i:=3) (c:=sn 239206 B22) t2 (by kernel_rfl)
      have t4:=sq t3 n1 (c:=sn 119603 B22)
      have t5:=sq s2 t4 (c:=sn 59801 B22)
      have t6:=sq s t5 (c:=sn 29900 B22)
      obtain ⟨x,E,H',r2,q2⟩:=ih (j+1) (by omega)
      exact ⟨x,E,H',lop t6 rfl r2,q2⟩
    · rw [q1]
      have t1:=sq s4 (RunsTo.block_ret (i:=4) (c:=sn 1913651 B22) r' (by kernel_rfl)) (c:=sn 956825 B22)
      have t2:=sq s3 t1 (c:=sn 478412 B22)
      have t3:=RunsTo.block_ret (i:=3) (c:=sn 239206 B22) t2 (by kernel_rfl)
      have t4:=sqo t3 (c:=sn 119603 B22) (b:=sn 239207 B22)
      have t5:=sq s2 t4 (c:=sn 59801 B22)
      have t6:=sq s t5 (c:=sn 29900 B22)
      exact ⟨_,_,_,lpo t6,.inr ⟨rfl,rr,rfl,q2,q3⟩⟩
theorem Qo2 (h:okD d):∀m i,i+m=d.length →
    ∃x E H',RT polN 22 (sn 58 B22) (meE d Ud Ud Ud (.int .i64 (i:Int)) Ud Ud Ud Ud) z3H x E H' ∧
      ((x=.exit 0∧E=meE d Ud Ud Ud (.int .i64 (d.length:Int)) Ud Ud Ud Ud∧H'=z3H∧SB d m i=none) ∨
       (x=.ret∧∃r,SB d m i=some r∧Qf Tp Try.f22 E H'=some (.tuple [tri r,.bool false,.int .i64 0])∧H'=t3H r)):=by
  intro m
  induction m with
  | zero =>
    intro i hi
    have:i=d.length:=by omega
    subst this
    have s:=Qk7 (d.map Qb) d.length (by rw [qB];omega)
    have s2:=Qfg (d.map Qb) d.length
    rw [qB] at s s2
    have t:=sq s (sqo s2 (c:=sn 233 B22) (b:=sn 467 B22)) (c:=sn 116 B22)
    exact ⟨_,_,_,lpo t,.inl ⟨rfl,rfl,rfl,rfl⟩⟩
  | succ m ih =>
    intro i hi
    have s:=Qk6 (d.map Qb) i (by rw [qB];omega)
    have s2:=Qff (d.map Qb) i
    have s3:=Qk8 (d.map Qb) i
    have s4:=Qk9 (d.map Qb) i
    rw [qB] at s s2 s3 s4
    obtain ⟨x,E,H',r,q⟩:=Qo1 h (i:=i) (by omega) d.length 0 (by omega)
    rw [SB]
    have r':=lpi (e0:=meE d (.int .i64 (i:Int)) Ud Ud (.int .i64 (i:Int)) (.int .i64 (d.length:Int)) (.int .i64 0) Ud Ud) r (b:=sn 29900 B22)
    rcases q with ⟨rfl,rfl,rfl,q⟩ | ⟨rfl,rr,q1,q2,q3⟩
    · rw [q]
      have n1:=Qli (d.map Qb) i d.length
      rw [Qc (by have:=h.1;omega),qB] at n1
      have t1:=sq s4 (bke (c:=sn 7475 B22) r') (c:=sn 3737 B22)
      have t2:=sq s3 t1 (c:=sn 1868 B22)
      have t3:=RunsTo.block_normal (i:=1) (c:=sn 934 B22) t2 (by kernel_rfl)
      have t4:=sq t3 n1 (c:=sn 467 B22)
      have t5:=sq s2 t4 (c:=sn 233 B22)
      have t6:=sq s t5 (c:=sn 116 B22)
      obtain ⟨x,E,H',r2,q2⟩:=ih (i+1) (by omega)
      exact ⟨x,E,H',lop t6 rfl r2,q2⟩
    · rw [q1]
      have t1:=sq s4 (RunsTo.block_ret (i:=2) (c:=sn 7475 B22) r' (by kernel_rfl)) (c:=sn 3737 B22)
      have t2:=sq s3 t1 (c:=sn 1868 B22)
      have t3:=RunsTo.block_ret (i:=1) (c:=sn 934 B22) t2 (by kernel_rfl)
      have t4:=sqo t3 (c:=sn 467 B22) (b:=sn 935 B22)
      have t5:=sq s2 t4 (c:=sn 233 B22)
      have t6:=sq s t5 (c:=sn 116 B22)
      exact ⟨_,_,_,lpo t6,.inr ⟨rfl,rr,rfl,q2,q3⟩⟩
end
theorem Qbm:QN Tp 22 XD:=by
 refine Qp (pol:=polN) (fn:=Try.f22) (cd:=B22) Qi QcD (by kernel_rfl) (by kernel_rfl) (Jj polN.prim _ _ (by kernel_rfl)) (by kernel_rfl) ?_
 intro args res h
 obtain ⟨d,rfl,hq⟩:=Vq h
 clear h
 split at hq
 ·rename_i hc
  cases hq
  have a:=Qk2 (d.map Qb)
  by_cases hd:okD d
  ·rw [if_pos hd]
   have b:=Qk3 (d.map Qb) (Wl (pol':=polN) (by kernel_rfl) hc.1 hc.2 _ true (Jz hd))
   have c:=Qk5 (d.map Qb)
   rw [qB] at c
   obtain ⟨x,E,H',r,q⟩:=Qo2 hd d.length 0 (by omega)
   have r':=lpi (e0:=meE d Ud Ud Ud (.int .i64 0) Ud Ud Ud Ud) r (b:=sn 116 B22)
   rcases q with ⟨rfl,rfl,rfl,q⟩ | ⟨rfl,rr,q1,q2,q3⟩
   ·have z:=Qlj (d.map Qb) d.length
    rw [qB] at z
    have t1:=sq c (bke (c:=sn 29 B22) r') (c:=sn 14 B22)
    have t2:=sq t1 z (c:=sn 7 B22)
    have t3:=sq a (sq b t2 (c:=sn 3 B22)) (c:=B22)
    have e:vio d=none:=q
    rw [e]
    exact ⟨_,_,_,.tuple [.agg [.int .i64 0,.int .i64 0,.int .i64 0],.bool true,.int .i64 0],t3,by simp,by simp only [Qf,Qdd];kernel_rfl,rfl⟩
   ·have t1:=sq c (RunsTo.block_ret (i:=0) (c:=sn 29 B22) r' (by kernel_rfl)) (c:=sn 14 B22)
    have t2:=sqo t1 (c:=sn 7 B22) (b:=sn 15 B22)
    have t3:=sq a (sq b t2 (c:=sn 3 B22)) (c:=B22)
    have e:vio d=some rr:=q1
    rw [e]
    exact ⟨_,_,_,_,t3,by simp,q2,rfl⟩
  ·rw [if_neg hd]
   have b:=Qk4 (d.map Qb) (Wl (pol':=polN) (by kernel_rfl) hc.1 hc.2 _ false (ZD hd))
   exact ⟨_,_,_,.tuple [.agg [.int .i64 0,.int .i64 0,.int .i64 0],.bool false,.int .i64 2],sq a (sqo b (c:=sn 3 B22) (b:=sn 7 B22)) (c:=B22),by simp,by simp only [Qf,Qdd];kernel_rfl,rfl⟩
 ·cases hq
end Go.Proofs.Ytlendaofkmhgmaa
end
section
open Go Go.HL Go.HL.So
namespace Go.Proofs.Ytlendaofkmhgmaa
set_option linter.unusedSectionVars false
open Go.Proofs.Try renaming prog → Tp
open Go.HL.HV renaming undef → Ud
theorem Qof:Try.f70.results.toList=[.tmp 6]:=by kernel_rfl
theorem u66:Tp.underlying 66=some (.array 11 3):=by kernel_rfl
def Small (ps:List Int):Prop:=ps.length=11∧∀x∈ps,-1000000000≤x∧x≤1000000000
def mpF (f:List (List Int)→Int→List Int→Option HV):List HV→Option HV
 | [.imm .arg 1 rw,.int .i64 a,.agg pv]=>(match mapO G9 rw,mapO G4 pv with | some R,some ps=>f R a ps | _,_=>none)
 | _=>none
theorem Qam {f:List (List Int)→Int→List Int→Option HV} {args:List HV} {res:HV} (h:mpF f args=some res):∃R a ps,args=[.imm .arg 1 (R.map Qb),.int .i64 a,.agg (ps.map hvI)]∧f R a ps=some res:=by
 unfold mpF at h
 split at h
 ·rename_i rw a pv
  split at h
  ·rename_i R ps hR hp
   exact ⟨R,a,ps,by rw [W7 K2 hR,W7 K0 hp],h⟩
  ·cases h
 ·cases h
open Classical in
noncomputable def XG:List HV→Option HV:=mpF fun R a ps=>if okD R∧(0≤a∧a≤R.length)∧Small ps then some (.own 3 ((edg R ps a.toNat).map Qs)) else none
section
variable {d:List (List Int)} {ps:List Int} {f:Nat}
abbrev pB (ps:List Int):Blk:=.arr 11 [.agg (ps.map hvI)] true 0
abbrev edH (ps:List Int) (l:List Ed):Heap:=[pB ps,bE Qs l]
theorem Small.at (h:Small ps) {i:Nat} (hi:i<11):-1000000000≤ps.getD i 0∧ps.getD i 0≤1000000000:=by
 have hl:=h.1
 have:ps.getD i 0=ps[i]:=by simp [qD,qH (show i<ps.length by omega)]
 rw [this];exact h.2 _ (jI _)
theorem gmn {R:List (List Int)} {y:Nat} (hy:y<R.length):WW Tp 68 (.imm .arg 1 (R.map Qb)) (.int .i64 (y:Int))=some (.vptr (.imm .arg 1 ((R.getD y []).map hvI))):=by
 have:=gm (R:=R) (y:=(y:Int)) (by omega) (by omega)
 rwa [qF] at this
theorem QgV (hp:ps.length=11):(if (cellsOf (.agg (ps.map hvI))).all Ql then some (Wm (.agg (ps.map hvI)) []) else none)=some (.ptr 0 0 0 1,[pB ps]):=by
 have h:(cellsOf (.agg (ps.map hvI))).all Ql=true:=by simp [cellsOf,Ql,hvI]
 rw [if_pos h]
 simp only [Wm,cellsOf,bnd,Xs,qB,hp];rfl
theorem px {H:Heap} {b tot:Nat} {i:Nat} (hi:i<11):WW Tp 66 (.ptr b 0 0 tot) (.int .i64 (i:Int))=some (.ptr b 0 i tot):=by
 have:=Qef (P:=Tp) (t:=66) (e:=3) (b:=b) (i:=0) (m:=11) (tot:=tot) (ik:=.i64) (n:=(i:Int)) u66 z3 (by omega) (by omega)
 rwa [qF] at this
theorem QgW {H:Heap} {b i:Nat} (hb:H[b]?=some (pB ps)) (hp:ps.length=11) (hi:i<11):Qh Tp H 3 (.ptr b 0 i 1)=some (.int .i64 (ps.getD i 0)) :=
 J3 (b:=b) hb rfl rfl a3 i3 (by rw [qG,qH (by omega)];simp [qD,qH (show i<ps.length by omega),hvI])
theorem UD:∀(l:List Ed),bndL (l.map Qs)=0
 | []=>rfl
 | a::l=>by simp only [qL,bndL,UD l,Qs,bnd];rfl
theorem Qog {H:Heap} {b:Nat} {o:List Ed} (hb:H[b]?=some (bE Qs o)) (hl:o.length≤1000) (e:Ed) :
  WV H 3 24 (.sl b 0 o.length none o.length 3) [Qs e]=some (.sl b 0 (o.length+1) none (o.length+1) 3,H.set b (bE Qs (o++[e]))):=by
 have:=DX (H:=H) (k:=3) (bytes:=24) (b:=b) (n:=o.length) (mx:=0) (els:=o.map Qs) (xs:=[Qs e]) hb (by simp) (by simp) (by simp only [Q0,jJ];omega) (UD [e])
 rw [this]
 simp only [bE,qV,qL,jN,jJ]
theorem Dp {b:Nat}:∀k a,(ZE d ps b k a).length=k
 | 0,_=>rfl
 | k+1,a=>by simp [ZE,Dp k]
abbrev edE (d:List (List Int)) (ps:List Int) (f m:Nat) (v8 v9 v11 v12:HV):Env:=(UC (.a (d.map Qb)) (.i (f:Int)) (.agg (ps.map hvI)) (.q 0) (.imm .lit 3 []) (.sl 1 0 m none m 3) v8 v9 v11 v12)
theorem Qoh (hd:okD d) (hp:Small ps) {i:Nat} (hi:i<d.length):∀k j (o:List Ed),j+k=i→o.length+k≤500 →
  RT polSo 70 (sn 14950 B70) (edE d ps f o.length (.int .i64 (i:Int)) (.int .i64 (j:Int)) (.int .i64 (d.length:Int)) (.int .i64 (i:Int))) (edH ps o) (.exit 2)
   (edE d ps f (o++ZE d ps i k j).length (.int .i64 (i:Int)) (.int .i64 (i:Int)) (.int .i64 (d.length:Int)) (.int .i64 (i:Int))) (edH ps (o++ZE d ps i k j)):=by
 have hn:=hd.1
 intro k
 induction k with
 | zero =>
  intro j o hj hl
  have:j=i:=by omega
  subst this
  have s:=Qdb 0 (d.map Qb) (ps.map hvI) f o.length (o.map Qs) j j (by omega)
  rw [qB] at s
  rw [ZE,jP]
  exact lpo (s)
 | succ k ih =>
  intro j o hj hl
  have b1:=hd.at (i:=j) (j:=i) (by omega) hi
  have b2:=hp.at (i:=j) (by omega)
  have b3:=hp.at (i:=i) (by omega)
  have e:qA.wrap (qA.wrap (at2 d j i+ps.getD j 0)+ps.getD i 0)=cst d ps j i:=by
   rw [Qn (n:=at2 d j i+ps.getD j 0) (by omega) (by omega),Qn (by omega) (by omega)];rfl
  have ap:=Qog (H:=edH ps o) (b:=1) (o:=o) rfl (by omega) (mkE d ps j i)
  have s:=Qk0 0 (d.map Qb) (ps.map hvI) f o.length (o.map Qs) i j (by omega) (gmn (by omega)) (XF hd (by omega) hi) (px (H:=[]) (by omega)) (QgW (H:=edH ps o) rfl hp.1 (by omega)) (px (H:=[]) (by omega)) (QgW (H:=edH ps o) rfl hp.1 (by omega)) (by
   rw [e]
   rw [show [HV.agg [.int .i64 (cst d ps j i),.int .i64 (j:Int),.int .i64 (i:Int)]]=[Qs (mkE d ps j i)] from rfl]
   have:=ap
   rw [show edH ps o=[.arr 11 [.agg (ps.map hvI)] true 0,.arr 3 (o.map Qs) true 0] from rfl] at this
   rw [this]
   simp [bE,edH])
  rw [Qc (by omega),qB] at s
  have hs:o.map Qs++[HV.agg [.int .i64 (qA.wrap (qA.wrap (at2 d j i+ps.getD j 0)+ps.getD i 0)),.int .i64 (j:Int),.int .i64 (i:Int)]]=(o++[mkE d ps j i]).map Qs:=by rw [e];simp [Qs]
  rw [hs] at s
  have r:=ih (j+1) (o++[mkE d ps j i]) (by omega) (by simp;omega)
  rw [qW,show [mkE d ps j i]++ZE d ps i k (j+1)=ZE d ps i (k+1) j from rfl,show (o++[mkE d ps j i]).length=o.length+1 by simp] at r
  exact lop (s) (WN _ rfl) (r)
theorem Qlk (hd:okD d) (hp:Small ps) (hf:f≤d.length):∀k i (o:List Ed),i+k=d.length→o.length+k*(i+k)≤200 →
  ∃y8 y9,RT polSo 70 (sn 58 B70) (edE d ps f o.length Ud Ud (.int .i64 (d.length:Int)) (.int .i64 (i:Int))) (edH ps o) (.exit 0)
   (edE d ps f (o++WS d ps f k i).length y8 y9 (.int .i64 (d.length:Int)) (.int .i64 (d.length:Int))) (edH ps (o++WS d ps f k i)):=by
 have hn:=hd.1
 intro k
 induction k with
 | zero =>
  intro i o hi hl
  have:i=d.length:=by omega
  subst this
  have s:=QkX 0 (d.map Qb) (ps.map hvI) f o.length (o.map Qs) d.length (y8:=Ud) (y9:=Ud) (by simp)
  have s2:=Qfe 0 (d.map Qb) (ps.map hvI) f o.length (o.map Qs) d.length (y8:=Ud) (y9:=Ud)
  rw [qB] at s s2
  rw [WS,jP]
  exact ⟨_,_,lpo (sq (s) (sqo (s2) (c:=sn 233 B70) (b:=sn 467 B70)) (c:=sn 116 B70))⟩
 | succ k ih =>
  intro i o hi hl
  have hm:o.length+(k+1)*(i+(k+1))=o.length+(i+(k+1))+k*(i+1+k):=by
   rw [Nat.add_mul,Nat.one_mul,show i+(k+1)=i+1+k by omega];omega
  have s:=QkW 0 (d.map Qb) (ps.map hvI) f o.length (o.map Qs) i (y8:=Ud) (y9:=Ud) (by rw [qB];omega)
  have s2:=Qfd 0 (d.map Qb) (ps.map hvI) f o.length (o.map Qs) i (y8:=Ud) (y9:=Ud)
  have s3:=QkY 0 (d.map Qb) (ps.map hvI) f o.length (o.map Qs) i (y8:=Ud) (y9:=Ud)
  have s4:=QkZ 0 (d.map Qb) (ps.map hvI) f o.length (o.map Qs) i (y9:=Ud)
  rw [qB] at s s2 s3 s4
  by_cases hfi:f≤i
  ·have r:=Qoh (f:=f) hd hp (i:=i) (by omega) (i-f) f o (by omega) (by omega)
   have s5:=Qdc 0 (d.map Qb) (ps.map hvI) f (o++ZE d ps i (i-f) f).length ((o++ZE d ps i (i-f) f).map Qs) i (y8:=.i (i:Int)) (y9:=.i (i:Int))
   rw [Qc (by omega),qB] at s5
   have st:=sq (s) (sq (s2) (sq (RunsTo.block_normal (i:=1) (c:=sn 934 B70) (sq (s3) (sq (s4) (bke (c:=sn 7475 B70) (r)) (c:=sn 3737 B70)) (c:=sn 1868 B70)) (by kernel_rfl)) (s5) (c:=sn 467 B70)) (c:=sn 233 B70)) (c:=sn 116 B70)
   obtain ⟨y8,y9,r2⟩:=ih (i+1) (o++ZE d ps i (i-f) f) (by omega) (by rw [List.length_append,Dp];omega)
   rw [qW,show ZE d ps i (i-f) f++WS d ps f k (i+1)=WS d ps f (k+1) i from rfl] at r2
   exact ⟨y8,y9,lop (st) (WN _ rfl) (r2)⟩
  ·have sx:=Qdb 0 (d.map Qb) (ps.map hvI) f o.length (o.map Qs) i f (by omega)
   have s5:=Qdc 0 (d.map Qb) (ps.map hvI) f o.length (o.map Qs) i (y8:=.i (i:Int)) (y9:=.i (f:Int))
   rw [qB] at sx s5
   rw [Qc (by omega)] at s5
   have st:=sq (s) (sq (s2) (sq (RunsTo.block_normal (i:=1) (c:=sn 934 B70) (sq (s3) (sq (s4) (bke (c:=sn 7475 B70) (lpo (sx) (c:=sn 14950 B70))) (c:=sn 3737 B70)) (c:=sn 1868 B70)) (by kernel_rfl)) (s5) (c:=sn 467 B70)) (c:=sn 233 B70)) (c:=sn 116 B70)
   obtain ⟨y8,y9,r2⟩:=ih (i+1) o (by omega) (by omega)
   have e:WS d ps f (k+1) i=WS d ps f k (i+1):=by
    rw [WS,show i-f=0 by omega];rfl
   rw [← e] at r2
   exact ⟨y8,y9,lop (st) (WN _ rfl) (r2)⟩
end
theorem QgX {H:Heap} {no:List Nat} {n:Nat} (e:Ed):frz H no (n+1) (Qs e)=some (Qs e):=by
 show (match mapO (frz H no n) [.int .i64 e.1,.int .i64 e.2.1,.int .i64 e.2.2] with | some l=>some (HV.agg l) | none=>none)=_
 have h1:∀x:Int,frz H no n (.int .i64 x)=some (.int .i64 x):=fun x=>Kr n x
 simp only [mapO,h1];rfl
theorem Qde:QN Tp 70 XG:=by
 refine Qp (pol:=polSo) (fn:=Try.f70) (cd:=B70) Qi QeT (by kernel_rfl) (by kernel_rfl) (Jj polSo.prim _ _ (by kernel_rfl)) (by kernel_rfl) ?_
 intro args res h
 obtain ⟨d,a0,ps,rfl,hq⟩:=Qam h
 clear h
 split at hq
 ·rename_i hc
  obtain ⟨hd,ha,hp⟩:=hc
  cases hq
  have hn:=hd.1
  obtain ⟨f,rfl⟩:∃x:Nat,a0=(x:Int):=⟨a0.toNat,by omega⟩
  rw [qF]
  have s0:=QkT 0 (d.map Qb) (ps.map hvI) f (QgV hp.1)
  have s1:=QkU 0 (d.map Qb) (ps.map hvI) f (y7:=Ud) (y8:=Ud) (y9:=Ud) (y11:=Ud) (y12:=Ud)
  have s2:=QkV 0 (d.map Qb) (ps.map hvI) f 0 [] (y8:=Ud) (y9:=Ud) (y11:=Ud) (y12:=Ud)
  rw [qB] at s2
  have hkk:d.length*d.length≤11*11:=Nat.mul_le_mul hn.2 hn.2
  obtain ⟨y8,y9,r⟩:=Qlk (f:=f) hd hp (by omega) d.length 0 [] (by omega) (by simp;omega)
  rw [qQ] at r
  have hl:=X5 (d:=d) (p:=ps) (f:=f) d.length 0
  rw [qX] at hl
  obtain ⟨l',hc,h1,h2⟩:=Qda (H:=edH ps (WS d ps f d.length 0)) (db:=1) (l:=WS d ps f d.length 0) (by omega) rfl rfl (by simp [mxs,Blk.mx,bE])
  have he:=QkS (by omega) h1 h2
  subst he
  obtain ⟨N,hN⟩:=hc.from
  have s3:=Qk1 N (d.map Qb) (ps.map hvI) f (WS d ps f d.length 0).length ((WS d ps f d.length 0).map Qs) (y8:=y8) (y9:=y9) (y11:=.i (d.length:Int)) (y12:=.i (d.length:Int)) hN
  have r':=lpi (e0:=edE d ps f 0 Ud Ud (.int .i64 (d.length:Int)) (.int .i64 0)) r (b:=sn 116 B70)
  have t:=sq (s0) (sq (s1) (sq (sq (s2) (bke (c:=sn 29 B70) (r')) (c:=sn 14 B70)) (s3) (c:=sn 7 B70)) (c:=sn 3 B70)) (c:=B70)
  have hll:(WS d ps f d.length 0).length=(edg d ps f).length:=h1.length_eq.symm
  rw [hll] at t
  have hr:=ZX (H:=[pB ps,bE Qs (edg d ps f)]) (no:=[1]) (b:=1) (k:=3) (m:=(edg d ps f).length) (cap:=none) (els:=(edg d ps f).map Qs) rfl (by simp) (WB (fun e=>QgX (n:=3) e) _)
  have ho:Qu [pB ps,bE Qs (edg d ps f)] false (.sl 1 0 (edg d ps f).length none (edg d ps f).length 3)=[1]:=by simp [Qu,cellsOf,WQ,bE]
  refine ⟨_,_,_,.sl 1 0 (edg d ps f).length none (edg d ps f).length 3,t,by simp,by simp only [Qf,Qof];rfl,?_⟩
  show We [pB ps,bE Qs (edg d ps f)] false (.sl 1 0 (edg d ps f).length none (edg d ps f).length 3)=_
  simp only [We,ho,qR,jQ,not_false_eq_true,qY,and_self,if_true,WO,hr]
 ·cases hq
theorem UE (o:List Int) (i k:Nat) (v:Int) (hi:i<o.length):(o.set i v).getD k 0=if i=k then v else o.getD k 0:=by
 simp only [qD,qZ,hi]
 split
 ·rename_i e;subst e;simp
 ·rfl
def rlb (o w:Int):Nat→Nat→List Int→List Int
 | 0,_,g=>g
 | k+1,j,g=>rlb o w k (j+1) (if g.getD j 0=o then g.set j w else g)
def krP:List Ed→List Int→List Ed
 | [],_=>[]
 | e::l,g=>if g.getD e.2.1.toNat 0=g.getD e.2.2.toNat 0 then krP l g else e::krP l (rlb (g.getD e.2.1.toNat 0) (g.getD e.2.2.toNat 0) g.length 0 g)
def iota (n:Nat):List Int:=(qC n).map fun i:Nat=>(i:Int)
def WD (d:List (List Int)) (ps:List Int) (f:Nat):List Ed:=krP (edg d ps f) (iota d.length)
theorem Ku (o w:Int):∀k j g,(rlb o w k j g).length=g.length
 | 0,_,_=>rfl
 | k+1,j,g=>by
  rw [rlb,Ku o w k]
  split
  ·simp
  ·rfl
theorem Gh (o w:Int):∀k j (g:List Int),j+k=g.length→∀x,(rlb o w k j g).getD x 0=if j≤x∧x<g.length∧g.getD x 0=o then w else g.getD x 0
 | 0,j,g,h,x=>by rw [rlb,if_neg (by omega)]
 | k+1,j,g,h,x=>by
  rw [rlb]
  by_cases c:g.getD j 0=o
  ·rw [if_pos c,Gh o w k (j+1) _ (by simp;omega),List.length_set,UE _ _ _ _ (by omega)]
   by_cases e:j=x
   ·subst e
    rw [if_neg (by omega),if_pos rfl,if_pos ⟨qJ _,by omega,c⟩]
   ·rw [if_neg e]
    by_cases c2:j+1≤x∧x<g.length∧g.getD x 0=o
    ·rw [if_pos c2,if_pos ⟨by omega,c2.2⟩]
    ·rw [if_neg c2,if_neg (fun h=>c2 ⟨by omega,h.2⟩)]
  ·rw [if_neg c,Gh o w k (j+1) g (by omega)]
   by_cases c2:j+1≤x∧x<g.length∧g.getD x 0=o
   ·rw [if_pos c2,if_pos ⟨by omega,c2.2⟩]
   ·rw [if_neg c2,if_neg (fun h=>c2 ⟨by
     rcases Nat.lt_or_ge j x with h1 | h1
     ·omega
     ·have:x=j:=by omega
      subst this;exact absurd h.2.2 c,h.2⟩)]
theorem Kv (o w:Int) (g:List Int) {x:Nat} (hx:x<g.length):(rlb o w g.length 0 g).getD x 0=if g.getD x 0=o then w else g.getD x 0:=by
 rw [Gh o w g.length 0 g (by omega)]
 by_cases c:g.getD x 0=o
 ·rw [if_pos ⟨qS _,hx,c⟩,if_pos c]
 ·rw [if_neg (fun h=>c h.2.2),if_neg c]
def Eqv (n:Nat) (g h:List Int):Prop:=(g.length=n∧h.length=n)∧∀x y,x<n→y<n→(g.getD x 0=g.getD y 0↔h.getD x 0=h.getD y 0)
def EIn (n:Nat) (l:List Ed):Prop:=∀e∈l,(0≤e.2.1∧e.2.1.toNat<n)∧0≤e.2.2∧e.2.2.toNat<n
theorem Eqv.step {n:Nat} {g h:List Int} (he:Eqv n g h) {a b:Nat} (ha:a<n) (hb:b<n):Eqv n (rlb (g.getD a 0) (g.getD b 0) g.length 0 g) (rlb (h.getD b 0) (h.getD a 0) h.length 0 h):=by
 obtain ⟨⟨h1,h2⟩,h3⟩:=he
 refine ⟨⟨by rw [Ku];exact h1,by rw [Ku];exact h2⟩,fun x y hx hy=>?_⟩
 rw [Kv _ _ _ (by omega),Kv _ _ _ (by omega),Kv _ _ _ (by omega),Kv _ _ _ (by omega)]
 have q1:=h3 x a hx ha
 have q2:=h3 y a hy ha
 have q3:=h3 x b hx hb
 have q4:=h3 y b hy hb
 have q5:=h3 x y hx hy
 have q6:=h3 a b ha hb
 generalize g.getD x 0=gx at *
 generalize g.getD y 0=gy at *
 generalize g.getD a 0=ga at *
 generalize g.getD b 0=gb at *
 generalize h.getD x 0=hx' at *
 generalize h.getD y 0=hy' at *
 generalize h.getD a 0=ha' at *
 generalize h.getD b 0=hb' at *
 split <;> split <;> split <;> split <;> (constructor <;> intro q <;> omega)
theorem Eqv.refl {n:Nat} {g:List Int} (h:g.length=n):Eqv n g g:=⟨⟨h,h⟩,fun _ _ _ _=>Iff.rfl⟩
theorem Ja (n:Nat):(iota n).length=n:=by simp [iota]
theorem Z6 {n x:Nat} (hx:x<n):(iota n).getD x 0=(x:Int):=by simp [iota,qD,qG,qK hx]
theorem SC {d:List (List Int)} {ps:List Int} {f:Nat} (hf:f≤d.length):EIn d.length (edg d ps f):=fun e he=>by
 obtain ⟨x,y,h,rfl⟩:=((JP (d:=d) (p:=ps) hf).2 e).1 he
 refine ⟨⟨?_,?_⟩,?_,?_⟩
 ·show (0:Int)≤(x:Int);omega
 ·show ((x:Int)).toNat<d.length;omega
 ·show (0:Int)≤(y:Int);omega
 ·show ((y:Int)).toNat<d.length;omega
theorem Gi:∀(l:List Ed) (g:List Int),(krP l g).length≤l.length
 | [],_=>qJ _
 | e::l,g=>by
  rw [krP]
  split
  ·have:=Gi l g;simp;omega
  ·have:=Gi l (rlb (g.getD e.2.1.toNat 0) (g.getD e.2.2.toNat 0) g.length 0 g);rw [qN,qN];omega
theorem Gj {e:Ed}:∀(l:List Ed) (g:List Int),e∈krP l g→e∈l
 | [],_,h=>h
 | x::l,g,h=>by
  rw [krP] at h
  split at h
  ·exact qT _ (Gj l g h)
  ·rcases List.mem_cons.1 h with rfl | h
   ·simp
   ·exact qT _ (Gj l _ h)
theorem Qan {d:List (List Int)} {ps:List Int} {f:Nat} (hd:okD d) (hf:f≤d.length):(edg d ps f).length≤121:=by
 have hn:=hd.1
 have hkk:d.length*d.length≤11*11:=Nat.mul_le_mul hn.2 hn.2
 have hl:=X5 (d:=d) (p:=ps) (f:=f) d.length 0
 rw [qX] at hl
 obtain ⟨h1,h2⟩:=JP (d:=d) (p:=ps) hf
 have nd:(edg d ps f).Nodup:=h1.imp (fun {a b} h e=>by subst e;exact ltE_lin.rf _ h)
 have:=nd.length_le_of_subset (l₂:=WS d ps f d.length 0) (fun e he=>by
  obtain ⟨x,y,h,e'⟩:=(h2 e).1 he
  exact (Vt _ _).2 ⟨x,y,by omega,e'⟩)
 omega
open Classical in
noncomputable def JA:List HV→Option HV:=mpF fun R a ps=>if okD R∧(0≤a∧a≤R.length)∧Small ps then some (.own 3 ((WD R ps a.toNat).map Qs)) else none
noncomputable def polSp:Pol:={ pol with prim:=fun g=>if g==70 then some XG else none }
theorem Qfj (n:Nat):Qo Tp (Qa Tp polSp n):=QW _ (fun g f h=>by
 split at h
 ·rename_i hg;cases h;rw [eq_of_beq hg];exact Qde
 ·cases h) n
end Go.Proofs.Ytlendaofkmhgmaa
end
section
open Go Go.HL
namespace Go.Proofs.Ytlendaofkmhgmaa
set_option maxRecDepth 100000
set_option linter.unusedSectionVars false
open Go.Proofs.Try renaming prog → Tp
open Go.HL.HV renaming undef → Ud
noncomputable def B61:Code:=Try.f61.body.getD .skip
abbrev WT (v0 v1 v2 v5 v6 v7 v8 v9 v11 v12 v13 v14 v19 v20 v31 v32 v33 v55 v56:HV):Env:=[(0,v0),(1,v1),(2,v2),(5,v5),(6,v6),(7,v7),(8,v8),(9,v9),(11,v11),(12,v12),(13,v13),(14,v14),(19,v19),(20,v20),(31,v31),(32,v32),(33,v33),(55,v55),(56,v56)]
abbrev e61 (rw:List HV) (f:Nat) (ps:List HV) (n:Nat) (m:Nat) (q:Nat) (u3 u6 u8 u9 u10 u11 u12 u13 u16 u17 u18:HV):Env:=WT (.a rw) (.n f) (.agg ps) u3 (.imm .lit 3 []) (.o 1 n) u6 (.sl 2 0 m none m 3) u8 u9 u10 u11 u12 u13 (.sl 3 0 q none q 3) (.n q) u16 u17 u18
section
variable (rw ps:List HV) (f:Nat)
include rw ps f
theorem Qfk (g0:(if (cellsOf (.agg ps)).all Ql then some (Wm (.agg ps) []) else none)=some (.q 0,[.arr 11 [.agg ps] true 0])): RT polSp 61 (sn 2 B61) [(0,.a rw),(1,.n f),(2,.agg ps)] [] .normal (WT (.a rw) (.n f) (.agg ps) (.q 0) (.imm .lit 3 []) Ud Ud Ud Ud Ud Ud Ud Ud Ud Ud Ud Ud Ud Ud) [.arr 11 [.agg ps] true 0] :=
 hx 0 60 [jR 0 0 g0]
end
section
variable (rw ps:List HV) (f:Nat)
include rw ps f
theorem Qfl (g0:VB Tp false 23 (.i (rw.length:Int)) (.i (rw.length:Int)) [.arr 11 [.agg ps] true 0]=some (.sl 1 0 rw.length (some rw.length) rw.length 1,[.arr 11 [.agg ps] true 0,.arr 1 (qE rw.length (.i 0)) true 0])) (y7 y8 y9 y11 y12 y13 y14 y19 y20 y31 y32 y33 y55 y56:HV:=Ud): RT polSp 61 (sn 6 B61) (WT (.a rw) (.n f) (.agg ps) (.q 0) (.imm .lit 3 []) y7 y8 y9 y11 y12 y13 y14 y19 y20 y31 y32 y33 y55 y56) [.arr 11 [.agg ps] true 0] .normal (WT (.a rw) (.n f) (.agg ps) (.q 0) (.imm .lit 3 []) (.o 1 rw.length) y8 y9 y11 y12 y13 y14 y19 y20 y31 y32 y33 y55 y56) [.arr 11 [.agg ps] true 0,.arr 1 (qE rw.length (.i 0)) true 0] :=
 hx 0 60 [jR 1 2 g0]
theorem Qfm (n:Nat) (gs:List HV) (y8 y9 y11 y12 y13 y14 y19 y20 y31 y32 y33 y55 y56:HV:=Ud): RT polSp 61 (sn 28 B61) (WT (.a rw) (.n f) (.agg ps) (.q 0) (.imm .lit 3 []) (.o 1 n) y8 y9 y11 y12 y13 y14 y19 y20 y31 y32 y33 y55 y56) [.arr 11 [.agg ps] true 0,.b gs] .normal (WT (.a rw) (.n f) (.agg ps) (.q 0) (.imm .lit 3 []) (.o 1 n) y8 y9 y11 y12 y13 y14 (.n n) (.i 0) y31 y32 y33 y55 y56) [.arr 11 [.agg ps] true 0,.b gs] :=
 hx 0 60 []
theorem Qfn (n:Nat) (gs:List HV) (i:Nat) {el0:List HV} (g0:(i:Int)<(n:Int)) (g1:IO 23 1 n i) (g2:ST [.arr 11 [.agg ps] true 0,.b gs] 3 (.ptr 1 i 0 n) (.n i) [.arr 11 [.agg ps] true 0,.b el0]) (y8 y9 y11 y12 y13 y14 y31 y32 y33 y55 y56:HV:=Ud): RT polSp 61 (sn 116 B61) (WT (.a rw) (.n f) (.agg ps) (.q 0) (.imm .lit 3 []) (.o 1 n) y8 y9 y11 y12 y13 y14 (.n n) (.n i) y31 y32 y33 y55 y56) [.arr 11 [.agg ps] true 0,.b gs] .normal (WT (.a rw) (.n f) (.agg ps) (.q 0) (.imm .lit 3 []) (.o 1 n) (.n i) y9 y11 y12 y13 y14 (.n n) (.i (qA.wrap ((i:Int)+1))) y31 y32 y33 y55 y56) [.arr 11 [.agg ps] true 0,.b el0] :=
 hx 0 60 [jT 3 0 [.arr 11 [.agg ps] true 0,.b gs] g0,jO 5 3 [.arr 11 [.agg ps] true 0,.b gs] g1,jS 5 4 g2]
theorem Qfo (n:Nat) (gs:List HV) (i:Nat) (g0:¬((i:Int)<(n:Int))) (y8 y9 y11 y12 y13 y14 y31 y32 y33 y55 y56:HV:=Ud): RT polSp 61 (sn 116 B61) (WT (.a rw) (.n f) (.agg ps) (.q 0) (.imm .lit 3 []) (.o 1 n) y8 y9 y11 y12 y13 y14 (.n n) (.n i) y31 y32 y33 y55 y56) [.arr 11 [.agg ps] true 0,.b gs] (.exit 0) (WT (.a rw) (.n f) (.agg ps) (.q 0) (.imm .lit 3 []) (.o 1 n) y8 y9 y11 y12 y13 y14 (.n n) (.n i) y31 y32 y33 y55 y56) [.arr 11 [.agg ps] true 0,.b gs] :=
 hx 0 60 [jF 3 0 [.arr 11 [.agg ps] true 0,.b gs] g0]
theorem Qfp (n:Nat) (gs:List HV) (y8 y9 y11 y12 y13 y14 y19 y20 y31 y32 y33 y55 y56:HV:=Ud): RT polSp 61 (sn 30 B61) (WT (.a rw) (.n f) (.agg ps) (.q 0) (.imm .lit 3 []) (.o 1 n) y8 y9 y11 y12 y13 y14 y19 y20 y31 y32 y33 y55 y56) [.arr 11 [.agg ps] true 0,.b gs] .normal (WT (.a rw) (.n f) (.agg ps) (.q 0) (.imm .lit 3 []) (.o 1 n) y8 (.sl 2 0 0 none 0 3) y11 y12 y13 y14 y19 y20 y31 y32 y33 y55 y56) [.arr 11 [.agg ps] true 0,.b gs,.arr 3 [] true 0] :=
 hx 0 60 []
theorem Qfq (n:Nat) (gs:List HV) (m:Nat) (os:List HV) {q:Nat} {es:List HV} (g0:LD [.arr 11 [.agg ps] true 0,.b gs,.arr 3 os true 0] 66 (.q 0) (.agg ps)) (g1:∀kf,Qa Tp polSp (kf+1) 70 [.a rw,.n f,.agg ps] [.arr 11 [.agg ps] true 0,.b gs,.arr 3 os true 0]=some (.sl 3 0 q none q 3,[.arr 11 [.agg ps] true 0,.b gs,.arr 3 os true 0,.arr 3 es true 0])) (y8 y11 y12 y13 y14 y19 y20 y31 y32 y33 y55 y56:HV:=Ud): RT polSp 61 (sn 124 B61) (WT (.a rw) (.n f) (.agg ps) (.q 0) (.imm .lit 3 []) (.o 1 n) y8 (.sl 2 0 m none m 3) y11 y12 y13 y14 y19 y20 y31 y32 y33 y55 y56) [.arr 11 [.agg ps] true 0,.b gs,.arr 3 os true 0] .normal (e61 rw f ps n m q (.q 0) y8 y11 y12 y13 y14 y19 y20 (.i 0) y55 y56) [.arr 11 [.agg ps] true 0,.b gs,.arr 3 os true 0,.arr 3 es true 0] :=
 hx 0 60 [jO 8 2 [.arr 11 [.agg ps] true 0,.b gs,.arr 3 os true 0] g0,jD 8 3 g1]
theorem Qfr (n:Nat) (gs:List HV) (m:Nat) (os:List HV) (q:Nat) (es:List HV) (i:Nat) (g0:(i:Int)<(q:Int)) (y5 y8 y11 y12 y13 y14 y19 y20 y55 y56:HV:=Ud): RunsTo Tp polSp 61 (sn 1000 B61) (e61 rw f ps n m q y5 y8 y11 y12 y13 y14 y19 y20 (.n i) y55 y56) [.arr 11 [.agg ps] true 0,.b gs,.arr 3 os true 0,.arr 3 es true 0] .normal [0,1,2,5,6,7,8,9,11,12,13,14,19,20,31,32,33,55,56,34] [(0,.a rw),(1,.n f),(2,.agg ps),(5,y5),(6,.imm .lit 3 []),(7,.o 1 n),(8,y8),(9,.sl 2 0 m none m 3),(11,y11),(12,y12),(13,y13),(14,y14),(19,y19),(20,y20),(31,.sl 3 0 q none q 3),(32,.n q),(33,.n i),(55,y55),(56,y56),(34,.bool true)] [.arr 11 [.agg ps] true 0,.b gs,.arr 3 os true 0,.arr 3 es true 0] :=
 hx 0 60 [jT 9 0 [.arr 11 [.agg ps] true 0,.b gs,.arr 3 os true 0,.arr 3 es true 0] g0]
theorem Qfs (n:Nat) (gs:List HV) (m:Nat) (os:List HV) (q:Nat) (es:List HV) (i:Nat) (g0:¬((i:Int)<(q:Int))) (y5 y8 y11 y12 y13 y14 y19 y20 y55 y56:HV:=Ud): RunsTo Tp polSp 61 (sn 1000 B61) (e61 rw f ps n m q y5 y8 y11 y12 y13 y14 y19 y20 (.n i) y55 y56) [.arr 11 [.agg ps] true 0,.b gs,.arr 3 os true 0,.arr 3 es true 0] .normal [0,1,2,5,6,7,8,9,11,12,13,14,19,20,31,32,33,55,56,34] [(0,.a rw),(1,.n f),(2,.agg ps),(5,y5),(6,.imm .lit 3 []),(7,.o 1 n),(8,y8),(9,.sl 2 0 m none m 3),(11,y11),(12,y12),(13,y13),(14,y14),(19,y19),(20,y20),(31,.sl 3 0 q none q 3),(32,.n q),(33,.n i),(55,y55),(56,y56),(34,.bool false)] [.arr 11 [.agg ps] true 0,.b gs,.arr 3 os true 0,.arr 3 es true 0] :=
 hx 0 60 [jF 9 0 [.arr 11 [.agg ps] true 0,.b gs,.arr 3 os true 0,.arr 3 es true 0] g0]
theorem Qdf (n:Nat) (gs:List HV) (m:Nat) (os:List HV) (q:Nat) (es:List HV) (i:Nat) (y5 y8 y11 y12 y13 y14 y19 y20 y55 y56:HV:=Ud): RT polSp 61 (sn 2002 B61) [(0,.a rw),(1,.n f),(2,.agg ps),(5,y5),(6,.imm .lit 3 []),(7,.o 1 n),(8,y8),(9,.sl 2 0 m none m 3),(11,y11),(12,y12),(13,y13),(14,y14),(19,y19),(20,y20),(31,.sl 3 0 q none q 3),(32,.n q),(33,.n i),(55,y55),(56,y56),(34,.bool true)] [.arr 11 [.agg ps] true 0,.b gs,.arr 3 os true 0,.arr 3 es true 0] .normal (e61 rw f ps n m q y5 y8 y11 y12 y13 y14 y19 y20 (.n i) y55 y56) [.arr 11 [.agg ps] true 0,.b gs,.arr 3 os true 0,.arr 3 es true 0] :=
 hx 0 60 []
theorem Qdg (n:Nat) (gs:List HV) (m:Nat) (os:List HV) (q:Nat) (es:List HV) (i:Nat) (y5 y8 y11 y12 y13 y14 y19 y20 y55 y56:HV:=Ud): RT polSp 61 (sn 2002 B61) [(0,.a rw),(1,.n f),(2,.agg ps),(5,y5),(6,.imm .lit 3 []),(7,.o 1 n),(8,y8),(9,.sl 2 0 m none m 3),(11,y11),(12,y12),(13,y13),(14,y14),(19,y19),(20,y20),(31,.sl 3 0 q none q 3),(32,.n q),(33,.n i),(55,y55),(56,y56),(34,.bool false)] [.arr 11 [.agg ps] true 0,.b gs,.arr 3 os true 0,.arr 3 es true 0] (.exit 2) (e61 rw f ps n m q y5 y8 y11 y12 y13 y14 y19 y20 (.n i) y55 y56) [.arr 11 [.agg ps] true 0,.b gs,.arr 3 os true 0,.arr 3 es true 0] :=
 hx 0 60 []
theorem Qft (n:Nat) (gs:List HV) (m:Nat) (os:List HV) (q:Nat) (es:List HV) (i:Nat) (ec:Int) (ea eb:Nat) (g0:IX 88 (.sl 3 0 q none q 3) (.n i) (.ptr 3 i 0 q)) (g1:LD [.arr 11 [.agg ps] true 0,.b gs,.arr 3 os true 0,.arr 3 es true 0] 91 (.ptr 3 i 0 q) (.agg [.i ec,.n ea,.n eb])) (y5 y8 y11 y12 y13 y14 y19 y20 y55 y56:HV:=Ud): RT polSp 61 (sn 16024 B61) (e61 rw f ps n m q y5 y8 y11 y12 y13 y14 y19 y20 (.n i) y55 y56) [.arr 11 [.agg ps] true 0,.b gs,.arr 3 os true 0,.arr 3 es true 0] .normal (e61 rw f ps n m q y5 y8 (.q 4) y12 y13 y14 y19 y20 (.n i) y55 y56) [.arr 11 [.agg ps] true 0,.b gs,.arr 3 os true 0,.arr 3 es true 0,.arr 3 [.agg [.i ec,.n ea,.n eb]] true 0] :=
 hx 0 60 [jO 10 0 [.arr 11 [.agg ps] true 0,.b gs,.arr 3 os true 0,.arr 3 es true 0] g0,jO 10 1 [.arr 11 [.agg ps] true 0,.b gs,.arr 3 os true 0,.arr 3 es true 0] g1]
theorem Qfu (n:Nat) (gs:List HV) (m:Nat) (os:List HV) (q:Nat) (es:List HV) (i:Nat) (ec:Int) (ea eb:Nat) {x0:Int} {x1:Int} (g0:IO 23 1 n ea) (g1:LD [.arr 11 [.agg ps] true 0,.b gs,.arr 3 os true 0,.arr 3 es true 0,.arr 3 [.agg [.i ec,.n ea,.n eb]] true 0] 3 (.ptr 1 ea 0 n) (.i x0)) (g2:IO 23 1 n eb) (g3:LD [.arr 11 [.agg ps] true 0,.b gs,.arr 3 os true 0,.arr 3 es true 0,.arr 3 [.agg [.i ec,.n ea,.n eb]] true 0] 3 (.ptr 1 eb 0 n) (.i x1)) (y5 y8 y12 y13 y14 y19 y20 y55 y56:HV:=Ud): RT polSp 61 (sn 32050 B61) (e61 rw f ps n m q y5 y8 (.q 4) y12 y13 y14 y19 y20 (.n i) y55 y56) [.arr 11 [.agg ps] true 0,.b gs,.arr 3 os true 0,.arr 3 es true 0,.arr 3 [.agg [.i ec,.n ea,.n eb]] true 0] .normal (e61 rw f ps n m q y5 y8 (.q 4) (.i x0) (.i x1) y14 y19 y20 (.n i) y55 y56) [.arr 11 [.agg ps] true 0,.b gs,.arr 3 os true 0,.arr 3 es true 0,.arr 3 [.agg [.i ec,.n ea,.n eb]] true 0] :=
 hx 0 60 [jO 11 3 [.arr 11 [.agg ps] true 0,.b gs,.arr 3 os true 0,.arr 3 es true 0,.arr 3 [.agg [.i ec,.n ea,.n eb]] true 0] g0,jO 11 4 [.arr 11 [.agg ps] true 0,.b gs,.arr 3 os true 0,.arr 3 es true 0,.arr 3 [.agg [.i ec,.n ea,.n eb]] true 0] g1,jO 11 8 [.arr 11 [.agg ps] true 0,.b gs,.arr 3 os true 0,.arr 3 es true 0,.arr 3 [.agg [.i ec,.n ea,.n eb]] true 0] g2,jO 11 9 [.arr 11 [.agg ps] true 0,.b gs,.arr 3 os true 0,.arr 3 es true 0,.arr 3 [.agg [.i ec,.n ea,.n eb]] true 0] g3]
theorem Qfv (n:Nat) (gs:List HV) (m:Nat) (os:List HV) (q:Nat) (es:List HV) (i:Nat) (ec:Int) (ea eb:Nat) (o w:Int) (g0:o=w) (y5 y8 y14 y19 y20 y55 y56:HV:=Ud): RT polSp 61 (sn 64102 B61) (e61 rw f ps n m q y5 y8 (.q 4) (.i o) (.i w) y14 y19 y20 (.n i) y55 y56) [.arr 11 [.agg ps] true 0,.b gs,.arr 3 os true 0,.arr 3 es true 0,.arr 3 [.agg [.i ec,.n ea,.n eb]] true 0] (.exit 3) (e61 rw f ps n m q y5 y8 (.q 4) (.i o) (.i w) y14 y19 y20 (.n i) y55 y56) [.arr 11 [.agg ps] true 0,.b gs,.arr 3 os true 0,.arr 3 es true 0,.arr 3 [.agg [.i ec,.n ea,.n eb]] true 0] :=
 hx 0 60 [jT 12 2 [.arr 11 [.agg ps] true 0,.b gs,.arr 3 os true 0,.arr 3 es true 0,.arr 3 [.agg [.i ec,.n ea,.n eb]] true 0] g0]
theorem Qfw (n:Nat) (gs:List HV) (m:Nat) (os:List HV) (q:Nat) (es:List HV) (i:Nat) (ec:Int) (ea eb:Nat) (o w:Int) (g0:¬(o=w)) (y5 y8 y14 y19 y20 y55 y56:HV:=Ud): RT polSp 61 (sn 64102 B61) (e61 rw f ps n m q y5 y8 (.q 4) (.i o) (.i w) y14 y19 y20 (.n i) y55 y56) [.arr 11 [.agg ps] true 0,.b gs,.arr 3 os true 0,.arr 3 es true 0,.arr 3 [.agg [.i ec,.n ea,.n eb]] true 0] .normal (e61 rw f ps n m q y5 y8 (.q 4) (.i o) (.i w) y14 y19 y20 (.n i) y55 y56) [.arr 11 [.agg ps] true 0,.b gs,.arr 3 os true 0,.arr 3 es true 0,.arr 3 [.agg [.i ec,.n ea,.n eb]] true 0] :=
 hx 0 60 [jF 12 2 [.arr 11 [.agg ps] true 0,.b gs,.arr 3 os true 0,.arr 3 es true 0,.arr 3 [.agg [.i ec,.n ea,.n eb]] true 0] g0]
theorem Qfx (n:Nat) (gs:List HV) (m:Nat) (os:List HV) (q:Nat) (es:List HV) (i:Nat) (ec:Int) (ea eb:Nat) (o w:Int) (g0:WV [.arr 11 [.agg ps] true 0,.b gs,.arr 3 os true 0,.arr 3 es true 0,.arr 3 [.agg [.i ec,.n ea,.n eb]] true 0] 3 24 (.sl 2 0 m none m 3) [.agg [.i ec,.n ea,.n eb]]=some (.sl 2 0 (m+1) none (m+1) 3,[.arr 11 [.agg ps] true 0,.b gs,.arr 3 (os++[.agg [.i ec,.n ea,.n eb]]) true 0,.arr 3 es true 0,.arr 3 [.agg [.i ec,.n ea,.n eb]] true 0])) (y5 y8 y14 y19 y20 y55 y56:HV:=Ud): RT polSp 61 (sn 128206 B61) (e61 rw f ps n m q y5 y8 (.q 4) (.i o) (.i w) y14 y19 y20 (.n i) y55 y56) [.arr 11 [.agg ps] true 0,.b gs,.arr 3 os true 0,.arr 3 es true 0,.arr 3 [.agg [.i ec,.n ea,.n eb]] true 0] .normal (WT (.a rw) (.n f) (.agg ps) y5 (.imm .lit 3 []) (.o 1 n) y8 (.sl 2 0 (m+1) none (m+1) 3) (.q 4) (.i o) (.i w) y14 y19 y20 (.sl 3 0 q none q 3) (.n q) (.n i) y55 y56) [.arr 11 [.agg ps] true 0,.b gs,.arr 3 (os++[.agg [.i ec,.n ea,.n eb]]) true 0,.arr 3 es true 0,.arr 3 [.agg [.i ec,.n ea,.n eb]] true 0] :=
 hx 0 60 [jR 13 3 g0]
theorem Qfy (n:Nat) (gs:List HV) (m:Nat) (os:List HV) (q:Nat) (es:List HV) (i:Nat) (ec:Int) (ea eb:Nat) (y5 y8 y12 y13 y14 y19 y20 y55 y56:HV:=Ud): RT polSp 61 (sn 256414 B61) (e61 rw f ps n m q y5 y8 (.q 4) y12 y13 y14 y19 y20 (.n i) y55 y56) [.arr 11 [.agg ps] true 0,.b gs,.arr 3 os true 0,.arr 3 es true 0,.arr 3 [.agg [.i ec,.n ea,.n eb]] true 0] .normal (e61 rw f ps n m q y5 y8 (.q 4) y12 y13 y14 y19 y20 (.n i) (.n n) (.i 0)) [.arr 11 [.agg ps] true 0,.b gs,.arr 3 os true 0,.arr 3 es true 0,.arr 3 [.agg [.i ec,.n ea,.n eb]] true 0] :=
 hx 0 60 []
theorem Qfz (n:Nat) (gs:List HV) (m:Nat) (os:List HV) (q:Nat) (es:List HV) (i:Nat) (ec:Int) (ea eb:Nat) (o w:Int) (j:Nat) {x0:Int} {el0:List HV} (g0:(j:Int)<(n:Int)) (g1:IO 23 1 n j) (g2:LD [.arr 11 [.agg ps] true 0,.b gs,.arr 3 os true 0,.arr 3 es true 0,.arr 3 [.agg [.i ec,.n ea,.n eb]] true 0] 3 (.ptr 1 j 0 n) (.i x0)) (g3:x0=o) (g4:IO 23 1 n j) (g5:ST [.arr 11 [.agg ps] true 0,.b gs,.arr 3 os true 0,.arr 3 es true 0,.arr 3 [.agg [.i ec,.n ea,.n eb]] true 0] 3 (.ptr 1 j 0 n) (.i w) [.arr 11 [.agg ps] true 0,.b el0,.arr 3 os true 0,.arr 3 es true 0,.arr 3 [.agg [.i ec,.n ea,.n eb]] true 0]) (y5 y8 y11 y14 y19 y20:HV:=Ud): RT polSp 61 (sn 1025660 B61) (e61 rw f ps n m q y5 y8 y11 (.i o) (.i w) y14 y19 y20 (.n i) (.n n) (.n j)) [.arr 11 [.agg ps] true 0,.b gs,.arr 3 os true 0,.arr 3 es true 0,.arr 3 [.agg [.i ec,.n ea,.n eb]] true 0] .normal (e61 rw f ps n m q y5 y8 y11 (.i o) (.i w) (.n j) y19 y20 (.n i) (.n n) (.i (qA.wrap ((j:Int)+1)))) [.arr 11 [.agg ps] true 0,.b el0,.arr 3 os true 0,.arr 3 es true 0,.arr 3 [.agg [.i ec,.n ea,.n eb]] true 0] :=
 hx 0 60 [jT 15 0 [.arr 11 [.agg ps] true 0,.b gs,.arr 3 os true 0,.arr 3 es true 0,.arr 3 [.agg [.i ec,.n ea,.n eb]] true 0] g0,jO 17 2 [.arr 11 [.agg ps] true 0,.b gs,.arr 3 os true 0,.arr 3 es true 0,.arr 3 [.agg [.i ec,.n ea,.n eb]] true 0] g1,jO 17 3 [.arr 11 [.agg ps] true 0,.b gs,.arr 3 os true 0,.arr 3 es true 0,.arr 3 [.agg [.i ec,.n ea,.n eb]] true 0] g2,jT 17 5 [.arr 11 [.agg ps] true 0,.b gs,.arr 3 os true 0,.arr 3 es true 0,.arr 3 [.agg [.i ec,.n ea,.n eb]] true 0] g3,jO 18 3 [.arr 11 [.agg ps] true 0,.b gs,.arr 3 os true 0,.arr 3 es true 0,.arr 3 [.agg [.i ec,.n ea,.n eb]] true 0] g4,jS 18 4 g5]
theorem QfA (n:Nat) (gs:List HV) (m:Nat) (os:List HV) (q:Nat) (es:List HV) (i:Nat) (ec:Int) (ea eb:Nat) (o w:Int) (j:Nat) {x0:Int} (g0:(j:Int)<(n:Int)) (g1:IO 23 1 n j) (g2:LD [.arr 11 [.agg ps] true 0,.b gs,.arr 3 os true 0,.arr 3 es true 0,.arr 3 [.agg [.i ec,.n ea,.n eb]] true 0] 3 (.ptr 1 j 0 n) (.i x0)) (g3:¬(x0=o)) (y5 y8 y11 y14 y19 y20:HV:=Ud): RT polSp 61 (sn 1025660 B61) (e61 rw f ps n m q y5 y8 y11 (.i o) (.i w) y14 y19 y20 (.n i) (.n n) (.n j)) [.arr 11 [.agg ps] true 0,.b gs,.arr 3 os true 0,.arr 3 es true 0,.arr 3 [.agg [.i ec,.n ea,.n eb]] true 0] .normal (e61 rw f ps n m q y5 y8 y11 (.i o) (.i w) (.n j) y19 y20 (.n i) (.n n) (.i (qA.wrap ((j:Int)+1)))) [.arr 11 [.agg ps] true 0,.b gs,.arr 3 os true 0,.arr 3 es true 0,.arr 3 [.agg [.i ec,.n ea,.n eb]] true 0] :=
 hx 0 60 [jT 15 0 [.arr 11 [.agg ps] true 0,.b gs,.arr 3 os true 0,.arr 3 es true 0,.arr 3 [.agg [.i ec,.n ea,.n eb]] true 0] g0,jO 17 2 [.arr 11 [.agg ps] true 0,.b gs,.arr 3 os true 0,.arr 3 es true 0,.arr 3 [.agg [.i ec,.n ea,.n eb]] true 0] g1,jO 17 3 [.arr 11 [.agg ps] true 0,.b gs,.arr 3 os true 0,.arr 3 es true 0,.arr 3 [.agg [.i ec,.n ea,.n eb]] true 0] g2,jF 17 5 [.arr 11 [.agg ps] true 0,.b gs,.arr 3 os true 0,.arr 3 es true 0,.arr 3 [.agg [.i ec,.n ea,.n eb]] true 0] g3]
theorem QfB (n:Nat) (gs:List HV) (m:Nat) (os:List HV) (q:Nat) (es:List HV) (i:Nat) (ec:Int) (ea eb:Nat) (o w:Int) (j:Nat) (g0:¬((j:Int)<(n:Int))) (y5 y8 y11 y14 y19 y20:HV:=Ud): RT polSp 61 (sn 1025660 B61) (e61 rw f ps n m q y5 y8 y11 (.i o) (.i w) y14 y19 y20 (.n i) (.n n) (.n j)) [.arr 11 [.agg ps] true 0,.b gs,.arr 3 os true 0,.arr 3 es true 0,.arr 3 [.agg [.i ec,.n ea,.n eb]] true 0] (.exit 4) (e61 rw f ps n m q y5 y8 y11 (.i o) (.i w) y14 y19 y20 (.n i) (.n n) (.n j)) [.arr 11 [.agg ps] true 0,.b gs,.arr 3 os true 0,.arr 3 es true 0,.arr 3 [.agg [.i ec,.n ea,.n eb]] true 0] :=
 hx 0 60 [jF 15 0 [.arr 11 [.agg ps] true 0,.b gs,.arr 3 os true 0,.arr 3 es true 0,.arr 3 [.agg [.i ec,.n ea,.n eb]] true 0] g0]
theorem Qao (n:Nat) (gs:List HV) (m:Nat) (os:List HV) (q:Nat) (es:List HV) (i:Nat) (ec:Int) (ea eb:Nat) (y5 y8 y11 y12 y13 y14 y19 y20 y55 y56:HV:=Ud): RT polSp 61 (sn 4007 B61) (e61 rw f ps n m q y5 y8 y11 y12 y13 y14 y19 y20 (.n i) y55 y56) [.arr 11 [.agg ps] true 0,.b gs,.arr 3 os true 0,.arr 3 es true 0,.arr 3 [.agg [.i ec,.n ea,.n eb]] true 0] .normal (e61 rw f ps n m q y5 y8 y11 y12 y13 y14 y19 y20 (.i (qA.wrap ((i:Int)+1))) y55 y56) [.arr 11 [.agg ps] true 0,.b gs,.arr 3 os true 0,.arr 3 es true 0,.arr 3 [.agg [.i ec,.n ea,.n eb]] true 0] :=
 hx 0 60 []
theorem QfC (n:Nat) (gs:List HV) (m:Nat) (os:List HV) (q:Nat) (es:List HV) (y5 y7 y8 y11 y12 y13 y14 y19 y20 y31 y32 y33 y55 y56:HV:=Ud): RT polSp 61 (sn 63 B61) (WT (.a rw) (.n f) (.agg ps) y5 (.imm .lit 3 []) y7 y8 (.sl 2 0 m none m 3) y11 y12 y13 y14 y19 y20 y31 y32 y33 y55 y56) [.arr 11 [.agg ps] true 0,.b gs,.arr 3 os true 0,.arr 3 es true 0] .ret (WT (.a rw) (.n f) (.agg ps) y5 (.sl 2 0 m none m 3) y7 y8 (.sl 2 0 m none m 3) y11 y12 y13 y14 y19 y20 y31 y32 y33 y55 y56) [.arr 11 [.agg ps] true 0,.b gs,.arr 3 os true 0,.arr 3 es true 0] :=
 hx 0 60 []
end
end Go.Proofs.Ytlendaofkmhgmaa
end
section
open Go Go.HL Go.HL.So
namespace Go.Proofs.Ytlendaofkmhgmaa
set_option linter.unusedSectionVars false
open Go.Proofs.Try renaming prog → Tp
open Go.HL.HV renaming undef → Ud
theorem Qoi:Try.f61.results.toList=[.tmp 6]:=by kernel_rfl
theorem ixg {n b k:Nat} {cap:Option Nat} (hk:k<n):WW Tp 23 (.sl b 0 n cap n 1) (.int .i64 (k:Int))=some (.ptr b k 0 n):=by
 have:=VY (P:=Tp) (t:=23) (b:=b) (len:=n) (tot:=n) (cap:=cap) (ik:=.i64) (n:=(k:Int)) u23 z3 (by omega) (by omega)
 rwa [qF] at this
theorem ixe {n b k:Nat} {cap:Option Nat} (hk:k<n):WW Tp 88 (.sl b 0 n cap n 3) (.int .i64 (k:Int))=some (.ptr b k 0 n):=ixs (db:=b) (n:=n) (cap:=cap) rfl hk
theorem ldg {H:Heap} {b k n:Nat} {g:List Int} (hb:H[b]?=some (bI g)) (hn:g.length=n) (hk:k<n):Qh Tp H 3 (.ptr b k 0 n)=some (.int .i64 (g.getD k 0)):=by
 subst hn;exact Xt hb hk
theorem stg {H:Heap} {b k n:Nat} {g:List Int} (hb:H[b]?=some (bI g)) (hn:g.length=n) (hk:k<n) (v:Int):QM Tp H 3 (.ptr b k 0 n) (.int .i64 v)=some (H.set b (bI (g.set k v))):=by
 subst hn;exact J4 hb hk v
theorem lde {H:Heap} {b k n:Nat} {l:List Ed} (hb:H[b]?=some (bE Qs l)) (hn:l.length=n) (hk:k<n):Qh Tp H 91 (.ptr b k 0 n)=some (Qs (at_ l k)) :=
 Xq (b:=b) hb (by simpa using hn.symm) (by rw [qG,qH (by omega)];simp [at_,qD,qH (show k<l.length by omega),Qs]) a91 s91
section
variable {d:List (List Int)} {ps:List Int} {f:Nat}
abbrev spH (ps g:List Int) (os es:List Ed):Heap:=[pB ps,bI g,bE Qs os,bE Qs es]
abbrev spX (ps g:List Int) (os es:List Ed) (e:Ed):Heap:=[pB ps,bI g,bE Qs os,bE Qs es,.arr 3 [Qs e] true 0]
abbrev mkQ (c:Int) (a b:Nat):Ed:=(c,(a:Int),(b:Int))
theorem Qoj (hd:okD d) {i ea eb:Nat} {ec o w:Int} {os es:List Ed}:∀k j (g:List Int),g.length=d.length→j+k=d.length →
  ∃y14,RT polSp 61 (sn 512830 B61) (WT (.a (d.map Qb)) (.i (f:Int)) (.agg (ps.map hvI)) Ud (.imm .lit 3 []) (.o 1 d.length) Ud (.sl 2 0 os.length none os.length 3) Ud (.i o) (.i w) Ud Ud Ud (.sl 3 0 es.length none es.length 3) (.i (es.length:Int)) (.i (i:Int)) (.i (d.length:Int)) (.i (j:Int))) (spX ps g os es (mkQ ec ea eb)) (.exit 4)
   (WT (.a (d.map Qb)) (.i (f:Int)) (.agg (ps.map hvI)) Ud (.imm .lit 3 []) (.o 1 d.length) Ud (.sl 2 0 os.length none os.length 3) Ud (.i o) (.i w) y14 Ud Ud (.sl 3 0 es.length none es.length 3) (.i (es.length:Int)) (.i (i:Int)) (.i (d.length:Int)) (.i (d.length:Int))) (spX ps (rlb o w k j g) os es (mkQ ec ea eb)):=by
 have hn:=hd.1
 intro k
 induction k with
 | zero =>
  intro j g hg hj
  have:j=d.length:=by omega
  subst this
  exact ⟨_,lpo (QfB (d.map Qb) (ps.map hvI) f d.length (g.map hvI) os.length (os.map Qs) es.length (es.map Qs) i ec ea eb o w d.length (by omega))⟩
 | succ k ih =>
  intro j g hg hj
  by_cases c:g.getD j 0=o
  ·have s:=Qfz (d.map Qb) (ps.map hvI) f d.length (g.map hvI) os.length (os.map Qs) es.length (es.map Qs) i ec ea eb o w j (by omega) (ixg (by omega)) (ldg (H:=spX ps g os es (mkQ ec ea eb)) (g:=g) rfl hg (by omega)) c (ixg (by omega)) (stg (H:=spX ps g os es (mkQ ec ea eb)) (b:=1) (k:=j) rfl hg (by omega) w)
   rw [Qc (by omega)] at s
   obtain ⟨y14,r⟩:=ih (j+1) (g.set j w) (by simpa using hg) (by omega)
   rw [rlb,if_pos c]
   exact ⟨y14,lop (s) (WN _ rfl) (r)⟩
  ·have s:=QfA (d.map Qb) (ps.map hvI) f d.length (g.map hvI) os.length (os.map Qs) es.length (es.map Qs) i ec ea eb o w j (by omega) (ixg (by omega)) (ldg (H:=spX ps g os es (mkQ ec ea eb)) (g:=g) rfl hg (by omega)) c
   rw [Qc (by omega)] at s
   obtain ⟨y14,r⟩:=ih (j+1) g hg (by omega)
   rw [rlb,if_neg c]
   exact ⟨y14,lop (s) (WN _ rfl) (r)⟩
theorem gcX {ps g g2:List Int} {os os2 es:List Ed} {e:Ed} {r:Nat} (hr:r≤4):gc (spH ps g os es).length r (spX ps g2 os2 es e)=spH ps g2 os2 es:=by
 unfold gc
 have:max (spH ps g os es).length (max r (mxs (spX ps g2 os2 es e)))=4:=by
  have h1:mxs (spX ps g2 os2 es e)=0:=by simp [mxs,Blk.mx,bE]
  rw [h1];show max 4 (max r 0)=4;omega
 rw [this];rfl
theorem Qll {H:Heap} {b:Nat} {o:List Ed} (hb:H[b]?=some (bE Qs o)) (hl:o.length≤1000) (e:Ed) :
  WV H 3 24 (.sl b 0 o.length none o.length 3) [Qs e]=some (.sl b 0 (o.length+1) none (o.length+1) 3,H.set b (.arr 3 (o.map Qs++[Qs e]) true 0)):=by
 have:=DX (H:=H) (k:=3) (bytes:=24) (b:=b) (n:=o.length) (mx:=0) (els:=o.map Qs) (xs:=[Qs e]) hb (by simp) (by simp) (by simp only [Q0,jJ];omega) (UD [e])
 rw [this];rfl
abbrev spO (d:List (List Int)) (ps:List Int) (f m q:Nat) (v33:HV):Env:=(WT (.a (d.map Qb)) (.i (f:Int)) (.agg (ps.map hvI)) Ud (.imm .lit 3 []) (.o 1 d.length) Ud (.sl 2 0 m none m 3) Ud Ud Ud Ud Ud Ud (.sl 3 0 q none q 3) (.i (q:Int)) v33 Ud Ud)
theorem hgc {g2:List Int} {es:List Ed} {e:Ed} (g:List Int) (os os2:List Ed) (m i:Nat):gc (spH ps g os es).length (Zm (spO d ps f m es.length (.int .i64 (i:Int)))) (spX ps g2 os2 es e)=spH ps g2 os2 es:=gcX (by simp [Zm,bnd,bndL,Xs])
theorem Qlm (hd:okD d) {es:List Ed} (he:EIn d.length es) (hq:es.length≤500):∀k i (os:List Ed) (g:List Int),i+k=es.length→g.length=d.length→os.length+k≤500 →
  ∃g' E,RT polSp 61 (sn 250 B61) (spO d ps f os.length es.length (.int .i64 (i:Int))) (spH ps g os es) (.exit 2) E (spH ps g' (os++krP (es.drop i) g) es) ∧
   ∃y5 y8 y11 y12 y13 y14 y19 y20 y33 y55 y56,E=(WT (.a (d.map Qb)) (.i (f:Int)) (.agg (ps.map hvI)) y5 (.imm .lit 3 []) (.o 1 d.length) y8 (.sl 2 0 (os++krP (es.drop i) g).length none (os++krP (es.drop i) g).length 3) y11 y12 y13 y14 y19 y20 (.sl 3 0 es.length none es.length 3) (.i (es.length:Int)) y33 y55 y56):=by
 have hn:=hd.1
 intro k
 induction k with
 | zero =>
  intro i os g hi hg ho
  have:i=es.length:=by omega
  subst this
  rw [List.drop_length,krP,jP]
  have s:=Qfs (d.map Qb) (ps.map hvI) f d.length (g.map hvI) os.length (os.map Qs) es.length (es.map Qs) es.length (by omega)
  have s2:=Qdg (d.map Qb) (ps.map hvI) f d.length (g.map hvI) os.length (os.map Qs) es.length (es.map Qs) es.length
  exact ⟨g,_,lpo (sq (s) (sqo (s2) (c:=sn 1001 B61) (b:=sn 2003 B61)) (c:=sn 500 B61)),_,_,_,_,_,_,_,_,_,_,_,rfl⟩
 | succ k ih =>
  intro i os g hi hg ho
  have hdrop:es.drop i=at_ es i::es.drop (i+1):=by
   rw [List.drop_eq_getElem_cons (by omega)]
   simp [at_,qD,qH (show i<es.length by omega)]
  have hmem:at_ es i∈es:=by
   have:at_ es i=es[i]:=by simp [at_,qD,qH (show i<es.length by omega)]
   rw [this];exact jI _
  obtain ⟨ec,ea,eb,hae,ha,hb⟩:∃(ec:Int) (ea eb:Nat),at_ es i=mkQ ec ea eb∧ea<d.length∧eb<d.length:=by
   obtain ⟨⟨h1,h2⟩,h3,h4⟩:=he _ hmem
   refine ⟨(at_ es i).1,(at_ es i).2.1.toNat,(at_ es i).2.2.toNat,?_,h2,h4⟩
   show at_ es i=((at_ es i).1,_,_)
   rw [Int.toNat_of_nonneg h1,Int.toNat_of_nonneg h3]
  rw [hdrop,hae,krP]
  simp only [qF]
  have s:=Qfr (d.map Qb) (ps.map hvI) f d.length (g.map hvI) os.length (os.map Qs) es.length (es.map Qs) i (by omega)
  have s2:=Qdf (d.map Qb) (ps.map hvI) f d.length (g.map hvI) os.length (os.map Qs) es.length (es.map Qs) i
  have hl:=lde (H:=spH ps g os es) (b:=3) (k:=i) (l:=es) rfl rfl (by omega)
  rw [hae] at hl
  have s3:=Qft (d.map Qb) (ps.map hvI) f d.length (g.map hvI) os.length (os.map Qs) es.length (es.map Qs) i ec ea eb (ixe (by omega)) hl
  have s4:=Qfu (d.map Qb) (ps.map hvI) f d.length (g.map hvI) os.length (os.map Qs) es.length (es.map Qs) i ec ea eb (ixg ha) (ldg (H:=spX ps g os es (mkQ ec ea eb)) (g:=g) rfl hg ha) (ixg hb) (ldg (H:=spX ps g os es (mkQ ec ea eb)) (g:=g) rfl hg hb)
  by_cases c:g.getD ea 0=g.getD eb 0
  ·rw [if_pos c]
   have s5:=Qfv (d.map Qb) (ps.map hvI) f d.length (g.map hvI) os.length (os.map Qs) es.length (es.map Qs) i ec ea eb (g.getD ea 0) (g.getD eb 0) c
   have s6:=Qao (d.map Qb) (ps.map hvI) f d.length (g.map hvI) os.length (os.map Qs) es.length (es.map Qs) i ec ea eb (y11:=.q 4) (y12:=.i (g.getD ea 0)) (y13:=.i (g.getD eb 0))
   rw [Qc (by omega)] at s6
   have st:=sq (s) (sq (s2) (sq (bke (c:=sn 4006 B61) (sq (s3) (sq (s4) (sqo (s5) (c:=sn 32051 B61) (b:=sn 64103 B61)) (c:=sn 16025 B61)) (c:=sn 8012 B61))) (s6) (c:=sn 2003 B61)) (c:=sn 1001 B61)) (c:=sn 500 B61)
   obtain ⟨g',E,r,q⟩:=ih (i+1) os g (by omega) hg (by omega)
   exact ⟨g',E,lop (st) (hgc (ps:=ps) (d:=d) (f:=f) (es:=es) (g2:=g) (e:=mkQ ec ea eb) g os os os.length (i+1)) (r),q⟩
  ·rw [if_neg c]
   have s5:=Qfw (d.map Qb) (ps.map hvI) f d.length (g.map hvI) os.length (os.map Qs) es.length (es.map Qs) i ec ea eb (g.getD ea 0) (g.getD eb 0) c
   have s7:=Qfx (d.map Qb) (ps.map hvI) f d.length (g.map hvI) os.length (os.map Qs) es.length (es.map Qs) i ec ea eb (g.getD ea 0) (g.getD eb 0) (Qll (H:=spX ps g os es (mkQ ec ea eb)) (b:=2) (o:=os) rfl (by omega) (mkQ ec ea eb))
   have hs:os.map Qs++[HV.agg [.int .i64 ec,.int .i64 (ea:Int),.int .i64 (eb:Int)]]=(os++[mkQ ec ea eb]).map Qs:=by simp [Qs]
   rw [hs] at s7
   have s8:=Qfy (d.map Qb) (ps.map hvI) f d.length (g.map hvI) (os.length+1) ((os++[mkQ ec ea eb]).map Qs) es.length (es.map Qs) i ec ea eb (y12:=.i (g.getD ea 0)) (y13:=.i (g.getD eb 0))
   obtain ⟨y14,r0⟩:=Qoj (ps:=ps) (f:=f) hd (i:=i) (ea:=ea) (eb:=eb) (ec:=ec) (o:=g.getD ea 0) (w:=g.getD eb 0) (os:=os++[mkQ ec ea eb]) (es:=es) d.length 0 g hg (by omega)
   rw [show (os++[mkQ ec ea eb]).length=os.length+1 by simp,← hg] at r0
   have r0':=lpi (e0:=(WT (.a (d.map Qb)) (.i (f:Int)) (.agg (ps.map hvI)) Ud (.imm .lit 3 []) (.o 1 g.length) Ud (.sl 2 0 (os.length+1) none (os.length+1) 3) (.q 4) (.i (g.getD ea 0)) (.i (g.getD eb 0)) Ud Ud Ud (.sl 3 0 es.length none es.length 3) (.i (es.length:Int)) (.i (i:Int)) (.i (g.length:Int)) (.i 0))) r0 (b:=sn 1025660 B61)
   rw [hg] at r0'
   have hg2:(rlb (g.getD ea 0) (g.getD eb 0) d.length 0 g).length=d.length:=by rw [Ku,hg]
   have s6:=Qao (d.map Qb) (ps.map hvI) f d.length ((rlb (g.getD ea 0) (g.getD eb 0) d.length 0 g).map hvI) (os.length+1) ((os++[mkQ ec ea eb]).map Qs) es.length (es.map Qs) i ec ea eb (y14:=y14) (y12:=.i (g.getD ea 0)) (y13:=.i (g.getD eb 0)) (y55:=.i (d.length:Int)) (y56:=.i (d.length:Int))
   rw [Qc (by omega)] at s6
   have st:=sq (s) (sq (s2) (sq (RunsTo.block_normal (i:=3) (c:=sn 4006 B61) (sq (s3) (sq (s4) (sq (s5) (sq (s7) (sq (s8) (bke (c:=sn 256415 B61) (r0')) (c:=sn 128207 B61)) (c:=sn 64103 B61)) (c:=sn 32051 B61)) (c:=sn 16025 B61)) (c:=sn 8012 B61)) (by kernel_rfl)) (s6) (c:=sn 2003 B61)) (c:=sn 1001 B61)) (c:=sn 500 B61)
   obtain ⟨g',E,r,q⟩:=ih (i+1) (os++[mkQ ec ea eb]) _ (by omega) hg2 (by simp;omega)
   rw [qW] at r q
   rw [hg]
   rw [show (os++[mkQ ec ea eb]).length=os.length+1 by simp] at r
   exact ⟨g',E,lop (st) (hgc (ps:=ps) (d:=d) (f:=f) (es:=es) (g2:=rlb (g.getD ea 0) (g.getD eb 0) d.length 0 g) (e:=mkQ ec ea eb) g os (os++[mkQ ec ea eb]) (os.length+1) (i+1)) (r),q⟩
theorem Qdh (hd:okD d):∀k i (g:List Int),i+k=d.length→g.length=d.length→(∀x,x<i→g.getD x 0=(x:Int)) →
  ∃y8,RT polSp 61 (sn 58 B61) (WT (.a (d.map Qb)) (.i (f:Int)) (.agg (ps.map hvI)) (.q 0) (.imm .lit 3 []) (.o 1 d.length) Ud Ud Ud Ud Ud Ud (.i (d.length:Int)) (.i (i:Int)) Ud Ud Ud Ud Ud) [pB ps,bI g] (.exit 0)
   (WT (.a (d.map Qb)) (.i (f:Int)) (.agg (ps.map hvI)) (.q 0) (.imm .lit 3 []) (.o 1 d.length) y8 Ud Ud Ud Ud Ud (.i (d.length:Int)) (.i (d.length:Int)) Ud Ud Ud Ud Ud) [pB ps,bI (iota d.length)]:=by
 have hn:=hd.1
 intro k
 induction k with
 | zero =>
  intro i g hi hg hx
  have:i=d.length:=by omega
  subst this
  have e:g=iota d.length:=by
   apply jA
   intro x
   by_cases hxl:x<d.length
   ·have h1:=hx x hxl
    have h2:=Z6 hxl
    rw [qH (by omega),qH (by rw [Ja];exact hxl)]
    simp only [qD,qH (show x<g.length by omega),Option.getD_some] at h1
    simp only [qD,qH (show x<(iota d.length).length by rw [Ja];exact hxl),Option.getD_some] at h2
    rw [h1,h2]
   ·rw [qM (by omega),qM (by rw [Ja];omega)]
  rw [e]
  exact ⟨_,lpo (Qfo (d.map Qb) (ps.map hvI) f d.length ((iota d.length).map hvI) d.length (by omega))⟩
 | succ k ih =>
  intro i g hi hg hx
  have s:=Qfn (d.map Qb) (ps.map hvI) f d.length (g.map hvI) i (by omega) (ixg (by omega)) (stg (H:=[pB ps,bI g]) (b:=1) (k:=i) rfl hg (by omega) (i:Int))
  rw [Qc (by omega)] at s
  obtain ⟨y8,r⟩:=ih (i+1) (g.set i (i:Int)) (by omega) (by simpa using hg) (fun x hx2=>by
   rw [UE _ _ _ _ (by omega)]
   split
   ·rename_i e;rw [e]
   ·exact hx x (by omega))
  exact ⟨y8,lop (s) (WN _ rfl) (r)⟩
end
theorem QfD {H:Heap} {b:Nat} {l:List Ed} (hb:H[b]?=some (bE Qs l)):We H false (.sl b 0 l.length none l.length 3)=some (.own 3 (l.map Qs)):=by
 have hr:=ZX (H:=H) (no:=[b]) (b:=b) (k:=3) (m:=l.length) (cap:=none) (els:=l.map Qs) hb (by simp) (WB (fun e=>QgX (n:=3) e) _)
 have ho:Qu H false (.sl b 0 l.length none l.length 3)=[b]:=by simp [Qu,cellsOf,WQ,hb,bE]
 simp only [We,ho,qR,jQ,not_false_eq_true,qY,and_self,if_true,WO,hr]
theorem Qdi (l:List Ed):(l.map Qs).any Jd=false:=by
 rw [List.any_eq_false]
 intro v hv
 obtain ⟨k,_,rfl⟩:=List.mem_map.1 hv
 simp [Qs,Jd]
theorem Qdj (l:List Ed) (H:Heap):ZT (.own 3 (l.map Qs)) H=(.sl H.length 0 l.length none l.length 3,H++[bE Qs l]):=by
 simp only [ZT,Zr,WK,Qdi,qB]
 rfl
theorem Qap (H:Heap) (ps:List Int):Qx H 6 (.agg (ps.map hvI))=some (.agg (ps.map hvI)):=by
 show (match mapO (Qx H 5) (ps.map hvI) with | some l=>some (HV.agg l) | none=>none)=_
 have hm:mapO (Qx H 5) (ps.map hvI)=some (ps.map hvI):=WB (f:=Qx H 5) (g:=hvI) (fun _=>rfl) ps
 rw [hm]
theorem q70 {pol':Pol} (hp:pol'.prim 70=some XG) {d:List (List Int)} {ps:List Int} {f:Nat} {v:HV} (hd:okD d) (hf:f≤d.length) (hs:Small ps) (H:Heap) (hv:Qx H 6 v=some (.imm .arg 1 (d.map Qb))) :
  ∀kf,Qa Tp pol' (kf+1) 70 [v,.int .i64 (f:Int),.agg (ps.map hvI)] H=some (.sl H.length 0 (edg d ps f).length none (edg d ps f).length 3,H++[bE Qs (edg d ps f)]):=fun kf=>by
 rw [Qt (pol:=pol') (g:=70) (F:=XG) hp (rs:=[.imm .arg 1 (d.map Qb),.int .i64 (f:Int),.agg (ps.map hvI)]) (by simp only [mapO,hv,Qap];rfl) (res:=.own 3 ((edg d ps f).map Qs)) (by simp only [XG,mpF,QH Wv,QH WL];rw [if_pos ⟨hd,by omega,hs⟩,qF]),Qdj]
theorem Qln {H:Heap} {ps:List Int} {b:Nat} (hb:H[b]?=some (pB ps)) (hp:ps.length=11):Qh Tp H 66 (.ptr b 0 0 1)=some (.agg (ps.map hvI)) :=
 Xq (b:=b) hb rfl rfl (by kernel_rfl) (by rw [show Qm Tp 66=some 11 by kernel_rfl];simp [hp])
theorem Cs:QN Tp 61 JA:=by
 refine Qp (pol:=polSp) (fn:=Try.f61) (cd:=B61) Qi Qfj (by kernel_rfl) (by kernel_rfl) (Jj polSp.prim _ _ (by kernel_rfl)) (by kernel_rfl) ?_
 intro args res h
 obtain ⟨d,a0,ps,rfl,hq⟩:=Qam h
 clear h
 split at hq
 ·rename_i hc
  obtain ⟨hd,ha,hp⟩:=hc
  cases hq
  have hn:=hd.1
  obtain ⟨f,rfl⟩:∃x:Nat,a0=(x:Int):=⟨a0.toNat,by omega⟩
  rw [qF]
  have s0:=Qfk (d.map Qb) (ps.map hvI) f (QgV hp.1)
  have mk:=G5 (P:=Tp) (H:=[pB ps]) (t:=23) (e:=3) (k:=1) (bt:=8) (zv:=.int .i64 0) (n:=(d.length:Int)) u23 (by kernel_rfl) (by simp [cellsOf,Ql]) (by simp [cellsOf]) (by omega) (by omega) (by simp only [Q0];omega)
  rw [qF] at mk
  have hrep:qE d.length (HV.int .i64 0)=(qE d.length (0:Int)).map hvI:=by simp [hvI]
  rw [hrep] at mk
  have s1:=Qfl (d.map Qb) (ps.map hvI) f (by rw [qB,hrep];exact mk)
  rw [qB,hrep] at s1
  have s2:=Qfm (d.map Qb) (ps.map hvI) f d.length ((qE d.length (0:Int)).map hvI)
  obtain ⟨y8,r1⟩:=Qdh (ps:=ps) (f:=f) hd d.length 0 (qE d.length 0) (by omega) (by simp) (fun x hx=>by omega)
  have s3:=Qfp (d.map Qb) (ps.map hvI) f d.length ((iota d.length).map hvI) (y8:=y8) (y19:=.i (d.length:Int)) (y20:=.i (d.length:Int))
  have s4:=Qfq (d.map Qb) (ps.map hvI) f d.length ((iota d.length).map hvI) 0 [] (y8:=y8) (y19:=.i (d.length:Int)) (y20:=.i (d.length:Int)) (Qln (b:=0) rfl hp.1) (q70 (pol':=polSp) (by kernel_rfl) hd (by omega) hp _ (JN _ d))
  have hel:=Qan (ps:=ps) (f:=f) hd (by omega)
  obtain ⟨g',E,r2,y5,y8',y11,y12,y13,y14,y19,y20,y33,y55,y56,rfl⟩:=Qlm (ps:=ps) (f:=f) hd (SC (ps:=ps) (f:=f) (by omega)) (by omega) (edg d ps f).length 0 [] (iota d.length) (by omega) (Ja _) (by simp;omega)
  rw [jU,qQ] at r2
  have et:krP (edg d ps f) (iota d.length)=WD d ps f:=rfl
  rw [et] at r2
  have r2':=lpi (e0:=(WT (.a (d.map Qb)) (.i (f:Int)) (.agg (ps.map hvI)) (.q 0) (.imm .lit 3 []) (.o 1 d.length) y8 (.sl 2 0 0 none 0 3) Ud Ud Ud Ud (.i (d.length:Int)) (.i (d.length:Int)) (.sl 3 0 (edg d ps f).length none (edg d ps f).length 3) (.i ((edg d ps f).length:Int)) (.i 0) Ud Ud)) r2 (b:=sn 500 B61)
  have z:=QfC (d.map Qb) (ps.map hvI) f d.length (g'.map hvI) (WD d ps f).length ((WD d ps f).map Qs) (edg d ps f).length ((edg d ps f).map Qs) (y7:=.o 1 d.length) (y8:=y8') (y11:=y11) (y12:=y12) (y13:=y13) (y14:=y14) (y19:=y19) (y20:=y20) (y31:=.sl 3 0 (edg d ps f).length none (edg d ps f).length 3) (y32:=.i ((edg d ps f).length:Int)) (y33:=y33) (y55:=y55) (y56:=y56) (y5:=y5)
  have t:=sq (s0) (sq (s1) (sq (sq (s2) (bke (c:=sn 29 B61) (r1)) (c:=sn 14 B61)) (sq (s3) (sq (sq (s4) (bke (c:=sn 125 B61) (r2')) (c:=sn 62 B61)) (z) (c:=sn 31 B61)) (c:=sn 15 B61)) (c:=sn 7 B61)) (c:=sn 3 B61)) (c:=B61)
  exact ⟨_,_,_,.sl 2 0 (WD d ps f).length none (WD d ps f).length 3,t,by simp,by simp only [Qf,Qoi];rfl,QfD rfl⟩
 ·cases hq
end Go.Proofs.Ytlendaofkmhgmaa
end
section
open Go Go.HL
namespace Go.Proofs.Ytlendaofkmhgmaa
set_option linter.unusedSectionVars false
open Go.Proofs.Try renaming prog → Tp
open Go.HL.HV renaming undef → Ud
section
variable {d:List (List Int)}
theorem TI.put {T:List Int} {U a:Nat} (hU:U<2 ^ d.length) (ha:a<d.length) (h:TI d T U a):TI d (T.set (U*d.length+a) (rsT d a (2 ^ d.length-1-U))) U (a+1):=by
 have hix:=QnC hU ha
 refine ⟨by rw [List.length_set];exact h.1,fun V hV hV2 b hb=>?_,fun b hb=>?_⟩
 ·rw [UE _ _ _ _ (by rw [h.1];exact hix),if_neg (fun e=>by have:=(QhX ha hb e).1;omega)]
  exact h.2.1 V hV hV2 b hb
 ·rw [UE _ _ _ _ (by rw [h.1];exact hix)]
  by_cases e:a=b
  ·subst e;rw [if_pos rfl]
  ·rw [if_neg (by omega)]
   exact h.2.2 b (by omega)
end
section
variable {d:List (List Int)}
def OI (T o:List Int) (tv:HV) (H:Heap):Prop:=(tv=.sl 1 0 1 (some 1) 1 1∧o=[0]∧H=[bI T,bI [0]])∨(tv=.sl 2 0 o.length none o.length 1∧H=[bI T,bI [0],bI o])
theorem QfE {H:Heap} (hl:H.length=2) (hb:H[1]?=some (bI [0])) (x:Int):WV H 1 8 (.sl 1 0 1 (some 1) 1 1) [.int .i64 x]=some (.sl 2 0 2 none 2 1,H++[bI ([0]++[x])]):=by
 simp only [WV,hb,hl]
 simp [Q0,bnd,bndL,hvI]
theorem OI.app {T o:List Int} {tv:HV} {H:Heap} (h:OI T o tv H) (ho:o.length≤500) (x:Int):WV H 1 8 tv [.int .i64 x]=some (.sl 2 0 (o.length+1) none (o.length+1) 1,[bI T,bI [0],bI (o++[x])]):=by
 rcases h with ⟨h1,h2,h3⟩ | ⟨h1,h3⟩
 ·subst h1;subst h2;subst h3
  exact QfE rfl rfl x
 ·subst h1;subst h3
  have ap:=Z9 (H:=[bI T,bI [0],bI o]) (b:=2) (o:=o) (xs:=[x]) rfl (by simp;omega) (by simp)
  rw [show (o++[x]).length=o.length+1 by simp] at ap
  exact ap
theorem OI.len {T o:List Int} {tv:HV} {H:Heap} (h:OI T o tv H):QaO Tp H 23 tv=some (.int .i64 (o.length:Int)):=by
 rcases h with ⟨h1,h2,h3⟩ | ⟨h1,h3⟩
 ·subst h1;subst h2;kernel_rfl
 ·subst h1;kernel_rfl
theorem OI.get {T o:List Int} {tv:HV} {H:Heap} (h:OI T o tv H):H[0]?=some (bI T):=by
 rcases h with ⟨_,_,h3⟩ | ⟨_,h3⟩ <;> rw [h3] <;> rfl
end
end Go.Proofs.Ytlendaofkmhgmaa
end
section
open Go Go.HL Go.HL.So
namespace Go.Proofs.Ytlendaofkmhgmaa
set_option linter.unusedSectionVars false
open Go.Proofs.Try renaming prog → Tp
open Go.HL.HV renaming undef → Ud
def Ct:Nat→List Ed→List Ed
 | _,[]=>[]
 | w,e::l=>if e.2.1=0∧w<2 then e::Ct (w+1) l else Ct w l
def Kw (d:List (List Int)) (ps:List Int):List Ed:=WD d ps 1++Ct 0 (edg d ps 0)
def Dq (t:List Int) (e:Ed):List Int:=(t.set e.2.1.toNat (t.getD e.2.1.toNat 0+1)).set e.2.2.toNat ((t.set e.2.1.toNat (t.getD e.2.1.toNat 0+1)).getD e.2.2.toNat 0+1)
def Qbn (l:List Ed):List Int:=l.foldl Dq (qE 11 0)
def XH (l:List Ed) (s:Int):Int:=l.foldl (fun s e=>s+e.1) s
theorem UF {e:Ed}:∀(l:List Ed) (w:Nat),e∈Ct w l→e∈l
 | [],_,h=>by cases h
 | x::l,w,h=>by
  rw [Ct] at h
  split at h
  ·rcases List.mem_cons.1 h with rfl | h
   ·simp
   ·exact qT _ (UF l _ h)
  ·exact qT _ (UF l _ h)
theorem UG:∀(l:List Ed) (w:Nat),(Ct w l).length+w≤max w 2
 | [],w=>by simp [Ct];omega
 | e::l,w=>by
  rw [Ct]
  split
  ·have:=UG l (w+1);rw [qN];omega
  ·exact UG l w
theorem Qbo {d:List (List Int)} {ps:List Int} (hd:okD d):EIn d.length (Kw d ps):=fun e he=>by
 have hn:=hd.1
 rcases List.mem_append.1 he with h | h
 ·exact SC (f:=1) (by omega) e (Gj _ _ h)
 ·exact SC (f:=0) (by omega) e (UF _ _ h)
def CtB (t:List Int) (k:Nat):Prop:=t.length=11∧∀x,x<11→0≤t.getD x 0∧t.getD x 0≤2*(k:Int)
theorem CtB.step {t:List Int} {k:Nat} (h:CtB t k) {e:Ed} (ha:e.2.1.toNat<11) (hb:e.2.2.toNat<11):CtB (Dq t e) (k+1):=by
 obtain ⟨h1,h2⟩:=h
 refine ⟨by simp [Dq,h1],fun x hx=>?_⟩
 unfold Dq
 rw [UE _ _ _ _ (by simp [h1,hb]),UE _ _ _ _ (by rw [h1];exact ha),UE _ _ _ _ (by rw [h1];exact ha)]
 have q1:=h2 x hx
 have q2:=h2 _ ha
 have q3:=h2 _ hb
 split
 ·split <;> omega
 ·split <;> omega
theorem CtB.zero:CtB (qE 11 0) 0:=⟨rfl,fun x hx=>by
 have:(qE 11 (0:Int)).getD x 0=0:=by rw [qD,jV,if_pos hx];rfl
 rw [this];omega⟩
theorem q61 {pol':Pol} (hp:pol'.prim 61=some JA) {d:List (List Int)} {ps:List Int} {f:Nat} {v:HV} (hd:okD d) (hf:f≤d.length) (hs:Small ps) (H:Heap) (hv:Qx H 6 v=some (.imm .arg 1 (d.map Qb))) :
  ∀kf,Qa Tp pol' (kf+1) 61 [v,.int .i64 (f:Int),.agg (ps.map hvI)] H=some (.sl H.length 0 (WD d ps f).length none (WD d ps f).length 3,H++[bE Qs (WD d ps f)]):=fun kf=>by
 rw [Qt (pol:=pol') (g:=61) (F:=JA) hp (rs:=[.imm .arg 1 (d.map Qb),.int .i64 (f:Int),.agg (ps.map hvI)]) (by simp only [mapO,hv,Qap];rfl) (res:=.own 3 ((WD d ps f).map Qs)) (by simp only [JA,mpF,QH Wv,QH WL];rw [if_pos ⟨hd,by omega,hs⟩,qF]),Qdj]
def prOk (l:List Int):Prop:=∀v∈l,-10000≤v∧v≤10000
abbrev bF (l:List Ed):Blk:=.arr 3 (l.map QoY) true 0
abbrev hF (Ls:List (List Ed)):Heap:=Ls.map bF
section
variable {d:List (List Int)} {l:List Int} {f:Nat}
theorem Qaq {α:Type} (l:List α) (x:α):(l++[x])[l.length]?=some x:=by simp
theorem prOk.at (h:prOk l) {i:Nat} (hi:i<l.length):-10000≤l.getD i 0∧l.getD i 0≤10000:=by
 have e:l.getD i 0=l[i]:=by simp [qD,qH hi]
 rw [e];exact h _ (jI _)
end
end Go.Proofs.Ytlendaofkmhgmaa
end
section
open Go Go.HL
namespace Go.Proofs.Ytlendaofkmhgmaa
set_option linter.unusedSectionVars false
open Go.Proofs.Try renaming prog → Tp
open Go.HL.HV renaming undef → Ud
def OG (P:Heap) (o:List Int) (tv:HV) (H:Heap):Prop:=(tv=.sl P.length 0 1 (some 1) 1 1∧o=[0]∧H=P++[bI [0]])∨(tv=.sl (P.length+1) 0 o.length none o.length 1∧H=P++[bI [0],bI o])
theorem Qdk {H P:Heap} (hH:H=P++[bI [0]]) (x:Int):WV H 1 8 (.sl P.length 0 1 (some 1) 1 1) [.int .i64 x]=some (.sl (P.length+1) 0 2 none 2 1,H++[bI ([0]++[x])]):=by
 have hb:H[P.length]?=some (bI [0]):=by rw [hH];exact Qaq _ _
 have hl:H.length=P.length+1:=by rw [hH];simp
 simp only [WV,hb,hl]
 simp [Q0,bnd,bndL,hvI]
theorem OG.get {P:Heap} {o:List Int} {tv:HV} {H:Heap} (h:OG P o tv H):∃b cap,tv=.sl b 0 o.length cap o.length 1∧H[b]?=some (bI o)∧bnd tv≤H.length:=by
 rcases h with ⟨h1,h2,h3⟩ | ⟨h1,h3⟩
 ·exact ⟨P.length,some 1,by rw [h1,h2];rfl,by rw [h3,h2];exact Qaq _ _,by rw [h1,h3];simp [bnd]⟩
 ·refine ⟨P.length+1,none,h1,?_,by rw [h1,h3];simp [bnd]⟩
  rw [h3,qO (by omega)]
  simp
theorem OG.len {P:Heap} {o:List Int} {tv:HV} {H:Heap} (h:OG P o tv H):QaO Tp H 23 tv=some (.int .i64 (o.length:Int)):=by
 obtain ⟨b,cap,h1,_,_⟩:=h.get
 rw [h1]
 kernel_rfl
theorem OG.app {P:Heap} {o:List Int} {tv:HV} {H:Heap} (h:OG P o tv H) (hl:o.length≤500) (x:Int):∃H',WV H 1 8 tv [.int .i64 x]=some (.sl (P.length+1) 0 (o.length+1) none (o.length+1) 1,H')∧H'=P++[bI [0],bI (o++[x])]:=by
 rcases h with ⟨h1,h2,h3⟩ | ⟨h1,h3⟩
 ·subst h1;subst h2
  exact ⟨_,Qdk h3 x,by rw [h3];simp⟩
 ·subst h1
  have hb:H[P.length+1]?=some (bI o):=by
   rw [h3,qO (by omega)];simp
  have ap:=Z9 (b:=P.length+1) (o:=o) (xs:=[x]) hb (by simp;omega) (by simp)
  rw [show (o++[x]).length=o.length+1 by simp] at ap
  refine ⟨_,ap,?_⟩
  rw [h3,List.set_append_right _ _ (by omega)]
  simp
end Go.Proofs.Ytlendaofkmhgmaa
end
section
open Go Go.HL Go.HL.So
namespace Go.Proofs.Ytlendaofkmhgmaa
set_option linter.unusedSectionVars false
open Go.Proofs.Try renaming prog → Tp
open Go.HL.HV renaming undef → Ud
theorem Qdl {d:List (List Int)} {p p':List Int} {f:Nat} (hf:f≤d.length) (h:∀a,a<d.length→p.getD a 0=p'.getD a 0):edg d p f=edg d p' f:=by
 obtain ⟨h1,h2⟩:=JP (d:=d) (p:=p) hf
 obtain ⟨h3,h4⟩:=JP (d:=d) (p:=p') hf
 refine X4 h1 h3 fun e=>(h2 e).trans (Iff.trans ?_ (h4 e).symm)
 have key:∀x y,x<y→y<d.length→mkE d p x y=mkE d p' x y:=fun x y hxy hy=>by
  simp only [mkE,cst]
  rw [h x (by omega),h y hy]
 constructor
 ·rintro ⟨x,y,hh,e⟩;exact ⟨x,y,hh,by rw [e,key x y hh.2.1 hh.2.2]⟩
 ·rintro ⟨x,y,hh,e⟩;exact ⟨x,y,hh,by rw [e,key x y hh.2.1 hh.2.2]⟩
theorem Vu {p q:Nat→Bool}:∀{l:List Nat} {a:Nat},(∀x∈l,q x=true→p x=true)→a∈l→p a=true→q a=false→l.countP q+1≤l.countP p
 | [],a,_,h,_,_=>by cases h
 | x::l,a,hm,ha,h1,h2=>by
  have mono:l.countP q≤l.countP p:=List.countP_mono_left fun y hy=>hm y (by simp [hy])
  rw [List.countP_cons,List.countP_cons]
  rcases List.mem_cons.1 ha with rfl | ha'
  ·rw [h1,h2];simp;omega
  ·have ih:=Vu (fun y hy=>hm y (by simp [hy])) ha' h1 h2
   have hx:=hm x (by simp)
   cases hq:q x
   ·cases hp:p x <;> simp <;> omega
   ·rw [hx hq];simp;omega
def Qdm (g:List Int) (x:Nat):Bool:=decide (1≤x∧g.getD x 0=(x:Int))
def rts (n:Nat) (g:List Int):Nat:=(qC n).countP (Qdm g)
def KInv (n:Nat) (g:List Int):Prop:=g.length=n∧∀x,x<n→(∃y:Nat,y<n∧g.getD x 0=(y:Int)∧g.getD y 0=(y:Int))∧(1≤x→1≤g.getD x 0)
theorem KInv.iota (n:Nat):KInv n (iota n):=⟨Ja n,fun x hx=>⟨⟨x,hx,Z6 hx,Z6 hx⟩,fun h=>by rw [Z6 hx];omega⟩⟩
theorem KInv.step {n:Nat} {g:List Int} (h:KInv n g) {a b:Nat} (ha:a<n) (hb:b<n) (h1a:1≤a) (h1b:1≤b) (hne:g.getD a 0≠g.getD b 0) :
  KInv n (rlb (g.getD a 0) (g.getD b 0) g.length 0 g)∧rts n (rlb (g.getD a 0) (g.getD b 0) g.length 0 g)+1≤rts n g:=by
 obtain ⟨hl,h⟩:=h
 obtain ⟨⟨ya,hya,ea,eya⟩,pa⟩:=h a ha
 obtain ⟨⟨yb,hyb,eb,eyb⟩,pb⟩:=h b hb
 have hat:∀x,x<n→(rlb (g.getD a 0) (g.getD b 0) g.length 0 g).getD x 0=if g.getD x 0=g.getD a 0 then g.getD b 0 else g.getD x 0:=fun x hx=>Kv _ _ _ (by omega)
 have hgl:=Ku (g.getD a 0) (g.getD b 0) g.length 0 g
 generalize rlb (g.getD a 0) (g.getD b 0) g.length 0 g=g' at hat hgl ⊢
 have pa:=pa h1a
 have pb:=pb h1b
 rw [ea] at hne pa hat
 rw [eb] at hne pb hat
 refine ⟨⟨?_,fun x hx=>?_⟩,?_⟩
 ·rw [hgl,hl]
 ·obtain ⟨⟨y,hy,e1,e2⟩,p⟩:=h x hx
  rw [hat x hx]
  by_cases c:g.getD x 0=(ya:Int)
  ·rw [if_pos c]
   refine ⟨⟨yb,hyb,rfl,?_⟩,fun _=>pb⟩
   rw [hat yb hyb,eyb,if_neg (fun h=>hne h.symm)]
  ·rw [if_neg c]
   refine ⟨⟨y,hy,e1,?_⟩,p⟩
   rw [hat y hy,e2,if_neg (by rw [← e1];exact c)]
 ·refine Vu (a:=ya) (fun x hx hq=>?_) (List.mem_range.2 hya) (decide_eq_true ⟨by omega,eya⟩) (decide_eq_false fun h=>?_)
  ·have hx:=List.mem_range.1 hx
   obtain ⟨h1,h2⟩:=of_decide_eq_true hq
   rw [hat x hx] at h2
   refine decide_eq_true ⟨h1,?_⟩
   by_cases c:g.getD x 0=(ya:Int)
   ·rw [if_pos c] at h2
    have:yb=x:=by omega
    subst this
    rw [eyb] at c
    exact absurd c.symm hne
   ·rwa [if_neg c] at h2
  ·have h2:=h.2
   rw [hat ya hya,if_pos eya] at h2
   exact hne h2.symm
theorem QfF {n:Nat} {g:List Int} (h:KInv n g) (hn:2≤n):1≤rts n g:=by
 obtain ⟨⟨y,hy,e1,e2⟩,p⟩:=h.2 1 (by omega)
 have:=Vu (p:=Qdm g) (q:=fun _=>false) (l:=qC n) (a:=y) (fun x _ h=>by cases h) (List.mem_range.2 hy) (decide_eq_true ⟨by have:=p (qJ 1);omega,e2⟩) rfl
 exact Nat.le_trans (Nat.le_add_left 1 _) this
theorem Qlo {n:Nat} (g:List Int) (hn:1≤n):rts n g+1≤n:=by
 have:=Vu (p:=fun _=>true) (q:=Qdm g) (l:=qC n) (a:=0) (fun _ _ _=>rfl) (List.mem_range.2 hn) rfl (decide_eq_false fun h=>by omega)
 rw [show (qC n).countP (fun _=>true)=n by simp] at this
 exact this
theorem Gk {n:Nat} (hn:2≤n):∀(l:List Ed) (g:List Int),KInv n g→(∀e∈l,(1≤e.2.1.toNat∧e.2.1.toNat<n)∧1≤e.2.2.toNat∧e.2.2.toNat<n)→(krP l g).length+1≤rts n g
 | [],g,h,_=>QfF h hn
 | e::l,g,h,he=>by
  obtain ⟨⟨h1,h2⟩,h3,h4⟩:=he e (by simp)
  have he':=fun x hx=>he x (qT e hx)
  rw [krP]
  split
  ·exact Gk hn l g h he'
  ·rename_i c
   obtain ⟨k1,k2⟩:=h.step h2 h4 h1 h3 c
   have:=Gk hn l _ k1 he'
   rw [qN];omega
theorem Qdn {d:List (List Int)} {p:List Int} (hn:2≤d.length):(Kw d p).length≤d.length:=by
 have h1:=Gk hn (edg d p 1) (iota d.length) (KInv.iota _) fun e he=>by
  obtain ⟨x,y,h,rfl⟩:=((JP (d:=d) (p:=p) (f:=1) (by omega)).2 e).1 he
  simp only [mkE,qF]
  omega
 have h2:=Qlo (n:=d.length) (iota d.length) (by omega)
 have h3:=UG (edg d p 0) 0
 unfold Kw WD
 rw [List.length_append]
 omega
theorem Qar {n:Nat} (hn:n≤11):∀(l:List Ed) (t:List Int) (k:Nat),EIn n l→CtB t k→CtB (l.foldl Dq t) (k+l.length)
 | [],t,k,_,h=>h
 | e::l,t,k,he,h=>by
  obtain ⟨⟨_,h1⟩,_,h2⟩:=he e (by simp)
  have:=Qar hn l (Dq t e) (k+1) (fun x hx=>he x (by simp [hx])) (h.step (by omega) (by omega))
  rw [qN,show k+(l.length+1)=k+1+l.length by omega]
  exact this
theorem QfG {d:List (List Int)} {p:List Int} (hd:okD d) (hn:2≤d.length):CtB (Qbn (Kw d p)) 11:=by
 have hdn:=hd.1
 have h1:=Qar (n:=d.length) hdn.2 (Kw d p) _ 0 (Qbo hd) CtB.zero
 have h2:=Qdn (p:=p) hn
 refine ⟨h1.1,fun x hx=>?_⟩
 have:=h1.2 x hx
 show 0≤(Qbn (Kw d p)).getD x 0∧(Qbn (Kw d p)).getD x 0≤_
 unfold Qbn
 omega
def Cu (d:List (List Int)) (p:List Int):List Int:=(qC d.length).map fun i=>p.getD i 0+((Qbn (Kw d p)).getD i 0-2)
def zer (n:Nat):List Int:=qE n 0
theorem Qbp (d:List (List Int)) (p:List Int):(Cu d p).length=d.length:=by simp [Cu]
theorem Qdo {d:List (List Int)} {p:List Int} {i:Nat} (hi:i<d.length):(Cu d p).getD i 0=p.getD i 0+((Qbn (Kw d p)).getD i 0-2):=by
 simp [Cu,qD,qG,qK hi]
def PB (n k:Nat) (p:List Int):Prop:=p.length=n∧∀i,i<n→-2*(k:Int)≤p.getD i 0∧p.getD i 0≤20*(k:Int)
theorem PB.zero (n:Nat):PB n 0 (zer n):=⟨by simp [zer],fun i hi=>by
 have:(zer n).getD i 0=0:=by rw [zer,qD,jV,if_pos hi];rfl
 rw [this];omega⟩
theorem PB.step {d:List (List Int)} {p:List Int} {k:Nat} (hd:okD d) (hn:2≤d.length) (h:PB d.length k p):PB d.length (k+1) (Cu d p):=by
 refine ⟨Qbp d p,fun i hi=>?_⟩
 have hdn:=hd.1
 rw [Qdo hi]
 have h1:=h.2 i hi
 have h2:=(QfG (p:=p) hd hn).2 i (by omega)
 omega
theorem PB.ok {n k:Nat} {p:List Int} (h:PB n k p) (hk:k≤200):prOk p:=fun v hv=>by
 obtain ⟨i,hi,rfl⟩:=List.getElem_of_mem hv
 have h2:=h.2 i (by rw [← h.1];exact hi)
 rw [show p.getD i 0=p[i] by simp [qD,qH hi]] at h2
 omega
def Gl (es:List Ed) (u v:Int):Bool:=es.any fun e=>(decide (e.2.1=u)&&decide (e.2.2=v))||(decide (e.2.1=v)&&decide (e.2.2=u))
def Qbq (es:List Ed) (f:List Int→List Int) (a:Int):Nat→Nat→List Int→List Int
 | 0,_,o=>o
 | k+1,v,o=>Qbq es f a k (v+1) (if Gl es a v=true∧(v:Int)∉o then f (o++[(v:Int)]) else o)
def SD (es:List Ed) (n:Nat):Nat→List Int→List Int
 | 0,o=>o
 | k+1,o=>Qbq es (SD es n k) (o.getD (o.length-1) 0) n 0 o
def VK (n:Nat) (o o':List Int):Prop:=(∃t,o'=o++t)∧(o.Nodup→o'.Nodup)∧(inT n o→inT n o')
theorem VK.refl (n:Nat) (o:List Int):VK n o o:=⟨⟨[],by simp⟩,id,id⟩
theorem VK.trans {n:Nat} {a b c:List Int} (h1:VK n a b) (h2:VK n b c):VK n a c:=by
 obtain ⟨⟨t,e1⟩,n1,i1⟩:=h1
 obtain ⟨⟨u,e2⟩,n2,i2⟩:=h2
 exact ⟨⟨t++u,by rw [e2,e1,qW]⟩,fun h=>n2 (n1 h),fun h=>i2 (i1 h)⟩
theorem VK.add {n:Nat} {o:List Int} {v:Nat} (hv:v<n) (ho:(v:Int)∉o):VK n o (o++[(v:Int)]):=by
 refine ⟨⟨_,rfl⟩,fun h=>?_,fun h x hx=>?_⟩
 ·rw [List.nodup_append]
  refine ⟨h,by simp,fun x hx y hy e=>?_⟩
  have:y=(v:Int):=by simpa using hy
  subst this;subst e
  exact ho hx
 ·rcases List.mem_append.1 hx with hx | hx
  ·exact h x hx
  ·have:x=(v:Int):=by simpa using hx
   subst this
   omega
theorem X6 {es:List Ed} {n:Nat} {f:List Int→List Int} {a:Int} (hf:∀o,VK n o (f o)):∀k v o,v+k=n→VK n o (Qbq es f a k v o)
 | 0,_,o,_=>VK.refl n o
 | k+1,v,o,hv=>by
  rw [Qbq]
  split
  ·rename_i c
   exact (VK.add (by omega) c.2).trans ((hf _).trans (X6 hf k (v+1) _ (by omega)))
  ·exact X6 hf k (v+1) o (by omega)
theorem Vv (es:List Ed) (n:Nat):∀k o,VK n o (SD es n k o)
 | 0,o=>VK.refl n o
 | k+1,o=>X6 (Vv es n k) n 0 o (by omega)
def WJ (d:List (List Int)):List Int:=SD (WD d (zer d.length) 0) d.length d.length [0]
def Jl (nb:Int→List Int):Nat→Int→List Int→List Int
 | 0,v,o=>o++[v]
 | k+1,v,o=>(nb v).foldl (fun o u=>if u∈o then o else Jl nb k u o) (o++[v])
def nbL (es:List Ed) (n:Nat) (a:Int):List Int:=(iota n).filter fun v=>Gl es a v
theorem Dr (es:List Ed) (f:List Int→List Int) (a:Int):∀k v o,Qbq es f a k v o=(((List.range' v k).map fun i:Nat=>(i:Int)).filter (Gl es a)).foldl (fun o u=>if u∈o then o else f (o++[u])) o
 | 0,v,o=>rfl
 | k+1,v,o=>by
  rw [Qbq,Dr es f a k (v+1),List.range'_succ,qL,List.filter_cons]
  by_cases c:Gl es a v=true
  ·rw [if_pos c,List.foldl_cons]
   by_cases c2:(v:Int)∈o
   ·rw [if_neg (fun h=>h.2 c2),if_pos c2]
   ·rw [if_pos ⟨c,c2⟩,if_neg c2]
  ·rw [if_neg c,if_neg (fun h=>c h.1)]
theorem Vw (es:List Ed) (n:Nat):∀k a o,Jl (nbL es n) k a o=SD es n k (o++[a])
 | 0,a,o=>rfl
 | k+1,a,o=>by
  have e:(o++[a]).getD ((o++[a]).length-1) 0=a:=by simp [qD]
  rw [Jl,SD,e,Dr,nbL,iota,List.range_eq_range']
  have q:(fun (o:List Int) (u:Int)=>if u∈o then o else Jl (nbL es n) k u o)=fun o u=>if u∈o then o else SD es n k (o++[u]):=by
   funext o u
   rw [Vw es n k u o]
  rw [q]
def QX:List Ed→Int→List Int
 | [],_=>[]
 | e::l,v=>(if e.2.1=v then [e.2.2] else [])++((if e.2.2=v then [e.2.1] else [])++QX l v)
def EP (n:Nat) (es:List Ed):Prop:=(∀e∈es,0≤e.2.1∧e.2.1<e.2.2∧e.2.2<(n:Int))∧es.Pairwise fun e e'=>e.2≠e'.2
theorem mem_nearL {x v:Int}:∀{es:List Ed},x∈QX es v↔∃e∈es,(e.2.1=v∧e.2.2=x)∨(e.2.2=v∧e.2.1=x)
 | []=>by simp [QX]
 | e::l=>by
  rw [QX,qU,qU,mem_nearL (es:=l)]
  constructor
  ·rintro (h | h | ⟨e',h1,h2⟩)
   ·split at h
    ·rename_i c;exact ⟨e,by simp,.inl ⟨c,(List.mem_singleton.1 h).symm⟩⟩
    ·cases h
   ·split at h
    ·rename_i c;exact ⟨e,by simp,.inr ⟨c,(List.mem_singleton.1 h).symm⟩⟩
    ·cases h
   ·exact ⟨e',by simp [h1],h2⟩
  ·rintro ⟨e',h1,h2⟩
   rcases List.mem_cons.1 h1 with rfl | h1
   ·rcases h2 with ⟨c,rfl⟩ | ⟨c,rfl⟩
    ·exact .inl (by simp [c])
    ·exact .inr (.inl (by simp [c]))
   ·exact .inr (.inr ⟨e',h1,h2⟩)
theorem K9 {n:Nat} {v:Int}:∀{es:List Ed},EP n es→(QX es v).Nodup
 | [],_=>qY
 | e::l,h=>by
  have hl:EP n l:=⟨fun x hx=>h.1 x (by simp [hx]),(List.pairwise_cons.1 h.2).2⟩
  have hne:=(List.pairwise_cons.1 h.2).1
  have he:=h.1 e (by simp)
  have key:∀x,((e.2.1=v∧e.2.2=x)∨(e.2.2=v∧e.2.1=x))→x∉QX l v:=by
   intro x hx hm
   obtain ⟨e',h1,h2⟩:=mem_nearL.1 hm
   have h3:=h.1 e' (by simp [h1])
   have h4:=hne e' h1
   have h5:¬(e.2.1=e'.2.1∧e.2.2=e'.2.2):=fun q=>h4 (Prod.ext q.1 q.2)
   rcases hx with ⟨a,b⟩ | ⟨a,b⟩ <;> rcases h2 with ⟨c,d⟩ | ⟨c,d⟩ <;> omega
  have ih:=K9 (v:=v) hl
  rw [QX]
  by_cases c:e.2.1=v
  ·rw [if_pos c,if_neg (by omega),qQ,jZ,qR]
   exact ⟨key _ (.inl ⟨c,rfl⟩),ih⟩
  ·rw [if_neg c,qQ]
   by_cases c2:e.2.2=v
   ·rw [if_pos c2,jZ,qR]
    exact ⟨key _ (.inr ⟨c2,rfl⟩),ih⟩
   ·rw [if_neg c2,qQ]
    exact ih
theorem QgY:∀{l l':List Int},l.Pairwise (· < ·)→l'.Pairwise (· < ·)→(∀e,e∈l↔e∈l')→l=l'
 | [],[],_,_,_=>rfl
 | [],y::l',_,_,h=>by have:=(h y).2 (by simp);cases this
 | x::l,[],_,_,h=>by have:=(h x).1 (by simp);cases this
 | x::l,y::l',h1,h2,h=>by
  have h1':=List.pairwise_cons.1 h1
  have h2':=List.pairwise_cons.1 h2
  have e:x=y:=by
   rcases List.mem_cons.1 ((h x).1 (by simp)) with e | hx
   ·exact e
   ·rcases List.mem_cons.1 ((h y).2 (by simp)) with e | hy
    ·exact e.symm
    ·have:=h1'.1 y hy;have:=h2'.1 x hx;omega
  subst e
  rw [QgY h1'.2 h2'.2 fun e=>?_]
  constructor
  ·intro he
   rcases List.mem_cons.1 ((h e).1 (by simp [he])) with rfl | h3
   ·have:=h1'.1 _ he;omega
   ·exact h3
  ·intro he
   rcases List.mem_cons.1 ((h e).2 (by simp [he])) with rfl | h3
   ·have:=h2'.1 _ he;omega
   ·exact h3
theorem Qas (n:Nat):(iota n).Pairwise (· < ·):=by
 rw [iota,List.pairwise_map]
 exact List.pairwise_lt_range.imp fun h=>by omega
theorem mem_iota {n:Nat} {x:Int}:x∈iota n↔0≤x∧x<n:=by
 rw [iota,List.mem_map]
 constructor
 ·rintro ⟨i,hi,rfl⟩;have:=List.mem_range.1 hi;omega
 ·rintro ⟨h1,h2⟩;exact ⟨x.toNat,List.mem_range.2 (by omega),by omega⟩
theorem Qbr {n:Nat} {es:List Ed} {v:Int} (h:EP n es) {l:List Int} (hp:l.Perm (QX es v)) (hs:l.Pairwise (·≤·)):l=nbL es n v:=by
 have nd:l.Nodup:=hp.nodup_iff.2 (K9 h)
 have lt:l.Pairwise (· < ·):=by
  have:=List.pairwise_and_iff.2 ⟨hs,nd⟩
  exact this.imp fun h=>by omega
 refine QgY lt ((Qas n).filter _) fun x=>?_
 rw [hp.mem_iff,mem_nearL,nbL,List.mem_filter,mem_iota,Gl,List.any_eq_true]
 constructor
 ·rintro ⟨e,h1,h2⟩
  have:=h.1 e h1
  refine ⟨by rcases h2 with ⟨a,b⟩ | ⟨a,b⟩ <;> omega,e,h1,?_⟩
  rcases h2 with ⟨a,b⟩ | ⟨a,b⟩
  ·simp [a,b]
  ·simp [a,b]
 ·rintro ⟨_,e,h1,h2⟩
  refine ⟨e,h1,?_⟩
  simp only [Bool.or_eq_true,Bool.and_eq_true,decide_eq_true_eq] at h2
  rcases h2 with ⟨a,b⟩ | ⟨a,b⟩
  ·exact .inl ⟨a,b⟩
  ·exact .inr ⟨b,a⟩
theorem YQ:∀(l:List Ed) (g:List Int),(krP l g).Sublist l
 | [],_=>List.Sublist.refl _
 | e::l,g=>by
  rw [krP]
  split
  ·exact (YQ l g).cons _
  ·exact (YQ l _).cons_cons _
theorem Gm (d:List (List Int)) (p:List Int):EP d.length (WD d p 0):=by
 obtain ⟨h1,h2⟩:=JP (d:=d) (p:=p) (f:=0) (qS _)
 have hm:∀e∈edg d p 0,∃x y,(0≤x∧x<y∧y<d.length)∧e=mkE d p x y:=fun e he=>(h2 e).1 he
 have hs:=YQ (edg d p 0) (iota d.length)
 refine ⟨fun e he=>?_,?_⟩
 ·obtain ⟨x,y,q,rfl⟩:=hm e (hs.subset he)
  simp only [mkE];omega
 ·refine (h1.sublist hs).imp_of_mem fun {e e'} he he' hlt heq=>?_
  obtain ⟨x,y,q,rfl⟩:=hm e (hs.subset he)
  obtain ⟨x',y',q',rfl⟩:=hm e' (hs.subset he')
  simp only [mkE,Prod.mk.injEq] at heq
  have e1:x=x':=by omega
  have e2:y=y':=by omega
  subst e1;subst e2
  exact ltE_lin.rf _ hlt
end Go.Proofs.Ytlendaofkmhgmaa
end
section
open Go Go.HL
namespace Go.Proofs.Ytlendaofkmhgmaa
set_option linter.unusedSectionVars false
open Go.Proofs.Try renaming prog → Tp
open Go.HL.HV renaming undef → Ud
def clm (mo x:Int):Int:=if x<0∨mo<x then KG x (mo+1) else x
def tmX (R:List (List Int)) (mo:Int) (i k:Nat):Int:=clm mo (if i<R.length∧k<(R.getD i []).length then at2 R i k else 1)
def mat (n:Nat) (f:Nat→Nat→Int):List (List Int):=(qC n).map fun a=>(qC n).map (f a)
def Dt (R:List (List Int)) (mo:Int) (a b:Nat):Int:=if a=b then 0 else if a<b then tmX R mo a b else tmX R mo b a
def Du (R:List (List Int)) (n:Nat) (mo:Int):List (List Int):=mat n (Dt R mo)
def nmF (f:List (List Int)→Int→Int→Option HV):List HV→Option HV
 | [.imm .arg 1 rw,.int .i64 n,.int .i64 mo]=>(match mapO G9 rw with | some R=>f R n mo | none=>none)
 | _=>none
theorem QfH {f:List (List Int)→Int→Int→Option HV} {args:List HV} {res:HV} (h:nmF f args=some res):∃R n mo,args=[.imm .arg 1 (R.map Qb),.int .i64 n,.int .i64 mo]∧f R n mo=some res:=by
 unfold nmF at h
 split at h
 ·rename_i rw n mo
  split at h
  ·rename_i R hR
   exact ⟨R,n,mo,by rw [W7 K2 hR],h⟩
  ·cases h
 ·cases h
def Gn:List HV→Option HV:=nmF fun R n mo=>if (1≤n∧n≤12)∧0≤mo∧mo≤1000000 then some (.own 1 ((Du R n.toNat mo).map Zk)) else none
theorem ZQ (n:Nat) (f:Nat→Nat→Int):(mat n f).length=n:=by simp [mat]
theorem Gp {n:Nat} {f:Nat→Nat→Int} {a:Nat} (ha:a<n):(mat n f).getD a []=(qC n).map (f a):=by
 simp [mat,qD,qG,qK ha]
theorem Qdp {n:Nat} {g:Nat→Int} {b:Nat} (hb:b<n):((qC n).map g).getD b 0=g b:=by
 simp [qD,qG,qK hb]
theorem JB {n:Nat} {f:Nat→Nat→Int} {a b:Nat} (ha:a<n) (hb:b<n):at2 (mat n f) a b=f a b:=by
 unfold at2
 rw [Gp ha,Qdp hb]
theorem Gq {n:Nat} {g:Nat→Int} {k:Nat} {x:Int}:((qC n).map g).set k x=(qC n).map fun b=>if b=k then x else g b:=by
 apply jA
 intro i
 rw [qZ,qB,jW]
 by_cases e:k=i
 ·subst e
  rw [if_pos rfl]
  by_cases h:k<n
  ·rw [if_pos h,qG,qK h];simp
  ·rw [if_neg h,qM (by simp;omega)]
 ·rw [if_neg e,qG,qG]
  by_cases h:i<n
  ·rw [qK h];simp;intro h2;exact absurd h2.symm e
  ·rw [qM (by simp;omega)];rfl
theorem Jp {n:Nat} {g h:Nat→Int} (e:∀b,b<n→g b=h b):(qC n).map g=(qC n).map h:=List.map_congr_left fun b hb=>e b (List.mem_range.1 hb)
theorem QfI {mo:Int} (h:0≤mo∧mo≤1000000) (x:Int):0≤clm mo x∧clm mo x≤mo:=by
 unfold clm
 split
 ·have:=ZB x (mo+1) (by omega) (by omega)
  omega
 ·omega
theorem Qat {R:List (List Int)} {mo:Int} (h:0≤mo∧mo≤1000000) (i k:Nat):0≤tmX R mo i k∧tmX R mo i k≤mo:=QfI h _
theorem Qdq {R:List (List Int)} {n:Nat} {mo:Int} (hn:1≤n∧n≤11) (h:0≤mo∧mo≤1000):okD (Du R n mo):=by
 have hl:(Du R n mo).length=n:=ZQ _ _
 refine ⟨by rw [hl];exact hn,fun i hi=>?_,fun i hi j hj=>?_⟩
 ·rw [hl] at hi ⊢
  rw [Du,Gp hi];simp
 ·rw [hl] at hi hj
  rw [Du,JB hi hj,JB hj hi]
  refine ⟨?_,?_,?_⟩
  ·unfold Dt
   split
   ·omega
   ·have h1:=Qat (R:=R) (mo:=mo) (by omega) i j
    have h2:=Qat (R:=R) (mo:=mo) (by omega) j i
    split <;> omega
  ·unfold Dt
   by_cases e:i=j
   ·subst e;rfl
   ·rw [if_neg e,if_neg (fun h:j=i=>e h.symm)]
    by_cases c:i<j
    ·rw [if_pos c,if_neg (by omega)]
    ·rw [if_neg c,if_pos (by omega)]
  ·rintro rfl;simp [Dt]
def Zi:Pol:={ pol with prim:=fun g=>if g==27 then some DZ else none,freeze:=fun g _=>!(g==28) }
end Go.Proofs.Ytlendaofkmhgmaa
end
section
open Go Go.HL
namespace Go.Proofs.Ytlendaofkmhgmaa
set_option maxRecDepth 100000
set_option linter.unusedSectionVars false
open Go.Proofs.Try renaming prog → Tp
open Go.HL.HV renaming undef → Ud
noncomputable def B28:Code:=Try.f28.body.getD .skip
abbrev Qdr (v0 v1 v2 v6 v7 v8 v9 v10 v11 v12 v13:HV):Env:=[(0,v0),(1,v1),(2,v2),(6,v6),(7,v7),(8,v8),(9,v9),(10,v10),(11,v11),(12,v12),(13,v13)]
abbrev e28 (rw:List HV) (n:Nat) (mo:Int) (u4 u5 u6 u7 u8 u9 u10:HV):Env:=Qdr (.a rw) (.n n) (.i mo) (.imm .lit 1 []) u4 u5 u6 u7 u8 u9 u10
section
variable (rw:List HV) (n:Nat) (mo:Int)
include rw n mo
theorem Qlp (H:Heap): RT Zi 28 (sn 2 B28) [(0,.a rw),(1,.n n),(2,.i mo)] H .normal (e28 rw n mo Ud Ud Ud Ud Ud Ud Ud) H :=
 hx 0 60 []
end
section
variable (rw:List HV) (n:Nat) (mo:Int)
include rw n mo
theorem Qlq (H:Heap) (H0:Heap) (g0:some (HV.sl H.length 0 0 none 0 1,H++[Blk.b []])=some (.s 0 0,H0)): RT Zi 28 (sn 6 B28) (e28 rw n mo Ud Ud Ud Ud Ud Ud Ud) H .normal (e28 rw n mo (.s 0 0) Ud Ud Ud Ud Ud Ud) H0 :=
 hx 0 60 [jR 1 0 g0]
theorem Qlr (H:Heap): RT Zi 28 (sn 28 B28) (e28 rw n mo (.s 0 0) Ud Ud Ud Ud Ud Ud) H .normal (e28 rw n mo (.s 0 0) (.i 0) Ud Ud Ud Ud Ud) H :=
 hx 0 60 []
theorem Qls (i rb lb:Nat) (H:Heap) (H0:Heap) (H1:Heap) (H2:Heap) (g0:(i:Int)<(n:Int)) (g1:VB Tp false 23 (.n n) (.n n) H=some (.o rb n,H0)) (g2:YU Tp false false 22 1 [(0,.o rb n)] H0=some (.o lb 1,H1)) (g3:WX Tp .append [22,22] [.s 0 i,.o lb 1] H1=some (.sl 0 0 (i+1) none (i+1) 1,H2)): RT Zi 28 (sn 116 B28) (e28 rw n mo (.s 0 i) (.n i) Ud Ud Ud Ud Ud) H .normal (e28 rw n mo (.sl 0 0 (i+1) none (i+1) 1) (.i (qA.wrap ((i:Int)+1))) Ud Ud Ud Ud Ud) H2 :=
 hx 0 60 [jT 3 2 H g0,jR 5 2 g1,jR 5 3 g2,jR 5 4 g3]
theorem Qlt (i rb lb:Nat) (H:Heap) (g0:¬((i:Int)<(n:Int))): RT Zi 28 (sn 116 B28) (e28 rw n mo (.s 0 i) (.n i) Ud Ud Ud Ud Ud) H (.exit 0) (e28 rw n mo (.s 0 i) (.n i) Ud Ud Ud Ud Ud) H :=
 hx 0 60 [jF 3 2 H g0]
theorem Qlu (y8:HV) (H:Heap): RT Zi 28 (sn 60 B28) (e28 rw n mo (.s 0 n) y8 Ud Ud Ud Ud Ud) H .normal (e28 rw n mo (.s 0 n) y8 (.i 0) Ud Ud Ud Ud) H :=
 hx 0 60 []
theorem Qlv (y8:HV) (i:Nat) (H:Heap) (g0:(i:Int)<(n:Int)): RT Zi 28 (sn 488 B28) (e28 rw n mo (.s 0 n) y8 (.n i) Ud Ud Ud Ud) H .normal (e28 rw n mo (.s 0 n) y8 (.n i) Ud Ud Ud Ud) H :=
 hx 0 60 [jT 7 2 H g0]
theorem Qlw (y8:HV) (i:Nat) (H:Heap) (g0:¬((i:Int)<(n:Int))): RT Zi 28 (sn 488 B28) (e28 rw n mo (.s 0 n) y8 (.n i) Ud Ud Ud Ud) H (.exit 2) (e28 rw n mo (.s 0 n) y8 (.n i) Ud Ud Ud Ud) H :=
 hx 0 60 [jF 7 2 H g0]
theorem Qlx (y8:HV) (i:Nat) (H:Heap): RT Zi 28 (sn 3912 B28) (e28 rw n mo (.s 0 n) y8 (.n i) Ud Ud Ud Ud) H .normal (e28 rw n mo (.s 0 n) y8 (.n i) (.i (qA.wrap ((i:Int)+1))) Ud Ud Ud) H :=
 hx 0 60 []
theorem Qly (y8:HV) (i k:Nat) (H:Heap) (l0:List HV) (l1:List HV) (x0:Int) (md:Int) (H0:Heap) (H1:Heap) (H2:Heap) (g0:(k:Int)<(n:Int)) (g1:(i:Int)<(rw.length:Int)) (g2:IX 22 (.a rw) (.n i) (.vptr (.a l0))) (g3:(k:Int)<(l0.length:Int)) (g4:IX 22 (.a rw) (.n i) (.vptr (.a l1))) (g5:IX 23 (.a l1) (.n k) (.vptr (.i x0))) (g6:x0<0) (g7:∀kf,Qa Tp Zi (kf+1) 27 [.i x0,.i (qA.wrap (mo+1))] H=some (.i md,H0)) (g8:IS 22 0 n i) (g9:LD H0 23 (.ptr 0 i 0 n) (.sl (i+1) 0 n (some n) n 1)) (g10:IS 22 0 n k) (g11:LD H0 23 (.ptr 0 k 0 n) (.sl (k+1) 0 n (some n) n 1)) (g12:IX 23 (.sl (i+1) 0 n (some n) n 1) (.n k) (.ptr (i+1) k 0 n)) (g13:ST H0 3 (.ptr (i+1) k 0 n) (.i md) H1) (g14:IX 23 (.sl (k+1) 0 n (some n) n 1) (.n i) (.ptr (k+1) i 0 n)) (g15:ST H1 3 (.ptr (k+1) i 0 n) (.i md) H2): RT Zi 28 (sn 15652 B28) (e28 rw n mo (.s 0 n) y8 (.n i) (.n k) Ud Ud Ud) H .normal (e28 rw n mo (.s 0 n) y8 (.n i) (.i (qA.wrap ((k:Int)+1))) (.i md) (.sl (i+1) 0 n (some n) n 1) (.sl (k+1) 0 n (some n) n 1)) H2 :=
 hx 0 60 [jT 10 2 H g0,jT 13 3 H g1,jO 13 8 H g2,jT 13 11 H g3,jO 14 2 H g4,jO 14 5 H g5,jT 15 1 H g6,jD 16 3 g7,jO 17 2 H0 g8,jO 17 3 H0 g9,jO 17 6 H0 g10,jO 17 7 H0 g11,jO 18 3 H0 g12,jS 18 4 g13,jO 19 3 H1 g14,jS 19 4 g15]
theorem Qlz (y8:HV) (i k:Nat) (H:Heap) (l0:List HV) (l1:List HV) (x0:Int) (md:Int) (H0:Heap) (H1:Heap) (H2:Heap) (g0:(k:Int)<(n:Int)) (g1:(i:Int)<(rw.length:Int)) (g2:IX 22 (.a rw) (.n i) (.vptr (.a l0))) (g3:(k:Int)<(l0.length:Int)) (g4:IX 22 (.a rw) (.n i) (.vptr (.a l1))) (g5:IX 23 (.a l1) (.n k) (.vptr (.i x0))) (g6:¬(x0<0)) (g7:mo<x0) (g8:∀kf,Qa Tp Zi (kf+1) 27 [.i x0,.i (qA.wrap (mo+1))] H=some (.i md,H0)) (g9:IS 22 0 n i) (g10:LD H0 23 (.ptr 0 i 0 n) (.sl (i+1) 0 n (some n) n 1)) (g11:IS 22 0 n k) (g12:LD H0 23 (.ptr 0 k 0 n) (.sl (k+1) 0 n (some n) n 1)) (g13:IX 23 (.sl (i+1) 0 n (some n) n 1) (.n k) (.ptr (i+1) k 0 n)) (g14:ST H0 3 (.ptr (i+1) k 0 n) (.i md) H1) (g15:IX 23 (.sl (k+1) 0 n (some n) n 1) (.n i) (.ptr (k+1) i 0 n)) (g16:ST H1 3 (.ptr (k+1) i 0 n) (.i md) H2): RT Zi 28 (sn 15652 B28) (e28 rw n mo (.s 0 n) y8 (.n i) (.n k) Ud Ud Ud) H .normal (e28 rw n mo (.s 0 n) y8 (.n i) (.i (qA.wrap ((k:Int)+1))) (.i md) (.sl (i+1) 0 n (some n) n 1) (.sl (k+1) 0 n (some n) n 1)) H2 :=
 hx 0 60 [jT 10 2 H g0,jT 13 3 H g1,jO 13 8 H g2,jT 13 11 H g3,jO 14 2 H g4,jO 14 5 H g5,jF 15 1 H g6,jT 15 5 H g7,jD 16 3 g8,jO 17 2 H0 g9,jO 17 3 H0 g10,jO 17 6 H0 g11,jO 17 7 H0 g12,jO 18 3 H0 g13,jS 18 4 g14,jO 19 3 H1 g15,jS 19 4 g16]
theorem QlA (y8:HV) (i k:Nat) (H:Heap) (l0:List HV) (l1:List HV) (x0:Int) (H0:Heap) (H1:Heap) (g0:(k:Int)<(n:Int)) (g1:(i:Int)<(rw.length:Int)) (g2:IX 22 (.a rw) (.n i) (.vptr (.a l0))) (g3:(k:Int)<(l0.length:Int)) (g4:IX 22 (.a rw) (.n i) (.vptr (.a l1))) (g5:IX 23 (.a l1) (.n k) (.vptr (.i x0))) (g6:¬(x0<0)) (g7:¬(mo<x0)) (g8:IS 22 0 n i) (g9:LD H 23 (.ptr 0 i 0 n) (.sl (i+1) 0 n (some n) n 1)) (g10:IS 22 0 n k) (g11:LD H 23 (.ptr 0 k 0 n) (.sl (k+1) 0 n (some n) n 1)) (g12:IX 23 (.sl (i+1) 0 n (some n) n 1) (.n k) (.ptr (i+1) k 0 n)) (g13:ST H 3 (.ptr (i+1) k 0 n) (.i x0) H0) (g14:IX 23 (.sl (k+1) 0 n (some n) n 1) (.n i) (.ptr (k+1) i 0 n)) (g15:ST H0 3 (.ptr (k+1) i 0 n) (.i x0) H1): RT Zi 28 (sn 15652 B28) (e28 rw n mo (.s 0 n) y8 (.n i) (.n k) Ud Ud Ud) H .normal (e28 rw n mo (.s 0 n) y8 (.n i) (.i (qA.wrap ((k:Int)+1))) (.i x0) (.sl (i+1) 0 n (some n) n 1) (.sl (k+1) 0 n (some n) n 1)) H1 :=
 hx 0 60 [jT 10 2 H g0,jT 13 3 H g1,jO 13 8 H g2,jT 13 11 H g3,jO 14 2 H g4,jO 14 5 H g5,jF 15 1 H g6,jF 15 5 H g7,jO 17 2 H g8,jO 17 3 H g9,jO 17 6 H g10,jO 17 7 H g11,jO 18 3 H g12,jS 18 4 g13,jO 19 3 H0 g14,jS 19 4 g15]
theorem QlB (y8:HV) (i k:Nat) (H:Heap) (l0:List HV) (md:Int) (H0:Heap) (H1:Heap) (H2:Heap) (g0:(k:Int)<(n:Int)) (g1:(i:Int)<(rw.length:Int)) (g2:IX 22 (.a rw) (.n i) (.vptr (.a l0))) (g3:¬((k:Int)<(l0.length:Int))) (g4:mo<(1:Int)) (g5:∀kf,Qa Tp Zi (kf+1) 27 [.i 1,.i (qA.wrap (mo+1))] H=some (.i md,H0)) (g6:IS 22 0 n i) (g7:LD H0 23 (.ptr 0 i 0 n) (.sl (i+1) 0 n (some n) n 1)) (g8:IS 22 0 n k) (g9:LD H0 23 (.ptr 0 k 0 n) (.sl (k+1) 0 n (some n) n 1)) (g10:IX 23 (.sl (i+1) 0 n (some n) n 1) (.n k) (.ptr (i+1) k 0 n)) (g11:ST H0 3 (.ptr (i+1) k 0 n) (.i md) H1) (g12:IX 23 (.sl (k+1) 0 n (some n) n 1) (.n i) (.ptr (k+1) i 0 n)) (g13:ST H1 3 (.ptr (k+1) i 0 n) (.i md) H2): RT Zi 28 (sn 15652 B28) (e28 rw n mo (.s 0 n) y8 (.n i) (.n k) Ud Ud Ud) H .normal (e28 rw n mo (.s 0 n) y8 (.n i) (.i (qA.wrap ((k:Int)+1))) (.i md) (.sl (i+1) 0 n (some n) n 1) (.sl (k+1) 0 n (some n) n 1)) H2 :=
 hx 0 60 [jT 10 2 H g0,jT 13 3 H g1,jO 13 8 H g2,jF 13 11 H g3,jT 15 5 H g4,jD 16 3 g5,jO 17 2 H0 g6,jO 17 3 H0 g7,jO 17 6 H0 g8,jO 17 7 H0 g9,jO 18 3 H0 g10,jS 18 4 g11,jO 19 3 H1 g12,jS 19 4 g13]
theorem QlC (y8:HV) (i k:Nat) (H:Heap) (l0:List HV) (H0:Heap) (H1:Heap) (g0:(k:Int)<(n:Int)) (g1:(i:Int)<(rw.length:Int)) (g2:IX 22 (.a rw) (.n i) (.vptr (.a l0))) (g3:¬((k:Int)<(l0.length:Int))) (g4:¬(mo<(1:Int))) (g5:IS 22 0 n i) (g6:LD H 23 (.ptr 0 i 0 n) (.sl (i+1) 0 n (some n) n 1)) (g7:IS 22 0 n k) (g8:LD H 23 (.ptr 0 k 0 n) (.sl (k+1) 0 n (some n) n 1)) (g9:IX 23 (.sl (i+1) 0 n (some n) n 1) (.n k) (.ptr (i+1) k 0 n)) (g10:ST H 3 (.ptr (i+1) k 0 n) (.i 1) H0) (g11:IX 23 (.sl (k+1) 0 n (some n) n 1) (.n i) (.ptr (k+1) i 0 n)) (g12:ST H0 3 (.ptr (k+1) i 0 n) (.i 1) H1): RT Zi 28 (sn 15652 B28) (e28 rw n mo (.s 0 n) y8 (.n i) (.n k) Ud Ud Ud) H .normal (e28 rw n mo (.s 0 n) y8 (.n i) (.i (qA.wrap ((k:Int)+1))) (.i 1) (.sl (i+1) 0 n (some n) n 1) (.sl (k+1) 0 n (some n) n 1)) H1 :=
 hx 0 60 [jT 10 2 H g0,jT 13 3 H g1,jO 13 8 H g2,jF 13 11 H g3,jF 15 5 H g4,jO 17 2 H g5,jO 17 3 H g6,jO 17 6 H g7,jO 17 7 H g8,jO 18 3 H g9,jS 18 4 g10,jO 19 3 H0 g11,jS 19 4 g12]
theorem QlD (y8:HV) (i k:Nat) (H:Heap) (md:Int) (H0:Heap) (H1:Heap) (H2:Heap) (g0:(k:Int)<(n:Int)) (g1:¬((i:Int)<(rw.length:Int))) (g2:mo<(1:Int)) (g3:∀kf,Qa Tp Zi (kf+1) 27 [.i 1,.i (qA.wrap (mo+1))] H=some (.i md,H0)) (g4:IS 22 0 n i) (g5:LD H0 23 (.ptr 0 i 0 n) (.sl (i+1) 0 n (some n) n 1)) (g6:IS 22 0 n k) (g7:LD H0 23 (.ptr 0 k 0 n) (.sl (k+1) 0 n (some n) n 1)) (g8:IX 23 (.sl (i+1) 0 n (some n) n 1) (.n k) (.ptr (i+1) k 0 n)) (g9:ST H0 3 (.ptr (i+1) k 0 n) (.i md) H1) (g10:IX 23 (.sl (k+1) 0 n (some n) n 1) (.n i) (.ptr (k+1) i 0 n)) (g11:ST H1 3 (.ptr (k+1) i 0 n) (.i md) H2): RT Zi 28 (sn 15652 B28) (e28 rw n mo (.s 0 n) y8 (.n i) (.n k) Ud Ud Ud) H .normal (e28 rw n mo (.s 0 n) y8 (.n i) (.i (qA.wrap ((k:Int)+1))) (.i md) (.sl (i+1) 0 n (some n) n 1) (.sl (k+1) 0 n (some n) n 1)) H2 :=
 hx 0 60 [jT 10 2 H g0,jF 13 3 H g1,jT 15 5 H g2,jD 16 3 g3,jO 17 2 H0 g4,jO 17 3 H0 g5,jO 17 6 H0 g6,jO 17 7 H0 g7,jO 18 3 H0 g8,jS 18 4 g9,jO 19 3 H1 g10,jS 19 4 g11]
theorem QlE (y8:HV) (i k:Nat) (H:Heap) (H0:Heap) (H1:Heap) (g0:(k:Int)<(n:Int)) (g1:¬((i:Int)<(rw.length:Int))) (g2:¬(mo<(1:Int))) (g3:IS 22 0 n i) (g4:LD H 23 (.ptr 0 i 0 n) (.sl (i+1) 0 n (some n) n 1)) (g5:IS 22 0 n k) (g6:LD H 23 (.ptr 0 k 0 n) (.sl (k+1) 0 n (some n) n 1)) (g7:IX 23 (.sl (i+1) 0 n (some n) n 1) (.n k) (.ptr (i+1) k 0 n)) (g8:ST H 3 (.ptr (i+1) k 0 n) (.i 1) H0) (g9:IX 23 (.sl (k+1) 0 n (some n) n 1) (.n i) (.ptr (k+1) i 0 n)) (g10:ST H0 3 (.ptr (k+1) i 0 n) (.i 1) H1): RT Zi 28 (sn 15652 B28) (e28 rw n mo (.s 0 n) y8 (.n i) (.n k) Ud Ud Ud) H .normal (e28 rw n mo (.s 0 n) y8 (.n i) (.i (qA.wrap ((k:Int)+1))) (.i 1) (.sl (i+1) 0 n (some n) n 1) (.sl (k+1) 0 n (some n) n 1)) H1 :=
 hx 0 60 [jT 10 2 H g0,jF 13 3 H g1,jF 15 5 H g2,jO 17 2 H g3,jO 17 3 H g4,jO 17 6 H g5,jO 17 7 H g6,jO 18 3 H g7,jS 18 4 g8,jO 19 3 H0 g9,jS 19 4 g10]
theorem QlF (y8:HV) (i k:Nat) (H:Heap) (g0:¬((k:Int)<(n:Int))): RT Zi 28 (sn 15652 B28) (e28 rw n mo (.s 0 n) y8 (.n i) (.n k) Ud Ud Ud) H (.exit 4) (e28 rw n mo (.s 0 n) y8 (.n i) (.n k) Ud Ud Ud) H :=
 hx 0 60 [jF 10 2 H g0]
theorem QlG (y8:HV) (i k:Nat) (H:Heap): RT Zi 28 (sn 979 B28) (e28 rw n mo (.s 0 n) y8 (.n i) (.n k) Ud Ud Ud) H .normal (e28 rw n mo (.s 0 n) y8 (.i (qA.wrap ((i:Int)+1))) (.n k) Ud Ud Ud) H :=
 hx 0 60 []
theorem QlH (y8 y9 y10 y11 y12 y13:HV) (H:Heap): RT Zi 28 (sn 31 B28) (e28 rw n mo (.s 0 n) y8 y9 y10 y11 y12 y13) H .ret (Qdr (.a rw) (.n n) (.i mo) (.s 0 n) (.s 0 n) y8 y9 y10 y11 y12 y13) H :=
 hx 0 60 []
end
end Go.Proofs.Ytlendaofkmhgmaa
end
section
open Go Go.HL
namespace Go.Proofs.Ytlendaofkmhgmaa
set_option linter.unusedSectionVars false
open Go.Proofs.Try renaming prog → Tp
open Go.HL.HV renaming undef → Ud
theorem QlI (n:Nat):Qo Tp (Qa Tp Zi n) :=
 KZ Qi (fun g fn h=>by
  have e:JL Zi g fn=JL pol g fn:=rfl
  rw [e]
  exact List.all_eq_true.1 XZ (fn,g) (by
   rw [zA]
   simpa using h)) (fun g f h=>by
 simp only [Zi] at h
 split at h
 ·rename_i hg;cases h;rw [eq_of_beq hg];exact Qcq
 ·cases h) n
theorem Qok (g:FuncId) (fn:Func) (h:Tp.funcs[g]?=some fn):JL Zi g fn=true:=by
 have e:JL Zi g fn=JL pol g fn:=rfl
 rw [e]
 exact List.all_eq_true.1 XZ (fn,g) (by
  rw [zA]
  simpa using h)
theorem Qol:Try.f28.results.toList=[.tmp 6]:=by kernel_rfl
theorem QfJ:(Tp.info? 23).map (fun i=>(i.size,i.bytes,YV i))=some (1,24,true):=by kernel_rfl
theorem QlJ:(Tp.info? 3).map (fun i=>(i.size,i.bytes,i.zero.map QC))=some (1,8,some (.int .i64 0)):=by kernel_rfl
abbrev slT (n a:Nat):HV:=.sl (a+1) 0 n (some n) n 1
theorem QlK (b n:Nat) (H:Heap):YU Tp false false 22 1 [(0,slT n b)] H=some (.sl H.length 0 1 (some 1) 1 1,H++[.arr 1 [slT n b] true (b+2)]):=by kernel_rfl
theorem Qau {H:Heap} {n i lb mx m2:Nat} {els:List HV} {v:HV} (hi:els.length=i) (h0:H[0]?=some (.arr 1 els true mx)) (hl:H[lb]?=some (.arr 1 [v] true m2)) (hb:i≤1000) (hm:bndL [v]=m2) :
  WX Tp .append [22,22] [.sl 0 0 i none i 1,.sl lb 0 1 (some 1) 1 1] H=some (.sl 0 0 (i+1) none (i+1) 1,H.set 0 (.arr 1 (els++[v]) true (max mx m2))):=by
 have hinfo:=QfJ
 cases hinf:Tp.info? 23 with
 | none=>rw [hinf] at hinfo;cases hinfo
 | some inf =>
  rw [hinf] at hinfo
  simp only [Option.map,Option.some.injEq,Prod.mk.injEq] at hinfo
  obtain ⟨e1,e2,e3⟩:=hinfo
  have hs:Je H (.sl lb 0 1 (some 1) 1 1)=some ([v],1):=by simp [Je,Wh,hl]
  simp only [WX,u22,hinf,hs,e1,e2,e3]
  rw [if_pos ⟨.inl trivial,by omega,trivial⟩]
  simp only [WV,h0,hi,hm,qN,List.length_nil,List.cons_ne_nil,if_false]
  rw [if_pos ⟨trivial,trivial,trivial,by rw [show Q0=70368744177664 from rfl];omega⟩,if_pos ⟨trivial,trivial,trivial⟩]
structure TS (n i:Nat) (H:Heap):Prop where
 len:H.length=i+1
 out:H[0]?=some (.arr 1 ((qC i).map (slT n)) true (if i=0 then 0 else i+1))
 row:∀a,a<i→H[a+1]?=some (bI (qE n 0))
theorem Qds {H:Heap} {j:Nat} {B:Blk} (h:H[j]?=some B):B.mx≤mxs H:=mxs_le.1 (qJ _) B (List.mem_of_getElem? h)
section
variable {R:List (List Int)} {n:Nat} {mo:Int}
abbrev tmE (R:List (List Int)) (n:Nat) (mo:Int) (v7 y8 y9 y10 y11 y12 y13:HV):Env:=Qdr (.imm .arg 1 (R.map Qb)) (.int .i64 (n:Int)) (.int .i64 mo) (.imm .lit 1 []) v7 y8 y9 y10 y11 y12 y13
theorem QfK (hn:n≤12):∀k i H,i+k=n→TS n i H →
  ∃H',RT Zi 28 (sn 58 B28) (tmE R n mo (.sl 0 0 i none i 1) (.int .i64 (i:Int)) Ud Ud Ud Ud Ud) H (.exit 0) (tmE R n mo (.sl 0 0 n none n 1) (.int .i64 (n:Int)) Ud Ud Ud Ud Ud) H'∧TS n n H':=by
 intro k
 induction k with
 | zero =>
  intro i H hi hT
  have:i=n:=by omega
  subst this
  exact ⟨H,lpo (Qlt (R.map Qb) i mo i 0 0 H (by omega)),hT⟩
 | succ k ih =>
  intro i H hi hT
  have hl:=hT.len
  have m1:=G5 (P:=Tp) (H:=H) (t:=23) (n:=(n:Int)) u23 QlJ rfl rfl (by omega) (by omega) (by rw [show Q0=70368744177664 from rfl];omega)
  rw [qF,hl] at m1
  have m2:=QlK i n (H++[.arr 1 (qE n (.int .i64 0)) true 0])
  have hl2:(H++[Blk.arr 1 (qE n (.int .i64 0)) true 0]).length=i+2:=by simp [hl]
  rw [hl2] at m2
  have m3:=Qau (H:=H++[.arr 1 (qE n (.int .i64 0)) true 0]++[.arr 1 [slT n i] true (i+2)]) (n:=n) (i:=i) (lb:=i+2) (m2:=i+2) (v:=slT n i) (els:=(qC i).map (slT n)) (by simp) (by rw [qP (by omega),qP (by omega)];exact hT.out) (by rw [qO (by omega),hl2];simp) (by omega) (by simp [bndL,bnd])
  have s:=Qls (R.map Qb) n mo i (i+1) (i+2) H _ _ _ (by omega) m1 m2 m3
  rw [Qc (by omega)] at s
  generalize hH2:(H++[Blk.arr 1 (qE n (.int .i64 0)) true 0]++[Blk.arr 1 [slT n i] true (i+2)]).set 0 (.arr 1 ((qC i).map (slT n)++[slT n i]) true (max (if i=0 then 0 else i+1) (i+2)))=H2 at s
  have hlen:H2.length=i+3:=by rw [← hH2];simp [hl]
  have g0:H2[0]?=some (.arr 1 ((qC (i+1)).map (slT n)) true (i+2)):=by
   rw [← hH2,jE (by simp),List.range_succ,qV]
   have:max (if i=0 then 0 else i+1) (i+2)=i+2:=by split <;> omega
   rw [this];rfl
  have g1:∀a,a<i+1→H2[a+1]?=some (bI (qE n 0)):=fun a ha=>by
   rw [← hH2,qI (by omega),qP (by omega)]
   by_cases e:a=i
   ·subst e
    rw [qO (by omega),show a+1-H.length=0 by omega]
    simp [bI,hvI]
   ·rw [qP (by omega)]
    exact hT.row a (by omega)
  have hmx:mxs H2=i+2:=by
   have h1:i+2≤mxs H2:=Qds g0
   have h2:mxs H2≤i+2:=by
    rw [mxs_le]
    intro B hB
    obtain ⟨j,hj⟩:=List.mem_iff_getElem?.1 hB
    have hjl:=Qd hj
    by_cases e0:j=0
    ·rw [e0,g0] at hj
     rw [← Option.some.inj hj];exact qJ _
    ·by_cases e1:j≤i+1
     ·rw [show j=(j-1)+1 by omega,g1 (j-1) (by omega)] at hj
      rw [← Option.some.inj hj];exact qS _
     ·have ej:j=i+2:=by omega
      rw [ej,← hH2,qI (by omega),qO (by omega),hl2] at hj
      simp at hj
      rw [← hj];exact qJ _
   omega
  have ec:gc H.length (Zm (tmE R n mo (.sl 0 0 (i+1) none (i+1) 1) (.int .i64 ((i+1:Nat):Int)) Ud Ud Ud Ud Ud)) H2=H2.take (i+2):=by
   unfold gc
   rw [hmx,hl]
   have e:max (i+1) (max (Zm (tmE R n mo (.sl 0 0 (i+1) none (i+1) 1) (.int .i64 ((i+1:Nat):Int)) Ud Ud Ud Ud Ud)) (i+2))=i+2:=by
    simp only [Zm,bnd,bndL]
    omega
   rw [e]
  have hT2:TS n (i+1) (H2.take (i+2)):=by
   refine ⟨by rw [List.length_take];omega,?_,fun a ha=>?_⟩
   ·rw [jG,if_pos (by omega),g0,if_neg (by omega)]
   ·rw [jG,if_pos (by omega),g1 a ha]
  obtain ⟨H',r,hT'⟩:=ih (i+1) _ (by omega) hT2
  exact ⟨H',lop s ec r,hT'⟩
structure TM (n:Nat) (f:Nat→Nat→Int) (H:Heap):Prop where
 len:H.length=n+1
 out:H[0]?=some (.arr 1 ((qC n).map (slT n)) true (n+1))
 row:∀a,a<n→H[a+1]?=some (bI ((qC n).map (f a)))
theorem TS.mem {H:Heap} (h:TS n n H) (hn:1≤n):TM n (fun _ _=>0) H:=by
 refine ⟨h.len,by rw [h.out,if_neg (by omega)],fun a ha=>?_⟩
 rw [h.row a ha]
 have e:qE n (0:Int)=(qC n).map fun _=>(0:Int):=by
  apply jA
  intro i
  by_cases h:i<n
  ·rw [qG,qK h,jV,if_pos h];simp
  ·rw [qM (by simp;omega),qM (by simp;omega)]
 rw [e]
def up2 (f:Nat→Nat→Int) (i k:Nat) (x:Int) (a b:Nat):Int:=if a=i∧b=k∨a=k∧b=i then x else f a b
theorem ixo {i:Nat} (hi:i<n):WW Tp 22 (.sl 0 0 n none n 1) (.int .i64 (i:Int))=some (.ptr 0 i 0 n):=by
 have:=VY (P:=Tp) (t:=22) (b:=0) (len:=n) (tot:=n) (cap:=none) (ik:=.i64) (n:=(i:Int)) u22 z23 (by omega) (by omega)
 rwa [qF] at this
theorem ixr {b k:Nat} (hk:k<n):WW Tp 23 (.sl b 0 n (some n) n 1) (.int .i64 (k:Int))=some (.ptr b k 0 n):=by
 have:=VY (P:=Tp) (t:=23) (b:=b) (len:=n) (tot:=n) (cap:=some n) (ik:=.i64) (n:=(k:Int)) u23 z3 (by omega) (by omega)
 rwa [qF] at this
theorem TM.ld {f:Nat→Nat→Int} {H:Heap} (h:TM n f H) {i:Nat} (hi:i<n):Qh Tp H 23 (.ptr 0 i 0 n)=some (slT n i):=by
 refine Qv (b:=0) h.out (by simp) ?_ rfl a23 i23
 rw [qG,qK hi];rfl
theorem TM.st {f:Nat→Nat→Int} {H:Heap} (h:TM n f H) {i k:Nat} (hi:i<n) (hk:k<n) (x:Int):QM Tp H 3 (.ptr (i+1) k 0 n) (.int .i64 x)=some (H.set (i+1) (bI (((qC n).map (f i)).set k x))):=by
 have:=J4 (h.row i hi) (y:=k) (by simpa using hk) x
 rwa [show ((qC n).map (f i)).length=n by simp] at this
theorem TM.two {f:Nat→Nat→Int} {H:Heap} (h:TM n f H) {i k:Nat} (hi:i<n) (hk:k<n) (hik:i<k) (x:Int) :
  QM Tp H 3 (.ptr (i+1) k 0 n) (.int .i64 x)=some (H.set (i+1) (bI (((qC n).map (f i)).set k x))) ∧
  QM Tp (H.set (i+1) (bI (((qC n).map (f i)).set k x))) 3 (.ptr (k+1) i 0 n) (.int .i64 x)=some ((H.set (i+1) (bI (((qC n).map (f i)).set k x))).set (k+1) (bI (((qC n).map (f k)).set i x))) ∧
  TM n (up2 f i k x) ((H.set (i+1) (bI (((qC n).map (f i)).set k x))).set (k+1) (bI (((qC n).map (f k)).set i x))):=by
 have hl:=h.len
 refine ⟨h.st hi hk x,?_,?_⟩
 ·have hr:(H.set (i+1) (bI (((qC n).map (f i)).set k x)))[k+1]?=some (bI ((qC n).map (f k))):=by
   rw [qI (by omega)];exact h.row k hk
  have:=J4 hr (y:=i) (by simpa using hi) x
  rwa [show ((qC n).map (f k)).length=n by simp] at this
 ·refine ⟨by simp [hl],by rw [qI (by omega),qI (by omega)];exact h.out,fun a ha=>?_⟩
  by_cases e1:a=k
  ·subst e1
   rw [jE (by simp;omega),Gq]
   congr 2
   refine Jp fun b hb=>?_
   unfold up2
   by_cases e:b=i
   ·rw [if_pos e,if_pos (.inr ⟨rfl,e⟩)]
   ·rw [if_neg e,if_neg (by omega)]
  ·rw [qI (by omega)]
   by_cases e2:a=i
   ·subst e2
    rw [jE (by omega),Gq]
    congr 2
    refine Jp fun b hb=>?_
    unfold up2
    by_cases e:b=k
    ·rw [if_pos e,if_pos (.inl ⟨rfl,e⟩)]
    ·rw [if_neg e,if_neg (by omega)]
   ·rw [qI (by omega),h.row a ha]
    congr 2
    refine Jp fun b hb=>?_
    unfold up2
    rw [if_neg (by omega)]
theorem TM.congr {f g:Nat→Nat→Int} {H:Heap} (h:TM n f H) (e:∀a b,a<n→b<n→f a b=g a b):TM n g H:=⟨h.len,h.out,fun a ha=>by rw [h.row a ha,Jp fun b hb=>e a b ha hb]⟩
theorem Qdt {pol':Pol} (hp:pol'.prim 27=some DZ) {a m:Int} (hm:0<m∧m<9223372036854775808) (H:Heap):∀k,Qa Tp pol' (k+1) 27 [.int .i64 a,.int .i64 m] H=some (.int .i64 (KG a m),H):=fun k=>by
 rw [Qt (pol:=pol') (g:=27) (F:=DZ) hp (rs:=[.int .i64 a,.int .i64 m]) rfl (res:=.int .i64 (KG a m)) (by simp only [DZ];rw [if_pos hm])];rfl
theorem QfL (hn:n≤12) (hmo:0≤mo∧mo≤1000000) {f:Nat→Nat→Int} {H:Heap} (h:TM n f H) {i k:Nat} (hk:k<n) (hik:i<k) :
  ∃H' y11 y12 y13,RT Zi 28 (sn 15652 B28) (tmE R n mo (.sl 0 0 n none n 1) Ud (.int .i64 (i:Int)) (.int .i64 (k:Int)) Ud Ud Ud) H .normal (tmE R n mo (.sl 0 0 n none n 1) Ud (.int .i64 (i:Int)) (.int .i64 ((k+1:Nat):Int)) y11 y12 y13) H'∧TM n (up2 f i k (tmX R mo i k)) H':=by
 have hi:i<n:=by omega
 obtain ⟨s1,s2,s3⟩:=h.two hi hk hik (tmX R mo i k)
 have hwm:qA.wrap (mo+1)=mo+1:=Qn (by omega) (by omega)
 have hm:∀a:Int,∀kf,Qa Tp Zi (kf+1) 27 [.int .i64 a,.int .i64 (qA.wrap (mo+1))] H=some (.int .i64 (KG a (mo+1)),H):=fun a=>by
  rw [hwm];exact Qdt (by kernel_rfl) (by omega) H
 refine ⟨_,.int .i64 (tmX R mo i k),slT n i,slT n k,?_,s3⟩
 by_cases c1:i<R.length
 ·have gi:=gr (R:=R) (y:=i) c1
  by_cases c2:k<(R.getD i []).length
  ·have gk:=gx (l:=R.getD i []) (y:=k) c2
   have ex:tmX R mo i k=clm mo (at2 R i k):=by unfold tmX;rw [if_pos ⟨c1,c2⟩]
   rw [ex] at s1 s2 ⊢
   by_cases c3:at2 R i k<0
   ·rw [show clm mo (at2 R i k)=KG (at2 R i k) (mo+1) by unfold clm;rw [if_pos (.inl c3)]] at s1 s2 ⊢
    have s:=Qly (R.map Qb) n mo Ud i k H _ _ (at2 R i k) _ H _ _ (by omega) (by rw [qB];omega) gi (by rw [qB];omega) gi gk c3 (hm _) (ixo hi) (h.ld hi) (ixo hk) (h.ld hk) (ixr hk) s1 (ixr hi) s2
    rwa [Qc (by omega)] at s
   ·by_cases c4:mo<at2 R i k
    ·rw [show clm mo (at2 R i k)=KG (at2 R i k) (mo+1) by unfold clm;rw [if_pos (.inr c4)]] at s1 s2 ⊢
     have s:=Qlz (R.map Qb) n mo Ud i k H _ _ (at2 R i k) _ H _ _ (by omega) (by rw [qB];omega) gi (by rw [qB];omega) gi gk c3 c4 (hm _) (ixo hi) (h.ld hi) (ixo hk) (h.ld hk) (ixr hk) s1 (ixr hi) s2
     rwa [Qc (by omega)] at s
    ·rw [show clm mo (at2 R i k)=at2 R i k by unfold clm;rw [if_neg (by omega)]] at s1 s2 ⊢
     have s:=QlA (R.map Qb) n mo Ud i k H _ _ (at2 R i k) _ _ (by omega) (by rw [qB];omega) gi (by rw [qB];omega) gi gk c3 c4 (ixo hi) (h.ld hi) (ixo hk) (h.ld hk) (ixr hk) s1 (ixr hi) s2
     rwa [Qc (by omega)] at s
  ·have ex:tmX R mo i k=clm mo 1:=by unfold tmX;rw [if_neg (fun h=>c2 h.2)]
   rw [ex] at s1 s2 ⊢
   by_cases c4:mo<1
   ·rw [show clm mo 1=KG 1 (mo+1) by unfold clm;rw [if_pos (.inr c4)]] at s1 s2 ⊢
    have s:=QlB (R.map Qb) n mo Ud i k H _ _ H _ _ (by omega) (by rw [qB];omega) gi (by rw [qB];omega) c4 (hm _) (ixo hi) (h.ld hi) (ixo hk) (h.ld hk) (ixr hk) s1 (ixr hi) s2
    rwa [Qc (by omega)] at s
   ·rw [show clm mo 1=1 by unfold clm;rw [if_neg (by omega)]] at s1 s2 ⊢
    have s:=QlC (R.map Qb) n mo Ud i k H _ _ _ (by omega) (by rw [qB];omega) gi (by rw [qB];omega) c4 (ixo hi) (h.ld hi) (ixo hk) (h.ld hk) (ixr hk) s1 (ixr hi) s2
    rwa [Qc (by omega)] at s
 ·have ex:tmX R mo i k=clm mo 1:=by unfold tmX;rw [if_neg (fun h=>c1 h.1)]
  rw [ex] at s1 s2 ⊢
  by_cases c4:mo<1
  ·rw [show clm mo 1=KG 1 (mo+1) by unfold clm;rw [if_pos (.inr c4)]] at s1 s2 ⊢
   have s:=QlD (R.map Qb) n mo Ud i k H _ H _ _ (by omega) (by rw [qB];omega) c4 (hm _) (ixo hi) (h.ld hi) (ixo hk) (h.ld hk) (ixr hk) s1 (ixr hi) s2
   rwa [Qc (by omega)] at s
  ·rw [show clm mo 1=1 by unfold clm;rw [if_neg (by omega)]] at s1 s2 ⊢
   have s:=QlE (R.map Qb) n mo Ud i k H _ _ (by omega) (by rw [qB];omega) c4 (ixo hi) (h.ld hi) (ixo hk) (h.ld hk) (ixr hk) s1 (ixr hi) s2
   rwa [Qc (by omega)] at s
def tmP (R:List (List Int)) (mo:Int) (i k a b:Nat):Int:=if a=b then 0 else if min a b<i∨min a b=i∧max a b<k then tmX R mo (min a b) (max a b) else 0
theorem QlL {i k a b:Nat} (hik:i<k):up2 (tmP R mo i k) i k (tmX R mo i k) a b=tmP R mo i (k+1) a b:=by
 unfold up2 tmP
 by_cases e:a=i∧b=k∨a=k∧b=i
 ·rw [if_pos e,if_neg (by omega),show min a b=i by omega,show max a b=k by omega,if_pos (by omega)]
 ·rw [if_neg e]
  by_cases e2:a=b
  ·rw [if_pos e2,if_pos e2]
  ·rw [if_neg e2,if_neg e2]
   by_cases c:min a b<i∨min a b=i∧max a b<k
   ·rw [if_pos c,if_pos (by omega)]
   ·rw [if_neg c,if_neg (by omega)]
theorem Qom (hn:n≤12) (hmo:0≤mo∧mo≤1000000):∀j i k H,k+j=n→i<k→TM n (tmP R mo i k) H →
  ∃H',RT Zi 28 (sn 7826 B28) (tmE R n mo (.sl 0 0 n none n 1) Ud (.int .i64 (i:Int)) (.int .i64 (k:Int)) Ud Ud Ud) H (.exit 4) (tmE R n mo (.sl 0 0 n none n 1) Ud (.int .i64 (i:Int)) (.int .i64 (n:Int)) Ud Ud Ud) H'∧TM n (tmP R mo i n) H':=by
 intro j
 induction j with
 | zero =>
  intro i k H hj hik h
  have:k=n:=by omega
  subst this
  exact ⟨H,lpo (QlF (R.map Qb) k mo Ud i k H (by omega)),h⟩
 | succ j ih =>
  intro i k H hj hik h
  obtain ⟨H1,y11,y12,y13,s,h1⟩:=QfL (R:=R) hn hmo h (k:=k) (by omega) hik
  obtain ⟨H',r,h'⟩:=ih i (k+1) H1 (by omega) (by omega) (h1.congr fun a b _ _=>QlL hik)
  exact ⟨H',lop s (WN _ (by rw [h1.len,h.len])) r,h'⟩
theorem Qdu {i a b:Nat} (ha:a<n) (hb:b<n):tmP R mo i n a b=tmP R mo (i+1) (i+2) a b:=by
 unfold tmP
 by_cases e2:a=b
 ·rw [if_pos e2,if_pos e2]
 ·rw [if_neg e2,if_neg e2]
  by_cases c:min a b<i∨min a b=i∧max a b<n
  ·rw [if_pos c,if_pos (by omega)]
  ·rw [if_neg c,if_neg (by omega)]
theorem QlM (hn:n≤12) (hmo:0≤mo∧mo≤1000000):∀j i H,i+j=n→TM n (tmP R mo i (i+1)) H →
  ∃H',RT Zi 28 (sn 122 B28) (tmE R n mo (.sl 0 0 n none n 1) Ud (.int .i64 (i:Int)) Ud Ud Ud Ud) H (.exit 2) (tmE R n mo (.sl 0 0 n none n 1) Ud (.int .i64 (n:Int)) Ud Ud Ud Ud) H'∧TM n (tmP R mo n (n+1)) H':=by
 intro j
 induction j with
 | zero =>
  intro i H hj h
  have:i=n:=by omega
  subst this
  exact ⟨H,lpo (sqo (Qlw (R.map Qb) i mo Ud i H (by omega)) (c:=sn 244 B28) (b:=sn 489 B28)),h⟩
 | succ j ih =>
  intro i H hj h
  have e:=Qlv (R.map Qb) n mo Ud i H (by omega)
  have f:=Qlx (R.map Qb) n mo Ud i H
  rw [Qc (by omega)] at f
  obtain ⟨H1,r,h1⟩:=Qom (R:=R) hn hmo (n-(i+1)) i (i+1) H (by omega) (by omega) h
  have g:=QlG (R.map Qb) n mo Ud i n H1
  rw [Qc (by omega)] at g
  have t1:=sq f (bke (c:=sn 3913 B28) r) (c:=sn 1956 B28)
  have t2:=RunsTo.block_normal (i:=3) (c:=sn 978 B28) t1 (by kernel_rfl)
  have t3:=sq t2 g (c:=sn 489 B28)
  have t4:=sq e t3 (c:=sn 244 B28)
  obtain ⟨H',r2,h'⟩:=ih (i+1) H1 (by omega) (h1.congr fun a b ha hb=>Qdu ha hb)
  exact ⟨H',lop t4 (WN _ (by rw [h1.len,h.len])) r2,h'⟩
theorem Qdv {H:Heap} (hn:1≤n) {f:Nat→Nat→Int} (h:TM n f H):∀(j i:Nat),i+j=n→mapO (frz H [0] 4) ((List.range' i j).map (slT n))=some ((List.range' i j).map fun a=>Zk ((qC n).map (f a))):=by
 intro j
 induction j with
 | zero=>intro i _;rfl
 | succ j ih =>
  intro i hi
  rw [List.range'_succ,qL,qL,mapO,ih (i+1) (by omega)]
  have hr:=h.row i (by omega)
  have hv:Wh H (i+1) 0 n n 1=some (((qC n).map (f i)).map hvI):=by
   simp only [Wh,hr,qB,jW]
   rw [if_pos ⟨trivial,by omega,trivial⟩]
   rw [jU,zB (by simp)]
  have hm:mapO (frz H [0] 3) (((qC n).map (f i)).map hvI)=some (((qC n).map (f i)).map hvI):=WB (f:=frz H [0] 3) (g:=hvI) (fun r=>Kr 3 r) _
  have:frz H [0] 4 (slT n i)=some (Zk ((qC n).map (f i))):=by
   have e:frz H [0] 4 (slT n i)=if n=0 then some (.imm .own 1 []) else if [0].contains (i+1) then none else match Wh H (i+1) 0 n n 1 with | some l=>(match mapO (frz H [0] 3) l with | some l=>some (.imm .own 1 l) | none=>none) | none=>none:=rfl
   rw [e,if_neg (by omega),if_neg (by simp)]
   simp only [hv,hm]
   rfl
  rw [this]
theorem Qdw {H:Heap} (hn:1≤n) {f:Nat→Nat→Int} (h:TM n f H):We H false (.sl 0 0 n none n 1)=some (.own 1 ((mat n f).map Zk)):=by
 have ho:Qu H false (.sl 0 0 n none n 1)=[0]:=by simp [Qu,cellsOf,WQ,h.out]
 have hv:Wh H 0 0 n n 1=some ((qC n).map (slT n)):=by
  simp only [Wh,h.out,qB,jW]
  rw [if_pos ⟨trivial,by omega,trivial⟩]
  rw [jU,zB (by simp)]
 have hf:=Qdv hn h n 0 (by omega)
 rw [← List.range_eq_range'] at hf
 have hr:(Zq H [0] false)=frz H [0] 4:=by funext v;rfl
 have e:(mat n f).map Zk=(qC n).map fun a=>Zk ((qC n).map (f a)):=by simp [mat,List.map_map,Function.comp_def]
 simp only [We,ho,qR,jQ,not_false_eq_true,qY,and_self,if_true,WO,Wr,h.out,hv,hr,hf,e]
end
theorem QfM:QN Tp 28 Gn:=by
 refine Qp (pol:=Zi) (fn:=Try.f28) (cd:=B28) Qi QlI (by kernel_rfl) (by kernel_rfl) (Qok _ _ (by kernel_rfl)) (by kernel_rfl) ?_
 intro args res h
 obtain ⟨R,n0,mo,rfl,hq⟩:=QfH h
 clear h
 split at hq
 ·rename_i hc
  cases hq
  obtain ⟨n,rfl⟩:∃n:Nat,n0=(n:Int):=⟨n0.toNat,by omega⟩
  rw [qF]
  have a:=Qlp (R.map Qb) n mo []
  have b:=Qlq (R.map Qb) n mo [] _ rfl
  have c:=Qlr (R.map Qb) n mo [.arr 1 [] true 0]
  obtain ⟨H1,r1,h1⟩:=QfK (R:=R) (n:=n) (mo:=mo) (by omega) n 0 [.arr 1 [] true 0] (by omega) ⟨rfl,rfl,fun a ha=>by omega⟩
  have d:=Qlu (R.map Qb) n mo (.int .i64 (n:Int)) H1
  have hM:TM n (tmP R mo 0 1) H1:=(h1.mem (by omega)).congr fun a b _ _=>by
   unfold tmP
   split
   ·rfl
   ·rw [if_neg (by omega)]
  obtain ⟨H2,r2,h2⟩:=QlM (R:=R) (n:=n) (mo:=mo) (by omega) hc.2 n 0 H1 (by omega) hM
  have z:=QlH (R.map Qb) n mo Ud (.int .i64 (n:Int)) Ud Ud Ud Ud H2
  have r2':=lpi (e0:=tmE R n mo (.sl 0 0 n none n 1) (.int .i64 (n:Int)) (.int .i64 0) Ud Ud Ud Ud) r2 (b:=sn 244 B28)
  have t1:=sq c (bke (c:=sn 29 B28) r1) (c:=sn 14 B28)
  have t2:=sq d (bke (c:=sn 61 B28) r2') (c:=sn 30 B28)
  have t3:=sq t1 (sq t2 z (c:=sn 15 B28)) (c:=sn 7 B28)
  have t4:=sq a (sq b t3 (c:=sn 3 B28)) (c:=B28)
  have hfin:TM n (Dt R mo) H2:=h2.congr fun a b ha hb=>by
   unfold tmP Dt
   by_cases e:a=b
   ·rw [if_pos e,if_pos e]
   ·rw [if_neg e,if_neg e,if_pos (by omega)]
    by_cases c:a<b
    ·rw [if_pos c,show min a b=a by omega,show max a b=b by omega]
    ·rw [if_neg c,show min a b=b by omega,show max a b=a by omega]
  exact ⟨_,_,_,.sl 0 0 n none n 1,t4,by simp,by simp only [Qf,Qol];rfl,Qdw (by omega) hfin⟩
 ·cases hq
section
variable {d:List (List Int)}
def pc (d:List (List Int)):Nat→List Int→Int
 | _,[]=>0
 | s,v::p=>at2 d s v.toNat+pc d v.toNat p
def QV:Nat→List Int→Nat
 | s,[]=>s
 | _,v::p=>QV v.toNat p
theorem Gr (d:List (List Int)):∀(p:List Int) (y s:Nat),pc d s (p++[(y:Int)])=pc d s p+at2 d (QV s p) y
 | [],y,s=>by simp [pc,QV]
 | v::p,y,s=>by
  rw [List.cons_append,pc,Gr d p y,pc,QV];omega
theorem J5:∀(p:List Int) (y s:Nat),QV s (p++[(y:Int)])=y
 | [],y,s=>by simp [QV]
 | v::p,y,s=>by rw [List.cons_append,QV,J5 p y]
theorem UH {n:Nat}:∀(p:List Int) (s:Nat),s<n→inT n p→QV s p<n
 | [],s,h,_=>h
 | v::p,s,h,hp=>by
  have:=hp v (by simp)
  exact UH p v.toNat (by omega) fun w hw=>hp w (by simp [hw])
structure Pre (n:Nat) (p:List Int) (L:Nat):Prop where
 inn:inT n (0::p)
 nd:(0::p).Nodup
 left:∀y:Nat,L.testBit y=true↔y<n∧(y:Int)∉(0::p)
theorem Pre.lt {n L:Nat} {p:List Int} (h:Pre n p L):L<2 ^ n:=Nat.lt_pow_two_of_testBit _ fun i hi=>by
 cases hb:L.testBit i with
 | false=>rfl
 | true=>have:=((h.left i).1 hb).1;omega
theorem Pre.step {n L y:Nat} {p:List Int} (h:Pre n p L) (hn:n≤11) (hb:L.testBit y=true):Pre n (p++[(y:Int)]) (wo L y):=by
 obtain ⟨h1,h2⟩:=(h.left y).1 hb
 have hL:=h.lt
 have hp:=ZZ hn
 have e:(0::(p++[(y:Int)]))=(0::p)++[(y:Int)]:=rfl
 refine ⟨fun v hv=>?_,?_,fun u=>?_⟩
 ·rw [e,qU,jH] at hv
  rcases hv with hv | rfl
  ·exact h.inn v hv
  ·omega
 ·rw [e,List.nodup_append]
  refine ⟨h.nd,by simp,fun a ha b hb'=>?_⟩
  rw [jH] at hb'
  subst hb'
  exact fun e=>h2 (e▸ha)
 ·rw [X2 (by omega) (by omega),e,Bool.and_eq_true,h.left,decide_eq_true_eq]
  simp only [qU,jH,not_or]
  constructor
  ·rintro ⟨⟨g1,g2⟩,g3⟩;exact ⟨g1,g2,by omega⟩
  ·rintro ⟨g1,g2,g3⟩;exact ⟨⟨g1,g2⟩,by omega⟩
end
def rl (d:List (List Int)) (A:List Int) (p:Nat×Nat):List Int:=A.set p.2 (min (A.getD p.2 0) (A.getD p.1 0+at2 d p.1 p.2))
def rnds (d:List (List Int)) (ps:List (Nat×Nat)):Nat→List Int→List Int
 | 0,A=>A
 | k+1,A=>rnds d ps k (ps.foldl (rl d) A)
def UI (u:Nat):Nat→Nat→List (Nat×Nat)
 | 0,_=>[]
 | k+1,v=>(v,u)::UI u k (v+1)
def V6 (n:Nat):Nat→Nat→List (Nat×Nat)
 | 0,_=>[]
 | k+1,u=>UI u n 0++V6 n k (u+1)
def Zl (d:List (List Int)) (t:Nat):List Int:=rnds d (V6 d.length d.length 0) d.length (d.getD t [])
def BdA (n:Nat) (A:List Int):Prop:=A.length=n∧∀v,v<n→0≤A.getD v 0∧A.getD v 0≤1099511627776
theorem Vx (o:List Int) (i k:Nat) (v:Int) (hi:i<o.length):(o.set i v).getD k 0=if i=k then v else o.getD k 0:=by
 simp only [qD,qZ,hi]
 split
 ·rename_i e;subst e;simp
 ·rfl
section
variable {d:List (List Int)}
theorem BdA.rl (h:okD d) {A:List Int} (hA:BdA d.length A) {p:Nat×Nat} (h1:p.1<d.length) (h2:p.2<d.length):BdA d.length (rl d A p):=by
 refine ⟨by simp [Ytlendaofkmhgmaa.rl,hA.1],fun v hv=>?_⟩
 unfold Ytlendaofkmhgmaa.rl
 rw [Vx _ _ _ _ (by rw [hA.1];exact h2)]
 have a1:=hA.2 p.1 h1
 have a2:=hA.2 p.2 h2
 have a3:=h.at h1 h2
 split
 ·omega
 ·exact hA.2 v hv
theorem BdA.fold (h:okD d):∀(ps:List (Nat×Nat)) (A:List Int),BdA d.length A→(∀p∈ps,p.1<d.length∧p.2<d.length)→BdA d.length (ps.foldl (Ytlendaofkmhgmaa.rl d) A)
 | [],A,hA,_=>hA
 | p::ps,A,hA,hp=>by
  rw [List.foldl_cons]
  exact BdA.fold h ps _ (hA.rl h (hp p (by simp)).1 (hp p (by simp)).2) fun q hq=>hp q (by simp [hq])
theorem Gs {n u:Nat} (hu:u<n):∀k v,v+k≤n→∀p∈UI u k v,p.1<n∧p.2<n
 | 0,v,_,p,hp=>by cases hp
 | k+1,v,hk,p,hp=>by
  rw [UI] at hp
  rcases List.mem_cons.1 hp with rfl | hp
  ·exact ⟨by show v<n;omega,hu⟩
  ·exact Gs hu k (v+1) (by omega) p hp
theorem Vy {n:Nat}:∀k u,u+k≤n→∀p∈V6 n k u,p.1<n∧p.2<n
 | 0,u,_,p,hp=>by cases hp
 | k+1,u,hk,p,hp=>by
  rw [V6,qU] at hp
  rcases hp with hp | hp
  ·exact Gs (by omega) n 0 (by omega) p hp
  ·exact Vy k (u+1) (by omega) p hp
theorem BdA.rnds (h:okD d) {ps:List (Nat×Nat)} (hp:∀p∈ps,p.1<d.length∧p.2<d.length):∀k A,BdA d.length A→BdA d.length (rnds d ps k A)
 | 0,A,hA=>hA
 | k+1,A,hA=>by
  rw [Ytlendaofkmhgmaa.rnds]
  exact BdA.rnds h hp k _ (BdA.fold h ps A hA hp)
theorem Gt (h:okD d) {t:Nat} (ht:t<d.length):BdA d.length (d.getD t []):=by
 refine ⟨h.2.1 t ht,fun v hv=>?_⟩
 have:=h.at ht hv
 unfold at2 at this
 omega
end
theorem Kx {B:Blk} {H:Heap} (hB:Qj [B] [B]=true) (hH:Qj H H=true):Qj (B::H) (B::H)=true:=by
 rw [sameH_iff] at hH ⊢
 intro C hC
 rcases List.mem_cons.1 hC with rfl | hC
 ·exact hB
 ·exact hH C hC
def Va (f:Nat→Bool):Nat→Nat→Bool
 | 0,_=>false
 | k+1,i=>f i||Va f k (i+1)
def KD (d:List (List Int)) (fa:List Int) (v u:Nat):Bool:=decide (at2 d v u+fa.getD u 0=fa.getD v 0)
def ldF (d:List (List Int)) (fa:List Int) (to:Nat):Nat→Nat→Nat→Bool
 | 0,v,_=>decide (v=to)
 | k+1,v,L=>decide (v=to)||Va (fun u=>L.testBit u&&KD d fa v u&&ldF d fa to k u (wo L u)) d.length 0
def ldT (d:List (List Int)) (fa:List Int) (to v L:Nat):Bool:=ldF d fa to L v L
theorem V7 {f g:Nat→Bool}:∀k i,(∀u,f u=g u)→Va f k i=Va g k i
 | 0,_,_=>rfl
 | k+1,i,h=>by rw [Va,Va,h i,V7 k (i+1) h]
theorem X7 {f:Nat→Bool}:∀k i,(∀u,f u=false)→Va f k i=false
 | 0,_,_=>rfl
 | k+1,i,h=>by rw [Va,h i,X7 k (i+1) h];rfl
theorem UJ {f:Nat→Bool}:∀k i,Va f k i=true↔∃u,(i≤u∧u<i+k)∧f u=true
 | 0,i=>by simp [Va];intro u h1 h2;omega
 | k+1,i=>by
  rw [Va,Bool.or_eq_true,UJ k (i+1)]
  constructor
  ·rintro (h | ⟨u,h1,h2⟩)
   ·exact ⟨i,by omega,h⟩
   ·exact ⟨u,by omega,h2⟩
  ·rintro ⟨u,h1,h2⟩
   by_cases e:u=i
   ·subst e;exact .inl h2
   ·exact .inr ⟨u,by omega,h2⟩
theorem Qdx (d:List (List Int)) (fa:List Int) (to:Nat):∀k k' v L,L≤k→L≤k'→ldF d fa to k v L=ldF d fa to k' v L:=by
 have h0:∀k' v,ldF d fa to k' v 0=decide (v=to):=by
  intro k' v
  cases k' with
  | zero=>rfl
  | succ k'=>rw [ldF,X7 _ _ (fun u=>by simp),Bool.or_false]
 intro k
 induction k with
 | zero =>
  intro k' v L h _
  have:L=0:=by omega
  subst this
  rw [h0,h0]
 | succ k ih =>
  intro k' v L h h'
  by_cases c:L=0
  ·subst c;rw [h0,h0]
  ·obtain ⟨k',rfl⟩:∃n,k'=n+1:=⟨k'-1,by omega⟩
   rw [ldF,ldF]
   congr 1
   refine V7 _ _ fun u=>?_
   cases hb:L.testBit u with
   | false=>rfl
   | true =>
    have:=ZC hb
    rw [ih k' u (wo L u) (by omega) (by omega)]
theorem J6 (d:List (List Int)) (fa:List Int) (to v L:Nat):ldT d fa to v L=(decide (v=to)||Va (fun u=>L.testBit u&&KD d fa v u&&ldT d fa to u (wo L u)) d.length 0):=by
 unfold ldT
 by_cases c:L=0
 ·subst c
  rw [ldF,X7 _ _ (fun u=>by simp),Bool.or_false]
 ·obtain ⟨k,rfl⟩:∃k,L=k+1:=⟨L-1,by omega⟩
  rw [ldF]
  congr 1
  refine V7 _ _ fun u=>?_
  cases hb:(k+1).testBit u with
  | false=>rfl
  | true =>
   have:=ZC hb
   rw [Qdx d fa to k (wo (k+1) u) u (wo (k+1) u) (by omega) (qJ _)]
noncomputable def polK:Pol:={ pol with prim:=fun g=>if g==46 then some JH else if g==49 then some Vo else if g==52 then some YM else none }
theorem u74:Tp.underlying 74=some (.map 77 4):=by kernel_rfl
theorem z4q:VN Tp 4=some (.bool false):=by kernel_rfl
theorem a22:Qw Tp 22=false:=by kernel_rfl
theorem i22:(Tp.underlying 22).isSome=true:=by kernel_rfl
theorem a74:Qw Tp 74=false:=by kernel_rfl
theorem i74:(Tp.underlying 74).isSome=true:=by kernel_rfl
theorem a75:Qw Tp 75=false:=by kernel_rfl
theorem i75:(Tp.underlying 75).isSome=true:=by kernel_rfl
abbrev fnK:HV:=.func 53 [] [.ptr 1 0 0 1,.ptr 6 0 0 1,.ptr 0 0 0 1,.ptr 3 0 0 1,.ptr 7 0 0 1]
abbrev bB (g:Int×Int→Bool) (k:Int×Int):HV:=.bool (g k)
structure WM (d:List (List Int)) (fa:List Int) (to:Nat) (ks:List (Int×Int)) (g:Int×Int→Bool) (H:Heap):Prop where
 b0:H[0]?=some (.arr 1 [.imm .arg 1 (d.map Qb)] true 0)
 b1:H[1]?=some (.arr 1 [.int .i64 (to:Int)] true 0)
 b2:H[2]?=some (bI fa)
 b3:H[3]?=some (.arr 1 [.sl 2 0 d.length none d.length 1] true 5)
 b5:H[5]?=some (.map (ks.map Q5) (ks.map (bB g)) 0)
 b6:H[6]?=some (.arr 1 [.map 5] true 6)
 b7:H[7]?=some (.arr 1 [fnK] true 8)
 nd:ks.Nodup
 rf:Qj H H=true
 mx:mxs H≤8
structure FrW (H H':Heap):Prop where
 len:H'.length=H.length
 same:∀k,k≠5→H'[k]?=H[k]?
theorem FrW.refl (H:Heap):FrW H H:=⟨rfl,fun _ _=>rfl⟩
theorem FrW.trans {H H' H'':Heap} (h:FrW H H') (h':FrW H' H''):FrW H H'':=⟨h'.len.trans h.len,fun k hk=>(h'.same k hk).trans (h.same k hk)⟩
section
variable {d:List (List Int)} {fa:List Int} {to:Nat} {ks:List (Int×Int)} {g:Int×Int→Bool} {H:Heap}
theorem WM.seven (h:WM d fa to ks g H):8≤H.length:=Qd h.b7
theorem WM.l0 (h:WM d fa to ks g H):Qh Tp H 22 (.ptr 0 0 0 1)=some (.imm .arg 1 (d.map Qb)):=Qv (b:=0) h.b0 rfl rfl rfl a22 i22
theorem WM.l1 (h:WM d fa to ks g H):Qh Tp H 3 (.ptr 1 0 0 1)=some (.int .i64 (to:Int)):=Qv (b:=1) h.b1 rfl rfl rfl a3 i3
theorem WM.l3 (h:WM d fa to ks g H):Qh Tp H 23 (.ptr 3 0 0 1)=some (.sl 2 0 d.length none d.length 1):=Qv (b:=3) h.b3 rfl rfl rfl a23 i23
theorem WM.l5 (h:WM d fa to ks g H):Qh Tp H 74 (.ptr 6 0 0 1)=some (.map 5):=Qv (b:=6) h.b6 rfl rfl rfl a74 i74
theorem WM.l6 (h:WM d fa to ks g H):Qh Tp H 75 (.ptr 7 0 0 1)=some fnK:=Qv (b:=7) h.b7 rfl rfl rfl a75 i75
theorem WM.l2 (h:WM d fa to ks g H) (hf:fa.length=d.length) {v:Nat} (hv:v<d.length):Qh Tp H 3 (.ptr 2 v 0 d.length)=some (.int .i64 (fa.getD v 0)):=by
 rw [← hf]
 exact Xt h.b2 (by omega)
theorem ixF {v:Nat} (hv:v<d.length):WW Tp 23 (.sl 2 0 d.length none d.length 1) (.int .i64 (v:Int))=some (.ptr 2 v 0 d.length):=by
 have:=VY (P:=Tp) (t:=23) (b:=2) (len:=d.length) (tot:=d.length) (cap:=none) (ik:=.i64) (n:=(v:Int)) u23 z3 (by omega) (by omega)
 rwa [qF] at this
theorem WM.lkIn (h:WM d fa to ks g H) {k:Int×Int} (hk:k∈ks):lkG Tp 74 H 5 (Q5 k) true=some (.tuple [.bool (g k),.bool true],H)∧lkG Tp 74 H 5 (Q5 k) false=some (.bool (g k),H):=by
 obtain ⟨r,h1,h2⟩:=W9 k ks 0
 have ht:=Ce k
 rcases h2 with ⟨h3,j,rfl,h5⟩ | ⟨h3,rfl⟩
 ·have hj:(ks.map (bB g))[0+j]?=some (.bool (g k)):=by rw [qX,qG,h5];rfl
  constructor
  ·simp only [lkG,h.b5,JR,u74,ht,if_true,h1,hj,Option.map]
  ·simp only [lkG,h.b5,JR,u74,ht,if_true,h1,hj,Option.map,jX,if_false]
 ·exact absurd hk h3
theorem WM.lkOut (h:WM d fa to ks g H) {k:Int×Int} (hk:k∉ks):lkG Tp 74 H 5 (Q5 k) true=some (.tuple [.bool false,.bool false],H):=by
 obtain ⟨r,h1,h2⟩:=W9 k ks 0
 have ht:=Ce k
 have hz:=z4q
 rcases h2 with ⟨h3,j,rfl,h5⟩ | ⟨h3,rfl⟩
 ·exact absurd h3 hk
 ·simp only [lkG,h.b5,JR,u74,ht,if_true,h1,hz]
  rfl
theorem Qbs (g:Int×Int→Bool) (ks:List (Int×Int)):Qj [.map (ks.map Q5) (ks.map (bB g)) 0] [.map (ks.map Q5) (ks.map (bB g)) 0]=true:=by
 have e1:sameL (ks.map Q5) (ks.map Q5)=true:=Zh fun v hv=>by
  obtain ⟨k,_,rfl⟩:=List.mem_map.1 hv
  simp [Q5,same,sameL]
 have e2:sameL (ks.map (bB g)) (ks.map (bB g))=true:=Zh fun v hv=>by
  obtain ⟨k,_,rfl⟩:=List.mem_map.1 hv
  simp [same]
 simp only [Qj,e1,e2,beq_self_eq_true,Bool.and_self]
def put (g:Int×Int→Bool) (k:Int×Int) (b:Bool) (q:Int×Int):Bool:=if q=k then b else g q
theorem WM.upd (h:WM d fa to ks g H) (k:Int×Int) (b:Bool):∃ks' H',VA Tp false 74 (.map 5) (Q5 k) (.bool b) H=some H'∧WM d fa to ks' (put g k b) H'∧FrW H H'∧(∀q,q∈ks'↔q∈ks∨q=k):=by
 obtain ⟨r,h1,h2⟩:=W9 k ks 0
 have ht:=Ce k
 have hl:=Qd h.b5
 have key:∀ks':List (Int×Int),ks'.Nodup→(∀q,q∈ks'↔q∈ks∨q=k)→VA Tp false 74 (.map 5) (Q5 k) (.bool b) H=some (H.set 5 (.map (ks'.map Q5) (ks'.map (bB (put g k b))) 0))→∃ks' H',VA Tp false 74 (.map 5) (Q5 k) (.bool b) H=some H'∧WM d fa to ks' (put g k b) H'∧FrW H H'∧(∀q,q∈ks'↔q∈ks∨q=k):=by
  intro ks' hnd hin hu
  have hs:∀j,j≠5→(H.set 5 (.map (ks'.map Q5) (ks'.map (bB (put g k b))) 0))[j]?=H[j]?:=fun j hj=>qI (by omega)
  refine ⟨ks',_,hu,⟨by rw [hs 0 (by omega)];exact h.b0,by rw [hs 1 (by omega)];exact h.b1,by rw [hs 2 (by omega)];exact h.b2,by rw [hs 3 (by omega)];exact h.b3,jE hl,by rw [hs 6 (by omega)];exact h.b6,by rw [hs 7 (by omega)];exact h.b7,hnd,Z0 h.rf (Qbs _ ks'),?_⟩,⟨by simp,hs⟩,hin⟩
  have hm:=h.mx
  rw [mxs_le] at hm ⊢
  intro C hC
  rcases zC hC with hC | rfl
  ·exact hm C hC
  ·exact qS _
 rcases h2 with ⟨h3,j,rfl,h5⟩ | ⟨h3,rfl⟩
 ·refine key ks h.nd (fun q=>⟨.inl,fun h=>h.elim id fun e=>e▸h3⟩) ?_
  simp only [VA,u74,ht,if_true,h.b5,h1,jX,if_false]
  have hs:(ks.map (bB g)).set (0+j) (.bool b)=ks.map (bB (put g k b)):=by
   apply jA
   intro i
   have hjl:=Qd h5
   rw [qZ,qB]
   by_cases e:0+j=i
   ·subst e
    rw [if_pos rfl,if_pos (by omega),qX,qG,h5]
    simp [bB,put]
   ·rw [if_neg e,qG,qG]
    cases hi:ks[i]? with
    | none=>rfl
    | some q =>
     have hq:q≠k:=fun e2=>by
      subst e2
      have hil:=Qd hi
      have hinj:=(List.getElem?_inj hil h.nd).1 (by rw [hi,h5]:ks[i]?=ks[j]?)
      omega
     simp [bB,put,hq]
  simp only [hs,bnd,Nat.max_zero]
 ·refine key (ks++[k]) (List.nodup_append.2 ⟨h.nd,by simp,fun a ha b hb=>by rw [jH] at hb;subst hb;exact fun e=>h3 (e▸ha)⟩) (fun q=>by simp) ?_
  have ha:(Wn (cellsOf (Q5 k)) (cellsOf (Q5 k))).isSome=true:=by simp [Q5,cellsOf,Wn,Jf]
  have hs:ks.map (bB g)++[.bool b]=(ks++[k]).map (bB (put g k b)):=by
   have e1:ks.map (bB g)=ks.map (bB (put g k b)):=List.map_congr_left fun q hq=>by
    have:q≠k:=fun e=>h3 (e▸hq)
    simp only [bB,put,if_neg this]
   have e2:bB (put g k b) k=.bool b:=by simp only [bB,put,if_true]
   rw [e1,qV,qL,jN,e2]
  simp only [VA,u74,ht,if_true,h.b5,h1,ha,jX,if_false,bnd,Nat.max_zero,← hs,qV,qL,jN]
theorem WM.app (h:WM d fa to ks g H) {B:Blk} (hB:Qj [B] [B]=true) (hm:B.mx≤8):WM d fa to ks g (H++[B]):=by
 have h7:=h.seven
 have hs:∀j,j<8→(H++[B])[j]?=H[j]?:=fun j hj=>qP (by omega)
 refine ⟨by rw [hs 0 (by omega)];exact h.b0,by rw [hs 1 (by omega)];exact h.b1,by rw [hs 2 (by omega)];exact h.b2,by rw [hs 3 (by omega)];exact h.b3,by rw [hs 5 (by omega)];exact h.b5,by rw [hs 6 (by omega)];exact h.b6,by rw [hs 7 (by omega)];exact h.b7,h.nd,Jo h.rf hB,?_⟩
 have hx:=h.mx
 rw [mxs_le] at hx ⊢
 intro C hC
 rcases List.mem_append.1 hC with hC | hC
 ·exact hx C hC
 ·rw [List.mem_singleton.1 hC];exact hm
theorem WM.set (h:WM d fa to ks g H) {k:Nat} {B:Blk} (hk:8≤k) (hB:Qj [B] [B]=true) (hm:B.mx≤8):WM d fa to ks g (H.set k B):=by
 have hs:∀j,j<8→(H.set k B)[j]?=H[j]?:=fun j hj=>qI (by omega)
 refine ⟨by rw [hs 0 (by omega)];exact h.b0,by rw [hs 1 (by omega)];exact h.b1,by rw [hs 2 (by omega)];exact h.b2,by rw [hs 3 (by omega)];exact h.b3,by rw [hs 5 (by omega)];exact h.b5,by rw [hs 6 (by omega)];exact h.b6,by rw [hs 7 (by omega)];exact h.b7,h.nd,Z0 h.rf hB,?_⟩
 have hx:=h.mx
 rw [mxs_le] at hx ⊢
 intro C hC
 rcases zC hC with hC | rfl
 ·exact hx C hC
 ·exact hm
theorem WM.take (h:WM d fa to ks g H) {m:Nat} (hm:8≤m):WM d fa to ks g (H.take m):=by
 have hs:∀j,j<8→(H.take m)[j]?=H[j]?:=fun j hj=>by rw [jG,if_pos (by omega)]
 refine ⟨by rw [hs 0 (by omega)];exact h.b0,by rw [hs 1 (by omega)];exact h.b1,by rw [hs 2 (by omega)];exact h.b2,by rw [hs 3 (by omega)];exact h.b3,by rw [hs 5 (by omega)];exact h.b5,by rw [hs 6 (by omega)];exact h.b6,by rw [hs 7 (by omega)];exact h.b7,h.nd,V2 h.rf,?_⟩
 have hx:=h.mx
 rw [mxs_le] at hx ⊢
 exact fun C hC=>hx C (List.mem_of_mem_take hC)
theorem WM.gc (h:WM d fa to ks g H) {b r:Nat} (hb:8≤b):gc b r H=H.take (max b r):=by
 have:=h.mx
 unfold HL.gc
 congr 1
 omega
end
end Go.Proofs.Ytlendaofkmhgmaa
end
section
open Go Go.HL
namespace Go.Proofs.Ytlendaofkmhgmaa
set_option maxRecDepth 100000
set_option linter.unusedSectionVars false
open Go.Proofs.Try renaming prog → Tp
open Go.HL.HV renaming undef → Ud
noncomputable def B23:Code:=Try.f23.body.getD .skip
abbrev UK (v0 v1 v2 v3 v5 v6 v7 v8 v9 v10 v11 v12 v13 v14 v15 v16 v17 v43 v44 v47 v48 v52 v53 v97 v98:HV):Env:=[(0,v0),(1,v1),(2,v2),(3,v3),(5,v5),(6,v6),(7,v7),(8,v8),(9,v9),(10,v10),(11,v11),(12,v12),(13,v13),(14,v14),(15,v15),(16,v16),(17,v17),(43,v43),(44,v44),(47,v47),(48,v48),(52,v52),(53,v53),(97,v97),(98,v98)]
abbrev e23 (rw:List HV) (fr:Int) (to:Int) (u8 u9 u10 u11 u12 u13 u14 u15 u16 u17 u18 u19 u20 u21 u22 u23 u24:HV):Env:=UK (.a rw) (.i fr) (.i to) (.q 0) (.q 1) (.imm .lit 1 []) (.i 0) (.i 0) u8 u9 u10 u11 u12 u13 u14 u15 u16 u17 u18 u19 u20 u21 u22 u23 u24
section
variable (N:Nat)
include N
theorem QlN (rw:List HV) (fr to:Int) (H:Heap) (H0:Heap) (H1:Heap) (g0:some (Wm (.a rw) H)=some (.q 0,H0)) (g1:some (Wm (.i to) H0)=some (.q 1,H1)): RT polK 23 (sn 2 B23) [(0,.a rw),(1,.i fr),(2,.i to)] H .normal (e23 rw fr to Ud Ud Ud Ud Ud Ud Ud Ud Ud Ud Ud Ud Ud Ud Ud Ud Ud) H1 :=
 hx N 60 [jR 0 0 g0,jR 0 1 g1]
end
section
variable (N:Nat)
include N
theorem QlO (rw:List HV) (fr to:Int) (H:Heap) (H0:Heap) (g0:LD H 22 (.q 0) (.a rw)) (g1:∀kf,N≤kf→Qa Tp polK (kf+1) 46 [.a rw] H=some (.bool true,H0)) (g2:LD H0 22 (.q 0) (.a rw)) (g3:(0:Int)≤fr∧fr≤qA.wrap ((rw.length:Int)-1)) (g4:LD H0 3 (.q 1) (.i to)) (g5:LD H0 22 (.q 0) (.a rw)) (g6:(0:Int)≤to∧to≤qA.wrap ((rw.length:Int)-1)): RT polK 23 (sn 6 B23) (e23 rw fr to Ud Ud Ud Ud Ud Ud Ud Ud Ud Ud Ud Ud Ud Ud Ud Ud Ud) H .normal (e23 rw fr to Ud Ud Ud Ud Ud Ud Ud Ud Ud Ud Ud Ud Ud Ud Ud Ud Ud) H0 :=
 hx N 60 [jO 1 0 H g0,jC 1 1 g1,jO 1 5 H0 g2,jT 1 8 H0 g3,jO 1 12 H0 g4,jO 1 13 H0 g5,jT 1 16 H0 g6]
theorem QlP (rw:List HV) (fr to:Int) (H:Heap) (H0:Heap) (g0:LD H 22 (.q 0) (.a rw)) (g1:∀kf,N≤kf→Qa Tp polK (kf+1) 46 [.a rw] H=some (.bool true,H0)) (g2:LD H0 22 (.q 0) (.a rw)) (g3:(0:Int)≤fr∧fr≤qA.wrap ((rw.length:Int)-1)) (g4:LD H0 3 (.q 1) (.i to)) (g5:LD H0 22 (.q 0) (.a rw)) (g6:¬((0:Int)≤to∧to≤qA.wrap ((rw.length:Int)-1))): RT polK 23 (sn 6 B23) (e23 rw fr to Ud Ud Ud Ud Ud Ud Ud Ud Ud Ud Ud Ud Ud Ud Ud Ud Ud) H .ret (UK (.a rw) (.i fr) (.i to) (.q 0) (.q 1) (.imm .lit 1 []) (.i 0) (.i 2) Ud Ud Ud Ud Ud Ud Ud Ud Ud Ud Ud Ud Ud Ud Ud Ud Ud) H0 :=
 hx N 60 [jO 1 0 H g0,jC 1 1 g1,jO 1 5 H0 g2,jT 1 8 H0 g3,jO 1 12 H0 g4,jO 1 13 H0 g5,jF 1 16 H0 g6]
theorem QlQ (rw:List HV) (fr to:Int) (H:Heap) (H0:Heap) (g0:LD H 22 (.q 0) (.a rw)) (g1:∀kf,N≤kf→Qa Tp polK (kf+1) 46 [.a rw] H=some (.bool true,H0)) (g2:LD H0 22 (.q 0) (.a rw)) (g3:¬((0:Int)≤fr∧fr≤qA.wrap ((rw.length:Int)-1))): RT polK 23 (sn 6 B23) (e23 rw fr to Ud Ud Ud Ud Ud Ud Ud Ud Ud Ud Ud Ud Ud Ud Ud Ud Ud) H .ret (UK (.a rw) (.i fr) (.i to) (.q 0) (.q 1) (.imm .lit 1 []) (.i 0) (.i 2) Ud Ud Ud Ud Ud Ud Ud Ud Ud Ud Ud Ud Ud Ud Ud Ud Ud) H0 :=
 hx N 60 [jO 1 0 H g0,jC 1 1 g1,jO 1 5 H0 g2,jF 1 8 H0 g3]
theorem QlR (rw:List HV) (fr to:Int) (H:Heap) (H0:Heap) (g0:LD H 22 (.q 0) (.a rw)) (g1:∀kf,N≤kf→Qa Tp polK (kf+1) 46 [.a rw] H=some (.bool false,H0)): RT polK 23 (sn 6 B23) (e23 rw fr to Ud Ud Ud Ud Ud Ud Ud Ud Ud Ud Ud Ud Ud Ud Ud Ud Ud) H .ret (UK (.a rw) (.i fr) (.i to) (.q 0) (.q 1) (.imm .lit 1 []) (.i 0) (.i 2) Ud Ud Ud Ud Ud Ud Ud Ud Ud Ud Ud Ud Ud Ud Ud Ud Ud) H0 :=
 hx N 60 [jO 1 0 H g0,jC 1 1 g1]
theorem QlS (rw la:List HV) (n:Nat) (fr to:Int) (H:Heap) (l0:List HV) (H0:Heap) (H1:Heap) (H2:Heap) (g0:LD H 22 (.q 0) (.a rw)) (g1:LD H 3 (.q 1) (.i to)) (g2:IX 22 (.a rw) (.i to) (.vptr (.a l0))) (g3:∀kf,N≤kf→Qa Tp polK (kf+1) 52 [.a l0] H=some (.s 2 n,H0)) (g4:some (HV.ptr H0.length 0 0 1,H0++[Blk.arr 1 [HV.sl (H0.length+1) 0 0 none 0 1] true (H0.length+2),Blk.b []])=some (.q 3,H1)) (g5:ST H1 23 (.q 3) (.s 2 n) H2): RT polK 23 (sn 14 B23) (e23 rw fr to Ud Ud Ud Ud Ud Ud Ud Ud Ud Ud Ud Ud Ud Ud Ud Ud Ud) H .normal (e23 rw fr to (.q 3) Ud Ud Ud Ud Ud Ud Ud Ud Ud Ud Ud Ud Ud Ud Ud Ud) H2 :=
 hx N 60 [jO 3 0 H g0,jO 3 1 H g1,jO 3 2 H g2,jC 3 4 g3,jR 3 5 g4,jS 3 6 g5]
theorem QlT (rw la:List HV) (n:Nat) (fr to:Int) (H:Heap) (g0:LD H 22 (.q 0) (.a rw)): RT polK 23 (sn 60 B23) (e23 rw fr to (.q 3) Ud Ud Ud Ud Ud Ud Ud Ud Ud Ud Ud Ud Ud Ud Ud Ud) H .normal (e23 rw fr to (.q 3) Ud Ud Ud Ud Ud Ud Ud Ud (.i (rw.length:Int)) (.i 0) Ud Ud Ud Ud Ud Ud) H :=
 hx N 60 [jO 4 0 H g0]
theorem QlU (rw la:List HV) (n:Nat) (fr to:Int) (H:Heap) (i:Nat) (g0:(i:Int)<(n:Int)): RunsTo Tp polK 23 (sn 488 B23) (e23 rw fr to (.q 3) Ud Ud Ud Ud Ud Ud Ud Ud (.n n) (.n i) Ud Ud Ud Ud Ud Ud) H .normal [0,1,2,3,5,6,7,8,9,10,11,12,13,14,15,16,17,43,44,47,48,52,53,97,98,45] [(0,.a rw),(1,.i fr),(2,.i to),(3,.q 0),(5,.q 1),(6,.imm .lit 1 []),(7,.i 0),(8,.i 0),(9,.q 3),(10,Ud),(11,Ud),(12,Ud),(13,Ud),(14,Ud),(15,Ud),(16,Ud),(17,Ud),(43,.n n),(44,.n i),(47,Ud),(48,Ud),(52,Ud),(53,Ud),(97,Ud),(98,Ud),(45,.bool true)] H :=
 hx N 60 [jT 5 0 H g0]
theorem QlV (rw la:List HV) (n:Nat) (fr to:Int) (H:Heap) (i:Nat) (g0:¬((i:Int)<(n:Int))): RunsTo Tp polK 23 (sn 488 B23) (e23 rw fr to (.q 3) Ud Ud Ud Ud Ud Ud Ud Ud (.n n) (.n i) Ud Ud Ud Ud Ud Ud) H .normal [0,1,2,3,5,6,7,8,9,10,11,12,13,14,15,16,17,43,44,47,48,52,53,97,98,45] [(0,.a rw),(1,.i fr),(2,.i to),(3,.q 0),(5,.q 1),(6,.imm .lit 1 []),(7,.i 0),(8,.i 0),(9,.q 3),(10,Ud),(11,Ud),(12,Ud),(13,Ud),(14,Ud),(15,Ud),(16,Ud),(17,Ud),(43,.n n),(44,.n i),(47,Ud),(48,Ud),(52,Ud),(53,Ud),(97,Ud),(98,Ud),(45,.bool false)] H :=
 hx N 60 [jF 5 0 H g0]
theorem QfN (rw la:List HV) (n:Nat) (fr to:Int) (H:Heap) (i:Nat): RT polK 23 (sn 978 B23) [(0,.a rw),(1,.i fr),(2,.i to),(3,.q 0),(5,.q 1),(6,.imm .lit 1 []),(7,.i 0),(8,.i 0),(9,.q 3),(10,Ud),(11,Ud),(12,Ud),(13,Ud),(14,Ud),(15,Ud),(16,Ud),(17,Ud),(43,.n n),(44,.n i),(47,Ud),(48,Ud),(52,Ud),(53,Ud),(97,Ud),(98,Ud),(45,.bool true)] H .normal (e23 rw fr to (.q 3) Ud Ud Ud Ud Ud Ud Ud Ud (.n n) (.n i) Ud Ud Ud Ud Ud Ud) H :=
 hx N 60 []
theorem QfO (rw la:List HV) (n:Nat) (fr to:Int) (H:Heap) (i:Nat): RT polK 23 (sn 978 B23) [(0,.a rw),(1,.i fr),(2,.i to),(3,.q 0),(5,.q 1),(6,.imm .lit 1 []),(7,.i 0),(8,.i 0),(9,.q 3),(10,Ud),(11,Ud),(12,Ud),(13,Ud),(14,Ud),(15,Ud),(16,Ud),(17,Ud),(43,.n n),(44,.n i),(47,Ud),(48,Ud),(52,Ud),(53,Ud),(97,Ud),(98,Ud),(45,.bool false)] H (.exit 0) (e23 rw fr to (.q 3) Ud Ud Ud Ud Ud Ud Ud Ud (.n n) (.n i) Ud Ud Ud Ud Ud Ud) H :=
 hx N 60 []
theorem QlW (rw la:List HV) (n:Nat) (fr to:Int) (H:Heap) (i:Nat) (g0:LD H 22 (.q 0) (.a rw)): RT polK 23 (sn 7832 B23) (e23 rw fr to (.q 3) Ud Ud Ud Ud Ud Ud Ud Ud (.n n) (.n i) Ud Ud Ud Ud Ud Ud) H .normal (e23 rw fr to (.q 3) Ud Ud Ud Ud Ud Ud Ud Ud (.n n) (.n i) (.i (rw.length:Int)) (.i 0) Ud Ud Ud Ud) H :=
 hx N 60 [jO 6 0 H g0]
theorem QlX (rw la:List HV) (n:Nat) (fr to:Int) (H:Heap) (i:Nat) (j:Nat) (g0:(j:Int)<(n:Int)): RunsTo Tp polK 23 (sn 62664 B23) (e23 rw fr to (.q 3) Ud Ud Ud Ud Ud Ud Ud Ud (.n n) (.n i) (.n n) (.n j) Ud Ud Ud Ud) H .normal [0,1,2,3,5,6,7,8,9,10,11,12,13,14,15,16,17,43,44,47,48,52,53,97,98,49] [(0,.a rw),(1,.i fr),(2,.i to),(3,.q 0),(5,.q 1),(6,.imm .lit 1 []),(7,.i 0),(8,.i 0),(9,.q 3),(10,Ud),(11,Ud),(12,Ud),(13,Ud),(14,Ud),(15,Ud),(16,Ud),(17,Ud),(43,.n n),(44,.n i),(47,.n n),(48,.n j),(52,Ud),(53,Ud),(97,Ud),(98,Ud),(49,.bool true)] H :=
 hx N 60 [jT 7 0 H g0]
theorem QlY (rw la:List HV) (n:Nat) (fr to:Int) (H:Heap) (i:Nat) (j:Nat) (g0:¬((j:Int)<(n:Int))): RunsTo Tp polK 23 (sn 62664 B23) (e23 rw fr to (.q 3) Ud Ud Ud Ud Ud Ud Ud Ud (.n n) (.n i) (.n n) (.n j) Ud Ud Ud Ud) H .normal [0,1,2,3,5,6,7,8,9,10,11,12,13,14,15,16,17,43,44,47,48,52,53,97,98,49] [(0,.a rw),(1,.i fr),(2,.i to),(3,.q 0),(5,.q 1),(6,.imm .lit 1 []),(7,.i 0),(8,.i 0),(9,.q 3),(10,Ud),(11,Ud),(12,Ud),(13,Ud),(14,Ud),(15,Ud),(16,Ud),(17,Ud),(43,.n n),(44,.n i),(47,.n n),(48,.n j),(52,Ud),(53,Ud),(97,Ud),(98,Ud),(49,.bool false)] H :=
 hx N 60 [jF 7 0 H g0]
theorem QfP (rw la:List HV) (n:Nat) (fr to:Int) (H:Heap) (i:Nat) (j:Nat): RT polK 23 (sn 125330 B23) [(0,.a rw),(1,.i fr),(2,.i to),(3,.q 0),(5,.q 1),(6,.imm .lit 1 []),(7,.i 0),(8,.i 0),(9,.q 3),(10,Ud),(11,Ud),(12,Ud),(13,Ud),(14,Ud),(15,Ud),(16,Ud),(17,Ud),(43,.n n),(44,.n i),(47,.n n),(48,.n j),(52,Ud),(53,Ud),(97,Ud),(98,Ud),(49,.bool true)] H .normal (e23 rw fr to (.q 3) Ud Ud Ud Ud Ud Ud Ud Ud (.n n) (.n i) (.n n) (.n j) Ud Ud Ud Ud) H :=
 hx N 60 []
theorem QfQ (rw la:List HV) (n:Nat) (fr to:Int) (H:Heap) (i:Nat) (j:Nat): RT polK 23 (sn 125330 B23) [(0,.a rw),(1,.i fr),(2,.i to),(3,.q 0),(5,.q 1),(6,.imm .lit 1 []),(7,.i 0),(8,.i 0),(9,.q 3),(10,Ud),(11,Ud),(12,Ud),(13,Ud),(14,Ud),(15,Ud),(16,Ud),(17,Ud),(43,.n n),(44,.n i),(47,.n n),(48,.n j),(52,Ud),(53,Ud),(97,Ud),(98,Ud),(49,.bool false)] H (.exit 2) (e23 rw fr to (.q 3) Ud Ud Ud Ud Ud Ud Ud Ud (.n n) (.n i) (.n n) (.n j) Ud Ud Ud Ud) H :=
 hx N 60 []
theorem QlZ (rw la:List HV) (n:Nat) (fr to:Int) (H:Heap) (i:Nat) (j:Nat): RT polK 23 (sn 1002648 B23) (e23 rw fr to (.q 3) Ud Ud Ud Ud Ud Ud Ud Ud (.n n) (.n i) (.n n) (.n j) Ud Ud Ud Ud) H .normal (e23 rw fr to (.q 3) (.n j) Ud Ud Ud Ud Ud Ud Ud (.n n) (.n i) (.n n) (.n j) Ud Ud Ud Ud) H :=
 hx N 60 []
theorem Ql0 (rw la:List HV) (n:Nat) (fr to:Int) (H:Heap) (i:Nat) (j:Nat) (g0:LD H 22 (.q 0) (.a rw)): RT polK 23 (sn 2005298 B23) (e23 rw fr to (.q 3) (.n j) Ud Ud Ud Ud Ud Ud Ud (.n n) (.n i) (.n n) (.n j) Ud Ud Ud Ud) H .normal (e23 rw fr to (.q 3) (.n j) Ud Ud Ud Ud Ud Ud Ud (.n n) (.n i) (.n n) (.n j) (.i (rw.length:Int)) (.i 0) Ud Ud) H :=
 hx N 60 [jO 9 0 H g0]
theorem Ql1 (rw la:List HV) (n:Nat) (fr to:Int) (H:Heap) (i:Nat) (j:Nat) (k:Nat) (x0:Int) (l0:List HV) (x1:Int) (x2:Int) (H0:Heap) (g0:(k:Int)<(n:Int)) (g1:LD H 23 (.q 3) (.s 2 n)) (g2:LD H 23 (.q 3) (.s 2 n)) (g3:IS 23 2 n j) (g4:LD H 3 (.ptr 2 j 0 n) (.i x0)) (g5:LD H 22 (.q 0) (.a rw)) (g6:IX 22 (.a rw) (.n j) (.vptr (.a l0))) (g7:IX 23 (.a l0) (.n k) (.vptr (.i x1))) (g8:LD H 23 (.q 3) (.s 2 n)) (g9:IS 23 2 n k) (g10:LD H 3 (.ptr 2 k 0 n) (.i x2)) (g11:IS 23 2 n j) (g12:ST H 3 (.ptr 2 j 0 n) (.i (min x0 (qA.wrap (x1+x2)))) H0): RT polK 23 (sn 8021196 B23) (e23 rw fr to (.q 3) (.n j) Ud Ud Ud Ud Ud Ud Ud (.n n) (.n i) (.n n) (.n j) (.n n) (.n k) Ud Ud) H .normal (e23 rw fr to (.q 3) (.n j) (.n k) Ud Ud Ud Ud Ud Ud (.n n) (.n i) (.n n) (.n j) (.n n) (.i (qA.wrap ((k:Int)+1))) Ud Ud) H0 :=
 hx N 60 [jT 10 0 H g0,jO 12 0 H g1,jO 12 2 H g2,jO 12 4 H g3,jO 12 5 H g4,jO 12 6 H g5,jO 12 8 H g6,jO 12 11 H g7,jO 12 13 H g8,jO 12 15 H g9,jO 12 16 H g10,jO 12 19 H g11,jS 12 20 g12]
theorem Ql2 (rw la:List HV) (n:Nat) (fr to:Int) (H:Heap) (i:Nat) (j:Nat) (k:Nat) (g0:¬((k:Int)<(n:Int))): RT polK 23 (sn 8021196 B23) (e23 rw fr to (.q 3) (.n j) Ud Ud Ud Ud Ud Ud Ud (.n n) (.n i) (.n n) (.n j) (.n n) (.n k) Ud Ud) H (.exit 4) (e23 rw fr to (.q 3) (.n j) Ud Ud Ud Ud Ud Ud Ud (.n n) (.n i) (.n n) (.n j) (.n n) (.n k) Ud Ud) H :=
 hx N 60 [jF 10 0 H g0]
theorem Ql3 (rw la:List HV) (n:Nat) (fr to:Int) (H:Heap) (i:Nat) (j:Nat) (k:Nat): RT polK 23 (sn 250663 B23) (e23 rw fr to (.q 3) (.n j) Ud Ud Ud Ud Ud Ud Ud (.n n) (.n i) (.n n) (.n j) (.n n) (.n k) Ud Ud) H .normal (e23 rw fr to (.q 3) (.n j) Ud Ud Ud Ud Ud Ud Ud (.n n) (.n i) (.n n) (.i (qA.wrap ((j:Int)+1))) (.n n) (.n k) Ud Ud) H :=
 hx N 60 []
theorem Ql4 (rw la:List HV) (n:Nat) (fr to:Int) (H:Heap) (i:Nat) (j:Nat): RT polK 23 (sn 1959 B23) (e23 rw fr to (.q 3) Ud Ud Ud Ud Ud Ud Ud Ud (.n n) (.n i) (.n n) (.n j) Ud Ud Ud Ud) H .normal (e23 rw fr to (.q 3) Ud Ud Ud Ud Ud Ud Ud Ud (.n n) (.i (qA.wrap ((i:Int)+1))) (.n n) (.n j) Ud Ud Ud Ud) H :=
 hx N 60 []
theorem Ql5 (rw la:List HV) (n:Nat) (fr to:Int) (H:Heap) (i:Nat) (H0:Heap) (H1:Heap) (H2:Heap) (g0:some (HV.map H.length,H++[Blk.map [] [] 0])=some (.map 5,H0)) (g1:some (Wm (.nilmap) H0)=some (.q 6,H1)) (g2:ST H1 74 (.q 6) (.map 5) H2): RT polK 23 (sn 62 B23) (e23 rw fr to (.q 3) Ud Ud Ud Ud Ud Ud Ud Ud (.n n) (.n i) Ud Ud Ud Ud Ud Ud) H .normal (e23 rw fr to (.q 3) Ud Ud (.q 6) Ud Ud Ud Ud Ud (.n n) (.n i) Ud Ud Ud Ud Ud Ud) H2 :=
 hx N 60 [jR 16 0 g0,jR 16 1 g1,jS 16 2 g2]
theorem Ql6 (rw la:List HV) (n:Nat) (fr to:Int) (H:Heap) (i:Nat) (H0:Heap) (g0:some (Wm (.nilFunc) H)=some (.q 7,H0)): RT polK 23 (sn 126 B23) (e23 rw fr to (.q 3) Ud Ud (.q 6) Ud Ud Ud Ud Ud (.n n) (.n i) Ud Ud Ud Ud Ud Ud) H .normal (e23 rw fr to (.q 3) Ud Ud (.q 6) (.q 7) Ud Ud Ud Ud (.n n) (.n i) Ud Ud Ud Ud Ud Ud) H0 :=
 hx N 60 [jR 17 0 g0]
theorem Ql7 (rw la:List HV) (n:Nat) (fr to:Int) (H:Heap) (i:Nat) (H0:Heap) (g0:ST H 75 (.q 7) (.func 53 [] [.q 1,.q 6,.q 0,.q 3,.q 7]) H0): RT polK 23 (sn 254 B23) (e23 rw fr to (.q 3) Ud Ud (.q 6) (.q 7) Ud Ud Ud Ud (.n n) (.n i) Ud Ud Ud Ud Ud Ud) H .normal (e23 rw fr to (.q 3) Ud Ud (.q 6) (.q 7) Ud Ud Ud Ud (.n n) (.n i) Ud Ud Ud Ud Ud Ud) H0 :=
 hx N 60 [jS 18 1 g0]
theorem Ql8 (rw la:List HV) (n:Nat) (fr to:Int) (H:Heap) (i:Nat) (h0:Int) (h1:Int) (h2:Int) (H0:Heap) (H1:Heap) (g0:LD H 22 (.q 0) (.a rw)) (g1:BV .shl 3 (.i 1) (.i (rw.length:Int)) (.i h0)) (g2:BV .shl 3 (.i 1) (.i fr) (.i h1)) (g3:BV .andNot 3 (.i (qA.wrap (h0-1))) (.i h1) (.i h2)) (g4:some (Wm (.agg [.i 0,.i 0]) H)=some (.q 8,H0)) (g5:ST H0 77 (.q 8) (.agg [.i fr,.i h2]) H1) (gS19:(WI ((Qh Tp H 22 (.q 0)).map (fun v=>(v,(H:Heap)))) ((Qh Tp H0 22 (.q 0)).map (fun v=>(v,(H0:Heap)))) H H0&&((same (.i (rw.length:Int)) (.i (rw.length:Int))&&Qj (H:Heap) H&&Qj (H0:Heap) H0)&&true))=true): RT polK 23 (sn 510 B23) (e23 rw fr to (.q 3) Ud Ud (.q 6) (.q 7) Ud Ud Ud Ud (.n n) (.n i) Ud Ud Ud Ud Ud Ud) H .normal (e23 rw fr to (.q 3) Ud Ud (.q 6) (.q 7) (.q 8) Ud Ud Ud (.n n) (.n i) Ud Ud Ud Ud Ud Ud) H1 :=
 hx N 60 [jK gS19,jO 19 1 H g0,jO 19 3 H g1,jO 19 6 H g2,jO 19 7 H g3,jR 19 9 g4,jS 19 10 g5]
theorem Ql9 (rw la:List HV) (n:Nat) (fr to:Int) (H:Heap) (i:Nat) (tv:HV) (H0:Heap) (g0:YU Tp true true 23 1 [(0,.i fr)] H=some (tv,H0)): RT polK 23 (sn 1022 B23) (e23 rw fr to (.q 3) Ud Ud (.q 6) (.q 7) (.q 8) Ud Ud Ud (.n n) (.n i) Ud Ud Ud Ud Ud Ud) H .normal (e23 rw fr to (.q 3) Ud Ud (.q 6) (.q 7) (.q 8) tv Ud Ud (.n n) (.n i) Ud Ud Ud Ud Ud Ud) H0 :=
 hx N 60 [jR 20 1 g0]
theorem Qma (rw la:List HV) (n:Nat) (fr to:Int) (H:Heap) (tv:HV) (v w:Nat) (g0:LD H 3 (.q 8) (.n v)) (g1:LD H 3 (.q 1) (.i to)) (g2:(v:Int)=to): RT polK 23 (sn 16368 B23) (e23 rw fr to (.q 3) Ud Ud Ud (.q 7) (.q 8) tv Ud Ud Ud Ud Ud Ud Ud Ud Ud Ud) H (.exit 6) (e23 rw fr to (.q 3) Ud Ud Ud (.q 7) (.q 8) tv Ud Ud Ud Ud Ud Ud Ud Ud Ud Ud) H :=
 hx N 60 [jO 21 1 H g0,jO 21 2 H g1,jB 21 3 H (congrArg not (decide_eq_true g2))]
theorem Qmb (rw la:List HV) (n:Nat) (fr to:Int) (H:Heap) (tv:HV) (v w:Nat) (g0:LD H 3 (.q 8) (.n v)) (g1:LD H 3 (.q 1) (.i to)) (g2:¬((v:Int)=to)): RT polK 23 (sn 16368 B23) (e23 rw fr to (.q 3) Ud Ud Ud (.q 7) (.q 8) tv Ud Ud Ud Ud Ud Ud Ud Ud Ud Ud) H .normal (e23 rw fr to (.q 3) Ud Ud Ud (.q 7) (.q 8) tv Ud Ud Ud Ud Ud Ud Ud Ud Ud Ud) H :=
 hx N 60 [jO 21 1 H g0,jO 21 2 H g1,jB 21 3 H (congrArg not (decide_eq_false g2))]
theorem Qmc (rw la:List HV) (n:Nat) (fr to:Int) (H:Heap) (tv:HV) (v w:Nat) (g0:LD H 22 (.q 0) (.a rw)): RT polK 23 (sn 65476 B23) (e23 rw fr to (.q 3) Ud Ud Ud (.q 7) (.q 8) tv Ud Ud Ud Ud Ud Ud Ud Ud Ud Ud) H .normal (e23 rw fr to (.q 3) Ud Ud Ud (.q 7) (.q 8) tv Ud Ud Ud Ud Ud Ud Ud Ud (.i (rw.length:Int)) (.i 0)) H :=
 hx N 60 [jO 22 0 H g0]
theorem Qmd (rw la:List HV) (n:Nat) (fr to:Int) (H:Heap) (tv:HV) (v w:Nat) (i nb:Nat) (w2:Int) (h0:Int) (h1:Int) (H0:Heap) (H1:Heap) (g0:(i:Int)<(n:Int)) (g1:LD H 3 (.ptr 8 0 1 1) (.n w)) (g2:BV .shl 3 (.i 1) (.n i) (.i h0)) (g3:BV .andNot 3 (.n w) (.i h0) (.i h1)) (g4:some (Wm (.agg [.i 0,.i 0]) H)=some (.q nb,H0)) (g5:ST H0 77 (.q nb) (.agg [.n i,.i h1]) H1) (gS25:(WI ((Qh Tp H 3 (.ptr 8 0 1 1)).map (fun v=>(v,(H:Heap)))) ((Qh Tp H0 3 (.ptr 8 0 1 1)).map (fun v=>(v,(H0:Heap)))) H H0&&true)=true) (g7:LD H1 3 (.ptr 8 0 1 1) (.n w)) (g8:LD H1 3 (.ptr nb 0 1 1) (.i w2)) (g9:(w:Int)=w2): RT polK 23 (sn 261908 B23) (e23 rw fr to (.q 3) Ud Ud Ud (.q 7) (.q 8) tv Ud Ud Ud Ud Ud Ud Ud Ud (.n n) (.n i)) H .normal (e23 rw fr to (.q 3) Ud Ud Ud (.q 7) (.q 8) tv (.n i) (.q nb) Ud Ud Ud Ud Ud Ud (.n n) (.i (qA.wrap ((i:Int)+1)))) H1 :=
 hx N 60 [jT 23 0 H g0,jK gS25,jO 25 2 H g1,jO 25 4 H g2,jO 25 5 H g3,jR 25 7 g4,jS 25 8 g5,jO 26 1 H1 g7,jO 26 3 H1 g8,jB 26 4 H1 (congrArg not (decide_eq_true g9))]
theorem Qme (rw la:List HV) (n:Nat) (fr to:Int) (H:Heap) (tv:HV) (v w:Nat) (i nb:Nat) (w2:Int) (h0:Int) (h1:Int) (H0:Heap) (H1:Heap) (l0:List HV) (x0:Int) (x1:Int) (x2:Int) (H2:Heap) (H3:Heap) (H4:Heap) (v0:HV) (g0:(i:Int)<(n:Int)) (g1:LD H 3 (.ptr 8 0 1 1) (.n w)) (g2:BV .shl 3 (.i 1) (.n i) (.i h0)) (g3:BV .andNot 3 (.n w) (.i h0) (.i h1)) (g4:some (Wm (.agg [.i 0,.i 0]) H)=some (.q nb,H0)) (g5:ST H0 77 (.q nb) (.agg [.n i,.i h1]) H1) (gS25:(WI ((Qh Tp H 3 (.ptr 8 0 1 1)).map (fun v=>(v,(H:Heap)))) ((Qh Tp H0 3 (.ptr 8 0 1 1)).map (fun v=>(v,(H0:Heap)))) H H0&&true)=true) (g7:LD H1 3 (.ptr 8 0 1 1) (.n w)) (g8:LD H1 3 (.ptr nb 0 1 1) (.i w2)) (g9:¬((w:Int)=w2)) (g10:LD H1 22 (.q 0) (.a rw)) (g11:LD H1 3 (.q 8) (.n v)) (g12:IX 22 (.a rw) (.n v) (.vptr (.a l0))) (g13:IX 23 (.a l0) (.n i) (.vptr (.i x0))) (g14:LD H1 23 (.q 3) (.s 2 n)) (g15:IS 23 2 n i) (g16:LD H1 3 (.ptr 2 i 0 n) (.i x1)) (g17:LD H1 23 (.q 3) (.s 2 n)) (g18:LD H1 3 (.q 8) (.n v)) (g19:IS 23 2 n v) (g20:LD H1 3 (.ptr 2 v 0 n) (.i x2)) (g21:qA.wrap (x0+x1)=x2) (g22:LD H1 75 (.q 7) (.func 53 [] [.q 1,.q 6,.q 0,.q 3,.q 7])) (g23:LD H1 77 (.q nb) (.agg [.n i,.i w2])) (g24:∀kf,N≤kf→Qa Tp polK (kf+1) 53 [.agg [.n i,.i w2],.q 1,.q 6,.q 0,.q 3,.q 7] H1=some (.bool true,H2)) (g25:LD H2 77 (.q nb) (.agg [.n i,.i w2])) (g26:ST H2 77 (.q 8) (.agg [.n i,.i w2]) H3) (g27:WV H3 1 8 (tv) [.n i]=some (v0,H4)): RT polK 23 (sn 261908 B23) (e23 rw fr to (.q 3) Ud Ud Ud (.q 7) (.q 8) tv Ud Ud Ud Ud Ud Ud Ud Ud (.n n) (.n i)) H (.exit 8) (e23 rw fr to (.q 3) Ud Ud Ud (.q 7) (.q 8) v0 (.n i) (.q nb) Ud Ud Ud Ud Ud Ud (.n n) (.n i)) H4 :=
 hx N 60 [jT 23 0 H g0,jK gS25,jO 25 2 H g1,jO 25 4 H g2,jO 25 5 H g3,jR 25 7 g4,jS 25 8 g5,jO 26 1 H1 g7,jO 26 3 H1 g8,jB 26 4 H1 (congrArg not (decide_eq_false g9)),jO 26 6 H1 g10,jO 26 8 H1 g11,jO 26 9 H1 g12,jO 26 12 H1 g13,jO 26 14 H1 g14,jO 26 16 H1 g15,jO 26 17 H1 g16,jO 26 19 H1 g17,jO 26 21 H1 g18,jO 26 22 H1 g19,jO 26 23 H1 g20,jT 26 24 H1 g21,jO 26 27 H1 g22,jO 26 28 H1 g23,jC 26 29 g24,jO 27 0 H2 g25,jS 27 1 g26,jR 28 3 g27]
theorem Qmf (rw la:List HV) (n:Nat) (fr to:Int) (H:Heap) (tv:HV) (v w:Nat) (i nb:Nat) (w2:Int) (h0:Int) (h1:Int) (H0:Heap) (H1:Heap) (l0:List HV) (x0:Int) (x1:Int) (x2:Int) (H2:Heap) (g0:(i:Int)<(n:Int)) (g1:LD H 3 (.ptr 8 0 1 1) (.n w)) (g2:BV .shl 3 (.i 1) (.n i) (.i h0)) (g3:BV .andNot 3 (.n w) (.i h0) (.i h1)) (g4:some (Wm (.agg [.i 0,.i 0]) H)=some (.q nb,H0)) (g5:ST H0 77 (.q nb) (.agg [.n i,.i h1]) H1) (gS25:(WI ((Qh Tp H 3 (.ptr 8 0 1 1)).map (fun v=>(v,(H:Heap)))) ((Qh Tp H0 3 (.ptr 8 0 1 1)).map (fun v=>(v,(H0:Heap)))) H H0&&true)=true) (g7:LD H1 3 (.ptr 8 0 1 1) (.n w)) (g8:LD H1 3 (.ptr nb 0 1 1) (.i w2)) (g9:¬((w:Int)=w2)) (g10:LD H1 22 (.q 0) (.a rw)) (g11:LD H1 3 (.q 8) (.n v)) (g12:IX 22 (.a rw) (.n v) (.vptr (.a l0))) (g13:IX 23 (.a l0) (.n i) (.vptr (.i x0))) (g14:LD H1 23 (.q 3) (.s 2 n)) (g15:IS 23 2 n i) (g16:LD H1 3 (.ptr 2 i 0 n) (.i x1)) (g17:LD H1 23 (.q 3) (.s 2 n)) (g18:LD H1 3 (.q 8) (.n v)) (g19:IS 23 2 n v) (g20:LD H1 3 (.ptr 2 v 0 n) (.i x2)) (g21:qA.wrap (x0+x1)=x2) (g22:LD H1 75 (.q 7) (.func 53 [] [.q 1,.q 6,.q 0,.q 3,.q 7])) (g23:LD H1 77 (.q nb) (.agg [.n i,.i w2])) (g24:∀kf,N≤kf→Qa Tp polK (kf+1) 53 [.agg [.n i,.i w2],.q 1,.q 6,.q 0,.q 3,.q 7] H1=some (.bool false,H2)): RT polK 23 (sn 261908 B23) (e23 rw fr to (.q 3) Ud Ud Ud (.q 7) (.q 8) tv Ud Ud Ud Ud Ud Ud Ud Ud (.n n) (.n i)) H .normal (e23 rw fr to (.q 3) Ud Ud Ud (.q 7) (.q 8) tv (.n i) (.q nb) Ud Ud Ud Ud Ud Ud (.n n) (.i (qA.wrap ((i:Int)+1)))) H2 :=
 hx N 60 [jT 23 0 H g0,jK gS25,jO 25 2 H g1,jO 25 4 H g2,jO 25 5 H g3,jR 25 7 g4,jS 25 8 g5,jO 26 1 H1 g7,jO 26 3 H1 g8,jB 26 4 H1 (congrArg not (decide_eq_false g9)),jO 26 6 H1 g10,jO 26 8 H1 g11,jO 26 9 H1 g12,jO 26 12 H1 g13,jO 26 14 H1 g14,jO 26 16 H1 g15,jO 26 17 H1 g16,jO 26 19 H1 g17,jO 26 21 H1 g18,jO 26 22 H1 g19,jO 26 23 H1 g20,jT 26 24 H1 g21,jO 26 27 H1 g22,jO 26 28 H1 g23,jC 26 29 g24]
theorem Qmg (rw la:List HV) (n:Nat) (fr to:Int) (H:Heap) (tv:HV) (v w:Nat) (i nb:Nat) (w2:Int) (h0:Int) (h1:Int) (H0:Heap) (H1:Heap) (l0:List HV) (x0:Int) (x1:Int) (x2:Int) (g0:(i:Int)<(n:Int)) (g1:LD H 3 (.ptr 8 0 1 1) (.n w)) (g2:BV .shl 3 (.i 1) (.n i) (.i h0)) (g3:BV .andNot 3 (.n w) (.i h0) (.i h1)) (g4:some (Wm (.agg [.i 0,.i 0]) H)=some (.q nb,H0)) (g5:ST H0 77 (.q nb) (.agg [.n i,.i h1]) H1) (gS25:(WI ((Qh Tp H 3 (.ptr 8 0 1 1)).map (fun v=>(v,(H:Heap)))) ((Qh Tp H0 3 (.ptr 8 0 1 1)).map (fun v=>(v,(H0:Heap)))) H H0&&true)=true) (g7:LD H1 3 (.ptr 8 0 1 1) (.n w)) (g8:LD H1 3 (.ptr nb 0 1 1) (.i w2)) (g9:¬((w:Int)=w2)) (g10:LD H1 22 (.q 0) (.a rw)) (g11:LD H1 3 (.q 8) (.n v)) (g12:IX 22 (.a rw) (.n v) (.vptr (.a l0))) (g13:IX 23 (.a l0) (.n i) (.vptr (.i x0))) (g14:LD H1 23 (.q 3) (.s 2 n)) (g15:IS 23 2 n i) (g16:LD H1 3 (.ptr 2 i 0 n) (.i x1)) (g17:LD H1 23 (.q 3) (.s 2 n)) (g18:LD H1 3 (.q 8) (.n v)) (g19:IS 23 2 n v) (g20:LD H1 3 (.ptr 2 v 0 n) (.i x2)) (g21:¬(qA.wrap (x0+x1)=x2)): RT polK 23 (sn 261908 B23) (e23 rw fr to (.q 3) Ud Ud Ud (.q 7) (.q 8) tv Ud Ud Ud Ud Ud Ud Ud Ud (.n n) (.n i)) H .normal (e23 rw fr to (.q 3) Ud Ud Ud (.q 7) (.q 8) tv (.n i) (.q nb) Ud Ud Ud Ud Ud Ud (.n n) (.i (qA.wrap ((i:Int)+1)))) H1 :=
 hx N 60 [jT 23 0 H g0,jK gS25,jO 25 2 H g1,jO 25 4 H g2,jO 25 5 H g3,jR 25 7 g4,jS 25 8 g5,jO 26 1 H1 g7,jO 26 3 H1 g8,jB 26 4 H1 (congrArg not (decide_eq_false g9)),jO 26 6 H1 g10,jO 26 8 H1 g11,jO 26 9 H1 g12,jO 26 12 H1 g13,jO 26 14 H1 g14,jO 26 16 H1 g15,jO 26 17 H1 g16,jO 26 19 H1 g17,jO 26 21 H1 g18,jO 26 22 H1 g19,jO 26 23 H1 g20,jF 26 24 H1 g21]
theorem Qmh (rw la:List HV) (n:Nat) (fr to:Int) (H:Heap) (tv:HV) (v w:Nat) (y16 y17 y97 y98:HV) (x0:Int) (g0:LD H 23 (.q 3) (.s 2 n)) (g1:IX 23 (.s 2 n) (.i fr) (.ptr 2 ((fr).toNat) 0 n)) (g2:LD H 3 (.ptr 2 ((fr).toNat) 0 n) (.i x0)): RT polK 23 (sn 2047 B23) (e23 rw fr to (.q 3) Ud Ud Ud (.q 7) (.q 8) tv y16 y17 Ud Ud Ud Ud Ud Ud y97 y98) H .ret (UK (.a rw) (.i fr) (.i to) (.q 0) (.q 1) tv (.i x0) (.i 0) (.q 3) Ud Ud Ud (.q 7) (.q 8) tv y16 y17 Ud Ud Ud Ud Ud Ud y97 y98) H :=
 hx N 60 [jO 30 1 H g0,jO 30 3 H g1,jO 30 4 H g2]
end
noncomputable def B53:Code:=Try.f53.body.getD .skip
abbrev Qav (v0 v1 v2 v3 v4 v5 v6 v7 v9 v10 v26 v27:HV):Env:=[(0,v0),(1,v1),(2,v2),(3,v3),(4,v4),(5,v5),(6,v6),(7,v7),(9,v9),(10,v10),(26,v26),(27,v27)]
abbrev e53 (v:Nat) (w:Nat) (kb:Nat) (u8 u9 u10 u11:HV):Env:=Qav (.agg [.n v,.n w]) (.q 1) (.q 6) (.q 0) (.q 3) (.q 7) (.q kb) (.bool false) u8 u9 u10 u11
section
variable (N:Nat) (rw:List HV) (n v w to kb:Nat) (H:Heap)
include N rw n v w to kb H
theorem Qmi (H0:Heap) (g0:some (Wm (.agg [.n v,.n w]) H)=some (.q kb,H0)): RT polK 53 (sn 2 B53) [(0,.agg [.n v,.n w]),(1,.q 1),(2,.q 6),(3,.q 0),(4,.q 3),(5,.q 7)] H .normal (e53 v w kb Ud Ud Ud Ud) H0 :=
 hx N 60 [jR 0 0 g0]
end
section
variable (N:Nat) (rw:List HV) (n v w to kb:Nat) (H:Heap)
include N rw n v w to kb H
theorem Qmj (g0:LD H 3 (.q kb) (.n v)) (g1:LD H 3 (.q 1) (.n to)) (g2:(v:Int)=(to:Int)): RT polK 53 (sn 6 B53) (e53 v w kb Ud Ud Ud Ud) H .ret (Qav (.agg [.n v,.n w]) (.q 1) (.q 6) (.q 0) (.q 3) (.q 7) (.q kb) (.bool true) Ud Ud Ud Ud) H :=
 hx N 60 [jO 1 1 H g0,jO 1 2 H g1,jT 1 3 H g2]
theorem Qmk (g0:LD H 3 (.q kb) (.n v)) (g1:LD H 3 (.q 1) (.n to)) (g2:¬((v:Int)=(to:Int))): RT polK 53 (sn 6 B53) (e53 v w kb Ud Ud Ud Ud) H .normal (e53 v w kb Ud Ud Ud Ud) H :=
 hx N 60 [jO 1 1 H g0,jO 1 2 H g1,jF 1 3 H g2]
theorem Qml (g0:LD H 74 (.q 6) (.map 5)) (g1:LD H 77 (.q kb) (.agg [.n v,.n w])) (g2:lkG Tp 74 H 5 (.agg [.n v,.n w]) true=some (.tuple [.bool true,.bool true],H)): RT polK 53 (sn 28 B53) (e53 v w kb Ud Ud Ud Ud) H .normal (e53 v w kb (.bool true) Ud Ud Ud) H :=
 hx N 60 [jO 3 0 H g0,jO 3 1 H g1,jR 3 2 g2]
theorem Qmm (g0:LD H 74 (.q 6) (.map 5)) (g1:LD H 77 (.q kb) (.agg [.n v,.n w])) (g2:lkG Tp 74 H 5 (.agg [.n v,.n w]) true=some (.tuple [.bool false,.bool true],H)): RT polK 53 (sn 28 B53) (e53 v w kb Ud Ud Ud Ud) H .normal (e53 v w kb (.bool true) Ud Ud Ud) H :=
 hx N 60 [jO 3 0 H g0,jO 3 1 H g1,jR 3 2 g2]
theorem Qmn (g0:LD H 74 (.q 6) (.map 5)) (g1:LD H 77 (.q kb) (.agg [.n v,.n w])) (g2:lkG Tp 74 H 5 (.agg [.n v,.n w]) true=some (.tuple [.bool false,.bool false],H)): RT polK 53 (sn 28 B53) (e53 v w kb Ud Ud Ud Ud) H .normal (e53 v w kb (.bool false) Ud Ud Ud) H :=
 hx N 60 [jO 3 0 H g0,jO 3 1 H g1,jR 3 2 g2]
theorem QfR:RunsTo Tp polK 53 (sn 58 B53) (e53 v w kb (.bool true) Ud Ud Ud) H .normal [0,1,2,3,4,5,6,7,9,10,26,27,22] [(0,.agg [.n v,.n w]),(1,.q 1),(2,.q 6),(3,.q 0),(4,.q 3),(5,.q 7),(6,.q kb),(7,.bool false),(9,.bool true),(10,Ud),(26,Ud),(27,Ud),(22,.bool false)] H :=
 hx N 60 []
theorem QfS:RunsTo Tp polK 53 (sn 58 B53) (e53 v w kb (.bool false) Ud Ud Ud) H .normal [0,1,2,3,4,5,6,7,9,10,26,27,22] [(0,.agg [.n v,.n w]),(1,.q 1),(2,.q 6),(3,.q 0),(4,.q 3),(5,.q 7),(6,.q kb),(7,.bool false),(9,.bool false),(10,Ud),(26,Ud),(27,Ud),(22,.bool true)] H :=
 hx N 60 []
theorem Qmo (H0:Heap) (g0:LD H 74 (.q 6) (.map 5)) (g1:LD H 77 (.q kb) (.agg [.n v,.n w])) (g2:VA Tp false 74 (.map 5) (.agg [.n v,.n w]) (.bool false) H=some H0): RT polK 53 (sn 236 B53) (e53 v w kb (.bool false) Ud Ud Ud) H .normal (e53 v w kb (.bool false) Ud Ud Ud) H0 :=
 hx N 60 [jO 5 0 H g0,jO 5 1 H g1,jS 5 2 g2]
theorem Qmp (g0:LD H 22 (.q 0) (.a rw)): RT polK 53 (sn 474 B53) (e53 v w kb (.bool false) Ud Ud Ud) H .normal (e53 v w kb (.bool false) Ud (.i (rw.length:Int)) (.i 0)) H :=
 hx N 60 [jO 6 0 H g0]
theorem Qmq (i:Nat) (h0:Int) (h1:Int) (l0:List HV) (x0:Int) (x1:Int) (x2:Int) (h2:Int) (h3:Int) (H0:Heap) (H1:Heap) (g0:(i:Int)<(n:Int)) (g1:LD H 3 (.ptr kb 0 1 1) (.n w)) (g2:BV .shr 3 (.n w) (.n i) (.i h0)) (g3:BV .and 3 (.i h0) (.i 1) (.i h1)) (g4:h1=1) (g5:LD H 22 (.q 0) (.a rw)) (g6:LD H 3 (.q kb) (.n v)) (g7:IX 22 (.a rw) (.n v) (.vptr (.a l0))) (g8:IX 23 (.a l0) (.n i) (.vptr (.i x0))) (g9:LD H 23 (.q 3) (.s 2 n)) (g10:IS 23 2 n i) (g11:LD H 3 (.ptr 2 i 0 n) (.i x1)) (g12:LD H 23 (.q 3) (.s 2 n)) (g13:LD H 3 (.q kb) (.n v)) (g14:IS 23 2 n v) (g15:LD H 3 (.ptr 2 v 0 n) (.i x2)) (g16:qA.wrap (x0+x1)=x2) (g17:LD H 75 (.q 7) (.func 53 [] [.q 1,.q 6,.q 0,.q 3,.q 7])) (g18:LD H 3 (.ptr kb 0 1 1) (.n w)) (g19:BV .shl 3 (.i 1) (.n i) (.i h2)) (g20:BV .andNot 3 (.n w) (.i h2) (.i h3)) (g21:∀kf,N≤kf→Qa Tp polK (kf+1) 53 [.agg [.n i,.i h3],.q 1,.q 6,.q 0,.q 3,.q 7] H=some (.bool true,H0)) (g22:LD H0 74 (.q 6) (.map 5)) (g23:LD H0 77 (.q kb) (.agg [.n v,.n w])) (g24:VA Tp false 74 (.map 5) (.agg [.n v,.n w]) (.bool true) H0=some H1): RT polK 53 (sn 1900 B53) (e53 v w kb Ud Ud (.n n) (.n i)) H .normal (e53 v w kb Ud (.n i) (.n n) (.i (qA.wrap ((i:Int)+1)))) H1 :=
 hx N 60 [jT 7 0 H g0,jO 9 1 H g1,jO 9 3 H g2,jO 9 4 H g3,jT 9 5 H g4,jO 9 7 H g5,jO 9 9 H g6,jO 9 10 H g7,jO 9 13 H g8,jO 9 15 H g9,jO 9 17 H g10,jO 9 18 H g11,jO 9 20 H g12,jO 9 22 H g13,jO 9 23 H g14,jO 9 24 H g15,jT 9 25 H g16,jO 9 28 H g17,jO 9 31 H g18,jO 9 33 H g19,jO 9 34 H g20,jC 9 36 g21,jO 10 0 H0 g22,jO 10 1 H0 g23,jS 10 2 g24]
theorem Qmr (i:Nat) (h0:Int) (h1:Int) (l0:List HV) (x0:Int) (x1:Int) (x2:Int) (h2:Int) (h3:Int) (H0:Heap) (g0:(i:Int)<(n:Int)) (g1:LD H 3 (.ptr kb 0 1 1) (.n w)) (g2:BV .shr 3 (.n w) (.n i) (.i h0)) (g3:BV .and 3 (.i h0) (.i 1) (.i h1)) (g4:h1=1) (g5:LD H 22 (.q 0) (.a rw)) (g6:LD H 3 (.q kb) (.n v)) (g7:IX 22 (.a rw) (.n v) (.vptr (.a l0))) (g8:IX 23 (.a l0) (.n i) (.vptr (.i x0))) (g9:LD H 23 (.q 3) (.s 2 n)) (g10:IS 23 2 n i) (g11:LD H 3 (.ptr 2 i 0 n) (.i x1)) (g12:LD H 23 (.q 3) (.s 2 n)) (g13:LD H 3 (.q kb) (.n v)) (g14:IS 23 2 n v) (g15:LD H 3 (.ptr 2 v 0 n) (.i x2)) (g16:qA.wrap (x0+x1)=x2) (g17:LD H 75 (.q 7) (.func 53 [] [.q 1,.q 6,.q 0,.q 3,.q 7])) (g18:LD H 3 (.ptr kb 0 1 1) (.n w)) (g19:BV .shl 3 (.i 1) (.n i) (.i h2)) (g20:BV .andNot 3 (.n w) (.i h2) (.i h3)) (g21:∀kf,N≤kf→Qa Tp polK (kf+1) 53 [.agg [.n i,.i h3],.q 1,.q 6,.q 0,.q 3,.q 7] H=some (.bool false,H0)): RT polK 53 (sn 1900 B53) (e53 v w kb Ud Ud (.n n) (.n i)) H .normal (e53 v w kb Ud (.n i) (.n n) (.i (qA.wrap ((i:Int)+1)))) H0 :=
 hx N 60 [jT 7 0 H g0,jO 9 1 H g1,jO 9 3 H g2,jO 9 4 H g3,jT 9 5 H g4,jO 9 7 H g5,jO 9 9 H g6,jO 9 10 H g7,jO 9 13 H g8,jO 9 15 H g9,jO 9 17 H g10,jO 9 18 H g11,jO 9 20 H g12,jO 9 22 H g13,jO 9 23 H g14,jO 9 24 H g15,jT 9 25 H g16,jO 9 28 H g17,jO 9 31 H g18,jO 9 33 H g19,jO 9 34 H g20,jC 9 36 g21]
theorem Qms (i:Nat) (h0:Int) (h1:Int) (l0:List HV) (x0:Int) (x1:Int) (x2:Int) (g0:(i:Int)<(n:Int)) (g1:LD H 3 (.ptr kb 0 1 1) (.n w)) (g2:BV .shr 3 (.n w) (.n i) (.i h0)) (g3:BV .and 3 (.i h0) (.i 1) (.i h1)) (g4:h1=1) (g5:LD H 22 (.q 0) (.a rw)) (g6:LD H 3 (.q kb) (.n v)) (g7:IX 22 (.a rw) (.n v) (.vptr (.a l0))) (g8:IX 23 (.a l0) (.n i) (.vptr (.i x0))) (g9:LD H 23 (.q 3) (.s 2 n)) (g10:IS 23 2 n i) (g11:LD H 3 (.ptr 2 i 0 n) (.i x1)) (g12:LD H 23 (.q 3) (.s 2 n)) (g13:LD H 3 (.q kb) (.n v)) (g14:IS 23 2 n v) (g15:LD H 3 (.ptr 2 v 0 n) (.i x2)) (g16:¬(qA.wrap (x0+x1)=x2)): RT polK 53 (sn 1900 B53) (e53 v w kb Ud Ud (.n n) (.n i)) H .normal (e53 v w kb Ud (.n i) (.n n) (.i (qA.wrap ((i:Int)+1)))) H :=
 hx N 60 [jT 7 0 H g0,jO 9 1 H g1,jO 9 3 H g2,jO 9 4 H g3,jT 9 5 H g4,jO 9 7 H g5,jO 9 9 H g6,jO 9 10 H g7,jO 9 13 H g8,jO 9 15 H g9,jO 9 17 H g10,jO 9 18 H g11,jO 9 20 H g12,jO 9 22 H g13,jO 9 23 H g14,jO 9 24 H g15,jF 9 25 H g16]
theorem Qmt (i:Nat) (h0:Int) (h1:Int) (g0:(i:Int)<(n:Int)) (g1:LD H 3 (.ptr kb 0 1 1) (.n w)) (g2:BV .shr 3 (.n w) (.n i) (.i h0)) (g3:BV .and 3 (.i h0) (.i 1) (.i h1)) (g4:¬(h1=1)): RT polK 53 (sn 1900 B53) (e53 v w kb Ud Ud (.n n) (.n i)) H .normal (e53 v w kb Ud (.n i) (.n n) (.i (qA.wrap ((i:Int)+1)))) H :=
 hx N 60 [jT 7 0 H g0,jO 9 1 H g1,jO 9 3 H g2,jO 9 4 H g3,jF 9 5 H g4]
theorem Qmu (i:Nat) (g0:¬((i:Int)<(n:Int))): RT polK 53 (sn 1900 B53) (e53 v w kb Ud Ud (.n n) (.n i)) H (.exit 0) (e53 v w kb Ud Ud (.n n) (.n i)) H :=
 hx N 60 [jF 7 0 H g0]
theorem Qmv (y9 y10 y26 y27:HV) (g0:LD H 74 (.q 6) (.map 5)) (g1:LD H 77 (.q kb) (.agg [.n v,.n w])) (g2:lkG Tp 74 H 5 (.agg [.n v,.n w]) false=some (.bool true,H)): RT polK 53 (sn 15 B53) (e53 v w kb y9 y10 y26 y27) H .ret (Qav (.agg [.n v,.n w]) (.q 1) (.q 6) (.q 0) (.q 3) (.q 7) (.q kb) (.bool true) y9 y10 y26 y27) H :=
 hx N 60 [jO 12 0 H g0,jO 12 1 H g1,jR 12 2 g2]
theorem Qmw (y9 y10 y26 y27:HV) (g0:LD H 74 (.q 6) (.map 5)) (g1:LD H 77 (.q kb) (.agg [.n v,.n w])) (g2:lkG Tp 74 H 5 (.agg [.n v,.n w]) false=some (.bool false,H)): RT polK 53 (sn 15 B53) (e53 v w kb y9 y10 y26 y27) H .ret (e53 v w kb y9 y10 y26 y27) H :=
 hx N 60 [jO 12 0 H g0,jO 12 1 H g1,jR 12 2 g2]
end
end Go.Proofs.Ytlendaofkmhgmaa
end
section
open Go Go.HL
namespace Go.Proofs.Ytlendaofkmhgmaa
set_option linter.unusedSectionVars false
open Go.Proofs.Try renaming prog → Tp
open Go.HL.HV renaming undef → Ud
theorem Qon:Try.f53.results.toList=[.tmp 7]:=by kernel_rfl
abbrev ClK (g:FuncId) (args:List HV) (H:Heap) (r:HV) (H':Heap):Prop:=CallsTo (P:=Tp) (pol:=polK) g args H r H'
abbrev SE (v w:Nat):List HV:=[.agg [.int .i64 (v:Int),.int .i64 (w:Int)],.ptr 1 0 0 1,.ptr 6 0 0 1,.ptr 0 0 0 1,.ptr 3 0 0 1,.ptr 7 0 0 1]
def Good (d:List (List Int)) (fa:List Int) (to:Nat) (ks:List (Int×Int)) (g:Int×Int→Bool) (B:Nat):Prop:=∀q,q∈ks→q.2<(B:Int)→g q=ldT d fa to q.1.toNat q.2.toNat
def Kept (ks ks':List (Int×Int)) (g g':Int×Int→Bool) (w:Nat):Prop:=∀q:Int×Int,(w:Int)<q.2→(q∈ks'↔q∈ks)∧g' q=g q
def QfT (d:List (List Int)) (fa:List Int) (to v w:Nat):Prop:=∀ks g H,WM d fa to ks g H→Good d fa to ks g (w+1)→∃ks' g' H',ClK 53 (SE v w) H (.bool (ldT d fa to v w)) H'∧WM d fa to ks' g' H'∧Good d fa to ks' g' (w+1)∧Kept ks ks' g g' w∧FrW H H'
section
variable {d:List (List Int)} {fa:List Int} {to:Nat}
abbrev ldE (v w kb:Nat) (y9 y10 y26 y27:HV):Env:=Qav (.agg [.int .i64 (v:Int),.int .i64 (w:Int)]) (.ptr 1 0 0 1) (.ptr 6 0 0 1) (.ptr 0 0 0 1) (.ptr 3 0 0 1) (.ptr 7 0 0 1) (.ptr kb 0 0 1) (.bool false) y9 y10 y26 y27
theorem QfU (hd:okD d) (hf:BdA d.length fa) {v w kb:Nat} (hv:v<d.length) (hw:w<2 ^ d.length) (hR:∀u,w.testBit u=true→QfT d fa to u (wo w u)) (hkb:8≤kb) :
  ∀k i ks g H,i+k=d.length→WM d fa to ks g H→H[kb]?=some (Qz v w)→((v:Int),(w:Int))∈ks→Good d fa to ks g w →
  ∃ks' g' H',RT polK 53 (sn 950 B53) (ldE v w kb Ud Ud (.int .i64 (d.length:Int)) (.int .i64 (i:Int))) H (.exit 0) (ldE v w kb Ud Ud (.int .i64 (d.length:Int)) (.int .i64 (d.length:Int))) H' ∧
   WM d fa to ks' g' H'∧((v:Int),(w:Int))∈ks'∧g' ((v:Int),(w:Int))=(g ((v:Int),(w:Int))||Va (fun u=>w.testBit u&&KD d fa v u&&ldT d fa to u (wo w u)) k i)∧Good d fa to ks' g' w ∧
   (∀q:Int×Int,(w:Int)≤q.2→q≠((v:Int),(w:Int))→(q∈ks'↔q∈ks)∧g' q=g q)∧FrW H H':=by
 have hp:=ZZ hd.1.2
 have hn:=hd.1.2
 intro k
 induction k with
 | zero =>
  intro i ks g H hi hM hK hin hG
  have hi:i=d.length:=by omega
  subst hi
  exact ⟨ks,g,H,lpo (Qmu 0 (d.map Qb) d.length v w to kb H d.length (by omega)),hM,hin,by simp [Va],hG,fun q _ _=>⟨Iff.rfl,rfl⟩,FrW.refl _⟩
 | succ k ih =>
  intro i ks g H hi hM hK hin hG
  rw [Va]
  have bs:=Sl (L:=w) (v:=i) (by omega)
  have ba:=Sk (L:=w) (v:=i) (by omega) (by omega)
  by_cases c:w.testBit i=true
  ·rw [if_pos c] at ba
   have b1:=hd.at hv (j:=i) (by omega)
   have b2:=hf.2 i (by omega)
   have hwr:qA.wrap (at2 d v i+fa.getD i 0)=at2 d v i+fa.getD i 0:=Qn (by omega) (by omega)
   by_cases c2:at2 d v i+fa.getD i 0=fa.getD v 0
   ·have hti:KD d fa v i=true:=decide_eq_true c2
    have hwl:=ZC c
    obtain ⟨ks1,g1,H1,hcl,hM1,hG1,hK1,hF1⟩:=hR i c ks g H hM (fun q hq hq2=>hG q hq (by omega))
    obtain ⟨N,hN⟩:=CallsTo.from hcl
    have bl:=V3 (v:=i) (by omega)
    have bn:=Xy (L:=w) (v:=i) (by omega) (by omega)
    have hK2:H1[kb]?=some (Qz v w):=by rw [hF1.same _ (by omega)];exact hK
    have kh:=hK1 ((v:Int),(w:Int)) (by show ((wo w i:Nat):Int)<(w:Int);omega)
    have hG1':Good d fa to ks1 g1 w:=fun q hq hq2=>by
     by_cases e:q.2<((wo w i+1:Nat):Int)
     ·exact hG1 q hq e
     ·have:=hK1 q (by omega)
      rw [this.2]
      exact hG q (this.1.1 hq) hq2
    have hkeep:∀q:Int×Int,(w:Int)≤q.2→(q∈ks1↔q∈ks)∧g1 q=g q:=fun q hq=>hK1 q (by omega)
    cases hb:ldT d fa to i (wo w i) with
    | true =>
     rw [hb] at hN
     obtain ⟨ks2,H2,hu,hM2,hF2,hin2⟩:=hM1.upd ((v:Int),(w:Int)) true
     have s:=Qmq N (d.map Qb) d.length v w to kb H i _ _ _ _ _ _ _ _ H1 H2 (by omega) (QU hK) bs ba rfl hM.l0 (Zb hK) (XE hv) (XF hd hv (by omega)) hM.l3 (ixF (by omega)) (hM.l2 hf.1 (by omega)) hM.l3 (Zb hK) (ixF hv) (hM.l2 hf.1 hv) (by rw [hwr];exact c2) hM.l6 (QU hK) bl bn hN hM1.l5 (Kt hK2) hu
     rw [Qc (by omega)] at s
     obtain ⟨ks',g',H',r,q1,q2,q3,q4,q5,q6⟩:=ih (i+1) ks2 _ H2 (by omega) hM2 (by rw [hF2.same _ (by omega)];exact hK2) ((hin2 _).2 (.inr rfl)) (fun q hq hq2=>by
      have hne:q≠((v:Int),(w:Int)):=fun e=>by subst e;exact absurd hq2 (jY _)
      have:put g1 ((v:Int),(w:Int)) true q=g1 q:=if_neg hne
      rw [this]
      exact hG1' q (((hin2 q).1 hq).resolve_right hne) hq2)
     have hp:put g1 ((v:Int),(w:Int)) true ((v:Int),(w:Int))=true:=if_pos rfl
     rw [hp] at q3
     refine ⟨ks',g',H',lop s (WN _ (hF2.len.trans hF1.len)) r,q1,q2,?_,q4,fun q hq hne=>?_,hF1.trans (hF2.trans q6)⟩
     ·rw [q3];simp [c,hti,hb]
     ·have h1:=q5 q hq hne
      have h2:put g1 ((v:Int),(w:Int)) true q=g1 q:=if_neg hne
      rw [h2] at h1
      have h3:=hkeep q hq
      refine ⟨⟨fun h=>?_,fun h=>?_⟩,h1.2.trans h3.2⟩
      ·exact h3.1.1 (((hin2 q).1 (h1.1.1 h)).resolve_right hne)
      ·exact h1.1.2 ((hin2 q).2 (.inl (h3.1.2 h)))
    | false =>
     rw [hb] at hN
     have s:=Qmr N (d.map Qb) d.length v w to kb H i _ _ _ _ _ _ _ _ H1 (by omega) (QU hK) bs ba rfl hM.l0 (Zb hK) (XE hv) (XF hd hv (by omega)) hM.l3 (ixF (by omega)) (hM.l2 hf.1 (by omega)) hM.l3 (Zb hK) (ixF hv) (hM.l2 hf.1 hv) (by rw [hwr];exact c2) hM.l6 (QU hK) bl bn hN
     rw [Qc (by omega)] at s
     obtain ⟨ks',g',H',r,q1,q2,q3,q4,q5,q6⟩:=ih (i+1) ks1 g1 H1 (by omega) hM1 hK2 (kh.1.2 hin) hG1'
     refine ⟨ks',g',H',lop s (WN _ hF1.len) r,q1,q2,?_,q4,fun q hq hne=>?_,hF1.trans q6⟩
     ·rw [q3,kh.2];simp [hb]
     ·have h1:=q5 q hq hne
      have h3:=hkeep q hq
      exact ⟨h1.1.trans h3.1,h1.2.trans h3.2⟩
   ·have hti:KD d fa v i=false:=decide_eq_false c2
    have s:=Qms 0 (d.map Qb) d.length v w to kb H i _ _ _ _ _ _ (by omega) (QU hK) bs ba rfl hM.l0 (Zb hK) (XE hv) (XF hd hv (by omega)) hM.l3 (ixF (by omega)) (hM.l2 hf.1 (by omega)) hM.l3 (Zb hK) (ixF hv) (hM.l2 hf.1 hv) (by rw [hwr];exact c2)
    rw [Qc (by omega)] at s
    obtain ⟨ks',g',H',r,q1,q2,q3,q4,q5,q6⟩:=ih (i+1) ks g H (by omega) hM hK hin hG
    refine ⟨ks',g',H',lop s (WN _ rfl) r,q1,q2,?_,q4,q5,q6⟩
    rw [q3];simp [hti]
  ·rw [if_neg c] at ba
   have s:=Qmt 0 (d.map Qb) d.length v w to kb H i _ _ (by omega) (QU hK) bs ba (by omega)
   rw [Qc (by omega)] at s
   obtain ⟨ks',g',H',r,q1,q2,q3,q4,q5,q6⟩:=ih (i+1) ks g H (by omega) hM hK hin hG
   refine ⟨ks',g',H',lop s (WN _ rfl) r,q1,q2,?_,q4,q5,q6⟩
   rw [q3];simp [Jy c]
theorem Qaw (hd:okD d) (hf:BdA d.length fa) {v w:Nat} (hv:v<d.length) (hw:w<2 ^ d.length) (hR:∀u,w.testBit u=true→QfT d fa to u (wo w u)):QfT d fa to v w:=by
 intro ks g H hM hG
 have h7:=hM.seven
 have a:=Qmi 0 (d.map Qb) d.length v w to H.length H _ (by rw [show (HV.agg [.int .i64 (v:Int),.int .i64 (w:Int)])=Q5 ((v:Int),(w:Int)) from rfl,Dk])
 have hMa:WM d fa to ks g (H++[Qz v w]):=hM.app (Za _ _) (qS _)
 have hla:(H++[Qz (v:Int) w]).length=H.length+1:=by simp
 have hlow:∀j,j<H.length→(H++[Qz (v:Int) w])[j]?=H[j]?:=fun j hj=>qP hj
 have gK:(H++[Qz (v:Int) w])[H.length]?=some (Qz v w):=by
  rw [qO (qJ _)];simp
 generalize H++[Qz (v:Int) w]=Ha at a hMa hla hlow gK
 have done:∀(E:Env) (Hd:Heap) ks' g',RT polK 53 (sn 3 B53) (ldE v w H.length Ud Ud Ud Ud) Ha .ret E Hd→E.get 7=.bool (ldT d fa to v w)→WM d fa to ks' g' Hd→Good d fa to ks' g' (w+1)→Kept ks ks' g g' w→FrW Ha Hd →
   ∃ks' g' H',ClK 53 (SE v w) H (.bool (ldT d fa to v w)) H'∧WM d fa to ks' g' H'∧Good d fa to ks' g' (w+1)∧Kept ks ks' g g' w∧FrW H H':=by
  intro E Hd ks' g' t h7' hMd hGd hKd hFd
  have t2:=sq a t (c:=B53)
  have hc:=CallsTo.shared (P:=Tp) (pol:=polK) (g:=53) (fn:=Try.f53) (cd:=B53) (args:=SE v w) (v:=.bool (ldT d fa to v w)) (by kernel_rfl) (by kernel_rfl) (by kernel_rfl) (by kernel_rfl) t2 (by kernel_rfl) (by simp) (by simp only [Qf,Qon,mapO,Q3,h7'])
  rw [hMd.gc h7] at hc
  have e:max H.length (bnd (.bool (ldT d fa to v w)))=H.length:=by simp [bnd]
  rw [e] at hc
  refine ⟨ks',g',_,hc,hMd.take h7,hGd,hKd,by rw [List.length_take,hFd.len];omega,fun k hk=>?_⟩
  rw [jG]
  split
  ·rename_i hl
   rw [hFd.same k hk,hlow k hl]
  ·rename_i hl
   rw [qM (by omega)]
 have hstep:=J6 d fa to v w
 by_cases ct:v=to
 ·have b:=Qmj 0 (d.map Qb) d.length v w to H.length Ha (Zb gK) hMa.l1 (by omega)
  have e:ldT d fa to v w=true:=by rw [hstep];simp [ct]
  exact done _ _ ks g (sqo b (c:=sn 3 B53) (b:=sn 7 B53)) (by rw [e];rfl) hMa hG (fun q _=>⟨Iff.rfl,rfl⟩) (FrW.refl _)
 ·have b:=Qmk 0 (d.map Qb) d.length v w to H.length Ha (Zb gK) hMa.l1 (by omega)
  rw [decide_eq_false ct,Bool.false_or] at hstep
  have up:∀(E:Env) (Hd:Heap),RT polK 53 (sn 7 B53) (ldE v w H.length Ud Ud Ud Ud) Ha .ret E Hd→RT polK 53 (sn 3 B53) (ldE v w H.length Ud Ud Ud Ud) Ha .ret E Hd:=fun E Hd t=>sq b t (c:=sn 3 B53)
  have zz:∀(ks':List (Int×Int)) (g':Int×Int→Bool) (Hd:Heap) (y9 y10 y26 y27:HV),WM d fa to ks' g' Hd→Hd[H.length]?=some (Qz v w)→((v:Int),(w:Int))∈ks'→g' ((v:Int),(w:Int))=ldT d fa to v w →
    ∃E,RT polK 53 (sn 15 B53) (ldE v w H.length y9 y10 y26 y27) Hd .ret E Hd∧E.get 7=.bool (ldT d fa to v w):=by
   intro ks' g' Hd y9 y10 y26 y27 hMd hKd hin hg
   have lk:=(hMd.lkIn hin).2
   rw [hg] at lk
   cases hb:ldT d fa to v w with
   | true =>
    rw [hb] at lk
    exact ⟨_,Qmv 0 (d.map Qb) d.length v w to H.length Hd y9 y10 y26 y27 hMd.l5 (Kt hKd) lk,rfl⟩
   | false =>
    rw [hb] at lk
    exact ⟨_,Qmw 0 (d.map Qb) d.length v w to H.length Hd y9 y10 y26 y27 hMd.l5 (Kt hKd) lk,rfl⟩
  by_cases cin:((v:Int),(w:Int))∈ks
  ·have hg:g ((v:Int),(w:Int))=ldT d fa to v w:=hG _ cin (by show (w:Int)<((w+1:Nat):Int);omega)
   have lk:=(hMa.lkIn cin).1
   obtain ⟨E,z,h7'⟩:=zz ks g Ha (.bool true) Ud Ud Ud hMa gK cin hg
   have e:=QfR 0 (d.map Qb) d.length v w to H.length Ha
   have sk:RT polK 53 (sn 119 B53) (ldE v w H.length (.bool true) Ud Ud Ud) Ha .normal (ldE v w H.length (.bool true) Ud Ud Ud) Ha:=RunsTo.hint 1 60 [] fun kf hk=>by
    obtain ⟨kf,rfl⟩:∃n,kf=n+1:=⟨kf-1,by omega⟩
    exact ⟨[],by kernel_rfl,Obls.nil⟩
   have t1:=sq e (RunsTo.cond (y:=.tmp 22) (t:=false) (c:=sn 59 B53) (a:=sn 118 B53) (b:=sn 119 B53) (by kernel_rfl) rfl sk) (c:=sn 29 B53)
   have c:RT polK 53 (sn 28 B53) (ldE v w H.length Ud Ud Ud Ud) Ha .normal (ldE v w H.length (.bool true) Ud Ud Ud) Ha:=by
    cases hb:g ((v:Int),(w:Int)) with
    | true=>rw [hb] at lk;exact Qml 0 (d.map Qb) d.length v w to H.length Ha hMa.l5 (Kt gK) lk
    | false=>rw [hb] at lk;exact Qmm 0 (d.map Qb) d.length v w to H.length Ha hMa.l5 (Kt gK) lk
   have t2:=sq (sq c t1 (c:=sn 14 B53)) z (c:=sn 7 B53)
   exact done _ _ ks g (up _ _ t2) h7' hMa hG (fun q _=>⟨Iff.rfl,rfl⟩) (FrW.refl _)
  ·have lk:=hMa.lkOut cin
   have c:=Qmn 0 (d.map Qb) d.length v w to H.length Ha hMa.l5 (Kt gK) lk
   have e:=QfS 0 (d.map Qb) d.length v w to H.length Ha
   obtain ⟨ks1,H1,hu,hM1,hF1,hin1⟩:=hMa.upd ((v:Int),(w:Int)) false
   have f:=Qmo 0 (d.map Qb) d.length v w to H.length Ha H1 hMa.l5 (Kt gK) hu
   have gg:=Qmp 0 (d.map Qb) d.length v w to H.length H1 hM1.l0
   rw [qB] at gg
   have hK1:H1[H.length]?=some (Qz v w):=by rw [hF1.same _ (by omega)];exact gK
   obtain ⟨ks',g',Hd,rl,q1,q2,q3,q4,q5,q6⟩:=QfU hd hf hv hw hR (kb:=H.length) h7 d.length 0 ks1 _ H1 (by omega) hM1 hK1 ((hin1 _).2 (.inr rfl)) (fun q hq hq2=>by
    have hne:q≠((v:Int),(w:Int)):=fun e=>by subst e;exact absurd hq2 (jY _)
    have:put g ((v:Int),(w:Int)) false q=g q:=if_neg hne
    rw [this]
    exact hG q (((hin1 q).1 hq).resolve_right hne) (by omega))
   have hp:put g ((v:Int),(w:Int)) false ((v:Int),(w:Int))=false:=if_pos rfl
   rw [hp,Bool.false_or,← hstep] at q3
   have hKd:Hd[H.length]?=some (Qz v w):=by rw [q6.same _ (by omega)];exact hK1
   obtain ⟨E,z,h7'⟩:=zz ks' g' Hd Ud Ud (.int .i64 (d.length:Int)) (.int .i64 (d.length:Int)) q1 hKd q2 q3
   have rl':=lpi (e0:=ldE v w H.length (.bool false) Ud (.int .i64 (d.length:Int)) (.int .i64 0)) rl (b:=sn 1900 B53)
   have t1:=sq gg (bke (c:=sn 475 B53) rl') (c:=sn 237 B53)
   have t3:=sq f t1 (c:=sn 118 B53)
   have t4:=sq e (RunsTo.cond (y:=.tmp 22) (t:=true) (c:=sn 59 B53) (a:=sn 118 B53) (b:=sn 119 B53) (by kernel_rfl) rfl t3) (c:=sn 29 B53)
   have t5:=sq (sq c t4 (c:=sn 14 B53)) z (c:=sn 7 B53)
   have keep:∀q:Int×Int,(w:Int)≤q.2→q≠((v:Int),(w:Int))→(q∈ks'↔q∈ks)∧g' q=g q:=fun q hq hne=>by
    have h1:=q5 q hq hne
    have h2:put g ((v:Int),(w:Int)) false q=g q:=if_neg hne
    rw [h2] at h1
    refine ⟨h1.1.trans ⟨fun h=>((hin1 q).1 h).resolve_right hne,fun h=>(hin1 q).2 (.inl h)⟩,h1.2⟩
   refine done _ _ ks' g' (up _ _ t5) h7' q1 (fun q hq hq2=>?_) (fun q hq=>keep q (by omega) (fun e=>by subst e;exact absurd hq (jY _))) (hF1.trans q6)
   by_cases c1:q.2<(w:Int)
   ·exact q4 q hq c1
   ·by_cases c2:q=((v:Int),(w:Int))
    ·subst c2;exact q3
    ·have:=keep q (by omega) c2
     rw [this.2]
     exact hG q (this.1.1 hq) hq2
theorem QfV (hd:okD d) (hf:BdA d.length fa):∀(k v w:Nat),w≤k→v<d.length→w<2 ^ d.length→QfT d fa to v w:=by
 intro k
 induction k with
 | zero =>
  intro v w hk hv hw
  have:w=0:=by omega
  subst this
  exact Qaw hd hf hv hw fun u hu=>by simp at hu
 | succ k ih =>
  intro v w hk hv hw
  refine Qaw hd hf hv hw fun u hu=>?_
  have:=ZC hu
  exact ih u (wo w u) (by omega) (K3 hw hu) (by omega)
end
end Go.Proofs.Ytlendaofkmhgmaa
end
