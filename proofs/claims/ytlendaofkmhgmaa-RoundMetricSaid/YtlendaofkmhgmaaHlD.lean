/- The ghost's regions in any order, its code, its calls' arguments. -/
import Derived.Test.YtlendaofkmhgmaaHlC
set_option linter.unusedVariables false
set_option linter.unusedSimpArgs false
set_option linter.unnecessarySimpa false
/- Operations that change nothing, or look at nothing; equality that is asked. -/
open List renaming mem_of_getElem? → qA, map_cons → qP, eq_nil_of_length_eq_zero → qQ, getElem?_take → qR, all_eq_true → qS, mem_append_right → qT
open Bool renaming and_eq_true → qB, not_true → qC, false_eq_true → qG, false_or → qH, or_eq_true → qO
open Nat renaming lt_or_ge → qD, le_refl → qE, le_trans → qF, strongRecOn → qJ, le_max_left → qK, le_max_right → qL
open Array renaming getD_eq_getD_getElem? → qI, replicate → qM, getElem?_eq_getElem → qN, getElem?_toList → qU, getElem?_setIfInBounds_ne → qV
namespace Go.HL
section
variable {P:Program}

mutual
 theorem same_eq:∀(a b:HV),same a b=true→a=b
  | .undef,b,h=>by cases b <;> simp [same] at h ⊢
  | .nilS _,b,h=>by cases b <;> simp [same] at h
  | .empS _,b,h=>by cases b <;> simp [same] at h
  | .int _ _,b,h=>by cases b <;> simp [same] at h ⊢;exact h
  | .bool _,b,h=>by cases b <;> simp [same] at h ⊢;exact h
  | .str x,b,h=>by cases b <;> simp [same] at h ⊢;rename_i y;cases x;cases y;simp_all
  | .agg l,b,h=>by cases b <;> simp [same] at h ⊢;exact sameL_eq _ _ h
  | .tuple l,b,h=>by cases b <;> simp [same] at h ⊢;exact sameL_eq _ _ h
  | .imm _ _ l,b,h=>by cases b <;> simp [same] at h ⊢;exact ⟨h.1.1,h.1.2,sameL_eq _ _ h.2⟩
  | .own _ l,b,h=>by cases b <;> simp [same] at h ⊢;exact ⟨h.1,sameL_eq _ _ h.2⟩
  | .sl ..,b,h=>by cases b <;> simp [same] at h ⊢;obtain ⟨⟨⟨⟨⟨h1,h2⟩,h3⟩,h4⟩,h5⟩,h6⟩:=h;exact ⟨h1,h2,h3,h4,h5,h6⟩
  | .aview ..,b,h=>by cases b <;> simp [same] at h ⊢;obtain ⟨⟨⟨h1,h2⟩,h3⟩,h4⟩:=h;exact ⟨h1,h2,h3,h4⟩
  | .ptr ..,b,h=>by cases b <;> simp [same] at h ⊢;obtain ⟨⟨⟨h1,h2⟩,h3⟩,h4⟩:=h;exact ⟨h1,h2,h3,h4⟩
  | .vptr v,b,h=>by cases b <;> simp [same] at h ⊢;exact same_eq _ _ h
  | .map _,b,h=>by cases b <;> simp [same] at h ⊢;exact h
  | .nilmap,b,h=>by cases b <;> simp [same] at h ⊢
  | .imap _ ks vs,b,h=>by cases b <;> simp [same] at h ⊢;exact ⟨h.1.1,sameL_eq _ _ h.1.2,sameL_eq _ _ h.2⟩
  | .omap ks vs,b,h=>by cases b <;> simp [same] at h ⊢;exact ⟨sameL_eq _ _ h.1,sameL_eq _ _ h.2⟩
  | .func _ x y,b,h=>by cases b <;> simp [same] at h ⊢;exact ⟨h.1.1,sameL_eq _ _ h.1.2,sameL_eq _ _ h.2⟩
  | .nilFunc,b,h=>by cases b <;> simp [same] at h ⊢
 theorem sameL_eq:∀(a b:List HV),sameL a b=true→a=b
  | [],b,h=>by cases b <;> simp [sameL] at h ⊢
  | v::l,b,h=>by
   cases b with
   | nil=>simp [sameL] at h
   | cons v' l'=>simp [sameL] at h;rw [same_eq v v' h.1,sameL_eq l l' h.2]
end

theorem JX:∀{a b:Heap},Qj a b=true→a=b
 | [],[],_=>rfl
 | [],_::_,h=>by simp [Qj] at h
 | .arr ..::H,b,h=>by
  cases b with
  | nil=>simp [Qj] at h
  | cons x H' =>
   cases x <;> simp [Qj] at h
   obtain ⟨⟨⟨⟨h1,h2⟩,h3⟩,h4⟩,h5⟩:=h
   rw [h1,sameL_eq _ _ h2,h3,h4,JX h5]
 | .map ..::H,b,h=>by
  cases b with
  | nil=>simp [Qj] at h
  | cons x H' =>
   cases x <;> simp [Qj] at h
   obtain ⟨⟨⟨h1,h2⟩,h3⟩,h4⟩:=h
   rw [sameL_eq _ _ h1,sameL_eq _ _ h2,h3,JX h4]
 | .iter ..::H,b,h=>by
  cases b with
  | nil=>simp [Qj] at h
  | cons x H' =>
   cases x <;> simp [Qj] at h
   obtain ⟨⟨⟨⟨h1,h2⟩,h3⟩,h4⟩,h5⟩:=h
   rw [h1,h2,h3,h4,JX h5]
 | .dead::H,b,h=>by
  cases b with
  | nil=>simp [Qj] at h
  | cons x H' =>
   cases x <;> simp [Qj] at h
   rw [JX h]

theorem Wb {x:Option HV} {H:Heap} {v:HV} {H1:Heap} (h:(x.map fun v=>(v,H))=some (v,H1)):H1=H∧x=some v:=by
 cases x with
 | none=>cases h
 | some u=>simp at h;exact ⟨h.2.symm,by rw [h.1]⟩

theorem Uc {pol:Pol} {f:FuncId} {rg:Nat} {asg:List Nat} {call:QB} {o:Oper} {e:Env} {H H1:Heap} {v:HV} (hs:KL o=false)
  (h:WG P pol f rg asg call o e H=some (v,H1)):H1=H∧(Vg o=false→∀H2,WG P pol f rg asg call o e H2=some (v,H2)):=by
 obtain ⟨dst,op,type,pos,after,guard⟩:=o
 unfold KL at hs
 unfold Vg
 unfold WG at h ⊢
 cases op <;> simp only [Bool.true_eq_false] at hs <;> simp only at h ⊢ <;> try (cases h;done)
 case move x=>cases h;exact ⟨rfl,fun _ H2=>rfl⟩
 case assign x =>
  split at h
  ·simp at hs
  ·cases h;exact ⟨rfl,fun _ H2=>rfl⟩
 case pick c x y =>
  split at h
  ·cases h;exact ⟨rfl,fun _ H2=>rfl⟩
  ·cases h
 case build t ps=>obtain ⟨h1,h2⟩:=Wb h;exact ⟨h1,fun _ H2=>by rw [h2];rfl⟩
 case load t x=>exact ⟨(Wb h).1,by simp⟩
 case nilCheck x =>
  split at h <;> cases h <;> exact ⟨rfl,fun _ H2=>rfl⟩
 case binOp op t x y b =>
  obtain ⟨h1,h2⟩:=Wb h
  exact ⟨h1,fun _ H2=>by rw [h2];rfl⟩
 case unOp op t x=>obtain ⟨h1,h2⟩:=Wb h;exact ⟨h1,fun _ H2=>by rw [h2];rfl⟩
 case convert s t x =>
  split at h
  ·cases h;exact ⟨rfl,fun _ H2=>rfl⟩
  ·cases h
 case makeFunc g first captured =>
  cases g <;> simp only at h ⊢ <;> try (cases h;done)
  cases h;exact ⟨rfl,fun _ H2=>rfl⟩
 case slice t x l hi mx =>
  split at h
  ·cases h
  ·rename_i hq
   obtain ⟨h1,h2⟩:=Wb h
   exact ⟨h1,fun _ H2=>by rw [if_neg hq,h2];rfl⟩
 case fieldAddr s x fl=>obtain ⟨h1,h2⟩:=Wb h;exact ⟨h1,fun _ H2=>by rw [h2];rfl⟩
 case field s x fl=>obtain ⟨h1,h2⟩:=Wb h;exact ⟨h1,fun _ H2=>by rw [h2];rfl⟩
 case indexAddr s x i=>obtain ⟨h1,h2⟩:=Wb h;exact ⟨h1,fun _ H2=>by rw [h2];rfl⟩
 case index s x i=>obtain ⟨h1,h2⟩:=Wb h;exact ⟨h1,fun _ H2=>by rw [h2];rfl⟩
 case lookup T m k cok =>
  refine ⟨?_,by simp⟩
  split at h
  ·exact (Wb h).1
  ·exact (Wb h).1
  ·split at h
   ·exact (Wb h).1
   ·cases h
  ·cases h
 case extract x i =>
  split at h
  ·obtain ⟨h1,h2⟩:=Wb h;exact ⟨h1,fun _ H2=>by rw [h2];rfl⟩
  ·cases h
 case call cl =>
  obtain ⟨callee,args,tys⟩:=cl
  cases callee with
  | value g=>simp at hs
  | invoke r m=>cases h
  | builtin b =>
   simp only at h ⊢
   generalize args.toList.map (Qk e)=L at h ⊢
   generalize tys.toList=T at h ⊢
   cases b <;> simp only [Bool.true_eq_false] at hs
   case len =>
    refine ⟨?_,by simp⟩
    cases T <;> cases L <;> simp only [WX] at h <;> first | cases h;done | exact (Wb h).1
   case min =>
    cases L <;> simp only [WX] at h ⊢ <;> first | cases h;done | skip
    obtain ⟨h1,h2⟩:=Wb h;exact ⟨h1,fun _ H2=>by rw [h2];rfl⟩
   case max =>
    cases L <;> simp only [WX] at h ⊢ <;> first | cases h;done | skip
    obtain ⟨h1,h2⟩:=Wb h;exact ⟨h1,fun _ H2=>by rw [h2];rfl⟩

end
end Go.HL


/- Regions in any order that the edges leave. -/
namespace Go.HL
section
variable {P:Program}

def W5 (quiet:List Nat) (i:Nat) (o:Oper):Bool:=KL o&&!quiet.contains i

def DP (quiet:List Nat) (ops:Array Oper):Bool :=
 let bf:=Region.before ops
 (List.range ops.size).all fun i =>
  match ops[i]? with
  | none=>true
  | some o =>
   o.after.toList.all (fun e=>!Region.binds .any e||decide (e.on<i)) &&
   (List.range ops.size).all fun j =>
    match ops[j]? with
    | none=>true
    | some s =>
     (!(bf.getD i 0).testBit j||o.after.toList.any fun e=>Region.binds .any e&&(e.on==j||(bf.getD e.on 0).testBit j)) &&
     (decide (i≤j)||!(W5 quiet i o&&W5 quiet j s)||(bf.getD i 0).testBit j) &&
     (i==j||(match s.dst with
      | some d=>!((o.looksAt ops).contains d||o.dst==some d)||(if j<i then (bf.getD i 0).testBit j else (bf.getD j 0).testBit i)
      | none=>true))

structure Ord (quiet:List Nat) (ops:Array Oper) (B:Nat→Nat→Prop):Prop where
 acyc:∀(i:Nat) (o:Oper),ops[i]?=some o→∀e∈o.after,Region.binds .any e=true→e.on<i
 clos:∀(i:Nat) (o:Oper) (j:Nat),ops[i]?=some o→j<ops.size→B i j→∃e∈o.after,Region.binds .any e=true∧(e.on=j∨B e.on j)
 st:∀(i:Nat) (o:Oper) (j:Nat) (s:Oper),ops[i]?=some o→ops[j]?=some s→j<i→W5 quiet i o=true→W5 quiet j s=true→B i j
 tm:∀(i:Nat) (o:Oper) (j:Nat) (s:Oper) (d:Nat),ops[i]?=some o→ops[j]?=some s→i≠j→s.dst=some d→(d∈o.looksAt ops∨o.dst=some d)→(j<i→B i j)∧(i<j→B j i)

theorem Qq {α:Type} {l:Array α} {i:Nat} {x:α} (h:l[i]?=some x):i<l.size:=(Array.getElem?_eq_some_iff.1 h).1

theorem GT {quiet:List Nat} {ops:Array Oper} (h:DP quiet ops=true):Ord quiet ops fun i j=>((Region.before ops).getD i 0).testBit j=true:=by
 unfold DP at h
 have h1:∀(i:Nat) (o:Oper),ops[i]?=some o→_:=fun i o hi=>by
  have:=List.all_eq_true.1 h i (List.mem_range.2 (Qq hi))
  rw [hi] at this
  exact this
 have h2:∀(i:Nat) (o:Oper) (j:Nat) (s:Oper),ops[i]?=some o→ops[j]?=some s→_:=fun i o j s hi hj=>by
  have:=h1 i o hi
  rw [qB] at this
  have:=List.all_eq_true.1 this.2 j (List.mem_range.2 (Qq hj))
  rw [hj] at this
  simp only at this
  rw [qB,qB] at this
  exact this
 refine ⟨?_,?_,?_,?_⟩
 ·intro i o hi e he hb
  have:=h1 i o hi
  rw [qB] at this
  have:=List.all_eq_true.1 this.1 e (Array.mem_toList_iff.2 he)
  simpa [hb] using this
 ·intro i o j hi hj hB
  obtain ⟨s,hs⟩:∃s,ops[j]?=some s:=⟨_,qN hj⟩
  have:=(h2 i o j s hi hs).1.1
  rw [hB] at this
  simp only [qC,qH,List.any_eq_true,qB,qO,beq_iff_eq] at this
  obtain ⟨e,he,hb,hh⟩:=this
  exact ⟨e,Array.mem_toList_iff.1 he,hb,hh⟩
 ·intro i o j s hi hj hlt ho hs
  have:=(h2 i o j s hi hj).1.2
  simp only [ho,hs,Bool.and_self,qC,Bool.or_false,qO,decide_eq_true_eq] at this
  exact this.resolve_left (by omega)
 ·intro i o j s d hi hj hne hd hl
  have:=(h2 i o j s hi hj).2
  have hl':((o.looksAt ops).contains d||o.dst==some d)=true:=by
   rcases hl with hl | hl
   ·simp [hl]
   ·simp [hl]
  rw [hd] at this
  simp only [hl',qC,qH] at this
  rw [show (i==j)=false by simpa using hne,qH] at this
  refine ⟨fun hlt=>?_,fun hlt=>?_⟩
  ·rw [if_pos hlt] at this;exact this
  ·rw [if_neg (by omega)] at this;exact this

def Clo (ops:Array Oper) (listed:Array Bool):Prop :=
 ∀(i:Nat) (o:Oper),ops[i]?=some o→listed.getD i false=true→∀e∈o.after,Region.binds .any e=true→listed.getD e.on false=true

theorem Ord.done {quiet:List Nat} {ops:Array Oper} {B:Nat→Nat→Prop} {listed:Array Bool} (hO:Ord quiet ops B) (hc:Clo ops listed) :
  ∀(i:Nat) (o:Oper) (j:Nat),ops[i]?=some o→j<ops.size→B i j→(∀e∈o.after,Region.binds .any e=true→listed.getD e.on false=true)→listed.getD j false=true:=by
 intro i
 induction i using qJ with
 | _ i ih =>
  intro o j hi hj hB ha
  obtain ⟨e,he,hb,hh⟩:=hO.clos i o j hi hj hB
  have hlt:=hO.acyc i o hi e he hb
  rcases hh with hh | hh
  ·rw [← hh];exact ha e he hb
  ·have hlt':e.on<ops.size:=by have:=Qq hi;omega
   have hq:ops[e.on]?=some ops[e.on]:=qN hlt'
   exact ih e.on hlt _ j hq hj hh (hc e.on _ hq (ha e he hb))

/-! ### The trace -/

def QgB (P:Program) (pol:Pol) (f:FuncId) (rg:Nat) (ops:Array Oper) (asg:List Nat) (call:QB) (o:Oper) (s s':Env×Heap):Prop :=
 (Q2 ops o s.1=some true∧∃v,WG P pol f rg asg call o s.1 s.2=some (v,s'.2)∧s'.1=s.1.put o.dst v)∨(Q2 ops o s.1=some false∧s'=(s.1.put o.dst (.tuple []),s.2))

theorem VS {pol:Pol} {f:FuncId} {rg:Nat} {ops:Array Oper} {asg:List Nat} {call:QB}:∀(l:List Oper) {e e':Env} {H H':Heap},ZH P pol f rg ops asg call l e H=some (e',H') →
  (ZA P pol f rg ops asg call l e H)[0]?=some (e,H)∧(ZA P pol f rg ops asg call l e H)[l.length]?=some (e',H') ∧
  ∀(i:Nat) (o:Oper),l[i]?=some o→∃s s',(ZA P pol f rg ops asg call l e H)[i]?=some s∧(ZA P pol f rg ops asg call l e H)[i+1]?=some s'∧QgB P pol f rg ops asg call o s s'
 | [],e,e',H,H',h=>by cases h;simp [ZA]
 | o::os,e,e',H,H',h=>by
  unfold ZH at h
  split at h
  ·rename_i hw
   split at h
   ·rename_i v H1 hev
    obtain ⟨h1,h2,h3⟩:=VS os h
    have ht:ZA P pol f rg ops asg call (o::os) e H=(e,H)::ZA P pol f rg ops asg call os (e.put o.dst v) H1:=by simp only [ZA,hw,hev]
    rw [ht]
    refine ⟨by simp,by simpa using h2,fun i o' hi=>?_⟩
    cases i with
    | zero =>
     simp at hi;subst hi
     exact ⟨(e,H),_,rfl,by simpa using h1,.inl ⟨hw,v,hev,rfl⟩⟩
    | succ i=>simpa using h3 i o' (by simpa using hi)
   ·cases h
  ·rename_i hw
   obtain ⟨h1,h2,h3⟩:=VS os h
   have ht:ZA P pol f rg ops asg call (o::os) e H=(e,H)::ZA P pol f rg ops asg call os (e.put o.dst (.tuple [])) H:=by simp only [ZA,hw]
   rw [ht]
   refine ⟨by simp,by simpa using h2,fun i o' hi=>?_⟩
   cases i with
   | zero =>
    simp at hi;subst hi
    exact ⟨(e,H),_,rfl,by simpa using h1,.inr ⟨hw,rfl⟩⟩
   | succ i=>simpa using h3 i o' (by simpa using hi)
  ·cases h

structure Run (P:Program) (pol:Pol) (f:FuncId) (rg:Nat) (ops:Array Oper) (asg:List Nat) (call:QB) (quiet:List Nat) (B:Nat→Nat→Prop) (S:Nat→Env×Heap):Prop where
 step:∀(i:Nat) (o:Oper),ops[i]?=some o→QgB P pol f rg ops asg call o (S i) (S (i+1))
 self:∀(i:Nat) (o:Oper),ops[i]?=some o→quiet.contains i=true→Q2 ops o (S i).1=some true→(S (i+1)).2=(S i).2
 pair:∀(i:Nat) (o:Oper) (j:Nat) (s:Oper),ops[i]?=some o→ops[j]?=some s→(Vg o||quiet.contains i)=true→W5 quiet j s=true→i≠j→(j<i→¬B i j)→(i<j→¬B j i) →
  Q2 ops o (S i).1=some true→∀v,WG P pol f rg asg call o (S i).1 (S i).2=some (v,(S (i+1)).2) →
  ∀q,q=(if j<i then j else j+1)→WG P pol f rg asg call o (S i).1 (S q).2=some (v,(S q).2)

theorem SO {ops:Array Oper} {quiet:List Nat} {i:Nat} {o:Oper} (hi:ops[i]?=some o) (h:(Vg o||quiet.contains i)=true) :
  (quiet.contains i=true→(i,i)∈chk ops quiet)∧∀(j:Nat) (s:Oper),ops[j]?=some s→W5 quiet j s=true→i≠j →
   (j<i→((Region.before ops).getD i 0).testBit j=false→(i,j)∈chk ops quiet)∧(i<j→((Region.before ops).getD j 0).testBit i=false→(i,j+1)∈chk ops quiet):=by
 unfold chk
 simp only [List.mem_flatMap,List.mem_range]
 refine ⟨fun hq=>⟨i,Qq hi,?_⟩,fun j s hj hs hne=>⟨fun hlt hB=>⟨i,Qq hi,?_⟩,fun hlt hB=>⟨i,Qq hi,?_⟩⟩⟩
 ·rw [hi]
  simp only [hq,Bool.or_true,qC,qG,if_false,if_true]
  exact List.mem_append_left _ (List.mem_singleton.2 rfl)
 ·rw [hi]
  simp only [h,qC,qG,if_false]
  refine qT _ (List.mem_filterMap.2 ⟨j,List.mem_range.2 (Qq hj),?_⟩)
  unfold W5 at hs
  simp only [qB,Bool.not_eq_true'] at hs
  rw [hj]
  simp only [hs.1,hs.2,qC,qH,show (i==j)=false by simpa using hne,qG,if_false,hlt,if_true,hB]
 ·rw [hi]
  simp only [h,qC,qG,if_false]
  refine qT _ (List.mem_filterMap.2 ⟨j,List.mem_range.2 (Qq hj),?_⟩)
  unfold W5 at hs
  simp only [qB,Bool.not_eq_true'] at hs
  rw [hj]
  simp only [hs.1,hs.2,qC,qH,show (i==j)=false by simpa using hne,qG,if_false,show ¬j<i by omega,hB]

theorem Qha {pol:Pol} {f:FuncId} {rg:Nat} {ops:Array Oper} {asg:List Nat} {call:QB} {quiet:List Nat} {e e':Env} {H H':Heap} (h:ZH P pol f rg ops asg call ops.toList e H=some (e',H'))
  (hc:(chk ops quiet).all (Kf P pol f rg ops asg call (ZA P pol f rg ops asg call ops.toList e H))=true) :
  ∃S,S 0=(e,H)∧S ops.size=(e',H')∧Run P pol f rg ops asg call quiet (fun i j=>((Region.before ops).getD i 0).testBit j=true) S:=by
 obtain ⟨h1,h2,h3⟩:=VS ops.toList h
 generalize ZA P pol f rg ops asg call ops.toList e H=tr at h1 h2 h3 hc
 have hS:∀(i:Nat) (s:Env×Heap),tr[i]?=some s→(tr[i]?).getD (e,H)=s:=fun i s hs=>by rw [hs];rfl
 have hex:∀(i:Nat),i≤ops.size→tr[i]?=some ((tr[i]?).getD (e,H)):=by
  intro i hi
  rcases qD i ops.size with hlt | hge
  ·obtain ⟨s,s',k1,_,_⟩:=h3 i ops[i] (by simp [hlt])
   rw [k1];rfl
  ·have:i=ops.toList.length:=by simp;omega
   rw [this,h2];rfl
 refine ⟨fun i=>(tr[i]?).getD (e,H),hS _ _ h1,by have:=hS _ _ h2;simpa using this,?_,?_,?_⟩
 ·intro i o hi
  obtain ⟨s,s',k1,k2,k3⟩:=h3 i o (by rw [qU];exact hi)
  simp only [hS _ _ k1,hS _ _ k2]
  exact k3
 ·intro i o hi hq hw
  have:=List.all_eq_true.1 hc _ ((SO hi (by rw [hq];simp)).1 hq)
  obtain ⟨s,s',k1,k2,k3⟩:=h3 i o (by rw [qU];exact hi)
  simp only [hS _ _ k1,hS _ _ k2] at hw ⊢
  unfold Kf at this
  simp only [hi,k1,hw] at this
  rcases k3 with ⟨_,v,g1,g2⟩ | ⟨g1,_⟩
  ·rw [g1] at this
   simp only [qB] at this
   exact JX this.1.2
  ·rw [hw] at g1;cases g1
 ·intro i o j s hi hj hr hs hne hb1 hb2 hw v hev q hq
  have hm:(i,q)∈chk ops quiet:=by
   obtain ⟨_,hm⟩:=SO hi hr
   obtain ⟨m1,m2⟩:=hm j s hj hs hne
   by_cases hlt:j<i
   ·rw [if_pos hlt] at hq;subst hq;exact m1 hlt (by simpa using hb1 hlt)
   ·rw [if_neg hlt] at hq;subst hq;exact m2 (by omega) (by simpa using hb2 (by omega))
  have:=List.all_eq_true.1 hc _ hm
  have hqn:q≤ops.size:=by
   have:=Qq hj
   split at hq <;> omega
  unfold Kf at this
  simp only [hi] at this
  rw [hex i (by have:=Qq hi;omega),hex q hqn] at this
  simp only [hw,hev] at this
  split at this
  ·rename_i v1 H1 v2 H2 g1 g2
   simp only [qB] at this
   cases g1
   rw [same_eq _ _ this.1.1]
   have:=JX this.2
   rw [this] at g2
   exact g2
  ·cases this

end
end Go.HL


/- Regions in any order that the edges leave: every order comes to the state of the text's order. -/
namespace Go.HL
section
variable {P:Program} {pol:Pol} {f:FuncId} {rg:Nat} {ops:Array Oper} {asg:List Nat} {call:QB} {quiet:List Nat} {B:Nat→Nat→Prop} {S:Nat→Env×Heap} {lo:Nat}

theorem DQ {α:Type} {l:Array α} {i:Nat} (h:i<l.size):∃x,l[i]?=some x:=⟨_,qN h⟩

theorem Run.get (hr:Run P pol f rg ops asg call quiet B S) (t:Nat) (j:Nat):∀(n:Nat),j+n≤ops.size→(∀(k:Nat) (o:Oper),j≤k→k<j+n→ops[k]?=some o→o.dst≠some t) →
  (S (j+n)).1.get t=(S j).1.get t
 | 0,_,_=>rfl
 | n+1,hn,hw=>by
  rw [← hr.get t j n (by omega) fun k o h1 h2 h3=>hw k o h1 (by omega) h3]
  obtain ⟨o,ho⟩:=DQ (l:=ops) (i:=j+n) (by omega)
  have hd:=hw (j+n) o (by omega) (by omega) ho
  have hput:∀v,((S (j+n)).1.put o.dst v).get t=(S (j+n)).1.get t:=by
   intro v
   cases hq:o.dst with
   | none=>rfl
   | some d =>
    have:d≠t:=fun h=>hd (by rw [hq,h])
    simp [Env.put,Env.get,this]
  rcases hr.step (j+n) o ho with ⟨_,v,_,h2⟩ | ⟨_,h2⟩
  ·rw [show j+(n+1)=j+n+1 by omega,h2,hput]
  ·rw [show j+(n+1)=j+n+1 by omega,h2,hput]

theorem Run.get' (hr:Run P pol f rg ops asg call quiet B S) (t i j:Nat) (hi:i≤ops.size) (hj:j≤ops.size)
  (hw:∀(k:Nat) (o:Oper),(i≤k∧k<j∨j≤k∧k<i)→ops[k]?=some o→o.dst≠some t):(S i).1.get t=(S j).1.get t:=by
 rcases Nat.le_total i j with h | h
 ·have:=hr.get t i (j-i) (by omega) fun k o h1 h2 h3=>hw k o (.inl ⟨h1,by omega⟩) h3
  rw [← this,show i+(j-i)=j by omega]
 ·have:=hr.get t j (i-j) (by omega) fun k o h1 h2 h3=>hw k o (.inr ⟨h1,by omega⟩) h3
  rw [← this,show j+(i-j)=i by omega]

theorem Run.still (hr:Run P pol f rg ops asg call quiet B S) {i:Nat} {o:Oper} (ho:ops[i]?=some o) (hs:W5 quiet i o=false):(S (i+1)).2=(S i).2:=by
 rcases hr.step i o ho with ⟨hw,v,h1,_⟩ | ⟨_,h2⟩
 ·by_cases hq:quiet.contains i=true
  ·exact hr.self i o ho hq hw
  ·unfold W5 at hs
   have hq':quiet.contains i=false:=by simpa using hq
   have hs:KL o=false:=by rw [hq'] at hs;simpa using hs
   exact (Uc hs h1).1
 ·rw [h2]

theorem Run.heap (hr:Run P pol f rg ops asg call quiet B S) (j:Nat):∀(n:Nat),j+n≤ops.size→(∀(k:Nat) (o:Oper),j≤k→k<j+n→ops[k]?=some o→W5 quiet k o=false) →
  (S (j+n)).2=(S j).2
 | 0,_,_=>rfl
 | n+1,hn,hw=>by
  rw [← hr.heap j n (by omega) fun k o h1 h2 h3=>hw k o h1 (by omega) h3]
  obtain ⟨o,ho⟩:=DQ (l:=ops) (i:=j+n) (by omega)
  exact hr.still ho (hw (j+n) o (by omega) (by omega) ho)

structure Inv (ops:Array Oper) (quiet:List Nat) (S:Nat→Env×Heap) (lo:Nat) (c0:Ctx) (w0:World) (a0:Act) (listed:Array Bool) (a:Act) (w:World):Prop where
 size:listed.size=ops.size
 clo:Clo ops listed
 heap:∃c m,m≤ops.size∧c.H=(S m).2∧Rel lo c w∧Evo lo c0 w0 c w∧(∀(s:Nat) (o:Oper),ops[s]?=some o→W5 quiet s o=true→(listed.getD s false=true↔s<m)) ∧
  ∀t,∃j,j≤ops.size∧V w (Qg c lo) c ((S j).1.get t) (a.tmps.getD t undef)∧∀(k:Nat) (o:Oper),ops[k]?=some o→o.dst=some t→(listed.getD k false=true↔k<j)
 defers:a.defers=a0.defers
 tsize:a.tmps.size=a0.tmps.size

theorem Ue {listed:Array Bool} {i:Nat} (hi:i<listed.size) (k:Nat):(listed.setIfInBounds i true).getD k false=true↔(k=i∨listed.getD k false=true):=by
 by_cases h:i=k
 ·subst h;simp [hi]
 ·simp only [qI,qV h]
  constructor
  ·exact .inr
  ·rintro (h' | h')
   ·exact absurd h'.symm h
   ·exact h'

theorem Z5:∀{ks:List Nat} {e:Env} {t:Nat},t∈ks→(restr ks e).get t=e.get t
 | k::ks,e,t,h=>by
  unfold restr
  simp only [qP,Env.get]
  by_cases hk:k=t
  ·simp [hk]
  ·rw [if_neg hk]
   exact Z5 (ks:=ks) (by cases h with | head=>exact absurd rfl hk | tail _ h=>exact h)

theorem VG:∀{ks:List Nat} {e:Env} {t:Nat},t∉ks→(restr ks e).get t=.undef
 | [],e,t,h=>rfl
 | k::ks,e,t,h=>by
  unfold restr
  simp only [qP,Env.get]
  have hk:k≠t:=fun hq=>h (by simp [hq])
  rw [if_neg hk]
  exact VG (ks:=ks) (fun hq=>h (List.mem_cons_of_mem _ hq))

theorem QaW {o:Oper} {t:Nat} (h:Operand.tmp t∈o.op.operands):t∈o.looksAt ops :=
 List.mem_append_left _ (List.mem_filterMap.2 ⟨.tmp t,by simpa using h,rfl⟩)

theorem US {o:Oper} {e e':Env} (h:∀t,t∈o.looksAt ops→e.get t=e'.get t):Q2 ops o e=Q2 ops o e':=by
 unfold Q2
 cases hg:o.guard with
 | none=>rfl
 | some gw =>
  obtain ⟨g,want⟩:=gw
  simp only
  cases hd:(ops[g]?).bind (·.dst) with
  | none=>rfl
  | some d =>
   simp only
   rw [h d (by unfold Oper.looksAt;rw [hg];simp [hd])]

theorem Inv.step {Q:Exit→Act→World→Prop} {c0:Ctx} {w0:World} {a0:Act} {listed:Array Bool} {a:Act} {w:World} {K:Act→World→Prop} {i:Nat} {o:Oper} (hC:Qo P call) (hO:Ord quiet ops B) (hr:Run P pol f rg ops asg call quiet B S)
  (hd:Zj a0.tmps.size ops=true) (hI:Inv ops quiet S lo c0 w0 a0 listed a w) (ho:ops[i]?=some o) (hl:listed.getD i false=false) (ha:∀e∈o.after,Region.binds .any e=true→listed.getD e.on false=true)
  (hK:∀a' w',Inv ops quiet S lo c0 w0 a0 (listed.setIfInBounds i true) a' w'→K a' w'):wpOp P ops Q i K a w:=by
 obtain ⟨hsz,hclo,⟨c,m,hm,hcH,hR,hE,hst,hslot⟩,hdf,hts⟩:=hI
 have hi:=Qq ho
 have hset:=Ue (listed:=listed) (i:=i) (by omega)
 have hdone:∀j,j<ops.size→B i j→listed.getD j false=true:=fun j hj hB=>hO.done hclo i o j ho hj hB ha
 have hnot:∀(k:Nat) (s:Oper),ops[k]?=some s→B k i→listed.getD k false=true→False:=fun k s hk hB hlk=>by
  have:=hO.done hclo k s i hk hi hB (hclo k s hk hlk)
  rw [hl] at this;cases this
 have hclo':Clo ops (listed.setIfInBounds i true):=by
  intro k s hk hlk e he hb
  rw [hset]
  rcases (hset k).1 hlk with h | h
  ·subst h
   rw [ho] at hk;cases hk
   exact .inr (ha e he hb)
  ·exact .inr (hclo k s hk h e he hb)
 have hlook:∀t,t∈o.looksAt ops→V w (Qg c lo) c ((S i).1.get t) (a.tmps.getD t undef):=by
  intro t ht
  obtain ⟨j,hj,hv,hw⟩:=hslot t
  have:(S j).1.get t=(S i).1.get t:=by
   refine hr.get' t j i hj (by omega) fun k s hk hks hd=>?_
   have hki:k≠i∨k=i:=by omega
   rcases hki with hki | hki
   ·obtain ⟨t1,t2⟩:=hO.tm i o k s t ho hks (Ne.symm hki) hd (.inl ht)
    have hw':=hw k s hks hd
    rcases hk with ⟨k1,k2⟩ | ⟨k1,k2⟩
    ·have:=hdone k (Qq hks) (t1 k2)
     have:=hw'.1 this
     omega
    ·exact hnot k s hks (t2 (by omega)) (hw'.2 k2)
   ·have hw':=hw k s hks hd
    rw [hki,hl] at hw'
    rcases hk with ⟨k1,k2⟩ | ⟨k1,k2⟩
    ·omega
    ·exact absurd (hw'.2 (by omega)) (by simp)
  rw [← this];exact hv
 have hRE:RelE w c lo (restr (o.looksAt ops) (S i).1) a.tmps:=by
  intro t
  by_cases ht:t∈o.looksAt ops
  ·rw [Z5 ht];exact hlook t ht
  ·rw [VG ht];exact .undef _
 have hwant:Q2 ops o (restr (o.looksAt ops) (S i).1)=Q2 ops o (S i).1:=US fun t ht=>Z5 ht
 have hev:∀H,WG P pol f rg asg call o (restr (o.looksAt ops) (S i).1) H=WG P pol f rg asg call o (S i).1 H:=fun H =>
  C5 fun x hx=>GS fun t hxt=>Z5 (QaW (by rw [← hxt];exact hx))
 have fin:∀(c':Ctx) (w':World) (rv:Value) (v:HV) (m':Nat),m'≤ops.size→c'.H=(S m').2→Rel lo c' w'→V w' (Qg c' lo) c' v rv→Evo lo c w c' w'→(S (i+1)).1=(S i).1.put o.dst v →
   (∀(s:Nat) (o:Oper),ops[s]?=some o→W5 quiet s o=true→((listed.setIfInBounds i true).getD s false=true↔s<m'))→K (a.put o.dst rv) w':=by
  intro c' w' rv v m' hm' hc' hR' hv' hE' hS hst'
  refine hK _ _ ⟨by simp [hsz],hclo',⟨c',m',hm',hc',hR',hE.trans hE',hst',fun t=>?_⟩,(QY _ _ _).trans hdf,(QR _ _ _).trans hts⟩
  obtain ⟨j,hj,hv,hw⟩:=hslot t
  by_cases hdt:o.dst=some t
  ·refine ⟨i+1,by omega,?_,?_⟩
   ·rw [hS,hdt]
    have hlt:t<a.tmps.size:=by rw [hts];exact Wp hd ho t hdt
    have h1:(a.put (some t) rv).tmps.getD t undef=rv:=by simp [Act.put,hlt]
    rw [h1]
    simpa [Env.put,Env.get] using hv'
   ·intro k s hks hkd
    rw [hset]
    by_cases hki:k=i
    ·subst hki;simp
    ·obtain ⟨t1,t2⟩:=hO.tm i o k s t ho hks (Ne.symm hki) hkd (.inr hdt)
     constructor
     ·rintro (h | h)
      ·omega
      ·rcases qD k i with hlt | hge
       ·omega
       ·exact (hnot k s hks (t2 (by omega)) h).elim
     ·intro h
      exact .inr (hdone k (Qq hks) (t1 (by omega)))
  ·refine ⟨j,hj,?_,?_⟩
   ·have h1:(a.put o.dst rv).tmps.getD t undef=a.tmps.getD t undef:=by
     cases hq:o.dst with
     | none=>rfl
     | some d =>
      have:d≠t:=fun h=>hdt (by rw [hq,h])
      simp [Act.put,qV this]
    rw [h1];exact hE'.val hv
   ·intro k s hks hkd
    rw [hset]
    have hki:k≠i:=fun h=>by subst h;rw [ho] at hks;cases hks;exact hdt hkd
    rw [← hw k s hks hkd]
    exact ⟨fun h=>h.resolve_left hki,.inr⟩
 have hstm:W5 quiet i o=false→∀(s:Nat) (o:Oper),ops[s]?=some o→W5 quiet s o=true→((listed.setIfInBounds i true).getD s false=true↔s<m):=by
  intro hf s o' hs ho'
  rw [hset,← hst s o' hs ho']
  have:s≠i:=fun h=>by subst h;rw [ho] at hs;cases hs;rw [hf] at ho';cases ho'
  exact ⟨fun h=>h.resolve_left this,.inr⟩
 unfold wpOp
 simp only [ho]
 rcases hr.step i o ho with ⟨hw,v,hev1,hS⟩ | ⟨hw,hS⟩
 ·rw [W4 (hwant.trans hw) hRE]
  simp only [if_true]
  refine .inl ?_
  cases hs:W5 quiet i o with
  | true =>
   have hHm:c.H=(S i).2:=by
    rw [hcH]
    have him:m≤i:=by
     rcases qD i m with h | h
     ·have:=(hst i o ho hs).2 h
      rw [hl] at this;cases this
     ·exact h
    have:=hr.heap m (i-m) (by omega) fun k s k1 k2 hks=>by
     cases hq:W5 quiet k s with
     | false=>rfl
     | true =>
      have:=(hst k s hks hq).1 (hdone k (Qq hks) (hO.st i o k s ho hks (by omega) hs hq))
      omega
    rw [show m+(i-m)=i by omega] at this
    exact this.symm
   refine Vk hC hR hRE (by rw [hev,hHm];exact hev1) fun c' w' rv k1 k2 k3 k4=>?_
   refine fin c' w' rv v (i+1) (by omega) k1 k2 k3 k4 hS fun s o' hs' ho'=>?_
   rw [hset]
   by_cases hsi:s=i
   ·subst hsi;simp
   ·rcases qD s i with hlt | hge
    ·have:=hdone s (Qq hs') (hO.st i o s o' ho hs' hlt hs ho')
     simp [this];omega
    ·constructor
     ·rintro (h | h)
      ·omega
      ·exact (hnot s o' hs' (hO.st s o' i o hs' ho (by omega) ho' hs) h).elim
     ·omega
  | false =>
   have hsame:WG P pol f rg asg call o (S i).1 c.H=some (v,c.H):=by
    rw [hcH]
    by_cases hrd:(Vg o||quiet.contains i)=true
    ·have hp:=fun j s hj hs hne b1 b2=>hr.pair i o j s ho hj hrd hs hne b1 b2 hw v hev1
     rcases qD i m with him | him
     ·-- the last of the stateful ones in [i,m)
      by_cases hex:∃j s,ops[j]?=some s∧W5 quiet j s=true∧i≤j∧j<m
      ·have hlast:∀n,(∃j s,ops[j]?=some s∧W5 quiet j s=true∧i≤j∧j<m∧m≤j+n)→∃j s,ops[j]?=some s∧W5 quiet j s=true∧i≤j∧j<m∧∀k u,ops[k]?=some u→W5 quiet k u=true→j<k→¬k<m:=by
        intro n
        induction n with
        | zero=>rintro ⟨j,s,_,_,_,h4,h5⟩;omega
        | succ n ih =>
         rintro ⟨j,s,h1,h2,h3,h4,h5⟩
         by_cases hq:∃k u,ops[k]?=some u∧W5 quiet k u=true∧j<k∧k<m
         ·obtain ⟨k,u,q1,q2,q3,q4⟩:=hq
          exact ih ⟨k,u,q1,q2,by omega,q4,by omega⟩
         ·exact ⟨j,s,h1,h2,h3,h4,fun k u q1 q2 q3 q4=>hq ⟨k,u,q1,q2,q3,q4⟩⟩
       obtain ⟨j0,s0,g1,g2,g3,g4⟩:=hex
       obtain ⟨j,s,h1,h2,h3,h4,h5⟩:=hlast m ⟨j0,s0,g1,g2,g3,g4,by omega⟩
       have hij:i≠j:=fun h=>by subst h;rw [ho] at h1;cases h1;rw [hs] at h2;cases h2
       have hlj:=(hst j s h1 h2).2 h4
       have:=hp j s h1 h2 hij (by omega) (fun _ hB=>hnot j s h1 hB hlj) (j+1) (by rw [if_neg (by omega)])
       have hH:=hr.heap (j+1) (m-(j+1)) (by omega) fun k u k1 k2 hku=>by
        cases hq:W5 quiet k u with
        | false=>rfl
        | true=>exact absurd (by omega) (h5 k u hku hq (by omega))
       rw [show j+1+(m-(j+1))=m by omega] at hH
       rw [hH];exact this
      ·have hH:=hr.heap i (m-i) (by omega) fun k u k1 k2 hku=>by
        cases hq:W5 quiet k u with
        | false=>rfl
        | true=>exact absurd ⟨k,u,hku,hq,k1,by omega⟩ hex
       rw [show i+(m-i)=m by omega] at hH
       rw [hH,hev1,hr.still ho hs]
     ·-- the first of the stateful ones in [m,i)
      by_cases hex:∃j s,ops[j]?=some s∧W5 quiet j s=true∧m≤j∧j<i
      ·have hfirst:∀n,(∃j s,ops[j]?=some s∧W5 quiet j s=true∧m≤j∧j<i∧j<m+n)→∃j s,ops[j]?=some s∧W5 quiet j s=true∧m≤j∧j<i∧∀k u,ops[k]?=some u→W5 quiet k u=true→k<j→¬m≤k:=by
        intro n
        induction n with
        | zero=>rintro ⟨j,s,_,_,_,h4,h5⟩;omega
        | succ n ih =>
         rintro ⟨j,s,h1,h2,h3,h4,h5⟩
         by_cases hq:∃k u,ops[k]?=some u∧W5 quiet k u=true∧k<j∧m≤k
         ·obtain ⟨k,u,q1,q2,q3,q4⟩:=hq
          exact ih ⟨k,u,q1,q2,q4,by omega,by omega⟩
         ·exact ⟨j,s,h1,h2,h3,h4,fun k u q1 q2 q3 q4=>hq ⟨k,u,q1,q2,q3,q4⟩⟩
       obtain ⟨j0,s0,g1,g2,g3,g4⟩:=hex
       obtain ⟨j,s,h1,h2,h3,h4,h5⟩:=hfirst (j0+1) ⟨j0,s0,g1,g2,g3,g4,by omega⟩
       have hnl:¬B i j:=fun hB=>by
        have:=(hst j s h1 h2).1 (hdone j (Qq h1) hB)
        omega
       have:=hp j s h1 h2 (by omega) (fun _=>hnl) (by omega) j (by rw [if_pos h4])
       have hH:=hr.heap m (j-m) (by omega) fun k u k1 k2 hku=>by
        cases hq:W5 quiet k u with
        | false=>rfl
        | true=>exact absurd k1 (h5 k u hku hq (by omega))
       rw [show m+(j-m)=j by omega] at hH
       rw [← hH];exact this
      ·have hH:=hr.heap m (i-m) (by omega) fun k u k1 k2 hku=>by
        cases hq:W5 quiet k u with
        | false=>rfl
        | true=>exact absurd ⟨k,u,hku,hq,k1,by omega⟩ hex
       rw [show m+(i-m)=i by omega] at hH
       rw [← hH,hev1,hr.still ho hs]
    ·simp only [qO,not_or,Bool.not_eq_true] at hrd
     unfold W5 at hs
     rw [hrd.2] at hs
     exact (Uc (by simpa using hs) hev1).2 hrd.1 _
   refine Vk hC hR hRE (by rw [hev];exact hsame) fun c' w' rv k1 k2 k3 k4=>?_
   exact fin c' w' rv v m hm (k1.trans hcH) k2 k3 k4 hS (hstm hs)
 ·rw [W4 (hwant.trans hw) hRE]
  simp only [qG,if_false]
  have hS1:(S (i+1)).1=(S i).1.put o.dst (.tuple []):=by rw [hS]
  have hS2:(S (i+1)).2=(S i).2:=by rw [hS]
  cases hs:W5 quiet i o with
  | false=>exact fin c w undef (.tuple []) m hm hcH hR (.tuple [] #[] rfl (by simp)) (Evo.refl _ _ _) hS1 (hstm hs)
  | true =>
   have hHm:c.H=(S i).2:=by
    rw [hcH]
    have him:m≤i:=by
     rcases qD i m with h | h
     ·have:=(hst i o ho hs).2 h
      rw [hl] at this;cases this
     ·exact h
    have:=hr.heap m (i-m) (by omega) fun k s k1 k2 hks=>by
     cases hq:W5 quiet k s with
     | false=>rfl
     | true =>
      have:=(hst k s hks hq).1 (hdone k (Qq hks) (hO.st i o k s ho hks (by omega) hs hq))
      omega
    rw [show m+(i-m)=i by omega] at this
    exact this.symm
   refine fin c w undef (.tuple []) (i+1) (by omega) (hHm.trans hS2.symm) hR (.tuple [] #[] rfl (by simp)) (Evo.refl _ _ _) hS1 fun s o' hs' ho'=>?_
   rw [hset]
   by_cases hsi:s=i
   ·subst hsi;simp
   ·rcases qD s i with hlt | hge
    ·have:=hdone s (Qq hs') (hO.st i o s o' ho hs' hlt hs ho')
     simp [this];omega
    ·constructor
     ·rintro (h | h)
      ·omega
      ·exact (hnot s o' hs' (hO.st s o' i o hs' ho (by omega) ho' hs) h).elim
     ·omega

end
end Go.HL


/- Regions in any order: the whole. -/
namespace Go.HL
section
variable {P:Program} {pol:Pol} {f:FuncId} {rg:Nat} {ops:Array Oper} {asg:List Nat} {call:QB} {quiet:List Nat} {B:Nat→Nat→Prop} {S:Nat→Env×Heap} {lo:Nat}

def Kn (n:Nat) (listed:Array Bool):List Nat:=(List.range n).filter fun i=>!listed.getD i false

theorem C6 {n i:Nat} {listed:Array Bool} (hi:i<n) (hl:listed.getD i false=false) (hs:listed.size=n):(Kn n (listed.setIfInBounds i true)).length<(Kn n listed).length:=by
 have h:Kn n (listed.setIfInBounds i true)=(Kn n listed).filter (fun j=>j != i):=by
  unfold Kn
  rw [List.filter_filter]
  refine List.filter_congr fun k hk=>?_
  have:=Ue (listed:=listed) (i:=i) (by omega) k
  by_cases hki:k=i
  ·subst hki
   have h1:=this.2 (.inl rfl)
   rw [h1];simp
  ·have h2:(listed.setIfInBounds i true).getD k false=listed.getD k false:=by
    cases hq:listed.getD k false with
    | true=>exact this.2 (.inr hq)
    | false =>
     cases hq':(listed.setIfInBounds i true).getD k false with
     | false=>rfl
     | true =>
       rcases this.1 hq' with h | h
       ·exact absurd h hki
       ·rw [hq] at h;cases h
   rw [h2,show (k != i)=true by simpa using hki]
   simp
 rw [h,List.length_filter_lt_length_iff_exists]
 exact ⟨i,List.mem_filter.2 ⟨List.mem_range.2 hi,by simp only [hl];rfl⟩,by simp⟩

theorem Inv.all {c0:Ctx} {w0:World} {a0:Act} {listed:Array Bool} {a:Act} {w:World} (hO:Ord quiet ops B) (hI:Inv ops quiet S lo c0 w0 a0 listed a w) (hr:Region.ready .any ops listed=[]) :
  ∀i,i<ops.size→listed.getD i false=true:=by
 intro i
 induction i using qJ with
 | _ i ih =>
  intro hi
  obtain ⟨o,ho⟩:=DQ hi
  cases hl:listed.getD i false with
  | true=>rfl
  | false =>
   have:i∈Region.ready .any ops listed:=by
    rw [mem_ready]
    refine ⟨?_,o,ho,fun e he hb=>ih e.on (hO.acyc i o ho e he hb) (by have:=hO.acyc i o ho e he hb;omega)⟩
    have hlt:i<listed.size:=by rw [hI.size];exact hi
    simpa [qI,hlt] using hl
   rw [hr] at this
   cases this

theorem Inv.end {Q:Act→World→Prop} {c0:Ctx} {w0:World} {a0:Act} {listed:Array Bool} {a:Act} {w:World} (hr:Run P pol f rg ops asg call quiet B S) (hI:Inv ops quiet S lo c0 w0 a0 listed a w)
  (ha:∀i,i<ops.size→listed.getD i false=true) (hK:After lo c0 w0 a0 (S ops.size).1 (S ops.size).2 Q):Q a w:=by
 obtain ⟨hsz,hclo,⟨c,m,hm,hcH,hR,hE,hst,hslot⟩,hdf,hts⟩:=hI
 refine hK c w a ?_ hR ?_ hE hdf hts
 ·have:=hr.heap m (ops.size-m) (by omega) fun k s k1 k2 hks=>by
   cases hq:W5 quiet k s with
   | false=>rfl
   | true =>
    have:=(hst k s hks hq).1 (ha k (Qq hks))
    omega
  rw [show m+(ops.size-m)=ops.size by omega] at this
  rw [hcH,this]
 ·intro t
  obtain ⟨j,hj,hv,hw⟩:=hslot t
  have:=hr.get' t j ops.size hj (qE _) fun k s hk hks hd=>by
   have:=(hw k s hks hd).1 (ha k (Qq hks))
   have:=Qq hks
   omega
  rw [← this];exact hv

theorem GU {Q:Exit→Act→World→Prop} {c0:Ctx} {w0:World} {a0:Act} (hC:Qo P call) (hO:Ord quiet ops B) (hr:Run P pol f rg ops asg call quiet B S) (hd:Zj a0.tmps.size ops=true)
  (hK:After lo c0 w0 a0 (S ops.size).1 (S ops.size).2 (Q .normal)) :
  ∀(fuel:Nat) (listed:Array Bool) (a:Act) (w:World),Inv ops quiet S lo c0 w0 a0 listed a w→(Kn ops.size listed).length≤fuel→wpAny P .any ops Q fuel listed a w
 | 0,listed,a,w,hI,hu=>by
  have ha:∀i,i<ops.size→listed.getD i false=true:=by
   intro i hi
   have h0:Kn ops.size listed=[]:=qQ (by omega)
   cases hq:listed.getD i false with
   | true=>rfl
   | false =>
    have:i∈Kn ops.size listed:=List.mem_filter.2 ⟨List.mem_range.2 hi,by simp only [hq];rfl⟩
    rw [h0] at this;cases this
  refine ⟨?_,hI.end hr ha hK⟩
  cases hq:Region.ready .any ops listed with
  | nil=>rfl
  | cons i l =>
   have:i∈Region.ready .any ops listed:=by rw [hq];simp
   rw [mem_ready] at this
   obtain ⟨h1,o,ho,_⟩:=this
   have h2:=ha i (Qq ho)
   have hlt:i<listed.size:=by rw [hI.size];exact Qq ho
   simp [qI,hlt] at h1 h2
   rw [h1] at h2;cases h2
 | fuel+1,listed,a,w,hI,hu=>by
  refine ⟨fun hq=>hI.end hr (hI.all hO hq) hK,fun i hi=>?_⟩
  rw [mem_ready] at hi
  obtain ⟨h1,o,ho,h2⟩:=hi
  have hlt:i<listed.size:=by rw [hI.size];exact Qq ho
  have hl:listed.getD i false=false:=by simpa [qI,hlt] using h1
  refine Inv.step hC hO hr hd hI ho hl h2 fun a' w' hI'=>GU hC hO hr hd hK fuel _ a' w' hI' ?_
  have:=C6 (Qq ho) hl hI.size
  omega

def Xk (nt:Nat) (quiet:List Nat) (ops:Array Oper) (draw:Bool):Bool:=Zj nt ops&&(!draw||DP quiet ops)

theorem WChg.drew (w:World):WChg w w.drew none:=⟨rfl,rfl,rfl,qE _,fun _ _ _=>rfl,fun _ cs T fz h=>⟨cs,T,fz,h,rfl⟩⟩

theorem GV {Q:Exit→Act→World→Prop} {c:Ctx} {w:World} {a:Act} {draw:Bool} {e e':Env} {H':Heap} (hm:P.follows .mixedOrders=true) (hC:Qo P call) (hR:Rel lo c w) (he:RelE w c lo e a.tmps)
  (hd:Xk a.tmps.size (pol.quiet f rg) ops draw=true) (h:Zn P pol f rg ops draw call e c.H=some (e',H')) (hK:After lo c w a e' H' (Q .normal)):(Code.region rg ops draw).wp P Q a w:=by
 unfold Xk at hd
 rw [qB] at hd
 unfold Zn at h
 have hops:ZH P pol f rg ops (ZG ops.toList) call ops.toList e c.H=some (e',H'):=by
  simp only at h
  split at h
  ·split at h
   ·exact h
   ·cases h
  ·exact h
 cases draw with
 | false=>exact QaV hC hR he hd.1 hops hK
 | true =>
  have hchk:(chk ops (pol.quiet f rg)).all (Kf P pol f rg ops (ZG ops.toList) call (ZA P pol f rg ops (ZG ops.toList) call ops.toList e c.H))=true:=by
   simp only [Bool.true_and] at h
   split at h
   ·split at h
    ·assumption
    ·cases h
   ·rename_i hq
    have:chk ops (pol.quiet f rg)=[]:=by simpa using hq
    rw [this];rfl
  have hO:=GT (by simpa using hd.2)
  obtain ⟨S,hS0,hSn,hr⟩:=Qha hops hchk
  obtain ⟨hR1,hE1⟩:=Xd hR (WChg.drew w)
  apply wp_region_any hm
  refine GU (c0:=c) (w0:=w.drew) (a0:=a) (lo:=lo) hC hO hr hd.1 (by rw [hSn];exact fun c' w' a' k1 k2 k3 k4 k5 k6=>hK c' w' a' k1 k2 k3 (hE1.trans k4) k5 k6) ops.size _ a _ ?_ ?_
  ·refine ⟨by simp,?_,⟨c,0,Nat.zero_le _,by rw [hS0],hR1,Evo.refl _ _ _,?_,fun t=>⟨0,Nat.zero_le _,by rw [hS0];exact (he.evo hE1) t,?_⟩⟩,rfl,rfl⟩
   ·intro i o ho hl
    have:=Qq ho
    simp [this] at hl
   ·intro s o hs _
    have:=Qq hs
    simp [this]
   ·intro k o hk _
    have:=Qq hk
    simp [this]
  ·unfold Kn
   exact qF (List.length_filter_le _ _) (by simp)

end
end Go.HL


/- Code: the ghost's run of it is the model's. -/
namespace Go.HL
section
variable {P:Program} {lo:Nat}

/-! ### Letting blocks go -/

def Ctx.cut (c:Ctx) (n:Nat):Ctx:=⟨c.H.take n,fun b=>if b<n then c.σ b else none⟩

def Agree (n:Nat) (c d:Ctx):Prop:=∀b,b<n→d.H[b]?=c.H[b]?∧d.σ b=c.σ b

theorem U5 {c:Ctx} {n m:Nat} (h:m≤n):Agree m c (c.cut n):=by
 intro b hb
 have:b<n:=by omega
 unfold Ctx.cut
 refine ⟨?_,by simp [this]⟩
 rw [qR];simp [this]

theorem Agree.le {c d:Ctx} {m n:Nat} (h:Agree n c d) (hm:m≤n):Agree m c d:=fun b hb=>h b (by omega)

theorem Xl:∀{l:List HV} {v:HV},v∈l→bnd v≤bndL l
 | x::l,v,h=>by
  rw [bndL]
  cases h with
  | head=>exact qK _ _
  | tail _ h=>exact qF (Xl h) (qL _ _)

theorem V.agree {w:World} {ok:Bool→Nat→Prop} {c:Ctx} {v:HV} {rv:Value} (h:V w ok c v rv):∀{d:Ctx},Agree (bnd v) c d→V w ok d v rv:=by
 induction h with
 | undef v=>exact fun _=>.undef v
 | int k n=>exact fun _=>.int k n
 | bool b=>exact fun _=>.bool b
 | str s=>exact fun _=>.str s
 | nilmap=>exact fun _=>.nilmap
 | nilFunc=>exact fun _=>.nilFunc
 | nilS k cap=>exact fun _=>.nilS k cap
 | empS k a cap=>exact fun _=>.empS k a cap
 | agg cs rs hl hc h ih=>exact fun hd=>.agg cs rs hl hc fun i v r h1 h2=>ih i v r h1 h2 (hd.le (by rw [bnd];exact Xl (qA h1)))
 | tuple cs rs hl h ih=>exact fun hd=>.tuple cs rs hl fun i v r h1 h2=>ih i v r h1 h2 (hd.le (by rw [bnd];exact Xl (qA h1)))
 | imm g k l a cap f hcap hlit haddr hk hc hv ih=>exact fun _=>.imm g k l a cap f hcap hlit haddr hk hc hv
 | sl b off len cap tot k a cap' h =>
  intro d hd
  obtain ⟨h1,h2,h3,blk,hb,h4⟩:=h
  obtain ⟨g1,g2⟩:=hd b (by rw [bnd];omega)
  refine .sl b off len cap tot k a cap' ⟨h1,h2,h3,blk,g1.trans hb,?_⟩
  cases blk <;> simp only [g2] <;> exact h4
 | aview b i off len a cap' h =>
  intro d hd
  obtain ⟨h1,blk,hb,h4⟩:=h
  obtain ⟨g1,g2⟩:=hd b (by rw [bnd];omega)
  refine .aview b i off len a cap' ⟨h1,blk,g1.trans hb,?_⟩
  cases blk <;> simp only [g2] <;> exact h4
 | ptr b i off tot a h =>
  intro d hd
  obtain ⟨blk,hb,h4⟩:=h
  obtain ⟨g1,g2⟩:=hd b (by rw [bnd];omega)
  refine .ptr b i off tot a ⟨blk,g1.trans hb,?_⟩
  cases blk <;> simp only [g2] <;> exact h4
 | vptr v r o f hr hok hc h1 h ih=>exact fun _=>.vptr v r o f hr hok hc h1 h
 | map b r ks vs mx hH hs =>
  intro d hd
  obtain ⟨g1,g2⟩:=hd b (by rw [bnd];omega)
  exact .map b r ks vs mx (g1.trans hH) (g2.trans hs)
 | imap g ks vs r es clock hr hok hwr hl hl' hkp hk hv ihk ihv=>exact fun _=>.imap g ks vs r es clock hr hok hwr hl hl' hkp hk hv
 | func f fa ca ra rc hl hl' h h' ih ih' =>
  exact fun hd=>.func f fa ca ra rc hl hl' (fun i v r h1 h2=>ih i v r h1 h2 (hd.le (by rw [bnd];exact qF (Xl (qA h1)) (qK _ _))))
   (fun i v r h1 h2=>ih' i v r h1 h2 (hd.le (by rw [bnd];exact qF (Xl (qA h1)) (qL _ _))))

theorem Qnq {c:Ctx} {n r:Nat} (h:(c.cut n).M r):c.M r:=by
 rw [M_iff] at *
 obtain ⟨b,x,h1,h2,h3⟩:=h
 unfold Ctx.cut at h1 h3
 simp only at h1 h3
 rw [qR] at h1
 split at h1
 ·rename_i hb
  simp only [hb,if_true] at h3
  exact ⟨b,x,h1,h2,h3⟩
 ·cases h1

theorem Qd8 {c:Ctx} {n:Nat} {t:Bool} {r:Nat} (h:Qg c lo t r):Qg (c.cut n) lo t r:=⟨fun hm=>h.1 (Qnq hm),h.2⟩

theorem QbS (w:World) (c:Ctx) (n:Nat):WEvo w (Qg c lo) w (Qg (c.cut n) lo) :=
 ⟨rfl,rfl,rfl,qE _,fun _ _ _ h=>⟨Qd8 h,rfl⟩,fun r cs T fz h=>⟨cs,T,fz,h,rfl⟩⟩

theorem V.cut {w:World} {c:Ctx} {v:HV} {rv:Value} {n:Nat} (h:V w (Qg c lo) c v rv) (hn:bnd v≤n):V w (Qg (c.cut n) lo) (c.cut n) v rv :=
 (h.agree (U5 hn)).evo (QbS w c n) (CEvo.refl _)

theorem QbT:∀{H:Heap} {b:Nat} {x:Blk},H[b]?=some x→x.mx≤mxs H
 | y::H,0,x,h=>by simp at h;subst h;rw [mxs];exact qK _ _
 | y::H,b+1,x,h=>by rw [mxs];exact qF (QbT (H:=H) (b:=b) (by simpa using h)) (qL _ _)

theorem Xm {c:Ctx} {w:World} {n:Nat} (hR:Rel lo c w) (hn:mxs c.H≤n):Rel lo (c.cut n) w:=by
 refine ⟨?_,?_,?_,hR.low⟩
 ·intro b x hb
  have hb':b<n∧c.H[b]?=some x:=by
   unfold Ctx.cut at hb
   simp only at hb
   rw [qR] at hb
   split at hb
   ·exact ⟨by assumption,hb⟩
   ·cases hb
  have hs:(c.cut n).σ b=c.σ b:=by simp [Ctx.cut,hb'.1]
  have hmx:=QbT hb'.2
  have h:=hR.blk b x hb'.2
  cases x with
  | arr k els wr mx =>
   obtain ⟨h1,h2⟩:=h
   refine ⟨h1,?_⟩
   rw [hs]
   revert h2
   cases c.σ b with
   | none=>exact id
   | some r =>
    rintro ⟨g1,cs,T,g2,g3,g4⟩
    refine ⟨g1,cs,T,g2,g3,fun i v j x hv hx=>?_⟩
    obtain ⟨y,q1,q2⟩:=g4 i v j x hv hx
    refine ⟨y,q1,q2.cut ?_⟩
    have a1:=GH (qA hx)
    have a2:=(h1 v (qA hv)).2.2
    have a3:mx≤mxs c.H:=hmx
    omega
  | map ks vs mx =>
   obtain ⟨h1,h2,r,g1,g2,es,clock,g3,g4,g5,g6,g7⟩:=h
   refine ⟨h1,h2,r,hs.trans g1,g2,es,clock,g3,g4,g5,fun i v m q1 q2=>(g6 i v m q1 q2).evo (QbS w c n) (CEvo.refl _),fun i v m q1 q2=>(g7 i v m q1 q2).cut ?_⟩
   have a2:=h1 v (qA q1)
   have a3:mx≤mxs c.H:=hmx
   omega
  | iter m s sn c0 =>
   obtain ⟨r,g1,g2,g3⟩:=h
   exact ⟨r,hs.trans g1,g2,g3⟩
  | dead=>trivial
 ·intro b b' r h1 h2
  unfold Ctx.cut at h1 h2
  simp only at h1 h2
  split at h1
  ·split at h2
   ·exact hR.inj b b' r h1 h2
   ·cases h2
  ·cases h1
 ·intro b r h1
  unfold Ctx.cut at h1 ⊢
  simp only at h1 ⊢
  split at h1
  ·obtain ⟨q1,q2⟩:=hR.dom b r h1
   refine ⟨?_,q2⟩
   rw [List.length_take];omega
  ·cases h1

theorem Evo.cut {c c':Ctx} {w w':World} {n:Nat} (h:Evo lo c w c' w') (hn:c.H.length≤n):Evo lo c w (c'.cut n) w':=by
 have hag:Agree c.H.length c' (c'.cut n):=U5 hn
 refine ⟨h.W.trans (QbS w' c' n),?_,h.out⟩
 have hC:=h.C
 refine ⟨?_,?_,?_,?_,?_⟩
 ·have:=hC.len
  unfold Ctx.cut
  simp only [List.length_take]
  omega
 ·intro b k els wr mx hb
  obtain ⟨g1,g2⟩:=hag b (QE hb)
  rw [g1,g2]
  exact hC.arr b k els wr mx hb
 ·intro b ks vs mx hb
  obtain ⟨g1,g2⟩:=hag b (QE hb)
  rw [g1,g2]
  exact hC.map b ks vs mx hb
 ·intro b hb
  obtain ⟨g1,g2⟩:=hag b (QE hb)
  rw [g1]
  exact hC.dead b hb
 ·intro b m s sn c0 hb
  obtain ⟨g1,g2⟩:=hag b (QE hb)
  rw [g1,g2]
  exact hC.iter b m s sn c0 hb

theorem SP:∀(e:Env) (t:Nat),bnd (e.get t)≤Zm e
 | [],t=>by simp [Env.get,bnd]
 | (s,v)::e,t=>by
  simp only [Env.get,Zm]
  split
  ·exact qK _ _
  ·exact qF (SP e t) (qL _ _)

theorem RelE.cut {w:World} {c:Ctx} {e:Env} {tmps:Array Value} {n:Nat} (h:RelE w c lo e tmps) (hn:Zm e≤n):RelE w (c.cut n) lo e tmps :=
 fun t=>(h t).cut (qF (SP e t) hn)

/-! ### Code -/

def W6 (nt:Nat) (quiet:Nat→List Nat):Code→Bool
 | .region id ops draw=>Xk nt (quiet id) ops draw
 | .seq a b=>W6 nt quiet a&&W6 nt quiet b
 | .cond _ a b=>W6 nt quiet a&&W6 nt quiet b
 | .block _ b=>W6 nt quiet b
 | .loop b=>W6 nt quiet b
 | _=>true

def X.exit':X→Exit
 | .normal=>.normal
 | .exit id=>.exit id
 | .ret=>.ret

def QbU (P:Program) (Q:Exit→Act→World→Prop) (n:Nat) (a:Act) (w:World):Code→Prop
 | .loop b=>Code.rounds P b Q n a w
 | _=>True

theorem Ju {pol:Pol} {call:QB} {f:FuncId} (hm:P.follows .mixedOrders=true) (hC:Qo P call) :
  ∀(n:Nat) (cd:Code) {c:Ctx} {w:World} {a:Act} {e e':Env} {x:X} {H':Heap} {Q:Exit→Act→World→Prop},W6 a.tmps.size (pol.quiet f) cd=true→Rel lo c w→RelE w c lo e a.tmps →
   evC P pol call n f cd e c.H=some (x,e',H')→After lo c w a e' H' (Q x.exit')→cd.wp P Q a w∧QbU P Q n a w cd
 | 0,cd,c,w,a,e,e',x,H',Q,hok,hR,he,h,hK=>by cases h
 | n+1,cd,c,w,a,e,e',x,H',Q,hok,hR,he,h,hK=>by
  cases cd with
  | skip =>
   cases h
   exact ⟨wp_skip (hK c w a rfl hR he (Evo.refl _ _ _) rfl rfl),trivial⟩
  | label l =>
   cases h
   exact ⟨wp_label (hK c w a rfl hR he (Evo.refl _ _ _) rfl rfl),trivial⟩
  | exit id =>
   cases h
   exact ⟨wp_exit (hK c w a rfl hR he (Evo.refl _ _ _) rfl rfl),trivial⟩
  | ret =>
   cases h
   exact ⟨wp_ret (hK c w a rfl hR he (Evo.refl _ _ _) rfl rfl),trivial⟩
  | region id ops draw =>
   simp only [evC] at h
   split at h
   ·rename_i e1 H1 hev
    cases h
    exact ⟨GV hm hC hR he hok hev hK,trivial⟩
   ·cases h
  | seq ca cb =>
   simp only [W6,qB] at hok
   simp only [evC] at h
   refine ⟨?_,trivial⟩
   apply wp_seq
   split at h
   ·rename_i e1 H1 hev
    refine (Ju hm hC n ca hok.1 hR he hev fun c1 w1 a1 k1 k2 k3 k4 k5 k6=>?_).1
    subst k1
    refine (Ju hm hC n cb (by rw [k6];exact hok.2) k2 (k3.restr _) h fun c2 w2 a2 j1 j2 j3 j4 j5 j6=>?_).1
    exact hK c2 w2 a2 j1 j2 j3 (k4.trans j4) (j5.trans k5) (j6.trans k6)
   ·rename_i hne
    refine (Ju hm hC n ca hok.1 hR he h fun c1 w1 a1 k1 k2 k3 k4 k5 k6=>?_).1
    have:=hK c1 w1 a1 k1 k2 k3 k4 k5 k6
    cases x with
    | normal=>exact absurd h (by intro hq;exact hne _ _ hq)
    | exit id=>exact this
    | ret=>exact this
  | cond cc ca cb =>
   simp only [W6,qB] at hok
   simp only [evC] at h
   refine ⟨?_,trivial⟩
   split at h
   ·rename_i t ht
    have h1:=Jg he cc
    rw [ht] at h1
    refine wp_cond (t:=t) h1.bool_inv ?_
    refine (Ju hm hC n _ ?_ hR (he.restr _) h hK).1
    cases t
    ·exact hok.2
    ·exact hok.1
   ·cases h
  | block id b =>
   simp only [W6] at hok
   simp only [evC] at h
   refine ⟨?_,trivial⟩
   apply wp_block
   split at h
   ·rename_i i e1 H1 hev
    refine (Ju hm hC n b hok hR he hev fun c1 w1 a1 k1 k2 k3 k4 k5 k6=>?_).1
    show Exit.inBlock id Q (.exit i) a1 w1
    simp only [Exit.inBlock]
    by_cases hi:i=id
    ·rw [if_pos hi] at h ⊢
     cases h
     exact hK c1 w1 a1 k1 k2 k3 k4 k5 k6
    ·rw [if_neg hi] at h ⊢
     cases h
     exact hK c1 w1 a1 k1 k2 k3 k4 k5 k6
   ·rename_i hne
    refine (Ju hm hC n b hok hR he h fun c1 w1 a1 k1 k2 k3 k4 k5 k6=>?_).1
    have:=hK c1 w1 a1 k1 k2 k3 k4 k5 k6
    cases x with
    | normal=>exact this
    | exit id=>exact absurd h (by intro hq;exact hne _ _ _ hq)
    | ret=>exact this
  | loop b =>
   simp only [W6] at hok
   simp only [evC] at h
   have hr:Code.rounds P b Q (n+1) a w:=by
    rw [rounds_succ]
    split at h
    ·rename_i e1 H1 hev
     refine (Ju hm hC n b hok hR ((he.restr _).restr _) hev fun c1 w1 a1 k1 k2 k3 k4 k5 k6=>?_).1
     show Code.rounds P b Q n a1 w1
     subst k1
     have hcut:gc c.H.length (Zm (QQ pol f b e1)) c1.H=(c1.cut (max c.H.length (max (Zm (QQ pol f b e1)) (mxs c1.H)))).H:=rfl
     rw [hcut] at h
     refine (Ju hm hC n (.loop b) (by rw [k6];exact hok) (Xm k2 (by omega)) (((k3.restr _).restr _).cut (by unfold QQ;omega)) h fun c2 w2 a2 j1 j2 j3 j4 j5 j6=>?_).2
     exact hK c2 w2 a2 j1 j2 j3 ((k4.cut (by omega)).trans j4) (j5.trans k5) (j6.trans k6)
    ·rename_i hne
     refine (Ju hm hC n b hok hR ((he.restr _).restr _) h fun c1 w1 a1 k1 k2 k3 k4 k5 k6=>?_).1
     have:=hK c1 w1 a1 k1 k2 k3 k4 k5 k6
     cases x with
     | normal=>exact absurd h (by intro hq;exact hne _ _ hq)
     | exit id=>exact this
     | ret=>exact this
   exact ⟨wp_loop_rounds (n+1) hr,hr⟩
  | _=>cases h

end
end Go.HL


/- Arguments, as the called function sees them. -/
namespace Go.HL
section
variable {w:World} {c:Ctx} {P:Program} {lo:Nat} {rv:Value}

theorem Q6 {α β:Type} {F:α→Option β}:∀{l:List α} {l':List β},mapO F l=some l'→l'.length=l.length∧∀(i:Nat) (v:α) (v':β),l[i]?=some v→l'[i]?=some v'→F v=some v'
 | [],l',h=>by cases h;simp
 | x::l,l',h=>by
  unfold mapO at h
  split at h
  ·cases h
  ·rename_i y hy
   split at h
   ·cases h
   ·rename_i ys hys
    cases h
    obtain ⟨h1,h2⟩:=Q6 hys
    refine ⟨by simp [h1],fun i v v' g1 g2=>?_⟩
    cases i with
    | zero=>simp at g1 g2;subst g1;subst g2;exact hy
    | succ i=>exact h2 i v v' (by simpa using g1) (by simpa using g2)

theorem Uf:∀(l:List HV),argPL l=mapO argP l
 | []=>rfl
 | v::l=>by
  rw [argPL,mapO,Uf l]
  cases argP v <;> cases mapO argP l <;> rfl

structure Kept (F:HV→Option HV):Prop where
 kind:∀v v',F v=some v'→QZ v'=QZ v∧(Ql v=true→Ql v'=true)

theorem ZL {v:HV} (h:QZ v=false):cellsOf v=[v]:=by cases v <;> first | rfl | cases h

theorem XR:∀{v v':HV},argP v=some v'→QZ v'=QZ v∧(Ql v=true→Ql v'=true):=by
 intro v v' h
 cases v <;> simp only [argP] at h <;> first
  | (cases h;done)
  | (cases h;exact ⟨rfl,id⟩)
  | (split at h <;> first | (cases h;done) | (cases h;exact ⟨rfl,by simp [Ql]⟩))

theorem VT {H:Heap}:∀{d:Nat} {v v':HV},Qx H d v=some v'→QZ v'=QZ v∧(Ql v=true→Ql v'=true)
 | 0,v,v',h=>XR h
 | d+1,v,v',h=>by
  cases v <;> simp only [Qx] at h
  case sl b off len cap tot k =>
   split at h
   ·cases h;exact ⟨rfl,fun _=>rfl⟩
   ·split at h
    ·split at h
     ·cases h;exact ⟨rfl,fun _=>rfl⟩
     ·cases h
    ·cases h
  case aview b i off len =>
   split at h
   ·split at h
    ·split at h
     ·split at h
      ·cases h;exact ⟨rfl,fun _=>rfl⟩
      ·cases h
     ·cases h
    ·cases h
   ·cases h
  case map b =>
   split at h
   ·split at h
    ·cases h;exact ⟨rfl,fun _=>rfl⟩
    ·cases h
   ·cases h
  case agg cs =>
   split at h
   ·cases h;exact ⟨rfl,by simp [Ql]⟩
   ·cases h
  case func f a b =>
   split at h
   ·cases h;exact ⟨rfl,fun _=>rfl⟩
   ·cases h
  all_goals exact XR h

theorem QaX {H:Heap} {d:Nat} {cs:List HV} {v':HV} (h:Qx H d (.agg cs)=some v'):∃cs' d',v'=.agg cs'∧d'≤d∧mapO (Qx H d') cs=some cs':=by
 cases d with
 | zero =>
  simp only [Qx,argP] at h
  split at h
  ·rename_i l hl
   cases h
   refine ⟨l,0,rfl,qE _,?_⟩
   rw [Uf] at hl
   exact hl
  ·cases h
 | succ d =>
  simp only [Qx] at h
  split at h
  ·rename_i l hl
   cases h
   exact ⟨l,d,rfl,by omega,hl⟩
  ·cases h

theorem KY {H:Heap} {d:Nat} {v v':HV} (h:Qx H d v=some v'):(cellsOf v').length=(cellsOf v).length∧((cellsOf v).all Ql=true→(cellsOf v').all Ql=true) ∧
  ∀(j:Nat) (x x':HV),(cellsOf v)[j]?=some x→(cellsOf v')[j]?=some x'→∃d',d'≤d∧Qx H d' x=some x':=by
 cases hv:QZ v with
 | false =>
  obtain ⟨h1,h2⟩:=VT h
  rw [ZL hv,ZL (h1.trans hv)]
  refine ⟨rfl,fun hc=>by simpa using h2 (by simpa using hc),fun j x x' g1 g2=>?_⟩
  cases j with
  | zero=>simp at g1 g2;subst g1;subst g2;exact ⟨d,qE _,h⟩
  | succ j=>simp at g1
 | true =>
  cases v with
  | agg cs =>
   obtain ⟨cs',d',rfl,hd,hm⟩:=QaX h
   obtain ⟨m1,m2⟩:=Q6 hm
   refine ⟨m1,fun hc=>?_,fun j x x' g1 g2=>⟨d',hd,m2 j x x' g1 g2⟩⟩
   simp only [cellsOf,qS] at hc ⊢
   intro x' hx'
   obtain ⟨i,hi⟩:=List.mem_iff_getElem?.1 hx'
   have hlt:=Qd hi
   have hx:cs[i]?=some cs[i]:=by simp [show i<cs.length by omega]
   exact (VT (m2 i _ x' hx hi)).2 (hc _ (qA hx))
  | _=>cases hv

theorem U6 {ok':Bool→Nat→Prop} {d:Ctx} {F:HV→Option HV} {g:G} {k:Nat} {l l':List HV} {a:Option Addr} {cap:Nat} {news:List Value} (h:Shows w c lo k l a news) (hcap:l.length≤cap) (hlit:g=.lit→cap=l.length)
  (hF:mapO F l=some l') (hat:l≠[]→∃r off,a=some ⟨r,off,none⟩∧r<w.heap.size∧ok' (g != .arg) r)
  (hcell:∀v v',v∈l→F v=some v'→(cellsOf v').length=(cellsOf v).length∧((cellsOf v).all Ql=true→(cellsOf v').all Ql=true) ∧
   ∀(j:Nat) (x x':HV) (y:Value),(cellsOf v)[j]?=some x→(cellsOf v')[j]?=some x'→V w (Qg c lo) c x y→V w ok' Ctx.nil x' y) :
  V w ok' d (.imm g k l') (.slice a l.length cap):=by
 obtain ⟨m1,m2⟩:=Q6 hF
 rw [← m1]
 have hpre:∀(i:Nat) (v':HV),l'[i]?=some v'→∃v,l[i]?=some v∧F v=some v':=by
  intro i v' hi
  have hlt:=Qd hi
  have hx:l[i]?=some l[i]:=by simp [show i<l.length by omega]
  exact ⟨_,hx,m2 i _ v' hx hi⟩
 refine .imm g k l' a cap (fun j=>news.getD j undef) (by omega) (fun hg=>by rw [m1];exact hlit hg) (fun hne=>?_) ?_ ?_ ?_
 ·have hne':l≠[]:=fun hq=>hne (qQ (by rw [m1,hq];rfl))
  obtain ⟨r,off,rfl,hr,hok⟩:=hat hne'
  refine ⟨r,off,rfl,hr,hok,fun j hj=>?_⟩
  obtain ⟨ad,h1,h2⟩:=h.at_ hne'
  cases h1
  have hj':j<news.length:=by rw [h.len,← m1];exact hj
  rw [← Q4]
  rw [h2 j _ (List.getElem?_eq_getElem hj')]
  simp [hj']
 ·intro v' hv'
  obtain ⟨i,hi⟩:=List.mem_iff_getElem?.1 hv'
  obtain ⟨v,q1,q2⟩:=hpre i v' hi
  rw [(hcell v v' (qA q1) q2).1]
  exact h.row.2.1 v (qA q1)
 ·intro v' hv'
  obtain ⟨i,hi⟩:=List.mem_iff_getElem?.1 hv'
  obtain ⟨v,q1,q2⟩:=hpre i v' hi
  exact (hcell v v' (qA q1) q2).2.1 (h.els v (qA q1))
 ·intro i v' j x' hv' hx'
  obtain ⟨v,q1,q2⟩:=hpre i v' hv'
  obtain ⟨c1,c2,c3⟩:=hcell v v' (qA q1) q2
  have hlt:=Qd hx'
  have hx:(cellsOf v)[j]?=some (cellsOf v)[j]:=by simp [show j<(cellsOf v).length by omega]
  obtain ⟨y,h1,h2⟩:=h.row.2.2 i v j _ q1 hx
  simp only [List.getD,h1,Option.getD_some]
  exact c3 j _ x' y hx hx' h2

theorem SQ {okA:Bool→Nat→Prop} (hA:∀r,okA false r) {ok:Bool→Nat→Prop} {v:HV} (h:V w ok c v rv):∀{v':HV} (e:Ctx),argP v=some v'→V w okA e v' rv:=by
 have vec:∀{l l':List HV},argPL l=some l'→l'.length=l.length∧(∀(i:Nat) (v':HV),l'[i]?=some v'→∃v,l[i]?=some v∧argP v=some v'):=by
  intro l l' hl
  rw [Uf] at hl
  obtain ⟨m1,m2⟩:=Q6 hl
  refine ⟨m1,fun i v' hi=>?_⟩
  have hlt:=Qd hi
  have hx:l[i]?=some l[i]:=by simp [show i<l.length by omega]
  exact ⟨_,hx,m2 i _ v' hx hi⟩
 have cells:∀{v v':HV},argP v=some v'→(cellsOf v').length=(cellsOf v).length∧((cellsOf v).all Ql=true→(cellsOf v').all Ql=true) ∧
   ∀(j:Nat) (x':HV),(cellsOf v')[j]?=some x'→∃x,(cellsOf v)[j]?=some x∧argP x=some x':=by
  intro v v' hv
  obtain ⟨c1,c2,c3⟩:=KY (H:=[]) (d:=0) (v:=v) (v':=v') hv
  refine ⟨c1,c2,fun j x' hx'=>?_⟩
  have hlt:=Qd hx'
  have hx:(cellsOf v)[j]?=some (cellsOf v)[j]:=by simp [show j<(cellsOf v).length by omega]
  obtain ⟨d',hd,hh⟩:=c3 j _ x' hx hx'
  have:d'=0:=by omega
  subst this
  exact ⟨_,hx,hh⟩
 induction h with
 | undef v=>intro v' e h;cases h;exact .undef v
 | int k n=>intro v' e h;cases h;exact .int k n
 | bool b=>intro v' e h;cases h;exact .bool b
 | str s=>intro v' e h;cases h;exact .str s
 | nilmap=>intro v' e h;cases h;exact .nilmap
 | nilFunc=>intro v' e h;cases h;exact .nilFunc
 | nilS k cap=>intro v' e h;cases h
 | empS k a cap=>intro v' e h;cases h
 | agg cs rs hl hc h ih =>
  intro v' e hv
  simp only [argP] at hv
  split at hv
  ·rename_i l hl'
   cases hv
   obtain ⟨m1,m2⟩:=vec hl'
   refine .agg l rs (by omega) (fun x hx=>?_) fun i v' r h1 h2=>?_
   ·obtain ⟨i,hi⟩:=List.mem_iff_getElem?.1 hx
    obtain ⟨v,q1,q2⟩:=m2 i x hi
    exact (XR q2).2 (hc v (qA q1))
   ·obtain ⟨v,q1,q2⟩:=m2 i v' h1
    exact ih i v r q1 h2 e q2
  ·cases hv
 | tuple cs rs hl h ih =>
  intro v' e hv
  simp only [argP] at hv
  split at hv
  ·rename_i l hl'
   cases hv
   obtain ⟨m1,m2⟩:=vec hl'
   refine .tuple l rs (by omega) fun i v' r h1 h2=>?_
   obtain ⟨v,q1,q2⟩:=m2 i v' h1
   exact ih i v r q1 h2 e q2
  ·cases hv
 | imm g k l a cap f hcap hlit haddr hk hc hv ih =>
  intro v' e hq
  simp only [argP] at hq
  split at hq
  ·rename_i l' hl'
   cases hq
   obtain ⟨m1,m2⟩:=vec hl'
   rw [← m1]
   refine .imm .arg k l' a cap f (by omega) (by intro h;cases h) (fun hne=>?_) (fun x hx=>?_) (fun x hx=>?_) (fun i x j y h1 h2=>?_)
   ·have hne':l≠[]:=fun hq=>hne (qQ (by rw [m1,hq];rfl))
    obtain ⟨r,off,g1,g2,g3,g4⟩:=haddr hne'
    exact ⟨r,off,g1,g2,hA r,fun j hj=>g4 j (by rw [← m1];exact hj)⟩
   ·obtain ⟨i,hi⟩:=List.mem_iff_getElem?.1 hx
    obtain ⟨v,q1,q2⟩:=m2 i x hi
    rw [(cells q2).1];exact hk v (qA q1)
   ·obtain ⟨i,hi⟩:=List.mem_iff_getElem?.1 hx
    obtain ⟨v,q1,q2⟩:=m2 i x hi
    exact (cells q2).2.1 (hc v (qA q1))
   ·obtain ⟨v,q1,q2⟩:=m2 i x h1
    obtain ⟨z,z1,z2⟩:=(cells q2).2.2 j y h2
    exact ih i v j z q1 z1 Ctx.nil z2
  ·cases hq
 | sl b off len cap tot k a cap' h=>intro v' e hv;cases hv
 | aview b i off len a cap' h=>intro v' e hv;cases hv
 | ptr b i off tot a h=>intro v' e hv;cases hv
 | vptr v r o f hr hok hc h1 h ih =>
  intro v' e hv
  simp only [argP] at hv
  split at hv
  ·rename_i u hu
   cases hv
   obtain ⟨c1,c2,c3⟩:=cells hu
   refine .vptr u r o f hr (hA r) (c2 hc) (fun j hj=>h1 j (by rw [← c1];exact hj)) fun j x hx=>?_
   obtain ⟨z,z1,z2⟩:=c3 j x hx
   exact ih j z z1 Ctx.nil z2
  ·cases hv
 | map b r ks vs mx hH hs=>intro v' e hv;cases hv
 | imap g ks vs r es clock hr hok hwr hl hl' hkp hk hv ihk ihv =>
  intro v' e hq
  simp only [argP] at hq
  split at hq
  ·rename_i ks' vs' hks hvs
   cases hq
   obtain ⟨m1,m2⟩:=vec hks
   obtain ⟨n1,n2⟩:=vec hvs
   refine .imap .arg ks' vs' r es clock hr (hA r) hwr (by omega) (by omega) ⟨fun x hx=>?_,hkp.2.mapO (fun a a'=>SN) (by omega) (fun i x hx=>m2 i x hx)⟩ (fun i x m h1 h2=>?_) (fun i x m h1 h2=>?_)
   ·obtain ⟨i,hi⟩:=List.mem_iff_getElem?.1 hx
    obtain ⟨v,q1,q2⟩:=m2 i x hi
    exact (cells q2).2.1 (hkp.1 v (qA q1))
   ·obtain ⟨v,q1,q2⟩:=m2 i x h1
    exact ihk i v m q1 h2 Ctx.nil q2
   ·obtain ⟨v,q1,q2⟩:=n2 i x h1
    exact ihv i v m q1 h2 Ctx.nil q2
  ·cases hq
 | func f fa ca ra rc hl hl' h h' ih ih' =>
  intro v' e hq
  simp only [argP] at hq
  split at hq
  ·rename_i fa' ca' hfa hca
   cases hq
   obtain ⟨m1,m2⟩:=vec hfa
   obtain ⟨n1,n2⟩:=vec hca
   refine .func f fa' ca' ra rc (by omega) (by omega) (fun i x r h1 h2=>?_) (fun i x r h1 h2=>?_)
   ·obtain ⟨v,q1,q2⟩:=m2 i x h1
    exact ih i v r q1 h2 e q2
   ·obtain ⟨v,q1,q2⟩:=n2 i x h1
    exact ih' i v r q1 h2 e q2
  ·cases hq

theorem QbV {okA:Bool→Nat→Prop} (hA:∀r,okA false r) (hR:Rel lo c w):∀(d:Nat) {v v':HV} {rv:Value} (e:Ctx),V w (Qg c lo) c v rv→Qx c.H d v=some v'→V w okA e v' rv:=by
 intro d
 induction d using qJ with
 | _ d ih =>
  cases d with
  | zero=>exact fun e hv h=>SQ hA hv e h
  | succ d =>
   intro v v' rv e hv h
   have hcell:∀x x':HV,Qx c.H d x=some x'→(cellsOf x').length=(cellsOf x).length∧((cellsOf x).all Ql=true→(cellsOf x').all Ql=true) ∧
     ∀(j:Nat) (y y':HV) (z:Value),(cellsOf x)[j]?=some y→(cellsOf x')[j]?=some y'→V w (Qg c lo) c y z→V w okA Ctx.nil y' z:=by
    intro x x' hx
    obtain ⟨c1,c2,c3⟩:=KY hx
    refine ⟨c1,c2,fun j y y' z g1 g2 g3=>?_⟩
    obtain ⟨d',hd',hh⟩:=c3 j y y' g1 g2
    exact ih d' (by omega) Ctx.nil g3 hh
   have srcimm:∀{xs ys:List HV} {k:Nat},Je c.H v=some (xs,k)→mapO (Qx c.H d) xs=some ys→xs≠[]→(∃b off len cap tot k,v=.sl b off len cap tot k)∨(∃b i off len,v=.aview b i off len)→V w okA e (.imm .arg k ys) rv:=by
    intro xs ys k hsrc hm hne hform
    obtain ⟨a,cap,news,rfl,hsh⟩:=DI hR hv hsrc
    have hcl:xs.length≤cap∧(∀ad,a=some ad→xs≠[]→∃r off,a=some ⟨r,off,none⟩∧r<w.heap.size):=by
     rcases hform with ⟨b,off,len,cap',tot,k',rfl⟩ | ⟨b,i,off,len,rfl⟩
     ·cases hv with
      | sl _ _ _ _ _ _ _ _ hs =>
       refine ⟨hs.1,fun ad had hne=>?_⟩
       obtain ⟨h1,h2,h3,blk,hb,h4⟩:=hs
       simp only [Je] at hsrc
       split at hsrc
       ·rename_i h0;cases hsrc;exact absurd rfl hne
       ·rename_i hlen
        cases hvw:Wh c.H b off xs.length tot k' with
        | none=>simp [hvw] at hsrc
        | some l =>
         unfold Wh at hvw
         rw [hb] at hvw
         cases blk with
         | arr k1 els wr mx =>
          simp only at hvw
          split at hvw
          ·rename_i hq
           have h5:=(h4.2 hq.1).2
           cases hs:c.σ b with
           | none=>rw [hs] at h5;have:=h5.1;omega
           | some r=>rw [hs] at h5;exact ⟨r,_,h5.1 (by omega),(hR.dom b r hs).2⟩
          ·cases hvw
         | _=>cases hvw
     ·cases hv with
      | aview _ _ _ _ _ _ hs =>
       refine ⟨hs.1,fun ad had hne=>?_⟩
       obtain ⟨h1,blk,hb,h4⟩:=hs
       simp only [Je,hb] at hsrc
       cases blk with
       | arr k1 els wr mx =>
        simp only at hsrc h4
        split at hsrc
        ·split at hsrc
         ·rename_i hq
          obtain ⟨r,g1,g2⟩:=h4.2 hq.1
          refine ⟨r,_,g2 ?_,(hR.dom b r g1).2⟩
          have:0<xs.length:=List.length_pos_iff.2 hne
          omega
         ·cases hsrc
        ·cases hsrc
       | _=>cases hsrc
    refine U6 hsh hcl.1 (by intro h;cases h) hm (fun hne=>?_) (fun x x' _ hx=>hcell x x' hx)
    obtain ⟨ad,had,_⟩:=hsh.at_ hne
    obtain ⟨r,off,g1,g2⟩:=hcl.2 ad had hne
    exact ⟨r,off,g1,g2,hA r⟩
   cases v <;> simp only [Qx] at h
   case sl b off len cap tot k =>
    split at h
    ·rename_i h0
     cases h
     cases hv with
     | sl _ _ _ _ _ _ a cap' hs =>
      subst h0
      exact .imm .arg k [] a cap' (fun _=>undef) (by simp) (by intro h;cases h) (by simp) (by simp) (by simp) (by simp)
    ·rename_i h0
     split at h
     ·rename_i l hl
      split at h
      ·rename_i l' hl'
       cases h
       refine srcimm (by simp only [Je,if_neg h0,hl];rfl) hl' ?_ (.inl ⟨_,_,_,_,_,_,rfl⟩)
       intro hq
       unfold Wh at hl
       split at hl
       ·split at hl
        ·rename_i hqq
         simp only [Option.some.injEq] at hl
         have:l.length=len:=by rw [← hl];simp;omega
         rw [hq] at this;simp at this;omega
        ·cases hl
       ·cases hl
      ·cases h
     ·cases h
   case aview b i off len =>
    split at h
    ·rename_i kk els wr mx hb
     split at h
     ·rename_i cs hi
      split at h
      ·rename_i hq
       split at h
       ·rename_i l' hl'
        cases h
        by_cases hne:(cs.drop off).take len=[]
        ·rw [hne] at hl'
         cases hl'
         cases hv with
         | aview _ _ _ _ a cap' hs =>
          have hlen:len=0:=by
           have:((cs.drop off).take len).length=len:=by simp;omega
           rw [hne] at this;simpa using this.symm
          subst hlen
          exact .imm .arg 1 [] a cap' (fun _=>undef) (by simp) (by intro h;cases h) (by simp) (by simp) (by simp) (by simp)
        ·exact srcimm (by simp only [Je,hb,hi,if_pos hq]) hl' hne (.inr ⟨_,_,_,_,rfl⟩)
       ·cases h
      ·cases h
     ·cases h
    ·cases h
   case map b =>
    split at h
    ·rename_i ks vs mx hb
     split at h
     ·rename_i ks' vs' hks hvs
      cases h
      cases hv with
      | map _ r ks1 vs1 mx1 hH hs =>
       obtain ⟨g0,g00,r',hs',_,es,clock,hw,hl,hl',hk,hvv⟩:=hR.blk b _ hb
       have:r'=r:=by rw [hs] at hs';cases hs';rfl
       subst this
       obtain ⟨m1,m2⟩:=Q6 hks
       obtain ⟨n1,n2⟩:=Q6 hvs
       have pk:∀(i:Nat) (x:HV),ks'[i]?=some x→∃v,ks[i]?=some v∧Qx c.H d v=some x:=fun i x hi=>by
        have:=Qd hi
        have hx:ks[i]?=some ks[i]:=by simp [show i<ks.length by omega]
        exact ⟨_,hx,m2 i _ x hx hi⟩
       have pv:∀(i:Nat) (x:HV),vs'[i]?=some x→∃v,vs[i]?=some v∧Qx c.H d v=some x:=fun i x hi=>by
        have:=Qd hi
        have hx:vs[i]?=some vs[i]:=by simp [show i<vs.length by omega]
        exact ⟨_,hx,n2 i _ x hx hi⟩
       refine .imap .arg ks' vs' r' es clock (hR.dom b r' hs).2 (hA r') hw (by omega) (by omega) ⟨fun x hx=>?_,g00.2.mapO (fun a a'=>QbR) (by omega) pk⟩ (fun i x m h1 h2=>?_) (fun i x m h1 h2=>?_)
       ·obtain ⟨i,hi⟩:=List.mem_iff_getElem?.1 hx
        obtain ⟨v,q1,q2⟩:=pk i x hi
        exact (KY q2).2.1 (g00.1 v (qA q1)).1
       ·obtain ⟨v,q1,q2⟩:=pk i x h1
        exact ih d (by omega) Ctx.nil ((hk i v m q1 h2).evo (WEvo.refl _ _) (CEvo.of_nil c)) q2
       ·obtain ⟨v,q1,q2⟩:=pv i x h1
        exact ih d (by omega) Ctx.nil (hvv i v m q1 h2) q2
     ·cases h
    ·cases h
   case agg cs =>
    split at h
    ·rename_i l hl
     cases h
     obtain ⟨m1,m2⟩:=Q6 hl
     have pk:∀(i:Nat) (x:HV),l[i]?=some x→∃v,cs[i]?=some v∧Qx c.H d v=some x:=fun i x hi=>by
      have:=Qd hi
      have hx:cs[i]?=some cs[i]:=by simp [show i<cs.length by omega]
      exact ⟨_,hx,m2 i _ x hx hi⟩
     cases hv with
     | agg _ rs hl' hc hh =>
      refine .agg l rs (by omega) (fun x hx=>?_) fun i x r h1 h2=>?_
      ·obtain ⟨i,hi⟩:=List.mem_iff_getElem?.1 hx
       obtain ⟨v,q1,q2⟩:=pk i x hi
       exact (VT q2).2 (hc v (qA q1))
      ·obtain ⟨v,q1,q2⟩:=pk i x h1
       exact ih d (by omega) e (hh i v r q1 h2) q2
    ·cases h
   case func f fa ca =>
    split at h
    ·rename_i fa' ca' hfa hca
     cases h
     obtain ⟨m1,m2⟩:=Q6 hfa
     obtain ⟨n1,n2⟩:=Q6 hca
     cases hv with
     | func _ _ _ ra rc hl hl' hh hh' =>
      refine .func f fa' ca' ra rc (by omega) (by omega) (fun i x r h1 h2=>?_) (fun i x r h1 h2=>?_)
      ·have:=Qd h1
       have hx:fa[i]?=some fa[i]:=by simp [show i<fa.length by omega]
       exact ih d (by omega) e (hh i _ r hx h2) (m2 i _ x hx h1)
      ·have:=Qd h1
       have hx:ca[i]?=some ca[i]:=by simp [show i<ca.length by omega]
       exact ih d (by omega) e (hh' i _ r hx h2) (n2 i _ x hx h1)
    ·cases h
   all_goals exact SQ hA hv e h

end
end Go.HL


/- The body of a called function; calls on the caller's own blocks. -/
namespace Go.HL
section
variable {w:World} {c:Ctx} {P:Program} {lo:Nat} {rv:Value}

theorem Wu {m n:Nat} (h:m≤n) {ops:Array Oper} (hd:Zj m ops=true):Zj n ops=true:=by
 unfold Zj at *
 rw [qS] at *
 intro o ho
 have:=hd o ho
 cases hq:o.dst with
 | none=>rfl
 | some d =>
  rw [hq] at this
  have h1:d<m:=by simpa using this
  exact decide_eq_true (Nat.lt_of_lt_of_le h1 h)

theorem Yo {m n:Nat} (h:m≤n) {quiet:Nat→List Nat}:∀{cd:Code},W6 m quiet cd=true→W6 n quiet cd=true:=by
 intro cd
 induction cd <;> intro hc <;> simp only [W6,qB] at hc ⊢ <;> try trivial
 case region id ops draw =>
  unfold Xk at *
  rw [qB] at *
  exact ⟨Wu h hc.1,hc.2⟩
 case seq a b iha ihb=>exact ⟨iha hc.1,ihb hc.2⟩
 case cond x a b iha ihb=>exact ⟨iha hc.1,ihb hc.2⟩
 case block id b ih=>exact ih hc
 case loop b ih=>exact ih hc

theorem U7:∀(l:List HV) (k t:Nat),Env.get ((l.zipIdx k).map fun (v,i)=>(i,v)) t=if k≤t then (l[t-k]?).getD .undef else .undef
 | [],k,t=>by simp [Env.get]
 | v::l,k,t=>by
  simp only [List.zipIdx_cons,qP,Env.get]
  rw [U7 l (k+1) t]
  by_cases h:k=t
  ·subst h;simp
  ·rw [if_neg h]
   by_cases h2:k+1≤t
   ·rw [if_pos h2,if_pos (by omega)]
    have:t-k=(t-(k+1))+1:=by omega
    rw [this];rfl
   ·rw [if_neg h2,if_neg (by omega)]

theorem XS {args:List HV} {rargs:Array Value} {n:Nat} (hl:args.length=rargs.size)
  (hV:∀(i:Nat) (v:HV) (x:Value),args[i]?=some v→rargs[i]?=some x→V w (Qg c lo) c v x):RelE w c lo (ZS args) (rargs++qM (n-rargs.size) undef):=by
 intro t
 unfold ZS
 rw [U7 args 0 t]
 simp only [Nat.zero_le,if_true,Nat.sub_zero]
 cases hq:args[t]? with
 | none=>exact .undef _
 | some v =>
  have hlt:=Qd hq
  have hlt':t<rargs.size:=by omega
  have h1:(rargs++qM (n-rargs.size) undef).getD t undef=rargs[t]:=by
   rw [qI,Array.getElem?_append_left hlt']
   simp [hlt']
  rw [h1]
  exact hV t v _ hq (by simp [hlt'])

theorem C7 {e:Env} {a:Act} {v:HV} {x:ResultVar} (hR:Rel lo c w) (he:RelE w c lo e a.tmps) (h:Q3 P c.H e x=some v) :
  ∃rv,((match x with | .tmp t=>pure (a.tmps.getD t undef) | .cell s t=>do loadVar t (← asAddr (a.tmps.getD s undef)):Sem Value)).run P w=.ok rv w∧V w (Qg c lo) c v rv:=by
 cases x with
 | tmp t =>
  simp only [Q3,Option.some.injEq] at h
  subst h
  exact ⟨_,rfl,he t⟩
 | cell s t =>
  simp only [Q3] at h
  obtain ⟨rv,h1,h2⟩:=UW hR (he s) h
  refine ⟨rv,?_,h2⟩
  have:∃ad,a.tmps.getD s undef=.pointer (some ad):=by
   have hv:=he s
   unfold Qh at h
   split at h
   ·rename_i hq;rw [hq] at hv;generalize a.tmps.getD s undef=y at hv ⊢;cases hv;exact ⟨_,rfl⟩
   ·rename_i hq;rw [hq] at hv;generalize a.tmps.getD s undef=y at hv ⊢;cases hv;exact ⟨_,rfl⟩
   ·rename_i hq;rw [hq] at hv;generalize a.tmps.getD s undef=y at hv ⊢;cases hv;exact ⟨_,rfl⟩
   ·cases h
  obtain ⟨ad,had⟩:=this
  rw [had] at h1
  show (do loadVar t (← asAddr (a.tmps.getD s undef)):Sem Value).run P w=_
  rw [had]
  exact h1

theorem Xn {e:Env} {a:Act} (hR:Rel lo c w) (he:RelE w c lo e a.tmps):∀{l:List ResultVar} {vs:List HV},mapO (Q3 P c.H e) l=some vs →
  ∃rs:List Value,(l.mapM (fun x=>(match x with | .tmp t=>pure (a.tmps.getD t undef) | .cell s t=>do loadVar t (← asAddr (a.tmps.getD s undef)):Sem Value))).run P w=.ok rs w∧rs.length=vs.length ∧
   ∀(i:Nat) (v:HV) (x:Value),vs[i]?=some v→rs[i]?=some x→V w (Qg c lo) c v x
 | [],vs,h=>by cases h;exact ⟨[],by simp,rfl,by simp⟩
 | x::l,vs,h=>by
  unfold mapO at h
  split at h
  ·cases h
  rename_i y hy
  split at h
  ·cases h
  rename_i ys hys
  cases h
  obtain ⟨r,h1,h2⟩:=C7 hR he hy
  obtain ⟨rs,h3,h4,h5⟩:=Xn hR he hys
  refine ⟨r::rs,?_,by simp [h4],fun i v z g1 g2=>?_⟩
  ·simp only [List.mapM_cons,Sem.run_bind,h1,Result.andThen_ok,h3,Sem.run_pure]
  ·cases i with
   | zero=>simp at g1 g2;subst g1;subst g2;exact h2
   | succ i=>exact h5 i v z (by simpa using g1) (by simpa using g2)

theorem VU {fn:Func} {e:Env} {a:Act} {v:HV} (hR:Rel lo c w) (he:RelE w c lo e a.tmps) (h:Qf P fn e c.H=some v) :
  ∃rv,(results fn a.tmps).run P w=.ok rv w∧V w (Qg c lo) c v rv:=by
 unfold Qf at h
 have key:∀vs,mapO (Q3 P c.H e) fn.results.toList=some vs→∃rs:Array Value,(results fn a.tmps).run P w=.ok (if h:rs.size=1 then rs[0] else .tuple rs) w∧rs.size=vs.length ∧
   ∀(i:Nat) (v:HV) (x:Value),vs[i]?=some v→rs[i]?=some x→V w (Qg c lo) c v x:=by
  intro vs hvs
  obtain ⟨rs,h1,h2,h3⟩:=Xn hR he hvs
  refine ⟨rs.toArray,?_,by simpa using h2,fun i v x g1 g2=>h3 i v x g1 (by simpa using g2)⟩
  unfold results
  rw [Array.mapM_eq_mapM_toList]
  simp only [map_eq_pure_bind,Sem.run_bind]
  erw [h1]
  simp
 split at h
 ·rename_i v1 hv1
  cases h
  obtain ⟨rs,h1,h2,h3⟩:=key _ hv1
  have hs:rs.size=1:=by simpa using h2
  refine ⟨rs[0],by rw [h1,dif_pos hs],h3 0 v _ rfl (by simp [hs])⟩
 ·rename_i vs hne hvs
  cases h
  obtain ⟨rs,h1,h2,h3⟩:=key _ hvs
  have hs:¬rs.size=1:=fun hq=>by
   obtain ⟨a,ha⟩:=List.length_eq_one_iff.1 (h2.symm.trans hq)
   exact hne a ha
  exact ⟨.tuple rs,by rw [h1,dif_neg hs],.tuple vs rs h2.symm h3⟩
 ·cases h

def JL (pol:Pol) (g:FuncId) (fn:Func):Bool:=match fn.body with | some cd=>W6 fn.ntmps (pol.quiet g) cd | none=>true

theorem SR {pol:Pol} {call:QB} {g:FuncId} {fn:Func} {cd:Code} {n:Nat} {args:List HV} {rargs:Array Value} {x:X} {e:Env} {H':Heap} {v:HV} (hm:P.follows .mixedOrders=true) (hC:Qo P call)
  (hf:P.funcs[g]?=some fn) (hb:fn.body=some cd) (hok:JL pol g fn=true) (hR:Rel lo c w) (hl:args.length=rargs.size)
  (hV:∀(i:Nat) (v:HV) (x:Value),args[i]?=some v→rargs[i]?=some x→V w (Qg c lo) c v x)
  (hrun:evC P pol call n g cd (ZS args) c.H=some (x,e,H')) (hx:∀i,x≠.exit i) (hres:Qf P fn e H'=some v) :
  Calls P g rargs w fun ex w'=>∃rv c',ex=.returned rv∧c'.H=H'∧Rel lo c' w'∧V w' (Qg c' lo) c' v rv∧Evo lo c w c' w':=by
 refine calls_of_wp hf hb ?_
 have hok':W6 (rargs++qM (fn.ntmps-rargs.size) undef).size (pol.quiet g) cd=true:=by
  unfold JL at hok
  rw [hb] at hok
  exact Yo (by simp;omega) hok
 refine (Ju (a:={ tmps:=rargs++qM (fn.ntmps-rargs.size) undef,defers:=[] }) hm hC n cd hok' hR (XS hl hV) hrun fun c1 w1 a1 k1 k2 k3 k4 k5 k6=>?_).1
 subst k1
 obtain ⟨rv,r1,r2⟩:=VU k2 k3 hres
 cases x with
 | normal=>exact ⟨k5,rv,r1,rv,c1,rfl,rfl,k2,r2,k4⟩
 | ret=>exact ⟨k5,rv,r1,rv,c1,rfl,rfl,k2,r2,k4⟩
 | exit i=>exact absurd rfl (hx i)

theorem QaY {pol:Pol} {call:QB} {g:FuncId} {fn:Func} {cd:Code} {n:Nat} {args:List HV} {rargs:Array Value} {H':Heap} {v:HV} (hm:P.follows .mixedOrders=true) (hC:Qo P call)
  (hf:P.funcs[g]?=some fn) (hb:fn.body=some cd) (hok:JL pol g fn=true) (hR:Rel lo c w) (hl:args.length=rargs.size)
  (hV:∀(i:Nat) (v:HV) (x:Value),args[i]?=some v→rargs[i]?=some x→V w (Qg c lo) c v x)
  (h:Ki P (evC P pol call n) g fn cd args c.H=some (v,H')) :
  Calls P g rargs w fun ex w'=>∃rv c',ex=.returned rv∧c'.H=H'∧Rel lo c' w'∧V w' (Qg c' lo) c' v rv∧Evo lo c w c' w':=by
 unfold Ki at h
 split at h
 ·cases h
 ·rename_i x e H1 hne hrun
  split at h
  ·rename_i v1 hres
   cases h
   refine Calls.mono (SR hm hC hf hb hok hR hl hV hrun (fun i hi=>?_) hres) ?_
   ·subst hi;exact hne i rfl
   ·rintro ex w' ⟨rv,c1,rfl,k1,k2,k3,k4⟩
    subst k1
    exact ⟨rv,c1.cut (max c.H.length (max (bnd v) (mxs c1.H))),rfl,rfl,Xm k2 (by omega),k3.cut (by omega),k4.cut (by omega)⟩
  ·cases h
 ·cases h

end
end Go.HL


/- What a result shows: read-only parts; many new blocks at once. -/
namespace Go.HL
section
variable {w:World} {c:Ctx} {P:Program} {lo:Nat} {rv:Value}

theorem V.res {ok ok':Bool→Nat→Prop} {v:HV} (h:V w ok c v rv) (hok:∀r,ok true r→ok' true r):resP v=true→∀(d:Ctx),V w ok' d v rv:=by
 have ne:∀{g:G},(match g with | .arg=>false | _=>true)=true→(g != .arg)=true:=by intro g h;cases g <;> first | rfl | cases h
 induction h with
 | undef v=>exact fun _ _=>.undef v
 | int k n=>exact fun _ _=>.int k n
 | bool b=>exact fun _ _=>.bool b
 | str s=>exact fun _ _=>.str s
 | nilmap=>exact fun _ _=>.nilmap
 | nilFunc=>exact fun _ _=>.nilFunc
 | nilS k cap=>intro h;cases h
 | empS k a cap=>intro h;cases h
 | agg cs rs hl hc h ih =>
  intro hp d
  exact .agg cs rs hl hc fun i v r h1 h2=>ih i v r h1 h2 (WA (l:=cs) (by simpa [resP] using hp) v (qA h1)) d
 | tuple cs rs hl h ih =>
  intro hp d
  exact .tuple cs rs hl fun i v r h1 h2=>ih i v r h1 h2 (WA (l:=cs) (by simpa [resP] using hp) v (qA h1)) d
 | imm g k l a cap f hcap hlit haddr hk hc hv ih =>
  intro hp d
  simp only [resP,qB] at hp
  refine .imm g k l a cap f hcap hlit (fun hne=>?_) hk hc (fun i v j x h1 h2=>ih i v j x h1 h2 (C0 (WA hp.2 v (qA h1)) x (qA h2)) Ctx.nil)
  obtain ⟨r,off,g1,g2,g3,g4⟩:=haddr hne
  rw [ne hp.1] at g3
  exact ⟨r,off,g1,g2,by rw [ne hp.1];exact hok r g3,g4⟩
 | sl b off len cap tot k a cap' h=>intro h;cases h
 | aview b i off len a cap' h=>intro h;cases h
 | ptr b i off tot a h=>intro h;cases h
 | vptr v r o f hr hok hc h1 h ih=>intro h;cases h
 | map b r ks vs mx hH hs=>intro h;cases h
 | imap g ks vs r es clock hr hok1 hwr hl hl' hkp hk hv ihk ihv =>
  intro hp d
  simp only [resP,qB] at hp
  rw [ne hp.1.1] at hok1
  exact .imap g ks vs r es clock hr (by rw [ne hp.1.1];exact hok r hok1) hwr hl hl' hkp (fun i v m h1 h2=>ihk i v m h1 h2 (WA hp.1.2 v (qA h1)) Ctx.nil)
   (fun i v m h1 h2=>ihv i v m h1 h2 (WA hp.2 v (qA h1)) Ctx.nil)
 | func f fa ca ra rc hl hl' h h' ih ih' =>
  intro hp d
  simp only [resP,qB] at hp
  exact .func f fa ca ra rc hl hl' (fun i v r h1 h2=>ih i v r h1 h2 (WA hp.1 v (qA h1)) d) (fun i v r h1 h2=>ih' i v r h1 h2 (WA hp.2 v (qA h1)) d)

theorem JY {H:Heap} {no:List Nat}:∀{d:Nat} {v v':HV},frz H no d v=some v'→QZ v'=QZ v∧(Ql v=true→Ql v'=true)
 | 0,v,v',h=>by
  simp only [frz] at h
  split at h
  ·cases h;exact ⟨rfl,id⟩
  ·cases h
 | d+1,v,v',h=>by
  cases v <;> simp only [frz] at h
  case sl b off len cap tot k =>
   split at h
   ·cases h;exact ⟨rfl,fun _=>rfl⟩
   ·split at h
    ·cases h
    ·split at h
     ·split at h
      ·cases h;exact ⟨rfl,fun _=>rfl⟩
      ·cases h
     ·cases h
  case map b =>
   split at h
   ·cases h
   ·split at h
    ·split at h
     ·cases h;exact ⟨rfl,fun _=>rfl⟩
     ·cases h
    ·cases h
  case agg cs =>
   split at h
   ·cases h;exact ⟨rfl,by simp [Ql]⟩
   ·cases h
  all_goals
   split at h
   ·cases h;exact ⟨rfl,id⟩
   ·cases h

theorem Qd9 {H:Heap} {no:List Nat} {d:Nat} {cs:List HV} {v':HV} (h:frz H no d (.agg cs)=some v'):∃cs' d',v'=.agg cs'∧d'≤d∧mapO (frz H no d') cs=some cs':=by
 cases d with
 | zero =>
  simp only [frz] at h
  split at h
  ·rename_i hp
   cases h
   refine ⟨cs,0,rfl,qE _,?_⟩
   simp only [resP] at hp
   revert hp
   induction cs with
   | nil=>intro _;rfl
   | cons x l ih =>
    intro hp
    simp only [resPL,qB] at hp
    simp only [mapO,frz,hp.1,if_true]
    have:=ih hp.2
    simp only [frz] at this
    rw [this]
  ·cases h
 | succ d =>
  simp only [frz] at h
  split at h
  ·rename_i l hl
   cases h
   exact ⟨l,d,rfl,by omega,hl⟩
  ·cases h

theorem Vl {H:Heap} {no:List Nat} {d:Nat} {v v':HV} (h:frz H no d v=some v'):(cellsOf v').length=(cellsOf v).length∧((cellsOf v).all Ql=true→(cellsOf v').all Ql=true) ∧
  ∀(j:Nat) (x x':HV),(cellsOf v)[j]?=some x→(cellsOf v')[j]?=some x'→∃d',d'≤d∧frz H no d' x=some x':=by
 cases hv:QZ v with
 | false =>
  obtain ⟨h1,h2⟩:=JY h
  rw [ZL hv,ZL (h1.trans hv)]
  refine ⟨rfl,fun hc=>by simpa using h2 (by simpa using hc),fun j x x' g1 g2=>?_⟩
  cases j with
  | zero=>simp at g1 g2;subst g1;subst g2;exact ⟨d,qE _,h⟩
  | succ j=>simp at g1
 | true =>
  cases v with
  | agg cs =>
   obtain ⟨cs',d',rfl,hd,hm⟩:=Qd9 h
   obtain ⟨m1,m2⟩:=Q6 hm
   refine ⟨m1,fun hc=>?_,fun j x x' g1 g2=>⟨d',hd,m2 j x x' g1 g2⟩⟩
   simp only [cellsOf,qS] at hc ⊢
   intro x' hx'
   obtain ⟨i,hi⟩:=List.mem_iff_getElem?.1 hx'
   have hlt:=Qd hi
   have hx:cs[i]?=some cs[i]:=by simp [show i<cs.length by omega]
   exact (JY (m2 i _ x' hx hi)).2 (hc _ (qA hx))
  | _=>cases hv

theorem C8 {ok':Bool→Nat→Prop} {no:List Nat} (hR:Rel lo c w) (hok:∀r,Qg c lo true r→ok' true r) (hσ:∀b r,c.σ b=some r→lo≤r→b∉no→ok' true r) :
  ∀(d:Nat) {v v':HV} {rv:Value} (e:Ctx),V w (Qg c lo) c v rv→frz c.H no d v=some v'→V w ok' e v' rv:=by
 intro d
 induction d using qJ with
 | _ d ih =>
  cases d with
  | zero =>
   intro v v' rv e hv h
   simp only [frz] at h
   split at h
   ·rename_i hp;cases h;exact hv.res hok hp e
   ·cases h
  | succ d =>
   intro v v' rv e hv h
   have hcell:∀x x':HV,frz c.H no d x=some x'→(cellsOf x').length=(cellsOf x).length∧((cellsOf x).all Ql=true→(cellsOf x').all Ql=true) ∧
     ∀(j:Nat) (y y':HV) (z:Value),(cellsOf x)[j]?=some y→(cellsOf x')[j]?=some y'→V w (Qg c lo) c y z→V w ok' Ctx.nil y' z:=by
    intro x x' hx
    obtain ⟨c1,c2,c3⟩:=Vl hx
    refine ⟨c1,c2,fun j y y' z g1 g2 g3=>?_⟩
    obtain ⟨d',hd',hh⟩:=c3 j y y' g1 g2
    exact ih d' (by omega) Ctx.nil g3 hh
   cases v <;> simp only [frz] at h
   case sl b off len cap tot k =>
    split at h
    ·rename_i h0
     cases h
     cases hv with
     | sl _ _ _ _ _ _ a cap' hs =>
      subst h0
      exact .imm .own k [] a cap' (fun _=>undef) (by simp) (by intro h;cases h) (by simp) (by simp) (by simp) (by simp)
    ·rename_i h0
     split at h
     ·cases h
     rename_i hno
     split at h
     ·rename_i l hl
      split at h
      ·rename_i l' hl'
       cases h
       have hsrc:Je c.H (.sl b off len cap tot k)=some (l,k):=by simp only [Je,if_neg h0,hl];rfl
       obtain ⟨a,cap1,news,rfl,hsh⟩:=DI hR hv hsrc
       cases hv with
       | sl _ _ _ _ _ _ _ _ hs =>
        obtain ⟨h1,h2,h3,blk,hb,h4⟩:=hs
        refine U6 hsh h1 (by intro h;cases h) hl' (fun hne=>?_) (fun x x' _ hx=>hcell x x' hx)
        unfold Wh at hl
        rw [hb] at hl
        cases blk with
        | arr k1 els wr mx =>
         simp only at hl
         split at hl
         ·rename_i hq
          have h5:=(h4.2 hq.1).2
          have hbk:=hR.blk b _ hb
          cases hs:c.σ b with
          | none=>rw [hs] at h5;have:=h5.1;have:=List.length_pos_iff.2 hne;omega
          | some r =>
           rw [hs] at h5
           have hlo:lo≤r:=by
            have h6:=hbk.2
            rw [hs] at h6
            exact h6.1
           exact ⟨r,_,h5.1 (by have:=List.length_pos_iff.2 hne;omega),(hR.dom b r hs).2,hσ b r hs hlo (by simpa using hno)⟩
         ·cases hl
        | _=>cases hl
      ·cases h
     ·cases h
   case map b =>
    split at h
    ·cases h
    rename_i hno
    split at h
    ·rename_i ks vs mx hb
     split at h
     ·rename_i ks' vs' hks hvs
      cases h
      cases hv with
      | map _ r ks1 vs1 mx1 hH hs =>
       obtain ⟨g0,g00,r',hs',hlo,es,clock,hw,hl,hl',hk,hvv⟩:=hR.blk b _ hb
       have:r'=r:=by rw [hs] at hs';cases hs';rfl
       subst this
       obtain ⟨m1,m2⟩:=Q6 hks
       obtain ⟨n1,n2⟩:=Q6 hvs
       have pk:∀(i:Nat) (x:HV),ks'[i]?=some x→∃v,ks[i]?=some v∧frz c.H no d v=some x:=fun i x hi=>by
        have:=Qd hi
        have hx:ks[i]?=some ks[i]:=by simp [show i<ks.length by omega]
        exact ⟨_,hx,m2 i _ x hx hi⟩
       have pv:∀(i:Nat) (x:HV),vs'[i]?=some x→∃v,vs[i]?=some v∧frz c.H no d v=some x:=fun i x hi=>by
        have:=Qd hi
        have hx:vs[i]?=some vs[i]:=by simp [show i<vs.length by omega]
        exact ⟨_,hx,n2 i _ x hx hi⟩
       refine .imap .own ks' vs' r' es clock (hR.dom b r' hs).2 (hσ b r' hs hlo (by simpa using hno)) hw (by omega) (by omega) ⟨fun x hx=>?_,g00.2.mapO (fun a a'=>QbQ) (by omega) pk⟩ (fun i x m h1 h2=>?_) (fun i x m h1 h2=>?_)
       ·obtain ⟨i,hi⟩:=List.mem_iff_getElem?.1 hx
        obtain ⟨v,q1,q2⟩:=pk i x hi
        exact (Vl q2).2.1 (g00.1 v (qA q1)).1
       ·obtain ⟨v,q1,q2⟩:=pk i x h1
        exact ih d (by omega) Ctx.nil ((hk i v m q1 h2).evo (WEvo.refl _ _) (CEvo.of_nil c)) q2
       ·obtain ⟨v,q1,q2⟩:=pv i x h1
        exact ih d (by omega) Ctx.nil (hvv i v m q1 h2) q2
     ·cases h
    ·cases h
   case agg cs =>
    split at h
    ·rename_i l hl
     cases h
     obtain ⟨m1,m2⟩:=Q6 hl
     have pk:∀(i:Nat) (x:HV),l[i]?=some x→∃v,cs[i]?=some v∧frz c.H no d v=some x:=fun i x hi=>by
      have:=Qd hi
      have hx:cs[i]?=some cs[i]:=by simp [show i<cs.length by omega]
      exact ⟨_,hx,m2 i _ x hx hi⟩
     cases hv with
     | agg _ rs hl' hc hh =>
      refine .agg l rs (by omega) (fun x hx=>?_) fun i x r h1 h2=>?_
      ·obtain ⟨i,hi⟩:=List.mem_iff_getElem?.1 hx
       obtain ⟨v,q1,q2⟩:=pk i x hi
       exact (JY q2).2 (hc v (qA q1))
      ·obtain ⟨v,q1,q2⟩:=pk i x h1
       exact ih d (by omega) e (hh i v r q1 h2) q2
    ·cases h
   all_goals
    split at h
    ·rename_i hp;cases h;exact hv.res hok hp e
    ·cases h

end
end Go.HL


