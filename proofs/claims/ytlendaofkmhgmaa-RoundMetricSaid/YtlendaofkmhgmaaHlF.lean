/- The ghost's run for the kernel; runs with hints. -/
import Derived.Test.YtlendaofkmhgmaaHlE
import Derived.Maps.RangeRun
set_option linter.unusedVariables false
set_option linter.unusedSimpArgs false
set_option linter.unnecessarySimpa false
/- The ghost's run, in a form that the kernel runs fast: values are made ready as soon as they are stored. It is the same run. -/
open Nat renaming le_refl → qA
open Array renaming replicate → qB, getElem?_toList → qE, getElem?_setIfInBounds_ne → qJ
open List renaming mem_cons_of_mem → qC, length → qD, mem_cons_self → qF, map_cons → qG, range_eq_range' → qH, mem_append_right → qI, getElem?_eq_getElem → qK
namespace Go.HL
section
variable {α:Type}

def Zy (n:Nat) (k:Nat→α):α:=match n with | 0=>k 0 | m+1=>k (m+1)
def Sc (n:Int) (k:Int→α):α:=match n with | .ofNat m=>Zy m fun m=>k (.ofNat m) | .negSucc m=>Zy m fun m=>k (.negSucc m)
def Jc (v:HV) (k:HV→α):α :=
 match v with
 | .int i n=>Sc n fun n=>k (.int i n)
 | .bool b=>match b with | true=>k (.bool true) | false=>k (.bool false)
 | .sl b off len cap tot s=>Zy b fun b=>Zy off fun off=>Zy len fun len=>Zy tot fun tot=>k (.sl b off len cap tot s)
 | .ptr b i off tot=>Zy b fun b=>Zy i fun i=>Zy off fun off=>Zy tot fun tot=>k (.ptr b i off tot)
 | .undef=>k .undef
 | .nilS s=>k (.nilS s)
 | .empS s=>k (.empS s)
 | .str s=>k (.str s)
 | .agg l=>k (.agg l)
 | .tuple l=>k (.tuple l)
 | .imm g s l=>k (.imm g s l)
 | .own s l=>k (.own s l)
 | .aview b i off len=>k (.aview b i off len)
 | .vptr v=>k (.vptr v)
 | .map b=>Zy b fun b=>k (.map b)
 | .nilmap=>k .nilmap
 | .imap g ks vs=>k (.imap g ks vs)
 | .omap ks vs=>k (.omap ks vs)
 | .func f a c=>k (.func f a c)
 | .nilFunc=>k .nilFunc

theorem JZ (n:Nat) (k:Nat→α):Zy n k=k n:=by cases n <;> rfl
theorem Qa8 (n:Int) (k:Int→α):Sc n k=k n:=by cases n <;> simp [Sc,JZ]
theorem XT (v:HV) (k:HV→α):Jc v k=k v:=by
 cases v with
 | bool b=>cases b <;> rfl
 | int i n=>simp only [Jc,Qa8]
 | sl=>simp only [Jc,JZ]
 | ptr=>simp only [Jc,JZ]
 | map=>simp only [Jc,JZ]
 | _=>rfl

mutual
 def forceV:HV→(HV→α)→α
  | .agg l,k=>forceL l fun l=>k (.agg l)
  | .tuple l,k=>forceL l fun l=>k (.tuple l)
  | .imm g s l,k=>forceL l fun l=>k (.imm g s l)
  | .own s l,k=>forceL l fun l=>k (.own s l)
  | .undef,k=>k .undef
  | .nilS s,k=>k (.nilS s)
  | .empS s,k=>k (.empS s)
  | .str s,k=>k (.str s)
  | .int i n,k=>Jc (.int i n) k
  | .bool b,k=>Jc (.bool b) k
  | .sl b off len cap tot s,k=>Jc (.sl b off len cap tot s) k
  | .ptr b i off tot,k=>Jc (.ptr b i off tot) k
  | .map b,k=>Jc (.map b) k
  | .aview b i off len,k=>k (.aview b i off len)
  | .vptr v,k=>k (.vptr v)
  | .nilmap,k=>k .nilmap
  | .imap g ks vs,k=>k (.imap g ks vs)
  | .omap ks vs,k=>k (.omap ks vs)
  | .func f a c,k=>k (.func f a c)
  | .nilFunc,k=>k .nilFunc
 termination_by structural v=>v
 def forceL:List HV→(List HV→α)→α
  | [],k=>k []
  | v::l,k=>forceV v fun v=>forceL l fun l=>k (v::l)
 termination_by structural l=>l
end

mutual
 theorem forceV_eq:∀(v:HV) (k:HV→α),forceV v k=k v
  | .agg l,k | .tuple l,k | .imm _ _ l,k | .own _ l,k=>by simp only [forceV,forceL_eq l]
  | .undef,k | .nilS _,k | .empS _,k | .int _ _,k | .bool _,k | .str _,k | .sl ..,k | .aview ..,k | .ptr ..,k | .vptr _,k | .map _,k | .nilmap,k | .imap ..,k | .omap ..,k | .func ..,k | .nilFunc,k=>by simp only [forceV,XT]
 theorem forceL_eq:∀(l:List HV) (k:List HV→α),forceL l k=k l
  | [],k=>rfl
  | v::l,k=>by simp only [forceL,forceV_eq v,forceL_eq l]
end

def Sd (b:Blk) (k:Blk→α):α :=
 match b with
 | .arr s els wr mx=>forceL els fun els=>match wr with | true=>Zy mx fun mx=>k (.arr s els true mx) | false=>Zy mx fun mx=>k (.arr s els false mx)
 | .map ks vs mx=>forceL ks fun ks=>forceL vs fun vs=>Zy mx fun mx=>k (.map ks vs mx)
 | .iter m s sn c0=>k (.iter m s sn c0)
 | .dead=>k .dead
theorem Qa9 (b:Blk) (k:Blk→α):Sd b k=k b:=by
 unfold Sd
 split <;> simp only [forceL_eq,JZ]
 split <;> rfl

def Um:Heap→(Heap→α)→α
 | [],k=>k []
 | b::H,k=>Sd b fun b=>Um H fun H=>k (b::H)
theorem XU:∀(H:Heap) (k:Heap→α),Um H k=k H
 | [],k=>rfl
 | b::H,k=>by simp only [Um,Qa9,XU H]

end
section
noncomputable def Qb1 (s:Nat) (e:Env):HV:=@List.rec (Nat×HV) (fun _=>HV) .undef (fun p _ ih=>@Bool.rec (fun _=>HV) ih p.2 (Nat.beq p.1 s)) e
theorem YI (s:Nat):∀(e:Env),Qb1 s e=e.get s
 | []=>rfl
 | (t,v)::e=>by
  have ih:=YI s e
  show @Bool.rec (fun _=>HV) (Qb1 s e) v (Nat.beq t s)=Env.get ((t,v)::e) s
  rw [ih]
  simp only [Env.get]
  cases h:Nat.beq t s with
  | true=>rw [if_pos (Nat.eq_of_beq_eq_true h)]
  | false=>rw [if_neg (Nat.ne_of_beq_eq_false h)]
noncomputable def Wo (e:Env) (x:Operand):HV :=
 match x with
 | .tmp t=>Qb1 t e
 | .const v=>QC v
 | .func f=>.func f [] []
 | .global _=>.undef
theorem Wq (e:Env) (x:Operand):Wo e x=Qk e x:=by cases x <;> simp only [Wo,Qk,YI]
def Ys (H:Heap) (r:Option HV):Option (HV×Heap):=match r with | some v=>some (v,H) | none=>none
theorem J0 (H:Heap) (r:Option HV):Ys H r=r.map fun v=>(v,H):=by cases r <;> rfl
def QgD (c a b:HV) (H:Heap):Option (HV×Heap):=match c with | .bool t=>some (if t then a else b,H) | _=>none
def Qnr (P:Program) (H:Heap) (op:BinOp) (t:TypeId) (y:Operand) (vx vy:HV):Option (HV×Heap) :=
 match y with
 | .const (.slice none 0 0)=>Ys H (Kd P op t vx)
 | _=>Ys H (ZF P op t vx vy)
def G2 (H:Heap) (i:Nat) (v:HV):Option (HV×Heap):=match v with | .tuple vs=>Ys H vs[i]? | _=>none
def Qb2 (P:Program) (sl:Bool) (t:TypeId) (a x:HV) (H:Heap):Option (HV×Heap) :=
 match (if sl then Xb H x else some (x,H)) with
 | some (v,H)=>(QM P H t a v).map fun H=>(.tuple [],H)
 | none=>none
def Qb3 (P:Program) (call:QB) (t:Option (FuncId×List HV)) (H:Heap):Option (HV×Heap) :=
 match t with
 | some (g,args)=>if Jr P g then call g args H else none
 | none=>none
noncomputable def QgE (P:Program) (call:QB) (c:Call) (e:Env) (H:Heap):Option (HV×Heap) :=
 match c.callee with
 | .builtin b=>WX P b c.argTypes.toList (c.args.toList.map (Wo e)) H
 | .value g=>Qb3 P call (YF (Wo e g) (c.args.toList.map (Wo e))) H
 | .invoke _ _=>none
noncomputable def Qb4 (P:Program) (pol:Pol) (f:FuncId) (rg:Nat) (asg:List Nat) (call:QB) (o:Oper) (e:Env) (H:Heap):Option (HV×Heap) :=
 match o.op with
 | .move x=>some (Wo e x,H)
 | .pick c a b=>QgD (Wo e c) (Wo e a) (Wo e b) H
 | .load t a=>Ys H (Qh P H t (Wo e a))
 | .store t a x=>Qb2 P (pol.freezeS f rg) t (Wo e a) (Wo e x) H
 | .binOp op t x y _=>Qnr P H op t y (Wo e x) (Wo e y)
 | .unOp op _ x=>Ys H (unV op (Wo e x))
 | .indexAddr t x i=>Ys H (WW P t (Wo e x) (Wo e i))
 | .index t x i=>Ys H (Yb P t (Wo e x) (Wo e i))
 | .extract t i=>G2 H i (Wo e t)
 | .call c=>QgE P call c e H
 | _=>WG P pol f rg asg call o e H
theorem Qb5 (P:Program) (pol:Pol) (f:FuncId) (rg:Nat) (asg:List Nat) (call:QB) (o:Oper) (e:Env) (H:Heap):Qb4 P pol f rg asg call o e H=WG P pol f rg asg call o e H:=by
 have hm:(Wo e:Operand→HV)=Qk e:=funext fun x=>Wq e x
 unfold Qb4
 obtain ⟨dst,op,ty,pos,aft,gd⟩:=o
 cases op with
 | move x=>simp only [WG,Wq]
 | pick c a b=>simp only [WG,Wq,QgD];cases Qk e c <;> rfl
 | load t a=>simp only [WG,Wq,J0]
 | store t a x =>
  simp only [WG,Wq,Qb2]
  cases pol.freezeS f rg with
  | true=>simp only [if_true];cases Xb H (Qk e x) <;> rfl
  | false=>rfl
 | binOp op t x y _ =>
  simp only [WG,Wq,Qnr,J0]
  split
  ·rfl
  ·rename_i h
   congr 1
   split
   ·exact absurd rfl h
   ·rfl
 | unOp op _ x=>simp only [WG,Wq,J0]
 | indexAddr t x i=>simp only [WG,Wq,J0]
 | index t x i=>simp only [WG,Wq,J0]
 | extract t i=>simp only [WG,Wq,G2,J0];cases Qk e t <;> rfl
 | call c =>
  simp only [WG,QgE,hm,Wq,Qb3]
  cases c.callee with
  | builtin b=>rfl
  | invoke _ _=>rfl
  | value g =>
   simp only []
   cases YF (Qk e g) (c.args.toList.map (Qk e)) <;> rfl
 | _=>rfl
noncomputable def DW (ops:Array Oper) (o:Oper) (e:Env):Option Bool :=
 match o.guard with
 | none=>some true
 | some (j,want) =>
  match (ops[j]?).bind (·.dst) with
  | none=>some false
  | some d =>
   match Qb1 d e with
   | .bool b=>some (b==want)
   | .tuple []=>some false
   | _=>none
theorem Se (ops:Array Oper) (o:Oper) (e:Env):DW ops o e=Q2 ops o e:=by
 unfold DW Q2
 simp only [YI]
 cases o.guard with
 | none=>rfl
 | some p =>
  obtain ⟨j,want⟩:=p
  simp only []
  cases (ops[j]?).bind (·.dst) with
  | none=>rfl
  | some d =>
   simp only []
   cases e.get d with
   | tuple l=>cases l <;> rfl
   | _=>rfl
noncomputable def Ko {α:Type}:List Nat→Env→(Env→α)→α
 | [],_,k=>k []
 | t::l,e,k=>Jc (Qb1 t e) fun v=>Ko l e fun r=>k ((t,v)::r)
theorem J1 {α:Type}:∀(l:List Nat) (e:Env) (k:Env→α),Ko l e k=k (restr l e)
 | [],_,_=>rfl
 | t::l,e,k=>by simp only [Ko,XT,YI,J1 l];rfl

variable (P:Program) (pol:Pol)

noncomputable def XV (f:FuncId) (rg:Nat) (ops:Array Oper) (asg:List Nat) (call:QB):List Oper→Env→Heap→Option (Env×Heap)
 | [],e,H=>some (e,H)
 | o::os,e,H =>
  match DW ops o e with
  | some true =>
   match Qb4 P pol f rg asg call o e H with
   | some (v,H')=>Jc v fun v=>XV f rg ops asg call os (e.put o.dst v) H'
   | none=>none
  | some false=>XV f rg ops asg call os (e.put o.dst (.tuple [])) H
  | none=>none
theorem XW (f:FuncId) (rg:Nat) (ops:Array Oper) (asg:List Nat) (call:QB):∀(os:List Oper) (e:Env) (H:Heap),XV P pol f rg ops asg call os e H=ZH P pol f rg ops asg call os e H
 | [],_,_=>rfl
 | o::os,e,H=>by
  simp only [XV,ZH,Se,Qb5]
  cases Q2 ops o e with
  | none=>rfl
  | some t =>
   cases t with
   | false=>exact XW f rg ops asg call os _ _
   | true =>
    cases WG P pol f rg asg call o e H with
    | none=>rfl
    | some p=>simp only [XT];exact XW f rg ops asg call os _ _

noncomputable def XX (f:FuncId) (rg:Nat) (ops:Array Oper) (draw:Bool) (call:QB) (e:Env) (H:Heap):Option (Env×Heap) :=
 let asg:=ZG ops.toList
 if draw&&!(chk ops (pol.quiet f rg)).isEmpty then
  if (chk ops (pol.quiet f rg)).all (Kf P pol f rg ops asg call (ZA P pol f rg ops asg call ops.toList e H)) then XV P pol f rg ops asg call ops.toList e H else none
 else XV P pol f rg ops asg call ops.toList e H

noncomputable def VV (call:QB):Nat→FuncId→Code→Env→Heap→Option Out
 | 0,_,_,_,_=>none
 | n+1,f,c,e,H =>
  match c with
  | .skip=>some (.normal,e,H)
  | .label _=>some (.normal,e,H)
  | .region id ops draw=>match XX P pol f id ops draw call e H with | some (e,H)=>some (.normal,e,H) | none=>none
  | .seq a b =>
   match VV call n f a e H with
   | some (.normal,e,H)=>Ko (pol.keys f++Kg b) e fun e=>VV call n f b e H
   | r=>r
  | .cond c a b =>
   match Wo e c with
   | .bool t=>Ko (pol.keys f) e fun e=>match t with | true=>VV call n f a e H | false=>VV call n f b e H
   | _=>none
  | .block id b =>
   match VV call n f b e H with
   | some (.exit i,e,H)=>if i=id then some (.normal,e,H) else some (.exit i,e,H)
   | r=>r
  | .loop b=>Ko ((pol.keys f).filter fun t=>!(pol.dead f (Kh b)).contains t) e fun e=>Ko (pol.keys f) e fun e =>
   match VV call n f b e H with
   | some (.normal,e,H')=>Ko ((pol.keys f).filter fun t=>!(pol.dead f (Kh b)).contains t) e fun e=>Ko (pol.keys f) e fun e=>Um (gc H.length (Zm e) H') fun H=>VV call n f (.loop b) e H
   | r=>r
  | .exit id=>some (.exit id,e,H)
  | .ret=>some (.ret,e,H)
  | _=>none

theorem S1 (call:QB):∀(n:Nat) (f:FuncId) (c:Code) (e:Env) (H:Heap),VV P pol call n f c e H=evC P pol call n f c e H
 | 0,_,_,_,_=>rfl
 | n+1,f,c,e,H=>by
  have ih:=S1 call n
  cases c with
  | region id ops draw =>
   have:XX P pol f id ops draw call e H=Zn P pol f id ops draw call e H:=by
    unfold XX Zn
    simp only [XW]
   simp only [VV,evC,this]
   cases Zn P pol f id ops draw call e H <;> rfl
  | seq a b =>
   simp only [VV,evC,ih]
   cases evC P pol call n f a e H with
   | none=>rfl
   | some p =>
    obtain ⟨x,e,H⟩:=p
    cases x with
    | normal=>simp only [J1,ih]
    | _=>rfl
  | cond c a b =>
   simp only [VV,evC,Wq]
   cases Qk e c with
   | bool t =>
    simp only [J1]
    cases t <;> simp [ih]
   | _=>rfl
  | block id b =>
   simp only [VV,evC,ih]
   cases evC P pol call n f b e H with
   | none=>rfl
   | some p =>
    obtain ⟨x,e,H⟩:=p
    cases x <;> rfl
  | loop b =>
   simp only [VV,evC,ih,J1,QQ]
   cases evC P pol call n f b (restr (pol.keys f) (restr ((pol.keys f).filter fun t=>!(pol.dead f (Kh b)).contains t) e)) H with
   | none=>rfl
   | some p =>
    obtain ⟨x,e,H⟩:=p
    cases x with
    | normal=>simp only [J1,XU,ih]
    | _=>rfl
  | _=>rfl

def Un {α:Type}:Env→(Env→α)→α
 | [],k=>k []
 | (t,v)::e,k=>forceV v fun v=>Un e fun e=>k ((t,v)::e)
theorem Dd {α:Type}:∀(e:Env) (k:Env→α),Un e k=k e
 | [],_=>rfl
 | (t,v)::e,k=>by simp only [Un,forceV_eq,Dd e]

def ready (r:Option (HV×Heap)):Option (HV×Heap) :=
 match r with
 | some (v,H)=>forceV v fun v=>Um H fun H=>some (v,H)
 | none=>none
theorem Qb6 (r:Option (HV×Heap)):ready r=r:=by
 cases r with
 | none=>rfl
 | some p=>obtain ⟨v,H⟩:=p;simp only [ready,forceV_eq,XU]

noncomputable def Uo:Nat→QB
 | 0=>fun _ _ _=>none
 | n+1=>fun g args H=>ready (KM P pol (fun g c e H=>Un e fun e=>VV P pol (Uo n) n g c e H) g args H)
theorem De:∀(n:Nat),Uo P pol n=Qa P pol n
 | 0=>rfl
 | n+1=>by
  funext g args H
  have h:(fun (g:FuncId) (c:Code) (e:Env) (H:Heap)=>Un e fun e=>VV P pol (Uo P pol n) n g c e H)=evC P pol (Qa P pol n) n:=by
   funext g c e H
   rw [Dd,S1,De n]
  simp only [Uo,Qb6,Qa,h]

end
end Go.HL


/- Runs with hints: where the run cannot tell a value, it is told; what it was told is to be shown. Runs as such, and how they are put together. -/
namespace Go.HL

structure VW where
 rg:Nat
 i:Nat
 v:HV
 H:Heap

abbrev Obl:=Prop

def Obls (l:List Obl):Prop:=∀p∈l,p
theorem Obls.nil:Obls []:=by intro p hp;cases hp
theorem Obls.cons {p:Obl} {l:List Obl} (h:p) (t:Obls l):Obls (p::l):=by
 intro q hq
 cases hq with
 | head=>exact h
 | tail _ hq=>exact t q hq
theorem Qb7 {r:Option HV} {v:HV} {H:Heap} (h:r=some v):r.map (fun v=>(v,H))=some (v,H):=by rw [h];rfl
theorem Qb8 {r:Option Heap} {H:Heap} (h:r=some H):r.map (fun H=>(HV.tuple [],H))=some (.tuple [],H):=by rw [h];rfl
theorem QgF {p b:Bool} {H:Heap} (h:p=b):some (HV.bool p,H)=some (HV.bool b,H):=by rw [h]

section
variable (P:Program) (pol:Pol)

def JM (f:FuncId) (rg:Nat) (ops:Array Oper) (asg:List Nat) (call:QB):Nat→List Oper→Env→Heap→List VW→Option (Env×Heap×List VW×List Obl)
 | _,[],e,H,hs=>some (e,H,hs,[])
 | i,o::os,e,H,hs =>
  match Q2 ops o e with
  | some true =>
   match hs with
   | [] =>
    match WG P pol f rg asg call o e H with
    | some (v,H')=>JM f rg ops asg call (i+1) os (e.put o.dst v) H' []
    | none=>none
   | h::hs' =>
    if h.rg==rg&&h.i==i then
     match JM f rg ops asg call (i+1) os (e.put o.dst h.v) h.H hs' with
     | some (e',H',hs'',ob)=>some (e',H',hs'',(WG P pol f rg asg call o e H=some (h.v,h.H))::ob)
     | none=>none
    else
     match WG P pol f rg asg call o e H with
     | some (v,H')=>JM f rg ops asg call (i+1) os (e.put o.dst v) H' (h::hs')
     | none=>none
  | some false=>JM f rg ops asg call (i+1) os (e.put o.dst (.tuple [])) H hs
  | none=>none

theorem Jn {f:FuncId} {rg:Nat} {ops:Array Oper} {asg:List Nat} {call:QB}:∀(os:List Oper) (i:Nat) (e:Env) (H:Heap) (hs:List VW) {e':Env} {H':Heap} {hs':List VW} {ob:List Obl},
  JM P pol f rg ops asg call i os e H hs=some (e',H',hs',ob)→Obls ob→ZH P pol f rg ops asg call os e H=some (e',H')
 | [],i,e,H,hs,e',H',hs',ob,h,_=>by cases h;rfl
 | o::os,i,e,H,hs,e',H',hs',ob,h,ho=>by
  unfold JM at h
  unfold ZH
  split at h
  ·rename_i hw
   simp only [hw]
   split at h
   ·split at h
    ·rename_i v H1 he
     simp only [he]
     exact Jn os _ _ _ _ h ho
    ·cases h
   ·split at h
    ·split at h
     ·rename_i hr
      simp only [Option.some.injEq,Prod.mk.injEq] at h
      obtain ⟨rfl,rfl,rfl,rfl⟩:=h
      have h1:=ho _ (qF ..)
      simp only [h1]
      exact Jn os _ _ _ _ hr (fun p hp=>ho p (qC _ hp))
     ·cases h
    ·split at h
     ·rename_i v H1 he
      simp only [he]
      exact Jn os _ _ _ _ h ho
     ·cases h
  ·rename_i hw
   simp only [hw]
   exact Jn os _ _ _ _ h ho
  ·cases h

def VX (f:FuncId) (rg:Nat) (ops:Array Oper) (asg:List Nat) (call:QB):Nat→List Oper→Env→Heap→List VW→List (Env×Heap)
 | _,[],e,H,_=>[(e,H)]
 | i,o::os,e,H,hs=>(e,H) ::
  match Q2 ops o e with
  | some true =>
   match hs with
   | [] =>
    match WG P pol f rg asg call o e H with
    | some (v,H')=>VX f rg ops asg call (i+1) os (e.put o.dst v) H' []
    | none=>[]
   | h::hs' =>
    if h.rg==rg&&h.i==i then VX f rg ops asg call (i+1) os (e.put o.dst h.v) h.H hs'
    else
     match WG P pol f rg asg call o e H with
     | some (v,H')=>VX f rg ops asg call (i+1) os (e.put o.dst v) H' (h::hs')
     | none=>[]
  | some false=>VX f rg ops asg call (i+1) os (e.put o.dst (.tuple [])) H hs
  | none=>[]

theorem J2 {f:FuncId} {rg:Nat} {ops:Array Oper} {asg:List Nat} {call:QB}:∀(os:List Oper) (i:Nat) (e:Env) (H:Heap) (hs:List VW) {r:Env×Heap×List VW×List Obl},
  JM P pol f rg ops asg call i os e H hs=some r→Obls r.2.2.2→ZA P pol f rg ops asg call os e H=VX P pol f rg ops asg call i os e H hs
 | [],i,e,H,hs,r,h,_=>rfl
 | o::os,i,e,H,hs,r,h,ho=>by
  unfold JM at h
  unfold ZA VX
  split at h
  ·rename_i hw
   simp only [hw]
   split at h
   ·split at h
    ·rename_i v H1 he
     simp only [he]
     rw [J2 os _ _ _ _ h ho]
    ·cases h
   ·split at h
    ·rename_i hcnd
     split at h
     ·rename_i hr
      simp only [Option.some.injEq] at h
      subst h
      have h1:=ho _ (qF ..)
      simp only [h1,hcnd,if_true]
      rw [J2 os _ _ _ _ hr (fun p hp=>ho p (qC _ hp))]
     ·cases h
    ·rename_i hcnd
     split at h
     ·rename_i v H1 he
      simp only [he,hcnd]
      rw [J2 os _ _ _ _ h ho]
      rfl
     ·cases h
  ·rename_i hw
   simp only [hw]
   rw [J2 os _ _ _ _ h ho]
  ·cases h

def Kq (call:QB):Nat→FuncId→Code→Env→Heap→List VW→Option (Out×List VW×List Obl)
 | 0,_,_,_,_,_=>none
 | n+1,f,c,e,H,hs =>
  match c with
  | .skip=>some ((.normal,e,H),hs,[])
  | .label _=>some ((.normal,e,H),hs,[])
  | .region id ops draw =>
   if draw&&!(chk ops (pol.quiet f id)).isEmpty then
    match JM P pol f id ops (ZG ops.toList) call 0 ops.toList e H hs with
    | some (e',H',hs',ob)=>some ((.normal,e',H'),hs',((chk ops (pol.quiet f id)).all (Kf P pol f id ops (ZG ops.toList) call (VX P pol f id ops (ZG ops.toList) call 0 ops.toList e H hs))=true)::ob)
    | none=>none
   else
    match JM P pol f id ops (ZG ops.toList) call 0 ops.toList e H hs with
    | some (e,H,hs,ob)=>some ((.normal,e,H),hs,ob)
    | none=>none
  | .seq a b =>
   match Kq call n f a e H hs with
   | some ((.normal,e,H),hs,ob) =>
    match Kq call n f b (restr (pol.keys f++Kg b) e) H hs with
    | some (o,hs,ob')=>some (o,hs,ob++ob')
    | none=>none
   | r=>r
  | .cond c a b =>
   match Qk e c with
   | .bool t=>Kq call n f (if t then a else b) (restr (pol.keys f) e) H hs
   | _=>none
  | .block id b =>
   match Kq call n f b e H hs with
   | some ((.exit i,e,H),hs,ob)=>if i=id then some ((.normal,e,H),hs,ob) else some ((.exit i,e,H),hs,ob)
   | r=>r
  | .loop b =>
   match Kq call n f b (QQ pol f b e) H hs with
   | some ((.normal,e,H'),hs,ob) =>
    match Kq call n f (.loop b) (QQ pol f b e) (gc H.length (Zm (QQ pol f b e)) H') hs with
    | some (o,hs,ob')=>some (o,hs,ob++ob')
    | none=>none
   | r=>r
  | .exit id=>some ((.exit id,e,H),hs,[])
  | .ret=>some ((.ret,e,H),hs,[])
  | _=>none

theorem S2 {call:QB}:∀(n:Nat) (f:FuncId) (c:Code) (e:Env) (H:Heap) (hs:List VW) {o:Out} {hs':List VW} {ob:List Obl},
  Kq P pol call n f c e H hs=some (o,hs',ob)→Obls ob→∀m,n≤m→evC P pol call m f c e H=some o
 | 0,_,_,_,_,_,_,_,_,h,_,_,_=>by cases h
 | n+1,f,c,e,H,hs,o,hs',ob,h,ho,m+1,hm=>by
  have ih:=@S2 call n
  have hm':n≤m:=by omega
  cases c with
  | region id ops draw =>
   simp only [Kq] at h
   simp only [evC]
   split at h
   ·rename_i hd
    split at h
    ·rename_i e1 H1 hs1 ob1 he
     simp only [Option.some.injEq,Prod.mk.injEq] at h
     obtain ⟨rfl,rfl,rfl⟩:=h
     have:Zn P pol f id ops draw call e H=some (e1,H1):=by
      unfold Zn
      simp only [hd,if_true]
      rw [J2 P pol _ 0 _ _ hs he (fun p hp=>ho p (qC _ hp)),if_pos (ho _ (qF ..))]
      exact Jn P pol _ _ _ _ _ he (fun p hp=>ho p (qC _ hp))
     simp only [this]
    ·cases h
   ·rename_i hd
    split at h
    ·rename_i e1 H1 hs1 ob1 he
     simp only [Option.some.injEq,Prod.mk.injEq] at h
     obtain ⟨rfl,rfl,rfl⟩:=h
     have:Zn P pol f id ops draw call e H=some (e1,H1):=by
      unfold Zn
      simp only [hd]
      exact Jn P pol _ _ _ _ _ he ho
     simp only [this]
    ·cases h
  | seq a b =>
   simp only [Kq] at h
   simp only [evC]
   split at h
   ·rename_i e1 H1 hs1 ob1 he
    split at h
    ·rename_i he2
     simp only [Option.some.injEq,Prod.mk.injEq] at h
     obtain ⟨rfl,rfl,rfl⟩:=h
     rw [ih _ _ _ _ _ he (fun p hp=>ho p (List.mem_append_left _ hp)) m hm']
     exact ih _ _ _ _ _ he2 (fun p hp=>ho p (qI _ hp)) m hm'
    ·cases h
   ·rename_i hne
    obtain ⟨x,e1,H1⟩:=o
    rw [ih _ _ _ _ _ h ho m hm']
    cases x with
    | normal=>exact absurd h (hne _ _ _ _)
    | _=>rfl
  | loop b =>
   simp only [Kq] at h
   simp only [evC]
   split at h
   ·rename_i e1 H1 hs1 ob1 he
    split at h
    ·rename_i he2
     simp only [Option.some.injEq,Prod.mk.injEq] at h
     obtain ⟨rfl,rfl,rfl⟩:=h
     rw [ih _ _ _ _ _ he (fun p hp=>ho p (List.mem_append_left _ hp)) m hm']
     exact ih _ _ _ _ _ he2 (fun p hp=>ho p (qI _ hp)) m hm'
    ·cases h
   ·rename_i hne
    obtain ⟨x,e1,H1⟩:=o
    rw [ih _ _ _ _ _ h ho m hm']
    cases x with
    | normal=>exact absurd h (hne _ _ _ _)
    | _=>rfl
  | cond c a b =>
   simp only [Kq] at h
   simp only [evC]
   split at h
   ·rename_i t ht
    simp only [ht]
    exact ih _ _ _ _ _ h ho m hm'
   ·cases h
  | block id b =>
   simp only [Kq] at h
   simp only [evC]
   split at h
   ·rename_i i e1 H1 hs1 ob1 he
    split at h
    ·rename_i hi
     simp only [Option.some.injEq,Prod.mk.injEq] at h
     obtain ⟨rfl,rfl,rfl⟩:=h
     rw [ih _ _ _ _ _ he ho m hm']
     simp only [if_pos hi]
    ·rename_i hi
     simp only [Option.some.injEq,Prod.mk.injEq] at h
     obtain ⟨rfl,rfl,rfl⟩:=h
     rw [ih _ _ _ _ _ he ho m hm']
     simp only [if_neg hi]
   ·rename_i hne
    obtain ⟨x,e1,H1⟩:=o
    rw [ih _ _ _ _ _ h ho m hm']
    cases x with
    | exit i=>exact absurd h (hne _ _ _ _ _)
    | _=>rfl
  | skip=>simp only [Kq] at h;cases h;rfl
  | label=>simp only [Kq] at h;cases h;rfl
  | exit=>simp only [Kq] at h;cases h;rfl
  | ret=>simp only [Kq] at h;cases h;rfl
  | _=>cases h
 | n+1,_,_,_,_,_,_,_,_,_,_,0,hm=>by omega

def RunsTo (f:FuncId) (c:Code) (e:Env) (H:Heap) (x:X) (K:List Nat) (E:Env) (H':Heap):Prop :=
 ∃m,∀n k,m≤n→m≤k→∃e1,evC P pol (Qa P pol k) n f c e H=some (x,e1,H')∧restr K e1=E
def CallsTo (g:FuncId) (args:List HV) (H:Heap) (r:HV) (H':Heap):Prop:=∃m,∀k,m≤k→Qa P pol k g args H=some (r,H')

variable {P pol}
variable {f:FuncId} {e E E1:Env} {H H1 H2 H':Heap} {x:X} {K:List Nat} {a b c:Code}

theorem XY {K:List Nat} {e:Env} {t:Nat} (hc:K.contains t=true):(restr K e).get t=e.get t:=by
 have h:t∈K:=by simpa using hc
 clear hc
 induction K with
 | nil=>cases h
 | cons s K ih =>
  simp only [restr,qG,Env.get]
  split
  ·rename_i hs;rw [hs]
  ·rename_i hs
   cases h with
   | head=>exact absurd rfl hs
   | tail _ h=>exact ih h

theorem G3 {K L:List Nat} {e:Env} (h:∀t∈L,t∈K):restr L (restr K e)=restr L e:=by
 unfold restr
 apply List.map_congr_left
 intro t ht
 have:=XY (K:=K) (e:=e) (t:=t) (by simpa using h t ht)
 unfold restr at this
 rw [this]

def VH (K:List Nat) (r:Option (Out×List VW×List Obl)):Option (X×Env×Heap×List Obl) :=
 match r with
 | some ((x,e,H),_,ob)=>some (x,restr K e,H,ob)
 | none=>none

theorem RunsTo.hint (d n:Nat) (hs:List VW) (h:∀k,d≤k→∃ob,VH K (Kq P pol (Qa P pol k) n f c e H hs)=some (x,E,H',ob)∧Obls ob):RunsTo P pol f c e H x K E H':=by
 refine ⟨max n d,fun m k hm hk=>?_⟩
 obtain ⟨ob,h1,h2⟩:=h k (by omega)
 unfold VH at h1
 split at h1
 ·rename_i x1 e1 H1 hs1 ob1 he
  simp only [Option.some.injEq,Prod.mk.injEq] at h1
  obtain ⟨rfl,h1,rfl,rfl⟩:=h1
  exact ⟨e1,S2 P pol n f c e H hs he h2 m (by omega),h1⟩
 ·cases h1

theorem RunsTo.seq {K1:List Nat} (h1:RunsTo P pol f a e H .normal K1 E1 H1) (h2:RunsTo P pol f b E1 H1 x K E H') (hc:c=.seq a b) (hK:K1=pol.keys f++Kg b):RunsTo P pol f c e H x K E H':=by
 subst hc;subst hK
 obtain ⟨m1,h1⟩:=h1
 obtain ⟨m2,h2⟩:=h2
 refine ⟨m1+m2+1,fun n k hn hk=>?_⟩
 obtain ⟨n,rfl⟩:∃n',n=n'+1:=⟨n-1,by omega⟩
 obtain ⟨e1,g1,g2⟩:=h1 n k (by omega) (by omega)
 subst g2
 obtain ⟨e2,g3,g4⟩:=h2 n k (by omega) (by omega)
 exact ⟨e2,by simp only [evC,g1,g3],g4⟩

theorem RunsTo.seq_out (h1:RunsTo P pol f a e H x K E H') (hx:x≠.normal) (hc:c=.seq a b):RunsTo P pol f c e H x K E H':=by
 subst hc
 obtain ⟨m1,h1⟩:=h1
 refine ⟨m1+1,fun n k hn hk=>?_⟩
 obtain ⟨n,rfl⟩:∃n',n=n'+1:=⟨n-1,by omega⟩
 obtain ⟨e1,g1,g2⟩:=h1 n k (by omega) (by omega)
 refine ⟨e1,?_,g2⟩
 simp only [evC,g1]
 cases x with
 | normal=>exact absurd rfl hx
 | _=>rfl

theorem RunsTo.cond {y:Operand} {t:Bool} (hc:c=.cond y a b) (hy:Qk e y=.bool t) (h:RunsTo P pol f (if t then a else b) (restr (pol.keys f) e) H x K E H'):RunsTo P pol f c e H x K E H':=by
 subst hc
 obtain ⟨m,h⟩:=h
 refine ⟨m+1,fun n k hn hk=>?_⟩
 obtain ⟨n,rfl⟩:∃n',n=n'+1:=⟨n-1,by omega⟩
 obtain ⟨e1,g1,g2⟩:=h n k (by omega) (by omega)
 exact ⟨e1,by simp only [evC,hy,g1],g2⟩

theorem RunsTo.block {i:Nat} (hc:c=.block i b) (h:RunsTo P pol f b e H x K E H'):RunsTo P pol f c e H (if x=.exit i then .normal else x) K E H':=by
 subst hc
 obtain ⟨m,h⟩:=h
 refine ⟨m+1,fun n k hn hk=>?_⟩
 obtain ⟨n,rfl⟩:∃n',n=n'+1:=⟨n-1,by omega⟩
 obtain ⟨e1,g1,g2⟩:=h n k (by omega) (by omega)
 refine ⟨e1,?_,g2⟩
 simp only [evC,g1]
 cases x with
 | exit j =>
  simp only [X.exit.injEq]
  by_cases hj:j=i
  ·simp [hj]
  ·simp [hj]
 | _=>rfl

theorem RunsTo.block_exit {i:Nat} (h:RunsTo P pol f b e H (.exit i) K E H') (hc:c=.block i b):RunsTo P pol f c e H .normal K E H':=by
 have:=RunsTo.block hc h
 simpa using this
theorem RunsTo.block_ret {i:Nat} (h:RunsTo P pol f b e H .ret K E H') (hc:c=.block i b):RunsTo P pol f c e H .ret K E H':=by
 have:=RunsTo.block hc h
 simpa using this
theorem RunsTo.block_normal {i:Nat} (h:RunsTo P pol f b e H .normal K E H') (hc:c=.block i b):RunsTo P pol f c e H .normal K E H':=by
 have:=RunsTo.block hc h
 simpa using this

theorem RunsTo.loop {K1:List Nat} {E0:Env} (h1:RunsTo P pol f b e H .normal K1 E0 H1) (hE:QQ pol f b E0=E1) (hg:gc H.length (Zm E1) H1=H2) (h2:RunsTo P pol f c E1 H2 x K E H') (hK:K1=pol.keys f) (hc:c=.loop b) (he:QQ pol f b e=e):RunsTo P pol f c e H x K E H':=by
 subst hc;subst hK
 obtain ⟨m1,h1⟩:=h1
 obtain ⟨m2,h2⟩:=h2
 refine ⟨m1+m2+1,fun n k hn hk=>?_⟩
 obtain ⟨n,rfl⟩:∃n',n=n'+1:=⟨n-1,by omega⟩
 obtain ⟨e1,g1,g2⟩:=h1 n k (by omega) (by omega)
 have hE1:QQ pol f b e1=E1:=by
  rw [← hE,← g2]
  unfold QQ
  rw [G3 (fun t ht=>(List.mem_filter.1 ht).1)]
 subst hE1;subst hg
 obtain ⟨e2,g3,g4⟩:=h2 n k (by omega) (by omega)
 exact ⟨e2,by simp only [evC,he,g1,g3],g4⟩

theorem RunsTo.loop_out (h1:RunsTo P pol f b e H x K E H') (hx:x≠.normal) (hc:c=.loop b) (he:QQ pol f b e=e):RunsTo P pol f c e H x K E H':=by
 subst hc
 obtain ⟨m1,h1⟩:=h1
 refine ⟨m1+1,fun n k hn hk=>?_⟩
 obtain ⟨n,rfl⟩:∃n',n=n'+1:=⟨n-1,by omega⟩
 obtain ⟨e1,g1,g2⟩:=h1 n k (by omega) (by omega)
 refine ⟨e1,?_,g2⟩
 simp only [evC,he,g1]
 cases x with
 | normal=>exact absurd rfl hx
 | _=>rfl

theorem RunsTo.loop_in {e0:Env} (h:RunsTo P pol f c e H x K E H') (hc:c=.loop b) (h0:QQ pol f b e0=e) (he:QQ pol f b e=e):RunsTo P pol f c e0 H x K E H':=by
 subst hc
 obtain ⟨m,h⟩:=h
 refine ⟨m+1,fun n k hn hk=>?_⟩
 obtain ⟨n,rfl⟩:∃n',n=n'+1:=⟨n-1,by omega⟩
 obtain ⟨e1,g1,g2⟩:=h (n+1) k (by omega) (by omega)
 refine ⟨e1,?_,g2⟩
 rw [← g1]
 simp only [evC,he,h0]

theorem ZM {fn:Func} {K:List Nat} {e:Env} {H:Heap} (h:(fn.results.toList.all fun r=>match r with | .tmp t=>K.contains t | .cell t _=>K.contains t)=true):Qf P fn (restr K e) H=Qf P fn e H:=by
 have hm:∀(l:List ResultVar),(l.all fun r=>match r with | .tmp t=>K.contains t | .cell t _=>K.contains t)=true→mapO (Q3 P H (restr K e)) l=mapO (Q3 P H e) l:=by
  intro l
  induction l with
  | nil=>intro _;rfl
  | cons r l ih =>
   intro hl
   rw [List.all_cons,Bool.and_eq_true] at hl
   have hr:Q3 P H (restr K e) r=Q3 P H e r:=by
    cases r with
    | tmp t=>simp only [Q3,XY hl.1]
    | cell t _=>simp only [Q3,XY hl.1]
   simp only [mapO,hr,ih hl.2]
 unfold Qf
 rw [hm _ h]

theorem Qp {g:FuncId} {fn:Func} {cd:Code} {F:List HV→Option HV} (hm:P.follows .mixedOrders=true) (hS:∀n,Qo P (Qa P pol n)) (hf:P.funcs[g]?=some fn) (hb:fn.body=some cd) (hok:JL pol g fn=true)
  (hres:(fn.results.toList.all fun r=>match r with | .tmp t=>(pol.keys g).contains t | .cell t _=>(pol.keys g).contains t)=true)
  (h:∀(args:List HV) (res:HV),F args=some res→∃x E H' v,RunsTo P pol g cd (ZS args) [] x (pol.keys g) E H'∧(∀i,x≠.exit i)∧Qf P fn E H'=some v∧We H' (pol.deep g) v=some res):QN P g F:=by
 intro args res hF c w lo rargs hR hl hV
 obtain ⟨x,E,H',v,⟨m,h1⟩,hx,h2,h3⟩:=h args res hF
 obtain ⟨e1,g1,g2⟩:=h1 m m (qA m) (qA m)
 subst g2
 rw [ZM hres] at h2
 refine Jw (pol:=pol) (call:=Qa P pol m) (n:=m) hm (hS m) hf hb hok hR hl hV ?_
 unfold ZI
 rw [g1]
 cases x with
 | exit i=>exact absurd rfl (hx i)
 | normal=>simp only [h2,h3]
 | ret=>simp only [h2,h3]

theorem CallsTo.pure {g:FuncId} {fn:Func} {cd:Code} {args rs:List HV} {v r:HV} (hp:pol.prim g=none) (hf:P.funcs[g]?=some fn) (hb:fn.body=some cd) (hs:pol.shared g=false) (hn:pol.nilf g=false)
  (ha:mapO (Qx H 6) args=some rs) (hrun:RunsTo P pol g cd (ZS rs) [] x (pol.keys g) E H') (hres:(fn.results.toList.all fun r=>match r with | .tmp t=>(pol.keys g).contains t | .cell t _=>(pol.keys g).contains t)=true) (hx:∀i,x≠.exit i) (hv:Qf P fn E H'=some v) (hr:We H' (pol.deep g) v=some r) (hh:pol.heapP g=none:=by rfl) :
  CallsTo (P:=P) (pol:=pol) g args H (ZT r H).1 (ZT r H).2:=by
 obtain ⟨m,h⟩:=hrun
 refine ⟨m+1,fun k hk=>?_⟩
 obtain ⟨k,rfl⟩:∃n',k=n'+1:=⟨k-1,by omega⟩
 obtain ⟨e1,g1,g2⟩:=h k k (by omega) (by omega)
 subst g2
 rw [ZM hres] at hv
 exact Qa7 hp hf hb hs hn ha g1 hx hv hr hh

theorem Qba {g:FuncId} {F:List HV→Heap→Option (HV×Heap)} {args:List HV} {k:Nat} (hp:pol.prim g=none) (hh:pol.heapP g=some F):Qa P pol (k+1) g args H=F args H:=by
 simp only [Qa,KM,hp,hh]
theorem Qt {g:FuncId} {F:List HV→Option HV} {args rs:List HV} {res:HV} {k:Nat} (hp:pol.prim g=some F) (ha:mapO (Qx H 6) args=some rs) (hF:F rs=some res):Qa P pol (k+1) g args H=some (ZT res H):=by
 simp only [Qa,KM,hp,YW,ha,hF]

def sub:List Nat→Code→Code
 | [],c=>c
 | p::ps,.seq a b=>sub ps (match p with | 0=>a | _=>b)
 | p::ps,.cond _ a b=>sub ps (match p with | 0=>a | _=>b)
 | _::ps,.block _ b=>sub ps b
 | _::ps,.loop b=>sub ps b
 | _,_=>.skip

end
end Go.HL


/- What the told steps come to: lists of numbers, of pairs, of truth values. -/
namespace Go.HL
section
variable {P:Program}

def hvI (n:Int):HV:=.int .i64 n
def G4:HV→Option Int | .int .i64 n=>some n | _=>none
def Q5 (p:Int×Int):HV:=.agg [.int .i64 p.1,.int .i64 p.2]
theorem QH {α β:Type} {f:β→Option α} {g:α→β} (h:∀a,f (g a)=some a):∀(l:List α),mapO f (l.map g)=some l
 | []=>rfl
 | a::l=>by simp only [qG,mapO,h,QH h l]
theorem W7 {α β:Type} {f:β→Option α} {g:α→β} (h:∀b a,f b=some a→b=g a):∀{l:List β} {r:List α},mapO f l=some r→l=r.map g
 | [],r,hl=>by cases hl;rfl
 | b::l,r,hl=>by
  simp only [mapO] at hl
  cases hb:f b with
  | none=>simp only [hb] at hl;cases hl
  | some a =>
   simp only [hb] at hl
   cases hr:mapO f l with
   | none=>simp only [hr] at hl;cases hl
   | some r' =>
    simp only [hr,Option.some.injEq] at hl
    subst hl
    rw [h b a hb,W7 h hr]
    rfl
theorem WL (n:Int):G4 (hvI n)=some n:=rfl
theorem K0 (b:HV) (a:Int) (h:G4 b=some a):b=hvI a:=by
 unfold G4 at h
 split at h
 ·cases h;rfl
 ·cases h
theorem YJ {t e k:Nat} {g:G} {la:List HV} {ik:IntKind} {n:Int} {v:HV} (ht:P.underlying t=some (.slice e)) (hs:Qm P e=some k) (h0:0≤n) (h:la[n.toNat]?=some v) :
  WW P t (.imm g k la) (.int ik n)=some (.vptr v):=by
 have hlt:n.toNat<la.length:=Qd h
 simp only [WW,ht,hs,h]
 rw [if_pos ⟨h0,by omega,trivial⟩]
theorem VY {t e k b len tot:Nat} {cap:Option Nat} {ik:IntKind} {n:Int} (ht:P.underlying t=some (.slice e)) (hs:Qm P e=some k) (h0:0≤n) (h:n.toNat<len) :
  WW P t (.sl b 0 len cap tot k) (.int ik n)=some (.ptr b n.toNat 0 tot):=by
 simp only [WW,ht,hs]
 rw [if_pos ⟨h0,by omega,trivial⟩,Nat.zero_add]
theorem Qef {t e b i m tot:Nat} {ik:IntKind} {n:Int} (ht:P.underlying t=some (.array m e)) (hs:Qm P e=some 1) (h0:0≤n) (h:n.toNat<m) :
  WW P t (.ptr b i 0 tot) (.int ik n)=some (.ptr b i n.toNat tot):=by
 simp only [WW,ht,hs]
 rw [if_pos ⟨h0,by omega⟩,Nat.zero_add,Nat.mul_one]
theorem J3 {H:Heap} {t b i off tot k mx:Nat} {els cs:List HV} {w:Bool} {v:HV} (hb:H[b]?=some (.arr k els w mx)) (ht:tot=els.length) (hi:els[i]?=some (.agg cs)) (ha:Qw P t=false) (hu:(P.underlying t).isSome=true) (hv:cs[off]?=some v) :
  Qh P H t (.ptr b i off tot)=some v:=by
 simp only [Qh,hb,hi,ht,if_true,cellsOf,Jq,ha,hu,hv]
 simp
theorem Qv {H:Heap} {t b i tot k mx:Nat} {els:List HV} {w:Bool} {v:HV} (hb:H[b]?=some (.arr k els w mx)) (ht:tot=els.length) (hi:els[i]?=some v) (hc:cellsOf v=[v]) (ha:Qw P t=false) (hu:(P.underlying t).isSome=true) :
  Qh P H t (.ptr b i 0 tot)=some v:=by
 simp only [Qh,hb,hi,ht,if_true,hc,Jq,ha,hu]
 simp
theorem Xq {H:Heap} {t b i tot k mx:Nat} {els cs:List HV} {w:Bool} (hb:H[b]?=some (.arr k els w mx)) (ht:tot=els.length) (hi:els[i]?=some (.agg cs)) (ha:Qw P t=true) (hs:Qm P t=some cs.length) :
  Qh P H t (.ptr b i 0 tot)=some (.agg cs):=by
 simp only [Qh,hb,hi,ht,if_true,cellsOf,Jq,ha,hs]
 simp
theorem Sf {l c:List HV} (h:c.length=l.length):splice l 0 c=c:=by
 unfold splice
 simp [h]

theorem VZ {H:Heap} {t b i tot k mx:Nat} {els:List HV} {v old:HV} (hb:H[b]?=some (.arr k els true mx)) (ht:tot=els.length) (hi:els[i]?=some old) (ho:cellsOf old=[old]) (hna:∀cs,old≠.agg cs) (hs:Qm P t=some 1) (hc:cellsOf v=[v]) (hcv:Ql v=true) (hv:bnd v=0) :
  QM P H t (.ptr b i 0 tot) v=some (H.set b (.arr k (els.set i v) true mx)):=by
 simp only [QM,hb,hi,ht,hs,hc,ho,List.length_singleton,hv]
 rw [if_pos ⟨trivial,trivial⟩,if_pos ⟨by omega,by simp [hcv],by omega⟩,Nat.max_zero]
theorem Vm {H:Heap} {t b i tot k mx:Nat} {els cs new:List HV} (hb:H[b]?=some (.arr k els true mx)) (ht:tot=els.length) (hi:els[i]?=some (.agg cs)) (hs:Qm P t=some new.length) (hl:new.length=cs.length) (h0:new.length≠0) (hcv:new.all Ql=true) (hv:bndL new=0) :
  QM P H t (.ptr b i 0 tot) (.agg new)=some (H.set b (.arr k (els.set i (.agg new)) true mx)):=by
 simp only [QM,hb,hi,ht,hs,cellsOf,bnd,hv]
 rw [if_pos ⟨trivial,trivial⟩,if_pos ⟨by omega,hcv,h0⟩,Sf hl,Nat.max_zero]

theorem WB {α:Type} {f:HV→Option HV} {g:α→HV} (h:∀a,f (g a)=some (g a)):∀(l:List α),mapO f (l.map g)=some (l.map g)
 | []=>rfl
 | a::l=>by simp only [qG,mapO,h,WB h l]
theorem Kr {H:Heap} {no:List Nat}:∀(d:Nat) (b:Int),frz H no d (hvI b)=some (hvI b)
 | 0,_=>rfl
 | _+1,_=>rfl
theorem ZX {H:Heap} {no:List Nat} {b k m mx:Nat} {cap:Option Nat} {els:List HV} (hb:H[b]?=some (.arr k els true mx)) (hm:els.length=m) (hf:mapO (frz H no 4) els=some els):Wr H no false (.sl b 0 m cap m k)=some (.own k els):=by
 have hv:Wh H b 0 m m k=some els:=by
  simp only [Wh,hb]
  rw [if_pos ⟨hm.symm,by omega,trivial⟩]
  simp [← hm]
 have hr:(Zq H no false)=frz H no 4:=by funext v;rfl
 simp only [Wr,hb,if_true,hv,hr,hf]

theorem G5 {H:Heap} {t e k bt:Nat} {zv:HV} {n:Int} (ht:P.underlying t=some (.slice e)) (hI:(P.info? e).map (fun i=>(i.size,i.bytes,i.zero.map QC))=some (k,bt,some zv)) (hc:(cellsOf zv).all Ql=true) (hs:(cellsOf zv).length=k) (h0:k≠0) (hn:0≤n) (hb:(bt+1:Nat)*n≤(Q0:Int)) :
  VB P false t (.int .i64 n) (.int .i64 n) H=some (.sl H.length 0 n.toNat (some n.toNat) n.toNat k,H++[.arr k (List.replicate n.toNat zv) true 0]):=by
 cases hi:P.info? e with
 | none=>rw [hi] at hI;cases hI
 | some i =>
  rw [hi] at hI
  simp only [Option.map_some,Option.some.injEq,Prod.mk.injEq] at hI
  obtain ⟨rfl,rfl,hz⟩:=hI
  cases hz2:i.zero with
  | none=>rw [hz2] at hz;cases hz
  | some z =>
   rw [hz2] at hz
   simp only [Option.map_some,Option.some.injEq] at hz
   subst hz
   simp only [VB,ht,hi,hz2]
   rw [if_pos ⟨hn,Int.le_refl n,by simpa using hb⟩,if_pos ⟨hc,hs,h0⟩]
   cases P.underlying e with
   | none=>rfl
   | some u=>cases u <;> rfl

theorem DX {H:Heap} {k bytes b n mx:Nat} {els xs:List HV} (hb:H[b]?=some (.arr k els true mx)) (hn:els.length=n) (hx:xs≠[]) (hr:(n+xs.length)*(bytes+1)≤Q0) (hv:bndL xs=0) :
  WV H k bytes (.sl b 0 n none n k) xs=some (.sl b 0 (n+xs.length) none (n+xs.length) k,H.set b (.arr k (els++xs) true mx)):=by
 simp only [WV,if_neg hx,hb]
 rw [if_pos ⟨hn.symm,trivial,trivial,hr⟩]
 simp [hn,hv]
end
end Go.HL


/- Code that the ghost cannot run alone: what it may come to, told about the model itself; put together with runs. -/
namespace Go.HL
open Go.ChangeShapes Go.WideShapes Go.ChangeAt Go.RowKit
section
variable {P:Program} {pol:Pol} {f:FuncId}

def Trip (P:Program) (nt:Nat) (cd:Code) (e:Env) (H:Heap) (Q:X→Env→Heap→Prop):Prop :=
 ∀(lo:Nat) (c:Ctx) (w:World) (a:Act) (K:Exit→Act→World→Prop),c.H=H→Rel lo c w→RelE w c lo e a.tmps→nt≤a.tmps.size →
  (∀x e' H',Q x e' H'→After lo c w a e' H' (K x.exit'))→cd.wp P K a w

theorem Trip.mono {nt:Nat} {cd:Code} {e:Env} {H:Heap} {Q Q':X→Env→Heap→Prop} (h:Trip P nt cd e H Q) (hq:∀x e' H',Q x e' H'→Q' x e' H'):Trip P nt cd e H Q' :=
 fun lo c w a K hH hR he hn hK=>h lo c w a K hH hR he hn fun x e' H' q=>hK x e' H' (hq x e' H' q)

theorem After.restr {lo:Nat} {c:Ctx} {w:World} {a:Act} {e:Env} {H:Heap} {K:Act→World→Prop} (ks:List Nat) (h:After lo c w a (restr ks e) H K):After lo c w a e H K :=
 fun c' w' a' k1 k2 k3 k4 k5 k6=>h c' w' a' k1 k2 (k3.restr ks) k4 k5 k6

theorem After.gc {lo:Nat} {c:Ctx} {w:World} {a:Act} {e:Env} {H':Heap} {K:Act→World→Prop} {r:Nat} (hr:Zm e≤r) (h:After lo c w a e (gc c.H.length r H') K):After lo c w a e H' K :=
 fun c' w' a' k1 k2 k3 k4 k5 k6=>by
  subst k1
  exact h (c'.cut (max c.H.length (max r (mxs c'.H)))) w' a' rfl (Xm k2 (by omega)) (k3.cut (by omega)) (k4.cut (by omega)) k5 k6

theorem Trip.run {nt:Nat} {cd:Code} {e E:Env} {H H':Heap} {x:X} {ks:List Nat} (hm:P.follows .mixedOrders=true) (hS:∀n,Qo P (Qa P pol n)) (hok:W6 nt (pol.quiet f) cd=true)
  (h:RunsTo P pol f cd e H x ks E H'):Trip P nt cd e H (fun x1 e1 H1=>x1=x∧e1=E∧H1=H'):=by
 intro lo c w a K hH hR he hn hK
 obtain ⟨m,h1⟩:=h
 obtain ⟨e1,h2,h3⟩:=h1 m m (qA _) (qA _)
 subst hH
 refine (Ju hm (hS m) m cd (Yo hn hok) hR he h2 ?_).1
 have:=hK x E H' ⟨rfl,rfl,rfl⟩
 rw [← h3] at this
 exact this.restr ks

theorem Trip.seq {nt:Nat} {ca cb:Code} {e:Env} {H:Heap} {Q1 Q:X→Env→Heap→Prop} (h1:Trip P nt ca e H Q1) (h2:∀e1 H1,Q1 .normal e1 H1→Trip P nt cb e1 H1 Q) (h3:∀x e1 H1,x≠.normal→Q1 x e1 H1→Q x e1 H1) :
  Trip P nt (.seq ca cb) e H Q:=by
 intro lo c w a K hH hR he hn hK
 apply wp_seq
 refine h1 lo c w a _ hH hR he hn fun x e1 H1 q=>?_
 cases x with
 | normal =>
  intro c1 w1 a1 k1 k2 k3 k4 k5 k6
  refine h2 e1 H1 q lo c1 w1 a1 K k1 k2 k3 (by omega) fun x e2 H2 q2 c2 w2 a2 j1 j2 j3 j4 j5 j6=>?_
  exact hK x e2 H2 q2 c2 w2 a2 j1 j2 j3 (k4.trans j4) (j5.trans k5) (j6.trans k6)
 | exit i =>
  intro c1 w1 a1 k1 k2 k3 k4 k5 k6
  exact hK _ e1 H1 (h3 _ e1 H1 (by simp) q) c1 w1 a1 k1 k2 k3 k4 k5 k6
 | ret =>
  intro c1 w1 a1 k1 k2 k3 k4 k5 k6
  exact hK _ e1 H1 (h3 _ e1 H1 (by simp) q) c1 w1 a1 k1 k2 k3 k4 k5 k6

theorem Trip.skip {nt:Nat} {e:Env} {H:Heap} {Q:X→Env→Heap→Prop} (h:Q .normal e H):Trip P nt .skip e H Q:=by
 intro lo c w a K hH hR he hn hK
 exact wp_skip (hK _ _ _ h c w a hH hR he (Evo.refl _ _ _) rfl rfl)

theorem Trip.exit {nt i:Nat} {e:Env} {H:Heap} {Q:X→Env→Heap→Prop} (h:Q (.exit i) e H):Trip P nt (.exit i) e H Q:=by
 intro lo c w a K hH hR he hn hK
 exact wp_exit (hK _ _ _ h c w a hH hR he (Evo.refl _ _ _) rfl rfl)

theorem Trip.cond {nt:Nat} {y:Operand} {t:Bool} {ca cb:Code} {e:Env} {H:Heap} {Q:X→Env→Heap→Prop} (hy:Qk e y=.bool t) (h:Trip P nt (if t then ca else cb) e H Q):Trip P nt (.cond y ca cb) e H Q:=by
 intro lo c w a K hH hR he hn hK
 have h1:=Jg he y
 rw [hy] at h1
 refine wp_cond (t:=t) h1.bool_inv ?_
 have:=h lo c w a K hH hR he hn hK
 cases t <;> exact this

theorem Trip.block {nt id:Nat} {b:Code} {e:Env} {H:Heap} {Q:X→Env→Heap→Prop} (h:Trip P nt b e H (fun x e' H'=>Q (if x=.exit id then .normal else x) e' H')):Trip P nt (.block id b) e H Q:=by
 intro lo c w a K hH hR he hn hK
 apply wp_block
 refine h lo c w a _ hH hR he hn fun x e1 H1 q c1 w1 a1 k1 k2 k3 k4 k5 k6=>?_
 cases x with
 | normal=>exact hK _ _ _ q c1 w1 a1 k1 k2 k3 k4 k5 k6
 | ret=>exact hK _ _ _ q c1 w1 a1 k1 k2 k3 k4 k5 k6
 | exit i =>
  show Exit.inBlock id K (.exit i) a1 w1
  simp only [Exit.inBlock]
  by_cases hi:i=id
  ·subst hi
   rw [if_pos rfl]
   rw [if_pos rfl] at q
   exact hK _ _ _ q c1 w1 a1 k1 k2 k3 k4 k5 k6
  ·rw [if_neg hi]
   rw [if_neg (by simpa using hi)] at q
   exact hK _ _ _ q c1 w1 a1 k1 k2 k3 k4 k5 k6

theorem Trip.loop {nt:Nat} {b:Code} {Q:X→Env→Heap→Prop} {I:Nat→Env→Heap→Prop}
  (h:∀n e H,I n e H→Trip P nt b e H (fun x e' H'=>match x with | .normal=>∃m ks r,m<n∧Zm (HL.restr ks e')≤r∧I m (HL.restr ks e') (gc H.length r H') | x=>Q x e' H')) {n:Nat} {e:Env} {H:Heap} (hI:I n e H):Trip P nt (.loop b) e H Q:=by
 intro lo c w a K hH hR he hn hK
 have main:∀(k m:Nat) (e:Env) (H:Heap) (c:Ctx) (w:World) (a:Act),m<k→I m e H→c.H=H→Rel lo c w→RelE w c lo e a.tmps→nt≤a.tmps.size →
   (∀x e' H',Q x e' H'→After lo c w a e' H' (K x.exit'))→Code.rounds P b K k a w:=by
  intro k
  induction k with
  | zero=>intro m _ _ _ _ _ hk;omega
  | succ k ih =>
   intro m e H c w a hk hI hH hR he hn hK
   rw [rounds_succ]
   refine h m e H hI lo c w a _ hH hR he hn fun x e1 H1 q=>?_
   cases x with
   | normal =>
    obtain ⟨m',ks,r,hm',hr,hI'⟩:=q
    rw [← hH] at hI'
    refine After.restr ks (After.gc (r:=r) hr ?_)
    intro c1 w1 a1 k1 k2 k3 k4 k5 k6
    show Code.rounds P b K k a1 w1
    refine ih m' _ _ c1 w1 a1 (by omega) hI' k1 k2 k3 (by omega) fun x e2 H2 q2 c2 w2 a2 j1 j2 j3 j4 j5 j6=>?_
    exact hK x e2 H2 q2 c2 w2 a2 j1 j2 j3 (k4.trans j4) (j5.trans k5) (j6.trans k6)
   | exit i=>exact fun c1 w1 a1 k1 k2 k3 k4 k5 k6=>hK _ _ _ q c1 w1 a1 k1 k2 k3 k4 k5 k6
   | ret=>exact fun c1 w1 a1 k1 k2 k3 k4 k5 k6=>hK _ _ _ q c1 w1 a1 k1 k2 k3 k4 k5 k6
 exact wp_loop_rounds (n+1) (main (n+1) n e H c w a (by omega) hI hH hR he hn hK)

/-! ### Regions in any order -/

def Qb9 (P:Program) (pol:Pol) (f:FuncId) (rg:Nat) (ops:Array Oper) (asg:List Nat) (call:QB) (Q:Env→Heap→Prop):Nat→Array Bool→Env→Heap→Prop
  | 0,listed,e,H=>Region.ready .any ops listed=[]∧Q e H
  | n+1,listed,e,H=>(Region.ready .any ops listed=[]→Q e H)∧∀i∈Region.ready .any ops listed,∃o,ops[i]?=some o ∧
      ((Q2 ops o e=some true∧∃v H1,WG P pol f rg asg call o e H=some (v,H1)∧Qb9 P pol f rg ops asg call Q n (listed.setIfInBounds i true) (e.put o.dst v) H1) ∨
       (Q2 ops o e=some false∧Qb9 P pol f rg ops asg call Q n (listed.setIfInBounds i true) (e.put o.dst (.tuple [])) H))

theorem DY {rg:Nat} {ops:Array Oper} {asg:List Nat} {call:QB} {Qe:Env→Heap→Prop} {Q:Exit→Act→World→Prop} {lo:Nat} (hC:Qo P call) :
  ∀(n:Nat) (listed:Array Bool) {c:Ctx} {w:World} {a:Act} {e:Env},Rel lo c w→RelE w c lo e a.tmps→Zj a.tmps.size ops=true →
   Qb9 P pol f rg ops asg call Qe n listed e c.H→(∀e' H',Qe e' H'→After lo c w a e' H' (Q .normal))→wpAny P .any ops Q n listed a w
 | 0,listed,c,w,a,e,hR,he,hd,h,hK=>⟨h.1,hK e c.H h.2 c w a rfl hR he (Evo.refl _ _ _) rfl rfl⟩
 | n+1,listed,c,w,a,e,hR,he,hd,h,hK=>by
  refine ⟨fun hq=>hK e c.H (h.1 hq) c w a rfl hR he (Evo.refl _ _ _) rfl rfl,fun i hi=>?_⟩
  obtain ⟨o,hio,hh⟩:=h.2 i hi
  unfold wpOp
  simp only [hio]
  rcases hh with ⟨hw,v,H1,hev,hn⟩ | ⟨hw,hn⟩
  ·rw [W4 hw he]
   simp only [if_true]
   refine .inl (Vk hC hR he hev fun c1 w1 rv k1 k2 k3 k4=>?_)
   subst k1
   refine DY hC n _ k2 ((he.evo k4).put k3 (Wp hd hio)) (by rw [QR];exact hd) hn fun e' H' q=>?_
   intro c' w' a' g1 g2 g3 g4 g5 g6
   exact hK e' H' q c' w' a' g1 g2 g3 (k4.trans g4) (g5.trans (QY _ _ _)) (g6.trans (QR _ _ _))
  ·rw [W4 hw he]
   simp only [Bool.false_eq_true,if_false]
   refine DY hC n _ hR (he.put (.tuple [] #[] rfl (by simp)) (Wp hd hio)) (by rw [QR];exact hd) hn fun e' H' q=>?_
   intro c' w' a' g1 g2 g3 g4 g5 g6
   exact hK e' H' q c' w' a' g1 g2 g3 g4 (g5.trans (QY _ _ _)) (g6.trans (QR _ _ _))

theorem Trip.region {rg nt:Nat} {ops:Array Oper} {asg:List Nat} {k:Nat} {e:Env} {H:Heap} {Qe:Env→Heap→Prop} (hm:P.follows .mixedOrders=true) (hS:∀n,Qo P (Qa P pol n)) (hok:Zj nt ops=true)
  (h:Qb9 P pol f rg ops asg (Qa P pol k) Qe ops.size (qB ops.size false) e H):Trip P nt (.region rg ops true) e H (fun x e' H'=>x=.normal∧Qe e' H'):=by
 intro lo c w a K hH hR he hn hK
 subst hH
 obtain ⟨hR1,hE1⟩:=Xd hR (WChg.drew w)
 apply wp_region_any hm
 refine DY (hS k) ops.size _ (c:=c) (w:=w.drew) (lo:=lo) hR1 (he.evo hE1) (Wu hn hok) h fun e' H' q=>?_
 intro c' w' a' k1 k2 k3 k4 k5 k6
 exact hK .normal e' H' ⟨rfl,q⟩ c' w' a' k1 k2 k3 (hE1.trans k4) k5 k6

def Up (P:Program) (pol:Pol) (f:FuncId) (rg:Nat) (ops:Array Oper) (asg:List Nat) (call:QB):Nat→Array Bool→Env→Heap→Option (List (Env×Heap))
 | 0,listed,e,H=>match Region.ready .any ops listed with | []=>some [(e,H)] | _=>none
 | n+1,listed,e,H =>
  match Region.ready .any ops listed with
  | []=>some [(e,H)]
  | l =>
   match mapO (fun i =>
    match ops[i]? with
    | none=>none
    | some o =>
     match Q2 ops o e with
     | some true=>match WG P pol f rg asg call o e H with | some (v,H1)=>Up P pol f rg ops asg call n (listed.setIfInBounds i true) (e.put o.dst v) H1 | none=>none
     | some false=>Up P pol f rg ops asg call n (listed.setIfInBounds i true) (e.put o.dst (.tuple [])) H
     | none=>none) l with
   | some L=>some L.flatten
   | none=>none

theorem G6 {α β:Type} {g:α→Option β}:∀{l:List α} {L:List β},mapO g l=some L→∀x∈l,∃y,g x=some y∧y∈L
 | [],_,_,x,hx=>by cases hx
 | a::l,L,h,x,hx=>by
  unfold mapO at h
  split at h
  ·cases h
  rename_i y hy
  split at h
  ·cases h
  rename_i ys hys
  cases h
  cases hx with
  | head=>exact ⟨y,hy,by simp⟩
  | tail _ hx =>
   obtain ⟨z,h1,h2⟩:=G6 hys x hx
   exact ⟨z,h1,by simp [h2]⟩

theorem Uq {rg:Nat} {ops:Array Oper} {asg:List Nat} {call:QB} {Q:Env→Heap→Prop}:∀(n:Nat) (listed:Array Bool) (e:Env) (H:Heap) {outs:List (Env×Heap)},
  Up P pol f rg ops asg call n listed e H=some outs→(∀p∈outs,Q p.1 p.2)→Qb9 P pol f rg ops asg call Q n listed e H
 | 0,listed,e,H,outs,h,hq=>by
  unfold Up at h
  split at h
  ·rename_i hr
   cases h
   exact ⟨hr,hq (e,H) (by simp)⟩
  ·cases h
 | n+1,listed,e,H,outs,h,hq=>by
  unfold Up at h
  split at h
  ·rename_i hr
   cases h
   exact ⟨fun _=>hq (e,H) (by simp),fun i hi=>by rw [hr] at hi;cases hi⟩
  ·rename_i hr
   split at h
   rotate_left
   ·cases h
   rename_i L hL
   cases h
   refine ⟨fun hq'=>absurd hq' hr,fun i hi=>?_⟩
   obtain ⟨y,h1,h2⟩:=G6 hL i hi
   have hy:∀p∈y,Q p.1 p.2:=fun p hp=>hq p (List.mem_flatten.2 ⟨y,h2,hp⟩)
   split at h1
   ·cases h1
   rename_i o ho
   refine ⟨o,ho,?_⟩
   split at h1
   ·rename_i hw
    split at h1
    ·rename_i v H1 hev
     exact .inl ⟨hw,v,H1,hev,Uq n _ _ _ h1 hy⟩
    ·cases h1
   ·rename_i hw
    exact .inr ⟨hw,Uq n _ _ _ h1 hy⟩
   ·cases h1

def Jx:Code→Array Oper
 | .region _ ops _=>ops
 | _=>#[]
theorem Trip.any {rg nt:Nat} {cd:Code} {ks:List Nat} {e:Env} {H:Heap} {outs:List (Env×Heap)} {Q:Env→Heap→Prop} (hm:P.follows .mixedOrders=true) (hS:∀n,Qo P (Qa P pol n)) (hc:cd=.region rg (Jx cd) true) (hok:Zj nt (Jx cd)=true)
  (h:(Up P pol f rg (Jx cd) (ZG (Jx cd).toList) (Qa P pol 0) (Jx cd).size (qB (Jx cd).size false) e H).map (fun l=>l.map fun p=>(HL.restr ks p.1,p.2))=some outs) (hq:∀p∈outs,Q p.1 p.2) :
  Trip P nt cd e H (fun x e' H'=>x=.normal∧Q e' H'):=by
 cases hx:Up P pol f rg (Jx cd) (ZG (Jx cd).toList) (Qa P pol 0) (Jx cd).size (qB (Jx cd).size false) e H with
 | none=>rw [hx] at h;cases h
 | some l =>
  rw [hx] at h
  have h2:l.map (fun p=>(HL.restr ks p.1,p.2))=outs:=Option.some.inj h
  have h3:Trip P nt (.region rg (Jx cd) true) e H (fun x e' H'=>x=.normal∧Q (HL.restr ks e') H') :=
   Trip.region (Qe:=fun e' H'=>Q (HL.restr ks e') H') hm hS hok (Uq _ _ _ _ hx fun p hp=>hq (HL.restr ks p.1,p.2) (by rw [← h2];exact List.mem_map.2 ⟨p,hp,rfl⟩))
  rw [hc]
  intro lo c w a K hH hR he hn hK
  refine h3 lo c w a K hH hR he hn ?_
  rintro x e' H' ⟨rfl,hq'⟩
  exact (hK .normal (HL.restr ks e') H' ⟨rfl,hq'⟩).restr ks

/-! ### Calls -/

def CallT (P:Program) (g:FuncId) (args:List HV) (H:Heap) (Q:HV→Heap→Prop):Prop :=
 ∀(c:Ctx) (w:World) (lo:Nat) (rargs:Array Value),c.H=H→Rel lo c w→args.length=rargs.size →
  (∀(i:Nat) (v:HV) (x:Value),args[i]?=some v→rargs[i]?=some x→V w (Qg c lo) c v x) →
  Calls P g rargs w fun e w'=>∃rv c' r,Q r c'.H∧e=.returned rv∧Rel lo c' w'∧V w' (Qg c' lo) c' r rv∧Evo lo c w c' w'

theorem CallT.body {g:FuncId} {fn:Func} {cd:Code} {args:List HV} {H:Heap} {Q1:X→Env→Heap→Prop} {Q:HV→Heap→Prop} (hf:P.funcs[g]?=some fn) (hb:fn.body=some cd)
  (h:Trip P fn.ntmps cd (ZS args) H Q1) (hQ:∀x e H',Q1 x e H'→(∀i,x≠.exit i)∧∃v,Qf P fn e H'=some v∧Q v (gc H.length (bnd v) H')):CallT P g args H Q:=by
 intro c w lo rargs hH hR hl hV
 refine calls_of_wp hf hb ?_
 refine h lo c w { tmps:=rargs++qB (fn.ntmps-rargs.size) undef,defers:=[] } _ hH hR (XS hl hV) (by simp;omega) fun x e1 H1 q c1 w1 a1 k1 k2 k3 k4 k5 k6=>?_
 subst k1
 obtain ⟨hx,v,hv,hQv⟩:=hQ x e1 _ q
 obtain ⟨rv,r1,r2⟩:=VU k2 k3 hv
 rw [← hH] at hQv
 have fin:∃rv' c' r,Q r c'.H∧Ending.returned rv=Ending.returned rv'∧Rel lo c' w1∧V w1 (Qg c' lo) c' r rv'∧Evo lo c w c' w1 :=
  ⟨rv,c1.cut (max c.H.length (max (bnd v) (mxs c1.H))),v,hQv,rfl,Xm k2 (by omega),r2.cut (by omega),k4.cut (by omega)⟩
 cases x with
 | normal=>exact ⟨k5,rv,r1,fin⟩
 | ret=>exact ⟨k5,rv,r1,fin⟩
 | exit i=>exact absurd rfl (hx i)

theorem G7 {g:FuncId} {fn:Func} {cd:Code} {deep:Bool} {F:List HV→Option HV} (hf:P.funcs[g]?=some fn) (hb:fn.body=some cd)
  (h:∀(args:List HV) (res:HV),F args=some res→Trip P fn.ntmps cd (ZS args) [] (fun x e H'=>(∀i,x≠.exit i)∧∃v,Qf P fn e H'=some v∧We H' deep v=some res)):QN P g F:=by
 intro args res hF c w lo rargs hR hl hV
 refine Calls.mono (calls_of_wp (R:=fun ex w2=>∃rv c2 v,We c2.H deep v=some res∧ex=.returned rv∧Rel w.heap.size c2 w2∧V w2 (Qg c2 w.heap.size) c2 v rv∧Evo w.heap.size Ctx.nil w c2 w2) hf hb ?_) ?_
 ·refine h args res hF w.heap.size Ctx.nil w { tmps:=rargs++qB (fn.ntmps-rargs.size) undef,defers:=[] } _ rfl (Rel.nil w) (XS hl hV) (by simp;omega) fun x e1 H1 q c1 w1 a1 k1 k2 k3 k4 k5 k6=>?_
  subst k1
  obtain ⟨hx,v,hv,hQv⟩:=q
  obtain ⟨rv,r1,r2⟩:=VU k2 k3 hv
  have fin:∃rv' c2 v,We c2.H deep v=some res∧Ending.returned rv=Ending.returned rv'∧Rel w.heap.size c2 w1∧V w1 (Qg c2 w.heap.size) c2 v rv'∧Evo w.heap.size Ctx.nil w c2 w1:=⟨rv,c1,v,hQv,rfl,k2,r2,k4⟩
  cases x with
  | normal=>exact ⟨k5,rv,r1,fin⟩
  | ret=>exact ⟨k5,rv,r1,fin⟩
  | exit i=>exact absurd rfl (hx i)
 ·rintro ex w2 ⟨rv,c2,v,k1,rfl,k2,k3,k4⟩
  obtain ⟨c',j1,j2,j3,j4⟩:=DU hR (WChg.of_nil k4) k2 k3 k1
  exact ⟨rv,c',rfl,j1,j2,j3,j4⟩

end
end Go.HL


/- 'for k := range m' over a map that is not written meanwhile: whatever order the entries come in. -/
namespace Go.HL
open Go.ChangeMaps (setBlock)
section
variable {P:Program} {pol:Pol} {f:FuncId}

theorem Vn {lo:Nat} {rg:Nat} {ops:Array Oper} {asg:List Nat} {call:QB} {Q:Exit→Act→World→Prop} {e':Env} {H':Heap} (hC:Qo P call) :
  ∀(pre:List Oper) (post:List Oper) (i:Nat) {c:Ctx} {w:World} {a:Act} {e:Env},ops.toList.drop i=pre++post→Rel lo c w→RelE w c lo e a.tmps→Zj a.tmps.size ops=true →
   ZH P pol f rg ops asg call pre e c.H=some (e',H') →
   (∀(c':Ctx) (w':World) (a':Act),c'.H=H'→Rel lo c' w'→RelE w' c' lo e' a'.tmps→Evo lo c w c' w'→a'.defers=a.defers→a'.tmps.size=a.tmps.size→wpOps P ops Q (List.range' (i+pre.length) post.length) a' w') →
   wpOps P ops Q (List.range' i (pre.length+post.length)) a w
 | [],post,i,c,w,a,e,hd,hR,he,hdst,h,hK=>by
  cases h
  have:=hK c w a rfl hR he (Evo.refl _ _ _) rfl rfl
  simpa using this
 | o::pre,post,i,c,w,a,e,hd,hR,he,hdst,h,hK=>by
  have hi:i<ops.size:=by
   have:=congrArg qD hd
   simp at this
   omega
  have hoo:ops[i]=o:=by
   have h1:(ops.toList.drop i)[0]?=some o:=by rw [hd];rfl
   rw [List.getElem?_drop] at h1
   simp [hi] at h1
   exact h1
  have hio:ops[i]?=some o:=by simp [hi,hoo]
  have hd':ops.toList.drop (i+1)=pre++post:=by
   have:=congrArg List.tail hd
   simpa using this
  rw [show (o::pre).length+post.length=(pre.length+post.length)+1 by simp;omega,List.range'_succ]
  simp only [wpOps,hio]
  unfold ZH at h
  split at h
  ·rename_i hw
   rw [W4 hw he]
   simp only [if_true]
   split at h
   ·rename_i v H1 hev
    refine .inl (Vk hC hR he hev fun c1 w1 rv k1 k2 k3 k4=>?_)
    subst k1
    refine Vn hC pre post (i+1) hd' k2 ((he.evo k4).put k3 (Wp hdst hio)) (by rw [QR];exact hdst) h ?_
    intro c' w' a' g1 g2 g3 g4 g5 g6
    have:=hK c' w' a' g1 g2 g3 (k4.trans g4) (g5.trans (QY _ _ _)) (g6.trans (QR _ _ _))
    rw [show i+1+pre.length=i+(o::pre).length by simp;omega]
    exact this
   ·cases h
  ·rename_i hw
   rw [W4 hw he]
   simp only [Bool.false_eq_true,if_false]
   refine Vn hC pre post (i+1) hd' hR (he.put (.tuple [] #[] rfl (by simp)) (Wp hdst hio)) (by rw [QR];exact hdst) h ?_
   intro c' w' a' g1 g2 g3 g4 g5 g6
   have:=hK c' w' a' g1 g2 g3 g4 (g5.trans (QY _ _ _)) (g6.trans (QR _ _ _))
   rw [show i+1+pre.length=i+(o::pre).length by simp;omega]
   exact this
  ·cases h

theorem JF {o:Oper} {ops:Array Oper} {tmps:Array Value} (h:o.guard=none):Region.wanted o (yielded ops tmps)=true:=by
 unfold Region.wanted
 rw [h]

theorem WChg.setIter {w:World} {q:Nat} {m:Option Nat} {s:Nat} {sn:Array Nat} {cc:Nat} {o:Obj} (h:w.heap[q]?=some (.mapIter m s sn cc)):WChg w (setBlock w q o) (some q):=by
 refine ⟨rfl,rfl,rfl,by simp [setBlock],fun r hr hn=>?_,fun r cs T fz hr=>?_⟩
 ·show (w.heap.setIfInBounds q _)[r]?=_
  rw [qJ (by rintro rfl;exact hn rfl)]
 ·refine ⟨cs,T,fz,?_,rfl⟩
  show (w.heap.setIfInBounds q _)[r]?=_
  rw [qJ (by rintro rfl;rw [h] at hr;cases hr)]
  exact hr

theorem Qbb {lo:Nat} {c:Ctx} {w:World} {rx:Value} {ty:TypeId} {ib bm since c0 clock:Nat} {seen:List Nat} {es0:Array MapEntry} (hR:Rel lo c w) (hx:V w (Qg c lo) c (.ptr ib 0 0 0) rx)
  (hb:c.H[ib]?=some (.iter bm since seen c0)) (hw:w.heap[bm]?=some (.map es0 clock)) (hbn:∀x∈es0.toList,x.born<since) (hsc:since≤c0) :
  ((∀e∈es0.toList,e.born∈seen)∧(Instr.next rx false ty).run P w=.ok (.tuple #[.bool false]) w) ∨
  ∃e∈es0.toList,e.born∉seen∧∃c' w',(Instr.next rx false ty).run P w=.ok (.tuple #[.bool true,e.key,e.val]) w'∧c'.H=c.H.set ib (.iter bm since (seen++[e.born]) clock)∧Rel lo c' w'∧Evo lo c w c' w':=by
 obtain ⟨q,hq,hlo,hit⟩:=hR.blk ib _ hb
 have hrx:rx=.pointer (some ⟨q,0,none⟩):=by
  cases hx with
  | ptr _ _ _ _ a hp =>
   obtain ⟨blk,h1,h2⟩:=hp
   rw [hb] at h1
   cases h1
   obtain ⟨r,h3,rfl⟩:=h2 ⟨rfl,rfl,rfl⟩
   rw [hq] at h3;cases h3
   rfl
 subst hrx
 rcases run_next_at (P:=P) w ty q bm since c0 seen.toArray es0 clock hit hw hbn hsc with ⟨h1,h2⟩ | ⟨e,he,w1,hw1,h2⟩
 ·refine .inl ⟨fun e he=>?_,h2⟩
  have h3:leftOf es0 seen.toArray = #[]:=Array.eq_empty_of_size_eq_zero h1
  unfold leftOf at h3
  rw [Array.filter_eq_empty_iff] at h3
  have:=h3 e (by simpa using he)
  simpa using this
 ·refine .inr ⟨e,?_,?_,?_⟩
  ·unfold leftOf at he
   simp at he
   simpa using he.1
  ·unfold leftOf at he
   simp at he
   exact he.2
  ·have hR1:Rel lo c w1∧Evo lo c w c w1:=by
    rcases hw1 with rfl | rfl
    ·exact ⟨hR,.refl _ _ _⟩
    ·exact Xd hR (WChg.drew w)
   have hit1:w1.heap[q]?=some (.mapIter (some bm) since seen.toArray c0):=by rcases hw1 with rfl | rfl <;> exact hit
   have hlt:q<w1.heap.size:=Zv hit1
   obtain ⟨r1,r2⟩:=KO (x':=.iter bm since (seen++[e.born]) clock) (s:=some q) hR1.1 hb (WChg.setIter (o:=.mapIter (some bm) since (seen.toArray.push e.born) clock) hit1) (fun r hr=>by cases hr;exact ⟨hq,rfl⟩) (fun _=>rfl) (.inl hq.symm) hq.symm
    (fun _=>⟨q,(Qy (QE hb)).2,hlo,by
     show (w1.heap.setIfInBounds q _)[q]?=_
     rw [Array.getElem?_setIfInBounds_self_of_lt hlt]
     simp⟩)
   exact ⟨_,_,h2,rfl,r1,hR1.2.trans r2⟩

theorem Sg {lo:Nat} {c:Ctx} {w:World} {rx:Value} {ib bm since clock:Nat} {seen:List Nat} {es0:Array MapEntry} {e:MapEntry} (hR:Rel lo c w) (hx:V w (Qg c lo) c (.ptr ib 0 0 0) rx)
  (hb:c.H[ib]?=some (.iter bm since (seen++[e.born]) clock)) (hw:w.heap[bm]?=some (.map es0 clock)) (he:e∈es0.toList) (hn:(es0.toList.map (·.born)).Nodup) :
  (Instr.entry rx).run P w=.ok (.tuple #[e.key,e.val]) w:=by
 obtain ⟨q,hq,hlo,hit⟩:=hR.blk ib _ hb
 have hrx:rx=.pointer (some ⟨q,0,none⟩):=by
  cases hx with
  | ptr _ _ _ _ a hp =>
   obtain ⟨blk,h1,h2⟩:=hp
   rw [hb] at h1
   cases h1
   obtain ⟨r,h3,rfl⟩:=h2 ⟨rfl,rfl,rfl⟩
   rw [hq] at h3;cases h3
   rfl
 subst hrx
 exact run_entry_at (P:=P) w q bm since seen.toArray es0 clock e (by rw [hit];simp) hw he hn

def V0 (n:Nat) (S:List Nat):List Nat:=(List.range n).filter fun j=>!S.contains j
theorem Qbc {n j:Nat} {S:List Nat} (hj:j<n) (h:j∉S):(V0 n (S++[j])).length<(V0 n S).length:=by
 have e:V0 n (S++[j])=(V0 n S).filter fun i=>i != j:=by
  unfold V0
  rw [List.filter_filter]
  refine List.filter_congr fun i _=>?_
  by_cases hi:i=j
  ·subst hi;simp
  ·simp [hi]
 rw [e,List.length_filter_lt_length_iff_exists]
 exact ⟨j,List.mem_filter.2 ⟨List.mem_range.2 hj,by simpa using h⟩,by simp⟩

theorem Trip.range {nt rA r1 r2 i jb it tm tn tb te k:Nat} {T kt et:TypeId} {opsA ops1 ops2:Array Oper} {oR oN oX oE:Oper} {pre os:List Oper} {B:Code} {e e0:Env} {H:Heap} {g:G} {kl vl:List HV} {asgA asg2:List Nat} (ksI:List Nat)
  {Q:X→Env→Heap→Prop} {I:List Nat→Blk→Env→Heap→Prop} (hS:∀n,Qo P (Qa P pol n))
  (hA:opsA.toList=pre++[oR]) (hAo:oR.op=.range T (.tmp tm)) (hAd:oR.dst=some it) (hAg:oR.guard=none) (hu:P.underlying T=some (.map kt et))
  (h1:ops1.toList=[oN,oX]) (hNo:oN.op=.next (.tmp it) false) (hNd:oN.dst=some tn) (hNg:oN.guard=none) (hXo:oX.op=.extract (.tmp tn) 0) (hXd:oX.dst=some tb) (hXg:oX.guard=none)
  (h2:ops2.toList=oE::os) (hEo:oE.op=.entry (.tmp it)) (hEd:oE.dst=some te) (hEg:oE.guard=none) (hit:it≠tn∧it≠tb)
  (hdA:Zj nt opsA=true) (hd1:Zj nt ops1=true) (hd2:Zj nt ops2=true)
  (hpre:ZH P pol f rA opsA asgA (Qa P pol k) pre e H=some (e0,H)) (hmap:e0.get tm=.imap g kl vl)
  (hI0:∀Bk:Blk,Bk.mx=0→Qj [Bk] [Bk]=true→I [] Bk (HL.restr ksI (e0.put (some it) (.ptr H.length 0 0 0))) (H++[Bk]))
  (hIit:∀S Bk e H',I S Bk e H'→e.get it=.ptr H.length 0 0 0∧H'[H.length]?=some Bk)
  (hbody:∀S Bk e H' j kv vv,I S Bk e H'→j<kl.length→j∉S→S.Nodup→kl[j]?=some kv→vl[j]?=some vv→∀B':Blk,B'.mx=0→Qj [B'] [B']=true →
   ∃e1 H1,ZH P pol f r2 ops2 asg2 (Qa P pol k) os (((e.put (some tn) (.tuple [.bool true,.undef,.undef])).put (some tb) (.bool true)).put (some te) (.tuple [kv,vv])) (H'.set H.length B')=some (e1,H1) ∧
    Trip P nt B e1 H1 (fun x e2 H2=>x=.normal∧∃ks r,Zm (HL.restr ks e2)≤r∧I (S++[j]) B' (HL.restr ks e2) (gc H'.length r H2)))
  (hend:∀S Bk e H',I S Bk e H'→(∀j,j<kl.length→j∈S)→(∀j∈S,j<kl.length)→S.Nodup→Q .normal ((e.put (some tn) (.tuple [.bool false])).put (some tb) (.bool false)) H') :
  Trip P nt (.seq (.region rA opsA false) (.block i (.loop (.seq (.region r1 ops1 false) (.seq (.cond (.tmp tb) .skip (.exit i)) (.block jb (.seq (.region r2 ops2 false) B))))))) e H Q:=by
 intro lo c w a K hH hR he hn hK
 subst hH
 apply wp_seq
 apply wp_region
 rw [qH]
 have hszA:opsA.size=pre.length+1:=by have:=congrArg qD hA;simpa using this
 rw [hszA]
 refine Vn (hS k) pre [oR] 0 (by simpa using hA) hR he (Wu hn hdA) hpre fun c1 w1 a1 k1 k2 k3 k4 k5 k6=>?_
 have hoR:opsA[0+pre.length]?=some oR:=by
  rw [← qE,hA,List.getElem?_append_right (by omega)]
  simp
 show wpOps P opsA _ (List.range' (0+pre.length) 1) a1 w1
 simp only [List.range'_one,wpOps,hoR]
 rw [JF hAg]
 simp only [if_true]
 refine .inl ?_
 have hm:=Jg k3 (.tmp tm)
 have hmo:Qk e0 (.tmp tm)=.imap g kl vl:=hmap
 rw [hmo] at hm
 generalize hrx:a1.eval (.tmp tm)=rx at hm
 cases hm with
 | imap _ _ _ bm es clock hbm hok hMap hl hl' hkp hkk hkv =>
 obtain ⟨es0,hw0,hperm,hbn,hbd⟩:=hMap
 have hnM:¬c1.M bm:=hok.1
 have hrun:(Instr.range T (.map (some bm))).run P w1=.ok (.pointer (some ⟨w1.heap.size,0,none⟩)) (w1.alloc (.mapIter (some bm) clock #[] clock)):=run_range_map w1 T kt et bm es0 clock hu hw0
 obtain ⟨p1,p2⟩:=Vh (x:=.iter bm clock [] clock) (s:=some w1.heap.size) (w':=w1.alloc (.mapIter (some bm) clock #[] clock)) k2 (WChg.alloc w1 _ none) (fun r hr=>by cases hr;simp)
  (fun _=>⟨w1.heap.size,push_new.2,k2.low,QG w1 _⟩)
 have hptr:V (w1.alloc (.mapIter (some bm) clock #[] clock)) (Qg (c1.push (.iter bm clock [] clock) (some w1.heap.size)) lo) (c1.push (.iter bm clock [] clock) (some w1.heap.size)) (.ptr c1.H.length 0 0 0) (.pointer (some ⟨w1.heap.size,0,none⟩)):=by
  refine .ptr _ _ _ _ _ ?_
  exact ⟨_,push_new.1,fun _=>⟨_,push_new.2,rfl⟩⟩
 rw [k1] at hptr
 refine Wk (s:=Instr.range T (.map (some bm))) (v:=.ptr c.H.length 0 0 0) (H':=c.H++[.iter bm clock [] clock]) (by simp only [execOp,hAo,hrx])
  ⟨c1.push (.iter bm clock [] clock) (some w1.heap.size),_,_,hrun,by simp [Ctx.push,k1],p1,hptr,p2⟩ ?_
 intro c2 w2 rv g1 g2 g3 g4
 show (Code.block i _).wp P K (a1.put oR.dst rv) w2
 apply wp_block
 have hE2:Evo lo c w c2 w2:=k4.trans g4
 have hw2:w2.heap[bm]?=some (.map es0 clock):=(g4.out bm hbm hnM).trans hw0
 have hM2:¬c2.M bm:=g4.noM hbm hnM
 have hlen:es.size=es0.size:=by have:=hperm.length_eq;simpa using this.symm
 have he2:RelE w2 c2 lo (e0.put (some it) (.ptr c.H.length 0 0 0)) (a1.put oR.dst rv).tmps:=by
  rw [hAd]
  exact (k3.evo g4).put g3 (fun t ht=>by cases ht;exact Wp (Wu (by omega) hdA) hoR _ hAd)
 have hkey:∀(c':Ctx) (w':World),Evo lo c1 w1 c' w'→∀(j:Nat) (v:HV) (m:MapEntry),kl[j]?=some v→es[j]?=some m→V w' (Qg c' lo) c' v m.key:=fun c' w' hE j v m q1 q2=>(hkk j v m q1 q2).evo hE.W (CEvo.of_nil c')
 have hval:∀(c':Ctx) (w':World),Evo lo c1 w1 c' w'→∀(j:Nat) (v:HV) (m:MapEntry),vl[j]?=some v→es[j]?=some m→V w' (Qg c' lo) c' v m.val:=fun c' w' hE j v m q1 q2=>(hkv j v m q1 q2).evo hE.W (CEvo.of_nil c')
 have main:∀(fu:Nat) (S:List Nat) (c0':Nat) (c':Ctx) (w':World) (a':Act) (e':Env),(V0 kl.length S).length<fu→S.Nodup→(∀j∈S,j<kl.length)→clock≤c0' →
   I S (.iter bm clock (S.map fun j=>((es[j]?).map (·.born)).getD 0) c0') e' c'.H→Rel lo c' w'→RelE w' c' lo e' a'.tmps→Evo lo c1 w1 c' w'→a'.defers=a.defers→a'.tmps.size=a.tmps.size →
   Code.rounds P (.seq (.region r1 ops1 false) (.seq (.cond (.tmp tb) .skip (.exit i)) (.block jb (.seq (.region r2 ops2 false) B)))) (Exit.inBlock i K) fu a' w':=by
  intro fu
  induction fu with
  | zero=>intro S c0' c' w' a' e' hf;omega
  | succ fu ih =>
   intro S c0' c' w' a' e' hf hnd hlt hc0 hI hR' he' hE' hdf hts
   rw [rounds_succ]
   obtain ⟨i1,i2⟩:=hIit S _ e' c'.H hI
   have hwb:w'.heap[bm]?=some (.map es0 clock):=(hE'.out bm hbm hnM).trans hw0
   have hborn:∀j,j<kl.length→∃m,es[j]?=some m∧m∈es0.toList:=fun j hj=>by
    have:j<es.size:=by omega
    exact ⟨es[j],Array.getElem?_eq_getElem this,hperm.symm.subset (by simp)⟩
   have hinj:∀(j j':Nat) (m m':MapEntry),es[j]?=some m→es[j']?=some m'→m.born=m'.born→j=j':=by
    intro j j' m m' q1 q2 q3
    have hb2:(es.toList.map (·.born)).Nodup:=(List.Perm.nodup_iff (hperm.map _)).1 hbd
    have l1:j<es.size:=Qq q1
    have l2:j'<es.size:=Qq q2
    have:=(List.getElem_inj (i:=j) (j:=j') (h₀:=by simpa using l1) (h₁:=by simpa using l2) hb2).1 (by
     simp [l1] at q1;simp [l2] at q2
     simp [q1,q2,q3])
    exact this
   have hoN:ops1[0]?=some oN:=by rw [← qE,h1];rfl
   have hoX:ops1[1]?=some oX:=by rw [← qE,h1];rfl
   have hsz1:ops1.size=2:=by have:=congrArg qD h1;simpa using this
   apply wp_seq
   apply wp_region
   rw [qH,hsz1]
   show wpOps P ops1 _ [0,1] a' w'
   simp only [wpOps,hoN]
   rw [JF hNg]
   simp only [if_true]
   refine .inl ?_
   have hitv:=Jg he' (.tmp it)
   have hito:Qk e' (.tmp it)=.ptr c.H.length 0 0 0:=i1
   rw [hito] at hitv
   have hseen:∀j,j<kl.length→∀m,es[j]?=some m→(m.born∈(S.map fun j=>((es[j]?).map (·.born)).getD 0)↔j∈S):=fun j hj m hm=>by
    constructor
    ·intro hmem
     obtain ⟨j',h3,h4⟩:=List.mem_map.1 hmem
     obtain ⟨m',h5,_⟩:=hborn j' (hlt j' h3)
     rw [h5] at h4
     simp at h4
     rw [hinj j j' m m' hm h5 h4.symm];exact h3
    ·intro hj
     exact List.mem_map.2 ⟨j,hj,by rw [hm];rfl⟩
   have ext:∀(c4:Ctx) (w4:World) (a4:Act) (e4:Env) (vs:List HV) (b:Bool),vs.head?=some (.bool b)→e4.get tn=.tuple vs→Rel lo c4 w4→RelE w4 c4 lo e4 a4.tmps→a4.tmps.size=a.tmps.size →
     (∀c5 w5 a5,c5.H=c4.H→Rel lo c5 w5→RelE w5 c5 lo (e4.put (some tb) (.bool b)) a5.tmps→Evo lo c4 w4 c5 w5→a5.defers=a4.defers→a5.tmps.size=a4.tmps.size →
      (Code.seq (.cond (.tmp tb) .skip (.exit i)) (.block jb (.seq (.region r2 ops2 false) B))).wp P (Exit.then (Code.rounds P (.seq (.region r1 ops1 false) (.seq (.cond (.tmp tb) .skip (.exit i)) (.block jb (.seq (.region r2 ops2 false) B)))) (Exit.inBlock i K) fu) (Exit.inBlock i K)) a5 w5) →
     wpOps P ops1 (Exit.then ((Code.seq (.cond (.tmp tb) .skip (.exit i)) (.block jb (.seq (.region r2 ops2 false) B))).wp P (Exit.then (Code.rounds P (.seq (.region r1 ops1 false) (.seq (.cond (.tmp tb) .skip (.exit i)) (.block jb (.seq (.region r2 ops2 false) B)))) (Exit.inBlock i K) fu) (Exit.inBlock i K))) (Exit.then (Code.rounds P (.seq (.region r1 ops1 false) (.seq (.cond (.tmp tb) .skip (.exit i)) (.block jb (.seq (.region r2 ops2 false) B)))) (Exit.inBlock i K) fu) (Exit.inBlock i K))) [1] a4 w4:=by
    intro c4 w4 a4 e4 vs b hv ht hR4 he4 hs4 hk
    simp only [wpOps,hoX]
    rw [JF hXg]
    simp only [if_true]
    refine .inl (Vk (pol:=pol) (f:=f) (rg:=r1) (asg:=[]) (hS k) hR4 he4 (v:=.bool b) (H':=c4.H) ?_ fun c5 w5 rv5 q1 q2 q3 q4=>?_)
    ·have ho:Qk e4 (.tmp tn)=.tuple vs:=ht
     have h0:vs[0]?=some (.bool b):=by cases vs with | nil=>cases hv | cons x l=>simpa using hv
     simp only [WG,hXo,ho,h0,Option.map]
    ·exact hk c5 w5 (a4.put oX.dst rv5) q1 q2 (by rw [hXd];exact (he4.evo q4).put q3 (fun t ht=>by cases ht;exact Wp (Wu (by omega) hd1) hoX _ hXd)) q4 (QY _ _ _) (QR _ _ _)
   rcases Qbb (ty:=oN.type) hR' hitv i2 hwb hbn hc0 with ⟨hall,hrun⟩ | ⟨en,hen,hns,c3,w3,hrun,hc3,hR3,hE3⟩
   ·refine Wk (s:=Instr.next (a'.eval (.tmp it)) false oN.type) (v:=.tuple [.bool false]) (H':=c'.H) (by simp only [execOp,hNo]) (.pure hR' hrun (.tuple _ _ rfl fun i v r q1 q2=>?_)) ?_
    ·match i,q1,q2 with
     | 0,q1,q2=>simp at q1 q2;subst q1;subst q2;exact .bool _
     | i+1,q1,q2=>simp at q1
    intro c4 w4 rv4 q1 q2 q3 q4
    have he4:RelE w4 c4 lo (e'.put (some tn) (.tuple [.bool false])) (a'.put oN.dst rv4).tmps:=by
     rw [hNd]
     exact (he'.evo q4).put q3 (fun t ht=>by cases ht;exact Wp (Wu (by omega) hd1) hoN _ hNd)
    refine ext c4 w4 _ _ [.bool false] false rfl (by simp [Env.put,Env.get]) q2 he4 ((QR _ _ _).trans hts) fun c5 w5 a5 p1 p2 p3 p4 p5 p6=>?_
    apply wp_seq
    have hbv:=p3 tb
    have hbg:((e'.put (some tn) (.tuple [.bool false])).put (some tb) (.bool false)).get tb=.bool false:=by simp [Env.put,Env.get]
    rw [hbg] at hbv
    refine wp_cond (t:=false) hbv.bool_inv ?_
    refine wp_exit ?_
    show Exit.inBlock i K (.exit i) a5 w5
    simp only [Exit.inBlock,if_pos]
    refine hK .normal _ c'.H (hend S _ e' c'.H hI (fun j hj=>?_) hlt hnd) c5 w5 a5 (p1.trans q1) p2 p3 (((k4.trans hE').trans q4).trans p4) ((p5.trans (QY _ _ _)).trans hdf) ((p6.trans (QR _ _ _)).trans hts)
    obtain ⟨m,h3,h4⟩:=hborn j hj
    exact (hseen j hj m h3).1 (hall m h4)
   ·obtain ⟨j,hj⟩:∃j,es[j]?=some en:=by
     have:en∈es.toList:=hperm.subset hen
     obtain ⟨j,hj⟩:=List.mem_iff_getElem?.1 this
     exact ⟨j,by simpa using hj⟩
    have hjl:j<kl.length:=by have:=Qq hj;omega
    have hjS:j∉S:=fun h=>hns ((hseen j hjl en hj).2 h)
    obtain ⟨kv,hkv1⟩:∃kv,kl[j]?=some kv:=⟨kl[j],qK hjl⟩
    obtain ⟨vv,hvv1⟩:∃vv,vl[j]?=some vv:=⟨vl[j]'(by omega),qK (by omega)⟩
    obtain ⟨e1,H1,hos,hB⟩:=hbody S _ e' c'.H j kv vv hI hjl hjS hnd hkv1 hvv1 (.iter bm clock ((S.map fun j=>((es[j]?).map (·.born)).getD 0)++[en.born]) clock) rfl (by simp [Qj])
    refine Wk (s:=Instr.next (a'.eval (.tmp it)) false oN.type) (v:=.tuple [.bool true,.undef,.undef]) (H':=c3.H) (by simp only [execOp,hNo]) ⟨c3,w3,_,hrun,rfl,hR3,.tuple _ _ rfl fun i v r q1 q2=>?_,hE3⟩ ?_
    ·match i,q1,q2 with
     | 0,q1,q2=>simp at q1 q2;subst q1;subst q2;exact .bool _
     | 1,q1,q2=>simp at q1;subst q1;exact .undef _
     | 2,q1,q2=>simp at q1;subst q1;exact .undef _
     | i+3,q1,q2=>simp at q1
    intro c4 w4 rv4 q1 q2 q3 q4
    have he4:RelE w4 c4 lo (e'.put (some tn) (.tuple [.bool true,.undef,.undef])) (a'.put oN.dst rv4).tmps:=by
     rw [hNd]
     exact (he'.evo q4).put q3 (fun t ht=>by cases ht;exact Wp (Wu (by omega) hd1) hoN _ hNd)
    refine ext c4 w4 _ _ [.bool true,.undef,.undef] true rfl (by simp [Env.put,Env.get]) q2 he4 ((QR _ _ _).trans hts) fun c5 w5 a5 p1 p2 p3 p4 p5 p6=>?_
    apply wp_seq
    have hbv:=p3 tb
    have hbg:((e'.put (some tn) (.tuple [.bool true,.undef,.undef])).put (some tb) (.bool true)).get tb=.bool true:=by simp [Env.put,Env.get]
    rw [hbg] at hbv
    refine wp_cond (t:=true) hbv.bool_inv ?_
    refine wp_skip ?_
    show (Code.block jb _).wp P _ a5 w5
    apply wp_block
    apply wp_seq
    apply wp_region
    have hsz2:ops2.size=os.length+1:=by have:=congrArg qD h2;simpa using this
    have hoE:ops2[0]?=some oE:=by rw [← qE,h2];rfl
    rw [qH,hsz2,List.range'_succ]
    simp only [wpOps,hoE]
    rw [JF hEg]
    simp only [if_true]
    refine .inl ?_
    have hE5:Evo lo c1 w1 c5 w5:=((hE'.trans q4).trans p4)
    have hwb5:w5.heap[bm]?=some (.map es0 clock):=(hE5.out bm hbm hnM).trans hw0
    have hitv5:=p3 it
    have hit5:((e'.put (some tn) (.tuple [.bool true,.undef,.undef])).put (some tb) (.bool true)).get it=.ptr c.H.length 0 0 0:=by
     have n1:¬tb=it:=fun h=>hit.2 h.symm
     have n2:¬tn=it:=fun h=>hit.1 h.symm
     simp only [Env.put,Env.get,if_neg n1,if_neg n2,i1]
    rw [hit5] at hitv5
    have hb5:c5.H[c.H.length]?=some (.iter bm clock ((S.map fun j=>((es[j]?).map (·.born)).getD 0)++[en.born]) clock):=by
     rw [p1,q1,hc3,List.getElem?_set_self (Qd i2)]
    have hrunE:=Sg (P:=P) p2 hitv5 hb5 hwb5 hen hbd
    refine Wk (s:=Instr.entry (a5.eval (.tmp it))) (v:=.tuple [kv,vv]) (H':=c5.H) (by simp only [execOp,hEo]) (.pure p2 hrunE (.tuple _ _ rfl fun i v r o1 o2=>?_)) ?_
    ·match i,o1,o2 with
     | 0,o1,o2=>simp at o1 o2;subst o1;subst o2;exact hkey c5 w5 hE5 j _ _ hkv1 hj
     | 1,o1,o2=>simp at o1 o2;subst o1;subst o2;exact hval c5 w5 hE5 j _ _ hvv1 hj
     | i+2,o1,o2=>simp at o1
    intro c6 w6 rv6 o1 o2 o3 o4
    have he6:RelE w6 c6 lo (((e'.put (some tn) (.tuple [.bool true,.undef,.undef])).put (some tb) (.bool true)).put (some te) (.tuple [kv,vv])) (a5.put oE.dst rv6).tmps:=by
     rw [hEd]
     exact (p3.evo o4).put o3 (fun t ht=>by cases ht;exact Wp (Wu (by rw [p6,QR];omega) hd2) hoE _ hEd)
    have hs6:(a5.put oE.dst rv6).tmps.size=a.tmps.size:=(QR _ _ _).trans (p6.trans ((QR _ _ _).trans hts))
    have hH6:c6.H=c'.H.set c.H.length (.iter bm clock ((S.map fun j=>((es[j]?).map (·.born)).getD 0)++[en.born]) clock):=by rw [o1,p1,q1,hc3]
    rw [← hH6] at hos
    refine Vn (hS k) os [] 1 (by rw [h2];simp) o2 he6 (Wu (by omega) hd2) hos fun c7 w7 a7 u1 u2 u3 u4 u5 u6=>?_
    show Code.wp P B _ a7 w7
    refine hB lo c7 w7 a7 _ u1 u2 u3 (by omega) ?_
    rintro x e2 H2 ⟨rfl,ks,r,hr,hI2⟩ c8 w8 a8 v1 v2 v3 v4 v5 v6
    show Code.rounds P _ _ fu a8 w8
    subst v1
    have hE8:Evo lo c' w' c8 w8:=(((q4.trans p4).trans o4).trans u4).trans v4
    refine ih (S++[j]) clock (c8.cut (max c'.H.length (max r (mxs c8.H)))) w8 a8 (HL.restr ks e2) (by have:=Qbc (S:=S) hjl hjS;omega) ?_ ?_ (qA _) ?_ (Xm v2 (by omega)) ((v3.restr ks).cut (by omega)) (hE'.trans (hE8.cut (by omega))) ?_ ?_
    ·rw [List.nodup_append]
     exact ⟨hnd,by simp,fun a ha b hb e=>hjS (by rw [List.mem_singleton] at hb;rw [← hb,← e];exact ha)⟩
    ·intro j' hj'
     rcases List.mem_append.1 hj' with h | h
     ·exact hlt j' h
     ·rw [List.mem_singleton] at h;omega
    ·have em:(S++[j]).map (fun j=>((es[j]?).map (·.born)).getD 0)=(S.map fun j=>((es[j]?).map (·.born)).getD 0)++[en.born]:=by rw [List.map_append];simp [hj]
     rw [em]
     exact hI2
    ·exact v5.trans (u5.trans ((QY _ _ _).trans (p5.trans ((QY _ _ _).trans hdf))))
    ·exact v6.trans (u6.trans hs6)
 exact wp_loop_rounds _ (main ((V0 kl.length []).length+1) [] clock c2 w2 _ _ (by omega) (by simp) (by simp) (qA _) (by rw [g1];exact hI0 _ rfl (by simp [Qj])) g2 (he2.restr ksI) g4 ((QY _ _ _).trans k5) ((QR _ _ _).trans k6))

end
end Go.HL


/- A map that has been filled is made read-only, in a result of code told about the model. -/
namespace Go.HL
section
variable {P:Program} {lo:Nat}

def Conv (P:Program) (n:Nat) (e:Env) (H:Heap) (e':Env) (H':Heap):Prop :=
 ∀(lo:Nat) (c:Ctx) (w:World) (a:Act) (K:Act→World→Prop),c.H.length=n→After lo c w a e' H' K→After lo c w a e H K
theorem Conv.refl (n:Nat) (e:Env) (H:Heap):Conv P n e H e H:=fun _ _ _ _ _ _ h=>h
theorem Conv.trans {n:Nat} {e e1 e2:Env} {H H1 H2:Heap} (h:Conv P n e H e1 H1) (g:Conv P n e1 H1 e2 H2):Conv P n e H e2 H2:=fun lo c w a K hc k=>h lo c w a K hc (g lo c w a K hc k)
theorem Conv.restr {n:Nat} {e:Env} {H:Heap} (ks:List Nat):Conv P n e H (HL.restr ks e) H:=fun _ _ _ _ _ _ h=>h.restr ks
theorem Conv.gc {n:Nat} {e:Env} {H:Heap} (r:Nat) (hr:Zm e≤r):Conv P n e H e (HL.gc n r H):=fun _ _ _ _ _ hc h=>After.gc (r:=r) hr (by rw [hc];exact h)
end
end Go.HL


