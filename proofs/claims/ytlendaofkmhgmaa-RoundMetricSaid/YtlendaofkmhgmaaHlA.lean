/- The ghost: a run of the model's code that needs no tape, and what holds a value of its in the model's world. -/
import Derived.Calls
import Derived.Orders
import Derived.LoopN
import Derived.Laws.Append
import Derived.Laws.AppendOwn
import Derived.Laws.CopyRow
set_option linter.unusedVariables false
set_option linter.unusedSimpArgs false
set_option linter.unnecessarySimpa false
/- A deterministic reading of the model's own code, free of the tape: values, blocks, operations, code, calls. Definitions alone. -/
open Nat renaming le_trans → qA, lt_of_lt_of_le → qB, lt_or_ge → qC, add_assoc → qE, le_refl → qF, add_mul → qI, mul_le_mul_right → qQ
open List renaming getElem?_take → qD, range → qG, replicate → qJ, mem_of_mem_drop → qK, mem_of_mem_take → qL, getElem?_drop → qM, getElem?_eq_none → qN, mem_of_getElem? → qO, getElem?_eq_getElem → qP, ne_nil_of_length_pos → qS
open Option renaming getD_some → qH
open Array renaming getElem?_eq_getElem → qR
namespace Go.HL

inductive G where
 | arg | own | lit
 deriving DecidableEq


inductive HV where
 | undef
 | nilS (k:Nat)
 | empS (k:Nat)
 | int (k:IntKind) (n:Int)
 | bool (b:Bool)
 | str (s:ByteArray)
 | agg (cs:List HV)
 | tuple (vs:List HV)
 | imm (g:G) (k:Nat) (l:List HV)
 | own (k:Nat) (l:List HV)
 | sl (b off len:Nat) (cap:Option Nat) (tot k:Nat)
 | aview (b i off len:Nat)
 | ptr (b i off tot:Nat)
 | vptr (v:HV)
 | map (b:Nat)
 | nilmap
 | imap (g:G) (ks vs:List HV)
 | omap (ks vs:List HV)
 | func (f:FuncId) (first captured:List HV)
 | nilFunc

inductive Blk where
 | arr (k:Nat) (els:List HV) (wr:Bool) (mx:Nat)
 | map (ks vs:List HV) (mx:Nat)
 | iter (m since:Nat) (seen:List Nat) (c0:Nat)
 | dead

abbrev Heap:=List Blk
abbrev Env:=List (Nat×HV)

def Env.get:Env→Nat→HV
 | [],_=>.undef
 | (t,v)::e,s=>if t=s then v else Env.get e s

def Env.put (e:Env):Option Nat→HV→Env
 | some d,v=>(d,v)::e
 | none,_=>e

def restr (keys:List Nat) (e:Env):Env:=keys.map fun t=>(t,e.get t)

def mapO {α β:Type} (f:α→Option β):List α→Option (List β)
 | []=>some []
 | x::l =>
  match f x with
  | none=>none
  | some y =>
   match mapO f l with
   | none=>none
   | some ys=>some (y::ys)

def Ql:HV→Bool
 | .undef | .agg _ | .tuple _ | .own _ _ | .omap _ _=>false
 | _=>true

def YR:Value→HV
 | .bool b=>.bool b
 | .int k n=>.int k n
 | .string s=>.str s
 | .slice none 0 0=>.imm .lit 0 []
 | .map none=>.nilmap
 | .nilFunc=>.nilFunc
 | _=>.undef

def QC:Value→HV
 | .agg cs=>if (cs.toList.map YR).all Ql then .agg (cs.toList.map YR) else .undef
 | v=>YR v

def Qk (e:Env):Operand→HV
 | .tmp t=>e.get t
 | .const v=>QC v
 | .func f=>.func f [] []
 | .global _=>.undef

def cellsOf:HV→List HV
 | .agg cs=>cs
 | v=>[v]

def QZ:HV→Bool
 | .agg _=>true
 | _=>false

mutual
 def bnd:HV→Nat
  | .sl b _ _ _ _ _=>b+1
  | .aview b _ _ _=>b+1
  | .ptr b _ _ _=>b+1
  | .map b=>b+1
  | .agg cs=>bndL cs
  | .tuple vs=>bndL vs
  | .func _ a c=>max (bndL a) (bndL c)
  | _=>0
 termination_by structural v=>v
 def bndL:List HV→Nat
  | []=>0
  | v::l=>max (bnd v) (bndL l)
 termination_by structural l=>l
end

def Zm:Env→Nat
 | []=>0
 | (_,v)::e=>max (bnd v) (Zm e)

def Blk.mx:Blk→Nat
 | .arr _ _ _ m=>m
 | .map _ _ m=>m
 | .iter _ _ _ _=>0
 | .dead=>0

def mxs:Heap→Nat
 | []=>0
 | b::H=>max b.mx (mxs H)

def gc (base r:Nat) (H:Heap):Heap:=H.take (max base (max r (mxs H)))

mutual
 def argP:HV→Option HV
  | .int k n=>some (.int k n)
  | .bool b=>some (.bool b)
  | .str s=>some (.str s)
  | .undef=>some .undef
  | .nilmap=>some .nilmap
  | .nilFunc=>some .nilFunc
  | .agg cs=>match argPL cs with | some l=>some (.agg l) | none=>none
  | .tuple vs=>match argPL vs with | some l=>some (.tuple l) | none=>none
  | .imm _ k l=>match argPL l with | some l=>some (.imm .arg k l) | none=>none
  | .vptr v=>match argP v with | some v=>some (.vptr v) | none=>none
  | .imap _ ks vs=>match argPL ks,argPL vs with | some ks,some vs=>some (.imap .arg ks vs) | _,_=>none
  | .func f a c=>match argPL a,argPL c with | some a,some c=>some (.func f a c) | _,_=>none
  | _=>none
 termination_by structural v=>v
 def argPL:List HV→Option (List HV)
  | []=>some []
  | v::l=>match argP v,argPL l with | some v,some l=>some (v::l) | _,_=>none
 termination_by structural l=>l
end

mutual
 def resP:HV→Bool
  | .int _ _ | .bool _ | .str _ | .undef | .nilmap | .nilFunc=>true
  | .agg cs=>resPL cs
  | .tuple vs=>resPL vs
  | .imm g _ l=>(match g with | .arg=>false | _=>true)&&resPL l
  | .imap g ks vs=>(match g with | .arg=>false | _=>true)&&resPL ks&&resPL vs
  | .func _ a c=>resPL a&&resPL c
  | _=>false
 termination_by structural v=>v
 def resPL:List HV→Bool
  | []=>true
  | v::l=>resP v&&resPL l
 termination_by structural l=>l
end

def Wh (H:Heap) (b off len tot k:Nat):Option (List HV) :=
 match H[b]? with
 | some (.arr k' els _ _)=>if tot=els.length∧off+len≤els.length∧k'=k then some ((els.drop off).take len) else none
 | _=>none

def Qx (H:Heap):Nat→HV→Option HV
 | 0,v=>argP v
 | d+1,v =>
  match v with
  | .sl b off len _ tot k =>
   if len=0 then some (.imm .arg k []) else
   match Wh H b off len tot k with
   | some l=>match mapO (Qx H d) l with | some l=>some (.imm .arg k l) | none=>none
   | none=>none
  | .aview b i off len =>
   match H[b]? with
   | some (.arr _ els _ _) =>
    match els[i]? with
    | some (.agg cs)=>if els.length=1∧off+len≤cs.length then (match mapO (Qx H d) ((cs.drop off).take len) with | some l=>some (.imm .arg 1 l) | none=>none) else none
    | _=>none
   | _=>none
  | .map b =>
   match H[b]? with
   | some (.map ks vs _)=>match mapO (Qx H d) ks,mapO (Qx H d) vs with | some ks,some vs=>some (.imap .arg ks vs) | _,_=>none
   | _=>none
  | .agg cs=>match mapO (Qx H d) cs with | some l=>some (.agg l) | none=>none
  | .func f a c=>match mapO (Qx H d) a,mapO (Qx H d) c with | some a,some c=>some (.func f a c) | _,_=>none
  | v=>argP v

def frz (H:Heap) (no:List Nat):Nat→HV→Option HV
 | 0,v=>if resP v then some v else none
 | d+1,v =>
  match v with
  | .sl b off len _ tot k =>
   if len=0 then some (.imm .own k []) else
   if no.contains b then none else
   match Wh H b off len tot k with
   | some l=>match mapO (frz H no d) l with | some l=>some (.imm .own k l) | none=>none
   | none=>none
  | .map b =>
   if no.contains b then none else
   match H[b]? with
   | some (.map ks vs _)=>match mapO (frz H no d) ks,mapO (frz H no d) vs with | some ks,some vs=>some (.imap .own ks vs) | _,_=>none
   | _=>none
  | .agg cs=>match mapO (frz H no d) cs with | some l=>some (.agg l) | none=>none
  | v=>if resP v then some v else none

def Ka (H:Heap):HV→List Nat
 | .sl b _ _ _ _ _=>match H[b]? with | some (.arr _ _ true _)=>[b] | _=>[]
 | .map b=>match H[b]? with | some (.map _ _ _)=>[b] | _=>[]
 | _=>[]

def WQ (H:Heap) (deep:Bool):HV→List Nat
 | .sl b off len _ tot k =>
  match H[b]? with
  | some (.arr _ _ true _)=>b::(if deep then (match Wh H b off len tot k with | some l=>l.flatMap (Ka H) | none=>[]) else [])
  | _=>[]
 | .map b=>match H[b]? with | some (.map _ _ _)=>[b] | _=>[]
 | _=>[]

def Qu (H:Heap) (deep:Bool):HV→List Nat
 | .tuple vs=>vs.flatMap fun v=>(cellsOf v).flatMap (WQ H deep)
 | v=>(cellsOf v).flatMap (WQ H deep)

def Zq (H:Heap) (no:List Nat) (deep:Bool) (v:HV):Option HV :=
 if deep then
  match v with
  | .sl b off len _ tot k =>
   match H[b]? with
   | some (.arr _ _ true _) =>
    if off=0 then
     match Wh H b 0 len tot k with
     | some l=>if resPL l then some (.own k l) else none
     | none=>none
    else none
   | _=>frz H no 4 v
  | v=>frz H no 4 v
 else frz H no 4 v

def Wr (H:Heap) (no:List Nat) (deep:Bool) (v:HV):Option HV :=
 match v with
 | .sl b off len _ tot k =>
  match H[b]? with
  | some (.arr _ _ true _) =>
   if off=0 then
    match Wh H b 0 len tot k with
    | some l=>match mapO (Zq H no deep) l with | some l=>some (.own k l) | none=>none
    | none=>none
   else none
  | _=>frz H no 4 v
 | .imm .lit k []=>some (.own k [])
 | .map b =>
  match H[b]? with
  | some (.map ks vs _)=>match mapO (frz H no 4) ks,mapO (frz H no 4) vs with | some ks,some vs=>some (.omap ks vs) | _,_=>none
  | _=>none
 | v=>frz H no 4 v

def WO (H:Heap) (no:List Nat) (deep:Bool):HV→Option HV
 | .agg cs=>match mapO (Wr H no deep) cs with | some l=>some (.agg l) | none=>none
 | v=>Wr H no deep v

def We (H:Heap) (deep:Bool) (v:HV):Option HV :=
 let no:=Qu H deep v
 if no.Nodup then
  match v with
  | .tuple vs=>match mapO (WO H no deep) vs with | some l=>some (.tuple l) | none=>none
  | v=>WO H no deep v
 else none

def Jd:HV→Bool
 | .own _ _=>true
 | _=>false

def QK:List HV→Nat→List HV×Heap
 | [],_=>([],[])
 | .own k l::r,n=>(.sl n 0 l.length none l.length k::(QK r (n+1)).1,.arr k l true 0::(QK r (n+1)).2)
 | v::r,n=>(v::(QK r (n+1)).1,.dead::(QK r (n+1)).2)

def WK (v:HV) (H:Heap):HV×Heap :=
 match v with
 | .own k l =>
  if l.any Jd then
   (.sl H.length 0 l.length none l.length k,H++[.arr k (QK l (H.length+1)).1 true (H.length+1+l.length)]++(QK l (H.length+1)).2)
  else (.sl H.length 0 l.length none l.length k,H++[.arr k l true 0])
 | .omap ks vs=>(.map H.length,H++[.map ks vs 0])
 | v=>(v,H)

def JQ:List HV→Heap→List HV×Heap
 | [],H=>([],H)
 | v::l,H=>let (w,H1):=WK v H;let (l',H2):=JQ l H1;(w::l',H2)

def Zr (v:HV) (H:Heap):HV×Heap :=
 match v with
 | .agg cs=>let (l,H'):=JQ cs H;(.agg l,H')
 | v=>WK v H

def Z7:List HV→Heap→List HV×Heap
 | [],H=>([],H)
 | v::l,H=>let (w,H1):=Zr v H;let (l',H2):=Z7 l H1;(w::l',H2)

def ZT (v:HV) (H:Heap):HV×Heap :=
 match v with
 | .tuple vs=>let (l,H'):=Z7 vs H;(.tuple l,H')
 | v=>Zr v H

structure Pol where
 shared:FuncId→Bool
 freeze:FuncId→Nat→Bool
 freezeS:FuncId→Nat→Bool
 blk:FuncId→Nat→Bool
 nilf:FuncId→Bool
 deep:FuncId→Bool
 prim:FuncId→Option (List HV→Option HV)
 rows:FuncId→Nat→Bool
 keys:FuncId→List Nat
 quiet:FuncId→Nat→List Nat
 dead:FuncId→Nat→List Nat:=fun _ _=>[]
 heapP:FuncId→Option (List HV→Heap→Option (HV×Heap)):=fun _=>none

def Qw (P:Program) (t:TypeId):Bool :=
 match P.underlying t with
 | some (.struct _) | some (.array _ _)=>true
 | _=>false

def Qm (P:Program) (t:TypeId):Option Nat:=(P.info? t).map (·.size)

def VN (P:Program) (t:TypeId):Option HV:=((P.info? t).bind (·.zero)).map QC

def Jq (P:Program) (t:TypeId) (cs:List HV) (off:Nat):Option HV :=
 if Qw P t then
  match Qm P t with
  | some n=>if off+n≤cs.length then some (.agg ((cs.drop off).take n)) else none
  | none=>none
 else if (P.underlying t).isSome then cs[off]? else none

def splice (l:List HV) (off:Nat) (c:List HV):List HV:=l.take off++c++l.drop (off+c.length)

def Ya (place:Nat→Option (Nat×Nat)) (cells:List HV):List (Nat×HV)→Option (List HV)
 | []=>some cells
 | (i,v)::rest =>
  match place i with
  | none=>none
  | some (off,size) =>
   if (cellsOf v).length=size∧off+(cellsOf v).length≤cells.length∧(cellsOf v).all Ql then Ya place (splice cells off (cellsOf v)) rest else none

def Kb (op:BinOp) (k:IntKind) (a b:Int):Option HV :=
 match op with
 | .add=>some (.int k (k.wrap (a+b)))
 | .sub=>some (.int k (k.wrap (a-b)))
 | .mul=>some (.int k (k.wrap (a*b)))
 | .quo=>if b=0 then none else some (.int k (k.wrap (a.tdiv b)))
 | .rem=>if b=0 then none else some (.int k (a.tmod b))
 | .and=>some (.int k (k.wrap (BitVec.ofInt k.bits a &&& BitVec.ofInt k.bits b).toNat))
 | .or=>some (.int k (k.wrap (BitVec.ofInt k.bits a ||| BitVec.ofInt k.bits b).toNat))
 | .xor=>some (.int k (k.wrap (BitVec.ofInt k.bits a ^^^ BitVec.ofInt k.bits b).toNat))
 | .andNot=>some (.int k (k.wrap (BitVec.ofInt k.bits a &&& ~~~(BitVec.ofInt k.bits b)).toNat))
 | .eql=>some (.bool (decide (a=b)))
 | .neq=>some (.bool (!decide (a=b)))
 | .lss=>some (.bool (decide (a<b)))
 | .leq=>some (.bool (decide (a≤b)))
 | .gtr=>some (.bool (decide (b<a)))
 | .geq=>some (.bool (decide (b≤a)))
 | .shl=>if b<0 then none else some (.int k (k.wrap (a*2 ^ min b.toNat k.bits)))
 | .shr=>if b<0 then none else some (.int k (a.fdiv (2 ^ min b.toNat k.bits)))

def Jf:HV→HV→Option Bool
 | .int k a,.int k' b=>if k=k' then some (decide (a=b)) else none
 | .bool a,.bool b=>some (a==b)
 | _,_=>none

def Wn:List HV→List HV→Option Bool
 | [],[]=>some true
 | a::as,b::bs =>
  match Jf a b,Wn as bs with
  | some x,some y=>some (x&&y)
  | _,_=>none
 | _,_=>none

def Wz:HV→HV→Option Bool
 | .agg as,.agg bs=>Wn as bs
 | a,b=>Jf a b

def KF (P:Program) (acc:Option Nat) (f:Field):Option Nat :=
 match acc,Qm P f.type with
 | some a,some s=>if f.offset==a then some (a+s) else none
 | _,_=>none

def Q7 (P:Program) (num:Bool):Nat→TypeId→Bool
  | 0,_=>false
  | d+1,t =>
    match P.underlying t with
    | some .bool=>!num&&Qm P t==some 1
    | some (.int _)=>num&&Qm P t==some 1
    | some (.array n e)=>Q7 P num d e&&(match Qm P e with | some s=>Qm P t==some (n*s) | none=>false)
    | some (.struct fs) =>
      !P.stoodInHeld t && (fs.toList.all fun f => f.name != "_" && Q7 P num d f.type) &&
        fs.toList.foldl (KF P) (some 0)==Qm P t
    | _=>false

def Q9:HV→Bool
 | .int _ _=>true
 | _=>false

def QT:HV→Bool
 | .bool _=>true
 | _=>false

def Kc (P:Program) (t:TypeId) (cs:List HV):Bool :=
 Qm P t==some cs.length&&(Q7 P true 20 t&&cs.all Q9||Q7 P false 20 t&&cs.all QT)

def ZF (P:Program) (op:BinOp) (t:TypeId) (x y:HV):Option HV :=
 match x,y with
 | .int k a,.int k' b =>
  match op with
  | .shl | .shr=>Kb op k a b
  | _=>if k=k' then Kb op k a b else none
 | .bool a,.bool b =>
  match op,P.underlying t with
  | .eql,some .bool=>some (.bool (a==b))
  | .neq,some .bool=>some (.bool (!(a==b)))
  | _,_=>none
 | .agg as,.agg bs =>
  if Kc P t as&&!P.eqGuardType P.depth t&&Qw P t then
   match op,Wn as bs with
   | .eql,some r=>some (.bool r)
   | .neq,some r=>some (.bool !r)
   | _,_=>none
  else none
 | _,_=>none

def KJ:HV→Option Bool
 | .nilS _=>some true
 | .empS _=>some false
 | .imm _ _ (_::_)=>some false
 | .sl _ _ (_+1) _ _ _=>some false
 | _=>none

def SK (r:Bool):BinOp→Option HV
 | .eql=>some (.bool r)
 | .neq=>some (.bool !r)
 | _=>none

def Kd (P:Program) (op:BinOp) (t:TypeId) (x:HV):Option HV :=
 match P.underlying t with
 | some (.slice _)=>match KJ x with | some r=>SK r op | none=>none
 | _=>none

def unV (op:UnOp) (x:HV):Option HV :=
 match op,x with
 | .not,.bool b=>some (.bool !b)
 | .neg,.int k n=>some (.int k (k.wrap (0-n)))
 | _,_=>none

def Ws (k:HV):List HV→Nat→Option (Option Nat)
 | [],_=>some none
 | x::l,i =>
  match Wz k x with
  | some true=>some (some i)
  | some false=>Ws k l (i+1)
  | none=>none

def KK (P:Program) (t:TypeId) (k:HV):Bool:=Kc P t (cellsOf k)&&(Qw P t==QZ k)

def JR (P:Program) (T:TypeId) (ks vs:List HV) (k:HV) (ok:Bool):Option HV :=
 match P.underlying T with
 | some (.map kt et) =>
  if KK P kt k then
   match Ws k ks 0 with
   | some (some i)=>match vs[i]? with | some v=>some (if ok then .tuple [v,.bool true] else v) | none=>none
   | some none =>
    match VN P et with
    | some z=>if (cellsOf z).all Ql then some (if ok then .tuple [z,.bool false] else z) else none
    | none=>none
   | none=>none
  else none
 | _=>none

def Je (H:Heap):HV→Option (List HV×Nat)
 | .nilS k=>some ([],k)
 | .empS k=>some ([],k)
 | .imm _ k l=>some (l,k)
 | .sl b off len _ tot k=>if len=0 then some ([],k) else (Wh H b off len tot k).map fun l=>(l,k)
 | .aview b i off len =>
  match H[b]? with
  | some (.arr _ els _ _) =>
   match els[i]? with
   | some (.agg cs)=>if els.length=1∧off+len≤cs.length then some ((cs.drop off).take len,1) else none
   | _=>none
  | _=>none
 | _=>none

def Q0:Nat:=2 ^ 46

def WV (H:Heap) (k bytes:Nat) (s:HV) (xs:List HV):Option (HV×Heap) :=
 match s with
 | .imm g k' l =>
  if xs=[] then some (s,H) else
  match g with
  | .lit=>if (k'=k∨l=[])∧(l.length+xs.length)*(bytes+1)≤Q0 then
    some (.sl H.length 0 (l.length+xs.length) none (l.length+xs.length) k,H++[.arr k (l++xs) true (bndL xs)]) else none
  | _=>none
 | .sl b off len cap tot k' =>
  if xs=[] then some (s,H) else
  match H[b]? with
  | some (.arr k'' els wr mx) =>
   if tot=els.length∧k''=k∧k'=k∧(len+xs.length)*(bytes+1)≤Q0 then
    match cap with
    | some c =>
     if len+xs.length≤c then
      if wr∧off+(len+xs.length)≤els.length then
       some (.sl b off (len+xs.length) (some c) tot k,H.set b (.arr k (splice els (off+len) xs) wr (max mx (bndL xs)))) else none
     else if off+len≤els.length then
      some (.sl H.length 0 (len+xs.length) none (len+xs.length) k,H++[.arr k ((els.drop off).take len++xs) true (max mx (bndL xs))]) else none
    | none =>
     if wr∧off=0∧len=els.length then
      some (.sl b 0 (len+xs.length) none (len+xs.length) k,H.set b (.arr k (els++xs) true (max mx (bndL xs)))) else none
   else none
  | _=>none
 | _=>none

def Xb (H:Heap) (v:HV):Option (HV×Heap) :=
 match v with
 | .sl b off len _ tot k =>
  if len=0 then some (.imm .own k [],H) else
  match H[b]? with
  | some (.arr k' els _ mx) =>
   if tot=els.length∧off+len≤els.length∧k'=k∧resPL ((els.drop off).take len) then
    some (.imm .own k ((els.drop off).take len),H.set b (.arr k els false mx)) else none
  | _=>none
 | v=>some (v,H)

def YS:List HV→Heap→Option (List HV×Heap)
 | [],H=>some ([],H)
 | v::l,H =>
  match Xb H v with
  | none=>none
  | some (w,H1)=>match YS l H1 with | none=>none | some (l',H2)=>some (w::l',H2)

def Qh (P:Program) (H:Heap) (t:TypeId) (a:HV):Option HV :=
 match a with
 | .vptr (.agg cs)=>if Qw P t∧Qm P t=some cs.length then some (.agg cs) else none
 | .vptr v=>if Qw P t=false∧(P.underlying t).isSome then some v else none
 | .ptr b i off tot =>
  match H[b]? with
  | some (.arr _ els _ _) =>
   if tot=els.length then
    match els[i]? with
    | some v=>Jq P t (cellsOf v) off
    | none=>none
   else none
  | _=>none
 | _=>none

def QM (P:Program) (H:Heap) (t:TypeId) (a v:HV):Option Heap :=
 match a with
 | .ptr b i off tot =>
  match H[b]? with
  | some (.arr k els true mx) =>
   if tot=els.length∧Qm P t=some (cellsOf v).length then
    match els[i]? with
    | some old =>
     if off+(cellsOf v).length≤(cellsOf old).length∧(cellsOf v).all Ql∧(cellsOf v).length≠0 then
      let c:=splice (cellsOf old) off (cellsOf v)
      let new:=match old with | .agg _=>.agg c | _=>v
      some (H.set b (.arr k (els.set i new) true (max mx (bnd v))))
     else none
    | none=>none
   else none
  | _=>none
 | _=>none

def WW (P:Program) (t:TypeId) (x i:HV):Option HV :=
 match i with
 | .int _ n =>
  match P.underlying t with
  | some (.slice e) =>
   match x with
   | .imm _ k l =>
    if 0≤n∧n<l.length∧Qm P e=some k then
     match l[n.toNat]? with | some v=>some (.vptr v) | none=>none
    else none
   | .sl b off len _ tot k=>if 0≤n∧n<len∧Qm P e=some k then some (.ptr b (off+n.toNat) 0 tot) else none
   | _=>none
  | some (.array m e) =>
   if 0≤n∧n<m then
    match x,Qm P e with
    | .vptr (.agg cs),some s=>(Jq P e cs (n.toNat*s)).map .vptr
    | .ptr b j off tot,some s=>some (.ptr b j (off+n.toNat*s) tot)
    | _,_=>none
   else none
  | _=>none
 | _=>none

def YT (P:Program) (s:TypeId) (x:HV) (f:Nat):Option HV :=
 match P.underlying s with
 | some (.struct fs) =>
  match fs[f]? with
  | some fd =>
   if Qm P fd.type=some 0∨Qm P fd.type=none then none else
   match x with
   | .vptr (.agg cs)=>(Jq P fd.type cs fd.offset).map .vptr
   | .ptr b j off tot=>some (.ptr b j (off+fd.offset) tot)
   | _=>none
  | none=>none
 | _=>none

def Qg6 (P:Program) (t:TypeId) (x:HV) (f:Nat):Option HV :=
 match P.underlying t,x with
 | some (.struct fs),.agg cs=>match fs[f]? with | some fd=>Jq P fd.type cs fd.offset | none=>none
 | _,_=>none

def Yb (P:Program) (t:TypeId) (x i:HV):Option HV :=
 match P.underlying t,x,i with
 | some (.array m e),.agg cs,.int _ n =>
  if 0≤n∧n<m then match Qm P e with | some s=>Jq P e cs (n.toNat*s) | none=>none else none
 | some .string,.str s,.int _ n=>if 0≤n then (s[n.toNat]?).map fun b=>.int .u8 b.toNat else none
 | _,_,_=>none

def Ke:Option HV→Option (Option Nat)
 | none=>some none
 | some (.int _ n)=>if 0≤n then some (some n.toNat) else none
 | _=>none

def Jb (P:Program) (t:TypeId) (x:HV) (lo hi mx:Option HV):Option HV :=
 match Ke lo,Ke hi,Ke mx with
 | some l,some h,some m =>
  let l:=l.getD 0
  match P.underlying t with
  | some (.slice e) =>
   match x with
   | .imm g k es =>
    if Qm P e=some k∨es=[]∧(Qm P e).isSome then
     let h:=h.getD es.length
     match m with
     | some m =>
      if l=h∧m=h∧h≤es.length then some (.imm .lit k []) else
      if l≤h∧m=h∧h≤es.length then
       some (.imm (match g with | .arg=>.arg | _=>.lit) k ((es.drop l).take (h-l))) else none
     | none =>
      if l≤h∧h≤es.length then
       some (.imm (match g with | .lit=>if h=es.length then .lit else .own | g=>g) k ((es.drop l).take (h-l))) else none
    else none
   | .sl b off len cap tot k =>
    if Qm P e=some k then
     let h:=h.getD len
     match m with
     | some m =>
      if l=h∧m=h∧h≤len then some (.imm .lit k []) else
      if l≤h∧m=h∧h≤len then some (.sl b (off+l) (h-l) (some (h-l)) tot k) else none
     | none=>if l≤h∧h≤len then some (.sl b (off+l) (h-l) (cap.map (· - l)) tot k) else none
    else none
   | _=>none
  | some (.array n e) =>
   match x,m with
   | .ptr b i off tot,none =>
    let h:=h.getD n
    if Qm P e=some 1∧l≤h∧h≤n∧tot=1∧Qw P e=false then some (.aview b i (off+l) (h-l)) else none
   | _,_=>none
  | _=>none
 | _,_,_=>none

def QaO (P:Program) (H:Heap) (t:TypeId) (x:HV):Option HV :=
 match P.underlying t with
 | some (.array n _)=>some (.int .i64 n)
 | some (.slice _) =>
  match x with
  | .imm _ _ l=>some (.int .i64 l.length)
  | .sl _ _ len _ _ _=>some (.int .i64 len)
  | .aview _ _ _ len=>some (.int .i64 len)
  | _=>none
 | some (.map _ _) =>
  match x with
  | .nilmap=>some (.int .i64 0)
  | .imap _ ks _=>some (.int .i64 ks.length)
  | .map b=>match H[b]? with | some (.map ks _ _)=>some (.int .i64 ks.length) | _=>none
  | _=>none
 | _=>none

def XN (mx:Bool):HV→List HV→Option HV
 | v,[]=>some v
 | .int k a,.int k' b::l=>if k=k' then XN mx (.int k (if mx then max a b else min a b)) l else none
 | _,_=>none

def Vf (i:TypeInfo):Bool :=
 match i.zero with
 | some (.slice none 0 0)=>true
 | _=>false

def VB (P:Program) (rows:Bool) (t:TypeId) (l c:HV) (H:Heap):Option (HV×Heap) :=
 match P.underlying t,l,c with
 | some (.slice e),.int _ n,.int _ m =>
  match P.info? e with
  | some i =>
   if 0≤n∧n≤m∧(i.bytes+1)*m≤Q0 then
    match P.underlying e,rows with
    | some (.slice e'),true =>
     match Qm P e' with
     | some k'=>if i.size=1∧Vf i then
       some (.sl H.length 0 n.toNat (some m.toNat) m.toNat 1,
        H++[.arr 1 ((qG m.toNat).map fun j=>.sl (H.length+1+j) 0 0 none 0 k') true (H.length+1+m.toNat)]++qJ m.toNat (.arr k' [] true 0)) else none
     | none=>none
    | _,_ =>
     match i.zero with
     | some z=>if (cellsOf (QC z)).all Ql∧(cellsOf (QC z)).length=i.size∧i.size≠0 then
       some (.sl H.length 0 n.toNat (some m.toNat) m.toNat i.size,H++[.arr i.size (qJ m.toNat (QC z)) true 0]) else none
     | none=>none
   else none
  | none=>none
 | _,_,_=>none

def YU (P:Program) (frz keep:Bool) (t:TypeId) (len:Nat) (parts:List (Nat×HV)) (H:Heap):Option (HV×Heap) :=
 match P.underlying t with
 | some (.slice e) =>
  match P.info? e with
  | some i =>
   match i.zero with
   | some z =>
    match (if frz then YS (parts.map (·.2)) H else some (parts.map (·.2),H)) with
    | none=>none
    | some (vs,H) =>
     if len*i.size≤2 ^ 24∧(cellsOf (QC z)).length=i.size∧(cellsOf (QC z)).all Ql∧i.size≠0∧vs.all (fun v=>(cellsOf v).length==i.size&&(cellsOf v).all Ql)
       ∧ parts.all (fun p=>p.1<len) then
      let els:=((parts.map (·.1)).zip vs).foldl (fun (l:List HV) (p:Nat×HV)=>l.set p.1 p.2) (qJ len (QC z))
      if keep||bndL vs != 0 then
       some (.sl H.length 0 len (some len) len i.size,H++[.arr i.size els true (bndL vs)])
      else some (.imm .lit i.size els,H)
     else none
   | none=>none
  | none=>none
 | _=>none

def JE (P:Program) (fs:Array Field) (i:Nat):Option (Nat×Nat) :=
 match fs[i]? with
 | some f=>(Qm P f.type).map fun s=>(f.offset,s)
 | none=>none

def CU (P:Program) (t:TypeId) (parts:List (Nat×HV)):Option HV :=
 match P.info? t with
 | some i =>
  match i.zero with
  | some z =>
   if (cellsOf (QC z)).all Ql then
    match P.underlying t with
    | some (.struct fs)=>if fs.toList.all (fun f=>(Qm P f.type).isSome) then (Ya (JE P fs) (cellsOf (QC z)) parts).map .agg else none
    | some (.array _ e)=>match Qm P e with | some s=>(Ya (fun i=>some (i*s,s)) (cellsOf (QC z)) parts).map .agg | none=>none
    | _=>none
   else none
  | none=>none
 | none=>none

def YF (f:HV) (args:List HV):Option (FuncId×List HV) :=
 match f with
 | .func g first captured=>some (g,first++args++captured)
 | _=>none

def Jr (P:Program) (g:FuncId):Bool :=
  match P.funcs[g]? with
  | some fn => fn.body.isSome && fn.name != "runtime.NumGoroutine"
  | none=>false

abbrev QB:=FuncId→List HV→Heap→Option (HV×Heap)

def QbB (H:Heap) (d s:HV):Option (HV×Heap) :=
 match Je H s,d with
 | some (xs,k),.aview b i off len =>
  if k=1 then
   match H[b]? with
   | some (.arr kk els true mx) =>
    match els[i]? with
    | some (.agg cs) =>
     if els.length=1∧off+len≤cs.length∧bndL xs=0∧xs.all Ql then
      some (.int .i64 (min xs.length len:Nat),H.set b (.arr kk (els.set i (.agg (splice cs off (xs.take len)))) true mx)) else none
    | _=>none
   | _=>none
  else none
 | some (xs,k),.sl b off len _ tot k' =>
  if k=k' then
   match H[b]? with
   | some (.arr kk els true mx) =>
    if kk=k∧tot=els.length∧off+len≤els.length then
     some (.int .i64 (min xs.length len:Nat),H.set b (.arr kk (splice els off (xs.take len)) true (max mx (bndL xs)))) else none
   | _=>none
  else none
 | _,_=>none

def CV (P:Program) (H:Heap) (t:TypeId) (x:HV):Option (HV×Heap) :=
 match P.underlying t,x with
 | some (.slice e),.sl b off len _ tot k =>
  if len=0 then some (.tuple [],H) else
  match P.info? e,H[b]? with
  | some i,some (.arr k' els true mx) =>
   match i.zero with
   | some z=>if k'=k∧i.size=k∧tot=els.length∧off+len≤els.length∧(cellsOf (QC z)).length=k∧(cellsOf (QC z)).all Ql∧k≠0 then
     some (.tuple [],H.set b (.arr k (splice els off (qJ len (QC z))) true mx)) else none
   | none=>none
  | _,_=>none
 | _,_=>none

def YV (i:TypeInfo):Bool :=
 match i.zero with
 | some z=>z.cells.size==i.size
 | none=>false

def WX (P:Program) (b:Builtin) (tys:List TypeId) (args:List HV) (H:Heap):Option (HV×Heap) :=
 match b,tys,args with
 | .append,t::t2::_,s::x::_ =>
  match P.underlying t,P.underlying t2 with
  | some (.slice e),some (.slice _) =>
   match P.info? e,Je H x with
   | some i,some (xs,k)=>if (k=i.size∨xs=[])∧i.size≠0∧YV i then WV H i.size i.bytes s xs else none
   | _,_=>none
  | _,_=>none
 | .len,t::_,x::_=>(QaO P H t x).map fun v=>(v,H)
 | .min,_,x::l=>(XN false x l).map fun v=>(v,H)
 | .max,_,x::l=>(XN true x l).map fun v=>(v,H)
 | .copy,t::_,d::s::_=>match P.underlying t with | some (.slice e)=>(match Je H s with | some (_,k)=>if Qm P e=some k then QbB H d s else none | none=>none) | _=>none
 | .clear,t::_,x::_=>CV P H t x
 | _,_,_=>none

def Wm (v:HV) (H:Heap):HV×Heap:=(.ptr H.length 0 0 1,H++[.arr (cellsOf v).length [v] true (bnd v)])

def VA (P:Program) (frz:Bool) (T:TypeId) (m k v:HV) (H:Heap):Option Heap :=
 match P.underlying T,m with
 | some (.map kt _),.map b =>
  if KK P kt k then
   match (if frz then Xb H v else some (v,H)) with
   | some (v,H) =>
    match H[b]? with
    | some (.map ks vs mx) =>
     match Ws k ks 0 with
     | some (some i)=>some (H.set b (.map ks (vs.set i v) (max mx (bnd v))))
     | some none=>if (Wn (cellsOf k) (cellsOf k)).isSome then some (H.set b (.map (ks++[k]) (vs++[v]) (max mx (bnd v)))) else none
     | none=>none
    | _=>none
   | none=>none
  else none
 | _,_=>none

def ZG (ops:List Oper):List Nat :=
 ops.filterMap fun o=>match o.op with | .assign (.tmp t)=>some t | _=>none

def WG (P:Program) (pol:Pol) (f:FuncId) (rg:Nat) (asg:List Nat) (call:QB) (o:Oper) (e:Env) (H:Heap):Option (HV×Heap) :=
 match o.op with
 | .move x=>some (Qk e x,H)
 | .assign x =>
  match x with
  | .const (.slice none 0 0) =>
   match P.underlying o.type with
   | some (.slice t) =>
    match Qm P t with
    | some k=>if (match o.dst with | some d=>pol.blk f d | none=>false) then some (.sl H.length 0 0 none 0 k,H++[.arr k [] true 0]) else some (.imm .lit k [],H)
    | none=>none
   | _=>some (Qk e x,H)
  | x=>some (Qk e x,H)
 | .pick c a b=>match Qk e c with | .bool t=>some (if t then Qk e a else Qk e b,H) | _=>none
 | .alloc t =>
  match P.underlying t with
  | some (.slice et) =>
   match Qm P et,P.info? t with
   | some k,some i=>if Vf i then some (.ptr H.length 0 0 1,H++[.arr 1 [.sl (H.length+1) 0 0 none 0 k] true (H.length+2),.arr k [] true 0]) else none
   | _,_=>none
  | _=>match VN P t with | some z=>if (cellsOf z).all Ql then some (Wm z H) else none | none=>none
 | .box _ x=>if (cellsOf (Qk e x)).all Ql then some (Wm (Qk e x) H) else none
 | .build t parts=>(CU P t (parts.toList.map fun p=>(p.1,Qk e p.2))).map fun v=>(v,H)
 | .buildSlice t n parts=>YU P (pol.freeze f rg) (match o.dst with | some d=>asg.contains d | none=>false) t n (parts.toList.map fun p=>(p.1,Qk e p.2)) H
 | .load t a=>(Qh P H t (Qk e a)).map fun v=>(v,H)
 | .store t a x =>
  match (if pol.freezeS f rg then Xb H (Qk e x) else some (Qk e x,H)) with
  | some (v,H)=>(QM P H t (Qk e a) v).map fun H=>(.tuple [],H)
  | none=>none
 | .nilCheck x=>match Qk e x with | .ptr b i off tot=>some (.ptr b i off tot,H) | .vptr v=>some (.vptr v,H) | .func g a c=>some (.func g a c,H) | _=>none
 | .binOp op t x y _=>(match y with | .const (.slice none 0 0)=>Kd P op t (Qk e x) | _=>ZF P op t (Qk e x) (Qk e y)).map fun v=>(v,H)
 | .unOp op _ x=>(unV op (Qk e x)).map fun v=>(v,H)
 | .convert s t x=>match Qk e x,P.underlying s,P.underlying t with | .int _ n,some _,some (.int k)=>some (.int k (k.wrap n),H) | _,_,_=>none
 | .makeFunc (.func g) first captured=>some (.func g (first.toList.map (Qk e)) (captured.toList.map (Qk e)),H)
 | .makeMap _ none=>some (.map H.length,H++[.map [] [] 0])
 | .makeSlice t l c=>VB P (pol.rows f rg) t (Qk e l) (Qk e c) H
 | .slice t x lo hi mx=>if mx.isSome&&hi.isNone then none else (Jb P t (Qk e x) (lo.map (Qk e)) (hi.map (Qk e)) (mx.map (Qk e))).map fun v=>(v,H)
 | .fieldAddr s x fl=>(YT P s (Qk e x) fl).map fun v=>(v,H)
 | .field t x fl=>(Qg6 P t (Qk e x) fl).map fun v=>(v,H)
 | .indexAddr t x i=>(WW P t (Qk e x) (Qk e i)).map fun v=>(v,H)
 | .index t x i=>(Yb P t (Qk e x) (Qk e i)).map fun v=>(v,H)
 | .lookup T m k ok =>
  match Qk e m with
  | .imap _ ks vs=>(JR P T ks vs (Qk e k) ok).map fun v=>(v,H)
  | .nilmap=>(JR P T [] [] (Qk e k) ok).map fun v=>(v,H)
  | .map b=>match H[b]? with | some (.map ks vs _)=>(JR P T ks vs (Qk e k) ok).map fun v=>(v,H) | _=>none
  | _=>none
 | .mapUpdate T m k x | .insert T m k x=>(VA P (pol.freezeS f rg) T (Qk e m) (Qk e k) (Qk e x) H).map fun H=>(.tuple [],H)
 | .extract t i=>match Qk e t with | .tuple vs=>(vs[i]?).map fun v=>(v,H) | _=>none
 | .call c =>
  match c.callee with
  | .builtin b=>WX P b c.argTypes.toList (c.args.toList.map (Qk e)) H
  | .value g =>
   match YF (Qk e g) (c.args.toList.map (Qk e)) with
   | some (g,args)=>if Jr P g then call g args H else none
   | none=>none
  | .invoke _ _=>none
 | _=>none

def Q2 (ops:Array Oper) (o:Oper) (e:Env):Option Bool :=
 match o.guard with
 | none=>some true
 | some (j,want) =>
  match (ops[j]?).bind (·.dst) with
  | none=>some false
  | some d =>
   match e.get d with
   | .bool b=>some (b==want)
   | .tuple []=>some false
   | _=>none

def ZH (P:Program) (pol:Pol) (f:FuncId) (rg:Nat) (ops:Array Oper) (asg:List Nat) (call:QB):List Oper→Env→Heap→Option (Env×Heap)
 | [],e,H=>some (e,H)
 | o::os,e,H =>
  match Q2 ops o e with
  | some true =>
   match WG P pol f rg asg call o e H with
   | some (v,H')=>ZH P pol f rg ops asg call os (e.put o.dst v) H'
   | none=>none
  | some false=>ZH P pol f rg ops asg call os (e.put o.dst (.tuple [])) H
  | none=>none

def ZA (P:Program) (pol:Pol) (f:FuncId) (rg:Nat) (ops:Array Oper) (asg:List Nat) (call:QB):List Oper→Env→Heap→List (Env×Heap)
 | [],e,H=>[(e,H)]
 | o::os,e,H=>(e,H) ::
  match Q2 ops o e with
  | some true =>
   match WG P pol f rg asg call o e H with
   | some (v,H')=>ZA P pol f rg ops asg call os (e.put o.dst v) H'
   | none=>[]
  | some false=>ZA P pol f rg ops asg call os (e.put o.dst (.tuple [])) H
  | none=>[]

def KL (o:Oper):Bool :=
 match o.op with
 | .assign (.const (.slice _ _ _)) | .alloc _ | .box _ _ | .buildSlice _ _ _ | .store _ _ _ | .makeMap _ _ | .makeSlice _ _ _ | .mapUpdate _ _ _ _ | .insert _ _ _ _=>true
 | .call c=>match c.callee with | .builtin .len | .builtin .min | .builtin .max=>false | _=>true
 | _=>false

def Vg (o:Oper):Bool :=
 match o.op with
 | .load _ _ | .lookup _ _ _ _=>true
 | .call c=>match c.callee with | .builtin .len=>true | _=>false
 | _=>false

mutual
 def same:HV→HV→Bool
  | .undef,.undef=>true
  | .own k l,.own k' l'=>k==k'&&sameL l l'
  | .omap ks vs,.omap ks' vs'=>sameL ks ks'&&sameL vs vs'
  | .int k a,.int k' b=>k==k'&&a==b
  | .bool a,.bool b=>a==b
  | .str a,.str b=>a.data==b.data
  | .agg a,.agg b=>sameL a b
  | .tuple a,.tuple b=>sameL a b
  | .imm g k l,.imm g' k' l'=>g==g'&&k==k'&&sameL l l'
  | .sl b off len cap tot k,.sl b' off' len' cap' tot' k'=>b==b'&&off==off'&&len==len'&&cap==cap'&&tot==tot'&&k==k'
  | .aview b i off len,.aview b' i' off' len'=>b==b'&&i==i'&&off==off'&&len==len'
  | .ptr b i off tot,.ptr b' i' off' tot'=>b==b'&&i==i'&&off==off'&&tot==tot'
  | .vptr v,.vptr v'=>same v v'
  | .map b,.map b'=>b==b'
  | .nilmap,.nilmap=>true
  | .imap g ks vs,.imap g' ks' vs'=>g==g'&&sameL ks ks'&&sameL vs vs'
  | .func f a c,.func f' a' c'=>f==f'&&sameL a a'&&sameL c c'
  | .nilFunc,.nilFunc=>true
  | _,_=>false
 termination_by structural v=>v
 def sameL:List HV→List HV→Bool
  | [],[]=>true
  | v::l,v'::l'=>same v v'&&sameL l l'
  | _,_=>false
 termination_by structural l=>l
end

def Qj:Heap→Heap→Bool
 | [],[]=>true
 | .arr k els wr mx::H,.arr k' els' wr' mx'::H'=>k==k'&&sameL els els'&&wr==wr'&&mx==mx'&&Qj H H'
 | .map ks vs mx::H,.map ks' vs' mx'::H'=>sameL ks ks'&&sameL vs vs'&&mx==mx'&&Qj H H'
 | .iter m s sn c0::H,.iter m' s' sn' c0'::H'=>m==m'&&s==s'&&sn==sn'&&c0==c0'&&Qj H H'
 | .dead::H,.dead::H'=>Qj H H'
 | _,_=>false

def chk (ops:Array Oper) (quiet:List Nat):List (Nat×Nat) :=
 let bf:=Region.before ops
 (qG ops.size).flatMap fun i =>
  match ops[i]? with
  | none=>[]
  | some o =>
   if !(Vg o||quiet.contains i) then [] else
   (if quiet.contains i then [(i,i)] else []) ++
   ((qG ops.size).filterMap fun j =>
    match ops[j]? with
    | none=>none
    | some s =>
     if !KL s||quiet.contains j||i==j then none
     else if j<i then (if (bf.getD i 0).testBit j then none else some (i,j))
     else (if (bf.getD j 0).testBit i then none else some (i,j+1)))

def Kf (P:Program) (pol:Pol) (f:FuncId) (rg:Nat) (ops:Array Oper) (asg:List Nat) (call:QB) (tr:List (Env×Heap)) (p:Nat×Nat):Bool :=
 match ops[p.1]?,tr[p.1]?,tr[p.2]? with
 | some o,some (e,H),some (_,H') =>
  match Q2 ops o e with
  | some true =>
   match WG P pol f rg asg call o e H,WG P pol f rg asg call o e H' with
   | some (v,H1),some (v',H1')=>same v v'&&Qj H1 H&&Qj H1' H'
   | _,_=>false
  | some false=>true
  | none=>false
 | _,_,_=>false

def Zn (P:Program) (pol:Pol) (f:FuncId) (rg:Nat) (ops:Array Oper) (draw:Bool) (call:QB) (e:Env) (H:Heap):Option (Env×Heap) :=
 let asg:=ZG ops.toList
 if draw&&!(chk ops (pol.quiet f rg)).isEmpty then
  if (chk ops (pol.quiet f rg)).all (Kf P pol f rg ops asg call (ZA P pol f rg ops asg call ops.toList e H)) then ZH P pol f rg ops asg call ops.toList e H else none
 else ZH P pol f rg ops asg call ops.toList e H

inductive X where
 | normal | exit (id:Nat) | ret
 deriving DecidableEq

def Kg:Code→List Nat
 | .cond (.tmp t) _ _=>[t]
 | .seq a _=>Kg a
 | .block _ a=>Kg a
 | _=>[]

def Kh:Code→Nat
 | .region id _ _=>id
 | .seq a _=>Kh a
 | .block _ a=>Kh a
 | .loop a=>Kh a
 | _=>0

def QQ (pol:Pol) (f:FuncId) (b:Code) (e:Env):Env:=restr (pol.keys f) (restr ((pol.keys f).filter fun t=>!(pol.dead f (Kh b)).contains t) e)

abbrev Out:=X×Env×Heap

def evC (P:Program) (pol:Pol) (call:QB):Nat→FuncId→Code→Env→Heap→Option Out
 | 0,_,_,_,_=>none
 | n+1,f,c,e,H =>
  match c with
  | .skip=>some (.normal,e,H)
  | .label _=>some (.normal,e,H)
  | .region id ops draw=>match Zn P pol f id ops draw call e H with | some (e,H)=>some (.normal,e,H) | none=>none
  | .seq a b =>
   match evC P pol call n f a e H with
   | some (.normal,e,H)=>evC P pol call n f b (restr (pol.keys f++Kg b) e) H
   | r=>r
  | .cond c a b =>
   match Qk e c with
   | .bool t=>evC P pol call n f (if t then a else b) (restr (pol.keys f) e) H
   | _=>none
  | .block id b =>
   match evC P pol call n f b e H with
   | some (.exit i,e,H)=>if i=id then some (.normal,e,H) else some (.exit i,e,H)
   | r=>r
  | .loop b =>
   match evC P pol call n f b (QQ pol f b e) H with
   | some (.normal,e,H')=>evC P pol call n f (.loop b) (QQ pol f b e) (gc H.length (Zm (QQ pol f b e)) H')
   | r=>r
  | .exit id=>some (.exit id,e,H)
  | .ret=>some (.ret,e,H)
  | _=>none

def Q3 (P:Program) (H:Heap) (e:Env):ResultVar→Option HV
 | .tmp t=>some (e.get t)
 | .cell a t=>Qh P H t (e.get a)

def Qf (P:Program) (fn:Func) (e:Env) (H:Heap):Option HV :=
 match mapO (Q3 P H e) fn.results.toList with
 | some [v]=>some v
 | some vs=>some (.tuple vs)
 | none=>none

def ZS (args:List HV):Env:=args.zipIdx.map fun (v,i)=>(i,v)

abbrev SL:=FuncId→Code→Env→Heap→Option Out

def ZI (P:Program) (pol:Pol) (run:SL) (g:FuncId) (fn:Func) (c:Code) (args:List HV):Option HV :=
 match run g c (ZS args) [] with
 | some (.exit _,_,_)=>none
 | some (_,e,H') =>
  match Qf P fn e H' with
  | some v=>We H' (pol.deep g) v
  | none=>none
 | none=>none

def JS (P:Program) (pol:Pol) (run:SL) (g:FuncId) (fn:Func) (c:Code) (args:List HV):Option HV :=
 if pol.nilf g then
  match args with
  | [.imm _ k []] =>
   match ZI P pol run g fn c [.nilS k],ZI P pol run g fn c [.empS k] with
   | some r,some r'=>if same r r' then some r else none
   | _,_=>none
  | _=>ZI P pol run g fn c args
 else ZI P pol run g fn c args

def Ki (P:Program) (run:SL) (g:FuncId) (fn:Func) (c:Code) (args:List HV) (H:Heap):Option (HV×Heap) :=
 match run g c (ZS args) H with
 | some (.exit _,_,_)=>none
 | some (_,e,H')=>match Qf P fn e H' with | some v=>some (v,gc H.length (bnd v) H') | none=>none
 | none=>none

def YW (F:List HV→Option HV) (args:List HV) (H:Heap):Option (HV×Heap) :=
 match mapO (Qx H 6) args with
 | some as=>match F as with | some r=>some (ZT r H) | none=>none
 | none=>none

def KM (P:Program) (pol:Pol) (run:SL):QB:=fun g args H =>
 match pol.prim g with
 | some F=>YW F args H
 | none =>
 match pol.heapP g with
 | some F=>F args H
 | none =>
 match P.funcs[g]? with
 | some fn =>
  match fn.body with
  | some c =>
   if pol.shared g then Ki P run g fn c args H
   else
    match mapO (Qx H 6) args with
    | some as=>match JS P pol run g fn c as with | some r=>some (ZT r H) | none=>none
    | none=>none
  | none=>none
 | none=>none

def Qa (P:Program) (pol:Pol):Nat→QB
 | 0=>fun _ _ _=>none
 | n+1=>KM P pol (evC P pol (Qa P pol n) n)

end Go.HL


/- What ties the ghost's values and blocks to the world's, and that it lasts while other things change. -/
namespace Go.HL

structure Ctx where
 H:Heap
 σ:Nat→Option Nat

def Ctx.nil:Ctx:=⟨[],fun _=>none⟩

def SlOk (w:World) (c:Ctx) (b off len:Nat) (cap:Option Nat) (tot k:Nat) (a:Option Addr) (cap':Nat):Prop :=
 len≤cap'∧(∀n,cap=some n→cap'=n)∧(0<len→a.isSome=true) ∧
 ∃blk,c.H[b]?=some blk ∧
  match blk with
  | .arr k' els _ _=>tot≤els.length∧(tot=els.length→k'=k ∧
    match c.σ b with
    | none=>len=0∧cap'=0
    | some r=>(0<cap'→a=some ⟨r,off*k,none⟩)∧∃cs T fz,w.heap[r]?=some (Obj.cells cs T fz)∧(off+cap')*k≤cs.size)
  | .dead=>True
  | .iter _ _ _ _=>False
  | .map _ _ _=>False

def PtrOk (c:Ctx) (b i off tot:Nat) (a:Addr):Prop :=
 ∃blk,c.H[b]?=some blk ∧
  match blk with
  | .arr k' els _ _=>tot≤els.length∧(tot=els.length→∃r,c.σ b=some r∧a=⟨r,i*k'+off,none⟩)
  | .dead=>True
  | .iter _ _ _ _=>i=0∧off=0∧tot=0→∃r,c.σ b=some r∧a=⟨r,0,none⟩
  | .map _ _ _=>False

def AvOk (c:Ctx) (b i off len:Nat) (a:Option Addr) (cap':Nat):Prop :=
 len≤cap' ∧
 ∃blk,c.H[b]?=some blk ∧
  match blk with
  | .arr k' els _ _=>1≤els.length∧(els.length=1→∃r,c.σ b=some r∧(0<cap'→a=some ⟨r,i*k'+off,none⟩))
  | .dead=>True
  | .iter _ _ _ _=>True
  | .map _ _ _=>False

def Diff (ks:List HV):Prop:=ks.Pairwise fun a b=>Wz a b=some false∧Wz b a=some false

def MapAt (w:World) (r:Nat) (es:Array MapEntry) (clock:Nat):Prop:=∃es0:Array MapEntry,w.heap[r]?=some (Obj.map es0 clock)∧es0.toList.Perm es.toList∧(∀x∈es0.toList,x.born<clock)∧(es0.toList.map (·.born)).Nodup

theorem MapAt.same {w w':World} {r:Nat} {es:Array MapEntry} {clock:Nat} (h:MapAt w r es clock) (e:w'.heap[r]?=w.heap[r]?):MapAt w' r es clock:=by
 obtain ⟨es0,h1,h2⟩:=h
 exact ⟨es0,e.trans h1,h2⟩

inductive V (w:World) (ok:Bool→Nat→Prop):Ctx→HV→Value→Prop
 | undef {c:Ctx} (v:Value):V w ok c .undef v
 | int {c:Ctx} (k:IntKind) (n:Int):V w ok c (.int k n) (.int k n)
 | bool {c:Ctx} (b:Bool):V w ok c (.bool b) (.bool b)
 | str {c:Ctx} (s:ByteArray):V w ok c (.str s) (.string s)
 | nilmap {c:Ctx}:V w ok c .nilmap (.map none)
 | nilFunc {c:Ctx}:V w ok c .nilFunc .nilFunc
 | nilS {c:Ctx} (k cap:Nat):V w ok c (.nilS k) (.slice none 0 cap)
 | empS {c:Ctx} (k:Nat) (a:Addr) (cap:Nat):V w ok c (.empS k) (.slice (some a) 0 cap)
 | agg {c:Ctx} (cs:List HV) (rs:Array Value) (hl:cs.length=rs.size) (hc:∀v,v∈cs→Ql v=true)
   (h:∀(i:Nat) (v:HV) (r:Value),cs[i]?=some v→rs[i]?=some r→V w ok c v r):V w ok c (.agg cs) (.agg rs)
 | tuple {c:Ctx} (cs:List HV) (rs:Array Value) (hl:cs.length=rs.size)
   (h:∀(i:Nat) (v:HV) (r:Value),cs[i]?=some v→rs[i]?=some r→V w ok c v r):V w ok c (.tuple cs) (.tuple rs)
 | imm {c:Ctx} (g:G) (k:Nat) (l:List HV) (a:Option Addr) (cap:Nat) (f:Nat→Value)
   (hcap:l.length≤cap) (hlit:g=.lit→cap=l.length)
   (haddr:l≠[]→∃r off,a=some ⟨r,off,none⟩∧r<w.heap.size∧ok (g != .arg) r∧∀j,j<l.length*k→w.cell? ⟨r,off+j,none⟩=some (f j))
   (hk:∀v,v∈l→(cellsOf v).length=k) (hc:∀v,v∈l→(cellsOf v).all Ql=true)
   (hv:∀(i:Nat) (v:HV) (j:Nat) (x:HV),l[i]?=some v→(cellsOf v)[j]?=some x→V w ok Ctx.nil x (f (i*k+j))) :
   V w ok c (.imm g k l) (.slice a l.length cap)
 | sl {c:Ctx} (b off len:Nat) (cap:Option Nat) (tot k:Nat) (a:Option Addr) (cap':Nat) (h:SlOk w c b off len cap tot k a cap') :
   V w ok c (.sl b off len cap tot k) (.slice a len cap')
 | aview {c:Ctx} (b i off len:Nat) (a:Option Addr) (cap':Nat) (h:AvOk c b i off len a cap'):V w ok c (.aview b i off len) (.slice a len cap')
 | ptr {c:Ctx} (b i off tot:Nat) (a:Addr) (h:PtrOk c b i off tot a):V w ok c (.ptr b i off tot) (.pointer (some a))
 | vptr {c:Ctx} (v:HV) (r o:Nat) (f:Nat→Value) (hr:r<w.heap.size) (hok:ok false r) (hc:(cellsOf v).all Ql=true)
   (h1:∀j,j<(cellsOf v).length→w.cell? ⟨r,o+j,none⟩=some (f j))
   (h:∀(j:Nat) (x:HV),(cellsOf v)[j]?=some x→V w ok Ctx.nil x (f j)) :
   V w ok c (.vptr v) (.pointer (some ⟨r,o,none⟩))
 | map {c:Ctx} (b r:Nat) (ks vs:List HV) (mx:Nat) (hH:c.H[b]?=some (Blk.map ks vs mx)) (hs:c.σ b=some r):V w ok c (.map b) (.map (some r))
 | imap {c:Ctx} (g:G) (ks vs:List HV) (r:Nat) (es:Array MapEntry) (clock:Nat) (hr:r<w.heap.size) (hok:ok (g != .arg) r)
   (hw:MapAt w r es clock) (hl:ks.length=es.size) (hl':vs.length=es.size) (hkp:(∀v,v∈ks→(cellsOf v).all Ql=true)∧Diff ks)
   (hk:∀(i:Nat) (v:HV) (m:MapEntry),ks[i]?=some v→es[i]?=some m→V w ok Ctx.nil v m.key)
   (hv:∀(i:Nat) (v:HV) (m:MapEntry),vs[i]?=some v→es[i]?=some m→V w ok Ctx.nil v m.val) :
   V w ok c (.imap g ks vs) (.map (some r))
 | func {c:Ctx} (f:FuncId) (fa ca:List HV) (ra rc:Array Value) (hl:fa.length=ra.size) (hl':ca.length=rc.size)
   (h:∀(i:Nat) (v:HV) (r:Value),fa[i]?=some v→ra[i]?=some r→V w ok c v r) (h':∀(i:Nat) (v:HV) (r:Value),ca[i]?=some v→rc[i]?=some r→V w ok c v r) :
   V w ok c (.func f fa ca) (.func (.func f) ra rc)

def Ctx.M (c:Ctx) (r:Nat):Prop :=
 (∃b k els mx,c.H[b]?=some (Blk.arr k els true mx)∧c.σ b=some r)∨(∃b ks vs mx,c.H[b]?=some (Blk.map ks vs mx)∧c.σ b=some r) ∨
 (∃b m s sn c0,c.H[b]?=some (Blk.iter m s sn c0)∧c.σ b=some r)

def Qg (c:Ctx) (lo:Nat):Bool→Nat→Prop:=fun t r=>¬c.M r∧(t=true→lo≤r)

def BlkOk (w:World) (c:Ctx) (lo:Nat) (b:Nat):Blk→Prop
 | .arr k els _ mx =>
  (∀v,v∈els→(cellsOf v).length=k∧(cellsOf v).all Ql=true∧bnd v≤mx) ∧
  match c.σ b with
  | none=>els=[]
  | some r=>lo≤r∧∃cs T,w.heap[r]?=some (Obj.cells cs T (0,0))∧els.length*k≤cs.size ∧
    ∀(i:Nat) (v:HV) (j:Nat) (x:HV),els[i]?=some v→(cellsOf v)[j]?=some x→∃y,cs[i*k+j]?=some y∧V w (Qg c lo) c x y
 | .map ks vs mx =>
  (∀v,v∈vs→bnd v≤mx)∧((∀v,v∈ks→(cellsOf v).all Ql=true∧(Wn (cellsOf v) (cellsOf v)).isSome=true)∧Diff ks) ∧
  ∃r,c.σ b=some r∧lo≤r∧∃es clock,MapAt w r es clock∧ks.length=es.size∧vs.length=es.size ∧
   (∀(i:Nat) (v:HV) (m:MapEntry),ks[i]?=some v→es[i]?=some m→V w (Qg c lo) Ctx.nil v m.key) ∧
   (∀(i:Nat) (v:HV) (m:MapEntry),vs[i]?=some v→es[i]?=some m→V w (Qg c lo) c v m.val)
 | .iter m since seen c0=>∃r,c.σ b=some r∧lo≤r∧w.heap[r]?=some (Obj.mapIter (some m) since seen.toArray c0)
 | .dead=>True

structure Rel (lo:Nat) (c:Ctx) (w:World):Prop where
 blk:∀(b:Nat) (x:Blk),c.H[b]?=some x→BlkOk w c lo b x
 inj:∀b b' r,c.σ b=some r→c.σ b'=some r→b=b'
 dom:∀b r,c.σ b=some r→b<c.H.length∧r<w.heap.size
 low:lo≤w.heap.size

structure CEvo (c c':Ctx):Prop where
 len:c.H.length≤c'.H.length
 arr:∀(b k:Nat) (els:List HV) (wr:Bool) (mx:Nat),c.H[b]?=some (Blk.arr k els wr mx) →
  (∃k' els' wr' mx',c'.H[b]?=some (Blk.arr k' els' wr' mx')∧els.length≤els'.length∧(els'.length=els.length→k'=k∧c'.σ b=c.σ b))∨c'.H[b]?=some Blk.dead
 map:∀(b:Nat) (ks vs:List HV) (mx:Nat),c.H[b]?=some (Blk.map ks vs mx)→(∃ks' vs' mx',c'.H[b]?=some (Blk.map ks' vs' mx'))∧c'.σ b=c.σ b
 dead:∀b:Nat,c.H[b]?=some Blk.dead→c'.H[b]?=some Blk.dead
 iter:∀(b m s:Nat) (sn:List Nat) (c0:Nat),c.H[b]?=some (Blk.iter m s sn c0)→(∃m' s' sn' c0',c'.H[b]?=some (Blk.iter m' s' sn' c0'))∧c'.σ b=c.σ b

structure WEvo (w:World) (ok:Bool→Nat→Prop) (w':World) (ok':Bool→Nat→Prop):Prop where
 os:w'.os=w.os
 tape:w'.tape=w.tape
 output:w'.output=w.output
 size:w.heap.size≤w'.heap.size
 keep:∀t r,r<w.heap.size→ok t r→ok' t r∧w'.heap[r]?=w.heap[r]?
 csize:∀(r:Nat) (cs:Array Value) (T:TypeId) (fz:Nat×Nat),w.heap[r]?=some (Obj.cells cs T fz)→∃cs' T' fz',w'.heap[r]?=some (Obj.cells cs' T' fz')∧cs'.size=cs.size

theorem CEvo.refl (c:Ctx):CEvo c c :=
 ⟨qF _,fun b k els wr mx h=>.inl ⟨k,els,wr,mx,h,qF _,fun _=>⟨rfl,rfl⟩⟩,fun b ks vs mx h=>⟨⟨ks,vs,mx,h⟩,rfl⟩,fun b h=>h,fun b m s sn c0 h=>⟨⟨m,s,sn,c0,h⟩,rfl⟩⟩

theorem CEvo.trans {c d e:Ctx} (h:CEvo c d) (g:CEvo d e):CEvo c e:=by
 refine ⟨qA h.len g.len,?_,?_,fun b hb=>g.dead b (h.dead b hb),fun b m s sn c0 hb=>by
  obtain ⟨⟨m1,s1,n1,c1,h1⟩,e1⟩:=h.iter b m s sn c0 hb
  obtain ⟨h2,e2⟩:=g.iter b m1 s1 n1 c1 h1
  exact ⟨h2,e2.trans e1⟩⟩
 ·intro b k els wr mx hb
  rcases h.arr b k els wr mx hb with ⟨k1,e1,w1,m1,h1,l1,q1⟩ | h1
  ·rcases g.arr b k1 e1 w1 m1 h1 with ⟨k2,e2,w2,m2,h2,l2,q2⟩ | h2
   ·refine .inl ⟨k2,e2,w2,m2,h2,qA l1 l2,fun he=>?_⟩
    have he1:e1.length=els.length:=by omega
    have he2:e2.length=e1.length:=by omega
    exact ⟨(q2 he2).1.trans (q1 he1).1,(q2 he2).2.trans (q1 he1).2⟩
   ·exact .inr h2
  ·exact .inr (g.dead b h1)
 ·intro b ks vs mx hb
  obtain ⟨⟨k1,v1,m1,h1⟩,s1⟩:=h.map b ks vs mx hb
  obtain ⟨h2,s2⟩:=g.map b k1 v1 m1 h1
  exact ⟨h2,s2.trans s1⟩

theorem WEvo.refl (w:World) (ok:Bool→Nat→Prop):WEvo w ok w ok :=
 ⟨rfl,rfl,rfl,qF _,fun _ _ _ h=>⟨h,rfl⟩,fun r cs T fz h=>⟨cs,T,fz,h,rfl⟩⟩

theorem WEvo.trans {w w' w'':World} {ok ok' ok'':Bool→Nat→Prop} (h:WEvo w ok w' ok') (g:WEvo w' ok' w'' ok''):WEvo w ok w'' ok'':=by
 refine ⟨g.os.trans h.os,g.tape.trans h.tape,g.output.trans h.output,qA h.size g.size,?_,?_⟩
 ·intro t r hr ho
  obtain ⟨o1,e1⟩:=h.keep t r hr ho
  obtain ⟨o2,e2⟩:=g.keep t r (qB hr h.size) o1
  exact ⟨o2,e2.trans e1⟩
 ·intro r cs T fz hr
  obtain ⟨c1,T1,z1,h1,s1⟩:=h.csize r cs T fz hr
  obtain ⟨c2,T2,z2,h2,s2⟩:=g.csize r c1 T1 z1 h1
  exact ⟨c2,T2,z2,h2,s2.trans s1⟩

theorem WEvo.cell {w w':World} {ok ok':Bool→Nat→Prop} (h:WEvo w ok w' ok') {t:Bool} {r:Nat} (hr:r<w.heap.size) (ho:ok t r) (o:Nat) :
  w'.cell? ⟨r,o,none⟩=w.cell? ⟨r,o,none⟩:=World.cell?_of_block (a:=⟨r,o,none⟩) (h.keep t r hr ho).2

theorem SlOk.evo {w w':World} {ok ok':Bool→Nat→Prop} {c d:Ctx} (hw:WEvo w ok w' ok') (hc:CEvo c d) {b off len tot k cap':Nat} {cap:Option Nat} {a:Option Addr}
  (h:SlOk w c b off len cap tot k a cap'):SlOk w' d b off len cap tot k a cap':=by
 obtain ⟨h1,h2,h3,blk,hb,h4⟩:=h
 refine ⟨h1,h2,h3,?_⟩
 match blk,hb,h4 with
 | .arr k' els wr mx,hb,h4 =>
  obtain ⟨h5,h6⟩:=h4
  rcases hc.arr b k' els wr mx hb with ⟨k1,e1,w1,m1,hb1,l1,q1⟩ | hd
  ·refine ⟨_,hb1,qA h5 l1,fun ht=>?_⟩
   have he:e1.length=els.length:=by omega
   obtain ⟨hk,hs⟩:=q1 he
   obtain ⟨h7,h8⟩:=h6 (by omega)
   refine ⟨hk.trans h7,?_⟩
   rw [hs]
   revert h8
   cases c.σ b with
   | none=>exact id
   | some r =>
    rintro ⟨g1,cs,T,fz,g2,g3⟩
    obtain ⟨cs',T',fz',e1,e2⟩:=hw.csize r cs T fz g2
    exact ⟨g1,cs',T',fz',e1,by rw [e2];exact g3⟩
  ·exact ⟨_,hd,trivial⟩
 | .dead,hb,_=>exact ⟨_,hc.dead b hb,trivial⟩
 | .iter _ _ _ _,_,h4=>exact h4.elim
 | .map _ _ _,_,h4=>exact h4.elim

theorem PtrOk.evo {c d:Ctx} (hc:CEvo c d) {b i off tot:Nat} {a:Addr} (h:PtrOk c b i off tot a):PtrOk d b i off tot a:=by
 obtain ⟨blk,hb,h4⟩:=h
 match blk,hb,h4 with
 | .arr k' els wr mx,hb,h4 =>
  obtain ⟨h5,h6⟩:=h4
  rcases hc.arr b k' els wr mx hb with ⟨k1,e1,w1,m1,hb1,l1,q1⟩ | hd
  ·refine ⟨_,hb1,qA h5 l1,fun ht=>?_⟩
   have he:e1.length=els.length:=by omega
   obtain ⟨hk,hs⟩:=q1 he
   obtain ⟨r,h7,h8⟩:=h6 (by omega)
   exact ⟨r,hs.trans h7,by rw [hk];exact h8⟩
  ·exact ⟨_,hd,trivial⟩
 | .dead,hb,_=>exact ⟨_,hc.dead b hb,trivial⟩
 | .iter m s sn c0,hb,h4 =>
  obtain ⟨⟨m1,s1,n1,c1,h1⟩,e1⟩:=hc.iter b m s sn c0 hb
  refine ⟨_,h1,fun hq=>?_⟩
  obtain ⟨r,g1,g2⟩:=h4 hq
  exact ⟨r,e1.trans g1,g2⟩
 | .map _ _ _,_,h4=>exact h4.elim

theorem AvOk.evo {c d:Ctx} (hc:CEvo c d) {b i off len cap':Nat} {a:Option Addr}
  (h:AvOk c b i off len a cap'):AvOk d b i off len a cap':=by
 obtain ⟨h1,blk,hb,h4⟩:=h
 refine ⟨h1,?_⟩
 match blk,hb,h4 with
 | .arr k' els wr mx,hb,h4 =>
  obtain ⟨h5,h6⟩:=h4
  rcases hc.arr b k' els wr mx hb with ⟨k1,e1,w1,m1,hb1,l1,q1⟩ | hd
  ·refine ⟨_,hb1,by omega,fun ht=>?_⟩
   have he:e1.length=els.length:=by omega
   obtain ⟨hk,hs⟩:=q1 he
   obtain ⟨r,h7,h8⟩:=h6 (by omega)
   exact ⟨r,hs.trans h7,by rw [hk];exact h8⟩
  ·exact ⟨_,hd,trivial⟩
 | .dead,hb,_=>exact ⟨_,hc.dead b hb,trivial⟩
 | .iter m s sn c0,hb,_ =>
  obtain ⟨⟨m1,s1,n1,c1,h1⟩,_⟩:=hc.iter b m s sn c0 hb
  exact ⟨_,h1,trivial⟩
 | .map _ _ _,_,h4=>exact h4.elim

theorem V.evo {w w':World} {ok ok':Bool→Nat→Prop} (hw:WEvo w ok w' ok') {c:Ctx} {v:HV} {rv:Value} (h:V w ok c v rv) :
  ∀{d:Ctx},CEvo c d→V w' ok' d v rv:=by
 induction h with
 | undef v=>exact fun _=>.undef v
 | int k n=>exact fun _=>.int k n
 | bool b=>exact fun _=>.bool b
 | str s=>exact fun _=>.str s
 | nilmap=>exact fun _=>.nilmap
 | nilFunc=>exact fun _=>.nilFunc
 | nilS k cap=>exact fun _=>.nilS k cap
 | empS k a cap=>exact fun _=>.empS k a cap
 | agg cs rs hl hc h ih=>exact fun hd=>.agg cs rs hl hc fun i v r h1 h2=>ih i v r h1 h2 hd
 | tuple cs rs hl h ih=>exact fun hd=>.tuple cs rs hl fun i v r h1 h2=>ih i v r h1 h2 hd
 | imm g k l a cap f hcap hlit haddr hk hc hv ih =>
  intro d hd
  refine .imm g k l a cap f hcap hlit (fun hne=>?_) hk hc (fun i v j x h1 h2=>ih i v j x h1 h2 (CEvo.refl _))
  obtain ⟨r,off,h1,h2,h3,h4⟩:=haddr hne
  refine ⟨r,off,h1,qB h2 hw.size,(hw.keep _ r h2 h3).1,fun j hj=>?_⟩
  rw [hw.cell h2 h3];exact h4 j hj
 | sl b off len cap tot k a cap' h=>exact fun hd=>.sl b off len cap tot k a cap' (h.evo hw hd)
 | aview b i off len a cap' h=>exact fun hd=>.aview b i off len a cap' (h.evo hd)
 | ptr b i off tot a h=>exact fun hd=>.ptr b i off tot a (h.evo hd)
 | vptr v r o f hr hok hc h1 h ih =>
  intro d hd
  exact .vptr v r o f (qB hr hw.size) (hw.keep _ r hr hok).1 hc (fun j hj=>by rw [hw.cell hr hok];exact h1 j hj) (fun j x hx=>ih j x hx (CEvo.refl _))
 | map b r ks vs mx hH hs =>
  intro d hd
  obtain ⟨⟨ks',vs',mx',h1⟩,h2⟩:=hd.map b ks vs mx hH
  exact .map b r ks' vs' mx' h1 (h2.trans hs)
 | imap g ks vs r es clock hr hok hwr hl hl' hkp hk hv ihk ihv =>
  intro d hd
  exact .imap g ks vs r es clock (qB hr hw.size) (hw.keep _ r hr hok).1 (hwr.same (hw.keep _ r hr hok).2) hl hl' hkp
   (fun i v m h1 h2=>ihk i v m h1 h2 (CEvo.refl _)) (fun i v m h1 h2=>ihv i v m h1 h2 (CEvo.refl _))
 | func f fa ca ra rc hl hl' h h' ih ih' =>
  exact fun hd=>.func f fa ca ra rc hl hl' (fun i v r h1 h2=>ih i v r h1 h2 hd) (fun i v r h1 h2=>ih' i v r h1 h2 hd)

theorem CEvo.of_nil (c:Ctx):CEvo Ctx.nil c:=by
 refine ⟨Nat.zero_le _,?_,?_,?_,?_⟩ <;> · intros;simp_all [Ctx.nil]

structure Evo (lo:Nat) (c:Ctx) (w:World) (c':Ctx) (w':World):Prop where
 W:WEvo w (Qg c lo) w' (Qg c' lo)
 C:CEvo c c'
 out:∀r:Nat,r<w.heap.size→¬c.M r→w'.heap[r]?=w.heap[r]?

theorem Evo.refl (lo:Nat) (c:Ctx) (w:World):Evo lo c w c w:=⟨.refl _ _,.refl _,fun _ _ _=>rfl⟩

theorem Evo.noM {lo:Nat} {c c':Ctx} {w w':World} (h:Evo lo c w c' w') {r:Nat} (hr:r<w.heap.size) (hm:¬c.M r):¬c'.M r :=
 (h.W.keep false r hr ⟨hm,fun h=>by cases h⟩).1.1

theorem Evo.trans {lo:Nat} {c c' c'':Ctx} {w w' w'':World} (h:Evo lo c w c' w') (g:Evo lo c' w' c'' w''):Evo lo c w c'' w'' :=
 ⟨h.W.trans g.W,h.C.trans g.C,fun r hr hm=>(g.out r (qB hr h.W.size) (h.noM hr hm)).trans (h.out r hr hm)⟩

theorem Evo.val {lo:Nat} {c c':Ctx} {w w':World} (h:Evo lo c w c' w') {v:HV} {rv:Value} (hv:V w (Qg c lo) c v rv):V w' (Qg c' lo) c' v rv:=hv.evo h.W h.C

theorem Evo.of {lo:Nat} {c c':Ctx} {w w':World} (os:w'.os=w.os) (tape:w'.tape=w.tape) (output:w'.output=w.output) (size:w.heap.size≤w'.heap.size)
  (out:∀r:Nat,r<w.heap.size→¬c.M r→¬c'.M r∧w'.heap[r]?=w.heap[r]?)
  (csize:∀(r:Nat) (cs:Array Value) (T:TypeId) (fz:Nat×Nat),w.heap[r]?=some (Obj.cells cs T fz)→∃cs' T' fz',w'.heap[r]?=some (Obj.cells cs' T' fz')∧cs'.size=cs.size) (hC:CEvo c c'):Evo lo c w c' w' :=
 ⟨⟨os,tape,output,size,fun _ r hr ho=>⟨⟨(out r hr ho.1).1,ho.2⟩,(out r hr ho.1).2⟩,csize⟩,hC,fun r hr hm=>(out r hr hm).2⟩

def RelE (w:World) (c:Ctx) (lo:Nat) (e:Env) (tmps:Array Value):Prop:=∀t,V w (Qg c lo) c (e.get t) (tmps.getD t undef)

theorem RelE.evo {lo:Nat} {c c':Ctx} {w w':World} {e:Env} {tmps:Array Value} (h:RelE w c lo e tmps) (g:Evo lo c w c' w'):RelE w' c' lo e tmps:=fun t=>g.val (h t)

theorem RelE.put {lo:Nat} {c:Ctx} {w:World} {e:Env} {a:Act} {v:HV} {rv:Value} {d:Option Nat} (h:RelE w c lo e a.tmps) (hv:V w (Qg c lo) c v rv)
  (hd:∀t,d=some t→t<a.tmps.size):RelE w c lo (e.put d v) (a.put d rv).tmps:=by
 intro t
 cases d with
 | none=>exact h t
 | some d =>
  have hlt:=hd d rfl
  simp only [Env.put,Env.get,Act.put]
  by_cases ht:d=t
  ·subst ht
   simp [hlt,hv]
  ·have:(a.tmps.setIfInBounds d rv).getD t undef=a.tmps.getD t undef:=by
    simp only [Array.getD_eq_getD_getElem?,Array.getElem?_setIfInBounds_ne ht]
   rw [if_neg ht,this]
   exact h t

theorem QaP (keys:List Nat) (e:Env) (t:Nat):(restr keys e).get t=.undef∨(restr keys e).get t=e.get t:=by
 unfold restr
 induction keys with
 | nil=>exact .inl rfl
 | cons x l ih =>
  simp only [List.map_cons,Env.get]
  by_cases h:x=t
  ·subst h;simp
  ·simpa [h] using ih

theorem RelE.restr {lo:Nat} {c:Ctx} {w:World} {e:Env} {tmps:Array Value} (h:RelE w c lo e tmps) (keys:List Nat):RelE w c lo (restr keys e) tmps:=by
 intro t
 rcases QaP keys e t with h1 | h1 <;> rw [h1]
 ·exact .undef _
 ·exact h t

end Go.HL


/- Operations that make no block and read none: the model's and the ghost's agree. -/
namespace Go.HL
section
variable {w:World} {ok:Bool→Nat→Prop} {c:Ctx} {rv:Value}

theorem V.int_inv {k:IntKind} {n:Int} (h:V w ok c (.int k n) rv):rv=.int k n:=by cases h;rfl
theorem V.bool_inv {b:Bool} (h:V w ok c (.bool b) rv):rv=.bool b:=by cases h;rfl
theorem V.str_inv {s:ByteArray} (h:V w ok c (.str s) rv):rv=.string s:=by cases h;rfl
theorem V.nilmap_inv (h:V w ok c .nilmap rv):rv=.map none:=by cases h;rfl

theorem V.oneCell {v:HV} (h:V w ok c v rv) (hc:Ql v=true):rv.oneCell'=true:=by
 cases h <;> first | rfl | simp [Ql] at hc

theorem V.cells {v:HV} (h:V w ok c v rv) (hc:(cellsOf v).all Ql=true) :
  (cellsOf v).length=rv.cells.size∧(∀(j:Nat) (x:HV) (y:Value),(cellsOf v)[j]?=some x→rv.cells[j]?=some y→V w ok c x y)∧(∀u,u∈rv.cells.toList→u.oneCell'=true):=by
 have key:∀(v:HV) (rv:Value),V w ok c v rv→Ql v=true→cellsOf v=[v]→rv.cells = #[rv] →
   (cellsOf v).length=rv.cells.size∧(∀(j:Nat) (x:HV) (y:Value),(cellsOf v)[j]?=some x→rv.cells[j]?=some y→V w ok c x y)∧(∀u,u∈rv.cells.toList→u.oneCell'=true):=by
  intro v rv h hc e1 e2
  rw [e1,e2]
  refine ⟨rfl,fun j x y hx hy=>?_,fun u hu=>?_⟩
  ·cases j with
   | zero=>simp at hx hy;subst hx;subst hy;exact h
   | succ j=>simp at hx
  ·simp at hu;subst hu;exact h.oneCell hc
 cases h with
 | agg cs rs hl hcs hh =>
  refine ⟨hl,fun j x y hx hy=>hh j x y hx hy,fun u hu=>?_⟩
  simp only [Value.cells,Array.mem_toList_iff] at hu
  obtain ⟨i,hi,rfl⟩:=Array.mem_iff_getElem.1 hu
  have hi':i<cs.length:=by omega
  exact (hh i cs[i] rs[i] (qP hi') (qR hi)).oneCell (hcs _ (List.getElem_mem hi'))
 | undef v=>simp [cellsOf,Ql] at hc
 | tuple cs rs hl hh=>simp [cellsOf,Ql] at hc
 | _=>exact key _ _ (by constructor <;> assumption) rfl rfl rfl

theorem Gz (v:Value):V w ok c (YR v) v:=by
 unfold YR
 split
 ·exact .bool _
 ·exact .int _ _
 ·exact .str _
 ·exact .imm .lit 0 [] none 0 (fun _=>undef) (by simp) (by simp) (by simp) (by simp) (by simp) (by simp)
 ·exact .nilmap
 ·exact .nilFunc
 ·exact .undef _

theorem Zd (v:Value):V w ok c (QC v) v:=by
 unfold QC
 split
 ·rename_i cs
  split
  ·rename_i h
   refine .agg _ _ (by simp) (fun v hv=>List.all_eq_true.1 h v hv) (fun i v r hv hr=>?_)
   simp only [List.getElem?_map,Array.getElem?_toList,hr,Option.map_some,Option.some.injEq] at hv
   subst hv
   exact Gz _
  ·exact .undef _
 ·exact Gz _

theorem Jg {lo:Nat} {e:Env} {a:Act} (h:RelE w c lo e a.tmps) (x:Operand):V w (Qg c lo) c (Qk e x) (a.eval x):=by
 cases x with
 | tmp t=>exact h t
 | const v=>exact Zd v
 | global g=>exact .undef _
 | func f=>exact .func f [] [] #[] #[] rfl rfl (by simp) (by simp)

def StepOk (P:Program) (lo:Nat) (c:Ctx) (w:World) (s:Sem Value) (v:HV) (H':Heap):Prop :=
 ∃c' w' rv,s.run P w=.ok rv w'∧c'.H=H'∧Rel lo c' w'∧V w' (Qg c' lo) c' v rv∧Evo lo c w c' w'

theorem StepOk.pure {P:Program} {lo:Nat} {s:Sem Value} {v:HV} (hR:Rel lo c w) (hr:s.run P w=.ok rv w) (hv:V w (Qg c lo) c v rv):StepOk P lo c w s v c.H :=
 ⟨c,w,rv,hr,rfl,hR,hv,.refl _ _ _⟩

variable {P:Program}

theorem Z8 (k:IntKind) (n:Int):(asIntOf (.int k n)).run P w=.ok (k,n) w:=rfl
theorem Qr {t:TypeId} {d:TypeDesc} (h:P.underlying t=some d):(underlying t).run P w=.ok d w:=by simp [underlying,h]
theorem QbC {t:TypeId} {i:TypeInfo} (h:P.info? t=some i):(typeInfo t).run P w=.ok i w:=by simp [typeInfo,h]
theorem Wj {t:TypeId} {n:Nat} (h:Qm P t=some n):(sizeOf t).run P w=.ok n w:=by
 unfold Qm at h
 cases hi:P.info? t with
 | none=>simp [hi] at h
 | some i=>simp [hi] at h;simp [sizeOf,typeInfo,hi,h]
theorem VO {t:TypeId} (h:Qw P t=true):(isAgg t).run P w=.ok true w:=by
 unfold Qw at h
 split at h
 ·rename_i fs hu;simp [isAgg,Qr hu]
 ·rename_i n e hu;simp [isAgg,Qr hu]
 ·cases h
theorem Kj {t:TypeId} {d:TypeDesc} (hd:P.underlying t=some d) (h:Qw P t=false):(isAgg t).run P w=.ok false w:=by
 unfold Qw at h
 cases d <;> simp_all [isAgg,Qr hd]

theorem Kz (op:BinOp) (t:TypeId) (x y:Operand) (k k':IntKind) (a b:Int):(eqGuard op t x y (.int k a) (.int k' b)).run P w=.ok () w:=by cases op <;> rfl
theorem XO (op:BinOp) (t:TypeId) (x y:Operand) (a b:Bool):(eqGuard op t x y (.bool a) (.bool b)).run P w=.ok () w:=by cases op <;> rfl
theorem Xc (op:BinOp) (t:TypeId) (x y:Operand) (a:Option Addr) (n c:Nat) (b:Option Addr) (m d:Nat):(eqGuard op t x y (.slice a n c) (.slice b m d)).run P w=.ok () w:=by cases op <;> rfl

theorem CW {op:BinOp} {k:IntKind} {a b:Int} {v:HV} {t:TypeId} {x y:Operand} (h:Kb op k a b=some v) :
  ∃rv,(do eqGuard op t x y (.int k a) (.int k b);binOp op t (.int k a) (.int k b):Sem Value).run P w=.ok rv w∧V w ok c v rv:=by
 simp only [Sem.run_bind,Kz,Result.andThen_ok]
 cases op <;> simp only [Kb] at h
 case quo =>
  split at h
  ·cases h
  ·rename_i hb;cases h;exact ⟨.int k (k.wrap (a.tdiv b)),by simp [binOp,Op.intDiv,hb],.int _ _⟩
 case rem =>
  split at h
  ·cases h
  ·rename_i hb;cases h;exact ⟨.int k (a.tmod b),by simp [binOp,Op.intDiv,hb],.int _ _⟩
 case shl =>
  split at h
  ·cases h
  ·rename_i hb;cases h;exact ⟨.int k (k.wrap (a*2 ^ min b.toNat k.bits)),by simp [binOp,Op.shift,hb],.int _ _⟩
 case shr =>
  split at h
  ·cases h
  ·rename_i hb;cases h;exact ⟨.int k (a.fdiv (2 ^ min b.toNat k.bits)),by simp [binOp,Op.shift,hb],.int _ _⟩
 all_goals (cases h;refine ⟨_,?_,by constructor⟩;simp only [binOp,ne_eq,not_true_eq_false,if_false];rfl)

theorem DE {op:BinOp} {k k':IntKind} {a b:Int} {v:HV} {t:TypeId} {x y:Operand} (h:ZF P op t (.int k a) (.int k' b)=some v) :
  ∃rv,(do eqGuard op t x y (.int k a) (.int k' b);binOp op t (.int k a) (.int k' b):Sem Value).run P w=.ok rv w∧V w ok c v rv:=by
 have hs:∀op',(op'=BinOp.shl∨op'=BinOp.shr)→Kb op' k a b=some v →
   ∃rv,(do eqGuard op' t x y (.int k a) (.int k' b);binOp op' t (.int k a) (.int k' b):Sem Value).run P w=.ok rv w∧V w ok c v rv:=by
  intro op' ho h
  simp only [Sem.run_bind,Kz,Result.andThen_ok]
  rcases ho with rfl | rfl <;> simp only [Kb] at h <;> split at h
  ·cases h
  ·rename_i hb;cases h;exact ⟨.int k (k.wrap (a*2 ^ min b.toNat k.bits)),by simp [binOp,Op.shift,hb],.int _ _⟩
  ·cases h
  ·rename_i hb;cases h;exact ⟨.int k (a.fdiv (2 ^ min b.toNat k.bits)),by simp [binOp,Op.shift,hb],.int _ _⟩
 by_cases ho:op=.shl∨op=.shr
 ·refine hs op ho ?_
  rcases ho with rfl | rfl <;> exact h
 ·have hk:(if k=k' then Kb op k a b else none)=some v:=by
   cases op <;> first | exact h | simp at ho
  split at hk
  ·rename_i e;subst e;exact CW hk
  ·cases hk

theorem JT (d:Nat) {t:TypeId} {a b:Bool} (hu:P.underlying t=some .bool):(Op.equalIn (d+1) t (.bool a) (.bool b)).run P w=.ok (a==b) w:=by
 simp [Op.equalIn,Qr hu]
theorem run_equalIn_int (d:Nat) {t:TypeId} {q k:IntKind} {a b:Int} (hu:P.underlying t=some (.int q)):(Op.equalIn (d+1) t (.int k a) (.int k b)).run P w=.ok (a==b) w:=by
 simp [Op.equalIn,Qr hu]
theorem YC (d:Nat) {t e:TypeId} {a:Option Addr} {n cap:Nat} (hu:P.underlying t=some (.slice e)):(Op.equalIn (d+1) t (.slice a n cap) (.slice none 0 0)).run P w=.ok a.isNone w:=by
 cases a <;> simp [Op.equalIn,Qr hu]

theorem UQ {op:BinOp} {a b:Bool} {v:HV} {t:TypeId} {x y:Operand} (h:ZF P op t (.bool a) (.bool b)=some v) :
  ∃rv,(do eqGuard op t x y (.bool a) (.bool b);binOp op t (.bool a) (.bool b):Sem Value).run P w=.ok rv w∧V w ok c v rv:=by
 have heq:P.underlying t=some .bool→(Op.equal t (.bool a) (.bool b)).run P w=.ok (a==b) w:=fun hu=>JT 9999 hu
 simp only [Sem.run_bind,XO,Result.andThen_ok]
 simp only [ZF] at h
 split at h
 ·rename_i hu;cases h
  exact ⟨_,by simp only [binOp,Sem.run_bind,heq hu,Result.andThen_ok,Sem.run_pure],.bool _⟩
 ·rename_i hu;cases h
  exact ⟨_,by simp only [binOp,Sem.run_bind,heq hu,Result.andThen_ok,Sem.run_pure],.bool _⟩
 ·cases h

theorem Qd5 {op:UnOp} {x v:HV} {rx:Value} (hx:V w ok c x rx) (h:unV op x=some v) :
  ∃rv,(Op.unary op rx).run P w=.ok rv w∧V w ok c v rv:=by
 unfold unV at h
 split at h
 ·cases h;rw [hx.bool_inv];exact ⟨_,rfl,.bool _⟩
 ·cases h;rw [hx.int_inv];exact ⟨_,rfl,.int _ _⟩
 ·cases h

theorem GA {op:BinOp} {t:TypeId} {x v:HV} {rx:Value} {ox oy:Operand} (hx:V w ok c x rx) (h:Kd P op t x=some v) :
  ∃rv,(do eqGuard op t ox oy rx (.slice none 0 0);binOp op t rx (.slice none 0 0):Sem Value).run P w=.ok rv w∧V w ok c v rv:=by
 unfold Kd at h
 split at h
 rotate_left
 ·cases h
 rename_i e hu
 have key:∀(r:Bool) (a:Option Addr) (n cap:Nat),(r=a.isNone)→SK r op=some v →
   ∃rv,(do eqGuard op t ox oy (.slice a n cap) (.slice none 0 0);binOp op t (.slice a n cap) (.slice none 0 0):Sem Value).run P w=.ok rv w∧V w ok c v rv:=by
  intro r a n cap hr h
  subst hr
  have heq:(Op.equal t (.slice a n cap) (.slice none 0 0)).run P w=.ok a.isNone w:=YC 9999 hu
  simp only [Sem.run_bind,Xc,Result.andThen_ok]
  cases op <;> simp only [SK,reduceCtorEq,Option.some.injEq] at h
  ·subst h;exact ⟨_,by simp only [binOp,Sem.run_bind,heq,Result.andThen_ok,Sem.run_pure],.bool _⟩
  ·subst h;exact ⟨_,by simp only [binOp,Sem.run_bind,heq,Result.andThen_ok,Sem.run_pure],.bool _⟩
 cases hx with
 | nilS k cap=>exact key true none 0 cap rfl h
 | empS k a cap=>exact key false (some a) 0 cap rfl h
 | imm g k l a cap f hcap hlit haddr hk hc hv =>
  cases l with
  | nil=>simp [KJ] at h
  | cons y l =>
   obtain ⟨r,off,ha,_⟩:=haddr (by simp)
   subst ha
   exact key false _ _ _ rfl h
 | sl b off len cap tot k a cap' hs =>
  cases len with
  | zero=>simp [KJ] at h
  | succ n =>
   obtain ⟨_,_,h3,_⟩:=hs
   have:=h3 (by omega)
   cases a with
   | none=>simp at this
   | some a=>exact key false _ _ _ rfl h
 | _=>simp [KJ] at h

theorem UV {t:TypeId} {cs:List HV} {off:Nat} {v:HV} {rs:Array Value}
  (hl:cs.length=rs.size) (hc:∀v,v∈cs→Ql v=true)
  (hh:∀(i:Nat) (v:HV) (r:Value),cs[i]?=some v→rs[i]?=some r→V w ok c v r) (h:Jq P t cs off=some v) :
  ∃rv,(part t rs off).run P w=.ok rv w∧V w ok c v rv:=by
 unfold Jq at h
 split at h
 ·rename_i ha
  split at h
  ·rename_i n hn
   split at h
   ·rename_i hle
    cases h
    refine ⟨.agg (rs.extract off (off+n)),by simp [part,VO ha,Wj hn],.agg _ _ ?_ (fun v hv=>hc v (qK (qL hv))) ?_⟩
    ·simp;omega
    ·intro i v r hv hr
     have hi:i<n:=by
      rcases qC i n with h | h
      ·exact h
      ·rw [qD,if_neg (by omega)] at hv;cases hv
     rw [qD,if_pos hi,qM] at hv
     refine hh (off+i) v r hv ?_
     rw [Array.getElem?_extract] at hr
     split at hr
     ·exact hr
     ·cases hr
   ·cases h
  ·cases h
 ·rename_i ha
  have ha':Qw P t=false:=by simpa using ha
  split at h
  rotate_left
  ·cases h
  rename_i hs
  obtain ⟨d,hd⟩:=Option.isSome_iff_exists.1 hs
  have hi:off<cs.length:=by
   rcases qC off cs.length with h' | h'
   ·exact h'
   ·rw [qN h'] at h;cases h
  have hr:rs[off]?=some rs[off]:=qR (by omega)
  exact ⟨rs[off],by simp [part,Kj hd ha',hr],hh off v _ h hr⟩

end
end Go.HL


/- Addresses, parts, slices, lengths, loads. -/
namespace Go.HL
section
variable {w:World} {ok:Bool→Nat→Prop} {c:Ctx} {rv:Value} {P:Program}

theorem Q4 (r o n:Nat):(⟨r,o,none⟩:Addr).add n=⟨r,o+n,none⟩:=by unfold Addr.add;split <;> simp_all

theorem Yc {t:TypeId} {n r o:Nat} {f:Nat→Value} (ha:Qw P t=true) (hn:Qm P t=some n) (h:∀j,j<n→w.cell? ⟨r,o+j,none⟩=some (f j)) :
  (loadVar t ⟨r,o,none⟩).run P w=.ok (.agg ((qG n).map f).toArray) w:=by
 simp only [loadVar,Sem.run_bind,VO ha,Result.andThen_ok,if_true,Wj hn]
 rw [run_loadCells w _ n f (fun j hj=>by rw [Q4];exact h j hj)]
 rfl

theorem Yd {t:TypeId} {a:Addr} {v:Value} (ha:Qw P t=false) (hs:(P.underlying t).isSome=true) (h:w.cell? a=some v) :
  (loadVar t a).run P w=.ok v w:=by
 obtain ⟨d,hd⟩:=Option.isSome_iff_exists.1 hs
 simp [loadVar,Kj hd ha,h]

theorem Ye {cs:List HV} {n:Nat} {f:Nat→Value} (hl:cs.length=n) (hc:cs.all Ql=true) (h:∀(j:Nat) (x:HV),cs[j]?=some x→V w ok c x (f j)) :
  V w ok c (.agg cs) (.agg ((qG n).map f).toArray):=by
 refine .agg _ _ (by simp [hl]) (fun v hv=>List.all_eq_true.1 hc v hv) (fun i v r hv hr=>?_)
 have hi:i<n:=by
  rcases qC i n with h' | h'
  ·exact h'
  ·rw [qN (by omega)] at hv;cases hv
 simp [hi] at hr
 subst hr
 exact h i v hv

theorem V.cellsEq {v:HV} (h:V w ok c v rv) (hc:(cellsOf v).all Ql=true) (ha:QZ v=false):cellsOf v=[v]∧Ql v=true:=by
 cases h with
 | agg cs rs hl hcs hh=>simp [QZ] at ha
 | _=>simp_all [cellsOf]

theorem QaQ {t:TypeId} {x v:HV} {lo:Nat} (hx:V w (Qg c lo) c (.vptr x) rv)
  (h:Qh P c.H t (.vptr x)=some v):∃r,(Instr.loadAt t rv).run P w=.ok r w∧V w (Qg c lo) c v r:=by
 cases hx with
 | vptr x r o f hr hok hc h1 hh =>
  have hh':∀(j:Nat) (y:HV),(cellsOf x)[j]?=some y→V w (Qg c lo) c y (f j):=fun j y hy=>(hh j y hy).evo (WEvo.refl _ _) (CEvo.of_nil c)
  by_cases hx:∃cs,x=.agg cs
  ·obtain ⟨cs,rfl⟩:=hx
   simp only [Qh] at h
   split at h
   ·rename_i hq
    cases h
    refine ⟨_,?_,Ye rfl hc hh'⟩
    show (loadVar t ⟨r,o,none⟩).run P w=_
    exact Yc hq.1 hq.2 h1
   ·cases h
  ·have h':Qw P t=false∧(P.underlying t).isSome∧x=v:=by
    cases x <;> simp [Qh] at h hx <;> exact ⟨h.1.1,h.1.2,h.2⟩
   obtain ⟨q1,q2,rfl⟩:=h'
   have hcs:cellsOf x=[x]:=by cases x <;> first | rfl | exact absurd ⟨_,rfl⟩ hx
   refine ⟨f 0,?_,hh' 0 x (by simp [hcs])⟩
   show (loadVar t ⟨r,o,none⟩).run P w=_
   exact Yd q1 q2 (by simpa using h1 0 (by simp [hcs]))

theorem QbD {t:TypeId} {b i off tot:Nat} {v:HV} {lo:Nat} (hR:Rel lo c w) (hx:V w (Qg c lo) c (.ptr b i off tot) rv)
  (h:Qh P c.H t (.ptr b i off tot)=some v):∃r,(Instr.loadAt t rv).run P w=.ok r w∧V w (Qg c lo) c v r:=by
 cases hx with
 | ptr b i off tot a hp =>
  obtain ⟨blk,hb,hp⟩:=hp
  simp only [Qh,hb] at h
  split at h
  rotate_left
  ·cases h
  rename_i k els wr mx heq
  cases heq
  split at h
  rotate_left
  ·cases h
  rename_i ht
  split at h
  rotate_left
  ·cases h
  rename_i u hu
  obtain ⟨_,hp⟩:=hp
  obtain ⟨r,hs,rfl⟩:=hp ht
  have hB:=hR.blk b _ hb
  simp only [BlkOk,hs] at hB
  obtain ⟨hel,hlo,cs,T,hw,hle,hcell⟩:=hB
  obtain ⟨hk,hcu,_⟩:=hel u (qO hu)
  have hcc:∀(j:Nat) (x:HV),(cellsOf u)[j]?=some x→∃y,w.cell? ⟨r,i*k+j,none⟩=some y∧V w (Qg c lo) c x y:=by
   intro j x hx
   obtain ⟨y,hy,hv⟩:=hcell i u j x hu hx
   exact ⟨y,by simp [World.cell?,hw,hy],hv⟩
  show ∃q,(loadVar t ⟨r,i*k+off,none⟩).run P w=.ok q w∧_
  unfold Jq at h
  split at h
  ·rename_i ha
   split at h
   ·rename_i n hn
    split at h
    ·rename_i hle'
     cases h
     have hcell':∀j,j<n→∃y,w.cell? ⟨r,i*k+off+j,none⟩=some y∧V w (Qg c lo) c ((cellsOf u).getD (off+j) .undef) y:=by
      intro j hj
      have hlt:off+j<(cellsOf u).length:=by omega
      obtain ⟨y,hy,hv⟩:=hcc (off+j) _ (qP hlt)
      exact ⟨y,by rw [qE];exact hy,by simpa [List.getD,qP hlt] using hv⟩
     refine ⟨_,Yc (f:=fun j=>(w.cell? ⟨r,i*k+off+j,none⟩).getD undef) ha hn (fun j hj=>by obtain ⟨y,hy,_⟩:=hcell' j hj;simp [hy]),Ye (by simp;omega) ?_ ?_⟩
     ·exact List.all_eq_true.2 fun x hx=>List.all_eq_true.1 hcu x (qK (qL hx))
     ·intro j x hx
      have hj:j<n:=by
       rcases qC j n with h' | h'
       ·exact h'
       ·rw [qD,if_neg (by omega)] at hx;cases hx
      rw [qD,if_pos hj,qM] at hx
      obtain ⟨y,hy,hv⟩:=hcell' j hj
      simp only [hy,qH]
      simpa [List.getD,hx] using hv
    ·cases h
   ·cases h
  ·rename_i ha
   split at h
   ·rename_i hsm
    obtain ⟨y,hy,hv⟩:=hcc off v h
    exact ⟨y,Yd (by simpa using ha) hsm hy,hv⟩
   ·cases h

theorem UW {t:TypeId} {x v:HV} {lo:Nat} (hR:Rel lo c w) (hx:V w (Qg c lo) c x rv)
  (h:Qh P c.H t x=some v):∃r,(Instr.loadAt t rv).run P w=.ok r w∧V w (Qg c lo) c v r:=by
 cases x with
 | vptr x=>exact QaQ hx h
 | ptr b i off tot=>exact QbD hR hx h
 | _=>simp [Qh] at h

end
end Go.HL


/- Addresses of elements and fields, parts, slices, lengths. -/
namespace Go.HL
section
variable {w:World} {c:Ctx} {rv ri:Value} {P:Program} {lo:Nat}

theorem QbE {t:Bool} {r:Nat} (h:Qg c lo t r):Qg c lo false r:=⟨h.1,fun h=>by cases h⟩

theorem VC {t e:TypeId} {k len cap:Nat} {ad:Addr} {q:IntKind} {n:Int} (hu:P.underlying t=some (.slice e)) (hs:Qm P e=some k) (h0:0≤n) (hl:n<len) :
  (Instr.indexAt t (.slice (some ad) len cap) (.int q n)).run P w=.ok (.pointer (some (ad.add (n.toNat*k)))) w:=by
 simp [Instr.indexAt,Qr hu,Z8,h0,hl,Wj hs]

theorem VD {t e:TypeId} {k len:Nat} {ad:Addr} {q:IntKind} {n:Int} (hu:P.underlying t=some (.array len e)) (hs:Qm P e=some k) (h0:0≤n) (hl:n<len) :
  (Instr.indexAt t (.pointer (some ad)) (.int q n)).run P w=.ok (.pointer (some (ad.add (n.toNat*k)))) w:=by
 simp [Instr.indexAt,Instr.sureAddr,Qr hu,Z8,h0,hl,Wj hs]

theorem UX {t:TypeId} {cs:List HV} {off:Nat} {v:HV} {r o:Nat} {f:Nat→Value} (hr:r<w.heap.size) (hok:Qg c lo false r)
  (hc:cs.all Ql=true) (h1:∀j,j<cs.length→w.cell? ⟨r,o+j,none⟩=some (f j)) (hh:∀(j:Nat) (x:HV),cs[j]?=some x→V w (Qg c lo) Ctx.nil x (f j))
  (h:Jq P t cs off=some v):V w (Qg c lo) c (.vptr v) (.pointer (some ⟨r,o+off,none⟩)):=by
 unfold Jq at h
 split at h
 ·split at h
  ·rename_i n hn
   split at h
   ·rename_i hle
    cases h
    refine .vptr _ r (o+off) (fun j=>f (off+j)) hr hok ?_ ?_ ?_
    ·exact List.all_eq_true.2 fun x hx=>List.all_eq_true.1 hc x (qK (qL hx))
    ·intro j hj
     simp [cellsOf] at hj
     rw [qE]
     exact h1 (off+j) (by omega)
    ·intro j x hx
     simp only [cellsOf] at hx
     have hj:j<n:=by
      rcases qC j n with h' | h'
      ·exact h'
      ·rw [qD,if_neg (by omega)] at hx;cases hx
     rw [qD,if_pos hj,qM] at hx
     exact hh (off+j) x hx
   ·cases h
  ·cases h
 ·split at h
  ·have hcv:Ql v=true:=List.all_eq_true.1 hc v (qO h)
   have hcs:cellsOf v=[v]:=by cases v <;> first | rfl | simp [Ql] at hcv
   have hlt:off<cs.length:=by
    rcases qC off cs.length with h' | h'
    ·exact h'
    ·rw [qN h'] at h;cases h
   refine .vptr _ r (o+off) (fun j=>f (off+j)) hr hok (by simp [hcs,hcv]) ?_ ?_
   ·intro j hj
    have:j=0:=by simpa [hcs] using hj
    subst this
    exact h1 off hlt
   ·intro j x hx
    rw [hcs] at hx
    cases j with
    | zero=>simp at hx;subst hx;exact hh off _ h
    | succ j=>simp at hx
  ·cases h

theorem QbF {t:TypeId} {x i v:HV} (hx:V w (Qg c lo) c x rv) (hi:V w (Qg c lo) c i ri) (h:WW P t x i=some v) :
  ∃r,(Instr.indexAt t rv ri).run P w=.ok r w∧V w (Qg c lo) c v r:=by
 unfold WW at h
 split at h
 rotate_left
 ·cases h
 rename_i q n
 have:=hi.int_inv;subst this
 split at h
 ·rename_i e hu
  split at h
  ·rename_i g k l
   split at h
   rotate_left
   ·cases h
   rename_i hq
   obtain ⟨h0,hl,hs⟩:=hq
   split at h
   rotate_left
   ·cases h
   rename_i u hu'
   cases h
   cases hx with
   | imm g k l a cap f hcap hlit haddr hk hc hv =>
    have hne:l≠[]:=by rintro rfl;simp at hu'
    obtain ⟨r,off,rfl,hr,hok,hcell⟩:=haddr hne
    refine ⟨_,VC hu hs h0 hl,?_⟩
    rw [Q4]
    have hku:=hk u (qO hu')
    have hlt:n.toNat<l.length:=by omega
    have hmul:(n.toNat+1)*k≤l.length*k:=qQ k hlt
    rw [qI,Nat.one_mul] at hmul
    refine .vptr u r (off+n.toNat*k) (fun j=>f (n.toNat*k+j)) hr (QbE hok) (hc u (qO hu')) ?_ ?_
    ·intro j hj
     rw [qE]
     exact hcell _ (by omega)
    ·intro j y hy
     exact hv n.toNat u j y hu' hy
  ·rename_i b off len cap tot k
   split at h
   rotate_left
   ·cases h
   rename_i hq
   obtain ⟨h0,hl,hs⟩:=hq
   cases h
   cases hx with
   | sl b off len cap tot k a cap' hsl =>
    obtain ⟨h1,h2,h3,blk,hb,h4⟩:=hsl
    have hsome:=h3 (by omega)
    obtain ⟨ad,rfl⟩:=Option.isSome_iff_exists.1 hsome
    refine ⟨_,VC hu hs h0 hl,.ptr _ _ _ _ _ ⟨blk,hb,?_⟩⟩
    match blk,h4 with
    | .arr k' els wr mx,h4 =>
     obtain ⟨h5,h6⟩:=h4
     refine ⟨h5,fun ht=>?_⟩
     obtain ⟨hk,h7⟩:=h6 ht
     revert h7
     cases c.σ b with
     | none=>rintro ⟨h8,_⟩;omega
     | some r =>
      rintro ⟨h8,_⟩
      have:=h8 (by omega)
      cases this
      subst hk
      exact ⟨r,rfl,by rw [Q4];simp [qI]⟩
    | .dead,_=>trivial
    | .map _ _ _,h4=>exact h4
    | .iter _ _ _ _,h4=>exact h4.elim
  ·cases h
 ·rename_i m e hu
  split at h
  rotate_left
  ·cases h
  rename_i hq
  split at h
  ·rename_i cs s hs
   cases hp:Jq P e cs (n.toNat*s) with
   | none=>simp [hp] at h
   | some u =>
    simp [hp] at h;subst h
    cases hx with
    | vptr v r o f hr hok hc h1 hh =>
     refine ⟨_,VD hu hs hq.1 hq.2,?_⟩
     rw [Q4]
     exact UX hr hok hc h1 hh hp
  ·rename_i b j off tot s hs
   cases h
   cases hx with
   | ptr b i off tot a hp =>
    refine ⟨_,VD hu hs hq.1 hq.2,.ptr _ _ _ _ _ ?_⟩
    obtain ⟨blk,hb,hp⟩:=hp
    refine ⟨blk,hb,?_⟩
    match blk,hp with
    | .arr k' els wr mx,hp =>
     refine ⟨hp.1,fun ht=>?_⟩
     obtain ⟨r,h1,rfl⟩:=hp.2 ht
     exact ⟨r,h1,by rw [Q4];simp [qE]⟩
    | .dead,_=>trivial
    | .map _ _ _,hp=>exact hp
    | .iter _ _ _ _,hp =>
     rintro ⟨q1,q2,q3⟩
     obtain ⟨r,h1,rfl⟩:=hp ⟨q1,by omega,q3⟩
     exact ⟨r,h1,by rw [Q4];simp;omega⟩
  ·cases h
 ·cases h

theorem DF {s:TypeId} {x v:HV} {fl:Nat} (hx:V w (Qg c lo) c x rv) (h:YT P s x fl=some v) :
  ∃r,(Instr.fieldAt s rv fl).run P w=.ok r w∧V w (Qg c lo) c v r:=by
 unfold YT at h
 split at h
 rotate_left
 ·cases h
 rename_i fs hu
 split at h
 rotate_left
 ·cases h
 rename_i fd hf
 split at h
 ·cases h
 rename_i hz
 have hz1:Qm P fd.type≠some 0:=fun h=>hz (.inl h)
 have hz2:Qm P fd.type≠none:=fun h=>hz (.inr h)
 obtain ⟨sz,hsz⟩:=Option.ne_none_iff_exists'.1 hz2
 have hsz0:sz≠0:=by rintro rfl;exact hz1 hsz
 have hrun:∀ad:Addr,(Instr.fieldAt s (.pointer (some ad)) fl).run P w=.ok (.pointer (some (ad.add fd.offset))) w:=by
  intro ad
  simp [Instr.fieldAt,Instr.sureAddr,Qr hu,hf,fieldPlace,Wj hsz,hsz0]
 split at h
 ·rename_i cs
  cases hp:Jq P fd.type cs fd.offset with
  | none=>simp [hp] at h
  | some u =>
   simp [hp] at h;subst h
   cases hx with
   | vptr v r o f hr hok hc h1 hh =>
    refine ⟨_,hrun _,?_⟩
    rw [Q4]
    exact UX hr hok hc h1 hh hp
 ·rename_i b j off tot
  cases h
  cases hx with
  | ptr b i off tot a hp =>
   refine ⟨_,hrun _,.ptr _ _ _ _ _ ?_⟩
   obtain ⟨blk,hb,hp⟩:=hp
   refine ⟨blk,hb,?_⟩
   match blk,hp with
   | .arr k' els wr mx,hp =>
    refine ⟨hp.1,fun ht=>?_⟩
    obtain ⟨r,h1,rfl⟩:=hp.2 ht
    exact ⟨r,h1,by rw [Q4];simp [qE]⟩
   | .dead,_=>trivial
   | .map _ _ _,hp=>exact hp
   | .iter _ _ _ _,hp =>
    rintro ⟨q1,q2,q3⟩
    obtain ⟨r,h1,rfl⟩:=hp ⟨q1,by omega,q3⟩
    exact ⟨r,h1,by rw [Q4];simp;omega⟩
 ·cases h

theorem QbG {t:TypeId} {x v:HV} {fl:Nat} (hx:V w (Qg c lo) c x rv) (h:Qg6 P t x fl=some v) :
  ∃r,(Instr.field t rv fl).run P w=.ok r w∧V w (Qg c lo) c v r:=by
 unfold Qg6 at h
 split at h
 rotate_left
 ·cases h
 rename_i fs cs hu
 split at h
 rotate_left
 ·cases h
 rename_i fd hf
 cases hx with
 | agg cs rs hl hc hh =>
  obtain ⟨r,h1,h2⟩:=UV hl hc hh h
  exact ⟨r,by simp [Instr.field,Qr hu,hf,asAgg,h1],h2⟩

theorem QaR {t:TypeId} {x i v:HV} (hx:V w (Qg c lo) c x rv) (hi:V w (Qg c lo) c i ri) (h:Yb P t x i=some v) :
  ∃r,(Instr.index t rv ri).run P w=.ok r w∧V w (Qg c lo) c v r:=by
 unfold Yb at h
 split at h
 ·rename_i m e cs q n hu
  split at h
  rotate_left
  ·cases h
  rename_i hq
  split at h
  rotate_left
  ·cases h
  rename_i s hs
  have:=hi.int_inv;subst this
  cases hx with
  | agg cs rs hl hc hh =>
   obtain ⟨r,h1,h2⟩:=UV hl hc hh h
   exact ⟨r,by simp [Instr.index,Qr hu,Z8,hq,Wj hs,h1],h2⟩
 ·rename_i s q n hu
  split at h
  rotate_left
  ·cases h
  rename_i hq
  have:=hi.int_inv;subst this
  have:=hx.str_inv;subst this
  cases hb:s[n.toNat]? with
  | none=>simp [hb] at h
  | some b =>
   simp [hb] at h;subst h
   exact ⟨_,by simp [Instr.index,Qr hu,Z8,hq,hb],.int _ _⟩
 ·cases h

end
end Go.HL


/- Slices of slices, lengths, the least and the greatest, tuples. -/
namespace Go.HL
section
variable {w:World} {c:Ctx} {rv ri:Value} {P:Program} {lo:Nat}

inductive OV:Option Value→Option Nat→Prop
 | none:OV none none
 | some (k:IntKind) (n:Nat):OV (some (.int k n)) (some n)

theorem QbH {ok:Bool→Nat→Prop} {o:Option HV} {ro:Option Value} {n:Option Nat}
  (h0:o=none→ro=none) (h1:∀v,o=some v→∃r,ro=some r∧V w ok c v r) (h:Ke o=some n):OV ro n:=by
 unfold Ke at h
 split at h
 ·cases h;rw [h0 rfl];exact .none
 ·rename_i k m
  split at h
  ·rename_i hm
   cases h
   obtain ⟨r,rfl,hr⟩:=h1 _ rfl
   rw [hr.int_inv]
   have:m=((m.toNat:Nat):Int):=by omega
   rw [this]
   exact .some k m.toNat
  ·cases h
 ·cases h

theorem YX {k:IntKind} {n y:Nat} {code:BoundsCode} (h:n≤y):(Instr.sliceBound (.int k n) y code).run P w=.ok n w:=by
 simp [Instr.sliceBound,Z8,h]

theorem KA {s:Bool} {len cap:Nat} {low high max:Option Value} {l h m:Option Nat} (hl:OV low l) (hh:OV high h) (hm:OV max m)
  (h1:m.getD cap≤cap) (h2:h.getD len≤m.getD cap) (h3:l.getD 0≤h.getD len) (h4:m.isSome=true→h.isSome=true) :
  (Instr.sliceBounds s len cap low high max).run P w=.ok (l.getD 0,h.getD len,m.getD cap) w:=by
 cases hl <;> cases hh <;> cases hm <;> simp_all [Instr.sliceBounds,YX]

theorem Jm {t e:TypeId} {k len cap:Nat} {a:Option Addr} {low high max:Option Value} {l h m:Option Nat} (hu:P.underlying t=some (.slice e)) (hs:Qm P e=some k)
  (hl:OV low l) (hh:OV high h) (hm:OV max m)
  (h1:m.getD cap≤cap) (h2:h.getD len≤m.getD cap) (h3:l.getD 0≤h.getD len) (h4:m.isSome=true→h.isSome=true) :
  (Instr.sliceAt t (.slice a len cap) low high max).run P w =
   .ok (.slice (if m.getD cap=l.getD 0 then a else a.map (·.add (l.getD 0*k))) (h.getD len-l.getD 0) (m.getD cap-l.getD 0)) w:=by
 simp [Instr.sliceAt,Qr hu,Instr.slice,KA hl hh hm h1 h2 h3 h4,Wj hs]

theorem DG {t e:TypeId} {k n:Nat} {a:Addr} {low high:Option Value} {l h:Option Nat} (hu:P.underlying t=some (.array n e)) (hs:Qm P e=some k)
  (hl:OV low l) (hh:OV high h) (h2:h.getD n≤n) (h3:l.getD 0≤h.getD n) :
  (Instr.sliceAt t (.pointer (some a)) low high none).run P w =
   .ok (.slice (some (if n=l.getD 0 then a else a.add (l.getD 0*k))) (h.getD n-l.getD 0) (n-l.getD 0)) w:=by
 have:=KA (P:=P) (w:=w) (s:=false) (len:=n) (cap:=n) hl hh OV.none (by simp) (by simpa using h2) h3 (by simp)
 simp [Instr.sliceAt,Qr hu,Instr.sureAddr,this,Wj hs]

theorem JU (k:Nat) (a:Option Addr):V w (Qg c lo) c (.imm .lit k []) (.slice a 0 0) :=
 .imm .lit k [] a 0 (fun _=>undef) (by simp) (by simp) (by simp) (by simp) (by simp) (by simp)

theorem UY {g g':G} {k:Nat} {l:List HV} {a:Option Addr} {cap cap' i n:Nat} (h:V w (Qg c lo) c (.imm g k l) (.slice a l.length cap))
  (hin:i+n≤l.length) (hcap:n≤cap') (hg:g'=.lit→cap'=n) (hgg:(g' != .arg)=true→(g != .arg)=true) (a':Option Addr)
  (ha:n≠0→a'=a.map (·.add (i*k))):V w (Qg c lo) c (.imm g' k ((l.drop i).take n)) (.slice a' n cap'):=by
 have hlen:((l.drop i).take n).length=n:=by simp;omega
 cases h with
 | imm g k l a cap f hcap0 hlit haddr hk hc hv =>
  have hmem:∀v,v∈(l.drop i).take n→v∈l:=fun v hv=>qK (qL hv)
  have key:=V.imm (w:=w) (ok:=Qg c lo) (c:=c) g' k ((l.drop i).take n) a' cap' (fun j=>f (i*k+j)) (by rw [hlen];exact hcap) (by rw [hlen];exact hg) ?_
   (fun v hv=>hk v (hmem v hv)) (fun v hv=>hc v (hmem v hv)) ?_
  ·rw [hlen] at key;exact key
  ·intro hne
   have hn:n≠0:=by rintro rfl;simp at hne
   have hl:l≠[]:=by rintro rfl;simp at hin;omega
   obtain ⟨r,off,rfl,hr,hok,hcell⟩:=haddr hl
   refine ⟨r,off+i*k,by rw [ha hn];simp [Q4],hr,⟨hok.1,fun h=>hok.2 (hgg h)⟩,fun j hj=>?_⟩
   rw [hlen] at hj
   have:(i+n)*k≤l.length*k:=qQ k hin
   rw [qI] at this
   rw [qE]
   exact hcell _ (by omega)
  ·intro i' v j x hv' hx
   have hi':i'<n:=by
    rcases qC i' n with h' | h'
    ·exact h'
    ·rw [qD,if_neg (by omega)] at hv';cases hv'
   rw [qD,if_pos hi',qM] at hv'
   have:=hv (i+i') v j x hv' hx
   rwa [qI,qE] at this

theorem GB {b off len:Nat} {cap cap2:Option Nat} {tot k l n cap' cap2':Nat} {a a2:Option Addr} (h:SlOk w c b off len cap tot k a cap') (hln:l+n≤len)
  (hc2:n≤cap2') (hcc:l+cap2'≤cap') (hcap:∀m,cap2=some m→cap2'=m) (ha:cap2'≠0→a2=a.map (·.add (l*k))):SlOk w c b (off+l) n cap2 tot k a2 cap2':=by
 obtain ⟨h1,h2,h3,blk,hb,h4⟩:=h
 refine ⟨hc2,hcap,fun hn=>?_,blk,hb,?_⟩
 ·have:=h3 (by omega)
  rw [ha (by omega)]
  simpa using this
 match blk,h4 with
 | .arr k' els wr mx,h4 =>
  obtain ⟨h5,h6⟩:=h4
  refine ⟨h5,fun ht=>?_⟩
  obtain ⟨hk,h7⟩:=h6 ht
  refine ⟨hk,?_⟩
  revert h7
  cases c.σ b with
  | none=>rintro ⟨h8,h9⟩;exact ⟨by omega,by omega⟩
  | some r =>
   rintro ⟨h8,cs,T,fz,g1,g2⟩
   refine ⟨fun hpos=>?_,cs,T,fz,g1,?_⟩
   ·rw [ha (by omega),h8 (by omega)]
    simp [Q4,qI]
   ·refine qA (qQ k ?_) g2
    omega
 | .dead,_=>trivial
 | .map _ _ _,h4=>exact h4
 | .iter _ _ _ _,h4=>exact h4

theorem CX {t:TypeId} {x v:HV} {lo' hi mx:Option HV} {rlo rhi rmx:Option Value} (hx:V w (Qg c lo) c x rv)
  (hlo:(lo'=none→rlo=none)∧∀v,lo'=some v→∃r,rlo=some r∧V w (Qg c lo) c v r)
  (hhi:(hi=none→rhi=none)∧∀v,hi=some v→∃r,rhi=some r∧V w (Qg c lo) c v r)
  (hmx:(mx=none→rmx=none)∧∀v,mx=some v→∃r,rmx=some r∧V w (Qg c lo) c v r)
  (hmh:mx.isSome=true→hi.isSome=true)
  (h:Jb P t x lo' hi mx=some v):∃r,(Instr.sliceAt t rv rlo rhi rmx).run P w=.ok r w∧V w (Qg c lo) c v r:=by
 unfold Jb at h
 split at h
 rotate_left
 ·cases h
 rename_i l hh m el eh em
 have ol:=QbH hlo.1 hlo.2 el
 have oh:=QbH hhi.1 hhi.2 eh
 have om:=QbH hmx.1 hmx.2 em
 have hmh':m.isSome=true→hh.isSome=true:=by
  intro hm
  cases m with
  | none=>cases hm
  | some m =>
   cases hi with
   | none =>
    cases mx with
    | none=>simp [Ke] at em
    | some x=>simp at hmh
   | some y =>
    unfold Ke at eh
    split at eh
    ·rename_i heq;cases heq
    ·split at eh
     ·cases eh;rfl
     ·cases eh
    ·cases eh
 simp only at h
 split at h
 ·rename_i e hu
  split at h
  ·rename_i g k es
   split at h
   rotate_left
   ·cases h
   rename_i hk
   cases hx with
   | imm g k es a cap f hcap hlit haddr hku hcu hvu =>
    have hV:V w (Qg c lo) c (.imm g k es) (.slice a es.length cap):=.imm g k es a cap f hcap hlit haddr hku hcu hvu
    obtain ⟨s,hs,hsk⟩:∃s,Qm P e=some s∧(es≠[]→s=k):=by
     rcases hk with hk | ⟨hk,hk'⟩
     ·exact ⟨k,hk,fun _=>rfl⟩
     ·obtain ⟨s,hs⟩:=Option.isSome_iff_exists.1 hk'
      exact ⟨s,hs,fun h=>absurd hk h⟩
    split at h
    ·rename_i m'
     split at h
     ·rename_i hq
      obtain ⟨q1,q2,q3⟩:=hq
      cases h
      refine ⟨_,Jm hu hs ol oh om ?_ ?_ ?_ hmh',?_⟩
      ·simp;omega
      ·simp;omega
      ·omega
      ·have e1:hh.getD es.length-l.getD 0=0:=by omega
       have e2:m'-l.getD 0=0:=by omega
       simp only [qH,e1,e2]
       exact JU k _
     ·split at h
      ·rename_i hq
       obtain ⟨q1,q2,q3⟩:=hq
       cases h
       refine ⟨_,Jm hu hs ol oh om ?_ ?_ ?_ hmh',?_⟩
       ·simp;omega
       ·simp;omega
       ·omega
       ·simp only [qH]
        refine UY hV (by omega) (by omega) ?_ ?_ _ ?_
        ·intro _;omega
        ·cases g <;> simp
        ·intro hn
         have hne:es≠[]:=qS (by omega)
         rw [hsk hne,if_neg (by omega)]
      ·cases h
    ·split at h
     ·rename_i hq
      obtain ⟨q1,q2⟩:=hq
      cases h
      refine ⟨_,Jm hu hs ol oh om ?_ ?_ ?_ hmh',?_⟩
      ·simp
      ·simp;omega
      ·omega
      ·simp only [Option.getD_none]
       refine UY hV (by omega) (by omega) ?_ ?_ _ ?_
       ·intro hg
        cases g with
        | lit =>
         have:=hlit rfl
         simp only at hg
         split at hg
         ·omega
         ·cases hg
        | arg=>cases hg
        | own=>cases hg
       ·cases g <;> simp
       ·intro hn
        have hne:es≠[]:=qS (by omega)
        rw [hsk hne,if_neg (by omega)]
     ·cases h
  ·rename_i b off len cap tot k
   split at h
   rotate_left
   ·cases h
   rename_i hs
   cases hx with
   | sl b off len cap tot k a cap' hsl =>
    have hle:len≤cap':=hsl.1
    split at h
    ·rename_i m'
     split at h
     ·rename_i hq
      obtain ⟨q1,q2,q3⟩:=hq
      cases h
      refine ⟨_,Jm hu hs ol oh om ?_ ?_ ?_ hmh',?_⟩
      ·simp;omega
      ·simp;omega
      ·omega
      ·have e1:hh.getD len-l.getD 0=0:=by omega
       have e2:m'-l.getD 0=0:=by omega
       simp only [qH,e1,e2]
       exact JU k _
     ·split at h
      ·rename_i hq
       obtain ⟨q1,q2,q3⟩:=hq
       cases h
       refine ⟨_,Jm hu hs ol oh om ?_ ?_ ?_ hmh',?_⟩
       ·simp;omega
       ·simp;omega
       ·omega
       ·simp only [qH]
        refine .sl _ _ _ _ _ _ _ _ (GB hsl (by omega) (by omega) (by omega) ?_ ?_)
        ·intro n hn;cases hn;omega
        ·intro hn;rw [if_neg (by omega)]
      ·cases h
    ·split at h
     ·rename_i hq
      obtain ⟨q1,q2⟩:=hq
      cases h
      refine ⟨_,Jm hu hs ol oh om ?_ ?_ ?_ hmh',?_⟩
      ·simp
      ·simp;omega
      ·omega
      ·simp only [Option.getD_none]
       refine .sl _ _ _ _ _ _ _ _ (GB hsl (by omega) (by omega) (by omega) ?_ ?_)
       ·intro n hn
        cases hc:cap with
        | none=>simp [hc] at hn
        | some q=>simp [hc] at hn;have:=hsl.2.1 q hc;omega
       ·intro hn;rw [if_neg (by omega)]
     ·cases h
  ·cases h
 ·rename_i n e hu
  split at h
  ·rename_i b i off tot
   split at h
   rotate_left
   ·cases h
   rename_i hq
   obtain ⟨hs,q1,q2,q3,q4⟩:=hq
   cases h
   cases om
   cases hx with
   | ptr b i off tot a hp =>
    refine ⟨_,DG hu hs ol oh (by omega) (by omega),.aview _ _ _ _ _ _ ⟨by omega,?_⟩⟩
    obtain ⟨blk,hb,hp⟩:=hp
    refine ⟨blk,hb,?_⟩
    match blk,hp with
    | .arr k' els wr mx,hp =>
     obtain ⟨h1,h2⟩:=hp
     refine ⟨by omega,fun ht=>?_⟩
     obtain ⟨r,h3,rfl⟩:=h2 (by omega)
     refine ⟨r,h3,fun hn=>?_⟩
     rw [if_neg (by omega)]
     simp [Q4,qE]
    | .dead,_=>trivial
    | .map _ _ _,hp=>exact hp
    | .iter _ _ _ _,_=>trivial
  ·cases h
 ·cases h

theorem QbI {t:TypeId} {tys:Array TypeId} {ty:TypeId} {args:Array Value} {x v:HV} (hR:Rel lo c w) (hx:V w (Qg c lo) c x rv) (ht:tys[0]?=some t) (ha:args[0]?=some rv)
  (h:QaO P c.H t x=some v):∃r,(Builtin.len_ tys ty args).run P w=.ok r w∧V w (Qg c lo) c v r:=by
 unfold QaO at h
 split at h
 ·rename_i n e hu
  cases h
  exact ⟨_,by simp [Builtin.len_,ht,ha,Qr hu,goInt],.int _ _⟩
 ·rename_i e hu
  have key:∀(a:Option Addr) (n cap:Nat),rv=.slice a n cap→v=.int .i64 n→∃r,(Builtin.len_ tys ty args).run P w=.ok r w∧V w (Qg c lo) c v r:=by
   rintro a n cap rfl rfl
   exact ⟨_,by simp [Builtin.len_,ht,ha,Qr hu,goInt],.int _ _⟩
  split at h
  ·cases h;cases hx;exact key _ _ _ rfl rfl
  ·cases h;cases hx;exact key _ _ _ rfl rfl
  ·cases h;cases hx;exact key _ _ _ rfl rfl
  ·cases h
 ·rename_i kt et hu
  split at h
  ·cases h;have:=hx.nilmap_inv;subst this
   exact ⟨_,by simp [Builtin.len_,ht,ha,Qr hu,goInt],.int _ _⟩
  ·cases h
   cases hx with
   | imap g ks vs r es clock hr hok hw hl hl' hkp hk hv =>
    obtain ⟨es0,hw,hp,_⟩:=hw
    have hsz:es.size=es0.size:=by simpa using hp.length_eq.symm
    have hs:w.shape? r=none:=by simp [World.shape?,hw]
    refine ⟨.int .i64 es.size,?_,by rw [hl];exact .int _ _⟩
    rw [hsz]
    simp [Builtin.len_,ht,ha,Qr hu,goInt,getObj,Sem.run,hw]
  ·rename_i b
   split at h
   ·rename_i ks vs mx hb
    cases h
    cases hx with
    | map b r ks' vs' mx' hH hs =>
     have hB:=hR.blk b _ hb
     obtain ⟨_,_,r',hs',_,es,clock,⟨es0,hw,hp,_⟩,hl,hl',_,_⟩:=hB
     have hsz:es.size=es0.size:=by simpa using hp.length_eq.symm
     rw [hs] at hs';cases hs'
     refine ⟨.int .i64 es.size,?_,by rw [hl];exact .int _ _⟩
     rw [hsz]
     simp [Builtin.len_,ht,ha,Qr hu,goInt,getObj,Sem.run,hw]
   ·cases h
  ·cases h
 ·cases h

theorem YY {mx:Bool} {l:List HV}:∀{x v:HV} {rx:Value} {rl:List Value},V w (Qg c lo) c x rx→l.length=rl.length →
  (∀(i:Nat) (y:HV) (r:Value),l[i]?=some y→rl[i]?=some r→V w (Qg c lo) c y r)→XN mx x l=some v →
  ∃r,(rl.foldlM (if mx then Builtin.max2 else Builtin.min2) rx:Sem Value).run P w=.ok r w∧V w (Qg c lo) c v r:=by
 induction l with
 | nil =>
  intro x v rx rl hx hl _ h
  simp only [XN,Option.some.injEq] at h
  subst h
  cases rl with
  | nil=>exact ⟨rx,rfl,hx⟩
  | cons _ _=>simp at hl
 | cons y l ih =>
  intro x v rx rl hx hl hh h
  cases rl with
  | nil=>simp at hl
  | cons ry rl =>
   unfold XN at h
   split at h
   ·rename_i heq;cases heq
   ·rename_i k a k' b l' heq
    cases heq
    split at h
    ·rename_i hk
     subst hk
     have hx':=hx.int_inv;subst hx'
     have hy':=(hh 0 _ ry rfl rfl).int_inv;subst hy'
     have hstep:∃q,((if mx then Builtin.max2 else Builtin.min2) (.int k a) (.int k b):Sem Value).run P w=.ok q w∧V w (Qg c lo) c (.int k (if mx then max a b else min a b)) q:=by
      cases mx
      ·refine ⟨.int k (if b<a then b else a),rfl,?_⟩
       have:(if false=true then max a b else min a b)=if b<a then b else a:=by simp;omega
       rw [this];exact .int _ _
      ·refine ⟨.int k (if b>a then b else a),rfl,?_⟩
       have:(if true=true then max a b else min a b)=if b>a then b else a:=by simp;omega
       rw [this];exact .int _ _
     obtain ⟨q,hq,hvq⟩:=hstep
     obtain ⟨r,hr,hvr⟩:=ih hvq (by simpa using hl) (fun i y r h1 h2=>hh (i+1) y r h1 h2) h
     refine ⟨r,?_,hvr⟩
     simp only [List.foldlM_cons,Sem.run_bind,hq,Result.andThen_ok]
     exact hr
    ·cases h
   ·cases h

end
end Go.HL


/- What stays when one block of the ghost's is made or changed. -/
namespace Go.HL

structure WChg (w w':World) (r0:Option Nat):Prop where
 os:w'.os=w.os
 tape:w'.tape=w.tape
 output:w'.output=w.output
 size:w.heap.size≤w'.heap.size
 keep:∀r:Nat,r<w.heap.size→some r≠r0→w'.heap[r]?=w.heap[r]?
 csize:∀(r:Nat) (cs:Array Value) (T:TypeId) (fz:Nat×Nat),w.heap[r]?=some (Obj.cells cs T fz)→∃cs' T' fz',w'.heap[r]?=some (Obj.cells cs' T' fz')∧cs'.size=cs.size

theorem WChg.refl (w:World) (r0:Option Nat):WChg w w r0:=⟨rfl,rfl,rfl,qF _,fun _ _ _=>rfl,fun _ cs T fz h=>⟨cs,T,fz,h,rfl⟩⟩

theorem Zv {w:World} {r:Nat} {o:Obj} (h:w.heap[r]?=some o):r<w.heap.size:=by
 rcases qC r w.heap.size with h' | h'
 ·exact h'
 ·rw [Array.getElem?_eq_none h'] at h;cases h

theorem Z2 (w:World) (o:Obj) {r:Nat} (h:r<w.heap.size):(w.alloc o).heap[r]?=w.heap[r]?:=by
 show (w.heap.push o)[r]?=_
 rw [Array.getElem?_push,if_neg (by omega)]

theorem QG (w:World) (o:Obj):(w.alloc o).heap[w.heap.size]?=some o:=by
 show (w.heap.push o)[w.heap.size]?=_
 rw [Array.getElem?_push,if_pos rfl]

theorem WChg.alloc (w:World) (o:Obj) (r0:Option Nat):WChg w (w.alloc o) r0 :=
 ⟨rfl,rfl,rfl,by simp,fun r hr _=>Z2 w o hr,fun r cs T fz h=>⟨cs,T,fz,(Z2 w o (Zv h)).trans h,rfl⟩⟩

theorem WChg.drew_alloc (w:World) (o:Obj) (r0:Option Nat):WChg w (w.drew.alloc o) r0 :=
 ⟨rfl,rfl,rfl,by simp,fun r hr _=>Z2 w.drew o hr,fun r cs T fz h=>⟨cs,T,fz,(Z2 w.drew o (Zv h)).trans h,rfl⟩⟩

theorem WChg.trans {w w' w'':World} {r0:Option Nat} (h:WChg w w' r0) (g:WChg w' w'' r0):WChg w w'' r0:=by
 refine ⟨g.os.trans h.os,g.tape.trans h.tape,g.output.trans h.output,qA h.size g.size,fun r hr hn=>(g.keep r (qB hr h.size) hn).trans (h.keep r hr hn),?_⟩
 intro r cs T fz hr
 obtain ⟨c1,T1,z1,h1,s1⟩:=h.csize r cs T fz hr
 obtain ⟨c2,T2,z2,h2,s2⟩:=g.csize r c1 T1 z1 h1
 exact ⟨c2,T2,z2,h2,s2.trans s1⟩

theorem KN (w:World) (g:Nat) (row:Array Value) {r:Nat} (h:r≠g):(w.setRow g row).heap[r]?=w.heap[r]?:=by
 simp only [World.setRow,Array.getElem?_modify]
 rw [if_neg (by omega)]

theorem WChg.setRow {w:World} {g:Nat} {cur row:Array Value} {T:TypeId} {fz:Nat×Nat} (h:w.heap[g]?=some (Obj.cells cur T fz)) (hs:row.size=cur.size):WChg w (w.setRow g row) (some g):=by
 have hg:=setRow_heap w g cur row T fz h
 refine ⟨rfl,rfl,rfl,by simp [World.setRow],fun r _ hn=>KN w g row (by rintro rfl;exact hn rfl),fun r cs T' fz' hr=>?_⟩
 by_cases hrg:r=g
 ·subst hrg
  rw [h] at hr;cases hr
  exact ⟨row,T,fz,hg,hs⟩
 ·exact ⟨cs,T',fz',by rw [KN w g row hrg];exact hr,rfl⟩

theorem BlkOk.evo {lo:Nat} {c c':Ctx} {w w':World} {b:Nat} {x:Blk} (h:Evo lo c w c' w') (hs:c'.σ b=c.σ b) (hh:∀r,c.σ b=some r→w'.heap[r]?=w.heap[r]?)
  (hx:BlkOk w c lo b x):BlkOk w' c' lo b x:=by
 cases x with
 | dead=>trivial
 | iter m s sn c0 =>
  obtain ⟨r,h2,h3,h4⟩:=hx
  exact ⟨r,hs.trans h2,h3,(hh r h2).trans h4⟩
 | arr k els wr mx =>
  obtain ⟨h1,h2⟩:=hx
  refine ⟨h1,?_⟩
  rw [hs]
  revert h2
  cases hb:c.σ b with
  | none=>exact id
  | some r =>
   rintro ⟨h3,cs,T,h4,h5,h6⟩
   refine ⟨h3,cs,T,(hh r hb).trans h4,h5,fun i v j y hv hy=>?_⟩
   obtain ⟨z,hz,hV⟩:=h6 i v j y hv hy
   exact ⟨z,hz,h.val hV⟩
 | map ks vs mx =>
  obtain ⟨h1,h1',r,h2,h3,es,clock,h4,h5,h6,h7,h8⟩:=hx
  exact ⟨h1,h1',r,hs.trans h2,h3,es,clock,h4.same (hh r h2),h5,h6,
   fun i v m hv hm=>(h7 i v m hv hm).evo h.W (.refl _),fun i v m hv hm=>h.val (h8 i v m hv hm)⟩

theorem Xd {lo:Nat} {c:Ctx} {w w':World} (hR:Rel lo c w) (g:WChg w w' none):Rel lo c w'∧Evo lo c w c w':=by
 have hE:Evo lo c w c w':=Evo.of g.os g.tape g.output g.size (fun r hr hm=>⟨hm,g.keep r hr (by simp)⟩) g.csize (.refl _)
 exact ⟨⟨fun b x hb=>(hR.blk b x hb).evo hE rfl (fun r hr=>g.keep r (hR.dom b r hr).2 (by simp)),hR.inj,fun b r h=>⟨(hR.dom b r h).1,qB (hR.dom b r h).2 g.size⟩,qA hR.low g.size⟩,hE⟩

def Ctx.push (c:Ctx) (x:Blk) (s:Option Nat):Ctx:=⟨c.H++[x],fun b=>if b=c.H.length then s else c.σ b⟩

theorem WR {c:Ctx} {x:Blk} {s:Option Nat} {b:Nat} (h:b<c.H.length):(c.push x s).H[b]?=c.H[b]?∧(c.push x s).σ b=c.σ b:=by
 constructor
 ·exact List.getElem?_append_left h
 ·simp [Ctx.push];omega

theorem push_new {c:Ctx} {x:Blk} {s:Option Nat}:(c.push x s).H[c.H.length]?=some x∧(c.push x s).σ c.H.length=s:=by
 constructor
 ·simp [Ctx.push]
 ·simp [Ctx.push]

theorem QE {c:Ctx} {b:Nat} {x:Blk} (h:c.H[b]?=some x):b<c.H.length:=by
 rcases qC b c.H.length with h' | h'
 ·exact h'
 ·rw [qN h'] at h;cases h

def Blk.wr:Blk→Bool
 | .arr _ _ wr _=>wr
 | .map _ _ _=>true
 | .iter _ _ _ _=>true
 | .dead=>false

theorem M_iff {c:Ctx} {r:Nat}:c.M r↔∃b x,c.H[b]?=some x∧x.wr=true∧c.σ b=some r:=by
 constructor
 ·rintro (⟨b,k,els,mx,h1,h2⟩ | ⟨b,ks,vs,mx,h1,h2⟩ | ⟨b,m,s,sn,c0,h1,h2⟩)
  ·exact ⟨b,_,h1,rfl,h2⟩
  ·exact ⟨b,_,h1,rfl,h2⟩
  ·exact ⟨b,_,h1,rfl,h2⟩
 ·rintro ⟨b,x,h1,h2,h3⟩
  cases x with
  | arr k els wr mx=>simp [Blk.wr] at h2;subst h2;exact .inl ⟨b,k,els,mx,h1,h3⟩
  | map ks vs mx=>exact .inr (.inl ⟨b,ks,vs,mx,h1,h3⟩)
  | iter m s sn c0=>exact .inr (.inr ⟨b,m,s,sn,c0,h1,h3⟩)
  | dead=>cases h2

theorem Qg7 {c:Ctx} {x:Blk} {s:Option Nat} {r:Nat} (h:(c.push x s).M r):c.M r∨s=some r:=by
 obtain ⟨b,y,h1,h2,h3⟩:=M_iff.1 h
 by_cases hb:b=c.H.length
 ·subst hb;rw [push_new.2] at h3;exact .inr h3
 ·have hlt:b<c.H.length:=by have:=QE h1;simp [Ctx.push] at this;omega
  rw [(WR hlt).1] at h1;rw [(WR hlt).2] at h3
  exact .inl (M_iff.2 ⟨b,y,h1,h2,h3⟩)

theorem Vh {lo:Nat} {c:Ctx} {w w':World} {x:Blk} {s:Option Nat} (hR:Rel lo c w) (g:WChg w w' none) (hs:∀r,s=some r→w.heap.size≤r∧r<w'.heap.size)
  (hx:Evo lo c w (c.push x s) w'→BlkOk w' (c.push x s) lo c.H.length x):Rel lo (c.push x s) w'∧Evo lo c w (c.push x s) w':=by
 have hE:Evo lo c w (c.push x s) w':=by
  refine Evo.of g.os g.tape g.output g.size (fun r hr hm=>⟨fun hm'=>?_,g.keep r hr (by simp)⟩) g.csize ⟨by simp [Ctx.push],?_,?_,?_,?_⟩
  ·rcases Qg7 hm' with h | h
   ·exact hm h
   ·have:=(hs r h).1;omega
  ·intro b k els wr mx hb
   have hlt:=QE hb
   exact .inl ⟨k,els,wr,mx,(WR hlt).1.trans hb,qF _,fun _=>⟨rfl,(WR hlt).2⟩⟩
  ·intro b ks vs mx hb
   have hlt:=QE hb
   exact ⟨⟨ks,vs,mx,(WR hlt).1.trans hb⟩,(WR hlt).2⟩
  ·intro b hb
   exact (WR (QE hb)).1.trans hb
  ·intro b m s0 sn c0 hb
   have hlt:=QE hb
   exact ⟨⟨m,s0,sn,c0,(WR hlt).1.trans hb⟩,(WR hlt).2⟩
 refine ⟨⟨?_,?_,?_,qA hR.low g.size⟩,hE⟩
 ·intro b y hb
  by_cases hbl:b=c.H.length
  ·subst hbl
   rw [push_new.1] at hb;cases hb
   exact hx hE
  ·have hlt:b<c.H.length:=by have:=QE hb;simp [Ctx.push] at this;omega
   rw [(WR hlt).1] at hb
   exact (hR.blk b y hb).evo hE (WR hlt).2 (fun r hr=>g.keep r (hR.dom b r hr).2 (by simp))
 ·intro b b' r h1 h2
  by_cases hb:b=c.H.length <;> by_cases hb':b'=c.H.length
  ·omega
  ·subst hb;rw [push_new.2] at h1
   simp only [Ctx.push,if_neg hb'] at h2
   have:=(hs r h1).1;have:=(hR.dom b' r h2).2;omega
  ·subst hb';rw [push_new.2] at h2
   simp only [Ctx.push,if_neg hb] at h1
   have:=(hs r h2).1;have:=(hR.dom b r h1).2;omega
  ·simp only [Ctx.push,if_neg hb,if_neg hb'] at h1 h2
   exact hR.inj b b' r h1 h2
 ·intro b r h1
  by_cases hb:b=c.H.length
  ·subst hb;rw [push_new.2] at h1
   exact ⟨by simp [Ctx.push],(hs r h1).2⟩
  ·simp only [Ctx.push,if_neg hb] at h1
   have:=hR.dom b r h1
   exact ⟨by simp [Ctx.push];omega,qB this.2 g.size⟩

def Ctx.upd (c:Ctx) (b:Nat) (x:Blk) (s:Option Nat):Ctx:=⟨c.H.set b x,fun q=>if q=b then s else c.σ q⟩

theorem WY {c:Ctx} {x:Blk} {s:Option Nat} {b q:Nat} (h:q≠b):(c.upd b x s).H[q]?=c.H[q]?∧(c.upd b x s).σ q=c.σ q:=by
 constructor
 ·simp only [Ctx.upd];rw [List.getElem?_set_ne (by omega)]
 ·simp [Ctx.upd,h]

theorem Qy {c:Ctx} {x:Blk} {s:Option Nat} {b:Nat} (h:b<c.H.length):(c.upd b x s).H[b]?=some x∧(c.upd b x s).σ b=s:=by
 constructor
 ·simp only [Ctx.upd];rw [List.getElem?_set_self h]
 ·simp [Ctx.upd]

def QoC (x x':Blk) (same:Prop):Prop :=
 match x,x' with
 | .arr k els _ _,.arr k' els' _ _=>els.length≤els'.length∧(els'.length=els.length→k'=k∧same)
 | .map _ _ _,.map _ _ _=>same
 | .iter _ _ _ _,.iter _ _ _ _=>same
 | _,_=>False

theorem KO {lo:Nat} {c:Ctx} {w w':World} {b:Nat} {x x':Blk} {s r0:Option Nat} (hR:Rel lo c w) (hb:c.H[b]?=some x) (g:WChg w w' r0)
  (hr0:∀r,r0=some r→c.σ b=some r∧x.wr=true) (hwr:x'.wr=true→x.wr=true)
  (hs:s=c.σ b∨∀r,s=some r→w.heap.size≤r∧r<w'.heap.size) (ht:QoC x x' (s=c.σ b))
  (hx:Evo lo c w (c.upd b x' s) w'→BlkOk w' (c.upd b x' s) lo b x'):Rel lo (c.upd b x' s) w'∧Evo lo c w (c.upd b x' s) w':=by
 have hbl:=QE hb
 have hMr0:∀r,r0=some r→c.M r:=fun r hr=>M_iff.2 ⟨b,x,hb,(hr0 r hr).2,(hr0 r hr).1⟩
 have hE:Evo lo c w (c.upd b x' s) w':=by
  refine Evo.of g.os g.tape g.output g.size (fun r hr hm=>⟨fun hm'=>hm ?_,g.keep r hr (fun e=>hm (hMr0 r e.symm))⟩) g.csize ⟨by simp [Ctx.upd],?_,?_,?_,?_⟩
  ·obtain ⟨q,y,h1,h2,h3⟩:=M_iff.1 hm'
   by_cases hq:q=b
   ·subst hq
    rw [(Qy hbl).1] at h1;cases h1
    rw [(Qy hbl).2] at h3
    rcases hs with e | e
    ·exact M_iff.2 ⟨q,x,hb,hwr h2,by rw [← e];exact h3⟩
    ·have:=(e r h3).1;omega
   ·rw [(WY hq).1] at h1;rw [(WY hq).2] at h3
    exact M_iff.2 ⟨q,y,h1,h2,h3⟩
  ·intro q k els wr mx hq
   by_cases hqb:q=b
   ·subst hqb
    rw [hb] at hq;cases hq
    refine .inl ?_
    rw [(Qy hbl).1,(Qy hbl).2]
    cases x' with
    | arr k' els' wr' mx'=>exact ⟨k',els',wr',mx',rfl,ht.1,ht.2⟩
    | map _ _ _=>exact ht.elim
    | dead=>exact ht.elim
    | iter _ _ _ _=>exact ht.elim
   ·exact .inl ⟨k,els,wr,mx,(WY hqb).1.trans hq,qF _,fun _=>⟨rfl,(WY hqb).2⟩⟩
  ·intro q ks vs mx hq
   by_cases hqb:q=b
   ·subst hqb
    rw [hb] at hq;cases hq
    rw [(Qy hbl).1,(Qy hbl).2]
    cases x' with
    | arr _ _ _ _=>exact ht.elim
    | map ks' vs' mx'=>exact ⟨⟨ks',vs',mx',rfl⟩,ht⟩
    | dead=>exact ht.elim
    | iter _ _ _ _=>exact ht.elim
   ·exact ⟨⟨ks,vs,mx,(WY hqb).1.trans hq⟩,(WY hqb).2⟩
  ·intro q hq
   by_cases hqb:q=b
   ·subst hqb
    rw [hb] at hq;cases hq
    cases x' <;> exact ht.elim
   ·exact (WY hqb).1.trans hq
  ·intro q m s0 sn c0 hq
   by_cases hqb:q=b
   ·subst hqb
    rw [hb] at hq;cases hq
    rw [(Qy hbl).1,(Qy hbl).2]
    cases x' with
    | iter m' s' sn' c0'=>exact ⟨⟨m',s',sn',c0',rfl⟩,ht⟩
    | _=>exact ht.elim
   ·exact ⟨⟨m,s0,sn,c0,(WY hqb).1.trans hq⟩,(WY hqb).2⟩
 refine ⟨⟨?_,?_,?_,qA hR.low g.size⟩,hE⟩
 ·intro q y hq
  by_cases hqb:q=b
  ·subst hqb
   rw [(Qy hbl).1] at hq;cases hq
   exact hx hE
  ·rw [(WY hqb).1] at hq
   refine (hR.blk q y hq).evo hE (WY hqb).2 (fun r hr=>g.keep r (hR.dom q r hr).2 (fun e=>?_))
   exact hqb (hR.inj q b r hr (hr0 r e.symm).1)
 ·intro q q' r h1 h2
  have fresh:∀p,p≠b→c.σ p=some r→s=some r→p=b:=by
   intro p hp hpr hsr
   rcases hs with e | e
   ·exact hR.inj p b r hpr (by rw [← e];exact hsr)
   ·have:=(e r hsr).1;have:=(hR.dom p r hpr).2;omega
  by_cases hq:q=b <;> by_cases hq':q'=b
  ·omega
  ·subst hq;rw [(Qy hbl).2] at h1;rw [(WY hq').2] at h2
   exact (fresh q' hq' h2 h1).symm
  ·subst hq';rw [(Qy hbl).2] at h2;rw [(WY hq).2] at h1
   exact fresh q hq h1 h2
  ·rw [(WY hq).2] at h1;rw [(WY hq').2] at h2
   exact hR.inj q q' r h1 h2
 ·intro q r h1
  simp only [Ctx.upd,List.length_set]
  by_cases hq:q=b
  ·subst hq;rw [(Qy hbl).2] at h1
   rcases hs with e | e
   ·have:=hR.dom q r (by rw [← e];exact h1)
    exact ⟨this.1,qB this.2 g.size⟩
   ·exact ⟨hbl,(e r h1).2⟩
  ·rw [(WY hq).2] at h1
   have:=hR.dom q r h1
   exact ⟨this.1,qB this.2 g.size⟩

end Go.HL


