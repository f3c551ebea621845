/- The ghost: a run of the model's code that needs no tape, and what holds a value of its in the model's world. -/
import Derived.Calls
import Derived.Orders
import Derived.LoopN
import Derived.Laws.Append
import Derived.Laws.AppendOwn
import Derived.Laws.CopyRow
set_option linter.unusedVariables false
set_option linter.unusedSimpArgs false
set_option linter.unnecessarySimpa false
/- A deterministic reading of the model's own code, free of the tape: values, blocks, operations, code, calls. Definitions alone. -/
namespace Go.HL

inductive G where
  | arg | own | lit
  deriving DecidableEq


inductive HV where
  | undef
  | nilS (k : Nat)
  | empS (k : Nat)
  | int (k : IntKind) (n : Int)
  | bool (b : Bool)
  | str (s : ByteArray)
  | agg (cs : List HV)
  | tuple (vs : List HV)
  | imm (g : G) (k : Nat) (l : List HV)
  | own (k : Nat) (l : List HV)
  | sl (b off len : Nat) (cap : Option Nat) (tot k : Nat)
  | aview (b i off len : Nat)
  | ptr (b i off tot : Nat)
  | vptr (v : HV)
  | map (b : Nat)
  | nilmap
  | imap (g : G) (ks vs : List HV)
  | omap (ks vs : List HV)
  | func (f : FuncId) (first captured : List HV)
  | nilFunc

inductive Blk where
  | arr (k : Nat) (els : List HV) (wr : Bool) (mx : Nat)
  | map (ks vs : List HV) (mx : Nat)
  | iter (m since : Nat) (seen : List Nat) (c0 : Nat)
  | dead

abbrev Heap := List Blk
abbrev Env := List (Nat × HV)

def Env.get : Env → Nat → HV
  | [], _ => .undef
  | (t, v) :: e, s => if t = s then v else Env.get e s

def Env.put (e : Env) : Option Nat → HV → Env
  | some d, v => (d, v) :: e
  | none, _ => e

def restr (keys : List Nat) (e : Env) : Env := keys.map fun t => (t, e.get t)

def mapO {α β : Type} (f : α → Option β) : List α → Option (List β)
  | [] => some []
  | x :: l =>
    match f x with
    | none => none
    | some y =>
      match mapO f l with
      | none => none
      | some ys => some (y :: ys)

def cellV : HV → Bool
  | .undef | .agg _ | .tuple _ | .own _ _ | .omap _ _ => false
  | _ => true

def ofCell : Value → HV
  | .bool b => .bool b
  | .int k n => .int k n
  | .string s => .str s
  | .slice none 0 0 => .imm .lit 0 []
  | .map none => .nilmap
  | .nilFunc => .nilFunc
  | _ => .undef

def ofConst : Value → HV
  | .agg cs => if (cs.toList.map ofCell).all cellV then .agg (cs.toList.map ofCell) else .undef
  | v => ofCell v

def opVal (e : Env) : Operand → HV
  | .tmp t => e.get t
  | .const v => ofConst v
  | .func f => .func f [] []
  | .global _ => .undef

def cellsOf : HV → List HV
  | .agg cs => cs
  | v => [v]

def isAggV : HV → Bool
  | .agg _ => true
  | _ => false

-- one more than the greatest number of a block that is named outside read-only parts
mutual
  def bnd : HV → Nat
    | .sl b _ _ _ _ _ => b + 1
    | .aview b _ _ _ => b + 1
    | .ptr b _ _ _ => b + 1
    | .map b => b + 1
    | .agg cs => bndL cs
    | .tuple vs => bndL vs
    | .func _ a c => max (bndL a) (bndL c)
    | _ => 0
  termination_by structural v => v
  def bndL : List HV → Nat
    | [] => 0
    | v :: l => max (bnd v) (bndL l)
  termination_by structural l => l
end

def bndE : Env → Nat
  | [] => 0
  | (_, v) :: e => max (bnd v) (bndE e)

def Blk.mx : Blk → Nat
  | .arr _ _ _ m => m
  | .map _ _ m => m
  | .iter _ _ _ _ => 0
  | .dead => 0

def mxs : Heap → Nat
  | [] => 0
  | b :: H => max b.mx (mxs H)

def gc (base r : Nat) (H : Heap) : Heap := H.take (max base (max r (mxs H)))

-- a read-only value becomes an argument: all that it shows is the caller's
mutual
  def argP : HV → Option HV
    | .int k n => some (.int k n)
    | .bool b => some (.bool b)
    | .str s => some (.str s)
    | .undef => some .undef
    | .nilmap => some .nilmap
    | .nilFunc => some .nilFunc
    | .agg cs => match argPL cs with | some l => some (.agg l) | none => none
    | .tuple vs => match argPL vs with | some l => some (.tuple l) | none => none
    | .imm _ k l => match argPL l with | some l => some (.imm .arg k l) | none => none
    | .vptr v => match argP v with | some v => some (.vptr v) | none => none
    | .imap _ ks vs => match argPL ks, argPL vs with | some ks, some vs => some (.imap .arg ks vs) | _, _ => none
    | .func f a c => match argPL a, argPL c with | some a, some c => some (.func f a c) | _, _ => none
    | _ => none
  termination_by structural v => v
  def argPL : List HV → Option (List HV)
    | [] => some []
    | v :: l => match argP v, argPL l with | some v, some l => some (v :: l) | _, _ => none
  termination_by structural l => l
end

-- a read-only value that shows nothing of the caller's
mutual
  def resP : HV → Bool
    | .int _ _ | .bool _ | .str _ | .undef | .nilmap | .nilFunc => true
    | .agg cs => resPL cs
    | .tuple vs => resPL vs
    | .imm g _ l => (match g with | .arg => false | _ => true) && resPL l
    | .imap g ks vs => (match g with | .arg => false | _ => true) && resPL ks && resPL vs
    | .func _ a c => resPL a && resPL c
    | _ => false
  termination_by structural v => v
  def resPL : List HV → Bool
    | [] => true
    | v :: l => resP v && resPL l
  termination_by structural l => l
end

def view (H : Heap) (b off len tot k : Nat) : Option (List HV) :=
  match H[b]? with
  | some (.arr k' els _ _) => if tot = els.length ∧ off + len ≤ els.length ∧ k' = k then some ((els.drop off).take len) else none
  | _ => none

def toArg (H : Heap) : Nat → HV → Option HV
  | 0, v => argP v
  | d + 1, v =>
    match v with
    | .sl b off len _ tot k =>
      if len = 0 then some (.imm .arg k []) else
      match view H b off len tot k with
      | some l => match mapO (toArg H d) l with | some l => some (.imm .arg k l) | none => none
      | none => none
    | .aview b i off len =>
      match H[b]? with
      | some (.arr _ els _ _) =>
        match els[i]? with
        | some (.agg cs) => if els.length = 1 ∧ off + len ≤ cs.length then (match mapO (toArg H d) ((cs.drop off).take len) with | some l => some (.imm .arg 1 l) | none => none) else none
        | _ => none
      | _ => none
    | .map b =>
      match H[b]? with
      | some (.map ks vs _) => match mapO (toArg H d) ks, mapO (toArg H d) vs with | some ks, some vs => some (.imap .arg ks vs) | _, _ => none
      | _ => none
    | .agg cs => match mapO (toArg H d) cs with | some l => some (.agg l) | none => none
    | .func f a c => match mapO (toArg H d) a, mapO (toArg H d) c with | some a, some c => some (.func f a c) | _, _ => none
    | v => argP v

def frz (H : Heap) (no : List Nat) : Nat → HV → Option HV
  | 0, v => if resP v then some v else none
  | d + 1, v =>
    match v with
    | .sl b off len _ tot k =>
      if len = 0 then some (.imm .own k []) else
      if no.contains b then none else
      match view H b off len tot k with
      | some l => match mapO (frz H no d) l with | some l => some (.imm .own k l) | none => none
      | none => none
    | .map b =>
      if no.contains b then none else
      match H[b]? with
      | some (.map ks vs _) => match mapO (frz H no d) ks, mapO (frz H no d) vs with | some ks, some vs => some (.imap .own ks vs) | _, _ => none
      | _ => none
    | .agg cs => match mapO (frz H no d) cs with | some l => some (.agg l) | none => none
    | v => if resP v then some v else none

def owned1 (H : Heap) : HV → List Nat
  | .sl b _ _ _ _ _ => match H[b]? with | some (.arr _ _ true _) => [b] | _ => []
  | .map b => match H[b]? with | some (.map _ _ _) => [b] | _ => []
  | _ => []

def owned (H : Heap) (deep : Bool) : HV → List Nat
  | .sl b off len _ tot k =>
    match H[b]? with
    | some (.arr _ _ true _) => b :: (if deep then (match view H b off len tot k with | some l => l.flatMap (owned1 H) | none => []) else [])
    | _ => []
  | .map b => match H[b]? with | some (.map _ _ _) => [b] | _ => []
  | _ => []

def ownedAll (H : Heap) (deep : Bool) : HV → List Nat
  | .tuple vs => vs.flatMap fun v => (cellsOf v).flatMap (owned H deep)
  | v => (cellsOf v).flatMap (owned H deep)

def resElem (H : Heap) (no : List Nat) (deep : Bool) (v : HV) : Option HV :=
  if deep then
    match v with
    | .sl b off len _ tot k =>
      match H[b]? with
      | some (.arr _ _ true _) =>
        if off = 0 then
          match view H b 0 len tot k with
          | some l => if resPL l then some (.own k l) else none
          | none => none
        else none
      | _ => frz H no 4 v
    | v => frz H no 4 v
  else frz H no 4 v

def resCell (H : Heap) (no : List Nat) (deep : Bool) (v : HV) : Option HV :=
  match v with
  | .sl b off len _ tot k =>
    match H[b]? with
    | some (.arr _ _ true _) =>
      if off = 0 then
        match view H b 0 len tot k with
        | some l => match mapO (resElem H no deep) l with | some l => some (.own k l) | none => none
        | none => none
      else none
    | _ => frz H no 4 v
  | .imm .lit k [] => some (.own k [])
  | .map b =>
    match H[b]? with
    | some (.map ks vs _) => match mapO (frz H no 4) ks, mapO (frz H no 4) vs with | some ks, some vs => some (.omap ks vs) | _, _ => none
    | _ => none
  | v => frz H no 4 v

def resVal (H : Heap) (no : List Nat) (deep : Bool) : HV → Option HV
  | .agg cs => match mapO (resCell H no deep) cs with | some l => some (.agg l) | none => none
  | v => resCell H no deep v

def toRes (H : Heap) (deep : Bool) (v : HV) : Option HV :=
  let no := ownedAll H deep v
  if no.Nodup then
    match v with
    | .tuple vs => match mapO (resVal H no deep) vs with | some l => some (.tuple l) | none => none
    | v => resVal H no deep v
  else none

def isOwn : HV → Bool
  | .own _ _ => true
  | _ => false

def recvRows : List HV → Nat → List HV × Heap
  | [], _ => ([], [])
  | .own k l :: r, n => (.sl n 0 l.length none l.length k :: (recvRows r (n + 1)).1, .arr k l true 0 :: (recvRows r (n + 1)).2)
  | v :: r, n => (v :: (recvRows r (n + 1)).1, .dead :: (recvRows r (n + 1)).2)

def recvCell (v : HV) (H : Heap) : HV × Heap :=
  match v with
  | .own k l =>
    if l.any isOwn then
      (.sl H.length 0 l.length none l.length k, H ++ [.arr k (recvRows l (H.length + 1)).1 true (H.length + 1 + l.length)] ++ (recvRows l (H.length + 1)).2)
    else (.sl H.length 0 l.length none l.length k, H ++ [.arr k l true 0])
  | .omap ks vs => (.map H.length, H ++ [.map ks vs 0])
  | v => (v, H)

def recvCells : List HV → Heap → List HV × Heap
  | [], H => ([], H)
  | v :: l, H => let (w, H1) := recvCell v H; let (l', H2) := recvCells l H1; (w :: l', H2)

def recvVal (v : HV) (H : Heap) : HV × Heap :=
  match v with
  | .agg cs => let (l, H') := recvCells cs H; (.agg l, H')
  | v => recvCell v H

def recvVals : List HV → Heap → List HV × Heap
  | [], H => ([], H)
  | v :: l, H => let (w, H1) := recvVal v H; let (l', H2) := recvVals l H1; (w :: l', H2)

def recv (v : HV) (H : Heap) : HV × Heap :=
  match v with
  | .tuple vs => let (l, H') := recvVals vs H; (.tuple l, H')
  | v => recvVal v H

structure Pol where
  shared : FuncId → Bool
  freeze : FuncId → Nat → Bool
  freezeS : FuncId → Nat → Bool
  blk : FuncId → Nat → Bool
  nilf : FuncId → Bool
  deep : FuncId → Bool
  prim : FuncId → Option (List HV → Option HV)
  rows : FuncId → Nat → Bool
  keys : FuncId → List Nat
  quiet : FuncId → Nat → List Nat
  dead : FuncId → Nat → List Nat := fun _ _ => []
  heapP : FuncId → Option (List HV → Heap → Option (HV × Heap)) := fun _ => none

def tyAgg (P : Program) (t : TypeId) : Bool :=
  match P.underlying t with
  | some (.struct _) | some (.array _ _) => true
  | _ => false

def tySize (P : Program) (t : TypeId) : Option Nat := (P.info? t).map (·.size)

def tyZero (P : Program) (t : TypeId) : Option HV := ((P.info? t).bind (·.zero)).map ofConst

def partV (P : Program) (t : TypeId) (cs : List HV) (off : Nat) : Option HV :=
  if tyAgg P t then
    match tySize P t with
    | some n => if off + n ≤ cs.length then some (.agg ((cs.drop off).take n)) else none
    | none => none
  else if (P.underlying t).isSome then cs[off]? else none

def splice (l : List HV) (off : Nat) (c : List HV) : List HV := l.take off ++ c ++ l.drop (off + c.length)

def fillV (place : Nat → Option (Nat × Nat)) (cells : List HV) : List (Nat × HV) → Option (List HV)
  | [] => some cells
  | (i, v) :: rest =>
    match place i with
    | none => none
    | some (off, size) =>
      if (cellsOf v).length = size ∧ off + (cellsOf v).length ≤ cells.length ∧ (cellsOf v).all cellV then fillV place (splice cells off (cellsOf v)) rest else none

def intBin (op : BinOp) (k : IntKind) (a b : Int) : Option HV :=
  match op with
  | .add => some (.int k (k.wrap (a + b)))
  | .sub => some (.int k (k.wrap (a - b)))
  | .mul => some (.int k (k.wrap (a * b)))
  | .quo => if b = 0 then none else some (.int k (k.wrap (a.tdiv b)))
  | .rem => if b = 0 then none else some (.int k (a.tmod b))
  | .and => some (.int k (k.wrap (BitVec.ofInt k.bits a &&& BitVec.ofInt k.bits b).toNat))
  | .or => some (.int k (k.wrap (BitVec.ofInt k.bits a ||| BitVec.ofInt k.bits b).toNat))
  | .xor => some (.int k (k.wrap (BitVec.ofInt k.bits a ^^^ BitVec.ofInt k.bits b).toNat))
  | .andNot => some (.int k (k.wrap (BitVec.ofInt k.bits a &&& ~~~(BitVec.ofInt k.bits b)).toNat))
  | .eql => some (.bool (decide (a = b)))
  | .neq => some (.bool (!decide (a = b)))
  | .lss => some (.bool (decide (a < b)))
  | .leq => some (.bool (decide (a ≤ b)))
  | .gtr => some (.bool (decide (b < a)))
  | .geq => some (.bool (decide (b ≤ a)))
  | .shl => if b < 0 then none else some (.int k (k.wrap (a * 2 ^ min b.toNat k.bits)))
  | .shr => if b < 0 then none else some (.int k (a.fdiv (2 ^ min b.toNat k.bits)))

def scEq : HV → HV → Option Bool
  | .int k a, .int k' b => if k = k' then some (decide (a = b)) else none
  | .bool a, .bool b => some (a == b)
  | _, _ => none

def aggEq : List HV → List HV → Option Bool
  | [], [] => some true
  | a :: as, b :: bs =>
    match scEq a b, aggEq as bs with
    | some x, some y => some (x && y)
    | _, _ => none
  | _, _ => none

def keyEq : HV → HV → Option Bool
  | .agg as, .agg bs => aggEq as bs
  | a, b => scEq a b

def offs (P : Program) (acc : Option Nat) (f : Field) : Option Nat :=
  match acc, tySize P f.type with
  | some a, some s => if f.offset == a then some (a + s) else none
  | _, _ => none

def plainTy (P : Program) (num : Bool) : Nat → TypeId → Bool
  | 0, _ => false
  | d + 1, t =>
    match P.underlying t with
    | some .bool => !num && tySize P t == some 1
    | some (.int _) => num && tySize P t == some 1
    | some (.array n e) => plainTy P num d e && (match tySize P e with | some s => tySize P t == some (n * s) | none => false)
    | some (.struct fs) =>
      !P.stoodInHeld t && (fs.toList.all fun f => f.name != "_" && plainTy P num d f.type) &&
        fs.toList.foldl (offs P) (some 0) == tySize P t
    | _ => false

def isIntV : HV → Bool
  | .int _ _ => true
  | _ => false

def isBoolV : HV → Bool
  | .bool _ => true
  | _ => false

def plainCells (P : Program) (t : TypeId) (cs : List HV) : Bool :=
  tySize P t == some cs.length && (plainTy P true 20 t && cs.all isIntV || plainTy P false 20 t && cs.all isBoolV)

def binV (P : Program) (op : BinOp) (t : TypeId) (x y : HV) : Option HV :=
  match x, y with
  | .int k a, .int k' b =>
    match op with
    | .shl | .shr => intBin op k a b
    | _ => if k = k' then intBin op k a b else none
  | .bool a, .bool b =>
    match op, P.underlying t with
    | .eql, some .bool => some (.bool (a == b))
    | .neq, some .bool => some (.bool (!(a == b)))
    | _, _ => none
  | .agg as, .agg bs =>
    if plainCells P t as && !P.eqGuardType P.depth t && tyAgg P t then
      match op, aggEq as bs with
      | .eql, some r => some (.bool r)
      | .neq, some r => some (.bool !r)
      | _, _ => none
    else none
  | _, _ => none

def knownNil : HV → Option Bool
  | .nilS _ => some true
  | .empS _ => some false
  | .imm _ _ (_ :: _) => some false
  | .sl _ _ (_ + 1) _ _ _ => some false
  | _ => none

def nilOp (r : Bool) : BinOp → Option HV
  | .eql => some (.bool r)
  | .neq => some (.bool !r)
  | _ => none

def nilTest (P : Program) (op : BinOp) (t : TypeId) (x : HV) : Option HV :=
  match P.underlying t with
  | some (.slice _) => match knownNil x with | some r => nilOp r op | none => none
  | _ => none

def unV (op : UnOp) (x : HV) : Option HV :=
  match op, x with
  | .not, .bool b => some (.bool !b)
  | .neg, .int k n => some (.int k (k.wrap (0 - n)))
  | _, _ => none

def findK (k : HV) : List HV → Nat → Option (Option Nat)
  | [], _ => some none
  | x :: l, i =>
    match keyEq k x with
    | some true => some (some i)
    | some false => findK k l (i + 1)
    | none => none

def keyTy (P : Program) (t : TypeId) (k : HV) : Bool := plainCells P t (cellsOf k) && (tyAgg P t == isAggV k)

def lookV (P : Program) (T : TypeId) (ks vs : List HV) (k : HV) (ok : Bool) : Option HV :=
  match P.underlying T with
  | some (.map kt et) =>
    if keyTy P kt k then
      match findK k ks 0 with
      | some (some i) => match vs[i]? with | some v => some (if ok then .tuple [v, .bool true] else v) | none => none
      | some none =>
        match tyZero P et with
        | some z => if (cellsOf z).all cellV then some (if ok then .tuple [z, .bool false] else z) else none
        | none => none
      | none => none
    else none
  | _ => none

def srcOf (H : Heap) : HV → Option (List HV × Nat)
  | .nilS k => some ([], k)
  | .empS k => some ([], k)
  | .imm _ k l => some (l, k)
  | .sl b off len _ tot k => if len = 0 then some ([], k) else (view H b off len tot k).map fun l => (l, k)
  | .aview b i off len =>
    match H[b]? with
    | some (.arr _ els _ _) =>
      match els[i]? with
      | some (.agg cs) => if els.length = 1 ∧ off + len ≤ cs.length then some ((cs.drop off).take len, 1) else none
      | _ => none
    | _ => none
  | _ => none

def roomMax : Nat := 2 ^ 46

def appV (H : Heap) (k bytes : Nat) (s : HV) (xs : List HV) : Option (HV × Heap) :=
  match s with
  | .imm g k' l =>
    if xs = [] then some (s, H) else
    match g with
    | .lit => if (k' = k ∨ l = []) ∧ (l.length + xs.length) * (bytes + 1) ≤ roomMax then
        some (.sl H.length 0 (l.length + xs.length) none (l.length + xs.length) k, H ++ [.arr k (l ++ xs) true (bndL xs)]) else none
    | _ => none
  | .sl b off len cap tot k' =>
    if xs = [] then some (s, H) else
    match H[b]? with
    | some (.arr k'' els wr mx) =>
      if tot = els.length ∧ k'' = k ∧ k' = k ∧ (len + xs.length) * (bytes + 1) ≤ roomMax then
        match cap with
        | some c =>
          if len + xs.length ≤ c then
            if wr ∧ off + (len + xs.length) ≤ els.length then
              some (.sl b off (len + xs.length) (some c) tot k, H.set b (.arr k (splice els (off + len) xs) wr (max mx (bndL xs)))) else none
          else if off + len ≤ els.length then
            some (.sl H.length 0 (len + xs.length) none (len + xs.length) k, H ++ [.arr k ((els.drop off).take len ++ xs) true (max mx (bndL xs))]) else none
        | none =>
          if wr ∧ off = 0 ∧ len = els.length then
            some (.sl b 0 (len + xs.length) none (len + xs.length) k, H.set b (.arr k (els ++ xs) true (max mx (bndL xs)))) else none
      else none
    | _ => none
  | _ => none

def seal1 (H : Heap) (v : HV) : Option (HV × Heap) :=
  match v with
  | .sl b off len _ tot k =>
    if len = 0 then some (.imm .own k [], H) else
    match H[b]? with
    | some (.arr k' els _ mx) =>
      if tot = els.length ∧ off + len ≤ els.length ∧ k' = k ∧ resPL ((els.drop off).take len) then
        some (.imm .own k ((els.drop off).take len), H.set b (.arr k els false mx)) else none
    | _ => none
  | v => some (v, H)

def seals : List HV → Heap → Option (List HV × Heap)
  | [], H => some ([], H)
  | v :: l, H =>
    match seal1 H v with
    | none => none
    | some (w, H1) => match seals l H1 with | none => none | some (l', H2) => some (w :: l', H2)

def loadV (P : Program) (H : Heap) (t : TypeId) (a : HV) : Option HV :=
  match a with
  | .vptr (.agg cs) => if tyAgg P t ∧ tySize P t = some cs.length then some (.agg cs) else none
  | .vptr v => if tyAgg P t = false ∧ (P.underlying t).isSome then some v else none
  | .ptr b i off tot =>
    match H[b]? with
    | some (.arr _ els _ _) =>
      if tot = els.length then
        match els[i]? with
        | some v => partV P t (cellsOf v) off
        | none => none
      else none
    | _ => none
  | _ => none

def storeV (P : Program) (H : Heap) (t : TypeId) (a v : HV) : Option Heap :=
  match a with
  | .ptr b i off tot =>
    match H[b]? with
    | some (.arr k els true mx) =>
      if tot = els.length ∧ tySize P t = some (cellsOf v).length then
        match els[i]? with
        | some old =>
          if off + (cellsOf v).length ≤ (cellsOf old).length ∧ (cellsOf v).all cellV ∧ (cellsOf v).length ≠ 0 then
            let c := splice (cellsOf old) off (cellsOf v)
            let new := match old with | .agg _ => .agg c | _ => v
            some (H.set b (.arr k (els.set i new) true (max mx (bnd v))))
          else none
        | none => none
      else none
    | _ => none
  | _ => none

def idxV (P : Program) (t : TypeId) (x i : HV) : Option HV :=
  match i with
  | .int _ n =>
    match P.underlying t with
    | some (.slice e) =>
      match x with
      | .imm _ k l =>
        if 0 ≤ n ∧ n < l.length ∧ tySize P e = some k then
          match l[n.toNat]? with | some v => some (.vptr v) | none => none
        else none
      | .sl b off len _ tot k => if 0 ≤ n ∧ n < len ∧ tySize P e = some k then some (.ptr b (off + n.toNat) 0 tot) else none
      | _ => none
    | some (.array m e) =>
      if 0 ≤ n ∧ n < m then
        match x, tySize P e with
        | .vptr (.agg cs), some s => (partV P e cs (n.toNat * s)).map .vptr
        | .ptr b j off tot, some s => some (.ptr b j (off + n.toNat * s) tot)
        | _, _ => none
      else none
    | _ => none
  | _ => none

def fldAddrV (P : Program) (s : TypeId) (x : HV) (f : Nat) : Option HV :=
  match P.underlying s with
  | some (.struct fs) =>
    match fs[f]? with
    | some fd =>
      if tySize P fd.type = some 0 ∨ tySize P fd.type = none then none else
      match x with
      | .vptr (.agg cs) => (partV P fd.type cs fd.offset).map .vptr
      | .ptr b j off tot => some (.ptr b j (off + fd.offset) tot)
      | _ => none
    | none => none
  | _ => none

def fldV (P : Program) (t : TypeId) (x : HV) (f : Nat) : Option HV :=
  match P.underlying t, x with
  | some (.struct fs), .agg cs => match fs[f]? with | some fd => partV P fd.type cs fd.offset | none => none
  | _, _ => none

def elemV (P : Program) (t : TypeId) (x i : HV) : Option HV :=
  match P.underlying t, x, i with
  | some (.array m e), .agg cs, .int _ n =>
    if 0 ≤ n ∧ n < m then match tySize P e with | some s => partV P e cs (n.toNat * s) | none => none else none
  | some .string, .str s, .int _ n => if 0 ≤ n then (s[n.toNat]?).map fun b => .int .u8 b.toNat else none
  | _, _, _ => none

def boundV : Option HV → Option (Option Nat)
  | none => some none
  | some (.int _ n) => if 0 ≤ n then some (some n.toNat) else none
  | _ => none

def sliceV (P : Program) (t : TypeId) (x : HV) (lo hi mx : Option HV) : Option HV :=
  match boundV lo, boundV hi, boundV mx with
  | some l, some h, some m =>
    let l := l.getD 0
    match P.underlying t with
    | some (.slice e) =>
      match x with
      | .imm g k es =>
        if tySize P e = some k ∨ es = [] ∧ (tySize P e).isSome then
          let h := h.getD es.length
          match m with
          | some m =>
            if l = h ∧ m = h ∧ h ≤ es.length then some (.imm .lit k []) else
            if l ≤ h ∧ m = h ∧ h ≤ es.length then
              some (.imm (match g with | .arg => .arg | _ => .lit) k ((es.drop l).take (h - l))) else none
          | none =>
            if l ≤ h ∧ h ≤ es.length then
              some (.imm (match g with | .lit => if h = es.length then .lit else .own | g => g) k ((es.drop l).take (h - l))) else none
        else none
      | .sl b off len cap tot k =>
        if tySize P e = some k then
          let h := h.getD len
          match m with
          | some m =>
            if l = h ∧ m = h ∧ h ≤ len then some (.imm .lit k []) else
            if l ≤ h ∧ m = h ∧ h ≤ len then some (.sl b (off + l) (h - l) (some (h - l)) tot k) else none
          | none => if l ≤ h ∧ h ≤ len then some (.sl b (off + l) (h - l) (cap.map (· - l)) tot k) else none
        else none
      | _ => none
    | some (.array n e) =>
      match x, m with
      | .ptr b i off tot, none =>
        let h := h.getD n
        if tySize P e = some 1 ∧ l ≤ h ∧ h ≤ n ∧ tot = 1 ∧ tyAgg P e = false then some (.aview b i (off + l) (h - l)) else none
      | _, _ => none
    | _ => none
  | _, _, _ => none

def lenV (P : Program) (H : Heap) (t : TypeId) (x : HV) : Option HV :=
  match P.underlying t with
  | some (.array n _) => some (.int .i64 n)
  | some (.slice _) =>
    match x with
    | .imm _ _ l => some (.int .i64 l.length)
    | .sl _ _ len _ _ _ => some (.int .i64 len)
    | .aview _ _ _ len => some (.int .i64 len)
    | _ => none
  | some (.map _ _) =>
    match x with
    | .nilmap => some (.int .i64 0)
    | .imap _ ks _ => some (.int .i64 ks.length)
    | .map b => match H[b]? with | some (.map ks _ _) => some (.int .i64 ks.length) | _ => none
    | _ => none
  | _ => none

def foldMM (mx : Bool) : HV → List HV → Option HV
  | v, [] => some v
  | .int k a, .int k' b :: l => if k = k' then foldMM mx (.int k (if mx then max a b else min a b)) l else none
  | _, _ => none

def nilZero (i : TypeInfo) : Bool :=
  match i.zero with
  | some (.slice none 0 0) => true
  | _ => false

def makeV (P : Program) (rows : Bool) (t : TypeId) (l c : HV) (H : Heap) : Option (HV × Heap) :=
  match P.underlying t, l, c with
  | some (.slice e), .int _ n, .int _ m =>
    match P.info? e with
    | some i =>
      if 0 ≤ n ∧ n ≤ m ∧ (i.bytes + 1) * m ≤ roomMax then
        match P.underlying e, rows with
        | some (.slice e'), true =>
          match tySize P e' with
          | some k' => if i.size = 1 ∧ nilZero i then
              some (.sl H.length 0 n.toNat (some m.toNat) m.toNat 1,
                H ++ [.arr 1 ((List.range m.toNat).map fun j => .sl (H.length + 1 + j) 0 0 none 0 k') true (H.length + 1 + m.toNat)] ++ List.replicate m.toNat (.arr k' [] true 0)) else none
          | none => none
        | _, _ =>
          match i.zero with
          | some z => if (cellsOf (ofConst z)).all cellV ∧ (cellsOf (ofConst z)).length = i.size ∧ i.size ≠ 0 then
              some (.sl H.length 0 n.toNat (some m.toNat) m.toNat i.size, H ++ [.arr i.size (List.replicate m.toNat (ofConst z)) true 0]) else none
          | none => none
      else none
    | none => none
  | _, _, _ => none

def litV (P : Program) (frz keep : Bool) (t : TypeId) (len : Nat) (parts : List (Nat × HV)) (H : Heap) : Option (HV × Heap) :=
  match P.underlying t with
  | some (.slice e) =>
    match P.info? e with
    | some i =>
      match i.zero with
      | some z =>
        match (if frz then seals (parts.map (·.2)) H else some (parts.map (·.2), H)) with
        | none => none
        | some (vs, H) =>
          if len * i.size ≤ 2 ^ 24 ∧ (cellsOf (ofConst z)).length = i.size ∧ (cellsOf (ofConst z)).all cellV ∧ i.size ≠ 0 ∧ vs.all (fun v => (cellsOf v).length == i.size && (cellsOf v).all cellV)
              ∧ parts.all (fun p => p.1 < len) then
            let els := ((parts.map (·.1)).zip vs).foldl (fun (l : List HV) (p : Nat × HV) => l.set p.1 p.2) (List.replicate len (ofConst z))
            if keep || bndL vs != 0 then
              some (.sl H.length 0 len (some len) len i.size, H ++ [.arr i.size els true (bndL vs)])
            else some (.imm .lit i.size els, H)
          else none
      | none => none
    | none => none
  | _ => none

def structPlace (P : Program) (fs : Array Field) (i : Nat) : Option (Nat × Nat) :=
  match fs[i]? with
  | some f => (tySize P f.type).map fun s => (f.offset, s)
  | none => none

def buildV (P : Program) (t : TypeId) (parts : List (Nat × HV)) : Option HV :=
  match P.info? t with
  | some i =>
    match i.zero with
    | some z =>
      if (cellsOf (ofConst z)).all cellV then
        match P.underlying t with
        | some (.struct fs) => if fs.toList.all (fun f => (tySize P f.type).isSome) then (fillV (structPlace P fs) (cellsOf (ofConst z)) parts).map .agg else none
        | some (.array _ e) => match tySize P e with | some s => (fillV (fun i => some (i * s, s)) (cellsOf (ofConst z)) parts).map .agg | none => none
        | _ => none
      else none
    | none => none
  | none => none

def targetV (f : HV) (args : List HV) : Option (FuncId × List HV) :=
  match f with
  | .func g first captured => some (g, first ++ args ++ captured)
  | _ => none

def callable (P : Program) (g : FuncId) : Bool :=
  match P.funcs[g]? with
  | some fn => fn.body.isSome && fn.name != "runtime.NumGoroutine"
  | none => false

abbrev CallFn := FuncId → List HV → Heap → Option (HV × Heap)

def copyV (H : Heap) (d s : HV) : Option (HV × Heap) :=
  match srcOf H s, d with
  | some (xs, k), .aview b i off len =>
    if k = 1 then
      match H[b]? with
      | some (.arr kk els true mx) =>
        match els[i]? with
        | some (.agg cs) =>
          if els.length = 1 ∧ off + len ≤ cs.length ∧ bndL xs = 0 ∧ xs.all cellV then
            some (.int .i64 (min xs.length len : Nat), H.set b (.arr kk (els.set i (.agg (splice cs off (xs.take len)))) true mx)) else none
        | _ => none
      | _ => none
    else none
  | some (xs, k), .sl b off len _ tot k' =>
    if k = k' then
      match H[b]? with
      | some (.arr kk els true mx) =>
        if kk = k ∧ tot = els.length ∧ off + len ≤ els.length then
          some (.int .i64 (min xs.length len : Nat), H.set b (.arr kk (splice els off (xs.take len)) true (max mx (bndL xs)))) else none
      | _ => none
    else none
  | _, _ => none

def clearV (P : Program) (H : Heap) (t : TypeId) (x : HV) : Option (HV × Heap) :=
  match P.underlying t, x with
  | some (.slice e), .sl b off len _ tot k =>
    if len = 0 then some (.tuple [], H) else
    match P.info? e, H[b]? with
    | some i, some (.arr k' els true mx) =>
      match i.zero with
      | some z => if k' = k ∧ i.size = k ∧ tot = els.length ∧ off + len ≤ els.length ∧ (cellsOf (ofConst z)).length = k ∧ (cellsOf (ofConst z)).all cellV ∧ k ≠ 0 then
          some (.tuple [], H.set b (.arr k (splice els off (List.replicate len (ofConst z))) true mx)) else none
      | none => none
    | _, _ => none
  | _, _ => none

def zeroFits (i : TypeInfo) : Bool :=
  match i.zero with
  | some z => z.cells.size == i.size
  | none => false

def builtinV (P : Program) (b : Builtin) (tys : List TypeId) (args : List HV) (H : Heap) : Option (HV × Heap) :=
  match b, tys, args with
  | .append, t :: t2 :: _, s :: x :: _ =>
    match P.underlying t, P.underlying t2 with
    | some (.slice e), some (.slice _) =>
      match P.info? e, srcOf H x with
      | some i, some (xs, k) => if (k = i.size ∨ xs = []) ∧ i.size ≠ 0 ∧ zeroFits i then appV H i.size i.bytes s xs else none
      | _, _ => none
    | _, _ => none
  | .len, t :: _, x :: _ => (lenV P H t x).map fun v => (v, H)
  | .min, _, x :: l => (foldMM false x l).map fun v => (v, H)
  | .max, _, x :: l => (foldMM true x l).map fun v => (v, H)
  | .copy, t :: _, d :: s :: _ => match P.underlying t with | some (.slice e) => (match srcOf H s with | some (_, k) => if tySize P e = some k then copyV H d s else none | none => none) | _ => none
  | .clear, t :: _, x :: _ => clearV P H t x
  | _, _, _ => none

def newV (v : HV) (H : Heap) : HV × Heap := (.ptr H.length 0 0 1, H ++ [.arr (cellsOf v).length [v] true (bnd v)])

def updV (P : Program) (frz : Bool) (T : TypeId) (m k v : HV) (H : Heap) : Option Heap :=
  match P.underlying T, m with
  | some (.map kt _), .map b =>
    if keyTy P kt k then
      match (if frz then seal1 H v else some (v, H)) with
      | some (v, H) =>
        match H[b]? with
        | some (.map ks vs mx) =>
          match findK k ks 0 with
          | some (some i) => some (H.set b (.map ks (vs.set i v) (max mx (bnd v))))
          | some none => if (aggEq (cellsOf k) (cellsOf k)).isSome then some (H.set b (.map (ks ++ [k]) (vs ++ [v]) (max mx (bnd v)))) else none
          | none => none
        | _ => none
      | none => none
    else none
  | _, _ => none

def asgTmps (ops : List Oper) : List Nat :=
  ops.filterMap fun o => match o.op with | .assign (.tmp t) => some t | _ => none

def evOp (P : Program) (pol : Pol) (f : FuncId) (rg : Nat) (asg : List Nat) (call : CallFn) (o : Oper) (e : Env) (H : Heap) : Option (HV × Heap) :=
  match o.op with
  | .move x => some (opVal e x, H)
  | .assign x =>
    match x with
    | .const (.slice none 0 0) =>
      match P.underlying o.type with
      | some (.slice t) =>
        match tySize P t with
        | some k => if (match o.dst with | some d => pol.blk f d | none => false) then some (.sl H.length 0 0 none 0 k, H ++ [.arr k [] true 0]) else some (.imm .lit k [], H)
        | none => none
      | _ => some (opVal e x, H)
    | x => some (opVal e x, H)
  | .pick c a b => match opVal e c with | .bool t => some (if t then opVal e a else opVal e b, H) | _ => none
  | .alloc t =>
    match P.underlying t with
    | some (.slice et) =>
      match tySize P et, P.info? t with
      | some k, some i => if nilZero i then some (.ptr H.length 0 0 1, H ++ [.arr 1 [.sl (H.length + 1) 0 0 none 0 k] true (H.length + 2), .arr k [] true 0]) else none
      | _, _ => none
    | _ => match tyZero P t with | some z => if (cellsOf z).all cellV then some (newV z H) else none | none => none
  | .box _ x => if (cellsOf (opVal e x)).all cellV then some (newV (opVal e x) H) else none
  | .build t parts => (buildV P t (parts.toList.map fun p => (p.1, opVal e p.2))).map fun v => (v, H)
  | .buildSlice t n parts => litV P (pol.freeze f rg) (match o.dst with | some d => asg.contains d | none => false) t n (parts.toList.map fun p => (p.1, opVal e p.2)) H
  | .load t a => (loadV P H t (opVal e a)).map fun v => (v, H)
  | .store t a x =>
    match (if pol.freezeS f rg then seal1 H (opVal e x) else some (opVal e x, H)) with
    | some (v, H) => (storeV P H t (opVal e a) v).map fun H => (.tuple [], H)
    | none => none
  | .nilCheck x => match opVal e x with | .ptr b i off tot => some (.ptr b i off tot, H) | .vptr v => some (.vptr v, H) | .func g a c => some (.func g a c, H) | _ => none
  | .binOp op t x y _ => (match y with | .const (.slice none 0 0) => nilTest P op t (opVal e x) | _ => binV P op t (opVal e x) (opVal e y)).map fun v => (v, H)
  | .unOp op _ x => (unV op (opVal e x)).map fun v => (v, H)
  | .convert s t x => match opVal e x, P.underlying s, P.underlying t with | .int _ n, some _, some (.int k) => some (.int k (k.wrap n), H) | _, _, _ => none
  | .makeFunc (.func g) first captured => some (.func g (first.toList.map (opVal e)) (captured.toList.map (opVal e)), H)
  | .makeMap _ none => some (.map H.length, H ++ [.map [] [] 0])
  | .makeSlice t l c => makeV P (pol.rows f rg) t (opVal e l) (opVal e c) H
  | .slice t x lo hi mx => if mx.isSome && hi.isNone then none else (sliceV P t (opVal e x) (lo.map (opVal e)) (hi.map (opVal e)) (mx.map (opVal e))).map fun v => (v, H)
  | .fieldAddr s x fl => (fldAddrV P s (opVal e x) fl).map fun v => (v, H)
  | .field t x fl => (fldV P t (opVal e x) fl).map fun v => (v, H)
  | .indexAddr t x i => (idxV P t (opVal e x) (opVal e i)).map fun v => (v, H)
  | .index t x i => (elemV P t (opVal e x) (opVal e i)).map fun v => (v, H)
  | .lookup T m k ok =>
    match opVal e m with
    | .imap _ ks vs => (lookV P T ks vs (opVal e k) ok).map fun v => (v, H)
    | .nilmap => (lookV P T [] [] (opVal e k) ok).map fun v => (v, H)
    | .map b => match H[b]? with | some (.map ks vs _) => (lookV P T ks vs (opVal e k) ok).map fun v => (v, H) | _ => none
    | _ => none
  | .mapUpdate T m k x | .insert T m k x => (updV P (pol.freezeS f rg) T (opVal e m) (opVal e k) (opVal e x) H).map fun H => (.tuple [], H)
  | .extract t i => match opVal e t with | .tuple vs => (vs[i]?).map fun v => (v, H) | _ => none
  | .call c =>
    match c.callee with
    | .builtin b => builtinV P b c.argTypes.toList (c.args.toList.map (opVal e)) H
    | .value g =>
      match targetV (opVal e g) (c.args.toList.map (opVal e)) with
      | some (g, args) => if callable P g then call g args H else none
      | none => none
    | .invoke _ _ => none
  | _ => none

def wantedV (ops : Array Oper) (o : Oper) (e : Env) : Option Bool :=
  match o.guard with
  | none => some true
  | some (j, want) =>
    match (ops[j]?).bind (·.dst) with
    | none => some false
    | some d =>
      match e.get d with
      | .bool b => some (b == want)
      | .tuple [] => some false
      | _ => none

def evOps (P : Program) (pol : Pol) (f : FuncId) (rg : Nat) (ops : Array Oper) (asg : List Nat) (call : CallFn) : List Oper → Env → Heap → Option (Env × Heap)
  | [], e, H => some (e, H)
  | o :: os, e, H =>
    match wantedV ops o e with
    | some true =>
      match evOp P pol f rg asg call o e H with
      | some (v, H') => evOps P pol f rg ops asg call os (e.put o.dst v) H'
      | none => none
    | some false => evOps P pol f rg ops asg call os (e.put o.dst (.tuple [])) H
    | none => none

def trace (P : Program) (pol : Pol) (f : FuncId) (rg : Nat) (ops : Array Oper) (asg : List Nat) (call : CallFn) : List Oper → Env → Heap → List (Env × Heap)
  | [], e, H => [(e, H)]
  | o :: os, e, H => (e, H) ::
    match wantedV ops o e with
    | some true =>
      match evOp P pol f rg asg call o e H with
      | some (v, H') => trace P pol f rg ops asg call os (e.put o.dst v) H'
      | none => []
    | some false => trace P pol f rg ops asg call os (e.put o.dst (.tuple [])) H
    | none => []

def stateful (o : Oper) : Bool :=
  match o.op with
  | .assign (.const (.slice _ _ _)) | .alloc _ | .box _ _ | .buildSlice _ _ _ | .store _ _ _ | .makeMap _ _ | .makeSlice _ _ _ | .mapUpdate _ _ _ _ | .insert _ _ _ _ => true
  | .call c => match c.callee with | .builtin .len | .builtin .min | .builtin .max => false | _ => true
  | _ => false

def reading (o : Oper) : Bool :=
  match o.op with
  | .load _ _ | .lookup _ _ _ _ => true
  | .call c => match c.callee with | .builtin .len => true | _ => false
  | _ => false

-- equality of values, as far as it is asked
mutual
  def same : HV → HV → Bool
    | .undef, .undef => true
    | .own k l, .own k' l' => k == k' && sameL l l'
    | .omap ks vs, .omap ks' vs' => sameL ks ks' && sameL vs vs'
    | .int k a, .int k' b => k == k' && a == b
    | .bool a, .bool b => a == b
    | .str a, .str b => a.data == b.data
    | .agg a, .agg b => sameL a b
    | .tuple a, .tuple b => sameL a b
    | .imm g k l, .imm g' k' l' => g == g' && k == k' && sameL l l'
    | .sl b off len cap tot k, .sl b' off' len' cap' tot' k' => b == b' && off == off' && len == len' && cap == cap' && tot == tot' && k == k'
    | .aview b i off len, .aview b' i' off' len' => b == b' && i == i' && off == off' && len == len'
    | .ptr b i off tot, .ptr b' i' off' tot' => b == b' && i == i' && off == off' && tot == tot'
    | .vptr v, .vptr v' => same v v'
    | .map b, .map b' => b == b'
    | .nilmap, .nilmap => true
    | .imap g ks vs, .imap g' ks' vs' => g == g' && sameL ks ks' && sameL vs vs'
    | .func f a c, .func f' a' c' => f == f' && sameL a a' && sameL c c'
    | .nilFunc, .nilFunc => true
    | _, _ => false
  termination_by structural v => v
  def sameL : List HV → List HV → Bool
    | [], [] => true
    | v :: l, v' :: l' => same v v' && sameL l l'
    | _, _ => false
  termination_by structural l => l
end

def sameH : Heap → Heap → Bool
  | [], [] => true
  | .arr k els wr mx :: H, .arr k' els' wr' mx' :: H' => k == k' && sameL els els' && wr == wr' && mx == mx' && sameH H H'
  | .map ks vs mx :: H, .map ks' vs' mx' :: H' => sameL ks ks' && sameL vs vs' && mx == mx' && sameH H H'
  | .iter m s sn c0 :: H, .iter m' s' sn' c0' :: H' => m == m' && s == s' && sn == sn' && c0 == c0' && sameH H H'
  | .dead :: H, .dead :: H' => sameH H H'
  | _, _ => false

def chk (ops : Array Oper) (quiet : List Nat) : List (Nat × Nat) :=
  let bf := Region.before ops
  (List.range ops.size).flatMap fun i =>
    match ops[i]? with
    | none => []
    | some o =>
      if !(reading o || quiet.contains i) then [] else
      (if quiet.contains i then [(i, i)] else []) ++
      ((List.range ops.size).filterMap fun j =>
        match ops[j]? with
        | none => none
        | some s =>
          if !stateful s || quiet.contains j || i == j then none
          else if j < i then (if (bf.getD i 0).testBit j then none else some (i, j))
          else (if (bf.getD j 0).testBit i then none else some (i, j + 1)))

def recheck (P : Program) (pol : Pol) (f : FuncId) (rg : Nat) (ops : Array Oper) (asg : List Nat) (call : CallFn) (tr : List (Env × Heap)) (p : Nat × Nat) : Bool :=
  match ops[p.1]?, tr[p.1]?, tr[p.2]? with
  | some o, some (e, H), some (_, H') =>
    match wantedV ops o e with
    | some true =>
      match evOp P pol f rg asg call o e H, evOp P pol f rg asg call o e H' with
      | some (v, H1), some (v', H1') => same v v' && sameH H1 H && sameH H1' H'
      | _, _ => false
    | some false => true
    | none => false
  | _, _, _ => false

def evRegion (P : Program) (pol : Pol) (f : FuncId) (rg : Nat) (ops : Array Oper) (draw : Bool) (call : CallFn) (e : Env) (H : Heap) : Option (Env × Heap) :=
  let asg := asgTmps ops.toList
  if draw && !(chk ops (pol.quiet f rg)).isEmpty then
    if (chk ops (pol.quiet f rg)).all (recheck P pol f rg ops asg call (trace P pol f rg ops asg call ops.toList e H)) then evOps P pol f rg ops asg call ops.toList e H else none
  else evOps P pol f rg ops asg call ops.toList e H

inductive X where
  | normal | exit (id : Nat) | ret
  deriving DecidableEq

def headTmp : Code → List Nat
  | .cond (.tmp t) _ _ => [t]
  | .seq a _ => headTmp a
  | .block _ a => headTmp a
  | _ => []

def headReg : Code → Nat
  | .region id _ _ => id
  | .seq a _ => headReg a
  | .block _ a => headReg a
  | .loop a => headReg a
  | _ => 0

def lrestr (pol : Pol) (f : FuncId) (b : Code) (e : Env) : Env := restr (pol.keys f) (restr ((pol.keys f).filter fun t => !(pol.dead f (headReg b)).contains t) e)

abbrev Out := X × Env × Heap

def evC (P : Program) (pol : Pol) (call : CallFn) : Nat → FuncId → Code → Env → Heap → Option Out
  | 0, _, _, _, _ => none
  | n + 1, f, c, e, H =>
    match c with
    | .skip => some (.normal, e, H)
    | .label _ => some (.normal, e, H)
    | .region id ops draw => match evRegion P pol f id ops draw call e H with | some (e, H) => some (.normal, e, H) | none => none
    | .seq a b =>
      match evC P pol call n f a e H with
      | some (.normal, e, H) => evC P pol call n f b (restr (pol.keys f ++ headTmp b) e) H
      | r => r
    | .cond c a b =>
      match opVal e c with
      | .bool t => evC P pol call n f (if t then a else b) (restr (pol.keys f) e) H
      | _ => none
    | .block id b =>
      match evC P pol call n f b e H with
      | some (.exit i, e, H) => if i = id then some (.normal, e, H) else some (.exit i, e, H)
      | r => r
    | .loop b =>
      match evC P pol call n f b (lrestr pol f b e) H with
      | some (.normal, e, H') => evC P pol call n f (.loop b) (lrestr pol f b e) (gc H.length (bndE (lrestr pol f b e)) H')
      | r => r
    | .exit id => some (.exit id, e, H)
    | .ret => some (.ret, e, H)
    | _ => none

def resultV (P : Program) (H : Heap) (e : Env) : ResultVar → Option HV
  | .tmp t => some (e.get t)
  | .cell a t => loadV P H t (e.get a)

def resultsV (P : Program) (fn : Func) (e : Env) (H : Heap) : Option HV :=
  match mapO (resultV P H e) fn.results.toList with
  | some [v] => some v
  | some vs => some (.tuple vs)
  | none => none

def args0 (args : List HV) : Env := args.zipIdx.map fun (v, i) => (i, v)

abbrev RunFn := FuncId → Code → Env → Heap → Option Out

def pureRun (P : Program) (pol : Pol) (run : RunFn) (g : FuncId) (fn : Func) (c : Code) (args : List HV) : Option HV :=
  match run g c (args0 args) [] with
  | some (.exit _, _, _) => none
  | some (_, e, H') =>
    match resultsV P fn e H' with
    | some v => toRes H' (pol.deep g) v
    | none => none
  | none => none

def pureCall (P : Program) (pol : Pol) (run : RunFn) (g : FuncId) (fn : Func) (c : Code) (args : List HV) : Option HV :=
  if pol.nilf g then
    match args with
    | [.imm _ k []] =>
      match pureRun P pol run g fn c [.nilS k], pureRun P pol run g fn c [.empS k] with
      | some r, some r' => if same r r' then some r else none
      | _, _ => none
    | _ => pureRun P pol run g fn c args
  else pureRun P pol run g fn c args

def sharedCall (P : Program) (run : RunFn) (g : FuncId) (fn : Func) (c : Code) (args : List HV) (H : Heap) : Option (HV × Heap) :=
  match run g c (args0 args) H with
  | some (.exit _, _, _) => none
  | some (_, e, H') => match resultsV P fn e H' with | some v => some (v, gc H.length (bnd v) H') | none => none
  | none => none

def primCall (F : List HV → Option HV) (args : List HV) (H : Heap) : Option (HV × Heap) :=
  match mapO (toArg H 6) args with
  | some as => match F as with | some r => some (recv r H) | none => none
  | none => none

def doCall (P : Program) (pol : Pol) (run : RunFn) : CallFn := fun g args H =>
  match pol.prim g with
  | some F => primCall F args H
  | none =>
  match pol.heapP g with
  | some F => F args H
  | none =>
  match P.funcs[g]? with
  | some fn =>
    match fn.body with
    | some c =>
      if pol.shared g then sharedCall P run g fn c args H
      else
        match mapO (toArg H 6) args with
        | some as => match pureCall P pol run g fn c as with | some r => some (recv r H) | none => none
        | none => none
    | none => none
  | none => none

def callN (P : Program) (pol : Pol) : Nat → CallFn
  | 0 => fun _ _ _ => none
  | n + 1 => doCall P pol (evC P pol (callN P pol n) n)

end Go.HL


/- What ties the ghost's values and blocks to the world's, and that it lasts while other things change. -/
namespace Go.HL

structure Ctx where
  H : Heap
  σ : Nat → Option Nat

def Ctx.nil : Ctx := ⟨[], fun _ => none⟩

def SlOk (w : World) (c : Ctx) (b off len : Nat) (cap : Option Nat) (tot k : Nat) (a : Option Addr) (cap' : Nat) : Prop :=
  len ≤ cap' ∧ (∀ n, cap = some n → cap' = n) ∧ (0 < len → a.isSome = true) ∧
  ∃ blk, c.H[b]? = some blk ∧
    match blk with
    | .arr k' els _ _ => tot ≤ els.length ∧ (tot = els.length → k' = k ∧
        match c.σ b with
        | none => len = 0 ∧ cap' = 0
        | some r => (0 < cap' → a = some ⟨r, off * k, none⟩) ∧ ∃ cs T fz, w.heap[r]? = some (Obj.cells cs T fz) ∧ (off + cap') * k ≤ cs.size)
    | .dead => True
    | .iter _ _ _ _ => False
    | .map _ _ _ => False

def PtrOk (c : Ctx) (b i off tot : Nat) (a : Addr) : Prop :=
  ∃ blk, c.H[b]? = some blk ∧
    match blk with
    | .arr k' els _ _ => tot ≤ els.length ∧ (tot = els.length → ∃ r, c.σ b = some r ∧ a = ⟨r, i * k' + off, none⟩)
    | .dead => True
    | .iter _ _ _ _ => i = 0 ∧ off = 0 ∧ tot = 0 → ∃ r, c.σ b = some r ∧ a = ⟨r, 0, none⟩
    | .map _ _ _ => False

def AvOk (c : Ctx) (b i off len : Nat) (a : Option Addr) (cap' : Nat) : Prop :=
  len ≤ cap' ∧
  ∃ blk, c.H[b]? = some blk ∧
    match blk with
    | .arr k' els _ _ => 1 ≤ els.length ∧ (els.length = 1 → ∃ r, c.σ b = some r ∧ (0 < cap' → a = some ⟨r, i * k' + off, none⟩))
    | .dead => True
    | .iter _ _ _ _ => True
    | .map _ _ _ => False

def Diff (ks : List HV) : Prop := ks.Pairwise fun a b => keyEq a b = some false ∧ keyEq b a = some false

def MapAt (w : World) (r : Nat) (es : Array MapEntry) (clock : Nat) : Prop := ∃ es0 : Array MapEntry, w.heap[r]? = some (Obj.map es0 clock) ∧ es0.toList.Perm es.toList ∧ (∀ x ∈ es0.toList, x.born < clock) ∧ (es0.toList.map (·.born)).Nodup

theorem MapAt.same {w w' : World} {r : Nat} {es : Array MapEntry} {clock : Nat} (h : MapAt w r es clock) (e : w'.heap[r]? = w.heap[r]?) : MapAt w' r es clock := by
  obtain ⟨es0, h1, h2⟩ := h
  exact ⟨es0, e.trans h1, h2⟩

inductive V (w : World) (ok : Bool → Nat → Prop) : Ctx → HV → Value → Prop
  | undef {c : Ctx} (v : Value) : V w ok c .undef v
  | int {c : Ctx} (k : IntKind) (n : Int) : V w ok c (.int k n) (.int k n)
  | bool {c : Ctx} (b : Bool) : V w ok c (.bool b) (.bool b)
  | str {c : Ctx} (s : ByteArray) : V w ok c (.str s) (.string s)
  | nilmap {c : Ctx} : V w ok c .nilmap (.map none)
  | nilFunc {c : Ctx} : V w ok c .nilFunc .nilFunc
  | nilS {c : Ctx} (k cap : Nat) : V w ok c (.nilS k) (.slice none 0 cap)
  | empS {c : Ctx} (k : Nat) (a : Addr) (cap : Nat) : V w ok c (.empS k) (.slice (some a) 0 cap)
  | agg {c : Ctx} (cs : List HV) (rs : Array Value) (hl : cs.length = rs.size) (hc : ∀ v, v ∈ cs → cellV v = true)
      (h : ∀ (i : Nat) (v : HV) (r : Value), cs[i]? = some v → rs[i]? = some r → V w ok c v r) : V w ok c (.agg cs) (.agg rs)
  | tuple {c : Ctx} (cs : List HV) (rs : Array Value) (hl : cs.length = rs.size)
      (h : ∀ (i : Nat) (v : HV) (r : Value), cs[i]? = some v → rs[i]? = some r → V w ok c v r) : V w ok c (.tuple cs) (.tuple rs)
  | imm {c : Ctx} (g : G) (k : Nat) (l : List HV) (a : Option Addr) (cap : Nat) (f : Nat → Value)
      (hcap : l.length ≤ cap) (hlit : g = .lit → cap = l.length)
      (haddr : l ≠ [] → ∃ r off, a = some ⟨r, off, none⟩ ∧ r < w.heap.size ∧ ok (g != .arg) r ∧ ∀ j, j < l.length * k → w.cell? ⟨r, off + j, none⟩ = some (f j))
      (hk : ∀ v, v ∈ l → (cellsOf v).length = k) (hc : ∀ v, v ∈ l → (cellsOf v).all cellV = true)
      (hv : ∀ (i : Nat) (v : HV) (j : Nat) (x : HV), l[i]? = some v → (cellsOf v)[j]? = some x → V w ok Ctx.nil x (f (i * k + j))) :
      V w ok c (.imm g k l) (.slice a l.length cap)
  | sl {c : Ctx} (b off len : Nat) (cap : Option Nat) (tot k : Nat) (a : Option Addr) (cap' : Nat) (h : SlOk w c b off len cap tot k a cap') :
      V w ok c (.sl b off len cap tot k) (.slice a len cap')
  | aview {c : Ctx} (b i off len : Nat) (a : Option Addr) (cap' : Nat) (h : AvOk c b i off len a cap') : V w ok c (.aview b i off len) (.slice a len cap')
  | ptr {c : Ctx} (b i off tot : Nat) (a : Addr) (h : PtrOk c b i off tot a) : V w ok c (.ptr b i off tot) (.pointer (some a))
  | vptr {c : Ctx} (v : HV) (r o : Nat) (f : Nat → Value) (hr : r < w.heap.size) (hok : ok false r) (hc : (cellsOf v).all cellV = true)
      (h1 : ∀ j, j < (cellsOf v).length → w.cell? ⟨r, o + j, none⟩ = some (f j))
      (h : ∀ (j : Nat) (x : HV), (cellsOf v)[j]? = some x → V w ok Ctx.nil x (f j)) :
      V w ok c (.vptr v) (.pointer (some ⟨r, o, none⟩))
  | map {c : Ctx} (b r : Nat) (ks vs : List HV) (mx : Nat) (hH : c.H[b]? = some (Blk.map ks vs mx)) (hs : c.σ b = some r) : V w ok c (.map b) (.map (some r))
  | imap {c : Ctx} (g : G) (ks vs : List HV) (r : Nat) (es : Array MapEntry) (clock : Nat) (hr : r < w.heap.size) (hok : ok (g != .arg) r)
      (hw : MapAt w r es clock) (hl : ks.length = es.size) (hl' : vs.length = es.size) (hkp : (∀ v, v ∈ ks → (cellsOf v).all cellV = true) ∧ Diff ks)
      (hk : ∀ (i : Nat) (v : HV) (m : MapEntry), ks[i]? = some v → es[i]? = some m → V w ok Ctx.nil v m.key)
      (hv : ∀ (i : Nat) (v : HV) (m : MapEntry), vs[i]? = some v → es[i]? = some m → V w ok Ctx.nil v m.val) :
      V w ok c (.imap g ks vs) (.map (some r))
  | func {c : Ctx} (f : FuncId) (fa ca : List HV) (ra rc : Array Value) (hl : fa.length = ra.size) (hl' : ca.length = rc.size)
      (h : ∀ (i : Nat) (v : HV) (r : Value), fa[i]? = some v → ra[i]? = some r → V w ok c v r) (h' : ∀ (i : Nat) (v : HV) (r : Value), ca[i]? = some v → rc[i]? = some r → V w ok c v r) :
      V w ok c (.func f fa ca) (.func (.func f) ra rc)

def Ctx.M (c : Ctx) (r : Nat) : Prop :=
  (∃ b k els mx, c.H[b]? = some (Blk.arr k els true mx) ∧ c.σ b = some r) ∨ (∃ b ks vs mx, c.H[b]? = some (Blk.map ks vs mx) ∧ c.σ b = some r) ∨
  (∃ b m s sn c0, c.H[b]? = some (Blk.iter m s sn c0) ∧ c.σ b = some r)

def okOf (c : Ctx) (lo : Nat) : Bool → Nat → Prop := fun t r => ¬ c.M r ∧ (t = true → lo ≤ r)

def BlkOk (w : World) (c : Ctx) (lo : Nat) (b : Nat) : Blk → Prop
  | .arr k els _ mx =>
    (∀ v, v ∈ els → (cellsOf v).length = k ∧ (cellsOf v).all cellV = true ∧ bnd v ≤ mx) ∧
    match c.σ b with
    | none => els = []
    | some r => lo ≤ r ∧ ∃ cs T, w.heap[r]? = some (Obj.cells cs T (0, 0)) ∧ els.length * k ≤ cs.size ∧
        ∀ (i : Nat) (v : HV) (j : Nat) (x : HV), els[i]? = some v → (cellsOf v)[j]? = some x → ∃ y, cs[i * k + j]? = some y ∧ V w (okOf c lo) c x y
  | .map ks vs mx =>
    (∀ v, v ∈ vs → bnd v ≤ mx) ∧ ((∀ v, v ∈ ks → (cellsOf v).all cellV = true ∧ (aggEq (cellsOf v) (cellsOf v)).isSome = true) ∧ Diff ks) ∧
    ∃ r, c.σ b = some r ∧ lo ≤ r ∧ ∃ es clock, MapAt w r es clock ∧ ks.length = es.size ∧ vs.length = es.size ∧
      (∀ (i : Nat) (v : HV) (m : MapEntry), ks[i]? = some v → es[i]? = some m → V w (okOf c lo) Ctx.nil v m.key) ∧
      (∀ (i : Nat) (v : HV) (m : MapEntry), vs[i]? = some v → es[i]? = some m → V w (okOf c lo) c v m.val)
  | .iter m since seen c0 => ∃ r, c.σ b = some r ∧ lo ≤ r ∧ w.heap[r]? = some (Obj.mapIter (some m) since seen.toArray c0)
  | .dead => True

structure Rel (lo : Nat) (c : Ctx) (w : World) : Prop where
  blk : ∀ (b : Nat) (x : Blk), c.H[b]? = some x → BlkOk w c lo b x
  inj : ∀ b b' r, c.σ b = some r → c.σ b' = some r → b = b'
  dom : ∀ b r, c.σ b = some r → b < c.H.length ∧ r < w.heap.size
  low : lo ≤ w.heap.size

structure CEvo (c c' : Ctx) : Prop where
  len : c.H.length ≤ c'.H.length
  arr : ∀ (b k : Nat) (els : List HV) (wr : Bool) (mx : Nat), c.H[b]? = some (Blk.arr k els wr mx) →
    (∃ k' els' wr' mx', c'.H[b]? = some (Blk.arr k' els' wr' mx') ∧ els.length ≤ els'.length ∧ (els'.length = els.length → k' = k ∧ c'.σ b = c.σ b)) ∨ c'.H[b]? = some Blk.dead
  map : ∀ (b : Nat) (ks vs : List HV) (mx : Nat), c.H[b]? = some (Blk.map ks vs mx) → (∃ ks' vs' mx', c'.H[b]? = some (Blk.map ks' vs' mx')) ∧ c'.σ b = c.σ b
  dead : ∀ b : Nat, c.H[b]? = some Blk.dead → c'.H[b]? = some Blk.dead
  iter : ∀ (b m s : Nat) (sn : List Nat) (c0 : Nat), c.H[b]? = some (Blk.iter m s sn c0) → (∃ m' s' sn' c0', c'.H[b]? = some (Blk.iter m' s' sn' c0')) ∧ c'.σ b = c.σ b

structure WEvo (w : World) (ok : Bool → Nat → Prop) (w' : World) (ok' : Bool → Nat → Prop) : Prop where
  os : w'.os = w.os
  tape : w'.tape = w.tape
  output : w'.output = w.output
  size : w.heap.size ≤ w'.heap.size
  keep : ∀ t r, r < w.heap.size → ok t r → ok' t r ∧ w'.heap[r]? = w.heap[r]?
  csize : ∀ (r : Nat) (cs : Array Value) (T : TypeId) (fz : Nat × Nat), w.heap[r]? = some (Obj.cells cs T fz) → ∃ cs' T' fz', w'.heap[r]? = some (Obj.cells cs' T' fz') ∧ cs'.size = cs.size

theorem CEvo.refl (c : Ctx) : CEvo c c :=
  ⟨Nat.le_refl _, fun b k els wr mx h => .inl ⟨k, els, wr, mx, h, Nat.le_refl _, fun _ => ⟨rfl, rfl⟩⟩, fun b ks vs mx h => ⟨⟨ks, vs, mx, h⟩, rfl⟩, fun b h => h, fun b m s sn c0 h => ⟨⟨m, s, sn, c0, h⟩, rfl⟩⟩

theorem CEvo.trans {c d e : Ctx} (h : CEvo c d) (g : CEvo d e) : CEvo c e := by
  refine ⟨Nat.le_trans h.len g.len, ?_, ?_, fun b hb => g.dead b (h.dead b hb), fun b m s sn c0 hb => by
    obtain ⟨⟨m1, s1, n1, c1, h1⟩, e1⟩ := h.iter b m s sn c0 hb
    obtain ⟨h2, e2⟩ := g.iter b m1 s1 n1 c1 h1
    exact ⟨h2, e2.trans e1⟩⟩
  · intro b k els wr mx hb
    rcases h.arr b k els wr mx hb with ⟨k1, e1, w1, m1, h1, l1, q1⟩ | h1
    · rcases g.arr b k1 e1 w1 m1 h1 with ⟨k2, e2, w2, m2, h2, l2, q2⟩ | h2
      · refine .inl ⟨k2, e2, w2, m2, h2, Nat.le_trans l1 l2, fun he => ?_⟩
        have he1 : e1.length = els.length := by omega
        have he2 : e2.length = e1.length := by omega
        exact ⟨(q2 he2).1.trans (q1 he1).1, (q2 he2).2.trans (q1 he1).2⟩
      · exact .inr h2
    · exact .inr (g.dead b h1)
  · intro b ks vs mx hb
    obtain ⟨⟨k1, v1, m1, h1⟩, s1⟩ := h.map b ks vs mx hb
    obtain ⟨h2, s2⟩ := g.map b k1 v1 m1 h1
    exact ⟨h2, s2.trans s1⟩

theorem WEvo.refl (w : World) (ok : Bool → Nat → Prop) : WEvo w ok w ok :=
  ⟨rfl, rfl, rfl, Nat.le_refl _, fun _ _ _ h => ⟨h, rfl⟩, fun r cs T fz h => ⟨cs, T, fz, h, rfl⟩⟩

theorem WEvo.trans {w w' w'' : World} {ok ok' ok'' : Bool → Nat → Prop} (h : WEvo w ok w' ok') (g : WEvo w' ok' w'' ok'') : WEvo w ok w'' ok'' := by
  refine ⟨g.os.trans h.os, g.tape.trans h.tape, g.output.trans h.output, Nat.le_trans h.size g.size, ?_, ?_⟩
  · intro t r hr ho
    obtain ⟨o1, e1⟩ := h.keep t r hr ho
    obtain ⟨o2, e2⟩ := g.keep t r (Nat.lt_of_lt_of_le hr h.size) o1
    exact ⟨o2, e2.trans e1⟩
  · intro r cs T fz hr
    obtain ⟨c1, T1, z1, h1, s1⟩ := h.csize r cs T fz hr
    obtain ⟨c2, T2, z2, h2, s2⟩ := g.csize r c1 T1 z1 h1
    exact ⟨c2, T2, z2, h2, s2.trans s1⟩

theorem WEvo.cell {w w' : World} {ok ok' : Bool → Nat → Prop} (h : WEvo w ok w' ok') {t : Bool} {r : Nat} (hr : r < w.heap.size) (ho : ok t r) (o : Nat) :
    w'.cell? ⟨r, o, none⟩ = w.cell? ⟨r, o, none⟩ := World.cell?_of_block (a := ⟨r, o, none⟩) (h.keep t r hr ho).2

theorem SlOk.evo {w w' : World} {ok ok' : Bool → Nat → Prop} {c d : Ctx} (hw : WEvo w ok w' ok') (hc : CEvo c d) {b off len tot k cap' : Nat} {cap : Option Nat} {a : Option Addr}
    (h : SlOk w c b off len cap tot k a cap') : SlOk w' d b off len cap tot k a cap' := by
  obtain ⟨h1, h2, h3, blk, hb, h4⟩ := h
  refine ⟨h1, h2, h3, ?_⟩
  match blk, hb, h4 with
  | .arr k' els wr mx, hb, h4 =>
    obtain ⟨h5, h6⟩ := h4
    rcases hc.arr b k' els wr mx hb with ⟨k1, e1, w1, m1, hb1, l1, q1⟩ | hd
    · refine ⟨_, hb1, Nat.le_trans h5 l1, fun ht => ?_⟩
      have he : e1.length = els.length := by omega
      obtain ⟨hk, hs⟩ := q1 he
      obtain ⟨h7, h8⟩ := h6 (by omega)
      refine ⟨hk.trans h7, ?_⟩
      rw [hs]
      revert h8
      cases c.σ b with
      | none => exact id
      | some r =>
        rintro ⟨g1, cs, T, fz, g2, g3⟩
        obtain ⟨cs', T', fz', e1, e2⟩ := hw.csize r cs T fz g2
        exact ⟨g1, cs', T', fz', e1, by rw [e2]; exact g3⟩
    · exact ⟨_, hd, trivial⟩
  | .dead, hb, _ => exact ⟨_, hc.dead b hb, trivial⟩
  | .iter _ _ _ _, _, h4 => exact h4.elim
  | .map _ _ _, _, h4 => exact h4.elim

theorem PtrOk.evo {c d : Ctx} (hc : CEvo c d) {b i off tot : Nat} {a : Addr} (h : PtrOk c b i off tot a) : PtrOk d b i off tot a := by
  obtain ⟨blk, hb, h4⟩ := h
  match blk, hb, h4 with
  | .arr k' els wr mx, hb, h4 =>
    obtain ⟨h5, h6⟩ := h4
    rcases hc.arr b k' els wr mx hb with ⟨k1, e1, w1, m1, hb1, l1, q1⟩ | hd
    · refine ⟨_, hb1, Nat.le_trans h5 l1, fun ht => ?_⟩
      have he : e1.length = els.length := by omega
      obtain ⟨hk, hs⟩ := q1 he
      obtain ⟨r, h7, h8⟩ := h6 (by omega)
      exact ⟨r, hs.trans h7, by rw [hk]; exact h8⟩
    · exact ⟨_, hd, trivial⟩
  | .dead, hb, _ => exact ⟨_, hc.dead b hb, trivial⟩
  | .iter m s sn c0, hb, h4 =>
    obtain ⟨⟨m1, s1, n1, c1, h1⟩, e1⟩ := hc.iter b m s sn c0 hb
    refine ⟨_, h1, fun hq => ?_⟩
    obtain ⟨r, g1, g2⟩ := h4 hq
    exact ⟨r, e1.trans g1, g2⟩
  | .map _ _ _, _, h4 => exact h4.elim

theorem AvOk.evo {c d : Ctx} (hc : CEvo c d) {b i off len cap' : Nat} {a : Option Addr}
    (h : AvOk c b i off len a cap') : AvOk d b i off len a cap' := by
  obtain ⟨h1, blk, hb, h4⟩ := h
  refine ⟨h1, ?_⟩
  match blk, hb, h4 with
  | .arr k' els wr mx, hb, h4 =>
    obtain ⟨h5, h6⟩ := h4
    rcases hc.arr b k' els wr mx hb with ⟨k1, e1, w1, m1, hb1, l1, q1⟩ | hd
    · refine ⟨_, hb1, by omega, fun ht => ?_⟩
      have he : e1.length = els.length := by omega
      obtain ⟨hk, hs⟩ := q1 he
      obtain ⟨r, h7, h8⟩ := h6 (by omega)
      exact ⟨r, hs.trans h7, by rw [hk]; exact h8⟩
    · exact ⟨_, hd, trivial⟩
  | .dead, hb, _ => exact ⟨_, hc.dead b hb, trivial⟩
  | .iter m s sn c0, hb, _ =>
    obtain ⟨⟨m1, s1, n1, c1, h1⟩, _⟩ := hc.iter b m s sn c0 hb
    exact ⟨_, h1, trivial⟩
  | .map _ _ _, _, h4 => exact h4.elim

theorem V.evo {w w' : World} {ok ok' : Bool → Nat → Prop} (hw : WEvo w ok w' ok') {c : Ctx} {v : HV} {rv : Value} (h : V w ok c v rv) :
    ∀ {d : Ctx}, CEvo c d → V w' ok' d v rv := by
  induction h with
  | undef v => exact fun _ => .undef v
  | int k n => exact fun _ => .int k n
  | bool b => exact fun _ => .bool b
  | str s => exact fun _ => .str s
  | nilmap => exact fun _ => .nilmap
  | nilFunc => exact fun _ => .nilFunc
  | nilS k cap => exact fun _ => .nilS k cap
  | empS k a cap => exact fun _ => .empS k a cap
  | agg cs rs hl hc h ih => exact fun hd => .agg cs rs hl hc fun i v r h1 h2 => ih i v r h1 h2 hd
  | tuple cs rs hl h ih => exact fun hd => .tuple cs rs hl fun i v r h1 h2 => ih i v r h1 h2 hd
  | imm g k l a cap f hcap hlit haddr hk hc hv ih =>
    intro d hd
    refine .imm g k l a cap f hcap hlit (fun hne => ?_) hk hc (fun i v j x h1 h2 => ih i v j x h1 h2 (CEvo.refl _))
    obtain ⟨r, off, h1, h2, h3, h4⟩ := haddr hne
    refine ⟨r, off, h1, Nat.lt_of_lt_of_le h2 hw.size, (hw.keep _ r h2 h3).1, fun j hj => ?_⟩
    rw [hw.cell h2 h3]; exact h4 j hj
  | sl b off len cap tot k a cap' h => exact fun hd => .sl b off len cap tot k a cap' (h.evo hw hd)
  | aview b i off len a cap' h => exact fun hd => .aview b i off len a cap' (h.evo hd)
  | ptr b i off tot a h => exact fun hd => .ptr b i off tot a (h.evo hd)
  | vptr v r o f hr hok hc h1 h ih =>
    intro d hd
    exact .vptr v r o f (Nat.lt_of_lt_of_le hr hw.size) (hw.keep _ r hr hok).1 hc (fun j hj => by rw [hw.cell hr hok]; exact h1 j hj) (fun j x hx => ih j x hx (CEvo.refl _))
  | map b r ks vs mx hH hs =>
    intro d hd
    obtain ⟨⟨ks', vs', mx', h1⟩, h2⟩ := hd.map b ks vs mx hH
    exact .map b r ks' vs' mx' h1 (h2.trans hs)
  | imap g ks vs r es clock hr hok hwr hl hl' hkp hk hv ihk ihv =>
    intro d hd
    exact .imap g ks vs r es clock (Nat.lt_of_lt_of_le hr hw.size) (hw.keep _ r hr hok).1 (hwr.same (hw.keep _ r hr hok).2) hl hl' hkp
      (fun i v m h1 h2 => ihk i v m h1 h2 (CEvo.refl _)) (fun i v m h1 h2 => ihv i v m h1 h2 (CEvo.refl _))
  | func f fa ca ra rc hl hl' h h' ih ih' =>
    exact fun hd => .func f fa ca ra rc hl hl' (fun i v r h1 h2 => ih i v r h1 h2 hd) (fun i v r h1 h2 => ih' i v r h1 h2 hd)

theorem CEvo.of_nil (c : Ctx) : CEvo Ctx.nil c := by
  refine ⟨Nat.zero_le _, ?_, ?_, ?_, ?_⟩ <;> · intros; simp_all [Ctx.nil]

structure Evo (lo : Nat) (c : Ctx) (w : World) (c' : Ctx) (w' : World) : Prop where
  W : WEvo w (okOf c lo) w' (okOf c' lo)
  C : CEvo c c'
  out : ∀ r : Nat, r < w.heap.size → ¬ c.M r → w'.heap[r]? = w.heap[r]?

theorem Evo.refl (lo : Nat) (c : Ctx) (w : World) : Evo lo c w c w := ⟨.refl _ _, .refl _, fun _ _ _ => rfl⟩

theorem Evo.noM {lo : Nat} {c c' : Ctx} {w w' : World} (h : Evo lo c w c' w') {r : Nat} (hr : r < w.heap.size) (hm : ¬ c.M r) : ¬ c'.M r :=
  (h.W.keep false r hr ⟨hm, fun h => by cases h⟩).1.1

theorem Evo.trans {lo : Nat} {c c' c'' : Ctx} {w w' w'' : World} (h : Evo lo c w c' w') (g : Evo lo c' w' c'' w'') : Evo lo c w c'' w'' :=
  ⟨h.W.trans g.W, h.C.trans g.C, fun r hr hm => (g.out r (Nat.lt_of_lt_of_le hr h.W.size) (h.noM hr hm)).trans (h.out r hr hm)⟩

theorem Evo.val {lo : Nat} {c c' : Ctx} {w w' : World} (h : Evo lo c w c' w') {v : HV} {rv : Value} (hv : V w (okOf c lo) c v rv) : V w' (okOf c' lo) c' v rv := hv.evo h.W h.C

theorem Evo.of {lo : Nat} {c c' : Ctx} {w w' : World} (os : w'.os = w.os) (tape : w'.tape = w.tape) (output : w'.output = w.output) (size : w.heap.size ≤ w'.heap.size)
    (out : ∀ r : Nat, r < w.heap.size → ¬ c.M r → ¬ c'.M r ∧ w'.heap[r]? = w.heap[r]?)
    (csize : ∀ (r : Nat) (cs : Array Value) (T : TypeId) (fz : Nat × Nat), w.heap[r]? = some (Obj.cells cs T fz) → ∃ cs' T' fz', w'.heap[r]? = some (Obj.cells cs' T' fz') ∧ cs'.size = cs.size) (hC : CEvo c c') : Evo lo c w c' w' :=
  ⟨⟨os, tape, output, size, fun _ r hr ho => ⟨⟨(out r hr ho.1).1, ho.2⟩, (out r hr ho.1).2⟩, csize⟩, hC, fun r hr hm => (out r hr hm).2⟩

def RelE (w : World) (c : Ctx) (lo : Nat) (e : Env) (tmps : Array Value) : Prop := ∀ t, V w (okOf c lo) c (e.get t) (tmps.getD t undef)

theorem RelE.evo {lo : Nat} {c c' : Ctx} {w w' : World} {e : Env} {tmps : Array Value} (h : RelE w c lo e tmps) (g : Evo lo c w c' w') : RelE w' c' lo e tmps := fun t => g.val (h t)

theorem RelE.put {lo : Nat} {c : Ctx} {w : World} {e : Env} {a : Act} {v : HV} {rv : Value} {d : Option Nat} (h : RelE w c lo e a.tmps) (hv : V w (okOf c lo) c v rv)
    (hd : ∀ t, d = some t → t < a.tmps.size) : RelE w c lo (e.put d v) (a.put d rv).tmps := by
  intro t
  cases d with
  | none => exact h t
  | some d =>
    have hlt := hd d rfl
    simp only [Env.put, Env.get, Act.put]
    by_cases ht : d = t
    · subst ht
      simp [hlt, hv]
    · have : (a.tmps.setIfInBounds d rv).getD t undef = a.tmps.getD t undef := by
        simp only [Array.getD_eq_getD_getElem?, Array.getElem?_setIfInBounds_ne ht]
      rw [if_neg ht, this]
      exact h t

theorem get_restr (keys : List Nat) (e : Env) (t : Nat) : (restr keys e).get t = .undef ∨ (restr keys e).get t = e.get t := by
  unfold restr
  induction keys with
  | nil => exact .inl rfl
  | cons x l ih =>
    simp only [List.map_cons, Env.get]
    by_cases h : x = t
    · subst h; simp
    · simpa [h] using ih

theorem RelE.restr {lo : Nat} {c : Ctx} {w : World} {e : Env} {tmps : Array Value} (h : RelE w c lo e tmps) (keys : List Nat) : RelE w c lo (restr keys e) tmps := by
  intro t
  rcases get_restr keys e t with h1 | h1 <;> rw [h1]
  · exact .undef _
  · exact h t

end Go.HL


/- Operations that make no block and read none: the model's and the ghost's agree. -/
namespace Go.HL
section
variable {w : World} {ok : Bool → Nat → Prop} {c : Ctx} {rv : Value}

theorem V.int_inv {k : IntKind} {n : Int} (h : V w ok c (.int k n) rv) : rv = .int k n := by cases h; rfl
theorem V.bool_inv {b : Bool} (h : V w ok c (.bool b) rv) : rv = .bool b := by cases h; rfl
theorem V.str_inv {s : ByteArray} (h : V w ok c (.str s) rv) : rv = .string s := by cases h; rfl
theorem V.nilmap_inv (h : V w ok c .nilmap rv) : rv = .map none := by cases h; rfl

theorem V.oneCell {v : HV} (h : V w ok c v rv) (hc : cellV v = true) : rv.oneCell' = true := by
  cases h <;> first | rfl | simp [cellV] at hc

theorem V.cells {v : HV} (h : V w ok c v rv) (hc : (cellsOf v).all cellV = true) :
    (cellsOf v).length = rv.cells.size ∧ (∀ (j : Nat) (x : HV) (y : Value), (cellsOf v)[j]? = some x → rv.cells[j]? = some y → V w ok c x y) ∧ (∀ u, u ∈ rv.cells.toList → u.oneCell' = true) := by
  have key : ∀ (v : HV) (rv : Value), V w ok c v rv → cellV v = true → cellsOf v = [v] → rv.cells = #[rv] →
      (cellsOf v).length = rv.cells.size ∧ (∀ (j : Nat) (x : HV) (y : Value), (cellsOf v)[j]? = some x → rv.cells[j]? = some y → V w ok c x y) ∧ (∀ u, u ∈ rv.cells.toList → u.oneCell' = true) := by
    intro v rv h hc e1 e2
    rw [e1, e2]
    refine ⟨rfl, fun j x y hx hy => ?_, fun u hu => ?_⟩
    · cases j with
      | zero => simp at hx hy; subst hx; subst hy; exact h
      | succ j => simp at hx
    · simp at hu; subst hu; exact h.oneCell hc
  cases h with
  | agg cs rs hl hcs hh =>
    refine ⟨hl, fun j x y hx hy => hh j x y hx hy, fun u hu => ?_⟩
    simp only [Value.cells, Array.mem_toList_iff] at hu
    obtain ⟨i, hi, rfl⟩ := Array.mem_iff_getElem.1 hu
    have hi' : i < cs.length := by omega
    exact (hh i cs[i] rs[i] (List.getElem?_eq_getElem hi') (Array.getElem?_eq_getElem hi)).oneCell (hcs _ (List.getElem_mem hi'))
  | undef v => simp [cellsOf, cellV] at hc
  | tuple cs rs hl hh => simp [cellsOf, cellV] at hc
  | _ => exact key _ _ (by constructor <;> assumption) rfl rfl rfl

theorem V_ofCell (v : Value) : V w ok c (ofCell v) v := by
  unfold ofCell
  split
  · exact .bool _
  · exact .int _ _
  · exact .str _
  · exact .imm .lit 0 [] none 0 (fun _ => undef) (by simp) (by simp) (by simp) (by simp) (by simp) (by simp)
  · exact .nilmap
  · exact .nilFunc
  · exact .undef _

theorem V_ofConst (v : Value) : V w ok c (ofConst v) v := by
  unfold ofConst
  split
  · rename_i cs
    split
    · rename_i h
      refine .agg _ _ (by simp) (fun v hv => List.all_eq_true.1 h v hv) (fun i v r hv hr => ?_)
      simp only [List.getElem?_map, Array.getElem?_toList, hr, Option.map_some, Option.some.injEq] at hv
      subst hv
      exact V_ofCell _
    · exact .undef _
  · exact V_ofCell _

theorem V_opVal {lo : Nat} {e : Env} {a : Act} (h : RelE w c lo e a.tmps) (x : Operand) : V w (okOf c lo) c (opVal e x) (a.eval x) := by
  cases x with
  | tmp t => exact h t
  | const v => exact V_ofConst v
  | global g => exact .undef _
  | func f => exact .func f [] [] #[] #[] rfl rfl (by simp) (by simp)

def StepOk (P : Program) (lo : Nat) (c : Ctx) (w : World) (s : Sem Value) (v : HV) (H' : Heap) : Prop :=
  ∃ c' w' rv, s.run P w = .ok rv w' ∧ c'.H = H' ∧ Rel lo c' w' ∧ V w' (okOf c' lo) c' v rv ∧ Evo lo c w c' w'

theorem StepOk.pure {P : Program} {lo : Nat} {s : Sem Value} {v : HV} (hR : Rel lo c w) (hr : s.run P w = .ok rv w) (hv : V w (okOf c lo) c v rv) : StepOk P lo c w s v c.H :=
  ⟨c, w, rv, hr, rfl, hR, hv, .refl _ _ _⟩

variable {P : Program}

theorem run_asIntOf (k : IntKind) (n : Int) : (asIntOf (.int k n)).run P w = .ok (k, n) w := rfl
theorem run_und {t : TypeId} {d : TypeDesc} (h : P.underlying t = some d) : (underlying t).run P w = .ok d w := by simp [underlying, h]
theorem run_info {t : TypeId} {i : TypeInfo} (h : P.info? t = some i) : (typeInfo t).run P w = .ok i w := by simp [typeInfo, h]
theorem run_size {t : TypeId} {n : Nat} (h : tySize P t = some n) : (sizeOf t).run P w = .ok n w := by
  unfold tySize at h
  cases hi : P.info? t with
  | none => simp [hi] at h
  | some i => simp [hi] at h; simp [sizeOf, typeInfo, hi, h]
theorem und_of_agg {t : TypeId} (h : tyAgg P t = true) : (isAgg t).run P w = .ok true w := by
  unfold tyAgg at h
  split at h
  · rename_i fs hu; simp [isAgg, run_und hu]
  · rename_i n e hu; simp [isAgg, run_und hu]
  · cases h
theorem und_of_noagg {t : TypeId} {d : TypeDesc} (hd : P.underlying t = some d) (h : tyAgg P t = false) : (isAgg t).run P w = .ok false w := by
  unfold tyAgg at h
  cases d <;> simp_all [isAgg, run_und hd]

theorem run_eqGuard_int (op : BinOp) (t : TypeId) (x y : Operand) (k k' : IntKind) (a b : Int) : (eqGuard op t x y (.int k a) (.int k' b)).run P w = .ok () w := by cases op <;> rfl
theorem run_eqGuard_bool (op : BinOp) (t : TypeId) (x y : Operand) (a b : Bool) : (eqGuard op t x y (.bool a) (.bool b)).run P w = .ok () w := by cases op <;> rfl
theorem run_eqGuard_slice (op : BinOp) (t : TypeId) (x y : Operand) (a : Option Addr) (n c : Nat) (b : Option Addr) (m d : Nat) : (eqGuard op t x y (.slice a n c) (.slice b m d)).run P w = .ok () w := by cases op <;> rfl

theorem intBin_run {op : BinOp} {k : IntKind} {a b : Int} {v : HV} {t : TypeId} {x y : Operand} (h : intBin op k a b = some v) :
    ∃ rv, (do eqGuard op t x y (.int k a) (.int k b); binOp op t (.int k a) (.int k b) : Sem Value).run P w = .ok rv w ∧ V w ok c v rv := by
  simp only [Sem.run_bind, run_eqGuard_int, Result.andThen_ok]
  cases op <;> simp only [intBin] at h
  case quo =>
    split at h
    · cases h
    · rename_i hb; cases h; exact ⟨.int k (k.wrap (a.tdiv b)), by simp [binOp, Op.intDiv, hb], .int _ _⟩
  case rem =>
    split at h
    · cases h
    · rename_i hb; cases h; exact ⟨.int k (a.tmod b), by simp [binOp, Op.intDiv, hb], .int _ _⟩
  case shl =>
    split at h
    · cases h
    · rename_i hb; cases h; exact ⟨.int k (k.wrap (a * 2 ^ min b.toNat k.bits)), by simp [binOp, Op.shift, hb], .int _ _⟩
  case shr =>
    split at h
    · cases h
    · rename_i hb; cases h; exact ⟨.int k (a.fdiv (2 ^ min b.toNat k.bits)), by simp [binOp, Op.shift, hb], .int _ _⟩
  all_goals (cases h; refine ⟨_, ?_, by constructor⟩; simp only [binOp, ne_eq, not_true_eq_false, if_false]; rfl)

theorem binV_int_run {op : BinOp} {k k' : IntKind} {a b : Int} {v : HV} {t : TypeId} {x y : Operand} (h : binV P op t (.int k a) (.int k' b) = some v) :
    ∃ rv, (do eqGuard op t x y (.int k a) (.int k' b); binOp op t (.int k a) (.int k' b) : Sem Value).run P w = .ok rv w ∧ V w ok c v rv := by
  have hs : ∀ op', (op' = BinOp.shl ∨ op' = BinOp.shr) → intBin op' k a b = some v →
      ∃ rv, (do eqGuard op' t x y (.int k a) (.int k' b); binOp op' t (.int k a) (.int k' b) : Sem Value).run P w = .ok rv w ∧ V w ok c v rv := by
    intro op' ho h
    simp only [Sem.run_bind, run_eqGuard_int, Result.andThen_ok]
    rcases ho with rfl | rfl <;> simp only [intBin] at h <;> split at h
    · cases h
    · rename_i hb; cases h; exact ⟨.int k (k.wrap (a * 2 ^ min b.toNat k.bits)), by simp [binOp, Op.shift, hb], .int _ _⟩
    · cases h
    · rename_i hb; cases h; exact ⟨.int k (a.fdiv (2 ^ min b.toNat k.bits)), by simp [binOp, Op.shift, hb], .int _ _⟩
  by_cases ho : op = .shl ∨ op = .shr
  · refine hs op ho ?_
    rcases ho with rfl | rfl <;> exact h
  · have hk : (if k = k' then intBin op k a b else none) = some v := by
      cases op <;> first | exact h | simp at ho
    split at hk
    · rename_i e; subst e; exact intBin_run hk
    · cases hk

theorem run_equalIn_bool (d : Nat) {t : TypeId} {a b : Bool} (hu : P.underlying t = some .bool) : (Op.equalIn (d + 1) t (.bool a) (.bool b)).run P w = .ok (a == b) w := by
  simp [Op.equalIn, run_und hu]
theorem run_equalIn_int (d : Nat) {t : TypeId} {q k : IntKind} {a b : Int} (hu : P.underlying t = some (.int q)) : (Op.equalIn (d + 1) t (.int k a) (.int k b)).run P w = .ok (a == b) w := by
  simp [Op.equalIn, run_und hu]
theorem run_equalIn_nil (d : Nat) {t e : TypeId} {a : Option Addr} {n cap : Nat} (hu : P.underlying t = some (.slice e)) : (Op.equalIn (d + 1) t (.slice a n cap) (.slice none 0 0)).run P w = .ok a.isNone w := by
  cases a <;> simp [Op.equalIn, run_und hu]

theorem binV_bool_run {op : BinOp} {a b : Bool} {v : HV} {t : TypeId} {x y : Operand} (h : binV P op t (.bool a) (.bool b) = some v) :
    ∃ rv, (do eqGuard op t x y (.bool a) (.bool b); binOp op t (.bool a) (.bool b) : Sem Value).run P w = .ok rv w ∧ V w ok c v rv := by
  have heq : P.underlying t = some .bool → (Op.equal t (.bool a) (.bool b)).run P w = .ok (a == b) w := fun hu => run_equalIn_bool 9999 hu
  simp only [Sem.run_bind, run_eqGuard_bool, Result.andThen_ok]
  simp only [binV] at h
  split at h
  · rename_i hu; cases h
    exact ⟨_, by simp only [binOp, Sem.run_bind, heq hu, Result.andThen_ok, Sem.run_pure], .bool _⟩
  · rename_i hu; cases h
    exact ⟨_, by simp only [binOp, Sem.run_bind, heq hu, Result.andThen_ok, Sem.run_pure], .bool _⟩
  · cases h

theorem unV_run {op : UnOp} {x v : HV} {rx : Value} (hx : V w ok c x rx) (h : unV op x = some v) :
    ∃ rv, (Op.unary op rx).run P w = .ok rv w ∧ V w ok c v rv := by
  unfold unV at h
  split at h
  · cases h; rw [hx.bool_inv]; exact ⟨_, rfl, .bool _⟩
  · cases h; rw [hx.int_inv]; exact ⟨_, rfl, .int _ _⟩
  · cases h

theorem nilTest_run {op : BinOp} {t : TypeId} {x v : HV} {rx : Value} {ox oy : Operand} (hx : V w ok c x rx) (h : nilTest P op t x = some v) :
    ∃ rv, (do eqGuard op t ox oy rx (.slice none 0 0); binOp op t rx (.slice none 0 0) : Sem Value).run P w = .ok rv w ∧ V w ok c v rv := by
  unfold nilTest at h
  split at h
  rotate_left
  · cases h
  rename_i e hu
  have key : ∀ (r : Bool) (a : Option Addr) (n cap : Nat), (r = a.isNone) → nilOp r op = some v →
      ∃ rv, (do eqGuard op t ox oy (.slice a n cap) (.slice none 0 0); binOp op t (.slice a n cap) (.slice none 0 0) : Sem Value).run P w = .ok rv w ∧ V w ok c v rv := by
    intro r a n cap hr h
    subst hr
    have heq : (Op.equal t (.slice a n cap) (.slice none 0 0)).run P w = .ok a.isNone w := run_equalIn_nil 9999 hu
    simp only [Sem.run_bind, run_eqGuard_slice, Result.andThen_ok]
    cases op <;> simp only [nilOp, reduceCtorEq, Option.some.injEq] at h
    · subst h; exact ⟨_, by simp only [binOp, Sem.run_bind, heq, Result.andThen_ok, Sem.run_pure], .bool _⟩
    · subst h; exact ⟨_, by simp only [binOp, Sem.run_bind, heq, Result.andThen_ok, Sem.run_pure], .bool _⟩
  cases hx with
  | nilS k cap => exact key true none 0 cap rfl h
  | empS k a cap => exact key false (some a) 0 cap rfl h
  | imm g k l a cap f hcap hlit haddr hk hc hv =>
    cases l with
    | nil => simp [knownNil] at h
    | cons y l =>
      obtain ⟨r, off, ha, _⟩ := haddr (by simp)
      subst ha
      exact key false _ _ _ rfl h
  | sl b off len cap tot k a cap' hs =>
    cases len with
    | zero => simp [knownNil] at h
    | succ n =>
      obtain ⟨_, _, h3, _⟩ := hs
      have := h3 (by omega)
      cases a with
      | none => simp at this
      | some a => exact key false _ _ _ rfl h
  | _ => simp [knownNil] at h

theorem partV_run {t : TypeId} {cs : List HV} {off : Nat} {v : HV} {rs : Array Value}
    (hl : cs.length = rs.size) (hc : ∀ v, v ∈ cs → cellV v = true)
    (hh : ∀ (i : Nat) (v : HV) (r : Value), cs[i]? = some v → rs[i]? = some r → V w ok c v r) (h : partV P t cs off = some v) :
    ∃ rv, (part t rs off).run P w = .ok rv w ∧ V w ok c v rv := by
  unfold partV at h
  split at h
  · rename_i ha
    split at h
    · rename_i n hn
      split at h
      · rename_i hle
        cases h
        refine ⟨.agg (rs.extract off (off + n)), by simp [part, und_of_agg ha, run_size hn], .agg _ _ ?_ (fun v hv => hc v (List.mem_of_mem_drop (List.mem_of_mem_take hv))) ?_⟩
        · simp; omega
        · intro i v r hv hr
          have hi : i < n := by
            rcases Nat.lt_or_ge i n with h | h
            · exact h
            · rw [List.getElem?_take, if_neg (by omega)] at hv; cases hv
          rw [List.getElem?_take, if_pos hi, List.getElem?_drop] at hv
          refine hh (off + i) v r hv ?_
          rw [Array.getElem?_extract] at hr
          split at hr
          · exact hr
          · cases hr
      · cases h
    · cases h
  · rename_i ha
    have ha' : tyAgg P t = false := by simpa using ha
    split at h
    rotate_left
    · cases h
    rename_i hs
    obtain ⟨d, hd⟩ := Option.isSome_iff_exists.1 hs
    have hi : off < cs.length := by
      rcases Nat.lt_or_ge off cs.length with h' | h'
      · exact h'
      · rw [List.getElem?_eq_none h'] at h; cases h
    have hr : rs[off]? = some rs[off] := Array.getElem?_eq_getElem (by omega)
    exact ⟨rs[off], by simp [part, und_of_noagg hd ha', hr], hh off v _ h hr⟩

end
end Go.HL


/- Addresses, parts, slices, lengths, loads. -/
namespace Go.HL
section
variable {w : World} {ok : Bool → Nat → Prop} {c : Ctx} {rv : Value} {P : Program}

theorem add_none (r o n : Nat) : (⟨r, o, none⟩ : Addr).add n = ⟨r, o + n, none⟩ := by unfold Addr.add; split <;> simp_all

theorem loadAgg_run {t : TypeId} {n r o : Nat} {f : Nat → Value} (ha : tyAgg P t = true) (hn : tySize P t = some n) (h : ∀ j, j < n → w.cell? ⟨r, o + j, none⟩ = some (f j)) :
    (loadVar t ⟨r, o, none⟩).run P w = .ok (.agg ((List.range n).map f).toArray) w := by
  simp only [loadVar, Sem.run_bind, und_of_agg ha, Result.andThen_ok, if_true, run_size hn]
  rw [run_loadCells w _ n f (fun j hj => by rw [add_none]; exact h j hj)]
  rfl

theorem loadOne_run {t : TypeId} {a : Addr} {v : Value} (ha : tyAgg P t = false) (hs : (P.underlying t).isSome = true) (h : w.cell? a = some v) :
    (loadVar t a).run P w = .ok v w := by
  obtain ⟨d, hd⟩ := Option.isSome_iff_exists.1 hs
  simp [loadVar, und_of_noagg hd ha, h]

theorem V_agg_range {cs : List HV} {n : Nat} {f : Nat → Value} (hl : cs.length = n) (hc : cs.all cellV = true) (h : ∀ (j : Nat) (x : HV), cs[j]? = some x → V w ok c x (f j)) :
    V w ok c (.agg cs) (.agg ((List.range n).map f).toArray) := by
  refine .agg _ _ (by simp [hl]) (fun v hv => List.all_eq_true.1 hc v hv) (fun i v r hv hr => ?_)
  have hi : i < n := by
    rcases Nat.lt_or_ge i n with h' | h'
    · exact h'
    · rw [List.getElem?_eq_none (by omega)] at hv; cases hv
  simp [hi] at hr
  subst hr
  exact h i v hv

theorem V.cellsEq {v : HV} (h : V w ok c v rv) (hc : (cellsOf v).all cellV = true) (ha : isAggV v = false) : cellsOf v = [v] ∧ cellV v = true := by
  cases h with
  | agg cs rs hl hcs hh => simp [isAggV] at ha
  | _ => simp_all [cellsOf]

theorem load_vptr {t : TypeId} {x v : HV} {lo : Nat} (hx : V w (okOf c lo) c (.vptr x) rv)
    (h : loadV P c.H t (.vptr x) = some v) : ∃ r, (Instr.loadAt t rv).run P w = .ok r w ∧ V w (okOf c lo) c v r := by
  cases hx with
  | vptr x r o f hr hok hc h1 hh =>
    have hh' : ∀ (j : Nat) (y : HV), (cellsOf x)[j]? = some y → V w (okOf c lo) c y (f j) := fun j y hy => (hh j y hy).evo (WEvo.refl _ _) (CEvo.of_nil c)
    by_cases hx : ∃ cs, x = .agg cs
    · obtain ⟨cs, rfl⟩ := hx
      simp only [loadV] at h
      split at h
      · rename_i hq
        cases h
        refine ⟨_, ?_, V_agg_range rfl hc hh'⟩
        show (loadVar t ⟨r, o, none⟩).run P w = _
        exact loadAgg_run hq.1 hq.2 h1
      · cases h
    · have h' : tyAgg P t = false ∧ (P.underlying t).isSome ∧ x = v := by
        cases x <;> simp [loadV] at h hx <;> exact ⟨h.1.1, h.1.2, h.2⟩
      obtain ⟨q1, q2, rfl⟩ := h'
      have hcs : cellsOf x = [x] := by cases x <;> first | rfl | exact absurd ⟨_, rfl⟩ hx
      refine ⟨f 0, ?_, hh' 0 x (by simp [hcs])⟩
      show (loadVar t ⟨r, o, none⟩).run P w = _
      exact loadOne_run q1 q2 (by simpa using h1 0 (by simp [hcs]))

theorem load_ptr {t : TypeId} {b i off tot : Nat} {v : HV} {lo : Nat} (hR : Rel lo c w) (hx : V w (okOf c lo) c (.ptr b i off tot) rv)
    (h : loadV P c.H t (.ptr b i off tot) = some v) : ∃ r, (Instr.loadAt t rv).run P w = .ok r w ∧ V w (okOf c lo) c v r := by
  cases hx with
  | ptr b i off tot a hp =>
    obtain ⟨blk, hb, hp⟩ := hp
    simp only [loadV, hb] at h
    split at h
    rotate_left
    · cases h
    rename_i k els wr mx heq
    cases heq
    split at h
    rotate_left
    · cases h
    rename_i ht
    split at h
    rotate_left
    · cases h
    rename_i u hu
    obtain ⟨_, hp⟩ := hp
    obtain ⟨r, hs, rfl⟩ := hp ht
    have hB := hR.blk b _ hb
    simp only [BlkOk, hs] at hB
    obtain ⟨hel, hlo, cs, T, hw, hle, hcell⟩ := hB
    obtain ⟨hk, hcu, _⟩ := hel u (List.mem_of_getElem? hu)
    have hcc : ∀ (j : Nat) (x : HV), (cellsOf u)[j]? = some x → ∃ y, w.cell? ⟨r, i * k + j, none⟩ = some y ∧ V w (okOf c lo) c x y := by
      intro j x hx
      obtain ⟨y, hy, hv⟩ := hcell i u j x hu hx
      exact ⟨y, by simp [World.cell?, hw, hy], hv⟩
    show ∃ q, (loadVar t ⟨r, i * k + off, none⟩).run P w = .ok q w ∧ _
    unfold partV at h
    split at h
    · rename_i ha
      split at h
      · rename_i n hn
        split at h
        · rename_i hle'
          cases h
          have hcell' : ∀ j, j < n → ∃ y, w.cell? ⟨r, i * k + off + j, none⟩ = some y ∧ V w (okOf c lo) c ((cellsOf u).getD (off + j) .undef) y := by
            intro j hj
            have hlt : off + j < (cellsOf u).length := by omega
            obtain ⟨y, hy, hv⟩ := hcc (off + j) _ (List.getElem?_eq_getElem hlt)
            exact ⟨y, by rw [Nat.add_assoc]; exact hy, by simpa [List.getD, List.getElem?_eq_getElem hlt] using hv⟩
          refine ⟨_, loadAgg_run (f := fun j => (w.cell? ⟨r, i * k + off + j, none⟩).getD undef) ha hn (fun j hj => by obtain ⟨y, hy, _⟩ := hcell' j hj; simp [hy]), V_agg_range (by simp; omega) ?_ ?_⟩
          · exact List.all_eq_true.2 fun x hx => List.all_eq_true.1 hcu x (List.mem_of_mem_drop (List.mem_of_mem_take hx))
          · intro j x hx
            have hj : j < n := by
              rcases Nat.lt_or_ge j n with h' | h'
              · exact h'
              · rw [List.getElem?_take, if_neg (by omega)] at hx; cases hx
            rw [List.getElem?_take, if_pos hj, List.getElem?_drop] at hx
            obtain ⟨y, hy, hv⟩ := hcell' j hj
            simp only [hy, Option.getD_some]
            simpa [List.getD, hx] using hv
        · cases h
      · cases h
    · rename_i ha
      split at h
      · rename_i hsm
        obtain ⟨y, hy, hv⟩ := hcc off v h
        exact ⟨y, loadOne_run (by simpa using ha) hsm hy, hv⟩
      · cases h

theorem loadV_run {t : TypeId} {x v : HV} {lo : Nat} (hR : Rel lo c w) (hx : V w (okOf c lo) c x rv)
    (h : loadV P c.H t x = some v) : ∃ r, (Instr.loadAt t rv).run P w = .ok r w ∧ V w (okOf c lo) c v r := by
  cases x with
  | vptr x => exact load_vptr hx h
  | ptr b i off tot => exact load_ptr hR hx h
  | _ => simp [loadV] at h

end
end Go.HL


/- Addresses of elements and fields, parts, slices, lengths. -/
namespace Go.HL
section
variable {w : World} {c : Ctx} {rv ri : Value} {P : Program} {lo : Nat}

theorem ok_false {t : Bool} {r : Nat} (h : okOf c lo t r) : okOf c lo false r := ⟨h.1, fun h => by cases h⟩

theorem indexAt_slice {t e : TypeId} {k len cap : Nat} {ad : Addr} {q : IntKind} {n : Int} (hu : P.underlying t = some (.slice e)) (hs : tySize P e = some k) (h0 : 0 ≤ n) (hl : n < len) :
    (Instr.indexAt t (.slice (some ad) len cap) (.int q n)).run P w = .ok (.pointer (some (ad.add (n.toNat * k)))) w := by
  simp [Instr.indexAt, run_und hu, run_asIntOf, h0, hl, run_size hs]

theorem indexAt_array {t e : TypeId} {k len : Nat} {ad : Addr} {q : IntKind} {n : Int} (hu : P.underlying t = some (.array len e)) (hs : tySize P e = some k) (h0 : 0 ≤ n) (hl : n < len) :
    (Instr.indexAt t (.pointer (some ad)) (.int q n)).run P w = .ok (.pointer (some (ad.add (n.toNat * k)))) w := by
  simp [Instr.indexAt, Instr.sureAddr, run_und hu, run_asIntOf, h0, hl, run_size hs]

theorem vptr_part {t : TypeId} {cs : List HV} {off : Nat} {v : HV} {r o : Nat} {f : Nat → Value} (hr : r < w.heap.size) (hok : okOf c lo false r)
    (hc : cs.all cellV = true) (h1 : ∀ j, j < cs.length → w.cell? ⟨r, o + j, none⟩ = some (f j)) (hh : ∀ (j : Nat) (x : HV), cs[j]? = some x → V w (okOf c lo) Ctx.nil x (f j))
    (h : partV P t cs off = some v) : V w (okOf c lo) c (.vptr v) (.pointer (some ⟨r, o + off, none⟩)) := by
  unfold partV at h
  split at h
  · split at h
    · rename_i n hn
      split at h
      · rename_i hle
        cases h
        refine .vptr _ r (o + off) (fun j => f (off + j)) hr hok ?_ ?_ ?_
        · exact List.all_eq_true.2 fun x hx => List.all_eq_true.1 hc x (List.mem_of_mem_drop (List.mem_of_mem_take hx))
        · intro j hj
          simp [cellsOf] at hj
          rw [Nat.add_assoc]
          exact h1 (off + j) (by omega)
        · intro j x hx
          simp only [cellsOf] at hx
          have hj : j < n := by
            rcases Nat.lt_or_ge j n with h' | h'
            · exact h'
            · rw [List.getElem?_take, if_neg (by omega)] at hx; cases hx
          rw [List.getElem?_take, if_pos hj, List.getElem?_drop] at hx
          exact hh (off + j) x hx
      · cases h
    · cases h
  · split at h
    · have hcv : cellV v = true := List.all_eq_true.1 hc v (List.mem_of_getElem? h)
      have hcs : cellsOf v = [v] := by cases v <;> first | rfl | simp [cellV] at hcv
      have hlt : off < cs.length := by
        rcases Nat.lt_or_ge off cs.length with h' | h'
        · exact h'
        · rw [List.getElem?_eq_none h'] at h; cases h
      refine .vptr _ r (o + off) (fun j => f (off + j)) hr hok (by simp [hcs, hcv]) ?_ ?_
      · intro j hj
        have : j = 0 := by simpa [hcs] using hj
        subst this
        exact h1 off hlt
      · intro j x hx
        rw [hcs] at hx
        cases j with
        | zero => simp at hx; subst hx; exact hh off _ h
        | succ j => simp at hx
    · cases h

theorem idxV_run {t : TypeId} {x i v : HV} (hx : V w (okOf c lo) c x rv) (hi : V w (okOf c lo) c i ri) (h : idxV P t x i = some v) :
    ∃ r, (Instr.indexAt t rv ri).run P w = .ok r w ∧ V w (okOf c lo) c v r := by
  unfold idxV at h
  split at h
  rotate_left
  · cases h
  rename_i q n
  have := hi.int_inv; subst this
  split at h
  · rename_i e hu
    split at h
    · rename_i g k l
      split at h
      rotate_left
      · cases h
      rename_i hq
      obtain ⟨h0, hl, hs⟩ := hq
      split at h
      rotate_left
      · cases h
      rename_i u hu'
      cases h
      cases hx with
      | imm g k l a cap f hcap hlit haddr hk hc hv =>
        have hne : l ≠ [] := by rintro rfl; simp at hu'
        obtain ⟨r, off, rfl, hr, hok, hcell⟩ := haddr hne
        refine ⟨_, indexAt_slice hu hs h0 hl, ?_⟩
        rw [add_none]
        have hku := hk u (List.mem_of_getElem? hu')
        have hlt : n.toNat < l.length := by omega
        have hmul : (n.toNat + 1) * k ≤ l.length * k := Nat.mul_le_mul_right k hlt
        rw [Nat.add_mul, Nat.one_mul] at hmul
        refine .vptr u r (off + n.toNat * k) (fun j => f (n.toNat * k + j)) hr (ok_false hok) (hc u (List.mem_of_getElem? hu')) ?_ ?_
        · intro j hj
          rw [Nat.add_assoc]
          exact hcell _ (by omega)
        · intro j y hy
          exact hv n.toNat u j y hu' hy
    · rename_i b off len cap tot k
      split at h
      rotate_left
      · cases h
      rename_i hq
      obtain ⟨h0, hl, hs⟩ := hq
      cases h
      cases hx with
      | sl b off len cap tot k a cap' hsl =>
        obtain ⟨h1, h2, h3, blk, hb, h4⟩ := hsl
        have hsome := h3 (by omega)
        obtain ⟨ad, rfl⟩ := Option.isSome_iff_exists.1 hsome
        refine ⟨_, indexAt_slice hu hs h0 hl, .ptr _ _ _ _ _ ⟨blk, hb, ?_⟩⟩
        match blk, h4 with
        | .arr k' els wr mx, h4 =>
          obtain ⟨h5, h6⟩ := h4
          refine ⟨h5, fun ht => ?_⟩
          obtain ⟨hk, h7⟩ := h6 ht
          revert h7
          cases c.σ b with
          | none => rintro ⟨h8, _⟩; omega
          | some r =>
            rintro ⟨h8, _⟩
            have := h8 (by omega)
            cases this
            subst hk
            exact ⟨r, rfl, by rw [add_none]; simp [Nat.add_mul]⟩
        | .dead, _ => trivial
        | .map _ _ _, h4 => exact h4
        | .iter _ _ _ _, h4 => exact h4.elim
    · cases h
  · rename_i m e hu
    split at h
    rotate_left
    · cases h
    rename_i hq
    split at h
    · rename_i cs s hs
      cases hp : partV P e cs (n.toNat * s) with
      | none => simp [hp] at h
      | some u =>
        simp [hp] at h; subst h
        cases hx with
        | vptr v r o f hr hok hc h1 hh =>
          refine ⟨_, indexAt_array hu hs hq.1 hq.2, ?_⟩
          rw [add_none]
          exact vptr_part hr hok hc h1 hh hp
    · rename_i b j off tot s hs
      cases h
      cases hx with
      | ptr b i off tot a hp =>
        refine ⟨_, indexAt_array hu hs hq.1 hq.2, .ptr _ _ _ _ _ ?_⟩
        obtain ⟨blk, hb, hp⟩ := hp
        refine ⟨blk, hb, ?_⟩
        match blk, hp with
        | .arr k' els wr mx, hp =>
          refine ⟨hp.1, fun ht => ?_⟩
          obtain ⟨r, h1, rfl⟩ := hp.2 ht
          exact ⟨r, h1, by rw [add_none]; simp [Nat.add_assoc]⟩
        | .dead, _ => trivial
        | .map _ _ _, hp => exact hp
        | .iter _ _ _ _, hp =>
          rintro ⟨q1, q2, q3⟩
          obtain ⟨r, h1, rfl⟩ := hp ⟨q1, by omega, q3⟩
          exact ⟨r, h1, by rw [add_none]; simp; omega⟩
    · cases h
  · cases h

theorem fldAddrV_run {s : TypeId} {x v : HV} {fl : Nat} (hx : V w (okOf c lo) c x rv) (h : fldAddrV P s x fl = some v) :
    ∃ r, (Instr.fieldAt s rv fl).run P w = .ok r w ∧ V w (okOf c lo) c v r := by
  unfold fldAddrV at h
  split at h
  rotate_left
  · cases h
  rename_i fs hu
  split at h
  rotate_left
  · cases h
  rename_i fd hf
  split at h
  · cases h
  rename_i hz
  have hz1 : tySize P fd.type ≠ some 0 := fun h => hz (.inl h)
  have hz2 : tySize P fd.type ≠ none := fun h => hz (.inr h)
  obtain ⟨sz, hsz⟩ := Option.ne_none_iff_exists'.1 hz2
  have hsz0 : sz ≠ 0 := by rintro rfl; exact hz1 hsz
  have hrun : ∀ ad : Addr, (Instr.fieldAt s (.pointer (some ad)) fl).run P w = .ok (.pointer (some (ad.add fd.offset))) w := by
    intro ad
    simp [Instr.fieldAt, Instr.sureAddr, run_und hu, hf, fieldPlace, run_size hsz, hsz0]
  split at h
  · rename_i cs
    cases hp : partV P fd.type cs fd.offset with
    | none => simp [hp] at h
    | some u =>
      simp [hp] at h; subst h
      cases hx with
      | vptr v r o f hr hok hc h1 hh =>
        refine ⟨_, hrun _, ?_⟩
        rw [add_none]
        exact vptr_part hr hok hc h1 hh hp
  · rename_i b j off tot
    cases h
    cases hx with
    | ptr b i off tot a hp =>
      refine ⟨_, hrun _, .ptr _ _ _ _ _ ?_⟩
      obtain ⟨blk, hb, hp⟩ := hp
      refine ⟨blk, hb, ?_⟩
      match blk, hp with
      | .arr k' els wr mx, hp =>
        refine ⟨hp.1, fun ht => ?_⟩
        obtain ⟨r, h1, rfl⟩ := hp.2 ht
        exact ⟨r, h1, by rw [add_none]; simp [Nat.add_assoc]⟩
      | .dead, _ => trivial
      | .map _ _ _, hp => exact hp
      | .iter _ _ _ _, hp =>
        rintro ⟨q1, q2, q3⟩
        obtain ⟨r, h1, rfl⟩ := hp ⟨q1, by omega, q3⟩
        exact ⟨r, h1, by rw [add_none]; simp; omega⟩
  · cases h

theorem fldV_run {t : TypeId} {x v : HV} {fl : Nat} (hx : V w (okOf c lo) c x rv) (h : fldV P t x fl = some v) :
    ∃ r, (Instr.field t rv fl).run P w = .ok r w ∧ V w (okOf c lo) c v r := by
  unfold fldV at h
  split at h
  rotate_left
  · cases h
  rename_i fs cs hu
  split at h
  rotate_left
  · cases h
  rename_i fd hf
  cases hx with
  | agg cs rs hl hc hh =>
    obtain ⟨r, h1, h2⟩ := partV_run hl hc hh h
    exact ⟨r, by simp [Instr.field, run_und hu, hf, asAgg, h1], h2⟩

theorem elemV_run {t : TypeId} {x i v : HV} (hx : V w (okOf c lo) c x rv) (hi : V w (okOf c lo) c i ri) (h : elemV P t x i = some v) :
    ∃ r, (Instr.index t rv ri).run P w = .ok r w ∧ V w (okOf c lo) c v r := by
  unfold elemV at h
  split at h
  · rename_i m e cs q n hu
    split at h
    rotate_left
    · cases h
    rename_i hq
    split at h
    rotate_left
    · cases h
    rename_i s hs
    have := hi.int_inv; subst this
    cases hx with
    | agg cs rs hl hc hh =>
      obtain ⟨r, h1, h2⟩ := partV_run hl hc hh h
      exact ⟨r, by simp [Instr.index, run_und hu, run_asIntOf, hq, run_size hs, h1], h2⟩
  · rename_i s q n hu
    split at h
    rotate_left
    · cases h
    rename_i hq
    have := hi.int_inv; subst this
    have := hx.str_inv; subst this
    cases hb : s[n.toNat]? with
    | none => simp [hb] at h
    | some b =>
      simp [hb] at h; subst h
      exact ⟨_, by simp [Instr.index, run_und hu, run_asIntOf, hq, hb], .int _ _⟩
  · cases h

end
end Go.HL


/- Slices of slices, lengths, the least and the greatest, tuples. -/
namespace Go.HL
section
variable {w : World} {c : Ctx} {rv ri : Value} {P : Program} {lo : Nat}

inductive OV : Option Value → Option Nat → Prop
  | none : OV none none
  | some (k : IntKind) (n : Nat) : OV (some (.int k n)) (some n)

theorem OV_of {ok : Bool → Nat → Prop} {o : Option HV} {ro : Option Value} {n : Option Nat}
    (h0 : o = none → ro = none) (h1 : ∀ v, o = some v → ∃ r, ro = some r ∧ V w ok c v r) (h : boundV o = some n) : OV ro n := by
  unfold boundV at h
  split at h
  · cases h; rw [h0 rfl]; exact .none
  · rename_i k m
    split at h
    · rename_i hm
      cases h
      obtain ⟨r, rfl, hr⟩ := h1 _ rfl
      rw [hr.int_inv]
      have : m = ((m.toNat : Nat) : Int) := by omega
      rw [this]
      exact .some k m.toNat
    · cases h
  · cases h

theorem sliceBound_run {k : IntKind} {n y : Nat} {code : BoundsCode} (h : n ≤ y) : (Instr.sliceBound (.int k n) y code).run P w = .ok n w := by
  simp [Instr.sliceBound, run_asIntOf, h]

theorem sliceBounds_run {s : Bool} {len cap : Nat} {low high max : Option Value} {l h m : Option Nat} (hl : OV low l) (hh : OV high h) (hm : OV max m)
    (h1 : m.getD cap ≤ cap) (h2 : h.getD len ≤ m.getD cap) (h3 : l.getD 0 ≤ h.getD len) (h4 : m.isSome = true → h.isSome = true) :
    (Instr.sliceBounds s len cap low high max).run P w = .ok (l.getD 0, h.getD len, m.getD cap) w := by
  cases hl <;> cases hh <;> cases hm <;> simp_all [Instr.sliceBounds, sliceBound_run]

theorem slice_run {t e : TypeId} {k len cap : Nat} {a : Option Addr} {low high max : Option Value} {l h m : Option Nat} (hu : P.underlying t = some (.slice e)) (hs : tySize P e = some k)
    (hl : OV low l) (hh : OV high h) (hm : OV max m)
    (h1 : m.getD cap ≤ cap) (h2 : h.getD len ≤ m.getD cap) (h3 : l.getD 0 ≤ h.getD len) (h4 : m.isSome = true → h.isSome = true) :
    (Instr.sliceAt t (.slice a len cap) low high max).run P w =
      .ok (.slice (if m.getD cap = l.getD 0 then a else a.map (·.add (l.getD 0 * k))) (h.getD len - l.getD 0) (m.getD cap - l.getD 0)) w := by
  simp [Instr.sliceAt, run_und hu, Instr.slice, sliceBounds_run hl hh hm h1 h2 h3 h4, run_size hs]

theorem sliceArr_run {t e : TypeId} {k n : Nat} {a : Addr} {low high : Option Value} {l h : Option Nat} (hu : P.underlying t = some (.array n e)) (hs : tySize P e = some k)
    (hl : OV low l) (hh : OV high h) (h2 : h.getD n ≤ n) (h3 : l.getD 0 ≤ h.getD n) :
    (Instr.sliceAt t (.pointer (some a)) low high none).run P w =
      .ok (.slice (some (if n = l.getD 0 then a else a.add (l.getD 0 * k))) (h.getD n - l.getD 0) (n - l.getD 0)) w := by
  have := sliceBounds_run (P := P) (w := w) (s := false) (len := n) (cap := n) hl hh OV.none (by simp) (by simpa using h2) h3 (by simp)
  simp [Instr.sliceAt, run_und hu, Instr.sureAddr, this, run_size hs]

theorem V_imm_nil (k : Nat) (a : Option Addr) : V w (okOf c lo) c (.imm .lit k []) (.slice a 0 0) :=
  .imm .lit k [] a 0 (fun _ => undef) (by simp) (by simp) (by simp) (by simp) (by simp) (by simp)

theorem V_imm_cut {g g' : G} {k : Nat} {l : List HV} {a : Option Addr} {cap cap' i n : Nat} (h : V w (okOf c lo) c (.imm g k l) (.slice a l.length cap))
    (hin : i + n ≤ l.length) (hcap : n ≤ cap') (hg : g' = .lit → cap' = n) (hgg : (g' != .arg) = true → (g != .arg) = true) (a' : Option Addr)
    (ha : n ≠ 0 → a' = a.map (·.add (i * k))) : V w (okOf c lo) c (.imm g' k ((l.drop i).take n)) (.slice a' n cap') := by
  have hlen : ((l.drop i).take n).length = n := by simp; omega
  cases h with
  | imm g k l a cap f hcap0 hlit haddr hk hc hv =>
    have hmem : ∀ v, v ∈ (l.drop i).take n → v ∈ l := fun v hv => List.mem_of_mem_drop (List.mem_of_mem_take hv)
    have key := V.imm (w := w) (ok := okOf c lo) (c := c) g' k ((l.drop i).take n) a' cap' (fun j => f (i * k + j)) (by rw [hlen]; exact hcap) (by rw [hlen]; exact hg) ?_
      (fun v hv => hk v (hmem v hv)) (fun v hv => hc v (hmem v hv)) ?_
    · rw [hlen] at key; exact key
    · intro hne
      have hn : n ≠ 0 := by rintro rfl; simp at hne
      have hl : l ≠ [] := by rintro rfl; simp at hin; omega
      obtain ⟨r, off, rfl, hr, hok, hcell⟩ := haddr hl
      refine ⟨r, off + i * k, by rw [ha hn]; simp [add_none], hr, ⟨hok.1, fun h => hok.2 (hgg h)⟩, fun j hj => ?_⟩
      rw [hlen] at hj
      have : (i + n) * k ≤ l.length * k := Nat.mul_le_mul_right k hin
      rw [Nat.add_mul] at this
      rw [Nat.add_assoc]
      exact hcell _ (by omega)
    · intro i' v j x hv' hx
      have hi' : i' < n := by
        rcases Nat.lt_or_ge i' n with h' | h'
        · exact h'
        · rw [List.getElem?_take, if_neg (by omega)] at hv'; cases hv'
      rw [List.getElem?_take, if_pos hi', List.getElem?_drop] at hv'
      have := hv (i + i') v j x hv' hx
      rwa [Nat.add_mul, Nat.add_assoc] at this

theorem SlOk_cut {b off len : Nat} {cap cap2 : Option Nat} {tot k l n cap' cap2' : Nat} {a a2 : Option Addr} (h : SlOk w c b off len cap tot k a cap') (hln : l + n ≤ len)
    (hc2 : n ≤ cap2') (hcc : l + cap2' ≤ cap') (hcap : ∀ m, cap2 = some m → cap2' = m) (ha : cap2' ≠ 0 → a2 = a.map (·.add (l * k))) : SlOk w c b (off + l) n cap2 tot k a2 cap2' := by
  obtain ⟨h1, h2, h3, blk, hb, h4⟩ := h
  refine ⟨hc2, hcap, fun hn => ?_, blk, hb, ?_⟩
  · have := h3 (by omega)
    rw [ha (by omega)]
    simpa using this
  match blk, h4 with
  | .arr k' els wr mx, h4 =>
    obtain ⟨h5, h6⟩ := h4
    refine ⟨h5, fun ht => ?_⟩
    obtain ⟨hk, h7⟩ := h6 ht
    refine ⟨hk, ?_⟩
    revert h7
    cases c.σ b with
    | none => rintro ⟨h8, h9⟩; exact ⟨by omega, by omega⟩
    | some r =>
      rintro ⟨h8, cs, T, fz, g1, g2⟩
      refine ⟨fun hpos => ?_, cs, T, fz, g1, ?_⟩
      · rw [ha (by omega), h8 (by omega)]
        simp [add_none, Nat.add_mul]
      · refine Nat.le_trans (Nat.mul_le_mul_right k ?_) g2
        omega
  | .dead, _ => trivial
  | .map _ _ _, h4 => exact h4
  | .iter _ _ _ _, h4 => exact h4

theorem sliceV_run {t : TypeId} {x v : HV} {lo' hi mx : Option HV} {rlo rhi rmx : Option Value} (hx : V w (okOf c lo) c x rv)
    (hlo : (lo' = none → rlo = none) ∧ ∀ v, lo' = some v → ∃ r, rlo = some r ∧ V w (okOf c lo) c v r)
    (hhi : (hi = none → rhi = none) ∧ ∀ v, hi = some v → ∃ r, rhi = some r ∧ V w (okOf c lo) c v r)
    (hmx : (mx = none → rmx = none) ∧ ∀ v, mx = some v → ∃ r, rmx = some r ∧ V w (okOf c lo) c v r)
    (hmh : mx.isSome = true → hi.isSome = true)
    (h : sliceV P t x lo' hi mx = some v) : ∃ r, (Instr.sliceAt t rv rlo rhi rmx).run P w = .ok r w ∧ V w (okOf c lo) c v r := by
  unfold sliceV at h
  split at h
  rotate_left
  · cases h
  rename_i l hh m el eh em
  have ol := OV_of hlo.1 hlo.2 el
  have oh := OV_of hhi.1 hhi.2 eh
  have om := OV_of hmx.1 hmx.2 em
  have hmh' : m.isSome = true → hh.isSome = true := by
    intro hm
    cases m with
    | none => cases hm
    | some m =>
      cases hi with
      | none =>
        cases mx with
        | none => simp [boundV] at em
        | some x => simp at hmh
      | some y =>
        unfold boundV at eh
        split at eh
        · rename_i heq; cases heq
        · split at eh
          · cases eh; rfl
          · cases eh
        · cases eh
  simp only at h
  split at h
  · rename_i e hu
    split at h
    · rename_i g k es
      split at h
      rotate_left
      · cases h
      rename_i hk
      cases hx with
      | imm g k es a cap f hcap hlit haddr hku hcu hvu =>
        have hV : V w (okOf c lo) c (.imm g k es) (.slice a es.length cap) := .imm g k es a cap f hcap hlit haddr hku hcu hvu
        obtain ⟨s, hs, hsk⟩ : ∃ s, tySize P e = some s ∧ (es ≠ [] → s = k) := by
          rcases hk with hk | ⟨hk, hk'⟩
          · exact ⟨k, hk, fun _ => rfl⟩
          · obtain ⟨s, hs⟩ := Option.isSome_iff_exists.1 hk'
            exact ⟨s, hs, fun h => absurd hk h⟩
        split at h
        · rename_i m'
          split at h
          · rename_i hq
            obtain ⟨q1, q2, q3⟩ := hq
            cases h
            refine ⟨_, slice_run hu hs ol oh om ?_ ?_ ?_ hmh', ?_⟩
            · simp; omega
            · simp; omega
            · omega
            · have e1 : hh.getD es.length - l.getD 0 = 0 := by omega
              have e2 : m' - l.getD 0 = 0 := by omega
              simp only [Option.getD_some, e1, e2]
              exact V_imm_nil k _
          · split at h
            · rename_i hq
              obtain ⟨q1, q2, q3⟩ := hq
              cases h
              refine ⟨_, slice_run hu hs ol oh om ?_ ?_ ?_ hmh', ?_⟩
              · simp; omega
              · simp; omega
              · omega
              · simp only [Option.getD_some]
                refine V_imm_cut hV (by omega) (by omega) ?_ ?_ _ ?_
                · intro _; omega
                · cases g <;> simp
                · intro hn
                  have hne : es ≠ [] := List.ne_nil_of_length_pos (by omega)
                  rw [hsk hne, if_neg (by omega)]
            · cases h
        · split at h
          · rename_i hq
            obtain ⟨q1, q2⟩ := hq
            cases h
            refine ⟨_, slice_run hu hs ol oh om ?_ ?_ ?_ hmh', ?_⟩
            · simp
            · simp; omega
            · omega
            · simp only [Option.getD_none]
              refine V_imm_cut hV (by omega) (by omega) ?_ ?_ _ ?_
              · intro hg
                cases g with
                | lit =>
                  have := hlit rfl
                  simp only at hg
                  split at hg
                  · omega
                  · cases hg
                | arg => cases hg
                | own => cases hg
              · cases g <;> simp
              · intro hn
                have hne : es ≠ [] := List.ne_nil_of_length_pos (by omega)
                rw [hsk hne, if_neg (by omega)]
          · cases h
    · rename_i b off len cap tot k
      split at h
      rotate_left
      · cases h
      rename_i hs
      cases hx with
      | sl b off len cap tot k a cap' hsl =>
        have hle : len ≤ cap' := hsl.1
        split at h
        · rename_i m'
          split at h
          · rename_i hq
            obtain ⟨q1, q2, q3⟩ := hq
            cases h
            refine ⟨_, slice_run hu hs ol oh om ?_ ?_ ?_ hmh', ?_⟩
            · simp; omega
            · simp; omega
            · omega
            · have e1 : hh.getD len - l.getD 0 = 0 := by omega
              have e2 : m' - l.getD 0 = 0 := by omega
              simp only [Option.getD_some, e1, e2]
              exact V_imm_nil k _
          · split at h
            · rename_i hq
              obtain ⟨q1, q2, q3⟩ := hq
              cases h
              refine ⟨_, slice_run hu hs ol oh om ?_ ?_ ?_ hmh', ?_⟩
              · simp; omega
              · simp; omega
              · omega
              · simp only [Option.getD_some]
                refine .sl _ _ _ _ _ _ _ _ (SlOk_cut hsl (by omega) (by omega) (by omega) ?_ ?_)
                · intro n hn; cases hn; omega
                · intro hn; rw [if_neg (by omega)]
            · cases h
        · split at h
          · rename_i hq
            obtain ⟨q1, q2⟩ := hq
            cases h
            refine ⟨_, slice_run hu hs ol oh om ?_ ?_ ?_ hmh', ?_⟩
            · simp
            · simp; omega
            · omega
            · simp only [Option.getD_none]
              refine .sl _ _ _ _ _ _ _ _ (SlOk_cut hsl (by omega) (by omega) (by omega) ?_ ?_)
              · intro n hn
                cases hc : cap with
                | none => simp [hc] at hn
                | some q => simp [hc] at hn; have := hsl.2.1 q hc; omega
              · intro hn; rw [if_neg (by omega)]
          · cases h
    · cases h
  · rename_i n e hu
    split at h
    · rename_i b i off tot
      split at h
      rotate_left
      · cases h
      rename_i hq
      obtain ⟨hs, q1, q2, q3, q4⟩ := hq
      cases h
      cases om
      cases hx with
      | ptr b i off tot a hp =>
        refine ⟨_, sliceArr_run hu hs ol oh (by omega) (by omega), .aview _ _ _ _ _ _ ⟨by omega, ?_⟩⟩
        obtain ⟨blk, hb, hp⟩ := hp
        refine ⟨blk, hb, ?_⟩
        match blk, hp with
        | .arr k' els wr mx, hp =>
          obtain ⟨h1, h2⟩ := hp
          refine ⟨by omega, fun ht => ?_⟩
          obtain ⟨r, h3, rfl⟩ := h2 (by omega)
          refine ⟨r, h3, fun hn => ?_⟩
          rw [if_neg (by omega)]
          simp [add_none, Nat.add_assoc]
        | .dead, _ => trivial
        | .map _ _ _, hp => exact hp
        | .iter _ _ _ _, _ => trivial
    · cases h
  · cases h

theorem lenV_run {t : TypeId} {tys : Array TypeId} {ty : TypeId} {args : Array Value} {x v : HV} (hR : Rel lo c w) (hx : V w (okOf c lo) c x rv) (ht : tys[0]? = some t) (ha : args[0]? = some rv)
    (h : lenV P c.H t x = some v) : ∃ r, (Builtin.len_ tys ty args).run P w = .ok r w ∧ V w (okOf c lo) c v r := by
  unfold lenV at h
  split at h
  · rename_i n e hu
    cases h
    exact ⟨_, by simp [Builtin.len_, ht, ha, run_und hu, goInt], .int _ _⟩
  · rename_i e hu
    have key : ∀ (a : Option Addr) (n cap : Nat), rv = .slice a n cap → v = .int .i64 n → ∃ r, (Builtin.len_ tys ty args).run P w = .ok r w ∧ V w (okOf c lo) c v r := by
      rintro a n cap rfl rfl
      exact ⟨_, by simp [Builtin.len_, ht, ha, run_und hu, goInt], .int _ _⟩
    split at h
    · cases h; cases hx; exact key _ _ _ rfl rfl
    · cases h; cases hx; exact key _ _ _ rfl rfl
    · cases h; cases hx; exact key _ _ _ rfl rfl
    · cases h
  · rename_i kt et hu
    split at h
    · cases h; have := hx.nilmap_inv; subst this
      exact ⟨_, by simp [Builtin.len_, ht, ha, run_und hu, goInt], .int _ _⟩
    · cases h
      cases hx with
      | imap g ks vs r es clock hr hok hw hl hl' hkp hk hv =>
        obtain ⟨es0, hw, hp, _⟩ := hw
        have hsz : es.size = es0.size := by simpa using hp.length_eq.symm
        have hs : w.shape? r = none := by simp [World.shape?, hw]
        refine ⟨.int .i64 es.size, ?_, by rw [hl]; exact .int _ _⟩
        rw [hsz]
        simp [Builtin.len_, ht, ha, run_und hu, goInt, getObj, Sem.run, hw]
    · rename_i b
      split at h
      · rename_i ks vs mx hb
        cases h
        cases hx with
        | map b r ks' vs' mx' hH hs =>
          have hB := hR.blk b _ hb
          obtain ⟨_, _, r', hs', _, es, clock, ⟨es0, hw, hp, _⟩, hl, hl', _, _⟩ := hB
          have hsz : es.size = es0.size := by simpa using hp.length_eq.symm
          rw [hs] at hs'; cases hs'
          refine ⟨.int .i64 es.size, ?_, by rw [hl]; exact .int _ _⟩
          rw [hsz]
          simp [Builtin.len_, ht, ha, run_und hu, goInt, getObj, Sem.run, hw]
      · cases h
    · cases h
  · cases h

theorem foldMM_run {mx : Bool} {l : List HV} : ∀ {x v : HV} {rx : Value} {rl : List Value}, V w (okOf c lo) c x rx → l.length = rl.length →
    (∀ (i : Nat) (y : HV) (r : Value), l[i]? = some y → rl[i]? = some r → V w (okOf c lo) c y r) → foldMM mx x l = some v →
    ∃ r, (rl.foldlM (if mx then Builtin.max2 else Builtin.min2) rx : Sem Value).run P w = .ok r w ∧ V w (okOf c lo) c v r := by
  induction l with
  | nil =>
    intro x v rx rl hx hl _ h
    simp only [foldMM, Option.some.injEq] at h
    subst h
    cases rl with
    | nil => exact ⟨rx, rfl, hx⟩
    | cons _ _ => simp at hl
  | cons y l ih =>
    intro x v rx rl hx hl hh h
    cases rl with
    | nil => simp at hl
    | cons ry rl =>
      unfold foldMM at h
      split at h
      · rename_i heq; cases heq
      · rename_i k a k' b l' heq
        cases heq
        split at h
        · rename_i hk
          subst hk
          have hx' := hx.int_inv; subst hx'
          have hy' := (hh 0 _ ry rfl rfl).int_inv; subst hy'
          have hstep : ∃ q, ((if mx then Builtin.max2 else Builtin.min2) (.int k a) (.int k b) : Sem Value).run P w = .ok q w ∧ V w (okOf c lo) c (.int k (if mx then max a b else min a b)) q := by
            cases mx
            · refine ⟨.int k (if b < a then b else a), rfl, ?_⟩
              have : (if false = true then max a b else min a b) = if b < a then b else a := by simp; omega
              rw [this]; exact .int _ _
            · refine ⟨.int k (if b > a then b else a), rfl, ?_⟩
              have : (if true = true then max a b else min a b) = if b > a then b else a := by simp; omega
              rw [this]; exact .int _ _
          obtain ⟨q, hq, hvq⟩ := hstep
          obtain ⟨r, hr, hvr⟩ := ih hvq (by simpa using hl) (fun i y r h1 h2 => hh (i + 1) y r h1 h2) h
          refine ⟨r, ?_, hvr⟩
          simp only [List.foldlM_cons, Sem.run_bind, hq, Result.andThen_ok]
          exact hr
        · cases h
      · cases h

end
end Go.HL


/- What stays when one block of the ghost's is made or changed. -/
namespace Go.HL

structure WChg (w w' : World) (r0 : Option Nat) : Prop where
  os : w'.os = w.os
  tape : w'.tape = w.tape
  output : w'.output = w.output
  size : w.heap.size ≤ w'.heap.size
  keep : ∀ r : Nat, r < w.heap.size → some r ≠ r0 → w'.heap[r]? = w.heap[r]?
  csize : ∀ (r : Nat) (cs : Array Value) (T : TypeId) (fz : Nat × Nat), w.heap[r]? = some (Obj.cells cs T fz) → ∃ cs' T' fz', w'.heap[r]? = some (Obj.cells cs' T' fz') ∧ cs'.size = cs.size

theorem WChg.refl (w : World) (r0 : Option Nat) : WChg w w r0 := ⟨rfl, rfl, rfl, Nat.le_refl _, fun _ _ _ => rfl, fun _ cs T fz h => ⟨cs, T, fz, h, rfl⟩⟩

theorem lt_of_heap {w : World} {r : Nat} {o : Obj} (h : w.heap[r]? = some o) : r < w.heap.size := by
  rcases Nat.lt_or_ge r w.heap.size with h' | h'
  · exact h'
  · rw [Array.getElem?_eq_none h'] at h; cases h

theorem heap_alloc_lt (w : World) (o : Obj) {r : Nat} (h : r < w.heap.size) : (w.alloc o).heap[r]? = w.heap[r]? := by
  show (w.heap.push o)[r]? = _
  rw [Array.getElem?_push, if_neg (by omega)]

theorem heap_alloc_self (w : World) (o : Obj) : (w.alloc o).heap[w.heap.size]? = some o := by
  show (w.heap.push o)[w.heap.size]? = _
  rw [Array.getElem?_push, if_pos rfl]

theorem WChg.alloc (w : World) (o : Obj) (r0 : Option Nat) : WChg w (w.alloc o) r0 :=
  ⟨rfl, rfl, rfl, by simp, fun r hr _ => heap_alloc_lt w o hr, fun r cs T fz h => ⟨cs, T, fz, (heap_alloc_lt w o (lt_of_heap h)).trans h, rfl⟩⟩

theorem WChg.drew_alloc (w : World) (o : Obj) (r0 : Option Nat) : WChg w (w.drew.alloc o) r0 :=
  ⟨rfl, rfl, rfl, by simp, fun r hr _ => heap_alloc_lt w.drew o hr, fun r cs T fz h => ⟨cs, T, fz, (heap_alloc_lt w.drew o (lt_of_heap h)).trans h, rfl⟩⟩

theorem WChg.trans {w w' w'' : World} {r0 : Option Nat} (h : WChg w w' r0) (g : WChg w' w'' r0) : WChg w w'' r0 := by
  refine ⟨g.os.trans h.os, g.tape.trans h.tape, g.output.trans h.output, Nat.le_trans h.size g.size, fun r hr hn => (g.keep r (Nat.lt_of_lt_of_le hr h.size) hn).trans (h.keep r hr hn), ?_⟩
  intro r cs T fz hr
  obtain ⟨c1, T1, z1, h1, s1⟩ := h.csize r cs T fz hr
  obtain ⟨c2, T2, z2, h2, s2⟩ := g.csize r c1 T1 z1 h1
  exact ⟨c2, T2, z2, h2, s2.trans s1⟩

theorem heap_setRow_ne (w : World) (g : Nat) (row : Array Value) {r : Nat} (h : r ≠ g) : (w.setRow g row).heap[r]? = w.heap[r]? := by
  simp only [World.setRow, Array.getElem?_modify]
  rw [if_neg (by omega)]

theorem WChg.setRow {w : World} {g : Nat} {cur row : Array Value} {T : TypeId} {fz : Nat × Nat} (h : w.heap[g]? = some (Obj.cells cur T fz)) (hs : row.size = cur.size) : WChg w (w.setRow g row) (some g) := by
  have hg := setRow_heap w g cur row T fz h
  refine ⟨rfl, rfl, rfl, by simp [World.setRow], fun r _ hn => heap_setRow_ne w g row (by rintro rfl; exact hn rfl), fun r cs T' fz' hr => ?_⟩
  by_cases hrg : r = g
  · subst hrg
    rw [h] at hr; cases hr
    exact ⟨row, T, fz, hg, hs⟩
  · exact ⟨cs, T', fz', by rw [heap_setRow_ne w g row hrg]; exact hr, rfl⟩

theorem BlkOk.evo {lo : Nat} {c c' : Ctx} {w w' : World} {b : Nat} {x : Blk} (h : Evo lo c w c' w') (hs : c'.σ b = c.σ b) (hh : ∀ r, c.σ b = some r → w'.heap[r]? = w.heap[r]?)
    (hx : BlkOk w c lo b x) : BlkOk w' c' lo b x := by
  cases x with
  | dead => trivial
  | iter m s sn c0 =>
    obtain ⟨r, h2, h3, h4⟩ := hx
    exact ⟨r, hs.trans h2, h3, (hh r h2).trans h4⟩
  | arr k els wr mx =>
    obtain ⟨h1, h2⟩ := hx
    refine ⟨h1, ?_⟩
    rw [hs]
    revert h2
    cases hb : c.σ b with
    | none => exact id
    | some r =>
      rintro ⟨h3, cs, T, h4, h5, h6⟩
      refine ⟨h3, cs, T, (hh r hb).trans h4, h5, fun i v j y hv hy => ?_⟩
      obtain ⟨z, hz, hV⟩ := h6 i v j y hv hy
      exact ⟨z, hz, h.val hV⟩
  | map ks vs mx =>
    obtain ⟨h1, h1', r, h2, h3, es, clock, h4, h5, h6, h7, h8⟩ := hx
    exact ⟨h1, h1', r, hs.trans h2, h3, es, clock, h4.same (hh r h2), h5, h6,
      fun i v m hv hm => (h7 i v m hv hm).evo h.W (.refl _), fun i v m hv hm => h.val (h8 i v m hv hm)⟩

theorem world_ok {lo : Nat} {c : Ctx} {w w' : World} (hR : Rel lo c w) (g : WChg w w' none) : Rel lo c w' ∧ Evo lo c w c w' := by
  have hE : Evo lo c w c w' := Evo.of g.os g.tape g.output g.size (fun r hr hm => ⟨hm, g.keep r hr (by simp)⟩) g.csize (.refl _)
  exact ⟨⟨fun b x hb => (hR.blk b x hb).evo hE rfl (fun r hr => g.keep r (hR.dom b r hr).2 (by simp)), hR.inj, fun b r h => ⟨(hR.dom b r h).1, Nat.lt_of_lt_of_le (hR.dom b r h).2 g.size⟩, Nat.le_trans hR.low g.size⟩, hE⟩

def Ctx.push (c : Ctx) (x : Blk) (s : Option Nat) : Ctx := ⟨c.H ++ [x], fun b => if b = c.H.length then s else c.σ b⟩

theorem push_lt {c : Ctx} {x : Blk} {s : Option Nat} {b : Nat} (h : b < c.H.length) : (c.push x s).H[b]? = c.H[b]? ∧ (c.push x s).σ b = c.σ b := by
  constructor
  · exact List.getElem?_append_left h
  · simp [Ctx.push]; omega

theorem push_new {c : Ctx} {x : Blk} {s : Option Nat} : (c.push x s).H[c.H.length]? = some x ∧ (c.push x s).σ c.H.length = s := by
  constructor
  · simp [Ctx.push]
  · simp [Ctx.push]

theorem lt_of_H {c : Ctx} {b : Nat} {x : Blk} (h : c.H[b]? = some x) : b < c.H.length := by
  rcases Nat.lt_or_ge b c.H.length with h' | h'
  · exact h'
  · rw [List.getElem?_eq_none h'] at h; cases h

def Blk.wr : Blk → Bool
  | .arr _ _ wr _ => wr
  | .map _ _ _ => true
  | .iter _ _ _ _ => true
  | .dead => false

theorem M_iff {c : Ctx} {r : Nat} : c.M r ↔ ∃ b x, c.H[b]? = some x ∧ x.wr = true ∧ c.σ b = some r := by
  constructor
  · rintro (⟨b, k, els, mx, h1, h2⟩ | ⟨b, ks, vs, mx, h1, h2⟩ | ⟨b, m, s, sn, c0, h1, h2⟩)
    · exact ⟨b, _, h1, rfl, h2⟩
    · exact ⟨b, _, h1, rfl, h2⟩
    · exact ⟨b, _, h1, rfl, h2⟩
  · rintro ⟨b, x, h1, h2, h3⟩
    cases x with
    | arr k els wr mx => simp [Blk.wr] at h2; subst h2; exact .inl ⟨b, k, els, mx, h1, h3⟩
    | map ks vs mx => exact .inr (.inl ⟨b, ks, vs, mx, h1, h3⟩)
    | iter m s sn c0 => exact .inr (.inr ⟨b, m, s, sn, c0, h1, h3⟩)
    | dead => cases h2

theorem M_push {c : Ctx} {x : Blk} {s : Option Nat} {r : Nat} (h : (c.push x s).M r) : c.M r ∨ s = some r := by
  obtain ⟨b, y, h1, h2, h3⟩ := M_iff.1 h
  by_cases hb : b = c.H.length
  · subst hb; rw [push_new.2] at h3; exact .inr h3
  · have hlt : b < c.H.length := by have := lt_of_H h1; simp [Ctx.push] at this; omega
    rw [(push_lt hlt).1] at h1; rw [(push_lt hlt).2] at h3
    exact .inl (M_iff.2 ⟨b, y, h1, h2, h3⟩)

theorem push_ok {lo : Nat} {c : Ctx} {w w' : World} {x : Blk} {s : Option Nat} (hR : Rel lo c w) (g : WChg w w' none) (hs : ∀ r, s = some r → w.heap.size ≤ r ∧ r < w'.heap.size)
    (hx : Evo lo c w (c.push x s) w' → BlkOk w' (c.push x s) lo c.H.length x) : Rel lo (c.push x s) w' ∧ Evo lo c w (c.push x s) w' := by
  have hE : Evo lo c w (c.push x s) w' := by
    refine Evo.of g.os g.tape g.output g.size (fun r hr hm => ⟨fun hm' => ?_, g.keep r hr (by simp)⟩) g.csize ⟨by simp [Ctx.push], ?_, ?_, ?_, ?_⟩
    · rcases M_push hm' with h | h
      · exact hm h
      · have := (hs r h).1; omega
    · intro b k els wr mx hb
      have hlt := lt_of_H hb
      exact .inl ⟨k, els, wr, mx, (push_lt hlt).1.trans hb, Nat.le_refl _, fun _ => ⟨rfl, (push_lt hlt).2⟩⟩
    · intro b ks vs mx hb
      have hlt := lt_of_H hb
      exact ⟨⟨ks, vs, mx, (push_lt hlt).1.trans hb⟩, (push_lt hlt).2⟩
    · intro b hb
      exact (push_lt (lt_of_H hb)).1.trans hb
    · intro b m s0 sn c0 hb
      have hlt := lt_of_H hb
      exact ⟨⟨m, s0, sn, c0, (push_lt hlt).1.trans hb⟩, (push_lt hlt).2⟩
  refine ⟨⟨?_, ?_, ?_, Nat.le_trans hR.low g.size⟩, hE⟩
  · intro b y hb
    by_cases hbl : b = c.H.length
    · subst hbl
      rw [push_new.1] at hb; cases hb
      exact hx hE
    · have hlt : b < c.H.length := by have := lt_of_H hb; simp [Ctx.push] at this; omega
      rw [(push_lt hlt).1] at hb
      exact (hR.blk b y hb).evo hE (push_lt hlt).2 (fun r hr => g.keep r (hR.dom b r hr).2 (by simp))
  · intro b b' r h1 h2
    by_cases hb : b = c.H.length <;> by_cases hb' : b' = c.H.length
    · omega
    · subst hb; rw [push_new.2] at h1
      simp only [Ctx.push, if_neg hb'] at h2
      have := (hs r h1).1; have := (hR.dom b' r h2).2; omega
    · subst hb'; rw [push_new.2] at h2
      simp only [Ctx.push, if_neg hb] at h1
      have := (hs r h2).1; have := (hR.dom b r h1).2; omega
    · simp only [Ctx.push, if_neg hb, if_neg hb'] at h1 h2
      exact hR.inj b b' r h1 h2
  · intro b r h1
    by_cases hb : b = c.H.length
    · subst hb; rw [push_new.2] at h1
      exact ⟨by simp [Ctx.push], (hs r h1).2⟩
    · simp only [Ctx.push, if_neg hb] at h1
      have := hR.dom b r h1
      exact ⟨by simp [Ctx.push]; omega, Nat.lt_of_lt_of_le this.2 g.size⟩

def Ctx.upd (c : Ctx) (b : Nat) (x : Blk) (s : Option Nat) : Ctx := ⟨c.H.set b x, fun q => if q = b then s else c.σ q⟩

theorem upd_ne {c : Ctx} {x : Blk} {s : Option Nat} {b q : Nat} (h : q ≠ b) : (c.upd b x s).H[q]? = c.H[q]? ∧ (c.upd b x s).σ q = c.σ q := by
  constructor
  · simp only [Ctx.upd]; rw [List.getElem?_set_ne (by omega)]
  · simp [Ctx.upd, h]

theorem upd_self {c : Ctx} {x : Blk} {s : Option Nat} {b : Nat} (h : b < c.H.length) : (c.upd b x s).H[b]? = some x ∧ (c.upd b x s).σ b = s := by
  constructor
  · simp only [Ctx.upd]; rw [List.getElem?_set_self h]
  · simp [Ctx.upd]

def Turn (x x' : Blk) (same : Prop) : Prop :=
  match x, x' with
  | .arr k els _ _, .arr k' els' _ _ => els.length ≤ els'.length ∧ (els'.length = els.length → k' = k ∧ same)
  | .map _ _ _, .map _ _ _ => same
  | .iter _ _ _ _, .iter _ _ _ _ => same
  | _, _ => False

theorem upd_ok {lo : Nat} {c : Ctx} {w w' : World} {b : Nat} {x x' : Blk} {s r0 : Option Nat} (hR : Rel lo c w) (hb : c.H[b]? = some x) (g : WChg w w' r0)
    (hr0 : ∀ r, r0 = some r → c.σ b = some r ∧ x.wr = true) (hwr : x'.wr = true → x.wr = true)
    (hs : s = c.σ b ∨ ∀ r, s = some r → w.heap.size ≤ r ∧ r < w'.heap.size) (ht : Turn x x' (s = c.σ b))
    (hx : Evo lo c w (c.upd b x' s) w' → BlkOk w' (c.upd b x' s) lo b x') : Rel lo (c.upd b x' s) w' ∧ Evo lo c w (c.upd b x' s) w' := by
  have hbl := lt_of_H hb
  have hMr0 : ∀ r, r0 = some r → c.M r := fun r hr => M_iff.2 ⟨b, x, hb, (hr0 r hr).2, (hr0 r hr).1⟩
  have hE : Evo lo c w (c.upd b x' s) w' := by
    refine Evo.of g.os g.tape g.output g.size (fun r hr hm => ⟨fun hm' => hm ?_, g.keep r hr (fun e => hm (hMr0 r e.symm))⟩) g.csize ⟨by simp [Ctx.upd], ?_, ?_, ?_, ?_⟩
    · obtain ⟨q, y, h1, h2, h3⟩ := M_iff.1 hm'
      by_cases hq : q = b
      · subst hq
        rw [(upd_self hbl).1] at h1; cases h1
        rw [(upd_self hbl).2] at h3
        rcases hs with e | e
        · exact M_iff.2 ⟨q, x, hb, hwr h2, by rw [← e]; exact h3⟩
        · have := (e r h3).1; omega
      · rw [(upd_ne hq).1] at h1; rw [(upd_ne hq).2] at h3
        exact M_iff.2 ⟨q, y, h1, h2, h3⟩
    · intro q k els wr mx hq
      by_cases hqb : q = b
      · subst hqb
        rw [hb] at hq; cases hq
        refine .inl ?_
        rw [(upd_self hbl).1, (upd_self hbl).2]
        cases x' with
        | arr k' els' wr' mx' => exact ⟨k', els', wr', mx', rfl, ht.1, ht.2⟩
        | map _ _ _ => exact ht.elim
        | dead => exact ht.elim
        | iter _ _ _ _ => exact ht.elim
      · exact .inl ⟨k, els, wr, mx, (upd_ne hqb).1.trans hq, Nat.le_refl _, fun _ => ⟨rfl, (upd_ne hqb).2⟩⟩
    · intro q ks vs mx hq
      by_cases hqb : q = b
      · subst hqb
        rw [hb] at hq; cases hq
        rw [(upd_self hbl).1, (upd_self hbl).2]
        cases x' with
        | arr _ _ _ _ => exact ht.elim
        | map ks' vs' mx' => exact ⟨⟨ks', vs', mx', rfl⟩, ht⟩
        | dead => exact ht.elim
        | iter _ _ _ _ => exact ht.elim
      · exact ⟨⟨ks, vs, mx, (upd_ne hqb).1.trans hq⟩, (upd_ne hqb).2⟩
    · intro q hq
      by_cases hqb : q = b
      · subst hqb
        rw [hb] at hq; cases hq
        cases x' <;> exact ht.elim
      · exact (upd_ne hqb).1.trans hq
    · intro q m s0 sn c0 hq
      by_cases hqb : q = b
      · subst hqb
        rw [hb] at hq; cases hq
        rw [(upd_self hbl).1, (upd_self hbl).2]
        cases x' with
        | iter m' s' sn' c0' => exact ⟨⟨m', s', sn', c0', rfl⟩, ht⟩
        | _ => exact ht.elim
      · exact ⟨⟨m, s0, sn, c0, (upd_ne hqb).1.trans hq⟩, (upd_ne hqb).2⟩
  refine ⟨⟨?_, ?_, ?_, Nat.le_trans hR.low g.size⟩, hE⟩
  · intro q y hq
    by_cases hqb : q = b
    · subst hqb
      rw [(upd_self hbl).1] at hq; cases hq
      exact hx hE
    · rw [(upd_ne hqb).1] at hq
      refine (hR.blk q y hq).evo hE (upd_ne hqb).2 (fun r hr => g.keep r (hR.dom q r hr).2 (fun e => ?_))
      exact hqb (hR.inj q b r hr (hr0 r e.symm).1)
  · intro q q' r h1 h2
    have fresh : ∀ p, p ≠ b → c.σ p = some r → s = some r → p = b := by
      intro p hp hpr hsr
      rcases hs with e | e
      · exact hR.inj p b r hpr (by rw [← e]; exact hsr)
      · have := (e r hsr).1; have := (hR.dom p r hpr).2; omega
    by_cases hq : q = b <;> by_cases hq' : q' = b
    · omega
    · subst hq; rw [(upd_self hbl).2] at h1; rw [(upd_ne hq').2] at h2
      exact (fresh q' hq' h2 h1).symm
    · subst hq'; rw [(upd_self hbl).2] at h2; rw [(upd_ne hq).2] at h1
      exact fresh q hq h1 h2
    · rw [(upd_ne hq).2] at h1; rw [(upd_ne hq').2] at h2
      exact hR.inj q q' r h1 h2
  · intro q r h1
    simp only [Ctx.upd, List.length_set]
    by_cases hq : q = b
    · subst hq; rw [(upd_self hbl).2] at h1
      rcases hs with e | e
      · have := hR.dom q r (by rw [← e]; exact h1)
        exact ⟨this.1, Nat.lt_of_lt_of_le this.2 g.size⟩
      · exact ⟨hbl, (e r h1).2⟩
    · rw [(upd_ne hq).2] at h1
      have := hR.dom q r h1
      exact ⟨this.1, Nat.lt_of_lt_of_le this.2 g.size⟩

end Go.HL


